/-
  Texts of one proof, one behind the other.
-/
import Derived.Test.YtccmboenpbjhnaaGreatDoorD1
import Derived.Orders
set_option linter.all false
section
namespace Go.Am
open Go
def gW(S:St):List Operand->Bool
 |[]=>true
 |x::r=>(S.aq x).1&&gW S r
theorem tA{S:St}:∀{l:List Operand},gW S l=true->∀x∈l,(S.aq x).1=true
 |[],_,x,J=>by simp at J
 |y::r,h,x,J=>by
  simp only[gW,Ds]at h;rcases aan.1 J with rfl|J
  ·exact h.1
  ·exact tA h.2 x J
def fM(S:St)(o:Oper):Bool:=
 match o.op with
 | .pick _ _ _=>true
 |op=>gW S op.operands.toList
def ru(P:Program)(m:Mem)(AB:Nat)(t:TypeId)(x:AV):cP:=
 match x with
 | .lit (.slice none 0 0)=>match Mem.get m AB with
  |some ⟨_,v,_⟩=>match tk P t with
   | .slice e=>match eM P e with
    |some sz=>.cG true (.vec AB (v+1) 0 0) ⟨AB,v+1,.vec sz []⟩
    |none=>.val true x
   |_=>.val true x
  |none=>.val true x
 |x=>.val true x
theorem Hh(P:Program)(S:St)(o:Oper)(x:Operand)(A:o.op=.move x\/o.op=.assign x)(J:(S.aq x).1=true):aD P S o (ru P S.mem (keyOf o) o.type (S.aq x).2):=by
 have plain:aD P S o (.val true (S.aq x).2):=by
  have:=aaP P S o x A J;simpa using this
 unfold ru;split
 ·rename_i A5;split
  ·rename_i key v cont A0;split
   ·split
    ·rename_i sz A6;intro _ φ G a w H;obtain⟨hm,T,L,A2,A3,Ad⟩:=H.mem.get A0;simp only at T A3;subst T;have A7:=H.aq x J;rw[A5]at A7;generalize B0:a.eval x=u at A7;cases A7;obtain⟨φ',AO,AP,AY,AJ⟩:=H.mem.cG (e':=⟨keyOf o,v+1,.vec sz []⟩) hm A2 rfl (L':=⟨v+1,0,sz,0,0,[]⟩) (by simp only;omega) (λhh=>by simp only at hh;omega) rfl
      (w':=w) (λ_ _ _=>rfl) (aai _) (λ_ A=>absurd A.1 (by simp)) rfl rfl rfl (λφ' B1 BX=>
       ⟨rfl,by simp,by simp,λN=>by simp at N⟩)
     refine⟨.slice none 0 0,w,φ',.inl ?_,?_,AO,AP,AJ⟩
     ·rcases A with A|A<;>simp[execOp,A,B0]
     ·exact .vec _ (v+1) 0 _ _ _ AY (aai _) (λ_=>⟨_,_,rfl,by simp,λh=>by omega⟩) rfl
    ·exact plain
   ·exact plain
  ·exact plain
 ·exact plain
def yp:Value->Bool
 | .slice none 0 0=>true
 | .pointer none=>true
 | .nilIface=>true
 |_=>false
def qf(P:Program)(S:St)(op:BinOp)(t:TypeId)(x y:Operand):cP:=
 match y with
 | .const v=>match yp v,op with
  |true,.eql=>iX P S.mem false t (S.aq x).2 v
  |true,.neq=>iX P S.mem true t (S.aq x).2 v
  |_,_=>o8 P op t (S.aq x).2 (S.aq (.const v)).2
 |y=>o8 P op t (S.aq x).2 (S.aq y).2
theorem RL(P:Program)(S:St)(o:Oper)(B2:BinOp)(t AQ:TypeId)(x y:Operand)(A:o.op=.binOp B2 t x y AQ)(J:(S.aq x).1=true)(AC:(S.aq y).1=true):aD P S o (qf P S B2 t x y):=by
 unfold qf;split
 ·split
  ·exact KE P S o false t AQ x _ (by simpa using A) J
  ·exact KE P S o true t AQ x _ (by simpa using A) J
  ·exact KD P S o _ t AQ x _ A J AC
 ·exact KD P S o B2 t AQ x y A J AC
theorem Hi{w:World}{F F':Nat->Prop}{sz:Nat}{AD:List D}{cs:List Value}{b off cap:Nat}(H:bY w F sz AD cs)(N:∀(j:Nat) v,cs[j]?=some v->w.cell? ⟨b,off+j,none⟩=some v)
 (A8:b<w.heap.size) (Ae:∀b,F' b->F b) (B3:¬F' b) (BK:AD.length<=cap):aJ w F' (.list AD) (.slice (some ⟨b,off,none⟩) AD.length cap):=by
 obtain⟨E,M,A',AK⟩:=H;refine .list AD b off cap sz (λi=>if h:i<AD.length then Classical.choose (AK i AD[i] (by simp[h]))else undef) BK A8 B3 A' (λi d U=>?_) (λi j c hi Z=>?_)
 ·have hi:=(aaf.1 U).1;have:=Classical.choose_spec (AK i AD[i] (by simp[hi]));simp only[hi,dif_pos];have e:AD[i]=d:=(aaf.1 U).2;rw[<-e];exact this.1.mono (λ_ _ _=>rfl) (aai _) (λb _=>Ae b)
 ·have:=Classical.choose_spec (AK i AD[i] (by simp[hi]));simp only[hi,dif_pos]at Z;have AR:=N _ _ (this.2 j c Z);rw[<-aci]at AR;exact AR
theorem Bt{φ w F F'}{k ak off len sz:Nat}{ag:List D}{L:Loc}{v:Value}(A7:az φ w F (.vec k ak off len) v)(A2:φ k=some L)(A3:L.ak=ak)(N:dD φ w F L (.vec sz ag))(hle:off+len<=ag.length)
 (Ae:∀b,F' b->F b) (B3:0<L.cap->¬F' L.cU):aJ w F' (.list ((ag.drop off).take len)) v:=by
 have BL:((ag.drop off).take len).length=len:=by simp;omega
 cases A7 with
 |vec _ _ _ _ _ L' Af _ h _=>
  rw[A2]at Af;cases Af;obtain⟨ao,cap,rfl,BM,Ag⟩:=h A3.symm;clear h;by_cases BY:len=0
  ·subst BY;simp only[List.take_zero];exact .nil _ _ (λV=>by
    subst V;rcases akx cap with q|q
    ·exact q
    ·obtain⟨E,_⟩:=Ag q;cases E)
  ·obtain⟨rfl,C6⟩:=Ag (by omega);obtain⟨arr,elem,hh,BN,BO,H⟩:=mL N (by omega);have B4:=(H.drop off).take len (by simp;omega);have:=Hi (F':=F') (b:=L.cU) (off:=L.base+off*L.sz) (cap:=cap) B4 (λj u Z=>by
    rw[fT hh,N.1];rw[aaz]at Z;split at Z
    ·rw[acq,aaz]at Z;split at Z
     ·rw[acq]at Z;rw[aci];simpa using Z
     ·cases Z
    ·cases Z) hh.lt Ae (B3 (by omega)) (by omega)
   rw[BL]at this;exact this
theorem Mem.set_set{e e':cg}(T:e'.key=e.key):∀m:Mem,Mem.set (Mem.set m e) e'=Mem.set m e'
 |[]=>rfl
 |x::r=>by
  simp only[Mem.set];by_cases h:x.key=e.key
  ·rw[aap h,aap (by rw[T];exact h)];simp only[Mem.set];rw[aap T.symm]
  ·rw[aah h,aah (by rw[T];exact h)];simp only[Mem.set];rw[aah (by rw[T];exact h),Mem.set_set T r]
theorem ack{φ:bG}{G m w}(h:a8 φ G m w){k v sz n:Nat}{ag:List D}(A0:Mem.get m k=some ⟨k,v,.vec sz ag⟩){x:Value}(J:az φ w (Fo G φ m) (.vec k v 0 n) x)(V:n<=ag.length):
 ∃φ',a8 φ' G (Mem.set m ⟨k,v+1,.dead⟩) w/\aP φ m w φ' (Mem.set m ⟨k,v+1,.dead⟩) w/\(∀j,j≠k->φ' j=φ j)/\aJ w (Fo G φ' (Mem.set m ⟨k,v+1,.dead⟩)) (.list (ag.take n)) x:=by
 obtain⟨hm,_,L,A2,A3,Ad⟩:=h.get A0;obtain⟨φ',AO,AP,AY,AJ⟩:=h.cG (e:=⟨k,v,.vec sz ag⟩) (e':=⟨k,v+1,.dead⟩) hm A2 rfl (L':={L with ak:=v+1}) (by simp only at A3⊢;omega) (λhh=>by simp only at A3 hh;omega) rfl
  (w':=w) (λ_ _ _=>rfl) (aai _) (λ_ A=>A.elim) rfl rfl rfl (λ_ _ _=>trivial)
 refine⟨φ',AO,AP,AJ,?_⟩;have BP:∀b,gS φ' (Mem.set m ⟨k,v+1,.dead⟩) b->gS φ m b/\∀(_:0<L.cap),b≠L.cU:=by
  rintro b ⟨y,AC,An,AE,AZ⟩;rcases (Mem.mem_set h.nodup).1 AC with ⟨rfl,_⟩|⟨Ao,AF⟩
  ·exact AZ.elim
  ·simp only at AF;rw[AJ _ AF]at AE;refine⟨⟨y,Ao,An,AE,AZ⟩,λN heq=>AF (h.apart y Ao _ hm An L AE A2 ⟨b,AZ,N,heq.symm⟩)⟩
 have:=Bt J A2 A3 Ad (by omega) (F':=Fo G φ' (Mem.set m ⟨k,v+1,.dead⟩)) (λb=>Or.imp id (λA8=>(BP b A8).1)) (λN=>by
  rintro (B5|A)
  ·exact h.jP _ ⟨_,hm,L,A2,N,rfl⟩ B5
  ·exact (BP _ A).2 N rfl)
 simpa using this
def tB(m:Mem)(b:Bool)(AB:Nat):cP->cP
 | .cG c (.vec k v 0 n) ⟨AG,A_,.vec sz ag⟩=>if b=true/\k≠AB/\AG=k/\A_=v/\n<=ag.length/\(Mem.get m k).isSome=true then .cG c (.d (.list (ag.take n))) ⟨k,v+1,.dead⟩else .cG c (.vec k v 0 n) ⟨AG,A_,.vec sz ag⟩
 |r=>r
theorem Vu{P:Program}{S:St}{o:Oper}{b:Bool}{AB:Nat}{r:cP}(h:aD P S o r):aD P S o (tB S.mem b AB r):=by
 unfold tB;split
 ·rename_i c k v n AG A_ sz ag;split
  ·rename_i hh;obtain⟨_,_,rfl,rfl,V,A6⟩:=hh;intro N φ G a w H;obtain⟨x,w',φ',E,M,A',AK,AR⟩:=h N φ G a w H;have B6:AG∈S.mem.map (·.key):=by
    cases A0:Mem.get S.mem AG with
    |none=>rw[A0]at A6;cases A6
    |some e=>
     obtain⟨B7,BZ⟩:=Mem.get_mem A0;rw[<-BZ];exact abY B7
   obtain⟨B8,q1,q2,q3,B9⟩:=ack A' (Mem.nN (x:=⟨AG,A_,.vec sz ag⟩) B6) M V;rw[Mem.set_set (e:=⟨AG,A_,.vec sz ag⟩) (e':=⟨AG,A_+1,.dead⟩) rfl]at q1 q2 B9;exact⟨x,w',B8,E,.d _ _ B9,q1,AK.trans q2,λj Z=>by rw[q3 j Z];exact AR j Z⟩
  ·exact h
 ·exact h
def OG(P:Program)(t:TypeId):AV->cP
 | .lit (.slice none 0 0)=>match tk P t with
  | .slice _=>.val True (.d (.int .i64 0))
  |_=>.no
 |_=>.no
theorem acm(P:Program)(S:St)(o:Oper)(x:Operand)(t:TypeId)(A:o.op=.call {callee:=.builtin .cap,args:=#[x],argTypes:=#[t]})(J:(S.aq x).1=true):aD P S o (OG P t (S.aq x).2):=by
 have BA:∀(a:Act)(w:World)(v:Value),(Builtin.cap_ #[t] o.type #[a.eval x]).run P w=.ok v w->(execOp a.eval o).run P w=.ok (.value v) w:=by
  intro a w v h;simp[execOp,A,resolve,invoke,builtin,h]
 unfold OG;split
 ·rename_i A5;split
  ·rename_i e B_;refine aD.pure λ_ φ G a w H=>?_;have E:=H.aq x J;rw[A5]at E;generalize A1:a.eval x=av at E;cases E with|lit _ h=>
   refine⟨_,BA a w (.int .i64 0) ?_,.d _ _ (.int _ _)⟩;rw[A1];simp[Builtin.cap_,run_underlying (ff B_),goInt]
  ·trivial
 ·trivial
def ky(P:Program)(S:St)(o:Oper)(b:Builtin)(args:List Operand)(Aa:List TypeId):cP:=
 match b,args,Aa with
 | .len,[x],[t]=>m7 P S.mem t (S.aq x).2
 | .append,[s,x],[t,u]=>tB S.mem (Mem.get S.mem (keyOf o)).isSome (keyOf o) (qL P S.mem (keyOf o) t u (S.aq s).2 (S.aq x).2)
 | .copy,[s,x],[t,_]=>vW P S.mem t (S.aq s).2 (S.aq x).2
 | .max,args,_=>D7 true (args.map λx=>(S.aq x).2)
 | .min,args,_=>D7 false (args.map λx=>(S.aq x).2)
 | .cap,[x],[t]=>OG P t (S.aq x).2
 |_,_,_=>.no
def zeroOf:TK->Option D
 | .int k=>some (.int k 0)
 | .bool=>some (.bool false)
 |_=>none
theorem J1{t:TK}{z:D}(h:zeroOf t=some z):z.size=1/\∀(w:World)(F:Nat->Prop),∃v,aJ w F z v/\v.cells=#[v]/\∀u,aJ w F z u->u=v:=by
 cases t with
 |int k=>cases h;exact⟨rfl,λw F=>⟨_,.int k 0,rfl,λu hu=>by cases hu;rfl⟩⟩
 |bool=>cases h;exact⟨rfl,λw F=>⟨_,.bool false,rfl,λu hu=>by cases hu;rfl⟩⟩
 |_=>cases h
def RN:D->AV->Bool
 | .int k n,.d (.int AG Ba)=>k == AG&&n == Ba
 | .bool b,.d (.bool Bb)=>b == Bb
 |_,_=>false
theorem acn{z:D}{c:AV}(h:RN z c=true):c=.d z:=by
 unfold RN at h;split at h<;>simp_all
def Hj(m:Mem)(k n:Nat)(z:D)(zs:List AV):cP:=
 match Mem.get m k with
 |some ⟨_,v,_⟩=>.cG (zs.length=n/\zs.all (RN z)=true) (.cn k (v+1) 0 0) ⟨k,v+1,.vec 1 (List.replicate n z)⟩
 |none=>.no
def sq(P:Program)(m:Mem)(k:Nat)(t:TypeId):cP:=
 match rq P t with
 |some zs=>match tk P t with
  | .arr n e=>match zeroOf (tk P e)with
   |some z=>Hj m k n z zs
   |none=>qJ m k true zs
  |_=>qJ m k true zs
 |none=>.no
theorem aco(P:Program)(S:St)(o:Oper)(t:TypeId)(A:o.op=.alloc t)(n:Nat)(Ap:D)(BQ:TK)(Aq:zeroOf BQ=some Ap)(zs:List AV)(Ah:rq P t=some zs):aD P S o (Hj S.mem (keyOf o) n Ap zs):=by
 obtain⟨BR,Ar⟩:=J1 Aq;unfold Hj;split
 ·rename_i key v cont A0;refine aD.qI ?_;rintro ⟨V,Bc⟩ φ G a w H;obtain⟨z,BA,Bd,E,BB⟩:=nA Ah w;obtain⟨hm,T,L,A2,A3,Ad⟩:=H.mem.get A0;simp only at T A3;subst T;have Be:∀(w:World)(F:Nat->Prop)(i:Nat) u,z.cells[i]?=some u->aJ w F Ap u:=by
   intro w' F i u hu;have hi:i<zs.length:=by
    have:=(acw.1 hu).1;omega
   have A':=BB φ w (λ_=>False) i zs[i] u (by simp[hi]) hu;rw[acn (aaH.1 Bc _ (acN hi))]at A';cases A' with
   |d _ _ AK=>
    obtain⟨v1,q1,_,q2⟩:=Ar w (λ_=>False);obtain⟨v2,q3,_,B9⟩:=Ar w' F;cases BQ with
    |int k=>cases Aq;cases AK;exact .int k 0
    |bool=>cases Aq;cases AK;exact .bool false
    |_=>cases Aq
  obtain⟨φ',AO,AP,AY,AJ⟩:=H.mem.fresh (e:=⟨keyOf o,v,cont⟩) hm A2 A3 w rfl rfl rfl rfl z.cells t 1 n (.vec 1 (List.replicate n Ap)) (λ_ A8=>A8.2) (λφ' hle A1 C7 BC=>by
   refine⟨rfl,by simp,λd U=>by rw[(List.mem_replicate.1 U).2];exact BR,λ_=>⟨z.cells,t,en.new BC,by simp[Bd,V],E,λi d U=>?_⟩⟩;obtain⟨hi,rfl⟩:=aaf.1 U;simp at hi;have BS:i<z.cells.size:=by omega
   have AR:=λw F=>Be w F i z.cells[i] (by simp[BS]);have B7:=(AR w (λ_=>False)).size;rw[BR]at B7;refine⟨z.cells[i],by simp;exact AR _ _,λj c Z=>?_⟩;have Bf:j=0:=by
    have:=(acw.1 Z).1;omega
   subst Bf;rw[dC (E _ (by simp))]at Z;simp at Z;subst Z;simp[BS])
  refine⟨.pointer (some ⟨w.heap.size,0,none⟩),_,φ',.inl ?_,?_,AO,AP,AJ⟩
  ·simp[execOp,A,Instr.alloc,newVar,gH,BA]
  ·exact .cn _ (v+1) 0 0 _ _ AY (aai _) (λ_=>by simp) rfl
 ·trivial
theorem RP(P:Program)(S:St)(o:Oper)(t:TypeId)(A:o.op=.alloc t):aD P S o (sq P S.mem (keyOf o) t):=by
 unfold sq;split
 ·rename_i zs Ah;split
  ·split
   ·rename_i Ar;exact aco P S o t A _ _ _ Ar zs Ah
   ·exact GP P S o t A zs Ah
  ·exact GP P S o t A zs Ah
 ·trivial
def rA(P:Program)(m:Mem)(AB:Nat)(src dst:TypeId)(x:AV):cP:=
 match x with
 | .vec k ak off len=>match tk P dst with
  | .slice e=>match decide (src=dst),tk P e,Mem.get m k with
   |true,.int .u8,some ⟨_,v,.vec sz ag⟩=>.cG (decide (v=ak/\0<len)) (.vec k ak off len) ⟨k,ak,.vec sz ag⟩
   |_,_,_=>.no
  |_=>lu P m AB src dst (.vec k ak off len)
 |x=>lu P m AB src dst x
theorem Vv(P:Program)(S:St)(o:Oper)(src dst:TypeId)(x:Operand)(A:o.op=.convert src dst x)(J:(S.aq x).1=true):aD P S o (rA P S.mem (keyOf o) src dst (S.aq x).2):=by
 unfold rA;split
 ·rename_i k ak off len A5;split
  ·rename_i e U;split
   ·rename_i key v sz ag BD Bg A0;refine aD.qI ?_;rintro ⟨rfl,BL⟩ φ G a w H;have BD:src=dst:=acE BD;subst BD;obtain⟨hm,T,L,A2,A3,Ad⟩:=H.mem.get A0;simp only at T A3;subst T;have A7:=H.aq x J;rw[A5]at A7;have Bh:=A7;generalize B0:a.eval x=C8 at A7 Bh;cases A7 with
    |vec _ _ _ _ _ L' Af _ h Bi=>
     rw[A2]at Af;cases Af;obtain⟨ao,cap,rfl,BM,Ag⟩:=h A3.symm;obtain⟨rfl,BK⟩:=Ag (by omega);have BE:0<L.cap:=by omega
     obtain⟨Bj,Bk,Bl,Bm⟩:=Ad;obtain⟨arr,elem,⟨fr,hh,Bn⟩,BN,BO,BB⟩:=Bm BE;obtain⟨w',AS⟩:∃w',w'=w.freeze ⟨L.cU,arr.size,none⟩ 1:=⟨_,rfl⟩;have BC:en w' L.cU arr elem:=by
      obtain⟨lo,hi⟩:=fr;rw[AS];by_cases he:lo=hi
      ·refine⟨(arr.size,arr.size+1),?_,.inr (aai _)⟩;simp[World.freeze,agE,hh,he]
      ·refine⟨(min lo arr.size,max hi (arr.size+1)),?_,?_⟩
       ·simp[World.freeze,agE,hh,he]
       ·right;rcases Bn with h|h
        ·cases h;exact absurd rfl he
        ·simp only at h⊢;omega
     have hold:∀b,b≠L.cU->w'.heap[b]?=w.heap[b]?:=by
      intro b A8;rw[AS];simp only[World.freeze,Nat.one_ne_zero,acF,agE];rw[aah (λe=>A8 e.symm)]
     have C9:w'.heap.size=w.heap.size:=by rw[AS];simp[World.freeze]
     have BF:w'.os=w.os:=by rw[AS];simp[World.freeze]
     have Bo:w'.tape=w.tape:=by rw[AS];simp[World.freeze]
     have Bp:w'.output=w.output:=by rw[AS];simp[World.freeze]
     have B6:Fo G φ S.mem L.cU:=.inr ⟨_,hm,L,A2,BE,rfl⟩;obtain⟨φ',AO,AP,AY,AJ⟩:=H.mem.cG (e:=⟨key,v,.vec sz ag⟩) (e':=⟨key,v,.vec sz ag⟩) hm A2 rfl (L':=L) (aai _) (λ_=>rfl) A3
      (w':=w') (λb _ V=>hold b (λhe=>V ⟨BE,he.symm⟩)) (by omega) (λ_ A=>.inl A) BF Bo Bp (λφ' B1 BX=>by
       have Ae:∀b,Fo G φ' (Mem.set S.mem ⟨key,v,.vec sz ag⟩) b->Fo G φ S.mem b:=by
        rintro b (B5|⟨y,AC,An,AE,AZ⟩)
        ·exact .inl B5
        ·right;rcases (Mem.mem_set H.mem.nodup).1 AC with ⟨rfl,_⟩|⟨Ao,AF⟩
         ·rw[B1]at AE;simp at AE;subst AE;exact⟨_,hm,L,A2,AZ⟩
         ·simp only at AF;rw[B1]at AE;simp[AF]at AE;exact⟨y,Ao,An,AE,AZ⟩
       exact⟨Bj,Bk,Bl,λ_=>⟨arr,elem,BC,BN,BO,λi d U=>let ⟨u,hu,Z⟩:=BB i d U
        ⟨u,hu.mono (λb _ V=>hold b (λhe=>V (he▸B6))) (by omega) (λb _=>Ae b),Z⟩⟩⟩)
     refine⟨.slice (some ⟨L.cU,L.base+off*L.sz,none⟩) len cap,w',φ',.inl ?_,.vec key v off len _ L AY (Nat.le_of_eq A3.symm) (λ_=>⟨_,_,rfl,BM,Ag⟩) Bi,AO,AP,AJ⟩;have Bq:w.shape? L.cU=some (elem,arr.size):=by simp[World.shape?,hh]
     have Br:(markStringish ⟨L.cU,L.base+off*L.sz,none⟩).run P w=.ok () w':=by
      simp only[markStringish,shape,Sem.run_bind,Sem.run,Bq,Result.andThen_ok,freeze,AS]
     simp[execOp,A,B0,convert,run_underlying (ff U),run_underlying (u7 Bg),Sem.run_bind,Br]
   ·trivial
  ·rw[<-A5];exact KH P S o src dst x A J
 ·exact KH P S o src dst x A J
def Hk(P:Program)(s:TypeId)(f:Nat):Option TypeId:=
 match P.underlying s with
 |some (.struct AL)=>match AL[f]? with
  |some fl=>some fl.type
  |none=>none
 |_=>none
def vd(P:Program)(s:TypeId)(x:AV)(f:Nat):cP:=
 match x with
 | .d (.agg cs)=>match vN P s f,Hk P s f with
  |some off,some e=>match (tk P e).agg,eM P e with
   |false,some 1=>.val (off<cs.length/\tk P e≠.other) (.d (D.at cs off))
   |true,some sz=>.val (off+sz<=cs.length) (.d (.agg ((cs.drop off).take sz)))
   |_,_=>.no
  |_,_=>.no
 | .agg cs=>match vN P s f,Hk P s f with
  |some off,some e=>match (tk P e).agg,eM P e,cs[off]? with
   |false,some 1,some c=>.val (tk P e≠.other) c
   |_,_,_=>.no
  |_,_=>.no
 |_=>.no
theorem E5{P:Program}{s:TypeId}{f off:Nat}{e:TypeId}(h:vN P s f=some off)(he:Hk P s f=some e):∃AL fl,P.underlying s=some (.struct AL)/\AL[f]?=some fl/\fl.offset=off/\fl.type=e:=by
 unfold vN at h;unfold Hk at he;split at h
 ·rename_i AL AT;rw[AT]at he;simp only at he;split at h
  ·rename_i fl AU;rw[AU]at he;cases he;split at h
   ·split at h
    ·cases h
    ·cases h;exact⟨AL,fl,AT,AU,rfl,rfl⟩
   ·cases h
  ·cases h
 ·cases h
theorem RR(P:Program)(S:St)(o:Oper)(s:TypeId)(x:Operand)(f:Nat)(A:o.op=.field s x f)(J:(S.aq x).1=true):aD P S o (vd P s (S.aq x).2 f):=by
 unfold vd;split
 ·rename_i cs A5;split
  ·rename_i off e BG BH;obtain⟨AL,fl,AT,AU,rfl,rfl⟩:=E5 BG BH;split
   ·rename_i Ai A6;refine aD.pure ?_;rintro ⟨CA,AF⟩ φ G a w H;have E:=H.aq x J;rw[A5]at E;generalize A1:a.eval x=av at E;cases E with|d _ _ E=>
    cases E with|agg _ A9 BT Bs As=>
    have Aj:fl.offset<A9.size:=by omega
    refine⟨A9[fl.offset],?_,.d _ _ (As fl.offset _ _ (iY (by omega)) (by simp[Aj]))⟩;have Y:=sk (P:=P) (w:=w) (t:=fl.type) (cs:=A9) (off:=fl.offset) Ai AF (v:=A9[fl.offset]) (by simp[Aj]);simp[execOp,A,A1,Instr.field,run_underlying AT,AU,asAgg,Y]
   ·rename_i sz Ai A6;refine aD.pure ?_;rintro hle φ G a w H;have E:=H.aq x J;rw[A5]at E;generalize A1:a.eval x=av at E;cases E with|d _ _ E=>
    have Bu:=E;cases E with|agg _ A9 BT Bs As=>
    refine⟨_,?_,.d _ _ (xI Bu fl.offset sz hle)⟩;have Y:=E2 (P:=P) (w:=w) (t:=fl.type) (cs:=A9) (off:=fl.offset) Ai A6;simp[execOp,A,A1,Instr.field,run_underlying AT,AU,asAgg,Y]
   ·trivial
  ·trivial
 ·rename_i cs A5;split
  ·rename_i off e BG BH;obtain⟨AL,fl,AT,AU,rfl,rfl⟩:=E5 BG BH;split
   ·rename_i c Ai A6 N;refine aD.pure ?_;rintro AF φ G a w H;have E:=H.aq x J;rw[A5]at E;generalize A1:a.eval x=av at E;cases E with|agg _ A9 BT CB As=>
    have Aj:fl.offset<A9.size:=by have:=(aaf.1 N).1;omega
    refine⟨A9[fl.offset],?_,As fl.offset c _ N (by simp[Aj])⟩;have Y:=sk (P:=P) (w:=w) (t:=fl.type) (cs:=A9) (off:=fl.offset) Ai AF (v:=A9[fl.offset]) (by simp[Aj]);simp[execOp,A,A1,Instr.field,run_underlying AT,AU,asAgg,Y]
   ·trivial
  ·trivial
 ·trivial
def zZ(P:Program)(x:AV)(asserted:TypeId)(ok:Bool):cP:=
 match x with
 | .fR t d=>match decide (t=asserted),ok with
  |true,true=>.val (tk P asserted≠.other/\tk P asserted≠.iface) (.bM [.d d,.d (.bool true)])
  |true,false=>.val (tk P asserted≠.other/\tk P asserted≠.iface) (.d d)
  |_,_=>.no
 |_=>.no
theorem acr{P:Program}{t:TypeId}(h:tk P t≠.other)(M:tk P t≠.iface):∃d,P.underlying t=some d/\∀ms,d≠.interface ms:=by
 unfold tk at h M;cases hu:P.underlying t with
 |none=>rw[hu]at h;exact absurd rfl h
 |some d=>
  refine⟨d,rfl,λms U=>?_⟩;subst U;rw[hu]at M;exact M rfl
theorem Cy{P:Program}{w:World}{t Bv asserted:TypeId}{v:Value}{ok:Bool}(h:tk P asserted≠.other)(M:tk P asserted≠.iface)(A4:t=asserted):
 (Instr.typeAssert (.iface t v) Bv asserted ok).run P w=.ok (if ok then .tuple #[v,.bool true]else v) w:=by
 obtain⟨d,U,V⟩:=acr h M;subst A4;simp only[Instr.typeAssert,Sem.run_bind,run_underlying U,Result.andThen_ok];cases d with
 |interface ms=>exact absurd rfl (V ms)
 |_=>simp
theorem RS(P:Program)(S:St)(o:Oper)(x:Operand)(BI asserted:TypeId)(ok:Bool)(A:o.op=.typeAssert x BI asserted ok)(J:(S.aq x).1=true):aD P S o (zZ P (S.aq x).2 asserted ok):=by
 unfold zZ;split
 ·rename_i t d A5;split
  ·rename_i A4;have A4:t=asserted:=by simpa using A4
   refine aD.pure ?_;rintro ⟨E,M⟩ φ G a w H;have AI:=H.aq x J;rw[A5]at AI;generalize A1:a.eval x=av at AI;cases AI with|fR _ _ v U=>
   refine⟨.tuple #[v,.bool true],by simp[execOp,A,A1,Cy E M A4],.bM _ _ rfl λi c u N hu=>?_⟩;match i,N,hu with
   |0,N,hu=>simp at N hu;subst N hu;exact .d _ _ U
   |1,N,hu=>simp at N hu;subst N hu;exact .d _ _ (.bool _)
   |i+2,N,hu=>simp at N
  ·rename_i A4;have A4:t=asserted:=by simpa using A4
   refine aD.pure ?_;rintro ⟨E,M⟩ φ G a w H;have AI:=H.aq x J;rw[A5]at AI;generalize A1:a.eval x=av at AI;cases AI with|fR _ _ v U=>
   exact⟨v,by simp[execOp,A,A1,Cy E M A4],.d _ _ U⟩
  ·trivial
 ·trivial
def cJ(P:Program)(S:St)(o:Oper):cP:=
 match o.op with
 | .move x=>ru P S.mem (keyOf o) o.type (S.aq x).2
 | .assign x=>ru P S.mem (keyOf o) o.type (S.aq x).2
 | .pick c a b=>Gs (S.aq c) (S.aq a) (S.aq b)
 | .alloc t=>sq P S.mem (keyOf o) t
 | .box _ x=>qJ S.mem (keyOf o) (S.aq x).2.kr (S.aq x).2.cells
 | .load t x=>lj P S.mem t (S.aq x).2
 | .store t p x=>nQ P S.mem t (S.aq p).2 (S.aq x).2
 | .fieldAddr s x f=>nD P S.mem s f (S.aq x).2
 | .nilCheck x=>iz S.mem (S.aq x).2
 | .indexAddr t x i=>lE P S.mem t (S.aq x).2 (S.aq i).2
 | .index t x i=>o9 P t (S.aq x).2 (S.aq i).2
 | .slice t x lo hi none=>jY P S.mem t (S.aq x).2 (lo.map λy=>(S.aq y).2) (hi.map λy=>(S.aq y).2)
 | .binOp op t x y _=>qf P S op t x y
 | .unOp op _ x=>Ha op (S.aq x).2
 | .convert s d x=>rA P S.mem (keyOf o) s d (S.aq x).2
 | .makeInterface t x=>rr P t (S.aq x).2
 | .makeFunc f first cap=>nG f (first.toList.map λx=>(S.aq x).2) (cap.toList.map λx=>(S.aq x).2)
 | .makeSlice t l c=>vU P S.mem (keyOf o) t (S.aq l).2 (S.aq c).2
 | .build t ps=>Cu P t (ps.toList.map λx=>(x.1,(S.aq x.2).2))
 | .buildSlice t len ps=>jA P S.mem (keyOf o) t len (ps.toList.map λx=>(x.1,(S.aq x.2).2))
 | .extract x i=>sn i (S.aq x).2
 | .field s x f=>vd P s (S.aq x).2 f
 | .typeAssert x _ t ok=>zZ P (S.aq x).2 t ok
 | .call {callee:=.builtin b,args,argTypes}=>ky P S o b args.toList argTypes.toList
 |_=>.no
theorem Hl(P:Program)(S:St)(o:Oper)(h:fM S o=true):aD P S o (cJ P S o):=by
 unfold fM at h;unfold cJ;have one:∀{l:List Operand},gW S l=true->∀x∈l,(S.aq x).1=true:=tA;split
 ·rename_i x A;simp only[A]at h;exact Hh P S o x (.inl A) (one h x (by simp[Op.operands]))
 ·rename_i x A;simp only[A]at h;exact Hh P S o x (.inr A) (one h x (by simp[Op.operands]))
 ·rename_i c a b A;exact aaO P S o c a b A
 ·rename_i t A;exact RP P S o t A
 ·rename_i t x A;simp only[A]at h;exact abW P S o t x A (one h x (by simp[Op.operands]))
 ·rename_i t x A;simp only[A]at h;exact (Kw P S o t x A (one h x (by simp[Op.operands]))).res
 ·rename_i t p x A;simp only[A]at h;exact Vg P S o t p x A (one h p (by simp[Op.operands])) (one h x (by simp[Op.operands]))
 ·rename_i s x f A;simp only[A]at h;exact Vo P S o s x f A (one h x (by simp[Op.operands]))
 ·rename_i x A;simp only[A]at h;exact JX P S o x A (one h x (by simp[Op.operands]))
 ·rename_i t x i A;simp only[A]at h;exact Vp P S o t x i A (one h x (by simp[Op.operands])) (one h i (by simp[Op.operands]))
 ·rename_i t x i A;simp only[A]at h;exact RC P S o t x i A (one h x (by simp[Op.operands])) (one h i (by simp[Op.operands]))
 ·rename_i t x lo hi A;simp only[A]at h;exact Vs P S o t x lo hi A (one h x (by simp[Op.operands])) (λy AC=>one h y (by simp[Op.operands,AC])) (λy AC=>one h y (by simp[Op.operands,AC]))
 ·rename_i op t x y AQ A;simp only[A]at h;exact RL P S o op t AQ x y A (one h x (by simp[Op.operands])) (one h y (by simp[Op.operands]))
 ·rename_i op t x A;simp only[A]at h;exact ahl P S o op t x A (one h x (by simp[Op.operands]))
 ·rename_i s d x A;simp only[A]at h;exact Vv P S o s d x A (one h x (by simp[Op.operands]))
 ·rename_i t x A;simp only[A]at h;exact Hb P S o t x A (one h x (by simp[Op.operands]))
 ·rename_i f first cap A;simp only[A]at h;exact JY P S o f first cap A (λx J=>one h x (by simp[Op.operands];left;simpa using J)) (λx J=>one h x (by simp[Op.operands];right;simpa using J))
 ·rename_i t l c A;simp only[A]at h;exact aaK P S o t l c A (one h l (by simp[Op.operands])) (one h c (by simp[Op.operands]))
 ·rename_i t ps A;simp only[A]at h;exact Vt P S o t ps A (λx J=>one h x.2 (by simp only[Op.operands,List.toList_toArray,acb];exact⟨x,J,rfl⟩))
 ·rename_i t len ps A;simp only[A]at h;exact Gi P S o t len ps A (λx J=>one h x.2 (by simp only[Op.operands,List.toList_toArray,acb];exact⟨x,J,rfl⟩))
 ·rename_i x i A;simp only[A]at h;exact OE P S o x i A (one h x (by simp[Op.operands]))
 ·rename_i s x f A;simp only[A]at h;exact RR P S o s x f A (one h x (by simp[Op.operands]))
 ·rename_i x BI t ok A;simp only[A]at h;exact RS P S o x BI t ok A (one h x (by simp[Op.operands]))
 ·rename_i b args Aa A;simp only[A]at h;have AM:∀x∈args.toList,(S.aq x).1=true:=λx J=>one h x (by simp[Op.operands,Call.operands];simpa using J);have At:∀{l:List Operand},args.toList=l->args=l.toArray:=λh=>by rw[<-h]
  have Au:∀{l:List TypeId},Aa.toList=l->Aa=l.toArray:=λh=>by rw[<-h]
  unfold ky;split
  ·rename_i x t E M;rw[At E,Au M]at A;exact ace P S o x t A (AM x (by simp[E]))
  ·rename_i s x t u E M;rw[At E,Au M]at A;exact Vu <| ab9 P S o s x t u A (AM s (by simp[E])) (AM x (by simp[E]))
  ·rename_i s x t u E M;rw[At E,Au M]at A;exact aaL P S o s x t u A (AM s (by simp[E])) (AM x (by simp[E]))
  ·exact RG P S o true args Aa (by simpa using A) AM
  ·exact RG P S o false args Aa (by simpa using A) AM
  ·rename_i x t E M;rw[At E,Au M]at A;exact acm P S o x t A (AM x (by simp[E]))
  ·trivial
 ·trivial
inductive XE where
 |normal
 |exit (id:Nat)
 |ret
 |panic (t:TypeId) (x:D)
def mz(n:Nat)(φ:bG)(G:Fr)(m:Mem)(w:World)(Q:XE->St->Prop):Exit->Act->World->Prop
 | .normal,O,w'=>∃φ' I,I.n=n/\Q .normal I/\Rel φ' G I O w'/\aP φ m w φ' I.mem w'
 | .exit id,O,w'=>∃φ' I,I.n=n/\Q (.exit id) I/\Rel φ' G I O w'/\aP φ m w φ' I.mem w'
 | .ret,O,w'=>∃φ' I,I.n=n/\Q .ret I/\Rel φ' G I O w'/\aP φ m w φ' I.mem w'
 | .panic chain,O,w'=>∃φ' I t x v,chain=[{v:=.iface t v,recovered:=false}]/\aJ w' (Fo G φ' I.mem) x v/\I.n=n/\Q (.panic t x) I/\Rel φ' G I O w'/\aP φ m w φ' I.mem w'
 |_,_,_=>False
theorem mz.weaken{n φ G m w Q AW BU AN e O w'}(T:aP φ m w AW BU AN)(h:mz n AW G BU AN Q e O w'):mz n φ G m w Q e O w':=by
 cases e with
 |normal=>obtain⟨φ',I,q,E,M,A'⟩:=h;exact⟨φ',I,q,E,M,T.trans A'⟩
 |exit id=>obtain⟨φ',I,q,E,M,A'⟩:=h;exact⟨φ',I,q,E,M,T.trans A'⟩
 |ret=>obtain⟨φ',I,q,E,M,A'⟩:=h;exact⟨φ',I,q,E,M,T.trans A'⟩
 |panic chain=>obtain⟨φ',I,t,x,v,N,U,q,E,M,A'⟩:=h;exact⟨φ',I,t,x,v,N,U,q,E,M,T.trans A'⟩
 |_=>exact h.elim
theorem mz.mono{n φ G m w Q Ak e O w'}(AA:∀e S,Q e S->Ak e S)(h:mz n φ G m w Q e O w'):mz n φ G m w Ak e O w':=by
 cases e with
 |normal=>obtain⟨φ',I,q,E,M⟩:=h;exact⟨φ',I,q,AA _ _ E,M⟩
 |exit id=>obtain⟨φ',I,q,E,M⟩:=h;exact⟨φ',I,q,AA _ _ E,M⟩
 |ret=>obtain⟨φ',I,q,E,M⟩:=h;exact⟨φ',I,q,AA _ _ E,M⟩
 |panic chain=>obtain⟨φ',I,t,x,v,N,U,q,E,M⟩:=h;exact⟨φ',I,t,x,v,N,U,q,AA _ _ E,M⟩
 |_=>exact h.elim
def lH(P:Program)(c:Code)(S:St)(Q:XE->St->Prop):Prop:=
 ∀φ G a w,Rel φ G S a w->c.wp P (mz S.n φ G S.mem w Q) a w
def nU(all:List Oper)(S:St)(j:Nat):Option (Bool×AV):=
 match all[j]? with
 |some o=>match o.dst with
  |some t=>Env.lk S.env t
  |none=>none
 |none=>none
def je(n:Nat)(ops:List Oper):Bool:=ops.all λo=>match o.dst with|some t=>decide (t<n)|none=>true
theorem ly(S:St)(d g x):(S.put d g x).n=S.n:=by cases d<;>rfl
theorem eI(S:St)(d g x):(S.put d g x).mem=S.mem:=by cases d<;>rfl
theorem Cj.step{P:Program}{o:Oper}{a:Act}{w w':World}{v:Value}{next R}(h:Cj P o a w v w')(V:next (a.put o.dst v) w'):o.wp P a w next R:=by
 unfold Oper.wp;rcases h with h|⟨h,rfl⟩<;>rw[h]<;>exact V
theorem Rel.grow{φ G S a w w'}(h:Rel φ G S a w)(hold:∀b,b<w.heap.size->w'.heap[b]?=w.heap[b]?)(A6:w.heap.size<=w'.heap.size):Rel φ G S a w':=
 ⟨h.size,h.defers,λt x J=>(h.env t x J).mono (bG.le_refl _) (λb A8 _=>hold b A8) A6 (λ_ _ h=>h),h.mem.grow hold A6,h.jR.mono (λb A8 _=>hold b A8) A6 (λ_ _ h=>h)⟩
theorem Vw{P:Program}{S:St}{o:Oper}{c:Bool}{x:AV}{gb:Bool}(H:aD P S o (.val c x))(N:c=true){φ G a w}(h:Rel φ G S a w)(U:∀t,o.dst=some t->t<S.n){next:Act->World->Prop}{R}
 (V:∀O w',Rel φ G (S.put o.dst gb x) O w'->aP φ S.mem w φ S.mem w'->next O w'):o.wp P a w next R:=by
 obtain⟨v,w',BJ,A1,hold,A6,BF,A4,Bw⟩:=H N φ G a w h;exact BJ.step (V _ _ ((h.grow hold A6).put o.dst U gb x v (λ_=>A1)) (aP.grow hold A6 BF A4 Bw))
theorem Vx{P:Program}{S:St}{o:Oper}{c:Bool}{x:AV}{e:cg}(H:aD P S o (.cG c x e))(N:c=true){φ G a w}(h:Rel φ G S a w)(U:∀t,o.dst=some t->t<S.n){next:Act->World->Prop}{R}
 (V:∀φ' O w',Rel φ' G (({S with mem:=Mem.set S.mem e}:St).put o.dst true x) O w'->aP φ S.mem w φ' (Mem.set S.mem e) w'->next O w'):o.wp P a w next R:=by
 obtain⟨v,w',φ',BJ,A1,hm,T,_⟩:=H N φ G a w h;exact BJ.step (V φ' _ _ ((h.x9 hm T).put o.dst U true x v (λ_=>A1)) T)
theorem RU{all:List Oper}{S:St}{j:Nat}{b:Bool}{φ G a w}(h:Rel φ G S a w)(A0:nU all S j=some (true,.d (.bool b))):yielded all.toArray a.tmps j=some b:=by
 unfold nU at A0;split at A0
 ·rename_i o A;split at A0
  ·rename_i t A4;have:=rR (h.env t _ A0);unfold yielded;simp only[ac6,A,ac1,A4];rw[aay]at this;cases AA:a.tmps[t]? with
   |none=>simp[AA,undef]at this
   |some v=>simp[AA]at this;simp[this]
  ·cases A0
 ·cases A0
section
variable {P:Program} {S:St} {Q:XE->St->Prop}
theorem lH.mono{c:Code}{Ak:XE->St->Prop}(h:lH P c S Q)(AA:∀e S,Q e S->Ak e S):lH P c S Ak:=
 λφ G a w H=>wp_mono (h φ G a w H) λ_ _ _ Y=>Y.mono AA
def St.prune(S:St)(pa:List Nat):St:={S with env:=pa.filterMap λt=>(Env.lk S.env t).map λx=>(t,x)}
theorem sr(env:Env):∀(pa:List Nat)(t:Nat)(x:Bool×AV),Env.lk (pa.filterMap λt=>(Env.lk env t).map λx=>(t,x)) t=some x->Env.lk env t=some x
 |[],t,x,h=>by simp[Env.lk]at h
 |k::r,t,x,h=>by
  simp only[List.filterMap_cons]at h;cases T:Env.lk env k with
  |none=>simp[T]at h;exact sr env r t x h
  |some y=>
   simp only[T,afJ,Env.lk]at h;by_cases BV:k=t
   ·subst BV;simp at h;subst h;exact T
   ·simp[BV]at h;exact sr env r t x h
theorem Rel.prune{φ G a w}(h:Rel φ G S a w)(pa:List Nat):Rel φ G (S.prune pa) a w:=
 ⟨h.size,h.defers,λt x J=>h.env t x (sr _ _ _ _ J),h.mem,h.jR⟩
theorem KK{x y:Code}(h:lH P x S λe I=>match e with| .normal=>lH P y I Q|e=>Q e I):lH P (.seq x y) S Q:=by
 intro φ G a w H;refine wp_seq (wp_mono (h φ G a w H) λe O w' Y=>?_);cases e with
 |normal=>
  obtain⟨φ',I,V,E,M,A'⟩:=Y;exact wp_mono (E φ' G O w' M) λe a2 Al BW=>by rw[V]at BW;exact BW.weaken A'
 |_=>exact Y
theorem Hm{c:Operand}{x y:Code}{b:Bool}(N:S.aq c=(true,.d (.bool b)))(A4:b=true->lH P x S Q)(Bx:b=false->lH P y S Q):lH P (.cond c x y) S Q:=by
 intro φ G a w H;have A7:=H.aq c (by rw[N]);rw[N]at A7;have e:=rR A7;cases b
 ·exact wp_cond_false e (Bx rfl φ G a w H)
 ·exact wp_cond_true e (A4 rfl φ G a w H)
theorem Vy(h:Q .normal S):lH P .skip S Q:=λφ _ _ _ H=>wp_skip ⟨φ,S,rfl,h,H,aP.refl ..⟩
theorem aaQ(h:Q .ret S):lH P .ret S Q:=λφ _ _ _ H=>wp_ret ⟨φ,S,rfl,h,H,aP.refl ..⟩
theorem Vz{id:Nat}(h:Q (.exit id) S):lH P (.exit id) S Q:=λφ _ _ _ H=>wp_exit ⟨φ,S,rfl,h,H,aP.refl ..⟩
theorem yq{id:Nat}{c:Code}(h:lH P c S λe I=>match e with| .exit Av=>if Av=id then Q .normal I else Q (.exit Av) I|e=>Q e I):lH P (.block id c) S Q:=by
 intro φ G a w H;refine wp_block (wp_mono (h φ G a w H) λe O w' Y=>?_);cases e with
 |exit Av=>
  obtain⟨φ',I,V,E,M,A'⟩:=Y;simp only[Exit.inBlock];by_cases hid:Av=id
  ·simp only[hid,adI]at E⊢;exact⟨φ',I,V,E,M,A'⟩
  ·simp only[hid,acF]at E⊢;exact⟨φ',I,V,E,M,A'⟩
 |_=>exact Y
theorem VA{c:Code}{α:Type}(AH:α->St)(Aw:α->Prop)(Ax:α->Nat)(AX:α)(By:S=AH AX)(q:Aw AX)
 (round:∀x,Aw x->lH P c (AH x) λe I=>match e with| .normal=>∃Ab,I=AH Ab/\Aw Ab/\Ax Ab<Ax x|e=>Q e I):lH P (.loop c) S Q:=by
 intro φ G a w H;subst By;intro b k cs;have key:∀n x AW Ay AN,Ax x=n->Aw x->(AH x).n=(AH AX).n->Rel AW G (AH x) Ay AN->aP φ (AH AX).mem w AW (AH x).mem AN->
  ∃e O w',mz (AH AX).n φ G (AH AX).mem w Q e O w'/\Arrives P (lone (b.at Ay (.code c::.inLoop c::k)) cs AN) b k cs e O w':=by
  intro n;induction n using Nat.strongRecOn with
  |_ n ih=>
   intro x AW Ay AN V Bz Az AI B';obtain⟨e,a2,Al,Y,Ac⟩:=round x Bz AW G Ay AN AI b (.inLoop c::k) cs;cases e with
   |normal=>
    obtain⟨B8,CC,C',⟨Ab,rfl,C0,CD⟩,B4,C1⟩:=Y;obtain⟨C2,a3,C3,C4,C5⟩:=ih (Ax Ab) (by omega) Ab B8 a2 Al rfl C0 (C'.trans Az) B4 (B'.trans C1);exact⟨C2,a3,C3,C4,.of_steps (Steps.trans Ac (.one step_inLoop)) C5⟩
   |exit id=>exact⟨.exit id,a2,Al,by rw[Az]at Y;exact mz.weaken (e:=.exit id) B' Y,.pass (x:=.inLoop c) rfl (λ_ _=>.inl (by simp)) Ac⟩
   |goto l=>exact Y.elim
   |ret=>exact⟨.ret,a2,Al,by rw[Az]at Y;exact mz.weaken (e:=.ret) B' Y,.pass (x:=.inLoop c) rfl (λ_ _=>.inl (by simp)) Ac⟩
   |panic ch=>exact⟨.panic ch,a2,Al,by rw[Az]at Y;exact mz.weaken (e:=.panic ch) B' Y,.pass (x:=.inLoop c) rfl (λ_ _=>.inl (by simp)) Ac⟩
   |outgrown=>exact Y.elim
 obtain⟨e,O,w',AA,Ac⟩:=key _ AX φ a w rfl q rfl H (aP.refl ..);exact⟨e,O,w',AA,.of_steps (.one step_loop) Ac⟩
end
inductive Out where
 |ret (x:AV)
 |panic (t:TypeId) (x:D)
def mP(φ:bG)(w:World)(F:Nat->Prop):Out->Ending->Prop
 | .ret x,.returned v=>az φ w F x v
 | .panic t x,.panicked chain=>∃v,chain=[{v:=.iface t v,recovered:=false}]/\aJ w F x v
 |_,_=>False
def Ev(P:Program)(gl:List (Nat×D))(f:FuncId)(args:List AV)(m:Mem)(K:Out->Mem->Prop):Prop:=
 ∀φ G w (vs:Array Value),a8 φ G m w->eh w (Fo G φ m) gl->args.length=vs.size->(∀(i:Nat) x v,args[i]?=some x->vs[i]?=some v->az φ w (Fo G φ m) x v)->
  Calls P f vs w λe w'=>∃φ' m' out,K out m'/\a8 φ' G m' w'/\aP φ m w φ' m' w'/\mP φ' w' (Fo G φ' m') out e
theorem Ev.mono{P gl f args m K K'}(h:Ev P gl f args m K)(E:∀o m,K o m->K' o m):Ev P gl f args m K':=
 λφ G w vs hm H A2 Ab=>(h φ G w vs hm H A2 Ab).mono λ_ _ ⟨φ',m',out,M,T⟩=>⟨φ',m',out,E _ _ M,T⟩
def jK:List Nat->Nat->Nat->Option Nat
 |[],_,_=>none
 |a::r,k,i=>if a=k then some i else jK r k (i+1)
theorem vY:∀{ρ:List Nat}{k j i:Nat},jK ρ k j=some i->j<=i/\ρ[i-j]?=some k
 |[],k,j,i,h=>by simp[jK]at h
 |a::r,k,j,i,h=>by
  simp only[jK]at h;split at h
  ·rename_i E;cases h;subst E;simp
  ·obtain⟨M,T⟩:=vY h;refine⟨by omega,?_⟩;rw[show i-j=(i-(j+1))+1 by omega];simpa using T
theorem jg:∀{ρ:List Nat}{k j:Nat},jK ρ k j=none↔k∉ρ
 |[],k,j=>by simp[jK]
 |a::r,k,j=>by
  simp only[jK,aan,akD];split
  ·rename_i E;subst E;simp
  ·rename_i E;rw[jg];constructor
   ·exact λh=>⟨λAc=>E Ac.symm,h⟩
   ·exact λh=>h.2
theorem RV{ρ:List Nat}(AB:ρ.Nodup){i k:Nat}(h:ρ[i]?=some k):jK ρ k 0=some i:=by
 cases A9:jK ρ k 0 with
 |none=>exact absurd (aao h) (jg.1 A9)
 |some j=>
  obtain⟨_,T⟩:=vY A9;simp only[Nat.sub_zero]at T;obtain⟨hi,AC⟩:=aaf.1 h;obtain⟨N,AH⟩:=aaf.1 T;have:=(List.getElem_inj AB).1 (AC.trans AH.symm);rw[this]
def tD:List AV->Option (List D)
 |[]=>some []
 | .d x::r=>match x.flat,tD r with
  |true,some AP=>some (x::AP)
  |_,_=>none
 |_::_=>none
theorem E7:∀{l:List AV}{U:List D},tD l=some U->l=U.map .d/\∀d∈U,d.flat=true
 |[],U,h=>by simp[tD]at h;subst h;simp
 |x::r,U,h=>by
  unfold tD at h;split at h
  ·rename_i heq;cases heq
  ·rename_i y B4 heq;cases heq;split at h
   ·rename_i AP A9 Ad;cases h;obtain⟨M,T⟩:=E7 Ad;refine⟨by rw[M];rfl,λd Y=>?_⟩;rcases aan.1 Y with rfl|Y
    ·exact A9
    ·exact T d Y
   ·cases h
  ·cases h
def VB:Option (List D)->AV
 |some U=>.d (.list U)
 |none=>.aY
mutual
def vw(m:Mem)(ρ:List Nat)(bor:Nat->Bool)(nv:Nat->Nat->Nat):AV->AV
 | .ptr k ak off=>match Mem.get m k,jK ρ k 0 with
  |some e,some i=>if e.ak=ak then .ptr i (nv i ak) off else .aY
  |_,_=>.aY
 | .vec k ak off len=>match Mem.get m k,jK ρ k 0 with
  |some e,some i=>if e.ak=ak then .vec i (nv i ak) off len else .aY
  |some ⟨_,v,.vec _ ag⟩,none=>if bor k=true/\v=ak/\off+len<=ag.length then .d (.list ((ag.drop off).take len))else .aY
  |some ⟨_,v,.box cs⟩,none=>if bor k=true/\v=ak/\off+len<=cs.length then VB (tD ((cs.drop off).take len))else .aY
  |_,_=>.aY
 | .cn k ak i j=>match Mem.get m k,jK ρ k 0 with
  |some e,some n=>if e.ak=ak then .cn n (nv n ak) i j else .aY
  |_,_=>.aY
 | .agg cs=>.agg (qh m ρ bor nv cs)
 | .fn f cap=>.fn f (qh m ρ bor nv cap)
 | .bM vs=>.bM (qh m ρ bor nv vs)
 | .aY=>.aY
 | .d x=>.d x
 | .dq x j=>.dq x j
 | .fR t x=>.fR t x
 | .lit v=>.lit v
 | .nn=>.nn
 | .err=>.err
def qh(m:Mem)(ρ:List Nat)(bor:Nat->Bool)(nv:Nat->Nat->Nat):List AV->List AV
 |[]=>[]
 |x::r=>vw m ρ bor nv x::qh m ρ bor nv r
end
theorem rS(m ρ bor nv):∀(l:List AV)(i:Nat),(qh m ρ bor nv l)[i]?=(l[i]?).map (vw m ρ bor nv)
 |[],i=>by simp[qh]
 |x::r,i=>by cases i with|zero=>simp[qh]|succ i=>simp[qh,rS m ρ bor nv r i]
theorem kz(m ρ bor nv):∀(l:List AV),(qh m ρ bor nv l).length=l.length
 |[]=>rfl
 |x::r=>by simp[qh,kz m ρ bor nv r]
def bG.gC(φ:bG)(ρ:List Nat)(nv:Nat->Nat->Nat):bG:=λi=>
 match ρ[i]? with
 |some k=>(φ k).map λL=>{L with ak:=nv i L.ak}
 |none=>none
def yr(φ:bG)(m:Mem)(ρ:List Nat)(b:Nat):Prop:=∃k∈ρ,∃e L,Mem.get m k=some e/\φ k=some L/\e.cont.cD L b
theorem yr.own{φ m ρ b}(h:yr φ m ρ b):gS φ m b:=by
 obtain⟨k,_,e,L,H,A,A'⟩:=h;obtain⟨hm,rfl⟩:=Mem.get_mem H;exact⟨e,hm,L,A,A'⟩
theorem Cz{φ G m w}(h:a8 φ G m w){ρ:List Nat}{k:Nat}{e:cg}{L:Loc}{b:Nat}(H:Mem.get m k=some e)(A:φ k=some L)(A':e.cont.cD L b)(E:k∉ρ):¬yr φ m ρ b:=by
 rintro ⟨Ae,AD,e',L',Af,J,Ag⟩;obtain⟨hm,rfl⟩:=Mem.get_mem H;obtain⟨Ah,rfl⟩:=Mem.get_mem Af;have:=h.apart e' Ah e hm L' L J A ⟨b,Ag,A'⟩;exact E (this▸AD)
section
variable {φ:bG} {G:Fr} {m:Mem} {w:World} {ρ:List Nat} {bor:Nat->Bool} {nv:Nat->Nat->Nat} {AE:Nat->Prop}
theorem D8{k i:Nat}{L:Loc}(hi:jK ρ k 0=some i)(A:φ k=some L):φ.gC ρ nv i=some {L with ak:=nv i L.ak}:=by
 obtain⟨_,T⟩:=vY hi;simp only[Nat.sub_zero]at T;simp[bG.gC,T,A]
theorem acs(hm:a8 φ G m w)(A1:∀b,AE b->Fo G φ m b)
 (AF:∀k e L b,Mem.get m k=some e->k∉ρ->bor k=true->φ k=some L->e.cont.cD L b->¬AE b) {y v} (h:az φ w (Fo G φ m) y v):az (φ.gC ρ nv) w AE (vw m ρ bor nv y) v:=by
 induction h with
 |aY v=>exact .aY v
 |d x v h=>exact .d x v (h.mono (λ_ _ _=>rfl) (aai _) (λb _=>A1 b))
 |agg cs a A2 M _ ih=>
  refine .agg _ a (by rw[kz];exact A2) M (λi c v I O=>?_);rw[rS]at I;obtain⟨y,A3,rfl⟩:=aak.1 I;exact ih i y v A3 O
 |ptr k ak off v L A O h M=>
  unfold vw;split
  ·rename_i e i H hi;split
   ·rename_i he;obtain⟨_,_,L',J,V,_⟩:=hm.get H;rw[A]at J;cases J;have A5:L.ak=ak:=by rw[V];exact he
    refine .ptr i _ off v _ (D8 hi A) (by simp[A5]) (λ_=>h A5.symm) M
   ·exact .aY _
  ·exact .aY _
 |vec k ak off len v L A O h M=>
  unfold vw;split
  ·rename_i e i H hi;split
   ·rename_i he;obtain⟨_,_,L',J,V,_⟩:=hm.get H;rw[A]at J;cases J;have A5:L.ak=ak:=by rw[V];exact he
    refine .vec i _ off len v _ (D8 hi A) (by simp[A5]) (λ_=>h A5.symm) M
   ·exact .aY _
  ·rename_i key AA sz ag H hi;split
   ·rename_i I;obtain⟨A7,rfl,hle⟩:=I;obtain⟨_,_,L',J,V,Z⟩:=hm.get H;rw[A]at J;cases J;refine .d _ _ (Bt (.vec k AA off len v L A O h M) A V Z hle A1 (λA'=>?_));exact AF k _ L _ H (jg.1 hi) A7 A ⟨A',rfl⟩
   ·exact .aY _
  ·rename_i key AA cs H hi;split
   ·rename_i I;obtain⟨A7,rfl,hle⟩:=I;obtain⟨_,_,L',J,V,Z⟩:=hm.get H;rw[A]at J;cases J;obtain⟨⟨Ai,z2,z3⟩,arr,elem,AQ,B5,Aj,Ak⟩:=Z;cases Al:tD ((cs.drop off).take len)with
    |none=>exact .aY _
    |some U=>
     obtain⟨AR,An⟩:=E7 Al;obtain⟨ao,cap,rfl,B6,AS⟩:=h V.symm;have Ao:U.length=len:=by
      have:=ac8 List.length AR;simp at this;omega
     refine .d _ _ ?_;by_cases AI:len=0
     ·have:U=[]:=acp (by omega);subst this;subst AI;refine .nil _ _ (λAB=>?_);cases cap with
      |zero=>rfl
      |succ c=>have:=(AS (by omega)).1;rw[AB]at this;cases this
     ·obtain⟨rfl,_⟩:=AS (by omega);rw[<-Ao];have AT:∀(i:Nat) d,U[i]?=some d->∃u,arr[off+i]?=some u/\aJ w AE d u/\cd u=true:=by
       intro i d Y;have hi:i<U.length:=(aaf.1 Y).1;have Ap:cs[off+i]?=some (.d d):=by
        have:=ac8 (·[i]?) AR;simp only[aaz,acq,acj,Y]at this;rw[aap (by omega)]at this;simpa using this
       have AU:off+i<arr.size:=by omega
       have AJ:=Ak (off+i) _ arr[off+i] Ap (by simp[AU]);cases AJ with
       |d _ _ AJ=>exact⟨_,by simp[AU],AJ.mono (λ_ _ _=>rfl) (aai _) (λb _=>A1 b),Aj _ (by simp)⟩
      have Aq:L.cU<w.heap.size:=AQ.lt;refine .list U _ _ cap 1 (λi=>(arr[off+i]?).getD undef) (by omega) Aq (AF k _ L _ H (jg.1 hi) A7 A rfl) (λd Y=>?_) (λi d Y=>?_) (λi j c Ar N=>?_)
      ·have:=An d Y;cases d<;>simp_all [D.flat,D.size]
      ·obtain⟨u,M,T,_⟩:=AT i d Y;simp only[M,acV];exact T
      ·obtain⟨u,M,T,AC⟩:=AT i U[i] (by simp[Ar]);simp only[M,acV,dC AC]at N;have As:j=0:=by
        have:=(acw.1 N).1;simpa using this
       subst As;simp at N;subst N;rw[fT AQ,Ai,z2];simpa using M
   ·exact .aY _
  ·exact .aY _
 |cn k ak i j v L A O h M=>
  unfold vw;split
  ·rename_i e n H hi;split
   ·rename_i he;obtain⟨_,_,L',J,V,_⟩:=hm.get H;rw[A]at J;cases J;have A5:L.ak=ak:=by rw[V];exact he
    refine .cn n _ i j v _ (D8 hi A) (by simp[A5]) (λ_=>h A5.symm) M
   ·exact .aY _
  ·exact .aY _
 |dq x j b off At A7 Au AK I=>
  exact .dq x j b off At A7 (λh=>Au (A1 b h)) (AK.mono (λ_ _ _=>rfl) (aai _) (λb _=>A1 b)) I
 |fn f cap a A9 A2 _ ih=>
  refine .fn f _ a A9 (by rw[kz];exact A2) (λi c v I O=>?_);rw[rS]at I;obtain⟨y,A3,rfl⟩:=aak.1 I;exact ih i y v A3 O
 |qW f cap a A2 _ ih=>
  refine .qW f _ a (by rw[kz];exact A2) (λi c v I O=>?_);rw[rS]at I;obtain⟨y,A3,rfl⟩:=aak.1 I;exact ih i y v A3 O
 |bM vs a A2 _ ih=>
  refine .bM _ a (by rw[kz];exact A2) (λi c v I O=>?_);rw[rS]at I;obtain⟨y,A3,rfl⟩:=aak.1 I;exact ih i y v A3 O
 |fR t x v h=>exact .fR t x v (h.mono (λ_ _ _=>rfl) (aai _) (λb _=>A1 b))
 |lit v h=>exact .lit v h
 |nn a cap=>exact .nn a cap
 |err t v=>exact .err t v
end
def cZ:Nat->List (Nat×ay)->Mem
 |_,[]=>[]
 |i,(v,c)::r=>⟨i,v,c⟩::cZ (i+1) r
theorem pb:∀(l:List (Nat×ay))(i:Nat),(cZ i l).map (·.key)=List.range' i l.length
 |[],i=>rfl
 |(v,c)::r,i=>by simp[cZ,pb r,afZ]
theorem j0:∀{l:List (Nat×ay)}{i:Nat}{e:cg},e∈cZ i l↔∃j v c,l[j]?=some (v,c)/\e=⟨i+j,v,c⟩
 |[],i,e=>by simp[cZ]
 |(v,c)::r,i,e=>by
  simp only[cZ,aan,j0 (l:=r)];constructor
  ·rintro (rfl|⟨j,AA,AL,h,rfl⟩)
   ·exact⟨0,v,c,by simp,by simp⟩
   ·exact⟨j+1,AA,AL,by simpa using h,by simp;omega⟩
  ·rintro ⟨j,AA,AL,h,rfl⟩;cases j with
   |zero=>simp at h;obtain⟨rfl,rfl⟩:=h;left;simp
   |succ j=>right;exact⟨j,AA,AL,by simpa using h,by simp;omega⟩
def uu(m:Mem)(ρ:List Nat)(bor:Nat->Bool)(nv:Nat->Nat->Nat):ay->ay
 | .dead=>.dead
 | .box cs=>.box (qh m ρ bor nv cs)
 | .vec sz ag=>.vec sz ag
 | .vv ag y=>.vv ag (y.map (vw m ρ bor nv))
def uv(m:Mem)(ρ:List Nat)(bor:Nat->Bool)(nv:Nat->Nat->Nat)(i:Nat):Option cg->Nat×ay
 |some e=>(nv i e.ak,uu m ρ bor nv e.cont)
 |none=>(0,.dead)
def dO(m:Mem)(ρ:List Nat)(bor:Nat->Bool)(nv:Nat->Nat->Nat):Nat->List Nat->List (Nat×ay)
 |_,[]=>[]
 |i,k::r=>uv m ρ bor nv i (Mem.get m k)::dO m ρ bor nv (i+1) r
theorem vZ(m ρ bor nv):∀(l:List Nat)(i j:Nat),(dO m ρ bor nv i l)[j]?=(l[j]?).map λk=>uv m ρ bor nv (i+j) (Mem.get m k)
 |[],i,j=>by simp[dO]
 |k::r,i,j=>by
  cases j with
  |zero=>simp[dO]
  |succ j=>simp[dO,vZ m ρ bor nv r (i+1) j,aci,Nat.add_comm 1 j]
theorem pM(m ρ bor nv):∀(l:List Nat)(i:Nat),(dO m ρ bor nv i l).length=l.length
 |[],i=>rfl
 |k::r,i=>by simp[dO,pM m ρ bor nv r]
theorem tE{m ρ bor nv L c b}:(uu m ρ bor nv c).cD L b↔c.cD L b:=by cases c<;>exact Iff.rfl
theorem jB{L:Loc}{c:ay}{v b:Nat}:c.cD {L with ak:=v} b↔c.cD L b:=by cases c<;>exact Iff.rfl
section
variable {φ:bG} {G G1:Fr} {m:Mem} {w:World} {ρ:List Nat} {bor:Nat->Bool} {nv:Nat->Nat->Nat}
theorem vf(AG:∀k∈ρ,(Mem.get m k).isSome=true)(b:Nat):gS (φ.gC ρ nv) (cZ 0 (dO m ρ bor nv 0 ρ)) b↔yr φ m ρ b:=by
 constructor
 ·rintro ⟨e,he,L,A,A'⟩;obtain⟨j,v,c,N,rfl⟩:=j0.1 he;rw[vZ]at N;obtain⟨k,E,A8⟩:=aak.1 N;simp only[ac3,bG.gC,E,aak]at A;obtain⟨A0,A6,rfl⟩:=A;have AW:=aao E;have:=AG k AW;obtain⟨q,A4⟩:=akr.1 this;rw[A4]at A8;simp only[uv,ab3]at A8;obtain⟨rfl,rfl⟩:=A8;exact⟨k,AW,q,A0,A4,A6,jB.1 (tE.1 A')⟩
 ·rintro ⟨k,E,e,L,H,A,A'⟩;obtain⟨j,N,rfl⟩:=alr.1 E;refine⟨⟨0+j,nv j e.ak,uu m ρ bor nv e.cont⟩,j0.2 ⟨j,_,_,?_,rfl⟩,{L with ak:=nv j L.ak},?_,tE.2 (jB.2 A')⟩
  ·rw[vZ];simp[N,H,uv]
  ·simp[bG.gC,N,A]
theorem z6(hm:a8 φ G m w)(AB:ρ.Nodup)(AG:∀k∈ρ,(Mem.get m k).isSome=true)(AX:∀b,G1 b->Fo G φ m b)(Av:∀b,yr φ m ρ b->¬G1 b)
 (AF:∀k e L b,Mem.get m k=some e->k∉ρ->bor k=true->φ k=some L->e.cont.cD L b->¬G1 b):
 a8 (φ.gC ρ nv) G1 (cZ 0 (dO m ρ bor nv 0 ρ)) w/\(∀y v,az φ w (Fo G φ m) y v->az (φ.gC ρ nv) w (Fo G1 (φ.gC ρ nv) (cZ 0 (dO m ρ bor nv 0 ρ))) (vw m ρ bor nv y) v)/\
  (∀b,Fo G1 (φ.gC ρ nv) (cZ 0 (dO m ρ bor nv 0 ρ)) b->Fo G φ m b):=by
 have AM:=vf (φ:=φ) (nv:=nv) (bor:=bor) AG;have A1:∀b,Fo G1 (φ.gC ρ nv) (cZ 0 (dO m ρ bor nv 0 ρ)) b->Fo G φ m b:=by
  rintro b (h|h)
  ·exact AX b h
  ·exact .inr ((AM b).1 h).own
 have A7:∀k e L b,Mem.get m k=some e->k∉ρ->bor k=true->φ k=some L->e.cont.cD L b->¬Fo G1 (φ.gC ρ nv) (cZ 0 (dO m ρ bor nv 0 ρ)) b:=by
  rintro k e L b H E Aw A A' (h|h)
  ·exact AF k e L b H E Aw A A' h
  ·exact Cz hm H A A' E ((AM _).1 h)
 have AN:∀y v,az φ w (Fo G φ m) y v->az (φ.gC ρ nv) w (Fo G1 (φ.gC ρ nv) (cZ 0 (dO m ρ bor nv 0 ρ))) (vw m ρ bor nv y) v:=λy v h=>acs hm A1 A7 h;have Y:∀x v,aJ w (Fo G φ m) x v->aJ w (Fo G1 (φ.gC ρ nv) (cZ 0 (dO m ρ bor nv 0 ρ))) x v:=λx v h=>h.mono (λ_ _ _=>rfl) (aai _) (λb _=>A1 b);have part:∀{e:cg},e∈cZ 0 (dO m ρ bor nv 0 ρ)->∃j k q A0,ρ[j]?=some k/\Mem.get m k=some q/\φ k=some A0/\A0.ak=q.ak/\dD φ w (Fo G φ m) A0 q.cont/\e=⟨j,nv j q.ak,uu m ρ bor nv q.cont⟩:=by
  intro e he;obtain⟨j,v,c,N,rfl⟩:=j0.1 he;rw[vZ]at N;obtain⟨k,E,A8⟩:=aak.1 N;obtain⟨q,A4⟩:=akr.1 (AG k (aao E));rw[A4]at A8;simp only[uv,ab3,ac3]at A8;obtain⟨rfl,rfl⟩:=A8;obtain⟨_,_,A0,A6,V,Z⟩:=hm.get A4;exact⟨j,k,q,A0,E,A4,A6,V,Z,by simp⟩
 refine⟨⟨?_,?_,?_,?_,?_,?_⟩,AN,A1⟩
 ·rw[pb];exact List.nodup_range'
 ·intro i L A;rw[pb,pM];simp only[bG.gC]at A;split at A
  ·rename_i k E;have:=(aaf.1 E).1;simp[List.mem_range'];omega
  ·cases A
 ·intro e he;obtain⟨j,k,q,A0,E,A4,A6,V,Z,rfl⟩:=part he;refine⟨{A0 with ak:=nv j A0.ak},by simp[bG.gC,E,A6],by simp[V],?_⟩;cases I:q.cont with
  |dead=>trivial
  |box cs=>
   rw[I]at Z;obtain⟨g0,arr,elem,g1,g2,g3,g4⟩:=Z;refine⟨by simpa [kz]using g0,arr,elem,g1,by simp[kz,g2],g3,λi c v AY O=>?_⟩;rw[rS]at AY;obtain⟨y,A3,rfl⟩:=aak.1 AY;exact AN y v (g4 i y v A3 O)
  |vec sz ag=>
   rw[I]at Z;obtain⟨g1,g2,g3,g4⟩:=Z;refine⟨g1,g2,g3,λAI=>?_⟩;obtain⟨arr,elem,f1,f2,f3,f4⟩:=g4 AI;exact⟨arr,elem,f1,f2,f3,λi d Ax=>let ⟨v,O,N⟩:=f4 i d Ax;⟨v,Y _ _ O,N⟩⟩
  |vv ag y=>
   rw[I]at Z;exact (jO.mono (vw m ρ bor nv) Z (λ_ _ _ _ u hu=>Y _ u hu) (λx _ v AK=>AN x v AK) (λ_ _=>rfl)).ak _
 ·intro e he e' Ay L L' A J Az;obtain⟨j,k,q,A0,E,A4,A6,V,Z,rfl⟩:=part he;obtain⟨B7,Ae,B',B0,AD,B1,AZ,B8,B9,rfl⟩:=part Ay;simp only[bG.gC,E,A6,AD,AZ,afJ,aax]at A J;subst A;subst J;obtain⟨B2,A_⟩:=Mem.get_mem A4;obtain⟨B3,Aa⟩:=Mem.get_mem B1;have:=hm.apart q B2 B' B3 A0 B0 (by rw[A_];exact A6) (by rw[Aa];exact AZ) (Az.imp λb h=>⟨jB.1 (tE.1 h.1),jB.1 (tE.1 h.2)⟩);rw[A_,Aa]at this;obtain⟨hi,AC⟩:=aaf.1 E;obtain⟨N,AH⟩:=aaf.1 AD;exact (List.getElem_inj AB).1 (AC.trans (this.trans AH.symm))
 ·exact λb AO=>Av b ((AM b).1 AO)
 ·exact λb AO=>Bp hm b (AX b AO)
end
mutual
def gK:D->Bool
 | .list (_::_)=>false
 | .list []=>true
 | .agg cs=>iZ cs
 | .int _ _=>true
 | .bool _=>true
 | .str _=>true
 | .xC=>true
def iZ:List D->Bool
 |[]=>true
 |x::r=>gK x&&iZ r
end
theorem pN:∀{l:List D},iZ l=true->∀x∈l,gK x=true
 |[],_,x,N=>by simp at N
 |y::r,h,x,N=>by
  simp only[iZ,Ds]at h;rcases aan.1 N with rfl|N
  ·exact h.1
  ·exact pN h.2 x N
theorem aJ.plain{w w':World}{F F':Nat->Prop}{d v}(h:aJ w F d v)(T:gK d=true):aJ w' F' d v:=by
 induction h with
 |int k n=>exact .int k n
 |bool b=>exact .bool b
 |xC v h=>exact .xC v h
 |str b s h=>exact .str b s h
 |agg cs a A7 AY _ ih=>
  refine .agg cs a A7 AY (λi d v O V=>ih i d v O V (pN (by simpa only[gK]using T) d (aao O)))
 |nil a cap A8=>exact .nil a cap A8
 |list xs b off cap sz vs BO A3 BP BQ V M _=>
  cases xs with
  |nil=>exact .nil _ _ (by simp)
  |cons=>simp[gK]at T
mutual
def dj:AV->Bool
 | .d x=>gK x
 | .dq _ _=>false
 | .agg cs=>jC cs
 | .fn _ cap=>jC cap
 | .bM vs=>jC vs
 | .fR _ x=>gK x
 | .aY=>true
 | .ptr _ _ _=>true
 | .vec _ _ _ _=>true
 | .cn _ _ _ _=>true
 | .lit _=>true
 | .nn=>true
 | .err=>true
def jC:List AV->Bool
 |[]=>true
 |x::r=>dj x&&jC r
end
theorem j1:∀{l:List AV},jC l=true->∀x∈l,dj x=true
 |[],_,x,N=>by simp at N
 |y::r,h,x,N=>by
  simp only[jC,Ds]at h;rcases aan.1 N with rfl|N
  ·exact h.1
  ·exact j1 h.2 x N
def kO:ay->Bool
 | .dead=>true
 | .box cs=>jC cs
 | .vec _ ag=>iZ ag
 | .vv ag y=>ag.all iZ&&(match y with|none=>true|some x=>dj x)
mutual
def up(ρ A:List Nat):AV->AV
 | .ptr k ak off=>.ptr (ρ.getD k 0) (A.getD k 0+ak) off
 | .vec k ak off len=>.vec (ρ.getD k 0) (A.getD k 0+ak) off len
 | .cn k ak i j=>.cn (ρ.getD k 0) (A.getD k 0+ak) i j
 | .agg cs=>.agg (tF ρ A cs)
 | .fn f cap=>.fn f (tF ρ A cap)
 | .bM vs=>.bM (tF ρ A vs)
 | .aY=>.aY
 | .d x=>.d x
 | .dq x j=>.dq x j
 | .fR t x=>.fR t x
 | .lit v=>.lit v
 | .nn=>.nn
 | .err=>.err
def tF(ρ A:List Nat):List AV->List AV
 |[]=>[]
 |x::r=>up ρ A x::tF ρ A r
end
theorem rT(ρ A):∀(l:List AV)(i:Nat),(tF ρ A l)[i]?=(l[i]?).map (up ρ A)
 |[],i=>by simp[tF]
 |x::r,i=>by cases i with|zero=>simp[tF]|succ i=>simp[tF,rT ρ A r i]
theorem kA(ρ A):∀(l:List AV),(tF ρ A l).length=l.length
 |[]=>rfl
 |x::r=>by simp[tF,kA ρ A r]
def CB(ρ A:List Nat):ay->ay
 | .dead=>.dead
 | .box cs=>.box (tF ρ A cs)
 | .vec sz ag=>.vec sz ag
 | .vv ag y=>.vv ag (y.map (up ρ A))
def gX(ρ A:List Nat):Nat->List (Nat×ay)->List cg
 |_,[]=>[]
 |i,(v,c)::r=>⟨ρ.getD i 0,A.getD i 0+v,CB ρ A c⟩::gX ρ A (i+1) r
theorem tG{ρ A:List Nat}:∀{l:List (Nat×ay)}{i:Nat}{e:cg},e∈gX ρ A i l↔∃j v c,l[j]?=some (v,c)/\e=⟨ρ.getD (i+j) 0,A.getD (i+j) 0+v,CB ρ A c⟩
 |[],i,e=>by simp[gX]
 |(v,c)::r,i,e=>by
  simp only[gX,aan,tG (l:=r)];constructor
  ·rintro (rfl|⟨j,AI,AJ,h,rfl⟩)
   ·exact⟨0,v,c,by simp,by simp⟩
   ·exact⟨j+1,AI,AJ,by simpa using h,by rw[show i+(j+1)=i+1+j by omega]⟩
  ·rintro ⟨j,AI,AJ,h,rfl⟩;cases j with
   |zero=>simp at h;obtain⟨rfl,rfl⟩:=h;left;simp
   |succ j=>right;exact⟨j,AI,AJ,by simpa using h,by rw[show i+(j+1)=i+1+j by omega]⟩
theorem CC{ρ A:List Nat}:∀(l:List (Nat×ay))(i:Nat),(gX ρ A i l).map (·.key)=(List.range' i l.length).map λj=>ρ.getD j 0
 |[],i=>rfl
 |(v,c)::r,i=>by simp[gX,CC r,afZ]
def bq(m:Mem):List cg->Mem
 |[]=>m
 |e::r=>bq (Mem.set m e) r
theorem jE:∀(es:List cg)(m:Mem),(bq m es).map (·.key)=m.map (·.key)
 |[],m=>rfl
 |e::r,m=>by rw[bq,jE r,Mem.fS]
theorem CD:∀(es:List cg)(m:Mem),(m.map (·.key)).Nodup->(es.map (·.key)).Nodup->(∀e∈es,e.key∈m.map (·.key))->∀e,e∈bq m es↔e∈es\/(e∈m/\e.key∉es.map (·.key))
 |[],m,_,_,_,e=>by simp[bq]
 |x::r,m,hm,A8,A0,e=>by
  simp only[acZ,List.nodup_cons]at A8;rw[bq,CD r (Mem.set m x) (by rw[Mem.fS];exact hm) A8.2 (λe he=>by rw[Mem.fS];exact A0 e (by simp[he])),Mem.mem_set hm];have N:=A0 x (by simp);constructor
  ·rintro (h|⟨⟨rfl,_⟩|⟨h,U⟩,AL⟩)
   ·left;simp[h]
   ·left;simp
   ·right;exact⟨h,by simp only[acZ,aan,akD];exact⟨U,AL⟩⟩
  ·rintro (h|⟨h,AL⟩)
   ·rcases aan.1 h with rfl|h
    ·right;exact⟨.inl ⟨rfl,N⟩,A8.1⟩
    ·left;exact h
   ·simp only[acZ,aan,akD]at AL;right;exact⟨.inr ⟨h,AL.1⟩,AL.2⟩
def base(m:Mem)(d:Nat):List Nat->List Nat
 |[]=>[]
 |k::r=>(match Mem.get m k with|some e=>e.ak+d|none=>0)::base m d r
theorem Bu(m:Mem)(d:Nat):∀(l:List Nat)(i:Nat),(base m d l)[i]?=(l[i]?).map λk=>match Mem.get m k with|some e=>e.ak+d|none=>0
 |[],i=>by simp[base]
 |k::r,i=>by cases i with|zero=>simp[base]|succ i=>simp[base,Bu m d r i]
theorem pO(m:Mem)(d:Nat):∀(l:List Nat),(base m d l).length=l.length
 |[]=>rfl
 |k::r=>by simp[base,pO m d r]
def gu:Nat->Nat->Nat:=λ_ _=>0
def kB(φ:bG)(G:Fr)(m:Mem)(ρ B:List Nat):Fr:=⟨λb=>Fo G φ m b/\¬yr φ m ρ b/\¬yr φ m B b,[]⟩
section
variable {φ:bG} {G:Fr} {m:Mem} {w:World} {ρ B:List Nat}
theorem E9(hm:a8 φ G m w)(A8:ρ.Nodup)(AR:∀k∈ρ,(Mem.get m k).isSome=true):
 a8 (φ.gC ρ gu) (kB φ G m ρ B) (cZ 0 (dO m ρ (λk=>B.contains k) gu 0 ρ)) w/\
  (∀y v,az φ w (Fo G φ m) y v->az (φ.gC ρ gu) w (Fo (kB φ G m ρ B) (φ.gC ρ gu) (cZ 0 (dO m ρ (λk=>B.contains k) gu 0 ρ))) (vw m ρ (λk=>B.contains k) gu y) v)/\
  (∀b,Fo (kB φ G m ρ B) (φ.gC ρ gu) (cZ 0 (dO m ρ (λk=>B.contains k) gu 0 ρ)) b->Fo G φ m b):=
 z6 hm A8 AR (λb h=>h.1) (λb h AZ=>AZ.2.1 h) (λk e L b B5 _ A3 E I AZ=>AZ.2.2 ⟨k,by simpa using A3,e,L,B5,E,I⟩)
theorem az.upR{φ φ':bG}{ρ A:List Nat}{w F F' x v}(h:az φ w F x v)(A_:∀i L,φ i=some L->φ' (ρ.getD i 0)=some {L with ak:=A.getD i 0+L.ak})
 (O:(∀b,F' b->F b)\/dj x=true):az φ' w F' (up ρ A x) v:=by
 have Aj:∀{d v},aJ w F d v->((∀b,F' b->F b)\/gK d=true)->aJ w F' d v:=λh O=>by
  rcases O with O|O
  ·exact h.mono (λ_ _ _=>rfl) (aai _) (λb _=>O b)
  ·exact h.plain O
 induction h with
 |aY v=>exact .aY v
 |d x v h=>exact .d x v (Aj h (O.imp id (by simp[dj])))
 |agg cs a A7 A1 _ ih=>
  refine .agg _ a (by rw[kA];exact A7) A1 (λi c v M V=>?_);rw[rT]at M;obtain⟨y,A4,rfl⟩:=aak.1 M;exact ih i y v A4 V (O.imp id λT=>j1 (by simpa only[dj]using T) y (aao A4))
 |ptr k ak off v L E V h A1=>exact .ptr _ _ off v _ (A_ k L E) (by simp only;omega) (λhe=>h (by simp only at he;omega)) A1
 |vec k ak off len v L E V h A1=>exact .vec _ _ off len v _ (A_ k L E) (by simp only;omega) (λhe=>h (by simp only at he;omega)) A1
 |cn k ak i j v L E V h A1=>exact .cn _ _ i j v _ (A_ k L E) (by simp only;omega) (λhe=>h (by simp only at he;omega)) A1
 |dq x j b off B6 A3 B7 N M=>
  rcases O with O|O
  ·exact .dq x j b off B6 A3 (λh=>B7 (O b h)) (N.mono (λ_ _ _=>rfl) (aai _) (λb _=>O b)) M
  ·simp[dj]at O
 |fn f cap a AY A7 _ ih=>
  refine .fn f _ a AY (by rw[kA];exact A7) (λi c v M V=>?_);rw[rT]at M;obtain⟨y,A4,rfl⟩:=aak.1 M;exact ih i y v A4 V (O.imp id λT=>j1 (by simpa only[dj]using T) y (aao A4))
 |qW f cap a A7 _ ih=>
  refine .qW f _ a (by rw[kA];exact A7) (λi c v M V=>?_);rw[rT]at M;obtain⟨y,A4,rfl⟩:=aak.1 M;exact ih i y v A4 V (O.imp id λT=>j1 (by simpa only[dj]using T) y (aao A4))
 |bM vs a A7 _ ih=>
  refine .bM _ a (by rw[kA];exact A7) (λi c v M V=>?_);rw[rT]at M;obtain⟨y,A4,rfl⟩:=aak.1 M;exact ih i y v A4 V (O.imp id λT=>j1 (by simpa only[dj]using T) y (aao A4))
 |fR t x v h=>exact .fR t x v (Aj h (O.imp id (by simp[dj])))
 |lit v h=>exact .lit v h
 |nn a cap=>exact .nn a cap
 |err t v=>exact .err t v
theorem pc{ρ A L c b}:(CB ρ A c).cD L b↔c.cD L b:=by cases c<;>exact Iff.rfl
theorem Fa(h:a8 φ G m w)(A8:ρ.Nodup)(AR:∀k∈ρ,(Mem.get m k).isSome=true){fr:List Nat}(B8:fr.Nodup)(Ak:∀k∈fr,(Mem.get m k).isSome=true/\k∉ρ)
 {q:bG} {J:List (Nat×ay)} {A5:World} (AS:a8 q (kB φ G m ρ B) (cZ 0 J) A5)
 (A0:aP (φ.gC ρ gu) (cZ 0 (dO m ρ (λk=>B.contains k) gu 0 ρ)) w q (cZ 0 J) A5) (B9:J.length=ρ.length+fr.length)
 (BA:B=[]\/∀e∈J,kO e.2=true):
 ∃φ':bG,a8 φ' G (bq m (gX (ρ++fr) (base m 0 ρ++base m 1 fr) 0 J)) A5/\aP φ m w φ' (bq m (gX (ρ++fr) (base m 0 ρ++base m 1 fr) 0 J)) A5/\
  ∀x v,(B=[]\/dj x=true)->az q A5 (Fo (kB φ G m ρ B) q (cZ 0 J)) x v->
   az φ' A5 (Fo G φ' (bq m (gX (ρ++fr) (base m 0 ρ++base m 1 fr) 0 J))) (up (ρ++fr) (base m 0 ρ++base m 1 fr) x) v:=by
 obtain⟨H,AF⟩:∃H,H=ρ++fr:=⟨_,rfl⟩;obtain⟨A,Aa⟩:∃A,A=base m 0 ρ++base m 1 fr:=⟨_,rfl⟩;rw[<-AF,<-Aa];have Al:H.Nodup:=by
  rw[AF,List.nodup_append];exact⟨A8,B8,λa BB b A3 BC=>(Ak b A3).2 (BC▸BB)⟩
 have BD:J.length=H.length:=by rw[AF,ab0];exact B9
 have An:∀k∈H,(Mem.get m k).isSome=true:=λk Y=>by
  rw[AF]at Y;rcases abT.1 Y with A1|A1
  ·exact AR k A1
  ·exact (Ak k A1).1
 have Ao:∀k∈H,k∈m.map (·.key):=λk Y=>by
  obtain⟨e,he⟩:=akr.1 (An k Y);obtain⟨hm,rfl⟩:=Mem.get_mem he;exact abY hm
 obtain⟨φ',Ap⟩:∃φ':bG,φ'=λk=>match jK H k 0 with|some i=>(q i).map (λL=>{L with ak:=A.getD i 0+L.ak})|none=>φ k:=⟨_,rfl⟩
 have BE:∀{i},i<H.length->H[i]?=some (H.getD i 0):=λhi=>by simp[hi]
 have BF:∀{i},i<H.length->φ' (H.getD i 0)=(q i).map (λL=>{L with ak:=A.getD i 0+L.ak}):=λhi=>by
  simp only[Ap,RV Al (BE hi)]
 have A9:∀{k},k∉H->φ' k=φ k:=λY=>by simp only[Ap,jg.2 Y]
 have BG:∀{i L},q i=some L->i<H.length:=λE=>by
  have:=AS.oI _ _ E;rw[pb]at this;simp[List.mem_range']at this;omega
 have A6:∀i L,q i=some L->φ' (H.getD i 0)=some {L with ak:=A.getD i 0+L.ak}:=λi L E=>by
  rw[BF (BG E),E];rfl
 --BH entries behind
 have AA:=CD (gX H A 0 J) m h.nodup;have Aq:(gX H A 0 J).map (·.key)=H:=by
  rw[CC,BD];apply List.ext_getElem?;intro i;by_cases hi:i<H.length
  ·simp[hi]
  ·rw[afq (by simp;omega),afq (by omega)]
 rw[Aq]at AA;replace AA:=AA Al (λe he=>Ao e.key (by rw[<-Aq];exact abY he));have AK:∀{e},e∈gX H A 0 J->∃j v c L,j<H.length/\J[j]?=some (v,c)/\e=⟨H.getD j 0,A.getD j 0+v,CB H A c⟩/\q j=some L/\L.ak=v/\dD q A5 (Fo (kB φ G m ρ B) q (cZ 0 J)) L c:=by
  intro e he;obtain⟨j,v,c,Z,rfl⟩:=tG.1 he;have AM:=(aaf.1 Z).1;obtain⟨L,E,AB,M⟩:=AS.fC ⟨0+j,v,c⟩ (j0.2 ⟨j,v,c,Z,rfl⟩);simp only[ac3]at E⊢;exact⟨j,v,c,L,by omega,Z,rfl,E,AB,M⟩
 have AN:=vf (φ:=φ) (nv:=gu) (bor:=λk=>B.contains k) AR;have Ab:∀b,gS φ' (bq m (gX H A 0 J)) b↔gS q (cZ 0 J) b\/∃e∈m,e.key∉H/\∃L,φ e.key=some L/\e.cont.cD L b:=by
  intro b;constructor
  ·rintro ⟨e,he,L,E,I⟩;rcases (AA e).1 he with he|⟨he,U⟩
   ·obtain⟨j,v,c,A',AM,Z,rfl,A2,AB,M⟩:=AK he;left;simp only[A6 j A' A2,aax]at E;subst E;exact⟨⟨0+j,v,c⟩,j0.2 ⟨j,v,c,Z,rfl⟩,A',by simpa using A2,jB.1 (pc.1 I)⟩
   ·right;exact⟨e,he,U,L,by rw[<-A9 U];exact E,I⟩
  ·rintro (⟨BR,AO,L,E,I⟩|⟨e,he,U,L,E,I⟩)
   ·obtain⟨j,v,c,Z,rfl⟩:=j0.1 AO;simp only[ac3]at E;exact⟨⟨H.getD j 0,A.getD j 0+v,CB H A c⟩,(AA _).2 (.inl (tG.2 ⟨j,v,c,Z,by simp⟩)),_,A6 j L E,pc.2 (jB.2 I)⟩
   ·exact⟨e,(AA _).2 (.inr ⟨he,U⟩),L,by rw[A9 U];exact E,I⟩
 have Ac:∀{k},k∉H->k∉ρ:=λY A1=>Y (by rw[AF];exact ag8 _ A1)
 --BS entry beside shares no block with BH BT
 have Ad:∀e∈m,e.key∉ρ->∀L b,φ e.key=some L->e.cont.cD L b->¬yr φ m ρ b:=λe he U L b E I=>
  Cz h (Mem.get_of_mem h.nodup he) E I U
 have hle:φ.le φ':=by
  intro k L E;by_cases Y:k∈H
  ·obtain⟨i,hi,rfl⟩:=alr.1 Y;have Ar:H.getD i 0=H[i]:=by simp[hi]
   obtain⟨e,he⟩:=akr.1 (An _ Y);obtain⟨_,_,BU,As,AB,_⟩:=h.get he;rw[E]at As;cases As;by_cases At:i<ρ.length
   ·have AT:ρ[i]?=some H[i]:=by simp only[AF];rw[List.getElem_append_left At];simp
    have Au:A.getD i 0=L.ak:=by
     rw[Aa,afC,aaq (by rw[pO];exact At),Bu,AT];simp[he,AB]
    obtain⟨L',AC,BV,BI⟩:=A0.le i {L with ak:=0} (by simp[bG.gC,AT,E,gu]);refine⟨{L' with ak:=A.getD i 0+L'.ak},by rw[<-Ar];exact A6 i L' AC,by simp only;omega,λAO=>?_⟩;simp only at AO;have AP:=BI (by simp only;omega);have g1:=ac8 Loc.ak AP;have g2:=ac8 Loc.cU AP;have g3:=ac8 Loc.sz AP;have g4:=ac8 Loc.cap AP;have g5:=ac8 Loc.base AP;simp only at g1 g2 g3 g4 g5⊢;rw[g1,g2,g3,g4,g5,Au,afA]
   ·have BJ:i<J.length:=by omega
    obtain⟨L',AD,_,_⟩:=AS.fC ⟨0+i,J[i].1,J[i].2⟩ (j0.2 ⟨i,_,_,by simp[BJ],rfl⟩);simp only[ac3]at AD;have AT:fr[i-ρ.length]?=some H[i]:=by
     simp only[AF]at hi⊢;rw[List.getElem_append_right (by omega)];simp
    have Au:A.getD i 0=L.ak+1:=by
     rw[Aa,afC,aaF (by rw[pO];omega),pO,Bu,AT];simp[he,AB]
    refine⟨{L' with ak:=A.getD i 0+L'.ak},by rw[<-Ar];exact A6 i L' AD,by simp only;omega,λAO=>?_⟩;simp only at AO;omega
  ·exact⟨L,by rw[A9 Y];exact E,aai _,λ_=>rfl⟩
 have Av:∀b,b<w.heap.size->gS φ' (bq m (gX H A 0 J)) b->gS φ m b:=by
  intro b A3 Ae;rcases (Ab b).1 Ae with AC|⟨e,he,_,L,E,I⟩
  ·exact ((AN b).1 (A0.own b A3 AC)).own
  ·exact⟨e,he,L,E,I⟩
 have hold:∀b,b<w.heap.size->¬gS φ m b->A5.heap[b]?=w.heap[b]?:=λb A3 Af=>A0.x8 b A3 (λI=>Af ((AN b).1 I).own);have Aw:B=[]->∀b,Fo G φ' (bq m (gX H A 0 J)) b->Fo (kB φ G m ρ B) q (cZ 0 J) b:=by
  rintro rfl b (AE|I)
  ·refine .inl ⟨.inl AE,λI=>h.jP b I.own AE,?_⟩;rintro ⟨k,Y,_⟩;simp at Y
  ·rcases (Ab b).1 I with AC|⟨e,he,U,L,E,Ax⟩
   ·exact .inr AC
   ·refine .inl ⟨.inr ⟨e,he,L,E,Ax⟩,Ad e he (Ac U) L b E Ax,?_⟩;rintro ⟨k,Y,_⟩;simp at Y
 have Ag:∀x v,(B=[]\/dj x=true)->az q A5 (Fo (kB φ G m ρ B) q (cZ 0 J)) x v->az φ' A5 (Fo G φ' (bq m (gX H A 0 J))) (up H A x) v:=
  λx v N AU=>AU.upR A6 (N.imp Aw id)
 have Ay:∀d v,(B=[]\/gK d=true)->aJ A5 (Fo (kB φ G m ρ B) q (cZ 0 J)) d v->aJ A5 (Fo G φ' (bq m (gX H A 0 J))) d v:=λd v N AU=>by
  rcases N with N|N
  ·exact AU.mono (λ_ _ _=>rfl) (aai _) (λb _=>Aw N b)
  ·exact AU.plain N
 refine⟨φ',⟨?_,?_,?_,?_,?_,?_⟩,⟨hle,hold,Av,A0.size,A0.os,A0.tape,A0.output⟩,Ag⟩
 ·rw[jE];exact h.nodup
 ·intro k L E;rw[jE];by_cases Y:k∈H
  ·exact Ao k Y
  ·rw[A9 Y]at E;exact h.oI k L E
 ·intro e he;rcases (AA e).1 he with he|⟨he,U⟩
  ·obtain⟨j,v,c,A',AM,Z,rfl,A2,AB,M⟩:=AK he;refine⟨_,A6 j A' A2,by simp[AB],?_⟩;have AW:B=[]\/kO c=true:=BA.imp id λT=>T (v,c) (aao Z);cases c with
   |dead=>trivial
   |box cs=>
    obtain⟨g0,arr,elem,g1,g2,g3,g4⟩:=M;refine⟨by simpa [kA]using g0,arr,elem,g1,by simp[kA,g2],g3,λi c v Az V=>?_⟩;rw[rT]at Az;obtain⟨y,A4,rfl⟩:=aak.1 Az;exact Ag y v (AW.imp id λT=>j1 (by simpa only[kO]using T) y (aao A4)) (g4 i y v A4 V)
   |vec sz ag=>
    obtain⟨g1,g2,g3,g4⟩:=M;refine⟨g1,g2,g3,λBK=>?_⟩;obtain⟨arr,elem,f1,f2,f3,f4⟩:=g4 BK;exact⟨arr,elem,f1,f2,f3,λi d B'=>let ⟨v,V,Z⟩:=f4 i d B';⟨v,Ay d v (AW.imp id λT=>pN (by simpa only[kO]using T) d (aao B')) V,Z⟩⟩
   |vv ag y=>
    refine (jO.mono (up H A) M (λxs BL d O u hu=>Ay d u (AW.imp id λT=>?_) hu) (λx N v V=>Ag x v (AW.imp id λT=>?_) V) (λ_ _=>rfl)).ak _
    ·simp only[kO,Ds,aaH]at T;exact pN (T.1 xs BL) d O
    ·simp only[kO,Ds,N]at T;exact T.2
  ·obtain⟨L,E,AB,M⟩:=h.fC e he;refine⟨L,by rw[A9 U];exact E,AB,M.mono hle (λb A3 Af=>hold b A3 (λI=>Af (.inr I))) A0.size (λb A3=>Or.imp id (Av b A3)) (λb I=>?_)⟩;exact A0.x8 _ (M.lt I) (λA1=>Ad e he (Ac U) L b E I ((AN _).1 A1))
 ·rintro e he e' AG L L' E AD ⟨b,I,AX⟩;have B0:∀{j v c A' AH AQ},J[j]?=some (v,c)->q j=some A'->c.cD A' b->AH∈m->AH.key∉H->φ AH.key=some AQ->AH.cont.cD AQ b->False:=by
   intro j v c A' AH AQ Z A2 M B1 U B2 B3;have BM:b<w.heap.size:=h.Cg ⟨AH,B1,AQ,B2,B3⟩;have AC:gS q (cZ 0 J) b:=⟨⟨0+j,v,c⟩,j0.2 ⟨j,v,c,Z,rfl⟩,A',by simpa using A2,M⟩;exact Ad AH B1 (Ac U) AQ b B2 B3 ((AN _).1 (A0.own _ BM AC))
  rcases (AA e).1 he with he|⟨he,U⟩<;>rcases (AA e').1 AG with AG|⟨AG,Ah⟩
  ·obtain⟨j,v,c,A',AM,Z,rfl,A2,_,_⟩:=AK he;obtain⟨Ai,AI,AJ,L2',BW,BN,rfl,B4,_,_⟩:=AK AG;simp only[A6 j A' A2,A6 Ai L2' B4,aax]at E AD;subst E;subst AD;have:=AS.apart ⟨0+j,v,c⟩ (j0.2 ⟨j,v,c,Z,rfl⟩) ⟨0+Ai,AI,AJ⟩ (j0.2 ⟨Ai,AI,AJ,BN,rfl⟩) A' L2' (by simpa using A2) (by simpa using B4) ⟨b,jB.1 (pc.1 I),jB.1 (pc.1 AX)⟩;simp only[ac3]at this;rw[this]
  ·obtain⟨j,v,c,A',AM,Z,rfl,A2,_,_⟩:=AK he;simp only[A6 j A' A2,aax]at E;subst E;exact (B0 Z A2 (jB.1 (pc.1 I)) AG Ah (by rw[<-A9 Ah];exact AD) AX).elim
  ·obtain⟨j,v,c,A',AM,Z,rfl,A2,_,_⟩:=AK AG;simp only[A6 j A' A2,aax]at AD;subst AD;exact (B0 Z A2 (jB.1 (pc.1 AX)) he U (by rw[<-A9 U];exact E) I).elim
  ·exact h.apart e he e' AG L L' (by rw[<-A9 U];exact E) (by rw[<-A9 Ah];exact AD) ⟨b,I,AX⟩
 ·intro b Ae AE;rcases (Ab b).1 Ae with AC|⟨e,he,_,L,E,I⟩
  ·exact h.jP b ((AN b).1 (A0.own b (h.bound b AE) AC)).own AE
  ·exact h.jP _ ⟨e,he,L,E,I⟩ AE
 ·exact λb AE=>afQ (h.bound b AE) A0.size
end
def dz(S AA:St):Prop:=AA.n=S.n/\AA.gl=S.gl/\∀φ G a w,Rel φ G S a w->∃φ',Rel φ' G AA a w/\aP φ S.mem w φ' AA.mem w
theorem dz.refl(S:St):dz S S:=⟨rfl,rfl,λφ _ _ _ h=>⟨φ,h,aP.refl ..⟩⟩
theorem dz.trans{S AA AW:St}(h:dz S AA)(k:dz AA AW):dz S AW:=
 ⟨k.1.trans h.1,k.2.1.trans h.2.1,λφ G a w AB=>by
  obtain⟨Ab,J,Ac⟩:=h.2.2 φ G a w AB;obtain⟨Ad,Ae,Af⟩:=k.2.2 Ab G a w J;exact⟨Ad,Ae,Ac.trans Af⟩⟩
theorem OJ(S:St)(pa:List Nat):dz S (S.prune pa):=⟨rfl,rfl,λφ _ _ _ h=>⟨φ,h.prune pa,aP.refl ..⟩⟩
theorem Hr{w:World}{φ φ':bG}{m m':Mem}(h:∀b,gS φ' m' b->gS φ m b)(hle:φ.le φ'):aP φ m w φ' m' w:=
 ⟨hle,λ_ _ _=>rfl,λb _ q=>h b q,aai _,rfl,rfl,rfl⟩
def pe(A:AV->AV):ay->ay
 | .box cs=>.box (cs.map A)
 | .dead=>.dead
 | .vec sz ag=>.vec sz ag
 | .vv ag y=>.vv ag (y.map A)
def mapM(A:AV->AV)(e':cg):Mem->Mem
 |[]=>[]
 |e::r=>(if e.key=e'.key then e' else ⟨e.key,e.ak,pe A e.cont⟩)::mapM A e' r
def mU(A:AV->AV):Env->Env
 |[]=>[]
 |(t,g,x)::r=>(t,g,A x)::mU A r
theorem yu(A:AV->AV):∀(env:Env)(t:Nat)(g:Bool)(y:AV),Env.lk (mU A env) t=some (g,y)->∃x,Env.lk env t=some (g,x)/\y=A x
 |[],t,g,y,h=>by simp[mU,Env.lk]at h
 |(Ag,B4,AI)::r,t,g,y,h=>by
  simp only[mU,Env.lk]at h⊢;by_cases AX:Ag=t
  ·subst AX;simp at h⊢;obtain⟨rfl,rfl⟩:=h;simp
  ·simp only[AX,acF]at h⊢;exact yu A r t g y h
theorem yw(A:AV->AV)(e':cg):∀m:Mem,(mapM A e' m).map (·.key)=m.map (·.key)
 |[]=>rfl
 |e::r=>by
  simp only[mapM,acZ,yw A e' r];congr 1;split
  ·rename_i h;exact h.symm
  ·rfl
theorem mapM_mem{A:AV->AV}{e':cg}:∀{m:Mem}{x:cg},x∈mapM A e' m↔∃e∈m,x=if e.key=e'.key then e' else ⟨e.key,e.ak,pe A e.cont⟩
 |[],x=>by simp[mapM]
 |e::r,x=>by simp[mapM,mapM_mem (m:=r)]
theorem kj{A L c b}:(pe A c).cD L b↔c.cD L b:=by cases c<;>exact Iff.rfl
def St.yx(S:St)(A:AV->AV)(e':cg):St:={S with env:=mU A S.env,mem:=mapM A e' S.mem}
theorem Hs{φ:bG}{G S a w}(h:Rel φ G S a w)(A:AV->AV){e e':cg}(he:e∈S.mem){L L':Loc}(O:φ e.key=some L)(A5:e'.key=e.key)
 (N:L.ak<L'.ak) (Ah:L'.ak=e'.ak) (AY:∀b,e'.cont.cD L' b->e.cont.cD L b)
 (Ai:∀(φ':bG)(F':Nat->Prop),φ' e.key=some L'->(∀k,k≠e.key->φ' k=φ k)->(∀b,F' b->Fo G φ S.mem b)->(∀b,¬e'.cont.cD L' b->e.cont.cD L b->¬F' b)->∀x v,az φ w (Fo G φ S.mem) x v->az φ' w F' (A x) v)
 (E:∀(φ':bG)(F':Nat->Prop),(∀b,F' b->Fo G φ S.mem b)->dD φ' w F' L' e'.cont):
 ∃φ',Rel φ' G (S.yx A e') a w/\aP φ S.mem w φ' (S.yx A e').mem w:=by
 have hm:=h.mem;obtain⟨φ',AZ⟩:∃φ':bG,φ'=λk=>if k=e.key then some L' else φ k:=⟨_,rfl⟩
 have Z:φ' e.key=some L':=by simp[AZ]
 have A':∀k,k≠e.key->φ' k=φ k:=λk H=>by simp[AZ,H]
 have hle:φ.le φ':=by
  intro k AD A4;by_cases H:k=e.key
  ·subst H;rw[O]at A4;cases A4;exact⟨L',Z,by omega,λhh=>by omega⟩
  ·exact⟨AD,by rw[A' k H];exact A4,aai _,λ_=>rfl⟩
 have AN:∀b,gS φ' (mapM A e' S.mem) b->gS φ S.mem b:=by
  rintro b ⟨x,T,AM,A0,A6⟩;obtain⟨y,M,rfl⟩:=mapM_mem.1 T;by_cases H:y.key=e'.key
  ·simp only[H,adI]at A0 A6;rw[A5,Z]at A0;cases A0;exact⟨e,he,L,O,AY b A6⟩
  ·simp only[H,acF]at A0 A6;rw[A5]at H;rw[A' _ H]at A0;exact⟨y,M,AM,A0,kj.1 A6⟩
 have U:∀b,Fo G φ' (mapM A e' S.mem) b->Fo G φ S.mem b:=λb=>Or.imp id (AN b);have AO:∀b,¬e'.cont.cD L' b->e.cont.cD L b->¬Fo G φ' (mapM A e' S.mem) b:=by
  rintro b Aj q (Ak|⟨x,T,AM,A0,A6⟩)
  ·exact hm.jP _ ⟨e,he,L,O,q⟩ Ak
  ·obtain⟨y,M,rfl⟩:=mapM_mem.1 T;by_cases H:y.key=e'.key
   ·simp only[H,adI]at A0 A6;rw[A5,Z]at A0;cases A0;exact Aj A6
   ·simp only[H,acF]at A0 A6;rw[A5]at H;rw[A' _ H]at A0;exact H (hm.apart y M e he AM L A0 O ⟨b,kj.1 A6,q⟩)
 have AP:=Ai φ' (Fo G φ' (mapM A e' S.mem)) Z A' U AO;refine⟨φ',⟨h.size,h.defers,?_,⟨?_,?_,?_,?_,?_,?_⟩,h.jR.mono (λ_ _ _=>rfl) (aai _) (λb _=>U b)⟩,Hr AN hle⟩
 ·intro t x T;obtain⟨y,M,rfl⟩:=yu A S.env t true x T;exact AP _ _ (h.env t y M)
 ·show ((mapM A e' S.mem).map (·.key)).Nodup;rw[yw];exact hm.nodup
 ·intro k AD A4;show k∈(mapM A e' S.mem).map (·.key);rw[yw];by_cases H:k=e.key
  ·subst H;exact abY he
  ·rw[A' k H]at A4;exact hm.oI k AD A4
 ·intro x T;obtain⟨y,M,rfl⟩:=mapM_mem.1 T;by_cases H:y.key=e'.key
  ·simp only[H,adI];exact⟨L',by rw[A5];exact Z,Ah,E _ _ U⟩
  ·simp only[H,acF];obtain⟨Al,An,Ao,AE⟩:=hm.fC y M;refine⟨Al,by rw[A' _ (by rw[<-A5];exact H)];exact An,Ao,?_⟩;cases AQ:y.cont with
   |dead=>trivial
   |box cs=>
    rw[AQ]at AE;obtain⟨g0,arr,elem,g1,g2,g3,g4⟩:=AE;refine⟨by simpa using g0,arr,elem,g1,by simp[g2],g3,λi c v A_ N=>?_⟩;rw[acj]at A_;obtain⟨z,AJ,rfl⟩:=aak.1 A_;exact AP z v (g4 i z v AJ N)
   |vec sz ag=>
    rw[AQ]at AE;obtain⟨g1,g2,g3,g4⟩:=AE;refine⟨g1,g2,g3,λA4=>?_⟩;obtain⟨arr,elem,f1,f2,f3,f4⟩:=g4 A4;exact⟨arr,elem,f1,f2,f3,λi d Ap=>let ⟨v,N,AR⟩:=f4 i d Ap;⟨v,N.mono (λ_ _ _=>rfl) (aai _) (λb _=>U b),AR⟩⟩
   |vv ag y=>
    rw[AQ]at AE;exact jO.mono A AE (λ_ _ _ _ u hu=>hu.mono (λ_ _ _=>rfl) (aai _) (λb _=>U b)) (λx _ v T=>AP x v T) (λ_ _=>rfl)
 ·rintro x T AI Aq AM B5 A0 Ar ⟨b,q,As⟩;obtain⟨y,M,rfl⟩:=mapM_mem.1 T;obtain⟨B6,At,rfl⟩:=mapM_mem.1 Aq;have pull:∀{z:cg}{AF:Loc},z∈S.mem->φ' (if z.key=e'.key then e' else ⟨z.key,z.ak,pe A z.cont⟩:cg).key=some AF->(if z.key=e'.key then e' else ⟨z.key,z.ak,pe A z.cont⟩:cg).cont.cD AF b->
   ∃z0∈S.mem,∃AD,φ z0.key=some AD/\z0.cont.cD AD b/\(if z.key=e'.key then e' else ⟨z.key,z.ak,pe A z.cont⟩:cg).key=z0.key:=by
   intro z AF AJ A7 AG;by_cases H:z.key=e'.key
   ·simp only[H,adI]at A7 AG⊢;rw[A5,Z]at A7;cases A7;exact⟨e,he,L,O,AY b AG,A5⟩
   ·simp only[H,acF]at A7 AG⊢;rw[A5]at H;rw[A' _ H]at A7;exact⟨z,AJ,AF,A7,kj.1 AG,rfl⟩
  obtain⟨z,AJ,AF,A7,AG,Au⟩:=pull M A0 q;obtain⟨Av,Aw,Ax,Ay,Az,B'⟩:=pull At Ar As;rw[Au,B'];exact hm.apart z AJ Av Aw AF Ax A7 Ay ⟨b,AG,Az⟩
 ·exact λb AK=>hm.jP b (AN b AK)
 ·exact hm.bound
mutual
def kC(k v off len:Nat):AV->AV
 | .vec A8 A9 o l=>if A8=k/\A9=v/\off<=o/\o+l<=off+len then .vec k (v+1) (o-off) l else .vec A8 A9 o l
 | .cn A8 A9 i j=>if A8=k/\A9=v/\off<=i then .cn k (v+1) (i-off) j else .cn A8 A9 i j
 | .agg cs=>.agg (l6 k v off len cs)
 | .fn f cap=>.fn f (l6 k v off len cap)
 | .bM vs=>.bM (l6 k v off len vs)
 | .aY=>.aY
 | .d x=>.d x
 | .ptr a b c=>.ptr a b c
 | .dq x j=>.dq x j
 | .fR t x=>.fR t x
 | .lit v=>.lit v
 | .nn=>.nn
 | .err=>.err
def l6(k v off len:Nat):List AV->List AV
 |[]=>[]
 |x::r=>kC k v off len x::l6 k v off len r
end
theorem qj(k v off len):∀(l:List AV)(i:Nat),(l6 k v off len l)[i]?=(l[i]?).map (kC k v off len)
 |[],i=>by simp[l6]
 |x::r,i=>by cases i with|zero=>simp[l6]|succ i=>simp[l6,qj k v off len r i]
theorem lI(k v off len):∀(l:List AV),(l6 k v off len l).length=l.length
 |[]=>rfl
 |x::r=>by simp[l6,lI k v off len r]
def St.trim(S:St)(k off len:Nat):St:=
 match Mem.get S.mem k with
 |some ⟨_,v,.vec sz ag⟩=>if off+len<=ag.length then S.yx (kC k v off len) ⟨k,v+1,.vec sz ((ag.drop off).take len)⟩else S
 |_=>S
theorem Fb(S:St)(k off len:Nat):dz S (S.trim k off len):=by
 unfold St.trim;split
 ·rename_i key v sz ag AS;split
  ·rename_i hle;refine⟨rfl,rfl,λφ G a w AB=>?_⟩;obtain⟨hm,H,L,O,AH,AL⟩:=AB.mem.get AS;simp only at H AH AL;subst H;obtain⟨g1,g2,g3,g4⟩:=AL;refine Hs AB (kC key v off len) (e:=⟨key,v,.vec sz ag⟩) (e':=⟨key,v+1,.vec sz ((ag.drop off).take len)⟩) hm O rfl (L':=⟨v+1,L.cU,L.sz,L.cap-off,L.base+off*L.sz,[]⟩)
    (by simp only;omega) rfl (λb q=>⟨by have:=q.1;simp only at this;omega,q.2⟩) ?_ ?_
   ·intro φ' F' Z A' U _ x u T;induction T with
    |aY v=>exact .aY v
    |d x v h=>exact .d x v (h.mono (λ_ _ _=>rfl) (aai _) (λb _=>U b))
    |agg cs a A1 J _ ih=>
     refine .agg _ a (by rw[lI];exact A1) J (λi c v E N=>?_);rw[qj]at E;obtain⟨y,M,rfl⟩:=aak.1 E;exact ih i y v M N
    |ptr V ak o v2 A3 I A2 h J=>
     unfold kC;by_cases Y:V=key
     ·subst Y;rw[O]at I;cases I;exact .ptr _ ak o v2 _ Z (by simp only;omega) (λhe=>by simp only at he;omega) J
     ·exact .ptr V ak o v2 A3 (by rw[A' _ Y];exact I) A2 h J
    |vec V ak o l v2 A3 I A2 h J=>
     unfold kC;split
     ·rename_i E;obtain⟨rfl,rfl,q,Aa⟩:=E;rw[O]at I;cases I;refine .vec _ _ _ l v2 _ Z (aai _) (λ_=>?_) J;obtain⟨a0,cap,rfl,B0,B1⟩:=h AH.symm;refine⟨a0,cap,rfl,B0,λB2=>?_⟩;obtain⟨rfl,B7⟩:=B1 B2;refine⟨?_,by simp only;omega⟩;congr 2;show L.base+o*L.sz=L.base+off*L.sz+(o-off)*L.sz;rw[aci,<-acU];congr 2;omega
     ·by_cases Y:V=key
      ·subst Y;rw[O]at I;cases I;exact .vec _ ak o l v2 _ Z (by simp only;omega) (λhe=>by simp only at he;omega) J
      ·exact .vec V ak o l v2 A3 (by rw[A' _ Y];exact I) A2 h J
    |cn V ak i j v2 A3 I A2 h J=>
     unfold kC;split
     ·rename_i E;obtain⟨rfl,rfl,q⟩:=E;rw[O]at I;cases I;refine .cn _ _ _ j v2 _ Z (aai _) (λ_=>?_) J;rw[h AH.symm];congr 3;show L.base+i*L.sz+j=L.base+off*L.sz+(i-off)*L.sz+j;rw[aci L.base (off*L.sz),<-acU];congr 3;omega
     ·by_cases Y:V=key
      ·subst Y;rw[O]at I;cases I;exact .cn _ ak i j v2 _ Z (by simp only;omega) (λhe=>by simp only at he;omega) J
      ·exact .cn V ak i j v2 A3 (by rw[A' _ Y];exact I) A2 h J
    |dq x j b o AI AK AT T E=>exact .dq x j b o AI AK (λh=>AT (U b h)) (T.mono (λ_ _ _=>rfl) (aai _) (λb _=>U b)) E
    |fn f cap a AU A1 _ ih=>
     refine .fn f _ a AU (by rw[lI];exact A1) (λi c v E N=>?_);rw[qj]at E;obtain⟨y,M,rfl⟩:=aak.1 E;exact ih i y v M N
    |qW f cap a A1 _ ih=>
     refine .qW f _ a (by rw[lI];exact A1) (λi c v E N=>?_);rw[qj]at E;obtain⟨y,M,rfl⟩:=aak.1 E;exact ih i y v M N
    |bM vs a A1 _ ih=>
     refine .bM _ a (by rw[lI];exact A1) (λi c v E N=>?_);rw[qj]at E;obtain⟨y,M,rfl⟩:=aak.1 E;exact ih i y v M N
    |fR t x v h=>exact .fR t x v (h.mono (λ_ _ _=>rfl) (aai _) (λb _=>U b))
    |lit v h=>exact .lit v h
    |nn a cap=>exact .nn a cap
    |err t v=>exact .err t v
   ·intro φ' F' U;refine⟨g1,by simp only[afn,acL];omega,λd AC=>g3 d (ach (acf AC)),λA4=>?_⟩;simp only at A4;obtain⟨arr,elem,f1,f2,f3,f4⟩:=g4 (by omega);refine⟨arr,elem,f1,?_,f3,λi d AC=>?_⟩
    ·rw[f2];show L.base+L.cap*L.sz=L.base+off*L.sz+(L.cap-off)*L.sz;rw[aci,<-acU];congr 2;omega
    ·rw[aaz]at AC;split at AC
     ·rw[acq]at AC;obtain⟨v,N,AR⟩:=f4 _ d AC;refine⟨v,N.mono (λ_ _ _=>rfl) (aai _) (λb _=>U b),λj c B3=>?_⟩;have:=AR j c B3;rw[acU]at this;rw[<-aci L.base]at this;exact this
     ·cases AC
  ·exact dz.refl S
 ·exact dz.refl S
mutual
def kD(k v:Nat)(ag:List D):AV->AV
 | .vec A8 A9 o l=>if A8=k/\A9=v/\o+l<=ag.length then .d (.list ((ag.drop o).take l))else .vec A8 A9 o l
 | .agg cs=>.agg (m8 k v ag cs)
 | .fn f cap=>.fn f (m8 k v ag cap)
 | .bM vs=>.bM (m8 k v ag vs)
 | .cn a b c d=>.cn a b c d
 | .aY=>.aY
 | .d x=>.d x
 | .ptr a b c=>.ptr a b c
 | .dq x j=>.dq x j
 | .fR t x=>.fR t x
 | .lit v=>.lit v
 | .nn=>.nn
 | .err=>.err
def m8(k v:Nat)(ag:List D):List AV->List AV
 |[]=>[]
 |x::r=>kD k v ag x::m8 k v ag r
end
theorem qk(k v ag):∀(l:List AV)(i:Nat),(m8 k v ag l)[i]?=(l[i]?).map (kD k v ag)
 |[],i=>by simp[m8]
 |x::r,i=>by cases i with|zero=>simp[m8]|succ i=>simp[m8,qk k v ag r i]
theorem lJ(k v ag):∀(l:List AV),(m8 k v ag l).length=l.length
 |[]=>rfl
 |x::r=>by simp[m8,lJ k v ag r]
def St.freeze(S:St)(k:Nat):St:=
 match Mem.get S.mem k with
 |some ⟨_,v,.vec _ ag⟩=>S.yx (kD k v ag) ⟨k,v+1,.dead⟩
 |_=>S
theorem J2(S:St)(k:Nat):dz S (S.freeze k):=by
 unfold St.freeze;split
 ·rename_i key v sz ag AS;refine⟨rfl,rfl,λφ G a w AB=>?_⟩;obtain⟨hm,H,L,O,AH,AL⟩:=AB.mem.get AS;simp only at H AH AL;subst H;refine Hs AB (kD key v ag) (e:=⟨key,v,.vec sz ag⟩) (e':=⟨key,v+1,.dead⟩) hm O rfl (L':={L with ak:=v+1})
   (by simp only;omega) rfl (λ_ q=>q.elim) ?_ (λ_ _ _=>trivial)
  intro φ' F' Z A' U AO x u T;induction T with
  |aY v=>exact .aY v
  |d x v h=>exact .d x v (h.mono (λ_ _ _=>rfl) (aai _) (λb _=>U b))
  |agg cs a A1 J _ ih=>
   refine .agg _ a (by rw[lJ];exact A1) J (λi c v E N=>?_);rw[qk]at E;obtain⟨y,M,rfl⟩:=aak.1 E;exact ih i y v M N
  |ptr V ak o v2 A3 I A2 h J=>
   unfold kD;by_cases Y:V=key
   ·subst Y;rw[O]at I;cases I;exact .ptr _ ak o v2 _ Z (by simp only;omega) (λhe=>by simp only at he;omega) J
   ·exact .ptr V ak o v2 A3 (by rw[A' _ Y];exact I) A2 h J
  |vec V ak o l v2 A3 I A2 h J=>
   unfold kD;split
   ·rename_i E;obtain⟨rfl,rfl,Aa⟩:=E;rw[O]at I;cases I;exact .d _ _ (Bt (.vec _ _ o l v2 L O A2 h J) O AH AL Aa U (λq=>AO _ (λhh=>hh) ⟨q,rfl⟩))
   ·by_cases Y:V=key
    ·subst Y;rw[O]at I;cases I;exact .vec _ ak o l v2 _ Z (by simp only;omega) (λhe=>by simp only at he;omega) J
    ·exact .vec V ak o l v2 A3 (by rw[A' _ Y];exact I) A2 h J
  |cn V ak i j v2 A3 I A2 h J=>
   unfold kD;by_cases Y:V=key
   ·subst Y;rw[O]at I;cases I;exact .cn _ ak i j v2 _ Z (by simp only;omega) (λhe=>by simp only at he;omega) J
   ·exact .cn V ak i j v2 A3 (by rw[A' _ Y];exact I) A2 h J
  |dq x j b o AI AK AT T E=>exact .dq x j b o AI AK (λh=>AT (U b h)) (T.mono (λ_ _ _=>rfl) (aai _) (λb _=>U b)) E
  |fn f cap a AU A1 _ ih=>
   refine .fn f _ a AU (by rw[lJ];exact A1) (λi c v E N=>?_);rw[qk]at E;obtain⟨y,M,rfl⟩:=aak.1 E;exact ih i y v M N
  |qW f cap a A1 _ ih=>
   refine .qW f _ a (by rw[lJ];exact A1) (λi c v E N=>?_);rw[qk]at E;obtain⟨y,M,rfl⟩:=aak.1 E;exact ih i y v M N
  |bM vs a A1 _ ih=>
   refine .bM _ a (by rw[lJ];exact A1) (λi c v E N=>?_);rw[qk]at E;obtain⟨y,M,rfl⟩:=aak.1 E;exact ih i y v M N
  |fR t x v h=>exact .fR t x v (h.mono (λ_ _ _=>rfl) (aai _) (λb _=>U b))
  |lit v h=>exact .lit v h
  |nn a cap=>exact .nn a cap
  |err t v=>exact .err t v
 ·exact dz.refl S
def yy(P:Program)(S:St):ResultVar->cP
 | .tmp t=>.val (S.aq (.tmp t)).1 (S.aq (.tmp t)).2
 | .cell p t=>match lj P S.mem t (S.aq (.tmp p)).2 with
  | .val c x=>.val ((S.aq (.tmp p)).1&&c) x
  |_=>.no
def sx(P:Program)(S:St):List ResultVar->Option (Bool×List AV)
 |[]=>some (true,[])
 |r::rs=>match yy P S r with
  | .val c x=>match sx P S rs with
   |some (AN,xs)=>some (c&&AN,x::xs)
   |none=>none
  |_=>none
def oneOf:List AV->AV
 |[x]=>x
 |xs=>.bM xs
def yz(tmps:Array Value):ResultVar->Sem Value
 | .tmp t=>pure (tmps.getD t undef)
 | .cell a t=>do loadVar t (<-asAddr (tmps.getD a undef))
theorem OM{P:Program}{S:St}{r:ResultVar}{c:Bool}{x:AV}(h:yy P S r=.val c x)(J:c=true){φ G a w}(A3:Rel φ G S a w):
 ∃v,(yz a.tmps r).run P w=.ok v w/\az φ w (Fo G φ S.mem) x v:=by
 unfold yy at h;split at h
 ·rename_i t;simp only[cP.val.injEq]at h;obtain⟨rfl,rfl⟩:=h;exact⟨_,rfl,A3.aq (.tmp t) J⟩
 ·rename_i p t;split at h
  ·rename_i AN Ay A4;simp only[cP.val.injEq]at h;obtain⟨rfl,rfl⟩:=h;simp only[Ds]at J;have:=Kw P S {dst:=none,op:=.load t (.tmp p),type:=0,pos:= "",after:=#[],guard:=none} t (.tmp p) rfl J.1;rw[A4]at this;obtain⟨v,U,Ae⟩:=this J.2 φ G a w A3;have Af:a.eval (.tmp p)=a.tmps.getD p undef:=rfl;simp only[execOp,Instr.loadAt,Af]at U;cases AH:a.tmps.getD p undef with
   |pointer AI=>
    rw[AH]at U;cases AI with
    |none=>simp[Instr.sureAddr,stuck]at U
    |some AI=>
     simp only[Instr.sureAddr,Sem.run_bind,Sem.run_pure,Result.andThen_ok]at U;generalize Ag:(loadVar t AI).run P w=q at U;cases q with
     |halt _ _=>simp at U
     |ok v2 Az=>
      simp at U;obtain⟨rfl,rfl⟩:=U;refine⟨v2,?_,Ae⟩;simp only[yz,AH,asAddr,Sem.run_bind,Sem.run_pure,Result.andThen_ok,Ag]
   |_=>rw[AH]at U;simp[Instr.sureAddr,stuck]at U
  ·cases h
theorem v7{P:Program}{S:St}{φ G a w}(A3:Rel φ G S a w):∀(rs:List ResultVar)(c:Bool)(xs:List AV),sx P S rs=some (c,xs)->c=true->
 ∃vs:List Value,(rs.mapM (yz a.tmps)).run P w=.ok vs w/\xs.length=vs.length/\
  ∀(i:Nat) x v,xs[i]?=some x->vs[i]?=some v->az φ w (Fo G φ S.mem) x v
 |[],c,xs,h,_=>by
  simp only[sx,aax,ab3]at h;obtain⟨_,rfl⟩:=h;exact⟨[],by simp,rfl,by simp⟩
 |r::rs,c,xs,h,J=>by
  simp only[sx]at h;split at h
  ·rename_i B' x H;split at h
   ·rename_i Ah Ai Aj;simp only[aax,ab3]at h;obtain⟨rfl,rfl⟩:=h;simp only[Ds]at J;obtain⟨v,A5,A8⟩:=OM H J.1 A3;obtain⟨vs,AJ,V,A9⟩:=v7 (P:=P) A3 rs Ah Ai Aj J.2;refine⟨v::vs,?_,by simp[V],λi x v h AK=>?_⟩
    ·rw[List.mapM_cons];simp only[Sem.run_bind,A5,Result.andThen_ok,AJ,Sem.run_pure]
    ·cases i with
     |zero=>simp at h AK;subst h;subst AK;exact A8
     |succ i=>exact A9 i x v (by simpa using h) (by simpa using AK)
   ·cases h
  ·cases h
mutual
def lz(k v:Nat):AV->Option (Nat×Nat)
 | .vec Ak Al o l=>if Ak=k/\Al=v then some (o,l)else none
 | .agg cs=>qn k v cs
 | .fn _ cap=>qn k v cap
 | .bM vs=>qn k v vs
 | .cn _ _ _ _=>none
 | .aY=>none
 | .d _=>none
 | .ptr _ _ _=>none
 | .dq _ _=>none
 | .fR _ _=>none
 | .lit _=>none
 | .nn=>none
 | .err=>none
def qn(k v:Nat):List AV->Option (Nat×Nat)
 |[]=>none
 |x::r=>match lz k v x with
  |some p=>some p
  |none=>qn k v r
end
def vg(k v:Nat):Mem->Option (Nat×Nat)
 |[]=>none
 |⟨_,_,.box cs⟩::r=>match qn k v cs with
  |some p=>some p
  |none=>vg k v r
 |_::r=>vg k v r
def CG(k v:Nat):Env->Option (Nat×Nat)
 |[]=>none
 |(_,_,x)::r=>match lz k v x with
  |some p=>some p
  |none=>CG k v r
def St.wb(S:St)(k:Nat):St:=
 match Mem.get S.mem k with
 |some ⟨_,v,.vec _ _⟩=>match vg k v S.mem with
  |some (o,l)=>S.trim k o l
  |none=>match CG k v S.env with
   |some (o,l)=>S.trim k o l
   |none=>S
 |_=>S
theorem CH(S:St)(k:Nat):dz S (S.wb k):=by
 unfold St.wb;split
 ·split
  ·exact Fb ..
  ·split
   ·exact Fb ..
   ·exact dz.refl S
 ·exact dz.refl S
def St.wc(S:St):List Nat->St
 |[]=>S
 |k::r=>(S.wb k).wc r
theorem CI:∀(l:List Nat)(S:St),dz S (S.wc l)
 |[],S=>dz.refl S
 |k::r,S=>(CH S k).trans (CI r _)
mutual
def ig:AV->List Nat
 | .ptr k _ _=>[k]
 | .vec k _ _ _=>[k]
 | .cn k _ _ _=>[k]
 | .agg cs=>j2 cs
 | .fn _ cap=>j2 cap
 | .bM vs=>j2 vs
 | .aY=>[]
 | .d _=>[]
 | .dq _ _=>[]
 | .fR _ _=>[]
 | .lit _=>[]
 | .nn=>[]
 | .err=>[]
def j2:List AV->List Nat
 |[]=>[]
 |x::r=>ig x++j2 r
end
def kE:Option cg->List Nat
 |some ⟨_,_,.box cs⟩=>j2 cs
 |some ⟨_,_,.vv _ (some x)⟩=>ig x
 |_=>[]
def collect(m:Mem):Nat->List Nat->List Nat->List Nat
 |0,_,I=>I
 |_+1,[],I=>I
 |n+1,k::todo,I=>match I.contains k||(Mem.get m k).isNone with
  |true=>collect m n todo I
  |false=>collect m n (todo++kE (Mem.get m k)) (I++[k])
theorem nY(m:Mem):∀(n:Nat)(todo I:List Nat),I.Nodup->(∀k∈I,(Mem.get m k).isSome=true)->(collect m n todo I).Nodup/\∀k∈collect m n todo I,(Mem.get m k).isSome=true
 |0,todo,I,h,A'=>⟨h,A'⟩
 |n+1,[],I,h,A'=>⟨h,A'⟩
 |n+1,k::todo,I,h,A'=>by
  simp only[collect];split
  ·exact nY m n todo I h A'
  ·rename_i J;simp only[akp,List.contains_eq_mem,ac7,Option.isNone_eq_false_iff]at J;refine nY m n _ _ ?_ ?_
   ·rw[List.nodup_append];exact⟨h,by simp,λa A6 b N AA=>by simp at N;subst N;subst AA;exact J.1 A6⟩
   ·intro x H;rcases abT.1 H with H|H
    ·exact A' x H
    ·simp at H;subst H;exact J.2
def dead(k:Nat):cg:=⟨k,0,.dead⟩
def bG.add(φ:bG)(ks:List Nat):bG:=λk=>if k∈ks then some ⟨0,0,0,0,0,[]⟩else φ k
theorem z7{φ:bG}{m:Mem}{ks:List Nat}(M:∀k∈ks,k∉m.map (·.key))(b:Nat):gS (φ.add ks) (m++ks.map dead) b↔gS φ m b:=by
 constructor
 ·rintro ⟨e,he,L,E,O⟩;rcases abT.1 he with he|he
  ·have:e.key∉ks:=λh=>M _ h (abY he);simp only[bG.add,this,acF]at E;exact⟨e,he,L,E,O⟩
  ·simp only[acb]at he;obtain⟨k,_,rfl⟩:=he;exact O.elim
 ·rintro ⟨e,he,L,E,O⟩;have:e.key∉ks:=λh=>M _ h (abY he);exact⟨e,ag8 _ he,L,by simp[bG.add,this,E],O⟩
theorem acA{φ:bG}{G}{m:Mem}{ks:List Nat}(M:∀k∈ks,k∉m.map (·.key)):Fo G (φ.add ks) (m++ks.map dead)=Fo G φ m:=by
 funext b;simp only[Fo,z7 M b]
theorem Hu{φ:bG}{G m w}(h:a8 φ G m w){ks:List Nat}(M:∀k∈ks,k∉m.map (·.key)):φ.le (φ.add ks):=by
 intro k L E;have:k∉ks:=λT=>M k T (h.oI k L E);exact⟨L,by simp[bG.add,this,E],aai _,λ_=>rfl⟩
theorem a8.add{φ G m w}(h:a8 φ G m w){ks:List Nat}(An:ks.Nodup)(M:∀k∈ks,k∉m.map (·.key)):a8 (φ.add ks) G (m++ks.map dead) w:=by
 have hle:=Hu h M;have Ao:=acA (φ:=φ) (G:=G) M;refine⟨?_,?_,?_,?_,?_,h.bound⟩
 ·rw[List.map_append,List.nodup_append];have e:(ks.map dead).map (·.key)=ks:=by simp[Function.comp_def,dead]
  rw[e];exact⟨h.nodup,An,λa A6 b N AA=>M b N (AA▸A6)⟩
 ·intro k L E;simp only[bG.add]at E;split at E
  ·rename_i T;rw[List.map_append];refine List.mem_append_right _ ?_;rw[List.map_map];exact acb.2 ⟨k,T,rfl⟩
  ·rw[List.map_append];exact ag8 _ (h.oI k L E)
 ·intro e he;rw[Ao];rcases abT.1 he with he|he
  ·obtain⟨L,E,AL,J⟩:=h.fC e he;have:e.key∉ks:=λh=>M _ h (abY he);exact⟨L,by simp[bG.add,this,E],AL,J.mono hle (λ_ _ _=>rfl) (aai _) (λ_ _ h=>h) (λ_ _=>rfl)⟩
  ·simp only[acb]at he;obtain⟨k,T,rfl⟩:=he;exact⟨⟨0,0,0,0,0,[]⟩,by simp[bG.add,dead,T],rfl,trivial⟩
 ·rintro e he e' Y L L' E AO ⟨b,O,AP⟩;rcases abT.1 he with he|he
  ·rcases abT.1 Y with Y|Y
   ·have A5:e.key∉ks:=λh=>M _ h (abY he);have A8:e'.key∉ks:=λh=>M _ h (abY Y);simp only[bG.add,A5,A8,acF]at E AO;exact h.apart e he e' Y L L' E AO ⟨b,O,AP⟩
   ·simp only[acb]at Y;obtain⟨k,_,rfl⟩:=Y;exact AP.elim
  ·simp only[acb]at he;obtain⟨k,_,rfl⟩:=he;exact O.elim
 ·intro b N Ap;exact h.jP b ((z7 M b).1 N) Ap
def gz:Nat->List AV->Env
 |_,[]=>[]
 |i,x::r=>(i,true,x)::gz (i+1) r
theorem we:∀(i:Nat)(xs:List AV)(t:Nat)(y:Bool×AV),Env.lk (gz i xs) t=some y->∃j,t=i+j/\xs[j]?=some y.2
 |i,[],t,y,h=>by simp[gz,Env.lk]at h
 |i,x::r,t,y,h=>by
  simp only[gz,Env.lk]at h;by_cases A0:i=t
  ·subst A0;simp at h;subst h;exact⟨0,rfl,rfl⟩
  ·simp only[A0,acF]at h;obtain⟨j,rfl,AB⟩:=we (i+1) r t y h;exact⟨j+1,by omega,by simpa using AB⟩
def dr:Nat->List ay->Mem
 |_,[]=>[]
 |i,c::r=>⟨i,0,c⟩::dr (i+1) r
theorem Hv:∀(cs:List ay)(i:Nat),dr i cs=cZ i (cs.map λc=>(0,c))
 |[],i=>rfl
 |c::r,i=>by simp[dr,cZ,Hv r]
def entry(n:Nat)(gl:List (Nat×D))(args:List AV)(cs:List ay)(sites:List Nat):St:={n,gl,env:=gz 0 args,mem:=dr 0 cs++sites.map dead}
def CJ(A:Nat)(i v:Nat):Nat:=if i<A then (if v=0 then 0 else 1)else 0
structure aw where
 amf:List Nat
 exp:Bool
 sites:List Nat
 uw:List Nat
 split:Bool
def pf(p:aw)(A:Nat)(m:Mem)(xs:List AV):List Nat:=
 match p.exp with
 |true=>List.range A++(collect m 64 (j2 xs++List.range A) []).filter (λk=>!decide (k<A))
 |false=>List.range A
def kU:Env->List AV
 |[]=>[]
 |(_,_,x)::r=>x::kU r
def AU:Bool->AV->AV
 |true,x=>x
 |false,x=>x.norm
theorem az.AU{b:Bool}{φ w F x v}(h:az φ w F x v):az φ w F (AU b x) v:=by
 cases b
 ·exact h.norm
 ·exact h
def Hx(b:Bool)(K:List Nat)(A:Nat)(S:St)(one:List AV->Out):Option (Out×List (Nat×ay)):=
 if K.all (λk=>(Mem.get S.mem k).isSome)then some (one ((kU S.env).map λx=>AU b (vw S.mem K (λ_=>true) (CJ A) x)),dO S.mem K (λ_=>true) (CJ A) 0 K)else none
def z8(p:aw)(K:List Nat)(S:St):St:=S.wc (K.filter λk=>!p.amf.contains k)
def pg(p:aw)(A:Nat)(S:St)(xs:List AV)(one:List AV->Out):Option (Out×List (Nat×ay)):=
 let K:=pf p A S.mem xs
 Hx (p.uw.contains 1000) K A (z8 p K {S with n:=xs.length,env:=gz 0 xs}) one
def finish(P:Program)(p:aw)(A:Nat)(rs:List ResultVar)(S:St):Option (Out×List (Nat×ay)):=
 match sx P S rs with
 |some (c,xs)=>if c=true then pg p A S xs (λA7=>.ret (oneOf A7))else none
 |none=>none
def wg(p:aw)(A:Nat)(t:TypeId)(x:D)(S:St):Option (Out×List (Nat×ay)):=pg p A S [] (λ_=>.panic t x)
def fh:Env->List (Nat×Bool)
 |[]=>[]
 |(t,g,_)::r=>(t,g)::fh r
theorem AW(AQ:AV->AV):∀env:Env,fh (mU AQ env)=fh env
 |[]=>rfl
 |(t,g,x)::r=>by simp[mU,fh,AW AQ r]
theorem Fc(S:St)(k o l:Nat):fh (S.trim k o l).env=fh S.env:=by
 unfold St.trim;split
 ·split
  ·exact AW _ _
  ·rfl
 ·rfl
theorem ON(S:St)(k:Nat):fh (S.wb k).env=fh S.env:=by
 unfold St.wb;split
 ·split
  ·exact Fc ..
  ·split
   ·exact Fc ..
   ·rfl
 ·rfl
theorem CK:∀(l:List Nat)(S:St),fh (S.wc l).env=fh S.env
 |[],S=>rfl
 |k::r,S=>by rw[St.wc,CK r,ON]
theorem CL:∀(i:Nat)(xs:List AV),fh (gz i xs)=(List.range' i xs.length).map λj=>(j,true)
 |i,[]=>rfl
 |i,x::r=>by simp[gz,fh,CL (i+1) r,afZ]
theorem KO:∀(env:Env)(i n j:Nat),fh env=(List.range' i n).map (λj=>(j,true))->∀x,(kU env)[j]?=some x->Env.lk env (i+j)=some (true,x)
 |[],i,n,j,_,x,H=>by simp[kU]at H
 |(t,g,y)::r,i,n,j,h,x,H=>by
  cases n with
  |zero=>simp[fh]at h
  |succ n=>
   simp only[fh,afZ,acZ,List.cons.injEq,ab3]at h;obtain⟨⟨rfl,rfl⟩,h⟩:=h;cases j with
   |zero=>simp[kU]at H;subst H;simp[Env.lk]
   |succ j=>
    have:=KO r (t+1) n j h x (by simpa [kU]using H);simp only[Env.lk];rw[aah (by omega),show t+(j+1)=t+1+j by omega];exact this
theorem vh:∀env:Env,(kU env).length=(fh env).length
 |[]=>rfl
 |(_,_,_)::r=>by simp[kU,fh,vh r]
theorem Gj(p:aw)(A:Nat)(m:Mem)(xs:List AV):(pf p A m xs).Nodup:=by
 unfold pf;split
 ·rw[List.nodup_append];refine⟨List.nodup_range,((nY m 64 _ [] List.nodup_nil (by simp)).1).filter _,λa A6 b N AA=>?_⟩;simp only[ab2]at A6;simp only[acH,akq,ac7]at N;omega
 ·exact List.nodup_range
theorem J3(p:aw)(A:Nat)(m:Mem)(xs:List AV){k:Nat}(T:k<A):(pf p A m xs)[k]?=some k:=by
 unfold pf;split
 ·rw[aaq (by simpa using T)];simp[T]
 ·simp[T]
theorem rC{p:aw}{A:Nat}{S:St}{xs:List AV}{one:List AV->Out}{out:Out}{l:List (Nat×ay)}(h:pg p A S xs one=some (out,l))
 {φ:bG} {G:Fr} {w:World} (hm:a8 φ G S.mem w) (AC:eh w (Fo G φ S.mem) S.gl) {vs:List Value} (A4:xs.length=vs.length)
 (H:∀(i:Nat) x v,xs[i]?=some x->vs[i]?=some v->az φ w (Fo G φ S.mem) x v) {φ0:bG} {AR:Mem} {w0:World} (T:aP φ0 AR w0 φ S.mem w) (Aq:∀k L,φ0 k=some L->k<A/\L.ak=0):
 ∃φ' A7,out=one A7/\a8 φ' G (cZ 0 l) w/\aP φ0 AR w0 φ' (cZ 0 l) w/\A7.length=vs.length/\(∀(i:Nat) y v,A7[i]?=some y->vs[i]?=some v->az φ' w (Fo G φ' (cZ 0 l)) y v)/\
  ∀b,Fo G φ' (cZ 0 l) b->Fo G φ S.mem b:=by
 unfold pg at h;obtain⟨K,AD⟩:∃K,K=pf p A S.mem xs:=⟨_,rfl⟩;have Ar:K.Nodup:=by rw[AD];exact Gj ..
 have As:∀k,k<A->K[k]?=some k:=λk h=>by rw[AD];exact J3 _ _ _ _ h
 simp only[<-AD]at h;clear AD;have At:Rel φ G {S with n:=xs.length,env:=gz 0 xs} {tmps:=vs.toArray,defers:=G.dv} w:=by
  refine⟨by simp[A4],rfl,λt x A0=>?_,hm,AC⟩;obtain⟨j,rfl,AB⟩:=we 0 xs t _ A0;have AS:j<vs.length:=by rw[<-A4];exact (aaf.1 AB).1
  have e:vs.toArray.getD (0+j) undef=vs[j]:=by simp[AS]
  simp only[e];exact H j x _ AB (by simp[AS])
 obtain⟨A1,AE⟩:∃A1,A1=z8 p K {S with n:=xs.length,env:=gz 0 xs}:=⟨_,rfl⟩;have A0:dz {S with n:=xs.length,env:=gz 0 xs} A1:=by rw[AE];exact CI ..
 have AT:fh A1.env=(List.range' 0 xs.length).map λj=>(j,true):=by
  rw[AE,z8,CK];exact CL 0 xs
 rw[<-AE]at h;clear AE;obtain⟨AX,AY,AZ⟩:=A0.2.2 φ G _ w At;unfold Hx at h;split at h
 ·rename_i Au;simp only[aax,ab3]at h;obtain⟨rfl,rfl⟩:=h;have AF:=AY.mem;have A_:∀k∈K,(Mem.get A1.mem k).isSome=true:=by simpa using Au
  obtain⟨s1,s2,Av⟩:=z6 (G1:=G) (ρ:=K) (bor:=λ_=>true) (nv:=CJ A) AF Ar A_ (λb h=>.inl h) (λb h=>AF.jP b h.own)
   (λk e L b AC _ _ E O=>AF.jP _ ⟨e,(Mem.get_mem AC).1,L,by rw[(Mem.get_mem AC).2];exact E,O⟩)
  have Z:=T.trans AZ;refine⟨AX.gC K (CJ A),_,rfl,s1,⟨?_,Z.x8,?_,Z.size,Z.os,Z.tape,Z.output⟩,?_,?_,?_⟩
  ·intro k L E;obtain⟨AM,AG⟩:=Aq k L E;obtain⟨Aa,A5,A8,AJ⟩:=Z.le k L E;refine⟨{Aa with ak:=CJ A k Aa.ak},by simp[bG.gC,As k AM,A5],by simp[AG],λhe=>?_⟩;simp only[CJ,AM,adI,AG]at he;split at he
   ·rename_i Aw;have V:=AJ (by rw[AG];exact Aw);have g1:=ac8 Loc.ak V;have g2:=ac8 Loc.cU V;have g3:=ac8 Loc.sz V;have g4:=ac8 Loc.cap V;have g5:=ac8 Loc.base V;simp only at g1 g2 g3 g4 g5⊢;rw[g1,g2,g3,g4,g5];simp only[CJ,AM,adI,AG]
   ·simp at he
  ·intro b N O;exact Z.own b N ((vf (φ:=AX) (nv:=CJ A) (bor:=λ_=>true) A_ b).1 O).own
  ·rw[List.length_map,vh,AT];simp[A4]
  ·intro i y v Ab AL;rw[acj]at Ab;obtain⟨x,Ax,rfl⟩:=aak.1 Ab;have A9:=KO A1.env 0 xs.length i AT x Ax;rw[ac3]at A9;have Ac:=AY.env i x A9;have e:vs.toArray.getD i undef=v:=by simp[AL]
   simp only[e]at Ac;exact (s2 x v Ac).AU
  ·intro b N;have A2:=Av b N;rcases A2 with A2|A2
   ·exact .inl A2
   ·rcases Nat.lt_or_ge b w.heap.size with Ad|Ad
    ·exact .inr (AZ.own b Ad A2)
    ·exact absurd (AF.Cg A2) (by omega)
 ·cases h
def bP:AV->List Nat
 | .ptr k _ _=>[k]
 | .vec k _ _ _=>[k]
 | .cn k _ _ _=>[k]
 |_=>[]
def rU(S:St):List Operand->List Nat
 |[]=>[]
 |x::r=>bP (S.aq x).2++rU S r
def CM(S:St):Op->List Nat
 | .move _=>[]
 | .assign _=>[]
 |op=>rU S op.operands.toList
def iq(S:St)(o:Oper):List Nat:=keyOf o::CM S o.op
theorem AX{S:St}:∀{l:List Operand}{x:Operand},x∈l->∀k∈bP (S.aq x).2,k∈rU S l
 |[],x,h,_,_=>by simp at h
 |y::r,x,h,k,I=>by
  simp only[rU,abT];rcases aan.1 h with rfl|h
  ·exact .inl I
  ·exact .inr (AX h k I)
section
variable {P:Program} {m m':Mem}
theorem R0{t p}(h:∀k∈bP p,Mem.get m' k=Mem.get m k):lj P m' t p=lj P m t p:=by
 cases p<;>simp_all [lj,bP]
theorem ux{sz x}(h:∀k∈bP x,Mem.get m' k=Mem.get m k):gk m' sz x=gk m sz x:=by
 cases x with
 |vec k ak off len=>simp only[gk,h k (by simp[bP])]
 |d x=>cases x<;>rfl
 |lit v=>unfold gk;split<;>simp_all
 |_=>rfl
theorem OO{t p x}(h:∀k∈bP p,Mem.get m' k=Mem.get m k):nQ P m' t p x=nQ P m t p x:=by
 cases p<;>simp_all [nQ,bP]
theorem OP{s f p}(h:∀k∈bP p,Mem.get m' k=Mem.get m k):nD P m' s f p=nD P m s f p:=by
 cases p<;>simp_all [nD,bP]
theorem Gk{p}(h:∀k∈bP p,Mem.get m' k=Mem.get m k):iz m' p=iz m p:=by
 cases p<;>simp_all [iz,bP]
theorem OQ{t p i}(h:∀k∈bP p,Mem.get m' k=Mem.get m k):lE P m' t p i=lE P m t p i:=by
 cases p with
 |vec k ak off len=>simp only[lE,h k (by simp[bP])]
 |ptr k ak off=>simp only[lE,h k (by simp[bP])]
 |cn k ak i j=>simp only[lE,h k (by simp[bP])]
 |d x=>cases x<;>rfl
 |_=>rfl
theorem OR{t p lo hi}(h:∀k∈bP p,Mem.get m' k=Mem.get m k):jY P m' t p lo hi=jY P m t p lo hi:=by
 cases p with
 |cn k ak i j=>simp only[jY,h k (by simp[bP])]
 |vec k ak off len=>simp only[jY,h k (by simp[bP])]
 |ptr k ak off=>simp only[jY,h k (by simp[bP])]
 |d x=>cases x<;>rfl
 |_=>rfl
theorem VD{k c cs}(h:Mem.get m' k=Mem.get m k):qJ m' k c cs=qJ m k c cs:=by simp only[qJ,h]
theorem OS{k t}(h:Mem.get m' k=Mem.get m k):sq P m' k t=sq P m k t:=by simp only[sq,Hj,qJ,h]
theorem R3{k s d x}(h:Mem.get m' k=Mem.get m k)(A:∀k∈bP x,Mem.get m' k=Mem.get m k):lu P m' k s d x=lu P m k s d x:=by
 have e:=ux (m:=m) (m':=m') (sz:=1) A;cases A0:tk P d<;>cases x with
 |d x=>cases x<;>simp only[lu,A0,e,h]
 |_=>simp only[lu,A0,e]
theorem R4{k s d x}(h:Mem.get m' k=Mem.get m k)(A:∀k∈bP x,Mem.get m' k=Mem.get m k):rA P m' k s d x=rA P m k s d x:=by
 have e:=R3 (P:=P) (s:=s) (d:=d) h A;cases x with
 |vec U ak off len=>simp only[rA,e,A U (by simp[bP])]
 |_=>simp only[rA,e]
theorem R5{k t l c}(h:Mem.get m' k=Mem.get m k):vU P m' k t l c=vU P m k t l c:=by simp only[vU,h]
theorem CN{k t n ps}(h:Mem.get m' k=Mem.get m k):jA P m' k t n ps=jA P m k t n ps:=by simp only[jA,pL,h]
theorem VE{t x}(h:∀k∈bP x,Mem.get m' k=Mem.get m k):m7 P m' t x=m7 P m t x:=by
 cases x with
 |vec k ak off len=>simp only[m7,h k (by simp[bP])]
 |d x=>cases x<;>rfl
 |lit v=>unfold m7;split<;>simp_all
 |_=>rfl
theorem VF{u sz V Y s x}(M:∀k∈bP s,Mem.get m' k=Mem.get m k)(A:∀k∈bP x,Mem.get m' k=Mem.get m k):vQ P m' u sz V Y s x=vQ P m u sz V Y s x:=by
 cases s with
 |vec k ak off len=>
  cases x with
  |vec A4 AD A5 A6=>
   match A5,A6 with
   |0,1=>simp only[vQ,M k (by simp[bP]),A A4 (by simp[bP])]
   |0,0=>rfl
   |0,_+2=>rfl
   |_+1,_=>rfl
  |_=>rfl
 |_=>rfl
theorem VG{P:Program}{m:Mem}{u:TypeId}{sz V:Nat}{Y:D}{s x:AV}{c:Bool}{k v off n:Nat}{e:cg}(h:vQ P m u sz V Y s x=.cG c (.vec k v off n) e):k∈bP s:=by
 unfold vQ at h;split at h
 ·split at h
  ·cases h;simp[bP]
  ·cases h
 ·cases h
theorem VH{k t u s x}(h:Mem.get m' k=Mem.get m k)(M:∀k∈bP s,Mem.get m' k=Mem.get m k)(A:∀k∈bP x,Mem.get m' k=Mem.get m k):qL P m' k t u s x=qL P m k t u s x:=by
 unfold qL yg;simp only[ux A,h,VF M A];cases s with
 |vec k ak off len=>simp only[M k (by simp[bP])]
 |lit v=>
  cases v with
  |slice ao n c=>cases ao<;>cases n<;>cases c<;>simp only
  |_=>rfl
 |_=>rfl
theorem VI{P:Program}{m:Mem}{A1:Nat}{t u:TypeId}{s x:AV}{c:Bool}{k v off n:Nat}{e:cg}(h:qL P m A1 t u s x=.cG c (.vec k v off n) e):k=A1\/k∈bP s:=by
 unfold qL at h;split at h
 ·split at h
  ·split at h
   ·split at h
    ·split at h
     ·cases h;right;simp[bP]
     ·cases h
    ·split at h
     ·cases h;left;rfl
     ·cases h
    ·cases h
   ·exact .inr (VG h)
  ·cases h
 ·cases h
theorem R6{P:Program}{m m':Mem}{k t u s x}(h:Mem.get m' k=Mem.get m k)(M:∀k∈bP s,Mem.get m' k=Mem.get m k)(A:∀k∈bP x,Mem.get m' k=Mem.get m k):
 tB m' (Mem.get m' k).isSome k (qL P m' k t u s x)=tB m (Mem.get m k).isSome k (qL P m k t u s x):=by
 rw[VH h M A,h];unfold tB;generalize A7:qL P m k t u s x=r;split
 ·rename_i c U v n AE AF sz ag;have I:Mem.get m' U=Mem.get m U:=by
   rcases VI A7 with rfl|I
   ·exact h
   ·exact M _ I
  rw[I]
 ·rfl
theorem Fe{k t x}(h:Mem.get m' k=Mem.get m k):ru P m' k t x=ru P m k t x:=by
 unfold ru;simp only[h]
theorem VJ{neg t x v}(h:∀k∈bP x,Mem.get m' k=Mem.get m k):iX P m' neg t x v=iX P m neg t x v:=by
 cases x with
 |vec k ak off len=>unfold iX;simp only[h k (by simp[bP])]
 |ptr k ak off=>unfold iX;simp only[h k (by simp[bP])]
 |d x=>unfold iX;cases x with
  |list xs=>cases xs<;>rfl
  |_=>rfl
 |lit u=>unfold iX;cases u with
  |slice ao n c=>cases ao<;>cases n<;>cases c<;>rfl
  |pointer a=>cases a<;>rfl
  |_=>rfl
 |_=>rfl
theorem R7{t s x}(M:∀k∈bP s,Mem.get m' k=Mem.get m k)(A:∀k∈bP x,Mem.get m' k=Mem.get m k):vW P m' t s x=vW P m t s x:=by
 unfold vW;simp only[ux A];cases s with
 |vec k ak off len=>simp only[M k (by simp[bP])]
 |_=>rfl
end
theorem Ff{P:Program}{S H:St}{o:Oper}(A:∀x∈o.op.operands.toList,H.aq x=S.aq x)(I:∀k∈iq S o,Mem.get H.mem k=Mem.get S.mem k):cJ P H o=cJ P S o:=by
 have N:Mem.get H.mem (keyOf o)=Mem.get S.mem (keyOf o):=I _ (by simp[iq]);have J:match o.op with
  | .move _=>True
  | .assign _=>True
  |op=>∀x∈op.operands.toList,∀k∈bP (S.aq x).2,Mem.get H.mem k=Mem.get S.mem k:=by
  unfold iq at I;generalize o.op=op at I;cases op<;>first|trivial|exact λx E k Z=>I k (acJ _ (AX E k Z))
 have q:∀(l:List Operand),(∀x∈l,H.aq x=S.aq x)->l.map (λx=>(H.aq x).2)=l.map (λx=>(S.aq x).2):=λl A'=>List.map_congr_left (λx E=>by rw[A' x E]);have A2:∀(l:List (Nat×Operand)),(∀x∈l,H.aq x.2=S.aq x.2)->l.map (λx=>(x.1,(H.aq x.2).2))=l.map (λx=>(x.1,(S.aq x.2).2)):=λl A'=>List.map_congr_left (λx E=>by rw[A' x E]);unfold cJ;generalize AG:o.op=op at A J;cases op with
 |move x=>simp only[A x (by simp[Op.operands]),Fe N]
 |assign x=>simp only[A x (by simp[Op.operands]),Fe N]
 |pick c a b=>simp only[A c (by simp[Op.operands]),A a (by simp[Op.operands]),A b (by simp[Op.operands])]
 |alloc t=>simp only[OS N]
 |box t x=>simp only[A x (by simp[Op.operands]),VD N]
 |load t x=>simp only[A x (by simp[Op.operands]),R0 (J x (by simp[Op.operands]))]
 |store t p x=>simp only[A x (by simp[Op.operands]),A p (by simp[Op.operands]),OO (J p (by simp[Op.operands]))]
 |fieldAddr s x f=>simp only[A x (by simp[Op.operands]),OP (J x (by simp[Op.operands]))]
 |nilCheck x=>simp only[A x (by simp[Op.operands]),Gk (J x (by simp[Op.operands]))]
 |indexAddr t x i=>simp only[A x (by simp[Op.operands]),A i (by simp[Op.operands]),OQ (J x (by simp[Op.operands]))]
 |index t x i=>simp only[A x (by simp[Op.operands]),A i (by simp[Op.operands])]
 |slice t x lo hi A8=>
  cases A8 with
  |none=>
   have A9:lo.map (λy=>(H.aq y).2)=lo.map (λy=>(S.aq y).2):=by cases lo with|none=>rfl|some y=>simp[A y (by simp[Op.operands])]
   have AA:hi.map (λy=>(H.aq y).2)=hi.map (λy=>(S.aq y).2):=by cases hi with|none=>rfl|some y=>simp[A y (by simp[Op.operands])]
   simp only[A x (by simp[Op.operands]),A9,AA,OR (J x (by simp[Op.operands]))]
  |some _=>rfl
 |binOp op t x y AH=>
  have A3:=A x (by simp[Op.operands]);have AB:=A y (by simp[Op.operands]);have Z:=J x (by simp[Op.operands]);simp only
  unfold qf;cases y with
  |const v=>simp only[A3,VJ Z];rfl
  |_=>simp only[A3,AB]
 |unOp op t x=>simp only[A x (by simp[Op.operands])]
 |convert s d x=>simp only[A x (by simp[Op.operands]),R4 N (J x (by simp[Op.operands]))]
 |makeInterface t x=>simp only[A x (by simp[Op.operands])]
 |makeFunc f first cap=>simp only[q cap.toList (λx E=>A x (by simp[Op.operands];right;simpa using E)),q first.toList (λx E=>A x (by simp[Op.operands];left;simpa using E))]
 |makeSlice t l c=>simp only[A l (by simp[Op.operands]),A c (by simp[Op.operands]),R5 N]
 |build t ps=>simp only[A2 ps.toList (λx E=>A x.2 (by simp only[Op.operands,List.toList_toArray,acb];exact⟨x,E,rfl⟩))]
 |buildSlice t n ps=>simp only[A2 ps.toList (λx E=>A x.2 (by simp only[Op.operands,List.toList_toArray,acb];exact⟨x,E,rfl⟩)),CN N]
 |extract x i=>simp only[A x (by simp[Op.operands])]
 |field s x f=>simp only[A x (by simp[Op.operands])]
 |typeAssert x AI t ok=>simp only[A x (by simp[Op.operands])]
 |call c=>
  obtain⟨callee,args,AC⟩:=c;cases callee with
  |builtin b=>
   have O:∀x∈args.toList,H.aq x=S.aq x:=λx E=>A x (by simp[Op.operands,Call.operands];simpa using E);have T:∀x∈args.toList,∀k∈bP (S.aq x).2,Mem.get H.mem k=Mem.get S.mem k:=λx E=>J x (by simp[Op.operands,Call.operands];simpa using E);simp only
   unfold ky;have em:=q args.toList O;generalize args.toList=AJ at O T em;generalize AC.toList=AK;split
   ·rename_i x t;simp only[O x (by simp),VE (T x (by simp))]
   ·rename_i s x t u;simp only[O x (by simp),O s (by simp),R6 N (T s (by simp)) (T x (by simp))]
   ·rename_i s x t u;simp only[O x (by simp),O s (by simp),R7 (T s (by simp)) (T x (by simp))]
   ·simp only[em]
   ·simp only[em]
   ·rename_i x t;simp only[O x (by simp)]
   ·rfl
  |_=>rfl
 |_=>rfl
structure aW where
 ks:List Nat
 es:List cg
 g:Bool
 x:AV
def aW.app(p:aW)(o:Oper)(S:St):St:=({S with mem:=bq S.mem p.es}:St).put o.dst p.g p.x
def XU(all:List Oper)(j:Nat):List Nat:=
 match all[j]? with
 |some o=>match o.dst with|some t=>[t]|none=>[]
 |none=>[]
def looks(all:List Oper)(o:Oper):List Nat:=
 (o.op.operands.toList.filterMap λ| .tmp t=>some t|_=>none)++(match o.guard with|some (j,_)=>XU all j|none=>[])
structure jL(all:List Oper)(o:Oper)(ks:List Nat)(E S:St):Prop where
 n:E.n=S.n
 gl:E.gl=S.gl
 keys:E.mem.map (·.key)=S.mem.map (·.key)
 env:∀t∈looks all o,Env.lk E.env t=Env.lk S.env t
 mem:∀k∈ks,Mem.get E.mem k=Mem.get S.mem k
def jM(P:Program)(all:List Oper)(S:St)(o:Oper)(p:aW):Prop:=
 ∀E,jL all o p.ks E S->∀φ G a w,Rel φ G E a w->∀(next:Act->World->Prop)(R:Exit->Act->World->Prop),
  (∀φ' A7 w',Rel φ' G (p.app o E) A7 w'->aP φ E.mem w φ' (p.app o E).mem w'->next A7 w')->
  if Region.wanted o (yielded all.toArray a.tmps)then o.wp P a w next R else next (a.put o.dst undef) w
def rD(P:Program)(Z:Mem->Prop)(all:List Oper)(S:St)(o:Oper)(p:aW):Prop:=
 ∀E,jL all o p.ks E S->Z E.mem->∀φ G a w,Rel φ G E a w->∀(next:Act->World->Prop)(R:Exit->Act->World->Prop),
  (∀φ' A7 w',Rel φ' G (p.app o E) A7 w'->aP φ E.mem w φ' (p.app o E).mem w'->next A7 w')->
  if Region.wanted o (yielded all.toArray a.tmps)then o.wp P a w next R else next (a.put o.dst undef) w
theorem jM.toI{P:Program}{Z:Mem->Prop}{all:List Oper}{S:St}{o:Oper}{p:aW}(h:jM P all S o p):rD P Z all S o p:=λE AO _=>h E AO
inductive Cert(P:Program)(Z:Mem->Prop)(all:List Oper):List Oper->St->List aW->St->Prop
 |nil (S):Cert P Z all [] S [] S
 |cons (o rest S p ps S1) (J:∀e∈p.es,e.key∈p.ks) (B4:∀m,Z m->Z (bq m p.es)) (h:rD P Z all S o p) (A3:Cert P Z all rest (p.app o S) ps S1):Cert P Z all (o::rest) S (p::ps) S1
def dY(o:Oper):List Nat:=(o.after.toList.filter (Region.binds .any)).map (·.on)
def fY:List Oper->List (List Nat)->List (List Nat)
 |[],T=>T
 |o::r,T=>fY r (T++[((dY o).flatMap λp=>p::T.getD p []).eraseDups])
def pk(l r:List Nat):Bool:=l.all λx=>!r.contains x
def yA(all:List Oper)(o N:Oper)(p A2:aW):Bool:=
 pk o.dst.toList (looks all N)&&pk N.dst.toList (looks all o)&&pk o.dst.toList N.dst.toList&&pk (p.es.map (·.key)) A2.ks&&pk (A2.es.map (·.key)) p.ks
def Gt(all:List Oper)(ps:List aW)(Ap:List (List Nat))(j:Nat):Bool:=
 match all[j]?,ps[j]? with
 |some o,some p=>(dY o).all (λi=>decide (i<j))&&(List.range j).all λi=>(Ap.getD j []).contains i||(match all[i]?,ps[i]? with
  |some N,some A2=>yA all N o A2 p
  |_,_=>false)
 |_,_=>false
def l7(all:List Oper)(ps:List aW):Bool:=(List.range all.length).all (Gt all ps (fY all []))
theorem AY:∀(l:List Oper)(T:List (List Nat)),∃r,fY l T=T++r/\r.length=l.length
 |[],T=>⟨[],by simp[fY]⟩
 |o::l,T=>by
  obtain⟨r,I,M⟩:=AY l (T++[((dY o).flatMap λp=>p::T.getD p []).eraseDups]);exact⟨((dY o).flatMap λp=>p::T.getD p []).eraseDups::r,by rw[fY,I,afI,List.singleton_append],by simp[M]⟩
theorem mem_eraseDups{l:List Nat}{x:Nat}:x∈l.eraseDups↔x∈l:=List.mem_eraseDups
theorem Fi:∀(l:List Oper)(T:List (List Nat))(j:Nat)(o:Oper),l[j]?=some o->(∀p∈dY o,p<T.length+j)->
 ∀i,i∈(fY l T).getD (T.length+j) []↔∃p∈dY o,i=p\/i∈(fY l T).getD p []
 |[],T,j,o,h,_=>by simp at h
 |x::l,T,j,o,h,H=>by
  simp only[fY];cases j with
  |zero=>
   simp at h;subst h;obtain⟨r,I,_⟩:=AY l (T++[((dY x).flatMap λp=>p::T.getD p []).eraseDups]);rw[I];intro i;have A4:(T++[((dY x).flatMap λp=>p::T.getD p []).eraseDups]++r).getD (T.length+0) []=((dY x).flatMap λp=>p::T.getD p []).eraseDups:=by
    simp[afC,afI]
   rw[A4,mem_eraseDups,List.mem_flatMap];constructor
   ·rintro ⟨p,AB,hi⟩;refine⟨p,AB,?_⟩;have AR:=H p AB;rcases aan.1 hi with rfl|hi
    ·exact .inl rfl
    ·right;rw[afC]at hi⊢;rw[afI,aaq (by omega)];exact hi
   ·rintro ⟨p,AB,hi⟩;refine⟨p,AB,?_⟩;have AR:=H p AB;rcases hi with rfl|hi
    ·simp
    ·rw[afC,afI,aaq (by omega),<-afC]at hi;exact acJ _ hi
  |succ j=>
   have:=Fi l (T++[((dY x).flatMap λp=>p::T.getD p []).eraseDups]) j o (by simpa using h) (λp AB=>by have:=H p AB;simp;omega);simp only[ab0,ab1,ae8]at this;rw[show T.length+(j+1)=T.length+(0+1)+j by omega];exact this
theorem ji{all:List Oper}{L:Nat->Prop}(H:∀j o,all[j]?=some o->∀p∈dY o,p<j)(BI:∀j o,all[j]?=some o->L j->∀p∈dY o,L p):
 ∀j,(∃o,all[j]?=some o)->∀i,i∈(fY all []).getD j []->i<j/\((∀o,all[j]?=some o->∀p∈dY o,L p)->L i):=by
 intro j;induction j using Nat.strongRecOn with
 |_ j ih=>
  rintro ⟨o,D⟩ i hi;have AJ:=(Fi all [] j o D (λp AB=>by simpa using H j o D p AB) i);simp only[ae8,ac3]at AJ;obtain⟨p,AB,h⟩:=AJ.1 hi;have AS:=H j o D p AB;rcases h with rfl|h
  ·exact⟨AS,λhh=>hh o D i AB⟩
  ·have BJ:j<all.length:=(aaf.1 D).1;obtain⟨op,BK⟩:∃op,all[p]?=some op:=⟨all[p],by simp[show p<all.length by omega]⟩;obtain⟨I,M⟩:=ih p AS ⟨op,BK⟩ i h;exact⟨by omega,λhh=>M (λN O q A6=>BI p N O (hh o D p AB) q A6)⟩
def aC(all:List Oper)(ps:List aW)(S:St)(l:List Nat):St:=
 l.foldl (λS i=>match all[i]?,ps[i]? with|some o,some p=>p.app o S|_,_=>S) S
theorem tI(p:aW)(o:Oper)(S:St):(p.app o S).n=S.n:=by simp[aW.app,ly]
theorem qo(p:aW)(o:Oper)(S:St):(p.app o S).gl=S.gl:=by cases h:o.dst<;>simp[aW.app,h,St.put]
theorem Bw(p:aW)(o:Oper)(S:St):(p.app o S).mem.map (·.key)=S.mem.map (·.key):=by simp[aW.app,eI,jE]
theorem sA(p:aW)(o:Oper)(S:St)(t:Nat):Env.lk (p.app o S).env t=if o.dst=some t then some (p.g,p.x)else Env.lk S.env t:=by
 cases A0:o.dst with
 |none=>simp[aW.app,St.put,A0]
 |some d=>
  by_cases h:d=t
  ·subst h;simp[aW.app,St.put,A0,Env.lk]
  ·simp[aW.app,St.put,A0,Env.lk,h]
theorem xM:∀(es:List cg)(m:Mem)(k:Nat),k∉es.map (·.key)->Mem.get (bq m es) k=Mem.get m k
 |[],m,k,_=>rfl
 |e::r,m,k,h=>by
  simp only[acZ,aan,akD]at h;rw[bq,xM r _ k h.2,Mem.nO (λhe=>h.1 he.symm)]
theorem m9:∀(es:List cg)(m m':Mem)(k:Nat),m.map (·.key)=m'.map (·.key)->(k∈es.map (·.key)\/Mem.get m k=Mem.get m' k)->Mem.get (bq m es) k=Mem.get (bq m' es) k
 |[],m,m',k,_,h=>by simpa [bq]using h
 |e::r,m,m',k,J,h=>by
  simp only[bq];refine m9 r _ _ k (by rw[Mem.fS,Mem.fS,J]) ?_;by_cases he:e.key=k
  ·right;subst he;by_cases Af:e.key∈m.map (·.key)
   ·rw[Mem.nN Af,Mem.nN (J▸Af)]
   ·have B5:∀(m:Mem),e.key∉m.map (·.key)->Mem.get (Mem.set m e) e.key=none:=by
     intro m hm;cases AP:Mem.get (Mem.set m e) e.key with
     |none=>rfl
     |some y=>
      obtain⟨I,M⟩:=Mem.get_mem AP;have:y.key∈(Mem.set m e).map (·.key):=abY I;rw[Mem.fS,M]at this;exact absurd this hm
    rw[B5 m Af,B5 m' (J▸Af)]
  ·rw[Mem.nO he,Mem.nO he];rcases h with h|h
   ·simp only[acZ,aan]at h;rcases h with h|h
    ·exact absurd h.symm he
    ·exact .inl h
   ·exact .inr h
theorem CO(p:aW)(o:Oper)(S:St)(k:Nat)(h:k∉p.es.map (·.key)):Mem.get (p.app o S).mem k=Mem.get S.mem k:=by
 simp only[aW.app,eI];exact xM _ _ _ h
section
variable {all:List Oper} {ps:List aW} {S:St}
theorem nr(l:List Nat):∀(S:St),(aC all ps S l).n=S.n:=by
 induction l with
 |nil=>exact λ_=>rfl
 |cons i l ih=>
  intro S;have A4:aC all ps S (i::l)=aC all ps (aC all ps S [i]) l:=by simp[aC]
  rw[A4,ih];simp only[aC,afH,afR];split
  ·exact tI ..
  ·rfl
theorem lK(l:List Nat):∀(S:St),(aC all ps S l).gl=S.gl:=by
 induction l with
 |nil=>exact λ_=>rfl
 |cons i l ih=>
  intro S;have A4:aC all ps S (i::l)=aC all ps (aC all ps S [i]) l:=by simp[aC]
  rw[A4,ih];simp only[aC,afH,afR];split
  ·exact qo ..
  ·rfl
theorem dZ(l:List Nat):∀(S:St),(aC all ps S l).mem.map (·.key)=S.mem.map (·.key):=by
 induction l with
 |nil=>exact λ_=>rfl
 |cons i l ih=>
  intro S;have A4:aC all ps S (i::l)=aC all ps (aC all ps S [i]) l:=by simp[aC]
  rw[A4,ih];simp only[aC,afH,afR];split
  ·exact Bw ..
  ·rfl
theorem na(l B6:List Nat)(S:St):aC all ps S (l++B6)=aC all ps (aC all ps S l) B6:=by simp[aC]
theorem tJ(t:Nat)(q:Nat->Bool)(l:List Nat):∀(S E:St),(∀i∈l,∀o,all[i]?=some o->o.dst=some t->q i=true)->Env.lk S.env t=Env.lk E.env t->Env.lk (aC all ps S l).env t=Env.lk (aC all ps E (l.filter q)).env t:=by
 induction l with
 |nil=>intro S E _ h;exact h
 |cons i l ih=>
  intro S E A6 h;have A4:aC all ps S (i::l)=aC all ps (aC all ps S [i]) l:=by simp[aC]
  have AU:∀AD∈l,∀o,all[AD]?=some o->o.dst=some t->q AD=true:=λAD Aq=>A6 AD (acJ _ Aq);rw[A4];by_cases A5:q i=true
  ·rw[List.filter_cons_of_pos A5];have AK:aC all ps E (i::l.filter q)=aC all ps (aC all ps E [i]) (l.filter q):=by simp[aC]
   rw[AK];refine ih _ _ AU ?_;simp only[aC,afH,afR];split
   ·rw[sA,sA,h]
   ·exact h
  ·rw[akC A5];refine ih _ _ AU ?_;simp only[aC,afH,afR];split
   ·rename_i o p D H;rw[sA,aah (λA0=>A5 (A6 i (by simp) o D A0)),h]
   ·exact h
theorem l8(k:Nat)(q:Nat->Bool)(l:List Nat):∀(S E:St),(∀i∈l,∀p,ps[i]?=some p->k∈p.es.map (·.key)->q i=true)->S.mem.map (·.key)=E.mem.map (·.key)->Mem.get S.mem k=Mem.get E.mem k->Mem.get (aC all ps S l).mem k=Mem.get (aC all ps E (l.filter q)).mem k:=by
 induction l with
 |nil=>intro S E _ _ h;exact h
 |cons i l ih=>
  intro S E A6 J h;have A4:aC all ps S (i::l)=aC all ps (aC all ps S [i]) l:=by simp[aC]
  have AU:∀AD∈l,∀p,ps[AD]?=some p->k∈p.es.map (·.key)->q AD=true:=λAD Aq=>A6 AD (acJ _ Aq);rw[A4];by_cases A5:q i=true
  ·rw[List.filter_cons_of_pos A5];have AK:aC all ps E (i::l.filter q)=aC all ps (aC all ps E [i]) (l.filter q):=by simp[aC]
   rw[AK];refine ih _ _ AU (by rw[dZ,dZ,J]) ?_;simp only[aC,afH,afR];split
   ·simp only[aW.app,eI];exact m9 _ _ _ k J (.inr h)
   ·exact h
  ·rw[akC A5];refine ih _ _ AU (by rw[dZ,J]) ?_;simp only[aC,afH,afR];split
   ·rename_i o p D H;rw[CO _ _ _ _ (λA0=>A5 (A6 i (by simp) p H A0)),h]
   ·exact h
end
structure fZ(E S:St):Prop where
 n:E.n=S.n
 gl:E.gl=S.gl
 mem:E.mem=S.mem
 env:∀t,Env.lk E.env t=Env.lk S.env t
theorem Rel.eqv{φ G S E a w}(h:Rel φ G E a w)(he:fZ E S):Rel φ G S a w:=
 ⟨by rw[<-he.n];exact h.size,h.defers,λt x Ag=>by rw[<-he.mem];exact h.env t x (by rw[he.env];exact Ag),by rw[<-he.mem];exact h.mem,by rw[<-he.gl,<-he.mem];exact h.jR⟩
theorem Mem.ext{m m':Mem}(AW:(m.map (·.key)).Nodup)(J:m.map (·.key)=m'.map (·.key))(h:∀k,Mem.get m k=Mem.get m' k):m=m':=by
 induction m generalizing m' with
 |nil=>cases m' with|nil=>rfl|cons _ _=>simp at J
 |cons e r ih=>
  cases m' with
  |nil=>simp at J
  |cons e' Bg=>
   simp only[acZ,List.cons.injEq]at J;simp only[acZ,List.nodup_cons]at AW;have AL:=h e.key;simp only[Mem.get,adI,J.1]at AL;cases AL;congr 1;refine ih AW.2 J.2 λk=>?_;have:=h k;simp only[Mem.get]at this;by_cases he:e.key=k
   ·subst he;have nn:∀{r:Mem},e.key∉r.map (·.key)->Mem.get r e.key=none:=by
     intro r A3;cases AP:Mem.get r e.key with
     |none=>rfl
     |some y=>obtain⟨I,M⟩:=Mem.get_mem AP;exact absurd (M▸abY I) A3
    rw[nn AW.1,nn (by rw[<-J.2];exact AW.1)]
   ·simpa [he]using this
def gE(n:Nat)(f:Nat->Bool):List Nat:=(List.range n).filter f
theorem AZ{j n:Nat}(h:j<n):List.range n=List.range j++j::List.range' (j+1) (n-j-1):=by
 have M:(j::List.range' (j+1) (n-j-1))=List.range' j (n-j):=by
  rw[show n-j=(n-j-1)+1 by omega,afZ];simp
 rw[M,List.range_eq_range',List.range_eq_range'];rw[show List.range' 0 n=List.range' 0 (j+(n-j)) by rw[show j+(n-j)=n by omega]];rw[<-List.range'_append_1];simp
theorem yB{j n:Nat}{f:Nat->Bool}(h:j<n)(AE:f j=false):gE n f=(List.range j).filter f++(List.range' (j+1) (n-j-1)).filter f:=by
 rw[gE,AZ h,ags,akC (by simp[AE])]
theorem OT{j n:Nat}{f g:Nat->Bool}(h:j<n)(AP:g j=true)(B7:∀i,i≠j->g i=f i):gE n g=(List.range j).filter f++j::(List.range' (j+1) (n-j-1)).filter f:=by
 rw[gE,AZ h,ags,List.filter_cons_of_pos AP];congr 1
 ·exact akn λi hi=>B7 i (by have:=ab2.1 hi;omega)
 ·congr 1;exact akn λi hi=>B7 i (by have:=akF.1 hi;omega)
theorem qp{l r:List Nat}(h:pk l r=true){x:Nat}(U:x∈l)(A3:x∈r):False:=by
 have:=aaH.1 h x U;simp at this;exact this A3
structure CP(all:List Oper)(o N:Oper)(p A2:aW):Prop where
 a:∀t,o.dst=some t->t∉looks all N
 b:∀t,N.dst=some t->t∉looks all o
 c:∀t,o.dst=some t->N.dst≠some t
 d:∀k∈p.es.map (·.key),k∉A2.ks
 e:∀k∈A2.es.map (·.key),k∉p.ks
theorem J4{all o N p A2}(h:yA all o N p A2=true):CP all o N p A2:=by
 simp only[yA,Ds]at h;obtain⟨⟨⟨⟨I,M⟩,AQ⟩,BL⟩,BM⟩:=h;exact⟨λt AM U=>qp I (by simp[AM]) U,λt AM U=>qp M (by simp[AM]) U,λt AM U=>qp AQ (x:=t) (by simp[AM]) (by simp[U]),λk J U=>qp BL J U,λk J U=>qp BM J U⟩
section
variable {all:List Oper} {ps:List aW}
theorem dQ(h:l7 all ps=true){j:Nat}{o:Oper}(D:all[j]?=some o):∃p,ps[j]?=some p/\(∀i∈dY o,i<j)/\
 ∀i,i<j->i∈(fY all []).getD j []\/∃N A2,all[i]?=some N/\ps[i]?=some A2/\CP all N o A2 p:=by
 have V:j<all.length:=(aaf.1 D).1;have I:=aaH.1 h j (ab2.2 V);unfold Gt at I;rw[D]at I;cases H:ps[j]? with
 |none=>rw[H]at I;simp at I
 |some p=>
  rw[H]at I;simp only[Ds,aaH,aam,afP,ab2]at I;refine⟨p,rfl,I.1,λi hi=>?_⟩;rcases I.2 i hi with M|M
  ·exact .inl (by simpa using M)
  ·right;split at M
   ·rename_i N A2 O AA;exact⟨N,A2,O,AA,J4 M⟩
   ·cases M
theorem Cert.at{P:Program}{Z:Mem->Prop}{rest:List Oper}{S0 S:St}{Ar:List aW}{S1:St}(h:Cert P Z all rest S Ar S1):∀(pre:List Oper)(pp:List aW),pre.length=pp.length->all=pre++rest->ps=pp++Ar->aC all ps S0 (List.range pre.length)=S->
 aC all ps S0 (List.range all.length)=S1/\ps.length=all.length/\∀j o p,pre.length<=j->all[j]?=some o->ps[j]?=some p->(∀e∈p.es,e.key∈p.ks)/\(∀m,Z m->Z (bq m p.es))/\rD P Z all (aC all ps S0 (List.range j)) o p:=by
 induction h with
 |nil S=>
  intro pre pp U AO AX Ah;simp only[afl]at AO AX;subst AO AX;refine⟨Ah,U.symm,λj o p V D _=>?_⟩;rw[afq (by omega)]at D;cases D
 |cons o rest S p Ar S1 J B4 A_ A3 ih=>
  intro pre pp U AO AX Ah;have A4:all[pre.length]?=some o:=by rw[AO];simp
  have AK:ps[pre.length]?=some p:=by rw[AX,U];simp
  obtain⟨I,M,AQ⟩:=ih (pre++[o]) (pp++[p]) (by simp[U]) (by rw[AO];simp) (by rw[AX];simp) (by
   rw[ab0,acY,List.range_succ,na,Ah];simp[aC,A4,AK])
  refine⟨I,M,λj N A2 V O AA=>?_⟩;rcases Nat.eq_or_lt_of_le V with rfl|V
  ·rw[A4]at O;rw[AK]at AA;cases O;cases AA;exact⟨J,B4,by rw[Ah];exact A_⟩
  ·exact AQ j N A2 (by simp;omega) O AA
variable {S:St} {f:Nat->Bool}
def nZ(all:List Oper)(f:Nat->Bool):Prop:=∀j o,all[j]?=some o->f j=true->∀p∈dY o,f p=true
theorem pP(Ai:ps.length=all.length)(A8:l7 all ps=true)(AG:nZ all f){j:Nat}{o:Oper}{p:aW}(D:all[j]?=some o)(H:ps[j]?=some p)(V:f j=false)(Aj:∀i∈dY o,f i=true):
 jL all o p.ks (aC all ps S (gE all.length f)) (aC all ps S (List.range j)):=by
 have AR:j<all.length:=(aaf.1 D).1;have Ak:∀j o,all[j]?=some o->∀p∈dY o,p<j:=λj o D=>(dQ A8 D).choose_spec.2.1;obtain⟨Bh,B8,_,BN⟩:=dQ A8 D;rw[H]at B8;cases B8
 --Bi Bj ahead of j is A
 have B9:∀i∈(fY all []).getD j [],i<j/\f i=true:=λi hi=>by
  obtain⟨I,M⟩:=ji (L:=λi=>f i=true) Ak (λj o D AE=>AG j o D AE) j ⟨o,D⟩ i hi;exact⟨I,M λN O=>by rw[D]at O;cases O;exact Aj⟩
 let q:Nat->Bool:=λi=>(fY all []).getD j [] |>.contains i
 have A6:∀i,q i=true↔i∈(fY all []).getD j []:=λi=>by simp[q]
 --any other A one,and any other ahead in BO text,is apart
 have BA:∀i,(i<j\/(j<i/\f i=true))->q i=false->∀A' pi,all[i]?=some A'->ps[i]?=some pi->CP all A' o pi p\/CP all o A' p pi:=by
  rintro i (hi|⟨hi,AT⟩) A5 A' pi Y A1
  ·rcases BN i hi with h|⟨N,A2,O,AA,h⟩
   ·rw[(A6 i).2 h]at A5;cases A5
   ·rw[Y]at O;rw[A1]at AA;cases O;cases AA;exact .inl h
  ·obtain⟨BP,Aa,_,As⟩:=dQ A8 Y;rw[A1]at Aa;cases Aa;rcases As j hi with h|⟨N,A2,O,AA,h⟩
   ·have:=(ji (L:=λi=>f i=true) Ak (λj o D AE=>AG j o D AE) i ⟨A',Y⟩ j h).2 (λN O=>by rw[Y]at O;cases O;exact AG i A' Y AT);simp[V]at this
   ·rw[D]at O;rw[H]at AA;cases O;cases AA;exact .inr h
 have BB:(gE all.length f).filter q=(List.range j).filter q:=by
  rw[yB AR V,ags,agr,agr];have:(List.range' (j+1) (all.length-j-1)).filter (λa=>q a&&f a)=[]:=by
   rw[afN];intro i hi;have:=(akF.1 hi).1;simp only[Ds,not_and];intro A5;have:=(B9 i ((A6 i).1 A5)).1;omega
  rw[this,afl];refine akn λi hi=>?_;cases A5:q i with
  |false=>rfl
  |true=>simp[(B9 i ((A6 i).1 A5)).2]
 have U:∀i∈gE all.length f,i<j\/(j<i/\f i=true):=λi hi=>by
  have AT:=(acH.1 hi).2;rcases Nat.lt_trichotomy i j with h|h|h
  ·exact .inl h
  ·subst h;simp[V]at AT
  ·exact .inr ⟨h,AT⟩
 have A3:∀i∈List.range j,i<j\/(j<i/\f i=true):=λi hi=>.inl (ab2.1 hi);refine⟨by rw[nr,nr],by rw[lK,lK],by rw[dZ,dZ],λt AM=>?_,λk J=>?_⟩
 ·have key:∀l:List Nat,(∀i∈l,i<j\/(j<i/\f i=true))->∀i∈l,∀A',all[i]?=some A'->A'.dst=some t->q i=true:=by
   intro l U i hi A' Y A0;cases A5:q i with
   |true=>rfl
   |false=>
    obtain⟨pi,A1,_⟩:=dQ A8 Y;rcases BA i (U i hi) A5 A' pi Y A1 with h|h
    ·exact absurd AM (h.a t A0)
    ·exact absurd AM (h.b t A0)
  rw[tJ t q _ S S (key _ U) rfl,tJ t q (List.range j) S S (key _ A3) rfl,BB]
 ·have key:∀l:List Nat,(∀i∈l,i<j\/(j<i/\f i=true))->∀i∈l,∀pi,ps[i]?=some pi->k∈pi.es.map (·.key)->q i=true:=by
   intro l U i hi pi A1 A0;cases A5:q i with
   |true=>rfl
   |false=>
    have Al:i<ps.length:=(aaf.1 A1).1;cases Y:all[i]? with
    |none=>
     rw[List.getElem?_eq_none_iff]at Y;omega
    |some A'=>
     rcases BA i (U i hi) A5 A' pi Y A1 with h|h
     ·exact absurd J (h.d k A0)
     ·exact absurd J (h.e k A0)
  rw[l8 k q _ S S (key _ U) rfl rfl,l8 k q (List.range j) S S (key _ A3) rfl rfl,BB]
theorem wh(Ai:ps.length=all.length)(A8:l7 all ps=true)(AG:nZ all f)(At:∀(j:Nat) (p:aW),ps[j]?=some p->∀e∈p.es,e.key∈p.ks)(Au:(S.mem.map (·.key)).Nodup){j:Nat}{o:Oper}{p:aW}(D:all[j]?=some o)(H:ps[j]?=some p)(V:f j=false){g:Nat->Bool}(AP:g j=true)(BQ:∀i,i≠j->g i=f i):
 fZ (p.app o (aC all ps S (gE all.length f))) (aC all ps S (gE all.length g)):=by
 have AR:j<all.length:=(aaf.1 D).1;have Ak:∀j o,all[j]?=some o->∀p∈dY o,p<j:=λj o D=>(dQ A8 D).choose_spec.2.1;have Av:∀i∈(List.range' (j+1) (all.length-j-1)).filter f,∀A' pi,all[i]?=some A'->ps[i]?=some pi->CP all o A' p pi:=by
  intro i hi A' pi Y A1;obtain⟨hi,AT⟩:=acH.1 hi;have Bk:=(akF.1 hi).1;obtain⟨BP,Aa,_,As⟩:=dQ A8 Y;rw[A1]at Aa;cases Aa;rcases As j (by omega)with h|⟨N,A2,O,AA,h⟩
  ·have:=(ji (L:=λi=>f i=true) Ak (λj o D AE=>AG j o D AE) i ⟨A',Y⟩ j h).2 (λN O=>by rw[Y]at O;cases O;exact AG i A' Y AT);simp[V]at this
  ·rw[D]at O;rw[H]at AA;cases O;cases AA;exact h
 rw[OT AR AP BQ,yB AR V];generalize BR:(List.range j).filter f=AC;generalize BS:(List.range' (j+1) (all.length-j-1)).filter f=AF at Av;have BT:∀i∈AC++AF,i≠j:=by
  intro i hi;rw[<-BR,<-BS]at hi;rcases abT.1 hi with h|h
  ·have:=ab2.1 (acH.1 h).1;omega
  ·have:=(akF.1 (acH.1 h).1).1;omega
 have BU:∀{i pi},ps[i]?=some pi->∃A',all[i]?=some A':=λ{i pi} h=>by
  have:=(aaf.1 h).1;exact⟨all[i]'(by omega),acB _⟩
 let q:Nat->Bool:=λi=>i != j
 have BC:(AC++j::AF).filter q=AC++AF:=by
  rw[ags,akC (by simp[q]),<-ags,List.filter_eq_self];intro i hi;simpa [q]using BT i hi
 have BD:∀S,aC all ps S (AC++j::AF)=aC all ps (p.app o (aC all ps S AC)) AF:=λS=>by
  rw[na];simp[aC,D,H]
 have BV:(p.app o (aC all ps S (AC++AF))).mem.map (·.key)=(aC all ps S (AC++j::AF)).mem.map (·.key):=by
  rw[Bw,dZ,dZ]
 refine⟨by rw[tI,nr,nr],by rw[qo,lK,lK],Mem.ext (by rw[Bw,dZ];exact Au) BV λk=>?_,λt=>?_⟩
 ·by_cases J:k∈p.es.map (·.key)
  ·have I:Mem.get (p.app o (aC all ps S (AC++AF))).mem k=Mem.get (p.app o (aC all ps S AC)).mem k:=by
    simp only[aW.app,eI];exact m9 _ _ _ k (by rw[dZ,dZ]) (.inl J)
   rw[I,BD];rw[l8 k (λ_=>false) AF _ (p.app o (aC all ps S AC)) ?_ rfl rfl]
   ·rw[afN.2 (by simp)];rfl
   ·intro i hi pi A1 AH;obtain⟨A',Y⟩:=BU A1;have:=(Av i hi A' pi Y A1).e k AH;obtain⟨e,he,rfl⟩:=acb.1 J;exact absurd (At j p H e he) this
  ·rw[CO _ _ _ _ J,l8 k q (AC++j::AF) S S ?_ rfl rfl,BC];intro i hi pi A1 AH;by_cases Ab:i=j
   ·subst Ab;rw[H]at A1;cases A1;exact absurd AH J
   ·simpa [q]using Ab
 ·rw[sA];by_cases A0:o.dst=some t
  ·rw[aap A0,BD];rw[tJ t (λ_=>false) AF _ (p.app o (aC all ps S AC)) ?_ rfl]
   ·rw[afN.2 (by simp)];simp[aC,sA,A0]
   ·intro i hi A' Y Aw;obtain⟨pi,A1,_⟩:=dQ A8 Y;exact absurd Aw ((Av i hi A' pi Y A1).c t A0)
  ·rw[aah A0,tJ t q (AC++j::AF) S S ?_ rfl,BC];intro i hi A' Y Aw;by_cases Ab:i=j
   ·subst Ab;rw[D]at Y;cases Y;exact absurd Aw A0
   ·simpa [q]using Ab
theorem OV{P:Program}{S0 S1:St}{φ0:bG}{G:Fr}{w0:World}{Q:Exit->Act->World->Prop}{Z:Mem->Prop}(Ax:Z S0.mem)(Ac:Cert P Z all all S0 ps S1)(A8:l7 all ps=true)(Au:(S0.mem.map (·.key)).Nodup)
 (Ay:∀φ' A7 w',Rel φ' G S1 A7 w'->aP φ0 S0.mem w0 φ' S1.mem w'->Q .normal A7 w'):
 ∀(fuel:Nat)(A:Array Bool) φ a w,A.size=all.length->nZ all (λi=>A.getD i false)->Rel φ G (aC all ps S0 (gE all.length λi=>A.getD i false)) a w->aP φ0 S0.mem w0 φ (aC all ps S0 (gE all.length λi=>A.getD i false)).mem w->
  ((List.range all.length).filter λi=>!A.getD i false).length<=fuel->wpAny P .any all.toArray Q fuel A a w:=by
 obtain⟨Az,Ai,A_⟩:=Cert.at (ps:=ps) (S0:=S0) Ac [] [] rfl rfl rfl rfl;have At:∀(j:Nat)(p:aW),ps[j]?=some p->∀e∈p.es,e.key∈p.ks:=λj p H=>by
  have BJ:j<ps.length:=(aaf.1 H).1;exact (A_ j (all[j]'(by omega)) p (by simp) (by simp) H).1
 have BW:∀l:List Nat,Z (aC all ps S0 l).mem:=by
  have key:∀(l:List Nat)(S:St),Z S.mem->Z (aC all ps S l).mem:=by
   intro l;induction l with
   |nil=>exact λ_ h=>h
   |cons i l ih=>
    intro S h;have A4:aC all ps S (i::l)=aC all ps (aC all ps S [i]) l:=by simp[aC]
    rw[A4];refine ih _ ?_;simp only[aC,afH,afR];split
    ·rename_i o p D H;simp only[aW.app,eI];exact (A_ i o p (by simp) D H).2.1 _ h
    ·exact h
  exact λl=>key l S0 Ax
 --BO first Bl Bm A is ready
 have first:∀(f:Nat->Bool)(n:Nat),n<=all.length->(∀i,i<n->f i=true)\/∃i,i<n/\f i=false/\∀AD,AD<i->f AD=true:=by
  intro f n;induction n with
  |zero=>exact λ_=>.inl (λi hi=>by omega)
  |succ n ih=>
   intro AW;rcases ih (by omega)with h|⟨i,I,M,AQ⟩
   ·cases AE:f n with
    |true=>
     refine .inl λi hi=>?_;rcases Nat.lt_succ_iff_lt_or_eq.1 hi with B'|B'
     ·exact h i B'
     ·rw[B'];exact AE
    |false=>exact .inr ⟨n,by omega,AE,h⟩
   ·exact .inr ⟨i,by omega,M,AQ⟩
 have done:∀(A:Array Bool) φ a w,A.size=all.length->Rel φ G (aC all ps S0 (gE all.length λi=>A.getD i false)) a w->aP φ0 S0.mem w0 φ (aC all ps S0 (gE all.length λi=>A.getD i false)).mem w->Region.ready .any all.toArray A=[]->Q .normal a w:=by
  intro A φ a w Ad A3 J An;have BX:∀i,i<all.length->A.getD i false=true:=by
   rcases first (λi=>A.getD i false) all.length (aai _)with h|⟨i,I,M,AQ⟩
   ·exact h
   ·exfalso;have:i∈Region.ready .any all.toArray A:=by
     rw[mem_ready];refine⟨?_,all[i],by simp[I],λe he B0=>?_⟩
     ·have:i<A.size:=by omega
      simp only[aay,ady this,acV]at M⊢;exact M
     ·obtain⟨p,_,H,_⟩:=dQ A8 (show all[i]?=some all[i] by simp[I]);exact AQ e.on (H e.on (by
       simp only[dY,acb,acH];exact⟨e,⟨by simpa using he,B0⟩,rfl⟩))
    rw[An]at this;cases this
  have U:(gE all.length λi=>A.getD i false)=List.range all.length:=by
   rw[gE,List.filter_eq_self];intro i hi;exact BX i (ab2.1 hi)
  rw[U,Az]at A3 J;exact Ay φ a w A3 J
 intro fuel;induction fuel with
 |zero=>
  intro A φ a w Ad AG A3 J AE;have An:Region.ready .any all.toArray A=[]:=by
   cases h:Region.ready .any all.toArray A with
   |nil=>rfl
   |cons i r=>
    exfalso;have hi:i∈Region.ready .any all.toArray A:=by rw[h];simp
    rw[mem_ready]at hi;obtain⟨AL,o,D,_⟩:=hi;have Al:i<all.length:=by
     have:=(acw.1 D).1;simpa using this
    have Ae:A.getD i false=false:=by
     have:i<A.size:=by omega
     simp only[aay,ady this,acV]at AL⊢;exact AL
    have:i∈(List.range all.length).filter λi=>!A.getD i false:=acH.2 ⟨ab2.2 Al,by simp[Ae]⟩;have:=List.length_pos_of_mem this;omega
  exact⟨An,done A φ a w Ad A3 J An⟩
 |succ fuel ih=>
  intro A φ a w Ad AG A3 J AE;refine⟨done A φ a w Ad A3 J,λi hi=>?_⟩;rw[mem_ready]at hi;obtain⟨AL,o,D,BY⟩:=hi;have O:all[i]?=some o:=by simpa using D
  have Al:i<all.length:=(aaf.1 O).1;have BE:i<A.size:=by omega
  have Ae:A.getD i false=false:=by
   simp only[aay,ady BE,acV]at AL⊢;exact AL
  have Aj:∀k∈dY o,A.getD k false=true:=by
   intro k AN;simp only[dY,acb,acH]at AN;obtain⟨e,⟨he,B0⟩,rfl⟩:=AN;exact BY e (by simpa using he) B0
  obtain⟨p,H,_⟩:=dQ A8 O;obtain⟨Bn,_,BZ⟩:=A_ i o p (by simp) O H;have B_:=pP (S:=S0) Ai A8 AG O H Ae Aj;have B1:(A.setIfInBounds i true).getD i false=true:=by simp[BE]
  have Ao:∀k,k≠i->(A.setIfInBounds i true).getD k false=A.getD k false:=λk AN=>getD_set_ne false (afL AN);have heq:=wh (S:=S0) (f:=λi=>A.getD i false) (g:=λk=>(A.setIfInBounds i true).getD k false) Ai A8 AG At Au O H Ae B1 Ao;have Ba:nZ all (λk=>(A.setIfInBounds i true).getD k false):=by
   intro k ok B2 Bb x Ag;by_cases BF:x=i
   ·subst BF;exact B1
   ·show (A.setIfInBounds i true).getD x false=true;rw[Ao x BF];by_cases AH:k=i
    ·subst AH;rw[O]at B2;cases B2;exact Aj x Ag
    ·exact AG k ok B2 ((Ao k AH).symm.trans Bb) x Ag
  have Bc:((List.range all.length).filter λk=>!(A.setIfInBounds i true).getD k false).length<=fuel:=by
   have I:(List.range all.length).filter (λk=>!(A.setIfInBounds i true).getD k false)=((List.range all.length).filter λk=>!A.getD k false).filter (λk=>k != i):=by
    rw[agr];refine akn λk _=>?_;by_cases AH:k=i
    ·subst AH;rw[B1];simp
    ·rw[Ao k AH];simp[AH]
   have Bd:i∈(List.range all.length).filter λk=>!A.getD k false:=acH.2 ⟨ab2.2 Al,by simp[Ae]⟩;rw[I];have:(((List.range all.length).filter λk=>!A.getD k false).filter (λk=>k != i)).length<((List.range all.length).filter λk=>!A.getD k false).length:=by
    rw[akB];exact⟨i,Bd,by simp⟩
   omega
  have AJ:=BZ _ B_ (BW _) φ G a w A3 (wpAny P .any all.toArray Q fuel (A.setIfInBounds i true)) Q (λφ' A7 w' B3 AN=>
   ih _ φ' A7 w' (by simpa using Ad) Ba (B3.eqv heq) (by rw[<-heq.mem];exact J.trans AN) Bc)
  unfold wpOp;rw[D];simp only
  split at AJ
  ·rename_i hw;rw[aap hw];exact .inl AJ
  ·rename_i hw;rw[aah hw];exact AJ
end
theorem J5{P:Program}{S S1:St}{id:Nat}{ops:List Oper}{ps:List aW}{Z:Mem->Prop}(Ax:Z S.mem)(hm:P.follows .mixedOrders=true)(Ac:Cert P Z ops ops S ps S1)(A8:l7 ops ps=true){φ G a w}(A3:Rel φ G S a w){Q:Exit->Act->World->Prop}
 (Ay:∀φ' A7 w',Rel φ' G S1 A7 w'->aP φ S.mem w φ' S1.mem w'->Q .normal A7 w'):(Code.region id ops.toArray true).wp P Q a w:=by
 refine wp_region_any hm ?_;have Be:Rel φ G S a {w with drawn:=w.drawn+1}:=A3.grow (λ_ _=>rfl) (aai _);have BG:(gE ops.length λi=>(Array.replicate ops.length false).getD i false)=[]:=by
  rw[gE,afN];intro i hi;simp[aay,ab2.1 hi]
 refine OV (S0:=S) (φ0:=φ) (w0:=w) (G:=G) Ax Ac A8 A3.mem.nodup (λφ' A7 w' B3 AN=>Ay φ' A7 w' B3 AN) _ _ φ a _ (by simp) ?_ ?_ ?_ ?_
 ·intro j o _ V;exfalso;simp only[aay]at V;by_cases h:j<ops.length
  ·simp[h]at V
  ·simp[h]at V
 ·simp only[acK];rw[BG];exact Be
 ·simp only[acK];rw[BG];exact aP.grow (λ_ _=>rfl) (aai _) rfl rfl rfl
 ·simp only[acK];exact ag6 (List.length_filter_le _ _) (by simp)
theorem acG{P:Program}{Z:Mem->Prop}{ops:List Oper}{S S1:St}{ps:List aW}(Ac:Cert P Z ops ops S ps S1):S1.n=S.n/\S1.gl=S.gl:=by
 obtain⟨Az,_,_⟩:=Cert.at (ps:=ps) (S0:=S) Ac [] [] rfl rfl rfl rfl;rw[<-Az];exact⟨nr ..,lK ..⟩
def Bx(all:List Oper)(o N:Oper):Bool:=pk o.dst.toList (looks all N)&&pk N.dst.toList (looks all o)&&pk o.dst.toList N.dst.toList
def yG(all:List Oper)(A9:List (List Nat))(Ap:List (List Nat))(j:Nat):Bool:=
 match all[j]? with
 |some o=>(dY o).all (λi=>decide (i<j))&&(List.range j).all λi=>(Ap.getD j []).contains i||(match all[i]? with
  |some N=>Bx all N o&&((A9.getD i []).contains j&&(A9.getD j []).contains i)
  |none=>false)
 |none=>false
def By(all:List Oper)(A9:List (List Nat)):Bool:=(List.range all.length).all (yG all A9 (fY all []))
def Eb(ps:List aW)(es:List cg):List Nat->Bool
 |[]=>true
 |j::r=>(match ps[j]? with|some q=>pk (es.map (·.key)) q.ks|none=>false)&&Eb ps es r
def Ec(ps:List aW)(AI:List Nat):List cg->Bool
 |[]=>true
 |e::es=>Eb ps (e::es) AI
def wi(ps:List aW):List (List Nat)->List aW->Bool
 |_,[]=>true
 |[],p::r=>Ec ps [] p.es&&wi ps [] r
 |AI::A9,p::r=>Ec ps AI p.es&&wi ps A9 r
def n7(A9:List (List Nat))(ps:List aW):Bool:=wi ps A9 ps
theorem po{ps:List aW}:∀{A9:List (List Nat)}{l:List aW},wi ps A9 l=true->∀i p,l[i]?=some p->Ec ps (A9.getD i []) p.es=true
 |_,[],_,i,p,H=>by simp at H
 |[],q::r,h,i,p,H=>by
  simp only[wi,Ds]at h;cases i with
  |zero=>simp at H;subst H;simpa using h.1
  |succ i=>have:=po h.2 i p (by simpa using H);simpa using this
 |AI::A9,q::r,h,i,p,H=>by
  simp only[wi,Ds]at h;cases i with
  |zero=>simp at H;subst H;simpa using h.1
  |succ i=>have:=po h.2 i p (by simpa using H);simpa using this
theorem HD{ps:List aW}{es:List cg}:∀{AI:List Nat},Eb ps es AI=true->∀j∈AI,∀q,ps[j]?=some q->pk (es.map (·.key)) q.ks=true
 |[],_,j,V,_,_=>by simp at V
 |k::r,h,j,V,q,A6=>by
  simp only[Eb,Ds]at h;rcases aan.1 V with rfl|V
  ·have:=h.1;rw[A6]at this;exact this
  ·exact HD h.2 j V q A6
theorem wj{ps:List aW}{AI:List Nat}:∀{es:List cg},Ec ps AI es=true->∀j∈AI,∀q,ps[j]?=some q->pk (es.map (·.key)) q.ks=true
 |[],_,_,_,_,_=>rfl
 |_::_,h,j,V,q,A6=>HD h j V q A6
theorem Sa{all:List Oper}{A9:List (List Nat)}{ps:List aW}(AJ:By all A9=true)(A0:n7 A9 ps=true)(U:ps.length=all.length):l7 all ps=true:=by
 unfold l7;refine aaH.2 λj V=>?_;have I:=aaH.1 AJ j V;have Bf:j<all.length:=ab2.1 V;unfold yG at I;unfold Gt;have AS:ps[j]?=some (ps[j]'(by omega)):=by simp[U,Bf]
 rw[AS];cases D:all[j]? with
 |none=>rw[D]at I;cases I
 |some o=>
  rw[D]at I;simp only[Ds,aaH,aam,afP,ab2]at I⊢;refine⟨I.1,λi hi=>?_⟩;rcases I.2 i hi with M|M
  ·exact .inl M
  ·right;have A1:ps[i]?=some (ps[i]'(by omega)):=by simp[show i<ps.length by omega]
   cases Y:all[i]? with
   |none=>rw[Y]at M;cases M
   |some N=>
    rw[Y]at M;rw[A1];simp only[Ds]at M;simp only[yA];have A4:=wj (po A0 i _ A1) j (by simpa using M.2.1) _ AS;have AK:=wj (po A0 j _ AS) i (by simpa using M.2.2) _ A1;have BH:=M.1;simp only[Bx,Ds]at BH;simp only[Ds];exact⟨⟨BH,A4⟩,AK⟩
def Bz(all:List Oper):Prop:=∀i,i+1<all.length->i∈(fY all []).getD (all.length-1) []
theorem A0{all:List Oper}{AY:List (List Nat)}(T:By all AY=true)(AZ:AY.getD (all.length-1) []=[]):Bz all:=by
 intro i hi;have J:=aaH.1 T (all.length-1) (ab2.2 (by omega));unfold yG at J;rw[acB (by omega)]at J;simp only[Ds,aaH,afP,ab2]at J;rcases J.2 i (by omega)with D|D
 ·simpa using D
 ·rw[acB (by omega)]at D;simp only[Ds]at D;have:=D.2.2;rw[AZ]at this;cases this
def A1:aW:=⟨[],[],false,.aY⟩
section
variable {all:List Oper} {ps:List aW}
theorem Cert.at2{P:Program}{H:Mem->Prop}{rest:List Oper}{S0 S:St}{O:List aW}{S1:St}(h:Cert P H all rest S O S1):∀(pre:List Oper)(pp:List aW)(AD:List Oper)(AE:List aW),pre.length=pp.length->all=pre++rest++AD->ps=pp++O++AE->aC all ps S0 (List.range pre.length)=S->
 aC all ps S0 (List.range (pre.length+rest.length))=S1/\O.length=rest.length/\∀j o p,pre.length<=j->j<pre.length+rest.length->all[j]?=some o->ps[j]?=some p->(∀e∈p.es,e.key∈p.ks)/\(∀m,H m->H (bq m p.es))/\rD P H all (aC all ps S0 (List.range j)) o p:=by
 induction h with
 |nil S=>
  intro pre pp AD AE A8 AK Z AF;exact⟨by simpa using AF,rfl,λj o p U AL _=>by simp at AL;omega⟩
 |cons o rest S p O S1 y Ao A9 Y ih=>
  intro pre pp AD AE A8 AK Z AF;have A':all[pre.length]?=some o:=by rw[AK];simp
  have A_:ps[pre.length]?=some p:=by rw[Z,A8];simp
  obtain⟨J,D,AA⟩:=ih (pre++[o]) (pp++[p]) AD AE (by simp[A8]) (by rw[AK];simp) (by rw[Z];simp) (by
   rw[ab0,acY,List.range_succ,na,AF];simp[aC,A',A_])
  refine⟨by rw[<-J];simp;congr 2;omega,by simp[D],λj Aa Ap U AL M AM=>?_⟩;rcases Nat.eq_or_lt_of_le U with rfl|U
  ·rw[A']at M;rw[A_]at AM;cases M;cases AM;exact⟨y,Ao,by rw[AF];exact A9⟩
  ·exact AA j Aa Ap (by simp;omega) (by simp at AL⊢;omega) M AM
theorem OW{P:Program}{S0 S1:St}{φ0:bG}{G:Fr}{w0:World}{Q:Exit->Act->World->Prop}{H:Mem->Prop}{init:List Oper}{ol:Oper}(A2:all=init++[ol])(AN:Bz all)(AO:H S0.mem){O:List aW}(AP:Cert P H all init S0 O S1)(Z:ps=O++[A1])(q:l7 all ps=true)(Aq:(S0.mem.map (·.key)).Nodup)
 (AQ:∀φ a w,Rel φ G S1 a w->aP φ0 S0.mem w0 φ S1.mem w->∀next:Act->World->Prop,(∀I w',Q .normal I w'->next I w')->if Region.wanted ol (yielded all.toArray a.tmps)then ol.wp P a w next Q else next (a.put ol.dst undef) w):
 ∀(fuel:Nat)(A:Array Bool) φ a w,A.size=all.length->A.getD init.length false=false->nZ all (λi=>A.getD i false)->Rel φ G (aC all ps S0 (gE all.length λi=>A.getD i false)) a w->aP φ0 S0.mem w0 φ (aC all ps S0 (gE all.length λi=>A.getD i false)).mem w->
  ((List.range all.length).filter λi=>!A.getD i false).length<=fuel->wpAny P .any all.toArray Q fuel A a w:=by
 obtain⟨Ar,Ab,A9⟩:=Cert.at2 (ps:=ps) (S0:=S0) AP [] [] [ol] [A1] rfl (by simp[A2]) (by simp[Z]) rfl;have AR:all.length=init.length+1:=by rw[A2];simp
 have Ac:ps.length=all.length:=by rw[Z,AR];simp[Ab]
 have AS:all[init.length]?=some ol:=by rw[A2];simp
 have Ad:ps[init.length]?=some A1:=by rw[Z,<-Ab];simp
 have As:∀(j:Nat)(p:aW),ps[j]?=some p->∀e∈p.es,e.key∈p.ks:=λj p E=>by
  have B9:j<ps.length:=(aaf.1 E).1;by_cases U:j<init.length
  ·exact (A9 j (all[j]'(by omega)) p (by simp) (by simpa using U) (by simp) E).1
  ·have:j=init.length:=by omega
   subst this;rw[Ad]at E;cases E;simp[A1]
 have At:∀j o,all[j]?=some o->∀p∈dY o,p<j:=λj o N=>(dQ q N).choose_spec.2.1;have Au:∀l:List Nat,H (aC all ps S0 l).mem:=by
  have key:∀(l:List Nat)(S:St),H S.mem->H (aC all ps S l).mem:=by
   intro l;induction l with
   |nil=>exact λ_ h=>h
   |cons i l ih=>
    intro S h;have A':aC all ps S (i::l)=aC all ps (aC all ps S [i]) l:=by simp[aC]
    rw[A'];refine ih _ ?_;simp only[aC,afH,afR];split
    ·rename_i o p N E;simp only[aW.app,eI];have AG:i<all.length:=(aaf.1 N).1;by_cases hi:i<init.length
     ·exact (A9 i o p (by simp) (by simpa using hi) N E).2.1 _ h
     ·have:i=init.length:=by omega
      subst this;rw[Ad]at E;cases E;exact h
    ·exact h
  exact λl=>key l S0 AO
 have first:∀(f:Nat->Bool)(n:Nat),n<=all.length->(∀i,i<n->f i=true)\/∃i,i<n/\f i=false/\∀Ae,Ae<i->f Ae=true:=by
  intro f n;induction n with
  |zero=>exact λ_=>.inl (λi hi=>by omega)
  |succ n ih=>
   intro AZ;rcases ih (by omega)with h|⟨i,J,D,AA⟩
   ·cases A3:f n with
    |true=>
     refine .inl λi hi=>?_;rcases Nat.lt_succ_iff_lt_or_eq.1 hi with AT|AT
     ·exact h i AT
     ·rw[AT];exact A3
    |false=>exact .inr ⟨n,by omega,A3,h⟩
   ·exact .inr ⟨i,by omega,D,AA⟩
 have Av:∀(A:Array Bool),A.size=all.length->Region.ready .any all.toArray A=[]->∀i,i<all.length->A.getD i false=true:=by
  intro A A4 A5;rcases first (λi=>A.getD i false) all.length (aai _)with h|⟨i,J,D,AA⟩
  ·exact h
  ·exfalso;have:i∈Region.ready .any all.toArray A:=by
    rw[mem_ready];refine⟨?_,all[i],by simp[J],λe he AU=>?_⟩
    ·have:i<A.size:=by omega
     simp only[aay,ady this,acV]at D⊢;exact D
    ·obtain⟨p,_,E,_⟩:=dQ q (show all[i]?=some all[i] by simp[J]);exact AA e.on (E e.on (by
      simp only[dY,acb,acH];exact⟨e,⟨by simpa using he,AU⟩,rfl⟩))
   rw[A5]at this;cases this
 have Aw:∀(A:Array Bool),A.size=all.length->(∀i,i<all.length->A.getD i false=true)->Region.ready .any all.toArray A=[]:=by
  intro A A4 Ax;cases h:Region.ready .any all.toArray A with
  |nil=>rfl
  |cons i r=>
   exfalso;have hi:i∈Region.ready .any all.toArray A:=by rw[h];simp
   rw[mem_ready]at hi;obtain⟨AB,o,N,_⟩:=hi;have AG:i<all.length:=by
    have:=(acw.1 N).1;simpa using this
   have:=Ax i AG;have D:i<A.size:=by omega
   simp only[aay,ady D,acV]at AB this;rw[AB]at this;cases this
 intro fuel;induction fuel with
 |zero=>
  intro A φ a w A4 AH AC Y y A3;exfalso;have:init.length∈(List.range all.length).filter λi=>!A.getD i false:=acH.2 ⟨ab2.2 (by omega),by simp only[AH];rfl⟩;have:=List.length_pos_of_mem this;omega
 |succ fuel ih=>
  intro A φ a w A4 AH AC Y y A3;refine⟨λA5=>?_,λi hi=>?_⟩
  ·have:=Av A A4 A5 init.length (by omega);rw[AH]at this;cases this
  rw[mem_ready]at hi;obtain⟨AB,o,N,Ay⟩:=hi;have M:all[i]?=some o:=by simpa using N
  have AG:i<all.length:=(aaf.1 M).1;have Af:i<A.size:=by omega
  have AI:A.getD i false=false:=by
   simp only[aay,ady Af,acV]at AB⊢;exact AB
  have AV:∀k∈dY o,A.getD k false=true:=by
   intro k A6;simp only[dY,acb,acH]at A6;obtain⟨e,⟨he,AU⟩,rfl⟩:=A6;exact Ay e (by simpa using he) AU
  have AJ:(A.setIfInBounds i true).getD i false=true:=by simp[Af]
  have A7:∀k,k≠i->(A.setIfInBounds i true).getD k false=A.getD k false:=λk A6=>getD_set_ne false (afL A6);by_cases Ag:i=init.length
  ·subst Ag;rw[AS]at M;cases M;have Ah:∀k,k<init.length->A.getD k false=true:=by
    intro k AW;have Az:k∈(fY all []).getD init.length []:=by
     have:=AN k (by omega);rw[AR]at this;simpa using this
    exact (ji (L:=λi=>A.getD i false=true) At (λj o N A3=>AC j o N A3) init.length ⟨ol,AS⟩ k Az).2 (λAa Ai=>by rw[AS]at Ai;cases Ai;exact AV)
   have A8:(gE all.length λi=>A.getD i false)=List.range init.length:=by
    rw[gE,AR,List.range_succ,ags];have A':(List.range init.length).filter (λi=>A.getD i false)=List.range init.length:=by
     rw[List.filter_eq_self];intro k AW;exact Ah k (ab2.1 AW)
    rw[A'];simp only[List.filter_cons,List.filter_nil];rw[AI];simp
   have B':aC all ps S0 (List.range init.length)=S1:=by simpa using Ar
   rw[A8,B']at Y y;have T:=AQ φ a w Y y (wpAny P .any all.toArray Q fuel (A.setIfInBounds init.length true)) (λI w' Aj=>by
    have A5:=Aw (A.setIfInBounds init.length true) (by simpa using A4) (λk AW=>by
     by_cases V:k=init.length
     ·subst V;exact AJ
     ·rw[A7 k V];exact Ah k (by omega))
    cases fuel with
    |zero=>exact⟨A5,Aj⟩
    |succ fuel=>exact⟨λ_=>Aj,λi hi=>by rw[A5]at hi;cases hi⟩)
   unfold wpOp;rw[N];simp only
   split at T
   ·rename_i hw;rw[aap hw];exact .inl T
   ·rename_i hw;rw[aah hw];exact T
  ·have B0:i<init.length:=by omega
   obtain⟨p,E,_⟩:=dQ q M;obtain⟨BA,_,B1⟩:=A9 i o p (by simp) (by simpa using B0) M E;have B2:=pP (S:=S0) Ac q AC M E AI AV;have heq:=wh (S:=S0) (f:=λi=>A.getD i false) (g:=λk=>(A.setIfInBounds i true).getD k false) Ac q AC As Aq M E AI AJ A7;have B3:nZ all (λk=>(A.setIfInBounds i true).getD k false):=by
    intro k ok AX B4 x Ak;by_cases Al:x=i
    ·subst Al;exact AJ
    ·show (A.setIfInBounds i true).getD x false=true;rw[A7 x Al];by_cases V:k=i
     ·subst V;rw[M]at AX;cases AX;exact AV x Ak
     ·exact AC k ok AX ((A7 k V).symm.trans B4) x Ak
   have B5:((List.range all.length).filter λk=>!(A.setIfInBounds i true).getD k false).length<=fuel:=by
    have J:(List.range all.length).filter (λk=>!(A.setIfInBounds i true).getD k false)=((List.range all.length).filter λk=>!A.getD k false).filter (λk=>k != i):=by
     rw[agr];refine akn λk _=>?_;by_cases V:k=i
     ·subst V;rw[AJ];simp
     ·rw[A7 k V];simp[V]
    have B6:i∈(List.range all.length).filter λk=>!A.getD k false:=acH.2 ⟨ab2.2 AG,by simp[AI]⟩;rw[J];have:(((List.range all.length).filter λk=>!A.getD k false).filter (λk=>k != i)).length<((List.range all.length).filter λk=>!A.getD k false).length:=by
     rw[akB];exact⟨i,B6,by simp⟩
    omega
   have T:=B1 _ B2 (Au _) φ G a w Y (wpAny P .any all.toArray Q fuel (A.setIfInBounds i true)) Q (λφ' I w' B7 A6=>
    ih _ φ' I w' (by simpa using A4) (by rw[A7 _ (afL Ag)];exact AH) B3 (B7.eqv heq) (by rw[<-heq.mem];exact y.trans A6) B5)
   unfold wpOp;rw[N];simp only
   split at T
   ·rename_i hw;rw[aap hw];exact .inl T
   ·rename_i hw;rw[aah hw];exact T
end
theorem J6{P:Program}{S S1:St}{id:Nat}{ops init:List Oper}{ol:Oper}{O:List aW}{H:Mem->Prop}(A2:ops=init++[ol])(AN:Bz ops)(AO:H S.mem)(hm:P.follows .mixedOrders=true)(AP:Cert P H ops init S O S1)(q:l7 ops (O++[A1])=true){φ G a w}(Y:Rel φ G S a w){Q:Exit->Act->World->Prop}
 (AQ:∀φ' I w',Rel φ' G S1 I w'->aP φ S.mem w φ' S1.mem w'->∀next:Act->World->Prop,(∀I w',Q .normal I w'->next I w')->if Region.wanted ol (yielded ops.toArray I.tmps)then ol.wp P I w' next Q else next (I.put ol.dst undef) w'):(Code.region id ops.toArray true).wp P Q a w:=by
 refine wp_region_any hm ?_;have B8:Rel φ G S a {w with drawn:=w.drawn+1}:=Y.grow (λ_ _=>rfl) (aai _);have An:(gE ops.length λi=>(Array.replicate ops.length false).getD i false)=[]:=by
  rw[gE,afN];intro i hi;simp[aay,ab2.1 hi]
 refine OW (S0:=S) (φ0:=φ) (w0:=w) (G:=G) A2 AN AO AP rfl q Y.mem.nodup AQ _ _ φ a _ (by simp) ?_ ?_ ?_ ?_ ?_
 ·simp only[aay];rw[A2];simp
 ·intro j o _ U;exfalso;simp only[aay]at U;by_cases h:j<ops.length
  ·simp[h]at U
  ·simp[h]at U
 ·simp only[acK];rw[An];exact B8
 ·simp only[acK];rw[An];exact aP.grow (λ_ _=>rfl) (aai _) rfl rfl rfl
 ·simp only[acK];exact ag6 (List.length_filter_le _ _) (by simp)
def fm:Mem->Nat
 |[]=>0
 |e::r=>e.ak+fm r
def fi:List aW->Nat
 |[]=>0
 |p::r=>fm p.es+fi r
def jk(N:Nat):Mem->Mem
 |[]=>[]
 |e::r=>(match decide (100<=e.key)with|true=>⟨e.key,N,.dead⟩|false=>e)::jk N r
def St.kill(S:St)(N:Nat):St:={S with env:=[],mem:=jk N S.mem}
def Ed:List cg->Bool
 |[]=>true
 |e::r=>decide (100<=e.key)&&Ed r
def yJ(ps:List aW):List Nat->Bool
 |[]=>true
 |i::r=>(match ps[i]? with|some p=>Ed p.es|none=>false)&&yJ ps r
theorem yK:∀{m:Mem}{e:cg},e∈m->e.ak<=fm m
 |_::r,e,h=>by
  rcases aan.1 h with rfl|h
  ·simp only[fm];omega
  ·have:=yK (m:=r) h;simp only[fm];omega
theorem CS:∀{ps:List aW}{p:aW},p∈ps->fm p.es<=fi ps
 |_::r,p,h=>by
  rcases aan.1 h with rfl|h
  ·simp only[fi];omega
  ·have:=CS (ps:=r) h;simp only[fi];omega
theorem n8(N:Nat):∀m:Mem,(jk N m).map (·.key)=m.map (·.key)
 |[]=>rfl
 |e::r=>by
  simp only[jk,acZ,n8 N r];split<;>rfl
theorem qt{N:Nat}:∀{m:Mem}{e:cg},e∈jk N m->(∃A'∈m,100<=A'.key/\e=⟨A'.key,N,.dead⟩)\/(e∈m/\e.key<100)
 |A'::r,e,h=>by
  simp only[jk,aan]at h;rcases h with h|h
  ·by_cases U:100<=A'.key
   ·simp only[U,decide_true]at h;exact .inl ⟨A',by simp,U,h⟩
   ·simp only[U,decide_false]at h;subst h;exact .inr ⟨by simp,by omega⟩
  ·rcases qt h with ⟨AE,E,M,A3⟩|⟨E,M⟩
   ·exact .inl ⟨AE,acJ _ E,M,A3⟩
   ·exact .inr ⟨acJ _ E,M⟩
theorem yL(N:Nat)(k:Nat):∀m:Mem,Mem.get (jk N m) k=(Mem.get m k).map λe=>match decide (100<=e.key)with|true=>⟨e.key,N,.dead⟩|false=>e
 |[]=>rfl
 |e::r=>by
  have AE:(match decide (100<=e.key)with|true=>(⟨e.key,N,.dead⟩:cg)|false=>e).key=e.key:=by split<;>rfl
  simp only[jk,Mem.get,AE];split
  ·rfl
  ·exact yL N k r
def n9(φ:bG)(N:Nat):bG:=λk=>match φ k with
 |some L=>some (match decide (100<=k)with|true=>{L with ak:=N}|false=>L)
 |none=>none
theorem oa{φ:bG}{N k:Nat}(h:k<100):n9 φ N k=φ k:=by
 unfold n9;have:decide (100<=k)=false:=by simp;omega
 rw[this];cases φ k<;>rfl
theorem Fk{φ:bG}{N k:Nat}{L:Loc}(h:100<=k)(I:φ k=some L):n9 φ N k=some {L with ak:=N}:=by
 unfold n9;have:decide (100<=k)=true:=by simp;omega
 rw[this,I]
theorem aaR{φ:bG}{G:Fr}{S:St}{a:Act}{w:World}{N:Nat}(h:Rel φ G S a w)(AQ:∀e∈S.mem,e.ak<N):
 Rel (n9 φ N) G (S.kill N) a w/\aP φ S.mem w (n9 φ N) (S.kill N).mem w:=by
 have hle:φ.le (n9 φ N):=by
  intro k L I;by_cases U:100<=k
  ·obtain⟨e,he,rfl⟩:=acb.1 (h.mem.oI k L I);obtain⟨L',AH,Af,_⟩:=h.mem.fC e he;rw[I]at AH;cases AH;have:=AQ e he;exact⟨_,Fk U I,by simp only;omega,λhh=>by simp only at hh;omega⟩
  ·exact⟨L,by rw[oa (by omega)];exact I,aai _,λ_=>rfl⟩
 have AR:∀b,gS (n9 φ N) (jk N S.mem) b->gS φ S.mem b:=by
  rintro b ⟨e,he,L,I,H⟩;rcases qt he with ⟨A',V,E,rfl⟩|⟨V,E⟩
  ·exact H.elim
  ·rw[oa E]at I;exact⟨e,V,L,I,H⟩
 have Ag:∀b,Fo G (n9 φ N) (jk N S.mem) b->Fo G φ S.mem b:=λb=>Or.imp id (AR b);have U:aP φ S.mem w (n9 φ N) (S.kill N).mem w:=⟨hle,λ_ _ _=>rfl,λb _ T=>AR b T,aai _,rfl,rfl,rfl⟩;refine⟨⟨h.size,h.defers,(λt x AN=>nomatch AN),⟨?_,?_,?_,?_,?_,h.mem.bound⟩,h.jR.mono (λ_ _ _=>rfl) (aai _) (λb _ T=>Ag b T)⟩,U⟩
 ·show ((jk N S.mem).map (·.key)).Nodup;rw[n8];exact h.mem.nodup
 ·intro k L I;show k∈(jk N S.mem).map (·.key);rw[n8];unfold n9 at I;cases J:φ k with
  |none=>rw[J]at I;cases I
  |some Ax=>exact h.mem.oI k Ax J
 ·intro e he;rcases qt he with ⟨A',V,E,rfl⟩|⟨V,E⟩
  ·obtain⟨L,I,_,_⟩:=h.mem.fC A' V;exact⟨_,Fk E I,rfl,trivial⟩
  ·obtain⟨L,I,Af,Ay⟩:=h.mem.fC e V;exact⟨L,by rw[oa E];exact I,Af,Ay.mono hle (λ_ _ _=>rfl) (aai _) (λb _ T=>Ag b T) (λ_ _=>rfl)⟩
 ·rintro e he e' Az L L' I AH ⟨b,H,O⟩;rcases qt he with ⟨A',V,E,rfl⟩|⟨V,E⟩
  ·exact H.elim
  ·rcases qt Az with ⟨AE,M,A3,rfl⟩|⟨M,A3⟩
   ·exact O.elim
   ·rw[oa E]at I;rw[oa A3]at AH;exact h.mem.apart e V e' M L L' I AH ⟨b,H,O⟩
 ·intro b T;exact h.mem.jP b (AR b T)
def Ab(P:Program)(all:List Oper)(S:St)(o:Oper)(p:aW)(t:TypeId)(x:D):Prop:=
 ∀A7,jL all o p.ks A7 S->∀φ G a w,Rel φ G A7 a w->∀(next:Act->World->Prop)(R:Exit->Act->World->Prop),
  (∀φ' A0 w' v,Rel φ' G {A7 with mem:=bq A7.mem p.es} A0 w'->aP φ A7.mem w φ' (bq A7.mem p.es) w'->aJ w' (Fo G φ' (bq A7.mem p.es)) x v->R (.panic [{v:=.iface t v,recovered:=false}]) A0 w')->
  if Region.wanted o (yielded all.toArray a.tmps)then o.wp P a w next R else next (a.put o.dst undef) w
section
variable {all:List Oper} {ps:List aW}
theorem OX{m:Mem}{x e:cg}(h:e∈Mem.set m x):e∈m\/e=x:=by
 induction m with
 |nil=>exact .inl h
 |cons y r ih=>
  simp only[Mem.set]at h;split at h
  ·rcases aan.1 h with h|h
   ·exact .inr h
   ·exact .inl (acJ _ h)
  ·rcases aan.1 h with h|h
   ·exact .inl (by simp[h])
   ·rcases ih h with h|h
    ·exact .inl (acJ _ h)
    ·exact .inr h
theorem yM:∀{es:List cg}{m:Mem}{e:cg},e∈bq m es->e∈m\/e∈es
 |[],m,e,h=>.inl h
 |x::r,m,e,h=>by
  have E:e∈bq (Mem.set m x) r:=h;rcases yM E with h|h
  ·rcases OX h with h|h
   ·exact .inl h
   ·exact .inr (by simp[h])
  ·exact .inr (acJ _ h)
theorem CT(B:Nat)(Ah:∀p∈ps,∀e∈p.es,e.ak<B):∀(l:List Nat)(S:St),(∀e∈S.mem,e.ak<B)->∀e∈(aC all ps S l).mem,e.ak<B
 |[],S,h=>h
 |i::l,S,h=>by
  have AE:aC all ps S (i::l)=aC all ps (aC all ps S [i]) l:=by simp[aC]
  rw[AE];refine CT B Ah l _ ?_;simp only[aC,afH,afR];split
  ·rename_i o p H J;simp only[aW.app,eI];intro e he;rcases yM he with he|he
   ·exact h e he
   ·exact Ah p (aao J) e he
  ·exact h
variable {S:St} {f:Nat->Bool}
theorem J7(AI:ps.length=all.length)(A1:l7 all ps=true)(Y:nZ all f){j:Nat}{o:Oper}(H:all[j]?=some o)(AS:f j=false)(A8:∀i∈dY o,f i=true)
 (AT:∀i p,ps[i]?=some p->i≠j->i∉(fY all []).getD j []->j∉(fY all []).getD i []->∀e∈p.es,100<=e.key) {k:Nat} (U:k<100):
 Mem.get (aC all ps S (gE all.length f)).mem k=Mem.get (aC all ps S (List.range j)).mem k:=by
 have B':j<all.length:=(aaf.1 H).1;have AJ:∀j o,all[j]?=some o->∀p∈dY o,p<j:=λj o H=>(dQ A1 H).choose_spec.2.1;have Ai:∀i∈(fY all []).getD j [],i<j/\f i=true:=λi hi=>by
  obtain⟨E,M⟩:=ji (L:=λi=>f i=true) AJ (λj o H Z=>Y j o H Z) j ⟨o,H⟩ i hi;exact⟨E,M λAj O=>by rw[H]at O;cases O;exact A8⟩
 have AU:∀i,f i=true->i<all.length->j∉(fY all []).getD i []:=by
  intro i B0 AF A9;obtain⟨A4,AK⟩:∃A4,all[i]?=some A4:=⟨all[i],by simp[AF]⟩;have:=(ji (L:=λi=>f i=true) AJ (λj o H Z=>Y j o H Z) i ⟨A4,AK⟩ j A9).2 (λAj O=>by rw[AK]at O;cases O;exact Y i A4 AK B0);simp[AS]at this
 let q:Nat->Bool:=λi=>(fY all []).getD j [] |>.contains i
 have AV:∀i,q i=true↔i∈(fY all []).getD j []:=λi=>by simp[q]
 have B1:(gE all.length f).filter q=(List.range j).filter q:=by
  rw[yB B' AS,ags,agr,agr];have M:(List.range' (j+1) (all.length-j-1)).filter (λa=>q a&&f a)=[]:=by
   rw[afN];intro i hi;have:=(akF.1 hi).1;simp only[Ds,not_and];intro A5;have:=(Ai i ((AV i).1 A5)).1;omega
  rw[M,afl];refine akn λi hi=>?_;cases A5:q i with
  |false=>simp
  |true=>simp[(Ai i ((AV i).1 A5)).2]
 have B2:∀i p,ps[i]?=some p->i≠j->q i=false->j∉(fY all []).getD i []->k∉p.es.map (·.key):=by
  intro i p J AA A5 A9 A2;obtain⟨e,he,rfl⟩:=acb.1 A2;have:=AT i p J AA (λh=>by rw[(AV i).2 h]at A5;cases A5) A9 e he;omega
 have side:∀(i:Nat)(p:aW),i≠j->j∉(fY all []).getD i []->ps[i]?=some p->k∈p.es.map (·.key)->q i=true:=by
  intro i p AA A9 J A2;cases A5:q i with
  |true=>rfl
  |false=>exact absurd A2 (B2 i p J AA A5 A9)
 rw[l8 k q (gE all.length f) S S (λi hi p J A2=>by
  have AW:=acH.1 hi;have AF:=ab2.1 AW.1;refine side i p (λh=>by subst h;simp[AS]at AW) (AU i AW.2 AF) J A2) rfl rfl,
  l8 k q (List.range j) S S (λi hi p J A2=>by
   have AF:=ab2.1 hi;refine side i p (by omega) (λh=>?_) J A2;obtain⟨A4,AK⟩:∃A4,all[i]?=some A4:=⟨all[i]'(by omega),by simp[show i<all.length by omega]⟩
   have:=(ji (L:=λ_=>True) AJ (λ_ _ _ _ _ _=>trivial) i ⟨A4,AK⟩ j h).1;omega) rfl rfl,B1]
theorem Sc{P:Program}{S0 S1:St}{φ0:bG}{G:Fr}{w0:World}{Q:Exit->Act->World->Prop}{j:Nat}{Ak:Oper}{AB:aW}{t:TypeId}{x:D}
 (AI:ps.length=all.length) (A1:l7 all ps=true) (Al:(S0.mem.map (·.key)).Nodup) (B3:∀(i:Nat)(p:aW),ps[i]?=some p->∀e∈p.es,e.key∈p.ks)
 (B4:∀i o p,all[i]?=some o->ps[i]?=some p->i≠j->j∉(fY all []).getD i []->jM P all (aC all ps S0 (List.range i)) o p)
 (AO:all[j]?=some Ak) (An:ps[j]?=some AB) (B5:Ab P all (aC all ps S0 (List.range j)) Ak AB t x)
 (AT:∀i p,ps[i]?=some p->i≠j->i∉(fY all []).getD j []->j∉(fY all []).getD i []->∀e∈p.es,100<=e.key)
 (B6:S1.n=S0.n) (B7:S1.gl=S0.gl) (B8:S1.env=[]) (B9:S1.mem=jk (fm S0.mem+fi ps+1) (bq (aC all ps S0 (List.range j)).mem AB.es))
 (BA:∀φ' A0 w' v,Rel φ' G S1 A0 w'->aP φ0 S0.mem w0 φ' S1.mem w'->aJ w' (Fo G φ' S1.mem) x v->Q (.panic [{v:=.iface t v,recovered:=false}]) A0 w'):
 ∀(fuel:Nat)(A:Array Bool) φ a w,A.size=all.length->nZ all (λi=>A.getD i false)->A.getD j false=false->Rel φ G (aC all ps S0 (gE all.length λi=>A.getD i false)) a w->aP φ0 S0.mem w0 φ (aC all ps S0 (gE all.length λi=>A.getD i false)).mem w->
  ((List.range all.length).filter λi=>!A.getD i false).length<=fuel->wpAny P .any all.toArray Q fuel A a w:=by
 have Ao:j<all.length:=(aaf.1 AO).1;have AJ:∀j o,all[j]?=some o->∀p∈dY o,p<j:=λj o H=>(dQ A1 H).choose_spec.2.1;have first:∀(f:Nat->Bool)(n:Nat),n<=all.length->(∀i,i<n->f i=true)\/∃i,i<n/\f i=false/\∀Ap,Ap<i->f Ap=true:=by
  intro f n;induction n with
  |zero=>exact λ_=>.inl (λi hi=>by omega)
  |succ n ih=>
   intro BP;rcases ih (by omega)with h|⟨i,E,M,A3⟩
   ·cases Z:f n with
    |true=>
     refine .inl λi hi=>?_;rcases Nat.lt_succ_iff_lt_or_eq.1 hi with AX|AX
     ·exact h i AX
     ·rw[AX];exact Z
    |false=>exact .inr ⟨n,by omega,Z,h⟩
   ·exact .inr ⟨i,by omega,M,A3⟩
 have done:∀(A:Array Bool),A.size=all.length->A.getD j false=false->Region.ready .any all.toArray A=[]->False:=by
  intro A AP AC BB;rcases first (λi=>A.getD i false) all.length (aai _)with h|⟨i,E,M,A3⟩
  ·have:=h j Ao;simp only[AC]at this;cases this
  ·have:i∈Region.ready .any all.toArray A:=by
    rw[mem_ready];refine⟨?_,all[i],by simp[E],λe he T=>?_⟩
    ·have:i<A.size:=by omega
     simp only[aay,ady this,acV]at M⊢;exact M
    ·obtain⟨p,_,J,_⟩:=dQ A1 (show all[i]?=some all[i] by simp[E]);exact A3 e.on (J e.on (by
      simp only[dY,acb,acH];exact⟨e,⟨by simpa using he,T⟩,rfl⟩))
   rw[BB]at this;cases this
 intro fuel;induction fuel with
 |zero=>
  intro A φ a w AP Y AC AY U Z;exfalso;have:j∈(List.range all.length).filter λi=>!A.getD i false:=acH.2 ⟨ab2.2 Ao,by simp[AC]⟩;have:=List.length_pos_of_mem this;omega
 |succ fuel ih=>
  intro A φ a w AP Y AC AY U Z;refine⟨λh=>(done A AP AC h).elim,λi hi=>?_⟩;rw[mem_ready]at hi;obtain⟨V,o,H,BC⟩:=hi;have O:all[i]?=some o:=by simpa using H
  have AF:i<all.length:=(aaf.1 O).1;have Aq:i<A.size:=by omega
  have AL:A.getD i false=false:=by
   simp only[aay,ady Aq,acV]at V⊢;exact V
  have A8:∀k∈dY o,A.getD k false=true:=by
   intro k A6;simp only[dY,acb,acH]at A6;obtain⟨e,⟨he,T⟩,rfl⟩:=A6;exact BC e (by simpa using he) T
  by_cases AA:i=j
  ·subst AA;rw[AO]at O;cases O;have AZ:=pP (S:=S0) AI A1 Y AO An AL A8;have AD:=B5 _ AZ φ G a w AY (wpAny P .any all.toArray Q fuel (A.setIfInBounds i true)) Q (λφ' A0 w' v A_ A6 AQ=>by
    have Ar:∀p∈ps,∀e∈p.es,e.ak<fm S0.mem+fi ps+1:=by
     intro p J e he;have E:=yK he;have M:=CS J;omega
    have BD:∀e∈S0.mem,e.ak<fm S0.mem+fi ps+1:=by
     intro e he;have E:=yK he;omega
    have BE:∀e∈bq (aC all ps S0 (gE all.length λi=>A.getD i false)).mem AB.es,e.ak<fm S0.mem+fi ps+1:=by
     intro e he;rcases yM he with he|he
     ·exact CT _ Ar _ _ BD e he
     ·exact Ar AB (aao An) e he
    obtain⟨As,Aa⟩:=aaR A_ BE;have Ac:jk (fm S0.mem+fi ps+1) (bq (aC all ps S0 (gE all.length λi=>A.getD i false)).mem AB.es)=S1.mem:=by
     rw[B9];refine Mem.ext ?_ ?_ λk=>?_
     ·rw[n8,jE,dZ];exact Al
     ·simp only[n8,jE,dZ]
     ·rw[yL,yL];by_cases BF:k<100
      ·congr 1;exact m9 _ _ _ k (by simp only[dZ]) (.inr (J7 AI A1 Y AO AL A8 AT BF))
      ·have At:∀(m:Mem),(Mem.get m k).map (λe:cg=>match decide (100<=e.key)with|true=>(⟨e.key,fm S0.mem+fi ps+1,.dead⟩:cg)|false=>e)=if k∈m.map (·.key)then some ⟨k,fm S0.mem+fi ps+1,.dead⟩else none:=by
        intro m;cases Au:Mem.get m k with
        |none=>
         rw[aah]
         ·rfl
         ·intro A2;obtain⟨e,he,BG⟩:=acb.1 A2;have:∀(m:Mem),e∈m->Mem.get m k≠none:=by
           intro m;induction m with
           |nil=>intro h;cases h
           |cons y r BH=>
            intro h;simp only[Mem.get];split
            ·simp
            ·rename_i BI;rcases aan.1 h with rfl|h
             ·exact absurd BG BI
             ·exact BH h
          exact this m he Au
        |some e=>
         obtain⟨E,M⟩:=Mem.get_mem Au;have:decide (100<=e.key)=true:=by simp;omega
         simp only[afJ,this];rw[aap (M▸abY E),M]
       rw[At,At];simp only[jE,dZ]
    have BJ:({(aC all ps S0 (gE all.length λi=>A.getD i false))with mem:=bq (aC all ps S0 (gE all.length λi=>A.getD i false)).mem AB.es}:St).kill (fm S0.mem+fi ps+1)=S1:=by
     have BK:(aC all ps S0 (gE all.length λi=>A.getD i false)).n=S1.n:=by rw[nr,B6]
     have a2:(aC all ps S0 (gE all.length λi=>A.getD i false)).gl=S1.gl:=by rw[lK,B7]
     unfold St.kill;simp only[Ac,BK,a2];rw[<-B8]
    rw[BJ]at As Aa;refine BA _ A0 w' v As (U.trans (A6.trans Aa)) (AQ.mono (λ_ _ _=>rfl) (aai _) (λb T=>Or.imp id (Aa.own b T))))
   unfold wpOp;rw[H];simp only
   split at AD
   ·rename_i hw;rw[aap hw];exact .inl AD
   ·rename_i hw;rw[aah hw];exact AD
  ·obtain⟨p,J,_⟩:=dQ A1 O;have AU:j∉(fY all []).getD i []:=by
    intro A9;have:=(ji (L:=λi=>A.getD i false=true) AJ (λj o H Z=>Y j o H Z) i ⟨o,O⟩ j A9).2 (λAj Av=>by rw[O]at Av;cases Av;exact A8);rw[AC]at this;cases this
   have BL:=B4 i o p O J AA AU;have AZ:=pP (S:=S0) AI A1 Y O J AL A8;have Ad:(A.setIfInBounds i true).getD i false=true:=by simp[Aq]
   have AM:∀k,k≠i->(A.setIfInBounds i true).getD k false=A.getD k false:=λk A6=>getD_set_ne false (afL A6);have heq:=wh (S:=S0) (f:=λi=>A.getD i false) (g:=λk=>(A.setIfInBounds i true).getD k false) AI A1 Y B3 Al O J AL Ad AM;have BM:nZ all (λk=>(A.setIfInBounds i true).getD k false):=by
    intro k ok Ae BN x AN;by_cases Aw:x=i
    ·subst Aw;exact Ad
    ·show (A.setIfInBounds i true).getD x false=true;rw[AM x Aw];by_cases AG:k=i
     ·subst AG;rw[O]at Ae;cases Ae;exact A8 x AN
     ·exact Y k ok Ae ((AM k AG).symm.trans BN) x AN
   have BO:((List.range all.length).filter λk=>!(A.setIfInBounds i true).getD k false).length<=fuel:=by
    have E:(List.range all.length).filter (λk=>!(A.setIfInBounds i true).getD k false)=((List.range all.length).filter λk=>!A.getD k false).filter (λk=>k != i):=by
     rw[agr];refine akn λk _=>?_;by_cases AG:k=i
     ·subst AG;rw[Ad];simp
     ·rw[AM k AG];simp[AG]
    have Ac:i∈(List.range all.length).filter λk=>!A.getD k false:=acH.2 ⟨ab2.2 AF,by simp[AL]⟩;rw[E];have:(((List.range all.length).filter λk=>!A.getD k false).filter (λk=>k != i)).length<((List.range all.length).filter λk=>!A.getD k false).length:=by
     rw[akB];exact⟨i,Ac,by simp⟩
    omega
   have AD:=BL _ AZ φ G a w AY (wpAny P .any all.toArray Q fuel (A.setIfInBounds i true)) Q (λφ' A0 w' A_ A6=>
    ih _ φ' A0 w' (by simpa using AP) BM (by rw[AM j (λh=>AA h.symm)];exact AC) (A_.eqv heq) (by rw[<-heq.mem];exact U.trans A6) BO)
   unfold wpOp;rw[H];simp only
   split at AD
   ·rename_i hw;rw[aap hw];exact .inl AD
   ·rename_i hw;rw[aah hw];exact AD
end
inductive Gh where
 |trim (k:Nat)
 |freeze (k:Nat)
 |jl (U j k sz:Nat)
 |wm (k H:Nat)
 |sB (k H:Nat)
 |cls (k H:Nat)
 |shut (k:Nat)
 |sC (U j k:Nat)
abbrev bj:=FuncId->List AV->List ay->Option (Out×List (Nat×ay))
structure Ctx where
 P:Program
 gl:List (Nat×D)
 pa:FuncId->Nat->List Nat
 gh:FuncId->Nat->List Gh
 md:FuncId->Nat->Bool
 fp:FuncId->aw
 od:FuncId->Nat->List (List Nat)
 vj:FuncId->Option (List AV->Option AV)
 fl:FuncId->Nat->List (Nat×Nat)
 ov:Option bj
def ga(P:Program)(g:FuncId):Bool:=
 match P.funcs[g]? with
 |some fn=>fn.body.isSome&&!(fn.name == "runtime.NumGoroutine")
 |none=>false
mutual
def ma:AV->List Nat
 | .vec _ _ _ _=>[]
 | .ptr k _ _=>[k]
 | .cn k _ _ _=>[k]
 | .agg cs=>sD cs
 | .fn _ cap=>j2 cap
 | .bM vs=>sD vs
 |_=>[]
def sD:List AV->List Nat
 |[]=>[]
 |x::r=>ma x++sD r
end
mutual
def rV:AV->List Nat
 | .vec k _ _ _=>[k]
 | .agg cs=>sE cs
 | .bM vs=>sE vs
 |_=>[]
def sE:List AV->List Nat
 |[]=>[]
 |x::r=>rV x++sE r
end
def j5(mt:List Nat):Nat->List AV->List Nat
 |_,[]=>[]
 |i,x::r=>(match mt.contains i with|true=>ig x|false=>ma x)++j5 mt (i+1) r
def sF(mt:List Nat):Nat->List AV->List Nat
 |_,[]=>[]
 |i,x::r=>(match mt.contains i with|true=>[]|false=>rV x)++sF mt (i+1) r
structure eF where
 out:Out
 es:List cg
 ks:List Nat
def upO(ρ AE:List Nat):Out->Out
 | .ret x=>.ret (up ρ AE x)
 | .panic t x=>.panic t x
def yN:Out->Bool
 | .ret x=>dj x
 | .panic _ x=>gK x
def mV:List (Nat×ay)->Bool
 |[]=>true
 |(_,c)::r=>kO c&&mV r
def wo(m:Mem)(ρ:List Nat):List Nat->Bool
 |[]=>true
 |k::r=>(Mem.get m k).isSome&&!ρ.contains k&&wo m ρ r
def eP(m:Mem)(O:Nat)(ρ B:List Nat):Option (Out×List (Nat×ay))->Option eF
 |some (out,T)=>
  if (decide (ρ.length<=T.length)&&wo m ρ (List.range' (O+1) (T.length-ρ.length))&&(B.isEmpty||(yN out&&mV T)))=true then
   some ⟨upO (ρ++List.range' (O+1) (T.length-ρ.length)) (base m 0 ρ++base m 1 (List.range' (O+1) (T.length-ρ.length))) out,
    gX (ρ++List.range' (O+1) (T.length-ρ.length)) (base m 0 ρ++base m 1 (List.range' (O+1) (T.length-ρ.length))) 0 T,ρ++B++List.range' (O+1) (T.length-ρ.length)⟩
  else none
 |none=>none
def Ee(N:Nat)(T:List (Nat×ay)):Out->Out
 | .ret x=>.ret (vw (cZ 0 T) (List.range N) (λ_=>true) (λ_ v=>v) x).norm
 | .panic t x=>.panic t x
def pr(N:Nat)(b:Bool):Option (Out×List (Nat×ay))->Option (Out×List (Nat×ay))
 |some (out,T)=>if (b&&decide (N<T.length))=true then some (Ee N T out,dO (cZ 0 T) (List.range N) (λ_=>true) (λ_ v=>v) 0 (List.range N))else some (out,T)
 |none=>none
def gw(rw:Bool)(m:Mem)(ρ B:List Nat):List AV->List AV
 |[]=>[]
 |y::r=>AU rw (vw m ρ (λk=>B.contains k) gu y)::gw rw m ρ B r
def nb:List (Nat×ay)->List ay
 |[]=>[]
 |(_,c)::r=>c::nb r
def kV(A:bj)(m:Mem)(O:Nat)(g:FuncId)(V:List AV)(rw:Bool)(ρ B:List Nat):Option eF:=
 eP m O ρ B (pr ρ.length (Mem.get m (O+1)).isNone (A g (gw rw m ρ B V) (nb (dO m ρ (λk=>B.contains k) gu 0 ρ))))
def kW(A:bj)(m:Mem)(O:Nat)(g:FuncId)(V:List AV)(mt ρ:List Nat):Option eF:=
 kV A m O g V (mt.contains 1000) ρ ((sF mt 0 V).filter λk=>!ρ.contains k)
def dt(A:bj)(m:Mem)(O:Nat)(g:FuncId)(V:List AV)(mt:List Nat):Option eF:=
 kW A m O g V mt (collect m 64 (j5 mt 0 V) [])
def sG(S:St)(d:Option Nat):Option eF->Option (XE×St)
 |some ⟨.ret x,es,_⟩=>some (.normal,({S with mem:=bq S.mem es}:St).put d true x)
 |some ⟨.panic t x,es,_⟩=>some (.panic t x,{S with mem:=bq S.mem es})
 |none=>none
def cM(S:St):List Operand->List AV
 |[]=>[]
 |x::r=>(S.aq x).2::cM S r
def Ac(n g:Nat):FuncId:=
 match decide (n<=g)with
 |true=>g-n
 |false=>g
def mC(g:FuncId):FuncId:=Ac qV g
def rW(n g:Nat)(V Z:List AV):List AV:=
 match decide (n<=g)with
 |true=>Z++V
 |false=>V++Z
def gL(g:FuncId)(V Z:List AV):List AV:=rW qV g V Z
mutual
def yO:D->D->Bool
 | .int k n,.int A' A0=>decide (k=A')&&decide (n=A0)
 | .bool b,.bool A1=>decide (b=A1)
 | .str s,.str AF=>decide (s=AF)
 | .list a,.list b=>wq a b
 | .agg a,.agg b=>wq a b
 | .xC,.xC=>true
 |_,_=>false
def wq:List D->List D->Bool
 |[],[]=>true
 |a::r,b::s=>yO a b&&wq r s
 |_,_=>false
end
def Ef:AV->AV->Bool
 | .d x,.d y=>yO x y
 | .ptr k v o,.ptr A' A6 A7=>decide (k=A')&&(decide (v=A6)&&decide (o=A7))
 | .vec k v o n,.vec A' A6 A7 A0=>decide (k=A')&&(decide (v=A6)&&(decide (o=A7)&&decide (n=A0)))
 |_,_=>false
def Ad:List AV->List AV->Bool
 |[],[]=>true
 |a::r,b::s=>Ef a b&&Ad r s
 |_,_=>false
def yP:ay->ay->Bool
 | .box a,.box b=>Ad a b
 | .vec n a,.vec A0 b=>decide (n=A0)&&wq a b
 |_,_=>false
def Gu(e:cg):Option cg->Bool
 |some x=>decide (x.ak=e.ak)&&yP x.cont e.cont
 |none=>false
def pt(m:Mem):List cg->Bool
 |[]=>true
 |e::r=>Gu e (Mem.get m e.key)&&pt m r
def OZ:Bool->eF->eF
 |true,c=>⟨c.out,[],c.ks⟩
 |false,c=>c
def wu:Bool->Mem->Option eF->Option eF
 |true,m,some c=>some (OZ (pt m c.es) c)
 |true,_,none=>none
 |false,_,r=>r
def cj(X:Ctx)(A:bj)(S:St)(o:Oper)(args:List Operand):Bool×AV->Option eF
 |(true,.fn g Z)=>if gW S args=true then wu ((X.fp (mC g)).uw.contains 2000) S.mem (dt A S.mem (keyOf o) (mC g) (gL g (cM S args) Z) (X.fp (mC g)).uw)else none
 |_=>none
def BA(S:St):Bool×AV->Option (XE×St)
 |(true,.fR t d)=>some (.panic t d,S)
 |_=>none
def qu(X:Ctx)(A:bj)(S:St)(o:Oper):Option (XE×St):=
 match o.op with
 | .call {callee:=.value A2,args,..}=>sG S o.dst (cj X A S o args.toList (S.aq A2))
 | .panic x=>BA S (S.aq x)
 |_=>none
def gx(X:Ctx)(A:bj)(S:St)(o:Oper):cP->Option (XE×St)
 | .val c x=>if (fM S o&&c)=true then some (.normal,S.put o.dst true x)else none
 | .cG c x e=>if (fM S o&&c)=true then some (.normal,({S with mem:=Mem.set S.mem e}:St).put o.dst true x)else none
 | .no=>qu X A S o
def nJ(X:Ctx)(A:bj)(S:St)(o:Oper)(b:Bool):cP->Option (XE×St)
 | .val c x=>if b=true->(fM S o&&c)=true then some (.normal,S.put o.dst b x)else none
 |r=>if b=true then gx X A S o r else some (.normal,S.put o.dst true .aY)
def St.cz(S:St)(d:Option Nat)(b:Bool):St:=S.put d true (.d (.bool b))
def kF(all:List Oper)(j:Nat):Option Nat:=
 match all[j]? with
 |some o=>o.dst
 |none=>none
inductive GV where
 |ri (t:Bool)
 |skip
 |bad
def gvD:D->GV
 | .bool t=>.ri t
 |_=>.bad
def gvT:List AV->GV
 |[]=>.skip
 |_::_=>.bad
def Sd:AV->GV
 | .d x=>gvD x
 | .bM vs=>gvT vs
 |_=>.bad
def oc:Option (Bool×AV)->GV
 |some (true,x)=>Sd x
 |_=>.bad
theorem HI{x:Option (Bool×AV)}{t:Bool}(h:oc x=.ri t):x=some (true,.d (.bool t)):=by
 rcases x with _|⟨g,y⟩
 ·cases h
 ·cases g
  ·cases h
  ·cases y with
   |d y=>cases y<;>simp_all [oc,Sd,gvD]
   |bM vs=>cases vs<;>simp_all [oc,Sd,gvT]
   |_=>cases h
theorem Fl{x:Option (Bool×AV)}(h:oc x=.skip):x=some (true,.bM []):=by
 rcases x with _|⟨g,y⟩
 ·cases h
 ·cases g
  ·cases h
  ·cases y with
   |d y=>cases y<;>simp_all [oc,Sd,gvD]
   |bM vs=>cases vs<;>simp_all [oc,Sd,gvT]
   |_=>cases h
def mb(X:Ctx)(A:bj)(md:Bool)(all:List Oper)(S:St)(o:Oper):Option (XE×St):=
 match o.guard with
 |none=>gx X A S o (cJ X.P S o)
 |some (j,Y)=>match oc (nU all S j)with
  | .ri t=>match md with
   |false=>nJ X A S o (t == Y) (cJ X.P S o)
   |true=>if (t == Y)=true then gx X A (S.cz (kF all j) Y) o (cJ X.P (S.cz (kF all j) Y) o)else some (.normal,(S.cz (kF all j) (!Y)).put o.dst true (.bM []))
  | .skip=>some (.normal,S.put o.dst true (.bM []))
  | .bad=>none
def andThen(r:Option (XE×St))(k:St->Option (XE×St)):Option (XE×St):=
 match r with
 |some (.normal,S)=>k S
 |r=>r
def eQ(X:Ctx)(A:bj)(md:Bool)(all:List Oper):List Oper->St->Option (XE×St)
 |[],S=>some (.normal,S)
 |o::r,S=>andThen (mb X A md all S o) (eQ X A md all r)
def wA(S:St)(o:Oper):Option eF->Option (St×aW)
 |some ⟨.ret x,es,ks⟩=>some ((⟨ks,es,true,x⟩:aW).app o S,⟨ks,es,true,x⟩)
 |_=>none
def nf(X:Ctx)(A:bj)(S:St)(o:Oper):Option (St×aW):=
 match o.op with
 | .call {callee:=.value A2,args,..}=>wA S o (cj X A S o args.toList (S.aq A2))
 |_=>none
def eK(X:Ctx)(A:bj)(S:St)(o:Oper):cP->Option (St×aW)
 | .val c x=>if (fM S o&&c)=true then some (S.put o.dst true x,⟨iq S o,[],true,x⟩)else none
 | .cG c x e=>if (fM S o&&c&&(iq S o).contains e.key)=true then some (({S with mem:=Mem.set S.mem e}:St).put o.dst true x,⟨iq S o,[e],true,x⟩)else none
 | .no=>nf X A S o
def qv(X:Ctx)(A:bj)(S:St)(o:Oper)(b:Bool):cP->Option (St×aW)
 | .val c x=>if b=true->(fM S o&&c)=true then some (S.put o.dst b x,⟨iq S o,[],b,x⟩)else none
 |r=>if b=true then eK X A S o r else some (S.put o.dst true .aY,⟨[],[],true,.aY⟩)
def eg(X:Ctx)(A:bj)(md:Bool)(all:List Oper)(S:St)(o:Oper):Option (St×aW):=
 match o.guard with
 |none=>eK X A S o (cJ X.P S o)
 |some (j,Y)=>match oc (nU all S j)with
  | .ri t=>match md with
   |false=>qv X A S o (t == Y) (cJ X.P S o)
   |true=>if (t == Y)=true then eK X A (S.cz (kF all j) Y) o (cJ X.P (S.cz (kF all j) Y) o)else some ((S.cz (kF all j) (!Y)).put o.dst true (.bM []),⟨[],[],true,.bM []⟩)
  | .skip=>some (S.put o.dst true (.bM []),⟨[],[],true,.bM []⟩)
  | .bad=>none
def wB(I:List aW)(r:Option (St×aW))(k:St->List aW->Option (XE×St)):Option (XE×St):=
 match r with
 |some (S,p)=>k S (p::I)
 |none=>none
structure HJ where
 S:St
 t:TypeId
 x:D
 es:List cg
 ks:List Nat
def uz(S:St):Option eF->Option HJ
 |some ⟨.panic t x,es,ks⟩=>some ⟨{S with mem:=bq S.mem es},t,x,es,ks⟩
 |_=>none
def HK(X:Ctx)(A:bj)(S:St)(o:Oper):Option HJ:=
 match o.op with
 | .call {callee:=.value A2,args,..}=>uz S (cj X A S o args.toList (S.aq A2))
 |_=>none
def BB(X:Ctx)(A:bj)(S:St)(o:Oper):cP->Option HJ
 | .no=>HK X A S o
 |_=>none
def j6(X:Ctx)(A:bj)(S:St)(o:Oper):Option HJ:=
 match o.guard with
 |none=>BB X A S o (cJ X.P S o)
 |some _=>none
def qM(X:Ctx)(md:Bool)(all:List Oper)(A4:List Nat):Nat->List Oper->St->List aW->Option (List aW)
 |_,[],_,I=>some I.reverse
 |i,o::r,S,I=>match A4.contains i with
  |true=>match eg X (λ_ _ _=>none) md all S o with
   |some (S1,p)=>qM X md all A4 (i+1) r S1 (p::I)
   |none=>none
  |false=>qM X md all A4 (i+1) r (S.put o.dst false .aY) (⟨[],[],false,.aY⟩::I)
def O0(J:Nat×List (List Nat))(A4:List Nat)(t:TypeId)(x:D)(S:St):Option (List aW)->Option (XE×St)
 |some ps=>if (n7 J.2 ps&&yJ ps A4)=true then some (.panic t x,S.kill (J.1+fi ps+1))else none
 |none=>none
def O1(X:Ctx)(md:Bool)(J:Nat×List (List Nat))(all r:List Oper)(d:Option Nat)(I:List aW)(q:HJ):Option (XE×St):=
 O0 J (J.2.getD I.length []) q.t q.x q.S (qM X md all (J.2.getD I.length []) (I.length+1) r (q.S.put d true .aY) (⟨q.ks,q.es,true,.aY⟩::I))
def mD(X:Ctx)(A:bj)(md:Bool)(J:Nat×List (List Nat))(all r:List Oper)(S:St)(o:Oper)(I:List aW)(k:St->List aW->Option (XE×St)):Option HJ->Option (XE×St)
 |some q=>O1 X md J all r o.dst I q
 |none=>wB I (eg X A md all S o) k
def gM(X:Ctx)(A:bj)(md:Bool)(J:Nat×List (List Nat))(all:List Oper):List Oper->St->List aW->Option (XE×St)
 |[],S,I=>if n7 J.2 I.reverse=true then some (.normal,S)else none
 |o::r,S,I=>mD X A md J all r S o I (gM X A md J all r) (j6 X A S o)
structure Cl where
 k:Nat
 v:Nat
 j:Nat
 x:AV
 vv:Bool
def XW:AV->AV->Bool
 | .vec a b c d,.vec A8 A1 A9 AG=>decide (a=A8)&&decide (b=A1)&&decide (c=A9)&&decide (d=AG)
 | .ptr a b c,.ptr A8 A1 A9=>decide (a=A8)&&decide (b=A1)&&decide (c=A9)
 | .d (.int k n),.d (.int A' A0)=>decide (k=A')&&decide (n=A0)
 | .d (.bool b),.d (.bool A1)=>decide (b=A1)
 |_,_=>false
def fC(m:Mem):List (Nat×Nat)->Option (List Cl)
 |[]=>some []
 |(k,j)::r=>match Mem.get m k,fC m r with
  |some ⟨_,v,.box cs⟩,some l=>match cs[j]? with
   |some x=>some (⟨k,v,j,x,false⟩::l)
   |none=>none
  |some ⟨_,v,.vv ag (some x)⟩,some l=>some (⟨k,v,ag.length,x,true⟩::l)
  |_,_=>none
def clB(q:Cl):Option AV->Bool
 |some x=>XW x q.x
 |none=>false
def clE(q:Cl)(v:Nat):ay->Bool
 | .box cs=>!q.vv&&decide (v=q.v)&&clB q cs[q.j]?
 | .vv ag (some x)=>q.vv&&decide (v=q.v)&&decide (ag.length=q.j)&&XW x q.x
 |_=>false
def O2(e:cg):List Cl->Bool
 |[]=>true
 |q::r=>(match decide (e.key=q.k)with|true=>clE q e.ak e.cont|false=>true)&&O2 e r
def CU(E:List Cl):List cg->Bool
 |[]=>true
 |e::r=>O2 e E&&CU E r
def Ae(b:Bool)(k v j:Nat):List Cl->Option AV
 |[]=>none
 |q::r=>match decide (b=q.vv)&&decide (k=q.k)&&decide (v=q.v)&&decide (j=q.j)with|true=>some q.x|false=>Ae b k v j r
def BC(b:Bool)(k v:Nat):List Cl->Bool
 |[]=>false
 |q::r=>match decide (b=q.vv)&&decide (k=q.k)&&decide (v=q.v)with|true=>true|false=>BC b k v r
def XX(P:Program)(E:List Cl)(t:TypeId):Bool×AV->Option AV
 |(true,.ptr k v off)=>match (tk P t).agg,decide (tk P t=.other)with
  |false,false=>Ae false k v off E
  |_,_=>none
 |(true,.cn k v i j)=>match (tk P t).agg,decide (tk P t=.other),decide (j=0)with
  |false,false,true=>Ae true k v i E
  |_,_,_=>none
 |_=>none
def XY(E:List Cl):Option Nat->Bool×AV->Option AV
 |some n,(true,.ptr k v off)=>match BC false k v E with|true=>some (.ptr k v (off+n))|false=>none
 |_,_=>none
def XZ(E:List Cl):Bool×AV->Option AV
 |(true,.ptr k v off)=>match BC false k v E with|true=>some (.ptr k v off)|false=>none
 |_=>none
def X0(P:Program)(E:List Cl):TK->Bool×AV->Bool×AV->Option AV
 | .slice e,(true,.vec k v off len),(true,.d (.int _ n))=>match decide (eM P e=some 1),BC true k v E,decide (0<=n),decide (n.toNat<len)with
  |true,true,true,true=>some (.cn k v (off+n.toNat) 0)
  |_,_,_,_=>none
 |_,_,_=>none
def Af(P:Program)(E:List Cl)(S:St):Op->Option AV
 | .load t x=>XX P E t (S.aq x)
 | .fieldAddr s x f=>XY E (vN P s f) (S.aq x)
 | .nilCheck x=>XZ E (S.aq x)
 | .indexAddr t x i=>X0 P E (tk P t) (S.aq x) (S.aq i)
 |_=>none
def Ag(P:Program)(E:List Cl)(S:St)(o:Oper):Option AV:=
 match o.guard with
 |none=>Af P E S o.op
 |some _=>none
def VM(E:List Cl):Option (St×aW)->Option (St×aW)
 |some (S,p)=>if CU E p.es=true then some (S,p)else none
 |none=>none
def wC(X:Ctx)(A:bj)(md:Bool)(E:List Cl)(all:List Oper)(S:St)(o:Oper):Option AV->Option (St×aW)
 |some x=>some (S.put o.dst true x,⟨[],[],true,x⟩)
 |none=>VM E (eg X A md all S o)
def vk:List Nat->List Oper->Bool
 |[],[]=>true
 |_,_=>false
def O3(X:Ctx)(A:bj)(md:Bool)(J:List (List Nat))(all:List Oper)(S:St)(o:Oper)(I:List aW):Option (XE×St):=
 if n7 J I.reverse=true then eQ X A md all [o] S else none
def pv(X:Ctx)(A:bj)(md:Bool)(J:List (List Nat))(E:List Cl)(all:List Oper):List Oper->St->List aW->Option (XE×St)
 |[],S,I=>if n7 J I.reverse=true then some (.normal,S)else none
 |o::r,S,I=>match vk (J.getD I.length []) r with
  |true=>O3 X A md J all S o I
  |false=>wB I (wC X A md E all S o (Ag X.P E S o)) (pv X A md J E all r)
def O4(X:Ctx)(A:bj)(md:Bool)(J:List (List Nat))(all:List Oper)(S:St):Option (List Cl)->Option (XE×St)
 |some E=>pv X A md J E all all S []
 |none=>none
def sH(X:Ctx)(A:bj)(md:Bool)(J:List (List Nat))(all:List Oper)(S:St):List (Nat×Nat)->Option (XE×St)
 |[]=>gM X A md (fm S.mem,J) all all S []
 |q::r=>O4 X A md J all S (fC S.mem (q::r))
def St.jl(S:St)(U j k sz:Nat):St:=
 match Mem.get S.mem U,Mem.get S.mem k with
 |some ⟨_,AA,.box cs⟩,some ⟨_,v,_⟩=>match cs[j]? with
  |some (.lit (.slice none 0 0))=>if U=k then S else {S with mem:=Mem.set (Mem.set S.mem ⟨k,v+1,.vec sz []⟩) ⟨U,AA,.box (cs.set j (.vec k (v+1) 0 0))⟩}
  |_=>S
 |_,_=>S
def Eg(k v H v2:Nat):AV->AV
 | .vec O v0 o l=>if O=k/\v0=v then .vec H v2 o l else .vec O v0 o l
 |x=>x
def sJ(AB:AV->AV):Mem->Mem
 |[]=>[]
 |e::r=>⟨e.key,e.ak,pe AB e.cont⟩::sJ AB r
def St.wm(S:St)(k H:Nat):St:=
 match Mem.get S.mem k,Mem.get S.mem H with
 |some ⟨_,v,.vec sz ag⟩,some ⟨_,v2,_⟩=>if k=H then S else {S with env:=mU (Eg k v H (v2+1)) S.env,mem:=Mem.set (Mem.set (sJ (Eg k v H (v2+1)) S.mem) ⟨k,v+1,.dead⟩) ⟨H,v2+1,.vec sz ag⟩}
 |_,_=>S
def St.sB(S:St)(k H:Nat):St:=
 match Mem.get S.mem k,Mem.get S.mem H with
 |some ⟨_,v,.vv ag none⟩,some ⟨_,v2,_⟩=>match ag.getLast? with
  |some xs=>if k=H then S else {S with mem:=Mem.set (Mem.set S.mem ⟨k,v,.vv ag.dropLast (some (.vec H (v2+1) 0 xs.length))⟩) ⟨H,v2+1,.vec 1 xs⟩}
  |none=>S
 |_,_=>S
def St.cls(S:St)(k H:Nat):St:=
 match Mem.get S.mem k,Mem.get S.mem H with
 |some ⟨_,v,.vv ag (some (.vec AH v3 0 len))⟩,some ⟨_,v2,.vec 1 xs⟩=>if k=H then S else if AH=H/\v3=v2/\len=xs.length then {S with mem:=Mem.set (Mem.set S.mem ⟨k,v,.vv (ag++[xs]) none⟩) ⟨H,v2+1,.dead⟩} else S
 |_,_=>S
def St.shut(S:St)(k:Nat):St:=
 match Mem.get S.mem k with
 |some ⟨_,v,.vv ag (some _)⟩=>{S with mem:=Mem.set S.mem ⟨k,v,.vv ag none⟩}
 |_=>S
def St.sC(S:St)(U j k:Nat):St:=
 match Mem.get S.mem U,Mem.get S.mem k with
 |some ⟨_,AA,.box cs⟩,some ⟨_,v,_⟩=>match cs[j]? with
  |some (.lit (.slice none 0 0))=>if U=k then S else {S with mem:=Mem.set (Mem.set S.mem ⟨U,AA,.box (cs.set j (.vec k (v+1) 0 0))⟩) ⟨k,v+1,.vv [] none⟩}
  |_=>S
 |_,_=>S
def Gh.go(S:St):Gh->St
 | .sB k H=>S.sB k H
 | .cls k H=>S.cls k H
 | .shut k=>S.shut k
 | .sC U j k=>S.sC U j k
 | .trim k=>S.wb k
 | .freeze k=>S.freeze k
 | .jl U j k sz=>S.jl U j k sz
 | .wm k H=>S.wm k H
def CV(S:St):List Gh->St
 |[]=>S
 |g::r=>CV (g.go S) r
def uA(k:St->St):Option (XE×St)->Option (XE×St)
 |some (.normal,S)=>some (.normal,k S)
 |r=>r
def CW(id:Nat):Option (XE×St)->Option (XE×St)
 |some (.exit AC,S)=>if AC=id then some (.normal,S)else some (.exit AC,S)
 |r=>r
def iter(f:St->Option (XE×St)):Nat->St->Option (XE×St)
 |0,_=>none
 |n+1,S=>andThen (f S) (iter f n)
def CX(a b:Option (XE×St)):Bool×AV->Option (XE×St)
 |(true,.d (.bool t))=>if t=true then a else b
 |_=>none
def St.leave(X:Ctx)(f:FuncId)(id:Nat)(S:St):St:=CV (S.prune (X.pa f id)) (X.gh f id)
def St.enter(X:Ctx)(f:FuncId)(id:Nat)(S:St):St:=CV S (X.gh f (id+2000000))
def den(X:Ctx)(f:FuncId)(A:bj)(n:Nat):Code->St->Option (XE×St)
 | .skip,S=>some (.normal,S)
 | .region id ops draw,S=>match draw with
  |false=>uA (St.leave X f id) (eQ X A (X.md f id) ops.toList ops.toList S)
  |true=>uA (St.leave X f id) (sH X A (X.md f id) (X.od f id) ops.toList S (X.fl f id))
 | .seq a b,S=>andThen (den X f A n a S) (den X f A n b)
 | .cond c a b,S=>CX (den X f A n a S) (den X f A n b S) (S.aq c)
 | .block id c,S=>CW id (den X f A n c (S.enter X f id))
 | .loop c,S=>iter (den X f A n c) n S
 | .exit id,S=>some (.exit id,CV S (X.gh f (id+1000000)))
 | .ret,S=>some (.ret,S)
 |_,_=>none
def fin(P:Program)(p:aw)(N:Nat)(rs:List ResultVar):Option (XE×St)->Option (Out×List (Nat×ay))
 |some (.normal,S)=>finish P p N rs S
 |some (.ret,S)=>finish P p N rs S
 |some (.panic t x,S)=>wg p N t x S
 |_=>none
def pQ(X:Ctx)(f:FuncId)(A:bj)(n:Nat)(fn:Func)(c:Code)(args:List AV)(cs:List ay):Option (Out×List (Nat×ay)):=
 if (decide (args.length<=fn.ntmps)&&decide (cs.length<=100)&&(X.fp f).sites.all (λk=>decide (100<=k))&&decide (X.fp f).sites.Nodup)=true then
  fin X.P (X.fp f) cs.length fn.results.toList (den X f A n c (entry fn.ntmps X.gl args cs (X.fp f).sites))
 else none
def nt:Option (Out×List (Nat×ay))->Option Nat
 |some (.ret (.vec 0 0 0 0),[(0,.vec sz [])])=>some sz
 |_=>none
def jF(AD AI:Option (Out×List (Nat×ay))):Option (Out×List (Nat×ay)):=
 match nt AD,nt AI with
 |some a,some b=>if a=b then AD else none
 |_,_=>none
def gd(run:List AV->Option (Out×List (Nat×ay)))(args:List AV):Bool->Option (Out×List (Nat×ay))
 |true=>match args with
  | .d (.list [])::r=>jF (run (.lit (.slice none 0 0)::r)) (run (.nn::r))
  |args=>run args
 |false=>run args
def lN(h:List AV->Option AV)(args:List AV):List ay->Option (Out×List (Nat×ay))
 |[]=>match h args with
  |some d=>some (.ret d,[])
  |none=>none
 |_::_=>none
def ng(h:List D->Option D)(args:List AV):Option AV:=match toDs args with
 |some M=>(h M).map .d
 |none=>none
abbrev DF:=FuncId×List AV
def CY(S:St)(args:List Operand):Bool×AV->Option DF
 |(true,.fn g Z)=>if (gW S args&&decide (g<qV))=true then some (g,cM S args++Z)else none
 |_=>none
def gA(S:St)(o:Oper):Option DF:=
 match o.guard,o.op with
 |none,.defer {callee:=.value A2,args,..}=>CY S args.toList (S.aq A2)
 |_,_=>none
def nK(o:Oper):Bool:=
 match o.op with
 | .defer _=>true
 |_=>false
abbrev XD:=Option (XE×St×List DF)
def Gv(k:St->XD)(M:List DF):Option (XE×St)->XD
 |some (.normal,S)=>k S
 |some (e,S)=>some (e,S,M)
 |none=>none
def eX(X:Ctx)(A:bj)(md:Bool)(all:List Oper):List Oper->St->List DF->XD
 |[],S,M=>some (.normal,S,M)
 |o::r,S,M=>match gA S o with
  |some d=>eX X A md all r (S.put o.dst true .aY) (d::M)
  |none=>Gv (λS1=>eX X A md all r S1 M) M (mb X A md all S o)
def lO(ops:List Oper):Bool:=ops.any nK
def yQ(k:St->St):XD->XD
 |some (.normal,S,M)=>some (.normal,k S,M)
 |r=>r
def wD(M:List DF):Option (XE×St)->XD
 |some (e,S)=>some (e,S,M)
 |none=>none
def HL(k:St->List DF->XD):XD->XD
 |some (.normal,S,M)=>k S M
 |r=>r
def ib(X:Ctx)(f:FuncId)(A:bj)(n:Nat):Code->St->List DF->XD
 | .seq a b,S,M=>HL (ib X f A n b) (ib X f A n a S M)
 | .region id ops draw,S,M=>match !draw&&lO ops.toList with
  |true=>yQ (St.leave X f id) (eX X A (X.md f id) ops.toList ops.toList S M)
  |false=>wD M (den X f A n (.region id ops draw) S)
 |c,S,M=>wD M (den X f A n c S)
def tK(o:Oper):Bool:=
 match o.guard,o.op with
 |none,.call {callee:=.builtin .recover,args,..}=>args.toList.isEmpty
 |_,_=>false
def mE(X:Ctx)(f:FuncId)(A:bj)(n:Nat)(A3:AV):Code->St->Option (XE×St)
 | .seq a b,S=>andThen (mE X f A n A3 a S) (den X f A n b)
 | .region id ops draw,S=>match draw,ops.toList with
  |false,o::r=>if tK o=true then uA (St.leave X f id) (eQ X A (X.md f id) (o::r) r (S.put o.dst true A3))else none
  |_,_=>none
 |_,_=>none
def O5(P:Program)(p:aw)(N:Nat)(rs:List ResultVar):Option (XE×St)->Option (Out×List (Nat×ay))
 |some (.normal,S)=>finish P p N rs S
 |some (.ret,S)=>finish P p N rs S
 |_=>none
def vm(X:Ctx)(f:FuncId)(A:bj)(n:Nat)(fn:Func)(c:Code)(args:List AV)(cs:List ay):Option (Out×List (Nat×ay)):=
 match args.getLast? with
 |some A3=>if (decide (args.dropLast.length<=fn.ntmps)&&decide (cs.length<=100)&&(X.fp f).sites.all (λk=>decide (100<=k))&&decide (X.fp f).sites.Nodup)=true then
  O5 X.P (X.fp f) cs.length fn.results.toList (mE X f A n A3 c (entry fn.ntmps X.gl args.dropLast cs (X.fp f).sites))
  else none
 |none=>none
def BD:XE->Option AV
 | .normal=>some (.lit .nilIface)
 | .ret=>some (.lit .nilIface)
 | .panic t x=>some (.fR t x)
 | .exit _=>none
def sK(S:St):Option eF->Option St
 |some ⟨.ret _,es,_⟩=>some {S with mem:=bq S.mem es}
 |_=>none
def BE(X:Ctx)(p:aw)(N:Nat)(rs:List ResultVar):Option St->Option (Out×List (Nat×ay))
 |some S=>finish X.P p N rs S
 |none=>none
def rE(X:Ctx)(p:aw)(N:Nat)(rs:List ResultVar)(A5:bj)(S:St)(d:DF):Option AV->Option (Out×List (Nat×ay))
 |some A3=>BE X p N rs (sK S (dt A5 S.mem 0 d.1 (d.2++[A3]) (X.fp d.1).uw))
 |none=>none
def uB(X:Ctx)(p:aw)(N:Nat)(rs:List ResultVar)(A5:bj):XD->Option (Out×List (Nat×ay))
 |some (e,S,[])=>fin X.P p N rs (some (e,S))
 |some (e,S,[d])=>rE X p N rs A5 S d (BD e)
 |_=>none
def vn(X:Ctx)(f:FuncId)(A A5:bj)(n:Nat)(fn:Func)(c:Code)(args:List AV)(cs:List ay):Option (Out×List (Nat×ay)):=
 if (decide (args.length<=fn.ntmps)&&decide (cs.length<=100)&&(X.fp f).sites.all (λk=>decide (100<=k))&&decide (X.fp f).sites.Nodup)=true then
  uB X (X.fp f) cs.length fn.results.toList A5 (ib X f A n c (entry fn.ntmps X.gl args cs (X.fp f).sites) [])
 else none
def uC:Code->Bool
 | .seq a b=>uC a||uC b
 | .region _ ops _=>lO ops.toList
 |_=>false
def mc(X:Ctx)(n:Nat)(A:bj):bj:=λg args cs=>
 match X.P.funcs[g]? with
 |some fn=>match fn.body with
  |some c=>vm X g A n fn c args cs
  |none=>none
 |none=>none
def vo(X:Ctx)(f:FuncId)(A:bj)(n:Nat)(fn:Func)(c:Code)(args:List AV)(cs:List ay):Bool->Option (Out×List (Nat×ay))
 |true=>vn X f A (mc X n A) n fn c args cs
 |false=>gd (λargs=>pQ X f A n fn c args cs) args (X.fp f).split
def aF(X:Ctx):Nat->bj
 |0,_,_,_=>none
 |n+1,f,args,cs=>match X.ov with
  |some A=>A f args cs
  |none=>match X.vj f with
   |some h=>lN h args cs
   |none=>match X.P.funcs[f]? with
    |some fn=>match fn.body with
     |some c=>vo X f (aF X n) n fn c args cs (uC c)
     |none=>none
    |none=>none
def iK(X:Ctx)(A2:bj):Prop:=∀g args cs out l,A2 g args cs=some (out,l)->
 ga X.P g=true/\Ev X.P X.gl g args (dr 0 cs) λo m=>o=out/\m=cZ 0 l
theorem sL{P:Program}{g:FuncId}{vs:Array Value}{w:World}(h:ga P g=true):(callFunc g vs).run P w=.ok (.enter g vs) w:=by
 unfold ga at h;split at h
 ·rename_i fn Ap;simp only[Ds,akq]at h;have J:fn.body.isNone=false:=by
   have:=h.1;cases AE:fn.body<;>simp_all
  have T:fn.name≠ "runtime.NumGoroutine" :=by simpa using h.2
  have A7:fn.body≠none:=by intro AE;simp[AE]at J
  simp[callFunc,Ap,T,A7]
 ·cases h
theorem get_none{m:Mem}{k:Nat}:Mem.get m k=none↔k∉m.map (·.key):=by
 induction m with
 |nil=>simp[Mem.get]
 |cons e r ih=>
  simp only[Mem.get,acZ,aan,akD];split
  ·rename_i h;simp[h]
  ·rename_i h;rw[ih];constructor
   ·exact λhh=>⟨λhe=>h he.symm,hh⟩
   ·exact λhh=>hh.2
theorem uD{m m':Mem}(A:m'.map (·.key)=m.map (·.key))(k:Nat):(Mem.get m' k).isNone=(Mem.get m k).isNone:=by
 have:=get_none (m:=m) (k:=k);have T:=get_none (m:=m') (k:=k);rw[A,<-this]at T;cases h:Mem.get m k<;>cases Aq:Mem.get m' k<;>simp_all
theorem uE(m:Mem):∀(n:Nat)(todo I:List Nat),∀k∈I,k∈collect m n todo I
 |0,todo,I,k,h=>h
 |n+1,[],I,k,h=>h
 |n+1,t::todo,I,k,h=>by
  simp only[collect];split
  ·exact uE m n todo I k h
  ·exact uE m n _ _ k (ag8 _ h)
theorem uF{m m':Mem}(A:m'.map (·.key)=m.map (·.key)):∀(n:Nat)(todo I:List Nat),(∀k∈collect m n todo I,Mem.get m' k=Mem.get m k)->collect m' n todo I=collect m n todo I
 |0,todo,I,_=>rfl
 |n+1,[],I,_=>rfl
 |n+1,t::todo,I,h=>by
  simp only[collect,uD A t]at h⊢;split
  ·rename_i H;rw[H]at h;exact uF A n todo I h
  ·rename_i H;rw[H]at h;have e:Mem.get m' t=Mem.get m t:=h t (uE m n _ _ t (by simp));rw[e];exact uF A n _ _ h
mutual
theorem HM{m m':Mem}{ρ:List Nat}{bor:Nat->Bool}{nv:Nat->Nat->Nat}(A:m'.map (·.key)=m.map (·.key))(h:∀k,(k∈ρ\/bor k=true)->Mem.get m' k=Mem.get m k):∀y:AV,vw m' ρ bor nv y=vw m ρ bor nv y
 | .ptr k ak off=>by
  by_cases U:k∈ρ
  ·simp only[vw,h k (.inl U)]
  ·have V:∀N:Mem,vw N ρ bor nv (.ptr k ak off)=.aY:=by
    intro N;simp only[vw,jg (ρ:=ρ) (k:=k) (j:=0) |>.2 U];cases Mem.get N k<;>rfl
   rw[V,V]
 | .vec k ak off len=>by
  by_cases U:k∈ρ\/bor k=true
  ·simp only[vw,h k U]
  ·simp only[akD]at U;have V:∀N:Mem,vw N ρ bor nv (.vec k ak off len)=.aY:=by
    intro N;simp only[vw,jg (ρ:=ρ) (k:=k) (j:=0) |>.2 U.1,U.2];cases Mem.get N k with
    |none=>rfl
    |some e=>
     obtain⟨_,_,c⟩:=e;cases c<;>simp
   rw[V,V]
 | .cn k ak i j=>by
  by_cases U:k∈ρ
  ·simp only[vw,h k (.inl U)]
  ·have V:∀N:Mem,vw N ρ bor nv (.cn k ak i j)=.aY:=by
    intro N;simp only[vw,jg (ρ:=ρ) (k:=k) (j:=0) |>.2 U];cases Mem.get N k<;>rfl
   rw[V,V]
 | .agg cs=>by simp only[vw,vp A h cs]
 | .fn f cap=>by simp only[vw,vp A h cap]
 | .bM vs=>by simp only[vw,vp A h vs]
 | .aY=>rfl
 | .d x=>rfl
 | .dq x j=>rfl
 | .fR t x=>rfl
 | .lit v=>rfl
 | .nn=>rfl
 | .err=>rfl
theorem vp{m m':Mem}{ρ:List Nat}{bor:Nat->Bool}{nv:Nat->Nat->Nat}(A:m'.map (·.key)=m.map (·.key))(h:∀k,(k∈ρ\/bor k=true)->Mem.get m' k=Mem.get m k):∀l:List AV,qh m' ρ bor nv l=qh m ρ bor nv l
 |[]=>rfl
 |x::r=>by simp only[qh,HM A h x,vp A h r]
end
theorem HN{m m':Mem}{ρ:List Nat}{bor:Nat->Bool}{nv:Nat->Nat->Nat}(A:m'.map (·.key)=m.map (·.key))(h:∀k,(k∈ρ\/bor k=true)->Mem.get m' k=Mem.get m k):
 ∀(l:List Nat)(i:Nat),(∀k∈l,k∈ρ)->dO m' ρ bor nv i l=dO m ρ bor nv i l
 |[],i,_=>rfl
 |k::r,i,AP=>by
  simp only[dO,h k (.inl (AP k (by simp))),HN A h r (i+1) (λx Y=>AP x (by simp[Y]))];congr 1;cases Mem.get m k with
  |none=>rfl
  |some e=>
   simp only[uv,ab3,true_and];cases e.cont with
   |box cs=>simp only[uu,vp A h cs]
   |vv ag y=>
    cases y with
    |none=>rfl
    |some x=>simp only[uu,afJ,HM A h x]
   |_=>rfl
theorem CZ{b:Bool}{m m':Mem}{ρ B:List Nat}(A:m'.map (·.key)=m.map (·.key))(h:∀k,(k∈ρ\/B.contains k=true)->Mem.get m' k=Mem.get m k):∀l:List AV,gw b m' ρ B l=gw b m ρ B l
 |[]=>rfl
 |x::r=>by simp only[gw,HM (nv:=gu) A h x,CZ A h r]
theorem BF{m m':Mem}(d:Nat):∀(l:List Nat),(∀k∈l,Mem.get m' k=Mem.get m k)->base m' d l=base m d l
 |[],_=>rfl
 |k::r,h=>by simp only[base,h k (by simp),BF d r (λx Y=>h x (by simp[Y]))]
theorem HO{m m':Mem}(ρ:List Nat)(A:m'.map (·.key)=m.map (·.key)):∀(l:List Nat),wo m' ρ l=wo m ρ l
 |[]=>rfl
 |k::r=>by
  have:(Mem.get m' k).isSome=(Mem.get m k).isSome:=by
   have:=uD A k;cases h:Mem.get m k<;>cases Aq:Mem.get m' k<;>simp_all
  simp only[wo,this,HO ρ A r]
theorem C0{A2:bj}{m m':Mem}{A3:Nat}{g:FuncId}{E:List AV}{mt:List Nat}{res:eF}(A:m'.map (·.key)=m.map (·.key))(h:dt A2 m A3 g E mt=some res)(AW:∀k∈res.ks,Mem.get m' k=Mem.get m k):
 dt A2 m' A3 g E mt=some res:=by
 unfold dt kW kV at h⊢;obtain⟨ρ,A4⟩:∃ρ,ρ=collect m 64 (j5 mt 0 E) []:=⟨_,rfl⟩;rw[<-A4]at h;obtain⟨B,AX⟩:∃B,B=(sF mt 0 E).filter λk=>!ρ.contains k:=⟨_,rfl⟩;rw[<-AX]at h;have AF:∀k,k∈ρ\/B.contains k=true->Mem.get m' k=Mem.get m k:=by
  intro k Z;refine AW k ?_;unfold eP at h;split at h
  ·split at h
   ·cases h;simp only[abT];rcases Z with J|J
    ·exact .inl (.inl J)
    ·exact .inl (.inr (by simpa using J))
   ·cases h
  ·cases h
 have Ar:collect m' 64 (j5 mt 0 E) []=ρ:=by
  rw[A4];exact uF A 64 _ _ (λk Z=>AF k (.inl (A4▸Z)))
 rw[Ar,<-AX,CZ A AF,HN A AF ρ 0 (λ_ h=>h),uD A];unfold eP at h⊢;split
 ·rename_i out M A8;rw[A8]at h;simp only at h;rw[HO ρ A];split
  ·rename_i H;rw[aap H]at h;cases h;have A9:∀d,base m' d ρ=base m d ρ:=λd=>BF d ρ (λk Z=>AF k (.inl Z));have As:∀d,base m' d (List.range' (A3+1) (M.length-ρ.length))=base m d (List.range' (A3+1) (M.length-ρ.length)):=λd=>BF d _ (λk Z=>AW k (by simp only[abT];exact .inr Z));rw[A9,As]
  ·rename_i H;rw[aah H]at h;cases h
 ·rename_i A8;rw[A8]at h;cases h
theorem uG(S:St):∀(l:List Operand)(i:Nat),(cM S l)[i]?=(l[i]?).map λx=>(S.aq x).2
 |[],i=>by simp[cM]
 |x::r,i=>by cases i with|zero=>simp[cM]|succ i=>simp[cM,uG S r i]
theorem iE(S:St):∀(l:List Operand),(cM S l).length=l.length
 |[]=>rfl
 |x::r=>by simp[cM,iE S r]
theorem wE(b m ρ B):∀(l:List AV)(i:Nat),(gw b m ρ B l)[i]?=(l[i]?).map λy=>AU b (vw m ρ (λk=>B.contains k) gu y)
 |[],i=>by simp[gw]
 |x::r,i=>by cases i with|zero=>simp[gw]|succ i=>simp[gw,wE b m ρ B r i]
theorem qN(b m ρ B):∀(l:List AV),(gw b m ρ B l).length=l.length
 |[]=>rfl
 |x::r=>by simp[gw,qN b m ρ B r]
theorem yR(m ρ bor):∀(l:List Nat)(i j:Nat),dr i (nb (dO m ρ bor gu j l))=cZ i (dO m ρ bor gu j l)
 |[],i,j=>rfl
 |k::r,i,j=>by
  have:uv m ρ bor gu j (Mem.get m k)=(0,(uv m ρ bor gu j (Mem.get m k)).2):=by
   cases Mem.get m k<;>rfl
  simp only[dO];rw[this];simp only[nb,dr,cZ,yR m ρ bor r (i+1) (j+1)]
theorem BG{m:Mem}{ρ:List Nat}:∀{l:List Nat},wo m ρ l=true->∀k∈l,(Mem.get m k).isSome=true/\k∉ρ
 |[],_,k,A=>by simp at A
 |x::r,h,k,A=>by
  simp only[wo,Ds,akq,List.contains_eq_mem,ac7]at h;rcases aan.1 A with rfl|A
  ·exact h.1
  ·exact BG h.2 k A
theorem wF:∀{l:List (Nat×ay)},mV l=true->∀e∈l,kO e.2=true
 |[],_,e,he=>by simp at he
 |(v,c)::r,h,e,he=>by
  simp only[mV,Ds]at h;rcases aan.1 he with rfl|he
  ·exact h.1
  ·exact wF h.2 e he
theorem vq:∀(l:List (Nat×ay))(i k:Nat),i<=k->k<i+l.length->(Mem.get (cZ i l) k).isSome=true
 |[],i,k,J,T=>by simp at T;omega
 |(v,c)::r,i,k,J,T=>by
  simp only[cZ,Mem.get];split
  ·rfl
  ·rename_i At;exact vq r (i+1) k (by have BJ:i≠k:=At;omega) (by simp at T;omega)
theorem Ev.frz{P:Program}{gl f args}{cs:List ay}{out:Out}{M:List (Nat×ay)}(h:Ev P gl f args (dr 0 cs) λo m=>o=out/\m=cZ 0 M)(AP:cs.length<=M.length):
 Ev P gl f args (dr 0 cs) λo m=>o=Ee cs.length M out/\m=cZ 0 (dO (cZ 0 M) (List.range cs.length) (λ_=>true) (λ_ v=>v) 0 (List.range cs.length)):=by
 intro φ G w vs hm AG Au Av;refine (h φ G w vs hm AG Au Av).mono ?_;rintro e w' ⟨φ',m',AH,⟨rfl,rfl⟩,AA,O,q⟩;obtain⟨s1,s2,Aw⟩:=z6 (G1:=G) (ρ:=List.range cs.length) (bor:=λ_=>true) (nv:=λ_ v=>v) AA List.nodup_range (λk A=>vq M 0 k (alp _) (by simp at A;omega)) (λb h=>.inl h) (λb h=>AA.jP b h.own)
  (λk e L b AG _ _ AI A5=>AA.jP _ ⟨e,(Mem.get_mem AG).1,L,by rw[(Mem.get_mem AG).2];exact AI,A5⟩)
 refine⟨_,_,_,⟨rfl,rfl⟩,s1,⟨?_,O.x8,?_,O.size,O.os,O.tape,O.output⟩,?_⟩
 ·intro k L AI;have A:k<cs.length:=by
   have:=hm.oI k L AI;rw[Hv,pb]at this;simpa using this
  obtain⟨L',J,T,A7⟩:=O.le k L AI;exact⟨L',by simp[bG.gC,A,J],T,A7⟩
 ·intro b AE A5;exact O.own b AE ((vf (φ:=φ') (nv:=λ_ v=>v) (bor:=λ_=>true) (λk A=>vq M 0 k (alp _) (by simp at A;omega)) b).1 A5).own
 ·cases AH with
  |ret x=>
   cases e with
   |returned v=>exact (s2 x v q).norm
   |_=>exact q.elim
  |panic t x=>
   cases e with
   |panicked chain=>
    obtain⟨v,H,Y⟩:=q;exact⟨v,H,Y.mono (λ_ _ _=>rfl) (aai _) (λb _=>Aw b)⟩
   |_=>exact q.elim
theorem sM:∀(l:List (Nat×ay)),(nb l).length=l.length
 |[]=>rfl
 |(_,_)::r=>by simp[nb,sM r]
theorem yT{AB:Nat}{b:Bool}{r:Option (Out×List (Nat×ay))}{out:Out}{l:List (Nat×ay)}(h:pr AB b r=some (out,l)):∃AJ A1,r=some (AJ,A1)/\
 ((out=AJ/\l=A1)\/(AB<A1.length/\out=Ee AB A1 AJ/\l=dO (cZ 0 A1) (List.range AB) (λ_=>true) (λ_ v=>v) 0 (List.range AB))):=by
 cases r with
 |none=>cases h
 |some p=>
  obtain⟨Ax,A1⟩:=p;refine⟨Ax,A1,rfl,?_⟩;simp only[pr]at h;split at h
  ·rename_i H;simp only[Ds,aam]at H;simp only[aax,ab3]at h;exact .inr ⟨H.2,h.1.symm,h.2.symm⟩
  ·simp only[aax,ab3]at h;exact .inl ⟨h.1.symm,h.2.symm⟩
theorem aaS{n g:Nat}(h:g<n):Ac n g=g:=by
 unfold Ac;rw[decide_eq_false (Nat.not_le.2 h)]
theorem Se{n g:Nat}(h:g<n)(E D:List AV):rW n g E D=E++D:=by
 unfold rW;rw[decide_eq_false (Nat.not_le.2 h)]
theorem aaT(n g:Nat):Ac n (g+n)=g:=by
 unfold Ac;rw[akt (akz n g)];exact Nat.add_sub_cancel g n
theorem Sf(n g:Nat)(E D:List AV):rW n (g+n) E D=D++E:=by
 unfold rW;rw[akt (akz n g)]
theorem acO{g:FuncId}(h:g<qV):mC g=g:=aaS h
theorem HP{g:FuncId}(h:g<qV)(E D:List AV):gL g E D=E++D:=Se h E D
theorem acP(g:FuncId):mC (g+qV)=g:=aaT qV g
theorem HQ(g:FuncId)(E D:List AV):gL (g+qV) E D=D++E:=Sf qV g E D
theorem tM{X:Ctx}{A2:bj}(A8:iK X A2){S:St}{o:Oper}{AK:Operand}{args:Array Operand}{Ay:Array TypeId}{g g0:FuncId}{D:List AV}{A3:Nat}{mt:List Nat}{res:eF}
 (A5:o.op=.call {callee:=.value AK,args,argTypes:=Ay}) (AY:S.aq AK=(true,.fn g0 D)) (AZ:mC g0=g) (Az:gW S args.toList=true)
 (h:dt A2 S.mem A3 g (gL g0 (cM S args.toList) D) mt=some res) (B':S.gl=X.gl) {φ G a w} (A6:Rel φ G S a w) {next:Act->World->Prop} {R:Exit->Act->World->Prop}
 (B0:∀x,res.out=.ret x->∀φ' w' v,Rel φ' G {S with mem:=bq S.mem res.es} a w'->aP φ S.mem w φ' (bq S.mem res.es) w'->az φ' w' (Fo G φ' (bq S.mem res.es)) x v->next (a.put o.dst v) w')
 (B1:∀t x,res.out=.panic t x->∀φ' w' v,Rel φ' G {S with mem:=bq S.mem res.es} a w'->aP φ S.mem w φ' (bq S.mem res.es) w'->aJ w' (Fo G φ' (bq S.mem res.es)) x v->R (.panic [{v:=.iface t v,recovered:=false}]) a w'):o.wp X.P a w next R:=by
 unfold dt kW kV at h;obtain⟨ρ,A4⟩:∃ρ,ρ=collect S.mem 64 (j5 mt 0 (gL g0 (cM S args.toList) D)) []:=⟨_,rfl⟩;have A_:=nY S.mem 64 (j5 mt 0 (gL g0 (cM S args.toList) D)) [] List.nodup_nil (by simp);rw[<-A4]at h A_;generalize (sF mt 0 (gL g0 (cM S args.toList) D)).filter (λk=>!ρ.contains k)=B at h;clear A4;obtain⟨Aa,Ab⟩:=A_;unfold eP at h;split at h
 ·rename_i out M B2;split at h
  ·rename_i H;cases h;have B3:ga X.P g=true/\Ev X.P X.gl g (gw (mt.contains 1000) S.mem ρ B (gL g0 (cM S args.toList) D)) (dr 0 (nb (dO S.mem ρ (λk=>B.contains k) gu 0 ρ))) λo m=>o=out/\m=cZ 0 M:=by
    obtain⟨AJ,A1,V,J⟩:=yT B2;obtain⟨B4,Ad⟩:=A8 _ _ _ _ _ V;refine⟨B4,?_⟩;rcases J with ⟨rfl,rfl⟩|⟨AL,rfl,rfl⟩
    ·exact Ad
    ·have Ae:(nb (dO S.mem ρ (λk=>B.contains k) gu 0 ρ)).length=ρ.length:=by rw[sM,pM]
     have:=Ad.frz (by rw[Ae];omega);rw[Ae]at this;exact this
   obtain⟨Af,Ag⟩:=B3;simp only[Ds,afP,aam]at H;obtain⟨⟨BK,B5⟩,B6⟩:=H;rw[yR]at Ag;obtain⟨v1,v2,v3⟩:=E9 (B:=B) A6.mem Aa Ab;have AQ:=A6.aq AK (by rw[AY]);rw[AY]at AQ;generalize Ah:a.eval AK=BL at AQ;have B7:∃vs:Array Value,(execOp a.eval o).run X.P w=.ok (.enter g vs) w/\(gL g0 (cM S args.toList) D).length=vs.size/\∀(i:Nat) y v,(gL g0 (cM S args.toList) D)[i]?=some y->vs[i]?=some v->az φ w (Fo G φ S.mem) y v:=by
    have Ai:∀(i:Nat) y v,(cM S args.toList)[i]?=some y->(args.map a.eval)[i]?=some v->az φ w (Fo G φ S.mem) y v:=by
     intro i y v A' A0;rw[uG]at A';simp only[Array.getElem?_map,aak]at A0;obtain⟨z,Aj,rfl⟩:=A0;obtain⟨BM,Ak,rfl⟩:=aak.1 A';rw[afw,Aj]at Ak;cases Ak;exact A6.aq z (tA Az z (by simpa using Array.mem_of_getElem? Aj))
    have AM:(cM S args.toList).length=(args.map a.eval).size:=by rw[iE];simp
    have Al:∀(l r:List AV)(AN AO:Array Value),l.length=AN.size->r.length=AO.size->(∀(i:Nat) y v,l[i]?=some y->AN[i]?=some v->az φ w (Fo G φ S.mem) y v)->(∀(i:Nat) y v,r[i]?=some y->AO[i]?=some v->az φ w (Fo G φ S.mem) y v)->
     ∀(i:Nat) y v,(l++r)[i]?=some y->(AN++AO)[i]?=some v->az φ w (Fo G φ S.mem) y v:=by
     intro l r AN AO J T A7 B8 i y v A' A0;by_cases hi:i<l.length
     ·rw[aaq hi]at A';rw[afG (by omega)]at A0;exact A7 i y v A' A0
     ·rw[aaF (by omega)]at A';rw[Array.getElem?_append_right (by omega),<-J]at A0;exact B8 _ y v A' A0
    cases AQ with
    |fn _ _ AR AL AC AS=>
     have A9:g0=g:=by rw[<-AZ,acO AL]
     subst A9;refine⟨args.map a.eval++AR,by simp[execOp,A5,resolve,Ah,Deferred.ofValue,invoke,sL Af],?_,?_⟩
     ·rw[HP AL,ab0,AM,AC,Array.size_append]
     ·rw[HP AL];exact Al _ _ _ _ AM AC Ai AS
    |qW f _ AR AC AS=>
     have A9:f=g:=by rw[<-AZ,acP]
     subst A9;refine⟨AR++args.map a.eval,by simp[execOp,A5,resolve,Ah,Deferred.ofValue,invoke,sL Af],?_,?_⟩
     ·rw[HQ,ab0,AM,AC,Array.size_append]
     ·rw[HQ];exact Al _ _ _ _ AC AM AS Ai
   obtain⟨vs,B9,BA,BB⟩:=B7
   ·unfold Oper.wp;rw[B9];have BC:(gw (mt.contains 1000) S.mem ρ B (gL g0 (cM S args.toList) D)).length=vs.size:=by
     rw[qN];exact BA
    have BD:∀(i:Nat) x v,(gw (mt.contains 1000) S.mem ρ B (gL g0 (cM S args.toList) D))[i]?=some x->vs[i]?=some v->az (φ.gC ρ gu) w (Fo (kB φ G S.mem ρ B) (φ.gC ρ gu) (cZ 0 (dO S.mem ρ (λk=>B.contains k) gu 0 ρ))) x v:=by
     intro i x v Y A0;rw[wE]at Y;obtain⟨y,A',rfl⟩:=aak.1 Y;exact (v2 y v (BB i y v A' A0)).AU
    have BE:eh w (Fo (kB φ G S.mem ρ B) (φ.gC ρ gu) (cZ 0 (dO S.mem ρ (λk=>B.contains k) gu 0 ρ))) X.gl:=by
     rw[<-B'];exact A6.jR.mono (λ_ _ _=>rfl) (aai _) (λb _=>v3 b)
    refine (Ag (φ.gC ρ gu) (kB φ G S.mem ρ B) w _ v1 BE BC BD).mono ?_;rintro e w' ⟨BN,BO,AH,⟨rfl,rfl⟩,BH,Z,q⟩;have AT:B=[]\/(yN AH=true/\mV M=true):=B6.imp (by simp) id;obtain⟨φ',AA,O,An⟩:=Fa (B:=B) A6.mem Aa Ab (fr:=List.range' (A3+1) (M.length-ρ.length)) List.nodup_range' (BG B5) BH Z (by simp;omega) (AT.imp id λAD=>wF AD.2);have Ao:=A6.x9 AA O;cases AH with
    |ret x=>
     cases e with
     |returned v=>exact B0 _ rfl φ' w' v Ao O (An x v (AT.imp id λAD=>AD.1) q)
     |_=>exact q.elim
    |panic t x=>
     cases e with
     |panicked chain=>
      obtain⟨v,rfl,Y⟩:=q;have:=An (.d x) v (AT.imp id λAD=>AD.1) (.d _ _ Y);cases this with
      |d _ _ BI=>exact B1 t x rfl φ' w' v Ao O BI
     |_=>exact q.elim
  ·cases h
 ·cases h
end Go.Am
end
