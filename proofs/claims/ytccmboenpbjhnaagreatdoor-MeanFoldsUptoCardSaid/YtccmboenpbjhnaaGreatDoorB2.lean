/-
  Texts of one proof, one behind the other.
-/
import Derived.Test.YtccmboenpbjhnaaGreatDoorB1
import Derived.Orders
set_option linter.all false
section
namespace Go.Am
open Go
def iB(S:St):List Operand->Bool
 |[]=>true
 |x::r=>(S.aq x).1&&iB S r
theorem uw{S:St}:∀{l:List Operand},iB S l=true->∀x∈l,(S.aq x).1=true
 |[],_,x,J=>by simp at J
 |y::r,h,x,J=>by
  simp only[iB,Ds]at h;rcases abV.1 J with rfl|J
  ·exact h.1
  ·exact uw h.2 x J
def gn(S:St)(o:Oper):Bool:=
 match o.op with
 | .pick _ _ _=>true
 |op=>iB S op.operands.toList
def ss(P:Program)(m:Mem)(AB:Nat)(t:TypeId)(x:AV):du:=
 match x with
 | .lit (.slice none 0 0)=>match Mem.get m AB with
  |some ⟨_,v,_⟩=>match tk P t with
   | .slice e=>match fm P e with
    |some sz=>.dg true (.vec AB (v+1) 0 0) ⟨AB,v+1,.vec sz []⟩
    |none=>.val true x
   |_=>.val true x
  |none=>.val true x
 |x=>.val true x
theorem Ii(P:Program)(S:St)(o:Oper)(x:Operand)(A:o.op=.move x\/o.op=.assign x)(J:(S.aq x).1=true):aG P S o (ss P S.mem (keyOf o) o.type (S.aq x).2):=by
 have plain:aG P S o (.val true (S.aq x).2):=by
  have:=acq P S o x A J;simpa using this
 unfold ss;split
 ·rename_i A5;split
  ·rename_i key v cont A0;split
   ·split
    ·rename_i sz A6;intro _ φ G a w H;obtain⟨hm,T,L,A2,A3,Ae⟩:=H.mem.get A0;simp only at T A3;subst T;have A7:=H.aq x J;rw[A5]at A7;generalize B1:a.eval x=u at A7;cases A7;obtain⟨φ',AO,AP,AZ,AJ⟩:=H.mem.dg (e':=⟨keyOf o,v+1,.vec sz []⟩) hm A2 rfl (L':=⟨v+1,0,sz,0,0,[]⟩) (by simp only;omega) (λhh=>by simp only at hh;omega) rfl
      (w':=w) (λ_ _ _=>rfl) (abO _) (λ_ A=>absurd A.1 (by simp)) rfl rfl rfl (λφ' B2 BY=>
       ⟨rfl,by simp,by simp,λN=>by simp at N⟩)
     refine⟨.slice none 0 0,w,φ',.inl ?_,?_,AO,AP,AJ⟩
     ·rcases A with A|A<;>simp[execOp,A,B1]
     ·exact .vec _ (v+1) 0 _ _ _ AZ (abO _) (λ_=>⟨_,_,rfl,by simp,λh=>by omega⟩) rfl
    ·exact plain
   ·exact plain
  ·exact plain
 ·exact plain
def zt:Value->Bool
 | .slice none 0 0=>true
 | .pointer none=>true
 | .nilIface=>true
 |_=>false
def rf(P:Program)(S:St)(op:BinOp)(t:TypeId)(x y:Operand):du:=
 match y with
 | .const v=>match zt v,op with
  |true,.eql=>jB P S.mem false t (S.aq x).2 v
  |true,.neq=>jB P S.mem true t (S.aq x).2 v
  |_,_=>pX P op t (S.aq x).2 (S.aq (.const v)).2
 |y=>pX P op t (S.aq x).2 (S.aq y).2
theorem Th(P:Program)(S:St)(o:Oper)(B3:BinOp)(t AQ:TypeId)(x y:Operand)(A:o.op=.binOp B3 t x y AQ)(J:(S.aq x).1=true)(AC:(S.aq y).1=true):aG P S o (rf P S B3 t x y):=by
 unfold rf;split
 ·split
  ·exact LV P S o false t AQ x _ (by simpa using A) J
  ·exact LV P S o true t AQ x _ (by simpa using A) J
  ·exact LU P S o _ t AQ x _ A J AC
 ·exact LU P S o B3 t AQ x y A J AC
theorem Ij{w:World}{F F':Nat->Prop}{sz:Nat}{AD:List D}{cs:List Value}{b off cap:Nat}(H:cm w F sz AD cs)(N:∀(j:Nat) v,cs[j]?=some v->w.cell? ⟨b,off+j,none⟩=some v)
 (A8:b<w.heap.size) (Af:∀b,F' b->F b) (B4:¬F' b) (BL:AD.length<=cap):aO w F' (.list AD) (.slice (some ⟨b,off,none⟩) AD.length cap):=by
 obtain⟨E,M,A',AK⟩:=H;refine .list AD b off cap sz (λi=>if h:i<AD.length then Classical.choose (AK i AD[i] (by simp[h]))else undef) BL A8 B4 A' (λi d U=>?_) (λi j c hi Z=>?_)
 ·have hi:=(abM.1 U).1;have:=Classical.choose_spec (AK i AD[i] (by simp[hi]));simp only[hi,dif_pos];have e:AD[i]=d:=(abM.1 U).2;rw[<-e];exact this.1.mono (λ_ _ _=>rfl) (abO _) (λb _=>Af b)
 ·have:=Classical.choose_spec (AK i AD[i] (by simp[hi]));simp only[hi,dif_pos]at Z;have AR:=N _ _ (this.2 j c Z);rw[<-adN]at AR;exact AR
theorem Cm{φ w F F'}{k ak off len sz:Nat}{ai:List D}{L:Loc}{v:Value}(A7:aB φ w F (.vec k ak off len) v)(A2:φ k=some L)(A3:L.ak=ak)(N:dX φ w F L (.vec sz ai))(hle:off+len<=ai.length)
 (Af:∀b,F' b->F b) (B4:0<L.cap->¬F' L.dw):aO w F' (.list ((ai.drop off).take len)) v:=by
 have BM:((ai.drop off).take len).length=len:=by simp;omega
 cases A7 with
 |vec _ _ _ _ _ L' Ag _ h _=>
  rw[A2]at Ag;cases Ag;obtain⟨ao,cap,rfl,BN,Ah⟩:=h A3.symm;clear h;by_cases BZ:len=0
  ·subst BZ;simp only[List.take_zero];exact .nil _ _ (λV=>by
    subst V;rcases amo cap with q|q
    ·exact q
    ·obtain⟨E,_⟩:=Ah q;cases E)
  ·obtain⟨rfl,C6⟩:=Ah (by omega);obtain⟨arr,elem,hh,BO,BP,H⟩:=nF N (by omega);have B5:=(H.drop off).take len (by simp;omega);have:=Ij (F':=F') (b:=L.dw) (off:=L.base+off*L.sz) (cap:=cap) B5 (λj u Z=>by
    rw[gz hh,N.1];rw[abZ]at Z;split at Z
    ·rw[adY,abZ]at Z;split at Z
     ·rw[adY]at Z;rw[adN];simpa using Z
     ·cases Z
    ·cases Z) hh.lt Af (B4 (by omega)) (by omega)
   rw[BM]at this;exact this
theorem Mem.set_set{e e':cB}(T:e'.key=e.key):∀m:Mem,Mem.set (Mem.set m e) e'=Mem.set m e'
 |[]=>rfl
 |x::r=>by
  simp only[Mem.set];by_cases h:x.key=e.key
  ·rw[abT h,abT (by rw[T];exact h)];simp only[Mem.set];rw[abT T.symm]
  ·rw[abN h,abN (by rw[T];exact h)];simp only[Mem.set];rw[abN (by rw[T];exact h),Mem.set_set T r]
theorem ad3{φ:bN}{G m w}(h:bh φ G m w){k v sz n:Nat}{ai:List D}(A0:Mem.get m k=some ⟨k,v,.vec sz ai⟩){x:Value}(J:aB φ w (Fo G φ m) (.vec k v 0 n) x)(V:n<=ai.length):
 ∃φ',bh φ' G (Mem.set m ⟨k,v+1,.dead⟩) w/\aS φ m w φ' (Mem.set m ⟨k,v+1,.dead⟩) w/\(∀j,j≠k->φ' j=φ j)/\aO w (Fo G φ' (Mem.set m ⟨k,v+1,.dead⟩)) (.list (ai.take n)) x:=by
 obtain⟨hm,_,L,A2,A3,Ae⟩:=h.get A0;obtain⟨φ',AO,AP,AZ,AJ⟩:=h.dg (e:=⟨k,v,.vec sz ai⟩) (e':=⟨k,v+1,.dead⟩) hm A2 rfl (L':={L with ak:=v+1}) (by simp only at A3⊢;omega) (λhh=>by simp only at A3 hh;omega) rfl
  (w':=w) (λ_ _ _=>rfl) (abO _) (λ_ A=>A.elim) rfl rfl rfl (λ_ _ _=>trivial)
 refine⟨φ',AO,AP,AJ,?_⟩;have BQ:∀b,iw φ' (Mem.set m ⟨k,v+1,.dead⟩) b->iw φ m b/\∀(_:0<L.cap),b≠L.dw:=by
  rintro b ⟨y,AC,Ao,AE,A_⟩;rcases (Mem.mem_set h.nodup).1 AC with ⟨rfl,_⟩|⟨Ap,AF⟩
  ·exact A_.elim
  ·simp only at AF;rw[AJ _ AF]at AE;refine⟨⟨y,Ap,Ao,AE,A_⟩,λN heq=>AF (h.apart y Ap _ hm Ao L AE A2 ⟨b,A_,N,heq.symm⟩)⟩
 have:=Cm J A2 A3 Ae (by omega) (F':=Fo G φ' (Mem.set m ⟨k,v+1,.dead⟩)) (λb=>Or.imp id (λA8=>(BQ b A8).1)) (λN=>by
  rintro (B6|A)
  ·exact h.ku _ ⟨_,hm,L,A2,N,rfl⟩ B6
  ·exact (BQ _ A).2 N rfl)
 simpa using this
def ux(m:Mem)(b:Bool)(AB:Nat):du->du
 | .dg c (.vec k v 0 n) ⟨AG,Aa,.vec sz ai⟩=>if b=true/\k≠AB/\AG=k/\Aa=v/\n<=ai.length/\(Mem.get m k).isSome=true then .dg c (.d (.list (ai.take n))) ⟨k,v+1,.dead⟩else .dg c (.vec k v 0 n) ⟨AG,Aa,.vec sz ai⟩
 |r=>r
theorem WO{P:Program}{S:St}{o:Oper}{b:Bool}{AB:Nat}{r:du}(h:aG P S o r):aG P S o (ux S.mem b AB r):=by
 unfold ux;split
 ·rename_i c k v n AG Aa sz ai;split
  ·rename_i hh;obtain⟨_,_,rfl,rfl,V,A6⟩:=hh;intro N φ G a w H;obtain⟨x,w',φ',E,M,A',AK,AR⟩:=h N φ G a w H;have B7:AG∈S.mem.map (·.key):=by
    cases A0:Mem.get S.mem AG with
    |none=>rw[A0]at A6;cases A6
    |some e=>
     obtain⟨B8,B_⟩:=Mem.get_mem A0;rw[<-B_];exact ab7 B8
   obtain⟨B9,q1,q2,q3,BA⟩:=ad3 A' (Mem.oP (x:=⟨AG,Aa,.vec sz ai⟩) B7) M V;rw[Mem.set_set (e:=⟨AG,Aa,.vec sz ai⟩) (e':=⟨AG,Aa+1,.dead⟩) rfl]at q1 q2 BA;exact⟨x,w',B9,E,.d _ _ BA,q1,AK.trans q2,λj Z=>by rw[q3 j Z];exact AR j Z⟩
  ·exact h
 ·exact h
def PY(P:Program)(t:TypeId):AV->du
 | .lit (.slice none 0 0)=>match tk P t with
  | .slice _=>.val True (.d (.int .i64 0))
  |_=>.no
 |_=>.no
theorem ad4(P:Program)(S:St)(o:Oper)(x:Operand)(t:TypeId)(A:o.op=.call {callee:=.builtin .cap,args:=#[x],argTypes:=#[t]})(J:(S.aq x).1=true):aG P S o (PY P t (S.aq x).2):=by
 have BB:∀(a:Act)(w:World)(v:Value),(Builtin.cap_ #[t] o.type #[a.eval x]).run P w=.ok v w->(execOp a.eval o).run P w=.ok (.value v) w:=by
  intro a w v h;simp[execOp,A,resolve,invoke,builtin,h]
 unfold PY;split
 ·rename_i A5;split
  ·rename_i e Ba;refine aG.pure λ_ φ G a w H=>?_;have E:=H.aq x J;rw[A5]at E;generalize A1:a.eval x=av at E;cases E with|lit _ h=>
   refine⟨_,BB a w (.int .i64 0) ?_,.d _ _ (.int _ _)⟩;rw[A1];simp[Builtin.cap_,run_underlying (fL Ba),goInt]
  ·trivial
 ·trivial
def lA(P:Program)(S:St)(o:Oper)(b:Builtin)(args:List Operand)(Ab:List TypeId):du:=
 match b,args,Ab with
 | .len,[x],[t]=>nX P S.mem t (S.aq x).2
 | .append,[s,x],[t,u]=>ux S.mem (Mem.get S.mem (keyOf o)).isSome (keyOf o) (rU P S.mem (keyOf o) t u (S.aq s).2 (S.aq x).2)
 | .copy,[s,x],[t,_]=>xk P S.mem t (S.aq s).2 (S.aq x).2
 | .max,args,_=>Fe true (args.map λx=>(S.aq x).2)
 | .min,args,_=>Fe false (args.map λx=>(S.aq x).2)
 | .cap,[x],[t]=>PY P t (S.aq x).2
 |_,_,_=>.no
def zeroOf:TK->Option D
 | .int k=>some (.int k 0)
 | .bool=>some (.bool false)
 |_=>none
theorem K8{t:TK}{z:D}(h:zeroOf t=some z):z.size=1/\∀(w:World)(F:Nat->Prop),∃v,aO w F z v/\v.cells=#[v]/\∀u,aO w F z u->u=v:=by
 cases t with
 |int k=>cases h;exact⟨rfl,λw F=>⟨_,.int k 0,rfl,λu hu=>by cases hu;rfl⟩⟩
 |bool=>cases h;exact⟨rfl,λw F=>⟨_,.bool false,rfl,λu hu=>by cases hu;rfl⟩⟩
 |_=>cases h
def Ti:D->AV->Bool
 | .int k n,.d (.int AG Bb)=>k == AG&&n == Bb
 | .bool b,.d (.bool Bc)=>b == Bc
 |_,_=>false
theorem ad5{z:D}{c:AV}(h:Ti z c=true):c=.d z:=by
 unfold Ti at h;split at h<;>simp_all
def Ik(m:Mem)(k n:Nat)(z:D)(zs:List AV):du:=
 match Mem.get m k with
 |some ⟨_,v,_⟩=>.dg (zs.length=n/\zs.all (Ti z)=true) (.cN k (v+1) 0 0) ⟨k,v+1,.vec 1 (List.replicate n z)⟩
 |none=>.no
def tt(P:Program)(m:Mem)(k:Nat)(t:TypeId):du:=
 match sq P t with
 |some zs=>match tk P t with
  | .arr n e=>match zeroOf (tk P e)with
   |some z=>Ik m k n z zs
   |none=>rS m k true zs
  |_=>rS m k true zs
 |none=>.no
theorem ad6(P:Program)(S:St)(o:Oper)(t:TypeId)(A:o.op=.alloc t)(n:Nat)(Aq:D)(BR:TK)(Ar:zeroOf BR=some Aq)(zs:List AV)(Ai:sq P t=some zs):aG P S o (Ik S.mem (keyOf o) n Aq zs):=by
 obtain⟨BS,As⟩:=K8 Ar;unfold Ik;split
 ·rename_i key v cont A0;refine aG.rR ?_;rintro ⟨V,Bd⟩ φ G a w H;obtain⟨z,BB,Be,E,BC⟩:=oA Ai w;obtain⟨hm,T,L,A2,A3,Ae⟩:=H.mem.get A0;simp only at T A3;subst T;have Bf:∀(w:World)(F:Nat->Prop)(i:Nat) u,z.cells[i]?=some u->aO w F Aq u:=by
   intro w' F i u hu;have hi:i<zs.length:=by
    have:=(ad1.1 hu).1;omega
   have A':=BC φ w (λ_=>False) i zs[i] u (by simp[hi]) hu;rw[ad5 (ab2.1 Bd _ (aep hi))]at A';cases A' with
   |d _ _ AK=>
    obtain⟨v1,q1,_,q2⟩:=As w (λ_=>False);obtain⟨v2,q3,_,BA⟩:=As w' F;cases BR with
    |int k=>cases Ar;cases AK;exact .int k 0
    |bool=>cases Ar;cases AK;exact .bool false
    |_=>cases Ar
  obtain⟨φ',AO,AP,AZ,AJ⟩:=H.mem.fresh (e:=⟨keyOf o,v,cont⟩) hm A2 A3 w rfl rfl rfl rfl z.cells t 1 n (.vec 1 (List.replicate n Aq)) (λ_ A8=>A8.2) (λφ' hle A1 C7 BD=>by
   refine⟨rfl,by simp,λd U=>by rw[(List.mem_replicate.1 U).2];exact BS,λ_=>⟨z.cells,t,eJ.new BD,by simp[Be,V],E,λi d U=>?_⟩⟩;obtain⟨hi,rfl⟩:=abM.1 U;simp at hi;have BT:i<z.cells.size:=by omega
   have AR:=λw F=>Bf w F i z.cells[i] (by simp[BT]);have B8:=(AR w (λ_=>False)).size;rw[BS]at B8;refine⟨z.cells[i],by simp;exact AR _ _,λj c Z=>?_⟩;have Bg:j=0:=by
    have:=(ad1.1 Z).1;omega
   subst Bg;rw[dW (E _ (by simp))]at Z;simp at Z;subst Z;simp[BT])
  refine⟨.pointer (some ⟨w.heap.size,0,none⟩),_,φ',.inl ?_,?_,AO,AP,AJ⟩
  ·simp[execOp,A,Instr.alloc,newVar,ia,BB]
  ·exact .cN _ (v+1) 0 0 _ _ AZ (abO _) (λ_=>by simp) rfl
 ·trivial
theorem Tk(P:Program)(S:St)(o:Oper)(t:TypeId)(A:o.op=.alloc t):aG P S o (tt P S.mem (keyOf o) t):=by
 unfold tt;split
 ·rename_i zs Ai;split
  ·split
   ·rename_i As;exact ad6 P S o t A _ _ _ As zs Ai
   ·exact HR P S o t A zs Ai
  ·exact HR P S o t A zs Ai
 ·trivial
def su(P:Program)(m:Mem)(AB:Nat)(src dst:TypeId)(x:AV):du:=
 match x with
 | .vec k ak off len=>match tk P dst with
  | .slice e=>match decide (src=dst),tk P e,Mem.get m k with
   |true,.int .u8,some ⟨_,v,.vec sz ai⟩=>.dg (decide (v=ak/\0<len)) (.vec k ak off len) ⟨k,ak,.vec sz ai⟩
   |_,_,_=>.no
  |_=>mf P m AB src dst (.vec k ak off len)
 |x=>mf P m AB src dst x
theorem WQ(P:Program)(S:St)(o:Oper)(src dst:TypeId)(x:Operand)(A:o.op=.convert src dst x)(J:(S.aq x).1=true):aG P S o (su P S.mem (keyOf o) src dst (S.aq x).2):=by
 unfold su;split
 ·rename_i k ak off len A5;split
  ·rename_i e U;split
   ·rename_i key v sz ai BE Bh A0;refine aG.rR ?_;rintro ⟨rfl,BM⟩ φ G a w H;have BE:src=dst:=ad7 BE;subst BE;obtain⟨hm,T,L,A2,A3,Ae⟩:=H.mem.get A0;simp only at T A3;subst T;have A7:=H.aq x J;rw[A5]at A7;have Bi:=A7;generalize B1:a.eval x=C8 at A7 Bi;cases A7 with
    |vec _ _ _ _ _ L' Ag _ h Bj=>
     rw[A2]at Ag;cases Ag;obtain⟨ao,cap,rfl,BN,Ah⟩:=h A3.symm;obtain⟨rfl,BL⟩:=Ah (by omega);have BF:0<L.cap:=by omega
     obtain⟨Bk,Bl,Bm,Bn⟩:=Ae;obtain⟨arr,elem,⟨fr,hh,Bo⟩,BO,BP,BC⟩:=Bn BF;obtain⟨w',AT⟩:∃w',w'=w.freeze ⟨L.dw,arr.size,none⟩ 1:=⟨_,rfl⟩;have BD:eJ w' L.dw arr elem:=by
      obtain⟨lo,hi⟩:=fr;rw[AT];by_cases he:lo=hi
      ·refine⟨(arr.size,arr.size+1),?_,.inr (abO _)⟩;simp[World.freeze,aiW,hh,he]
      ·refine⟨(min lo arr.size,max hi (arr.size+1)),?_,?_⟩
       ·simp[World.freeze,aiW,hh,he]
       ·right;rcases Bo with h|h
        ·cases h;exact absurd rfl he
        ·simp only at h⊢;omega
     have hold:∀b,b≠L.dw->w'.heap[b]?=w.heap[b]?:=by
      intro b A8;rw[AT];simp only[World.freeze,Nat.one_ne_zero,ad0,aiW];rw[abN (λe=>A8 e.symm)]
     have C9:w'.heap.size=w.heap.size:=by rw[AT];simp[World.freeze]
     have BG:w'.os=w.os:=by rw[AT];simp[World.freeze]
     have Bp:w'.tape=w.tape:=by rw[AT];simp[World.freeze]
     have Bq:w'.output=w.output:=by rw[AT];simp[World.freeze]
     have B7:Fo G φ S.mem L.dw:=.inr ⟨_,hm,L,A2,BF,rfl⟩;obtain⟨φ',AO,AP,AZ,AJ⟩:=H.mem.dg (e:=⟨key,v,.vec sz ai⟩) (e':=⟨key,v,.vec sz ai⟩) hm A2 rfl (L':=L) (abO _) (λ_=>rfl) A3
      (w':=w') (λb _ V=>hold b (λhe=>V ⟨BF,he.symm⟩)) (by omega) (λ_ A=>.inl A) BG Bp Bq (λφ' B2 BY=>by
       have Af:∀b,Fo G φ' (Mem.set S.mem ⟨key,v,.vec sz ai⟩) b->Fo G φ S.mem b:=by
        rintro b (B6|⟨y,AC,Ao,AE,A_⟩)
        ·exact .inl B6
        ·right;rcases (Mem.mem_set H.mem.nodup).1 AC with ⟨rfl,_⟩|⟨Ap,AF⟩
         ·rw[B2]at AE;simp at AE;subst AE;exact⟨_,hm,L,A2,A_⟩
         ·simp only at AF;rw[B2]at AE;simp[AF]at AE;exact⟨y,Ap,Ao,AE,A_⟩
       exact⟨Bk,Bl,Bm,λ_=>⟨arr,elem,BD,BO,BP,λi d U=>let ⟨u,hu,Z⟩:=BC i d U
        ⟨u,hu.mono (λb _ V=>hold b (λhe=>V (he▸B7))) (by omega) (λb _=>Af b),Z⟩⟩⟩)
     refine⟨.slice (some ⟨L.dw,L.base+off*L.sz,none⟩) len cap,w',φ',.inl ?_,.vec key v off len _ L AZ (Nat.le_of_eq A3.symm) (λ_=>⟨_,_,rfl,BN,Ah⟩) Bj,AO,AP,AJ⟩;have Br:w.shape? L.dw=some (elem,arr.size):=by simp[World.shape?,hh]
     have Bs:(markStringish ⟨L.dw,L.base+off*L.sz,none⟩).run P w=.ok () w':=by
      simp only[markStringish,shape,Sem.run_bind,Sem.run,Br,Result.andThen_ok,freeze,AT]
     simp[execOp,A,B1,convert,run_underlying (fL U),run_underlying (wb Bh),Sem.run_bind,Bs]
   ·trivial
  ·rw[<-A5];exact LX P S o src dst x A J
 ·exact LX P S o src dst x A J
def Il(P:Program)(s:TypeId)(f:Nat):Option TypeId:=
 match P.underlying s with
 |some (.struct AL)=>match AL[f]? with
  |some fl=>some fl.type
  |none=>none
 |_=>none
def we(P:Program)(s:TypeId)(x:AV)(f:Nat):du:=
 match x with
 | .d (.agg cs)=>match xc P s f,Il P s f with
  |some off,some e=>match (tk P e).agg,fm P e with
   |false,some 1=>.val (off<cs.length/\tk P e≠.other) (.d (D.at cs off))
   |true,some sz=>.val (off+sz<=cs.length) (.d (.agg ((cs.drop off).take sz)))
   |_,_=>.no
  |_,_=>.no
 | .agg cs=>match xc P s f,Il P s f with
  |some off,some e=>match (tk P e).agg,fm P e,cs[off]? with
   |false,some 1,some c=>.val (tk P e≠.other) c
   |_,_,_=>.no
  |_,_=>.no
 |_=>.no
theorem Gf{P:Program}{s:TypeId}{f off:Nat}{e:TypeId}(h:xc P s f=some off)(he:Il P s f=some e):∃AL fl,P.underlying s=some (.struct AL)/\AL[f]?=some fl/\fl.offset=off/\fl.type=e:=by
 unfold xc at h;unfold Il at he;split at h
 ·rename_i AL AU;rw[AU]at he;simp only at he;split at h
  ·rename_i fl AW;rw[AW]at he;cases he;split at h
   ·split at h
    ·cases h
    ·cases h;exact⟨AL,fl,AU,AW,rfl,rfl⟩
   ·cases h
  ·cases h
 ·cases h
theorem Tm(P:Program)(S:St)(o:Oper)(s:TypeId)(x:Operand)(f:Nat)(A:o.op=.field s x f)(J:(S.aq x).1=true):aG P S o (we P s (S.aq x).2 f):=by
 unfold we;split
 ·rename_i cs A5;split
  ·rename_i off e BH BI;obtain⟨AL,fl,AU,AW,rfl,rfl⟩:=Gf BH BI;split
   ·rename_i Aj A6;refine aG.pure ?_;rintro ⟨CA,AF⟩ φ G a w H;have E:=H.aq x J;rw[A5]at E;generalize A1:a.eval x=av at E;cases E with|d _ _ E=>
    cases E with|agg _ A9 BU Bt At=>
    have Ak:fl.offset<A9.size:=by omega
    refine⟨A9[fl.offset],?_,.d _ _ (At fl.offset _ _ (jG (by omega)) (by simp[Ak]))⟩;have Y:=tg (P:=P) (w:=w) (t:=fl.type) (cs:=A9) (off:=fl.offset) Aj AF (v:=A9[fl.offset]) (by simp[Ak]);simp[execOp,A,A1,Instr.field,run_underlying AU,AW,asAgg,Y]
   ·rename_i sz Aj A6;refine aG.pure ?_;rintro hle φ G a w H;have E:=H.aq x J;rw[A5]at E;generalize A1:a.eval x=av at E;cases E with|d _ _ E=>
    have Bu:=E;cases E with|agg _ A9 BU Bt At=>
    refine⟨_,?_,.d _ _ (yE Bu fl.offset sz hle)⟩;have Y:=Gc (P:=P) (w:=w) (t:=fl.type) (cs:=A9) (off:=fl.offset) Aj A6;simp[execOp,A,A1,Instr.field,run_underlying AU,AW,asAgg,Y]
   ·trivial
  ·trivial
 ·rename_i cs A5;split
  ·rename_i off e BH BI;obtain⟨AL,fl,AU,AW,rfl,rfl⟩:=Gf BH BI;split
   ·rename_i c Aj A6 N;refine aG.pure ?_;rintro AF φ G a w H;have E:=H.aq x J;rw[A5]at E;generalize A1:a.eval x=av at E;cases E with|agg _ A9 BU CB At=>
    have Ak:fl.offset<A9.size:=by have:=(abM.1 N).1;omega
    refine⟨A9[fl.offset],?_,At fl.offset c _ N (by simp[Ak])⟩;have Y:=tg (P:=P) (w:=w) (t:=fl.type) (cs:=A9) (off:=fl.offset) Aj AF (v:=A9[fl.offset]) (by simp[Ak]);simp[execOp,A,A1,Instr.field,run_underlying AU,AW,asAgg,Y]
   ·trivial
  ·trivial
 ·trivial
def AS(P:Program)(x:AV)(asserted:TypeId)(ok:Bool):du:=
 match x with
 | .gw t d=>match decide (t=asserted),ok with
  |true,true=>.val (tk P asserted≠.other/\tk P asserted≠.iface) (.bY [.d d,.d (.bool true)])
  |true,false=>.val (tk P asserted≠.other/\tk P asserted≠.iface) (.d d)
  |_,_=>.no
 |_=>.no
theorem ad9{P:Program}{t:TypeId}(h:tk P t≠.other)(M:tk P t≠.iface):∃d,P.underlying t=some d/\∀ms,d≠.interface ms:=by
 unfold tk at h M;cases hu:P.underlying t with
 |none=>rw[hu]at h;exact absurd rfl h
 |some d=>
  refine⟨d,rfl,λms U=>?_⟩;subst U;rw[hu]at M;exact M rfl
theorem Dy{P:Program}{w:World}{t Bv asserted:TypeId}{v:Value}{ok:Bool}(h:tk P asserted≠.other)(M:tk P asserted≠.iface)(A4:t=asserted):
 (Instr.typeAssert (.iface t v) Bv asserted ok).run P w=.ok (if ok then .tuple #[v,.bool true]else v) w:=by
 obtain⟨d,U,V⟩:=ad9 h M;subst A4;simp only[Instr.typeAssert,Sem.run_bind,run_underlying U,Result.andThen_ok];cases d with
 |interface ms=>exact absurd rfl (V ms)
 |_=>simp
theorem Tn(P:Program)(S:St)(o:Oper)(x:Operand)(BJ asserted:TypeId)(ok:Bool)(A:o.op=.typeAssert x BJ asserted ok)(J:(S.aq x).1=true):aG P S o (AS P (S.aq x).2 asserted ok):=by
 unfold AS;split
 ·rename_i t d A5;split
  ·rename_i A4;have A4:t=asserted:=by simpa using A4
   refine aG.pure ?_;rintro ⟨E,M⟩ φ G a w H;have AI:=H.aq x J;rw[A5]at AI;generalize A1:a.eval x=av at AI;cases AI with|gw _ _ v U=>
   refine⟨.tuple #[v,.bool true],by simp[execOp,A,A1,Dy E M A4],.bY _ _ rfl λi c u N hu=>?_⟩;match i,N,hu with
   |0,N,hu=>simp at N hu;subst N hu;exact .d _ _ U
   |1,N,hu=>simp at N hu;subst N hu;exact .d _ _ (.bool _)
   |i+2,N,hu=>simp at N
  ·rename_i A4;have A4:t=asserted:=by simpa using A4
   refine aG.pure ?_;rintro ⟨E,M⟩ φ G a w H;have AI:=H.aq x J;rw[A5]at AI;generalize A1:a.eval x=av at AI;cases AI with|gw _ _ v U=>
   exact⟨v,by simp[execOp,A,A1,Dy E M A4],.d _ _ U⟩
  ·trivial
 ·trivial
def di(P:Program)(S:St)(o:Oper):du:=
 match o.op with
 | .move x=>ss P S.mem (keyOf o) o.type (S.aq x).2
 | .assign x=>ss P S.mem (keyOf o) o.type (S.aq x).2
 | .pick c a b=>Hu (S.aq c) (S.aq a) (S.aq b)
 | .alloc t=>tt P S.mem (keyOf o) t
 | .box _ x=>rS S.mem (keyOf o) (S.aq x).2.ly (S.aq x).2.cells
 | .load t x=>mb P S.mem t (S.aq x).2
 | .store t p x=>oS P S.mem t (S.aq p).2 (S.aq x).2
 | .fieldAddr s x f=>oD P S.mem s f (S.aq x).2
 | .nilCheck x=>iZ S.mem (S.aq x).2
 | .indexAddr t x i=>mr P S.mem t (S.aq x).2 (S.aq i).2
 | .index t x i=>pY P t (S.aq x).2 (S.aq i).2
 | .slice t x lo hi none=>kG P S.mem t (S.aq x).2 (lo.map λy=>(S.aq y).2) (hi.map λy=>(S.aq y).2)
 | .binOp op t x y _=>rf P S op t x y
 | .unOp op _ x=>H9 op (S.aq x).2
 | .convert s d x=>su P S.mem (keyOf o) s d (S.aq x).2
 | .makeInterface t x=>sr P t (S.aq x).2
 | .makeFunc f first cap=>oG f (first.toList.map λx=>(S.aq x).2) (cap.toList.map λx=>(S.aq x).2)
 | .makeSlice t l c=>xj P S.mem (keyOf o) t (S.aq l).2 (S.aq c).2
 | .build t ps=>Du P t (ps.toList.map λx=>(x.1,(S.aq x.2).2))
 | .buildSlice t len ps=>j2 P S.mem (keyOf o) t len (ps.toList.map λx=>(x.1,(S.aq x.2).2))
 | .extract x i=>tp i (S.aq x).2
 | .field s x f=>we P s (S.aq x).2 f
 | .typeAssert x _ t ok=>AS P (S.aq x).2 t ok
 | .call {callee:=.builtin b,args,argTypes}=>lA P S o b args.toList argTypes.toList
 |_=>.no
theorem Im(P:Program)(S:St)(o:Oper)(h:gn S o=true):aG P S o (di P S o):=by
 unfold gn at h;unfold di;have one:∀{l:List Operand},iB S l=true->∀x∈l,(S.aq x).1=true:=uw;split
 ·rename_i x A;simp only[A]at h;exact Ii P S o x (.inl A) (one h x (by simp[Op.operands]))
 ·rename_i x A;simp only[A]at h;exact Ii P S o x (.inr A) (one h x (by simp[Op.operands]))
 ·rename_i c a b A;exact acp P S o c a b A
 ·rename_i t A;exact Tk P S o t A
 ·rename_i t x A;simp only[A]at h;exact adI P S o t x A (one h x (by simp[Op.operands]))
 ·rename_i t x A;simp only[A]at h;exact (LH P S o t x A (one h x (by simp[Op.operands]))).res
 ·rename_i t p x A;simp only[A]at h;exact WB P S o t p x A (one h p (by simp[Op.operands])) (one h x (by simp[Op.operands]))
 ·rename_i s x f A;simp only[A]at h;exact WJ P S o s x f A (one h x (by simp[Op.operands]))
 ·rename_i x A;simp only[A]at h;exact K4 P S o x A (one h x (by simp[Op.operands]))
 ·rename_i t x i A;simp only[A]at h;exact WK P S o t x i A (one h x (by simp[Op.operands])) (one h i (by simp[Op.operands]))
 ·rename_i t x i A;simp only[A]at h;exact Ta P S o t x i A (one h x (by simp[Op.operands])) (one h i (by simp[Op.operands]))
 ·rename_i t x lo hi A;simp only[A]at h;exact WM P S o t x lo hi A (one h x (by simp[Op.operands])) (λy AC=>one h y (by simp[Op.operands,AC])) (λy AC=>one h y (by simp[Op.operands,AC]))
 ·rename_i op t x y AQ A;simp only[A]at h;exact Th P S o op t AQ x y A (one h x (by simp[Op.operands])) (one h y (by simp[Op.operands]))
 ·rename_i op t x A;simp only[A]at h;exact ai9 P S o op t x A (one h x (by simp[Op.operands]))
 ·rename_i s d x A;simp only[A]at h;exact WQ P S o s d x A (one h x (by simp[Op.operands]))
 ·rename_i t x A;simp only[A]at h;exact Ia P S o t x A (one h x (by simp[Op.operands]))
 ·rename_i f first cap A;simp only[A]at h;exact K5 P S o f first cap A (λx J=>one h x (by simp[Op.operands];left;simpa using J)) (λx J=>one h x (by simp[Op.operands];right;simpa using J))
 ·rename_i t l c A;simp only[A]at h;exact ack P S o t l c A (one h l (by simp[Op.operands])) (one h c (by simp[Op.operands]))
 ·rename_i t ps A;simp only[A]at h;exact WN P S o t ps A (λx J=>one h x.2 (by simp only[Op.operands,List.toList_toArray,ab4];exact⟨x,J,rfl⟩))
 ·rename_i t len ps A;simp only[A]at h;exact Hl P S o t len ps A (λx J=>one h x.2 (by simp only[Op.operands,List.toList_toArray,ab4];exact⟨x,J,rfl⟩))
 ·rename_i x i A;simp only[A]at h;exact PW P S o x i A (one h x (by simp[Op.operands]))
 ·rename_i s x f A;simp only[A]at h;exact Tm P S o s x f A (one h x (by simp[Op.operands]))
 ·rename_i x BJ t ok A;simp only[A]at h;exact Tn P S o x BJ t ok A (one h x (by simp[Op.operands]))
 ·rename_i b args Ab A;simp only[A]at h;have AM:∀x∈args.toList,(S.aq x).1=true:=λx J=>one h x (by simp[Op.operands,Call.operands];simpa using J);have Au:∀{l:List Operand},args.toList=l->args=l.toArray:=λh=>by rw[<-h]
  have Av:∀{l:List TypeId},Ab.toList=l->Ab=l.toArray:=λh=>by rw[<-h]
  unfold lA;split
  ·rename_i x t E M;rw[Au E,Av M]at A;exact adX P S o x t A (AM x (by simp[E]))
  ·rename_i s x t u E M;rw[Au E,Av M]at A;exact WO <| adT P S o s x t u A (AM s (by simp[E])) (AM x (by simp[E]))
  ·rename_i s x t u E M;rw[Au E,Av M]at A;exact acm P S o s x t u A (AM s (by simp[E])) (AM x (by simp[E]))
  ·exact Td P S o true args Ab (by simpa using A) AM
  ·exact Td P S o false args Ab (by simpa using A) AM
  ·rename_i x t E M;rw[Au E,Av M]at A;exact ad4 P S o x t A (AM x (by simp[E]))
  ·trivial
 ·trivial
inductive XE where
 |normal
 |exit (id:Nat)
 |ret
 |panic (t:TypeId) (x:D)
def nw(n:Nat)(φ:bN)(G:Fr)(m:Mem)(w:World)(Q:XE->St->Prop):Exit->Act->World->Prop
 | .normal,O,w'=>∃φ' I,I.n=n/\Q .normal I/\Rel φ' G I O w'/\aS φ m w φ' I.mem w'
 | .exit id,O,w'=>∃φ' I,I.n=n/\Q (.exit id) I/\Rel φ' G I O w'/\aS φ m w φ' I.mem w'
 | .ret,O,w'=>∃φ' I,I.n=n/\Q .ret I/\Rel φ' G I O w'/\aS φ m w φ' I.mem w'
 | .panic chain,O,w'=>∃φ' I t x v,chain=[{v:=.iface t v,recovered:=false}]/\aO w' (Fo G φ' I.mem) x v/\I.n=n/\Q (.panic t x) I/\Rel φ' G I O w'/\aS φ m w φ' I.mem w'
 |_,_,_=>False
theorem nw.weaken{n φ G m w Q AX BV AN e O w'}(T:aS φ m w AX BV AN)(h:nw n AX G BV AN Q e O w'):nw n φ G m w Q e O w':=by
 cases e with
 |normal=>obtain⟨φ',I,q,E,M,A'⟩:=h;exact⟨φ',I,q,E,M,T.trans A'⟩
 |exit id=>obtain⟨φ',I,q,E,M,A'⟩:=h;exact⟨φ',I,q,E,M,T.trans A'⟩
 |ret=>obtain⟨φ',I,q,E,M,A'⟩:=h;exact⟨φ',I,q,E,M,T.trans A'⟩
 |panic chain=>obtain⟨φ',I,t,x,v,N,U,q,E,M,A'⟩:=h;exact⟨φ',I,t,x,v,N,U,q,E,M,T.trans A'⟩
 |_=>exact h.elim
theorem nw.mono{n φ G m w Q Al e O w'}(AA:∀e S,Q e S->Al e S)(h:nw n φ G m w Q e O w'):nw n φ G m w Al e O w':=by
 cases e with
 |normal=>obtain⟨φ',I,q,E,M⟩:=h;exact⟨φ',I,q,AA _ _ E,M⟩
 |exit id=>obtain⟨φ',I,q,E,M⟩:=h;exact⟨φ',I,q,AA _ _ E,M⟩
 |ret=>obtain⟨φ',I,q,E,M⟩:=h;exact⟨φ',I,q,AA _ _ E,M⟩
 |panic chain=>obtain⟨φ',I,t,x,v,N,U,q,E,M⟩:=h;exact⟨φ',I,t,x,v,N,U,q,AA _ _ E,M⟩
 |_=>exact h.elim
def my(P:Program)(c:Code)(S:St)(Q:XE->St->Prop):Prop:=
 ∀φ G a w,Rel φ G S a w->c.wp P (nw S.n φ G S.mem w Q) a w
def oV(all:List Oper)(S:St)(j:Nat):Option (Bool×AV):=
 match all[j]? with
 |some o=>match o.dst with
  |some t=>Env.lk S.env t
  |none=>none
 |none=>none
def jM(n:Nat)(ops:List Oper):Bool:=ops.all λo=>match o.dst with|some t=>decide (t<n)|none=>true
theorem mg(S:St)(d g x):(S.put d g x).n=S.n:=by cases d<;>rfl
theorem ff(S:St)(d g x):(S.put d g x).mem=S.mem:=by cases d<;>rfl
theorem Dh.step{P:Program}{o:Oper}{a:Act}{w w':World}{v:Value}{next R}(h:Dh P o a w v w')(V:next (a.put o.dst v) w'):o.wp P a w next R:=by
 unfold Oper.wp;rcases h with h|⟨h,rfl⟩<;>rw[h]<;>exact V
theorem Rel.grow{φ G S a w w'}(h:Rel φ G S a w)(hold:∀b,b<w.heap.size->w'.heap[b]?=w.heap[b]?)(A6:w.heap.size<=w'.heap.size):Rel φ G S a w':=
 ⟨h.size,h.defers,λt x J=>(h.env t x J).mono (bN.le_refl _) (λb A8 _=>hold b A8) A6 (λ_ _ h=>h),h.mem.grow hold A6,h.kz.mono (λb A8 _=>hold b A8) A6 (λ_ _ h=>h)⟩
theorem WR{P:Program}{S:St}{o:Oper}{c:Bool}{x:AV}{gb:Bool}(H:aG P S o (.val c x))(N:c=true){φ G a w}(h:Rel φ G S a w)(U:∀t,o.dst=some t->t<S.n){next:Act->World->Prop}{R}
 (V:∀O w',Rel φ G (S.put o.dst gb x) O w'->aS φ S.mem w φ S.mem w'->next O w'):o.wp P a w next R:=by
 obtain⟨v,w',BK,A1,hold,A6,BG,A4,Bw⟩:=H N φ G a w h;exact BK.step (V _ _ ((h.grow hold A6).put o.dst U gb x v (λ_=>A1)) (aS.grow hold A6 BG A4 Bw))
theorem WS{P:Program}{S:St}{o:Oper}{c:Bool}{x:AV}{e:cB}(H:aG P S o (.dg c x e))(N:c=true){φ G a w}(h:Rel φ G S a w)(U:∀t,o.dst=some t->t<S.n){next:Act->World->Prop}{R}
 (V:∀φ' O w',Rel φ' G (({S with mem:=Mem.set S.mem e}:St).put o.dst true x) O w'->aS φ S.mem w φ' (Mem.set S.mem e) w'->next O w'):o.wp P a w next R:=by
 obtain⟨v,w',φ',BK,A1,hm,T,_⟩:=H N φ G a w h;exact BK.step (V φ' _ _ ((h.yX hm T).put o.dst U true x v (λ_=>A1)) T)
theorem To{all:List Oper}{S:St}{j:Nat}{b:Bool}{φ G a w}(h:Rel φ G S a w)(A0:oV all S j=some (true,.d (.bool b))):yielded all.toArray a.tmps j=some b:=by
 unfold oV at A0;split at A0
 ·rename_i o A;split at A0
  ·rename_i t A4;have:=sN (h.env t _ A0);unfold yielded;simp only[aeG,A,aeE,A4];rw[abY]at this;cases AA:a.tmps[t]? with
   |none=>simp[AA,undef]at this
   |some v=>simp[AA]at this;simp[this]
  ·cases A0
 ·cases A0
section
variable {P:Program} {S:St} {Q:XE->St->Prop}
theorem my.mono{c:Code}{Al:XE->St->Prop}(h:my P c S Q)(AA:∀e S,Q e S->Al e S):my P c S Al:=
 λφ G a w H=>wp_mono (h φ G a w H) λ_ _ _ Y=>Y.mono AA
def St.prune(S:St)(pZ:List Nat):St:={S with env:=pZ.filterMap λt=>(Env.lk S.env t).map λx=>(t,x)}
theorem tu(env:Env):∀(pZ:List Nat)(t:Nat)(x:Bool×AV),Env.lk (pZ.filterMap λt=>(Env.lk env t).map λx=>(t,x)) t=some x->Env.lk env t=some x
 |[],t,x,h=>by simp[Env.lk]at h
 |k::r,t,x,h=>by
  simp only[List.filterMap_cons]at h;cases T:Env.lk env k with
  |none=>simp[T]at h;exact tu env r t x h
  |some y=>
   simp only[T,ahj,Env.lk]at h;by_cases BW:k=t
   ·subst BW;simp at h;subst h;exact T
   ·simp[BW]at h;exact tu env r t x h
theorem Rel.prune{φ G a w}(h:Rel φ G S a w)(pZ:List Nat):Rel φ G (S.prune pZ) a w:=
 ⟨h.size,h.defers,λt x J=>h.env t x (tu _ _ _ _ J),h.mem,h.kz⟩
theorem L3{x y:Code}(h:my P x S λe I=>match e with| .normal=>my P y I Q|e=>Q e I):my P (.seq x y) S Q:=by
 intro φ G a w H;refine wp_seq (wp_mono (h φ G a w H) λe O w' Y=>?_);cases e with
 |normal=>
  obtain⟨φ',I,V,E,M,A'⟩:=Y;exact wp_mono (E φ' G O w' M) λe a2 An BX=>by rw[V]at BX;exact BX.weaken A'
 |_=>exact Y
theorem Io{c:Operand}{x y:Code}{b:Bool}(N:S.aq c=(true,.d (.bool b)))(A4:b=true->my P x S Q)(Bx:b=false->my P y S Q):my P (.cond c x y) S Q:=by
 intro φ G a w H;have A7:=H.aq c (by rw[N]);rw[N]at A7;have e:=sN A7;cases b
 ·exact wp_cond_false e (Bx rfl φ G a w H)
 ·exact wp_cond_true e (A4 rfl φ G a w H)
theorem WT(h:Q .normal S):my P .skip S Q:=λφ _ _ _ H=>wp_skip ⟨φ,S,rfl,h,H,aS.refl ..⟩
theorem acr(h:Q .ret S):my P .ret S Q:=λφ _ _ _ H=>wp_ret ⟨φ,S,rfl,h,H,aS.refl ..⟩
theorem WU{id:Nat}(h:Q (.exit id) S):my P (.exit id) S Q:=λφ _ _ _ H=>wp_exit ⟨φ,S,rfl,h,H,aS.refl ..⟩
theorem zu{id:Nat}{c:Code}(h:my P c S λe I=>match e with| .exit Aw=>if Aw=id then Q .normal I else Q (.exit Aw) I|e=>Q e I):my P (.block id c) S Q:=by
 intro φ G a w H;refine wp_block (wp_mono (h φ G a w H) λe O w' Y=>?_);cases e with
 |exit Aw=>
  obtain⟨φ',I,V,E,M,A'⟩:=Y;simp only[Exit.inBlock];by_cases hid:Aw=id
  ·simp only[hid,aes]at E⊢;exact⟨φ',I,V,E,M,A'⟩
  ·simp only[hid,ad0]at E⊢;exact⟨φ',I,V,E,M,A'⟩
 |_=>exact Y
theorem WV{c:Code}{α:Type}(AH:α->St)(Ax:α->Prop)(Ay:α->Nat)(AY:α)(By:S=AH AY)(q:Ax AY)
 (round:∀x,Ax x->my P c (AH x) λe I=>match e with| .normal=>∃Ac,I=AH Ac/\Ax Ac/\Ay Ac<Ay x|e=>Q e I):my P (.loop c) S Q:=by
 intro φ G a w H;subst By;intro b k cs;have key:∀n x AX Az AN,Ay x=n->Ax x->(AH x).n=(AH AY).n->Rel AX G (AH x) Az AN->aS φ (AH AY).mem w AX (AH x).mem AN->
  ∃e O w',nw (AH AY).n φ G (AH AY).mem w Q e O w'/\Arrives P (lone (b.at Az (.code c::.inLoop c::k)) cs AN) b k cs e O w':=by
  intro n;induction n using Nat.strongRecOn with
  |_ n ih=>
   intro x AX Az AN V Bz B' AI B0;obtain⟨e,a2,An,Y,Ad⟩:=round x Bz AX G Az AN AI b (.inLoop c::k) cs;cases e with
   |normal=>
    obtain⟨B9,CC,C',⟨Ac,rfl,C0,CD⟩,B5,C1⟩:=Y;obtain⟨C2,a3,C3,C4,C5⟩:=ih (Ay Ac) (by omega) Ac B9 a2 An rfl C0 (C'.trans B') B5 (B0.trans C1);exact⟨C2,a3,C3,C4,.of_steps (Steps.trans Ad (.one step_inLoop)) C5⟩
   |exit id=>exact⟨.exit id,a2,An,by rw[B']at Y;exact nw.weaken (e:=.exit id) B0 Y,.pass (x:=.inLoop c) rfl (λ_ _=>.inl (by simp)) Ad⟩
   |goto l=>exact Y.elim
   |ret=>exact⟨.ret,a2,An,by rw[B']at Y;exact nw.weaken (e:=.ret) B0 Y,.pass (x:=.inLoop c) rfl (λ_ _=>.inl (by simp)) Ad⟩
   |panic ch=>exact⟨.panic ch,a2,An,by rw[B']at Y;exact nw.weaken (e:=.panic ch) B0 Y,.pass (x:=.inLoop c) rfl (λ_ _=>.inl (by simp)) Ad⟩
   |outgrown=>exact Y.elim
 obtain⟨e,O,w',AA,Ad⟩:=key _ AY φ a w rfl q rfl H (aS.refl ..);exact⟨e,O,w',AA,.of_steps (.one step_loop) Ad⟩
end
inductive Out where
 |ret (x:AV)
 |panic (t:TypeId) (x:D)
def nI(φ:bN)(w:World)(F:Nat->Prop):Out->Ending->Prop
 | .ret x,.returned v=>aB φ w F x v
 | .panic t x,.panicked chain=>∃v,chain=[{v:=.iface t v,recovered:=false}]/\aO w F x v
 |_,_=>False
def Ev(P:Program)(gl:List (Nat×D))(f:FuncId)(args:List AV)(m:Mem)(K:Out->Mem->Prop):Prop:=
 ∀φ G w (vs:Array Value),bh φ G m w->eG w (Fo G φ m) gl->args.length=vs.size->(∀(i:Nat) x v,args[i]?=some x->vs[i]?=some v->aB φ w (Fo G φ m) x v)->
  Calls P f vs w λe w'=>∃φ' m' out,K out m'/\bh φ' G m' w'/\aS φ m w φ' m' w'/\nI φ' w' (Fo G φ' m') out e
theorem Ev.mono{P gl f args m K K'}(h:Ev P gl f args m K)(E:∀o m,K o m->K' o m):Ev P gl f args m K':=
 λφ G w vs hm H A2 Ac=>(h φ G w vs hm H A2 Ac).mono λ_ _ ⟨φ',m',out,M,T⟩=>⟨φ',m',out,E _ _ M,T⟩
def kj:List Nat->Nat->Nat->Option Nat
 |[],_,_=>none
 |a::r,k,i=>if a=k then some i else kj r k (i+1)
theorem xn:∀{ρ:List Nat}{k j i:Nat},kj ρ k j=some i->j<=i/\ρ[i-j]?=some k
 |[],k,j,i,h=>by simp[kj]at h
 |a::r,k,j,i,h=>by
  simp only[kj]at h;split at h
  ·rename_i E;cases h;subst E;simp
  ·obtain⟨M,T⟩:=xn h;refine⟨by omega,?_⟩;rw[show i-j=(i-(j+1))+1 by omega];simpa using T
theorem jN:∀{ρ:List Nat}{k j:Nat},kj ρ k j=none↔k∉ρ
 |[],k,j=>by simp[kj]
 |a::r,k,j=>by
  simp only[kj,abV,amr];split
  ·rename_i E;subst E;simp
  ·rename_i E;rw[jN];constructor
   ·exact λh=>⟨λAd=>E Ad.symm,h⟩
   ·exact λh=>h.2
theorem Tp{ρ:List Nat}(AB:ρ.Nodup){i k:Nat}(h:ρ[i]?=some k):kj ρ k 0=some i:=by
 cases A9:kj ρ k 0 with
 |none=>exact absurd (abU h) (jN.1 A9)
 |some j=>
  obtain⟨_,T⟩:=xn A9;simp only[Nat.sub_zero]at T;obtain⟨hi,AC⟩:=abM.1 h;obtain⟨N,AH⟩:=abM.1 T;have:=(List.getElem_inj AB).1 (AC.trans AH.symm);rw[this]
def uz:List AV->Option (List D)
 |[]=>some []
 | .d x::r=>match x.flat,uz r with
  |true,some AP=>some (x::AP)
  |_,_=>none
 |_::_=>none
theorem Gi:∀{l:List AV}{U:List D},uz l=some U->l=U.map .d/\∀d∈U,d.flat=true
 |[],U,h=>by simp[uz]at h;subst h;simp
 |x::r,U,h=>by
  unfold uz at h;split at h
  ·rename_i heq;cases heq
  ·rename_i y B5 heq;cases heq;split at h
   ·rename_i AP A9 Ae;cases h;obtain⟨M,T⟩:=Gi Ae;refine⟨by rw[M];rfl,λd Y=>?_⟩;rcases abV.1 Y with rfl|Y
    ·exact A9
    ·exact T d Y
   ·cases h
  ·cases h
def WW:Option (List D)->AV
 |some U=>.d (.list U)
 |none=>.bf
mutual
def vw(m:Mem)(ρ:List Nat)(bor:Nat->Bool)(nv:Nat->Nat->Nat):AV->AV
 | .ptr k ak off=>match Mem.get m k,kj ρ k 0 with
  |some e,some i=>if e.ak=ak then .ptr i (nv i ak) off else .bf
  |_,_=>.bf
 | .vec k ak off len=>match Mem.get m k,kj ρ k 0 with
  |some e,some i=>if e.ak=ak then .vec i (nv i ak) off len else .bf
  |some ⟨_,v,.vec _ ai⟩,none=>if bor k=true/\v=ak/\off+len<=ai.length then .d (.list ((ai.drop off).take len))else .bf
  |some ⟨_,v,.box cs⟩,none=>if bor k=true/\v=ak/\off+len<=cs.length then WW (uz ((cs.drop off).take len))else .bf
  |_,_=>.bf
 | .cN k ak i j=>match Mem.get m k,kj ρ k 0 with
  |some e,some n=>if e.ak=ak then .cN n (nv n ak) i j else .bf
  |_,_=>.bf
 | .agg cs=>.agg (ri m ρ bor nv cs)
 | .fn f cap=>.fn f (ri m ρ bor nv cap)
 | .bY vs=>.bY (ri m ρ bor nv vs)
 | .bf=>.bf
 | .d x=>.d x
 | .dM x j=>.dM x j
 | .gw t x=>.gw t x
 | .lit v=>.lit v
 | .nn=>.nn
 | .err=>.err
def ri(m:Mem)(ρ:List Nat)(bor:Nat->Bool)(nv:Nat->Nat->Nat):List AV->List AV
 |[]=>[]
 |x::r=>vw m ρ bor nv x::ri m ρ bor nv r
end
theorem sO(m ρ bor nv):∀(l:List AV)(i:Nat),(ri m ρ bor nv l)[i]?=(l[i]?).map (vw m ρ bor nv)
 |[],i=>by simp[ri]
 |x::r,i=>by cases i with|zero=>simp[ri]|succ i=>simp[ri,sO m ρ bor nv r i]
theorem lB(m ρ bor nv):∀(l:List AV),(ri m ρ bor nv l).length=l.length
 |[]=>rfl
 |x::r=>by simp[ri,lB m ρ bor nv r]
def bN.gZ(φ:bN)(ρ:List Nat)(nv:Nat->Nat->Nat):bN:=λi=>
 match ρ[i]? with
 |some k=>(φ k).map λL=>{L with ak:=nv i L.ak}
 |none=>none
def zv(φ:bN)(m:Mem)(ρ:List Nat)(b:Nat):Prop:=∃k∈ρ,∃e L,Mem.get m k=some e/\φ k=some L/\e.cont.da L b
theorem zv.own{φ m ρ b}(h:zv φ m ρ b):iw φ m b:=by
 obtain⟨k,_,e,L,H,A,A'⟩:=h;obtain⟨hm,rfl⟩:=Mem.get_mem H;exact⟨e,hm,L,A,A'⟩
theorem Dz{φ G m w}(h:bh φ G m w){ρ:List Nat}{k:Nat}{e:cB}{L:Loc}{b:Nat}(H:Mem.get m k=some e)(A:φ k=some L)(A':e.cont.da L b)(E:k∉ρ):¬zv φ m ρ b:=by
 rintro ⟨Af,AD,e',L',Ag,J,Ah⟩;obtain⟨hm,rfl⟩:=Mem.get_mem H;obtain⟨Ai,rfl⟩:=Mem.get_mem Ag;have:=h.apart e' Ai e hm L' L J A ⟨b,Ah,A'⟩;exact E (this▸AD)
section
variable {φ:bN} {G:Fr} {m:Mem} {w:World} {ρ:List Nat} {bor:Nat->Bool} {nv:Nat->Nat->Nat} {AE:Nat->Prop}
theorem Ff{k i:Nat}{L:Loc}(hi:kj ρ k 0=some i)(A:φ k=some L):φ.gZ ρ nv i=some {L with ak:=nv i L.ak}:=by
 obtain⟨_,T⟩:=xn hi;simp only[Nat.sub_zero]at T;simp[bN.gZ,T,A]
theorem aea(hm:bh φ G m w)(A1:∀b,AE b->Fo G φ m b)
 (AF:∀k e L b,Mem.get m k=some e->k∉ρ->bor k=true->φ k=some L->e.cont.da L b->¬AE b) {y v} (h:aB φ w (Fo G φ m) y v):aB (φ.gZ ρ nv) w AE (vw m ρ bor nv y) v:=by
 induction h with
 |bf v=>exact .bf v
 |d x v h=>exact .d x v (h.mono (λ_ _ _=>rfl) (abO _) (λb _=>A1 b))
 |agg cs a A2 M _ ih=>
  refine .agg _ a (by rw[lB];exact A2) M (λi c v I O=>?_);rw[sO]at I;obtain⟨y,A3,rfl⟩:=abS.1 I;exact ih i y v A3 O
 |ptr k ak off v L A O h M=>
  unfold vw;split
  ·rename_i e i H hi;split
   ·rename_i he;obtain⟨_,_,L',J,V,_⟩:=hm.get H;rw[A]at J;cases J;have A5:L.ak=ak:=by rw[V];exact he
    refine .ptr i _ off v _ (Ff hi A) (by simp[A5]) (λ_=>h A5.symm) M
   ·exact .bf _
  ·exact .bf _
 |vec k ak off len v L A O h M=>
  unfold vw;split
  ·rename_i e i H hi;split
   ·rename_i he;obtain⟨_,_,L',J,V,_⟩:=hm.get H;rw[A]at J;cases J;have A5:L.ak=ak:=by rw[V];exact he
    refine .vec i _ off len v _ (Ff hi A) (by simp[A5]) (λ_=>h A5.symm) M
   ·exact .bf _
  ·rename_i key AA sz ai H hi;split
   ·rename_i I;obtain⟨A7,rfl,hle⟩:=I;obtain⟨_,_,L',J,V,Z⟩:=hm.get H;rw[A]at J;cases J;refine .d _ _ (Cm (.vec k AA off len v L A O h M) A V Z hle A1 (λA'=>?_));exact AF k _ L _ H (jN.1 hi) A7 A ⟨A',rfl⟩
   ·exact .bf _
  ·rename_i key AA cs H hi;split
   ·rename_i I;obtain⟨A7,rfl,hle⟩:=I;obtain⟨_,_,L',J,V,Z⟩:=hm.get H;rw[A]at J;cases J;obtain⟨⟨Aj,z2,z3⟩,arr,elem,AQ,B6,Ak,Al⟩:=Z;cases An:uz ((cs.drop off).take len)with
    |none=>exact .bf _
    |some U=>
     obtain⟨AR,Ao⟩:=Gi An;obtain⟨ao,cap,rfl,B7,AS⟩:=h V.symm;have Ap:U.length=len:=by
      have:=aeK List.length AR;simp at this;omega
     refine .d _ _ ?_;by_cases AI:len=0
     ·have:U=[]:=ab8 (by omega);subst this;subst AI;refine .nil _ _ (λAB=>?_);cases cap with
      |zero=>rfl
      |succ c=>have:=(AS (by omega)).1;rw[AB]at this;cases this
     ·obtain⟨rfl,_⟩:=AS (by omega);rw[<-Ap];have AU:∀(i:Nat) d,U[i]?=some d->∃u,arr[off+i]?=some u/\aO w AE d u/\cA u=true:=by
       intro i d Y;have hi:i<U.length:=(abM.1 Y).1;have Aq:cs[off+i]?=some (.d d):=by
        have:=aeK (·[i]?) AR;simp only[abZ,adY,adK,Y]at this;rw[abT (by omega)]at this;simpa using this
       have AW:off+i<arr.size:=by omega
       have AJ:=Al (off+i) _ arr[off+i] Aq (by simp[AW]);cases AJ with
       |d _ _ AJ=>exact⟨_,by simp[AW],AJ.mono (λ_ _ _=>rfl) (abO _) (λb _=>A1 b),Ak _ (by simp)⟩
      have Ar:L.dw<w.heap.size:=AQ.lt;refine .list U _ _ cap 1 (λi=>(arr[off+i]?).getD undef) (by omega) Ar (AF k _ L _ H (jN.1 hi) A7 A rfl) (λd Y=>?_) (λi d Y=>?_) (λi j c As N=>?_)
      ·have:=Ao d Y;cases d<;>simp_all [D.flat,D.size]
      ·obtain⟨u,M,T,_⟩:=AU i d Y;simp only[M,aer];exact T
      ·obtain⟨u,M,T,AC⟩:=AU i U[i] (by simp[As]);simp only[M,aer,dW AC]at N;have At:j=0:=by
        have:=(ad1.1 N).1;simpa using this
       subst At;simp at N;subst N;rw[gz AQ,Aj,z2];simpa using M
   ·exact .bf _
  ·exact .bf _
 |cN k ak i j v L A O h M=>
  unfold vw;split
  ·rename_i e n H hi;split
   ·rename_i he;obtain⟨_,_,L',J,V,_⟩:=hm.get H;rw[A]at J;cases J;have A5:L.ak=ak:=by rw[V];exact he
    refine .cN n _ i j v _ (Ff hi A) (by simp[A5]) (λ_=>h A5.symm) M
   ·exact .bf _
  ·exact .bf _
 |dM x j b off Au A7 Av AK I=>
  exact .dM x j b off Au A7 (λh=>Av (A1 b h)) (AK.mono (λ_ _ _=>rfl) (abO _) (λb _=>A1 b)) I
 |fn f cap a A9 A2 _ ih=>
  refine .fn f _ a A9 (by rw[lB];exact A2) (λi c v I O=>?_);rw[sO]at I;obtain⟨y,A3,rfl⟩:=abS.1 I;exact ih i y v A3 O
 |r9 f cap a A2 _ ih=>
  refine .r9 f _ a (by rw[lB];exact A2) (λi c v I O=>?_);rw[sO]at I;obtain⟨y,A3,rfl⟩:=abS.1 I;exact ih i y v A3 O
 |bY vs a A2 _ ih=>
  refine .bY _ a (by rw[lB];exact A2) (λi c v I O=>?_);rw[sO]at I;obtain⟨y,A3,rfl⟩:=abS.1 I;exact ih i y v A3 O
 |gw t x v h=>exact .gw t x v (h.mono (λ_ _ _=>rfl) (abO _) (λb _=>A1 b))
 |lit v h=>exact .lit v h
 |nn a cap=>exact .nn a cap
 |err t v=>exact .err t v
end
def dB:Nat->List (Nat×ay)->Mem
 |_,[]=>[]
 |i,(v,c)::r=>⟨i,v,c⟩::dB (i+1) r
theorem p5:∀(l:List (Nat×ay))(i:Nat),(dB i l).map (·.key)=List.range' i l.length
 |[],i=>rfl
 |(v,c)::r,i=>by simp[dB,p5 r,aih]
theorem kI:∀{l:List (Nat×ay)}{i:Nat}{e:cB},e∈dB i l↔∃j v c,l[j]?=some (v,c)/\e=⟨i+j,v,c⟩
 |[],i,e=>by simp[dB]
 |(v,c)::r,i,e=>by
  simp only[dB,abV,kI (l:=r)];constructor
  ·rintro (rfl|⟨j,AA,AL,h,rfl⟩)
   ·exact⟨0,v,c,by simp,by simp⟩
   ·exact⟨j+1,AA,AL,by simpa using h,by simp;omega⟩
  ·rintro ⟨j,AA,AL,h,rfl⟩;cases j with
   |zero=>simp at h;obtain⟨rfl,rfl⟩:=h;left;simp
   |succ j=>right;exact⟨j,AA,AL,by simpa using h,by simp;omega⟩
def vj(m:Mem)(ρ:List Nat)(bor:Nat->Bool)(nv:Nat->Nat->Nat):ay->ay
 | .dead=>.dead
 | .box cs=>.box (ri m ρ bor nv cs)
 | .vec sz ai=>.vec sz ai
 | .vv ai y=>.vv ai (y.map (vw m ρ bor nv))
def vk(m:Mem)(ρ:List Nat)(bor:Nat->Bool)(nv:Nat->Nat->Nat)(i:Nat):Option cB->Nat×ay
 |some e=>(nv i e.ak,vj m ρ bor nv e.cont)
 |none=>(0,.dead)
def ef(m:Mem)(ρ:List Nat)(bor:Nat->Bool)(nv:Nat->Nat->Nat):Nat->List Nat->List (Nat×ay)
 |_,[]=>[]
 |i,k::r=>vk m ρ bor nv i (Mem.get m k)::ef m ρ bor nv (i+1) r
theorem xo(m ρ bor nv):∀(l:List Nat)(i j:Nat),(ef m ρ bor nv i l)[j]?=(l[j]?).map λk=>vk m ρ bor nv (i+j) (Mem.get m k)
 |[],i,j=>by simp[ef]
 |k::r,i,j=>by
  cases j with
  |zero=>simp[ef]
  |succ j=>simp[ef,xo m ρ bor nv r (i+1) j,adN,Nat.add_comm 1 j]
theorem qD(m ρ bor nv):∀(l:List Nat)(i:Nat),(ef m ρ bor nv i l).length=l.length
 |[],i=>rfl
 |k::r,i=>by simp[ef,qD m ρ bor nv r]
theorem uA{m ρ bor nv L c b}:(vj m ρ bor nv c).da L b↔c.da L b:=by cases c<;>exact Iff.rfl
theorem j3{L:Loc}{c:ay}{v b:Nat}:c.da {L with ak:=v} b↔c.da L b:=by cases c<;>exact Iff.rfl
section
variable {φ:bN} {G G1:Fr} {m:Mem} {w:World} {ρ:List Nat} {bor:Nat->Bool} {nv:Nat->Nat->Nat}
theorem wg(AG:∀k∈ρ,(Mem.get m k).isSome=true)(b:Nat):iw (φ.gZ ρ nv) (dB 0 (ef m ρ bor nv 0 ρ)) b↔zv φ m ρ b:=by
 constructor
 ·rintro ⟨e,he,L,A,A'⟩;obtain⟨j,v,c,N,rfl⟩:=kI.1 he;rw[xo]at N;obtain⟨k,E,A8⟩:=abS.1 N;simp only[aeF,bN.gZ,E,abS]at A;obtain⟨A0,A6,rfl⟩:=A;have AX:=abU E;have:=AG k AX;obtain⟨q,A4⟩:=ami.1 this;rw[A4]at A8;simp only[vk,adL]at A8;obtain⟨rfl,rfl⟩:=A8;exact⟨k,AX,q,A0,A4,A6,j3.1 (uA.1 A')⟩
 ·rintro ⟨k,E,e,L,H,A,A'⟩;obtain⟨j,N,rfl⟩:=ani.1 E;refine⟨⟨0+j,nv j e.ak,vj m ρ bor nv e.cont⟩,kI.2 ⟨j,_,_,?_,rfl⟩,{L with ak:=nv j L.ak},?_,uA.2 (j3.2 A')⟩
  ·rw[xo];simp[N,H,vk]
  ·simp[bN.gZ,N,A]
theorem AT(hm:bh φ G m w)(AB:ρ.Nodup)(AG:∀k∈ρ,(Mem.get m k).isSome=true)(AY:∀b,G1 b->Fo G φ m b)(Aw:∀b,zv φ m ρ b->¬G1 b)
 (AF:∀k e L b,Mem.get m k=some e->k∉ρ->bor k=true->φ k=some L->e.cont.da L b->¬G1 b):
 bh (φ.gZ ρ nv) G1 (dB 0 (ef m ρ bor nv 0 ρ)) w/\(∀y v,aB φ w (Fo G φ m) y v->aB (φ.gZ ρ nv) w (Fo G1 (φ.gZ ρ nv) (dB 0 (ef m ρ bor nv 0 ρ))) (vw m ρ bor nv y) v)/\
  (∀b,Fo G1 (φ.gZ ρ nv) (dB 0 (ef m ρ bor nv 0 ρ)) b->Fo G φ m b):=by
 have AM:=wg (φ:=φ) (nv:=nv) (bor:=bor) AG;have A1:∀b,Fo G1 (φ.gZ ρ nv) (dB 0 (ef m ρ bor nv 0 ρ)) b->Fo G φ m b:=by
  rintro b (h|h)
  ·exact AY b h
  ·exact .inr ((AM b).1 h).own
 have A7:∀k e L b,Mem.get m k=some e->k∉ρ->bor k=true->φ k=some L->e.cont.da L b->¬Fo G1 (φ.gZ ρ nv) (dB 0 (ef m ρ bor nv 0 ρ)) b:=by
  rintro k e L b H E Ax A A' (h|h)
  ·exact AF k e L b H E Ax A A' h
  ·exact Dz hm H A A' E ((AM _).1 h)
 have AN:∀y v,aB φ w (Fo G φ m) y v->aB (φ.gZ ρ nv) w (Fo G1 (φ.gZ ρ nv) (dB 0 (ef m ρ bor nv 0 ρ))) (vw m ρ bor nv y) v:=λy v h=>aea hm A1 A7 h;have Y:∀x v,aO w (Fo G φ m) x v->aO w (Fo G1 (φ.gZ ρ nv) (dB 0 (ef m ρ bor nv 0 ρ))) x v:=λx v h=>h.mono (λ_ _ _=>rfl) (abO _) (λb _=>A1 b);have part:∀{e:cB},e∈dB 0 (ef m ρ bor nv 0 ρ)->∃j k q A0,ρ[j]?=some k/\Mem.get m k=some q/\φ k=some A0/\A0.ak=q.ak/\dX φ w (Fo G φ m) A0 q.cont/\e=⟨j,nv j q.ak,vj m ρ bor nv q.cont⟩:=by
  intro e he;obtain⟨j,v,c,N,rfl⟩:=kI.1 he;rw[xo]at N;obtain⟨k,E,A8⟩:=abS.1 N;obtain⟨q,A4⟩:=ami.1 (AG k (abU E));rw[A4]at A8;simp only[vk,adL,aeF]at A8;obtain⟨rfl,rfl⟩:=A8;obtain⟨_,_,A0,A6,V,Z⟩:=hm.get A4;exact⟨j,k,q,A0,E,A4,A6,V,Z,by simp⟩
 refine⟨⟨?_,?_,?_,?_,?_,?_⟩,AN,A1⟩
 ·rw[p5];exact List.nodup_range'
 ·intro i L A;rw[p5,qD];simp only[bN.gZ]at A;split at A
  ·rename_i k E;have:=(abM.1 E).1;simp[List.mem_range'];omega
  ·cases A
 ·intro e he;obtain⟨j,k,q,A0,E,A4,A6,V,Z,rfl⟩:=part he;refine⟨{A0 with ak:=nv j A0.ak},by simp[bN.gZ,E,A6],by simp[V],?_⟩;cases I:q.cont with
  |dead=>trivial
  |box cs=>
   rw[I]at Z;obtain⟨g0,arr,elem,g1,g2,g3,g4⟩:=Z;refine⟨by simpa [lB]using g0,arr,elem,g1,by simp[lB,g2],g3,λi c v AZ O=>?_⟩;rw[sO]at AZ;obtain⟨y,A3,rfl⟩:=abS.1 AZ;exact AN y v (g4 i y v A3 O)
  |vec sz ai=>
   rw[I]at Z;obtain⟨g1,g2,g3,g4⟩:=Z;refine⟨g1,g2,g3,λAI=>?_⟩;obtain⟨arr,elem,f1,f2,f3,f4⟩:=g4 AI;exact⟨arr,elem,f1,f2,f3,λi d Ay=>let ⟨v,O,N⟩:=f4 i d Ay;⟨v,Y _ _ O,N⟩⟩
  |vv ai y=>
   rw[I]at Z;exact (kr.mono (vw m ρ bor nv) Z (λ_ _ _ _ u hu=>Y _ u hu) (λx _ v AK=>AN x v AK) (λ_ _=>rfl)).ak _
 ·intro e he e' Az L L' A J B';obtain⟨j,k,q,A0,E,A4,A6,V,Z,rfl⟩:=part he;obtain⟨B8,Af,B0,B1,AD,B2,A_,B9,BA,rfl⟩:=part Az;simp only[bN.gZ,E,A6,AD,A_,ahj,abX]at A J;subst A;subst J;obtain⟨B3,Aa⟩:=Mem.get_mem A4;obtain⟨B4,Ab⟩:=Mem.get_mem B2;have:=hm.apart q B3 B0 B4 A0 B1 (by rw[Aa];exact A6) (by rw[Ab];exact A_) (B'.imp λb h=>⟨j3.1 (uA.1 h.1),j3.1 (uA.1 h.2)⟩);rw[Aa,Ab]at this;obtain⟨hi,AC⟩:=abM.1 E;obtain⟨N,AH⟩:=abM.1 AD;exact (List.getElem_inj AB).1 (AC.trans (this.trans AH.symm))
 ·exact λb AO=>Aw b ((AM b).1 AO)
 ·exact λb AO=>Ch hm b (AY b AO)
end
mutual
def ie:D->Bool
 | .list (_::_)=>false
 | .list []=>true
 | .agg cs=>jH cs
 | .int _ _=>true
 | .bool _=>true
 | .str _=>true
 | .yA=>true
def jH:List D->Bool
 |[]=>true
 |x::r=>ie x&&jH r
end
theorem qE:∀{l:List D},jH l=true->∀x∈l,ie x=true
 |[],_,x,N=>by simp at N
 |y::r,h,x,N=>by
  simp only[jH,Ds]at h;rcases abV.1 N with rfl|N
  ·exact h.1
  ·exact qE h.2 x N
theorem aO.plain{w w':World}{F F':Nat->Prop}{d v}(h:aO w F d v)(T:ie d=true):aO w' F' d v:=by
 induction h with
 |int k n=>exact .int k n
 |bool b=>exact .bool b
 |yA v h=>exact .yA v h
 |str b s h=>exact .str b s h
 |agg cs a A7 AZ _ ih=>
  refine .agg cs a A7 AZ (λi d v O V=>ih i d v O V (qE (by simpa only[ie]using T) d (abU O)))
 |nil a cap A8=>exact .nil a cap A8
 |list xs b off cap sz vs BP A3 BQ BR V M _=>
  cases xs with
  |nil=>exact .nil _ _ (by simp)
  |cons=>simp[ie]at T
mutual
def dI:AV->Bool
 | .d x=>ie x
 | .dM _ _=>false
 | .agg cs=>j4 cs
 | .fn _ cap=>j4 cap
 | .bY vs=>j4 vs
 | .gw _ x=>ie x
 | .bf=>true
 | .ptr _ _ _=>true
 | .vec _ _ _ _=>true
 | .cN _ _ _ _=>true
 | .lit _=>true
 | .nn=>true
 | .err=>true
def j4:List AV->Bool
 |[]=>true
 |x::r=>dI x&&j4 r
end
theorem kJ:∀{l:List AV},j4 l=true->∀x∈l,dI x=true
 |[],_,x,N=>by simp at N
 |y::r,h,x,N=>by
  simp only[j4,Ds]at h;rcases abV.1 N with rfl|N
  ·exact h.1
  ·exact kJ h.2 x N
def lP:ay->Bool
 | .dead=>true
 | .box cs=>j4 cs
 | .vec _ ai=>jH ai
 | .vv ai y=>ai.all jH&&(match y with|none=>true|some x=>dI x)
mutual
def up(ρ A:List Nat):AV->AV
 | .ptr k ak off=>.ptr (ρ.getD k 0) (A.getD k 0+ak) off
 | .vec k ak off len=>.vec (ρ.getD k 0) (A.getD k 0+ak) off len
 | .cN k ak i j=>.cN (ρ.getD k 0) (A.getD k 0+ak) i j
 | .agg cs=>.agg (uB ρ A cs)
 | .fn f cap=>.fn f (uB ρ A cap)
 | .bY vs=>.bY (uB ρ A vs)
 | .bf=>.bf
 | .d x=>.d x
 | .dM x j=>.dM x j
 | .gw t x=>.gw t x
 | .lit v=>.lit v
 | .nn=>.nn
 | .err=>.err
def uB(ρ A:List Nat):List AV->List AV
 |[]=>[]
 |x::r=>up ρ A x::uB ρ A r
end
theorem sP(ρ A):∀(l:List AV)(i:Nat),(uB ρ A l)[i]?=(l[i]?).map (up ρ A)
 |[],i=>by simp[uB]
 |x::r,i=>by cases i with|zero=>simp[uB]|succ i=>simp[uB,sP ρ A r i]
theorem lC(ρ A):∀(l:List AV),(uB ρ A l).length=l.length
 |[]=>rfl
 |x::r=>by simp[uB,lC ρ A r]
def DB(ρ A:List Nat):ay->ay
 | .dead=>.dead
 | .box cs=>.box (uB ρ A cs)
 | .vec sz ai=>.vec sz ai
 | .vv ai y=>.vv ai (y.map (up ρ A))
def iC(ρ A:List Nat):Nat->List (Nat×ay)->List cB
 |_,[]=>[]
 |i,(v,c)::r=>⟨ρ.getD i 0,A.getD i 0+v,DB ρ A c⟩::iC ρ A (i+1) r
theorem uC{ρ A:List Nat}:∀{l:List (Nat×ay)}{i:Nat}{e:cB},e∈iC ρ A i l↔∃j v c,l[j]?=some (v,c)/\e=⟨ρ.getD (i+j) 0,A.getD (i+j) 0+v,DB ρ A c⟩
 |[],i,e=>by simp[iC]
 |(v,c)::r,i,e=>by
  simp only[iC,abV,uC (l:=r)];constructor
  ·rintro (rfl|⟨j,AI,AJ,h,rfl⟩)
   ·exact⟨0,v,c,by simp,by simp⟩
   ·exact⟨j+1,AI,AJ,by simpa using h,by rw[show i+(j+1)=i+1+j by omega]⟩
  ·rintro ⟨j,AI,AJ,h,rfl⟩;cases j with
   |zero=>simp at h;obtain⟨rfl,rfl⟩:=h;left;simp
   |succ j=>right;exact⟨j,AI,AJ,by simpa using h,by rw[show i+(j+1)=i+1+j by omega]⟩
theorem DC{ρ A:List Nat}:∀(l:List (Nat×ay))(i:Nat),(iC ρ A i l).map (·.key)=(List.range' i l.length).map λj=>ρ.getD j 0
 |[],i=>rfl
 |(v,c)::r,i=>by simp[iC,DC r,aih]
def bB(m:Mem):List cB->Mem
 |[]=>m
 |e::r=>bB (Mem.set m e) r
theorem j5:∀(es:List cB)(m:Mem),(bB m es).map (·.key)=m.map (·.key)
 |[],m=>rfl
 |e::r,m=>by rw[bB,j5 r,Mem.gx]
theorem DD:∀(es:List cB)(m:Mem),(m.map (·.key)).Nodup->(es.map (·.key)).Nodup->(∀e∈es,e.key∈m.map (·.key))->∀e,e∈bB m es↔e∈es\/(e∈m/\e.key∉es.map (·.key))
 |[],m,_,_,_,e=>by simp[bB]
 |x::r,m,hm,A8,A0,e=>by
  simp only[aeC,List.nodup_cons]at A8;rw[bB,DD r (Mem.set m x) (by rw[Mem.gx];exact hm) A8.2 (λe he=>by rw[Mem.gx];exact A0 e (by simp[he])),Mem.mem_set hm];have N:=A0 x (by simp);constructor
  ·rintro (h|⟨⟨rfl,_⟩|⟨h,U⟩,AL⟩)
   ·left;simp[h]
   ·left;simp
   ·right;exact⟨h,by simp only[aeC,abV,amr];exact⟨U,AL⟩⟩
  ·rintro (h|⟨h,AL⟩)
   ·rcases abV.1 h with rfl|h
    ·right;exact⟨.inl ⟨rfl,N⟩,A8.1⟩
    ·left;exact h
   ·simp only[aeC,abV,amr]at AL;right;exact⟨.inr ⟨h,AL.1⟩,AL.2⟩
def base(m:Mem)(d:Nat):List Nat->List Nat
 |[]=>[]
 |k::r=>(match Mem.get m k with|some e=>e.ak+d|none=>0)::base m d r
theorem Cn(m:Mem)(d:Nat):∀(l:List Nat)(i:Nat),(base m d l)[i]?=(l[i]?).map λk=>match Mem.get m k with|some e=>e.ak+d|none=>0
 |[],i=>by simp[base]
 |k::r,i=>by cases i with|zero=>simp[base]|succ i=>simp[base,Cn m d r i]
theorem qF(m:Mem)(d:Nat):∀(l:List Nat),(base m d l).length=l.length
 |[]=>rfl
 |k::r=>by simp[base,qF m d r]
def gO:Nat->Nat->Nat:=λ_ _=>0
def lD(φ:bN)(G:Fr)(m:Mem)(ρ B:List Nat):Fr:=⟨λb=>Fo G φ m b/\¬zv φ m ρ b/\¬zv φ m B b,[]⟩
section
variable {φ:bN} {G:Fr} {m:Mem} {w:World} {ρ B:List Nat}
theorem Gj(hm:bh φ G m w)(A8:ρ.Nodup)(AR:∀k∈ρ,(Mem.get m k).isSome=true):
 bh (φ.gZ ρ gO) (lD φ G m ρ B) (dB 0 (ef m ρ (λk=>B.contains k) gO 0 ρ)) w/\
  (∀y v,aB φ w (Fo G φ m) y v->aB (φ.gZ ρ gO) w (Fo (lD φ G m ρ B) (φ.gZ ρ gO) (dB 0 (ef m ρ (λk=>B.contains k) gO 0 ρ))) (vw m ρ (λk=>B.contains k) gO y) v)/\
  (∀b,Fo (lD φ G m ρ B) (φ.gZ ρ gO) (dB 0 (ef m ρ (λk=>B.contains k) gO 0 ρ)) b->Fo G φ m b):=
 AT hm A8 AR (λb h=>h.1) (λb h A_=>A_.2.1 h) (λk e L b B6 _ A3 E I A_=>A_.2.2 ⟨k,by simpa using A3,e,L,B6,E,I⟩)
theorem aB.upR{φ φ':bN}{ρ A:List Nat}{w F F' x v}(h:aB φ w F x v)(Aa:∀i L,φ i=some L->φ' (ρ.getD i 0)=some {L with ak:=A.getD i 0+L.ak})
 (O:(∀b,F' b->F b)\/dI x=true):aB φ' w F' (up ρ A x) v:=by
 have Ak:∀{d v},aO w F d v->((∀b,F' b->F b)\/ie d=true)->aO w F' d v:=λh O=>by
  rcases O with O|O
  ·exact h.mono (λ_ _ _=>rfl) (abO _) (λb _=>O b)
  ·exact h.plain O
 induction h with
 |bf v=>exact .bf v
 |d x v h=>exact .d x v (Ak h (O.imp id (by simp[dI])))
 |agg cs a A7 A1 _ ih=>
  refine .agg _ a (by rw[lC];exact A7) A1 (λi c v M V=>?_);rw[sP]at M;obtain⟨y,A4,rfl⟩:=abS.1 M;exact ih i y v A4 V (O.imp id λT=>kJ (by simpa only[dI]using T) y (abU A4))
 |ptr k ak off v L E V h A1=>exact .ptr _ _ off v _ (Aa k L E) (by simp only;omega) (λhe=>h (by simp only at he;omega)) A1
 |vec k ak off len v L E V h A1=>exact .vec _ _ off len v _ (Aa k L E) (by simp only;omega) (λhe=>h (by simp only at he;omega)) A1
 |cN k ak i j v L E V h A1=>exact .cN _ _ i j v _ (Aa k L E) (by simp only;omega) (λhe=>h (by simp only at he;omega)) A1
 |dM x j b off B7 A3 B8 N M=>
  rcases O with O|O
  ·exact .dM x j b off B7 A3 (λh=>B8 (O b h)) (N.mono (λ_ _ _=>rfl) (abO _) (λb _=>O b)) M
  ·simp[dI]at O
 |fn f cap a AZ A7 _ ih=>
  refine .fn f _ a AZ (by rw[lC];exact A7) (λi c v M V=>?_);rw[sP]at M;obtain⟨y,A4,rfl⟩:=abS.1 M;exact ih i y v A4 V (O.imp id λT=>kJ (by simpa only[dI]using T) y (abU A4))
 |r9 f cap a A7 _ ih=>
  refine .r9 f _ a (by rw[lC];exact A7) (λi c v M V=>?_);rw[sP]at M;obtain⟨y,A4,rfl⟩:=abS.1 M;exact ih i y v A4 V (O.imp id λT=>kJ (by simpa only[dI]using T) y (abU A4))
 |bY vs a A7 _ ih=>
  refine .bY _ a (by rw[lC];exact A7) (λi c v M V=>?_);rw[sP]at M;obtain⟨y,A4,rfl⟩:=abS.1 M;exact ih i y v A4 V (O.imp id λT=>kJ (by simpa only[dI]using T) y (abU A4))
 |gw t x v h=>exact .gw t x v (Ak h (O.imp id (by simp[dI])))
 |lit v h=>exact .lit v h
 |nn a cap=>exact .nn a cap
 |err t v=>exact .err t v
theorem p7{ρ A L c b}:(DB ρ A c).da L b↔c.da L b:=by cases c<;>exact Iff.rfl
theorem Gk(h:bh φ G m w)(A8:ρ.Nodup)(AR:∀k∈ρ,(Mem.get m k).isSome=true){fr:List Nat}(B9:fr.Nodup)(Al:∀k∈fr,(Mem.get m k).isSome=true/\k∉ρ)
 {q:bN} {J:List (Nat×ay)} {A5:World} (AS:bh q (lD φ G m ρ B) (dB 0 J) A5)
 (A0:aS (φ.gZ ρ gO) (dB 0 (ef m ρ (λk=>B.contains k) gO 0 ρ)) w q (dB 0 J) A5) (BA:J.length=ρ.length+fr.length)
 (BB:B=[]\/∀e∈J,lP e.2=true):
 ∃φ':bN,bh φ' G (bB m (iC (ρ++fr) (base m 0 ρ++base m 1 fr) 0 J)) A5/\aS φ m w φ' (bB m (iC (ρ++fr) (base m 0 ρ++base m 1 fr) 0 J)) A5/\
  ∀x v,(B=[]\/dI x=true)->aB q A5 (Fo (lD φ G m ρ B) q (dB 0 J)) x v->
   aB φ' A5 (Fo G φ' (bB m (iC (ρ++fr) (base m 0 ρ++base m 1 fr) 0 J))) (up (ρ++fr) (base m 0 ρ++base m 1 fr) x) v:=by
 obtain⟨H,AF⟩:∃H,H=ρ++fr:=⟨_,rfl⟩;obtain⟨A,Ab⟩:∃A,A=base m 0 ρ++base m 1 fr:=⟨_,rfl⟩;rw[<-AF,<-Ab];have An:H.Nodup:=by
  rw[AF,List.nodup_append];exact⟨A8,B9,λa BC b A3 BD=>(Al b A3).2 (BD▸BC)⟩
 have BE:J.length=H.length:=by rw[AF,acg];exact BA
 have Ao:∀k∈H,(Mem.get m k).isSome=true:=λk Y=>by
  rw[AF]at Y;rcases ab3.1 Y with A1|A1
  ·exact AR k A1
  ·exact (Al k A1).1
 have Ap:∀k∈H,k∈m.map (·.key):=λk Y=>by
  obtain⟨e,he⟩:=ami.1 (Ao k Y);obtain⟨hm,rfl⟩:=Mem.get_mem he;exact ab7 hm
 obtain⟨φ',Aq⟩:∃φ':bN,φ'=λk=>match kj H k 0 with|some i=>(q i).map (λL=>{L with ak:=A.getD i 0+L.ak})|none=>φ k:=⟨_,rfl⟩
 have BF:∀{i},i<H.length->H[i]?=some (H.getD i 0):=λhi=>by simp[hi]
 have BG:∀{i},i<H.length->φ' (H.getD i 0)=(q i).map (λL=>{L with ak:=A.getD i 0+L.ak}):=λhi=>by
  simp only[Aq,Tp An (BF hi)]
 have A9:∀{k},k∉H->φ' k=φ k:=λY=>by simp only[Aq,jN.2 Y]
 have BH:∀{i L},q i=some L->i<H.length:=λE=>by
  have:=AS.pE _ _ E;rw[p5]at this;simp[List.mem_range']at this;omega
 have A6:∀i L,q i=some L->φ' (H.getD i 0)=some {L with ak:=A.getD i 0+L.ak}:=λi L E=>by
  rw[BG (BH E),E];rfl
 --BI entries behind
 have AA:=DD (iC H A 0 J) m h.nodup;have Ar:(iC H A 0 J).map (·.key)=H:=by
  rw[DC,BE];apply List.ext_getElem?;intro i;by_cases hi:i<H.length
  ·simp[hi]
  ·rw[afa (by simp;omega),afa (by omega)]
 rw[Ar]at AA;replace AA:=AA An (λe he=>Ap e.key (by rw[<-Ar];exact ab7 he));have AK:∀{e},e∈iC H A 0 J->∃j v c L,j<H.length/\J[j]?=some (v,c)/\e=⟨H.getD j 0,A.getD j 0+v,DB H A c⟩/\q j=some L/\L.ak=v/\dX q A5 (Fo (lD φ G m ρ B) q (dB 0 J)) L c:=by
  intro e he;obtain⟨j,v,c,Z,rfl⟩:=uC.1 he;have AM:=(abM.1 Z).1;obtain⟨L,E,AB,M⟩:=AS.fY ⟨0+j,v,c⟩ (kI.2 ⟨j,v,c,Z,rfl⟩);simp only[aeF]at E⊢;exact⟨j,v,c,L,by omega,Z,rfl,E,AB,M⟩
 have AN:=wg (φ:=φ) (nv:=gO) (bor:=λk=>B.contains k) AR;have Ac:∀b,iw φ' (bB m (iC H A 0 J)) b↔iw q (dB 0 J) b\/∃e∈m,e.key∉H/\∃L,φ e.key=some L/\e.cont.da L b:=by
  intro b;constructor
  ·rintro ⟨e,he,L,E,I⟩;rcases (AA e).1 he with he|⟨he,U⟩
   ·obtain⟨j,v,c,A',AM,Z,rfl,A2,AB,M⟩:=AK he;left;simp only[A6 j A' A2,abX]at E;subst E;exact⟨⟨0+j,v,c⟩,kI.2 ⟨j,v,c,Z,rfl⟩,A',by simpa using A2,j3.1 (p7.1 I)⟩
   ·right;exact⟨e,he,U,L,by rw[<-A9 U];exact E,I⟩
  ·rintro (⟨BS,AO,L,E,I⟩|⟨e,he,U,L,E,I⟩)
   ·obtain⟨j,v,c,Z,rfl⟩:=kI.1 AO;simp only[aeF]at E;exact⟨⟨H.getD j 0,A.getD j 0+v,DB H A c⟩,(AA _).2 (.inl (uC.2 ⟨j,v,c,Z,by simp⟩)),_,A6 j L E,p7.2 (j3.2 I)⟩
   ·exact⟨e,(AA _).2 (.inr ⟨he,U⟩),L,by rw[A9 U];exact E,I⟩
 have Ad:∀{k},k∉H->k∉ρ:=λY A1=>Y (by rw[AF];exact amf _ A1)
 --BT entry beside shares no block with BI BU
 have Ae:∀e∈m,e.key∉ρ->∀L b,φ e.key=some L->e.cont.da L b->¬zv φ m ρ b:=λe he U L b E I=>
  Dz h (Mem.get_of_mem h.nodup he) E I U
 have hle:φ.le φ':=by
  intro k L E;by_cases Y:k∈H
  ·obtain⟨i,hi,rfl⟩:=ani.1 Y;have As:H.getD i 0=H[i]:=by simp[hi]
   obtain⟨e,he⟩:=ami.1 (Ao _ Y);obtain⟨_,_,BV,At,AB,_⟩:=h.get he;rw[E]at At;cases At;by_cases Au:i<ρ.length
   ·have AU:ρ[i]?=some H[i]:=by simp only[AF];rw[List.getElem_append_left Au];simp
    have Av:A.getD i 0=L.ak:=by
     rw[Ab,ag4,abW (by rw[qF];exact Au),Cn,AU];simp[he,AB]
    obtain⟨L',AC,BW,BJ⟩:=A0.le i {L with ak:=0} (by simp[bN.gZ,AU,E,gO]);refine⟨{L' with ak:=A.getD i 0+L'.ak},by rw[<-As];exact A6 i L' AC,by simp only;omega,λAO=>?_⟩;simp only at AO;have AP:=BJ (by simp only;omega);have g1:=aeK Loc.ak AP;have g2:=aeK Loc.dw AP;have g3:=aeK Loc.sz AP;have g4:=aeK Loc.cap AP;have g5:=aeK Loc.base AP;simp only at g1 g2 g3 g4 g5⊢;rw[g1,g2,g3,g4,g5,Av,agR]
   ·have BK:i<J.length:=by omega
    obtain⟨L',AD,_,_⟩:=AS.fY ⟨0+i,J[i].1,J[i].2⟩ (kI.2 ⟨i,_,_,by simp[BK],rfl⟩);simp only[aeF]at AD;have AU:fr[i-ρ.length]?=some H[i]:=by
     simp only[AF]at hi⊢;rw[List.getElem_append_right (by omega)];simp
    have Av:A.getD i 0=L.ak+1:=by
     rw[Ab,ag4,ab1 (by rw[qF];omega),qF,Cn,AU];simp[he,AB]
    refine⟨{L' with ak:=A.getD i 0+L'.ak},by rw[<-As];exact A6 i L' AD,by simp only;omega,λAO=>?_⟩;simp only at AO;omega
  ·exact⟨L,by rw[A9 Y];exact E,abO _,λ_=>rfl⟩
 have Aw:∀b,b<w.heap.size->iw φ' (bB m (iC H A 0 J)) b->iw φ m b:=by
  intro b A3 Af;rcases (Ac b).1 Af with AC|⟨e,he,_,L,E,I⟩
  ·exact ((AN b).1 (A0.own b A3 AC)).own
  ·exact⟨e,he,L,E,I⟩
 have hold:∀b,b<w.heap.size->¬iw φ m b->A5.heap[b]?=w.heap[b]?:=λb A3 Ag=>A0.yW b A3 (λI=>Ag ((AN b).1 I).own);have Ax:B=[]->∀b,Fo G φ' (bB m (iC H A 0 J)) b->Fo (lD φ G m ρ B) q (dB 0 J) b:=by
  rintro rfl b (AE|I)
  ·refine .inl ⟨.inl AE,λI=>h.ku b I.own AE,?_⟩;rintro ⟨k,Y,_⟩;simp at Y
  ·rcases (Ac b).1 I with AC|⟨e,he,U,L,E,Ay⟩
   ·exact .inr AC
   ·refine .inl ⟨.inr ⟨e,he,L,E,Ay⟩,Ae e he (Ad U) L b E Ay,?_⟩;rintro ⟨k,Y,_⟩;simp at Y
 have Ah:∀x v,(B=[]\/dI x=true)->aB q A5 (Fo (lD φ G m ρ B) q (dB 0 J)) x v->aB φ' A5 (Fo G φ' (bB m (iC H A 0 J))) (up H A x) v:=
  λx v N AW=>AW.upR A6 (N.imp Ax id)
 have Az:∀d v,(B=[]\/ie d=true)->aO A5 (Fo (lD φ G m ρ B) q (dB 0 J)) d v->aO A5 (Fo G φ' (bB m (iC H A 0 J))) d v:=λd v N AW=>by
  rcases N with N|N
  ·exact AW.mono (λ_ _ _=>rfl) (abO _) (λb _=>Ax N b)
  ·exact AW.plain N
 refine⟨φ',⟨?_,?_,?_,?_,?_,?_⟩,⟨hle,hold,Aw,A0.size,A0.os,A0.tape,A0.output⟩,Ah⟩
 ·rw[j5];exact h.nodup
 ·intro k L E;rw[j5];by_cases Y:k∈H
  ·exact Ap k Y
  ·rw[A9 Y]at E;exact h.pE k L E
 ·intro e he;rcases (AA e).1 he with he|⟨he,U⟩
  ·obtain⟨j,v,c,A',AM,Z,rfl,A2,AB,M⟩:=AK he;refine⟨_,A6 j A' A2,by simp[AB],?_⟩;have AX:B=[]\/lP c=true:=BB.imp id λT=>T (v,c) (abU Z);cases c with
   |dead=>trivial
   |box cs=>
    obtain⟨g0,arr,elem,g1,g2,g3,g4⟩:=M;refine⟨by simpa [lC]using g0,arr,elem,g1,by simp[lC,g2],g3,λi c v B' V=>?_⟩;rw[sP]at B';obtain⟨y,A4,rfl⟩:=abS.1 B';exact Ah y v (AX.imp id λT=>kJ (by simpa only[lP]using T) y (abU A4)) (g4 i y v A4 V)
   |vec sz ai=>
    obtain⟨g1,g2,g3,g4⟩:=M;refine⟨g1,g2,g3,λBL=>?_⟩;obtain⟨arr,elem,f1,f2,f3,f4⟩:=g4 BL;exact⟨arr,elem,f1,f2,f3,λi d B0=>let ⟨v,V,Z⟩:=f4 i d B0;⟨v,Az d v (AX.imp id λT=>qE (by simpa only[lP]using T) d (abU B0)) V,Z⟩⟩
   |vv ai y=>
    refine (kr.mono (up H A) M (λxs BM d O u hu=>Az d u (AX.imp id λT=>?_) hu) (λx N v V=>Ah x v (AX.imp id λT=>?_) V) (λ_ _=>rfl)).ak _
    ·simp only[lP,Ds,ab2]at T;exact qE (T.1 xs BM) d O
    ·simp only[lP,Ds,N]at T;exact T.2
  ·obtain⟨L,E,AB,M⟩:=h.fY e he;refine⟨L,by rw[A9 U];exact E,AB,M.mono hle (λb A3 Ag=>hold b A3 (λI=>Ag (.inr I))) A0.size (λb A3=>Or.imp id (Aw b A3)) (λb I=>?_)⟩;exact A0.yW _ (M.lt I) (λA1=>Ae e he (Ad U) L b E I ((AN _).1 A1))
 ·rintro e he e' AG L L' E AD ⟨b,I,AY⟩;have B1:∀{j v c A' AH AQ},J[j]?=some (v,c)->q j=some A'->c.da A' b->AH∈m->AH.key∉H->φ AH.key=some AQ->AH.cont.da AQ b->False:=by
   intro j v c A' AH AQ Z A2 M B2 U B3 B4;have BN:b<w.heap.size:=h.De ⟨AH,B2,AQ,B3,B4⟩;have AC:iw q (dB 0 J) b:=⟨⟨0+j,v,c⟩,kI.2 ⟨j,v,c,Z,rfl⟩,A',by simpa using A2,M⟩;exact Ae AH B2 (Ad U) AQ b B3 B4 ((AN _).1 (A0.own _ BN AC))
  rcases (AA e).1 he with he|⟨he,U⟩<;>rcases (AA e').1 AG with AG|⟨AG,Ai⟩
  ·obtain⟨j,v,c,A',AM,Z,rfl,A2,_,_⟩:=AK he;obtain⟨Aj,AI,AJ,L2',BX,BO,rfl,B5,_,_⟩:=AK AG;simp only[A6 j A' A2,A6 Aj L2' B5,abX]at E AD;subst E;subst AD;have:=AS.apart ⟨0+j,v,c⟩ (kI.2 ⟨j,v,c,Z,rfl⟩) ⟨0+Aj,AI,AJ⟩ (kI.2 ⟨Aj,AI,AJ,BO,rfl⟩) A' L2' (by simpa using A2) (by simpa using B5) ⟨b,j3.1 (p7.1 I),j3.1 (p7.1 AY)⟩;simp only[aeF]at this;rw[this]
  ·obtain⟨j,v,c,A',AM,Z,rfl,A2,_,_⟩:=AK he;simp only[A6 j A' A2,abX]at E;subst E;exact (B1 Z A2 (j3.1 (p7.1 I)) AG Ai (by rw[<-A9 Ai];exact AD) AY).elim
  ·obtain⟨j,v,c,A',AM,Z,rfl,A2,_,_⟩:=AK AG;simp only[A6 j A' A2,abX]at AD;subst AD;exact (B1 Z A2 (j3.1 (p7.1 AY)) he U (by rw[<-A9 U];exact E) I).elim
  ·exact h.apart e he e' AG L L' (by rw[<-A9 U];exact E) (by rw[<-A9 Ai];exact AD) ⟨b,I,AY⟩
 ·intro b Af AE;rcases (Ac b).1 Af with AC|⟨e,he,_,L,E,I⟩
  ·exact h.ku b ((AN b).1 (A0.own b (h.bound b AE) AC)).own AE
  ·exact h.ku _ ⟨e,he,L,E,I⟩ AE
 ·exact λb AE=>ahA (h.bound b AE) A0.size
end
def dU(S AA:St):Prop:=AA.n=S.n/\AA.gl=S.gl/\∀φ G a w,Rel φ G S a w->∃φ',Rel φ' G AA a w/\aS φ S.mem w φ' AA.mem w
theorem dU.refl(S:St):dU S S:=⟨rfl,rfl,λφ _ _ _ h=>⟨φ,h,aS.refl ..⟩⟩
theorem dU.trans{S AA AW:St}(h:dU S AA)(k:dU AA AW):dU S AW:=
 ⟨k.1.trans h.1,k.2.1.trans h.2.1,λφ G a w AB=>by
  obtain⟨Ab,J,Ac⟩:=h.2.2 φ G a w AB;obtain⟨Ad,Ae,Af⟩:=k.2.2 Ab G a w J;exact⟨Ad,Ae,Ac.trans Af⟩⟩
theorem P1(S:St)(pZ:List Nat):dU S (S.prune pZ):=⟨rfl,rfl,λφ _ _ _ h=>⟨φ,h.prune pZ,aS.refl ..⟩⟩
theorem Iu{w:World}{φ φ':bN}{m m':Mem}(h:∀b,iw φ' m' b->iw φ m b)(hle:φ.le φ'):aS φ m w φ' m' w:=
 ⟨hle,λ_ _ _=>rfl,λb _ q=>h b q,abO _,rfl,rfl,rfl⟩
def p8(A:AV->AV):ay->ay
 | .box cs=>.box (cs.map A)
 | .dead=>.dead
 | .vec sz ai=>.vec sz ai
 | .vv ai y=>.vv ai (y.map A)
def mapM(A:AV->AV)(e':cB):Mem->Mem
 |[]=>[]
 |e::r=>(if e.key=e'.key then e' else ⟨e.key,e.ak,p8 A e.cont⟩)::mapM A e' r
def nK(A:AV->AV):Env->Env
 |[]=>[]
 |(t,g,x)::r=>(t,g,A x)::nK A r
theorem zx(A:AV->AV):∀(env:Env)(t:Nat)(g:Bool)(y:AV),Env.lk (nK A env) t=some (g,y)->∃x,Env.lk env t=some (g,x)/\y=A x
 |[],t,g,y,h=>by simp[nK,Env.lk]at h
 |(Ag,B4,AI)::r,t,g,y,h=>by
  simp only[nK,Env.lk]at h⊢;by_cases AX:Ag=t
  ·subst AX;simp at h⊢;obtain⟨rfl,rfl⟩:=h;simp
  ·simp only[AX,ad0]at h⊢;exact zx A r t g y h
theorem zy(A:AV->AV)(e':cB):∀m:Mem,(mapM A e' m).map (·.key)=m.map (·.key)
 |[]=>rfl
 |e::r=>by
  simp only[mapM,aeC,zy A e' r];congr 1;split
  ·rename_i h;exact h.symm
  ·rfl
theorem mapM_mem{A:AV->AV}{e':cB}:∀{m:Mem}{x:cB},x∈mapM A e' m↔∃e∈m,x=if e.key=e'.key then e' else ⟨e.key,e.ak,p8 A e.cont⟩
 |[],x=>by simp[mapM]
 |e::r,x=>by simp[mapM,mapM_mem (m:=r)]
theorem lf{A L c b}:(p8 A c).da L b↔c.da L b:=by cases c<;>exact Iff.rfl
def St.zz(S:St)(A:AV->AV)(e':cB):St:={S with env:=nK A S.env,mem:=mapM A e' S.mem}
theorem Iw{φ:bN}{G S a w}(h:Rel φ G S a w)(A:AV->AV){e e':cB}(he:e∈S.mem){L L':Loc}(O:φ e.key=some L)(A5:e'.key=e.key)
 (N:L.ak<L'.ak) (Ah:L'.ak=e'.ak) (AY:∀b,e'.cont.da L' b->e.cont.da L b)
 (Ai:∀(φ':bN)(F':Nat->Prop),φ' e.key=some L'->(∀k,k≠e.key->φ' k=φ k)->(∀b,F' b->Fo G φ S.mem b)->(∀b,¬e'.cont.da L' b->e.cont.da L b->¬F' b)->∀x v,aB φ w (Fo G φ S.mem) x v->aB φ' w F' (A x) v)
 (E:∀(φ':bN)(F':Nat->Prop),(∀b,F' b->Fo G φ S.mem b)->dX φ' w F' L' e'.cont):
 ∃φ',Rel φ' G (S.zz A e') a w/\aS φ S.mem w φ' (S.zz A e').mem w:=by
 have hm:=h.mem;obtain⟨φ',AZ⟩:∃φ':bN,φ'=λk=>if k=e.key then some L' else φ k:=⟨_,rfl⟩
 have Z:φ' e.key=some L':=by simp[AZ]
 have A':∀k,k≠e.key->φ' k=φ k:=λk H=>by simp[AZ,H]
 have hle:φ.le φ':=by
  intro k AD A4;by_cases H:k=e.key
  ·subst H;rw[O]at A4;cases A4;exact⟨L',Z,by omega,λhh=>by omega⟩
  ·exact⟨AD,by rw[A' k H];exact A4,abO _,λ_=>rfl⟩
 have AN:∀b,iw φ' (mapM A e' S.mem) b->iw φ S.mem b:=by
  rintro b ⟨x,T,AM,A0,A6⟩;obtain⟨y,M,rfl⟩:=mapM_mem.1 T;by_cases H:y.key=e'.key
  ·simp only[H,aes]at A0 A6;rw[A5,Z]at A0;cases A0;exact⟨e,he,L,O,AY b A6⟩
  ·simp only[H,ad0]at A0 A6;rw[A5]at H;rw[A' _ H]at A0;exact⟨y,M,AM,A0,lf.1 A6⟩
 have U:∀b,Fo G φ' (mapM A e' S.mem) b->Fo G φ S.mem b:=λb=>Or.imp id (AN b);have AO:∀b,¬e'.cont.da L' b->e.cont.da L b->¬Fo G φ' (mapM A e' S.mem) b:=by
  rintro b Aj q (Ak|⟨x,T,AM,A0,A6⟩)
  ·exact hm.ku _ ⟨e,he,L,O,q⟩ Ak
  ·obtain⟨y,M,rfl⟩:=mapM_mem.1 T;by_cases H:y.key=e'.key
   ·simp only[H,aes]at A0 A6;rw[A5,Z]at A0;cases A0;exact Aj A6
   ·simp only[H,ad0]at A0 A6;rw[A5]at H;rw[A' _ H]at A0;exact H (hm.apart y M e he AM L A0 O ⟨b,lf.1 A6,q⟩)
 have AP:=Ai φ' (Fo G φ' (mapM A e' S.mem)) Z A' U AO;refine⟨φ',⟨h.size,h.defers,?_,⟨?_,?_,?_,?_,?_,?_⟩,h.kz.mono (λ_ _ _=>rfl) (abO _) (λb _=>U b)⟩,Iu AN hle⟩
 ·intro t x T;obtain⟨y,M,rfl⟩:=zx A S.env t true x T;exact AP _ _ (h.env t y M)
 ·show ((mapM A e' S.mem).map (·.key)).Nodup;rw[zy];exact hm.nodup
 ·intro k AD A4;show k∈(mapM A e' S.mem).map (·.key);rw[zy];by_cases H:k=e.key
  ·subst H;exact ab7 he
  ·rw[A' k H]at A4;exact hm.pE k AD A4
 ·intro x T;obtain⟨y,M,rfl⟩:=mapM_mem.1 T;by_cases H:y.key=e'.key
  ·simp only[H,aes];exact⟨L',by rw[A5];exact Z,Ah,E _ _ U⟩
  ·simp only[H,ad0];obtain⟨Al,An,Ao,AE⟩:=hm.fY y M;refine⟨Al,by rw[A' _ (by rw[<-A5];exact H)];exact An,Ao,?_⟩;cases AQ:y.cont with
   |dead=>trivial
   |box cs=>
    rw[AQ]at AE;obtain⟨g0,arr,elem,g1,g2,g3,g4⟩:=AE;refine⟨by simpa using g0,arr,elem,g1,by simp[g2],g3,λi c v A_ N=>?_⟩;rw[adK]at A_;obtain⟨z,AJ,rfl⟩:=abS.1 A_;exact AP z v (g4 i z v AJ N)
   |vec sz ai=>
    rw[AQ]at AE;obtain⟨g1,g2,g3,g4⟩:=AE;refine⟨g1,g2,g3,λA4=>?_⟩;obtain⟨arr,elem,f1,f2,f3,f4⟩:=g4 A4;exact⟨arr,elem,f1,f2,f3,λi d Ap=>let ⟨v,N,AR⟩:=f4 i d Ap;⟨v,N.mono (λ_ _ _=>rfl) (abO _) (λb _=>U b),AR⟩⟩
   |vv ai y=>
    rw[AQ]at AE;exact kr.mono A AE (λ_ _ _ _ u hu=>hu.mono (λ_ _ _=>rfl) (abO _) (λb _=>U b)) (λx _ v T=>AP x v T) (λ_ _=>rfl)
 ·rintro x T AI Aq AM B5 A0 Ar ⟨b,q,As⟩;obtain⟨y,M,rfl⟩:=mapM_mem.1 T;obtain⟨B6,At,rfl⟩:=mapM_mem.1 Aq;have pull:∀{z:cB}{AF:Loc},z∈S.mem->φ' (if z.key=e'.key then e' else ⟨z.key,z.ak,p8 A z.cont⟩:cB).key=some AF->(if z.key=e'.key then e' else ⟨z.key,z.ak,p8 A z.cont⟩:cB).cont.da AF b->
   ∃z0∈S.mem,∃AD,φ z0.key=some AD/\z0.cont.da AD b/\(if z.key=e'.key then e' else ⟨z.key,z.ak,p8 A z.cont⟩:cB).key=z0.key:=by
   intro z AF AJ A7 AG;by_cases H:z.key=e'.key
   ·simp only[H,aes]at A7 AG⊢;rw[A5,Z]at A7;cases A7;exact⟨e,he,L,O,AY b AG,A5⟩
   ·simp only[H,ad0]at A7 AG⊢;rw[A5]at H;rw[A' _ H]at A7;exact⟨z,AJ,AF,A7,lf.1 AG,rfl⟩
  obtain⟨z,AJ,AF,A7,AG,Au⟩:=pull M A0 q;obtain⟨Av,Aw,Ax,Ay,Az,B'⟩:=pull At Ar As;rw[Au,B'];exact hm.apart z AJ Av Aw AF Ax A7 Ay ⟨b,AG,Az⟩
 ·exact λb AK=>hm.ku b (AN b AK)
 ·exact hm.bound
mutual
def lE(k v off len:Nat):AV->AV
 | .vec A8 A9 o l=>if A8=k/\A9=v/\off<=o/\o+l<=off+len then .vec k (v+1) (o-off) l else .vec A8 A9 o l
 | .cN A8 A9 i j=>if A8=k/\A9=v/\off<=i then .cN k (v+1) (i-off) j else .cN A8 A9 i j
 | .agg cs=>.agg (mW k v off len cs)
 | .fn f cap=>.fn f (mW k v off len cap)
 | .bY vs=>.bY (mW k v off len vs)
 | .bf=>.bf
 | .d x=>.d x
 | .ptr a b c=>.ptr a b c
 | .dM x j=>.dM x j
 | .gw t x=>.gw t x
 | .lit v=>.lit v
 | .nn=>.nn
 | .err=>.err
def mW(k v off len:Nat):List AV->List AV
 |[]=>[]
 |x::r=>lE k v off len x::mW k v off len r
end
theorem rj(k v off len):∀(l:List AV)(i:Nat),(mW k v off len l)[i]?=(l[i]?).map (lE k v off len)
 |[],i=>by simp[mW]
 |x::r,i=>by cases i with|zero=>simp[mW]|succ i=>simp[mW,rj k v off len r i]
theorem mz(k v off len):∀(l:List AV),(mW k v off len l).length=l.length
 |[]=>rfl
 |x::r=>by simp[mW,mz k v off len r]
def St.trim(S:St)(k off len:Nat):St:=
 match Mem.get S.mem k with
 |some ⟨_,v,.vec sz ai⟩=>if off+len<=ai.length then S.zz (lE k v off len) ⟨k,v+1,.vec sz ((ai.drop off).take len)⟩else S
 |_=>S
theorem Gl(S:St)(k off len:Nat):dU S (S.trim k off len):=by
 unfold St.trim;split
 ·rename_i key v sz ai AS;split
  ·rename_i hle;refine⟨rfl,rfl,λφ G a w AB=>?_⟩;obtain⟨hm,H,L,O,AH,AL⟩:=AB.mem.get AS;simp only at H AH AL;subst H;obtain⟨g1,g2,g3,g4⟩:=AL;refine Iw AB (lE key v off len) (e:=⟨key,v,.vec sz ai⟩) (e':=⟨key,v+1,.vec sz ((ai.drop off).take len)⟩) hm O rfl (L':=⟨v+1,L.dw,L.sz,L.cap-off,L.base+off*L.sz,[]⟩)
    (by simp only;omega) rfl (λb q=>⟨by have:=q.1;simp only at this;omega,q.2⟩) ?_ ?_
   ·intro φ' F' Z A' U _ x u T;induction T with
    |bf v=>exact .bf v
    |d x v h=>exact .d x v (h.mono (λ_ _ _=>rfl) (abO _) (λb _=>U b))
    |agg cs a A1 J _ ih=>
     refine .agg _ a (by rw[mz];exact A1) J (λi c v E N=>?_);rw[rj]at E;obtain⟨y,M,rfl⟩:=abS.1 E;exact ih i y v M N
    |ptr V ak o v2 A3 I A2 h J=>
     unfold lE;by_cases Y:V=key
     ·subst Y;rw[O]at I;cases I;exact .ptr _ ak o v2 _ Z (by simp only;omega) (λhe=>by simp only at he;omega) J
     ·exact .ptr V ak o v2 A3 (by rw[A' _ Y];exact I) A2 h J
    |vec V ak o l v2 A3 I A2 h J=>
     unfold lE;split
     ·rename_i E;obtain⟨rfl,rfl,q,Aa⟩:=E;rw[O]at I;cases I;refine .vec _ _ _ l v2 _ Z (abO _) (λ_=>?_) J;obtain⟨a0,cap,rfl,B0,B1⟩:=h AH.symm;refine⟨a0,cap,rfl,B0,λB2=>?_⟩;obtain⟨rfl,B7⟩:=B1 B2;refine⟨?_,by simp only;omega⟩;congr 2;show L.base+o*L.sz=L.base+off*L.sz+(o-off)*L.sz;rw[adN,<-aeq];congr 2;omega
     ·by_cases Y:V=key
      ·subst Y;rw[O]at I;cases I;exact .vec _ ak o l v2 _ Z (by simp only;omega) (λhe=>by simp only at he;omega) J
      ·exact .vec V ak o l v2 A3 (by rw[A' _ Y];exact I) A2 h J
    |cN V ak i j v2 A3 I A2 h J=>
     unfold lE;split
     ·rename_i E;obtain⟨rfl,rfl,q⟩:=E;rw[O]at I;cases I;refine .cN _ _ _ j v2 _ Z (abO _) (λ_=>?_) J;rw[h AH.symm];congr 3;show L.base+i*L.sz+j=L.base+off*L.sz+(i-off)*L.sz+j;rw[adN L.base (off*L.sz),<-aeq];congr 3;omega
     ·by_cases Y:V=key
      ·subst Y;rw[O]at I;cases I;exact .cN _ ak i j v2 _ Z (by simp only;omega) (λhe=>by simp only at he;omega) J
      ·exact .cN V ak i j v2 A3 (by rw[A' _ Y];exact I) A2 h J
    |dM x j b o AI AK AT T E=>exact .dM x j b o AI AK (λh=>AT (U b h)) (T.mono (λ_ _ _=>rfl) (abO _) (λb _=>U b)) E
    |fn f cap a AU A1 _ ih=>
     refine .fn f _ a AU (by rw[mz];exact A1) (λi c v E N=>?_);rw[rj]at E;obtain⟨y,M,rfl⟩:=abS.1 E;exact ih i y v M N
    |r9 f cap a A1 _ ih=>
     refine .r9 f _ a (by rw[mz];exact A1) (λi c v E N=>?_);rw[rj]at E;obtain⟨y,M,rfl⟩:=abS.1 E;exact ih i y v M N
    |bY vs a A1 _ ih=>
     refine .bY _ a (by rw[mz];exact A1) (λi c v E N=>?_);rw[rj]at E;obtain⟨y,M,rfl⟩:=abS.1 E;exact ih i y v M N
    |gw t x v h=>exact .gw t x v (h.mono (λ_ _ _=>rfl) (abO _) (λb _=>U b))
    |lit v h=>exact .lit v h
    |nn a cap=>exact .nn a cap
    |err t v=>exact .err t v
   ·intro φ' F' U;refine⟨g1,by simp only[ae3,aeo];omega,λd AC=>g3 d (adM (adV AC)),λA4=>?_⟩;simp only at A4;obtain⟨arr,elem,f1,f2,f3,f4⟩:=g4 (by omega);refine⟨arr,elem,f1,?_,f3,λi d AC=>?_⟩
    ·rw[f2];show L.base+L.cap*L.sz=L.base+off*L.sz+(L.cap-off)*L.sz;rw[adN,<-aeq];congr 2;omega
    ·rw[abZ]at AC;split at AC
     ·rw[adY]at AC;obtain⟨v,N,AR⟩:=f4 _ d AC;refine⟨v,N.mono (λ_ _ _=>rfl) (abO _) (λb _=>U b),λj c B3=>?_⟩;have:=AR j c B3;rw[aeq]at this;rw[<-adN L.base]at this;exact this
     ·cases AC
  ·exact dU.refl S
 ·exact dU.refl S
mutual
def kK(k v:Nat)(ai:List D):AV->AV
 | .vec A8 A9 o l=>if A8=k/\A9=v/\o+l<=ai.length then .d (.list ((ai.drop o).take l))else .vec A8 A9 o l
 | .agg cs=>.agg (nY k v ai cs)
 | .fn f cap=>.fn f (nY k v ai cap)
 | .bY vs=>.bY (nY k v ai vs)
 | .cN a b c d=>.cN a b c d
 | .bf=>.bf
 | .d x=>.d x
 | .ptr a b c=>.ptr a b c
 | .dM x j=>.dM x j
 | .gw t x=>.gw t x
 | .lit v=>.lit v
 | .nn=>.nn
 | .err=>.err
def nY(k v:Nat)(ai:List D):List AV->List AV
 |[]=>[]
 |x::r=>kK k v ai x::nY k v ai r
end
theorem rk(k v ai):∀(l:List AV)(i:Nat),(nY k v ai l)[i]?=(l[i]?).map (kK k v ai)
 |[],i=>by simp[nY]
 |x::r,i=>by cases i with|zero=>simp[nY]|succ i=>simp[nY,rk k v ai r i]
theorem mA(k v ai):∀(l:List AV),(nY k v ai l).length=l.length
 |[]=>rfl
 |x::r=>by simp[nY,mA k v ai r]
def St.freeze(S:St)(k:Nat):St:=
 match Mem.get S.mem k with
 |some ⟨_,v,.vec _ ai⟩=>S.zz (kK k v ai) ⟨k,v+1,.dead⟩
 |_=>S
theorem K9(S:St)(k:Nat):dU S (S.freeze k):=by
 unfold St.freeze;split
 ·rename_i key v sz ai AS;refine⟨rfl,rfl,λφ G a w AB=>?_⟩;obtain⟨hm,H,L,O,AH,AL⟩:=AB.mem.get AS;simp only at H AH AL;subst H;refine Iw AB (kK key v ai) (e:=⟨key,v,.vec sz ai⟩) (e':=⟨key,v+1,.dead⟩) hm O rfl (L':={L with ak:=v+1})
   (by simp only;omega) rfl (λ_ q=>q.elim) ?_ (λ_ _ _=>trivial)
  intro φ' F' Z A' U AO x u T;induction T with
  |bf v=>exact .bf v
  |d x v h=>exact .d x v (h.mono (λ_ _ _=>rfl) (abO _) (λb _=>U b))
  |agg cs a A1 J _ ih=>
   refine .agg _ a (by rw[mA];exact A1) J (λi c v E N=>?_);rw[rk]at E;obtain⟨y,M,rfl⟩:=abS.1 E;exact ih i y v M N
  |ptr V ak o v2 A3 I A2 h J=>
   unfold kK;by_cases Y:V=key
   ·subst Y;rw[O]at I;cases I;exact .ptr _ ak o v2 _ Z (by simp only;omega) (λhe=>by simp only at he;omega) J
   ·exact .ptr V ak o v2 A3 (by rw[A' _ Y];exact I) A2 h J
  |vec V ak o l v2 A3 I A2 h J=>
   unfold kK;split
   ·rename_i E;obtain⟨rfl,rfl,Aa⟩:=E;rw[O]at I;cases I;exact .d _ _ (Cm (.vec _ _ o l v2 L O A2 h J) O AH AL Aa U (λq=>AO _ (λhh=>hh) ⟨q,rfl⟩))
   ·by_cases Y:V=key
    ·subst Y;rw[O]at I;cases I;exact .vec _ ak o l v2 _ Z (by simp only;omega) (λhe=>by simp only at he;omega) J
    ·exact .vec V ak o l v2 A3 (by rw[A' _ Y];exact I) A2 h J
  |cN V ak i j v2 A3 I A2 h J=>
   unfold kK;by_cases Y:V=key
   ·subst Y;rw[O]at I;cases I;exact .cN _ ak i j v2 _ Z (by simp only;omega) (λhe=>by simp only at he;omega) J
   ·exact .cN V ak i j v2 A3 (by rw[A' _ Y];exact I) A2 h J
  |dM x j b o AI AK AT T E=>exact .dM x j b o AI AK (λh=>AT (U b h)) (T.mono (λ_ _ _=>rfl) (abO _) (λb _=>U b)) E
  |fn f cap a AU A1 _ ih=>
   refine .fn f _ a AU (by rw[mA];exact A1) (λi c v E N=>?_);rw[rk]at E;obtain⟨y,M,rfl⟩:=abS.1 E;exact ih i y v M N
  |r9 f cap a A1 _ ih=>
   refine .r9 f _ a (by rw[mA];exact A1) (λi c v E N=>?_);rw[rk]at E;obtain⟨y,M,rfl⟩:=abS.1 E;exact ih i y v M N
  |bY vs a A1 _ ih=>
   refine .bY _ a (by rw[mA];exact A1) (λi c v E N=>?_);rw[rk]at E;obtain⟨y,M,rfl⟩:=abS.1 E;exact ih i y v M N
  |gw t x v h=>exact .gw t x v (h.mono (λ_ _ _=>rfl) (abO _) (λb _=>U b))
  |lit v h=>exact .lit v h
  |nn a cap=>exact .nn a cap
  |err t v=>exact .err t v
 ·exact dU.refl S
def zA(P:Program)(S:St):ResultVar->du
 | .tmp t=>.val (S.aq (.tmp t)).1 (S.aq (.tmp t)).2
 | .cell p t=>match mb P S.mem t (S.aq (.tmp p)).2 with
  | .val c x=>.val ((S.aq (.tmp p)).1&&c) x
  |_=>.no
def tB(P:Program)(S:St):List ResultVar->Option (Bool×List AV)
 |[]=>some (true,[])
 |r::rs=>match zA P S r with
  | .val c x=>match tB P S rs with
   |some (AN,xs)=>some (c&&AN,x::xs)
   |none=>none
  |_=>none
def oneOf:List AV->AV
 |[x]=>x
 |xs=>.bY xs
def zB(tmps:Array Value):ResultVar->Sem Value
 | .tmp t=>pure (tmps.getD t undef)
 | .cell a t=>do loadVar t (<-asAddr (tmps.getD a undef))
theorem P4{P:Program}{S:St}{r:ResultVar}{c:Bool}{x:AV}(h:zA P S r=.val c x)(J:c=true){φ G a w}(A3:Rel φ G S a w):
 ∃v,(zB a.tmps r).run P w=.ok v w/\aB φ w (Fo G φ S.mem) x v:=by
 unfold zA at h;split at h
 ·rename_i t;simp only[du.val.injEq]at h;obtain⟨rfl,rfl⟩:=h;exact⟨_,rfl,A3.aq (.tmp t) J⟩
 ·rename_i p t;split at h
  ·rename_i AN Az A4;simp only[du.val.injEq]at h;obtain⟨rfl,rfl⟩:=h;simp only[Ds]at J;have:=LH P S {dst:=none,op:=.load t (.tmp p),type:=0,pos:= "",after:=#[],guard:=none} t (.tmp p) rfl J.1;rw[A4]at this;obtain⟨v,U,Af⟩:=this J.2 φ G a w A3;have Ag:a.eval (.tmp p)=a.tmps.getD p undef:=rfl;simp only[execOp,Instr.loadAt,Ag]at U;cases AH:a.tmps.getD p undef with
   |pointer AI=>
    rw[AH]at U;cases AI with
    |none=>simp[Instr.sureAddr,stuck]at U
    |some AI=>
     simp only[Instr.sureAddr,Sem.run_bind,Sem.run_pure,Result.andThen_ok]at U;generalize Ah:(loadVar t AI).run P w=q at U;cases q with
     |halt _ _=>simp at U
     |ok v2 B'=>
      simp at U;obtain⟨rfl,rfl⟩:=U;refine⟨v2,?_,Af⟩;simp only[zB,AH,asAddr,Sem.run_bind,Sem.run_pure,Result.andThen_ok,Ah]
   |_=>rw[AH]at U;simp[Instr.sureAddr,stuck]at U
  ·cases h
theorem xp{P:Program}{S:St}{φ G a w}(A3:Rel φ G S a w):∀(rs:List ResultVar)(c:Bool)(xs:List AV),tB P S rs=some (c,xs)->c=true->
 ∃vs:List Value,(rs.mapM (zB a.tmps)).run P w=.ok vs w/\xs.length=vs.length/\
  ∀(i:Nat) x v,xs[i]?=some x->vs[i]?=some v->aB φ w (Fo G φ S.mem) x v
 |[],c,xs,h,_=>by
  simp only[tB,abX,adL]at h;obtain⟨_,rfl⟩:=h;exact⟨[],by simp,rfl,by simp⟩
 |r::rs,c,xs,h,J=>by
  simp only[tB]at h;split at h
  ·rename_i B0 x H;split at h
   ·rename_i Ai Aj Ak;simp only[abX,adL]at h;obtain⟨rfl,rfl⟩:=h;simp only[Ds]at J;obtain⟨v,A5,A8⟩:=P4 H J.1 A3;obtain⟨vs,AJ,V,A9⟩:=xp (P:=P) A3 rs Ai Aj Ak J.2;refine⟨v::vs,?_,by simp[V],λi x v h AK=>?_⟩
    ·rw[List.mapM_cons];simp only[Sem.run_bind,A5,Result.andThen_ok,AJ,Sem.run_pure]
    ·cases i with
     |zero=>simp at h AK;subst h;subst AK;exact A8
     |succ i=>exact A9 i x v (by simpa using h) (by simpa using AK)
   ·cases h
  ·cases h
mutual
def mi(k v:Nat):AV->Option (Nat×Nat)
 | .vec Al An o l=>if Al=k/\An=v then some (o,l)else none
 | .agg cs=>rl k v cs
 | .fn _ cap=>rl k v cap
 | .bY vs=>rl k v vs
 | .cN _ _ _ _=>none
 | .bf=>none
 | .d _=>none
 | .ptr _ _ _=>none
 | .dM _ _=>none
 | .gw _ _=>none
 | .lit _=>none
 | .nn=>none
 | .err=>none
def rl(k v:Nat):List AV->Option (Nat×Nat)
 |[]=>none
 |x::r=>match mi k v x with
  |some p=>some p
  |none=>rl k v r
end
def wh(k v:Nat):Mem->Option (Nat×Nat)
 |[]=>none
 |⟨_,_,.box cs⟩::r=>match rl k v cs with
  |some p=>some p
  |none=>wh k v r
 |_::r=>wh k v r
def DH(k v:Nat):Env->Option (Nat×Nat)
 |[]=>none
 |(_,_,x)::r=>match mi k v x with
  |some p=>some p
  |none=>DH k v r
def St.xq(S:St)(k:Nat):St:=
 match Mem.get S.mem k with
 |some ⟨_,v,.vec _ _⟩=>match wh k v S.mem with
  |some (o,l)=>S.trim k o l
  |none=>match DH k v S.env with
   |some (o,l)=>S.trim k o l
   |none=>S
 |_=>S
theorem DI(S:St)(k:Nat):dU S (S.xq k):=by
 unfold St.xq;split
 ·split
  ·exact Gl ..
  ·split
   ·exact Gl ..
   ·exact dU.refl S
 ·exact dU.refl S
def St.xr(S:St):List Nat->St
 |[]=>S
 |k::r=>(S.xq k).xr r
theorem DJ:∀(l:List Nat)(S:St),dU S (S.xr l)
 |[],S=>dU.refl S
 |k::r,S=>(DI S k).trans (DJ r _)
mutual
def iM:AV->List Nat
 | .ptr k _ _=>[k]
 | .vec k _ _ _=>[k]
 | .cN k _ _ _=>[k]
 | .agg cs=>kL cs
 | .fn _ cap=>kL cap
 | .bY vs=>kL vs
 | .bf=>[]
 | .d _=>[]
 | .dM _ _=>[]
 | .gw _ _=>[]
 | .lit _=>[]
 | .nn=>[]
 | .err=>[]
def kL:List AV->List Nat
 |[]=>[]
 |x::r=>iM x++kL r
end
def lF:Option cB->List Nat
 |some ⟨_,_,.box cs⟩=>kL cs
 |some ⟨_,_,.vv _ (some x)⟩=>iM x
 |_=>[]
def collect(m:Mem):Nat->List Nat->List Nat->List Nat
 |0,_,I=>I
 |_+1,[],I=>I
 |n+1,k::todo,I=>match I.contains k||(Mem.get m k).isNone with
  |true=>collect m n todo I
  |false=>collect m n (todo++lF (Mem.get m k)) (I++[k])
theorem oZ(m:Mem):∀(n:Nat)(todo I:List Nat),I.Nodup->(∀k∈I,(Mem.get m k).isSome=true)->(collect m n todo I).Nodup/\∀k∈collect m n todo I,(Mem.get m k).isSome=true
 |0,todo,I,h,A'=>⟨h,A'⟩
 |n+1,[],I,h,A'=>⟨h,A'⟩
 |n+1,k::todo,I,h,A'=>by
  simp only[collect];split
  ·exact oZ m n todo I h A'
  ·rename_i J;simp only[Bool.or_eq_false_iff,List.contains_eq_mem,aeB,Option.isNone_eq_false_iff]at J;refine oZ m n _ _ ?_ ?_
   ·rw[List.nodup_append];exact⟨h,by simp,λa A6 b N AA=>by simp at N;subst N;subst AA;exact J.1 A6⟩
   ·intro x H;rcases ab3.1 H with H|H
    ·exact A' x H
    ·simp at H;subst H;exact J.2
def dead(k:Nat):cB:=⟨k,0,.dead⟩
def bN.add(φ:bN)(ks:List Nat):bN:=λk=>if k∈ks then some ⟨0,0,0,0,0,[]⟩else φ k
theorem AU{φ:bN}{m:Mem}{ks:List Nat}(M:∀k∈ks,k∉m.map (·.key))(b:Nat):iw (φ.add ks) (m++ks.map dead) b↔iw φ m b:=by
 constructor
 ·rintro ⟨e,he,L,E,O⟩;rcases ab3.1 he with he|he
  ·have:e.key∉ks:=λh=>M _ h (ab7 he);simp only[bN.add,this,ad0]at E;exact⟨e,he,L,E,O⟩
  ·simp only[ab4]at he;obtain⟨k,_,rfl⟩:=he;exact O.elim
 ·rintro ⟨e,he,L,E,O⟩;have:e.key∉ks:=λh=>M _ h (ab7 he);exact⟨e,amf _ he,L,by simp[bN.add,this,E],O⟩
theorem aeh{φ:bN}{G}{m:Mem}{ks:List Nat}(M:∀k∈ks,k∉m.map (·.key)):Fo G (φ.add ks) (m++ks.map dead)=Fo G φ m:=by
 funext b;simp only[Fo,AU M b]
theorem Ix{φ:bN}{G m w}(h:bh φ G m w){ks:List Nat}(M:∀k∈ks,k∉m.map (·.key)):φ.le (φ.add ks):=by
 intro k L E;have:k∉ks:=λT=>M k T (h.pE k L E);exact⟨L,by simp[bN.add,this,E],abO _,λ_=>rfl⟩
theorem bh.add{φ G m w}(h:bh φ G m w){ks:List Nat}(Ao:ks.Nodup)(M:∀k∈ks,k∉m.map (·.key)):bh (φ.add ks) G (m++ks.map dead) w:=by
 have hle:=Ix h M;have Ap:=aeh (φ:=φ) (G:=G) M;refine⟨?_,?_,?_,?_,?_,h.bound⟩
 ·rw[List.map_append,List.nodup_append];have e:(ks.map dead).map (·.key)=ks:=by simp[Function.comp_def,dead]
  rw[e];exact⟨h.nodup,Ao,λa A6 b N AA=>M b N (AA▸A6)⟩
 ·intro k L E;simp only[bN.add]at E;split at E
  ·rename_i T;rw[List.map_append];refine List.mem_append_right _ ?_;rw[List.map_map];exact ab4.2 ⟨k,T,rfl⟩
  ·rw[List.map_append];exact amf _ (h.pE k L E)
 ·intro e he;rw[Ap];rcases ab3.1 he with he|he
  ·obtain⟨L,E,AL,J⟩:=h.fY e he;have:e.key∉ks:=λh=>M _ h (ab7 he);exact⟨L,by simp[bN.add,this,E],AL,J.mono hle (λ_ _ _=>rfl) (abO _) (λ_ _ h=>h) (λ_ _=>rfl)⟩
  ·simp only[ab4]at he;obtain⟨k,T,rfl⟩:=he;exact⟨⟨0,0,0,0,0,[]⟩,by simp[bN.add,dead,T],rfl,trivial⟩
 ·rintro e he e' Y L L' E AO ⟨b,O,AP⟩;rcases ab3.1 he with he|he
  ·rcases ab3.1 Y with Y|Y
   ·have A5:e.key∉ks:=λh=>M _ h (ab7 he);have A8:e'.key∉ks:=λh=>M _ h (ab7 Y);simp only[bN.add,A5,A8,ad0]at E AO;exact h.apart e he e' Y L L' E AO ⟨b,O,AP⟩
   ·simp only[ab4]at Y;obtain⟨k,_,rfl⟩:=Y;exact AP.elim
  ·simp only[ab4]at he;obtain⟨k,_,rfl⟩:=he;exact O.elim
 ·intro b N Aq;exact h.ku b ((AU M b).1 N) Aq
def gU:Nat->List AV->Env
 |_,[]=>[]
 |i,x::r=>(i,true,x)::gU (i+1) r
theorem xu:∀(i:Nat)(xs:List AV)(t:Nat)(y:Bool×AV),Env.lk (gU i xs) t=some y->∃j,t=i+j/\xs[j]?=some y.2
 |i,[],t,y,h=>by simp[gU,Env.lk]at h
 |i,x::r,t,y,h=>by
  simp only[gU,Env.lk]at h;by_cases A0:i=t
  ·subst A0;simp at h;subst h;exact⟨0,rfl,rfl⟩
  ·simp only[A0,ad0]at h;obtain⟨j,rfl,AB⟩:=xu (i+1) r t y h;exact⟨j+1,by omega,by simpa using AB⟩
def dN:Nat->List ay->Mem
 |_,[]=>[]
 |i,c::r=>⟨i,0,c⟩::dN (i+1) r
theorem Iy:∀(cs:List ay)(i:Nat),dN i cs=dB i (cs.map λc=>(0,c))
 |[],i=>rfl
 |c::r,i=>by simp[dN,dB,Iy r]
def entry(n:Nat)(gl:List (Nat×D))(args:List AV)(cs:List ay)(sites:List Nat):St:={n,gl,env:=gU 0 args,mem:=dN 0 cs++sites.map dead}
def DK(A:Nat)(i v:Nat):Nat:=if i<A then (if v=0 then 0 else 1)else 0
structure ax where
 an4:List Nat
 exp:Bool
 sites:List Nat
 vm:List Nat
 split:Bool
def p9(p:ax)(A:Nat)(m:Mem)(xs:List AV):List Nat:=
 match p.exp with
 |true=>List.range A++(collect m 64 (kL xs++List.range A) []).filter (λk=>!decide (k<A))
 |false=>List.range A
def lV:Env->List AV
 |[]=>[]
 |(_,_,x)::r=>x::lV r
def BN:Bool->AV->AV
 |true,x=>x
 |false,x=>x.norm
theorem aB.BN{b:Bool}{φ w F x v}(h:aB φ w F x v):aB φ w F (BN b x) v:=by
 cases b
 ·exact h.norm
 ·exact h
def Iz(b:Bool)(K:List Nat)(A:Nat)(S:St)(one:List AV->Out):Option (Out×List (Nat×ay)):=
 if K.all (λk=>(Mem.get S.mem k).isSome)then some (one ((lV S.env).map λx=>BN b (vw S.mem K (λ_=>true) (DK A) x)),ef S.mem K (λ_=>true) (DK A) 0 K)else none
def AW(p:ax)(K:List Nat)(S:St):St:=S.xr (K.filter λk=>!p.an4.contains k)
def qa(p:ax)(A:Nat)(S:St)(xs:List AV)(one:List AV->Out):Option (Out×List (Nat×ay)):=
 let K:=p9 p A S.mem xs
 Iz (p.vm.contains 1000) K A (AW p K {S with n:=xs.length,env:=gU 0 xs}) one
def finish(P:Program)(p:ax)(A:Nat)(rs:List ResultVar)(S:St):Option (Out×List (Nat×ay)):=
 match tB P S rs with
 |some (c,xs)=>if c=true then qa p A S xs (λA7=>.ret (oneOf A7))else none
 |none=>none
def xw(p:ax)(A:Nat)(t:TypeId)(x:D)(S:St):Option (Out×List (Nat×ay)):=qa p A S [] (λ_=>.panic t x)
def fO:Env->List (Nat×Bool)
 |[]=>[]
 |(t,g,_)::r=>(t,g)::fO r
theorem BO(AQ:AV->AV):∀env:Env,fO (nK AQ env)=fO env
 |[]=>rfl
 |(t,g,x)::r=>by simp[nK,fO,BO AQ r]
theorem Gm(S:St)(k o l:Nat):fO (S.trim k o l).env=fO S.env:=by
 unfold St.trim;split
 ·split
  ·exact BO _ _
  ·rfl
 ·rfl
theorem P5(S:St)(k:Nat):fO (S.xq k).env=fO S.env:=by
 unfold St.xq;split
 ·split
  ·exact Gm ..
  ·split
   ·exact Gm ..
   ·rfl
 ·rfl
theorem DL:∀(l:List Nat)(S:St),fO (S.xr l).env=fO S.env
 |[],S=>rfl
 |k::r,S=>by rw[St.xr,DL r,P5]
theorem DM:∀(i:Nat)(xs:List AV),fO (gU i xs)=(List.range' i xs.length).map λj=>(j,true)
 |i,[]=>rfl
 |i,x::r=>by simp[gU,fO,DM (i+1) r,aih]
theorem L7:∀(env:Env)(i n j:Nat),fO env=(List.range' i n).map (λj=>(j,true))->∀x,(lV env)[j]?=some x->Env.lk env (i+j)=some (true,x)
 |[],i,n,j,_,x,H=>by simp[lV]at H
 |(t,g,y)::r,i,n,j,h,x,H=>by
  cases n with
  |zero=>simp[fO]at h
  |succ n=>
   simp only[fO,aih,aeC,List.cons.injEq,adL]at h;obtain⟨⟨rfl,rfl⟩,h⟩:=h;cases j with
   |zero=>simp[lV]at H;subst H;simp[Env.lk]
   |succ j=>
    have:=L7 r (t+1) n j h x (by simpa [lV]using H);simp only[Env.lk];rw[abN (by omega),show t+(j+1)=t+1+j by omega];exact this
theorem wi:∀env:Env,(lV env).length=(fO env).length
 |[]=>rfl
 |(_,_,_)::r=>by simp[lV,fO,wi r]
theorem Hm(p:ax)(A:Nat)(m:Mem)(xs:List AV):(p9 p A m xs).Nodup:=by
 unfold p9;split
 ·rw[List.nodup_append];refine⟨List.nodup_range,((oZ m 64 _ [] List.nodup_nil (by simp)).1).filter _,λa A6 b N AA=>?_⟩;simp only[adF]at A6;simp only[aei,ahy,aeB]at N;omega
 ·exact List.nodup_range
theorem La(p:ax)(A:Nat)(m:Mem)(xs:List AV){k:Nat}(T:k<A):(p9 p A m xs)[k]?=some k:=by
 unfold p9;split
 ·rw[abW (by simpa using T)];simp[T]
 ·simp[T]
theorem sx{p:ax}{A:Nat}{S:St}{xs:List AV}{one:List AV->Out}{out:Out}{l:List (Nat×ay)}(h:qa p A S xs one=some (out,l))
 {φ:bN} {G:Fr} {w:World} (hm:bh φ G S.mem w) (AC:eG w (Fo G φ S.mem) S.gl) {vs:List Value} (A4:xs.length=vs.length)
 (H:∀(i:Nat) x v,xs[i]?=some x->vs[i]?=some v->aB φ w (Fo G φ S.mem) x v) {φ0:bN} {AR:Mem} {w0:World} (T:aS φ0 AR w0 φ S.mem w) (Ar:∀k L,φ0 k=some L->k<A/\L.ak=0):
 ∃φ' A7,out=one A7/\bh φ' G (dB 0 l) w/\aS φ0 AR w0 φ' (dB 0 l) w/\A7.length=vs.length/\(∀(i:Nat) y v,A7[i]?=some y->vs[i]?=some v->aB φ' w (Fo G φ' (dB 0 l)) y v)/\
  ∀b,Fo G φ' (dB 0 l) b->Fo G φ S.mem b:=by
 unfold qa at h;obtain⟨K,AD⟩:∃K,K=p9 p A S.mem xs:=⟨_,rfl⟩;have As:K.Nodup:=by rw[AD];exact Hm ..
 have At:∀k,k<A->K[k]?=some k:=λk h=>by rw[AD];exact La _ _ _ _ h
 simp only[<-AD]at h;clear AD;have Au:Rel φ G {S with n:=xs.length,env:=gU 0 xs} {tmps:=vs.toArray,defers:=G.dv} w:=by
  refine⟨by simp[A4],rfl,λt x A0=>?_,hm,AC⟩;obtain⟨j,rfl,AB⟩:=xu 0 xs t _ A0;have AS:j<vs.length:=by rw[<-A4];exact (abM.1 AB).1
  have e:vs.toArray.getD (0+j) undef=vs[j]:=by simp[AS]
  simp only[e];exact H j x _ AB (by simp[AS])
 obtain⟨A1,AE⟩:∃A1,A1=AW p K {S with n:=xs.length,env:=gU 0 xs}:=⟨_,rfl⟩;have A0:dU {S with n:=xs.length,env:=gU 0 xs} A1:=by rw[AE];exact DJ ..
 have AX:fO A1.env=(List.range' 0 xs.length).map λj=>(j,true):=by
  rw[AE,AW,DL];exact DM 0 xs
 rw[<-AE]at h;clear AE;obtain⟨AY,AZ,A_⟩:=A0.2.2 φ G _ w Au;unfold Iz at h;split at h
 ·rename_i Av;simp only[abX,adL]at h;obtain⟨rfl,rfl⟩:=h;have AF:=AZ.mem;have Aa:∀k∈K,(Mem.get A1.mem k).isSome=true:=by simpa using Av
  obtain⟨s1,s2,Aw⟩:=AT (G1:=G) (ρ:=K) (bor:=λ_=>true) (nv:=DK A) AF As Aa (λb h=>.inl h) (λb h=>AF.ku b h.own)
   (λk e L b AC _ _ E O=>AF.ku _ ⟨e,(Mem.get_mem AC).1,L,by rw[(Mem.get_mem AC).2];exact E,O⟩)
  have Z:=T.trans A_;refine⟨AY.gZ K (DK A),_,rfl,s1,⟨?_,Z.yW,?_,Z.size,Z.os,Z.tape,Z.output⟩,?_,?_,?_⟩
  ·intro k L E;obtain⟨AM,AG⟩:=Ar k L E;obtain⟨Ab,A5,A8,AJ⟩:=Z.le k L E;refine⟨{Ab with ak:=DK A k Ab.ak},by simp[bN.gZ,At k AM,A5],by simp[AG],λhe=>?_⟩;simp only[DK,AM,aes,AG]at he;split at he
   ·rename_i Ax;have V:=AJ (by rw[AG];exact Ax);have g1:=aeK Loc.ak V;have g2:=aeK Loc.dw V;have g3:=aeK Loc.sz V;have g4:=aeK Loc.cap V;have g5:=aeK Loc.base V;simp only at g1 g2 g3 g4 g5⊢;rw[g1,g2,g3,g4,g5];simp only[DK,AM,aes,AG]
   ·simp at he
  ·intro b N O;exact Z.own b N ((wg (φ:=AY) (nv:=DK A) (bor:=λ_=>true) Aa b).1 O).own
  ·rw[List.length_map,wi,AX];simp[A4]
  ·intro i y v Ac AL;rw[adK]at Ac;obtain⟨x,Ay,rfl⟩:=abS.1 Ac;have A9:=L7 A1.env 0 xs.length i AX x Ay;rw[aeF]at A9;have Ad:=AZ.env i x A9;have e:vs.toArray.getD i undef=v:=by simp[AL]
   simp only[e]at Ad;exact (s2 x v Ad).BN
  ·intro b N;have A2:=Aw b N;rcases A2 with A2|A2
   ·exact .inl A2
   ·rcases Nat.lt_or_ge b w.heap.size with Ae|Ae
    ·exact .inr (A_.own b Ae A2)
    ·exact absurd (AF.De A2) (by omega)
 ·cases h
def b6:AV->List Nat
 | .ptr k _ _=>[k]
 | .vec k _ _ _=>[k]
 | .cN k _ _ _=>[k]
 |_=>[]
def sQ(S:St):List Operand->List Nat
 |[]=>[]
 |x::r=>b6 (S.aq x).2++sQ S r
def DN(S:St):Op->List Nat
 | .move _=>[]
 | .assign _=>[]
 |op=>sQ S op.operands.toList
def iS(S:St)(o:Oper):List Nat:=keyOf o::DN S o.op
theorem BP{S:St}:∀{l:List Operand}{x:Operand},x∈l->∀k∈b6 (S.aq x).2,k∈sQ S l
 |[],x,h,_,_=>by simp at h
 |y::r,x,h,k,I=>by
  simp only[sQ,ab3];rcases abV.1 h with rfl|h
  ·exact .inl I
  ·exact .inr (BP h k I)
section
variable {P:Program} {m m':Mem}
theorem Tv{t p}(h:∀k∈b6 p,Mem.get m' k=Mem.get m k):mb P m' t p=mb P m t p:=by
 cases p<;>simp_all [mb,b6]
theorem vo{sz x}(h:∀k∈b6 x,Mem.get m' k=Mem.get m k):gJ m' sz x=gJ m sz x:=by
 cases x with
 |vec k ak off len=>simp only[gJ,h k (by simp[b6])]
 |d x=>cases x<;>rfl
 |lit v=>unfold gJ;split<;>simp_all
 |_=>rfl
theorem P6{t p x}(h:∀k∈b6 p,Mem.get m' k=Mem.get m k):oS P m' t p x=oS P m t p x:=by
 cases p<;>simp_all [oS,b6]
theorem P7{s f p}(h:∀k∈b6 p,Mem.get m' k=Mem.get m k):oD P m' s f p=oD P m s f p:=by
 cases p<;>simp_all [oD,b6]
theorem Hn{p}(h:∀k∈b6 p,Mem.get m' k=Mem.get m k):iZ m' p=iZ m p:=by
 cases p<;>simp_all [iZ,b6]
theorem P8{t p i}(h:∀k∈b6 p,Mem.get m' k=Mem.get m k):mr P m' t p i=mr P m t p i:=by
 cases p with
 |vec k ak off len=>simp only[mr,h k (by simp[b6])]
 |ptr k ak off=>simp only[mr,h k (by simp[b6])]
 |cN k ak i j=>simp only[mr,h k (by simp[b6])]
 |d x=>cases x<;>rfl
 |_=>rfl
theorem P9{t p lo hi}(h:∀k∈b6 p,Mem.get m' k=Mem.get m k):kG P m' t p lo hi=kG P m t p lo hi:=by
 cases p with
 |cN k ak i j=>simp only[kG,h k (by simp[b6])]
 |vec k ak off len=>simp only[kG,h k (by simp[b6])]
 |ptr k ak off=>simp only[kG,h k (by simp[b6])]
 |d x=>cases x<;>rfl
 |_=>rfl
theorem WY{k c cs}(h:Mem.get m' k=Mem.get m k):rS m' k c cs=rS m k c cs:=by simp only[rS,h]
theorem Qa{k t}(h:Mem.get m' k=Mem.get m k):tt P m' k t=tt P m k t:=by simp only[tt,Ik,rS,h]
theorem Tw{k s d x}(h:Mem.get m' k=Mem.get m k)(A:∀k∈b6 x,Mem.get m' k=Mem.get m k):mf P m' k s d x=mf P m k s d x:=by
 have e:=vo (m:=m) (m':=m') (sz:=1) A;cases A0:tk P d<;>cases x with
 |d x=>cases x<;>simp only[mf,A0,e,h]
 |_=>simp only[mf,A0,e]
theorem Ty{k s d x}(h:Mem.get m' k=Mem.get m k)(A:∀k∈b6 x,Mem.get m' k=Mem.get m k):su P m' k s d x=su P m k s d x:=by
 have e:=Tw (P:=P) (s:=s) (d:=d) h A;cases x with
 |vec U ak off len=>simp only[su,e,A U (by simp[b6])]
 |_=>simp only[su,e]
theorem Tz{k t l c}(h:Mem.get m' k=Mem.get m k):xj P m' k t l c=xj P m k t l c:=by simp only[xj,h]
theorem DO{k t n ps}(h:Mem.get m' k=Mem.get m k):j2 P m' k t n ps=j2 P m k t n ps:=by simp only[j2,qC,h]
theorem WZ{t x}(h:∀k∈b6 x,Mem.get m' k=Mem.get m k):nX P m' t x=nX P m t x:=by
 cases x with
 |vec k ak off len=>simp only[nX,h k (by simp[b6])]
 |d x=>cases x<;>rfl
 |lit v=>unfold nX;split<;>simp_all
 |_=>rfl
theorem W0{u sz V Y s x}(M:∀k∈b6 s,Mem.get m' k=Mem.get m k)(A:∀k∈b6 x,Mem.get m' k=Mem.get m k):xf P m' u sz V Y s x=xf P m u sz V Y s x:=by
 cases s with
 |vec k ak off len=>
  cases x with
  |vec A4 AD A5 A6=>
   match A5,A6 with
   |0,1=>simp only[xf,M k (by simp[b6]),A A4 (by simp[b6])]
   |0,0=>rfl
   |0,_+2=>rfl
   |_+1,_=>rfl
  |_=>rfl
 |_=>rfl
theorem W1{P:Program}{m:Mem}{u:TypeId}{sz V:Nat}{Y:D}{s x:AV}{c:Bool}{k v off n:Nat}{e:cB}(h:xf P m u sz V Y s x=.dg c (.vec k v off n) e):k∈b6 s:=by
 unfold xf at h;split at h
 ·split at h
  ·cases h;simp[b6]
  ·cases h
 ·cases h
theorem W2{k t u s x}(h:Mem.get m' k=Mem.get m k)(M:∀k∈b6 s,Mem.get m' k=Mem.get m k)(A:∀k∈b6 x,Mem.get m' k=Mem.get m k):rU P m' k t u s x=rU P m k t u s x:=by
 unfold rU zc;simp only[vo A,h,W0 M A];cases s with
 |vec k ak off len=>simp only[M k (by simp[b6])]
 |lit v=>
  cases v with
  |slice ao n c=>cases ao<;>cases n<;>cases c<;>simp only
  |_=>rfl
 |_=>rfl
theorem W3{P:Program}{m:Mem}{A1:Nat}{t u:TypeId}{s x:AV}{c:Bool}{k v off n:Nat}{e:cB}(h:rU P m A1 t u s x=.dg c (.vec k v off n) e):k=A1\/k∈b6 s:=by
 unfold rU at h;split at h
 ·split at h
  ·split at h
   ·split at h
    ·split at h
     ·cases h;right;simp[b6]
     ·cases h
    ·split at h
     ·cases h;left;rfl
     ·cases h
    ·cases h
   ·exact .inr (W1 h)
  ·cases h
 ·cases h
theorem TB{P:Program}{m m':Mem}{k t u s x}(h:Mem.get m' k=Mem.get m k)(M:∀k∈b6 s,Mem.get m' k=Mem.get m k)(A:∀k∈b6 x,Mem.get m' k=Mem.get m k):
 ux m' (Mem.get m' k).isSome k (rU P m' k t u s x)=ux m (Mem.get m k).isSome k (rU P m k t u s x):=by
 rw[W2 h M A,h];unfold ux;generalize A7:rU P m k t u s x=r;split
 ·rename_i c U v n AE AF sz ai;have I:Mem.get m' U=Mem.get m U:=by
   rcases W3 A7 with rfl|I
   ·exact h
   ·exact M _ I
  rw[I]
 ·rfl
theorem Gn{k t x}(h:Mem.get m' k=Mem.get m k):ss P m' k t x=ss P m k t x:=by
 unfold ss;simp only[h]
theorem W4{neg t x v}(h:∀k∈b6 x,Mem.get m' k=Mem.get m k):jB P m' neg t x v=jB P m neg t x v:=by
 cases x with
 |vec k ak off len=>unfold jB;simp only[h k (by simp[b6])]
 |ptr k ak off=>unfold jB;simp only[h k (by simp[b6])]
 |d x=>unfold jB;cases x with
  |list xs=>cases xs<;>rfl
  |_=>rfl
 |lit u=>unfold jB;cases u with
  |slice ao n c=>cases ao<;>cases n<;>cases c<;>rfl
  |pointer a=>cases a<;>rfl
  |_=>rfl
 |_=>rfl
theorem TC{t s x}(M:∀k∈b6 s,Mem.get m' k=Mem.get m k)(A:∀k∈b6 x,Mem.get m' k=Mem.get m k):xk P m' t s x=xk P m t s x:=by
 unfold xk;simp only[vo A];cases s with
 |vec k ak off len=>simp only[M k (by simp[b6])]
 |_=>rfl
end
theorem Gp{P:Program}{S H:St}{o:Oper}(A:∀x∈o.op.operands.toList,H.aq x=S.aq x)(I:∀k∈iS S o,Mem.get H.mem k=Mem.get S.mem k):di P H o=di P S o:=by
 have N:Mem.get H.mem (keyOf o)=Mem.get S.mem (keyOf o):=I _ (by simp[iS]);have J:match o.op with
  | .move _=>True
  | .assign _=>True
  |op=>∀x∈op.operands.toList,∀k∈b6 (S.aq x).2,Mem.get H.mem k=Mem.get S.mem k:=by
  unfold iS at I;generalize o.op=op at I;cases op<;>first|trivial|exact λx E k Z=>I k (ael _ (BP E k Z))
 have q:∀(l:List Operand),(∀x∈l,H.aq x=S.aq x)->l.map (λx=>(H.aq x).2)=l.map (λx=>(S.aq x).2):=λl A'=>List.map_congr_left (λx E=>by rw[A' x E]);have A2:∀(l:List (Nat×Operand)),(∀x∈l,H.aq x.2=S.aq x.2)->l.map (λx=>(x.1,(H.aq x.2).2))=l.map (λx=>(x.1,(S.aq x.2).2)):=λl A'=>List.map_congr_left (λx E=>by rw[A' x E]);unfold di;generalize AG:o.op=op at A J;cases op with
 |move x=>simp only[A x (by simp[Op.operands]),Gn N]
 |assign x=>simp only[A x (by simp[Op.operands]),Gn N]
 |pick c a b=>simp only[A c (by simp[Op.operands]),A a (by simp[Op.operands]),A b (by simp[Op.operands])]
 |alloc t=>simp only[Qa N]
 |box t x=>simp only[A x (by simp[Op.operands]),WY N]
 |load t x=>simp only[A x (by simp[Op.operands]),Tv (J x (by simp[Op.operands]))]
 |store t p x=>simp only[A x (by simp[Op.operands]),A p (by simp[Op.operands]),P6 (J p (by simp[Op.operands]))]
 |fieldAddr s x f=>simp only[A x (by simp[Op.operands]),P7 (J x (by simp[Op.operands]))]
 |nilCheck x=>simp only[A x (by simp[Op.operands]),Hn (J x (by simp[Op.operands]))]
 |indexAddr t x i=>simp only[A x (by simp[Op.operands]),A i (by simp[Op.operands]),P8 (J x (by simp[Op.operands]))]
 |index t x i=>simp only[A x (by simp[Op.operands]),A i (by simp[Op.operands])]
 |slice t x lo hi A8=>
  cases A8 with
  |none=>
   have A9:lo.map (λy=>(H.aq y).2)=lo.map (λy=>(S.aq y).2):=by cases lo with|none=>rfl|some y=>simp[A y (by simp[Op.operands])]
   have AA:hi.map (λy=>(H.aq y).2)=hi.map (λy=>(S.aq y).2):=by cases hi with|none=>rfl|some y=>simp[A y (by simp[Op.operands])]
   simp only[A x (by simp[Op.operands]),A9,AA,P9 (J x (by simp[Op.operands]))]
  |some _=>rfl
 |binOp op t x y AH=>
  have A3:=A x (by simp[Op.operands]);have AB:=A y (by simp[Op.operands]);have Z:=J x (by simp[Op.operands]);simp only
  unfold rf;cases y with
  |const v=>simp only[A3,W4 Z];rfl
  |_=>simp only[A3,AB]
 |unOp op t x=>simp only[A x (by simp[Op.operands])]
 |convert s d x=>simp only[A x (by simp[Op.operands]),Ty N (J x (by simp[Op.operands]))]
 |makeInterface t x=>simp only[A x (by simp[Op.operands])]
 |makeFunc f first cap=>simp only[q cap.toList (λx E=>A x (by simp[Op.operands];right;simpa using E)),q first.toList (λx E=>A x (by simp[Op.operands];left;simpa using E))]
 |makeSlice t l c=>simp only[A l (by simp[Op.operands]),A c (by simp[Op.operands]),Tz N]
 |build t ps=>simp only[A2 ps.toList (λx E=>A x.2 (by simp only[Op.operands,List.toList_toArray,ab4];exact⟨x,E,rfl⟩))]
 |buildSlice t n ps=>simp only[A2 ps.toList (λx E=>A x.2 (by simp only[Op.operands,List.toList_toArray,ab4];exact⟨x,E,rfl⟩)),DO N]
 |extract x i=>simp only[A x (by simp[Op.operands])]
 |field s x f=>simp only[A x (by simp[Op.operands])]
 |typeAssert x AI t ok=>simp only[A x (by simp[Op.operands])]
 |call c=>
  obtain⟨callee,args,AC⟩:=c;cases callee with
  |builtin b=>
   have O:∀x∈args.toList,H.aq x=S.aq x:=λx E=>A x (by simp[Op.operands,Call.operands];simpa using E);have T:∀x∈args.toList,∀k∈b6 (S.aq x).2,Mem.get H.mem k=Mem.get S.mem k:=λx E=>J x (by simp[Op.operands,Call.operands];simpa using E);simp only
   unfold lA;have em:=q args.toList O;generalize args.toList=AJ at O T em;generalize AC.toList=AK;split
   ·rename_i x t;simp only[O x (by simp),WZ (T x (by simp))]
   ·rename_i s x t u;simp only[O x (by simp),O s (by simp),TB N (T s (by simp)) (T x (by simp))]
   ·rename_i s x t u;simp only[O x (by simp),O s (by simp),TC (T s (by simp)) (T x (by simp))]
   ·simp only[em]
   ·simp only[em]
   ·rename_i x t;simp only[O x (by simp)]
   ·rfl
  |_=>rfl
 |_=>rfl
structure aX where
 ks:List Nat
 es:List cB
 g:Bool
 x:AV
def aX.app(p:aX)(o:Oper)(S:St):St:=({S with mem:=bB S.mem p.es}:St).put o.dst p.g p.x
def Zy(all:List Oper)(j:Nat):List Nat:=
 match all[j]? with
 |some o=>match o.dst with|some t=>[t]|none=>[]
 |none=>[]
def looks(all:List Oper)(o:Oper):List Nat:=
 (o.op.operands.toList.filterMap λ| .tmp t=>some t|_=>none)++(match o.guard with|some (j,_)=>Zy all j|none=>[])
structure kl(all:List Oper)(o:Oper)(ks:List Nat)(E S:St):Prop where
 n:E.n=S.n
 gl:E.gl=S.gl
 keys:E.mem.map (·.key)=S.mem.map (·.key)
 env:∀t∈looks all o,Env.lk E.env t=Env.lk S.env t
 mem:∀k∈ks,Mem.get E.mem k=Mem.get S.mem k
def km(P:Program)(all:List Oper)(S:St)(o:Oper)(p:aX):Prop:=
 ∀E,kl all o p.ks E S->∀φ G a w,Rel φ G E a w->∀(next:Act->World->Prop)(R:Exit->Act->World->Prop),
  (∀φ' A7 w',Rel φ' G (p.app o E) A7 w'->aS φ E.mem w φ' (p.app o E).mem w'->next A7 w')->
  if Region.wanted o (yielded all.toArray a.tmps)then o.wp P a w next R else next (a.put o.dst undef) w
def sy(P:Program)(Z:Mem->Prop)(all:List Oper)(S:St)(o:Oper)(p:aX):Prop:=
 ∀E,kl all o p.ks E S->Z E.mem->∀φ G a w,Rel φ G E a w->∀(next:Act->World->Prop)(R:Exit->Act->World->Prop),
  (∀φ' A7 w',Rel φ' G (p.app o E) A7 w'->aS φ E.mem w φ' (p.app o E).mem w'->next A7 w')->
  if Region.wanted o (yielded all.toArray a.tmps)then o.wp P a w next R else next (a.put o.dst undef) w
theorem km.toI{P:Program}{Z:Mem->Prop}{all:List Oper}{S:St}{o:Oper}{p:aX}(h:km P all S o p):sy P Z all S o p:=λE AO _=>h E AO
inductive Cert(P:Program)(Z:Mem->Prop)(all:List Oper):List Oper->St->List aX->St->Prop
 |nil (S):Cert P Z all [] S [] S
 |cons (o rest S p ps S1) (J:∀e∈p.es,e.key∈p.ks) (B2:∀m,Z m->Z (bB m p.es)) (h:sy P Z all S o p) (A3:Cert P Z all rest (p.app o S) ps S1):Cert P Z all (o::rest) S (p::ps) S1
def eu(o:Oper):List Nat:=(o.after.toList.filter (Region.binds .any)).map (·.on)
def gC:List Oper->List (List Nat)->List (List Nat)
 |[],T=>T
 |o::r,T=>gC r (T++[((eu o).flatMap λp=>p::T.getD p []).eraseDups])
def qc(l r:List Nat):Bool:=l.all λx=>!r.contains x
def zC(all:List Oper)(o N:Oper)(p A2:aX):Bool:=
 qc o.dst.toList (looks all N)&&qc N.dst.toList (looks all o)&&qc o.dst.toList N.dst.toList&&qc (p.es.map (·.key)) A2.ks&&qc (A2.es.map (·.key)) p.ks
def Hv(all:List Oper)(ps:List aX)(An:List (List Nat))(j:Nat):Bool:=
 match all[j]?,ps[j]? with
 |some o,some p=>(eu o).all (λi=>decide (i<j))&&(List.range j).all λi=>(An.getD j []).contains i||(match all[i]?,ps[i]? with
  |some N,some A2=>zC all N o A2 p
  |_,_=>false)
 |_,_=>false
def mX(all:List Oper)(ps:List aX):Bool:=(List.range all.length).all (Hv all ps (gC all []))
theorem BQ:∀(l:List Oper)(T:List (List Nat)),∃r,gC l T=T++r/\r.length=l.length
 |[],T=>⟨[],by simp[gC]⟩
 |o::l,T=>by
  obtain⟨r,I,M⟩:=BQ l (T++[((eu o).flatMap λp=>p::T.getD p []).eraseDups]);exact⟨((eu o).flatMap λp=>p::T.getD p []).eraseDups::r,by rw[gC,I,ahf,List.singleton_append],by simp[M]⟩
theorem mem_eraseDups{l:List Nat}{x:Nat}:x∈l.eraseDups↔x∈l:=List.mem_eraseDups
theorem Gr:∀(l:List Oper)(T:List (List Nat))(j:Nat)(o:Oper),l[j]?=some o->(∀p∈eu o,p<T.length+j)->
 ∀i,i∈(gC l T).getD (T.length+j) []↔∃p∈eu o,i=p\/i∈(gC l T).getD p []
 |[],T,j,o,h,_=>by simp at h
 |x::l,T,j,o,h,H=>by
  simp only[gC];cases j with
  |zero=>
   simp at h;subst h;obtain⟨r,I,_⟩:=BQ l (T++[((eu x).flatMap λp=>p::T.getD p []).eraseDups]);rw[I];intro i;have A4:(T++[((eu x).flatMap λp=>p::T.getD p []).eraseDups]++r).getD (T.length+0) []=((eu x).flatMap λp=>p::T.getD p []).eraseDups:=by
    simp[ag4,ahf]
   rw[A4,mem_eraseDups,List.mem_flatMap];constructor
   ·rintro ⟨p,AB,hi⟩;refine⟨p,AB,?_⟩;have AR:=H p AB;rcases abV.1 hi with rfl|hi
    ·exact .inl rfl
    ·right;rw[ag4]at hi⊢;rw[ahf,abW (by omega)];exact hi
   ·rintro ⟨p,AB,hi⟩;refine⟨p,AB,?_⟩;have AR:=H p AB;rcases hi with rfl|hi
    ·simp
    ·rw[ag4,ahf,abW (by omega),<-ag4]at hi;exact ael _ hi
  |succ j=>
   have:=Gr l (T++[((eu x).flatMap λp=>p::T.getD p []).eraseDups]) j o (by simpa using h) (λp AB=>by have:=H p AB;simp;omega);simp only[acg,ach,aeI]at this;rw[show T.length+(j+1)=T.length+(0+1)+j by omega];exact this
theorem jP{all:List Oper}{L:Nat->Prop}(H:∀j o,all[j]?=some o->∀p∈eu o,p<j)(BG:∀j o,all[j]?=some o->L j->∀p∈eu o,L p):
 ∀j,(∃o,all[j]?=some o)->∀i,i∈(gC all []).getD j []->i<j/\((∀o,all[j]?=some o->∀p∈eu o,L p)->L i):=by
 intro j;induction j using Nat.strongRecOn with
 |_ j ih=>
  rintro ⟨o,D⟩ i hi;have AJ:=(Gr all [] j o D (λp AB=>by simpa using H j o D p AB) i);simp only[aeI,aeF]at AJ;obtain⟨p,AB,h⟩:=AJ.1 hi;have AS:=H j o D p AB;rcases h with rfl|h
  ·exact⟨AS,λhh=>hh o D i AB⟩
  ·have BH:j<all.length:=(abM.1 D).1;obtain⟨op,BI⟩:∃op,all[p]?=some op:=⟨all[p],by simp[show p<all.length by omega]⟩;obtain⟨I,M⟩:=ih p AS ⟨op,BI⟩ i h;exact⟨by omega,λhh=>M (λN O q A6=>BG p N O (hh o D p AB) q A6)⟩
def aF(all:List Oper)(ps:List aX)(S:St)(l:List Nat):St:=
 l.foldl (λS i=>match all[i]?,ps[i]? with|some o,some p=>p.app o S|_,_=>S) S
theorem uE(p:aX)(o:Oper)(S:St):(p.app o S).n=S.n:=by simp[aX.app,mg]
theorem rm(p:aX)(o:Oper)(S:St):(p.app o S).gl=S.gl:=by cases h:o.dst<;>simp[aX.app,h,St.put]
theorem Cp(p:aX)(o:Oper)(S:St):(p.app o S).mem.map (·.key)=S.mem.map (·.key):=by simp[aX.app,ff,j5]
theorem tD(p:aX)(o:Oper)(S:St)(t:Nat):Env.lk (p.app o S).env t=if o.dst=some t then some (p.g,p.x)else Env.lk S.env t:=by
 cases A0:o.dst with
 |none=>simp[aX.app,St.put,A0]
 |some d=>
  by_cases h:d=t
  ·subst h;simp[aX.app,St.put,A0,Env.lk]
  ·simp[aX.app,St.put,A0,Env.lk,h]
theorem yI:∀(es:List cB)(m:Mem)(k:Nat),k∉es.map (·.key)->Mem.get (bB m es) k=Mem.get m k
 |[],m,k,_=>rfl
 |e::r,m,k,h=>by
  simp only[aeC,abV,amr]at h;rw[bB,yI r _ k h.2,Mem.oQ (λhe=>h.1 he.symm)]
theorem nZ:∀(es:List cB)(m m':Mem)(k:Nat),m.map (·.key)=m'.map (·.key)->(k∈es.map (·.key)\/Mem.get m k=Mem.get m' k)->Mem.get (bB m es) k=Mem.get (bB m' es) k
 |[],m,m',k,_,h=>by simpa [bB]using h
 |e::r,m,m',k,J,h=>by
  simp only[bB];refine nZ r _ _ k (by rw[Mem.gx,Mem.gx,J]) ?_;by_cases he:e.key=k
  ·right;subst he;by_cases Ad:e.key∈m.map (·.key)
   ·rw[Mem.oP Ad,Mem.oP (J▸Ad)]
   ·have B3:∀(m:Mem),e.key∉m.map (·.key)->Mem.get (Mem.set m e) e.key=none:=by
     intro m hm;cases AP:Mem.get (Mem.set m e) e.key with
     |none=>rfl
     |some y=>
      obtain⟨I,M⟩:=Mem.get_mem AP;have:y.key∈(Mem.set m e).map (·.key):=ab7 I;rw[Mem.gx,M]at this;exact absurd this hm
    rw[B3 m Ad,B3 m' (J▸Ad)]
  ·rw[Mem.oQ he,Mem.oQ he];rcases h with h|h
   ·simp only[aeC,abV]at h;rcases h with h|h
    ·exact absurd h.symm he
    ·exact .inl h
   ·exact .inr h
theorem DP(p:aX)(o:Oper)(S:St)(k:Nat)(h:k∉p.es.map (·.key)):Mem.get (p.app o S).mem k=Mem.get S.mem k:=by
 simp only[aX.app,ff];exact yI _ _ _ h
section
variable {all:List Oper} {ps:List aX} {S:St}
theorem om(l:List Nat):∀(S:St),(aF all ps S l).n=S.n:=by
 induction l with
 |nil=>exact λ_=>rfl
 |cons i l ih=>
  intro S;have A4:aF all ps S (i::l)=aF all ps (aF all ps S [i]) l:=by simp[aF]
  rw[A4,ih];simp only[aF,ag9,ah9];split
  ·exact uE ..
  ·rfl
theorem mC(l:List Nat):∀(S:St),(aF all ps S l).gl=S.gl:=by
 induction l with
 |nil=>exact λ_=>rfl
 |cons i l ih=>
  intro S;have A4:aF all ps S (i::l)=aF all ps (aF all ps S [i]) l:=by simp[aF]
  rw[A4,ih];simp only[aF,ag9,ah9];split
  ·exact rm ..
  ·rfl
theorem ew(l:List Nat):∀(S:St),(aF all ps S l).mem.map (·.key)=S.mem.map (·.key):=by
 induction l with
 |nil=>exact λ_=>rfl
 |cons i l ih=>
  intro S;have A4:aF all ps S (i::l)=aF all ps (aF all ps S [i]) l:=by simp[aF]
  rw[A4,ih];simp only[aF,ag9,ah9];split
  ·exact Cp ..
  ·rfl
theorem n6(l B4:List Nat)(S:St):aF all ps S (l++B4)=aF all ps (aF all ps S l) B4:=by simp[aF]
theorem uF(t:Nat)(q:Nat->Bool)(l:List Nat):∀(S E:St),(∀i∈l,∀o,all[i]?=some o->o.dst=some t->q i=true)->Env.lk S.env t=Env.lk E.env t->Env.lk (aF all ps S l).env t=Env.lk (aF all ps E (l.filter q)).env t:=by
 induction l with
 |nil=>intro S E _ h;exact h
 |cons i l ih=>
  intro S E A6 h;have A4:aF all ps S (i::l)=aF all ps (aF all ps S [i]) l:=by simp[aF]
  have AU:∀AD∈l,∀o,all[AD]?=some o->o.dst=some t->q AD=true:=λAD Ao=>A6 AD (ael _ Ao);rw[A4];by_cases A5:q i=true
  ·rw[List.filter_cons_of_pos A5];have AK:aF all ps E (i::l.filter q)=aF all ps (aF all ps E [i]) (l.filter q):=by simp[aF]
   rw[AK];refine ih _ _ AU ?_;simp only[aF,ag9,ah9];split
   ·rw[tD,tD,h]
   ·exact h
  ·rw[ams A5];refine ih _ _ AU ?_;simp only[aF,ag9,ah9];split
   ·rename_i o p D H;rw[tD,abN (λA0=>A5 (A6 i (by simp) o D A0)),h]
   ·exact h
theorem mY(k:Nat)(q:Nat->Bool)(l:List Nat):∀(S E:St),(∀i∈l,∀p,ps[i]?=some p->k∈p.es.map (·.key)->q i=true)->S.mem.map (·.key)=E.mem.map (·.key)->Mem.get S.mem k=Mem.get E.mem k->Mem.get (aF all ps S l).mem k=Mem.get (aF all ps E (l.filter q)).mem k:=by
 induction l with
 |nil=>intro S E _ _ h;exact h
 |cons i l ih=>
  intro S E A6 J h;have A4:aF all ps S (i::l)=aF all ps (aF all ps S [i]) l:=by simp[aF]
  have AU:∀AD∈l,∀p,ps[AD]?=some p->k∈p.es.map (·.key)->q AD=true:=λAD Ao=>A6 AD (ael _ Ao);rw[A4];by_cases A5:q i=true
  ·rw[List.filter_cons_of_pos A5];have AK:aF all ps E (i::l.filter q)=aF all ps (aF all ps E [i]) (l.filter q):=by simp[aF]
   rw[AK];refine ih _ _ AU (by rw[ew,ew,J]) ?_;simp only[aF,ag9,ah9];split
   ·simp only[aX.app,ff];exact nZ _ _ _ k J (.inr h)
   ·exact h
  ·rw[ams A5];refine ih _ _ AU (by rw[ew,J]) ?_;simp only[aF,ag9,ah9];split
   ·rename_i o p D H;rw[DP _ _ _ _ (λA0=>A5 (A6 i (by simp) p H A0)),h]
   ·exact h
end
structure gD(E S:St):Prop where
 n:E.n=S.n
 gl:E.gl=S.gl
 mem:E.mem=S.mem
 env:∀t,Env.lk E.env t=Env.lk S.env t
theorem Rel.eqv{φ G S E a w}(h:Rel φ G E a w)(he:gD E S):Rel φ G S a w:=
 ⟨by rw[<-he.n];exact h.size,h.defers,λt x Ae=>by rw[<-he.mem];exact h.env t x (by rw[he.env];exact Ae),by rw[<-he.mem];exact h.mem,by rw[<-he.gl,<-he.mem];exact h.kz⟩
theorem Mem.ext{m m':Mem}(AW:(m.map (·.key)).Nodup)(J:m.map (·.key)=m'.map (·.key))(h:∀k,Mem.get m k=Mem.get m' k):m=m':=by
 induction m generalizing m' with
 |nil=>cases m' with|nil=>rfl|cons _ _=>simp at J
 |cons e r ih=>
  cases m' with
  |nil=>simp at J
  |cons e' Bg=>
   simp only[aeC,List.cons.injEq]at J;simp only[aeC,List.nodup_cons]at AW;have AL:=h e.key;simp only[Mem.get,aes,J.1]at AL;cases AL;congr 1;refine ih AW.2 J.2 λk=>?_;have:=h k;simp only[Mem.get]at this;by_cases he:e.key=k
   ·subst he;have nn:∀{r:Mem},e.key∉r.map (·.key)->Mem.get r e.key=none:=by
     intro r A3;cases AP:Mem.get r e.key with
     |none=>rfl
     |some y=>obtain⟨I,M⟩:=Mem.get_mem AP;exact absurd (M▸ab7 I) A3
    rw[nn AW.1,nn (by rw[<-J.2];exact AW.1)]
   ·simpa [he]using this
def hU(n:Nat)(f:Nat->Bool):List Nat:=(List.range n).filter f
theorem BR{j n:Nat}(h:j<n):List.range n=List.range j++j::List.range' (j+1) (n-j-1):=by
 have M:(j::List.range' (j+1) (n-j-1))=List.range' j (n-j):=by
  rw[show n-j=(n-j-1)+1 by omega,aih];simp
 rw[M,List.range_eq_range',List.range_eq_range'];rw[show List.range' 0 n=List.range' 0 (j+(n-j)) by rw[show j+(n-j)=n by omega]];rw[<-List.range'_append_1];simp
theorem zD{j n:Nat}{f:Nat->Bool}(h:j<n)(AE:f j=false):hU n f=(List.range j).filter f++(List.range' (j+1) (n-j-1)).filter f:=by
 rw[hU,BR h,aio,ams (by simp[AE])]
theorem Qb{j n:Nat}{f g:Nat->Bool}(h:j<n)(AP:g j=true)(B5:∀i,i≠j->g i=f i):hU n g=(List.range j).filter f++j::(List.range' (j+1) (n-j-1)).filter f:=by
 rw[hU,BR h,aio,List.filter_cons_of_pos AP];congr 1
 ·exact amg λi hi=>B5 i (by have:=adF.1 hi;omega)
 ·congr 1;exact amg λi hi=>B5 i (by have:=amv.1 hi;omega)
theorem rn{l r:List Nat}(h:qc l r=true){x:Nat}(U:x∈l)(A3:x∈r):False:=by
 have:=ab2.1 h x U;simp at this;exact this A3
structure DQ(all:List Oper)(o N:Oper)(p A2:aX):Prop where
 a:∀t,o.dst=some t->t∉looks all N
 b:∀t,N.dst=some t->t∉looks all o
 c:∀t,o.dst=some t->N.dst≠some t
 d:∀k∈p.es.map (·.key),k∉A2.ks
 e:∀k∈A2.es.map (·.key),k∉p.ks
theorem Lc{all o N p A2}(h:zC all o N p A2=true):DQ all o N p A2:=by
 simp only[zC,Ds]at h;obtain⟨⟨⟨⟨I,M⟩,AQ⟩,BJ⟩,BK⟩:=h;exact⟨λt AM U=>rn I (by simp[AM]) U,λt AM U=>rn M (by simp[AM]) U,λt AM U=>rn AQ (x:=t) (by simp[AM]) (by simp[U]),λk J U=>rn BJ J U,λk J U=>rn BK J U⟩
section
variable {all:List Oper} {ps:List aX}
theorem eg(h:mX all ps=true){j:Nat}{o:Oper}(D:all[j]?=some o):∃p,ps[j]?=some p/\(∀i∈eu o,i<j)/\
 ∀i,i<j->i∈(gC all []).getD j []\/∃N A2,all[i]?=some N/\ps[i]?=some A2/\DQ all N o A2 p:=by
 have V:j<all.length:=(abM.1 D).1;have I:=ab2.1 h j (adF.2 V);unfold Hv at I;rw[D]at I;cases H:ps[j]? with
 |none=>rw[H]at I;simp at I
 |some p=>
  rw[H]at I;simp only[Ds,ab2,abQ,ahz,adF]at I;refine⟨p,rfl,I.1,λi hi=>?_⟩;rcases I.2 i hi with M|M
  ·exact .inl (by simpa using M)
  ·right;split at M
   ·rename_i N A2 O AA;exact⟨N,A2,O,AA,Lc M⟩
   ·cases M
theorem Cert.at{P:Program}{Z:Mem->Prop}{rest:List Oper}{S0 S:St}{Ap:List aX}{S1:St}(h:Cert P Z all rest S Ap S1):∀(pre:List Oper)(pp:List aX),pre.length=pp.length->all=pre++rest->ps=pp++Ap->aF all ps S0 (List.range pre.length)=S->
 aF all ps S0 (List.range all.length)=S1/\ps.length=all.length/\∀j o p,pre.length<=j->all[j]?=some o->ps[j]?=some p->(∀e∈p.es,e.key∈p.ks)/\(∀m,Z m->Z (bB m p.es))/\sy P Z all (aF all ps S0 (List.range j)) o p:=by
 induction h with
 |nil S=>
  intro pre pp U AO AX Af;simp only[aeP]at AO AX;subst AO AX;refine⟨Af,U.symm,λj o p V D _=>?_⟩;rw[afa (by omega)]at D;cases D
 |cons o rest S p Ap S1 J B2 AY A3 ih=>
  intro pre pp U AO AX Af;have A4:all[pre.length]?=some o:=by rw[AO];simp
  have AK:ps[pre.length]?=some p:=by rw[AX,U];simp
  obtain⟨I,M,AQ⟩:=ih (pre++[o]) (pp++[p]) (by simp[U]) (by rw[AO];simp) (by rw[AX];simp) (by
   rw[acg,aeu,List.range_succ,n6,Af];simp[aF,A4,AK])
  refine⟨I,M,λj N A2 V O AA=>?_⟩;rcases Nat.eq_or_lt_of_le V with rfl|V
  ·rw[A4]at O;rw[AK]at AA;cases O;cases AA;exact⟨J,B2,by rw[Af];exact AY⟩
  ·exact AQ j N A2 (by simp;omega) O AA
variable {S:St} {f:Nat->Bool}
def o6(all:List Oper)(f:Nat->Bool):Prop:=∀j o,all[j]?=some o->f j=true->∀p∈eu o,f p=true
theorem qG(Ag:ps.length=all.length)(A8:mX all ps=true)(AG:o6 all f){j:Nat}{o:Oper}{p:aX}(D:all[j]?=some o)(H:ps[j]?=some p)(V:f j=false)(Ah:∀i∈eu o,f i=true):
 kl all o p.ks (aF all ps S (hU all.length f)) (aF all ps S (List.range j)):=by
 have AR:j<all.length:=(abM.1 D).1;have Ai:∀j o,all[j]?=some o->∀p∈eu o,p<j:=λj o D=>(eg A8 D).choose_spec.2.1;obtain⟨Bh,B6,_,BL⟩:=eg A8 D;rw[H]at B6;cases B6
 --Bi Bj ahead of j is A
 have B7:∀i∈(gC all []).getD j [],i<j/\f i=true:=λi hi=>by
  obtain⟨I,M⟩:=jP (L:=λi=>f i=true) Ai (λj o D AE=>AG j o D AE) j ⟨o,D⟩ i hi;exact⟨I,M λN O=>by rw[D]at O;cases O;exact Ah⟩
 let q:Nat->Bool:=λi=>(gC all []).getD j [] |>.contains i
 have A6:∀i,q i=true↔i∈(gC all []).getD j []:=λi=>by simp[q]
 --any other A one,and any other ahead in BM text,is apart
 have B8:∀i,(i<j\/(j<i/\f i=true))->q i=false->∀A' pi,all[i]?=some A'->ps[i]?=some pi->DQ all A' o pi p\/DQ all o A' p pi:=by
  rintro i (hi|⟨hi,AT⟩) A5 A' pi Y A1
  ·rcases BL i hi with h|⟨N,A2,O,AA,h⟩
   ·rw[(A6 i).2 h]at A5;cases A5
   ·rw[Y]at O;rw[A1]at AA;cases O;cases AA;exact .inl h
  ·obtain⟨BN,AZ,_,Aq⟩:=eg A8 Y;rw[A1]at AZ;cases AZ;rcases Aq j hi with h|⟨N,A2,O,AA,h⟩
   ·have:=(jP (L:=λi=>f i=true) Ai (λj o D AE=>AG j o D AE) i ⟨A',Y⟩ j h).2 (λN O=>by rw[Y]at O;cases O;exact AG i A' Y AT);simp[V]at this
   ·rw[D]at O;rw[H]at AA;cases O;cases AA;exact .inr h
 have B9:(hU all.length f).filter q=(List.range j).filter q:=by
  rw[zD AR V,aio,aim,aim];have:(List.range' (j+1) (all.length-j-1)).filter (λa=>q a&&f a)=[]:=by
   rw[ahw];intro i hi;have:=(amv.1 hi).1;simp only[Ds,not_and];intro A5;have:=(B7 i ((A6 i).1 A5)).1;omega
  rw[this,aeP];refine amg λi hi=>?_;cases A5:q i with
  |false=>rfl
  |true=>simp[(B7 i ((A6 i).1 A5)).2]
 have U:∀i∈hU all.length f,i<j\/(j<i/\f i=true):=λi hi=>by
  have AT:=(aei.1 hi).2;rcases Nat.lt_trichotomy i j with h|h|h
  ·exact .inl h
  ·subst h;simp[V]at AT
  ·exact .inr ⟨h,AT⟩
 have A3:∀i∈List.range j,i<j\/(j<i/\f i=true):=λi hi=>.inl (adF.1 hi);refine⟨by rw[om,om],by rw[mC,mC],by rw[ew,ew],λt AM=>?_,λk J=>?_⟩
 ·have key:∀l:List Nat,(∀i∈l,i<j\/(j<i/\f i=true))->∀i∈l,∀A',all[i]?=some A'->A'.dst=some t->q i=true:=by
   intro l U i hi A' Y A0;cases A5:q i with
   |true=>rfl
   |false=>
    obtain⟨pi,A1,_⟩:=eg A8 Y;rcases B8 i (U i hi) A5 A' pi Y A1 with h|h
    ·exact absurd AM (h.a t A0)
    ·exact absurd AM (h.b t A0)
  rw[uF t q _ S S (key _ U) rfl,uF t q (List.range j) S S (key _ A3) rfl,B9]
 ·have key:∀l:List Nat,(∀i∈l,i<j\/(j<i/\f i=true))->∀i∈l,∀pi,ps[i]?=some pi->k∈pi.es.map (·.key)->q i=true:=by
   intro l U i hi pi A1 A0;cases A5:q i with
   |true=>rfl
   |false=>
    have Aj:i<ps.length:=(abM.1 A1).1;cases Y:all[i]? with
    |none=>
     rw[List.getElem?_eq_none_iff]at Y;omega
    |some A'=>
     rcases B8 i (U i hi) A5 A' pi Y A1 with h|h
     ·exact absurd J (h.d k A0)
     ·exact absurd J (h.e k A0)
  rw[mY k q _ S S (key _ U) rfl rfl,mY k q (List.range j) S S (key _ A3) rfl rfl,B9]
theorem xx(Ag:ps.length=all.length)(A8:mX all ps=true)(AG:o6 all f)(Ar:∀(j:Nat) (p:aX),ps[j]?=some p->∀e∈p.es,e.key∈p.ks)(As:(S.mem.map (·.key)).Nodup){j:Nat}{o:Oper}{p:aX}(D:all[j]?=some o)(H:ps[j]?=some p)(V:f j=false){g:Nat->Bool}(AP:g j=true)(BO:∀i,i≠j->g i=f i):
 gD (p.app o (aF all ps S (hU all.length f))) (aF all ps S (hU all.length g)):=by
 have AR:j<all.length:=(abM.1 D).1;have Ai:∀j o,all[j]?=some o->∀p∈eu o,p<j:=λj o D=>(eg A8 D).choose_spec.2.1;have At:∀i∈(List.range' (j+1) (all.length-j-1)).filter f,∀A' pi,all[i]?=some A'->ps[i]?=some pi->DQ all o A' p pi:=by
  intro i hi A' pi Y A1;obtain⟨hi,AT⟩:=aei.1 hi;have Bk:=(amv.1 hi).1;obtain⟨BN,AZ,_,Aq⟩:=eg A8 Y;rw[A1]at AZ;cases AZ;rcases Aq j (by omega)with h|⟨N,A2,O,AA,h⟩
  ·have:=(jP (L:=λi=>f i=true) Ai (λj o D AE=>AG j o D AE) i ⟨A',Y⟩ j h).2 (λN O=>by rw[Y]at O;cases O;exact AG i A' Y AT);simp[V]at this
  ·rw[D]at O;rw[H]at AA;cases O;cases AA;exact h
 rw[Qb AR AP BO,zD AR V];generalize BP:(List.range j).filter f=AC;generalize BS:(List.range' (j+1) (all.length-j-1)).filter f=AF at At;have BT:∀i∈AC++AF,i≠j:=by
  intro i hi;rw[<-BP,<-BS]at hi;rcases ab3.1 hi with h|h
  ·have:=adF.1 (aei.1 h).1;omega
  ·have:=(amv.1 (aei.1 h).1).1;omega
 have BU:∀{i pi},ps[i]?=some pi->∃A',all[i]?=some A':=λ{i pi} h=>by
  have:=(abM.1 h).1;exact⟨all[i]'(by omega),ad2 _⟩
 let q:Nat->Bool:=λi=>i != j
 have BA:(AC++j::AF).filter q=AC++AF:=by
  rw[aio,ams (by simp[q]),<-aio,List.filter_eq_self];intro i hi;simpa [q]using BT i hi
 have BB:∀S,aF all ps S (AC++j::AF)=aF all ps (p.app o (aF all ps S AC)) AF:=λS=>by
  rw[n6];simp[aF,D,H]
 have BV:(p.app o (aF all ps S (AC++AF))).mem.map (·.key)=(aF all ps S (AC++j::AF)).mem.map (·.key):=by
  rw[Cp,ew,ew]
 refine⟨by rw[uE,om,om],by rw[rm,mC,mC],Mem.ext (by rw[Cp,ew];exact As) BV λk=>?_,λt=>?_⟩
 ·by_cases J:k∈p.es.map (·.key)
  ·have I:Mem.get (p.app o (aF all ps S (AC++AF))).mem k=Mem.get (p.app o (aF all ps S AC)).mem k:=by
    simp only[aX.app,ff];exact nZ _ _ _ k (by rw[ew,ew]) (.inl J)
   rw[I,BB];rw[mY k (λ_=>false) AF _ (p.app o (aF all ps S AC)) ?_ rfl rfl]
   ·rw[ahw.2 (by simp)];rfl
   ·intro i hi pi A1 AH;obtain⟨A',Y⟩:=BU A1;have:=(At i hi A' pi Y A1).e k AH;obtain⟨e,he,rfl⟩:=ab4.1 J;exact absurd (Ar j p H e he) this
  ·rw[DP _ _ _ _ J,mY k q (AC++j::AF) S S ?_ rfl rfl,BA];intro i hi pi A1 AH;by_cases A_:i=j
   ·subst A_;rw[H]at A1;cases A1;exact absurd AH J
   ·simpa [q]using A_
 ·rw[tD];by_cases A0:o.dst=some t
  ·rw[abT A0,BB];rw[uF t (λ_=>false) AF _ (p.app o (aF all ps S AC)) ?_ rfl]
   ·rw[ahw.2 (by simp)];simp[aF,tD,A0]
   ·intro i hi A' Y Au;obtain⟨pi,A1,_⟩:=eg A8 Y;exact absurd Au ((At i hi A' pi Y A1).c t A0)
  ·rw[abN A0,uF t q (AC++j::AF) S S ?_ rfl,BA];intro i hi A' Y Au;by_cases A_:i=j
   ·subst A_;rw[D]at Y;cases Y;exact absurd Au A0
   ·simpa [q]using A_
theorem Qd{P:Program}{S0 S1:St}{φ0:bN}{G:Fr}{w0:World}{Q:Exit->Act->World->Prop}{Z:Mem->Prop}(Av:Z S0.mem)(Aa:Cert P Z all all S0 ps S1)(A8:mX all ps=true)(As:(S0.mem.map (·.key)).Nodup)
 (Aw:∀φ' A7 w',Rel φ' G S1 A7 w'->aS φ0 S0.mem w0 φ' S1.mem w'->Q .normal A7 w'):
 ∀(fuel:Nat)(A:Array Bool) φ a w,A.size=all.length->o6 all (λi=>A.getD i false)->Rel φ G (aF all ps S0 (hU all.length λi=>A.getD i false)) a w->aS φ0 S0.mem w0 φ (aF all ps S0 (hU all.length λi=>A.getD i false)).mem w->
  ((List.range all.length).filter λi=>!A.getD i false).length<=fuel->wpAny P .any all.toArray Q fuel A a w:=by
 obtain⟨Ax,Ag,AY⟩:=Cert.at (ps:=ps) (S0:=S0) Aa [] [] rfl rfl rfl rfl;have Ar:∀(j:Nat)(p:aX),ps[j]?=some p->∀e∈p.es,e.key∈p.ks:=λj p H=>by
  have BH:j<ps.length:=(abM.1 H).1;exact (AY j (all[j]'(by omega)) p (by simp) (by simp) H).1
 have BW:∀l:List Nat,Z (aF all ps S0 l).mem:=by
  have key:∀(l:List Nat)(S:St),Z S.mem->Z (aF all ps S l).mem:=by
   intro l;induction l with
   |nil=>exact λ_ h=>h
   |cons i l ih=>
    intro S h;have A4:aF all ps S (i::l)=aF all ps (aF all ps S [i]) l:=by simp[aF]
    rw[A4];refine ih _ ?_;simp only[aF,ag9,ah9];split
    ·rename_i o p D H;simp only[aX.app,ff];exact (AY i o p (by simp) D H).2.1 _ h
    ·exact h
  exact λl=>key l S0 Av
 --BM first Bl Bm A is ready
 have first:∀(f:Nat->Bool)(n:Nat),n<=all.length->(∀i,i<n->f i=true)\/∃i,i<n/\f i=false/\∀AD,AD<i->f AD=true:=by
  intro f n;induction n with
  |zero=>exact λ_=>.inl (λi hi=>by omega)
  |succ n ih=>
   intro AW;rcases ih (by omega)with h|⟨i,I,M,AQ⟩
   ·cases AE:f n with
    |true=>
     refine .inl λi hi=>?_;rcases Nat.lt_succ_iff_lt_or_eq.1 hi with Ay|Ay
     ·exact h i Ay
     ·rw[Ay];exact AE
    |false=>exact .inr ⟨n,by omega,AE,h⟩
   ·exact .inr ⟨i,by omega,M,AQ⟩
 have done:∀(A:Array Bool) φ a w,A.size=all.length->Rel φ G (aF all ps S0 (hU all.length λi=>A.getD i false)) a w->aS φ0 S0.mem w0 φ (aF all ps S0 (hU all.length λi=>A.getD i false)).mem w->Region.ready .any all.toArray A=[]->Q .normal a w:=by
  intro A φ a w Ab A3 J Ak;have BX:∀i,i<all.length->A.getD i false=true:=by
   rcases first (λi=>A.getD i false) all.length (abO _)with h|⟨i,I,M,AQ⟩
   ·exact h
   ·exfalso;have:i∈Region.ready .any all.toArray A:=by
     rw[mem_ready];refine⟨?_,all[i],by simp[I],λe he Az=>?_⟩
     ·have:i<A.size:=by omega
      simp only[abY,aeO this,aer]at M⊢;exact M
     ·obtain⟨p,_,H,_⟩:=eg A8 (show all[i]?=some all[i] by simp[I]);exact AQ e.on (H e.on (by
       simp only[eu,ab4,aei];exact⟨e,⟨by simpa using he,Az⟩,rfl⟩))
    rw[Ak]at this;cases this
  have U:(hU all.length λi=>A.getD i false)=List.range all.length:=by
   rw[hU,List.filter_eq_self];intro i hi;exact BX i (adF.1 hi)
  rw[U,Ax]at A3 J;exact Aw φ a w A3 J
 intro fuel;induction fuel with
 |zero=>
  intro A φ a w Ab AG A3 J AE;have Ak:Region.ready .any all.toArray A=[]:=by
   cases h:Region.ready .any all.toArray A with
   |nil=>rfl
   |cons i r=>
    exfalso;have hi:i∈Region.ready .any all.toArray A:=by rw[h];simp
    rw[mem_ready]at hi;obtain⟨AL,o,D,_⟩:=hi;have Aj:i<all.length:=by
     have:=(ad1.1 D).1;simpa using this
    have Ac:A.getD i false=false:=by
     have:i<A.size:=by omega
     simp only[abY,aeO this,aer]at AL⊢;exact AL
    have:i∈(List.range all.length).filter λi=>!A.getD i false:=aei.2 ⟨adF.2 Aj,by simp[Ac]⟩;have:=List.length_pos_of_mem this;omega
  exact⟨Ak,done A φ a w Ab A3 J Ak⟩
 |succ fuel ih=>
  intro A φ a w Ab AG A3 J AE;refine⟨done A φ a w Ab A3 J,λi hi=>?_⟩;rw[mem_ready]at hi;obtain⟨AL,o,D,BY⟩:=hi;have O:all[i]?=some o:=by simpa using D
  have Aj:i<all.length:=(abM.1 O).1;have BC:i<A.size:=by omega
  have Ac:A.getD i false=false:=by
   simp only[abY,aeO BC,aer]at AL⊢;exact AL
  have Ah:∀k∈eu o,A.getD k false=true:=by
   intro k AN;simp only[eu,ab4,aei]at AN;obtain⟨e,⟨he,Az⟩,rfl⟩:=AN;exact BY e (by simpa using he) Az
  obtain⟨p,H,_⟩:=eg A8 O;obtain⟨Bn,_,BZ⟩:=AY i o p (by simp) O H;have B_:=qG (S:=S0) Ag A8 AG O H Ac Ah;have B':(A.setIfInBounds i true).getD i false=true:=by simp[BC]
  have Al:∀k,k≠i->(A.setIfInBounds i true).getD k false=A.getD k false:=λk AN=>getD_set_ne false (ahl AN);have heq:=xx (S:=S0) (f:=λi=>A.getD i false) (g:=λk=>(A.setIfInBounds i true).getD k false) Ag A8 AG Ar As O H Ac B' Al;have Ba:o6 all (λk=>(A.setIfInBounds i true).getD k false):=by
   intro k ok B0 Bb x Ae;by_cases BD:x=i
   ·subst BD;exact B'
   ·show (A.setIfInBounds i true).getD x false=true;rw[Al x BD];by_cases AH:k=i
    ·subst AH;rw[O]at B0;cases B0;exact Ah x Ae
    ·exact AG k ok B0 ((Al k AH).symm.trans Bb) x Ae
  have Bc:((List.range all.length).filter λk=>!(A.setIfInBounds i true).getD k false).length<=fuel:=by
   have I:(List.range all.length).filter (λk=>!(A.setIfInBounds i true).getD k false)=((List.range all.length).filter λk=>!A.getD k false).filter (λk=>k != i):=by
    rw[aim];refine amg λk _=>?_;by_cases AH:k=i
    ·subst AH;rw[B'];simp
    ·rw[Al k AH];simp[AH]
   have Bd:i∈(List.range all.length).filter λk=>!A.getD k false:=aei.2 ⟨adF.2 Aj,by simp[Ac]⟩;rw[I];have:(((List.range all.length).filter λk=>!A.getD k false).filter (λk=>k != i)).length<((List.range all.length).filter λk=>!A.getD k false).length:=by
    rw[amq];exact⟨i,Bd,by simp⟩
   omega
  have AJ:=BZ _ B_ (BW _) φ G a w A3 (wpAny P .any all.toArray Q fuel (A.setIfInBounds i true)) Q (λφ' A7 w' B1 AN=>
   ih _ φ' A7 w' (by simpa using Ab) Ba (B1.eqv heq) (by rw[<-heq.mem];exact J.trans AN) Bc)
  unfold wpOp;rw[D];simp only
  split at AJ
  ·rename_i hw;rw[abT hw];exact .inl AJ
  ·rename_i hw;rw[abN hw];exact AJ
end
theorem Ld{P:Program}{S S1:St}{id:Nat}{ops:List Oper}{ps:List aX}{Z:Mem->Prop}(Av:Z S.mem)(hm:P.follows .mixedOrders=true)(Aa:Cert P Z ops ops S ps S1)(A8:mX ops ps=true){φ G a w}(A3:Rel φ G S a w){Q:Exit->Act->World->Prop}
 (Aw:∀φ' A7 w',Rel φ' G S1 A7 w'->aS φ S.mem w φ' S1.mem w'->Q .normal A7 w'):(Code.region id ops.toArray true).wp P Q a w:=by
 refine wp_region_any hm ?_;have Be:Rel φ G S a {w with drawn:=w.drawn+1}:=A3.grow (λ_ _=>rfl) (abO _);have BE:(hU ops.length λi=>(Array.replicate ops.length false).getD i false)=[]:=by
  rw[hU,ahw];intro i hi;simp[abY,adF.1 hi]
 refine Qd (S0:=S) (φ0:=φ) (w0:=w) (G:=G) Av Aa A8 A3.mem.nodup (λφ' A7 w' B1 AN=>Aw φ' A7 w' B1 AN) _ _ φ a _ (by simp) ?_ ?_ ?_ ?_
 ·intro j o _ V;exfalso;simp only[abY]at V;by_cases h:j<ops.length
  ·simp[h]at V
  ·simp[h]at V
 ·simp only[aem];rw[BE];exact Be
 ·simp only[aem];rw[BE];exact aS.grow (λ_ _=>rfl) (abO _) rfl rfl rfl
 ·simp only[aem];exact ahI (List.length_filter_le _ _) (by simp)
theorem aen{P:Program}{Z:Mem->Prop}{ops:List Oper}{S S1:St}{ps:List aX}(Aa:Cert P Z ops ops S ps S1):S1.n=S.n/\S1.gl=S.gl:=by
 obtain⟨Ax,_,_⟩:=Cert.at (ps:=ps) (S0:=S) Aa [] [] rfl rfl rfl rfl;rw[<-Ax];exact⟨om ..,mC ..⟩
def Cq(all:List Oper)(o N:Oper):Bool:=qc o.dst.toList (looks all N)&&qc N.dst.toList (looks all o)&&qc o.dst.toList N.dst.toList
def zI(all:List Oper)(A9:List (List Nat))(An:List (List Nat))(j:Nat):Bool:=
 match all[j]? with
 |some o=>(eu o).all (λi=>decide (i<j))&&(List.range j).all λi=>(An.getD j []).contains i||(match all[i]? with
  |some N=>Cq all N o&&((A9.getD i []).contains j&&(A9.getD j []).contains i)
  |none=>false)
 |none=>false
def Cr(all:List Oper)(A9:List (List Nat)):Bool:=(List.range all.length).all (zI all A9 (gC all []))
def Fj(ps:List aX)(es:List cB):List Nat->Bool
 |[]=>true
 |j::r=>(match ps[j]? with|some q=>qc (es.map (·.key)) q.ks|none=>false)&&Fj ps es r
def Fk(ps:List aX)(AI:List Nat):List cB->Bool
 |[]=>true
 |e::es=>Fj ps (e::es) AI
def xy(ps:List aX):List (List Nat)->List aX->Bool
 |_,[]=>true
 |[],p::r=>Fk ps [] p.es&&xy ps [] r
 |AI::A9,p::r=>Fk ps AI p.es&&xy ps A9 r
def o8(A9:List (List Nat))(ps:List aX):Bool:=xy ps A9 ps
theorem qe{ps:List aX}:∀{A9:List (List Nat)}{l:List aX},xy ps A9 l=true->∀i p,l[i]?=some p->Fk ps (A9.getD i []) p.es=true
 |_,[],_,i,p,H=>by simp at H
 |[],q::r,h,i,p,H=>by
  simp only[xy,Ds]at h;cases i with
  |zero=>simp at H;subst H;simpa using h.1
  |succ i=>have:=qe h.2 i p (by simpa using H);simpa using this
 |AI::A9,q::r,h,i,p,H=>by
  simp only[xy,Ds]at h;cases i with
  |zero=>simp at H;subst H;simpa using h.1
  |succ i=>have:=qe h.2 i p (by simpa using H);simpa using this
theorem IF{ps:List aX}{es:List cB}:∀{AI:List Nat},Fj ps es AI=true->∀j∈AI,∀q,ps[j]?=some q->qc (es.map (·.key)) q.ks=true
 |[],_,j,V,_,_=>by simp at V
 |k::r,h,j,V,q,A6=>by
  simp only[Fj,Ds]at h;rcases abV.1 V with rfl|V
  ·have:=h.1;rw[A6]at this;exact this
  ·exact IF h.2 j V q A6
theorem xz{ps:List aX}{AI:List Nat}:∀{es:List cB},Fk ps AI es=true->∀j∈AI,∀q,ps[j]?=some q->qc (es.map (·.key)) q.ks=true
 |[],_,_,_,_,_=>rfl
 |_::_,h,j,V,q,A6=>IF h j V q A6
theorem TF{all:List Oper}{A9:List (List Nat)}{ps:List aX}(AJ:Cr all A9=true)(A0:o8 A9 ps=true)(U:ps.length=all.length):mX all ps=true:=by
 unfold mX;refine ab2.2 λj V=>?_;have I:=ab2.1 AJ j V;have Bf:j<all.length:=adF.1 V;unfold zI at I;unfold Hv;have AS:ps[j]?=some (ps[j]'(by omega)):=by simp[U,Bf]
 rw[AS];cases D:all[j]? with
 |none=>rw[D]at I;cases I
 |some o=>
  rw[D]at I;simp only[Ds,ab2,abQ,ahz,adF]at I⊢;refine⟨I.1,λi hi=>?_⟩;rcases I.2 i hi with M|M
  ·exact .inl M
  ·right;have A1:ps[i]?=some (ps[i]'(by omega)):=by simp[show i<ps.length by omega]
   cases Y:all[i]? with
   |none=>rw[Y]at M;cases M
   |some N=>
    rw[Y]at M;rw[A1];simp only[Ds]at M;simp only[zC];have A4:=xz (qe A0 i _ A1) j (by simpa using M.2.1) _ AS;have AK:=xz (qe A0 j _ AS) i (by simpa using M.2.2) _ A1;have BF:=M.1;simp only[Cq,Ds]at BF;simp only[Ds];exact⟨⟨BF,A4⟩,AK⟩
def Cs(all:List Oper):Prop:=∀i,i+1<all.length->i∈(gC all []).getD (all.length-1) []
theorem BS{all:List Oper}{AW:List (List Nat)}(T:Cr all AW=true)(AX:AW.getD (all.length-1) []=[]):Cs all:=by
 intro i hi;have J:=ab2.1 T (all.length-1) (adF.2 (by omega));unfold zI at J;rw[ad2 (by omega)]at J;simp only[Ds,ab2,ahz,adF]at J;rcases J.2 i (by omega)with D|D
 ·simpa using D
 ·rw[ad2 (by omega)]at D;simp only[Ds]at D;have:=D.2.2;rw[AX]at this;cases this
def BT:aX:=⟨[],[],false,.bf⟩
section
variable {all:List Oper} {ps:List aX}
theorem Cert.at2{P:Program}{H:Mem->Prop}{rest:List Oper}{S0 S:St}{O:List aX}{S1:St}(h:Cert P H all rest S O S1):∀(pre:List Oper)(pp:List aX)(AB:List Oper)(AC:List aX),pre.length=pp.length->all=pre++rest++AB->ps=pp++O++AC->aF all ps S0 (List.range pre.length)=S->
 aF all ps S0 (List.range (pre.length+rest.length))=S1/\O.length=rest.length/\∀j o p,pre.length<=j->j<pre.length+rest.length->all[j]?=some o->ps[j]?=some p->(∀e∈p.es,e.key∈p.ks)/\(∀m,H m->H (bB m p.es))/\sy P H all (aF all ps S0 (List.range j)) o p:=by
 induction h with
 |nil S=>
  intro pre pp AB AC A6 AI Z AD;exact⟨by simpa using AD,rfl,λj o p U AJ _=>by simp at AJ;omega⟩
 |cons o rest S p O S1 y Al A7 Y ih=>
  intro pre pp AB AC A6 AI Z AD;have A':all[pre.length]?=some o:=by rw[AI];simp
  have AY:ps[pre.length]?=some p:=by rw[Z,A6];simp
  obtain⟨J,D,A8⟩:=ih (pre++[o]) (pp++[p]) AB AC (by simp[A6]) (by rw[AI];simp) (by rw[Z];simp) (by
   rw[acg,aeu,List.range_succ,n6,AD];simp[aF,A',AY])
  refine⟨by rw[<-J];simp;congr 2;omega,by simp[D],λj AZ An U AJ M AK=>?_⟩;rcases Nat.eq_or_lt_of_le U with rfl|U
  ·rw[A']at M;rw[AY]at AK;cases M;cases AK;exact⟨y,Al,by rw[AD];exact A7⟩
  ·exact A8 j AZ An (by simp;omega) (by simp at AJ⊢;omega) M AK
theorem Qe{P:Program}{S0 S1:St}{φ0:bN}{G:Fr}{w0:World}{Q:Exit->Act->World->Prop}{H:Mem->Prop}{init:List Oper}{ol:Oper}(A0:all=init++[ol])(AL:Cs all)(AM:H S0.mem){O:List aX}(AN:Cert P H all init S0 O S1)(Z:ps=O++[BT])(q:mX all ps=true)(Ao:(S0.mem.map (·.key)).Nodup)
 (AO:∀φ a w,Rel φ G S1 a w->aS φ0 S0.mem w0 φ S1.mem w->∀next:Act->World->Prop,(∀I w',Q .normal I w'->next I w')->if Region.wanted ol (yielded all.toArray a.tmps)then ol.wp P a w next Q else next (a.put ol.dst undef) w):
 ∀(fuel:Nat)(A:Array Bool) φ a w,A.size=all.length->A.getD init.length false=false->o6 all (λi=>A.getD i false)->Rel φ G (aF all ps S0 (hU all.length λi=>A.getD i false)) a w->aS φ0 S0.mem w0 φ (aF all ps S0 (hU all.length λi=>A.getD i false)).mem w->
  ((List.range all.length).filter λi=>!A.getD i false).length<=fuel->wpAny P .any all.toArray Q fuel A a w:=by
 obtain⟨Ap,A_,A7⟩:=Cert.at2 (ps:=ps) (S0:=S0) AN [] [] [ol] [BT] rfl (by simp[A0]) (by simp[Z]) rfl;have AP:all.length=init.length+1:=by rw[A0];simp
 have Aa:ps.length=all.length:=by rw[Z,AP];simp[A_]
 have AQ:all[init.length]?=some ol:=by rw[A0];simp
 have Ab:ps[init.length]?=some BT:=by rw[Z,<-A_];simp
 have Aq:∀(j:Nat)(p:aX),ps[j]?=some p->∀e∈p.es,e.key∈p.ks:=λj p E=>by
  have B7:j<ps.length:=(abM.1 E).1;by_cases U:j<init.length
  ·exact (A7 j (all[j]'(by omega)) p (by simp) (by simpa using U) (by simp) E).1
  ·have:j=init.length:=by omega
   subst this;rw[Ab]at E;cases E;simp[BT]
 have Ar:∀j o,all[j]?=some o->∀p∈eu o,p<j:=λj o N=>(eg q N).choose_spec.2.1;have As:∀l:List Nat,H (aF all ps S0 l).mem:=by
  have key:∀(l:List Nat)(S:St),H S.mem->H (aF all ps S l).mem:=by
   intro l;induction l with
   |nil=>exact λ_ h=>h
   |cons i l ih=>
    intro S h;have A':aF all ps S (i::l)=aF all ps (aF all ps S [i]) l:=by simp[aF]
    rw[A'];refine ih _ ?_;simp only[aF,ag9,ah9];split
    ·rename_i o p N E;simp only[aX.app,ff];have AE:i<all.length:=(abM.1 N).1;by_cases hi:i<init.length
     ·exact (A7 i o p (by simp) (by simpa using hi) N E).2.1 _ h
     ·have:i=init.length:=by omega
      subst this;rw[Ab]at E;cases E;exact h
    ·exact h
  exact λl=>key l S0 AM
 have first:∀(f:Nat->Bool)(n:Nat),n<=all.length->(∀i,i<n->f i=true)\/∃i,i<n/\f i=false/\∀Ac,Ac<i->f Ac=true:=by
  intro f n;induction n with
  |zero=>exact λ_=>.inl (λi hi=>by omega)
  |succ n ih=>
   intro AX;rcases ih (by omega)with h|⟨i,J,D,A8⟩
   ·cases A1:f n with
    |true=>
     refine .inl λi hi=>?_;rcases Nat.lt_succ_iff_lt_or_eq.1 hi with AR|AR
     ·exact h i AR
     ·rw[AR];exact A1
    |false=>exact .inr ⟨n,by omega,A1,h⟩
   ·exact .inr ⟨i,by omega,D,A8⟩
 have At:∀(A:Array Bool),A.size=all.length->Region.ready .any all.toArray A=[]->∀i,i<all.length->A.getD i false=true:=by
  intro A A2 A3;rcases first (λi=>A.getD i false) all.length (abO _)with h|⟨i,J,D,A8⟩
  ·exact h
  ·exfalso;have:i∈Region.ready .any all.toArray A:=by
    rw[mem_ready];refine⟨?_,all[i],by simp[J],λe he AS=>?_⟩
    ·have:i<A.size:=by omega
     simp only[abY,aeO this,aer]at D⊢;exact D
    ·obtain⟨p,_,E,_⟩:=eg q (show all[i]?=some all[i] by simp[J]);exact A8 e.on (E e.on (by
      simp only[eu,ab4,aei];exact⟨e,⟨by simpa using he,AS⟩,rfl⟩))
   rw[A3]at this;cases this
 have Au:∀(A:Array Bool),A.size=all.length->(∀i,i<all.length->A.getD i false=true)->Region.ready .any all.toArray A=[]:=by
  intro A A2 Av;cases h:Region.ready .any all.toArray A with
  |nil=>rfl
  |cons i r=>
   exfalso;have hi:i∈Region.ready .any all.toArray A:=by rw[h];simp
   rw[mem_ready]at hi;obtain⟨A9,o,N,_⟩:=hi;have AE:i<all.length:=by
    have:=(ad1.1 N).1;simpa using this
   have:=Av i AE;have D:i<A.size:=by omega
   simp only[abY,aeO D,aer]at A9 this;rw[A9]at this;cases this
 intro fuel;induction fuel with
 |zero=>
  intro A φ a w A2 AF AA Y y A1;exfalso;have:init.length∈(List.range all.length).filter λi=>!A.getD i false:=aei.2 ⟨adF.2 (by omega),by simp only[AF];rfl⟩;have:=List.length_pos_of_mem this;omega
 |succ fuel ih=>
  intro A φ a w A2 AF AA Y y A1;refine⟨λA3=>?_,λi hi=>?_⟩
  ·have:=At A A2 A3 init.length (by omega);rw[AF]at this;cases this
  rw[mem_ready]at hi;obtain⟨A9,o,N,Aw⟩:=hi;have M:all[i]?=some o:=by simpa using N
  have AE:i<all.length:=(abM.1 M).1;have Ad:i<A.size:=by omega
  have AG:A.getD i false=false:=by
   simp only[abY,aeO Ad,aer]at A9⊢;exact A9
  have AT:∀k∈eu o,A.getD k false=true:=by
   intro k A4;simp only[eu,ab4,aei]at A4;obtain⟨e,⟨he,AS⟩,rfl⟩:=A4;exact Aw e (by simpa using he) AS
  have AH:(A.setIfInBounds i true).getD i false=true:=by simp[Ad]
  have A5:∀k,k≠i->(A.setIfInBounds i true).getD k false=A.getD k false:=λk A4=>getD_set_ne false (ahl A4);by_cases Ae:i=init.length
  ·subst Ae;rw[AQ]at M;cases M;have Af:∀k,k<init.length->A.getD k false=true:=by
    intro k AU;have Ax:k∈(gC all []).getD init.length []:=by
     have:=AL k (by omega);rw[AP]at this;simpa using this
    exact (jP (L:=λi=>A.getD i false=true) Ar (λj o N A1=>AA j o N A1) init.length ⟨ol,AQ⟩ k Ax).2 (λAZ Ag=>by rw[AQ]at Ag;cases Ag;exact AT)
   have A6:(hU all.length λi=>A.getD i false)=List.range init.length:=by
    rw[hU,AP,List.range_succ,aio];have A':(List.range init.length).filter (λi=>A.getD i false)=List.range init.length:=by
     rw[List.filter_eq_self];intro k AU;exact Af k (adF.1 AU)
    rw[A'];simp only[List.filter_cons,List.filter_nil];rw[AG];simp
   have Ay:aF all ps S0 (List.range init.length)=S1:=by simpa using Ap
   rw[A6,Ay]at Y y;have T:=AO φ a w Y y (wpAny P .any all.toArray Q fuel (A.setIfInBounds init.length true)) (λI w' Ah=>by
    have A3:=Au (A.setIfInBounds init.length true) (by simpa using A2) (λk AU=>by
     by_cases V:k=init.length
     ·subst V;exact AH
     ·rw[A5 k V];exact Af k (by omega))
    cases fuel with
    |zero=>exact⟨A3,Ah⟩
    |succ fuel=>exact⟨λ_=>Ah,λi hi=>by rw[A3]at hi;cases hi⟩)
   unfold wpOp;rw[N];simp only
   split at T
   ·rename_i hw;rw[abT hw];exact .inl T
   ·rename_i hw;rw[abN hw];exact T
  ·have Az:i<init.length:=by omega
   obtain⟨p,E,_⟩:=eg q M;obtain⟨B8,_,B'⟩:=A7 i o p (by simp) (by simpa using Az) M E;have B0:=qG (S:=S0) Aa q AA M E AG AT;have heq:=xx (S:=S0) (f:=λi=>A.getD i false) (g:=λk=>(A.setIfInBounds i true).getD k false) Aa q AA Aq Ao M E AG AH A5;have B1:o6 all (λk=>(A.setIfInBounds i true).getD k false):=by
    intro k ok AV B2 x Ai;by_cases Aj:x=i
    ·subst Aj;exact AH
    ·show (A.setIfInBounds i true).getD x false=true;rw[A5 x Aj];by_cases V:k=i
     ·subst V;rw[M]at AV;cases AV;exact AT x Ai
     ·exact AA k ok AV ((A5 k V).symm.trans B2) x Ai
   have B3:((List.range all.length).filter λk=>!(A.setIfInBounds i true).getD k false).length<=fuel:=by
    have J:(List.range all.length).filter (λk=>!(A.setIfInBounds i true).getD k false)=((List.range all.length).filter λk=>!A.getD k false).filter (λk=>k != i):=by
     rw[aim];refine amg λk _=>?_;by_cases V:k=i
     ·subst V;rw[AH];simp
     ·rw[A5 k V];simp[V]
    have B4:i∈(List.range all.length).filter λk=>!A.getD k false:=aei.2 ⟨adF.2 AE,by simp[AG]⟩;rw[J];have:(((List.range all.length).filter λk=>!A.getD k false).filter (λk=>k != i)).length<((List.range all.length).filter λk=>!A.getD k false).length:=by
     rw[amq];exact⟨i,B4,by simp⟩
    omega
   have T:=B' _ B0 (As _) φ G a w Y (wpAny P .any all.toArray Q fuel (A.setIfInBounds i true)) Q (λφ' I w' B5 A4=>
    ih _ φ' I w' (by simpa using A2) (by rw[A5 _ (ahl Ae)];exact AF) B1 (B5.eqv heq) (by rw[<-heq.mem];exact y.trans A4) B3)
   unfold wpOp;rw[N];simp only
   split at T
   ·rename_i hw;rw[abT hw];exact .inl T
   ·rename_i hw;rw[abN hw];exact T
end
theorem Lf{P:Program}{S S1:St}{id:Nat}{ops init:List Oper}{ol:Oper}{O:List aX}{H:Mem->Prop}(A0:ops=init++[ol])(AL:Cs ops)(AM:H S.mem)(hm:P.follows .mixedOrders=true)(AN:Cert P H ops init S O S1)(q:mX ops (O++[BT])=true){φ G a w}(Y:Rel φ G S a w){Q:Exit->Act->World->Prop}
 (AO:∀φ' I w',Rel φ' G S1 I w'->aS φ S.mem w φ' S1.mem w'->∀next:Act->World->Prop,(∀I w',Q .normal I w'->next I w')->if Region.wanted ol (yielded ops.toArray I.tmps)then ol.wp P I w' next Q else next (I.put ol.dst undef) w'):(Code.region id ops.toArray true).wp P Q a w:=by
 refine wp_region_any hm ?_;have B6:Rel φ G S a {w with drawn:=w.drawn+1}:=Y.grow (λ_ _=>rfl) (abO _);have Ak:(hU ops.length λi=>(Array.replicate ops.length false).getD i false)=[]:=by
  rw[hU,ahw];intro i hi;simp[abY,adF.1 hi]
 refine Qe (S0:=S) (φ0:=φ) (w0:=w) (G:=G) A0 AL AM AN rfl q Y.mem.nodup AO _ _ φ a _ (by simp) ?_ ?_ ?_ ?_ ?_
 ·simp only[abY];rw[A0];simp
 ·intro j o _ U;exfalso;simp only[abY]at U;by_cases h:j<ops.length
  ·simp[h]at U
  ·simp[h]at U
 ·simp only[aem];rw[Ak];exact B6
 ·simp only[aem];rw[Ak];exact aS.grow (λ_ _=>rfl) (abO _) rfl rfl rfl
 ·simp only[aem];exact ahI (List.length_filter_le _ _) (by simp)
def fS:Mem->Nat
 |[]=>0
 |e::r=>e.ak+fS r
def fQ:List aX->Nat
 |[]=>0
 |p::r=>fS p.es+fQ r
def jR(N:Nat):Mem->Mem
 |[]=>[]
 |e::r=>(match decide (100<=e.key)with|true=>⟨e.key,N,.dead⟩|false=>e)::jR N r
def St.kill(S:St)(N:Nat):St:={S with env:=[],mem:=jR N S.mem}
def Fl:List cB->Bool
 |[]=>true
 |e::r=>decide (100<=e.key)&&Fl r
def zL(ps:List aX):List Nat->Bool
 |[]=>true
 |i::r=>(match ps[i]? with|some p=>Fl p.es|none=>false)&&zL ps r
theorem zM:∀{m:Mem}{e:cB},e∈m->e.ak<=fS m
 |_::r,e,h=>by
  rcases abV.1 h with rfl|h
  ·simp only[fS];omega
  ·have:=zM (m:=r) h;simp only[fS];omega
theorem DS:∀{ps:List aX}{p:aX},p∈ps->fS p.es<=fQ ps
 |_::r,p,h=>by
  rcases abV.1 h with rfl|h
  ·simp only[fQ];omega
  ·have:=DS (ps:=r) h;simp only[fQ];omega
theorem o9(N:Nat):∀m:Mem,(jR N m).map (·.key)=m.map (·.key)
 |[]=>rfl
 |e::r=>by
  simp only[jR,aeC,o9 N r];split<;>rfl
theorem rq{N:Nat}:∀{m:Mem}{e:cB},e∈jR N m->(∃A'∈m,100<=A'.key/\e=⟨A'.key,N,.dead⟩)\/(e∈m/\e.key<100)
 |A'::r,e,h=>by
  simp only[jR,abV]at h;rcases h with h|h
  ·by_cases U:100<=A'.key
   ·simp only[U,decide_true]at h;exact .inl ⟨A',by simp,U,h⟩
   ·simp only[U,decide_false]at h;subst h;exact .inr ⟨by simp,by omega⟩
  ·rcases rq h with ⟨AE,E,M,A3⟩|⟨E,M⟩
   ·exact .inl ⟨AE,ael _ E,M,A3⟩
   ·exact .inr ⟨ael _ E,M⟩
theorem zN(N:Nat)(k:Nat):∀m:Mem,Mem.get (jR N m) k=(Mem.get m k).map λe=>match decide (100<=e.key)with|true=>⟨e.key,N,.dead⟩|false=>e
 |[]=>rfl
 |e::r=>by
  have AE:(match decide (100<=e.key)with|true=>(⟨e.key,N,.dead⟩:cB)|false=>e).key=e.key:=by split<;>rfl
  simp only[jR,Mem.get,AE];split
  ·rfl
  ·exact zN N k r
def pa(φ:bN)(N:Nat):bN:=λk=>match φ k with
 |some L=>some (match decide (100<=k)with|true=>{L with ak:=N}|false=>L)
 |none=>none
theorem pb{φ:bN}{N k:Nat}(h:k<100):pa φ N k=φ k:=by
 unfold pa;have:decide (100<=k)=false:=by simp;omega
 rw[this];cases φ k<;>rfl
theorem Gt{φ:bN}{N k:Nat}{L:Loc}(h:100<=k)(I:φ k=some L):pa φ N k=some {L with ak:=N}:=by
 unfold pa;have:decide (100<=k)=true:=by simp;omega
 rw[this,I]
theorem acs{φ:bN}{G:Fr}{S:St}{a:Act}{w:World}{N:Nat}(h:Rel φ G S a w)(AQ:∀e∈S.mem,e.ak<N):
 Rel (pa φ N) G (S.kill N) a w/\aS φ S.mem w (pa φ N) (S.kill N).mem w:=by
 have hle:φ.le (pa φ N):=by
  intro k L I;by_cases U:100<=k
  ·obtain⟨e,he,rfl⟩:=ab4.1 (h.mem.pE k L I);obtain⟨L',AH,Af,_⟩:=h.mem.fY e he;rw[I]at AH;cases AH;have:=AQ e he;exact⟨_,Gt U I,by simp only;omega,λhh=>by simp only at hh;omega⟩
  ·exact⟨L,by rw[pb (by omega)];exact I,abO _,λ_=>rfl⟩
 have AR:∀b,iw (pa φ N) (jR N S.mem) b->iw φ S.mem b:=by
  rintro b ⟨e,he,L,I,H⟩;rcases rq he with ⟨A',V,E,rfl⟩|⟨V,E⟩
  ·exact H.elim
  ·rw[pb E]at I;exact⟨e,V,L,I,H⟩
 have Ag:∀b,Fo G (pa φ N) (jR N S.mem) b->Fo G φ S.mem b:=λb=>Or.imp id (AR b);have U:aS φ S.mem w (pa φ N) (S.kill N).mem w:=⟨hle,λ_ _ _=>rfl,λb _ T=>AR b T,abO _,rfl,rfl,rfl⟩;refine⟨⟨h.size,h.defers,(λt x AN=>nomatch AN),⟨?_,?_,?_,?_,?_,h.mem.bound⟩,h.kz.mono (λ_ _ _=>rfl) (abO _) (λb _ T=>Ag b T)⟩,U⟩
 ·show ((jR N S.mem).map (·.key)).Nodup;rw[o9];exact h.mem.nodup
 ·intro k L I;show k∈(jR N S.mem).map (·.key);rw[o9];unfold pa at I;cases J:φ k with
  |none=>rw[J]at I;cases I
  |some Ax=>exact h.mem.pE k Ax J
 ·intro e he;rcases rq he with ⟨A',V,E,rfl⟩|⟨V,E⟩
  ·obtain⟨L,I,_,_⟩:=h.mem.fY A' V;exact⟨_,Gt E I,rfl,trivial⟩
  ·obtain⟨L,I,Af,Ay⟩:=h.mem.fY e V;exact⟨L,by rw[pb E];exact I,Af,Ay.mono hle (λ_ _ _=>rfl) (abO _) (λb _ T=>Ag b T) (λ_ _=>rfl)⟩
 ·rintro e he e' Az L L' I AH ⟨b,H,O⟩;rcases rq he with ⟨A',V,E,rfl⟩|⟨V,E⟩
  ·exact H.elim
  ·rcases rq Az with ⟨AE,M,A3,rfl⟩|⟨M,A3⟩
   ·exact O.elim
   ·rw[pb E]at I;rw[pb A3]at AH;exact h.mem.apart e V e' M L L' I AH ⟨b,H,O⟩
 ·intro b T;exact h.mem.ku b (AR b T)
def AY(P:Program)(all:List Oper)(S:St)(o:Oper)(p:aX)(t:TypeId)(x:D):Prop:=
 ∀A7,kl all o p.ks A7 S->∀φ G a w,Rel φ G A7 a w->∀(next:Act->World->Prop)(R:Exit->Act->World->Prop),
  (∀φ' A0 w' v,Rel φ' G {A7 with mem:=bB A7.mem p.es} A0 w'->aS φ A7.mem w φ' (bB A7.mem p.es) w'->aO w' (Fo G φ' (bB A7.mem p.es)) x v->R (.panic [{v:=.iface t v,recovered:=false}]) A0 w')->
  if Region.wanted o (yielded all.toArray a.tmps)then o.wp P a w next R else next (a.put o.dst undef) w
section
variable {all:List Oper} {ps:List aX}
theorem Qf{m:Mem}{x e:cB}(h:e∈Mem.set m x):e∈m\/e=x:=by
 induction m with
 |nil=>exact .inl h
 |cons y r ih=>
  simp only[Mem.set]at h;split at h
  ·rcases abV.1 h with h|h
   ·exact .inr h
   ·exact .inl (ael _ h)
  ·rcases abV.1 h with h|h
   ·exact .inl (by simp[h])
   ·rcases ih h with h|h
    ·exact .inl (ael _ h)
    ·exact .inr h
theorem zO:∀{es:List cB}{m:Mem}{e:cB},e∈bB m es->e∈m\/e∈es
 |[],m,e,h=>.inl h
 |x::r,m,e,h=>by
  have E:e∈bB (Mem.set m x) r:=h;rcases zO E with h|h
  ·rcases Qf h with h|h
   ·exact .inl h
   ·exact .inr (by simp[h])
  ·exact .inr (ael _ h)
theorem DT(B:Nat)(Ah:∀p∈ps,∀e∈p.es,e.ak<B):∀(l:List Nat)(S:St),(∀e∈S.mem,e.ak<B)->∀e∈(aF all ps S l).mem,e.ak<B
 |[],S,h=>h
 |i::l,S,h=>by
  have AE:aF all ps S (i::l)=aF all ps (aF all ps S [i]) l:=by simp[aF]
  rw[AE];refine DT B Ah l _ ?_;simp only[aF,ag9,ah9];split
  ·rename_i o p H J;simp only[aX.app,ff];intro e he;rcases zO he with he|he
   ·exact h e he
   ·exact Ah p (abU J) e he
  ·exact h
variable {S:St} {f:Nat->Bool}
theorem Lg(AI:ps.length=all.length)(A1:mX all ps=true)(Y:o6 all f){j:Nat}{o:Oper}(H:all[j]?=some o)(AS:f j=false)(A8:∀i∈eu o,f i=true)
 (AT:∀i p,ps[i]?=some p->i≠j->i∉(gC all []).getD j []->j∉(gC all []).getD i []->∀e∈p.es,100<=e.key) {k:Nat} (U:k<100):
 Mem.get (aF all ps S (hU all.length f)).mem k=Mem.get (aF all ps S (List.range j)).mem k:=by
 have B':j<all.length:=(abM.1 H).1;have AJ:∀j o,all[j]?=some o->∀p∈eu o,p<j:=λj o H=>(eg A1 H).choose_spec.2.1;have Ai:∀i∈(gC all []).getD j [],i<j/\f i=true:=λi hi=>by
  obtain⟨E,M⟩:=jP (L:=λi=>f i=true) AJ (λj o H Z=>Y j o H Z) j ⟨o,H⟩ i hi;exact⟨E,M λAj O=>by rw[H]at O;cases O;exact A8⟩
 have AU:∀i,f i=true->i<all.length->j∉(gC all []).getD i []:=by
  intro i B0 AF A9;obtain⟨A4,AK⟩:∃A4,all[i]?=some A4:=⟨all[i],by simp[AF]⟩;have:=(jP (L:=λi=>f i=true) AJ (λj o H Z=>Y j o H Z) i ⟨A4,AK⟩ j A9).2 (λAj O=>by rw[AK]at O;cases O;exact Y i A4 AK B0);simp[AS]at this
 let q:Nat->Bool:=λi=>(gC all []).getD j [] |>.contains i
 have AV:∀i,q i=true↔i∈(gC all []).getD j []:=λi=>by simp[q]
 have B1:(hU all.length f).filter q=(List.range j).filter q:=by
  rw[zD B' AS,aio,aim,aim];have M:(List.range' (j+1) (all.length-j-1)).filter (λa=>q a&&f a)=[]:=by
   rw[ahw];intro i hi;have:=(amv.1 hi).1;simp only[Ds,not_and];intro A5;have:=(Ai i ((AV i).1 A5)).1;omega
  rw[M,aeP];refine amg λi hi=>?_;cases A5:q i with
  |false=>simp
  |true=>simp[(Ai i ((AV i).1 A5)).2]
 have B2:∀i p,ps[i]?=some p->i≠j->q i=false->j∉(gC all []).getD i []->k∉p.es.map (·.key):=by
  intro i p J AA A5 A9 A2;obtain⟨e,he,rfl⟩:=ab4.1 A2;have:=AT i p J AA (λh=>by rw[(AV i).2 h]at A5;cases A5) A9 e he;omega
 have side:∀(i:Nat)(p:aX),i≠j->j∉(gC all []).getD i []->ps[i]?=some p->k∈p.es.map (·.key)->q i=true:=by
  intro i p AA A9 J A2;cases A5:q i with
  |true=>rfl
  |false=>exact absurd A2 (B2 i p J AA A5 A9)
 rw[mY k q (hU all.length f) S S (λi hi p J A2=>by
  have AW:=aei.1 hi;have AF:=adF.1 AW.1;refine side i p (λh=>by subst h;simp[AS]at AW) (AU i AW.2 AF) J A2) rfl rfl,
  mY k q (List.range j) S S (λi hi p J A2=>by
   have AF:=adF.1 hi;refine side i p (by omega) (λh=>?_) J A2;obtain⟨A4,AK⟩:∃A4,all[i]?=some A4:=⟨all[i]'(by omega),by simp[show i<all.length by omega]⟩
   have:=(jP (L:=λ_=>True) AJ (λ_ _ _ _ _ _=>trivial) i ⟨A4,AK⟩ j h).1;omega) rfl rfl,B1]
theorem TH{P:Program}{S0 S1:St}{φ0:bN}{G:Fr}{w0:World}{Q:Exit->Act->World->Prop}{j:Nat}{Ak:Oper}{AB:aX}{t:TypeId}{x:D}
 (AI:ps.length=all.length) (A1:mX all ps=true) (Al:(S0.mem.map (·.key)).Nodup) (B3:∀(i:Nat)(p:aX),ps[i]?=some p->∀e∈p.es,e.key∈p.ks)
 (B4:∀i o p,all[i]?=some o->ps[i]?=some p->i≠j->j∉(gC all []).getD i []->km P all (aF all ps S0 (List.range i)) o p)
 (AO:all[j]?=some Ak) (An:ps[j]?=some AB) (B5:AY P all (aF all ps S0 (List.range j)) Ak AB t x)
 (AT:∀i p,ps[i]?=some p->i≠j->i∉(gC all []).getD j []->j∉(gC all []).getD i []->∀e∈p.es,100<=e.key)
 (B6:S1.n=S0.n) (B7:S1.gl=S0.gl) (B8:S1.env=[]) (B9:S1.mem=jR (fS S0.mem+fQ ps+1) (bB (aF all ps S0 (List.range j)).mem AB.es))
 (BA:∀φ' A0 w' v,Rel φ' G S1 A0 w'->aS φ0 S0.mem w0 φ' S1.mem w'->aO w' (Fo G φ' S1.mem) x v->Q (.panic [{v:=.iface t v,recovered:=false}]) A0 w'):
 ∀(fuel:Nat)(A:Array Bool) φ a w,A.size=all.length->o6 all (λi=>A.getD i false)->A.getD j false=false->Rel φ G (aF all ps S0 (hU all.length λi=>A.getD i false)) a w->aS φ0 S0.mem w0 φ (aF all ps S0 (hU all.length λi=>A.getD i false)).mem w->
  ((List.range all.length).filter λi=>!A.getD i false).length<=fuel->wpAny P .any all.toArray Q fuel A a w:=by
 have Ao:j<all.length:=(abM.1 AO).1;have AJ:∀j o,all[j]?=some o->∀p∈eu o,p<j:=λj o H=>(eg A1 H).choose_spec.2.1;have first:∀(f:Nat->Bool)(n:Nat),n<=all.length->(∀i,i<n->f i=true)\/∃i,i<n/\f i=false/\∀Ap,Ap<i->f Ap=true:=by
  intro f n;induction n with
  |zero=>exact λ_=>.inl (λi hi=>by omega)
  |succ n ih=>
   intro BP;rcases ih (by omega)with h|⟨i,E,M,A3⟩
   ·cases Z:f n with
    |true=>
     refine .inl λi hi=>?_;rcases Nat.lt_succ_iff_lt_or_eq.1 hi with AX|AX
     ·exact h i AX
     ·rw[AX];exact Z
    |false=>exact .inr ⟨n,by omega,Z,h⟩
   ·exact .inr ⟨i,by omega,M,A3⟩
 have done:∀(A:Array Bool),A.size=all.length->A.getD j false=false->Region.ready .any all.toArray A=[]->False:=by
  intro A AP AC BB;rcases first (λi=>A.getD i false) all.length (abO _)with h|⟨i,E,M,A3⟩
  ·have:=h j Ao;simp only[AC]at this;cases this
  ·have:i∈Region.ready .any all.toArray A:=by
    rw[mem_ready];refine⟨?_,all[i],by simp[E],λe he T=>?_⟩
    ·have:i<A.size:=by omega
     simp only[abY,aeO this,aer]at M⊢;exact M
    ·obtain⟨p,_,J,_⟩:=eg A1 (show all[i]?=some all[i] by simp[E]);exact A3 e.on (J e.on (by
      simp only[eu,ab4,aei];exact⟨e,⟨by simpa using he,T⟩,rfl⟩))
   rw[BB]at this;cases this
 intro fuel;induction fuel with
 |zero=>
  intro A φ a w AP Y AC AZ U Z;exfalso;have:j∈(List.range all.length).filter λi=>!A.getD i false:=aei.2 ⟨adF.2 Ao,by simp[AC]⟩;have:=List.length_pos_of_mem this;omega
 |succ fuel ih=>
  intro A φ a w AP Y AC AZ U Z;refine⟨λh=>(done A AP AC h).elim,λi hi=>?_⟩;rw[mem_ready]at hi;obtain⟨V,o,H,BC⟩:=hi;have O:all[i]?=some o:=by simpa using H
  have AF:i<all.length:=(abM.1 O).1;have Aq:i<A.size:=by omega
  have AL:A.getD i false=false:=by
   simp only[abY,aeO Aq,aer]at V⊢;exact V
  have A8:∀k∈eu o,A.getD k false=true:=by
   intro k A6;simp only[eu,ab4,aei]at A6;obtain⟨e,⟨he,T⟩,rfl⟩:=A6;exact BC e (by simpa using he) T
  by_cases AA:i=j
  ·subst AA;rw[AO]at O;cases O;have A_:=qG (S:=S0) AI A1 Y AO An AL A8;have AD:=B5 _ A_ φ G a w AZ (wpAny P .any all.toArray Q fuel (A.setIfInBounds i true)) Q (λφ' A0 w' v Aa A6 AQ=>by
    have Ar:∀p∈ps,∀e∈p.es,e.ak<fS S0.mem+fQ ps+1:=by
     intro p J e he;have E:=zM he;have M:=DS J;omega
    have BD:∀e∈S0.mem,e.ak<fS S0.mem+fQ ps+1:=by
     intro e he;have E:=zM he;omega
    have BE:∀e∈bB (aF all ps S0 (hU all.length λi=>A.getD i false)).mem AB.es,e.ak<fS S0.mem+fQ ps+1:=by
     intro e he;rcases zO he with he|he
     ·exact DT _ Ar _ _ BD e he
     ·exact Ar AB (abU An) e he
    obtain⟨As,Ab⟩:=acs Aa BE;have Ac:jR (fS S0.mem+fQ ps+1) (bB (aF all ps S0 (hU all.length λi=>A.getD i false)).mem AB.es)=S1.mem:=by
     rw[B9];refine Mem.ext ?_ ?_ λk=>?_
     ·rw[o9,j5,ew];exact Al
     ·simp only[o9,j5,ew]
     ·rw[zN,zN];by_cases BF:k<100
      ·congr 1;exact nZ _ _ _ k (by simp only[ew]) (.inr (Lg AI A1 Y AO AL A8 AT BF))
      ·have At:∀(m:Mem),(Mem.get m k).map (λe:cB=>match decide (100<=e.key)with|true=>(⟨e.key,fS S0.mem+fQ ps+1,.dead⟩:cB)|false=>e)=if k∈m.map (·.key)then some ⟨k,fS S0.mem+fQ ps+1,.dead⟩else none:=by
        intro m;cases Au:Mem.get m k with
        |none=>
         rw[abN]
         ·rfl
         ·intro A2;obtain⟨e,he,BG⟩:=ab4.1 A2;have:∀(m:Mem),e∈m->Mem.get m k≠none:=by
           intro m;induction m with
           |nil=>intro h;cases h
           |cons y r BH=>
            intro h;simp only[Mem.get];split
            ·simp
            ·rename_i BI;rcases abV.1 h with rfl|h
             ·exact absurd BG BI
             ·exact BH h
          exact this m he Au
        |some e=>
         obtain⟨E,M⟩:=Mem.get_mem Au;have:decide (100<=e.key)=true:=by simp;omega
         simp only[ahj,this];rw[abT (M▸ab7 E),M]
       rw[At,At];simp only[j5,ew]
    have BJ:({(aF all ps S0 (hU all.length λi=>A.getD i false))with mem:=bB (aF all ps S0 (hU all.length λi=>A.getD i false)).mem AB.es}:St).kill (fS S0.mem+fQ ps+1)=S1:=by
     have BK:(aF all ps S0 (hU all.length λi=>A.getD i false)).n=S1.n:=by rw[om,B6]
     have a2:(aF all ps S0 (hU all.length λi=>A.getD i false)).gl=S1.gl:=by rw[mC,B7]
     unfold St.kill;simp only[Ac,BK,a2];rw[<-B8]
    rw[BJ]at As Ab;refine BA _ A0 w' v As (U.trans (A6.trans Ab)) (AQ.mono (λ_ _ _=>rfl) (abO _) (λb T=>Or.imp id (Ab.own b T))))
   unfold wpOp;rw[H];simp only
   split at AD
   ·rename_i hw;rw[abT hw];exact .inl AD
   ·rename_i hw;rw[abN hw];exact AD
  ·obtain⟨p,J,_⟩:=eg A1 O;have AU:j∉(gC all []).getD i []:=by
    intro A9;have:=(jP (L:=λi=>A.getD i false=true) AJ (λj o H Z=>Y j o H Z) i ⟨o,O⟩ j A9).2 (λAj Av=>by rw[O]at Av;cases Av;exact A8);rw[AC]at this;cases this
   have BL:=B4 i o p O J AA AU;have A_:=qG (S:=S0) AI A1 Y O J AL A8;have Ad:(A.setIfInBounds i true).getD i false=true:=by simp[Aq]
   have AM:∀k,k≠i->(A.setIfInBounds i true).getD k false=A.getD k false:=λk A6=>getD_set_ne false (ahl A6);have heq:=xx (S:=S0) (f:=λi=>A.getD i false) (g:=λk=>(A.setIfInBounds i true).getD k false) AI A1 Y B3 Al O J AL Ad AM;have BM:o6 all (λk=>(A.setIfInBounds i true).getD k false):=by
    intro k ok Ae BN x AN;by_cases Aw:x=i
    ·subst Aw;exact Ad
    ·show (A.setIfInBounds i true).getD x false=true;rw[AM x Aw];by_cases AG:k=i
     ·subst AG;rw[O]at Ae;cases Ae;exact A8 x AN
     ·exact Y k ok Ae ((AM k AG).symm.trans BN) x AN
   have BO:((List.range all.length).filter λk=>!(A.setIfInBounds i true).getD k false).length<=fuel:=by
    have E:(List.range all.length).filter (λk=>!(A.setIfInBounds i true).getD k false)=((List.range all.length).filter λk=>!A.getD k false).filter (λk=>k != i):=by
     rw[aim];refine amg λk _=>?_;by_cases AG:k=i
     ·subst AG;rw[Ad];simp
     ·rw[AM k AG];simp[AG]
    have Ac:i∈(List.range all.length).filter λk=>!A.getD k false:=aei.2 ⟨adF.2 AF,by simp[AL]⟩;rw[E];have:(((List.range all.length).filter λk=>!A.getD k false).filter (λk=>k != i)).length<((List.range all.length).filter λk=>!A.getD k false).length:=by
     rw[amq];exact⟨i,Ac,by simp⟩
    omega
   have AD:=BL _ A_ φ G a w AZ (wpAny P .any all.toArray Q fuel (A.setIfInBounds i true)) Q (λφ' A0 w' Aa A6=>
    ih _ φ' A0 w' (by simpa using AP) BM (by rw[AM j (λh=>AA h.symm)];exact AC) (Aa.eqv heq) (by rw[<-heq.mem];exact U.trans A6) BO)
   unfold wpOp;rw[H];simp only
   split at AD
   ·rename_i hw;rw[abT hw];exact .inl AD
   ·rename_i hw;rw[abN hw];exact AD
end
inductive Gh where
 |trim (k:Nat)
 |freeze (k:Nat)
 |jS (U j k sz:Nat)
 |xA (k H:Nat)
 |tE (k H:Nat)
 |cls (k H:Nat)
 |shut (k:Nat)
 |tF (U j k:Nat)
abbrev br:=FuncId->List AV->List ay->Option (Out×List (Nat×ay))
structure Ctx where
 P:Program
 gl:List (Nat×D)
 pZ:FuncId->Nat->List Nat
 gh:FuncId->Nat->List Gh
 md:FuncId->Nat->Bool
 fp:FuncId->ax
 od:FuncId->Nat->List (List Nat)
 wm:FuncId->Option (List AV->Option AV)
 fl:FuncId->Nat->List (Nat×Nat)
 ov:Option br
def gE(P:Program)(g:FuncId):Bool:=
 match P.funcs[g]? with
 |some fn=>fn.body.isSome&&!(fn.name == "runtime.NumGoroutine")
 |none=>false
mutual
def m4:AV->List Nat
 | .vec _ _ _ _=>[]
 | .ptr k _ _=>[k]
 | .cN k _ _ _=>[k]
 | .agg cs=>tG cs
 | .fn _ cap=>kL cap
 | .bY vs=>tG vs
 |_=>[]
def tG:List AV->List Nat
 |[]=>[]
 |x::r=>m4 x++tG r
end
mutual
def sR:AV->List Nat
 | .vec k _ _ _=>[k]
 | .agg cs=>tH cs
 | .bY vs=>tH vs
 |_=>[]
def tH:List AV->List Nat
 |[]=>[]
 |x::r=>sR x++tH r
end
def kO(mt:List Nat):Nat->List AV->List Nat
 |_,[]=>[]
 |i,x::r=>(match mt.contains i with|true=>iM x|false=>m4 x)++kO mt (i+1) r
def tI(mt:List Nat):Nat->List AV->List Nat
 |_,[]=>[]
 |i,x::r=>(match mt.contains i with|true=>[]|false=>sR x)++tI mt (i+1) r
structure eZ where
 out:Out
 es:List cB
 ks:List Nat
def upO(ρ AI:List Nat):Out->Out
 | .ret x=>.ret (up ρ AI x)
 | .panic t x=>.panic t x
def zP:Out->Bool
 | .ret x=>dI x
 | .panic _ x=>ie x
def nM:List (Nat×ay)->Bool
 |[]=>true
 |(_,c)::r=>lP c&&nM r
def xB(m:Mem)(ρ:List Nat):List Nat->Bool
 |[]=>true
 |k::r=>(Mem.get m k).isSome&&!ρ.contains k&&xB m ρ r
def fA(m:Mem)(O:Nat)(ρ B:List Nat):Option (Out×List (Nat×ay))->Option eZ
 |some (out,T)=>
  if (decide (ρ.length<=T.length)&&xB m ρ (List.range' (O+1) (T.length-ρ.length))&&(B.isEmpty||(zP out&&nM T)))=true then
   some ⟨upO (ρ++List.range' (O+1) (T.length-ρ.length)) (base m 0 ρ++base m 1 (List.range' (O+1) (T.length-ρ.length))) out,
    iC (ρ++List.range' (O+1) (T.length-ρ.length)) (base m 0 ρ++base m 1 (List.range' (O+1) (T.length-ρ.length))) 0 T,ρ++B++List.range' (O+1) (T.length-ρ.length)⟩
  else none
 |none=>none
def Fm(N:Nat)(T:List (Nat×ay)):Out->Out
 | .ret x=>.ret (vw (dB 0 T) (List.range N) (λ_=>true) (λ_ v=>v) x).norm
 | .panic t x=>.panic t x
def qg(N:Nat)(b:Bool):Option (Out×List (Nat×ay))->Option (Out×List (Nat×ay))
 |some (out,T)=>if (b&&decide (N<T.length))=true then some (Fm N T out,ef (dB 0 T) (List.range N) (λ_=>true) (λ_ v=>v) 0 (List.range N))else some (out,T)
 |none=>none
def gQ(rw:Bool)(m:Mem)(ρ B:List Nat):List AV->List AV
 |[]=>[]
 |y::r=>BN rw (vw m ρ (λk=>B.contains k) gO y)::gQ rw m ρ B r
def n7:List (Nat×ay)->List ay
 |[]=>[]
 |(_,c)::r=>c::n7 r
def lW(A:br)(m:Mem)(O:Nat)(g:FuncId)(V:List AV)(rw:Bool)(ρ B:List Nat):Option eZ:=
 fA m O ρ B (qg ρ.length (Mem.get m (O+1)).isNone (A g (gQ rw m ρ B V) (n7 (ef m ρ (λk=>B.contains k) gO 0 ρ))))
def lX(A:br)(m:Mem)(O:Nat)(g:FuncId)(V:List AV)(mt ρ:List Nat):Option eZ:=
 lW A m O g V (mt.contains 1000) ρ ((tI mt 0 V).filter λk=>!ρ.contains k)
def dO(A:br)(m:Mem)(O:Nat)(g:FuncId)(V:List AV)(mt:List Nat):Option eZ:=
 lX A m O g V mt (collect m 64 (kO mt 0 V) [])
def tJ(S:St)(d:Option Nat):Option eZ->Option (XE×St)
 |some ⟨.ret x,es,_⟩=>some (.normal,({S with mem:=bB S.mem es}:St).put d true x)
 |some ⟨.panic t x,es,_⟩=>some (.panic t x,{S with mem:=bB S.mem es})
 |none=>none
def dp(S:St):List Operand->List AV
 |[]=>[]
 |x::r=>(S.aq x).2::dp S r
def AZ(n g:Nat):FuncId:=
 match decide (n<=g)with
 |true=>g-n
 |false=>g
def ny(g:FuncId):FuncId:=AZ r8 g
def sS(n g:Nat)(V Z:List AV):List AV:=
 match decide (n<=g)with
 |true=>Z++V
 |false=>V++Z
def ig(g:FuncId)(V Z:List AV):List AV:=sS r8 g V Z
mutual
def zQ:D->D->Bool
 | .int k n,.int A' A4=>decide (k=A')&&decide (n=A4)
 | .bool b,.bool A5=>decide (b=A5)
 | .str s,.str AJ=>decide (s=AJ)
 | .list a,.list b=>xC a b
 | .agg a,.agg b=>xC a b
 | .yA,.yA=>true
 |_,_=>false
def xC:List D->List D->Bool
 |[],[]=>true
 |a::r,b::s=>zQ a b&&xC r s
 |_,_=>false
end
def Fp:AV->AV->Bool
 | .d x,.d y=>zQ x y
 | .ptr k v o,.ptr A' AA AB=>decide (k=A')&&(decide (v=AA)&&decide (o=AB))
 | .vec k v o n,.vec A' AA AB A4=>decide (k=A')&&(decide (v=AA)&&(decide (o=AB)&&decide (n=A4)))
 |_,_=>false
def A0:List AV->List AV->Bool
 |[],[]=>true
 |a::r,b::s=>Fp a b&&A0 r s
 |_,_=>false
def zR:ay->ay->Bool
 | .box a,.box b=>A0 a b
 | .vec n a,.vec A4 b=>decide (n=A4)&&xC a b
 |_,_=>false
def Hx(e:cB):Option cB->Bool
 |some x=>decide (x.ak=e.ak)&&zR x.cont e.cont
 |none=>false
def qh(m:Mem):List cB->Bool
 |[]=>true
 |e::r=>Hx e (Mem.get m e.key)&&qh m r
def Qi:Bool->eZ->eZ
 |true,c=>⟨c.out,[],c.ks⟩
 |false,c=>c
def xD:Bool->Mem->Option eZ->Option eZ
 |true,m,some c=>some (Qi (qh m c.es) c)
 |true,_,none=>none
 |false,_,r=>r
def cF(X:Ctx)(A:br)(S:St)(o:Oper)(args:List Operand):Bool×AV->Option eZ
 |(true,.fn g Z)=>if iB S args=true then xD ((X.fp (ny g)).vm.contains 2000) S.mem (dO A S.mem (keyOf o) (ny g) (ig g (dp S args) Z) (X.fp (ny g)).vm)else none
 |_=>none
def Ct(S:St):Bool×AV->Option (XE×St)
 |(true,.gw t d)=>some (.panic t d,S)
 |_=>none
def rr(X:Ctx)(A:br)(S:St)(o:Oper):Option (XE×St):=
 match o.op with
 | .call {callee:=.value A6,args,..}=>tJ S o.dst (cF X A S o args.toList (S.aq A6))
 | .panic x=>Ct S (S.aq x)
 |_=>none
def gR(X:Ctx)(A:br)(S:St)(o:Oper):du->Option (XE×St)
 | .val c x=>if (gn S o&&c)=true then some (.normal,S.put o.dst true x)else none
 | .dg c x e=>if (gn S o&&c)=true then some (.normal,({S with mem:=Mem.set S.mem e}:St).put o.dst true x)else none
 | .no=>rr X A S o
def oL(X:Ctx)(A:br)(S:St)(o:Oper)(b:Bool):du->Option (XE×St)
 | .val c x=>if b=true->(gn S o&&c)=true then some (.normal,S.put o.dst b x)else none
 |r=>if b=true then gR X A S o r else some (.normal,S.put o.dst true .bf)
def St.cz(S:St)(d:Option Nat)(b:Bool):St:=S.put d true (.d (.bool b))
def lG(all:List Oper)(j:Nat):Option Nat:=
 match all[j]? with
 |some o=>o.dst
 |none=>none
inductive GV where
 |ru (t:Bool)
 |skip
 |bad
def gvD:D->GV
 | .bool t=>.ru t
 |_=>.bad
def gvT:List AV->GV
 |[]=>.skip
 |_::_=>.bad
def TI:AV->GV
 | .d x=>gvD x
 | .bY vs=>gvT vs
 |_=>.bad
def pe:Option (Bool×AV)->GV
 |some (true,x)=>TI x
 |_=>.bad
theorem IJ{x:Option (Bool×AV)}{t:Bool}(h:pe x=.ru t):x=some (true,.d (.bool t)):=by
 rcases x with _|⟨g,y⟩
 ·cases h
 ·cases g
  ·cases h
  ·cases y with
   |d y=>cases y<;>simp_all [pe,TI,gvD]
   |bY vs=>cases vs<;>simp_all [pe,TI,gvT]
   |_=>cases h
theorem Gu{x:Option (Bool×AV)}(h:pe x=.skip):x=some (true,.bY []):=by
 rcases x with _|⟨g,y⟩
 ·cases h
 ·cases g
  ·cases h
  ·cases y with
   |d y=>cases y<;>simp_all [pe,TI,gvD]
   |bY vs=>cases vs<;>simp_all [pe,TI,gvT]
   |_=>cases h
def m5(X:Ctx)(A:br)(md:Bool)(all:List Oper)(S:St)(o:Oper):Option (XE×St):=
 match o.guard with
 |none=>gR X A S o (di X.P S o)
 |some (j,Y)=>match pe (oV all S j)with
  | .ru t=>match md with
   |false=>oL X A S o (t == Y) (di X.P S o)
   |true=>if (t == Y)=true then gR X A (S.cz (lG all j) Y) o (di X.P (S.cz (lG all j) Y) o)else some (.normal,(S.cz (lG all j) (!Y)).put o.dst true (.bY []))
  | .skip=>some (.normal,S.put o.dst true (.bY []))
  | .bad=>none
def andThen(r:Option (XE×St))(k:St->Option (XE×St)):Option (XE×St):=
 match r with
 |some (.normal,S)=>k S
 |r=>r
def fB(X:Ctx)(A:br)(md:Bool)(all:List Oper):List Oper->St->Option (XE×St)
 |[],S=>some (.normal,S)
 |o::r,S=>andThen (m5 X A md all S o) (fB X A md all r)
def xE(S:St)(o:Oper):Option eZ->Option (St×aX)
 |some ⟨.ret x,es,ks⟩=>some ((⟨ks,es,true,x⟩:aX).app o S,⟨ks,es,true,x⟩)
 |_=>none
def n8(X:Ctx)(A:br)(S:St)(o:Oper):Option (St×aX):=
 match o.op with
 | .call {callee:=.value A6,args,..}=>xE S o (cF X A S o args.toList (S.aq A6))
 |_=>none
def fi(X:Ctx)(A:br)(S:St)(o:Oper):du->Option (St×aX)
 | .val c x=>if (gn S o&&c)=true then some (S.put o.dst true x,⟨iS S o,[],true,x⟩)else none
 | .dg c x e=>if (gn S o&&c&&(iS S o).contains e.key)=true then some (({S with mem:=Mem.set S.mem e}:St).put o.dst true x,⟨iS S o,[e],true,x⟩)else none
 | .no=>n8 X A S o
def rA(X:Ctx)(A:br)(S:St)(o:Oper)(b:Bool):du->Option (St×aX)
 | .val c x=>if b=true->(gn S o&&c)=true then some (S.put o.dst b x,⟨iS S o,[],b,x⟩)else none
 |r=>if b=true then fi X A S o r else some (S.put o.dst true .bf,⟨[],[],true,.bf⟩)
def eE(X:Ctx)(A:br)(md:Bool)(all:List Oper)(S:St)(o:Oper):Option (St×aX):=
 match o.guard with
 |none=>fi X A S o (di X.P S o)
 |some (j,Y)=>match pe (oV all S j)with
  | .ru t=>match md with
   |false=>rA X A S o (t == Y) (di X.P S o)
   |true=>if (t == Y)=true then fi X A (S.cz (lG all j) Y) o (di X.P (S.cz (lG all j) Y) o)else some ((S.cz (lG all j) (!Y)).put o.dst true (.bY []),⟨[],[],true,.bY []⟩)
  | .skip=>some (S.put o.dst true (.bY []),⟨[],[],true,.bY []⟩)
  | .bad=>none
def xF(I:List aX)(r:Option (St×aX))(k:St->List aX->Option (XE×St)):Option (XE×St):=
 match r with
 |some (S,p)=>k S (p::I)
 |none=>none
structure IK where
 S:St
 t:TypeId
 x:D
 es:List cB
 ks:List Nat
def vq(S:St):Option eZ->Option IK
 |some ⟨.panic t x,es,ks⟩=>some ⟨{S with mem:=bB S.mem es},t,x,es,ks⟩
 |_=>none
def IL(X:Ctx)(A:br)(S:St)(o:Oper):Option IK:=
 match o.op with
 | .call {callee:=.value A6,args,..}=>vq S (cF X A S o args.toList (S.aq A6))
 |_=>none
def Cu(X:Ctx)(A:br)(S:St)(o:Oper):du->Option IK
 | .no=>IL X A S o
 |_=>none
def kP(X:Ctx)(A:br)(S:St)(o:Oper):Option IK:=
 match o.guard with
 |none=>Cu X A S o (di X.P S o)
 |some _=>none
def rV(X:Ctx)(md:Bool)(all:List Oper)(A8:List Nat):Nat->List Oper->St->List aX->Option (List aX)
 |_,[],_,I=>some I.reverse
 |i,o::r,S,I=>match A8.contains i with
  |true=>match eE X (λ_ _ _=>none) md all S o with
   |some (S1,p)=>rV X md all A8 (i+1) r S1 (p::I)
   |none=>none
  |false=>rV X md all A8 (i+1) r (S.put o.dst false .bf) (⟨[],[],false,.bf⟩::I)
def Qj(J:Nat×List (List Nat))(A8:List Nat)(t:TypeId)(x:D)(S:St):Option (List aX)->Option (XE×St)
 |some ps=>if (o8 J.2 ps&&zL ps A8)=true then some (.panic t x,S.kill (J.1+fQ ps+1))else none
 |none=>none
def Qk(X:Ctx)(md:Bool)(J:Nat×List (List Nat))(all r:List Oper)(d:Option Nat)(I:List aX)(q:IK):Option (XE×St):=
 Qj J (J.2.getD I.length []) q.t q.x q.S (rV X md all (J.2.getD I.length []) (I.length+1) r (q.S.put d true .bf) (⟨q.ks,q.es,true,.bf⟩::I))
def nz(X:Ctx)(A:br)(md:Bool)(J:Nat×List (List Nat))(all r:List Oper)(S:St)(o:Oper)(I:List aX)(k:St->List aX->Option (XE×St)):Option IK->Option (XE×St)
 |some q=>Qk X md J all r o.dst I q
 |none=>xF I (eE X A md all S o) k
def ij(X:Ctx)(A:br)(md:Bool)(J:Nat×List (List Nat))(all:List Oper):List Oper->St->List aX->Option (XE×St)
 |[],S,I=>if o8 J.2 I.reverse=true then some (.normal,S)else none
 |o::r,S,I=>nz X A md J all r S o I (ij X A md J all r) (kP X A S o)
structure Cl where
 k:Nat
 v:Nat
 j:Nat
 x:AV
 vv:Bool
def ZA:AV->AV->Bool
 | .vec a b c d,.vec AC A5 AD AK=>decide (a=AC)&&decide (b=A5)&&decide (c=AD)&&decide (d=AK)
 | .ptr a b c,.ptr AC A5 AD=>decide (a=AC)&&decide (b=A5)&&decide (c=AD)
 | .d (.int k n),.d (.int A' A4)=>decide (k=A')&&decide (n=A4)
 | .d (.bool b),.d (.bool A5)=>decide (b=A5)
 |_,_=>false
def fY(m:Mem):List (Nat×Nat)->Option (List Cl)
 |[]=>some []
 |(k,j)::r=>match Mem.get m k,fY m r with
  |some ⟨_,v,.box cs⟩,some l=>match cs[j]? with
   |some x=>some (⟨k,v,j,x,false⟩::l)
   |none=>none
  |some ⟨_,v,.vv ai (some x)⟩,some l=>some (⟨k,v,ai.length,x,true⟩::l)
  |_,_=>none
def clB(q:Cl):Option AV->Bool
 |some x=>ZA x q.x
 |none=>false
def clE(q:Cl)(v:Nat):ay->Bool
 | .box cs=>!q.vv&&decide (v=q.v)&&clB q cs[q.j]?
 | .vv ai (some x)=>q.vv&&decide (v=q.v)&&decide (ai.length=q.j)&&ZA x q.x
 |_=>false
def Ql(e:cB):List Cl->Bool
 |[]=>true
 |q::r=>(match decide (e.key=q.k)with|true=>clE q e.ak e.cont|false=>true)&&Ql e r
def DU(E:List Cl):List cB->Bool
 |[]=>true
 |e::r=>Ql e E&&DU E r
def A1(b:Bool)(k v j:Nat):List Cl->Option AV
 |[]=>none
 |q::r=>match decide (b=q.vv)&&decide (k=q.k)&&decide (v=q.v)&&decide (j=q.j)with|true=>some q.x|false=>A1 b k v j r
def Cv(b:Bool)(k v:Nat):List Cl->Bool
 |[]=>false
 |q::r=>match decide (b=q.vv)&&decide (k=q.k)&&decide (v=q.v)with|true=>true|false=>Cv b k v r
def ZB(P:Program)(E:List Cl)(t:TypeId):Bool×AV->Option AV
 |(true,.ptr k v off)=>match (tk P t).agg,decide (tk P t=.other)with
  |false,false=>A1 false k v off E
  |_,_=>none
 |(true,.cN k v i j)=>match (tk P t).agg,decide (tk P t=.other),decide (j=0)with
  |false,false,true=>A1 true k v i E
  |_,_,_=>none
 |_=>none
def ZC(E:List Cl):Option Nat->Bool×AV->Option AV
 |some n,(true,.ptr k v off)=>match Cv false k v E with|true=>some (.ptr k v (off+n))|false=>none
 |_,_=>none
def ZD(E:List Cl):Bool×AV->Option AV
 |(true,.ptr k v off)=>match Cv false k v E with|true=>some (.ptr k v off)|false=>none
 |_=>none
def ZE(P:Program)(E:List Cl):TK->Bool×AV->Bool×AV->Option AV
 | .slice e,(true,.vec k v off len),(true,.d (.int _ n))=>match decide (fm P e=some 1),Cv true k v E,decide (0<=n),decide (n.toNat<len)with
  |true,true,true,true=>some (.cN k v (off+n.toNat) 0)
  |_,_,_,_=>none
 |_,_,_=>none
def A2(P:Program)(E:List Cl)(S:St):Op->Option AV
 | .load t x=>ZB P E t (S.aq x)
 | .fieldAddr s x f=>ZC E (xc P s f) (S.aq x)
 | .nilCheck x=>ZD E (S.aq x)
 | .indexAddr t x i=>ZE P E (tk P t) (S.aq x) (S.aq i)
 |_=>none
def A3(P:Program)(E:List Cl)(S:St)(o:Oper):Option AV:=
 match o.guard with
 |none=>A2 P E S o.op
 |some _=>none
def W7(E:List Cl):Option (St×aX)->Option (St×aX)
 |some (S,p)=>if DU E p.es=true then some (S,p)else none
 |none=>none
def xG(X:Ctx)(A:br)(md:Bool)(E:List Cl)(all:List Oper)(S:St)(o:Oper):Option AV->Option (St×aX)
 |some x=>some (S.put o.dst true x,⟨[],[],true,x⟩)
 |none=>W7 E (eE X A md all S o)
def wo:List Nat->List Oper->Bool
 |[],[]=>true
 |_,_=>false
def Qm(X:Ctx)(A:br)(md:Bool)(J:List (List Nat))(all:List Oper)(S:St)(o:Oper)(I:List aX):Option (XE×St):=
 if o8 J I.reverse=true then fB X A md all [o] S else none
def qj(X:Ctx)(A:br)(md:Bool)(J:List (List Nat))(E:List Cl)(all:List Oper):List Oper->St->List aX->Option (XE×St)
 |[],S,I=>if o8 J I.reverse=true then some (.normal,S)else none
 |o::r,S,I=>match wo (J.getD I.length []) r with
  |true=>Qm X A md J all S o I
  |false=>xF I (xG X A md E all S o (A3 X.P E S o)) (qj X A md J E all r)
def Qn(X:Ctx)(A:br)(md:Bool)(J:List (List Nat))(all:List Oper)(S:St):Option (List Cl)->Option (XE×St)
 |some E=>qj X A md J E all all S []
 |none=>none
def tK(X:Ctx)(A:br)(md:Bool)(J:List (List Nat))(all:List Oper)(S:St):List (Nat×Nat)->Option (XE×St)
 |[]=>ij X A md (fS S.mem,J) all all S []
 |q::r=>Qn X A md J all S (fY S.mem (q::r))
def St.jS(S:St)(U j k sz:Nat):St:=
 match Mem.get S.mem U,Mem.get S.mem k with
 |some ⟨_,AE,.box cs⟩,some ⟨_,v,_⟩=>match cs[j]? with
  |some (.lit (.slice none 0 0))=>if U=k then S else {S with mem:=Mem.set (Mem.set S.mem ⟨k,v+1,.vec sz []⟩) ⟨U,AE,.box (cs.set j (.vec k (v+1) 0 0))⟩}
  |_=>S
 |_,_=>S
def Fq(k v H v2:Nat):AV->AV
 | .vec O v0 o l=>if O=k/\v0=v then .vec H v2 o l else .vec O v0 o l
 |x=>x
def tL(AF:AV->AV):Mem->Mem
 |[]=>[]
 |e::r=>⟨e.key,e.ak,p8 AF e.cont⟩::tL AF r
def St.xA(S:St)(k H:Nat):St:=
 match Mem.get S.mem k,Mem.get S.mem H with
 |some ⟨_,v,.vec sz ai⟩,some ⟨_,v2,_⟩=>if k=H then S else {S with env:=nK (Fq k v H (v2+1)) S.env,mem:=Mem.set (Mem.set (tL (Fq k v H (v2+1)) S.mem) ⟨k,v+1,.dead⟩) ⟨H,v2+1,.vec sz ai⟩}
 |_,_=>S
def St.tE(S:St)(k H:Nat):St:=
 match Mem.get S.mem k,Mem.get S.mem H with
 |some ⟨_,v,.vv ai none⟩,some ⟨_,v2,_⟩=>match ai.getLast? with
  |some xs=>if k=H then S else {S with mem:=Mem.set (Mem.set S.mem ⟨k,v,.vv ai.dropLast (some (.vec H (v2+1) 0 xs.length))⟩) ⟨H,v2+1,.vec 1 xs⟩}
  |none=>S
 |_,_=>S
def St.cls(S:St)(k H:Nat):St:=
 match Mem.get S.mem k,Mem.get S.mem H with
 |some ⟨_,v,.vv ai (some (.vec AL v3 0 len))⟩,some ⟨_,v2,.vec 1 xs⟩=>if k=H then S else if AL=H/\v3=v2/\len=xs.length then {S with mem:=Mem.set (Mem.set S.mem ⟨k,v,.vv (ai++[xs]) none⟩) ⟨H,v2+1,.dead⟩} else S
 |_,_=>S
def St.shut(S:St)(k:Nat):St:=
 match Mem.get S.mem k with
 |some ⟨_,v,.vv ai (some _)⟩=>{S with mem:=Mem.set S.mem ⟨k,v,.vv ai none⟩}
 |_=>S
def St.tF(S:St)(U j k:Nat):St:=
 match Mem.get S.mem U,Mem.get S.mem k with
 |some ⟨_,AE,.box cs⟩,some ⟨_,v,_⟩=>match cs[j]? with
  |some (.lit (.slice none 0 0))=>if U=k then S else {S with mem:=Mem.set (Mem.set S.mem ⟨U,AE,.box (cs.set j (.vec k (v+1) 0 0))⟩) ⟨k,v+1,.vv [] none⟩}
  |_=>S
 |_,_=>S
def Gh.go(S:St):Gh->St
 | .tE k H=>S.tE k H
 | .cls k H=>S.cls k H
 | .shut k=>S.shut k
 | .tF U j k=>S.tF U j k
 | .trim k=>S.xq k
 | .freeze k=>S.freeze k
 | .jS U j k sz=>S.jS U j k sz
 | .xA k H=>S.xA k H
def DV(S:St):List Gh->St
 |[]=>S
 |g::r=>DV (g.go S) r
def vt(k:St->St):Option (XE×St)->Option (XE×St)
 |some (.normal,S)=>some (.normal,k S)
 |r=>r
def DW(id:Nat):Option (XE×St)->Option (XE×St)
 |some (.exit AG,S)=>if AG=id then some (.normal,S)else some (.exit AG,S)
 |r=>r
def iter(f:St->Option (XE×St)):Nat->St->Option (XE×St)
 |0,_=>none
 |n+1,S=>andThen (f S) (iter f n)
def DX(a b:Option (XE×St)):Bool×AV->Option (XE×St)
 |(true,.d (.bool t))=>if t=true then a else b
 |_=>none
def St.leave(X:Ctx)(f:FuncId)(id:Nat)(S:St):St:=DV (S.prune (X.pZ f id)) (X.gh f id)
def St.enter(X:Ctx)(f:FuncId)(id:Nat)(S:St):St:=DV S (X.gh f (id+2000000))
def den(X:Ctx)(f:FuncId)(A:br)(n:Nat):Code->St->Option (XE×St)
 | .skip,S=>some (.normal,S)
 | .region id ops draw,S=>match draw with
  |false=>vt (St.leave X f id) (fB X A (X.md f id) ops.toList ops.toList S)
  |true=>vt (St.leave X f id) (tK X A (X.md f id) (X.od f id) ops.toList S (X.fl f id))
 | .seq a b,S=>andThen (den X f A n a S) (den X f A n b)
 | .cond c a b,S=>DX (den X f A n a S) (den X f A n b S) (S.aq c)
 | .block id c,S=>DW id (den X f A n c (S.enter X f id))
 | .loop c,S=>iter (den X f A n c) n S
 | .exit id,S=>some (.exit id,DV S (X.gh f (id+1000000)))
 | .ret,S=>some (.ret,S)
 |_,_=>none
def fin(P:Program)(p:ax)(N:Nat)(rs:List ResultVar):Option (XE×St)->Option (Out×List (Nat×ay))
 |some (.normal,S)=>finish P p N rs S
 |some (.ret,S)=>finish P p N rs S
 |some (.panic t x,S)=>xw p N t x S
 |_=>none
def qH(X:Ctx)(f:FuncId)(A:br)(n:Nat)(fn:Func)(c:Code)(args:List AV)(cs:List ay):Option (Out×List (Nat×ay)):=
 if (decide (args.length<=fn.ntmps)&&decide (cs.length<=100)&&(X.fp f).sites.all (λk=>decide (100<=k))&&decide (X.fp f).sites.Nodup)=true then
  fin X.P (X.fp f) cs.length fn.results.toList (den X f A n c (entry fn.ntmps X.gl args cs (X.fp f).sites))
 else none
def oo:Option (Out×List (Nat×ay))->Option Nat
 |some (.ret (.vec 0 0 0 0),[(0,.vec sz [])])=>some sz
 |_=>none
def j6(AH AM:Option (Out×List (Nat×ay))):Option (Out×List (Nat×ay)):=
 match oo AH,oo AM with
 |some a,some b=>if a=b then AH else none
 |_,_=>none
def gF(run:List AV->Option (Out×List (Nat×ay)))(args:List AV):Bool->Option (Out×List (Nat×ay))
 |true=>match args with
  | .d (.list [])::r=>j6 (run (.lit (.slice none 0 0)::r)) (run (.nn::r))
  |args=>run args
 |false=>run args
def mF(h:List AV->Option AV)(args:List AV):List ay->Option (Out×List (Nat×ay))
 |[]=>match h args with
  |some d=>some (.ret d,[])
  |none=>none
 |_::_=>none
def n9(h:List D->Option D)(args:List AV):Option AV:=match toDs args with
 |some M=>(h M).map .d
 |none=>none
abbrev DF:=FuncId×List AV
def DY(S:St)(args:List Operand):Bool×AV->Option DF
 |(true,.fn g Z)=>if (iB S args&&decide (g<r8))=true then some (g,dp S args++Z)else none
 |_=>none
def gV(S:St)(o:Oper):Option DF:=
 match o.guard,o.op with
 |none,.defer {callee:=.value A6,args,..}=>DY S args.toList (S.aq A6)
 |_,_=>none
def oM(o:Oper):Bool:=
 match o.op with
 | .defer _=>true
 |_=>false
abbrev XD:=Option (XE×St×List DF)
def Hy(k:St->XD)(M:List DF):Option (XE×St)->XD
 |some (.normal,S)=>k S
 |some (e,S)=>some (e,S,M)
 |none=>none
def fI(X:Ctx)(A:br)(md:Bool)(all:List Oper):List Oper->St->List DF->XD
 |[],S,M=>some (.normal,S,M)
 |o::r,S,M=>match gV S o with
  |some d=>fI X A md all r (S.put o.dst true .bf) (d::M)
  |none=>Hy (λS1=>fI X A md all r S1 M) M (m5 X A md all S o)
def mG(ops:List Oper):Bool:=ops.any oM
def zS(k:St->St):XD->XD
 |some (.normal,S,M)=>some (.normal,k S,M)
 |r=>r
def xH(M:List DF):Option (XE×St)->XD
 |some (e,S)=>some (e,S,M)
 |none=>none
def IM(k:St->List DF->XD):XD->XD
 |some (.normal,S,M)=>k S M
 |r=>r
def iH(X:Ctx)(f:FuncId)(A:br)(n:Nat):Code->St->List DF->XD
 | .seq a b,S,M=>IM (iH X f A n b) (iH X f A n a S M)
 | .region id ops draw,S,M=>match !draw&&mG ops.toList with
  |true=>zS (St.leave X f id) (fI X A (X.md f id) ops.toList ops.toList S M)
  |false=>xH M (den X f A n (.region id ops draw) S)
 |c,S,M=>xH M (den X f A n c S)
def uG(o:Oper):Bool:=
 match o.guard,o.op with
 |none,.call {callee:=.builtin .recover,args,..}=>args.toList.isEmpty
 |_,_=>false
def nA(X:Ctx)(f:FuncId)(A:br)(n:Nat)(A7:AV):Code->St->Option (XE×St)
 | .seq a b,S=>andThen (nA X f A n A7 a S) (den X f A n b)
 | .region id ops draw,S=>match draw,ops.toList with
  |false,o::r=>if uG o=true then vt (St.leave X f id) (fB X A (X.md f id) (o::r) r (S.put o.dst true A7))else none
  |_,_=>none
 |_,_=>none
def Qo(P:Program)(p:ax)(N:Nat)(rs:List ResultVar):Option (XE×St)->Option (Out×List (Nat×ay))
 |some (.normal,S)=>finish P p N rs S
 |some (.ret,S)=>finish P p N rs S
 |_=>none
def wq(X:Ctx)(f:FuncId)(A:br)(n:Nat)(fn:Func)(c:Code)(args:List AV)(cs:List ay):Option (Out×List (Nat×ay)):=
 match args.getLast? with
 |some A7=>if (decide (args.dropLast.length<=fn.ntmps)&&decide (cs.length<=100)&&(X.fp f).sites.all (λk=>decide (100<=k))&&decide (X.fp f).sites.Nodup)=true then
  Qo X.P (X.fp f) cs.length fn.results.toList (nA X f A n A7 c (entry fn.ntmps X.gl args.dropLast cs (X.fp f).sites))
  else none
 |none=>none
def Cw:XE->Option AV
 | .normal=>some (.lit .nilIface)
 | .ret=>some (.lit .nilIface)
 | .panic t x=>some (.gw t x)
 | .exit _=>none
def tM(S:St):Option eZ->Option St
 |some ⟨.ret _,es,_⟩=>some {S with mem:=bB S.mem es}
 |_=>none
def Cx(X:Ctx)(p:ax)(N:Nat)(rs:List ResultVar):Option St->Option (Out×List (Nat×ay))
 |some S=>finish X.P p N rs S
 |none=>none
def sA(X:Ctx)(p:ax)(N:Nat)(rs:List ResultVar)(A9:br)(S:St)(d:DF):Option AV->Option (Out×List (Nat×ay))
 |some A7=>Cx X p N rs (tM S (dO A9 S.mem 0 d.1 (d.2++[A7]) (X.fp d.1).vm))
 |none=>none
def vu(X:Ctx)(p:ax)(N:Nat)(rs:List ResultVar)(A9:br):XD->Option (Out×List (Nat×ay))
 |some (e,S,[])=>fin X.P p N rs (some (e,S))
 |some (e,S,[d])=>sA X p N rs A9 S d (Cw e)
 |_=>none
def wu(X:Ctx)(f:FuncId)(A A9:br)(n:Nat)(fn:Func)(c:Code)(args:List AV)(cs:List ay):Option (Out×List (Nat×ay)):=
 if (decide (args.length<=fn.ntmps)&&decide (cs.length<=100)&&(X.fp f).sites.all (λk=>decide (100<=k))&&decide (X.fp f).sites.Nodup)=true then
  vu X (X.fp f) cs.length fn.results.toList A9 (iH X f A n c (entry fn.ntmps X.gl args cs (X.fp f).sites) [])
 else none
def vy:Code->Bool
 | .seq a b=>vy a||vy b
 | .region _ ops _=>mG ops.toList
 |_=>false
def m6(X:Ctx)(n:Nat)(A:br):br:=λg args cs=>
 match X.P.funcs[g]? with
 |some fn=>match fn.body with
  |some c=>wq X g A n fn c args cs
  |none=>none
 |none=>none
def wA(X:Ctx)(f:FuncId)(A:br)(n:Nat)(fn:Func)(c:Code)(args:List AV)(cs:List ay):Bool->Option (Out×List (Nat×ay))
 |true=>wu X f A (m6 X n A) n fn c args cs
 |false=>gF (λargs=>qH X f A n fn c args cs) args (X.fp f).split
def aK(X:Ctx):Nat->br
 |0,_,_,_=>none
 |n+1,f,args,cs=>match X.ov with
  |some A=>A f args cs
  |none=>match X.wm f with
   |some h=>mF h args cs
   |none=>match X.P.funcs[f]? with
    |some fn=>match fn.body with
     |some c=>wA X f (aK X n) n fn c args cs (vy c)
     |none=>none
    |none=>none
def jk(X:Ctx)(A2:br):Prop:=∀g args cs out l,A2 g args cs=some (out,l)->
 gE X.P g=true/\Ev X.P X.gl g args (dN 0 cs) λo m=>o=out/\m=dB 0 l
theorem tN{P:Program}{g:FuncId}{vs:Array Value}{w:World}(h:gE P g=true):(callFunc g vs).run P w=.ok (.enter g vs) w:=by
 unfold gE at h;split at h
 ·rename_i fn Ap;simp only[Ds,ahy]at h;have J:fn.body.isNone=false:=by
   have:=h.1;cases AE:fn.body<;>simp_all
  have T:fn.name≠ "runtime.NumGoroutine" :=by simpa using h.2
  have A7:fn.body≠none:=by intro AE;simp[AE]at J
  simp[callFunc,Ap,T,A7]
 ·cases h
theorem get_none{m:Mem}{k:Nat}:Mem.get m k=none↔k∉m.map (·.key):=by
 induction m with
 |nil=>simp[Mem.get]
 |cons e r ih=>
  simp only[Mem.get,aeC,abV,amr];split
  ·rename_i h;simp[h]
  ·rename_i h;rw[ih];constructor
   ·exact λhh=>⟨λhe=>h he.symm,hh⟩
   ·exact λhh=>hh.2
theorem vz{m m':Mem}(A:m'.map (·.key)=m.map (·.key))(k:Nat):(Mem.get m' k).isNone=(Mem.get m k).isNone:=by
 have:=get_none (m:=m) (k:=k);have T:=get_none (m:=m') (k:=k);rw[A,<-this]at T;cases h:Mem.get m k<;>cases Aq:Mem.get m' k<;>simp_all
theorem vA(m:Mem):∀(n:Nat)(todo I:List Nat),∀k∈I,k∈collect m n todo I
 |0,todo,I,k,h=>h
 |n+1,[],I,k,h=>h
 |n+1,t::todo,I,k,h=>by
  simp only[collect];split
  ·exact vA m n todo I k h
  ·exact vA m n _ _ k (amf _ h)
theorem vB{m m':Mem}(A:m'.map (·.key)=m.map (·.key)):∀(n:Nat)(todo I:List Nat),(∀k∈collect m n todo I,Mem.get m' k=Mem.get m k)->collect m' n todo I=collect m n todo I
 |0,todo,I,_=>rfl
 |n+1,[],I,_=>rfl
 |n+1,t::todo,I,h=>by
  simp only[collect,vz A t]at h⊢;split
  ·rename_i H;rw[H]at h;exact vB A n todo I h
  ·rename_i H;rw[H]at h;have e:Mem.get m' t=Mem.get m t:=h t (vA m n _ _ t (by simp));rw[e];exact vB A n _ _ h
mutual
theorem IN{m m':Mem}{ρ:List Nat}{bor:Nat->Bool}{nv:Nat->Nat->Nat}(A:m'.map (·.key)=m.map (·.key))(h:∀k,(k∈ρ\/bor k=true)->Mem.get m' k=Mem.get m k):∀y:AV,vw m' ρ bor nv y=vw m ρ bor nv y
 | .ptr k ak off=>by
  by_cases U:k∈ρ
  ·simp only[vw,h k (.inl U)]
  ·have V:∀N:Mem,vw N ρ bor nv (.ptr k ak off)=.bf:=by
    intro N;simp only[vw,jN (ρ:=ρ) (k:=k) (j:=0) |>.2 U];cases Mem.get N k<;>rfl
   rw[V,V]
 | .vec k ak off len=>by
  by_cases U:k∈ρ\/bor k=true
  ·simp only[vw,h k U]
  ·simp only[amr]at U;have V:∀N:Mem,vw N ρ bor nv (.vec k ak off len)=.bf:=by
    intro N;simp only[vw,jN (ρ:=ρ) (k:=k) (j:=0) |>.2 U.1,U.2];cases Mem.get N k with
    |none=>rfl
    |some e=>
     obtain⟨_,_,c⟩:=e;cases c<;>simp
   rw[V,V]
 | .cN k ak i j=>by
  by_cases U:k∈ρ
  ·simp only[vw,h k (.inl U)]
  ·have V:∀N:Mem,vw N ρ bor nv (.cN k ak i j)=.bf:=by
    intro N;simp only[vw,jN (ρ:=ρ) (k:=k) (j:=0) |>.2 U];cases Mem.get N k<;>rfl
   rw[V,V]
 | .agg cs=>by simp only[vw,wB A h cs]
 | .fn f cap=>by simp only[vw,wB A h cap]
 | .bY vs=>by simp only[vw,wB A h vs]
 | .bf=>rfl
 | .d x=>rfl
 | .dM x j=>rfl
 | .gw t x=>rfl
 | .lit v=>rfl
 | .nn=>rfl
 | .err=>rfl
theorem wB{m m':Mem}{ρ:List Nat}{bor:Nat->Bool}{nv:Nat->Nat->Nat}(A:m'.map (·.key)=m.map (·.key))(h:∀k,(k∈ρ\/bor k=true)->Mem.get m' k=Mem.get m k):∀l:List AV,ri m' ρ bor nv l=ri m ρ bor nv l
 |[]=>rfl
 |x::r=>by simp only[ri,IN A h x,wB A h r]
end
theorem IP{m m':Mem}{ρ:List Nat}{bor:Nat->Bool}{nv:Nat->Nat->Nat}(A:m'.map (·.key)=m.map (·.key))(h:∀k,(k∈ρ\/bor k=true)->Mem.get m' k=Mem.get m k):
 ∀(l:List Nat)(i:Nat),(∀k∈l,k∈ρ)->ef m' ρ bor nv i l=ef m ρ bor nv i l
 |[],i,_=>rfl
 |k::r,i,AP=>by
  simp only[ef,h k (.inl (AP k (by simp))),IP A h r (i+1) (λx Y=>AP x (by simp[Y]))];congr 1;cases Mem.get m k with
  |none=>rfl
  |some e=>
   simp only[vk,adL,true_and];cases e.cont with
   |box cs=>simp only[vj,wB A h cs]
   |vv ai y=>
    cases y with
    |none=>rfl
    |some x=>simp only[vj,ahj,IN A h x]
   |_=>rfl
theorem DZ{b:Bool}{m m':Mem}{ρ B:List Nat}(A:m'.map (·.key)=m.map (·.key))(h:∀k,(k∈ρ\/B.contains k=true)->Mem.get m' k=Mem.get m k):∀l:List AV,gQ b m' ρ B l=gQ b m ρ B l
 |[]=>rfl
 |x::r=>by simp only[gQ,IN (nv:=gO) A h x,DZ A h r]
theorem Cy{m m':Mem}(d:Nat):∀(l:List Nat),(∀k∈l,Mem.get m' k=Mem.get m k)->base m' d l=base m d l
 |[],_=>rfl
 |k::r,h=>by simp only[base,h k (by simp),Cy d r (λx Y=>h x (by simp[Y]))]
theorem IQ{m m':Mem}(ρ:List Nat)(A:m'.map (·.key)=m.map (·.key)):∀(l:List Nat),xB m' ρ l=xB m ρ l
 |[]=>rfl
 |k::r=>by
  have:(Mem.get m' k).isSome=(Mem.get m k).isSome:=by
   have:=vz A k;cases h:Mem.get m k<;>cases Aq:Mem.get m' k<;>simp_all
  simp only[xB,this,IQ ρ A r]
theorem D0{A2:br}{m m':Mem}{A3:Nat}{g:FuncId}{E:List AV}{mt:List Nat}{res:eZ}(A:m'.map (·.key)=m.map (·.key))(h:dO A2 m A3 g E mt=some res)(AW:∀k∈res.ks,Mem.get m' k=Mem.get m k):
 dO A2 m' A3 g E mt=some res:=by
 unfold dO lX lW at h⊢;obtain⟨ρ,A4⟩:∃ρ,ρ=collect m 64 (kO mt 0 E) []:=⟨_,rfl⟩;rw[<-A4]at h;obtain⟨B,AX⟩:∃B,B=(tI mt 0 E).filter λk=>!ρ.contains k:=⟨_,rfl⟩;rw[<-AX]at h;have AF:∀k,k∈ρ\/B.contains k=true->Mem.get m' k=Mem.get m k:=by
  intro k Z;refine AW k ?_;unfold fA at h;split at h
  ·split at h
   ·cases h;simp only[ab3];rcases Z with J|J
    ·exact .inl (.inl J)
    ·exact .inl (.inr (by simpa using J))
   ·cases h
  ·cases h
 have Ar:collect m' 64 (kO mt 0 E) []=ρ:=by
  rw[A4];exact vB A 64 _ _ (λk Z=>AF k (.inl (A4▸Z)))
 rw[Ar,<-AX,DZ A AF,IP A AF ρ 0 (λ_ h=>h),vz A];unfold fA at h⊢;split
 ·rename_i out M A8;rw[A8]at h;simp only at h;rw[IQ ρ A];split
  ·rename_i H;rw[abT H]at h;cases h;have A9:∀d,base m' d ρ=base m d ρ:=λd=>Cy d ρ (λk Z=>AF k (.inl Z));have As:∀d,base m' d (List.range' (A3+1) (M.length-ρ.length))=base m d (List.range' (A3+1) (M.length-ρ.length)):=λd=>Cy d _ (λk Z=>AW k (by simp only[ab3];exact .inr Z));rw[A9,As]
  ·rename_i H;rw[abN H]at h;cases h
 ·rename_i A8;rw[A8]at h;cases h
theorem vC(S:St):∀(l:List Operand)(i:Nat),(dp S l)[i]?=(l[i]?).map λx=>(S.aq x).2
 |[],i=>by simp[dp]
 |x::r,i=>by cases i with|zero=>simp[dp]|succ i=>simp[dp,vC S r i]
theorem jc(S:St):∀(l:List Operand),(dp S l).length=l.length
 |[]=>rfl
 |x::r=>by simp[dp,jc S r]
theorem xI(b m ρ B):∀(l:List AV)(i:Nat),(gQ b m ρ B l)[i]?=(l[i]?).map λy=>BN b (vw m ρ (λk=>B.contains k) gO y)
 |[],i=>by simp[gQ]
 |x::r,i=>by cases i with|zero=>simp[gQ]|succ i=>simp[gQ,xI b m ρ B r i]
theorem rW(b m ρ B):∀(l:List AV),(gQ b m ρ B l).length=l.length
 |[]=>rfl
 |x::r=>by simp[gQ,rW b m ρ B r]
theorem zT(m ρ bor):∀(l:List Nat)(i j:Nat),dN i (n7 (ef m ρ bor gO j l))=dB i (ef m ρ bor gO j l)
 |[],i,j=>rfl
 |k::r,i,j=>by
  have:vk m ρ bor gO j (Mem.get m k)=(0,(vk m ρ bor gO j (Mem.get m k)).2):=by
   cases Mem.get m k<;>rfl
  simp only[ef];rw[this];simp only[n7,dN,dB,zT m ρ bor r (i+1) (j+1)]
theorem Cz{m:Mem}{ρ:List Nat}:∀{l:List Nat},xB m ρ l=true->∀k∈l,(Mem.get m k).isSome=true/\k∉ρ
 |[],_,k,A=>by simp at A
 |x::r,h,k,A=>by
  simp only[xB,Ds,ahy,List.contains_eq_mem,aeB]at h;rcases abV.1 A with rfl|A
  ·exact h.1
  ·exact Cz h.2 k A
theorem xJ:∀{l:List (Nat×ay)},nM l=true->∀e∈l,lP e.2=true
 |[],_,e,he=>by simp at he
 |(v,c)::r,h,e,he=>by
  simp only[nM,Ds]at h;rcases abV.1 he with rfl|he
  ·exact h.1
  ·exact xJ h.2 e he
theorem wC:∀(l:List (Nat×ay))(i k:Nat),i<=k->k<i+l.length->(Mem.get (dB i l) k).isSome=true
 |[],i,k,J,T=>by simp at T;omega
 |(v,c)::r,i,k,J,T=>by
  simp only[dB,Mem.get];split
  ·rfl
  ·rename_i At;exact wC r (i+1) k (by have BH:i≠k:=At;omega) (by simp at T;omega)
theorem Ev.frz{P:Program}{gl f args}{cs:List ay}{out:Out}{M:List (Nat×ay)}(h:Ev P gl f args (dN 0 cs) λo m=>o=out/\m=dB 0 M)(AP:cs.length<=M.length):
 Ev P gl f args (dN 0 cs) λo m=>o=Fm cs.length M out/\m=dB 0 (ef (dB 0 M) (List.range cs.length) (λ_=>true) (λ_ v=>v) 0 (List.range cs.length)):=by
 intro φ G w vs hm AG Au Av;refine (h φ G w vs hm AG Au Av).mono ?_;rintro e w' ⟨φ',m',AH,⟨rfl,rfl⟩,AA,O,q⟩;obtain⟨s1,s2,Aw⟩:=AT (G1:=G) (ρ:=List.range cs.length) (bor:=λ_=>true) (nv:=λ_ v=>v) AA List.nodup_range (λk A=>wC M 0 k (ang _) (by simp at A;omega)) (λb h=>.inl h) (λb h=>AA.ku b h.own)
  (λk e L b AG _ _ AI A5=>AA.ku _ ⟨e,(Mem.get_mem AG).1,L,by rw[(Mem.get_mem AG).2];exact AI,A5⟩)
 refine⟨_,_,_,⟨rfl,rfl⟩,s1,⟨?_,O.yW,?_,O.size,O.os,O.tape,O.output⟩,?_⟩
 ·intro k L AI;have A:k<cs.length:=by
   have:=hm.pE k L AI;rw[Iy,p5]at this;simpa using this
  obtain⟨L',J,T,A7⟩:=O.le k L AI;exact⟨L',by simp[bN.gZ,A,J],T,A7⟩
 ·intro b AE A5;exact O.own b AE ((wg (φ:=φ') (nv:=λ_ v=>v) (bor:=λ_=>true) (λk A=>wC M 0 k (ang _) (by simp at A;omega)) b).1 A5).own
 ·cases AH with
  |ret x=>
   cases e with
   |returned v=>exact (s2 x v q).norm
   |_=>exact q.elim
  |panic t x=>
   cases e with
   |panicked chain=>
    obtain⟨v,H,Y⟩:=q;exact⟨v,H,Y.mono (λ_ _ _=>rfl) (abO _) (λb _=>Aw b)⟩
   |_=>exact q.elim
theorem tO:∀(l:List (Nat×ay)),(n7 l).length=l.length
 |[]=>rfl
 |(_,_)::r=>by simp[n7,tO r]
theorem zV{AB:Nat}{b:Bool}{r:Option (Out×List (Nat×ay))}{out:Out}{l:List (Nat×ay)}(h:qg AB b r=some (out,l)):∃AJ A1,r=some (AJ,A1)/\
 ((out=AJ/\l=A1)\/(AB<A1.length/\out=Fm AB A1 AJ/\l=ef (dB 0 A1) (List.range AB) (λ_=>true) (λ_ v=>v) 0 (List.range AB))):=by
 cases r with
 |none=>cases h
 |some p=>
  obtain⟨Ax,A1⟩:=p;refine⟨Ax,A1,rfl,?_⟩;simp only[qg]at h;split at h
  ·rename_i H;simp only[Ds,abQ]at H;simp only[abX,adL]at h;exact .inr ⟨H.2,h.1.symm,h.2.symm⟩
  ·simp only[abX,adL]at h;exact .inl ⟨h.1.symm,h.2.symm⟩
theorem acu{n g:Nat}(h:g<n):AZ n g=g:=by
 unfold AZ;rw[decide_eq_false (Nat.not_le.2 h)]
theorem TJ{n g:Nat}(h:g<n)(E D:List AV):sS n g E D=E++D:=by
 unfold sS;rw[decide_eq_false (Nat.not_le.2 h)]
theorem acv(n g:Nat):AZ n (g+n)=g:=by
 unfold AZ;rw[amk (amp n g)];exact Nat.add_sub_cancel g n
theorem TL(n g:Nat)(E D:List AV):sS n (g+n) E D=D++E:=by
 unfold sS;rw[amk (amp n g)]
theorem aev{g:FuncId}(h:g<r8):ny g=g:=acu h
theorem IS{g:FuncId}(h:g<r8)(E D:List AV):ig g E D=E++D:=TJ h E D
theorem aew(g:FuncId):ny (g+r8)=g:=acv r8 g
theorem IT(g:FuncId)(E D:List AV):ig (g+r8) E D=D++E:=TL r8 g E D
theorem uI{X:Ctx}{A2:br}(A8:jk X A2){S:St}{o:Oper}{AK:Operand}{args:Array Operand}{Ay:Array TypeId}{g g0:FuncId}{D:List AV}{A3:Nat}{mt:List Nat}{res:eZ}
 (A5:o.op=.call {callee:=.value AK,args,argTypes:=Ay}) (AY:S.aq AK=(true,.fn g0 D)) (A_:ny g0=g) (Az:iB S args.toList=true)
 (h:dO A2 S.mem A3 g (ig g0 (dp S args.toList) D) mt=some res) (B':S.gl=X.gl) {φ G a w} (A6:Rel φ G S a w) {next:Act->World->Prop} {R:Exit->Act->World->Prop}
 (B0:∀x,res.out=.ret x->∀φ' w' v,Rel φ' G {S with mem:=bB S.mem res.es} a w'->aS φ S.mem w φ' (bB S.mem res.es) w'->aB φ' w' (Fo G φ' (bB S.mem res.es)) x v->next (a.put o.dst v) w')
 (B1:∀t x,res.out=.panic t x->∀φ' w' v,Rel φ' G {S with mem:=bB S.mem res.es} a w'->aS φ S.mem w φ' (bB S.mem res.es) w'->aO w' (Fo G φ' (bB S.mem res.es)) x v->R (.panic [{v:=.iface t v,recovered:=false}]) a w'):o.wp X.P a w next R:=by
 unfold dO lX lW at h;obtain⟨ρ,A4⟩:∃ρ,ρ=collect S.mem 64 (kO mt 0 (ig g0 (dp S args.toList) D)) []:=⟨_,rfl⟩;have Aa:=oZ S.mem 64 (kO mt 0 (ig g0 (dp S args.toList) D)) [] List.nodup_nil (by simp);rw[<-A4]at h Aa;generalize (tI mt 0 (ig g0 (dp S args.toList) D)).filter (λk=>!ρ.contains k)=B at h;clear A4;obtain⟨Ab,Ac⟩:=Aa;unfold fA at h;split at h
 ·rename_i out M B2;split at h
  ·rename_i H;cases h;have B3:gE X.P g=true/\Ev X.P X.gl g (gQ (mt.contains 1000) S.mem ρ B (ig g0 (dp S args.toList) D)) (dN 0 (n7 (ef S.mem ρ (λk=>B.contains k) gO 0 ρ))) λo m=>o=out/\m=dB 0 M:=by
    obtain⟨AJ,A1,V,J⟩:=zV B2;obtain⟨B4,Ad⟩:=A8 _ _ _ _ _ V;refine⟨B4,?_⟩;rcases J with ⟨rfl,rfl⟩|⟨AL,rfl,rfl⟩
    ·exact Ad
    ·have Ae:(n7 (ef S.mem ρ (λk=>B.contains k) gO 0 ρ)).length=ρ.length:=by rw[tO,qD]
     have:=Ad.frz (by rw[Ae];omega);rw[Ae]at this;exact this
   obtain⟨Af,Ag⟩:=B3;simp only[Ds,ahz,abQ]at H;obtain⟨⟨BI,B5⟩,B6⟩:=H;rw[zT]at Ag;obtain⟨v1,v2,v3⟩:=Gj (B:=B) A6.mem Ab Ac;have AQ:=A6.aq AK (by rw[AY]);rw[AY]at AQ;generalize Ah:a.eval AK=BJ at AQ;have B7:∃vs:Array Value,(execOp a.eval o).run X.P w=.ok (.enter g vs) w/\(ig g0 (dp S args.toList) D).length=vs.size/\∀(i:Nat) y v,(ig g0 (dp S args.toList) D)[i]?=some y->vs[i]?=some v->aB φ w (Fo G φ S.mem) y v:=by
    have Ai:∀(i:Nat) y v,(dp S args.toList)[i]?=some y->(args.map a.eval)[i]?=some v->aB φ w (Fo G φ S.mem) y v:=by
     intro i y v A' A0;rw[vC]at A';simp only[Array.getElem?_map,abS]at A0;obtain⟨z,Aj,rfl⟩:=A0;obtain⟨BK,Ak,rfl⟩:=abS.1 A';rw[afk,Aj]at Ak;cases Ak;exact A6.aq z (uw Az z (by simpa using Array.mem_of_getElem? Aj))
    have AM:(dp S args.toList).length=(args.map a.eval).size:=by rw[jc];simp
    have Al:∀(l r:List AV)(AN AO:Array Value),l.length=AN.size->r.length=AO.size->(∀(i:Nat) y v,l[i]?=some y->AN[i]?=some v->aB φ w (Fo G φ S.mem) y v)->(∀(i:Nat) y v,r[i]?=some y->AO[i]?=some v->aB φ w (Fo G φ S.mem) y v)->
     ∀(i:Nat) y v,(l++r)[i]?=some y->(AN++AO)[i]?=some v->aB φ w (Fo G φ S.mem) y v:=by
     intro l r AN AO J T A7 B8 i y v A' A0;by_cases hi:i<l.length
     ·rw[abW hi]at A';rw[ag6 (by omega)]at A0;exact A7 i y v A' A0
     ·rw[ab1 (by omega)]at A';rw[Array.getElem?_append_right (by omega),<-J]at A0;exact B8 _ y v A' A0
    cases AQ with
    |fn _ _ AR AL AC AS=>
     have A9:g0=g:=by rw[<-A_,aev AL]
     subst A9;refine⟨args.map a.eval++AR,by simp[execOp,A5,resolve,Ah,Deferred.ofValue,invoke,tN Af],?_,?_⟩
     ·rw[IS AL,acg,AM,AC,Array.size_append]
     ·rw[IS AL];exact Al _ _ _ _ AM AC Ai AS
    |r9 f _ AR AC AS=>
     have A9:f=g:=by rw[<-A_,aew]
     subst A9;refine⟨AR++args.map a.eval,by simp[execOp,A5,resolve,Ah,Deferred.ofValue,invoke,tN Af],?_,?_⟩
     ·rw[IT,acg,AM,AC,Array.size_append]
     ·rw[IT];exact Al _ _ _ _ AC AM AS Ai
   obtain⟨vs,B9,BA,BB⟩:=B7
   ·unfold Oper.wp;rw[B9];have BC:(gQ (mt.contains 1000) S.mem ρ B (ig g0 (dp S args.toList) D)).length=vs.size:=by
     rw[rW];exact BA
    have BD:∀(i:Nat) x v,(gQ (mt.contains 1000) S.mem ρ B (ig g0 (dp S args.toList) D))[i]?=some x->vs[i]?=some v->aB (φ.gZ ρ gO) w (Fo (lD φ G S.mem ρ B) (φ.gZ ρ gO) (dB 0 (ef S.mem ρ (λk=>B.contains k) gO 0 ρ))) x v:=by
     intro i x v Y A0;rw[xI]at Y;obtain⟨y,A',rfl⟩:=abS.1 Y;exact (v2 y v (BB i y v A' A0)).BN
    have BE:eG w (Fo (lD φ G S.mem ρ B) (φ.gZ ρ gO) (dB 0 (ef S.mem ρ (λk=>B.contains k) gO 0 ρ))) X.gl:=by
     rw[<-B'];exact A6.kz.mono (λ_ _ _=>rfl) (abO _) (λb _=>v3 b)
    refine (Ag (φ.gZ ρ gO) (lD φ G S.mem ρ B) w _ v1 BE BC BD).mono ?_;rintro e w' ⟨BL,BM,AH,⟨rfl,rfl⟩,BF,Z,q⟩;have AU:B=[]\/(zP AH=true/\nM M=true):=B6.imp (by simp) id;obtain⟨φ',AA,O,An⟩:=Gk (B:=B) A6.mem Ab Ac (fr:=List.range' (A3+1) (M.length-ρ.length)) List.nodup_range' (Cz B5) BF Z (by simp;omega) (AU.imp id λAD=>xJ AD.2);have Ao:=A6.yX AA O;cases AH with
    |ret x=>
     cases e with
     |returned v=>exact B0 _ rfl φ' w' v Ao O (An x v (AU.imp id λAD=>AD.1) q)
     |_=>exact q.elim
    |panic t x=>
     cases e with
     |panicked chain=>
      obtain⟨v,rfl,Y⟩:=q;have:=An (.d x) v (AU.imp id λAD=>AD.1) (.d _ _ Y);cases this with
      |d _ _ BG=>exact B1 t x rfl φ' w' v Ao O BG
     |_=>exact q.elim
  ·cases h
 ·cases h
end Go.Am
end
