/-
  Texts of one proof, one behind the other.
-/
import Derived.Test.YtccmboenpbjhnaaGreatDoorF1
import Derived.Orders
set_option linter.all false
section
namespace Go.Am
open Go
def jV(S:St):List Operand->Bool
 |[]=>true
 |x::r=>(S.au x).1&&jV S r
theorem x4{S:St}:∀{l:List Operand},jV S l=true->∀x∈l,(S.au x).1=true
 |[],_,x,M=>by simp at M
 |y::r,h,x,M=>by
  simp only[jV,Ds]at h;rcases aaC.1 M with rfl|M
  ·exact h.1
  ·exact x4 h.2 x M
def iy(S:St)(o:Oper):Bool:=
 match o.op with
 | .pick _ _ _=>true
 |op=>jV S op.operands.toList
def vH(P:Program)(m:Mem)(AD:Nat)(t:TypeId)(x:AV):dO:=
 match x with
 | .lit (.slice none 0 0)=>match Mem.get m AD with
  |some ⟨_,v,_⟩=>match tk P t with
   | .slice e=>match gr P e with
    |some sz=>.dq true (.vec AD (v+1) 0 0) ⟨AD,v+1,.vec sz []⟩
    |none=>.val true x
   |_=>.val true x
  |none=>.val true x
 |x=>.val true x
theorem Nf(P:Program)(S:St)(o:Oper)(x:Operand)(E:o.op=.move x\/o.op=.assign x)(M:(S.au x).1=true):aM P S o (vH P S.mem (keyOf o) o.type (S.au x).2):=by
 have plain:aM P S o (.val true (S.au x).2):=by
  have:=ain P S o x E M;simpa using this
 unfold vH;split
 ·rename_i A7;split
  ·rename_i key v cont A2;split
   ·split
    ·rename_i sz A8;intro _ φ G a w I;obtain⟨hm,V,L,A4,A5,Ah⟩:=I.mem.get A2;simp only at V A5;subst V;have A9:=I.au x M;rw[A7]at A9;generalize B4:a.eval x=u at A9;cases A9;obtain⟨φ',AT,AU,Ac,AO⟩:=I.mem.dq (e':=⟨keyOf o,v+1,.vec sz []⟩) hm A4 rfl (L':=⟨v+1,0,sz,0,0,[]⟩) (by simp only;omega) (λhh=>by simp only at hh;omega) rfl
      (w':=w) (λ_ _ _=>rfl) (aad _) (λ_ E=>absurd E.1 (by simp)) rfl rfl rfl (λφ' B5 Bc=>
       ⟨rfl,by simp,by simp,λT=>by simp at T⟩)
     refine⟨.slice none 0 0,w,φ',.inl ?_,?_,AT,AU,AO⟩
     ·rcases E with E|E<;>simp[execOp,E,B4]
     ·exact .vec _ (v+1) 0 _ _ _ Ac (aad _) (λ_=>⟨_,_,rfl,by simp,λh=>by omega⟩) rfl
    ·exact plain
   ·exact plain
  ·exact plain
 ·exact plain
def CD:Value->Bool
 | .slice none 0 0=>true
 | .pointer none=>true
 | .nilIface=>true
 |_=>false
def um(P:Program)(S:St)(op:BinOp)(t:TypeId)(x y:Operand):dO:=
 match y with
 | .const v=>match CD v,op with
  |true,.eql=>lq P S.mem false t (S.au x).2 v
  |true,.neq=>lq P S.mem true t (S.au x).2 v
  |_,_=>sL P op t (S.au x).2 (S.au (.const v)).2
 |y=>sL P op t (S.au x).2 (S.au y).2
theorem ZP(P:Program)(S:St)(o:Oper)(B6:BinOp)(t AW:TypeId)(x y:Operand)(E:o.op=.binOp B6 t x y AW)(M:(S.au x).1=true)(AE:(S.au y).1=true):aM P S o (um P S B6 t x y):=by
 unfold um;split
 ·split
  ·exact Rj P S o false t AW x _ (by simpa using E) M
  ·exact Rj P S o true t AW x _ (by simpa using E) M
  ·exact Ri P S o _ t AW x _ E M AE
 ·exact Ri P S o B6 t AW x y E M AE
theorem Ng{w:World}{F F':Nat->Prop}{sz:Nat}{AG:List D}{cs:List Value}{b off cap:Nat}(I:cA w F sz AG cs)(T:∀(j:Nat) v,cs[j]?=some v->w.cell? ⟨b,off+j,none⟩=some v)
 (AA:b<w.heap.size) (Ai:∀b,F' b->F b) (B7:¬F' b) (BO:AG.length<=cap):aQ w F' (.list AG) (.slice (some ⟨b,off,none⟩) AG.length cap):=by
 obtain⟨H,O,A1,AP⟩:=I;refine .list AG b off cap sz (λi=>if h:i<AG.length then Classical.choose (AP i AG[i] (by simp[h]))else undef) BO AA B7 A1 (λi d W=>?_) (λi j c hi A'=>?_)
 ·have hi:=(D1.1 W).1;have:=Classical.choose_spec (AP i AG[i] (by simp[hi]));simp only[hi,dif_pos];have e:AG[i]=d:=(D1.1 W).2;rw[<-e];exact this.1.mono (λ_ _ _=>rfl) (aad _) (λb _=>Ai b)
 ·have:=Classical.choose_spec (AP i AG[i] (by simp[hi]));simp only[hi,dif_pos]at A';have AX:=T _ _ (this.2 j c A');rw[<-abY]at AX;exact AX
theorem Gk{φ w F F'}{k ar off len sz:Nat}{aj:List D}{L:Loc}{v:Value}(A9:aH φ w F (.vec k ar off len) v)(A4:φ k=some L)(A5:L.ar=ar)(T:eJ φ w F L (.vec sz aj))(hle:off+len<=aj.length)
 (Ai:∀b,F' b->F b) (B7:0<L.cap->¬F' L.dZ):aQ w F' (.list ((aj.drop off).take len)) v:=by
 have BP:((aj.drop off).take len).length=len:=by simp;omega
 cases A9 with
 |vec _ _ _ _ _ L' Aj _ h _=>
  rw[A4]at Aj;cases Aj;obtain⟨ao,cap,rfl,BQ,Ak⟩:=h A5.symm;clear h;by_cases Bd:len=0
  ·subst Bd;simp only[List.take_zero];exact .nil _ _ (λY=>by
    subst Y;rcases alj cap with A0|A0
    ·exact A0
    ·obtain⟨H,_⟩:=Ak A0;cases H)
  ·obtain⟨rfl,CB⟩:=Ak (by omega);obtain⟨arr,elem,hh,BR,BT,I⟩:=qh T (by omega);have B8:=(I.drop off).take len (by simp;omega);have:=Ng (F':=F') (b:=L.dZ) (off:=L.base+off*L.sz) (cap:=cap) B8 (λj u A'=>by
    rw[iF hh,T.1];rw[abW]at A';split at A'
    ·rw[acx,abW]at A';split at A'
     ·rw[acx]at A';rw[abY];simpa using A'
     ·cases A'
    ·cases A') hh.lt Ai (B7 (by omega)) (by omega)
   rw[BP]at this;exact this
theorem Mem.set_set{e e':cq}(V:e'.key=e.key):∀m:Mem,Mem.set (Mem.set m e) e'=Mem.set m e'
 |[]=>rfl
 |x::r=>by
  simp only[Mem.set];by_cases h:x.key=e.key
  ·rw[aat h,aat (by rw[V];exact h)];simp only[Mem.set];rw[aat V.symm]
  ·rw[aab h,aab (by rw[V];exact h)];simp only[Mem.set];rw[aab (by rw[V];exact h),Mem.set_set V r]
theorem akC{φ:bP}{G m w}(h:bz φ G m w){k v sz n:Nat}{aj:List D}(A2:Mem.get m k=some ⟨k,v,.vec sz aj⟩){x:Value}(M:aH φ w (Fo G φ m) (.vec k v 0 n) x)(Y:n<=aj.length):
 ∃φ',bz φ' G (Mem.set m ⟨k,v+1,.dead⟩) w/\bk φ m w φ' (Mem.set m ⟨k,v+1,.dead⟩) w/\(∀j,j≠k->φ' j=φ j)/\aQ w (Fo G φ' (Mem.set m ⟨k,v+1,.dead⟩)) (.list (aj.take n)) x:=by
 obtain⟨hm,_,L,A4,A5,Ah⟩:=h.get A2;obtain⟨φ',AT,AU,Ac,AO⟩:=h.dq (e:=⟨k,v,.vec sz aj⟩) (e':=⟨k,v+1,.dead⟩) hm A4 rfl (L':={L with ar:=v+1}) (by simp only at A5⊢;omega) (λhh=>by simp only at A5 hh;omega) rfl
  (w':=w) (λ_ _ _=>rfl) (aad _) (λ_ E=>E.elim) rfl rfl rfl (λ_ _ _=>trivial)
 refine⟨φ',AT,AU,AO,?_⟩;have BU:∀b,jQ φ' (Mem.set m ⟨k,v+1,.dead⟩) b->jQ φ m b/\∀(_:0<L.cap),b≠L.dZ:=by
  rintro b ⟨y,AE,Ar,AH,Ad⟩;rcases (Mem.mem_set h.nodup).1 AE with ⟨rfl,_⟩|⟨As,AI⟩
  ·exact Ad.elim
  ·simp only at AI;rw[AO _ AI]at AH;refine⟨⟨y,As,Ar,AH,Ad⟩,λT heq=>AI (h.apart y As _ hm Ar L AH A4 ⟨b,Ad,T,heq.symm⟩)⟩
 have:=Gk M A4 A5 Ah (by omega) (F':=Fo G φ' (Mem.set m ⟨k,v+1,.dead⟩)) (λb=>Or.imp id (λAA=>(BU b AA).1)) (λT=>by
  rintro (B9|E)
  ·exact h.mC _ ⟨_,hm,L,A4,T,rfl⟩ B9
  ·exact (BU _ E).2 T rfl)
 simpa using this
def x5(m:Mem)(b:Bool)(AD:Nat):dO->dO
 | .dq c (.vec k v 0 n) ⟨AJ,Ae,.vec sz aj⟩=>if b=true/\k≠AD/\AJ=k/\Ae=v/\n<=aj.length/\(Mem.get m k).isSome=true then .dq c (.d (.list (aj.take n))) ⟨k,v+1,.dead⟩else .dq c (.vec k v 0 n) ⟨AJ,Ae,.vec sz aj⟩
 |r=>r
theorem adp{P:Program}{S:St}{o:Oper}{b:Bool}{AD:Nat}{r:dO}(h:aM P S o r):aM P S o (x5 S.mem b AD r):=by
 unfold x5;split
 ·rename_i c k v n AJ Ae sz aj;split
  ·rename_i hh;obtain⟨_,_,rfl,rfl,Y,A8⟩:=hh;intro T φ G a w I;obtain⟨x,w',φ',H,O,A1,AP,AX⟩:=h T φ G a w I;have BA:AJ∈S.mem.map (·.key):=by
    cases A2:Mem.get S.mem AJ with
    |none=>rw[A2]at A8;cases A8
    |some e=>
     obtain⟨BB,Be⟩:=Mem.get_mem A2;rw[<-Be];exact ab0 BB
   obtain⟨BC,q1,q2,q3,BD⟩:=akC A1 (Mem.rK (x:=⟨AJ,Ae,.vec sz aj⟩) BA) O Y;rw[Mem.set_set (e:=⟨AJ,Ae,.vec sz aj⟩) (e':=⟨AJ,Ae+1,.dead⟩) rfl]at q1 q2 BD;exact⟨x,w',BC,H,.d _ _ BD,q1,AP.trans q2,λj A'=>by rw[q3 j A'];exact AX j A'⟩
  ·exact h
 ·exact h
def VQ(P:Program)(t:TypeId):AV->dO
 | .lit (.slice none 0 0)=>match tk P t with
  | .slice _=>.val True (.d (.int .i64 0))
  |_=>.no
 |_=>.no
theorem akD(P:Program)(S:St)(o:Oper)(x:Operand)(t:TypeId)(E:o.op=.call {callee:=.builtin .cap,args:=#[x],argTypes:=#[t]})(M:(S.au x).1=true):aM P S o (VQ P t (S.au x).2):=by
 have BE:∀(a:Act)(w:World)(v:Value),(Builtin.cap_ #[t] o.type #[a.eval x]).run P w=.ok v w->(execOp a.eval o).run P w=.ok (.value v) w:=by
  intro a w v h;simp[execOp,E,resolve,invoke,builtin,h]
 unfold VQ;split
 ·rename_i A7;split
  ·rename_i e Bf;refine aM.pure λ_ φ G a w I=>?_;have H:=I.au x M;rw[A7]at H;generalize A3:a.eval x=av at H;cases H with|lit _ h=>
   refine⟨_,BE a w (.int .i64 0) ?_,.d _ _ (.int _ _)⟩;rw[A3];simp[Builtin.cap_,run_underlying (gO Bf),goInt]
  ·trivial
 ·trivial
def np(P:Program)(S:St)(o:Oper)(b:Builtin)(args:List Operand)(ts:List TypeId):dO:=
 match b,args,ts with
 | .len,[x],[t]=>qK P S.mem t (S.au x).2
 | .append,[s,x],[t,u]=>x5 S.mem (Mem.get S.mem (keyOf o)).isSome (keyOf o) (uZ P S.mem (keyOf o) t u (S.au s).2 (S.au x).2)
 | .copy,[s,x],[t,_]=>AM P S.mem t (S.au s).2 (S.au x).2
 | .max,args,_=>Jk true (args.map λx=>(S.au x).2)
 | .min,args,_=>Jk false (args.map λx=>(S.au x).2)
 | .cap,[x],[t]=>VQ P t (S.au x).2
 |_,_,_=>.no
def zeroOf:TK->Option D
 | .int k=>some (.int k 0)
 | .bool=>some (.bool false)
 |_=>none
theorem QD{t:TK}{z:D}(h:zeroOf t=some z):z.size=1/\∀(w:World)(F:Nat->Prop),∃v,aQ w F z v/\v.cells=#[v]/\∀u,aQ w F z u->u=v:=by
 cases t with
 |int k=>cases h;exact⟨rfl,λw F=>⟨_,.int k 0,rfl,λu hu=>by cases hu;rfl⟩⟩
 |bool=>cases h;exact⟨rfl,λw F=>⟨_,.bool false,rfl,λu hu=>by cases hu;rfl⟩⟩
 |_=>cases h
def ZQ:D->AV->Bool
 | .int k n,.d (.int AJ Bg)=>k == AJ&&n == Bg
 | .bool b,.d (.bool Bh)=>b == Bh
 |_,_=>false
theorem akE{z:D}{c:AV}(h:ZQ z c=true):c=.d z:=by
 unfold ZQ at h;split at h<;>simp_all
def Nh(m:Mem)(k n:Nat)(z:D)(zs:List AV):dO:=
 match Mem.get m k with
 |some ⟨_,v,_⟩=>.dq (zs.length=n/\zs.all (ZQ z)=true) (.cS k (v+1) 0 0) ⟨k,v+1,.vec 1 (List.replicate n z)⟩
 |none=>.no
def wR(P:Program)(m:Mem)(k:Nat)(t:TypeId):dO:=
 match xY P t with
 |some zs=>match tk P t with
  | .arr n e=>match zeroOf (tk P e)with
   |some z=>Nh m k n z zs
   |none=>uX m k true zs
  |_=>uX m k true zs
 |none=>.no
theorem akF(P:Program)(S:St)(o:Oper)(t:TypeId)(E:o.op=.alloc t)(n:Nat)(At:D)(BV:TK)(Au:zeroOf BV=some At)(zs:List AV)(Al:xY P t=some zs):aM P S o (Nh S.mem (keyOf o) n At zs):=by
 obtain⟨BW,Av⟩:=QD Au;unfold Nh;split
 ·rename_i key v cont A2;refine aM.uW ?_;rintro ⟨Y,Bi⟩ φ G a w I;obtain⟨z,BE,Bj,H,BF⟩:=rk Al w;obtain⟨hm,V,L,A4,A5,Ah⟩:=I.mem.get A2;simp only at V A5;subst V;have Bk:∀(w:World)(F:Nat->Prop)(i:Nat) u,z.cells[i]?=some u->aQ w F At u:=by
   intro w' F i u hu;have hi:i<zs.length:=by
    have:=(acU.1 hu).1;omega
   have A1:=BF φ w (λ_=>False) i zs[i] u (by simp[hi]) hu;rw[akE (abX.1 Bi _ (ahV hi))]at A1;cases A1 with
   |d _ _ AP=>
    obtain⟨v1,q1,_,q2⟩:=Av w (λ_=>False);obtain⟨v2,q3,_,BD⟩:=Av w' F;cases BV with
    |int k=>cases Au;cases AP;exact .int k 0
    |bool=>cases Au;cases AP;exact .bool false
    |_=>cases Au
  obtain⟨φ',AT,AU,Ac,AO⟩:=I.mem.fresh (e:=⟨keyOf o,v,cont⟩) hm A4 A5 w rfl rfl rfl rfl z.cells t 1 n (.vec 1 (List.replicate n At)) (λ_ AA=>AA.2) (λφ' hle A3 CC BG=>by
   refine⟨rfl,by simp,λd W=>by rw[(List.mem_replicate.1 W).2];exact BW,λ_=>⟨z.cells,t,fJ.new BG,by simp[Bj,Y],H,λi d W=>?_⟩⟩;obtain⟨hi,rfl⟩:=D1.1 W;simp at hi;have BX:i<z.cells.size:=by omega
   have AX:=λw F=>Bk w F i z.cells[i] (by simp[BX]);have BB:=(AX w (λ_=>False)).size;rw[BW]at BB;refine⟨z.cells[i],by simp;exact AX _ _,λj c A'=>?_⟩;have Bl:j=0:=by
    have:=(acU.1 A').1;omega
   subst Bl;rw[eI (H _ (by simp))]at A';simp at A';subst A';simp[BX])
  refine⟨.pointer (some ⟨w.heap.size,0,none⟩),_,φ',.inl ?_,?_,AT,AU,AO⟩
  ·simp[execOp,E,Instr.alloc,newVar,jw,BE]
  ·exact .cS _ (v+1) 0 0 _ _ Ac (aad _) (λ_=>by simp) rfl
 ·trivial
theorem ZS(P:Program)(S:St)(o:Oper)(t:TypeId)(E:o.op=.alloc t):aM P S o (wR P S.mem (keyOf o) t):=by
 unfold wR;split
 ·rename_i zs Al;split
  ·split
   ·rename_i Av;exact akF P S o t E _ _ _ Av zs Al
   ·exact MH P S o t E zs Al
  ·exact MH P S o t E zs Al
 ·trivial
def vI(P:Program)(m:Mem)(AD:Nat)(src dst:TypeId)(x:AV):dO:=
 match x with
 | .vec k ar off len=>match tk P dst with
  | .slice e=>match decide (src=dst),tk P e,Mem.get m k with
   |true,.int .u8,some ⟨_,v,.vec sz aj⟩=>.dq (decide (v=ar/\0<len)) (.vec k ar off len) ⟨k,ar,.vec sz aj⟩
   |_,_,_=>.no
  |_=>ot P m AD src dst (.vec k ar off len)
 |x=>ot P m AD src dst x
theorem adq(P:Program)(S:St)(o:Oper)(src dst:TypeId)(x:Operand)(E:o.op=.convert src dst x)(M:(S.au x).1=true):aM P S o (vI P S.mem (keyOf o) src dst (S.au x).2):=by
 unfold vI;split
 ·rename_i k ar off len A7;split
  ·rename_i e W;split
   ·rename_i key v sz aj BH Bm A2;refine aM.uW ?_;rintro ⟨rfl,BP⟩ φ G a w I;have BH:src=dst:=acV BH;subst BH;obtain⟨hm,V,L,A4,A5,Ah⟩:=I.mem.get A2;simp only at V A5;subst V;have A9:=I.au x M;rw[A7]at A9;have Bn:=A9;generalize B4:a.eval x=CF at A9 Bn;cases A9 with
    |vec _ _ _ _ _ L' Aj _ h Bo=>
     rw[A4]at Aj;cases Aj;obtain⟨ao,cap,rfl,BQ,Ak⟩:=h A5.symm;obtain⟨rfl,BO⟩:=Ak (by omega);have BI:0<L.cap:=by omega
     obtain⟨Bp,Bq,Br,Bs⟩:=Ah;obtain⟨arr,elem,⟨fr,hh,Bt⟩,BR,BT,BF⟩:=Bs BI;obtain⟨w',AY⟩:∃w',w'=w.freeze ⟨L.dZ,arr.size,none⟩ 1:=⟨_,rfl⟩;have BG:fJ w' L.dZ arr elem:=by
      obtain⟨lo,hi⟩:=fr;rw[AY];by_cases he:lo=hi
      ·refine⟨(arr.size,arr.size+1),?_,.inr (aad _)⟩;simp[World.freeze,akV,hh,he]
      ·refine⟨(min lo arr.size,max hi (arr.size+1)),?_,?_⟩
       ·simp[World.freeze,akV,hh,he]
       ·right;rcases Bt with h|h
        ·cases h;exact absurd rfl he
        ·simp only at h⊢;omega
     have hold:∀b,b≠L.dZ->w'.heap[b]?=w.heap[b]?:=by
      intro b AA;rw[AY];simp only[World.freeze,Nat.one_ne_zero,acw,akV];rw[aab (λe=>AA e.symm)]
     have CG:w'.heap.size=w.heap.size:=by rw[AY];simp[World.freeze]
     have BJ:w'.os=w.os:=by rw[AY];simp[World.freeze]
     have Bu:w'.tape=w.tape:=by rw[AY];simp[World.freeze]
     have Bv:w'.output=w.output:=by rw[AY];simp[World.freeze]
     have BA:Fo G φ S.mem L.dZ:=.inr ⟨_,hm,L,A4,BI,rfl⟩;obtain⟨φ',AT,AU,Ac,AO⟩:=I.mem.dq (e:=⟨key,v,.vec sz aj⟩) (e':=⟨key,v,.vec sz aj⟩) hm A4 rfl (L':=L) (aad _) (λ_=>rfl) A5
      (w':=w') (λb _ Y=>hold b (λhe=>Y ⟨BI,he.symm⟩)) (by omega) (λ_ E=>.inl E) BJ Bu Bv (λφ' B5 Bc=>by
       have Ai:∀b,Fo G φ' (Mem.set S.mem ⟨key,v,.vec sz aj⟩) b->Fo G φ S.mem b:=by
        rintro b (B9|⟨y,AE,Ar,AH,Ad⟩)
        ·exact .inl B9
        ·right;rcases (Mem.mem_set I.mem.nodup).1 AE with ⟨rfl,_⟩|⟨As,AI⟩
         ·rw[B5]at AH;simp at AH;subst AH;exact⟨_,hm,L,A4,Ad⟩
         ·simp only at AI;rw[B5]at AH;simp[AI]at AH;exact⟨y,As,Ar,AH,Ad⟩
       exact⟨Bp,Bq,Br,λ_=>⟨arr,elem,BG,BR,BT,λi d W=>let ⟨u,hu,A'⟩:=BF i d W
        ⟨u,hu.mono (λb _ Y=>hold b (λhe=>Y (he▸BA))) (by omega) (λb _=>Ai b),A'⟩⟩⟩)
     refine⟨.slice (some ⟨L.dZ,L.base+off*L.sz,none⟩) len cap,w',φ',.inl ?_,.vec key v off len _ L Ac (Nat.le_of_eq A5.symm) (λ_=>⟨_,_,rfl,BQ,Ak⟩) Bo,AT,AU,AO⟩;have Bw:w.shape? L.dZ=some (elem,arr.size):=by simp[World.shape?,hh]
     have Bx:(markStringish ⟨L.dZ,L.base+off*L.sz,none⟩).run P w=.ok () w':=by
      simp only[markStringish,shape,Sem.run_bind,Sem.run,Bw,Result.andThen_ok,freeze,AY]
     simp[execOp,E,B4,convert,run_underlying (gO W),run_underlying (zP Bm),Sem.run_bind,Bx]
   ·trivial
  ·rw[<-A7];exact Rk P S o src dst x E M
 ·exact Rk P S o src dst x E M
def Ni(P:Program)(s:TypeId)(f:Nat):Option TypeId:=
 match P.underlying s with
 |some (.struct AQ)=>match AQ[f]? with
  |some fl=>some fl.type
  |none=>none
 |_=>none
def zS(P:Program)(s:TypeId)(x:AV)(f:Nat):dO:=
 match x with
 | .d (.agg cs)=>match AF P s f,Ni P s f with
  |some off,some e=>match (tk P e).agg,gr P e with
   |false,some 1=>.val (off<cs.length/\tk P e≠.other) (.d (D.at cs off))
   |true,some sz=>.val (off+sz<=cs.length) (.d (.agg ((cs.drop off).take sz)))
   |_,_=>.no
  |_,_=>.no
 | .agg cs=>match AF P s f,Ni P s f with
  |some off,some e=>match (tk P e).agg,gr P e,cs[off]? with
   |false,some 1,some c=>.val (tk P e≠.other) c
   |_,_,_=>.no
  |_,_=>.no
 |_=>.no
theorem Ko{P:Program}{s:TypeId}{f off:Nat}{e:TypeId}(h:AF P s f=some off)(he:Ni P s f=some e):∃AQ fl,P.underlying s=some (.struct AQ)/\AQ[f]?=some fl/\fl.offset=off/\fl.type=e:=by
 unfold AF at h;unfold Ni at he;split at h
 ·rename_i AQ AZ;rw[AZ]at he;simp only at he;split at h
  ·rename_i fl A_;rw[A_]at he;cases he;split at h
   ·split at h
    ·cases h
    ·cases h;exact⟨AQ,fl,AZ,A_,rfl,rfl⟩
   ·cases h
  ·cases h
 ·cases h
theorem ZT(P:Program)(S:St)(o:Oper)(s:TypeId)(x:Operand)(f:Nat)(E:o.op=.field s x f)(M:(S.au x).1=true):aM P S o (zS P s (S.au x).2 f):=by
 unfold zS;split
 ·rename_i cs A7;split
  ·rename_i off e BK BL;obtain⟨AQ,fl,AZ,A_,rfl,rfl⟩:=Ko BK BL;split
   ·rename_i An A8;refine aM.pure ?_;rintro ⟨CH,AI⟩ φ G a w I;have H:=I.au x M;rw[A7]at H;generalize A3:a.eval x=av at H;cases H with|d _ _ H=>
    cases H with|agg _ AB BY By Aw=>
    have Ao:fl.offset<AB.size:=by omega
    refine⟨AB[fl.offset],?_,.d _ _ (Aw fl.offset _ _ (lA (by omega)) (by simp[Ao]))⟩;have Z:=wO (P:=P) (w:=w) (t:=fl.type) (cs:=AB) (off:=fl.offset) An AI (v:=AB[fl.offset]) (by simp[Ao]);simp[execOp,E,A3,Instr.field,run_underlying AZ,A_,asAgg,Z]
   ·rename_i sz An A8;refine aM.pure ?_;rintro hle φ G a w I;have H:=I.au x M;rw[A7]at H;generalize A3:a.eval x=av at H;cases H with|d _ _ H=>
    have Bz:=H;cases H with|agg _ AB BY By Aw=>
    refine⟨_,?_,.d _ _ (BS Bz fl.offset sz hle)⟩;have Z:=Kk (P:=P) (w:=w) (t:=fl.type) (cs:=AB) (off:=fl.offset) An A8;simp[execOp,E,A3,Instr.field,run_underlying AZ,A_,asAgg,Z]
   ·trivial
  ·trivial
 ·rename_i cs A7;split
  ·rename_i off e BK BL;obtain⟨AQ,fl,AZ,A_,rfl,rfl⟩:=Ko BK BL;split
   ·rename_i c An A8 T;refine aM.pure ?_;rintro AI φ G a w I;have H:=I.au x M;rw[A7]at H;generalize A3:a.eval x=av at H;cases H with|agg _ AB BY CI Aw=>
    have Ao:fl.offset<AB.size:=by have:=(D1.1 T).1;omega
    refine⟨AB[fl.offset],?_,Aw fl.offset c _ T (by simp[Ao])⟩;have Z:=wO (P:=P) (w:=w) (t:=fl.type) (cs:=AB) (off:=fl.offset) An AI (v:=AB[fl.offset]) (by simp[Ao]);simp[execOp,E,A3,Instr.field,run_underlying AZ,A_,asAgg,Z]
   ·trivial
  ·trivial
 ·trivial
def Ei(P:Program)(x:AV)(asserted:TypeId)(ok:Bool):dO:=
 match x with
 | .iA t d=>match decide (t=asserted),ok with
  |true,true=>.val (tk P asserted≠.other/\tk P asserted≠.iface) (.aY [.d d,.d (.bool true)])
  |true,false=>.val (tk P asserted≠.other/\tk P asserted≠.iface) (.d d)
  |_,_=>.no
 |_=>.no
theorem akH{P:Program}{t:TypeId}(h:tk P t≠.other)(O:tk P t≠.iface):∃d,P.underlying t=some d/\∀ms,d≠.interface ms:=by
 unfold tk at h O;cases hu:P.underlying t with
 |none=>rw[hu]at h;exact absurd rfl h
 |some d=>
  refine⟨d,rfl,λms W=>?_⟩;subst W;rw[hu]at O;exact O rfl
theorem HA{P:Program}{w:World}{t C' asserted:TypeId}{v:Value}{ok:Bool}(h:tk P asserted≠.other)(O:tk P asserted≠.iface)(A6:t=asserted):
 (Instr.typeAssert (.iface t v) C' asserted ok).run P w=.ok (if ok then .tuple #[v,.bool true]else v) w:=by
 obtain⟨d,W,Y⟩:=akH h O;subst A6;simp only[Instr.typeAssert,Sem.run_bind,run_underlying W,Result.andThen_ok];cases d with
 |interface ms=>exact absurd rfl (Y ms)
 |_=>simp
theorem ZU(P:Program)(S:St)(o:Oper)(x:Operand)(BM asserted:TypeId)(ok:Bool)(E:o.op=.typeAssert x BM asserted ok)(M:(S.au x).1=true):aM P S o (Ei P (S.au x).2 asserted ok):=by
 unfold Ei;split
 ·rename_i t d A7;split
  ·rename_i A6;have A6:t=asserted:=by simpa using A6
   refine aM.pure ?_;rintro ⟨H,O⟩ φ G a w I;have AN:=I.au x M;rw[A7]at AN;generalize A3:a.eval x=av at AN;cases AN with|iA _ _ v W=>
   refine⟨.tuple #[v,.bool true],by simp[execOp,E,A3,HA H O A6],.aY _ _ rfl λi c u T hu=>?_⟩;match i,T,hu with
   |0,T,hu=>simp at T hu;subst T hu;exact .d _ _ W
   |1,T,hu=>simp at T hu;subst T hu;exact .d _ _ (.bool _)
   |i+2,T,hu=>simp at T
  ·rename_i A6;have A6:t=asserted:=by simpa using A6
   refine aM.pure ?_;rintro ⟨H,O⟩ φ G a w I;have AN:=I.au x M;rw[A7]at AN;generalize A3:a.eval x=av at AN;cases AN with|iA _ _ v W=>
   exact⟨v,by simp[execOp,E,A3,HA H O A6],.d _ _ W⟩
  ·trivial
 ·trivial
def dy(P:Program)(S:St)(o:Oper):dO:=
 match o.op with
 | .move x=>vH P S.mem (keyOf o) o.type (S.au x).2
 | .assign x=>vH P S.mem (keyOf o) o.type (S.au x).2
 | .pick c a b=>Md (S.au c) (S.au a) (S.au b)
 | .alloc t=>wR P S.mem (keyOf o) t
 | .box _ x=>uX S.mem (keyOf o) (S.au x).2.nk (S.au x).2.cells
 | .load t x=>oo P S.mem t (S.au x).2
 | .store t p x=>rN P S.mem t (S.au p).2 (S.au x).2
 | .fieldAddr s x f=>rn P S.mem s f (S.au x).2
 | .nilCheck x=>kC S.mem (S.au x).2
 | .indexAddr t x i=>oP P S.mem t (S.au x).2 (S.au i).2
 | .index t x i=>sM P t (S.au x).2 (S.au i).2
 | .slice t x lo hi none=>mI P S.mem t (S.au x).2 (lo.map λy=>(S.au y).2) (hi.map λy=>(S.au y).2)
 | .binOp op t x y _=>um P S op t x y
 | .unOp op _ x=>MZ op (S.au x).2
 | .convert s d x=>vI P S.mem (keyOf o) s d (S.au x).2
 | .makeInterface t x=>vG P t (S.au x).2
 | .makeFunc f first cap=>ru f (first.toList.map λx=>(S.au x).2) (cap.toList.map λx=>(S.au x).2)
 | .makeSlice t l c=>AL P S.mem (keyOf o) t (S.au l).2 (S.au c).2
 | .build t ps=>Hw P t (ps.toList.map λx=>(x.1,(S.au x.2).2))
 | .buildSlice t len ps=>me P S.mem (keyOf o) t len (ps.toList.map λx=>(x.1,(S.au x.2).2))
 | .extract x i=>wQ i (S.au x).2
 | .field s x f=>zS P s (S.au x).2 f
 | .typeAssert x _ t ok=>Ei P (S.au x).2 t ok
 | .call {callee:=.builtin b,args,argTypes}=>np P S o b args.toList argTypes.toList
 |_=>.no
theorem Nj(P:Program)(S:St)(o:Oper)(h:iy S o=true):aM P S o (dy P S o):=by
 unfold iy at h;unfold dy;have one:∀{l:List Operand},jV S l=true->∀x∈l,(S.au x).1=true:=x4;split
 ·rename_i x E;simp only[E]at h;exact Nf P S o x (.inl E) (one h x (by simp[Op.operands]))
 ·rename_i x E;simp only[E]at h;exact Nf P S o x (.inr E) (one h x (by simp[Op.operands]))
 ·rename_i c a b E;exact aim P S o c a b E
 ·rename_i t E;exact ZS P S o t E
 ·rename_i t x E;simp only[E]at h;exact akh P S o t x E (one h x (by simp[Op.operands]))
 ·rename_i t x E;simp only[E]at h;exact (Rb P S o t x E (one h x (by simp[Op.operands]))).res
 ·rename_i t p x E;simp only[E]at h;exact ada P S o t p x E (one h p (by simp[Op.operands])) (one h x (by simp[Op.operands]))
 ·rename_i s x f E;simp only[E]at h;exact adj P S o s x f E (one h x (by simp[Op.operands]))
 ·rename_i x E;simp only[E]at h;exact Qz P S o x E (one h x (by simp[Op.operands]))
 ·rename_i t x i E;simp only[E]at h;exact adk P S o t x i E (one h x (by simp[Op.operands])) (one h i (by simp[Op.operands]))
 ·rename_i t x i E;simp only[E]at h;exact ZJ P S o t x i E (one h x (by simp[Op.operands])) (one h i (by simp[Op.operands]))
 ·rename_i t x lo hi E;simp only[E]at h;exact adn P S o t x lo hi E (one h x (by simp[Op.operands])) (λy AE=>one h y (by simp[Op.operands,AE])) (λy AE=>one h y (by simp[Op.operands,AE]))
 ·rename_i op t x y AW E;simp only[E]at h;exact ZP P S o op t AW x y E (one h x (by simp[Op.operands])) (one h y (by simp[Op.operands]))
 ·rename_i op t x E;simp only[E]at h;exact aqh P S o op t x E (one h x (by simp[Op.operands]))
 ·rename_i s d x E;simp only[E]at h;exact adq P S o s d x E (one h x (by simp[Op.operands]))
 ·rename_i t x E;simp only[E]at h;exact M0 P S o t x E (one h x (by simp[Op.operands]))
 ·rename_i f first cap E;simp only[E]at h;exact QA P S o f first cap E (λx M=>one h x (by simp[Op.operands];left;simpa using M)) (λx M=>one h x (by simp[Op.operands];right;simpa using M))
 ·rename_i t l c E;simp only[E]at h;exact aii P S o t l c E (one h l (by simp[Op.operands])) (one h c (by simp[Op.operands]))
 ·rename_i t ps E;simp only[E]at h;exact ado P S o t ps E (λx M=>one h x.2 (by simp only[Op.operands,List.toList_toArray,abV];exact⟨x,M,rfl⟩))
 ·rename_i t len ps E;simp only[E]at h;exact L7 P S o t len ps E (λx M=>one h x.2 (by simp only[Op.operands,List.toList_toArray,abV];exact⟨x,M,rfl⟩))
 ·rename_i x i E;simp only[E]at h;exact VO P S o x i E (one h x (by simp[Op.operands]))
 ·rename_i s x f E;simp only[E]at h;exact ZT P S o s x f E (one h x (by simp[Op.operands]))
 ·rename_i x BM t ok E;simp only[E]at h;exact ZU P S o x BM t ok E (one h x (by simp[Op.operands]))
 ·rename_i b args ts E;simp only[E]at h;have AR:∀x∈args.toList,(S.au x).1=true:=λx M=>one h x (by simp[Op.operands,Call.operands];simpa using M);have Ax:∀{l:List Operand},args.toList=l->args=l.toArray:=λh=>by rw[<-h]
  have Ay:∀{l:List TypeId},ts.toList=l->ts=l.toArray:=λh=>by rw[<-h]
  unfold np;split
  ·rename_i x t H O;rw[Ax H,Ay O]at E;exact aky P S o x t E (AR x (by simp[H]))
  ·rename_i s x t u H O;rw[Ax H,Ay O]at E;exact adp <| aks P S o s x t u E (AR s (by simp[H])) (AR x (by simp[H]))
  ·rename_i s x t u H O;rw[Ax H,Ay O]at E;exact aij P S o s x t u E (AR s (by simp[H])) (AR x (by simp[H]))
  ·exact ZM P S o true args ts (by simpa using E) AR
  ·exact ZM P S o false args ts (by simpa using E) AR
  ·rename_i x t H O;rw[Ax H,Ay O]at E;exact akD P S o x t E (AR x (by simp[H]))
  ·trivial
 ·trivial
inductive XE where
 |normal
 |exit (id:Nat)
 |ret
 |panic (t:TypeId) (x:D)
def qa(n:Nat)(φ:bP)(G:Fr)(m:Mem)(w:World)(Q:XE->St->Prop):Exit->Act->World->Prop
 | .normal,U,w'=>∃φ' J,J.n=n/\Q .normal J/\Rel φ' G J U w'/\bk φ m w φ' J.mem w'
 | .exit id,U,w'=>∃φ' J,J.n=n/\Q (.exit id) J/\Rel φ' G J U w'/\bk φ m w φ' J.mem w'
 | .ret,U,w'=>∃φ' J,J.n=n/\Q .ret J/\Rel φ' G J U w'/\bk φ m w φ' J.mem w'
 | .panic chain,U,w'=>∃φ' J t x v,chain=[{v:=.iface t v,recovered:=false}]/\aQ w' (Fo G φ' J.mem) x v/\J.n=n/\Q (.panic t x) J/\Rel φ' G J U w'/\bk φ m w φ' J.mem w'
 |_,_,_=>False
theorem qa.weaken{n φ G m w Q Aa BZ AS e U w'}(V:bk φ m w Aa BZ AS)(h:qa n Aa G BZ AS Q e U w'):qa n φ G m w Q e U w':=by
 cases e with
 |normal=>obtain⟨φ',J,A0,H,O,A1⟩:=h;exact⟨φ',J,A0,H,O,V.trans A1⟩
 |exit id=>obtain⟨φ',J,A0,H,O,A1⟩:=h;exact⟨φ',J,A0,H,O,V.trans A1⟩
 |ret=>obtain⟨φ',J,A0,H,O,A1⟩:=h;exact⟨φ',J,A0,H,O,V.trans A1⟩
 |panic chain=>obtain⟨φ',J,t,x,v,T,W,A0,H,O,A1⟩:=h;exact⟨φ',J,t,x,v,T,W,A0,H,O,V.trans A1⟩
 |_=>exact h.elim
theorem qa.mono{n φ G m w Q Ap e U w'}(AC:∀e S,Q e S->Ap e S)(h:qa n φ G m w Q e U w'):qa n φ G m w Ap e U w':=by
 cases e with
 |normal=>obtain⟨φ',J,A0,H,O⟩:=h;exact⟨φ',J,A0,AC _ _ H,O⟩
 |exit id=>obtain⟨φ',J,A0,H,O⟩:=h;exact⟨φ',J,A0,AC _ _ H,O⟩
 |ret=>obtain⟨φ',J,A0,H,O⟩:=h;exact⟨φ',J,A0,AC _ _ H,O⟩
 |panic chain=>obtain⟨φ',J,t,x,v,T,W,A0,H,O⟩:=h;exact⟨φ',J,t,x,v,T,W,A0,AC _ _ H,O⟩
 |_=>exact h.elim
def oT(P:Program)(c:Code)(S:St)(Q:XE->St->Prop):Prop:=
 ∀φ G a w,Rel φ G S a w->c.wp P (qa S.n φ G S.mem w Q) a w
def rP(all:List Oper)(S:St)(j:Nat):Option (Bool×AV):=
 match all[j]? with
 |some o=>match o.dst with
  |some t=>Env.lk S.env t
  |none=>none
 |none=>none
def lH(n:Nat)(ops:List Oper):Bool:=ops.all λo=>match o.dst with|some t=>decide (t<n)|none=>true
theorem ou(S:St)(d g x):(S.put d g x).n=S.n:=by cases d<;>rfl
theorem gm(S:St)(d g x):(S.put d g x).mem=S.mem:=by cases d<;>rfl
theorem Hm.step{P:Program}{o:Oper}{a:Act}{w w':World}{v:Value}{next R}(h:Hm P o a w v w')(Y:next (a.put o.dst v) w'):o.wp P a w next R:=by
 unfold Oper.wp;rcases h with h|⟨h,rfl⟩<;>rw[h]<;>exact Y
theorem Rel.grow{φ G S a w w'}(h:Rel φ G S a w)(hold:∀b,b<w.heap.size->w'.heap[b]?=w.heap[b]?)(A8:w.heap.size<=w'.heap.size):Rel φ G S a w':=
 ⟨h.size,h.defers,λt x M=>(h.env t x M).mono (bP.le_refl _) (λb AA _=>hold b AA) A8 (λ_ _ h=>h),h.mem.grow hold A8,h.mD.mono (λb AA _=>hold b AA) A8 (λ_ _ h=>h)⟩
theorem adr{P:Program}{S:St}{o:Oper}{c:Bool}{x:AV}{gb:Bool}(I:aM P S o (.val c x))(T:c=true){φ G a w}(h:Rel φ G S a w)(W:∀t,o.dst=some t->t<S.n){next:Act->World->Prop}{R}
 (Y:∀U w',Rel φ G (S.put o.dst gb x) U w'->bk φ S.mem w φ S.mem w'->next U w'):o.wp P a w next R:=by
 obtain⟨v,w',BN,A3,hold,A8,BJ,A6,C0⟩:=I T φ G a w h;exact BN.step (Y _ _ ((h.grow hold A8).put o.dst W gb x v (λ_=>A3)) (bk.grow hold A8 BJ A6 C0))
theorem ads{P:Program}{S:St}{o:Oper}{c:Bool}{x:AV}{e:cq}(I:aM P S o (.dq c x e))(T:c=true){φ G a w}(h:Rel φ G S a w)(W:∀t,o.dst=some t->t<S.n){next:Act->World->Prop}{R}
 (Y:∀φ' U w',Rel φ' G (({S with mem:=Mem.set S.mem e}:St).put o.dst true x) U w'->bk φ S.mem w φ' (Mem.set S.mem e) w'->next U w'):o.wp P a w next R:=by
 obtain⟨v,w',φ',BN,A3,hm,V,_⟩:=I T φ G a w h;exact BN.step (Y φ' _ _ ((h.Cj hm V).put o.dst W true x v (λ_=>A3)) V)
theorem ZV{all:List Oper}{S:St}{j:Nat}{b:Bool}{φ G a w}(h:Rel φ G S a w)(A2:rP all S j=some (true,.d (.bool b))):yielded all.toArray a.tmps j=some b:=by
 unfold rP at A2;split at A2
 ·rename_i o E;split at A2
  ·rename_i t A6;have:=vX (h.env t _ A2);unfold yielded;simp only[ahL,E,acE,A6];rw[abN]at this;cases AC:a.tmps[t]? with
   |none=>simp[AC,undef]at this
   |some v=>simp[AC]at this;simp[this]
  ·cases A2
 ·cases A2
section
variable {P:Program} {S:St} {Q:XE->St->Prop}
theorem oT.mono{c:Code}{Ap:XE->St->Prop}(h:oT P c S Q)(AC:∀e S,Q e S->Ap e S):oT P c S Ap:=
 λφ G a w I=>wp_mono (h φ G a w I) λ_ _ _ Z=>Z.mono AC
def St.prune(S:St)(sN:List Nat):St:={S with env:=sN.filterMap λt=>(Env.lk S.env t).map λx=>(t,x)}
theorem wS(env:Env):∀(sN:List Nat)(t:Nat)(x:Bool×AV),Env.lk (sN.filterMap λt=>(Env.lk env t).map λx=>(t,x)) t=some x->Env.lk env t=some x
 |[],t,x,h=>by simp[Env.lk]at h
 |k::r,t,x,h=>by
  simp only[List.filterMap_cons]at h;cases V:Env.lk env k with
  |none=>simp[V]at h;exact wS env r t x h
  |some y=>
   simp only[V,ah3,Env.lk]at h;by_cases B_:k=t
   ·subst B_;simp at h;subst h;exact V
   ·simp[B_]at h;exact wS env r t x h
theorem Rel.prune{φ G a w}(h:Rel φ G S a w)(sN:List Nat):Rel φ G (S.prune sN) a w:=
 ⟨h.size,h.defers,λt x M=>h.env t x (wS _ _ _ _ M),h.mem,h.mD⟩
theorem Rn{x y:Code}(h:oT P x S λe J=>match e with| .normal=>oT P y J Q|e=>Q e J):oT P (.seq x y) S Q:=by
 intro φ G a w I;refine wp_seq (wp_mono (h φ G a w I) λe U w' Z=>?_);cases e with
 |normal=>
  obtain⟨φ',J,Y,H,O,A1⟩:=Z;exact wp_mono (H φ' G U w' O) λe a2 Aq Ba=>by rw[Y]at Ba;exact Ba.weaken A1
 |_=>exact Z
theorem Nk{c:Operand}{x y:Code}{b:Bool}(T:S.au c=(true,.d (.bool b)))(A6:b=true->oT P x S Q)(C1:b=false->oT P y S Q):oT P (.cond c x y) S Q:=by
 intro φ G a w I;have A9:=I.au c (by rw[T]);rw[T]at A9;have e:=vX A9;cases b
 ·exact wp_cond_false e (C1 rfl φ G a w I)
 ·exact wp_cond_true e (A6 rfl φ G a w I)
theorem adt(h:Q .normal S):oT P .skip S Q:=λφ _ _ _ I=>wp_skip ⟨φ,S,rfl,h,I,bk.refl ..⟩
theorem aio(h:Q .ret S):oT P .ret S Q:=λφ _ _ _ I=>wp_ret ⟨φ,S,rfl,h,I,bk.refl ..⟩
theorem adu{id:Nat}(h:Q (.exit id) S):oT P (.exit id) S Q:=λφ _ _ _ I=>wp_exit ⟨φ,S,rfl,h,I,bk.refl ..⟩
theorem CE{id:Nat}{c:Code}(h:oT P c S λe J=>match e with| .exit Az=>if Az=id then Q .normal J else Q (.exit Az) J|e=>Q e J):oT P (.block id c) S Q:=by
 intro φ G a w I;refine wp_block (wp_mono (h φ G a w I) λe U w' Z=>?_);cases e with
 |exit Az=>
  obtain⟨φ',J,Y,H,O,A1⟩:=Z;simp only[Exit.inBlock];by_cases hid:Az=id
  ·simp only[hid,acH]at H⊢;exact⟨φ',J,Y,H,O,A1⟩
  ·simp only[hid,acw]at H⊢;exact⟨φ',J,Y,H,O,A1⟩
 |_=>exact Z
theorem adv{c:Code}{α:Type}(AK:α->St)(B':α->Prop)(B0:α->Nat)(Ab:α)(C2:S=AK Ab)(A0:B' Ab)
 (round:∀x,B' x->oT P c (AK x) λe J=>match e with| .normal=>∃Af,J=AK Af/\B' Af/\B0 Af<B0 x|e=>Q e J):oT P (.loop c) S Q:=by
 intro φ G a w I;subst C2;intro b k cs;have key:∀n x Aa B1 AS,B0 x=n->B' x->(AK x).n=(AK Ab).n->Rel Aa G (AK x) B1 AS->bk φ (AK Ab).mem w Aa (AK x).mem AS->
  ∃e U w',qa (AK Ab).n φ G (AK Ab).mem w Q e U w'/\Arrives P (lone (b.at B1 (.code c::.inLoop c::k)) cs AS) b k cs e U w':=by
  intro n;induction n using Nat.strongRecOn with
  |_ n ih=>
   intro x Aa B1 AS Y C3 B2 AN B3;obtain⟨e,a2,Aq,Z,Ag⟩:=round x C3 Aa G B1 AS AN b (.inLoop c::k) cs;cases e with
   |normal=>
    obtain⟨BC,CJ,C4,⟨Af,rfl,C5,CK⟩,B8,C6⟩:=Z;obtain⟨C7,a3,C8,C9,CA⟩:=ih (B0 Af) (by omega) Af BC a2 Aq rfl C5 (C4.trans B2) B8 (B3.trans C6);exact⟨C7,a3,C8,C9,.of_steps (Steps.trans Ag (.one step_inLoop)) CA⟩
   |exit id=>exact⟨.exit id,a2,Aq,by rw[B2]at Z;exact qa.weaken (e:=.exit id) B3 Z,.pass (x:=.inLoop c) rfl (λ_ _=>.inl (by simp)) Ag⟩
   |goto l=>exact Z.elim
   |ret=>exact⟨.ret,a2,Aq,by rw[B2]at Z;exact qa.weaken (e:=.ret) B3 Z,.pass (x:=.inLoop c) rfl (λ_ _=>.inl (by simp)) Ag⟩
   |panic Bb=>exact⟨.panic Bb,a2,Aq,by rw[B2]at Z;exact qa.weaken (e:=.panic Bb) B3 Z,.pass (x:=.inLoop c) rfl (λ_ _=>.inl (by simp)) Ag⟩
   |outgrown=>exact Z.elim
 obtain⟨e,U,w',AC,Ag⟩:=key _ Ab φ a w rfl A0 rfl I (bk.refl ..);exact⟨e,U,w',AC,.of_steps (.one step_loop) Ag⟩
end
inductive Out where
 |ret (x:AV)
 |panic (t:TypeId) (x:D)
def qm(φ:bP)(w:World)(F:Nat->Prop):Out->Ending->Prop
 | .ret x,.returned v=>aH φ w F x v
 | .panic t x,.panicked chain=>∃v,chain=[{v:=.iface t v,recovered:=false}]/\aQ w F x v
 |_,_=>False
def Ev(P:Program)(gl:List (Nat×D))(f:FuncId)(args:List AV)(m:Mem)(K:Out->Mem->Prop):Prop:=
 ∀φ G w (vs:Array Value),bz φ G m w->fF w (Fo G φ m) gl->args.length=vs.size->(∀(i:Nat) x v,args[i]?=some x->vs[i]?=some v->aH φ w (Fo G φ m) x v)->
  Calls P f vs w λe w'=>∃φ' m' out,K out m'/\bz φ' G m' w'/\bk φ m w φ' m' w'/\qm φ' w' (Fo G φ' m') out e
def my:List Nat->Nat->Nat->Option Nat
 |[],_,_=>none
 |a::r,k,i=>if a=k then some i else my r k (i+1)
theorem AO:∀{ρ:List Nat}{k j i:Nat},my ρ k j=some i->j<=i/\ρ[i-j]?=some k
 |[],k,j,i,h=>by simp[my]at h
 |a::r,k,j,i,h=>by
  simp only[my]at h;split at h
  ·rename_i H;cases h;subst H;simp
  ·obtain⟨T,A0⟩:=AO h;refine⟨by omega,?_⟩;rw[show i-j=(i-(j+1))+1 by omega];simpa using A0
theorem lI:∀{ρ:List Nat}{k j:Nat},my ρ k j=none↔k∉ρ
 |[],k,j=>by simp[my]
 |a::r,k,j=>by
  simp only[my,aaC,alg];split
  ·rename_i H;subst H;simp
  ·rename_i H;rw[lI];constructor
   ·exact λh=>⟨λAf=>H Af.symm,h⟩
   ·exact λh=>h.2
theorem ZW{ρ:List Nat}(AD:ρ.Nodup){i k:Nat}(h:ρ[i]?=some k):my ρ k 0=some i:=by
 cases AB:my ρ k 0 with
 |none=>exact absurd (aay h) (lI.1 AB)
 |some j=>
  obtain⟨_,A0⟩:=AO AB;simp only[Nat.sub_zero]at A0;obtain⟨hi,AE⟩:=D1.1 h;obtain⟨O,AJ⟩:=D1.1 A0;have:=(List.getElem_inj AD).1 (AE.trans AJ.symm);rw[this]
def x7:List AV->Option (List D)
 |[]=>some []
 | .d x::r=>match x.flat,x7 r with
  |true,some AT=>some (x::AT)
  |_,_=>none
 |_::_=>none
theorem Kq:∀{l:List AV}{V:List D},x7 l=some V->l=V.map .d/\∀d∈V,d.flat=true
 |[],V,h=>by simp[x7]at h;subst h;simp
 |x::r,V,h=>by
  unfold x7 at h;split at h
  ·rename_i heq;cases heq
  ·rename_i y B7 heq;cases heq;split at h
   ·rename_i AT AB Ag;cases h;obtain⟨T,A0⟩:=Kq Ag;refine⟨by rw[T];rfl,λd Y=>?_⟩;rcases aaC.1 Y with rfl|Y
    ·exact AB
    ·exact A0 d Y
   ·cases h
  ·cases h
def adw:Option (List D)->AV
 |some V=>.d (.list V)
 |none=>.bu
mutual
def vw(m:Mem)(ρ:List Nat)(bor:Nat->Bool)(nv:Nat->Nat->Nat):AV->AV
 | .ptr k ar off=>match Mem.get m k,my ρ k 0 with
  |some e,some i=>if e.ar=ar then .ptr i (nv i ar) off else .bu
  |_,_=>.bu
 | .vec k ar off len=>match Mem.get m k,my ρ k 0 with
  |some e,some i=>if e.ar=ar then .vec i (nv i ar) off len else .bu
  |some ⟨_,v,.vec _ aj⟩,none=>if bor k=true/\v=ar/\off+len<=aj.length then .d (.list ((aj.drop off).take len))else .bu
  |some ⟨_,v,.box cs⟩,none=>if bor k=true/\v=ar/\off+len<=cs.length then adw (x7 ((cs.drop off).take len))else .bu
  |_,_=>.bu
 | .cS k ar i j=>match Mem.get m k,my ρ k 0 with
  |some e,some n=>if e.ar=ar then .cS n (nv n ar) i j else .bu
  |_,_=>.bu
 | .agg cs=>.agg (vp m ρ bor nv cs)
 | .fn f cap=>.fn f (vp m ρ bor nv cap)
 | .aY vs=>.aY (vp m ρ bor nv vs)
 | .bu=>.bu
 | .d x=>.d x
 | .eu x j=>.eu x j
 | .iA t x=>.iA t x
 | .lit v=>.lit v
 | .nn=>.nn
 | .err=>.err
def vp(m:Mem)(ρ:List Nat)(bor:Nat->Bool)(nv:Nat->Nat->Nat):List AV->List AV
 |[]=>[]
 |x::r=>vw m ρ bor nv x::vp m ρ bor nv r
end
theorem vY(m ρ bor nv):∀(l:List AV)(i:Nat),(vp m ρ bor nv l)[i]?=(l[i]?).map (vw m ρ bor nv)
 |[],i=>by simp[vp]
 |x::r,i=>by cases i with|zero=>simp[vp]|succ i=>simp[vp,vY m ρ bor nv r i]
theorem nq(m ρ bor nv):∀(l:List AV),(vp m ρ bor nv l).length=l.length
 |[]=>rfl
 |x::r=>by simp[vp,nq m ρ bor nv r]
def bP.jq(φ:bP)(ρ:List Nat)(nv:Nat->Nat->Nat):bP:=λi=>
 match ρ[i]? with
 |some k=>(φ k).map λL=>{L with ar:=nv i L.ar}
 |none=>none
def CF(φ:bP)(m:Mem)(ρ:List Nat)(b:Nat):Prop:=∃k∈ρ,∃e L,Mem.get m k=some e/\φ k=some L/\e.cont.db L b
theorem CF.own{φ m ρ b}(h:CF φ m ρ b):jQ φ m b:=by
 obtain⟨k,_,e,L,J,E,A1⟩:=h;obtain⟨hm,rfl⟩:=Mem.get_mem J;exact⟨e,hm,L,E,A1⟩
theorem HE{φ G m w}(h:bz φ G m w){ρ:List Nat}{k:Nat}{e:cq}{L:Loc}{b:Nat}(J:Mem.get m k=some e)(E:φ k=some L)(A1:e.cont.db L b)(H:k∉ρ):¬CF φ m ρ b:=by
 rintro ⟨Ah,AF,e',L',Ai,M,Aj⟩;obtain⟨hm,rfl⟩:=Mem.get_mem J;obtain⟨Ak,rfl⟩:=Mem.get_mem Ai;have:=h.apart e' Ak e hm L' L M E ⟨b,Aj,A1⟩;exact H (this▸AF)
section
variable {φ:bP} {G:Fr} {m:Mem} {w:World} {ρ:List Nat} {bor:Nat->Bool} {nv:Nat->Nat->Nat} {AG:Nat->Prop}
theorem Jl{k i:Nat}{L:Loc}(hi:my ρ k 0=some i)(E:φ k=some L):φ.jq ρ nv i=some {L with ar:=nv i L.ar}:=by
 obtain⟨_,A0⟩:=AO hi;simp only[Nat.sub_zero]at A0;simp[bP.jq,A0,E]
theorem akI(hm:bz φ G m w)(A3:∀b,AG b->Fo G φ m b)
 (AH:∀k e L b,Mem.get m k=some e->k∉ρ->bor k=true->φ k=some L->e.cont.db L b->¬AG b) {y v} (h:aH φ w (Fo G φ m) y v):aH (φ.jq ρ nv) w AG (vw m ρ bor nv y) v:=by
 induction h with
 |bu v=>exact .bu v
 |d x v h=>exact .d x v (h.mono (λ_ _ _=>rfl) (aad _) (λb _=>A3 b))
 |agg cs a A8 T _ ih=>
  refine .agg _ a (by rw[nq];exact A8) T (λi c v I U=>?_);rw[vY]at I;obtain⟨y,A4,rfl⟩:=aax.1 I;exact ih i y v A4 U
 |ptr k ar off v L E U h T=>
  unfold vw;split
  ·rename_i e i J hi;split
   ·rename_i he;obtain⟨_,_,L',M,W,_⟩:=hm.get J;rw[E]at M;cases M;have A6:L.ar=ar:=by rw[W];exact he
    refine .ptr i _ off v _ (Jl hi E) (by simp[A6]) (λ_=>h A6.symm) T
   ·exact .bu _
  ·exact .bu _
 |vec k ar off len v L E U h T=>
  unfold vw;split
  ·rename_i e i J hi;split
   ·rename_i he;obtain⟨_,_,L',M,W,_⟩:=hm.get J;rw[E]at M;cases M;have A6:L.ar=ar:=by rw[W];exact he
    refine .vec i _ off len v _ (Jl hi E) (by simp[A6]) (λ_=>h A6.symm) T
   ·exact .bu _
  ·rename_i key AC sz aj J hi;split
   ·rename_i I;obtain⟨A9,rfl,hle⟩:=I;obtain⟨_,_,L',M,W,Z⟩:=hm.get J;rw[E]at M;cases M;refine .d _ _ (Gk (.vec k AC off len v L E U h T) E W Z hle A3 (λA1=>?_));exact AH k _ L _ J (lI.1 hi) A9 E ⟨A1,rfl⟩
   ·exact .bu _
  ·rename_i key AC cs J hi;split
   ·rename_i I;obtain⟨A9,rfl,hle⟩:=I;obtain⟨_,_,L',M,W,Z⟩:=hm.get J;rw[E]at M;cases M;obtain⟨⟨Al,z2,z3⟩,arr,elem,AU,B8,An,Ao⟩:=Z;cases Ap:x7 ((cs.drop off).take len)with
    |none=>exact .bu _
    |some V=>
     obtain⟨AW,Aq⟩:=Kq Ap;obtain⟨ao,cap,rfl,B9,AX⟩:=h W.symm;have Ar:V.length=len:=by
      have:=ahS List.length AW;simp at this;omega
     refine .d _ _ ?_;by_cases AK:len=0
     ·have:V=[]:=abO (by omega);subst this;subst AK;refine .nil _ _ (λAD=>?_);cases cap with
      |zero=>rfl
      |succ c=>have:=(AX (by omega)).1;rw[AD]at this;cases this
     ·obtain⟨rfl,_⟩:=AX (by omega);rw[<-Ar];have AY:∀(i:Nat) d,V[i]?=some d->∃u,arr[off+i]?=some u/\aQ w AG d u/\cF u=true:=by
       intro i d Y;have hi:i<V.length:=(D1.1 Y).1;have As:cs[off+i]?=some (.d d):=by
        have:=ahS (·[i]?) AW;simp only[abW,acx,ab6,Y]at this;rw[aat (by omega)]at this;simpa using this
       have AZ:off+i<arr.size:=by omega
       have AL:=Ao (off+i) _ arr[off+i] As (by simp[AZ]);cases AL with
       |d _ _ AL=>exact⟨_,by simp[AZ],AL.mono (λ_ _ _=>rfl) (aad _) (λb _=>A3 b),An _ (by simp)⟩
      have At:L.dZ<w.heap.size:=AU.lt;refine .list V _ _ cap 1 (λi=>(arr[off+i]?).getD undef) (by omega) At (AH k _ L _ J (lI.1 hi) A9 E rfl) (λd Y=>?_) (λi d Y=>?_) (λi j c Au O=>?_)
      ·have:=Aq d Y;cases d<;>simp_all [D.flat,D.size]
      ·obtain⟨u,T,A0,_⟩:=AY i d Y;simp only[T,af7];exact A0
      ·obtain⟨u,T,A0,AE⟩:=AY i V[i] (by simp[Au]);simp only[T,af7,eI AE]at O;have Av:j=0:=by
        have:=(acU.1 O).1;simpa using this
       subst Av;simp at O;subst O;rw[iF AU,Al,z2];simpa using T
   ·exact .bu _
  ·exact .bu _
 |cS k ar i j v L E U h T=>
  unfold vw;split
  ·rename_i e n J hi;split
   ·rename_i he;obtain⟨_,_,L',M,W,_⟩:=hm.get J;rw[E]at M;cases M;have A6:L.ar=ar:=by rw[W];exact he
    refine .cS n _ i j v _ (Jl hi E) (by simp[A6]) (λ_=>h A6.symm) T
   ·exact .bu _
  ·exact .bu _
 |eu x j b off Aw A9 Ax AM I=>
  exact .eu x j b off Aw A9 (λh=>Ax (A3 b h)) (AM.mono (λ_ _ _=>rfl) (aad _) (λb _=>A3 b)) I
 |fn f cap a AB A8 _ ih=>
  refine .fn f _ a AB (by rw[nq];exact A8) (λi c v I U=>?_);rw[vY]at I;obtain⟨y,A4,rfl⟩:=aax.1 I;exact ih i y v A4 U
 |vj f cap a A8 _ ih=>
  refine .vj f _ a (by rw[nq];exact A8) (λi c v I U=>?_);rw[vY]at I;obtain⟨y,A4,rfl⟩:=aax.1 I;exact ih i y v A4 U
 |aY vs a A8 _ ih=>
  refine .aY _ a (by rw[nq];exact A8) (λi c v I U=>?_);rw[vY]at I;obtain⟨y,A4,rfl⟩:=aax.1 I;exact ih i y v A4 U
 |iA t x v h=>exact .iA t x v (h.mono (λ_ _ _=>rfl) (aad _) (λb _=>A3 b))
 |lit v h=>exact .lit v h
 |nn a cap=>exact .nn a cap
 |err t v=>exact .err t v
end
def dW:Nat->List (Nat×aD)->Mem
 |_,[]=>[]
 |i,(v,c)::r=>⟨i,v,c⟩::dW (i+1) r
theorem sO:∀(l:List (Nat×aD))(i:Nat),(dW i l).map (·.key)=List.range' i l.length
 |[],i=>rfl
 |(v,c)::r,i=>by simp[dW,sO r,akz]
theorem mK:∀{l:List (Nat×aD)}{i:Nat}{e:cq},e∈dW i l↔∃j v c,l[j]?=some (v,c)/\e=⟨i+j,v,c⟩
 |[],i,e=>by simp[dW]
 |(v,c)::r,i,e=>by
  simp only[dW,aaC,mK (l:=r)];constructor
  ·rintro (rfl|⟨j,AC,AN,h,rfl⟩)
   ·exact⟨0,v,c,by simp,by simp⟩
   ·exact⟨j+1,AC,AN,by simpa using h,by simp;omega⟩
  ·rintro ⟨j,AC,AN,h,rfl⟩;cases j with
   |zero=>simp at h;obtain⟨rfl,rfl⟩:=h;left;simp
   |succ j=>right;exact⟨j,AC,AN,by simpa using h,by simp;omega⟩
def y8(m:Mem)(ρ:List Nat)(bor:Nat->Bool)(nv:Nat->Nat->Nat):aD->aD
 | .dead=>.dead
 | .box cs=>.box (vp m ρ bor nv cs)
 | .vec sz aj=>.vec sz aj
 | .vv aj y=>.vv aj (y.map (vw m ρ bor nv))
def y9(m:Mem)(ρ:List Nat)(bor:Nat->Bool)(nv:Nat->Nat->Nat)(i:Nat):Option cq->Nat×aD
 |some e=>(nv i e.ar,y8 m ρ bor nv e.cont)
 |none=>(0,.dead)
def fa(m:Mem)(ρ:List Nat)(bor:Nat->Bool)(nv:Nat->Nat->Nat):Nat->List Nat->List (Nat×aD)
 |_,[]=>[]
 |i,k::r=>y9 m ρ bor nv i (Mem.get m k)::fa m ρ bor nv (i+1) r
theorem AP(m ρ bor nv):∀(l:List Nat)(i j:Nat),(fa m ρ bor nv i l)[j]?=(l[j]?).map λk=>y9 m ρ bor nv (i+j) (Mem.get m k)
 |[],i,j=>by simp[fa]
 |k::r,i,j=>by
  cases j with
  |zero=>simp[fa]
  |succ j=>simp[fa,AP m ρ bor nv r (i+1) j,abY,Nat.add_comm 1 j]
theorem tL(m ρ bor nv):∀(l:List Nat)(i:Nat),(fa m ρ bor nv i l).length=l.length
 |[],i=>rfl
 |k::r,i=>by simp[fa,tL m ρ bor nv r]
theorem x8{m ρ bor nv L c b}:(y8 m ρ bor nv c).db L b↔c.db L b:=by cases c<;>exact aoR
theorem mf{L:Loc}{c:aD}{v b:Nat}:c.db {L with ar:=v} b↔c.db L b:=by cases c<;>exact aoR
section
variable {φ:bP} {G G1:Fr} {m:Mem} {w:World} {ρ:List Nat} {bor:Nat->Bool} {nv:Nat->Nat->Nat}
theorem zT(AI:∀k∈ρ,(Mem.get m k).isSome=true)(b:Nat):jQ (φ.jq ρ nv) (dW 0 (fa m ρ bor nv 0 ρ)) b↔CF φ m ρ b:=by
 constructor
 ·rintro ⟨e,he,L,E,A1⟩;obtain⟨j,v,c,O,rfl⟩:=mK.1 he;rw[AP]at O;obtain⟨k,H,AA⟩:=aax.1 O;simp only[ahI,bP.jq,H,aax]at E;obtain⟨A2,A7,rfl⟩:=E;have A_:=aay H;have:=AI k A_;obtain⟨A',A5⟩:=ak7.1 this;rw[A5]at AA;simp only[y9,acr]at AA;obtain⟨rfl,rfl⟩:=AA;exact⟨k,A_,A',A2,A5,A7,mf.1 (x8.1 A1)⟩
 ·rintro ⟨k,H,e,L,J,E,A1⟩;obtain⟨j,O,rfl⟩:=an4.1 H;refine⟨⟨0+j,nv j e.ar,y8 m ρ bor nv e.cont⟩,mK.2 ⟨j,_,_,?_,rfl⟩,{L with ar:=nv j L.ar},?_,x8.2 (mf.2 A1)⟩
  ·rw[AP];simp[O,J,y9]
  ·simp[bP.jq,O,E]
theorem Ej(hm:bz φ G m w)(AD:ρ.Nodup)(AI:∀k∈ρ,(Mem.get m k).isSome=true)(Aa:∀b,G1 b->Fo G φ m b)(Ay:∀b,CF φ m ρ b->¬G1 b)
 (AH:∀k e L b,Mem.get m k=some e->k∉ρ->bor k=true->φ k=some L->e.cont.db L b->¬G1 b):
 bz (φ.jq ρ nv) G1 (dW 0 (fa m ρ bor nv 0 ρ)) w/\(∀y v,aH φ w (Fo G φ m) y v->aH (φ.jq ρ nv) w (Fo G1 (φ.jq ρ nv) (dW 0 (fa m ρ bor nv 0 ρ))) (vw m ρ bor nv y) v)/\
  (∀b,Fo G1 (φ.jq ρ nv) (dW 0 (fa m ρ bor nv 0 ρ)) b->Fo G φ m b):=by
 have AQ:=zT (φ:=φ) (nv:=nv) (bor:=bor) AI;have A3:∀b,Fo G1 (φ.jq ρ nv) (dW 0 (fa m ρ bor nv 0 ρ)) b->Fo G φ m b:=by
  rintro b (h|h)
  ·exact Aa b h
  ·exact .inr ((AQ b).1 h).own
 have A9:∀k e L b,Mem.get m k=some e->k∉ρ->bor k=true->φ k=some L->e.cont.db L b->¬Fo G1 (φ.jq ρ nv) (dW 0 (fa m ρ bor nv 0 ρ)) b:=by
  rintro k e L b J H Az E A1 (h|h)
  ·exact AH k e L b J H Az E A1 h
  ·exact HE hm J E A1 H ((AQ _).1 h)
 have AR:∀y v,aH φ w (Fo G φ m) y v->aH (φ.jq ρ nv) w (Fo G1 (φ.jq ρ nv) (dW 0 (fa m ρ bor nv 0 ρ))) (vw m ρ bor nv y) v:=λy v h=>akI hm A3 A9 h;have Y:∀x v,aQ w (Fo G φ m) x v->aQ w (Fo G1 (φ.jq ρ nv) (dW 0 (fa m ρ bor nv 0 ρ))) x v:=λx v h=>h.mono (λ_ _ _=>rfl) (aad _) (λb _=>A3 b);have part:∀{e:cq},e∈dW 0 (fa m ρ bor nv 0 ρ)->∃j k A' A2,ρ[j]?=some k/\Mem.get m k=some A'/\φ k=some A2/\A2.ar=A'.ar/\eJ φ w (Fo G φ m) A2 A'.cont/\e=⟨j,nv j A'.ar,y8 m ρ bor nv A'.cont⟩:=by
  intro e he;obtain⟨j,v,c,O,rfl⟩:=mK.1 he;rw[AP]at O;obtain⟨k,H,AA⟩:=aax.1 O;obtain⟨A',A5⟩:=ak7.1 (AI k (aay H));rw[A5]at AA;simp only[y9,acr,ahI]at AA;obtain⟨rfl,rfl⟩:=AA;obtain⟨_,_,A2,A7,W,Z⟩:=hm.get A5;exact⟨j,k,A',A2,H,A5,A7,W,Z,by simp⟩
 refine⟨⟨?_,?_,?_,?_,?_,?_⟩,AR,A3⟩
 ·rw[sO];exact List.nodup_range'
 ·intro i L E;rw[sO,tL];simp only[bP.jq]at E;split at E
  ·rename_i k H;have:=(D1.1 H).1;simp[List.mem_range'];omega
  ·cases E
 ·intro e he;obtain⟨j,k,A',A2,H,A5,A7,W,Z,rfl⟩:=part he;refine⟨{A2 with ar:=nv j A2.ar},by simp[bP.jq,H,A7],by simp[W],?_⟩;cases I:A'.cont with
  |dead=>trivial
  |box cs=>
   rw[I]at Z;obtain⟨g0,arr,elem,g1,g2,g3,g4⟩:=Z;refine⟨by simpa [nq]using g0,arr,elem,g1,by simp[nq,g2],g3,λi c v Ab U=>?_⟩;rw[vY]at Ab;obtain⟨y,A4,rfl⟩:=aax.1 Ab;exact AR y v (g4 i y v A4 U)
  |vec sz aj=>
   rw[I]at Z;obtain⟨g1,g2,g3,g4⟩:=Z;refine⟨g1,g2,g3,λAK=>?_⟩;obtain⟨arr,elem,f1,f2,f3,f4⟩:=g4 AK;exact⟨arr,elem,f1,f2,f3,λi d B'=>let ⟨v,U,O⟩:=f4 i d B';⟨v,Y _ _ U,O⟩⟩
  |vv aj y=>
   rw[I]at Z;exact (mB.mono (vw m ρ bor nv) Z (λ_ _ _ _ u hu=>Y _ u hu) (λx _ v AM=>AR x v AM) (λ_ _=>rfl)).ar _
 ·intro e he e' B0 L L' E M B1;obtain⟨j,k,A',A2,H,A5,A7,W,Z,rfl⟩:=part he;obtain⟨BA,Ah,B2,B3,AF,B4,Ac,BB,BC,rfl⟩:=part B0;simp only[bP.jq,H,A7,AF,Ac,ah3,aa1]at E M;subst E;subst M;obtain⟨B5,Ad⟩:=Mem.get_mem A5;obtain⟨B6,Ae⟩:=Mem.get_mem B4;have:=hm.apart A' B5 B2 B6 A2 B3 (by rw[Ad];exact A7) (by rw[Ae];exact Ac) (B1.imp λb h=>⟨mf.1 (x8.1 h.1),mf.1 (x8.1 h.2)⟩);rw[Ad,Ae]at this;obtain⟨hi,AE⟩:=D1.1 H;obtain⟨O,AJ⟩:=D1.1 AF;exact (List.getElem_inj AD).1 (AE.trans (this.trans AJ.symm))
 ·exact λb AS=>Ay b ((AQ b).1 AS)
 ·exact λb AS=>Gf hm b (Aa b AS)
end
mutual
def ko:D->Bool
 | .list (_::_)=>false
 | .list []=>true
 | .agg cs=>pJ cs
 | .int _ _=>true
 | .bool _=>true
 | .str _=>true
 | .Cf=>true
def pJ:List D->Bool
 |[]=>true
 |x::r=>ko x&&pJ r
end
theorem tM:∀{l:List D},pJ l=true->∀x∈l,ko x=true
 |[],_,x,O=>by simp at O
 |y::r,h,x,O=>by
  simp only[pJ,Ds]at h;rcases aaC.1 O with rfl|O
  ·exact h.1
  ·exact tM h.2 x O
theorem aQ.plain{w w':World}{F F':Nat->Prop}{d v}(h:aQ w F d v)(U:ko d=true):aQ w' F' d v:=by
 induction h with
 |int k n=>exact .int k n
 |bool b=>exact .bool b
 |Cf v h=>exact .Cf v h
 |str b s h=>exact .str b s h
 |agg cs a A8 AZ _ ih=>
  refine .agg cs a A8 AZ (λi d v T W=>ih i d v T W (tM (by simpa only[ko]using U) d (aay T)))
 |nil a cap A9=>exact .nil a cap A9
 |list xs b off cap sz vs BP A4 BQ BR W M _=>
  cases xs with
  |nil=>exact .nil _ _ (by simp)
  |cons=>simp[ko]at U
mutual
def eo:AV->Bool
 | .d x=>ko x
 | .eu _ _=>false
 | .agg cs=>nr cs
 | .fn _ cap=>nr cap
 | .aY vs=>nr vs
 | .iA _ x=>ko x
 | .bu=>true
 | .ptr _ _ _=>true
 | .vec _ _ _ _=>true
 | .cS _ _ _ _=>true
 | .lit _=>true
 | .nn=>true
 | .err=>true
def nr:List AV->Bool
 |[]=>true
 |x::r=>eo x&&nr r
end
theorem mL:∀{l:List AV},nr l=true->∀x∈l,eo x=true
 |[],_,x,O=>by simp at O
 |y::r,h,x,O=>by
  simp only[nr,Ds]at h;rcases aaC.1 O with rfl|O
  ·exact h.1
  ·exact mL h.2 x O
def nL:aD->Bool
 | .dead=>true
 | .box cs=>nr cs
 | .vec _ aj=>pJ aj
 | .vv aj y=>aj.all pJ&&(match y with|none=>true|some x=>eo x)
mutual
def up(ρ bs:List Nat):AV->AV
 | .ptr k ar off=>.ptr (ρ.getD k 0) (bs.getD k 0+ar) off
 | .vec k ar off len=>.vec (ρ.getD k 0) (bs.getD k 0+ar) off len
 | .cS k ar i j=>.cS (ρ.getD k 0) (bs.getD k 0+ar) i j
 | .agg cs=>.agg (zU ρ bs cs)
 | .fn f cap=>.fn f (zU ρ bs cap)
 | .aY vs=>.aY (zU ρ bs vs)
 | .bu=>.bu
 | .d x=>.d x
 | .eu x j=>.eu x j
 | .iA t x=>.iA t x
 | .lit v=>.lit v
 | .nn=>.nn
 | .err=>.err
def zU(ρ bs:List Nat):List AV->List AV
 |[]=>[]
 |x::r=>up ρ bs x::zU ρ bs r
end
theorem vZ(ρ bs):∀(l:List AV)(i:Nat),(zU ρ bs l)[i]?=(l[i]?).map (up ρ bs)
 |[],i=>by simp[zU]
 |x::r,i=>by cases i with|zero=>simp[zU]|succ i=>simp[zU,vZ ρ bs r i]
theorem nt(ρ bs):∀(l:List AV),(zU ρ bs l).length=l.length
 |[]=>rfl
 |x::r=>by simp[zU,nt ρ bs r]
def HG(ρ bs:List Nat):aD->aD
 | .dead=>.dead
 | .box cs=>.box (zU ρ bs cs)
 | .vec sz aj=>.vec sz aj
 | .vv aj y=>.vv aj (y.map (up ρ bs))
def jX(ρ bs:List Nat):Nat->List (Nat×aD)->List cq
 |_,[]=>[]
 |i,(v,c)::r=>⟨ρ.getD i 0,bs.getD i 0+v,HG ρ bs c⟩::jX ρ bs (i+1) r
theorem yd{ρ bs:List Nat}:∀{l:List (Nat×aD)}{i:Nat}{e:cq},e∈jX ρ bs i l↔∃j v c,l[j]?=some (v,c)/\e=⟨ρ.getD (i+j) 0,bs.getD (i+j) 0+v,HG ρ bs c⟩
 |[],i,e=>by simp[jX]
 |(v,c)::r,i,e=>by
  simp only[jX,aaC,yd (l:=r)];constructor
  ·rintro (rfl|⟨j,AJ,AK,h,rfl⟩)
   ·exact⟨0,v,c,by simp,by simp⟩
   ·exact⟨j+1,AJ,AK,by simpa using h,by rw[show i+(j+1)=i+1+j by omega]⟩
  ·rintro ⟨j,AJ,AK,h,rfl⟩;cases j with
   |zero=>simp at h;obtain⟨rfl,rfl⟩:=h;left;simp
   |succ j=>right;exact⟨j,AJ,AK,by simpa using h,by rw[show i+(j+1)=i+1+j by omega]⟩
theorem HH{ρ bs:List Nat}:∀(l:List (Nat×aD))(i:Nat),(jX ρ bs i l).map (·.key)=(List.range' i l.length).map λj=>ρ.getD j 0
 |[],i=>rfl
 |(v,c)::r,i=>by simp[jX,HH r,akz]
def bH(m:Mem):List cq->Mem
 |[]=>m
 |e::r=>bH (Mem.set m e) r
theorem mg:∀(es:List cq)(m:Mem),(bH m es).map (·.key)=m.map (·.key)
 |[],m=>rfl
 |e::r,m=>by rw[bH,mg r,Mem.iE]
theorem HI:∀(es:List cq)(m:Mem),(m.map (·.key)).Nodup->(es.map (·.key)).Nodup->(∀e∈es,e.key∈m.map (·.key))->∀e,e∈bH m es↔e∈es\/(e∈m/\e.key∉es.map (·.key))
 |[],m,_,_,_,e=>by simp[bH]
 |x::r,m,hm,A9,A1,e=>by
  simp only[abR,List.nodup_cons]at A9;rw[bH,HI r (Mem.set m x) (by rw[Mem.iE];exact hm) A9.2 (λe he=>by rw[Mem.iE];exact A1 e (by simp[he])),Mem.mem_set hm];have O:=A1 x (by simp);constructor
  ·rintro (h|⟨⟨rfl,_⟩|⟨h,V⟩,AM⟩)
   ·left;simp[h]
   ·left;simp
   ·right;exact⟨h,by simp only[abR,aaC,alg];exact⟨V,AM⟩⟩
  ·rintro (h|⟨h,AM⟩)
   ·rcases aaC.1 h with rfl|h
    ·right;exact⟨.inl ⟨rfl,O⟩,A9.1⟩
    ·left;exact h
   ·simp only[abR,aaC,alg]at AM;right;exact⟨.inr ⟨h,AM.1⟩,AM.2⟩
def base(m:Mem)(d:Nat):List Nat->List Nat
 |[]=>[]
 |k::r=>(match Mem.get m k with|some e=>e.ar+d|none=>0)::base m d r
theorem Gl(m:Mem)(d:Nat):∀(l:List Nat)(i:Nat),(base m d l)[i]?=(l[i]?).map λk=>match Mem.get m k with|some e=>e.ar+d|none=>0
 |[],i=>by simp[base]
 |k::r,i=>by cases i with|zero=>simp[base]|succ i=>simp[base,Gl m d r i]
theorem tN(m:Mem)(d:Nat):∀(l:List Nat),(base m d l).length=l.length
 |[]=>rfl
 |k::r=>by simp[base,tN m d r]
def ja:Nat->Nat->Nat:=λ_ _=>0
def nu(φ:bP)(G:Fr)(m:Mem)(ρ B:List Nat):Fr:=⟨λb=>Fo G φ m b/\¬CF φ m ρ b/\¬CF φ m B b,[]⟩
section
variable {φ:bP} {G:Fr} {m:Mem} {w:World} {ρ B:List Nat}
theorem Kr(hm:bz φ G m w)(A9:ρ.Nodup)(AS:∀k∈ρ,(Mem.get m k).isSome=true):
 bz (φ.jq ρ ja) (nu φ G m ρ B) (dW 0 (fa m ρ (λk=>B.contains k) ja 0 ρ)) w/\
  (∀y v,aH φ w (Fo G φ m) y v->aH (φ.jq ρ ja) w (Fo (nu φ G m ρ B) (φ.jq ρ ja) (dW 0 (fa m ρ (λk=>B.contains k) ja 0 ρ))) (vw m ρ (λk=>B.contains k) ja y) v)/\
  (∀b,Fo (nu φ G m ρ B) (φ.jq ρ ja) (dW 0 (fa m ρ (λk=>B.contains k) ja 0 ρ)) b->Fo G φ m b):=
 Ej hm A9 AS (λb h=>h.1) (λb h A_=>A_.2.1 h) (λk e L b B6 _ A4 E I A_=>A_.2.2 ⟨k,by simpa using A4,e,L,B6,E,I⟩)
theorem aH.upR{φ φ':bP}{ρ bs:List Nat}{w F F' x v}(h:aH φ w F x v)(Aa:∀i L,φ i=some L->φ' (ρ.getD i 0)=some {L with ar:=bs.getD i 0+L.ar})
 (T:(∀b,F' b->F b)\/eo x=true):aH φ' w F' (up ρ bs x) v:=by
 have Ak:∀{d v},aQ w F d v->((∀b,F' b->F b)\/ko d=true)->aQ w F' d v:=λh T=>by
  rcases T with T|T
  ·exact h.mono (λ_ _ _=>rfl) (aad _) (λb _=>T b)
  ·exact h.plain T
 induction h with
 |bu v=>exact .bu v
 |d x v h=>exact .d x v (Ak h (T.imp id (by simp[eo])))
 |agg cs a A8 A2 _ ih=>
  refine .agg _ a (by rw[nt];exact A8) A2 (λi c v M W=>?_);rw[vZ]at M;obtain⟨y,A5,rfl⟩:=aax.1 M;exact ih i y v A5 W (T.imp id λU=>mL (by simpa only[eo]using U) y (aay A5))
 |ptr k ar off v L E W h A2=>exact .ptr _ _ off v _ (Aa k L E) (by simp only;omega) (λhe=>h (by simp only at he;omega)) A2
 |vec k ar off len v L E W h A2=>exact .vec _ _ off len v _ (Aa k L E) (by simp only;omega) (λhe=>h (by simp only at he;omega)) A2
 |cS k ar i j v L E W h A2=>exact .cS _ _ i j v _ (Aa k L E) (by simp only;omega) (λhe=>h (by simp only at he;omega)) A2
 |eu x j b off B7 A4 B8 O M=>
  rcases T with T|T
  ·exact .eu x j b off B7 A4 (λh=>B8 (T b h)) (O.mono (λ_ _ _=>rfl) (aad _) (λb _=>T b)) M
  ·simp[eo]at T
 |fn f cap a AZ A8 _ ih=>
  refine .fn f _ a AZ (by rw[nt];exact A8) (λi c v M W=>?_);rw[vZ]at M;obtain⟨y,A5,rfl⟩:=aax.1 M;exact ih i y v A5 W (T.imp id λU=>mL (by simpa only[eo]using U) y (aay A5))
 |vj f cap a A8 _ ih=>
  refine .vj f _ a (by rw[nt];exact A8) (λi c v M W=>?_);rw[vZ]at M;obtain⟨y,A5,rfl⟩:=aax.1 M;exact ih i y v A5 W (T.imp id λU=>mL (by simpa only[eo]using U) y (aay A5))
 |aY vs a A8 _ ih=>
  refine .aY _ a (by rw[nt];exact A8) (λi c v M W=>?_);rw[vZ]at M;obtain⟨y,A5,rfl⟩:=aax.1 M;exact ih i y v A5 W (T.imp id λU=>mL (by simpa only[eo]using U) y (aay A5))
 |iA t x v h=>exact .iA t x v (Ak h (T.imp id (by simp[eo])))
 |lit v h=>exact .lit v h
 |nn a cap=>exact .nn a cap
 |err t v=>exact .err t v
theorem sP{ρ bs L c b}:(HG ρ bs c).db L b↔c.db L b:=by cases c<;>exact aoR
theorem Ks(h:bz φ G m w)(A9:ρ.Nodup)(AS:∀k∈ρ,(Mem.get m k).isSome=true){fr:List Nat}(B9:fr.Nodup)(Al:∀k∈fr,(Mem.get m k).isSome=true/\k∉ρ)
 {A':bP} {J:List (Nat×aD)} {A6:World} (AT:bz A' (nu φ G m ρ B) (dW 0 J) A6)
 (A1:bk (φ.jq ρ ja) (dW 0 (fa m ρ (λk=>B.contains k) ja 0 ρ)) w A' (dW 0 J) A6) (BA:J.length=ρ.length+fr.length)
 (BB:B=[]\/∀e∈J,nL e.2=true):
 ∃φ':bP,bz φ' G (bH m (jX (ρ++fr) (base m 0 ρ++base m 1 fr) 0 J)) A6/\bk φ m w φ' (bH m (jX (ρ++fr) (base m 0 ρ++base m 1 fr) 0 J)) A6/\
  ∀x v,(B=[]\/eo x=true)->aH A' A6 (Fo (nu φ G m ρ B) A' (dW 0 J)) x v->
   aH φ' A6 (Fo G φ' (bH m (jX (ρ++fr) (base m 0 ρ++base m 1 fr) 0 J))) (up (ρ++fr) (base m 0 ρ++base m 1 fr) x) v:=by
 obtain⟨H,AG⟩:∃H,H=ρ++fr:=⟨_,rfl⟩;obtain⟨bs,Ab⟩:∃bs,bs=base m 0 ρ++base m 1 fr:=⟨_,rfl⟩;rw[<-AG,<-Ab];have An:H.Nodup:=by
  rw[AG,List.nodup_append];exact⟨A9,B9,λa BC b A4 BD=>(Al b A4).2 (BD▸BC)⟩
 have BE:J.length=H.length:=by rw[AG,aam];exact BA
 have Ao:∀k∈H,(Mem.get m k).isSome=true:=λk Y=>by
  rw[AG]at Y;rcases aa0.1 Y with A2|A2
  ·exact AS k A2
  ·exact (Al k A2).1
 have Ap:∀k∈H,k∈m.map (·.key):=λk Y=>by
  obtain⟨e,he⟩:=ak7.1 (Ao k Y);obtain⟨hm,rfl⟩:=Mem.get_mem he;exact ab0 hm
 obtain⟨φ',Aq⟩:∃φ':bP,φ'=λk=>match my H k 0 with|some i=>(A' i).map (λL=>{L with ar:=bs.getD i 0+L.ar})|none=>φ k:=⟨_,rfl⟩
 have BF:∀{i},i<H.length->H[i]?=some (H.getD i 0):=λhi=>by simp[hi]
 have BG:∀{i},i<H.length->φ' (H.getD i 0)=(A' i).map (λL=>{L with ar:=bs.getD i 0+L.ar}):=λhi=>by
  simp only[Aq,ZW An (BF hi)]
 have AA:∀{k},k∉H->φ' k=φ k:=λY=>by simp only[Aq,lI.2 Y]
 have BH:∀{i L},A' i=some L->i<H.length:=λE=>by
  have:=AT.sA _ _ E;rw[sO]at this;simp[List.mem_range']at this;omega
 have A7:∀i L,A' i=some L->φ' (H.getD i 0)=some {L with ar:=bs.getD i 0+L.ar}:=λi L E=>by
  rw[BG (BH E),E];rfl
 --BI entries behind
 have AB:=HI (jX H bs 0 J) m h.nodup;have Ar:(jX H bs 0 J).map (·.key)=H:=by
  rw[HH,BE];apply List.ext_getElem?;intro i;by_cases hi:i<H.length
  ·simp[hi]
  ·rw[afX (by simp;omega),afX (by omega)]
 rw[Ar]at AB;replace AB:=AB An (λe he=>Ap e.key (by rw[<-Ar];exact ab0 he));have AL:∀{e},e∈jX H bs 0 J->∃j v c L,j<H.length/\J[j]?=some (v,c)/\e=⟨H.getD j 0,bs.getD j 0+v,HG H bs c⟩/\A' j=some L/\L.ar=v/\eJ A' A6 (Fo (nu φ G m ρ B) A' (dW 0 J)) L c:=by
  intro e he;obtain⟨j,v,c,Z,rfl⟩:=yd.1 he;have AN:=(D1.1 Z).1;obtain⟨L,E,AC,M⟩:=AT.fB ⟨0+j,v,c⟩ (mK.2 ⟨j,v,c,Z,rfl⟩);simp only[ahI]at E⊢;exact⟨j,v,c,L,by omega,Z,rfl,E,AC,M⟩
 have AO:=zT (φ:=φ) (nv:=ja) (bor:=λk=>B.contains k) AS;have Ac:∀b,jQ φ' (bH m (jX H bs 0 J)) b↔jQ A' (dW 0 J) b\/∃e∈m,e.key∉H/\∃L,φ e.key=some L/\e.cont.db L b:=by
  intro b;constructor
  ·rintro ⟨e,he,L,E,I⟩;rcases (AB e).1 he with he|⟨he,V⟩
   ·obtain⟨j,v,c,A0,AN,Z,rfl,A3,AC,M⟩:=AL he;left;simp only[A7 j A0 A3,aa1]at E;subst E;exact⟨⟨0+j,v,c⟩,mK.2 ⟨j,v,c,Z,rfl⟩,A0,by simpa using A3,mf.1 (sP.1 I)⟩
   ·right;exact⟨e,he,V,L,by rw[<-AA V];exact E,I⟩
  ·rintro (⟨BS,AP,L,E,I⟩|⟨e,he,V,L,E,I⟩)
   ·obtain⟨j,v,c,Z,rfl⟩:=mK.1 AP;simp only[ahI]at E;exact⟨⟨H.getD j 0,bs.getD j 0+v,HG H bs c⟩,(AB _).2 (.inl (yd.2 ⟨j,v,c,Z,by simp⟩)),_,A7 j L E,sP.2 (mf.2 I)⟩
   ·exact⟨e,(AB _).2 (.inr ⟨he,V⟩),L,by rw[AA V];exact E,I⟩
 have Ad:∀{k},k∉H->k∉ρ:=λY A2=>Y (by rw[AG];exact akX _ A2)
 --BT entry beside shares no block with BI BU
 have Ae:∀e∈m,e.key∉ρ->∀L b,φ e.key=some L->e.cont.db L b->¬CF φ m ρ b:=λe he V L b E I=>
  HE h (Mem.get_of_mem h.nodup he) E I V
 have hle:φ.le φ':=by
  intro k L E;by_cases Y:k∈H
  ·obtain⟨i,hi,rfl⟩:=an4.1 Y;have As:H.getD i 0=H[i]:=by simp[hi]
   obtain⟨e,he⟩:=ak7.1 (Ao _ Y);obtain⟨_,_,BV,At,AC,_⟩:=h.get he;rw[E]at At;cases At;by_cases Au:i<ρ.length
   ·have AU:ρ[i]?=some H[i]:=by simp only[AG];rw[List.getElem_append_left Au];simp
    have Av:bs.getD i 0=L.ar:=by
     rw[Ab,acb,aaF (by rw[tN];exact Au),Gl,AU];simp[he,AC]
    obtain⟨L',AD,BW,BJ⟩:=A1.le i {L with ar:=0} (by simp[bP.jq,AU,E,ja]);refine⟨{L' with ar:=bs.getD i 0+L'.ar},by rw[<-As];exact A7 i L' AD,by simp only;omega,λAP=>?_⟩;simp only at AP;have AQ:=BJ (by simp only;omega);have g1:=ahS Loc.ar AQ;have g2:=ahS Loc.dZ AQ;have g3:=ahS Loc.sz AQ;have g4:=ahS Loc.cap AQ;have g5:=ahS Loc.base AQ;simp only at g1 g2 g3 g4 g5⊢;rw[g1,g2,g3,g4,g5,Av,ah0]
   ·have BK:i<J.length:=by omega
    obtain⟨L',AE,_,_⟩:=AT.fB ⟨0+i,J[i].1,J[i].2⟩ (mK.2 ⟨i,_,_,by simp[BK],rfl⟩);simp only[ahI]at AE;have AU:fr[i-ρ.length]?=some H[i]:=by
     simp only[AG]at hi⊢;rw[List.getElem_append_right (by omega)];simp
    have Av:bs.getD i 0=L.ar+1:=by
     rw[Ab,acb,abI (by rw[tN];omega),tN,Gl,AU];simp[he,AC]
    refine⟨{L' with ar:=bs.getD i 0+L'.ar},by rw[<-As];exact A7 i L' AE,by simp only;omega,λAP=>?_⟩;simp only at AP;omega
  ·exact⟨L,by rw[AA Y];exact E,aad _,λ_=>rfl⟩
 have Aw:∀b,b<w.heap.size->jQ φ' (bH m (jX H bs 0 J)) b->jQ φ m b:=by
  intro b A4 Af;rcases (Ac b).1 Af with AD|⟨e,he,_,L,E,I⟩
  ·exact ((AO b).1 (A1.own b A4 AD)).own
  ·exact⟨e,he,L,E,I⟩
 have hold:∀b,b<w.heap.size->¬jQ φ m b->A6.heap[b]?=w.heap[b]?:=λb A4 Ag=>A1.Ch b A4 (λI=>Ag ((AO b).1 I).own);have Ax:B=[]->∀b,Fo G φ' (bH m (jX H bs 0 J)) b->Fo (nu φ G m ρ B) A' (dW 0 J) b:=by
  rintro rfl b (AF|I)
  ·refine .inl ⟨.inl AF,λI=>h.mC b I.own AF,?_⟩;rintro ⟨k,Y,_⟩;simp at Y
  ·rcases (Ac b).1 I with AD|⟨e,he,V,L,E,Ay⟩
   ·exact .inr AD
   ·refine .inl ⟨.inr ⟨e,he,L,E,Ay⟩,Ae e he (Ad V) L b E Ay,?_⟩;rintro ⟨k,Y,_⟩;simp at Y
 have Ah:∀x v,(B=[]\/eo x=true)->aH A' A6 (Fo (nu φ G m ρ B) A' (dW 0 J)) x v->aH φ' A6 (Fo G φ' (bH m (jX H bs 0 J))) (up H bs x) v:=
  λx v O AW=>AW.upR A7 (O.imp Ax id)
 have Az:∀d v,(B=[]\/ko d=true)->aQ A6 (Fo (nu φ G m ρ B) A' (dW 0 J)) d v->aQ A6 (Fo G φ' (bH m (jX H bs 0 J))) d v:=λd v O AW=>by
  rcases O with O|O
  ·exact AW.mono (λ_ _ _=>rfl) (aad _) (λb _=>Ax O b)
  ·exact AW.plain O
 refine⟨φ',⟨?_,?_,?_,?_,?_,?_⟩,⟨hle,hold,Aw,A1.size,A1.os,A1.tape,A1.output⟩,Ah⟩
 ·rw[mg];exact h.nodup
 ·intro k L E;rw[mg];by_cases Y:k∈H
  ·exact Ap k Y
  ·rw[AA Y]at E;exact h.sA k L E
 ·intro e he;rcases (AB e).1 he with he|⟨he,V⟩
  ·obtain⟨j,v,c,A0,AN,Z,rfl,A3,AC,M⟩:=AL he;refine⟨_,A7 j A0 A3,by simp[AC],?_⟩;have AX:B=[]\/nL c=true:=BB.imp id λU=>U (v,c) (aay Z);cases c with
   |dead=>trivial
   |box cs=>
    obtain⟨g0,arr,elem,g1,g2,g3,g4⟩:=M;refine⟨by simpa [nt]using g0,arr,elem,g1,by simp[nt,g2],g3,λi c v B' W=>?_⟩;rw[vZ]at B';obtain⟨y,A5,rfl⟩:=aax.1 B';exact Ah y v (AX.imp id λU=>mL (by simpa only[nL]using U) y (aay A5)) (g4 i y v A5 W)
   |vec sz aj=>
    obtain⟨g1,g2,g3,g4⟩:=M;refine⟨g1,g2,g3,λBL=>?_⟩;obtain⟨arr,elem,f1,f2,f3,f4⟩:=g4 BL;exact⟨arr,elem,f1,f2,f3,λi d B0=>let ⟨v,W,Z⟩:=f4 i d B0;⟨v,Az d v (AX.imp id λU=>tM (by simpa only[nL]using U) d (aay B0)) W,Z⟩⟩
   |vv aj y=>
    refine (mB.mono (up H bs) M (λxs BM d T u hu=>Az d u (AX.imp id λU=>?_) hu) (λx O v W=>Ah x v (AX.imp id λU=>?_) W) (λ_ _=>rfl)).ar _
    ·simp only[nL,Ds,abX]at U;exact tM (U.1 xs BM) d T
    ·simp only[nL,Ds,O]at U;exact U.2
  ·obtain⟨L,E,AC,M⟩:=h.fB e he;refine⟨L,by rw[AA V];exact E,AC,M.mono hle (λb A4 Ag=>hold b A4 (λI=>Ag (.inr I))) A1.size (λb A4=>Or.imp id (Aw b A4)) (λb I=>?_)⟩;exact A1.Ch _ (M.lt I) (λA2=>Ae e he (Ad V) L b E I ((AO _).1 A2))
 ·rintro e he e' AH L L' E AE ⟨b,I,AY⟩;have B1:∀{j v c A0 AI AR},J[j]?=some (v,c)->A' j=some A0->c.db A0 b->AI∈m->AI.key∉H->φ AI.key=some AR->AI.cont.db AR b->False:=by
   intro j v c A0 AI AR Z A3 M B2 V B3 B4;have BN:b<w.heap.size:=h.Hj ⟨AI,B2,AR,B3,B4⟩;have AD:jQ A' (dW 0 J) b:=⟨⟨0+j,v,c⟩,mK.2 ⟨j,v,c,Z,rfl⟩,A0,by simpa using A3,M⟩;exact Ae AI B2 (Ad V) AR b B3 B4 ((AO _).1 (A1.own _ BN AD))
  rcases (AB e).1 he with he|⟨he,V⟩<;>rcases (AB e').1 AH with AH|⟨AH,Ai⟩
  ·obtain⟨j,v,c,A0,AN,Z,rfl,A3,_,_⟩:=AL he;obtain⟨Aj,AJ,AK,L2',BX,BO,rfl,B5,_,_⟩:=AL AH;simp only[A7 j A0 A3,A7 Aj L2' B5,aa1]at E AE;subst E;subst AE;have:=AT.apart ⟨0+j,v,c⟩ (mK.2 ⟨j,v,c,Z,rfl⟩) ⟨0+Aj,AJ,AK⟩ (mK.2 ⟨Aj,AJ,AK,BO,rfl⟩) A0 L2' (by simpa using A3) (by simpa using B5) ⟨b,mf.1 (sP.1 I),mf.1 (sP.1 AY)⟩;simp only[ahI]at this;rw[this]
  ·obtain⟨j,v,c,A0,AN,Z,rfl,A3,_,_⟩:=AL he;simp only[A7 j A0 A3,aa1]at E;subst E;exact (B1 Z A3 (mf.1 (sP.1 I)) AH Ai (by rw[<-AA Ai];exact AE) AY).elim
  ·obtain⟨j,v,c,A0,AN,Z,rfl,A3,_,_⟩:=AL AH;simp only[A7 j A0 A3,aa1]at AE;subst AE;exact (B1 Z A3 (mf.1 (sP.1 AY)) he V (by rw[<-AA V];exact E) I).elim
  ·exact h.apart e he e' AH L L' (by rw[<-AA V];exact E) (by rw[<-AA Ai];exact AE) ⟨b,I,AY⟩
 ·intro b Af AF;rcases (Ac b).1 Af with AD|⟨e,he,_,L,E,I⟩
  ·exact h.mC b ((AO b).1 (A1.own b (h.bound b AF) AD)).own AF
  ·exact h.mC _ ⟨e,he,L,E,I⟩ AF
 ·exact λb AF=>akA (h.bound b AF) A1.size
end
def eF(S AC:St):Prop:=AC.n=S.n/\AC.gl=S.gl/\∀φ G a w,Rel φ G S a w->∃φ',Rel φ' G AC a w/\bk φ S.mem w φ' AC.mem w
theorem eF.refl(S:St):eF S S:=⟨rfl,rfl,λφ _ _ _ h=>⟨φ,h,bk.refl ..⟩⟩
theorem eF.trans{S AC AY:St}(h:eF S AC)(k:eF AC AY):eF S AY:=
 ⟨k.1.trans h.1,k.2.1.trans h.2.1,λφ G a w AD=>by
  obtain⟨Ad,M,Ae⟩:=h.2.2 φ G a w AD;obtain⟨Af,Ag,Ah⟩:=k.2.2 Ad G a w M;exact⟨Af,Ag,Ae.trans Ah⟩⟩
theorem VT(S:St)(sN:List Nat):eF S (S.prune sN):=⟨rfl,rfl,λφ _ _ _ h=>⟨φ,h.prune sN,bk.refl ..⟩⟩
theorem Np{w:World}{φ φ':bP}{m m':Mem}(h:∀b,jQ φ' m' b->jQ φ m b)(hle:φ.le φ'):bk φ m w φ' m' w:=
 ⟨hle,λ_ _ _=>rfl,λb _ A0=>h b A0,aad _,rfl,rfl,rfl⟩
def sQ(E:AV->AV):aD->aD
 | .box cs=>.box (cs.map E)
 | .dead=>.dead
 | .vec sz aj=>.vec sz aj
 | .vv aj y=>.vv aj (y.map E)
def mapM(E:AV->AV)(e':cq):Mem->Mem
 |[]=>[]
 |e::r=>(if e.key=e'.key then e' else ⟨e.key,e.ar,sQ E e.cont⟩)::mapM E e' r
def qn(E:AV->AV):Env->Env
 |[]=>[]
 |(t,g,x)::r=>(t,g,E x)::qn E r
theorem CH(E:AV->AV):∀(env:Env)(t:Nat)(g:Bool)(y:AV),Env.lk (qn E env) t=some (g,y)->∃x,Env.lk env t=some (g,x)/\y=E x
 |[],t,g,y,h=>by simp[qn,Env.lk]at h
 |(Ai,B6,AK)::r,t,g,y,h=>by
  simp only[qn,Env.lk]at h⊢;by_cases AZ:Ai=t
  ·subst AZ;simp at h⊢;obtain⟨rfl,rfl⟩:=h;simp
  ·simp only[AZ,acw]at h⊢;exact CH E r t g y h
theorem CI(E:AV->AV)(e':cq):∀m:Mem,(mapM E e' m).map (·.key)=m.map (·.key)
 |[]=>rfl
 |e::r=>by
  simp only[mapM,abR,CI E e' r];congr 1;split
  ·rename_i h;exact h.symm
  ·rfl
theorem mapM_mem{E:AV->AV}{e':cq}:∀{m:Mem}{x:cq},x∈mapM E e' m↔∃e∈m,x=if e.key=e'.key then e' else ⟨e.key,e.ar,sQ E e.cont⟩
 |[],x=>by simp[mapM]
 |e::r,x=>by simp[mapM,mapM_mem (m:=r)]
theorem ng{E L c b}:(sQ E c).db L b↔c.db L b:=by cases c<;>exact aoR
def St.CJ(S:St)(E:AV->AV)(e':cq):St:={S with env:=qn E S.env,mem:=mapM E e' S.mem}
theorem Nq{φ:bP}{G S a w}(h:Rel φ G S a w)(E:AV->AV){e e':cq}(he:e∈S.mem){L L':Loc}(U:φ e.key=some L)(A7:e'.key=e.key)
 (T:L.ar<L'.ar) (Aj:L'.ar=e'.ar) (A_:∀b,e'.cont.db L' b->e.cont.db L b)
 (Ak:∀(φ':bP)(F':Nat->Prop),φ' e.key=some L'->(∀k,k≠e.key->φ' k=φ k)->(∀b,F' b->Fo G φ S.mem b)->(∀b,¬e'.cont.db L' b->e.cont.db L b->¬F' b)->∀x v,aH φ w (Fo G φ S.mem) x v->aH φ' w F' (E x) v)
 (H:∀(φ':bP)(F':Nat->Prop),(∀b,F' b->Fo G φ S.mem b)->eJ φ' w F' L' e'.cont):
 ∃φ',Rel φ' G (S.CJ E e') a w/\bk φ S.mem w φ' (S.CJ E e').mem w:=by
 have hm:=h.mem;obtain⟨φ',Aa⟩:∃φ':bP,φ'=λk=>if k=e.key then some L' else φ k:=⟨_,rfl⟩
 have A':φ' e.key=some L':=by simp[Aa]
 have A1:∀k,k≠e.key->φ' k=φ k:=λk I=>by simp[Aa,I]
 have hle:φ.le φ':=by
  intro k AF A6;by_cases I:k=e.key
  ·subst I;rw[U]at A6;cases A6;exact⟨L',A',by omega,λhh=>by omega⟩
  ·exact⟨AF,by rw[A1 k I];exact A6,aad _,λ_=>rfl⟩
 have AP:∀b,jQ φ' (mapM E e' S.mem) b->jQ φ S.mem b:=by
  rintro b ⟨x,V,AO,A2,A8⟩;obtain⟨y,O,rfl⟩:=mapM_mem.1 V;by_cases I:y.key=e'.key
  ·simp only[I,acH]at A2 A8;rw[A7,A']at A2;cases A2;exact⟨e,he,L,U,A_ b A8⟩
  ·simp only[I,acw]at A2 A8;rw[A7]at I;rw[A1 _ I]at A2;exact⟨y,O,AO,A2,ng.1 A8⟩
 have W:∀b,Fo G φ' (mapM E e' S.mem) b->Fo G φ S.mem b:=λb=>Or.imp id (AP b);have AQ:∀b,¬e'.cont.db L' b->e.cont.db L b->¬Fo G φ' (mapM E e' S.mem) b:=by
  rintro b Al A0 (An|⟨x,V,AO,A2,A8⟩)
  ·exact hm.mC _ ⟨e,he,L,U,A0⟩ An
  ·obtain⟨y,O,rfl⟩:=mapM_mem.1 V;by_cases I:y.key=e'.key
   ·simp only[I,acH]at A2 A8;rw[A7,A']at A2;cases A2;exact Al A8
   ·simp only[I,acw]at A2 A8;rw[A7]at I;rw[A1 _ I]at A2;exact I (hm.apart y O e he AO L A2 U ⟨b,ng.1 A8,A0⟩)
 have AR:=Ak φ' (Fo G φ' (mapM E e' S.mem)) A' A1 W AQ;refine⟨φ',⟨h.size,h.defers,?_,⟨?_,?_,?_,?_,?_,?_⟩,h.mD.mono (λ_ _ _=>rfl) (aad _) (λb _=>W b)⟩,Np AP hle⟩
 ·intro t x V;obtain⟨y,O,rfl⟩:=CH E S.env t true x V;exact AR _ _ (h.env t y O)
 ·show ((mapM E e' S.mem).map (·.key)).Nodup;rw[CI];exact hm.nodup
 ·intro k AF A6;show k∈(mapM E e' S.mem).map (·.key);rw[CI];by_cases I:k=e.key
  ·subst I;exact ab0 he
  ·rw[A1 k I]at A6;exact hm.sA k AF A6
 ·intro x V;obtain⟨y,O,rfl⟩:=mapM_mem.1 V;by_cases I:y.key=e'.key
  ·simp only[I,acH];exact⟨L',by rw[A7];exact A',Aj,H _ _ W⟩
  ·simp only[I,acw];obtain⟨Ao,Ap,Aq,AG⟩:=hm.fB y O;refine⟨Ao,by rw[A1 _ (by rw[<-A7];exact I)];exact Ap,Aq,?_⟩;cases AS:y.cont with
   |dead=>trivial
   |box cs=>
    rw[AS]at AG;obtain⟨g0,arr,elem,g1,g2,g3,g4⟩:=AG;refine⟨by simpa using g0,arr,elem,g1,by simp[g2],g3,λi c v Ab T=>?_⟩;rw[ab6]at Ab;obtain⟨z,AL,rfl⟩:=aax.1 Ab;exact AR z v (g4 i z v AL T)
   |vec sz aj=>
    rw[AS]at AG;obtain⟨g1,g2,g3,g4⟩:=AG;refine⟨g1,g2,g3,λA6=>?_⟩;obtain⟨arr,elem,f1,f2,f3,f4⟩:=g4 A6;exact⟨arr,elem,f1,f2,f3,λi d Ar=>let ⟨v,T,AT⟩:=f4 i d Ar;⟨v,T.mono (λ_ _ _=>rfl) (aad _) (λb _=>W b),AT⟩⟩
   |vv aj y=>
    rw[AS]at AG;exact mB.mono E AG (λ_ _ _ _ u hu=>hu.mono (λ_ _ _=>rfl) (aad _) (λb _=>W b)) (λx _ v V=>AR x v V) (λ_ _=>rfl)
 ·rintro x V AK As AO B7 A2 At ⟨b,A0,Au⟩;obtain⟨y,O,rfl⟩:=mapM_mem.1 V;obtain⟨B8,Av,rfl⟩:=mapM_mem.1 As;have pull:∀{z:cq}{AH:Loc},z∈S.mem->φ' (if z.key=e'.key then e' else ⟨z.key,z.ar,sQ E z.cont⟩:cq).key=some AH->(if z.key=e'.key then e' else ⟨z.key,z.ar,sQ E z.cont⟩:cq).cont.db AH b->
   ∃z0∈S.mem,∃AF,φ z0.key=some AF/\z0.cont.db AF b/\(if z.key=e'.key then e' else ⟨z.key,z.ar,sQ E z.cont⟩:cq).key=z0.key:=by
   intro z AH AL A9 AI;by_cases I:z.key=e'.key
   ·simp only[I,acH]at A9 AI⊢;rw[A7,A']at A9;cases A9;exact⟨e,he,L,U,A_ b AI,A7⟩
   ·simp only[I,acw]at A9 AI⊢;rw[A7]at I;rw[A1 _ I]at A9;exact⟨z,AL,AH,A9,ng.1 AI,rfl⟩
  obtain⟨z,AL,AH,A9,AI,Aw⟩:=pull O A2 A0;obtain⟨Ax,Ay,Az,B',B0,B1⟩:=pull Av At Au;rw[Aw,B1];exact hm.apart z AL Ax Ay AH Az A9 B' ⟨b,AI,B0⟩
 ·exact λb AM=>hm.mC b (AP b AM)
 ·exact hm.bound
mutual
def nw(k v off len:Nat):AV->AV
 | .vec AA AB o l=>if AA=k/\AB=v/\off<=o/\o+l<=off+len then .vec k (v+1) (o-off) l else .vec AA AB o l
 | .cS AA AB i j=>if AA=k/\AB=v/\off<=i then .cS k (v+1) (i-off) j else .cS AA AB i j
 | .agg cs=>.agg (qL k v off len cs)
 | .fn f cap=>.fn f (qL k v off len cap)
 | .aY vs=>.aY (qL k v off len vs)
 | .bu=>.bu
 | .d x=>.d x
 | .ptr a b c=>.ptr a b c
 | .eu x j=>.eu x j
 | .iA t x=>.iA t x
 | .lit v=>.lit v
 | .nn=>.nn
 | .err=>.err
def qL(k v off len:Nat):List AV->List AV
 |[]=>[]
 |x::r=>nw k v off len x::qL k v off len r
end
theorem uq(k v off len):∀(l:List AV)(i:Nat),(qL k v off len l)[i]?=(l[i]?).map (nw k v off len)
 |[],i=>by simp[qL]
 |x::r,i=>by cases i with|zero=>simp[qL]|succ i=>simp[qL,uq k v off len r i]
theorem oU(k v off len):∀(l:List AV),(qL k v off len l).length=l.length
 |[]=>rfl
 |x::r=>by simp[qL,oU k v off len r]
def St.trim(S:St)(k off len:Nat):St:=
 match Mem.get S.mem k with
 |some ⟨_,v,.vec sz aj⟩=>if off+len<=aj.length then S.CJ (nw k v off len) ⟨k,v+1,.vec sz ((aj.drop off).take len)⟩else S
 |_=>S
theorem Ku(S:St)(k off len:Nat):eF S (S.trim k off len):=by
 unfold St.trim;split
 ·rename_i key v sz aj AU;split
  ·rename_i hle;refine⟨rfl,rfl,λφ G a w AD=>?_⟩;obtain⟨hm,I,L,U,AJ,AN⟩:=AD.mem.get AU;simp only at I AJ AN;subst I;obtain⟨g1,g2,g3,g4⟩:=AN;refine Nq AD (nw key v off len) (e:=⟨key,v,.vec sz aj⟩) (e':=⟨key,v+1,.vec sz ((aj.drop off).take len)⟩) hm U rfl (L':=⟨v+1,L.dZ,L.sz,L.cap-off,L.base+off*L.sz,[]⟩)
    (by simp only;omega) rfl (λb A0=>⟨by have:=A0.1;simp only at this;omega,A0.2⟩) ?_ ?_
   ·intro φ' F' A' A1 W _ x u V;induction V with
    |bu v=>exact .bu v
    |d x v h=>exact .d x v (h.mono (λ_ _ _=>rfl) (aad _) (λb _=>W b))
    |agg cs a A3 M _ ih=>
     refine .agg _ a (by rw[oU];exact A3) M (λi c v H T=>?_);rw[uq]at H;obtain⟨y,O,rfl⟩:=aax.1 H;exact ih i y v O T
    |ptr Y ar o v2 A5 J A4 h M=>
     unfold nw;by_cases Z:Y=key
     ·subst Z;rw[U]at J;cases J;exact .ptr _ ar o v2 _ A' (by simp only;omega) (λhe=>by simp only at he;omega) M
     ·exact .ptr Y ar o v2 A5 (by rw[A1 _ Z];exact J) A4 h M
    |vec Y ar o l v2 A5 J A4 h M=>
     unfold nw;split
     ·rename_i H;obtain⟨rfl,rfl,A0,Ac⟩:=H;rw[U]at J;cases J;refine .vec _ _ _ l v2 _ A' (aad _) (λ_=>?_) M;obtain⟨a0,cap,rfl,B2,B3⟩:=h AJ.symm;refine⟨a0,cap,rfl,B2,λB4=>?_⟩;obtain⟨rfl,B9⟩:=B3 B4;refine⟨?_,by simp only;omega⟩;congr 2;show L.base+o*L.sz=L.base+off*L.sz+(o-off)*L.sz;rw[abY,<-af6];congr 2;omega
     ·by_cases Z:Y=key
      ·subst Z;rw[U]at J;cases J;exact .vec _ ar o l v2 _ A' (by simp only;omega) (λhe=>by simp only at he;omega) M
      ·exact .vec Y ar o l v2 A5 (by rw[A1 _ Z];exact J) A4 h M
    |cS Y ar i j v2 A5 J A4 h M=>
     unfold nw;split
     ·rename_i H;obtain⟨rfl,rfl,A0⟩:=H;rw[U]at J;cases J;refine .cS _ _ _ j v2 _ A' (aad _) (λ_=>?_) M;rw[h AJ.symm];congr 3;show L.base+i*L.sz+j=L.base+off*L.sz+(i-off)*L.sz+j;rw[abY L.base (off*L.sz),<-af6];congr 3;omega
     ·by_cases Z:Y=key
      ·subst Z;rw[U]at J;cases J;exact .cS _ ar i j v2 _ A' (by simp only;omega) (λhe=>by simp only at he;omega) M
      ·exact .cS Y ar i j v2 A5 (by rw[A1 _ Z];exact J) A4 h M
    |eu x j b o AK AM AW V H=>exact .eu x j b o AK AM (λh=>AW (W b h)) (V.mono (λ_ _ _=>rfl) (aad _) (λb _=>W b)) H
    |fn f cap a AX A3 _ ih=>
     refine .fn f _ a AX (by rw[oU];exact A3) (λi c v H T=>?_);rw[uq]at H;obtain⟨y,O,rfl⟩:=aax.1 H;exact ih i y v O T
    |vj f cap a A3 _ ih=>
     refine .vj f _ a (by rw[oU];exact A3) (λi c v H T=>?_);rw[uq]at H;obtain⟨y,O,rfl⟩:=aax.1 H;exact ih i y v O T
    |aY vs a A3 _ ih=>
     refine .aY _ a (by rw[oU];exact A3) (λi c v H T=>?_);rw[uq]at H;obtain⟨y,O,rfl⟩:=aax.1 H;exact ih i y v O T
    |iA t x v h=>exact .iA t x v (h.mono (λ_ _ _=>rfl) (aad _) (λb _=>W b))
    |lit v h=>exact .lit v h
    |nn a cap=>exact .nn a cap
    |err t v=>exact .err t v
   ·intro φ' F' W;refine⟨g1,by simp only[aic,ahU];omega,λd AE=>g3 d (acJ (afM AE)),λA6=>?_⟩;simp only at A6;obtain⟨arr,elem,f1,f2,f3,f4⟩:=g4 (by omega);refine⟨arr,elem,f1,?_,f3,λi d AE=>?_⟩
    ·rw[f2];show L.base+L.cap*L.sz=L.base+off*L.sz+(L.cap-off)*L.sz;rw[abY,<-af6];congr 2;omega
    ·rw[abW]at AE;split at AE
     ·rw[acx]at AE;obtain⟨v,T,AT⟩:=f4 _ d AE;refine⟨v,T.mono (λ_ _ _=>rfl) (aad _) (λb _=>W b),λj c B5=>?_⟩;have:=AT j c B5;rw[af6]at this;rw[<-abY L.base]at this;exact this
     ·cases AE
  ·exact eF.refl S
 ·exact eF.refl S
mutual
def mM(k v:Nat)(aj:List D):AV->AV
 | .vec AA AB o l=>if AA=k/\AB=v/\o+l<=aj.length then .d (.list ((aj.drop o).take l))else .vec AA AB o l
 | .agg cs=>.agg (qM k v aj cs)
 | .fn f cap=>.fn f (qM k v aj cap)
 | .aY vs=>.aY (qM k v aj vs)
 | .cS a b c d=>.cS a b c d
 | .bu=>.bu
 | .d x=>.d x
 | .ptr a b c=>.ptr a b c
 | .eu x j=>.eu x j
 | .iA t x=>.iA t x
 | .lit v=>.lit v
 | .nn=>.nn
 | .err=>.err
def qM(k v:Nat)(aj:List D):List AV->List AV
 |[]=>[]
 |x::r=>mM k v aj x::qM k v aj r
end
theorem ur(k v aj):∀(l:List AV)(i:Nat),(qM k v aj l)[i]?=(l[i]?).map (mM k v aj)
 |[],i=>by simp[qM]
 |x::r,i=>by cases i with|zero=>simp[qM]|succ i=>simp[qM,ur k v aj r i]
theorem oV(k v aj):∀(l:List AV),(qM k v aj l).length=l.length
 |[]=>rfl
 |x::r=>by simp[qM,oV k v aj r]
def St.freeze(S:St)(k:Nat):St:=
 match Mem.get S.mem k with
 |some ⟨_,v,.vec _ aj⟩=>S.CJ (mM k v aj) ⟨k,v+1,.dead⟩
 |_=>S
theorem QE(S:St)(k:Nat):eF S (S.freeze k):=by
 unfold St.freeze;split
 ·rename_i key v sz aj AU;refine⟨rfl,rfl,λφ G a w AD=>?_⟩;obtain⟨hm,I,L,U,AJ,AN⟩:=AD.mem.get AU;simp only at I AJ AN;subst I;refine Nq AD (mM key v aj) (e:=⟨key,v,.vec sz aj⟩) (e':=⟨key,v+1,.dead⟩) hm U rfl (L':={L with ar:=v+1})
   (by simp only;omega) rfl (λ_ A0=>A0.elim) ?_ (λ_ _ _=>trivial)
  intro φ' F' A' A1 W AQ x u V;induction V with
  |bu v=>exact .bu v
  |d x v h=>exact .d x v (h.mono (λ_ _ _=>rfl) (aad _) (λb _=>W b))
  |agg cs a A3 M _ ih=>
   refine .agg _ a (by rw[oV];exact A3) M (λi c v H T=>?_);rw[ur]at H;obtain⟨y,O,rfl⟩:=aax.1 H;exact ih i y v O T
  |ptr Y ar o v2 A5 J A4 h M=>
   unfold mM;by_cases Z:Y=key
   ·subst Z;rw[U]at J;cases J;exact .ptr _ ar o v2 _ A' (by simp only;omega) (λhe=>by simp only at he;omega) M
   ·exact .ptr Y ar o v2 A5 (by rw[A1 _ Z];exact J) A4 h M
  |vec Y ar o l v2 A5 J A4 h M=>
   unfold mM;split
   ·rename_i H;obtain⟨rfl,rfl,Ac⟩:=H;rw[U]at J;cases J;exact .d _ _ (Gk (.vec _ _ o l v2 L U A4 h M) U AJ AN Ac W (λA0=>AQ _ (λhh=>hh) ⟨A0,rfl⟩))
   ·by_cases Z:Y=key
    ·subst Z;rw[U]at J;cases J;exact .vec _ ar o l v2 _ A' (by simp only;omega) (λhe=>by simp only at he;omega) M
    ·exact .vec Y ar o l v2 A5 (by rw[A1 _ Z];exact J) A4 h M
  |cS Y ar i j v2 A5 J A4 h M=>
   unfold mM;by_cases Z:Y=key
   ·subst Z;rw[U]at J;cases J;exact .cS _ ar i j v2 _ A' (by simp only;omega) (λhe=>by simp only at he;omega) M
   ·exact .cS Y ar i j v2 A5 (by rw[A1 _ Z];exact J) A4 h M
  |eu x j b o AK AM AW V H=>exact .eu x j b o AK AM (λh=>AW (W b h)) (V.mono (λ_ _ _=>rfl) (aad _) (λb _=>W b)) H
  |fn f cap a AX A3 _ ih=>
   refine .fn f _ a AX (by rw[oV];exact A3) (λi c v H T=>?_);rw[ur]at H;obtain⟨y,O,rfl⟩:=aax.1 H;exact ih i y v O T
  |vj f cap a A3 _ ih=>
   refine .vj f _ a (by rw[oV];exact A3) (λi c v H T=>?_);rw[ur]at H;obtain⟨y,O,rfl⟩:=aax.1 H;exact ih i y v O T
  |aY vs a A3 _ ih=>
   refine .aY _ a (by rw[oV];exact A3) (λi c v H T=>?_);rw[ur]at H;obtain⟨y,O,rfl⟩:=aax.1 H;exact ih i y v O T
  |iA t x v h=>exact .iA t x v (h.mono (λ_ _ _=>rfl) (aad _) (λb _=>W b))
  |lit v h=>exact .lit v h
  |nn a cap=>exact .nn a cap
  |err t v=>exact .err t v
 ·exact eF.refl S
def CK(P:Program)(S:St):ResultVar->dO
 | .tmp t=>.val (S.au (.tmp t)).1 (S.au (.tmp t)).2
 | .cell p t=>match oo P S.mem t (S.au (.tmp p)).2 with
  | .val c x=>.val ((S.au (.tmp p)).1&&c) x
  |_=>.no
def wU(P:Program)(S:St):List ResultVar->Option (Bool×List AV)
 |[]=>some (true,[])
 |r::rs=>match CK P S r with
  | .val c x=>match wU P S rs with
   |some (AO,xs)=>some (c&&AO,x::xs)
   |none=>none
  |_=>none
def oneOf:List AV->AV
 |[x]=>x
 |xs=>.aY xs
def CL(tmps:Array Value):ResultVar->Sem Value
 | .tmp t=>pure (tmps.getD t undef)
 | .cell a t=>do loadVar t (<-asAddr (tmps.getD a undef))
theorem VW{P:Program}{S:St}{r:ResultVar}{c:Bool}{x:AV}(h:CK P S r=.val c x)(M:c=true){φ G a w}(A4:Rel φ G S a w):
 ∃v,(CL a.tmps r).run P w=.ok v w/\aH φ w (Fo G φ S.mem) x v:=by
 unfold CK at h;split at h
 ·rename_i t;simp only[dO.val.injEq]at h;obtain⟨rfl,rfl⟩:=h;exact⟨_,rfl,A4.au (.tmp t) M⟩
 ·rename_i p t;split at h
  ·rename_i AO B1 A5;simp only[dO.val.injEq]at h;obtain⟨rfl,rfl⟩:=h;simp only[Ds]at M;have:=Rb P S {dst:=none,op:=.load t (.tmp p),type:=0,pos:= "",after:=#[],guard:=none} t (.tmp p) rfl M.1;rw[A5]at this;obtain⟨v,W,Ai⟩:=this M.2 φ G a w A4;have Aj:a.eval (.tmp p)=a.tmps.getD p undef:=rfl;simp only[execOp,Instr.loadAt,Aj]at W;cases AI:a.tmps.getD p undef with
   |pointer AJ=>
    rw[AI]at W;cases AJ with
    |none=>simp[Instr.sureAddr,stuck]at W
    |some AJ=>
     simp only[Instr.sureAddr,Sem.run_bind,Sem.run_pure,Result.andThen_ok]at W;generalize Ak:(loadVar t AJ).run P w=q at W;cases q with
     |halt _ _=>simp at W
     |ok v2 B2=>
      simp at W;obtain⟨rfl,rfl⟩:=W;refine⟨v2,?_,Ai⟩;simp only[CL,AI,asAddr,Sem.run_bind,Sem.run_pure,Result.andThen_ok,Ak]
   |_=>rw[AI]at W;simp[Instr.sureAddr,stuck]at W
  ·cases h
theorem AQ{P:Program}{S:St}{φ G a w}(A4:Rel φ G S a w):∀(rs:List ResultVar)(c:Bool)(xs:List AV),wU P S rs=some (c,xs)->c=true->
 ∃vs:List Value,(rs.mapM (CL a.tmps)).run P w=.ok vs w/\xs.length=vs.length/\
  ∀(i:Nat) x v,xs[i]?=some x->vs[i]?=some v->aH φ w (Fo G φ S.mem) x v
 |[],c,xs,h,_=>by
  simp only[wU,aa1,acr]at h;obtain⟨_,rfl⟩:=h;exact⟨[],by simp,rfl,by simp⟩
 |r::rs,c,xs,h,M=>by
  simp only[wU]at h;split at h
  ·rename_i B3 x I;split at h
   ·rename_i Al An Ao;simp only[aa1,acr]at h;obtain⟨rfl,rfl⟩:=h;simp only[Ds]at M;obtain⟨v,A6,A9⟩:=VW I M.1 A4;obtain⟨vs,AK,Y,AA⟩:=AQ (P:=P) A4 rs Al An Ao M.2;refine⟨v::vs,?_,by simp[Y],λi x v h AL=>?_⟩
    ·rw[List.mapM_cons];simp only[Sem.run_bind,A6,Result.andThen_ok,AK,Sem.run_pure]
    ·cases i with
     |zero=>simp at h AL;subst h;subst AL;exact A9
     |succ i=>exact AA i x v (by simpa using h) (by simpa using AL)
   ·cases h
  ·cases h
mutual
def ow(k v:Nat):AV->Option (Nat×Nat)
 | .vec Ap Aq o l=>if Ap=k/\Aq=v then some (o,l)else none
 | .agg cs=>wV k v cs
 | .fn _ cap=>wV k v cap
 | .aY vs=>wV k v vs
 | .cS _ _ _ _=>none
 | .bu=>none
 | .d _=>none
 | .ptr _ _ _=>none
 | .eu _ _=>none
 | .iA _ _=>none
 | .lit _=>none
 | .nn=>none
 | .err=>none
def wV(k v:Nat):List AV->Option (Nat×Nat)
 |[]=>none
 |x::r=>match ow k v x with
  |some p=>some p
  |none=>wV k v r
end
def zW(k v:Nat):Mem->Option (Nat×Nat)
 |[]=>none
 |⟨_,_,.box cs⟩::r=>match wV k v cs with
  |some p=>some p
  |none=>zW k v r
 |_::r=>zW k v r
def HK(k v:Nat):Env->Option (Nat×Nat)
 |[]=>none
 |(_,_,x)::r=>match ow k v x with
  |some p=>some p
  |none=>HK k v r
def St.AR(S:St)(k:Nat):St:=
 match Mem.get S.mem k with
 |some ⟨_,v,.vec _ _⟩=>match zW k v S.mem with
  |some (o,l)=>S.trim k o l
  |none=>match HK k v S.env with
   |some (o,l)=>S.trim k o l
   |none=>S
 |_=>S
theorem HL(S:St)(k:Nat):eF S (S.AR k):=by
 unfold St.AR;split
 ·split
  ·exact Ku ..
  ·split
   ·exact Ku ..
   ·exact eF.refl S
 ·exact eF.refl S
def St.AS(S:St):List Nat->St
 |[]=>S
 |k::r=>(S.AR k).AS r
theorem HM:∀(l:List Nat)(S:St),eF S (S.AS l)
 |[],S=>eF.refl S
 |k::r,S=>(HL S k).trans (HM r _)
mutual
def kq:AV->List Nat
 | .ptr k _ _=>[k]
 | .vec k _ _ _=>[k]
 | .cS k _ _ _=>[k]
 | .agg cs=>nW cs
 | .fn _ cap=>nW cap
 | .aY vs=>nW vs
 | .bu=>[]
 | .d _=>[]
 | .eu _ _=>[]
 | .iA _ _=>[]
 | .lit _=>[]
 | .nn=>[]
 | .err=>[]
def nW:List AV->List Nat
 |[]=>[]
 |x::r=>kq x++nW r
end
def ny:Option cq->List Nat
 |some ⟨_,_,.box cs⟩=>nW cs
 |some ⟨_,_,.vv _ (some x)⟩=>kq x
 |_=>[]
def collect(m:Mem):Nat->List Nat->List Nat->List Nat
 |0,_,J=>J
 |_+1,[],J=>J
 |n+1,k::todo,J=>match J.contains k||(Mem.get m k).isNone with
  |true=>collect m n todo J
  |false=>collect m n (todo++ny (Mem.get m k)) (J++[k])
theorem rS(m:Mem):∀(n:Nat)(todo J:List Nat),J.Nodup->(∀k∈J,(Mem.get m k).isSome=true)->(collect m n todo J).Nodup/\∀k∈collect m n todo J,(Mem.get m k).isSome=true
 |0,todo,J,h,A0=>⟨h,A0⟩
 |n+1,[],J,h,A0=>⟨h,A0⟩
 |n+1,k::todo,J,h,A0=>by
  simp only[collect];split
  ·exact rS m n todo J h A0
  ·rename_i M;simp only[Bool.or_eq_false_iff,List.contains_eq_mem,afP,Option.isNone_eq_false_iff]at M;refine rS m n _ _ ?_ ?_
   ·rw[List.nodup_append];exact⟨h,by simp,λa A7 b T AB=>by simp at T;subst T;subst AB;exact M.1 A7⟩
   ·intro x I;rcases aa0.1 I with I|I
    ·exact A0 x I
    ·simp at I;subst I;exact M.2
def dead(k:Nat):cq:=⟨k,0,.dead⟩
def bP.add(φ:bP)(ks:List Nat):bP:=λk=>if k∈ks then some ⟨0,0,0,0,0,[]⟩else φ k
theorem Ek{φ:bP}{m:Mem}{ks:List Nat}(O:∀k∈ks,k∉m.map (·.key))(b:Nat):jQ (φ.add ks) (m++ks.map dead) b↔jQ φ m b:=by
 constructor
 ·rintro ⟨e,he,L,H,U⟩;rcases aa0.1 he with he|he
  ·have:e.key∉ks:=λh=>O _ h (ab0 he);simp only[bP.add,this,acw]at H;exact⟨e,he,L,H,U⟩
  ·simp only[abV]at he;obtain⟨k,_,rfl⟩:=he;exact U.elim
 ·rintro ⟨e,he,L,H,U⟩;have:e.key∉ks:=λh=>O _ h (ab0 he);exact⟨e,akX _ he,L,by simp[bP.add,this,H],U⟩
theorem akP{φ:bP}{G}{m:Mem}{ks:List Nat}(O:∀k∈ks,k∉m.map (·.key)):Fo G (φ.add ks) (m++ks.map dead)=Fo G φ m:=by
 funext b;simp only[Fo,Ek O b]
theorem Nr{φ:bP}{G m w}(h:bz φ G m w){ks:List Nat}(O:∀k∈ks,k∉m.map (·.key)):φ.le (φ.add ks):=by
 intro k L H;have:k∉ks:=λV=>O k V (h.sA k L H);exact⟨L,by simp[bP.add,this,H],aad _,λ_=>rfl⟩
theorem bz.add{φ G m w}(h:bz φ G m w){ks:List Nat}(Ar:ks.Nodup)(O:∀k∈ks,k∉m.map (·.key)):bz (φ.add ks) G (m++ks.map dead) w:=by
 have hle:=Nr h O;have As:=akP (φ:=φ) (G:=G) O;refine⟨?_,?_,?_,?_,?_,h.bound⟩
 ·rw[ah4,List.nodup_append];have e:(ks.map dead).map (·.key)=ks:=by simp[Function.comp_def,dead]
  rw[e];exact⟨h.nodup,Ar,λa A7 b T AB=>O b T (AB▸A7)⟩
 ·intro k L H;simp only[bP.add]at H;split at H
  ·rename_i V;rw[ah4];refine List.mem_append_right _ ?_;rw[List.map_map];exact abV.2 ⟨k,V,rfl⟩
  ·rw[ah4];exact akX _ (h.sA k L H)
 ·intro e he;rw[As];rcases aa0.1 he with he|he
  ·obtain⟨L,H,AM,M⟩:=h.fB e he;have:e.key∉ks:=λh=>O _ h (ab0 he);exact⟨L,by simp[bP.add,this,H],AM,M.mono hle (λ_ _ _=>rfl) (aad _) (λ_ _ h=>h) (λ_ _=>rfl)⟩
  ·simp only[abV]at he;obtain⟨k,V,rfl⟩:=he;exact⟨⟨0,0,0,0,0,[]⟩,by simp[bP.add,dead,V],rfl,trivial⟩
 ·rintro e he e' Z L L' H AP ⟨b,U,AW⟩;rcases aa0.1 he with he|he
  ·rcases aa0.1 Z with Z|Z
   ·have A6:e.key∉ks:=λh=>O _ h (ab0 he);have A9:e'.key∉ks:=λh=>O _ h (ab0 Z);simp only[bP.add,A6,A9,acw]at H AP;exact h.apart e he e' Z L L' H AP ⟨b,U,AW⟩
   ·simp only[abV]at Z;obtain⟨k,_,rfl⟩:=Z;exact AW.elim
  ·simp only[abV]at he;obtain⟨k,_,rfl⟩:=he;exact U.elim
 ·intro b T At;exact h.mC b ((Ek O b).1 T) At
def jh:Nat->List AV->Env
 |_,[]=>[]
 |i,x::r=>(i,true,x)::jh (i+1) r
theorem AT:∀(i:Nat)(xs:List AV)(t:Nat)(y:Bool×AV),Env.lk (jh i xs) t=some y->∃j,t=i+j/\xs[j]?=some y.2
 |i,[],t,y,h=>by simp[jh,Env.lk]at h
 |i,x::r,t,y,h=>by
  simp only[jh,Env.lk]at h;by_cases A1:i=t
  ·subst A1;simp at h;subst h;exact⟨0,rfl,rfl⟩
  ·simp only[A1,acw]at h;obtain⟨j,rfl,AC⟩:=AT (i+1) r t y h;exact⟨j+1,by omega,by simpa using AC⟩
def ew:Nat->List aD->Mem
 |_,[]=>[]
 |i,c::r=>⟨i,0,c⟩::ew (i+1) r
theorem Ns:∀(cs:List aD)(i:Nat),ew i cs=dW i (cs.map λc=>(0,c))
 |[],i=>rfl
 |c::r,i=>by simp[ew,dW,Ns r]
def entry(n:Nat)(gl:List (Nat×D))(args:List AV)(cs:List aD)(sites:List Nat):St:={n,gl,env:=jh 0 args,mem:=ew 0 cs++sites.map dead}
def HN(E:Nat)(i v:Nat):Nat:=if i<E then (if v=0 then 0 else 1)else 0
structure aA where
 atZ:List Nat
 exp:Bool
 sites:List Nat
 za:List Nat
 split:Bool
def sR(p:aA)(E:Nat)(m:Mem)(xs:List AV):List Nat:=
 match p.exp with
 |true=>List.range E++(collect m 64 (nW xs++List.range E) []).filter (λk=>!decide (k<E))
 |false=>List.range E
def nX:Env->List AV
 |[]=>[]
 |(_,_,x)::r=>x::nX r
def Fz:Bool->AV->AV
 |true,x=>x
 |false,x=>x.norm
theorem aH.Fz{b:Bool}{φ w F x v}(h:aH φ w F x v):aH φ w F (Fz b x) v:=by
 cases b
 ·exact h.norm
 ·exact h
def Nt(b:Bool)(K:List Nat)(E:Nat)(S:St)(one:List AV->Out):Option (Out×List (Nat×aD)):=
 if K.all (λk=>(Mem.get S.mem k).isSome)then some (one ((nX S.env).map λx=>Fz b (vw S.mem K (λ_=>true) (HN E) x)),fa S.mem K (λ_=>true) (HN E) 0 K)else none
def El(p:aA)(K:List Nat)(S:St):St:=S.AS (K.filter λk=>!p.atZ.contains k)
def sS(p:aA)(E:Nat)(S:St)(xs:List AV)(one:List AV->Out):Option (Out×List (Nat×aD)):=
 let K:=sR p E S.mem xs
 Nt (p.za.contains 1000) K E (El p K {S with n:=xs.length,env:=jh 0 xs}) one
def finish(P:Program)(p:aA)(E:Nat)(rs:List ResultVar)(S:St):Option (Out×List (Nat×aD)):=
 match wU P S rs with
 |some (c,xs)=>if c=true then sS p E S xs (λA8=>.ret (oneOf A8))else none
 |none=>none
def AU(p:aA)(E:Nat)(t:TypeId)(x:D)(S:St):Option (Out×List (Nat×aD)):=sS p E S [] (λ_=>.panic t x)
def gZ:Env->List (Nat×Bool)
 |[]=>[]
 |(t,g,_)::r=>(t,g)::gZ r
theorem FA(AX:AV->AV):∀env:Env,gZ (qn AX env)=gZ env
 |[]=>rfl
 |(t,g,x)::r=>by simp[qn,gZ,FA AX r]
theorem Kv(S:St)(k o l:Nat):gZ (S.trim k o l).env=gZ S.env:=by
 unfold St.trim;split
 ·split
  ·exact FA _ _
  ·rfl
 ·rfl
theorem VX(S:St)(k:Nat):gZ (S.AR k).env=gZ S.env:=by
 unfold St.AR;split
 ·split
  ·exact Kv ..
  ·split
   ·exact Kv ..
   ·rfl
 ·rfl
theorem HO:∀(l:List Nat)(S:St),gZ (S.AS l).env=gZ S.env
 |[],S=>rfl
 |k::r,S=>by rw[St.AS,HO r,VX]
theorem HP:∀(i:Nat)(xs:List AV),gZ (jh i xs)=(List.range' i xs.length).map λj=>(j,true)
 |i,[]=>rfl
 |i,x::r=>by simp[jh,gZ,HP (i+1) r,akz]
theorem Rs:∀(env:Env)(i n j:Nat),gZ env=(List.range' i n).map (λj=>(j,true))->∀x,(nX env)[j]?=some x->Env.lk env (i+j)=some (true,x)
 |[],i,n,j,_,x,I=>by simp[nX]at I
 |(t,g,y)::r,i,n,j,h,x,I=>by
  cases n with
  |zero=>simp[gZ]at h
  |succ n=>
   simp only[gZ,akz,abR,akv,acr]at h;obtain⟨⟨rfl,rfl⟩,h⟩:=h;cases j with
   |zero=>simp[nX]at I;subst I;simp[Env.lk]
   |succ j=>
    have:=Rs r (t+1) n j h x (by simpa [nX]using I);simp only[Env.lk];rw[aab (by omega),show t+(j+1)=t+1+j by omega];exact this
theorem zX:∀env:Env,(nX env).length=(gZ env).length
 |[]=>rfl
 |(_,_,_)::r=>by simp[nX,gZ,zX r]
theorem L8(p:aA)(E:Nat)(m:Mem)(xs:List AV):(sR p E m xs).Nodup:=by
 unfold sR;split
 ·rw[List.nodup_append];refine⟨List.nodup_range,((rS m 64 _ [] List.nodup_nil (by simp)).1).filter _,λa A7 b T AB=>?_⟩;simp only[aca]at A7;simp only[afS,ahK,afP]at T;omega
 ·exact List.nodup_range
theorem QF(p:aA)(E:Nat)(m:Mem)(xs:List AV){k:Nat}(V:k<E):(sR p E m xs)[k]?=some k:=by
 unfold sR;split
 ·rw[aaF (by simpa using V)];simp[V]
 ·simp[V]
theorem vK{p:aA}{E:Nat}{S:St}{xs:List AV}{one:List AV->Out}{out:Out}{l:List (Nat×aD)}(h:sS p E S xs one=some (out,l))
 {φ:bP} {G:Fr} {w:World} (hm:bz φ G S.mem w) (AD:fF w (Fo G φ S.mem) S.gl) {vs:List Value} (A5:xs.length=vs.length)
 (I:∀(i:Nat) x v,xs[i]?=some x->vs[i]?=some v->aH φ w (Fo G φ S.mem) x v) {φ0:bP} {AY:Mem} {w0:World} (V:bk φ0 AY w0 φ S.mem w) (Au:∀k L,φ0 k=some L->k<E/\L.ar=0):
 ∃φ' A8,out=one A8/\bz φ' G (dW 0 l) w/\bk φ0 AY w0 φ' (dW 0 l) w/\A8.length=vs.length/\(∀(i:Nat) y v,A8[i]?=some y->vs[i]?=some v->aH φ' w (Fo G φ' (dW 0 l)) y v)/\
  ∀b,Fo G φ' (dW 0 l) b->Fo G φ S.mem b:=by
 unfold sS at h;obtain⟨K,AE⟩:∃K,K=sR p E S.mem xs:=⟨_,rfl⟩;have Av:K.Nodup:=by rw[AE];exact L8 ..
 have Aw:∀k,k<E->K[k]?=some k:=λk h=>by rw[AE];exact QF _ _ _ _ h
 simp only[<-AE]at h;clear AE;have Ax:Rel φ G {S with n:=xs.length,env:=jh 0 xs} {tmps:=vs.toArray,defers:=G.dv} w:=by
  refine⟨by simp[A5],rfl,λt x A1=>?_,hm,AD⟩;obtain⟨j,rfl,AC⟩:=AT 0 xs t _ A1;have AZ:j<vs.length:=by rw[<-A5];exact (D1.1 AC).1
  have e:vs.toArray.getD (0+j) undef=vs[j]:=by simp[AZ]
  simp only[e];exact I j x _ AC (by simp[AZ])
 obtain⟨A2,AF⟩:∃A2,A2=El p K {S with n:=xs.length,env:=jh 0 xs}:=⟨_,rfl⟩;have A1:eF {S with n:=xs.length,env:=jh 0 xs} A2:=by rw[AF];exact HM ..
 have A_:gZ A2.env=(List.range' 0 xs.length).map λj=>(j,true):=by
  rw[AF,El,HO];exact HP 0 xs
 rw[<-AF]at h;clear AF;obtain⟨Aa,Ab,Ac⟩:=A1.2.2 φ G _ w Ax;unfold Nt at h;split at h
 ·rename_i Ay;simp only[aa1,acr]at h;obtain⟨rfl,rfl⟩:=h;have AG:=Ab.mem;have Ad:∀k∈K,(Mem.get A2.mem k).isSome=true:=by simpa using Ay
  obtain⟨s1,s2,Az⟩:=Ej (G1:=G) (ρ:=K) (bor:=λ_=>true) (nv:=HN E) AG Av Ad (λb h=>.inl h) (λb h=>AG.mC b h.own)
   (λk e L b AD _ _ H U=>AG.mC _ ⟨e,(Mem.get_mem AD).1,L,by rw[(Mem.get_mem AD).2];exact H,U⟩)
  have A':=V.trans Ac;refine⟨Aa.jq K (HN E),_,rfl,s1,⟨?_,A'.Ch,?_,A'.size,A'.os,A'.tape,A'.output⟩,?_,?_,?_⟩
  ·intro k L H;obtain⟨AN,AH⟩:=Au k L H;obtain⟨Ae,A6,A9,AK⟩:=A'.le k L H;refine⟨{Ae with ar:=HN E k Ae.ar},by simp[bP.jq,Aw k AN,A6],by simp[AH],λhe=>?_⟩;simp only[HN,AN,acH,AH]at he;split at he
   ·rename_i B';have Y:=AK (by rw[AH];exact B');have g1:=ahS Loc.ar Y;have g2:=ahS Loc.dZ Y;have g3:=ahS Loc.sz Y;have g4:=ahS Loc.cap Y;have g5:=ahS Loc.base Y;simp only at g1 g2 g3 g4 g5⊢;rw[g1,g2,g3,g4,g5];simp only[HN,AN,acH,AH]
   ·simp at he
  ·intro b T U;exact A'.own b T ((zT (φ:=Aa) (nv:=HN E) (bor:=λ_=>true) Ad b).1 U).own
  ·rw[List.length_map,zX,A_];simp[A5]
  ·intro i y v Af AM;rw[ab6]at Af;obtain⟨x,B0,rfl⟩:=aax.1 Af;have AA:=Rs A2.env 0 xs.length i A_ x B0;rw[ahI]at AA;have Ag:=Ab.env i x AA;have e:vs.toArray.getD i undef=v:=by simp[AM]
   simp only[e]at Ag;exact (s2 x v Ag).Fz
  ·intro b T;have A3:=Az b T;rcases A3 with A3|A3
   ·exact .inl A3
   ·rcases Nat.lt_or_ge b w.heap.size with Ah|Ah
    ·exact .inr (Ac.own b Ah A3)
    ·exact absurd (AG.Hj A3) (by omega)
 ·cases h
def cg:AV->List Nat
 | .ptr k _ _=>[k]
 | .vec k _ _ _=>[k]
 | .cS k _ _ _=>[k]
 |_=>[]
def v7(S:St):List Operand->List Nat
 |[]=>[]
 |x::r=>cg (S.au x).2++v7 S r
def HQ(S:St):Op->List Nat
 | .move _=>[]
 | .assign _=>[]
 |op=>v7 S op.operands.toList
def ku(S:St)(o:Oper):List Nat:=keyOf o::HQ S o.op
theorem FB{S:St}:∀{l:List Operand}{x:Operand},x∈l->∀k∈cg (S.au x).2,k∈v7 S l
 |[],x,h,_,_=>by simp at h
 |y::r,x,h,k,J=>by
  simp only[v7,aa0];rcases aaC.1 h with rfl|h
  ·exact .inl J
  ·exact .inr (FB h k J)
section
variable {P:Program} {m m':Mem}
theorem Z1{t p}(h:∀k∈cg p,Mem.get m' k=Mem.get m k):oo P m' t p=oo P m t p:=by
 cases p<;>simp_all [oo,cg]
theorem zb{sz x}(h:∀k∈cg x,Mem.get m' k=Mem.get m k):iS m' sz x=iS m sz x:=by
 cases x with
 |vec k ar off len=>simp only[iS,h k (by simp[cg])]
 |d x=>cases x<;>rfl
 |lit v=>unfold iS;split<;>simp_all
 |_=>rfl
theorem VY{t p x}(h:∀k∈cg p,Mem.get m' k=Mem.get m k):rN P m' t p x=rN P m t p x:=by
 cases p<;>simp_all [rN,cg]
theorem VZ{s f p}(h:∀k∈cg p,Mem.get m' k=Mem.get m k):rn P m' s f p=rn P m s f p:=by
 cases p<;>simp_all [rn,cg]
theorem L9{p}(h:∀k∈cg p,Mem.get m' k=Mem.get m k):kC m' p=kC m p:=by
 cases p<;>simp_all [kC,cg]
theorem V0{t p i}(h:∀k∈cg p,Mem.get m' k=Mem.get m k):oP P m' t p i=oP P m t p i:=by
 cases p with
 |vec k ar off len=>simp only[oP,h k (by simp[cg])]
 |ptr k ar off=>simp only[oP,h k (by simp[cg])]
 |cS k ar i j=>simp only[oP,h k (by simp[cg])]
 |d x=>cases x<;>rfl
 |_=>rfl
theorem V1{t p lo hi}(h:∀k∈cg p,Mem.get m' k=Mem.get m k):mI P m' t p lo hi=mI P m t p lo hi:=by
 cases p with
 |cS k ar i j=>simp only[mI,h k (by simp[cg])]
 |vec k ar off len=>simp only[mI,h k (by simp[cg])]
 |ptr k ar off=>simp only[mI,h k (by simp[cg])]
 |d x=>cases x<;>rfl
 |_=>rfl
theorem ady{k c cs}(h:Mem.get m' k=Mem.get m k):uX m' k c cs=uX m k c cs:=by simp only[uX,h]
theorem V2{k t}(h:Mem.get m' k=Mem.get m k):wR P m' k t=wR P m k t:=by simp only[wR,Nh,uX,h]
theorem Z2{k s d x}(h:Mem.get m' k=Mem.get m k)(E:∀k∈cg x,Mem.get m' k=Mem.get m k):ot P m' k s d x=ot P m k s d x:=by
 have e:=zb (m:=m) (m':=m') (sz:=1) E;cases A2:tk P d<;>cases x with
 |d x=>cases x<;>simp only[ot,A2,e,h]
 |_=>simp only[ot,A2,e]
theorem Z3{k s d x}(h:Mem.get m' k=Mem.get m k)(E:∀k∈cg x,Mem.get m' k=Mem.get m k):vI P m' k s d x=vI P m k s d x:=by
 have e:=Z2 (P:=P) (s:=s) (d:=d) h E;cases x with
 |vec W ar off len=>simp only[vI,e,E W (by simp[cg])]
 |_=>simp only[vI,e]
theorem Z4{k t l c}(h:Mem.get m' k=Mem.get m k):AL P m' k t l c=AL P m k t l c:=by simp only[AL,h]
theorem HR{k t n ps}(h:Mem.get m' k=Mem.get m k):me P m' k t n ps=me P m k t n ps:=by simp only[me,tK,h]
theorem adz{t x}(h:∀k∈cg x,Mem.get m' k=Mem.get m k):qK P m' t x=qK P m t x:=by
 cases x with
 |vec k ar off len=>simp only[qK,h k (by simp[cg])]
 |d x=>cases x<;>rfl
 |lit v=>unfold qK;split<;>simp_all
 |_=>rfl
theorem adA{u sz Y Z s x}(O:∀k∈cg s,Mem.get m' k=Mem.get m k)(E:∀k∈cg x,Mem.get m' k=Mem.get m k):AI P m' u sz Y Z s x=AI P m u sz Y Z s x:=by
 cases s with
 |vec k ar off len=>
  cases x with
  |vec A6 AF A7 A8=>
   match A7,A8 with
   |0,1=>simp only[AI,O k (by simp[cg]),E A6 (by simp[cg])]
   |0,0=>rfl
   |0,_+2=>rfl
   |_+1,_=>rfl
  |_=>rfl
 |_=>rfl
theorem adB{P:Program}{m:Mem}{u:TypeId}{sz Y:Nat}{Z:D}{s x:AV}{c:Bool}{k v off n:Nat}{e:cq}(h:AI P m u sz Y Z s x=.dq c (.vec k v off n) e):k∈cg s:=by
 unfold AI at h;split at h
 ·split at h
  ·cases h;simp[cg]
  ·cases h
 ·cases h
theorem adC{k t u s x}(h:Mem.get m' k=Mem.get m k)(O:∀k∈cg s,Mem.get m' k=Mem.get m k)(E:∀k∈cg x,Mem.get m' k=Mem.get m k):uZ P m' k t u s x=uZ P m k t u s x:=by
 unfold uZ Cq;simp only[zb E,h,adA O E];cases s with
 |vec k ar off len=>simp only[O k (by simp[cg])]
 |lit v=>
  cases v with
  |slice ao n c=>cases ao<;>cases n<;>cases c<;>simp only
  |_=>rfl
 |_=>rfl
theorem adD{P:Program}{m:Mem}{A3:Nat}{t u:TypeId}{s x:AV}{c:Bool}{k v off n:Nat}{e:cq}(h:uZ P m A3 t u s x=.dq c (.vec k v off n) e):k=A3\/k∈cg s:=by
 unfold uZ at h;split at h
 ·split at h
  ·split at h
   ·split at h
    ·split at h
     ·cases h;right;simp[cg]
     ·cases h
    ·split at h
     ·cases h;left;rfl
     ·cases h
    ·cases h
   ·exact .inr (adB h)
  ·cases h
 ·cases h
theorem Z5{P:Program}{m m':Mem}{k t u s x}(h:Mem.get m' k=Mem.get m k)(O:∀k∈cg s,Mem.get m' k=Mem.get m k)(E:∀k∈cg x,Mem.get m' k=Mem.get m k):
 x5 m' (Mem.get m' k).isSome k (uZ P m' k t u s x)=x5 m (Mem.get m k).isSome k (uZ P m k t u s x):=by
 rw[adC h O E,h];unfold x5;generalize A9:uZ P m k t u s x=r;split
 ·rename_i c W v n AG AH sz aj;have J:Mem.get m' W=Mem.get m W:=by
   rcases adD A9 with rfl|J
   ·exact h
   ·exact O _ J
  rw[J]
 ·rfl
theorem Kw{k t x}(h:Mem.get m' k=Mem.get m k):vH P m' k t x=vH P m k t x:=by
 unfold vH;simp only[h]
theorem adE{neg t x v}(h:∀k∈cg x,Mem.get m' k=Mem.get m k):lq P m' neg t x v=lq P m neg t x v:=by
 cases x with
 |vec k ar off len=>unfold lq;simp only[h k (by simp[cg])]
 |ptr k ar off=>unfold lq;simp only[h k (by simp[cg])]
 |d x=>unfold lq;cases x with
  |list xs=>cases xs<;>rfl
  |_=>rfl
 |lit u=>unfold lq;cases u with
  |slice ao n c=>cases ao<;>cases n<;>cases c<;>rfl
  |pointer a=>cases a<;>rfl
  |_=>rfl
 |_=>rfl
theorem Z6{t s x}(O:∀k∈cg s,Mem.get m' k=Mem.get m k)(E:∀k∈cg x,Mem.get m' k=Mem.get m k):AM P m' t s x=AM P m t s x:=by
 unfold AM;simp only[zb E];cases s with
 |vec k ar off len=>simp only[O k (by simp[cg])]
 |_=>rfl
end
theorem Kx{P:Program}{S I:St}{o:Oper}(E:∀x∈o.op.operands.toList,I.au x=S.au x)(J:∀k∈ku S o,Mem.get I.mem k=Mem.get S.mem k):dy P I o=dy P S o:=by
 have T:Mem.get I.mem (keyOf o)=Mem.get S.mem (keyOf o):=J _ (by simp[ku]);have M:match o.op with
  | .move _=>True
  | .assign _=>True
  |op=>∀x∈op.operands.toList,∀k∈cg (S.au x).2,Mem.get I.mem k=Mem.get S.mem k:=by
  unfold ku at J;generalize o.op=op at J;cases op<;>first|trivial|exact λx H k A'=>J k (afT _ (FB H k A'))
 have A0:∀(l:List Operand),(∀x∈l,I.au x=S.au x)->l.map (λx=>(I.au x).2)=l.map (λx=>(S.au x).2):=λl A1=>aoh (λx H=>by rw[A1 x H]);have A4:∀(l:List (Nat×Operand)),(∀x∈l,I.au x.2=S.au x.2)->l.map (λx=>(x.1,(I.au x.2).2))=l.map (λx=>(x.1,(S.au x.2).2)):=λl A1=>aoh (λx H=>by rw[A1 x H]);unfold dy;generalize AJ:o.op=op at E M;cases op with
 |move x=>simp only[E x (by simp[Op.operands]),Kw T]
 |assign x=>simp only[E x (by simp[Op.operands]),Kw T]
 |pick c a b=>simp only[E c (by simp[Op.operands]),E a (by simp[Op.operands]),E b (by simp[Op.operands])]
 |alloc t=>simp only[V2 T]
 |box t x=>simp only[E x (by simp[Op.operands]),ady T]
 |load t x=>simp only[E x (by simp[Op.operands]),Z1 (M x (by simp[Op.operands]))]
 |store t p x=>simp only[E x (by simp[Op.operands]),E p (by simp[Op.operands]),VY (M p (by simp[Op.operands]))]
 |fieldAddr s x f=>simp only[E x (by simp[Op.operands]),VZ (M x (by simp[Op.operands]))]
 |nilCheck x=>simp only[E x (by simp[Op.operands]),L9 (M x (by simp[Op.operands]))]
 |indexAddr t x i=>simp only[E x (by simp[Op.operands]),E i (by simp[Op.operands]),V0 (M x (by simp[Op.operands]))]
 |index t x i=>simp only[E x (by simp[Op.operands]),E i (by simp[Op.operands])]
 |slice t x lo hi AA=>
  cases AA with
  |none=>
   have AB:lo.map (λy=>(I.au y).2)=lo.map (λy=>(S.au y).2):=by cases lo with|none=>rfl|some y=>simp[E y (by simp[Op.operands])]
   have AC:hi.map (λy=>(I.au y).2)=hi.map (λy=>(S.au y).2):=by cases hi with|none=>rfl|some y=>simp[E y (by simp[Op.operands])]
   simp only[E x (by simp[Op.operands]),AB,AC,V1 (M x (by simp[Op.operands]))]
  |some _=>rfl
 |binOp op t x y AK=>
  have A5:=E x (by simp[Op.operands]);have AD:=E y (by simp[Op.operands]);have A':=M x (by simp[Op.operands]);simp only
  unfold um;cases y with
  |const v=>simp only[A5,adE A'];rfl
  |_=>simp only[A5,AD]
 |unOp op t x=>simp only[E x (by simp[Op.operands])]
 |convert s d x=>simp only[E x (by simp[Op.operands]),Z3 T (M x (by simp[Op.operands]))]
 |makeInterface t x=>simp only[E x (by simp[Op.operands])]
 |makeFunc f first cap=>simp only[A0 cap.toList (λx H=>E x (by simp[Op.operands];right;simpa using H)),A0 first.toList (λx H=>E x (by simp[Op.operands];left;simpa using H))]
 |makeSlice t l c=>simp only[E l (by simp[Op.operands]),E c (by simp[Op.operands]),Z4 T]
 |build t ps=>simp only[A4 ps.toList (λx H=>E x.2 (by simp only[Op.operands,List.toList_toArray,abV];exact⟨x,H,rfl⟩))]
 |buildSlice t n ps=>simp only[A4 ps.toList (λx H=>E x.2 (by simp only[Op.operands,List.toList_toArray,abV];exact⟨x,H,rfl⟩)),HR T]
 |extract x i=>simp only[E x (by simp[Op.operands])]
 |field s x f=>simp only[E x (by simp[Op.operands])]
 |typeAssert x AN t ok=>simp only[E x (by simp[Op.operands])]
 |call c=>
  obtain⟨callee,args,AE⟩:=c;cases callee with
  |builtin b=>
   have U:∀x∈args.toList,I.au x=S.au x:=λx H=>E x (by simp[Op.operands,Call.operands];simpa using H);have V:∀x∈args.toList,∀k∈cg (S.au x).2,Mem.get I.mem k=Mem.get S.mem k:=λx H=>M x (by simp[Op.operands,Call.operands];simpa using H);simp only
   unfold np;have em:=A0 args.toList U;generalize args.toList=AO at U V em;generalize AE.toList=AP;split
   ·rename_i x t;simp only[U x (by simp),adz (V x (by simp))]
   ·rename_i s x t u;simp only[U x (by simp),U s (by simp),Z5 T (V s (by simp)) (V x (by simp))]
   ·rename_i s x t u;simp only[U x (by simp),U s (by simp),Z6 (V s (by simp)) (V x (by simp))]
   ·simp only[em]
   ·simp only[em]
   ·rename_i x t;simp only[U x (by simp)]
   ·rfl
  |_=>rfl
 |_=>rfl
structure bh where
 ks:List Nat
 es:List cq
 g:Bool
 x:AV
def bh.app(p:bh)(o:Oper)(S:St):St:=({S with mem:=bH S.mem p.es}:St).put o.dst p.g p.x
def af1(all:List Oper)(j:Nat):List Nat:=
 match all[j]? with
 |some o=>match o.dst with|some t=>[t]|none=>[]
 |none=>[]
def looks(all:List Oper)(o:Oper):List Nat:=
 (o.op.operands.toList.filterMap λ| .tmp t=>some t|_=>none)++(match o.guard with|some (j,_)=>af1 all j|none=>[])
structure mz(all:List Oper)(o:Oper)(ks:List Nat)(E S:St):Prop where
 n:E.n=S.n
 gl:E.gl=S.gl
 keys:E.mem.map (·.key)=S.mem.map (·.key)
 env:∀t∈looks all o,Env.lk E.env t=Env.lk S.env t
 mem:∀k∈ks,Mem.get E.mem k=Mem.get S.mem k
def mA(P:Program)(all:List Oper)(S:St)(o:Oper)(p:bh):Prop:=
 ∀E,mz all o p.ks E S->∀φ G a w,Rel φ G E a w->∀(next:Act->World->Prop)(R:Exit->Act->World->Prop),
  (∀φ' A7 w',Rel φ' G (p.app o E) A7 w'->bk φ E.mem w φ' (p.app o E).mem w'->next A7 w')->
  if Region.wanted o (yielded all.toArray a.tmps)then o.wp P a w next R else next (a.put o.dst undef) w
def vL(P:Program)(Z:Mem->Prop)(all:List Oper)(S:St)(o:Oper)(p:bh):Prop:=
 ∀E,mz all o p.ks E S->Z E.mem->∀φ G a w,Rel φ G E a w->∀(next:Act->World->Prop)(R:Exit->Act->World->Prop),
  (∀φ' A7 w',Rel φ' G (p.app o E) A7 w'->bk φ E.mem w φ' (p.app o E).mem w'->next A7 w')->
  if Region.wanted o (yielded all.toArray a.tmps)then o.wp P a w next R else next (a.put o.dst undef) w
theorem mA.toI{P:Program}{Z:Mem->Prop}{all:List Oper}{S:St}{o:Oper}{p:bh}(h:mA P all S o p):vL P Z all S o p:=λE AO _=>h E AO
inductive Cert(P:Program)(Z:Mem->Prop)(all:List Oper):List Oper->St->List bh->St->Prop
 |nil (S):Cert P Z all [] S [] S
 |cons (o rest S p ps S1) (J:∀e∈p.es,e.key∈p.ks) (B5:∀m,Z m->Z (bH m p.es)) (h:vL P Z all S o p) (A3:Cert P Z all rest (p.app o S) ps S1):Cert P Z all (o::rest) S (p::ps) S1
def fo(o:Oper):List Nat:=(o.after.toList.filter (Region.binds .any)).map (·.on)
def iI:List Oper->List (List Nat)->List (List Nat)
 |[],U=>U
 |o::r,U=>iI r (U++[((fo o).flatMap λp=>p::U.getD p []).eraseDups])
def sV(l r:List Nat):Bool:=l.all λx=>!r.contains x
def CM(all:List Oper)(o O:Oper)(p A2:bh):Bool:=
 sV o.dst.toList (looks all O)&&sV O.dst.toList (looks all o)&&sV o.dst.toList O.dst.toList&&sV (p.es.map (·.key)) A2.ks&&sV (A2.es.map (·.key)) p.ks
def Me(all:List Oper)(ps:List bh)(Aq:List (List Nat))(j:Nat):Bool:=
 match all[j]?,ps[j]? with
 |some o,some p=>(fo o).all (λi=>decide (i<j))&&(List.range j).all λi=>(Aq.getD j []).contains i||(match all[i]?,ps[i]? with
  |some O,some A2=>CM all O o A2 p
  |_,_=>false)
 |_,_=>false
def pK(all:List Oper)(ps:List bh):Bool:=(List.range all.length).all (Me all ps (iI all []))
theorem FC:∀(l:List Oper)(U:List (List Nat)),∃r,iI l U=U++r/\r.length=l.length
 |[],U=>⟨[],by simp[iI]⟩
 |o::l,U=>by
  obtain⟨r,I,M⟩:=FC l (U++[((fo o).flatMap λp=>p::U.getD p []).eraseDups]);exact⟨((fo o).flatMap λp=>p::U.getD p []).eraseDups::r,by rw[iI,I,acD,aoS],by simp[M]⟩
theorem mem_eraseDups{l:List Nat}{x:Nat}:x∈l.eraseDups↔x∈l:=List.mem_eraseDups
theorem Kz:∀(l:List Oper)(U:List (List Nat))(j:Nat)(o:Oper),l[j]?=some o->(∀p∈fo o,p<U.length+j)->
 ∀i,i∈(iI l U).getD (U.length+j) []↔∃p∈fo o,i=p\/i∈(iI l U).getD p []
 |[],U,j,o,h,_=>by simp at h
 |x::l,U,j,o,h,H=>by
  simp only[iI];cases j with
  |zero=>
   simp at h;subst h;obtain⟨r,I,_⟩:=FC l (U++[((fo x).flatMap λp=>p::U.getD p []).eraseDups]);rw[I];intro i;have A4:(U++[((fo x).flatMap λp=>p::U.getD p []).eraseDups]++r).getD (U.length+0) []=((fo x).flatMap λp=>p::U.getD p []).eraseDups:=by
    simp[acb,acD]
   rw[A4,mem_eraseDups,List.mem_flatMap];constructor
   ·rintro ⟨p,AB,hi⟩;refine⟨p,AB,?_⟩;have AR:=H p AB;rcases aaC.1 hi with rfl|hi
    ·exact .inl rfl
    ·right;rw[acb]at hi⊢;rw[acD,aaF (by omega)];exact hi
   ·rintro ⟨p,AB,hi⟩;refine⟨p,AB,?_⟩;have AR:=H p AB;rcases hi with rfl|hi
    ·simp
    ·rw[acb,acD,aaF (by omega),<-acb]at hi;exact afT _ hi
  |succ j=>
   have:=Kz l (U++[((fo x).flatMap λp=>p::U.getD p []).eraseDups]) j o (by simpa using h) (λp AB=>by have:=H p AB;simp;omega);simp only[aam,aan,aaw]at this;rw[show U.length+(j+1)=U.length+(0+1)+j by omega];exact this
theorem lJ{all:List Oper}{L:Nat->Prop}(H:∀j o,all[j]?=some o->∀p∈fo o,p<j)(BJ:∀j o,all[j]?=some o->L j->∀p∈fo o,L p):
 ∀j,(∃o,all[j]?=some o)->∀i,i∈(iI all []).getD j []->i<j/\((∀o,all[j]?=some o->∀p∈fo o,L p)->L i):=by
 intro j;induction j using Nat.strongRecOn with
 |_ j ih=>
  rintro ⟨o,D⟩ i hi;have AJ:=(Kz all [] j o D (λp AB=>by simpa using H j o D p AB) i);simp only[aaw,ahI]at AJ;obtain⟨p,AB,h⟩:=AJ.1 hi;have AS:=H j o D p AB;rcases h with rfl|h
  ·exact⟨AS,λhh=>hh o D i AB⟩
  ·have BK:j<all.length:=(D1.1 D).1;obtain⟨op,BL⟩:∃op,all[p]?=some op:=⟨all[p],by simp[show p<all.length by omega]⟩;obtain⟨I,M⟩:=ih p AS ⟨op,BL⟩ i h;exact⟨by omega,λhh=>M (λO T q A6=>BJ p O T (hh o D p AB) q A6)⟩
def aJ(all:List Oper)(ps:List bh)(S:St)(l:List Nat):St:=
 l.foldl (λS i=>match all[i]?,ps[i]? with|some o,some p=>p.app o S|_,_=>S) S
theorem yf(p:bh)(o:Oper)(S:St):(p.app o S).n=S.n:=by simp[bh.app,ou]
theorem uv(p:bh)(o:Oper)(S:St):(p.app o S).gl=S.gl:=by cases h:o.dst<;>simp[bh.app,h,St.put]
theorem Gn(p:bh)(o:Oper)(S:St):(p.app o S).mem.map (·.key)=S.mem.map (·.key):=by simp[bh.app,gm,mg]
theorem wX(p:bh)(o:Oper)(S:St)(t:Nat):Env.lk (p.app o S).env t=if o.dst=some t then some (p.g,p.x)else Env.lk S.env t:=by
 cases A0:o.dst with
 |none=>simp[bh.app,St.put,A0]
 |some d=>
  by_cases h:d=t
  ·subst h;simp[bh.app,St.put,A0,Env.lk]
  ·simp[bh.app,St.put,A0,Env.lk,h]
theorem BX:∀(es:List cq)(m:Mem)(k:Nat),k∉es.map (·.key)->Mem.get (bH m es) k=Mem.get m k
 |[],m,k,_=>rfl
 |e::r,m,k,h=>by
  simp only[abR,aaC,alg]at h;rw[bH,BX r _ k h.2,Mem.rL (λhe=>h.1 he.symm)]
theorem qN:∀(es:List cq)(m m':Mem)(k:Nat),m.map (·.key)=m'.map (·.key)->(k∈es.map (·.key)\/Mem.get m k=Mem.get m' k)->Mem.get (bH m es) k=Mem.get (bH m' es) k
 |[],m,m',k,_,h=>by simpa [bH]using h
 |e::r,m,m',k,J,h=>by
  simp only[bH];refine qN r _ _ k (by rw[Mem.iE,Mem.iE,J]) ?_;by_cases he:e.key=k
  ·right;subst he;by_cases Ag:e.key∈m.map (·.key)
   ·rw[Mem.rK Ag,Mem.rK (J▸Ag)]
   ·have B6:∀(m:Mem),e.key∉m.map (·.key)->Mem.get (Mem.set m e) e.key=none:=by
     intro m hm;cases AP:Mem.get (Mem.set m e) e.key with
     |none=>rfl
     |some y=>
      obtain⟨I,M⟩:=Mem.get_mem AP;have:y.key∈(Mem.set m e).map (·.key):=ab0 I;rw[Mem.iE,M]at this;exact absurd this hm
    rw[B6 m Ag,B6 m' (J▸Ag)]
  ·rw[Mem.rL he,Mem.rL he];rcases h with h|h
   ·simp only[abR,aaC]at h;rcases h with h|h
    ·exact absurd h.symm he
    ·exact .inl h
   ·exact .inr h
theorem HS(p:bh)(o:Oper)(S:St)(k:Nat)(h:k∉p.es.map (·.key)):Mem.get (p.app o S).mem k=Mem.get S.mem k:=by
 simp only[bh.app,gm];exact BX _ _ _ h
section
variable {all:List Oper} {ps:List bh} {S:St}
theorem qZ(l:List Nat):∀(S:St),(aJ all ps S l).n=S.n:=by
 induction l with
 |nil=>exact λ_=>rfl
 |cons i l ih=>
  intro S;have A4:aJ all ps S (i::l)=aJ all ps (aJ all ps S [i]) l:=by simp[aJ]
  rw[A4,ih];simp only[aJ,ahQ,akt];split
  ·exact yf ..
  ·rfl
theorem oW(l:List Nat):∀(S:St),(aJ all ps S l).gl=S.gl:=by
 induction l with
 |nil=>exact λ_=>rfl
 |cons i l ih=>
  intro S;have A4:aJ all ps S (i::l)=aJ all ps (aJ all ps S [i]) l:=by simp[aJ]
  rw[A4,ih];simp only[aJ,ahQ,akt];split
  ·exact uv ..
  ·rfl
theorem fq(l:List Nat):∀(S:St),(aJ all ps S l).mem.map (·.key)=S.mem.map (·.key):=by
 induction l with
 |nil=>exact λ_=>rfl
 |cons i l ih=>
  intro S;have A4:aJ all ps S (i::l)=aJ all ps (aJ all ps S [i]) l:=by simp[aJ]
  rw[A4,ih];simp only[aJ,ahQ,akt];split
  ·exact Gn ..
  ·rfl
theorem qO(l B7:List Nat)(S:St):aJ all ps S (l++B7)=aJ all ps (aJ all ps S l) B7:=by simp[aJ]
theorem yg(t:Nat)(q:Nat->Bool)(l:List Nat):∀(S E:St),(∀i∈l,∀o,all[i]?=some o->o.dst=some t->q i=true)->Env.lk S.env t=Env.lk E.env t->Env.lk (aJ all ps S l).env t=Env.lk (aJ all ps E (l.filter q)).env t:=by
 induction l with
 |nil=>intro S E _ h;exact h
 |cons i l ih=>
  intro S E A6 h;have A4:aJ all ps S (i::l)=aJ all ps (aJ all ps S [i]) l:=by simp[aJ]
  have AU:∀AD∈l,∀o,all[AD]?=some o->o.dst=some t->q AD=true:=λAD Ar=>A6 AD (afT _ Ar);rw[A4];by_cases A5:q i=true
  ·rw[List.filter_cons_of_pos A5];have AK:aJ all ps E (i::l.filter q)=aJ all ps (aJ all ps E [i]) (l.filter q):=by simp[aJ]
   rw[AK];refine ih _ _ AU ?_;simp only[aJ,ahQ,akt];split
   ·rw[wX,wX,h]
   ·exact h
  ·rw[aou A5];refine ih _ _ AU ?_;simp only[aJ,ahQ,akt];split
   ·rename_i o p D H;rw[wX,aab (λA0=>A5 (A6 i (by simp) o D A0)),h]
   ·exact h
theorem pL(k:Nat)(q:Nat->Bool)(l:List Nat):∀(S E:St),(∀i∈l,∀p,ps[i]?=some p->k∈p.es.map (·.key)->q i=true)->S.mem.map (·.key)=E.mem.map (·.key)->Mem.get S.mem k=Mem.get E.mem k->Mem.get (aJ all ps S l).mem k=Mem.get (aJ all ps E (l.filter q)).mem k:=by
 induction l with
 |nil=>intro S E _ _ h;exact h
 |cons i l ih=>
  intro S E A6 J h;have A4:aJ all ps S (i::l)=aJ all ps (aJ all ps S [i]) l:=by simp[aJ]
  have AU:∀AD∈l,∀p,ps[AD]?=some p->k∈p.es.map (·.key)->q AD=true:=λAD Ar=>A6 AD (afT _ Ar);rw[A4];by_cases A5:q i=true
  ·rw[List.filter_cons_of_pos A5];have AK:aJ all ps E (i::l.filter q)=aJ all ps (aJ all ps E [i]) (l.filter q):=by simp[aJ]
   rw[AK];refine ih _ _ AU (by rw[fq,fq,J]) ?_;simp only[aJ,ahQ,akt];split
   ·simp only[bh.app,gm];exact qN _ _ _ k J (.inr h)
   ·exact h
  ·rw[aou A5];refine ih _ _ AU (by rw[fq,J]) ?_;simp only[aJ,ahQ,akt];split
   ·rename_i o p D H;rw[HS _ _ _ _ (λA0=>A5 (A6 i (by simp) p H A0)),h]
   ·exact h
end
structure iJ(E S:St):Prop where
 n:E.n=S.n
 gl:E.gl=S.gl
 mem:E.mem=S.mem
 env:∀t,Env.lk E.env t=Env.lk S.env t
theorem Rel.eqv{φ G S E a w}(h:Rel φ G E a w)(he:iJ E S):Rel φ G S a w:=
 ⟨by rw[<-he.n];exact h.size,h.defers,λt x Ah=>by rw[<-he.mem];exact h.env t x (by rw[he.env];exact Ah),by rw[<-he.mem];exact h.mem,by rw[<-he.gl,<-he.mem];exact h.mD⟩
theorem Mem.ext{m m':Mem}(AZ:(m.map (·.key)).Nodup)(J:m.map (·.key)=m'.map (·.key))(h:∀k,Mem.get m k=Mem.get m' k):m=m':=by
 induction m generalizing m' with
 |nil=>cases m' with|nil=>rfl|cons _ _=>simp at J
 |cons e r ih=>
  cases m' with
  |nil=>simp at J
  |cons e' Bi=>
   simp only[abR,akv]at J;simp only[abR,List.nodup_cons]at AZ;have AL:=h e.key;simp only[Mem.get,acH,J.1]at AL;cases AL;congr 1;refine ih AZ.2 J.2 λk=>?_;have:=h k;simp only[Mem.get]at this;by_cases he:e.key=k
   ·subst he;have nn:∀{r:Mem},e.key∉r.map (·.key)->Mem.get r e.key=none:=by
     intro r A3;cases AP:Mem.get r e.key with
     |none=>rfl
     |some y=>obtain⟨I,M⟩:=Mem.get_mem AP;exact absurd (M▸ab0 I) A3
    rw[nn AZ.1,nn (by rw[<-J.2];exact AZ.1)]
   ·simpa [he]using this
def jt(n:Nat)(f:Nat->Bool):List Nat:=(List.range n).filter f
theorem FD{j n:Nat}(h:j<n):List.range n=List.range j++j::List.range' (j+1) (n-j-1):=by
 have M:(j::List.range' (j+1) (n-j-1))=List.range' j (n-j):=by
  rw[show n-j=(n-j-1)+1 by omega,akz];simp
 rw[M,List.range_eq_range',List.range_eq_range'];rw[show List.range' 0 n=List.range' 0 (j+(n-j)) by rw[show j+(n-j)=n by omega]];rw[<-List.range'_append_1];simp
theorem CN{j n:Nat}{f:Nat->Bool}(h:j<n)(AE:f j=false):jt n f=(List.range j).filter f++(List.range' (j+1) (n-j-1)).filter f:=by
 rw[jt,FD h,akL,aou (by simp[AE])]
theorem V3{j n:Nat}{f g:Nat->Bool}(h:j<n)(AP:g j=true)(B8:∀i,i≠j->g i=f i):jt n g=(List.range j).filter f++j::(List.range' (j+1) (n-j-1)).filter f:=by
 rw[jt,FD h,akL,List.filter_cons_of_pos AP];congr 1
 ·exact akY λi hi=>B8 i (by have:=aca.1 hi;omega)
 ·congr 1;exact akY λi hi=>B8 i (by have:=aoB.1 hi;omega)
theorem uw{l r:List Nat}(h:sV l r=true){x:Nat}(V:x∈l)(A3:x∈r):False:=by
 have:=abX.1 h x V;simp at this;exact this A3
structure HU(all:List Oper)(o O:Oper)(p A2:bh):Prop where
 a:∀t,o.dst=some t->t∉looks all O
 b:∀t,O.dst=some t->t∉looks all o
 c:∀t,o.dst=some t->O.dst≠some t
 d:∀k∈p.es.map (·.key),k∉A2.ks
 e:∀k∈A2.es.map (·.key),k∉p.ks
theorem QG{all o O p A2}(h:CM all o O p A2=true):HU all o O p A2:=by
 simp only[CM,Ds]at h;obtain⟨⟨⟨⟨I,M⟩,AQ⟩,BM⟩,BN⟩:=h;exact⟨λt AM V=>uw I (by simp[AM]) V,λt AM V=>uw M (by simp[AM]) V,λt AM V=>uw AQ (x:=t) (by simp[AM]) (by simp[V]),λk J V=>uw BM J V,λk J V=>uw BN J V⟩
section
variable {all:List Oper} {ps:List bh}
theorem ff(h:pK all ps=true){j:Nat}{o:Oper}(D:all[j]?=some o):∃p,ps[j]?=some p/\(∀i∈fo o,i<j)/\
 ∀i,i<j->i∈(iI all []).getD j []\/∃O A2,all[i]?=some O/\ps[i]?=some A2/\HU all O o A2 p:=by
 have W:j<all.length:=(D1.1 D).1;have I:=abX.1 h j (aca.2 W);unfold Me at I;rw[D]at I;cases H:ps[j]? with
 |none=>rw[H]at I;simp at I
 |some p=>
  rw[H]at I;simp only[Ds,abX,aak,ahR,aca]at I;refine⟨p,rfl,I.1,λi hi=>?_⟩;rcases I.2 i hi with M|M
  ·exact .inl (by simpa using M)
  ·right;split at M
   ·rename_i O A2 T AA;exact⟨O,A2,T,AA,QG M⟩
   ·cases M
theorem Cert.at{P:Program}{Z:Mem->Prop}{rest:List Oper}{S0 S:St}{As:List bh}{S1:St}(h:Cert P Z all rest S As S1):∀(pre:List Oper)(pp:List bh),pre.length=pp.length->all=pre++rest->ps=pp++As->aJ all ps S0 (List.range pre.length)=S->
 aJ all ps S0 (List.range all.length)=S1/\ps.length=all.length/\∀j o p,pre.length<=j->all[j]?=some o->ps[j]?=some p->(∀e∈p.es,e.key∈p.ks)/\(∀m,Z m->Z (bH m p.es))/\vL P Z all (aJ all ps S0 (List.range j)) o p:=by
 induction h with
 |nil S=>
  intro pre pp V AO A_ Ai;simp only[afV]at AO A_;subst AO A_;refine⟨Ai,V.symm,λj o p W D _=>?_⟩;rw[afX (by omega)]at D;cases D
 |cons o rest S p As S1 J B5 Aa A3 ih=>
  intro pre pp V AO A_ Ai;have A4:all[pre.length]?=some o:=by rw[AO];simp
  have AK:ps[pre.length]?=some p:=by rw[A_,V];simp
  obtain⟨I,M,AQ⟩:=ih (pre++[o]) (pp++[p]) (by simp[V]) (by rw[AO];simp) (by rw[A_];simp) (by
   rw[aam,af4,List.range_succ,qO,Ai];simp[aJ,A4,AK])
  refine⟨I,M,λj O A2 W T AA=>?_⟩;rcases Nat.eq_or_lt_of_le W with rfl|W
  ·rw[A4]at T;rw[AK]at AA;cases T;cases AA;exact⟨J,B5,by rw[Ai];exact Aa⟩
  ·exact AQ j O A2 (by simp;omega) T AA
variable {S:St} {f:Nat->Bool}
def rT(all:List Oper)(f:Nat->Bool):Prop:=∀j o,all[j]?=some o->f j=true->∀p∈fo o,f p=true
theorem tO(Aj:ps.length=all.length)(A8:pK all ps=true)(AG:rT all f){j:Nat}{o:Oper}{p:bh}(D:all[j]?=some o)(H:ps[j]?=some p)(W:f j=false)(Ak:∀i∈fo o,f i=true):
 mz all o p.ks (aJ all ps S (jt all.length f)) (aJ all ps S (List.range j)):=by
 have AR:j<all.length:=(D1.1 D).1;have Al:∀j o,all[j]?=some o->∀p∈fo o,p<j:=λj o D=>(ff A8 D).choose_spec.2.1;obtain⟨Bj,B9,_,BO⟩:=ff A8 D;rw[H]at B9;cases B9
 --Bk Bl ahead of j is az
 have BA:∀i∈(iI all []).getD j [],i<j/\f i=true:=λi hi=>by
  obtain⟨I,M⟩:=lJ (L:=λi=>f i=true) Al (λj o D AE=>AG j o D AE) j ⟨o,D⟩ i hi;exact⟨I,M λO T=>by rw[D]at T;cases T;exact Ak⟩
 let q:Nat->Bool:=λi=>(iI all []).getD j [] |>.contains i
 have A6:∀i,q i=true↔i∈(iI all []).getD j []:=λi=>by simp[q]
 --any other az one,and any other ahead in BP text,is apart
 have BB:∀i,(i<j\/(j<i/\f i=true))->q i=false->∀A' pi,all[i]?=some A'->ps[i]?=some pi->HU all A' o pi p\/HU all o A' p pi:=by
  rintro i (hi|⟨hi,AT⟩) A5 A' pi Y A1
  ·rcases BO i hi with h|⟨O,A2,T,AA,h⟩
   ·rw[(A6 i).2 h]at A5;cases A5
   ·rw[Y]at T;rw[A1]at AA;cases T;cases AA;exact .inl h
  ·obtain⟨BQ,Ab,_,At⟩:=ff A8 Y;rw[A1]at Ab;cases Ab;rcases At j hi with h|⟨O,A2,T,AA,h⟩
   ·have:=(lJ (L:=λi=>f i=true) Al (λj o D AE=>AG j o D AE) i ⟨A',Y⟩ j h).2 (λO T=>by rw[Y]at T;cases T;exact AG i A' Y AT);simp[W]at this
   ·rw[D]at T;rw[H]at AA;cases T;cases AA;exact .inr h
 have BC:(jt all.length f).filter q=(List.range j).filter q:=by
  rw[CN AR W,akL,akG,akG];have:(List.range' (j+1) (all.length-j-1)).filter (λa=>q a&&f a)=[]:=by
   rw[akk];intro i hi;have:=(aoB.1 hi).1;simp only[Ds,not_and];intro A5;have:=(BA i ((A6 i).1 A5)).1;omega
  rw[this,afV];refine akY λi hi=>?_;cases A5:q i with
  |false=>rfl
  |true=>simp[(BA i ((A6 i).1 A5)).2]
 have V:∀i∈jt all.length f,i<j\/(j<i/\f i=true):=λi hi=>by
  have AT:=(afS.1 hi).2;rcases Nat.lt_trichotomy i j with h|h|h
  ·exact .inl h
  ·subst h;simp[W]at AT
  ·exact .inr ⟨h,AT⟩
 have A3:∀i∈List.range j,i<j\/(j<i/\f i=true):=λi hi=>.inl (aca.1 hi);refine⟨by rw[qZ,qZ],by rw[oW,oW],by rw[fq,fq],λt AM=>?_,λk J=>?_⟩
 ·have key:∀l:List Nat,(∀i∈l,i<j\/(j<i/\f i=true))->∀i∈l,∀A',all[i]?=some A'->A'.dst=some t->q i=true:=by
   intro l V i hi A' Y A0;cases A5:q i with
   |true=>rfl
   |false=>
    obtain⟨pi,A1,_⟩:=ff A8 Y;rcases BB i (V i hi) A5 A' pi Y A1 with h|h
    ·exact absurd AM (h.a t A0)
    ·exact absurd AM (h.b t A0)
  rw[yg t q _ S S (key _ V) rfl,yg t q (List.range j) S S (key _ A3) rfl,BC]
 ·have key:∀l:List Nat,(∀i∈l,i<j\/(j<i/\f i=true))->∀i∈l,∀pi,ps[i]?=some pi->k∈pi.es.map (·.key)->q i=true:=by
   intro l V i hi pi A1 A0;cases A5:q i with
   |true=>rfl
   |false=>
    have An:i<ps.length:=(D1.1 A1).1;cases Y:all[i]? with
    |none=>
     rw[List.getElem?_eq_none_iff]at Y;omega
    |some A'=>
     rcases BB i (V i hi) A5 A' pi Y A1 with h|h
     ·exact absurd J (h.d k A0)
     ·exact absurd J (h.e k A0)
  rw[pL k q _ S S (key _ V) rfl rfl,pL k q (List.range j) S S (key _ A3) rfl rfl,BC]
theorem AW(Aj:ps.length=all.length)(A8:pK all ps=true)(AG:rT all f)(Au:∀(j:Nat) (p:bh),ps[j]?=some p->∀e∈p.es,e.key∈p.ks)(Av:(S.mem.map (·.key)).Nodup){j:Nat}{o:Oper}{p:bh}(D:all[j]?=some o)(H:ps[j]?=some p)(W:f j=false){g:Nat->Bool}(AP:g j=true)(BR:∀i,i≠j->g i=f i):
 iJ (p.app o (aJ all ps S (jt all.length f))) (aJ all ps S (jt all.length g)):=by
 have AR:j<all.length:=(D1.1 D).1;have Al:∀j o,all[j]?=some o->∀p∈fo o,p<j:=λj o D=>(ff A8 D).choose_spec.2.1;have Aw:∀i∈(List.range' (j+1) (all.length-j-1)).filter f,∀A' pi,all[i]?=some A'->ps[i]?=some pi->HU all o A' p pi:=by
  intro i hi A' pi Y A1;obtain⟨hi,AT⟩:=afS.1 hi;have Bm:=(aoB.1 hi).1;obtain⟨BQ,Ab,_,At⟩:=ff A8 Y;rw[A1]at Ab;cases Ab;rcases At j (by omega)with h|⟨O,A2,T,AA,h⟩
  ·have:=(lJ (L:=λi=>f i=true) Al (λj o D AE=>AG j o D AE) i ⟨A',Y⟩ j h).2 (λO T=>by rw[Y]at T;cases T;exact AG i A' Y AT);simp[W]at this
  ·rw[D]at T;rw[H]at AA;cases T;cases AA;exact h
 rw[V3 AR AP BR,CN AR W];generalize BS:(List.range j).filter f=AC;generalize BT:(List.range' (j+1) (all.length-j-1)).filter f=AF at Aw;have BU:∀i∈AC++AF,i≠j:=by
  intro i hi;rw[<-BS,<-BT]at hi;rcases aa0.1 hi with h|h
  ·have:=aca.1 (afS.1 h).1;omega
  ·have:=(aoB.1 (afS.1 h).1).1;omega
 have BV:∀{i pi},ps[i]?=some pi->∃A',all[i]?=some A':=λ{i pi} h=>by
  have:=(D1.1 h).1;exact⟨all[i]'(by omega),abJ _⟩
 let q:Nat->Bool:=λi=>i != j
 have BD:(AC++j::AF).filter q=AC++AF:=by
  rw[akL,aou (by simp[q]),<-akL,List.filter_eq_self];intro i hi;simpa [q]using BU i hi
 have BE:∀S,aJ all ps S (AC++j::AF)=aJ all ps (p.app o (aJ all ps S AC)) AF:=λS=>by
  rw[qO];simp[aJ,D,H]
 have BW:(p.app o (aJ all ps S (AC++AF))).mem.map (·.key)=(aJ all ps S (AC++j::AF)).mem.map (·.key):=by
  rw[Gn,fq,fq]
 refine⟨by rw[yf,qZ,qZ],by rw[uv,oW,oW],Mem.ext (by rw[Gn,fq];exact Av) BW λk=>?_,λt=>?_⟩
 ·by_cases J:k∈p.es.map (·.key)
  ·have I:Mem.get (p.app o (aJ all ps S (AC++AF))).mem k=Mem.get (p.app o (aJ all ps S AC)).mem k:=by
    simp only[bh.app,gm];exact qN _ _ _ k (by rw[fq,fq]) (.inl J)
   rw[I,BE];rw[pL k (λ_=>false) AF _ (p.app o (aJ all ps S AC)) ?_ rfl rfl]
   ·rw[akk.2 (by simp)];rfl
   ·intro i hi pi A1 AH;obtain⟨A',Y⟩:=BV A1;have:=(Aw i hi A' pi Y A1).e k AH;obtain⟨e,he,rfl⟩:=abV.1 J;exact absurd (Au j p H e he) this
  ·rw[HS _ _ _ _ J,pL k q (AC++j::AF) S S ?_ rfl rfl,BD];intro i hi pi A1 AH;by_cases Ac:i=j
   ·subst Ac;rw[H]at A1;cases A1;exact absurd AH J
   ·simpa [q]using Ac
 ·rw[wX];by_cases A0:o.dst=some t
  ·rw[aat A0,BE];rw[yg t (λ_=>false) AF _ (p.app o (aJ all ps S AC)) ?_ rfl]
   ·rw[akk.2 (by simp)];simp[aJ,wX,A0]
   ·intro i hi A' Y Ax;obtain⟨pi,A1,_⟩:=ff A8 Y;exact absurd Ax ((Aw i hi A' pi Y A1).c t A0)
  ·rw[aab A0,yg t q (AC++j::AF) S S ?_ rfl,BD];intro i hi A' Y Ax;by_cases Ac:i=j
   ·subst Ac;rw[D]at Y;cases Y;exact absurd Ax A0
   ·simpa [q]using Ac
theorem V5{P:Program}{S0 S1:St}{φ0:bP}{G:Fr}{w0:World}{Q:Exit->Act->World->Prop}{Z:Mem->Prop}(Ay:Z S0.mem)(Ad:Cert P Z all all S0 ps S1)(A8:pK all ps=true)(Av:(S0.mem.map (·.key)).Nodup)
 (Az:∀φ' A7 w',Rel φ' G S1 A7 w'->bk φ0 S0.mem w0 φ' S1.mem w'->Q .normal A7 w'):
 ∀(fuel:Nat)(az:Array Bool) φ a w,az.size=all.length->rT all (λi=>az.getD i false)->Rel φ G (aJ all ps S0 (jt all.length λi=>az.getD i false)) a w->bk φ0 S0.mem w0 φ (aJ all ps S0 (jt all.length λi=>az.getD i false)).mem w->
  ((List.range all.length).filter λi=>!az.getD i false).length<=fuel->wpAny P .any all.toArray Q fuel az a w:=by
 obtain⟨B',Aj,Aa⟩:=Cert.at (ps:=ps) (S0:=S0) Ad [] [] rfl rfl rfl rfl;have Au:∀(j:Nat)(p:bh),ps[j]?=some p->∀e∈p.es,e.key∈p.ks:=λj p H=>by
  have BK:j<ps.length:=(D1.1 H).1;exact (Aa j (all[j]'(by omega)) p (by simp) (by simp) H).1
 have BY:∀l:List Nat,Z (aJ all ps S0 l).mem:=by
  have key:∀(l:List Nat)(S:St),Z S.mem->Z (aJ all ps S l).mem:=by
   intro l;induction l with
   |nil=>exact λ_ h=>h
   |cons i l ih=>
    intro S h;have A4:aJ all ps S (i::l)=aJ all ps (aJ all ps S [i]) l:=by simp[aJ]
    rw[A4];refine ih _ ?_;simp only[aJ,ahQ,akt];split
    ·rename_i o p D H;simp only[bh.app,gm];exact (Aa i o p (by simp) D H).2.1 _ h
    ·exact h
  exact λl=>key l S0 Ay
 --BP first Bn Bo az is ready
 have first:∀(f:Nat->Bool)(n:Nat),n<=all.length->(∀i,i<n->f i=true)\/∃i,i<n/\f i=false/\∀AD,AD<i->f AD=true:=by
  intro f n;induction n with
  |zero=>exact λ_=>.inl (λi hi=>by omega)
  |succ n ih=>
   intro AZ;rcases ih (by omega)with h|⟨i,I,M,AQ⟩
   ·cases AE:f n with
    |true=>
     refine .inl λi hi=>?_;rcases Nat.lt_succ_iff_lt_or_eq.1 hi with B0|B0
     ·exact h i B0
     ·rw[B0];exact AE
    |false=>exact .inr ⟨n,by omega,AE,h⟩
   ·exact .inr ⟨i,by omega,M,AQ⟩
 have done:∀(az:Array Bool) φ a w,az.size=all.length->Rel φ G (aJ all ps S0 (jt all.length λi=>az.getD i false)) a w->bk φ0 S0.mem w0 φ (aJ all ps S0 (jt all.length λi=>az.getD i false)).mem w->Region.ready .any all.toArray az=[]->Q .normal a w:=by
  intro az φ a w Ae A3 J Ao;have BZ:∀i,i<all.length->az.getD i false=true:=by
   rcases first (λi=>az.getD i false) all.length (aad _)with h|⟨i,I,M,AQ⟩
   ·exact h
   ·exfalso;have:i∈Region.ready .any all.toArray az:=by
     rw[mem_ready];refine⟨?_,all[i],by simp[I],λe he B1=>?_⟩
     ·have:i<az.size:=by omega
      simp only[abN,ahX this,af7]at M⊢;exact M
     ·obtain⟨p,_,H,_⟩:=ff A8 (show all[i]?=some all[i] by simp[I]);exact AQ e.on (H e.on (by
       simp only[fo,abV,afS];exact⟨e,⟨by simpa using he,B1⟩,rfl⟩))
    rw[Ao]at this;cases this
  have V:(jt all.length λi=>az.getD i false)=List.range all.length:=by
   rw[jt,List.filter_eq_self];intro i hi;exact BZ i (aca.1 hi)
  rw[V,B']at A3 J;exact Az φ a w A3 J
 intro fuel;induction fuel with
 |zero=>
  intro az φ a w Ae AG A3 J AE;have Ao:Region.ready .any all.toArray az=[]:=by
   cases h:Region.ready .any all.toArray az with
   |nil=>rfl
   |cons i r=>
    exfalso;have hi:i∈Region.ready .any all.toArray az:=by rw[h];simp
    rw[mem_ready]at hi;obtain⟨AL,o,D,_⟩:=hi;have An:i<all.length:=by
     have:=(acU.1 D).1;simpa using this
    have Af:az.getD i false=false:=by
     have:i<az.size:=by omega
     simp only[abN,ahX this,af7]at AL⊢;exact AL
    have:i∈(List.range all.length).filter λi=>!az.getD i false:=afS.2 ⟨aca.2 An,by simp[Af]⟩;have:=List.length_pos_of_mem this;omega
  exact⟨Ao,done az φ a w Ae A3 J Ao⟩
 |succ fuel ih=>
  intro az φ a w Ae AG A3 J AE;refine⟨done az φ a w Ae A3 J,λi hi=>?_⟩;rw[mem_ready]at hi;obtain⟨AL,o,D,B_⟩:=hi;have T:all[i]?=some o:=by simpa using D
  have An:i<all.length:=(D1.1 T).1;have BF:i<az.size:=by omega
  have Af:az.getD i false=false:=by
   simp only[abN,ahX BF,af7]at AL⊢;exact AL
  have Ak:∀k∈fo o,az.getD k false=true:=by
   intro k AN;simp only[fo,abV,afS]at AN;obtain⟨e,⟨he,B1⟩,rfl⟩:=AN;exact B_ e (by simpa using he) B1
  obtain⟨p,H,_⟩:=ff A8 T;obtain⟨Bp,_,Ba⟩:=Aa i o p (by simp) T H;have Bb:=tO (S:=S0) Aj A8 AG T H Af Ak;have B2:(az.setIfInBounds i true).getD i false=true:=by simp[BF]
  have Ap:∀k,k≠i->(az.setIfInBounds i true).getD k false=az.getD k false:=λk AN=>getD_set_ne false (ake AN);have heq:=AW (S:=S0) (f:=λi=>az.getD i false) (g:=λk=>(az.setIfInBounds i true).getD k false) Aj A8 AG Au Av T H Af B2 Ap;have Bc:rT all (λk=>(az.setIfInBounds i true).getD k false):=by
   intro k ok B3 Bd x Ah;by_cases BG:x=i
   ·subst BG;exact B2
   ·show (az.setIfInBounds i true).getD x false=true;rw[Ap x BG];by_cases AH:k=i
    ·subst AH;rw[T]at B3;cases B3;exact Ak x Ah
    ·exact AG k ok B3 ((Ap k AH).symm.trans Bd) x Ah
  have Be:((List.range all.length).filter λk=>!(az.setIfInBounds i true).getD k false).length<=fuel:=by
   have I:(List.range all.length).filter (λk=>!(az.setIfInBounds i true).getD k false)=((List.range all.length).filter λk=>!az.getD k false).filter (λk=>k != i):=by
    rw[akG];refine akY λk _=>?_;by_cases AH:k=i
    ·subst AH;rw[B2];simp
    ·rw[Ap k AH];simp[AH]
   have Bf:i∈(List.range all.length).filter λk=>!az.getD k false:=afS.2 ⟨aca.2 An,by simp[Af]⟩;rw[I];have:(((List.range all.length).filter λk=>!az.getD k false).filter (λk=>k != i)).length<((List.range all.length).filter λk=>!az.getD k false).length:=by
    rw[ans];exact⟨i,Bf,by simp⟩
   omega
  have AJ:=Ba _ Bb (BY _) φ G a w A3 (wpAny P .any all.toArray Q fuel (az.setIfInBounds i true)) Q (λφ' A7 w' B4 AN=>
   ih _ φ' A7 w' (by simpa using Ae) Bc (B4.eqv heq) (by rw[<-heq.mem];exact J.trans AN) Be)
  unfold wpOp;rw[D];simp only
  split at AJ
  ·rename_i hw;rw[aat hw];exact .inl AJ
  ·rename_i hw;rw[aab hw];exact AJ
end
theorem QH{P:Program}{S S1:St}{id:Nat}{ops:List Oper}{ps:List bh}{Z:Mem->Prop}(Ay:Z S.mem)(hm:P.follows .mixedOrders=true)(Ad:Cert P Z ops ops S ps S1)(A8:pK ops ps=true){φ G a w}(A3:Rel φ G S a w){Q:Exit->Act->World->Prop}
 (Az:∀φ' A7 w',Rel φ' G S1 A7 w'->bk φ S.mem w φ' S1.mem w'->Q .normal A7 w'):(Code.region id ops.toArray true).wp P Q a w:=by
 refine wp_region_any hm ?_;have Bg:Rel φ G S a {w with drawn:=w.drawn+1}:=A3.grow (λ_ _=>rfl) (aad _);have BH:(jt ops.length λi=>(Array.replicate ops.length false).getD i false)=[]:=by
  rw[jt,akk];intro i hi;simp[abN,aca.1 hi]
 refine V5 (S0:=S) (φ0:=φ) (w0:=w) (G:=G) Ay Ad A8 A3.mem.nodup (λφ' A7 w' B4 AN=>Az φ' A7 w' B4 AN) _ _ φ a _ (by simp) ?_ ?_ ?_ ?_
 ·intro j o _ W;exfalso;simp only[abN]at W;by_cases h:j<ops.length
  ·simp[h]at W
  ·simp[h]at W
 ·simp only[af2];rw[BH];exact Bg
 ·simp only[af2];rw[BH];exact bk.grow (λ_ _=>rfl) (aad _) rfl rfl rfl
 ·simp only[af2];exact akm (List.length_filter_le _ _) (by simp)
theorem akU{P:Program}{Z:Mem->Prop}{ops:List Oper}{S S1:St}{ps:List bh}(Ad:Cert P Z ops ops S ps S1):S1.n=S.n/\S1.gl=S.gl:=by
 obtain⟨B',_,_⟩:=Cert.at (ps:=ps) (S0:=S) Ad [] [] rfl rfl rfl rfl;rw[<-B'];exact⟨qZ ..,oW ..⟩
def Gp(all:List Oper)(o O:Oper):Bool:=sV o.dst.toList (looks all O)&&sV O.dst.toList (looks all o)&&sV o.dst.toList O.dst.toList
def CT(all:List Oper)(A9:List (List Nat))(Aq:List (List Nat))(j:Nat):Bool:=
 match all[j]? with
 |some o=>(fo o).all (λi=>decide (i<j))&&(List.range j).all λi=>(Aq.getD j []).contains i||(match all[i]? with
  |some O=>Gp all O o&&((A9.getD i []).contains j&&(A9.getD j []).contains i)
  |none=>false)
 |none=>false
def Gq(all:List Oper)(A9:List (List Nat)):Bool:=(List.range all.length).all (CT all A9 (iI all []))
def Jo(ps:List bh)(es:List cq):List Nat->Bool
 |[]=>true
 |j::r=>(match ps[j]? with|some q=>sV (es.map (·.key)) q.ks|none=>false)&&Jo ps es r
def Jp(ps:List bh)(AI:List Nat):List cq->Bool
 |[]=>true
 |e::es=>Jo ps (e::es) AI
def AX(ps:List bh):List (List Nat)->List bh->Bool
 |_,[]=>true
 |[],p::r=>Jp ps [] p.es&&AX ps [] r
 |AI::A9,p::r=>Jp ps AI p.es&&AX ps A9 r
def oZ(A9:List (List Nat))(ps:List bh):Bool:=AX ps A9 ps
theorem sX{ps:List bh}:∀{A9:List (List Nat)}{l:List bh},AX ps A9 l=true->∀i p,l[i]?=some p->Jp ps (A9.getD i []) p.es=true
 |_,[],_,i,p,H=>by simp at H
 |[],q::r,h,i,p,H=>by
  simp only[AX,Ds]at h;cases i with
  |zero=>simp at H;subst H;simpa using h.1
  |succ i=>have:=sX h.2 i p (by simpa using H);simpa using this
 |AI::A9,q::r,h,i,p,H=>by
  simp only[AX,Ds]at h;cases i with
  |zero=>simp at H;subst H;simpa using h.1
  |succ i=>have:=sX h.2 i p (by simpa using H);simpa using this
theorem Ny{ps:List bh}{es:List cq}:∀{AI:List Nat},Jo ps es AI=true->∀j∈AI,∀q,ps[j]?=some q->sV (es.map (·.key)) q.ks=true
 |[],_,j,W,_,_=>by simp at W
 |k::r,h,j,W,q,A6=>by
  simp only[Jo,Ds]at h;rcases aaC.1 W with rfl|W
  ·have:=h.1;rw[A6]at this;exact this
  ·exact Ny h.2 j W q A6
theorem AY{ps:List bh}{AI:List Nat}:∀{es:List cq},Jp ps AI es=true->∀j∈AI,∀q,ps[j]?=some q->sV (es.map (·.key)) q.ks=true
 |[],_,_,_,_,_=>rfl
 |_::_,h,j,W,q,A6=>Ny h j W q A6
theorem aaa{all:List Oper}{A9:List (List Nat)}{ps:List bh}(AJ:Gq all A9=true)(A0:oZ A9 ps=true)(V:ps.length=all.length):pK all ps=true:=by
 unfold pK;refine abX.2 λj W=>?_;have I:=abX.1 AJ j W;have Bh:j<all.length:=aca.1 W;unfold CT at I;unfold Me;have AS:ps[j]?=some (ps[j]'(by omega)):=by simp[V,Bh]
 rw[AS];cases D:all[j]? with
 |none=>rw[D]at I;cases I
 |some o=>
  rw[D]at I;simp only[Ds,abX,aak,ahR,aca]at I⊢;refine⟨I.1,λi hi=>?_⟩;rcases I.2 i hi with M|M
  ·exact .inl M
  ·right;have A1:ps[i]?=some (ps[i]'(by omega)):=by simp[show i<ps.length by omega]
   cases Y:all[i]? with
   |none=>rw[Y]at M;cases M
   |some O=>
    rw[Y]at M;rw[A1];simp only[Ds]at M;simp only[CM];have A4:=AY (sX A0 i _ A1) j (by simpa using M.2.1) _ AS;have AK:=AY (sX A0 j _ AS) i (by simpa using M.2.2) _ A1;have BI:=M.1;simp only[Gp,Ds]at BI;simp only[Ds];exact⟨⟨BI,A4⟩,AK⟩
def Gr(all:List Oper):Prop:=∀i,i+1<all.length->i∈(iI all []).getD (all.length-1) []
theorem FE{all:List Oper}{AY:List (List Nat)}(U:Gq all AY=true)(AZ:AY.getD (all.length-1) []=[]):Gr all:=by
 intro i hi;have J:=abX.1 U (all.length-1) (aca.2 (by omega));unfold CT at J;rw[abJ (by omega)]at J;simp only[Ds,abX,ahR,aca]at J;rcases J.2 i (by omega)with D|D
 ·simpa using D
 ·rw[abJ (by omega)]at D;simp only[Ds]at D;have:=D.2.2;rw[AZ]at this;cases this
def FG:bh:=⟨[],[],false,.bu⟩
section
variable {all:List Oper} {ps:List bh}
theorem Cert.at2{P:Program}{H:Mem->Prop}{rest:List Oper}{S0 S:St}{T:List bh}{S1:St}(h:Cert P H all rest S T S1):∀(pre:List Oper)(pp:List bh)(AC:List Oper)(AD:List bh),pre.length=pp.length->all=pre++rest++AC->ps=pp++T++AD->aJ all ps S0 (List.range pre.length)=S->
 aJ all ps S0 (List.range (pre.length+rest.length))=S1/\T.length=rest.length/\∀j o p,pre.length<=j->j<pre.length+rest.length->all[j]?=some o->ps[j]?=some p->(∀e∈p.es,e.key∈p.ks)/\(∀m,H m->H (bH m p.es))/\vL P H all (aJ all ps S0 (List.range j)) o p:=by
 induction h with
 |nil S=>
  intro pre pp AC AD A7 AJ Z AE;exact⟨by simpa using AE,rfl,λj o p V AK _=>by simp at AK;omega⟩
 |cons o rest S p T S1 A' Ao A8 Y ih=>
  intro pre pp AC AD A7 AJ Z AE;have A0:all[pre.length]?=some o:=by rw[AJ];simp
  have A_:ps[pre.length]?=some p:=by rw[Z,A7];simp
  obtain⟨J,D,A9⟩:=ih (pre++[o]) (pp++[p]) AC AD (by simp[A7]) (by rw[AJ];simp) (by rw[Z];simp) (by
   rw[aam,af4,List.range_succ,qO,AE];simp[aJ,A0,A_])
  refine⟨by rw[<-J];simp;congr 2;omega,by simp[D],λj Aa Ap V AK M AL=>?_⟩;rcases Nat.eq_or_lt_of_le V with rfl|V
  ·rw[A0]at M;rw[A_]at AL;cases M;cases AL;exact⟨A',Ao,by rw[AE];exact A8⟩
  ·exact A9 j Aa Ap (by simp;omega) (by simp at AK⊢;omega) M AL
theorem V6{P:Program}{S0 S1:St}{φ0:bP}{G:Fr}{w0:World}{Q:Exit->Act->World->Prop}{H:Mem->Prop}{init:List Oper}{ol:Oper}(A1:all=init++[ol])(AM:Gr all)(AN:H S0.mem){T:List bh}(AO:Cert P H all init S0 T S1)(Z:ps=T++[FG])(y:pK all ps=true)(Aq:(S0.mem.map (·.key)).Nodup)
 (AP:∀φ a w,Rel φ G S1 a w->bk φ0 S0.mem w0 φ S1.mem w->∀next:Act->World->Prop,(∀I w',Q .normal I w'->next I w')->if Region.wanted ol (yielded all.toArray a.tmps)then ol.wp P a w next Q else next (a.put ol.dst undef) w):
 ∀(fuel:Nat)(az:Array Bool) φ a w,az.size=all.length->az.getD init.length false=false->rT all (λi=>az.getD i false)->Rel φ G (aJ all ps S0 (jt all.length λi=>az.getD i false)) a w->bk φ0 S0.mem w0 φ (aJ all ps S0 (jt all.length λi=>az.getD i false)).mem w->
  ((List.range all.length).filter λi=>!az.getD i false).length<=fuel->wpAny P .any all.toArray Q fuel az a w:=by
 obtain⟨Ar,Ab,A8⟩:=Cert.at2 (ps:=ps) (S0:=S0) AO [] [] [ol] [FG] rfl (by simp[A1]) (by simp[Z]) rfl;have AQ:all.length=init.length+1:=by rw[A1];simp
 have Ac:ps.length=all.length:=by rw[Z,AQ];simp[Ab]
 have AR:all[init.length]?=some ol:=by rw[A1];simp
 have Ad:ps[init.length]?=some FG:=by rw[Z,<-Ab];simp
 have As:∀(j:Nat)(p:bh),ps[j]?=some p->∀e∈p.es,e.key∈p.ks:=λj p E=>by
  have B9:j<ps.length:=(D1.1 E).1;by_cases V:j<init.length
  ·exact (A8 j (all[j]'(by omega)) p (by simp) (by simpa using V) (by simp) E).1
  ·have:j=init.length:=by omega
   subst this;rw[Ad]at E;cases E;simp[FG]
 have At:∀j o,all[j]?=some o->∀p∈fo o,p<j:=λj o O=>(ff y O).choose_spec.2.1;have Au:∀l:List Nat,H (aJ all ps S0 l).mem:=by
  have key:∀(l:List Nat)(S:St),H S.mem->H (aJ all ps S l).mem:=by
   intro l;induction l with
   |nil=>exact λ_ h=>h
   |cons i l ih=>
    intro S h;have A0:aJ all ps S (i::l)=aJ all ps (aJ all ps S [i]) l:=by simp[aJ]
    rw[A0];refine ih _ ?_;simp only[aJ,ahQ,akt];split
    ·rename_i o p O E;simp only[bh.app,gm];have AF:i<all.length:=(D1.1 O).1;by_cases hi:i<init.length
     ·exact (A8 i o p (by simp) (by simpa using hi) O E).2.1 _ h
     ·have:i=init.length:=by omega
      subst this;rw[Ad]at E;cases E;exact h
    ·exact h
  exact λl=>key l S0 AN
 have first:∀(f:Nat->Bool)(n:Nat),n<=all.length->(∀i,i<n->f i=true)\/∃i,i<n/\f i=false/\∀Ae,Ae<i->f Ae=true:=by
  intro f n;induction n with
  |zero=>exact λ_=>.inl (λi hi=>by omega)
  |succ n ih=>
   intro AZ;rcases ih (by omega)with h|⟨i,J,D,A9⟩
   ·cases A2:f n with
    |true=>
     refine .inl λi hi=>?_;rcases Nat.lt_succ_iff_lt_or_eq.1 hi with AS|AS
     ·exact h i AS
     ·rw[AS];exact A2
    |false=>exact .inr ⟨n,by omega,A2,h⟩
   ·exact .inr ⟨i,by omega,D,A9⟩
 have Av:∀(az:Array Bool),az.size=all.length->Region.ready .any all.toArray az=[]->∀i,i<all.length->az.getD i false=true:=by
  intro az A3 A4;rcases first (λi=>az.getD i false) all.length (aad _)with h|⟨i,J,D,A9⟩
  ·exact h
  ·exfalso;have:i∈Region.ready .any all.toArray az:=by
    rw[mem_ready];refine⟨?_,all[i],by simp[J],λe he AT=>?_⟩
    ·have:i<az.size:=by omega
     simp only[abN,ahX this,af7]at D⊢;exact D
    ·obtain⟨p,_,E,_⟩:=ff y (show all[i]?=some all[i] by simp[J]);exact A9 e.on (E e.on (by
      simp only[fo,abV,afS];exact⟨e,⟨by simpa using he,AT⟩,rfl⟩))
   rw[A4]at this;cases this
 have Aw:∀(az:Array Bool),az.size=all.length->(∀i,i<all.length->az.getD i false=true)->Region.ready .any all.toArray az=[]:=by
  intro az A3 Ax;cases h:Region.ready .any all.toArray az with
  |nil=>rfl
  |cons i r=>
   exfalso;have hi:i∈Region.ready .any all.toArray az:=by rw[h];simp
   rw[mem_ready]at hi;obtain⟨AA,o,O,_⟩:=hi;have AF:i<all.length:=by
    have:=(acU.1 O).1;simpa using this
   have:=Ax i AF;have D:i<az.size:=by omega
   simp only[abN,ahX D,af7]at AA this;rw[AA]at this;cases this
 intro fuel;induction fuel with
 |zero=>
  intro az φ a w A3 AG AB Y A' A2;exfalso;have:init.length∈(List.range all.length).filter λi=>!az.getD i false:=afS.2 ⟨aca.2 (by omega),by simp only[AG];rfl⟩;have:=List.length_pos_of_mem this;omega
 |succ fuel ih=>
  intro az φ a w A3 AG AB Y A' A2;refine⟨λA4=>?_,λi hi=>?_⟩
  ·have:=Av az A3 A4 init.length (by omega);rw[AG]at this;cases this
  rw[mem_ready]at hi;obtain⟨AA,o,O,Ay⟩:=hi;have M:all[i]?=some o:=by simpa using O
  have AF:i<all.length:=(D1.1 M).1;have Af:i<az.size:=by omega
  have AH:az.getD i false=false:=by
   simp only[abN,ahX Af,af7]at AA⊢;exact AA
  have AU:∀k∈fo o,az.getD k false=true:=by
   intro k A5;simp only[fo,abV,afS]at A5;obtain⟨e,⟨he,AT⟩,rfl⟩:=A5;exact Ay e (by simpa using he) AT
  have AI:(az.setIfInBounds i true).getD i false=true:=by simp[Af]
  have A6:∀k,k≠i->(az.setIfInBounds i true).getD k false=az.getD k false:=λk A5=>getD_set_ne false (ake A5);by_cases Ag:i=init.length
  ·subst Ag;rw[AR]at M;cases M;have Ah:∀k,k<init.length->az.getD k false=true:=by
    intro k AV;have Az:k∈(iI all []).getD init.length []:=by
     have:=AM k (by omega);rw[AQ]at this;simpa using this
    exact (lJ (L:=λi=>az.getD i false=true) At (λj o O A2=>AB j o O A2) init.length ⟨ol,AR⟩ k Az).2 (λAa Ai=>by rw[AR]at Ai;cases Ai;exact AU)
   have A7:(jt all.length λi=>az.getD i false)=List.range init.length:=by
    rw[jt,AQ,List.range_succ,akL];have A0:(List.range init.length).filter (λi=>az.getD i false)=List.range init.length:=by
     rw[List.filter_eq_self];intro k AV;exact Ah k (aca.1 AV)
    rw[A0];simp only[List.filter_cons,List.filter_nil];rw[AH];simp
   have B':aJ all ps S0 (List.range init.length)=S1:=by simpa using Ar
   rw[A7,B']at Y A';have U:=AP φ a w Y A' (wpAny P .any all.toArray Q fuel (az.setIfInBounds init.length true)) (λI w' Aj=>by
    have A4:=Aw (az.setIfInBounds init.length true) (by simpa using A3) (λk AV=>by
     by_cases W:k=init.length
     ·subst W;exact AI
     ·rw[A6 k W];exact Ah k (by omega))
    cases fuel with
    |zero=>exact⟨A4,Aj⟩
    |succ fuel=>exact⟨λ_=>Aj,λi hi=>by rw[A4]at hi;cases hi⟩)
   unfold wpOp;rw[O];simp only
   split at U
   ·rename_i hw;rw[aat hw];exact .inl U
   ·rename_i hw;rw[aab hw];exact U
  ·have B0:i<init.length:=by omega
   obtain⟨p,E,_⟩:=ff y M;obtain⟨BA,_,B1⟩:=A8 i o p (by simp) (by simpa using B0) M E;have B2:=tO (S:=S0) Ac y AB M E AH AU;have heq:=AW (S:=S0) (f:=λi=>az.getD i false) (g:=λk=>(az.setIfInBounds i true).getD k false) Ac y AB As Aq M E AH AI A6;have B3:rT all (λk=>(az.setIfInBounds i true).getD k false):=by
    intro k ok AX B4 x Ak;by_cases Al:x=i
    ·subst Al;exact AI
    ·show (az.setIfInBounds i true).getD x false=true;rw[A6 x Al];by_cases W:k=i
     ·subst W;rw[M]at AX;cases AX;exact AU x Ak
     ·exact AB k ok AX ((A6 k W).symm.trans B4) x Ak
   have B5:((List.range all.length).filter λk=>!(az.setIfInBounds i true).getD k false).length<=fuel:=by
    have J:(List.range all.length).filter (λk=>!(az.setIfInBounds i true).getD k false)=((List.range all.length).filter λk=>!az.getD k false).filter (λk=>k != i):=by
     rw[akG];refine akY λk _=>?_;by_cases W:k=i
     ·subst W;rw[AI];simp
     ·rw[A6 k W];simp[W]
    have B6:i∈(List.range all.length).filter λk=>!az.getD k false:=afS.2 ⟨aca.2 AF,by simp[AH]⟩;rw[J];have:(((List.range all.length).filter λk=>!az.getD k false).filter (λk=>k != i)).length<((List.range all.length).filter λk=>!az.getD k false).length:=by
     rw[ans];exact⟨i,B6,by simp⟩
    omega
   have U:=B1 _ B2 (Au _) φ G a w Y (wpAny P .any all.toArray Q fuel (az.setIfInBounds i true)) Q (λφ' I w' B7 A5=>
    ih _ φ' I w' (by simpa using A3) (by rw[A6 _ (ake Ag)];exact AG) B3 (B7.eqv heq) (by rw[<-heq.mem];exact A'.trans A5) B5)
   unfold wpOp;rw[O];simp only
   split at U
   ·rename_i hw;rw[aat hw];exact .inl U
   ·rename_i hw;rw[aab hw];exact U
end
theorem QI{P:Program}{S S1:St}{id:Nat}{ops init:List Oper}{ol:Oper}{T:List bh}{H:Mem->Prop}(A1:ops=init++[ol])(AM:Gr ops)(AN:H S.mem)(hm:P.follows .mixedOrders=true)(AO:Cert P H ops init S T S1)(y:pK ops (T++[FG])=true){φ G a w}(Y:Rel φ G S a w){Q:Exit->Act->World->Prop}
 (AP:∀φ' I w',Rel φ' G S1 I w'->bk φ S.mem w φ' S1.mem w'->∀next:Act->World->Prop,(∀I w',Q .normal I w'->next I w')->if Region.wanted ol (yielded ops.toArray I.tmps)then ol.wp P I w' next Q else next (I.put ol.dst undef) w'):(Code.region id ops.toArray true).wp P Q a w:=by
 refine wp_region_any hm ?_;have B8:Rel φ G S a {w with drawn:=w.drawn+1}:=Y.grow (λ_ _=>rfl) (aad _);have An:(jt ops.length λi=>(Array.replicate ops.length false).getD i false)=[]:=by
  rw[jt,akk];intro i hi;simp[abN,aca.1 hi]
 refine V6 (S0:=S) (φ0:=φ) (w0:=w) (G:=G) A1 AM AN AO rfl y Y.mem.nodup AP _ _ φ a _ (by simp) ?_ ?_ ?_ ?_ ?_
 ·simp only[abN];rw[A1];simp
 ·intro j o _ V;exfalso;simp only[abN]at V;by_cases h:j<ops.length
  ·simp[h]at V
  ·simp[h]at V
 ·simp only[af2];rw[An];exact B8
 ·simp only[af2];rw[An];exact bk.grow (λ_ _=>rfl) (aad _) rfl rfl rfl
 ·simp only[af2];exact akm (List.length_filter_le _ _) (by simp)
def hZ:Mem->Nat
 |[]=>0
 |e::r=>e.ar+hZ r
def hP:List bh->Nat
 |[]=>0
 |p::r=>hZ p.es+hP r
def lL(N:Nat):Mem->Mem
 |[]=>[]
 |e::r=>(match decide (100<=e.key)with|true=>⟨e.key,N,.dead⟩|false=>e)::lL N r
def St.kill(S:St)(N:Nat):St:={S with env:=[],mem:=lL N S.mem}
def Jq:List cq->Bool
 |[]=>true
 |e::r=>decide (100<=e.key)&&Jq r
def CU(ps:List bh):List Nat->Bool
 |[]=>true
 |i::r=>(match ps[i]? with|some p=>Jq p.es|none=>false)&&CU ps r
theorem CV:∀{m:Mem}{e:cq},e∈m->e.ar<=hZ m
 |_::r,e,h=>by
  rcases aaC.1 h with rfl|h
  ·simp only[hZ];omega
  ·have:=CV (m:=r) h;simp only[hZ];omega
theorem HX:∀{ps:List bh}{p:bh},p∈ps->hZ p.es<=hP ps
 |_::r,p,h=>by
  rcases aaC.1 h with rfl|h
  ·simp only[hP];omega
  ·have:=HX (ps:=r) h;simp only[hP];omega
theorem rU(N:Nat):∀m:Mem,(lL N m).map (·.key)=m.map (·.key)
 |[]=>rfl
 |e::r=>by
  simp only[lL,abR,rU N r];split<;>rfl
theorem uy{N:Nat}:∀{m:Mem}{e:cq},e∈lL N m->(∃Z∈m,100<=Z.key/\e=⟨Z.key,N,.dead⟩)\/(e∈m/\e.key<100)
 |Z::r,e,h=>by
  simp only[lL,aaC]at h;rcases h with h|h
  ·by_cases U:100<=Z.key
   ·simp only[U,decide_true]at h;exact .inl ⟨Z,by simp,U,h⟩
   ·simp only[U,decide_false]at h;subst h;exact .inr ⟨by simp,by omega⟩
  ·rcases uy h with ⟨AD,E,M,A2⟩|⟨E,M⟩
   ·exact .inl ⟨AD,afT _ E,M,A2⟩
   ·exact .inr ⟨afT _ E,M⟩
theorem CW(N:Nat)(k:Nat):∀m:Mem,Mem.get (lL N m) k=(Mem.get m k).map λe=>match decide (100<=e.key)with|true=>⟨e.key,N,.dead⟩|false=>e
 |[]=>rfl
 |e::r=>by
  have AD:(match decide (100<=e.key)with|true=>(⟨e.key,N,.dead⟩:cq)|false=>e).key=e.key:=by split<;>rfl
  simp only[lL,Mem.get,AD];split
  ·rfl
  ·exact CW N k r
def rV(φ:bP)(N:Nat):bP:=λk=>match φ k with
 |some L=>some (match decide (100<=k)with|true=>{L with ar:=N}|false=>L)
 |none=>none
theorem rW{φ:bP}{N k:Nat}(h:k<100):rV φ N k=φ k:=by
 unfold rV;have:decide (100<=k)=false:=by simp;omega
 rw[this];cases φ k<;>rfl
theorem KB{φ:bP}{N k:Nat}{L:Loc}(h:100<=k)(I:φ k=some L):rV φ N k=some {L with ar:=N}:=by
 unfold rV;have:decide (100<=k)=true:=by simp;omega
 rw[this,I]
theorem aip{φ:bP}{G:Fr}{S:St}{a:Act}{w:World}{N:Nat}(h:Rel φ G S a w)(AP:∀e∈S.mem,e.ar<N):
 Rel (rV φ N) G (S.kill N) a w/\bk φ S.mem w (rV φ N) (S.kill N).mem w:=by
 have hle:φ.le (rV φ N):=by
  intro k L I;by_cases U:100<=k
  ·obtain⟨e,he,rfl⟩:=abV.1 (h.mem.sA k L I);obtain⟨L',AG,Ae,_⟩:=h.mem.fB e he;rw[I]at AG;cases AG;have:=AP e he;exact⟨_,KB U I,by simp only;omega,λhh=>by simp only at hh;omega⟩
  ·exact⟨L,by rw[rW (by omega)];exact I,aad _,λ_=>rfl⟩
 have AQ:∀b,jQ (rV φ N) (lL N S.mem) b->jQ φ S.mem b:=by
  rintro b ⟨e,he,L,I,H⟩;rcases uy he with ⟨Z,V,E,rfl⟩|⟨V,E⟩
  ·exact H.elim
  ·rw[rW E]at I;exact⟨e,V,L,I,H⟩
 have Af:∀b,Fo G (rV φ N) (lL N S.mem) b->Fo G φ S.mem b:=λb=>Or.imp id (AQ b);have U:bk φ S.mem w (rV φ N) (S.kill N).mem w:=⟨hle,λ_ _ _=>rfl,λb _ T=>AQ b T,aad _,rfl,rfl,rfl⟩;refine⟨⟨h.size,h.defers,(λt x AM=>nomatch AM),⟨?_,?_,?_,?_,?_,h.mem.bound⟩,h.mD.mono (λ_ _ _=>rfl) (aad _) (λb _ T=>Af b T)⟩,U⟩
 ·show ((lL N S.mem).map (·.key)).Nodup;rw[rU];exact h.mem.nodup
 ·intro k L I;show k∈(lL N S.mem).map (·.key);rw[rU];unfold rV at I;cases J:φ k with
  |none=>rw[J]at I;cases I
  |some Aw=>exact h.mem.sA k Aw J
 ·intro e he;rcases uy he with ⟨Z,V,E,rfl⟩|⟨V,E⟩
  ·obtain⟨L,I,_,_⟩:=h.mem.fB Z V;exact⟨_,KB E I,rfl,trivial⟩
  ·obtain⟨L,I,Ae,Ax⟩:=h.mem.fB e V;exact⟨L,by rw[rW E];exact I,Ae,Ax.mono hle (λ_ _ _=>rfl) (aad _) (λb _ T=>Af b T) (λ_ _=>rfl)⟩
 ·rintro e he e' Ay L L' I AG ⟨b,H,O⟩;rcases uy he with ⟨Z,V,E,rfl⟩|⟨V,E⟩
  ·exact H.elim
  ·rcases uy Ay with ⟨AD,M,A2,rfl⟩|⟨M,A2⟩
   ·exact O.elim
   ·rw[rW E]at I;rw[rW A2]at AG;exact h.mem.apart e V e' M L L' I AG ⟨b,H,O⟩
 ·intro b T;exact h.mem.mC b (AQ b T)
def En(P:Program)(all:List Oper)(S:St)(o:Oper)(p:bh)(t:TypeId)(x:D):Prop:=
 ∀A6,mz all o p.ks A6 S->∀φ G a w,Rel φ G A6 a w->∀(next:Act->World->Prop)(R:Exit->Act->World->Prop),
  (∀φ' A' w' v,Rel φ' G {A6 with mem:=bH A6.mem p.es} A' w'->bk φ A6.mem w φ' (bH A6.mem p.es) w'->aQ w' (Fo G φ' (bH A6.mem p.es)) x v->R (.panic [{v:=.iface t v,recovered:=false}]) A' w')->
  if Region.wanted o (yielded all.toArray a.tmps)then o.wp P a w next R else next (a.put o.dst undef) w
section
variable {all:List Oper} {ps:List bh}
theorem V7{m:Mem}{x e:cq}(h:e∈Mem.set m x):e∈m\/e=x:=by
 induction m with
 |nil=>exact .inl h
 |cons y r ih=>
  simp only[Mem.set]at h;split at h
  ·rcases aaC.1 h with h|h
   ·exact .inr h
   ·exact .inl (afT _ h)
  ·rcases aaC.1 h with h|h
   ·exact .inl (by simp[h])
   ·rcases ih h with h|h
    ·exact .inl (afT _ h)
    ·exact .inr h
theorem CX:∀{es:List cq}{m:Mem}{e:cq},e∈bH m es->e∈m\/e∈es
 |[],m,e,h=>.inl h
 |x::r,m,e,h=>by
  have E:e∈bH (Mem.set m x) r:=h;rcases CX E with h|h
  ·rcases V7 h with h|h
   ·exact .inl h
   ·exact .inr (by simp[h])
  ·exact .inr (afT _ h)
theorem HY(B:Nat)(Ag:∀p∈ps,∀e∈p.es,e.ar<B):∀(l:List Nat)(S:St),(∀e∈S.mem,e.ar<B)->∀e∈(aJ all ps S l).mem,e.ar<B
 |[],S,h=>h
 |i::l,S,h=>by
  have AD:aJ all ps S (i::l)=aJ all ps (aJ all ps S [i]) l:=by simp[aJ]
  rw[AD];refine HY B Ag l _ ?_;simp only[aJ,ahQ,akt];split
  ·rename_i o p H J;simp only[bh.app,gm];intro e he;rcases CX he with he|he
   ·exact h e he
   ·exact Ag p (aay J) e he
  ·exact h
variable {S:St} {f:Nat->Bool}
theorem QJ(AH:ps.length=all.length)(A0:pK all ps=true)(W:rT all f){j:Nat}{o:Oper}(H:all[j]?=some o)(AR:f j=false)(A7:∀i∈fo o,f i=true)
 (AS:∀i p,ps[i]?=some p->i≠j->i∉(iI all []).getD j []->j∉(iI all []).getD i []->∀e∈p.es,100<=e.key) {k:Nat} (U:k<100):
 Mem.get (aJ all ps S (jt all.length f)).mem k=Mem.get (aJ all ps S (List.range j)).mem k:=by
 have Az:j<all.length:=(D1.1 H).1;have AI:∀j o,all[j]?=some o->∀p∈fo o,p<j:=λj o H=>(ff A0 H).choose_spec.2.1;have Ah:∀i∈(iI all []).getD j [],i<j/\f i=true:=λi hi=>by
  obtain⟨E,M⟩:=lJ (L:=λi=>f i=true) AI (λj o H Y=>W j o H Y) j ⟨o,H⟩ i hi;exact⟨E,M λAi O=>by rw[H]at O;cases O;exact A7⟩
 have AT:∀i,f i=true->i<all.length->j∉(iI all []).getD i []:=by
  intro i B' AE A8;obtain⟨A3,AJ⟩:∃A3,all[i]?=some A3:=⟨all[i],by simp[AE]⟩;have:=(lJ (L:=λi=>f i=true) AI (λj o H Y=>W j o H Y) i ⟨A3,AJ⟩ j A8).2 (λAi O=>by rw[AJ]at O;cases O;exact W i A3 AJ B');simp[AR]at this
 let q:Nat->Bool:=λi=>(iI all []).getD j [] |>.contains i
 have AU:∀i,q i=true↔i∈(iI all []).getD j []:=λi=>by simp[q]
 have B0:(jt all.length f).filter q=(List.range j).filter q:=by
  rw[CN Az AR,akL,akG,akG];have M:(List.range' (j+1) (all.length-j-1)).filter (λa=>q a&&f a)=[]:=by
   rw[akk];intro i hi;have:=(aoB.1 hi).1;simp only[Ds,not_and];intro A4;have:=(Ah i ((AU i).1 A4)).1;omega
  rw[M,afV];refine akY λi hi=>?_;cases A4:q i with
  |false=>simp
  |true=>simp[(Ah i ((AU i).1 A4)).2]
 have B1:∀i p,ps[i]?=some p->i≠j->q i=false->j∉(iI all []).getD i []->k∉p.es.map (·.key):=by
  intro i p J A9 A4 A8 A1;obtain⟨e,he,rfl⟩:=abV.1 A1;have:=AS i p J A9 (λh=>by rw[(AU i).2 h]at A4;cases A4) A8 e he;omega
 have side:∀(i:Nat)(p:bh),i≠j->j∉(iI all []).getD i []->ps[i]?=some p->k∈p.es.map (·.key)->q i=true:=by
  intro i p A9 A8 J A1;cases A4:q i with
  |true=>rfl
  |false=>exact absurd A1 (B1 i p J A9 A4 A8)
 rw[pL k q (jt all.length f) S S (λi hi p J A1=>by
  have AV:=afS.1 hi;have AE:=aca.1 AV.1;refine side i p (λh=>by subst h;simp[AR]at AV) (AT i AV.2 AE) J A1) rfl rfl,
  pL k q (List.range j) S S (λi hi p J A1=>by
   have AE:=aca.1 hi;refine side i p (by omega) (λh=>?_) J A1;obtain⟨A3,AJ⟩:∃A3,all[i]?=some A3:=⟨all[i]'(by omega),by simp[show i<all.length by omega]⟩
   have:=(lJ (L:=λ_=>True) AI (λ_ _ _ _ _ _=>trivial) i ⟨A3,AJ⟩ j h).1;omega) rfl rfl,B0]
theorem aac{P:Program}{S0 S1:St}{φ0:bP}{G:Fr}{w0:World}{Q:Exit->Act->World->Prop}{j:Nat}{Aj:Oper}{AA:bh}{t:TypeId}{x:D}
 (AH:ps.length=all.length) (A0:pK all ps=true) (Ak:(S0.mem.map (·.key)).Nodup) (B2:∀(i:Nat)(p:bh),ps[i]?=some p->∀e∈p.es,e.key∈p.ks)
 (B3:∀i o p,all[i]?=some o->ps[i]?=some p->i≠j->j∉(iI all []).getD i []->mA P all (aJ all ps S0 (List.range i)) o p)
 (AN:all[j]?=some Aj) (Al:ps[j]?=some AA) (B4:En P all (aJ all ps S0 (List.range j)) Aj AA t x)
 (AS:∀i p,ps[i]?=some p->i≠j->i∉(iI all []).getD j []->j∉(iI all []).getD i []->∀e∈p.es,100<=e.key)
 (B5:S1.n=S0.n) (B6:S1.gl=S0.gl) (B7:S1.env=[]) (B8:S1.mem=lL (hZ S0.mem+hP ps+1) (bH (aJ all ps S0 (List.range j)).mem AA.es))
 (B9:∀φ' A' w' v,Rel φ' G S1 A' w'->bk φ0 S0.mem w0 φ' S1.mem w'->aQ w' (Fo G φ' S1.mem) x v->Q (.panic [{v:=.iface t v,recovered:=false}]) A' w'):
 ∀(fuel:Nat)(az:Array Bool) φ a w,az.size=all.length->rT all (λi=>az.getD i false)->az.getD j false=false->Rel φ G (aJ all ps S0 (jt all.length λi=>az.getD i false)) a w->bk φ0 S0.mem w0 φ (aJ all ps S0 (jt all.length λi=>az.getD i false)).mem w->
  ((List.range all.length).filter λi=>!az.getD i false).length<=fuel->wpAny P .any all.toArray Q fuel az a w:=by
 have An:j<all.length:=(D1.1 AN).1;have AI:∀j o,all[j]?=some o->∀p∈fo o,p<j:=λj o H=>(ff A0 H).choose_spec.2.1;have first:∀(f:Nat->Bool)(n:Nat),n<=all.length->(∀i,i<n->f i=true)\/∃i,i<n/\f i=false/\∀Ao,Ao<i->f Ao=true:=by
  intro f n;induction n with
  |zero=>exact λ_=>.inl (λi hi=>by omega)
  |succ n ih=>
   intro BO;rcases ih (by omega)with h|⟨i,E,M,A2⟩
   ·cases Y:f n with
    |true=>
     refine .inl λi hi=>?_;rcases Nat.lt_succ_iff_lt_or_eq.1 hi with AX|AX
     ·exact h i AX
     ·rw[AX];exact Y
    |false=>exact .inr ⟨n,by omega,Y,h⟩
   ·exact .inr ⟨i,by omega,M,A2⟩
 have done:∀(az:Array Bool),az.size=all.length->az.getD j false=false->Region.ready .any all.toArray az=[]->False:=by
  intro az AO AB BA;rcases first (λi=>az.getD i false) all.length (aad _)with h|⟨i,E,M,A2⟩
  ·have:=h j An;simp only[AB]at this;cases this
  ·have:i∈Region.ready .any all.toArray az:=by
    rw[mem_ready];refine⟨?_,all[i],by simp[E],λe he T=>?_⟩
    ·have:i<az.size:=by omega
     simp only[abN,ahX this,af7]at M⊢;exact M
    ·obtain⟨p,_,J,_⟩:=ff A0 (show all[i]?=some all[i] by simp[E]);exact A2 e.on (J e.on (by
      simp only[fo,abV,afS];exact⟨e,⟨by simpa using he,T⟩,rfl⟩))
   rw[BA]at this;cases this
 intro fuel;induction fuel with
 |zero=>
  intro az φ a w AO W AB AY U Y;exfalso;have:j∈(List.range all.length).filter λi=>!az.getD i false:=afS.2 ⟨aca.2 An,by simp[AB]⟩;have:=List.length_pos_of_mem this;omega
 |succ fuel ih=>
  intro az φ a w AO W AB AY U Y;refine⟨λh=>(done az AO AB h).elim,λi hi=>?_⟩;rw[mem_ready]at hi;obtain⟨V,o,H,BB⟩:=hi;have O:all[i]?=some o:=by simpa using H
  have AE:i<all.length:=(D1.1 O).1;have Ap:i<az.size:=by omega
  have AK:az.getD i false=false:=by
   simp only[abN,ahX Ap,af7]at V⊢;exact V
  have A7:∀k∈fo o,az.getD k false=true:=by
   intro k A5;simp only[fo,abV,afS]at A5;obtain⟨e,⟨he,T⟩,rfl⟩:=A5;exact BB e (by simpa using he) T
  by_cases A9:i=j
  ·subst A9;rw[AN]at O;cases O;have AZ:=tO (S:=S0) AH A0 W AN Al AK A7;have AC:=B4 _ AZ φ G a w AY (wpAny P .any all.toArray Q fuel (az.setIfInBounds i true)) Q (λφ' A' w' v A_ A5 AP=>by
    have Aq:∀p∈ps,∀e∈p.es,e.ar<hZ S0.mem+hP ps+1:=by
     intro p J e he;have E:=CV he;have M:=HX J;omega
    have BC:∀e∈S0.mem,e.ar<hZ S0.mem+hP ps+1:=by
     intro e he;have E:=CV he;omega
    have BD:∀e∈bH (aJ all ps S0 (jt all.length λi=>az.getD i false)).mem AA.es,e.ar<hZ S0.mem+hP ps+1:=by
     intro e he;rcases CX he with he|he
     ·exact HY _ Aq _ _ BC e he
     ·exact Aq AA (aay Al) e he
    obtain⟨Ar,Aa⟩:=aip A_ BD;have Ab:lL (hZ S0.mem+hP ps+1) (bH (aJ all ps S0 (jt all.length λi=>az.getD i false)).mem AA.es)=S1.mem:=by
     rw[B8];refine Mem.ext ?_ ?_ λk=>?_
     ·rw[rU,mg,fq];exact Ak
     ·simp only[rU,mg,fq]
     ·rw[CW,CW];by_cases BE:k<100
      ·congr 1;exact qN _ _ _ k (by simp only[fq]) (.inr (QJ AH A0 W AN AK A7 AS BE))
      ·have As:∀(m:Mem),(Mem.get m k).map (λe:cq=>match decide (100<=e.key)with|true=>(⟨e.key,hZ S0.mem+hP ps+1,.dead⟩:cq)|false=>e)=if k∈m.map (·.key)then some ⟨k,hZ S0.mem+hP ps+1,.dead⟩else none:=by
        intro m;cases At:Mem.get m k with
        |none=>
         rw[aab]
         ·rfl
         ·intro A1;obtain⟨e,he,BF⟩:=abV.1 A1;have:∀(m:Mem),e∈m->Mem.get m k≠none:=by
           intro m;induction m with
           |nil=>intro h;cases h
           |cons y r BG=>
            intro h;simp only[Mem.get];split
            ·simp
            ·rename_i BH;rcases aaC.1 h with rfl|h
             ·exact absurd BF BH
             ·exact BG h
          exact this m he At
        |some e=>
         obtain⟨E,M⟩:=Mem.get_mem At;have:decide (100<=e.key)=true:=by simp;omega
         simp only[ah3,this];rw[aat (M▸ab0 E),M]
       rw[As,As];simp only[mg,fq]
    have BI:({(aJ all ps S0 (jt all.length λi=>az.getD i false))with mem:=bH (aJ all ps S0 (jt all.length λi=>az.getD i false)).mem AA.es}:St).kill (hZ S0.mem+hP ps+1)=S1:=by
     have BJ:(aJ all ps S0 (jt all.length λi=>az.getD i false)).n=S1.n:=by rw[qZ,B5]
     have a2:(aJ all ps S0 (jt all.length λi=>az.getD i false)).gl=S1.gl:=by rw[oW,B6]
     unfold St.kill;simp only[Ab,BJ,a2];rw[<-B7]
    rw[BI]at Ar Aa;refine B9 _ A' w' v Ar (U.trans (A5.trans Aa)) (AP.mono (λ_ _ _=>rfl) (aad _) (λb T=>Or.imp id (Aa.own b T))))
   unfold wpOp;rw[H];simp only
   split at AC
   ·rename_i hw;rw[aat hw];exact .inl AC
   ·rename_i hw;rw[aab hw];exact AC
  ·obtain⟨p,J,_⟩:=ff A0 O;have AT:j∉(iI all []).getD i []:=by
    intro A8;have:=(lJ (L:=λi=>az.getD i false=true) AI (λj o H Y=>W j o H Y) i ⟨o,O⟩ j A8).2 (λAi Au=>by rw[O]at Au;cases Au;exact A7);rw[AB]at this;cases this
   have BK:=B3 i o p O J A9 AT;have AZ:=tO (S:=S0) AH A0 W O J AK A7;have Ac:(az.setIfInBounds i true).getD i false=true:=by simp[Ap]
   have AL:∀k,k≠i->(az.setIfInBounds i true).getD k false=az.getD k false:=λk A5=>getD_set_ne false (ake A5);have heq:=AW (S:=S0) (f:=λi=>az.getD i false) (g:=λk=>(az.setIfInBounds i true).getD k false) AH A0 W B2 Ak O J AK Ac AL;have BL:rT all (λk=>(az.setIfInBounds i true).getD k false):=by
    intro k ok Ad BM x AM;by_cases Av:x=i
    ·subst Av;exact Ac
    ·show (az.setIfInBounds i true).getD x false=true;rw[AL x Av];by_cases AF:k=i
     ·subst AF;rw[O]at Ad;cases Ad;exact A7 x AM
     ·exact W k ok Ad ((AL k AF).symm.trans BM) x AM
   have BN:((List.range all.length).filter λk=>!(az.setIfInBounds i true).getD k false).length<=fuel:=by
    have E:(List.range all.length).filter (λk=>!(az.setIfInBounds i true).getD k false)=((List.range all.length).filter λk=>!az.getD k false).filter (λk=>k != i):=by
     rw[akG];refine akY λk _=>?_;by_cases AF:k=i
     ·subst AF;rw[Ac];simp
     ·rw[AL k AF];simp[AF]
    have Ab:i∈(List.range all.length).filter λk=>!az.getD k false:=afS.2 ⟨aca.2 AE,by simp[AK]⟩;rw[E];have:(((List.range all.length).filter λk=>!az.getD k false).filter (λk=>k != i)).length<((List.range all.length).filter λk=>!az.getD k false).length:=by
     rw[ans];exact⟨i,Ab,by simp⟩
    omega
   have AC:=BK _ AZ φ G a w AY (wpAny P .any all.toArray Q fuel (az.setIfInBounds i true)) Q (λφ' A' w' A_ A5=>
    ih _ φ' A' w' (by simpa using AO) BL (by rw[AL j (λh=>A9 h.symm)];exact AB) (A_.eqv heq) (by rw[<-heq.mem];exact U.trans A5) BN)
   unfold wpOp;rw[H];simp only
   split at AC
   ·rename_i hw;rw[aat hw];exact .inl AC
   ·rename_i hw;rw[aab hw];exact AC
end
inductive Gh where
 |trim (k:Nat)
 |freeze (k:Nat)
 |jY (W j k sz:Nat)
 |AZ (k I:Nat)
 |ef (k I:Nat)
 |cls (k I:Nat)
 |shut (k:Nat)
 |uz (W j k:Nat)
abbrev bj:=FuncId->List AV->List aD->Option (Out×List (Nat×aD))
structure Ctx where
 P:Program
 gl:List (Nat×D)
 sN:FuncId->Nat->List Nat
 gh:FuncId->Nat->List Gh
 md:FuncId->Nat->Bool
 fp:FuncId->aA
 od:FuncId->Nat->List (List Nat)
 BZ:FuncId->Option (List AV->Option AV)
 fl:FuncId->Nat->List (Nat×Nat)
 ov:Option bj
def iK(P:Program)(g:FuncId):Bool:=
 match P.funcs[g]? with
 |some fn=>fn.body.isSome&&!(fn.name == "runtime.NumGoroutine")
 |none=>false
mutual
def pO:AV->List Nat
 | .vec _ _ _ _=>[]
 | .ptr k _ _=>[k]
 | .cS k _ _ _=>[k]
 | .agg cs=>wY cs
 | .fn _ cap=>nW cap
 | .aY vs=>wY vs
 |_=>[]
def wY:List AV->List Nat
 |[]=>[]
 |x::r=>pO x++wY r
end
mutual
def v8:AV->List Nat
 | .vec k _ _ _=>[k]
 | .agg cs=>wZ cs
 | .aY vs=>wZ vs
 |_=>[]
def wZ:List AV->List Nat
 |[]=>[]
 |x::r=>v8 x++wZ r
end
def mQ(mt:List Nat):Nat->List AV->List Nat
 |_,[]=>[]
 |i,x::r=>(match mt.contains i with|true=>kq x|false=>pO x)++mQ mt (i+1) r
def w9(mt:List Nat):Nat->List AV->List Nat
 |_,[]=>[]
 |i,x::r=>(match mt.contains i with|true=>[]|false=>v8 x)++w9 mt (i+1) r
structure gi where
 out:Out
 es:List cq
 ks:List Nat
def upO(ρ bs:List Nat):Out->Out
 | .ret x=>.ret (up ρ bs x)
 | .panic t x=>.panic t x
def CY:Out->Bool
 | .ret x=>eo x
 | .panic _ x=>ko x
def qp:List (Nat×aD)->Bool
 |[]=>true
 |(_,c)::r=>nL c&&qp r
def A0(m:Mem)(ρ:List Nat):List Nat->Bool
 |[]=>true
 |k::r=>(Mem.get m k).isSome&&!ρ.contains k&&A0 m ρ r
def gv(m:Mem)(U:Nat)(ρ B:List Nat):Option (Out×List (Nat×aD))->Option gi
 |some (out,V)=>
  if (decide (ρ.length<=V.length)&&A0 m ρ (List.range' (U+1) (V.length-ρ.length))&&(B.isEmpty||(CY out&&qp V)))=true then
   some ⟨upO (ρ++List.range' (U+1) (V.length-ρ.length)) (base m 0 ρ++base m 1 (List.range' (U+1) (V.length-ρ.length))) out,
    jX (ρ++List.range' (U+1) (V.length-ρ.length)) (base m 0 ρ++base m 1 (List.range' (U+1) (V.length-ρ.length))) 0 V,ρ++B++List.range' (U+1) (V.length-ρ.length)⟩
  else none
 |none=>none
def Jr(T:Nat)(V:List (Nat×aD)):Out->Out
 | .ret x=>.ret (vw (dW 0 V) (List.range T) (λ_=>true) (λ_ v=>v) x).norm
 | .panic t x=>.panic t x
def sZ(T:Nat)(b:Bool):Option (Out×List (Nat×aD))->Option (Out×List (Nat×aD))
 |some (out,V)=>if (b&&decide (T<V.length))=true then some (Jr T V out,fa (dW 0 V) (List.range T) (λ_=>true) (λ_ v=>v) 0 (List.range T))else some (out,V)
 |none=>none
def jb(rw:Bool)(m:Mem)(ρ B:List Nat):List AV->List AV
 |[]=>[]
 |y::r=>Fz rw (vw m ρ (λk=>B.contains k) ja y)::jb rw m ρ B r
def qP:List (Nat×aD)->List aD
 |[]=>[]
 |(_,c)::r=>c::qP r
def nY(E:bj)(m:Mem)(U:Nat)(g:FuncId)(Y:List AV)(rw:Bool)(ρ B:List Nat):Option gi:=
 gv m U ρ B (sZ ρ.length (Mem.get m (U+1)).isNone (E g (jb rw m ρ B Y) (qP (fa m ρ (λk=>B.contains k) ja 0 ρ))))
def nZ(E:bj)(m:Mem)(U:Nat)(g:FuncId)(Y:List AV)(mt ρ:List Nat):Option gi:=
 nY E m U g Y (mt.contains 1000) ρ ((w9 mt 0 Y).filter λk=>!ρ.contains k)
def eA(E:bj)(m:Mem)(U:Nat)(g:FuncId)(Y:List AV)(mt:List Nat):Option gi:=
 nZ E m U g Y mt (collect m 64 (mQ mt 0 Y) [])
def dD(S:St)(d:Option Nat):Option gi->Option (XE×St)
 |some ⟨.ret x,es,_⟩=>some (.normal,({S with mem:=bH S.mem es}:St).put d true x)
 |some ⟨.panic t x,es,_⟩=>some (.panic t x,{S with mem:=bH S.mem es})
 |none=>none
def dC(S:St):List Operand->List AV
 |[]=>[]
 |x::r=>(S.au x).2::dC S r
def Eo(n g:Nat):FuncId:=
 match decide (n<=g)with
 |true=>g-n
 |false=>g
def qb(g:FuncId):FuncId:=Eo vi g
def wa(n g:Nat)(Y A':List AV):List AV:=
 match decide (n<=g)with
 |true=>A'++Y
 |false=>Y++A'
def jC(g:FuncId)(Y A':List AV):List AV:=wa vi g Y A'
mutual
def eqD:D->D->Bool
 | .int k n,.int A6 A7=>decide (k=A6)&&decide (n=A7)
 | .bool b,.bool A8=>decide (b=A8)
 | .str s,.str AM=>decide (s=AM)
 | .list a,.list b=>Js a b
 | .agg a,.agg b=>Js a b
 | .Cf,.Cf=>true
 |_,_=>false
def Js:List D->List D->Bool
 |[],[]=>true
 |a::r,b::s=>eqD a b&&Js r s
 |_,_=>false
end
def Jt:AV->AV->Bool
 | .d x,.d y=>eqD x y
 | .ptr k v o,.ptr A6 AD AE=>decide (k=A6)&&(decide (v=AD)&&decide (o=AE))
 | .vec k v o n,.vec A6 AD AE A7=>decide (k=A6)&&(decide (v=AD)&&(decide (o=AE)&&decide (n=A7)))
 |_,_=>false
def Ep:List AV->List AV->Bool
 |[],[]=>true
 |a::r,b::s=>Jt a b&&Ep r s
 |_,_=>false
def CZ:aD->aD->Bool
 | .box a,.box b=>Ep a b
 | .vec n a,.vec A7 b=>decide (n=A7)&&Js a b
 |_,_=>false
def Mf(e:cq):Option cq->Bool
 |some x=>decide (x.ar=e.ar)&&CZ x.cont e.cont
 |none=>false
def ta(m:Mem):List cq->Bool
 |[]=>true
 |e::r=>Mf e (Mem.get m e.key)&&ta m r
def V9:Bool->gi->gi
 |true,c=>⟨c.out,[],c.ks⟩
 |false,c=>c
def A1:Bool->Mem->Option gi->Option gi
 |true,m,some c=>some (V9 (ta m c.es) c)
 |true,_,none=>none
 |false,_,r=>r
def cJ(X:Ctx)(E:bj)(S:St)(o:Oper)(args:List Operand):Bool×AV->Option gi
 |(true,.fn g A')=>if jV S args=true then A1 ((X.fp (qb g)).za.contains 2000) S.mem (eA E S.mem (keyOf o) (qb g) (jC g (dC S args) A') (X.fp (qb g)).za)else none
 |_=>none
def Gs(S:St):Bool×AV->Option (XE×St)
 |(true,.iA t d)=>some (.panic t d,S)
 |_=>none
def uA(X:Ctx)(E:bj)(S:St)(o:Oper):Option (XE×St):=
 match o.op with
 | .call {callee:=.value A9,args,..}=>dD S o.dst (cJ X E S o args.toList (S.au A9))
 | .panic x=>Gs S (S.au x)
 |_=>none
def jc(X:Ctx)(E:bj)(S:St)(o:Oper):dO->Option (XE×St)
 | .val c x=>if (iy S o&&c)=true then some (.normal,S.put o.dst true x)else none
 | .dq c x e=>if (iy S o&&c)=true then some (.normal,({S with mem:=Mem.set S.mem e}:St).put o.dst true x)else none
 | .no=>uA X E S o
def rA(X:Ctx)(E:bj)(S:St)(o:Oper)(b:Bool):dO->Option (XE×St)
 | .val c x=>if b=true->(iy S o&&c)=true then some (.normal,S.put o.dst b x)else none
 |r=>if b=true then jc X E S o r else some (.normal,S.put o.dst true .bu)
def St.cz(S:St)(d:Option Nat)(b:Bool):St:=S.put d true (.d (.bool b))
def nA(all:List Oper)(j:Nat):Option Nat:=
 match all[j]? with
 |some o=>o.dst
 |none=>none
inductive GV where
 |vu (t:Bool)
 |skip
 |bad
def gvD:D->GV
 | .bool t=>.vu t
 |_=>.bad
def gvT:List AV->GV
 |[]=>.skip
 |_::_=>.bad
def gvA:AV->GV
 | .d x=>gvD x
 | .aY vs=>gvT vs
 |_=>.bad
def rY:Option (Bool×AV)->GV
 |some (true,x)=>gvA x
 |_=>.bad
theorem NC{x:Option (Bool×AV)}{t:Bool}(h:rY x=.vu t):x=some (true,.d (.bool t)):=by
 rcases x with _|⟨g,y⟩
 ·cases h
 ·cases g
  ·cases h
  ·cases y with
   |d y=>cases y<;>simp_all [rY,gvA,gvD]
   |aY vs=>cases vs<;>simp_all [rY,gvA,gvT]
   |_=>cases h
theorem KC{x:Option (Bool×AV)}(h:rY x=.skip):x=some (true,.aY []):=by
 rcases x with _|⟨g,y⟩
 ·cases h
 ·cases g
  ·cases h
  ·cases y with
   |d y=>cases y<;>simp_all [rY,gvA,gvD]
   |aY vs=>cases vs<;>simp_all [rY,gvA,gvT]
   |_=>cases h
def pP(X:Ctx)(E:bj)(md:Bool)(all:List Oper)(S:St)(o:Oper):Option (XE×St):=
 match o.guard with
 |none=>jc X E S o (dy X.P S o)
 |some (j,Z)=>match rY (rP all S j)with
  | .vu t=>match md with
   |false=>rA X E S o (t == Z) (dy X.P S o)
   |true=>if (t == Z)=true then jc X E (S.cz (nA all j) Z) o (dy X.P (S.cz (nA all j) Z) o)else some (.normal,(S.cz (nA all j) (!Z)).put o.dst true (.aY []))
  | .skip=>some (.normal,S.put o.dst true (.aY []))
  | .bad=>none
def andThen(r:Option (XE×St))(k:St->Option (XE×St)):Option (XE×St):=
 match r with
 |some (.normal,S)=>k S
 |r=>r
def eW(X:Ctx)(E:bj)(md:Bool)(all:List Oper):List Oper->St->Option (XE×St)
 |[],S=>some (.normal,S)
 |o::r,S=>andThen (pP X E md all S o) (eW X E md all r)
def pQ(S:St)(o:Oper):Option gi->Option (St×bh)
 |some ⟨.ret x,es,ks⟩=>some ((⟨ks,es,true,x⟩:bh).app o S,⟨ks,es,true,x⟩)
 |_=>none
def lg(X:Ctx)(E:bj)(S:St)(o:Oper):Option (St×bh):=
 match o.op with
 | .call {callee:=.value A9,args,..}=>pQ S o (cJ X E S o args.toList (S.au A9))
 |_=>none
def eU(X:Ctx)(E:bj)(S:St)(o:Oper):dO->Option (St×bh)
 | .val c x=>if (iy S o&&c)=true then some (S.put o.dst true x,⟨ku S o,[],true,x⟩)else none
 | .dq c x e=>if (iy S o&&c&&(ku S o).contains e.key)=true then some (({S with mem:=Mem.set S.mem e}:St).put o.dst true x,⟨ku S o,[e],true,x⟩)else none
 | .no=>lg X E S o
def uB(X:Ctx)(E:bj)(S:St)(o:Oper)(b:Bool):dO->Option (St×bh)
 | .val c x=>if b=true->(iy S o&&c)=true then some (S.put o.dst b x,⟨ku S o,[],b,x⟩)else none
 |r=>if b=true then eU X E S o r else some (S.put o.dst true .bu,⟨[],[],true,.bu⟩)
def ej(X:Ctx)(E:bj)(md:Bool)(all:List Oper)(S:St)(o:Oper):Option (St×bh):=
 match o.guard with
 |none=>eU X E S o (dy X.P S o)
 |some (j,Z)=>match rY (rP all S j)with
  | .vu t=>match md with
   |false=>uB X E S o (t == Z) (dy X.P S o)
   |true=>if (t == Z)=true then eU X E (S.cz (nA all j) Z) o (dy X.P (S.cz (nA all j) Z) o)else some ((S.cz (nA all j) (!Z)).put o.dst true (.aY []),⟨[],[],true,.aY []⟩)
  | .skip=>some (S.put o.dst true (.aY []),⟨[],[],true,.aY []⟩)
  | .bad=>none
def A2(J:List bh)(r:Option (St×bh))(k:St->List bh->Option (XE×St)):Option (XE×St):=
 match r with
 |some (S,p)=>k S (p::J)
 |none=>none
structure KD where
 S:St
 t:TypeId
 x:D
 es:List cq
 ks:List Nat
def zc(S:St):Option gi->Option KD
 |some ⟨.panic t x,es,ks⟩=>some ⟨{S with mem:=bH S.mem es},t,x,es,ks⟩
 |_=>none
def ND(X:Ctx)(E:bj)(S:St)(o:Oper):Option KD:=
 match o.op with
 | .call {callee:=.value A9,args,..}=>zc S (cJ X E S o args.toList (S.au A9))
 |_=>none
def Gt(X:Ctx)(E:bj)(S:St)(o:Oper):dO->Option KD
 | .no=>ND X E S o
 |_=>none
def mR(X:Ctx)(E:bj)(S:St)(o:Oper):Option KD:=
 match o.guard with
 |none=>Gt X E S o (dy X.P S o)
 |some _=>none
def o7(X:Ctx)(md:Bool)(all:List Oper)(AB:List Nat):Nat->List Oper->St->List bh->Option (List bh)
 |_,[],_,J=>some J.reverse
 |i,o::r,S,J=>match AB.contains i with
  |true=>match ej X (λ_ _ _=>none) md all S o with
   |some (S1,p)=>o7 X md all AB (i+1) r S1 (p::J)
   |none=>none
  |false=>o7 X md all AB (i+1) r (S.put o.dst false .bu) (⟨[],[],false,.bu⟩::J)
def Wa(M:Nat×List (List Nat))(AB:List Nat)(t:TypeId)(x:D)(S:St):Option (List bh)->Option (XE×St)
 |some ps=>if (oZ M.2 ps&&CU ps AB)=true then some (.panic t x,S.kill (M.1+hP ps+1))else none
 |none=>none
def Gu(X:Ctx)(md:Bool)(M:Nat×List (List Nat))(all r:List Oper)(d:Option Nat)(J:List bh)(q:KD):Option (XE×St):=
 Wa M (M.2.getD J.length []) q.t q.x q.S (o7 X md all (M.2.getD J.length []) (J.length+1) r (q.S.put d true .bu) (⟨q.ks,q.es,true,.bu⟩::J))
def oe(X:Ctx)(E:bj)(md:Bool)(M:Nat×List (List Nat))(all r:List Oper)(S:St)(o:Oper)(J:List bh)(k:St->List bh->Option (XE×St)):Option KD->Option (XE×St)
 |some q=>Gu X md M all r o.dst J q
 |none=>A2 J (ej X E md all S o) k
def gw(X:Ctx)(E:bj)(md:Bool)(M:Nat×List (List Nat))(all:List Oper):List Oper->St->List bh->Option (XE×St)
 |[],S,J=>if oZ M.2 J.reverse=true then some (.normal,S)else none
 |o::r,S,J=>oe X E md M all r S o J (gw X E md M all r) (mR X E S o)
structure Cl where
 k:Nat
 v:Nat
 j:Nat
 x:AV
 vv:Bool
def FH:AV->AV->Bool
 | .vec a b c d,.vec AG A8 AH AN=>decide (a=AG)&&decide (b=A8)&&decide (c=AH)&&decide (d=AN)
 | .ptr a b c,.ptr AG A8 AH=>decide (a=AG)&&decide (b=A8)&&decide (c=AH)
 | .d (.int k n),.d (.int A6 A7)=>decide (k=A6)&&decide (n=A7)
 | .d (.bool b),.d (.bool A8)=>decide (b=A8)
 |_,_=>false
def fB(m:Mem):List (Nat×Nat)->Option (List Cl)
 |[]=>some []
 |(k,j)::r=>match Mem.get m k,fB m r with
  |some ⟨_,v,.box cs⟩,some l=>match cs[j]? with
   |some x=>some (⟨k,v,j,x,false⟩::l)
   |none=>none
  |some ⟨_,v,.vv aj (some x)⟩,some l=>some (⟨k,v,aj.length,x,true⟩::l)
  |_,_=>none
def KF(q:Cl):Option AV->Bool
 |some x=>FH x q.x
 |none=>false
def HZ(q:Cl)(v:Nat):aD->Bool
 | .box cs=>!q.vv&&decide (v=q.v)&&KF q cs[q.j]?
 | .vv aj (some x)=>q.vv&&decide (v=q.v)&&decide (aj.length=q.j)&&FH x q.x
 |_=>false
def ze(e:cq):List Cl->Bool
 |[]=>true
 |q::r=>(match decide (e.key=q.k)with|true=>HZ q e.ar e.cont|false=>true)&&ze e r
def rZ(H:List Cl):List cq->Bool
 |[]=>true
 |e::r=>ze e H&&rZ H r
def qQ(b:Bool)(k v j:Nat):List Cl->Option AV
 |[]=>none
 |q::r=>match decide (b=q.vv)&&decide (k=q.k)&&decide (v=q.v)&&decide (j=q.j)with|true=>some q.x|false=>qQ b k v j r
def tc(b:Bool)(k v:Nat):List Cl->Bool
 |[]=>false
 |q::r=>match decide (b=q.vv)&&decide (k=q.k)&&decide (v=q.v)with|true=>true|false=>tc b k v r
def yj(P:Program)(H:List Cl)(t:TypeId):Bool×AV->Option AV
 |(true,.ptr k v off)=>match (tk P t).agg,decide (tk P t=.other)with
  |false,false=>qQ false k v off H
  |_,_=>none
 |(true,.cS k v i j)=>match (tk P t).agg,decide (tk P t=.other),decide (j=0)with
  |false,false,true=>qQ true k v i H
  |_,_,_=>none
 |_=>none
def yk(H:List Cl):Option Nat->Bool×AV->Option AV
 |some n,(true,.ptr k v off)=>match tc false k v H with|true=>some (.ptr k v (off+n))|false=>none
 |_,_=>none
def yl(H:List Cl):Bool×AV->Option AV
 |(true,.ptr k v off)=>match tc false k v H with|true=>some (.ptr k v off)|false=>none
 |_=>none
def ym(P:Program)(H:List Cl):TK->Bool×AV->Bool×AV->Option AV
 | .slice e,(true,.vec k v off len),(true,.d (.int _ n))=>match decide (gr P e=some 1),tc true k v H,decide (0<=n),decide (n.toNat<len)with
  |true,true,true,true=>some (.cS k v (off+n.toNat) 0)
  |_,_,_,_=>none
 |_,_,_=>none
def qR(P:Program)(H:List Cl)(S:St):Op->Option AV
 | .load t x=>yj P H t (S.au x)
 | .fieldAddr s x f=>yk H (AF P s f) (S.au x)
 | .nilCheck x=>yl H (S.au x)
 | .indexAddr t x i=>ym P H (tk P t) (S.au x) (S.au i)
 |_=>none
def oz(P:Program)(H:List Cl)(S:St)(o:Oper):Option AV:=
 match o.guard with
 |none=>qR P H S o.op
 |some _=>none
def A3(H:List Cl):Option (St×bh)->Option (St×bh)
 |some (S,p)=>if rZ H p.es=true then some (S,p)else none
 |none=>none
def nB(X:Ctx)(E:bj)(md:Bool)(H:List Cl)(all:List Oper)(S:St)(o:Oper):Option AV->Option (St×bh)
 |some x=>some (S.put o.dst true x,⟨[],[],true,x⟩)
 |none=>A3 H (ej X E md all S o)
def kR:List Nat->List Oper->Bool
 |[],[]=>true
 |_,_=>false
def Ju(X:Ctx)(E:bj)(md:Bool)(M:List (List Nat))(all:List Oper)(S:St)(o:Oper)(J:List bh):Option (XE×St):=
 if oZ M J.reverse=true then eW X E md all [o] S else none
def mh(X:Ctx)(E:bj)(md:Bool)(M:List (List Nat))(H:List Cl)(all:List Oper):List Oper->St->List bh->Option (XE×St)
 |[],S,J=>if oZ M J.reverse=true then some (.normal,S)else none
 |o::r,S,J=>match kR (M.getD J.length []) r with
  |true=>Ju X E md M all S o J
  |false=>A2 J (nB X E md H all S o (oz X.P H S o)) (mh X E md M H all r)
def Wb(X:Ctx)(E:bj)(md:Bool)(M:List (List Nat))(all:List Oper)(S:St):Option (List Cl)->Option (XE×St)
 |some H=>mh X E md M H all all S []
 |none=>none
def r6(X:Ctx)(E:bj)(md:Bool)(M:List (List Nat))(all:List Oper)(S:St):List (Nat×Nat)->Option (XE×St)
 |[]=>gw X E md (hZ S.mem,M) all all S []
 |q::r=>Wb X E md M all S (fB S.mem (q::r))
def St.jY(S:St)(W j k sz:Nat):St:=
 match Mem.get S.mem W,Mem.get S.mem k with
 |some ⟨_,AI,.box cs⟩,some ⟨_,v,_⟩=>match cs[j]? with
  |some (.lit (.slice none 0 0))=>if W=k then S else {S with mem:=Mem.set (Mem.set S.mem ⟨k,v+1,.vec sz []⟩) ⟨W,AI,.box (cs.set j (.vec k (v+1) 0 0))⟩}
  |_=>S
 |_,_=>S
def Jv(k v I v2:Nat):AV->AV
 | .vec U v0 o l=>if U=k/\v0=v then .vec I v2 o l else .vec U v0 o l
 |x=>x
def xc(AJ:AV->AV):Mem->Mem
 |[]=>[]
 |e::r=>⟨e.key,e.ar,sQ AJ e.cont⟩::xc AJ r
def St.AZ(S:St)(k I:Nat):St:=
 match Mem.get S.mem k,Mem.get S.mem I with
 |some ⟨_,v,.vec sz aj⟩,some ⟨_,v2,_⟩=>if k=I then S else {S with env:=qn (Jv k v I (v2+1)) S.env,mem:=Mem.set (Mem.set (xc (Jv k v I (v2+1)) S.mem) ⟨k,v+1,.dead⟩) ⟨I,v2+1,.vec sz aj⟩}
 |_,_=>S
def St.ef(S:St)(k I:Nat):St:=
 match Mem.get S.mem k,Mem.get S.mem I with
 |some ⟨_,v,.vv aj none⟩,some ⟨_,v2,_⟩=>match aj.getLast? with
  |some xs=>if k=I then S else {S with mem:=Mem.set (Mem.set S.mem ⟨k,v,.vv aj.dropLast (some (.vec I (v2+1) 0 xs.length))⟩) ⟨I,v2+1,.vec 1 xs⟩}
  |none=>S
 |_,_=>S
def St.cls(S:St)(k I:Nat):St:=
 match Mem.get S.mem k,Mem.get S.mem I with
 |some ⟨_,v,.vv aj (some (.vec AO v3 0 len))⟩,some ⟨_,v2,.vec 1 xs⟩=>if k=I then S else if AO=I/\v3=v2/\len=xs.length then {S with mem:=Mem.set (Mem.set S.mem ⟨k,v,.vv (aj++[xs]) none⟩) ⟨I,v2+1,.dead⟩} else S
 |_,_=>S
def St.shut(S:St)(k:Nat):St:=
 match Mem.get S.mem k with
 |some ⟨_,v,.vv aj (some _)⟩=>{S with mem:=Mem.set S.mem ⟨k,v,.vv aj none⟩}
 |_=>S
def St.uz(S:St)(W j k:Nat):St:=
 match Mem.get S.mem W,Mem.get S.mem k with
 |some ⟨_,AI,.box cs⟩,some ⟨_,v,_⟩=>match cs[j]? with
  |some (.lit (.slice none 0 0))=>if W=k then S else {S with mem:=Mem.set (Mem.set S.mem ⟨W,AI,.box (cs.set j (.vec k (v+1) 0 0))⟩) ⟨k,v+1,.vv [] none⟩}
  |_=>S
 |_,_=>S
def Gh.go(S:St):Gh->St
 | .ef k I=>S.ef k I
 | .cls k I=>S.cls k I
 | .shut k=>S.shut k
 | .uz W j k=>S.uz W j k
 | .trim k=>S.AR k
 | .freeze k=>S.freeze k
 | .jY W j k sz=>S.jY W j k sz
 | .AZ k I=>S.AZ k I
def H0(S:St):List Gh->St
 |[]=>S
 |g::r=>H0 (g.go S) r
def zh(k:St->St):Option (XE×St)->Option (XE×St)
 |some (.normal,S)=>some (.normal,k S)
 |r=>r
def H2(id:Nat):Option (XE×St)->Option (XE×St)
 |some (.exit AK,S)=>if AK=id then some (.normal,S)else some (.exit AK,S)
 |r=>r
def iter(f:St->Option (XE×St)):Nat->St->Option (XE×St)
 |0,_=>none
 |n+1,S=>andThen (f S) (iter f n)
def Es(a b:Option (XE×St)):Bool×AV->Option (XE×St)
 |(true,.d (.bool t))=>if t=true then a else b
 |_=>none
def St.leave(X:Ctx)(f:FuncId)(id:Nat)(S:St):St:=H0 (S.prune (X.sN f id)) (X.gh f id)
def St.enter(X:Ctx)(f:FuncId)(id:Nat)(S:St):St:=H0 S (X.gh f (id+2000000))
def den(X:Ctx)(f:FuncId)(E:bj)(n:Nat):Code->St->Option (XE×St)
 | .skip,S=>some (.normal,S)
 | .region id ops draw,S=>match draw with
  |false=>zh (St.leave X f id) (eW X E (X.md f id) ops.toList ops.toList S)
  |true=>zh (St.leave X f id) (r6 X E (X.md f id) (X.od f id) ops.toList S (X.fl f id))
 | .seq a b,S=>andThen (den X f E n a S) (den X f E n b)
 | .cond c a b,S=>Es (den X f E n a S) (den X f E n b S) (S.au c)
 | .block id c,S=>H2 id (den X f E n c (S.enter X f id))
 | .loop c,S=>iter (den X f E n c) n S
 | .exit id,S=>some (.exit id,H0 S (X.gh f (id+1000000)))
 | .ret,S=>some (.ret,S)
 |_,_=>none
def fin(P:Program)(p:aA)(T:Nat)(rs:List ResultVar):Option (XE×St)->Option (Out×List (Nat×aD))
 |some (.normal,S)=>finish P p T rs S
 |some (.ret,S)=>finish P p T rs S
 |some (.panic t x,S)=>AU p T t x S
 |_=>none
def tP(X:Ctx)(f:FuncId)(E:bj)(n:Nat)(fn:Func)(c:Code)(args:List AV)(cs:List aD):Option (Out×List (Nat×aD)):=
 if (decide (args.length<=fn.ntmps)&&decide (cs.length<=100)&&(X.fp f).sites.all (λk=>decide (100<=k))&&decide (X.fp f).sites.Nodup)=true then
  fin X.P (X.fp f) cs.length fn.results.toList (den X f E n c (entry fn.ntmps X.gl args cs (X.fp f).sites))
 else none
def q0:Option (Out×List (Nat×aD))->Option Nat
 |some (.ret (.vec 0 0 0 0),[(0,.vec sz [])])=>some sz
 |_=>none
def mi(AL AP:Option (Out×List (Nat×aD))):Option (Out×List (Nat×aD)):=
 match q0 AL,q0 AP with
 |some a,some b=>if a=b then AL else none
 |_,_=>none
def kS(run:List AV->Option (Out×List (Nat×aD)))(args:List AV):Bool->Option (Out×List (Nat×aD))
 |true=>match args with
  | .d (.list [])::r=>mi (run (.lit (.slice none 0 0)::r)) (run (.nn::r))
  |args=>run args
 |false=>run args
def o8(h:List AV->Option AV)(args:List AV):List aD->Option (Out×List (Nat×aD))
 |[]=>match h args with
  |some d=>some (.ret d,[])
  |none=>none
 |_::_=>none
def qT(h:List D->Option D)(args:List AV):Option AV:=match toDs args with
 |some O=>(h O).map .d
 |none=>none
abbrev DF:=FuncId×List AV
def KI(S:St)(args:List Operand):Bool×AV->Option DF
 |(true,.fn g A')=>if (jV S args&&decide (g<vi))=true then some (g,dC S args++A')else none
 |_=>none
def jZ(S:St)(o:Oper):Option DF:=
 match o.guard,o.op with
 |none,.defer {callee:=.value A9,args,..}=>KI S args.toList (S.au A9)
 |_,_=>none
def te(o:Oper):Bool:=
 match o.op with
 | .defer _=>true
 |_=>false
abbrev XD:=Option (XE×St×List DF)
def Mg(k:St->XD)(O:List DF):Option (XE×St)->XD
 |some (.normal,S)=>k S
 |some (e,S)=>some (e,S,O)
 |none=>none
def gI(X:Ctx)(E:bj)(md:Bool)(all:List Oper):List Oper->St->List DF->XD
 |[],S,O=>some (.normal,S,O)
 |o::r,S,O=>match jZ S o with
  |some d=>gI X E md all r (S.put o.dst true .bu) (d::O)
  |none=>Mg (λS1=>gI X E md all r S1 O) O (pP X E md all S o)
def qq(ops:List Oper):Bool:=ops.any te
def C0(k:St->St):XD->XD
 |some (.normal,S,O)=>some (.normal,k S,O)
 |r=>r
def A4(O:List DF):Option (XE×St)->XD
 |some (e,S)=>some (e,S,O)
 |none=>none
def NF(k:St->List DF->XD):XD->XD
 |some (.normal,S,O)=>k S O
 |r=>r
def kf(X:Ctx)(f:FuncId)(E:bj)(n:Nat):Code->St->List DF->XD
 | .seq a b,S,O=>NF (kf X f E n b) (kf X f E n a S O)
 | .region id ops draw,S,O=>match !draw&&qq ops.toList with
  |true=>C0 (St.leave X f id) (gI X E (X.md f id) ops.toList ops.toList S O)
  |false=>A4 O (den X f E n (.region id ops draw) S)
 |c,S,O=>A4 O (den X f E n c S)
def yn(o:Oper):Bool:=
 match o.guard,o.op with
 |none,.call {callee:=.builtin .recover,args,..}=>args.toList.isEmpty
 |_,_=>false
def qc(X:Ctx)(f:FuncId)(E:bj)(n:Nat)(AA:AV):Code->St->Option (XE×St)
 | .seq a b,S=>andThen (qc X f E n AA a S) (den X f E n b)
 | .region id ops draw,S=>match draw,ops.toList with
  |false,o::r=>if yn o=true then zh (St.leave X f id) (eW X E (X.md f id) (o::r) r (S.put o.dst true AA))else none
  |_,_=>none
 |_,_=>none
def Wc(P:Program)(p:aA)(T:Nat)(rs:List ResultVar):Option (XE×St)->Option (Out×List (Nat×aD))
 |some (.normal,S)=>finish P p T rs S
 |some (.ret,S)=>finish P p T rs S
 |_=>none
def z6(X:Ctx)(f:FuncId)(E:bj)(n:Nat)(fn:Func)(c:Code)(args:List AV)(cs:List aD):Option (Out×List (Nat×aD)):=
 match args.getLast? with
 |some AA=>if (decide (args.dropLast.length<=fn.ntmps)&&decide (cs.length<=100)&&(X.fp f).sites.all (λk=>decide (100<=k))&&decide (X.fp f).sites.Nodup)=true then
  Wc X.P (X.fp f) cs.length fn.results.toList (qc X f E n AA c (entry fn.ntmps X.gl args.dropLast cs (X.fp f).sites))
  else none
 |none=>none
def Gv:XE->Option AV
 | .normal=>some (.lit .nilIface)
 | .ret=>some (.lit .nilIface)
 | .panic t x=>some (.iA t x)
 | .exit _=>none
def C3(S:St):Option gi->Option St
 |some ⟨.ret _,es,_⟩=>some {S with mem:=bH S.mem es}
 |_=>none
def Wd(X:Ctx)(p:aA)(T:Nat)(rs:List ResultVar):Option St->Option (Out×List (Nat×aD))
 |some S=>finish X.P p T rs S
 |none=>none
def vM(X:Ctx)(p:aA)(T:Nat)(rs:List ResultVar)(AC:bj)(S:St)(d:DF):Option AV->Option (Out×List (Nat×aD))
 |some AA=>Wd X p T rs (C3 S (eA AC S.mem 0 d.1 (d.2++[AA]) (X.fp d.1).za))
 |none=>none
def zi(X:Ctx)(p:aA)(T:Nat)(rs:List ResultVar)(AC:bj):XD->Option (Out×List (Nat×aD))
 |some (e,S,[])=>fin X.P p T rs (some (e,S))
 |some (e,S,[d])=>vM X p T rs AC S d (Gv e)
 |_=>none
def z7(X:Ctx)(f:FuncId)(E AC:bj)(n:Nat)(fn:Func)(c:Code)(args:List AV)(cs:List aD):Option (Out×List (Nat×aD)):=
 if (decide (args.length<=fn.ntmps)&&decide (cs.length<=100)&&(X.fp f).sites.all (λk=>decide (100<=k))&&decide (X.fp f).sites.Nodup)=true then
  zi X (X.fp f) cs.length fn.results.toList AC (kf X f E n c (entry fn.ntmps X.gl args cs (X.fp f).sites) [])
 else none
def A5:Code->Bool
 | .seq a b=>A5 a||A5 b
 | .region _ ops _=>qq ops.toList
 |_=>false
def pR(X:Ctx)(n:Nat)(E:bj):bj:=λg args cs=>
 match X.P.funcs[g]? with
 |some fn=>match fn.body with
  |some c=>z6 X g E n fn c args cs
  |none=>none
 |none=>none
def z8(X:Ctx)(f:FuncId)(E:bj)(n:Nat)(fn:Func)(c:Code)(args:List AV)(cs:List aD):Bool->Option (Out×List (Nat×aD))
 |true=>z7 X f E (pR X n E) n fn c args cs
 |false=>kS (λargs=>tP X f E n fn c args cs) args (X.fp f).split
def aO(X:Ctx):Nat->bj
 |0,_,_,_=>none
 |n+1,f,args,cs=>match X.ov with
  |some E=>E f args cs
  |none=>match X.BZ f with
   |some h=>o8 h args cs
   |none=>match X.P.funcs[f]? with
    |some fn=>match fn.body with
     |some c=>z8 X f (aO X n) n fn c args cs (A5 c)
     |none=>none
    |none=>none
def kT(X:Ctx)(A5:bj):Prop:=∀g args cs out l,A5 g args cs=some (out,l)->
 iK X.P g=true/\Ev X.P X.gl g args (ew 0 cs) λo m=>o=out/\m=dW 0 l
theorem xd{P:Program}{g:FuncId}{vs:Array Value}{w:World}(h:iK P g=true):(callFunc g vs).run P w=.ok (.enter g vs) w:=by
 unfold iK at h;split at h
 ·rename_i fn Au;simp only[Ds,ahK]at h;have M:fn.body.isNone=false:=by
   have:=h.1;cases AJ:fn.body<;>simp_all
  have V:fn.name≠ "runtime.NumGoroutine" :=by simpa using h.2
  have AC:fn.body≠none:=by intro AJ;simp[AJ]at M
  simp[callFunc,Au,V,AC]
 ·cases h
theorem get_none{m:Mem}{k:Nat}:Mem.get m k=none↔k∉m.map (·.key):=by
 induction m with
 |nil=>simp[Mem.get]
 |cons e r ih=>
  simp only[Mem.get,abR,aaC,alg];split
  ·rename_i h;simp[h]
  ·rename_i h;rw[ih];constructor
   ·exact λhh=>⟨λhe=>h he.symm,hh⟩
   ·exact λhh=>hh.2
theorem zj{m m':Mem}(D:m'.map (·.key)=m.map (·.key))(k:Nat):(Mem.get m' k).isNone=(Mem.get m k).isNone:=by
 have:=get_none (m:=m) (k:=k);have V:=get_none (m:=m') (k:=k);rw[D,<-this]at V;cases h:Mem.get m k<;>cases Av:Mem.get m' k<;>simp_all
theorem zn(m:Mem):∀(n:Nat)(todo J:List Nat),∀k∈J,k∈collect m n todo J
 |0,todo,J,k,h=>h
 |n+1,[],J,k,h=>h
 |n+1,t::todo,J,k,h=>by
  simp only[collect];split
  ·exact zn m n todo J k h
  ·exact zn m n _ _ k (akX _ h)
theorem zp{m m':Mem}(D:m'.map (·.key)=m.map (·.key)):∀(n:Nat)(todo J:List Nat),(∀k∈collect m n todo J,Mem.get m' k=Mem.get m k)->collect m' n todo J=collect m n todo J
 |0,todo,J,_=>rfl
 |n+1,[],J,_=>rfl
 |n+1,t::todo,J,h=>by
  simp only[collect,zj D t]at h⊢;split
  ·rename_i I;rw[I]at h;exact zp D n todo J h
  ·rename_i I;rw[I]at h;have e:Mem.get m' t=Mem.get m t:=h t (zn m n _ _ t (by simp));rw[e];exact zp D n _ _ h
mutual
theorem NG{m m':Mem}{ρ:List Nat}{bor:Nat->Bool}{nv:Nat->Nat->Nat}(D:m'.map (·.key)=m.map (·.key))(h:∀k,(k∈ρ\/bor k=true)->Mem.get m' k=Mem.get m k):∀y:AV,vw m' ρ bor nv y=vw m ρ bor nv y
 | .ptr k ar off=>by
  by_cases W:k∈ρ
  ·simp only[vw,h k (.inl W)]
  ·have Y:∀T:Mem,vw T ρ bor nv (.ptr k ar off)=.bu:=by
    intro T;simp only[vw,lI (ρ:=ρ) (k:=k) (j:=0) |>.2 W];cases Mem.get T k<;>rfl
   rw[Y,Y]
 | .vec k ar off len=>by
  by_cases W:k∈ρ\/bor k=true
  ·simp only[vw,h k W]
  ·simp only[alg]at W;have Y:∀T:Mem,vw T ρ bor nv (.vec k ar off len)=.bu:=by
    intro T;simp only[vw,lI (ρ:=ρ) (k:=k) (j:=0) |>.2 W.1,W.2];cases Mem.get T k with
    |none=>rfl
    |some e=>
     obtain⟨_,_,c⟩:=e;cases c<;>simp
   rw[Y,Y]
 | .cS k ar i j=>by
  by_cases W:k∈ρ
  ·simp only[vw,h k (.inl W)]
  ·have Y:∀T:Mem,vw T ρ bor nv (.cS k ar i j)=.bu:=by
    intro T;simp only[vw,lI (ρ:=ρ) (k:=k) (j:=0) |>.2 W];cases Mem.get T k<;>rfl
   rw[Y,Y]
 | .agg cs=>by simp only[vw,Aa D h cs]
 | .fn f cap=>by simp only[vw,Aa D h cap]
 | .aY vs=>by simp only[vw,Aa D h vs]
 | .bu=>rfl
 | .d x=>rfl
 | .eu x j=>rfl
 | .iA t x=>rfl
 | .lit v=>rfl
 | .nn=>rfl
 | .err=>rfl
theorem Aa{m m':Mem}{ρ:List Nat}{bor:Nat->Bool}{nv:Nat->Nat->Nat}(D:m'.map (·.key)=m.map (·.key))(h:∀k,(k∈ρ\/bor k=true)->Mem.get m' k=Mem.get m k):∀l:List AV,vp m' ρ bor nv l=vp m ρ bor nv l
 |[]=>rfl
 |x::r=>by simp only[vp,NG D h x,Aa D h r]
end
theorem NH{m m':Mem}{ρ:List Nat}{bor:Nat->Bool}{nv:Nat->Nat->Nat}(D:m'.map (·.key)=m.map (·.key))(h:∀k,(k∈ρ\/bor k=true)->Mem.get m' k=Mem.get m k):
 ∀(l:List Nat)(i:Nat),(∀k∈l,k∈ρ)->fa m' ρ bor nv i l=fa m ρ bor nv i l
 |[],i,_=>rfl
 |k::r,i,AU=>by
  simp only[fa,h k (.inl (AU k (by simp))),NH D h r (i+1) (λx Z=>AU x (by simp[Z]))];congr 1;cases Mem.get m k with
  |none=>rfl
  |some e=>
   simp only[y9,acr,ala];cases e.cont with
   |box cs=>simp only[y8,Aa D h cs]
   |vv aj y=>
    cases y with
    |none=>rfl
    |some x=>simp only[y8,ah3,NG D h x]
   |_=>rfl
theorem H3{b:Bool}{m m':Mem}{ρ B:List Nat}(D:m'.map (·.key)=m.map (·.key))(h:∀k,(k∈ρ\/B.contains k=true)->Mem.get m' k=Mem.get m k):∀l:List AV,jb b m' ρ B l=jb b m ρ B l
 |[]=>rfl
 |x::r=>by simp only[jb,NG (nv:=ja) D h x,H3 D h r]
theorem Gw{m m':Mem}(d:Nat):∀(l:List Nat),(∀k∈l,Mem.get m' k=Mem.get m k)->base m' d l=base m d l
 |[],_=>rfl
 |k::r,h=>by simp only[base,h k (by simp),Gw d r (λx Z=>h x (by simp[Z]))]
theorem NI{m m':Mem}(ρ:List Nat)(D:m'.map (·.key)=m.map (·.key)):∀(l:List Nat),A0 m' ρ l=A0 m ρ l
 |[]=>rfl
 |k::r=>by
  have:(Mem.get m' k).isSome=(Mem.get m k).isSome:=by
   have:=zj D k;cases h:Mem.get m k<;>cases Av:Mem.get m' k<;>simp_all
  simp only[A0,this,NI ρ D r]
theorem H4{A5:bj}{m m':Mem}{A8:Nat}{g:FuncId}{H:List AV}{mt:List Nat}{res:gi}(D:m'.map (·.key)=m.map (·.key))(h:eA A5 m A8 g H mt=some res)(A_:∀k∈res.ks,Mem.get m' k=Mem.get m k):
 eA A5 m' A8 g H mt=some res:=by
 unfold eA nZ nY at h⊢;obtain⟨ρ,A9⟩:∃ρ,ρ=collect m 64 (mQ mt 0 H) []:=⟨_,rfl⟩;rw[<-A9]at h;obtain⟨B,Ac⟩:∃B,B=(w9 mt 0 H).filter λk=>!ρ.contains k:=⟨_,rfl⟩;rw[<-Ac]at h;have AK:∀k,k∈ρ\/B.contains k=true->Mem.get m' k=Mem.get m k:=by
  intro k A';refine A_ k ?_;unfold gv at h;split at h
  ·split at h
   ·cases h;simp only[aa0];rcases A' with M|M
    ·exact .inl (.inl M)
    ·exact .inl (.inr (by simpa using M))
   ·cases h
  ·cases h
 have Aw:collect m' 64 (mQ mt 0 H) []=ρ:=by
  rw[A9];exact zp D 64 _ _ (λk A'=>AK k (.inl (A9▸A')))
 rw[Aw,<-Ac,H3 D AK,NH D AK ρ 0 (λ_ h=>h),zj D];unfold gv at h⊢;split
 ·rename_i out O AD;rw[AD]at h;simp only at h;rw[NI ρ D];split
  ·rename_i I;rw[aat I]at h;cases h;have AE:∀d,base m' d ρ=base m d ρ:=λd=>Gw d ρ (λk A'=>AK k (.inl A'));have Ax:∀d,base m' d (List.range' (A8+1) (O.length-ρ.length))=base m d (List.range' (A8+1) (O.length-ρ.length)):=λd=>Gw d _ (λk A'=>A_ k (by simp only[aa0];exact .inr A'));rw[AE,Ax]
  ·rename_i I;rw[aab I]at h;cases h
 ·rename_i AD;rw[AD]at h;cases h
theorem zq(S:St):∀(l:List Operand)(i:Nat),(dC S l)[i]?=(l[i]?).map λx=>(S.au x).2
 |[],i=>by simp[dC]
 |x::r,i=>by cases i with|zero=>simp[dC]|succ i=>simp[dC,zq S r i]
theorem kH(S:St):∀(l:List Operand),(dC S l).length=l.length
 |[]=>rfl
 |x::r=>by simp[dC,kH S r]
theorem A6(b m ρ B):∀(l:List AV)(i:Nat),(jb b m ρ B l)[i]?=(l[i]?).map λy=>Fz b (vw m ρ (λk=>B.contains k) ja y)
 |[],i=>by simp[jb]
 |x::r,i=>by cases i with|zero=>simp[jb]|succ i=>simp[jb,A6 b m ρ B r i]
theorem u0(b m ρ B):∀(l:List AV),(jb b m ρ B l).length=l.length
 |[]=>rfl
 |x::r=>by simp[jb,u0 b m ρ B r]
theorem C4(m ρ bor):∀(l:List Nat)(i j:Nat),ew i (qP (fa m ρ bor ja j l))=dW i (fa m ρ bor ja j l)
 |[],i,j=>rfl
 |k::r,i,j=>by
  have:y9 m ρ bor ja j (Mem.get m k)=(0,(y9 m ρ bor ja j (Mem.get m k)).2):=by
   cases Mem.get m k<;>rfl
  simp only[fa];rw[this];simp only[qP,ew,dW,C4 m ρ bor r (i+1) (j+1)]
theorem Gy{m:Mem}{ρ:List Nat}:∀{l:List Nat},A0 m ρ l=true->∀k∈l,(Mem.get m k).isSome=true/\k∉ρ
 |[],_,k,D=>by simp at D
 |x::r,h,k,D=>by
  simp only[A0,Ds,ahK,List.contains_eq_mem,afP]at h;rcases aaC.1 D with rfl|D
  ·exact h.1
  ·exact Gy h.2 k D
theorem A7:∀{l:List (Nat×aD)},qp l=true->∀e∈l,nL e.2=true
 |[],_,e,he=>by simp at he
 |(v,c)::r,h,e,he=>by
  simp only[qp,Ds]at h;rcases aaC.1 he with rfl|he
  ·exact h.1
  ·exact A7 h.2 e he
theorem Ab:∀(l:List (Nat×aD))(i k:Nat),i<=k->k<i+l.length->(Mem.get (dW i l) k).isSome=true
 |[],i,k,M,V=>by simp at V;omega
 |(v,c)::r,i,k,M,V=>by
  simp only[dW,Mem.get];split
  ·rfl
  ·rename_i Ay;exact Ab r (i+1) k (by have BM:i≠k:=Ay;omega) (by simp at V;omega)
theorem Ev.frz{P:Program}{gl f args}{cs:List aD}{out:Out}{O:List (Nat×aD)}(h:Ev P gl f args (ew 0 cs) λo m=>o=out/\m=dW 0 O)(AU:cs.length<=O.length):
 Ev P gl f args (ew 0 cs) λo m=>o=Jr cs.length O out/\m=dW 0 (fa (dW 0 O) (List.range cs.length) (λ_=>true) (λ_ v=>v) 0 (List.range cs.length)):=by
 intro φ G w vs hm AL Az B';refine (h φ G w vs hm AL Az B').mono ?_;rintro e w' ⟨φ',m',AM,⟨rfl,rfl⟩,AF,U,A1⟩;obtain⟨s1,s2,B0⟩:=Ej (G1:=G) (ρ:=List.range cs.length) (bor:=λ_=>true) (nv:=λ_ v=>v) AF List.nodup_range (λk D=>Ab O 0 k (Nat.zero_le _) (by simp at D;omega)) (λb h=>.inl h) (λb h=>AF.mC b h.own)
  (λk e L b AL _ _ AN AA=>AF.mC _ ⟨e,(Mem.get_mem AL).1,L,by rw[(Mem.get_mem AL).2];exact AN,AA⟩)
 refine⟨_,_,_,⟨rfl,rfl⟩,s1,⟨?_,U.Ch,?_,U.size,U.os,U.tape,U.output⟩,?_⟩
 ·intro k L AN;have D:k<cs.length:=by
   have:=hm.sA k L AN;rw[Ns,sO]at this;simpa using this
  obtain⟨L',M,V,AC⟩:=U.le k L AN;exact⟨L',by simp[bP.jq,D,M],V,AC⟩
 ·intro b AJ AA;exact U.own b AJ ((zT (φ:=φ') (nv:=λ_ v=>v) (bor:=λ_=>true) (λk D=>Ab O 0 k (Nat.zero_le _) (by simp at D;omega)) b).1 AA).own
 ·cases AM with
  |ret x=>
   cases e with
   |returned v=>exact (s2 x v A1).norm
   |_=>exact A1.elim
  |panic t x=>
   cases e with
   |panicked chain=>
    obtain⟨v,I,Z⟩:=A1;exact⟨v,I,Z.mono (λ_ _ _=>rfl) (aad _) (λb _=>B0 b)⟩
   |_=>exact A1.elim
theorem xe:∀(l:List (Nat×aD)),(qP l).length=l.length
 |[]=>rfl
 |(_,_)::r=>by simp[qP,xe r]
theorem C5{AG:Nat}{b:Bool}{r:Option (Out×List (Nat×aD))}{out:Out}{l:List (Nat×aD)}(h:sZ AG b r=some (out,l)):∃AO A4,r=some (AO,A4)/\
 ((out=AO/\l=A4)\/(AG<A4.length/\out=Jr AG A4 AO/\l=fa (dW 0 A4) (List.range AG) (λ_=>true) (λ_ v=>v) 0 (List.range AG))):=by
 cases r with
 |none=>cases h
 |some p=>
  obtain⟨B1,A4⟩:=p;refine⟨B1,A4,rfl,?_⟩;simp only[sZ]at h;split at h
  ·rename_i I;simp only[Ds,aak]at I;simp only[aa1,acr]at h;exact .inr ⟨I.2,h.1.symm,h.2.symm⟩
  ·simp only[aa1,acr]at h;exact .inl ⟨h.1.symm,h.2.symm⟩
theorem aiq{n g:Nat}(h:g<n):Eo n g=g:=by
 unfold Eo;rw[aop (Nat.not_le.2 h)]
theorem aae{n g:Nat}(h:g<n)(H E:List AV):wa n g H E=H++E:=by
 unfold wa;rw[aop (Nat.not_le.2 h)]
theorem air(n g:Nat):Eo n (g+n)=g:=by
 unfold Eo;rw[af9 (alk n g)];exact Nat.add_sub_cancel g n
theorem aaf(n g:Nat)(H E:List AV):wa n (g+n) H E=E++H:=by
 unfold wa;rw[af9 (alk n g)]
theorem ak1{g:FuncId}(h:g<vi):qb g=g:=aiq h
theorem NJ{g:FuncId}(h:g<vi)(H E:List AV):jC g H E=H++E:=aae h H E
theorem ak2(g:FuncId):qb (g+vi)=g:=air vi g
theorem NK(g:FuncId)(H E:List AV):jC (g+vi) H E=E++H:=aaf vi g H E
theorem yp{X:Ctx}{A5:bj}(AD:kT X A5){S:St}{o:Oper}{AP:Operand}{args:Array Operand}{B2:Array TypeId}{g g0:FuncId}{E:List AV}{A8:Nat}{mt:List Nat}{res:gi}
 (AA:o.op=.call {callee:=.value AP,args,argTypes:=B2}) (Ad:S.au AP=(true,.fn g0 E)) (Ae:qb g0=g) (B3:jV S args.toList=true)
 (h:eA A5 S.mem A8 g (jC g0 (dC S args.toList) E) mt=some res) (B4:S.gl=X.gl) {φ G a w} (AB:Rel φ G S a w) {next:Act->World->Prop} {R:Exit->Act->World->Prop}
 (B5:∀x,res.out=.ret x->∀φ' w' v,Rel φ' G {S with mem:=bH S.mem res.es} a w'->bk φ S.mem w φ' (bH S.mem res.es) w'->aH φ' w' (Fo G φ' (bH S.mem res.es)) x v->next (a.put o.dst v) w')
 (B6:∀t x,res.out=.panic t x->∀φ' w' v,Rel φ' G {S with mem:=bH S.mem res.es} a w'->bk φ S.mem w φ' (bH S.mem res.es) w'->aQ w' (Fo G φ' (bH S.mem res.es)) x v->R (.panic [{v:=.iface t v,recovered:=false}]) a w'):o.wp X.P a w next R:=by
 unfold eA nZ nY at h;obtain⟨ρ,A9⟩:∃ρ,ρ=collect S.mem 64 (mQ mt 0 (jC g0 (dC S args.toList) E)) []:=⟨_,rfl⟩;have Af:=rS S.mem 64 (mQ mt 0 (jC g0 (dC S args.toList) E)) [] List.nodup_nil (by simp);rw[<-A9]at h Af;generalize (w9 mt 0 (jC g0 (dC S args.toList) E)).filter (λk=>!ρ.contains k)=B at h;clear A9;obtain⟨Ag,Ah⟩:=Af;unfold gv at h;split at h
 ·rename_i out O B7;split at h
  ·rename_i I;cases h;have B8:iK X.P g=true/\Ev X.P X.gl g (jb (mt.contains 1000) S.mem ρ B (jC g0 (dC S args.toList) E)) (ew 0 (qP (fa S.mem ρ (λk=>B.contains k) ja 0 ρ))) λo m=>o=out/\m=dW 0 O:=by
    obtain⟨AO,A4,Y,M⟩:=C5 B7;obtain⟨B9,Ai⟩:=AD _ _ _ _ _ Y;refine⟨B9,?_⟩;rcases M with ⟨rfl,rfl⟩|⟨AQ,rfl,rfl⟩
    ·exact Ai
    ·have Aj:(qP (fa S.mem ρ (λk=>B.contains k) ja 0 ρ)).length=ρ.length:=by rw[xe,tL]
     have:=Ai.frz (by rw[Aj];omega);rw[Aj]at this;exact this
   obtain⟨Ak,Al⟩:=B8;simp only[Ds,ahR,aak]at I;obtain⟨⟨BN,BA⟩,BB⟩:=I;rw[C4]at Al;obtain⟨v1,v2,v3⟩:=Kr (B:=B) AB.mem Ag Ah;have AW:=AB.au AP (by rw[Ad]);rw[Ad]at AW;generalize An:a.eval AP=BO at AW;have BC:∃vs:Array Value,(execOp a.eval o).run X.P w=.ok (.enter g vs) w/\(jC g0 (dC S args.toList) E).length=vs.size/\∀(i:Nat) y v,(jC g0 (dC S args.toList) E)[i]?=some y->vs[i]?=some v->aH φ w (Fo G φ S.mem) y v:=by
    have Ao:∀(i:Nat) y v,(dC S args.toList)[i]?=some y->(args.map a.eval)[i]?=some v->aH φ w (Fo G φ S.mem) y v:=by
     intro i y v A2 A3;rw[zq]at A2;simp only[Array.getElem?_map,aax]at A3;obtain⟨z,Ap,rfl⟩:=A3;obtain⟨BP,Aq,rfl⟩:=aax.1 A2;rw[ah1,Ap]at Aq;cases Aq;exact AB.au z (x4 B3 z (by simpa using Array.mem_of_getElem? Ap))
    have AR:(dC S args.toList).length=(args.map a.eval).size:=by rw[kH];simp
    have Ar:∀(l r:List AV)(AS AT:Array Value),l.length=AS.size->r.length=AT.size->(∀(i:Nat) y v,l[i]?=some y->AS[i]?=some v->aH φ w (Fo G φ S.mem) y v)->(∀(i:Nat) y v,r[i]?=some y->AT[i]?=some v->aH φ w (Fo G φ S.mem) y v)->
     ∀(i:Nat) y v,(l++r)[i]?=some y->(AS++AT)[i]?=some v->aH φ w (Fo G φ S.mem) y v:=by
     intro l r AS AT M V AC BD i y v A2 A3;by_cases hi:i<l.length
     ·rw[aaF hi]at A2;rw[ah2 (by omega)]at A3;exact AC i y v A2 A3
     ·rw[abI (by omega)]at A2;rw[Array.getElem?_append_right (by omega),<-M]at A3;exact BD _ y v A2 A3
    cases AW with
    |fn _ _ AX AQ AH AY=>
     have AE:g0=g:=by rw[<-Ae,ak1 AQ]
     subst AE;refine⟨args.map a.eval++AX,by simp[execOp,AA,resolve,An,Deferred.ofValue,invoke,xd Ak],?_,?_⟩
     ·rw[NJ AQ,aam,AR,AH,Array.size_append]
     ·rw[NJ AQ];exact Ar _ _ _ _ AR AH Ao AY
    |vj f _ AX AH AY=>
     have AE:f=g:=by rw[<-Ae,ak2]
     subst AE;refine⟨AX++args.map a.eval,by simp[execOp,AA,resolve,An,Deferred.ofValue,invoke,xd Ak],?_,?_⟩
     ·rw[NK,aam,AR,AH,Array.size_append]
     ·rw[NK];exact Ar _ _ _ _ AH AR AY Ao
   obtain⟨vs,BE,BF,BG⟩:=BC
   ·unfold Oper.wp;rw[BE];have BH:(jb (mt.contains 1000) S.mem ρ B (jC g0 (dC S args.toList) E)).length=vs.size:=by
     rw[u0];exact BF
    have BI:∀(i:Nat) x v,(jb (mt.contains 1000) S.mem ρ B (jC g0 (dC S args.toList) E))[i]?=some x->vs[i]?=some v->aH (φ.jq ρ ja) w (Fo (nu φ G S.mem ρ B) (φ.jq ρ ja) (dW 0 (fa S.mem ρ (λk=>B.contains k) ja 0 ρ))) x v:=by
     intro i x v Z A3;rw[A6]at Z;obtain⟨y,A2,rfl⟩:=aax.1 Z;exact (v2 y v (BG i y v A2 A3)).Fz
    have BJ:fF w (Fo (nu φ G S.mem ρ B) (φ.jq ρ ja) (dW 0 (fa S.mem ρ (λk=>B.contains k) ja 0 ρ))) X.gl:=by
     rw[<-B4];exact AB.mD.mono (λ_ _ _=>rfl) (aad _) (λb _=>v3 b)
    refine (Al (φ.jq ρ ja) (nu φ G S.mem ρ B) w _ v1 BJ BH BI).mono ?_;rintro e w' ⟨BQ,BR,AM,⟨rfl,rfl⟩,BK,A',A1⟩;have AZ:B=[]\/(CY AM=true/\qp O=true):=BB.imp (by simp) id;obtain⟨φ',AF,U,As⟩:=Ks (B:=B) AB.mem Ag Ah (fr:=List.range' (A8+1) (O.length-ρ.length)) List.nodup_range' (Gy BA) BK A' (by simp;omega) (AZ.imp id λAI=>A7 AI.2);have At:=AB.Cj AF U;cases AM with
    |ret x=>
     cases e with
     |returned v=>exact B5 _ rfl φ' w' v At U (As x v (AZ.imp id λAI=>AI.1) A1)
     |_=>exact A1.elim
    |panic t x=>
     cases e with
     |panicked chain=>
      obtain⟨v,rfl,Z⟩:=A1;have:=As (.d x) v (AZ.imp id λAI=>AI.1) (.d _ _ Z);cases this with
      |d _ _ BL=>exact B6 t x rfl φ' w' v At U BL
     |_=>exact A1.elim
  ·cases h
 ·cases h
end Go.Am
end
