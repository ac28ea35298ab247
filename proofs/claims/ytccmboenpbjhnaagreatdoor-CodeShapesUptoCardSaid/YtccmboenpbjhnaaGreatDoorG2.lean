/-
  Texts of one proof, one behind the other.
-/
import Derived.Test.YtccmboenpbjhnaaGreatDoorG1
import Derived.Orders
set_option linter.all false
section
namespace Go.Am
open Go
def jh(S:St):List Operand->Bool
 |[]=>true
 |x::r=>(S.aq x).1&&jh S r
theorem vH{S:St}:∀{l:List Operand},jh S l=true->∀x∈l,(S.aq x).1=true
 |[],_,x,M=>by simp at M
 |y::r,h,x,M=>by
  simp only[jh,Ds]at h;rcases abd.1 M with rfl|M
  ·exact h.1
  ·exact vH h.2 x M
def gR(S:St)(o:Oper):Bool:=
 match o.op with
 | .pick _ _ _=>true
 |op=>jh S op.operands.toList
def tH(P:Program)(m:Mem)(AE:Nat)(t:TypeId)(x:AV):dF:=
 match x with
 | .lit (.slice none 0 0)=>match Mem.get m AE with
  |some ⟨_,v,_⟩=>match tk P t with
   | .slice e=>match fT P e with
    |some sz=>.dp true (.vec AE (v+1) 0 0) ⟨AE,v+1,.vec sz []⟩
    |none=>.val true x
   |_=>.val true x
  |none=>.val true x
 |x=>.val true x
theorem JZ(P:Program)(S:St)(o:Oper)(x:Operand)(E:o.op=.move x\/o.op=.assign x)(M:(S.aq x).1=true):aN P S o (tH P S.mem (keyOf o) o.type (S.aq x).2):=by
 have plain:aN P S o (.val true (S.aq x).2):=by
  have:=ad5 P S o x E M;simpa using this
 unfold tH;split
 ·rename_i A8;split
  ·rename_i key v cont A3;split
   ·split
    ·rename_i sz A9;intro _ φ G a w I;obtain⟨hm,V,L,A5,A6,Ai⟩:=I.mem.get A3;simp only at V A6;subst V;have AA:=I.aq x M;rw[A8]at AA;generalize B7:a.eval x=u at AA;cases AA;obtain⟨φ',AT,AU,Ad,AM⟩:=I.mem.dp (e':=⟨keyOf o,v+1,.vec sz []⟩) hm A5 rfl (L':=⟨v+1,0,sz,0,0,[]⟩) (by simp only;omega) (λhh=>by simp only at hh;omega) rfl
      (w':=w) (λ_ _ _=>rfl) (aa7 _) (λ_ E=>absurd E.1 (by simp)) rfl rfl rfl (λφ' B8 Bf=>
       ⟨rfl,by simp,by simp,λT=>by simp at T⟩)
     refine⟨.slice none 0 0,w,φ',.inl ?_,?_,AT,AU,AM⟩
     ·rcases E with E|E<;>simp[execOp,E,B7]
     ·exact .vec _ (v+1) 0 _ _ _ Ad (aa7 _) (λ_=>⟨_,_,rfl,by simp,λh=>by omega⟩) rfl
    ·exact plain
   ·exact plain
  ·exact plain
 ·exact plain
def AP:Value->Bool
 | .slice none 0 0=>true
 | .pointer none=>true
 | .nilIface=>true
 |_=>false
def sn(P:Program)(S:St)(op:BinOp)(t:TypeId)(x y:Operand):dF:=
 match y with
 | .const v=>match AP v,op with
  |true,.eql=>j7 P S.mem false t (S.aq x).2 v
  |true,.neq=>j7 P S.mem true t (S.aq x).2 v
  |_,_=>qT P op t (S.aq x).2 (S.aq (.const v)).2
 |y=>qT P op t (S.aq x).2 (S.aq y).2
theorem U8(P:Program)(S:St)(o:Oper)(BA:BinOp)(t AW:TypeId)(x y:Operand)(E:o.op=.binOp BA t x y AW)(M:(S.aq x).1=true)(AF:(S.aq y).1=true):aN P S o (sn P S BA t x y):=by
 unfold sn;split
 ·split
  ·exact N4 P S o false t AW x _ (by simpa using E) M
  ·exact N4 P S o true t AW x _ (by simpa using E) M
  ·exact N3 P S o _ t AW x _ E M AF
 ·exact N3 P S o BA t AW x y E M AF
theorem J0{w:World}{F F':Nat->Prop}{sz:Nat}{AG:List D}{cs:List Value}{b off cap:Nat}(I:cy w F sz AG cs)(T:∀(j:Nat) v,cs[j]?=some v->w.cell? ⟨b,off+j,none⟩=some v)
 (AB:b<w.heap.size) (Aj:∀b,F' b->F b) (BB:¬F' b) (BS:AG.length<=cap):aQ w F' (.list AG) (.slice (some ⟨b,off,none⟩) AG.length cap):=by
 obtain⟨H,O,A2,AN⟩:=I;refine .list AG b off cap sz (λi=>if h:i<AG.length then Classical.choose (AN i AG[i] (by simp[h]))else undef) BS AB BB A2 (λi d Y=>?_) (λi j c hi A0=>?_)
 ·have hi:=(aa1.1 Y).1;have:=akt (AN i AG[i] (by simp[hi]));simp only[hi,dif_pos];have e:AG[i]=d:=(aa1.1 Y).2;rw[<-e];exact this.1.mono (λ_ _ _=>rfl) (aa7 _) (λb _=>Aj b)
 ·have:=akt (AN i AG[i] (by simp[hi]));simp only[hi,dif_pos]at A0;have AX:=T _ _ (this.2 j c A0);rw[<-adB]at AX;exact AX
theorem DD{φ w F F'}{k ak off len sz:Nat}{aj:List D}{L:Loc}{v:Value}(AA:aF φ w F (.vec k ak off len) v)(A5:φ k=some L)(A6:L.ak=ak)(T:eA φ w F L (.vec sz aj))(hle:off+len<=aj.length)
 (Aj:∀b,F' b->F b) (BB:0<L.cap->¬F' L.dO):aQ w F' (.list ((aj.drop off).take len)) v:=by
 have BT:((aj.drop off).take len).length=len:=by simp;omega
 cases AA with
 |vec _ _ _ _ _ L' Ak _ h _=>
  rw[A5]at Ak;cases Ak;obtain⟨ao,cap,rfl,BU,Al⟩:=h A6.symm;clear h;by_cases Bg:len=0
  ·subst Bg;simp only[List.take_zero];exact .nil _ _ (λZ=>by
    subst Z;rcases ajK cap with A1|A1
    ·exact A1
    ·obtain⟨H,_⟩:=Al A1;cases H)
  ·obtain⟨rfl,CE⟩:=Al (by omega);obtain⟨arr,elem,hh,BV,BW,I⟩:=oy T (by omega);have BC:=(I.drop off).take len (by simp;omega);have:=J0 (F':=F') (b:=L.dO) (off:=L.base+off*L.sz) (cap:=cap) BC (λj u A0=>by
    rw[gY hh,T.1];rw[ads]at A0;split at A0
    ·rw[adK,ads]at A0;split at A0
     ·rw[adK]at A0;rw[adB];simpa using A0
     ·cases A0
    ·cases A0) hh.lt Aj (BB (by omega)) (by omega)
   rw[BT]at this;exact this
theorem Mem.set_set{e e':cJ}(V:e'.key=e.key):∀m:Mem,Mem.set (Mem.set m e) e'=Mem.set m e'
 |[]=>rfl
 |x::r=>by
  simp only[Mem.set];by_cases h:x.key=e.key
  ·rw[abf h,abf (by rw[V];exact h)];simp only[Mem.set];rw[abf V.symm]
  ·rw[aa4 h,aa4 (by rw[V];exact h)];simp only[Mem.set];rw[aa4 (by rw[V];exact h),Mem.set_set V r]
theorem afQ{φ:bW}{G m w}(h:bx φ G m w){k v sz n:Nat}{aj:List D}(A3:Mem.get m k=some ⟨k,v,.vec sz aj⟩){x:Value}(M:aF φ w (Fo G φ m) (.vec k v 0 n) x)(Z:n<=aj.length):
 ∃φ',bx φ' G (Mem.set m ⟨k,v+1,.dead⟩) w/\aX φ m w φ' (Mem.set m ⟨k,v+1,.dead⟩) w/\(∀j,j≠k->φ' j=φ j)/\aQ w (Fo G φ' (Mem.set m ⟨k,v+1,.dead⟩)) (.list (aj.take n)) x:=by
 obtain⟨hm,_,L,A5,A6,Ai⟩:=h.get A3;obtain⟨φ',AT,AU,Ad,AM⟩:=h.dp (e:=⟨k,v,.vec sz aj⟩) (e':=⟨k,v+1,.dead⟩) hm A5 rfl (L':={L with ak:=v+1}) (by simp only at A6⊢;omega) (λhh=>by simp only at A6 hh;omega) rfl
  (w':=w) (λ_ _ _=>rfl) (aa7 _) (λ_ E=>E.elim) rfl rfl rfl (λ_ _ _=>trivial)
 refine⟨φ',AT,AU,AM,?_⟩;have BX:∀b,jc φ' (Mem.set m ⟨k,v+1,.dead⟩) b->jc φ m b/\∀(_:0<L.cap),b≠L.dO:=by
  rintro b ⟨y,AF,As,AH,Ae⟩;rcases (Mem.mem_set h.nodup).1 AF with ⟨rfl,_⟩|⟨Au,AI⟩
  ·exact Ae.elim
  ·simp only at AI;rw[AM _ AI]at AH;refine⟨⟨y,Au,As,AH,Ae⟩,λT heq=>AI (h.apart y Au _ hm As L AH A5 ⟨b,Ae,T,heq.symm⟩)⟩
 have:=DD M A5 A6 Ai (by omega) (F':=Fo G φ' (Mem.set m ⟨k,v+1,.dead⟩)) (λb=>Or.imp id (λAB=>(BX b AB).1)) (λT=>by
  rintro (BD|E)
  ·exact h.lf _ ⟨_,hm,L,A5,T,rfl⟩ BD
  ·exact (BX _ E).2 T rfl)
 simpa using this
def vI(m:Mem)(b:Bool)(AE:Nat):dF->dF
 | .dp c (.vec k v 0 n) ⟨AJ,Af,.vec sz aj⟩=>if b=true/\k≠AE/\AJ=k/\Af=v/\n<=aj.length/\(Mem.get m k).isSome=true then .dp c (.d (.list (aj.take n))) ⟨k,v+1,.dead⟩else .dp c (.vec k v 0 n) ⟨AJ,Af,.vec sz aj⟩
 |r=>r
theorem YL{P:Program}{S:St}{o:Oper}{b:Bool}{AE:Nat}{r:dF}(h:aN P S o r):aN P S o (vI S.mem b AE r):=by
 unfold vI;split
 ·rename_i c k v n AJ Af sz aj;split
  ·rename_i hh;obtain⟨_,_,rfl,rfl,Z,A9⟩:=hh;intro T φ G a w I;obtain⟨x,w',φ',H,O,A2,AN,AX⟩:=h T φ G a w I;have BE:AJ∈S.mem.map (·.key):=by
    cases A3:Mem.get S.mem AJ with
    |none=>rw[A3]at A9;cases A9
    |some e=>
     obtain⟨BF,Bh⟩:=Mem.get_mem A3;rw[<-Bh];exact adD BF
   obtain⟨BG,q1,q2,q3,BH⟩:=afQ A2 (Mem.pO (x:=⟨AJ,Af,.vec sz aj⟩) BE) O Z;rw[Mem.set_set (e:=⟨AJ,Af,.vec sz aj⟩) (e':=⟨AJ,Af+1,.dead⟩) rfl]at q1 q2 BH;exact⟨x,w',BG,H,.d _ _ BH,q1,AN.trans q2,λj A0=>by rw[q3 j A0];exact AX j A0⟩
  ·exact h
 ·exact h
def RX(P:Program)(t:TypeId):AV->dF
 | .lit (.slice none 0 0)=>match tk P t with
  | .slice _=>.val True (.d (.int .i64 0))
  |_=>.no
 |_=>.no
theorem afR(P:Program)(S:St)(o:Oper)(x:Operand)(t:TypeId)(E:o.op=.call {callee:=.builtin .cap,args:=#[x],argTypes:=#[t]})(M:(S.aq x).1=true):aN P S o (RX P t (S.aq x).2):=by
 have BI:∀(a:Act)(w:World)(v:Value),(Builtin.cap_ #[t] o.type #[a.eval x]).run P w=.ok v w->(execOp a.eval o).run P w=.ok (.value v) w:=by
  intro a w v h;simp[execOp,E,resolve,invoke,builtin,h]
 unfold RX;split
 ·rename_i A8;split
  ·rename_i e Bi;refine aN.pure λ_ φ G a w I=>?_;have H:=I.aq x M;rw[A8]at H;generalize A4:a.eval x=av at H;cases H with|lit _ h=>
   refine⟨_,BI a w (.int .i64 0) ?_,.d _ _ (.int _ _)⟩;rw[A4];simp[Builtin.cap_,run_underlying (gr Bi),goInt]
  ·trivial
 ·trivial
def lW(P:Program)(S:St)(o:Oper)(b:Builtin)(args:List Operand)(ts:List TypeId):dF:=
 match b,args,ts with
 | .len,[x],[t]=>oR P S.mem t (S.aq x).2
 | .append,[s,x],[t,u]=>vI S.mem (Mem.get S.mem (keyOf o)).isSome (keyOf o) (sW P S.mem (keyOf o) t u (S.aq s).2 (S.aq x).2)
 | .copy,[s,x],[t,_]=>yL P S.mem t (S.aq s).2 (S.aq x).2
 | .max,args,_=>GI true (args.map λx=>(S.aq x).2)
 | .min,args,_=>GI false (args.map λx=>(S.aq x).2)
 | .cap,[x],[t]=>RX P t (S.aq x).2
 |_,_,_=>.no
def zeroOf:TK->Option D
 | .int k=>some (.int k 0)
 | .bool=>some (.bool false)
 |_=>none
theorem Ns{t:TK}{z:D}(h:zeroOf t=some z):z.size=1/\∀(w:World)(F:Nat->Prop),∃v,aQ w F z v/\v.cells=#[v]/\∀u,aQ w F z u->u=v:=by
 cases t with
 |int k=>cases h;exact⟨rfl,λw F=>⟨_,.int k 0,rfl,λu hu=>by cases hu;rfl⟩⟩
 |bool=>cases h;exact⟨rfl,λw F=>⟨_,.bool false,rfl,λu hu=>by cases hu;rfl⟩⟩
 |_=>cases h
def U9:D->AV->Bool
 | .int k n,.d (.int AJ Bj)=>k == AJ&&n == Bj
 | .bool b,.d (.bool Bk)=>b == Bk
 |_,_=>false
theorem afS{z:D}{c:AV}(h:U9 z c=true):c=.d z:=by
 unfold U9 at h;split at h<;>simp_all
def J1(m:Mem)(k n:Nat)(z:D)(zs:List AV):dF:=
 match Mem.get m k with
 |some ⟨_,v,_⟩=>.dp (zs.length=n/\zs.all (U9 z)=true) (.cS k (v+1) 0 0) ⟨k,v+1,.vec 1 (List.replicate n z)⟩
 |none=>.no
def uF(P:Program)(m:Mem)(k:Nat)(t:TypeId):dF:=
 match vE P t with
 |some zs=>match tk P t with
  | .arr n e=>match zeroOf (tk P e)with
   |some z=>J1 m k n z zs
   |none=>sU m k true zs
  |_=>sU m k true zs
 |none=>.no
theorem afT(P:Program)(S:St)(o:Oper)(t:TypeId)(E:o.op=.alloc t)(n:Nat)(Aw:D)(BY:TK)(Ax:zeroOf BY=some Aw)(zs:List AV)(An:vE P t=some zs):aN P S o (J1 S.mem (keyOf o) n Aw zs):=by
 obtain⟨BZ,Ay⟩:=Ns Ax;unfold J1;split
 ·rename_i key v cont A3;refine aN.sS ?_;rintro ⟨Z,Bl⟩ φ G a w I;obtain⟨z,BI,Bm,H,BJ⟩:=pn An w;obtain⟨hm,V,L,A5,A6,Ai⟩:=I.mem.get A3;simp only at V A6;subst V;have Bn:∀(w:World)(F:Nat->Prop)(i:Nat) u,z.cells[i]?=some u->aQ w F Aw u:=by
   intro w' F i u hu;have hi:i<zs.length:=by
    have:=(adU.1 hu).1;omega
   have A2:=BJ φ w (λ_=>False) i zs[i] u (by simp[hi]) hu;rw[afS (adA.1 Bl _ (af8 hi))]at A2;cases A2 with
   |d _ _ AN=>
    obtain⟨v1,q1,_,q2⟩:=Ay w (λ_=>False);obtain⟨v2,q3,_,BH⟩:=Ay w' F;cases BY with
    |int k=>cases Ax;cases AN;exact .int k 0
    |bool=>cases Ax;cases AN;exact .bool false
    |_=>cases Ax
  obtain⟨φ',AT,AU,Ad,AM⟩:=I.mem.fresh (e:=⟨keyOf o,v,cont⟩) hm A5 A6 w rfl rfl rfl rfl z.cells t 1 n (.vec 1 (List.replicate n Aw)) (λ_ AB=>AB.2) (λφ' hle A4 CF BK=>by
   refine⟨rfl,by simp,λd Y=>by rw[(List.mem_replicate.1 Y).2];exact BZ,λ_=>⟨z.cells,t,fu.new BK,by simp[Bm,Z],H,λi d Y=>?_⟩⟩;obtain⟨hi,rfl⟩:=aa1.1 Y;simp at hi;have B_:i<z.cells.size:=by omega
   have AX:=λw F=>Bn w F i z.cells[i] (by simp[B_]);have BF:=(AX w (λ_=>False)).size;rw[BZ]at BF;refine⟨z.cells[i],by simp;exact AX _ _,λj c A0=>?_⟩;have Bo:j=0:=by
    have:=(adU.1 A0).1;omega
   subst Bo;rw[ew (H _ (by simp))]at A0;simp at A0;subst A0;simp[B_])
  refine⟨.pointer (some ⟨w.heap.size,0,none⟩),_,φ',.inl ?_,?_,AT,AU,AM⟩
  ·simp[execOp,E,Instr.alloc,newVar,iM,BI]
  ·exact .cS _ (v+1) 0 0 _ _ Ad (aa7 _) (λ_=>by simp) rfl
 ·trivial
theorem Vb(P:Program)(S:St)(o:Oper)(t:TypeId)(E:o.op=.alloc t):aN P S o (uF P S.mem (keyOf o) t):=by
 unfold uF;split
 ·rename_i zs An;split
  ·split
   ·rename_i Ay;exact afT P S o t E _ _ _ Ay zs An
   ·exact JA P S o t E zs An
  ·exact JA P S o t E zs An
 ·trivial
def tI(P:Program)(m:Mem)(AE:Nat)(src dst:TypeId)(x:AV):dF:=
 match x with
 | .vec k ak off len=>match tk P dst with
  | .slice e=>match decide (src=dst),tk P e,Mem.get m k with
   |true,.int .u8,some ⟨_,v,.vec sz aj⟩=>.dp (decide (v=ak/\0<len)) (.vec k ak off len) ⟨k,ak,.vec sz aj⟩
   |_,_,_=>.no
  |_=>mV P m AE src dst (.vec k ak off len)
 |x=>mV P m AE src dst x
theorem YM(P:Program)(S:St)(o:Oper)(src dst:TypeId)(x:Operand)(E:o.op=.convert src dst x)(M:(S.aq x).1=true):aN P S o (tI P S.mem (keyOf o) src dst (S.aq x).2):=by
 unfold tI;split
 ·rename_i k ak off len A8;split
  ·rename_i e Y;split
   ·rename_i key v sz aj BL Bp A3;refine aN.sS ?_;rintro ⟨rfl,BT⟩ φ G a w I;have BL:src=dst:=adL BL;subst BL;obtain⟨hm,V,L,A5,A6,Ai⟩:=I.mem.get A3;simp only at V A6;subst V;have AA:=I.aq x M;rw[A8]at AA;have Bq:=AA;generalize B7:a.eval x=CG at AA Bq;cases AA with
    |vec _ _ _ _ _ L' Ak _ h Br=>
     rw[A5]at Ak;cases Ak;obtain⟨ao,cap,rfl,BU,Al⟩:=h A6.symm;obtain⟨rfl,BS⟩:=Al (by omega);have BM:0<L.cap:=by omega
     obtain⟨Bs,Bt,Bu,Bv⟩:=Ai;obtain⟨arr,elem,⟨fr,hh,Bw⟩,BV,BW,BJ⟩:=Bv BM;obtain⟨w',AY⟩:∃w',w'=w.freeze ⟨L.dO,arr.size,none⟩ 1:=⟨_,rfl⟩;have BK:fu w' L.dO arr elem:=by
      obtain⟨lo,hi⟩:=fr;rw[AY];by_cases he:lo=hi
      ·refine⟨(arr.size,arr.size+1),?_,.inr (aa7 _)⟩;simp[World.freeze,ajl,hh,he]
      ·refine⟨(min lo arr.size,max hi (arr.size+1)),?_,?_⟩
       ·simp[World.freeze,ajl,hh,he]
       ·right;rcases Bw with h|h
        ·cases h;exact absurd rfl he
        ·simp only at h⊢;omega
     have hold:∀b,b≠L.dO->w'.heap[b]?=w.heap[b]?:=by
      intro b AB;rw[AY];simp only[World.freeze,Nat.one_ne_zero,adW,ajl];rw[aa4 (λe=>AB e.symm)]
     have CH:w'.heap.size=w.heap.size:=by rw[AY];simp[World.freeze]
     have BN:w'.os=w.os:=by rw[AY];simp[World.freeze]
     have Bx:w'.tape=w.tape:=by rw[AY];simp[World.freeze]
     have By:w'.output=w.output:=by rw[AY];simp[World.freeze]
     have BE:Fo G φ S.mem L.dO:=.inr ⟨_,hm,L,A5,BM,rfl⟩;obtain⟨φ',AT,AU,Ad,AM⟩:=I.mem.dp (e:=⟨key,v,.vec sz aj⟩) (e':=⟨key,v,.vec sz aj⟩) hm A5 rfl (L':=L) (aa7 _) (λ_=>rfl) A6
      (w':=w') (λb _ Z=>hold b (λhe=>Z ⟨BM,he.symm⟩)) (by omega) (λ_ E=>.inl E) BN Bx By (λφ' B8 Bf=>by
       have Aj:∀b,Fo G φ' (Mem.set S.mem ⟨key,v,.vec sz aj⟩) b->Fo G φ S.mem b:=by
        rintro b (BD|⟨y,AF,As,AH,Ae⟩)
        ·exact .inl BD
        ·right;rcases (Mem.mem_set I.mem.nodup).1 AF with ⟨rfl,_⟩|⟨Au,AI⟩
         ·rw[B8]at AH;simp at AH;subst AH;exact⟨_,hm,L,A5,Ae⟩
         ·simp only at AI;rw[B8]at AH;simp[AI]at AH;exact⟨y,Au,As,AH,Ae⟩
       exact⟨Bs,Bt,Bu,λ_=>⟨arr,elem,BK,BV,BW,λi d Y=>let ⟨u,hu,A0⟩:=BJ i d Y
        ⟨u,hu.mono (λb _ Z=>hold b (λhe=>Z (he▸BE))) (by omega) (λb _=>Aj b),A0⟩⟩⟩)
     refine⟨.slice (some ⟨L.dO,L.base+off*L.sz,none⟩) len cap,w',φ',.inl ?_,.vec key v off len _ L Ad (Nat.le_of_eq A6.symm) (λ_=>⟨_,_,rfl,BU,Al⟩) Br,AT,AU,AM⟩;have Bz:w.shape? L.dO=some (elem,arr.size):=by simp[World.shape?,hh]
     have C':(markStringish ⟨L.dO,L.base+off*L.sz,none⟩).run P w=.ok () w':=by
      simp only[markStringish,shape,Sem.run_bind,Sem.run,Bz,Result.andThen_ok,freeze,AY]
     simp[execOp,E,B7,convert,run_underlying (gr Y),run_underlying (xE Bp),Sem.run_bind,C']
   ·trivial
  ·rw[<-A8];exact N5 P S o src dst x E M
 ·exact N5 P S o src dst x E M
def J2(P:Program)(s:TypeId)(f:Nat):Option TypeId:=
 match P.underlying s with
 |some (.struct AO)=>match AO[f]? with
  |some fl=>some fl.type
  |none=>none
 |_=>none
def xH(P:Program)(s:TypeId)(x:AV)(f:Nat):dF:=
 match x with
 | .d (.agg cs)=>match yE P s f,J2 P s f with
  |some off,some e=>match (tk P e).agg,fT P e with
   |false,some 1=>.val (off<cs.length/\tk P e≠.other) (.d (D.at cs off))
   |true,some sz=>.val (off+sz<=cs.length) (.d (.agg ((cs.drop off).take sz)))
   |_,_=>.no
  |_,_=>.no
 | .agg cs=>match yE P s f,J2 P s f with
  |some off,some e=>match (tk P e).agg,fT P e,cs[off]? with
   |false,some 1,some c=>.val (tk P e≠.other) c
   |_,_,_=>.no
  |_,_=>.no
 |_=>.no
theorem HM{P:Program}{s:TypeId}{f off:Nat}{e:TypeId}(h:yE P s f=some off)(he:J2 P s f=some e):∃AO fl,P.underlying s=some (.struct AO)/\AO[f]?=some fl/\fl.offset=off/\fl.type=e:=by
 unfold yE at h;unfold J2 at he;split at h
 ·rename_i AO AZ;rw[AZ]at he;simp only at he;split at h
  ·rename_i fl A_;rw[A_]at he;cases he;split at h
   ·split at h
    ·cases h
    ·cases h;exact⟨AO,fl,AZ,A_,rfl,rfl⟩
   ·cases h
  ·cases h
 ·cases h
theorem Vd(P:Program)(S:St)(o:Oper)(s:TypeId)(x:Operand)(f:Nat)(E:o.op=.field s x f)(M:(S.aq x).1=true):aN P S o (xH P s (S.aq x).2 f):=by
 unfold xH;split
 ·rename_i cs A8;split
  ·rename_i off e BO BP;obtain⟨AO,fl,AZ,A_,rfl,rfl⟩:=HM BO BP;split
   ·rename_i Ao A9;refine aN.pure ?_;rintro ⟨CI,AI⟩ φ G a w I;have H:=I.aq x M;rw[A8]at H;generalize A4:a.eval x=av at H;cases H with|d _ _ H=>
    cases H with|agg _ AC Ba C0 Az=>
    have Ap:fl.offset<AC.size:=by omega
    refine⟨AC[fl.offset],?_,.d _ _ (Az fl.offset _ _ (j9 (by omega)) (by simp[Ap]))⟩;have A':=uB (P:=P) (w:=w) (t:=fl.type) (cs:=AC) (off:=fl.offset) Ao AI (v:=AC[fl.offset]) (by simp[Ap]);simp[execOp,E,A4,Instr.field,run_underlying AZ,A_,asAgg,A']
   ·rename_i sz Ao A9;refine aN.pure ?_;rintro hle φ G a w I;have H:=I.aq x M;rw[A8]at H;generalize A4:a.eval x=av at H;cases H with|d _ _ H=>
    have C1:=H;cases H with|agg _ AC Ba C0 Az=>
    refine⟨_,?_,.d _ _ (Ab C1 fl.offset sz hle)⟩;have A':=HI (P:=P) (w:=w) (t:=fl.type) (cs:=AC) (off:=fl.offset) Ao A9;simp[execOp,E,A4,Instr.field,run_underlying AZ,A_,asAgg,A']
   ·trivial
  ·trivial
 ·rename_i cs A8;split
  ·rename_i off e BO BP;obtain⟨AO,fl,AZ,A_,rfl,rfl⟩:=HM BO BP;split
   ·rename_i c Ao A9 T;refine aN.pure ?_;rintro AI φ G a w I;have H:=I.aq x M;rw[A8]at H;generalize A4:a.eval x=av at H;cases H with|agg _ AC Ba CJ Az=>
    have Ap:fl.offset<AC.size:=by have:=(aa1.1 T).1;omega
    refine⟨AC[fl.offset],?_,Az fl.offset c _ T (by simp[Ap])⟩;have A':=uB (P:=P) (w:=w) (t:=fl.type) (cs:=AC) (off:=fl.offset) Ao AI (v:=AC[fl.offset]) (by simp[Ap]);simp[execOp,E,A4,Instr.field,run_underlying AZ,A_,asAgg,A']
   ·trivial
  ·trivial
 ·trivial
def B9(P:Program)(x:AV)(asserted:TypeId)(ok:Bool):dF:=
 match x with
 | .im t d=>match decide (t=asserted),ok with
  |true,true=>.val (tk P asserted≠.other/\tk P asserted≠.iface) (.bg [.d d,.d (.bool true)])
  |true,false=>.val (tk P asserted≠.other/\tk P asserted≠.iface) (.d d)
  |_,_=>.no
 |_=>.no
theorem afV{P:Program}{t:TypeId}(h:tk P t≠.other)(O:tk P t≠.iface):∃d,P.underlying t=some d/\∀ms,d≠.interface ms:=by
 unfold tk at h O;cases hu:P.underlying t with
 |none=>rw[hu]at h;exact absurd rfl h
 |some d=>
  refine⟨d,rfl,λms Y=>?_⟩;subst Y;rw[hu]at O;exact O rfl
theorem EU{P:Program}{w:World}{t C2 asserted:TypeId}{v:Value}{ok:Bool}(h:tk P asserted≠.other)(O:tk P asserted≠.iface)(A7:t=asserted):
 (Instr.typeAssert (.iface t v) C2 asserted ok).run P w=.ok (if ok then .tuple #[v,.bool true]else v) w:=by
 obtain⟨d,Y,Z⟩:=afV h O;subst A7;simp only[Instr.typeAssert,Sem.run_bind,run_underlying Y,Result.andThen_ok];cases d with
 |interface ms=>exact absurd rfl (Z ms)
 |_=>simp
theorem Ve(P:Program)(S:St)(o:Oper)(x:Operand)(BQ asserted:TypeId)(ok:Bool)(E:o.op=.typeAssert x BQ asserted ok)(M:(S.aq x).1=true):aN P S o (B9 P (S.aq x).2 asserted ok):=by
 unfold B9;split
 ·rename_i t d A8;split
  ·rename_i A7;have A7:t=asserted:=by simpa using A7
   refine aN.pure ?_;rintro ⟨H,O⟩ φ G a w I;have AL:=I.aq x M;rw[A8]at AL;generalize A4:a.eval x=av at AL;cases AL with|im _ _ v Y=>
   refine⟨.tuple #[v,.bool true],by simp[execOp,E,A4,EU H O A7],.bg _ _ rfl λi c u T hu=>?_⟩;match i,T,hu with
   |0,T,hu=>simp at T hu;subst T hu;exact .d _ _ Y
   |1,T,hu=>simp at T hu;subst T hu;exact .d _ _ (.bool _)
   |i+2,T,hu=>simp at T
  ·rename_i A7;have A7:t=asserted:=by simpa using A7
   refine aN.pure ?_;rintro ⟨H,O⟩ φ G a w I;have AL:=I.aq x M;rw[A8]at AL;generalize A4:a.eval x=av at AL;cases AL with|im _ _ v Y=>
   exact⟨v,by simp[execOp,E,A4,EU H O A7],.d _ _ Y⟩
  ·trivial
 ·trivial
def du(P:Program)(S:St)(o:Oper):dF:=
 match o.op with
 | .move x=>tH P S.mem (keyOf o) o.type (S.aq x).2
 | .assign x=>tH P S.mem (keyOf o) o.type (S.aq x).2
 | .pick c a b=>I9 (S.aq c) (S.aq a) (S.aq b)
 | .alloc t=>uF P S.mem (keyOf o) t
 | .box _ x=>sU S.mem (keyOf o) (S.aq x).2.lV (S.aq x).2.cells
 | .load t x=>mR P S.mem t (S.aq x).2
 | .store t p x=>pR P S.mem t (S.aq p).2 (S.aq x).2
 | .fieldAddr s x f=>pv P S.mem s f (S.aq x).2
 | .nilCheck x=>jG S.mem (S.aq x).2
 | .indexAddr t x i=>nb P S.mem t (S.aq x).2 (S.aq i).2
 | .index t x i=>qU P t (S.aq x).2 (S.aq i).2
 | .slice t x lo hi none=>ly P S.mem t (S.aq x).2 (lo.map λy=>(S.aq y).2) (hi.map λy=>(S.aq y).2)
 | .binOp op t x y _=>sn P S op t x y
 | .unOp op _ x=>JS op (S.aq x).2
 | .convert s d x=>tI P S.mem (keyOf o) s d (S.aq x).2
 | .makeInterface t x=>tG P t (S.aq x).2
 | .makeFunc f first cap=>py f (first.toList.map λx=>(S.aq x).2) (cap.toList.map λx=>(S.aq x).2)
 | .makeSlice t l c=>yK P S.mem (keyOf o) t (S.aq l).2 (S.aq c).2
 | .build t ps=>EP P t (ps.toList.map λx=>(x.1,(S.aq x.2).2))
 | .buildSlice t len ps=>kH P S.mem (keyOf o) t len (ps.toList.map λx=>(x.1,(S.aq x.2).2))
 | .extract x i=>uD i (S.aq x).2
 | .field s x f=>xH P s (S.aq x).2 f
 | .typeAssert x _ t ok=>B9 P (S.aq x).2 t ok
 | .call {callee:=.builtin b,args,argTypes}=>lW P S o b args.toList argTypes.toList
 |_=>.no
theorem J3(P:Program)(S:St)(o:Oper)(h:gR S o=true):aN P S o (du P S o):=by
 unfold gR at h;unfold du;have one:∀{l:List Operand},jh S l=true->∀x∈l,(S.aq x).1=true:=vH;split
 ·rename_i x E;simp only[E]at h;exact JZ P S o x (.inl E) (one h x (by simp[Op.operands]))
 ·rename_i x E;simp only[E]at h;exact JZ P S o x (.inr E) (one h x (by simp[Op.operands]))
 ·rename_i c a b E;exact ad4 P S o c a b E
 ·rename_i t E;exact Vb P S o t E
 ·rename_i t x E;simp only[E]at h;exact afu P S o t x E (one h x (by simp[Op.operands]))
 ·rename_i t x E;simp only[E]at h;exact (NV P S o t x E (one h x (by simp[Op.operands]))).res
 ·rename_i t p x E;simp only[E]at h;exact Yy P S o t p x E (one h p (by simp[Op.operands])) (one h x (by simp[Op.operands]))
 ·rename_i s x f E;simp only[E]at h;exact YF P S o s x f E (one h x (by simp[Op.operands]))
 ·rename_i x E;simp only[E]at h;exact No P S o x E (one h x (by simp[Op.operands]))
 ·rename_i t x i E;simp only[E]at h;exact YG P S o t x i E (one h x (by simp[Op.operands])) (one h i (by simp[Op.operands]))
 ·rename_i t x i E;simp only[E]at h;exact U4 P S o t x i E (one h x (by simp[Op.operands])) (one h i (by simp[Op.operands]))
 ·rename_i t x lo hi E;simp only[E]at h;exact YJ P S o t x lo hi E (one h x (by simp[Op.operands])) (λy AF=>one h y (by simp[Op.operands,AF])) (λy AF=>one h y (by simp[Op.operands,AF]))
 ·rename_i op t x y AW E;simp only[E]at h;exact U8 P S o op t AW x y E (one h x (by simp[Op.operands])) (one h y (by simp[Op.operands]))
 ·rename_i op t x E;simp only[E]at h;exact akH P S o op t x E (one h x (by simp[Op.operands]))
 ·rename_i s d x E;simp only[E]at h;exact YM P S o s d x E (one h x (by simp[Op.operands]))
 ·rename_i t x E;simp only[E]at h;exact JT P S o t x E (one h x (by simp[Op.operands]))
 ·rename_i f first cap E;simp only[E]at h;exact Np P S o f first cap E (λx M=>one h x (by simp[Op.operands];left;simpa using M)) (λx M=>one h x (by simp[Op.operands];right;simpa using M))
 ·rename_i t l c E;simp only[E]at h;exact ad0 P S o t l c E (one h l (by simp[Op.operands])) (one h c (by simp[Op.operands]))
 ·rename_i t ps E;simp only[E]at h;exact YK P S o t ps E (λx M=>one h x.2 (by simp only[Op.operands,List.toList_toArray,abz];exact⟨x,M,rfl⟩))
 ·rename_i t len ps E;simp only[E]at h;exact I1 P S o t len ps E (λx M=>one h x.2 (by simp only[Op.operands,List.toList_toArray,abz];exact⟨x,M,rfl⟩))
 ·rename_i x i E;simp only[E]at h;exact RV P S o x i E (one h x (by simp[Op.operands]))
 ·rename_i s x f E;simp only[E]at h;exact Vd P S o s x f E (one h x (by simp[Op.operands]))
 ·rename_i x BQ t ok E;simp only[E]at h;exact Ve P S o x BQ t ok E (one h x (by simp[Op.operands]))
 ·rename_i b args ts E;simp only[E]at h;have AR:∀x∈args.toList,(S.aq x).1=true:=λx M=>one h x (by simp[Op.operands,Call.operands];simpa using M);have B':∀{l:List Operand},args.toList=l->args=l.toArray:=λh=>by rw[<-h]
  have B0:∀{l:List TypeId},ts.toList=l->ts=l.toArray:=λh=>by rw[<-h]
  unfold lW;split
  ·rename_i x t H O;rw[B' H,B0 O]at E;exact afL P S o x t E (AR x (by simp[H]))
  ·rename_i s x t u H O;rw[B' H,B0 O]at E;exact YL <| afG P S o s x t u E (AR s (by simp[H])) (AR x (by simp[H]))
  ·rename_i s x t u H O;rw[B' H,B0 O]at E;exact ad1 P S o s x t u E (AR s (by simp[H])) (AR x (by simp[H]))
  ·exact U6 P S o true args ts (by simpa using E) AR
  ·exact U6 P S o false args ts (by simpa using E) AR
  ·rename_i x t H O;rw[B' H,B0 O]at E;exact afR P S o x t E (AR x (by simp[H]))
  ·trivial
 ·trivial
inductive XE where
 |normal
 |exit (id:Nat)
 |ret
 |panic (t:TypeId) (x:D)
def oc(n:Nat)(φ:bW)(G:Fr)(m:Mem)(w:World)(Q:XE->St->Prop):Exit->Act->World->Prop
 | .normal,U,w'=>∃φ' J,J.n=n/\Q .normal J/\Rel φ' G J U w'/\aX φ m w φ' J.mem w'
 | .exit id,U,w'=>∃φ' J,J.n=n/\Q (.exit id) J/\Rel φ' G J U w'/\aX φ m w φ' J.mem w'
 | .ret,U,w'=>∃φ' J,J.n=n/\Q .ret J/\Rel φ' G J U w'/\aX φ m w φ' J.mem w'
 | .panic chain,U,w'=>∃φ' J t x v,chain=[{v:=.iface t v,recovered:=false}]/\aQ w' (Fo G φ' J.mem) x v/\J.n=n/\Q (.panic t x) J/\Rel φ' G J U w'/\aX φ m w φ' J.mem w'
 |_,_,_=>False
theorem oc.weaken{n φ G m w Q Aa Bb AS e U w'}(V:aX φ m w Aa Bb AS)(h:oc n Aa G Bb AS Q e U w'):oc n φ G m w Q e U w':=by
 cases e with
 |normal=>obtain⟨φ',J,A1,H,O,A2⟩:=h;exact⟨φ',J,A1,H,O,V.trans A2⟩
 |exit id=>obtain⟨φ',J,A1,H,O,A2⟩:=h;exact⟨φ',J,A1,H,O,V.trans A2⟩
 |ret=>obtain⟨φ',J,A1,H,O,A2⟩:=h;exact⟨φ',J,A1,H,O,V.trans A2⟩
 |panic chain=>obtain⟨φ',J,t,x,v,T,Y,A1,H,O,A2⟩:=h;exact⟨φ',J,t,x,v,T,Y,A1,H,O,V.trans A2⟩
 |_=>exact h.elim
theorem oc.mono{n φ G m w Q Aq e U w'}(AD:∀e S,Q e S->Aq e S)(h:oc n φ G m w Q e U w'):oc n φ G m w Aq e U w':=by
 cases e with
 |normal=>obtain⟨φ',J,A1,H,O⟩:=h;exact⟨φ',J,A1,AD _ _ H,O⟩
 |exit id=>obtain⟨φ',J,A1,H,O⟩:=h;exact⟨φ',J,A1,AD _ _ H,O⟩
 |ret=>obtain⟨φ',J,A1,H,O⟩:=h;exact⟨φ',J,A1,AD _ _ H,O⟩
 |panic chain=>obtain⟨φ',J,t,x,v,T,Y,A1,H,O⟩:=h;exact⟨φ',J,t,x,v,T,Y,A1,AD _ _ H,O⟩
 |_=>exact h.elim
def ng(P:Program)(c:Code)(S:St)(Q:XE->St->Prop):Prop:=
 ∀φ G a w,Rel φ G S a w->c.wp P (oc S.n φ G S.mem w Q) a w
def pT(all:List Oper)(S:St)(j:Nat):Option (Bool×AV):=
 match all[j]? with
 |some o=>match o.dst with
  |some t=>Env.lk S.env t
  |none=>none
 |none=>none
def ki(n:Nat)(ops:List Oper):Bool:=ops.all λo=>match o.dst with|some t=>decide (t<n)|none=>true
theorem mW(S:St)(d g x):(S.put d g x).n=S.n:=by cases d<;>rfl
theorem fQ(S:St)(d g x):(S.put d g x).mem=S.mem:=by cases d<;>rfl
theorem EH.step{P:Program}{o:Oper}{a:Act}{w w':World}{v:Value}{next R}(h:EH P o a w v w')(Z:next (a.put o.dst v) w'):o.wp P a w next R:=by
 unfold Oper.wp;rcases h with h|⟨h,rfl⟩<;>rw[h]<;>exact Z
theorem Rel.grow{φ G S a w w'}(h:Rel φ G S a w)(hold:∀b,b<w.heap.size->w'.heap[b]?=w.heap[b]?)(A9:w.heap.size<=w'.heap.size):Rel φ G S a w':=
 ⟨h.size,h.defers,λt x M=>(h.env t x M).mono (bW.le_refl _) (λb AB _=>hold b AB) A9 (λ_ _ h=>h),h.mem.grow hold A9,h.lg.mono (λb AB _=>hold b AB) A9 (λ_ _ h=>h)⟩
theorem YN{P:Program}{S:St}{o:Oper}{c:Bool}{x:AV}{gb:Bool}(I:aN P S o (.val c x))(T:c=true){φ G a w}(h:Rel φ G S a w)(Y:∀t,o.dst=some t->t<S.n){next:Act->World->Prop}{R}
 (Z:∀U w',Rel φ G (S.put o.dst gb x) U w'->aX φ S.mem w φ S.mem w'->next U w'):o.wp P a w next R:=by
 obtain⟨v,w',BR,A4,hold,A9,BN,A7,C3⟩:=I T φ G a w h;exact BR.step (Z _ _ ((h.grow hold A9).put o.dst Y gb x v (λ_=>A4)) (aX.grow hold A9 BN A7 C3))
theorem YO{P:Program}{S:St}{o:Oper}{c:Bool}{x:AV}{e:cJ}(I:aN P S o (.dp c x e))(T:c=true){φ G a w}(h:Rel φ G S a w)(Y:∀t,o.dst=some t->t<S.n){next:Act->World->Prop}{R}
 (Z:∀φ' U w',Rel φ' G (({S with mem:=Mem.set S.mem e}:St).put o.dst true x) U w'->aX φ S.mem w φ' (Mem.set S.mem e) w'->next U w'):o.wp P a w next R:=by
 obtain⟨v,w',φ',BR,A4,hm,V,_⟩:=I T φ G a w h;exact BR.step (Z φ' _ _ ((h.Av hm V).put o.dst Y true x v (λ_=>A4)) V)
theorem Vf{all:List Oper}{S:St}{j:Nat}{b:Bool}{φ G a w}(h:Rel φ G S a w)(A3:pT all S j=some (true,.d (.bool b))):yielded all.toArray a.tmps j=some b:=by
 unfold pT at A3;split at A3
 ·rename_i o E;split at A3
  ·rename_i t A7;have:=tY (h.env t _ A3);unfold yielded;simp only[af4,E,adV,A7];rw[abr]at this;cases AD:a.tmps[t]? with
   |none=>simp[AD,undef]at this
   |some v=>simp[AD]at this;simp[this]
  ·cases A3
 ·cases A3
section
variable {P:Program} {S:St} {Q:XE->St->Prop}
theorem ng.mono{c:Code}{Aq:XE->St->Prop}(h:ng P c S Q)(AD:∀e S,Q e S->Aq e S):ng P c S Aq:=
 λφ G a w I=>wp_mono (h φ G a w I) λ_ _ _ A'=>A'.mono AD
def St.prune(S:St)(qV:List Nat):St:={S with env:=qV.filterMap λt=>(Env.lk S.env t).map λx=>(t,x)}
theorem uG(env:Env):∀(qV:List Nat)(t:Nat)(x:Bool×AV),Env.lk (qV.filterMap λt=>(Env.lk env t).map λx=>(t,x)) t=some x->Env.lk env t=some x
 |[],t,x,h=>by simp[Env.lk]at h
 |k::r,t,x,h=>by
  simp only[List.filterMap_cons]at h;cases V:Env.lk env k with
  |none=>simp[V]at h;exact uG env r t x h
  |some y=>
   simp only[V,agv,Env.lk]at h;by_cases Bc:k=t
   ·subst Bc;simp at h;subst h;exact V
   ·simp[Bc]at h;exact uG env r t x h
theorem Rel.prune{φ G a w}(h:Rel φ G S a w)(qV:List Nat):Rel φ G (S.prune qV) a w:=
 ⟨h.size,h.defers,λt x M=>h.env t x (uG _ _ _ _ M),h.mem,h.lg⟩
theorem N8{x y:Code}(h:ng P x S λe J=>match e with| .normal=>ng P y J Q|e=>Q e J):ng P (.seq x y) S Q:=by
 intro φ G a w I;refine wp_seq (wp_mono (h φ G a w I) λe U w' A'=>?_);cases e with
 |normal=>
  obtain⟨φ',J,Z,H,O,A2⟩:=A';exact wp_mono (H φ' G U w' O) λe a2 Ar Bd=>by rw[Z]at Bd;exact Bd.weaken A2
 |_=>exact A'
theorem J4{c:Operand}{x y:Code}{b:Bool}(T:S.aq c=(true,.d (.bool b)))(A7:b=true->ng P x S Q)(C4:b=false->ng P y S Q):ng P (.cond c x y) S Q:=by
 intro φ G a w I;have AA:=I.aq c (by rw[T]);rw[T]at AA;have e:=tY AA;cases b
 ·exact wp_cond_false e (C4 rfl φ G a w I)
 ·exact wp_cond_true e (A7 rfl φ G a w I)
theorem YP(h:Q .normal S):ng P .skip S Q:=λφ _ _ _ I=>wp_skip ⟨φ,S,rfl,h,I,aX.refl ..⟩
theorem ad6(h:Q .ret S):ng P .ret S Q:=λφ _ _ _ I=>wp_ret ⟨φ,S,rfl,h,I,aX.refl ..⟩
theorem YQ{id:Nat}(h:Q (.exit id) S):ng P (.exit id) S Q:=λφ _ _ _ I=>wp_exit ⟨φ,S,rfl,h,I,aX.refl ..⟩
theorem AQ{id:Nat}{c:Code}(h:ng P c S λe J=>match e with| .exit B1=>if B1=id then Q .normal J else Q (.exit B1) J|e=>Q e J):ng P (.block id c) S Q:=by
 intro φ G a w I;refine wp_block (wp_mono (h φ G a w I) λe U w' A'=>?_);cases e with
 |exit B1=>
  obtain⟨φ',J,Z,H,O,A2⟩:=A';simp only[Exit.inBlock];by_cases hid:B1=id
  ·simp only[hid,afz]at H⊢;exact⟨φ',J,Z,H,O,A2⟩
  ·simp only[hid,adW]at H⊢;exact⟨φ',J,Z,H,O,A2⟩
 |_=>exact A'
theorem YR{c:Code}{α:Type}(AK:α->St)(B2:α->Prop)(B3:α->Nat)(Ac:α)(C5:S=AK Ac)(A1:B2 Ac)
 (round:∀x,B2 x->ng P c (AK x) λe J=>match e with| .normal=>∃Ag,J=AK Ag/\B2 Ag/\B3 Ag<B3 x|e=>Q e J):ng P (.loop c) S Q:=by
 intro φ G a w I;subst C5;intro b k cs;have key:∀n x Aa B4 AS,B3 x=n->B2 x->(AK x).n=(AK Ac).n->Rel Aa G (AK x) B4 AS->aX φ (AK Ac).mem w Aa (AK x).mem AS->
  ∃e U w',oc (AK Ac).n φ G (AK Ac).mem w Q e U w'/\Arrives P (lone (b.at B4 (.code c::.inLoop c::k)) cs AS) b k cs e U w':=by
  intro n;induction n using Nat.strongRecOn with
  |_ n ih=>
   intro x Aa B4 AS Z C6 B5 AL B6;obtain⟨e,a2,Ar,A',Ah⟩:=round x C6 Aa G B4 AS AL b (.inLoop c::k) cs;cases e with
   |normal=>
    obtain⟨BG,CK,C7,⟨Ag,rfl,C8,CL⟩,BC,C9⟩:=A';obtain⟨CA,a3,CB,CC,CD⟩:=ih (B3 Ag) (by omega) Ag BG a2 Ar rfl C8 (C7.trans B5) BC (B6.trans C9);exact⟨CA,a3,CB,CC,.of_steps (Steps.trans Ah (.one step_inLoop)) CD⟩
   |exit id=>exact⟨.exit id,a2,Ar,by rw[B5]at A';exact oc.weaken (e:=.exit id) B6 A',.pass (x:=.inLoop c) rfl (λ_ _=>.inl (by simp)) Ah⟩
   |goto l=>exact A'.elim
   |ret=>exact⟨.ret,a2,Ar,by rw[B5]at A';exact oc.weaken (e:=.ret) B6 A',.pass (x:=.inLoop c) rfl (λ_ _=>.inl (by simp)) Ah⟩
   |panic Be=>exact⟨.panic Be,a2,Ar,by rw[B5]at A';exact oc.weaken (e:=.panic Be) B6 A',.pass (x:=.inLoop c) rfl (λ_ _=>.inl (by simp)) Ah⟩
   |outgrown=>exact A'.elim
 obtain⟨e,U,w',AD,Ah⟩:=key _ Ac φ a w rfl A1 rfl I (aX.refl ..);exact⟨e,U,w',AD,.of_steps (.one step_loop) Ah⟩
end
inductive Out where
 |ret (x:AV)
 |panic (t:TypeId) (x:D)
def oC(φ:bW)(w:World)(F:Nat->Prop):Out->Ending->Prop
 | .ret x,.returned v=>aF φ w F x v
 | .panic t x,.panicked chain=>∃v,chain=[{v:=.iface t v,recovered:=false}]/\aQ w F x v
 |_,_=>False
def Ev(P:Program)(gl:List (Nat×D))(f:FuncId)(args:List AV)(m:Mem)(K:Out->Mem->Prop):Prop:=
 ∀φ G w (vs:Array Value),bx φ G m w->fg w (Fo G φ m) gl->args.length=vs.size->(∀(i:Nat) x v,args[i]?=some x->vs[i]?=some v->aF φ w (Fo G φ m) x v)->
  Calls P f vs w λe w'=>∃φ' m' out,K out m'/\bx φ' G m' w'/\aX φ m w φ' m' w'/\oC φ' w' (Fo G φ' m') out e
theorem Ev.mono{P gl f args m K K'}(h:Ev P gl f args m K)(H:∀o m,K o m->K' o m):Ev P gl f args m K':=
 λφ G w vs hm I A5 Af=>(h φ G w vs hm I A5 Af).mono λ_ _ ⟨φ',m',out,O,V⟩=>⟨φ',m',out,H _ _ O,V⟩
def kW:List Nat->Nat->Nat->Option Nat
 |[],_,_=>none
 |a::r,k,i=>if a=k then some i else kW r k (i+1)
theorem yN:∀{ρ:List Nat}{k j i:Nat},kW ρ k j=some i->j<=i/\ρ[i-j]?=some k
 |[],k,j,i,h=>by simp[kW]at h
 |a::r,k,j,i,h=>by
  simp only[kW]at h;split at h
  ·rename_i H;cases h;subst H;simp
  ·obtain⟨O,V⟩:=yN h;refine⟨by omega,?_⟩;rw[show i-j=(i-(j+1))+1 by omega];simpa using V
theorem kj:∀{ρ:List Nat}{k j:Nat},kW ρ k j=none↔k∉ρ
 |[],k,j=>by simp[kW]
 |a::r,k,j=>by
  simp only[kW,abd,anS];split
  ·rename_i H;subst H;simp
  ·rename_i H;rw[kj];constructor
   ·exact λh=>⟨λAg=>H Ag.symm,h⟩
   ·exact λh=>h.2
theorem Vg{ρ:List Nat}(AE:ρ.Nodup){i k:Nat}(h:ρ[i]?=some k):kW ρ k 0=some i:=by
 cases AC:kW ρ k 0 with
 |none=>exact absurd (abk h) (kj.1 AC)
 |some j=>
  obtain⟨_,V⟩:=yN AC;simp only[Nat.sub_zero]at V;obtain⟨hi,AF⟩:=aa1.1 h;obtain⟨T,AK⟩:=aa1.1 V;have:=(List.getElem_inj AE).1 (AF.trans AK.symm);rw[this]
def vK:List AV->Option (List D)
 |[]=>some []
 | .d x::r=>match x.flat,vK r with
  |true,some AT=>some (x::AT)
  |_,_=>none
 |_::_=>none
theorem HN:∀{l:List AV}{Y:List D},vK l=some Y->l=Y.map .d/\∀d∈Y,d.flat=true
 |[],Y,h=>by simp[vK]at h;subst h;simp
 |x::r,Y,h=>by
  unfold vK at h;split at h
  ·rename_i heq;cases heq
  ·rename_i y B9 heq;cases heq;split at h
   ·rename_i AT AC Ah;cases h;obtain⟨O,V⟩:=HN Ah;refine⟨by rw[O];rfl,λd A'=>?_⟩;rcases abd.1 A' with rfl|A'
    ·exact AC
    ·exact V d A'
   ·cases h
  ·cases h
def YS:Option (List D)->AV
 |some Y=>.d (.list Y)
 |none=>.bm
mutual
def vw(m:Mem)(ρ:List Nat)(bor:Nat->Bool)(nv:Nat->Nat->Nat):AV->AV
 | .ptr k ak off=>match Mem.get m k,kW ρ k 0 with
  |some e,some i=>if e.ak=ak then .ptr i (nv i ak) off else .bm
  |_,_=>.bm
 | .vec k ak off len=>match Mem.get m k,kW ρ k 0 with
  |some e,some i=>if e.ak=ak then .vec i (nv i ak) off len else .bm
  |some ⟨_,v,.vec _ aj⟩,none=>if bor k=true/\v=ak/\off+len<=aj.length then .d (.list ((aj.drop off).take len))else .bm
  |some ⟨_,v,.box cs⟩,none=>if bor k=true/\v=ak/\off+len<=cs.length then YS (vK ((cs.drop off).take len))else .bm
  |_,_=>.bm
 | .cS k ak i j=>match Mem.get m k,kW ρ k 0 with
  |some e,some n=>if e.ak=ak then .cS n (nv n ak) i j else .bm
  |_,_=>.bm
 | .agg cs=>.agg (sq m ρ bor nv cs)
 | .fn f cap=>.fn f (sq m ρ bor nv cap)
 | .bg vs=>.bg (sq m ρ bor nv vs)
 | .bm=>.bm
 | .d x=>.d x
 | .ea x j=>.ea x j
 | .im t x=>.im t x
 | .lit v=>.lit v
 | .nn=>.nn
 | .err=>.err
def sq(m:Mem)(ρ:List Nat)(bor:Nat->Bool)(nv:Nat->Nat->Nat):List AV->List AV
 |[]=>[]
 |x::r=>vw m ρ bor nv x::sq m ρ bor nv r
end
theorem tZ(m ρ bor nv):∀(l:List AV)(i:Nat),(sq m ρ bor nv l)[i]?=(l[i]?).map (vw m ρ bor nv)
 |[],i=>by simp[sq]
 |x::r,i=>by cases i with|zero=>simp[sq]|succ i=>simp[sq,tZ m ρ bor nv r i]
theorem lX(m ρ bor nv):∀(l:List AV),(sq m ρ bor nv l).length=l.length
 |[]=>rfl
 |x::r=>by simp[sq,lX m ρ bor nv r]
def bW.iG(φ:bW)(ρ:List Nat)(nv:Nat->Nat->Nat):bW:=λi=>
 match ρ[i]? with
 |some k=>(φ k).map λL=>{L with ak:=nv i L.ak}
 |none=>none
def AR(φ:bW)(m:Mem)(ρ:List Nat)(b:Nat):Prop:=∃k∈ρ,∃e L,Mem.get m k=some e/\φ k=some L/\e.cont.dc L b
theorem AR.own{φ m ρ b}(h:AR φ m ρ b):jc φ m b:=by
 obtain⟨k,_,e,L,I,E,A2⟩:=h;obtain⟨hm,rfl⟩:=Mem.get_mem I;exact⟨e,hm,L,E,A2⟩
theorem EW{φ G m w}(h:bx φ G m w){ρ:List Nat}{k:Nat}{e:cJ}{L:Loc}{b:Nat}(I:Mem.get m k=some e)(E:φ k=some L)(A2:e.cont.dc L b)(H:k∉ρ):¬AR φ m ρ b:=by
 rintro ⟨Ai,AG,e',L',Aj,M,Ak⟩;obtain⟨hm,rfl⟩:=Mem.get_mem I;obtain⟨Al,rfl⟩:=Mem.get_mem Aj;have:=h.apart e' Al e hm L' L M E ⟨b,Ak,A2⟩;exact H (this▸AG)
section
variable {φ:bW} {G:Fr} {m:Mem} {w:World} {ρ:List Nat} {bor:Nat->Bool} {nv:Nat->Nat->Nat} {AH:Nat->Prop}
theorem GJ{k i:Nat}{L:Loc}(hi:kW ρ k 0=some i)(E:φ k=some L):φ.iG ρ nv i=some {L with ak:=nv i L.ak}:=by
 obtain⟨_,V⟩:=yN hi;simp only[Nat.sub_zero]at V;simp[bW.iG,V,E]
theorem afW(hm:bx φ G m w)(A4:∀b,AH b->Fo G φ m b)
 (AI:∀k e L b,Mem.get m k=some e->k∉ρ->bor k=true->φ k=some L->e.cont.dc L b->¬AH b) {y v} (h:aF φ w (Fo G φ m) y v):aF (φ.iG ρ nv) w AH (vw m ρ bor nv y) v:=by
 induction h with
 |bm v=>exact .bm v
 |d x v h=>exact .d x v (h.mono (λ_ _ _=>rfl) (aa7 _) (λb _=>A4 b))
 |agg cs a A5 O _ ih=>
  refine .agg _ a (by rw[lX];exact A5) O (λi c v J U=>?_);rw[tZ]at J;obtain⟨y,A6,rfl⟩:=aba.1 J;exact ih i y v A6 U
 |ptr k ak off v L E U h O=>
  unfold vw;split
  ·rename_i e i I hi;split
   ·rename_i he;obtain⟨_,_,L',M,Z,_⟩:=hm.get I;rw[E]at M;cases M;have A8:L.ak=ak:=by rw[Z];exact he
    refine .ptr i _ off v _ (GJ hi E) (by simp[A8]) (λ_=>h A8.symm) O
   ·exact .bm _
  ·exact .bm _
 |vec k ak off len v L E U h O=>
  unfold vw;split
  ·rename_i e i I hi;split
   ·rename_i he;obtain⟨_,_,L',M,Z,_⟩:=hm.get I;rw[E]at M;cases M;have A8:L.ak=ak:=by rw[Z];exact he
    refine .vec i _ off len v _ (GJ hi E) (by simp[A8]) (λ_=>h A8.symm) O
   ·exact .bm _
  ·rename_i key AD sz aj I hi;split
   ·rename_i J;obtain⟨AA,rfl,hle⟩:=J;obtain⟨_,_,L',M,Z,A0⟩:=hm.get I;rw[E]at M;cases M;refine .d _ _ (DD (.vec k AD off len v L E U h O) E Z A0 hle A4 (λA2=>?_));exact AI k _ L _ I (kj.1 hi) AA E ⟨A2,rfl⟩
   ·exact .bm _
  ·rename_i key AD cs I hi;split
   ·rename_i J;obtain⟨AA,rfl,hle⟩:=J;obtain⟨_,_,L',M,Z,A0⟩:=hm.get I;rw[E]at M;cases M;obtain⟨⟨An,z2,z3⟩,arr,elem,AU,BA,Ao,Ap⟩:=A0;cases Aq:vK ((cs.drop off).take len)with
    |none=>exact .bm _
    |some Y=>
     obtain⟨AW,Ar⟩:=HN Aq;obtain⟨ao,cap,rfl,BB,AX⟩:=h Z.symm;have As:Y.length=len:=by
      have:=agt List.length AW;simp at this;omega
     refine .d _ _ ?_;by_cases AL:len=0
     ·have:Y=[]:=abv (by omega);subst this;subst AL;refine .nil _ _ (λAE=>?_);cases cap with
      |zero=>rfl
      |succ c=>have:=(AX (by omega)).1;rw[AE]at this;cases this
     ·obtain⟨rfl,_⟩:=AX (by omega);rw[<-As];have AY:∀(i:Nat) d,Y[i]?=some d->∃u,arr[off+i]?=some u/\aQ w AH d u/\cG u=true:=by
       intro i d A';have hi:i<Y.length:=(aa1.1 A').1;have Au:cs[off+i]?=some (.d d):=by
        have:=agt (·[i]?) AW;simp only[ads,adK,adz,A']at this;rw[abf (by omega)]at this;simpa using this
       have AZ:off+i<arr.size:=by omega
       have AM:=Ap (off+i) _ arr[off+i] Au (by simp[AZ]);cases AM with
       |d _ _ AM=>exact⟨_,by simp[AZ],AM.mono (λ_ _ _=>rfl) (aa7 _) (λb _=>A4 b),Ao _ (by simp)⟩
      have Av:L.dO<w.heap.size:=AU.lt;refine .list Y _ _ cap 1 (λi=>(arr[off+i]?).getD undef) (by omega) Av (AI k _ L _ I (kj.1 hi) AA E rfl) (λd A'=>?_) (λi d A'=>?_) (λi j c Aw T=>?_)
      ·have:=Ar d A';cases d<;>simp_all [D.flat,D.size]
      ·obtain⟨u,O,V,_⟩:=AY i d A';simp only[O,afU];exact V
      ·obtain⟨u,O,V,AF⟩:=AY i Y[i] (by simp[Aw]);simp only[O,afU,ew AF]at T;have Ax:j=0:=by
        have:=(adU.1 T).1;simpa using this
       subst Ax;simp at T;subst T;rw[gY AU,An,z2];simpa using O
   ·exact .bm _
  ·exact .bm _
 |cS k ak i j v L E U h O=>
  unfold vw;split
  ·rename_i e n I hi;split
   ·rename_i he;obtain⟨_,_,L',M,Z,_⟩:=hm.get I;rw[E]at M;cases M;have A8:L.ak=ak:=by rw[Z];exact he
    refine .cS n _ i j v _ (GJ hi E) (by simp[A8]) (λ_=>h A8.symm) O
   ·exact .bm _
  ·exact .bm _
 |ea x j b off Ay AA Az AN J=>
  exact .ea x j b off Ay AA (λh=>Az (A4 b h)) (AN.mono (λ_ _ _=>rfl) (aa7 _) (λb _=>A4 b)) J
 |fn f cap a AC A5 _ ih=>
  refine .fn f _ a AC (by rw[lX];exact A5) (λi c v J U=>?_);rw[tZ]at J;obtain⟨y,A6,rfl⟩:=aba.1 J;exact ih i y v A6 U
 |tc f cap a A5 _ ih=>
  refine .tc f _ a (by rw[lX];exact A5) (λi c v J U=>?_);rw[tZ]at J;obtain⟨y,A6,rfl⟩:=aba.1 J;exact ih i y v A6 U
 |bg vs a A5 _ ih=>
  refine .bg _ a (by rw[lX];exact A5) (λi c v J U=>?_);rw[tZ]at J;obtain⟨y,A6,rfl⟩:=aba.1 J;exact ih i y v A6 U
 |im t x v h=>exact .im t x v (h.mono (λ_ _ _=>rfl) (aa7 _) (λb _=>A4 b))
 |lit v h=>exact .lit v h
 |nn a cap=>exact .nn a cap
 |err t v=>exact .err t v
end
def dL:Nat->List (Nat×aH)->Mem
 |_,[]=>[]
 |i,(v,c)::r=>⟨i,v,c⟩::dL (i+1) r
theorem qW:∀(l:List (Nat×aH))(i:Nat),(dL i l).map (·.key)=List.range' i l.length
 |[],i=>rfl
 |(v,c)::r,i=>by simp[dL,qW r,aiU]
theorem lA:∀{l:List (Nat×aH)}{i:Nat}{e:cJ},e∈dL i l↔∃j v c,l[j]?=some (v,c)/\e=⟨i+j,v,c⟩
 |[],i,e=>by simp[dL]
 |(v,c)::r,i,e=>by
  simp only[dL,abd,lA (l:=r)];constructor
  ·rintro (rfl|⟨j,AD,AO,h,rfl⟩)
   ·exact⟨0,v,c,by simp,by simp⟩
   ·exact⟨j+1,AD,AO,by simpa using h,by simp;omega⟩
  ·rintro ⟨j,AD,AO,h,rfl⟩;cases j with
   |zero=>simp at h;obtain⟨rfl,rfl⟩:=h;left;simp
   |succ j=>right;exact⟨j,AD,AO,by simpa using h,by simp;omega⟩
def wU(m:Mem)(ρ:List Nat)(bor:Nat->Bool)(nv:Nat->Nat->Nat):aH->aH
 | .dead=>.dead
 | .box cs=>.box (sq m ρ bor nv cs)
 | .vec sz aj=>.vec sz aj
 | .vv aj y=>.vv aj (y.map (vw m ρ bor nv))
def wV(m:Mem)(ρ:List Nat)(bor:Nat->Bool)(nv:Nat->Nat->Nat)(i:Nat):Option cJ->Nat×aH
 |some e=>(nv i e.ak,wU m ρ bor nv e.cont)
 |none=>(0,.dead)
def eP(m:Mem)(ρ:List Nat)(bor:Nat->Bool)(nv:Nat->Nat->Nat):Nat->List Nat->List (Nat×aH)
 |_,[]=>[]
 |i,k::r=>wV m ρ bor nv i (Mem.get m k)::eP m ρ bor nv (i+1) r
theorem yO(m ρ bor nv):∀(l:List Nat)(i j:Nat),(eP m ρ bor nv i l)[j]?=(l[j]?).map λk=>wV m ρ bor nv (i+j) (Mem.get m k)
 |[],i,j=>by simp[eP]
 |k::r,i,j=>by
  cases j with
  |zero=>simp[eP]
  |succ j=>simp[eP,yO m ρ bor nv r (i+1) j,adB,Nat.add_comm 1 j]
theorem rO(m ρ bor nv):∀(l:List Nat)(i:Nat),(eP m ρ bor nv i l).length=l.length
 |[],i=>rfl
 |k::r,i=>by simp[eP,rO m ρ bor nv r]
theorem vL{m ρ bor nv L c b}:(wU m ρ bor nv c).dc L b↔c.dc L b:=by cases c<;>exact an1
theorem kJ{L:Loc}{c:aH}{v b:Nat}:c.dc {L with ak:=v} b↔c.dc L b:=by cases c<;>exact an1
section
variable {φ:bW} {G G1:Fr} {m:Mem} {w:World} {ρ:List Nat} {bor:Nat->Bool} {nv:Nat->Nat->Nat}
theorem xI(AJ:∀k∈ρ,(Mem.get m k).isSome=true)(b:Nat):jc (φ.iG ρ nv) (dL 0 (eP m ρ bor nv 0 ρ)) b↔AR φ m ρ b:=by
 constructor
 ·rintro ⟨e,he,L,E,A2⟩;obtain⟨j,v,c,T,rfl⟩:=lA.1 he;rw[yO]at T;obtain⟨k,H,AB⟩:=aba.1 T;simp only[afO,bW.iG,H,aba]at E;obtain⟨A3,A9,rfl⟩:=E;have A_:=abk H;have:=AJ k A_;obtain⟨A1,A7⟩:=ajr.1 this;rw[A7]at AB;simp only[wV,adI]at AB;obtain⟨rfl,rfl⟩:=AB;exact⟨k,A_,A1,A3,A7,A9,kJ.1 (vL.1 A2)⟩
 ·rintro ⟨k,H,e,L,I,E,A2⟩;obtain⟨j,T,rfl⟩:=an4.1 H;refine⟨⟨0+j,nv j e.ak,wU m ρ bor nv e.cont⟩,lA.2 ⟨j,_,_,?_,rfl⟩,{L with ak:=nv j L.ak},?_,vL.2 (kJ.2 A2)⟩
  ·rw[yO];simp[T,I,wV]
  ·simp[bW.iG,T,E]
theorem Ca(hm:bx φ G m w)(AE:ρ.Nodup)(AJ:∀k∈ρ,(Mem.get m k).isSome=true)(Aa:∀b,G1 b->Fo G φ m b)(B':∀b,AR φ m ρ b->¬G1 b)
 (AI:∀k e L b,Mem.get m k=some e->k∉ρ->bor k=true->φ k=some L->e.cont.dc L b->¬G1 b):
 bx (φ.iG ρ nv) G1 (dL 0 (eP m ρ bor nv 0 ρ)) w/\(∀y v,aF φ w (Fo G φ m) y v->aF (φ.iG ρ nv) w (Fo G1 (φ.iG ρ nv) (dL 0 (eP m ρ bor nv 0 ρ))) (vw m ρ bor nv y) v)/\
  (∀b,Fo G1 (φ.iG ρ nv) (dL 0 (eP m ρ bor nv 0 ρ)) b->Fo G φ m b):=by
 have AP:=xI (φ:=φ) (nv:=nv) (bor:=bor) AJ;have A4:∀b,Fo G1 (φ.iG ρ nv) (dL 0 (eP m ρ bor nv 0 ρ)) b->Fo G φ m b:=by
  rintro b (h|h)
  ·exact Aa b h
  ·exact .inr ((AP b).1 h).own
 have AA:∀k e L b,Mem.get m k=some e->k∉ρ->bor k=true->φ k=some L->e.cont.dc L b->¬Fo G1 (φ.iG ρ nv) (dL 0 (eP m ρ bor nv 0 ρ)) b:=by
  rintro k e L b I H B0 E A2 (h|h)
  ·exact AI k e L b I H B0 E A2 h
  ·exact EW hm I E A2 H ((AP _).1 h)
 have AQ:∀y v,aF φ w (Fo G φ m) y v->aF (φ.iG ρ nv) w (Fo G1 (φ.iG ρ nv) (dL 0 (eP m ρ bor nv 0 ρ))) (vw m ρ bor nv y) v:=λy v h=>afW hm A4 AA h;have A':∀x v,aQ w (Fo G φ m) x v->aQ w (Fo G1 (φ.iG ρ nv) (dL 0 (eP m ρ bor nv 0 ρ))) x v:=λx v h=>h.mono (λ_ _ _=>rfl) (aa7 _) (λb _=>A4 b);have part:∀{e:cJ},e∈dL 0 (eP m ρ bor nv 0 ρ)->∃j k A1 A3,ρ[j]?=some k/\Mem.get m k=some A1/\φ k=some A3/\A3.ak=A1.ak/\eA φ w (Fo G φ m) A3 A1.cont/\e=⟨j,nv j A1.ak,wU m ρ bor nv A1.cont⟩:=by
  intro e he;obtain⟨j,v,c,T,rfl⟩:=lA.1 he;rw[yO]at T;obtain⟨k,H,AB⟩:=aba.1 T;obtain⟨A1,A7⟩:=ajr.1 (AJ k (abk H));rw[A7]at AB;simp only[wV,adI,afO]at AB;obtain⟨rfl,rfl⟩:=AB;obtain⟨_,_,A3,A9,Z,A0⟩:=hm.get A7;exact⟨j,k,A1,A3,H,A7,A9,Z,A0,by simp⟩
 refine⟨⟨?_,?_,?_,?_,?_,?_⟩,AQ,A4⟩
 ·rw[qW];exact List.nodup_range'
 ·intro i L E;rw[qW,rO];simp only[bW.iG]at E;split at E
  ·rename_i k H;have:=(aa1.1 H).1;simp[List.mem_range'];omega
  ·cases E
 ·intro e he;obtain⟨j,k,A1,A3,H,A7,A9,Z,A0,rfl⟩:=part he;refine⟨{A3 with ak:=nv j A3.ak},by simp[bW.iG,H,A9],by simp[Z],?_⟩;cases J:A1.cont with
  |dead=>trivial
  |box cs=>
   rw[J]at A0;obtain⟨g0,arr,elem,g1,g2,g3,g4⟩:=A0;refine⟨by simpa [lX]using g0,arr,elem,g1,by simp[lX,g2],g3,λi c v Ab U=>?_⟩;rw[tZ]at Ab;obtain⟨y,A6,rfl⟩:=aba.1 Ab;exact AQ y v (g4 i y v A6 U)
  |vec sz aj=>
   rw[J]at A0;obtain⟨g1,g2,g3,g4⟩:=A0;refine⟨g1,g2,g3,λAL=>?_⟩;obtain⟨arr,elem,f1,f2,f3,f4⟩:=g4 AL;exact⟨arr,elem,f1,f2,f3,λi d B1=>let ⟨v,U,T⟩:=f4 i d B1;⟨v,A' _ _ U,T⟩⟩
  |vv aj y=>
   rw[J]at A0;exact (ld.mono (vw m ρ bor nv) A0 (λ_ _ _ _ u hu=>A' _ u hu) (λx _ v AN=>AQ x v AN) (λ_ _=>rfl)).ak _
 ·intro e he e' B2 L L' E M B3;obtain⟨j,k,A1,A3,H,A7,A9,Z,A0,rfl⟩:=part he;obtain⟨BC,Ai,B4,B5,AG,B6,Ac,BD,BE,rfl⟩:=part B2;simp only[bW.iG,H,A9,AG,Ac,agv,abp]at E M;subst E;subst M;obtain⟨B7,Ad⟩:=Mem.get_mem A7;obtain⟨B8,Ae⟩:=Mem.get_mem B6;have:=hm.apart A1 B7 B4 B8 A3 B5 (by rw[Ad];exact A9) (by rw[Ae];exact Ac) (B3.imp λb h=>⟨kJ.1 (vL.1 h.1),kJ.1 (vL.1 h.2)⟩);rw[Ad,Ae]at this;obtain⟨hi,AF⟩:=aa1.1 H;obtain⟨T,AK⟩:=aa1.1 AG;exact (List.getElem_inj AE).1 (AF.trans (this.trans AK.symm))
 ·exact λb AS=>B' b ((AP b).1 AS)
 ·exact λb AS=>Dz hm b (Aa b AS)
end
mutual
def ju:D->Bool
 | .list (_::_)=>false
 | .list []=>true
 | .agg cs=>mB cs
 | .int _ _=>true
 | .bool _=>true
 | .str _=>true
 | .z6=>true
def mB:List D->Bool
 |[]=>true
 |x::r=>ju x&&mB r
end
theorem rP:∀{l:List D},mB l=true->∀x∈l,ju x=true
 |[],_,x,O=>by simp at O
 |y::r,h,x,O=>by
  simp only[mB,Ds]at h;rcases abd.1 O with rfl|O
  ·exact h.1
  ·exact rP h.2 x O
theorem aQ.plain{w w':World}{F F':Nat->Prop}{d v}(h:aQ w F d v)(U:ju d=true):aQ w' F' d v:=by
 induction h with
 |int k n=>exact .int k n
 |bool b=>exact .bool b
 |z6 v h=>exact .z6 v h
 |str b s h=>exact .str b s h
 |agg cs a A9 Aa _ ih=>
  refine .agg cs a A9 Aa (λi d v T Y=>ih i d v T Y (rP (by simpa only[ju]using U) d (abk T)))
 |nil a cap AA=>exact .nil a cap AA
 |list xs b off cap sz vs BS A5 BT BU Y M _=>
  cases xs with
  |nil=>exact .nil _ _ (by simp)
  |cons=>simp[ju]at U
mutual
def dW:AV->Bool
 | .d x=>ju x
 | .ea _ _=>false
 | .agg cs=>kK cs
 | .fn _ cap=>kK cap
 | .bg vs=>kK vs
 | .im _ x=>ju x
 | .bm=>true
 | .ptr _ _ _=>true
 | .vec _ _ _ _=>true
 | .cS _ _ _ _=>true
 | .lit _=>true
 | .nn=>true
 | .err=>true
def kK:List AV->Bool
 |[]=>true
 |x::r=>dW x&&kK r
end
theorem lB:∀{l:List AV},kK l=true->∀x∈l,dW x=true
 |[],_,x,O=>by simp at O
 |y::r,h,x,O=>by
  simp only[kK,Ds]at h;rcases abd.1 O with rfl|O
  ·exact h.1
  ·exact lB h.2 x O
def mr:aH->Bool
 | .dead=>true
 | .box cs=>kK cs
 | .vec _ aj=>mB aj
 | .vv aj y=>aj.all mB&&(match y with|none=>true|some x=>dW x)
mutual
def up(ρ bs:List Nat):AV->AV
 | .ptr k ak off=>.ptr (ρ.getD k 0) (bs.getD k 0+ak) off
 | .vec k ak off len=>.vec (ρ.getD k 0) (bs.getD k 0+ak) off len
 | .cS k ak i j=>.cS (ρ.getD k 0) (bs.getD k 0+ak) i j
 | .agg cs=>.agg (vN ρ bs cs)
 | .fn f cap=>.fn f (vN ρ bs cap)
 | .bg vs=>.bg (vN ρ bs vs)
 | .bm=>.bm
 | .d x=>.d x
 | .ea x j=>.ea x j
 | .im t x=>.im t x
 | .lit v=>.lit v
 | .nn=>.nn
 | .err=>.err
def vN(ρ bs:List Nat):List AV->List AV
 |[]=>[]
 |x::r=>up ρ bs x::vN ρ bs r
end
theorem ub(ρ bs):∀(l:List AV)(i:Nat),(vN ρ bs l)[i]?=(l[i]?).map (up ρ bs)
 |[],i=>by simp[vN]
 |x::r,i=>by cases i with|zero=>simp[vN]|succ i=>simp[vN,ub ρ bs r i]
theorem lY(ρ bs):∀(l:List AV),(vN ρ bs l).length=l.length
 |[]=>rfl
 |x::r=>by simp[vN,lY ρ bs r]
def EY(ρ bs:List Nat):aH->aH
 | .dead=>.dead
 | .box cs=>.box (vN ρ bs cs)
 | .vec sz aj=>.vec sz aj
 | .vv aj y=>.vv aj (y.map (up ρ bs))
def ji(ρ bs:List Nat):Nat->List (Nat×aH)->List cJ
 |_,[]=>[]
 |i,(v,c)::r=>⟨ρ.getD i 0,bs.getD i 0+v,EY ρ bs c⟩::ji ρ bs (i+1) r
theorem vO{ρ bs:List Nat}:∀{l:List (Nat×aH)}{i:Nat}{e:cJ},e∈ji ρ bs i l↔∃j v c,l[j]?=some (v,c)/\e=⟨ρ.getD (i+j) 0,bs.getD (i+j) 0+v,EY ρ bs c⟩
 |[],i,e=>by simp[ji]
 |(v,c)::r,i,e=>by
  simp only[ji,abd,vO (l:=r)];constructor
  ·rintro (rfl|⟨j,AK,AL,h,rfl⟩)
   ·exact⟨0,v,c,by simp,by simp⟩
   ·exact⟨j+1,AK,AL,by simpa using h,by rw[show i+(j+1)=i+1+j by omega]⟩
  ·rintro ⟨j,AK,AL,h,rfl⟩;cases j with
   |zero=>simp at h;obtain⟨rfl,rfl⟩:=h;left;simp
   |succ j=>right;exact⟨j,AK,AL,by simpa using h,by rw[show i+(j+1)=i+1+j by omega]⟩
theorem EZ{ρ bs:List Nat}:∀(l:List (Nat×aH))(i:Nat),(ji ρ bs i l).map (·.key)=(List.range' i l.length).map λj=>ρ.getD j 0
 |[],i=>rfl
 |(v,c)::r,i=>by simp[ji,EZ r,aiU]
def bH(m:Mem):List cJ->Mem
 |[]=>m
 |e::r=>bH (Mem.set m e) r
theorem kL:∀(es:List cJ)(m:Mem),(bH m es).map (·.key)=m.map (·.key)
 |[],m=>rfl
 |e::r,m=>by rw[bH,kL r,Mem.gX]
theorem E0:∀(es:List cJ)(m:Mem),(m.map (·.key)).Nodup->(es.map (·.key)).Nodup->(∀e∈es,e.key∈m.map (·.key))->∀e,e∈bH m es↔e∈es\/(e∈m/\e.key∉es.map (·.key))
 |[],m,_,_,_,e=>by simp[bH]
 |x::r,m,hm,AA,A2,e=>by
  simp only[adC,List.nodup_cons]at AA;rw[bH,E0 r (Mem.set m x) (by rw[Mem.gX];exact hm) AA.2 (λe he=>by rw[Mem.gX];exact A2 e (by simp[he])),Mem.mem_set hm];have O:=A2 x (by simp);constructor
  ·rintro (h|⟨⟨rfl,_⟩|⟨h,V⟩,AN⟩)
   ·left;simp[h]
   ·left;simp
   ·right;exact⟨h,by simp only[adC,abd,anS];exact⟨V,AN⟩⟩
  ·rintro (h|⟨h,AN⟩)
   ·rcases abd.1 h with rfl|h
    ·right;exact⟨.inl ⟨rfl,O⟩,AA.1⟩
    ·left;exact h
   ·simp only[adC,abd,anS]at AN;right;exact⟨.inr ⟨h,AN.1⟩,AN.2⟩
def base(m:Mem)(d:Nat):List Nat->List Nat
 |[]=>[]
 |k::r=>(match Mem.get m k with|some e=>e.ak+d|none=>0)::base m d r
theorem DE(m:Mem)(d:Nat):∀(l:List Nat)(i:Nat),(base m d l)[i]?=(l[i]?).map λk=>match Mem.get m k with|some e=>e.ak+d|none=>0
 |[],i=>by simp[base]
 |k::r,i=>by cases i with|zero=>simp[base]|succ i=>simp[base,DE m d r i]
theorem rQ(m:Mem)(d:Nat):∀(l:List Nat),(base m d l).length=l.length
 |[]=>rfl
 |k::r=>by simp[base,rQ m d r]
def iy:Nat->Nat->Nat:=λ_ _=>0
def lZ(φ:bW)(G:Fr)(m:Mem)(ρ B:List Nat):Fr:=⟨λb=>Fo G φ m b/\¬AR φ m ρ b/\¬AR φ m B b,[]⟩
section
variable {φ:bW} {G:Fr} {m:Mem} {w:World} {ρ B:List Nat}
theorem HO(hm:bx φ G m w)(AA:ρ.Nodup)(AU:∀k∈ρ,(Mem.get m k).isSome=true):
 bx (φ.iG ρ iy) (lZ φ G m ρ B) (dL 0 (eP m ρ (λk=>B.contains k) iy 0 ρ)) w/\
  (∀y v,aF φ w (Fo G φ m) y v->aF (φ.iG ρ iy) w (Fo (lZ φ G m ρ B) (φ.iG ρ iy) (dL 0 (eP m ρ (λk=>B.contains k) iy 0 ρ))) (vw m ρ (λk=>B.contains k) iy y) v)/\
  (∀b,Fo (lZ φ G m ρ B) (φ.iG ρ iy) (dL 0 (eP m ρ (λk=>B.contains k) iy 0 ρ)) b->Fo G φ m b):=
 Ca hm AA AU (λb h=>h.1) (λb h Ab=>Ab.2.1 h) (λk e L b B9 _ A5 E I Ab=>Ab.2.2 ⟨k,by simpa using A5,e,L,B9,E,I⟩)
theorem aF.upR{φ φ':bW}{ρ bs:List Nat}{w F F' x v}(h:aF φ w F x v)(Ac:∀i L,φ i=some L->φ' (ρ.getD i 0)=some {L with ak:=bs.getD i 0+L.ak})
 (T:(∀b,F' b->F b)\/dW x=true):aF φ' w F' (up ρ bs x) v:=by
 have An:∀{d v},aQ w F d v->((∀b,F' b->F b)\/ju d=true)->aQ w F' d v:=λh T=>by
  rcases T with T|T
  ·exact h.mono (λ_ _ _=>rfl) (aa7 _) (λb _=>T b)
  ·exact h.plain T
 induction h with
 |bm v=>exact .bm v
 |d x v h=>exact .d x v (An h (T.imp id (by simp[dW])))
 |agg cs a A9 A3 _ ih=>
  refine .agg _ a (by rw[lY];exact A9) A3 (λi c v M Y=>?_);rw[ub]at M;obtain⟨y,A6,rfl⟩:=aba.1 M;exact ih i y v A6 Y (T.imp id λU=>lB (by simpa only[dW]using U) y (abk A6))
 |ptr k ak off v L E Y h A3=>exact .ptr _ _ off v _ (Ac k L E) (by simp only;omega) (λhe=>h (by simp only at he;omega)) A3
 |vec k ak off len v L E Y h A3=>exact .vec _ _ off len v _ (Ac k L E) (by simp only;omega) (λhe=>h (by simp only at he;omega)) A3
 |cS k ak i j v L E Y h A3=>exact .cS _ _ i j v _ (Ac k L E) (by simp only;omega) (λhe=>h (by simp only at he;omega)) A3
 |ea x j b off BA A5 BB O M=>
  rcases T with T|T
  ·exact .ea x j b off BA A5 (λh=>BB (T b h)) (O.mono (λ_ _ _=>rfl) (aa7 _) (λb _=>T b)) M
  ·simp[dW]at T
 |fn f cap a Aa A9 _ ih=>
  refine .fn f _ a Aa (by rw[lY];exact A9) (λi c v M Y=>?_);rw[ub]at M;obtain⟨y,A6,rfl⟩:=aba.1 M;exact ih i y v A6 Y (T.imp id λU=>lB (by simpa only[dW]using U) y (abk A6))
 |tc f cap a A9 _ ih=>
  refine .tc f _ a (by rw[lY];exact A9) (λi c v M Y=>?_);rw[ub]at M;obtain⟨y,A6,rfl⟩:=aba.1 M;exact ih i y v A6 Y (T.imp id λU=>lB (by simpa only[dW]using U) y (abk A6))
 |bg vs a A9 _ ih=>
  refine .bg _ a (by rw[lY];exact A9) (λi c v M Y=>?_);rw[ub]at M;obtain⟨y,A6,rfl⟩:=aba.1 M;exact ih i y v A6 Y (T.imp id λU=>lB (by simpa only[dW]using U) y (abk A6))
 |im t x v h=>exact .im t x v (An h (T.imp id (by simp[dW])))
 |lit v h=>exact .lit v h
 |nn a cap=>exact .nn a cap
 |err t v=>exact .err t v
theorem qX{ρ bs L c b}:(EY ρ bs c).dc L b↔c.dc L b:=by cases c<;>exact an1
theorem HP(h:bx φ G m w)(AA:ρ.Nodup)(AU:∀k∈ρ,(Mem.get m k).isSome=true){fr:List Nat}(BC:fr.Nodup)(Ao:∀k∈fr,(Mem.get m k).isSome=true/\k∉ρ)
 {A0:bW} {J:List (Nat×aH)} {A7:World} (AW:bx A0 (lZ φ G m ρ B) (dL 0 J) A7)
 (A2:aX (φ.iG ρ iy) (dL 0 (eP m ρ (λk=>B.contains k) iy 0 ρ)) w A0 (dL 0 J) A7) (BD:J.length=ρ.length+fr.length)
 (BE:B=[]\/∀e∈J,mr e.2=true):
 ∃φ':bW,bx φ' G (bH m (ji (ρ++fr) (base m 0 ρ++base m 1 fr) 0 J)) A7/\aX φ m w φ' (bH m (ji (ρ++fr) (base m 0 ρ++base m 1 fr) 0 J)) A7/\
  ∀x v,(B=[]\/dW x=true)->aF A0 A7 (Fo (lZ φ G m ρ B) A0 (dL 0 J)) x v->
   aF φ' A7 (Fo G φ' (bH m (ji (ρ++fr) (base m 0 ρ++base m 1 fr) 0 J))) (up (ρ++fr) (base m 0 ρ++base m 1 fr) x) v:=by
 obtain⟨H,AH⟩:∃H,H=ρ++fr:=⟨_,rfl⟩;obtain⟨bs,Ad⟩:∃bs,bs=base m 0 ρ++base m 1 fr:=⟨_,rfl⟩;rw[<-AH,<-Ad];have Ap:H.Nodup:=by
  rw[AH,List.nodup_append];exact⟨AA,BC,λa BF b A5 BG=>(Ao b A5).2 (BG▸BF)⟩
 have BH:J.length=H.length:=by rw[AH,aa9];exact BD
 have Aq:∀k∈H,(Mem.get m k).isSome=true:=λk Z=>by
  rw[AH]at Z;rcases abo.1 Z with A3|A3
  ·exact AU k A3
  ·exact (Ao k A3).1
 have Ar:∀k∈H,k∈m.map (·.key):=λk Z=>by
  obtain⟨e,he⟩:=ajr.1 (Aq k Z);obtain⟨hm,rfl⟩:=Mem.get_mem he;exact adD hm
 obtain⟨φ',As⟩:∃φ':bW,φ'=λk=>match kW H k 0 with|some i=>(A0 i).map (λL=>{L with ak:=bs.getD i 0+L.ak})|none=>φ k:=⟨_,rfl⟩
 have BI:∀{i},i<H.length->H[i]?=some (H.getD i 0):=λhi=>by simp[hi]
 have BJ:∀{i},i<H.length->φ' (H.getD i 0)=(A0 i).map (λL=>{L with ak:=bs.getD i 0+L.ak}):=λhi=>by
  simp only[As,Vg Ap (BI hi)]
 have AB:∀{k},k∉H->φ' k=φ k:=λZ=>by simp only[As,kj.2 Z]
 have BK:∀{i L},A0 i=some L->i<H.length:=λE=>by
  have:=AW.qz _ _ E;rw[qW]at this;simp[List.mem_range']at this;omega
 have A8:∀i L,A0 i=some L->φ' (H.getD i 0)=some {L with ak:=bs.getD i 0+L.ak}:=λi L E=>by
  rw[BJ (BK E),E];rfl
 --BL entries behind
 have AC:=E0 (ji H bs 0 J) m h.nodup;have Au:(ji H bs 0 J).map (·.key)=H:=by
  rw[EZ,BH];apply List.ext_getElem?;intro i;by_cases hi:i<H.length
  ·simp[hi]
  ·rw[age (by simp;omega),age (by omega)]
 rw[Au]at AC;replace AC:=AC Ap (λe he=>Ar e.key (by rw[<-Au];exact adD he));have AM:∀{e},e∈ji H bs 0 J->∃j v c L,j<H.length/\J[j]?=some (v,c)/\e=⟨H.getD j 0,bs.getD j 0+v,EY H bs c⟩/\A0 j=some L/\L.ak=v/\eA A0 A7 (Fo (lZ φ G m ρ B) A0 (dL 0 J)) L c:=by
  intro e he;obtain⟨j,v,c,A',rfl⟩:=vO.1 he;have AO:=(aa1.1 A').1;obtain⟨L,E,AD,M⟩:=AW.fK ⟨0+j,v,c⟩ (lA.2 ⟨j,v,c,A',rfl⟩);simp only[afO]at E⊢;exact⟨j,v,c,L,by omega,A',rfl,E,AD,M⟩
 have AP:=xI (φ:=φ) (nv:=iy) (bor:=λk=>B.contains k) AU;have Ae:∀b,jc φ' (bH m (ji H bs 0 J)) b↔jc A0 (dL 0 J) b\/∃e∈m,e.key∉H/\∃L,φ e.key=some L/\e.cont.dc L b:=by
  intro b;constructor
  ·rintro ⟨e,he,L,E,I⟩;rcases (AC e).1 he with he|⟨he,V⟩
   ·obtain⟨j,v,c,A1,AO,A',rfl,A4,AD,M⟩:=AM he;left;simp only[A8 j A1 A4,abp]at E;subst E;exact⟨⟨0+j,v,c⟩,lA.2 ⟨j,v,c,A',rfl⟩,A1,by simpa using A4,kJ.1 (qX.1 I)⟩
   ·right;exact⟨e,he,V,L,by rw[<-AB V];exact E,I⟩
  ·rintro (⟨BV,AQ,L,E,I⟩|⟨e,he,V,L,E,I⟩)
   ·obtain⟨j,v,c,A',rfl⟩:=lA.1 AQ;simp only[afO]at E;exact⟨⟨H.getD j 0,bs.getD j 0+v,EY H bs c⟩,(AC _).2 (.inl (vO.2 ⟨j,v,c,A',by simp⟩)),_,A8 j L E,qX.2 (kJ.2 I)⟩
   ·exact⟨e,(AC _).2 (.inr ⟨he,V⟩),L,by rw[AB V];exact E,I⟩
 have Af:∀{k},k∉H->k∉ρ:=λZ A3=>Z (by rw[AH];exact ajo _ A3)
 --BW entry beside shares no block with BL BX
 have Ag:∀e∈m,e.key∉ρ->∀L b,φ e.key=some L->e.cont.dc L b->¬AR φ m ρ b:=λe he V L b E I=>
  EW h (Mem.get_of_mem h.nodup he) E I V
 have hle:φ.le φ':=by
  intro k L E;by_cases Z:k∈H
  ·obtain⟨i,hi,rfl⟩:=an4.1 Z;have Av:H.getD i 0=H[i]:=by simp[hi]
   obtain⟨e,he⟩:=ajr.1 (Aq _ Z);obtain⟨_,_,BY,Aw,AD,_⟩:=h.get he;rw[E]at Aw;cases Aw;by_cases Ax:i<ρ.length
   ·have AX:ρ[i]?=some H[i]:=by simp only[AH];rw[List.getElem_append_left Ax];simp
    have Ay:bs.getD i 0=L.ak:=by
     rw[Ad,adN,abl (by rw[rQ];exact Ax),DE,AX];simp[he,AD]
    obtain⟨L',AE,BZ,BM⟩:=A2.le i {L with ak:=0} (by simp[bW.iG,AX,E,iy]);refine⟨{L' with ak:=bs.getD i 0+L'.ak},by rw[<-Av];exact A8 i L' AE,by simp only;omega,λAQ=>?_⟩;simp only at AQ;have AS:=BM (by simp only;omega);have g1:=agt Loc.ak AS;have g2:=agt Loc.dO AS;have g3:=agt Loc.sz AS;have g4:=agt Loc.cap AS;have g5:=agt Loc.base AS;simp only at g1 g2 g3 g4 g5⊢;rw[g1,g2,g3,g4,g5,Ay,af5]
   ·have BN:i<J.length:=by omega
    obtain⟨L',AF,_,_⟩:=AW.fK ⟨0+i,J[i].1,J[i].2⟩ (lA.2 ⟨i,_,_,by simp[BN],rfl⟩);simp only[afO]at AF;have AX:fr[i-ρ.length]?=some H[i]:=by
     simp only[AH]at hi⊢;rw[List.getElem_append_right (by omega)];simp
    have Ay:bs.getD i 0=L.ak+1:=by
     rw[Ad,adN,abq (by rw[rQ];omega),rQ,DE,AX];simp[he,AD]
    refine⟨{L' with ak:=bs.getD i 0+L'.ak},by rw[<-Av];exact A8 i L' AF,by simp only;omega,λAQ=>?_⟩;simp only at AQ;omega
  ·exact⟨L,by rw[AB Z];exact E,aa7 _,λ_=>rfl⟩
 have Az:∀b,b<w.heap.size->jc φ' (bH m (ji H bs 0 J)) b->jc φ m b:=by
  intro b A5 Ah;rcases (Ae b).1 Ah with AE|⟨e,he,_,L,E,I⟩
  ·exact ((AP b).1 (A2.own b A5 AE)).own
  ·exact⟨e,he,L,E,I⟩
 have hold:∀b,b<w.heap.size->¬jc φ m b->A7.heap[b]?=w.heap[b]?:=λb A5 Ai=>A2.At b A5 (λI=>Ai ((AP b).1 I).own);have B':B=[]->∀b,Fo G φ' (bH m (ji H bs 0 J)) b->Fo (lZ φ G m ρ B) A0 (dL 0 J) b:=by
  rintro rfl b (AG|I)
  ·refine .inl ⟨.inl AG,λI=>h.lf b I.own AG,?_⟩;rintro ⟨k,Z,_⟩;simp at Z
  ·rcases (Ae b).1 I with AE|⟨e,he,V,L,E,B0⟩
   ·exact .inr AE
   ·refine .inl ⟨.inr ⟨e,he,L,E,B0⟩,Ag e he (Af V) L b E B0,?_⟩;rintro ⟨k,Z,_⟩;simp at Z
 have Aj:∀x v,(B=[]\/dW x=true)->aF A0 A7 (Fo (lZ φ G m ρ B) A0 (dL 0 J)) x v->aF φ' A7 (Fo G φ' (bH m (ji H bs 0 J))) (up H bs x) v:=
  λx v O AY=>AY.upR A8 (O.imp B' id)
 have B1:∀d v,(B=[]\/ju d=true)->aQ A7 (Fo (lZ φ G m ρ B) A0 (dL 0 J)) d v->aQ A7 (Fo G φ' (bH m (ji H bs 0 J))) d v:=λd v O AY=>by
  rcases O with O|O
  ·exact AY.mono (λ_ _ _=>rfl) (aa7 _) (λb _=>B' O b)
  ·exact AY.plain O
 refine⟨φ',⟨?_,?_,?_,?_,?_,?_⟩,⟨hle,hold,Az,A2.size,A2.os,A2.tape,A2.output⟩,Aj⟩
 ·rw[kL];exact h.nodup
 ·intro k L E;rw[kL];by_cases Z:k∈H
  ·exact Ar k Z
  ·rw[AB Z]at E;exact h.qz k L E
 ·intro e he;rcases (AC e).1 he with he|⟨he,V⟩
  ·obtain⟨j,v,c,A1,AO,A',rfl,A4,AD,M⟩:=AM he;refine⟨_,A8 j A1 A4,by simp[AD],?_⟩;have AZ:B=[]\/mr c=true:=BE.imp id λU=>U (v,c) (abk A');cases c with
   |dead=>trivial
   |box cs=>
    obtain⟨g0,arr,elem,g1,g2,g3,g4⟩:=M;refine⟨by simpa [lY]using g0,arr,elem,g1,by simp[lY,g2],g3,λi c v B2 Y=>?_⟩;rw[ub]at B2;obtain⟨y,A6,rfl⟩:=aba.1 B2;exact Aj y v (AZ.imp id λU=>lB (by simpa only[mr]using U) y (abk A6)) (g4 i y v A6 Y)
   |vec sz aj=>
    obtain⟨g1,g2,g3,g4⟩:=M;refine⟨g1,g2,g3,λBO=>?_⟩;obtain⟨arr,elem,f1,f2,f3,f4⟩:=g4 BO;exact⟨arr,elem,f1,f2,f3,λi d B3=>let ⟨v,Y,A'⟩:=f4 i d B3;⟨v,B1 d v (AZ.imp id λU=>rP (by simpa only[mr]using U) d (abk B3)) Y,A'⟩⟩
   |vv aj y=>
    refine (ld.mono (up H bs) M (λxs BP d T u hu=>B1 d u (AZ.imp id λU=>?_) hu) (λx O v Y=>Aj x v (AZ.imp id λU=>?_) Y) (λ_ _=>rfl)).ak _
    ·simp only[mr,Ds,adA]at U;exact rP (U.1 xs BP) d T
    ·simp only[mr,Ds,O]at U;exact U.2
  ·obtain⟨L,E,AD,M⟩:=h.fK e he;refine⟨L,by rw[AB V];exact E,AD,M.mono hle (λb A5 Ai=>hold b A5 (λI=>Ai (.inr I))) A2.size (λb A5=>Or.imp id (Az b A5)) (λb I=>?_)⟩;exact A2.At _ (M.lt I) (λA3=>Ag e he (Af V) L b E I ((AP _).1 A3))
 ·rintro e he e' AI L L' E AF ⟨b,I,A_⟩;have B4:∀{j v c A1 AJ AT},J[j]?=some (v,c)->A0 j=some A1->c.dc A1 b->AJ∈m->AJ.key∉H->φ AJ.key=some AT->AJ.cont.dc AT b->False:=by
   intro j v c A1 AJ AT A' A4 M B5 V B6 B7;have BQ:b<w.heap.size:=h.ED ⟨AJ,B5,AT,B6,B7⟩;have AE:jc A0 (dL 0 J) b:=⟨⟨0+j,v,c⟩,lA.2 ⟨j,v,c,A',rfl⟩,A1,by simpa using A4,M⟩;exact Ag AJ B5 (Af V) AT b B6 B7 ((AP _).1 (A2.own _ BQ AE))
  rcases (AC e).1 he with he|⟨he,V⟩<;>rcases (AC e').1 AI with AI|⟨AI,Ak⟩
  ·obtain⟨j,v,c,A1,AO,A',rfl,A4,_,_⟩:=AM he;obtain⟨Al,AK,AL,L2',B_,BR,rfl,B8,_,_⟩:=AM AI;simp only[A8 j A1 A4,A8 Al L2' B8,abp]at E AF;subst E;subst AF;have:=AW.apart ⟨0+j,v,c⟩ (lA.2 ⟨j,v,c,A',rfl⟩) ⟨0+Al,AK,AL⟩ (lA.2 ⟨Al,AK,AL,BR,rfl⟩) A1 L2' (by simpa using A4) (by simpa using B8) ⟨b,kJ.1 (qX.1 I),kJ.1 (qX.1 A_)⟩;simp only[afO]at this;rw[this]
  ·obtain⟨j,v,c,A1,AO,A',rfl,A4,_,_⟩:=AM he;simp only[A8 j A1 A4,abp]at E;subst E;exact (B4 A' A4 (kJ.1 (qX.1 I)) AI Ak (by rw[<-AB Ak];exact AF) A_).elim
  ·obtain⟨j,v,c,A1,AO,A',rfl,A4,_,_⟩:=AM AI;simp only[A8 j A1 A4,abp]at AF;subst AF;exact (B4 A' A4 (kJ.1 (qX.1 A_)) he V (by rw[<-AB V];exact E) I).elim
  ·exact h.apart e he e' AI L L' (by rw[<-AB V];exact E) (by rw[<-AB Ak];exact AF) ⟨b,I,A_⟩
 ·intro b Ah AG;rcases (Ae b).1 Ah with AE|⟨e,he,_,L,E,I⟩
  ·exact h.lf b ((AP b).1 (A2.own b (h.bound b AG) AE)).own AG
  ·exact h.lf _ ⟨e,he,L,E,I⟩ AG
 ·exact λb AG=>agV (h.bound b AG) A2.size
end
def eo(S AD:St):Prop:=AD.n=S.n/\AD.gl=S.gl/\∀φ G a w,Rel φ G S a w->∃φ',Rel φ' G AD a w/\aX φ S.mem w φ' AD.mem w
theorem eo.refl(S:St):eo S S:=⟨rfl,rfl,λφ _ _ _ h=>⟨φ,h,aX.refl ..⟩⟩
theorem eo.trans{S AD Ab:St}(h:eo S AD)(k:eo AD Ab):eo S Ab:=
 ⟨k.1.trans h.1,k.2.1.trans h.2.1,λφ G a w AE=>by
  obtain⟨Ah,M,Ai⟩:=h.2.2 φ G a w AE;obtain⟨Aj,Ak,Al⟩:=k.2.2 Ah G a w M;exact⟨Aj,Ak,Ai.trans Al⟩⟩
theorem R0(S:St)(qV:List Nat):eo S (S.prune qV):=⟨rfl,rfl,λφ _ _ _ h=>⟨φ,h.prune qV,aX.refl ..⟩⟩
theorem J8{w:World}{φ φ':bW}{m m':Mem}(h:∀b,jc φ' m' b->jc φ m b)(hle:φ.le φ'):aX φ m w φ' m' w:=
 ⟨hle,λ_ _ _=>rfl,λb _ A1=>h b A1,aa7 _,rfl,rfl,rfl⟩
def qY(E:AV->AV):aH->aH
 | .box cs=>.box (cs.map E)
 | .dead=>.dead
 | .vec sz aj=>.vec sz aj
 | .vv aj y=>.vv aj (y.map E)
def mapM(E:AV->AV)(e':cJ):Mem->Mem
 |[]=>[]
 |e::r=>(if e.key=e'.key then e' else ⟨e.key,e.ak,qY E e.cont⟩)::mapM E e' r
def oE(E:AV->AV):Env->Env
 |[]=>[]
 |(t,g,x)::r=>(t,g,E x)::oE E r
theorem AS(E:AV->AV):∀(env:Env)(t:Nat)(g:Bool)(y:AV),Env.lk (oE E env) t=some (g,y)->∃x,Env.lk env t=some (g,x)/\y=E x
 |[],t,g,y,h=>by simp[oE,Env.lk]at h
 |(An,BB,AL)::r,t,g,y,h=>by
  simp only[oE,Env.lk]at h⊢;by_cases Ac:An=t
  ·subst Ac;simp at h⊢;obtain⟨rfl,rfl⟩:=h;simp
  ·simp only[Ac,adW]at h⊢;exact AS E r t g y h
theorem AT(E:AV->AV)(e':cJ):∀m:Mem,(mapM E e' m).map (·.key)=m.map (·.key)
 |[]=>rfl
 |e::r=>by
  simp only[mapM,adC,AT E e' r];congr 1;split
  ·rename_i h;exact h.symm
  ·rfl
theorem mapM_mem{E:AV->AV}{e':cJ}:∀{m:Mem}{x:cJ},x∈mapM E e' m↔∃e∈m,x=if e.key=e'.key then e' else ⟨e.key,e.ak,qY E e.cont⟩
 |[],x=>by simp[mapM]
 |e::r,x=>by simp[mapM,mapM_mem (m:=r)]
theorem lQ{E L c b}:(qY E c).dc L b↔c.dc L b:=by cases c<;>exact an1
def St.AU(S:St)(E:AV->AV)(e':cJ):St:={S with env:=oE E S.env,mem:=mapM E e' S.mem}
theorem J9{φ:bW}{G S a w}(h:Rel φ G S a w)(E:AV->AV){e e':cJ}(he:e∈S.mem){L L':Loc}(U:φ e.key=some L)(A8:e'.key=e.key)
 (T:L.ak<L'.ak) (Ao:L'.ak=e'.ak) (Ad:∀b,e'.cont.dc L' b->e.cont.dc L b)
 (Ap:∀(φ':bW)(F':Nat->Prop),φ' e.key=some L'->(∀k,k≠e.key->φ' k=φ k)->(∀b,F' b->Fo G φ S.mem b)->(∀b,¬e'.cont.dc L' b->e.cont.dc L b->¬F' b)->∀x v,aF φ w (Fo G φ S.mem) x v->aF φ' w F' (E x) v)
 (H:∀(φ':bW)(F':Nat->Prop),(∀b,F' b->Fo G φ S.mem b)->eA φ' w F' L' e'.cont):
 ∃φ',Rel φ' G (S.AU E e') a w/\aX φ S.mem w φ' (S.AU E e').mem w:=by
 have hm:=h.mem;obtain⟨φ',Ae⟩:∃φ':bW,φ'=λk=>if k=e.key then some L' else φ k:=⟨_,rfl⟩
 have A0:φ' e.key=some L':=by simp[Ae]
 have A2:∀k,k≠e.key->φ' k=φ k:=λk I=>by simp[Ae,I]
 have hle:φ.le φ':=by
  intro k AG A7;by_cases I:k=e.key
  ·subst I;rw[U]at A7;cases A7;exact⟨L',A0,by omega,λhh=>by omega⟩
  ·exact⟨AG,by rw[A2 k I];exact A7,aa7 _,λ_=>rfl⟩
 have AQ:∀b,jc φ' (mapM E e' S.mem) b->jc φ S.mem b:=by
  rintro b ⟨x,V,AP,A3,A9⟩;obtain⟨y,O,rfl⟩:=mapM_mem.1 V;by_cases I:y.key=e'.key
  ·simp only[I,afz]at A3 A9;rw[A8,A0]at A3;cases A3;exact⟨e,he,L,U,Ad b A9⟩
  ·simp only[I,adW]at A3 A9;rw[A8]at I;rw[A2 _ I]at A3;exact⟨y,O,AP,A3,lQ.1 A9⟩
 have Y:∀b,Fo G φ' (mapM E e' S.mem) b->Fo G φ S.mem b:=λb=>Or.imp id (AQ b);have AR:∀b,¬e'.cont.dc L' b->e.cont.dc L b->¬Fo G φ' (mapM E e' S.mem) b:=by
  rintro b Aq A1 (Ar|⟨x,V,AP,A3,A9⟩)
  ·exact hm.lf _ ⟨e,he,L,U,A1⟩ Ar
  ·obtain⟨y,O,rfl⟩:=mapM_mem.1 V;by_cases I:y.key=e'.key
   ·simp only[I,afz]at A3 A9;rw[A8,A0]at A3;cases A3;exact Aq A9
   ·simp only[I,adW]at A3 A9;rw[A8]at I;rw[A2 _ I]at A3;exact I (hm.apart y O e he AP L A3 U ⟨b,lQ.1 A9,A1⟩)
 have AW:=Ap φ' (Fo G φ' (mapM E e' S.mem)) A0 A2 Y AR;refine⟨φ',⟨h.size,h.defers,?_,⟨?_,?_,?_,?_,?_,?_⟩,h.lg.mono (λ_ _ _=>rfl) (aa7 _) (λb _=>Y b)⟩,J8 AQ hle⟩
 ·intro t x V;obtain⟨y,O,rfl⟩:=AS E S.env t true x V;exact AW _ _ (h.env t y O)
 ·show ((mapM E e' S.mem).map (·.key)).Nodup;rw[AT];exact hm.nodup
 ·intro k AG A7;show k∈(mapM E e' S.mem).map (·.key);rw[AT];by_cases I:k=e.key
  ·subst I;exact adD he
  ·rw[A2 k I]at A7;exact hm.qz k AG A7
 ·intro x V;obtain⟨y,O,rfl⟩:=mapM_mem.1 V;by_cases I:y.key=e'.key
  ·simp only[I,afz];exact⟨L',by rw[A8];exact A0,Ao,H _ _ Y⟩
  ·simp only[I,adW];obtain⟨As,Au,Av,AH⟩:=hm.fK y O;refine⟨As,by rw[A2 _ (by rw[<-A8];exact I)];exact Au,Av,?_⟩;cases AX:y.cont with
   |dead=>trivial
   |box cs=>
    rw[AX]at AH;obtain⟨g0,arr,elem,g1,g2,g3,g4⟩:=AH;refine⟨by simpa using g0,arr,elem,g1,by simp[g2],g3,λi c v Af T=>?_⟩;rw[adz]at Af;obtain⟨z,AM,rfl⟩:=aba.1 Af;exact AW z v (g4 i z v AM T)
   |vec sz aj=>
    rw[AX]at AH;obtain⟨g1,g2,g3,g4⟩:=AH;refine⟨g1,g2,g3,λA7=>?_⟩;obtain⟨arr,elem,f1,f2,f3,f4⟩:=g4 A7;exact⟨arr,elem,f1,f2,f3,λi d Aw=>let ⟨v,T,AY⟩:=f4 i d Aw;⟨v,T.mono (λ_ _ _=>rfl) (aa7 _) (λb _=>Y b),AY⟩⟩
   |vv aj y=>
    rw[AX]at AH;exact ld.mono E AH (λ_ _ _ _ u hu=>hu.mono (λ_ _ _=>rfl) (aa7 _) (λb _=>Y b)) (λx _ v V=>AW x v V) (λ_ _=>rfl)
 ·rintro x V AL Ax AP BC A3 Ay ⟨b,A1,Az⟩;obtain⟨y,O,rfl⟩:=mapM_mem.1 V;obtain⟨BD,B',rfl⟩:=mapM_mem.1 Ax;have pull:∀{z:cJ}{AI:Loc},z∈S.mem->φ' (if z.key=e'.key then e' else ⟨z.key,z.ak,qY E z.cont⟩:cJ).key=some AI->(if z.key=e'.key then e' else ⟨z.key,z.ak,qY E z.cont⟩:cJ).cont.dc AI b->
   ∃z0∈S.mem,∃AG,φ z0.key=some AG/\z0.cont.dc AG b/\(if z.key=e'.key then e' else ⟨z.key,z.ak,qY E z.cont⟩:cJ).key=z0.key:=by
   intro z AI AM AA AJ;by_cases I:z.key=e'.key
   ·simp only[I,afz]at AA AJ⊢;rw[A8,A0]at AA;cases AA;exact⟨e,he,L,U,Ad b AJ,A8⟩
   ·simp only[I,adW]at AA AJ⊢;rw[A8]at I;rw[A2 _ I]at AA;exact⟨z,AM,AI,AA,lQ.1 AJ,rfl⟩
  obtain⟨z,AM,AI,AA,AJ,B0⟩:=pull O A3 A1;obtain⟨B1,B2,B3,B4,B5,B6⟩:=pull B' Ay Az;rw[B0,B6];exact hm.apart z AM B1 B2 AI B3 AA B4 ⟨b,AJ,B5⟩
 ·exact λb AN=>hm.lf b (AQ b AN)
 ·exact hm.bound
mutual
def ma(k v off len:Nat):AV->AV
 | .vec AB AC o l=>if AB=k/\AC=v/\off<=o/\o+l<=off+len then .vec k (v+1) (o-off) l else .vec AB AC o l
 | .cS AB AC i j=>if AB=k/\AC=v/\off<=i then .cS k (v+1) (i-off) j else .cS AB AC i j
 | .agg cs=>.agg (nJ k v off len cs)
 | .fn f cap=>.fn f (nJ k v off len cap)
 | .bg vs=>.bg (nJ k v off len vs)
 | .bm=>.bm
 | .d x=>.d x
 | .ptr a b c=>.ptr a b c
 | .ea x j=>.ea x j
 | .im t x=>.im t x
 | .lit v=>.lit v
 | .nn=>.nn
 | .err=>.err
def nJ(k v off len:Nat):List AV->List AV
 |[]=>[]
 |x::r=>ma k v off len x::nJ k v off len r
end
theorem sr(k v off len):∀(l:List AV)(i:Nat),(nJ k v off len l)[i]?=(l[i]?).map (ma k v off len)
 |[],i=>by simp[nJ]
 |x::r,i=>by cases i with|zero=>simp[nJ]|succ i=>simp[nJ,sr k v off len r i]
theorem nh(k v off len):∀(l:List AV),(nJ k v off len l).length=l.length
 |[]=>rfl
 |x::r=>by simp[nJ,nh k v off len r]
def St.trim(S:St)(k off len:Nat):St:=
 match Mem.get S.mem k with
 |some ⟨_,v,.vec sz aj⟩=>if off+len<=aj.length then S.AU (ma k v off len) ⟨k,v+1,.vec sz ((aj.drop off).take len)⟩else S
 |_=>S
theorem HQ(S:St)(k off len:Nat):eo S (S.trim k off len):=by
 unfold St.trim;split
 ·rename_i key v sz aj AZ;split
  ·rename_i hle;refine⟨rfl,rfl,λφ G a w AE=>?_⟩;obtain⟨hm,I,L,U,AK,AO⟩:=AE.mem.get AZ;simp only at I AK AO;subst I;obtain⟨g1,g2,g3,g4⟩:=AO;refine J9 AE (ma key v off len) (e:=⟨key,v,.vec sz aj⟩) (e':=⟨key,v+1,.vec sz ((aj.drop off).take len)⟩) hm U rfl (L':=⟨v+1,L.dO,L.sz,L.cap-off,L.base+off*L.sz,[]⟩)
    (by simp only;omega) rfl (λb A1=>⟨by have:=A1.1;simp only at this;omega,A1.2⟩) ?_ ?_
   ·intro φ' F' A0 A2 Y _ x u V;induction V with
    |bm v=>exact .bm v
    |d x v h=>exact .d x v (h.mono (λ_ _ _=>rfl) (aa7 _) (λb _=>Y b))
    |agg cs a A4 M _ ih=>
     refine .agg _ a (by rw[nh];exact A4) M (λi c v H T=>?_);rw[sr]at H;obtain⟨y,O,rfl⟩:=aba.1 H;exact ih i y v O T
    |ptr Z ak o v2 A6 J A5 h M=>
     unfold ma;by_cases A':Z=key
     ·subst A';rw[U]at J;cases J;exact .ptr _ ak o v2 _ A0 (by simp only;omega) (λhe=>by simp only at he;omega) M
     ·exact .ptr Z ak o v2 A6 (by rw[A2 _ A'];exact J) A5 h M
    |vec Z ak o l v2 A6 J A5 h M=>
     unfold ma;split
     ·rename_i H;obtain⟨rfl,rfl,A1,Ag⟩:=H;rw[U]at J;cases J;refine .vec _ _ _ l v2 _ A0 (aa7 _) (λ_=>?_) M;obtain⟨a0,cap,rfl,B7,B8⟩:=h AK.symm;refine⟨a0,cap,rfl,B7,λB9=>?_⟩;obtain⟨rfl,BE⟩:=B8 B9;refine⟨?_,by simp only;omega⟩;congr 2;show L.base+o*L.sz=L.base+off*L.sz+(o-off)*L.sz;rw[adB,<-afP];congr 2;omega
     ·by_cases A':Z=key
      ·subst A';rw[U]at J;cases J;exact .vec _ ak o l v2 _ A0 (by simp only;omega) (λhe=>by simp only at he;omega) M
      ·exact .vec Z ak o l v2 A6 (by rw[A2 _ A'];exact J) A5 h M
    |cS Z ak i j v2 A6 J A5 h M=>
     unfold ma;split
     ·rename_i H;obtain⟨rfl,rfl,A1⟩:=H;rw[U]at J;cases J;refine .cS _ _ _ j v2 _ A0 (aa7 _) (λ_=>?_) M;rw[h AK.symm];congr 3;show L.base+i*L.sz+j=L.base+off*L.sz+(i-off)*L.sz+j;rw[adB L.base (off*L.sz),<-afP];congr 3;omega
     ·by_cases A':Z=key
      ·subst A';rw[U]at J;cases J;exact .cS _ ak i j v2 _ A0 (by simp only;omega) (λhe=>by simp only at he;omega) M
      ·exact .cS Z ak i j v2 A6 (by rw[A2 _ A'];exact J) A5 h M
    |ea x j b o AL AN A_ V H=>exact .ea x j b o AL AN (λh=>A_ (Y b h)) (V.mono (λ_ _ _=>rfl) (aa7 _) (λb _=>Y b)) H
    |fn f cap a Aa A4 _ ih=>
     refine .fn f _ a Aa (by rw[nh];exact A4) (λi c v H T=>?_);rw[sr]at H;obtain⟨y,O,rfl⟩:=aba.1 H;exact ih i y v O T
    |tc f cap a A4 _ ih=>
     refine .tc f _ a (by rw[nh];exact A4) (λi c v H T=>?_);rw[sr]at H;obtain⟨y,O,rfl⟩:=aba.1 H;exact ih i y v O T
    |bg vs a A4 _ ih=>
     refine .bg _ a (by rw[nh];exact A4) (λi c v H T=>?_);rw[sr]at H;obtain⟨y,O,rfl⟩:=aba.1 H;exact ih i y v O T
    |im t x v h=>exact .im t x v (h.mono (λ_ _ _=>rfl) (aa7 _) (λb _=>Y b))
    |lit v h=>exact .lit v h
    |nn a cap=>exact .nn a cap
    |err t v=>exact .err t v
   ·intro φ' F' Y;refine⟨g1,by simp only[agA,ags];omega,λd AF=>g3 d (adM (afr AF)),λA7=>?_⟩;simp only at A7;obtain⟨arr,elem,f1,f2,f3,f4⟩:=g4 (by omega);refine⟨arr,elem,f1,?_,f3,λi d AF=>?_⟩
    ·rw[f2];show L.base+L.cap*L.sz=L.base+off*L.sz+(L.cap-off)*L.sz;rw[adB,<-afP];congr 2;omega
    ·rw[ads]at AF;split at AF
     ·rw[adK]at AF;obtain⟨v,T,AY⟩:=f4 _ d AF;refine⟨v,T.mono (λ_ _ _=>rfl) (aa7 _) (λb _=>Y b),λj c BA=>?_⟩;have:=AY j c BA;rw[afP]at this;rw[<-adB L.base]at this;exact this
     ·cases AF
  ·exact eo.refl S
 ·exact eo.refl S
mutual
def lC(k v:Nat)(aj:List D):AV->AV
 | .vec AB AC o l=>if AB=k/\AC=v/\o+l<=aj.length then .d (.list ((aj.drop o).take l))else .vec AB AC o l
 | .agg cs=>.agg (oS k v aj cs)
 | .fn f cap=>.fn f (oS k v aj cap)
 | .bg vs=>.bg (oS k v aj vs)
 | .cS a b c d=>.cS a b c d
 | .bm=>.bm
 | .d x=>.d x
 | .ptr a b c=>.ptr a b c
 | .ea x j=>.ea x j
 | .im t x=>.im t x
 | .lit v=>.lit v
 | .nn=>.nn
 | .err=>.err
def oS(k v:Nat)(aj:List D):List AV->List AV
 |[]=>[]
 |x::r=>lC k v aj x::oS k v aj r
end
theorem ss(k v aj):∀(l:List AV)(i:Nat),(oS k v aj l)[i]?=(l[i]?).map (lC k v aj)
 |[],i=>by simp[oS]
 |x::r,i=>by cases i with|zero=>simp[oS]|succ i=>simp[oS,ss k v aj r i]
theorem ni(k v aj):∀(l:List AV),(oS k v aj l).length=l.length
 |[]=>rfl
 |x::r=>by simp[oS,ni k v aj r]
def St.freeze(S:St)(k:Nat):St:=
 match Mem.get S.mem k with
 |some ⟨_,v,.vec _ aj⟩=>S.AU (lC k v aj) ⟨k,v+1,.dead⟩
 |_=>S
theorem Nt(S:St)(k:Nat):eo S (S.freeze k):=by
 unfold St.freeze;split
 ·rename_i key v sz aj AZ;refine⟨rfl,rfl,λφ G a w AE=>?_⟩;obtain⟨hm,I,L,U,AK,AO⟩:=AE.mem.get AZ;simp only at I AK AO;subst I;refine J9 AE (lC key v aj) (e:=⟨key,v,.vec sz aj⟩) (e':=⟨key,v+1,.dead⟩) hm U rfl (L':={L with ak:=v+1})
   (by simp only;omega) rfl (λ_ A1=>A1.elim) ?_ (λ_ _ _=>trivial)
  intro φ' F' A0 A2 Y AR x u V;induction V with
  |bm v=>exact .bm v
  |d x v h=>exact .d x v (h.mono (λ_ _ _=>rfl) (aa7 _) (λb _=>Y b))
  |agg cs a A4 M _ ih=>
   refine .agg _ a (by rw[ni];exact A4) M (λi c v H T=>?_);rw[ss]at H;obtain⟨y,O,rfl⟩:=aba.1 H;exact ih i y v O T
  |ptr Z ak o v2 A6 J A5 h M=>
   unfold lC;by_cases A':Z=key
   ·subst A';rw[U]at J;cases J;exact .ptr _ ak o v2 _ A0 (by simp only;omega) (λhe=>by simp only at he;omega) M
   ·exact .ptr Z ak o v2 A6 (by rw[A2 _ A'];exact J) A5 h M
  |vec Z ak o l v2 A6 J A5 h M=>
   unfold lC;split
   ·rename_i H;obtain⟨rfl,rfl,Ag⟩:=H;rw[U]at J;cases J;exact .d _ _ (DD (.vec _ _ o l v2 L U A5 h M) U AK AO Ag Y (λA1=>AR _ (λhh=>hh) ⟨A1,rfl⟩))
   ·by_cases A':Z=key
    ·subst A';rw[U]at J;cases J;exact .vec _ ak o l v2 _ A0 (by simp only;omega) (λhe=>by simp only at he;omega) M
    ·exact .vec Z ak o l v2 A6 (by rw[A2 _ A'];exact J) A5 h M
  |cS Z ak i j v2 A6 J A5 h M=>
   unfold lC;by_cases A':Z=key
   ·subst A';rw[U]at J;cases J;exact .cS _ ak i j v2 _ A0 (by simp only;omega) (λhe=>by simp only at he;omega) M
   ·exact .cS Z ak i j v2 A6 (by rw[A2 _ A'];exact J) A5 h M
  |ea x j b o AL AN A_ V H=>exact .ea x j b o AL AN (λh=>A_ (Y b h)) (V.mono (λ_ _ _=>rfl) (aa7 _) (λb _=>Y b)) H
  |fn f cap a Aa A4 _ ih=>
   refine .fn f _ a Aa (by rw[ni];exact A4) (λi c v H T=>?_);rw[ss]at H;obtain⟨y,O,rfl⟩:=aba.1 H;exact ih i y v O T
  |tc f cap a A4 _ ih=>
   refine .tc f _ a (by rw[ni];exact A4) (λi c v H T=>?_);rw[ss]at H;obtain⟨y,O,rfl⟩:=aba.1 H;exact ih i y v O T
  |bg vs a A4 _ ih=>
   refine .bg _ a (by rw[ni];exact A4) (λi c v H T=>?_);rw[ss]at H;obtain⟨y,O,rfl⟩:=aba.1 H;exact ih i y v O T
  |im t x v h=>exact .im t x v (h.mono (λ_ _ _=>rfl) (aa7 _) (λb _=>Y b))
  |lit v h=>exact .lit v h
  |nn a cap=>exact .nn a cap
  |err t v=>exact .err t v
 ·exact eo.refl S
def AW(P:Program)(S:St):ResultVar->dF
 | .tmp t=>.val (S.aq (.tmp t)).1 (S.aq (.tmp t)).2
 | .cell p t=>match mR P S.mem t (S.aq (.tmp p)).2 with
  | .val c x=>.val ((S.aq (.tmp p)).1&&c) x
  |_=>.no
def uJ(P:Program)(S:St):List ResultVar->Option (Bool×List AV)
 |[]=>some (true,[])
 |r::rs=>match AW P S r with
  | .val c x=>match uJ P S rs with
   |some (AP,xs)=>some (c&&AP,x::xs)
   |none=>none
  |_=>none
def oneOf:List AV->AV
 |[x]=>x
 |xs=>.bg xs
def AX(tmps:Array Value):ResultVar->Sem Value
 | .tmp t=>pure (tmps.getD t undef)
 | .cell a t=>do loadVar t (<-asAddr (tmps.getD a undef))
theorem R5{P:Program}{S:St}{r:ResultVar}{c:Bool}{x:AV}(h:AW P S r=.val c x)(M:c=true){φ G a w}(A5:Rel φ G S a w):
 ∃v,(AX a.tmps r).run P w=.ok v w/\aF φ w (Fo G φ S.mem) x v:=by
 unfold AW at h;split at h
 ·rename_i t;simp only[dF.val.injEq]at h;obtain⟨rfl,rfl⟩:=h;exact⟨_,rfl,A5.aq (.tmp t) M⟩
 ·rename_i p t;split at h
  ·rename_i AP B0 A6;simp only[dF.val.injEq]at h;obtain⟨rfl,rfl⟩:=h;simp only[Ds]at M;have:=NV P S {dst:=none,op:=.load t (.tmp p),type:=0,pos:= "",after:=#[],guard:=none} t (.tmp p) rfl M.1;rw[A6]at this;obtain⟨v,Y,Ag⟩:=this M.2 φ G a w A5;have Ah:a.eval (.tmp p)=a.tmps.getD p undef:=rfl;simp only[execOp,Instr.loadAt,Ah]at Y;cases AJ:a.tmps.getD p undef with
   |pointer AK=>
    rw[AJ]at Y;cases AK with
    |none=>simp[Instr.sureAddr,stuck]at Y
    |some AK=>
     simp only[Instr.sureAddr,Sem.run_bind,Sem.run_pure,Result.andThen_ok]at Y;generalize Ai:(loadVar t AK).run P w=q at Y;cases q with
     |halt _ _=>simp at Y
     |ok v2 B1=>
      simp at Y;obtain⟨rfl,rfl⟩:=Y;refine⟨v2,?_,Ag⟩;simp only[AX,AJ,asAddr,Sem.run_bind,Sem.run_pure,Result.andThen_ok,Ai]
   |_=>rw[AJ]at Y;simp[Instr.sureAddr,stuck]at Y
  ·cases h
theorem yP{P:Program}{S:St}{φ G a w}(A5:Rel φ G S a w):∀(rs:List ResultVar)(c:Bool)(xs:List AV),uJ P S rs=some (c,xs)->c=true->
 ∃vs:List Value,(rs.mapM (AX a.tmps)).run P w=.ok vs w/\xs.length=vs.length/\
  ∀(i:Nat) x v,xs[i]?=some x->vs[i]?=some v->aF φ w (Fo G φ S.mem) x v
 |[],c,xs,h,_=>by
  simp only[uJ,abp,adI]at h;obtain⟨_,rfl⟩:=h;exact⟨[],by simp,rfl,by simp⟩
 |r::rs,c,xs,h,M=>by
  simp only[uJ]at h;split at h
  ·rename_i B2 x I;split at h
   ·rename_i Aj Ak Al;simp only[abp,adI]at h;obtain⟨rfl,rfl⟩:=h;simp only[Ds]at M;obtain⟨v,A7,AA⟩:=R5 I M.1 A5;obtain⟨vs,AL,Z,AB⟩:=yP (P:=P) A5 rs Aj Ak Al M.2;refine⟨v::vs,?_,by simp[Z],λi x v h AM=>?_⟩
    ·rw[List.mapM_cons];simp only[Sem.run_bind,A7,Result.andThen_ok,AL,Sem.run_pure]
    ·cases i with
     |zero=>simp at h AM;subst h;subst AM;exact AA
     |succ i=>exact AB i x v (by simpa using h) (by simpa using AM)
   ·cases h
  ·cases h
mutual
def mX(k v:Nat):AV->Option (Nat×Nat)
 | .vec An Ao o l=>if An=k/\Ao=v then some (o,l)else none
 | .agg cs=>su k v cs
 | .fn _ cap=>su k v cap
 | .bg vs=>su k v vs
 | .cS _ _ _ _=>none
 | .bm=>none
 | .d _=>none
 | .ptr _ _ _=>none
 | .ea _ _=>none
 | .im _ _=>none
 | .lit _=>none
 | .nn=>none
 | .err=>none
def su(k v:Nat):List AV->Option (Nat×Nat)
 |[]=>none
 |x::r=>match mX k v x with
  |some p=>some p
  |none=>su k v r
end
def xJ(k v:Nat):Mem->Option (Nat×Nat)
 |[]=>none
 |⟨_,_,.box cs⟩::r=>match su k v cs with
  |some p=>some p
  |none=>xJ k v r
 |_::r=>xJ k v r
def E2(k v:Nat):Env->Option (Nat×Nat)
 |[]=>none
 |(_,_,x)::r=>match mX k v x with
  |some p=>some p
  |none=>E2 k v r
def St.yQ(S:St)(k:Nat):St:=
 match Mem.get S.mem k with
 |some ⟨_,v,.vec _ _⟩=>match xJ k v S.mem with
  |some (o,l)=>S.trim k o l
  |none=>match E2 k v S.env with
   |some (o,l)=>S.trim k o l
   |none=>S
 |_=>S
theorem E3(S:St)(k:Nat):eo S (S.yQ k):=by
 unfold St.yQ;split
 ·split
  ·exact HQ ..
  ·split
   ·exact HQ ..
   ·exact eo.refl S
 ·exact eo.refl S
def St.yR(S:St):List Nat->St
 |[]=>S
 |k::r=>(S.yQ k).yR r
theorem E4:∀(l:List Nat)(S:St),eo S (S.yR l)
 |[],S=>eo.refl S
 |k::r,S=>(E3 S k).trans (E4 r _)
mutual
def jw:AV->List Nat
 | .ptr k _ _=>[k]
 | .vec k _ _ _=>[k]
 | .cS k _ _ _=>[k]
 | .agg cs=>lD cs
 | .fn _ cap=>lD cap
 | .bg vs=>lD vs
 | .bm=>[]
 | .d _=>[]
 | .ea _ _=>[]
 | .im _ _=>[]
 | .lit _=>[]
 | .nn=>[]
 | .err=>[]
def lD:List AV->List Nat
 |[]=>[]
 |x::r=>jw x++lD r
end
def mb:Option cJ->List Nat
 |some ⟨_,_,.box cs⟩=>lD cs
 |some ⟨_,_,.vv _ (some x)⟩=>jw x
 |_=>[]
def collect(m:Mem):Nat->List Nat->List Nat->List Nat
 |0,_,J=>J
 |_+1,[],J=>J
 |n+1,k::todo,J=>match J.contains k||(Mem.get m k).isNone with
  |true=>collect m n todo J
  |false=>collect m n (todo++mb (Mem.get m k)) (J++[k])
theorem pW(m:Mem):∀(n:Nat)(todo J:List Nat),J.Nodup->(∀k∈J,(Mem.get m k).isSome=true)->(collect m n todo J).Nodup/\∀k∈collect m n todo J,(Mem.get m k).isSome=true
 |0,todo,J,h,A1=>⟨h,A1⟩
 |n+1,[],J,h,A1=>⟨h,A1⟩
 |n+1,k::todo,J,h,A1=>by
  simp only[collect];split
  ·exact pW m n todo J h A1
  ·rename_i M;simp only[Bool.or_eq_false_iff,List.contains_eq_mem,afM,Option.isNone_eq_false_iff]at M;refine pW m n _ _ ?_ ?_
   ·rw[List.nodup_append];exact⟨h,by simp,λa A8 b T AC=>by simp at T;subst T;subst AC;exact M.1 A8⟩
   ·intro x I;rcases abo.1 I with I|I
    ·exact A1 x I
    ·simp at I;subst I;exact M.2
def dead(k:Nat):cJ:=⟨k,0,.dead⟩
def bW.add(φ:bW)(ks:List Nat):bW:=λk=>if k∈ks then some ⟨0,0,0,0,0,[]⟩else φ k
theorem Cb{φ:bW}{m:Mem}{ks:List Nat}(O:∀k∈ks,k∉m.map (·.key))(b:Nat):jc (φ.add ks) (m++ks.map dead) b↔jc φ m b:=by
 constructor
 ·rintro ⟨e,he,L,H,U⟩;rcases abo.1 he with he|he
  ·have:e.key∉ks:=λh=>O _ h (adD he);simp only[bW.add,this,adW]at H;exact⟨e,he,L,H,U⟩
  ·simp only[abz]at he;obtain⟨k,_,rfl⟩:=he;exact U.elim
 ·rintro ⟨e,he,L,H,U⟩;have:e.key∉ks:=λh=>O _ h (adD he);exact⟨e,ajo _ he,L,by simp[bW.add,this,H],U⟩
theorem af3{φ:bW}{G}{m:Mem}{ks:List Nat}(O:∀k∈ks,k∉m.map (·.key)):Fo G (φ.add ks) (m++ks.map dead)=Fo G φ m:=by
 funext b;simp only[Fo,Cb O b]
theorem Ka{φ:bW}{G m w}(h:bx φ G m w){ks:List Nat}(O:∀k∈ks,k∉m.map (·.key)):φ.le (φ.add ks):=by
 intro k L H;have:k∉ks:=λV=>O k V (h.qz k L H);exact⟨L,by simp[bW.add,this,H],aa7 _,λ_=>rfl⟩
theorem bx.add{φ G m w}(h:bx φ G m w){ks:List Nat}(Ap:ks.Nodup)(O:∀k∈ks,k∉m.map (·.key)):bx (φ.add ks) G (m++ks.map dead) w:=by
 have hle:=Ka h O;have Aq:=af3 (φ:=φ) (G:=G) O;refine⟨?_,?_,?_,?_,?_,h.bound⟩
 ·rw[anW,List.nodup_append];have e:(ks.map dead).map (·.key)=ks:=by simp[Function.comp_def,dead]
  rw[e];exact⟨h.nodup,Ap,λa A8 b T AC=>O b T (AC▸A8)⟩
 ·intro k L H;simp only[bW.add]at H;split at H
  ·rename_i V;rw[anW];refine List.mem_append_right _ ?_;rw[List.map_map];exact abz.2 ⟨k,V,rfl⟩
  ·rw[anW];exact ajo _ (h.qz k L H)
 ·intro e he;rw[Aq];rcases abo.1 he with he|he
  ·obtain⟨L,H,AN,M⟩:=h.fK e he;have:e.key∉ks:=λh=>O _ h (adD he);exact⟨L,by simp[bW.add,this,H],AN,M.mono hle (λ_ _ _=>rfl) (aa7 _) (λ_ _ h=>h) (λ_ _=>rfl)⟩
  ·simp only[abz]at he;obtain⟨k,V,rfl⟩:=he;exact⟨⟨0,0,0,0,0,[]⟩,by simp[bW.add,dead,V],rfl,trivial⟩
 ·rintro e he e' A' L L' H AQ ⟨b,U,AR⟩;rcases abo.1 he with he|he
  ·rcases abo.1 A' with A'|A'
   ·have A7:e.key∉ks:=λh=>O _ h (adD he);have AA:e'.key∉ks:=λh=>O _ h (adD A');simp only[bW.add,A7,AA,adW]at H AQ;exact h.apart e he e' A' L L' H AQ ⟨b,U,AR⟩
   ·simp only[abz]at A';obtain⟨k,_,rfl⟩:=A';exact AR.elim
  ·simp only[abz]at he;obtain⟨k,_,rfl⟩:=he;exact U.elim
 ·intro b T Ar;exact h.lf b ((Cb O b).1 T) Ar
def iC:Nat->List AV->Env
 |_,[]=>[]
 |i,x::r=>(i,true,x)::iC (i+1) r
theorem yS:∀(i:Nat)(xs:List AV)(t:Nat)(y:Bool×AV),Env.lk (iC i xs) t=some y->∃j,t=i+j/\xs[j]?=some y.2
 |i,[],t,y,h=>by simp[iC,Env.lk]at h
 |i,x::r,t,y,h=>by
  simp only[iC,Env.lk]at h;by_cases A2:i=t
  ·subst A2;simp at h;subst h;exact⟨0,rfl,rfl⟩
  ·simp only[A2,adW]at h;obtain⟨j,rfl,AD⟩:=yS (i+1) r t y h;exact⟨j+1,by omega,by simpa using AD⟩
def ee:Nat->List aH->Mem
 |_,[]=>[]
 |i,c::r=>⟨i,0,c⟩::ee (i+1) r
theorem Kb:∀(cs:List aH)(i:Nat),ee i cs=dL i (cs.map λc=>(0,c))
 |[],i=>rfl
 |c::r,i=>by simp[ee,dL,Kb r]
def entry(n:Nat)(gl:List (Nat×D))(args:List AV)(cs:List aH)(sites:List Nat):St:={n,gl,env:=iC 0 args,mem:=ee 0 cs++sites.map dead}
def E5(E:Nat)(i v:Nat):Nat:=if i<E then (if v=0 then 0 else 1)else 0
structure aE where
 apL:List Nat
 exp:Bool
 sites:List Nat
 wW:List Nat
 split:Bool
def qZ(p:aE)(E:Nat)(m:Mem)(xs:List AV):List Nat:=
 match p.exp with
 |true=>List.range E++(collect m 64 (lD xs++List.range E) []).filter (λk=>!decide (k<E))
 |false=>List.range E
def mC:Env->List AV
 |[]=>[]
 |(_,_,x)::r=>x::mC r
def C7:Bool->AV->AV
 |true,x=>x
 |false,x=>x.norm
theorem aF.C7{b:Bool}{φ w F x v}(h:aF φ w F x v):aF φ w F (C7 b x) v:=by
 cases b
 ·exact h.norm
 ·exact h
def Kc(b:Bool)(K:List Nat)(E:Nat)(S:St)(one:List AV->Out):Option (Out×List (Nat×aH)):=
 if K.all (λk=>(Mem.get S.mem k).isSome)then some (one ((mC S.env).map λx=>C7 b (vw S.mem K (λ_=>true) (E5 E) x)),eP S.mem K (λ_=>true) (E5 E) 0 K)else none
def Cc(p:aE)(K:List Nat)(S:St):St:=S.yR (K.filter λk=>!p.apL.contains k)
def q0(p:aE)(E:Nat)(S:St)(xs:List AV)(one:List AV->Out):Option (Out×List (Nat×aH)):=
 let K:=qZ p E S.mem xs
 Kc (p.wW.contains 1000) K E (Cc p K {S with n:=xs.length,env:=iC 0 xs}) one
def finish(P:Program)(p:aE)(E:Nat)(rs:List ResultVar)(S:St):Option (Out×List (Nat×aH)):=
 match uJ P S rs with
 |some (c,xs)=>if c=true then q0 p E S xs (λA9=>.ret (oneOf A9))else none
 |none=>none
def yT(p:aE)(E:Nat)(t:TypeId)(x:D)(S:St):Option (Out×List (Nat×aH)):=q0 p E S [] (λ_=>.panic t x)
def gA:Env->List (Nat×Bool)
 |[]=>[]
 |(t,g,_)::r=>(t,g)::gA r
theorem C8(AS:AV->AV):∀env:Env,gA (oE AS env)=gA env
 |[]=>rfl
 |(t,g,x)::r=>by simp[oE,gA,C8 AS r]
theorem HR(S:St)(k o l:Nat):gA (S.trim k o l).env=gA S.env:=by
 unfold St.trim;split
 ·split
  ·exact C8 _ _
  ·rfl
 ·rfl
theorem R6(S:St)(k:Nat):gA (S.yQ k).env=gA S.env:=by
 unfold St.yQ;split
 ·split
  ·exact HR ..
  ·split
   ·exact HR ..
   ·rfl
 ·rfl
theorem E7:∀(l:List Nat)(S:St),gA (S.yR l).env=gA S.env
 |[],S=>rfl
 |k::r,S=>by rw[St.yR,E7 r,R6]
theorem E8:∀(i:Nat)(xs:List AV),gA (iC i xs)=(List.range' i xs.length).map λj=>(j,true)
 |i,[]=>rfl
 |i,x::r=>by simp[iC,gA,E8 (i+1) r,aiU]
theorem Oc:∀(env:Env)(i n j:Nat),gA env=(List.range' i n).map (λj=>(j,true))->∀x,(mC env)[j]?=some x->Env.lk env (i+j)=some (true,x)
 |[],i,n,j,_,x,I=>by simp[mC]at I
 |(t,g,y)::r,i,n,j,h,x,I=>by
  cases n with
  |zero=>simp[gA]at h
  |succ n=>
   simp only[gA,aiU,adC,List.cons.injEq,adI]at h;obtain⟨⟨rfl,rfl⟩,h⟩:=h;cases j with
   |zero=>simp[mC]at I;subst I;simp[Env.lk]
   |succ j=>
    have:=Oc r (t+1) n j h x (by simpa [mC]using I);simp only[Env.lk];rw[aa4 (by omega),show t+(j+1)=t+1+j by omega];exact this
theorem xK:∀env:Env,(mC env).length=(gA env).length
 |[]=>rfl
 |(_,_,_)::r=>by simp[mC,gA,xK r]
theorem I2(p:aE)(E:Nat)(m:Mem)(xs:List AV):(qZ p E m xs).Nodup:=by
 unfold qZ;split
 ·rw[List.nodup_append];refine⟨List.nodup_range,((pW m 64 _ [] List.nodup_nil (by simp)).1).filter _,λa A8 b T AC=>?_⟩;simp only[adG]at A8;simp only[afx,ago,afM]at T;omega
 ·exact List.nodup_range
theorem Nu(p:aE)(E:Nat)(m:Mem)(xs:List AV){k:Nat}(V:k<E):(qZ p E m xs)[k]?=some k:=by
 unfold qZ;split
 ·rw[abl (by simpa using V)];simp[V]
 ·simp[V]
theorem tK{p:aE}{E:Nat}{S:St}{xs:List AV}{one:List AV->Out}{out:Out}{l:List (Nat×aH)}(h:q0 p E S xs one=some (out,l))
 {φ:bW} {G:Fr} {w:World} (hm:bx φ G S.mem w) (AE:fg w (Fo G φ S.mem) S.gl) {vs:List Value} (A6:xs.length=vs.length)
 (I:∀(i:Nat) x v,xs[i]?=some x->vs[i]?=some v->aF φ w (Fo G φ S.mem) x v) {φ0:bW} {AT:Mem} {w0:World} (V:aX φ0 AT w0 φ S.mem w) (As:∀k L,φ0 k=some L->k<E/\L.ak=0):
 ∃φ' A9,out=one A9/\bx φ' G (dL 0 l) w/\aX φ0 AT w0 φ' (dL 0 l) w/\A9.length=vs.length/\(∀(i:Nat) y v,A9[i]?=some y->vs[i]?=some v->aF φ' w (Fo G φ' (dL 0 l)) y v)/\
  ∀b,Fo G φ' (dL 0 l) b->Fo G φ S.mem b:=by
 unfold q0 at h;obtain⟨K,AF⟩:∃K,K=qZ p E S.mem xs:=⟨_,rfl⟩;have Au:K.Nodup:=by rw[AF];exact I2 ..
 have Av:∀k,k<E->K[k]?=some k:=λk h=>by rw[AF];exact Nu _ _ _ _ h
 simp only[<-AF]at h;clear AF;have Aw:Rel φ G {S with n:=xs.length,env:=iC 0 xs} {tmps:=vs.toArray,defers:=G.dv} w:=by
  refine⟨by simp[A6],rfl,λt x A2=>?_,hm,AE⟩;obtain⟨j,rfl,AD⟩:=yS 0 xs t _ A2;have AU:j<vs.length:=by rw[<-A6];exact (aa1.1 AD).1
  have e:vs.toArray.getD (0+j) undef=vs[j]:=by simp[AU]
  simp only[e];exact I j x _ AD (by simp[AU])
 obtain⟨A3,AG⟩:∃A3,A3=Cc p K {S with n:=xs.length,env:=iC 0 xs}:=⟨_,rfl⟩;have A2:eo {S with n:=xs.length,env:=iC 0 xs} A3:=by rw[AG];exact E4 ..
 have AY:gA A3.env=(List.range' 0 xs.length).map λj=>(j,true):=by
  rw[AG,Cc,E7];exact E8 0 xs
 rw[<-AG]at h;clear AG;obtain⟨AZ,A_,Aa⟩:=A2.2.2 φ G _ w Aw;unfold Kc at h;split at h
 ·rename_i Ax;simp only[abp,adI]at h;obtain⟨rfl,rfl⟩:=h;have AH:=A_.mem;have Ab:∀k∈K,(Mem.get A3.mem k).isSome=true:=by simpa using Ax
  obtain⟨s1,s2,Ay⟩:=Ca (G1:=G) (ρ:=K) (bor:=λ_=>true) (nv:=E5 E) AH Au Ab (λb h=>.inl h) (λb h=>AH.lf b h.own)
   (λk e L b AE _ _ H U=>AH.lf _ ⟨e,(Mem.get_mem AE).1,L,by rw[(Mem.get_mem AE).2];exact H,U⟩)
  have A0:=V.trans Aa;refine⟨AZ.iG K (E5 E),_,rfl,s1,⟨?_,A0.At,?_,A0.size,A0.os,A0.tape,A0.output⟩,?_,?_,?_⟩
  ·intro k L H;obtain⟨AO,AI⟩:=As k L H;obtain⟨Ac,A7,AA,AL⟩:=A0.le k L H;refine⟨{Ac with ak:=E5 E k Ac.ak},by simp[bW.iG,Av k AO,A7],by simp[AI],λhe=>?_⟩;simp only[E5,AO,afz,AI]at he;split at he
   ·rename_i Az;have Z:=AL (by rw[AI];exact Az);have g1:=agt Loc.ak Z;have g2:=agt Loc.dO Z;have g3:=agt Loc.sz Z;have g4:=agt Loc.cap Z;have g5:=agt Loc.base Z;simp only at g1 g2 g3 g4 g5⊢;rw[g1,g2,g3,g4,g5];simp only[E5,AO,afz,AI]
   ·simp at he
  ·intro b T U;exact A0.own b T ((xI (φ:=AZ) (nv:=E5 E) (bor:=λ_=>true) Ab b).1 U).own
  ·rw[List.length_map,xK,AY];simp[A6]
  ·intro i y v Ad AN;rw[adz]at Ad;obtain⟨x,B',rfl⟩:=aba.1 Ad;have AB:=Oc A3.env 0 xs.length i AY x B';rw[afO]at AB;have Ae:=A_.env i x AB;have e:vs.toArray.getD i undef=v:=by simp[AN]
   simp only[e]at Ae;exact (s2 x v Ae).C7
  ·intro b T;have A4:=Ay b T;rcases A4 with A4|A4
   ·exact .inl A4
   ·rcases Nat.lt_or_ge b w.heap.size with Af|Af
    ·exact .inr (Aa.own b Af A4)
    ·exact absurd (AH.ED A4) (by omega)
 ·cases h
def cj:AV->List Nat
 | .ptr k _ _=>[k]
 | .vec k _ _ _=>[k]
 | .cS k _ _ _=>[k]
 |_=>[]
def uc(S:St):List Operand->List Nat
 |[]=>[]
 |x::r=>cj (S.aq x).2++uc S r
def E9(S:St):Op->List Nat
 | .move _=>[]
 | .assign _=>[]
 |op=>uc S op.operands.toList
def jB(S:St)(o:Oper):List Nat:=keyOf o::E9 S o.op
theorem C9{S:St}:∀{l:List Operand}{x:Operand},x∈l->∀k∈cj (S.aq x).2,k∈uc S l
 |[],x,h,_,_=>by simp at h
 |y::r,x,h,k,J=>by
  simp only[uc,abo];rcases abd.1 h with rfl|h
  ·exact .inl J
  ·exact .inr (C9 h k J)
section
variable {P:Program} {m m':Mem}
theorem Vm{t p}(h:∀k∈cj p,Mem.get m' k=Mem.get m k):mR P m' t p=mR P m t p:=by
 cases p<;>simp_all [mR,cj]
theorem wX{sz x}(h:∀k∈cj x,Mem.get m' k=Mem.get m k):il m' sz x=il m sz x:=by
 cases x with
 |vec k ak off len=>simp only[il,h k (by simp[cj])]
 |d x=>cases x<;>rfl
 |lit v=>unfold il;split<;>simp_all
 |_=>rfl
theorem R7{t p x}(h:∀k∈cj p,Mem.get m' k=Mem.get m k):pR P m' t p x=pR P m t p x:=by
 cases p<;>simp_all [pR,cj]
theorem R8{s f p}(h:∀k∈cj p,Mem.get m' k=Mem.get m k):pv P m' s f p=pv P m s f p:=by
 cases p<;>simp_all [pv,cj]
theorem I3{p}(h:∀k∈cj p,Mem.get m' k=Mem.get m k):jG m' p=jG m p:=by
 cases p<;>simp_all [jG,cj]
theorem R9{t p i}(h:∀k∈cj p,Mem.get m' k=Mem.get m k):nb P m' t p i=nb P m t p i:=by
 cases p with
 |vec k ak off len=>simp only[nb,h k (by simp[cj])]
 |ptr k ak off=>simp only[nb,h k (by simp[cj])]
 |cS k ak i j=>simp only[nb,h k (by simp[cj])]
 |d x=>cases x<;>rfl
 |_=>rfl
theorem Sa{t p lo hi}(h:∀k∈cj p,Mem.get m' k=Mem.get m k):ly P m' t p lo hi=ly P m t p lo hi:=by
 cases p with
 |cS k ak i j=>simp only[ly,h k (by simp[cj])]
 |vec k ak off len=>simp only[ly,h k (by simp[cj])]
 |ptr k ak off=>simp only[ly,h k (by simp[cj])]
 |d x=>cases x<;>rfl
 |_=>rfl
theorem YU{k c cs}(h:Mem.get m' k=Mem.get m k):sU m' k c cs=sU m k c cs:=by simp only[sU,h]
theorem Sb{k t}(h:Mem.get m' k=Mem.get m k):uF P m' k t=uF P m k t:=by simp only[uF,J1,sU,h]
theorem Vn{k s d x}(h:Mem.get m' k=Mem.get m k)(E:∀k∈cj x,Mem.get m' k=Mem.get m k):mV P m' k s d x=mV P m k s d x:=by
 have e:=wX (m:=m) (m':=m') (sz:=1) E;cases A3:tk P d<;>cases x with
 |d x=>cases x<;>simp only[mV,A3,e,h]
 |_=>simp only[mV,A3,e]
theorem Vo{k s d x}(h:Mem.get m' k=Mem.get m k)(E:∀k∈cj x,Mem.get m' k=Mem.get m k):tI P m' k s d x=tI P m k s d x:=by
 have e:=Vn (P:=P) (s:=s) (d:=d) h E;cases x with
 |vec Y ak off len=>simp only[tI,e,E Y (by simp[cj])]
 |_=>simp only[tI,e]
theorem Vp{k t l c}(h:Mem.get m' k=Mem.get m k):yK P m' k t l c=yK P m k t l c:=by simp only[yK,h]
theorem Fa{k t n ps}(h:Mem.get m' k=Mem.get m k):kH P m' k t n ps=kH P m k t n ps:=by simp only[kH,rN,h]
theorem YV{t x}(h:∀k∈cj x,Mem.get m' k=Mem.get m k):oR P m' t x=oR P m t x:=by
 cases x with
 |vec k ak off len=>simp only[oR,h k (by simp[cj])]
 |d x=>cases x<;>rfl
 |lit v=>unfold oR;split<;>simp_all
 |_=>rfl
theorem YW{u sz Z A' s x}(O:∀k∈cj s,Mem.get m' k=Mem.get m k)(E:∀k∈cj x,Mem.get m' k=Mem.get m k):yH P m' u sz Z A' s x=yH P m u sz Z A' s x:=by
 cases s with
 |vec k ak off len=>
  cases x with
  |vec A7 AH A8 A9=>
   match A8,A9 with
   |0,1=>simp only[yH,O k (by simp[cj]),E A7 (by simp[cj])]
   |0,0=>rfl
   |0,_+2=>rfl
   |_+1,_=>rfl
  |_=>rfl
 |_=>rfl
theorem YX{P:Program}{m:Mem}{u:TypeId}{sz Z:Nat}{A':D}{s x:AV}{c:Bool}{k v off n:Nat}{e:cJ}(h:yH P m u sz Z A' s x=.dp c (.vec k v off n) e):k∈cj s:=by
 unfold yH at h;split at h
 ·split at h
  ·cases h;simp[cj]
  ·cases h
 ·cases h
theorem YY{k t u s x}(h:Mem.get m' k=Mem.get m k)(O:∀k∈cj s,Mem.get m' k=Mem.get m k)(E:∀k∈cj x,Mem.get m' k=Mem.get m k):sW P m' k t u s x=sW P m k t u s x:=by
 unfold sW AB;simp only[wX E,h,YW O E];cases s with
 |vec k ak off len=>simp only[O k (by simp[cj])]
 |lit v=>
  cases v with
  |slice ao n c=>cases ao<;>cases n<;>cases c<;>simp only
  |_=>rfl
 |_=>rfl
theorem YZ{P:Program}{m:Mem}{A4:Nat}{t u:TypeId}{s x:AV}{c:Bool}{k v off n:Nat}{e:cJ}(h:sW P m A4 t u s x=.dp c (.vec k v off n) e):k=A4\/k∈cj s:=by
 unfold sW at h;split at h
 ·split at h
  ·split at h
   ·split at h
    ·split at h
     ·cases h;right;simp[cj]
     ·cases h
    ·split at h
     ·cases h;left;rfl
     ·cases h
    ·cases h
   ·exact .inr (YX h)
  ·cases h
 ·cases h
theorem Vq{P:Program}{m m':Mem}{k t u s x}(h:Mem.get m' k=Mem.get m k)(O:∀k∈cj s,Mem.get m' k=Mem.get m k)(E:∀k∈cj x,Mem.get m' k=Mem.get m k):
 vI m' (Mem.get m' k).isSome k (sW P m' k t u s x)=vI m (Mem.get m k).isSome k (sW P m k t u s x):=by
 rw[YY h O E,h];unfold vI;generalize AA:sW P m k t u s x=r;split
 ·rename_i c Y v n AI AJ sz aj;have J:Mem.get m' Y=Mem.get m Y:=by
   rcases YZ AA with rfl|J
   ·exact h
   ·exact O _ J
  rw[J]
 ·rfl
theorem HS{k t x}(h:Mem.get m' k=Mem.get m k):tH P m' k t x=tH P m k t x:=by
 unfold tH;simp only[h]
theorem Y0{neg t x v}(h:∀k∈cj x,Mem.get m' k=Mem.get m k):j7 P m' neg t x v=j7 P m neg t x v:=by
 cases x with
 |vec k ak off len=>unfold j7;simp only[h k (by simp[cj])]
 |ptr k ak off=>unfold j7;simp only[h k (by simp[cj])]
 |d x=>unfold j7;cases x with
  |list xs=>cases xs<;>rfl
  |_=>rfl
 |lit u=>unfold j7;cases u with
  |slice ao n c=>cases ao<;>cases n<;>cases c<;>rfl
  |pointer a=>cases a<;>rfl
  |_=>rfl
 |_=>rfl
theorem Vs{t s x}(O:∀k∈cj s,Mem.get m' k=Mem.get m k)(E:∀k∈cj x,Mem.get m' k=Mem.get m k):yL P m' t s x=yL P m t s x:=by
 unfold yL;simp only[wX E];cases s with
 |vec k ak off len=>simp only[O k (by simp[cj])]
 |_=>rfl
end
theorem HU{P:Program}{S I:St}{o:Oper}(E:∀x∈o.op.operands.toList,I.aq x=S.aq x)(J:∀k∈jB S o,Mem.get I.mem k=Mem.get S.mem k):du P I o=du P S o:=by
 have T:Mem.get I.mem (keyOf o)=Mem.get S.mem (keyOf o):=J _ (by simp[jB]);have M:match o.op with
  | .move _=>True
  | .assign _=>True
  |op=>∀x∈op.operands.toList,∀k∈cj (S.aq x).2,Mem.get I.mem k=Mem.get S.mem k:=by
  unfold jB at J;generalize o.op=op at J;cases op<;>first|trivial|exact λx H k A0=>J k (afA _ (C9 H k A0))
 have A1:∀(l:List Operand),(∀x∈l,I.aq x=S.aq x)->l.map (λx=>(I.aq x).2)=l.map (λx=>(S.aq x).2):=λl A2=>anT (λx H=>by rw[A2 x H]);have A5:∀(l:List (Nat×Operand)),(∀x∈l,I.aq x.2=S.aq x.2)->l.map (λx=>(x.1,(I.aq x.2).2))=l.map (λx=>(x.1,(S.aq x.2).2)):=λl A2=>anT (λx H=>by rw[A2 x H]);unfold du;generalize AK:o.op=op at E M;cases op with
 |move x=>simp only[E x (by simp[Op.operands]),HS T]
 |assign x=>simp only[E x (by simp[Op.operands]),HS T]
 |pick c a b=>simp only[E c (by simp[Op.operands]),E a (by simp[Op.operands]),E b (by simp[Op.operands])]
 |alloc t=>simp only[Sb T]
 |box t x=>simp only[E x (by simp[Op.operands]),YU T]
 |load t x=>simp only[E x (by simp[Op.operands]),Vm (M x (by simp[Op.operands]))]
 |store t p x=>simp only[E x (by simp[Op.operands]),E p (by simp[Op.operands]),R7 (M p (by simp[Op.operands]))]
 |fieldAddr s x f=>simp only[E x (by simp[Op.operands]),R8 (M x (by simp[Op.operands]))]
 |nilCheck x=>simp only[E x (by simp[Op.operands]),I3 (M x (by simp[Op.operands]))]
 |indexAddr t x i=>simp only[E x (by simp[Op.operands]),E i (by simp[Op.operands]),R9 (M x (by simp[Op.operands]))]
 |index t x i=>simp only[E x (by simp[Op.operands]),E i (by simp[Op.operands])]
 |slice t x lo hi AC=>
  cases AC with
  |none=>
   have AD:lo.map (λy=>(I.aq y).2)=lo.map (λy=>(S.aq y).2):=by cases lo with|none=>rfl|some y=>simp[E y (by simp[Op.operands])]
   have AE:hi.map (λy=>(I.aq y).2)=hi.map (λy=>(S.aq y).2):=by cases hi with|none=>rfl|some y=>simp[E y (by simp[Op.operands])]
   simp only[E x (by simp[Op.operands]),AD,AE,Sa (M x (by simp[Op.operands]))]
  |some _=>rfl
 |binOp op t x y AL=>
  have A6:=E x (by simp[Op.operands]);have AF:=E y (by simp[Op.operands]);have A0:=M x (by simp[Op.operands]);simp only
  unfold sn;cases y with
  |const v=>simp only[A6,Y0 A0];rfl
  |_=>simp only[A6,AF]
 |unOp op t x=>simp only[E x (by simp[Op.operands])]
 |convert s d x=>simp only[E x (by simp[Op.operands]),Vo T (M x (by simp[Op.operands]))]
 |makeInterface t x=>simp only[E x (by simp[Op.operands])]
 |makeFunc f first cap=>simp only[A1 cap.toList (λx H=>E x (by simp[Op.operands];right;simpa using H)),A1 first.toList (λx H=>E x (by simp[Op.operands];left;simpa using H))]
 |makeSlice t l c=>simp only[E l (by simp[Op.operands]),E c (by simp[Op.operands]),Vp T]
 |build t ps=>simp only[A5 ps.toList (λx H=>E x.2 (by simp only[Op.operands,List.toList_toArray,abz];exact⟨x,H,rfl⟩))]
 |buildSlice t n ps=>simp only[A5 ps.toList (λx H=>E x.2 (by simp only[Op.operands,List.toList_toArray,abz];exact⟨x,H,rfl⟩)),Fa T]
 |extract x i=>simp only[E x (by simp[Op.operands])]
 |field s x f=>simp only[E x (by simp[Op.operands])]
 |typeAssert x AM t ok=>simp only[E x (by simp[Op.operands])]
 |call c=>
  obtain⟨callee,args,AG⟩:=c;cases callee with
  |builtin b=>
   have U:∀x∈args.toList,I.aq x=S.aq x:=λx H=>E x (by simp[Op.operands,Call.operands];simpa using H);have V:∀x∈args.toList,∀k∈cj (S.aq x).2,Mem.get I.mem k=Mem.get S.mem k:=λx H=>M x (by simp[Op.operands,Call.operands];simpa using H);simp only
   unfold lW;have em:=A1 args.toList U;generalize args.toList=AN at U V em;generalize AG.toList=AO;split
   ·rename_i x t;simp only[U x (by simp),YV (V x (by simp))]
   ·rename_i s x t u;simp only[U x (by simp),U s (by simp),Vq T (V s (by simp)) (V x (by simp))]
   ·rename_i s x t u;simp only[U x (by simp),U s (by simp),Vs (V s (by simp)) (V x (by simp))]
   ·simp only[em]
   ·simp only[em]
   ·rename_i x t;simp only[U x (by simp)]
   ·rfl
  |_=>rfl
 |_=>rfl
structure bf where
 ks:List Nat
 es:List cJ
 g:Bool
 x:AV
def bf.app(p:bf)(o:Oper)(S:St):St:=({S with mem:=bH S.mem p.es}:St).put o.dst p.g p.x
def abj(all:List Oper)(j:Nat):List Nat:=
 match all[j]? with
 |some o=>match o.dst with|some t=>[t]|none=>[]
 |none=>[]
def looks(all:List Oper)(o:Oper):List Nat:=
 (o.op.operands.toList.filterMap λ| .tmp t=>some t|_=>none)++(match o.guard with|some (j,_)=>abj all j|none=>[])
structure kX(all:List Oper)(o:Oper)(ks:List Nat)(H S:St):Prop where
 n:H.n=S.n
 gl:H.gl=S.gl
 keys:H.mem.map (·.key)=S.mem.map (·.key)
 env:∀t∈looks all o,Env.lk H.env t=Env.lk S.env t
 mem:∀k∈ks,Mem.get H.mem k=Mem.get S.mem k
def kY(P:Program)(all:List Oper)(S:St)(o:Oper)(p:bf):Prop:=
 ∀H,kX all o p.ks H S->∀φ G a w,Rel φ G H a w->∀(next:Act->World->Prop)(R:Exit->Act->World->Prop),
  (∀φ' AA w',Rel φ' G (p.app o H) AA w'->aX φ H.mem w φ' (p.app o H).mem w'->next AA w')->
  if Region.wanted o (yielded all.toArray a.tmps)then o.wp P a w next R else next (a.put o.dst undef) w
def tL(P:Program)(A0:Mem->Prop)(all:List Oper)(S:St)(o:Oper)(p:bf):Prop:=
 ∀H,kX all o p.ks H S->A0 H.mem->∀φ G a w,Rel φ G H a w->∀(next:Act->World->Prop)(R:Exit->Act->World->Prop),
  (∀φ' AA w',Rel φ' G (p.app o H) AA w'->aX φ H.mem w φ' (p.app o H).mem w'->next AA w')->
  if Region.wanted o (yielded all.toArray a.tmps)then o.wp P a w next R else next (a.put o.dst undef) w
theorem kY.toI{P:Program}{A0:Mem->Prop}{all:List Oper}{S:St}{o:Oper}{p:bf}(h:kY P all S o p):tL P A0 all S o p:=λH AR _=>h H AR
inductive Cert(P:Program)(A0:Mem->Prop)(all:List Oper):List Oper->St->List bf->St->Prop
 |nil (S):Cert P A0 all [] S [] S
 |cons (o rest S p ps S1) (M:∀e∈p.es,e.key∈p.ks) (B9:∀m,A0 m->A0 (bH m p.es)) (h:tL P A0 all S o p) (A6:Cert P A0 all rest (p.app o S) ps S1):Cert P A0 all (o::rest) S (p::ps) S1
def eY(o:Oper):List Nat:=(o.after.toList.filter (Region.binds .any)).map (·.on)
def hZ:List Oper->List (List Nat)->List (List Nat)
 |[],V=>V
 |o::r,V=>hZ r (V++[((eY o).flatMap λp=>p::V.getD p []).eraseDups])
def q9(l r:List Nat):Bool:=l.all λx=>!r.contains x
def AY(all:List Oper)(o T:Oper)(p A5:bf):Bool:=
 q9 o.dst.toList (looks all T)&&q9 T.dst.toList (looks all o)&&q9 o.dst.toList T.dst.toList&&q9 (p.es.map (·.key)) A5.ks&&q9 (A5.es.map (·.key)) p.ks
def Ja(all:List Oper)(ps:List bf)(Au:List (List Nat))(j:Nat):Bool:=
 match all[j]?,ps[j]? with
 |some o,some p=>(eY o).all (λi=>decide (i<j))&&(List.range j).all λi=>(Au.getD j []).contains i||(match all[i]?,ps[i]? with
  |some T,some A5=>AY all T o A5 p
  |_,_=>false)
 |_,_=>false
def nK(all:List Oper)(ps:List bf):Bool:=(List.range all.length).all (Ja all ps (hZ all []))
theorem Da:∀(l:List Oper)(V:List (List Nat)),∃r,hZ l V=V++r/\r.length=l.length
 |[],V=>⟨[],by simp[hZ]⟩
 |o::l,V=>by
  obtain⟨r,J,O⟩:=Da l (V++[((eY o).flatMap λp=>p::V.getD p []).eraseDups]);exact⟨((eY o).flatMap λp=>p::V.getD p []).eraseDups::r,by rw[hZ,J,afw,List.singleton_append],by simp[O]⟩
theorem mem_eraseDups{l:List Nat}{x:Nat}:x∈l.eraseDups↔x∈l:=List.mem_eraseDups
theorem HW:∀(l:List Oper)(V:List (List Nat))(j:Nat)(o:Oper),l[j]?=some o->(∀p∈eY o,p<V.length+j)->
 ∀i,i∈(hZ l V).getD (V.length+j) []↔∃p∈eY o,i=p\/i∈(hZ l V).getD p []
 |[],V,j,o,h,_=>by simp at h
 |x::l,V,j,o,h,I=>by
  simp only[hZ];cases j with
  |zero=>
   simp at h;subst h;obtain⟨r,J,_⟩:=Da l (V++[((eY x).flatMap λp=>p::V.getD p []).eraseDups]);rw[J];intro i;have A7:(V++[((eY x).flatMap λp=>p::V.getD p []).eraseDups]++r).getD (V.length+0) []=((eY x).flatMap λp=>p::V.getD p []).eraseDups:=by
    simp[adN,afw]
   rw[A7,mem_eraseDups,List.mem_flatMap];constructor
   ·rintro ⟨p,AE,hi⟩;refine⟨p,AE,?_⟩;have AU:=I p AE;rcases abd.1 hi with rfl|hi
    ·exact .inl rfl
    ·right;rw[adN]at hi⊢;rw[afw,abl (by omega)];exact hi
   ·rintro ⟨p,AE,hi⟩;refine⟨p,AE,?_⟩;have AU:=I p AE;rcases hi with rfl|hi
    ·simp
    ·rw[adN,afw,abl (by omega),<-adN]at hi;exact afA _ hi
  |succ j=>
   have:=HW l (V++[((eY x).flatMap λp=>p::V.getD p []).eraseDups]) j o (by simpa using h) (λp AE=>by have:=I p AE;simp;omega);simp only[aa9,abb,abn]at this;rw[show V.length+(j+1)=V.length+(0+1)+j by omega];exact this
theorem km{all:List Oper}{L:Nat->Prop}(I:∀j o,all[j]?=some o->∀p∈eY o,p<j)(BN:∀j o,all[j]?=some o->L j->∀p∈eY o,L p):
 ∀j,(∃o,all[j]?=some o)->∀i,i∈(hZ all []).getD j []->i<j/\((∀o,all[j]?=some o->∀p∈eY o,L p)->L i):=by
 intro j;induction j using Nat.strongRecOn with
 |_ j ih=>
  rintro ⟨o,E⟩ i hi;have AM:=(HW all [] j o E (λp AE=>by simpa using I j o E p AE) i);simp only[abn,afO]at AM;obtain⟨p,AE,h⟩:=AM.1 hi;have AW:=I j o E p AE;rcases h with rfl|h
  ·exact⟨AW,λhh=>hh o E i AE⟩
  ·have BO:j<all.length:=(aa1.1 E).1;obtain⟨op,BP⟩:∃op,all[p]?=some op:=⟨all[p],by simp[show p<all.length by omega]⟩;obtain⟨J,O⟩:=ih p AW ⟨op,BP⟩ i h;exact⟨by omega,λhh=>O (λT U q A9=>BN p T U (hh o E p AE) q A9)⟩
def aM(all:List Oper)(ps:List bf)(S:St)(l:List Nat):St:=
 l.foldl (λS i=>match all[i]?,ps[i]? with|some o,some p=>p.app o S|_,_=>S) S
theorem vQ(p:bf)(o:Oper)(S:St):(p.app o S).n=S.n:=by simp[bf.app,mW]
theorem sx(p:bf)(o:Oper)(S:St):(p.app o S).gl=S.gl:=by cases h:o.dst<;>simp[bf.app,h,St.put]
theorem DH(p:bf)(o:Oper)(S:St):(p.app o S).mem.map (·.key)=S.mem.map (·.key):=by simp[bf.app,fQ,kL]
theorem uL(p:bf)(o:Oper)(S:St)(t:Nat):Env.lk (p.app o S).env t=if o.dst=some t then some (p.g,p.x)else Env.lk S.env t:=by
 cases A2:o.dst with
 |none=>simp[bf.app,St.put,A2]
 |some d=>
  by_cases h:d=t
  ·subst h;simp[bf.app,St.put,A2,Env.lk]
  ·simp[bf.app,St.put,A2,Env.lk,h]
theorem Af:∀(es:List cJ)(m:Mem)(k:Nat),k∉es.map (·.key)->Mem.get (bH m es) k=Mem.get m k
 |[],m,k,_=>rfl
 |e::r,m,k,h=>by
  simp only[adC,abd,anS]at h;rw[bH,Af r _ k h.2,Mem.pP (λhe=>h.1 he.symm)]
theorem oT:∀(es:List cJ)(m m':Mem)(k:Nat),m.map (·.key)=m'.map (·.key)->(k∈es.map (·.key)\/Mem.get m k=Mem.get m' k)->Mem.get (bH m es) k=Mem.get (bH m' es) k
 |[],m,m',k,_,h=>by simpa [bH]using h
 |e::r,m,m',k,M,h=>by
  simp only[bH];refine oT r _ _ k (by rw[Mem.gX,Mem.gX,M]) ?_;by_cases he:e.key=k
  ·right;subst he;by_cases Aj:e.key∈m.map (·.key)
   ·rw[Mem.pO Aj,Mem.pO (M▸Aj)]
   ·have BA:∀(m:Mem),e.key∉m.map (·.key)->Mem.get (Mem.set m e) e.key=none:=by
     intro m hm;cases AS:Mem.get (Mem.set m e) e.key with
     |none=>rfl
     |some y=>
      obtain⟨J,O⟩:=Mem.get_mem AS;have:y.key∈(Mem.set m e).map (·.key):=adD J;rw[Mem.gX,O]at this;exact absurd this hm
    rw[BA m Aj,BA m' (M▸Aj)]
  ·rw[Mem.pP he,Mem.pP he];rcases h with h|h
   ·simp only[adC,abd]at h;rcases h with h|h
    ·exact absurd h.symm he
    ·exact .inl h
   ·exact .inr h
theorem Fb(p:bf)(o:Oper)(S:St)(k:Nat)(h:k∉p.es.map (·.key)):Mem.get (p.app o S).mem k=Mem.get S.mem k:=by
 simp only[bf.app,fQ];exact Af _ _ _ h
section
variable {all:List Oper} {ps:List bf} {S:St}
theorem pb(l:List Nat):∀(S:St),(aM all ps S l).n=S.n:=by
 induction l with
 |nil=>exact λ_=>rfl
 |cons i l ih=>
  intro S;have A7:aM all ps S (i::l)=aM all ps (aM all ps S [i]) l:=by simp[aM]
  rw[A7,ih];simp only[aM,agc,ag5];split
  ·exact vQ ..
  ·rfl
theorem nj(l:List Nat):∀(S:St),(aM all ps S l).gl=S.gl:=by
 induction l with
 |nil=>exact λ_=>rfl
 |cons i l ih=>
  intro S;have A7:aM all ps S (i::l)=aM all ps (aM all ps S [i]) l:=by simp[aM]
  rw[A7,ih];simp only[aM,agc,ag5];split
  ·exact sx ..
  ·rfl
theorem eZ(l:List Nat):∀(S:St),(aM all ps S l).mem.map (·.key)=S.mem.map (·.key):=by
 induction l with
 |nil=>exact λ_=>rfl
 |cons i l ih=>
  intro S;have A7:aM all ps S (i::l)=aM all ps (aM all ps S [i]) l:=by simp[aM]
  rw[A7,ih];simp only[aM,agc,ag5];split
  ·exact DH ..
  ·rfl
theorem oU(l BB:List Nat)(S:St):aM all ps S (l++BB)=aM all ps (aM all ps S l) BB:=by simp[aM]
theorem vR(t:Nat)(q:Nat->Bool)(l:List Nat):∀(S H:St),(∀i∈l,∀o,all[i]?=some o->o.dst=some t->q i=true)->Env.lk S.env t=Env.lk H.env t->Env.lk (aM all ps S l).env t=Env.lk (aM all ps H (l.filter q)).env t:=by
 induction l with
 |nil=>intro S H _ h;exact h
 |cons i l ih=>
  intro S H A9 h;have A7:aM all ps S (i::l)=aM all ps (aM all ps S [i]) l:=by simp[aM]
  have A_:∀AG∈l,∀o,all[AG]?=some o->o.dst=some t->q AG=true:=λAG Av=>A9 AG (afA _ Av);rw[A7];by_cases A8:q i=true
  ·rw[List.filter_cons_of_pos A8];have AN:aM all ps H (i::l.filter q)=aM all ps (aM all ps H [i]) (l.filter q):=by simp[aM]
   rw[AN];refine ih _ _ A_ ?_;simp only[aM,agc,ag5];split
   ·rw[uL,uL,h]
   ·exact h
  ·rw[anY A8];refine ih _ _ A_ ?_;simp only[aM,agc,ag5];split
   ·rename_i o p E I;rw[uL,aa4 (λA2=>A8 (A9 i (by simp) o E A2)),h]
   ·exact h
theorem nL(k:Nat)(q:Nat->Bool)(l:List Nat):∀(S H:St),(∀i∈l,∀p,ps[i]?=some p->k∈p.es.map (·.key)->q i=true)->S.mem.map (·.key)=H.mem.map (·.key)->Mem.get S.mem k=Mem.get H.mem k->Mem.get (aM all ps S l).mem k=Mem.get (aM all ps H (l.filter q)).mem k:=by
 induction l with
 |nil=>intro S H _ _ h;exact h
 |cons i l ih=>
  intro S H A9 M h;have A7:aM all ps S (i::l)=aM all ps (aM all ps S [i]) l:=by simp[aM]
  have A_:∀AG∈l,∀p,ps[AG]?=some p->k∈p.es.map (·.key)->q AG=true:=λAG Av=>A9 AG (afA _ Av);rw[A7];by_cases A8:q i=true
  ·rw[List.filter_cons_of_pos A8];have AN:aM all ps H (i::l.filter q)=aM all ps (aM all ps H [i]) (l.filter q):=by simp[aM]
   rw[AN];refine ih _ _ A_ (by rw[eZ,eZ,M]) ?_;simp only[aM,agc,ag5];split
   ·simp only[bf.app,fQ];exact oT _ _ _ k M (.inr h)
   ·exact h
  ·rw[anY A8];refine ih _ _ A_ (by rw[eZ,M]) ?_;simp only[aM,agc,ag5];split
   ·rename_i o p E I;rw[Fb _ _ _ _ (λA2=>A8 (A9 i (by simp) p I A2)),h]
   ·exact h
end
structure ia(H S:St):Prop where
 n:H.n=S.n
 gl:H.gl=S.gl
 mem:H.mem=S.mem
 env:∀t,Env.lk H.env t=Env.lk S.env t
theorem Rel.eqv{φ G S H a w}(h:Rel φ G H a w)(he:ia H S):Rel φ G S a w:=
 ⟨by rw[<-he.n];exact h.size,h.defers,λt x Ak=>by rw[<-he.mem];exact h.env t x (by rw[he.env];exact Ak),by rw[<-he.mem];exact h.mem,by rw[<-he.gl,<-he.mem];exact h.lg⟩
theorem Mem.ext{m m':Mem}(Aa:(m.map (·.key)).Nodup)(M:m.map (·.key)=m'.map (·.key))(h:∀k,Mem.get m k=Mem.get m' k):m=m':=by
 induction m generalizing m' with
 |nil=>cases m' with|nil=>rfl|cons _ _=>simp at M
 |cons e r ih=>
  cases m' with
  |nil=>simp at M
  |cons e' Bl=>
   simp only[adC,List.cons.injEq]at M;simp only[adC,List.nodup_cons]at Aa;have AO:=h e.key;simp only[Mem.get,afz,M.1]at AO;cases AO;congr 1;refine ih Aa.2 M.2 λk=>?_;have:=h k;simp only[Mem.get]at this;by_cases he:e.key=k
   ·subst he;have nn:∀{r:Mem},e.key∉r.map (·.key)->Mem.get r e.key=none:=by
     intro r A6;cases AS:Mem.get r e.key with
     |none=>rfl
     |some y=>obtain⟨J,O⟩:=Mem.get_mem AS;exact absurd (O▸adD J) A6
    rw[nn Aa.1,nn (by rw[<-M.2];exact Aa.1)]
   ·simpa [he]using this
def iI(n:Nat)(f:Nat->Bool):List Nat:=(List.range n).filter f
theorem Db{j n:Nat}(h:j<n):List.range n=List.range j++j::List.range' (j+1) (n-j-1):=by
 have O:(j::List.range' (j+1) (n-j-1))=List.range' j (n-j):=by
  rw[show n-j=(n-j-1)+1 by omega,aiU];simp
 rw[O,List.range_eq_range',List.range_eq_range'];rw[show List.range' 0 n=List.range' 0 (j+(n-j)) by rw[show j+(n-j)=n by omega]];rw[<-List.range'_append_1];simp
theorem AZ{j n:Nat}{f:Nat->Bool}(h:j<n)(AH:f j=false):iI n f=(List.range j).filter f++(List.range' (j+1) (n-j-1)).filter f:=by
 rw[iI,Db h,ai4,anY (by simp[AH])]
theorem Sc{j n:Nat}{f g:Nat->Bool}(h:j<n)(AS:g j=true)(BC:∀i,i≠j->g i=f i):iI n g=(List.range j).filter f++j::(List.range' (j+1) (n-j-1)).filter f:=by
 rw[iI,Db h,ai4,List.filter_cons_of_pos AS];congr 1
 ·exact ajq λi hi=>BC i (by have:=adG.1 hi;omega)
 ·congr 1;exact ajq λi hi=>BC i (by have:=anZ.1 hi;omega)
theorem sy{l r:List Nat}(h:q9 l r=true){x:Nat}(Y:x∈l)(A6:x∈r):False:=by
 have:=adA.1 h x Y;simp at this;exact this A6
structure Fc(all:List Oper)(o T:Oper)(p A5:bf):Prop where
 a:∀t,o.dst=some t->t∉looks all T
 b:∀t,T.dst=some t->t∉looks all o
 c:∀t,o.dst=some t->T.dst≠some t
 d:∀k∈p.es.map (·.key),k∉A5.ks
 e:∀k∈A5.es.map (·.key),k∉p.ks
theorem Nv{all o T p A5}(h:AY all o T p A5=true):Fc all o T p A5:=by
 simp only[AY,Ds]at h;obtain⟨⟨⟨⟨J,O⟩,AT⟩,BQ⟩,BR⟩:=h;exact⟨λt AP Y=>sy J (by simp[AP]) Y,λt AP Y=>sy O (by simp[AP]) Y,λt AP Y=>sy AT (x:=t) (by simp[AP]) (by simp[Y]),λk M Y=>sy BQ M Y,λk M Y=>sy BR M Y⟩
section
variable {all:List Oper} {ps:List bf}
theorem eQ(h:nK all ps=true){j:Nat}{o:Oper}(E:all[j]?=some o):∃p,ps[j]?=some p/\(∀i∈eY o,i<j)/\
 ∀i,i<j->i∈(hZ all []).getD j []\/∃T A5,all[i]?=some T/\ps[i]?=some A5/\Fc all T o A5 p:=by
 have Z:j<all.length:=(aa1.1 E).1;have J:=adA.1 h j (adG.2 Z);unfold Ja at J;rw[E]at J;cases I:ps[j]? with
 |none=>rw[I]at J;simp at J
 |some p=>
  rw[I]at J;simp only[Ds,adA,aa8,agr,adG]at J;refine⟨p,rfl,J.1,λi hi=>?_⟩;rcases J.2 i hi with O|O
  ·exact .inl (by simpa using O)
  ·right;split at O
   ·rename_i T A5 U AD;exact⟨T,A5,U,AD,Nv O⟩
   ·cases O
theorem Cert.at{P:Program}{A0:Mem->Prop}{rest:List Oper}{S0 S:St}{Aw:List bf}{S1:St}(h:Cert P A0 all rest S Aw S1):∀(pre:List Oper)(pp:List bf),pre.length=pp.length->all=pre++rest->ps=pp++Aw->aM all ps S0 (List.range pre.length)=S->
 aM all ps S0 (List.range all.length)=S1/\ps.length=all.length/\∀j o p,pre.length<=j->all[j]?=some o->ps[j]?=some p->(∀e∈p.es,e.key∈p.ks)/\(∀m,A0 m->A0 (bH m p.es))/\tL P A0 all (aM all ps S0 (List.range j)) o p:=by
 induction h with
 |nil S=>
  intro pre pp Y AR Ab Al;simp only[afy]at AR Ab;subst AR Ab;refine⟨Al,Y.symm,λj o p Z E _=>?_⟩;rw[age (by omega)]at E;cases E
 |cons o rest S p Aw S1 M B9 Ac A6 ih=>
  intro pre pp Y AR Ab Al;have A7:all[pre.length]?=some o:=by rw[AR];simp
  have AN:ps[pre.length]?=some p:=by rw[Ab,Y];simp
  obtain⟨J,O,AT⟩:=ih (pre++[o]) (pp++[p]) (by simp[Y]) (by rw[AR];simp) (by rw[Ab];simp) (by
   rw[aa9,afZ,List.range_succ,oU,Al];simp[aM,A7,AN])
  refine⟨J,O,λj T A5 Z U AD=>?_⟩;rcases Nat.eq_or_lt_of_le Z with rfl|Z
  ·rw[A7]at U;rw[AN]at AD;cases U;cases AD;exact⟨M,B9,by rw[Al];exact Ac⟩
  ·exact AT j T A5 (by simp;omega) U AD
variable {S:St} {f:Nat->Bool}
def pX(all:List Oper)(f:Nat->Bool):Prop:=∀j o,all[j]?=some o->f j=true->∀p∈eY o,f p=true
theorem rR(An:ps.length=all.length)(AB:nK all ps=true)(AJ:pX all f){j:Nat}{o:Oper}{p:bf}(E:all[j]?=some o)(I:ps[j]?=some p)(Z:f j=false)(Ao:∀i∈eY o,f i=true):
 kX all o p.ks (aM all ps S (iI all.length f)) (aM all ps S (List.range j)):=by
 have AU:j<all.length:=(aa1.1 E).1;have Ap:∀j o,all[j]?=some o->∀p∈eY o,p<j:=λj o E=>(eQ AB E).choose_spec.2.1;obtain⟨Bm,BD,_,BS⟩:=eQ AB E;rw[I]at BD;cases BD
 --Bn Bo ahead of j is D
 have BE:∀i∈(hZ all []).getD j [],i<j/\f i=true:=λi hi=>by
  obtain⟨J,O⟩:=km (L:=λi=>f i=true) Ap (λj o E AH=>AJ j o E AH) j ⟨o,E⟩ i hi;exact⟨J,O λT U=>by rw[E]at U;cases U;exact Ao⟩
 let q:Nat->Bool:=λi=>(hZ all []).getD j [] |>.contains i
 have A9:∀i,q i=true↔i∈(hZ all []).getD j []:=λi=>by simp[q]
 --any other D one,and any other ahead in BT text,is apart
 have BF:∀i,(i<j\/(j<i/\f i=true))->q i=false->∀A1 pi,all[i]?=some A1->ps[i]?=some pi->Fc all A1 o pi p\/Fc all o A1 p pi:=by
  rintro i (hi|⟨hi,AX⟩) A8 A1 pi A' A3
  ·rcases BS i hi with h|⟨T,A5,U,AD,h⟩
   ·rw[(A9 i).2 h]at A8;cases A8
   ·rw[A']at U;rw[A3]at AD;cases U;cases AD;exact .inl h
  ·obtain⟨BU,Ad,_,Ax⟩:=eQ AB A';rw[A3]at Ad;cases Ad;rcases Ax j hi with h|⟨T,A5,U,AD,h⟩
   ·have:=(km (L:=λi=>f i=true) Ap (λj o E AH=>AJ j o E AH) i ⟨A1,A'⟩ j h).2 (λT U=>by rw[A']at U;cases U;exact AJ i A1 A' AX);simp[Z]at this
   ·rw[E]at U;rw[I]at AD;cases U;cases AD;exact .inr h
 have BG:(iI all.length f).filter q=(List.range j).filter q:=by
  rw[AZ AU Z,ai4,ai0,ai0];have:(List.range' (j+1) (all.length-j-1)).filter (λa=>q a&&f a)=[]:=by
   rw[agP];intro i hi;have:=(anZ.1 hi).1;simp only[Ds,not_and];intro A8;have:=(BE i ((A9 i).1 A8)).1;omega
  rw[this,afy];refine ajq λi hi=>?_;cases A8:q i with
  |false=>rfl
  |true=>simp[(BE i ((A9 i).1 A8)).2]
 have Y:∀i∈iI all.length f,i<j\/(j<i/\f i=true):=λi hi=>by
  have AX:=(afx.1 hi).2;rcases Nat.lt_trichotomy i j with h|h|h
  ·exact .inl h
  ·subst h;simp[Z]at AX
  ·exact .inr ⟨h,AX⟩
 have A6:∀i∈List.range j,i<j\/(j<i/\f i=true):=λi hi=>.inl (adG.1 hi);refine⟨by rw[pb,pb],by rw[nj,nj],by rw[eZ,eZ],λt AP=>?_,λk M=>?_⟩
 ·have key:∀l:List Nat,(∀i∈l,i<j\/(j<i/\f i=true))->∀i∈l,∀A1,all[i]?=some A1->A1.dst=some t->q i=true:=by
   intro l Y i hi A1 A' A2;cases A8:q i with
   |true=>rfl
   |false=>
    obtain⟨pi,A3,_⟩:=eQ AB A';rcases BF i (Y i hi) A8 A1 pi A' A3 with h|h
    ·exact absurd AP (h.a t A2)
    ·exact absurd AP (h.b t A2)
  rw[vR t q _ S S (key _ Y) rfl,vR t q (List.range j) S S (key _ A6) rfl,BG]
 ·have key:∀l:List Nat,(∀i∈l,i<j\/(j<i/\f i=true))->∀i∈l,∀pi,ps[i]?=some pi->k∈pi.es.map (·.key)->q i=true:=by
   intro l Y i hi pi A3 A2;cases A8:q i with
   |true=>rfl
   |false=>
    have Aq:i<ps.length:=(aa1.1 A3).1;cases A':all[i]? with
    |none=>
     rw[List.getElem?_eq_none_iff]at A';omega
    |some A1=>
     rcases BF i (Y i hi) A8 A1 pi A' A3 with h|h
     ·exact absurd M (h.d k A2)
     ·exact absurd M (h.e k A2)
  rw[nL k q _ S S (key _ Y) rfl rfl,nL k q (List.range j) S S (key _ A6) rfl rfl,BG]
theorem yU(An:ps.length=all.length)(AB:nK all ps=true)(AJ:pX all f)(Ay:∀(j:Nat) (p:bf),ps[j]?=some p->∀e∈p.es,e.key∈p.ks)(Az:(S.mem.map (·.key)).Nodup){j:Nat}{o:Oper}{p:bf}(E:all[j]?=some o)(I:ps[j]?=some p)(Z:f j=false){g:Nat->Bool}(AS:g j=true)(BV:∀i,i≠j->g i=f i):
 ia (p.app o (aM all ps S (iI all.length f))) (aM all ps S (iI all.length g)):=by
 have AU:j<all.length:=(aa1.1 E).1;have Ap:∀j o,all[j]?=some o->∀p∈eY o,p<j:=λj o E=>(eQ AB E).choose_spec.2.1;have B':∀i∈(List.range' (j+1) (all.length-j-1)).filter f,∀A1 pi,all[i]?=some A1->ps[i]?=some pi->Fc all o A1 p pi:=by
  intro i hi A1 pi A' A3;obtain⟨hi,AX⟩:=afx.1 hi;have Bp:=(anZ.1 hi).1;obtain⟨BU,Ad,_,Ax⟩:=eQ AB A';rw[A3]at Ad;cases Ad;rcases Ax j (by omega)with h|⟨T,A5,U,AD,h⟩
  ·have:=(km (L:=λi=>f i=true) Ap (λj o E AH=>AJ j o E AH) i ⟨A1,A'⟩ j h).2 (λT U=>by rw[A']at U;cases U;exact AJ i A1 A' AX);simp[Z]at this
  ·rw[E]at U;rw[I]at AD;cases U;cases AD;exact h
 rw[Sc AU AS BV,AZ AU Z];generalize BW:(List.range j).filter f=AF;generalize BX:(List.range' (j+1) (all.length-j-1)).filter f=AI at B';have BY:∀i∈AF++AI,i≠j:=by
  intro i hi;rw[<-BW,<-BX]at hi;rcases abo.1 hi with h|h
  ·have:=adG.1 (afx.1 h).1;omega
  ·have:=(anZ.1 (afx.1 h).1).1;omega
 have BZ:∀{i pi},ps[i]?=some pi->∃A1,all[i]?=some A1:=λ{i pi} h=>by
  have:=(aa1.1 h).1;exact⟨all[i]'(by omega),adv _⟩
 let q:Nat->Bool:=λi=>i != j
 have BH:(AF++j::AI).filter q=AF++AI:=by
  rw[ai4,anY (by simp[q]),<-ai4,List.filter_eq_self];intro i hi;simpa [q]using BY i hi
 have BI:∀S,aM all ps S (AF++j::AI)=aM all ps (p.app o (aM all ps S AF)) AI:=λS=>by
  rw[oU];simp[aM,E,I]
 have B_:(p.app o (aM all ps S (AF++AI))).mem.map (·.key)=(aM all ps S (AF++j::AI)).mem.map (·.key):=by
  rw[DH,eZ,eZ]
 refine⟨by rw[vQ,pb,pb],by rw[sx,nj,nj],Mem.ext (by rw[DH,eZ];exact Az) B_ λk=>?_,λt=>?_⟩
 ·by_cases M:k∈p.es.map (·.key)
  ·have J:Mem.get (p.app o (aM all ps S (AF++AI))).mem k=Mem.get (p.app o (aM all ps S AF)).mem k:=by
    simp only[bf.app,fQ];exact oT _ _ _ k (by rw[eZ,eZ]) (.inl M)
   rw[J,BI];rw[nL k (λ_=>false) AI _ (p.app o (aM all ps S AF)) ?_ rfl rfl]
   ·rw[agP.2 (by simp)];rfl
   ·intro i hi pi A3 AK;obtain⟨A1,A'⟩:=BZ A3;have:=(B' i hi A1 pi A' A3).e k AK;obtain⟨e,he,rfl⟩:=abz.1 M;exact absurd (Ay j p I e he) this
  ·rw[Fb _ _ _ _ M,nL k q (AF++j::AI) S S ?_ rfl rfl,BH];intro i hi pi A3 AK;by_cases Ae:i=j
   ·subst Ae;rw[I]at A3;cases A3;exact absurd AK M
   ·simpa [q]using Ae
 ·rw[uL];by_cases A2:o.dst=some t
  ·rw[abf A2,BI];rw[vR t (λ_=>false) AI _ (p.app o (aM all ps S AF)) ?_ rfl]
   ·rw[agP.2 (by simp)];simp[aM,uL,A2]
   ·intro i hi A1 A' B0;obtain⟨pi,A3,_⟩:=eQ AB A';exact absurd B0 ((B' i hi A1 pi A' A3).c t A2)
  ·rw[aa4 A2,vR t q (AF++j::AI) S S ?_ rfl,BH];intro i hi A1 A' B0;by_cases Ae:i=j
   ·subst Ae;rw[E]at A';cases A';exact absurd B0 A2
   ·simpa [q]using Ae
theorem Se{P:Program}{S0 S1:St}{φ0:bW}{G:Fr}{w0:World}{Q:Exit->Act->World->Prop}{A0:Mem->Prop}(B1:A0 S0.mem)(Ag:Cert P A0 all all S0 ps S1)(AB:nK all ps=true)(Az:(S0.mem.map (·.key)).Nodup)
 (B2:∀φ' AA w',Rel φ' G S1 AA w'->aX φ0 S0.mem w0 φ' S1.mem w'->Q .normal AA w'):
 ∀(fuel:Nat)(D:Array Bool) φ a w,D.size=all.length->pX all (λi=>D.getD i false)->Rel φ G (aM all ps S0 (iI all.length λi=>D.getD i false)) a w->aX φ0 S0.mem w0 φ (aM all ps S0 (iI all.length λi=>D.getD i false)).mem w->
  ((List.range all.length).filter λi=>!D.getD i false).length<=fuel->wpAny P .any all.toArray Q fuel D a w:=by
 obtain⟨B3,An,Ac⟩:=Cert.at (ps:=ps) (S0:=S0) Ag [] [] rfl rfl rfl rfl;have Ay:∀(j:Nat)(p:bf),ps[j]?=some p->∀e∈p.es,e.key∈p.ks:=λj p I=>by
  have BO:j<ps.length:=(aa1.1 I).1;exact (Ac j (all[j]'(by omega)) p (by simp) (by simp) I).1
 have Ba:∀l:List Nat,A0 (aM all ps S0 l).mem:=by
  have key:∀(l:List Nat)(S:St),A0 S.mem->A0 (aM all ps S l).mem:=by
   intro l;induction l with
   |nil=>exact λ_ h=>h
   |cons i l ih=>
    intro S h;have A7:aM all ps S (i::l)=aM all ps (aM all ps S [i]) l:=by simp[aM]
    rw[A7];refine ih _ ?_;simp only[aM,agc,ag5];split
    ·rename_i o p E I;simp only[bf.app,fQ];exact (Ac i o p (by simp) E I).2.1 _ h
    ·exact h
  exact λl=>key l S0 B1
 --BT first Bq Br D is ready
 have first:∀(f:Nat->Bool)(n:Nat),n<=all.length->(∀i,i<n->f i=true)\/∃i,i<n/\f i=false/\∀AG,AG<i->f AG=true:=by
  intro f n;induction n with
  |zero=>exact λ_=>.inl (λi hi=>by omega)
  |succ n ih=>
   intro Aa;rcases ih (by omega)with h|⟨i,J,O,AT⟩
   ·cases AH:f n with
    |true=>
     refine .inl λi hi=>?_;rcases Nat.lt_succ_iff_lt_or_eq.1 hi with B4|B4
     ·exact h i B4
     ·rw[B4];exact AH
    |false=>exact .inr ⟨n,by omega,AH,h⟩
   ·exact .inr ⟨i,by omega,O,AT⟩
 have done:∀(D:Array Bool) φ a w,D.size=all.length->Rel φ G (aM all ps S0 (iI all.length λi=>D.getD i false)) a w->aX φ0 S0.mem w0 φ (aM all ps S0 (iI all.length λi=>D.getD i false)).mem w->Region.ready .any all.toArray D=[]->Q .normal a w:=by
  intro D φ a w Ah A6 M Ar;have Bb:∀i,i<all.length->D.getD i false=true:=by
   rcases first (λi=>D.getD i false) all.length (aa7 _)with h|⟨i,J,O,AT⟩
   ·exact h
   ·exfalso;have:i∈Region.ready .any all.toArray D:=by
     rw[mem_ready];refine⟨?_,all[i],by simp[J],λe he B5=>?_⟩
     ·have:i<D.size:=by omega
      simp only[abr,aga this,afU]at O⊢;exact O
     ·obtain⟨p,_,I,_⟩:=eQ AB (show all[i]?=some all[i] by simp[J]);exact AT e.on (I e.on (by
       simp only[eY,abz,afx];exact⟨e,⟨by simpa using he,B5⟩,rfl⟩))
    rw[Ar]at this;cases this
  have Y:(iI all.length λi=>D.getD i false)=List.range all.length:=by
   rw[iI,List.filter_eq_self];intro i hi;exact Bb i (adG.1 hi)
  rw[Y,B3]at A6 M;exact B2 φ a w A6 M
 intro fuel;induction fuel with
 |zero=>
  intro D φ a w Ah AJ A6 M AH;have Ar:Region.ready .any all.toArray D=[]:=by
   cases h:Region.ready .any all.toArray D with
   |nil=>rfl
   |cons i r=>
    exfalso;have hi:i∈Region.ready .any all.toArray D:=by rw[h];simp
    rw[mem_ready]at hi;obtain⟨AO,o,E,_⟩:=hi;have Aq:i<all.length:=by
     have:=(adU.1 E).1;simpa using this
    have Ai:D.getD i false=false:=by
     have:i<D.size:=by omega
     simp only[abr,aga this,afU]at AO⊢;exact AO
    have:i∈(List.range all.length).filter λi=>!D.getD i false:=afx.2 ⟨adG.2 Aq,by simp[Ai]⟩;have:=List.length_pos_of_mem this;omega
  exact⟨Ar,done D φ a w Ah A6 M Ar⟩
 |succ fuel ih=>
  intro D φ a w Ah AJ A6 M AH;refine⟨done D φ a w Ah A6 M,λi hi=>?_⟩;rw[mem_ready]at hi;obtain⟨AO,o,E,Bc⟩:=hi;have U:all[i]?=some o:=by simpa using E
  have Aq:i<all.length:=(aa1.1 U).1;have BJ:i<D.size:=by omega
  have Ai:D.getD i false=false:=by
   simp only[abr,aga BJ,afU]at AO⊢;exact AO
  have Ao:∀k∈eY o,D.getD k false=true:=by
   intro k AQ;simp only[eY,abz,afx]at AQ;obtain⟨e,⟨he,B5⟩,rfl⟩:=AQ;exact Bc e (by simpa using he) B5
  obtain⟨p,I,_⟩:=eQ AB U;obtain⟨Bs,_,Bd⟩:=Ac i o p (by simp) U I;have Be:=rR (S:=S0) An AB AJ U I Ai Ao;have B6:(D.setIfInBounds i true).getD i false=true:=by simp[BJ]
  have As:∀k,k≠i->(D.setIfInBounds i true).getD k false=D.getD k false:=λk AQ=>getD_set_ne false (agB AQ);have heq:=yU (S:=S0) (f:=λi=>D.getD i false) (g:=λk=>(D.setIfInBounds i true).getD k false) An AB AJ Ay Az U I Ai B6 As;have Bf:pX all (λk=>(D.setIfInBounds i true).getD k false):=by
   intro k ok B7 Bg x Ak;by_cases BK:x=i
   ·subst BK;exact B6
   ·show (D.setIfInBounds i true).getD x false=true;rw[As x BK];by_cases AK:k=i
    ·subst AK;rw[U]at B7;cases B7;exact Ao x Ak
    ·exact AJ k ok B7 ((As k AK).symm.trans Bg) x Ak
  have Bh:((List.range all.length).filter λk=>!(D.setIfInBounds i true).getD k false).length<=fuel:=by
   have J:(List.range all.length).filter (λk=>!(D.setIfInBounds i true).getD k false)=((List.range all.length).filter λk=>!D.getD k false).filter (λk=>k != i):=by
    rw[ai0];refine ajq λk _=>?_;by_cases AK:k=i
    ·subst AK;rw[B6];simp
    ·rw[As k AK];simp[AK]
   have Bi:i∈(List.range all.length).filter λk=>!D.getD k false:=afx.2 ⟨adG.2 Aq,by simp[Ai]⟩;rw[J];have:(((List.range all.length).filter λk=>!D.getD k false).filter (λk=>k != i)).length<((List.range all.length).filter λk=>!D.getD k false).length:=by
    rw[aku];exact⟨i,Bi,by simp⟩
   omega
  have AM:=Bd _ Be (Ba _) φ G a w A6 (wpAny P .any all.toArray Q fuel (D.setIfInBounds i true)) Q (λφ' AA w' B8 AQ=>
   ih _ φ' AA w' (by simpa using Ah) Bf (B8.eqv heq) (by rw[<-heq.mem];exact M.trans AQ) Bh)
  unfold wpOp;rw[E];simp only
  split at AM
  ·rename_i hw;rw[abf hw];exact .inl AM
  ·rename_i hw;rw[aa4 hw];exact AM
end
theorem Nw{P:Program}{S S1:St}{id:Nat}{ops:List Oper}{ps:List bf}{A0:Mem->Prop}(B1:A0 S.mem)(hm:P.follows .mixedOrders=true)(Ag:Cert P A0 ops ops S ps S1)(AB:nK ops ps=true){φ G a w}(A6:Rel φ G S a w){Q:Exit->Act->World->Prop}
 (B2:∀φ' AA w',Rel φ' G S1 AA w'->aX φ S.mem w φ' S1.mem w'->Q .normal AA w'):(Code.region id ops.toArray true).wp P Q a w:=by
 refine wp_region_any hm ?_;have Bj:Rel φ G S a {w with drawn:=w.drawn+1}:=A6.grow (λ_ _=>rfl) (aa7 _);have BL:(iI ops.length λi=>(Array.replicate ops.length false).getD i false)=[]:=by
  rw[iI,agP];intro i hi;simp[abr,adG.1 hi]
 refine Se (S0:=S) (φ0:=φ) (w0:=w) (G:=G) B1 Ag AB A6.mem.nodup (λφ' AA w' B8 AQ=>B2 φ' AA w' B8 AQ) _ _ φ a _ (by simp) ?_ ?_ ?_ ?_
 ·intro j o _ Z;exfalso;simp only[abr]at Z;by_cases h:j<ops.length
  ·simp[h]at Z
  ·simp[h]at Z
 ·simp only[afN];rw[BL];exact Bj
 ·simp only[afN];rw[BL];exact aX.grow (λ_ _=>rfl) (aa7 _) rfl rfl rfl
 ·simp only[afN];exact ajn (List.length_filter_le _ _) (by simp)
theorem af9{P:Program}{A0:Mem->Prop}{ops:List Oper}{S S1:St}{ps:List bf}(Ag:Cert P A0 ops ops S ps S1):S1.n=S.n/\S1.gl=S.gl:=by
 obtain⟨B3,_,_⟩:=Cert.at (ps:=ps) (S0:=S) Ag [] [] rfl rfl rfl rfl;rw[<-B3];exact⟨pb ..,nj ..⟩
def DI(all:List Oper)(o T:Oper):Bool:=q9 o.dst.toList (looks all T)&&q9 T.dst.toList (looks all o)&&q9 o.dst.toList T.dst.toList
def A4(all:List Oper)(AC:List (List Nat))(Au:List (List Nat))(j:Nat):Bool:=
 match all[j]? with
 |some o=>(eY o).all (λi=>decide (i<j))&&(List.range j).all λi=>(Au.getD j []).contains i||(match all[i]? with
  |some T=>DI all T o&&((AC.getD i []).contains j&&(AC.getD j []).contains i)
  |none=>false)
 |none=>false
def DJ(all:List Oper)(AC:List (List Nat)):Bool:=(List.range all.length).all (A4 all AC (hZ all []))
def GM(ps:List bf)(es:List cJ):List Nat->Bool
 |[]=>true
 |j::r=>(match ps[j]? with|some q=>q9 (es.map (·.key)) q.ks|none=>false)&&GM ps es r
def GN(ps:List bf)(AL:List Nat):List cJ->Bool
 |[]=>true
 |e::es=>GM ps (e::es) AL
def yV(ps:List bf):List (List Nat)->List bf->Bool
 |_,[]=>true
 |[],p::r=>GN ps [] p.es&&yV ps [] r
 |AL::AC,p::r=>GN ps AL p.es&&yV ps AC r
def oe(AC:List (List Nat))(ps:List bf):Bool:=yV ps AC ps
theorem rf{ps:List bf}:∀{AC:List (List Nat)}{l:List bf},yV ps AC l=true->∀i p,l[i]?=some p->GN ps (AC.getD i []) p.es=true
 |_,[],_,i,p,I=>by simp at I
 |[],q::r,h,i,p,I=>by
  simp only[yV,Ds]at h;cases i with
  |zero=>simp at I;subst I;simpa using h.1
  |succ i=>have:=rf h.2 i p (by simpa using I);simpa using this
 |AL::AC,q::r,h,i,p,I=>by
  simp only[yV,Ds]at h;cases i with
  |zero=>simp at I;subst I;simpa using h.1
  |succ i=>have:=rf h.2 i p (by simpa using I);simpa using this
theorem Kj{ps:List bf}{es:List cJ}:∀{AL:List Nat},GM ps es AL=true->∀j∈AL,∀q,ps[j]?=some q->q9 (es.map (·.key)) q.ks=true
 |[],_,j,Z,_,_=>by simp at Z
 |k::r,h,j,Z,q,A9=>by
  simp only[GM,Ds]at h;rcases abd.1 Z with rfl|Z
  ·have:=h.1;rw[A9]at this;exact this
  ·exact Kj h.2 j Z q A9
theorem yW{ps:List bf}{AL:List Nat}:∀{es:List cJ},GN ps AL es=true->∀j∈AL,∀q,ps[j]?=some q->q9 (es.map (·.key)) q.ks=true
 |[],_,_,_,_,_=>rfl
 |_::_,h,j,Z,q,A9=>Kj h j Z q A9
theorem Vv{all:List Oper}{AC:List (List Nat)}{ps:List bf}(AM:DJ all AC=true)(A2:oe AC ps=true)(Y:ps.length=all.length):nK all ps=true:=by
 unfold nK;refine adA.2 λj Z=>?_;have J:=adA.1 AM j Z;have Bk:j<all.length:=adG.1 Z;unfold A4 at J;unfold Ja;have AW:ps[j]?=some (ps[j]'(by omega)):=by simp[Y,Bk]
 rw[AW];cases E:all[j]? with
 |none=>rw[E]at J;cases J
 |some o=>
  rw[E]at J;simp only[Ds,adA,aa8,agr,adG]at J⊢;refine⟨J.1,λi hi=>?_⟩;rcases J.2 i hi with O|O
  ·exact .inl O
  ·right;have A3:ps[i]?=some (ps[i]'(by omega)):=by simp[show i<ps.length by omega]
   cases A':all[i]? with
   |none=>rw[A']at O;cases O
   |some T=>
    rw[A']at O;rw[A3];simp only[Ds]at O;simp only[AY];have A7:=yW (rf A2 i _ A3) j (by simpa using O.2.1) _ AW;have AN:=yW (rf A2 j _ AW) i (by simpa using O.2.2) _ A3;have BM:=O.1;simp only[DI,Ds]at BM;simp only[Ds];exact⟨⟨BM,A7⟩,AN⟩
def DK(all:List Oper):Prop:=∀i,i+1<all.length->i∈(hZ all []).getD (all.length-1) []
theorem Dc{all:List Oper}{A_:List (List Nat)}(V:DJ all A_=true)(Aa:A_.getD (all.length-1) []=[]):DK all:=by
 intro i hi;have M:=adA.1 V (all.length-1) (adG.2 (by omega));unfold A4 at M;rw[adv (by omega)]at M;simp only[Ds,adA,agr,adG]at M;rcases M.2 i (by omega)with E|E
 ·simpa using E
 ·rw[adv (by omega)]at E;simp only[Ds]at E;have:=E.2.2;rw[Aa]at this;cases this
def Dd:bf:=⟨[],[],false,.bm⟩
section
variable {all:List Oper} {ps:List bf}
theorem Cert.at2{P:Program}{I:Mem->Prop}{rest:List Oper}{S0 S:St}{U:List bf}{S1:St}(h:Cert P I all rest S U S1):∀(pre:List Oper)(pp:List bf)(AF:List Oper)(AG:List bf),pre.length=pp.length->all=pre++rest++AF->ps=pp++U++AG->aM all ps S0 (List.range pre.length)=S->
 aM all ps S0 (List.range (pre.length+rest.length))=S1/\U.length=rest.length/\∀j o p,pre.length<=j->j<pre.length+rest.length->all[j]?=some o->ps[j]?=some p->(∀e∈p.es,e.key∈p.ks)/\(∀m,I m->I (bH m p.es))/\tL P I all (aM all ps S0 (List.range j)) o p:=by
 induction h with
 |nil S=>
  intro pre pp AF AG AA AM A' AH;exact⟨by simpa using AH,rfl,λj o p Y AN _=>by simp at AN;omega⟩
 |cons o rest S p U S1 A1 Aq AB y ih=>
  intro pre pp AF AG AA AM A' AH;have A2:all[pre.length]?=some o:=by rw[AM];simp
  have Ab:ps[pre.length]?=some p:=by rw[A',AA];simp
  obtain⟨M,E,AC⟩:=ih (pre++[o]) (pp++[p]) AF AG (by simp[AA]) (by rw[AM];simp) (by rw[A'];simp) (by
   rw[aa9,afZ,List.range_succ,oU,AH];simp[aM,A2,Ab])
  refine⟨by rw[<-M];simp;congr 2;omega,by simp[E],λj Ac Ar Y AN O AO=>?_⟩;rcases Nat.eq_or_lt_of_le Y with rfl|Y
  ·rw[A2]at O;rw[Ab]at AO;cases O;cases AO;exact⟨A1,Aq,by rw[AH];exact AB⟩
  ·exact AC j Ac Ar (by simp;omega) (by simp at AN⊢;omega) O AO
theorem Sf{P:Program}{S0 S1:St}{φ0:bW}{G:Fr}{w0:World}{Q:Exit->Act->World->Prop}{I:Mem->Prop}{init:List Oper}{ol:Oper}(A3:all=init++[ol])(AP:DK all)(AQ:I S0.mem){U:List bf}(AR:Cert P I all init S0 U S1)(A':ps=U++[Dd])(A0:nK all ps=true)(As:(S0.mem.map (·.key)).Nodup)
 (AS:∀φ a w,Rel φ G S1 a w->aX φ0 S0.mem w0 φ S1.mem w->∀next:Act->World->Prop,(∀J w',Q .normal J w'->next J w')->if Region.wanted ol (yielded all.toArray a.tmps)then ol.wp P a w next Q else next (a.put ol.dst undef) w):
 ∀(fuel:Nat)(D:Array Bool) φ a w,D.size=all.length->D.getD init.length false=false->pX all (λi=>D.getD i false)->Rel φ G (aM all ps S0 (iI all.length λi=>D.getD i false)) a w->aX φ0 S0.mem w0 φ (aM all ps S0 (iI all.length λi=>D.getD i false)).mem w->
  ((List.range all.length).filter λi=>!D.getD i false).length<=fuel->wpAny P .any all.toArray Q fuel D a w:=by
 obtain⟨Au,Ad,AB⟩:=Cert.at2 (ps:=ps) (S0:=S0) AR [] [] [ol] [Dd] rfl (by simp[A3]) (by simp[A']) rfl;have AT:all.length=init.length+1:=by rw[A3];simp
 have Ae:ps.length=all.length:=by rw[A',AT];simp[Ad]
 have AU:all[init.length]?=some ol:=by rw[A3];simp
 have Af:ps[init.length]?=some Dd:=by rw[A',<-Ad];simp
 have Av:∀(j:Nat)(p:bf),ps[j]?=some p->∀e∈p.es,e.key∈p.ks:=λj p H=>by
  have BC:j<ps.length:=(aa1.1 H).1;by_cases Y:j<init.length
  ·exact (AB j (all[j]'(by omega)) p (by simp) (by simpa using Y) (by simp) H).1
  ·have:j=init.length:=by omega
   subst this;rw[Af]at H;cases H;simp[Dd]
 have Aw:∀j o,all[j]?=some o->∀p∈eY o,p<j:=λj o T=>(eQ A0 T).choose_spec.2.1;have Ax:∀l:List Nat,I (aM all ps S0 l).mem:=by
  have key:∀(l:List Nat)(S:St),I S.mem->I (aM all ps S l).mem:=by
   intro l;induction l with
   |nil=>exact λ_ h=>h
   |cons i l ih=>
    intro S h;have A2:aM all ps S (i::l)=aM all ps (aM all ps S [i]) l:=by simp[aM]
    rw[A2];refine ih _ ?_;simp only[aM,agc,ag5];split
    ·rename_i o p T H;simp only[bf.app,fQ];have AI:i<all.length:=(aa1.1 T).1;by_cases hi:i<init.length
     ·exact (AB i o p (by simp) (by simpa using hi) T H).2.1 _ h
     ·have:i=init.length:=by omega
      subst this;rw[Af]at H;cases H;exact h
    ·exact h
  exact λl=>key l S0 AQ
 have first:∀(f:Nat->Bool)(n:Nat),n<=all.length->(∀i,i<n->f i=true)\/∃i,i<n/\f i=false/\∀Ag,Ag<i->f Ag=true:=by
  intro f n;induction n with
  |zero=>exact λ_=>.inl (λi hi=>by omega)
  |succ n ih=>
   intro Aa;rcases ih (by omega)with h|⟨i,M,E,AC⟩
   ·cases A5:f n with
    |true=>
     refine .inl λi hi=>?_;rcases Nat.lt_succ_iff_lt_or_eq.1 hi with AV|AV
     ·exact h i AV
     ·rw[AV];exact A5
    |false=>exact .inr ⟨n,by omega,A5,h⟩
   ·exact .inr ⟨i,by omega,E,AC⟩
 have Ay:∀(D:Array Bool),D.size=all.length->Region.ready .any all.toArray D=[]->∀i,i<all.length->D.getD i false=true:=by
  intro D A6 A7;rcases first (λi=>D.getD i false) all.length (aa7 _)with h|⟨i,M,E,AC⟩
  ·exact h
  ·exfalso;have:i∈Region.ready .any all.toArray D:=by
    rw[mem_ready];refine⟨?_,all[i],by simp[M],λe he AW=>?_⟩
    ·have:i<D.size:=by omega
     simp only[abr,aga this,afU]at E⊢;exact E
    ·obtain⟨p,_,H,_⟩:=eQ A0 (show all[i]?=some all[i] by simp[M]);exact AC e.on (H e.on (by
      simp only[eY,abz,afx];exact⟨e,⟨by simpa using he,AW⟩,rfl⟩))
   rw[A7]at this;cases this
 have Az:∀(D:Array Bool),D.size=all.length->(∀i,i<all.length->D.getD i false=true)->Region.ready .any all.toArray D=[]:=by
  intro D A6 B';cases h:Region.ready .any all.toArray D with
  |nil=>rfl
  |cons i r=>
   exfalso;have hi:i∈Region.ready .any all.toArray D:=by rw[h];simp
   rw[mem_ready]at hi;obtain⟨AD,o,T,_⟩:=hi;have AI:i<all.length:=by
    have:=(adU.1 T).1;simpa using this
   have:=B' i AI;have E:i<D.size:=by omega
   simp only[abr,aga E,afU]at AD this;rw[AD]at this;cases this
 intro fuel;induction fuel with
 |zero=>
  intro D φ a w A6 AJ AE y A1 A5;exfalso;have:init.length∈(List.range all.length).filter λi=>!D.getD i false:=afx.2 ⟨adG.2 (by omega),by simp only[AJ];rfl⟩;have:=List.length_pos_of_mem this;omega
 |succ fuel ih=>
  intro D φ a w A6 AJ AE y A1 A5;refine⟨λA7=>?_,λi hi=>?_⟩
  ·have:=Ay D A6 A7 init.length (by omega);rw[AJ]at this;cases this
  rw[mem_ready]at hi;obtain⟨AD,o,T,B0⟩:=hi;have O:all[i]?=some o:=by simpa using T
  have AI:i<all.length:=(aa1.1 O).1;have Ah:i<D.size:=by omega
  have AK:D.getD i false=false:=by
   simp only[abr,aga Ah,afU]at AD⊢;exact AD
  have AX:∀k∈eY o,D.getD k false=true:=by
   intro k A8;simp only[eY,abz,afx]at A8;obtain⟨e,⟨he,AW⟩,rfl⟩:=A8;exact B0 e (by simpa using he) AW
  have AL:(D.setIfInBounds i true).getD i false=true:=by simp[Ah]
  have A9:∀k,k≠i->(D.setIfInBounds i true).getD k false=D.getD k false:=λk A8=>getD_set_ne false (agB A8);by_cases Ai:i=init.length
  ·subst Ai;rw[AU]at O;cases O;have Aj:∀k,k<init.length->D.getD k false=true:=by
    intro k AY;have B1:k∈(hZ all []).getD init.length []:=by
     have:=AP k (by omega);rw[AT]at this;simpa using this
    exact (km (L:=λi=>D.getD i false=true) Aw (λj o T A5=>AE j o T A5) init.length ⟨ol,AU⟩ k B1).2 (λAc Ak=>by rw[AU]at Ak;cases Ak;exact AX)
   have AA:(iI all.length λi=>D.getD i false)=List.range init.length:=by
    rw[iI,AT,List.range_succ,ai4];have A2:(List.range init.length).filter (λi=>D.getD i false)=List.range init.length:=by
     rw[List.filter_eq_self];intro k AY;exact Aj k (adG.1 AY)
    rw[A2];simp only[List.filter_cons,List.filter_nil];rw[AK];simp
   have B2:aM all ps S0 (List.range init.length)=S1:=by simpa using Au
   rw[AA,B2]at y A1;have V:=AS φ a w y A1 (wpAny P .any all.toArray Q fuel (D.setIfInBounds init.length true)) (λJ w' Al=>by
    have A7:=Az (D.setIfInBounds init.length true) (by simpa using A6) (λk AY=>by
     by_cases Z:k=init.length
     ·subst Z;exact AL
     ·rw[A9 k Z];exact Aj k (by omega))
    cases fuel with
    |zero=>exact⟨A7,Al⟩
    |succ fuel=>exact⟨λ_=>Al,λi hi=>by rw[A7]at hi;cases hi⟩)
   unfold wpOp;rw[T];simp only
   split at V
   ·rename_i hw;rw[abf hw];exact .inl V
   ·rename_i hw;rw[aa4 hw];exact V
  ·have B3:i<init.length:=by omega
   obtain⟨p,H,_⟩:=eQ A0 O;obtain⟨BD,_,B4⟩:=AB i o p (by simp) (by simpa using B3) O H;have B5:=rR (S:=S0) Ae A0 AE O H AK AX;have heq:=yU (S:=S0) (f:=λi=>D.getD i false) (g:=λk=>(D.setIfInBounds i true).getD k false) Ae A0 AE Av As O H AK AL A9;have B6:pX all (λk=>(D.setIfInBounds i true).getD k false):=by
    intro k ok AZ B7 x An;by_cases Ao:x=i
    ·subst Ao;exact AL
    ·show (D.setIfInBounds i true).getD x false=true;rw[A9 x Ao];by_cases Z:k=i
     ·subst Z;rw[O]at AZ;cases AZ;exact AX x An
     ·exact AE k ok AZ ((A9 k Z).symm.trans B7) x An
   have B8:((List.range all.length).filter λk=>!(D.setIfInBounds i true).getD k false).length<=fuel:=by
    have M:(List.range all.length).filter (λk=>!(D.setIfInBounds i true).getD k false)=((List.range all.length).filter λk=>!D.getD k false).filter (λk=>k != i):=by
     rw[ai0];refine ajq λk _=>?_;by_cases Z:k=i
     ·subst Z;rw[AL];simp
     ·rw[A9 k Z];simp[Z]
    have B9:i∈(List.range all.length).filter λk=>!D.getD k false:=afx.2 ⟨adG.2 AI,by simp[AK]⟩;rw[M];have:(((List.range all.length).filter λk=>!D.getD k false).filter (λk=>k != i)).length<((List.range all.length).filter λk=>!D.getD k false).length:=by
     rw[aku];exact⟨i,B9,by simp⟩
    omega
   have V:=B4 _ B5 (Ax _) φ G a w y (wpAny P .any all.toArray Q fuel (D.setIfInBounds i true)) Q (λφ' J w' BA A8=>
    ih _ φ' J w' (by simpa using A6) (by rw[A9 _ (agB Ai)];exact AJ) B6 (BA.eqv heq) (by rw[<-heq.mem];exact A1.trans A8) B8)
   unfold wpOp;rw[T];simp only
   split at V
   ·rename_i hw;rw[abf hw];exact .inl V
   ·rename_i hw;rw[aa4 hw];exact V
end
theorem Nx{P:Program}{S S1:St}{id:Nat}{ops init:List Oper}{ol:Oper}{U:List bf}{I:Mem->Prop}(A3:ops=init++[ol])(AP:DK ops)(AQ:I S.mem)(hm:P.follows .mixedOrders=true)(AR:Cert P I ops init S U S1)(A0:nK ops (U++[Dd])=true){φ G a w}(y:Rel φ G S a w){Q:Exit->Act->World->Prop}
 (AS:∀φ' J w',Rel φ' G S1 J w'->aX φ S.mem w φ' S1.mem w'->∀next:Act->World->Prop,(∀J w',Q .normal J w'->next J w')->if Region.wanted ol (yielded ops.toArray J.tmps)then ol.wp P J w' next Q else next (J.put ol.dst undef) w'):(Code.region id ops.toArray true).wp P Q a w:=by
 refine wp_region_any hm ?_;have BB:Rel φ G S a {w with drawn:=w.drawn+1}:=y.grow (λ_ _=>rfl) (aa7 _);have Ap:(iI ops.length λi=>(Array.replicate ops.length false).getD i false)=[]:=by
  rw[iI,agP];intro i hi;simp[abr,adG.1 hi]
 refine Sf (S0:=S) (φ0:=φ) (w0:=w) (G:=G) A3 AP AQ AR rfl A0 y.mem.nodup AS _ _ φ a _ (by simp) ?_ ?_ ?_ ?_ ?_
 ·simp only[abr];rw[A3];simp
 ·intro j o _ Y;exfalso;simp only[abr]at Y;by_cases h:j<ops.length
  ·simp[h]at Y
  ·simp[h]at Y
 ·simp only[afN];rw[Ap];exact BB
 ·simp only[afN];rw[Ap];exact aX.grow (λ_ _=>rfl) (aa7 _) rfl rfl rfl
 ·simp only[afN];exact ajn (List.length_filter_le _ _) (by simp)
def gD:Mem->Nat
 |[]=>0
 |e::r=>e.ak+gD r
def gB:List bf->Nat
 |[]=>0
 |p::r=>gD p.es+gB r
def kp(N:Nat):Mem->Mem
 |[]=>[]
 |e::r=>(match decide (100<=e.key)with|true=>⟨e.key,N,.dead⟩|false=>e)::kp N r
def St.kill(S:St)(N:Nat):St:={S with env:=[],mem:=kp N S.mem}
def GO:List cJ->Bool
 |[]=>true
 |e::r=>decide (100<=e.key)&&GO r
def A6(ps:List bf):List Nat->Bool
 |[]=>true
 |i::r=>(match ps[i]? with|some p=>GO p.es|none=>false)&&A6 ps r
theorem A7:∀{m:Mem}{e:cJ},e∈m->e.ak<=gD m
 |_::r,e,h=>by
  rcases abd.1 h with rfl|h
  ·simp only[gD];omega
  ·have:=A7 (m:=r) h;simp only[gD];omega
theorem Fh:∀{ps:List bf}{p:bf},p∈ps->gD p.es<=gB ps
 |_::r,p,h=>by
  rcases abd.1 h with rfl|h
  ·simp only[gB];omega
  ·have:=Fh (ps:=r) h;simp only[gB];omega
theorem pY(N:Nat):∀m:Mem,(kp N m).map (·.key)=m.map (·.key)
 |[]=>rfl
 |e::r=>by
  simp only[kp,adC,pY N r];split<;>rfl
theorem sB{N:Nat}:∀{m:Mem}{e:cJ},e∈kp N m->(∃A0∈m,100<=A0.key/\e=⟨A0.key,N,.dead⟩)\/(e∈m/\e.key<100)
 |A0::r,e,h=>by
  simp only[kp,abd]at h;rcases h with h|h
  ·by_cases V:100<=A0.key
   ·simp only[V,decide_true]at h;exact .inl ⟨A0,by simp,V,h⟩
   ·simp only[V,decide_false]at h;subst h;exact .inr ⟨by simp,by omega⟩
  ·rcases sB h with ⟨AJ,H,O,A4⟩|⟨H,O⟩
   ·exact .inl ⟨AJ,afA _ H,O,A4⟩
   ·exact .inr ⟨afA _ H,O⟩
theorem A8(N:Nat)(k:Nat):∀m:Mem,Mem.get (kp N m) k=(Mem.get m k).map λe=>match decide (100<=e.key)with|true=>⟨e.key,N,.dead⟩|false=>e
 |[]=>rfl
 |e::r=>by
  have AJ:(match decide (100<=e.key)with|true=>(⟨e.key,N,.dead⟩:cJ)|false=>e).key=e.key:=by split<;>rfl
  simp only[kp,Mem.get,AJ];split
  ·rfl
  ·exact A8 N k r
def pZ(φ:bW)(N:Nat):bW:=λk=>match φ k with
 |some L=>some (match decide (100<=k)with|true=>{L with ak:=N}|false=>L)
 |none=>none
theorem p4{φ:bW}{N k:Nat}(h:k<100):pZ φ N k=φ k:=by
 unfold pZ;have:decide (100<=k)=false:=by simp;omega
 rw[this];cases φ k<;>rfl
theorem HY{φ:bW}{N k:Nat}{L:Loc}(h:100<=k)(J:φ k=some L):pZ φ N k=some {L with ak:=N}:=by
 unfold pZ;have:decide (100<=k)=true:=by simp;omega
 rw[this,J]
theorem ad7{φ:bW}{G:Fr}{S:St}{a:Act}{w:World}{N:Nat}(h:Rel φ G S a w)(AV:∀e∈S.mem,e.ak<N):
 Rel (pZ φ N) G (S.kill N) a w/\aX φ S.mem w (pZ φ N) (S.kill N).mem w:=by
 have hle:φ.le (pZ φ N):=by
  intro k L J;by_cases V:100<=k
  ·obtain⟨e,he,rfl⟩:=abz.1 (h.mem.qz k L J);obtain⟨L',AM,Ak,_⟩:=h.mem.fK e he;rw[J]at AM;cases AM;have:=AV e he;exact⟨_,HY V J,by simp only;omega,λhh=>by simp only at hh;omega⟩
  ·exact⟨L,by rw[p4 (by omega)];exact J,aa7 _,λ_=>rfl⟩
 have AW:∀b,jc (pZ φ N) (kp N S.mem) b->jc φ S.mem b:=by
  rintro b ⟨e,he,L,J,I⟩;rcases sB he with ⟨A0,Y,H,rfl⟩|⟨Y,H⟩
  ·exact I.elim
  ·rw[p4 H]at J;exact⟨e,Y,L,J,I⟩
 have Al:∀b,Fo G (pZ φ N) (kp N S.mem) b->Fo G φ S.mem b:=λb=>Or.imp id (AW b);have V:aX φ S.mem w (pZ φ N) (S.kill N).mem w:=⟨hle,λ_ _ _=>rfl,λb _ U=>AW b U,aa7 _,rfl,rfl,rfl⟩;refine⟨⟨h.size,h.defers,(λt x AS=>nomatch AS),⟨?_,?_,?_,?_,?_,h.mem.bound⟩,h.lg.mono (λ_ _ _=>rfl) (aa7 _) (λb _ U=>Al b U)⟩,V⟩
 ·show ((kp N S.mem).map (·.key)).Nodup;rw[pY];exact h.mem.nodup
 ·intro k L J;show k∈(kp N S.mem).map (·.key);rw[pY];unfold pZ at J;cases M:φ k with
  |none=>rw[M]at J;cases J
  |some B2=>exact h.mem.qz k B2 M
 ·intro e he;rcases sB he with ⟨A0,Y,H,rfl⟩|⟨Y,H⟩
  ·obtain⟨L,J,_,_⟩:=h.mem.fK A0 Y;exact⟨_,HY H J,rfl,trivial⟩
  ·obtain⟨L,J,Ak,B3⟩:=h.mem.fK e Y;exact⟨L,by rw[p4 H];exact J,Ak,B3.mono hle (λ_ _ _=>rfl) (aa7 _) (λb _ U=>Al b U) (λ_ _=>rfl)⟩
 ·rintro e he e' B4 L L' J AM ⟨b,I,T⟩;rcases sB he with ⟨A0,Y,H,rfl⟩|⟨Y,H⟩
  ·exact I.elim
  ·rcases sB B4 with ⟨AJ,O,A4,rfl⟩|⟨O,A4⟩
   ·exact T.elim
   ·rw[p4 H]at J;rw[p4 A4]at AM;exact h.mem.apart e Y e' O L L' J AM ⟨b,I,T⟩
 ·intro b U;exact h.mem.lf b (AW b U)
def Ce(P:Program)(all:List Oper)(S:St)(o:Oper)(p:bf)(t:TypeId)(x:D):Prop:=
 ∀AC,kX all o p.ks AC S->∀φ G a w,Rel φ G AC a w->∀(next:Act->World->Prop)(R:Exit->Act->World->Prop),
  (∀φ' A1 w' v,Rel φ' G {AC with mem:=bH AC.mem p.es} A1 w'->aX φ AC.mem w φ' (bH AC.mem p.es) w'->aQ w' (Fo G φ' (bH AC.mem p.es)) x v->R (.panic [{v:=.iface t v,recovered:=false}]) A1 w')->
  if Region.wanted o (yielded all.toArray a.tmps)then o.wp P a w next R else next (a.put o.dst undef) w
section
variable {all:List Oper} {ps:List bf}
theorem Sg{m:Mem}{x e:cJ}(h:e∈Mem.set m x):e∈m\/e=x:=by
 induction m with
 |nil=>exact .inl h
 |cons y r ih=>
  simp only[Mem.set]at h;split at h
  ·rcases abd.1 h with h|h
   ·exact .inr h
   ·exact .inl (afA _ h)
  ·rcases abd.1 h with h|h
   ·exact .inl (by simp[h])
   ·rcases ih h with h|h
    ·exact .inl (afA _ h)
    ·exact .inr h
theorem A9:∀{es:List cJ}{m:Mem}{e:cJ},e∈bH m es->e∈m\/e∈es
 |[],m,e,h=>.inl h
 |x::r,m,e,h=>by
  have H:e∈bH (Mem.set m x) r:=h;rcases A9 H with h|h
  ·rcases Sg h with h|h
   ·exact .inl h
   ·exact .inr (by simp[h])
  ·exact .inr (afA _ h)
theorem Fi(B:Nat)(An:∀p∈ps,∀e∈p.es,e.ak<B):∀(l:List Nat)(S:St),(∀e∈S.mem,e.ak<B)->∀e∈(aM all ps S l).mem,e.ak<B
 |[],S,h=>h
 |i::l,S,h=>by
  have AJ:aM all ps S (i::l)=aM all ps (aM all ps S [i]) l:=by simp[aM]
  rw[AJ];refine Fi B An l _ ?_;simp only[aM,agc,ag5];split
  ·rename_i o p I M;simp only[bf.app,fQ];intro e he;rcases A9 he with he|he
   ·exact h e he
   ·exact An p (abk M) e he
  ·exact h
variable {S:St} {f:Nat->Bool}
theorem Ny(AN:ps.length=all.length)(A2:nK all ps=true)(Z:pX all f){j:Nat}{o:Oper}(I:all[j]?=some o)(AX:f j=false)(AD:∀i∈eY o,f i=true)
 (AY:∀i p,ps[i]?=some p->i≠j->i∉(hZ all []).getD j []->j∉(hZ all []).getD i []->∀e∈p.es,100<=e.key) {k:Nat} (V:k<100):
 Mem.get (aM all ps S (iI all.length f)).mem k=Mem.get (aM all ps S (List.range j)).mem k:=by
 have B5:j<all.length:=(aa1.1 I).1;have AO:∀j o,all[j]?=some o->∀p∈eY o,p<j:=λj o I=>(eQ A2 I).choose_spec.2.1;have Ao:∀i∈(hZ all []).getD j [],i<j/\f i=true:=λi hi=>by
  obtain⟨H,O⟩:=km (L:=λi=>f i=true) AO (λj o I A'=>Z j o I A') j ⟨o,I⟩ i hi;exact⟨H,O λAp T=>by rw[I]at T;cases T;exact AD⟩
 have A_:∀i,f i=true->i<all.length->j∉(hZ all []).getD i []:=by
  intro i B6 AK AE;obtain⟨A5,AP⟩:∃A5,all[i]?=some A5:=⟨all[i],by simp[AK]⟩;have:=(km (L:=λi=>f i=true) AO (λj o I A'=>Z j o I A') i ⟨A5,AP⟩ j AE).2 (λAp T=>by rw[AP]at T;cases T;exact Z i A5 AP B6);simp[AX]at this
 let q:Nat->Bool:=λi=>(hZ all []).getD j [] |>.contains i
 have Aa:∀i,q i=true↔i∈(hZ all []).getD j []:=λi=>by simp[q]
 have B7:(iI all.length f).filter q=(List.range j).filter q:=by
  rw[AZ B5 AX,ai4,ai0,ai0];have O:(List.range' (j+1) (all.length-j-1)).filter (λa=>q a&&f a)=[]:=by
   rw[agP];intro i hi;have:=(anZ.1 hi).1;simp only[Ds,not_and];intro AA;have:=(Ao i ((Aa i).1 AA)).1;omega
  rw[O,afy];refine ajq λi hi=>?_;cases AA:q i with
  |false=>simp
  |true=>simp[(Ao i ((Aa i).1 AA)).2]
 have B8:∀i p,ps[i]?=some p->i≠j->q i=false->j∉(hZ all []).getD i []->k∉p.es.map (·.key):=by
  intro i p M AF AA AE A3;obtain⟨e,he,rfl⟩:=abz.1 A3;have:=AY i p M AF (λh=>by rw[(Aa i).2 h]at AA;cases AA) AE e he;omega
 have side:∀(i:Nat)(p:bf),i≠j->j∉(hZ all []).getD i []->ps[i]?=some p->k∈p.es.map (·.key)->q i=true:=by
  intro i p AF AE M A3;cases AA:q i with
  |true=>rfl
  |false=>exact absurd A3 (B8 i p M AF AA AE)
 rw[nL k q (iI all.length f) S S (λi hi p M A3=>by
  have Ab:=afx.1 hi;have AK:=adG.1 Ab.1;refine side i p (λh=>by subst h;simp[AX]at Ab) (A_ i Ab.2 AK) M A3) rfl rfl,
  nL k q (List.range j) S S (λi hi p M A3=>by
   have AK:=adG.1 hi;refine side i p (by omega) (λh=>?_) M A3;obtain⟨A5,AP⟩:∃A5,all[i]?=some A5:=⟨all[i]'(by omega),by simp[show i<all.length by omega]⟩
   have:=(km (L:=λ_=>True) AO (λ_ _ _ _ _ _=>trivial) i ⟨A5,AP⟩ j h).1;omega) rfl rfl,B7]
theorem Vx{P:Program}{S0 S1:St}{φ0:bW}{G:Fr}{w0:World}{Q:Exit->Act->World->Prop}{j:Nat}{Aq:Oper}{AG:bf}{t:TypeId}{x:D}
 (AN:ps.length=all.length) (A2:nK all ps=true) (Ar:(S0.mem.map (·.key)).Nodup) (B9:∀(i:Nat)(p:bf),ps[i]?=some p->∀e∈p.es,e.key∈p.ks)
 (BA:∀i o p,all[i]?=some o->ps[i]?=some p->i≠j->j∉(hZ all []).getD i []->kY P all (aM all ps S0 (List.range i)) o p)
 (AT:all[j]?=some Aq) (As:ps[j]?=some AG) (BB:Ce P all (aM all ps S0 (List.range j)) Aq AG t x)
 (AY:∀i p,ps[i]?=some p->i≠j->i∉(hZ all []).getD j []->j∉(hZ all []).getD i []->∀e∈p.es,100<=e.key)
 (BC:S1.n=S0.n) (BD:S1.gl=S0.gl) (BE:S1.env=[]) (BF:S1.mem=kp (gD S0.mem+gB ps+1) (bH (aM all ps S0 (List.range j)).mem AG.es))
 (BG:∀φ' A1 w' v,Rel φ' G S1 A1 w'->aX φ0 S0.mem w0 φ' S1.mem w'->aQ w' (Fo G φ' S1.mem) x v->Q (.panic [{v:=.iface t v,recovered:=false}]) A1 w'):
 ∀(fuel:Nat)(E:Array Bool) φ a w,E.size=all.length->pX all (λi=>E.getD i false)->E.getD j false=false->Rel φ G (aM all ps S0 (iI all.length λi=>E.getD i false)) a w->aX φ0 S0.mem w0 φ (aM all ps S0 (iI all.length λi=>E.getD i false)).mem w->
  ((List.range all.length).filter λi=>!E.getD i false).length<=fuel->wpAny P .any all.toArray Q fuel E a w:=by
 have Au:j<all.length:=(aa1.1 AT).1;have AO:∀j o,all[j]?=some o->∀p∈eY o,p<j:=λj o I=>(eQ A2 I).choose_spec.2.1;have first:∀(f:Nat->Bool)(n:Nat),n<=all.length->(∀i,i<n->f i=true)\/∃i,i<n/\f i=false/\∀Av,Av<i->f Av=true:=by
  intro f n;induction n with
  |zero=>exact λ_=>.inl (λi hi=>by omega)
  |succ n ih=>
   intro BV;rcases ih (by omega)with h|⟨i,H,O,A4⟩
   ·cases A':f n with
    |true=>
     refine .inl λi hi=>?_;rcases Nat.lt_succ_iff_lt_or_eq.1 hi with Ac|Ac
     ·exact h i Ac
     ·rw[Ac];exact A'
    |false=>exact .inr ⟨n,by omega,A',h⟩
   ·exact .inr ⟨i,by omega,O,A4⟩
 have done:∀(E:Array Bool),E.size=all.length->E.getD j false=false->Region.ready .any all.toArray E=[]->False:=by
  intro E AU AH BH;rcases first (λi=>E.getD i false) all.length (aa7 _)with h|⟨i,H,O,A4⟩
  ·have:=h j Au;simp only[AH]at this;cases this
  ·have:i∈Region.ready .any all.toArray E:=by
    rw[mem_ready];refine⟨?_,all[i],by simp[H],λe he U=>?_⟩
    ·have:i<E.size:=by omega
     simp only[abr,aga this,afU]at O⊢;exact O
    ·obtain⟨p,_,M,_⟩:=eQ A2 (show all[i]?=some all[i] by simp[H]);exact A4 e.on (M e.on (by
      simp only[eY,abz,afx];exact⟨e,⟨by simpa using he,U⟩,rfl⟩))
   rw[BH]at this;cases this
 intro fuel;induction fuel with
 |zero=>
  intro E φ a w AU Z AH Ad V A';exfalso;have:j∈(List.range all.length).filter λi=>!E.getD i false:=afx.2 ⟨adG.2 Au,by simp[AH]⟩;have:=List.length_pos_of_mem this;omega
 |succ fuel ih=>
  intro E φ a w AU Z AH Ad V A';refine⟨λh=>(done E AU AH h).elim,λi hi=>?_⟩;rw[mem_ready]at hi;obtain⟨Y,o,I,BI⟩:=hi;have T:all[i]?=some o:=by simpa using I
  have AK:i<all.length:=(aa1.1 T).1;have Aw:i<E.size:=by omega
  have AQ:E.getD i false=false:=by
   simp only[abr,aga Aw,afU]at Y⊢;exact Y
  have AD:∀k∈eY o,E.getD k false=true:=by
   intro k AB;simp only[eY,abz,afx]at AB;obtain⟨e,⟨he,U⟩,rfl⟩:=AB;exact BI e (by simpa using he) U
  by_cases AF:i=j
  ·subst AF;rw[AT]at T;cases T;have Ae:=rR (S:=S0) AN A2 Z AT As AQ AD;have AI:=BB _ Ae φ G a w Ad (wpAny P .any all.toArray Q fuel (E.setIfInBounds i true)) Q (λφ' A1 w' v Af AB AV=>by
    have Ax:∀p∈ps,∀e∈p.es,e.ak<gD S0.mem+gB ps+1:=by
     intro p M e he;have H:=A7 he;have O:=Fh M;omega
    have BJ:∀e∈S0.mem,e.ak<gD S0.mem+gB ps+1:=by
     intro e he;have H:=A7 he;omega
    have BK:∀e∈bH (aM all ps S0 (iI all.length λi=>E.getD i false)).mem AG.es,e.ak<gD S0.mem+gB ps+1:=by
     intro e he;rcases A9 he with he|he
     ·exact Fi _ Ax _ _ BJ e he
     ·exact Ax AG (abk As) e he
    obtain⟨Ay,Ag⟩:=ad7 Af BK;have Ah:kp (gD S0.mem+gB ps+1) (bH (aM all ps S0 (iI all.length λi=>E.getD i false)).mem AG.es)=S1.mem:=by
     rw[BF];refine Mem.ext ?_ ?_ λk=>?_
     ·rw[pY,kL,eZ];exact Ar
     ·simp only[pY,kL,eZ]
     ·rw[A8,A8];by_cases BL:k<100
      ·congr 1;exact oT _ _ _ k (by simp only[eZ]) (.inr (Ny AN A2 Z AT AQ AD AY BL))
      ·have Az:∀(m:Mem),(Mem.get m k).map (λe:cJ=>match decide (100<=e.key)with|true=>(⟨e.key,gD S0.mem+gB ps+1,.dead⟩:cJ)|false=>e)=if k∈m.map (·.key)then some ⟨k,gD S0.mem+gB ps+1,.dead⟩else none:=by
        intro m;cases B':Mem.get m k with
        |none=>
         rw[aa4]
         ·rfl
         ·intro A3;obtain⟨e,he,BM⟩:=abz.1 A3;have:∀(m:Mem),e∈m->Mem.get m k≠none:=by
           intro m;induction m with
           |nil=>intro h;cases h
           |cons y r BN=>
            intro h;simp only[Mem.get];split
            ·simp
            ·rename_i BO;rcases abd.1 h with rfl|h
             ·exact absurd BM BO
             ·exact BN h
          exact this m he B'
        |some e=>
         obtain⟨H,O⟩:=Mem.get_mem B';have:decide (100<=e.key)=true:=by simp;omega
         simp only[agv,this];rw[abf (O▸adD H),O]
       rw[Az,Az];simp only[kL,eZ]
    have BP:({(aM all ps S0 (iI all.length λi=>E.getD i false))with mem:=bH (aM all ps S0 (iI all.length λi=>E.getD i false)).mem AG.es}:St).kill (gD S0.mem+gB ps+1)=S1:=by
     have BQ:(aM all ps S0 (iI all.length λi=>E.getD i false)).n=S1.n:=by rw[pb,BC]
     have a2:(aM all ps S0 (iI all.length λi=>E.getD i false)).gl=S1.gl:=by rw[nj,BD]
     unfold St.kill;simp only[Ah,BQ,a2];rw[<-BE]
    rw[BP]at Ay Ag;refine BG _ A1 w' v Ay (V.trans (AB.trans Ag)) (AV.mono (λ_ _ _=>rfl) (aa7 _) (λb U=>Or.imp id (Ag.own b U))))
   unfold wpOp;rw[I];simp only
   split at AI
   ·rename_i hw;rw[abf hw];exact .inl AI
   ·rename_i hw;rw[aa4 hw];exact AI
  ·obtain⟨p,M,_⟩:=eQ A2 T;have A_:j∉(hZ all []).getD i []:=by
    intro AE;have:=(km (L:=λi=>E.getD i false=true) AO (λj o I A'=>Z j o I A') i ⟨o,T⟩ j AE).2 (λAp B0=>by rw[T]at B0;cases B0;exact AD);rw[AH]at this;cases this
   have BR:=BA i o p T M AF A_;have Ae:=rR (S:=S0) AN A2 Z T M AQ AD;have Ai:(E.setIfInBounds i true).getD i false=true:=by simp[Aw]
   have AR:∀k,k≠i->(E.setIfInBounds i true).getD k false=E.getD k false:=λk AB=>getD_set_ne false (agB AB);have heq:=yU (S:=S0) (f:=λi=>E.getD i false) (g:=λk=>(E.setIfInBounds i true).getD k false) AN A2 Z B9 Ar T M AQ Ai AR;have BS:pX all (λk=>(E.setIfInBounds i true).getD k false):=by
    intro k ok Aj BT x AS;by_cases B1:x=i
    ·subst B1;exact Ai
    ·show (E.setIfInBounds i true).getD x false=true;rw[AR x B1];by_cases AL:k=i
     ·subst AL;rw[T]at Aj;cases Aj;exact AD x AS
     ·exact Z k ok Aj ((AR k AL).symm.trans BT) x AS
   have BU:((List.range all.length).filter λk=>!(E.setIfInBounds i true).getD k false).length<=fuel:=by
    have H:(List.range all.length).filter (λk=>!(E.setIfInBounds i true).getD k false)=((List.range all.length).filter λk=>!E.getD k false).filter (λk=>k != i):=by
     rw[ai0];refine ajq λk _=>?_;by_cases AL:k=i
     ·subst AL;rw[Ai];simp
     ·rw[AR k AL];simp[AL]
    have Ah:i∈(List.range all.length).filter λk=>!E.getD k false:=afx.2 ⟨adG.2 AK,by simp[AQ]⟩;rw[H];have:(((List.range all.length).filter λk=>!E.getD k false).filter (λk=>k != i)).length<((List.range all.length).filter λk=>!E.getD k false).length:=by
     rw[aku];exact⟨i,Ah,by simp⟩
    omega
   have AI:=BR _ Ae φ G a w Ad (wpAny P .any all.toArray Q fuel (E.setIfInBounds i true)) Q (λφ' A1 w' Af AB=>
    ih _ φ' A1 w' (by simpa using AU) BS (by rw[AR j (λh=>AF h.symm)];exact AH) (Af.eqv heq) (by rw[<-heq.mem];exact V.trans AB) BU)
   unfold wpOp;rw[I];simp only
   split at AI
   ·rename_i hw;rw[abf hw];exact .inl AI
   ·rename_i hw;rw[aa4 hw];exact AI
end
inductive Gh where
 |trim (k:Nat)
 |freeze (k:Nat)
 |jZ (Y j k sz:Nat)
 |yX (k I:Nat)
 |eL (k I:Nat)
 |cls (k I:Nat)
 |shut (k:Nat)
 |sC (Y j k:Nat)
abbrev bE:=FuncId->List AV->List aH->Option (Out×List (Nat×aH))
structure Ctx where
 P:Program
 gl:List (Nat×D)
 qV:FuncId->Nat->List Nat
 gh:FuncId->Nat->List Gh
 md:FuncId->Nat->Bool
 fp:FuncId->aE
 od:FuncId->Nat->List (List Nat)
 Ah:FuncId->Option (List AV->Option AV)
 fl:FuncId->Nat->List (Nat×Nat)
 ov:Option bE
def ib(P:Program)(g:FuncId):Bool:=
 match P.funcs[g]? with
 |some fn=>fn.body.isSome&&!(fn.name == "runtime.NumGoroutine")
 |none=>false
mutual
def nN:AV->List Nat
 | .vec _ _ _ _=>[]
 | .ptr k _ _=>[k]
 | .cS k _ _ _=>[k]
 | .agg cs=>uM cs
 | .fn _ cap=>lD cap
 | .bg vs=>uM vs
 |_=>[]
def uM:List AV->List Nat
 |[]=>[]
 |x::r=>nN x++uM r
end
mutual
def ud:AV->List Nat
 | .vec k _ _ _=>[k]
 | .agg cs=>uN cs
 | .bg vs=>uN vs
 |_=>[]
def uN:List AV->List Nat
 |[]=>[]
 |x::r=>ud x++uN r
end
def lG(mt:List Nat):Nat->List AV->List Nat
 |_,[]=>[]
 |i,x::r=>(match mt.contains i with|true=>jw x|false=>nN x)++lG mt (i+1) r
def uO(mt:List Nat):Nat->List AV->List Nat
 |_,[]=>[]
 |i,x::r=>(match mt.contains i with|true=>[]|false=>ud x)++uO mt (i+1) r
structure fM where
 out:Out
 es:List cJ
 ks:List Nat
def upO(ρ bs:List Nat):Out->Out
 | .ret x=>.ret (up ρ bs x)
 | .panic t x=>.panic t x
def Bb:Out->Bool
 | .ret x=>dW x
 | .panic _ x=>ju x
def oG:List (Nat×aH)->Bool
 |[]=>true
 |(_,c)::r=>mr c&&oG r
def yY(m:Mem)(ρ:List Nat):List Nat->Bool
 |[]=>true
 |k::r=>(Mem.get m k).isSome&&!ρ.contains k&&yY m ρ r
def fY(m:Mem)(U:Nat)(ρ B:List Nat):Option (Out×List (Nat×aH))->Option fM
 |some (out,V)=>
  if (decide (ρ.length<=V.length)&&yY m ρ (List.range' (U+1) (V.length-ρ.length))&&(B.isEmpty||(Bb out&&oG V)))=true then
   some ⟨upO (ρ++List.range' (U+1) (V.length-ρ.length)) (base m 0 ρ++base m 1 (List.range' (U+1) (V.length-ρ.length))) out,
    ji (ρ++List.range' (U+1) (V.length-ρ.length)) (base m 0 ρ++base m 1 (List.range' (U+1) (V.length-ρ.length))) 0 V,ρ++B++List.range' (U+1) (V.length-ρ.length)⟩
  else none
 |none=>none
def GP(T:Nat)(V:List (Nat×aH)):Out->Out
 | .ret x=>.ret (vw (dL 0 V) (List.range T) (λ_=>true) (λ_ v=>v) x).norm
 | .panic t x=>.panic t x
def ri(T:Nat)(b:Bool):Option (Out×List (Nat×aH))->Option (Out×List (Nat×aH))
 |some (out,V)=>if (b&&decide (T<V.length))=true then some (GP T V out,eP (dL 0 V) (List.range T) (λ_=>true) (λ_ v=>v) 0 (List.range T))else some (out,V)
 |none=>none
def iz(rw:Bool)(m:Mem)(ρ B:List Nat):List AV->List AV
 |[]=>[]
 |y::r=>C7 rw (vw m ρ (λk=>B.contains k) iy y)::iz rw m ρ B r
def oV:List (Nat×aH)->List aH
 |[]=>[]
 |(_,c)::r=>c::oV r
def mD(E:bE)(m:Mem)(U:Nat)(g:FuncId)(Z:List AV)(rw:Bool)(ρ B:List Nat):Option fM:=
 fY m U ρ B (ri ρ.length (Mem.get m (U+1)).isNone (E g (iz rw m ρ B Z) (oV (eP m ρ (λk=>B.contains k) iy 0 ρ))))
def mE(E:bE)(m:Mem)(U:Nat)(g:FuncId)(Z:List AV)(mt ρ:List Nat):Option fM:=
 mD E m U g Z (mt.contains 1000) ρ ((uO mt 0 Z).filter λk=>!ρ.contains k)
def ef(E:bE)(m:Mem)(U:Nat)(g:FuncId)(Z:List AV)(mt:List Nat):Option fM:=
 mE E m U g Z mt (collect m 64 (lG mt 0 Z) [])
def dC(S:St)(d:Option Nat):Option fM->Option (XE×St)
 |some ⟨.ret x,es,_⟩=>some (.normal,({S with mem:=bH S.mem es}:St).put d true x)
 |some ⟨.panic t x,es,_⟩=>some (.panic t x,{S with mem:=bH S.mem es})
 |none=>none
def dA(S:St):List Operand->List AV
 |[]=>[]
 |x::r=>(S.aq x).2::dA S r
def Cf(n g:Nat):FuncId:=
 match decide (n<=g)with
 |true=>g-n
 |false=>g
def og(g:FuncId):FuncId:=Cf ta g
def ue(n g:Nat)(Z A0:List AV):List AV:=
 match decide (n<=g)with
 |true=>A0++Z
 |false=>Z++A0
def iT(g:FuncId)(Z A0:List AV):List AV:=ue ta g Z A0
mutual
def Bc:D->D->Bool
 | .int k n,.int A1 A2=>decide (k=A1)&&decide (n=A2)
 | .bool b,.bool A3=>decide (b=A3)
 | .str s,.str AH=>decide (s=AH)
 | .list a,.list b=>yZ a b
 | .agg a,.agg b=>yZ a b
 | .z6,.z6=>true
 |_,_=>false
def yZ:List D->List D->Bool
 |[],[]=>true
 |a::r,b::s=>Bc a b&&yZ r s
 |_,_=>false
end
def GQ:AV->AV->Bool
 | .d x,.d y=>Bc x y
 | .ptr k v o,.ptr A1 A9 AA=>decide (k=A1)&&(decide (v=A9)&&decide (o=AA))
 | .vec k v o n,.vec A1 A9 AA A2=>decide (k=A1)&&(decide (v=A9)&&(decide (o=AA)&&decide (n=A2)))
 |_,_=>false
def Cg:List AV->List AV->Bool
 |[],[]=>true
 |a::r,b::s=>GQ a b&&Cg r s
 |_,_=>false
def Be:aH->aH->Bool
 | .box a,.box b=>Cg a b
 | .vec n a,.vec A2 b=>decide (n=A2)&&yZ a b
 |_,_=>false
def Jb(e:cJ):Option cJ->Bool
 |some x=>decide (x.ak=e.ak)&&Be x.cont e.cont
 |none=>false
def rj(m:Mem):List cJ->Bool
 |[]=>true
 |e::r=>Jb e (Mem.get m e.key)&&rj m r
def Sj:Bool->fM->fM
 |true,c=>⟨c.out,[],c.ks⟩
 |false,c=>c
def y9:Bool->Mem->Option fM->Option fM
 |true,m,some c=>some (Sj (rj m c.es) c)
 |true,_,none=>none
 |false,_,r=>r
def cN(X:Ctx)(E:bE)(S:St)(o:Oper)(args:List Operand):Bool×AV->Option fM
 |(true,.fn g A0)=>if jh S args=true then y9 ((X.fp (og g)).wW.contains 2000) S.mem (ef E S.mem (keyOf o) (og g) (iT g (dA S args) A0) (X.fp (og g)).wW)else none
 |_=>none
def DL(S:St):Bool×AV->Option (XE×St)
 |(true,.im t d)=>some (.panic t d,S)
 |_=>none
def sD(X:Ctx)(E:bE)(S:St)(o:Oper):Option (XE×St):=
 match o.op with
 | .call {callee:=.value A4,args,..}=>dC S o.dst (cN X E S o args.toList (S.aq A4))
 | .panic x=>DL S (S.aq x)
 |_=>none
def iA(X:Ctx)(E:bE)(S:St)(o:Oper):dF->Option (XE×St)
 | .val c x=>if (gR S o&&c)=true then some (.normal,S.put o.dst true x)else none
 | .dp c x e=>if (gR S o&&c)=true then some (.normal,({S with mem:=Mem.set S.mem e}:St).put o.dst true x)else none
 | .no=>sD X E S o
def pF(X:Ctx)(E:bE)(S:St)(o:Oper)(b:Bool):dF->Option (XE×St)
 | .val c x=>if b=true->(gR S o&&c)=true then some (.normal,S.put o.dst b x)else none
 |r=>if b=true then iA X E S o r else some (.normal,S.put o.dst true .bm)
def St.cz(S:St)(d:Option Nat)(b:Bool):St:=S.put d true (.d (.bool b))
def me(all:List Oper)(j:Nat):Option Nat:=
 match all[j]? with
 |some o=>o.dst
 |none=>none
inductive GV where
 |tt (t:Bool)
 |skip
 |bad
def gvD:D->GV
 | .bool t=>.tt t
 |_=>.bad
def gvT:List AV->GV
 |[]=>.skip
 |_::_=>.bad
def Vy:AV->GV
 | .d x=>gvD x
 | .bg vs=>gvT vs
 |_=>.bad
def p6:Option (Bool×AV)->GV
 |some (true,x)=>Vy x
 |_=>.bad
theorem Km{x:Option (Bool×AV)}{t:Bool}(h:p6 x=.tt t):x=some (true,.d (.bool t)):=by
 rcases x with _|⟨g,y⟩
 ·cases h
 ·cases g
  ·cases h
  ·cases y with
   |d y=>cases y<;>simp_all [p6,Vy,gvD]
   |bg vs=>cases vs<;>simp_all [p6,Vy,gvT]
   |_=>cases h
theorem HZ{x:Option (Bool×AV)}(h:p6 x=.skip):x=some (true,.bg []):=by
 rcases x with _|⟨g,y⟩
 ·cases h
 ·cases g
  ·cases h
  ·cases y with
   |d y=>cases y<;>simp_all [p6,Vy,gvD]
   |bg vs=>cases vs<;>simp_all [p6,Vy,gvT]
   |_=>cases h
def nO(X:Ctx)(E:bE)(md:Bool)(all:List Oper)(S:St)(o:Oper):Option (XE×St):=
 match o.guard with
 |none=>iA X E S o (du X.P S o)
 |some (j,A')=>match p6 (pT all S j)with
  | .tt t=>match md with
   |false=>pF X E S o (t == A') (du X.P S o)
   |true=>if (t == A')=true then iA X E (S.cz (me all j) A') o (du X.P (S.cz (me all j) A') o)else some (.normal,(S.cz (me all j) (!A')).put o.dst true (.bg []))
  | .skip=>some (.normal,S.put o.dst true (.bg []))
  | .bad=>none
def andThen(r:Option (XE×St))(k:St->Option (XE×St)):Option (XE×St):=
 match r with
 |some (.normal,S)=>k S
 |r=>r
def fZ(X:Ctx)(E:bE)(md:Bool)(all:List Oper):List Oper->St->Option (XE×St)
 |[],S=>some (.normal,S)
 |o::r,S=>andThen (nO X E md all S o) (fZ X E md all r)
def rS(S:St)(o:Oper):Option fM->Option (St×bf)
 |some ⟨.ret x,es,ks⟩=>some ((⟨ks,es,true,x⟩:bf).app o S,⟨ks,es,true,x⟩)
 |_=>none
def mf(X:Ctx)(E:bE)(S:St)(o:Oper):Option (St×bf):=
 match o.op with
 | .call {callee:=.value A4,args,..}=>rS S o (cN X E S o args.toList (S.aq A4))
 |_=>none
def fi(X:Ctx)(E:bE)(S:St)(o:Oper):dF->Option (St×bf)
 | .val c x=>if (gR S o&&c)=true then some (S.put o.dst true x,⟨jB S o,[],true,x⟩)else none
 | .dp c x e=>if (gR S o&&c&&(jB S o).contains e.key)=true then some (({S with mem:=Mem.set S.mem e}:St).put o.dst true x,⟨jB S o,[e],true,x⟩)else none
 | .no=>mf X E S o
def sE(X:Ctx)(E:bE)(S:St)(o:Oper)(b:Bool):dF->Option (St×bf)
 | .val c x=>if b=true->(gR S o&&c)=true then some (S.put o.dst b x,⟨jB S o,[],b,x⟩)else none
 |r=>if b=true then fi X E S o r else some (S.put o.dst true .bm,⟨[],[],true,.bm⟩)
def eE(X:Ctx)(E:bE)(md:Bool)(all:List Oper)(S:St)(o:Oper):Option (St×bf):=
 match o.guard with
 |none=>fi X E S o (du X.P S o)
 |some (j,A')=>match p6 (pT all S j)with
  | .tt t=>match md with
   |false=>sE X E S o (t == A') (du X.P S o)
   |true=>if (t == A')=true then fi X E (S.cz (me all j) A') o (du X.P (S.cz (me all j) A') o)else some ((S.cz (me all j) (!A')).put o.dst true (.bg []),⟨[],[],true,.bg []⟩)
  | .skip=>some (S.put o.dst true (.bg []),⟨[],[],true,.bg []⟩)
  | .bad=>none
def za(J:List bf)(r:Option (St×bf))(k:St->List bf->Option (XE×St)):Option (XE×St):=
 match r with
 |some (S,p)=>k S (p::J)
 |none=>none
structure Kn where
 S:St
 t:TypeId
 x:D
 es:List cJ
 ks:List Nat
def wY(S:St):Option fM->Option Kn
 |some ⟨.panic t x,es,ks⟩=>some ⟨{S with mem:=bH S.mem es},t,x,es,ks⟩
 |_=>none
def Ko(X:Ctx)(E:bE)(S:St)(o:Oper):Option Kn:=
 match o.op with
 | .call {callee:=.value A4,args,..}=>wY S (cN X E S o args.toList (S.aq A4))
 |_=>none
def DM(X:Ctx)(E:bE)(S:St)(o:Oper):dF->Option Kn
 | .no=>Ko X E S o
 |_=>none
def lH(X:Ctx)(E:bE)(S:St)(o:Oper):Option Kn:=
 match o.guard with
 |none=>DM X E S o (du X.P S o)
 |some _=>none
def sX(X:Ctx)(md:Bool)(all:List Oper)(A7:List Nat):Nat->List Oper->St->List bf->Option (List bf)
 |_,[],_,J=>some J.reverse
 |i,o::r,S,J=>match A7.contains i with
  |true=>match eE X (λ_ _ _=>none) md all S o with
   |some (S1,p)=>sX X md all A7 (i+1) r S1 (p::J)
   |none=>none
  |false=>sX X md all A7 (i+1) r (S.put o.dst false .bm) (⟨[],[],false,.bm⟩::J)
def Sk(M:Nat×List (List Nat))(A7:List Nat)(t:TypeId)(x:D)(S:St):Option (List bf)->Option (XE×St)
 |some ps=>if (oe M.2 ps&&A6 ps A7)=true then some (.panic t x,S.kill (M.1+gB ps+1))else none
 |none=>none
def Sl(X:Ctx)(md:Bool)(M:Nat×List (List Nat))(all r:List Oper)(d:Option Nat)(J:List bf)(q:Kn):Option (XE×St):=
 Sk M (M.2.getD J.length []) q.t q.x q.S (sX X md all (M.2.getD J.length []) (J.length+1) r (q.S.put d true .bm) (⟨q.ks,q.es,true,.bm⟩::J))
def oh(X:Ctx)(E:bE)(md:Bool)(M:Nat×List (List Nat))(all r:List Oper)(S:St)(o:Oper)(J:List bf)(k:St->List bf->Option (XE×St)):Option Kn->Option (XE×St)
 |some q=>Sl X md M all r o.dst J q
 |none=>za J (eE X E md all S o) k
def iU(X:Ctx)(E:bE)(md:Bool)(M:Nat×List (List Nat))(all:List Oper):List Oper->St->List bf->Option (XE×St)
 |[],S,J=>if oe M.2 J.reverse=true then some (.normal,S)else none
 |o::r,S,J=>oh X E md M all r S o J (iU X E md M all r) (lH X E S o)
structure Cl where
 k:Nat
 v:Nat
 j:Nat
 x:AV
 vv:Bool
def Kq:AV->AV->Bool
 | .vec a b c d,.vec AB A3 AC AI=>decide (a=AB)&&decide (b=A3)&&decide (c=AC)&&decide (d=AI)
 | .ptr a b c,.ptr AB A3 AC=>decide (a=AB)&&decide (b=A3)&&decide (c=AC)
 | .d (.int k n),.d (.int A1 A2)=>decide (k=A1)&&decide (n=A2)
 | .d (.bool b),.d (.bool A3)=>decide (b=A3)
 |_,_=>false
def fK(m:Mem):List (Nat×Nat)->Option (List Cl)
 |[]=>some []
 |(k,j)::r=>match Mem.get m k,fK m r with
  |some ⟨_,v,.box cs⟩,some l=>match cs[j]? with
   |some x=>some (⟨k,v,j,x,false⟩::l)
   |none=>none
  |some ⟨_,v,.vv aj (some x)⟩,some l=>some (⟨k,v,aj.length,x,true⟩::l)
  |_,_=>none
def Vz(q:Cl):Option AV->Bool
 |some x=>Kq x q.x
 |none=>false
def Oe(q:Cl)(v:Nat):aH->Bool
 | .box cs=>!q.vv&&decide (v=q.v)&&Vz q cs[q.j]?
 | .vv aj (some x)=>q.vv&&decide (v=q.v)&&decide (aj.length=q.j)&&Kq x q.x
 |_=>false
def DN(e:cJ):List Cl->Bool
 |[]=>true
 |q::r=>(match decide (e.key=q.k)with|true=>Oe q e.ak e.cont|false=>true)&&DN e r
def vT(H:List Cl):List cJ->Bool
 |[]=>true
 |e::r=>DN e H&&vT H r
def tM(b:Bool)(k v j:Nat):List Cl->Option AV
 |[]=>none
 |q::r=>match decide (b=q.vv)&&decide (k=q.k)&&decide (v=q.v)&&decide (j=q.j)with|true=>some q.x|false=>tM b k v j r
def wZ(b:Bool)(k v:Nat):List Cl->Bool
 |[]=>false
 |q::r=>match decide (b=q.vv)&&decide (k=q.k)&&decide (v=q.v)with|true=>true|false=>wZ b k v r
def Fj(P:Program)(H:List Cl)(t:TypeId):Bool×AV->Option AV
 |(true,.ptr k v off)=>match (tk P t).agg,decide (tk P t=.other)with
  |false,false=>tM false k v off H
  |_,_=>none
 |(true,.cS k v i j)=>match (tk P t).agg,decide (tk P t=.other),decide (j=0)with
  |false,false,true=>tM true k v i H
  |_,_,_=>none
 |_=>none
def Fk(H:List Cl):Option Nat->Bool×AV->Option AV
 |some n,(true,.ptr k v off)=>match wZ false k v H with|true=>some (.ptr k v (off+n))|false=>none
 |_,_=>none
def Fl(H:List Cl):Bool×AV->Option AV
 |(true,.ptr k v off)=>match wZ false k v H with|true=>some (.ptr k v off)|false=>none
 |_=>none
def Fm(P:Program)(H:List Cl):TK->Bool×AV->Bool×AV->Option AV
 | .slice e,(true,.vec k v off len),(true,.d (.int _ n))=>match decide (fT P e=some 1),wZ true k v H,decide (0<=n),decide (n.toNat<len)with
  |true,true,true,true=>some (.cS k v (off+n.toNat) 0)
  |_,_,_,_=>none
 |_,_,_=>none
def tN(P:Program)(H:List Cl)(S:St):Op->Option AV
 | .load t x=>Fj P H t (S.aq x)
 | .fieldAddr s x f=>Fk H (yE P s f) (S.aq x)
 | .nilCheck x=>Fl H (S.aq x)
 | .indexAddr t x i=>Fm P H (tk P t) (S.aq x) (S.aq i)
 |_=>none
def p7(P:Program)(H:List Cl)(S:St)(o:Oper):Option AV:=
 match o.guard with
 |none=>tN P H S o.op
 |some _=>none
def GR(H:List Cl):Option (St×bf)->Option (St×bf)
 |some (S,p)=>if vT H p.es=true then some (S,p)else none
 |none=>none
def oW(X:Ctx)(E:bE)(md:Bool)(H:List Cl)(all:List Oper)(S:St)(o:Oper):Option AV->Option (St×bf)
 |some x=>some (S.put o.dst true x,⟨[],[],true,x⟩)
 |none=>GR H (eE X E md all S o)
def nq:List Nat->List Oper->Bool
 |[],[]=>true
 |_,_=>false
def Kr(X:Ctx)(E:bE)(md:Bool)(M:List (List Nat))(all:List Oper)(S:St)(o:Oper)(J:List bf):Option (XE×St):=
 if oe M J.reverse=true then fZ X E md all [o] S else none
def om(X:Ctx)(E:bE)(md:Bool)(M:List (List Nat))(H:List Cl)(all:List Oper):List Oper->St->List bf->Option (XE×St)
 |[],S,J=>if oe M J.reverse=true then some (.normal,S)else none
 |o::r,S,J=>match nq (M.getD J.length []) r with
  |true=>Kr X E md M all S o J
  |false=>za J (oW X E md H all S o (p7 X.P H S o)) (om X E md M H all r)
def Sn(X:Ctx)(E:bE)(md:Bool)(M:List (List Nat))(all:List Oper)(S:St):Option (List Cl)->Option (XE×St)
 |some H=>om X E md M H all all S []
 |none=>none
def uP(X:Ctx)(E:bE)(md:Bool)(M:List (List Nat))(all:List Oper)(S:St):List (Nat×Nat)->Option (XE×St)
 |[]=>iU X E md (gD S.mem,M) all all S []
 |q::r=>Sn X E md M all S (fK S.mem (q::r))
def St.jZ(S:St)(Y j k sz:Nat):St:=
 match Mem.get S.mem Y,Mem.get S.mem k with
 |some ⟨_,AD,.box cs⟩,some ⟨_,v,_⟩=>match cs[j]? with
  |some (.lit (.slice none 0 0))=>if Y=k then S else {S with mem:=Mem.set (Mem.set S.mem ⟨k,v+1,.vec sz []⟩) ⟨Y,AD,.box (cs.set j (.vec k (v+1) 0 0))⟩}
  |_=>S
 |_,_=>S
def GS(k v I v2:Nat):AV->AV
 | .vec U v0 o l=>if U=k/\v0=v then .vec I v2 o l else .vec U v0 o l
 |x=>x
def uQ(AE:AV->AV):Mem->Mem
 |[]=>[]
 |e::r=>⟨e.key,e.ak,qY AE e.cont⟩::uQ AE r
def St.yX(S:St)(k I:Nat):St:=
 match Mem.get S.mem k,Mem.get S.mem I with
 |some ⟨_,v,.vec sz aj⟩,some ⟨_,v2,_⟩=>if k=I then S else {S with env:=oE (GS k v I (v2+1)) S.env,mem:=Mem.set (Mem.set (uQ (GS k v I (v2+1)) S.mem) ⟨k,v+1,.dead⟩) ⟨I,v2+1,.vec sz aj⟩}
 |_,_=>S
def St.eL(S:St)(k I:Nat):St:=
 match Mem.get S.mem k,Mem.get S.mem I with
 |some ⟨_,v,.vv aj none⟩,some ⟨_,v2,_⟩=>match aj.getLast? with
  |some xs=>if k=I then S else {S with mem:=Mem.set (Mem.set S.mem ⟨k,v,.vv aj.dropLast (some (.vec I (v2+1) 0 xs.length))⟩) ⟨I,v2+1,.vec 1 xs⟩}
  |none=>S
 |_,_=>S
def St.cls(S:St)(k I:Nat):St:=
 match Mem.get S.mem k,Mem.get S.mem I with
 |some ⟨_,v,.vv aj (some (.vec AJ v3 0 len))⟩,some ⟨_,v2,.vec 1 xs⟩=>if k=I then S else if AJ=I/\v3=v2/\len=xs.length then {S with mem:=Mem.set (Mem.set S.mem ⟨k,v,.vv (aj++[xs]) none⟩) ⟨I,v2+1,.dead⟩} else S
 |_,_=>S
def St.shut(S:St)(k:Nat):St:=
 match Mem.get S.mem k with
 |some ⟨_,v,.vv aj (some _)⟩=>{S with mem:=Mem.set S.mem ⟨k,v,.vv aj none⟩}
 |_=>S
def St.sC(S:St)(Y j k:Nat):St:=
 match Mem.get S.mem Y,Mem.get S.mem k with
 |some ⟨_,AD,.box cs⟩,some ⟨_,v,_⟩=>match cs[j]? with
  |some (.lit (.slice none 0 0))=>if Y=k then S else {S with mem:=Mem.set (Mem.set S.mem ⟨Y,AD,.box (cs.set j (.vec k (v+1) 0 0))⟩) ⟨k,v+1,.vv [] none⟩}
  |_=>S
 |_,_=>S
def Gh.go(S:St):Gh->St
 | .eL k I=>S.eL k I
 | .cls k I=>S.cls k I
 | .shut k=>S.shut k
 | .sC Y j k=>S.sC Y j k
 | .trim k=>S.yQ k
 | .freeze k=>S.freeze k
 | .jZ Y j k sz=>S.jZ Y j k sz
 | .yX k I=>S.yX k I
def Fp(S:St):List Gh->St
 |[]=>S
 |g::r=>Fp (g.go S) r
def xc(k:St->St):Option (XE×St)->Option (XE×St)
 |some (.normal,S)=>some (.normal,k S)
 |r=>r
def Fq(id:Nat):Option (XE×St)->Option (XE×St)
 |some (.exit AF,S)=>if AF=id then some (.normal,S)else some (.exit AF,S)
 |r=>r
def iter(f:St->Option (XE×St)):Nat->St->Option (XE×St)
 |0,_=>none
 |n+1,S=>andThen (f S) (iter f n)
def Ft(a b:Option (XE×St)):Bool×AV->Option (XE×St)
 |(true,.d (.bool t))=>if t=true then a else b
 |_=>none
def St.leave(X:Ctx)(f:FuncId)(id:Nat)(S:St):St:=Fp (S.prune (X.qV f id)) (X.gh f id)
def St.enter(X:Ctx)(f:FuncId)(id:Nat)(S:St):St:=Fp S (X.gh f (id+2000000))
def den(X:Ctx)(f:FuncId)(E:bE)(n:Nat):Code->St->Option (XE×St)
 | .skip,S=>some (.normal,S)
 | .region id ops draw,S=>match draw with
  |false=>xc (St.leave X f id) (fZ X E (X.md f id) ops.toList ops.toList S)
  |true=>xc (St.leave X f id) (uP X E (X.md f id) (X.od f id) ops.toList S (X.fl f id))
 | .seq a b,S=>andThen (den X f E n a S) (den X f E n b)
 | .cond c a b,S=>Ft (den X f E n a S) (den X f E n b S) (S.aq c)
 | .block id c,S=>Fq id (den X f E n c (S.enter X f id))
 | .loop c,S=>iter (den X f E n c) n S
 | .exit id,S=>some (.exit id,Fp S (X.gh f (id+1000000)))
 | .ret,S=>some (.ret,S)
 |_,_=>none
def fin(P:Program)(p:aE)(T:Nat)(rs:List ResultVar):Option (XE×St)->Option (Out×List (Nat×aH))
 |some (.normal,S)=>finish P p T rs S
 |some (.ret,S)=>finish P p T rs S
 |some (.panic t x,S)=>yT p T t x S
 |_=>none
def rT(X:Ctx)(f:FuncId)(E:bE)(n:Nat)(fn:Func)(c:Code)(args:List AV)(cs:List aH):Option (Out×List (Nat×aH)):=
 if (decide (args.length<=fn.ntmps)&&decide (cs.length<=100)&&(X.fp f).sites.all (λk=>decide (100<=k))&&decide (X.fp f).sites.Nodup)=true then
  fin X.P (X.fp f) cs.length fn.results.toList (den X f E n c (entry fn.ntmps X.gl args cs (X.fp f).sites))
 else none
def pc:Option (Out×List (Nat×aH))->Option Nat
 |some (.ret (.vec 0 0 0 0),[(0,.vec sz [])])=>some sz
 |_=>none
def kM(AG AK:Option (Out×List (Nat×aH))):Option (Out×List (Nat×aH)):=
 match pc AG,pc AK with
 |some a,some b=>if a=b then AG else none
 |_,_=>none
def jQ(run:List AV->Option (Out×List (Nat×aH)))(args:List AV):Bool->Option (Out×List (Nat×aH))
 |true=>match args with
  | .d (.list [])::r=>kM (run (.lit (.slice none 0 0)::r)) (run (.nn::r))
  |args=>run args
 |false=>run args
def nr(h:List AV->Option AV)(args:List AV):List aH->Option (Out×List (Nat×aH))
 |[]=>match h args with
  |some d=>some (.ret d,[])
  |none=>none
 |_::_=>none
def oX(h:List D->Option D)(args:List AV):Option AV:=match toDs args with
 |some O=>(h O).map .d
 |none=>none
abbrev DF:=FuncId×List AV
def dfv(S:St)(args:List Operand):Bool×AV->Option DF
 |(true,.fn g A0)=>if (jh S args&&decide (g<ta))=true then some (g,dA S args++A0)else none
 |_=>none
def nP(S:St)(o:Oper):Option DF:=
 match o.guard,o.op with
 |none,.defer {callee:=.value A4,args,..}=>dfv S args.toList (S.aq A4)
 |_,_=>none
def Of(o:Oper):Bool:=
 match o.op with
 | .defer _=>true
 |_=>false
abbrev XD:=Option (XE×St×List DF)
def Jc(k:St->XD)(O:List DF):Option (XE×St)->XD
 |some (.normal,S)=>k S
 |some (e,S)=>some (e,S,O)
 |none=>none
def gj(X:Ctx)(E:bE)(md:Bool)(all:List Oper):List Oper->St->List DF->XD
 |[],S,O=>some (.normal,S,O)
 |o::r,S,O=>match nP S o with
  |some d=>gj X E md all r (S.put o.dst true .bm) (d::O)
  |none=>Jc (λS1=>gj X E md all r S1 O) O (nO X E md all S o)
def Bf(ops:List Oper):Bool:=ops.any Of
def Bg(k:St->St):XD->XD
 |some (.normal,S,O)=>some (.normal,k S,O)
 |r=>r
def zb(O:List DF):Option (XE×St)->XD
 |some (e,S)=>some (e,S,O)
 |none=>none
def Ks(k:St->List DF->XD):XD->XD
 |some (.normal,S,O)=>k S O
 |r=>r
def jo(X:Ctx)(f:FuncId)(E:bE)(n:Nat):Code->St->List DF->XD
 | .seq a b,S,O=>Ks (jo X f E n b) (jo X f E n a S O)
 | .region id ops draw,S,O=>match !draw&&Bf ops.toList with
  |true=>Bg (St.leave X f id) (gj X E (X.md f id) ops.toList ops.toList S O)
  |false=>zb O (den X f E n (.region id ops draw) S)
 |c,S,O=>zb O (den X f E n c S)
def vU(o:Oper):Bool:=
 match o.guard,o.op with
 |none,.call {callee:=.builtin .recover,args,..}=>args.toList.isEmpty
 |_,_=>false
def oo(X:Ctx)(f:FuncId)(E:bE)(n:Nat)(A5:AV):Code->St->Option (XE×St)
 | .seq a b,S=>andThen (oo X f E n A5 a S) (den X f E n b)
 | .region id ops draw,S=>match draw,ops.toList with
  |false,o::r=>if vU o=true then xc (St.leave X f id) (fZ X E (X.md f id) (o::r) r (S.put o.dst true A5))else none
  |_,_=>none
 |_,_=>none
def So(P:Program)(p:aE)(T:Nat)(rs:List ResultVar):Option (XE×St)->Option (Out×List (Nat×aH))
 |some (.normal,S)=>finish P p T rs S
 |some (.ret,S)=>finish P p T rs S
 |_=>none
def xM(X:Ctx)(f:FuncId)(E:bE)(n:Nat)(fn:Func)(c:Code)(args:List AV)(cs:List aH):Option (Out×List (Nat×aH)):=
 match args.getLast? with
 |some A5=>if (decide (args.dropLast.length<=fn.ntmps)&&decide (cs.length<=100)&&(X.fp f).sites.all (λk=>decide (100<=k))&&decide (X.fp f).sites.Nodup)=true then
  So X.P (X.fp f) cs.length fn.results.toList (oo X f E n A5 c (entry fn.ntmps X.gl args.dropLast cs (X.fp f).sites))
  else none
 |none=>none
def DO:XE->Option AV
 | .normal=>some (.lit .nilIface)
 | .ret=>some (.lit .nilIface)
 | .panic t x=>some (.im t x)
 | .exit _=>none
def uR(S:St):Option fM->Option St
 |some ⟨.ret _,es,_⟩=>some {S with mem:=bH S.mem es}
 |_=>none
def DP(X:Ctx)(p:aE)(T:Nat)(rs:List ResultVar):Option St->Option (Out×List (Nat×aH))
 |some S=>finish X.P p T rs S
 |none=>none
def tO(X:Ctx)(p:aE)(T:Nat)(rs:List ResultVar)(A8:bE)(S:St)(d:DF):Option AV->Option (Out×List (Nat×aH))
 |some A5=>DP X p T rs (uR S (ef A8 S.mem 0 d.1 (d.2++[A5]) (X.fp d.1).wW))
 |none=>none
def xd(X:Ctx)(p:aE)(T:Nat)(rs:List ResultVar)(A8:bE):XD->Option (Out×List (Nat×aH))
 |some (e,S,[])=>fin X.P p T rs (some (e,S))
 |some (e,S,[d])=>tO X p T rs A8 S d (DO e)
 |_=>none
def xN(X:Ctx)(f:FuncId)(E A8:bE)(n:Nat)(fn:Func)(c:Code)(args:List AV)(cs:List aH):Option (Out×List (Nat×aH)):=
 if (decide (args.length<=fn.ntmps)&&decide (cs.length<=100)&&(X.fp f).sites.all (λk=>decide (100<=k))&&decide (X.fp f).sites.Nodup)=true then
  xd X (X.fp f) cs.length fn.results.toList A8 (jo X f E n c (entry fn.ntmps X.gl args cs (X.fp f).sites) [])
 else none
def zc:Code->Bool
 | .seq a b=>zc a||zc b
 | .region _ ops _=>Bf ops.toList
 |_=>false
def nQ(X:Ctx)(n:Nat)(E:bE):bE:=λg args cs=>
 match X.P.funcs[g]? with
 |some fn=>match fn.body with
  |some c=>xM X g E n fn c args cs
  |none=>none
 |none=>none
def xO(X:Ctx)(f:FuncId)(E:bE)(n:Nat)(fn:Func)(c:Code)(args:List AV)(cs:List aH):Bool->Option (Out×List (Nat×aH))
 |true=>xN X f E (nQ X n E) n fn c args cs
 |false=>jQ (λargs=>rT X f E n fn c args cs) args (X.fp f).split
def aZ(X:Ctx):Nat->bE
 |0,_,_,_=>none
 |n+1,f,args,cs=>match X.ov with
  |some E=>E f args cs
  |none=>match X.Ah f with
   |some h=>nr h args cs
   |none=>match X.P.funcs[f]? with
    |some fn=>match fn.body with
     |some c=>xO X f (aZ X n) n fn c args cs (zc c)
     |none=>none
    |none=>none
def jR(X:Ctx)(A5:bE):Prop:=∀g args cs out l,A5 g args cs=some (out,l)->
 ib X.P g=true/\Ev X.P X.gl g args (ee 0 cs) λo m=>o=out/\m=dL 0 l
theorem uS{P:Program}{g:FuncId}{vs:Array Value}{w:World}(h:ib P g=true):(callFunc g vs).run P w=.ok (.enter g vs) w:=by
 unfold ib at h;split at h
 ·rename_i fn Aq;simp only[Ds,ago]at h;have M:fn.body.isNone=false:=by
   have:=h.1;cases AH:fn.body<;>simp_all
  have V:fn.name≠ "runtime.NumGoroutine" :=by simpa using h.2
  have AA:fn.body≠none:=by intro AH;simp[AH]at M
  simp[callFunc,Aq,V,AA]
 ·cases h
theorem get_none{m:Mem}{k:Nat}:Mem.get m k=none↔k∉m.map (·.key):=by
 induction m with
 |nil=>simp[Mem.get]
 |cons e r ih=>
  simp only[Mem.get,adC,abd,anS];split
  ·rename_i h;simp[h]
  ·rename_i h;rw[ih];constructor
   ·exact λhh=>⟨λhe=>h he.symm,hh⟩
   ·exact λhh=>hh.2
theorem xe{m m':Mem}(D:m'.map (·.key)=m.map (·.key))(k:Nat):(Mem.get m' k).isNone=(Mem.get m k).isNone:=by
 have:=get_none (m:=m) (k:=k);have V:=get_none (m:=m') (k:=k);rw[D,<-this]at V;cases h:Mem.get m k<;>cases Ar:Mem.get m' k<;>simp_all
theorem xf(m:Mem):∀(n:Nat)(todo J:List Nat),∀k∈J,k∈collect m n todo J
 |0,todo,J,k,h=>h
 |n+1,[],J,k,h=>h
 |n+1,t::todo,J,k,h=>by
  simp only[collect];split
  ·exact xf m n todo J k h
  ·exact xf m n _ _ k (ajo _ h)
theorem xg{m m':Mem}(D:m'.map (·.key)=m.map (·.key)):∀(n:Nat)(todo J:List Nat),(∀k∈collect m n todo J,Mem.get m' k=Mem.get m k)->collect m' n todo J=collect m n todo J
 |0,todo,J,_=>rfl
 |n+1,[],J,_=>rfl
 |n+1,t::todo,J,h=>by
  simp only[collect,xe D t]at h⊢;split
  ·rename_i I;rw[I]at h;exact xg D n todo J h
  ·rename_i I;rw[I]at h;have e:Mem.get m' t=Mem.get m t:=h t (xf m n _ _ t (by simp));rw[e];exact xg D n _ _ h
mutual
theorem Ku{m m':Mem}{ρ:List Nat}{bor:Nat->Bool}{nv:Nat->Nat->Nat}(D:m'.map (·.key)=m.map (·.key))(h:∀k,(k∈ρ\/bor k=true)->Mem.get m' k=Mem.get m k):∀y:AV,vw m' ρ bor nv y=vw m ρ bor nv y
 | .ptr k ak off=>by
  by_cases Y:k∈ρ
  ·simp only[vw,h k (.inl Y)]
  ·have Z:∀T:Mem,vw T ρ bor nv (.ptr k ak off)=.bm:=by
    intro T;simp only[vw,kj (ρ:=ρ) (k:=k) (j:=0) |>.2 Y];cases Mem.get T k<;>rfl
   rw[Z,Z]
 | .vec k ak off len=>by
  by_cases Y:k∈ρ\/bor k=true
  ·simp only[vw,h k Y]
  ·simp only[anS]at Y;have Z:∀T:Mem,vw T ρ bor nv (.vec k ak off len)=.bm:=by
    intro T;simp only[vw,kj (ρ:=ρ) (k:=k) (j:=0) |>.2 Y.1,Y.2];cases Mem.get T k with
    |none=>rfl
    |some e=>
     obtain⟨_,_,c⟩:=e;cases c<;>simp
   rw[Z,Z]
 | .cS k ak i j=>by
  by_cases Y:k∈ρ
  ·simp only[vw,h k (.inl Y)]
  ·have Z:∀T:Mem,vw T ρ bor nv (.cS k ak i j)=.bm:=by
    intro T;simp only[vw,kj (ρ:=ρ) (k:=k) (j:=0) |>.2 Y];cases Mem.get T k<;>rfl
   rw[Z,Z]
 | .agg cs=>by simp only[vw,xP D h cs]
 | .fn f cap=>by simp only[vw,xP D h cap]
 | .bg vs=>by simp only[vw,xP D h vs]
 | .bm=>rfl
 | .d x=>rfl
 | .ea x j=>rfl
 | .im t x=>rfl
 | .lit v=>rfl
 | .nn=>rfl
 | .err=>rfl
theorem xP{m m':Mem}{ρ:List Nat}{bor:Nat->Bool}{nv:Nat->Nat->Nat}(D:m'.map (·.key)=m.map (·.key))(h:∀k,(k∈ρ\/bor k=true)->Mem.get m' k=Mem.get m k):∀l:List AV,sq m' ρ bor nv l=sq m ρ bor nv l
 |[]=>rfl
 |x::r=>by simp only[sq,Ku D h x,xP D h r]
end
theorem Kv{m m':Mem}{ρ:List Nat}{bor:Nat->Bool}{nv:Nat->Nat->Nat}(D:m'.map (·.key)=m.map (·.key))(h:∀k,(k∈ρ\/bor k=true)->Mem.get m' k=Mem.get m k):
 ∀(l:List Nat)(i:Nat),(∀k∈l,k∈ρ)->eP m' ρ bor nv i l=eP m ρ bor nv i l
 |[],i,_=>rfl
 |k::r,i,AS=>by
  simp only[eP,h k (.inl (AS k (by simp))),Kv D h r (i+1) (λx A'=>AS x (by simp[A']))];congr 1;cases Mem.get m k with
  |none=>rfl
  |some e=>
   simp only[wV,adI,anU];cases e.cont with
   |box cs=>simp only[wU,xP D h cs]
   |vv aj y=>
    cases y with
    |none=>rfl
    |some x=>simp only[wU,agv,Ku D h x]
   |_=>rfl
theorem Fu{b:Bool}{m m':Mem}{ρ B:List Nat}(D:m'.map (·.key)=m.map (·.key))(h:∀k,(k∈ρ\/B.contains k=true)->Mem.get m' k=Mem.get m k):∀l:List AV,iz b m' ρ B l=iz b m ρ B l
 |[]=>rfl
 |x::r=>by simp only[iz,Ku (nv:=iy) D h x,Fu D h r]
theorem DQ{m m':Mem}(d:Nat):∀(l:List Nat),(∀k∈l,Mem.get m' k=Mem.get m k)->base m' d l=base m d l
 |[],_=>rfl
 |k::r,h=>by simp only[base,h k (by simp),DQ d r (λx A'=>h x (by simp[A']))]
theorem Kw{m m':Mem}(ρ:List Nat)(D:m'.map (·.key)=m.map (·.key)):∀(l:List Nat),yY m' ρ l=yY m ρ l
 |[]=>rfl
 |k::r=>by
  have:(Mem.get m' k).isSome=(Mem.get m k).isSome:=by
   have:=xe D k;cases h:Mem.get m k<;>cases Ar:Mem.get m' k<;>simp_all
  simp only[yY,this,Kw ρ D r]
theorem Fx{A5:bE}{m m':Mem}{A6:Nat}{g:FuncId}{H:List AV}{mt:List Nat}{res:fM}(D:m'.map (·.key)=m.map (·.key))(h:ef A5 m A6 g H mt=some res)(AY:∀k∈res.ks,Mem.get m' k=Mem.get m k):
 ef A5 m' A6 g H mt=some res:=by
 unfold ef mE mD at h⊢;obtain⟨ρ,A7⟩:∃ρ,ρ=collect m 64 (lG mt 0 H) []:=⟨_,rfl⟩;rw[<-A7]at h;obtain⟨B,AZ⟩:∃B,B=(uO mt 0 H).filter λk=>!ρ.contains k:=⟨_,rfl⟩;rw[<-AZ]at h;have AI:∀k,k∈ρ\/B.contains k=true->Mem.get m' k=Mem.get m k:=by
  intro k A0;refine AY k ?_;unfold fY at h;split at h
  ·split at h
   ·cases h;simp only[abo];rcases A0 with M|M
    ·exact .inl (.inl M)
    ·exact .inl (.inr (by simpa using M))
   ·cases h
  ·cases h
 have As:collect m' 64 (lG mt 0 H) []=ρ:=by
  rw[A7];exact xg D 64 _ _ (λk A0=>AI k (.inl (A7▸A0)))
 rw[As,<-AZ,Fu D AI,Kv D AI ρ 0 (λ_ h=>h),xe D];unfold fY at h⊢;split
 ·rename_i out O AB;rw[AB]at h;simp only at h;rw[Kw ρ D];split
  ·rename_i I;rw[abf I]at h;cases h;have AC:∀d,base m' d ρ=base m d ρ:=λd=>DQ d ρ (λk A0=>AI k (.inl A0));have Au:∀d,base m' d (List.range' (A6+1) (O.length-ρ.length))=base m d (List.range' (A6+1) (O.length-ρ.length)):=λd=>DQ d _ (λk A0=>AY k (by simp only[abo];exact .inr A0));rw[AC,Au]
  ·rename_i I;rw[aa4 I]at h;cases h
 ·rename_i AB;rw[AB]at h;cases h
theorem xh(S:St):∀(l:List Operand)(i:Nat),(dA S l)[i]?=(l[i]?).map λx=>(S.aq x).2
 |[],i=>by simp[dA]
 |x::r,i=>by cases i with|zero=>simp[dA]|succ i=>simp[dA,xh S r i]
theorem jJ(S:St):∀(l:List Operand),(dA S l).length=l.length
 |[]=>rfl
 |x::r=>by simp[dA,jJ S r]
theorem ze(b m ρ B):∀(l:List AV)(i:Nat),(iz b m ρ B l)[i]?=(l[i]?).map λy=>C7 b (vw m ρ (λk=>B.contains k) iy y)
 |[],i=>by simp[iz]
 |x::r,i=>by cases i with|zero=>simp[iz]|succ i=>simp[iz,ze b m ρ B r i]
theorem sY(b m ρ B):∀(l:List AV),(iz b m ρ B l).length=l.length
 |[]=>rfl
 |x::r=>by simp[iz,sY b m ρ B r]
theorem Bh(m ρ bor):∀(l:List Nat)(i j:Nat),ee i (oV (eP m ρ bor iy j l))=dL i (eP m ρ bor iy j l)
 |[],i,j=>rfl
 |k::r,i,j=>by
  have:wV m ρ bor iy j (Mem.get m k)=(0,(wV m ρ bor iy j (Mem.get m k)).2):=by
   cases Mem.get m k<;>rfl
  simp only[eP];rw[this];simp only[oV,ee,dL,Bh m ρ bor r (i+1) (j+1)]
theorem DR{m:Mem}{ρ:List Nat}:∀{l:List Nat},yY m ρ l=true->∀k∈l,(Mem.get m k).isSome=true/\k∉ρ
 |[],_,k,D=>by simp at D
 |x::r,h,k,D=>by
  simp only[yY,Ds,ago,List.contains_eq_mem,afM]at h;rcases abd.1 D with rfl|D
  ·exact h.1
  ·exact DR h.2 k D
theorem zh:∀{l:List (Nat×aH)},oG l=true->∀e∈l,mr e.2=true
 |[],_,e,he=>by simp at he
 |(v,c)::r,h,e,he=>by
  simp only[oG,Ds]at h;rcases abd.1 he with rfl|he
  ·exact h.1
  ·exact zh h.2 e he
theorem xQ:∀(l:List (Nat×aH))(i k:Nat),i<=k->k<i+l.length->(Mem.get (dL i l) k).isSome=true
 |[],i,k,M,V=>by simp at V;omega
 |(v,c)::r,i,k,M,V=>by
  simp only[dL,Mem.get];split
  ·rfl
  ·rename_i Aw;exact xQ r (i+1) k (by have BK:i≠k:=Aw;omega) (by simp at V;omega)
theorem Ev.frz{P:Program}{gl f args}{cs:List aH}{out:Out}{O:List (Nat×aH)}(h:Ev P gl f args (ee 0 cs) λo m=>o=out/\m=dL 0 O)(AS:cs.length<=O.length):
 Ev P gl f args (ee 0 cs) λo m=>o=GP cs.length O out/\m=dL 0 (eP (dL 0 O) (List.range cs.length) (λ_=>true) (λ_ v=>v) 0 (List.range cs.length)):=by
 intro φ G w vs hm AJ Ax Ay;refine (h φ G w vs hm AJ Ax Ay).mono ?_;rintro e w' ⟨φ',m',AK,⟨rfl,rfl⟩,AD,U,A1⟩;obtain⟨s1,s2,Az⟩:=Ca (G1:=G) (ρ:=List.range cs.length) (bor:=λ_=>true) (nv:=λ_ v=>v) AD List.nodup_range (λk D=>xQ O 0 k (an3 _) (by simp at D;omega)) (λb h=>.inl h) (λb h=>AD.lf b h.own)
  (λk e L b AJ _ _ AL A8=>AD.lf _ ⟨e,(Mem.get_mem AJ).1,L,by rw[(Mem.get_mem AJ).2];exact AL,A8⟩)
 refine⟨_,_,_,⟨rfl,rfl⟩,s1,⟨?_,U.At,?_,U.size,U.os,U.tape,U.output⟩,?_⟩
 ·intro k L AL;have D:k<cs.length:=by
   have:=hm.qz k L AL;rw[Kb,qW]at this;simpa using this
  obtain⟨L',M,V,AA⟩:=U.le k L AL;exact⟨L',by simp[bW.iG,D,M],V,AA⟩
 ·intro b AH A8;exact U.own b AH ((xI (φ:=φ') (nv:=λ_ v=>v) (bor:=λ_=>true) (λk D=>xQ O 0 k (an3 _) (by simp at D;omega)) b).1 A8).own
 ·cases AK with
  |ret x=>
   cases e with
   |returned v=>exact (s2 x v A1).norm
   |_=>exact A1.elim
  |panic t x=>
   cases e with
   |panicked chain=>
    obtain⟨v,I,A'⟩:=A1;exact⟨v,I,A'.mono (λ_ _ _=>rfl) (aa7 _) (λb _=>Az b)⟩
   |_=>exact A1.elim
theorem uT:∀(l:List (Nat×aH)),(oV l).length=l.length
 |[]=>rfl
 |(_,_)::r=>by simp[oV,uT r]
theorem Bi{AE:Nat}{b:Bool}{r:Option (Out×List (Nat×aH))}{out:Out}{l:List (Nat×aH)}(h:ri AE b r=some (out,l)):∃AM A4,r=some (AM,A4)/\
 ((out=AM/\l=A4)\/(AE<A4.length/\out=GP AE A4 AM/\l=eP (dL 0 A4) (List.range AE) (λ_=>true) (λ_ v=>v) 0 (List.range AE))):=by
 cases r with
 |none=>cases h
 |some p=>
  obtain⟨B',A4⟩:=p;refine⟨B',A4,rfl,?_⟩;simp only[ri]at h;split at h
  ·rename_i I;simp only[Ds,aa8]at I;simp only[abp,adI]at h;exact .inr ⟨I.2,h.1.symm,h.2.symm⟩
  ·simp only[abp,adI]at h;exact .inl ⟨h.1.symm,h.2.symm⟩
theorem ad8{n g:Nat}(h:g<n):Cf n g=g:=by
 unfold Cf;rw[decide_eq_false (Nat.not_le.2 h)]
theorem VA{n g:Nat}(h:g<n)(H E:List AV):ue n g H E=H++E:=by
 unfold ue;rw[decide_eq_false (Nat.not_le.2 h)]
theorem ad9(n g:Nat):Cf n (g+n)=g:=by
 unfold Cf;rw[af7 (ajN n g)];exact Nat.add_sub_cancel g n
theorem VB(n g:Nat)(H E:List AV):ue n (g+n) H E=E++H:=by
 unfold ue;rw[af7 (ajN n g)]
theorem agi{g:FuncId}(h:g<ta):og g=g:=ad8 h
theorem Kx{g:FuncId}(h:g<ta)(H E:List AV):iT g H E=H++E:=VA h H E
theorem agj(g:FuncId):og (g+ta)=g:=ad9 ta g
theorem Ky(g:FuncId)(H E:List AV):iT (g+ta) H E=E++H:=VB ta g H E
theorem vW{X:Ctx}{A5:bE}(AB:jR X A5){S:St}{o:Oper}{AN:Operand}{args:Array Operand}{B0:Array TypeId}{g g0:FuncId}{E:List AV}{A6:Nat}{mt:List Nat}{res:fM}
 (A8:o.op=.call {callee:=.value AN,args,argTypes:=B0}) (A_:S.aq AN=(true,.fn g0 E)) (Aa:og g0=g) (B1:jh S args.toList=true)
 (h:ef A5 S.mem A6 g (iT g0 (dA S args.toList) E) mt=some res) (B2:S.gl=X.gl) {φ G a w} (A9:Rel φ G S a w) {next:Act->World->Prop} {R:Exit->Act->World->Prop}
 (B3:∀x,res.out=.ret x->∀φ' w' v,Rel φ' G {S with mem:=bH S.mem res.es} a w'->aX φ S.mem w φ' (bH S.mem res.es) w'->aF φ' w' (Fo G φ' (bH S.mem res.es)) x v->next (a.put o.dst v) w')
 (B4:∀t x,res.out=.panic t x->∀φ' w' v,Rel φ' G {S with mem:=bH S.mem res.es} a w'->aX φ S.mem w φ' (bH S.mem res.es) w'->aQ w' (Fo G φ' (bH S.mem res.es)) x v->R (.panic [{v:=.iface t v,recovered:=false}]) a w'):o.wp X.P a w next R:=by
 unfold ef mE mD at h;obtain⟨ρ,A7⟩:∃ρ,ρ=collect S.mem 64 (lG mt 0 (iT g0 (dA S args.toList) E)) []:=⟨_,rfl⟩;have Ab:=pW S.mem 64 (lG mt 0 (iT g0 (dA S args.toList) E)) [] List.nodup_nil (by simp);rw[<-A7]at h Ab;generalize (uO mt 0 (iT g0 (dA S args.toList) E)).filter (λk=>!ρ.contains k)=B at h;clear A7;obtain⟨Ac,Ad⟩:=Ab;unfold fY at h;split at h
 ·rename_i out O B5;split at h
  ·rename_i I;cases h;have B6:ib X.P g=true/\Ev X.P X.gl g (iz (mt.contains 1000) S.mem ρ B (iT g0 (dA S args.toList) E)) (ee 0 (oV (eP S.mem ρ (λk=>B.contains k) iy 0 ρ))) λo m=>o=out/\m=dL 0 O:=by
    obtain⟨AM,A4,Z,M⟩:=Bi B5;obtain⟨B7,Ae⟩:=AB _ _ _ _ _ Z;refine⟨B7,?_⟩;rcases M with ⟨rfl,rfl⟩|⟨AO,rfl,rfl⟩
    ·exact Ae
    ·have Af:(oV (eP S.mem ρ (λk=>B.contains k) iy 0 ρ)).length=ρ.length:=by rw[uT,rO]
     have:=Ae.frz (by rw[Af];omega);rw[Af]at this;exact this
   obtain⟨Ag,Ah⟩:=B6;simp only[Ds,agr,aa8]at I;obtain⟨⟨BL,B8⟩,B9⟩:=I;rw[Bh]at Ah;obtain⟨v1,v2,v3⟩:=HO (B:=B) A9.mem Ac Ad;have AT:=A9.aq AN (by rw[A_]);rw[A_]at AT;generalize Ai:a.eval AN=BM at AT;have BA:∃vs:Array Value,(execOp a.eval o).run X.P w=.ok (.enter g vs) w/\(iT g0 (dA S args.toList) E).length=vs.size/\∀(i:Nat) y v,(iT g0 (dA S args.toList) E)[i]?=some y->vs[i]?=some v->aF φ w (Fo G φ S.mem) y v:=by
    have Aj:∀(i:Nat) y v,(dA S args.toList)[i]?=some y->(args.map a.eval)[i]?=some v->aF φ w (Fo G φ S.mem) y v:=by
     intro i y v A2 A3;rw[xh]at A2;simp only[Array.getElem?_map,aba]at A3;obtain⟨z,Ak,rfl⟩:=A3;obtain⟨BN,Al,rfl⟩:=aba.1 A2;rw[agh,Ak]at Al;cases Al;exact A9.aq z (vH B1 z (by simpa using Array.mem_of_getElem? Ak))
    have AP:(dA S args.toList).length=(args.map a.eval).size:=by rw[jJ];simp
    have An:∀(l r:List AV)(AQ AR:Array Value),l.length=AQ.size->r.length=AR.size->(∀(i:Nat) y v,l[i]?=some y->AQ[i]?=some v->aF φ w (Fo G φ S.mem) y v)->(∀(i:Nat) y v,r[i]?=some y->AR[i]?=some v->aF φ w (Fo G φ S.mem) y v)->
     ∀(i:Nat) y v,(l++r)[i]?=some y->(AQ++AR)[i]?=some v->aF φ w (Fo G φ S.mem) y v:=by
     intro l r AQ AR M V AA BB i y v A2 A3;by_cases hi:i<l.length
     ·rw[abl hi]at A2;rw[agp (by omega)]at A3;exact AA i y v A2 A3
     ·rw[abq (by omega)]at A2;rw[Array.getElem?_append_right (by omega),<-M]at A3;exact BB _ y v A2 A3
    cases AT with
    |fn _ _ AU AO AF AW=>
     have AC:g0=g:=by rw[<-Aa,agi AO]
     subst AC;refine⟨args.map a.eval++AU,by simp[execOp,A8,resolve,Ai,Deferred.ofValue,invoke,uS Ag],?_,?_⟩
     ·rw[Kx AO,aa9,AP,AF,Array.size_append]
     ·rw[Kx AO];exact An _ _ _ _ AP AF Aj AW
    |tc f _ AU AF AW=>
     have AC:f=g:=by rw[<-Aa,agj]
     subst AC;refine⟨AU++args.map a.eval,by simp[execOp,A8,resolve,Ai,Deferred.ofValue,invoke,uS Ag],?_,?_⟩
     ·rw[Ky,aa9,AP,AF,Array.size_append]
     ·rw[Ky];exact An _ _ _ _ AF AP AW Aj
   obtain⟨vs,BC,BD,BE⟩:=BA
   ·unfold Oper.wp;rw[BC];have BF:(iz (mt.contains 1000) S.mem ρ B (iT g0 (dA S args.toList) E)).length=vs.size:=by
     rw[sY];exact BD
    have BG:∀(i:Nat) x v,(iz (mt.contains 1000) S.mem ρ B (iT g0 (dA S args.toList) E))[i]?=some x->vs[i]?=some v->aF (φ.iG ρ iy) w (Fo (lZ φ G S.mem ρ B) (φ.iG ρ iy) (dL 0 (eP S.mem ρ (λk=>B.contains k) iy 0 ρ))) x v:=by
     intro i x v A' A3;rw[ze]at A';obtain⟨y,A2,rfl⟩:=aba.1 A';exact (v2 y v (BE i y v A2 A3)).C7
    have BH:fg w (Fo (lZ φ G S.mem ρ B) (φ.iG ρ iy) (dL 0 (eP S.mem ρ (λk=>B.contains k) iy 0 ρ))) X.gl:=by
     rw[<-B2];exact A9.lg.mono (λ_ _ _=>rfl) (aa7 _) (λb _=>v3 b)
    refine (Ah (φ.iG ρ iy) (lZ φ G S.mem ρ B) w _ v1 BH BF BG).mono ?_;rintro e w' ⟨BO,BP,AK,⟨rfl,rfl⟩,BI,A0,A1⟩;have AX:B=[]\/(Bb AK=true/\oG O=true):=B9.imp (by simp) id;obtain⟨φ',AD,U,Ao⟩:=HP (B:=B) A9.mem Ac Ad (fr:=List.range' (A6+1) (O.length-ρ.length)) List.nodup_range' (DR B8) BI A0 (by simp;omega) (AX.imp id λAG=>zh AG.2);have Ap:=A9.Av AD U;cases AK with
    |ret x=>
     cases e with
     |returned v=>exact B3 _ rfl φ' w' v Ap U (Ao x v (AX.imp id λAG=>AG.1) A1)
     |_=>exact A1.elim
    |panic t x=>
     cases e with
     |panicked chain=>
      obtain⟨v,rfl,A'⟩:=A1;have:=Ao (.d x) v (AX.imp id λAG=>AG.1) (.d _ _ A');cases this with
      |d _ _ BJ=>exact B4 t x rfl φ' w' v Ap U BJ
     |_=>exact A1.elim
  ·cases h
 ·cases h
end Go.Am
end
