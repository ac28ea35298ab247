/-
  Texts of one proof, one behind the other.
-/
import Derived.Test.YtdjlcobfpppbbaaGreatDoorT1
import Derived.Orders
set_option linter.all false
section
namespace Go.Am
open Go
def jW(S:St):List Operand->Bool
 |[]=>true
 |x::r=>(S.ar x).1&&jW S r
theorem wW{S:St}:∀{l:List Operand},jW S l=true->∀x∈l,(S.ar x).1=true
 |[],_,x,M=>by simp at M
 |y::r,h,x,M=>by
  simp only[jW,Ds]at h;rcases aco.1 M with rfl|M
  ·exact h.1
  ·exact wW h.2 x M
def iB(S:St)(o:Oper):Bool:=
 match o.op with
 | .pick _ _ _=>true
 |op=>jW S op.operands.toList
def uU(P:Program)(m:Mem)(AE:Nat)(t:TypeId)(x:AV):dY:=
 match x with
 | .lit (.slice none 0 0)=>match Mem.get m AE with
  |some ⟨_,v,_⟩=>match tk P t with
   | .slice e=>match gE P e with
    |some sz=>.dJ true (.vec AE (v+1) 0 0) ⟨AE,v+1,.vec sz []⟩
    |none=>.val true x
   |_=>.val true x
  |none=>.val true x
 |x=>.val true x
theorem Ll(P:Program)(S:St)(o:Oper)(x:Operand)(E:o.op=.move x\/o.op=.assign x)(M:(S.ar x).1=true):aN P S o (uU P S.mem (keyOf o) o.type (S.ar x).2):=by
 have plain:aN P S o (.val true (S.ar x).2):=by
  have:=aep P S o x E M;simpa using this
 unfold uU;split
 ·rename_i A8;split
  ·rename_i key v cont A3;split
   ·split
    ·rename_i sz A9;intro _ φ G a w I;obtain⟨hm,V,L,A5,A6,Ag⟩:=I.mem.get A3;simp only at V A6;subst V;have AA:=I.ar x M;rw[A8]at AA;generalize B3:a.eval x=u at AA;cases AA;obtain⟨φ',AR,AS,Ab,AM⟩:=I.mem.dJ (e':=⟨keyOf o,v+1,.vec sz []⟩) hm A5 rfl (L':=⟨v+1,0,sz,0,0,[]⟩) (by simp only;omega) (λhh=>by simp only at hh;omega) rfl
      (w':=w) (λ_ _ _=>rfl) (ack _) (λ_ E=>absurd E.1 (by simp)) rfl rfl rfl (λφ' B4 Bb=>
       ⟨rfl,by simp,by simp,λT=>by simp at T⟩)
     refine⟨.slice none 0 0,w,φ',.inl ?_,?_,AR,AS,AM⟩
     ·rcases E with E|E<;>simp[execOp,E,B3]
     ·exact .vec _ (v+1) 0 _ _ _ Ab (ack _) (λ_=>⟨_,_,rfl,by simp,λh=>by omega⟩) rfl
    ·exact plain
   ·exact plain
  ·exact plain
 ·exact plain
def BF:Value->Bool
 | .slice none 0 0=>true
 | .pointer none=>true
 | .nilIface=>true
 |_=>false
def tH(P:Program)(S:St)(op:BinOp)(t:TypeId)(x y:Operand):dY:=
 match y with
 | .const v=>match BF v,op with
  |true,.eql=>ld P S.mem false t (S.ar x).2 v
  |true,.neq=>ld P S.mem true t (S.ar x).2 v
  |_,_=>sh P op t (S.ar x).2 (S.ar (.const v)).2
 |y=>sh P op t (S.ar x).2 (S.ar y).2
theorem Vk(P:Program)(S:St)(o:Oper)(B5:BinOp)(t AU:TypeId)(x y:Operand)(E:o.op=.binOp B5 t x y AU)(M:(S.ar x).1=true)(AF:(S.ar y).1=true):aN P S o (tH P S B5 t x y):=by
 unfold tH;split
 ·split
  ·exact Pp P S o false t AU x _ (by simpa using E) M
  ·exact Pp P S o true t AU x _ (by simpa using E) M
  ·exact Po P S o _ t AU x _ E M AF
 ·exact Po P S o B5 t AU x y E M AF
theorem Lm{w:World}{F F':Nat->Prop}{sz:Nat}{AG:List D}{cs:List Value}{b off cap:Nat}(I:cO w F sz AG cs)(T:∀(j:Nat) v,cs[j]?=some v->w.cell? ⟨b,off+j,none⟩=some v)
 (AB:b<w.heap.size) (Ah:∀b,F' b->F b) (B6:¬F' b) (BP:AG.length<=cap):aQ w F' (.list AG) (.slice (some ⟨b,off,none⟩) AG.length cap):=by
 obtain⟨H,O,A2,AN⟩:=I;refine .list AG b off cap sz (λi=>if h:i<AG.length then Classical.choose (AN i AG[i] (by simp[h]))else undef) BP AB B6 A2 (λi d Y=>?_) (λi j c hi A0=>?_)
 ·have hi:=(ace.1 Y).1;have:=ao5 (AN i AG[i] (by simp[hi]));simp only[hi,dif_pos];have e:AG[i]=d:=(ace.1 Y).2;rw[<-e];exact this.1.mono (λ_ _ _=>rfl) (ack _) (λb _=>Ah b)
 ·have:=ao5 (AN i AG[i] (by simp[hi]));simp only[hi,dif_pos]at A0;have AW:=T _ _ (this.2 j c A0);rw[<-adO]at AW;exact AW
theorem EC{φ w F F'}{k aq off len sz:Nat}{aj:List D}{L:Loc}{v:Value}(AA:aG φ w F (.vec k aq off len) v)(A5:φ k=some L)(A6:L.aq=aq)(T:eV φ w F L (.vec sz aj))(hle:off+len<=aj.length)
 (Ah:∀b,F' b->F b) (B6:0<L.cap->¬F' L.en):aQ w F' (.list ((aj.drop off).take len)) v:=by
 have BQ:((aj.drop off).take len).length=len:=by simp;omega
 cases AA with
 |vec _ _ _ _ _ L' Ai _ h _=>
  rw[A5]at Ai;cases Ai;obtain⟨ao,cap,rfl,BR,Aj⟩:=h A6.symm;clear h;by_cases Bc:len=0
  ·subst Bc;simp only[List.take_zero];exact .nil _ _ (λZ=>by
    subst Z;rcases akB cap with A1|A1
    ·exact A1
    ·obtain⟨H,_⟩:=Aj A1;cases H)
  ·obtain⟨rfl,CD⟩:=Aj (by omega);obtain⟨arr,elem,hh,BS,BT,I⟩:=pE T (by omega);have B7:=(I.drop off).take len (by simp;omega);have:=Lm (F':=F') (b:=L.en) (off:=L.base+off*L.sz) (cap:=cap) B7 (λj u A0=>by
    rw[iJ hh,T.1];rw[adB]at A0;split at A0
    ·rw[adR,adB]at A0;split at A0
     ·rw[adR]at A0;rw[adO];simpa using A0
     ·cases A0
    ·cases A0) hh.lt Ah (B6 (by omega)) (by omega)
   rw[BQ]at this;exact this
theorem Mem.set_set{e e':dk}(V:e'.key=e.key):∀m:Mem,Mem.set (Mem.set m e) e'=Mem.set m e'
 |[]=>rfl
 |x::r=>by
  simp only[Mem.set];by_cases h:x.key=e.key
  ·rw[acs h,acs (by rw[V];exact h)];simp only[Mem.set];rw[acs V.symm]
  ·rw[ach h,ach (by rw[V];exact h)];simp only[Mem.set];rw[ach (by rw[V];exact h),Mem.set_set V r]
theorem agh{φ:cd}{G m w}(h:bz φ G m w){k v sz n:Nat}{aj:List D}(A3:Mem.get m k=some ⟨k,v,.vec sz aj⟩){x:Value}(M:aG φ w (Fo G φ m) (.vec k v 0 n) x)(Z:n<=aj.length):
 ∃φ',bz φ' G (Mem.set m ⟨k,v+1,.dead⟩) w/\aZ φ m w φ' (Mem.set m ⟨k,v+1,.dead⟩) w/\(∀j,j≠k->φ' j=φ j)/\aQ w (Fo G φ' (Mem.set m ⟨k,v+1,.dead⟩)) (.list (aj.take n)) x:=by
 obtain⟨hm,_,L,A5,A6,Ag⟩:=h.get A3;obtain⟨φ',AR,AS,Ab,AM⟩:=h.dJ (e:=⟨k,v,.vec sz aj⟩) (e':=⟨k,v+1,.dead⟩) hm A5 rfl (L':={L with aq:=v+1}) (by simp only at A6⊢;omega) (λhh=>by simp only at A6 hh;omega) rfl
  (w':=w) (λ_ _ _=>rfl) (ack _) (λ_ E=>E.elim) rfl rfl rfl (λ_ _ _=>trivial)
 refine⟨φ',AR,AS,AM,?_⟩;have BU:∀b,jT φ' (Mem.set m ⟨k,v+1,.dead⟩) b->jT φ m b/\∀(_:0<L.cap),b≠L.en:=by
  rintro b ⟨y,AF,Aq,AH,Ac⟩;rcases (Mem.mem_set h.nodup).1 AF with ⟨rfl,_⟩|⟨Ar,AI⟩
  ·exact Ac.elim
  ·simp only at AI;rw[AM _ AI]at AH;refine⟨⟨y,Ar,Aq,AH,Ac⟩,λT heq=>AI (h.apart y Ar _ hm Aq L AH A5 ⟨b,Ac,T,heq.symm⟩)⟩
 have:=EC M A5 A6 Ag (by omega) (F':=Fo G φ' (Mem.set m ⟨k,v+1,.dead⟩)) (λb=>Or.imp id (λAB=>(BU b AB).1)) (λT=>by
  rintro (B8|E)
  ·exact h.ml _ ⟨_,hm,L,A5,T,rfl⟩ B8
  ·exact (BU _ E).2 T rfl)
 simpa using this
def wX(m:Mem)(b:Bool)(AE:Nat):dY->dY
 | .dJ c (.vec k v 0 n) ⟨AJ,Ad,.vec sz aj⟩=>if b=true/\k≠AE/\AJ=k/\Ad=v/\n<=aj.length/\(Mem.get m k).isSome=true then .dJ c (.d (.list (aj.take n))) ⟨k,v+1,.dead⟩else .dJ c (.vec k v 0 n) ⟨AJ,Ad,.vec sz aj⟩
 |r=>r
theorem Zr{P:Program}{S:St}{o:Oper}{b:Bool}{AE:Nat}{r:dY}(h:aN P S o r):aN P S o (wX S.mem b AE r):=by
 unfold wX;split
 ·rename_i c k v n AJ Ad sz aj;split
  ·rename_i hh;obtain⟨_,_,rfl,rfl,Z,A9⟩:=hh;intro T φ G a w I;obtain⟨x,w',φ',H,O,A2,AN,AW⟩:=h T φ G a w I;have B9:AJ∈S.mem.map (·.key):=by
    cases A3:Mem.get S.mem AJ with
    |none=>rw[A3]at A9;cases A9
    |some e=>
     obtain⟨BA,Bd⟩:=Mem.get_mem A3;rw[<-Bd];exact adL BA
   obtain⟨BB,q1,q2,q3,BC⟩:=agh A2 (Mem.qN (x:=⟨AJ,Ad,.vec sz aj⟩) B9) O Z;rw[Mem.set_set (e:=⟨AJ,Ad,.vec sz aj⟩) (e':=⟨AJ,Ad+1,.dead⟩) rfl]at q1 q2 BC;exact⟨x,w',BB,H,.d _ _ BC,q1,AN.trans q2,λj A0=>by rw[q3 j A0];exact AW j A0⟩
  ·exact h
 ·exact h
def Si(P:Program)(t:TypeId):AV->dY
 | .lit (.slice none 0 0)=>match tk P t with
  | .slice _=>.val True (.d (.int .i64 0))
  |_=>.no
 |_=>.no
theorem agi(P:Program)(S:St)(o:Oper)(x:Operand)(t:TypeId)(E:o.op=.call {callee:=.builtin .cap,args:=#[x],argTypes:=#[t]})(M:(S.ar x).1=true):aN P S o (Si P t (S.ar x).2):=by
 have BD:∀(a:Act)(w:World)(v:Value),(Builtin.cap_ #[t] o.type #[a.eval x]).run P w=.ok v w->(execOp a.eval o).run P w=.ok (.value v) w:=by
  intro a w v h;simp[execOp,E,resolve,invoke,builtin,h]
 unfold Si;split
 ·rename_i A8;split
  ·rename_i e Be;refine aN.pure λ_ φ G a w I=>?_;have H:=I.ar x M;rw[A8]at H;generalize A4:a.eval x=av at H;cases H with|lit _ h=>
   refine⟨_,BD a w (.int .i64 0) ?_,.d _ _ (.int _ _)⟩;rw[A4];simp[Builtin.cap_,run_underlying (gT Be),goInt]
  ·trivial
 ·trivial
def mZ(P:Program)(S:St)(o:Oper)(b:Builtin)(args:List Operand)(ts:List TypeId):dY:=
 match b,args,ts with
 | .len,[x],[t]=>pT P S.mem t (S.ar x).2
 | .append,[s,x],[t,u]=>wX S.mem (Mem.get S.mem (keyOf o)).isSome (keyOf o) (uw P S.mem (keyOf o) t u (S.ar s).2 (S.ar x).2)
 | .copy,[s,x],[t,_]=>zM P S.mem t (S.ar s).2 (S.ar x).2
 | .max,args,_=>HU true (args.map λx=>(S.ar x).2)
 | .min,args,_=>HU false (args.map λx=>(S.ar x).2)
 | .cap,[x],[t]=>Si P t (S.ar x).2
 |_,_,_=>.no
def zeroOf:TK->Option D
 | .int k=>some (.int k 0)
 | .bool=>some (.bool false)
 |_=>none
theorem OK{t:TK}{z:D}(h:zeroOf t=some z):z.size=1/\∀(w:World)(F:Nat->Prop),∃v,aQ w F z v/\v.cells=#[v]/\∀u,aQ w F z u->u=v:=by
 cases t with
 |int k=>cases h;exact⟨rfl,λw F=>⟨_,.int k 0,rfl,λu hu=>by cases hu;rfl⟩⟩
 |bool=>cases h;exact⟨rfl,λw F=>⟨_,.bool false,rfl,λu hu=>by cases hu;rfl⟩⟩
 |_=>cases h
def Vm:D->AV->Bool
 | .int k n,.d (.int AJ Bf)=>k == AJ&&n == Bf
 | .bool b,.d (.bool Bg)=>b == Bg
 |_,_=>false
theorem agj{z:D}{c:AV}(h:Vm z c=true):c=.d z:=by
 unfold Vm at h;split at h<;>simp_all
def Ln(m:Mem)(k n:Nat)(z:D)(zs:List AV):dY:=
 match Mem.get m k with
 |some ⟨_,v,_⟩=>.dJ (zs.length=n/\zs.all (Vm z)=true) (.di k (v+1) 0 0) ⟨k,v+1,.vec 1 (List.replicate n z)⟩
 |none=>.no
def vO(P:Program)(m:Mem)(k:Nat)(t:TypeId):dY:=
 match wS P t with
 |some zs=>match tk P t with
  | .arr n e=>match zeroOf (tk P e)with
   |some z=>Ln m k n z zs
   |none=>uu m k true zs
  |_=>uu m k true zs
 |none=>.no
theorem agk(P:Program)(S:St)(o:Oper)(t:TypeId)(E:o.op=.alloc t)(n:Nat)(As:D)(BV:TK)(At:zeroOf BV=some As)(zs:List AV)(Ak:wS P t=some zs):aN P S o (Ln S.mem (keyOf o) n As zs):=by
 obtain⟨BW,Au⟩:=OK At;unfold Ln;split
 ·rename_i key v cont A3;refine aN.ur ?_;rintro ⟨Z,Bh⟩ φ G a w I;obtain⟨z,BD,Bj,H,BE⟩:=qj Ak w;obtain⟨hm,V,L,A5,A6,Ag⟩:=I.mem.get A3;simp only at V A6;subst V;have Bl:∀(w:World)(F:Nat->Prop)(i:Nat) u,z.cells[i]?=some u->aQ w F As u:=by
   intro w' F i u hu;have hi:i<zs.length:=by
    have:=(ad5.1 hu).1;omega
   have A2:=BE φ w (λ_=>False) i zs[i] u (by simp[hi]) hu;rw[agj (acI.1 Bh _ (age hi))]at A2;cases A2 with
   |d _ _ AN=>
    obtain⟨v1,q1,_,q2⟩:=Au w (λ_=>False);obtain⟨v2,q3,_,BC⟩:=Au w' F;cases BV with
    |int k=>cases At;cases AN;exact .int k 0
    |bool=>cases At;cases AN;exact .bool false
    |_=>cases At
  obtain⟨φ',AR,AS,Ab,AM⟩:=I.mem.fresh (e:=⟨keyOf o,v,cont⟩) hm A5 A6 w rfl rfl rfl rfl z.cells t 1 n (.vec 1 (List.replicate n As)) (λ_ AB=>AB.2) (λφ' hle A4 CE BH=>by
   refine⟨rfl,by simp,λd Y=>by rw[(List.mem_replicate.1 Y).2];exact BW,λ_=>⟨z.cells,t,fZ.new BH,by simp[Bj,Z],H,λi d Y=>?_⟩⟩;obtain⟨hi,rfl⟩:=ace.1 Y;simp at hi;have BX:i<z.cells.size:=by omega
   have AW:=λw F=>Bl w F i z.cells[i] (by simp[BX]);have BA:=(AW w (λ_=>False)).size;rw[BW]at BA;refine⟨z.cells[i],by simp;exact AW _ _,λj c A0=>?_⟩;have Bm:j=0:=by
    have:=(ad5.1 A0).1;omega
   subst Bm;rw[eU (H _ (by simp))]at A0;simp at A0;subst A0;simp[BX])
  refine⟨.pointer (some ⟨w.heap.size,0,none⟩),_,φ',.inl ?_,?_,AR,AS,AM⟩
  ·simp[execOp,E,Instr.alloc,newVar,jI,BD]
  ·exact .di _ (v+1) 0 0 _ _ Ab (ack _) (λ_=>by simp) rfl
 ·trivial
theorem Vo(P:Program)(S:St)(o:Oper)(t:TypeId)(E:o.op=.alloc t):aN P S o (vO P S.mem (keyOf o) t):=by
 unfold vO;split
 ·rename_i zs Ak;split
  ·split
   ·rename_i Au;exact agk P S o t E _ _ _ Au zs Ak
   ·exact KU P S o t E zs Ak
  ·exact KU P S o t E zs Ak
 ·trivial
def uV(P:Program)(m:Mem)(AE:Nat)(src dst:TypeId)(x:AV):dY:=
 match x with
 | .vec k aq off len=>match tk P dst with
  | .slice e=>match decide (src=dst),tk P e,Mem.get m k with
   |true,.int .u8,some ⟨_,v,.vec sz aj⟩=>.dJ (decide (v=aq/\0<len)) (.vec k aq off len) ⟨k,aq,.vec sz aj⟩
   |_,_,_=>.no
  |_=>nV P m AE src dst (.vec k aq off len)
 |x=>nV P m AE src dst x
theorem Zs(P:Program)(S:St)(o:Oper)(src dst:TypeId)(x:Operand)(E:o.op=.convert src dst x)(M:(S.ar x).1=true):aN P S o (uV P S.mem (keyOf o) src dst (S.ar x).2):=by
 unfold uV;split
 ·rename_i k aq off len A8;split
  ·rename_i e Y;split
   ·rename_i key v sz aj BI Bn A3;refine aN.ur ?_;rintro ⟨rfl,BQ⟩ φ G a w I;have BI:src=dst:=adT BI;subst BI;obtain⟨hm,V,L,A5,A6,Ag⟩:=I.mem.get A3;simp only at V A6;subst V;have AA:=I.ar x M;rw[A8]at AA;have Bo:=AA;generalize B3:a.eval x=CF at AA Bo;cases AA with
    |vec _ _ _ _ _ L' Ai _ h Bp=>
     rw[A5]at Ai;cases Ai;obtain⟨ao,cap,rfl,BR,Aj⟩:=h A6.symm;obtain⟨rfl,BP⟩:=Aj (by omega);have BJ:0<L.cap:=by omega
     obtain⟨Bq,Br,Bs,Bt⟩:=Ag;obtain⟨arr,elem,⟨fr,hh,Bu⟩,BS,BT,BE⟩:=Bt BJ;obtain⟨w',AX⟩:∃w',w'=w.freeze ⟨L.en,arr.size,none⟩ 1:=⟨_,rfl⟩;have BH:fZ w' L.en arr elem:=by
      obtain⟨lo,hi⟩:=fr;rw[AX];by_cases he:lo=hi
      ·refine⟨(arr.size,arr.size+1),?_,.inr (ack _)⟩;simp[World.freeze,aju,hh,he]
      ·refine⟨(min lo arr.size,max hi (arr.size+1)),?_,?_⟩
       ·simp[World.freeze,aju,hh,he]
       ·right;rcases Bu with h|h
        ·cases h;exact absurd rfl he
        ·simp only at h⊢;omega
     have hold:∀b,b≠L.en->w'.heap[b]?=w.heap[b]?:=by
      intro b AB;rw[AX];simp only[World.freeze,Nat.one_ne_zero,adY,aju];rw[ach (λe=>AB e.symm)]
     have CG:w'.heap.size=w.heap.size:=by rw[AX];simp[World.freeze]
     have BK:w'.os=w.os:=by rw[AX];simp[World.freeze]
     have Bv:w'.tape=w.tape:=by rw[AX];simp[World.freeze]
     have Bw:w'.output=w.output:=by rw[AX];simp[World.freeze]
     have B9:Fo G φ S.mem L.en:=.inr ⟨_,hm,L,A5,BJ,rfl⟩;obtain⟨φ',AR,AS,Ab,AM⟩:=I.mem.dJ (e:=⟨key,v,.vec sz aj⟩) (e':=⟨key,v,.vec sz aj⟩) hm A5 rfl (L':=L) (ack _) (λ_=>rfl) A6
      (w':=w') (λb _ Z=>hold b (λhe=>Z ⟨BJ,he.symm⟩)) (by omega) (λ_ E=>.inl E) BK Bv Bw (λφ' B4 Bb=>by
       have Ah:∀b,Fo G φ' (Mem.set S.mem ⟨key,v,.vec sz aj⟩) b->Fo G φ S.mem b:=by
        rintro b (B8|⟨y,AF,Aq,AH,Ac⟩)
        ·exact .inl B8
        ·right;rcases (Mem.mem_set I.mem.nodup).1 AF with ⟨rfl,_⟩|⟨Ar,AI⟩
         ·rw[B4]at AH;simp at AH;subst AH;exact⟨_,hm,L,A5,Ac⟩
         ·simp only at AI;rw[B4]at AH;simp[AI]at AH;exact⟨y,Ar,Aq,AH,Ac⟩
       exact⟨Bq,Br,Bs,λ_=>⟨arr,elem,BH,BS,BT,λi d Y=>let ⟨u,hu,A0⟩:=BE i d Y
        ⟨u,hu.mono (λb _ Z=>hold b (λhe=>Z (he▸B9))) (by omega) (λb _=>Ah b),A0⟩⟩⟩)
     refine⟨.slice (some ⟨L.en,L.base+off*L.sz,none⟩) len cap,w',φ',.inl ?_,.vec key v off len _ L Ab (Nat.le_of_eq A6.symm) (λ_=>⟨_,_,rfl,BR,Aj⟩) Bp,AR,AS,AM⟩;have Bx:w.shape? L.en=some (elem,arr.size):=by simp[World.shape?,hh]
     have By:(markStringish ⟨L.en,L.base+off*L.sz,none⟩).run P w=.ok () w':=by
      simp only[markStringish,shape,Sem.run_bind,Sem.run,Bx,Result.andThen_ok,freeze,AX]
     simp[execOp,E,B3,convert,run_underlying (gT Y),run_underlying (yH Bn),Sem.run_bind,By]
   ·trivial
  ·rw[<-A8];exact Pq P S o src dst x E M
 ·exact Pq P S o src dst x E M
def Lo(P:Program)(s:TypeId)(f:Nat):Option TypeId:=
 match P.underlying s with
 |some (.struct AO)=>match AO[f]? with
  |some fl=>some fl.type
  |none=>none
 |_=>none
def yL(P:Program)(s:TypeId)(x:AV)(f:Nat):dY:=
 match x with
 | .d (.agg cs)=>match zF P s f,Lo P s f with
  |some off,some e=>match (tk P e).agg,gE P e with
   |false,some 1=>.val (off<cs.length/\tk P e≠.other) (.d (D.at cs off))
   |true,some sz=>.val (off+sz<=cs.length) (.d (.agg ((cs.drop off).take sz)))
   |_,_=>.no
  |_,_=>.no
 | .agg cs=>match zF P s f,Lo P s f with
  |some off,some e=>match (tk P e).agg,gE P e,cs[off]? with
   |false,some 1,some c=>.val (tk P e≠.other) c
   |_,_,_=>.no
  |_,_=>.no
 |_=>.no
theorem IU{P:Program}{s:TypeId}{f off:Nat}{e:TypeId}(h:zF P s f=some off)(he:Lo P s f=some e):∃AO fl,P.underlying s=some (.struct AO)/\AO[f]?=some fl/\fl.offset=off/\fl.type=e:=by
 unfold zF at h;unfold Lo at he;split at h
 ·rename_i AO AY;rw[AY]at he;simp only at he;split at h
  ·rename_i fl AZ;rw[AZ]at he;cases he;split at h
   ·split at h
    ·cases h
    ·cases h;exact⟨AO,fl,AY,AZ,rfl,rfl⟩
   ·cases h
  ·cases h
 ·cases h
theorem Vq(P:Program)(S:St)(o:Oper)(s:TypeId)(x:Operand)(f:Nat)(E:o.op=.field s x f)(M:(S.ar x).1=true):aN P S o (yL P s (S.ar x).2 f):=by
 unfold yL;split
 ·rename_i cs A8;split
  ·rename_i off e BL BM;obtain⟨AO,fl,AY,AZ,rfl,rfl⟩:=IU BL BM;split
   ·rename_i Al A9;refine aN.pure ?_;rintro ⟨CH,AI⟩ φ G a w I;have H:=I.ar x M;rw[A8]at H;generalize A4:a.eval x=av at H;cases H with|d _ _ H=>
    cases H with|agg _ AC BY Bz Av=>
    have An:fl.offset<AC.size:=by omega
    refine⟨AC[fl.offset],?_,.d _ _ (Av fl.offset _ _ (ll (by omega)) (by simp[An]))⟩;have A':=vL (P:=P) (w:=w) (t:=fl.type) (cs:=AC) (off:=fl.offset) Al AI (v:=AC[fl.offset]) (by simp[An]);simp[execOp,E,A4,Instr.field,run_underlying AY,AZ,asAgg,A']
   ·rename_i sz Al A9;refine aN.pure ?_;rintro hle φ G a w I;have H:=I.ar x M;rw[A8]at H;generalize A4:a.eval x=av at H;cases H with|d _ _ H=>
    have C':=H;cases H with|agg _ AC BY Bz Av=>
    refine⟨_,?_,.d _ _ (AT C' fl.offset sz hle)⟩;have A':=IQ (P:=P) (w:=w) (t:=fl.type) (cs:=AC) (off:=fl.offset) Al A9;simp[execOp,E,A4,Instr.field,run_underlying AY,AZ,asAgg,A']
   ·trivial
  ·trivial
 ·rename_i cs A8;split
  ·rename_i off e BL BM;obtain⟨AO,fl,AY,AZ,rfl,rfl⟩:=IU BL BM;split
   ·rename_i c Al A9 T;refine aN.pure ?_;rintro AI φ G a w I;have H:=I.ar x M;rw[A8]at H;generalize A4:a.eval x=av at H;cases H with|agg _ AC BY CI Av=>
    have An:fl.offset<AC.size:=by have:=(ace.1 T).1;omega
    refine⟨AC[fl.offset],?_,Av fl.offset c _ T (by simp[An])⟩;have A':=vL (P:=P) (w:=w) (t:=fl.type) (cs:=AC) (off:=fl.offset) Al AI (v:=AC[fl.offset]) (by simp[An]);simp[execOp,E,A4,Instr.field,run_underlying AY,AZ,asAgg,A']
   ·trivial
  ·trivial
 ·trivial
def C8(P:Program)(x:AV)(asserted:TypeId)(ok:Bool):dY:=
 match x with
 | .jb t d=>match decide (t=asserted),ok with
  |true,true=>.val (tk P asserted≠.other/\tk P asserted≠.iface) (.bh [.d d,.d (.bool true)])
  |true,false=>.val (tk P asserted≠.other/\tk P asserted≠.iface) (.d d)
  |_,_=>.no
 |_=>.no
theorem agm{P:Program}{t:TypeId}(h:tk P t≠.other)(O:tk P t≠.iface):∃d,P.underlying t=some d/\∀ms,d≠.interface ms:=by
 unfold tk at h O;cases hu:P.underlying t with
 |none=>rw[hu]at h;exact absurd rfl h
 |some d=>
  refine⟨d,rfl,λms Y=>?_⟩;subst Y;rw[hu]at O;exact O rfl
theorem FX{P:Program}{w:World}{t C0 asserted:TypeId}{v:Value}{ok:Bool}(h:tk P asserted≠.other)(O:tk P asserted≠.iface)(A7:t=asserted):
 (Instr.typeAssert (.iface t v) C0 asserted ok).run P w=.ok (if ok then .tuple #[v,.bool true]else v) w:=by
 obtain⟨d,Y,Z⟩:=agm h O;subst A7;simp only[Instr.typeAssert,Sem.run_bind,run_underlying Y,Result.andThen_ok];cases d with
 |interface ms=>exact absurd rfl (Z ms)
 |_=>simp
theorem Vs(P:Program)(S:St)(o:Oper)(x:Operand)(BN asserted:TypeId)(ok:Bool)(E:o.op=.typeAssert x BN asserted ok)(M:(S.ar x).1=true):aN P S o (C8 P (S.ar x).2 asserted ok):=by
 unfold C8;split
 ·rename_i t d A8;split
  ·rename_i A7;have A7:t=asserted:=by simpa using A7
   refine aN.pure ?_;rintro ⟨H,O⟩ φ G a w I;have AL:=I.ar x M;rw[A8]at AL;generalize A4:a.eval x=av at AL;cases AL with|jb _ _ v Y=>
   refine⟨.tuple #[v,.bool true],by simp[execOp,E,A4,FX H O A7],.bh _ _ rfl λi c u T hu=>?_⟩;match i,T,hu with
   |0,T,hu=>simp at T hu;subst T hu;exact .d _ _ Y
   |1,T,hu=>simp at T hu;subst T hu;exact .d _ _ (.bool _)
   |i+2,T,hu=>simp at T
  ·rename_i A7;have A7:t=asserted:=by simpa using A7
   refine aN.pure ?_;rintro ⟨H,O⟩ φ G a w I;have AL:=I.ar x M;rw[A8]at AL;generalize A4:a.eval x=av at AL;cases AL with|jb _ _ v Y=>
   exact⟨v,by simp[execOp,E,A4,FX H O A7],.d _ _ Y⟩
  ·trivial
 ·trivial
def dP(P:Program)(S:St)(o:Oper):dY:=
 match o.op with
 | .move x=>uU P S.mem (keyOf o) o.type (S.ar x).2
 | .assign x=>uU P S.mem (keyOf o) o.type (S.ar x).2
 | .pick c a b=>Kq (S.ar c) (S.ar a) (S.ar b)
 | .alloc t=>vO P S.mem (keyOf o) t
 | .box _ x=>uu S.mem (keyOf o) (S.ar x).2.mY (S.ar x).2.cells
 | .load t x=>nR P S.mem t (S.ar x).2
 | .store t p x=>qR P S.mem t (S.ar p).2 (S.ar x).2
 | .fieldAddr s x f=>qp P S.mem s f (S.ar x).2
 | .nilCheck x=>ku S.mem (S.ar x).2
 | .indexAddr t x i=>oe P S.mem t (S.ar x).2 (S.ar i).2
 | .index t x i=>si P t (S.ar x).2 (S.ar i).2
 | .slice t x lo hi none=>mu P S.mem t (S.ar x).2 (lo.map λy=>(S.ar y).2) (hi.map λy=>(S.ar y).2)
 | .binOp op t x y _=>tH P S op t x y
 | .unOp op _ x=>Ld op (S.ar x).2
 | .convert s d x=>uV P S.mem (keyOf o) s d (S.ar x).2
 | .makeInterface t x=>uT P t (S.ar x).2
 | .makeFunc f first cap=>qu f (first.toList.map λx=>(S.ar x).2) (cap.toList.map λx=>(S.ar x).2)
 | .makeSlice t l c=>zL P S.mem (keyOf o) t (S.ar l).2 (S.ar c).2
 | .build t ps=>FT P t (ps.toList.map λx=>(x.1,(S.ar x.2).2))
 | .buildSlice t len ps=>lR P S.mem (keyOf o) t len (ps.toList.map λx=>(x.1,(S.ar x.2).2))
 | .extract x i=>vN i (S.ar x).2
 | .field s x f=>yL P s (S.ar x).2 f
 | .typeAssert x _ t ok=>C8 P (S.ar x).2 t ok
 | .call {callee:=.builtin b,args,argTypes}=>mZ P S o b args.toList argTypes.toList
 |_=>.no
theorem Lp(P:Program)(S:St)(o:Oper)(h:iB S o=true):aN P S o (dP P S o):=by
 unfold iB at h;unfold dP;have one:∀{l:List Operand},jW S l=true->∀x∈l,(S.ar x).1=true:=wW;split
 ·rename_i x E;simp only[E]at h;exact Ll P S o x (.inl E) (one h x (by simp[Op.operands]))
 ·rename_i x E;simp only[E]at h;exact Ll P S o x (.inr E) (one h x (by simp[Op.operands]))
 ·rename_i c a b E;exact aeo P S o c a b E
 ·rename_i t E;exact Vo P S o t E
 ·rename_i t x E;simp only[E]at h;exact afV P S o t x E (one h x (by simp[Op.operands]))
 ·rename_i t x E;simp only[E]at h;exact (Pd P S o t x E (one h x (by simp[Op.operands]))).res
 ·rename_i t p x E;simp only[E]at h;exact Ze P S o t p x E (one h p (by simp[Op.operands])) (one h x (by simp[Op.operands]))
 ·rename_i s x f E;simp only[E]at h;exact Zl P S o s x f E (one h x (by simp[Op.operands]))
 ·rename_i x E;simp only[E]at h;exact OG P S o x E (one h x (by simp[Op.operands]))
 ·rename_i t x i E;simp only[E]at h;exact Zm P S o t x i E (one h x (by simp[Op.operands])) (one h i (by simp[Op.operands]))
 ·rename_i t x i E;simp only[E]at h;exact Vg P S o t x i E (one h x (by simp[Op.operands])) (one h i (by simp[Op.operands]))
 ·rename_i t x lo hi E;simp only[E]at h;exact Zp P S o t x lo hi E (one h x (by simp[Op.operands])) (λy AF=>one h y (by simp[Op.operands,AF])) (λy AF=>one h y (by simp[Op.operands,AF]))
 ·rename_i op t x y AU E;simp only[E]at h;exact Vk P S o op t AU x y E (one h x (by simp[Op.operands])) (one h y (by simp[Op.operands]))
 ·rename_i op t x E;simp only[E]at h;exact alv P S o op t x E (one h x (by simp[Op.operands]))
 ·rename_i s d x E;simp only[E]at h;exact Zs P S o s d x E (one h x (by simp[Op.operands]))
 ·rename_i t x E;simp only[E]at h;exact Lf P S o t x E (one h x (by simp[Op.operands]))
 ·rename_i f first cap E;simp only[E]at h;exact OH P S o f first cap E (λx M=>one h x (by simp[Op.operands];left;simpa using M)) (λx M=>one h x (by simp[Op.operands];right;simpa using M))
 ·rename_i t l c E;simp only[E]at h;exact aek P S o t l c E (one h l (by simp[Op.operands])) (one h c (by simp[Op.operands]))
 ·rename_i t ps E;simp only[E]at h;exact Zq P S o t ps E (λx M=>one h x.2 (by simp only[Op.operands,List.toList_toArray,acF];exact⟨x,M,rfl⟩))
 ·rename_i t len ps E;simp only[E]at h;exact Kf P S o t len ps E (λx M=>one h x.2 (by simp only[Op.operands,List.toList_toArray,acF];exact⟨x,M,rfl⟩))
 ·rename_i x i E;simp only[E]at h;exact Sg P S o x i E (one h x (by simp[Op.operands]))
 ·rename_i s x f E;simp only[E]at h;exact Vq P S o s x f E (one h x (by simp[Op.operands]))
 ·rename_i x BN t ok E;simp only[E]at h;exact Vs P S o x BN t ok E (one h x (by simp[Op.operands]))
 ·rename_i b args ts E;simp only[E]at h;have AP:∀x∈args.toList,(S.ar x).1=true:=λx M=>one h x (by simp[Op.operands,Call.operands];simpa using M);have Aw:∀{l:List Operand},args.toList=l->args=l.toArray:=λh=>by rw[<-h]
  have Ax:∀{l:List TypeId},ts.toList=l->ts=l.toArray:=λh=>by rw[<-h]
  unfold mZ;split
  ·rename_i x t H O;rw[Aw H,Ax O]at E;exact agc P S o x t E (AP x (by simp[H]))
  ·rename_i s x t u H O;rw[Aw H,Ax O]at E;exact Zr <| af7 P S o s x t u E (AP s (by simp[H])) (AP x (by simp[H]))
  ·rename_i s x t u H O;rw[Aw H,Ax O]at E;exact ael P S o s x t u E (AP s (by simp[H])) (AP x (by simp[H]))
  ·exact Vi P S o true args ts (by simpa using E) AP
  ·exact Vi P S o false args ts (by simpa using E) AP
  ·rename_i x t H O;rw[Aw H,Ax O]at E;exact agi P S o x t E (AP x (by simp[H]))
  ·trivial
 ·trivial
inductive XE where
 |normal
 |exit (id:Nat)
 |ret
 |panic (t:TypeId) (x:D)
def px(n:Nat)(φ:cd)(G:Fr)(m:Mem)(w:World)(Q:XE->St->Prop):Exit->Act->World->Prop
 | .normal,U,w'=>∃φ' J,J.n=n/\Q .normal J/\Rel φ' G J U w'/\aZ φ m w φ' J.mem w'
 | .exit id,U,w'=>∃φ' J,J.n=n/\Q (.exit id) J/\Rel φ' G J U w'/\aZ φ m w φ' J.mem w'
 | .ret,U,w'=>∃φ' J,J.n=n/\Q .ret J/\Rel φ' G J U w'/\aZ φ m w φ' J.mem w'
 | .panic chain,U,w'=>∃φ' J t x v,chain=[{v:=.iface t v,recovered:=false}]/\aQ w' (Fo G φ' J.mem) x v/\J.n=n/\Q (.panic t x) J/\Rel φ' G J U w'/\aZ φ m w φ' J.mem w'
 |_,_,_=>False
theorem px.weaken{n φ G m w Q A_ BZ AQ e U w'}(V:aZ φ m w A_ BZ AQ)(h:px n A_ G BZ AQ Q e U w'):px n φ G m w Q e U w':=by
 cases e with
 |normal=>obtain⟨φ',J,A1,H,O,A2⟩:=h;exact⟨φ',J,A1,H,O,V.trans A2⟩
 |exit id=>obtain⟨φ',J,A1,H,O,A2⟩:=h;exact⟨φ',J,A1,H,O,V.trans A2⟩
 |ret=>obtain⟨φ',J,A1,H,O,A2⟩:=h;exact⟨φ',J,A1,H,O,V.trans A2⟩
 |panic chain=>obtain⟨φ',J,t,x,v,T,Y,A1,H,O,A2⟩:=h;exact⟨φ',J,t,x,v,T,Y,A1,H,O,V.trans A2⟩
 |_=>exact h.elim
theorem px.mono{n φ G m w Q Ao e U w'}(AD:∀e S,Q e S->Ao e S)(h:px n φ G m w Q e U w'):px n φ G m w Ao e U w':=by
 cases e with
 |normal=>obtain⟨φ',J,A1,H,O⟩:=h;exact⟨φ',J,A1,AD _ _ H,O⟩
 |exit id=>obtain⟨φ',J,A1,H,O⟩:=h;exact⟨φ',J,A1,AD _ _ H,O⟩
 |ret=>obtain⟨φ',J,A1,H,O⟩:=h;exact⟨φ',J,A1,AD _ _ H,O⟩
 |panic chain=>obtain⟨φ',J,t,x,v,T,Y,A1,H,O⟩:=h;exact⟨φ',J,t,x,v,T,Y,A1,AD _ _ H,O⟩
 |_=>exact h.elim
def qv(P:Program)(c:Code)(S:St)(Q:XE->St->Prop):Prop:=
 ∀φ G a w,Rel φ G S a w->c.wp P (px S.n φ G S.mem w Q) a w
def qV(all:List Oper)(S:St)(j:Nat):Option (Bool×AV):=
 match all[j]? with
 |some o=>match o.dst with
  |some t=>Env.lk S.env t
  |none=>none
 |none=>none
def lB(n:Nat)(ops:List Oper):Bool:=ops.all λo=>match o.dst with|some t=>decide (t<n)|none=>true
theorem nW(S:St)(d g x):(S.put d g x).n=S.n:=by cases d<;>rfl
theorem gz(S:St)(d g x):(S.put d g x).mem=S.mem:=by cases d<;>rfl
theorem FL.step{P:Program}{o:Oper}{a:Act}{w w':World}{v:Value}{next R}(h:FL P o a w v w')(Z:next (a.put o.dst v) w'):o.wp P a w next R:=by
 unfold Oper.wp;rcases h with h|⟨h,rfl⟩<;>rw[h]<;>exact Z
theorem Rel.grow{φ G S a w w'}(h:Rel φ G S a w)(hold:∀b,b<w.heap.size->w'.heap[b]?=w.heap[b]?)(A9:w.heap.size<=w'.heap.size):Rel φ G S a w':=
 ⟨h.size,h.defers,λt x M=>(h.env t x M).mono (cd.le_refl _) (λb AB _=>hold b AB) A9 (λ_ _ h=>h),h.mem.grow hold A9,h.mm.mono (λb AB _=>hold b AB) A9 (λ_ _ h=>h)⟩
theorem Zt{P:Program}{S:St}{o:Oper}{c:Bool}{x:AV}{gb:Bool}(I:aN P S o (.val c x))(T:c=true){φ G a w}(h:Rel φ G S a w)(Y:∀t,o.dst=some t->t<S.n){next:Act->World->Prop}{R}
 (Z:∀U w',Rel φ G (S.put o.dst gb x) U w'->aZ φ S.mem w φ S.mem w'->next U w'):o.wp P a w next R:=by
 obtain⟨v,w',BO,A4,hold,A9,BK,A7,C1⟩:=I T φ G a w h;exact BO.step (Z _ _ ((h.grow hold A9).put o.dst Y gb x v (λ_=>A4)) (aZ.grow hold A9 BK A7 C1))
theorem Zu{P:Program}{S:St}{o:Oper}{c:Bool}{x:AV}{e:dk}(I:aN P S o (.dJ c x e))(T:c=true){φ G a w}(h:Rel φ G S a w)(Y:∀t,o.dst=some t->t<S.n){next:Act->World->Prop}{R}
 (Z:∀φ' U w',Rel φ' G (({S with mem:=Mem.set S.mem e}:St).put o.dst true x) U w'->aZ φ S.mem w φ' (Mem.set S.mem e) w'->next U w'):o.wp P a w next R:=by
 obtain⟨v,w',φ',BO,A4,hm,V,_⟩:=I T φ G a w h;exact BO.step (Z φ' _ _ ((h.Bk hm V).put o.dst Y true x v (λ_=>A4)) V)
theorem Vt{all:List Oper}{S:St}{j:Nat}{b:Bool}{φ G a w}(h:Rel φ G S a w)(A3:qV all S j=some (true,.d (.bool b))):yielded all.toArray a.tmps j=some b:=by
 unfold qV at A3;split at A3
 ·rename_i o E;split at A3
  ·rename_i t A7;have:=vi (h.env t _ A3);unfold yielded;simp only[agl,E,ad0,A7];rw[acH]at this;cases AD:a.tmps[t]? with
   |none=>simp[AD,undef]at this
   |some v=>simp[AD]at this;simp[this]
  ·cases A3
 ·cases A3
section
variable {P:Program} {S:St} {Q:XE->St->Prop}
theorem qv.mono{c:Code}{Ao:XE->St->Prop}(h:qv P c S Q)(AD:∀e S,Q e S->Ao e S):qv P c S Ao:=
 λφ G a w I=>wp_mono (h φ G a w I) λ_ _ _ A'=>A'.mono AD
def St.prune(S:St)(sj:List Nat):St:={S with env:=sj.filterMap λt=>(Env.lk S.env t).map λx=>(t,x)}
theorem vQ(env:Env):∀(sj:List Nat)(t:Nat)(x:Bool×AV),Env.lk (sj.filterMap λt=>(Env.lk env t).map λx=>(t,x)) t=some x->Env.lk env t=some x
 |[],t,x,h=>by simp[Env.lk]at h
 |k::r,t,x,h=>by
  simp only[List.filterMap_cons]at h;cases V:Env.lk env k with
  |none=>simp[V]at h;exact vQ env r t x h
  |some y=>
   simp only[V,agP,Env.lk]at h;by_cases B_:k=t
   ·subst B_;simp at h;subst h;exact V
   ·simp[B_]at h;exact vQ env r t x h
theorem Rel.prune{φ G a w}(h:Rel φ G S a w)(sj:List Nat):Rel φ G (S.prune sj) a w:=
 ⟨h.size,h.defers,λt x M=>h.env t x (vQ _ _ _ _ M),h.mem,h.mm⟩
theorem Ps{x y:Code}(h:qv P x S λe J=>match e with| .normal=>qv P y J Q|e=>Q e J):qv P (.seq x y) S Q:=by
 intro φ G a w I;refine wp_seq (wp_mono (h φ G a w I) λe U w' A'=>?_);cases e with
 |normal=>
  obtain⟨φ',J,Z,H,O,A2⟩:=A';exact wp_mono (H φ' G U w' O) λe a2 Ap Ba=>by rw[Z]at Ba;exact Ba.weaken A2
 |_=>exact A'
theorem Lq{c:Operand}{x y:Code}{b:Bool}(T:S.ar c=(true,.d (.bool b)))(A7:b=true->qv P x S Q)(C2:b=false->qv P y S Q):qv P (.cond c x y) S Q:=by
 intro φ G a w I;have AA:=I.ar c (by rw[T]);rw[T]at AA;have e:=vi AA;cases b
 ·exact wp_cond_false e (C2 rfl φ G a w I)
 ·exact wp_cond_true e (A7 rfl φ G a w I)
theorem Zv(h:Q .normal S):qv P .skip S Q:=λφ _ _ _ I=>wp_skip ⟨φ,S,rfl,h,I,aZ.refl ..⟩
theorem aeq(h:Q .ret S):qv P .ret S Q:=λφ _ _ _ I=>wp_ret ⟨φ,S,rfl,h,I,aZ.refl ..⟩
theorem Zw{id:Nat}(h:Q (.exit id) S):qv P (.exit id) S Q:=λφ _ _ _ I=>wp_exit ⟨φ,S,rfl,h,I,aZ.refl ..⟩
theorem BG{id:Nat}{c:Code}(h:qv P c S λe J=>match e with| .exit Ay=>if Ay=id then Q .normal J else Q (.exit Ay) J|e=>Q e J):qv P (.block id c) S Q:=by
 intro φ G a w I;refine wp_block (wp_mono (h φ G a w I) λe U w' A'=>?_);cases e with
 |exit Ay=>
  obtain⟨φ',J,Z,H,O,A2⟩:=A';simp only[Exit.inBlock];by_cases hid:Ay=id
  ·simp only[hid,adZ]at H⊢;exact⟨φ',J,Z,H,O,A2⟩
  ·simp only[hid,adY]at H⊢;exact⟨φ',J,Z,H,O,A2⟩
 |_=>exact A'
theorem Zx{c:Code}{α:Type}(AK:α->St)(Az:α->Prop)(B':α->Nat)(Aa:α)(C3:S=AK Aa)(A1:Az Aa)
 (round:∀x,Az x->qv P c (AK x) λe J=>match e with| .normal=>∃Ae,J=AK Ae/\Az Ae/\B' Ae<B' x|e=>Q e J):qv P (.loop c) S Q:=by
 intro φ G a w I;subst C3;intro b k cs;have key:∀n x A_ B0 AQ,B' x=n->Az x->(AK x).n=(AK Aa).n->Rel A_ G (AK x) B0 AQ->aZ φ (AK Aa).mem w A_ (AK x).mem AQ->
  ∃e U w',px (AK Aa).n φ G (AK Aa).mem w Q e U w'/\Arrives P (lone (b.at B0 (.code c::.inLoop c::k)) cs AQ) b k cs e U w':=by
  intro n;induction n using Nat.strongRecOn with
  |_ n ih=>
   intro x A_ B0 AQ Z C4 B1 AL B2;obtain⟨e,a2,Ap,A',Af⟩:=round x C4 A_ G B0 AQ AL b (.inLoop c::k) cs;cases e with
   |normal=>
    obtain⟨BB,CJ,C5,⟨Ae,rfl,C6,CK⟩,B7,C7⟩:=A';obtain⟨C9,a3,CA,CB,CC⟩:=ih (B' Ae) (by omega) Ae BB a2 Ap rfl C6 (C5.trans B1) B7 (B2.trans C7);exact⟨C9,a3,CA,CB,.of_steps (Steps.trans Af (.one step_inLoop)) CC⟩
   |exit id=>exact⟨.exit id,a2,Ap,by rw[B1]at A';exact px.weaken (e:=.exit id) B2 A',.pass (x:=.inLoop c) rfl (λ_ _=>.inl (by simp)) Af⟩
   |goto l=>exact A'.elim
   |ret=>exact⟨.ret,a2,Ap,by rw[B1]at A';exact px.weaken (e:=.ret) B2 A',.pass (x:=.inLoop c) rfl (λ_ _=>.inl (by simp)) Af⟩
   |panic ch=>exact⟨.panic ch,a2,Ap,by rw[B1]at A';exact px.weaken (e:=.panic ch) B2 A',.pass (x:=.inLoop c) rfl (λ_ _=>.inl (by simp)) Af⟩
   |outgrown=>exact A'.elim
 obtain⟨e,U,w',AD,Af⟩:=key _ Aa φ a w rfl A1 rfl I (aZ.refl ..);exact⟨e,U,w',AD,.of_steps (.one step_loop) Af⟩
end
inductive Out where
 |ret (x:AV)
 |panic (t:TypeId) (x:D)
def pI(φ:cd)(w:World)(F:Nat->Prop):Out->Ending->Prop
 | .ret x,.returned v=>aG φ w F x v
 | .panic t x,.panicked chain=>∃v,chain=[{v:=.iface t v,recovered:=false}]/\aQ w F x v
 |_,_=>False
def Ev(P:Program)(gl:List (Nat×D))(f:FuncId)(args:List AV)(m:Mem)(K:Out->Mem->Prop):Prop:=
 ∀φ G w (vs:Array Value),bz φ G m w->fL w (Fo G φ m) gl->args.length=vs.size->(∀(i:Nat) x v,args[i]?=some x->vs[i]?=some v->aG φ w (Fo G φ m) x v)->
  Calls P f vs w λe w'=>∃φ' m' out,K out m'/\bz φ' G m' w'/\aZ φ m w φ' m' w'/\pI φ' w' (Fo G φ' m') out e
theorem Ev.mono{P gl f args m K K'}(h:Ev P gl f args m K)(H:∀o m,K o m->K' o m):Ev P gl f args m K':=
 λφ G w vs hm I A5 Ae=>(h φ G w vs hm I A5 Ae).mono λ_ _ ⟨φ',m',out,O,V⟩=>⟨φ',m',out,H _ _ O,V⟩
def mg:List Nat->Nat->Nat->Option Nat
 |[],_,_=>none
 |a::r,k,i=>if a=k then some i else mg r k (i+1)
theorem zO:∀{ρ:List Nat}{k j i:Nat},mg ρ k j=some i->j<=i/\ρ[i-j]?=some k
 |[],k,j,i,h=>by simp[mg]at h
 |a::r,k,j,i,h=>by
  simp only[mg]at h;split at h
  ·rename_i H;cases h;subst H;simp
  ·obtain⟨O,V⟩:=zO h;refine⟨by omega,?_⟩;rw[show i-j=(i-(j+1))+1 by omega];simpa using V
theorem lC:∀{ρ:List Nat}{k j:Nat},mg ρ k j=none↔k∉ρ
 |[],k,j=>by simp[mg]
 |a::r,k,j=>by
  simp only[mg,aco,akN];split
  ·rename_i H;subst H;simp
  ·rename_i H;rw[lC];constructor
   ·exact λh=>⟨λAf=>H Af.symm,h⟩
   ·exact λh=>h.2
theorem Vu{ρ:List Nat}(AE:ρ.Nodup){i k:Nat}(h:ρ[i]?=some k):mg ρ k 0=some i:=by
 cases AC:mg ρ k 0 with
 |none=>exact absurd (acu h) (lC.1 AC)
 |some j=>
  obtain⟨_,V⟩:=zO AC;simp only[Nat.sub_zero]at V;obtain⟨hi,AF⟩:=ace.1 h;obtain⟨T,AK⟩:=ace.1 V;have:=(List.getElem_inj AE).1 (AF.trans AK.symm);rw[this]
def wZ:List AV->Option (List D)
 |[]=>some []
 | .d x::r=>match x.flat,wZ r with
  |true,some AS=>some (x::AS)
  |_,_=>none
 |_::_=>none
theorem IV:∀{l:List AV}{Y:List D},wZ l=some Y->l=Y.map .d/\∀d∈Y,d.flat=true
 |[],Y,h=>by simp[wZ]at h;subst h;simp
 |x::r,Y,h=>by
  unfold wZ at h;split at h
  ·rename_i heq;cases heq
  ·rename_i y B7 heq;cases heq;split at h
   ·rename_i AS AC Ag;cases h;obtain⟨O,V⟩:=IV Ag;refine⟨by rw[O];rfl,λd A'=>?_⟩;rcases aco.1 A' with rfl|A'
    ·exact AC
    ·exact V d A'
   ·cases h
  ·cases h
def Zy:Option (List D)->AV
 |some Y=>.d (.list Y)
 |none=>.bm
mutual
def vw(m:Mem)(ρ:List Nat)(bor:Nat->Bool)(nv:Nat->Nat->Nat):AV->AV
 | .ptr k aq off=>match Mem.get m k,mg ρ k 0 with
  |some e,some i=>if e.aq=aq then .ptr i (nv i aq) off else .bm
  |_,_=>.bm
 | .vec k aq off len=>match Mem.get m k,mg ρ k 0 with
  |some e,some i=>if e.aq=aq then .vec i (nv i aq) off len else .bm
  |some ⟨_,v,.vec _ aj⟩,none=>if bor k=true/\v=aq/\off+len<=aj.length then .d (.list ((aj.drop off).take len))else .bm
  |some ⟨_,v,.box cs⟩,none=>if bor k=true/\v=aq/\off+len<=cs.length then Zy (wZ ((cs.drop off).take len))else .bm
  |_,_=>.bm
 | .di k aq i j=>match Mem.get m k,mg ρ k 0 with
  |some e,some n=>if e.aq=aq then .di n (nv n aq) i j else .bm
  |_,_=>.bm
 | .agg cs=>.agg (tI m ρ bor nv cs)
 | .fn f cap=>.fn f (tI m ρ bor nv cap)
 | .bh vs=>.bh (tI m ρ bor nv vs)
 | .bm=>.bm
 | .d x=>.d x
 | .eH x j=>.eH x j
 | .jb t x=>.jb t x
 | .lit v=>.lit v
 | .nn=>.nn
 | .err=>.err
def tI(m:Mem)(ρ:List Nat)(bor:Nat->Bool)(nv:Nat->Nat->Nat):List AV->List AV
 |[]=>[]
 |x::r=>vw m ρ bor nv x::tI m ρ bor nv r
end
theorem vj(m ρ bor nv):∀(l:List AV)(i:Nat),(tI m ρ bor nv l)[i]?=(l[i]?).map (vw m ρ bor nv)
 |[],i=>by simp[tI]
 |x::r,i=>by cases i with|zero=>simp[tI]|succ i=>simp[tI,vj m ρ bor nv r i]
theorem m4(m ρ bor nv):∀(l:List AV),(tI m ρ bor nv l).length=l.length
 |[]=>rfl
 |x::r=>by simp[tI,m4 m ρ bor nv r]
def cd.jC(φ:cd)(ρ:List Nat)(nv:Nat->Nat->Nat):cd:=λi=>
 match ρ[i]? with
 |some k=>(φ k).map λL=>{L with aq:=nv i L.aq}
 |none=>none
def BH(φ:cd)(m:Mem)(ρ:List Nat)(b:Nat):Prop:=∃k∈ρ,∃e L,Mem.get m k=some e/\φ k=some L/\e.cont.dz L b
theorem BH.own{φ m ρ b}(h:BH φ m ρ b):jT φ m b:=by
 obtain⟨k,_,e,L,I,E,A2⟩:=h;obtain⟨hm,rfl⟩:=Mem.get_mem I;exact⟨e,hm,L,E,A2⟩
theorem FY{φ G m w}(h:bz φ G m w){ρ:List Nat}{k:Nat}{e:dk}{L:Loc}{b:Nat}(I:Mem.get m k=some e)(E:φ k=some L)(A2:e.cont.dz L b)(H:k∉ρ):¬BH φ m ρ b:=by
 rintro ⟨Ah,AG,e',L',Ai,M,Aj⟩;obtain⟨hm,rfl⟩:=Mem.get_mem I;obtain⟨Ak,rfl⟩:=Mem.get_mem Ai;have:=h.apart e' Ak e hm L' L M E ⟨b,Aj,A2⟩;exact H (this▸AG)
section
variable {φ:cd} {G:Fr} {m:Mem} {w:World} {ρ:List Nat} {bor:Nat->Bool} {nv:Nat->Nat->Nat} {AH:Nat->Prop}
theorem HV{k i:Nat}{L:Loc}(hi:mg ρ k 0=some i)(E:φ k=some L):φ.jC ρ nv i=some {L with aq:=nv i L.aq}:=by
 obtain⟨_,V⟩:=zO hi;simp only[Nat.sub_zero]at V;simp[cd.jC,V,E]
theorem agn(hm:bz φ G m w)(A4:∀b,AH b->Fo G φ m b)
 (AI:∀k e L b,Mem.get m k=some e->k∉ρ->bor k=true->φ k=some L->e.cont.dz L b->¬AH b) {y v} (h:aG φ w (Fo G φ m) y v):aG (φ.jC ρ nv) w AH (vw m ρ bor nv y) v:=by
 induction h with
 |bm v=>exact .bm v
 |d x v h=>exact .d x v (h.mono (λ_ _ _=>rfl) (ack _) (λb _=>A4 b))
 |agg cs a A5 O _ ih=>
  refine .agg _ a (by rw[m4];exact A5) O (λi c v J U=>?_);rw[vj]at J;obtain⟨y,A6,rfl⟩:=acp.1 J;exact ih i y v A6 U
 |ptr k aq off v L E U h O=>
  unfold vw;split
  ·rename_i e i I hi;split
   ·rename_i he;obtain⟨_,_,L',M,Z,_⟩:=hm.get I;rw[E]at M;cases M;have A8:L.aq=aq:=by rw[Z];exact he
    refine .ptr i _ off v _ (HV hi E) (by simp[A8]) (λ_=>h A8.symm) O
   ·exact .bm _
  ·exact .bm _
 |vec k aq off len v L E U h O=>
  unfold vw;split
  ·rename_i e i I hi;split
   ·rename_i he;obtain⟨_,_,L',M,Z,_⟩:=hm.get I;rw[E]at M;cases M;have A8:L.aq=aq:=by rw[Z];exact he
    refine .vec i _ off len v _ (HV hi E) (by simp[A8]) (λ_=>h A8.symm) O
   ·exact .bm _
  ·rename_i key AD sz aj I hi;split
   ·rename_i J;obtain⟨AA,rfl,hle⟩:=J;obtain⟨_,_,L',M,Z,A0⟩:=hm.get I;rw[E]at M;cases M;refine .d _ _ (EC (.vec k AD off len v L E U h O) E Z A0 hle A4 (λA2=>?_));exact AI k _ L _ I (lC.1 hi) AA E ⟨A2,rfl⟩
   ·exact .bm _
  ·rename_i key AD cs I hi;split
   ·rename_i J;obtain⟨AA,rfl,hle⟩:=J;obtain⟨_,_,L',M,Z,A0⟩:=hm.get I;rw[E]at M;cases M;obtain⟨⟨Al,z2,z3⟩,arr,elem,AT,B8,An,Ao⟩:=A0;cases Ap:wZ ((cs.drop off).take len)with
    |none=>exact .bm _
    |some Y=>
     obtain⟨AU,Aq⟩:=IV Ap;obtain⟨ao,cap,rfl,B9,AW⟩:=h Z.symm;have Ar:Y.length=len:=by
      have:=aga List.length AU;simp at this;omega
     refine .d _ _ ?_;by_cases AL:len=0
     ·have:Y=[]:=acL (by omega);subst this;subst AL;refine .nil _ _ (λAE=>?_);cases cap with
      |zero=>rfl
      |succ c=>have:=(AW (by omega)).1;rw[AE]at this;cases this
     ·obtain⟨rfl,_⟩:=AW (by omega);rw[<-Ar];have AX:∀(i:Nat) d,Y[i]?=some d->∃u,arr[off+i]?=some u/\aQ w AH d u/\cS u=true:=by
       intro i d A';have hi:i<Y.length:=(ace.1 A').1;have As:cs[off+i]?=some (.d d):=by
        have:=aga (·[i]?) AU;simp only[adB,adR,adD,A']at this;rw[acs (by omega)]at this;simpa using this
       have AY:off+i<arr.size:=by omega
       have AM:=Ao (off+i) _ arr[off+i] As (by simp[AY]);cases AM with
       |d _ _ AM=>exact⟨_,by simp[AY],AM.mono (λ_ _ _=>rfl) (ack _) (λb _=>A4 b),An _ (by simp)⟩
      have At:L.en<w.heap.size:=AT.lt;refine .list Y _ _ cap 1 (λi=>(arr[off+i]?).getD undef) (by omega) At (AI k _ L _ I (lC.1 hi) AA E rfl) (λd A'=>?_) (λi d A'=>?_) (λi j c Au T=>?_)
      ·have:=Aq d A';cases d<;>simp_all [D.flat,D.size]
      ·obtain⟨u,O,V,_⟩:=AX i d A';simp only[O,af9];exact V
      ·obtain⟨u,O,V,AF⟩:=AX i Y[i] (by simp[Au]);simp only[O,af9,eU AF]at T;have Av:j=0:=by
        have:=(ad5.1 T).1;simpa using this
       subst Av;simp at T;subst T;rw[iJ AT,Al,z2];simpa using O
   ·exact .bm _
  ·exact .bm _
 |di k aq i j v L E U h O=>
  unfold vw;split
  ·rename_i e n I hi;split
   ·rename_i he;obtain⟨_,_,L',M,Z,_⟩:=hm.get I;rw[E]at M;cases M;have A8:L.aq=aq:=by rw[Z];exact he
    refine .di n _ i j v _ (HV hi E) (by simp[A8]) (λ_=>h A8.symm) O
   ·exact .bm _
  ·exact .bm _
 |eH x j b off Aw AA Ax AN J=>
  exact .eH x j b off Aw AA (λh=>Ax (A4 b h)) (AN.mono (λ_ _ _=>rfl) (ack _) (λb _=>A4 b)) J
 |fn f cap a AC A5 _ ih=>
  refine .fn f _ a AC (by rw[m4];exact A5) (λi c v J U=>?_);rw[vj]at J;obtain⟨y,A6,rfl⟩:=acp.1 J;exact ih i y v A6 U
 |uD f cap a A5 _ ih=>
  refine .uD f _ a (by rw[m4];exact A5) (λi c v J U=>?_);rw[vj]at J;obtain⟨y,A6,rfl⟩:=acp.1 J;exact ih i y v A6 U
 |bh vs a A5 _ ih=>
  refine .bh _ a (by rw[m4];exact A5) (λi c v J U=>?_);rw[vj]at J;obtain⟨y,A6,rfl⟩:=acp.1 J;exact ih i y v A6 U
 |jb t x v h=>exact .jb t x v (h.mono (λ_ _ _=>rfl) (ack _) (λb _=>A4 b))
 |lit v h=>exact .lit v h
 |nn a cap=>exact .nn a cap
 |err t v=>exact .err t v
end
def ej:Nat->List (Nat×aJ)->Mem
 |_,[]=>[]
 |i,(v,c)::r=>⟨i,v,c⟩::ej (i+1) r
theorem sk:∀(l:List (Nat×aJ))(i:Nat),(ej i l).map (·.key)=List.range' i l.length
 |[],i=>rfl
 |(v,c)::r,i=>by simp[ej,sk r,ai0]
theorem mA:∀{l:List (Nat×aJ)}{i:Nat}{e:dk},e∈ej i l↔∃j v c,l[j]?=some (v,c)/\e=⟨i+j,v,c⟩
 |[],i,e=>by simp[ej]
 |(v,c)::r,i,e=>by
  simp only[ej,aco,mA (l:=r)];constructor
  ·rintro (rfl|⟨j,AD,AO,h,rfl⟩)
   ·exact⟨0,v,c,by simp,by simp⟩
   ·exact⟨j+1,AD,AO,by simpa using h,by simp;omega⟩
  ·rintro ⟨j,AD,AO,h,rfl⟩;cases j with
   |zero=>simp at h;obtain⟨rfl,rfl⟩:=h;left;simp
   |succ j=>right;exact⟨j,AD,AO,by simpa using h,by simp;omega⟩
def yg(m:Mem)(ρ:List Nat)(bor:Nat->Bool)(nv:Nat->Nat->Nat):aJ->aJ
 | .dead=>.dead
 | .box cs=>.box (tI m ρ bor nv cs)
 | .vec sz aj=>.vec sz aj
 | .vv aj y=>.vv aj (y.map (vw m ρ bor nv))
def yh(m:Mem)(ρ:List Nat)(bor:Nat->Bool)(nv:Nat->Nat->Nat)(i:Nat):Option dk->Nat×aJ
 |some e=>(nv i e.aq,yg m ρ bor nv e.cont)
 |none=>(0,.dead)
def fo(m:Mem)(ρ:List Nat)(bor:Nat->Bool)(nv:Nat->Nat->Nat):Nat->List Nat->List (Nat×aJ)
 |_,[]=>[]
 |i,k::r=>yh m ρ bor nv i (Mem.get m k)::fo m ρ bor nv (i+1) r
theorem zP(m ρ bor nv):∀(l:List Nat)(i j:Nat),(fo m ρ bor nv i l)[j]?=(l[j]?).map λk=>yh m ρ bor nv (i+j) (Mem.get m k)
 |[],i,j=>by simp[fo]
 |k::r,i,j=>by
  cases j with
  |zero=>simp[fo]
  |succ j=>simp[fo,zP m ρ bor nv r (i+1) j,adO,Nat.add_comm 1 j]
theorem sX(m ρ bor nv):∀(l:List Nat)(i:Nat),(fo m ρ bor nv i l).length=l.length
 |[],i=>rfl
 |k::r,i=>by simp[fo,sX m ρ bor nv r]
theorem xc{m ρ bor nv L c b}:(yg m ρ bor nv c).dz L b↔c.dz L b:=by cases c<;>exact apj
theorem lS{L:Loc}{c:aJ}{v b:Nat}:c.dz {L with aq:=v} b↔c.dz L b:=by cases c<;>exact apj
section
variable {φ:cd} {G G1:Fr} {m:Mem} {w:World} {ρ:List Nat} {bor:Nat->Bool} {nv:Nat->Nat->Nat}
theorem yM(AJ:∀k∈ρ,(Mem.get m k).isSome=true)(b:Nat):jT (φ.jC ρ nv) (ej 0 (fo m ρ bor nv 0 ρ)) b↔BH φ m ρ b:=by
 constructor
 ·rintro ⟨e,he,L,E,A2⟩;obtain⟨j,v,c,T,rfl⟩:=mA.1 he;rw[zP]at T;obtain⟨k,H,AB⟩:=acp.1 T;simp only[aeh,cd.jC,H,acp]at E;obtain⟨A3,A9,rfl⟩:=E;have AZ:=acu H;have:=AJ k AZ;obtain⟨A1,A7⟩:=akn.1 this;rw[A7]at AB;simp only[yh,adJ]at AB;obtain⟨rfl,rfl⟩:=AB;exact⟨k,AZ,A1,A3,A7,A9,lS.1 (xc.1 A2)⟩
 ·rintro ⟨k,H,e,L,I,E,A2⟩;obtain⟨j,T,rfl⟩:=apm.1 H;refine⟨⟨0+j,nv j e.aq,yg m ρ bor nv e.cont⟩,mA.2 ⟨j,_,_,?_,rfl⟩,{L with aq:=nv j L.aq},?_,xc.2 (lS.2 A2)⟩
  ·rw[zP];simp[T,I,yh]
  ·simp[cd.jC,T,E]
theorem C9(hm:bz φ G m w)(AE:ρ.Nodup)(AJ:∀k∈ρ,(Mem.get m k).isSome=true)(A_:∀b,G1 b->Fo G φ m b)(Ay:∀b,BH φ m ρ b->¬G1 b)
 (AI:∀k e L b,Mem.get m k=some e->k∉ρ->bor k=true->φ k=some L->e.cont.dz L b->¬G1 b):
 bz (φ.jC ρ nv) G1 (ej 0 (fo m ρ bor nv 0 ρ)) w/\(∀y v,aG φ w (Fo G φ m) y v->aG (φ.jC ρ nv) w (Fo G1 (φ.jC ρ nv) (ej 0 (fo m ρ bor nv 0 ρ))) (vw m ρ bor nv y) v)/\
  (∀b,Fo G1 (φ.jC ρ nv) (ej 0 (fo m ρ bor nv 0 ρ)) b->Fo G φ m b):=by
 have AP:=yM (φ:=φ) (nv:=nv) (bor:=bor) AJ;have A4:∀b,Fo G1 (φ.jC ρ nv) (ej 0 (fo m ρ bor nv 0 ρ)) b->Fo G φ m b:=by
  rintro b (h|h)
  ·exact A_ b h
  ·exact .inr ((AP b).1 h).own
 have AA:∀k e L b,Mem.get m k=some e->k∉ρ->bor k=true->φ k=some L->e.cont.dz L b->¬Fo G1 (φ.jC ρ nv) (ej 0 (fo m ρ bor nv 0 ρ)) b:=by
  rintro k e L b I H Az E A2 (h|h)
  ·exact AI k e L b I H Az E A2 h
  ·exact FY hm I E A2 H ((AP _).1 h)
 have AQ:∀y v,aG φ w (Fo G φ m) y v->aG (φ.jC ρ nv) w (Fo G1 (φ.jC ρ nv) (ej 0 (fo m ρ bor nv 0 ρ))) (vw m ρ bor nv y) v:=λy v h=>agn hm A4 AA h;have A':∀x v,aQ w (Fo G φ m) x v->aQ w (Fo G1 (φ.jC ρ nv) (ej 0 (fo m ρ bor nv 0 ρ))) x v:=λx v h=>h.mono (λ_ _ _=>rfl) (ack _) (λb _=>A4 b);have part:∀{e:dk},e∈ej 0 (fo m ρ bor nv 0 ρ)->∃j k A1 A3,ρ[j]?=some k/\Mem.get m k=some A1/\φ k=some A3/\A3.aq=A1.aq/\eV φ w (Fo G φ m) A3 A1.cont/\e=⟨j,nv j A1.aq,yg m ρ bor nv A1.cont⟩:=by
  intro e he;obtain⟨j,v,c,T,rfl⟩:=mA.1 he;rw[zP]at T;obtain⟨k,H,AB⟩:=acp.1 T;obtain⟨A1,A7⟩:=akn.1 (AJ k (acu H));rw[A7]at AB;simp only[yh,adJ,aeh]at AB;obtain⟨rfl,rfl⟩:=AB;obtain⟨_,_,A3,A9,Z,A0⟩:=hm.get A7;exact⟨j,k,A1,A3,H,A7,A9,Z,A0,by simp⟩
 refine⟨⟨?_,?_,?_,?_,?_,?_⟩,AQ,A4⟩
 ·rw[sk];exact List.nodup_range'
 ·intro i L E;rw[sk,sX];simp only[cd.jC]at E;split at E
  ·rename_i k H;have:=(ace.1 H).1;simp[List.mem_range'];omega
  ·cases E
 ·intro e he;obtain⟨j,k,A1,A3,H,A7,A9,Z,A0,rfl⟩:=part he;refine⟨{A3 with aq:=nv j A3.aq},by simp[cd.jC,H,A9],by simp[Z],?_⟩;cases J:A1.cont with
  |dead=>trivial
  |box cs=>
   rw[J]at A0;obtain⟨g0,arr,elem,g1,g2,g3,g4⟩:=A0;refine⟨by simpa [m4]using g0,arr,elem,g1,by simp[m4,g2],g3,λi c v Aa U=>?_⟩;rw[vj]at Aa;obtain⟨y,A6,rfl⟩:=acp.1 Aa;exact AQ y v (g4 i y v A6 U)
  |vec sz aj=>
   rw[J]at A0;obtain⟨g1,g2,g3,g4⟩:=A0;refine⟨g1,g2,g3,λAL=>?_⟩;obtain⟨arr,elem,f1,f2,f3,f4⟩:=g4 AL;exact⟨arr,elem,f1,f2,f3,λi d B'=>let ⟨v,U,T⟩:=f4 i d B';⟨v,A' _ _ U,T⟩⟩
  |vv aj y=>
   rw[J]at A0;exact (mj.mono (vw m ρ bor nv) A0 (λ_ _ _ _ u hu=>A' _ u hu) (λx _ v AN=>AQ x v AN) (λ_ _=>rfl)).aq _
 ·intro e he e' B0 L L' E M B1;obtain⟨j,k,A1,A3,H,A7,A9,Z,A0,rfl⟩:=part he;obtain⟨BA,Ah,B2,B3,AG,B4,Ab,BB,BC,rfl⟩:=part B0;simp only[cd.jC,H,A9,AG,Ab,agP,acE]at E M;subst E;subst M;obtain⟨B5,Ac⟩:=Mem.get_mem A7;obtain⟨B6,Ad⟩:=Mem.get_mem B4;have:=hm.apart A1 B5 B2 B6 A3 B3 (by rw[Ac];exact A9) (by rw[Ad];exact Ab) (B1.imp λb h=>⟨lS.1 (xc.1 h.1),lS.1 (xc.1 h.2)⟩);rw[Ac,Ad]at this;obtain⟨hi,AF⟩:=ace.1 H;obtain⟨T,AK⟩:=ace.1 AG;exact (List.getElem_inj AE).1 (AF.trans (this.trans AK.symm))
 ·exact λb AR=>Ay b ((AP b).1 AR)
 ·exact λb AR=>Ey hm b (A_ b AR)
end
mutual
def ke:D->Bool
 | .list (_::_)=>false
 | .list []=>true
 | .agg cs=>nA cs
 | .int _ _=>true
 | .bool _=>true
 | .str _=>true
 | .FH=>true
def nA:List D->Bool
 |[]=>true
 |x::r=>ke x&&nA r
end
theorem sY:∀{l:List D},nA l=true->∀x∈l,ke x=true
 |[],_,x,O=>by simp at O
 |y::r,h,x,O=>by
  simp only[nA,Ds]at h;rcases aco.1 O with rfl|O
  ·exact h.1
  ·exact sY h.2 x O
theorem aQ.plain{w w':World}{F F':Nat->Prop}{d v}(h:aQ w F d v)(U:ke d=true):aQ w' F' d v:=by
 induction h with
 |int k n=>exact .int k n
 |bool b=>exact .bool b
 |FH v h=>exact .FH v h
 |str b s h=>exact .str b s h
 |agg cs a A9 A_ _ ih=>
  refine .agg cs a A9 A_ (λi d v T Y=>ih i d v T Y (sY (by simpa only[ke]using U) d (acu T)))
 |nil a cap AA=>exact .nil a cap AA
 |list xs b off cap sz vs BR A5 BS BT Y M _=>
  cases xs with
  |nil=>exact .nil _ _ (by simp)
  |cons=>simp[ke]at U
mutual
def eB:AV->Bool
 | .d x=>ke x
 | .eH _ _=>false
 | .agg cs=>lU cs
 | .fn _ cap=>lU cap
 | .bh vs=>lU vs
 | .jb _ x=>ke x
 | .bm=>true
 | .ptr _ _ _=>true
 | .vec _ _ _ _=>true
 | .di _ _ _ _=>true
 | .lit _=>true
 | .nn=>true
 | .err=>true
def lU:List AV->Bool
 |[]=>true
 |x::r=>eB x&&lU r
end
theorem mB:∀{l:List AV},lU l=true->∀x∈l,eB x=true
 |[],_,x,O=>by simp at O
 |y::r,h,x,O=>by
  simp only[lU,Ds]at h;rcases aco.1 O with rfl|O
  ·exact h.1
  ·exact mB h.2 x O
def nr:aJ->Bool
 | .dead=>true
 | .box cs=>lU cs
 | .vec _ aj=>nA aj
 | .vv aj y=>aj.all nA&&(match y with|none=>true|some x=>eB x)
mutual
def up(ρ bs:List Nat):AV->AV
 | .ptr k aq off=>.ptr (ρ.getD k 0) (bs.getD k 0+aq) off
 | .vec k aq off len=>.vec (ρ.getD k 0) (bs.getD k 0+aq) off len
 | .di k aq i j=>.di (ρ.getD k 0) (bs.getD k 0+aq) i j
 | .agg cs=>.agg (xe ρ bs cs)
 | .fn f cap=>.fn f (xe ρ bs cap)
 | .bh vs=>.bh (xe ρ bs vs)
 | .bm=>.bm
 | .d x=>.d x
 | .eH x j=>.eH x j
 | .jb t x=>.jb t x
 | .lit v=>.lit v
 | .nn=>.nn
 | .err=>.err
def xe(ρ bs:List Nat):List AV->List AV
 |[]=>[]
 |x::r=>up ρ bs x::xe ρ bs r
end
theorem vk(ρ bs):∀(l:List AV)(i:Nat),(xe ρ bs l)[i]?=(l[i]?).map (up ρ bs)
 |[],i=>by simp[xe]
 |x::r,i=>by cases i with|zero=>simp[xe]|succ i=>simp[xe,vk ρ bs r i]
theorem m5(ρ bs):∀(l:List AV),(xe ρ bs l).length=l.length
 |[]=>rfl
 |x::r=>by simp[xe,m5 ρ bs r]
def F5(ρ bs:List Nat):aJ->aJ
 | .dead=>.dead
 | .box cs=>.box (xe ρ bs cs)
 | .vec sz aj=>.vec sz aj
 | .vv aj y=>.vv aj (y.map (up ρ bs))
def jX(ρ bs:List Nat):Nat->List (Nat×aJ)->List dk
 |_,[]=>[]
 |i,(v,c)::r=>⟨ρ.getD i 0,bs.getD i 0+v,F5 ρ bs c⟩::jX ρ bs (i+1) r
theorem tJ{ρ bs:List Nat}:∀{l:List (Nat×aJ)}{i:Nat}{e:dk},e∈jX ρ bs i l↔∃j v c,l[j]?=some (v,c)/\e=⟨ρ.getD (i+j) 0,bs.getD (i+j) 0+v,F5 ρ bs c⟩
 |[],i,e=>by simp[jX]
 |(v,c)::r,i,e=>by
  simp only[jX,aco,tJ (l:=r)];constructor
  ·rintro (rfl|⟨j,AK,AL,h,rfl⟩)
   ·exact⟨0,v,c,by simp,by simp⟩
   ·exact⟨j+1,AK,AL,by simpa using h,by rw[show i+(j+1)=i+1+j by omega]⟩
  ·rintro ⟨j,AK,AL,h,rfl⟩;cases j with
   |zero=>simp at h;obtain⟨rfl,rfl⟩:=h;left;simp
   |succ j=>right;exact⟨j,AK,AL,by simpa using h,by rw[show i+(j+1)=i+1+j by omega]⟩
theorem F6{ρ bs:List Nat}:∀(l:List (Nat×aJ))(i:Nat),(jX ρ bs i l).map (·.key)=(List.range' i l.length).map λj=>ρ.getD j 0
 |[],i=>rfl
 |(v,c)::r,i=>by simp[jX,F6 r,ai0]
def bS(m:Mem):List dk->Mem
 |[]=>m
 |e::r=>bS (Mem.set m e) r
theorem lV:∀(es:List dk)(m:Mem),(bS m es).map (·.key)=m.map (·.key)
 |[],m=>rfl
 |e::r,m=>by rw[bS,lV r,Mem.iI]
theorem F7:∀(es:List dk)(m:Mem),(m.map (·.key)).Nodup->(es.map (·.key)).Nodup->(∀e∈es,e.key∈m.map (·.key))->∀e,e∈bS m es↔e∈es\/(e∈m/\e.key∉es.map (·.key))
 |[],m,_,_,_,e=>by simp[bS]
 |x::r,m,hm,AA,A2,e=>by
  simp only[adM,List.nodup_cons]at AA;rw[bS,F7 r (Mem.set m x) (by rw[Mem.iI];exact hm) AA.2 (λe he=>by rw[Mem.iI];exact A2 e (by simp[he])),Mem.mem_set hm];have O:=A2 x (by simp);constructor
  ·rintro (h|⟨⟨rfl,_⟩|⟨h,V⟩,AN⟩)
   ·left;simp[h]
   ·left;simp
   ·right;exact⟨h,by simp only[adM,aco,akN];exact⟨V,AN⟩⟩
  ·rintro (h|⟨h,AN⟩)
   ·rcases aco.1 h with rfl|h
    ·right;exact⟨.inl ⟨rfl,O⟩,AA.1⟩
    ·left;exact h
   ·simp only[adM,aco,akN]at AN;right;exact⟨.inr ⟨h,AN.1⟩,AN.2⟩
def base(m:Mem)(d:Nat):List Nat->List Nat
 |[]=>[]
 |k::r=>(match Mem.get m k with|some e=>e.aq+d|none=>0)::base m d r
theorem ED(m:Mem)(d:Nat):∀(l:List Nat)(i:Nat),(base m d l)[i]?=(l[i]?).map λk=>match Mem.get m k with|some e=>e.aq+d|none=>0
 |[],i=>by simp[base]
 |k::r,i=>by cases i with|zero=>simp[base]|succ i=>simp[base,ED m d r i]
theorem sZ(m:Mem)(d:Nat):∀(l:List Nat),(base m d l).length=l.length
 |[]=>rfl
 |k::r=>by simp[base,sZ m d r]
def jk:Nat->Nat->Nat:=λ_ _=>0
def m6(φ:cd)(G:Fr)(m:Mem)(ρ B:List Nat):Fr:=⟨λb=>Fo G φ m b/\¬BH φ m ρ b/\¬BH φ m B b,[]⟩
section
variable {φ:cd} {G:Fr} {m:Mem} {w:World} {ρ B:List Nat}
theorem IW(hm:bz φ G m w)(AA:ρ.Nodup)(AT:∀k∈ρ,(Mem.get m k).isSome=true):
 bz (φ.jC ρ jk) (m6 φ G m ρ B) (ej 0 (fo m ρ (λk=>B.contains k) jk 0 ρ)) w/\
  (∀y v,aG φ w (Fo G φ m) y v->aG (φ.jC ρ jk) w (Fo (m6 φ G m ρ B) (φ.jC ρ jk) (ej 0 (fo m ρ (λk=>B.contains k) jk 0 ρ))) (vw m ρ (λk=>B.contains k) jk y) v)/\
  (∀b,Fo (m6 φ G m ρ B) (φ.jC ρ jk) (ej 0 (fo m ρ (λk=>B.contains k) jk 0 ρ)) b->Fo G φ m b):=
 C9 hm AA AT (λb h=>h.1) (λb h Aa=>Aa.2.1 h) (λk e L b B7 _ A5 E I Aa=>Aa.2.2 ⟨k,by simpa using A5,e,L,B7,E,I⟩)
theorem aG.upR{φ φ':cd}{ρ bs:List Nat}{w F F' x v}(h:aG φ w F x v)(Ab:∀i L,φ i=some L->φ' (ρ.getD i 0)=some {L with aq:=bs.getD i 0+L.aq})
 (T:(∀b,F' b->F b)\/eB x=true):aG φ' w F' (up ρ bs x) v:=by
 have Al:∀{d v},aQ w F d v->((∀b,F' b->F b)\/ke d=true)->aQ w F' d v:=λh T=>by
  rcases T with T|T
  ·exact h.mono (λ_ _ _=>rfl) (ack _) (λb _=>T b)
  ·exact h.plain T
 induction h with
 |bm v=>exact .bm v
 |d x v h=>exact .d x v (Al h (T.imp id (by simp[eB])))
 |agg cs a A9 A3 _ ih=>
  refine .agg _ a (by rw[m5];exact A9) A3 (λi c v M Y=>?_);rw[vk]at M;obtain⟨y,A6,rfl⟩:=acp.1 M;exact ih i y v A6 Y (T.imp id λU=>mB (by simpa only[eB]using U) y (acu A6))
 |ptr k aq off v L E Y h A3=>exact .ptr _ _ off v _ (Ab k L E) (by simp only;omega) (λhe=>h (by simp only at he;omega)) A3
 |vec k aq off len v L E Y h A3=>exact .vec _ _ off len v _ (Ab k L E) (by simp only;omega) (λhe=>h (by simp only at he;omega)) A3
 |di k aq i j v L E Y h A3=>exact .di _ _ i j v _ (Ab k L E) (by simp only;omega) (λhe=>h (by simp only at he;omega)) A3
 |eH x j b off B8 A5 B9 O M=>
  rcases T with T|T
  ·exact .eH x j b off B8 A5 (λh=>B9 (T b h)) (O.mono (λ_ _ _=>rfl) (ack _) (λb _=>T b)) M
  ·simp[eB]at T
 |fn f cap a A_ A9 _ ih=>
  refine .fn f _ a A_ (by rw[m5];exact A9) (λi c v M Y=>?_);rw[vk]at M;obtain⟨y,A6,rfl⟩:=acp.1 M;exact ih i y v A6 Y (T.imp id λU=>mB (by simpa only[eB]using U) y (acu A6))
 |uD f cap a A9 _ ih=>
  refine .uD f _ a (by rw[m5];exact A9) (λi c v M Y=>?_);rw[vk]at M;obtain⟨y,A6,rfl⟩:=acp.1 M;exact ih i y v A6 Y (T.imp id λU=>mB (by simpa only[eB]using U) y (acu A6))
 |bh vs a A9 _ ih=>
  refine .bh _ a (by rw[m5];exact A9) (λi c v M Y=>?_);rw[vk]at M;obtain⟨y,A6,rfl⟩:=acp.1 M;exact ih i y v A6 Y (T.imp id λU=>mB (by simpa only[eB]using U) y (acu A6))
 |jb t x v h=>exact .jb t x v (Al h (T.imp id (by simp[eB])))
 |lit v h=>exact .lit v h
 |nn a cap=>exact .nn a cap
 |err t v=>exact .err t v
theorem sl{ρ bs L c b}:(F5 ρ bs c).dz L b↔c.dz L b:=by cases c<;>exact apj
theorem IX(h:bz φ G m w)(AA:ρ.Nodup)(AT:∀k∈ρ,(Mem.get m k).isSome=true){fr:List Nat}(BA:fr.Nodup)(An:∀k∈fr,(Mem.get m k).isSome=true/\k∉ρ)
 {A0:cd} {J:List (Nat×aJ)} {A7:World} (AU:bz A0 (m6 φ G m ρ B) (ej 0 J) A7)
 (A2:aZ (φ.jC ρ jk) (ej 0 (fo m ρ (λk=>B.contains k) jk 0 ρ)) w A0 (ej 0 J) A7) (BB:J.length=ρ.length+fr.length)
 (BC:B=[]\/∀e∈J,nr e.2=true):
 ∃φ':cd,bz φ' G (bS m (jX (ρ++fr) (base m 0 ρ++base m 1 fr) 0 J)) A7/\aZ φ m w φ' (bS m (jX (ρ++fr) (base m 0 ρ++base m 1 fr) 0 J)) A7/\
  ∀x v,(B=[]\/eB x=true)->aG A0 A7 (Fo (m6 φ G m ρ B) A0 (ej 0 J)) x v->
   aG φ' A7 (Fo G φ' (bS m (jX (ρ++fr) (base m 0 ρ++base m 1 fr) 0 J))) (up (ρ++fr) (base m 0 ρ++base m 1 fr) x) v:=by
 obtain⟨H,AH⟩:∃H,H=ρ++fr:=⟨_,rfl⟩;obtain⟨bs,Ac⟩:∃bs,bs=base m 0 ρ++base m 1 fr:=⟨_,rfl⟩;rw[<-AH,<-Ac];have Ao:H.Nodup:=by
  rw[AH,List.nodup_append];exact⟨AA,BA,λa BD b A5 BE=>(An b A5).2 (BE▸BD)⟩
 have BF:J.length=H.length:=by rw[AH,acm];exact BB
 have Ap:∀k∈H,(Mem.get m k).isSome=true:=λk Z=>by
  rw[AH]at Z;rcases acC.1 Z with A3|A3
  ·exact AT k A3
  ·exact (An k A3).1
 have Aq:∀k∈H,k∈m.map (·.key):=λk Z=>by
  obtain⟨e,he⟩:=akn.1 (Ap k Z);obtain⟨hm,rfl⟩:=Mem.get_mem he;exact adL hm
 obtain⟨φ',Ar⟩:∃φ':cd,φ'=λk=>match mg H k 0 with|some i=>(A0 i).map (λL=>{L with aq:=bs.getD i 0+L.aq})|none=>φ k:=⟨_,rfl⟩
 have BG:∀{i},i<H.length->H[i]?=some (H.getD i 0):=λhi=>by simp[hi]
 have BI:∀{i},i<H.length->φ' (H.getD i 0)=(A0 i).map (λL=>{L with aq:=bs.getD i 0+L.aq}):=λhi=>by
  simp only[Ar,Vu Ao (BG hi)]
 have AB:∀{k},k∉H->φ' k=φ k:=λZ=>by simp only[Ar,lC.2 Z]
 have BJ:∀{i L},A0 i=some L->i<H.length:=λE=>by
  have:=AU.rR _ _ E;rw[sk]at this;simp[List.mem_range']at this;omega
 have A8:∀i L,A0 i=some L->φ' (H.getD i 0)=some {L with aq:=bs.getD i 0+L.aq}:=λi L E=>by
  rw[BI (BJ E),E];rfl
 --BK entries behind
 have AC:=F7 (jX H bs 0 J) m h.nodup;have As:(jX H bs 0 J).map (·.key)=H:=by
  rw[F6,BF];apply List.ext_getElem?;intro i;by_cases hi:i<H.length
  ·simp[hi]
  ·rw[agB (by simp;omega),agB (by omega)]
 rw[As]at AC;replace AC:=AC Ao (λe he=>Aq e.key (by rw[<-As];exact adL he));have AM:∀{e},e∈jX H bs 0 J->∃j v c L,j<H.length/\J[j]?=some (v,c)/\e=⟨H.getD j 0,bs.getD j 0+v,F5 H bs c⟩/\A0 j=some L/\L.aq=v/\eV A0 A7 (Fo (m6 φ G m ρ B) A0 (ej 0 J)) L c:=by
  intro e he;obtain⟨j,v,c,A',rfl⟩:=tJ.1 he;have AO:=(ace.1 A').1;obtain⟨L,E,AD,M⟩:=AU.gv ⟨0+j,v,c⟩ (mA.2 ⟨j,v,c,A',rfl⟩);simp only[aeh]at E⊢;exact⟨j,v,c,L,by omega,A',rfl,E,AD,M⟩
 have AP:=yM (φ:=φ) (nv:=jk) (bor:=λk=>B.contains k) AT;have Ad:∀b,jT φ' (bS m (jX H bs 0 J)) b↔jT A0 (ej 0 J) b\/∃e∈m,e.key∉H/\∃L,φ e.key=some L/\e.cont.dz L b:=by
  intro b;constructor
  ·rintro ⟨e,he,L,E,I⟩;rcases (AC e).1 he with he|⟨he,V⟩
   ·obtain⟨j,v,c,A1,AO,A',rfl,A4,AD,M⟩:=AM he;left;simp only[A8 j A1 A4,acE]at E;subst E;exact⟨⟨0+j,v,c⟩,mA.2 ⟨j,v,c,A',rfl⟩,A1,by simpa using A4,lS.1 (sl.1 I)⟩
   ·right;exact⟨e,he,V,L,by rw[<-AB V];exact E,I⟩
  ·rintro (⟨BU,AQ,L,E,I⟩|⟨e,he,V,L,E,I⟩)
   ·obtain⟨j,v,c,A',rfl⟩:=mA.1 AQ;simp only[aeh]at E;exact⟨⟨H.getD j 0,bs.getD j 0+v,F5 H bs c⟩,(AC _).2 (.inl (tJ.2 ⟨j,v,c,A',by simp⟩)),_,A8 j L E,sl.2 (lS.2 I)⟩
   ·exact⟨e,(AC _).2 (.inr ⟨he,V⟩),L,by rw[AB V];exact E,I⟩
 have Ae:∀{k},k∉H->k∉ρ:=λZ A3=>Z (by rw[AH];exact agX _ A3)
 --BV entry beside shares no block with BK BW
 have Af:∀e∈m,e.key∉ρ->∀L b,φ e.key=some L->e.cont.dz L b->¬BH φ m ρ b:=λe he V L b E I=>
  FY h (Mem.get_of_mem h.nodup he) E I V
 have hle:φ.le φ':=by
  intro k L E;by_cases Z:k∈H
  ·obtain⟨i,hi,rfl⟩:=apm.1 Z;have At:H.getD i 0=H[i]:=by simp[hi]
   obtain⟨e,he⟩:=akn.1 (Ap _ Z);obtain⟨_,_,BX,Au,AD,_⟩:=h.get he;rw[E]at Au;cases Au;by_cases Av:i<ρ.length
   ·have AW:ρ[i]?=some H[i]:=by simp only[AH];rw[List.getElem_append_left Av];simp
    have Aw:bs.getD i 0=L.aq:=by
     rw[Ac,adX,acB (by rw[sZ];exact Av),ED,AW];simp[he,AD]
    obtain⟨L',AE,BY,BL⟩:=A2.le i {L with aq:=0} (by simp[cd.jC,AW,E,jk]);refine⟨{L' with aq:=bs.getD i 0+L'.aq},by rw[<-At];exact A8 i L' AE,by simp only;omega,λAQ=>?_⟩;simp only at AQ;have AR:=BL (by simp only;omega);have g1:=aga Loc.aq AR;have g2:=aga Loc.en AR;have g3:=aga Loc.sz AR;have g4:=aga Loc.cap AR;have g5:=aga Loc.base AR;simp only at g1 g2 g3 g4 g5⊢;rw[g1,g2,g3,g4,g5,Aw,agq]
   ·have BM:i<J.length:=by omega
    obtain⟨L',AF,_,_⟩:=AU.gv ⟨0+i,J[i].1,J[i].2⟩ (mA.2 ⟨i,_,_,by simp[BM],rfl⟩);simp only[aeh]at AF;have AW:fr[i-ρ.length]?=some H[i]:=by
     simp only[AH]at hi⊢;rw[List.getElem_append_right (by omega)];simp
    have Aw:bs.getD i 0=L.aq+1:=by
     rw[Ac,adX,acG (by rw[sZ];omega),sZ,ED,AW];simp[he,AD]
    refine⟨{L' with aq:=bs.getD i 0+L'.aq},by rw[<-At];exact A8 i L' AF,by simp only;omega,λAQ=>?_⟩;simp only at AQ;omega
  ·exact⟨L,by rw[AB Z];exact E,ack _,λ_=>rfl⟩
 have Ax:∀b,b<w.heap.size->jT φ' (bS m (jX H bs 0 J)) b->jT φ m b:=by
  intro b A5 Ag;rcases (Ad b).1 Ag with AE|⟨e,he,_,L,E,I⟩
  ·exact ((AP b).1 (A2.own b A5 AE)).own
  ·exact⟨e,he,L,E,I⟩
 have hold:∀b,b<w.heap.size->¬jT φ m b->A7.heap[b]?=w.heap[b]?:=λb A5 Ah=>A2.Bi b A5 (λI=>Ah ((AP b).1 I).own);have Ay:B=[]->∀b,Fo G φ' (bS m (jX H bs 0 J)) b->Fo (m6 φ G m ρ B) A0 (ej 0 J) b:=by
  rintro rfl b (AG|I)
  ·refine .inl ⟨.inl AG,λI=>h.ml b I.own AG,?_⟩;rintro ⟨k,Z,_⟩;simp at Z
  ·rcases (Ad b).1 I with AE|⟨e,he,V,L,E,Az⟩
   ·exact .inr AE
   ·refine .inl ⟨.inr ⟨e,he,L,E,Az⟩,Af e he (Ae V) L b E Az,?_⟩;rintro ⟨k,Z,_⟩;simp at Z
 have Ai:∀x v,(B=[]\/eB x=true)->aG A0 A7 (Fo (m6 φ G m ρ B) A0 (ej 0 J)) x v->aG φ' A7 (Fo G φ' (bS m (jX H bs 0 J))) (up H bs x) v:=
  λx v O AX=>AX.upR A8 (O.imp Ay id)
 have B':∀d v,(B=[]\/ke d=true)->aQ A7 (Fo (m6 φ G m ρ B) A0 (ej 0 J)) d v->aQ A7 (Fo G φ' (bS m (jX H bs 0 J))) d v:=λd v O AX=>by
  rcases O with O|O
  ·exact AX.mono (λ_ _ _=>rfl) (ack _) (λb _=>Ay O b)
  ·exact AX.plain O
 refine⟨φ',⟨?_,?_,?_,?_,?_,?_⟩,⟨hle,hold,Ax,A2.size,A2.os,A2.tape,A2.output⟩,Ai⟩
 ·rw[lV];exact h.nodup
 ·intro k L E;rw[lV];by_cases Z:k∈H
  ·exact Aq k Z
  ·rw[AB Z]at E;exact h.rR k L E
 ·intro e he;rcases (AC e).1 he with he|⟨he,V⟩
  ·obtain⟨j,v,c,A1,AO,A',rfl,A4,AD,M⟩:=AM he;refine⟨_,A8 j A1 A4,by simp[AD],?_⟩;have AY:B=[]\/nr c=true:=BC.imp id λU=>U (v,c) (acu A');cases c with
   |dead=>trivial
   |box cs=>
    obtain⟨g0,arr,elem,g1,g2,g3,g4⟩:=M;refine⟨by simpa [m5]using g0,arr,elem,g1,by simp[m5,g2],g3,λi c v B0 Y=>?_⟩;rw[vk]at B0;obtain⟨y,A6,rfl⟩:=acp.1 B0;exact Ai y v (AY.imp id λU=>mB (by simpa only[nr]using U) y (acu A6)) (g4 i y v A6 Y)
   |vec sz aj=>
    obtain⟨g1,g2,g3,g4⟩:=M;refine⟨g1,g2,g3,λBN=>?_⟩;obtain⟨arr,elem,f1,f2,f3,f4⟩:=g4 BN;exact⟨arr,elem,f1,f2,f3,λi d B1=>let ⟨v,Y,A'⟩:=f4 i d B1;⟨v,B' d v (AY.imp id λU=>sY (by simpa only[nr]using U) d (acu B1)) Y,A'⟩⟩
   |vv aj y=>
    refine (mj.mono (up H bs) M (λxs BO d T u hu=>B' d u (AY.imp id λU=>?_) hu) (λx O v Y=>Ai x v (AY.imp id λU=>?_) Y) (λ_ _=>rfl)).aq _
    ·simp only[nr,Ds,acI]at U;exact sY (U.1 xs BO) d T
    ·simp only[nr,Ds,O]at U;exact U.2
  ·obtain⟨L,E,AD,M⟩:=h.gv e he;refine⟨L,by rw[AB V];exact E,AD,M.mono hle (λb A5 Ah=>hold b A5 (λI=>Ah (.inr I))) A2.size (λb A5=>Or.imp id (Ax b A5)) (λb I=>?_)⟩;exact A2.Bi _ (M.lt I) (λA3=>Af e he (Ae V) L b E I ((AP _).1 A3))
 ·rintro e he e' AI L L' E AF ⟨b,I,AZ⟩;have B2:∀{j v c A1 AJ AS},J[j]?=some (v,c)->A0 j=some A1->c.dz A1 b->AJ∈m->AJ.key∉H->φ AJ.key=some AS->AJ.cont.dz AS b->False:=by
   intro j v c A1 AJ AS A' A4 M B3 V B4 B5;have BP:b<w.heap.size:=h.FI ⟨AJ,B3,AS,B4,B5⟩;have AE:jT A0 (ej 0 J) b:=⟨⟨0+j,v,c⟩,mA.2 ⟨j,v,c,A',rfl⟩,A1,by simpa using A4,M⟩;exact Af AJ B3 (Ae V) AS b B4 B5 ((AP _).1 (A2.own _ BP AE))
  rcases (AC e).1 he with he|⟨he,V⟩<;>rcases (AC e').1 AI with AI|⟨AI,Aj⟩
  ·obtain⟨j,v,c,A1,AO,A',rfl,A4,_,_⟩:=AM he;obtain⟨Ak,AK,AL,L2',BZ,BQ,rfl,B6,_,_⟩:=AM AI;simp only[A8 j A1 A4,A8 Ak L2' B6,acE]at E AF;subst E;subst AF;have:=AU.apart ⟨0+j,v,c⟩ (mA.2 ⟨j,v,c,A',rfl⟩) ⟨0+Ak,AK,AL⟩ (mA.2 ⟨Ak,AK,AL,BQ,rfl⟩) A1 L2' (by simpa using A4) (by simpa using B6) ⟨b,lS.1 (sl.1 I),lS.1 (sl.1 AZ)⟩;simp only[aeh]at this;rw[this]
  ·obtain⟨j,v,c,A1,AO,A',rfl,A4,_,_⟩:=AM he;simp only[A8 j A1 A4,acE]at E;subst E;exact (B2 A' A4 (lS.1 (sl.1 I)) AI Aj (by rw[<-AB Aj];exact AF) AZ).elim
  ·obtain⟨j,v,c,A1,AO,A',rfl,A4,_,_⟩:=AM AI;simp only[A8 j A1 A4,acE]at AF;subst AF;exact (B2 A' A4 (lS.1 (sl.1 AZ)) he V (by rw[<-AB V];exact E) I).elim
  ·exact h.apart e he e' AI L L' (by rw[<-AB V];exact E) (by rw[<-AB Aj];exact AF) ⟨b,I,AZ⟩
 ·intro b Ag AG;rcases (Ad b).1 Ag with AE|⟨e,he,_,L,E,I⟩
  ·exact h.ml b ((AP b).1 (A2.own b (h.bound b AG) AE)).own AG
  ·exact h.ml _ ⟨e,he,L,E,I⟩ AG
 ·exact λb AG=>ajd (h.bound b AG) A2.size
end
def eY(S AD:St):Prop:=AD.n=S.n/\AD.gl=S.gl/\∀φ G a w,Rel φ G S a w->∃φ',Rel φ' G AD a w/\aZ φ S.mem w φ' AD.mem w
theorem eY.refl(S:St):eY S S:=⟨rfl,rfl,λφ _ _ _ h=>⟨φ,h,aZ.refl ..⟩⟩
theorem eY.trans{S AD AZ:St}(h:eY S AD)(k:eY AD AZ):eY S AZ:=
 ⟨k.1.trans h.1,k.2.1.trans h.2.1,λφ G a w AE=>by
  obtain⟨Ae,M,Af⟩:=h.2.2 φ G a w AE;obtain⟨Ag,Ah,Ai⟩:=k.2.2 Ae G a w M;exact⟨Ag,Ah,Af.trans Ai⟩⟩
theorem Sl(S:St)(sj:List Nat):eY S (S.prune sj):=⟨rfl,rfl,λφ _ _ _ h=>⟨φ,h.prune sj,aZ.refl ..⟩⟩
theorem Lv{w:World}{φ φ':cd}{m m':Mem}(h:∀b,jT φ' m' b->jT φ m b)(hle:φ.le φ'):aZ φ m w φ' m' w:=
 ⟨hle,λ_ _ _=>rfl,λb _ A1=>h b A1,ack _,rfl,rfl,rfl⟩
def sm(E:AV->AV):aJ->aJ
 | .box cs=>.box (cs.map E)
 | .dead=>.dead
 | .vec sz aj=>.vec sz aj
 | .vv aj y=>.vv aj (y.map E)
def mapM(E:AV->AV)(e':dk):Mem->Mem
 |[]=>[]
 |e::r=>(if e.key=e'.key then e' else ⟨e.key,e.aq,sm E e.cont⟩)::mapM E e' r
def pJ(E:AV->AV):Env->Env
 |[]=>[]
 |(t,g,x)::r=>(t,g,E x)::pJ E r
theorem BJ(E:AV->AV):∀(env:Env)(t:Nat)(g:Bool)(y:AV),Env.lk (pJ E env) t=some (g,y)->∃x,Env.lk env t=some (g,x)/\y=E x
 |[],t,g,y,h=>by simp[pJ,Env.lk]at h
 |(Aj,B7,AL)::r,t,g,y,h=>by
  simp only[pJ,Env.lk]at h⊢;by_cases A_:Aj=t
  ·subst A_;simp at h⊢;obtain⟨rfl,rfl⟩:=h;simp
  ·simp only[A_,adY]at h⊢;exact BJ E r t g y h
theorem BK(E:AV->AV)(e':dk):∀m:Mem,(mapM E e' m).map (·.key)=m.map (·.key)
 |[]=>rfl
 |e::r=>by
  simp only[mapM,adM,BK E e' r];congr 1;split
  ·rename_i h;exact h.symm
  ·rfl
theorem mapM_mem{E:AV->AV}{e':dk}:∀{m:Mem}{x:dk},x∈mapM E e' m↔∃e∈m,x=if e.key=e'.key then e' else ⟨e.key,e.aq,sm E e.cont⟩
 |[],x=>by simp[mapM]
 |e::r,x=>by simp[mapM,mapM_mem (m:=r)]
theorem mU{E L c b}:(sm E c).dz L b↔c.dz L b:=by cases c<;>exact apj
def St.BL(S:St)(E:AV->AV)(e':dk):St:={S with env:=pJ E S.env,mem:=mapM E e' S.mem}
theorem Lw{φ:cd}{G S a w}(h:Rel φ G S a w)(E:AV->AV){e e':dk}(he:e∈S.mem){L L':Loc}(U:φ e.key=some L)(A8:e'.key=e.key)
 (T:L.aq<L'.aq) (Ak:L'.aq=e'.aq) (Aa:∀b,e'.cont.dz L' b->e.cont.dz L b)
 (Al:∀(φ':cd)(F':Nat->Prop),φ' e.key=some L'->(∀k,k≠e.key->φ' k=φ k)->(∀b,F' b->Fo G φ S.mem b)->(∀b,¬e'.cont.dz L' b->e.cont.dz L b->¬F' b)->∀x v,aG φ w (Fo G φ S.mem) x v->aG φ' w F' (E x) v)
 (H:∀(φ':cd)(F':Nat->Prop),(∀b,F' b->Fo G φ S.mem b)->eV φ' w F' L' e'.cont):
 ∃φ',Rel φ' G (S.BL E e') a w/\aZ φ S.mem w φ' (S.BL E e').mem w:=by
 have hm:=h.mem;obtain⟨φ',Ab⟩:∃φ':cd,φ'=λk=>if k=e.key then some L' else φ k:=⟨_,rfl⟩
 have A0:φ' e.key=some L':=by simp[Ab]
 have A2:∀k,k≠e.key->φ' k=φ k:=λk I=>by simp[Ab,I]
 have hle:φ.le φ':=by
  intro k AG A7;by_cases I:k=e.key
  ·subst I;rw[U]at A7;cases A7;exact⟨L',A0,by omega,λhh=>by omega⟩
  ·exact⟨AG,by rw[A2 k I];exact A7,ack _,λ_=>rfl⟩
 have AQ:∀b,jT φ' (mapM E e' S.mem) b->jT φ S.mem b:=by
  rintro b ⟨x,V,AP,A3,A9⟩;obtain⟨y,O,rfl⟩:=mapM_mem.1 V;by_cases I:y.key=e'.key
  ·simp only[I,adZ]at A3 A9;rw[A8,A0]at A3;cases A3;exact⟨e,he,L,U,Aa b A9⟩
  ·simp only[I,adY]at A3 A9;rw[A8]at I;rw[A2 _ I]at A3;exact⟨y,O,AP,A3,mU.1 A9⟩
 have Y:∀b,Fo G φ' (mapM E e' S.mem) b->Fo G φ S.mem b:=λb=>Or.imp id (AQ b);have AR:∀b,¬e'.cont.dz L' b->e.cont.dz L b->¬Fo G φ' (mapM E e' S.mem) b:=by
  rintro b An A1 (Ao|⟨x,V,AP,A3,A9⟩)
  ·exact hm.ml _ ⟨e,he,L,U,A1⟩ Ao
  ·obtain⟨y,O,rfl⟩:=mapM_mem.1 V;by_cases I:y.key=e'.key
   ·simp only[I,adZ]at A3 A9;rw[A8,A0]at A3;cases A3;exact An A9
   ·simp only[I,adY]at A3 A9;rw[A8]at I;rw[A2 _ I]at A3;exact I (hm.apart y O e he AP L A3 U ⟨b,mU.1 A9,A1⟩)
 have AS:=Al φ' (Fo G φ' (mapM E e' S.mem)) A0 A2 Y AR;refine⟨φ',⟨h.size,h.defers,?_,⟨?_,?_,?_,?_,?_,?_⟩,h.mm.mono (λ_ _ _=>rfl) (ack _) (λb _=>Y b)⟩,Lv AQ hle⟩
 ·intro t x V;obtain⟨y,O,rfl⟩:=BJ E S.env t true x V;exact AS _ _ (h.env t y O)
 ·show ((mapM E e' S.mem).map (·.key)).Nodup;rw[BK];exact hm.nodup
 ·intro k AG A7;show k∈(mapM E e' S.mem).map (·.key);rw[BK];by_cases I:k=e.key
  ·subst I;exact adL he
  ·rw[A2 k I]at A7;exact hm.rR k AG A7
 ·intro x V;obtain⟨y,O,rfl⟩:=mapM_mem.1 V;by_cases I:y.key=e'.key
  ·simp only[I,adZ];exact⟨L',by rw[A8];exact A0,Ak,H _ _ Y⟩
  ·simp only[I,adY];obtain⟨Ap,Aq,Ar,AH⟩:=hm.gv y O;refine⟨Ap,by rw[A2 _ (by rw[<-A8];exact I)];exact Aq,Ar,?_⟩;cases AT:y.cont with
   |dead=>trivial
   |box cs=>
    rw[AT]at AH;obtain⟨g0,arr,elem,g1,g2,g3,g4⟩:=AH;refine⟨by simpa using g0,arr,elem,g1,by simp[g2],g3,λi c v Ac T=>?_⟩;rw[adD]at Ac;obtain⟨z,AM,rfl⟩:=acp.1 Ac;exact AS z v (g4 i z v AM T)
   |vec sz aj=>
    rw[AT]at AH;obtain⟨g1,g2,g3,g4⟩:=AH;refine⟨g1,g2,g3,λA7=>?_⟩;obtain⟨arr,elem,f1,f2,f3,f4⟩:=g4 A7;exact⟨arr,elem,f1,f2,f3,λi d As=>let ⟨v,T,AU⟩:=f4 i d As;⟨v,T.mono (λ_ _ _=>rfl) (ack _) (λb _=>Y b),AU⟩⟩
   |vv aj y=>
    rw[AT]at AH;exact mj.mono E AH (λ_ _ _ _ u hu=>hu.mono (λ_ _ _=>rfl) (ack _) (λb _=>Y b)) (λx _ v V=>AS x v V) (λ_ _=>rfl)
 ·rintro x V AL At AP B8 A3 Au ⟨b,A1,Av⟩;obtain⟨y,O,rfl⟩:=mapM_mem.1 V;obtain⟨B9,Aw,rfl⟩:=mapM_mem.1 At;have pull:∀{z:dk}{AI:Loc},z∈S.mem->φ' (if z.key=e'.key then e' else ⟨z.key,z.aq,sm E z.cont⟩:dk).key=some AI->(if z.key=e'.key then e' else ⟨z.key,z.aq,sm E z.cont⟩:dk).cont.dz AI b->
   ∃z0∈S.mem,∃AG,φ z0.key=some AG/\z0.cont.dz AG b/\(if z.key=e'.key then e' else ⟨z.key,z.aq,sm E z.cont⟩:dk).key=z0.key:=by
   intro z AI AM AA AJ;by_cases I:z.key=e'.key
   ·simp only[I,adZ]at AA AJ⊢;rw[A8,A0]at AA;cases AA;exact⟨e,he,L,U,Aa b AJ,A8⟩
   ·simp only[I,adY]at AA AJ⊢;rw[A8]at I;rw[A2 _ I]at AA;exact⟨z,AM,AI,AA,mU.1 AJ,rfl⟩
  obtain⟨z,AM,AI,AA,AJ,Ax⟩:=pull O A3 A1;obtain⟨Ay,Az,B',B0,B1,B2⟩:=pull Aw Au Av;rw[Ax,B2];exact hm.apart z AM Ay Az AI B' AA B0 ⟨b,AJ,B1⟩
 ·exact λb AN=>hm.ml b (AQ b AN)
 ·exact hm.bound
mutual
def m7(k v off len:Nat):AV->AV
 | .vec AB AC o l=>if AB=k/\AC=v/\off<=o/\o+l<=off+len then .vec k (v+1) (o-off) l else .vec AB AC o l
 | .di AB AC i j=>if AB=k/\AC=v/\off<=i then .di k (v+1) (i-off) j else .di AB AC i j
 | .agg cs=>.agg (oW k v off len cs)
 | .fn f cap=>.fn f (oW k v off len cap)
 | .bh vs=>.bh (oW k v off len vs)
 | .bm=>.bm
 | .d x=>.d x
 | .ptr a b c=>.ptr a b c
 | .eH x j=>.eH x j
 | .jb t x=>.jb t x
 | .lit v=>.lit v
 | .nn=>.nn
 | .err=>.err
def oW(k v off len:Nat):List AV->List AV
 |[]=>[]
 |x::r=>m7 k v off len x::oW k v off len r
end
theorem tL(k v off len):∀(l:List AV)(i:Nat),(oW k v off len l)[i]?=(l[i]?).map (m7 k v off len)
 |[],i=>by simp[oW]
 |x::r,i=>by cases i with|zero=>simp[oW]|succ i=>simp[oW,tL k v off len r i]
theorem oo(k v off len):∀(l:List AV),(oW k v off len l).length=l.length
 |[]=>rfl
 |x::r=>by simp[oW,oo k v off len r]
def St.trim(S:St)(k off len:Nat):St:=
 match Mem.get S.mem k with
 |some ⟨_,v,.vec sz aj⟩=>if off+len<=aj.length then S.BL (m7 k v off len) ⟨k,v+1,.vec sz ((aj.drop off).take len)⟩else S
 |_=>S
theorem IY(S:St)(k off len:Nat):eY S (S.trim k off len):=by
 unfold St.trim;split
 ·rename_i key v sz aj AW;split
  ·rename_i hle;refine⟨rfl,rfl,λφ G a w AE=>?_⟩;obtain⟨hm,I,L,U,AK,AO⟩:=AE.mem.get AW;simp only at I AK AO;subst I;obtain⟨g1,g2,g3,g4⟩:=AO;refine Lw AE (m7 key v off len) (e:=⟨key,v,.vec sz aj⟩) (e':=⟨key,v+1,.vec sz ((aj.drop off).take len)⟩) hm U rfl (L':=⟨v+1,L.en,L.sz,L.cap-off,L.base+off*L.sz,[]⟩)
    (by simp only;omega) rfl (λb A1=>⟨by have:=A1.1;simp only at this;omega,A1.2⟩) ?_ ?_
   ·intro φ' F' A0 A2 Y _ x u V;induction V with
    |bm v=>exact .bm v
    |d x v h=>exact .d x v (h.mono (λ_ _ _=>rfl) (ack _) (λb _=>Y b))
    |agg cs a A4 M _ ih=>
     refine .agg _ a (by rw[oo];exact A4) M (λi c v H T=>?_);rw[tL]at H;obtain⟨y,O,rfl⟩:=acp.1 H;exact ih i y v O T
    |ptr Z aq o v2 A6 J A5 h M=>
     unfold m7;by_cases A':Z=key
     ·subst A';rw[U]at J;cases J;exact .ptr _ aq o v2 _ A0 (by simp only;omega) (λhe=>by simp only at he;omega) M
     ·exact .ptr Z aq o v2 A6 (by rw[A2 _ A'];exact J) A5 h M
    |vec Z aq o l v2 A6 J A5 h M=>
     unfold m7;split
     ·rename_i H;obtain⟨rfl,rfl,A1,Ad⟩:=H;rw[U]at J;cases J;refine .vec _ _ _ l v2 _ A0 (ack _) (λ_=>?_) M;obtain⟨a0,cap,rfl,B3,B4⟩:=h AK.symm;refine⟨a0,cap,rfl,B3,λB5=>?_⟩;obtain⟨rfl,BA⟩:=B4 B5;refine⟨?_,by simp only;omega⟩;congr 2;show L.base+o*L.sz=L.base+off*L.sz+(o-off)*L.sz;rw[adO,<-afS];congr 2;omega
     ·by_cases A':Z=key
      ·subst A';rw[U]at J;cases J;exact .vec _ aq o l v2 _ A0 (by simp only;omega) (λhe=>by simp only at he;omega) M
      ·exact .vec Z aq o l v2 A6 (by rw[A2 _ A'];exact J) A5 h M
    |di Z aq i j v2 A6 J A5 h M=>
     unfold m7;split
     ·rename_i H;obtain⟨rfl,rfl,A1⟩:=H;rw[U]at J;cases J;refine .di _ _ _ j v2 _ A0 (ack _) (λ_=>?_) M;rw[h AK.symm];congr 3;show L.base+i*L.sz+j=L.base+off*L.sz+(i-off)*L.sz+j;rw[adO L.base (off*L.sz),<-afS];congr 3;omega
     ·by_cases A':Z=key
      ·subst A';rw[U]at J;cases J;exact .di _ aq i j v2 _ A0 (by simp only;omega) (λhe=>by simp only at he;omega) M
      ·exact .di Z aq i j v2 A6 (by rw[A2 _ A'];exact J) A5 h M
    |eH x j b o AL AN AX V H=>exact .eH x j b o AL AN (λh=>AX (Y b h)) (V.mono (λ_ _ _=>rfl) (ack _) (λb _=>Y b)) H
    |fn f cap a AY A4 _ ih=>
     refine .fn f _ a AY (by rw[oo];exact A4) (λi c v H T=>?_);rw[tL]at H;obtain⟨y,O,rfl⟩:=acp.1 H;exact ih i y v O T
    |uD f cap a A4 _ ih=>
     refine .uD f _ a (by rw[oo];exact A4) (λi c v H T=>?_);rw[tL]at H;obtain⟨y,O,rfl⟩:=acp.1 H;exact ih i y v O T
    |bh vs a A4 _ ih=>
     refine .bh _ a (by rw[oo];exact A4) (λi c v H T=>?_);rw[tL]at H;obtain⟨y,O,rfl⟩:=acp.1 H;exact ih i y v O T
    |jb t x v h=>exact .jb t x v (h.mono (λ_ _ _=>rfl) (ack _) (λb _=>Y b))
    |lit v h=>exact .lit v h
    |nn a cap=>exact .nn a cap
    |err t v=>exact .err t v
   ·intro φ' F' Y;refine⟨g1,by simp only[agY,akr];omega,λd AF=>g3 d (ad2 (ad1 AF)),λA7=>?_⟩;simp only at A7;obtain⟨arr,elem,f1,f2,f3,f4⟩:=g4 (by omega);refine⟨arr,elem,f1,?_,f3,λi d AF=>?_⟩
    ·rw[f2];show L.base+L.cap*L.sz=L.base+off*L.sz+(L.cap-off)*L.sz;rw[adO,<-afS];congr 2;omega
    ·rw[adB]at AF;split at AF
     ·rw[adR]at AF;obtain⟨v,T,AU⟩:=f4 _ d AF;refine⟨v,T.mono (λ_ _ _=>rfl) (ack _) (λb _=>Y b),λj c B6=>?_⟩;have:=AU j c B6;rw[afS]at this;rw[<-adO L.base]at this;exact this
     ·cases AF
  ·exact eY.refl S
 ·exact eY.refl S
mutual
def mC(k v:Nat)(aj:List D):AV->AV
 | .vec AB AC o l=>if AB=k/\AC=v/\o+l<=aj.length then .d (.list ((aj.drop o).take l))else .vec AB AC o l
 | .agg cs=>.agg (pU k v aj cs)
 | .fn f cap=>.fn f (pU k v aj cap)
 | .bh vs=>.bh (pU k v aj vs)
 | .di a b c d=>.di a b c d
 | .bm=>.bm
 | .d x=>.d x
 | .ptr a b c=>.ptr a b c
 | .eH x j=>.eH x j
 | .jb t x=>.jb t x
 | .lit v=>.lit v
 | .nn=>.nn
 | .err=>.err
def pU(k v:Nat)(aj:List D):List AV->List AV
 |[]=>[]
 |x::r=>mC k v aj x::pU k v aj r
end
theorem tM(k v aj):∀(l:List AV)(i:Nat),(pU k v aj l)[i]?=(l[i]?).map (mC k v aj)
 |[],i=>by simp[pU]
 |x::r,i=>by cases i with|zero=>simp[pU]|succ i=>simp[pU,tM k v aj r i]
theorem oq(k v aj):∀(l:List AV),(pU k v aj l).length=l.length
 |[]=>rfl
 |x::r=>by simp[pU,oq k v aj r]
def St.freeze(S:St)(k:Nat):St:=
 match Mem.get S.mem k with
 |some ⟨_,v,.vec _ aj⟩=>S.BL (mC k v aj) ⟨k,v+1,.dead⟩
 |_=>S
theorem OL(S:St)(k:Nat):eY S (S.freeze k):=by
 unfold St.freeze;split
 ·rename_i key v sz aj AW;refine⟨rfl,rfl,λφ G a w AE=>?_⟩;obtain⟨hm,I,L,U,AK,AO⟩:=AE.mem.get AW;simp only at I AK AO;subst I;refine Lw AE (mC key v aj) (e:=⟨key,v,.vec sz aj⟩) (e':=⟨key,v+1,.dead⟩) hm U rfl (L':={L with aq:=v+1})
   (by simp only;omega) rfl (λ_ A1=>A1.elim) ?_ (λ_ _ _=>trivial)
  intro φ' F' A0 A2 Y AR x u V;induction V with
  |bm v=>exact .bm v
  |d x v h=>exact .d x v (h.mono (λ_ _ _=>rfl) (ack _) (λb _=>Y b))
  |agg cs a A4 M _ ih=>
   refine .agg _ a (by rw[oq];exact A4) M (λi c v H T=>?_);rw[tM]at H;obtain⟨y,O,rfl⟩:=acp.1 H;exact ih i y v O T
  |ptr Z aq o v2 A6 J A5 h M=>
   unfold mC;by_cases A':Z=key
   ·subst A';rw[U]at J;cases J;exact .ptr _ aq o v2 _ A0 (by simp only;omega) (λhe=>by simp only at he;omega) M
   ·exact .ptr Z aq o v2 A6 (by rw[A2 _ A'];exact J) A5 h M
  |vec Z aq o l v2 A6 J A5 h M=>
   unfold mC;split
   ·rename_i H;obtain⟨rfl,rfl,Ad⟩:=H;rw[U]at J;cases J;exact .d _ _ (EC (.vec _ _ o l v2 L U A5 h M) U AK AO Ad Y (λA1=>AR _ (λhh=>hh) ⟨A1,rfl⟩))
   ·by_cases A':Z=key
    ·subst A';rw[U]at J;cases J;exact .vec _ aq o l v2 _ A0 (by simp only;omega) (λhe=>by simp only at he;omega) M
    ·exact .vec Z aq o l v2 A6 (by rw[A2 _ A'];exact J) A5 h M
  |di Z aq i j v2 A6 J A5 h M=>
   unfold mC;by_cases A':Z=key
   ·subst A';rw[U]at J;cases J;exact .di _ aq i j v2 _ A0 (by simp only;omega) (λhe=>by simp only at he;omega) M
   ·exact .di Z aq i j v2 A6 (by rw[A2 _ A'];exact J) A5 h M
  |eH x j b o AL AN AX V H=>exact .eH x j b o AL AN (λh=>AX (Y b h)) (V.mono (λ_ _ _=>rfl) (ack _) (λb _=>Y b)) H
  |fn f cap a AY A4 _ ih=>
   refine .fn f _ a AY (by rw[oq];exact A4) (λi c v H T=>?_);rw[tM]at H;obtain⟨y,O,rfl⟩:=acp.1 H;exact ih i y v O T
  |uD f cap a A4 _ ih=>
   refine .uD f _ a (by rw[oq];exact A4) (λi c v H T=>?_);rw[tM]at H;obtain⟨y,O,rfl⟩:=acp.1 H;exact ih i y v O T
  |bh vs a A4 _ ih=>
   refine .bh _ a (by rw[oq];exact A4) (λi c v H T=>?_);rw[tM]at H;obtain⟨y,O,rfl⟩:=acp.1 H;exact ih i y v O T
  |jb t x v h=>exact .jb t x v (h.mono (λ_ _ _=>rfl) (ack _) (λb _=>Y b))
  |lit v h=>exact .lit v h
  |nn a cap=>exact .nn a cap
  |err t v=>exact .err t v
 ·exact eY.refl S
def BM(P:Program)(S:St):ResultVar->dY
 | .tmp t=>.val (S.ar (.tmp t)).1 (S.ar (.tmp t)).2
 | .cell p t=>match nR P S.mem t (S.ar (.tmp p)).2 with
  | .val c x=>.val ((S.ar (.tmp p)).1&&c) x
  |_=>.no
def vU(P:Program)(S:St):List ResultVar->Option (Bool×List AV)
 |[]=>some (true,[])
 |r::rs=>match BM P S r with
  | .val c x=>match vU P S rs with
   |some (AP,xs)=>some (c&&AP,x::xs)
   |none=>none
  |_=>none
def oneOf:List AV->AV
 |[x]=>x
 |xs=>.bh xs
def BN(tmps:Array Value):ResultVar->Sem Value
 | .tmp t=>pure (tmps.getD t undef)
 | .cell a t=>do loadVar t (<-asAddr (tmps.getD a undef))
theorem Sp{P:Program}{S:St}{r:ResultVar}{c:Bool}{x:AV}(h:BM P S r=.val c x)(M:c=true){φ G a w}(A5:Rel φ G S a w):
 ∃v,(BN a.tmps r).run P w=.ok v w/\aG φ w (Fo G φ S.mem) x v:=by
 unfold BM at h;split at h
 ·rename_i t;simp only[dY.val.injEq]at h;obtain⟨rfl,rfl⟩:=h;exact⟨_,rfl,A5.ar (.tmp t) M⟩
 ·rename_i p t;split at h
  ·rename_i AP Ay A6;simp only[dY.val.injEq]at h;obtain⟨rfl,rfl⟩:=h;simp only[Ds]at M;have:=Pd P S {dst:=none,op:=.load t (.tmp p),type:=0,pos:= "",after:=#[],guard:=none} t (.tmp p) rfl M.1;rw[A6]at this;obtain⟨v,Y,Ae⟩:=this M.2 φ G a w A5;have Af:a.eval (.tmp p)=a.tmps.getD p undef:=rfl;simp only[execOp,Instr.loadAt,Af]at Y;cases AJ:a.tmps.getD p undef with
   |pointer AK=>
    rw[AJ]at Y;cases AK with
    |none=>simp[Instr.sureAddr,stuck]at Y
    |some AK=>
     simp only[Instr.sureAddr,Sem.run_bind,Sem.run_pure,Result.andThen_ok]at Y;generalize Ag:(loadVar t AK).run P w=q at Y;cases q with
     |halt _ _=>simp at Y
     |ok v2 Az=>
      simp at Y;obtain⟨rfl,rfl⟩:=Y;refine⟨v2,?_,Ae⟩;simp only[BN,AJ,asAddr,Sem.run_bind,Sem.run_pure,Result.andThen_ok,Ag]
   |_=>rw[AJ]at Y;simp[Instr.sureAddr,stuck]at Y
  ·cases h
theorem zQ{P:Program}{S:St}{φ G a w}(A5:Rel φ G S a w):∀(rs:List ResultVar)(c:Bool)(xs:List AV),vU P S rs=some (c,xs)->c=true->
 ∃vs:List Value,(rs.mapM (BN a.tmps)).run P w=.ok vs w/\xs.length=vs.length/\
  ∀(i:Nat) x v,xs[i]?=some x->vs[i]?=some v->aG φ w (Fo G φ S.mem) x v
 |[],c,xs,h,_=>by
  simp only[vU,acE,adJ]at h;obtain⟨_,rfl⟩:=h;exact⟨[],by simp,rfl,by simp⟩
 |r::rs,c,xs,h,M=>by
  simp only[vU]at h;split at h
  ·rename_i B' x I;split at h
   ·rename_i Ah Ai Aj;simp only[acE,adJ]at h;obtain⟨rfl,rfl⟩:=h;simp only[Ds]at M;obtain⟨v,A7,AA⟩:=Sp I M.1 A5;obtain⟨vs,AL,Z,AB⟩:=zQ (P:=P) A5 rs Ah Ai Aj M.2;refine⟨v::vs,?_,by simp[Z],λi x v h AM=>?_⟩
    ·rw[List.mapM_cons];simp only[Sem.run_bind,A7,Result.andThen_ok,AL,Sem.run_pure]
    ·cases i with
     |zero=>simp at h AM;subst h;subst AM;exact AA
     |succ i=>exact AB i x v (by simpa using h) (by simpa using AM)
   ·cases h
  ·cases h
mutual
def nX(k v:Nat):AV->Option (Nat×Nat)
 | .vec Ak Al o l=>if Ak=k/\Al=v then some (o,l)else none
 | .agg cs=>tN k v cs
 | .fn _ cap=>tN k v cap
 | .bh vs=>tN k v vs
 | .di _ _ _ _=>none
 | .bm=>none
 | .d _=>none
 | .ptr _ _ _=>none
 | .eH _ _=>none
 | .jb _ _=>none
 | .lit _=>none
 | .nn=>none
 | .err=>none
def tN(k v:Nat):List AV->Option (Nat×Nat)
 |[]=>none
 |x::r=>match nX k v x with
  |some p=>some p
  |none=>tN k v r
end
def yN(k v:Nat):Mem->Option (Nat×Nat)
 |[]=>none
 |⟨_,_,.box cs⟩::r=>match tN k v cs with
  |some p=>some p
  |none=>yN k v r
 |_::r=>yN k v r
def F9(k v:Nat):Env->Option (Nat×Nat)
 |[]=>none
 |(_,_,x)::r=>match nX k v x with
  |some p=>some p
  |none=>F9 k v r
def St.zR(S:St)(k:Nat):St:=
 match Mem.get S.mem k with
 |some ⟨_,v,.vec _ _⟩=>match yN k v S.mem with
  |some (o,l)=>S.trim k o l
  |none=>match F9 k v S.env with
   |some (o,l)=>S.trim k o l
   |none=>S
 |_=>S
theorem Ga(S:St)(k:Nat):eY S (S.zR k):=by
 unfold St.zR;split
 ·split
  ·exact IY ..
  ·split
   ·exact IY ..
   ·exact eY.refl S
 ·exact eY.refl S
def St.zS(S:St):List Nat->St
 |[]=>S
 |k::r=>(S.zR k).zS r
theorem Gb:∀(l:List Nat)(S:St),eY S (S.zS l)
 |[],S=>eY.refl S
 |k::r,S=>(Ga S k).trans (Gb r _)
mutual
def kg:AV->List Nat
 | .ptr k _ _=>[k]
 | .vec k _ _ _=>[k]
 | .di k _ _ _=>[k]
 | .agg cs=>mD cs
 | .fn _ cap=>mD cap
 | .bh vs=>mD vs
 | .bm=>[]
 | .d _=>[]
 | .eH _ _=>[]
 | .jb _ _=>[]
 | .lit _=>[]
 | .nn=>[]
 | .err=>[]
def mD:List AV->List Nat
 |[]=>[]
 |x::r=>kg x++mD r
end
def m8:Option dk->List Nat
 |some ⟨_,_,.box cs⟩=>mD cs
 |some ⟨_,_,.vv _ (some x)⟩=>kg x
 |_=>[]
def collect(m:Mem):Nat->List Nat->List Nat->List Nat
 |0,_,J=>J
 |_+1,[],J=>J
 |n+1,k::todo,J=>match J.contains k||(Mem.get m k).isNone with
  |true=>collect m n todo J
  |false=>collect m n (todo++m8 (Mem.get m k)) (J++[k])
theorem qY(m:Mem):∀(n:Nat)(todo J:List Nat),J.Nodup->(∀k∈J,(Mem.get m k).isSome=true)->(collect m n todo J).Nodup/\∀k∈collect m n todo J,(Mem.get m k).isSome=true
 |0,todo,J,h,A1=>⟨h,A1⟩
 |n+1,[],J,h,A1=>⟨h,A1⟩
 |n+1,k::todo,J,h,A1=>by
  simp only[collect];split
  ·exact qY m n todo J h A1
  ·rename_i M;simp only[Bool.or_eq_false_iff,List.contains_eq_mem,afY,Option.isNone_eq_false_iff]at M;refine qY m n _ _ ?_ ?_
   ·rw[List.nodup_append];exact⟨h,by simp,λa A8 b T AC=>by simp at T;subst T;subst AC;exact M.1 A8⟩
   ·intro x I;rcases acC.1 I with I|I
    ·exact A1 x I
    ·simp at I;subst I;exact M.2
def dead(k:Nat):dk:=⟨k,0,.dead⟩
def cd.add(φ:cd)(ks:List Nat):cd:=λk=>if k∈ks then some ⟨0,0,0,0,0,[]⟩else φ k
theorem Da{φ:cd}{m:Mem}{ks:List Nat}(O:∀k∈ks,k∉m.map (·.key))(b:Nat):jT (φ.add ks) (m++ks.map dead) b↔jT φ m b:=by
 constructor
 ·rintro ⟨e,he,L,H,U⟩;rcases acC.1 he with he|he
  ·have:e.key∉ks:=λh=>O _ h (adL he);simp only[cd.add,this,adY]at H;exact⟨e,he,L,H,U⟩
  ·simp only[acF]at he;obtain⟨k,_,rfl⟩:=he;exact U.elim
 ·rintro ⟨e,he,L,H,U⟩;have:e.key∉ks:=λh=>O _ h (adL he);exact⟨e,agX _ he,L,by simp[cd.add,this,H],U⟩
theorem agu{φ:cd}{G}{m:Mem}{ks:List Nat}(O:∀k∈ks,k∉m.map (·.key)):Fo G (φ.add ks) (m++ks.map dead)=Fo G φ m:=by
 funext b;simp only[Fo,Da O b]
theorem LA{φ:cd}{G m w}(h:bz φ G m w){ks:List Nat}(O:∀k∈ks,k∉m.map (·.key)):φ.le (φ.add ks):=by
 intro k L H;have:k∉ks:=λV=>O k V (h.rR k L H);exact⟨L,by simp[cd.add,this,H],ack _,λ_=>rfl⟩
theorem bz.add{φ G m w}(h:bz φ G m w){ks:List Nat}(An:ks.Nodup)(O:∀k∈ks,k∉m.map (·.key)):bz (φ.add ks) G (m++ks.map dead) w:=by
 have hle:=LA h O;have Ao:=agu (φ:=φ) (G:=G) O;refine⟨?_,?_,?_,?_,?_,h.bound⟩
 ·rw[apc,List.nodup_append];have e:(ks.map dead).map (·.key)=ks:=by simp[Function.comp_def,dead]
  rw[e];exact⟨h.nodup,An,λa A8 b T AC=>O b T (AC▸A8)⟩
 ·intro k L H;simp only[cd.add]at H;split at H
  ·rename_i V;rw[apc];refine List.mem_append_right _ ?_;rw[List.map_map];exact acF.2 ⟨k,V,rfl⟩
  ·rw[apc];exact agX _ (h.rR k L H)
 ·intro e he;rw[Ao];rcases acC.1 he with he|he
  ·obtain⟨L,H,AN,M⟩:=h.gv e he;have:e.key∉ks:=λh=>O _ h (adL he);exact⟨L,by simp[cd.add,this,H],AN,M.mono hle (λ_ _ _=>rfl) (ack _) (λ_ _ h=>h) (λ_ _=>rfl)⟩
  ·simp only[acF]at he;obtain⟨k,V,rfl⟩:=he;exact⟨⟨0,0,0,0,0,[]⟩,by simp[cd.add,dead,V],rfl,trivial⟩
 ·rintro e he e' A' L L' H AQ ⟨b,U,AR⟩;rcases acC.1 he with he|he
  ·rcases acC.1 A' with A'|A'
   ·have A7:e.key∉ks:=λh=>O _ h (adL he);have AA:e'.key∉ks:=λh=>O _ h (adL A');simp only[cd.add,A7,AA,adY]at H AQ;exact h.apart e he e' A' L L' H AQ ⟨b,U,AR⟩
   ·simp only[acF]at A';obtain⟨k,_,rfl⟩:=A';exact AR.elim
  ·simp only[acF]at he;obtain⟨k,_,rfl⟩:=he;exact U.elim
 ·intro b T Ap;exact h.ml b ((Da O b).1 T) Ap
def jw:Nat->List AV->Env
 |_,[]=>[]
 |i,x::r=>(i,true,x)::jw (i+1) r
theorem zT:∀(i:Nat)(xs:List AV)(t:Nat)(y:Bool×AV),Env.lk (jw i xs) t=some y->∃j,t=i+j/\xs[j]?=some y.2
 |i,[],t,y,h=>by simp[jw,Env.lk]at h
 |i,x::r,t,y,h=>by
  simp only[jw,Env.lk]at h;by_cases A2:i=t
  ·subst A2;simp at h;subst h;exact⟨0,rfl,rfl⟩
  ·simp only[A2,adY]at h;obtain⟨j,rfl,AD⟩:=zT (i+1) r t y h;exact⟨j+1,by omega,by simpa using AD⟩
def eI:Nat->List aJ->Mem
 |_,[]=>[]
 |i,c::r=>⟨i,0,c⟩::eI (i+1) r
theorem LB:∀(cs:List aJ)(i:Nat),eI i cs=ej i (cs.map λc=>(0,c))
 |[],i=>rfl
 |c::r,i=>by simp[eI,ej,LB r]
def entry(n:Nat)(gl:List (Nat×D))(args:List AV)(cs:List aJ)(sites:List Nat):St:={n,gl,env:=jw 0 args,mem:=eI 0 cs++sites.map dead}
def Gc(E:Nat)(i v:Nat):Nat:=if i<E then (if v=0 then 0 else 1)else 0
structure aP where
 aq0:List Nat
 exp:Bool
 sites:List Nat
 zU:List Nat
 split:Bool
def sn(p:aP)(E:Nat)(m:Mem)(xs:List AV):List Nat:=
 match p.exp with
 |true=>List.range E++(collect m 64 (mD xs++List.range E) []).filter (λk=>!decide (k<E))
 |false=>List.range E
def nB:Env->List AV
 |[]=>[]
 |(_,_,x)::r=>x::nB r
def D3:Bool->AV->AV
 |true,x=>x
 |false,x=>x.norm
theorem aG.D3{b:Bool}{φ w F x v}(h:aG φ w F x v):aG φ w F (D3 b x) v:=by
 cases b
 ·exact h.norm
 ·exact h
def LC(b:Bool)(K:List Nat)(E:Nat)(S:St)(one:List AV->Out):Option (Out×List (Nat×aJ)):=
 if K.all (λk=>(Mem.get S.mem k).isSome)then some (one ((nB S.env).map λx=>D3 b (vw S.mem K (λ_=>true) (Gc E) x)),fo S.mem K (λ_=>true) (Gc E) 0 K)else none
def Db(p:aP)(K:List Nat)(S:St):St:=S.zS (K.filter λk=>!p.aq0.contains k)
def so(p:aP)(E:Nat)(S:St)(xs:List AV)(one:List AV->Out):Option (Out×List (Nat×aJ)):=
 let K:=sn p E S.mem xs
 LC (p.zU.contains 1000) K E (Db p K {S with n:=xs.length,env:=jw 0 xs}) one
def finish(P:Program)(p:aP)(E:Nat)(rs:List ResultVar)(S:St):Option (Out×List (Nat×aJ)):=
 match vU P S rs with
 |some (c,xs)=>if c=true then so p E S xs (λA9=>.ret (oneOf A9))else none
 |none=>none
def zV(p:aP)(E:Nat)(t:TypeId)(x:D)(S:St):Option (Out×List (Nat×aJ)):=so p E S [] (λ_=>.panic t x)
def gZ:Env->List (Nat×Bool)
 |[]=>[]
 |(t,g,_)::r=>(t,g)::gZ r
theorem D4(AS:AV->AV):∀env:Env,gZ (pJ AS env)=gZ env
 |[]=>rfl
 |(t,g,x)::r=>by simp[pJ,gZ,D4 AS r]
theorem IZ(S:St)(k o l:Nat):gZ (S.trim k o l).env=gZ S.env:=by
 unfold St.trim;split
 ·split
  ·exact D4 _ _
  ·rfl
 ·rfl
theorem Sq(S:St)(k:Nat):gZ (S.zR k).env=gZ S.env:=by
 unfold St.zR;split
 ·split
  ·exact IZ ..
  ·split
   ·exact IZ ..
   ·rfl
 ·rfl
theorem Gd:∀(l:List Nat)(S:St),gZ (S.zS l).env=gZ S.env
 |[],S=>rfl
 |k::r,S=>by rw[St.zS,Gd r,Sq]
theorem Ge:∀(i:Nat)(xs:List AV),gZ (jw i xs)=(List.range' i xs.length).map λj=>(j,true)
 |i,[]=>rfl
 |i,x::r=>by simp[jw,gZ,Ge (i+1) r,ai0]
theorem Pv:∀(env:Env)(i n j:Nat),gZ env=(List.range' i n).map (λj=>(j,true))->∀x,(nB env)[j]?=some x->Env.lk env (i+j)=some (true,x)
 |[],i,n,j,_,x,I=>by simp[nB]at I
 |(t,g,y)::r,i,n,j,h,x,I=>by
  cases n with
  |zero=>simp[gZ]at h
  |succ n=>
   simp only[gZ,ai0,adM,List.cons.injEq,adJ]at h;obtain⟨⟨rfl,rfl⟩,h⟩:=h;cases j with
   |zero=>simp[nB]at I;subst I;simp[Env.lk]
   |succ j=>
    have:=Pv r (t+1) n j h x (by simpa [nB]using I);simp only[Env.lk];rw[ach (by omega),show t+(j+1)=t+1+j by omega];exact this
theorem yO:∀env:Env,(nB env).length=(gZ env).length
 |[]=>rfl
 |(_,_,_)::r=>by simp[nB,gZ,yO r]
theorem Kg(p:aP)(E:Nat)(m:Mem)(xs:List AV):(sn p E m xs).Nodup:=by
 unfold sn;split
 ·rw[List.nodup_append];refine⟨List.nodup_range,((qY m 64 _ [] List.nodup_nil (by simp)).1).filter _,λa A8 b T AC=>?_⟩;simp only[adP]at A8;simp only[aeg,agD,afY]at T;omega
 ·exact List.nodup_range
theorem OM(p:aP)(E:Nat)(m:Mem)(xs:List AV){k:Nat}(V:k<E):(sn p E m xs)[k]?=some k:=by
 unfold sn;split
 ·rw[acB (by simpa using V)];simp[V]
 ·simp[V]
theorem uX{p:aP}{E:Nat}{S:St}{xs:List AV}{one:List AV->Out}{out:Out}{l:List (Nat×aJ)}(h:so p E S xs one=some (out,l))
 {φ:cd} {G:Fr} {w:World} (hm:bz φ G S.mem w) (AE:fL w (Fo G φ S.mem) S.gl) {vs:List Value} (A6:xs.length=vs.length)
 (I:∀(i:Nat) x v,xs[i]?=some x->vs[i]?=some v->aG φ w (Fo G φ S.mem) x v) {φ0:cd} {AT:Mem} {w0:World} (V:aZ φ0 AT w0 φ S.mem w) (Aq:∀k L,φ0 k=some L->k<E/\L.aq=0):
 ∃φ' A9,out=one A9/\bz φ' G (ej 0 l) w/\aZ φ0 AT w0 φ' (ej 0 l) w/\A9.length=vs.length/\(∀(i:Nat) y v,A9[i]?=some y->vs[i]?=some v->aG φ' w (Fo G φ' (ej 0 l)) y v)/\
  ∀b,Fo G φ' (ej 0 l) b->Fo G φ S.mem b:=by
 unfold so at h;obtain⟨K,AF⟩:∃K,K=sn p E S.mem xs:=⟨_,rfl⟩;have Ar:K.Nodup:=by rw[AF];exact Kg ..
 have As:∀k,k<E->K[k]?=some k:=λk h=>by rw[AF];exact OM _ _ _ _ h
 simp only[<-AF]at h;clear AF;have At:Rel φ G {S with n:=xs.length,env:=jw 0 xs} {tmps:=vs.toArray,defers:=G.dv} w:=by
  refine⟨by simp[A6],rfl,λt x A2=>?_,hm,AE⟩;obtain⟨j,rfl,AD⟩:=zT 0 xs t _ A2;have AU:j<vs.length:=by rw[<-A6];exact (ace.1 AD).1
  have e:vs.toArray.getD (0+j) undef=vs[j]:=by simp[AU]
  simp only[e];exact I j x _ AD (by simp[AU])
 obtain⟨A3,AG⟩:∃A3,A3=Db p K {S with n:=xs.length,env:=jw 0 xs}:=⟨_,rfl⟩;have A2:eY {S with n:=xs.length,env:=jw 0 xs} A3:=by rw[AG];exact Gb ..
 have AW:gZ A3.env=(List.range' 0 xs.length).map λj=>(j,true):=by
  rw[AG,Db,Gd];exact Ge 0 xs
 rw[<-AG]at h;clear AG;obtain⟨AX,AY,AZ⟩:=A2.2.2 φ G _ w At;unfold LC at h;split at h
 ·rename_i Au;simp only[acE,adJ]at h;obtain⟨rfl,rfl⟩:=h;have AH:=AY.mem;have A_:∀k∈K,(Mem.get A3.mem k).isSome=true:=by simpa using Au
  obtain⟨s1,s2,Av⟩:=C9 (G1:=G) (ρ:=K) (bor:=λ_=>true) (nv:=Gc E) AH Ar A_ (λb h=>.inl h) (λb h=>AH.ml b h.own)
   (λk e L b AE _ _ H U=>AH.ml _ ⟨e,(Mem.get_mem AE).1,L,by rw[(Mem.get_mem AE).2];exact H,U⟩)
  have A0:=V.trans AZ;refine⟨AX.jC K (Gc E),_,rfl,s1,⟨?_,A0.Bi,?_,A0.size,A0.os,A0.tape,A0.output⟩,?_,?_,?_⟩
  ·intro k L H;obtain⟨AO,AI⟩:=Aq k L H;obtain⟨Aa,A7,AA,AL⟩:=A0.le k L H;refine⟨{Aa with aq:=Gc E k Aa.aq},by simp[cd.jC,As k AO,A7],by simp[AI],λhe=>?_⟩;simp only[Gc,AO,adZ,AI]at he;split at he
   ·rename_i Aw;have Z:=AL (by rw[AI];exact Aw);have g1:=aga Loc.aq Z;have g2:=aga Loc.en Z;have g3:=aga Loc.sz Z;have g4:=aga Loc.cap Z;have g5:=aga Loc.base Z;simp only at g1 g2 g3 g4 g5⊢;rw[g1,g2,g3,g4,g5];simp only[Gc,AO,adZ,AI]
   ·simp at he
  ·intro b T U;exact A0.own b T ((yM (φ:=AX) (nv:=Gc E) (bor:=λ_=>true) A_ b).1 U).own
  ·rw[List.length_map,yO,AW];simp[A6]
  ·intro i y v Ab AN;rw[adD]at Ab;obtain⟨x,Ax,rfl⟩:=acp.1 Ab;have AB:=Pv A3.env 0 xs.length i AW x Ax;rw[aeh]at AB;have Ac:=AY.env i x AB;have e:vs.toArray.getD i undef=v:=by simp[AN]
   simp only[e]at Ac;exact (s2 x v Ac).D3
  ·intro b T;have A4:=Av b T;rcases A4 with A4|A4
   ·exact .inl A4
   ·rcases Nat.lt_or_ge b w.heap.size with Ad|Ad
    ·exact .inr (AZ.own b Ad A4)
    ·exact absurd (AH.FI A4) (by omega)
 ·cases h
def cF:AV->List Nat
 | .ptr k _ _=>[k]
 | .vec k _ _ _=>[k]
 | .di k _ _ _=>[k]
 |_=>[]
def vm(S:St):List Operand->List Nat
 |[]=>[]
 |x::r=>cF (S.ar x).2++vm S r
def Gf(S:St):Op->List Nat
 | .move _=>[]
 | .assign _=>[]
 |op=>vm S op.operands.toList
def kj(S:St)(o:Oper):List Nat:=keyOf o::Gf S o.op
theorem D5{S:St}:∀{l:List Operand}{x:Operand},x∈l->∀k∈cF (S.ar x).2,k∈vm S l
 |[],x,h,_,_=>by simp at h
 |y::r,x,h,k,J=>by
  simp only[vm,acC];rcases aco.1 h with rfl|h
  ·exact .inl J
  ·exact .inr (D5 h k J)
section
variable {P:Program} {m m':Mem}
theorem VB{t p}(h:∀k∈cF p,Mem.get m' k=Mem.get m k):nR P m' t p=nR P m t p:=by
 cases p<;>simp_all [nR,cF]
theorem yi{sz x}(h:∀k∈cF x,Mem.get m' k=Mem.get m k):ja m' sz x=ja m sz x:=by
 cases x with
 |vec k aq off len=>simp only[ja,h k (by simp[cF])]
 |d x=>cases x<;>rfl
 |lit v=>unfold ja;split<;>simp_all
 |_=>rfl
theorem Sr{t p x}(h:∀k∈cF p,Mem.get m' k=Mem.get m k):qR P m' t p x=qR P m t p x:=by
 cases p<;>simp_all [qR,cF]
theorem Ss{s f p}(h:∀k∈cF p,Mem.get m' k=Mem.get m k):qp P m' s f p=qp P m s f p:=by
 cases p<;>simp_all [qp,cF]
theorem Kh{p}(h:∀k∈cF p,Mem.get m' k=Mem.get m k):ku m' p=ku m p:=by
 cases p<;>simp_all [ku,cF]
theorem Su{t p i}(h:∀k∈cF p,Mem.get m' k=Mem.get m k):oe P m' t p i=oe P m t p i:=by
 cases p with
 |vec k aq off len=>simp only[oe,h k (by simp[cF])]
 |ptr k aq off=>simp only[oe,h k (by simp[cF])]
 |di k aq i j=>simp only[oe,h k (by simp[cF])]
 |d x=>cases x<;>rfl
 |_=>rfl
theorem Sv{t p lo hi}(h:∀k∈cF p,Mem.get m' k=Mem.get m k):mu P m' t p lo hi=mu P m t p lo hi:=by
 cases p with
 |di k aq i j=>simp only[mu,h k (by simp[cF])]
 |vec k aq off len=>simp only[mu,h k (by simp[cF])]
 |ptr k aq off=>simp only[mu,h k (by simp[cF])]
 |d x=>cases x<;>rfl
 |_=>rfl
theorem ZA{k c cs}(h:Mem.get m' k=Mem.get m k):uu m' k c cs=uu m k c cs:=by simp only[uu,h]
theorem Sw{k t}(h:Mem.get m' k=Mem.get m k):vO P m' k t=vO P m k t:=by simp only[vO,Ln,uu,h]
theorem VC{k s d x}(h:Mem.get m' k=Mem.get m k)(E:∀k∈cF x,Mem.get m' k=Mem.get m k):nV P m' k s d x=nV P m k s d x:=by
 have e:=yi (m:=m) (m':=m') (sz:=1) E;cases A3:tk P d<;>cases x with
 |d x=>cases x<;>simp only[nV,A3,e,h]
 |_=>simp only[nV,A3,e]
theorem VD{k s d x}(h:Mem.get m' k=Mem.get m k)(E:∀k∈cF x,Mem.get m' k=Mem.get m k):uV P m' k s d x=uV P m k s d x:=by
 have e:=VC (P:=P) (s:=s) (d:=d) h E;cases x with
 |vec Y aq off len=>simp only[uV,e,E Y (by simp[cF])]
 |_=>simp only[uV,e]
theorem VE{k t l c}(h:Mem.get m' k=Mem.get m k):zL P m' k t l c=zL P m k t l c:=by simp only[zL,h]
theorem Gg{k t n ps}(h:Mem.get m' k=Mem.get m k):lR P m' k t n ps=lR P m k t n ps:=by simp only[lR,sW,h]
theorem ZB{t x}(h:∀k∈cF x,Mem.get m' k=Mem.get m k):pT P m' t x=pT P m t x:=by
 cases x with
 |vec k aq off len=>simp only[pT,h k (by simp[cF])]
 |d x=>cases x<;>rfl
 |lit v=>unfold pT;split<;>simp_all
 |_=>rfl
theorem ZC{u sz Z A' s x}(O:∀k∈cF s,Mem.get m' k=Mem.get m k)(E:∀k∈cF x,Mem.get m' k=Mem.get m k):zI P m' u sz Z A' s x=zI P m u sz Z A' s x:=by
 cases s with
 |vec k aq off len=>
  cases x with
  |vec A7 AG A8 A9=>
   match A8,A9 with
   |0,1=>simp only[zI,O k (by simp[cF]),E A7 (by simp[cF])]
   |0,0=>rfl
   |0,_+2=>rfl
   |_+1,_=>rfl
  |_=>rfl
 |_=>rfl
theorem ZD{P:Program}{m:Mem}{u:TypeId}{sz Z:Nat}{A':D}{s x:AV}{c:Bool}{k v off n:Nat}{e:dk}(h:zI P m u sz Z A' s x=.dJ c (.vec k v off n) e):k∈cF s:=by
 unfold zI at h;split at h
 ·split at h
  ·cases h;simp[cF]
  ·cases h
 ·cases h
theorem ZE{k t u s x}(h:Mem.get m' k=Mem.get m k)(O:∀k∈cF s,Mem.get m' k=Mem.get m k)(E:∀k∈cF x,Mem.get m' k=Mem.get m k):uw P m' k t u s x=uw P m k t u s x:=by
 unfold uw Bq;simp only[yi E,h,ZC O E];cases s with
 |vec k aq off len=>simp only[O k (by simp[cF])]
 |lit v=>
  cases v with
  |slice ao n c=>cases ao<;>cases n<;>cases c<;>simp only
  |_=>rfl
 |_=>rfl
theorem ZF{P:Program}{m:Mem}{A4:Nat}{t u:TypeId}{s x:AV}{c:Bool}{k v off n:Nat}{e:dk}(h:uw P m A4 t u s x=.dJ c (.vec k v off n) e):k=A4\/k∈cF s:=by
 unfold uw at h;split at h
 ·split at h
  ·split at h
   ·split at h
    ·split at h
     ·cases h;right;simp[cF]
     ·cases h
    ·split at h
     ·cases h;left;rfl
     ·cases h
    ·cases h
   ·exact .inr (ZD h)
  ·cases h
 ·cases h
theorem VF{P:Program}{m m':Mem}{k t u s x}(h:Mem.get m' k=Mem.get m k)(O:∀k∈cF s,Mem.get m' k=Mem.get m k)(E:∀k∈cF x,Mem.get m' k=Mem.get m k):
 wX m' (Mem.get m' k).isSome k (uw P m' k t u s x)=wX m (Mem.get m k).isSome k (uw P m k t u s x):=by
 rw[ZE h O E,h];unfold wX;generalize AA:uw P m k t u s x=r;split
 ·rename_i c Y v n AH AI sz aj;have J:Mem.get m' Y=Mem.get m Y:=by
   rcases ZF AA with rfl|J
   ·exact h
   ·exact O _ J
  rw[J]
 ·rfl
theorem I0{k t x}(h:Mem.get m' k=Mem.get m k):uU P m' k t x=uU P m k t x:=by
 unfold uU;simp only[h]
theorem ZG{neg t x v}(h:∀k∈cF x,Mem.get m' k=Mem.get m k):ld P m' neg t x v=ld P m neg t x v:=by
 cases x with
 |vec k aq off len=>unfold ld;simp only[h k (by simp[cF])]
 |ptr k aq off=>unfold ld;simp only[h k (by simp[cF])]
 |d x=>unfold ld;cases x with
  |list xs=>cases xs<;>rfl
  |_=>rfl
 |lit u=>unfold ld;cases u with
  |slice ao n c=>cases ao<;>cases n<;>cases c<;>rfl
  |pointer a=>cases a<;>rfl
  |_=>rfl
 |_=>rfl
theorem VG{t s x}(O:∀k∈cF s,Mem.get m' k=Mem.get m k)(E:∀k∈cF x,Mem.get m' k=Mem.get m k):zM P m' t s x=zM P m t s x:=by
 unfold zM;simp only[yi E];cases s with
 |vec k aq off len=>simp only[O k (by simp[cF])]
 |_=>rfl
end
theorem I1{P:Program}{S I:St}{o:Oper}(E:∀x∈o.op.operands.toList,I.ar x=S.ar x)(J:∀k∈kj S o,Mem.get I.mem k=Mem.get S.mem k):dP P I o=dP P S o:=by
 have T:Mem.get I.mem (keyOf o)=Mem.get S.mem (keyOf o):=J _ (by simp[kj]);have M:match o.op with
  | .move _=>True
  | .assign _=>True
  |op=>∀x∈op.operands.toList,∀k∈cF (S.ar x).2,Mem.get I.mem k=Mem.get S.mem k:=by
  unfold kj at J;generalize o.op=op at J;cases op<;>first|trivial|exact λx H k A0=>J k (afX _ (D5 H k A0))
 have A1:∀(l:List Operand),(∀x∈l,I.ar x=S.ar x)->l.map (λx=>(I.ar x).2)=l.map (λx=>(S.ar x).2):=λl A2=>ao9 (λx H=>by rw[A2 x H]);have A5:∀(l:List (Nat×Operand)),(∀x∈l,I.ar x.2=S.ar x.2)->l.map (λx=>(x.1,(I.ar x.2).2))=l.map (λx=>(x.1,(S.ar x.2).2)):=λl A2=>ao9 (λx H=>by rw[A2 x H]);unfold dP;generalize AJ:o.op=op at E M;cases op with
 |move x=>simp only[E x (by simp[Op.operands]),I0 T]
 |assign x=>simp only[E x (by simp[Op.operands]),I0 T]
 |pick c a b=>simp only[E c (by simp[Op.operands]),E a (by simp[Op.operands]),E b (by simp[Op.operands])]
 |alloc t=>simp only[Sw T]
 |box t x=>simp only[E x (by simp[Op.operands]),ZA T]
 |load t x=>simp only[E x (by simp[Op.operands]),VB (M x (by simp[Op.operands]))]
 |store t p x=>simp only[E x (by simp[Op.operands]),E p (by simp[Op.operands]),Sr (M p (by simp[Op.operands]))]
 |fieldAddr s x f=>simp only[E x (by simp[Op.operands]),Ss (M x (by simp[Op.operands]))]
 |nilCheck x=>simp only[E x (by simp[Op.operands]),Kh (M x (by simp[Op.operands]))]
 |indexAddr t x i=>simp only[E x (by simp[Op.operands]),E i (by simp[Op.operands]),Su (M x (by simp[Op.operands]))]
 |index t x i=>simp only[E x (by simp[Op.operands]),E i (by simp[Op.operands])]
 |slice t x lo hi AB=>
  cases AB with
  |none=>
   have AC:lo.map (λy=>(I.ar y).2)=lo.map (λy=>(S.ar y).2):=by cases lo with|none=>rfl|some y=>simp[E y (by simp[Op.operands])]
   have AD:hi.map (λy=>(I.ar y).2)=hi.map (λy=>(S.ar y).2):=by cases hi with|none=>rfl|some y=>simp[E y (by simp[Op.operands])]
   simp only[E x (by simp[Op.operands]),AC,AD,Sv (M x (by simp[Op.operands]))]
  |some _=>rfl
 |binOp op t x y AK=>
  have A6:=E x (by simp[Op.operands]);have AE:=E y (by simp[Op.operands]);have A0:=M x (by simp[Op.operands]);simp only
  unfold tH;cases y with
  |const v=>simp only[A6,ZG A0];rfl
  |_=>simp only[A6,AE]
 |unOp op t x=>simp only[E x (by simp[Op.operands])]
 |convert s d x=>simp only[E x (by simp[Op.operands]),VD T (M x (by simp[Op.operands]))]
 |makeInterface t x=>simp only[E x (by simp[Op.operands])]
 |makeFunc f first cap=>simp only[A1 cap.toList (λx H=>E x (by simp[Op.operands];right;simpa using H)),A1 first.toList (λx H=>E x (by simp[Op.operands];left;simpa using H))]
 |makeSlice t l c=>simp only[E l (by simp[Op.operands]),E c (by simp[Op.operands]),VE T]
 |build t ps=>simp only[A5 ps.toList (λx H=>E x.2 (by simp only[Op.operands,List.toList_toArray,acF];exact⟨x,H,rfl⟩))]
 |buildSlice t n ps=>simp only[A5 ps.toList (λx H=>E x.2 (by simp only[Op.operands,List.toList_toArray,acF];exact⟨x,H,rfl⟩)),Gg T]
 |extract x i=>simp only[E x (by simp[Op.operands])]
 |field s x f=>simp only[E x (by simp[Op.operands])]
 |typeAssert x AL t ok=>simp only[E x (by simp[Op.operands])]
 |call c=>
  obtain⟨callee,args,AF⟩:=c;cases callee with
  |builtin b=>
   have U:∀x∈args.toList,I.ar x=S.ar x:=λx H=>E x (by simp[Op.operands,Call.operands];simpa using H);have V:∀x∈args.toList,∀k∈cF (S.ar x).2,Mem.get I.mem k=Mem.get S.mem k:=λx H=>M x (by simp[Op.operands,Call.operands];simpa using H);simp only
   unfold mZ;have em:=A1 args.toList U;generalize args.toList=AM at U V em;generalize AF.toList=AN;split
   ·rename_i x t;simp only[U x (by simp),ZB (V x (by simp))]
   ·rename_i s x t u;simp only[U x (by simp),U s (by simp),VF T (V s (by simp)) (V x (by simp))]
   ·rename_i s x t u;simp only[U x (by simp),U s (by simp),VG (V s (by simp)) (V x (by simp))]
   ·simp only[em]
   ·simp only[em]
   ·rename_i x t;simp only[U x (by simp)]
   ·rfl
  |_=>rfl
 |_=>rfl
structure bf where
 ks:List Nat
 es:List dk
 g:Bool
 x:AV
def bf.app(p:bf)(o:Oper)(S:St):St:=({S with mem:=bS S.mem p.es}:St).put o.dst p.g p.x
def acA(all:List Oper)(j:Nat):List Nat:=
 match all[j]? with
 |some o=>match o.dst with|some t=>[t]|none=>[]
 |none=>[]
def looks(all:List Oper)(o:Oper):List Nat:=
 (o.op.operands.toList.filterMap λ| .tmp t=>some t|_=>none)++(match o.guard with|some (j,_)=>acA all j|none=>[])
structure mh(all:List Oper)(o:Oper)(ks:List Nat)(H S:St):Prop where
 n:H.n=S.n
 gl:H.gl=S.gl
 keys:H.mem.map (·.key)=S.mem.map (·.key)
 env:∀t∈looks all o,Env.lk H.env t=Env.lk S.env t
 mem:∀k∈ks,Mem.get H.mem k=Mem.get S.mem k
def mi(P:Program)(all:List Oper)(S:St)(o:Oper)(p:bf):Prop:=
 ∀H,mh all o p.ks H S->∀φ G a w,Rel φ G H a w->∀(next:Act->World->Prop)(R:Exit->Act->World->Prop),
  (∀φ' A9 w',Rel φ' G (p.app o H) A9 w'->aZ φ H.mem w φ' (p.app o H).mem w'->next A9 w')->
  if Region.wanted o (yielded all.toArray a.tmps)then o.wp P a w next R else next (a.put o.dst undef) w
def uY(P:Program)(A0:Mem->Prop)(all:List Oper)(S:St)(o:Oper)(p:bf):Prop:=
 ∀H,mh all o p.ks H S->A0 H.mem->∀φ G a w,Rel φ G H a w->∀(next:Act->World->Prop)(R:Exit->Act->World->Prop),
  (∀φ' A9 w',Rel φ' G (p.app o H) A9 w'->aZ φ H.mem w φ' (p.app o H).mem w'->next A9 w')->
  if Region.wanted o (yielded all.toArray a.tmps)then o.wp P a w next R else next (a.put o.dst undef) w
theorem mi.toI{P:Program}{A0:Mem->Prop}{all:List Oper}{S:St}{o:Oper}{p:bf}(h:mi P all S o p):uY P A0 all S o p:=λH AQ _=>h H AQ
inductive Cert(P:Program)(A0:Mem->Prop)(all:List Oper):List Oper->St->List bf->St->Prop
 |nil (S):Cert P A0 all [] S [] S
 |cons (o rest S p ps S1) (M:∀e∈p.es,e.key∈p.ks) (B5:∀m,A0 m->A0 (bS m p.es)) (h:uY P A0 all S o p) (A5:Cert P A0 all rest (p.app o S) ps S1):Cert P A0 all (o::rest) S (p::ps) S1
def fE(o:Oper):List Nat:=(o.after.toList.filter (Region.binds .any)).map (·.on)
def iN:List Oper->List (List Nat)->List (List Nat)
 |[],V=>V
 |o::r,V=>iN r (V++[((fE o).flatMap λp=>p::V.getD p []).eraseDups])
def sr(l r:List Nat):Bool:=l.all λx=>!r.contains x
def BO(all:List Oper)(o T:Oper)(p A4:bf):Bool:=
 sr o.dst.toList (looks all T)&&sr T.dst.toList (looks all o)&&sr o.dst.toList T.dst.toList&&sr (p.es.map (·.key)) A4.ks&&sr (A4.es.map (·.key)) p.ks
def Kr(all:List Oper)(ps:List bf)(Aq:List (List Nat))(j:Nat):Bool:=
 match all[j]?,ps[j]? with
 |some o,some p=>(fE o).all (λi=>decide (i<j))&&(List.range j).all λi=>(Aq.getD j []).contains i||(match all[i]?,ps[i]? with
  |some T,some A4=>BO all T o A4 p
  |_,_=>false)
 |_,_=>false
def oX(all:List Oper)(ps:List bf):Bool:=(List.range all.length).all (Kr all ps (iN all []))
theorem D6:∀(l:List Oper)(V:List (List Nat)),∃r,iN l V=V++r/\r.length=l.length
 |[],V=>⟨[],by simp[iN]⟩
 |o::l,V=>by
  obtain⟨r,J,O⟩:=D6 l (V++[((fE o).flatMap λp=>p::V.getD p []).eraseDups]);exact⟨((fE o).flatMap λp=>p::V.getD p []).eraseDups::r,by rw[iN,J,aea,List.singleton_append],by simp[O]⟩
theorem mem_eraseDups{l:List Nat}{x:Nat}:x∈l.eraseDups↔x∈l:=List.mem_eraseDups
theorem I3:∀(l:List Oper)(V:List (List Nat))(j:Nat)(o:Oper),l[j]?=some o->(∀p∈fE o,p<V.length+j)->
 ∀i,i∈(iN l V).getD (V.length+j) []↔∃p∈fE o,i=p\/i∈(iN l V).getD p []
 |[],V,j,o,h,_=>by simp at h
 |x::l,V,j,o,h,I=>by
  simp only[iN];cases j with
  |zero=>
   simp at h;subst h;obtain⟨r,J,_⟩:=D6 l (V++[((fE x).flatMap λp=>p::V.getD p []).eraseDups]);rw[J];intro i;have A6:(V++[((fE x).flatMap λp=>p::V.getD p []).eraseDups]++r).getD (V.length+0) []=((fE x).flatMap λp=>p::V.getD p []).eraseDups:=by
    simp[adX,aea]
   rw[A6,mem_eraseDups,List.mem_flatMap];constructor
   ·rintro ⟨p,AD,hi⟩;refine⟨p,AD,?_⟩;have AT:=I p AD;rcases aco.1 hi with rfl|hi
    ·exact .inl rfl
    ·right;rw[adX]at hi⊢;rw[aea,acB (by omega)];exact hi
   ·rintro ⟨p,AD,hi⟩;refine⟨p,AD,?_⟩;have AT:=I p AD;rcases hi with rfl|hi
    ·simp
    ·rw[adX,aea,acB (by omega),<-adX]at hi;exact afX _ hi
  |succ j=>
   have:=I3 l (V++[((fE x).flatMap λp=>p::V.getD p []).eraseDups]) j o (by simpa using h) (λp AD=>by have:=I p AD;simp;omega);simp only[acm,acq,acw]at this;rw[show V.length+(j+1)=V.length+(0+1)+j by omega];exact this
theorem lD{all:List Oper}{L:Nat->Prop}(I:∀j o,all[j]?=some o->∀p∈fE o,p<j)(BJ:∀j o,all[j]?=some o->L j->∀p∈fE o,L p):
 ∀j,(∃o,all[j]?=some o)->∀i,i∈(iN all []).getD j []->i<j/\((∀o,all[j]?=some o->∀p∈fE o,L p)->L i):=by
 intro j;induction j using Nat.strongRecOn with
 |_ j ih=>
  rintro ⟨o,E⟩ i hi;have AL:=(I3 all [] j o E (λp AD=>by simpa using I j o E p AD) i);simp only[acw,aeh]at AL;obtain⟨p,AD,h⟩:=AL.1 hi;have AU:=I j o E p AD;rcases h with rfl|h
  ·exact⟨AU,λhh=>hh o E i AD⟩
  ·have BK:j<all.length:=(ace.1 E).1;obtain⟨op,BL⟩:∃op,all[p]?=some op:=⟨all[p],by simp[show p<all.length by omega]⟩;obtain⟨J,O⟩:=ih p AU ⟨op,BL⟩ i h;exact⟨by omega,λhh=>O (λT U q A8=>BJ p T U (hh o E p AD) q A8)⟩
def aL(all:List Oper)(ps:List bf)(S:St)(l:List Nat):St:=
 l.foldl (λS i=>match all[i]?,ps[i]? with|some o,some p=>p.app o S|_,_=>S) S
theorem xf(p:bf)(o:Oper)(S:St):(p.app o S).n=S.n:=by simp[bf.app,nW]
theorem tP(p:bf)(o:Oper)(S:St):(p.app o S).gl=S.gl:=by cases h:o.dst<;>simp[bf.app,h,St.put]
theorem EG(p:bf)(o:Oper)(S:St):(p.app o S).mem.map (·.key)=S.mem.map (·.key):=by simp[bf.app,gz,lV]
theorem vW(p:bf)(o:Oper)(S:St)(t:Nat):Env.lk (p.app o S).env t=if o.dst=some t then some (p.g,p.x)else Env.lk S.env t:=by
 cases A2:o.dst with
 |none=>simp[bf.app,St.put,A2]
 |some d=>
  by_cases h:d=t
  ·subst h;simp[bf.app,St.put,A2,Env.lk]
  ·simp[bf.app,St.put,A2,Env.lk,h]
theorem AZ:∀(es:List dk)(m:Mem)(k:Nat),k∉es.map (·.key)->Mem.get (bS m es) k=Mem.get m k
 |[],m,k,_=>rfl
 |e::r,m,k,h=>by
  simp only[adM,aco,akN]at h;rw[bS,AZ r _ k h.2,Mem.qO (λhe=>h.1 he.symm)]
theorem pV:∀(es:List dk)(m m':Mem)(k:Nat),m.map (·.key)=m'.map (·.key)->(k∈es.map (·.key)\/Mem.get m k=Mem.get m' k)->Mem.get (bS m es) k=Mem.get (bS m' es) k
 |[],m,m',k,_,h=>by simpa [bS]using h
 |e::r,m,m',k,M,h=>by
  simp only[bS];refine pV r _ _ k (by rw[Mem.iI,Mem.iI,M]) ?_;by_cases he:e.key=k
  ·right;subst he;by_cases Ag:e.key∈m.map (·.key)
   ·rw[Mem.qN Ag,Mem.qN (M▸Ag)]
   ·have B6:∀(m:Mem),e.key∉m.map (·.key)->Mem.get (Mem.set m e) e.key=none:=by
     intro m hm;cases AR:Mem.get (Mem.set m e) e.key with
     |none=>rfl
     |some y=>
      obtain⟨J,O⟩:=Mem.get_mem AR;have:y.key∈(Mem.set m e).map (·.key):=adL J;rw[Mem.iI,O]at this;exact absurd this hm
    rw[B6 m Ag,B6 m' (M▸Ag)]
  ·rw[Mem.qO he,Mem.qO he];rcases h with h|h
   ·simp only[adM,aco]at h;rcases h with h|h
    ·exact absurd h.symm he
    ·exact .inl h
   ·exact .inr h
theorem Gi(p:bf)(o:Oper)(S:St)(k:Nat)(h:k∉p.es.map (·.key)):Mem.get (p.app o S).mem k=Mem.get S.mem k:=by
 simp only[bf.app,gz];exact AZ _ _ _ h
section
variable {all:List Oper} {ps:List bf} {S:St}
theorem p7(l:List Nat):∀(S:St),(aL all ps S l).n=S.n:=by
 induction l with
 |nil=>exact λ_=>rfl
 |cons i l ih=>
  intro S;have A6:aL all ps S (i::l)=aL all ps (aL all ps S [i]) l:=by simp[aL]
  rw[A6,ih];simp only[aL,af1,aht];split
  ·exact xf ..
  ·rfl
theorem ot(l:List Nat):∀(S:St),(aL all ps S l).gl=S.gl:=by
 induction l with
 |nil=>exact λ_=>rfl
 |cons i l ih=>
  intro S;have A6:aL all ps S (i::l)=aL all ps (aL all ps S [i]) l:=by simp[aL]
  rw[A6,ih];simp only[aL,af1,aht];split
  ·exact tP ..
  ·rfl
theorem fF(l:List Nat):∀(S:St),(aL all ps S l).mem.map (·.key)=S.mem.map (·.key):=by
 induction l with
 |nil=>exact λ_=>rfl
 |cons i l ih=>
  intro S;have A6:aL all ps S (i::l)=aL all ps (aL all ps S [i]) l:=by simp[aL]
  rw[A6,ih];simp only[aL,af1,aht];split
  ·exact EG ..
  ·rfl
theorem pW(l B7:List Nat)(S:St):aL all ps S (l++B7)=aL all ps (aL all ps S l) B7:=by simp[aL]
theorem xg(t:Nat)(q:Nat->Bool)(l:List Nat):∀(S H:St),(∀i∈l,∀o,all[i]?=some o->o.dst=some t->q i=true)->Env.lk S.env t=Env.lk H.env t->Env.lk (aL all ps S l).env t=Env.lk (aL all ps H (l.filter q)).env t:=by
 induction l with
 |nil=>intro S H _ h;exact h
 |cons i l ih=>
  intro S H A8 h;have A6:aL all ps S (i::l)=aL all ps (aL all ps S [i]) l:=by simp[aL]
  have AX:∀AF∈l,∀o,all[AF]?=some o->o.dst=some t->q AF=true:=λAF Ar=>A8 AF (afX _ Ar);rw[A6];by_cases A7:q i=true
  ·rw[List.filter_cons_of_pos A7];have AM:aL all ps H (i::l.filter q)=aL all ps (aL all ps H [i]) (l.filter q):=by simp[aL]
   rw[AM];refine ih _ _ AX ?_;simp only[aL,af1,aht];split
   ·rw[vW,vW,h]
   ·exact h
  ·rw[apf A7];refine ih _ _ AX ?_;simp only[aL,af1,aht];split
   ·rename_i o p E I;rw[vW,ach (λA2=>A7 (A8 i (by simp) o E A2)),h]
   ·exact h
theorem oY(k:Nat)(q:Nat->Bool)(l:List Nat):∀(S H:St),(∀i∈l,∀p,ps[i]?=some p->k∈p.es.map (·.key)->q i=true)->S.mem.map (·.key)=H.mem.map (·.key)->Mem.get S.mem k=Mem.get H.mem k->Mem.get (aL all ps S l).mem k=Mem.get (aL all ps H (l.filter q)).mem k:=by
 induction l with
 |nil=>intro S H _ _ h;exact h
 |cons i l ih=>
  intro S H A8 M h;have A6:aL all ps S (i::l)=aL all ps (aL all ps S [i]) l:=by simp[aL]
  have AX:∀AF∈l,∀p,ps[AF]?=some p->k∈p.es.map (·.key)->q AF=true:=λAF Ar=>A8 AF (afX _ Ar);rw[A6];by_cases A7:q i=true
  ·rw[List.filter_cons_of_pos A7];have AM:aL all ps H (i::l.filter q)=aL all ps (aL all ps H [i]) (l.filter q):=by simp[aL]
   rw[AM];refine ih _ _ AX (by rw[fF,fF,M]) ?_;simp only[aL,af1,aht];split
   ·simp only[bf.app,gz];exact pV _ _ _ k M (.inr h)
   ·exact h
  ·rw[apf A7];refine ih _ _ AX (by rw[fF,M]) ?_;simp only[aL,af1,aht];split
   ·rename_i o p E I;rw[Gi _ _ _ _ (λA2=>A7 (A8 i (by simp) p I A2)),h]
   ·exact h
end
structure iO(H S:St):Prop where
 n:H.n=S.n
 gl:H.gl=S.gl
 mem:H.mem=S.mem
 env:∀t,Env.lk H.env t=Env.lk S.env t
theorem Rel.eqv{φ G S H a w}(h:Rel φ G H a w)(he:iO H S):Rel φ G S a w:=
 ⟨by rw[<-he.n];exact h.size,h.defers,λt x Ah=>by rw[<-he.mem];exact h.env t x (by rw[he.env];exact Ah),by rw[<-he.mem];exact h.mem,by rw[<-he.gl,<-he.mem];exact h.mm⟩
theorem Mem.ext{m m':Mem}(AY:(m.map (·.key)).Nodup)(M:m.map (·.key)=m'.map (·.key))(h:∀k,Mem.get m k=Mem.get m' k):m=m':=by
 induction m generalizing m' with
 |nil=>cases m' with|nil=>rfl|cons _ _=>simp at M
 |cons e r ih=>
  cases m' with
  |nil=>simp at M
  |cons e' Bl=>
   simp only[adM,List.cons.injEq]at M;simp only[adM,List.nodup_cons]at AY;have AN:=h e.key;simp only[Mem.get,adZ,M.1]at AN;cases AN;congr 1;refine ih AY.2 M.2 λk=>?_;have:=h k;simp only[Mem.get]at this;by_cases he:e.key=k
   ·subst he;have nn:∀{r:Mem},e.key∉r.map (·.key)->Mem.get r e.key=none:=by
     intro r A5;cases AR:Mem.get r e.key with
     |none=>rfl
     |some y=>obtain⟨J,O⟩:=Mem.get_mem AR;exact absurd (O▸adL J) A5
    rw[nn AY.1,nn (by rw[<-M.2];exact AY.1)]
   ·simpa [he]using this
def jE(n:Nat)(f:Nat->Bool):List Nat:=(List.range n).filter f
theorem D7{j n:Nat}(h:j<n):List.range n=List.range j++j::List.range' (j+1) (n-j-1):=by
 have O:(j::List.range' (j+1) (n-j-1))=List.range' j (n-j):=by
  rw[show n-j=(n-j-1)+1 by omega,ai0];simp
 rw[O,List.range_eq_range',List.range_eq_range'];rw[show List.range' 0 n=List.range' 0 (j+(n-j)) by rw[show j+(n-j)=n by omega]];rw[<-List.range'_append_1];simp
theorem BP{j n:Nat}{f:Nat->Bool}(h:j<n)(AG:f j=false):jE n f=(List.range j).filter f++(List.range' (j+1) (n-j-1)).filter f:=by
 rw[jE,D7 h,aji,apf (by simp[AG])]
theorem Sx{j n:Nat}{f g:Nat->Bool}(h:j<n)(AR:g j=true)(B8:∀i,i≠j->g i=f i):jE n g=(List.range j).filter f++j::(List.range' (j+1) (n-j-1)).filter f:=by
 rw[jE,D7 h,aji,List.filter_cons_of_pos AR];congr 1
 ·exact akc λi hi=>B8 i (by have:=adP.1 hi;omega)
 ·congr 1;exact akc λi hi=>B8 i (by have:=aph.1 hi;omega)
theorem tQ{l r:List Nat}(h:sr l r=true){x:Nat}(Y:x∈l)(A5:x∈r):False:=by
 have:=acI.1 h x Y;simp at this;exact this A5
structure Gj(all:List Oper)(o T:Oper)(p A4:bf):Prop where
 a:∀t,o.dst=some t->t∉looks all T
 b:∀t,T.dst=some t->t∉looks all o
 c:∀t,o.dst=some t->T.dst≠some t
 d:∀k∈p.es.map (·.key),k∉A4.ks
 e:∀k∈A4.es.map (·.key),k∉p.ks
theorem ON{all o T p A4}(h:BO all o T p A4=true):Gj all o T p A4:=by
 simp only[BO,Ds]at h;obtain⟨⟨⟨⟨J,O⟩,AS⟩,BM⟩,BN⟩:=h;exact⟨λt AO Y=>tQ J (by simp[AO]) Y,λt AO Y=>tQ O (by simp[AO]) Y,λt AO Y=>tQ AS (x:=t) (by simp[AO]) (by simp[Y]),λk M Y=>tQ BM M Y,λk M Y=>tQ BN M Y⟩
section
variable {all:List Oper} {ps:List bf}
theorem fq(h:oX all ps=true){j:Nat}{o:Oper}(E:all[j]?=some o):∃p,ps[j]?=some p/\(∀i∈fE o,i<j)/\
 ∀i,i<j->i∈(iN all []).getD j []\/∃T A4,all[i]?=some T/\ps[i]?=some A4/\Gj all T o A4 p:=by
 have Z:j<all.length:=(ace.1 E).1;have J:=acI.1 h j (adP.2 Z);unfold Kr at J;rw[E]at J;cases I:ps[j]? with
 |none=>rw[I]at J;simp at J
 |some p=>
  rw[I]at J;simp only[Ds,acI,acn,agv,adP]at J;refine⟨p,rfl,J.1,λi hi=>?_⟩;rcases J.2 i hi with O|O
  ·exact .inl (by simpa using O)
  ·right;split at O
   ·rename_i T A4 U AC;exact⟨T,A4,U,AC,ON O⟩
   ·cases O
theorem Cert.at{P:Program}{A0:Mem->Prop}{rest:List Oper}{S0 S:St}{As:List bf}{S1:St}(h:Cert P A0 all rest S As S1):∀(pre:List Oper)(pp:List bf),pre.length=pp.length->all=pre++rest->ps=pp++As->aL all ps S0 (List.range pre.length)=S->
 aL all ps S0 (List.range all.length)=S1/\ps.length=all.length/\∀j o p,pre.length<=j->all[j]?=some o->ps[j]?=some p->(∀e∈p.es,e.key∈p.ks)/\(∀m,A0 m->A0 (bS m p.es))/\uY P A0 all (aL all ps S0 (List.range j)) o p:=by
 induction h with
 |nil S=>
  intro pre pp Y AQ A_ Ai;simp only[ad9]at AQ A_;subst AQ A_;refine⟨Ai,Y.symm,λj o p Z E _=>?_⟩;rw[agB (by omega)]at E;cases E
 |cons o rest S p As S1 M B5 Aa A5 ih=>
  intro pre pp Y AQ A_ Ai;have A6:all[pre.length]?=some o:=by rw[AQ];simp
  have AM:ps[pre.length]?=some p:=by rw[A_,Y];simp
  obtain⟨J,O,AS⟩:=ih (pre++[o]) (pp++[p]) (by simp[Y]) (by rw[AQ];simp) (by rw[A_];simp) (by
   rw[acm,af0,List.range_succ,pW,Ai];simp[aL,A6,AM])
  refine⟨J,O,λj T A4 Z U AC=>?_⟩;rcases Nat.eq_or_lt_of_le Z with rfl|Z
  ·rw[A6]at U;rw[AM]at AC;cases U;cases AC;exact⟨M,B5,by rw[Ai];exact Aa⟩
  ·exact AS j T A4 (by simp;omega) U AC
variable {S:St} {f:Nat->Bool}
def qZ(all:List Oper)(f:Nat->Bool):Prop:=∀j o,all[j]?=some o->f j=true->∀p∈fE o,f p=true
theorem s4(Aj:ps.length=all.length)(AA:oX all ps=true)(AI:qZ all f){j:Nat}{o:Oper}{p:bf}(E:all[j]?=some o)(I:ps[j]?=some p)(Z:f j=false)(Ak:∀i∈fE o,f i=true):
 mh all o p.ks (aL all ps S (jE all.length f)) (aL all ps S (List.range j)):=by
 have AT:j<all.length:=(ace.1 E).1;have Al:∀j o,all[j]?=some o->∀p∈fE o,p<j:=λj o E=>(fq AA E).choose_spec.2.1;obtain⟨Bm,B9,_,BQ⟩:=fq AA E;rw[I]at B9;cases B9
 --Bn Bo ahead of j is D
 have BA:∀i∈(iN all []).getD j [],i<j/\f i=true:=λi hi=>by
  obtain⟨J,O⟩:=lD (L:=λi=>f i=true) Al (λj o E AG=>AI j o E AG) j ⟨o,E⟩ i hi;exact⟨J,O λT U=>by rw[E]at U;cases U;exact Ak⟩
 let q:Nat->Bool:=λi=>(iN all []).getD j [] |>.contains i
 have A8:∀i,q i=true↔i∈(iN all []).getD j []:=λi=>by simp[q]
 --any other D one,and any other ahead in BR text,is apart
 have BB:∀i,(i<j\/(j<i/\f i=true))->q i=false->∀A1 pi,all[i]?=some A1->ps[i]?=some pi->Gj all A1 o pi p\/Gj all o A1 p pi:=by
  rintro i (hi|⟨hi,AW⟩) A7 A1 pi A' A3
  ·rcases BQ i hi with h|⟨T,A4,U,AC,h⟩
   ·rw[(A8 i).2 h]at A7;cases A7
   ·rw[A']at U;rw[A3]at AC;cases U;cases AC;exact .inl h
  ·obtain⟨BS,Ab,_,At⟩:=fq AA A';rw[A3]at Ab;cases Ab;rcases At j hi with h|⟨T,A4,U,AC,h⟩
   ·have:=(lD (L:=λi=>f i=true) Al (λj o E AG=>AI j o E AG) i ⟨A1,A'⟩ j h).2 (λT U=>by rw[A']at U;cases U;exact AI i A1 A' AW);simp[Z]at this
   ·rw[E]at U;rw[I]at AC;cases U;cases AC;exact .inr h
 have BC:(jE all.length f).filter q=(List.range j).filter q:=by
  rw[BP AT Z,aji,ajf,ajf];have:(List.range' (j+1) (all.length-j-1)).filter (λa=>q a&&f a)=[]:=by
   rw[ahk];intro i hi;have:=(aph.1 hi).1;simp only[Ds,not_and];intro A7;have:=(BA i ((A8 i).1 A7)).1;omega
  rw[this,ad9];refine akc λi hi=>?_;cases A7:q i with
  |false=>rfl
  |true=>simp[(BA i ((A8 i).1 A7)).2]
 have Y:∀i∈jE all.length f,i<j\/(j<i/\f i=true):=λi hi=>by
  have AW:=(aeg.1 hi).2;rcases Nat.lt_trichotomy i j with h|h|h
  ·exact .inl h
  ·subst h;simp[Z]at AW
  ·exact .inr ⟨h,AW⟩
 have A5:∀i∈List.range j,i<j\/(j<i/\f i=true):=λi hi=>.inl (adP.1 hi);refine⟨by rw[p7,p7],by rw[ot,ot],by rw[fF,fF],λt AO=>?_,λk M=>?_⟩
 ·have key:∀l:List Nat,(∀i∈l,i<j\/(j<i/\f i=true))->∀i∈l,∀A1,all[i]?=some A1->A1.dst=some t->q i=true:=by
   intro l Y i hi A1 A' A2;cases A7:q i with
   |true=>rfl
   |false=>
    obtain⟨pi,A3,_⟩:=fq AA A';rcases BB i (Y i hi) A7 A1 pi A' A3 with h|h
    ·exact absurd AO (h.a t A2)
    ·exact absurd AO (h.b t A2)
  rw[xg t q _ S S (key _ Y) rfl,xg t q (List.range j) S S (key _ A5) rfl,BC]
 ·have key:∀l:List Nat,(∀i∈l,i<j\/(j<i/\f i=true))->∀i∈l,∀pi,ps[i]?=some pi->k∈pi.es.map (·.key)->q i=true:=by
   intro l Y i hi pi A3 A2;cases A7:q i with
   |true=>rfl
   |false=>
    have An:i<ps.length:=(ace.1 A3).1;cases A':all[i]? with
    |none=>
     rw[List.getElem?_eq_none_iff]at A';omega
    |some A1=>
     rcases BB i (Y i hi) A7 A1 pi A' A3 with h|h
     ·exact absurd M (h.d k A2)
     ·exact absurd M (h.e k A2)
  rw[oY k q _ S S (key _ Y) rfl rfl,oY k q (List.range j) S S (key _ A5) rfl rfl,BC]
theorem zW(Aj:ps.length=all.length)(AA:oX all ps=true)(AI:qZ all f)(Au:∀(j:Nat) (p:bf),ps[j]?=some p->∀e∈p.es,e.key∈p.ks)(Av:(S.mem.map (·.key)).Nodup){j:Nat}{o:Oper}{p:bf}(E:all[j]?=some o)(I:ps[j]?=some p)(Z:f j=false){g:Nat->Bool}(AR:g j=true)(BT:∀i,i≠j->g i=f i):
 iO (p.app o (aL all ps S (jE all.length f))) (aL all ps S (jE all.length g)):=by
 have AT:j<all.length:=(ace.1 E).1;have Al:∀j o,all[j]?=some o->∀p∈fE o,p<j:=λj o E=>(fq AA E).choose_spec.2.1;have Aw:∀i∈(List.range' (j+1) (all.length-j-1)).filter f,∀A1 pi,all[i]?=some A1->ps[i]?=some pi->Gj all o A1 p pi:=by
  intro i hi A1 pi A' A3;obtain⟨hi,AW⟩:=aeg.1 hi;have Bp:=(aph.1 hi).1;obtain⟨BS,Ab,_,At⟩:=fq AA A';rw[A3]at Ab;cases Ab;rcases At j (by omega)with h|⟨T,A4,U,AC,h⟩
  ·have:=(lD (L:=λi=>f i=true) Al (λj o E AG=>AI j o E AG) i ⟨A1,A'⟩ j h).2 (λT U=>by rw[A']at U;cases U;exact AI i A1 A' AW);simp[Z]at this
  ·rw[E]at U;rw[I]at AC;cases U;cases AC;exact h
 rw[Sx AT AR BT,BP AT Z];generalize BV:(List.range j).filter f=AE;generalize BW:(List.range' (j+1) (all.length-j-1)).filter f=AH at Aw;have BX:∀i∈AE++AH,i≠j:=by
  intro i hi;rw[<-BV,<-BW]at hi;rcases acC.1 hi with h|h
  ·have:=adP.1 (aeg.1 h).1;omega
  ·have:=(aph.1 (aeg.1 h).1).1;omega
 have BY:∀{i pi},ps[i]?=some pi->∃A1,all[i]?=some A1:=λ{i pi} h=>by
  have:=(ace.1 h).1;exact⟨all[i]'(by omega),adK _⟩
 let q:Nat->Bool:=λi=>i != j
 have BD:(AE++j::AH).filter q=AE++AH:=by
  rw[aji,apf (by simp[q]),<-aji,List.filter_eq_self];intro i hi;simpa [q]using BX i hi
 have BE:∀S,aL all ps S (AE++j::AH)=aL all ps (p.app o (aL all ps S AE)) AH:=λS=>by
  rw[pW];simp[aL,E,I]
 have BZ:(p.app o (aL all ps S (AE++AH))).mem.map (·.key)=(aL all ps S (AE++j::AH)).mem.map (·.key):=by
  rw[EG,fF,fF]
 refine⟨by rw[xf,p7,p7],by rw[tP,ot,ot],Mem.ext (by rw[EG,fF];exact Av) BZ λk=>?_,λt=>?_⟩
 ·by_cases M:k∈p.es.map (·.key)
  ·have J:Mem.get (p.app o (aL all ps S (AE++AH))).mem k=Mem.get (p.app o (aL all ps S AE)).mem k:=by
    simp only[bf.app,gz];exact pV _ _ _ k (by rw[fF,fF]) (.inl M)
   rw[J,BE];rw[oY k (λ_=>false) AH _ (p.app o (aL all ps S AE)) ?_ rfl rfl]
   ·rw[ahk.2 (by simp)];rfl
   ·intro i hi pi A3 AJ;obtain⟨A1,A'⟩:=BY A3;have:=(Aw i hi A1 pi A' A3).e k AJ;obtain⟨e,he,rfl⟩:=acF.1 M;exact absurd (Au j p I e he) this
  ·rw[Gi _ _ _ _ M,oY k q (AE++j::AH) S S ?_ rfl rfl,BD];intro i hi pi A3 AJ;by_cases Ac:i=j
   ·subst Ac;rw[I]at A3;cases A3;exact absurd AJ M
   ·simpa [q]using Ac
 ·rw[vW];by_cases A2:o.dst=some t
  ·rw[acs A2,BE];rw[xg t (λ_=>false) AH _ (p.app o (aL all ps S AE)) ?_ rfl]
   ·rw[ahk.2 (by simp)];simp[aL,vW,A2]
   ·intro i hi A1 A' Ax;obtain⟨pi,A3,_⟩:=fq AA A';exact absurd Ax ((Aw i hi A1 pi A' A3).c t A2)
  ·rw[ach A2,xg t q (AE++j::AH) S S ?_ rfl,BD];intro i hi A1 A' Ax;by_cases Ac:i=j
   ·subst Ac;rw[E]at A';cases A';exact absurd Ax A2
   ·simpa [q]using Ac
theorem Sz{P:Program}{S0 S1:St}{φ0:cd}{G:Fr}{w0:World}{Q:Exit->Act->World->Prop}{A0:Mem->Prop}(Ay:A0 S0.mem)(Ad:Cert P A0 all all S0 ps S1)(AA:oX all ps=true)(Av:(S0.mem.map (·.key)).Nodup)
 (Az:∀φ' A9 w',Rel φ' G S1 A9 w'->aZ φ0 S0.mem w0 φ' S1.mem w'->Q .normal A9 w'):
 ∀(fuel:Nat)(D:Array Bool) φ a w,D.size=all.length->qZ all (λi=>D.getD i false)->Rel φ G (aL all ps S0 (jE all.length λi=>D.getD i false)) a w->aZ φ0 S0.mem w0 φ (aL all ps S0 (jE all.length λi=>D.getD i false)).mem w->
  ((List.range all.length).filter λi=>!D.getD i false).length<=fuel->wpAny P .any all.toArray Q fuel D a w:=by
 obtain⟨B',Aj,Aa⟩:=Cert.at (ps:=ps) (S0:=S0) Ad [] [] rfl rfl rfl rfl;have Au:∀(j:Nat)(p:bf),ps[j]?=some p->∀e∈p.es,e.key∈p.ks:=λj p I=>by
  have BK:j<ps.length:=(ace.1 I).1;exact (Aa j (all[j]'(by omega)) p (by simp) (by simp) I).1
 have B_:∀l:List Nat,A0 (aL all ps S0 l).mem:=by
  have key:∀(l:List Nat)(S:St),A0 S.mem->A0 (aL all ps S l).mem:=by
   intro l;induction l with
   |nil=>exact λ_ h=>h
   |cons i l ih=>
    intro S h;have A6:aL all ps S (i::l)=aL all ps (aL all ps S [i]) l:=by simp[aL]
    rw[A6];refine ih _ ?_;simp only[aL,af1,aht];split
    ·rename_i o p E I;simp only[bf.app,gz];exact (Aa i o p (by simp) E I).2.1 _ h
    ·exact h
  exact λl=>key l S0 Ay
 --BR first Bq Br D is ready
 have first:∀(f:Nat->Bool)(n:Nat),n<=all.length->(∀i,i<n->f i=true)\/∃i,i<n/\f i=false/\∀AF,AF<i->f AF=true:=by
  intro f n;induction n with
  |zero=>exact λ_=>.inl (λi hi=>by omega)
  |succ n ih=>
   intro AY;rcases ih (by omega)with h|⟨i,J,O,AS⟩
   ·cases AG:f n with
    |true=>
     refine .inl λi hi=>?_;rcases Nat.lt_succ_iff_lt_or_eq.1 hi with B0|B0
     ·exact h i B0
     ·rw[B0];exact AG
    |false=>exact .inr ⟨n,by omega,AG,h⟩
   ·exact .inr ⟨i,by omega,O,AS⟩
 have done:∀(D:Array Bool) φ a w,D.size=all.length->Rel φ G (aL all ps S0 (jE all.length λi=>D.getD i false)) a w->aZ φ0 S0.mem w0 φ (aL all ps S0 (jE all.length λi=>D.getD i false)).mem w->Region.ready .any all.toArray D=[]->Q .normal a w:=by
  intro D φ a w Ae A5 M Ao;have Ba:∀i,i<all.length->D.getD i false=true:=by
   rcases first (λi=>D.getD i false) all.length (ack _)with h|⟨i,J,O,AS⟩
   ·exact h
   ·exfalso;have:i∈Region.ready .any all.toArray D:=by
     rw[mem_ready];refine⟨?_,all[i],by simp[J],λe he B1=>?_⟩
     ·have:i<D.size:=by omega
      simp only[acH,agy this,af9]at O⊢;exact O
     ·obtain⟨p,_,I,_⟩:=fq AA (show all[i]?=some all[i] by simp[J]);exact AS e.on (I e.on (by
       simp only[fE,acF,aeg];exact⟨e,⟨by simpa using he,B1⟩,rfl⟩))
    rw[Ao]at this;cases this
  have Y:(jE all.length λi=>D.getD i false)=List.range all.length:=by
   rw[jE,List.filter_eq_self];intro i hi;exact Ba i (adP.1 hi)
  rw[Y,B']at A5 M;exact Az φ a w A5 M
 intro fuel;induction fuel with
 |zero=>
  intro D φ a w Ae AI A5 M AG;have Ao:Region.ready .any all.toArray D=[]:=by
   cases h:Region.ready .any all.toArray D with
   |nil=>rfl
   |cons i r=>
    exfalso;have hi:i∈Region.ready .any all.toArray D:=by rw[h];simp
    rw[mem_ready]at hi;obtain⟨AN,o,E,_⟩:=hi;have An:i<all.length:=by
     have:=(ad5.1 E).1;simpa using this
    have Af:D.getD i false=false:=by
     have:i<D.size:=by omega
     simp only[acH,agy this,af9]at AN⊢;exact AN
    have:i∈(List.range all.length).filter λi=>!D.getD i false:=aeg.2 ⟨adP.2 An,by simp[Af]⟩;have:=List.length_pos_of_mem this;omega
  exact⟨Ao,done D φ a w Ae A5 M Ao⟩
 |succ fuel ih=>
  intro D φ a w Ae AI A5 M AG;refine⟨done D φ a w Ae A5 M,λi hi=>?_⟩;rw[mem_ready]at hi;obtain⟨AN,o,E,Bb⟩:=hi;have U:all[i]?=some o:=by simpa using E
  have An:i<all.length:=(ace.1 U).1;have BF:i<D.size:=by omega
  have Af:D.getD i false=false:=by
   simp only[acH,agy BF,af9]at AN⊢;exact AN
  have Ak:∀k∈fE o,D.getD k false=true:=by
   intro k AP;simp only[fE,acF,aeg]at AP;obtain⟨e,⟨he,B1⟩,rfl⟩:=AP;exact Bb e (by simpa using he) B1
  obtain⟨p,I,_⟩:=fq AA U;obtain⟨Bs,_,Bc⟩:=Aa i o p (by simp) U I;have Bd:=s4 (S:=S0) Aj AA AI U I Af Ak;have B2:(D.setIfInBounds i true).getD i false=true:=by simp[BF]
  have Ap:∀k,k≠i->(D.setIfInBounds i true).getD k false=D.getD k false:=λk AP=>getD_set_ne false (ag0 AP);have heq:=zW (S:=S0) (f:=λi=>D.getD i false) (g:=λk=>(D.setIfInBounds i true).getD k false) Aj AA AI Au Av U I Af B2 Ap;have Be:qZ all (λk=>(D.setIfInBounds i true).getD k false):=by
   intro k ok B3 Bf x Ah;by_cases BG:x=i
   ·subst BG;exact B2
   ·show (D.setIfInBounds i true).getD x false=true;rw[Ap x BG];by_cases AJ:k=i
    ·subst AJ;rw[U]at B3;cases B3;exact Ak x Ah
    ·exact AI k ok B3 ((Ap k AJ).symm.trans Bf) x Ah
  have Bg:((List.range all.length).filter λk=>!(D.setIfInBounds i true).getD k false).length<=fuel:=by
   have J:(List.range all.length).filter (λk=>!(D.setIfInBounds i true).getD k false)=((List.range all.length).filter λk=>!D.getD k false).filter (λk=>k != i):=by
    rw[ajf];refine akc λk _=>?_;by_cases AJ:k=i
    ·subst AJ;rw[B2];simp
    ·rw[Ap k AJ];simp[AJ]
   have Bh:i∈(List.range all.length).filter λk=>!D.getD k false:=aeg.2 ⟨adP.2 An,by simp[Af]⟩;rw[J];have:(((List.range all.length).filter λk=>!D.getD k false).filter (λk=>k != i)).length<((List.range all.length).filter λk=>!D.getD k false).length:=by
    rw[ao6];exact⟨i,Bh,by simp⟩
   omega
  have AL:=Bc _ Bd (B_ _) φ G a w A5 (wpAny P .any all.toArray Q fuel (D.setIfInBounds i true)) Q (λφ' A9 w' B4 AP=>
   ih _ φ' A9 w' (by simpa using Ae) Be (B4.eqv heq) (by rw[<-heq.mem];exact M.trans AP) Bg)
  unfold wpOp;rw[E];simp only
  split at AL
  ·rename_i hw;rw[acs hw];exact .inl AL
  ·rename_i hw;rw[ach hw];exact AL
end
theorem OO{P:Program}{S S1:St}{id:Nat}{ops:List Oper}{ps:List bf}{A0:Mem->Prop}(Ay:A0 S.mem)(hm:P.follows .mixedOrders=true)(Ad:Cert P A0 ops ops S ps S1)(AA:oX ops ps=true){φ G a w}(A5:Rel φ G S a w){Q:Exit->Act->World->Prop}
 (Az:∀φ' A9 w',Rel φ' G S1 A9 w'->aZ φ S.mem w φ' S1.mem w'->Q .normal A9 w'):(Code.region id ops.toArray true).wp P Q a w:=by
 refine wp_region_any hm ?_;have Bj:Rel φ G S a {w with drawn:=w.drawn+1}:=A5.grow (λ_ _=>rfl) (ack _);have BH:(jE ops.length λi=>(Array.replicate ops.length false).getD i false)=[]:=by
  rw[jE,ahk];intro i hi;simp[acH,adP.1 hi]
 refine Sz (S0:=S) (φ0:=φ) (w0:=w) (G:=G) Ay Ad AA A5.mem.nodup (λφ' A9 w' B4 AP=>Az φ' A9 w' B4 AP) _ _ φ a _ (by simp) ?_ ?_ ?_ ?_
 ·intro j o _ Z;exfalso;simp only[acH]at Z;by_cases h:j<ops.length
  ·simp[h]at Z
  ·simp[h]at Z
 ·simp only[afZ];rw[BH];exact Bj
 ·simp only[afZ];rw[BH];exact aZ.grow (λ_ _=>rfl) (ack _) rfl rfl rfl
 ·simp only[afZ];exact agQ (List.length_filter_le _ _) (by simp)
theorem agz{P:Program}{A0:Mem->Prop}{ops:List Oper}{S S1:St}{ps:List bf}(Ad:Cert P A0 ops ops S ps S1):S1.n=S.n/\S1.gl=S.gl:=by
 obtain⟨B',_,_⟩:=Cert.at (ps:=ps) (S0:=S) Ad [] [] rfl rfl rfl rfl;rw[<-B'];exact⟨p7 ..,ot ..⟩
def EH(all:List Oper)(o T:Oper):Bool:=sr o.dst.toList (looks all T)&&sr T.dst.toList (looks all o)&&sr o.dst.toList T.dst.toList
def BU(all:List Oper)(AB:List (List Nat))(Aq:List (List Nat))(j:Nat):Bool:=
 match all[j]? with
 |some o=>(fE o).all (λi=>decide (i<j))&&(List.range j).all λi=>(Aq.getD j []).contains i||(match all[i]? with
  |some T=>EH all T o&&((AB.getD i []).contains j&&(AB.getD j []).contains i)
  |none=>false)
 |none=>false
def EI(all:List Oper)(AB:List (List Nat)):Bool:=(List.range all.length).all (BU all AB (iN all []))
def HY(ps:List bf)(es:List dk):List Nat->Bool
 |[]=>true
 |j::r=>(match ps[j]? with|some q=>sr (es.map (·.key)) q.ks|none=>false)&&HY ps es r
def HZ(ps:List bf)(AK:List Nat):List dk->Bool
 |[]=>true
 |e::es=>HY ps (e::es) AK
def zX(ps:List bf):List (List Nat)->List bf->Bool
 |_,[]=>true
 |[],p::r=>HZ ps [] p.es&&zX ps [] r
 |AK::AB,p::r=>HZ ps AK p.es&&zX ps AB r
def oy(AB:List (List Nat))(ps:List bf):Bool:=zX ps AB ps
theorem su{ps:List bf}:∀{AB:List (List Nat)}{l:List bf},zX ps AB l=true->∀i p,l[i]?=some p->HZ ps (AB.getD i []) p.es=true
 |_,[],_,i,p,I=>by simp at I
 |[],q::r,h,i,p,I=>by
  simp only[zX,Ds]at h;cases i with
  |zero=>simp at I;subst I;simpa using h.1
  |succ i=>have:=su h.2 i p (by simpa using I);simpa using this
 |AK::AB,q::r,h,i,p,I=>by
  simp only[zX,Ds]at h;cases i with
  |zero=>simp at I;subst I;simpa using h.1
  |succ i=>have:=su h.2 i p (by simpa using I);simpa using this
theorem LK{ps:List bf}{es:List dk}:∀{AK:List Nat},HY ps es AK=true->∀j∈AK,∀q,ps[j]?=some q->sr (es.map (·.key)) q.ks=true
 |[],_,j,Z,_,_=>by simp at Z
 |k::r,h,j,Z,q,A8=>by
  simp only[HY,Ds]at h;rcases aco.1 Z with rfl|Z
  ·have:=h.1;rw[A8]at this;exact this
  ·exact LK h.2 j Z q A8
theorem zY{ps:List bf}{AK:List Nat}:∀{es:List dk},HZ ps AK es=true->∀j∈AK,∀q,ps[j]?=some q->sr (es.map (·.key)) q.ks=true
 |[],_,_,_,_,_=>rfl
 |_::_,h,j,Z,q,A8=>LK h j Z q A8
theorem VK{all:List Oper}{AB:List (List Nat)}{ps:List bf}(AL:EI all AB=true)(A2:oy AB ps=true)(Y:ps.length=all.length):oX all ps=true:=by
 unfold oX;refine acI.2 λj Z=>?_;have J:=acI.1 AL j Z;have Bk:j<all.length:=adP.1 Z;unfold BU at J;unfold Kr;have AU:ps[j]?=some (ps[j]'(by omega)):=by simp[Y,Bk]
 rw[AU];cases E:all[j]? with
 |none=>rw[E]at J;cases J
 |some o=>
  rw[E]at J;simp only[Ds,acI,acn,agv,adP]at J⊢;refine⟨J.1,λi hi=>?_⟩;rcases J.2 i hi with O|O
  ·exact .inl O
  ·right;have A3:ps[i]?=some (ps[i]'(by omega)):=by simp[show i<ps.length by omega]
   cases A':all[i]? with
   |none=>rw[A']at O;cases O
   |some T=>
    rw[A']at O;rw[A3];simp only[Ds]at O;simp only[BO];have A6:=zY (su A2 i _ A3) j (by simpa using O.2.1) _ AU;have AM:=zY (su A2 j _ AU) i (by simpa using O.2.2) _ A3;have BI:=O.1;simp only[EH,Ds]at BI;simp only[Ds];exact⟨⟨BI,A6⟩,AM⟩
def EJ(all:List Oper):Prop:=∀i,i+1<all.length->i∈(iN all []).getD (all.length-1) []
theorem D8{all:List Oper}{AY:List (List Nat)}(V:EI all AY=true)(AZ:AY.getD (all.length-1) []=[]):EJ all:=by
 intro i hi;have M:=acI.1 V (all.length-1) (adP.2 (by omega));unfold BU at M;rw[adK (by omega)]at M;simp only[Ds,acI,agv,adP]at M;rcases M.2 i (by omega)with E|E
 ·simpa using E
 ·rw[adK (by omega)]at E;simp only[Ds]at E;have:=E.2.2;rw[AZ]at this;cases this
def D9:bf:=⟨[],[],false,.bm⟩
section
variable {all:List Oper} {ps:List bf}
theorem Cert.at2{P:Program}{I:Mem->Prop}{rest:List Oper}{S0 S:St}{U:List bf}{S1:St}(h:Cert P I all rest S U S1):∀(pre:List Oper)(pp:List bf)(AD:List Oper)(AE:List bf),pre.length=pp.length->all=pre++rest++AD->ps=pp++U++AE->aL all ps S0 (List.range pre.length)=S->
 aL all ps S0 (List.range (pre.length+rest.length))=S1/\U.length=rest.length/\∀j o p,pre.length<=j->j<pre.length+rest.length->all[j]?=some o->ps[j]?=some p->(∀e∈p.es,e.key∈p.ks)/\(∀m,I m->I (bS m p.es))/\uY P I all (aL all ps S0 (List.range j)) o p:=by
 induction h with
 |nil S=>
  intro pre pp AD AE A8 AK y AF;exact⟨by simpa using AF,rfl,λj o p Y AL _=>by simp at AL;omega⟩
 |cons o rest S p U S1 A0 Ao A9 c ih=>
  intro pre pp AD AE A8 AK y AF;have A1:all[pre.length]?=some o:=by rw[AK];simp
  have A_:ps[pre.length]?=some p:=by rw[y,A8];simp
  obtain⟨M,E,AA⟩:=ih (pre++[o]) (pp++[p]) AD AE (by simp[A8]) (by rw[AK];simp) (by rw[y];simp) (by
   rw[acm,af0,List.range_succ,pW,AF];simp[aL,A1,A_])
  refine⟨by rw[<-M];simp;congr 2;omega,by simp[E],λj Aa Ap Y AL O AM=>?_⟩;rcases Nat.eq_or_lt_of_le Y with rfl|Y
  ·rw[A1]at O;rw[A_]at AM;cases O;cases AM;exact⟨A0,Ao,by rw[AF];exact A9⟩
  ·exact AA j Aa Ap (by simp;omega) (by simp at AL⊢;omega) O AM
theorem SA{P:Program}{S0 S1:St}{φ0:cd}{G:Fr}{w0:World}{Q:Exit->Act->World->Prop}{I:Mem->Prop}{init:List Oper}{ol:Oper}(A2:all=init++[ol])(AN:EJ all)(AO:I S0.mem){U:List bf}(AP:Cert P I all init S0 U S1)(y:ps=U++[D9])(A':oX all ps=true)(Aq:(S0.mem.map (·.key)).Nodup)
 (AQ:∀φ a w,Rel φ G S1 a w->aZ φ0 S0.mem w0 φ S1.mem w->∀next:Act->World->Prop,(∀J w',Q .normal J w'->next J w')->if Region.wanted ol (yielded all.toArray a.tmps)then ol.wp P a w next Q else next (a.put ol.dst undef) w):
 ∀(fuel:Nat)(D:Array Bool) φ a w,D.size=all.length->D.getD init.length false=false->qZ all (λi=>D.getD i false)->Rel φ G (aL all ps S0 (jE all.length λi=>D.getD i false)) a w->aZ φ0 S0.mem w0 φ (aL all ps S0 (jE all.length λi=>D.getD i false)).mem w->
  ((List.range all.length).filter λi=>!D.getD i false).length<=fuel->wpAny P .any all.toArray Q fuel D a w:=by
 obtain⟨Ar,Ab,A9⟩:=Cert.at2 (ps:=ps) (S0:=S0) AP [] [] [ol] [D9] rfl (by simp[A2]) (by simp[y]) rfl;have AR:all.length=init.length+1:=by rw[A2];simp
 have Ac:ps.length=all.length:=by rw[y,AR];simp[Ab]
 have AS:all[init.length]?=some ol:=by rw[A2];simp
 have Ad:ps[init.length]?=some D9:=by rw[y,<-Ab];simp
 have As:∀(j:Nat)(p:bf),ps[j]?=some p->∀e∈p.es,e.key∈p.ks:=λj p H=>by
  have B9:j<ps.length:=(ace.1 H).1;by_cases Y:j<init.length
  ·exact (A9 j (all[j]'(by omega)) p (by simp) (by simpa using Y) (by simp) H).1
  ·have:j=init.length:=by omega
   subst this;rw[Ad]at H;cases H;simp[D9]
 have At:∀j o,all[j]?=some o->∀p∈fE o,p<j:=λj o T=>(fq A' T).choose_spec.2.1;have Au:∀l:List Nat,I (aL all ps S0 l).mem:=by
  have key:∀(l:List Nat)(S:St),I S.mem->I (aL all ps S l).mem:=by
   intro l;induction l with
   |nil=>exact λ_ h=>h
   |cons i l ih=>
    intro S h;have A1:aL all ps S (i::l)=aL all ps (aL all ps S [i]) l:=by simp[aL]
    rw[A1];refine ih _ ?_;simp only[aL,af1,aht];split
    ·rename_i o p T H;simp only[bf.app,gz];have AG:i<all.length:=(ace.1 T).1;by_cases hi:i<init.length
     ·exact (A9 i o p (by simp) (by simpa using hi) T H).2.1 _ h
     ·have:i=init.length:=by omega
      subst this;rw[Ad]at H;cases H;exact h
    ·exact h
  exact λl=>key l S0 AO
 have first:∀(f:Nat->Bool)(n:Nat),n<=all.length->(∀i,i<n->f i=true)\/∃i,i<n/\f i=false/\∀Ae,Ae<i->f Ae=true:=by
  intro f n;induction n with
  |zero=>exact λ_=>.inl (λi hi=>by omega)
  |succ n ih=>
   intro AZ;rcases ih (by omega)with h|⟨i,M,E,AA⟩
   ·cases A3:f n with
    |true=>
     refine .inl λi hi=>?_;rcases Nat.lt_succ_iff_lt_or_eq.1 hi with AT|AT
     ·exact h i AT
     ·rw[AT];exact A3
    |false=>exact .inr ⟨n,by omega,A3,h⟩
   ·exact .inr ⟨i,by omega,E,AA⟩
 have Av:∀(D:Array Bool),D.size=all.length->Region.ready .any all.toArray D=[]->∀i,i<all.length->D.getD i false=true:=by
  intro D A4 A5;rcases first (λi=>D.getD i false) all.length (ack _)with h|⟨i,M,E,AA⟩
  ·exact h
  ·exfalso;have:i∈Region.ready .any all.toArray D:=by
    rw[mem_ready];refine⟨?_,all[i],by simp[M],λe he AU=>?_⟩
    ·have:i<D.size:=by omega
     simp only[acH,agy this,af9]at E⊢;exact E
    ·obtain⟨p,_,H,_⟩:=fq A' (show all[i]?=some all[i] by simp[M]);exact AA e.on (H e.on (by
      simp only[fE,acF,aeg];exact⟨e,⟨by simpa using he,AU⟩,rfl⟩))
   rw[A5]at this;cases this
 have Aw:∀(D:Array Bool),D.size=all.length->(∀i,i<all.length->D.getD i false=true)->Region.ready .any all.toArray D=[]:=by
  intro D A4 Ax;cases h:Region.ready .any all.toArray D with
  |nil=>rfl
  |cons i r=>
   exfalso;have hi:i∈Region.ready .any all.toArray D:=by rw[h];simp
   rw[mem_ready]at hi;obtain⟨AB,o,T,_⟩:=hi;have AG:i<all.length:=by
    have:=(ad5.1 T).1;simpa using this
   have:=Ax i AG;have E:i<D.size:=by omega
   simp only[acH,agy E,af9]at AB this;rw[AB]at this;cases this
 intro fuel;induction fuel with
 |zero=>
  intro D φ a w A4 AH AC c A0 A3;exfalso;have:init.length∈(List.range all.length).filter λi=>!D.getD i false:=aeg.2 ⟨adP.2 (by omega),by simp only[AH];rfl⟩;have:=List.length_pos_of_mem this;omega
 |succ fuel ih=>
  intro D φ a w A4 AH AC c A0 A3;refine⟨λA5=>?_,λi hi=>?_⟩
  ·have:=Av D A4 A5 init.length (by omega);rw[AH]at this;cases this
  rw[mem_ready]at hi;obtain⟨AB,o,T,Ay⟩:=hi;have O:all[i]?=some o:=by simpa using T
  have AG:i<all.length:=(ace.1 O).1;have Af:i<D.size:=by omega
  have AI:D.getD i false=false:=by
   simp only[acH,agy Af,af9]at AB⊢;exact AB
  have AV:∀k∈fE o,D.getD k false=true:=by
   intro k A6;simp only[fE,acF,aeg]at A6;obtain⟨e,⟨he,AU⟩,rfl⟩:=A6;exact Ay e (by simpa using he) AU
  have AJ:(D.setIfInBounds i true).getD i false=true:=by simp[Af]
  have A7:∀k,k≠i->(D.setIfInBounds i true).getD k false=D.getD k false:=λk A6=>getD_set_ne false (ag0 A6);by_cases Ag:i=init.length
  ·subst Ag;rw[AS]at O;cases O;have Ah:∀k,k<init.length->D.getD k false=true:=by
    intro k AW;have Az:k∈(iN all []).getD init.length []:=by
     have:=AN k (by omega);rw[AR]at this;simpa using this
    exact (lD (L:=λi=>D.getD i false=true) At (λj o T A3=>AC j o T A3) init.length ⟨ol,AS⟩ k Az).2 (λAa Ai=>by rw[AS]at Ai;cases Ai;exact AV)
   have A8:(jE all.length λi=>D.getD i false)=List.range init.length:=by
    rw[jE,AR,List.range_succ,aji];have A1:(List.range init.length).filter (λi=>D.getD i false)=List.range init.length:=by
     rw[List.filter_eq_self];intro k AW;exact Ah k (adP.1 AW)
    rw[A1];simp only[List.filter_cons,List.filter_nil];rw[AI];simp
   have B':aL all ps S0 (List.range init.length)=S1:=by simpa using Ar
   rw[A8,B']at c A0;have V:=AQ φ a w c A0 (wpAny P .any all.toArray Q fuel (D.setIfInBounds init.length true)) (λJ w' Aj=>by
    have A5:=Aw (D.setIfInBounds init.length true) (by simpa using A4) (λk AW=>by
     by_cases Z:k=init.length
     ·subst Z;exact AJ
     ·rw[A7 k Z];exact Ah k (by omega))
    cases fuel with
    |zero=>exact⟨A5,Aj⟩
    |succ fuel=>exact⟨λ_=>Aj,λi hi=>by rw[A5]at hi;cases hi⟩)
   unfold wpOp;rw[T];simp only
   split at V
   ·rename_i hw;rw[acs hw];exact .inl V
   ·rename_i hw;rw[ach hw];exact V
  ·have B0:i<init.length:=by omega
   obtain⟨p,H,_⟩:=fq A' O;obtain⟨BA,_,B1⟩:=A9 i o p (by simp) (by simpa using B0) O H;have B2:=s4 (S:=S0) Ac A' AC O H AI AV;have heq:=zW (S:=S0) (f:=λi=>D.getD i false) (g:=λk=>(D.setIfInBounds i true).getD k false) Ac A' AC As Aq O H AI AJ A7;have B3:qZ all (λk=>(D.setIfInBounds i true).getD k false):=by
    intro k ok AX B4 x Ak;by_cases Al:x=i
    ·subst Al;exact AJ
    ·show (D.setIfInBounds i true).getD x false=true;rw[A7 x Al];by_cases Z:k=i
     ·subst Z;rw[O]at AX;cases AX;exact AV x Ak
     ·exact AC k ok AX ((A7 k Z).symm.trans B4) x Ak
   have B5:((List.range all.length).filter λk=>!(D.setIfInBounds i true).getD k false).length<=fuel:=by
    have M:(List.range all.length).filter (λk=>!(D.setIfInBounds i true).getD k false)=((List.range all.length).filter λk=>!D.getD k false).filter (λk=>k != i):=by
     rw[ajf];refine akc λk _=>?_;by_cases Z:k=i
     ·subst Z;rw[AJ];simp
     ·rw[A7 k Z];simp[Z]
    have B6:i∈(List.range all.length).filter λk=>!D.getD k false:=aeg.2 ⟨adP.2 AG,by simp[AI]⟩;rw[M];have:(((List.range all.length).filter λk=>!D.getD k false).filter (λk=>k != i)).length<((List.range all.length).filter λk=>!D.getD k false).length:=by
     rw[ao6];exact⟨i,B6,by simp⟩
    omega
   have V:=B1 _ B2 (Au _) φ G a w c (wpAny P .any all.toArray Q fuel (D.setIfInBounds i true)) Q (λφ' J w' B7 A6=>
    ih _ φ' J w' (by simpa using A4) (by rw[A7 _ (ag0 Ag)];exact AH) B3 (B7.eqv heq) (by rw[<-heq.mem];exact A0.trans A6) B5)
   unfold wpOp;rw[T];simp only
   split at V
   ·rename_i hw;rw[acs hw];exact .inl V
   ·rename_i hw;rw[ach hw];exact V
end
theorem OP{P:Program}{S S1:St}{id:Nat}{ops init:List Oper}{ol:Oper}{U:List bf}{I:Mem->Prop}(A2:ops=init++[ol])(AN:EJ ops)(AO:I S.mem)(hm:P.follows .mixedOrders=true)(AP:Cert P I ops init S U S1)(A':oX ops (U++[D9])=true){φ G a w}(c:Rel φ G S a w){Q:Exit->Act->World->Prop}
 (AQ:∀φ' J w',Rel φ' G S1 J w'->aZ φ S.mem w φ' S1.mem w'->∀next:Act->World->Prop,(∀J w',Q .normal J w'->next J w')->if Region.wanted ol (yielded ops.toArray J.tmps)then ol.wp P J w' next Q else next (J.put ol.dst undef) w'):(Code.region id ops.toArray true).wp P Q a w:=by
 refine wp_region_any hm ?_;have B8:Rel φ G S a {w with drawn:=w.drawn+1}:=c.grow (λ_ _=>rfl) (ack _);have An:(jE ops.length λi=>(Array.replicate ops.length false).getD i false)=[]:=by
  rw[jE,ahk];intro i hi;simp[acH,adP.1 hi]
 refine SA (S0:=S) (φ0:=φ) (w0:=w) (G:=G) A2 AN AO AP rfl A' c.mem.nodup AQ _ _ φ a _ (by simp) ?_ ?_ ?_ ?_ ?_
 ·simp only[acH];rw[A2];simp
 ·intro j o _ Y;exfalso;simp only[acH]at Y;by_cases h:j<ops.length
  ·simp[h]at Y
  ·simp[h]at Y
 ·simp only[afZ];rw[An];exact B8
 ·simp only[afZ];rw[An];exact aZ.grow (λ_ _=>rfl) (ack _) rfl rfl rfl
 ·simp only[afZ];exact agQ (List.length_filter_le _ _) (by simp)
def hY:Mem->Nat
 |[]=>0
 |e::r=>e.aq+hY r
def hP:List bf->Nat
 |[]=>0
 |p::r=>hY p.es+hP r
def lF(N:Nat):Mem->Mem
 |[]=>[]
 |e::r=>(match decide (100<=e.key)with|true=>⟨e.key,N,.dead⟩|false=>e)::lF N r
def St.kill(S:St)(N:Nat):St:={S with env:=[],mem:=lF N S.mem}
def H0:List dk->Bool
 |[]=>true
 |e::r=>decide (100<=e.key)&&H0 r
def BW(ps:List bf):List Nat->Bool
 |[]=>true
 |i::r=>(match ps[i]? with|some p=>H0 p.es|none=>false)&&BW ps r
theorem BX:∀{m:Mem}{e:dk},e∈m->e.aq<=hY m
 |_::r,e,h=>by
  rcases aco.1 h with rfl|h
  ·simp only[hY];omega
  ·have:=BX (m:=r) h;simp only[hY];omega
theorem Gl:∀{ps:List bf}{p:bf},p∈ps->hY p.es<=hP ps
 |_::r,p,h=>by
  rcases aco.1 h with rfl|h
  ·simp only[hP];omega
  ·have:=Gl (ps:=r) h;simp only[hP];omega
theorem q9(N:Nat):∀m:Mem,(lF N m).map (·.key)=m.map (·.key)
 |[]=>rfl
 |e::r=>by
  simp only[lF,adM,q9 N r];split<;>rfl
theorem tS{N:Nat}:∀{m:Mem}{e:dk},e∈lF N m->(∃A'∈m,100<=A'.key/\e=⟨A'.key,N,.dead⟩)\/(e∈m/\e.key<100)
 |A'::r,e,h=>by
  simp only[lF,aco]at h;rcases h with h|h
  ·by_cases V:100<=A'.key
   ·simp only[V,decide_true]at h;exact .inl ⟨A',by simp,V,h⟩
   ·simp only[V,decide_false]at h;subst h;exact .inr ⟨by simp,by omega⟩
  ·rcases tS h with ⟨AE,H,O,A3⟩|⟨H,O⟩
   ·exact .inl ⟨AE,afX _ H,O,A3⟩
   ·exact .inr ⟨afX _ H,O⟩
theorem BY(N:Nat)(k:Nat):∀m:Mem,Mem.get (lF N m) k=(Mem.get m k).map λe=>match decide (100<=e.key)with|true=>⟨e.key,N,.dead⟩|false=>e
 |[]=>rfl
 |e::r=>by
  have AE:(match decide (100<=e.key)with|true=>(⟨e.key,N,.dead⟩:dk)|false=>e).key=e.key:=by split<;>rfl
  simp only[lF,Mem.get,AE];split
  ·rfl
  ·exact BY N k r
def rf(φ:cd)(N:Nat):cd:=λk=>match φ k with
 |some L=>some (match decide (100<=k)with|true=>{L with aq:=N}|false=>L)
 |none=>none
theorem rh{φ:cd}{N k:Nat}(h:k<100):rf φ N k=φ k:=by
 unfold rf;have:decide (100<=k)=false:=by simp;omega
 rw[this];cases φ k<;>rfl
theorem I5{φ:cd}{N k:Nat}{L:Loc}(h:100<=k)(J:φ k=some L):rf φ N k=some {L with aq:=N}:=by
 unfold rf;have:decide (100<=k)=true:=by simp;omega
 rw[this,J]
theorem aer{φ:cd}{G:Fr}{S:St}{a:Act}{w:World}{N:Nat}(h:Rel φ G S a w)(AQ:∀e∈S.mem,e.aq<N):
 Rel (rf φ N) G (S.kill N) a w/\aZ φ S.mem w (rf φ N) (S.kill N).mem w:=by
 have hle:φ.le (rf φ N):=by
  intro k L J;by_cases V:100<=k
  ·obtain⟨e,he,rfl⟩:=acF.1 (h.mem.rR k L J);obtain⟨L',AH,Ae,_⟩:=h.mem.gv e he;rw[J]at AH;cases AH;have:=AQ e he;exact⟨_,I5 V J,by simp only;omega,λhh=>by simp only at hh;omega⟩
  ·exact⟨L,by rw[rh (by omega)];exact J,ack _,λ_=>rfl⟩
 have AR:∀b,jT (rf φ N) (lF N S.mem) b->jT φ S.mem b:=by
  rintro b ⟨e,he,L,J,I⟩;rcases tS he with ⟨A',Y,H,rfl⟩|⟨Y,H⟩
  ·exact I.elim
  ·rw[rh H]at J;exact⟨e,Y,L,J,I⟩
 have Af:∀b,Fo G (rf φ N) (lF N S.mem) b->Fo G φ S.mem b:=λb=>Or.imp id (AR b);have V:aZ φ S.mem w (rf φ N) (S.kill N).mem w:=⟨hle,λ_ _ _=>rfl,λb _ U=>AR b U,ack _,rfl,rfl,rfl⟩;refine⟨⟨h.size,h.defers,(λt x AN=>nomatch AN),⟨?_,?_,?_,?_,?_,h.mem.bound⟩,h.mm.mono (λ_ _ _=>rfl) (ack _) (λb _ U=>Af b U)⟩,V⟩
 ·show ((lF N S.mem).map (·.key)).Nodup;rw[q9];exact h.mem.nodup
 ·intro k L J;show k∈(lF N S.mem).map (·.key);rw[q9];unfold rf at J;cases M:φ k with
  |none=>rw[M]at J;cases J
  |some Aw=>exact h.mem.rR k Aw M
 ·intro e he;rcases tS he with ⟨A',Y,H,rfl⟩|⟨Y,H⟩
  ·obtain⟨L,J,_,_⟩:=h.mem.gv A' Y;exact⟨_,I5 H J,rfl,trivial⟩
  ·obtain⟨L,J,Ae,Ax⟩:=h.mem.gv e Y;exact⟨L,by rw[rh H];exact J,Ae,Ax.mono hle (λ_ _ _=>rfl) (ack _) (λb _ U=>Af b U) (λ_ _=>rfl)⟩
 ·rintro e he e' Ay L L' J AH ⟨b,I,T⟩;rcases tS he with ⟨A',Y,H,rfl⟩|⟨Y,H⟩
  ·exact I.elim
  ·rcases tS Ay with ⟨AE,O,A3,rfl⟩|⟨O,A3⟩
   ·exact T.elim
   ·rw[rh H]at J;rw[rh A3]at AH;exact h.mem.apart e Y e' O L L' J AH ⟨b,I,T⟩
 ·intro b U;exact h.mem.ml b (AR b U)
def Dd(P:Program)(all:List Oper)(S:St)(o:Oper)(p:bf)(t:TypeId)(x:D):Prop:=
 ∀A7,mh all o p.ks A7 S->∀φ G a w,Rel φ G A7 a w->∀(next:Act->World->Prop)(R:Exit->Act->World->Prop),
  (∀φ' A0 w' v,Rel φ' G {A7 with mem:=bS A7.mem p.es} A0 w'->aZ φ A7.mem w φ' (bS A7.mem p.es) w'->aQ w' (Fo G φ' (bS A7.mem p.es)) x v->R (.panic [{v:=.iface t v,recovered:=false}]) A0 w')->
  if Region.wanted o (yielded all.toArray a.tmps)then o.wp P a w next R else next (a.put o.dst undef) w
section
variable {all:List Oper} {ps:List bf}
theorem SB{m:Mem}{x e:dk}(h:e∈Mem.set m x):e∈m\/e=x:=by
 induction m with
 |nil=>exact .inl h
 |cons y r ih=>
  simp only[Mem.set]at h;split at h
  ·rcases aco.1 h with h|h
   ·exact .inr h
   ·exact .inl (afX _ h)
  ·rcases aco.1 h with h|h
   ·exact .inl (by simp[h])
   ·rcases ih h with h|h
    ·exact .inl (afX _ h)
    ·exact .inr h
theorem BZ:∀{es:List dk}{m:Mem}{e:dk},e∈bS m es->e∈m\/e∈es
 |[],m,e,h=>.inl h
 |x::r,m,e,h=>by
  have H:e∈bS (Mem.set m x) r:=h;rcases BZ H with h|h
  ·rcases SB h with h|h
   ·exact .inl h
   ·exact .inr (by simp[h])
  ·exact .inr (afX _ h)
theorem Gm(B:Nat)(Ag:∀p∈ps,∀e∈p.es,e.aq<B):∀(l:List Nat)(S:St),(∀e∈S.mem,e.aq<B)->∀e∈(aL all ps S l).mem,e.aq<B
 |[],S,h=>h
 |i::l,S,h=>by
  have AE:aL all ps S (i::l)=aL all ps (aL all ps S [i]) l:=by simp[aL]
  rw[AE];refine Gm B Ag l _ ?_;simp only[aL,af1,aht];split
  ·rename_i o p I M;simp only[bf.app,gz];intro e he;rcases BZ he with he|he
   ·exact h e he
   ·exact Ag p (acu M) e he
  ·exact h
variable {S:St} {f:Nat->Bool}
theorem OQ(AI:ps.length=all.length)(A1:oX all ps=true)(Z:qZ all f){j:Nat}{o:Oper}(I:all[j]?=some o)(AS:f j=false)(A8:∀i∈fE o,f i=true)
 (AT:∀i p,ps[i]?=some p->i≠j->i∉(iN all []).getD j []->j∉(iN all []).getD i []->∀e∈p.es,100<=e.key) {k:Nat} (V:k<100):
 Mem.get (aL all ps S (jE all.length f)).mem k=Mem.get (aL all ps S (List.range j)).mem k:=by
 have Az:j<all.length:=(ace.1 I).1;have AJ:∀j o,all[j]?=some o->∀p∈fE o,p<j:=λj o I=>(fq A1 I).choose_spec.2.1;have Ah:∀i∈(iN all []).getD j [],i<j/\f i=true:=λi hi=>by
  obtain⟨H,O⟩:=lD (L:=λi=>f i=true) AJ (λj o I c=>Z j o I c) j ⟨o,I⟩ i hi;exact⟨H,O λAi T=>by rw[I]at T;cases T;exact A8⟩
 have AU:∀i,f i=true->i<all.length->j∉(iN all []).getD i []:=by
  intro i B' AF A9;obtain⟨A4,AK⟩:∃A4,all[i]?=some A4:=⟨all[i],by simp[AF]⟩;have:=(lD (L:=λi=>f i=true) AJ (λj o I c=>Z j o I c) i ⟨A4,AK⟩ j A9).2 (λAi T=>by rw[AK]at T;cases T;exact Z i A4 AK B');simp[AS]at this
 let q:Nat->Bool:=λi=>(iN all []).getD j [] |>.contains i
 have AV:∀i,q i=true↔i∈(iN all []).getD j []:=λi=>by simp[q]
 have B0:(jE all.length f).filter q=(List.range j).filter q:=by
  rw[BP Az AS,aji,ajf,ajf];have O:(List.range' (j+1) (all.length-j-1)).filter (λa=>q a&&f a)=[]:=by
   rw[ahk];intro i hi;have:=(aph.1 hi).1;simp only[Ds,not_and];intro A5;have:=(Ah i ((AV i).1 A5)).1;omega
  rw[O,ad9];refine akc λi hi=>?_;cases A5:q i with
  |false=>simp
  |true=>simp[(Ah i ((AV i).1 A5)).2]
 have B1:∀i p,ps[i]?=some p->i≠j->q i=false->j∉(iN all []).getD i []->k∉p.es.map (·.key):=by
  intro i p M AA A5 A9 A2;obtain⟨e,he,rfl⟩:=acF.1 A2;have:=AT i p M AA (λh=>by rw[(AV i).2 h]at A5;cases A5) A9 e he;omega
 have side:∀(i:Nat)(p:bf),i≠j->j∉(iN all []).getD i []->ps[i]?=some p->k∈p.es.map (·.key)->q i=true:=by
  intro i p AA A9 M A2;cases A5:q i with
  |true=>rfl
  |false=>exact absurd A2 (B1 i p M AA A5 A9)
 rw[oY k q (jE all.length f) S S (λi hi p M A2=>by
  have AW:=aeg.1 hi;have AF:=adP.1 AW.1;refine side i p (λh=>by subst h;simp[AS]at AW) (AU i AW.2 AF) M A2) rfl rfl,
  oY k q (List.range j) S S (λi hi p M A2=>by
   have AF:=adP.1 hi;refine side i p (by omega) (λh=>?_) M A2;obtain⟨A4,AK⟩:∃A4,all[i]?=some A4:=⟨all[i]'(by omega),by simp[show i<all.length by omega]⟩
   have:=(lD (L:=λ_=>True) AJ (λ_ _ _ _ _ _=>trivial) i ⟨A4,AK⟩ j h).1;omega) rfl rfl,B0]
theorem VM{P:Program}{S0 S1:St}{φ0:cd}{G:Fr}{w0:World}{Q:Exit->Act->World->Prop}{j:Nat}{Aj:Oper}{AB:bf}{t:TypeId}{x:D}
 (AI:ps.length=all.length) (A1:oX all ps=true) (Ak:(S0.mem.map (·.key)).Nodup) (B2:∀(i:Nat)(p:bf),ps[i]?=some p->∀e∈p.es,e.key∈p.ks)
 (B3:∀i o p,all[i]?=some o->ps[i]?=some p->i≠j->j∉(iN all []).getD i []->mi P all (aL all ps S0 (List.range i)) o p)
 (AO:all[j]?=some Aj) (Al:ps[j]?=some AB) (B4:Dd P all (aL all ps S0 (List.range j)) Aj AB t x)
 (AT:∀i p,ps[i]?=some p->i≠j->i∉(iN all []).getD j []->j∉(iN all []).getD i []->∀e∈p.es,100<=e.key)
 (B5:S1.n=S0.n) (B6:S1.gl=S0.gl) (B7:S1.env=[]) (B8:S1.mem=lF (hY S0.mem+hP ps+1) (bS (aL all ps S0 (List.range j)).mem AB.es))
 (B9:∀φ' A0 w' v,Rel φ' G S1 A0 w'->aZ φ0 S0.mem w0 φ' S1.mem w'->aQ w' (Fo G φ' S1.mem) x v->Q (.panic [{v:=.iface t v,recovered:=false}]) A0 w'):
 ∀(fuel:Nat)(E:Array Bool) φ a w,E.size=all.length->qZ all (λi=>E.getD i false)->E.getD j false=false->Rel φ G (aL all ps S0 (jE all.length λi=>E.getD i false)) a w->aZ φ0 S0.mem w0 φ (aL all ps S0 (jE all.length λi=>E.getD i false)).mem w->
  ((List.range all.length).filter λi=>!E.getD i false).length<=fuel->wpAny P .any all.toArray Q fuel E a w:=by
 have An:j<all.length:=(ace.1 AO).1;have AJ:∀j o,all[j]?=some o->∀p∈fE o,p<j:=λj o I=>(fq A1 I).choose_spec.2.1;have first:∀(f:Nat->Bool)(n:Nat),n<=all.length->(∀i,i<n->f i=true)\/∃i,i<n/\f i=false/\∀Ao,Ao<i->f Ao=true:=by
  intro f n;induction n with
  |zero=>exact λ_=>.inl (λi hi=>by omega)
  |succ n ih=>
   intro BO;rcases ih (by omega)with h|⟨i,H,O,A3⟩
   ·cases c:f n with
    |true=>
     refine .inl λi hi=>?_;rcases Nat.lt_succ_iff_lt_or_eq.1 hi with AX|AX
     ·exact h i AX
     ·rw[AX];exact c
    |false=>exact .inr ⟨n,by omega,c,h⟩
   ·exact .inr ⟨i,by omega,O,A3⟩
 have done:∀(E:Array Bool),E.size=all.length->E.getD j false=false->Region.ready .any all.toArray E=[]->False:=by
  intro E AP AC BA;rcases first (λi=>E.getD i false) all.length (ack _)with h|⟨i,H,O,A3⟩
  ·have:=h j An;simp only[AC]at this;cases this
  ·have:i∈Region.ready .any all.toArray E:=by
    rw[mem_ready];refine⟨?_,all[i],by simp[H],λe he U=>?_⟩
    ·have:i<E.size:=by omega
     simp only[acH,agy this,af9]at O⊢;exact O
    ·obtain⟨p,_,M,_⟩:=fq A1 (show all[i]?=some all[i] by simp[H]);exact A3 e.on (M e.on (by
      simp only[fE,acF,aeg];exact⟨e,⟨by simpa using he,U⟩,rfl⟩))
   rw[BA]at this;cases this
 intro fuel;induction fuel with
 |zero=>
  intro E φ a w AP Z AC AY V c;exfalso;have:j∈(List.range all.length).filter λi=>!E.getD i false:=aeg.2 ⟨adP.2 An,by simp[AC]⟩;have:=List.length_pos_of_mem this;omega
 |succ fuel ih=>
  intro E φ a w AP Z AC AY V c;refine⟨λh=>(done E AP AC h).elim,λi hi=>?_⟩;rw[mem_ready]at hi;obtain⟨Y,o,I,BB⟩:=hi;have T:all[i]?=some o:=by simpa using I
  have AF:i<all.length:=(ace.1 T).1;have Ap:i<E.size:=by omega
  have AL:E.getD i false=false:=by
   simp only[acH,agy Ap,af9]at Y⊢;exact Y
  have A8:∀k∈fE o,E.getD k false=true:=by
   intro k A6;simp only[fE,acF,aeg]at A6;obtain⟨e,⟨he,U⟩,rfl⟩:=A6;exact BB e (by simpa using he) U
  by_cases AA:i=j
  ·subst AA;rw[AO]at T;cases T;have AZ:=s4 (S:=S0) AI A1 Z AO Al AL A8;have AD:=B4 _ AZ φ G a w AY (wpAny P .any all.toArray Q fuel (E.setIfInBounds i true)) Q (λφ' A0 w' v A_ A6 AQ=>by
    have Aq:∀p∈ps,∀e∈p.es,e.aq<hY S0.mem+hP ps+1:=by
     intro p M e he;have H:=BX he;have O:=Gl M;omega
    have BC:∀e∈S0.mem,e.aq<hY S0.mem+hP ps+1:=by
     intro e he;have H:=BX he;omega
    have BD:∀e∈bS (aL all ps S0 (jE all.length λi=>E.getD i false)).mem AB.es,e.aq<hY S0.mem+hP ps+1:=by
     intro e he;rcases BZ he with he|he
     ·exact Gm _ Aq _ _ BC e he
     ·exact Aq AB (acu Al) e he
    obtain⟨Ar,Aa⟩:=aer A_ BD;have Ab:lF (hY S0.mem+hP ps+1) (bS (aL all ps S0 (jE all.length λi=>E.getD i false)).mem AB.es)=S1.mem:=by
     rw[B8];refine Mem.ext ?_ ?_ λk=>?_
     ·rw[q9,lV,fF];exact Ak
     ·simp only[q9,lV,fF]
     ·rw[BY,BY];by_cases BE:k<100
      ·congr 1;exact pV _ _ _ k (by simp only[fF]) (.inr (OQ AI A1 Z AO AL A8 AT BE))
      ·have As:∀(m:Mem),(Mem.get m k).map (λe:dk=>match decide (100<=e.key)with|true=>(⟨e.key,hY S0.mem+hP ps+1,.dead⟩:dk)|false=>e)=if k∈m.map (·.key)then some ⟨k,hY S0.mem+hP ps+1,.dead⟩else none:=by
        intro m;cases At:Mem.get m k with
        |none=>
         rw[ach]
         ·rfl
         ·intro A2;obtain⟨e,he,BF⟩:=acF.1 A2;have:∀(m:Mem),e∈m->Mem.get m k≠none:=by
           intro m;induction m with
           |nil=>intro h;cases h
           |cons y r BG=>
            intro h;simp only[Mem.get];split
            ·simp
            ·rename_i BH;rcases aco.1 h with rfl|h
             ·exact absurd BF BH
             ·exact BG h
          exact this m he At
        |some e=>
         obtain⟨H,O⟩:=Mem.get_mem At;have:decide (100<=e.key)=true:=by simp;omega
         simp only[agP,this];rw[acs (O▸adL H),O]
       rw[As,As];simp only[lV,fF]
    have BI:({(aL all ps S0 (jE all.length λi=>E.getD i false))with mem:=bS (aL all ps S0 (jE all.length λi=>E.getD i false)).mem AB.es}:St).kill (hY S0.mem+hP ps+1)=S1:=by
     have BJ:(aL all ps S0 (jE all.length λi=>E.getD i false)).n=S1.n:=by rw[p7,B5]
     have a2:(aL all ps S0 (jE all.length λi=>E.getD i false)).gl=S1.gl:=by rw[ot,B6]
     unfold St.kill;simp only[Ab,BJ,a2];rw[<-B7]
    rw[BI]at Ar Aa;refine B9 _ A0 w' v Ar (V.trans (A6.trans Aa)) (AQ.mono (λ_ _ _=>rfl) (ack _) (λb U=>Or.imp id (Aa.own b U))))
   unfold wpOp;rw[I];simp only
   split at AD
   ·rename_i hw;rw[acs hw];exact .inl AD
   ·rename_i hw;rw[ach hw];exact AD
  ·obtain⟨p,M,_⟩:=fq A1 T;have AU:j∉(iN all []).getD i []:=by
    intro A9;have:=(lD (L:=λi=>E.getD i false=true) AJ (λj o I c=>Z j o I c) i ⟨o,T⟩ j A9).2 (λAi Au=>by rw[T]at Au;cases Au;exact A8);rw[AC]at this;cases this
   have BK:=B3 i o p T M AA AU;have AZ:=s4 (S:=S0) AI A1 Z T M AL A8;have Ac:(E.setIfInBounds i true).getD i false=true:=by simp[Ap]
   have AM:∀k,k≠i->(E.setIfInBounds i true).getD k false=E.getD k false:=λk A6=>getD_set_ne false (ag0 A6);have heq:=zW (S:=S0) (f:=λi=>E.getD i false) (g:=λk=>(E.setIfInBounds i true).getD k false) AI A1 Z B2 Ak T M AL Ac AM;have BL:qZ all (λk=>(E.setIfInBounds i true).getD k false):=by
    intro k ok Ad BM x AN;by_cases Av:x=i
    ·subst Av;exact Ac
    ·show (E.setIfInBounds i true).getD x false=true;rw[AM x Av];by_cases AG:k=i
     ·subst AG;rw[T]at Ad;cases Ad;exact A8 x AN
     ·exact Z k ok Ad ((AM k AG).symm.trans BM) x AN
   have BN:((List.range all.length).filter λk=>!(E.setIfInBounds i true).getD k false).length<=fuel:=by
    have H:(List.range all.length).filter (λk=>!(E.setIfInBounds i true).getD k false)=((List.range all.length).filter λk=>!E.getD k false).filter (λk=>k != i):=by
     rw[ajf];refine akc λk _=>?_;by_cases AG:k=i
     ·subst AG;rw[Ac];simp
     ·rw[AM k AG];simp[AG]
    have Ab:i∈(List.range all.length).filter λk=>!E.getD k false:=aeg.2 ⟨adP.2 AF,by simp[AL]⟩;rw[H];have:(((List.range all.length).filter λk=>!E.getD k false).filter (λk=>k != i)).length<((List.range all.length).filter λk=>!E.getD k false).length:=by
     rw[ao6];exact⟨i,Ab,by simp⟩
    omega
   have AD:=BK _ AZ φ G a w AY (wpAny P .any all.toArray Q fuel (E.setIfInBounds i true)) Q (λφ' A0 w' A_ A6=>
    ih _ φ' A0 w' (by simpa using AP) BL (by rw[AM j (λh=>AA h.symm)];exact AC) (A_.eqv heq) (by rw[<-heq.mem];exact V.trans A6) BN)
   unfold wpOp;rw[I];simp only
   split at AD
   ·rename_i hw;rw[acs hw];exact .inl AD
   ·rename_i hw;rw[ach hw];exact AD
end
inductive Gh where
 |trim (k:Nat)
 |freeze (k:Nat)
 |o8 (Y j k sz:Nat)
 |zZ (k I:Nat)
 |fS (k I:Nat)
 |cls (k I:Nat)
 |shut (k:Nat)
 |tT (Y j k:Nat)
abbrev bP:=FuncId->List AV->List aJ->Option (Out×List (Nat×aJ))
structure Ctx where
 P:Program
 gl:List (Nat×D)
 sj:FuncId->Nat->List Nat
 gh:FuncId->Nat->List Gh
 md:FuncId->Nat->Bool
 fp:FuncId->aP
 od:FuncId->Nat->List (List Nat)
 Ea:FuncId->Option (List AV->Option AV)
 fl:FuncId->Nat->List (Nat×Nat)
 ov:Option bP
def iP(P:Program)(g:FuncId):Bool:=
 match P.funcs[g]? with
 |some fn=>fn.body.isSome&&!(fn.name == "runtime.NumGoroutine")
 |none=>false
mutual
def pa:AV->List Nat
 | .vec _ _ _ _=>[]
 | .ptr k _ _=>[k]
 | .di k _ _ _=>[k]
 | .agg cs=>vX cs
 | .fn _ cap=>mD cap
 | .bh vs=>vX vs
 |_=>[]
def vX:List AV->List Nat
 |[]=>[]
 |x::r=>pa x++vX r
end
mutual
def vo:AV->List Nat
 | .vec k _ _ _=>[k]
 | .agg cs=>vY cs
 | .bh vs=>vY vs
 |_=>[]
def vY:List AV->List Nat
 |[]=>[]
 |x::r=>vo x++vY r
end
def lq(mt:List Nat):Nat->List AV->List Nat
 |_,[]=>[]
 |i,x::r=>(match mt.contains i with|true=>kg x|false=>pa x)++lq mt (i+1) r
def vZ(mt:List Nat):Nat->List AV->List Nat
 |_,[]=>[]
 |i,x::r=>(match mt.contains i with|true=>[]|false=>vo x)++vZ mt (i+1) r
structure gU where
 out:Out
 es:List dk
 ks:List Nat
def upO(ρ bs:List Nat):Out->Out
 | .ret x=>.ret (up ρ bs x)
 | .panic t x=>.panic t x
def B0:Out->Bool
 | .ret x=>eB x
 | .panic _ x=>ke x
def pL:List (Nat×aJ)->Bool
 |[]=>true
 |(_,c)::r=>nr c&&pL r
def z6(m:Mem)(ρ:List Nat):List Nat->Bool
 |[]=>true
 |k::r=>(Mem.get m k).isSome&&!ρ.contains k&&z6 m ρ r
def gm(m:Mem)(U:Nat)(ρ B:List Nat):Option (Out×List (Nat×aJ))->Option gU
 |some (out,V)=>
  if (decide (ρ.length<=V.length)&&z6 m ρ (List.range' (U+1) (V.length-ρ.length))&&(B.isEmpty||(B0 out&&pL V)))=true then
   some ⟨upO (ρ++List.range' (U+1) (V.length-ρ.length)) (base m 0 ρ++base m 1 (List.range' (U+1) (V.length-ρ.length))) out,
    jX (ρ++List.range' (U+1) (V.length-ρ.length)) (base m 0 ρ++base m 1 (List.range' (U+1) (V.length-ρ.length))) 0 V,ρ++B++List.range' (U+1) (V.length-ρ.length)⟩
  else none
 |none=>none
def H2(T:Nat)(V:List (Nat×aJ)):Out->Out
 | .ret x=>.ret (vw (ej 0 V) (List.range T) (λ_=>true) (λ_ v=>v) x).norm
 | .panic t x=>.panic t x
def sx(T:Nat)(b:Bool):Option (Out×List (Nat×aJ))->Option (Out×List (Nat×aJ))
 |some (out,V)=>if (b&&decide (T<V.length))=true then some (H2 T V out,fo (ej 0 V) (List.range T) (λ_=>true) (λ_ v=>v) 0 (List.range T))else some (out,V)
 |none=>none
def jl(rw:Bool)(m:Mem)(ρ B:List Nat):List AV->List AV
 |[]=>[]
 |y::r=>D3 rw (vw m ρ (λk=>B.contains k) jk y)::jl rw m ρ B r
def pX:List (Nat×aJ)->List aJ
 |[]=>[]
 |(_,c)::r=>c::pX r
def nC(E:bP)(m:Mem)(U:Nat)(g:FuncId)(Z:List AV)(rw:Bool)(ρ B:List Nat):Option gU:=
 gm m U ρ B (sx ρ.length (Mem.get m (U+1)).isNone (E g (jl rw m ρ B Z) (pX (fo m ρ (λk=>B.contains k) jk 0 ρ))))
def nD(E:bP)(m:Mem)(U:Nat)(g:FuncId)(Z:List AV)(mt ρ:List Nat):Option gU:=
 nC E m U g Z (mt.contains 1000) ρ ((vZ mt 0 Z).filter λk=>!ρ.contains k)
def gp(E:bP)(m:Mem)(U:Nat)(g:FuncId)(Z:List AV)(mt:List Nat):Option gU:=
 nD E m U g Z mt (collect m 64 (lq mt 0 Z) [])
def dS(S:St)(d:Option Nat):Option gU->Option (XE×St)
 |some ⟨.ret x,es,_⟩=>some (.normal,({S with mem:=bS S.mem es}:St).put d true x)
 |some ⟨.panic t x,es,_⟩=>some (.panic t x,{S with mem:=bS S.mem es})
 |none=>none
def dL(S:St):List Operand->List AV
 |[]=>[]
 |x::r=>(S.ar x).2::dL S r
def De(n g:Nat):FuncId:=
 match decide (n<=g)with
 |true=>g-n
 |false=>g
def rj(g:FuncId):FuncId:=De uC g
def vp(n g:Nat)(Z A0:List AV):List AV:=
 match decide (n<=g)with
 |true=>A0++Z
 |false=>Z++A0
def jm(g:FuncId)(Z A0:List AV):List AV:=vp uC g Z A0
def de(X:Ctx)(E:bP)(S:St)(o:Oper)(args:List Operand):Bool×AV->Option gU
 |(true,.fn g A0)=>if jW S args=true then gp E S.mem (keyOf o) (rj g) (jm g (dL S args) A0) (X.fp (rj g)).zU else none
 |_=>none
def EK(S:St):Bool×AV->Option (XE×St)
 |(true,.jb t d)=>some (.panic t d,S)
 |_=>none
def tU(X:Ctx)(E:bP)(S:St)(o:Oper):Option (XE×St):=
 match o.op with
 | .call {callee:=.value A1,args,..}=>dS S o.dst (de X E S o args.toList (S.ar A1))
 | .panic x=>EK S (S.ar x)
 |_=>none
def jo(X:Ctx)(E:bP)(S:St)(o:Oper):dY->Option (XE×St)
 | .val c x=>if (iB S o&&c)=true then some (.normal,S.put o.dst true x)else none
 | .dJ c x e=>if (iB S o&&c)=true then some (.normal,({S with mem:=Mem.set S.mem e}:St).put o.dst true x)else none
 | .no=>tU X E S o
def qz(X:Ctx)(E:bP)(S:St)(o:Oper)(b:Bool):dY->Option (XE×St)
 | .val c x=>if b=true->(iB S o&&c)=true then some (.normal,S.put o.dst b x)else none
 |r=>if b=true then jo X E S o r else some (.normal,S.put o.dst true .bm)
def St.cz(S:St)(d:Option Nat)(b:Bool):St:=S.put d true (.d (.bool b))
def nc(all:List Oper)(j:Nat):Option Nat:=
 match all[j]? with
 |some o=>o.dst
 |none=>none
inductive GV where
 |r5 (t:Bool)
 |skip
 |bad
def gvD:D->GV
 | .bool t=>.r5 t
 |_=>.bad
def gvT:List AV->GV
 |[]=>.skip
 |_::_=>.bad
def VN:AV->GV
 | .d x=>gvD x
 | .bh vs=>gvT vs
 |_=>.bad
def rk:Option (Bool×AV)->GV
 |some (true,x)=>VN x
 |_=>.bad
theorem LN{x:Option (Bool×AV)}{t:Bool}(h:rk x=.r5 t):x=some (true,.d (.bool t)):=by
 rcases x with _|⟨g,y⟩
 ·cases h
 ·cases g
  ·cases h
  ·cases y with
   |d y=>cases y<;>simp_all [rk,VN,gvD]
   |bh vs=>cases vs<;>simp_all [rk,VN,gvT]
   |_=>cases h
theorem I6{x:Option (Bool×AV)}(h:rk x=.skip):x=some (true,.bh []):=by
 rcases x with _|⟨g,y⟩
 ·cases h
 ·cases g
  ·cases h
  ·cases y with
   |d y=>cases y<;>simp_all [rk,VN,gvD]
   |bh vs=>cases vs<;>simp_all [rk,VN,gvT]
   |_=>cases h
def pb(X:Ctx)(E:bP)(md:Bool)(all:List Oper)(S:St)(o:Oper):Option (XE×St):=
 match o.guard with
 |none=>jo X E S o (dP X.P S o)
 |some (j,A')=>match rk (qV all S j)with
  | .r5 t=>match md with
   |false=>qz X E S o (t == A') (dP X.P S o)
   |true=>if (t == A')=true then jo X E (S.cz (nc all j) A') o (dP X.P (S.cz (nc all j) A') o)else some (.normal,(S.cz (nc all j) (!A')).put o.dst true (.bh []))
  | .skip=>some (.normal,S.put o.dst true (.bh []))
  | .bad=>none
def andThen(r:Option (XE×St))(k:St->Option (XE×St)):Option (XE×St):=
 match r with
 |some (.normal,S)=>k S
 |r=>r
def iv(X:Ctx)(E:bP)(md:Bool)(all:List Oper):List Oper->St->Option (XE×St)
 |[],S=>some (.normal,S)
 |o::r,S=>andThen (pb X E md all S o) (iv X E md all r)
def s5(S:St)(o:Oper):Option gU->Option (St×bf)
 |some ⟨.ret x,es,ks⟩=>some ((⟨ks,es,true,x⟩:bf).app o S,⟨ks,es,true,x⟩)
 |_=>none
def nf(X:Ctx)(E:bP)(S:St)(o:Oper):Option (St×bf):=
 match o.op with
 | .call {callee:=.value A1,args,..}=>s5 S o (de X E S o args.toList (S.ar A1))
 |_=>none
def fO(X:Ctx)(E:bP)(S:St)(o:Oper):dY->Option (St×bf)
 | .val c x=>if (iB S o&&c)=true then some (S.put o.dst true x,⟨kj S o,[],true,x⟩)else none
 | .dJ c x e=>if (iB S o&&c&&(kj S o).contains e.key)=true then some (({S with mem:=Mem.set S.mem e}:St).put o.dst true x,⟨kj S o,[e],true,x⟩)else none
 | .no=>nf X E S o
def tV(X:Ctx)(E:bP)(S:St)(o:Oper)(b:Bool):dY->Option (St×bf)
 | .val c x=>if b=true->(iB S o&&c)=true then some (S.put o.dst b x,⟨kj S o,[],b,x⟩)else none
 |r=>if b=true then fO X E S o r else some (S.put o.dst true .bm,⟨[],[],true,.bm⟩)
def eZ(X:Ctx)(E:bP)(md:Bool)(all:List Oper)(S:St)(o:Oper):Option (St×bf):=
 match o.guard with
 |none=>fO X E S o (dP X.P S o)
 |some (j,A')=>match rk (qV all S j)with
  | .r5 t=>match md with
   |false=>tV X E S o (t == A') (dP X.P S o)
   |true=>if (t == A')=true then fO X E (S.cz (nc all j) A') o (dP X.P (S.cz (nc all j) A') o)else some ((S.cz (nc all j) (!A')).put o.dst true (.bh []),⟨[],[],true,.bh []⟩)
  | .skip=>some (S.put o.dst true (.bh []),⟨[],[],true,.bh []⟩)
  | .bad=>none
def z7(J:List bf)(r:Option (St×bf))(k:St->List bf->Option (XE×St)):Option (XE×St):=
 match r with
 |some (S,p)=>k S (p::J)
 |none=>none
structure LO where
 S:St
 t:TypeId
 x:D
 es:List dk
 ks:List Nat
def yj(S:St):Option gU->Option LO
 |some ⟨.panic t x,es,ks⟩=>some ⟨{S with mem:=bS S.mem es},t,x,es,ks⟩
 |_=>none
def LP(X:Ctx)(E:bP)(S:St)(o:Oper):Option LO:=
 match o.op with
 | .call {callee:=.value A1,args,..}=>yj S (de X E S o args.toList (S.ar A1))
 |_=>none
def EM(X:Ctx)(E:bP)(S:St)(o:Oper):dY->Option LO
 | .no=>LP X E S o
 |_=>none
def mG(X:Ctx)(E:bP)(S:St)(o:Oper):Option LO:=
 match o.guard with
 |none=>EM X E S o (dP X.P S o)
 |some _=>none
def ux(X:Ctx)(md:Bool)(all:List Oper)(A3:List Nat):Nat->List Oper->St->List bf->Option (List bf)
 |_,[],_,J=>some J.reverse
 |i,o::r,S,J=>match A3.contains i with
  |true=>match eZ X (λ_ _ _=>none) md all S o with
   |some (S1,p)=>ux X md all A3 (i+1) r S1 (p::J)
   |none=>none
  |false=>ux X md all A3 (i+1) r (S.put o.dst false .bm) (⟨[],[],false,.bm⟩::J)
def SD(M:Nat×List (List Nat))(A3:List Nat)(t:TypeId)(x:D)(S:St):Option (List bf)->Option (XE×St)
 |some ps=>if (oy M.2 ps&&BW ps A3)=true then some (.panic t x,S.kill (M.1+hP ps+1))else none
 |none=>none
def SF(X:Ctx)(md:Bool)(M:Nat×List (List Nat))(all r:List Oper)(d:Option Nat)(J:List bf)(q:LO):Option (XE×St):=
 SD M (M.2.getD J.length []) q.t q.x q.S (ux X md all (M.2.getD J.length []) (J.length+1) r (q.S.put d true .bm) (⟨q.ks,q.es,true,.bm⟩::J))
def py(X:Ctx)(E:bP)(md:Bool)(M:Nat×List (List Nat))(all r:List Oper)(S:St)(o:Oper)(J:List bf)(k:St->List bf->Option (XE×St)):Option LO->Option (XE×St)
 |some q=>SF X md M all r o.dst J q
 |none=>z7 J (eZ X E md all S o) k
def jq(X:Ctx)(E:bP)(md:Bool)(M:Nat×List (List Nat))(all:List Oper):List Oper->St->List bf->Option (XE×St)
 |[],S,J=>if oy M.2 J.reverse=true then some (.normal,S)else none
 |o::r,S,J=>py X E md M all r S o J (jq X E md M all r) (mG X E S o)
structure Cl where
 k:Nat
 v:Nat
 j:Nat
 x:AV
 vv:Bool
def LQ:AV->AV->Bool
 | .vec a b c d,.vec A6 A4 A7 AC=>decide (a=A6)&&decide (b=A4)&&decide (c=A7)&&decide (d=AC)
 | .ptr a b c,.ptr A6 A4 A7=>decide (a=A6)&&decide (b=A4)&&decide (c=A7)
 | .d (.int k n),.d (.int AD AE)=>decide (k=AD)&&decide (n=AE)
 | .d (.bool b),.d (.bool A4)=>decide (b=A4)
 |_,_=>false
def gv(m:Mem):List (Nat×Nat)->Option (List Cl)
 |[]=>some []
 |(k,j)::r=>match Mem.get m k,gv m r with
  |some ⟨_,v,.box cs⟩,some l=>match cs[j]? with
   |some x=>some (⟨k,v,j,x,false⟩::l)
   |none=>none
  |some ⟨_,v,.vv aj (some x)⟩,some l=>some (⟨k,v,aj.length,x,true⟩::l)
  |_,_=>none
def VO(q:Cl):Option AV->Bool
 |some x=>LQ x q.x
 |none=>false
def Px(q:Cl)(v:Nat):aJ->Bool
 | .box cs=>!q.vv&&decide (v=q.v)&&VO q cs[q.j]?
 | .vv aj (some x)=>q.vv&&decide (v=q.v)&&decide (aj.length=q.j)&&LQ x q.x
 |_=>false
def EN(e:dk):List Cl->Bool
 |[]=>true
 |q::r=>(match decide (e.key=q.k)with|true=>Px q e.aq e.cont|false=>true)&&EN e r
def xk(H:List Cl):List dk->Bool
 |[]=>true
 |e::r=>EN e H&&xk H r
def uZ(b:Bool)(k v j:Nat):List Cl->Option AV
 |[]=>none
 |q::r=>match decide (b=q.vv)&&decide (k=q.k)&&decide (v=q.v)&&decide (j=q.j)with|true=>some q.x|false=>uZ b k v j r
def yk(b:Bool)(k v:Nat):List Cl->Bool
 |[]=>false
 |q::r=>match decide (b=q.vv)&&decide (k=q.k)&&decide (v=q.v)with|true=>true|false=>yk b k v r
def Gn(P:Program)(H:List Cl)(t:TypeId):Bool×AV->Option AV
 |(true,.ptr k v off)=>match (tk P t).agg,decide (tk P t=.other)with
  |false,false=>uZ false k v off H
  |_,_=>none
 |(true,.di k v i j)=>match (tk P t).agg,decide (tk P t=.other),decide (j=0)with
  |false,false,true=>uZ true k v i H
  |_,_,_=>none
 |_=>none
def Gp(H:List Cl):Option Nat->Bool×AV->Option AV
 |some n,(true,.ptr k v off)=>match yk false k v H with|true=>some (.ptr k v (off+n))|false=>none
 |_,_=>none
def Gq(H:List Cl):Bool×AV->Option AV
 |(true,.ptr k v off)=>match yk false k v H with|true=>some (.ptr k v off)|false=>none
 |_=>none
def Gr(P:Program)(H:List Cl):TK->Bool×AV->Bool×AV->Option AV
 | .slice e,(true,.vec k v off len),(true,.d (.int _ n))=>match decide (gE P e=some 1),yk true k v H,decide (0<=n),decide (n.toNat<len)with
  |true,true,true,true=>some (.di k v (off+n.toNat) 0)
  |_,_,_,_=>none
 |_,_,_=>none
def u0(P:Program)(H:List Cl)(S:St):Op->Option AV
 | .load t x=>Gn P H t (S.ar x)
 | .fieldAddr s x f=>Gp H (zF P s f) (S.ar x)
 | .nilCheck x=>Gq H (S.ar x)
 | .indexAddr t x i=>Gr P H (tk P t) (S.ar x) (S.ar i)
 |_=>none
def rl(P:Program)(H:List Cl)(S:St)(o:Oper):Option AV:=
 match o.guard with
 |none=>u0 P H S o.op
 |some _=>none
def H3(H:List Cl):Option (St×bf)->Option (St×bf)
 |some (S,p)=>if xk H p.es=true then some (S,p)else none
 |none=>none
def pY(X:Ctx)(E:bP)(md:Bool)(H:List Cl)(all:List Oper)(S:St)(o:Oper):Option AV->Option (St×bf)
 |some x=>some (S.put o.dst true x,⟨[],[],true,x⟩)
 |none=>H3 H (eZ X E md all S o)
def oz:List Nat->List Oper->Bool
 |[],[]=>true
 |_,_=>false
def LR(X:Ctx)(E:bP)(md:Bool)(M:List (List Nat))(all:List Oper)(S:St)(o:Oper)(J:List bf):Option (XE×St):=
 if oy M J.reverse=true then iv X E md all [o] S else none
def pz(X:Ctx)(E:bP)(md:Bool)(M:List (List Nat))(H:List Cl)(all:List Oper):List Oper->St->List bf->Option (XE×St)
 |[],S,J=>if oy M J.reverse=true then some (.normal,S)else none
 |o::r,S,J=>match oz (M.getD J.length []) r with
  |true=>LR X E md M all S o J
  |false=>z7 J (pY X E md H all S o (rl X.P H S o)) (pz X E md M H all r)
def SG(X:Ctx)(E:bP)(md:Bool)(M:List (List Nat))(all:List Oper)(S:St):Option (List Cl)->Option (XE×St)
 |some H=>pz X E md M H all all S []
 |none=>none
def v7(X:Ctx)(E:bP)(md:Bool)(M:List (List Nat))(all:List Oper)(S:St):List (Nat×Nat)->Option (XE×St)
 |[]=>jq X E md (hY S.mem,M) all all S []
 |q::r=>SG X E md M all S (gv S.mem (q::r))
def St.o8(S:St)(Y j k sz:Nat):St:=
 match Mem.get S.mem Y,Mem.get S.mem k with
 |some ⟨_,A8,.box cs⟩,some ⟨_,v,_⟩=>match cs[j]? with
  |some (.lit (.slice none 0 0))=>if Y=k then S else {S with mem:=Mem.set (Mem.set S.mem ⟨k,v+1,.vec sz []⟩) ⟨Y,A8,.box (cs.set j (.vec k (v+1) 0 0))⟩}
  |_=>S
 |_,_=>S
def H4(k v I v2:Nat):AV->AV
 | .vec U v0 o l=>if U=k/\v0=v then .vec I v2 o l else .vec U v0 o l
 |x=>x
def v8(A9:AV->AV):Mem->Mem
 |[]=>[]
 |e::r=>⟨e.key,e.aq,sm A9 e.cont⟩::v8 A9 r
def St.zZ(S:St)(k I:Nat):St:=
 match Mem.get S.mem k,Mem.get S.mem I with
 |some ⟨_,v,.vec sz aj⟩,some ⟨_,v2,_⟩=>if k=I then S else {S with env:=pJ (H4 k v I (v2+1)) S.env,mem:=Mem.set (Mem.set (v8 (H4 k v I (v2+1)) S.mem) ⟨k,v+1,.dead⟩) ⟨I,v2+1,.vec sz aj⟩}
 |_,_=>S
def St.fS(S:St)(k I:Nat):St:=
 match Mem.get S.mem k,Mem.get S.mem I with
 |some ⟨_,v,.vv aj none⟩,some ⟨_,v2,_⟩=>match aj.getLast? with
  |some xs=>if k=I then S else {S with mem:=Mem.set (Mem.set S.mem ⟨k,v,.vv aj.dropLast (some (.vec I (v2+1) 0 xs.length))⟩) ⟨I,v2+1,.vec 1 xs⟩}
  |none=>S
 |_,_=>S
def St.cls(S:St)(k I:Nat):St:=
 match Mem.get S.mem k,Mem.get S.mem I with
 |some ⟨_,v,.vv aj (some (.vec AF v3 0 len))⟩,some ⟨_,v2,.vec 1 xs⟩=>if k=I then S else if AF=I/\v3=v2/\len=xs.length then {S with mem:=Mem.set (Mem.set S.mem ⟨k,v,.vv (aj++[xs]) none⟩) ⟨I,v2+1,.dead⟩} else S
 |_,_=>S
def St.shut(S:St)(k:Nat):St:=
 match Mem.get S.mem k with
 |some ⟨_,v,.vv aj (some _)⟩=>{S with mem:=Mem.set S.mem ⟨k,v,.vv aj none⟩}
 |_=>S
def St.tT(S:St)(Y j k:Nat):St:=
 match Mem.get S.mem Y,Mem.get S.mem k with
 |some ⟨_,A8,.box cs⟩,some ⟨_,v,_⟩=>match cs[j]? with
  |some (.lit (.slice none 0 0))=>if Y=k then S else {S with mem:=Mem.set (Mem.set S.mem ⟨Y,A8,.box (cs.set j (.vec k (v+1) 0 0))⟩) ⟨k,v+1,.vv [] none⟩}
  |_=>S
 |_,_=>S
def Gh.go(S:St):Gh->St
 | .fS k I=>S.fS k I
 | .cls k I=>S.cls k I
 | .shut k=>S.shut k
 | .tT Y j k=>S.tT Y j k
 | .trim k=>S.zR k
 | .freeze k=>S.freeze k
 | .o8 Y j k sz=>S.o8 Y j k sz
 | .zZ k I=>S.zZ k I
def I7(S:St):List Gh->St
 |[]=>S
 |g::r=>I7 (g.go S) r
def z8(k:St->St):Option (XE×St)->Option (XE×St)
 |some (.normal,S)=>some (.normal,k S)
 |r=>r
def Gs(id:Nat):Option (XE×St)->Option (XE×St)
 |some (.exit AA,S)=>if AA=id then some (.normal,S)else some (.exit AA,S)
 |r=>r
def iter(f:St->Option (XE×St)):Nat->St->Option (XE×St)
 |0,_=>none
 |n+1,S=>andThen (f S) (iter f n)
def Gt(a b:Option (XE×St)):Bool×AV->Option (XE×St)
 |(true,.d (.bool t))=>if t=true then a else b
 |_=>none
def St.leave(X:Ctx)(f:FuncId)(id:Nat)(S:St):St:=I7 (S.prune (X.sj f id)) (X.gh f id)
def den(X:Ctx)(f:FuncId)(E:bP)(n:Nat):Code->St->Option (XE×St)
 | .skip,S=>some (.normal,S)
 | .region id ops draw,S=>match draw with
  |false=>z8 (St.leave X f id) (iv X E (X.md f id) ops.toList ops.toList S)
  |true=>z8 (St.leave X f id) (v7 X E (X.md f id) (X.od f id) ops.toList S (X.fl f id))
 | .seq a b,S=>andThen (den X f E n a S) (den X f E n b)
 | .cond c a b,S=>Gt (den X f E n a S) (den X f E n b S) (S.ar c)
 | .block id c,S=>Gs id (den X f E n c S)
 | .loop c,S=>iter (den X f E n c) n S
 | .exit id,S=>some (.exit id,I7 S (X.gh f (id+1000000)))
 | .ret,S=>some (.ret,S)
 |_,_=>none
def fin(P:Program)(p:aP)(T:Nat)(rs:List ResultVar):Option (XE×St)->Option (Out×List (Nat×aJ))
 |some (.normal,S)=>finish P p T rs S
 |some (.ret,S)=>finish P p T rs S
 |some (.panic t x,S)=>zV p T t x S
 |_=>none
def s6(X:Ctx)(f:FuncId)(E:bP)(n:Nat)(fn:Func)(c:Code)(args:List AV)(cs:List aJ):Option (Out×List (Nat×aJ)):=
 if (decide (args.length<=fn.ntmps)&&decide (cs.length<=100)&&(X.fp f).sites.all (λk=>decide (100<=k))&&decide (X.fp f).sites.Nodup)=true then
  fin X.P (X.fp f) cs.length fn.results.toList (den X f E n c (entry fn.ntmps X.gl args cs (X.fp f).sites))
 else none
def p8:Option (Out×List (Nat×aJ))->Option Nat
 |some (.ret (.vec 0 0 0 0),[(0,.vec sz [])])=>some sz
 |_=>none
def lW(AB AG:Option (Out×List (Nat×aJ))):Option (Out×List (Nat×aJ)):=
 match p8 AB,p8 AG with
 |some a,some b=>if a=b then AB else none
 |_,_=>none
def kL(run:List AV->Option (Out×List (Nat×aJ)))(args:List AV):Bool->Option (Out×List (Nat×aJ))
 |true=>match args with
  | .d (.list [])::r=>lW (run (.lit (.slice none 0 0)::r)) (run (.nn::r))
  |args=>run args
 |false=>run args
def yQ(h:List AV->Option AV)(args:List AV):List aJ->Option (Out×List (Nat×aJ))
 |[]=>match h args with
  |some d=>some (.ret d,[])
  |none=>none
 |_::_=>none
def Df(h:List D->Option D)(args:List AV):Option AV:=match toDs args with
 |some O=>(h O).map .d
 |none=>none
abbrev DF:=FuncId×List AV
def dfv(S:St)(args:List Operand):Bool×AV->Option DF
 |(true,.fn g A0)=>if (jW S args&&decide (g<uC))=true then some (g,dL S args++A0)else none
 |_=>none
def qA(S:St)(o:Oper):Option DF:=
 match o.guard,o.op with
 |none,.defer {callee:=.value A1,args,..}=>dfv S args.toList (S.ar A1)
 |_,_=>none
def aes(o:Oper):Bool:=
 match o.op with
 | .defer _=>true
 |_=>false
abbrev XD:=Option (XE×St×List DF)
def Ks(k:St->XD)(O:List DF):Option (XE×St)->XD
 |some (.normal,S)=>k S
 |some (e,S)=>some (e,S,O)
 |none=>none
def gP(X:Ctx)(E:bP)(md:Bool)(all:List Oper):List Oper->St->List DF->XD
 |[],S,O=>some (.normal,S,O)
 |o::r,S,O=>match qA S o with
  |some d=>gP X E md all r (S.put o.dst true .bm) (d::O)
  |none=>Ks (λS1=>gP X E md all r S1 O) O (pb X E md all S o)
def Gu(ops:List Oper):Bool:=ops.any aes
def B1(k:St->St):XD->XD
 |some (.normal,S,O)=>some (.normal,k S,O)
 |r=>r
def Aa(O:List DF):Option (XE×St)->XD
 |some (e,S)=>some (e,S,O)
 |none=>none
def LS(k:St->List DF->XD):XD->XD
 |some (.normal,S,O)=>k S O
 |r=>r
def kl(X:Ctx)(f:FuncId)(E:bP)(n:Nat):Code->St->List DF->XD
 | .seq a b,S,O=>LS (kl X f E n b) (kl X f E n a S O)
 | .region id ops draw,S,O=>match !draw&&Gu ops.toList with
  |true=>B1 (St.leave X f id) (gP X E (X.md f id) ops.toList ops.toList S O)
  |false=>Aa O (den X f E n (.region id ops draw) S)
 |c,S,O=>Aa O (den X f E n c S)
def B3(o:Oper):Bool:=
 match o.guard,o.op with
 |none,.call {callee:=.builtin .recover,args,..}=>args.toList.isEmpty
 |_,_=>false
def sy(X:Ctx)(f:FuncId)(E:bP)(n:Nat)(A2:AV):Code->St->Option (XE×St)
 | .seq a b,S=>andThen (sy X f E n A2 a S) (den X f E n b)
 | .region id ops draw,S=>match draw,ops.toList with
  |false,o::r=>if B3 o=true then z8 (St.leave X f id) (iv X E (X.md f id) (o::r) r (S.put o.dst true A2))else none
  |_,_=>none
 |_,_=>none
def ZJ(P:Program)(p:aP)(T:Nat)(rs:List ResultVar):Option (XE×St)->Option (Out×List (Nat×aJ))
 |some (.normal,S)=>finish P p T rs S
 |some (.ret,S)=>finish P p T rs S
 |_=>none
def B4(X:Ctx)(f:FuncId)(E:bP)(n:Nat)(fn:Func)(c:Code)(args:List AV)(cs:List aJ):Option (Out×List (Nat×aJ)):=
 match args.getLast? with
 |some A2=>if (decide (args.dropLast.length<=fn.ntmps)&&decide (cs.length<=100)&&(X.fp f).sites.all (λk=>decide (100<=k))&&decide (X.fp f).sites.Nodup)=true then
  ZJ X.P (X.fp f) cs.length fn.results.toList (sy X f E n A2 c (entry fn.ntmps X.gl args.dropLast cs (X.fp f).sites))
  else none
 |none=>none
def EO:XE->Option AV
 | .normal=>some (.lit .nilIface)
 | .ret=>some (.lit .nilIface)
 | .panic t x=>some (.jb t x)
 | .exit _=>none
def Ab(S:St):Option gU->Option St
 |some ⟨.ret _,es,_⟩=>some {S with mem:=bS S.mem es}
 |_=>none
def EP(X:Ctx)(p:aP)(T:Nat)(rs:List ResultVar):Option St->Option (Out×List (Nat×aJ))
 |some S=>finish X.P p T rs S
 |none=>none
def Dg(X:Ctx)(p:aP)(T:Nat)(rs:List ResultVar)(A5:bP)(S:St)(d:DF):Option AV->Option (Out×List (Nat×aJ))
 |some A2=>EP X p T rs (Ab S (gp A5 S.mem 0 d.1 (d.2++[A2]) (X.fp d.1).zU))
 |none=>none
def ER(X:Ctx)(p:aP)(T:Nat)(rs:List ResultVar)(A5:bP):XD->Option (Out×List (Nat×aJ))
 |some (e,S,[])=>fin X.P p T rs (some (e,S))
 |some (e,S,[d])=>Dg X p T rs A5 S d (EO e)
 |_=>none
def B5(X:Ctx)(f:FuncId)(E A5:bP)(n:Nat)(fn:Func)(c:Code)(args:List AV)(cs:List aJ):Option (Out×List (Nat×aJ)):=
 if (decide (args.length<=fn.ntmps)&&decide (cs.length<=100)&&(X.fp f).sites.all (λk=>decide (100<=k))&&decide (X.fp f).sites.Nodup)=true then
  ER X (X.fp f) cs.length fn.results.toList A5 (kl X f E n c (entry fn.ntmps X.gl args cs (X.fp f).sites) [])
 else none
def B6:Code->Bool
 | .seq a b=>B6 a||B6 b
 | .region _ ops _=>Gu ops.toList
 |_=>false
def Ac(X:Ctx)(n:Nat)(E:bP):bP:=λg args cs=>
 match X.P.funcs[g]? with
 |some fn=>match fn.body with
  |some c=>B4 X g E n fn c args cs
  |none=>none
 |none=>none
def Dh(X:Ctx)(f:FuncId)(E:bP)(n:Nat)(fn:Func)(c:Code)(args:List AV)(cs:List aJ):Bool->Option (Out×List (Nat×aJ))
 |true=>B5 X f E (Ac X n E) n fn c args cs
 |false=>kL (λargs=>s6 X f E n fn c args cs) args (X.fp f).split
def aW(X:Ctx):Nat->bP
 |0,_,_,_=>none
 |n+1,f,args,cs=>match X.ov with
  |some E=>E f args cs
  |none=>match X.Ea f with
   |some h=>yQ h args cs
   |none=>match X.P.funcs[f]? with
    |some fn=>match fn.body with
     |some c=>Dh X f (aW X n) n fn c args cs (B6 c)
     |none=>none
    |none=>none
def kM(X:Ctx)(A5:bP):Prop:=∀g args cs out l,A5 g args cs=some (out,l)->
 iP X.P g=true/\Ev X.P X.gl g args (eI 0 cs) λo m=>o=out/\m=ej 0 l
theorem wa{P:Program}{g:FuncId}{vs:Array Value}{w:World}(h:iP P g=true):(callFunc g vs).run P w=.ok (.enter g vs) w:=by
 unfold iP at h;split at h
 ·rename_i fn As;simp only[Ds,agD]at h;have M:fn.body.isNone=false:=by
   have:=h.1;cases AH:fn.body<;>simp_all
  have V:fn.name≠ "runtime.NumGoroutine" :=by simpa using h.2
  have AA:fn.body≠none:=by intro AH;simp[AH]at M
  simp[callFunc,As,V,AA]
 ·cases h
theorem get_none{m:Mem}{k:Nat}:Mem.get m k=none↔k∉m.map (·.key):=by
 induction m with
 |nil=>simp[Mem.get]
 |cons e r ih=>
  simp only[Mem.get,adM,aco,akN];split
  ·rename_i h;simp[h]
  ·rename_i h;rw[ih];constructor
   ·exact λhh=>⟨λhe=>h he.symm,hh⟩
   ·exact λhh=>hh.2
theorem yl{m m':Mem}(D:m'.map (·.key)=m.map (·.key))(k:Nat):(Mem.get m' k).isNone=(Mem.get m k).isNone:=by
 have:=get_none (m:=m) (k:=k);have V:=get_none (m:=m') (k:=k);rw[D,<-this]at V;cases h:Mem.get m k<;>cases At:Mem.get m' k<;>simp_all
theorem ym(m:Mem):∀(n:Nat)(todo J:List Nat),∀k∈J,k∈collect m n todo J
 |0,todo,J,k,h=>h
 |n+1,[],J,k,h=>h
 |n+1,t::todo,J,k,h=>by
  simp only[collect];split
  ·exact ym m n todo J k h
  ·exact ym m n _ _ k (agX _ h)
theorem yn{m m':Mem}(D:m'.map (·.key)=m.map (·.key)):∀(n:Nat)(todo J:List Nat),(∀k∈collect m n todo J,Mem.get m' k=Mem.get m k)->collect m' n todo J=collect m n todo J
 |0,todo,J,_=>rfl
 |n+1,[],J,_=>rfl
 |n+1,t::todo,J,h=>by
  simp only[collect,yl D t]at h⊢;split
  ·rename_i I;rw[I]at h;exact yn D n todo J h
  ·rename_i I;rw[I]at h;have e:Mem.get m' t=Mem.get m t:=h t (ym m n _ _ t (by simp));rw[e];exact yn D n _ _ h
mutual
theorem LU{m m':Mem}{ρ:List Nat}{bor:Nat->Bool}{nv:Nat->Nat->Nat}(D:m'.map (·.key)=m.map (·.key))(h:∀k,(k∈ρ\/bor k=true)->Mem.get m' k=Mem.get m k):∀y:AV,vw m' ρ bor nv y=vw m ρ bor nv y
 | .ptr k aq off=>by
  by_cases Y:k∈ρ
  ·simp only[vw,h k (.inl Y)]
  ·have Z:∀T:Mem,vw T ρ bor nv (.ptr k aq off)=.bm:=by
    intro T;simp only[vw,lC (ρ:=ρ) (k:=k) (j:=0) |>.2 Y];cases Mem.get T k<;>rfl
   rw[Z,Z]
 | .vec k aq off len=>by
  by_cases Y:k∈ρ\/bor k=true
  ·simp only[vw,h k Y]
  ·simp only[akN]at Y;have Z:∀T:Mem,vw T ρ bor nv (.vec k aq off len)=.bm:=by
    intro T;simp only[vw,lC (ρ:=ρ) (k:=k) (j:=0) |>.2 Y.1,Y.2];cases Mem.get T k with
    |none=>rfl
    |some e=>
     obtain⟨_,_,c⟩:=e;cases c<;>simp
   rw[Z,Z]
 | .di k aq i j=>by
  by_cases Y:k∈ρ
  ·simp only[vw,h k (.inl Y)]
  ·have Z:∀T:Mem,vw T ρ bor nv (.di k aq i j)=.bm:=by
    intro T;simp only[vw,lC (ρ:=ρ) (k:=k) (j:=0) |>.2 Y];cases Mem.get T k<;>rfl
   rw[Z,Z]
 | .agg cs=>by simp only[vw,yR D h cs]
 | .fn f cap=>by simp only[vw,yR D h cap]
 | .bh vs=>by simp only[vw,yR D h vs]
 | .bm=>rfl
 | .d x=>rfl
 | .eH x j=>rfl
 | .jb t x=>rfl
 | .lit v=>rfl
 | .nn=>rfl
 | .err=>rfl
theorem yR{m m':Mem}{ρ:List Nat}{bor:Nat->Bool}{nv:Nat->Nat->Nat}(D:m'.map (·.key)=m.map (·.key))(h:∀k,(k∈ρ\/bor k=true)->Mem.get m' k=Mem.get m k):∀l:List AV,tI m' ρ bor nv l=tI m ρ bor nv l
 |[]=>rfl
 |x::r=>by simp only[tI,LU D h x,yR D h r]
end
theorem LV{m m':Mem}{ρ:List Nat}{bor:Nat->Bool}{nv:Nat->Nat->Nat}(D:m'.map (·.key)=m.map (·.key))(h:∀k,(k∈ρ\/bor k=true)->Mem.get m' k=Mem.get m k):
 ∀(l:List Nat)(i:Nat),(∀k∈l,k∈ρ)->fo m' ρ bor nv i l=fo m ρ bor nv i l
 |[],i,_=>rfl
 |k::r,i,AS=>by
  simp only[fo,h k (.inl (AS k (by simp))),LV D h r (i+1) (λx A'=>AS x (by simp[A']))];congr 1;cases Mem.get m k with
  |none=>rfl
  |some e=>
   simp only[yh,adJ,akC];cases e.cont with
   |box cs=>simp only[yg,yR D h cs]
   |vv aj y=>
    cases y with
    |none=>rfl
    |some x=>simp only[yg,agP,LU D h x]
   |_=>rfl
theorem Gv{b:Bool}{m m':Mem}{ρ B:List Nat}(D:m'.map (·.key)=m.map (·.key))(h:∀k,(k∈ρ\/B.contains k=true)->Mem.get m' k=Mem.get m k):∀l:List AV,jl b m' ρ B l=jl b m ρ B l
 |[]=>rfl
 |x::r=>by simp only[jl,LU (nv:=jk) D h x,Gv D h r]
theorem ES{m m':Mem}(d:Nat):∀(l:List Nat),(∀k∈l,Mem.get m' k=Mem.get m k)->base m' d l=base m d l
 |[],_=>rfl
 |k::r,h=>by simp only[base,h k (by simp),ES d r (λx A'=>h x (by simp[A']))]
theorem LW{m m':Mem}(ρ:List Nat)(D:m'.map (·.key)=m.map (·.key)):∀(l:List Nat),z6 m' ρ l=z6 m ρ l
 |[]=>rfl
 |k::r=>by
  have:(Mem.get m' k).isSome=(Mem.get m k).isSome:=by
   have:=yl D k;cases h:Mem.get m k<;>cases At:Mem.get m' k<;>simp_all
  simp only[z6,this,LW ρ D r]
theorem Gw{A5:bP}{m m':Mem}{A6:Nat}{g:FuncId}{H:List AV}{mt:List Nat}{res:gU}(D:m'.map (·.key)=m.map (·.key))(h:gp A5 m A6 g H mt=some res)(AY:∀k∈res.ks,Mem.get m' k=Mem.get m k):
 gp A5 m' A6 g H mt=some res:=by
 unfold gp nD nC at h⊢;obtain⟨ρ,A7⟩:∃ρ,ρ=collect m 64 (lq mt 0 H) []:=⟨_,rfl⟩;rw[<-A7]at h;obtain⟨B,AZ⟩:∃B,B=(vZ mt 0 H).filter λk=>!ρ.contains k:=⟨_,rfl⟩;rw[<-AZ]at h;have AI:∀k,k∈ρ\/B.contains k=true->Mem.get m' k=Mem.get m k:=by
  intro k A0;refine AY k ?_;unfold gm at h;split at h
  ·split at h
   ·cases h;simp only[acC];rcases A0 with M|M
    ·exact .inl (.inl M)
    ·exact .inl (.inr (by simpa using M))
   ·cases h
  ·cases h
 have Au:collect m' 64 (lq mt 0 H) []=ρ:=by
  rw[A7];exact yn D 64 _ _ (λk A0=>AI k (.inl (A7▸A0)))
 rw[Au,<-AZ,Gv D AI,LV D AI ρ 0 (λ_ h=>h),yl D];unfold gm at h⊢;split
 ·rename_i out O AB;rw[AB]at h;simp only at h;rw[LW ρ D];split
  ·rename_i I;rw[acs I]at h;cases h;have AC:∀d,base m' d ρ=base m d ρ:=λd=>ES d ρ (λk A0=>AI k (.inl A0));have Av:∀d,base m' d (List.range' (A6+1) (O.length-ρ.length))=base m d (List.range' (A6+1) (O.length-ρ.length)):=λd=>ES d _ (λk A0=>AY k (by simp only[acC];exact .inr A0));rw[AC,Av]
  ·rename_i I;rw[ach I]at h;cases h
 ·rename_i AB;rw[AB]at h;cases h
theorem yo(S:St):∀(l:List Operand)(i:Nat),(dL S l)[i]?=(l[i]?).map λx=>(S.ar x).2
 |[],i=>by simp[dL]
 |x::r,i=>by cases i with|zero=>simp[dL]|succ i=>simp[dL,yo S r i]
theorem kB(S:St):∀(l:List Operand),(dL S l).length=l.length
 |[]=>rfl
 |x::r=>by simp[dL,kB S r]
theorem Ad(b m ρ B):∀(l:List AV)(i:Nat),(jl b m ρ B l)[i]?=(l[i]?).map λy=>D3 b (vw m ρ (λk=>B.contains k) jk y)
 |[],i=>by simp[jl]
 |x::r,i=>by cases i with|zero=>simp[jl]|succ i=>simp[jl,Ad b m ρ B r i]
theorem uy(b m ρ B):∀(l:List AV),(jl b m ρ B l).length=l.length
 |[]=>rfl
 |x::r=>by simp[jl,uy b m ρ B r]
theorem B7(m ρ bor):∀(l:List Nat)(i j:Nat),eI i (pX (fo m ρ bor jk j l))=ej i (fo m ρ bor jk j l)
 |[],i,j=>rfl
 |k::r,i,j=>by
  have:yh m ρ bor jk j (Mem.get m k)=(0,(yh m ρ bor jk j (Mem.get m k)).2):=by
   cases Mem.get m k<;>rfl
  simp only[fo];rw[this];simp only[pX,eI,ej,B7 m ρ bor r (i+1) (j+1)]
theorem ET{m:Mem}{ρ:List Nat}:∀{l:List Nat},z6 m ρ l=true->∀k∈l,(Mem.get m k).isSome=true/\k∉ρ
 |[],_,k,D=>by simp at D
 |x::r,h,k,D=>by
  simp only[z6,Ds,agD,List.contains_eq_mem,afY]at h;rcases aco.1 D with rfl|D
  ·exact h.1
  ·exact ET h.2 k D
theorem Ae:∀{l:List (Nat×aJ)},pL l=true->∀e∈l,nr e.2=true
 |[],_,e,he=>by simp at he
 |(v,c)::r,h,e,he=>by
  simp only[pL,Ds]at h;rcases aco.1 he with rfl|he
  ·exact h.1
  ·exact Ae h.2 e he
theorem yS:∀(l:List (Nat×aJ))(i k:Nat),i<=k->k<i+l.length->(Mem.get (ej i l) k).isSome=true
 |[],i,k,M,V=>by simp at V;omega
 |(v,c)::r,i,k,M,V=>by
  simp only[ej,Mem.get];split
  ·rfl
  ·rename_i Aw;exact yS r (i+1) k (by have BN:i≠k:=Aw;omega) (by simp at V;omega)
theorem Ev.frz{P:Program}{gl f args}{cs:List aJ}{out:Out}{O:List (Nat×aJ)}(h:Ev P gl f args (eI 0 cs) λo m=>o=out/\m=ej 0 O)(AS:cs.length<=O.length):
 Ev P gl f args (eI 0 cs) λo m=>o=H2 cs.length O out/\m=ej 0 (fo (ej 0 O) (List.range cs.length) (λ_=>true) (λ_ v=>v) 0 (List.range cs.length)):=by
 intro φ G w vs hm AJ Ax Ay;refine (h φ G w vs hm AJ Ax Ay).mono ?_;rintro e w' ⟨φ',m',AK,⟨rfl,rfl⟩,AD,U,A1⟩;obtain⟨s1,s2,Az⟩:=C9 (G1:=G) (ρ:=List.range cs.length) (bor:=λ_=>true) (nv:=λ_ v=>v) AD List.nodup_range (λk D=>yS O 0 k (apk _) (by simp at D;omega)) (λb h=>.inl h) (λb h=>AD.ml b h.own)
  (λk e L b AJ _ _ AL A8=>AD.ml _ ⟨e,(Mem.get_mem AJ).1,L,by rw[(Mem.get_mem AJ).2];exact AL,A8⟩)
 refine⟨_,_,_,⟨rfl,rfl⟩,s1,⟨?_,U.Bi,?_,U.size,U.os,U.tape,U.output⟩,?_⟩
 ·intro k L AL;have D:k<cs.length:=by
   have:=hm.rR k L AL;rw[LB,sk]at this;simpa using this
  obtain⟨L',M,V,AA⟩:=U.le k L AL;exact⟨L',by simp[cd.jC,D,M],V,AA⟩
 ·intro b AH A8;exact U.own b AH ((yM (φ:=φ') (nv:=λ_ v=>v) (bor:=λ_=>true) (λk D=>yS O 0 k (apk _) (by simp at D;omega)) b).1 A8).own
 ·cases AK with
  |ret x=>
   cases e with
   |returned v=>exact (s2 x v A1).norm
   |_=>exact A1.elim
  |panic t x=>
   cases e with
   |panicked chain=>
    obtain⟨v,I,A'⟩:=A1;exact⟨v,I,A'.mono (λ_ _ _=>rfl) (ack _) (λb _=>Az b)⟩
   |_=>exact A1.elim
theorem wb:∀(l:List (Nat×aJ)),(pX l).length=l.length
 |[]=>rfl
 |(_,_)::r=>by simp[pX,wb r]
theorem B8{AE:Nat}{b:Bool}{r:Option (Out×List (Nat×aJ))}{out:Out}{l:List (Nat×aJ)}(h:sx AE b r=some (out,l)):∃AM A4,r=some (AM,A4)/\
 ((out=AM/\l=A4)\/(AE<A4.length/\out=H2 AE A4 AM/\l=fo (ej 0 A4) (List.range AE) (λ_=>true) (λ_ v=>v) 0 (List.range AE))):=by
 cases r with
 |none=>cases h
 |some p=>
  obtain⟨B',A4⟩:=p;refine⟨B',A4,rfl,?_⟩;simp only[sx]at h;split at h
  ·rename_i I;simp only[Ds,acn]at I;simp only[acE,adJ]at h;exact .inr ⟨I.2,h.1.symm,h.2.symm⟩
  ·simp only[acE,adJ]at h;exact .inl ⟨h.1.symm,h.2.symm⟩
theorem aet{n g:Nat}(h:g<n):De n g=g:=by
 unfold De;rw[apb (Nat.not_le.2 h)]
theorem VP{n g:Nat}(h:g<n)(H E:List AV):vp n g H E=H++E:=by
 unfold vp;rw[apb (Nat.not_le.2 h)]
theorem aeu(n g:Nat):De n (g+n)=g:=by
 unfold De;rw[agf (akG n g)];exact Nat.add_sub_cancel g n
theorem VQ(n g:Nat)(H E:List AV):vp n (g+n) H E=E++H:=by
 unfold vp;rw[agf (akG n g)]
theorem agG{g:FuncId}(h:g<uC):rj g=g:=aet h
theorem LY{g:FuncId}(h:g<uC)(H E:List AV):jm g H E=H++E:=VP h H E
theorem agH(g:FuncId):rj (g+uC)=g:=aeu uC g
theorem LZ(g:FuncId)(H E:List AV):jm (g+uC) H E=E++H:=VQ uC g H E
theorem xo{X:Ctx}{A5:bP}(AB:kM X A5){S:St}{o:Oper}{AN:Operand}{args:Array Operand}{B1:Array TypeId}{g g0:FuncId}{E:List AV}{A6:Nat}{mt:List Nat}{res:gU}
 (A8:o.op=.call {callee:=.value AN,args,argTypes:=B1}) (A_:S.ar AN=(true,.fn g0 E)) (Aa:rj g0=g) (B2:jW S args.toList=true)
 (h:gp A5 S.mem A6 g (jm g0 (dL S args.toList) E) mt=some res) (B3:S.gl=X.gl) {φ G a w} (A9:Rel φ G S a w) {next:Act->World->Prop} {R:Exit->Act->World->Prop}
 (B4:∀x,res.out=.ret x->∀φ' w' v,Rel φ' G {S with mem:=bS S.mem res.es} a w'->aZ φ S.mem w φ' (bS S.mem res.es) w'->aG φ' w' (Fo G φ' (bS S.mem res.es)) x v->next (a.put o.dst v) w')
 (B5:∀t x,res.out=.panic t x->∀φ' w' v,Rel φ' G {S with mem:=bS S.mem res.es} a w'->aZ φ S.mem w φ' (bS S.mem res.es) w'->aQ w' (Fo G φ' (bS S.mem res.es)) x v->R (.panic [{v:=.iface t v,recovered:=false}]) a w'):o.wp X.P a w next R:=by
 unfold gp nD nC at h;obtain⟨ρ,A7⟩:∃ρ,ρ=collect S.mem 64 (lq mt 0 (jm g0 (dL S args.toList) E)) []:=⟨_,rfl⟩;have Ab:=qY S.mem 64 (lq mt 0 (jm g0 (dL S args.toList) E)) [] List.nodup_nil (by simp);rw[<-A7]at h Ab;generalize (vZ mt 0 (jm g0 (dL S args.toList) E)).filter (λk=>!ρ.contains k)=B at h;clear A7;obtain⟨Ac,Af⟩:=Ab;unfold gm at h;split at h
 ·rename_i out O B6;split at h
  ·rename_i I;cases h;have B9:iP X.P g=true/\Ev X.P X.gl g (jl (mt.contains 1000) S.mem ρ B (jm g0 (dL S args.toList) E)) (eI 0 (pX (fo S.mem ρ (λk=>B.contains k) jk 0 ρ))) λo m=>o=out/\m=ej 0 O:=by
    obtain⟨AM,A4,Z,M⟩:=B8 B6;obtain⟨BA,Ag⟩:=AB _ _ _ _ _ Z;refine⟨BA,?_⟩;rcases M with ⟨rfl,rfl⟩|⟨AO,rfl,rfl⟩
    ·exact Ag
    ·have Ah:(pX (fo S.mem ρ (λk=>B.contains k) jk 0 ρ)).length=ρ.length:=by rw[wb,sX]
     have:=Ag.frz (by rw[Ah];omega);rw[Ah]at this;exact this
   obtain⟨Ai,Aj⟩:=B9;simp only[Ds,agv,acn]at I;obtain⟨⟨BO,BB⟩,BC⟩:=I;rw[B7]at Aj;obtain⟨v1,v2,v3⟩:=IW (B:=B) A9.mem Ac Af;have AT:=A9.ar AN (by rw[A_]);rw[A_]at AT;generalize Ak:a.eval AN=BP at AT;have BD:∃vs:Array Value,(execOp a.eval o).run X.P w=.ok (.enter g vs) w/\(jm g0 (dL S args.toList) E).length=vs.size/\∀(i:Nat) y v,(jm g0 (dL S args.toList) E)[i]?=some y->vs[i]?=some v->aG φ w (Fo G φ S.mem) y v:=by
    have Al:∀(i:Nat) y v,(dL S args.toList)[i]?=some y->(args.map a.eval)[i]?=some v->aG φ w (Fo G φ S.mem) y v:=by
     intro i y v A2 A3;rw[yo]at A2;simp only[Array.getElem?_map,acp]at A3;obtain⟨z,An,rfl⟩:=A3;obtain⟨BQ,Ao,rfl⟩:=acp.1 A2;rw[agC,An]at Ao;cases Ao;exact A9.ar z (wW B2 z (by simpa using Array.mem_of_getElem? An))
    have AP:(dL S args.toList).length=(args.map a.eval).size:=by rw[kB];simp
    have Ap:∀(l r:List AV)(AQ AR:Array Value),l.length=AQ.size->r.length=AR.size->(∀(i:Nat) y v,l[i]?=some y->AQ[i]?=some v->aG φ w (Fo G φ S.mem) y v)->(∀(i:Nat) y v,r[i]?=some y->AR[i]?=some v->aG φ w (Fo G φ S.mem) y v)->
     ∀(i:Nat) y v,(l++r)[i]?=some y->(AQ++AR)[i]?=some v->aG φ w (Fo G φ S.mem) y v:=by
     intro l r AQ AR M V AA BE i y v A2 A3;by_cases hi:i<l.length
     ·rw[acB hi]at A2;rw[agM (by omega)]at A3;exact AA i y v A2 A3
     ·rw[acG (by omega)]at A2;rw[Array.getElem?_append_right (by omega),<-M]at A3;exact BE _ y v A2 A3
    cases AT with
    |fn _ _ AU AO AF AW=>
     have AC:g0=g:=by rw[<-Aa,agG AO]
     subst AC;refine⟨args.map a.eval++AU,by simp[execOp,A8,resolve,Ak,Deferred.ofValue,invoke,wa Ai],?_,?_⟩
     ·rw[LY AO,acm,AP,AF,Array.size_append]
     ·rw[LY AO];exact Ap _ _ _ _ AP AF Al AW
    |uD f _ AU AF AW=>
     have AC:f=g:=by rw[<-Aa,agH]
     subst AC;refine⟨AU++args.map a.eval,by simp[execOp,A8,resolve,Ak,Deferred.ofValue,invoke,wa Ai],?_,?_⟩
     ·rw[LZ,acm,AP,AF,Array.size_append]
     ·rw[LZ];exact Ap _ _ _ _ AF AP AW Al
   obtain⟨vs,BF,BG,BH⟩:=BD
   ·unfold Oper.wp;rw[BF];have BI:(jl (mt.contains 1000) S.mem ρ B (jm g0 (dL S args.toList) E)).length=vs.size:=by
     rw[uy];exact BG
    have BJ:∀(i:Nat) x v,(jl (mt.contains 1000) S.mem ρ B (jm g0 (dL S args.toList) E))[i]?=some x->vs[i]?=some v->aG (φ.jC ρ jk) w (Fo (m6 φ G S.mem ρ B) (φ.jC ρ jk) (ej 0 (fo S.mem ρ (λk=>B.contains k) jk 0 ρ))) x v:=by
     intro i x v A' A3;rw[Ad]at A';obtain⟨y,A2,rfl⟩:=acp.1 A';exact (v2 y v (BH i y v A2 A3)).D3
    have BK:fL w (Fo (m6 φ G S.mem ρ B) (φ.jC ρ jk) (ej 0 (fo S.mem ρ (λk=>B.contains k) jk 0 ρ))) X.gl:=by
     rw[<-B3];exact A9.mm.mono (λ_ _ _=>rfl) (ack _) (λb _=>v3 b)
    refine (Aj (φ.jC ρ jk) (m6 φ G S.mem ρ B) w _ v1 BK BI BJ).mono ?_;rintro e w' ⟨BR,BS,AK,⟨rfl,rfl⟩,BL,A0,A1⟩;have AX:B=[]\/(B0 AK=true/\pL O=true):=BC.imp (by simp) id;obtain⟨φ',AD,U,Aq⟩:=IX (B:=B) A9.mem Ac Af (fr:=List.range' (A6+1) (O.length-ρ.length)) List.nodup_range' (ET BB) BL A0 (by simp;omega) (AX.imp id λAG=>Ae AG.2);have Ar:=A9.Bk AD U;cases AK with
    |ret x=>
     cases e with
     |returned v=>exact B4 _ rfl φ' w' v Ar U (Aq x v (AX.imp id λAG=>AG.1) A1)
     |_=>exact A1.elim
    |panic t x=>
     cases e with
     |panicked chain=>
      obtain⟨v,rfl,A'⟩:=A1;have:=Aq (.d x) v (AX.imp id λAG=>AG.1) (.d _ _ A');cases this with
      |d _ _ BM=>exact B5 t x rfl φ' w' v Ar U BM
     |_=>exact A1.elim
  ·cases h
 ·cases h
end Go.Am
end
