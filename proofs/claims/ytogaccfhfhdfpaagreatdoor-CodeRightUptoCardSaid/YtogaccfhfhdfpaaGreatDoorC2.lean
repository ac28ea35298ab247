/-
  Texts of one proof, one behind the other.
-/
import Derived.Test.YtogaccfhfhdfpaaGreatDoorC1
import Derived.Orders
set_option linter.all false
section
namespace Go.Am
open Go
set_option maxRecDepth 100000
set_option maxHeartbeats 8000000
def jR(S:St):List Operand->Bool
 |[]=>true
 |x::r=>(S.au x).1&&jR S r
def xM{S:St}:∀{l:List Operand},jR S l=true->∀x∈l,(S.au x).1=true
 |[],_,x,M=>by grind
 |y::r,h,x,M=>by
  simp[jR]at h;rcases aam.1 M with rfl|M
  .grind
  .exact xM h.2 x M
def iI(S:St)(o:Oper):Bool:=
 match o.op with
 | .pick _ _ _=>true
 |op=>jR S op.operands.toList
def vr(P:Program)(m:Mem)(AA:Nat)(t:TypeId)(x:AV):dO:=
 match x with
 | .lit (.slice none 0 0)=>match Mem.get m AA with
  |some ⟨_,v,_⟩=>match tk P t with
   | .slice e=>match fW P e with
    |some sz=>.dA true (.vec AA (v+1) 0 0) ⟨AA,v+1,.vec sz []⟩
    |none=>.val true x
   |_=>.val true x
  |none=>.val true x
 |x=>.val true x
def MP(P:Program)(S:St)(o:Oper)(x:Operand)(E:o.op=.move x\/o.op=.assign x)(M:(S.au x).1=true):aL P S o (vr P S.mem (keyOf o) o.type (S.au x).2):=by
 have plain:aL P S o (.val true (S.au x).2):=by
  have:=abA P S o x E M;grind
 unfold vr;split
 .rename_i A6;split
  .rename_i key v cont A3;split
   .split
    .rename_i sz A8;intro _ φ G a w I;obtain⟨hm,A0,L,A5,AB,Ag⟩:=I.mem.get A3;subst A0;have A7:=I.au x M;rw[A6]at A7;generalize B2:a.eval x=u at A7;cases A7;obtain⟨φ',AY,AZ,A_,AP⟩:=I.mem.dA (e':=⟨keyOf o,v+1,.vec sz []⟩) hm A5 rfl (L':=⟨v+1,0,sz,0,0,[]⟩) (by grind) (λhh=>by grind) rfl
      (w':=w) (λ_ _ _=>rfl) (aak _) (λ_ E=>absurd E.1 (by simp)) rfl rfl rfl (λφ' B3 BZ=>
       ⟨rfl,by simp,by simp,λO=>by grind⟩)
     refine⟨.slice none 0 0,w,φ',.inl ?_,?_,AY,AZ,AP⟩
     .rcases E with E|E<;>simp[execOp,E,B2]
     .exact .vec _ (v+1) 0 _ _ _ A_ (aak _) (λ_=>⟨_,_,rfl,by simp,λh=>by omega⟩) rfl
    grind
   grind
  grind
 grind
def CM:Value->Bool
 | .slice none 0 0=>true
 | .pointer none=>true
 | .nilIface=>true
 |_=>false
def ue(P:Program)(S:St)(op:BinOp)(t:TypeId)(x y:Operand):dO:=
 match y with
 | .const v=>match CM v,op with
  |true,.eql=>kT P S.mem false t (S.au x).2 v
  |true,.neq=>kT P S.mem true t (S.au x).2 v
  |_,_=>sC P op t (S.au x).2 (S.au (.const v)).2
 |y=>sC P op t (S.au x).2 (S.au y).2
def Va(P:Program)(S:St)(o:Oper)(B4:BinOp)(t AQ:TypeId)(x y:Operand)(E:o.op=.binOp B4 t x y AQ)(M:(S.au x).1=true)(AC:(S.au y).1=true):aL P S o (ue P S B4 t x y):=by
 unfold ue;split
 .split
  .exact QX P S o false t AQ x _ (by grind) M
  .exact QX P S o true t AQ x _ (by grind) M
  .exact QV P S o _ t AQ x _ E M AC
 .exact QV P S o B4 t AQ x y E M AC
def MQ{w:World}{F F':Nat->Prop}{sz:Nat}{AI:List D}{cs:List Value}{b off cap:Nat}(I:cM w F sz AI cs)(O:∀(j:Nat) v,cs[j]?=some v->w.cell? ⟨b,off+j,none⟩=some v)
 (AJ:b<w.heap.size) (Ah:∀b,F' b->F b) (B6:¬F' b) (BM:AI.length<=cap):aP w F' (.list AI) (.slice (some ⟨b,off,none⟩) AI.length cap):=by
 obtain⟨H,N,A1,AR⟩:=I;refine .list AI b off cap sz (λi=>if h:i<AI.length then Classical.choose (AR i AI[i] (by simp))else undef) BM AJ B6 A1 (λi d V=>?_) (λi j c hi Aa=>?_)
 .have hi:=(aai.1 V).1;have:=Classical.choose_spec (AR i AI[i] (by grind));simp[hi];have e:AI[i]=d:=(aai.1 V).2;rw[<-e];exact this.1.mono (λ_ _ _=>rfl) (aak _) (λb _=>Ah b)
 grind
def FY{φ w F F'}{k ar off len sz:Nat}{aq:List D}{L:Loc}{v:Value}(A7:aG φ w F (.vec k ar off len) v)(A5:φ k=some L)(AB:L.ar=ar)(O:eQ φ w F L (.vec sz aq))(hle:off+len<=aq.length)
 (Ah:∀b,F' b->F b) (B6:0<L.cap->¬F' L.dU):aP w F' (.list ((aq.drop off).take len)) v:=by
 have B_:((aq.drop off).take len).length=len:=by grind
 cases A7 with
 |vec _ _ _ _ _ L' Ai _ h _=>
  rw[A5]at Ai;cases Ai;obtain⟨ao,cap,rfl,BN,B7⟩:=h AB.symm;by_cases Ba:len=0
  .subst Ba;exact .nil _ _ (λA'=>by
    grind)
  .obtain⟨arr,elem,hh,BO,BP,I⟩:=pH O (by omega);have B8:=(I.drop off).take len (by grind);have:=MQ (F':=F') (b:=L.dU) (off:=L.base+off*L.sz) (cap:=cap) B8 (λj u Aa=>by
    rw[iN hh,O.1];grind) hh.lt Ah (B6 (by omega)) (by omega)
   grind
def Mem.set_set{e e':cL}(A0:e'.key=e.key):∀m:Mem,Mem.set (Mem.set m e) e'=Mem.set m e'
 |[]=>rfl
 |x::r=>by
  simp[Mem.set];by_cases h:x.key=e.key
  .rw[aav h,aav (by grind)];simp[Mem.set];grind
  .rw[aaf h,aaf (by grind)];simp[Mem.set];rw[aaf (by grind),Mem.set_set A0 r]
def ael{φ:cj}{G m w}(h:bF φ G m w){k v sz n:Nat}{aq:List D}(A3:Mem.get m k=some ⟨k,v,.vec sz aq⟩){x:Value}(M:aG φ w (Fo G φ m) (.vec k v 0 n) x)(A':n<=aq.length):
 ∃φ',bF φ' G (Mem.set m ⟨k,v+1,.dead⟩) w/\bj φ m w φ' (Mem.set m ⟨k,v+1,.dead⟩) w/\(∀j,j≠k->φ' j=φ j)/\aP w (Fo G φ' (Mem.set m ⟨k,v+1,.dead⟩)) (.list (aq.take n)) x:=by
 obtain⟨hm,_,L,A5,AB,Ag⟩:=h.get A3;obtain⟨φ',AY,AZ,A_,AP⟩:=h.dA (e:=⟨k,v,.vec sz aq⟩) (e':=⟨k,v+1,.dead⟩) hm A5 rfl (L':={L with ar:=v+1}) (by grind) (λhh=>by grind) rfl
  (w':=w) (λ_ _ _=>rfl) (aak _) (λ_ E=>E.elim) rfl rfl rfl (λ_ _ _=>trivial)
 have Bb:∀b,jN φ' (Mem.set m ⟨k,v+1,.dead⟩) b->jN φ m b/\∀(_:0<L.cap),b≠L.dU:=by
  rintro b ⟨y,AC,An,AD,Ab⟩;rcases (Mem.mem_set h.nodup).1 AC with ⟨rfl,_⟩|⟨Ao,AK⟩
  .exact Ab.elim
  .simp only at AK;rw[AP _ AK]at AD;refine⟨⟨y,Ao,An,AD,Ab⟩,λO heq=>AK (h.apart y Ao _ hm An L AD A5 ⟨b,Ab,O,heq.symm⟩)⟩
 have:=FY M A5 AB Ag (by omega) (F':=Fo G φ' (Mem.set m ⟨k,v+1,.dead⟩)) (λb=>Or.imp id (λAJ=>(Bb b AJ).1)) (λO=>by
  rintro (B9|E)
  .exact h.mg _ ⟨_,hm,L,A5,O,rfl⟩ B9
  grind)
 grind
def xN(m:Mem)(b:Bool)(AA:Nat):dO->dO
 | .dA c (.vec k v 0 n) ⟨AE,Ac,.vec sz aq⟩=>if b=true/\k≠AA/\AE=k/\Ac=v/\n<=aq.length/\(Mem.get m k).isSome=true then .dA c (.d (.list (aq.take n))) ⟨k,v+1,.dead⟩else .dA c (.vec k v 0 n) ⟨AE,Ac,.vec sz aq⟩
 |r=>r
def Yj{P:Program}{S:St}{o:Oper}{b:Bool}{AA:Nat}{r:dO}(h:aL P S o r):aL P S o (xN S.mem b AA r):=by
 unfold xN;split
 .rename_i c k v n AE Ac sz aq;split
  .rename_i hh;obtain⟨_,_,rfl,rfl,A',A8⟩:=hh;intro O φ G a w I;obtain⟨x,w',φ',H,N,A1,AR,BQ⟩:=h O φ G a w I;have BA:AE∈S.mem.map (·.key):=by
    cases A3:Mem.get S.mem AE with
    |none=>grind
    |some e=>
     obtain⟨Bc,C6⟩:=Mem.get_mem A3;grind
   obtain⟨BB,q1,q2,q3,BR⟩:=ael A1 (Mem.qX (x:=⟨AE,Ac,.vec sz aq⟩) BA) N A';rw[Mem.set_set (e:=⟨AE,Ac,.vec sz aq⟩) (e':=⟨AE,Ac+1,.dead⟩) rfl]at q1 q2 BR;exact⟨x,w',BB,H,.d _ _ BR,q1,AR.trans q2,λj Aa=>by grind⟩
  grind
 grind
def SP(P:Program)(t:TypeId):AV->dO
 | .lit (.slice none 0 0)=>match tk P t with
  | .slice _=>.val True (.d (.int .i64 0))
  |_=>.no
 |_=>.no
def aem(P:Program)(S:St)(o:Oper)(x:Operand)(t:TypeId)(E:o.op=.call {callee:=.builtin .cap,args:=#[x],argTypes:=#[t]})(M:(S.au x).1=true):aL P S o (SP P t (S.au x).2):=by
 have BC:∀(a:Act)(w:World)(v:Value),(Builtin.cap_ #[t] o.type #[a.eval x]).run P w=.ok v w->(execOp a.eval o).run P w=.ok (.value v) w:=by
  intro a w v h;simp[execOp,E,resolve,invoke,builtin,h]
 unfold SP;split
 .rename_i A6;split
  .rename_i e Bd;refine aL.pure λ_ φ G a w I=>?_;have H:=I.au x M;rw[A6]at H;generalize A4:a.eval x=av at H;cases H with|lit _ h=>
   refine⟨_,BC a w (.int .i64 0) ?_,.d _ _ (.int _ _)⟩;rw[A4];simp[Builtin.cap_,run_underlying (gR Bd),goInt]
  .trivial
 .trivial
def mW(P:Program)(S:St)(o:Oper)(b:Builtin)(args:List Operand)(ts:List TypeId):dO:=
 match b,args,ts with
 | .len,[x],[t]=>qa P S.mem t (S.au x).2
 | .append,[s,x],[t,u]=>xN S.mem (Mem.get S.mem (keyOf o)).isSome (keyOf o) (uO P S.mem (keyOf o) t u (S.au s).2 (S.au x).2)
 | .copy,[s,x],[t,_]=>AT P S.mem t (S.au s).2 (S.au x).2
 | .max,args,_=>Jm true (args.map λx=>(S.au x).2)
 | .min,args,_=>Jm false (args.map λx=>(S.au x).2)
 | .cap,[x],[t]=>SP P t (S.au x).2
 |_,_,_=>.no
def zeroOf:TK->Option D
 | .int k=>some (.int k 0)
 | .bool=>some (.bool false)
 |_=>none
def Qk{t:TK}{z:D}(h:zeroOf t=some z):z.size=1/\∀(w:World)(F:Nat->Prop),∃v,aP w F z v/\v.cells=#[v]/\∀u,aP w F z u->u=v:=by
 cases t with
 |int k=>cases h;exact⟨rfl,λw F=>⟨_,.int k 0,rfl,λu hu=>by cases hu;rfl⟩⟩
 |bool=>cases h;exact⟨rfl,λw F=>⟨_,.bool false,rfl,λu hu=>by cases hu;rfl⟩⟩
 |_=>cases h
def Vb:D->AV->Bool
 | .int k n,.d (.int AE Be)=>k == AE&&n == Be
 | .bool b,.d (.bool Bf)=>b == Bf
 |_,_=>false
def aen{z:D}{c:AV}(h:Vb z c=true):c=.d z:=by
 unfold Vb at h;split at h<;>simp_all
def MR(m:Mem)(k n:Nat)(z:D)(zs:List AV):dO:=
 match Mem.get m k with
 |some ⟨_,v,_⟩=>.dA (zs.length=n/\zs.all (Vb z)=true) (.df k (v+1) 0 0) ⟨k,v+1,.vec 1 (List.replicate n z)⟩
 |none=>.no
def wD(P:Program)(m:Mem)(k:Nat)(t:TypeId):dO:=
 match tA P t with
 |some zs=>match tk P t with
  | .arr n e=>if n<=3 then sx m k true zs else match zeroOf (tk P e)with
   |some z=>MR m k n z zs
   |none=>sx m k true zs
  |_=>sx m k true zs
 |none=>.no
def aeo(P:Program)(S:St)(o:Oper)(t:TypeId)(E:o.op=.alloc t)(n:Nat)(Ap:D)(BS:TK)(Aq:zeroOf BS=some Ap)(zs:List AV)(Ad:tA P t=some zs):aL P S o (MR S.mem (keyOf o) n Ap zs):=by
 obtain⟨C7,BT⟩:=Qk Aq;unfold MR;split
 .rename_i key v cont A3;refine aL.uM ?_;rintro ⟨A',Bg⟩ φ G a w I;obtain⟨z,BC,C8,H,BD⟩:=qy Ad w;obtain⟨hm,A0,L,A5,AB,Ag⟩:=I.mem.get A3;subst A0;have Bh:∀(w:World)(F:Nat->Prop)(i:Nat) u,z.cells[i]?=some u->aP w F Ap u:=by
   intro w' F i u hu;have hi:i<zs.length:=by
    grind
   have A1:=BD φ w (λ_=>False) i zs[i] u (by grind) hu;rw[aen (aaR.1 Bg _ (aec hi))]at A1;cases A1 with
   |d _ _ AR=>
    cases BS with
    |int k=>cases Aq;cases AR;exact .int k 0
    |bool=>cases Aq;cases AR;exact .bool false
    |_=>cases Aq
  obtain⟨φ',AY,AZ,A_,AP⟩:=I.mem.fresh (e:=⟨keyOf o,v,cont⟩) hm A5 AB w rfl rfl rfl rfl z.cells t 1 n (.vec 1 (List.replicate n Ap)) (λ_ AJ=>AJ.2) (λφ' hle A4 C9 BE=>by
   refine⟨rfl,by simp,λd V=>by grind,λ_=>⟨z.cells,t,fS.new BE,by grind,H,λi d V=>?_⟩⟩;obtain⟨hi,rfl⟩:=aai.1 V;simp at hi;have BQ:=λw F=>Bh w F i z.cells[i] (by grind);have Bc:=(BQ w (λ_=>False)).size;refine⟨z.cells[i],by grind,λj c Aa=>?_⟩;rw[eP (H _ (by simp))]at Aa;grind)
  refine⟨.pointer (some ⟨w.heap.size,0,none⟩),_,φ',.inl ?_,?_,AY,AZ,AP⟩
  .simp[execOp,E,Instr.alloc,newVar,jB,BC]
  .exact .df _ (v+1) 0 0 _ _ A_ (aak _) (λ_=>by simp) rfl
 .trivial
def Vc(P:Program)(S:St)(o:Oper)(t:TypeId)(E:o.op=.alloc t):aL P S o (wD P S.mem (keyOf o) t):=by
 unfold wD;split
 .rename_i zs Ad;split
  .split
   .exact FV P S o t E zs Ad
   .split
    .rename_i BT;exact aeo P S o t E _ _ _ BT zs Ad
    .exact FV P S o t E zs Ad
  .exact FV P S o t E zs Ad
 .trivial
def vt(P:Program)(m:Mem)(AA:Nat)(src dst:TypeId)(x:AV):dO:=
 match x with
 | .vec k ar off len=>match tk P dst with
  | .slice e=>match decide (src=dst),tk P e,Mem.get m k with
   |true,.int .u8,some ⟨_,v,.vec sz aq⟩=>.dA (decide (v=ar/\0<len)) (.vec k ar off len) ⟨k,ar,.vec sz aq⟩
   |_,_,_=>.no
  |_=>nV P m AA src dst (.vec k ar off len)
 |x=>nV P m AA src dst x
def Yk(P:Program)(S:St)(o:Oper)(src dst:TypeId)(x:Operand)(E:o.op=.convert src dst x)(M:(S.au x).1=true):aL P S o (vt P S.mem (keyOf o) src dst (S.au x).2):=by
 unfold vt;split
 .rename_i k ar off len A6;split
  .rename_i e V;split
   .rename_i key v sz aq BF Bi A3;refine aL.uM ?_;rintro ⟨rfl,B_⟩ φ G a w I;have BF:src=dst:=aa6 BF;subst BF;obtain⟨hm,A0,L,A5,AB,Ag⟩:=I.mem.get A3;subst A0;have A7:=I.au x M;rw[A6]at A7;have Bj:=A7;generalize B2:a.eval x=CA at A7 Bj;cases A7 with
    |vec _ _ _ _ _ L' Ai _ h Bk=>
     rw[A5]at Ai;cases Ai;obtain⟨ao,cap,rfl,BN,B7⟩:=h AB.symm;obtain⟨rfl,BM⟩:=B7 (by omega);have BG:0<L.cap:=by omega
     obtain⟨Bl,Bm,Bn,Bo⟩:=Ag;obtain⟨arr,elem,⟨fr,hh,CB⟩,BO,BP,BD⟩:=Bo BG;obtain⟨w',AU⟩:∃w',w'=w.freeze ⟨L.dU,arr.size,none⟩ 1:=⟨_,rfl⟩;have BE:fS w' L.dU arr elem:=by
      obtain⟨lo,hi⟩:=fr;rw[AU];by_cases he:lo=hi
      .refine⟨(arr.size,arr.size+1),?_,.inr (aak _)⟩;simp[World.freeze,ajw,hh,he]
      .refine⟨(min lo arr.size,max hi (arr.size+1)),?_,?_⟩
       .simp[World.freeze,ajw,hh,he]
       grind
     have hold:∀b,b≠L.dU->w'.heap[b]?=w.heap[b]?:=by
      rw[AU];simp[World.freeze];grind
     have CC:w'.heap.size=w.heap.size:=by rw[AU];simp[World.freeze]
     have BH:w'.os=w.os:=by rw[AU];simp[World.freeze]
     have Bp:w'.tape=w.tape:=by rw[AU];simp[World.freeze]
     have Bq:w'.output=w.output:=by rw[AU];simp[World.freeze]
     have BA:Fo G φ S.mem L.dU:=.inr ⟨_,hm,L,A5,BG,rfl⟩;obtain⟨φ',AY,AZ,A_,AP⟩:=I.mem.dA (e:=⟨key,v,.vec sz aq⟩) (e':=⟨key,v,.vec sz aq⟩) hm A5 rfl (L':=L) (aak _) (λ_=>rfl) AB
      (w':=w') (λb _ A'=>hold b (λhe=>A' ⟨BG,he.symm⟩)) (by omega) (λ_ E=>.inl E) BH Bp Bq (λφ' B3 BZ=>by
       have Ah:∀b,Fo G φ' (Mem.set S.mem ⟨key,v,.vec sz aq⟩) b->Fo G φ S.mem b:=by
        rintro b (B9|⟨y,AC,An,AD,Ab⟩)
        .exact .inl B9
        .right;rcases (Mem.mem_set I.mem.nodup).1 AC with ⟨rfl,_⟩|⟨Ao,AK⟩
         .rw[B3]at AD;simp at AD;subst AD;exact⟨_,hm,L,A5,Ab⟩
         .rw[B3]at AD;simp[AK]at AD;exact⟨y,Ao,An,AD,Ab⟩
       exact⟨Bl,Bm,Bn,λ_=>⟨arr,elem,BE,BO,BP,λi d V=>let ⟨u,hu,Aa⟩:=BD i d V
        ⟨u,hu.mono (λb _ A'=>hold b (λhe=>A' (he▸BA))) (by omega) (λb _=>Ah b),Aa⟩⟩⟩)
     refine⟨.slice (some ⟨L.dU,L.base+off*L.sz,none⟩) len cap,w',φ',.inl ?_,.vec key v off len _ L A_ (Nat.le_of_eq AB.symm) (λ_=>⟨_,_,rfl,BN,B7⟩) Bk,AY,AZ,AP⟩;have Br:w.shape? L.dU=some (elem,arr.size):=by simp[World.shape?,hh]
     have Bs:(markStringish ⟨L.dU,L.base+off*L.sz,none⟩).run P w=.ok () w':=by
      simp[markStringish,Sem.run,Br,AU]
     simp[execOp,E,B2,convert,run_underlying (gR V),run_underlying (zK Bi),Bs]
   .trivial
  .rw[<-A6];exact QY P S o src dst x E M
 .exact QY P S o src dst x E M
def MT(P:Program)(s:TypeId)(f:Nat):Option TypeId:=
 match P.underlying s with
 |some (.struct fs)=>match fs[f]? with
  |some fl=>some fl.type
  |none=>none
 |_=>none
def zM(P:Program)(s:TypeId)(x:AV)(f:Nat):dO:=
 match x with
 | .d (.agg cs)=>match AO P s f,MT P s f with
  |some off,some e=>match (tk P e).agg,fW P e with
   |false,some 1=>.val (off<cs.length/\tk P e≠.other) (.d (D.at cs off))
   |true,some sz=>.val (off+sz<=cs.length) (.d (.agg ((cs.drop off).take sz)))
   |_,_=>.no
  |_,_=>.no
 | .agg cs=>match AO P s f,MT P s f with
  |some off,some e=>match (tk P e).agg,fW P e,cs[off]? with
   |false,some 1,some c=>.val (tk P e≠.other) c
   |_,_,_=>.no
  |_,_=>.no
 |_=>.no
def Kf{P:Program}{s:TypeId}{f off:Nat}{e:TypeId}(h:AO P s f=some off)(he:MT P s f=some e):∃fs fl,P.underlying s=some (.struct fs)/\fs[f]?=some fl/\fl.offset=off/\fl.type=e:=by
 unfold AO at h;unfold MT at he;grind
def Ve(P:Program)(S:St)(o:Oper)(s:TypeId)(x:Operand)(f:Nat)(E:o.op=.field s x f)(M:(S.au x).1=true):aL P S o (zM P s (S.au x).2 f):=by
 unfold zM;split
 .rename_i cs A6;split
  .rename_i off e BI BJ;obtain⟨fs,fl,Ar,As,rfl,rfl⟩:=Kf BI BJ;split
   .rename_i Aj A8;refine aL.pure ?_;rintro ⟨CD,AK⟩ φ G a w I;have H:=I.au x M;rw[A6]at H;generalize A4:a.eval x=av at H;cases H with|d _ _ H=>
    cases H with|agg _ AF BU Bt At=>
    refine⟨AF[fl.offset],?_,.d _ _ (At fl.offset _ _ (kV (by omega)) (by grind))⟩;have Z:=wm (P:=P) (w:=w) (t:=fl.type) (cs:=AF) (off:=fl.offset) Aj AK (v:=AF[fl.offset]) (by grind);simp[execOp,E,A4,Instr.field,run_underlying Ar,As,asAgg,Z]
   .rename_i sz Aj A8;refine aL.pure ?_;rintro hle φ G a w I;have H:=I.au x M;rw[A6]at H;generalize A4:a.eval x=av at H;cases H with|d _ _ H=>
    have Bu:=H;cases H with|agg _ AF BU Bt At=>
    refine⟨_,?_,.d _ _ (B5 Bu fl.offset sz hle)⟩;have Z:=Kc (P:=P) (w:=w) (t:=fl.type) (cs:=AF) (off:=fl.offset) Aj A8;simp[execOp,E,A4,Instr.field,run_underlying Ar,As,asAgg,Z]
   .trivial
  .trivial
 .rename_i cs A6;split
  .rename_i off e BI BJ;obtain⟨fs,fl,Ar,As,rfl,rfl⟩:=Kf BI BJ;split
   .rename_i c Aj A8 O;refine aL.pure ?_;rintro AK φ G a w I;have H:=I.au x M;rw[A6]at H;generalize A4:a.eval x=av at H;cases H with|agg _ AF BU CE At=>
    have CF:fl.offset<AF.size:=by grind
    refine⟨AF[fl.offset],?_,At fl.offset c _ O (by grind)⟩;have Z:=wm (P:=P) (w:=w) (t:=fl.type) (cs:=AF) (off:=fl.offset) Aj AK (v:=AF[fl.offset]) (by grind);simp[execOp,E,A4,Instr.field,run_underlying Ar,As,asAgg,Z]
   .trivial
  .trivial
 .trivial
def Ed(P:Program)(x:AV)(asserted:TypeId)(ok:Bool):dO:=
 match x with
 | .jb t d=>match decide (t=asserted),ok with
  |true,true=>.val (tk P asserted≠.other/\tk P asserted≠.iface) (.bh [.d d,.d (.bool true)])
  |true,false=>.val (tk P asserted≠.other/\tk P asserted≠.iface) (.d d)
  |_,_=>.no
 |_=>.no
def aeq{P:Program}{t:TypeId}(h:tk P t≠.other)(N:tk P t≠.iface):∃d,P.underlying t=some d/\∀ms,d≠.interface ms:=by
 unfold tk at h N;grind
def Ho{P:Program}{w:World}{t Bv asserted:TypeId}{v:Value}{ok:Bool}(h:tk P asserted≠.other)(N:tk P asserted≠.iface)(AG:t=asserted):
 (Instr.typeAssert (.iface t v) Bv asserted ok).run P w=.ok (if ok then .tuple #[v,.bool true]else v) w:=by
 obtain⟨d,V,A'⟩:=aeq h N;simp[Instr.typeAssert,run_underlying V];simp_all
def Vf(P:Program)(S:St)(o:Oper)(x:Operand)(BK asserted:TypeId)(ok:Bool)(E:o.op=.typeAssert x BK asserted ok)(M:(S.au x).1=true):aL P S o (Ed P (S.au x).2 asserted ok):=by
 unfold Ed;split
 .rename_i t d A6;split
  .have AG:t=asserted:=by grind
   refine aL.pure ?_;rintro ⟨H,N⟩ φ G a w I;have AL:=I.au x M;rw[A6]at AL;generalize A4:a.eval x=av at AL;cases AL with|jb _ _ v V=>
   refine⟨.tuple #[v,.bool true],by simp[execOp,E,A4,Ho H N AG],.bh _ _ rfl λi c u O hu=>?_⟩;match i,O,hu with
   |0,O,hu=>simp at O hu;subst O hu;exact .d _ _ V
   |1,O,hu=>simp at O hu;subst O hu;exact .d _ _ (.bool _)
   |i+2,O,hu=>grind
  .have AG:t=asserted:=by grind
   refine aL.pure ?_;rintro ⟨H,N⟩ φ G a w I;have AL:=I.au x M;rw[A6]at AL;generalize A4:a.eval x=av at AL;cases AL with|jb _ _ v V=>
   exact⟨v,by simp[execOp,E,A4,Ho H N AG],.d _ _ V⟩
  .trivial
 .trivial
def dC(P:Program)(S:St)(o:Oper):dO:=
 match o.op with
 | .move x=>vr P S.mem (keyOf o) o.type (S.au x).2
 | .assign x=>vr P S.mem (keyOf o) o.type (S.au x).2
 | .pick c a b=>LP (S.au c) (S.au a) (S.au b)
 | .alloc t=>wD P S.mem (keyOf o) t
 | .box _ x=>sx S.mem (keyOf o) (S.au x).2.mU (S.au x).2.cells
 | .load t x=>nQ P S.mem t (S.au x).2
 | .store t p x=>q8 P S.mem t (S.au p).2 (S.au x).2
 | .fieldAddr s x f=>qA P S.mem s f (S.au x).2
 | .nilCheck x=>kq S.mem (S.au x).2
 | .indexAddr t x i=>oc P S.mem t (S.au x).2 (S.au i).2
 | .index t x i=>sD P t (S.au x).2 (S.au i).2
 | .slice t x lo hi none=>mm P S.mem t (S.au x).2 (lo.map λy=>(S.au y).2) (hi.map λy=>(S.au y).2)
 | .binOp op t x y _=>ue P S op t x y
 | .unOp op _ x=>MJ op (S.au x).2
 | .convert s d x=>vt P S.mem (keyOf o) s d (S.au x).2
 | .makeInterface t x=>vq P t (S.au x).2
 | .makeFunc f first cap=>qC f (first.toList.map λx=>(S.au x).2) (cap.toList.map λx=>(S.au x).2)
 | .makeSlice t l c=>AS P S.mem (keyOf o) t (S.au l).2 (S.au c).2
 | .build t ps=>Hj P t (ps.toList.map λx=>(x.1,(S.au x.2).2))
 | .buildSlice t len ps=>lI P S.mem (keyOf o) t len (ps.toList.map λx=>(x.1,(S.au x.2).2))
 | .extract x i=>wA i (S.au x).2
 | .field s x f=>zM P s (S.au x).2 f
 | .typeAssert x _ t ok=>Ed P (S.au x).2 t ok
 | .call {callee:=.builtin b,args,argTypes}=>mW P S o b args.toList argTypes.toList
 |_=>.no
def MU(P:Program)(S:St)(o:Oper)(h:iI S o=true):aL P S o (dC P S o):=by
 unfold iI at h;unfold dC;have one:∀{l:List Operand},jR S l=true->∀x∈l,(S.au x).1=true:=xM;split
 .rename_i x E;simp only[E]at h;exact MP P S o x (.inl E) (one h x (by simp[Op.operands]))
 .rename_i x E;simp only[E]at h;exact MP P S o x (.inr E) (one h x (by simp[Op.operands]))
 .rename_i c a b E;exact abz P S o c a b E
 .rename_i t E;exact Vc P S o t E
 .rename_i t x E;simp only[E]at h;exact ad0 P S o t x E (one h x (by simp[Op.operands]))
 .rename_i t x E;simp only[E]at h;exact (QM P S o t x E (one h x (by simp[Op.operands]))).res
 .rename_i t p x E;simp only[E]at h;exact X9 P S o t p x E (one h p (by simp[Op.operands])) (one h x (by simp[Op.operands]))
 .rename_i s x f E;simp only[E]at h;exact Ye P S o s x f E (one h x (by simp[Op.operands]))
 .rename_i x E;simp only[E]at h;exact Qg P S o x E (one h x (by simp[Op.operands]))
 .rename_i t x i E;simp only[E]at h;exact Yf P S o t x i E (one h x (by simp[Op.operands])) (one h i (by simp[Op.operands]))
 .rename_i t x i E;simp only[E]at h;exact U5 P S o t x i E (one h x (by simp[Op.operands])) (one h i (by simp[Op.operands]))
 .rename_i t x lo hi E;simp only[E]at h;exact Yh P S o t x lo hi E (one h x (by simp[Op.operands])) (λy AC=>one h y (by simp[Op.operands,AC])) (λy AC=>one h y (by simp[Op.operands,AC]))
 .rename_i op t x y AQ E;simp only[E]at h;exact Va P S o op t AQ x y E (one h x (by simp[Op.operands])) (one h y (by simp[Op.operands]))
 .rename_i op t x E;simp only[E]at h;exact ajN P S o op t x E (one h x (by simp[Op.operands]))
 .rename_i s d x E;simp only[E]at h;exact Yk P S o s d x E (one h x (by simp[Op.operands]))
 .rename_i t x E;simp only[E]at h;exact MK P S o t x E (one h x (by simp[Op.operands]))
 .rename_i f first cap E;simp only[E]at h;exact Qh P S o f first cap E (λx M=>one h x (by simp[Op.operands];left;simpa using M)) (λx M=>one h x (by simp[Op.operands];right;simpa using M))
 .rename_i t l c E;simp only[E]at h;exact abv P S o t l c E (one h l (by simp[Op.operands])) (one h c (by simp[Op.operands]))
 .rename_i t ps E;simp only[E]at h;exact Yi P S o t ps E (λx M=>one h x.2 (by simp only[Op.operands,List.toList_toArray,aaD];exact⟨x,M,rfl⟩))
 .rename_i t len ps E;simp only[E]at h;exact LG P S o t len ps E (λx M=>one h x.2 (by simp only[Op.operands,List.toList_toArray,aaD];exact⟨x,M,rfl⟩))
 .rename_i x i E;simp only[E]at h;exact SN P S o x i E (one h x (by simp[Op.operands]))
 .rename_i s x f E;simp only[E]at h;exact Ve P S o s x f E (one h x (by simp[Op.operands]))
 .rename_i x BK t ok E;simp only[E]at h;exact Vf P S o x BK t ok E (one h x (by simp[Op.operands]))
 .rename_i b args ts E;simp only[E]at h;have AM:∀x∈args.toList,(S.au x).1=true:=λx M=>one h x (by simp[Op.operands,Call.operands];simpa using M);have Au:∀{l:List Operand},args.toList=l->args=l.toArray:=λh=>by rw[<-h]
  have Av:∀{l:List TypeId},ts.toList=l->ts=l.toArray:=λh=>by rw[<-h]
  unfold mW;split
  .rename_i x t H N;rw[Au H,Av N]at E;exact aeg P S o x t E (AM x (by simp[H]))
  .rename_i s x t u H N;rw[Au H,Av N]at E;exact Yj <| aeb P S o s x t u E (AM s (by simp[H])) (AM x (by simp[H]))
  .rename_i s x t u H N;rw[Au H,Av N]at E;exact abw P S o s x t u E (AM s (by simp[H])) (AM x (by simp[H]))
  .exact U7 P S o true args ts (by simpa using E) AM
  .exact U7 P S o false args ts (by simpa using E) AM
  .rename_i x t H N;rw[Au H,Av N]at E;exact aem P S o x t E (AM x (by simp[H]))
  .trivial
 .trivial
inductive XE where
 |normal
 |exit (id:Nat)
 |ret
 |panic (t:TypeId) (x:D)
def pt(n:Nat)(φ:cj)(G:Fr)(m:Mem)(w:World)(Q:XE->St->Prop):Exit->Act->World->Prop
 | .normal,U,w'=>∃φ' J,J.n=n/\Q .normal J/\Rel φ' G J U w'/\bj φ m w φ' J.mem w'
 | .exit id,U,w'=>∃φ' J,J.n=n/\Q (.exit id) J/\Rel φ' G J U w'/\bj φ m w φ' J.mem w'
 | .ret,U,w'=>∃φ' J,J.n=n/\Q .ret J/\Rel φ' G J U w'/\bj φ m w φ' J.mem w'
 | .panic chain,U,w'=>∃φ' J t x v,chain=[{v:=.iface t v,recovered:=false}]/\aP w' (Fo G φ' J.mem) x v/\J.n=n/\Q (.panic t x) J/\Rel φ' G J U w'/\bj φ m w φ' J.mem w'
 |_,_,_=>False
def pt.weaken{n φ G m w Q AW BV AN e U w'}(A0:bj φ m w AW BV AN)(h:pt n AW G BV AN Q e U w'):pt n φ G m w Q e U w':=by
 cases e with
 |normal=>obtain⟨φ',J,A2,H,N,A1⟩:=h;exact⟨φ',J,A2,H,N,A0.trans A1⟩
 |exit id=>obtain⟨φ',J,A2,H,N,A1⟩:=h;exact⟨φ',J,A2,H,N,A0.trans A1⟩
 |ret=>obtain⟨φ',J,A2,H,N,A1⟩:=h;exact⟨φ',J,A2,H,N,A0.trans A1⟩
 |panic chain=>obtain⟨φ',J,t,x,v,O,V,A2,H,N,A1⟩:=h;exact⟨φ',J,t,x,v,O,V,A2,H,N,A0.trans A1⟩
 |_=>exact h.elim
def pt.mono{n φ G m w Q Ak e U w'}(A9:∀e S,Q e S->Ak e S)(h:pt n φ G m w Q e U w'):pt n φ G m w Ak e U w':=by
 cases e with
 |normal=>obtain⟨φ',J,A2,H,N⟩:=h;exact⟨φ',J,A2,A9 _ _ H,N⟩
 |exit id=>obtain⟨φ',J,A2,H,N⟩:=h;exact⟨φ',J,A2,A9 _ _ H,N⟩
 |ret=>obtain⟨φ',J,A2,H,N⟩:=h;exact⟨φ',J,A2,A9 _ _ H,N⟩
 |panic chain=>obtain⟨φ',J,t,x,v,O,V,A2,H,N⟩:=h;exact⟨φ',J,t,x,v,O,V,A2,A9 _ _ H,N⟩
 |_=>exact h.elim
def oh(P:Program)(c:Code)(S:St)(Q:XE->St->Prop):Prop:=
 ∀φ G a w,Rel φ G S a w->c.wp P (pt S.n φ G S.mem w Q) a w
def ri(all:List Oper)(S:St)(j:Nat):Option (Bool×AV):=
 match all[j]? with
 |some o=>match o.dst with
  |some t=>Env.lk S.env t
  |none=>none
 |none=>none
def lh(n:Nat)(ops:List Oper):Bool:=ops.all λo=>match o.dst with|some t=>decide (t<n)|none=>true
def nW(S:St)(d g x):(S.put d g x).n=S.n:=by cases d<;>rfl
def gm(S:St)(d g x):(S.put d g x).mem=S.mem:=by cases d<;>rfl
def Hb.step{P:Program}{o:Oper}{a:Act}{w w':World}{v:Value}{next R}(h:Hb P o a w v w')(A':next (a.put o.dst v) w'):o.wp P a w next R:=by
 unfold Oper.wp;rcases h with h|⟨h,rfl⟩<;>rw[h]<;>exact A'
def Rel.grow{φ G S a w w'}(h:Rel φ G S a w)(hold:∀b,b<w.heap.size->w'.heap[b]?=w.heap[b]?)(A8:w.heap.size<=w'.heap.size):Rel φ G S a w':=
 ⟨h.size,h.defers,λt x M=>(h.env t x M).mono (cj.le_refl _) (λb AJ _=>hold b AJ) A8 (λ_ _ h=>h),h.mem.grow hold A8,h.mh.mono (λb AJ _=>hold b AJ) A8 (λ_ _ h=>h)⟩
def Yl{P:Program}{S:St}{o:Oper}{c:Bool}{x:AV}{gb:Bool}(I:aL P S o (.val c x))(O:c=true){φ G a w}(h:Rel φ G S a w)(V:∀t,o.dst=some t->t<S.n){next:Act->World->Prop}{R}
 (A':∀U w',Rel φ G (S.put o.dst gb x) U w'->bj φ S.mem w φ S.mem w'->next U w'):o.wp P a w next R:=by
 obtain⟨v,w',BL,A4,hold,A8,BH,AG,Bw⟩:=I O φ G a w h;exact BL.step (A' _ _ ((h.grow hold A8).put o.dst V gb x v (λ_=>A4)) (bj.grow hold A8 BH AG Bw))
def Ym{P:Program}{S:St}{o:Oper}{c:Bool}{x:AV}{e:cL}(I:aL P S o (.dA c x e))(O:c=true){φ G a w}(h:Rel φ G S a w)(V:∀t,o.dst=some t->t<S.n){next:Act->World->Prop}{R}
 (A':∀φ' U w',Rel φ' G (({S with mem:=Mem.set S.mem e}:St).put o.dst true x) U w'->bj φ S.mem w φ' (Mem.set S.mem e) w'->next U w'):o.wp P a w next R:=by
 obtain⟨v,w',φ',BL,A4,hm,A0,_⟩:=I O φ G a w h;exact BL.step (A' φ' _ _ ((h.Ct hm A0).put o.dst V true x v (λ_=>A4)) A0)
def Vg{all:List Oper}{S:St}{j:Nat}{b:Bool}{φ G a w}(h:Rel φ G S a w)(A3:ri all S j=some (true,.d (.bool b))):yielded all.toArray a.tmps j=some b:=by
 unfold ri at A3;split at A3
 .rename_i o E;split at A3
  .rename_i t AG;have:=vO (h.env t _ A3);unfold yielded;simp only[aeE,E,aek,AG];rw[abk]at this;cases A9:a.tmps[t]? with
   |none=>simp[A9,undef]at this
   |some v=>simp[A9]at this;simp[this]
  .cases A3
 .cases A3
section
variable {P:Program} {S:St} {Q:XE->St->Prop}
theorem oh.mono{c:Code}{Ak:XE->St->Prop}(h:oh P c S Q)(A9:∀e S,Q e S->Ak e S):oh P c S Ak:=
 λφ G a w I=>wp_mono (h φ G a w I) λ_ _ _ Z=>Z.mono A9
def St.prune(S:St)(rk:List Nat):St:={S with env:=if rk=[0,0]then S.env else rk.filterMap λt=>(Env.lk S.env t).map λx=>(t,x)}
theorem wE(env:Env):∀(rk:List Nat)(t:Nat)(x:Bool×AV),Env.lk (rk.filterMap λt=>(Env.lk env t).map λx=>(t,x)) t=some x->Env.lk env t=some x
 |[],t,x,h=>by simp[Env.lk]at h
 |k::r,t,x,h=>by
  simp only[List.filterMap_cons]at h;cases A0:Env.lk env k with
  |none=>simp[A0]at h;exact wE env r t x h
  |some y=>
   simp only[A0,afS,Env.lk]at h;by_cases BW:k=t
   .subst BW;simp at h;subst h;exact A0
   .simp[BW]at h;exact wE env r t x h
theorem Rel.prune{φ G a w}(h:Rel φ G S a w)(rk:List Nat):Rel φ G (S.prune rk) a w:=
 ⟨h.size,h.defers,λt x M=>h.env t x (by
  simp only[St.prune]at M;split at M
  .exact M
  .exact wE _ _ _ _ M),h.mem,h.mh⟩
theorem Q0{x y:Code}(h:oh P x S λe J=>match e with| .normal=>oh P y J Q|e=>Q e J):oh P (.seq x y) S Q:=by
 intro φ G a w I;refine wp_seq (wp_mono (h φ G a w I) λe U w' Z=>?_);cases e with
 |normal=>
  obtain⟨φ',J,A',H,N,A1⟩:=Z;exact wp_mono (H φ' G U w' N) λe a2 Al BX=>by rw[A']at BX;exact BX.weaken A1
 |_=>exact Z
theorem MV{c:Operand}{x y:Code}{b:Bool}(O:S.au c=(true,.d (.bool b)))(AG:b=true->oh P x S Q)(Bx:b=false->oh P y S Q):oh P (.cond c x y) S Q:=by
 intro φ G a w I;have A7:=I.au c (by rw[O]);rw[O]at A7;have e:=vO A7;cases b
 .exact wp_cond_false e (Bx rfl φ G a w I)
 .exact wp_cond_true e (AG rfl φ G a w I)
theorem Yn(h:Q .normal S):oh P .skip S Q:=λφ _ _ _ I=>wp_skip ⟨φ,S,rfl,h,I,bj.refl ..⟩
theorem abB(h:Q .ret S):oh P .ret S Q:=λφ _ _ _ I=>wp_ret ⟨φ,S,rfl,h,I,bj.refl ..⟩
theorem Yo{id:Nat}(h:Q (.exit id) S):oh P (.exit id) S Q:=λφ _ _ _ I=>wp_exit ⟨φ,S,rfl,h,I,bj.refl ..⟩
theorem CN{id:Nat}{c:Code}(h:oh P c S λe J=>match e with| .exit Aw=>if Aw=id then Q .normal J else Q (.exit Aw) J|e=>Q e J):oh P (.block id c) S Q:=by
 intro φ G a w I;refine wp_block (wp_mono (h φ G a w I) λe U w' Z=>?_);cases e with
 |exit Aw=>
  obtain⟨φ',J,A',H,N,A1⟩:=Z;simp only[Exit.inBlock];by_cases hid:Aw=id
  .simp only[hid,ad1]at H⊢;exact⟨φ',J,A',H,N,A1⟩
  .simp only[hid,abc]at H⊢;exact⟨φ',J,A',H,N,A1⟩
 |_=>exact Z
theorem Yp{c:Code}{α:Type}(AH:α->St)(Ax:α->Prop)(Ay:α->Nat)(AX:α)(By:S=AH AX)(A2:Ax AX)
 (round:∀x,Ax x->oh P c (AH x) λe J=>match e with| .normal=>∃Ae,J=AH Ae/\Ax Ae/\Ay Ae<Ay x|e=>Q e J):oh P (.loop c) S Q:=by
 intro φ G a w I;subst By;intro b k cs;have key:∀n x AW Az AN,Ay x=n->Ax x->(AH x).n=(AH AX).n->Rel AW G (AH x) Az AN->bj φ (AH AX).mem w AW (AH x).mem AN->
  ∃e U w',pt (AH AX).n φ G (AH AX).mem w Q e U w'/\Arrives P (lone (b.at Az (.code c::.inLoop c::k)) cs AN) b k cs e U w':=by
  intro n;induction n using Nat.strongRecOn with
  |_ n ih=>
   intro x AW Az AN A' Bz B' AL B0;obtain⟨e,a2,Al,Z,Af⟩:=round x Bz AW G Az AN AL b (.inLoop c::k) cs;cases e with
   |normal=>
    obtain⟨BB,CG,C',⟨Ae,rfl,C0,CH⟩,B8,C1⟩:=Z;obtain⟨C2,a3,C3,C4,C5⟩:=ih (Ay Ae) (by omega) Ae BB a2 Al rfl C0 (C'.trans B') B8 (B0.trans C1);exact⟨C2,a3,C3,C4,.of_steps (Steps.trans Af (.one step_inLoop)) C5⟩
   |exit id=>exact⟨.exit id,a2,Al,by rw[B']at Z;exact pt.weaken (e:=.exit id) B0 Z,.pass (x:=.inLoop c) rfl (λ_ _=>.inl (by simp)) Af⟩
   |goto l=>exact Z.elim
   |ret=>exact⟨.ret,a2,Al,by rw[B']at Z;exact pt.weaken (e:=.ret) B0 Z,.pass (x:=.inLoop c) rfl (λ_ _=>.inl (by simp)) Af⟩
   |panic BY=>exact⟨.panic BY,a2,Al,by rw[B']at Z;exact pt.weaken (e:=.panic BY) B0 Z,.pass (x:=.inLoop c) rfl (λ_ _=>.inl (by simp)) Af⟩
   |outgrown=>exact Z.elim
 obtain⟨e,U,w',A9,Af⟩:=key _ AX φ a w rfl A2 rfl I (bj.refl ..);exact⟨e,U,w',A9,.of_steps (.one step_loop) Af⟩
end
inductive Out where
 |ret (x:AV)
 |panic (t:TypeId) (x:D)
def pL(φ:cj)(w:World)(F:Nat->Prop):Out->Ending->Prop
 | .ret x,.returned v=>aG φ w F x v
 | .panic t x,.panicked chain=>∃v,chain=[{v:=.iface t v,recovered:=false}]/\aP w F x v
 |_,_=>False
def Ev(P:Program)(gl:List (Nat×D))(f:FuncId)(args:List AV)(m:Mem)(K:Out->Mem->Prop):Prop:=
 ∀φ G w (vs:Array Value),bF φ G m w->fG w (Fo G φ m) gl->args.length=vs.size->(∀(i:Nat) x v,args[i]?=some x->vs[i]?=some v->aG φ w (Fo G φ m) x v)->
  Calls P f vs w λe w'=>∃φ' m' out,K out m'/\bF φ' G m' w'/\bj φ m w φ' m' w'/\pL φ' w' (Fo G φ' m') out e
def Ev.mono{P gl f args m K K'}(h:Ev P gl f args m K)(H:∀o m,K o m->K' o m):Ev P gl f args m K':=
 λφ G w vs hm I A6 Ah=>(h φ G w vs hm I A6 Ah).mono λ_ _ ⟨φ',m',out,N,V⟩=>⟨φ',m',out,H _ _ N,V⟩
def lZ:List Nat->Nat->Nat->Option Nat
 |[],_,_=>none
 |a::r,k,i=>if a=k then some i else lZ r k (i+1)
def AW:∀{ρ:List Nat}{k j i:Nat},lZ ρ k j=some i->j<=i/\ρ[i-j]?=some k
 |[],k,j,i,h=>by simp[lZ]at h
 |a::r,k,j,i,h=>by
  simp only[lZ]at h;split at h
  .rename_i H;cases h;subst H;simp
  .obtain⟨N,V⟩:=AW h;refine⟨by omega,?_⟩;rw[show i-j=(i-(j+1))+1 by omega];simpa using V
def lj:∀{ρ:List Nat}{k j:Nat},lZ ρ k j=none↔k∉ρ
 |[],k,j=>by simp[lZ]
 |a::r,k,j=>by
  simp only[lZ,aam,amG];split
  .rename_i H;subst H;simp
  .rename_i H;rw[lj];constructor
   .exact λh=>⟨λAi=>H Ai.symm,h⟩
   .exact λh=>h.2
def Vh{ρ:List Nat}(AF:ρ.Nodup){i k:Nat}(h:ρ[i]?=some k):lZ ρ k 0=some i:=by
 cases AD:lZ ρ k 0 with
 |none=>exact absurd (aaz h) (lj.1 AD)
 |some j=>
  obtain⟨_,V⟩:=AW AD;simp only[Nat.sub_zero]at V;obtain⟨hi,AG⟩:=aai.1 h;obtain⟨O,AL⟩:=aai.1 V;have:=(List.getElem_inj AF).1 (AG.trans AL.symm);rw[this]
def xP:List AV->Option (List D)
 |[]=>some []
 | .d x::r=>match x.flat,xP r with
  |true,some AT=>some (x::AT)
  |_,_=>none
 |_::_=>none
def Kg:∀{l:List AV}{Z:List D},xP l=some Z->l=Z.map .d/\∀d∈Z,d.flat=true
 |[],Z,h=>by simp[xP]at h;subst h;simp
 |x::r,Z,h=>by
  unfold xP at h;split at h
  .rename_i heq;cases heq
  .rename_i y BB heq;cases heq;split at h
   .rename_i AT AD Aj;cases h;obtain⟨N,V⟩:=Kg Aj;refine⟨by rw[N];rfl,λd A0=>?_⟩;rcases aam.1 A0 with rfl|A0
    .exact AD
    .exact V d A0
   .cases h
  .cases h
def Yq:Option (List D)->AV
 |some Z=>.d (.list Z)
 |none=>.bC
mutual
def vw(m:Mem)(ρ:List Nat)(bor:Nat->Bool)(nv:Nat->Nat->Nat):AV->AV
 | .ptr k ar off=>match Mem.get m k,lZ ρ k 0 with
  |some e,some i=>if e.ar=ar then .ptr i (nv i ar) off else .bC
  |_,_=>.bC
 | .vec k ar off len=>match Mem.get m k,lZ ρ k 0 with
  |some e,some i=>if e.ar=ar then .vec i (nv i ar) off len else .bC
  |some ⟨_,v,.vec _ aq⟩,none=>if bor k=true/\v=ar/\off+len<=aq.length then .d (.list ((aq.drop off).take len))else .bC
  |some ⟨_,v,.box cs⟩,none=>if bor k=true/\v=ar/\off+len<=cs.length then Yq (xP ((cs.drop off).take len))else .bC
  |_,_=>.bC
 | .df k ar i j=>match Mem.get m k,lZ ρ k 0 with
  |some e,some n=>if e.ar=ar then .df n (nv n ar) i j else .bC
  |_,_=>.bC
 | .agg cs=>.agg (ug m ρ bor nv cs)
 | .fn f cap=>.fn f (ug m ρ bor nv cap)
 | .bh vs=>.bh (ug m ρ bor nv vs)
 | .bC=>.bC
 | .d x=>.d x
 | .eA x j=>.eA x j
 | .jb t x=>.jb t x
 | .lit v=>.lit v
 | .nn=>.nn
 | .err=>.err
def ug(m:Mem)(ρ:List Nat)(bor:Nat->Bool)(nv:Nat->Nat->Nat):List AV->List AV
 |[]=>[]
 |x::r=>vw m ρ bor nv x::ug m ρ bor nv r
end
def vP(m ρ bor nv):∀(l:List AV)(i:Nat),(ug m ρ bor nv l)[i]?=(l[i]?).map (vw m ρ bor nv)
 |[],i=>by simp[ug]
 |x::r,i=>by cases i with|zero=>simp[ug]|succ i=>simp[ug,vP m ρ bor nv r i]
def mX(m ρ bor nv):∀(l:List AV),(ug m ρ bor nv l).length=l.length
 |[]=>rfl
 |x::r=>by simp[ug,mX m ρ bor nv r]
def cj.jx(φ:cj)(ρ:List Nat)(nv:Nat->Nat->Nat):cj:=λi=>
 match ρ[i]? with
 |some k=>(φ k).map λL=>{L with ar:=nv i L.ar}
 |none=>none
def CO(φ:cj)(m:Mem)(ρ:List Nat)(b:Nat):Prop:=∃k∈ρ,∃e L,Mem.get m k=some e/\φ k=some L/\e.cont.dw L b
def CO.own{φ m ρ b}(h:CO φ m ρ b):jN φ m b:=by
 obtain⟨k,_,e,L,I,E,A3⟩:=h;obtain⟨hm,rfl⟩:=Mem.get_mem I;exact⟨e,hm,L,E,A3⟩
def Hq{φ G m w}(h:bF φ G m w){ρ:List Nat}{k:Nat}{e:cL}{L:Loc}{b:Nat}(I:Mem.get m k=some e)(E:φ k=some L)(A3:e.cont.dw L b)(H:k∉ρ):¬CO φ m ρ b:=by
 rintro ⟨Ak,AH,e',L',Al,M,An⟩;obtain⟨hm,rfl⟩:=Mem.get_mem I;obtain⟨Ao,rfl⟩:=Mem.get_mem Al;have:=h.apart e' Ao e hm L' L M E ⟨b,An,A3⟩;exact H (this▸AH)
section
variable {φ:cj} {G:Fr} {m:Mem} {w:World} {ρ:List Nat} {bor:Nat->Bool} {nv:Nat->Nat->Nat} {AI:Nat->Prop}
theorem Jn{k i:Nat}{L:Loc}(hi:lZ ρ k 0=some i)(E:φ k=some L):φ.jx ρ nv i=some {L with ar:=nv i L.ar}:=by
 obtain⟨_,V⟩:=AW hi;simp only[Nat.sub_zero]at V;simp[cj.jx,V,E]
theorem aer(hm:bF φ G m w)(A5:∀b,AI b->Fo G φ m b)
 (AJ:∀k e L b,Mem.get m k=some e->k∉ρ->bor k=true->φ k=some L->e.cont.dw L b->¬AI b) {y v} (h:aG φ w (Fo G φ m) y v):aG (φ.jx ρ nv) w AI (vw m ρ bor nv y) v:=by
 induction h with
 |bC v=>exact .bC v
 |d x v h=>exact .d x v (h.mono (λ_ _ _=>rfl) (aak _) (λb _=>A5 b))
 |agg cs a A6 N _ ih=>
  refine .agg _ a (by rw[mX];exact A6) N (λi c v J U=>?_);rw[vP]at J;obtain⟨y,A7,rfl⟩:=aap.1 J;exact ih i y v A7 U
 |ptr k ar off v L E U h N=>
  unfold vw;split
  .rename_i e i I hi;split
   .rename_i he;obtain⟨_,_,L',M,A',_⟩:=hm.get I;rw[E]at M;cases M;have A9:L.ar=ar:=by rw[A'];exact he
    refine .ptr i _ off v _ (Jn hi E) (by simp[A9]) (λ_=>h A9.symm) N
   .exact .bC _
  .exact .bC _
 |vec k ar off len v L E U h N=>
  unfold vw;split
  .rename_i e i I hi;split
   .rename_i he;obtain⟨_,_,L',M,A',_⟩:=hm.get I;rw[E]at M;cases M;have A9:L.ar=ar:=by rw[A'];exact he
    refine .vec i _ off len v _ (Jn hi E) (by simp[A9]) (λ_=>h A9.symm) N
   .exact .bC _
  .rename_i key AE sz aq I hi;split
   .rename_i J;obtain⟨AB,rfl,hle⟩:=J;obtain⟨_,_,L',M,A',A1⟩:=hm.get I;rw[E]at M;cases M;refine .d _ _ (FY (.vec k AE off len v L E U h N) E A' A1 hle A5 (λA3=>?_));exact AJ k _ L _ I (lj.1 hi) AB E ⟨A3,rfl⟩
   .exact .bC _
  .rename_i key AE cs I hi;split
   .rename_i J;obtain⟨AB,rfl,hle⟩:=J;obtain⟨_,_,L',M,A',A1⟩:=hm.get I;rw[E]at M;cases M;obtain⟨⟨Ap,z2,z3⟩,arr,elem,AU,BC,Aq,Ar⟩:=A1;cases As:xP ((cs.drop off).take len)with
    |none=>exact .bC _
    |some Z=>
     obtain⟨AY,At⟩:=Kg As;obtain⟨ao,cap,rfl,BD,AZ⟩:=h A'.symm;have Au:Z.length=len:=by
      have:=aeH List.length AY;simp at this;omega
     refine .d _ _ ?_;by_cases AM:len=0
     .have:Z=[]:=aaB (by omega);subst this;subst AM;refine .nil _ _ (λAF=>?_);cases cap with
      |zero=>rfl
      |succ c=>have:=(AZ (by omega)).1;rw[AF]at this;cases this
     .obtain⟨rfl,_⟩:=AZ (by omega);rw[<-Au];have A_:∀(i:Nat) d,Z[i]?=some d->∃u,arr[off+i]?=some u/\aP w AI d u/\cR u=true:=by
       intro i d A0;have hi:i<Z.length:=(aai.1 A0).1;have Av:cs[off+i]?=some (.d d):=by
        have:=aeH (·[i]?) AY;simp only[aaM,abp,aaV,A0]at this;rw[aav (by omega)]at this;simpa using this
       have Aa:off+i<arr.size:=by omega
       have AN:=Ar (off+i) _ arr[off+i] Av (by simp[Aa]);cases AN with
       |d _ _ AN=>exact⟨_,by simp[Aa],AN.mono (λ_ _ _=>rfl) (aak _) (λb _=>A5 b),Aq _ (by simp)⟩
      have Aw:L.dU<w.heap.size:=AU.lt;refine .list Z _ _ cap 1 (λi=>(arr[off+i]?).getD undef) (by omega) Aw (AJ k _ L _ I (lj.1 hi) AB E rfl) (λd A0=>?_) (λi d A0=>?_) (λi j c Ax O=>?_)
      .have:=At d A0;cases d<;>simp_all [D.flat,D.size]
      .obtain⟨u,N,V,_⟩:=A_ i d A0;simp only[N,aeX];exact V
      .obtain⟨u,N,V,AG⟩:=A_ i Z[i] (by simp[Ax]);simp only[N,aeX,eP AG]at O;have Ay:j=0:=by
        have:=(aei.1 O).1;simpa using this
       subst Ay;simp at O;subst O;rw[iN AU,Ap,z2];simpa using N
   .exact .bC _
  .exact .bC _
 |df k ar i j v L E U h N=>
  unfold vw;split
  .rename_i e n I hi;split
   .rename_i he;obtain⟨_,_,L',M,A',_⟩:=hm.get I;rw[E]at M;cases M;have A9:L.ar=ar:=by rw[A'];exact he
    refine .df n _ i j v _ (Jn hi E) (by simp[A9]) (λ_=>h A9.symm) N
   .exact .bC _
  .exact .bC _
 |eA x j b off Az AB B' AO J=>
  exact .eA x j b off Az AB (λh=>B' (A5 b h)) (AO.mono (λ_ _ _=>rfl) (aak _) (λb _=>A5 b)) J
 |fn f cap a AD A6 _ ih=>
  refine .fn f _ a AD (by rw[mX];exact A6) (λi c v J U=>?_);rw[vP]at J;obtain⟨y,A7,rfl⟩:=aap.1 J;exact ih i y v A7 U
 |uZ f cap a A6 _ ih=>
  refine .uZ f _ a (by rw[mX];exact A6) (λi c v J U=>?_);rw[vP]at J;obtain⟨y,A7,rfl⟩:=aap.1 J;exact ih i y v A7 U
 |bh vs a A6 _ ih=>
  refine .bh _ a (by rw[mX];exact A6) (λi c v J U=>?_);rw[vP]at J;obtain⟨y,A7,rfl⟩:=aap.1 J;exact ih i y v A7 U
 |jb t x v h=>exact .jb t x v (h.mono (λ_ _ _=>rfl) (aak _) (λb _=>A5 b))
 |lit v h=>exact .lit v h
 |nn a cap=>exact .nn a cap
 |err t v=>exact .err t v
end
def dX:Nat->List (Nat×aE)->Mem
 |_,[]=>[]
 |i,(v,c)::r=>⟨i,v,c⟩::dX (i+1) r
def sE:∀(l:List (Nat×aE))(i:Nat),(dX i l).map (·.key)=List.range' i l.length
 |[],i=>rfl
 |(v,c)::r,i=>by simp[dX,sE r,ah2]
def mo:∀{l:List (Nat×aE)}{i:Nat}{e:cL},e∈dX i l↔∃j v c,l[j]?=some (v,c)/\e=⟨i+j,v,c⟩
 |[],i,e=>by simp[dX]
 |(v,c)::r,i,e=>by
  simp only[dX,aam,mo (l:=r)];constructor
  .rintro (rfl|⟨j,AE,AP,h,rfl⟩)
   .exact⟨0,v,c,by simp,by simp⟩
   .exact⟨j+1,AE,AP,by simpa using h,by simp;omega⟩
  .rintro ⟨j,AE,AP,h,rfl⟩;cases j with
   |zero=>simp at h;obtain⟨rfl,rfl⟩:=h;left;simp
   |succ j=>right;exact⟨j,AE,AP,by simpa using h,by simp;omega⟩
def yT(m:Mem)(ρ:List Nat)(bor:Nat->Bool)(nv:Nat->Nat->Nat):aE->aE
 | .dead=>.dead
 | .box cs=>.box (ug m ρ bor nv cs)
 | .vec sz aq=>.vec sz aq
 | .vv aq y=>.vv aq (y.map (vw m ρ bor nv))
def yU(m:Mem)(ρ:List Nat)(bor:Nat->Bool)(nv:Nat->Nat->Nat)(i:Nat):Option cL->Nat×aE
 |some e=>(nv i e.ar,yT m ρ bor nv e.cont)
 |none=>(0,.dead)
def fh(m:Mem)(ρ:List Nat)(bor:Nat->Bool)(nv:Nat->Nat->Nat):Nat->List Nat->List (Nat×aE)
 |_,[]=>[]
 |i,k::r=>yU m ρ bor nv i (Mem.get m k)::fh m ρ bor nv (i+1) r
def AX(m ρ bor nv):∀(l:List Nat)(i j:Nat),(fh m ρ bor nv i l)[j]?=(l[j]?).map λk=>yU m ρ bor nv (i+j) (Mem.get m k)
 |[],i,j=>by simp[fh]
 |k::r,i,j=>by
  cases j with
  |zero=>simp[fh]
  |succ j=>simp[fh,AX m ρ bor nv r (i+1) j,aaX,Nat.add_comm 1 j]
def tF(m ρ bor nv):∀(l:List Nat)(i:Nat),(fh m ρ bor nv i l).length=l.length
 |[],i=>rfl
 |k::r,i=>by simp[fh,tF m ρ bor nv r]
def xQ{m ρ bor nv L c b}:(yT m ρ bor nv c).dw L b↔c.dw L b:=by cases c<;>exact amK
def lJ{L:Loc}{c:aE}{v b:Nat}:c.dw {L with ar:=v} b↔c.dw L b:=by cases c<;>exact amK
section
variable {φ:cj} {G G1:Fr} {m:Mem} {w:World} {ρ:List Nat} {bor:Nat->Bool} {nv:Nat->Nat->Nat}
theorem zN(AK:∀k∈ρ,(Mem.get m k).isSome=true)(b:Nat):jN (φ.jx ρ nv) (dX 0 (fh m ρ bor nv 0 ρ)) b↔CO φ m ρ b:=by
 constructor
 .rintro ⟨e,he,L,E,A3⟩;obtain⟨j,v,c,O,rfl⟩:=mo.1 he;rw[AX]at O;obtain⟨k,H,AC⟩:=aap.1 O;simp only[aeF,cj.jx,H,aap]at E;obtain⟨A4,AA,rfl⟩:=E;have Ab:=aaz H;have:=AK k Ab;obtain⟨A2,A8⟩:=ai3.1 this;rw[A8]at AC;simp only[yU,abn]at AC;obtain⟨rfl,rfl⟩:=AC;exact⟨k,Ab,A2,A4,A8,AA,lJ.1 (xQ.1 A3)⟩
 .rintro ⟨k,H,e,L,I,E,A3⟩;obtain⟨j,O,rfl⟩:=amQ.1 H;refine⟨⟨0+j,nv j e.ar,yT m ρ bor nv e.cont⟩,mo.2 ⟨j,_,_,?_,rfl⟩,{L with ar:=nv j L.ar},?_,xQ.2 (lJ.2 A3)⟩
  .rw[AX];simp[O,I,yU]
  .simp[cj.jx,O,E]
theorem Ee(hm:bF φ G m w)(AF:ρ.Nodup)(AK:∀k∈ρ,(Mem.get m k).isSome=true)(Ac:∀b,G1 b->Fo G φ m b)(B0:∀b,CO φ m ρ b->¬G1 b)
 (AJ:∀k e L b,Mem.get m k=some e->k∉ρ->bor k=true->φ k=some L->e.cont.dw L b->¬G1 b):
 bF (φ.jx ρ nv) G1 (dX 0 (fh m ρ bor nv 0 ρ)) w/\(∀y v,aG φ w (Fo G φ m) y v->aG (φ.jx ρ nv) w (Fo G1 (φ.jx ρ nv) (dX 0 (fh m ρ bor nv 0 ρ))) (vw m ρ bor nv y) v)/\
  (∀b,Fo G1 (φ.jx ρ nv) (dX 0 (fh m ρ bor nv 0 ρ)) b->Fo G φ m b):=by
 have AQ:=zN (φ:=φ) (nv:=nv) (bor:=bor) AK;have A5:∀b,Fo G1 (φ.jx ρ nv) (dX 0 (fh m ρ bor nv 0 ρ)) b->Fo G φ m b:=by
  rintro b (h|h)
  .exact Ac b h
  .exact .inr ((AQ b).1 h).own
 have AB:∀k e L b,Mem.get m k=some e->k∉ρ->bor k=true->φ k=some L->e.cont.dw L b->¬Fo G1 (φ.jx ρ nv) (dX 0 (fh m ρ bor nv 0 ρ)) b:=by
  rintro k e L b I H B2 E A3 (h|h)
  .exact AJ k e L b I H B2 E A3 h
  .exact Hq hm I E A3 H ((AQ _).1 h)
 have AR:∀y v,aG φ w (Fo G φ m) y v->aG (φ.jx ρ nv) w (Fo G1 (φ.jx ρ nv) (dX 0 (fh m ρ bor nv 0 ρ))) (vw m ρ bor nv y) v:=λy v h=>aer hm A5 AB h;have A0:∀x v,aP w (Fo G φ m) x v->aP w (Fo G1 (φ.jx ρ nv) (dX 0 (fh m ρ bor nv 0 ρ))) x v:=λx v h=>h.mono (λ_ _ _=>rfl) (aak _) (λb _=>A5 b);have part:∀{e:cL},e∈dX 0 (fh m ρ bor nv 0 ρ)->∃j k A2 A4,ρ[j]?=some k/\Mem.get m k=some A2/\φ k=some A4/\A4.ar=A2.ar/\eQ φ w (Fo G φ m) A4 A2.cont/\e=⟨j,nv j A2.ar,yT m ρ bor nv A2.cont⟩:=by
  intro e he;obtain⟨j,v,c,O,rfl⟩:=mo.1 he;rw[AX]at O;obtain⟨k,H,AC⟩:=aap.1 O;obtain⟨A2,A8⟩:=ai3.1 (AK k (aaz H));rw[A8]at AC;simp only[yU,abn,aeF]at AC;obtain⟨rfl,rfl⟩:=AC;obtain⟨_,_,A4,AA,A',A1⟩:=hm.get A8;exact⟨j,k,A2,A4,H,A8,AA,A',A1,by simp⟩
 refine⟨⟨?_,?_,?_,?_,?_,?_⟩,AR,A5⟩
 .rw[sE];exact List.nodup_range'
 .intro i L E;rw[sE,tF];simp only[cj.jx]at E;split at E
  .rename_i k H;have:=(aai.1 H).1;simp[List.mem_range'];omega
  .cases E
 .intro e he;obtain⟨j,k,A2,A4,H,A8,AA,A',A1,rfl⟩:=part he;refine⟨{A4 with ar:=nv j A4.ar},by simp[cj.jx,H,AA],by simp[A'],?_⟩;cases J:A2.cont with
  |dead=>trivial
  |box cs=>
   rw[J]at A1;obtain⟨g0,arr,elem,g1,g2,g3,g4⟩:=A1;refine⟨by simpa [mX]using g0,arr,elem,g1,by simp[mX,g2],g3,λi c v Ad U=>?_⟩;rw[vP]at Ad;obtain⟨y,A7,rfl⟩:=aap.1 Ad;exact AR y v (g4 i y v A7 U)
  |vec sz aq=>
   rw[J]at A1;obtain⟨g1,g2,g3,g4⟩:=A1;refine⟨g1,g2,g3,λAM=>?_⟩;obtain⟨arr,elem,f1,f2,f3,f4⟩:=g4 AM;exact⟨arr,elem,f1,f2,f3,λi d B3=>let ⟨v,U,O⟩:=f4 i d B3;⟨v,A0 _ _ U,O⟩⟩
  |vv aq y=>
   rw[J]at A1;exact (mf.mono (vw m ρ bor nv) A1 (λ_ _ _ _ u hu=>A0 _ u hu) (λx _ v AO=>AR x v AO) (λ_ _=>rfl)).ar _
 .intro e he e' B4 L L' E M B5;obtain⟨j,k,A2,A4,H,A8,AA,A',A1,rfl⟩:=part he;obtain⟨BE,Ak,B6,B7,AH,B8,Ae,BF,BG,rfl⟩:=part B4;simp only[cj.jx,H,AA,AH,Ae,afS,aaT]at E M;subst E;subst M;obtain⟨B9,Af⟩:=Mem.get_mem A8;obtain⟨BA,Ag⟩:=Mem.get_mem B8;have:=hm.apart A2 B9 B6 BA A4 B7 (by rw[Af];exact AA) (by rw[Ag];exact Ae) (B5.imp λb h=>⟨lJ.1 (xQ.1 h.1),lJ.1 (xQ.1 h.2)⟩);rw[Af,Ag]at this;obtain⟨hi,AG⟩:=aai.1 H;obtain⟨O,AL⟩:=aai.1 AH;exact (List.getElem_inj AF).1 (AG.trans (this.trans AL.symm))
 .exact λb AS=>B0 b ((AQ b).1 AS)
 .exact λb AS=>FU hm b (Ac b AS)
end
mutual
def ka:D->Bool
 | .list (_::_)=>false
 | .list []=>true
 | .agg cs=>nC cs
 | .int _ _=>true
 | .bool _=>true
 | .str _=>true
 | .B1=>true
def nC:List D->Bool
 |[]=>true
 |x::r=>ka x&&nC r
end
def tG:∀{l:List D},nC l=true->∀x∈l,ka x=true
 |[],_,x,N=>by simp at N
 |y::r,h,x,N=>by
  simp only[nC,Ds]at h;rcases aam.1 N with rfl|N
  .exact h.1
  .exact tG h.2 x N
def aP.plain{w w':World}{F F':Nat->Prop}{d v}(h:aP w F d v)(U:ka d=true):aP w' F' d v:=by
 induction h with
 |int k n=>exact .int k n
 |bool b=>exact .bool b
 |B1 v h=>exact .B1 v h
 |str b s h=>exact .str b s h
 |agg cs a AA Aa _ ih=>
  refine .agg cs a AA Aa (λi d v O Z=>ih i d v O Z (tG (by simpa only[ka]using U) d (aaz O)))
 |nil a cap AB=>exact .nil a cap AB
 |list xs b off cap sz vs BS A6 BT BU Z M _=>
  cases xs with
  |nil=>exact .nil _ _ (by simp)
  |cons=>simp[ka]at U
mutual
def ep:AV->Bool
 | .d x=>ka x
 | .eA _ _=>false
 | .agg cs=>lK cs
 | .fn _ cap=>lK cap
 | .bh vs=>lK vs
 | .jb _ x=>ka x
 | .bC=>true
 | .ptr _ _ _=>true
 | .vec _ _ _ _=>true
 | .df _ _ _ _=>true
 | .lit _=>true
 | .nn=>true
 | .err=>true
def lK:List AV->Bool
 |[]=>true
 |x::r=>ep x&&lK r
end
def mq:∀{l:List AV},lK l=true->∀x∈l,ep x=true
 |[],_,x,N=>by simp at N
 |y::r,h,x,N=>by
  simp only[lK,Ds]at h;rcases aam.1 N with rfl|N
  .exact h.1
  .exact mq h.2 x N
def nu:aE->Bool
 | .dead=>true
 | .box cs=>lK cs
 | .vec _ aq=>nC aq
 | .vv aq y=>aq.all nC&&(match y with|none=>true|some x=>ep x)
mutual
def up(ρ bs:List Nat):AV->AV
 | .ptr k ar off=>.ptr (ρ.getD k 0) (bs.getD k 0+ar) off
 | .vec k ar off len=>.vec (ρ.getD k 0) (bs.getD k 0+ar) off len
 | .df k ar i j=>.df (ρ.getD k 0) (bs.getD k 0+ar) i j
 | .agg cs=>.agg (xS ρ bs cs)
 | .fn f cap=>.fn f (xS ρ bs cap)
 | .bh vs=>.bh (xS ρ bs vs)
 | .bC=>.bC
 | .d x=>.d x
 | .eA x j=>.eA x j
 | .jb t x=>.jb t x
 | .lit v=>.lit v
 | .nn=>.nn
 | .err=>.err
def xS(ρ bs:List Nat):List AV->List AV
 |[]=>[]
 |x::r=>up ρ bs x::xS ρ bs r
end
def vQ(ρ bs):∀(l:List AV)(i:Nat),(xS ρ bs l)[i]?=(l[i]?).map (up ρ bs)
 |[],i=>by simp[xS]
 |x::r,i=>by cases i with|zero=>simp[xS]|succ i=>simp[xS,vQ ρ bs r i]
def mY(ρ bs):∀(l:List AV),(xS ρ bs l).length=l.length
 |[]=>rfl
 |x::r=>by simp[xS,mY ρ bs r]
def Hs(ρ bs:List Nat):aE->aE
 | .dead=>.dead
 | .box cs=>.box (xS ρ bs cs)
 | .vec sz aq=>.vec sz aq
 | .vv aq y=>.vv aq (y.map (up ρ bs))
def jS(ρ bs:List Nat):Nat->List (Nat×aE)->List cL
 |_,[]=>[]
 |i,(v,c)::r=>⟨ρ.getD i 0,bs.getD i 0+v,Hs ρ bs c⟩::jS ρ bs (i+1) r
def xT{ρ bs:List Nat}:∀{l:List (Nat×aE)}{i:Nat}{e:cL},e∈jS ρ bs i l↔∃j v c,l[j]?=some (v,c)/\e=⟨ρ.getD (i+j) 0,bs.getD (i+j) 0+v,Hs ρ bs c⟩
 |[],i,e=>by simp[jS]
 |(v,c)::r,i,e=>by
  simp only[jS,aam,xT (l:=r)];constructor
  .rintro (rfl|⟨j,AL,AM,h,rfl⟩)
   .exact⟨0,v,c,by simp,by simp⟩
   .exact⟨j+1,AL,AM,by simpa using h,by rw[show i+(j+1)=i+1+j by omega]⟩
  .rintro ⟨j,AL,AM,h,rfl⟩;cases j with
   |zero=>simp at h;obtain⟨rfl,rfl⟩:=h;left;simp
   |succ j=>right;exact⟨j,AL,AM,by simpa using h,by rw[show i+(j+1)=i+1+j by omega]⟩
def Ht{ρ bs:List Nat}:∀(l:List (Nat×aE))(i:Nat),(jS ρ bs i l).map (·.key)=(List.range' i l.length).map λj=>ρ.getD j 0
 |[],i=>rfl
 |(v,c)::r,i=>by simp[jS,Ht r,ah2]
def bX(m:Mem):List cL->Mem
 |[]=>m
 |e::r=>bX (Mem.set m e) r
def lL:∀(es:List cL)(m:Mem),(bX m es).map (·.key)=m.map (·.key)
 |[],m=>rfl
 |e::r,m=>by rw[bX,lL r,Mem.iM]
def Hu:∀(es:List cL)(m:Mem),(m.map (·.key)).Nodup->(es.map (·.key)).Nodup->(∀e∈es,e.key∈m.map (·.key))->∀e,e∈bX m es↔e∈es\/(e∈m/\e.key∉es.map (·.key))
 |[],m,_,_,_,e=>by simp[bX]
 |x::r,m,hm,AB,A3,e=>by
  simp only[aaK,List.nodup_cons]at AB;rw[bX,Hu r (Mem.set m x) (by rw[Mem.iM];exact hm) AB.2 (λe he=>by rw[Mem.iM];exact A3 e (by simp[he])),Mem.mem_set hm];have N:=A3 x (by simp);constructor
  .rintro (h|⟨⟨rfl,_⟩|⟨h,V⟩,AO⟩)
   .left;simp[h]
   .left;simp
   .right;exact⟨h,by simp only[aaK,aam,amG];exact⟨V,AO⟩⟩
  .rintro (h|⟨h,AO⟩)
   .rcases aam.1 h with rfl|h
    .right;exact⟨.inl ⟨rfl,N⟩,AB.1⟩
    .left;exact h
   .simp only[aaK,aam,amG]at AO;right;exact⟨.inr ⟨h,AO.1⟩,AO.2⟩
def base(m:Mem)(d:Nat):List Nat->List Nat
 |[]=>[]
 |k::r=>(match Mem.get m k with|some e=>e.ar+d|none=>0)::base m d r
def FZ(m:Mem)(d:Nat):∀(l:List Nat)(i:Nat),(base m d l)[i]?=(l[i]?).map λk=>match Mem.get m k with|some e=>e.ar+d|none=>0
 |[],i=>by simp[base]
 |k::r,i=>by cases i with|zero=>simp[base]|succ i=>simp[base,FZ m d r i]
def tH(m:Mem)(d:Nat):∀(l:List Nat),(base m d l).length=l.length
 |[]=>rfl
 |k::r=>by simp[base,tH m d r]
def jj:Nat->Nat->Nat:=λ_ _=>0
def mZ(φ:cj)(G:Fr)(m:Mem)(ρ B:List Nat):Fr:=⟨λb=>Fo G φ m b/\¬CO φ m ρ b/\¬CO φ m B b,[]⟩
section
variable {φ:cj} {G:Fr} {m:Mem} {w:World} {ρ B:List Nat}
theorem Kh(hm:bF φ G m w)(AB:ρ.Nodup)(AU:∀k∈ρ,(Mem.get m k).isSome=true):
 bF (φ.jx ρ jj) (mZ φ G m ρ B) (dX 0 (fh m ρ (λk=>B.contains k) jj 0 ρ)) w/\
  (∀y v,aG φ w (Fo G φ m) y v->aG (φ.jx ρ jj) w (Fo (mZ φ G m ρ B) (φ.jx ρ jj) (dX 0 (fh m ρ (λk=>B.contains k) jj 0 ρ))) (vw m ρ (λk=>B.contains k) jj y) v)/\
  (∀b,Fo (mZ φ G m ρ B) (φ.jx ρ jj) (dX 0 (fh m ρ (λk=>B.contains k) jj 0 ρ)) b->Fo G φ m b):=
 Ee hm AB AU (λb h=>h.1) (λb h Ab=>Ab.2.1 h) (λk e L b B9 _ A6 E I Ab=>Ab.2.2 ⟨k,by simpa using A6,e,L,B9,E,I⟩)
theorem aG.upR{φ φ':cj}{ρ bs:List Nat}{w F F' x v}(h:aG φ w F x v)(Ac:∀i L,φ i=some L->φ' (ρ.getD i 0)=some {L with ar:=bs.getD i 0+L.ar})
 (O:(∀b,F' b->F b)\/ep x=true):aG φ' w F' (up ρ bs x) v:=by
 have An:∀{d v},aP w F d v->((∀b,F' b->F b)\/ka d=true)->aP w F' d v:=λh O=>by
  rcases O with O|O
  .exact h.mono (λ_ _ _=>rfl) (aak _) (λb _=>O b)
  .exact h.plain O
 induction h with
 |bC v=>exact .bC v
 |d x v h=>exact .d x v (An h (O.imp id (by simp[ep])))
 |agg cs a AA A4 _ ih=>
  refine .agg _ a (by rw[mY];exact AA) A4 (λi c v M Z=>?_);rw[vQ]at M;obtain⟨y,A7,rfl⟩:=aap.1 M;exact ih i y v A7 Z (O.imp id λU=>mq (by simpa only[ep]using U) y (aaz A7))
 |ptr k ar off v L E Z h A4=>exact .ptr _ _ off v _ (Ac k L E) (by simp only;omega) (λhe=>h (by simp only at he;omega)) A4
 |vec k ar off len v L E Z h A4=>exact .vec _ _ off len v _ (Ac k L E) (by simp only;omega) (λhe=>h (by simp only at he;omega)) A4
 |df k ar i j v L E Z h A4=>exact .df _ _ i j v _ (Ac k L E) (by simp only;omega) (λhe=>h (by simp only at he;omega)) A4
 |eA x j b off BA A6 BB N M=>
  rcases O with O|O
  .exact .eA x j b off BA A6 (λh=>BB (O b h)) (N.mono (λ_ _ _=>rfl) (aak _) (λb _=>O b)) M
  .simp[ep]at O
 |fn f cap a Aa AA _ ih=>
  refine .fn f _ a Aa (by rw[mY];exact AA) (λi c v M Z=>?_);rw[vQ]at M;obtain⟨y,A7,rfl⟩:=aap.1 M;exact ih i y v A7 Z (O.imp id λU=>mq (by simpa only[ep]using U) y (aaz A7))
 |uZ f cap a AA _ ih=>
  refine .uZ f _ a (by rw[mY];exact AA) (λi c v M Z=>?_);rw[vQ]at M;obtain⟨y,A7,rfl⟩:=aap.1 M;exact ih i y v A7 Z (O.imp id λU=>mq (by simpa only[ep]using U) y (aaz A7))
 |bh vs a AA _ ih=>
  refine .bh _ a (by rw[mY];exact AA) (λi c v M Z=>?_);rw[vQ]at M;obtain⟨y,A7,rfl⟩:=aap.1 M;exact ih i y v A7 Z (O.imp id λU=>mq (by simpa only[ep]using U) y (aaz A7))
 |jb t x v h=>exact .jb t x v (An h (O.imp id (by simp[ep])))
 |lit v h=>exact .lit v h
 |nn a cap=>exact .nn a cap
 |err t v=>exact .err t v
theorem sF{ρ bs L c b}:(Hs ρ bs c).dw L b↔c.dw L b:=by cases c<;>exact amK
theorem Ki(h:bF φ G m w)(AB:ρ.Nodup)(AU:∀k∈ρ,(Mem.get m k).isSome=true){fr:List Nat}(BC:fr.Nodup)(Ao:∀k∈fr,(Mem.get m k).isSome=true/\k∉ρ)
 {A1:cj} {J:List (Nat×aE)} {A8:World} (AW:bF A1 (mZ φ G m ρ B) (dX 0 J) A8)
 (A3:bj (φ.jx ρ jj) (dX 0 (fh m ρ (λk=>B.contains k) jj 0 ρ)) w A1 (dX 0 J) A8) (BD:J.length=ρ.length+fr.length)
 (BE:B=[]\/∀e∈J,nu e.2=true):
 ∃φ':cj,bF φ' G (bX m (jS (ρ++fr) (base m 0 ρ++base m 1 fr) 0 J)) A8/\bj φ m w φ' (bX m (jS (ρ++fr) (base m 0 ρ++base m 1 fr) 0 J)) A8/\
  ∀x v,(B=[]\/ep x=true)->aG A1 A8 (Fo (mZ φ G m ρ B) A1 (dX 0 J)) x v->
   aG φ' A8 (Fo G φ' (bX m (jS (ρ++fr) (base m 0 ρ++base m 1 fr) 0 J))) (up (ρ++fr) (base m 0 ρ++base m 1 fr) x) v:=by
 obtain⟨H,AI⟩:∃H,H=ρ++fr:=⟨_,rfl⟩;obtain⟨bs,Ad⟩:∃bs,bs=base m 0 ρ++base m 1 fr:=⟨_,rfl⟩;rw[<-AI,<-Ad];have Ap:H.Nodup:=by
  rw[AI,List.nodup_append];exact⟨AB,BC,λa BF b A6 BG=>(Ao b A6).2 (BG▸BF)⟩
 have BH:J.length=H.length:=by rw[AI,aal];exact BD
 have Aq:∀k∈H,(Mem.get m k).isSome=true:=λk A'=>by
  rw[AI]at A';rcases aaA.1 A' with A4|A4
  .exact AU k A4
  .exact (Ao k A4).1
 have Ar:∀k∈H,k∈m.map (·.key):=λk A'=>by
  obtain⟨e,he⟩:=ai3.1 (Aq k A');obtain⟨hm,rfl⟩:=Mem.get_mem he;exact abb hm
 obtain⟨φ',As⟩:∃φ':cj,φ'=λk=>match lZ H k 0 with|some i=>(A1 i).map (λL=>{L with ar:=bs.getD i 0+L.ar})|none=>φ k:=⟨_,rfl⟩
 have BI:∀{i},i<H.length->H[i]?=some (H.getD i 0):=λhi=>by simp[hi]
 have BJ:∀{i},i<H.length->φ' (H.getD i 0)=(A1 i).map (λL=>{L with ar:=bs.getD i 0+L.ar}):=λhi=>by
  simp only[As,Vh Ap (BI hi)]
 have AC:∀{k},k∉H->φ' k=φ k:=λA'=>by simp only[As,lj.2 A']
 have BK:∀{i L},A1 i=some L->i<H.length:=λE=>by
  have:=AW.rZ _ _ E;rw[sE]at this;simp[List.mem_range']at this;omega
 have A9:∀i L,A1 i=some L->φ' (H.getD i 0)=some {L with ar:=bs.getD i 0+L.ar}:=λi L E=>by
  rw[BJ (BK E),E];rfl
 --BL entries behind
 have AD:=Hu (jS H bs 0 J) m h.nodup;have At:(jS H bs 0 J).map (·.key)=H:=by
  rw[Ht,BH];apply List.ext_getElem?;intro i;by_cases hi:i<H.length
  .simp[hi]
  .rw[afL (by simp;omega),afL (by omega)]
 rw[At]at AD;replace AD:=AD Ap (λe he=>Ar e.key (by rw[<-At];exact abb he));have AN:∀{e},e∈jS H bs 0 J->∃j v c L,j<H.length/\J[j]?=some (v,c)/\e=⟨H.getD j 0,bs.getD j 0+v,Hs H bs c⟩/\A1 j=some L/\L.ar=v/\eQ A1 A8 (Fo (mZ φ G m ρ B) A1 (dX 0 J)) L c:=by
  intro e he;obtain⟨j,v,c,A0,rfl⟩:=xT.1 he;have AP:=(aai.1 A0).1;obtain⟨L,E,AE,M⟩:=AW.gg ⟨0+j,v,c⟩ (mo.2 ⟨j,v,c,A0,rfl⟩);simp only[aeF]at E⊢;exact⟨j,v,c,L,by omega,A0,rfl,E,AE,M⟩
 have AQ:=zN (φ:=φ) (nv:=jj) (bor:=λk=>B.contains k) AU;have Ae:∀b,jN φ' (bX m (jS H bs 0 J)) b↔jN A1 (dX 0 J) b\/∃e∈m,e.key∉H/\∃L,φ e.key=some L/\e.cont.dw L b:=by
  intro b;constructor
  .rintro ⟨e,he,L,E,I⟩;rcases (AD e).1 he with he|⟨he,V⟩
   .obtain⟨j,v,c,A2,AP,A0,rfl,A5,AE,M⟩:=AN he;left;simp only[A9 j A2 A5,aaT]at E;subst E;exact⟨⟨0+j,v,c⟩,mo.2 ⟨j,v,c,A0,rfl⟩,A2,by simpa using A5,lJ.1 (sF.1 I)⟩
   .right;exact⟨e,he,V,L,by rw[<-AC V];exact E,I⟩
  .rintro (⟨BV,AR,L,E,I⟩|⟨e,he,V,L,E,I⟩)
   .obtain⟨j,v,c,A0,rfl⟩:=mo.1 AR;simp only[aeF]at E;exact⟨⟨H.getD j 0,bs.getD j 0+v,Hs H bs c⟩,(AD _).2 (.inl (xT.2 ⟨j,v,c,A0,by simp⟩)),_,A9 j L E,sF.2 (lJ.2 I)⟩
   .exact⟨e,(AD _).2 (.inr ⟨he,V⟩),L,by rw[AC V];exact E,I⟩
 have Af:∀{k},k∉H->k∉ρ:=λA' A4=>A' (by rw[AI];exact amR _ A4)
 --BW entry beside shares no block with BL BX
 have Ag:∀e∈m,e.key∉ρ->∀L b,φ e.key=some L->e.cont.dw L b->¬CO φ m ρ b:=λe he V L b E I=>
  Hq h (Mem.get_of_mem h.nodup he) E I V
 have hle:φ.le φ':=by
  intro k L E;by_cases A':k∈H
  .obtain⟨i,hi,rfl⟩:=amQ.1 A';have Au:H.getD i 0=H[i]:=by simp[hi]
   obtain⟨e,he⟩:=ai3.1 (Aq _ A');obtain⟨_,_,BY,Av,AE,_⟩:=h.get he;rw[E]at Av;cases Av;by_cases Aw:i<ρ.length
   .have AX:ρ[i]?=some H[i]:=by simp only[AI];rw[List.getElem_append_left Aw];simp
    have Ax:bs.getD i 0=L.ar:=by
     rw[Ad,List.getD_eq_getElem?_getD,aaC (by rw[tH];exact Aw),FZ,AX];simp[he,AE]
    obtain⟨L',AF,BZ,BM⟩:=A3.le i {L with ar:=0} (by simp[cj.jx,AX,E,jj]);refine⟨{L' with ar:=bs.getD i 0+L'.ar},by rw[<-Au];exact A9 i L' AF,by simp only;omega,λAR=>?_⟩;simp only at AR;have AS:=BM (by simp only;omega);have g1:=aeH Loc.ar AS;have g2:=aeH Loc.dU AS;have g3:=aeH Loc.sz AS;have g4:=aeH Loc.cap AS;have g5:=aeH Loc.base AS;simp only at g1 g2 g3 g4 g5⊢;rw[g1,g2,g3,g4,g5,Ax,aeG]
   .have BN:i<J.length:=by omega
    obtain⟨L',AG,_,_⟩:=AW.gg ⟨0+i,J[i].1,J[i].2⟩ (mo.2 ⟨i,_,_,by simp[BN],rfl⟩);simp only[aeF]at AG;have AX:fr[i-ρ.length]?=some H[i]:=by
     simp only[AI]at hi⊢;rw[List.getElem_append_right (by omega)];simp
    have Ax:bs.getD i 0=L.ar+1:=by
     rw[Ad,List.getD_eq_getElem?_getD,aaJ (by rw[tH];omega),tH,FZ,AX];simp[he,AE]
    refine⟨{L' with ar:=bs.getD i 0+L'.ar},by rw[<-Au];exact A9 i L' AG,by simp only;omega,λAR=>?_⟩;simp only at AR;omega
  .exact⟨L,by rw[AC A'];exact E,aak _,λ_=>rfl⟩
 have Ay:∀b,b<w.heap.size->jN φ' (bX m (jS H bs 0 J)) b->jN φ m b:=by
  intro b A6 Ah;rcases (Ae b).1 Ah with AF|⟨e,he,_,L,E,I⟩
  .exact ((AQ b).1 (A3.own b A6 AF)).own
  .exact⟨e,he,L,E,I⟩
 have hold:∀b,b<w.heap.size->¬jN φ m b->A8.heap[b]?=w.heap[b]?:=λb A6 Ai=>A3.Cq b A6 (λI=>Ai ((AQ b).1 I).own);have Az:B=[]->∀b,Fo G φ' (bX m (jS H bs 0 J)) b->Fo (mZ φ G m ρ B) A1 (dX 0 J) b:=by
  rintro rfl b (AH|I)
  .refine .inl ⟨.inl AH,λI=>h.mg b I.own AH,?_⟩;rintro ⟨k,A',_⟩;simp at A'
  .rcases (Ae b).1 I with AF|⟨e,he,V,L,E,B'⟩
   .exact .inr AF
   .refine .inl ⟨.inr ⟨e,he,L,E,B'⟩,Ag e he (Af V) L b E B',?_⟩;rintro ⟨k,A',_⟩;simp at A'
 have Aj:∀x v,(B=[]\/ep x=true)->aG A1 A8 (Fo (mZ φ G m ρ B) A1 (dX 0 J)) x v->aG φ' A8 (Fo G φ' (bX m (jS H bs 0 J))) (up H bs x) v:=
  λx v N AY=>AY.upR A9 (N.imp Az id)
 have B0:∀d v,(B=[]\/ka d=true)->aP A8 (Fo (mZ φ G m ρ B) A1 (dX 0 J)) d v->aP A8 (Fo G φ' (bX m (jS H bs 0 J))) d v:=λd v N AY=>by
  rcases N with N|N
  .exact AY.mono (λ_ _ _=>rfl) (aak _) (λb _=>Az N b)
  .exact AY.plain N
 refine⟨φ',⟨?_,?_,?_,?_,?_,?_⟩,⟨hle,hold,Ay,A3.size,A3.os,A3.tape,A3.output⟩,Aj⟩
 .rw[lL];exact h.nodup
 .intro k L E;rw[lL];by_cases A':k∈H
  .exact Ar k A'
  .rw[AC A']at E;exact h.rZ k L E
 .intro e he;rcases (AD e).1 he with he|⟨he,V⟩
  .obtain⟨j,v,c,A2,AP,A0,rfl,A5,AE,M⟩:=AN he;refine⟨_,A9 j A2 A5,by simp[AE],?_⟩;have AZ:B=[]\/nu c=true:=BE.imp id λU=>U (v,c) (aaz A0);cases c with
   |dead=>trivial
   |box cs=>
    obtain⟨g0,arr,elem,g1,g2,g3,g4⟩:=M;refine⟨by simpa [mY]using g0,arr,elem,g1,by simp[mY,g2],g3,λi c v B2 Z=>?_⟩;rw[vQ]at B2;obtain⟨y,A7,rfl⟩:=aap.1 B2;exact Aj y v (AZ.imp id λU=>mq (by simpa only[nu]using U) y (aaz A7)) (g4 i y v A7 Z)
   |vec sz aq=>
    obtain⟨g1,g2,g3,g4⟩:=M;refine⟨g1,g2,g3,λBO=>?_⟩;obtain⟨arr,elem,f1,f2,f3,f4⟩:=g4 BO;exact⟨arr,elem,f1,f2,f3,λi d B3=>let ⟨v,Z,A0⟩:=f4 i d B3;⟨v,B0 d v (AZ.imp id λU=>tG (by simpa only[nu]using U) d (aaz B3)) Z,A0⟩⟩
   |vv aq y=>
    refine (mf.mono (up H bs) M (λxs BP d O u hu=>B0 d u (AZ.imp id λU=>?_) hu) (λx N v Z=>Aj x v (AZ.imp id λU=>?_) Z) (λ_ _=>rfl)).ar _
    .simp only[nu,Ds,aaR]at U;exact tG (U.1 xs BP) d O
    .simp only[nu,Ds,N]at U;exact U.2
  .obtain⟨L,E,AE,M⟩:=h.gg e he;refine⟨L,by rw[AC V];exact E,AE,M.mono hle (λb A6 Ai=>hold b A6 (λI=>Ai (.inr I))) A3.size (λb A6=>Or.imp id (Ay b A6)) (λb I=>?_)⟩;exact A3.Cq _ (M.lt I) (λA4=>Ag e he (Af V) L b E I ((AQ _).1 A4))
 .rintro e he e' AJ L L' E AG ⟨b,I,A_⟩;have B4:∀{j v c A2 AK AT},J[j]?=some (v,c)->A1 j=some A2->c.dw A2 b->AK∈m->AK.key∉H->φ AK.key=some AT->AK.cont.dw AT b->False:=by
   intro j v c A2 AK AT A0 A5 M B5 V B6 B7;have BQ:b<w.heap.size:=h.G8 ⟨AK,B5,AT,B6,B7⟩;have AF:jN A1 (dX 0 J) b:=⟨⟨0+j,v,c⟩,mo.2 ⟨j,v,c,A0,rfl⟩,A2,by simpa using A5,M⟩;exact Ag AK B5 (Af V) AT b B6 B7 ((AQ _).1 (A3.own _ BQ AF))
  rcases (AD e).1 he with he|⟨he,V⟩<;>rcases (AD e').1 AJ with AJ|⟨AJ,Ak⟩
  .obtain⟨j,v,c,A2,AP,A0,rfl,A5,_,_⟩:=AN he;obtain⟨Al,AL,AM,L2',B_,BR,rfl,B8,_,_⟩:=AN AJ;simp only[A9 j A2 A5,A9 Al L2' B8,aaT]at E AG;subst E;subst AG;have:=AW.apart ⟨0+j,v,c⟩ (mo.2 ⟨j,v,c,A0,rfl⟩) ⟨0+Al,AL,AM⟩ (mo.2 ⟨Al,AL,AM,BR,rfl⟩) A2 L2' (by simpa using A5) (by simpa using B8) ⟨b,lJ.1 (sF.1 I),lJ.1 (sF.1 A_)⟩;simp only[aeF]at this;rw[this]
  .obtain⟨j,v,c,A2,AP,A0,rfl,A5,_,_⟩:=AN he;simp only[A9 j A2 A5,aaT]at E;subst E;exact (B4 A0 A5 (lJ.1 (sF.1 I)) AJ Ak (by rw[<-AC Ak];exact AG) A_).elim
  .obtain⟨j,v,c,A2,AP,A0,rfl,A5,_,_⟩:=AN AJ;simp only[A9 j A2 A5,aaT]at AG;subst AG;exact (B4 A0 A5 (lJ.1 (sF.1 A_)) he V (by rw[<-AC V];exact E) I).elim
  .exact h.apart e he e' AJ L L' (by rw[<-AC V];exact E) (by rw[<-AC Ak];exact AG) ⟨b,I,A_⟩
 .intro b Ah AH;rcases (Ae b).1 Ah with AF|⟨e,he,_,L,E,I⟩
  .exact h.mg b ((AQ b).1 (A3.own b (h.bound b AH) AF)).own AH
  .exact h.mg _ ⟨e,he,L,E,I⟩ AH
 .exact λb AH=>afO (h.bound b AH) A3.size
end
def eS(S AE:St):Prop:=AE.n=S.n/\AE.gl=S.gl/\∀φ G a w,Rel φ G S a w->∃φ',Rel φ' G AE a w/\bj φ S.mem w φ' AE.mem w
def eS.refl(S:St):eS S S:=⟨rfl,rfl,λφ _ _ _ h=>⟨φ,h,bj.refl ..⟩⟩
def eS.trans{S AE A_:St}(h:eS S AE)(k:eS AE A_):eS S A_:=
 ⟨k.1.trans h.1,k.2.1.trans h.2.1,λφ G a w AF=>by
  obtain⟨Af,M,Ag⟩:=h.2.2 φ G a w AF;obtain⟨Ah,Ai,Aj⟩:=k.2.2 Af G a w M;exact⟨Ah,Ai,Ag.trans Aj⟩⟩
def SW(S:St)(rk:List Nat):eS S (S.prune rk):=⟨rfl,rfl,λφ _ _ _ h=>⟨φ,h.prune rk,bj.refl ..⟩⟩
def MZ{w:World}{φ φ':cj}{m m':Mem}(h:∀b,jN φ' m' b->jN φ m b)(hle:φ.le φ'):bj φ m w φ' m' w:=
 ⟨hle,λ_ _ _=>rfl,λb _ A2=>h b A2,aak _,rfl,rfl,rfl⟩
def sG(E:AV->AV):aE->aE
 | .box cs=>.box (cs.map E)
 | .dead=>.dead
 | .vec sz aq=>.vec sz aq
 | .vv aq y=>.vv aq (y.map E)
def mapM(E:AV->AV)(e':cL):Mem->Mem
 |[]=>[]
 |e::r=>(if e.key=e'.key then e' else ⟨e.key,e.ar,sG E e.cont⟩)::mapM E e' r
def pM(E:AV->AV):Env->Env
 |[]=>[]
 |(t,g,x)::r=>(t,g,E x)::pM E r
def CP(E:AV->AV):∀(env:Env)(t:Nat)(g:Bool)(y:AV),Env.lk (pM E env) t=some (g,y)->∃x,Env.lk env t=some (g,x)/\y=E x
 |[],t,g,y,h=>by simp[pM,Env.lk]at h
 |(Ak,B9,AM)::r,t,g,y,h=>by
  simp only[pM,Env.lk]at h⊢;by_cases Aa:Ak=t
  .subst Aa;simp at h⊢;obtain⟨rfl,rfl⟩:=h;simp
  .simp only[Aa,abc]at h⊢;exact CP E r t g y h
def CQ(E:AV->AV)(e':cL):∀m:Mem,(mapM E e' m).map (·.key)=m.map (·.key)
 |[]=>rfl
 |e::r=>by
  simp only[mapM,aaK,CQ E e' r];congr 1;split
  .rename_i h;exact h.symm
  .rfl
def mapM_mem{E:AV->AV}{e':cL}:∀{m:Mem}{x:cL},x∈mapM E e' m↔∃e∈m,x=if e.key=e'.key then e' else ⟨e.key,e.ar,sG E e.cont⟩
 |[],x=>by simp[mapM]
 |e::r,x=>by simp[mapM,mapM_mem (m:=r)]
def mO{E L c b}:(sG E c).dw L b↔c.dw L b:=by cases c<;>exact amK
def St.CS(S:St)(E:AV->AV)(e':cL):St:={S with env:=pM E S.env,mem:=mapM E e' S.mem}
def M0{φ:cj}{G S a w}(h:Rel φ G S a w)(E:AV->AV){e e':cL}(he:e∈S.mem){L L':Loc}(U:φ e.key=some L)(A9:e'.key=e.key)
 (O:L.ar<L'.ar) (Al:L'.ar=e'.ar) (Ab:∀b,e'.cont.dw L' b->e.cont.dw L b)
 (An:∀(φ':cj)(F':Nat->Prop),φ' e.key=some L'->(∀k,k≠e.key->φ' k=φ k)->(∀b,F' b->Fo G φ S.mem b)->(∀b,¬e'.cont.dw L' b->e.cont.dw L b->¬F' b)->∀x v,aG φ w (Fo G φ S.mem) x v->aG φ' w F' (E x) v)
 (H:∀(φ':cj)(F':Nat->Prop),(∀b,F' b->Fo G φ S.mem b)->eQ φ' w F' L' e'.cont):
 ∃φ',Rel φ' G (S.CS E e') a w/\bj φ S.mem w φ' (S.CS E e').mem w:=by
 have hm:=h.mem;obtain⟨φ',Ac⟩:∃φ':cj,φ'=λk=>if k=e.key then some L' else φ k:=⟨_,rfl⟩
 have A1:φ' e.key=some L':=by simp[Ac]
 have A3:∀k,k≠e.key->φ' k=φ k:=λk I=>by simp[Ac,I]
 have hle:φ.le φ':=by
  intro k AH A8;by_cases I:k=e.key
  .subst I;rw[U]at A8;cases A8;exact⟨L',A1,by omega,λhh=>by omega⟩
  .exact⟨AH,by rw[A3 k I];exact A8,aak _,λ_=>rfl⟩
 have AR:∀b,jN φ' (mapM E e' S.mem) b->jN φ S.mem b:=by
  rintro b ⟨x,V,AQ,A4,AA⟩;obtain⟨y,N,rfl⟩:=mapM_mem.1 V;by_cases I:y.key=e'.key
  .simp only[I,ad1]at A4 AA;rw[A9,A1]at A4;cases A4;exact⟨e,he,L,U,Ab b AA⟩
  .simp only[I,abc]at A4 AA;rw[A9]at I;rw[A3 _ I]at A4;exact⟨y,N,AQ,A4,mO.1 AA⟩
 have Z:∀b,Fo G φ' (mapM E e' S.mem) b->Fo G φ S.mem b:=λb=>Or.imp id (AR b);have AS:∀b,¬e'.cont.dw L' b->e.cont.dw L b->¬Fo G φ' (mapM E e' S.mem) b:=by
  rintro b Ao A2 (Ap|⟨x,V,AQ,A4,AA⟩)
  .exact hm.mg _ ⟨e,he,L,U,A2⟩ Ap
  .obtain⟨y,N,rfl⟩:=mapM_mem.1 V;by_cases I:y.key=e'.key
   .simp only[I,ad1]at A4 AA;rw[A9,A1]at A4;cases A4;exact Ao AA
   .simp only[I,abc]at A4 AA;rw[A9]at I;rw[A3 _ I]at A4;exact I (hm.apart y N e he AQ L A4 U ⟨b,mO.1 AA,A2⟩)
 have AT:=An φ' (Fo G φ' (mapM E e' S.mem)) A1 A3 Z AS;refine⟨φ',⟨h.size,h.defers,?_,⟨?_,?_,?_,?_,?_,?_⟩,h.mh.mono (λ_ _ _=>rfl) (aak _) (λb _=>Z b)⟩,MZ AR hle⟩
 .intro t x V;obtain⟨y,N,rfl⟩:=CP E S.env t true x V;exact AT _ _ (h.env t y N)
 .show ((mapM E e' S.mem).map (·.key)).Nodup;rw[CQ];exact hm.nodup
 .intro k AH A8;show k∈(mapM E e' S.mem).map (·.key);rw[CQ];by_cases I:k=e.key
  .subst I;exact abb he
  .rw[A3 k I]at A8;exact hm.rZ k AH A8
 .intro x V;obtain⟨y,N,rfl⟩:=mapM_mem.1 V;by_cases I:y.key=e'.key
  .simp only[I,ad1];exact⟨L',by rw[A9];exact A1,Al,H _ _ Z⟩
  .simp only[I,abc];obtain⟨Aq,Ar,As,AI⟩:=hm.gg y N;refine⟨Aq,by rw[A3 _ (by rw[<-A9];exact I)];exact Ar,As,?_⟩;cases AU:y.cont with
   |dead=>trivial
   |box cs=>
    rw[AU]at AI;obtain⟨g0,arr,elem,g1,g2,g3,g4⟩:=AI;refine⟨by simpa using g0,arr,elem,g1,by simp[g2],g3,λi c v Ad O=>?_⟩;rw[aaV]at Ad;obtain⟨z,AN,rfl⟩:=aap.1 Ad;exact AT z v (g4 i z v AN O)
   |vec sz aq=>
    rw[AU]at AI;obtain⟨g1,g2,g3,g4⟩:=AI;refine⟨g1,g2,g3,λA8=>?_⟩;obtain⟨arr,elem,f1,f2,f3,f4⟩:=g4 A8;exact⟨arr,elem,f1,f2,f3,λi d At=>let ⟨v,O,AW⟩:=f4 i d At;⟨v,O.mono (λ_ _ _=>rfl) (aak _) (λb _=>Z b),AW⟩⟩
   |vv aq y=>
    rw[AU]at AI;exact mf.mono E AI (λ_ _ _ _ u hu=>hu.mono (λ_ _ _=>rfl) (aak _) (λb _=>Z b)) (λx _ v V=>AT x v V) (λ_ _=>rfl)
 .rintro x V AM Au AQ BA A4 Av ⟨b,A2,Aw⟩;obtain⟨y,N,rfl⟩:=mapM_mem.1 V;obtain⟨BB,Ax,rfl⟩:=mapM_mem.1 Au;have pull:∀{z:cL}{AJ:Loc},z∈S.mem->φ' (if z.key=e'.key then e' else ⟨z.key,z.ar,sG E z.cont⟩:cL).key=some AJ->(if z.key=e'.key then e' else ⟨z.key,z.ar,sG E z.cont⟩:cL).cont.dw AJ b->
   ∃z0∈S.mem,∃AH,φ z0.key=some AH/\z0.cont.dw AH b/\(if z.key=e'.key then e' else ⟨z.key,z.ar,sG E z.cont⟩:cL).key=z0.key:=by
   intro z AJ AN AB AK;by_cases I:z.key=e'.key
   .simp only[I,ad1]at AB AK⊢;rw[A9,A1]at AB;cases AB;exact⟨e,he,L,U,Ab b AK,A9⟩
   .simp only[I,abc]at AB AK⊢;rw[A9]at I;rw[A3 _ I]at AB;exact⟨z,AN,AJ,AB,mO.1 AK,rfl⟩
  obtain⟨z,AN,AJ,AB,AK,Ay⟩:=pull N A4 A2;obtain⟨Az,B',B0,B2,B3,B4⟩:=pull Ax Av Aw;rw[Ay,B4];exact hm.apart z AN Az B' AJ B0 AB B2 ⟨b,AK,B3⟩
 .exact λb AO=>hm.mg b (AR b AO)
 .exact hm.bound
mutual
def m4(k v off len:Nat):AV->AV
 | .vec AC AD o l=>if AC=k/\AD=v/\off<=o/\o+l<=off+len then .vec k (v+1) (o-off) l else .vec AC AD o l
 | .df AC AD i j=>if AC=k/\AD=v/\off<=i then .df k (v+1) (i-off) j else .df AC AD i j
 | .agg cs=>.agg (oS k v off len cs)
 | .fn f cap=>.fn f (oS k v off len cap)
 | .bh vs=>.bh (oS k v off len vs)
 | .bC=>.bC
 | .d x=>.d x
 | .ptr a b c=>.ptr a b c
 | .eA x j=>.eA x j
 | .jb t x=>.jb t x
 | .lit v=>.lit v
 | .nn=>.nn
 | .err=>.err
def oS(k v off len:Nat):List AV->List AV
 |[]=>[]
 |x::r=>m4 k v off len x::oS k v off len r
end
def uh(k v off len):∀(l:List AV)(i:Nat),(oS k v off len l)[i]?=(l[i]?).map (m4 k v off len)
 |[],i=>by simp[oS]
 |x::r,i=>by cases i with|zero=>simp[oS]|succ i=>simp[oS,uh k v off len r i]
def om(k v off len):∀(l:List AV),(oS k v off len l).length=l.length
 |[]=>rfl
 |x::r=>by simp[oS,om k v off len r]
def St.trim(S:St)(k off len:Nat):St:=
 match Mem.get S.mem k with
 |some ⟨_,v,.vec sz aq⟩=>if off+len<=aq.length then S.CS (m4 k v off len) ⟨k,v+1,.vec sz ((aq.drop off).take len)⟩else S
 |_=>S
def Kj(S:St)(k off len:Nat):eS S (S.trim k off len):=by
 unfold St.trim;split
 .rename_i key v sz aq AX;split
  .rename_i hle;refine⟨rfl,rfl,λφ G a w AF=>?_⟩;obtain⟨hm,I,L,U,AL,AP⟩:=AF.mem.get AX;simp only at I AL AP;subst I;obtain⟨g1,g2,g3,g4⟩:=AP;refine M0 AF (m4 key v off len) (e:=⟨key,v,.vec sz aq⟩) (e':=⟨key,v+1,.vec sz ((aq.drop off).take len)⟩) hm U rfl (L':=⟨v+1,L.dU,L.sz,L.cap-off,L.base+off*L.sz,[]⟩)
    (by simp only;omega) rfl (λb A2=>⟨by have:=A2.1;simp only at this;omega,A2.2⟩) ?_ ?_
   .intro φ' F' A1 A3 Z _ x u V;induction V with
    |bC v=>exact .bC v
    |d x v h=>exact .d x v (h.mono (λ_ _ _=>rfl) (aak _) (λb _=>Z b))
    |agg cs a A5 M _ ih=>
     refine .agg _ a (by rw[om];exact A5) M (λi c v H O=>?_);rw[uh]at H;obtain⟨y,N,rfl⟩:=aap.1 H;exact ih i y v N O
    |ptr A' ar o v2 A7 J A6 h M=>
     unfold m4;by_cases A0:A'=key
     .subst A0;rw[U]at J;cases J;exact .ptr _ ar o v2 _ A1 (by simp only;omega) (λhe=>by simp only at he;omega) M
     .exact .ptr A' ar o v2 A7 (by rw[A3 _ A0];exact J) A6 h M
    |vec A' ar o l v2 A7 J A6 h M=>
     unfold m4;split
     .rename_i H;obtain⟨rfl,rfl,A2,Ae⟩:=H;rw[U]at J;cases J;refine .vec _ _ _ l v2 _ A1 (aak _) (λ_=>?_) M;obtain⟨a0,cap,rfl,B5,B6⟩:=h AL.symm;refine⟨a0,cap,rfl,B5,λB7=>?_⟩;obtain⟨rfl,BC⟩:=B6 B7;refine⟨?_,by simp only;omega⟩;congr 2;show L.base+o*L.sz=L.base+off*L.sz+(o-off)*L.sz;rw[aaX,<-aeh];congr 2;omega
     .by_cases A0:A'=key
      .subst A0;rw[U]at J;cases J;exact .vec _ ar o l v2 _ A1 (by simp only;omega) (λhe=>by simp only at he;omega) M
      .exact .vec A' ar o l v2 A7 (by rw[A3 _ A0];exact J) A6 h M
    |df A' ar i j v2 A7 J A6 h M=>
     unfold m4;split
     .rename_i H;obtain⟨rfl,rfl,A2⟩:=H;rw[U]at J;cases J;refine .df _ _ _ j v2 _ A1 (aak _) (λ_=>?_) M;rw[h AL.symm];congr 3;show L.base+i*L.sz+j=L.base+off*L.sz+(i-off)*L.sz+j;rw[aaX L.base (off*L.sz),<-aeh];congr 3;omega
     .by_cases A0:A'=key
      .subst A0;rw[U]at J;cases J;exact .df _ ar i j v2 _ A1 (by simp only;omega) (λhe=>by simp only at he;omega) M
      .exact .df A' ar i j v2 A7 (by rw[A3 _ A0];exact J) A6 h M
    |eA x j b o AM AO AY V H=>exact .eA x j b o AM AO (λh=>AY (Z b h)) (V.mono (λ_ _ _=>rfl) (aak _) (λb _=>Z b)) H
    |fn f cap a AZ A5 _ ih=>
     refine .fn f _ a AZ (by rw[om];exact A5) (λi c v H O=>?_);rw[uh]at H;obtain⟨y,N,rfl⟩:=aap.1 H;exact ih i y v N O
    |uZ f cap a A5 _ ih=>
     refine .uZ f _ a (by rw[om];exact A5) (λi c v H O=>?_);rw[uh]at H;obtain⟨y,N,rfl⟩:=aap.1 H;exact ih i y v N O
    |bh vs a A5 _ ih=>
     refine .bh _ a (by rw[om];exact A5) (λi c v H O=>?_);rw[uh]at H;obtain⟨y,N,rfl⟩:=aap.1 H;exact ih i y v N O
    |jb t x v h=>exact .jb t x v (h.mono (λ_ _ _=>rfl) (aak _) (λb _=>Z b))
    |lit v h=>exact .lit v h
    |nn a cap=>exact .nn a cap
    |err t v=>exact .err t v
   .intro φ' F' Z;refine⟨g1,by simp only[ae0,aeQ];omega,λd AG=>g3 d (abe (abf AG)),λA8=>?_⟩;simp only at A8;obtain⟨arr,elem,f1,f2,f3,f4⟩:=g4 (by omega);refine⟨arr,elem,f1,?_,f3,λi d AG=>?_⟩
    .rw[f2];show L.base+L.cap*L.sz=L.base+off*L.sz+(L.cap-off)*L.sz;rw[aaX,<-aeh];congr 2;omega
    .rw[aaM]at AG;split at AG
     .rw[abp]at AG;obtain⟨v,O,AW⟩:=f4 _ d AG;refine⟨v,O.mono (λ_ _ _=>rfl) (aak _) (λb _=>Z b),λj c B8=>?_⟩;have:=AW j c B8;rw[aeh]at this;rw[<-aaX L.base]at this;exact this
     .cases AG
  .exact eS.refl S
 .exact eS.refl S
mutual
def mu(k v:Nat)(aq:List D):AV->AV
 | .vec AC AD o l=>if AC=k/\AD=v/\o+l<=aq.length then .d (.list ((aq.drop o).take l))else .vec AC AD o l
 | .agg cs=>.agg (qb k v aq cs)
 | .fn f cap=>.fn f (qb k v aq cap)
 | .bh vs=>.bh (qb k v aq vs)
 | .df a b c d=>.df a b c d
 | .bC=>.bC
 | .d x=>.d x
 | .ptr a b c=>.ptr a b c
 | .eA x j=>.eA x j
 | .jb t x=>.jb t x
 | .lit v=>.lit v
 | .nn=>.nn
 | .err=>.err
def qb(k v:Nat)(aq:List D):List AV->List AV
 |[]=>[]
 |x::r=>mu k v aq x::qb k v aq r
end
def ui(k v aq):∀(l:List AV)(i:Nat),(qb k v aq l)[i]?=(l[i]?).map (mu k v aq)
 |[],i=>by simp[qb]
 |x::r,i=>by cases i with|zero=>simp[qb]|succ i=>simp[qb,ui k v aq r i]
def oo(k v aq):∀(l:List AV),(qb k v aq l).length=l.length
 |[]=>rfl
 |x::r=>by simp[qb,oo k v aq r]
def St.freeze(S:St)(k:Nat):St:=
 match Mem.get S.mem k with
 |some ⟨_,v,.vec _ aq⟩=>S.CS (mu k v aq) ⟨k,v+1,.dead⟩
 |_=>S
def Ql(S:St)(k:Nat):eS S (S.freeze k):=by
 unfold St.freeze;split
 .rename_i key v sz aq AX;refine⟨rfl,rfl,λφ G a w AF=>?_⟩;obtain⟨hm,I,L,U,AL,AP⟩:=AF.mem.get AX;simp only at I AL AP;subst I;refine M0 AF (mu key v aq) (e:=⟨key,v,.vec sz aq⟩) (e':=⟨key,v+1,.dead⟩) hm U rfl (L':={L with ar:=v+1})
   (by simp only;omega) rfl (λ_ A2=>A2.elim) ?_ (λ_ _ _=>trivial)
  intro φ' F' A1 A3 Z AS x u V;induction V with
  |bC v=>exact .bC v
  |d x v h=>exact .d x v (h.mono (λ_ _ _=>rfl) (aak _) (λb _=>Z b))
  |agg cs a A5 M _ ih=>
   refine .agg _ a (by rw[oo];exact A5) M (λi c v H O=>?_);rw[ui]at H;obtain⟨y,N,rfl⟩:=aap.1 H;exact ih i y v N O
  |ptr A' ar o v2 A7 J A6 h M=>
   unfold mu;by_cases A0:A'=key
   .subst A0;rw[U]at J;cases J;exact .ptr _ ar o v2 _ A1 (by simp only;omega) (λhe=>by simp only at he;omega) M
   .exact .ptr A' ar o v2 A7 (by rw[A3 _ A0];exact J) A6 h M
  |vec A' ar o l v2 A7 J A6 h M=>
   unfold mu;split
   .rename_i H;obtain⟨rfl,rfl,Ae⟩:=H;rw[U]at J;cases J;exact .d _ _ (FY (.vec _ _ o l v2 L U A6 h M) U AL AP Ae Z (λA2=>AS _ (λhh=>hh) ⟨A2,rfl⟩))
   .by_cases A0:A'=key
    .subst A0;rw[U]at J;cases J;exact .vec _ ar o l v2 _ A1 (by simp only;omega) (λhe=>by simp only at he;omega) M
    .exact .vec A' ar o l v2 A7 (by rw[A3 _ A0];exact J) A6 h M
  |df A' ar i j v2 A7 J A6 h M=>
   unfold mu;by_cases A0:A'=key
   .subst A0;rw[U]at J;cases J;exact .df _ ar i j v2 _ A1 (by simp only;omega) (λhe=>by simp only at he;omega) M
   .exact .df A' ar i j v2 A7 (by rw[A3 _ A0];exact J) A6 h M
  |eA x j b o AM AO AY V H=>exact .eA x j b o AM AO (λh=>AY (Z b h)) (V.mono (λ_ _ _=>rfl) (aak _) (λb _=>Z b)) H
  |fn f cap a AZ A5 _ ih=>
   refine .fn f _ a AZ (by rw[oo];exact A5) (λi c v H O=>?_);rw[ui]at H;obtain⟨y,N,rfl⟩:=aap.1 H;exact ih i y v N O
  |uZ f cap a A5 _ ih=>
   refine .uZ f _ a (by rw[oo];exact A5) (λi c v H O=>?_);rw[ui]at H;obtain⟨y,N,rfl⟩:=aap.1 H;exact ih i y v N O
  |bh vs a A5 _ ih=>
   refine .bh _ a (by rw[oo];exact A5) (λi c v H O=>?_);rw[ui]at H;obtain⟨y,N,rfl⟩:=aap.1 H;exact ih i y v N O
  |jb t x v h=>exact .jb t x v (h.mono (λ_ _ _=>rfl) (aak _) (λb _=>Z b))
  |lit v h=>exact .lit v h
  |nn a cap=>exact .nn a cap
  |err t v=>exact .err t v
 .exact eS.refl S
def CU(P:Program)(S:St):ResultVar->dO
 | .tmp t=>.val (S.au (.tmp t)).1 (S.au (.tmp t)).2
 | .cell p t=>match nQ P S.mem t (S.au (.tmp p)).2 with
  | .val c x=>.val ((S.au (.tmp p)).1&&c) x
  |_=>.no
def wG(P:Program)(S:St):List ResultVar->Option (Bool×List AV)
 |[]=>some (true,[])
 |r::rs=>match CU P S r with
  | .val c x=>match wG P S rs with
   |some (AT,xs)=>some (c&&AT,x::xs)
   |none=>none
  |_=>none
def oneOf:List AV->AV
 |[x]=>x
 |xs=>.bh xs
def CV(tmps:Array Value):ResultVar->Sem Value
 | .tmp t=>pure (tmps.getD t undef)
 | .cell a t=>do loadVar t (<-asAddr (tmps.getD a undef))
def SZ{P:Program}{S:St}{r:ResultVar}{c:Bool}{x:AV}(h:CU P S r=.val c x)(M:c=true){φ G a w}(A9:Rel φ G S a w):
 ∃v,(CV a.tmps r).run P w=.ok v w/\aG φ w (Fo G φ S.mem) x v:=by
 unfold CU at h;split at h
 .rename_i t;simp only[dO.val.injEq]at h;obtain⟨rfl,rfl⟩:=h;exact⟨_,rfl,A9.au (.tmp t) M⟩
 .rename_i p t;split at h
  .rename_i AT B4 AA;simp only[dO.val.injEq]at h;obtain⟨rfl,rfl⟩:=h;simp only[Ds]at M;have:=QM P S {dst:=none,op:=.load t (.tmp p),type:=0,pos:= "",after:=#[],guard:=none} t (.tmp p) rfl M.1;rw[AA]at this;obtain⟨v,Z,Ak⟩:=this M.2 φ G a w A9;have Al:a.eval (.tmp p)=a.tmps.getD p undef:=rfl;simp only[execOp,Instr.loadAt,Al]at Z;cases AN:a.tmps.getD p undef with
   |pointer AO=>
    rw[AN]at Z;cases AO with
    |none=>simp[Instr.sureAddr,stuck]at Z
    |some AO=>
     simp only[Instr.sureAddr,Sem.run_bind,Sem.run_pure,Result.andThen_ok]at Z;generalize An:(loadVar t AO).run P w=q at Z;cases q with
     |halt _ _=>simp at Z
     |ok v2 B5=>
      simp at Z;obtain⟨rfl,rfl⟩:=Z;refine⟨v2,?_,Ak⟩;simp only[CV,AN,asAddr,Sem.run_bind,Sem.run_pure,Result.andThen_ok,An]
   |_=>rw[AN]at Z;simp[Instr.sureAddr,stuck]at Z
  .cases h
def AY{P:Program}{S:St}{φ G a w}(A9:Rel φ G S a w):∀(rs:List ResultVar)(c:Bool)(xs:List AV),wG P S rs=some (c,xs)->c=true->
 ∃vs:List Value,(rs.mapM (CV a.tmps)).run P w=.ok vs w/\xs.length=vs.length/\
  ∀(i:Nat) x v,xs[i]?=some x->vs[i]?=some v->aG φ w (Fo G φ S.mem) x v
 |[],c,xs,h,_=>by
  simp only[wG,aaT,abn]at h;obtain⟨_,rfl⟩:=h;exact⟨[],by simp,rfl,by simp⟩
 |r::rs,c,xs,h,M=>by
  simp only[wG]at h;split at h
  .rename_i B6 x I;split at h
   .rename_i Ao Ap Aq;simp only[aaT,abn]at h;obtain⟨rfl,rfl⟩:=h;simp only[Ds]at M;obtain⟨v,AB,AE⟩:=SZ I M.1 A9;obtain⟨vs,AP,A',AF⟩:=AY (P:=P) A9 rs Ao Ap Aq M.2;refine⟨v::vs,?_,by simp[A'],λi x v h AQ=>?_⟩
    .rw[List.mapM_cons];simp only[Sem.run_bind,AB,Result.andThen_ok,AP,Sem.run_pure]
    .cases i with
     |zero=>simp at h AQ;subst h;subst AQ;exact AE
     |succ i=>exact AF i x v (by simpa using h) (by simpa using AQ)
   .cases h
  .cases h
mutual
def nX(k v:Nat):AV->Option (Nat×Nat)
 | .vec Ar As o l=>if Ar=k/\As=v then some (o,l)else none
 | .agg cs=>uj k v cs
 | .fn _ cap=>uj k v cap
 | .bh vs=>uj k v vs
 | .df _ _ _ _=>none
 | .bC=>none
 | .d _=>none
 | .ptr _ _ _=>none
 | .eA _ _=>none
 | .jb _ _=>none
 | .lit _=>none
 | .nn=>none
 | .err=>none
def uj(k v:Nat):List AV->Option (Nat×Nat)
 |[]=>none
 |x::r=>match nX k v x with
  |some p=>some p
  |none=>uj k v r
end
def zO(k v:Nat):Mem->Option (Nat×Nat)
 |[]=>none
 |⟨_,_,.box cs⟩::r=>match uj k v cs with
  |some p=>some p
  |none=>zO k v r
 |_::r=>zO k v r
def Hx(k v:Nat):Env->Option (Nat×Nat)
 |[]=>none
 |(_,_,x)::r=>match nX k v x with
  |some p=>some p
  |none=>Hx k v r
def St.AZ(S:St)(k:Nat):St:=
 match Mem.get S.mem k with
 |some ⟨_,v,.vec _ _⟩=>match zO k v S.mem with
  |some (o,l)=>S.trim k o l
  |none=>match Hx k v S.env with
   |some (o,l)=>S.trim k o l
   |none=>S
 |_=>S
def Hy(S:St)(k:Nat):eS S (S.AZ k):=by
 unfold St.AZ;split
 .split
  .exact Kj ..
  .split
   .exact Kj ..
   .exact eS.refl S
 .exact eS.refl S
def St.A0(S:St):List Nat->St
 |[]=>S
 |k::r=>(S.AZ k).A0 r
def Hz:∀(l:List Nat)(S:St),eS S (S.A0 l)
 |[],S=>eS.refl S
 |k::r,S=>(Hy S k).trans (Hz r _)
mutual
def ke:AV->List Nat
 | .ptr k _ _=>[k]
 | .vec k _ _ _=>[k]
 | .df k _ _ _=>[k]
 | .agg cs=>mw cs
 | .fn _ cap=>mw cap
 | .bh vs=>mw vs
 | .bC=>[]
 | .d _=>[]
 | .eA _ _=>[]
 | .jb _ _=>[]
 | .lit _=>[]
 | .nn=>[]
 | .err=>[]
def mw:List AV->List Nat
 |[]=>[]
 |x::r=>ke x++mw r
end
def m5:Option cL->List Nat
 |some ⟨_,_,.box cs⟩=>mw cs
 |some ⟨_,_,.vv _ (some x)⟩=>ke x
 |_=>[]
def collect(m:Mem):Nat->List Nat->List Nat->List Nat
 |0,_,J=>J
 |_+1,[],J=>J
 |n+1,k::todo,J=>match J.contains k||(Mem.get m k).isNone with
  |true=>collect m n todo J
  |false=>collect m n (todo++m5 (Mem.get m k)) (J++[k])
def rp(m:Mem):∀(n:Nat)(todo J:List Nat),J.Nodup->(∀k∈J,(Mem.get m k).isSome=true)->(collect m n todo J).Nodup/\∀k∈collect m n todo J,(Mem.get m k).isSome=true
 |0,todo,J,h,A5=>⟨h,A5⟩
 |n+1,[],J,h,A5=>⟨h,A5⟩
 |n+1,k::todo,J,h,A5=>by
  simp only[collect];split
  .exact rp m n todo J h A5
  .rename_i M;simp only[Bool.or_eq_false_iff,List.contains_eq_mem,aeA,Option.isNone_eq_false_iff]at M;refine rp m n _ _ ?_ ?_
   .rw[List.nodup_append];exact⟨h,by simp,λa AC b O AG=>by simp at O;subst O;subst AG;exact M.1 AC⟩
   .intro x I;rcases aaA.1 I with I|I
    .exact A5 x I
    .simp at I;subst I;exact M.2
def dead(k:Nat):cL:=⟨k,0,.dead⟩
def cj.add(φ:cj)(ks:List Nat):cj:=λk=>if k∈ks then some ⟨0,0,0,0,0,[]⟩else φ k
def Ef{φ:cj}{m:Mem}{ks:List Nat}(N:∀k∈ks,k∉m.map (·.key))(b:Nat):jN (φ.add ks) (m++ks.map dead) b↔jN φ m b:=by
 constructor
 .rintro ⟨e,he,L,H,U⟩;rcases aaA.1 he with he|he
  .have:e.key∉ks:=λh=>N _ h (abb he);simp only[cj.add,this,abc]at H;exact⟨e,he,L,H,U⟩
  .simp only[aaD]at he;obtain⟨k,_,rfl⟩:=he;exact U.elim
 .rintro ⟨e,he,L,H,U⟩;have:e.key∉ks:=λh=>N _ h (abb he);exact⟨e,amR _ he,L,by simp[cj.add,this,H],U⟩
def aey{φ:cj}{G}{m:Mem}{ks:List Nat}(N:∀k∈ks,k∉m.map (·.key)):Fo G (φ.add ks) (m++ks.map dead)=Fo G φ m:=by
 funext b;simp only[Fo,Ef N b]
def Na{φ:cj}{G m w}(h:bF φ G m w){ks:List Nat}(N:∀k∈ks,k∉m.map (·.key)):φ.le (φ.add ks):=by
 intro k L H;have:k∉ks:=λV=>N k V (h.rZ k L H);exact⟨L,by simp[cj.add,this,H],aak _,λ_=>rfl⟩
def bF.add{φ G m w}(h:bF φ G m w){ks:List Nat}(At:ks.Nodup)(N:∀k∈ks,k∉m.map (·.key)):bF (φ.add ks) G (m++ks.map dead) w:=by
 have hle:=Na h N;have Au:=aey (φ:=φ) (G:=G) N;refine⟨?_,?_,?_,?_,?_,h.bound⟩
 .rw[amE,List.nodup_append];have e:(ks.map dead).map (·.key)=ks:=by simp[Function.comp_def,dead]
  rw[e];exact⟨h.nodup,At,λa AC b O AG=>N b O (AG▸AC)⟩
 .intro k L H;simp only[cj.add]at H;split at H
  .rename_i V;rw[amE];refine List.mem_append_right _ ?_;rw[List.map_map];exact aaD.2 ⟨k,V,rfl⟩
  .rw[amE];exact amR _ (h.rZ k L H)
 .intro e he;rw[Au];rcases aaA.1 he with he|he
  .obtain⟨L,H,AR,M⟩:=h.gg e he;have:e.key∉ks:=λh=>N _ h (abb he);exact⟨L,by simp[cj.add,this,H],AR,M.mono hle (λ_ _ _=>rfl) (aak _) (λ_ _ h=>h) (λ_ _=>rfl)⟩
  .simp only[aaD]at he;obtain⟨k,V,rfl⟩:=he;exact⟨⟨0,0,0,0,0,[]⟩,by simp[cj.add,dead,V],rfl,trivial⟩
 .rintro e he e' A2 L L' H AU ⟨b,U,AW⟩;rcases aaA.1 he with he|he
  .rcases aaA.1 A2 with A2|A2
   .have AB:e.key∉ks:=λh=>N _ h (abb he);have AE:e'.key∉ks:=λh=>N _ h (abb A2);simp only[cj.add,AB,AE,abc]at H AU;exact h.apart e he e' A2 L L' H AU ⟨b,U,AW⟩
   .simp only[aaD]at A2;obtain⟨k,_,rfl⟩:=A2;exact AW.elim
  .simp only[aaD]at he;obtain⟨k,_,rfl⟩:=he;exact U.elim
 .intro b O Av;exact h.mg b ((Ef N b).1 O) Av
def jo:Nat->List AV->Env
 |_,[]=>[]
 |i,x::r=>(i,true,x)::jo (i+1) r
def A1:∀(i:Nat)(xs:List AV)(t:Nat)(y:Bool×AV),Env.lk (jo i xs) t=some y->∃j,t=i+j/\xs[j]?=some y.2
 |i,[],t,y,h=>by simp[jo,Env.lk]at h
 |i,x::r,t,y,h=>by
  simp only[jo,Env.lk]at h;by_cases A6:i=t
  .subst A6;simp at h;subst h;exact⟨0,rfl,rfl⟩
  .simp only[A6,abc]at h;obtain⟨j,rfl,AH⟩:=A1 (i+1) r t y h;exact⟨j+1,by omega,by simpa using AH⟩
def eB:Nat->List aE->Mem
 |_,[]=>[]
 |i,c::r=>⟨i,0,c⟩::eB (i+1) r
def Nb:∀(cs:List aE)(i:Nat),eB i cs=dX i (cs.map λc=>(0,c))
 |[],i=>rfl
 |c::r,i=>by simp[eB,dX,Nb r]
def entry(n:Nat)(gl:List (Nat×D))(args:List AV)(cs:List aE)(sites:List Nat):St:={n,gl,env:=jo 0 args,mem:=eB 0 cs++sites.map dead}
def HA(E:Nat)(i v:Nat):Nat:=if i<E then (if v=0 then 0 else 1)else 0
structure gu where
 an2:List Nat
 exp:Bool
 sites:List Nat
 yV:List Nat
 split:Bool
def sH(p:gu)(E:Nat)(m:Mem)(xs:List AV):List Nat:=
 match p.exp with
 |true=>List.range E++(collect m 64 (mw xs++List.range E) []).filter (λk=>!decide (k<E))
 |false=>List.range E
def nD:Env->List AV
 |[]=>[]
 |(_,_,x)::r=>x::nD r
def Ff:Bool->AV->AV
 |true,x=>x
 |false,x=>x.norm
def aG.Ff{b:Bool}{φ w F x v}(h:aG φ w F x v):aG φ w F (Ff b x) v:=by
 cases b
 .exact h.norm
 .exact h
def Nc(b:Bool)(K:List Nat)(E:Nat)(S:St)(one:List AV->Out):Option (Out×List (Nat×aE)):=
 if K.all (λk=>(Mem.get S.mem k).isSome)then some (one ((nD S.env).map λx=>Ff b (vw S.mem K (λ_=>true) (HA E) x)),fh S.mem K (λ_=>true) (HA E) 0 K)else none
def Eg(p:gu)(K:List Nat)(S:St):St:=S.A0 (K.filter λk=>!p.an2.contains k)
def sI(p:gu)(E:Nat)(S:St)(xs:List AV)(one:List AV->Out):Option (Out×List (Nat×aE)):=
 let K:=sH p E S.mem xs
 Nc (p.yV.contains 1000) K E (Eg p K {S with n:=xs.length,env:=jo 0 xs}) one
def finish(P:Program)(p:gu)(E:Nat)(rs:List ResultVar)(S:St):Option (Out×List (Nat×aE)):=
 match wG P S rs with
 |some (c,xs)=>if c=true then sI p E S xs (λAD=>.ret (oneOf AD))else none
 |none=>none
def A3(p:gu)(E:Nat)(t:TypeId)(x:D)(S:St):Option (Out×List (Nat×aE)):=sI p E S [] (λ_=>.panic t x)
def gZ:Env->List (Nat×Bool)
 |[]=>[]
 |(t,g,_)::r=>(t,g)::gZ r
def Fh(AX:AV->AV):∀env:Env,gZ (pM AX env)=gZ env
 |[]=>rfl
 |(t,g,x)::r=>by simp[pM,gZ,Fh AX r]
def Kk(S:St)(k o l:Nat):gZ (S.trim k o l).env=gZ S.env:=by
 unfold St.trim;split
 .split
  .exact Fh _ _
  .rfl
 .rfl
def S5(S:St)(k:Nat):gZ (S.AZ k).env=gZ S.env:=by
 unfold St.AZ;split
 .split
  .exact Kk ..
  .split
   .exact Kk ..
   .rfl
 .rfl
def HD:∀(l:List Nat)(S:St),gZ (S.A0 l).env=gZ S.env
 |[],S=>rfl
 |k::r,S=>by rw[St.A0,HD r,S5]
def HE:∀(i:Nat)(xs:List AV),gZ (jo i xs)=(List.range' i xs.length).map λj=>(j,true)
 |i,[]=>rfl
 |i,x::r=>by simp[jo,gZ,HE (i+1) r,ah2]
def Q4:∀(env:Env)(i n j:Nat),gZ env=(List.range' i n).map (λj=>(j,true))->∀x,(nD env)[j]?=some x->Env.lk env (i+j)=some (true,x)
 |[],i,n,j,_,x,I=>by simp[nD]at I
 |(t,g,y)::r,i,n,j,h,x,I=>by
  cases n with
  |zero=>simp[gZ]at h
  |succ n=>
   simp only[gZ,ah2,aaK,List.cons.injEq,abn]at h;obtain⟨⟨rfl,rfl⟩,h⟩:=h;cases j with
   |zero=>simp[nD]at I;subst I;simp[Env.lk]
   |succ j=>
    have:=Q4 r (t+1) n j h x (by simpa [nD]using I);simp only[Env.lk];rw[aaf (by omega),show t+(j+1)=t+1+j by omega];exact this
def zP:∀env:Env,(nD env).length=(gZ env).length
 |[]=>rfl
 |(_,_,_)::r=>by simp[nD,gZ,zP r]
def LH(p:gu)(E:Nat)(m:Mem)(xs:List AV):(sH p E m xs).Nodup:=by
 unfold sH;split
 .rw[List.nodup_append];refine⟨List.nodup_range,((rp m 64 _ [] List.nodup_nil (by simp)).1).filter _,λa AC b O AG=>?_⟩;simp only[abo]at AC;simp only[aez,afz,aeA]at O;omega
 .exact List.nodup_range
def Qm(p:gu)(E:Nat)(m:Mem)(xs:List AV){k:Nat}(V:k<E):(sH p E m xs)[k]?=some k:=by
 unfold sH;split
 .rw[aaC (by simpa using V)];simp[V]
 .simp[V]
def vy{p:gu}{E:Nat}{S:St}{xs:List AV}{one:List AV->Out}{out:Out}{l:List (Nat×aE)}(h:sI p E S xs one=some (out,l))
 {φ:cj} {G:Fr} {w:World} (hm:bF φ G S.mem w) (AI:fG w (Fo G φ S.mem) S.gl) {vs:List Value} (AA:xs.length=vs.length)
 (I:∀(i:Nat) x v,xs[i]?=some x->vs[i]?=some v->aG φ w (Fo G φ S.mem) x v) {φ0:cj} {A_:Mem} {w0:World} (V:bj φ0 A_ w0 φ S.mem w) (Aw:∀k L,φ0 k=some L->k<E/\L.ar=0):
 ∃φ' AD,out=one AD/\bF φ' G (dX 0 l) w/\bj φ0 A_ w0 φ' (dX 0 l) w/\AD.length=vs.length/\(∀(i:Nat) y v,AD[i]?=some y->vs[i]?=some v->aG φ' w (Fo G φ' (dX 0 l)) y v)/\
  ∀b,Fo G φ' (dX 0 l) b->Fo G φ S.mem b:=by
 unfold sI at h;obtain⟨K,AJ⟩:∃K,K=sH p E S.mem xs:=⟨_,rfl⟩;have Ax:K.Nodup:=by rw[AJ];exact LH ..
 have Ay:∀k,k<E->K[k]?=some k:=λk h=>by rw[AJ];exact Qm _ _ _ _ h
 simp only[<-AJ]at h;clear AJ;have Az:Rel φ G {S with n:=xs.length,env:=jo 0 xs} {tmps:=vs.toArray,defers:=G.dv} w:=by
  refine⟨by simp[AA],rfl,λt x A6=>?_,hm,AI⟩;obtain⟨j,rfl,AH⟩:=A1 0 xs t _ A6;have Aa:j<vs.length:=by rw[<-AA];exact (aai.1 AH).1
  have e:vs.toArray.getD (0+j) undef=vs[j]:=by simp[Aa]
  simp only[e];exact I j x _ AH (by simp[Aa])
 obtain⟨A7,AK⟩:∃A7,A7=Eg p K {S with n:=xs.length,env:=jo 0 xs}:=⟨_,rfl⟩;have A6:eS {S with n:=xs.length,env:=jo 0 xs} A7:=by rw[AK];exact Hz ..
 have Ab:gZ A7.env=(List.range' 0 xs.length).map λj=>(j,true):=by
  rw[AK,Eg,HD];exact HE 0 xs
 rw[<-AK]at h;clear AK;obtain⟨Ac,Ad,Ae⟩:=A6.2.2 φ G _ w Az;unfold Nc at h;split at h
 .rename_i B';simp only[aaT,abn]at h;obtain⟨rfl,rfl⟩:=h;have AL:=Ad.mem;have Af:∀k∈K,(Mem.get A7.mem k).isSome=true:=by simpa using B'
  obtain⟨s1,s2,B0⟩:=Ee (G1:=G) (ρ:=K) (bor:=λ_=>true) (nv:=HA E) AL Ax Af (λb h=>.inl h) (λb h=>AL.mg b h.own)
   (λk e L b AI _ _ H U=>AL.mg _ ⟨e,(Mem.get_mem AI).1,L,by rw[(Mem.get_mem AI).2];exact H,U⟩)
  have A4:=V.trans Ae;refine⟨Ac.jx K (HA E),_,rfl,s1,⟨?_,A4.Cq,?_,A4.size,A4.os,A4.tape,A4.output⟩,?_,?_,?_⟩
  .intro k L H;obtain⟨AS,AM⟩:=Aw k L H;obtain⟨Ag,AB,AE,AP⟩:=A4.le k L H;refine⟨{Ag with ar:=HA E k Ag.ar},by simp[cj.jx,Ay k AS,AB],by simp[AM],λhe=>?_⟩;simp only[HA,AS,ad1,AM]at he;split at he
   .rename_i B2;have A':=AP (by rw[AM];exact B2);have g1:=aeH Loc.ar A';have g2:=aeH Loc.dU A';have g3:=aeH Loc.sz A';have g4:=aeH Loc.cap A';have g5:=aeH Loc.base A';simp only at g1 g2 g3 g4 g5⊢;rw[g1,g2,g3,g4,g5];simp only[HA,AS,ad1,AM]
   .simp at he
  .intro b O U;exact A4.own b O ((zN (φ:=Ac) (nv:=HA E) (bor:=λ_=>true) Af b).1 U).own
  .rw[List.length_map,zP,Ab];simp[AA]
  .intro i y v Ah AR;rw[aaV]at Ah;obtain⟨x,B3,rfl⟩:=aap.1 Ah;have AF:=Q4 A7.env 0 xs.length i Ab x B3;rw[aeF]at AF;have Ai:=Ad.env i x AF;have e:vs.toArray.getD i undef=v:=by simp[AR]
   simp only[e]at Ai;exact (s2 x v Ai).Ff
  .intro b O;have A8:=B0 b O;rcases A8 with A8|A8
   .exact .inl A8
   .rcases Nat.lt_or_ge b w.heap.size with Aj|Aj
    .exact .inr (Ae.own b Aj A8)
    .exact absurd (AL.G8 A8) (by omega)
 .cases h
def cD:AV->List Nat
 | .ptr k _ _=>[k]
 | .vec k _ _ _=>[k]
 | .df k _ _ _=>[k]
 |_=>[]
def vR(S:St):List Operand->List Nat
 |[]=>[]
 |x::r=>cD (S.au x).2++vR S r
def HF(S:St):Op->List Nat
 | .move _=>[]
 | .assign _=>[]
 |op=>vR S op.operands.toList
def kj(S:St)(o:Oper):List Nat:=keyOf o::HF S o.op
def Fi{S:St}:∀{l:List Operand}{x:Operand},x∈l->∀k∈cD (S.au x).2,k∈vR S l
 |[],x,h,_,_=>by simp at h
 |y::r,x,h,k,J=>by
  simp only[vR,aaA];rcases aam.1 h with rfl|h
  .exact .inl J
  .exact .inr (Fi h k J)
section
variable {P:Program} {m m':Mem}
theorem Vk{t p}(h:∀k∈cD p,Mem.get m' k=Mem.get m k):nQ P m' t p=nQ P m t p:=by
 cases p<;>simp_all [nQ,cD]
theorem yW{sz x}(h:∀k∈cD x,Mem.get m' k=Mem.get m k):ja m' sz x=ja m sz x:=by
 cases x with
 |vec k ar off len=>simp only[ja,h k (by simp[cD])]
 |d x=>cases x<;>rfl
 |lit v=>unfold ja;split<;>simp_all
 |_=>rfl
theorem S6{t p x}(h:∀k∈cD p,Mem.get m' k=Mem.get m k):q8 P m' t p x=q8 P m t p x:=by
 cases p<;>simp_all [q8,cD]
theorem S7{s f p}(h:∀k∈cD p,Mem.get m' k=Mem.get m k):qA P m' s f p=qA P m s f p:=by
 cases p<;>simp_all [qA,cD]
theorem LJ{p}(h:∀k∈cD p,Mem.get m' k=Mem.get m k):kq m' p=kq m p:=by
 cases p<;>simp_all [kq,cD]
theorem S8{t p i}(h:∀k∈cD p,Mem.get m' k=Mem.get m k):oc P m' t p i=oc P m t p i:=by
 cases p with
 |vec k ar off len=>simp only[oc,h k (by simp[cD])]
 |ptr k ar off=>simp only[oc,h k (by simp[cD])]
 |df k ar i j=>simp only[oc,h k (by simp[cD])]
 |d x=>cases x<;>rfl
 |_=>rfl
theorem S9{t p lo hi}(h:∀k∈cD p,Mem.get m' k=Mem.get m k):mm P m' t p lo hi=mm P m t p lo hi:=by
 cases p with
 |df k ar i j=>simp only[mm,h k (by simp[cD])]
 |vec k ar off len=>simp only[mm,h k (by simp[cD])]
 |ptr k ar off=>simp only[mm,h k (by simp[cD])]
 |d x=>cases x<;>rfl
 |_=>rfl
theorem Ys{k c cs}(h:Mem.get m' k=Mem.get m k):sx m' k c cs=sx m k c cs:=by simp only[sx,h]
theorem Ta{k t}(h:Mem.get m' k=Mem.get m k):wD P m' k t=wD P m k t:=by simp only[wD,MR,sx,h]
theorem Vm{k s d x}(h:Mem.get m' k=Mem.get m k)(E:∀k∈cD x,Mem.get m' k=Mem.get m k):nV P m' k s d x=nV P m k s d x:=by
 have e:=yW (m:=m) (m':=m') (sz:=1) E;cases A4:tk P d<;>cases x with
 |d x=>cases x<;>simp only[nV,A4,e,h]
 |_=>simp only[nV,A4,e]
theorem Vn{k s d x}(h:Mem.get m' k=Mem.get m k)(E:∀k∈cD x,Mem.get m' k=Mem.get m k):vt P m' k s d x=vt P m k s d x:=by
 have e:=Vm (P:=P) (s:=s) (d:=d) h E;cases x with
 |vec Z ar off len=>simp only[vt,e,E Z (by simp[cD])]
 |_=>simp only[vt,e]
theorem Vo{k t l c}(h:Mem.get m' k=Mem.get m k):AS P m' k t l c=AS P m k t l c:=by simp only[AS,h]
theorem HG{k t n ps}(h:Mem.get m' k=Mem.get m k):lI P m' k t n ps=lI P m k t n ps:=by simp only[lI,tE,h]
theorem Yt{t x}(h:∀k∈cD x,Mem.get m' k=Mem.get m k):qa P m' t x=qa P m t x:=by
 cases x with
 |vec k ar off len=>simp only[qa,h k (by simp[cD])]
 |d x=>cases x<;>rfl
 |lit v=>unfold qa;split<;>simp_all
 |_=>rfl
theorem Yu{u sz A' A0 s x}(N:∀k∈cD s,Mem.get m' k=Mem.get m k)(E:∀k∈cD x,Mem.get m' k=Mem.get m k):AR P m' u sz A' A0 s x=AR P m u sz A' A0 s x:=by
 cases s with
 |vec k ar off len=>
  cases x with
  |vec A8 AH A9 AA=>
   match A9,AA with
   |0,1=>simp only[AR,N k (by simp[cD]),E A8 (by simp[cD])]
   |0,0=>rfl
   |0,_+2=>rfl
   |_+1,_=>rfl
  |_=>rfl
 |_=>rfl
theorem Yv{P:Program}{m:Mem}{u:TypeId}{sz A':Nat}{A0:D}{s x:AV}{c:Bool}{k v off n:Nat}{e:cL}(h:AR P m u sz A' A0 s x=.dA c (.vec k v off n) e):k∈cD s:=by
 unfold AR at h;split at h
 .split at h
  .cases h;simp[cD]
  .cases h
 .cases h
theorem Yw{k t u s x}(h:Mem.get m' k=Mem.get m k)(N:∀k∈cD s,Mem.get m' k=Mem.get m k)(E:∀k∈cD x,Mem.get m' k=Mem.get m k):uO P m' k t u s x=uO P m k t u s x:=by
 unfold uO Cy;simp only[yW E,h,Yu N E];cases s with
 |vec k ar off len=>simp only[N k (by simp[cD])]
 |lit v=>
  cases v with
  |slice ao n c=>cases ao<;>cases n<;>cases c<;>simp only
  |_=>rfl
 |_=>rfl
theorem Yx{P:Program}{m:Mem}{A5:Nat}{t u:TypeId}{s x:AV}{c:Bool}{k v off n:Nat}{e:cL}(h:uO P m A5 t u s x=.dA c (.vec k v off n) e):k=A5\/k∈cD s:=by
 unfold uO at h;split at h
 .split at h
  .split at h
   .split at h
    .split at h
     .cases h;right;simp[cD]
     .cases h
    .split at h
     .cases h;left;rfl
     .cases h
    .cases h
   .exact .inr (Yv h)
  .cases h
 .cases h
theorem Vp{P:Program}{m m':Mem}{k t u s x}(h:Mem.get m' k=Mem.get m k)(N:∀k∈cD s,Mem.get m' k=Mem.get m k)(E:∀k∈cD x,Mem.get m' k=Mem.get m k):
 xN m' (Mem.get m' k).isSome k (uO P m' k t u s x)=xN m (Mem.get m k).isSome k (uO P m k t u s x):=by
 rw[Yw h N E,h];unfold xN;generalize AB:uO P m k t u s x=r;split
 .rename_i c Z v n AI AJ sz aq;have J:Mem.get m' Z=Mem.get m Z:=by
   rcases Yx AB with rfl|J
   .exact h
   .exact N _ J
  rw[J]
 .rfl
theorem Kn{k t x}(h:Mem.get m' k=Mem.get m k):vr P m' k t x=vr P m k t x:=by
 unfold vr;simp only[h]
theorem Yy{neg t x v}(h:∀k∈cD x,Mem.get m' k=Mem.get m k):kT P m' neg t x v=kT P m neg t x v:=by
 cases x with
 |vec k ar off len=>unfold kT;simp only[h k (by simp[cD])]
 |ptr k ar off=>unfold kT;simp only[h k (by simp[cD])]
 |d x=>unfold kT;cases x with
  |list xs=>cases xs<;>rfl
  |_=>rfl
 |lit u=>unfold kT;cases u with
  |slice ao n c=>cases ao<;>cases n<;>cases c<;>rfl
  |pointer a=>cases a<;>rfl
  |_=>rfl
 |_=>rfl
theorem Vq{t s x}(N:∀k∈cD s,Mem.get m' k=Mem.get m k)(E:∀k∈cD x,Mem.get m' k=Mem.get m k):AT P m' t s x=AT P m t s x:=by
 unfold AT;simp only[yW E];cases s with
 |vec k ar off len=>simp only[N k (by simp[cD])]
 |_=>rfl
end
def Ko{P:Program}{S I:St}{o:Oper}(E:∀x∈o.op.operands.toList,I.au x=S.au x)(J:∀k∈kj S o,Mem.get I.mem k=Mem.get S.mem k):dC P I o=dC P S o:=by
 have O:Mem.get I.mem (keyOf o)=Mem.get S.mem (keyOf o):=J _ (by simp[kj]);have M:match o.op with
  | .move _=>True
  | .assign _=>True
  |op=>∀x∈op.operands.toList,∀k∈cD (S.au x).2,Mem.get I.mem k=Mem.get S.mem k:=by
  unfold kj at J;generalize o.op=op at J;cases op<;>first|trivial|exact λx H k A1=>J k (abq _ (Fi H k A1))
 have A2:∀(l:List Operand),(∀x∈l,I.au x=S.au x)->l.map (λx=>(I.au x).2)=l.map (λx=>(S.au x).2):=λl A3=>ai7 (λx H=>by rw[A3 x H]);have A6:∀(l:List (Nat×Operand)),(∀x∈l,I.au x.2=S.au x.2)->l.map (λx=>(x.1,(I.au x.2).2))=l.map (λx=>(x.1,(S.au x.2).2)):=λl A3=>ai7 (λx H=>by rw[A3 x H]);unfold dC;generalize AK:o.op=op at E M;cases op with
 |move x=>simp only[E x (by simp[Op.operands]),Kn O]
 |assign x=>simp only[E x (by simp[Op.operands]),Kn O]
 |pick c a b=>simp only[E c (by simp[Op.operands]),E a (by simp[Op.operands]),E b (by simp[Op.operands])]
 |alloc t=>simp only[Ta O]
 |box t x=>simp only[E x (by simp[Op.operands]),Ys O]
 |load t x=>simp only[E x (by simp[Op.operands]),Vk (M x (by simp[Op.operands]))]
 |store t p x=>simp only[E x (by simp[Op.operands]),E p (by simp[Op.operands]),S6 (M p (by simp[Op.operands]))]
 |fieldAddr s x f=>simp only[E x (by simp[Op.operands]),S7 (M x (by simp[Op.operands]))]
 |nilCheck x=>simp only[E x (by simp[Op.operands]),LJ (M x (by simp[Op.operands]))]
 |indexAddr t x i=>simp only[E x (by simp[Op.operands]),E i (by simp[Op.operands]),S8 (M x (by simp[Op.operands]))]
 |index t x i=>simp only[E x (by simp[Op.operands]),E i (by simp[Op.operands])]
 |slice t x lo hi AC=>
  cases AC with
  |none=>
   have AD:lo.map (λy=>(I.au y).2)=lo.map (λy=>(S.au y).2):=by cases lo with|none=>rfl|some y=>simp[E y (by simp[Op.operands])]
   have AE:hi.map (λy=>(I.au y).2)=hi.map (λy=>(S.au y).2):=by cases hi with|none=>rfl|some y=>simp[E y (by simp[Op.operands])]
   simp only[E x (by simp[Op.operands]),AD,AE,S9 (M x (by simp[Op.operands]))]
  |some _=>rfl
 |binOp op t x y AL=>
  have A7:=E x (by simp[Op.operands]);have AF:=E y (by simp[Op.operands]);have A1:=M x (by simp[Op.operands]);simp only
  unfold ue;cases y with
  |const v=>simp only[A7,Yy A1];rfl
  |_=>simp only[A7,AF]
 |unOp op t x=>simp only[E x (by simp[Op.operands])]
 |convert s d x=>simp only[E x (by simp[Op.operands]),Vn O (M x (by simp[Op.operands]))]
 |makeInterface t x=>simp only[E x (by simp[Op.operands])]
 |makeFunc f first cap=>simp only[A2 cap.toList (λx H=>E x (by simp[Op.operands];right;simpa using H)),A2 first.toList (λx H=>E x (by simp[Op.operands];left;simpa using H))]
 |makeSlice t l c=>simp only[E l (by simp[Op.operands]),E c (by simp[Op.operands]),Vo O]
 |build t ps=>simp only[A6 ps.toList (λx H=>E x.2 (by simp only[Op.operands,List.toList_toArray,aaD];exact⟨x,H,rfl⟩))]
 |buildSlice t n ps=>simp only[A6 ps.toList (λx H=>E x.2 (by simp only[Op.operands,List.toList_toArray,aaD];exact⟨x,H,rfl⟩)),HG O]
 |extract x i=>simp only[E x (by simp[Op.operands])]
 |field s x f=>simp only[E x (by simp[Op.operands])]
 |typeAssert x AM t ok=>simp only[E x (by simp[Op.operands])]
 |call c=>
  obtain⟨callee,args,AG⟩:=c;cases callee with
  |builtin b=>
   have U:∀x∈args.toList,I.au x=S.au x:=λx H=>E x (by simp[Op.operands,Call.operands];simpa using H);have V:∀x∈args.toList,∀k∈cD (S.au x).2,Mem.get I.mem k=Mem.get S.mem k:=λx H=>M x (by simp[Op.operands,Call.operands];simpa using H);simp only
   unfold mW;have em:=A2 args.toList U;generalize args.toList=AN at U V em;generalize AG.toList=AO;split
   .rename_i x t;simp only[U x (by simp),Yt (V x (by simp))]
   .rename_i s x t u;simp only[U x (by simp),U s (by simp),Vp O (V s (by simp)) (V x (by simp))]
   .rename_i s x t u;simp only[U x (by simp),U s (by simp),Vq (V s (by simp)) (V x (by simp))]
   .simp only[em]
   .simp only[em]
   .rename_i x t;simp only[U x (by simp)]
   .rfl
  |_=>rfl
 |_=>rfl
structure bn where
 ks:List Nat
 es:List cL
 g:Bool
 x:AV
def bn.app(p:bn)(o:Oper)(S:St):St:=({S with mem:=bX S.mem p.es}:St).put o.dst p.g p.x
def aau(all:List Oper)(j:Nat):List Nat:=
 match all[j]? with
 |some o=>match o.dst with|some t=>[t]|none=>[]
 |none=>[]
def looks(all:List Oper)(o:Oper):List Nat:=
 (o.op.operands.toList.filterMap λ| .tmp t=>some t|_=>none)++(match o.guard with|some (j,_)=>aau all j|none=>[])
structure ma(all:List Oper)(o:Oper)(ks:List Nat)(D S:St):Prop where
 n:D.n=S.n
 gl:D.gl=S.gl
 keys:D.mem.map (·.key)=S.mem.map (·.key)
 env:∀t∈looks all o,Env.lk D.env t=Env.lk S.env t
 mem:∀k∈ks,Mem.get D.mem k=Mem.get S.mem k
def mb(P:Program)(all:List Oper)(S:St)(o:Oper)(p:bn):Prop:=
 ∀D,ma all o p.ks D S->∀φ G a w,Rel φ G D a w->∀(next:Act->World->Prop)(R:Exit->Act->World->Prop),
  (∀φ' A9 w',Rel φ' G (p.app o D) A9 w'->bj φ D.mem w φ' (p.app o D).mem w'->next A9 w')->
  if Region.wanted o (yielded all.toArray a.tmps)then o.wp P a w next R else next (a.put o.dst undef) w
def vz(P:Program)(O:Mem->Prop)(all:List Oper)(S:St)(o:Oper)(p:bn):Prop:=
 ∀D,ma all o p.ks D S->O D.mem->∀φ G a w,Rel φ G D a w->∀(next:Act->World->Prop)(R:Exit->Act->World->Prop),
  (∀φ' A9 w',Rel φ' G (p.app o D) A9 w'->bj φ D.mem w φ' (p.app o D).mem w'->next A9 w')->
  if Region.wanted o (yielded all.toArray a.tmps)then o.wp P a w next R else next (a.put o.dst undef) w
def mb.toI{P:Program}{O:Mem->Prop}{all:List Oper}{S:St}{o:Oper}{p:bn}(h:mb P all S o p):vz P O all S o p:=λD AY _=>h D AY
inductive Cert(P:Program)(O:Mem->Prop)(all:List Oper):List Oper->St->List bn->St->Prop
 |nil (S):Cert P O all [] S [] S
 |cons (o rest S p ps S1) (I:∀e∈p.es,e.key∈p.ks) (BA:∀m,O m->O (bX m p.es)) (h:vz P O all S o p) (A7:Cert P O all rest (p.app o S) ps S1):Cert P O all (o::rest) S (p::ps) S1
def fA(o:Oper):List Nat:=(o.after.toList.filter (Region.binds .any)).map (·.on)
def jg:List Oper->List (List Nat)->List (List Nat)
 |[],N=>N
 |o::r,N=>jg r (N++[((fA o).flatMap λp=>p::N.getD p []).eraseDups])
def sK(l r:List Nat):Bool:=l.all λx=>!r.contains x
def CW(all:List Oper)(o J:Oper)(p A3:bn):Bool:=
 sK o.dst.toList (looks all J)&&sK J.dst.toList (looks all o)&&sK o.dst.toList J.dst.toList&&sK (p.es.map (·.key)) A3.ks&&sK (A3.es.map (·.key)) p.ks
def LQ(all:List Oper)(ps:List bn)(Ag:List (List Nat))(j:Nat):Bool:=
 match all[j]?,ps[j]? with
 |some o,some p=>(fA o).all (λi=>decide (i<j))&&(List.range j).all λi=>(Ag.getD j []).contains i||(match all[i]?,ps[i]? with
  |some J,some A3=>CW all J o A3 p
  |_,_=>false)
 |_,_=>false
def rq(all:List Oper)(ps:List bn):Bool:=(List.range all.length).all (LQ all ps (jg all []))
def Fj:∀(l:List Oper)(N:List (List Nat)),∃r,jg l N=N++r/\r.length=l.length
 |[],N=>⟨[],by simp[jg]⟩
 |o::l,N=>by
  obtain⟨r,M,A'⟩:=Fj l (N++[((fA o).flatMap λp=>p::N.getD p []).eraseDups]);exact⟨((fA o).flatMap λp=>p::N.getD p []).eraseDups::r,by rw[jg,M,adX,List.singleton_append],by grind⟩
def mem_eraseDups{l:List Nat}{x:Nat}:x∈l.eraseDups↔x∈l:=List.mem_eraseDups
def Kr:∀(l:List Oper)(N:List (List Nat))(j:Nat)(o:Oper),l[j]?=some o->(∀p∈fA o,p<N.length+j)->
 ∀i,i∈(jg l N).getD (N.length+j) []↔∃p∈fA o,i=p\/i∈(jg l N).getD p []
 |[],N,j,o,h,_=>by grind
 |x::l,N,j,o,h,V=>by
  simp only[jg];cases j with
  |zero=>
   obtain⟨r,M,_⟩:=Fj l (N++[((fA x).flatMap λp=>p::N.getD p []).eraseDups]);rw[M];intro i;have AD:(N++[((fA x).flatMap λp=>p::N.getD p []).eraseDups]++r).getD (N.length+0) []=((fA x).flatMap λp=>p::N.getD p []).eraseDups:=by
    grind
   rw[AD,mem_eraseDups,List.mem_flatMap];grind
  |succ j=>
   have:=Kr l (N++[((fA x).flatMap λp=>p::N.getD p []).eraseDups]) j o (by grind) (λp Ah=>by grind);grind
def ll{all:List Oper}{L:Nat->Prop}(V:∀j o,all[j]?=some o->∀p∈fA o,p<j)(BY:∀j o,all[j]?=some o->L j->∀p∈fA o,L p):
 ∀j,(∃o,all[j]?=some o)->∀i,i∈(jg all []).getD j []->i<j/\((∀o,all[j]?=some o->∀p∈fA o,L p)->L i):=by
 intro j;induction j using Nat.strongRecOn with
 |_ j ih=>
  rintro ⟨o,H⟩ i hi;have AP:=(Kr all [] j o H (λp Ah=>by grind) i);simp at AP;obtain⟨p,Ah,h⟩:=AP.1 hi;have AQ:=V j o H p Ah;rcases h with rfl|h
  .grind
  .have BB:j<all.length:=(aai.1 H).1;obtain⟨op,BC⟩:∃op,all[p]?=some op:=⟨all[p],by grind⟩;obtain⟨M,A'⟩:=ih p AQ ⟨op,BC⟩ i h;grind
def aQ(all:List Oper)(ps:List bn)(S:St)(l:List Nat):St:=
 l.foldl (λS i=>match all[i]?,ps[i]? with|some o,some p=>p.app o S|_,_=>S) S
def xX(p:bn)(o:Oper)(S:St):(p.app o S).n=S.n:=by simp[bn.app,nW]
def uk(p:bn)(o:Oper)(S:St):(p.app o S).gl=S.gl:=by cases h:o.dst<;>simp[bn.app,h,St.put]
def F4(p:bn)(o:Oper)(S:St):(p.app o S).mem.map (·.key)=S.mem.map (·.key):=by simp[bn.app,gm,lL]
def wH(p:bn)(o:Oper)(S:St)(t:Nat):Env.lk (p.app o S).env t=if o.dst=some t then some (p.g,p.x)else Env.lk S.env t:=by
 cases A0:o.dst with
 |none=>simp[bn.app,St.put,A0]
 |some d=>
  by_cases h:d=t
  .simp[bn.app,St.put,A0,Env.lk]
  .simp[bn.app,St.put,A0,Env.lk]
def B9:∀(es:List cL)(m:Mem)(k:Nat),k∉es.map (·.key)->Mem.get (bX m es) k=Mem.get m k
 |[],m,k,_=>rfl
 |e::r,m,k,h=>by
  simp only[aaK,aam,amG]at h;rw[bX,B9 r _ k h.2,Mem.qY (λhe=>h.1 he.symm)]
def qc:∀(es:List cL)(m m':Mem)(k:Nat),m.map (·.key)=m'.map (·.key)->(k∈es.map (·.key)\/Mem.get m k=Mem.get m' k)->Mem.get (bX m es) k=Mem.get (bX m' es) k
 |[],m,m',k,_,h=>by simpa [bX]using h
 |e::r,m,m',k,I,h=>by
  refine qc r _ _ k (by rw[Mem.iM,Mem.iM,I]) ?_;by_cases he:e.key=k
  .right;subst he;by_cases Au:e.key∈m.map (·.key)
   .rw[Mem.qX Au,Mem.qX (I▸Au)]
   .have BZ:∀(m:Mem),e.key∉m.map (·.key)->Mem.get (Mem.set m e) e.key=none:=by
     intro m hm;cases AM:Mem.get (Mem.set m e) e.key with
     |none=>rfl
     |some y=>
      obtain⟨M,A'⟩:=Mem.get_mem AM;have:y.key∈(Mem.set m e).map (·.key):=abb M;rw[Mem.iM,A']at this;grind
    grind
  .rw[Mem.qY he,Mem.qY he];grind
def HH(p:bn)(o:Oper)(S:St)(k:Nat)(h:k∉p.es.map (·.key)):Mem.get (p.app o S).mem k=Mem.get S.mem k:=by
 simp[bn.app,gm];exact B9 _ _ _ h
section
variable {all:List Oper} {ps:List bn} {S:St}
theorem qk(l:List Nat):∀(S:St),(aQ all ps S l).n=S.n:=by
 induction l with
 |nil=>exact λ_=>rfl
 |cons i l ih=>
  intro S;have AD:aQ all ps S (i::l)=aQ all ps (aQ all ps S [i]) l:=by simp[aQ]
  rw[AD,ih];simp[aQ];split
  .exact xX ..
  .rfl
theorem oq(l:List Nat):∀(S:St),(aQ all ps S l).gl=S.gl:=by
 induction l with
 |nil=>exact λ_=>rfl
 |cons i l ih=>
  intro S;have AD:aQ all ps S (i::l)=aQ all ps (aQ all ps S [i]) l:=by simp[aQ]
  rw[AD,ih];simp[aQ];split
  .exact uk ..
  .rfl
theorem fB(l:List Nat):∀(S:St),(aQ all ps S l).mem.map (·.key)=S.mem.map (·.key):=by
 induction l with
 |nil=>exact λ_=>rfl
 |cons i l ih=>
  intro S;have AD:aQ all ps S (i::l)=aQ all ps (aQ all ps S [i]) l:=by simp[aQ]
  rw[AD,ih];simp[aQ];split
  .exact F4 ..
  .rfl
theorem uP(l Av:List Nat)(S:St):aQ all ps S (l++Av)=aQ all ps (aQ all ps S l) Av:=by simp[aQ]
theorem xY(t:Nat)(q:Nat->Bool)(l:List Nat):∀(S D:St),(∀i∈l,∀o,all[i]?=some o->o.dst=some t->q i=true)->Env.lk S.env t=Env.lk D.env t->Env.lk (aQ all ps S l).env t=Env.lk (aQ all ps D (l.filter q)).env t:=by
 induction l with
 |nil=>intro S D _ h;exact h
 |cons i l ih=>
  intro S D AK h;have AR:∀AE∈l,∀o,all[AE]?=some o->o.dst=some t->q AE=true:=λAE Ai=>AK AE (abq _ Ai);by_cases AF:q i=true
  .rw[List.filter_cons_of_pos AF];refine ih _ _ AR ?_;simp[amI];split
   .rw[wH,wH,h]
   grind
  .rw[amF AF];refine ih _ _ AR ?_;simp[amI];split
   .rename_i o p H V;rw[wH,aaf (λA0=>AF (AK i (by simp) o H A0)),h]
   grind
theorem oT(k:Nat)(q:Nat->Bool)(l:List Nat):∀(S D:St),(∀i∈l,∀p,ps[i]?=some p->k∈p.es.map (·.key)->q i=true)->S.mem.map (·.key)=D.mem.map (·.key)->Mem.get S.mem k=Mem.get D.mem k->Mem.get (aQ all ps S l).mem k=Mem.get (aQ all ps D (l.filter q)).mem k:=by
 induction l with
 |nil=>intro S D _ _ h;exact h
 |cons i l ih=>
  intro S D AK I h;have AD:aQ all ps S (i::l)=aQ all ps (aQ all ps S [i]) l:=by simp[aQ]
  have AR:∀AE∈l,∀p,ps[AE]?=some p->k∈p.es.map (·.key)->q AE=true:=λAE Ai=>AK AE (abq _ Ai);rw[AD];by_cases AF:q i=true
  .rw[List.filter_cons_of_pos AF];have AZ:aQ all ps D (i::l.filter q)=aQ all ps (aQ all ps D [i]) (l.filter q):=by simp[aQ]
   rw[AZ];refine ih _ _ AR (by rw[fB,fB,I]) ?_;simp[aQ,amI];split
   .simp[bn.app,gm];exact qc _ _ _ k I (.inr h)
   grind
  .rw[amF AF];refine ih _ _ AR (by rw[fB,I]) ?_;simp[aQ,amI];split
   .rename_i o p H V;rw[HH _ _ _ _ (λA0=>AF (AK i (by simp) p V A0)),h]
   grind
end
structure iQ(D S:St):Prop where
 n:D.n=S.n
 gl:D.gl=S.gl
 mem:D.mem=S.mem
 env:∀t,Env.lk D.env t=Env.lk S.env t
def Rel.eqv{φ G S D a w}(h:Rel φ G D a w)(he:iQ D S):Rel φ G S a w:=
 ⟨by rw[<-he.n];exact h.size,h.defers,λt x Aj=>by rw[<-he.mem];exact h.env t x (by rw[he.env];exact Aj),by rw[<-he.mem];exact h.mem,by rw[<-he.gl,<-he.mem];exact h.mh⟩
def Mem.ext{m m':Mem}(Aw:(m.map (·.key)).Nodup)(I:m.map (·.key)=m'.map (·.key))(h:∀k,Mem.get m k=Mem.get m' k):m=m':=by
 induction m generalizing m' with
 |nil=>simp_all
 |cons e r ih=>
  cases m' with
  |nil=>grind
  |cons e' B_=>
   simp at I;simp at Aw;have Ak:=h e.key;simp[Mem.get,I.1]at Ak;congr 1;refine ih Aw.2 I.2 λk=>?_;have:=h k;simp[Mem.get]at this;by_cases he:e.key=k
   .have nn:∀{r:Mem},e.key∉r.map (·.key)->Mem.get r e.key=none:=by
     intro r A7;cases AM:Mem.get r e.key with
     |none=>rfl
     |some y=>obtain⟨M,A'⟩:=Mem.get_mem AM;grind
    grind
   grind
def jy(n:Nat)(f:Nat->Bool):List Nat:=(List.range n).filter f
def Fk{j n:Nat}(h:j<n):List.range n=List.range j++j::List.range' (j+1) (n-j-1):=by
 have A':(j::List.range' (j+1) (n-j-1))=List.range' j (n-j):=by
  rw[show n-j=(n-j-1)+1 by omega,ah2];simp
 rw[A',List.range_eq_range',List.range_eq_range'];rw[show List.range' 0 n=List.range' 0 (j+(n-j)) by grind];rw[<-List.range'_append_1];simp
def CX{j n:Nat}{f:Nat->Bool}(h:j<n)(AL:f j=false):jy n f=(List.range j).filter f++(List.range' (j+1) (n-j-1)).filter f:=by
 rw[jy,Fk h,ah7,amF (by grind)]
def Tc{j n:Nat}{f g:Nat->Bool}(h:j<n)(AM:g j=true)(Ax:∀i,i≠j->g i=f i):jy n g=(List.range j).filter f++j::(List.range' (j+1) (n-j-1)).filter f:=by
 rw[jy,Fk h,ah7,List.filter_cons_of_pos AM];congr 1
 .exact ajA λi hi=>Ax i (by grind)
 .congr 1;exact ajA λi hi=>Ax i (by grind)
def um{l r:List Nat}(h:sK l r=true){x:Nat}(Z:x∈l)(A7:x∈r):False:=by
 have:=aaR.1 h x Z;grind
structure HI(all:List Oper)(o J:Oper)(p A3:bn):Prop where
 a:∀t,o.dst=some t->t∉looks all J
 b:∀t,J.dst=some t->t∉looks all o
 c:∀t,o.dst=some t->J.dst≠some t
 d:∀k∈p.es.map (·.key),k∉A3.ks
 e:∀k∈A3.es.map (·.key),k∉p.ks
def Qn{all o J p A3}(h:CW all o J p A3=true):HI all o J p A3:=by
 simp[CW]at h;obtain⟨⟨⟨⟨M,A'⟩,AS⟩,BD⟩,BE⟩:=h;exact⟨λt AT Z=>um M (by grind) Z,λt AT Z=>um A' (by grind) Z,λt AT Z=>um AS (x:=t) (by grind) (by grind),λk I Z=>um BD I Z,λk I Z=>um BE I Z⟩
section
variable {all:List Oper} {ps:List bn}
theorem fj(h:rq all ps=true){j:Nat}{o:Oper}(H:all[j]?=some o):∃p,ps[j]?=some p/\(∀i∈fA o,i<j)/\
 ∀i,i<j->i∈(jg all []).getD j []\/∃J A3,all[i]?=some J/\ps[i]?=some A3/\HI all J o A3 p:=by
 have A2:j<all.length:=(aai.1 H).1;have M:=aaR.1 h j (abo.2 A2);unfold LQ at M;rw[H]at M;cases V:ps[j]? with
 |none=>grind
 |some p=>
  rw[V]at M;simp at M;refine⟨p,rfl,M.1,λi hi=>?_⟩;rcases M.2 i hi with A'|A'
  .grind
  .right;split at A'
   .rename_i J A3 A8 AU;exact⟨J,A3,A8,AU,Qn A'⟩
   grind
theorem Cert.at{P:Program}{O:Mem->Prop}{rest:List Oper}{S0 S:St}{Al:List bn}{S1:St}(h:Cert P O all rest S Al S1):∀(pre:List Oper)(pp:List bn),pre.length=pp.length->all=pre++rest->ps=pp++Al->aQ all ps S0 (List.range pre.length)=S->
 aQ all ps S0 (List.range all.length)=S1/\ps.length=all.length/\∀j o p,pre.length<=j->all[j]?=some o->ps[j]?=some p->(∀e∈p.es,e.key∈p.ks)/\(∀m,O m->O (bX m p.es))/\vz P O all (aQ all ps S0 (List.range j)) o p:=by
 induction h with
 |nil S=>
  grind
 |cons o rest S p Al S1 I BA A_ A7 ih=>
  intro pre pp Z AY Ba BF;have AD:all[pre.length]?=some o:=by rw[AY];simp
  have AZ:ps[pre.length]?=some p:=by grind
  obtain⟨M,A',AS⟩:=ih (pre++[o]) (pp++[p]) (by simp[Z]) (by rw[AY];simp) (by grind) (by
   rw[aal,aeT,List.range_succ,uP,BF];simp[aQ,AD,AZ])
  refine⟨M,A',λj J A3 A2 A8 AU=>?_⟩;rcases Nat.eq_or_lt_of_le A2 with rfl|A2
  .grind
  .exact AS j J A3 (by simp;omega) A8 AU
variable {S:St} {f:Nat->Bool}
def ru(all:List Oper)(f:Nat->Bool):Prop:=∀j o,all[j]?=some o->f j=true->∀p∈fA o,f p=true
theorem tI(Aa:ps.length=all.length)(AA:rq all ps=true)(AH:ru all f){j:Nat}{o:Oper}{p:bn}(H:all[j]?=some o)(V:ps[j]?=some p)(A2:f j=false)(Ay:∀i∈fA o,f i=true):
 ma all o p.ks (aQ all ps S (jy all.length f)) (aQ all ps S (List.range j)):=by
 have Ab:j<all.length:=(aai.1 H).1;have Ac:∀j o,all[j]?=some o->∀p∈fA o,p<j:=λj o H=>(fj AA H).choose_spec.2.1;obtain⟨Bb,Bc,_,Bd⟩:=fj AA H;have Be:∀i∈(jg all []).getD j [],i<j/\f i=true:=λi hi=>by
  obtain⟨M,A'⟩:=ll (L:=λi=>f i=true) Ac (λj o H AL=>AH j o H AL) j ⟨o,H⟩ i hi;grind
 let q:Nat->Bool:=λi=>(jg all []).getD j [] |>.contains i
 have Az:∀i,(i<j\/(j<i/\f i=true))->q i=false->∀U pi,all[i]?=some U->ps[i]?=some pi->HI all U o pi p\/HI all o U p pi:=by
  rintro i (hi|⟨hi,Ad⟩) AF U pi A1 AC
  .grind
  .obtain⟨BG,BH,_,An⟩:=fj AA A1;rcases An j hi with h|⟨J,A3,A8,AU,h⟩
   .have:=(ll (L:=λi=>f i=true) Ac (λj o H AL=>AH j o H AL) i ⟨U,A1⟩ j h).2 (λJ A8=>by rw[A1]at A8;cases A8;exact AH i U A1 Ad);grind
   grind
 have B':(jy all.length f).filter q=(List.range j).filter q:=by
  rw[CX Ab A2,ah7,ah4,ah4];have:(List.range' (j+1) (all.length-j-1)).filter (λa=>q a&&f a)=[]:=by
   rw[afv];grind
  grind
 have Z:∀i∈jy all.length f,i<j\/(j<i/\f i=true):=λi hi=>by
  have Ad:=(aez.1 hi).2;grind
 have A7:∀i∈List.range j,i<j\/(j<i/\f i=true):=λi hi=>.inl (abo.1 hi);refine⟨by rw[qk,qk],by rw[oq,oq],by rw[fB,fB],λt AT=>?_,λk I=>?_⟩
 .have key:∀l:List Nat,(∀i∈l,i<j\/(j<i/\f i=true))->∀i∈l,∀U,all[i]?=some U->U.dst=some t->q i=true:=by
   intro l Z i hi U A1 A0;cases AF:q i with
   |true=>rfl
   |false=>
    obtain⟨pi,AC,_⟩:=fj AA A1;rcases Az i (Z i hi) AF U pi A1 AC with h|h
    .exact absurd AT (h.a t A0)
    .exact absurd AT (h.b t A0)
  rw[xY t q _ S S (key _ Z) rfl,xY t q (List.range j) S S (key _ A7) rfl,B']
 .have key:∀l:List Nat,(∀i∈l,i<j\/(j<i/\f i=true))->∀i∈l,∀pi,ps[i]?=some pi->k∈pi.es.map (·.key)->q i=true:=by
   intro l Z i hi pi AC A0;cases AF:q i with
   |true=>rfl
   |false=>
    cases A1:all[i]? with
    |none=>
     grind
    |some U=>
     rcases Az i (Z i hi) AF U pi A1 AC with h|h
     .exact absurd I (h.d k A0)
     .exact absurd I (h.e k A0)
  rw[oT k q _ S S (key _ Z) rfl rfl,oT k q (List.range j) S S (key _ A7) rfl rfl,B']
theorem A4(Aa:ps.length=all.length)(AA:rq all ps=true)(AH:ru all f)(B0:∀(j:Nat) (p:bn),ps[j]?=some p->∀e∈p.es,e.key∈p.ks)(B2:(S.mem.map (·.key)).Nodup){j:Nat}{o:Oper}{p:bn}(H:all[j]?=some o)(V:ps[j]?=some p)(A2:f j=false){g:Nat->Bool}(AM:g j=true)(BI:∀i,i≠j->g i=f i):
 iQ (p.app o (aQ all ps S (jy all.length f))) (aQ all ps S (jy all.length g)):=by
 have Ab:j<all.length:=(aai.1 H).1;have Ac:∀j o,all[j]?=some o->∀p∈fA o,p<j:=λj o H=>(fj AA H).choose_spec.2.1;have Ao:∀i∈(List.range' (j+1) (all.length-j-1)).filter f,∀U pi,all[i]?=some U->ps[i]?=some pi->HI all o U p pi:=by
  intro i hi U pi A1 AC;obtain⟨hi,Ad⟩:=aez.1 hi;have Bf:=(List.mem_range'_1.1 hi).1;obtain⟨BG,BH,_,An⟩:=fj AA A1;rcases An j (by omega)with h|⟨J,A3,A8,AU,h⟩
  .have:=(ll (L:=λi=>f i=true) Ac (λj o H AL=>AH j o H AL) i ⟨U,A1⟩ j h).2 (λJ A8=>by rw[A1]at A8;cases A8;exact AH i U A1 Ad);grind
  grind
 rw[Tc Ab AM BI,CX Ab A2];generalize Bg:(List.range j).filter f=AG;generalize Bh:(List.range' (j+1) (all.length-j-1)).filter f=AI at Ao;have BJ:∀{i pi},ps[i]?=some pi->∃U,all[i]?=some U:=λ{i pi} h=>by
  have:=(aai.1 h).1;exact⟨all[i]'(by omega),ad4 _⟩
 let q:Nat->Bool:=λi=>i != j
 have B3:(AG++j::AI).filter q=AG++AI:=by
  rw[ah7,amF (by simp[q]),<-ah7,List.filter_eq_self];grind
 have B4:∀S,aQ all ps S (AG++j::AI)=aQ all ps (p.app o (aQ all ps S AG)) AI:=λS=>by
  simp[aQ,H,V]
 have BK:(p.app o (aQ all ps S (AG++AI))).mem.map (·.key)=(aQ all ps S (AG++j::AI)).mem.map (·.key):=by
  rw[F4,fB,fB]
 refine⟨by rw[xX,qk,qk],by rw[uk,oq,oq],Mem.ext (by rw[F4,fB];grind) BK λk=>?_,λt=>?_⟩
 .by_cases I:k∈p.es.map (·.key)
  .have M:Mem.get (p.app o (aQ all ps S (AG++AI))).mem k=Mem.get (p.app o (aQ all ps S AG)).mem k:=by
    simp[bn.app,gm];exact qc _ _ _ k (by rw[fB,fB]) (.inl I)
   rw[M,B4];rw[oT k (λ_=>false) AI _ (p.app o (aQ all ps S AG)) ?_ rfl rfl]
   .rw[afv.2 (by simp)];rfl
   .intro i hi pi AC AN;obtain⟨U,A1⟩:=BJ AC;have:=(Ao i hi U pi A1 AC).e k AN;grind
  .rw[HH _ _ _ _ I,oT k q (AG++j::AI) S S ?_ rfl rfl,B3];grind
 .rw[wH];by_cases A0:o.dst=some t
  .rw[aav A0,B4];rw[xY t (λ_=>false) AI _ (p.app o (aQ all ps S AG)) ?_ rfl]
   .rw[afv.2 (by simp)];simp[aQ,wH,A0]
   .intro i hi U A1 BL;obtain⟨pi,AC,_⟩:=fj AA A1;exact absurd BL ((Ao i hi U pi A1 AC).c t A0)
  .rw[aaf A0,xY t q (AG++j::AI) S S ?_ rfl,B3];grind
theorem Tf{P:Program}{S0 S1:St}{φ0:cj}{G:Fr}{w0:World}{Q:Exit->Act->World->Prop}{O:Mem->Prop}(Ap:O S0.mem)(AW:Cert P O all all S0 ps S1)(AA:rq all ps=true)(B2:(S0.mem.map (·.key)).Nodup)
 (Aq:∀φ' A9 w',Rel φ' G S1 A9 w'->bj φ0 S0.mem w0 φ' S1.mem w'->Q .normal A9 w'):
 ∀(fuel:Nat)(E:Array Bool) φ a w,E.size=all.length->ru all (λi=>E.getD i false)->Rel φ G (aQ all ps S0 (jy all.length λi=>E.getD i false)) a w->bj φ0 S0.mem w0 φ (aQ all ps S0 (jy all.length λi=>E.getD i false)).mem w->
  ((List.range all.length).filter λi=>!E.getD i false).length<=fuel->wpAny P .any all.toArray Q fuel E a w:=by
 obtain⟨Ar,Aa,A_⟩:=Cert.at (ps:=ps) (S0:=S0) AW [] [] rfl rfl rfl rfl;have B0:∀(j:Nat)(p:bn),ps[j]?=some p->∀e∈p.es,e.key∈p.ks:=λj p V=>by
  have BB:j<ps.length:=(aai.1 V).1;exact (A_ j (all[j]'(by omega)) p (by simp) (by simp) V).1
 have BM:∀l:List Nat,O (aQ all ps S0 l).mem:=by
  have key:∀(l:List Nat)(S:St),O S.mem->O (aQ all ps S l).mem:=by
   intro l;induction l with
   |nil=>exact λ_ h=>h
   |cons i l ih=>
    intro S h;refine ih _ ?_;simp;split
    .rename_i o p H V;simp[bn.app,gm];exact (A_ i o p (by simp) H V).2.1 _ h
    omega
  exact λl=>key l S0 Ap
 --Bi first Bj Bk E is ready
 have first:∀(f:Nat->Bool)(n:Nat),n<=all.length->(∀i,i<n->f i=true)\/∃i,i<n/\f i=false/\∀AE,AE<i->f AE=true:=by
  intro f n;induction n with
  |zero=>simp
  |succ n ih=>
   grind
 have done:∀(E:Array Bool) φ a w,E.size=all.length->Rel φ G (aQ all ps S0 (jy all.length λi=>E.getD i false)) a w->bj φ0 S0.mem w0 φ (aQ all ps S0 (jy all.length λi=>E.getD i false)).mem w->Region.ready .any all.toArray E=[]->Q .normal a w:=by
  intro E φ a w AX A7 I Ae;have Bl:∀i,i<all.length->E.getD i false=true:=by
   rcases first (λi=>E.getD i false) all.length (aak _)with h|⟨i,M,A',AS⟩
   .exact h
   .have:i∈Region.ready .any all.toArray E:=by
     rw[mem_ready];refine⟨?_,all[i],by simp,λe he BN=>?_⟩
     .grind
     .obtain⟨p,_,V,_⟩:=fj AA (show all[i]?=some all[i] by simp);exact AS e.on (V e.on (by
       simp[fA,aaD,aez];exact⟨e,⟨by simpa using he,BN⟩,rfl⟩))
    rw[Ae]at this;cases this
  have Z:(jy all.length λi=>E.getD i false)=List.range all.length:=by
   rw[jy,List.filter_eq_self];grind
  rw[Z,Ar]at A7 I;exact Aq φ a w A7 I
 intro fuel;induction fuel with
 |zero=>
  intro E φ a w AX AH A7 I AL;have Ae:Region.ready .any all.toArray E=[]:=by
   cases h:Region.ready .any all.toArray E with
   |nil=>rfl
   |cons i r=>
    have hi:i∈Region.ready .any all.toArray E:=by rw[h];simp
    rw[mem_ready]at hi;obtain⟨Ak,o,H,_⟩:=hi;have B5:i<all.length:=by
     grind
    simp_all
  exact⟨Ae,done E φ a w AX A7 I Ae⟩
 |succ fuel ih=>
  intro E φ a w AX AH A7 I AL;refine⟨done E φ a w AX A7 I,λi hi=>?_⟩;rw[mem_ready]at hi;obtain⟨Ak,o,H,Bm⟩:=hi;have A8:all[i]?=some o:=by simpa using H
  have B5:i<all.length:=(aai.1 A8).1;have BO:i<E.size:=by omega
  have As:E.getD i false=false:=by
   grind
  have Ay:∀k∈fA o,E.getD k false=true:=by
   intro k AO;simp[fA,aaD]at AO;grind
  obtain⟨p,V,_⟩:=fj AA A8;obtain⟨Bn,_,BP⟩:=A_ i o p (by simp) A8 V;have BQ:=tI (S:=S0) Aa AA AH A8 V As Ay;have B6:(E.setIfInBounds i true).getD i false=true:=by simp[BO]
  have Af:∀k,k≠i->(E.setIfInBounds i true).getD k false=E.getD k false:=λk AO=>getD_set_ne false (aff AO);have heq:=A4 (S:=S0) (f:=λi=>E.getD i false) (g:=λk=>(E.setIfInBounds i true).getD k false) Aa AA AH B0 B2 A8 V As B6 Af;have BR:ru all (λk=>(E.setIfInBounds i true).getD k false):=by
   intro k ok BS BT x Aj;by_cases B7:x=i
   .subst B7;omega
   .show (E.setIfInBounds i true).getD x false=true;rw[Af x B7];by_cases AN:k=i
    .grind
    .exact AH k ok BS ((Af k AN).symm.trans BT) x Aj
  have BU:((List.range all.length).filter λk=>!(E.setIfInBounds i true).getD k false).length<=fuel:=by
   have M:(List.range all.length).filter (λk=>!(E.setIfInBounds i true).getD k false)=((List.range all.length).filter λk=>!E.getD k false).filter (λk=>k != i):=by
    rw[ah4];refine ajA λk _=>?_;by_cases AN:k=i
    .subst AN;rw[B6];simp
    .rw[Af k AN];simp[AN]
   have BV:i∈(List.range all.length).filter λk=>!E.getD k false:=aez.2 ⟨abo.2 B5,by simp[As]⟩;rw[M];have:(((List.range all.length).filter λk=>!E.getD k false).filter (λk=>k != i)).length<((List.range all.length).filter λk=>!E.getD k false).length:=by
    rw[ajB];exact⟨i,BV,by simp⟩
   omega
  have AP:=BP _ BQ (BM _) φ G a w A7 (wpAny P .any all.toArray Q fuel (E.setIfInBounds i true)) Q (λφ' A9 w' At AO=>
   ih _ φ' A9 w' (by simpa using AX) BR (At.eqv heq) (by rw[<-heq.mem];exact I.trans AO) BU)
  unfold wpOp;grind
end
def Qo{P:Program}{S S1:St}{id:Nat}{ops:List Oper}{ps:List bn}{O:Mem->Prop}(Ap:O S.mem)(hm:P.follows .mixedOrders=true)(AW:Cert P O ops ops S ps S1)(AA:rq ops ps=true){φ G a w}(A7:Rel φ G S a w){Q:Exit->Act->World->Prop}
 (Aq:∀φ' A9 w',Rel φ' G S1 A9 w'->bj φ S.mem w φ' S1.mem w'->Q .normal A9 w'):(Code.region id ops.toArray true).wp P Q a w:=by
 refine wp_region_any hm ?_;have BW:Rel φ G S a {w with drawn:=w.drawn+1}:=A7.grow (λ_ _=>rfl) (aak _);have B8:(jy ops.length λi=>(Array.replicate ops.length false).getD i false)=[]:=by
  rw[jy,afv];simp_all
 refine Tf (S0:=S) (φ0:=φ) (w0:=w) (G:=G) Ap AW AA A7.mem.nodup (λφ' A9 w' At AO=>Aq φ' A9 w' At AO) _ _ φ a _ (by simp) ?_ ?_ ?_ ?_
 .intro j o _ A2;simp at A2;grind
 .simp only[aeu];rw[B8];exact BW
 .simp only[aeu];rw[B8];exact bj.grow (λ_ _=>rfl) (aak _) rfl rfl rfl
 grind
def aeD{P:Program}{O:Mem->Prop}{ops:List Oper}{S S1:St}{ps:List bn}(AW:Cert P O ops ops S ps S1):S1.n=S.n/\S1.gl=S.gl:=by
 obtain⟨Ar,_,_⟩:=Cert.at (ps:=ps) (S0:=S) AW [] [] rfl rfl rfl rfl;rw[<-Ar];exact⟨qk ..,oq ..⟩
def F6(all:List Oper)(o J:Oper):Bool:=sK o.dst.toList (looks all J)&&sK J.dst.toList (looks all o)&&sK o.dst.toList J.dst.toList
def CZ(all:List Oper)(AB:List (List Nat))(Ag:List (List Nat))(j:Nat):Bool:=
 match all[j]? with
 |some o=>(fA o).all (λi=>decide (i<j))&&(List.range j).all λi=>(Ag.getD j []).contains i||(match all[i]? with
  |some J=>F6 all J o&&((AB.getD i []).contains j&&(AB.getD j []).contains i)
  |none=>false)
 |none=>false
def F7(all:List Oper)(AB:List (List Nat)):Bool:=(List.range all.length).all (CZ all AB (jg all []))
def Jp(ps:List bn)(es:List cL):List Nat->Bool
 |[]=>true
 |j::r=>(match ps[j]? with|some q=>sK (es.map (·.key)) q.ks|none=>false)&&Jp ps es r
def Jq(ps:List bn)(AJ:List Nat):List cL->Bool
 |[]=>true
 |e::es=>Jp ps (e::es) AJ
def A5(ps:List bn):List (List Nat)->List bn->Bool
 |_,[]=>true
 |[],p::r=>Jq ps [] p.es&&A5 ps [] r
 |AJ::AB,p::r=>Jq ps AJ p.es&&A5 ps AB r
def pv(AB:List (List Nat))(ps:List bn):Bool:=A5 ps AB ps
def sM{ps:List bn}:∀{AB:List (List Nat)}{l:List bn},A5 ps AB l=true->∀i p,l[i]?=some p->Jq ps (AB.getD i []) p.es=true
 |_,[],_,i,p,V=>by grind
 |[],q::r,h,i,p,V=>by
  simp[A5]at h;cases i with
  |zero=>grind
  |succ i=>have:=sM h.2 i p (by grind);grind
 |AJ::AB,q::r,h,i,p,V=>by
  simp[A5]at h;cases i with
  |zero=>grind
  |succ i=>have:=sM h.2 i p (by grind);grind
def Ng{ps:List bn}{es:List cL}:∀{AJ:List Nat},Jp ps es AJ=true->∀j∈AJ,∀q,ps[j]?=some q->sK (es.map (·.key)) q.ks=true
 |[],_,j,A2,_,_=>by grind
 |k::r,h,j,A2,q,AK=>by
  simp[Jp]at h;rcases aam.1 A2 with rfl|A2
  .grind
  .exact Ng h.2 j A2 q AK
def A6{ps:List bn}{AJ:List Nat}:∀{es:List cL},Jq ps AJ es=true->∀j∈AJ,∀q,ps[j]?=some q->sK (es.map (·.key)) q.ks=true
 |[],_,_,_,_,_=>rfl
 |_::_,h,j,A2,q,AK=>Ng h j A2 q AK
def Vv{all:List Oper}{AB:List (List Nat)}{ps:List bn}(AP:F7 all AB=true)(A0:pv AB ps=true)(Z:ps.length=all.length):rq all ps=true:=by
 refine aaR.2 λj A2=>?_;have M:=aaR.1 AP j A2;have Bo:j<all.length:=abo.1 A2;unfold CZ at M;unfold LQ;have AQ:ps[j]?=some (ps[j]'(by omega)):=by grind
 rw[AQ];cases H:all[j]? with
 |none=>grind
 |some o=>
  rw[H]at M;simp at M⊢;refine⟨M.1,λi hi=>?_⟩;rcases M.2 i hi with A'|A'
  .grind
  .have AC:ps[i]?=some (ps[i]'(by omega)):=by grind
   cases A1:all[i]? with
   |none=>grind
   |some J=>
    rw[A1]at A';simp at A';simp[CW];have AD:=A6 (sM A0 i _ AC) j (by grind) _ AQ;have AZ:=A6 (sM A0 j _ AQ) i (by grind) _ AC;have BX:=A'.1;simp[F6]at BX;grind
def F8(all:List Oper):Prop:=∀i,i+1<all.length->i∈(jg all []).getD (all.length-1) []
def Qp{all:List Oper}{Aa:List (List Nat)}(V:F7 all Aa=true)(Ab:Aa.getD (all.length-1) []=[]):F8 all:=by
 intro i hi;have M:=aaR.1 V (all.length-1) (abo.2 (by omega));unfold CZ at M;rw[ad4 (by omega)]at M;simp only[Ds,aaR,aiB,abo]at M;rcases M.2 i (by omega)with E|E
 .simpa using E
 .rw[ad4 (by omega)]at E;simp only[Ds]at E;have:=E.2.2;rw[Ab]at this;cases this
def Ku:bn:=⟨[],[],false,.bC⟩
section
variable {all:List Oper} {ps:List bn}
theorem Cert.at2{P:Program}{I:Mem->Prop}{rest:List Oper}{S0 S:St}{U:List bn}{S1:St}(h:Cert P I all rest S U S1):∀(pre:List Oper)(pp:List bn)(AG:List Oper)(AH:List bn),pre.length=pp.length->all=pre++rest++AG->ps=pp++U++AH->aQ all ps S0 (List.range pre.length)=S->
 aQ all ps S0 (List.range (pre.length+rest.length))=S1/\U.length=rest.length/\∀j o p,pre.length<=j->j<pre.length+rest.length->all[j]?=some o->ps[j]?=some p->(∀e∈p.es,e.key∈p.ks)/\(∀m,I m->I (bX m p.es))/\vz P I all (aQ all ps S0 (List.range j)) o p:=by
 induction h with
 |nil S=>
  intro pre pp AG AH AB AN A0 AI;exact⟨by simpa using AI,rfl,λj o p Z AO _=>by simp at AO;omega⟩
 |cons o rest S p U S1 A2 Ar AC A' ih=>
  intro pre pp AG AH AB AN A0 AI;have A3:all[pre.length]?=some o:=by rw[AN];simp
  have Ac:ps[pre.length]?=some p:=by rw[A0,AB];simp
  obtain⟨M,E,AD⟩:=ih (pre++[o]) (pp++[p]) AG AH (by simp[AB]) (by rw[AN];simp) (by rw[A0];simp) (by
   rw[aal,aeT,List.range_succ,uP,AI];simp[aQ,A3,Ac])
  refine⟨by rw[<-M];simp;congr 2;omega,by simp[E],λj Ad As Z AO N AP=>?_⟩;rcases Nat.eq_or_lt_of_le Z with rfl|Z
  .rw[A3]at N;rw[Ac]at AP;cases N;cases AP;exact⟨A2,Ar,by rw[AI];exact AC⟩
  .exact AD j Ad As (by simp;omega) (by simp at AO⊢;omega) N AP
theorem Tg{P:Program}{S0 S1:St}{φ0:cj}{G:Fr}{w0:World}{Q:Exit->Act->World->Prop}{I:Mem->Prop}{init:List Oper}{ol:Oper}(A5:all=init++[ol])(AQ:F8 all)(AR:I S0.mem){U:List bn}(AS:Cert P I all init S0 U S1)(A0:ps=U++[Ku])(A1:rq all ps=true)(At:(S0.mem.map (·.key)).Nodup)
 (AT:∀φ a w,Rel φ G S1 a w->bj φ0 S0.mem w0 φ S1.mem w->∀next:Act->World->Prop,(∀J w',Q .normal J w'->next J w')->if Region.wanted ol (yielded all.toArray a.tmps)then ol.wp P a w next Q else next (a.put ol.dst undef) w):
 ∀(fuel:Nat)(D:Array Bool) φ a w,D.size=all.length->D.getD init.length false=false->ru all (λi=>D.getD i false)->Rel φ G (aQ all ps S0 (jy all.length λi=>D.getD i false)) a w->bj φ0 S0.mem w0 φ (aQ all ps S0 (jy all.length λi=>D.getD i false)).mem w->
  ((List.range all.length).filter λi=>!D.getD i false).length<=fuel->wpAny P .any all.toArray Q fuel D a w:=by
 obtain⟨Au,Ae,AC⟩:=Cert.at2 (ps:=ps) (S0:=S0) AS [] [] [ol] [Ku] rfl (by simp[A5]) (by simp[A0]) rfl;have AU:all.length=init.length+1:=by rw[A5];simp
 have Af:ps.length=all.length:=by rw[A0,AU];simp[Ae]
 have AV:all[init.length]?=some ol:=by rw[A5];simp
 have Ag:ps[init.length]?=some Ku:=by rw[A0,<-Ae];simp
 have Av:∀(j:Nat)(p:bn),ps[j]?=some p->∀e∈p.es,e.key∈p.ks:=λj p H=>by
  have BD:j<ps.length:=(aai.1 H).1;by_cases Z:j<init.length
  .exact (AC j (all[j]'(by omega)) p (by simp) (by simpa using Z) (by simp) H).1
  .have:j=init.length:=by omega
   subst this;rw[Ag]at H;cases H;simp[Ku]
 have Aw:∀j o,all[j]?=some o->∀p∈fA o,p<j:=λj o O=>(fj A1 O).choose_spec.2.1;have Ax:∀l:List Nat,I (aQ all ps S0 l).mem:=by
  have key:∀(l:List Nat)(S:St),I S.mem->I (aQ all ps S l).mem:=by
   intro l;induction l with
   |nil=>exact λ_ h=>h
   |cons i l ih=>
    intro S h;have A3:aQ all ps S (i::l)=aQ all ps (aQ all ps S [i]) l:=by simp[aQ]
    rw[A3];refine ih _ ?_;simp only[aQ,ajp,amI];split
    .rename_i o p O H;simp only[bn.app,gm];have AJ:i<all.length:=(aai.1 O).1;by_cases hi:i<init.length
     .exact (AC i o p (by simp) (by simpa using hi) O H).2.1 _ h
     .have:i=init.length:=by omega
      subst this;rw[Ag]at H;cases H;exact h
    .exact h
  exact λl=>key l S0 AR
 have first:∀(f:Nat->Bool)(n:Nat),n<=all.length->(∀i,i<n->f i=true)\/∃i,i<n/\f i=false/\∀Ah,Ah<i->f Ah=true:=by
  intro f n;induction n with
  |zero=>exact λ_=>.inl (λi hi=>by omega)
  |succ n ih=>
   intro Ab;rcases ih (by omega)with h|⟨i,M,E,AD⟩
   .cases A6:f n with
    |true=>
     refine .inl λi hi=>?_;rcases Nat.lt_succ_iff_lt_or_eq.1 hi with AW|AW
     .exact h i AW
     .rw[AW];exact A6
    |false=>exact .inr ⟨n,by omega,A6,h⟩
   .exact .inr ⟨i,by omega,E,AD⟩
 have Ay:∀(D:Array Bool),D.size=all.length->Region.ready .any all.toArray D=[]->∀i,i<all.length->D.getD i false=true:=by
  intro D A7 A8;rcases first (λi=>D.getD i false) all.length (aak _)with h|⟨i,M,E,AD⟩
  .exact h
  .exfalso;have:i∈Region.ready .any all.toArray D:=by
    rw[mem_ready];refine⟨?_,all[i],by simp[M],λe he AX=>?_⟩
    .have:i<D.size:=by omega
     simp only[abk,aiv this,aeX]at E⊢;exact E
    .obtain⟨p,_,H,_⟩:=fj A1 (show all[i]?=some all[i] by simp[M]);exact AD e.on (H e.on (by
      simp only[fA,aaD,aez];exact⟨e,⟨by simpa using he,AX⟩,rfl⟩))
   rw[A8]at this;cases this
 have Az:∀(D:Array Bool),D.size=all.length->(∀i,i<all.length->D.getD i false=true)->Region.ready .any all.toArray D=[]:=by
  intro D A7 B';cases h:Region.ready .any all.toArray D with
  |nil=>rfl
  |cons i r=>
   exfalso;have hi:i∈Region.ready .any all.toArray D:=by rw[h];simp
   rw[mem_ready]at hi;obtain⟨AE,o,O,_⟩:=hi;have AJ:i<all.length:=by
    have:=(aei.1 O).1;simpa using this
   have:=B' i AJ;have E:i<D.size:=by omega
   simp only[abk,aiv E,aeX]at AE this;rw[AE]at this;cases this
 intro fuel;induction fuel with
 |zero=>
  intro D φ a w A7 AK AF A' A2 A6;exfalso;have:init.length∈(List.range all.length).filter λi=>!D.getD i false:=aez.2 ⟨abo.2 (by omega),by simp only[AK];rfl⟩;have:=List.length_pos_of_mem this;omega
 |succ fuel ih=>
  intro D φ a w A7 AK AF A' A2 A6;refine⟨λA8=>?_,λi hi=>?_⟩
  .have:=Ay D A7 A8 init.length (by omega);rw[AK]at this;cases this
  rw[mem_ready]at hi;obtain⟨AE,o,O,B0⟩:=hi;have N:all[i]?=some o:=by simpa using O
  have AJ:i<all.length:=(aai.1 N).1;have Ai:i<D.size:=by omega
  have AL:D.getD i false=false:=by
   simp only[abk,aiv Ai,aeX]at AE⊢;exact AE
  have AY:∀k∈fA o,D.getD k false=true:=by
   intro k A9;simp only[fA,aaD,aez]at A9;obtain⟨e,⟨he,AX⟩,rfl⟩:=A9;exact B0 e (by simpa using he) AX
  have AM:(D.setIfInBounds i true).getD i false=true:=by simp[Ai]
  have AA:∀k,k≠i->(D.setIfInBounds i true).getD k false=D.getD k false:=λk A9=>getD_set_ne false (aff A9);by_cases Aj:i=init.length
  .subst Aj;rw[AV]at N;cases N;have Ak:∀k,k<init.length->D.getD k false=true:=by
    intro k AZ;have B2:k∈(jg all []).getD init.length []:=by
     have:=AQ k (by omega);rw[AU]at this;simpa using this
    exact (ll (L:=λi=>D.getD i false=true) Aw (λj o O A6=>AF j o O A6) init.length ⟨ol,AV⟩ k B2).2 (λAd Al=>by rw[AV]at Al;cases Al;exact AY)
   have AB:(jy all.length λi=>D.getD i false)=List.range init.length:=by
    rw[jy,AU,List.range_succ,ah7];have A3:(List.range init.length).filter (λi=>D.getD i false)=List.range init.length:=by
     rw[List.filter_eq_self];intro k AZ;exact Ak k (abo.1 AZ)
    rw[A3];simp only[List.filter_cons,List.filter_nil];rw[AL];simp
   have B3:aQ all ps S0 (List.range init.length)=S1:=by simpa using Au
   rw[AB,B3]at A' A2;have V:=AT φ a w A' A2 (wpAny P .any all.toArray Q fuel (D.setIfInBounds init.length true)) (λJ w' An=>by
    have A8:=Az (D.setIfInBounds init.length true) (by simpa using A7) (λk AZ=>by
     by_cases y:k=init.length
     .subst y;exact AM
     .rw[AA k y];exact Ak k (by omega))
    cases fuel with
    |zero=>exact⟨A8,An⟩
    |succ fuel=>exact⟨λ_=>An,λi hi=>by rw[A8]at hi;cases hi⟩)
   unfold wpOp;rw[O];simp only
   split at V
   .rename_i hw;rw[aav hw];exact .inl V
   .rename_i hw;rw[aaf hw];exact V
  .have B4:i<init.length:=by omega
   obtain⟨p,H,_⟩:=fj A1 N;obtain⟨BE,_,B5⟩:=AC i o p (by simp) (by simpa using B4) N H;have B6:=tI (S:=S0) Af A1 AF N H AL AY;have heq:=A4 (S:=S0) (f:=λi=>D.getD i false) (g:=λk=>(D.setIfInBounds i true).getD k false) Af A1 AF Av At N H AL AM AA;have B7:ru all (λk=>(D.setIfInBounds i true).getD k false):=by
    intro k ok A_ B8 x Ao;by_cases Ap:x=i
    .subst Ap;exact AM
    .show (D.setIfInBounds i true).getD x false=true;rw[AA x Ap];by_cases y:k=i
     .subst y;rw[N]at A_;cases A_;exact AY x Ao
     .exact AF k ok A_ ((AA k y).symm.trans B8) x Ao
   have B9:((List.range all.length).filter λk=>!(D.setIfInBounds i true).getD k false).length<=fuel:=by
    have M:(List.range all.length).filter (λk=>!(D.setIfInBounds i true).getD k false)=((List.range all.length).filter λk=>!D.getD k false).filter (λk=>k != i):=by
     rw[ah4];refine ajA λk _=>?_;by_cases y:k=i
     .subst y;rw[AM];simp
     .rw[AA k y];simp[y]
    have BA:i∈(List.range all.length).filter λk=>!D.getD k false:=aez.2 ⟨abo.2 AJ,by simp[AL]⟩;rw[M];have:(((List.range all.length).filter λk=>!D.getD k false).filter (λk=>k != i)).length<((List.range all.length).filter λk=>!D.getD k false).length:=by
     rw[ajB];exact⟨i,BA,by simp⟩
    omega
   have V:=B5 _ B6 (Ax _) φ G a w A' (wpAny P .any all.toArray Q fuel (D.setIfInBounds i true)) Q (λφ' J w' BB A9=>
    ih _ φ' J w' (by simpa using A7) (by rw[AA _ (aff Aj)];exact AK) B7 (BB.eqv heq) (by rw[<-heq.mem];exact A2.trans A9) B9)
   unfold wpOp;rw[O];simp only
   split at V
   .rename_i hw;rw[aav hw];exact .inl V
   .rename_i hw;rw[aaf hw];exact V
end
def Qq{P:Program}{S S1:St}{id:Nat}{ops init:List Oper}{ol:Oper}{U:List bn}{I:Mem->Prop}(A5:ops=init++[ol])(AQ:F8 ops)(AR:I S.mem)(hm:P.follows .mixedOrders=true)(AS:Cert P I ops init S U S1)(A1:rq ops (U++[Ku])=true){φ G a w}(A':Rel φ G S a w){Q:Exit->Act->World->Prop}
 (AT:∀φ' J w',Rel φ' G S1 J w'->bj φ S.mem w φ' S1.mem w'->∀next:Act->World->Prop,(∀J w',Q .normal J w'->next J w')->if Region.wanted ol (yielded ops.toArray J.tmps)then ol.wp P J w' next Q else next (J.put ol.dst undef) w'):(Code.region id ops.toArray true).wp P Q a w:=by
 refine wp_region_any hm ?_;have BC:Rel φ G S a {w with drawn:=w.drawn+1}:=A'.grow (λ_ _=>rfl) (aak _);have Aq:(jy ops.length λi=>(Array.replicate ops.length false).getD i false)=[]:=by
  rw[jy,afv];intro i hi;simp[abk,abo.1 hi]
 refine Tg (S0:=S) (φ0:=φ) (w0:=w) (G:=G) A5 AQ AR AS rfl A1 A'.mem.nodup AT _ _ φ a _ (by simp) ?_ ?_ ?_ ?_ ?_
 .simp only[abk];rw[A5];simp
 .intro j o _ Z;exfalso;simp only[abk]at Z;by_cases h:j<ops.length
  .simp[h]at Z
  .simp[h]at Z
 .simp only[aeu];rw[Aq];exact BC
 .simp only[aeu];rw[Aq];exact bj.grow (λ_ _=>rfl) (aak _) rfl rfl rfl
 .simp only[aeu];exact ajf (List.length_filter_le _ _) (by simp)
def ia:Mem->Nat
 |[]=>0
 |e::r=>e.ar+ia r
def hU:List bn->Nat
 |[]=>0
 |p::r=>ia p.es+hU r
def ly(N:Nat):Mem->Mem
 |[]=>[]
 |e::r=>(match decide (100<=e.key)with|true=>⟨e.key,N,.dead⟩|false=>e)::ly N r
def St.kill(S:St)(N:Nat):St:={S with env:=[],mem:=ly N S.mem}
def Jr:List cL->Bool
 |[]=>true
 |e::r=>decide (100<=e.key)&&Jr r
def C3(ps:List bn):List Nat->Bool
 |[]=>true
 |i::r=>(match ps[i]? with|some p=>Jr p.es|none=>false)&&C3 ps r
def C4:∀{m:Mem}{e:cL},e∈m->e.ar<=ia m
 |_::r,e,h=>by
  rcases aam.1 h with rfl|h
  .simp only[ia];omega
  .have:=C4 (m:=r) h;simp only[ia];omega
def HN:∀{ps:List bn}{p:bn},p∈ps->ia p.es<=hU ps
 |_::r,p,h=>by
  rcases aam.1 h with rfl|h
  .simp only[hU];omega
  .have:=HN (ps:=r) h;simp only[hU];omega
def ry(N:Nat):∀m:Mem,(ly N m).map (·.key)=m.map (·.key)
 |[]=>rfl
 |e::r=>by
  simp only[ly,aaK,ry N r];split<;>rfl
def uq{N:Nat}:∀{m:Mem}{e:cL},e∈ly N m->(∃A2∈m,100<=A2.key/\e=⟨A2.key,N,.dead⟩)\/(e∈m/\e.key<100)
 |A2::r,e,h=>by
  simp only[ly,aam]at h;rcases h with h|h
  .by_cases Z:100<=A2.key
   .simp only[Z,decide_true]at h;exact .inl ⟨A2,by simp,Z,h⟩
   .simp only[Z,decide_false]at h;subst h;exact .inr ⟨by simp,by omega⟩
  .rcases uq h with ⟨AI,H,O,A7⟩|⟨H,O⟩
   .exact .inl ⟨AI,abq _ H,O,A7⟩
   .exact .inr ⟨abq _ H,O⟩
def C5(N:Nat)(k:Nat):∀m:Mem,Mem.get (ly N m) k=(Mem.get m k).map λe=>match decide (100<=e.key)with|true=>⟨e.key,N,.dead⟩|false=>e
 |[]=>rfl
 |e::r=>by
  have AI:(match decide (100<=e.key)with|true=>(⟨e.key,N,.dead⟩:cL)|false=>e).key=e.key:=by split<;>rfl
  simp only[ly,Mem.get,AI];split
  .rfl
  .exact C5 N k r
def rz(φ:cj)(N:Nat):cj:=λk=>match φ k with
 |some L=>some (match decide (100<=k)with|true=>{L with ar:=N}|false=>L)
 |none=>none
def rA{φ:cj}{N k:Nat}(h:k<100):rz φ N k=φ k:=by
 unfold rz;have:decide (100<=k)=false:=by simp;omega
 rw[this];cases φ k<;>rfl
def Kv{φ:cj}{N k:Nat}{L:Loc}(h:100<=k)(J:φ k=some L):rz φ N k=some {L with ar:=N}:=by
 unfold rz;have:decide (100<=k)=true:=by simp;omega
 rw[this,J]
def abC{φ:cj}{G:Fr}{S:St}{a:Act}{w:World}{N:Nat}(h:Rel φ G S a w)(AU:∀e∈S.mem,e.ar<N):
 Rel (rz φ N) G (S.kill N) a w/\bj φ S.mem w (rz φ N) (S.kill N).mem w:=by
 have hle:φ.le (rz φ N):=by
  intro k L J;by_cases Z:100<=k
  .obtain⟨e,he,rfl⟩:=aaD.1 (h.mem.rZ k L J);obtain⟨L',AL,Ai,_⟩:=h.mem.gg e he;rw[J]at AL;cases AL;have:=AU e he;exact⟨_,Kv Z J,by simp only;omega,λhh=>by simp only at hh;omega⟩
  .exact⟨L,by rw[rA (by omega)];exact J,aak _,λ_=>rfl⟩
 have AV:∀b,jN (rz φ N) (ly N S.mem) b->jN φ S.mem b:=by
  rintro b ⟨e,he,L,J,I⟩;rcases uq he with ⟨A2,A',H,rfl⟩|⟨A',H⟩
  .exact I.elim
  .rw[rA H]at J;exact⟨e,A',L,J,I⟩
 have Aj:∀b,Fo G (rz φ N) (ly N S.mem) b->Fo G φ S.mem b:=λb=>Or.imp id (AV b);have Z:bj φ S.mem w (rz φ N) (S.kill N).mem w:=⟨hle,λ_ _ _=>rfl,λb _ V=>AV b V,aak _,rfl,rfl,rfl⟩;refine⟨⟨h.size,h.defers,(λt x AR=>nomatch AR),⟨?_,?_,?_,?_,?_,h.mem.bound⟩,h.mh.mono (λ_ _ _=>rfl) (aak _) (λb _ V=>Aj b V)⟩,Z⟩
 .show ((ly N S.mem).map (·.key)).Nodup;rw[ry];exact h.mem.nodup
 .intro k L J;show k∈(ly N S.mem).map (·.key);rw[ry];unfold rz at J;cases M:φ k with
  |none=>rw[M]at J;cases J
  |some B'=>exact h.mem.rZ k B' M
 .intro e he;rcases uq he with ⟨A2,A',H,rfl⟩|⟨A',H⟩
  .obtain⟨L,J,_,_⟩:=h.mem.gg A2 A';exact⟨_,Kv H J,rfl,trivial⟩
  .obtain⟨L,J,Ai,B0⟩:=h.mem.gg e A';exact⟨L,by rw[rA H];exact J,Ai,B0.mono hle (λ_ _ _=>rfl) (aak _) (λb _ V=>Aj b V) (λ_ _=>rfl)⟩
 .rintro e he e' B2 L L' J AL ⟨b,I,U⟩;rcases uq he with ⟨A2,A',H,rfl⟩|⟨A',H⟩
  .exact I.elim
  .rcases uq B2 with ⟨AI,O,A7,rfl⟩|⟨O,A7⟩
   .exact U.elim
   .rw[rA H]at J;rw[rA A7]at AL;exact h.mem.apart e A' e' O L L' J AL ⟨b,I,U⟩
 .intro b V;exact h.mem.mg b (AV b V)
def Ei(P:Program)(all:List Oper)(S:St)(o:Oper)(p:bn)(t:TypeId)(x:D):Prop:=
 ∀AB,ma all o p.ks AB S->∀φ G a w,Rel φ G AB a w->∀(next:Act->World->Prop)(R:Exit->Act->World->Prop),
  (∀φ' A3 w' v,Rel φ' G {AB with mem:=bX AB.mem p.es} A3 w'->bj φ AB.mem w φ' (bX AB.mem p.es) w'->aP w' (Fo G φ' (bX AB.mem p.es)) x v->R (.panic [{v:=.iface t v,recovered:=false}]) A3 w')->
  if Region.wanted o (yielded all.toArray a.tmps)then o.wp P a w next R else next (a.put o.dst undef) w
section
variable {all:List Oper} {ps:List bn}
theorem Th{m:Mem}{x e:cL}(h:e∈Mem.set m x):e∈m\/e=x:=by
 induction m with
 |nil=>exact .inl h
 |cons y r ih=>
  simp only[Mem.set]at h;split at h
  .rcases aam.1 h with h|h
   .exact .inr h
   .exact .inl (abq _ h)
  .rcases aam.1 h with h|h
   .exact .inl (by simp[h])
   .rcases ih h with h|h
    .exact .inl (abq _ h)
    .exact .inr h
theorem C6:∀{es:List cL}{m:Mem}{e:cL},e∈bX m es->e∈m\/e∈es
 |[],m,e,h=>.inl h
 |x::r,m,e,h=>by
  have H:e∈bX (Mem.set m x) r:=h;rcases C6 H with h|h
  .rcases Th h with h|h
   .exact .inl h
   .exact .inr (by simp[h])
  .exact .inr (abq _ h)
theorem HO(B:Nat)(Ak:∀p∈ps,∀e∈p.es,e.ar<B):∀(l:List Nat)(S:St),(∀e∈S.mem,e.ar<B)->∀e∈(aQ all ps S l).mem,e.ar<B
 |[],S,h=>h
 |i::l,S,h=>by
  have AI:aQ all ps S (i::l)=aQ all ps (aQ all ps S [i]) l:=by simp[aQ]
  rw[AI];refine HO B Ak l _ ?_;simp only[aQ,ajp,amI];split
  .rename_i o p I M;simp only[bn.app,gm];intro e he;rcases C6 he with he|he
   .exact h e he
   .exact Ak p (aaz M) e he
  .exact h
variable {S:St} {f:Nat->Bool}
theorem Qr(AM:ps.length=all.length)(A5:rq all ps=true)(A0:ru all f){j:Nat}{o:Oper}(I:all[j]?=some o)(AW:f j=false)(AC:∀i∈fA o,f i=true)
 (AX:∀i p,ps[i]?=some p->i≠j->i∉(jg all []).getD j []->j∉(jg all []).getD i []->∀e∈p.es,100<=e.key) {k:Nat} (Z:k<100):
 Mem.get (aQ all ps S (jy all.length f)).mem k=Mem.get (aQ all ps S (List.range j)).mem k:=by
 have B3:j<all.length:=(aai.1 I).1;have AN:∀j o,all[j]?=some o->∀p∈fA o,p<j:=λj o I=>(fj A5 I).choose_spec.2.1;have Al:∀i∈(jg all []).getD j [],i<j/\f i=true:=λi hi=>by
  obtain⟨H,O⟩:=ll (L:=λi=>f i=true) AN (λj o I A1=>A0 j o I A1) j ⟨o,I⟩ i hi;exact⟨H,O λAn U=>by rw[I]at U;cases U;exact AC⟩
 have AY:∀i,f i=true->i<all.length->j∉(jg all []).getD i []:=by
  intro i B4 AJ AD;obtain⟨A8,AO⟩:∃A8,all[i]?=some A8:=⟨all[i],by simp[AJ]⟩;have:=(ll (L:=λi=>f i=true) AN (λj o I A1=>A0 j o I A1) i ⟨A8,AO⟩ j AD).2 (λAn U=>by rw[AO]at U;cases U;exact A0 i A8 AO B4);simp[AW]at this
 let q:Nat->Bool:=λi=>(jg all []).getD j [] |>.contains i
 have AZ:∀i,q i=true↔i∈(jg all []).getD j []:=λi=>by simp[q]
 have B5:(jy all.length f).filter q=(List.range j).filter q:=by
  rw[CX B3 AW,ah7,ah4,ah4];have O:(List.range' (j+1) (all.length-j-1)).filter (λa=>q a&&f a)=[]:=by
   rw[afv];intro i hi;have:=(List.mem_range'_1.1 hi).1;simp only[Ds,not_and];intro A9;have:=(Al i ((AZ i).1 A9)).1;omega
  rw[O,aee];refine ajA λi hi=>?_;cases A9:q i with
  |false=>simp
  |true=>simp[(Al i ((AZ i).1 A9)).2]
 have B6:∀i p,ps[i]?=some p->i≠j->q i=false->j∉(jg all []).getD i []->k∉p.es.map (·.key):=by
  intro i p M AE A9 AD A6;obtain⟨e,he,rfl⟩:=aaD.1 A6;have:=AX i p M AE (λh=>by rw[(AZ i).2 h]at A9;cases A9) AD e he;omega
 have side:∀(i:Nat)(p:bn),i≠j->j∉(jg all []).getD i []->ps[i]?=some p->k∈p.es.map (·.key)->q i=true:=by
  intro i p AE AD M A6;cases A9:q i with
  |true=>rfl
  |false=>exact absurd A6 (B6 i p M AE A9 AD)
 rw[oT k q (jy all.length f) S S (λi hi p M A6=>by
  have A_:=aez.1 hi;have AJ:=abo.1 A_.1;refine side i p (λh=>by subst h;simp[AW]at A_) (AY i A_.2 AJ) M A6) rfl rfl,
  oT k q (List.range j) S S (λi hi p M A6=>by
   have AJ:=abo.1 hi;refine side i p (by omega) (λh=>?_) M A6;obtain⟨A8,AO⟩:∃A8,all[i]?=some A8:=⟨all[i]'(by omega),by simp[show i<all.length by omega]⟩
   have:=(ll (L:=λ_=>True) AN (λ_ _ _ _ _ _=>trivial) i ⟨A8,AO⟩ j h).1;omega) rfl rfl,B5]
theorem Vw{P:Program}{S0 S1:St}{φ0:cj}{G:Fr}{w0:World}{Q:Exit->Act->World->Prop}{j:Nat}{Ao:Oper}{AF:bn}{t:TypeId}{x:D}
 (AM:ps.length=all.length) (A5:rq all ps=true) (Ap:(S0.mem.map (·.key)).Nodup) (B7:∀(i:Nat)(p:bn),ps[i]?=some p->∀e∈p.es,e.key∈p.ks)
 (B8:∀i o p,all[i]?=some o->ps[i]?=some p->i≠j->j∉(jg all []).getD i []->mb P all (aQ all ps S0 (List.range i)) o p)
 (AS:all[j]?=some Ao) (Aq:ps[j]?=some AF) (B9:Ei P all (aQ all ps S0 (List.range j)) Ao AF t x)
 (AX:∀i p,ps[i]?=some p->i≠j->i∉(jg all []).getD j []->j∉(jg all []).getD i []->∀e∈p.es,100<=e.key)
 (BA:S1.n=S0.n) (BB:S1.gl=S0.gl) (BC:S1.env=[]) (BD:S1.mem=ly (ia S0.mem+hU ps+1) (bX (aQ all ps S0 (List.range j)).mem AF.es))
 (BE:∀φ' A3 w' v,Rel φ' G S1 A3 w'->bj φ0 S0.mem w0 φ' S1.mem w'->aP w' (Fo G φ' S1.mem) x v->Q (.panic [{v:=.iface t v,recovered:=false}]) A3 w'):
 ∀(fuel:Nat)(E:Array Bool) φ a w,E.size=all.length->ru all (λi=>E.getD i false)->E.getD j false=false->Rel φ G (aQ all ps S0 (jy all.length λi=>E.getD i false)) a w->bj φ0 S0.mem w0 φ (aQ all ps S0 (jy all.length λi=>E.getD i false)).mem w->
  ((List.range all.length).filter λi=>!E.getD i false).length<=fuel->wpAny P .any all.toArray Q fuel E a w:=by
 have Ar:j<all.length:=(aai.1 AS).1;have AN:∀j o,all[j]?=some o->∀p∈fA o,p<j:=λj o I=>(fj A5 I).choose_spec.2.1;have first:∀(f:Nat->Bool)(n:Nat),n<=all.length->(∀i,i<n->f i=true)\/∃i,i<n/\f i=false/\∀As,As<i->f As=true:=by
  intro f n;induction n with
  |zero=>exact λ_=>.inl (λi hi=>by omega)
  |succ n ih=>
   intro BT;rcases ih (by omega)with h|⟨i,H,O,A7⟩
   .cases A1:f n with
    |true=>
     refine .inl λi hi=>?_;rcases Nat.lt_succ_iff_lt_or_eq.1 hi with Aa|Aa
     .exact h i Aa
     .rw[Aa];exact A1
    |false=>exact .inr ⟨n,by omega,A1,h⟩
   .exact .inr ⟨i,by omega,O,A7⟩
 have done:∀(E:Array Bool),E.size=all.length->E.getD j false=false->Region.ready .any all.toArray E=[]->False:=by
  intro E AT AG BF;rcases first (λi=>E.getD i false) all.length (aak _)with h|⟨i,H,O,A7⟩
  .have:=h j Ar;simp only[AG]at this;cases this
  .have:i∈Region.ready .any all.toArray E:=by
    rw[mem_ready];refine⟨?_,all[i],by simp[H],λe he V=>?_⟩
    .have:i<E.size:=by omega
     simp only[abk,aiv this,aeX]at O⊢;exact O
    .obtain⟨p,_,M,_⟩:=fj A5 (show all[i]?=some all[i] by simp[H]);exact A7 e.on (M e.on (by
      simp only[fA,aaD,aez];exact⟨e,⟨by simpa using he,V⟩,rfl⟩))
   rw[BF]at this;cases this
 intro fuel;induction fuel with
 |zero=>
  intro E φ a w AT A0 AG Ab Z A1;exfalso;have:j∈(List.range all.length).filter λi=>!E.getD i false:=aez.2 ⟨abo.2 Ar,by simp[AG]⟩;have:=List.length_pos_of_mem this;omega
 |succ fuel ih=>
  intro E φ a w AT A0 AG Ab Z A1;refine⟨λh=>(done E AT AG h).elim,λi hi=>?_⟩;rw[mem_ready]at hi;obtain⟨A',o,I,BG⟩:=hi;have U:all[i]?=some o:=by simpa using I
  have AJ:i<all.length:=(aai.1 U).1;have At:i<E.size:=by omega
  have AP:E.getD i false=false:=by
   simp only[abk,aiv At,aeX]at A'⊢;exact A'
  have AC:∀k∈fA o,E.getD k false=true:=by
   intro k AA;simp only[fA,aaD,aez]at AA;obtain⟨e,⟨he,V⟩,rfl⟩:=AA;exact BG e (by simpa using he) V
  by_cases AE:i=j
  .subst AE;rw[AS]at U;cases U;have Ac:=tI (S:=S0) AM A5 A0 AS Aq AP AC;have AH:=B9 _ Ac φ G a w Ab (wpAny P .any all.toArray Q fuel (E.setIfInBounds i true)) Q (λφ' A3 w' v Ad AA AU=>by
    have Au:∀p∈ps,∀e∈p.es,e.ar<ia S0.mem+hU ps+1:=by
     intro p M e he;have H:=C4 he;have O:=HN M;omega
    have BH:∀e∈S0.mem,e.ar<ia S0.mem+hU ps+1:=by
     intro e he;have H:=C4 he;omega
    have BI:∀e∈bX (aQ all ps S0 (jy all.length λi=>E.getD i false)).mem AF.es,e.ar<ia S0.mem+hU ps+1:=by
     intro e he;rcases C6 he with he|he
     .exact HO _ Au _ _ BH e he
     .exact Au AF (aaz Aq) e he
    obtain⟨Av,Ae⟩:=abC Ad BI;have Af:ly (ia S0.mem+hU ps+1) (bX (aQ all ps S0 (jy all.length λi=>E.getD i false)).mem AF.es)=S1.mem:=by
     rw[BD];refine Mem.ext ?_ ?_ λk=>?_
     .rw[ry,lL,fB];exact Ap
     .simp only[ry,lL,fB]
     .rw[C5,C5];by_cases BJ:k<100
      .congr 1;exact qc _ _ _ k (by simp only[fB]) (.inr (Qr AM A5 A0 AS AP AC AX BJ))
      .have Aw:∀(m:Mem),(Mem.get m k).map (λe:cL=>match decide (100<=e.key)with|true=>(⟨e.key,ia S0.mem+hU ps+1,.dead⟩:cL)|false=>e)=if k∈m.map (·.key)then some ⟨k,ia S0.mem+hU ps+1,.dead⟩else none:=by
        intro m;cases Ax:Mem.get m k with
        |none=>
         rw[aaf]
         .rfl
         .intro A6;obtain⟨e,he,BK⟩:=aaD.1 A6;have:∀(m:Mem),e∈m->Mem.get m k≠none:=by
           intro m;induction m with
           |nil=>intro h;cases h
           |cons y r BL=>
            intro h;simp only[Mem.get];split
            .simp
            .rename_i BM;rcases aam.1 h with rfl|h
             .exact absurd BK BM
             .exact BL h
          exact this m he Ax
        |some e=>
         obtain⟨H,O⟩:=Mem.get_mem Ax;have:decide (100<=e.key)=true:=by simp;omega
         simp only[afS,this];rw[aav (O▸abb H),O]
       rw[Aw,Aw];simp only[lL,fB]
    have BN:({(aQ all ps S0 (jy all.length λi=>E.getD i false))with mem:=bX (aQ all ps S0 (jy all.length λi=>E.getD i false)).mem AF.es}:St).kill (ia S0.mem+hU ps+1)=S1:=by
     have BO:(aQ all ps S0 (jy all.length λi=>E.getD i false)).n=S1.n:=by rw[qk,BA]
     have a2:(aQ all ps S0 (jy all.length λi=>E.getD i false)).gl=S1.gl:=by rw[oq,BB]
     unfold St.kill;simp only[Af,BO,a2];rw[<-BC]
    rw[BN]at Av Ae;refine BE _ A3 w' v Av (Z.trans (AA.trans Ae)) (AU.mono (λ_ _ _=>rfl) (aak _) (λb V=>Or.imp id (Ae.own b V))))
   unfold wpOp;rw[I];simp only
   split at AH
   .rename_i hw;rw[aav hw];exact .inl AH
   .rename_i hw;rw[aaf hw];exact AH
  .obtain⟨p,M,_⟩:=fj A5 U;have AY:j∉(jg all []).getD i []:=by
    intro AD;have:=(ll (L:=λi=>E.getD i false=true) AN (λj o I A1=>A0 j o I A1) i ⟨o,U⟩ j AD).2 (λAn Ay=>by rw[U]at Ay;cases Ay;exact AC);rw[AG]at this;cases this
   have BP:=B8 i o p U M AE AY;have Ac:=tI (S:=S0) AM A5 A0 U M AP AC;have Ag:(E.setIfInBounds i true).getD i false=true:=by simp[At]
   have AQ:∀k,k≠i->(E.setIfInBounds i true).getD k false=E.getD k false:=λk AA=>getD_set_ne false (aff AA);have heq:=A4 (S:=S0) (f:=λi=>E.getD i false) (g:=λk=>(E.setIfInBounds i true).getD k false) AM A5 A0 B7 Ap U M AP Ag AQ;have BQ:ru all (λk=>(E.setIfInBounds i true).getD k false):=by
    intro k ok Ah BR x AR;by_cases Az:x=i
    .subst Az;exact Ag
    .show (E.setIfInBounds i true).getD x false=true;rw[AQ x Az];by_cases AK:k=i
     .subst AK;rw[U]at Ah;cases Ah;exact AC x AR
     .exact A0 k ok Ah ((AQ k AK).symm.trans BR) x AR
   have BS:((List.range all.length).filter λk=>!(E.setIfInBounds i true).getD k false).length<=fuel:=by
    have H:(List.range all.length).filter (λk=>!(E.setIfInBounds i true).getD k false)=((List.range all.length).filter λk=>!E.getD k false).filter (λk=>k != i):=by
     rw[ah4];refine ajA λk _=>?_;by_cases AK:k=i
     .subst AK;rw[Ag];simp
     .rw[AQ k AK];simp[AK]
    have Af:i∈(List.range all.length).filter λk=>!E.getD k false:=aez.2 ⟨abo.2 AJ,by simp[AP]⟩;rw[H];have:(((List.range all.length).filter λk=>!E.getD k false).filter (λk=>k != i)).length<((List.range all.length).filter λk=>!E.getD k false).length:=by
     rw[ajB];exact⟨i,Af,by simp⟩
    omega
   have AH:=BP _ Ac φ G a w Ab (wpAny P .any all.toArray Q fuel (E.setIfInBounds i true)) Q (λφ' A3 w' Ad AA=>
    ih _ φ' A3 w' (by simpa using AT) BQ (by rw[AQ j (λh=>AE h.symm)];exact AG) (Ad.eqv heq) (by rw[<-heq.mem];exact Z.trans AA) BS)
   unfold wpOp;rw[I];simp only
   split at AH
   .rename_i hw;rw[aav hw];exact .inl AH
   .rename_i hw;rw[aaf hw];exact AH
end
inductive Gh where
 |trim (k:Nat)
 |freeze (k:Nat)
 |iR (Z j k sz:Nat)
 |xZ (k I:Nat)
 |eY (k I:Nat)
 |cls (k I:Nat)
 |shut (k:Nat)
 |ur (Z j k:Nat)
abbrev bN:=FuncId->List AV->List aE->Option (Out×List (Nat×aE))
structure Ctx where
 P:Program
 gl:List (Nat×D)
 rk:FuncId->Nat->List Nat
 gh:FuncId->Nat->List Gh
 md:FuncId->Nat->Bool
 fp:FuncId->gu
 od:FuncId->Nat->List (List Nat)
 zT:FuncId->Option (List AV->Option AV)
 fl:FuncId->Nat->List (Nat×Nat)
 ov:Option bN
def iS(P:Program)(g:FuncId):Bool:=
 match P.funcs[g]? with
 |some fn=>fn.body.isSome&&!(fn.name == "runtime.NumGoroutine")
 |none=>false
mutual
def oU:AV->List Nat
 | .vec _ _ _ _=>[]
 | .ptr k _ _=>[k]
 | .df k _ _ _=>[k]
 | .agg cs=>wK cs
 | .fn _ cap=>mw cap
 | .bh vs=>wK vs
 |_=>[]
def wK:List AV->List Nat
 |[]=>[]
 |x::r=>oU x++wK r
end
mutual
def vS:AV->List Nat
 | .vec k _ _ _=>[k]
 | .agg cs=>wL cs
 | .bh vs=>wL vs
 |_=>[]
def wL:List AV->List Nat
 |[]=>[]
 |x::r=>vS x++wL r
end
def nE(mt:List Nat):Nat->List AV->List Nat
 |_,[]=>[]
 |i,x::r=>(match mt.contains i with|true=>ke x|false=>oU x)++nE mt (i+1) r
def wO(mt:List Nat):Nat->List AV->List Nat
 |_,[]=>[]
 |i,x::r=>(match mt.contains i with|true=>[]|false=>vS x)++wO mt (i+1) r
structure gA where
 out:Out
 es:List cL
 ks:List Nat
def upO(ρ bs:List Nat):Out->Out
 | .ret x=>.ret (up ρ bs x)
 | .panic t x=>.panic t x
def C9:Out->Bool
 | .ret x=>ep x
 | .panic _ x=>ka x
def pO:List (Nat×aE)->Bool
 |[]=>true
 |(_,c)::r=>nu c&&pO r
def A8(m:Mem)(ρ:List Nat):List Nat->Bool
 |[]=>true
 |k::r=>(Mem.get m k).isSome&&!ρ.contains k&&A8 m ρ r
def gB(m:Mem)(U:Nat)(ρ B:List Nat):Option (Out×List (Nat×aE))->Option gA
 |some (out,V)=>
  if (decide (ρ.length<=V.length)&&A8 m ρ (List.range' (U+1) (V.length-ρ.length))&&(B.isEmpty||(C9 out&&pO V)))=true then
   some ⟨upO (ρ++List.range' (U+1) (V.length-ρ.length)) (base m 0 ρ++base m 1 (List.range' (U+1) (V.length-ρ.length))) out,
    jS (ρ++List.range' (U+1) (V.length-ρ.length)) (base m 0 ρ++base m 1 (List.range' (U+1) (V.length-ρ.length))) 0 V,ρ++B++List.range' (U+1) (V.length-ρ.length)⟩
  else none
 |none=>none
def Js(O:Nat)(V:List (Nat×aE)):Out->Out
 | .ret x=>.ret (vw (dX 0 V) (List.range O) (λ_=>true) (λ_ v=>v) x).norm
 | .panic t x=>.panic t x
def sN(O:Nat)(b:Bool):Option (Out×List (Nat×aE))->Option (Out×List (Nat×aE))
 |some (out,V)=>if (b&&decide (O<V.length))=true then some (Js O V out,fh (dX 0 V) (List.range O) (λ_=>true) (λ_ v=>v) 0 (List.range O))else some (out,V)
 |none=>none
def jk(rw:Bool)(m:Mem)(ρ B:List Nat):List AV->List AV
 |[]=>[]
 |y::r=>Ff rw (vw m ρ (λk=>B.contains k) jj y)::jk rw m ρ B r
def qe:List (Nat×aE)->List aE
 |[]=>[]
 |(_,c)::r=>c::qe r
def nF(E:bN)(m:Mem)(U:Nat)(g:FuncId)(A':List AV)(rw:Bool)(ρ B:List Nat):Option gA:=
 gB m U ρ B (sN ρ.length (Mem.get m (U+1)).isNone (E g (jk rw m ρ B A') (qe (fh m ρ (λk=>B.contains k) jj 0 ρ))))
def nG(E:bN)(m:Mem)(U:Nat)(g:FuncId)(A':List AV)(mt ρ:List Nat):Option gA:=
 nF E m U g A' (mt.contains 1000) ρ ((wO mt 0 A').filter λk=>!ρ.contains k)
def eD(E:bN)(m:Mem)(U:Nat)(g:FuncId)(A':List AV)(mt:List Nat):Option gA:=
 nG E m U g A' mt (collect m 64 (nE mt 0 A') [])
def dS(S:St)(d:Option Nat):Option gA->Option (XE×St)
 |some ⟨.ret x,es,_⟩=>some (.normal,({S with mem:=bX S.mem es}:St).put d true x)
 |some ⟨.panic t x,es,_⟩=>some (.panic t x,{S with mem:=bX S.mem es})
 |none=>none
def dF(S:St):List Operand->List AV
 |[]=>[]
 |x::r=>(S.au x).2::dF S r
def Ej(n g:Nat):FuncId:=
 match decide (n<=g)with
 |true=>g-n
 |false=>g
def pw(g:FuncId):FuncId:=Ej uY g
def vT(n g:Nat)(A' A1:List AV):List AV:=
 match decide (n<=g)with
 |true=>A1++A'
 |false=>A'++A1
def jF(g:FuncId)(A' A1:List AV):List AV:=vT uY g A' A1
mutual
def Da:D->D->Bool
 | .int k n,.int A2 A4=>decide (k=A2)&&decide (n=A4)
 | .bool b,.bool A5=>decide (b=A5)
 | .str s,.str AK=>decide (s=AK)
 | .list a,.list b=>A9 a b
 | .agg a,.agg b=>A9 a b
 | .B1,.B1=>true
 |_,_=>false
def A9:List D->List D->Bool
 |[],[]=>true
 |a::r,b::s=>Da a b&&A9 r s
 |_,_=>false
end
def Jt:AV->AV->Bool
 | .d x,.d y=>Da x y
 | .ptr k v o,.ptr A2 AC AD=>decide (k=A2)&&(decide (v=AC)&&decide (o=AD))
 | .vec k v o n,.vec A2 AC AD A4=>decide (k=A2)&&(decide (v=AC)&&(decide (o=AD)&&decide (n=A4)))
 |_,_=>false
def Ek:List AV->List AV->Bool
 |[],[]=>true
 |a::r,b::s=>Jt a b&&Ek r s
 |_,_=>false
def Db:aE->aE->Bool
 | .box a,.box b=>Ek a b
 | .vec n a,.vec A4 b=>decide (n=A4)&&A9 a b
 |_,_=>false
def LR(e:cL):Option cL->Bool
 |some x=>decide (x.ar=e.ar)&&Db x.cont e.cont
 |none=>false
def sO(m:Mem):List cL->Bool
 |[]=>true
 |e::r=>LR e (Mem.get m e.key)&&sO m r
def Tj:Bool->gA->gA
 |true,c=>⟨c.out,[],c.ks⟩
 |false,c=>c
def Ba:Bool->Mem->Option gA->Option gA
 |true,m,some c=>some (Tj (sO m c.es) c)
 |true,_,none=>none
 |false,_,r=>r
def cY(X:Ctx)(E:bN)(S:St)(o:Oper)(args:List Operand):Bool×AV->Option gA
 |(true,.fn g A1)=>if jR S args=true then Ba ((X.fp (pw g)).yV.contains 2000) S.mem (eD E S.mem (keyOf o) (pw g) (jF g (dF S args) A1) (X.fp (pw g)).yV)else none
 |_=>none
def F9(S:St):Bool×AV->Option (XE×St)
 |(true,.jb t d)=>some (.panic t d,S)
 |_=>none
def uu(X:Ctx)(E:bN)(S:St)(o:Oper):Option (XE×St):=
 match o.op with
 | .call {callee:=.value A6,args,..}=>dS S o.dst (cY X E S o args.toList (S.au A6))
 | .panic x=>F9 S (S.au x)
 |_=>none
def jl(X:Ctx)(E:bN)(S:St)(o:Oper):dO->Option (XE×St)
 | .val c x=>if (iI S o&&c)=true then some (.normal,S.put o.dst true x)else none
 | .dA c x e=>if (iI S o&&c)=true then some (.normal,({S with mem:=Mem.set S.mem e}:St).put o.dst true x)else none
 | .no=>uu X E S o
def qJ(X:Ctx)(E:bN)(S:St)(o:Oper)(b:Bool):dO->Option (XE×St)
 | .val c x=>if b=true->(iI S o&&c)=true then some (.normal,S.put o.dst b x)else none
 |r=>if b=true then jl X E S o r else some (.normal,S.put o.dst true .bC)
def St.cz(S:St)(d:Option Nat)(b:Bool):St:=S.put d true (.d (.bool b))
def m6(all:List Oper)(j:Nat):Option Nat:=
 match all[j]? with
 |some o=>o.dst
 |none=>none
inductive GV where
 |sk (t:Bool)
 |skip
 |bad
def gvD:D->GV
 | .bool t=>.sk t
 |_=>.bad
def gvT:List AV->GV
 |[]=>.skip
 |_::_=>.bad
def Vx:AV->GV
 | .d x=>gvD x
 | .bh vs=>gvT vs
 |_=>.bad
def rB:Option (Bool×AV)->GV
 |some (true,x)=>Vx x
 |_=>.bad
def Nj{x:Option (Bool×AV)}{t:Bool}(h:rB x=.sk t):x=some (true,.d (.bool t)):=by
 rcases x with _|⟨g,y⟩
 .cases h
 .cases g
  .cases h
  .cases y with
   |d y=>cases y<;>simp_all [rB,Vx,gvD]
   |bh vs=>cases vs<;>simp_all [rB,Vx,gvT]
   |_=>cases h
def Kw{x:Option (Bool×AV)}(h:rB x=.skip):x=some (true,.bh []):=by
 rcases x with _|⟨g,y⟩
 .cases h
 .cases g
  .cases h
  .cases y with
   |d y=>cases y<;>simp_all [rB,Vx,gvD]
   |bh vs=>cases vs<;>simp_all [rB,Vx,gvT]
   |_=>cases h
def oV(X:Ctx)(E:bN)(md:Bool)(all:List Oper)(S:St)(o:Oper):Option (XE×St):=
 match o.guard with
 |none=>jl X E S o (dC X.P S o)
 |some (j,A0)=>match rB (ri all S j)with
  | .sk t=>match md with
   |false=>qJ X E S o (t == A0) (dC X.P S o)
   |true=>if (t == A0)=true then jl X E (S.cz (m6 all j) A0) o (dC X.P (S.cz (m6 all j) A0) o)else some (.normal,(S.cz (m6 all j) (!A0)).put o.dst true (.bh []))
  | .skip=>some (.normal,S.put o.dst true (.bh []))
  | .bad=>none
def andThen(r:Option (XE×St))(k:St->Option (XE×St)):Option (XE×St):=
 match r with
 |some (.normal,S)=>k S
 |r=>r
def iB(X:Ctx)(E:bN)(md:Bool)(all:List Oper):List Oper->St->Option (XE×St)
 |[],S=>some (.normal,S)
 |o::r,S=>andThen (oV X E md all S o) (iB X E md all r)
def tJ(S:St)(o:Oper):Option gA->Option (St×bn)
 |some ⟨.ret x,es,ks⟩=>some ((⟨ks,es,true,x⟩:bn).app o S,⟨ks,es,true,x⟩)
 |_=>none
def m7(X:Ctx)(E:bN)(S:St)(o:Oper):Option (St×bn):=
 match o.op with
 | .call {callee:=.value A6,args,..}=>tJ S o (cY X E S o args.toList (S.au A6))
 |_=>none
def fK(X:Ctx)(E:bN)(S:St)(o:Oper):dO->Option (St×bn)
 | .val c x=>if (iI S o&&c)=true then some (S.put o.dst true x,⟨kj S o,[],true,x⟩)else none
 | .dA c x e=>if (iI S o&&c&&(kj S o).contains e.key)=true then some (({S with mem:=Mem.set S.mem e}:St).put o.dst true x,⟨kj S o,[e],true,x⟩)else none
 | .no=>m7 X E S o
def uv(X:Ctx)(E:bN)(S:St)(o:Oper)(b:Bool):dO->Option (St×bn)
 | .val c x=>if b=true->(iI S o&&c)=true then some (S.put o.dst b x,⟨kj S o,[],b,x⟩)else none
 |r=>if b=true then fK X E S o r else some (S.put o.dst true .bC,⟨[],[],true,.bC⟩)
def eT(X:Ctx)(E:bN)(md:Bool)(all:List Oper)(S:St)(o:Oper):Option (St×bn):=
 match o.guard with
 |none=>fK X E S o (dC X.P S o)
 |some (j,A0)=>match rB (ri all S j)with
  | .sk t=>match md with
   |false=>uv X E S o (t == A0) (dC X.P S o)
   |true=>if (t == A0)=true then fK X E (S.cz (m6 all j) A0) o (dC X.P (S.cz (m6 all j) A0) o)else some ((S.cz (m6 all j) (!A0)).put o.dst true (.bh []),⟨[],[],true,.bh []⟩)
  | .skip=>some (S.put o.dst true (.bh []),⟨[],[],true,.bh []⟩)
  | .bad=>none
def LS(J:List bn)(r:Option (St×bn))(k:St->List bn->Option (XE×St)):Option (XE×St):=
 match r with
 |some (S,p)=>k S (p::J)
 |none=>none
structure Nk where
 S:St
 t:TypeId
 x:D
 es:List cL
 ks:List Nat
def yX(S:St):Option gA->Option Nk
 |some ⟨.panic t x,es,ks⟩=>some ⟨{S with mem:=bX S.mem es},t,x,es,ks⟩
 |_=>none
def Nl(X:Ctx)(E:bN)(S:St)(o:Oper):Option Nk:=
 match o.op with
 | .call {callee:=.value A6,args,..}=>yX S (cY X E S o args.toList (S.au A6))
 |_=>none
def Ga(X:Ctx)(E:bN)(S:St)(o:Oper):dO->Option Nk
 | .no=>Nl X E S o
 |_=>none
def mz(X:Ctx)(E:bN)(S:St)(o:Oper):Option Nk:=
 match o.guard with
 |none=>Ga X E S o (dC X.P S o)
 |some _=>none
def uQ(X:Ctx)(md:Bool)(all:List Oper)(AA:List Nat):Nat->List Oper->St->List bn->Option (List bn)
 |_,[],_,J=>some J.reverse
 |i,o::r,S,J=>match AA.contains i with
  |true=>match eT X (λ_ _ _=>none) md all S o with
   |some (S1,p)=>uQ X md all AA (i+1) r S1 (p::J)
   |none=>none
  |false=>uQ X md all AA (i+1) r (S.put o.dst false .bC) (⟨[],[],false,.bC⟩::J)
def Tk(M:Nat×List (List Nat))(AA:List Nat)(t:TypeId)(x:D)(S:St):Option (List bn)->Option (XE×St)
 |some ps=>if (pv M.2 ps&&C3 ps AA)=true then some (.panic t x,S.kill (M.1+hU ps+1))else none
 |none=>none
def Tl(X:Ctx)(md:Bool)(M:Nat×List (List Nat))(all r:List Oper)(d:Option Nat)(J:List bn)(q:Nk):Option (XE×St):=
 Tk M (M.2.getD J.length []) q.t q.x q.S (uQ X md all (M.2.getD J.length []) (J.length+1) r (q.S.put d true .bC) (⟨q.ks,q.es,true,.bC⟩::J))
def py(X:Ctx)(E:bN)(md:Bool)(M:Nat×List (List Nat))(all r:List Oper)(S:St)(o:Oper)(J:List bn)(k:St->List bn->Option (XE×St)):Option Nk->Option (XE×St)
 |some q=>Tl X md M all r o.dst J q
 |none=>LS J (eT X E md all S o) k
def jG(X:Ctx)(E:bN)(md:Bool)(M:Nat×List (List Nat))(all:List Oper):List Oper->St->List bn->Option (XE×St)
 |[],S,J=>if pv M.2 J.reverse=true then some (.normal,S)else none
 |o::r,S,J=>py X E md M all r S o J (jG X E md M all r) (mz X E S o)
structure Cl where
 k:Nat
 v:Nat
 j:Nat
 x:AV
 vv:Bool
def Nn:AV->AV->Bool
 | .vec a b c d,.vec AE A5 AF AL=>decide (a=AE)&&decide (b=A5)&&decide (c=AF)&&decide (d=AL)
 | .ptr a b c,.ptr AE A5 AF=>decide (a=AE)&&decide (b=A5)&&decide (c=AF)
 | .d (.int k n),.d (.int A2 A4)=>decide (k=A2)&&decide (n=A4)
 | .d (.bool b),.d (.bool A5)=>decide (b=A5)
 |_,_=>false
def gg(m:Mem):List (Nat×Nat)->Option (List Cl)
 |[]=>some []
 |(k,j)::r=>match Mem.get m k,gg m r with
  |some ⟨_,v,.box cs⟩,some l=>match cs[j]? with
   |some x=>some (⟨k,v,j,x,false⟩::l)
   |none=>none
  |some ⟨_,v,.vv aq (some x)⟩,some l=>some (⟨k,v,aq.length,x,true⟩::l)
  |_,_=>none
def Vy(q:Cl):Option AV->Bool
 |some x=>Nn x q.x
 |none=>false
def Q6(q:Cl)(v:Nat):aE->Bool
 | .box cs=>!q.vv&&decide (v=q.v)&&Vy q cs[q.j]?
 | .vv aq (some x)=>q.vv&&decide (v=q.v)&&decide (aq.length=q.j)&&Nn x q.x
 |_=>false
def Gb(e:cL):List Cl->Bool
 |[]=>true
 |q::r=>(match decide (e.key=q.k)with|true=>Q6 q e.ar e.cont|false=>true)&&Gb e r
def x8(H:List Cl):List cL->Bool
 |[]=>true
 |e::r=>Gb e H&&x8 H r
def vA(b:Bool)(k v j:Nat):List Cl->Option AV
 |[]=>none
 |q::r=>match decide (b=q.vv)&&decide (k=q.k)&&decide (v=q.v)&&decide (j=q.j)with|true=>some q.x|false=>vA b k v j r
def yY(b:Bool)(k v:Nat):List Cl->Bool
 |[]=>false
 |q::r=>match decide (b=q.vv)&&decide (k=q.k)&&decide (v=q.v)with|true=>true|false=>yY b k v r
def HP(P:Program)(H:List Cl)(t:TypeId):Bool×AV->Option AV
 |(true,.ptr k v off)=>match (tk P t).agg,decide (tk P t=.other)with
  |false,false=>vA false k v off H
  |_,_=>none
 |(true,.df k v i j)=>match (tk P t).agg,decide (tk P t=.other),decide (j=0)with
  |false,false,true=>vA true k v i H
  |_,_,_=>none
 |_=>none
def HQ(H:List Cl):Option Nat->Bool×AV->Option AV
 |some n,(true,.ptr k v off)=>match yY false k v H with|true=>some (.ptr k v (off+n))|false=>none
 |_,_=>none
def HR(H:List Cl):Bool×AV->Option AV
 |(true,.ptr k v off)=>match yY false k v H with|true=>some (.ptr k v off)|false=>none
 |_=>none
def HS(P:Program)(H:List Cl):TK->Bool×AV->Bool×AV->Option AV
 | .slice e,(true,.vec k v off len),(true,.d (.int _ n))=>match decide (fW P e=some 1),yY true k v H,decide (0<=n),decide (n.toNat<len)with
  |true,true,true,true=>some (.df k v (off+n.toNat) 0)
  |_,_,_,_=>none
 |_,_,_=>none
def vB(P:Program)(H:List Cl)(S:St):Op->Option AV
 | .load t x=>HP P H t (S.au x)
 | .fieldAddr s x f=>HQ H (AO P s f) (S.au x)
 | .nilCheck x=>HR H (S.au x)
 | .indexAddr t x i=>HS P H (tk P t) (S.au x) (S.au i)
 |_=>none
def rC(P:Program)(H:List Cl)(S:St)(o:Oper):Option AV:=
 match o.guard with
 |none=>vB P H S o.op
 |some _=>none
def Ju(H:List Cl):Option (St×bn)->Option (St×bn)
 |some (S,p)=>if x8 H p.es=true then some (S,p)else none
 |none=>none
def vC(X:Ctx)(E:bN)(md:Bool)(H:List Cl)(all:List Oper)(S:St)(o:Oper):Option AV->Option (St×bn)
 |some x=>some (S.put o.dst true x,⟨[],[],true,x⟩)
 |none=>Ju H (eT X E md all S o)
def ou:List Nat->List Oper->Bool
 |[],[]=>true
 |_,_=>false
def No(X:Ctx)(E:bN)(md:Bool)(M:List (List Nat))(all:List Oper)(S:St)(o:Oper)(J:List bn):Option (XE×St):=
 if pv M J.reverse=true then iB X E md all [o] S else none
def pz(X:Ctx)(E:bN)(md:Bool)(M:List (List Nat))(H:List Cl)(all:List Oper):List Oper->St->List bn->Option (XE×St)
 |[],S,J=>if pv M J.reverse=true then some (.normal,S)else none
 |o::r,S,J=>match ou (M.getD J.length []) r with
  |true=>No X E md M all S o J
  |false=>LS J (vC X E md H all S o (rC X.P H S o)) (pz X E md M H all r)
def YC(X:Ctx)(E:bN)(md:Bool)(M:List (List Nat))(all:List Oper)(S:St):Option (List Cl)->Option (XE×St)
 |some H=>pz X E md M H all all S []
 |none=>none
def yZ(X:Ctx)(E:bN)(md:Bool)(M:List (List Nat))(all:List Oper)(S:St):List (Nat×Nat)->Option (XE×St)
 |[]=>jG X E md (ia S.mem,M) all all S []
 |q::r=>YC X E md M all S (gg S.mem (q::r))
def St.iR(S:St)(Z j k sz:Nat):St:=
 match Mem.get S.mem Z,Mem.get S.mem k with
 |some ⟨_,AG,.box cs⟩,some ⟨_,v,_⟩=>match cs[j]? with
  |some (.lit (.slice none 0 0))=>if Z=k then S else {S with mem:=Mem.set (Mem.set S.mem ⟨k,v+1,.vec sz []⟩) ⟨Z,AG,.box (cs.set j (.vec k (v+1) 0 0))⟩}
  |_=>S
 |_,_=>S
def Jv(k v I v2:Nat):AV->AV
 | .vec U v0 o l=>if U=k/\v0=v then .vec I v2 o l else .vec U v0 o l
 |x=>x
def wP(AH:AV->AV):Mem->Mem
 |[]=>[]
 |e::r=>⟨e.key,e.ar,sG AH e.cont⟩::wP AH r
def St.xZ(S:St)(k I:Nat):St:=
 match Mem.get S.mem k,Mem.get S.mem I with
 |some ⟨_,v,.vec sz aq⟩,some ⟨_,v2,_⟩=>if k=I then S else {S with env:=pM (Jv k v I (v2+1)) S.env,mem:=Mem.set (Mem.set (wP (Jv k v I (v2+1)) S.mem) ⟨k,v+1,.dead⟩) ⟨I,v2+1,.vec sz aq⟩}
 |_,_=>S
def St.eY(S:St)(k I:Nat):St:=
 match Mem.get S.mem k,Mem.get S.mem I with
 |some ⟨_,v,.vv aq none⟩,some ⟨_,v2,_⟩=>match aq.getLast? with
  |some xs=>if k=I then S else {S with mem:=Mem.set (Mem.set S.mem ⟨k,v,.vv aq.dropLast (some (.vec I (v2+1) 0 xs.length))⟩) ⟨I,v2+1,.vec 1 xs⟩}
  |none=>S
 |_,_=>S
def St.cls(S:St)(k I:Nat):St:=
 match Mem.get S.mem k,Mem.get S.mem I with
 |some ⟨_,v,.vv aq (some (.vec AM v3 0 len))⟩,some ⟨_,v2,.vec 1 xs⟩=>if k=I then S else if AM=I/\v3=v2/\len=xs.length then {S with mem:=Mem.set (Mem.set S.mem ⟨k,v,.vv (aq++[xs]) none⟩) ⟨I,v2+1,.dead⟩} else S
 |_,_=>S
def St.shut(S:St)(k:Nat):St:=
 match Mem.get S.mem k with
 |some ⟨_,v,.vv aq (some _)⟩=>{S with mem:=Mem.set S.mem ⟨k,v,.vv aq none⟩}
 |_=>S
def St.ur(S:St)(Z j k:Nat):St:=
 match Mem.get S.mem Z,Mem.get S.mem k with
 |some ⟨_,AG,.box cs⟩,some ⟨_,v,_⟩=>match cs[j]? with
  |some (.lit (.slice none 0 0))=>if Z=k then S else {S with mem:=Mem.set (Mem.set S.mem ⟨Z,AG,.box (cs.set j (.vec k (v+1) 0 0))⟩) ⟨k,v+1,.vv [] none⟩}
  |_=>S
 |_,_=>S
def Gh.go(S:St):Gh->St
 | .eY k I=>S.eY k I
 | .cls k I=>S.cls k I
 | .shut k=>S.shut k
 | .ur Z j k=>S.ur Z j k
 | .trim k=>S.AZ k
 | .freeze k=>S.freeze k
 | .iR Z j k sz=>S.iR Z j k sz
 | .xZ k I=>S.xZ k I
def HU(S:St):List Gh->St
 |[]=>S
 |g::r=>HU (g.go S) r
def y9(k:St->St):Option (XE×St)->Option (XE×St)
 |some (.normal,S)=>some (.normal,k S)
 |r=>r
def HV(id:Nat):Option (XE×St)->Option (XE×St)
 |some (.exit AI,S)=>if AI=id then some (.normal,S)else some (.exit AI,S)
 |r=>r
def iter(f:St->Option (XE×St)):Nat->St->Option (XE×St)
 |0,_=>none
 |n+1,S=>andThen (f S) (iter f n)
def HW(a b:Option (XE×St)):Bool×AV->Option (XE×St)
 |(true,.d (.bool t))=>if t=true then a else b
 |_=>none
def St.leave(X:Ctx)(f:FuncId)(id:Nat)(S:St):St:=HU (S.prune (X.rk f id)) (X.gh f id)
def St.enter(X:Ctx)(f:FuncId)(id:Nat)(S:St):St:=HU S (X.gh f (id+2000000))
def den(X:Ctx)(f:FuncId)(E:bN)(n:Nat):Code->St->Option (XE×St)
 | .skip,S=>some (.normal,S)
 | .region id ops draw,S=>match draw with
  |false=>y9 (St.leave X f id) (iB X E (X.md f id) ops.toList ops.toList S)
  |true=>y9 (St.leave X f id) (yZ X E (X.md f id) (X.od f id) ops.toList S (X.fl f id))
 | .seq a b,S=>andThen (den X f E n a S) (den X f E n b)
 | .cond c a b,S=>HW (den X f E n a S) (den X f E n b S) (S.au c)
 | .block id c,S=>HV id (den X f E n c (S.enter X f id))
 | .loop c,S=>iter (den X f E n c) n S
 | .exit id,S=>some (.exit id,HU S (X.gh f (id+1000000)))
 | .ret,S=>some (.ret,S)
 |_,_=>none
def fin(P:Program)(p:gu)(O:Nat)(rs:List ResultVar):Option (XE×St)->Option (Out×List (Nat×aE))
 |some (.normal,S)=>finish P p O rs S
 |some (.ret,S)=>finish P p O rs S
 |some (.panic t x,S)=>A3 p O t x S
 |_=>none
def tK(X:Ctx)(f:FuncId)(E:bN)(n:Nat)(fn:Func)(c:Code)(args:List AV)(cs:List aE):Option (Out×List (Nat×aE)):=
 if (decide (args.length<=fn.ntmps)&&decide (cs.length<=100)&&(X.fp f).sites.all (λk=>decide (100<=k))&&decide (X.fp f).sites.Nodup)=true then
  fin X.P (X.fp f) cs.length fn.results.toList (den X f E n c (entry fn.ntmps X.gl args cs (X.fp f).sites))
 else none
def sP:Option (Out×List (Nat×aE))->Option Nat
 |some (.ret (.vec 0 0 0 0),[(0,.vec sz [])])=>some sz
 |_=>none
def m8(AJ AN:Option (Out×List (Nat×aE))):Option (Out×List (Nat×aE)):=
 match sP AJ,sP AN with
 |some a,some b=>if a=b then AJ else none
 |_,_=>none
def kH(run:List AV->Option (Out×List (Nat×aE)))(args:List AV):Bool->Option (Out×List (Nat×aE))
 |true=>match args with
  | .d (.list [])::r=>m8 (run (.lit (.slice none 0 0)::r)) (run (.nn::r))
  |args=>run args
 |false=>run args
def ow(h:List AV->Option AV)(args:List AV):List aE->Option (Out×List (Nat×aE))
 |[]=>match h args with
  |some d=>some (.ret d,[])
  |none=>none
 |_::_=>none
def qf(h:List D->Option D)(args:List AV):Option AV:=match toDs args with
 |some N=>(h N).map .d
 |none=>none
abbrev DF:=FuncId×List AV
def dfv(S:St)(args:List Operand):Bool×AV->Option DF
 |(true,.fn g A1)=>if (jR S args&&decide (g<uY))=true then some (g,dF S args++A1)else none
 |_=>none
def oW(S:St)(o:Oper):Option DF:=
 match o.guard,o.op with
 |none,.defer {callee:=.value A6,args,..}=>dfv S args.toList (S.au A6)
 |_,_=>none
def Q7(o:Oper):Bool:=
 match o.op with
 | .defer _=>true
 |_=>false
abbrev XD:=Option (XE×St×List DF)
def LU(k:St->XD)(N:List DF):Option (XE×St)->XD
 |some (.normal,S)=>k S
 |some (e,S)=>some (e,S,N)
 |none=>none
def gJ(X:Ctx)(E:bN)(md:Bool)(all:List Oper):List Oper->St->List DF->XD
 |[],S,N=>some (.normal,S,N)
 |o::r,S,N=>match oW S o with
  |some d=>gJ X E md all r (S.put o.dst true .bC) (d::N)
  |none=>LU (λS1=>gJ X E md all r S1 N) N (oV X E md all S o)
def Dc(ops:List Oper):Bool:=ops.any Q7
def Dd(k:St->St):XD->XD
 |some (.normal,S,N)=>some (.normal,k S,N)
 |r=>r
def Bb(N:List DF):Option (XE×St)->XD
 |some (e,S)=>some (e,S,N)
 |none=>none
def Np(k:St->List DF->XD):XD->XD
 |some (.normal,S,N)=>k S N
 |r=>r
def j0(X:Ctx)(f:FuncId)(E:bN)(n:Nat):Code->St->List DF->XD
 | .seq a b,S,N=>Np (j0 X f E n b) (j0 X f E n a S N)
 | .region id ops draw,S,N=>match !draw&&Dc ops.toList with
  |true=>Dd (St.leave X f id) (gJ X E (X.md f id) ops.toList ops.toList S N)
  |false=>Bb N (den X f E n (.region id ops draw) S)
 |c,S,N=>Bb N (den X f E n c S)
def yb(o:Oper):Bool:=
 match o.guard,o.op with
 |none,.call {callee:=.builtin .recover,args,..}=>args.toList.isEmpty
 |_,_=>false
def ql(X:Ctx)(f:FuncId)(E:bN)(n:Nat)(A7:AV):Code->St->Option (XE×St)
 | .seq a b,S=>andThen (ql X f E n A7 a S) (den X f E n b)
 | .region id ops draw,S=>match draw,ops.toList with
  |false,o::r=>if yb o=true then y9 (St.leave X f id) (iB X E (X.md f id) (o::r) r (S.put o.dst true A7))else none
  |_,_=>none
 |_,_=>none
def Tm(P:Program)(p:gu)(O:Nat)(rs:List ResultVar):Option (XE×St)->Option (Out×List (Nat×aE))
 |some (.normal,S)=>finish P p O rs S
 |some (.ret,S)=>finish P p O rs S
 |_=>none
def zU(X:Ctx)(f:FuncId)(E:bN)(n:Nat)(fn:Func)(c:Code)(args:List AV)(cs:List aE):Option (Out×List (Nat×aE)):=
 match args.getLast? with
 |some A7=>if (decide (args.dropLast.length<=fn.ntmps)&&decide (cs.length<=100)&&(X.fp f).sites.all (λk=>decide (100<=k))&&decide (X.fp f).sites.Nodup)=true then
  Tm X.P (X.fp f) cs.length fn.results.toList (ql X f E n A7 c (entry fn.ntmps X.gl args.dropLast cs (X.fp f).sites))
  else none
 |none=>none
def Gc:XE->Option AV
 | .normal=>some (.lit .nilIface)
 | .ret=>some (.lit .nilIface)
 | .panic t x=>some (.jb t x)
 | .exit _=>none
def wR(S:St):Option gA->Option St
 |some ⟨.ret _,es,_⟩=>some {S with mem:=bX S.mem es}
 |_=>none
def Gd(X:Ctx)(p:gu)(O:Nat)(rs:List ResultVar):Option St->Option (Out×List (Nat×aE))
 |some S=>finish X.P p O rs S
 |none=>none
def vD(X:Ctx)(p:gu)(O:Nat)(rs:List ResultVar)(AB:bN)(S:St)(d:DF):Option AV->Option (Out×List (Nat×aE))
 |some A7=>Gd X p O rs (wR S (eD AB S.mem 0 d.1 (d.2++[A7]) (X.fp d.1).yV))
 |none=>none
def zb(X:Ctx)(p:gu)(O:Nat)(rs:List ResultVar)(AB:bN):XD->Option (Out×List (Nat×aE))
 |some (e,S,[])=>fin X.P p O rs (some (e,S))
 |some (e,S,[d])=>vD X p O rs AB S d (Gc e)
 |_=>none
def zV(X:Ctx)(f:FuncId)(E AB:bN)(n:Nat)(fn:Func)(c:Code)(args:List AV)(cs:List aE):Option (Out×List (Nat×aE)):=
 if (decide (args.length<=fn.ntmps)&&decide (cs.length<=100)&&(X.fp f).sites.all (λk=>decide (100<=k))&&decide (X.fp f).sites.Nodup)=true then
  zb X (X.fp f) cs.length fn.results.toList AB (j0 X f E n c (entry fn.ntmps X.gl args cs (X.fp f).sites) [])
 else none
def zc:Code->Bool
 | .seq a b=>zc a||zc b
 | .region _ ops _=>Dc ops.toList
 |_=>false
def oX(X:Ctx)(n:Nat)(E:bN):bN:=λg args cs=>
 match X.P.funcs[g]? with
 |some fn=>match fn.body with
  |some c=>zU X g E n fn c args cs
  |none=>none
 |none=>none
def zW(X:Ctx)(f:FuncId)(E:bN)(n:Nat)(fn:Func)(c:Code)(args:List AV)(cs:List aE):Bool->Option (Out×List (Nat×aE))
 |true=>zV X f E (oX X n E) n fn c args cs
 |false=>kH (λargs=>tK X f E n fn c args cs) args (X.fp f).split
def bm(X:Ctx):Nat->bN
 |0,_,_,_=>none
 |n+1,f,args,cs=>match X.ov with
  |some E=>E f args cs
  |none=>match X.zT f with
   |some h=>ow h args cs
   |none=>match X.P.funcs[f]? with
    |some fn=>match fn.body with
     |some c=>zW X f (bm X n) n fn c args cs (zc c)
     |none=>none
    |none=>none
def kJ(X:Ctx)(A6:bN):Prop:=∀g args cs out l,A6 g args cs=some (out,l)->
 iS X.P g=true/\Ev X.P X.gl g args (eB 0 cs) λo m=>o=out/\m=dX 0 l
def wS{P:Program}{g:FuncId}{vs:Array Value}{w:World}(h:iS P g=true):(callFunc g vs).run P w=.ok (.enter g vs) w:=by
 unfold iS at h;split at h
 .rename_i fn As;simp only[Ds,afz]at h;have M:fn.body.isNone=false:=by
   have:=h.1;cases AJ:fn.body<;>simp_all
  have V:fn.name≠ "runtime.NumGoroutine" :=by simpa using h.2
  have AC:fn.body≠none:=by intro AJ;simp[AJ]at M
  simp[callFunc,As,V,AC]
 .cases h
def get_none{m:Mem}{k:Nat}:Mem.get m k=none↔k∉m.map (·.key):=by
 induction m with
 |nil=>simp[Mem.get]
 |cons e r ih=>
  simp only[Mem.get,aaK,aam,amG];split
  .rename_i h;simp[h]
  .rename_i h;rw[ih];constructor
   .exact λhh=>⟨λhe=>h he.symm,hh⟩
   .exact λhh=>hh.2
def ze{m m':Mem}(D:m'.map (·.key)=m.map (·.key))(k:Nat):(Mem.get m' k).isNone=(Mem.get m k).isNone:=by
 have:=get_none (m:=m) (k:=k);have V:=get_none (m:=m') (k:=k);rw[D,<-this]at V;cases h:Mem.get m k<;>cases At:Mem.get m' k<;>simp_all
def zh(m:Mem):∀(n:Nat)(todo J:List Nat),∀k∈J,k∈collect m n todo J
 |0,todo,J,k,h=>h
 |n+1,[],J,k,h=>h
 |n+1,t::todo,J,k,h=>by
  simp only[collect];split
  .exact zh m n todo J k h
  .exact zh m n _ _ k (amR _ h)
def zi{m m':Mem}(D:m'.map (·.key)=m.map (·.key)):∀(n:Nat)(todo J:List Nat),(∀k∈collect m n todo J,Mem.get m' k=Mem.get m k)->collect m' n todo J=collect m n todo J
 |0,todo,J,_=>rfl
 |n+1,[],J,_=>rfl
 |n+1,t::todo,J,h=>by
  simp only[collect,ze D t]at h⊢;split
  .rename_i I;rw[I]at h;exact zi D n todo J h
  .rename_i I;rw[I]at h;have e:Mem.get m' t=Mem.get m t:=h t (zh m n _ _ t (by simp));rw[e];exact zi D n _ _ h
mutual
def Nq{m m':Mem}{ρ:List Nat}{bor:Nat->Bool}{nv:Nat->Nat->Nat}(D:m'.map (·.key)=m.map (·.key))(h:∀k,(k∈ρ\/bor k=true)->Mem.get m' k=Mem.get m k):∀y:AV,vw m' ρ bor nv y=vw m ρ bor nv y
 | .ptr k ar off=>by
  by_cases Z:k∈ρ
  .simp only[vw,h k (.inl Z)]
  .have A':∀O:Mem,vw O ρ bor nv (.ptr k ar off)=.bC:=by
    intro O;simp only[vw,lj (ρ:=ρ) (k:=k) (j:=0) |>.2 Z];cases Mem.get O k<;>rfl
   rw[A',A']
 | .vec k ar off len=>by
  by_cases Z:k∈ρ\/bor k=true
  .simp only[vw,h k Z]
  .simp only[amG]at Z;have A':∀O:Mem,vw O ρ bor nv (.vec k ar off len)=.bC:=by
    intro O;simp only[vw,lj (ρ:=ρ) (k:=k) (j:=0) |>.2 Z.1,Z.2];cases Mem.get O k with
    |none=>rfl
    |some e=>
     obtain⟨_,_,c⟩:=e;cases c<;>simp
   rw[A',A']
 | .df k ar i j=>by
  by_cases Z:k∈ρ
  .simp only[vw,h k (.inl Z)]
  .have A':∀O:Mem,vw O ρ bor nv (.df k ar i j)=.bC:=by
    intro O;simp only[vw,lj (ρ:=ρ) (k:=k) (j:=0) |>.2 Z];cases Mem.get O k<;>rfl
   rw[A',A']
 | .agg cs=>by simp only[vw,zX D h cs]
 | .fn f cap=>by simp only[vw,zX D h cap]
 | .bh vs=>by simp only[vw,zX D h vs]
 | .bC=>rfl
 | .d x=>rfl
 | .eA x j=>rfl
 | .jb t x=>rfl
 | .lit v=>rfl
 | .nn=>rfl
 | .err=>rfl
def zX{m m':Mem}{ρ:List Nat}{bor:Nat->Bool}{nv:Nat->Nat->Nat}(D:m'.map (·.key)=m.map (·.key))(h:∀k,(k∈ρ\/bor k=true)->Mem.get m' k=Mem.get m k):∀l:List AV,ug m' ρ bor nv l=ug m ρ bor nv l
 |[]=>rfl
 |x::r=>by simp only[ug,Nq D h x,zX D h r]
end
def Nr{m m':Mem}{ρ:List Nat}{bor:Nat->Bool}{nv:Nat->Nat->Nat}(D:m'.map (·.key)=m.map (·.key))(h:∀k,(k∈ρ\/bor k=true)->Mem.get m' k=Mem.get m k):
 ∀(l:List Nat)(i:Nat),(∀k∈l,k∈ρ)->fh m' ρ bor nv i l=fh m ρ bor nv i l
 |[],i,_=>rfl
 |k::r,i,AU=>by
  simp only[fh,h k (.inl (AU k (by simp))),Nr D h r (i+1) (λx A0=>AU x (by simp[A0]))];congr 1;cases Mem.get m k with
  |none=>rfl
  |some e=>
   simp only[yU,abn,amD];cases e.cont with
   |box cs=>simp only[yT,zX D h cs]
   |vv aq y=>
    cases y with
    |none=>rfl
    |some x=>simp only[yT,afS,Nq D h x]
   |_=>rfl
def HX{b:Bool}{m m':Mem}{ρ B:List Nat}(D:m'.map (·.key)=m.map (·.key))(h:∀k,(k∈ρ\/B.contains k=true)->Mem.get m' k=Mem.get m k):∀l:List AV,jk b m' ρ B l=jk b m ρ B l
 |[]=>rfl
 |x::r=>by simp only[jk,Nq (nv:=jj) D h x,HX D h r]
def Ge{m m':Mem}(d:Nat):∀(l:List Nat),(∀k∈l,Mem.get m' k=Mem.get m k)->base m' d l=base m d l
 |[],_=>rfl
 |k::r,h=>by simp only[base,h k (by simp),Ge d r (λx A0=>h x (by simp[A0]))]
def Ns{m m':Mem}(ρ:List Nat)(D:m'.map (·.key)=m.map (·.key)):∀(l:List Nat),A8 m' ρ l=A8 m ρ l
 |[]=>rfl
 |k::r=>by
  have:(Mem.get m' k).isSome=(Mem.get m k).isSome:=by
   have:=ze D k;cases h:Mem.get m k<;>cases At:Mem.get m' k<;>simp_all
  simp only[A8,this,Ns ρ D r]
def HY{A6:bN}{m m':Mem}{A7:Nat}{g:FuncId}{H:List AV}{mt:List Nat}{res:gA}(D:m'.map (·.key)=m.map (·.key))(h:eD A6 m A7 g H mt=some res)(A_:∀k∈res.ks,Mem.get m' k=Mem.get m k):
 eD A6 m' A7 g H mt=some res:=by
 unfold eD nG nF at h⊢;obtain⟨ρ,A9⟩:∃ρ,ρ=collect m 64 (nE mt 0 H) []:=⟨_,rfl⟩;rw[<-A9]at h;obtain⟨B,Aa⟩:∃B,B=(wO mt 0 H).filter λk=>!ρ.contains k:=⟨_,rfl⟩;rw[<-Aa]at h;have AK:∀k,k∈ρ\/B.contains k=true->Mem.get m' k=Mem.get m k:=by
  intro k A1;refine A_ k ?_;unfold gB at h;split at h
  .split at h
   .cases h;simp only[aaA];rcases A1 with M|M
    .exact .inl (.inl M)
    .exact .inl (.inr (by simpa using M))
   .cases h
  .cases h
 have Au:collect m' 64 (nE mt 0 H) []=ρ:=by
  rw[A9];exact zi D 64 _ _ (λk A1=>AK k (.inl (A9▸A1)))
 rw[Au,<-Aa,HX D AK,Nr D AK ρ 0 (λ_ h=>h),ze D];unfold gB at h⊢;split
 .rename_i out N AD;rw[AD]at h;simp only at h;rw[Ns ρ D];split
  .rename_i I;rw[aav I]at h;cases h;have AE:∀d,base m' d ρ=base m d ρ:=λd=>Ge d ρ (λk A1=>AK k (.inl A1));have Av:∀d,base m' d (List.range' (A7+1) (N.length-ρ.length))=base m d (List.range' (A7+1) (N.length-ρ.length)):=λd=>Ge d _ (λk A1=>A_ k (by simp only[aaA];exact .inr A1));rw[AE,Av]
  .rename_i I;rw[aaf I]at h;cases h
 .rename_i AD;rw[AD]at h;cases h
def zj(S:St):∀(l:List Operand)(i:Nat),(dF S l)[i]?=(l[i]?).map λx=>(S.au x).2
 |[],i=>by simp[dF]
 |x::r,i=>by cases i with|zero=>simp[dF]|succ i=>simp[dF,zj S r i]
def kz(S:St):∀(l:List Operand),(dF S l).length=l.length
 |[]=>rfl
 |x::r=>by simp[dF,kz S r]
def Bc(b m ρ B):∀(l:List AV)(i:Nat),(jk b m ρ B l)[i]?=(l[i]?).map λy=>Ff b (vw m ρ (λk=>B.contains k) jj y)
 |[],i=>by simp[jk]
 |x::r,i=>by cases i with|zero=>simp[jk]|succ i=>simp[jk,Bc b m ρ B r i]
def uR(b m ρ B):∀(l:List AV),(jk b m ρ B l).length=l.length
 |[]=>rfl
 |x::r=>by simp[jk,uR b m ρ B r]
def De(m ρ bor):∀(l:List Nat)(i j:Nat),eB i (qe (fh m ρ bor jj j l))=dX i (fh m ρ bor jj j l)
 |[],i,j=>rfl
 |k::r,i,j=>by
  have:yU m ρ bor jj j (Mem.get m k)=(0,(yU m ρ bor jj j (Mem.get m k)).2):=by
   cases Mem.get m k<;>rfl
  simp only[fh];rw[this];simp only[qe,eB,dX,De m ρ bor r (i+1) (j+1)]
def Gf{m:Mem}{ρ:List Nat}:∀{l:List Nat},A8 m ρ l=true->∀k∈l,(Mem.get m k).isSome=true/\k∉ρ
 |[],_,k,D=>by simp at D
 |x::r,h,k,D=>by
  simp only[A8,Ds,afz,List.contains_eq_mem,aeA]at h;rcases aam.1 D with rfl|D
  .exact h.1
  .exact Gf h.2 k D
def Be:∀{l:List (Nat×aE)},pO l=true->∀e∈l,nu e.2=true
 |[],_,e,he=>by simp at he
 |(v,c)::r,h,e,he=>by
  simp only[pO,Ds]at h;rcases aam.1 he with rfl|he
  .exact h.1
  .exact Be h.2 e he
def zY:∀(l:List (Nat×aE))(i k:Nat),i<=k->k<i+l.length->(Mem.get (dX i l) k).isSome=true
 |[],i,k,M,V=>by simp at V;omega
 |(v,c)::r,i,k,M,V=>by
  simp only[dX,Mem.get];split
  .rfl
  .rename_i Aw;exact zY r (i+1) k (by have BL:i≠k:=Aw;omega) (by simp at V;omega)
def Ev.frz{P:Program}{gl f args}{cs:List aE}{out:Out}{N:List (Nat×aE)}(h:Ev P gl f args (eB 0 cs) λo m=>o=out/\m=dX 0 N)(AU:cs.length<=N.length):
 Ev P gl f args (eB 0 cs) λo m=>o=Js cs.length N out/\m=dX 0 (fh (dX 0 N) (List.range cs.length) (λ_=>true) (λ_ v=>v) 0 (List.range cs.length)):=by
 intro φ G w vs hm AL Ax Ay;refine (h φ G w vs hm AL Ax Ay).mono ?_;rintro e w' ⟨φ',m',AM,⟨rfl,rfl⟩,AF,U,A2⟩;obtain⟨s1,s2,Az⟩:=Ee (G1:=G) (ρ:=List.range cs.length) (bor:=λ_=>true) (nv:=λ_ v=>v) AF List.nodup_range (λk D=>zY N 0 k (amO _) (by simp at D;omega)) (λb h=>.inl h) (λb h=>AF.mg b h.own)
  (λk e L b AL _ _ AN AA=>AF.mg _ ⟨e,(Mem.get_mem AL).1,L,by rw[(Mem.get_mem AL).2];exact AN,AA⟩)
 refine⟨_,_,_,⟨rfl,rfl⟩,s1,⟨?_,U.Cq,?_,U.size,U.os,U.tape,U.output⟩,?_⟩
 .intro k L AN;have D:k<cs.length:=by
   have:=hm.rZ k L AN;rw[Nb,sE]at this;simpa using this
  obtain⟨L',M,V,AC⟩:=U.le k L AN;exact⟨L',by simp[cj.jx,D,M],V,AC⟩
 .intro b AJ AA;exact U.own b AJ ((zN (φ:=φ') (nv:=λ_ v=>v) (bor:=λ_=>true) (λk D=>zY N 0 k (amO _) (by simp at D;omega)) b).1 AA).own
 .cases AM with
  |ret x=>
   cases e with
   |returned v=>exact (s2 x v A2).norm
   |_=>exact A2.elim
  |panic t x=>
   cases e with
   |panicked chain=>
    obtain⟨v,I,A0⟩:=A2;exact⟨v,I,A0.mono (λ_ _ _=>rfl) (aak _) (λb _=>Az b)⟩
   |_=>exact A2.elim
def wU:∀(l:List (Nat×aE)),(qe l).length=l.length
 |[]=>rfl
 |(_,_)::r=>by simp[qe,wU r]
def Df{AG:Nat}{b:Bool}{r:Option (Out×List (Nat×aE))}{out:Out}{l:List (Nat×aE)}(h:sN AG b r=some (out,l)):∃AO A5,r=some (AO,A5)/\
 ((out=AO/\l=A5)\/(AG<A5.length/\out=Js AG A5 AO/\l=fh (dX 0 A5) (List.range AG) (λ_=>true) (λ_ v=>v) 0 (List.range AG))):=by
 cases r with
 |none=>cases h
 |some p=>
  obtain⟨B',A5⟩:=p;refine⟨B',A5,rfl,?_⟩;simp only[sN]at h;split at h
  .rename_i I;simp only[Ds,aaw]at I;simp only[aaT,abn]at h;exact .inr ⟨I.2,h.1.symm,h.2.symm⟩
  .simp only[aaT,abn]at h;exact .inl ⟨h.1.symm,h.2.symm⟩
def abD{n g:Nat}(h:g<n):Ej n g=g:=by
 unfold Ej;rw[decide_eq_false (Nat.not_le.2 h)]
def Vz{n g:Nat}(h:g<n)(H E:List AV):vT n g H E=H++E:=by
 unfold vT;rw[decide_eq_false (Nat.not_le.2 h)]
def abE(n g:Nat):Ej n (g+n)=g:=by
 unfold Ej;rw[aep (ajm n g)];exact Nat.add_sub_cancel g n
def VA(n g:Nat)(H E:List AV):vT n (g+n) H E=E++H:=by
 unfold vT;rw[aep (ajm n g)]
def aeK{g:FuncId}(h:g<uY):pw g=g:=abD h
def Nt{g:FuncId}(h:g<uY)(H E:List AV):jF g H E=H++E:=Vz h H E
def aeL(g:FuncId):pw (g+uY)=g:=abE uY g
def Nu(g:FuncId)(H E:List AV):jF (g+uY) H E=E++H:=VA uY g H E
def yd{X:Ctx}{A6:bN}(AD:kJ X A6){S:St}{o:Oper}{AP:Operand}{args:Array Operand}{B0:Array TypeId}{g g0:FuncId}{E:List AV}{A7:Nat}{mt:List Nat}{res:gA}
 (AA:o.op=.call {callee:=.value AP,args,argTypes:=B0}) (Ab:S.au AP=(true,.fn g0 E)) (Ac:pw g0=g) (B2:jR S args.toList=true)
 (h:eD A6 S.mem A7 g (jF g0 (dF S args.toList) E) mt=some res) (B3:S.gl=X.gl) {φ G a w} (AB:Rel φ G S a w) {next:Act->World->Prop} {R:Exit->Act->World->Prop}
 (B4:∀x,res.out=.ret x->∀φ' w' v,Rel φ' G {S with mem:=bX S.mem res.es} a w'->bj φ S.mem w φ' (bX S.mem res.es) w'->aG φ' w' (Fo G φ' (bX S.mem res.es)) x v->next (a.put o.dst v) w')
 (B5:∀t x,res.out=.panic t x->∀φ' w' v,Rel φ' G {S with mem:=bX S.mem res.es} a w'->bj φ S.mem w φ' (bX S.mem res.es) w'->aP w' (Fo G φ' (bX S.mem res.es)) x v->R (.panic [{v:=.iface t v,recovered:=false}]) a w'):o.wp X.P a w next R:=by
 unfold eD nG nF at h;obtain⟨ρ,A9⟩:∃ρ,ρ=collect S.mem 64 (nE mt 0 (jF g0 (dF S args.toList) E)) []:=⟨_,rfl⟩;have Ad:=rp S.mem 64 (nE mt 0 (jF g0 (dF S args.toList) E)) [] List.nodup_nil (by simp);rw[<-A9]at h Ad;generalize (wO mt 0 (jF g0 (dF S args.toList) E)).filter (λk=>!ρ.contains k)=B at h;clear A9;obtain⟨Ae,Af⟩:=Ad;unfold gB at h;split at h
 .rename_i out N B6;split at h
  .rename_i I;cases h;have B7:iS X.P g=true/\Ev X.P X.gl g (jk (mt.contains 1000) S.mem ρ B (jF g0 (dF S args.toList) E)) (eB 0 (qe (fh S.mem ρ (λk=>B.contains k) jj 0 ρ))) λo m=>o=out/\m=dX 0 N:=by
    obtain⟨AO,A5,A',M⟩:=Df B6;obtain⟨B8,Ag⟩:=AD _ _ _ _ _ A';refine⟨B8,?_⟩;rcases M with ⟨rfl,rfl⟩|⟨AQ,rfl,rfl⟩
    .exact Ag
    .have Ah:(qe (fh S.mem ρ (λk=>B.contains k) jj 0 ρ)).length=ρ.length:=by rw[wU,tF]
     have:=Ag.frz (by rw[Ah];omega);rw[Ah]at this;exact this
   obtain⟨Ai,Aj⟩:=B7;simp only[Ds,aiB,aaw]at I;obtain⟨⟨BM,B9⟩,BA⟩:=I;rw[De]at Aj;obtain⟨v1,v2,v3⟩:=Kh (B:=B) AB.mem Ae Af;have AW:=AB.au AP (by rw[Ab]);rw[Ab]at AW;generalize Ak:a.eval AP=BN at AW;have BB:∃vs:Array Value,(execOp a.eval o).run X.P w=.ok (.enter g vs) w/\(jF g0 (dF S args.toList) E).length=vs.size/\∀(i:Nat) y v,(jF g0 (dF S args.toList) E)[i]?=some y->vs[i]?=some v->aG φ w (Fo G φ S.mem) y v:=by
    have Al:∀(i:Nat) y v,(dF S args.toList)[i]?=some y->(args.map a.eval)[i]?=some v->aG φ w (Fo G φ S.mem) y v:=by
     intro i y v A3 A4;rw[zj]at A3;simp only[Array.getElem?_map,aap]at A4;obtain⟨z,An,rfl⟩:=A4;obtain⟨BO,Ao,rfl⟩:=aap.1 A3;rw[aeV,An]at Ao;cases Ao;exact AB.au z (xM B2 z (by simpa using Array.mem_of_getElem? An))
    have AR:(dF S args.toList).length=(args.map a.eval).size:=by rw[kz];simp
    have Ap:∀(l r:List AV)(AS AT:Array Value),l.length=AS.size->r.length=AT.size->(∀(i:Nat) y v,l[i]?=some y->AS[i]?=some v->aG φ w (Fo G φ S.mem) y v)->(∀(i:Nat) y v,r[i]?=some y->AT[i]?=some v->aG φ w (Fo G φ S.mem) y v)->
     ∀(i:Nat) y v,(l++r)[i]?=some y->(AS++AT)[i]?=some v->aG φ w (Fo G φ S.mem) y v:=by
     intro l r AS AT M V AC BC i y v A3 A4;by_cases hi:i<l.length
     .rw[aaC hi]at A3;rw[afK (by omega)]at A4;exact AC i y v A3 A4
     .rw[aaJ (by omega)]at A3;rw[Array.getElem?_append_right (by omega),<-M]at A4;exact BC _ y v A3 A4
    cases AW with
    |fn _ _ AX AQ AH AY=>
     have AE:g0=g:=by rw[<-Ac,aeK AQ]
     subst AE;refine⟨args.map a.eval++AX,by simp[execOp,AA,resolve,Ak,Deferred.ofValue,invoke,wS Ai],?_,?_⟩
     .rw[Nt AQ,aal,AR,AH,Array.size_append]
     .rw[Nt AQ];exact Ap _ _ _ _ AR AH Al AY
    |uZ f _ AX AH AY=>
     have AE:f=g:=by rw[<-Ac,aeL]
     subst AE;refine⟨AX++args.map a.eval,by simp[execOp,AA,resolve,Ak,Deferred.ofValue,invoke,wS Ai],?_,?_⟩
     .rw[Nu,aal,AR,AH,Array.size_append]
     .rw[Nu];exact Ap _ _ _ _ AH AR AY Al
   obtain⟨vs,BD,BE,BF⟩:=BB
   .unfold Oper.wp;rw[BD];have BG:(jk (mt.contains 1000) S.mem ρ B (jF g0 (dF S args.toList) E)).length=vs.size:=by
     rw[uR];exact BE
    have BH:∀(i:Nat) x v,(jk (mt.contains 1000) S.mem ρ B (jF g0 (dF S args.toList) E))[i]?=some x->vs[i]?=some v->aG (φ.jx ρ jj) w (Fo (mZ φ G S.mem ρ B) (φ.jx ρ jj) (dX 0 (fh S.mem ρ (λk=>B.contains k) jj 0 ρ))) x v:=by
     intro i x v A0 A4;rw[Bc]at A0;obtain⟨y,A3,rfl⟩:=aap.1 A0;exact (v2 y v (BF i y v A3 A4)).Ff
    have BI:fG w (Fo (mZ φ G S.mem ρ B) (φ.jx ρ jj) (dX 0 (fh S.mem ρ (λk=>B.contains k) jj 0 ρ))) X.gl:=by
     rw[<-B3];exact AB.mh.mono (λ_ _ _=>rfl) (aak _) (λb _=>v3 b)
    refine (Aj (φ.jx ρ jj) (mZ φ G S.mem ρ B) w _ v1 BI BG BH).mono ?_;rintro e w' ⟨BP,BQ,AM,⟨rfl,rfl⟩,BJ,A1,A2⟩;have AZ:B=[]\/(C9 AM=true/\pO N=true):=BA.imp (by simp) id;obtain⟨φ',AF,U,Aq⟩:=Ki (B:=B) AB.mem Ae Af (fr:=List.range' (A7+1) (N.length-ρ.length)) List.nodup_range' (Gf B9) BJ A1 (by simp;omega) (AZ.imp id λAI=>Be AI.2);have Ar:=AB.Ct AF U;cases AM with
    |ret x=>
     cases e with
     |returned v=>exact B4 _ rfl φ' w' v Ar U (Aq x v (AZ.imp id λAI=>AI.1) A2)
     |_=>exact A2.elim
    |panic t x=>
     cases e with
     |panicked chain=>
      obtain⟨v,rfl,A0⟩:=A2;have:=Aq (.d x) v (AZ.imp id λAI=>AI.1) (.d _ _ A0);cases this with
      |d _ _ BK=>exact B5 t x rfl φ' w' v Ar U BK
     |_=>exact A2.elim
  .cases h
 .cases h
end Go.Am
end
