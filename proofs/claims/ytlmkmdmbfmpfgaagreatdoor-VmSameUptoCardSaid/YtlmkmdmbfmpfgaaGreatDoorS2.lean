/-
  Texts of one proof, one behind the other.
-/
import Derived.Test.YtlmkmdmbfmpfgaaGreatDoorS1
import Derived.Orders
set_option linter.all false
section
namespace Go.Am
open Go
set_option maxRecDepth 20000
set_option maxHeartbeats 4000000
def kY(S:St):List Operand->Bool
 |[]=>true
 |x::r=>(S.aw x).1&&kY S r
def zE{S:St}:∀{l:List Operand},kY S l=true->∀x∈l,(S.aw x).1=true
 |[],_,x,M=>by grind
 |y::r,h,x,M=>by
  simp[kY]at h;rcases ac4.1 M with rfl|M
  .grind
  .exact zE h.2 x M
def jC(S:St)(o:Oper):Bool:=
 match o.op with
 | .pick _ _ _=>true
 |op=>kY S op.operands.toList
def xB(P:Program)(m:Mem)(A9:Nat)(t:TypeId)(x:AV):ep:=
 match x with
 | .lit (.slice none 0 0)=>match Mem.get m A9 with
  |some ⟨_,v,_⟩=>match tk P t with
   | .slice e=>match gT P e with
    |some sz=>.dU true (.vec A9 (v+1) 0 0) ⟨A9,v+1,.vec sz []⟩
    |none=>.val true x
   |_=>.val true x
  |none=>.val true x
 |x=>.val true x
def Ox(P:Program)(S:St)(o:Oper)(x:Operand)(H:o.op=.move x\/o.op=.assign x)(M:(S.aw x).1=true):aN P S o (xB P S.mem (keyOf o) o.type (S.aw x).2):=by
 have plain:aN P S o (.val true (S.aw x).2):=by
  have:=aeB P S o x H M;grind
 unfold xB;split
 .rename_i A5;split
  .rename_i key v cont A2;split
   .split
    .rename_i sz A7;intro _ φ G a w J;obtain⟨hm,A',L,A4,AA,Ab⟩:=J.mem.get A2;subst A';have A6:=J.aw x M;rw[A5]at A6;generalize Ay:a.eval x=u at A6;cases A6;obtain⟨φ',AT,AU,AW,AN⟩:=J.mem.dU (e':=⟨keyOf o,v+1,.vec sz []⟩) hm A4 rfl (L':=⟨v+1,0,sz,0,0,[]⟩) (by grind) (λhh=>by grind) rfl
      (w':=w) (λ_ _ _=>rfl) (aar _) (λ_ H=>absurd H.1 (by simp)) rfl rfl rfl (λφ' Az BS=>
       ⟨rfl,by simp,by simp,λT=>by grind⟩)
     refine⟨.slice none 0 0,w,φ',.inl ?_,?_,AT,AU,AN⟩
     .rcases H with H|H<;>simp[execOp,H,Ay]
     .exact .vec _ (v+1) 0 _ _ _ AW (aar _) (λ_=>⟨_,_,rfl,by simp,λh=>by omega⟩) rfl
    grind
   grind
  grind
 grind
def Ec:Value->Bool
 | .slice none 0 0=>true
 | .pointer none=>true
 | .nilIface=>true
 |_=>false
def vT(P:Program)(S:St)(op:BinOp)(t:TypeId)(x y:Operand):ep:=
 match y with
 | .const v=>match Ec v,op with
  |true,.eql=>mH P S.mem false t (S.aw x).2 v
  |true,.neq=>mH P S.mem true t (S.aw x).2 v
  |_,_=>uD P op t (S.aw x).2 (S.aw (.const v)).2
 |y=>uD P op t (S.aw x).2 (S.aw y).2
def W5(P:Program)(S:St)(o:Oper)(B':BinOp)(t AO:TypeId)(x y:Operand)(H:o.op=.binOp B' t x y AO)(M:(S.aw x).1=true)(AB:(S.aw y).1=true):aN P S o (vT P S B' t x y):=by
 unfold vT;split
 .split
  .exact Sy P S o false t AO x _ (by grind) M
  .exact Sy P S o true t AO x _ (by grind) M
  .exact Sx P S o _ t AO x _ H M AB
 .exact Sx P S o B' t AO x y H M AB
def Oy{w:World}{F F':Nat->Prop}{sz:Nat}{AH:List D}{cs:List Value}{b off cap:Nat}(J:dg w F sz AH cs)(T:∀(j:Nat) v,cs[j]?=some v->w.cell? ⟨b,off+j,none⟩=some v)
 (AI:b<w.heap.size) (Ac:∀b,F' b->F b) (B0:¬F' b) (BG:AH.length<=cap):aR w F' (.list AH) (.slice (some ⟨b,off,none⟩) AH.length cap):=by
 obtain⟨I,O,A0,AP⟩:=J;refine .list AH b off cap sz (λi=>if h:i<AH.length then Classical.choose (AP i AH[i] (by simp))else undef) BG AI B0 A0 (λi d V=>?_) (λi j c hi AX=>?_)
 .have hi:=(aap.1 V).1;have:=apN (AP i AH[i] (by grind));simp[hi];have e:AH[i]=d:=(aap.1 V).2;rw[<-e];exact this.1.mono (λ_ _ _=>rfl) (aar _) (λb _=>Ac b)
 grind
def Hm{φ w F F'}{k au off len sz:Nat}{aq:List D}{L:Loc}{v:Value}(A6:aG φ w F (.vec k au off len) v)(A4:φ k=some L)(AA:L.au=au)(T:fB φ w F L (.vec sz aq))(hle:off+len<=aq.length)
 (Ac:∀b,F' b->F b) (B0:0<L.cap->¬F' L.eJ):aR w F' (.list ((aq.drop off).take len)) v:=by
 have BT:((aq.drop off).take len).length=len:=by grind
 cases A6 with
 |vec _ _ _ _ _ L' Ad _ h _=>
  rw[A4]at Ad;cases Ad;obtain⟨ao,cap,rfl,BH,B1⟩:=h AA.symm;by_cases BU:len=0
  .subst BU;exact .nil _ _ (λZ=>by
    grind)
  .obtain⟨arr,elem,hh,BI,BJ,J⟩:=ru T (by omega);have B2:=(J.drop off).take len (by grind);have:=Oy (F':=F') (b:=L.eJ) (off:=L.base+off*L.sz) (cap:=cap) B2 (λj u AX=>by
    rw[jI hh,T.1];grind) hh.lt Ac (B0 (by omega)) (by omega)
   grind
def Mem.set_set{e e':dn}(A':e'.key=e.key):∀m:Mem,Mem.set (Mem.set m e) e'=Mem.set m e'
 |[]=>rfl
 |x::r=>by
  simp[Mem.set];by_cases h:x.key=e.key
  .rw[ac1 h,ac1 (by grind)];simp[Mem.set];grind
  .rw[aaf h,aaf (by grind)];simp[Mem.set];rw[aaf (by grind),Mem.set_set A' r]
def ahc{φ:cC}{G m w}(h:bK φ G m w){k v sz n:Nat}{aq:List D}(A2:Mem.get m k=some ⟨k,v,.vec sz aq⟩){x:Value}(M:aG φ w (Fo G φ m) (.vec k v 0 n) x)(Z:n<=aq.length):
 ∃φ',bK φ' G (Mem.set m ⟨k,v+1,.dead⟩) w/\bn φ m w φ' (Mem.set m ⟨k,v+1,.dead⟩) w/\(∀j,j≠k->φ' j=φ j)/\aR w (Fo G φ' (Mem.set m ⟨k,v+1,.dead⟩)) (.list (aq.take n)) x:=by
 obtain⟨hm,_,L,A4,AA,Ab⟩:=h.get A2;obtain⟨φ',AT,AU,AW,AN⟩:=h.dU (e:=⟨k,v,.vec sz aq⟩) (e':=⟨k,v+1,.dead⟩) hm A4 rfl (L':={L with au:=v+1}) (by grind) (λhh=>by grind) rfl
  (w':=w) (λ_ _ _=>rfl) (aar _) (λ_ H=>H.elim) rfl rfl rfl (λ_ _ _=>trivial)
 have BV:∀b,kV φ' (Mem.set m ⟨k,v+1,.dead⟩) b->kV φ m b/\∀(_:0<L.cap),b≠L.eJ:=by
  rintro b ⟨y,AB,Ai,AC,AY⟩;rcases (Mem.mem_set h.nodup).1 AB with ⟨rfl,_⟩|⟨Aj,AJ⟩
  .exact AY.elim
  .simp only at AJ;rw[AN _ AJ]at AC;refine⟨⟨y,Aj,Ai,AC,AY⟩,λT heq=>AJ (h.apart y Aj _ hm Ai L AC A4 ⟨b,AY,T,heq.symm⟩)⟩
 have:=Hm M A4 AA Ab (by omega) (F':=Fo G φ' (Mem.set m ⟨k,v+1,.dead⟩)) (λb=>Or.imp id (λAI=>(BV b AI).1)) (λT=>by
  rintro (B3|H)
  .exact h.nJ _ ⟨_,hm,L,A4,T,rfl⟩ B3
  grind)
 grind
def zF(m:Mem)(b:Bool)(A9:Nat):ep->ep
 | .dU c (.vec k v 0 n) ⟨AD,AZ,.vec sz aq⟩=>if b=true/\k≠A9/\AD=k/\AZ=v/\n<=aq.length/\(Mem.get m k).isSome=true then .dU c (.d (.list (aq.take n))) ⟨k,v+1,.dead⟩else .dU c (.vec k v 0 n) ⟨AD,AZ,.vec sz aq⟩
 |r=>r
def aaH{P:Program}{S:St}{o:Oper}{b:Bool}{A9:Nat}{r:ep}(h:aN P S o r):aN P S o (zF S.mem b A9 r):=by
 unfold zF;split
 .rename_i c k v n AD AZ sz aq;split
  .rename_i hh;obtain⟨_,_,rfl,rfl,Z,A7⟩:=hh;intro T φ G a w J;obtain⟨x,w',φ',I,O,A0,AP,BK⟩:=h T φ G a w J;have B4:AD∈S.mem.map (·.key):=by
    cases A2:Mem.get S.mem AD with
    |none=>grind
    |some e=>
     obtain⟨BW,C1⟩:=Mem.get_mem A2;grind
   obtain⟨B5,q1,q2,q3,BL⟩:=ahc A0 (Mem.sV (x:=⟨AD,AZ,.vec sz aq⟩) B4) O Z;rw[Mem.set_set (e:=⟨AD,AZ,.vec sz aq⟩) (e':=⟨AD,AZ+1,.dead⟩) rfl]at q1 q2 BL;exact⟨x,w',B5,I,.d _ _ BL,q1,AP.trans q2,λj AX=>by grind⟩
  grind
 grind
def UT(P:Program)(t:TypeId):AV->ep
 | .lit (.slice none 0 0)=>match tk P t with
  | .slice _=>.val True (.d (.int .i64 0))
  |_=>.no
 |_=>.no
def ahd(P:Program)(S:St)(o:Oper)(x:Operand)(t:TypeId)(H:o.op=.call {callee:=.builtin .cap,args:=#[x],argTypes:=#[t]})(M:(S.aw x).1=true):aN P S o (UT P t (S.aw x).2):=by
 have B6:∀(a:Act)(w:World)(v:Value),(Builtin.cap_ #[t] o.type #[a.eval x]).run P w=.ok v w->(execOp a.eval o).run P w=.ok (.value v) w:=by
  intro a w v h;simp[execOp,H,resolve,invoke,builtin,h]
 unfold UT;split
 .rename_i A5;split
  .rename_i e BX;refine aN.pure λ_ φ G a w J=>?_;have I:=J.aw x M;rw[A5]at I;generalize A3:a.eval x=av at I;cases I with|lit _ h=>
   refine⟨_,B6 a w (.int .i64 0) ?_,.d _ _ (.int _ _)⟩;rw[A3];simp[Builtin.cap_,run_underlying (iO BX),goInt]
  .trivial
 .trivial
def oE(P:Program)(S:St)(o:Oper)(b:Builtin)(args:List Operand)(ts:List TypeId):ep:=
 match b,args,ts with
 | .len,[x],[t]=>r5 P S.mem t (S.aw x).2
 | .append,[s,x],[t,u]=>zF S.mem (Mem.get S.mem (keyOf o)).isSome (keyOf o) (wR P S.mem (keyOf o) t u (S.aw s).2 (S.aw x).2)
 | .copy,[s,x],[t,_]=>Cm P S.mem t (S.aw s).2 (S.aw x).2
 | .max,args,_=>Ku true (args.map λx=>(S.aw x).2)
 | .min,args,_=>Ku false (args.map λx=>(S.aw x).2)
 | .cap,[x],[t]=>UT P t (S.aw x).2
 |_,_,_=>.no
def zeroOf:TK->Option D
 | .int k=>some (.int k 0)
 | .bool=>some (.bool false)
 |_=>none
def RO{t:TK}{z:D}(h:zeroOf t=some z):z.size=1/\∀(w:World)(F:Nat->Prop),∃v,aR w F z v/\v.cells=#[v]/\∀u,aR w F z u->u=v:=by
 cases t with
 |int k=>cases h;exact⟨rfl,λw F=>⟨_,.int k 0,rfl,λu hu=>by cases hu;rfl⟩⟩
 |bool=>cases h;exact⟨rfl,λw F=>⟨_,.bool false,rfl,λu hu=>by cases hu;rfl⟩⟩
 |_=>cases h
def W6:D->AV->Bool
 | .int k n,.d (.int AD BY)=>k == AD&&n == BY
 | .bool b,.d (.bool BZ)=>b == BZ
 |_,_=>false
def ahe{z:D}{c:AV}(h:W6 z c=true):c=.d z:=by
 unfold W6 at h;split at h<;>simp_all
def Oz(m:Mem)(k n:Nat)(z:D)(zs:List AV):ep:=
 match Mem.get m k with
 |some ⟨_,v,_⟩=>.dU (zs.length=n/\zs.all (W6 z)=true) (.dD k (v+1) 0 0) ⟨k,v+1,.vec 1 (List.replicate n z)⟩
 |none=>.no
def yy(P:Program)(m:Mem)(k:Nat)(t:TypeId):ep:=
 match vi P t with
 |some zs=>match tk P t with
  | .arr n e=>match zeroOf (tk P e)with
   |some z=>Oz m k n z zs
   |none=>wP m k true zs
  |_=>wP m k true zs
 |none=>.no
def ahf(P:Program)(S:St)(o:Oper)(t:TypeId)(H:o.op=.alloc t)(n:Nat)(Ak:D)(BM:TK)(Al:zeroOf BM=some Ak)(zs:List AV)(Ae:vi P t=some zs):aN P S o (Oz S.mem (keyOf o) n Ak zs):=by
 obtain⟨C2,BN⟩:=RO Al;unfold Oz;split
 .rename_i key v cont A2;refine aN.wO ?_;rintro ⟨Z,B_⟩ φ G a w J;obtain⟨z,B6,C3,I,B7⟩:=su Ae w;obtain⟨hm,A',L,A4,AA,Ab⟩:=J.mem.get A2;subst A';have Ba:∀(w:World)(F:Nat->Prop)(i:Nat) u,z.cells[i]?=some u->aR w F Ak u:=by
   intro w' F i u hu;have hi:i<zs.length:=by
    grind
   have A0:=B7 φ w (λ_=>False) i zs[i] u (by grind) hu;rw[ahe (adp.1 B_ _ (ag9 hi))]at A0;cases A0 with
   |d _ _ AP=>
    cases BM with
    |int k=>cases Al;cases AP;exact .int k 0
    |bool=>cases Al;cases AP;exact .bool false
    |_=>cases Al
  obtain⟨φ',AT,AU,AW,AN⟩:=J.mem.fresh (e:=⟨keyOf o,v,cont⟩) hm A4 AA w rfl rfl rfl rfl z.cells t 1 n (.vec 1 (List.replicate n Ak)) (λ_ AI=>AI.2) (λφ' hle A3 C4 B8=>by
   refine⟨rfl,by simp,λd V=>by grind,λ_=>⟨z.cells,t,gL.new B8,by grind,I,λi d V=>?_⟩⟩;obtain⟨hi,rfl⟩:=aap.1 V;simp at hi;have BK:=λw F=>Ba w F i z.cells[i] (by grind);have BW:=(BK w (λ_=>False)).size;refine⟨z.cells[i],by grind,λj c AX=>?_⟩;rw[fA (I _ (by simp))]at AX;grind)
  refine⟨.pointer (some ⟨w.heap.size,0,none⟩),_,φ',.inl ?_,?_,AT,AU,AN⟩
  .simp[execOp,H,Instr.alloc,newVar,kE,B6]
  .exact .dD _ (v+1) 0 0 _ _ AW (aar _) (λ_=>by simp) rfl
 .trivial
def W7(P:Program)(S:St)(o:Oper)(t:TypeId)(H:o.op=.alloc t):aN P S o (yy P S.mem (keyOf o) t):=by
 unfold yy;split
 .rename_i zs Ae;split
  .split
   .rename_i BN;exact ahf P S o t H _ _ _ BN zs Ae
   .exact N5 P S o t H zs Ae
  .exact N5 P S o t H zs Ae
 .trivial
def xC(P:Program)(m:Mem)(A9:Nat)(src dst:TypeId)(x:AV):ep:=
 match x with
 | .vec k au off len=>match tk P dst with
  | .slice e=>match decide (src=dst),tk P e,Mem.get m k with
   |true,.int .u8,some ⟨_,v,.vec sz aq⟩=>.dU (decide (v=au/\0<len)) (.vec k au off len) ⟨k,au,.vec sz aq⟩
   |_,_,_=>.no
  |_=>pK P m A9 src dst (.vec k au off len)
 |x=>pK P m A9 src dst x
def aaI(P:Program)(S:St)(o:Oper)(src dst:TypeId)(x:Operand)(H:o.op=.convert src dst x)(M:(S.aw x).1=true):aN P S o (xC P S.mem (keyOf o) src dst (S.aw x).2):=by
 unfold xC;split
 .rename_i k au off len A5;split
  .rename_i e V;split
   .rename_i key v sz aq B9 Bb A2;refine aN.wO ?_;rintro ⟨rfl,BT⟩ φ G a w J;have B9:src=dst:=adI B9;subst B9;obtain⟨hm,A',L,A4,AA,Ab⟩:=J.mem.get A2;subst A';have A6:=J.aw x M;rw[A5]at A6;have Bc:=A6;generalize Ay:a.eval x=C5 at A6 Bc;cases A6 with
    |vec _ _ _ _ _ L' Ad _ h Bd=>
     rw[A4]at Ad;cases Ad;obtain⟨ao,cap,rfl,BH,B1⟩:=h AA.symm;obtain⟨rfl,BG⟩:=B1 (by omega);have BA:0<L.cap:=by omega
     obtain⟨Be,Bf,Bg,Bh⟩:=Ab;obtain⟨arr,elem,⟨fr,hh,C6⟩,BI,BJ,B7⟩:=Bh BA;obtain⟨w',AQ⟩:∃w',w'=w.freeze ⟨L.eJ,arr.size,none⟩ 1:=⟨_,rfl⟩;have B8:gL w' L.eJ arr elem:=by
      obtain⟨lo,hi⟩:=fr;rw[AQ];by_cases he:lo=hi
      .refine⟨(arr.size,arr.size+1),?_,.inr (aar _)⟩;simp[World.freeze,alS,hh,he]
      .refine⟨(min lo arr.size,max hi (arr.size+1)),?_,?_⟩
       .simp[World.freeze,alS,hh,he]
       grind
     have hold:∀b,b≠L.eJ->w'.heap[b]?=w.heap[b]?:=by
      rw[AQ];simp[World.freeze];grind
     have C7:w'.heap.size=w.heap.size:=by rw[AQ];simp[World.freeze]
     have BB:w'.os=w.os:=by rw[AQ];simp[World.freeze]
     have Bi:w'.tape=w.tape:=by rw[AQ];simp[World.freeze]
     have Bj:w'.output=w.output:=by rw[AQ];simp[World.freeze]
     have B4:Fo G φ S.mem L.eJ:=.inr ⟨_,hm,L,A4,BA,rfl⟩;obtain⟨φ',AT,AU,AW,AN⟩:=J.mem.dU (e:=⟨key,v,.vec sz aq⟩) (e':=⟨key,v,.vec sz aq⟩) hm A4 rfl (L':=L) (aar _) (λ_=>rfl) AA
      (w':=w') (λb _ Z=>hold b (λhe=>Z ⟨BA,he.symm⟩)) (by omega) (λ_ H=>.inl H) BB Bi Bj (λφ' Az BS=>by
       have Ac:∀b,Fo G φ' (Mem.set S.mem ⟨key,v,.vec sz aq⟩) b->Fo G φ S.mem b:=by
        rintro b (B3|⟨y,AB,Ai,AC,AY⟩)
        .exact .inl B3
        .right;rcases (Mem.mem_set J.mem.nodup).1 AB with ⟨rfl,_⟩|⟨Aj,AJ⟩
         .rw[Az]at AC;simp at AC;subst AC;exact⟨_,hm,L,A4,AY⟩
         .rw[Az]at AC;simp[AJ]at AC;exact⟨y,Aj,Ai,AC,AY⟩
       exact⟨Be,Bf,Bg,λ_=>⟨arr,elem,B8,BI,BJ,λi d V=>let ⟨u,hu,AX⟩:=B7 i d V
        ⟨u,hu.mono (λb _ Z=>hold b (λhe=>Z (he▸B4))) (by omega) (λb _=>Ac b),AX⟩⟩⟩)
     refine⟨.slice (some ⟨L.eJ,L.base+off*L.sz,none⟩) len cap,w',φ',.inl ?_,.vec key v off len _ L AW (Nat.le_of_eq AA.symm) (λ_=>⟨_,_,rfl,BH,B1⟩) Bd,AT,AU,AN⟩;have Bl:w.shape? L.eJ=some (elem,arr.size):=by simp[World.shape?,hh]
     have Bm:(markStringish ⟨L.eJ,L.base+off*L.sz,none⟩).run P w=.ok () w':=by
      simp[markStringish,Sem.run,Bl,AQ]
     simp[execOp,H,Ay,convert,run_underlying (iO V),run_underlying (Bk Bb),Bm]
   .trivial
  .rw[<-A5];exact Sz P S o src dst x H M
 .exact Sz P S o src dst x H M
def OB(P:Program)(s:TypeId)(f:Nat):Option TypeId:=
 match P.underlying s with
 |some (.struct fs)=>match fs[f]? with
  |some fl=>some fl.type
  |none=>none
 |_=>none
def Bn(P:Program)(s:TypeId)(x:AV)(f:Nat):ep:=
 match x with
 | .d (.agg cs)=>match Ce P s f,OB P s f with
  |some off,some e=>match (tk P e).agg,gT P e with
   |false,some 1=>.val (off<cs.length/\tk P e≠.other) (.d (D.at cs off))
   |true,some sz=>.val (off+sz<=cs.length) (.d (.agg ((cs.drop off).take sz)))
   |_,_=>.no
  |_,_=>.no
 | .agg cs=>match Ce P s f,OB P s f with
  |some off,some e=>match (tk P e).agg,gT P e,cs[off]? with
   |false,some 1,some c=>.val (tk P e≠.other) c
   |_,_,_=>.no
  |_,_=>.no
 |_=>.no
def LH{P:Program}{s:TypeId}{f off:Nat}{e:TypeId}(h:Ce P s f=some off)(he:OB P s f=some e):∃fs fl,P.underlying s=some (.struct fs)/\fs[f]?=some fl/\fl.offset=off/\fl.type=e:=by
 unfold Ce at h;unfold OB at he;grind
def W9(P:Program)(S:St)(o:Oper)(s:TypeId)(x:Operand)(f:Nat)(H:o.op=.field s x f)(M:(S.aw x).1=true):aN P S o (Bn P s (S.aw x).2 f):=by
 unfold Bn;split
 .rename_i cs A5;split
  .rename_i off e BC BD;obtain⟨fs,fl,An,Ao,rfl,rfl⟩:=LH BC BD;split
   .rename_i Af A7;refine aN.pure ?_;rintro ⟨C8,AJ⟩ φ G a w J;have I:=J.aw x M;rw[A5]at I;generalize A3:a.eval x=av at I;cases I with|d _ _ I=>
    cases I with|agg _ AE BO Bo Ap=>
    refine⟨AE[fl.offset],?_,.d _ _ (Ap fl.offset _ _ (mL (by omega)) (by grind))⟩;have Y:=yu (P:=P) (w:=w) (t:=fl.type) (cs:=AE) (off:=fl.offset) Af AJ (v:=AE[fl.offset]) (by grind);simp[execOp,H,A3,Instr.field,run_underlying An,Ao,asAgg,Y]
   .rename_i sz Af A7;refine aN.pure ?_;rintro hle φ G a w J;have I:=J.aw x M;rw[A5]at I;generalize A3:a.eval x=av at I;cases I with|d _ _ I=>
    have Bp:=I;cases I with|agg _ AE BO Bo Ap=>
    refine⟨_,?_,.d _ _ (DB Bp fl.offset sz hle)⟩;have Y:=LD (P:=P) (w:=w) (t:=fl.type) (cs:=AE) (off:=fl.offset) Af A7;simp[execOp,H,A3,Instr.field,run_underlying An,Ao,asAgg,Y]
   .trivial
  .trivial
 .rename_i cs A5;split
  .rename_i off e BC BD;obtain⟨fs,fl,An,Ao,rfl,rfl⟩:=LH BC BD;split
   .rename_i c Af A7 T;refine aN.pure ?_;rintro AJ φ G a w J;have I:=J.aw x M;rw[A5]at I;generalize A3:a.eval x=av at I;cases I with|agg _ AE BO C9 Ap=>
    have CA:fl.offset<AE.size:=by grind
    refine⟨AE[fl.offset],?_,Ap fl.offset c _ T (by grind)⟩;have Y:=yu (P:=P) (w:=w) (t:=fl.type) (cs:=AE) (off:=fl.offset) Af AJ (v:=AE[fl.offset]) (by grind);simp[execOp,H,A3,Instr.field,run_underlying An,Ao,asAgg,Y]
   .trivial
  .trivial
 .trivial
def FE(P:Program)(x:AV)(asserted:TypeId)(ok:Bool):ep:=
 match x with
 | .jG t d=>match decide (t=asserted),ok with
  |true,true=>.val (tk P asserted≠.other/\tk P asserted≠.iface) (.bq [.d d,.d (.bool true)])
  |true,false=>.val (tk P asserted≠.other/\tk P asserted≠.iface) (.d d)
  |_,_=>.no
 |_=>.no
def ahh{P:Program}{t:TypeId}(h:tk P t≠.other)(O:tk P t≠.iface):∃d,P.underlying t=some d/\∀ms,d≠.interface ms:=by
 unfold tk at h O;grind
def IF{P:Program}{w:World}{t Bq asserted:TypeId}{v:Value}{ok:Bool}(h:tk P asserted≠.other)(O:tk P asserted≠.iface)(AF:t=asserted):
 (Instr.typeAssert (.iface t v) Bq asserted ok).run P w=.ok (if ok then .tuple #[v,.bool true]else v) w:=by
 obtain⟨d,V,Z⟩:=ahh h O;simp[Instr.typeAssert,run_underlying V];simp_all
def Xa(P:Program)(S:St)(o:Oper)(x:Operand)(BE asserted:TypeId)(ok:Bool)(H:o.op=.typeAssert x BE asserted ok)(M:(S.aw x).1=true):aN P S o (FE P (S.aw x).2 asserted ok):=by
 unfold FE;split
 .rename_i t d A5;split
  .have AF:t=asserted:=by grind
   refine aN.pure ?_;rintro ⟨I,O⟩ φ G a w J;have AK:=J.aw x M;rw[A5]at AK;generalize A3:a.eval x=av at AK;cases AK with|jG _ _ v V=>
   refine⟨.tuple #[v,.bool true],by simp[execOp,H,A3,IF I O AF],.bq _ _ rfl λi c u T hu=>?_⟩;match i,T,hu with
   |0,T,hu=>simp at T hu;subst T hu;exact .d _ _ V
   |1,T,hu=>simp at T hu;subst T hu;exact .d _ _ (.bool _)
   |i+2,T,hu=>grind
  .have AF:t=asserted:=by grind
   refine aN.pure ?_;rintro ⟨I,O⟩ φ G a w J;have AK:=J.aw x M;rw[A5]at AK;generalize A3:a.eval x=av at AK;cases AK with|jG _ _ v V=>
   exact⟨v,by simp[execOp,H,A3,IF I O AF],.d _ _ V⟩
  .trivial
 .trivial
def ee(P:Program)(S:St)(o:Oper):ep:=
 match o.op with
 | .move x=>xB P S.mem (keyOf o) o.type (S.aw x).2
 | .assign x=>xB P S.mem (keyOf o) o.type (S.aw x).2
 | .pick c a b=>Nx (S.aw c) (S.aw a) (S.aw b)
 | .alloc t=>yy P S.mem (keyOf o) t
 | .box _ x=>wP S.mem (keyOf o) (S.aw x).2.oC (S.aw x).2.cells
 | .load t x=>pG P S.mem t (S.aw x).2
 | .store t p x=>sY P S.mem t (S.aw p).2 (S.aw x).2
 | .fieldAddr s x f=>sy P S.mem s f (S.aw x).2
 | .nilCheck x=>lN S.mem (S.aw x).2
 | .indexAddr t x i=>pV P S.mem t (S.aw x).2 (S.aw i).2
 | .index t x i=>uE P t (S.aw x).2 (S.aw i).2
 | .slice t x lo hi none=>nQ P S.mem t (S.aw x).2 (lo.map λy=>(S.aw y).2) (hi.map λy=>(S.aw y).2)
 | .binOp op t x y _=>vT P S op t x y
 | .unOp op _ x=>On op (S.aw x).2
 | .convert s d x=>xC P S.mem (keyOf o) s d (S.aw x).2
 | .makeInterface t x=>xA P t (S.aw x).2
 | .makeFunc f first cap=>sB f (first.toList.map λx=>(S.aw x).2) (cap.toList.map λx=>(S.aw x).2)
 | .makeSlice t l c=>Ck P S.mem (keyOf o) t (S.aw l).2 (S.aw c).2
 | .build t ps=>IB P t (ps.toList.map λx=>(x.1,(S.aw x.2).2))
 | .buildSlice t len ps=>nk P S.mem (keyOf o) t len (ps.toList.map λx=>(x.1,(S.aw x.2).2))
 | .extract x i=>yx i (S.aw x).2
 | .field s x f=>Bn P s (S.aw x).2 f
 | .typeAssert x _ t ok=>FE P (S.aw x).2 t ok
 | .call {callee:=.builtin b,args,argTypes}=>oE P S o b args.toList argTypes.toList
 |_=>.no
def OC(P:Program)(S:St)(o:Oper)(h:jC S o=true):aN P S o (ee P S o):=by
 unfold jC at h;unfold ee;have one:∀{l:List Operand},kY S l=true->∀x∈l,(S.aw x).1=true:=zE;split
 .rename_i x H;simp only[H]at h;exact Ox P S o x (.inl H) (one h x (by simp[Op.operands]))
 .rename_i x H;simp only[H]at h;exact Ox P S o x (.inr H) (one h x (by simp[Op.operands]))
 .rename_i c a b H;exact aeA P S o c a b H
 .rename_i t H;exact W7 P S o t H
 .rename_i t x H;simp only[H]at h;exact agR P S o t x H (one h x (by simp[Op.operands]))
 .rename_i t x H;simp only[H]at h;exact (Sp P S o t x H (one h x (by simp[Op.operands]))).res
 .rename_i t p x H;simp only[H]at h;exact aav P S o t p x H (one h p (by simp[Op.operands])) (one h x (by simp[Op.operands]))
 .rename_i s x f H;simp only[H]at h;exact aaC P S o s x f H (one h x (by simp[Op.operands]))
 .rename_i x H;simp only[H]at h;exact RH P S o x H (one h x (by simp[Op.operands]))
 .rename_i t x i H;simp only[H]at h;exact aaD P S o t x i H (one h x (by simp[Op.operands])) (one h i (by simp[Op.operands]))
 .rename_i t x i H;simp only[H]at h;exact WZ P S o t x i H (one h x (by simp[Op.operands])) (one h i (by simp[Op.operands]))
 .rename_i t x lo hi H;simp only[H]at h;exact aaF P S o t x lo hi H (one h x (by simp[Op.operands])) (λy AB=>one h y (by simp[Op.operands,AB])) (λy AB=>one h y (by simp[Op.operands,AB]))
 .rename_i op t x y AO H;simp only[H]at h;exact W5 P S o op t AO x y H (one h x (by simp[Op.operands])) (one h y (by simp[Op.operands]))
 .rename_i op t x H;simp only[H]at h;exact am5 P S o op t x H (one h x (by simp[Op.operands]))
 .rename_i s d x H;simp only[H]at h;exact aaI P S o s d x H (one h x (by simp[Op.operands]))
 .rename_i t x H;simp only[H]at h;exact Oo P S o t x H (one h x (by simp[Op.operands]))
 .rename_i f first cap H;simp only[H]at h;exact RJ P S o f first cap H (λx M=>one h x (by simp[Op.operands];left;simpa using M)) (λx M=>one h x (by simp[Op.operands];right;simpa using M))
 .rename_i t l c H;simp only[H]at h;exact aew P S o t l c H (one h l (by simp[Op.operands])) (one h c (by simp[Op.operands]))
 .rename_i t ps H;simp only[H]at h;exact aaG P S o t ps H (λx M=>one h x.2 (by simp only[Op.operands,List.toList_toArray,adk];exact⟨x,M,rfl⟩))
 .rename_i t len ps H;simp only[H]at h;exact Nn P S o t len ps H (λx M=>one h x.2 (by simp only[Op.operands,List.toList_toArray,adk];exact⟨x,M,rfl⟩))
 .rename_i x i H;simp only[H]at h;exact UR P S o x i H (one h x (by simp[Op.operands]))
 .rename_i s x f H;simp only[H]at h;exact W9 P S o s x f H (one h x (by simp[Op.operands]))
 .rename_i x BE t ok H;simp only[H]at h;exact Xa P S o x BE t ok H (one h x (by simp[Op.operands]))
 .rename_i b args ts H;simp only[H]at h;have AL:∀x∈args.toList,(S.aw x).1=true:=λx M=>one h x (by simp[Op.operands,Call.operands];simpa using M);have Aq:∀{l:List Operand},args.toList=l->args=l.toArray:=λh=>by rw[<-h]
  have Ar:∀{l:List TypeId},ts.toList=l->ts=l.toArray:=λh=>by rw[<-h]
  unfold oE;split
  .rename_i x t I O;rw[Aq I,Ar O]at H;exact ag8 P S o x t H (AL x (by simp[I]))
  .rename_i s x t u I O;rw[Aq I,Ar O]at H;exact aaH <| ag3 P S o s x t u H (AL s (by simp[I])) (AL x (by simp[I]))
  .rename_i s x t u I O;rw[Aq I,Ar O]at H;exact aex P S o s x t u H (AL s (by simp[I])) (AL x (by simp[I]))
  .exact W1 P S o true args ts (by simpa using H) AL
  .exact W1 P S o false args ts (by simpa using H) AL
  .rename_i x t I O;rw[Aq I,Ar O]at H;exact ahd P S o x t H (AL x (by simp[I]))
  .trivial
 .trivial
inductive XE where
 |normal
 |exit (id:Nat)
 |ret
 |panic (t:TypeId) (x:D)
def rf(n:Nat)(φ:cC)(G:Fr)(m:Mem)(w:World)(Q:XE->St->Prop):Exit->Act->World->Prop
 | .normal,U,w'=>∃φ' S',S'.n=n/\Q .normal S'/\Rel φ' G S' U w'/\bn φ m w φ' S'.mem w'
 | .exit id,U,w'=>∃φ' S',S'.n=n/\Q (.exit id) S'/\Rel φ' G S' U w'/\bn φ m w φ' S'.mem w'
 | .ret,U,w'=>∃φ' S',S'.n=n/\Q .ret S'/\Rel φ' G S' U w'/\bn φ m w φ' S'.mem w'
 | .panic chain,U,w'=>∃φ' S' t x v,chain=[{v:=.iface t v,recovered:=false}]/\aR w' (Fo G φ' S'.mem) x v/\S'.n=n/\Q (.panic t x) S'/\Rel φ' G S' U w'/\bn φ m w φ' S'.mem w'
 |_,_,_=>False
def rf.weaken{n φ G m w Q AR BP AM e U w'}(A':bn φ m w AR BP AM)(h:rf n AR G BP AM Q e U w'):rf n φ G m w Q e U w':=by
 cases e with
 |normal=>obtain⟨φ',S',A1,I,O,A0⟩:=h;exact⟨φ',S',A1,I,O,A'.trans A0⟩
 |exit id=>obtain⟨φ',S',A1,I,O,A0⟩:=h;exact⟨φ',S',A1,I,O,A'.trans A0⟩
 |ret=>obtain⟨φ',S',A1,I,O,A0⟩:=h;exact⟨φ',S',A1,I,O,A'.trans A0⟩
 |panic chain=>obtain⟨φ',S',t,x,v,T,V,A1,I,O,A0⟩:=h;exact⟨φ',S',t,x,v,T,V,A1,I,O,A'.trans A0⟩
 |_=>exact h.elim
def rf.mono{n φ G m w Q Ag e U w'}(A8:∀e S,Q e S->Ag e S)(h:rf n φ G m w Q e U w'):rf n φ G m w Ag e U w':=by
 cases e with
 |normal=>obtain⟨φ',S',A1,I,O⟩:=h;exact⟨φ',S',A1,A8 _ _ I,O⟩
 |exit id=>obtain⟨φ',S',A1,I,O⟩:=h;exact⟨φ',S',A1,A8 _ _ I,O⟩
 |ret=>obtain⟨φ',S',A1,I,O⟩:=h;exact⟨φ',S',A1,A8 _ _ I,O⟩
 |panic chain=>obtain⟨φ',S',t,x,v,T,V,A1,I,O⟩:=h;exact⟨φ',S',t,x,v,T,V,A1,A8 _ _ I,O⟩
 |_=>exact h.elim
def pZ(P:Program)(c:Code)(S:St)(Q:XE->St->Prop):Prop:=
 ∀φ G a w,Rel φ G S a w->c.wp P (rf S.n φ G S.mem w Q) a w
def s8(all:List Oper)(S:St)(j:Nat):Option (Bool×AV):=
 match all[j]? with
 |some o=>match o.dst with
  |some t=>Env.lk S.env t
  |none=>none
 |none=>none
def mY(n:Nat)(ops:List Oper):Bool:=ops.all λo=>match o.dst with|some t=>decide (t<n)|none=>true
def pL(S:St)(d g x):(S.put d g x).n=S.n:=by cases d<;>rfl
def ib(S:St)(d g x):(S.put d g x).mem=S.mem:=by cases d<;>rfl
def It.step{P:Program}{o:Oper}{a:Act}{w w':World}{v:Value}{next R}(h:It P o a w v w')(Z:next (a.put o.dst v) w'):o.wp P a w next R:=by
 unfold Oper.wp;rcases h with h|⟨h,rfl⟩<;>rw[h]<;>exact Z
def Rel.grow{φ G S a w w'}(h:Rel φ G S a w)(hold:∀b,b<w.heap.size->w'.heap[b]?=w.heap[b]?)(A7:w.heap.size<=w'.heap.size):Rel φ G S a w':=
 ⟨h.size,h.defers,λt x M=>(h.env t x M).mono (cC.le_refl _) (λb AI _=>hold b AI) A7 (λ_ _ h=>h),h.mem.grow hold A7,h.nK.mono (λb AI _=>hold b AI) A7 (λ_ _ h=>h)⟩
def aaJ{P:Program}{S:St}{o:Oper}{c:Bool}{x:AV}{gb:Bool}(J:aN P S o (.val c x))(T:c=true){φ G a w}(h:Rel φ G S a w)(V:∀t,o.dst=some t->t<S.n){next:Act->World->Prop}{R}
 (Z:∀U w',Rel φ G (S.put o.dst gb x) U w'->bn φ S.mem w φ S.mem w'->next U w'):o.wp P a w next R:=by
 obtain⟨v,w',BF,A3,hold,A7,BB,AF,Br⟩:=J T φ G a w h;exact BF.step (Z _ _ ((h.grow hold A7).put o.dst V gb x v (λ_=>A3)) (bn.grow hold A7 BB AF Br))
def aaK{P:Program}{S:St}{o:Oper}{c:Bool}{x:AV}{e:dn}(J:aN P S o (.dU c x e))(T:c=true){φ G a w}(h:Rel φ G S a w)(V:∀t,o.dst=some t->t<S.n){next:Act->World->Prop}{R}
 (Z:∀φ' U w',Rel φ' G (({S with mem:=Mem.set S.mem e}:St).put o.dst true x) U w'->bn φ S.mem w φ' (Mem.set S.mem e) w'->next U w'):o.wp P a w next R:=by
 obtain⟨v,w',φ',BF,A3,hm,A',_⟩:=J T φ G a w h;exact BF.step (Z φ' _ _ ((h.DW hm A').put o.dst V true x v (λ_=>A3)) A')
def Xb{all:List Oper}{S:St}{j:Nat}{b:Bool}{φ G a w}(h:Rel φ G S a w)(A2:s8 all S j=some (true,.d (.bool b))):yielded all.toArray a.tmps j=some b:=by
 unfold s8 at A2;split at A2
 .rename_i o H;split at A2
  .rename_i t AF;have:=xW (h.env t _ A2);unfold yielded;simp only[ahA,H,ad8,AF];rw[aef]at this;cases A8:a.tmps[t]? with
   |none=>simp[A8,undef]at this
   |some v=>simp[A8]at this;simp[this]
  .cases A2
 .cases A2
section
variable {P:Program} {S:St} {Q:XE->St->Prop}
theorem pZ.mono{c:Code}{Ag:XE->St->Prop}(h:pZ P c S Q)(A8:∀e S,Q e S->Ag e S):pZ P c S Ag:=
 λφ G a w J=>wp_mono (h φ G a w J) λ_ _ _ Y=>Y.mono A8
def St.prune(S:St)(wS:List Nat):St:={S with env:=if wS=[0,0]then S.env else wS.filterMap λt=>(Env.lk S.env t).map λx=>(t,x)}
theorem yz(env:Env):∀(wS:List Nat)(t:Nat)(x:Bool×AV),Env.lk (wS.filterMap λt=>(Env.lk env t).map λx=>(t,x)) t=some x->Env.lk env t=some x
 |[],t,x,h=>by simp[Env.lk]at h
 |k::r,t,x,h=>by
  simp only[List.filterMap_cons]at h;cases A':Env.lk env k with
  |none=>simp[A']at h;exact yz env r t x h
  |some y=>
   simp only[A',ahK,Env.lk]at h;by_cases BQ:k=t
   .subst BQ;simp at h;subst h;exact A'
   .simp[BQ]at h;exact yz env r t x h
theorem Rel.prune{φ G a w}(h:Rel φ G S a w)(wS:List Nat):Rel φ G (S.prune wS) a w:=
 ⟨h.size,h.defers,λt x M=>h.env t x (by
  simp only[St.prune]at M;split at M
  .exact M
  .exact yz _ _ _ _ M),h.mem,h.nK⟩
theorem SA{x y:Code}(h:pZ P x S λe S'=>match e with| .normal=>pZ P y S' Q|e=>Q e S'):pZ P (.seq x y) S Q:=by
 intro φ G a w J;refine wp_seq (wp_mono (h φ G a w J) λe U w' Y=>?_);cases e with
 |normal=>
  obtain⟨φ',S',Z,I,O,A0⟩:=Y;exact wp_mono (I φ' G U w' O) λe a2 Ah BR=>by rw[Z]at BR;exact BR.weaken A0
 |_=>exact Y
theorem OD{c:Operand}{x y:Code}{b:Bool}(T:S.aw c=(true,.d (.bool b)))(AF:b=true->pZ P x S Q)(Bs:b=false->pZ P y S Q):pZ P (.cond c x y) S Q:=by
 intro φ G a w J;have A6:=J.aw c (by rw[T]);rw[T]at A6;have e:=xW A6;cases b
 .exact wp_cond_false e (Bs rfl φ G a w J)
 .exact wp_cond_true e (AF rfl φ G a w J)
theorem aaL(h:Q .normal S):pZ P .skip S Q:=λφ _ _ _ J=>wp_skip ⟨φ,S,rfl,h,J,bn.refl ..⟩
theorem aeC(h:Q .ret S):pZ P .ret S Q:=λφ _ _ _ J=>wp_ret ⟨φ,S,rfl,h,J,bn.refl ..⟩
theorem aaM{id:Nat}(h:Q (.exit id) S):pZ P (.exit id) S Q:=λφ _ _ _ J=>wp_exit ⟨φ,S,rfl,h,J,bn.refl ..⟩
theorem Ee{id:Nat}{c:Code}(h:pZ P c S λe S'=>match e with| .exit As=>if As=id then Q .normal S' else Q (.exit As) S'|e=>Q e S'):pZ P (.block id c) S Q:=by
 intro φ G a w J;refine wp_block (wp_mono (h φ G a w J) λe U w' Y=>?_);cases e with
 |exit As=>
  obtain⟨φ',S',Z,I,O,A0⟩:=Y;simp only[Exit.inBlock];by_cases hid:As=id
  .simp only[hid,ad7]at I⊢;exact⟨φ',S',Z,I,O,A0⟩
  .simp only[hid,adN]at I⊢;exact⟨φ',S',Z,I,O,A0⟩
 |_=>exact Y
theorem aaN{c:Code}{α:Type}(AG:α->St)(At:α->Prop)(Au:α->Nat)(AS:α)(Bt:S=AG AS)(A1:At AS)
 (round:∀x,At x->pZ P c (AG x) λe S'=>match e with| .normal=>∃A_,S'=AG A_/\At A_/\Au A_<Au x|e=>Q e S'):pZ P (.loop c) S Q:=by
 intro φ G a w J;subst Bt;intro b k cs;have key:∀n x AR Av AM,Au x=n->At x->(AG x).n=(AG AS).n->Rel AR G (AG x) Av AM->bn φ (AG AS).mem w AR (AG x).mem AM->
  ∃e U w',rf (AG AS).n φ G (AG AS).mem w Q e U w'/\Arrives P (lone (b.at Av (.code c::.inLoop c::k)) cs AM) b k cs e U w':=by
  intro n;induction n using Nat.strongRecOn with
  |_ n ih=>
   intro x AR Av AM Z Bu Aw AK Ax;obtain⟨e,a2,Ah,Y,Aa⟩:=round x Bu AR G Av AM AK b (.inLoop c::k) cs;cases e with
   |normal=>
    obtain⟨B5,CB,Bv,⟨A_,rfl,Bw,CC⟩,B2,Bx⟩:=Y;obtain⟨By,a3,Bz,C',C0⟩:=ih (Au A_) (by omega) A_ B5 a2 Ah rfl Bw (Bv.trans Aw) B2 (Ax.trans Bx);exact⟨By,a3,Bz,C',.of_steps (Steps.trans Aa (.one step_inLoop)) C0⟩
   |exit id=>exact⟨.exit id,a2,Ah,by rw[Aw]at Y;exact rf.weaken (e:=.exit id) Ax Y,.pass (x:=.inLoop c) rfl (λ_ _=>.inl (by simp)) Aa⟩
   |goto l=>exact Y.elim
   |ret=>exact⟨.ret,a2,Ah,by rw[Aw]at Y;exact rf.weaken (e:=.ret) Ax Y,.pass (x:=.inLoop c) rfl (λ_ _=>.inl (by simp)) Aa⟩
   |panic ch=>exact⟨.panic ch,a2,Ah,by rw[Aw]at Y;exact rf.weaken (e:=.panic ch) Ax Y,.pass (x:=.inLoop c) rfl (λ_ _=>.inl (by simp)) Aa⟩
   |outgrown=>exact Y.elim
 obtain⟨e,U,w',A8,Aa⟩:=key _ AS φ a w rfl A1 rfl J (bn.refl ..);exact⟨e,U,w',A8,.of_steps (.one step_loop) Aa⟩
end
inductive Out where
 |ret (x:AV)
 |panic (t:TypeId) (x:D)
def rF(φ:cC)(w:World)(F:Nat->Prop):Out->Ending->Prop
 | .ret x,.returned v=>aG φ w F x v
 | .panic t x,.panicked chain=>∃v,chain=[{v:=.iface t v,recovered:=false}]/\aR w F x v
 |_,_=>False
def Ev(P:Program)(gl:List (Nat×D))(f:FuncId)(args:List AV)(m:Mem)(K:Out->Mem->Prop):Prop:=
 ∀φ G w (vs:Array Value),bK φ G m w->gr w (Fo G φ m) gl->args.length=vs.size->(∀(i:Nat) x v,args[i]?=some x->vs[i]?=some v->aG φ w (Fo G φ m) x v)->
  Calls P f vs w λe w'=>∃φ' m' out,K out m'/\bK φ' G m' w'/\bn φ m w φ' m' w'/\rF φ' w' (Fo G φ' m') out e
def nD:List Nat->Nat->Nat->Option Nat
 |[],_,_=>none
 |a::r,k,i=>if a=k then some i else nD r k (i+1)
def Cp:∀{ρ:List Nat}{k j i:Nat},nD ρ k j=some i->j<=i/\ρ[i-j]?=some k
 |[],k,j,i,h=>by simp[nD]at h
 |a::r,k,j,i,h=>by
  simp only[nD]at h;split at h
  .rename_i I;cases h;subst I;simp
  .obtain⟨U,A2⟩:=Cp h;refine⟨by omega,?_⟩;rw[show i-j=(i-(j+1))+1 by omega];simpa using A2
def mZ:∀{ρ:List Nat}{k j:Nat},nD ρ k j=none↔k∉ρ
 |[],k,j=>by simp[nD]
 |a::r,k,j=>by
  simp only[nD,ac4,alp];split
  .rename_i I;subst I;simp
  .rename_i I;rw[mZ];constructor
   .exact λh=>⟨λAh=>I Ah.symm,h⟩
   .exact λh=>h.2
def Xd{ρ:List Nat}(AH:ρ.Nodup){i k:Nat}(h:ρ[i]?=some k):nD ρ k 0=some i:=by
 cases AF:nD ρ k 0 with
 |none=>exact absurd (ac6 h) (mZ.1 AF)
 |some j=>
  obtain⟨_,A2⟩:=Cp AF;simp only[Nat.sub_zero]at A2;obtain⟨hi,AI⟩:=aap.1 h;obtain⟨T,AN⟩:=aap.1 A2;have:=(List.getElem_inj AH).1 (AI.trans AN.symm);rw[this]
def qE:List AV->Option (List D)
 |[]=>some []
 | .d x::r=>match x.flat,qE r with
  |true,some AW=>some (x::AW)
  |_,_=>none
 |_::_=>none
def LJ:∀{l:List AV}{Y:List D},qE l=some Y->l=Y.map .d/\∀d∈Y,d.flat=true
 |[],Y,h=>by simp[qE]at h;subst h;simp
 |x::r,Y,h=>by
  unfold qE at h;split at h
  .rename_i heq;cases heq
  .rename_i y B9 heq;cases heq;split at h
   .rename_i AW AF Ai;cases h;obtain⟨U,A2⟩:=LJ Ai;refine⟨by rw[U];rfl,λd A'=>?_⟩;rcases ac4.1 A' with rfl|A'
    .exact AF
    .exact A2 d A'
   .cases h
  .cases h
def aaO:Option (List D)->AV
 |some Y=>.d (.list Y)
 |none=>.bH
mutual
def vw(m:Mem)(ρ:List Nat)(bor:Nat->Bool)(nv:Nat->Nat->Nat):AV->AV
 | .ptr k au off=>match Mem.get m k,nD ρ k 0 with
  |some e,some i=>if e.au=au then .ptr i (nv i au) off else .bH
  |_,_=>.bH
 | .vec k au off len=>match Mem.get m k,nD ρ k 0 with
  |some e,some i=>if e.au=au then .vec i (nv i au) off len else .bH
  |some ⟨_,v,.vec _ aq⟩,none=>if bor k=true/\v=au/\off+len<=aq.length then .d (.list ((aq.drop off).take len))else .bH
  |some ⟨_,v,.box cs⟩,none=>if bor k=true/\v=au/\off+len<=cs.length then aaO (qE ((cs.drop off).take len))else .bH
  |_,_=>.bH
 | .dD k au i j=>match Mem.get m k,nD ρ k 0 with
  |some e,some n=>if e.au=au then .dD n (nv n au) i j else .bH
  |_,_=>.bH
 | .agg cs=>.agg (rG m ρ bor nv cs)
 | .fn f cap=>.fn f (rG m ρ bor nv cap)
 | .bq vs=>.bq (rG m ρ bor nv vs)
 | .bH=>.bH
 | .d x=>.d x
 | .fg x j=>.fg x j
 | .jG t x=>.jG t x
 | .lit v=>.lit v
 | .nn=>.nn
 | .err=>.err
def rG(m:Mem)(ρ:List Nat)(bor:Nat->Bool)(nv:Nat->Nat->Nat):List AV->List AV
 |[]=>[]
 |x::r=>vw m ρ bor nv x::rG m ρ bor nv r
end
def xX(m ρ bor nv):∀(l:List AV)(i:Nat),(rG m ρ bor nv l)[i]?=(l[i]?).map (vw m ρ bor nv)
 |[],i=>by simp[rG]
 |x::r,i=>by cases i with|zero=>simp[rG]|succ i=>simp[rG,xX m ρ bor nv r i]
def oF(m ρ bor nv):∀(l:List AV),(rG m ρ bor nv l).length=l.length
 |[]=>rfl
 |x::r=>by simp[rG,oF m ρ bor nv r]
def cC.kB(φ:cC)(ρ:List Nat)(nv:Nat->Nat->Nat):cC:=λi=>
 match ρ[i]? with
 |some k=>(φ k).map λL=>{L with au:=nv i L.au}
 |none=>none
def Ef(φ:cC)(m:Mem)(ρ:List Nat)(b:Nat):Prop:=∃k∈ρ,∃e L,Mem.get m k=some e/\φ k=some L/\e.cont.dN L b
def Ef.own{φ m ρ b}(h:Ef φ m ρ b):kV φ m b:=by
 obtain⟨k,_,e,L,M,H,A3⟩:=h;obtain⟨hm,rfl⟩:=Mem.get_mem M;exact⟨e,hm,L,H,A3⟩
def IG{φ G m w}(h:bK φ G m w){ρ:List Nat}{k:Nat}{e:dn}{L:Loc}{b:Nat}(M:Mem.get m k=some e)(H:φ k=some L)(A3:e.cont.dN L b)(I:k∉ρ):¬Ef φ m ρ b:=by
 rintro ⟨Aj,AJ,e',L',Ak,O,Al⟩;obtain⟨hm,rfl⟩:=Mem.get_mem M;obtain⟨An,rfl⟩:=Mem.get_mem Ak;have:=h.apart e' An e hm L' L O H ⟨b,Al,A3⟩;exact I (this▸AJ)
section
variable {φ:cC} {G:Fr} {m:Mem} {w:World} {ρ:List Nat} {bor:Nat->Bool} {nv:Nat->Nat->Nat} {AK:Nat->Prop}
theorem Kv{k i:Nat}{L:Loc}(hi:nD ρ k 0=some i)(H:φ k=some L):φ.kB ρ nv i=some {L with au:=nv i L.au}:=by
 obtain⟨_,A2⟩:=Cp hi;simp only[Nat.sub_zero]at A2;simp[cC.kB,A2,H]
theorem ahi(hm:bK φ G m w)(A5:∀b,AK b->Fo G φ m b)
 (AL:∀k e L b,Mem.get m k=some e->k∉ρ->bor k=true->φ k=some L->e.cont.dN L b->¬AK b) {y v} (h:aG φ w (Fo G φ m) y v):aG (φ.kB ρ nv) w AK (vw m ρ bor nv y) v:=by
 induction h with
 |bH v=>exact .bH v
 |d x v h=>exact .d x v (h.mono (λ_ _ _=>rfl) (aar _) (λb _=>A5 b))
 |agg cs a AA U _ ih=>
  refine .agg _ a (by rw[oF];exact AA) U (λi c v J V=>?_);rw[xX]at J;obtain⟨y,A6,rfl⟩:=ac3.1 J;exact ih i y v A6 V
 |ptr k au off v L H V h U=>
  unfold vw;split
  .rename_i e i M hi;split
   .rename_i he;obtain⟨_,_,L',O,Z,_⟩:=hm.get M;rw[H]at O;cases O;have A8:L.au=au:=by rw[Z];exact he
    refine .ptr i _ off v _ (Kv hi H) (by simp[A8]) (λ_=>h A8.symm) U
   .exact .bH _
  .exact .bH _
 |vec k au off len v L H V h U=>
  unfold vw;split
  .rename_i e i M hi;split
   .rename_i he;obtain⟨_,_,L',O,Z,_⟩:=hm.get M;rw[H]at O;cases O;have A8:L.au=au:=by rw[Z];exact he
    refine .vec i _ off len v _ (Kv hi H) (by simp[A8]) (λ_=>h A8.symm) U
   .exact .bH _
  .rename_i key AG sz aq M hi;split
   .rename_i J;obtain⟨AB,rfl,hle⟩:=J;obtain⟨_,_,L',O,Z,A0⟩:=hm.get M;rw[H]at O;cases O;refine .d _ _ (Hm (.vec k AG off len v L H V h U) H Z A0 hle A5 (λA3=>?_));exact AL k _ L _ M (mZ.1 hi) AB H ⟨A3,rfl⟩
   .exact .bH _
  .rename_i key AG cs M hi;split
   .rename_i J;obtain⟨AB,rfl,hle⟩:=J;obtain⟨_,_,L',O,Z,A0⟩:=hm.get M;rw[H]at O;cases O;obtain⟨⟨Ao,z2,z3⟩,arr,elem,AX,BA,Ap,Aq⟩:=A0;cases Ar:qE ((cs.drop off).take len)with
    |none=>exact .bH _
    |some Y=>
     obtain⟨AY,As⟩:=LJ Ar;obtain⟨ao,cap,rfl,BB,AZ⟩:=h Z.symm;have At:Y.length=len:=by
      have:=ahw List.length AY;simp at this;omega
     refine .d _ _ ?_;by_cases AO:len=0
     .have:Y=[]:=adf (by omega);subst this;subst AO;refine .nil _ _ (λAH=>?_);cases cap with
      |zero=>rfl
      |succ c=>have:=(AZ (by omega)).1;rw[AH]at this;cases this
     .obtain⟨rfl,_⟩:=AZ (by omega);rw[<-At];have A_:∀(i:Nat) d,Y[i]?=some d->∃u,arr[off+i]?=some u/\aR w AK d u/\dk u=true:=by
       intro i d A';have hi:i<Y.length:=(aap.1 A').1;have Au:cs[off+i]?=some (.d d):=by
        have:=ahw (·[i]?) AY;simp only[adq,adR,adn,A']at this;rw[ac1 (by omega)]at this;simpa using this
       have Aa:off+i<arr.size:=by omega
       have AP:=Aq (off+i) _ arr[off+i] Au (by simp[Aa]);cases AP with
       |d _ _ AP=>exact⟨_,by simp[Aa],AP.mono (λ_ _ _=>rfl) (aar _) (λb _=>A5 b),Ap _ (by simp)⟩
      have Av:L.eJ<w.heap.size:=AX.lt;refine .list Y _ _ cap 1 (λi=>(arr[off+i]?).getD undef) (by omega) Av (AL k _ L _ M (mZ.1 hi) AB H rfl) (λd A'=>?_) (λi d A'=>?_) (λi j c Aw T=>?_)
      .have:=As d A';cases d<;>simp_all [D.flat,D.size]
      .obtain⟨u,U,A2,_⟩:=A_ i d A';simp only[U,ahx];exact A2
      .obtain⟨u,U,A2,AI⟩:=A_ i Y[i] (by simp[Aw]);simp only[U,ahx,fA AI]at T;have Ax:j=0:=by
        have:=(aet.1 T).1;simpa using this
       subst Ax;simp at T;subst T;rw[jI AX,Ao,z2];simpa using U
   .exact .bH _
  .exact .bH _
 |dD k au i j v L H V h U=>
  unfold vw;split
  .rename_i e n M hi;split
   .rename_i he;obtain⟨_,_,L',O,Z,_⟩:=hm.get M;rw[H]at O;cases O;have A8:L.au=au:=by rw[Z];exact he
    refine .dD n _ i j v _ (Kv hi H) (by simp[A8]) (λ_=>h A8.symm) U
   .exact .bH _
  .exact .bH _
 |fg x j b off Ay AB Az AQ J=>
  exact .fg x j b off Ay AB (λh=>Az (A5 b h)) (AQ.mono (λ_ _ _=>rfl) (aar _) (λb _=>A5 b)) J
 |fn f cap a AF AA _ ih=>
  refine .fn f _ a AF (by rw[oF];exact AA) (λi c v J V=>?_);rw[xX]at J;obtain⟨y,A6,rfl⟩:=ac3.1 J;exact ih i y v A6 V
 |xf f cap a AA _ ih=>
  refine .xf f _ a (by rw[oF];exact AA) (λi c v J V=>?_);rw[xX]at J;obtain⟨y,A6,rfl⟩:=ac3.1 J;exact ih i y v A6 V
 |bq vs a AA _ ih=>
  refine .bq _ a (by rw[oF];exact AA) (λi c v J V=>?_);rw[xX]at J;obtain⟨y,A6,rfl⟩:=ac3.1 J;exact ih i y v A6 V
 |jG t x v h=>exact .jG t x v (h.mono (λ_ _ _=>rfl) (aar _) (λb _=>A5 b))
 |lit v h=>exact .lit v h
 |nn a cap=>exact .nn a cap
 |err t v=>exact .err t v
end
def eO:Nat->List (Nat×aF)->Mem
 |_,[]=>[]
 |i,(v,c)::r=>⟨i,v,c⟩::eO (i+1) r
def uF:∀(l:List (Nat×aF))(i:Nat),(eO i l).map (·.key)=List.range' i l.length
 |[],i=>rfl
 |(v,c)::r,i=>by simp[eO,uF r,aie]
def nR:∀{l:List (Nat×aF)}{i:Nat}{e:dn},e∈eO i l↔∃j v c,l[j]?=some (v,c)/\e=⟨i+j,v,c⟩
 |[],i,e=>by simp[eO]
 |(v,c)::r,i,e=>by
  simp only[eO,ac4,nR (l:=r)];constructor
  .rintro (rfl|⟨j,AG,AR,h,rfl⟩)
   .exact⟨0,v,c,by simp,by simp⟩
   .exact⟨j+1,AG,AR,by simpa using h,by simp;omega⟩
  .rintro ⟨j,AG,AR,h,rfl⟩;cases j with
   |zero=>simp at h;obtain⟨rfl,rfl⟩:=h;left;simp
   |succ j=>right;exact⟨j,AG,AR,by simpa using h,by simp;omega⟩
def AD(m:Mem)(ρ:List Nat)(bor:Nat->Bool)(nv:Nat->Nat->Nat):aF->aF
 | .dead=>.dead
 | .box cs=>.box (rG m ρ bor nv cs)
 | .vec sz aq=>.vec sz aq
 | .vv aq y=>.vv aq (y.map (vw m ρ bor nv))
def AE(m:Mem)(ρ:List Nat)(bor:Nat->Bool)(nv:Nat->Nat->Nat)(i:Nat):Option dn->Nat×aF
 |some e=>(nv i e.au,AD m ρ bor nv e.cont)
 |none=>(0,.dead)
def fS(m:Mem)(ρ:List Nat)(bor:Nat->Bool)(nv:Nat->Nat->Nat):Nat->List Nat->List (Nat×aF)
 |_,[]=>[]
 |i,k::r=>AE m ρ bor nv i (Mem.get m k)::fS m ρ bor nv (i+1) r
def Cq(m ρ bor nv):∀(l:List Nat)(i j:Nat),(fS m ρ bor nv i l)[j]?=(l[j]?).map λk=>AE m ρ bor nv (i+j) (Mem.get m k)
 |[],i,j=>by simp[fS]
 |k::r,i,j=>by
  cases j with
  |zero=>simp[fS]
  |succ j=>simp[fS,Cq m ρ bor nv r (i+1) j,adv,Nat.add_comm 1 j]
def vp(m ρ bor nv):∀(l:List Nat)(i:Nat),(fS m ρ bor nv i l).length=l.length
 |[],i=>rfl
 |k::r,i=>by simp[fS,vp m ρ bor nv r]
def zH{m ρ bor nv L c b}:(AD m ρ bor nv c).dN L b↔c.dN L b:=by cases c<;>exact amT
def np{L:Loc}{c:aF}{v b:Nat}:c.dN {L with au:=v} b↔c.dN L b:=by cases c<;>exact amT
section
variable {φ:cC} {G G1:Fr} {m:Mem} {w:World} {ρ:List Nat} {bor:Nat->Bool} {nv:Nat->Nat->Nat}
theorem Bo(AM:∀k∈ρ,(Mem.get m k).isSome=true)(b:Nat):kV (φ.kB ρ nv) (eO 0 (fS m ρ bor nv 0 ρ)) b↔Ef φ m ρ b:=by
 constructor
 .rintro ⟨e,he,L,H,A3⟩;obtain⟨j,v,c,T,rfl⟩:=nR.1 he;rw[Cq]at T;obtain⟨k,I,AC⟩:=ac3.1 T;simp only[agT,cC.kB,I,ac3]at H;obtain⟨A4,A9,rfl⟩:=H;have Ab:=ac6 I;have:=AM k Ab;obtain⟨A1,A7⟩:=alc.1 this;rw[A7]at AC;simp only[AE,aeb]at AC;obtain⟨rfl,rfl⟩:=AC;exact⟨k,Ab,A1,A4,A7,A9,np.1 (zH.1 A3)⟩
 .rintro ⟨k,I,e,L,M,H,A3⟩;obtain⟨j,T,rfl⟩:=apS.1 I;refine⟨⟨0+j,nv j e.au,AD m ρ bor nv e.cont⟩,nR.2 ⟨j,_,_,?_,rfl⟩,{L with au:=nv j L.au},?_,zH.2 (np.2 A3)⟩
  .rw[Cq];simp[T,M,AE]
  .simp[cC.kB,T,H]
theorem FG(hm:bK φ G m w)(AH:ρ.Nodup)(AM:∀k∈ρ,(Mem.get m k).isSome=true)(Ac:∀b,G1 b->Fo G φ m b)(B':∀b,Ef φ m ρ b->¬G1 b)
 (AL:∀k e L b,Mem.get m k=some e->k∉ρ->bor k=true->φ k=some L->e.cont.dN L b->¬G1 b):
 bK (φ.kB ρ nv) G1 (eO 0 (fS m ρ bor nv 0 ρ)) w/\(∀y v,aG φ w (Fo G φ m) y v->aG (φ.kB ρ nv) w (Fo G1 (φ.kB ρ nv) (eO 0 (fS m ρ bor nv 0 ρ))) (vw m ρ bor nv y) v)/\
  (∀b,Fo G1 (φ.kB ρ nv) (eO 0 (fS m ρ bor nv 0 ρ)) b->Fo G φ m b):=by
 have AS:=Bo (φ:=φ) (nv:=nv) (bor:=bor) AM;have A5:∀b,Fo G1 (φ.kB ρ nv) (eO 0 (fS m ρ bor nv 0 ρ)) b->Fo G φ m b:=by
  rintro b (h|h)
  .exact Ac b h
  .exact .inr ((AS b).1 h).own
 have AB:∀k e L b,Mem.get m k=some e->k∉ρ->bor k=true->φ k=some L->e.cont.dN L b->¬Fo G1 (φ.kB ρ nv) (eO 0 (fS m ρ bor nv 0 ρ)) b:=by
  rintro k e L b M I B0 H A3 (h|h)
  .exact AL k e L b M I B0 H A3 h
  .exact IG hm M H A3 I ((AS _).1 h)
 have AT:∀y v,aG φ w (Fo G φ m) y v->aG (φ.kB ρ nv) w (Fo G1 (φ.kB ρ nv) (eO 0 (fS m ρ bor nv 0 ρ))) (vw m ρ bor nv y) v:=λy v h=>ahi hm A5 AB h;have A':∀x v,aR w (Fo G φ m) x v->aR w (Fo G1 (φ.kB ρ nv) (eO 0 (fS m ρ bor nv 0 ρ))) x v:=λx v h=>h.mono (λ_ _ _=>rfl) (aar _) (λb _=>A5 b);have part:∀{e:dn},e∈eO 0 (fS m ρ bor nv 0 ρ)->∃j k A1 A4,ρ[j]?=some k/\Mem.get m k=some A1/\φ k=some A4/\A4.au=A1.au/\fB φ w (Fo G φ m) A4 A1.cont/\e=⟨j,nv j A1.au,AD m ρ bor nv A1.cont⟩:=by
  intro e he;obtain⟨j,v,c,T,rfl⟩:=nR.1 he;rw[Cq]at T;obtain⟨k,I,AC⟩:=ac3.1 T;obtain⟨A1,A7⟩:=alc.1 (AM k (ac6 I));rw[A7]at AC;simp only[AE,aeb,agT]at AC;obtain⟨rfl,rfl⟩:=AC;obtain⟨_,_,A4,A9,Z,A0⟩:=hm.get A7;exact⟨j,k,A1,A4,I,A7,A9,Z,A0,by simp⟩
 refine⟨⟨?_,?_,?_,?_,?_,?_⟩,AT,A5⟩
 .rw[uF];exact List.nodup_range'
 .intro i L H;rw[uF,vp];simp only[cC.kB]at H;split at H
  .rename_i k I;have:=(aap.1 I).1;simp[List.mem_range'];omega
  .cases H
 .intro e he;obtain⟨j,k,A1,A4,I,A7,A9,Z,A0,rfl⟩:=part he;refine⟨{A4 with au:=nv j A4.au},by simp[cC.kB,I,A9],by simp[Z],?_⟩;cases J:A1.cont with
  |dead=>trivial
  |box cs=>
   rw[J]at A0;obtain⟨g0,arr,elem,g1,g2,g3,g4⟩:=A0;refine⟨by simpa [oF]using g0,arr,elem,g1,by simp[oF,g2],g3,λi c v Ad V=>?_⟩;rw[xX]at Ad;obtain⟨y,A6,rfl⟩:=ac3.1 Ad;exact AT y v (g4 i y v A6 V)
  |vec sz aq=>
   rw[J]at A0;obtain⟨g1,g2,g3,g4⟩:=A0;refine⟨g1,g2,g3,λAO=>?_⟩;obtain⟨arr,elem,f1,f2,f3,f4⟩:=g4 AO;exact⟨arr,elem,f1,f2,f3,λi d B1=>let ⟨v,V,T⟩:=f4 i d B1;⟨v,A' _ _ V,T⟩⟩
  |vv aq y=>
   rw[J]at A0;exact (nI.mono (vw m ρ bor nv) A0 (λ_ _ _ _ u hu=>A' _ u hu) (λx _ v AQ=>AT x v AQ) (λ_ _=>rfl)).au _
 .intro e he e' B2 L L' H O B3;obtain⟨j,k,A1,A4,I,A7,A9,Z,A0,rfl⟩:=part he;obtain⟨BC,Aj,B4,B5,AJ,B6,Ae,BD,BE,rfl⟩:=part B2;simp only[cC.kB,I,A9,AJ,Ae,ahK,adl]at H O;subst H;subst O;obtain⟨B7,Af⟩:=Mem.get_mem A7;obtain⟨B8,Ag⟩:=Mem.get_mem B6;have:=hm.apart A1 B7 B4 B8 A4 B5 (by rw[Af];exact A9) (by rw[Ag];exact Ae) (B3.imp λb h=>⟨np.1 (zH.1 h.1),np.1 (zH.1 h.2)⟩);rw[Af,Ag]at this;obtain⟨hi,AI⟩:=aap.1 I;obtain⟨T,AN⟩:=aap.1 AJ;exact (List.getElem_inj AH).1 (AI.trans (this.trans AN.symm))
 .exact λb AU=>B' b ((AS b).1 AU)
 .exact λb AU=>Hi hm b (Ac b AU)
end
mutual
def kM:D->Bool
 | .list (_::_)=>false
 | .list []=>true
 | .agg cs=>mM cs
 | .int _ _=>true
 | .bool _=>true
 | .str _=>true
 | .Dx=>true
def mM:List D->Bool
 |[]=>true
 |x::r=>kM x&&mM r
end
def vq:∀{l:List D},mM l=true->∀x∈l,kM x=true
 |[],_,x,T=>by simp at T
 |y::r,h,x,T=>by
  simp only[mM,Ds]at h;rcases ac4.1 T with rfl|T
  .exact h.1
  .exact vq h.2 x T
def aR.plain{w w':World}{F F':Nat->Prop}{d v}(h:aR w F d v)(V:kM d=true):aR w' F' d v:=by
 induction h with
 |int k n=>exact .int k n
 |bool b=>exact .bool b
 |Dx v h=>exact .Dx v h
 |str b s h=>exact .str b s h
 |agg cs a AA Aa _ ih=>
  refine .agg cs a AA Aa (λi d v U Z=>ih i d v U Z (vq (by simpa only[kM]using V) d (ac6 U)))
 |nil a cap AB=>exact .nil a cap AB
 |list xs b off cap sz vs BR A6 BS BT Z O _=>
  cases xs with
  |nil=>exact .nil _ _ (by simp)
  |cons=>simp[kM]at V
mutual
def eZ:AV->Bool
 | .d x=>kM x
 | .fg _ _=>false
 | .agg cs=>oG cs
 | .fn _ cap=>oG cap
 | .bq vs=>oG vs
 | .jG _ x=>kM x
 | .bH=>true
 | .ptr _ _ _=>true
 | .vec _ _ _ _=>true
 | .dD _ _ _ _=>true
 | .lit _=>true
 | .nn=>true
 | .err=>true
def oG:List AV->Bool
 |[]=>true
 |x::r=>eZ x&&oG r
end
def nU:∀{l:List AV},oG l=true->∀x∈l,eZ x=true
 |[],_,x,T=>by simp at T
 |y::r,h,x,T=>by
  simp only[oG,Ds]at h;rcases ac4.1 T with rfl|T
  .exact h.1
  .exact nU h.2 x T
def oZ:aF->Bool
 | .dead=>true
 | .box cs=>oG cs
 | .vec _ aq=>mM aq
 | .vv aq y=>aq.all mM&&(match y with|none=>true|some x=>eZ x)
mutual
def up(ρ bs:List Nat):AV->AV
 | .ptr k au off=>.ptr (ρ.getD k 0) (bs.getD k 0+au) off
 | .vec k au off len=>.vec (ρ.getD k 0) (bs.getD k 0+au) off len
 | .dD k au i j=>.dD (ρ.getD k 0) (bs.getD k 0+au) i j
 | .agg cs=>.agg (um ρ bs cs)
 | .fn f cap=>.fn f (um ρ bs cap)
 | .bq vs=>.bq (um ρ bs vs)
 | .bH=>.bH
 | .d x=>.d x
 | .fg x j=>.fg x j
 | .jG t x=>.jG t x
 | .lit v=>.lit v
 | .nn=>.nn
 | .err=>.err
def um(ρ bs:List Nat):List AV->List AV
 |[]=>[]
 |x::r=>up ρ bs x::um ρ bs r
end
def xY(ρ bs):∀(l:List AV)(i:Nat),(um ρ bs l)[i]?=(l[i]?).map (up ρ bs)
 |[],i=>by simp[um]
 |x::r,i=>by cases i with|zero=>simp[um]|succ i=>simp[um,xY ρ bs r i]
def oH(ρ bs):∀(l:List AV),(um ρ bs l).length=l.length
 |[]=>rfl
 |x::r=>by simp[um,oH ρ bs r]
def II(ρ bs:List Nat):aF->aF
 | .dead=>.dead
 | .box cs=>.box (um ρ bs cs)
 | .vec sz aq=>.vec sz aq
 | .vv aq y=>.vv aq (y.map (up ρ bs))
def kZ(ρ bs:List Nat):Nat->List (Nat×aF)->List dn
 |_,[]=>[]
 |i,(v,c)::r=>⟨ρ.getD i 0,bs.getD i 0+v,II ρ bs c⟩::kZ ρ bs (i+1) r
def zI{ρ bs:List Nat}:∀{l:List (Nat×aF)}{i:Nat}{e:dn},e∈kZ ρ bs i l↔∃j v c,l[j]?=some (v,c)/\e=⟨ρ.getD (i+j) 0,bs.getD (i+j) 0+v,II ρ bs c⟩
 |[],i,e=>by simp[kZ]
 |(v,c)::r,i,e=>by
  simp only[kZ,ac4,zI (l:=r)];constructor
  .rintro (rfl|⟨j,AL,AM,h,rfl⟩)
   .exact⟨0,v,c,by simp,by simp⟩
   .exact⟨j+1,AL,AM,by simpa using h,by rw[show i+(j+1)=i+1+j by omega]⟩
  .rintro ⟨j,AL,AM,h,rfl⟩;cases j with
   |zero=>simp at h;obtain⟨rfl,rfl⟩:=h;left;simp
   |succ j=>right;exact⟨j,AL,AM,by simpa using h,by rw[show i+(j+1)=i+1+j by omega]⟩
def IJ{ρ bs:List Nat}:∀(l:List (Nat×aF))(i:Nat),(kZ ρ bs i l).map (·.key)=(List.range' i l.length).map λj=>ρ.getD j 0
 |[],i=>rfl
 |(v,c)::r,i=>by simp[kZ,IJ r,aie]
def bV(m:Mem):List dn->Mem
 |[]=>m
 |e::r=>bV (Mem.set m e) r
def nq:∀(es:List dn)(m:Mem),(bV m es).map (·.key)=m.map (·.key)
 |[],m=>rfl
 |e::r,m=>by rw[bV,nq r,Mem.jH]
def IK:∀(es:List dn)(m:Mem),(m.map (·.key)).Nodup->(es.map (·.key)).Nodup->(∀e∈es,e.key∈m.map (·.key))->∀e,e∈bV m es↔e∈es\/(e∈m/\e.key∉es.map (·.key))
 |[],m,_,_,_,e=>by simp[bV]
 |x::r,m,hm,AB,A3,e=>by
  simp only[adz,List.nodup_cons]at AB;rw[bV,IK r (Mem.set m x) (by rw[Mem.jH];exact hm) AB.2 (λe he=>by rw[Mem.jH];exact A3 e (by simp[he])),Mem.mem_set hm];have T:=A3 x (by simp);constructor
  .rintro (h|⟨⟨rfl,_⟩|⟨h,Y⟩,AO⟩)
   .left;simp[h]
   .left;simp
   .right;exact⟨h,by simp only[adz,ac4,alp];exact⟨Y,AO⟩⟩
  .rintro (h|⟨h,AO⟩)
   .rcases ac4.1 h with rfl|h
    .right;exact⟨.inl ⟨rfl,T⟩,AB.1⟩
    .left;exact h
   .simp only[adz,ac4,alp]at AO;right;exact⟨.inr ⟨h,AO.1⟩,AO.2⟩
def base(m:Mem)(d:Nat):List Nat->List Nat
 |[]=>[]
 |k::r=>(match Mem.get m k with|some e=>e.au+d|none=>0)::base m d r
def Hn(m:Mem)(d:Nat):∀(l:List Nat)(i:Nat),(base m d l)[i]?=(l[i]?).map λk=>match Mem.get m k with|some e=>e.au+d|none=>0
 |[],i=>by simp[base]
 |k::r,i=>by cases i with|zero=>simp[base]|succ i=>simp[base,Hn m d r i]
def vt(m:Mem)(d:Nat):∀(l:List Nat),(base m d l).length=l.length
 |[]=>rfl
 |k::r=>by simp[base,vt m d r]
def ki:Nat->Nat->Nat:=λ_ _=>0
def oJ(φ:cC)(G:Fr)(m:Mem)(ρ B:List Nat):Fr:=⟨λb=>Fo G φ m b/\¬Ef φ m ρ b/\¬Ef φ m B b,[]⟩
section
variable {φ:cC} {G:Fr} {m:Mem} {w:World} {ρ B:List Nat}
theorem LL(hm:bK φ G m w)(AB:ρ.Nodup)(AU:∀k∈ρ,(Mem.get m k).isSome=true):
 bK (φ.kB ρ ki) (oJ φ G m ρ B) (eO 0 (fS m ρ (λk=>B.contains k) ki 0 ρ)) w/\
  (∀y v,aG φ w (Fo G φ m) y v->aG (φ.kB ρ ki) w (Fo (oJ φ G m ρ B) (φ.kB ρ ki) (eO 0 (fS m ρ (λk=>B.contains k) ki 0 ρ))) (vw m ρ (λk=>B.contains k) ki y) v)/\
  (∀b,Fo (oJ φ G m ρ B) (φ.kB ρ ki) (eO 0 (fS m ρ (λk=>B.contains k) ki 0 ρ)) b->Fo G φ m b):=
 FG hm AB AU (λb h=>h.1) (λb h Ab=>Ab.2.1 h) (λk e L b B8 _ A6 H J Ab=>Ab.2.2 ⟨k,by simpa using A6,e,L,B8,H,J⟩)
theorem aG.upR{φ φ':cC}{ρ bs:List Nat}{w F F' x v}(h:aG φ w F x v)(Ac:∀i L,φ i=some L->φ' (ρ.getD i 0)=some {L with au:=bs.getD i 0+L.au})
 (U:(∀b,F' b->F b)\/eZ x=true):aG φ' w F' (up ρ bs x) v:=by
 have An:∀{d v},aR w F d v->((∀b,F' b->F b)\/kM d=true)->aR w F' d v:=λh U=>by
  rcases U with U|U
  .exact h.mono (λ_ _ _=>rfl) (aar _) (λb _=>U b)
  .exact h.plain U
 induction h with
 |bH v=>exact .bH v
 |d x v h=>exact .d x v (An h (U.imp id (by simp[eZ])))
 |agg cs a AA A4 _ ih=>
  refine .agg _ a (by rw[oH];exact AA) A4 (λi c v O Z=>?_);rw[xY]at O;obtain⟨y,A7,rfl⟩:=ac3.1 O;exact ih i y v A7 Z (U.imp id λV=>nU (by simpa only[eZ]using V) y (ac6 A7))
 |ptr k au off v L H Z h A4=>exact .ptr _ _ off v _ (Ac k L H) (by simp only;omega) (λhe=>h (by simp only at he;omega)) A4
 |vec k au off len v L H Z h A4=>exact .vec _ _ off len v _ (Ac k L H) (by simp only;omega) (λhe=>h (by simp only at he;omega)) A4
 |dD k au i j v L H Z h A4=>exact .dD _ _ i j v _ (Ac k L H) (by simp only;omega) (λhe=>h (by simp only at he;omega)) A4
 |fg x j b off B9 A6 BA T O=>
  rcases U with U|U
  .exact .fg x j b off B9 A6 (λh=>BA (U b h)) (T.mono (λ_ _ _=>rfl) (aar _) (λb _=>U b)) O
  .simp[eZ]at U
 |fn f cap a Aa AA _ ih=>
  refine .fn f _ a Aa (by rw[oH];exact AA) (λi c v O Z=>?_);rw[xY]at O;obtain⟨y,A7,rfl⟩:=ac3.1 O;exact ih i y v A7 Z (U.imp id λV=>nU (by simpa only[eZ]using V) y (ac6 A7))
 |xf f cap a AA _ ih=>
  refine .xf f _ a (by rw[oH];exact AA) (λi c v O Z=>?_);rw[xY]at O;obtain⟨y,A7,rfl⟩:=ac3.1 O;exact ih i y v A7 Z (U.imp id λV=>nU (by simpa only[eZ]using V) y (ac6 A7))
 |bq vs a AA _ ih=>
  refine .bq _ a (by rw[oH];exact AA) (λi c v O Z=>?_);rw[xY]at O;obtain⟨y,A7,rfl⟩:=ac3.1 O;exact ih i y v A7 Z (U.imp id λV=>nU (by simpa only[eZ]using V) y (ac6 A7))
 |jG t x v h=>exact .jG t x v (An h (U.imp id (by simp[eZ])))
 |lit v h=>exact .lit v h
 |nn a cap=>exact .nn a cap
 |err t v=>exact .err t v
theorem uG{ρ bs L c b}:(II ρ bs c).dN L b↔c.dN L b:=by cases c<;>exact amT
theorem LM(h:bK φ G m w)(AB:ρ.Nodup)(AU:∀k∈ρ,(Mem.get m k).isSome=true){fr:List Nat}(BB:fr.Nodup)(Ao:∀k∈fr,(Mem.get m k).isSome=true/\k∉ρ)
 {A1:cC} {M:List (Nat×aF)} {A8:World} (AW:bK A1 (oJ φ G m ρ B) (eO 0 M) A8)
 (A3:bn (φ.kB ρ ki) (eO 0 (fS m ρ (λk=>B.contains k) ki 0 ρ)) w A1 (eO 0 M) A8) (BC:M.length=ρ.length+fr.length)
 (BD:B=[]\/∀e∈M,oZ e.2=true):
 ∃φ':cC,bK φ' G (bV m (kZ (ρ++fr) (base m 0 ρ++base m 1 fr) 0 M)) A8/\bn φ m w φ' (bV m (kZ (ρ++fr) (base m 0 ρ++base m 1 fr) 0 M)) A8/\
  ∀x v,(B=[]\/eZ x=true)->aG A1 A8 (Fo (oJ φ G m ρ B) A1 (eO 0 M)) x v->
   aG φ' A8 (Fo G φ' (bV m (kZ (ρ++fr) (base m 0 ρ++base m 1 fr) 0 M))) (up (ρ++fr) (base m 0 ρ++base m 1 fr) x) v:=by
 obtain⟨I,AI⟩:∃I,I=ρ++fr:=⟨_,rfl⟩;obtain⟨bs,Ad⟩:∃bs,bs=base m 0 ρ++base m 1 fr:=⟨_,rfl⟩;rw[<-AI,<-Ad];have Ap:I.Nodup:=by
  rw[AI,List.nodup_append];exact⟨AB,BB,λa BE b A6 BF=>(Ao b A6).2 (BF▸BE)⟩
 have BG:M.length=I.length:=by rw[AI,acY];exact BC
 have Aq:∀k∈I,(Mem.get m k).isSome=true:=λk A'=>by
  rw[AI]at A';rcases ada.1 A' with A4|A4
  .exact AU k A4
  .exact (Ao k A4).1
 have Ar:∀k∈I,k∈m.map (·.key):=λk A'=>by
  obtain⟨e,he⟩:=alc.1 (Aq k A');obtain⟨hm,rfl⟩:=Mem.get_mem he;exact adP hm
 obtain⟨φ',As⟩:∃φ':cC,φ'=λk=>match nD I k 0 with|some i=>(A1 i).map (λL=>{L with au:=bs.getD i 0+L.au})|none=>φ k:=⟨_,rfl⟩
 have BH:∀{i},i<I.length->I[i]?=some (I.getD i 0):=λhi=>by simp[hi]
 have BI:∀{i},i<I.length->φ' (I.getD i 0)=(A1 i).map (λL=>{L with au:=bs.getD i 0+L.au}):=λhi=>by
  simp only[As,Xd Ap (BH hi)]
 have AC:∀{k},k∉I->φ' k=φ k:=λA'=>by simp only[As,mZ.2 A']
 have BJ:∀{i L},A1 i=some L->i<I.length:=λH=>by
  have:=AW.ud _ _ H;rw[uF]at this;simp[List.mem_range']at this;omega
 have A9:∀i L,A1 i=some L->φ' (I.getD i 0)=some {L with au:=bs.getD i 0+L.au}:=λi L H=>by
  rw[BI (BJ H),H];rfl
 --BK entries behind
 have AD:=IK (kZ I bs 0 M) m h.nodup;have At:(kZ I bs 0 M).map (·.key)=I:=by
  rw[IJ,BG];apply List.ext_getElem?;intro i;by_cases hi:i<I.length
  .simp[hi]
  .rw[ahU (by simp;omega),ahU (by omega)]
 rw[At]at AD;replace AD:=AD Ap (λe he=>Ar e.key (by rw[<-At];exact adP he));have AN:∀{e},e∈kZ I bs 0 M->∃j v c L,j<I.length/\M[j]?=some (v,c)/\e=⟨I.getD j 0,bs.getD j 0+v,II I bs c⟩/\A1 j=some L/\L.au=v/\fB A1 A8 (Fo (oJ φ G m ρ B) A1 (eO 0 M)) L c:=by
  intro e he;obtain⟨j,v,c,A0,rfl⟩:=zI.1 he;have AP:=(aap.1 A0).1;obtain⟨L,H,AE,O⟩:=AW.gZ ⟨0+j,v,c⟩ (nR.2 ⟨j,v,c,A0,rfl⟩);simp only[agT]at H⊢;exact⟨j,v,c,L,by omega,A0,rfl,H,AE,O⟩
 have AQ:=Bo (φ:=φ) (nv:=ki) (bor:=λk=>B.contains k) AU;have Ae:∀b,kV φ' (bV m (kZ I bs 0 M)) b↔kV A1 (eO 0 M) b\/∃e∈m,e.key∉I/\∃L,φ e.key=some L/\e.cont.dN L b:=by
  intro b;constructor
  .rintro ⟨e,he,L,H,J⟩;rcases (AD e).1 he with he|⟨he,Y⟩
   .obtain⟨j,v,c,A2,AP,A0,rfl,A5,AE,O⟩:=AN he;left;simp only[A9 j A2 A5,adl]at H;subst H;exact⟨⟨0+j,v,c⟩,nR.2 ⟨j,v,c,A0,rfl⟩,A2,by simpa using A5,np.1 (uG.1 J)⟩
   .right;exact⟨e,he,Y,L,by rw[<-AC Y];exact H,J⟩
  .rintro (⟨BU,AR,L,H,J⟩|⟨e,he,Y,L,H,J⟩)
   .obtain⟨j,v,c,A0,rfl⟩:=nR.1 AR;simp only[agT]at H;exact⟨⟨I.getD j 0,bs.getD j 0+v,II I bs c⟩,(AD _).2 (.inl (zI.2 ⟨j,v,c,A0,by simp⟩)),_,A9 j L H,uG.2 (np.2 J)⟩
   .exact⟨e,(AD _).2 (.inr ⟨he,Y⟩),L,by rw[AC Y];exact H,J⟩
 have Af:∀{k},k∉I->k∉ρ:=λA' A4=>A' (by rw[AI];exact apT _ A4)
 --BV entry beside shares no block with BK BW
 have Ag:∀e∈m,e.key∉ρ->∀L b,φ e.key=some L->e.cont.dN L b->¬Ef φ m ρ b:=λe he Y L b H J=>
  IG h (Mem.get_of_mem h.nodup he) H J Y
 have hle:φ.le φ':=by
  intro k L H;by_cases A':k∈I
  .obtain⟨i,hi,rfl⟩:=apS.1 A';have Au:I.getD i 0=I[i]:=by simp[hi]
   obtain⟨e,he⟩:=alc.1 (Aq _ A');obtain⟨_,_,BX,Av,AE,_⟩:=h.get he;rw[H]at Av;cases Av;by_cases Aw:i<ρ.length
   .have AX:ρ[i]?=some I[i]:=by simp only[AI];rw[List.getElem_append_left Aw];simp
    have Ax:bs.getD i 0=L.au:=by
     rw[Ad,ahu,ac9 (by rw[vt];exact Aw),Hn,AX];simp[he,AE]
    obtain⟨L',AF,BY,BL⟩:=A3.le i {L with au:=0} (by simp[cC.kB,AX,H,ki]);refine⟨{L' with au:=bs.getD i 0+L'.au},by rw[<-Au];exact A9 i L' AF,by simp only;omega,λAR=>?_⟩;simp only at AR;have AS:=BL (by simp only;omega);have g1:=ahw Loc.au AS;have g2:=ahw Loc.eJ AS;have g3:=ahw Loc.sz AS;have g4:=ahw Loc.cap AS;have g5:=ahw Loc.base AS;simp only at g1 g2 g3 g4 g5⊢;rw[g1,g2,g3,g4,g5,Ax,ahq]
   .have BM:i<M.length:=by omega
    obtain⟨L',AG,_,_⟩:=AW.gZ ⟨0+i,M[i].1,M[i].2⟩ (nR.2 ⟨i,_,_,by simp[BM],rfl⟩);simp only[agT]at AG;have AX:fr[i-ρ.length]?=some I[i]:=by
     simp only[AI]at hi⊢;rw[List.getElem_append_right (by omega)];simp
    have Ax:bs.getD i 0=L.au+1:=by
     rw[Ad,ahu,adb (by rw[vt];omega),vt,Hn,AX];simp[he,AE]
    refine⟨{L' with au:=bs.getD i 0+L'.au},by rw[<-Au];exact A9 i L' AG,by simp only;omega,λAR=>?_⟩;simp only at AR;omega
  .exact⟨L,by rw[AC A'];exact H,aar _,λ_=>rfl⟩
 have Ay:∀b,b<w.heap.size->kV φ' (bV m (kZ I bs 0 M)) b->kV φ m b:=by
  intro b A6 Ah;rcases (Ae b).1 Ah with AF|⟨e,he,_,L,H,J⟩
  .exact ((AQ b).1 (A3.own b A6 AF)).own
  .exact⟨e,he,L,H,J⟩
 have hold:∀b,b<w.heap.size->¬kV φ m b->A8.heap[b]?=w.heap[b]?:=λb A6 Ai=>A3.DU b A6 (λJ=>Ai ((AQ b).1 J).own);have Az:B=[]->∀b,Fo G φ' (bV m (kZ I bs 0 M)) b->Fo (oJ φ G m ρ B) A1 (eO 0 M) b:=by
  rintro rfl b (AH|J)
  .refine .inl ⟨.inl AH,λJ=>h.nJ b J.own AH,?_⟩;rintro ⟨k,A',_⟩;simp at A'
  .rcases (Ae b).1 J with AF|⟨e,he,Y,L,H,B'⟩
   .exact .inr AF
   .refine .inl ⟨.inr ⟨e,he,L,H,B'⟩,Ag e he (Af Y) L b H B',?_⟩;rintro ⟨k,A',_⟩;simp at A'
 have Aj:∀x v,(B=[]\/eZ x=true)->aG A1 A8 (Fo (oJ φ G m ρ B) A1 (eO 0 M)) x v->aG φ' A8 (Fo G φ' (bV m (kZ I bs 0 M))) (up I bs x) v:=
  λx v T AY=>AY.upR A9 (T.imp Az id)
 have B0:∀d v,(B=[]\/kM d=true)->aR A8 (Fo (oJ φ G m ρ B) A1 (eO 0 M)) d v->aR A8 (Fo G φ' (bV m (kZ I bs 0 M))) d v:=λd v T AY=>by
  rcases T with T|T
  .exact AY.mono (λ_ _ _=>rfl) (aar _) (λb _=>Az T b)
  .exact AY.plain T
 refine⟨φ',⟨?_,?_,?_,?_,?_,?_⟩,⟨hle,hold,Ay,A3.size,A3.os,A3.tape,A3.output⟩,Aj⟩
 .rw[nq];exact h.nodup
 .intro k L H;rw[nq];by_cases A':k∈I
  .exact Ar k A'
  .rw[AC A']at H;exact h.ud k L H
 .intro e he;rcases (AD e).1 he with he|⟨he,Y⟩
  .obtain⟨j,v,c,A2,AP,A0,rfl,A5,AE,O⟩:=AN he;refine⟨_,A9 j A2 A5,by simp[AE],?_⟩;have AZ:B=[]\/oZ c=true:=BD.imp id λV=>V (v,c) (ac6 A0);cases c with
   |dead=>trivial
   |box cs=>
    obtain⟨g0,arr,elem,g1,g2,g3,g4⟩:=O;refine⟨by simpa [oH]using g0,arr,elem,g1,by simp[oH,g2],g3,λi c v B1 Z=>?_⟩;rw[xY]at B1;obtain⟨y,A7,rfl⟩:=ac3.1 B1;exact Aj y v (AZ.imp id λV=>nU (by simpa only[oZ]using V) y (ac6 A7)) (g4 i y v A7 Z)
   |vec sz aq=>
    obtain⟨g1,g2,g3,g4⟩:=O;refine⟨g1,g2,g3,λBN=>?_⟩;obtain⟨arr,elem,f1,f2,f3,f4⟩:=g4 BN;exact⟨arr,elem,f1,f2,f3,λi d B2=>let ⟨v,Z,A0⟩:=f4 i d B2;⟨v,B0 d v (AZ.imp id λV=>vq (by simpa only[oZ]using V) d (ac6 B2)) Z,A0⟩⟩
   |vv aq y=>
    refine (nI.mono (up I bs) O (λxs BO d U u hu=>B0 d u (AZ.imp id λV=>?_) hu) (λx T v Z=>Aj x v (AZ.imp id λV=>?_) Z) (λ_ _=>rfl)).au _
    .simp only[oZ,Ds,adp]at V;exact vq (V.1 xs BO) d U
    .simp only[oZ,Ds,T]at V;exact V.2
  .obtain⟨L,H,AE,O⟩:=h.gZ e he;refine⟨L,by rw[AC Y];exact H,AE,O.mono hle (λb A6 Ai=>hold b A6 (λJ=>Ai (.inr J))) A3.size (λb A6=>Or.imp id (Ay b A6)) (λb J=>?_)⟩;exact A3.DU _ (O.lt J) (λA4=>Ag e he (Af Y) L b H J ((AQ _).1 A4))
 .rintro e he e' AJ L L' H AG ⟨b,J,A_⟩;have B3:∀{j v c A2 AK AT},M[j]?=some (v,c)->A1 j=some A2->c.dN A2 b->AK∈m->AK.key∉I->φ AK.key=some AT->AK.cont.dN AT b->False:=by
   intro j v c A2 AK AT A0 A5 O B4 Y B5 B6;have BP:b<w.heap.size:=h.Iq ⟨AK,B4,AT,B5,B6⟩;have AF:kV A1 (eO 0 M) b:=⟨⟨0+j,v,c⟩,nR.2 ⟨j,v,c,A0,rfl⟩,A2,by simpa using A5,O⟩;exact Ag AK B4 (Af Y) AT b B5 B6 ((AQ _).1 (A3.own _ BP AF))
  rcases (AD e).1 he with he|⟨he,Y⟩<;>rcases (AD e').1 AJ with AJ|⟨AJ,Ak⟩
  .obtain⟨j,v,c,A2,AP,A0,rfl,A5,_,_⟩:=AN he;obtain⟨Al,AL,AM,L2',BZ,BQ,rfl,B7,_,_⟩:=AN AJ;simp only[A9 j A2 A5,A9 Al L2' B7,adl]at H AG;subst H;subst AG;have:=AW.apart ⟨0+j,v,c⟩ (nR.2 ⟨j,v,c,A0,rfl⟩) ⟨0+Al,AL,AM⟩ (nR.2 ⟨Al,AL,AM,BQ,rfl⟩) A2 L2' (by simpa using A5) (by simpa using B7) ⟨b,np.1 (uG.1 J),np.1 (uG.1 A_)⟩;simp only[agT]at this;rw[this]
  .obtain⟨j,v,c,A2,AP,A0,rfl,A5,_,_⟩:=AN he;simp only[A9 j A2 A5,adl]at H;subst H;exact (B3 A0 A5 (np.1 (uG.1 J)) AJ Ak (by rw[<-AC Ak];exact AG) A_).elim
  .obtain⟨j,v,c,A2,AP,A0,rfl,A5,_,_⟩:=AN AJ;simp only[A9 j A2 A5,adl]at AG;subst AG;exact (B3 A0 A5 (np.1 (uG.1 A_)) he Y (by rw[<-AC Y];exact H) J).elim
  .exact h.apart e he e' AJ L L' (by rw[<-AC Y];exact H) (by rw[<-AC Ak];exact AG) ⟨b,J,A_⟩
 .intro b Ah AH;rcases (Ae b).1 Ah with AF|⟨e,he,_,L,H,J⟩
  .exact h.nJ b ((AQ b).1 (A3.own b (h.bound b AH) AF)).own AH
  .exact h.nJ _ ⟨e,he,L,H,J⟩ AH
 .exact λb AH=>aly (h.bound b AH) A3.size
end
def fE(S S':St):Prop:=S'.n=S.n/\S'.gl=S.gl/\∀φ G a w,Rel φ G S a w->∃φ',Rel φ' G S' a w/\bn φ S.mem w φ' S'.mem w
def fE.refl(S:St):fE S S:=⟨rfl,rfl,λφ _ _ _ h=>⟨φ,h,bn.refl ..⟩⟩
def fE.trans{S S' AZ:St}(h:fE S S')(k:fE S' AZ):fE S AZ:=
 ⟨k.1.trans h.1,k.2.1.trans h.2.1,λφ G a w AE=>by
  obtain⟨Ae,O,Af⟩:=h.2.2 φ G a w AE;obtain⟨Ag,Ah,Ai⟩:=k.2.2 Ae G a w O;exact⟨Ag,Ah,Af.trans Ai⟩⟩
def UY(S:St)(wS:List Nat):fE S (S.prune wS):=⟨rfl,rfl,λφ _ _ _ h=>⟨φ,h.prune wS,bn.refl ..⟩⟩
def OI{w:World}{φ φ':cC}{m m':Mem}(h:∀b,kV φ' m' b->kV φ m b)(hle:φ.le φ'):bn φ m w φ' m' w:=
 ⟨hle,λ_ _ _=>rfl,λb _ A2=>h b A2,aar _,rfl,rfl,rfl⟩
def uH(H:AV->AV):aF->aF
 | .box cs=>.box (cs.map H)
 | .dead=>.dead
 | .vec sz aq=>.vec sz aq
 | .vv aq y=>.vv aq (y.map H)
def mapM(H:AV->AV)(e':dn):Mem->Mem
 |[]=>[]
 |e::r=>(if e.key=e'.key then e' else ⟨e.key,e.au,uH H e.cont⟩)::mapM H e' r
def rH(H:AV->AV):Env->Env
 |[]=>[]
 |(t,g,x)::r=>(t,g,H x)::rH H r
def Eg(H:AV->AV):∀(env:Env)(t:Nat)(g:Bool)(y:AV),Env.lk (rH H env) t=some (g,y)->∃x,Env.lk env t=some (g,x)/\y=H x
 |[],t,g,y,h=>by simp[rH,Env.lk]at h
 |(Aj,B7,AL)::r,t,g,y,h=>by
  simp only[rH,Env.lk]at h⊢;by_cases A_:Aj=t
  .subst A_;simp at h⊢;obtain⟨rfl,rfl⟩:=h;simp
  .simp only[A_,adN]at h⊢;exact Eg H r t g y h
def Eh(H:AV->AV)(e':dn):∀m:Mem,(mapM H e' m).map (·.key)=m.map (·.key)
 |[]=>rfl
 |e::r=>by
  simp only[mapM,adz,Eh H e' r];congr 1;split
  .rename_i h;exact h.symm
  .rfl
def mapM_mem{H:AV->AV}{e':dn}:∀{m:Mem}{x:dn},x∈mapM H e' m↔∃e∈m,x=if e.key=e'.key then e' else ⟨e.key,e.au,uH H e.cont⟩
 |[],x=>by simp[mapM]
 |e::r,x=>by simp[mapM,mapM_mem (m:=r)]
def oh{H L c b}:(uH H c).dN L b↔c.dN L b:=by cases c<;>exact amT
def St.Ei(S:St)(H:AV->AV)(e':dn):St:={S with env:=rH H S.env,mem:=mapM H e' S.mem}
def OJ{φ:cC}{G S a w}(h:Rel φ G S a w)(H:AV->AV){e e':dn}(he:e∈S.mem){L L':Loc}(V:φ e.key=some L)(A9:e'.key=e.key)
 (U:L.au<L'.au) (Ak:L'.au=e'.au) (Aa:∀b,e'.cont.dN L' b->e.cont.dN L b)
 (Al:∀(φ':cC)(F':Nat->Prop),φ' e.key=some L'->(∀k,k≠e.key->φ' k=φ k)->(∀b,F' b->Fo G φ S.mem b)->(∀b,¬e'.cont.dN L' b->e.cont.dN L b->¬F' b)->∀x v,aG φ w (Fo G φ S.mem) x v->aG φ' w F' (H x) v)
 (I:∀(φ':cC)(F':Nat->Prop),(∀b,F' b->Fo G φ S.mem b)->fB φ' w F' L' e'.cont):
 ∃φ',Rel φ' G (S.Ei H e') a w/\bn φ S.mem w φ' (S.Ei H e').mem w:=by
 have hm:=h.mem;obtain⟨φ',Ab⟩:∃φ':cC,φ'=λk=>if k=e.key then some L' else φ k:=⟨_,rfl⟩
 have A1:φ' e.key=some L':=by simp[Ab]
 have A3:∀k,k≠e.key->φ' k=φ k:=λk J=>by simp[Ab,J]
 have hle:φ.le φ':=by
  intro k AG A8;by_cases J:k=e.key
  .subst J;rw[V]at A8;cases A8;exact⟨L',A1,by omega,λhh=>by omega⟩
  .exact⟨AG,by rw[A3 k J];exact A8,aar _,λ_=>rfl⟩
 have AQ:∀b,kV φ' (mapM H e' S.mem) b->kV φ S.mem b:=by
  rintro b ⟨x,Y,AP,A4,AA⟩;obtain⟨y,T,rfl⟩:=mapM_mem.1 Y;by_cases J:y.key=e'.key
  .simp only[J,ad7]at A4 AA;rw[A9,A1]at A4;cases A4;exact⟨e,he,L,V,Aa b AA⟩
  .simp only[J,adN]at A4 AA;rw[A9]at J;rw[A3 _ J]at A4;exact⟨y,T,AP,A4,oh.1 AA⟩
 have Z:∀b,Fo G φ' (mapM H e' S.mem) b->Fo G φ S.mem b:=λb=>Or.imp id (AQ b);have AR:∀b,¬e'.cont.dN L' b->e.cont.dN L b->¬Fo G φ' (mapM H e' S.mem) b:=by
  rintro b An A2 (Ao|⟨x,Y,AP,A4,AA⟩)
  .exact hm.nJ _ ⟨e,he,L,V,A2⟩ Ao
  .obtain⟨y,T,rfl⟩:=mapM_mem.1 Y;by_cases J:y.key=e'.key
   .simp only[J,ad7]at A4 AA;rw[A9,A1]at A4;cases A4;exact An AA
   .simp only[J,adN]at A4 AA;rw[A9]at J;rw[A3 _ J]at A4;exact J (hm.apart y T e he AP L A4 V ⟨b,oh.1 AA,A2⟩)
 have AS:=Al φ' (Fo G φ' (mapM H e' S.mem)) A1 A3 Z AR;refine⟨φ',⟨h.size,h.defers,?_,⟨?_,?_,?_,?_,?_,?_⟩,h.nK.mono (λ_ _ _=>rfl) (aar _) (λb _=>Z b)⟩,OI AQ hle⟩
 .intro t x Y;obtain⟨y,T,rfl⟩:=Eg H S.env t true x Y;exact AS _ _ (h.env t y T)
 .show ((mapM H e' S.mem).map (·.key)).Nodup;rw[Eh];exact hm.nodup
 .intro k AG A8;show k∈(mapM H e' S.mem).map (·.key);rw[Eh];by_cases J:k=e.key
  .subst J;exact adP he
  .rw[A3 k J]at A8;exact hm.ud k AG A8
 .intro x Y;obtain⟨y,T,rfl⟩:=mapM_mem.1 Y;by_cases J:y.key=e'.key
  .simp only[J,ad7];exact⟨L',by rw[A9];exact A1,Ak,I _ _ Z⟩
  .simp only[J,adN];obtain⟨Ap,Aq,Ar,AH⟩:=hm.gZ y T;refine⟨Ap,by rw[A3 _ (by rw[<-A9];exact J)];exact Aq,Ar,?_⟩;cases AT:y.cont with
   |dead=>trivial
   |box cs=>
    rw[AT]at AH;obtain⟨g0,arr,elem,g1,g2,g3,g4⟩:=AH;refine⟨by simpa using g0,arr,elem,g1,by simp[g2],g3,λi c v Ac U=>?_⟩;rw[adn]at Ac;obtain⟨z,AM,rfl⟩:=ac3.1 Ac;exact AS z v (g4 i z v AM U)
   |vec sz aq=>
    rw[AT]at AH;obtain⟨g1,g2,g3,g4⟩:=AH;refine⟨g1,g2,g3,λA8=>?_⟩;obtain⟨arr,elem,f1,f2,f3,f4⟩:=g4 A8;exact⟨arr,elem,f1,f2,f3,λi d As=>let ⟨v,U,AU⟩:=f4 i d As;⟨v,U.mono (λ_ _ _=>rfl) (aar _) (λb _=>Z b),AU⟩⟩
   |vv aq y=>
    rw[AT]at AH;exact nI.mono H AH (λ_ _ _ _ u hu=>hu.mono (λ_ _ _=>rfl) (aar _) (λb _=>Z b)) (λx _ v Y=>AS x v Y) (λ_ _=>rfl)
 .rintro x Y AL At AP B8 A4 Au ⟨b,A2,Av⟩;obtain⟨y,T,rfl⟩:=mapM_mem.1 Y;obtain⟨B9,Aw,rfl⟩:=mapM_mem.1 At;have pull:∀{z:dn}{AI:Loc},z∈S.mem->φ' (if z.key=e'.key then e' else ⟨z.key,z.au,uH H z.cont⟩:dn).key=some AI->(if z.key=e'.key then e' else ⟨z.key,z.au,uH H z.cont⟩:dn).cont.dN AI b->
   ∃z0∈S.mem,∃AG,φ z0.key=some AG/\z0.cont.dN AG b/\(if z.key=e'.key then e' else ⟨z.key,z.au,uH H z.cont⟩:dn).key=z0.key:=by
   intro z AI AM AB AJ;by_cases J:z.key=e'.key
   .simp only[J,ad7]at AB AJ⊢;rw[A9,A1]at AB;cases AB;exact⟨e,he,L,V,Aa b AJ,A9⟩
   .simp only[J,adN]at AB AJ⊢;rw[A9]at J;rw[A3 _ J]at AB;exact⟨z,AM,AI,AB,oh.1 AJ,rfl⟩
  obtain⟨z,AM,AI,AB,AJ,Ax⟩:=pull T A4 A2;obtain⟨Ay,Az,B',B0,B1,B2⟩:=pull Aw Au Av;rw[Ax,B2];exact hm.apart z AM Ay Az AI B' AB B0 ⟨b,AJ,B1⟩
 .exact λb AN=>hm.nJ b (AQ b AN)
 .exact hm.bound
mutual
def oK(k v off len:Nat):AV->AV
 | .vec AC AD o l=>if AC=k/\AD=v/\off<=o/\o+l<=off+len then .vec k (v+1) (o-off) l else .vec AC AD o l
 | .dD AC AD i j=>if AC=k/\AD=v/\off<=i then .dD k (v+1) (i-off) j else .dD AC AD i j
 | .agg cs=>.agg (r6 k v off len cs)
 | .fn f cap=>.fn f (r6 k v off len cap)
 | .bq vs=>.bq (r6 k v off len vs)
 | .bH=>.bH
 | .d x=>.d x
 | .ptr a b c=>.ptr a b c
 | .fg x j=>.fg x j
 | .jG t x=>.jG t x
 | .lit v=>.lit v
 | .nn=>.nn
 | .err=>.err
def r6(k v off len:Nat):List AV->List AV
 |[]=>[]
 |x::r=>oK k v off len x::r6 k v off len r
end
def vW(k v off len):∀(l:List AV)(i:Nat),(r6 k v off len l)[i]?=(l[i]?).map (oK k v off len)
 |[],i=>by simp[r6]
 |x::r,i=>by cases i with|zero=>simp[r6]|succ i=>simp[r6,vW k v off len r i]
def p1(k v off len):∀(l:List AV),(r6 k v off len l).length=l.length
 |[]=>rfl
 |x::r=>by simp[r6,p1 k v off len r]
def St.trim(S:St)(k off len:Nat):St:=
 match Mem.get S.mem k with
 |some ⟨_,v,.vec sz aq⟩=>if off+len<=aq.length then S.Ei (oK k v off len) ⟨k,v+1,.vec sz ((aq.drop off).take len)⟩else S
 |_=>S
def LO(S:St)(k off len:Nat):fE S (S.trim k off len):=by
 unfold St.trim;split
 .rename_i key v sz aq AW;split
  .rename_i hle;refine⟨rfl,rfl,λφ G a w AE=>?_⟩;obtain⟨hm,J,L,V,AK,AO⟩:=AE.mem.get AW;simp only at J AK AO;subst J;obtain⟨g1,g2,g3,g4⟩:=AO;refine OJ AE (oK key v off len) (e:=⟨key,v,.vec sz aq⟩) (e':=⟨key,v+1,.vec sz ((aq.drop off).take len)⟩) hm V rfl (L':=⟨v+1,L.eJ,L.sz,L.cap-off,L.base+off*L.sz,[]⟩)
    (by simp only;omega) rfl (λb A2=>⟨by have:=A2.1;simp only at this;omega,A2.2⟩) ?_ ?_
   .intro φ' F' A1 A3 Z _ x u Y;induction Y with
    |bH v=>exact .bH v
    |d x v h=>exact .d x v (h.mono (λ_ _ _=>rfl) (aar _) (λb _=>Z b))
    |agg cs a A5 O _ ih=>
     refine .agg _ a (by rw[p1];exact A5) O (λi c v I U=>?_);rw[vW]at I;obtain⟨y,T,rfl⟩:=ac3.1 I;exact ih i y v T U
    |ptr A' au o v2 A7 M A6 h O=>
     unfold oK;by_cases A0:A'=key
     .subst A0;rw[V]at M;cases M;exact .ptr _ au o v2 _ A1 (by simp only;omega) (λhe=>by simp only at he;omega) O
     .exact .ptr A' au o v2 A7 (by rw[A3 _ A0];exact M) A6 h O
    |vec A' au o l v2 A7 M A6 h O=>
     unfold oK;split
     .rename_i I;obtain⟨rfl,rfl,A2,Ad⟩:=I;rw[V]at M;cases M;refine .vec _ _ _ l v2 _ A1 (aar _) (λ_=>?_) O;obtain⟨a0,cap,rfl,B3,B4⟩:=h AK.symm;refine⟨a0,cap,rfl,B3,λB5=>?_⟩;obtain⟨rfl,BA⟩:=B4 B5;refine⟨?_,by simp only;omega⟩;congr 2;show L.base+o*L.sz=L.base+off*L.sz+(o-off)*L.sz;rw[adv,<-agW];congr 2;omega
     .by_cases A0:A'=key
      .subst A0;rw[V]at M;cases M;exact .vec _ au o l v2 _ A1 (by simp only;omega) (λhe=>by simp only at he;omega) O
      .exact .vec A' au o l v2 A7 (by rw[A3 _ A0];exact M) A6 h O
    |dD A' au i j v2 A7 M A6 h O=>
     unfold oK;split
     .rename_i I;obtain⟨rfl,rfl,A2⟩:=I;rw[V]at M;cases M;refine .dD _ _ _ j v2 _ A1 (aar _) (λ_=>?_) O;rw[h AK.symm];congr 3;show L.base+i*L.sz+j=L.base+off*L.sz+(i-off)*L.sz+j;rw[adv L.base (off*L.sz),<-agW];congr 3;omega
     .by_cases A0:A'=key
      .subst A0;rw[V]at M;cases M;exact .dD _ au i j v2 _ A1 (by simp only;omega) (λhe=>by simp only at he;omega) O
      .exact .dD A' au i j v2 A7 (by rw[A3 _ A0];exact M) A6 h O
    |fg x j b o AL AN AX Y I=>exact .fg x j b o AL AN (λh=>AX (Z b h)) (Y.mono (λ_ _ _=>rfl) (aar _) (λb _=>Z b)) I
    |fn f cap a AY A5 _ ih=>
     refine .fn f _ a AY (by rw[p1];exact A5) (λi c v I U=>?_);rw[vW]at I;obtain⟨y,T,rfl⟩:=ac3.1 I;exact ih i y v T U
    |xf f cap a A5 _ ih=>
     refine .xf f _ a (by rw[p1];exact A5) (λi c v I U=>?_);rw[vW]at I;obtain⟨y,T,rfl⟩:=ac3.1 I;exact ih i y v T U
    |bq vs a A5 _ ih=>
     refine .bq _ a (by rw[p1];exact A5) (λi c v I U=>?_);rw[vW]at I;obtain⟨y,T,rfl⟩:=ac3.1 I;exact ih i y v T U
    |jG t x v h=>exact .jG t x v (h.mono (λ_ _ _=>rfl) (aar _) (λb _=>Z b))
    |lit v h=>exact .lit v h
    |nn a cap=>exact .nn a cap
    |err t v=>exact .err t v
   .intro φ' F' Z;refine⟨g1,by simp only[ag6,agU];omega,λd AF=>g3 d (adx (adw AF)),λA8=>?_⟩;simp only at A8;obtain⟨arr,elem,f1,f2,f3,f4⟩:=g4 (by omega);refine⟨arr,elem,f1,?_,f3,λi d AF=>?_⟩
    .rw[f2];show L.base+L.cap*L.sz=L.base+off*L.sz+(L.cap-off)*L.sz;rw[adv,<-agW];congr 2;omega
    .rw[adq]at AF;split at AF
     .rw[adR]at AF;obtain⟨v,U,AU⟩:=f4 _ d AF;refine⟨v,U.mono (λ_ _ _=>rfl) (aar _) (λb _=>Z b),λj c B6=>?_⟩;have:=AU j c B6;rw[agW]at this;rw[<-adv L.base]at this;exact this
     .cases AF
  .exact fE.refl S
 .exact fE.refl S
mutual
def nV(k v:Nat)(aq:List D):AV->AV
 | .vec AC AD o l=>if AC=k/\AD=v/\o+l<=aq.length then .d (.list ((aq.drop o).take l))else .vec AC AD o l
 | .agg cs=>.agg (r9 k v aq cs)
 | .fn f cap=>.fn f (r9 k v aq cap)
 | .bq vs=>.bq (r9 k v aq vs)
 | .dD a b c d=>.dD a b c d
 | .bH=>.bH
 | .d x=>.d x
 | .ptr a b c=>.ptr a b c
 | .fg x j=>.fg x j
 | .jG t x=>.jG t x
 | .lit v=>.lit v
 | .nn=>.nn
 | .err=>.err
def r9(k v:Nat)(aq:List D):List AV->List AV
 |[]=>[]
 |x::r=>nV k v aq x::r9 k v aq r
end
def vX(k v aq):∀(l:List AV)(i:Nat),(r9 k v aq l)[i]?=(l[i]?).map (nV k v aq)
 |[],i=>by simp[r9]
 |x::r,i=>by cases i with|zero=>simp[r9]|succ i=>simp[r9,vX k v aq r i]
def p5(k v aq):∀(l:List AV),(r9 k v aq l).length=l.length
 |[]=>rfl
 |x::r=>by simp[r9,p5 k v aq r]
def St.freeze(S:St)(k:Nat):St:=
 match Mem.get S.mem k with
 |some ⟨_,v,.vec _ aq⟩=>S.Ei (nV k v aq) ⟨k,v+1,.dead⟩
 |_=>S
def RQ(S:St)(k:Nat):fE S (S.freeze k):=by
 unfold St.freeze;split
 .rename_i key v sz aq AW;refine⟨rfl,rfl,λφ G a w AE=>?_⟩;obtain⟨hm,J,L,V,AK,AO⟩:=AE.mem.get AW;simp only at J AK AO;subst J;refine OJ AE (nV key v aq) (e:=⟨key,v,.vec sz aq⟩) (e':=⟨key,v+1,.dead⟩) hm V rfl (L':={L with au:=v+1})
   (by simp only;omega) rfl (λ_ A2=>A2.elim) ?_ (λ_ _ _=>trivial)
  intro φ' F' A1 A3 Z AR x u Y;induction Y with
  |bH v=>exact .bH v
  |d x v h=>exact .d x v (h.mono (λ_ _ _=>rfl) (aar _) (λb _=>Z b))
  |agg cs a A5 O _ ih=>
   refine .agg _ a (by rw[p5];exact A5) O (λi c v I U=>?_);rw[vX]at I;obtain⟨y,T,rfl⟩:=ac3.1 I;exact ih i y v T U
  |ptr A' au o v2 A7 M A6 h O=>
   unfold nV;by_cases A0:A'=key
   .subst A0;rw[V]at M;cases M;exact .ptr _ au o v2 _ A1 (by simp only;omega) (λhe=>by simp only at he;omega) O
   .exact .ptr A' au o v2 A7 (by rw[A3 _ A0];exact M) A6 h O
  |vec A' au o l v2 A7 M A6 h O=>
   unfold nV;split
   .rename_i I;obtain⟨rfl,rfl,Ad⟩:=I;rw[V]at M;cases M;exact .d _ _ (Hm (.vec _ _ o l v2 L V A6 h O) V AK AO Ad Z (λA2=>AR _ (λhh=>hh) ⟨A2,rfl⟩))
   .by_cases A0:A'=key
    .subst A0;rw[V]at M;cases M;exact .vec _ au o l v2 _ A1 (by simp only;omega) (λhe=>by simp only at he;omega) O
    .exact .vec A' au o l v2 A7 (by rw[A3 _ A0];exact M) A6 h O
  |dD A' au i j v2 A7 M A6 h O=>
   unfold nV;by_cases A0:A'=key
   .subst A0;rw[V]at M;cases M;exact .dD _ au i j v2 _ A1 (by simp only;omega) (λhe=>by simp only at he;omega) O
   .exact .dD A' au i j v2 A7 (by rw[A3 _ A0];exact M) A6 h O
  |fg x j b o AL AN AX Y I=>exact .fg x j b o AL AN (λh=>AX (Z b h)) (Y.mono (λ_ _ _=>rfl) (aar _) (λb _=>Z b)) I
  |fn f cap a AY A5 _ ih=>
   refine .fn f _ a AY (by rw[p5];exact A5) (λi c v I U=>?_);rw[vX]at I;obtain⟨y,T,rfl⟩:=ac3.1 I;exact ih i y v T U
  |xf f cap a A5 _ ih=>
   refine .xf f _ a (by rw[p5];exact A5) (λi c v I U=>?_);rw[vX]at I;obtain⟨y,T,rfl⟩:=ac3.1 I;exact ih i y v T U
  |bq vs a A5 _ ih=>
   refine .bq _ a (by rw[p5];exact A5) (λi c v I U=>?_);rw[vX]at I;obtain⟨y,T,rfl⟩:=ac3.1 I;exact ih i y v T U
  |jG t x v h=>exact .jG t x v (h.mono (λ_ _ _=>rfl) (aar _) (λb _=>Z b))
  |lit v h=>exact .lit v h
  |nn a cap=>exact .nn a cap
  |err t v=>exact .err t v
 .exact fE.refl S
def Ej(P:Program)(S:St):ResultVar->ep
 | .tmp t=>.val (S.aw (.tmp t)).1 (S.aw (.tmp t)).2
 | .cell p t=>match pG P S.mem t (S.aw (.tmp p)).2 with
  | .val c x=>.val ((S.aw (.tmp p)).1&&c) x
  |_=>.no
def yB(P:Program)(S:St):List ResultVar->Option (Bool×List AV)
 |[]=>some (true,[])
 |r::rs=>match Ej P S r with
  | .val c x=>match yB P S rs with
   |some (AR,xs)=>some (c&&AR,x::xs)
   |none=>none
  |_=>none
def oneOf:List AV->AV
 |[x]=>x
 |xs=>.bq xs
def Ek(tmps:Array Value):ResultVar->Sem Value
 | .tmp t=>pure (tmps.getD t undef)
 | .cell a t=>do loadVar t (<-asAddr (tmps.getD a undef))
def U1{P:Program}{S:St}{r:ResultVar}{c:Bool}{x:AV}(h:Ej P S r=.val c x)(O:c=true){φ G a w}(A6:Rel φ G S a w):
 ∃v,(Ek a.tmps r).run P w=.ok v w/\aG φ w (Fo G φ S.mem) x v:=by
 unfold Ej at h;split at h
 .rename_i t;simp only[ep.val.injEq]at h;obtain⟨rfl,rfl⟩:=h;exact⟨_,rfl,A6.aw (.tmp t) O⟩
 .rename_i p t;split at h
  .rename_i AR B' A7;simp only[ep.val.injEq]at h;obtain⟨rfl,rfl⟩:=h;simp only[Ds]at O;have:=Sp P S {dst:=none,op:=.load t (.tmp p),type:=0,pos:= "",after:=#[],guard:=none} t (.tmp p) rfl O.1;rw[A7]at this;obtain⟨v,Z,Ag⟩:=this O.2 φ G a w A6;have Ah:a.eval (.tmp p)=a.tmps.getD p undef:=rfl;simp only[execOp,Instr.loadAt,Ah]at Z;cases AL:a.tmps.getD p undef with
   |pointer AM=>
    rw[AL]at Z;cases AM with
    |none=>simp[Instr.sureAddr,stuck]at Z
    |some AM=>
     simp only[Instr.sureAddr,Sem.run_bind,Sem.run_pure,Result.andThen_ok]at Z;generalize Ai:(loadVar t AM).run P w=q at Z;cases q with
     |halt _ _=>simp at Z
     |ok v2 B0=>
      simp at Z;obtain⟨rfl,rfl⟩:=Z;refine⟨v2,?_,Ag⟩;simp only[Ek,AL,asAddr,Sem.run_bind,Sem.run_pure,Result.andThen_ok,Ai]
   |_=>rw[AL]at Z;simp[Instr.sureAddr,stuck]at Z
  .cases h
def Cr{P:Program}{S:St}{φ G a w}(A6:Rel φ G S a w):∀(rs:List ResultVar)(c:Bool)(xs:List AV),yB P S rs=some (c,xs)->c=true->
 ∃vs:List Value,(rs.mapM (Ek a.tmps)).run P w=.ok vs w/\xs.length=vs.length/\
  ∀(i:Nat) x v,xs[i]?=some x->vs[i]?=some v->aG φ w (Fo G φ S.mem) x v
 |[],c,xs,h,_=>by
  simp only[yB,adl,aeb]at h;obtain⟨_,rfl⟩:=h;exact⟨[],by simp,rfl,by simp⟩
 |r::rs,c,xs,h,O=>by
  simp only[yB]at h;split at h
  .rename_i B1 x J;split at h
   .rename_i Aj Ak Al;simp only[adl,aeb]at h;obtain⟨rfl,rfl⟩:=h;simp only[Ds]at O;obtain⟨v,A8,AB⟩:=U1 J O.1 A6;obtain⟨vs,AN,A',AC⟩:=Cr (P:=P) A6 rs Aj Ak Al O.2;refine⟨v::vs,?_,by simp[A'],λi x v h AO=>?_⟩
    .rw[List.mapM_cons];simp only[Sem.run_bind,A8,Result.andThen_ok,AN,Sem.run_pure]
    .cases i with
     |zero=>simp at h AO;subst h;subst AO;exact AB
     |succ i=>exact AC i x v (by simpa using h) (by simpa using AO)
   .cases h
  .cases h
mutual
def pN(k v:Nat):AV->Option (Nat×Nat)
 | .vec An Ao o l=>if An=k/\Ao=v then some (o,l)else none
 | .agg cs=>yC k v cs
 | .fn _ cap=>yC k v cap
 | .bq vs=>yC k v vs
 | .dD _ _ _ _=>none
 | .bH=>none
 | .d _=>none
 | .ptr _ _ _=>none
 | .fg _ _=>none
 | .jG _ _=>none
 | .lit _=>none
 | .nn=>none
 | .err=>none
def yC(k v:Nat):List AV->Option (Nat×Nat)
 |[]=>none
 |x::r=>match pN k v x with
  |some p=>some p
  |none=>yC k v r
end
def Bq(k v:Nat):Mem->Option (Nat×Nat)
 |[]=>none
 |⟨_,_,.box cs⟩::r=>match yC k v cs with
  |some p=>some p
  |none=>Bq k v r
 |_::r=>Bq k v r
def IN(k v:Nat):Env->Option (Nat×Nat)
 |[]=>none
 |(_,_,x)::r=>match pN k v x with
  |some p=>some p
  |none=>IN k v r
def St.Cs(S:St)(k:Nat):St:=
 match Mem.get S.mem k with
 |some ⟨_,v,.vec _ _⟩=>match Bq k v S.mem with
  |some (o,l)=>S.trim k o l
  |none=>match IN k v S.env with
   |some (o,l)=>S.trim k o l
   |none=>S
 |_=>S
def IP(S:St)(k:Nat):fE S (S.Cs k):=by
 unfold St.Cs;split
 .split
  .exact LO ..
  .split
   .exact LO ..
   .exact fE.refl S
 .exact fE.refl S
def St.Ct(S:St):List Nat->St
 |[]=>S
 |k::r=>(S.Cs k).Ct r
def IQ:∀(l:List Nat)(S:St),fE S (S.Ct l)
 |[],S=>fE.refl S
 |k::r,S=>(IP S k).trans (IQ r _)
mutual
def jK:AV->List Nat
 | .ptr k _ _=>[k]
 | .vec k _ _ _=>[k]
 | .dD k _ _ _=>[k]
 | .agg cs=>kr cs
 | .fn _ cap=>kr cap
 | .bq vs=>kr vs
 | .bH=>[]
 | .d _=>[]
 | .fg _ _=>[]
 | .jG _ _=>[]
 | .lit _=>[]
 | .nn=>[]
 | .err=>[]
def kr:List AV->List Nat
 |[]=>[]
 |x::r=>jK x++kr r
end
def oL:Option dn->List Nat
 |some ⟨_,_,.box cs⟩=>kr cs
 |some ⟨_,_,.vv _ (some x)⟩=>jK x
 |_=>[]
def collect(m:Mem):Nat->List Nat->List Nat->List Nat
 |0,_,M=>M
 |_+1,[],M=>M
 |n+1,k::todo,M=>match M.contains k||(Mem.get m k).isNone with
  |true=>collect m n todo M
  |false=>collect m n (todo++oL (Mem.get m k)) (M++[k])
def te(m:Mem):∀(n:Nat)(todo M:List Nat),M.Nodup->(∀k∈M,(Mem.get m k).isSome=true)->(collect m n todo M).Nodup/\∀k∈collect m n todo M,(Mem.get m k).isSome=true
 |0,todo,M,h,A2=>⟨h,A2⟩
 |n+1,[],M,h,A2=>⟨h,A2⟩
 |n+1,k::todo,M,h,A2=>by
  simp only[collect];split
  .exact te m n todo M h A2
  .rename_i O;simp only[Bool.or_eq_false_iff,List.contains_eq_mem,aed,Option.isNone_eq_false_iff]at O;refine te m n _ _ ?_ ?_
   .rw[List.nodup_append];exact⟨h,by simp,λa A9 b U AD=>by simp at U;subst U;subst AD;exact O.1 A9⟩
   .intro x J;rcases ada.1 J with J|J
    .exact A2 x J
    .simp at J;subst J;exact O.2
def dead(k:Nat):dn:=⟨k,0,.dead⟩
def cC.add(φ:cC)(ks:List Nat):cC:=λk=>if k∈ks then some ⟨0,0,0,0,0,[]⟩else φ k
def FH{φ:cC}{m:Mem}{ks:List Nat}(T:∀k∈ks,k∉m.map (·.key))(b:Nat):kV (φ.add ks) (m++ks.map dead) b↔kV φ m b:=by
 constructor
 .rintro ⟨e,he,L,I,V⟩;rcases ada.1 he with he|he
  .have:e.key∉ks:=λh=>T _ h (adP he);simp only[cC.add,this,adN]at I;exact⟨e,he,L,I,V⟩
  .simp only[adk]at he;obtain⟨k,_,rfl⟩:=he;exact V.elim
 .rintro ⟨e,he,L,I,V⟩;have:e.key∉ks:=λh=>T _ h (adP he);exact⟨e,apT _ he,L,by simp[cC.add,this,I],V⟩
def ahp{φ:cC}{G}{m:Mem}{ks:List Nat}(T:∀k∈ks,k∉m.map (·.key)):Fo G (φ.add ks) (m++ks.map dead)=Fo G φ m:=by
 funext b;simp only[Fo,FH T b]
def OK{φ:cC}{G m w}(h:bK φ G m w){ks:List Nat}(T:∀k∈ks,k∉m.map (·.key)):φ.le (φ.add ks):=by
 intro k L I;have:k∉ks:=λY=>T k Y (h.ud k L I);exact⟨L,by simp[cC.add,this,I],aar _,λ_=>rfl⟩
def bK.add{φ G m w}(h:bK φ G m w){ks:List Nat}(Ap:ks.Nodup)(T:∀k∈ks,k∉m.map (·.key)):bK (φ.add ks) G (m++ks.map dead) w:=by
 have hle:=OK h T;have Aq:=ahp (φ:=φ) (G:=G) T;refine⟨?_,?_,?_,?_,?_,h.bound⟩
 .rw[alH,List.nodup_append];have e:(ks.map dead).map (·.key)=ks:=by simp[Function.comp_def,dead]
  rw[e];exact⟨h.nodup,Ap,λa A9 b U AD=>T b U (AD▸A9)⟩
 .intro k L I;simp only[cC.add]at I;split at I
  .rename_i Y;rw[alH];refine List.mem_append_right _ ?_;rw[List.map_map];exact adk.2 ⟨k,Y,rfl⟩
  .rw[alH];exact apT _ (h.ud k L I)
 .intro e he;rw[Aq];rcases ada.1 he with he|he
  .obtain⟨L,I,AP,O⟩:=h.gZ e he;have:e.key∉ks:=λh=>T _ h (adP he);exact⟨L,by simp[cC.add,this,I],AP,O.mono hle (λ_ _ _=>rfl) (aar _) (λ_ _ h=>h) (λ_ _=>rfl)⟩
  .simp only[adk]at he;obtain⟨k,Y,rfl⟩:=he;exact⟨⟨0,0,0,0,0,[]⟩,by simp[cC.add,dead,Y],rfl,trivial⟩
 .rintro e he e' A0 L L' I AS ⟨b,V,AT⟩;rcases ada.1 he with he|he
  .rcases ada.1 A0 with A0|A0
   .have A8:e.key∉ks:=λh=>T _ h (adP he);have AB:e'.key∉ks:=λh=>T _ h (adP A0);simp only[cC.add,A8,AB,adN]at I AS;exact h.apart e he e' A0 L L' I AS ⟨b,V,AT⟩
   .simp only[adk]at A0;obtain⟨k,_,rfl⟩:=A0;exact AT.elim
  .simp only[adk]at he;obtain⟨k,_,rfl⟩:=he;exact V.elim
 .intro b U Ar;exact h.nJ b ((FH T b).1 U) Ar
def ku:Nat->List AV->Env
 |_,[]=>[]
 |i,x::r=>(i,true,x)::ku (i+1) r
def Cu:∀(i:Nat)(xs:List AV)(t:Nat)(y:Bool×AV),Env.lk (ku i xs) t=some y->∃j,t=i+j/\xs[j]?=some y.2
 |i,[],t,y,h=>by simp[ku,Env.lk]at h
 |i,x::r,t,y,h=>by
  simp only[ku,Env.lk]at h;by_cases A3:i=t
  .subst A3;simp at h;subst h;exact⟨0,rfl,rfl⟩
  .simp only[A3,adN]at h;obtain⟨j,rfl,AE⟩:=Cu (i+1) r t y h;exact⟨j+1,by omega,by simpa using AE⟩
def fh:Nat->List aF->Mem
 |_,[]=>[]
 |i,c::r=>⟨i,0,c⟩::fh (i+1) r
def OL:∀(cs:List aF)(i:Nat),fh i cs=eO i (cs.map λc=>(0,c))
 |[],i=>rfl
 |c::r,i=>by simp[fh,eO,OL r]
def entry(n:Nat)(gl:List (Nat×D))(args:List AV)(cs:List aF)(sites:List Nat):St:={n,gl,env:=ku 0 args,mem:=fh 0 cs++sites.map dead}
def IS(H:Nat)(i v:Nat):Nat:=if i<H then (if v=0 then 0 else 1)else 0
structure il where
 aqY:List Nat
 exp:Bool
 sites:List Nat
 AF:List Nat
 split:Bool
def uI(p:il)(H:Nat)(m:Mem)(xs:List AV):List Nat:=
 match p.exp with
 |true=>List.range H++(collect m 64 (kr xs++List.range H) []).filter (λk=>!decide (k<H))
 |false=>List.range H
def ph:Env->List AV
 |[]=>[]
 |(_,_,x)::r=>x::ph r
def GK:Bool->AV->AV
 |true,x=>x
 |false,x=>x.norm
def aG.GK{b:Bool}{φ w F x v}(h:aG φ w F x v):aG φ w F (GK b x) v:=by
 cases b
 .exact h.norm
 .exact h
def OM(b:Bool)(K:List Nat)(H:Nat)(S:St)(one:List AV->Out):Option (Out×List (Nat×aF)):=
 if K.all (λk=>(Mem.get S.mem k).isSome)then some (one ((ph S.env).map λx=>GK b (vw S.mem K (λ_=>true) (IS H) x)),fS S.mem K (λ_=>true) (IS H) 0 K)else none
def FI(p:il)(K:List Nat)(S:St):St:=S.Ct (K.filter λk=>!p.aqY.contains k)
def uJ(p:il)(H:Nat)(S:St)(xs:List AV)(one:List AV->Out):Option (Out×List (Nat×aF)):=
 let K:=uI p H S.mem xs
 OM (p.AF.contains 1000) K H (FI p K {S with n:=xs.length,env:=ku 0 xs}) one
def finish(P:Program)(p:il)(H:Nat)(rs:List ResultVar)(S:St):Option (Out×List (Nat×aF)):=
 match yB P S rs with
 |some (c,xs)=>if c=true then uJ p H S xs (λAA=>.ret (oneOf AA))else none
 |none=>none
def Cv(p:il)(H:Nat)(t:TypeId)(x:D)(S:St):Option (Out×List (Nat×aF)):=uJ p H S [] (λ_=>.panic t x)
def iZ:Env->List (Nat×Bool)
 |[]=>[]
 |(t,g,_)::r=>(t,g)::iZ r
def GL(AU:AV->AV):∀env:Env,iZ (rH AU env)=iZ env
 |[]=>rfl
 |(t,g,x)::r=>by simp[rH,iZ,GL AU r]
def LP(S:St)(k o l:Nat):iZ (S.trim k o l).env=iZ S.env:=by
 unfold St.trim;split
 .split
  .exact GL _ _
  .rfl
 .rfl
def U2(S:St)(k:Nat):iZ (S.Cs k).env=iZ S.env:=by
 unfold St.Cs;split
 .split
  .exact LP ..
  .split
   .exact LP ..
   .rfl
 .rfl
def IT:∀(l:List Nat)(S:St),iZ (S.Ct l).env=iZ S.env
 |[],S=>rfl
 |k::r,S=>by rw[St.Ct,IT r,U2]
def IU:∀(i:Nat)(xs:List AV),iZ (ku i xs)=(List.range' i xs.length).map λj=>(j,true)
 |i,[]=>rfl
 |i,x::r=>by simp[ku,iZ,IU (i+1) r,aie]
def SD:∀(env:Env)(i n j:Nat),iZ env=(List.range' i n).map (λj=>(j,true))->∀x,(ph env)[j]?=some x->Env.lk env (i+j)=some (true,x)
 |[],i,n,j,_,x,J=>by simp[ph]at J
 |(t,g,y)::r,i,n,j,h,x,J=>by
  cases n with
  |zero=>simp[iZ]at h
  |succ n=>
   simp only[iZ,aie,adz,List.cons.injEq,aeb]at h;obtain⟨⟨rfl,rfl⟩,h⟩:=h;cases j with
   |zero=>simp[ph]at J;subst J;simp[Env.lk]
   |succ j=>
    have:=SD r (t+1) n j h x (by simpa [ph]using J);simp only[Env.lk];rw[aaf (by omega),show t+(j+1)=t+1+j by omega];exact this
def Br:∀env:Env,(ph env).length=(iZ env).length
 |[]=>rfl
 |(_,_,_)::r=>by simp[ph,iZ,Br r]
def No(p:il)(H:Nat)(m:Mem)(xs:List AV):(uI p H m xs).Nodup:=by
 unfold uI;split
 .rw[List.nodup_append];refine⟨List.nodup_range,((te m 64 _ [] List.nodup_nil (by simp)).1).filter _,λa A9 b U AD=>?_⟩;simp only[aej]at A9;simp only[aha,ahI,aed]at U;omega
 .exact List.nodup_range
def RR(p:il)(H:Nat)(m:Mem)(xs:List AV){k:Nat}(Y:k<H):(uI p H m xs)[k]?=some k:=by
 unfold uI;split
 .rw[ac9 (by simpa using Y)];simp[Y]
 .simp[Y]
def xE{p:il}{H:Nat}{S:St}{xs:List AV}{one:List AV->Out}{out:Out}{l:List (Nat×aF)}(h:uJ p H S xs one=some (out,l))
 {φ:cC} {G:Fr} {w:World} (hm:bK φ G S.mem w) (AG:gr w (Fo G φ S.mem) S.gl) {vs:List Value} (A7:xs.length=vs.length)
 (J:∀(i:Nat) x v,xs[i]?=some x->vs[i]?=some v->aG φ w (Fo G φ S.mem) x v) {φ0:cC} {AW:Mem} {w0:World} (Y:bn φ0 AW w0 φ S.mem w) (As:∀k L,φ0 k=some L->k<H/\L.au=0):
 ∃φ' AA,out=one AA/\bK φ' G (eO 0 l) w/\bn φ0 AW w0 φ' (eO 0 l) w/\AA.length=vs.length/\(∀(i:Nat) y v,AA[i]?=some y->vs[i]?=some v->aG φ' w (Fo G φ' (eO 0 l)) y v)/\
  ∀b,Fo G φ' (eO 0 l) b->Fo G φ S.mem b:=by
 unfold uJ at h;obtain⟨K,AH⟩:∃K,K=uI p H S.mem xs:=⟨_,rfl⟩;have At:K.Nodup:=by rw[AH];exact No ..
 have Au:∀k,k<H->K[k]?=some k:=λk h=>by rw[AH];exact RR _ _ _ _ h
 simp only[<-AH]at h;clear AH;have Av:Rel φ G {S with n:=xs.length,env:=ku 0 xs} {tmps:=vs.toArray,defers:=G.dv} w:=by
  refine⟨by simp[A7],rfl,λt x A3=>?_,hm,AG⟩;obtain⟨j,rfl,AE⟩:=Cu 0 xs t _ A3;have AX:j<vs.length:=by rw[<-A7];exact (aap.1 AE).1
  have e:vs.toArray.getD (0+j) undef=vs[j]:=by simp[AX]
  simp only[e];exact J j x _ AE (by simp[AX])
 obtain⟨A4,AI⟩:∃A4,A4=FI p K {S with n:=xs.length,env:=ku 0 xs}:=⟨_,rfl⟩;have A3:fE {S with n:=xs.length,env:=ku 0 xs} A4:=by rw[AI];exact IQ ..
 have AY:iZ A4.env=(List.range' 0 xs.length).map λj=>(j,true):=by
  rw[AI,FI,IT];exact IU 0 xs
 rw[<-AI]at h;clear AI;obtain⟨AZ,A_,Aa⟩:=A3.2.2 φ G _ w Av;unfold OM at h;split at h
 .rename_i Aw;simp only[adl,aeb]at h;obtain⟨rfl,rfl⟩:=h;have AJ:=A_.mem;have Ab:∀k∈K,(Mem.get A4.mem k).isSome=true:=by simpa using Aw
  obtain⟨s1,s2,Ax⟩:=FG (G1:=G) (ρ:=K) (bor:=λ_=>true) (nv:=IS H) AJ At Ab (λb h=>.inl h) (λb h=>AJ.nJ b h.own)
   (λk e L b AG _ _ I V=>AJ.nJ _ ⟨e,(Mem.get_mem AG).1,L,by rw[(Mem.get_mem AG).2];exact I,V⟩)
  have A1:=Y.trans Aa;refine⟨AZ.kB K (IS H),_,rfl,s1,⟨?_,A1.DU,?_,A1.size,A1.os,A1.tape,A1.output⟩,?_,?_,?_⟩
  .intro k L I;obtain⟨AQ,AK⟩:=As k L I;obtain⟨Ac,A8,AB,AN⟩:=A1.le k L I;refine⟨{Ac with au:=IS H k Ac.au},by simp[cC.kB,Au k AQ,A8],by simp[AK],λhe=>?_⟩;simp only[IS,AQ,ad7,AK]at he;split at he
   .rename_i Ay;have A':=AN (by rw[AK];exact Ay);have g1:=ahw Loc.au A';have g2:=ahw Loc.eJ A';have g3:=ahw Loc.sz A';have g4:=ahw Loc.cap A';have g5:=ahw Loc.base A';simp only at g1 g2 g3 g4 g5⊢;rw[g1,g2,g3,g4,g5];simp only[IS,AQ,ad7,AK]
   .simp at he
  .intro b U V;exact A1.own b U ((Bo (φ:=AZ) (nv:=IS H) (bor:=λ_=>true) Ab b).1 V).own
  .rw[List.length_map,Br,AY];simp[A7]
  .intro i y v Ad AP;rw[adn]at Ad;obtain⟨x,Az,rfl⟩:=ac3.1 Ad;have AC:=SD A4.env 0 xs.length i AY x Az;rw[agT]at AC;have Ae:=A_.env i x AC;have e:vs.toArray.getD i undef=v:=by simp[AP]
   simp only[e]at Ae;exact (s2 x v Ae).GK
  .intro b U;have A5:=Ax b U;rcases A5 with A5|A5
   .exact .inl A5
   .rcases Nat.lt_or_ge b w.heap.size with Af|Af
    .exact .inr (Aa.own b Af A5)
    .exact absurd (AJ.Iq A5) (by omega)
 .cases h
def cW:AV->List Nat
 | .ptr k _ _=>[k]
 | .vec k _ _ _=>[k]
 | .dD k _ _ _=>[k]
 |_=>[]
def xZ(S:St):List Operand->List Nat
 |[]=>[]
 |x::r=>cW (S.aw x).2++xZ S r
def IV(S:St):Op->List Nat
 | .move _=>[]
 | .assign _=>[]
 |op=>xZ S op.operands.toList
def lE(S:St)(o:Oper):List Nat:=keyOf o::IV S o.op
def GM{S:St}:∀{l:List Operand}{x:Operand},x∈l->∀k∈cW (S.aw x).2,k∈xZ S l
 |[],x,h,_,_=>by simp at h
 |y::r,x,h,k,J=>by
  simp only[xZ,ada];rcases ac4.1 h with rfl|h
  .exact .inl J
  .exact .inr (GM h k J)
section
variable {P:Program} {m m':Mem}
theorem Xj{t p}(h:∀k∈cW p,Mem.get m' k=Mem.get m k):pG P m' t p=pG P m t p:=by
 cases p<;>simp_all [pG,cW]
theorem AG{sz x}(h:∀k∈cW x,Mem.get m' k=Mem.get m k):jZ m' sz x=jZ m sz x:=by
 cases x with
 |vec k au off len=>simp only[jZ,h k (by simp[cW])]
 |d x=>cases x<;>rfl
 |lit v=>unfold jZ;split<;>simp_all
 |_=>rfl
theorem U3{t p x}(h:∀k∈cW p,Mem.get m' k=Mem.get m k):sY P m' t p x=sY P m t p x:=by
 cases p<;>simp_all [sY,cW]
theorem U4{s f p}(h:∀k∈cW p,Mem.get m' k=Mem.get m k):sy P m' s f p=sy P m s f p:=by
 cases p<;>simp_all [sy,cW]
theorem Np{p}(h:∀k∈cW p,Mem.get m' k=Mem.get m k):lN m' p=lN m p:=by
 cases p<;>simp_all [lN,cW]
theorem U5{t p i}(h:∀k∈cW p,Mem.get m' k=Mem.get m k):pV P m' t p i=pV P m t p i:=by
 cases p with
 |vec k au off len=>simp only[pV,h k (by simp[cW])]
 |ptr k au off=>simp only[pV,h k (by simp[cW])]
 |dD k au i j=>simp only[pV,h k (by simp[cW])]
 |d x=>cases x<;>rfl
 |_=>rfl
theorem U6{t p lo hi}(h:∀k∈cW p,Mem.get m' k=Mem.get m k):nQ P m' t p lo hi=nQ P m t p lo hi:=by
 cases p with
 |dD k au i j=>simp only[nQ,h k (by simp[cW])]
 |vec k au off len=>simp only[nQ,h k (by simp[cW])]
 |ptr k au off=>simp only[nQ,h k (by simp[cW])]
 |d x=>cases x<;>rfl
 |_=>rfl
theorem aaQ{k c cs}(h:Mem.get m' k=Mem.get m k):wP m' k c cs=wP m k c cs:=by simp only[wP,h]
theorem U7{k t}(h:Mem.get m' k=Mem.get m k):yy P m' k t=yy P m k t:=by simp only[yy,Oz,wP,h]
theorem Xk{k s d x}(h:Mem.get m' k=Mem.get m k)(H:∀k∈cW x,Mem.get m' k=Mem.get m k):pK P m' k s d x=pK P m k s d x:=by
 have e:=AG (m:=m) (m':=m') (sz:=1) H;cases A2:tk P d<;>cases x with
 |d x=>cases x<;>simp only[pK,A2,e,h]
 |_=>simp only[pK,A2,e]
theorem Xl{k s d x}(h:Mem.get m' k=Mem.get m k)(H:∀k∈cW x,Mem.get m' k=Mem.get m k):xC P m' k s d x=xC P m k s d x:=by
 have e:=Xk (P:=P) (s:=s) (d:=d) h H;cases x with
 |vec Y au off len=>simp only[xC,e,H Y (by simp[cW])]
 |_=>simp only[xC,e]
theorem Xm{k t l c}(h:Mem.get m' k=Mem.get m k):Ck P m' k t l c=Ck P m k t l c:=by simp only[Ck,h]
theorem IW{k t n ps}(h:Mem.get m' k=Mem.get m k):nk P m' k t n ps=nk P m k t n ps:=by simp only[nk,vo,h]
theorem aaR{t x}(h:∀k∈cW x,Mem.get m' k=Mem.get m k):r5 P m' t x=r5 P m t x:=by
 cases x with
 |vec k au off len=>simp only[r5,h k (by simp[cW])]
 |d x=>cases x<;>rfl
 |lit v=>unfold r5;split<;>simp_all
 |_=>rfl
theorem aaS{u sz by_ Z s x}(O:∀k∈cW s,Mem.get m' k=Mem.get m k)(H:∀k∈cW x,Mem.get m' k=Mem.get m k):Ch P m' u sz by_ Z s x=Ch P m u sz by_ Z s x:=by
 cases s with
 |vec k au off len=>
  cases x with
  |vec A6 AF A7 A8=>
   match A7,A8 with
   |0,1=>simp only[Ch,O k (by simp[cW]),H A6 (by simp[cW])]
   |0,0=>rfl
   |0,_+2=>rfl
   |_+1,_=>rfl
  |_=>rfl
 |_=>rfl
theorem aaT{P:Program}{m:Mem}{u:TypeId}{sz by_:Nat}{Z:D}{s x:AV}{c:Bool}{k v off n:Nat}{e:dn}(h:Ch P m u sz by_ Z s x=.dU c (.vec k v off n) e):k∈cW s:=by
 unfold Ch at h;split at h
 .split at h
  .cases h;simp[cW]
  .cases h
 .cases h
theorem aaU{k t u s x}(h:Mem.get m' k=Mem.get m k)(O:∀k∈cW s,Mem.get m' k=Mem.get m k)(H:∀k∈cW x,Mem.get m' k=Mem.get m k):wR P m' k t u s x=wR P m k t u s x:=by
 unfold wR D3;simp only[AG H,h,aaS O H];cases s with
 |vec k au off len=>simp only[O k (by simp[cW])]
 |lit v=>
  cases v with
  |slice ao n c=>cases ao<;>cases n<;>cases c<;>simp only
  |_=>rfl
 |_=>rfl
theorem aaV{P:Program}{m:Mem}{A3:Nat}{t u:TypeId}{s x:AV}{c:Bool}{k v off n:Nat}{e:dn}(h:wR P m A3 t u s x=.dU c (.vec k v off n) e):k=A3\/k∈cW s:=by
 unfold wR at h;split at h
 .split at h
  .split at h
   .split at h
    .split at h
     .cases h;right;simp[cW]
     .cases h
    .split at h
     .cases h;left;rfl
     .cases h
    .cases h
   .exact .inr (aaT h)
  .cases h
 .cases h
theorem Xn{P:Program}{m m':Mem}{k t u s x}(h:Mem.get m' k=Mem.get m k)(O:∀k∈cW s,Mem.get m' k=Mem.get m k)(H:∀k∈cW x,Mem.get m' k=Mem.get m k):
 zF m' (Mem.get m' k).isSome k (wR P m' k t u s x)=zF m (Mem.get m k).isSome k (wR P m k t u s x):=by
 rw[aaU h O H,h];unfold zF;generalize A9:wR P m k t u s x=r;split
 .rename_i c Y v n AH AI sz aq;have J:Mem.get m' Y=Mem.get m Y:=by
   rcases aaV A9 with rfl|J
   .exact h
   .exact O _ J
  rw[J]
 .rfl
theorem LQ{k t x}(h:Mem.get m' k=Mem.get m k):xB P m' k t x=xB P m k t x:=by
 unfold xB;simp only[h]
theorem aaW{neg t x v}(h:∀k∈cW x,Mem.get m' k=Mem.get m k):mH P m' neg t x v=mH P m neg t x v:=by
 cases x with
 |vec k au off len=>unfold mH;simp only[h k (by simp[cW])]
 |ptr k au off=>unfold mH;simp only[h k (by simp[cW])]
 |d x=>unfold mH;cases x with
  |list xs=>cases xs<;>rfl
  |_=>rfl
 |lit u=>unfold mH;cases u with
  |slice ao n c=>cases ao<;>cases n<;>cases c<;>rfl
  |pointer a=>cases a<;>rfl
  |_=>rfl
 |_=>rfl
theorem Xo{t s x}(O:∀k∈cW s,Mem.get m' k=Mem.get m k)(H:∀k∈cW x,Mem.get m' k=Mem.get m k):Cm P m' t s x=Cm P m t s x:=by
 unfold Cm;simp only[AG H];cases s with
 |vec k au off len=>simp only[O k (by simp[cW])]
 |_=>rfl
end
def LR{P:Program}{S S':St}{o:Oper}(H:∀x∈o.op.operands.toList,S'.aw x=S.aw x)(J:∀k∈lE S o,Mem.get S'.mem k=Mem.get S.mem k):ee P S' o=ee P S o:=by
 have T:Mem.get S'.mem (keyOf o)=Mem.get S.mem (keyOf o):=J _ (by simp[lE]);have M:match o.op with
  | .move _=>True
  | .assign _=>True
  |op=>∀x∈op.operands.toList,∀k∈cW (S.aw x).2,Mem.get S'.mem k=Mem.get S.mem k:=by
  unfold lE at J;generalize o.op=op at J;cases op<;>first|trivial|exact λx I k A'=>J k (aep _ (GM I k A'))
 have A0:∀(l:List Operand),(∀x∈l,S'.aw x=S.aw x)->l.map (λx=>(S'.aw x).2)=l.map (λx=>(S.aw x).2):=λl A1=>ama (λx I=>by rw[A1 x I]);have A4:∀(l:List (Nat×Operand)),(∀x∈l,S'.aw x.2=S.aw x.2)->l.map (λx=>(x.1,(S'.aw x.2).2))=l.map (λx=>(x.1,(S.aw x.2).2)):=λl A1=>ama (λx I=>by rw[A1 x I]);unfold ee;generalize AJ:o.op=op at H M;cases op with
 |move x=>simp only[H x (by simp[Op.operands]),LQ T]
 |assign x=>simp only[H x (by simp[Op.operands]),LQ T]
 |pick c a b=>simp only[H c (by simp[Op.operands]),H a (by simp[Op.operands]),H b (by simp[Op.operands])]
 |alloc t=>simp only[U7 T]
 |box t x=>simp only[H x (by simp[Op.operands]),aaQ T]
 |load t x=>simp only[H x (by simp[Op.operands]),Xj (M x (by simp[Op.operands]))]
 |store t p x=>simp only[H x (by simp[Op.operands]),H p (by simp[Op.operands]),U3 (M p (by simp[Op.operands]))]
 |fieldAddr s x f=>simp only[H x (by simp[Op.operands]),U4 (M x (by simp[Op.operands]))]
 |nilCheck x=>simp only[H x (by simp[Op.operands]),Np (M x (by simp[Op.operands]))]
 |indexAddr t x i=>simp only[H x (by simp[Op.operands]),H i (by simp[Op.operands]),U5 (M x (by simp[Op.operands]))]
 |index t x i=>simp only[H x (by simp[Op.operands]),H i (by simp[Op.operands])]
 |slice t x lo hi AA=>
  cases AA with
  |none=>
   have AB:lo.map (λy=>(S'.aw y).2)=lo.map (λy=>(S.aw y).2):=by cases lo with|none=>rfl|some y=>simp[H y (by simp[Op.operands])]
   have AC:hi.map (λy=>(S'.aw y).2)=hi.map (λy=>(S.aw y).2):=by cases hi with|none=>rfl|some y=>simp[H y (by simp[Op.operands])]
   simp only[H x (by simp[Op.operands]),AB,AC,U6 (M x (by simp[Op.operands]))]
  |some _=>rfl
 |binOp op t x y AK=>
  have A5:=H x (by simp[Op.operands]);have AD:=H y (by simp[Op.operands]);have A':=M x (by simp[Op.operands]);simp only
  unfold vT;cases y with
  |const v=>simp only[A5,aaW A'];rfl
  |_=>simp only[A5,AD]
 |unOp op t x=>simp only[H x (by simp[Op.operands])]
 |convert s d x=>simp only[H x (by simp[Op.operands]),Xl T (M x (by simp[Op.operands]))]
 |makeInterface t x=>simp only[H x (by simp[Op.operands])]
 |makeFunc f first cap=>simp only[A0 cap.toList (λx I=>H x (by simp[Op.operands];right;simpa using I)),A0 first.toList (λx I=>H x (by simp[Op.operands];left;simpa using I))]
 |makeSlice t l c=>simp only[H l (by simp[Op.operands]),H c (by simp[Op.operands]),Xm T]
 |build t ps=>simp only[A4 ps.toList (λx I=>H x.2 (by simp only[Op.operands,List.toList_toArray,adk];exact⟨x,I,rfl⟩))]
 |buildSlice t n ps=>simp only[A4 ps.toList (λx I=>H x.2 (by simp only[Op.operands,List.toList_toArray,adk];exact⟨x,I,rfl⟩)),IW T]
 |extract x i=>simp only[H x (by simp[Op.operands])]
 |field s x f=>simp only[H x (by simp[Op.operands])]
 |typeAssert x AL t ok=>simp only[H x (by simp[Op.operands])]
 |call c=>
  obtain⟨callee,args,AE⟩:=c;cases callee with
  |builtin b=>
   have U:∀x∈args.toList,S'.aw x=S.aw x:=λx I=>H x (by simp[Op.operands,Call.operands];simpa using I);have V:∀x∈args.toList,∀k∈cW (S.aw x).2,Mem.get S'.mem k=Mem.get S.mem k:=λx I=>M x (by simp[Op.operands,Call.operands];simpa using I);simp only
   unfold oE;have em:=A0 args.toList U;generalize args.toList=AM at U V em;generalize AE.toList=AN;split
   .rename_i x t;simp only[U x (by simp),aaR (V x (by simp))]
   .rename_i s x t u;simp only[U x (by simp),U s (by simp),Xn T (V s (by simp)) (V x (by simp))]
   .rename_i s x t u;simp only[U x (by simp),U s (by simp),Xo (V s (by simp)) (V x (by simp))]
   .simp only[em]
   .simp only[em]
   .rename_i x t;simp only[U x (by simp)]
   .rfl
  |_=>rfl
 |_=>rfl
structure bC where
 ks:List Nat
 es:List dn
 g:Bool
 x:AV
def bC.app(p:bC)(o:Oper)(S:St):St:=({S with mem:=bV S.mem p.es}:St).put o.dst p.g p.x
def adj(all:List Oper)(j:Nat):List Nat:=
 match all[j]? with
 |some o=>match o.dst with|some t=>[t]|none=>[]
 |none=>[]
def looks(all:List Oper)(o:Oper):List Nat:=
 (o.op.operands.toList.filterMap λ| .tmp t=>some t|_=>none)++(match o.guard with|some (j,_)=>adj all j|none=>[])
structure nE(all:List Oper)(o:Oper)(ks:List Nat)(S' S:St):Prop where
 n:S'.n=S.n
 gl:S'.gl=S.gl
 keys:S'.mem.map (·.key)=S.mem.map (·.key)
 env:∀t∈looks all o,Env.lk S'.env t=Env.lk S.env t
 mem:∀k∈ks,Mem.get S'.mem k=Mem.get S.mem k
def nF(P:Program)(all:List Oper)(S:St)(o:Oper)(p:bC):Prop:=
 ∀S',nE all o p.ks S' S->∀φ G a w,Rel φ G S' a w->∀(next:Act->World->Prop)(R:Exit->Act->World->Prop),
  (∀φ' A5 w',Rel φ' G (p.app o S') A5 w'->bn φ S'.mem w φ' (p.app o S').mem w'->next A5 w')->
  if Region.wanted o (yielded all.toArray a.tmps)then o.wp P a w next R else next (a.put o.dst undef) w
def xF(P:Program)(T:Mem->Prop)(all:List Oper)(S:St)(o:Oper)(p:bC):Prop:=
 ∀S',nE all o p.ks S' S->T S'.mem->∀φ G a w,Rel φ G S' a w->∀(next:Act->World->Prop)(R:Exit->Act->World->Prop),
  (∀φ' A5 w',Rel φ' G (p.app o S') A5 w'->bn φ S'.mem w φ' (p.app o S').mem w'->next A5 w')->
  if Region.wanted o (yielded all.toArray a.tmps)then o.wp P a w next R else next (a.put o.dst undef) w
def nF.toI{P:Program}{T:Mem->Prop}{all:List Oper}{S:St}{o:Oper}{p:bC}(h:nF P all S o p):xF P T all S o p:=λS' AT _=>h S' AT
inductive Cert(P:Program)(T:Mem->Prop)(all:List Oper):List Oper->St->List bC->St->Prop
 |nil (S):Cert P T all [] S [] S
 |cons (o rest S p ps S1) (I:∀e∈p.es,e.key∈p.ks) (B4:∀m,T m->T (bV m p.es)) (h:xF P T all S o p) (A3:Cert P T all rest (p.app o S) ps S1):Cert P T all (o::rest) S (p::ps) S1
def gd(o:Oper):List Nat:=(o.after.toList.filter (Region.binds .any)).map (·.on)
def j8:List Oper->List (List Nat)->List (List Nat)
 |[],O=>O
 |o::r,O=>j8 r (O++[((gd o).flatMap λp=>p::O.getD p []).eraseDups])
def uL(l r:List Nat):Bool:=l.all λx=>!r.contains x
def El(all:List Oper)(o J:Oper)(p A2:bC):Bool:=
 uL o.dst.toList (looks all J)&&uL J.dst.toList (looks all o)&&uL o.dst.toList J.dst.toList&&uL (p.es.map (·.key)) A2.ks&&uL (A2.es.map (·.key)) p.ks
def Ny(all:List Oper)(ps:List bC)(Ac:List (List Nat))(j:Nat):Bool:=
 match all[j]?,ps[j]? with
 |some o,some p=>(gd o).all (λi=>decide (i<j))&&(List.range j).all λi=>(Ac.getD j []).contains i||(match all[i]?,ps[i]? with
  |some J,some A2=>El all J o A2 p
  |_,_=>false)
 |_,_=>false
def tf(all:List Oper)(ps:List bC):Bool:=(List.range all.length).all (Ny all ps (j8 all []))
def GN:∀(l:List Oper)(O:List (List Nat)),∃r,j8 l O=O++r/\r.length=l.length
 |[],O=>⟨[],by simp[j8]⟩
 |o::l,O=>by
  obtain⟨r,M,Z⟩:=GN l (O++[((gd o).flatMap λp=>p::O.getD p []).eraseDups]);exact⟨((gd o).flatMap λp=>p::O.getD p []).eraseDups::r,by rw[j8,M,adM,List.singleton_append],by grind⟩
def mem_eraseDups{l:List Nat}{x:Nat}:x∈l.eraseDups↔x∈l:=List.mem_eraseDups
def LU:∀(l:List Oper)(O:List (List Nat))(j:Nat)(o:Oper),l[j]?=some o->(∀p∈gd o,p<O.length+j)->
 ∀i,i∈(j8 l O).getD (O.length+j) []↔∃p∈gd o,i=p\/i∈(j8 l O).getD p []
 |[],O,j,o,h,_=>by grind
 |x::l,O,j,o,h,V=>by
  simp only[j8];cases j with
  |zero=>
   obtain⟨r,M,_⟩:=GN l (O++[((gd x).flatMap λp=>p::O.getD p []).eraseDups]);rw[M];intro i;have A9:(O++[((gd x).flatMap λp=>p::O.getD p []).eraseDups]++r).getD (O.length+0) []=((gd x).flatMap λp=>p::O.getD p []).eraseDups:=by
    grind
   rw[A9,mem_eraseDups,List.mem_flatMap];grind
  |succ j=>
   have:=LU l (O++[((gd x).flatMap λp=>p::O.getD p []).eraseDups]) j o (by grind) (λp Ad=>by grind);grind
def m4{all:List Oper}{L:Nat->Prop}(V:∀j o,all[j]?=some o->∀p∈gd o,p<j)(BS:∀j o,all[j]?=some o->L j->∀p∈gd o,L p):
 ∀j,(∃o,all[j]?=some o)->∀i,i∈(j8 all []).getD j []->i<j/\((∀o,all[j]?=some o->∀p∈gd o,L p)->L i):=by
 intro j;induction j using Nat.strongRecOn with
 |_ j ih=>
  rintro ⟨o,H⟩ i hi;have AL:=(LU all [] j o H (λp Ad=>by grind) i);simp at AL;obtain⟨p,Ad,h⟩:=AL.1 hi;have AM:=V j o H p Ad;rcases h with rfl|h
  .grind
  .have B5:j<all.length:=(aap.1 H).1;obtain⟨op,B6⟩:∃op,all[p]?=some op:=⟨all[p],by grind⟩;obtain⟨M,Z⟩:=ih p AM ⟨op,B6⟩ i h;grind
def aS(all:List Oper)(ps:List bC)(S:St)(l:List Nat):St:=
 l.foldl (λS i=>match all[i]?,ps[i]? with|some o,some p=>p.app o S|_,_=>S) S
def zJ(p:bC)(o:Oper)(S:St):(p.app o S).n=S.n:=by simp[bC.app,pL]
def vY(p:bC)(o:Oper)(S:St):(p.app o S).gl=S.gl:=by cases h:o.dst<;>simp[bC.app,h,St.put]
def Hp(p:bC)(o:Oper)(S:St):(p.app o S).mem.map (·.key)=S.mem.map (·.key):=by simp[bC.app,ib,nq]
def yD(p:bC)(o:Oper)(S:St)(t:Nat):Env.lk (p.app o S).env t=if o.dst=some t then some (p.g,p.x)else Env.lk S.env t:=by
 cases A':o.dst with
 |none=>simp[bC.app,St.put,A']
 |some d=>
  by_cases h:d=t
  .simp[bC.app,St.put,A',Env.lk]
  .simp[bC.app,St.put,A',Env.lk]
def DH:∀(es:List dn)(m:Mem)(k:Nat),k∉es.map (·.key)->Mem.get (bV m es) k=Mem.get m k
 |[],m,k,_=>rfl
 |e::r,m,k,h=>by
  simp only[adz,ac4,alp]at h;rw[bV,DH r _ k h.2,Mem.sW (λhe=>h.1 he.symm)]
def sc:∀(es:List dn)(m m':Mem)(k:Nat),m.map (·.key)=m'.map (·.key)->(k∈es.map (·.key)\/Mem.get m k=Mem.get m' k)->Mem.get (bV m es) k=Mem.get (bV m' es) k
 |[],m,m',k,_,h=>by simpa [bV]using h
 |e::r,m,m',k,I,h=>by
  refine sc r _ _ k (by rw[Mem.jH,Mem.jH,I]) ?_;by_cases he:e.key=k
  .right;subst he;by_cases Aq:e.key∈m.map (·.key)
   .rw[Mem.sV Aq,Mem.sV (I▸Aq)]
   .have BT:∀(m:Mem),e.key∉m.map (·.key)->Mem.get (Mem.set m e) e.key=none:=by
     intro m hm;cases AI:Mem.get (Mem.set m e) e.key with
     |none=>rfl
     |some y=>
      obtain⟨M,Z⟩:=Mem.get_mem AI;have:y.key∈(Mem.set m e).map (·.key):=adP M;rw[Mem.jH,Z]at this;grind
    grind
  .rw[Mem.sW he,Mem.sW he];grind
def IX(p:bC)(o:Oper)(S:St)(k:Nat)(h:k∉p.es.map (·.key)):Mem.get (p.app o S).mem k=Mem.get S.mem k:=by
 simp[bC.app,ib];exact DH _ _ _ h
section
variable {all:List Oper} {ps:List bC} {S:St}
theorem sk(l:List Nat):∀(S:St),(aS all ps S l).n=S.n:=by
 induction l with
 |nil=>exact λ_=>rfl
 |cons i l ih=>
  intro S;have A9:aS all ps S (i::l)=aS all ps (aS all ps S [i]) l:=by simp[aS]
  rw[A9,ih];simp[aS];split
  .exact zJ ..
  .rfl
theorem p7(l:List Nat):∀(S:St),(aS all ps S l).gl=S.gl:=by
 induction l with
 |nil=>exact λ_=>rfl
 |cons i l ih=>
  intro S;have A9:aS all ps S (i::l)=aS all ps (aS all ps S [i]) l:=by simp[aS]
  rw[A9,ih];simp[aS];split
  .exact vY ..
  .rfl
theorem gf(l:List Nat):∀(S:St),(aS all ps S l).mem.map (·.key)=S.mem.map (·.key):=by
 induction l with
 |nil=>exact λ_=>rfl
 |cons i l ih=>
  intro S;have A9:aS all ps S (i::l)=aS all ps (aS all ps S [i]) l:=by simp[aS]
  rw[A9,ih];simp[aS];split
  .exact Hp ..
  .rfl
theorem wT(l Ar:List Nat)(S:St):aS all ps S (l++Ar)=aS all ps (aS all ps S l) Ar:=by simp[aS]
theorem zK(t:Nat)(q:Nat->Bool)(l:List Nat):∀(S S':St),(∀i∈l,∀o,all[i]?=some o->o.dst=some t->q i=true)->Env.lk S.env t=Env.lk S'.env t->Env.lk (aS all ps S l).env t=Env.lk (aS all ps S' (l.filter q)).env t:=by
 induction l with
 |nil=>intro S S' _ h;exact h
 |cons i l ih=>
  intro S S' AG h;have AN:∀AA∈l,∀o,all[AA]?=some o->o.dst=some t->q AA=true:=λAA Ae=>AG AA (aep _ Ae);by_cases AB:q i=true
  .rw[List.filter_cons_of_pos AB];refine ih _ _ AN ?_;simp[amS];split
   .rw[yD,yD,h]
   grind
  .rw[amR AB];refine ih _ _ AN ?_;simp[amS];split
   .rename_i o p H V;rw[yD,aaf (λA'=>AB (AG i (by simp) o H A')),h]
   grind
theorem qF(k:Nat)(q:Nat->Bool)(l:List Nat):∀(S S':St),(∀i∈l,∀p,ps[i]?=some p->k∈p.es.map (·.key)->q i=true)->S.mem.map (·.key)=S'.mem.map (·.key)->Mem.get S.mem k=Mem.get S'.mem k->Mem.get (aS all ps S l).mem k=Mem.get (aS all ps S' (l.filter q)).mem k:=by
 induction l with
 |nil=>intro S S' _ _ h;exact h
 |cons i l ih=>
  intro S S' AG I h;have A9:aS all ps S (i::l)=aS all ps (aS all ps S [i]) l:=by simp[aS]
  have AN:∀AA∈l,∀p,ps[AA]?=some p->k∈p.es.map (·.key)->q AA=true:=λAA Ae=>AG AA (aep _ Ae);rw[A9];by_cases AB:q i=true
  .rw[List.filter_cons_of_pos AB];have AU:aS all ps S' (i::l.filter q)=aS all ps (aS all ps S' [i]) (l.filter q):=by simp[aS]
   rw[AU];refine ih _ _ AN (by rw[gf,gf,I]) ?_;simp[aS,amS];split
   .simp[bC.app,ib];exact sc _ _ _ k I (.inr h)
   grind
  .rw[amR AB];refine ih _ _ AN (by rw[gf,I]) ?_;simp[aS,amS];split
   .rename_i o p H V;rw[IX _ _ _ _ (λA'=>AB (AG i (by simp) p V A')),h]
   grind
end
structure jL(S' S:St):Prop where
 n:S'.n=S.n
 gl:S'.gl=S.gl
 mem:S'.mem=S.mem
 env:∀t,Env.lk S'.env t=Env.lk S.env t
def Rel.eqv{φ G S S' a w}(h:Rel φ G S' a w)(he:jL S' S):Rel φ G S a w:=
 ⟨by rw[<-he.n];exact h.size,h.defers,λt x Af=>by rw[<-he.mem];exact h.env t x (by rw[he.env];exact Af),by rw[<-he.mem];exact h.mem,by rw[<-he.gl,<-he.mem];exact h.nK⟩
def Mem.ext{m m':Mem}(As:(m.map (·.key)).Nodup)(I:m.map (·.key)=m'.map (·.key))(h:∀k,Mem.get m k=Mem.get m' k):m=m':=by
 induction m generalizing m' with
 |nil=>simp_all
 |cons e r ih=>
  cases m' with
  |nil=>grind
  |cons e' BU=>
   simp at I;simp at As;have Ag:=h e.key;simp[Mem.get,I.1]at Ag;congr 1;refine ih As.2 I.2 λk=>?_;have:=h k;simp[Mem.get]at this;by_cases he:e.key=k
   .have nn:∀{r:Mem},e.key∉r.map (·.key)->Mem.get r e.key=none:=by
     intro r A3;cases AI:Mem.get r e.key with
     |none=>rfl
     |some y=>obtain⟨M,Z⟩:=Mem.get_mem AI;grind
    grind
   grind
def kC(n:Nat)(f:Nat->Bool):List Nat:=(List.range n).filter f
def GO{j n:Nat}(h:j<n):List.range n=List.range j++j::List.range' (j+1) (n-j-1):=by
 have Z:(j::List.range' (j+1) (n-j-1))=List.range' j (n-j):=by
  rw[show n-j=(n-j-1)+1 by omega,aie];simp
 rw[Z,List.range_eq_range',List.range_eq_range'];rw[show List.range' 0 n=List.range' 0 (j+(n-j)) by grind];rw[<-List.range'_append_1];simp
def Em{j n:Nat}{f:Nat->Bool}(h:j<n)(AH:f j=false):kC n f=(List.range j).filter f++(List.range' (j+1) (n-j-1)).filter f:=by
 rw[kC,GO h,aih,amR (by grind)]
def U8{j n:Nat}{f g:Nat->Bool}(h:j<n)(AI:g j=true)(At:∀i,i≠j->g i=f i):kC n g=(List.range j).filter f++j::(List.range' (j+1) (n-j-1)).filter f:=by
 rw[kC,GO h,aih,List.filter_cons_of_pos AI];congr 1
 .exact alT λi hi=>At i (by grind)
 .congr 1;exact alT λi hi=>At i (by grind)
def vZ{l r:List Nat}(h:uL l r=true){x:Nat}(Y:x∈l)(A3:x∈r):False:=by
 have:=adp.1 h x Y;grind
structure IY(all:List Oper)(o J:Oper)(p A2:bC):Prop where
 a:∀t,o.dst=some t->t∉looks all J
 b:∀t,J.dst=some t->t∉looks all o
 c:∀t,o.dst=some t->J.dst≠some t
 d:∀k∈p.es.map (·.key),k∉A2.ks
 e:∀k∈A2.es.map (·.key),k∉p.ks
def RS{all o J p A2}(h:El all o J p A2=true):IY all o J p A2:=by
 simp[El]at h;obtain⟨⟨⟨⟨M,Z⟩,AO⟩,B7⟩,B8⟩:=h;exact⟨λt AP Y=>vZ M (by grind) Y,λt AP Y=>vZ Z (by grind) Y,λt AP Y=>vZ AO (x:=t) (by grind) (by grind),λk I Y=>vZ B7 I Y,λk I Y=>vZ B8 I Y⟩
section
variable {all:List Oper} {ps:List bC}
theorem fU(h:tf all ps=true){j:Nat}{o:Oper}(H:all[j]?=some o):∃p,ps[j]?=some p/\(∀i∈gd o,i<j)/\
 ∀i,i<j->i∈(j8 all []).getD j []\/∃J A2,all[i]?=some J/\ps[i]?=some A2/\IY all J o A2 p:=by
 have A1:j<all.length:=(aap.1 H).1;have M:=adp.1 h j (aej.2 A1);unfold Ny at M;rw[H]at M;cases V:ps[j]? with
 |none=>grind
 |some p=>
  rw[V]at M;simp at M;refine⟨p,rfl,M.1,λi hi=>?_⟩;rcases M.2 i hi with Z|Z
  .grind
  .right;split at Z
   .rename_i J A2 A4 AQ;exact⟨J,A2,A4,AQ,RS Z⟩
   grind
theorem Cert.at{P:Program}{T:Mem->Prop}{rest:List Oper}{S0 S:St}{Ah:List bC}{S1:St}(h:Cert P T all rest S Ah S1):∀(pre:List Oper)(pp:List bC),pre.length=pp.length->all=pre++rest->ps=pp++Ah->aS all ps S0 (List.range pre.length)=S->
 aS all ps S0 (List.range all.length)=S1/\ps.length=all.length/\∀j o p,pre.length<=j->all[j]?=some o->ps[j]?=some p->(∀e∈p.es,e.key∈p.ks)/\(∀m,T m->T (bV m p.es))/\xF P T all (aS all ps S0 (List.range j)) o p:=by
 induction h with
 |nil S=>
  grind
 |cons o rest S p Ah S1 I B4 AW A3 ih=>
  intro pre pp Y AT BV B9;have A9:all[pre.length]?=some o:=by rw[AT];simp
  have AU:ps[pre.length]?=some p:=by grind
  obtain⟨M,Z,AO⟩:=ih (pre++[o]) (pp++[p]) (by simp[Y]) (by rw[AT];simp) (by grind) (by
   rw[acY,ahz,List.range_succ,wT,B9];simp[aS,A9,AU])
  refine⟨M,Z,λj J A2 A1 A4 AQ=>?_⟩;rcases Nat.eq_or_lt_of_le A1 with rfl|A1
  .grind
  .exact AO j J A2 (by simp;omega) A4 AQ
variable {S:St} {f:Nat->Bool}
def tg(all:List Oper)(f:Nat->Bool):Prop:=∀j o,all[j]?=some o->f j=true->∀p∈gd o,f p=true
theorem vu(AX:ps.length=all.length)(A6:tf all ps=true)(AD:tg all f){j:Nat}{o:Oper}{p:bC}(H:all[j]?=some o)(V:ps[j]?=some p)(A1:f j=false)(Au:∀i∈gd o,f i=true):
 nE all o p.ks (aS all ps S (kC all.length f)) (aS all ps S (List.range j)):=by
 have AY:j<all.length:=(aap.1 H).1;have AZ:∀j o,all[j]?=some o->∀p∈gd o,p<j:=λj o H=>(fU A6 H).choose_spec.2.1;obtain⟨BW,BX,_,BY⟩:=fU A6 H;have BZ:∀i∈(j8 all []).getD j [],i<j/\f i=true:=λi hi=>by
  obtain⟨M,Z⟩:=m4 (L:=λi=>f i=true) AZ (λj o H AH=>AD j o H AH) j ⟨o,H⟩ i hi;grind
 let q:Nat->Bool:=λi=>(j8 all []).getD j [] |>.contains i
 have Av:∀i,(i<j\/(j<i/\f i=true))->q i=false->∀U pi,all[i]?=some U->ps[i]?=some pi->IY all U o pi p\/IY all o U p pi:=by
  rintro i (hi|⟨hi,A_⟩) AB U pi A0 A8
  .grind
  .obtain⟨BA,BB,_,Ai⟩:=fU A6 A0;rcases Ai j hi with h|⟨J,A2,A4,AQ,h⟩
   .have:=(m4 (L:=λi=>f i=true) AZ (λj o H AH=>AD j o H AH) i ⟨U,A0⟩ j h).2 (λJ A4=>by rw[A0]at A4;cases A4;exact AD i U A0 A_);grind
   grind
 have Aw:(kC all.length f).filter q=(List.range j).filter q:=by
  rw[Em AY A1,aih,aif,aif];have:(List.range' (j+1) (all.length-j-1)).filter (λa=>q a&&f a)=[]:=by
   rw[ahS];grind
  grind
 have Y:∀i∈kC all.length f,i<j\/(j<i/\f i=true):=λi hi=>by
  have A_:=(aha.1 hi).2;grind
 have A3:∀i∈List.range j,i<j\/(j<i/\f i=true):=λi hi=>.inl (aej.1 hi);refine⟨by rw[sk,sk],by rw[p7,p7],by rw[gf,gf],λt AP=>?_,λk I=>?_⟩
 .have key:∀l:List Nat,(∀i∈l,i<j\/(j<i/\f i=true))->∀i∈l,∀U,all[i]?=some U->U.dst=some t->q i=true:=by
   intro l Y i hi U A0 A';cases AB:q i with
   |true=>rfl
   |false=>
    obtain⟨pi,A8,_⟩:=fU A6 A0;rcases Av i (Y i hi) AB U pi A0 A8 with h|h
    .exact absurd AP (h.a t A')
    .exact absurd AP (h.b t A')
  rw[zK t q _ S S (key _ Y) rfl,zK t q (List.range j) S S (key _ A3) rfl,Aw]
 .have key:∀l:List Nat,(∀i∈l,i<j\/(j<i/\f i=true))->∀i∈l,∀pi,ps[i]?=some pi->k∈pi.es.map (·.key)->q i=true:=by
   intro l Y i hi pi A8 A';cases AB:q i with
   |true=>rfl
   |false=>
    cases A0:all[i]? with
    |none=>
     grind
    |some U=>
     rcases Av i (Y i hi) AB U pi A0 A8 with h|h
     .exact absurd I (h.d k A')
     .exact absurd I (h.e k A')
  rw[qF k q _ S S (key _ Y) rfl rfl,qF k q (List.range j) S S (key _ A3) rfl rfl,Aw]
theorem Cw(AX:ps.length=all.length)(A6:tf all ps=true)(AD:tg all f)(Ax:∀(j:Nat) (p:bC),ps[j]?=some p->∀e∈p.es,e.key∈p.ks)(Ay:(S.mem.map (·.key)).Nodup){j:Nat}{o:Oper}{p:bC}(H:all[j]?=some o)(V:ps[j]?=some p)(A1:f j=false){g:Nat->Bool}(AI:g j=true)(BC:∀i,i≠j->g i=f i):
 jL (p.app o (aS all ps S (kC all.length f))) (aS all ps S (kC all.length g)):=by
 have AY:j<all.length:=(aap.1 H).1;have AZ:∀j o,all[j]?=some o->∀p∈gd o,p<j:=λj o H=>(fU A6 H).choose_spec.2.1;have Aj:∀i∈(List.range' (j+1) (all.length-j-1)).filter f,∀U pi,all[i]?=some U->ps[i]?=some pi->IY all o U p pi:=by
  intro i hi U pi A0 A8;obtain⟨hi,A_⟩:=aha.1 hi;have B_:=(List.mem_range'_1.1 hi).1;obtain⟨BA,BB,_,Ai⟩:=fU A6 A0;rcases Ai j (by omega)with h|⟨J,A2,A4,AQ,h⟩
  .have:=(m4 (L:=λi=>f i=true) AZ (λj o H AH=>AD j o H AH) i ⟨U,A0⟩ j h).2 (λJ A4=>by rw[A0]at A4;cases A4;exact AD i U A0 A_);grind
  grind
 rw[U8 AY AI BC,Em AY A1];generalize Ba:(List.range j).filter f=AC;generalize Bb:(List.range' (j+1) (all.length-j-1)).filter f=AE at Aj;have BD:∀{i pi},ps[i]?=some pi->∃U,all[i]?=some U:=λ{i pi} h=>by
  have:=(aap.1 h).1;exact⟨all[i]'(by omega),ado _⟩
 let q:Nat->Bool:=λi=>i != j
 have Az:(AC++j::AE).filter q=AC++AE:=by
  rw[aih,amR (by simp[q]),<-aih,List.filter_eq_self];grind
 have B':∀S,aS all ps S (AC++j::AE)=aS all ps (p.app o (aS all ps S AC)) AE:=λS=>by
  simp[aS,H,V]
 have BE:(p.app o (aS all ps S (AC++AE))).mem.map (·.key)=(aS all ps S (AC++j::AE)).mem.map (·.key):=by
  rw[Hp,gf,gf]
 refine⟨by rw[zJ,sk,sk],by rw[vY,p7,p7],Mem.ext (by rw[Hp,gf];grind) BE λk=>?_,λt=>?_⟩
 .by_cases I:k∈p.es.map (·.key)
  .have M:Mem.get (p.app o (aS all ps S (AC++AE))).mem k=Mem.get (p.app o (aS all ps S AC)).mem k:=by
    simp[bC.app,ib];exact sc _ _ _ k (by rw[gf,gf]) (.inl I)
   rw[M,B'];rw[qF k (λ_=>false) AE _ (p.app o (aS all ps S AC)) ?_ rfl rfl]
   .rw[ahS.2 (by simp)];rfl
   .intro i hi pi A8 AJ;obtain⟨U,A0⟩:=BD A8;have:=(Aj i hi U pi A0 A8).e k AJ;grind
  .rw[IX _ _ _ _ I,qF k q (AC++j::AE) S S ?_ rfl rfl,Az];grind
 .rw[yD];by_cases A':o.dst=some t
  .rw[ac1 A',B'];rw[zK t (λ_=>false) AE _ (p.app o (aS all ps S AC)) ?_ rfl]
   .rw[ahS.2 (by simp)];simp[aS,yD,A']
   .intro i hi U A0 BF;obtain⟨pi,A8,_⟩:=fU A6 A0;exact absurd BF ((Aj i hi U pi A0 A8).c t A')
  .rw[aaf A',zK t q (AC++j::AE) S S ?_ rfl,Az];grind
theorem Va{P:Program}{S0 S1:St}{φ0:cC}{G:Fr}{w0:World}{Q:Exit->Act->World->Prop}{T:Mem->Prop}(Ak:T S0.mem)(AR:Cert P T all all S0 ps S1)(A6:tf all ps=true)(Ay:(S0.mem.map (·.key)).Nodup)
 (Al:∀φ' A5 w',Rel φ' G S1 A5 w'->bn φ0 S0.mem w0 φ' S1.mem w'->Q .normal A5 w'):
 ∀(fuel:Nat)(D:Array Bool) φ a w,D.size=all.length->tg all (λi=>D.getD i false)->Rel φ G (aS all ps S0 (kC all.length λi=>D.getD i false)) a w->bn φ0 S0.mem w0 φ (aS all ps S0 (kC all.length λi=>D.getD i false)).mem w->
  ((List.range all.length).filter λi=>!D.getD i false).length<=fuel->wpAny P .any all.toArray Q fuel D a w:=by
 obtain⟨An,AX,AW⟩:=Cert.at (ps:=ps) (S0:=S0) AR [] [] rfl rfl rfl rfl;have Ax:∀(j:Nat)(p:bC),ps[j]?=some p->∀e∈p.es,e.key∈p.ks:=λj p V=>by
  have B5:j<ps.length:=(aap.1 V).1;exact (AW j (all[j]'(by omega)) p (by simp) (by simp) V).1
 have BG:∀l:List Nat,T (aS all ps S0 l).mem:=by
  have key:∀(l:List Nat)(S:St),T S.mem->T (aS all ps S l).mem:=by
   intro l;induction l with
   |nil=>exact λ_ h=>h
   |cons i l ih=>
    intro S h;refine ih _ ?_;simp;split
    .rename_i o p H V;simp[bC.app,ib];exact (AW i o p (by simp) H V).2.1 _ h
    omega
  exact λl=>key l S0 Ak
 --Bc first Bd Be D is ready
 have first:∀(f:Nat->Bool)(n:Nat),n<=all.length->(∀i,i<n->f i=true)\/∃i,i<n/\f i=false/\∀AA,AA<i->f AA=true:=by
  intro f n;induction n with
  |zero=>simp
  |succ n ih=>
   grind
 have done:∀(D:Array Bool) φ a w,D.size=all.length->Rel φ G (aS all ps S0 (kC all.length λi=>D.getD i false)) a w->bn φ0 S0.mem w0 φ (aS all ps S0 (kC all.length λi=>D.getD i false)).mem w->Region.ready .any all.toArray D=[]->Q .normal a w:=by
  intro D φ a w AS A3 I Aa;have Bf:∀i,i<all.length->D.getD i false=true:=by
   rcases first (λi=>D.getD i false) all.length (aar _)with h|⟨i,M,Z,AO⟩
   .exact h
   .have:i∈Region.ready .any all.toArray D:=by
     rw[mem_ready];refine⟨?_,all[i],by simp,λe he BH=>?_⟩
     .grind
     .obtain⟨p,_,V,_⟩:=fU A6 (show all[i]?=some all[i] by simp);exact AO e.on (V e.on (by
       simp[gd,adk,aha];exact⟨e,⟨by simpa using he,BH⟩,rfl⟩))
    rw[Aa]at this;cases this
  have Y:(kC all.length λi=>D.getD i false)=List.range all.length:=by
   rw[kC,List.filter_eq_self];grind
  rw[Y,An]at A3 I;exact Al φ a w A3 I
 intro fuel;induction fuel with
 |zero=>
  intro D φ a w AS AD A3 I AH;have Aa:Region.ready .any all.toArray D=[]:=by
   cases h:Region.ready .any all.toArray D with
   |nil=>rfl
   |cons i r=>
    have hi:i∈Region.ready .any all.toArray D:=by rw[h];simp
    rw[mem_ready]at hi;obtain⟨Ag,o,H,_⟩:=hi;have B0:i<all.length:=by
     grind
    simp_all
  exact⟨Aa,done D φ a w AS A3 I Aa⟩
 |succ fuel ih=>
  intro D φ a w AS AD A3 I AH;refine⟨done D φ a w AS A3 I,λi hi=>?_⟩;rw[mem_ready]at hi;obtain⟨Ag,o,H,Bg⟩:=hi;have A4:all[i]?=some o:=by simpa using H
  have B0:i<all.length:=(aap.1 A4).1;have BI:i<D.size:=by omega
  have Ao:D.getD i false=false:=by
   grind
  have Au:∀k∈gd o,D.getD k false=true:=by
   intro k AK;simp[gd,adk]at AK;grind
  obtain⟨p,V,_⟩:=fU A6 A4;obtain⟨Bh,_,BJ⟩:=AW i o p (by simp) A4 V;have BK:=vu (S:=S0) AX A6 AD A4 V Ao Au;have B1:(D.setIfInBounds i true).getD i false=true:=by simp[BI]
  have Ab:∀k,k≠i->(D.setIfInBounds i true).getD k false=D.getD k false:=λk AK=>getD_set_ne false (ahN AK);have heq:=Cw (S:=S0) (f:=λi=>D.getD i false) (g:=λk=>(D.setIfInBounds i true).getD k false) AX A6 AD Ax Ay A4 V Ao B1 Ab;have BL:tg all (λk=>(D.setIfInBounds i true).getD k false):=by
   intro k ok BM BN x Af;by_cases B2:x=i
   .subst B2;omega
   .show (D.setIfInBounds i true).getD x false=true;rw[Ab x B2];by_cases AJ:k=i
    .grind
    .exact AD k ok BM ((Ab k AJ).symm.trans BN) x Af
  have BO:((List.range all.length).filter λk=>!(D.setIfInBounds i true).getD k false).length<=fuel:=by
   have M:(List.range all.length).filter (λk=>!(D.setIfInBounds i true).getD k false)=((List.range all.length).filter λk=>!D.getD k false).filter (λk=>k != i):=by
    rw[aif];refine alT λk _=>?_;by_cases AJ:k=i
    .subst AJ;rw[B1];simp
    .rw[Ab k AJ];simp[AJ]
   have BP:i∈(List.range all.length).filter λk=>!D.getD k false:=aha.2 ⟨aej.2 B0,by simp[Ao]⟩;rw[M];have:(((List.range all.length).filter λk=>!D.getD k false).filter (λk=>k != i)).length<((List.range all.length).filter λk=>!D.getD k false).length:=by
    rw[alZ];exact⟨i,BP,by simp⟩
   omega
  have AL:=BJ _ BK (BG _) φ G a w A3 (wpAny P .any all.toArray Q fuel (D.setIfInBounds i true)) Q (λφ' A5 w' Ap AK=>
   ih _ φ' A5 w' (by simpa using AS) BL (Ap.eqv heq) (by rw[<-heq.mem];exact I.trans AK) BO)
  unfold wpOp;grind
end
def RU{P:Program}{S S1:St}{id:Nat}{ops:List Oper}{ps:List bC}{T:Mem->Prop}(Ak:T S.mem)(hm:P.follows .mixedOrders=true)(AR:Cert P T ops ops S ps S1)(A6:tf ops ps=true){φ G a w}(A3:Rel φ G S a w){Q:Exit->Act->World->Prop}
 (Al:∀φ' A5 w',Rel φ' G S1 A5 w'->bn φ S.mem w φ' S1.mem w'->Q .normal A5 w'):(Code.region id ops.toArray true).wp P Q a w:=by
 refine wp_region_any hm ?_;have BQ:Rel φ G S a {w with drawn:=w.drawn+1}:=A3.grow (λ_ _=>rfl) (aar _);have B3:(kC ops.length λi=>(Array.replicate ops.length false).getD i false)=[]:=by
  rw[kC,ahS];simp_all
 refine Va (S0:=S) (φ0:=φ) (w0:=w) (G:=G) Ak AR A6 A3.mem.nodup (λφ' A5 w' Ap AK=>Al φ' A5 w' Ap AK) _ _ φ a _ (by simp) ?_ ?_ ?_ ?_
 .intro j o _ A1;simp at A1;grind
 .simp only[ahr];rw[B3];exact BQ
 .simp only[ahr];rw[B3];exact bn.grow (λ_ _=>rfl) (aar _) rfl rfl rfl
 grind
def ahv{P:Program}{T:Mem->Prop}{ops:List Oper}{S S1:St}{ps:List bC}(AR:Cert P T ops ops S ps S1):S1.n=S.n/\S1.gl=S.gl:=by
 obtain⟨An,_,_⟩:=Cert.at (ps:=ps) (S0:=S) AR [] [] rfl rfl rfl rfl;rw[<-An];exact⟨sk ..,p7 ..⟩
def Hr(all:List Oper)(o J:Oper):Bool:=uL o.dst.toList (looks all J)&&uL J.dst.toList (looks all o)&&uL o.dst.toList J.dst.toList
def Eo(all:List Oper)(A7:List (List Nat))(Ac:List (List Nat))(j:Nat):Bool:=
 match all[j]? with
 |some o=>(gd o).all (λi=>decide (i<j))&&(List.range j).all λi=>(Ac.getD j []).contains i||(match all[i]? with
  |some J=>Hr all J o&&((A7.getD i []).contains j&&(A7.getD j []).contains i)
  |none=>false)
 |none=>false
def Hs(all:List Oper)(A7:List (List Nat)):Bool:=(List.range all.length).all (Eo all A7 (j8 all []))
def Kx(ps:List bC)(es:List dn):List Nat->Bool
 |[]=>true
 |j::r=>(match ps[j]? with|some q=>uL (es.map (·.key)) q.ks|none=>false)&&Kx ps es r
def Ky(ps:List bC)(AF:List Nat):List dn->Bool
 |[]=>true
 |e::es=>Kx ps (e::es) AF
def Cx(ps:List bC):List (List Nat)->List bC->Bool
 |_,[]=>true
 |[],p::r=>Ky ps [] p.es&&Cx ps [] r
 |AF::A7,p::r=>Ky ps AF p.es&&Cx ps A7 r
def p9(A7:List (List Nat))(ps:List bC):Bool:=Cx ps A7 ps
def uN{ps:List bC}:∀{A7:List (List Nat)}{l:List bC},Cx ps A7 l=true->∀i p,l[i]?=some p->Ky ps (A7.getD i []) p.es=true
 |_,[],_,i,p,V=>by grind
 |[],q::r,h,i,p,V=>by
  simp[Cx]at h;cases i with
  |zero=>grind
  |succ i=>have:=uN h.2 i p (by grind);grind
 |AF::A7,q::r,h,i,p,V=>by
  simp[Cx]at h;cases i with
  |zero=>grind
  |succ i=>have:=uN h.2 i p (by grind);grind
def OP{ps:List bC}{es:List dn}:∀{AF:List Nat},Kx ps es AF=true->∀j∈AF,∀q,ps[j]?=some q->uL (es.map (·.key)) q.ks=true
 |[],_,j,A1,_,_=>by grind
 |k::r,h,j,A1,q,AG=>by
  simp[Kx]at h;rcases ac4.1 A1 with rfl|A1
  .grind
  .exact OP h.2 j A1 q AG
def Cy{ps:List bC}{AF:List Nat}:∀{es:List dn},Ky ps AF es=true->∀j∈AF,∀q,ps[j]?=some q->uL (es.map (·.key)) q.ks=true
 |[],_,_,_,_,_=>rfl
 |_::_,h,j,A1,q,AG=>OP h j A1 q AG
def Xt{all:List Oper}{A7:List (List Nat)}{ps:List bC}(AL:Hs all A7=true)(A':p9 A7 ps=true)(Y:ps.length=all.length):tf all ps=true:=by
 refine adp.2 λj A1=>?_;have M:=adp.1 AL j A1;have Bi:j<all.length:=aej.1 A1;unfold Eo at M;unfold Ny;have AM:ps[j]?=some (ps[j]'(by omega)):=by grind
 rw[AM];cases H:all[j]? with
 |none=>grind
 |some o=>
  rw[H]at M;simp at M⊢;refine⟨M.1,λi hi=>?_⟩;rcases M.2 i hi with Z|Z
  .grind
  .have A8:ps[i]?=some (ps[i]'(by omega)):=by grind
   cases A0:all[i]? with
   |none=>grind
   |some J=>
    rw[A0]at Z;simp at Z;simp[El];have A9:=Cy (uN A' i _ A8) j (by grind) _ AM;have AU:=Cy (uN A' j _ AM) i (by grind) _ A8;have BR:=Z.1;simp[Hr]at BR;grind
def Ht(all:List Oper):Prop:=∀i,i+1<all.length->i∈(j8 all []).getD (all.length-1) []
def RV{all:List Oper}{A_:List (List Nat)}(Y:Hs all A_=true)(Aa:A_.getD (all.length-1) []=[]):Ht all:=by
 intro i hi;have O:=adp.1 Y (all.length-1) (aej.2 (by omega));unfold Eo at O;rw[ado (by omega)]at O;simp only[Ds,adp,ams,aej]at O;rcases O.2 i (by omega)with H|H
 .simpa using H
 .rw[ado (by omega)]at H;simp only[Ds]at H;have:=H.2.2;rw[Aa]at this;cases this
def LW:bC:=⟨[],[],false,.bH⟩
section
variable {all:List Oper} {ps:List bC}
theorem Cert.at2{P:Program}{J:Mem->Prop}{rest:List Oper}{S0 S:St}{V:List bC}{S1:St}(h:Cert P J all rest S V S1):∀(pre:List Oper)(pp:List bC)(AF:List Oper)(AG:List bC),pre.length=pp.length->all=pre++rest++AF->ps=pp++V++AG->aS all ps S0 (List.range pre.length)=S->
 aS all ps S0 (List.range (pre.length+rest.length))=S1/\V.length=rest.length/\∀j o p,pre.length<=j->j<pre.length+rest.length->all[j]?=some o->ps[j]?=some p->(∀e∈p.es,e.key∈p.ks)/\(∀m,J m->J (bV m p.es))/\xF P J all (aS all ps S0 (List.range j)) o p:=by
 induction h with
 |nil S=>
  intro pre pp AF AG AA AM A0 AH;exact⟨by simpa using AH,rfl,λj o p Z AN _=>by simp at AN;omega⟩
 |cons o rest S p V S1 A2 Aq AB A' ih=>
  intro pre pp AF AG AA AM A0 AH;have A3:all[pre.length]?=some o:=by rw[AM];simp
  have Ab:ps[pre.length]?=some p:=by rw[A0,AA];simp
  obtain⟨O,H,AC⟩:=ih (pre++[o]) (pp++[p]) AF AG (by simp[AA]) (by rw[AM];simp) (by rw[A0];simp) (by
   rw[acY,ahz,List.range_succ,wT,AH];simp[aS,A3,Ab])
  refine⟨by rw[<-O];simp;congr 2;omega,by simp[H],λj Ac Ar Z AN T AO=>?_⟩;rcases Nat.eq_or_lt_of_le Z with rfl|Z
  .rw[A3]at T;rw[Ab]at AO;cases T;cases AO;exact⟨A2,Aq,by rw[AH];exact AB⟩
  .exact AC j Ac Ar (by simp;omega) (by simp at AN⊢;omega) T AO
theorem Vb{P:Program}{S0 S1:St}{φ0:cC}{G:Fr}{w0:World}{Q:Exit->Act->World->Prop}{J:Mem->Prop}{init:List Oper}{ol:Oper}(A4:all=init++[ol])(AP:Ht all)(AQ:J S0.mem){V:List bC}(AR:Cert P J all init S0 V S1)(A0:ps=V++[LW])(A1:tf all ps=true)(As:(S0.mem.map (·.key)).Nodup)
 (AS:∀φ a w,Rel φ G S1 a w->bn φ0 S0.mem w0 φ S1.mem w->∀next:Act->World->Prop,(∀M w',Q .normal M w'->next M w')->if Region.wanted ol (yielded all.toArray a.tmps)then ol.wp P a w next Q else next (a.put ol.dst undef) w):
 ∀(fuel:Nat)(D:Array Bool) φ a w,D.size=all.length->D.getD init.length false=false->tg all (λi=>D.getD i false)->Rel φ G (aS all ps S0 (kC all.length λi=>D.getD i false)) a w->bn φ0 S0.mem w0 φ (aS all ps S0 (kC all.length λi=>D.getD i false)).mem w->
  ((List.range all.length).filter λi=>!D.getD i false).length<=fuel->wpAny P .any all.toArray Q fuel D a w:=by
 obtain⟨At,Ad,AB⟩:=Cert.at2 (ps:=ps) (S0:=S0) AR [] [] [ol] [LW] rfl (by simp[A4]) (by simp[A0]) rfl;have AT:all.length=init.length+1:=by rw[A4];simp
 have Ae:ps.length=all.length:=by rw[A0,AT];simp[Ad]
 have AU:all[init.length]?=some ol:=by rw[A4];simp
 have Af:ps[init.length]?=some LW:=by rw[A0,<-Ad];simp
 have Au:∀(j:Nat)(p:bC),ps[j]?=some p->∀e∈p.es,e.key∈p.ks:=λj p I=>by
  have BB:j<ps.length:=(aap.1 I).1;by_cases Z:j<init.length
  .exact (AB j (all[j]'(by omega)) p (by simp) (by simpa using Z) (by simp) I).1
  .have:j=init.length:=by omega
   subst this;rw[Af]at I;cases I;simp[LW]
 have Av:∀j o,all[j]?=some o->∀p∈gd o,p<j:=λj o U=>(fU A1 U).choose_spec.2.1;have Aw:∀l:List Nat,J (aS all ps S0 l).mem:=by
  have key:∀(l:List Nat)(S:St),J S.mem->J (aS all ps S l).mem:=by
   intro l;induction l with
   |nil=>exact λ_ h=>h
   |cons i l ih=>
    intro S h;have A3:aS all ps S (i::l)=aS all ps (aS all ps S [i]) l:=by simp[aS]
    rw[A3];refine ih _ ?_;simp only[aS,List.foldl_cons,amS];split
    .rename_i o p U I;simp only[bC.app,ib];have AI:i<all.length:=(aap.1 U).1;by_cases hi:i<init.length
     .exact (AB i o p (by simp) (by simpa using hi) U I).2.1 _ h
     .have:i=init.length:=by omega
      subst this;rw[Af]at I;cases I;exact h
    .exact h
  exact λl=>key l S0 AQ
 have first:∀(f:Nat->Bool)(n:Nat),n<=all.length->(∀i,i<n->f i=true)\/∃i,i<n/\f i=false/\∀Ag,Ag<i->f Ag=true:=by
  intro f n;induction n with
  |zero=>exact λ_=>.inl (λi hi=>by omega)
  |succ n ih=>
   intro Aa;rcases ih (by omega)with h|⟨i,O,H,AC⟩
   .cases A5:f n with
    |true=>
     refine .inl λi hi=>?_;rcases Nat.lt_succ_iff_lt_or_eq.1 hi with AV|AV
     .exact h i AV
     .rw[AV];exact A5
    |false=>exact .inr ⟨n,by omega,A5,h⟩
   .exact .inr ⟨i,by omega,H,AC⟩
 have Ax:∀(D:Array Bool),D.size=all.length->Region.ready .any all.toArray D=[]->∀i,i<all.length->D.getD i false=true:=by
  intro D A6 A7;rcases first (λi=>D.getD i false) all.length (aar _)with h|⟨i,O,H,AC⟩
  .exact h
  .exfalso;have:i∈Region.ready .any all.toArray D:=by
    rw[mem_ready];refine⟨?_,all[i],by simp[O],λe he AW=>?_⟩
    .have:i<D.size:=by omega
     simp only[aef,aiO this,ahx]at H⊢;exact H
    .obtain⟨p,_,I,_⟩:=fU A1 (show all[i]?=some all[i] by simp[O]);exact AC e.on (I e.on (by
      simp only[gd,adk,aha];exact⟨e,⟨by simpa using he,AW⟩,rfl⟩))
   rw[A7]at this;cases this
 have Ay:∀(D:Array Bool),D.size=all.length->(∀i,i<all.length->D.getD i false=true)->Region.ready .any all.toArray D=[]:=by
  intro D A6 Az;cases h:Region.ready .any all.toArray D with
  |nil=>rfl
  |cons i r=>
   exfalso;have hi:i∈Region.ready .any all.toArray D:=by rw[h];simp
   rw[mem_ready]at hi;obtain⟨AD,o,U,_⟩:=hi;have AI:i<all.length:=by
    have:=(aet.1 U).1;simpa using this
   have:=Az i AI;have H:i<D.size:=by omega
   simp only[aef,aiO H,ahx]at AD this;rw[AD]at this;cases this
 intro fuel;induction fuel with
 |zero=>
  intro D φ a w A6 AJ AE A' A2 A5;exfalso;have:init.length∈(List.range all.length).filter λi=>!D.getD i false:=aha.2 ⟨aej.2 (by omega),by simp only[AJ];rfl⟩;have:=List.length_pos_of_mem this;omega
 |succ fuel ih=>
  intro D φ a w A6 AJ AE A' A2 A5;refine⟨λA7=>?_,λi hi=>?_⟩
  .have:=Ax D A6 A7 init.length (by omega);rw[AJ]at this;cases this
  rw[mem_ready]at hi;obtain⟨AD,o,U,B'⟩:=hi;have T:all[i]?=some o:=by simpa using U
  have AI:i<all.length:=(aap.1 T).1;have Ah:i<D.size:=by omega
  have AK:D.getD i false=false:=by
   simp only[aef,aiO Ah,ahx]at AD⊢;exact AD
  have AX:∀k∈gd o,D.getD k false=true:=by
   intro k A8;simp only[gd,adk,aha]at A8;obtain⟨e,⟨he,AW⟩,rfl⟩:=A8;exact B' e (by simpa using he) AW
  have AL:(D.setIfInBounds i true).getD i false=true:=by simp[Ah]
  have A9:∀k,k≠i->(D.setIfInBounds i true).getD k false=D.getD k false:=λk A8=>getD_set_ne false (ahN A8);by_cases Ai:i=init.length
  .subst Ai;rw[AU]at T;cases T;have Aj:∀k,k<init.length->D.getD k false=true:=by
    intro k AY;have B0:k∈(j8 all []).getD init.length []:=by
     have:=AP k (by omega);rw[AT]at this;simpa using this
    exact (m4 (L:=λi=>D.getD i false=true) Av (λj o U A5=>AE j o U A5) init.length ⟨ol,AU⟩ k B0).2 (λAc Ak=>by rw[AU]at Ak;cases Ak;exact AX)
   have AA:(kC all.length λi=>D.getD i false)=List.range init.length:=by
    rw[kC,AT,List.range_succ,aih];have A3:(List.range init.length).filter (λi=>D.getD i false)=List.range init.length:=by
     rw[List.filter_eq_self];intro k AY;exact Aj k (aej.1 AY)
    rw[A3];simp only[List.filter_cons,List.filter_nil];rw[AK];simp
   have B1:aS all ps S0 (List.range init.length)=S1:=by simpa using At
   rw[AA,B1]at A' A2;have Y:=AS φ a w A' A2 (wpAny P .any all.toArray Q fuel (D.setIfInBounds init.length true)) (λM w' Al=>by
    have A7:=Ay (D.setIfInBounds init.length true) (by simpa using A6) (λk AY=>by
     by_cases y:k=init.length
     .subst y;exact AL
     .rw[A9 k y];exact Aj k (by omega))
    cases fuel with
    |zero=>exact⟨A7,Al⟩
    |succ fuel=>exact⟨λ_=>Al,λi hi=>by rw[A7]at hi;cases hi⟩)
   unfold wpOp;rw[U];simp only
   split at Y
   .rename_i hw;rw[ac1 hw];exact .inl Y
   .rename_i hw;rw[aaf hw];exact Y
  .have B2:i<init.length:=by omega
   obtain⟨p,I,_⟩:=fU A1 T;obtain⟨BC,_,B3⟩:=AB i o p (by simp) (by simpa using B2) T I;have B4:=vu (S:=S0) Ae A1 AE T I AK AX;have heq:=Cw (S:=S0) (f:=λi=>D.getD i false) (g:=λk=>(D.setIfInBounds i true).getD k false) Ae A1 AE Au As T I AK AL A9;have B5:tg all (λk=>(D.setIfInBounds i true).getD k false):=by
    intro k ok AZ B6 x An;by_cases Ao:x=i
    .subst Ao;exact AL
    .show (D.setIfInBounds i true).getD x false=true;rw[A9 x Ao];by_cases y:k=i
     .subst y;rw[T]at AZ;cases AZ;exact AX x An
     .exact AE k ok AZ ((A9 k y).symm.trans B6) x An
   have B7:((List.range all.length).filter λk=>!(D.setIfInBounds i true).getD k false).length<=fuel:=by
    have O:(List.range all.length).filter (λk=>!(D.setIfInBounds i true).getD k false)=((List.range all.length).filter λk=>!D.getD k false).filter (λk=>k != i):=by
     rw[aif];refine alT λk _=>?_;by_cases y:k=i
     .subst y;rw[AL];simp
     .rw[A9 k y];simp[y]
    have B8:i∈(List.range all.length).filter λk=>!D.getD k false:=aha.2 ⟨aej.2 AI,by simp[AK]⟩;rw[O];have:(((List.range all.length).filter λk=>!D.getD k false).filter (λk=>k != i)).length<((List.range all.length).filter λk=>!D.getD k false).length:=by
     rw[alZ];exact⟨i,B8,by simp⟩
    omega
   have Y:=B3 _ B4 (Aw _) φ G a w A' (wpAny P .any all.toArray Q fuel (D.setIfInBounds i true)) Q (λφ' M w' B9 A8=>
    ih _ φ' M w' (by simpa using A6) (by rw[A9 _ (ahN Ai)];exact AJ) B5 (B9.eqv heq) (by rw[<-heq.mem];exact A2.trans A8) B7)
   unfold wpOp;rw[U];simp only
   split at Y
   .rename_i hw;rw[ac1 hw];exact .inl Y
   .rename_i hw;rw[aaf hw];exact Y
end
def RW{P:Program}{S S1:St}{id:Nat}{ops init:List Oper}{ol:Oper}{V:List bC}{J:Mem->Prop}(A4:ops=init++[ol])(AP:Ht ops)(AQ:J S.mem)(hm:P.follows .mixedOrders=true)(AR:Cert P J ops init S V S1)(A1:tf ops (V++[LW])=true){φ G a w}(A':Rel φ G S a w){Q:Exit->Act->World->Prop}
 (AS:∀φ' M w',Rel φ' G S1 M w'->bn φ S.mem w φ' S1.mem w'->∀next:Act->World->Prop,(∀M w',Q .normal M w'->next M w')->if Region.wanted ol (yielded ops.toArray M.tmps)then ol.wp P M w' next Q else next (M.put ol.dst undef) w'):(Code.region id ops.toArray true).wp P Q a w:=by
 refine wp_region_any hm ?_;have BA:Rel φ G S a {w with drawn:=w.drawn+1}:=A'.grow (λ_ _=>rfl) (aar _);have Ap:(kC ops.length λi=>(Array.replicate ops.length false).getD i false)=[]:=by
  rw[kC,ahS];intro i hi;simp[aef,aej.1 hi]
 refine Vb (S0:=S) (φ0:=φ) (w0:=w) (G:=G) A4 AP AQ AR rfl A1 A'.mem.nodup AS _ _ φ a _ (by simp) ?_ ?_ ?_ ?_ ?_
 .simp only[aef];rw[A4];simp
 .intro j o _ Z;exfalso;simp only[aef]at Z;by_cases h:j<ops.length
  .simp[h]at Z
  .simp[h]at Z
 .simp only[ahr];rw[Ap];exact BA
 .simp only[ahr];rw[Ap];exact bn.grow (λ_ _=>rfl) (aar _) rfl rfl rfl
 .simp only[ahr];exact alB (List.length_filter_le _ _) (by simp)
def jh:Mem->Nat
 |[]=>0
 |e::r=>e.au+jh r
def ja:List bC->Nat
 |[]=>0
 |p::r=>jh p.es+ja r
def m6(N:Nat):Mem->Mem
 |[]=>[]
 |e::r=>(match decide (100<=e.key)with|true=>⟨e.key,N,.dead⟩|false=>e)::m6 N r
def St.kill(S:St)(N:Nat):St:={S with env:=[],mem:=m6 N S.mem}
def Kz:List dn->Bool
 |[]=>true
 |e::r=>decide (100<=e.key)&&Kz r
def Es(ps:List bC):List Nat->Bool
 |[]=>true
 |i::r=>(match ps[i]? with|some p=>Kz p.es|none=>false)&&Es ps r
def Et:∀{m:Mem}{e:dn},e∈m->e.au<=jh m
 |_::r,e,h=>by
  rcases ac4.1 h with rfl|h
  .simp only[jh];omega
  .have:=Et (m:=r) h;simp only[jh];omega
def I3:∀{ps:List bC}{p:bC},p∈ps->jh p.es<=ja ps
 |_::r,p,h=>by
  rcases ac4.1 h with rfl|h
  .simp only[ja];omega
  .have:=I3 (ps:=r) h;simp only[ja];omega
def tu(N:Nat):∀m:Mem,(m6 N m).map (·.key)=m.map (·.key)
 |[]=>rfl
 |e::r=>by
  simp only[m6,adz,tu N r];split<;>rfl
def v7{N:Nat}:∀{m:Mem}{e:dn},e∈m6 N m->(∃A1∈m,100<=A1.key/\e=⟨A1.key,N,.dead⟩)\/(e∈m/\e.key<100)
 |A1::r,e,h=>by
  simp only[m6,ac4]at h;rcases h with h|h
  .by_cases Y:100<=A1.key
   .simp only[Y,decide_true]at h;exact .inl ⟨A1,by simp,Y,h⟩
   .simp only[Y,decide_false]at h;subst h;exact .inr ⟨by simp,by omega⟩
  .rcases v7 h with ⟨AF,I,T,A5⟩|⟨I,T⟩
   .exact .inl ⟨AF,aep _ I,T,A5⟩
   .exact .inr ⟨aep _ I,T⟩
def Eu(N:Nat)(k:Nat):∀m:Mem,Mem.get (m6 N m) k=(Mem.get m k).map λe=>match decide (100<=e.key)with|true=>⟨e.key,N,.dead⟩|false=>e
 |[]=>rfl
 |e::r=>by
  have AF:(match decide (100<=e.key)with|true=>(⟨e.key,N,.dead⟩:dn)|false=>e).key=e.key:=by split<;>rfl
  simp only[m6,Mem.get,AF];split
  .rfl
  .exact Eu N k r
def tv(φ:cC)(N:Nat):cC:=λk=>match φ k with
 |some L=>some (match decide (100<=k)with|true=>{L with au:=N}|false=>L)
 |none=>none
def tw{φ:cC}{N k:Nat}(h:k<100):tv φ N k=φ k:=by
 unfold tv;have:decide (100<=k)=false:=by simp;omega
 rw[this];cases φ k<;>rfl
def LX{φ:cC}{N k:Nat}{L:Loc}(h:100<=k)(M:φ k=some L):tv φ N k=some {L with au:=N}:=by
 unfold tv;have:decide (100<=k)=true:=by simp;omega
 rw[this,M]
def aeD{φ:cC}{G:Fr}{S:St}{a:Act}{w:World}{N:Nat}(h:Rel φ G S a w)(AR:∀e∈S.mem,e.au<N):
 Rel (tv φ N) G (S.kill N) a w/\bn φ S.mem w (tv φ N) (S.kill N).mem w:=by
 have hle:φ.le (tv φ N):=by
  intro k L M;by_cases Y:100<=k
  .obtain⟨e,he,rfl⟩:=adk.1 (h.mem.ud k L M);obtain⟨L',AI,Af,_⟩:=h.mem.gZ e he;rw[M]at AI;cases AI;have:=AR e he;exact⟨_,LX Y M,by simp only;omega,λhh=>by simp only at hh;omega⟩
  .exact⟨L,by rw[tw (by omega)];exact M,aar _,λ_=>rfl⟩
 have AS:∀b,kV (tv φ N) (m6 N S.mem) b->kV φ S.mem b:=by
  rintro b ⟨e,he,L,M,J⟩;rcases v7 he with ⟨A1,Z,I,rfl⟩|⟨Z,I⟩
  .exact J.elim
  .rw[tw I]at M;exact⟨e,Z,L,M,J⟩
 have Ag:∀b,Fo G (tv φ N) (m6 N S.mem) b->Fo G φ S.mem b:=λb=>Or.imp id (AS b);have Y:bn φ S.mem w (tv φ N) (S.kill N).mem w:=⟨hle,λ_ _ _=>rfl,λb _ V=>AS b V,aar _,rfl,rfl,rfl⟩;refine⟨⟨h.size,h.defers,(λt x AO=>nomatch AO),⟨?_,?_,?_,?_,?_,h.mem.bound⟩,h.nK.mono (λ_ _ _=>rfl) (aar _) (λb _ V=>Ag b V)⟩,Y⟩
 .show ((m6 N S.mem).map (·.key)).Nodup;rw[tu];exact h.mem.nodup
 .intro k L M;show k∈(m6 N S.mem).map (·.key);rw[tu];unfold tv at M;cases O:φ k with
  |none=>rw[O]at M;cases M
  |some Ax=>exact h.mem.ud k Ax O
 .intro e he;rcases v7 he with ⟨A1,Z,I,rfl⟩|⟨Z,I⟩
  .obtain⟨L,M,_,_⟩:=h.mem.gZ A1 Z;exact⟨_,LX I M,rfl,trivial⟩
  .obtain⟨L,M,Af,Ay⟩:=h.mem.gZ e Z;exact⟨L,by rw[tw I];exact M,Af,Ay.mono hle (λ_ _ _=>rfl) (aar _) (λb _ V=>Ag b V) (λ_ _=>rfl)⟩
 .rintro e he e' Az L L' M AI ⟨b,J,U⟩;rcases v7 he with ⟨A1,Z,I,rfl⟩|⟨Z,I⟩
  .exact J.elim
  .rcases v7 Az with ⟨AF,T,A5,rfl⟩|⟨T,A5⟩
   .exact U.elim
   .rw[tw I]at M;rw[tw A5]at AI;exact h.mem.apart e Z e' T L L' M AI ⟨b,J,U⟩
 .intro b V;exact h.mem.nJ b (AS b V)
def FK(P:Program)(all:List Oper)(S:St)(o:Oper)(p:bC)(t:TypeId)(x:D):Prop:=
 ∀S',nE all o p.ks S' S->∀φ G a w,Rel φ G S' a w->∀(next:Act->World->Prop)(R:Exit->Act->World->Prop),
  (∀φ' A2 w' v,Rel φ' G {S' with mem:=bV S'.mem p.es} A2 w'->bn φ S'.mem w φ' (bV S'.mem p.es) w'->aR w' (Fo G φ' (bV S'.mem p.es)) x v->R (.panic [{v:=.iface t v,recovered:=false}]) A2 w')->
  if Region.wanted o (yielded all.toArray a.tmps)then o.wp P a w next R else next (a.put o.dst undef) w
section
variable {all:List Oper} {ps:List bC}
theorem Vc{m:Mem}{x e:dn}(h:e∈Mem.set m x):e∈m\/e=x:=by
 induction m with
 |nil=>exact .inl h
 |cons y r ih=>
  simp only[Mem.set]at h;split at h
  .rcases ac4.1 h with h|h
   .exact .inr h
   .exact .inl (aep _ h)
  .rcases ac4.1 h with h|h
   .exact .inl (by simp[h])
   .rcases ih h with h|h
    .exact .inl (aep _ h)
    .exact .inr h
theorem Ew:∀{es:List dn}{m:Mem}{e:dn},e∈bV m es->e∈m\/e∈es
 |[],m,e,h=>.inl h
 |x::r,m,e,h=>by
  have I:e∈bV (Mem.set m x) r:=h;rcases Ew I with h|h
  .rcases Vc h with h|h
   .exact .inl h
   .exact .inr (by simp[h])
  .exact .inr (aep _ h)
theorem I4(B:Nat)(Ah:∀p∈ps,∀e∈p.es,e.au<B):∀(l:List Nat)(S:St),(∀e∈S.mem,e.au<B)->∀e∈(aS all ps S l).mem,e.au<B
 |[],S,h=>h
 |i::l,S,h=>by
  have AF:aS all ps S (i::l)=aS all ps (aS all ps S [i]) l:=by simp[aS]
  rw[AF];refine I4 B Ah l _ ?_;simp only[aS,List.foldl_cons,amS];split
  .rename_i o p J O;simp only[bC.app,ib];intro e he;rcases Ew he with he|he
   .exact h e he
   .exact Ah p (ac6 O) e he
  .exact h
variable {S:St} {f:Nat->Bool}
theorem RX(AJ:ps.length=all.length)(A3:tf all ps=true)(A':tg all f){j:Nat}{o:Oper}(J:all[j]?=some o)(AT:f j=false)(A9:∀i∈gd o,f i=true)
 (AU:∀i p,ps[i]?=some p->i≠j->i∉(j8 all []).getD j []->j∉(j8 all []).getD i []->∀e∈p.es,100<=e.key) {k:Nat} (Y:k<100):
 Mem.get (aS all ps S (kC all.length f)).mem k=Mem.get (aS all ps S (List.range j)).mem k:=by
 have B':j<all.length:=(aap.1 J).1;have AK:∀j o,all[j]?=some o->∀p∈gd o,p<j:=λj o J=>(fU A3 J).choose_spec.2.1;have Ai:∀i∈(j8 all []).getD j [],i<j/\f i=true:=λi hi=>by
  obtain⟨I,T⟩:=m4 (L:=λi=>f i=true) AK (λj o J A0=>A' j o J A0) j ⟨o,J⟩ i hi;exact⟨I,T λAj U=>by rw[J]at U;cases U;exact A9⟩
 have AV:∀i,f i=true->i<all.length->j∉(j8 all []).getD i []:=by
  intro i B0 AG AA;obtain⟨A6,AL⟩:∃A6,all[i]?=some A6:=⟨all[i],by simp[AG]⟩;have:=(m4 (L:=λi=>f i=true) AK (λj o J A0=>A' j o J A0) i ⟨A6,AL⟩ j AA).2 (λAj U=>by rw[AL]at U;cases U;exact A' i A6 AL B0);simp[AT]at this
 let q:Nat->Bool:=λi=>(j8 all []).getD j [] |>.contains i
 have AW:∀i,q i=true↔i∈(j8 all []).getD j []:=λi=>by simp[q]
 have B1:(kC all.length f).filter q=(List.range j).filter q:=by
  rw[Em B' AT,aih,aif,aif];have T:(List.range' (j+1) (all.length-j-1)).filter (λa=>q a&&f a)=[]:=by
   rw[ahS];intro i hi;have:=(List.mem_range'_1.1 hi).1;simp only[Ds,not_and];intro A7;have:=(Ai i ((AW i).1 A7)).1;omega
  rw[T,agV];refine alT λi hi=>?_;cases A7:q i with
  |false=>simp
  |true=>simp[(Ai i ((AW i).1 A7)).2]
 have B2:∀i p,ps[i]?=some p->i≠j->q i=false->j∉(j8 all []).getD i []->k∉p.es.map (·.key):=by
  intro i p O AB A7 AA A4;obtain⟨e,he,rfl⟩:=adk.1 A4;have:=AU i p O AB (λh=>by rw[(AW i).2 h]at A7;cases A7) AA e he;omega
 have side:∀(i:Nat)(p:bC),i≠j->j∉(j8 all []).getD i []->ps[i]?=some p->k∈p.es.map (·.key)->q i=true:=by
  intro i p AB AA O A4;cases A7:q i with
  |true=>rfl
  |false=>exact absurd A4 (B2 i p O AB A7 AA)
 rw[qF k q (kC all.length f) S S (λi hi p O A4=>by
  have AX:=aha.1 hi;have AG:=aej.1 AX.1;refine side i p (λh=>by subst h;simp[AT]at AX) (AV i AX.2 AG) O A4) rfl rfl,
  qF k q (List.range j) S S (λi hi p O A4=>by
   have AG:=aej.1 hi;refine side i p (by omega) (λh=>?_) O A4;obtain⟨A6,AL⟩:∃A6,all[i]?=some A6:=⟨all[i]'(by omega),by simp[show i<all.length by omega]⟩
   have:=(m4 (L:=λ_=>True) AK (λ_ _ _ _ _ _=>trivial) i ⟨A6,AL⟩ j h).1;omega) rfl rfl,B1]
theorem Xu{P:Program}{S0 S1:St}{φ0:cC}{G:Fr}{w0:World}{Q:Exit->Act->World->Prop}{j:Nat}{Ak:Oper}{AC:bC}{t:TypeId}{x:D}
 (AJ:ps.length=all.length) (A3:tf all ps=true) (Al:(S0.mem.map (·.key)).Nodup) (B3:∀(i:Nat)(p:bC),ps[i]?=some p->∀e∈p.es,e.key∈p.ks)
 (B4:∀i o p,all[i]?=some o->ps[i]?=some p->i≠j->j∉(j8 all []).getD i []->nF P all (aS all ps S0 (List.range i)) o p)
 (AP:all[j]?=some Ak) (An:ps[j]?=some AC) (B5:FK P all (aS all ps S0 (List.range j)) Ak AC t x)
 (AU:∀i p,ps[i]?=some p->i≠j->i∉(j8 all []).getD j []->j∉(j8 all []).getD i []->∀e∈p.es,100<=e.key)
 (B6:S1.n=S0.n) (B7:S1.gl=S0.gl) (B8:S1.env=[]) (B9:S1.mem=m6 (jh S0.mem+ja ps+1) (bV (aS all ps S0 (List.range j)).mem AC.es))
 (BA:∀φ' A2 w' v,Rel φ' G S1 A2 w'->bn φ0 S0.mem w0 φ' S1.mem w'->aR w' (Fo G φ' S1.mem) x v->Q (.panic [{v:=.iface t v,recovered:=false}]) A2 w'):
 ∀(fuel:Nat)(H:Array Bool) φ a w,H.size=all.length->tg all (λi=>H.getD i false)->H.getD j false=false->Rel φ G (aS all ps S0 (kC all.length λi=>H.getD i false)) a w->bn φ0 S0.mem w0 φ (aS all ps S0 (kC all.length λi=>H.getD i false)).mem w->
  ((List.range all.length).filter λi=>!H.getD i false).length<=fuel->wpAny P .any all.toArray Q fuel H a w:=by
 have Ao:j<all.length:=(aap.1 AP).1;have AK:∀j o,all[j]?=some o->∀p∈gd o,p<j:=λj o J=>(fU A3 J).choose_spec.2.1;have first:∀(f:Nat->Bool)(n:Nat),n<=all.length->(∀i,i<n->f i=true)\/∃i,i<n/\f i=false/\∀Ap,Ap<i->f Ap=true:=by
  intro f n;induction n with
  |zero=>exact λ_=>.inl (λi hi=>by omega)
  |succ n ih=>
   intro BP;rcases ih (by omega)with h|⟨i,I,T,A5⟩
   .cases A0:f n with
    |true=>
     refine .inl λi hi=>?_;rcases Nat.lt_succ_iff_lt_or_eq.1 hi with AY|AY
     .exact h i AY
     .rw[AY];exact A0
    |false=>exact .inr ⟨n,by omega,A0,h⟩
   .exact .inr ⟨i,by omega,T,A5⟩
 have done:∀(H:Array Bool),H.size=all.length->H.getD j false=false->Region.ready .any all.toArray H=[]->False:=by
  intro H AQ AD BB;rcases first (λi=>H.getD i false) all.length (aar _)with h|⟨i,I,T,A5⟩
  .have:=h j Ao;simp only[AD]at this;cases this
  .have:i∈Region.ready .any all.toArray H:=by
    rw[mem_ready];refine⟨?_,all[i],by simp[I],λe he V=>?_⟩
    .have:i<H.size:=by omega
     simp only[aef,aiO this,ahx]at T⊢;exact T
    .obtain⟨p,_,O,_⟩:=fU A3 (show all[i]?=some all[i] by simp[I]);exact A5 e.on (O e.on (by
      simp only[gd,adk,aha];exact⟨e,⟨by simpa using he,V⟩,rfl⟩))
   rw[BB]at this;cases this
 intro fuel;induction fuel with
 |zero=>
  intro H φ a w AQ A' AD AZ Y A0;exfalso;have:j∈(List.range all.length).filter λi=>!H.getD i false:=aha.2 ⟨aej.2 Ao,by simp[AD]⟩;have:=List.length_pos_of_mem this;omega
 |succ fuel ih=>
  intro H φ a w AQ A' AD AZ Y A0;refine⟨λh=>(done H AQ AD h).elim,λi hi=>?_⟩;rw[mem_ready]at hi;obtain⟨Z,o,J,BC⟩:=hi;have U:all[i]?=some o:=by simpa using J
  have AG:i<all.length:=(aap.1 U).1;have Aq:i<H.size:=by omega
  have AM:H.getD i false=false:=by
   simp only[aef,aiO Aq,ahx]at Z⊢;exact Z
  have A9:∀k∈gd o,H.getD k false=true:=by
   intro k A8;simp only[gd,adk,aha]at A8;obtain⟨e,⟨he,V⟩,rfl⟩:=A8;exact BC e (by simpa using he) V
  by_cases AB:i=j
  .subst AB;rw[AP]at U;cases U;have A_:=vu (S:=S0) AJ A3 A' AP An AM A9;have AE:=B5 _ A_ φ G a w AZ (wpAny P .any all.toArray Q fuel (H.setIfInBounds i true)) Q (λφ' A2 w' v Aa A8 AR=>by
    have Ar:∀p∈ps,∀e∈p.es,e.au<jh S0.mem+ja ps+1:=by
     intro p O e he;have I:=Et he;have T:=I3 O;omega
    have BD:∀e∈S0.mem,e.au<jh S0.mem+ja ps+1:=by
     intro e he;have I:=Et he;omega
    have BE:∀e∈bV (aS all ps S0 (kC all.length λi=>H.getD i false)).mem AC.es,e.au<jh S0.mem+ja ps+1:=by
     intro e he;rcases Ew he with he|he
     .exact I4 _ Ar _ _ BD e he
     .exact Ar AC (ac6 An) e he
    obtain⟨As,Ab⟩:=aeD Aa BE;have Ac:m6 (jh S0.mem+ja ps+1) (bV (aS all ps S0 (kC all.length λi=>H.getD i false)).mem AC.es)=S1.mem:=by
     rw[B9];refine Mem.ext ?_ ?_ λk=>?_
     .rw[tu,nq,gf];exact Al
     .simp only[tu,nq,gf]
     .rw[Eu,Eu];by_cases BF:k<100
      .congr 1;exact sc _ _ _ k (by simp only[gf]) (.inr (RX AJ A3 A' AP AM A9 AU BF))
      .have At:∀(m:Mem),(Mem.get m k).map (λe:dn=>match decide (100<=e.key)with|true=>(⟨e.key,jh S0.mem+ja ps+1,.dead⟩:dn)|false=>e)=if k∈m.map (·.key)then some ⟨k,jh S0.mem+ja ps+1,.dead⟩else none:=by
        intro m;cases Au:Mem.get m k with
        |none=>
         rw[aaf]
         .rfl
         .intro A4;obtain⟨e,he,BG⟩:=adk.1 A4;have:∀(m:Mem),e∈m->Mem.get m k≠none:=by
           intro m;induction m with
           |nil=>intro h;cases h
           |cons y r BH=>
            intro h;simp only[Mem.get];split
            .simp
            .rename_i BI;rcases ac4.1 h with rfl|h
             .exact absurd BG BI
             .exact BH h
          exact this m he Au
        |some e=>
         obtain⟨I,T⟩:=Mem.get_mem Au;have:decide (100<=e.key)=true:=by simp;omega
         simp only[ahK,this];rw[ac1 (T▸adP I),T]
       rw[At,At];simp only[nq,gf]
    have BJ:({(aS all ps S0 (kC all.length λi=>H.getD i false))with mem:=bV (aS all ps S0 (kC all.length λi=>H.getD i false)).mem AC.es}:St).kill (jh S0.mem+ja ps+1)=S1:=by
     have BK:(aS all ps S0 (kC all.length λi=>H.getD i false)).n=S1.n:=by rw[sk,B6]
     have a2:(aS all ps S0 (kC all.length λi=>H.getD i false)).gl=S1.gl:=by rw[p7,B7]
     unfold St.kill;simp only[Ac,BK,a2];rw[<-B8]
    rw[BJ]at As Ab;refine BA _ A2 w' v As (Y.trans (A8.trans Ab)) (AR.mono (λ_ _ _=>rfl) (aar _) (λb V=>Or.imp id (Ab.own b V))))
   unfold wpOp;rw[J];simp only
   split at AE
   .rename_i hw;rw[ac1 hw];exact .inl AE
   .rename_i hw;rw[aaf hw];exact AE
  .obtain⟨p,O,_⟩:=fU A3 U;have AV:j∉(j8 all []).getD i []:=by
    intro AA;have:=(m4 (L:=λi=>H.getD i false=true) AK (λj o J A0=>A' j o J A0) i ⟨o,U⟩ j AA).2 (λAj Av=>by rw[U]at Av;cases Av;exact A9);rw[AD]at this;cases this
   have BL:=B4 i o p U O AB AV;have A_:=vu (S:=S0) AJ A3 A' U O AM A9;have Ad:(H.setIfInBounds i true).getD i false=true:=by simp[Aq]
   have AN:∀k,k≠i->(H.setIfInBounds i true).getD k false=H.getD k false:=λk A8=>getD_set_ne false (ahN A8);have heq:=Cw (S:=S0) (f:=λi=>H.getD i false) (g:=λk=>(H.setIfInBounds i true).getD k false) AJ A3 A' B3 Al U O AM Ad AN;have BM:tg all (λk=>(H.setIfInBounds i true).getD k false):=by
    intro k ok Ae BN x AO;by_cases Aw:x=i
    .subst Aw;exact Ad
    .show (H.setIfInBounds i true).getD x false=true;rw[AN x Aw];by_cases AH:k=i
     .subst AH;rw[U]at Ae;cases Ae;exact A9 x AO
     .exact A' k ok Ae ((AN k AH).symm.trans BN) x AO
   have BO:((List.range all.length).filter λk=>!(H.setIfInBounds i true).getD k false).length<=fuel:=by
    have I:(List.range all.length).filter (λk=>!(H.setIfInBounds i true).getD k false)=((List.range all.length).filter λk=>!H.getD k false).filter (λk=>k != i):=by
     rw[aif];refine alT λk _=>?_;by_cases AH:k=i
     .subst AH;rw[Ad];simp
     .rw[AN k AH];simp[AH]
    have Ac:i∈(List.range all.length).filter λk=>!H.getD k false:=aha.2 ⟨aej.2 AG,by simp[AM]⟩;rw[I];have:(((List.range all.length).filter λk=>!H.getD k false).filter (λk=>k != i)).length<((List.range all.length).filter λk=>!H.getD k false).length:=by
     rw[alZ];exact⟨i,Ac,by simp⟩
    omega
   have AE:=BL _ A_ φ G a w AZ (wpAny P .any all.toArray Q fuel (H.setIfInBounds i true)) Q (λφ' A2 w' Aa A8=>
    ih _ φ' A2 w' (by simpa using AQ) BM (by rw[AN j (λh=>AB h.symm)];exact AD) (Aa.eqv heq) (by rw[<-heq.mem];exact Y.trans A8) BO)
   unfold wpOp;rw[J];simp only
   split at AE
   .rename_i hw;rw[ac1 hw];exact .inl AE
   .rename_i hw;rw[aaf hw];exact AE
end
inductive Gh where
 |trim (k:Nat)
 |freeze (k:Nat)
 |qG (Z j k sz:Nat)
 |Cz (k J:Nat)
 |gg (k J:Nat)
 |cls (k J:Nat)
 |shut (k:Nat)
 |wb (Z j k:Nat)
abbrev bP:=FuncId->List AV->List aF->Option (Out×List (Nat×aF))
structure Ctx where
 P:Program
 gl:List (Nat×D)
 wS:FuncId->Nat->List Nat
 gh:FuncId->Nat->List Gh
 md:FuncId->Nat->Bool
 fp:FuncId->il
 od:FuncId->Nat->List (List Nat)
 Bu:FuncId->Option (List AV->Option AV)
 fl:FuncId->Nat->List (Nat×Nat)
 ov:Option bP
def jM(P:Program)(g:FuncId):Bool:=
 match P.funcs[g]? with
 |some fn=>fn.body.isSome&&!(fn.name == "runtime.NumGoroutine")
 |none=>false
mutual
def qH:AV->List Nat
 | .vec _ _ _ _=>[]
 | .ptr k _ _=>[k]
 | .dD k _ _ _=>[k]
 | .agg cs=>yF cs
 | .fn _ cap=>kr cap
 | .bq vs=>yF vs
 |_=>[]
def yF:List AV->List Nat
 |[]=>[]
 |x::r=>qH x++yF r
end
mutual
def x8:AV->List Nat
 | .vec k _ _ _=>[k]
 | .agg cs=>yG cs
 | .bq vs=>yG vs
 |_=>[]
def yG:List AV->List Nat
 |[]=>[]
 |x::r=>x8 x++yG r
end
def pk(mt:List Nat):Nat->List AV->List Nat
 |_,[]=>[]
 |i,x::r=>(match mt.contains i with|true=>jK x|false=>qH x)++pk mt (i+1) r
def yH(mt:List Nat):Nat->List AV->List Nat
 |_,[]=>[]
 |i,x::r=>(match mt.contains i with|true=>[]|false=>x8 x)++yH mt (i+1) r
structure im where
 out:Out
 es:List dn
 ks:List Nat
def upO(ρ bs:List Nat):Out->Out
 | .ret x=>.ret (up ρ bs x)
 | .panic t x=>.panic t x
def Ez:Out->Bool
 | .ret x=>eZ x
 | .panic _ x=>kM x
def rL:List (Nat×aF)->Bool
 |[]=>true
 |(_,c)::r=>oZ c&&rL r
def CA(m:Mem)(ρ:List Nat):List Nat->Bool
 |[]=>true
 |k::r=>(Mem.get m k).isSome&&!ρ.contains k&&CA m ρ r
def iq(m:Mem)(V:Nat)(ρ B:List Nat):Option (Out×List (Nat×aF))->Option im
 |some (out,Y)=>
  if (decide (ρ.length<=Y.length)&&CA m ρ (List.range' (V+1) (Y.length-ρ.length))&&(B.isEmpty||(Ez out&&rL Y)))=true then
   some ⟨upO (ρ++List.range' (V+1) (Y.length-ρ.length)) (base m 0 ρ++base m 1 (List.range' (V+1) (Y.length-ρ.length))) out,
    kZ (ρ++List.range' (V+1) (Y.length-ρ.length)) (base m 0 ρ++base m 1 (List.range' (V+1) (Y.length-ρ.length))) 0 Y,ρ++B++List.range' (V+1) (Y.length-ρ.length)⟩
  else none
 |none=>none
def KA(U:Nat)(Y:List (Nat×aF)):Out->Out
 | .ret x=>.ret (vw (eO 0 Y) (List.range U) (λ_=>true) (λ_ v=>v) x).norm
 | .panic t x=>.panic t x
def AH(U:Nat)(b:Bool):Option (Out×List (Nat×aF))->Option (Out×List (Nat×aF))
 |some (out,Y)=>if (b&&decide (U<Y.length))=true then some (KA U Y out,fS (eO 0 Y) (List.range U) (λ_=>true) (λ_ v=>v) 0 (List.range U))else some (out,Y)
 |none=>none
def kj(rw:Bool)(m:Mem)(ρ B:List Nat):List AV->List AV
 |[]=>[]
 |y::r=>GK rw (vw m ρ (λk=>B.contains k) ki y)::kj rw m ρ B r
def se:List (Nat×aF)->List aF
 |[]=>[]
 |(_,c)::r=>c::se r
def pn(H:bP)(m:Mem)(V:Nat)(g:FuncId)(A':List AV)(rw:Bool)(ρ B:List Nat):Option im:=
 iq m V ρ B (AH ρ.length (Mem.get m (V+1)).isNone (H g (kj rw m ρ B A') (se (fS m ρ (λk=>B.contains k) ki 0 ρ))))
def po(H:bP)(m:Mem)(V:Nat)(g:FuncId)(A':List AV)(mt ρ:List Nat):Option im:=
 pn H m V g A' (mt.contains 1000) ρ ((yH mt 0 A').filter λk=>!ρ.contains k)
def fi(H:bP)(m:Mem)(V:Nat)(g:FuncId)(A':List AV)(mt:List Nat):Option im:=
 po H m V g A' mt (collect m 64 (pk mt 0 A') [])
def eG(S:St)(d:Option Nat):Option im->Option (XE×St)
 |some ⟨.ret x,es,_⟩=>some (.normal,({S with mem:=bV S.mem es}:St).put d true x)
 |some ⟨.panic t x,es,_⟩=>some (.panic t x,{S with mem:=bV S.mem es})
 |none=>none
def ef(S:St):List Operand->List AV
 |[]=>[]
 |x::r=>(S.aw x).2::ef S r
def FL(n g:Nat):FuncId:=
 match decide (n<=g)with
 |true=>g-n
 |false=>g
def ri(g:FuncId):FuncId:=FL xe g
def yb(n g:Nat)(A' A1:List AV):List AV:=
 match decide (n<=g)with
 |true=>A1++A'
 |false=>A'++A1
def kN(g:FuncId)(A' A1:List AV):List AV:=yb xe g A' A1
mutual
def EA:D->D->Bool
 | .int k n,.int A2 A3=>decide (k=A2)&&decide (n=A3)
 | .bool b,.bool A4=>decide (b=A4)
 | .str s,.str AO=>decide (s=AO)
 | .list a,.list b=>CB a b
 | .agg a,.agg b=>CB a b
 | .Dx,.Dx=>true
 |_,_=>false
def CB:List D->List D->Bool
 |[],[]=>true
 |a::r,b::s=>EA a b&&CB r s
 |_,_=>false
end
def KB:AV->AV->Bool
 | .d x,.d y=>EA x y
 | .ptr k v o,.ptr A2 A9 AA=>decide (k=A2)&&(decide (v=A9)&&decide (o=AA))
 | .vec k v o n,.vec A2 A9 AA A3=>decide (k=A2)&&(decide (v=A9)&&(decide (o=AA)&&decide (n=A3)))
 |_,_=>false
def FM:List AV->List AV->Bool
 |[],[]=>true
 |a::r,b::s=>KB a b&&FM r s
 |_,_=>false
def EB:aF->aF->Bool
 | .box a,.box b=>FM a b
 | .vec n a,.vec A3 b=>decide (n=A3)&&CB a b
 |_,_=>false
def Nz(e:dn):Option dn->Bool
 |some x=>decide (x.au=e.au)&&EB x.cont e.cont
 |none=>false
def uP(m:Mem):List dn->Bool
 |[]=>true
 |e::r=>Nz e (Mem.get m e.key)&&uP m r
def Ve:Bool->im->im
 |true,c=>⟨c.out,[],c.ks⟩
 |false,c=>c
def CC:Bool->Mem->Option im->Option im
 |true,m,some c=>some (Ve (uP m c.es) c)
 |true,_,none=>none
 |false,_,r=>r
def dw(X:Ctx)(H:bP)(S:St)(o:Oper)(args:List Operand):Bool×AV->Option im
 |(true,.fn g A1)=>if kY S args=true then CC ((X.fp (ri g)).AF.contains 2000) S.mem (fi H S.mem (keyOf o) (ri g) (kN g (ef S args) A1) (X.fp (ri g)).AF)else none
 |_=>none
def Hu(S:St):Bool×AV->Option (XE×St)
 |(true,.jG t d)=>some (.panic t d,S)
 |_=>none
def wc(X:Ctx)(H:bP)(S:St)(o:Oper):Option (XE×St):=
 match o.op with
 | .call {callee:=.value A5,args,..}=>eG S o.dst (dw X H S o args.toList (S.aw A5))
 | .panic x=>Hu S (S.aw x)
 |_=>none
def kl(X:Ctx)(H:bP)(S:St)(o:Oper):ep->Option (XE×St)
 | .val c x=>if (jC S o&&c)=true then some (.normal,S.put o.dst true x)else none
 | .dU c x e=>if (jC S o&&c)=true then some (.normal,({S with mem:=Mem.set S.mem e}:St).put o.dst true x)else none
 | .no=>wc X H S o
def sG(X:Ctx)(H:bP)(S:St)(o:Oper)(b:Bool):ep->Option (XE×St)
 | .val c x=>if b=true->(jC S o&&c)=true then some (.normal,S.put o.dst b x)else none
 |r=>if b=true then kl X H S o r else some (.normal,S.put o.dst true .bH)
def St.cz(S:St)(d:Option Nat)(b:Bool):St:=S.put d true (.d (.bool b))
def oM(all:List Oper)(j:Nat):Option Nat:=
 match all[j]? with
 |some o=>o.dst
 |none=>none
inductive GV where
 |qX (t:Bool)
 |skip
 |bad
def gvD:D->GV
 | .bool t=>.qX t
 |_=>.bad
def gvT:List AV->GV
 |[]=>.skip
 |_::_=>.bad
def Xv:AV->GV
 | .d x=>gvD x
 | .bq vs=>gvT vs
 |_=>.bad
def tA:Option (Bool×AV)->GV
 |some (true,x)=>Xv x
 |_=>.bad
def OS{x:Option (Bool×AV)}{t:Bool}(h:tA x=.qX t):x=some (true,.d (.bool t)):=by
 rcases x with _|⟨g,y⟩
 .cases h
 .cases g
  .cases h
  .cases y with
   |d y=>cases y<;>simp_all [tA,Xv,gvD]
   |bq vs=>cases vs<;>simp_all [tA,Xv,gvT]
   |_=>cases h
def LY{x:Option (Bool×AV)}(h:tA x=.skip):x=some (true,.bq []):=by
 rcases x with _|⟨g,y⟩
 .cases h
 .cases g
  .cases h
  .cases y with
   |d y=>cases y<;>simp_all [tA,Xv,gvD]
   |bq vs=>cases vs<;>simp_all [tA,Xv,gvT]
   |_=>cases h
def qI(X:Ctx)(H:bP)(md:Bool)(all:List Oper)(S:St)(o:Oper):Option (XE×St):=
 match o.guard with
 |none=>kl X H S o (ee X.P S o)
 |some (j,A0)=>match tA (s8 all S j)with
  | .qX t=>match md with
   |false=>sG X H S o (t == A0) (ee X.P S o)
   |true=>if (t == A0)=true then kl X H (S.cz (oM all j) A0) o (ee X.P (S.cz (oM all j) A0) o)else some (.normal,(S.cz (oM all j) (!A0)).put o.dst true (.bq []))
  | .skip=>some (.normal,S.put o.dst true (.bq []))
  | .bad=>none
def andThen(r:Option (XE×St))(k:St->Option (XE×St)):Option (XE×St):=
 match r with
 |some (.normal,S)=>k S
 |r=>r
def jw(X:Ctx)(H:bP)(md:Bool)(all:List Oper):List Oper->St->Option (XE×St)
 |[],S=>some (.normal,S)
 |o::r,S=>andThen (qI X H md all S o) (jw X H md all r)
def vy(S:St)(o:Oper):Option im->Option (St×bC)
 |some ⟨.ret x,es,ks⟩=>some ((⟨ks,es,true,x⟩:bC).app o S,⟨ks,es,true,x⟩)
 |_=>none
def oN(X:Ctx)(H:bP)(S:St)(o:Oper):Option (St×bC):=
 match o.op with
 | .call {callee:=.value A5,args,..}=>vy S o (dw X H S o args.toList (S.aw A5))
 |_=>none
def gw(X:Ctx)(H:bP)(S:St)(o:Oper):ep->Option (St×bC)
 | .val c x=>if (jC S o&&c)=true then some (S.put o.dst true x,⟨lE S o,[],true,x⟩)else none
 | .dU c x e=>if (jC S o&&c&&(lE S o).contains e.key)=true then some (({S with mem:=Mem.set S.mem e}:St).put o.dst true x,⟨lE S o,[e],true,x⟩)else none
 | .no=>oN X H S o
def we(X:Ctx)(H:bP)(S:St)(o:Oper)(b:Bool):ep->Option (St×bC)
 | .val c x=>if b=true->(jC S o&&c)=true then some (S.put o.dst b x,⟨lE S o,[],b,x⟩)else none
 |r=>if b=true then gw X H S o r else some (S.put o.dst true .bH,⟨[],[],true,.bH⟩)
def fF(X:Ctx)(H:bP)(md:Bool)(all:List Oper)(S:St)(o:Oper):Option (St×bC):=
 match o.guard with
 |none=>gw X H S o (ee X.P S o)
 |some (j,A0)=>match tA (s8 all S j)with
  | .qX t=>match md with
   |false=>we X H S o (t == A0) (ee X.P S o)
   |true=>if (t == A0)=true then gw X H (S.cz (oM all j) A0) o (ee X.P (S.cz (oM all j) A0) o)else some ((S.cz (oM all j) (!A0)).put o.dst true (.bq []),⟨[],[],true,.bq []⟩)
  | .skip=>some (S.put o.dst true (.bq []),⟨[],[],true,.bq []⟩)
  | .bad=>none
def NA(M:List bC)(r:Option (St×bC))(k:St->List bC->Option (XE×St)):Option (XE×St):=
 match r with
 |some (S,p)=>k S (p::M)
 |none=>none
structure OT where
 S:St
 t:TypeId
 x:D
 es:List dn
 ks:List Nat
def AI(S:St):Option im->Option OT
 |some ⟨.panic t x,es,ks⟩=>some ⟨{S with mem:=bV S.mem es},t,x,es,ks⟩
 |_=>none
def OU(X:Ctx)(H:bP)(S:St)(o:Oper):Option OT:=
 match o.op with
 | .call {callee:=.value A5,args,..}=>AI S (dw X H S o args.toList (S.aw A5))
 |_=>none
def Hv(X:Ctx)(H:bP)(S:St)(o:Oper):ep->Option OT
 | .no=>OU X H S o
 |_=>none
def nW(X:Ctx)(H:bP)(S:St)(o:Oper):Option OT:=
 match o.guard with
 |none=>Hv X H S o (ee X.P S o)
 |some _=>none
def wU(X:Ctx)(md:Bool)(all:List Oper)(A7:List Nat):Nat->List Oper->St->List bC->Option (List bC)
 |_,[],_,M=>some M.reverse
 |i,o::r,S,M=>match A7.contains i with
  |true=>match fF X (λ_ _ _=>none) md all S o with
   |some (S1,p)=>wU X md all A7 (i+1) r S1 (p::M)
   |none=>none
  |false=>wU X md all A7 (i+1) r (S.put o.dst false .bH) (⟨[],[],false,.bH⟩::M)
def Vf(O:Nat×List (List Nat))(A7:List Nat)(t:TypeId)(x:D)(S:St):Option (List bC)->Option (XE×St)
 |some ps=>if (p9 O.2 ps&&Es ps A7)=true then some (.panic t x,S.kill (O.1+ja ps+1))else none
 |none=>none
def Vg(X:Ctx)(md:Bool)(O:Nat×List (List Nat))(all r:List Oper)(d:Option Nat)(M:List bC)(q:OT):Option (XE×St):=
 Vf O (O.2.getD M.length []) q.t q.x q.S (wU X md all (O.2.getD M.length []) (M.length+1) r (q.S.put d true .bH) (⟨q.ks,q.es,true,.bH⟩::M))
def rj(X:Ctx)(H:bP)(md:Bool)(O:Nat×List (List Nat))(all r:List Oper)(S:St)(o:Oper)(M:List bC)(k:St->List bC->Option (XE×St)):Option OT->Option (XE×St)
 |some q=>Vg X md O all r o.dst M q
 |none=>NA M (fF X H md all S o) k
def km(X:Ctx)(H:bP)(md:Bool)(O:Nat×List (List Nat))(all:List Oper):List Oper->St->List bC->Option (XE×St)
 |[],S,M=>if p9 O.2 M.reverse=true then some (.normal,S)else none
 |o::r,S,M=>rj X H md O all r S o M (km X H md O all r) (nW X H S o)
structure Cl where
 k:Nat
 v:Nat
 j:Nat
 x:AV
 vv:Bool
def OV:AV->AV->Bool
 | .vec a b c d,.vec AB A4 AC AP=>decide (a=AB)&&decide (b=A4)&&decide (c=AC)&&decide (d=AP)
 | .ptr a b c,.ptr AB A4 AC=>decide (a=AB)&&decide (b=A4)&&decide (c=AC)
 | .d (.int k n),.d (.int A2 A3)=>decide (k=A2)&&decide (n=A3)
 | .d (.bool b),.d (.bool A4)=>decide (b=A4)
 |_,_=>false
def gZ(m:Mem):List (Nat×Nat)->Option (List Cl)
 |[]=>some []
 |(k,j)::r=>match Mem.get m k,gZ m r with
  |some ⟨_,v,.box cs⟩,some l=>match cs[j]? with
   |some x=>some (⟨k,v,j,x,false⟩::l)
   |none=>none
  |some ⟨_,v,.vv aq (some x)⟩,some l=>some (⟨k,v,aq.length,x,true⟩::l)
  |_,_=>none
def Xw(q:Cl):Option AV->Bool
 |some x=>OV x q.x
 |none=>false
def SF(q:Cl)(v:Nat):aF->Bool
 | .box cs=>!q.vv&&decide (v=q.v)&&Xw q cs[q.j]?
 | .vv aq (some x)=>q.vv&&decide (v=q.v)&&decide (aq.length=q.j)&&OV x q.x
 |_=>false
def Hx(e:dn):List Cl->Bool
 |[]=>true
 |q::r=>(match decide (e.key=q.k)with|true=>SF q e.au e.cont|false=>true)&&Hx e r
def zM(I:List Cl):List dn->Bool
 |[]=>true
 |e::r=>Hx e I&&zM I r
def xG(b:Bool)(k v j:Nat):List Cl->Option AV
 |[]=>none
 |q::r=>match decide (b=q.vv)&&decide (k=q.k)&&decide (v=q.v)&&decide (j=q.j)with|true=>some q.x|false=>xG b k v j r
def AJ(b:Bool)(k v:Nat):List Cl->Bool
 |[]=>false
 |q::r=>match decide (b=q.vv)&&decide (k=q.k)&&decide (v=q.v)with|true=>true|false=>AJ b k v r
def I5(P:Program)(I:List Cl)(t:TypeId):Bool×AV->Option AV
 |(true,.ptr k v off)=>match (tk P t).agg,decide (tk P t=.other)with
  |false,false=>xG false k v off I
  |_,_=>none
 |(true,.dD k v i j)=>match (tk P t).agg,decide (tk P t=.other),decide (j=0)with
  |false,false,true=>xG true k v i I
  |_,_,_=>none
 |_=>none
def I6(I:List Cl):Option Nat->Bool×AV->Option AV
 |some n,(true,.ptr k v off)=>match AJ false k v I with|true=>some (.ptr k v (off+n))|false=>none
 |_,_=>none
def I7(I:List Cl):Bool×AV->Option AV
 |(true,.ptr k v off)=>match AJ false k v I with|true=>some (.ptr k v off)|false=>none
 |_=>none
def I8(P:Program)(I:List Cl):TK->Bool×AV->Bool×AV->Option AV
 | .slice e,(true,.vec k v off len),(true,.d (.int _ n))=>match decide (gT P e=some 1),AJ true k v I,decide (0<=n),decide (n.toNat<len)with
  |true,true,true,true=>some (.dD k v (off+n.toNat) 0)
  |_,_,_,_=>none
 |_,_,_=>none
def xH(P:Program)(I:List Cl)(S:St):Op->Option AV
 | .load t x=>I5 P I t (S.aw x)
 | .fieldAddr s x f=>I6 I (Ce P s f) (S.aw x)
 | .nilCheck x=>I7 I (S.aw x)
 | .indexAddr t x i=>I8 P I (tk P t) (S.aw x) (S.aw i)
 |_=>none
def tB(P:Program)(I:List Cl)(S:St)(o:Oper):Option AV:=
 match o.guard with
 |none=>xH P I S o.op
 |some _=>none
def KC(I:List Cl):Option (St×bC)->Option (St×bC)
 |some (S,p)=>if zM I p.es=true then some (S,p)else none
 |none=>none
def tC(X:Ctx)(H:bP)(md:Bool)(I:List Cl)(all:List Oper)(S:St)(o:Oper):Option AV->Option (St×bC)
 |some x=>some (S.put o.dst true x,⟨[],[],true,x⟩)
 |none=>KC I (fF X H md all S o)
def qa:List Nat->List Oper->Bool
 |[],[]=>true
 |_,_=>false
def OW(X:Ctx)(H:bP)(md:Bool)(O:List (List Nat))(all:List Oper)(S:St)(o:Oper)(M:List bC):Option (XE×St):=
 if p9 O M.reverse=true then jw X H md all [o] S else none
def rk(X:Ctx)(H:bP)(md:Bool)(O:List (List Nat))(I:List Cl)(all:List Oper):List Oper->St->List bC->Option (XE×St)
 |[],S,M=>if p9 O M.reverse=true then some (.normal,S)else none
 |o::r,S,M=>match qa (O.getD M.length []) r with
  |true=>OW X H md O all S o M
  |false=>NA M (tC X H md I all S o (tB X.P I S o)) (rk X H md O I all r)
def aa0(X:Ctx)(H:bP)(md:Bool)(O:List (List Nat))(all:List Oper)(S:St):Option (List Cl)->Option (XE×St)
 |some I=>rk X H md O I all all S []
 |none=>none
def AK(X:Ctx)(H:bP)(md:Bool)(O:List (List Nat))(all:List Oper)(S:St):List (Nat×Nat)->Option (XE×St)
 |[]=>km X H md (jh S.mem,O) all all S []
 |q::r=>aa0 X H md O all S (gZ S.mem (q::r))
def St.qG(S:St)(Z j k sz:Nat):St:=
 match Mem.get S.mem Z,Mem.get S.mem k with
 |some ⟨_,AD,.box cs⟩,some ⟨_,v,_⟩=>match cs[j]? with
  |some (.lit (.slice none 0 0))=>if Z=k then S else {S with mem:=Mem.set (Mem.set S.mem ⟨k,v+1,.vec sz []⟩) ⟨Z,AD,.box (cs.set j (.vec k (v+1) 0 0))⟩}
  |_=>S
 |_,_=>S
def KD(k v J v2:Nat):AV->AV
 | .vec V v0 o l=>if V=k/\v0=v then .vec J v2 o l else .vec V v0 o l
 |x=>x
def yI(AE:AV->AV):Mem->Mem
 |[]=>[]
 |e::r=>⟨e.key,e.au,uH AE e.cont⟩::yI AE r
def St.Cz(S:St)(k J:Nat):St:=
 match Mem.get S.mem k,Mem.get S.mem J with
 |some ⟨_,v,.vec sz aq⟩,some ⟨_,v2,_⟩=>if k=J then S else {S with env:=rH (KD k v J (v2+1)) S.env,mem:=Mem.set (Mem.set (yI (KD k v J (v2+1)) S.mem) ⟨k,v+1,.dead⟩) ⟨J,v2+1,.vec sz aq⟩}
 |_,_=>S
def St.gg(S:St)(k J:Nat):St:=
 match Mem.get S.mem k,Mem.get S.mem J with
 |some ⟨_,v,.vv aq none⟩,some ⟨_,v2,_⟩=>match aq.getLast? with
  |some xs=>if k=J then S else {S with mem:=Mem.set (Mem.set S.mem ⟨k,v,.vv aq.dropLast (some (.vec J (v2+1) 0 xs.length))⟩) ⟨J,v2+1,.vec 1 xs⟩}
  |none=>S
 |_,_=>S
def St.cls(S:St)(k J:Nat):St:=
 match Mem.get S.mem k,Mem.get S.mem J with
 |some ⟨_,v,.vv aq (some (.vec AQ v3 0 len))⟩,some ⟨_,v2,.vec 1 xs⟩=>if k=J then S else if AQ=J/\v3=v2/\len=xs.length then {S with mem:=Mem.set (Mem.set S.mem ⟨k,v,.vv (aq++[xs]) none⟩) ⟨J,v2+1,.dead⟩} else S
 |_,_=>S
def St.shut(S:St)(k:Nat):St:=
 match Mem.get S.mem k with
 |some ⟨_,v,.vv aq (some _)⟩=>{S with mem:=Mem.set S.mem ⟨k,v,.vv aq none⟩}
 |_=>S
def St.wb(S:St)(Z j k:Nat):St:=
 match Mem.get S.mem Z,Mem.get S.mem k with
 |some ⟨_,AD,.box cs⟩,some ⟨_,v,_⟩=>match cs[j]? with
  |some (.lit (.slice none 0 0))=>if Z=k then S else {S with mem:=Mem.set (Mem.set S.mem ⟨Z,AD,.box (cs.set j (.vec k (v+1) 0 0))⟩) ⟨k,v+1,.vv [] none⟩}
  |_=>S
 |_,_=>S
def Gh.go(S:St):Gh->St
 | .gg k J=>S.gg k J
 | .cls k J=>S.cls k J
 | .shut k=>S.shut k
 | .wb Z j k=>S.wb Z j k
 | .trim k=>S.Cs k
 | .freeze k=>S.freeze k
 | .qG Z j k sz=>S.qG Z j k sz
 | .Cz k J=>S.Cz k J
def I9(S:St):List Gh->St
 |[]=>S
 |g::r=>I9 (g.go S) r
def AL(k:St->St):Option (XE×St)->Option (XE×St)
 |some (.normal,S)=>some (.normal,k S)
 |r=>r
def Ja(id:Nat):Option (XE×St)->Option (XE×St)
 |some (.exit AG,S)=>if AG=id then some (.normal,S)else some (.exit AG,S)
 |r=>r
def iter(f:St->Option (XE×St)):Nat->St->Option (XE×St)
 |0,_=>none
 |n+1,S=>andThen (f S) (iter f n)
def Jb(a b:Option (XE×St)):Bool×AV->Option (XE×St)
 |(true,.d (.bool t))=>if t=true then a else b
 |_=>none
def St.leave(X:Ctx)(f:FuncId)(id:Nat)(S:St):St:=I9 (S.prune (X.wS f id)) (X.gh f id)
def St.enter(X:Ctx)(f:FuncId)(id:Nat)(S:St):St:=I9 S (X.gh f (id+2000000))
def den(X:Ctx)(f:FuncId)(H:bP)(n:Nat):Code->St->Option (XE×St)
 | .skip,S=>some (.normal,S)
 | .region id ops draw,S=>match draw with
  |false=>AL (St.leave X f id) (jw X H (X.md f id) ops.toList ops.toList S)
  |true=>AL (St.leave X f id) (AK X H (X.md f id) (X.od f id) ops.toList S (X.fl f id))
 | .seq a b,S=>andThen (den X f H n a S) (den X f H n b)
 | .cond c a b,S=>Jb (den X f H n a S) (den X f H n b S) (S.aw c)
 | .block id c,S=>Ja id (den X f H n c (S.enter X f id))
 | .loop c,S=>iter (den X f H n c) n S
 | .exit id,S=>some (.exit id,I9 S (X.gh f (id+1000000)))
 | .ret,S=>some (.ret,S)
 |_,_=>none
def fin(P:Program)(p:il)(U:Nat)(rs:List ResultVar):Option (XE×St)->Option (Out×List (Nat×aF))
 |some (.normal,S)=>finish P p U rs S
 |some (.ret,S)=>finish P p U rs S
 |some (.panic t x,S)=>Cv p U t x S
 |_=>none
def vz(X:Ctx)(f:FuncId)(H:bP)(n:Nat)(fn:Func)(c:Code)(args:List AV)(cs:List aF):Option (Out×List (Nat×aF)):=
 if (decide (args.length<=fn.ntmps)&&decide (cs.length<=100)&&(X.fp f).sites.all (λk=>decide (100<=k))&&decide (X.fp f).sites.Nodup)=true then
  fin X.P (X.fp f) cs.length fn.results.toList (den X f H n c (entry fn.ntmps X.gl args cs (X.fp f).sites))
 else none
def sl:Option (Out×List (Nat×aF))->Option Nat
 |some (.ret (.vec 0 0 0 0),[(0,.vec sz [])])=>some sz
 |_=>none
def nr(AN AR:Option (Out×List (Nat×aF))):Option (Out×List (Nat×aF)):=
 match sl AN,sl AR with
 |some a,some b=>if a=b then AN else none
 |_,_=>none
def jN(run:List AV->Option (Out×List (Nat×aF)))(args:List AV):Bool->Option (Out×List (Nat×aF))
 |true=>match args with
  | .d (.list [])::r=>nr (run (.lit (.slice none 0 0)::r)) (run (.nn::r))
  |args=>run args
 |false=>run args
def Bv(h:List AV->Option AV)(args:List AV):List aF->Option (Out×List (Nat×aF))
 |[]=>match h args with
  |some d=>some (.ret d,[])
  |none=>none
 |_::_=>none
def FN(h:List D->Option D)(args:List AV):Option AV:=match toDs args with
 |some T=>(h T).map .d
 |none=>none
abbrev DF:=FuncId×List AV
def LZ(S:St)(args:List Operand):Bool×AV->Option DF
 |(true,.fn g A1)=>if (kY S args&&decide (g<xe))=true then some (g,ef S args++A1)else none
 |_=>none
def lf(S:St)(o:Oper):Option DF:=
 match o.guard,o.op with
 |none,.defer {callee:=.value A5,args,..}=>LZ S args.toList (S.aw A5)
 |_,_=>none
def uQ(o:Oper):Bool:=
 match o.op with
 | .defer _=>true
 |_=>false
abbrev XD:=Option (XE×St×List DF)
def NB(k:St->XD)(T:List DF):Option (XE×St)->XD
 |some (.normal,S)=>k S
 |some (e,S)=>some (e,S,T)
 |none=>none
def iE(X:Ctx)(H:bP)(md:Bool)(all:List Oper):List Oper->St->List DF->XD
 |[],S,T=>some (.normal,S,T)
 |o::r,S,T=>match lf S o with
  |some d=>iE X H md all r (S.put o.dst true .bH) (d::T)
  |none=>NB (λS1=>iE X H md all r S1 T) T (qI X H md all S o)
def rN(ops:List Oper):Bool:=ops.any uQ
def EC(k:St->St):XD->XD
 |some (.normal,S,T)=>some (.normal,k S,T)
 |r=>r
def CD(T:List DF):Option (XE×St)->XD
 |some (e,S)=>some (e,S,T)
 |none=>none
def OX(k:St->List DF->XD):XD->XD
 |some (.normal,S,T)=>k S T
 |r=>r
def lh(X:Ctx)(f:FuncId)(H:bP)(n:Nat):Code->St->List DF->XD
 | .seq a b,S,T=>OX (lh X f H n b) (lh X f H n a S T)
 | .region id ops draw,S,T=>match !draw&&rN ops.toList with
  |true=>EC (St.leave X f id) (iE X H (X.md f id) ops.toList ops.toList S T)
  |false=>CD T (den X f H n (.region id ops draw) S)
 |c,S,T=>CD T (den X f H n c S)
def zN(o:Oper):Bool:=
 match o.guard,o.op with
 |none,.call {callee:=.builtin .recover,args,..}=>args.toList.isEmpty
 |_,_=>false
def rl(X:Ctx)(f:FuncId)(H:bP)(n:Nat)(A6:AV):Code->St->Option (XE×St)
 | .seq a b,S=>andThen (rl X f H n A6 a S) (den X f H n b)
 | .region id ops draw,S=>match draw,ops.toList with
  |false,o::r=>if zN o=true then AL (St.leave X f id) (jw X H (X.md f id) (o::r) r (S.put o.dst true A6))else none
  |_,_=>none
 |_,_=>none
def Vh(P:Program)(p:il)(U:Nat)(rs:List ResultVar):Option (XE×St)->Option (Out×List (Nat×aF))
 |some (.normal,S)=>finish P p U rs S
 |some (.ret,S)=>finish P p U rs S
 |_=>none
def Bw(X:Ctx)(f:FuncId)(H:bP)(n:Nat)(fn:Func)(c:Code)(args:List AV)(cs:List aF):Option (Out×List (Nat×aF)):=
 match args.getLast? with
 |some A6=>if (decide (args.dropLast.length<=fn.ntmps)&&decide (cs.length<=100)&&(X.fp f).sites.all (λk=>decide (100<=k))&&decide (X.fp f).sites.Nodup)=true then
  Vh X.P (X.fp f) cs.length fn.results.toList (rl X f H n A6 c (entry fn.ntmps X.gl args.dropLast cs (X.fp f).sites))
  else none
 |none=>none
def Hy:XE->Option AV
 | .normal=>some (.lit .nilIface)
 | .ret=>some (.lit .nilIface)
 | .panic t x=>some (.jG t x)
 | .exit _=>none
def ED(S:St):Option im->Option St
 |some ⟨.ret _,es,_⟩=>some {S with mem:=bV S.mem es}
 |_=>none
def Vi(X:Ctx)(p:il)(U:Nat)(rs:List ResultVar):Option St->Option (Out×List (Nat×aF))
 |some S=>finish X.P p U rs S
 |none=>none
def xI(X:Ctx)(p:il)(U:Nat)(rs:List ResultVar)(A8:bP)(S:St)(d:DF):Option AV->Option (Out×List (Nat×aF))
 |some A6=>Vi X p U rs (ED S (fi A8 S.mem 0 d.1 (d.2++[A6]) (X.fp d.1).AF))
 |none=>none
def AM(X:Ctx)(p:il)(U:Nat)(rs:List ResultVar)(A8:bP):XD->Option (Out×List (Nat×aF))
 |some (e,S,[])=>fin X.P p U rs (some (e,S))
 |some (e,S,[d])=>xI X p U rs A8 S d (Hy e)
 |_=>none
def Bx(X:Ctx)(f:FuncId)(H A8:bP)(n:Nat)(fn:Func)(c:Code)(args:List AV)(cs:List aF):Option (Out×List (Nat×aF)):=
 if (decide (args.length<=fn.ntmps)&&decide (cs.length<=100)&&(X.fp f).sites.all (λk=>decide (100<=k))&&decide (X.fp f).sites.Nodup)=true then
  AM X (X.fp f) cs.length fn.results.toList A8 (lh X f H n c (entry fn.ntmps X.gl args cs (X.fp f).sites) [])
 else none
def yJ:Code->Bool
 | .seq a b=>yJ a||yJ b
 | .region _ ops _=>rN ops.toList
 |_=>false
def qJ(X:Ctx)(n:Nat)(H:bP):bP:=λg args cs=>
 match X.P.funcs[g]? with
 |some fn=>match fn.body with
  |some c=>Bw X g H n fn c args cs
  |none=>none
 |none=>none
def By(X:Ctx)(f:FuncId)(H:bP)(n:Nat)(fn:Func)(c:Code)(args:List AV)(cs:List aF):Bool->Option (Out×List (Nat×aF))
 |true=>Bx X f H (qJ X n H) n fn c args cs
 |false=>jN (λargs=>vz X f H n fn c args cs) args (X.fp f).split
def bE(X:Ctx):Nat->bP
 |0,_,_,_=>none
 |n+1,f,args,cs=>match X.ov with
  |some H=>H f args cs
  |none=>match X.Bu f with
   |some h=>Bv h args cs
   |none=>match X.P.funcs[f]? with
    |some fn=>match fn.body with
     |some c=>By X f (bE X n) n fn c args cs (yJ c)
     |none=>none
    |none=>none
def mi(X:Ctx)(A6:bP):Prop:=∀g args cs out l,A6 g args cs=some (out,l)->
 jM X.P g=true/\Ev X.P X.gl g args (fh 0 cs) λo m=>o=out/\m=eO 0 l
def yK{P:Program}{g:FuncId}{vs:Array Value}{w:World}(h:jM P g=true):(callFunc g vs).run P w=.ok (.enter g vs) w:=by
 unfold jM at h;split at h
 .rename_i fn Ay;simp only[Ds,ahI]at h;have O:fn.body.isNone=false:=by
   have:=h.1;cases AL:fn.body<;>simp_all
  have Y:fn.name≠ "runtime.NumGoroutine" :=by simpa using h.2
  have AB:fn.body≠none:=by intro AL;simp[AL]at O
  simp[callFunc,Ay,Y,AB]
 .cases h
def get_none{m:Mem}{k:Nat}:Mem.get m k=none↔k∉m.map (·.key):=by
 induction m with
 |nil=>simp[Mem.get]
 |cons e r ih=>
  simp only[Mem.get,adz,ac4,alp];split
  .rename_i h;simp[h]
  .rename_i h;rw[ih];constructor
   .exact λhh=>⟨λhe=>h he.symm,hh⟩
   .exact λhh=>hh.2
def AN{m m':Mem}(D:m'.map (·.key)=m.map (·.key))(k:Nat):(Mem.get m' k).isNone=(Mem.get m k).isNone:=by
 have:=get_none (m:=m) (k:=k);have Y:=get_none (m:=m') (k:=k);rw[D,<-this]at Y;cases h:Mem.get m k<;>cases Az:Mem.get m' k<;>simp_all
def AO(m:Mem):∀(n:Nat)(todo M:List Nat),∀k∈M,k∈collect m n todo M
 |0,todo,M,k,h=>h
 |n+1,[],M,k,h=>h
 |n+1,t::todo,M,k,h=>by
  simp only[collect];split
  .exact AO m n todo M k h
  .exact AO m n _ _ k (apT _ h)
def AP{m m':Mem}(D:m'.map (·.key)=m.map (·.key)):∀(n:Nat)(todo M:List Nat),(∀k∈collect m n todo M,Mem.get m' k=Mem.get m k)->collect m' n todo M=collect m n todo M
 |0,todo,M,_=>rfl
 |n+1,[],M,_=>rfl
 |n+1,t::todo,M,h=>by
  simp only[collect,AN D t]at h⊢;split
  .rename_i J;rw[J]at h;exact AP D n todo M h
  .rename_i J;rw[J]at h;have e:Mem.get m' t=Mem.get m t:=h t (AO m n _ _ t (by simp));rw[e];exact AP D n _ _ h
mutual
def OY{m m':Mem}{ρ:List Nat}{bor:Nat->Bool}{nv:Nat->Nat->Nat}(D:m'.map (·.key)=m.map (·.key))(h:∀k,(k∈ρ\/bor k=true)->Mem.get m' k=Mem.get m k):∀y:AV,vw m' ρ bor nv y=vw m ρ bor nv y
 | .ptr k au off=>by
  by_cases Z:k∈ρ
  .simp only[vw,h k (.inl Z)]
  .have A':∀U:Mem,vw U ρ bor nv (.ptr k au off)=.bH:=by
    intro U;simp only[vw,mZ (ρ:=ρ) (k:=k) (j:=0) |>.2 Z];cases Mem.get U k<;>rfl
   rw[A',A']
 | .vec k au off len=>by
  by_cases Z:k∈ρ\/bor k=true
  .simp only[vw,h k Z]
  .simp only[alp]at Z;have A':∀U:Mem,vw U ρ bor nv (.vec k au off len)=.bH:=by
    intro U;simp only[vw,mZ (ρ:=ρ) (k:=k) (j:=0) |>.2 Z.1,Z.2];cases Mem.get U k with
    |none=>rfl
    |some e=>
     obtain⟨_,_,c⟩:=e;cases c<;>simp
   rw[A',A']
 | .dD k au i j=>by
  by_cases Z:k∈ρ
  .simp only[vw,h k (.inl Z)]
  .have A':∀U:Mem,vw U ρ bor nv (.dD k au i j)=.bH:=by
    intro U;simp only[vw,mZ (ρ:=ρ) (k:=k) (j:=0) |>.2 Z];cases Mem.get U k<;>rfl
   rw[A',A']
 | .agg cs=>by simp only[vw,Bz D h cs]
 | .fn f cap=>by simp only[vw,Bz D h cap]
 | .bq vs=>by simp only[vw,Bz D h vs]
 | .bH=>rfl
 | .d x=>rfl
 | .fg x j=>rfl
 | .jG t x=>rfl
 | .lit v=>rfl
 | .nn=>rfl
 | .err=>rfl
def Bz{m m':Mem}{ρ:List Nat}{bor:Nat->Bool}{nv:Nat->Nat->Nat}(D:m'.map (·.key)=m.map (·.key))(h:∀k,(k∈ρ\/bor k=true)->Mem.get m' k=Mem.get m k):∀l:List AV,rG m' ρ bor nv l=rG m ρ bor nv l
 |[]=>rfl
 |x::r=>by simp only[rG,OY D h x,Bz D h r]
end
def OZ{m m':Mem}{ρ:List Nat}{bor:Nat->Bool}{nv:Nat->Nat->Nat}(D:m'.map (·.key)=m.map (·.key))(h:∀k,(k∈ρ\/bor k=true)->Mem.get m' k=Mem.get m k):
 ∀(l:List Nat)(i:Nat),(∀k∈l,k∈ρ)->fS m' ρ bor nv i l=fS m ρ bor nv i l
 |[],i,_=>rfl
 |k::r,i,Aa=>by
  simp only[fS,h k (.inl (Aa k (by simp))),OZ D h r (i+1) (λx A0=>Aa x (by simp[A0]))];congr 1;cases Mem.get m k with
  |none=>rfl
  |some e=>
   simp only[AE,aeb,alC];cases e.cont with
   |box cs=>simp only[AD,Bz D h cs]
   |vv aq y=>
    cases y with
    |none=>rfl
    |some x=>simp only[AD,ahK,OY D h x]
   |_=>rfl
def Jc{b:Bool}{m m':Mem}{ρ B:List Nat}(D:m'.map (·.key)=m.map (·.key))(h:∀k,(k∈ρ\/B.contains k=true)->Mem.get m' k=Mem.get m k):∀l:List AV,kj b m' ρ B l=kj b m ρ B l
 |[]=>rfl
 |x::r=>by simp only[kj,OY (nv:=ki) D h x,Jc D h r]
def Hz{m m':Mem}(d:Nat):∀(l:List Nat),(∀k∈l,Mem.get m' k=Mem.get m k)->base m' d l=base m d l
 |[],_=>rfl
 |k::r,h=>by simp only[base,h k (by simp),Hz d r (λx A0=>h x (by simp[A0]))]
def O0{m m':Mem}(ρ:List Nat)(D:m'.map (·.key)=m.map (·.key)):∀(l:List Nat),CA m' ρ l=CA m ρ l
 |[]=>rfl
 |k::r=>by
  have:(Mem.get m' k).isSome=(Mem.get m k).isSome:=by
   have:=AN D k;cases h:Mem.get m k<;>cases Az:Mem.get m' k<;>simp_all
  simp only[CA,this,O0 ρ D r]
def Jd{A6:bP}{m m':Mem}{A7:Nat}{g:FuncId}{I:List AV}{mt:List Nat}{res:im}(D:m'.map (·.key)=m.map (·.key))(h:fi A6 m A7 g I mt=some res)(Af:∀k∈res.ks,Mem.get m' k=Mem.get m k):
 fi A6 m' A7 g I mt=some res:=by
 unfold fi po pn at h⊢;obtain⟨ρ,A8⟩:∃ρ,ρ=collect m 64 (pk mt 0 I) []:=⟨_,rfl⟩;rw[<-A8]at h;obtain⟨B,Ag⟩:∃B,B=(yH mt 0 I).filter λk=>!ρ.contains k:=⟨_,rfl⟩;rw[<-Ag]at h;have AM:∀k,k∈ρ\/B.contains k=true->Mem.get m' k=Mem.get m k:=by
  intro k A1;refine Af k ?_;unfold iq at h;split at h
  .split at h
   .cases h;simp only[ada];rcases A1 with O|O
    .exact .inl (.inl O)
    .exact .inl (.inr (by simpa using O))
   .cases h
  .cases h
 have B':collect m' 64 (pk mt 0 I) []=ρ:=by
  rw[A8];exact AP D 64 _ _ (λk A1=>AM k (.inl (A8▸A1)))
 rw[B',<-Ag,Jc D AM,OZ D AM ρ 0 (λ_ h=>h),AN D];unfold iq at h⊢;split
 .rename_i out T AC;rw[AC]at h;simp only at h;rw[O0 ρ D];split
  .rename_i J;rw[ac1 J]at h;cases h;have AF:∀d,base m' d ρ=base m d ρ:=λd=>Hz d ρ (λk A1=>AM k (.inl A1));have B0:∀d,base m' d (List.range' (A7+1) (T.length-ρ.length))=base m d (List.range' (A7+1) (T.length-ρ.length)):=λd=>Hz d _ (λk A1=>Af k (by simp only[ada];exact .inr A1));rw[AF,B0]
  .rename_i J;rw[aaf J]at h;cases h
 .rename_i AC;rw[AC]at h;cases h
def AQ(S:St):∀(l:List Operand)(i:Nat),(ef S l)[i]?=(l[i]?).map λx=>(S.aw x).2
 |[],i=>by simp[ef]
 |x::r,i=>by cases i with|zero=>simp[ef]|succ i=>simp[ef,AQ S r i]
def lV(S:St):∀(l:List Operand),(ef S l).length=l.length
 |[]=>rfl
 |x::r=>by simp[ef,lV S r]
def CE(b m ρ B):∀(l:List AV)(i:Nat),(kj b m ρ B l)[i]?=(l[i]?).map λy=>GK b (vw m ρ (λk=>B.contains k) ki y)
 |[],i=>by simp[kj]
 |x::r,i=>by cases i with|zero=>simp[kj]|succ i=>simp[kj,CE b m ρ B r i]
def wV(b m ρ B):∀(l:List AV),(kj b m ρ B l).length=l.length
 |[]=>rfl
 |x::r=>by simp[kj,wV b m ρ B r]
def EE(m ρ bor):∀(l:List Nat)(i j:Nat),fh i (se (fS m ρ bor ki j l))=eO i (fS m ρ bor ki j l)
 |[],i,j=>rfl
 |k::r,i,j=>by
  have:AE m ρ bor ki j (Mem.get m k)=(0,(AE m ρ bor ki j (Mem.get m k)).2):=by
   cases Mem.get m k<;>rfl
  simp only[fS];rw[this];simp only[se,fh,eO,EE m ρ bor r (i+1) (j+1)]
def HA{m:Mem}{ρ:List Nat}:∀{l:List Nat},CA m ρ l=true->∀k∈l,(Mem.get m k).isSome=true/\k∉ρ
 |[],_,k,D=>by simp at D
 |x::r,h,k,D=>by
  simp only[CA,Ds,ahI,List.contains_eq_mem,aed]at h;rcases ac4.1 D with rfl|D
  .exact h.1
  .exact HA h.2 k D
def CF:∀{l:List (Nat×aF)},rL l=true->∀e∈l,oZ e.2=true
 |[],_,e,he=>by simp at he
 |(v,c)::r,h,e,he=>by
  simp only[rL,Ds]at h;rcases ac4.1 he with rfl|he
  .exact h.1
  .exact CF h.2 e he
def BA:∀(l:List (Nat×aF))(i k:Nat),i<=k->k<i+l.length->(Mem.get (eO i l) k).isSome=true
 |[],i,k,O,Y=>by simp at Y;omega
 |(v,c)::r,i,k,O,Y=>by
  simp only[eO,Mem.get];split
  .rfl
  .rename_i B1;exact BA r (i+1) k (by have BR:i≠k:=B1;omega) (by simp at Y;omega)
def Ev.frz{P:Program}{gl f args}{cs:List aF}{out:Out}{T:List (Nat×aF)}(h:Ev P gl f args (fh 0 cs) λo m=>o=out/\m=eO 0 T)(Aa:cs.length<=T.length):
 Ev P gl f args (fh 0 cs) λo m=>o=KA cs.length T out/\m=eO 0 (fS (eO 0 T) (List.range cs.length) (λ_=>true) (λ_ v=>v) 0 (List.range cs.length)):=by
 intro φ G w vs hm AR B2 B3;refine (h φ G w vs hm AR B2 B3).mono ?_;rintro e w' ⟨φ',m',AS,⟨rfl,rfl⟩,AG,V,A2⟩;obtain⟨s1,s2,B4⟩:=FG (G1:=G) (ρ:=List.range cs.length) (bor:=λ_=>true) (nv:=λ_ v=>v) AG List.nodup_range (λk D=>BA T 0 k (apR _) (by simp at D;omega)) (λb h=>.inl h) (λb h=>AG.nJ b h.own)
  (λk e L b AR _ _ AT A9=>AG.nJ _ ⟨e,(Mem.get_mem AR).1,L,by rw[(Mem.get_mem AR).2];exact AT,A9⟩)
 refine⟨_,_,_,⟨rfl,rfl⟩,s1,⟨?_,V.DU,?_,V.size,V.os,V.tape,V.output⟩,?_⟩
 .intro k L AT;have D:k<cs.length:=by
   have:=hm.ud k L AT;rw[OL,uF]at this;simpa using this
  obtain⟨L',O,Y,AB⟩:=V.le k L AT;exact⟨L',by simp[cC.kB,D,O],Y,AB⟩
 .intro b AL A9;exact V.own b AL ((Bo (φ:=φ') (nv:=λ_ v=>v) (bor:=λ_=>true) (λk D=>BA T 0 k (apR _) (by simp at D;omega)) b).1 A9).own
 .cases AS with
  |ret x=>
   cases e with
   |returned v=>exact (s2 x v A2).norm
   |_=>exact A2.elim
  |panic t x=>
   cases e with
   |panicked chain=>
    obtain⟨v,J,A0⟩:=A2;exact⟨v,J,A0.mono (λ_ _ _=>rfl) (aar _) (λb _=>B4 b)⟩
   |_=>exact A2.elim
def yL:∀(l:List (Nat×aF)),(se l).length=l.length
 |[]=>rfl
 |(_,_)::r=>by simp[se,yL r]
def EF{AI:Nat}{b:Bool}{r:Option (Out×List (Nat×aF))}{out:Out}{l:List (Nat×aF)}(h:AH AI b r=some (out,l)):∃AU A5,r=some (AU,A5)/\
 ((out=AU/\l=A5)\/(AI<A5.length/\out=KA AI A5 AU/\l=fS (eO 0 A5) (List.range AI) (λ_=>true) (λ_ v=>v) 0 (List.range AI))):=by
 cases r with
 |none=>cases h
 |some p=>
  obtain⟨B5,A5⟩:=p;refine⟨B5,A5,rfl,?_⟩;simp only[AH]at h;split at h
  .rename_i J;simp only[Ds,ac2]at J;simp only[adl,aeb]at h;exact .inr ⟨J.2,h.1.symm,h.2.symm⟩
  .simp only[adl,aeb]at h;exact .inl ⟨h.1.symm,h.2.symm⟩
def aeE{n g:Nat}(h:g<n):FL n g=g:=by
 unfold FL;rw[decide_eq_false (Nat.not_le.2 h)]
def Xx{n g:Nat}(h:g<n)(I H:List AV):yb n g I H=I++H:=by
 unfold yb;rw[decide_eq_false (Nat.not_le.2 h)]
def aeF(n g:Nat):FL n (g+n)=g:=by
 unfold FL;rw[ahl (alG n g)];exact Nat.add_sub_cancel g n
def Xy(n g:Nat)(I H:List AV):yb n (g+n) I H=H++I:=by
 unfold yb;rw[ahl (alG n g)]
def ahB{g:FuncId}(h:g<xe):ri g=g:=aeE h
def O1{g:FuncId}(h:g<xe)(I H:List AV):kN g I H=I++H:=Xx h I H
def ahC(g:FuncId):ri (g+xe)=g:=aeF xe g
def O2(g:FuncId)(I H:List AV):kN (g+xe) I H=H++I:=Xy xe g I H
def zP{X:Ctx}{A6:bP}(AC:mi X A6){S:St}{o:Oper}{AW:Operand}{args:Array Operand}{B6:Array TypeId}{g g0:FuncId}{H:List AV}{A7:Nat}{mt:List Nat}{res:im}
 (A9:o.op=.call {callee:=.value AW,args,argTypes:=B6}) (Ah:S.aw AW=(true,.fn g0 H)) (Ai:ri g0=g) (B7:kY S args.toList=true)
 (h:fi A6 S.mem A7 g (kN g0 (ef S args.toList) H) mt=some res) (B8:S.gl=X.gl) {φ G a w} (AA:Rel φ G S a w) {next:Act->World->Prop} {R:Exit->Act->World->Prop}
 (B9:∀x,res.out=.ret x->∀φ' w' v,Rel φ' G {S with mem:=bV S.mem res.es} a w'->bn φ S.mem w φ' (bV S.mem res.es) w'->aG φ' w' (Fo G φ' (bV S.mem res.es)) x v->next (a.put o.dst v) w')
 (BB:∀t x,res.out=.panic t x->∀φ' w' v,Rel φ' G {S with mem:=bV S.mem res.es} a w'->bn φ S.mem w φ' (bV S.mem res.es) w'->aR w' (Fo G φ' (bV S.mem res.es)) x v->R (.panic [{v:=.iface t v,recovered:=false}]) a w'):o.wp X.P a w next R:=by
 unfold fi po pn at h;obtain⟨ρ,A8⟩:∃ρ,ρ=collect S.mem 64 (pk mt 0 (kN g0 (ef S args.toList) H)) []:=⟨_,rfl⟩;have Aj:=te S.mem 64 (pk mt 0 (kN g0 (ef S args.toList) H)) [] List.nodup_nil (by simp);rw[<-A8]at h Aj;generalize (yH mt 0 (kN g0 (ef S args.toList) H)).filter (λk=>!ρ.contains k)=B at h;clear A8;obtain⟨Ak,Al⟩:=Aj;unfold iq at h;split at h
 .rename_i out T BC;split at h
  .rename_i J;cases h;have BD:jM X.P g=true/\Ev X.P X.gl g (kj (mt.contains 1000) S.mem ρ B (kN g0 (ef S args.toList) H)) (fh 0 (se (fS S.mem ρ (λk=>B.contains k) ki 0 ρ))) λo m=>o=out/\m=eO 0 T:=by
    obtain⟨AU,A5,A',O⟩:=EF BC;obtain⟨BE,An⟩:=AC _ _ _ _ _ A';refine⟨BE,?_⟩;rcases O with ⟨rfl,rfl⟩|⟨AX,rfl,rfl⟩
    .exact An
    .have Ao:(se (fS S.mem ρ (λk=>B.contains k) ki 0 ρ)).length=ρ.length:=by rw[yL,vp]
     have:=An.frz (by rw[Ao];omega);rw[Ao]at this;exact this
   obtain⟨Ap,Aq⟩:=BD;simp only[Ds,ams,ac2]at J;obtain⟨⟨BS,BF⟩,BG⟩:=J;rw[EE]at Aq;obtain⟨v1,v2,v3⟩:=LL (B:=B) AA.mem Ak Al;have Ab:=AA.aw AW (by rw[Ah]);rw[Ah]at Ab;generalize Ar:a.eval AW=BT at Ab;have BH:∃vs:Array Value,(execOp a.eval o).run X.P w=.ok (.enter g vs) w/\(kN g0 (ef S args.toList) H).length=vs.size/\∀(i:Nat) y v,(kN g0 (ef S args.toList) H)[i]?=some y->vs[i]?=some v->aG φ w (Fo G φ S.mem) y v:=by
    have As:∀(i:Nat) y v,(ef S args.toList)[i]?=some y->(args.map a.eval)[i]?=some v->aG φ w (Fo G φ S.mem) y v:=by
     intro i y v A3 A4;rw[AQ]at A3;simp only[Array.getElem?_map,ac3]at A4;obtain⟨z,At,rfl⟩:=A4;obtain⟨BU,Au,rfl⟩:=ac3.1 A3;rw[ahH,At]at Au;cases Au;exact AA.aw z (zE B7 z (by simpa using Array.mem_of_getElem? At))
    have AY:(ef S args.toList).length=(args.map a.eval).size:=by rw[lV];simp
    have Av:∀(l r:List AV)(AZ A_:Array Value),l.length=AZ.size->r.length=A_.size->(∀(i:Nat) y v,l[i]?=some y->AZ[i]?=some v->aG φ w (Fo G φ S.mem) y v)->(∀(i:Nat) y v,r[i]?=some y->A_[i]?=some v->aG φ w (Fo G φ S.mem) y v)->
     ∀(i:Nat) y v,(l++r)[i]?=some y->(AZ++A_)[i]?=some v->aG φ w (Fo G φ S.mem) y v:=by
     intro l r AZ A_ O Y AB BI i y v A3 A4;by_cases hi:i<l.length
     .rw[ac9 hi]at A3;rw[ahT (by omega)]at A4;exact AB i y v A3 A4
     .rw[adb (by omega)]at A3;rw[Array.getElem?_append_right (by omega),<-O]at A4;exact BI _ y v A3 A4
    cases Ab with
    |fn _ _ Ac AX AJ Ad=>
     have AF:g0=g:=by rw[<-Ai,ahB AX]
     subst AF;refine⟨args.map a.eval++Ac,by simp[execOp,A9,resolve,Ar,Deferred.ofValue,invoke,yK Ap],?_,?_⟩
     .rw[O1 AX,acY,AY,AJ,Array.size_append]
     .rw[O1 AX];exact Av _ _ _ _ AY AJ As Ad
    |xf f _ Ac AJ Ad=>
     have AF:f=g:=by rw[<-Ai,ahC]
     subst AF;refine⟨Ac++args.map a.eval,by simp[execOp,A9,resolve,Ar,Deferred.ofValue,invoke,yK Ap],?_,?_⟩
     .rw[O2,acY,AY,AJ,Array.size_append]
     .rw[O2];exact Av _ _ _ _ AJ AY Ad As
   obtain⟨vs,BJ,BK,BL⟩:=BH
   .unfold Oper.wp;rw[BJ];have BM:(kj (mt.contains 1000) S.mem ρ B (kN g0 (ef S args.toList) H)).length=vs.size:=by
     rw[wV];exact BK
    have BN:∀(i:Nat) x v,(kj (mt.contains 1000) S.mem ρ B (kN g0 (ef S args.toList) H))[i]?=some x->vs[i]?=some v->aG (φ.kB ρ ki) w (Fo (oJ φ G S.mem ρ B) (φ.kB ρ ki) (eO 0 (fS S.mem ρ (λk=>B.contains k) ki 0 ρ))) x v:=by
     intro i x v A0 A4;rw[CE]at A0;obtain⟨y,A3,rfl⟩:=ac3.1 A0;exact (v2 y v (BL i y v A3 A4)).GK
    have BO:gr w (Fo (oJ φ G S.mem ρ B) (φ.kB ρ ki) (eO 0 (fS S.mem ρ (λk=>B.contains k) ki 0 ρ))) X.gl:=by
     rw[<-B8];exact AA.nK.mono (λ_ _ _=>rfl) (aar _) (λb _=>v3 b)
    refine (Aq (φ.kB ρ ki) (oJ φ G S.mem ρ B) w _ v1 BO BM BN).mono ?_;rintro e w' ⟨BV,BW,AS,⟨rfl,rfl⟩,BP,A1,A2⟩;have Ae:B=[]\/(Ez AS=true/\rL T=true):=BG.imp (by simp) id;obtain⟨φ',AG,V,Aw⟩:=LM (B:=B) AA.mem Ak Al (fr:=List.range' (A7+1) (T.length-ρ.length)) List.nodup_range' (HA BF) BP A1 (by simp;omega) (Ae.imp id λAK=>CF AK.2);have Ax:=AA.DW AG V;cases AS with
    |ret x=>
     cases e with
     |returned v=>exact B9 _ rfl φ' w' v Ax V (Aw x v (Ae.imp id λAK=>AK.1) A2)
     |_=>exact A2.elim
    |panic t x=>
     cases e with
     |panicked chain=>
      obtain⟨v,rfl,A0⟩:=A2;have:=Aw (.d x) v (Ae.imp id λAK=>AK.1) (.d _ _ A0);cases this with
      |d _ _ BQ=>exact BB t x rfl φ' w' v Ax V BQ
     |_=>exact A2.elim
  .cases h
 .cases h
end Go.Am
end
