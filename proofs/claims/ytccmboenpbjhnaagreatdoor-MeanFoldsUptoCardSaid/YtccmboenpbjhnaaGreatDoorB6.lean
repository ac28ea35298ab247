/-
  Texts of one proof, one behind the other.
-/
import Derived.Test.YtccmboenpbjhnaaGreatDoorB5
import Derived.KernelRfl
import Derived.Test.YtccmboenpbjhnaaGreatDoorProg
import Derived.Shelf.Lays
set_option linter.all false
section
namespace Go.Am
open Go Go.Proofs Go.Proofs.Tryz
variable [Inhabited bI]
set_option maxRecDepth 20000
theorem vQ(c:List Int)(A':c.length<=100000):ah ctx 48 [.d (.list (c.map jD))] []=some (.ret (.vec 0 0 0 c.length),[(0,.vec 1 (c.map jD))]):=by
 rw[ak7 (by simp)];cases c with
 |nil=>simp[f48]
 |cons x r=>
  simp at A';have A5:((r.length:Int)+1)*8<=140737488355328:=by omega
  have A0:(r.length+1)*8<=140737488355328:=by omega
  have A1:r.length+1<=4611686018427387904:=by omega
  simp[f48,A0,A1]
theorem cl3{c:List Int}(h:c.length=3):∃a b q,c=[a,b,q]:=by
 match c,h with
 |[a,b,q],_=>exact⟨a,b,q,rfl⟩
theorem ah5{c:List Int}(h:c.length=4):∃a b q e,c=[a,b,q,e]:=by
 match c,h with
 |[a,b,q,e],_=>exact⟨a,b,q,e,rfl⟩
theorem YK{c:List Int}(h:c.length=6):∃a b q e p r,c=[a,b,q,e,p,r]:=by
 match c,h with
 |[a,b,q,e,p,r],_=>exact⟨a,b,q,e,p,r,rfl⟩
theorem LC{k:Int}(Y:k<10\/18<k)(c:List Int):gH k c=c:=by
 unfold gH;split
 ·unfold sH;simp only[show ¬k=15 by omega,show ¬k=16 by omega,show ¬k=17 by omega,show ¬k=18 by omega,ad0]
 ·unfold sG;simp only[show ¬k=10 by omega,show ¬k=11 by omega,ad0]
 ·unfold oa;simp only[show ¬k=12 by omega,show ¬k=13 by omega,show ¬k=14 by omega,ad0]
 ·rfl
set_option maxHeartbeats 4000000 in
theorem YL(k:Int)(c:List Int)(J:c.length=oe k)(M:∀x∈c,aI x):ah ctx 85 [.d (.int .i64 k),.d (.list (c.map jD))] []=some (.ret (.vec 0 0 0 c.length),[(0,.vec 1 ((gH k c).map jD))]):=by
 obtain⟨pl,A,U,V⟩:=ac7 k;have D:=vQ c (by omega);have A6:=sM;have E:(pl.length:Int)=c.length:=by omega
 rw[ali (by simp)];by_cases Y:k<10\/18<k
 ·rw[LC Y];try simp at D
  try simp at A
  simp[f85,D,A,E,show ¬k=10 by omega,show ¬k=11 by omega,show ¬k=12 by omega,show ¬k=13 by omega,show ¬k=14 by omega,show ¬k=15 by omega,show ¬k=16 by omega,show ¬k=17 by omega,show ¬k=18 by omega,aj]
 ·have A2:k=10\/k=11\/k=12\/k=13\/k=14\/k=15\/k=16\/k=17\/k=18:=by omega
  clear Y;have A3:(k=10\/k=11->oe k=4)/\(k=12\/k=13\/k=14->oe k=6)/\(k=15\/k=16\/k=17\/k=18->oe k=3):=by
   refine⟨?_,?_,?_⟩
   ·rintro (rfl|rfl)<;>rfl
   ·rintro (rfl|rfl|rfl)<;>rfl
   ·rintro (rfl|rfl|rfl|rfl)<;>rfl
  obtain⟨T,O,N⟩:=A3;rcases A2 with h|h|h|h|h|h|h|h|h
  ·obtain⟨a,b,q,e,rfl⟩:=ah5 (J.trans (T (by omega)));have:=ER k a b q e (.inl h) (M _ (by simp)) (M _ (by simp));subst h;simp at D A E;simp[gH];have H:=Ay 10 a b q e;generalize sG 10 a b q e=z at*;have I:(z.map jD).take z.length=z.map jD:=aej (by simp);rw[H]at I;try simp at this
   simp[f85,D,A,E,this,H,I,aj]
  ·obtain⟨a,b,q,e,rfl⟩:=ah5 (J.trans (T (by omega)));have:=ER k a b q e (.inr h) (M _ (by simp)) (M _ (by simp));subst h;simp at D A E;simp[gH];have H:=Ay 11 a b q e;generalize sG 11 a b q e=z at*;have I:(z.map jD).take z.length=z.map jD:=aej (by simp);rw[H]at I;try simp at this
   simp[f85,D,A,E,this,H,I,aj]
  ·obtain⟨a,b,q,e,p,r,rfl⟩:=YK (J.trans (O (by omega)));have:=Sw a b q e p r (M _ (by simp)) (M _ (by simp));subst h;simp at D A E;simp[gH];have H:=uU 12 a b q e p r;generalize oa 12 a b q e p r=z at*;have I:(z.map jD).take z.length=z.map jD:=aej (by simp);rw[H]at I;try simp at this
   simp[f85,D,A,E,this,H,I,aj]
  ·obtain⟨a,b,q,e,p,r,rfl⟩:=YK (J.trans (O (by omega)));have:=B6 k a b q e p r (.inl h) (M _ (by simp));subst h;simp at D A E;simp[gH];have H:=uU 13 a b q e p r;generalize oa 13 a b q e p r=z at*;have I:(z.map jD).take z.length=z.map jD:=aej (by simp);rw[H]at I;try simp at this
   simp[f85,D,A,E,this,H,I,aj]
  ·obtain⟨a,b,q,e,p,r,rfl⟩:=YK (J.trans (O (by omega)));have:=B6 k a b q e p r (.inr h) (M _ (by simp));subst h;simp at D A E;simp[gH];have H:=uU 14 a b q e p r;generalize oa 14 a b q e p r=z at*;have I:(z.map jD).take z.length=z.map jD:=aej (by simp);rw[H]at I;try simp at this
   simp[f85,D,A,E,this,H,I,aj]
  ·obtain⟨a,b,q,rfl⟩:=cl3 (J.trans (N (by omega)));subst h;simp at D A E;clear M J N T O U V;rcases amh (a=0)with rfl|Z<;>rcases amh (q=0)with rfl|y<;>simp[f85,gH,sH,aj,bne, *]
  ·obtain⟨a,b,q,rfl⟩:=cl3 (J.trans (N (by omega)));subst h;simp at D A E;clear M J N T O U V;rcases amh (a=0)with rfl|Z<;>rcases amh (q=0)with rfl|y<;>simp[f85,gH,sH,aj,bne, *]
  ·obtain⟨a,b,q,rfl⟩:=cl3 (J.trans (N (by omega)));subst h;simp at D A E;clear M J N T O U V;rcases amh (a=0)with rfl|Z<;>rcases amh (q=0)with rfl|y<;>rcases amh (b=0)with rfl|A4<;>simp[f85,gH,sH,aj,bne, *]
  ·obtain⟨a,b,q,rfl⟩:=cl3 (J.trans (N (by omega)));subst h;simp at D A E;clear M J N T O U V;rcases amh (a=0)with rfl|Z<;>rcases amh (q=0)with rfl|y<;>rcases amh (b=0)with rfl|A4<;>simp[f85,gH,sH,aj,bne, *]
end Go.Am
end
section
namespace Go.Am
open Go Go.Proofs
variable [Inhabited bI]
set_option maxRecDepth 20000
@[simp] def iA(n:Int):AV:=.d (.int .i64 n)
def mB(A:AV)(D E:Int)(H:AV)(S G:List Int)(h a f x:Int):List AV:=
 A::.d (.int .i64 D)::.d (.int .i64 E)::H::((S++G).map iA++[.d (.int .i64 h),.d (.int .i64 a),.d (.int .i64 f),.d (.int .i64 x)])
section
variable {A:AV} {D E:Int} {H:AV} {S G:List Int} {h a f x:Int}
end
def AL(n:Nat)(k:Int):Prop:=0<=k/\k.toNat<n
def ab5(n:Nat)(x:aV):Prop:=0<=x.n/\x.n<=x.m/\x.m<=255/\0<=x.a/\x.a+(x.m-x.n)<n
structure Fit(x:aV)(n h:Nat):Prop where
 top:h<=64
 i1:x.op=1->h<64
 i2:x.op=2\/x.op=3\/x.op=14->h<64/\AL n x.a
 i4:x.op=4\/x.op=5->1<=h/\ab5 n x
 i6:x.op=6->1<=h/\AL n x.a
 i7:x.op=7->2<=h/\ab5 n x
 i8:x.op=8->(x.b=6\/x.b=7->1<=h)/\(¬(x.b=6\/x.b=7)->2<=h)
 i10:x.op=10->1<=h
 i12:x.op=12->0<=x.a/\x.a.toNat+oe x.b<=n
 i13:x.op=13->h<64/\AL n x.a/\AL n x.b/\AL n (x.b+1)
structure ah6(s:Ms):Prop where
 cells:∀n∈s.cells,aI n
 ud:∀n∈s.ud,aI n
 few:s.cells.length<=8192
 fuel:0<=s.fuel/\s.fuel<=16384
 place:0<=s.at_/\s.at_<=5000
theorem ET:∀Y:List Int,jH (Y.map jD)=true
 |[]=>rfl
 |x::r=>by simp[jH,ie,ET r]
theorem YM(C Y:List Int)(a:Nat)(h:a+Y.length<=C.length):bk (C.map jD) a (Y.map jD)=(C.take a++Y++C.drop (a+Y.length)).map jD:=by
 rw[dh _ _ _ (by simpa using h)];simp[List.map_take,List.map_drop]
end Go.Am
end
section
namespace Go.Am
open Go Go.Proofs
variable [Inhabited bI]
structure aBO(l:List aV)(st:Nat->List Bool)(n:Nat)(s:Ms):Prop where
 aBP:ah6 s
 len:s.cells.length=n
 h64:s.ud.length<=64
 here:s.fault=0->s.at_.toNat<l.length/\s.ud.length=(st s.at_.toNat).length
def Dj(x:aV)(h:Nat):Nat:=
 if x.op=1\/x.op=2\/x.op=3\/x.op=13\/x.op=14 then h+1 else if x.op=4\/x.op=5 then h else if x.op=6\/x.op=10 then h-1 else if x.op=7 then h-2
 else if x.op=8 then (if x.b=6\/x.b=7 then h else h-1)else h
theorem iX:aI 0:=by unfold aI;omega
theorem HH:aI 1:=by unfold aI;omega
theorem ui(b:Bool):aI (dk b):=by unfold dk;split;exact HH;exact iX
theorem EU(z:Int):aI (jo z).1:=by
 unfold jo;split
 ·rename_i h;exact h
 ·exact iX
theorem EV{p:Int×Bool}(h:aI p.1):aI (qp p).1:=by
 unfold qp;split
 ·exact h
 ·exact iX
theorem ac8{a b:Int}(A:aI a)(D:b≠0)(h:¬(a= -9223372036854775808/\b= -1)):aI (a.tdiv b):=by
 have E:=CL a b;unfold aI at*;have AA:a.natAbs/b.natAbs<=a.natAbs:=Nat.div_le_self _ _;have Y:decide (a<0)=decide (b<0)->a.natAbs/b.natAbs<=9223372036854775807:=by
  intro H;by_cases Z:a= -9223372036854775808
  ·have y:2<=b.natAbs:=by
    have:b<0:=by rw[Z]at H;simpa using H
    omega
   have AB:=Nat.div_le_div_left y (by decide) (a:=a.natAbs);omega
  ·omega
 generalize a.natAbs/b.natAbs=q at*;split at E
 ·rename_i H;have:=Y H;omega
 ·omega
theorem ac9{a b:Int}(A:aI a)(D:b≠0):aI (a.tmod b):=by
 have E:=Xw a b;unfold aI at*;have AC:a.natAbs%b.natAbs<=a.natAbs:=Nat.mod_le _ _;have AD:a.natAbs%b.natAbs<b.natAbs:=Nat.mod_lt _ (by omega);generalize a.natAbs%b.natAbs=q at*;split at E<;>omega
theorem V9{p:Int×Int}(h:aI p.1):aI (oq p).1:=by
 unfold oq;split
 ·exact iX
 ·split
  ·exact h
  ·exact iX
theorem ah7{a b:Int}(A:aI a):aI (vJ a b).1:=by
 unfold vJ;split
 ·exact iX
 ·rename_i D;split
  ·exact iX
  ·rename_i h;exact ac8 A D h
theorem ah8{a b:Int}(A:aI a):aI (xX a b).1:=by
 unfold xX;split
 ·exact iX
 ·rename_i D;exact ac9 A D
theorem alG(op a:Int)(t:Bool):aI (kh op a t).1:=by
 unfold kh jC;repeat' split
 all_goals first|exact iX|exact ui _|exact EV (EU _)
theorem alH(op a b:Int):aI (CM op a b).1:=by
 unfold CM jC;repeat' split
 all_goals first|exact iX|exact ui _
theorem alI(op a b:Int)(A:aI a):aI (Ao op a b).1:=by
 have A':=EV (EU (a+b));have A0:=EV (EU (a-b));have A1:=EV (EU (a*b));have A2:=V9 (ah7 (b:=b) A);have A3:=V9 (ah8 (b:=b) A);unfold Ao jC;by_cases J:op=8
 ·rw[abT J];exact A'
 rw[abN J];by_cases M:op=9
 ·rw[abT M];exact A0
 rw[abN M];by_cases N:op=10
 ·rw[abT N];exact A1
 rw[abN N];by_cases O:op=11
 ·rw[abT O];exact A2
 rw[abN O];by_cases T:op=12
 ·rw[abT T];exact A3
 rw[abN T];repeat' split
 all_goals first|exact iX|exact ui _
theorem Sz(op a b:Int)(t:Bool)(A:aI a):aI (ik op a b t).1:=by
 unfold ik;split
 ·split
  ·exact iX
  ·exact alH ..
 ·exact alI _ _ _ A
theorem HI{e b:Int}(he:aI e)(D:aI b):aI (yL e b):=by unfold yL aI at*;split<;>omega
theorem ada(k:Int)(c:List Int)(h:∀n∈c,aI n):∀n∈gH k c,aI n:=by
 unfold gH;split
 ·rename_i a b q;have A:=h a (by simp);have D:=h b (by simp);have E:=h q (by simp);unfold sH;repeat' split
  all_goals (simp only[List.forall_mem_cons];simp[A,D,E,ui])
 ·rename_i a b q e;have A:=h a (by simp);have D:=h b (by simp);have E:=h q (by simp);have he:=h e (by simp);have hu:=HI he D;unfold sG;repeat' split
  all_goals (simp only[List.forall_mem_cons];simp[A,D,E,he,hu,ui,iX,HH])
 ·rename_i a b q e p r;have A:=h a (by simp);have D:=h b (by simp);have E:=h q (by simp);have he:=h e (by simp);have I:=h p (by simp);have U:=h r (by simp);have hu:=HI he D;have AE:=HI iX D;have A4:p<9223372036854775807->aI (p+1):=λ_=>by unfold aI at*;omega
  have A5: -9223372036854775808<p->aI (p-1):=λ_=>by unfold aI at*;omega
  have A6:aI (if b≠0 then 0 else if a≠0/\r=0/\p<9223372036854775807 then p+1 else p):=by
   split
   ·exact iX
   ·split
    ·rename_i h;exact A4 h.2.2
    ·exact I
  have A7:aI (if b≠0 then q else if a≠0/\r=0/\ -9223372036854775808<p then p-1 else p):=by
   split
   ·exact E
   ·split
    ·rename_i h;exact A5 h.2.2
    ·exact I
  have A8:aI (if a≠0/\p=0/\r=0 then 1 else r):=by split;exact HH;exact U
  have V:aI (if a≠0/\p=0/\r=0 then 0 else e):=by split;exact iX;exact he
  unfold oa ZQ ZR ZS;dsimp only
  generalize (if b≠0 then 0 else if a≠0/\r=0/\p<9223372036854775807 then p+1 else p)=v1 at*;generalize (if b≠0 then q else if a≠0/\r=0/\ -9223372036854775808<p then p-1 else p)=v2 at*;generalize (if a≠0/\p=0/\r=0 then (1:Int)else r)=v3 at*;generalize (if a≠0/\p=0/\r=0 then (0:Int)else e)=v4 at*;have A9:=HI V D;repeat' split
  all_goals (simp only[List.forall_mem_cons];simp[A,D,E,he,I,U,hu,A9,A6,A7,A8,V,ui,iX,HH])
 ·exact h
end Go.Am
end
section
namespace Go.Am
open Go Go.Proofs Go.Proofs.Tryz
variable [Inhabited bI]
set_option maxRecDepth 20000
def mnV(p:Pg)(C:List Int)(f:Nat)(q:Vl):cd:=
 match q with
 | .v n t=>some (.ret (.bY [.d (.int .i64 n),.d (.bool t)]),pS p C f 0)
 | .f e=>some (.panic 103 (lq e),pS p C f 0)
def mnW(p:Pg)(C:List Int)(f:Nat)(q:Vl):cd:=
 match q with
 | .v n _=>some (.ret (.d (.int .i64 n)),pS p C f 0)
 | .f e=>some (.panic 103 (lq e),pS p C f 0)
@[simp] theorem azh(p:Pg)(C:List Int)(f:Nat)(n:Int)(t:Bool):mnV p C f (.v n t)=some (.ret (.bY [.d (.int .i64 n),.d (.bool t)]),pS p C f 0):=rfl
@[simp] theorem azi(p:Pg)(C:List Int)(f:Nat)(e:Int):mnV p C f (.f e)=some (.panic 103 (lq e),pS p C f 0):=rfl
@[simp] theorem azj(p:Pg)(C:List Int)(f:Nat)(n:Int)(t:Bool):mnW p C f (.v n t)=some (.ret (.d (.int .i64 n)),pS p C f 0):=rfl
@[simp] theorem azk(p:Pg)(C:List Int)(f:Nat)(e:Int):mnW p C f (.f e)=some (.panic 103 (lq e),pS p C f 0):=rfl
structure eX(p:Pg)(C:List Int):Prop where
 len:(C.length:Int)=eF p.vars
 le:C.length<=1024
 num:∀c∈C,aI c
def KV(p:Pg)(x:Ex):Prop:=∀(C:List Int)(f:Nat),eX p C->ah ctx 251 [.ptr 0 0 0,.d (.agg [.int .i64 (bO x),.int .i64 (fW x),.str (dS x),.str (eS x),.list ((cV x).map bL),.int .i64 (jq x)])] (jv p C f)=mnV p C f (bV p.vars C x)
def RI(p:Pg)(x:Ex):Prop:=∀(C:List Int) n t,eX p C->bV p.vars C x=.v n t->aI n
theorem sY{C:List Int}(h:∀c∈C,aI c)(k:Int):aI (jZ C k):=by
 unfold jZ;cases M:C[k.toNat]? with
 |none=>simp;exact iX
 |some c=>simp;exact h c (abU M)
theorem SA{C:List Int}(h:∀c∈C,aI c)(k t:Int):aI (EM C k t):=by
 unfold EM;split
 ·exact ui _
 ·exact sY h k
theorem SB{op:Int}{l:List Int}{t:Bool}(h:∀c∈l,aI c){n:Int}{b:Bool}(E:py op l t=.v n b):aI n:=by
 unfold py at E;split at E
 ·injection E with D _
  rw[<-D];unfold EN;split
  ·exact alG _ _ _
  ·exact Sz _ _ _ _ (h _ (by simp))
  ·exact iX
 ·cases E
section
variable {p:Pg} (O:p.vars.length<=1000) (I:∀w∈p.vars,dQ w=true)
include O I
omit O in
theorem alJ{x:Ex}(A5:XC p.vars x)(A6:cO x=true)(ih:∀y∈cV x,RI p y):RI p x:=by
 intro C n t A h;cases A5 with
 |num D=>
  rw[OT]at h;cases h;simp only[cO,Ds,abQ]at A6;unfold aI;omega
 |ru D=>rw[OU]at h;cases h;unfold aI;omega
 |var E N J=>rw[OV]at h;cases h;exact SA A.num _ _
 |@idx name line v y E N J A2 A3 ty=>
  rw[OW]at h;cases H:bV p.vars C y with
  |f e=>rw[H]at h;cases h
  |v k b=>
   rw[H]at h;simp only[vV,Sr]at h;split at h
   ·cases h
   ·cases h;exact SA A.num _ _
 |VP E J Y Z=>rw[OX]at h;cases h;exact SA A.num _ _
 |@one op line y A7 A2 A3 ty=>
  rw[OY _ _ _ _ (by omega)]at h;cases H:bV p.vars C y with
  |f e=>rw[H]at h;cases h
  |v a b=>
   rw[H]at h;exact SB (by intro c V;simp at V;rw[V];exact ih y (by simp) C a b A H) h
 |@two op line y z A7 A2 A3 AA AB ty AC=>
  rw[OZ _ _ _ _ _ (by omega)]at h;cases H:bV p.vars C y with
  |f e=>rw[H]at h;cases h
  |v a b=>
   rw[H]at h;simp only at h;cases A':bV p.vars C z with
   |f e=>rw[A']at h;cases h
   |v a2 A8=>
    rw[A']at h;refine SB ?_ h;intro c V;simp at V;rcases V with rfl|rfl
    ·exact ih y (by simp) C _ b A H
    ·exact ih z (by simp) C _ A8 A A'
theorem Kn{name:Tx}{w:Vr}(hw:bz p.vars name=some w)(N:w.arr=false)(J:w.ty<=2){C:List Int}(A:eX p C):0<=(dP p.vars name).1/\(dP p.vars name).1.toNat<C.length:=by
 have:=YD (v:=C.length) I A.len (Yz (cells:=C.length) I (by have:=A.len;omega) hw (by simp[N]) J);omega
theorem EW{name:Tx}{w:Vr}(hw:bz p.vars name=some w){C:List Int}(A:eX p C):0<=(dP p.vars name).1/\(dP p.vars name).1<=1024:=by
 have A4:∀v∈p.vars,0<=cq v:=λv E=>u0 (I v E);have D:=uZ A4 hw;have T:=A4 w (rK hw).1;have:=A.len;have:=A.le;omega
theorem ab6{name:Tx}{w:Vr}(hw:bz p.vars name=some w)(N:w.arr=true):0<=w.lo/\w.hi<=255:=by
 have Z:=I _ (rK hw).1;simp only[dQ,Ds]at Z;have A0:=Z.2.2.1;rw[abT N]at A0;have:=ad7 A0;omega
theorem aib{n line:Int}:KV p (.mk 1 n [] [] [] line):=by
 intro C f A;rw[OT,ue (by simp)];simp[f251]
theorem aic{n line:Int}:KV p (.mk 2 n [] [] [] line):=by
 intro C f A;rw[OU,ue (by simp)];simp[f251]
theorem aid{name:Tx}{line:Int}{w:Vr}(hw:bz p.vars name=some w)(N:w.arr=false)(J:w.ty<=2):KV p (.mk 3 0 name [] [] line):=by
 intro C f A;have D:=sX O hw C f;have T:=FV (p:=p) C f (t:=w.ty) (Kn O I hw N J A);rw[OV,ou hw,ue (by simp)];simp[bx,dK]at D T;simp[f251,D,T,aj]
theorem aie{name field:Tx}{line:Int}{w:Vr}{q:Pn}(hw:bz p.vars name=some w)(J:2<w.ty)(Y:l7 w.ty field=some q):KV p (.mk 5 0 name field [] line):=by
 intro C f A;obtain⟨q1,q2,j,q3,AD⟩:=ON hw J Y;have A0:=u3 (cells:=C.length) I (by have:=A.len;omega) hw J;have hle:=EW O I hw A;have D:=V7 O hw J Y ⟨hle.1,by omega⟩ C f;have T:=FV (p:=p) C f (t:=q.ty) (a:=(lK p.vars name field).1) (by rw[q3];omega);rw[OX,q1,ue (by simp)];simp[de]at D T;simp[f251,D,T,aj]
theorem aif{name:Tx}{line:Int}{w:Vr}{y:Ex}(hw:bz p.vars name=some w)(N:w.arr=true)(J:w.ty<=2)(H:KV p y):KV p (.mk 4 0 name [] [y] line):=by
 intro C f A;have D:=sX O hw C f;have hle:=EW O I hw A;have A9:=ab6 O I hw N;have M:=H C f A;have U:=λn=>Hb (a:=(dP p.vars name).1) (n:=n) (w:=w) ⟨hle.1,by omega⟩ A9;rw[OW,ou hw,ue (by simp)];cases E:bV p.vars C y with
 |f e=>
  rw[E]at M;simp[bx,dK]at D M;simp[f251,D,M,au,vV,aj]
 |v k b=>
  rw[E]at M;have U:=U k;simp only[vV,Sr];by_cases A1:k<w.lo\/w.hi<k
  ·rw[abT A1]at U⊢;simp[bx,dK]at D M U;simp[f251,D,M,U,au,aj]
  ·rw[abN A1]at U⊢;have T:=FV (p:=p) C f (t:=w.ty) (a:=(dP p.vars name).1+(k-w.lo)) (by
    have:=V3 (v:=C.length) I A.len hw N A1;omega)
   simp[bx,dK]at D M U T;simp[f251,D,M,U,T,au,aj]
end
end Go.Am
end
section
namespace Go.Am
open Go Go.Proofs Go.Proofs.Tryz
variable [Inhabited bI]
set_option maxRecDepth 20000
set_option maxHeartbeats 1000000
theorem alK{op a:Int}{t:Bool}(h:(kh op a t).2.2=0):py op [a] t=.v (kh op a t).1 (kh op a t).2.1:=abT h
theorem aii{op a:Int}{t:Bool}(h:¬(kh op a t).2.2=0):py op [a] t=.f (kh op a t).2.2:=abN h
theorem alL{op a b:Int}{t:Bool}(h:(ik op a b t).2.2=0):py op [a,b] t=.v (ik op a b t).1 (ik op a b t).2.1:=abT h
theorem aij{op a b:Int}{t:Bool}(h:¬(ik op a b t).2.2=0):py op [a,b] t=.f (ik op a b t).2.2:=abN h
section
variable {p:Pg} (J:p.vars.length<=1000) (I:∀w∈p.vars,dQ w=true)
include J I
theorem aik{op line:Int}{y:Ex}(A1:op=6\/op=7)(H:KV p y)(A4:RI p y):KV p (.mk op 0 [] [] [y] line):=by
 intro C f M;have T:¬op=1:=by omega
 have U:¬op=2:=by omega
 have V:¬op=3:=by omega
 have Y:¬op=4:=by omega
 have Z:¬op=5:=by omega
 have A:=H C f M;rw[OY _ _ _ _ (by omega),ue (by simp)];cases D:bV p.vars C y with
 |f e=>
  rw[D]at A;simp at A;simp[f251,T,U,V,Y,Z];rw[ag];simp[f251,au,A]
 |v a t=>
  rw[D]at A;have N:=B8 op a t (A4 C a t M D);by_cases E:(kh op a t).2.2=0
  ·simp only
   rw[alK E];generalize kh op a t=r at*;obtain⟨A5,A6,A7⟩:=r;simp only at E;subst E;simp at A N;simp[f251,T,U,V,Y,Z];rw[ag];simp[f251,au,A];rw[ag];simp[f251,au,N]
  ·simp only
   rw[aii E];generalize kh op a t=r at*;obtain⟨A5,A6,A7⟩:=r;simp only at E;simp at A N;simp[f251,T,U,V,Y,Z];rw[ag];simp[f251,au,A];rw[ag];simp[f251,au,N,E,lq]
theorem ail{op line:Int}{y z:Ex}(A1:8<=op/\op<=21)(H:KV p y)(A4:RI p y)(A8:KV p z)(AD:RI p z):KV p (.mk op 0 [] [] [y,z] line):=by
 intro C f M;have T:¬op=1:=by omega
 have U:¬op=2:=by omega
 have V:¬op=3:=by omega
 have Y:¬op=4:=by omega
 have Z:¬op=5:=by omega
 have A:=H C f M;have q:=A8 C f M;rw[OZ _ _ _ _ _ (by omega),ue (by simp)];cases D:bV p.vars C y with
 |f e=>
  rw[D]at A;simp at A;simp[f251,T,U,V,Y,Z];rw[ag];simp[f251,au,A]
 |v a t=>
  rw[D]at A;cases A9:bV p.vars C z with
  |f e=>
   rw[A9]at q;simp at A q;simp[f251,T,U,V,Y,Z];rw[ag];simp[f251,au,A];rw[ag];simp[f251,au,q]
  |v b t2=>
   rw[A9]at q;have N:=qN op a b t2 (A4 C a t M D) (AD C b t2 M A9);have A':IntKind.i64.wrap 1=1:=rfl;have A3:IntKind.i64.wrap 2=2:=rfl;by_cases E:(ik op a b t2).2.2=0
   ·simp only
    rw[alL E];generalize ik op a b t2=r at*;obtain⟨A5,A6,A7⟩:=r;simp only at E;subst E;simp at A q N;simp[f251,T,U,V,Y,Z];rw[ag];simp[f251,au,A,A'];rw[ag];simp[f251,au,q,A',A3];rw[ag];simp[f251,au,N,A',A3]
   ·simp only
    rw[aij E];generalize ik op a b t2=r at*;obtain⟨A5,A6,A7⟩:=r;simp only at E;simp at A q N;simp[f251,T,U,V,Y,Z];rw[ag];simp[f251,au,A,A'];rw[ag];simp[f251,au,q,A',A3];rw[ag];simp[f251,au,N,E,lq,A',A3]
theorem alM{x:Ex}(AE:XC p.vars x)(ih:∀y∈cV x,KV p y/\RI p y):KV p x:=by
 cases AE with
 |num h=>exact aib J I
 |ru h=>exact aic J I
 |var D AA A2=>exact aid J I D AA A2
 |@idx name line v y D AA A2 AB AC ty=>exact aif J I D AA A2 (ih y (by simp)).1
 |VP D A2 AF O=>exact aie J I D A2 AF
 |@one op line y A1 AB AC ty=>exact aik J I A1 (ih y (by simp)).1 (ih y (by simp)).2
 |@two op line y z A1 AB AC AJ AK ty AL=>exact ail J I A1 (ih y (by simp)).1 (ih y (by simp)).2 (ih z (by simp)).1 (ih z (by simp)).2
mutual
theorem Wa:∀x:Ex,bH x=true->cO x=true->(aL p.vars x).e=0->KV p x/\RI p x
 | .mk op n name field sub line,O,A0,he=>by
  have AG:=Bp O he;have AH:=(sV O).2;have AI:=(wT A0).2;have h:=O3 sub AH AI AG;exact⟨alM J I (Bt O he) h,alJ I (Bt O he) A0 (λy H=>(h y H).2)⟩
theorem O3:∀l:List Ex,bG l=true->cQ l=true->(∀y∈l,(aL p.vars y).e=0)->∀y∈l,KV p y/\RI p y
 |[],_,_,_,y,H=>absurd H (aed)
 |x::r,O,A0,he,y,H=>by
  simp only[bG,Ds]at O;simp only[cQ,Ds]at A0;rcases abV.1 H with E|H
  ·rw[E];exact Wa x O.1 A0.1 (he x (by simp))
  ·exact O3 r O.2 A0.2 (λz A8=>he z (by simp[A8])) y H
end
end
theorem jw{p:Pg}{x:Ex}(h:KV p x){C:List Int}{f:Nat}(M:eX p C):ah ctx 203 [.ptr 0 0 0,.d (.agg [.int .i64 (bO x),.int .i64 (fW x),.str (dS x),.str (eS x),.list ((cV x).map bL),.int .i64 (jq x)])] (jv p C f)=mnW p C f (bV p.vars C x):=by
 have A:=h C f M;rw[agb (by simp)];cases D:bV p.vars C x with
 |f e=>
  rw[D]at A;simp at A;simp[f203,A]
 |v n t=>
  rw[D]at A;simp at A;simp[f203,A]
def O4(p:Pg)(q:Rr)(v:Nat):cd:=
 match q with
 |(.ft e,s)=>some (.panic 103 (lq e),pS p s.cells s.fuel v)
 |(_,s)=>some (.ret (.bY []),pS p s.cells s.fuel v)
def O5(p:Pg)(q:Rr)(r:cd):Prop:=∃v,r=O4 p q v
def fE:Hw->Int
 | .lv=>1
 | .rt=>2
 |_=>0
def fF(p:Pg)(q:Rr)(v:Nat):cd:=
 match q with
 |(.ft e,s)=>some (.panic 103 (lq e),pS p s.cells s.fuel v)
 |(h,s)=>some (.ret (.d (.int .i64 (fE h))),pS p s.cells s.fuel v)
def lU(p:Pg)(q:Rr)(r:cd):Prop:=∃v,r=fF p q v
theorem eX.put{p:Pg}{C:List Int}(h:eX p C)(k:Int){n:Int}(A3:aI n):eX p (eI C k n):=by
 refine⟨by simpa using h.len,by simpa using h.le,λc A0=>?_⟩;unfold eI at A0;rcases List.mem_or_eq_of_mem_set A0 with A|A
 ·exact h.num c A
 ·rw[A];exact A3
section
variable {p:Pg} (M:p.vars.length<=1000) (N:∀w∈p.vars,dQ w=true)
include M N
theorem alN{name:Tx}{I Y:Int}{w:Vr}{val:Ex}(hw:bz p.vars name=some w)(T:w.arr=false)(A1:w.ty<=2)(Z:KV p val)(C:List Int)(f:Nat)(J:eX p C):
 O5 p (sl p.vars (.mk 3 0 name [] [] I) val ⟨C,f⟩) (ah ctx 143 [.ptr 0 0 0,.d (cK (.mk 1 [] (.mk 3 0 name [] [] I) val [] [] [] [] Y))] (jv p C f)):=by
 have A:=sX M hw C f;have D:=jw Z (f:=f) J;have U:=Kn M N hw T A1 J;obtain⟨a,V⟩:∃a:Nat,(dP p.vars name).1=a:=⟨(dP p.vars name).1.toNat,by omega⟩;rw[V]at A;have A':a<C.length:=by omega
 have e:sl p.vars (.mk 3 0 name [] [] I) val ⟨C,f⟩=vR (bV p.vars C val) ⟨C,f⟩ (λn=>(.on,⟨eI C a n,f⟩)):=by simp[sl,V]
 rw[e,Vw (by simp)];cases O:bV p.vars C val with
 |f e=>
  rw[O]at D;simp[bx,dK]at A D;simp[f143,cG,au,A,D,aj];exact⟨_,rfl⟩
 |v n t=>
  rw[O]at D;simp[bx,dK]at A D;simp[f143,cG,au,A,D,A',aj];refine⟨0,?_⟩;simp[vR,O4,eI,List.map_set]
theorem alO{name:Tx}{I Y:Int}{w:Vr}{y val:Ex}(hw:bz p.vars name=some w)(T:w.arr=true)(A1:w.ty<=2)(A4:KV p y)(Z:KV p val)(C:List Int)(f:Nat)(J:eX p C):
 O5 p (sl p.vars (.mk 4 0 name [] [y] I) val ⟨C,f⟩) (ah ctx 143 [.ptr 0 0 0,.d (cK (.mk 1 [] (.mk 4 0 name [] [y] I) val [] [] [] [] Y))] (jv p C f)):=by
 have A:=sX M hw C f;have hle:=EW M N hw J;have A5:=ab6 M N hw T;have E:=jw A4 (f:=f) J;have D:=jw Z (f:=f) J;have H:=λn=>Hb (a:=(dP p.vars name).1) (n:=n) (w:=w) ⟨hle.1,by omega⟩ A5;have e:sl p.vars (.mk 4 0 name [] [y] I) val ⟨C,f⟩=vR (bV p.vars C y) ⟨C,f⟩ (λk=>vR (bV p.vars C val) ⟨C,f⟩ λn=>Ka C f (dP p.vars name).1 w k n):=by simp[sl,AH,ou hw]
 rw[e,Vw (by simp)];clear e;cases O:bV p.vars C y with
 |f e=>
  rw[O]at E;simp[bx,dK]at A E;simp[f143,cG,au,A,E,aj];exact⟨_,rfl⟩
 |v k t=>
  rw[O]at E;cases A2:bV p.vars C val with
  |f e=>
   rw[A2]at D;simp[bx,dK]at A E D;simp[f143,cG,au,A,E,D,aj];exact⟨_,rfl⟩
  |v n t=>
   rw[A2]at D;have H:=H k;simp only[vR,Ka];by_cases U:k<w.lo\/w.hi<k
   ·rw[abT U]at H⊢;simp[bx,dK]at A E D H;simp[f143,cG,au,A,E,D,H,aj];exact⟨_,rfl⟩
   ·rw[abN U]at H⊢;have A6:=V3 (v:=C.length) N J.len hw T U;obtain⟨a,V⟩:∃a:Nat,(dP p.vars name).1+(k-w.lo)=a:=⟨((dP p.vars name).1+(k-w.lo)).toNat,by omega⟩;rw[V]at H A6⊢;have A':a<C.length:=by omega
    simp[bx,dK]at A E D H;simp[f143,cG,au,A,E,D,H,A',aj];refine⟨0,?_⟩;simp[O4,eI,List.map_set]
end
end Go.Am
end
section
namespace Go.Am
open Go Go.Proofs
variable [Inhabited bI]
def bK(p:Pg)(F:Mc->Rr):Prop:=∀s,eX p s.cells->eX p (F s).2.cells/\(F s).2.fuel<=s.fuel
theorem bK.gk{p:Pg}{F:Mc->Rr}(h:bK p F):bK p (gk F):=λs A=>by
 unfold Am.gk;split
 ·exact⟨A,abO _⟩
 ·have:=h ⟨s.cells,s.fuel-1⟩ A;simp only at this;exact⟨this.1,by omega⟩
theorem bK.bR{p:Pg}{F G:Mc->Rr}(h:bK p F)(N:bK p G):bK p (λs=>bR (F s) G):=λs A=>by
 have a:=h s A;show eX p (Am.bR (F s) G).2.cells/\(Am.bR (F s) G).2.fuel<=s.fuel;generalize F s=q at*;obtain⟨w,t⟩:=q;cases w with
 |on=>
  have b:=N t a.1;exact⟨b.1,ahI b.2 a.2⟩
 |lv=>exact a
 |rt=>exact a
 |ft e=>exact a
theorem bK.vR{p:Pg}{v:List Int->Vl}{G:Int->Mc->Rr}(h:∀C n t,eX p C->v C=.v n t->aI n)(N:∀n,aI n->bK p (G n)):bK p (λs=>vR (v s.cells) s λn=>G n s):=λs A=>by
 show eX p (Am.vR (v s.cells) s λn=>G n s).2.cells/\(Am.vR (v s.cells) s λn=>G n s).2.fuel<=s.fuel;cases M:v s.cells with
 |f e=>exact⟨A,abO _⟩
 |v n t=>exact N n (h s.cells n t A M) s A
theorem bK.id{p:Pg}(w:Hw):bK p (λs=>(w,s)):=λ_ A=>⟨A,abO _⟩
theorem bK.put{p:Pg}{k n:Int}(D:aI n){F:Mc->Rr}(A':bK p F):bK p (λs=>F ⟨eI s.cells k n,s.fuel⟩):=λs A=>A' ⟨eI s.cells k n,s.fuel⟩ (A.put k D)
theorem bK.left{p:Pg}{F:Mc->Rr}(h:bK p F):bK p (λs=>iG (F s)):=λs A=>by
 have:=h s A;show eX p (iG (F s)).2.cells/\(iG (F s)).2.fuel<=s.fuel;unfold iG;split<;>exact this
theorem O6{p:Pg}{c:List Int->Vl}{b:Mc->Rr}(h:∀C n t,eX p C->c C=.v n t->aI n)(H:bK p b):∀m,bK p (AI c b m)
 |0=>bK.id _
 |m+1=>by
  have e:AI c b (m+1)=gk λs=>vR (c s.cells) s λk=>if k=0 then (.on,s)else bR (b s) λO=>AI c b m O:=by funext s;rfl
  rw[e];refine bK.gk (bK.vR (G:=λk s=>if k=0 then (.on,s)else Am.bR (b s) λO=>AI c b m O) h λn _=>?_);by_cases D:n=0
  ·simp only[D,aes];exact bK.id _
  ·simp only[D,ad0];exact bK.bR H (O6 h H m)
theorem O7{p:Pg}{c:List Int->Vl}{b:Mc->Rr}(h:∀C n t,eX p C->c C=.v n t->aI n)(H:bK p b):∀m,bK p (AJ c b m)
 |0=>bK.id _
 |m+1=>by
  have e:AJ c b (m+1)=λs=>bR (b s) (gk λs=>vR (c s.cells) s λk=>if k=0 then AJ c b m s else (.on,s)):=by funext s;rfl
  rw[e];refine bK.bR H (bK.gk (bK.vR (G:=λk s=>if k=0 then AJ c b m s else (.on,s)) h λn _=>?_));by_cases D:n=0
  ·simp only[D,aes];exact O7 h H m
  ·simp only[D,ad0];exact bK.id _
theorem O8{p:Pg}{at_ to I:Int}(V:aI I){b:Mc->Rr}(H:bK p b):∀m,bK p (B5 at_ to I b m)
 |0=>bK.id _
 |m+1=>by
  have e:B5 at_ to I b (m+1)=gk λs=>if VX (jZ s.cells at_) to I=true then (.on,s)else bR (b s) λs=>vR (py 8 [jZ s.cells at_,I] false) s λn=>B5 at_ to I b m ⟨eI s.cells at_ n,s.fuel⟩:=by funext s;rfl
  rw[e];refine bK.gk λs A=>?_;have N:=bK.bR H (bK.vR (p:=p) (v:=λC=>py 8 [jZ C at_,I] false) (G:=λn s=>B5 at_ to I b m ⟨eI s.cells at_ n,s.fuel⟩) (λC n t T M=>SB (by simp[V,sY T.num]) M) λn D=>bK.put D (O8 V H m)) s A;split
  ·exact⟨A,abO _⟩
  ·exact N
section
variable {p:Pg}
theorem adb{to val:Ex}(U:RI p val):bK p (sl p.vars to val):=by
 intro s A;unfold sl;split
 ·exact bK.vR (p:=p) (v:=λC=>bV p.vars C val) (G:=λn s=>(.on,⟨eI s.cells (dP p.vars (dS to)).1 n,s.fuel⟩)) (λC n t T M=>U C n t T M) (λn D=>bK.put D (bK.id _)) s A
 ·cases A6:AH p.vars s.cells (cV to)with
  |f e=>exact⟨A,abO _⟩
  |v k t=>
   simp only[vR];cases M:bV p.vars s.cells val with
   |f e=>exact⟨A,abO _⟩
   |v n t=>
    simp only[Ka];split
    ·exact⟨A,abO _⟩
    ·exact⟨A.put _ (U _ _ _ A M),abO _⟩
theorem Pa{name:Tx}:∀(E:List Tx)(xs:List Ex),(∀x∈xs,RI p x)->bK p (ki p.vars name E xs)
 |[],xs,_=>by
  have e:ki p.vars name [] xs=λs=>(.on,s):=by funext s;unfold ki;rfl
  rw[e];exact bK.id _
 |_::_,[],_=>by
  have e:∀f E,ki p.vars name (f::E) []=λs=>(.on,s):=by intro f E;funext s;unfold ki;rfl
  rw[e];exact bK.id _
 |f::E,x::xs,h=>by
  have e:ki p.vars name (f::E) (x::xs)=λs=>vR (bV p.vars s.cells x) s λn=>ki p.vars name E xs ⟨eI s.cells (lK p.vars name f).1 n,s.fuel⟩:=by funext s;rw[ki]
  rw[e];exact bK.vR (v:=λC=>bV p.vars C x) (G:=λn s=>ki p.vars name E xs ⟨eI s.cells (lK p.vars name f).1 n,s.fuel⟩) (λC n t T M=>h x (by simp) C n t T M) λn D=>bK.put D (Pa E xs λy Y=>h y (by simp[Y]))
theorem eX.dw{C:List Int}(h:eX p C)(a k:Int)(A7:a.toNat+(bC k).length<=C.length):eX p (vP C a k):=by
 have Z:(vP C a k).length=C.length:=by
  unfold vP;simp only[acg,GU,ae3,aeo];omega
 refine⟨by rw[Z];exact h.len,by rw[Z];exact h.le,λc J=>?_⟩;unfold vP at J;rcases ab3.1 J with J|J
 ·rcases ab3.1 J with J|J
  ·exact h.num c (adV J)
  ·exact ada _ _ (λn D=>h.num n (adM (adV D))) c J
 ·exact h.num c (adM J)
theorem Wb{name:Tx}{w:Vr}(hw:bz p.vars name=some w)(A0:∀C,eX p C->(dP p.vars name).1.toNat+(bC w.ty).length<=C.length){E:List Tx}{xs:List Ex}(h:∀x∈xs,RI p x):bK p (og p.vars name E xs):=by
 have e:og p.vars name E xs=λs=>bR (ki p.vars name E xs s) λO=>(.on,⟨vP O.cells (dP p.vars name).1 (dP p.vars name).2.ty,O.fuel⟩):=by funext s;rfl
 rw[e];refine bK.bR (Pa E xs h) λs A=>⟨?_,abO _⟩;rw[ou hw];exact A.dw _ _ (A0 _ A)
theorem YO{name:Tx}{x y z:Ex}(A1:RI p x)(Y:RI p y)(A2:RI p z){b:Mc->Rr}(H:bK p b):bK p (CZ p.vars name [x,y,z] b):=by
 have e:CZ p.vars name [x,y,z] b=λs=>vR (bV p.vars s.cells x) s λfrom_=>vR (bV p.vars s.cells y) s λA3=>vR (bV p.vars s.cells z) s λI=>B5 (dP p.vars name).1 A3 I b (s.fuel+1) ⟨eI s.cells (dP p.vars name).1 from_,s.fuel⟩:=by funext s;rfl
 rw[e];intro s A;simp only
 cases U:bV p.vars s.cells x with
 |f e=>exact⟨A,abO _⟩
 |v A4 t=>
  simp only[vR];cases N:bV p.vars s.cells y with
  |f e=>exact⟨A,abO _⟩
  |v A8 t=>
   simp only
   cases A5:bV p.vars s.cells z with
   |f e=>exact⟨A,abO _⟩
   |v A9 t=>exact O8 (A2 _ _ _ A A5) H _ ⟨eI s.cells (dP p.vars name).1 A4,s.fuel⟩ (A.put _ (A1 _ _ _ A U))
end
end Go.Am
end
section
namespace Go.Am
open Go Go.Proofs Go.Proofs.Tryz
variable [Inhabited bI]
set_option maxRecDepth 20000
set_option maxHeartbeats 1000000
@[simp] def lu(p:Pg)(C:List Int)(f v:Nat):List cB:=[⟨0,0,rnB p C f v⟩,⟨1,0,.vec 1 (p.vars.map ES)⟩,⟨2,v,.vec 1 (C.map jD)⟩]
def MK(p:Pg)(x:Sm):Prop:=∀(C:List Int)(f:Nat),eX p C->f<=100000->lU p (ju p.vars x ⟨C,f⟩) (ah ctx 91 [.ptr 0 0 0,.d (cK x)] (jv p C f))
def BK(p:Pg)(b:List Sm):Prop:=∀(C:List Int)(f:Nat),eX p C->f<=100000->lU p (cD p.vars b ⟨C,f⟩) (ah ctx 56 [.ptr 0 0 0,.d (.list (b.map cK))] (jv p C f))
theorem Bv{p:Pg}:∀(l:List Sm),(∀x∈l,bK p (ju p.vars x))->bK p (cD p.vars l)
 |[],_=>by
  have e:cD p.vars []=λs=>(.on,s):=by funext s;simp[cD]
  rw[e];exact bK.id _
 |x::r,h=>by
  have e:cD p.vars (x::r)=λs=>bR (ju p.vars x s) λA1=>cD p.vars r A1:=by funext s;rw[cD]
  rw[e];exact bK.bR (h x (by simp)) (Bv r λy A2=>h y (by simp[A2]))
theorem Pb{p:Pg}(l:List Sm)(A3:l.length<100000000)(k:Kt)(Q:Rr->cd->Prop)
 (M:∀(Y:Env) C f v v6 X6,Q (.on,⟨C,f⟩) (k (.exit 0) ⟨21,aC,(0,true,.ptr 0 0 0)::Y,lu p C f v++[⟨400,v6,X6⟩]⟩))
 (A:∀(h:Hw) C f v v6 X6,(h=.lv\/h=.rt)->Q (h,⟨C,f⟩) (k .ret ⟨21,aC,[(4,true,.d (.int .i64 (fE h)))],lu p C f v++[⟨400,v6,X6⟩]⟩))
 (E:∀e (Y:Env) C f v v6 X6,Q (.ft e,⟨C,f⟩) (k (.panic 103 (lq e)) ⟨21,aC,Y,lu p C f v++[⟨400,v6,X6⟩]⟩)):
 ∀(A4 pre:List Sm)(C:List Int)(f v v6:Nat)(X6:ay),l=pre++A4->(∀x∈A4,MK p x/\bK p (ju p.vars x))->eX p C->f<=100000->
 Q (cD p.vars A4 ⟨C,f⟩) (aN ctx 56 (.loop (Code.at (bq f56) [1,0,1,0,0])) ⟨21,aC,[(0,true,.ptr 0 0 0),(8,true,.d (.list (l.map cK))),(9,true,.d (.int .i64 l.length)),(10,true,.d (.int .i64 pre.length))],lu p C f v++[⟨400,v6,X6⟩]⟩ k)
 |[],pre,C,f,v,v6,X6,N,I,H,J=>by
  have e:cD p.vars [] ⟨C,f⟩=(.on,⟨C,f⟩):=by simp[cD]
  rw[e];have A6:pre.length=l.length:=by rw[N];simp
  have:=M [(8,true,.d (.list (l.map cK))),(9,true,.d (.int .i64 l.length)),(10,true,.d (.int .i64 l.length)),(11,true,.d (.bool false))] C f v v6 X6;simp at this;rw[A6,ag];simp[f56,this]
 |x::r,pre,C,f,v,v6,X6,N,I,H,J=>by
  obtain⟨D,T⟩:=I x (by simp);obtain⟨A7,D⟩:=D C f H J;have T:=T ⟨C,f⟩ H;have e:cD p.vars (x::r) ⟨C,f⟩=bR (ju p.vars x ⟨C,f⟩) λA1=>cD p.vars r A1:=by rw[cD]
  rw[e];clear e;have ih:=λC f v v6 X6 H J=>Pb l A3 k Q M A E r (pre++[x]) C f v v6 X6 (by simp[N]) (λy A2=>I y (by simp[A2])) H J;clear I M;have U:pre.length<l.length:=by rw[N];simp
  have V:l[pre.length]=x:=by simp[N]
  have Z:IntKind.i64.wrap ((pre.length:Int)+1)=(pre.length:Int)+1:=aH (by unfold aI;omega);generalize ju p.vars x ⟨C,f⟩=q at*;obtain⟨h,A',A0⟩:=q;simp only at T;rw[ag];cases h with
  |on=>
   have ih:=ih A' A0;simp[fF,fE,cG]at D;simp only[bR];simp[f56]at ih⊢;simp[U,V,cG,D,Z];exact ih _ _ _ T.1 (by omega)
  |lv=>
   have A:=A .lv A' A0;simp[fF,fE,cG]at D A;simp only[bR];simp[f56,U,V,cG,D,Z,A]
  |rt=>
   have A:=A .rt A' A0;simp[fF,fE,cG]at D A;simp only[bR];simp[f56,U,V,cG,D,Z,A]
  |ft e=>
   have E:=λY=>E e Y A' A0;simp[fF,cG]at D E;simp only[bR];simp[f56,U,V,cG,D,Z,E]
theorem SC{p:Pg}(l:List Sm)(A3:l.length<100000000)(I:∀x∈l,MK p x/\bK p (ju p.vars x)):BK p l:=by
 intro C f H J;have A5:=λ(k:Kt) (Q:Rr->cd->Prop) M A E v6 X6=>Pb l A3 k Q M A E l [] C f 0 v6 X6 rfl I H J;rw[ak9 (by simp)];generalize cD p.vars l ⟨C,f⟩=q at*;simp[f56]at A5⊢;refine A5 _ (λX r=>X=q->lU p q r) (λY C f v v6 X6 O=>?_) (λh C f v v6 X6 hh O=>?_) (λe Y C f v v6 X6 O=>?_) _ _ rfl
 ·subst O;simp[f56];exact⟨_,rfl⟩
 ·subst O;rcases hh with rfl|rfl
  ·simp;exact⟨_,rfl⟩
  ·simp;exact⟨_,rfl⟩
 ·subst O;simp;exact⟨_,rfl⟩
theorem bP(b:List Sm):lS b=.list (b.map cK):=rfl
theorem Pc{p:Pg}{x:Sm}{n:Nat}(M:n<100000000)(N:∀b∈aQ x,BK p b)(C:List Int)(f:Nat)(H:eX p C)(O:f<=100000):
 lU p (ll p.vars ((aQ x).drop n) ⟨C,f⟩) (ah ctx 205 [.ptr 0 0 0,.d (cK x),.d (.int .i64 n)] (jv p C f)):=by
 rw[agd (by simp)];by_cases h:n<(aQ x).length
 ·have A7:(aQ x).drop n=(aQ x)[n]::(aQ x).drop (n+1):=aeN h;obtain⟨v,A⟩:=N (aQ x)[n] (aep h) C f H O;rw[A7];have e:ll p.vars ((aQ x)[n]::(aQ x).drop (n+1)) ⟨C,f⟩=cD p.vars (aQ x)[n] ⟨C,f⟩:=by rw[ll]
  rw[e];clear e;generalize cD p.vars (aQ x)[n] ⟨C,f⟩=q at*;obtain⟨w,T,U⟩:=q;cases w<;>simp[fF,fE]at A<;>simp[f205,cG,h,bP,A]<;>exact⟨_,rfl⟩
 ·have A7:(aQ x).drop n=[]:=List.drop_eq_nil_of_le (by omega);rw[A7];have e:ll p.vars [] ⟨C,f⟩=(.on,⟨C,f⟩):=by rw[ll]
  rw[e];simp[f205,cG,h];exact⟨_,rfl⟩
theorem Pd{p:Pg}{x:Sm}(A4:(bJ x).length<100000000)(A5:∀c∈bJ x,KV p c)(N:∀b∈aQ x,BK p b)(C:List Int)(f:Nat)(H:eX p C)(O:f<=100000)(k:Kt)(Q:Rr->cd->Prop)
 (A1:∀(Y:Env) v6 X6,Q (ll p.vars ((aQ x).drop (bJ x).length) ⟨C,f⟩) (k (.exit 0) ⟨33,aC,(0,true,.ptr 0 0 0)::(3,true,.ptr 250 1 0)::Y,lu p C f 0++[⟨250,1,bm x⟩,⟨400,v6,X6⟩]⟩))
 (D:∀(h:Hw) C f v v6 X6,(∀e,h≠.ft e)->Q (h,⟨C,f⟩) (k .ret ⟨33,aC,[(4,true,.d (.int .i64 (fE h)))],lu p C f v++[⟨250,1,bm x⟩,⟨400,v6,X6⟩]⟩))
 (E:∀e (Y:Env) C f v v6 X6,Q (.ft e,⟨C,f⟩) (k (.panic 103 (lq e)) ⟨33,aC,Y,lu p C f v++[⟨250,1,bm x⟩,⟨400,v6,X6⟩]⟩)):
 ∀(cs pre:List Ex)(I:List (List Sm))(v6:Nat)(X6:ay),bJ x=pre++cs->I=(aQ x).drop pre.length->cs.length<=I.length->
 Q (iJ p.vars I cs ⟨C,f⟩) (aN ctx 144 (.loop (Code.at (bq f144) [1,0,1,0,0])) ⟨33,aC,[(0,true,.ptr 0 0 0),(3,true,.ptr 250 1 0),(8,true,.d (.list ((bJ x).map bL))),(9,true,.d (.int .i64 (bJ x).length)),(10,true,.d (.int .i64 pre.length))],lu p C f 0++[⟨250,1,bm x⟩,⟨400,v6,X6⟩]⟩ k)
 |[],pre,I,v6,X6,V,A6,A2=>by
  have A8:(bJ x).length=pre.length:=by rw[V];simp
  have e:iJ p.vars I [] ⟨C,f⟩=ll p.vars ((aQ x).drop (bJ x).length) ⟨C,f⟩:=by
   rw[A6,A8];cases (aQ x).drop pre.length with
   |nil=>rw[iJ,ll]
   |cons b r=>rw[iJ,ll]
  rw[e];have:=A1 [(8,true,.d (.list ((bJ x).map bL))),(9,true,.d (.int .i64 (bJ x).length)),(10,true,.d (.int .i64 (bJ x).length)),(11,true,.d (.bool false))] v6 X6;rw[<-A8,ag];simp at this;simp[f144,this]
 |c::cs,pre,I,v6,X6,V,A6,A2=>by
  have Z:pre.length<(aQ x).length:=by
   rw[A6,aeo]at A2;simp only[ach]at A2;omega
  have A9:I=(aQ x)[pre.length]::(aQ x).drop (pre++[c]).length:=by
   rw[A6,aeN Z];simp
  have e:iJ p.vars I (c::cs) ⟨C,f⟩=vR (bV p.vars C c) ⟨C,f⟩ λn=>if n=0 then iJ p.vars ((aQ x).drop (pre++[c]).length) cs ⟨C,f⟩else cD p.vars (aQ x)[pre.length] ⟨C,f⟩:=by
   rw[A9,iJ]
  have ih:=λv6 X6=>Pd A4 A5 N C f H O k Q A1 D E cs (pre++[c]) ((aQ x).drop (pre++[c]).length) v6 X6 (by simp[V]) rfl (by
   rw[A9]at A2;simp only[ach]at A2;omega)
  rw[e];clear e A1;have AD:=A5 c (by rw[V];simp);have A:=jw AD (f:=f) H;have y:pre.length<(bJ x).length:=by rw[V];simp
  have A':(bJ x)[pre.length]=c:=by simp[V]
  have A0:IntKind.i64.wrap ((pre.length:Int)+1)=(pre.length:Int)+1:=aH (by unfold aI;omega);generalize iJ p.vars ((aQ x).drop (pre++[c]).length) cs ⟨C,f⟩=AH at*;rw[ag];cases AA:bV p.vars C c with
  |f e=>
   rw[AA]at A;have E:=λY=>E e Y C f 0;simp at A E;simp only[vR];simp[f144,y,A',au,A,A0,E]
  |v n t=>
   rw[AA]at A;simp only[vR];by_cases M:n=0
   ·subst M;simp at A;simp[f144]at ih⊢;simp[y,A',au,A,A0,ih]
   ·rw[abN M];obtain⟨AE,J⟩:=N (aQ x)[pre.length] (aep Z) C f H O;clear ih;generalize cD p.vars (aQ x)[pre.length] ⟨C,f⟩=q at*;obtain⟨h,T,U⟩:=q;cases h with
    |ft e=>
     have E:=λY=>E e Y T U;simp[fF]at A E J;simp[f144,Z,y,A',au,bP,A,M,J,A0,E]
    |on=>
     have D:=D .on T U;simp[fF,fE]at A D J;simp[f144,Z,y,A',au,bP,A,M,J,A0,D]
    |lv=>
     have D:=D .lv T U;simp[fF,fE]at A D J;simp[f144,Z,y,A',au,bP,A,M,J,A0,D]
    |rt=>
     have D:=D .rt T U;simp[fF,fE]at A D J;simp[f144,Z,y,A',au,bP,A,M,J,A0,D]
theorem Wc{p:Pg}{x:Sm}(A4:(bJ x).length<100000000)(A5:∀c∈bJ x,KV p c)(N:∀b∈aQ x,BK p b)(AF:(bJ x).length<=(aQ x).length)(C:List Int)(f:Nat)(H:eX p C)(O:f<=100000):
 lU p (iJ p.vars (aQ x) (bJ x) ⟨C,f⟩) (ah ctx 144 [.ptr 0 0 0,.d (cK x)] (jv p C f)):=by
 have AB:=λ(k:Kt) (Q:Rr->cd->Prop) A1 D E v6 X6=>Pd A4 A5 N C f H O k Q A1 D E (bJ x) [] (aQ x) v6 X6 rfl rfl AF;obtain⟨AE,AC⟩:=Pc (n:=(bJ x).length) A4 N C f H O;rw[afR (by simp)];generalize iJ p.vars (aQ x) (bJ x) ⟨C,f⟩=q at*;generalize ll p.vars ((aQ x).drop (bJ x).length) ⟨C,f⟩=AG at*;simp[f144,cG]at AB⊢;refine AB _ (λX r=>X=q->lU p q r) (λY v6 X6 A3=>?_) (λh C f v v6 X6 hh A3=>?_) (λe Y C f v v6 X6 A3=>?_) _ _ rfl
 ·subst A3;obtain⟨h,T,U⟩:=AG;cases h<;>simp[fF,fE,cG]at AC<;>simp[f144,AC]<;>exact⟨_,rfl⟩
 ·subst A3;cases h with
  |ft e=>exact absurd rfl (hh e)
  |on=>simp;exact⟨_,rfl⟩
  |lv=>simp;exact⟨_,rfl⟩
  |rt=>simp;exact⟨_,rfl⟩
 ·subst A3;simp;exact⟨_,rfl⟩
section
variable {p:Pg} {x:Sm} {b:List Sm} (A1:KV p (dc x)) (I:aQ x=[b]) (A2:BK p b) (A3:bK p (λs=>cD p.vars b s)) (k:Kt) (Q:Rr->cd->Prop)
 (D:∀(h:Hw) C f v,(∀e,h≠.ft e)->Q (h,⟨C,f⟩) (k .ret ⟨35,aC,[(4,true,.d (.int .i64 (fE h)))],lu p C f v++[⟨250,1,bm x⟩]⟩))
 (E:∀e (Y:Env) C f v,Q (.ft e,⟨C,f⟩) (k (.panic 103 (lq e)) ⟨35,aC,Y,lu p C f v++[⟨250,1,bm x⟩]⟩))
include A1 I A2 A3 D E
theorem Pe(A:bj x=5):∀(m:Nat)(Y:Env)(C:List Int)(f v:Nat),(Y=[]\/Y=[(27,true,.d (.bool false))])->f<m->eX p C->f<=100000->
 Q (AI (λC=>bV p.vars C (dc x)) (λs=>cD p.vars b s) m ⟨C,f⟩) (aN ctx 148 (.loop (Code.at (bq f148) [1,0,0])) ⟨35,aC,(0,true,.ptr 0 0 0)::(3,true,.ptr 250 1 0)::Y,lu p C f v++[⟨250,1,bm x⟩]⟩ k)
 |0,Y,C,f,v,A4,h,T,y=>by omega
 |m+1,Y,C,f,v,A4,h,T,y=>by
  rcases A4 with rfl|rfl;all_goals
   have H:=lZ (p:=p) C f (by omega);rw[AI,gk];rw[ag];by_cases V:f=0
   ·rw[abT V]at H;subst V;have E:=λY=>E 4 Y C 0;simp[A]at H E;simp[f148,A,H,E]
   ·rw[abN V]at H;rw[abN V];have J:=jw A1 (f:=f-1) T;simp only
    cases A5:bV p.vars C (dc x)with
    |f e=>
     rw[A5]at J;have E:=λY=>E e Y C (f-1);simp[A]at H J E;simp only[vR];simp[f148,A,H,J,E]
    |v n t=>
     rw[A5]at J;simp only[vR];by_cases U:n=0
     ·subst U;have D:=D .on C (f-1);simp[fE,A]at H J D;simp[f148,A,H,J,D]
     ·rw[abN U];obtain⟨A7,M⟩:=A2 C (f-1) T (by omega);have Z:=A3 ⟨C,f-1⟩ T;simp only at Z;have ih:=Pe A m;generalize cD p.vars b ⟨C,f-1⟩=q at*;obtain⟨w,N,O⟩:=q;simp only at Z;cases w with
      |ft e=>
       have E:=λY=>E e Y N O;simp[I,bP,fF,A]at H J M E;simp only[bR];simp[f148,A,H,J,U,I,bP,M,E]
      |lv=>
       have D:=D .lv N O;simp[I,bP,fF,fE,A]at H J M D;simp only[bR];simp[f148,A,H,J,U,I,bP,M,D]
      |rt=>
       have D:=D .rt N O;simp[I,bP,fF,fE,A]at H J M D;simp only[bR];simp[f148,A,H,J,U,I,bP,M,D]
      |on=>
       have ih:=λv=>ih [(27,true,.d (.bool false))] N O v (.inr rfl) (by omega) Z.1 (by omega);simp[I,bP,fF,fE,A]at H J M;simp only[bR];simp[f148,A]at ih⊢;simp[H,J,U,I,bP,M]at ih⊢;exact ih _
theorem Pf(A:bj x=6):∀(m:Nat)(Y:Env)(C:List Int)(f v:Nat),(Y=[]\/Y=[(34,true,.d (.bool false))])->f<m->eX p C->f<=100000->
 Q (AJ (λC=>bV p.vars C (dc x)) (λs=>cD p.vars b s) m ⟨C,f⟩) (aN ctx 148 (.loop (Code.at (bq f148) [1,0,0])) ⟨35,aC,(0,true,.ptr 0 0 0)::(3,true,.ptr 250 1 0)::Y,lu p C f v++[⟨250,1,bm x⟩]⟩ k)
 |0,Y,C,f,v,A4,h,T,y=>by omega
 |m+1,Y,C,f,v,A4,h,T,y=>by
  rcases A4 with rfl|rfl;all_goals
   rw[AJ,ag];obtain⟨A7,M⟩:=A2 C f T y;have Z:=A3 ⟨C,f⟩ T;simp only at Z;have ih:=Pf A m;generalize cD p.vars b ⟨C,f⟩=q at*;obtain⟨w,N,O⟩:=q;simp only at Z;cases w with
   |ft e=>
    have E:=λY=>E e Y N O;simp[I,bP,fF,A]at M E;simp only[bR];simp[f148,A,I,bP,M,E]
   |lv=>
    have D:=D .lv N O;simp[I,bP,fF,fE,A]at M D;simp only[bR];simp[f148,A,I,bP,M,D]
   |rt=>
    have D:=D .rt N O;simp[I,bP,fF,fE,A]at M D;simp only[bR];simp[f148,A,I,bP,M,D]
   |on=>
    simp only[bR,gk];have H:=lZ (p:=p) N O (by omega);by_cases V:O=0
    ·rw[abT V]at H;subst V;have E:=λY=>E 4 Y N 0;simp[I,bP,fF,fE,A]at M H E;simp[f148,A,I,bP,M,H,E]
    ·rw[abN V]at H;rw[abN V];have J:=jw A1 (f:=O-1) Z.1;cases A5:bV p.vars N (dc x)with
     |f e=>
      rw[A5]at J;have E:=λY=>E e Y N (O-1);simp[I,bP,fF,fE,A]at M H J E;simp only[vR];simp[f148,A,I,bP,M,H,J,E]
     |v n t=>
      rw[A5]at J;simp only[vR];by_cases U:n=0
      ·subst U;have ih:=λv=>ih [(34,true,.d (.bool false))] N (O-1) v (.inr rfl) (by omega) Z.1 (by omega);simp[I,bP,fF,fE,A]at M H J;simp[f148,A]at ih⊢;simp[I,bP,M,H,J]at ih⊢;exact ih _
      ·rw[abN U];have D:=D .on N (O-1);simp[I,bP,fF,fE,A]at M H J D;simp[f148,A,I,bP,M,H,J,U,D]
end
theorem Ph{p:Pg}{x:Sm}{b:List Sm}(A1:KV p (dc x))(I:aQ x=[b])(A2:BK p b)(A3:bK p (λs=>cD p.vars b s))(A:bj x=5\/bj x=6)(C:List Int)(f:Nat)(T:eX p C)(y:f<=100000):
 lU p (if bj x=5 then AI (λC=>bV p.vars C (dc x)) (λs=>cD p.vars b s) (f+1) ⟨C,f⟩else AJ (λC=>bV p.vars C (dc x)) (λs=>cD p.vars b s) (f+1) ⟨C,f⟩) (ah ctx 148 [.ptr 0 0 0,.d (cK x)] (jv p C f)):=by
 have A':=λ(k:Kt) (Q:Rr->cd->Prop) D E=>Pe A1 I A2 A3 k Q D E;have A6:=λ(k:Kt) (Q:Rr->cd->Prop) D E=>Pf A1 I A2 A3 k Q D E;rw[afV (by simp)];rcases A with A|A
 ·have A':=λk Q D E=>A' k Q D E A (f+1) [] C f 0 (.inl rfl) (by omega) T y;rw[abT A];generalize AI (λC=>bV p.vars C (dc x)) (λs=>cD p.vars b s) (f+1) ⟨C,f⟩=q at*;clear A6;simp[f148,cG]at A'⊢;refine A' _ (λX r=>X=q->lU p q r) (λh C f v hh A0=>?_) (λe Y C f v A0=>?_) rfl
  ·subst A0;cases h with
   |ft e=>exact absurd rfl (hh e)
   |on=>simp;exact⟨_,rfl⟩
   |lv=>simp;exact⟨_,rfl⟩
   |rt=>simp;exact⟨_,rfl⟩
  ·subst A0;simp;exact⟨_,rfl⟩
 ·have A':=λk Q D E=>A6 k Q D E A (f+1) [] C f 0 (.inl rfl) (by omega) T y;rw[abN (by omega)];generalize AJ (λC=>bV p.vars C (dc x)) (λs=>cD p.vars b s) (f+1) ⟨C,f⟩=q at*;clear A6;simp[f148,cG]at A'⊢;refine A' _ (λX r=>X=q->lU p q r) (λh C f v hh A0=>?_) (λe Y C f v A0=>?_) rfl
  ·subst A0;cases h with
   |ft e=>exact absurd rfl (hh e)
   |on=>simp;exact⟨_,rfl⟩
   |lv=>simp;exact⟨_,rfl⟩
   |rt=>simp;exact⟨_,rfl⟩
  ·subst A0;simp;exact⟨_,rfl⟩
end Go.Am
end
section
namespace Go.Am
open Go Go.Proofs Go.Proofs.Tryz
variable [Inhabited bI]
set_option maxRecDepth 20000
set_option maxHeartbeats 1600000
section
variable {p:Pg} {x:Sm} {b:List Sm} {w:Vr} (D:aQ x=[b]) (AG:BK p b) (AH:bK p (λs=>cD p.vars b s)) (k:Kt) (Q:Rr->cd->Prop)
 (I:∀(h:Hw) C f v,(∀e,h≠.ft e)->Q (h,⟨C,f⟩) (k .ret ⟨111,aC,[(4,true,.d (.int .i64 (fE h)))],lu p C f v++[⟨250,1,bm x⟩,⟨400,1,ja w⟩]⟩))
 (J:∀e (Y:Env) C f v,Q (.ft e,⟨C,f⟩) (k (.panic 103 (lq e)) ⟨111,aC,Y,lu p C f v++[⟨250,1,bm x⟩,⟨400,1,ja w⟩]⟩))
include D AG AH I J
theorem Pj{a:Nat}{to H:Int}(AL:aI H):∀(m:Nat)(C:List Int)(f v:Nat),f<m->eX p C->f<=100000->a<C.length->
 Q (B5 a to H (λs=>cD p.vars b s) m ⟨C,f⟩) (aN ctx 147 (.loop (Code.at (bq f147) [1,1,1,1,1,1,0,0])) ⟨111,aC,[(0,true,.ptr 0 0 0),(3,true,.ptr 250 1 0),(5,true,.d (.int .i64 a)),(8,true,.d (.int .i64 to)),(9,true,.d (.int .i64 H))],lu p C f v++[⟨250,1,bm x⟩,⟨400,1,ja w⟩]⟩ k)
 |0,C,f,v,h,O,AM,N=>by omega
 |m+1,C,f,v,h,O,AM,N=>by
  have E:=lZ (p:=p) C f (by omega);rw[B5,gk];rw[ag];by_cases AI:f=0
  ·rw[abT AI]at E;subst AI;have J:=λY=>J 4 Y C 0;simp at E J;simp[f147,E,J]
  ·rw[abN AI]at E;rw[abN AI];have AY:jZ C (a:Int)=C[a]:=by unfold jZ;simp[N]
   simp only[AY];cases hu:VX C[a] to H with
   |true=>
    rw[abT rfl];have I:=I .on C (f-1);simp[VX]at hu;simp[fE]at E I;rcases hu with ⟨A4,A5⟩|⟨A4,A5⟩
    ·simp[f147,E,N,A4,A5,I]
    ·have T:¬0<=H:=by omega
     simp[f147,E,N,A4,A5,T,I]
   |false=>
    rw[abN (by simp)];have Ad:¬((0<=H/\to<C[a])\/(H<0/\C[a]<to)):=by
     simpa [VX]using hu
    obtain⟨Ae,M⟩:=AG C (f-1) O (by omega);have U:=AH ⟨C,f-1⟩ O;simp only at U;have ih:=Pj (a:=a) (to:=to) AL m;generalize cD p.vars b ⟨C,f-1⟩=q at*;obtain⟨h,A,V⟩:=q;simp only at U;generalize Z:C[a]=AS at*;by_cases y:0<=H
    ·have g1:¬to<AS:=by omega
     have g2:¬H<0:=by omega
     cases h with
     |ft e=>
      have J:=λY=>J e Y A V;simp[fF,D,bP]at E M J;simp only[bR];simp[f147,E,N,Z,y,g1,g2,D,bP,M,J]
     |lv=>
      have I:=I .lv A V;simp[fF,fE,D,bP]at E M I;simp only[bR];simp[f147,E,N,Z,y,g1,g2,D,bP,M,I]
     |rt=>
      have I:=I .rt A V;simp[fF,fE,D,bP]at E M I;simp only[bR];simp[f147,E,N,Z,y,g1,g2,D,bP,M,I]
     |on=>
      have A0:a<A.length:=by
       have A4:=U.1.len;have A5:=O.len;omega
      have A6:jZ A (a:Int)=A[a]:=by unfold jZ;simp[A0]
      have A1:=qN 8 A[a] H false (by rw[<-A6];exact sY U.1.num _) AL;simp only[bR,A6];have AA:py 8 [A[a],H] false=if (ik 8 A[a] H false).2.2=0 then .v (ik 8 A[a] H false).1 (ik 8 A[a] H false).2.1 else .f (ik 8 A[a] H false).2.2:=rfl
      have AB:=Sz 8 A[a] H false (by rw[<-A6];exact sY U.1.num _);rw[AA];clear AA;generalize ik 8 A[a] H false=r at*;obtain⟨A7,AZ,A8⟩:=r;simp only at AB⊢;by_cases T:A8=0
      ·rw[abT T];subst T;simp only[vR];have AC:eX p (eI A a A7):=U.1.put _ AB;have ih:=λv=>ih (eI A a A7) V v (by omega) AC (by omega) (by simpa [eI]using A0);simp[fF,fE,D,bP,BY]at E M A1;simp[f147,eI,D,bP]at ih⊢;simp[E,N,A0,Z,y,g1,g2,D,bP,M,A1,aj]at ih⊢;try simp[List.map_set]at ih⊢
       exact ih _
      ·rw[abN T];simp only[vR];have J:=λY=>J A8 Y A V;simp[fF,fE,D,bP,BY,lq]at E M A1 J;simp[f147,E,N,A0,Z,y,g1,g2,D,bP,M,A1,T,lq,J,aj,List.range']
    ·have g1:¬AS<to:=by omega
     have g2:H<0:=by omega
     cases h with
     |ft e=>
      have J:=λY=>J e Y A V;simp[fF,D,bP]at E M J;simp only[bR];simp[f147,E,N,Z,y,g1,g2,D,bP,M,J]
     |lv=>
      have I:=I .lv A V;simp[fF,fE,D,bP]at E M I;simp only[bR];simp[f147,E,N,Z,y,g1,g2,D,bP,M,I]
     |rt=>
      have I:=I .rt A V;simp[fF,fE,D,bP]at E M I;simp only[bR];simp[f147,E,N,Z,y,g1,g2,D,bP,M,I]
     |on=>
      have A0:a<A.length:=by
       have A4:=U.1.len;have A5:=O.len;omega
      have A6:jZ A (a:Int)=A[a]:=by unfold jZ;simp[A0]
      have A1:=qN 8 A[a] H false (by rw[<-A6];exact sY U.1.num _) AL;simp only[bR,A6];have AA:py 8 [A[a],H] false=if (ik 8 A[a] H false).2.2=0 then .v (ik 8 A[a] H false).1 (ik 8 A[a] H false).2.1 else .f (ik 8 A[a] H false).2.2:=rfl
      have AB:=Sz 8 A[a] H false (by rw[<-A6];exact sY U.1.num _);rw[AA];clear AA;generalize ik 8 A[a] H false=r at*;obtain⟨A7,AZ,A8⟩:=r;simp only at AB⊢;by_cases T:A8=0
      ·rw[abT T];subst T;simp only[vR];have AC:eX p (eI A a A7):=U.1.put _ AB;have ih:=λv=>ih (eI A a A7) V v (by omega) AC (by omega) (by simpa [eI]using A0);simp[fF,fE,D,bP,BY]at E M A1;simp[f147,eI,D,bP]at ih⊢;simp[E,N,A0,Z,y,g1,g2,D,bP,M,A1,aj]at ih⊢;try simp[List.map_set]at ih⊢
       exact ih _
      ·rw[abN T];simp only[vR];have J:=λY=>J A8 Y A V;simp[fF,fE,D,bP,BY,lq]at E M A1 J;simp[f147,E,N,A0,Z,y,g1,g2,D,bP,M,A1,T,lq,J,aj,List.range']
end
theorem YQ{p:Pg}(AT:p.vars.length<=1000)(A_:∀w∈p.vars,dQ w=true){x:Sm}{b:List Sm}{w:Vr}{AD AJ AE:Ex}(AF:bJ x=[AD,AJ,AE])(hw:bz p.vars (gM x)=some w)(N:w.arr=false)(Aa:w.ty<=2)(A4:KV p AD)(A5:KV p AJ)(T:KV p AE)(A7:RI p AD)(A8:RI p AE)
 (D:aQ x=[b]) (AG:BK p b) (AH:bK p (λs=>cD p.vars b s)) (C:List Int) (f:Nat) (O:eX p C) (AM:f<=100000):
 lU p (CZ p.vars (gM x) [AD,AJ,AE] (λs=>cD p.vars b s) ⟨C,f⟩) (ah ctx 147 [.ptr 0 0 0,.d (cK x)] (jv p C f)):=by
 have A2:=sX AT hw C f;have Ab:=Kn AT A_ hw N Aa O;obtain⟨a,AU⟩:∃a:Nat,(dP p.vars (gM x)).1=a:=⟨(dP p.vars (gM x)).1.toNat,by omega⟩;rw[AU]at A2 Ab;have AV:a<C.length:=by omega
 have A':=jw A4 (f:=f) O;have A3:=jw A5 (f:=f) O;have A9:=jw T (f:=f) O;unfold CZ;simp only
 rw[AU,afU (by simp)];cases AN:bV p.vars C AD with
 |f e=>
  rw[AN]at A';simp[bx,dK]at A2 A';simp[f147,cG,au,AF,A2,A',vR];exact⟨_,rfl⟩
 |v AK t1=>
  rw[AN]at A';cases AW:bV p.vars C AJ with
  |f e=>
   rw[AW]at A3;simp[bx,dK]at A2 A' A3;simp[f147,cG,au,AF,A2,A',A3,vR];exact⟨_,rfl⟩
  |v AX t2=>
   rw[AW]at A3;cases AO:bV p.vars C AE with
   |f e=>
    rw[AO]at A9;simp[bx,dK]at A2 A' A3 A9;simp[f147,cG,au,AF,A2,A',A3,A9,vR];exact⟨_,rfl⟩
   |v AP t3=>
    rw[AO]at A9;simp only[vR];have Ac:aI AP:=A8 C AP t3 O AO;have AC:eX p (eI C a AK):=O.put _ (A7 C AK t1 O AN);have AQ:=λ(k:Kt) (Q:Rr->cd->Prop) I J=>Pj (x:=x) (w:=w) D AG AH k Q I J (a:=a) (to:=AX) Ac (f+1) (eI C a AK) f 0 (by omega) AC AM (by simpa [eI]using AV);generalize B5 a AX AP (λs=>cD p.vars b s) (f+1) ⟨eI C a AK,f⟩=q at*;simp[bx,dK]at A2 A' A3 A9;simp[f147,eI,D,bP,AF,au]at AQ;simp[f147,cG,au,AF,D,bP,A2,A',A3,A9,AV,aj];try simp[List.map_set]at AQ⊢
    refine AQ _ (λX r=>X=q->lU p q r) (λh C f v hh AR=>?_) (λe Y C f v AR=>?_) rfl
    ·subst AR;cases h with
     |ft e=>exact absurd rfl (hh e)
     |on=>simp;exact⟨_,rfl⟩
     |lv=>simp;exact⟨_,rfl⟩
     |rt=>simp;exact⟨_,rfl⟩
    ·subst AR;simp;exact⟨_,rfl⟩
theorem Wd{p:Pg}{x:Sm}{b:List Sm}{j:Nat}(AA:j<(aQ x).length)(AB:(aQ x)[j]=b)(O:BK p b){n:Int}{l:List Int}(AP:l.length<100000000)(C:List Int)(f:Nat)(N:eX p C)(T:f<=100000)(AI AJ:AV)(k:Kt)(P:Bool->cd->Prop)
 (D:∀i:Int,P false (k (.exit 2) ⟨57,aC,[(0,true,.ptr 0 0 0),(3,true,.ptr 250 1 0),(5,true,.d (.int .i64 n)),(6,true,.d (.int .i64 j)),(7,true,.d (il l)),(8,true,.d (.int .i64 i)),(14,true,AI),(15,true,AJ),(16,true,.d (.int .i64 j)),(25,true,.d (.bool false))],lu p C f 0++[⟨250,1,bm x⟩]⟩))
 (A:∀(h:Hw) E H v,cD p.vars b ⟨C,f⟩=(h,⟨E,H⟩)->(∀e,h≠.ft e)->P true (k .ret ⟨57,aC,[(4,true,.d (.int .i64 (fE h)))],lu p E H v++[⟨250,1,bm x⟩]⟩))
 (I:∀e (Y:Env) E H v,cD p.vars b ⟨C,f⟩=(.ft e,⟨E,H⟩)->P true (k (.panic 103 (lq e)) ⟨57,aC,Y,lu p E H v++[⟨250,1,bm x⟩]⟩)):
 ∀(rest pre:List Int),l=pre++rest->P (jy n rest) (aN ctx 145 (.loop (Code.at (bq f145) [1,1,0,1,0,0,1,1,0,0,1,1,0,0])) ⟨57,aC,[(0,true,.ptr 0 0 0),(3,true,.ptr 250 1 0),(5,true,.d (.int .i64 n)),(6,true,.d (.int .i64 j)),(7,true,.d (il l)),(8,true,.d (.int .i64 pre.length)),(14,true,AI),(15,true,AJ),(16,true,.d (.int .i64 j))],lu p C f 0++[⟨250,1,bm x⟩]⟩ k)
 |[],pre,J=>by
  have D:=D pre.length;have A0:l.length=pre.length:=by rw[J];simp
  have M:IntKind.i64.wrap ((pre.length:Int)+1)=(pre.length:Int)+1:=aH (by unfold aI;omega);have g:¬(pre.length:Int)+1<pre.length:=by omega
  rw[ag];simp[il]at D;simp[f145,il,jy,A0,M,g,D]
 |[a],pre,J=>by
  have D:=D pre.length;have A0:l.length=pre.length+1:=by rw[J];simp
  have M:IntKind.i64.wrap ((pre.length:Int)+1)=(pre.length:Int)+1:=aH (by unfold aI;omega);rw[ag];simp[il]at D;simp[f145,il,jy,A0,M,D]
 |a::c::r,pre,J=>by
  have ih:=Wd AA AB O AP C f N T AI AJ k P D A I r (pre++[a,c]) (by simp[J]);have A0:l.length=pre.length+(r.length+2):=by rw[J];simp
  have M:IntKind.i64.wrap ((pre.length:Int)+1)=(pre.length:Int)+1:=aH (by unfold aI;omega);have A2:IntKind.i64.wrap ((pre.length:Int)+2)=(pre.length:Int)+2:=aH (by unfold aI;omega);have U:pre.length<l.length:=by omega
  have V:pre.length+1<l.length:=by omega
  have A3:(pre.length:Int)+1<l.length:=by omega
  have A4:l[pre.length]=a:=by simp[J]
  have A5:l[pre.length+1]=c:=by simp[J]
  have A6:((pre.length:Int)+1).toNat=pre.length+1:=by omega
  have A7:(0:Int)<=(pre.length:Int)+1:=by omega
  rw[ag];by_cases Z:a<=n
  ·by_cases A1:n<=c
   ·have e:jy n (a::c::r)=true:=by simp[jy,Z,A1]
    rw[e];obtain⟨AQ,y⟩:=O C f N T;clear ih D;generalize cD p.vars b ⟨C,f⟩=q at*;obtain⟨h,E,H⟩:=q;cases h with
    |ft e=>
     have I:=λY=>I e Y E H;simp[fF]at y I;simp[f145,il,U,V,A3,A4,A5,A6,A7,M,A2,Z,A1,AA,AB,bP,y,I]
    |on=>
     have A:=A .on E H;simp[fF,fE]at y A;simp[f145,il,U,V,A3,A4,A5,A6,A7,M,A2,Z,A1,AA,AB,bP,y,A]
    |lv=>
     have A:=A .lv E H;simp[fF,fE]at y A;simp[f145,il,U,V,A3,A4,A5,A6,A7,M,A2,Z,A1,AA,AB,bP,y,A]
    |rt=>
     have A:=A .rt E H;simp[fF,fE]at y A;simp[f145,il,U,V,A3,A4,A5,A6,A7,M,A2,Z,A1,AA,AB,bP,y,A]
   ·have e:jy n (a::c::r)=jy n r:=by simp[jy,A1]
    rw[e];simp[f145,il]at ih⊢;simp[U,V,A3,A4,A5,A6,A7,M,A2,Z,A1];exact ih
  ·have e:jy n (a::c::r)=jy n r:=by simp[jy,Z]
   rw[e];simp[f145,il]at ih⊢;simp[U,V,A3,A4,A5,A6,A7,M,A2,Z];exact ih
theorem Pk{p:Pg}{x:Sm}(AG:(cM x).length<100000000)(AH:∀l∈cM x,l.length<100000000)(O:∀b∈aQ x,BK p b){n:Int}(C:List Int)(f:Nat)(N:eX p C)(T:f<=100000)(k:Kt)(Q:Rr->cd->Prop)
 (AC:∀(Y:Env),Q (ll p.vars ((aQ x).drop (cM x).length) ⟨C,f⟩) (k (.exit 0) ⟨57,aC,(0,true,.ptr 0 0 0)::(3,true,.ptr 250 1 0)::Y,lu p C f 0++[⟨250,1,bm x⟩]⟩))
 (A:∀(h:Hw) C f v,(∀e,h≠.ft e)->Q (h,⟨C,f⟩) (k .ret ⟨57,aC,[(4,true,.d (.int .i64 (fE h)))],lu p C f v++[⟨250,1,bm x⟩]⟩))
 (I:∀e (Y:Env) C f v,Q (.ft e,⟨C,f⟩) (k (.panic 103 (lq e)) ⟨57,aC,Y,lu p C f v++[⟨250,1,bm x⟩]⟩)):
 ∀(ls pre:List (List Int))(A':List (List Sm)),cM x=pre++ls->A'=(aQ x).drop pre.length->ls.length<=A'.length->
 Q (iK p.vars A' n ls ⟨C,f⟩) (aN ctx 145 (.loop (Code.at (bq f145) [1,1,0,1,0,0])) ⟨57,aC,[(0,true,.ptr 0 0 0),(3,true,.ptr 250 1 0),(5,true,.d (.int .i64 n)),(14,true,.d (.list ((cM x).map il))),(15,true,.d (.int .i64 (cM x).length)),(16,true,.d (.int .i64 pre.length))],lu p C f 0++[⟨250,1,bm x⟩]⟩ k)
 |[],pre,A',J,D,AD=>by
  have A0:(cM x).length=pre.length:=by rw[J];simp
  have e:iK p.vars A' n [] ⟨C,f⟩=ll p.vars ((aQ x).drop (cM x).length) ⟨C,f⟩:=by
   rw[D,A0];cases (aQ x).drop pre.length with
   |nil=>rw[iK,ll]
   |cons b r=>rw[iK,ll]
  rw[e];have:=AC [(5,true,.d (.int .i64 n)),(14,true,.d (.list ((cM x).map il))),(15,true,.d (.int .i64 (cM x).length)),(16,true,.d (.int .i64 (cM x).length)),(17,true,.d (.bool false))];rw[<-A0,ag];simp at this;simp[f145,this]
 |l::ls,pre,A',J,D,AD=>by
  have AK:pre.length<(aQ x).length:=by
   rw[D,aeo]at AD;simp only[ach]at AD;omega
  have AL:A'=(aQ x)[pre.length]::(aQ x).drop (pre++[l]).length:=by
   rw[D,aeN AK];simp
  have e:iK p.vars A' n (l::ls) ⟨C,f⟩=if jy n l=true then cD p.vars (aQ x)[pre.length] ⟨C,f⟩else iK p.vars ((aQ x).drop (pre++[l]).length) n ls ⟨C,f⟩:=by
   rw[AL,iK]
  have ih:=Pk AG AH O (n:=n) C f N T k Q AC A I ls (pre++[l]) ((aQ x).drop (pre++[l]).length) (by simp[J]) rfl (by
   rw[AL]at AD;simp only[ach]at AD;omega)
  rw[e];clear e AC;have U:pre.length<(cM x).length:=by rw[J];simp
  have V:(cM x)[pre.length]=l:=by simp[J]
  have M:IntKind.i64.wrap ((pre.length:Int)+1)=(pre.length:Int)+1:=aH (by unfold aI;omega);have AM:=λ(k:Kt) (P:Bool->cd->Prop) D A I=>Wd (x:=x) (n:=n) AK rfl (O _ (aep AK)) (AH l (by rw[J];simp)) C f N T (.d (.list ((cM x).map il))) (.d (.int .i64 (cM x).length)) k P D A I l [] rfl;generalize iK p.vars ((aQ x).drop (pre++[l]).length) n ls ⟨C,f⟩=AR at*;generalize AX:cD p.vars (aQ x)[pre.length] ⟨C,f⟩=AS at*;rw[ag];simp[f145,il]at AM ih⊢;simp[U,V,il];refine AM _ (λt r=>t=jy n l->Q (if jy n l=true then AS else AR) r) (λi AE=>?_) (λh E H v A8 hh AE=>?_) (λe Y E H v A8 AE=>?_) rfl
  ·rw[abN (by simp[<-AE])];simp[M];exact ih
  ·rw[abT AE.symm,A8];have A:=A h E H v hh;simp at A;simp[A]
  ·rw[abT AE.symm,A8];have I:=I e Y E H v;simp at I;simp[I]
theorem Wf{p:Pg}{x:Sm}(AT:KV p (dc x))(AG:(cM x).length<100000000)(AH:∀l∈cM x,l.length<100000000)(O:∀b∈aQ x,BK p b)(AU:(cM x).length<=(aQ x).length)(C:List Int)(f:Nat)(N:eX p C)(T:f<=100000):
 lU p (vR (bV p.vars C (dc x)) ⟨C,f⟩ λn=>iK p.vars (aQ x) n (cM x) ⟨C,f⟩) (ah ctx 145 [.ptr 0 0 0,.d (cK x)] (jv p C f)):=by
 have A9:=jw AT (f:=f) N;obtain⟨AQ,AN⟩:=Pc (n:=(cM x).length) AG O C f N T;rw[afS (by simp)];cases A8:bV p.vars C (dc x)with
 |f e=>
  rw[A8]at A9;simp at A9;simp[f145,cG,A9,vR];exact⟨_,rfl⟩
 |v n t=>
  rw[A8]at A9;simp only[vR];have AO:=λ(k:Kt) (Q:Rr->cd->Prop) AC A I=>Pk AG AH O (n:=n) C f N T k Q AC A I (cM x) [] (aQ x) rfl rfl AU;generalize iK p.vars (aQ x) n (cM x) ⟨C,f⟩=q at*;generalize ll p.vars ((aQ x).drop (cM x).length) ⟨C,f⟩=AW at*;simp at A9;simp[f145,cG]at AO⊢;simp[A9];refine AO _ (λX r=>X=q->lU p q r) (λY AF=>?_) (λh C f v hh AF=>?_) (λe Y C f v AF=>?_) rfl
  ·subst AF;obtain⟨h,E,H⟩:=AW;cases h<;>simp[fF,fE,cG]at AN<;>simp[f145,AN]<;>exact⟨_,rfl⟩
  ·subst AF;cases h with
   |ft e=>exact absurd rfl (hh e)
   |on=>simp;exact⟨_,rfl⟩
   |lv=>simp;exact⟨_,rfl⟩
   |rt=>simp;exact⟨_,rfl⟩
  ·subst AF;simp;exact⟨_,rfl⟩
section
variable {p:Pg} (O:p.vars.length<=1000) (T:∀w∈p.vars,dQ w=true)
include O T
theorem Pl{x:Sm}{w:Vr}{line:Int}(hw:bz p.vars (gM x)=some w)(J:2<w.ty)(A6:(dE x).length<100000000){a:Int}(k:Kt)(Q:Rr->cd->Prop)
 (A0:∀(Y:Env) C f v v9 D,eX p C->Q (.on,⟨C,f⟩) (k (.exit 0) ⟨71,aC,(0,true,.ptr 0 0 0)::(3,true,.ptr 250 1 0)::(4,true,.d (.int .i64 a))::(5,true,.ptr 350 1 0)::Y,lu p C f v++[⟨250,1,bm x⟩,⟨350,1,ja w⟩,⟨550,v9,D⟩,⟨3551,0,.dead⟩]⟩))
 (M:∀e (Y:Env) C f v v1 AH v2 AI v9 D AJ AK,Q (.ft e,⟨C,f⟩) (k (.panic 103 (lq e)) ⟨71,aC,Y,lu p C f v++[⟨250,v1,AH⟩,⟨350,v2,AI⟩,⟨550,v9,D⟩,⟨3551,AJ,AK⟩]⟩)):
 ∀(I pre:List Tx)(xs:List Ex)(pp:List Tx)(C:List Int)(f v v9:Nat)(D:ay),dE x=pre++I->xs=(bJ x).drop pre.length->xs.length=I.length->(ib p.vars w.ty line I xs pp).1=0->(∀y∈xs,KV p y/\RI p y)->eX p C->
 Q (ki p.vars (gM x) I xs ⟨C,f⟩) (aN ctx 149 (.loop (Code.at (bq f149) [1,1,0,1,0,0])) ⟨71,aC,[(0,true,.ptr 0 0 0),(3,true,.ptr 250 1 0),(4,true,.d (.int .i64 a)),(5,true,.ptr 350 1 0),(19,true,.d (.list ((dE x).map .str))),(20,true,.d (.int .i64 (dE x).length)),(21,true,.d (.int .i64 pre.length))],lu p C f v++[⟨250,1,bm x⟩,⟨350,1,ja w⟩,⟨550,v9,D⟩,⟨3551,0,.dead⟩]⟩ k)
 |[],pre,xs,pp,C,f,v,v9,D,U,A1,A2,E,N,H=>by
  have AY:(dE x).length=pre.length:=by rw[U];simp
  have e:ki p.vars (gM x) [] xs ⟨C,f⟩=(.on,⟨C,f⟩):=by unfold ki;rfl
  rw[e];have:=A0 [(19,true,.d (.list ((dE x).map .str))),(20,true,.d (.int .i64 (dE x).length)),(21,true,.d (.int .i64 (dE x).length)),(22,true,.d (.bool false))] C f v v9 D H;rw[<-AY,ag];simp at this;simp[f149,this]
 |fl::I,pre,[],pp,C,f,v,v9,D,U,A1,A2,E,N,H=>by simp at A2
 |fl::I,pre,y::A3,pp,C,f,v,v9,D,U,A1,A2,E,N,H=>by
  have AZ:=A0;unfold ib at E;cases A4:l7 w.ty fl with
  |none=>rw[A4]at E;simp at E
  |some q=>
   rw[A4]at E;simp only at E;by_cases g1:q.Jw=false
   ·rw[abT g1]at E;simp at E
   ·rw[abN g1]at E;by_cases g2:fl∈pp
    ·rw[abT g2]at E;simp at E
    ·rw[abN g2]at E;obtain⟨_,g3⟩:=cu.1 E;obtain⟨q1,q2,j,q3,Au⟩:=ON hw J A4;have AL:=u3 (cells:=C.length) T (by have:=H.len;omega) hw J;have hle:=EW O T hw H;have Z:=V7 O hw J A4 ⟨hle.1,by omega⟩ C f;have V:=jw (N y (by simp)).1 (f:=f) H;have A_:=(N y (by simp)).2 C;have e:ki p.vars (gM x) (fl::I) (y::A3) ⟨C,f⟩=vR (bV p.vars C y) ⟨C,f⟩ λn=>ki p.vars (gM x) I A3 ⟨eI C (lK p.vars (gM x) fl).1 n,f⟩:=by rw[ki]
     rw[e];clear e E;obtain⟨o,A'⟩:∃o:Nat,(lK p.vars (gM x) fl).1=o:=⟨(lK p.vars (gM x) fl).1.toNat,by omega⟩;rw[A']at Z⊢;have Aa:o<C.length:=by omega
     have AM:pre.length<(dE x).length:=by rw[U];simp
     have AN:(dE x)[pre.length]=fl:=by simp[U]
     have A7:pre.length<(bJ x).length:=by
      have:((bJ x).drop pre.length).length=(y::A3).length:=by rw[<-A1]
      simp only[aeo,ach]at this;omega
     have AO:=aeN A7;rw[<-A1]at AO;injection AO with Ab Ac
     have AP:(bJ x)[pre.length]=y:=Ab.symm;have AQ:IntKind.i64.wrap ((pre.length:Int)+1)=(pre.length:Int)+1:=aH (by unfold aI;omega);rw[ag];cases A8:bV p.vars C y with
     |f e=>
      rw[A8]at V;have M:=λY=>M e Y C f;simp[de]at Z;simp at V M;simp only[vR];simp[f149,AM,AN,A7,AP,au,Z,de,V,AQ,aj];apply M
     |v n t=>
      rw[A8]at V;simp only[vR];have Ad:eX p (eI C o n):=H.put _ (A_ n t H A8);have ih:=λv v9 D=>Pl hw J A6 k Q AZ M I (pre++[fl]) A3 (pp++[fl]) (eI C o n) f v v9 D (by simp[U]) (by simpa using Ac) (by simpa using A2) g3 (λz Ae=>N z (by simp[Ae])) Ad;simp[de]at Z;simp at V;simp[f149,eI]at ih⊢;simp[AM,AN,A7,AP,au,Z,de,V,Aa,AQ,aj]at ih⊢;try simp[List.map_set]at ih⊢
      apply ih
theorem YR{x:Sm}{w:Vr}{line:Int}(hw:bz p.vars (gM x)=some w)(J:2<w.ty)(A6:(dE x).length<100000000)(Af:(bJ x).length=(dE x).length)(h:(ib p.vars w.ty line (dE x) (bJ x) []).1=0)(N:∀y∈bJ x,KV p y/\RI p y)(C:List Int)(f:Nat)(H:eX p C):
 O5 p (og p.vars (gM x) (dE x) (bJ x) ⟨C,f⟩) (ah ctx 149 [.ptr 0 0 0,.d (cK x)] (jv p C f)):=by
 have A9:=sX O hw C f;have hle:=EW O T hw H;obtain⟨o,A'⟩:∃o:Nat,(dP p.vars (gM x)).1=o:=⟨(dP p.vars (gM x)).1.toNat,by omega⟩;have AA:=λ(k:Kt) (Q:Rr->cd->Prop) A0 M v9 D=>Pl O T (line:=line) hw J A6 (a:=o) k Q A0 M (dE x) [] (bJ x) [] C f 0 v9 D rfl rfl Af h N H;have AR:=FK w.ty;unfold og;rw[A']at A9;rw[ou hw,A'];rw[afW (by simp)];generalize ki p.vars (gM x) (dE x) (bJ x) ⟨C,f⟩=q at*;simp[bx,dK]at A9;simp[f149,cG]at AA⊢;simp[A9,bx,dK];refine AA _ (λX r=>X=q->O5 p (bR q λAS=>(.on,⟨vP AS.cells o w.ty,AS.fuel⟩)) r) (λY A Ag v v9 D AB AC=>?_) (λe Y A Ag v v1 AH v2 AI v9 D AJ AK AC=>?_) _ _ rfl;rotate_left
 ·subst AC;simp[bR];exact⟨_,rfl⟩
 ·subst AC;clear AA;have AT:=AB.num;have Av:=AB.le;have AL:=u3 (cells:=A.length) T (by have:=AB.len;omega) hw J;rw[A']at AL;generalize AU:bC w.ty=pl at*;have Ah:o+pl.length<=A.length:=by omega
  have AD:((A.drop o).take pl.length).length=pl.length:=by simp;omega
  have AV:=alD w.ty;unfold pnN at AV;rw[AU]at AV;have AE:=YL w.ty ((A.drop o).take pl.length) (by rw[AD];omega) (λy Ai=>AT y (adM (adV Ai)));have AF:(gH w.ty ((A.drop o).take pl.length)).length=pl.length:=by rw[GU,AD]
  have AG:vP A o w.ty=A.take o++gH w.ty ((A.drop o).take pl.length)++A.drop (o+(gH w.ty ((A.drop o).take pl.length)).length):=by
   unfold vP;rw[AF,AU];simp
  have AW:=YM A (gH w.ty ((A.drop o).take pl.length)) o (by omega);rw[<-AG]at AW;have AX:(vP A o w.ty).length=A.length:=by
   rw[AG];simp only[acg,ae3,aeo,AF];omega
  rw[AD]at AE;generalize Aj:gH w.ty ((A.drop o).take pl.length)=A5 at*;have Ak:(A5.map jD).take (A.length-o)=A5.map jD:=aej (by simp;omega);have Al:(A5.map jD).take pl.length=A5.map jD:=aej (by simp;omega);have An:IntKind.i64.wrap ((o:Int)+(pl.length:Int))=(o:Int)+(pl.length:Int):=aH (by unfold aI;omega);have Ao:((o:Int)+(pl.length:Int)).toNat=o+pl.length:=by omega
  have Ap:o<=A.length:=by omega
  have Aq:(o:Int)<=(A.length:Int):=by omega
  have Ar:(0:Int)<=(o:Int)+(pl.length:Int):=by omega
  have As:(o:Int)<=(o:Int)+(pl.length:Int):=by omega
  have At:o+(A.length-o)<=A.length:=by omega
  simp only[bR];clear AT Aj AG;try simp at AR
  simp only[List.map_take,List.map_drop]at AE;simp[f149,AR,AE,AF,Ak,Al,AW,AX,An,Ao,Ap,Aq,Ar,As,At,Ah,ET,aj];refine⟨if v=0 then 0 else 1,?_⟩;simp[O4,AX]
end
theorem Pm(n:Int):ah ctx 146 [.d (.int .i64 n)] []=some (.ret (.d (.int .i64 (if n=1 then 0 else n))),[]):=by
 rw[afT (by simp)];by_cases h:n=1
 ·simp[f146,h]
 ·simp[f146,h]
section
variable {p:Pg} {x:Sm} {C:List Int} {f:Nat} (M:eX p C) (N:f<=100000)
include M N
theorem yq{R:Mc->Rr}(h:f≠0->lU p (R ⟨C,f-1⟩) (ah ctx 91 [.ptr 0 0 0,.d (cK x)] (jv p C f))):lU p (gk R ⟨C,f⟩) (ah ctx 91 [.ptr 0 0 0,.d (cK x)] (jv p C f)):=by
 unfold gk;by_cases E:f=0
 ·rw[abT E];have A:=lZ (p:=p) C f (by omega);rw[abT E]at A;subst E;rw[yh (by simp)];simp at A;simp[f91,cG,A];exact⟨_,rfl⟩
 ·rw[abN E];exact h E
theorem ain(D:bj x=1\/bj x=9){q:Rr}(H:q.1=.on\/∃e,q.1=.ft e)(E:f≠0)(O:bj x=1->O5 p q (ah ctx 143 [.ptr 0 0 0,.d (cK x)] (jv p C (f-1))))(T:bj x=9->O5 p q (ah ctx 149 [.ptr 0 0 0,.d (cK x)] (jv p C (f-1)))):
 lU p q (ah ctx 91 [.ptr 0 0 0,.d (cK x)] (jv p C f)):=by
 have A:=lZ (p:=p) C f (by omega);rw[abN E]at A;obtain⟨w,I,J⟩:=q;rw[yh (by simp)];rcases D with D|D
 ·obtain⟨v,h⟩:=O D;rcases H with H|⟨e,H⟩<;>simp only at H<;>subst H<;>simp[O4,cG,D]at A h<;>simp[f91,cG,D,A,h]<;>exact⟨_,rfl⟩
 ·obtain⟨v,h⟩:=T D;rcases H with H|⟨e,H⟩<;>simp only at H<;>subst H<;>simp[O4,cG,D]at A h<;>simp[f91,cG,D,A,h]<;>exact⟨_,rfl⟩
theorem asz(D:bj x=2){q:Rr}(E:f≠0)(h:lU p q (ah ctx 144 [.ptr 0 0 0,.d (cK x)] (jv p C (f-1)))):
 lU p q (ah ctx 91 [.ptr 0 0 0,.d (cK x)] (jv p C f)):=by
 have A:=lZ (p:=p) C f (by omega);rw[abN E]at A;obtain⟨w,I,J⟩:=q;obtain⟨v,h⟩:=h;rw[yh (by simp)];cases w<;>simp[fF,fE,cG,D]at A h<;>simp[f91,cG,D,A,h]<;>exact⟨_,rfl⟩
theorem asA(D:bj x=3){q:Rr}(E:f≠0)(h:lU p q (ah ctx 145 [.ptr 0 0 0,.d (cK x)] (jv p C (f-1)))):
 lU p q (ah ctx 91 [.ptr 0 0 0,.d (cK x)] (jv p C f)):=by
 have A:=lZ (p:=p) C f (by omega);rw[abN E]at A;obtain⟨w,I,J⟩:=q;obtain⟨v,h⟩:=h;rw[yh (by simp)];cases w<;>simp[fF,fE,cG,D]at A h<;>simp[f91,cG,D,A,h]<;>exact⟨_,rfl⟩
theorem asB(D:bj x=4){q:Rr}(E:f≠0)(h:lU p q (ah ctx 147 [.ptr 0 0 0,.d (cK x)] (jv p C (f-1)))):
 lU p (iG q) (ah ctx 91 [.ptr 0 0 0,.d (cK x)] (jv p C f)):=by
 have A:=lZ (p:=p) C f (by omega);have hle:=Pm;rw[abN E]at A;obtain⟨w,I,J⟩:=q;obtain⟨v,h⟩:=h;rw[yh (by simp)];cases w<;>simp[fF,fE,cG,D]at A h<;>simp[f91,cG,D,A,h,hle,iG]<;>exact⟨_,rfl⟩
theorem ab9(D:bj x=5\/bj x=6){q:Rr}(E:f≠0)(h:lU p q (ah ctx 148 [.ptr 0 0 0,.d (cK x)] (jv p C (f-1)))):
 lU p (iG q) (ah ctx 91 [.ptr 0 0 0,.d (cK x)] (jv p C f)):=by
 have A:=lZ (p:=p) C f (by omega);have hle:=Pm;rw[abN E]at A;obtain⟨w,I,J⟩:=q;obtain⟨v,h⟩:=h;rw[yh (by simp)];rcases D with D|D
 ·cases w<;>simp[fF,fE,cG,D]at A h<;>simp[f91,cG,D,A,h,hle,iG]<;>exact⟨_,rfl⟩
 ·cases w<;>simp[fF,fE,cG,D]at A h<;>simp[f91,cG,D,A,h,hle,iG]<;>exact⟨_,rfl⟩
theorem aca(D:bj x=7\/bj x=8)(E:f≠0):lU p (if bj x=7 then .lv else .rt,⟨C,f-1⟩) (ah ctx 91 [.ptr 0 0 0,.d (cK x)] (jv p C f)):=by
 have A:=lZ (p:=p) C f (by omega);rw[abN E]at A;rw[yh (by simp)];rcases D with D|D
 ·simp at A;simp[f91,cG,D,A];exact⟨_,rfl⟩
 ·simp at A;simp[f91,cG,D,A];exact⟨_,rfl⟩
end
end Go.Am
end
section
namespace Go.Am
open Go
def Wh(x:aV):Prop:=ym x.n=true/\ym x.m=true
def jb(l:List aV):Prop:=∀x∈l,Wh x
theorem jb.nil:jb []:=λ_ h=>by simp at h
theorem jb.app{a b:List aV}(J:jb a)(D:jb b):jb (a++b):=λx A=>(ab3.1 A).elim (J x) (D x)
theorem jb.cons{x:aV}{l:List aV}(A:Wh x)(T:jb l):jb (x::l):=λy E=>by
 rcases abV.1 E with rfl|E
 ·exact A
 ·exact T y E
theorem jb.one{x:aV}(A:Wh x):jb [x]:=.cons A .nil
theorem nm0{op a b:Int}:Wh (ins op a b 0 0):=⟨rfl,rfl⟩
theorem FW{f:aV->aV}(M:∀x,(f x).n=x.n/\(f x).m=x.m){l:List aV}(h:jb l):jb (l.map f):=λy E=>by
 obtain⟨x,A,rfl⟩:=ab4.1 E;have:=h x A;unfold Wh at*;rw[(M x).1,(M x).2];exact this
theorem jb.mv{l:List aV}(h:jb l)(k:Nat):jb (pR k l):=FW (λx=>by unfold px;split<;>exact⟨rfl,rfl⟩) h
theorem jb.out{l:List aV}(h:jb l):jb (FP l):=FW (λx=>by unfold OI;split<;>exact⟨rfl,rfl⟩) h
theorem jb.rt{l:List aV}(h:jb l)(k:Int):jb (l.map (rtI k)):=FW (λx=>by unfold rtI;split<;>exact⟨rfl,rfl⟩) h
theorem jb.jn{a b:List aV}(J:jb a)(D:jb b):jb (jn a b):=J.app (D.mv _)
theorem jb.ch:∀(H N:List (List aV)),(∀t∈H,jb t)->(∀b∈N,jb b)->jb (ml H N)
 |[],[],_,_=>by unfold ml;exact .nil
 |_::_,[],_,_=>by unfold ml;exact .nil
 |[],b::r,I,D=>by
  have ih:=jb.ch [] r I (λx A=>D x (by simp[A]));rw[acT];split
  ·exact D b (by simp)
  ·exact .jn ((D b (by simp)).app (.one nm0)) ih
 |t::H,b::r,I,D=>by
  have ih:=jb.ch H r (λx A=>I x (by simp[A])) (λx A=>D x (by simp[A]));rw[ml];refine .jn (((I t (by simp)).app (.one nm0)).app (.mv ?_ _)) ih;split
  ·exact D b (by simp)
  ·exact (D b (by simp)).app (.one nm0)
section
variable {vs:List Vr} (O:∀w∈vs,dQ w=true)
include O
omit O in
theorem AN:∀{l:List Ex},cQ l=true->∀x∈l,cO x=true
 |y::r,h,x,A=>by
  simp only[cQ,Ds]at h;rcases abV.1 A with rfl|A
  ·exact h.1
  ·exact AN h.2 x A
end
end Go.Am
end
section
namespace Go.Am
open Go Go.Proofs
variable [Inhabited bI]
set_option maxRecDepth 20000
theorem HJ{v:Vl}{s:Mc}{g:Int->Rr}(h:∀n,(g n).1=.on\/∃e,(g n).1=.ft e):(vR v s g).1=.on\/∃e,(vR v s g).1=.ft e:=by
 cases v with
 |f e=>exact .inr ⟨e,rfl⟩
 |v n t=>exact h n
theorem aip(vs:List Vr)(to val:Ex)(s:Mc):(sl vs to val s).1=.on\/∃e,(sl vs to val s).1=.ft e:=by
 unfold sl;split
 ·exact HJ λn=>.inl rfl
 ·refine HJ λk=>HJ λn=>?_;unfold Ka;split
  ·exact .inr ⟨3,rfl⟩
  ·exact .inl rfl
theorem Wi(vs:List Vr)(name:Tx):∀(A5:List Tx)(xs:List Ex)(s:Mc),(ki vs name A5 xs s).1=.on\/∃e,(ki vs name A5 xs s).1=.ft e
 |[],xs,s=>by unfold ki;exact .inl rfl
 |_::_,[],s=>by unfold ki;exact .inl rfl
 |f::A5,x::xs,s=>by
  rw[ki];exact HJ λn=>Wi vs name A5 xs _
theorem YS(vs:List Vr)(name:Tx)(A5:List Tx)(xs:List Ex)(s:Mc):(og vs name A5 xs s).1=.on\/∃e,(og vs name A5 xs s).1=.ft e:=by
 have h:=Wi vs name A5 xs s;unfold og;generalize ki vs name A5 xs s=q at*;obtain⟨w,t⟩:=q;rcases h with h|⟨e,h⟩<;>simp only at h<;>subst h
 ·exact .inl rfl
 ·exact .inr ⟨e,rfl⟩
def SK(p:Pg)(x:Sm):Prop:=MK p x/\bK p (ju p.vars x)
def LK(p:Pg)(b:List Sm):Prop:=BK p b/\bK p (cD p.vars b)
section
variable {p:Pg} (A3:p.vars.length<=1000) (A1:∀w∈p.vars,dQ w=true)
include A3 A1
theorem Po:∀(M:List (List Sm))(cs:List Ex),(∀b∈M,bK p (cD p.vars b))->(∀c∈cs,RI p c)->bK p (iJ p.vars M cs)
 |[],cs,_,_=>by
  have e:iJ p.vars [] cs=λs=>(.on,s):=by funext s;rw[iJ]
  rw[e];exact bK.id _
 |b::M,[],h,_=>by
  have e:iJ p.vars (b::M) []=cD p.vars b:=by funext s;rw[iJ]
  rw[e];exact h b (by simp)
 |b::M,c::cs,h,AA=>by
  have e:iJ p.vars (b::M) (c::cs)=λs=>vR (bV p.vars s.cells c) s λn=>if n=0 then iJ p.vars M cs s else cD p.vars b s:=by funext s;rw[iJ]
  rw[e];refine bK.vR (v:=λC=>bV p.vars C c) (G:=λn s=>if n=0 then iJ p.vars M cs s else cD p.vars b s) (λC n t A U=>AA c (by simp) C n t A U) λn _=>?_;by_cases H:n=0
  ·simp only[H,aes];exact Po M cs (λb J=>h b (by simp[J])) (λy Z=>AA y (by simp[Z]))
  ·simp only[H,ad0];exact h b (by simp)
theorem Pp(n:Int):∀(M:List (List Sm))(ls:List (List Int)),(∀b∈M,bK p (cD p.vars b))->bK p (iK p.vars M n ls)
 |[],ls,_=>by
  have e:iK p.vars [] n ls=λs=>(.on,s):=by funext s;rw[iK]
  rw[e];exact bK.id _
 |b::M,[],h=>by
  have e:iK p.vars (b::M) n []=cD p.vars b:=by funext s;rw[iK]
  rw[e];exact h b (by simp)
 |b::M,l::ls,h=>by
  have e:iK p.vars (b::M) n (l::ls)=λs=>if jy n l=true then cD p.vars b s else iK p.vars M n ls s:=by funext s;rw[iK]
  rw[e];by_cases H:jy n l=true
  ·simp only[H,aes];exact h b (by simp)
  ·simp only[H];exact Pp n M ls (λb J=>h b (by simp[J]))
theorem alP{lp:Bool}{x:Sm}(N:jF x=true)(D:iq x=true)(AC:uW x)(h:(kW p.vars lp x).1=0)(AD:∀(lp:Bool) (cs:List Ex),cH (aQ x)=true->(eN p.vars lp cs (aQ x)).1=0->∀b∈aQ x,LK p b):SK p x:=by
 have A4:=λ(y:Ex) A6 T AE=>Wa A3 A1 y A6 T AE;obtain⟨_,_,⟨AZ,_⟩,⟨A_,Aa⟩,Ab,_⟩:=AC;cases FR N h with
 |@asg to val line v V U Ac ft Ad A8 Ae AM=>
  simp only[iq,Ds]at D;have A':=A4 val A8 D.2.1 Ae;have e:ju p.vars (.mk 1 [] to val [] [] [] [] line)=gk (λs=>sl p.vars to val s):=by funext s;simp[ju]
  refine⟨λC f A E=>?_,?_⟩
  ·rw[e];refine yq A E λI=>ain A E (.inl rfl) (aip ..) I (λ_=>?_) (λh=>by simp[bj]at h);cases Bt ft Ad with
   |num h=>simp[bO]at V
   |ru h=>simp[bO]at V
   |VP _ _ _ _=>simp[bO]at V
   |one o _ _ _=>simp[bO]at V;omega
   |two o _ _ _ _ _ _=>simp[bO]at V;omega
   |@var name Af Ag AP AF AQ=>exact alN A3 A1 AP AF AQ A'.1 C (f-1) A
   |@idx name Af Ag y AP AF AQ AR Ah ty=>
    have Ai:cO y=true:=by
     have:=D.1;simp[cO,cQ]at this;exact this
    exact alO A3 A1 AP AF AQ (A4 y AR Ai Ah).1 A'.1 C (f-1) A
  ·rw[e];exact bK.gk (adb A'.2)
 |@cnd to val Y A0 line V AO AS A6 T AE A7 hh=>
  simp only[iq,Ds]at D;have AH:∀c∈Y,KV p c/\RI p c:=λc A9=>A4 c ((im _).1 AS c A9) (AN D.2.2.1 c A9) (jY (AG T hh c A9)).1;have O:=AD lp Y A7 hh;have e:ju p.vars (.mk 2 [] to val Y [] [] A0 line)=gk (λs=>iJ p.vars A0 Y s):=by funext s;simp[ju]
  refine⟨λC f A E=>?_,?_⟩
  ·rw[e];exact yq A E λI=>asz A E rfl I (Wc (x:=.mk 2 [] to val Y [] [] A0 line) AZ (λc AA=>(AH c AA).1) (λb J=>(O b J).1) T C (f-1) A (by omega))
  ·rw[e];exact bK.gk (Po A3 A1 A0 Y (λb J=>(O b J).2) (λc AA=>(AH c AA).2))
 |@cas to val AB A0 line V A8 AK T AE Aq A7 hh=>
  simp only[iq,Ds]at D;have A':=A4 val A8 D.2.1 (jY AK).1;have O:=AD lp [] A7 hh;have e:ju p.vars (.mk 3 [] to val [] AB [] A0 line)=gk (λs=>vR (bV p.vars s.cells val) s λn=>iK p.vars A0 n AB s):=by funext s;simp[ju]
  refine⟨λC f A E=>?_,?_⟩
  ·rw[e];exact yq A E λI=>asA A E rfl I (Wf (x:=.mk 3 [] to val [] AB [] A0 line) A'.1 A_ Aa (λb J=>(O b J).1) T C (f-1) A (by omega))
  ·rw[e];exact bK.gk (bK.vR (v:=λC=>bV p.vars C val) (G:=λn s=>iK p.vars A0 n AB s) (λC n t A U=>A'.2 C n t A U) λn _=>Pp A3 A1 n A0 AB λb J=>(O b J).2)
 |@cnt name to val x y z b line v H V AO U Ac AF AM Aj Ak AR Al An Ao A7 hh=>
  simp only[iq,cQ,Ds]at D;have AT:=A4 x Aj D.2.2.1.1 (jY Ak).1;have AW:=A4 y AR D.2.2.1.2.1 (jY Al).1;have AU:=A4 z An D.2.2.1.2.2.1 (jY Ao).1;have O:=AD true [] (by simpa [aQ,cH]using A7) (by simp[aQ,eN,eU,hh]) b (by simp[aQ]);have AL:(λq=>ll p.vars [b] q)=λs=>cD p.vars b s:=by funext s;rw[ll]
  have e:ju p.vars (.mk 4 name to val [x,y,z] [] [] [b] line)=gk (λs=>iG (CZ p.vars name [x,y,z] (λs=>cD p.vars b s) s)):=by funext s;simp[ju,AL]
  refine⟨λC f A E=>?_,?_⟩
  ·rw[e];exact yq A E λI=>asB A E rfl I (YQ A3 A1 (x:=.mk 4 name to val [x,y,z] [] [] [b] line) rfl U AF (by omega) AT.1 AW.1 AU.1 AT.2 AU.2 rfl O.1 O.2 C (f-1) A (by omega))
  ·rw[e];exact bK.gk (bK.left (YO AT.2 AW.2 AU.2 O.2))
 |@whl to val b line V A8 AK A7 hh=>
  simp only[iq,Ds]at D;have A':=A4 val A8 D.2.1 (jY AK).1;have O:=AD true [] (by simpa [aQ,cH]using A7) (by simp[aQ,eN,eU,hh]) b (by simp[aQ]);have AL:(λq=>ll p.vars [b] q)=λs=>cD p.vars b s:=by funext s;rw[ll]
  have e:ju p.vars (.mk 5 [] to val [] [] [] [b] line)=gk (λs=>iG (AI (λC=>bV p.vars C val) (λs=>cD p.vars b s) (s.fuel+1) s)):=by funext s;simp[ju,AL]
  refine⟨λC f A E=>?_,?_⟩
  ·rw[e];exact yq A E λI=>ab9 A E (.inl rfl) I (by
    have:=Ph (x:=.mk 5 [] to val [] [] [] [b] line) A'.1 rfl O.1 O.2 (.inl rfl) C (f-1) A (by omega);simpa [bj]using this)
  ·rw[e];exact bK.gk (bK.left λs AC=>O6 (λC n t A U=>A'.2 C n t A U) O.2 (s.fuel+1) s AC)
 |@rep to val b line V A8 AK A7 hh=>
  simp only[iq,Ds]at D;have A':=A4 val A8 D.2.1 (jY AK).1;have O:=AD true [] (by simpa [aQ,cH]using A7) (by simp[aQ,eN,eU,hh]) b (by simp[aQ]);have AL:(λq=>ll p.vars [b] q)=λs=>cD p.vars b s:=by funext s;rw[ll]
  have e:ju p.vars (.mk 6 [] to val [] [] [] [b] line)=gk (λs=>iG (AJ (λC=>bV p.vars C val) (λs=>cD p.vars b s) (s.fuel+1) s)):=by funext s;simp[ju,AL]
  refine⟨λC f A E=>?_,?_⟩
  ·rw[e];exact yq A E λI=>ab9 A E (.inr rfl) I (by
    have:=Ph (x:=.mk 6 [] to val [] [] [] [b] line) A'.1 rfl O.1 O.2 (.inr rfl) C (f-1) A (by omega);simpa [bj]using this)
  ·rw[e];exact bK.gk (bK.left λs AC=>O7 (λC n t A U=>A'.2 C n t A U) O.2 (s.fuel+1) s AC)
 |@ext to val line V AO Ar=>
  have e:ju p.vars (.mk 7 [] to val [] [] [] [] line)=gk (λs=>(.lv,s)):=by funext s;simp[ju]
  refine⟨λC f A E=>?_,?_⟩
  ·rw[e];exact yq A E λI=>by simpa [bj]using aca (x:=.mk 7 [] to val [] [] [] [] line) A E (.inl rfl) I
  ·rw[e];exact bK.gk (bK.id _)
 |@ret to val line V AO=>
  have e:ju p.vars (.mk 8 [] to val [] [] [] [] line)=gk (λs=>(.rt,s)):=by funext s;simp[ju]
  refine⟨λC f A E=>?_,?_⟩
  ·rw[e];exact yq A E λI=>by simpa [bj]using aca (x:=.mk 8 [] to val [] [] [] [] line) A E (.inr rfl) I
  ·rw[e];exact bK.gk (bK.id _)
 |@cal name to val Y fields line v H V AO U AM AS AV As hh=>
  simp only[iq,Ds]at D;have Ap:=Bu fields Y [] AV hh;have AH:∀c∈Y,KV p c/\RI p c:=λc A9=>A4 c ((im _).1 AS c A9) (AN D.2.2.1 c A9) (Ap c A9);have e:ju p.vars (.mk 9 name to val Y [] fields [] line)=gk (λs=>og p.vars name fields Y s):=by funext s;simp[ju]
  refine⟨λC f A E=>?_,?_⟩
  ·rw[e];exact yq A E λI=>ain A E (.inr rfl) (YS ..) I (λh=>by simp[bj]at h) (λ_=>YR A3 A1 (x:=.mk 9 name to val Y [] fields [] line) U AM Ab AV hh AH C (f-1) A)
  ·rw[e];exact bK.gk (Wb U (λC A=>by
    have:=u3 (cells:=C.length) A1 (by have:=A.len;omega) U AM;omega) (λy Z=>(AH y Z).2))
mutual
theorem aiq:∀(x:Sm)(lp:Bool),jF x=true->iq x=true->yO x->(kW p.vars lp x).1=0->SK p x
 | .mk op name to val Y AB fields A0 line,lp,N,D,H,h=>by
  have AX:=(Sk _).1 H;have AY:=D;simp only[iq,Ds]at AY;exact alP A3 A1 N D AX.1 h (λlp cs A6 T=>C3 A0 lp cs A6 AY.2.2.2.2 AX.2 T)
theorem yr:∀(l:List Sm)(lp:Bool),eh l=true->gm l=true->ke l->(ep p.vars lp l).1=0->∀x∈l,SK p x
 |[],_,_,_,_,_,x,A2=>absurd A2 (aed)
 |y::r,lp,N,D,H,h,x,A2=>by
  simp only[eh,Ds]at N;simp only[gm,Ds]at D;simp only[ke]at H;simp only[ep]at h;obtain⟨A6,T⟩:=cu.1 h;rcases abV.1 A2 with I|A2
  ·rw[I];exact aiq y lp N.1 D.1 H.1 A6
  ·exact yr r lp N.2 D.2 H.2 T x A2
theorem C3:∀(l:List (List Sm))(lp:Bool)(cs:List Ex),cH l=true->eK l=true->l9 l->(eN p.vars lp cs l).1=0->∀b∈l,LK p b
 |[],_,_,_,_,_,_,b,J=>absurd J (aed)
 |y::r,lp,[],N,D,H,h,b,J=>by
  simp only[cH,Ds]at N;simp only[eK,Ds]at D;simp only[l9]at H;simp only[eN]at h;obtain⟨A6,T⟩:=cu.1 h;rcases abV.1 J with I|J
  ·have Z:=yr y lp N.1 D.1 H.1.2 A6;rw[I];exact⟨SC y (by have:=H.1.1;omega) Z,Bv y λx A2=>(Z x A2).2⟩
  ·exact C3 r lp [] N.2 D.2 H.2 T b J
 |y::r,lp,c::cs,N,D,H,h,b,J=>by
  simp only[cH,Ds]at N;simp only[eK,Ds]at D;simp only[l9]at H;simp only[eN]at h;obtain⟨A6,T⟩:=cu.1 h;obtain⟨T,AE⟩:=cu.1 T;rcases abV.1 J with I|J
  ·have Z:=yr y lp N.1 D.1 H.1.2 T;rw[I];exact⟨SC y (by have:=H.1.1;omega) Z,Bv y λx A2=>(Z x A2).2⟩
  ·exact C3 r lp cs N.2 D.2 H.2 AE b J
end
theorem Wj{l:List Sm}{lp:Bool}(AV:l.length<100000000)(N:eh l=true)(D:gm l=true)(H:ke l)(h:(ep p.vars lp l).1=0):LK p l:=by
 have Z:=yr A3 A1 l lp N D H h;exact⟨SC l (by omega) Z,Bv l λx A2=>(Z x A2).2⟩
end
end Go.Am
end
section
namespace Go.Am
open Go Go.Proofs Go.Proofs.Tryz
variable [Inhabited bI]
set_option maxRecDepth 20000
set_option maxHeartbeats 1600000
@[simp] theorem alR:sq Tryz.prog 99=some [.lit (.pointer none)]:=by kernel_rfl
theorem Ks(l:List Vr)(I:l.length<=1000)(J M N X5 O:ay)(T U V Y Z y:AV)(k:Kt)(Q:cd->Prop)
 (E:∀v1 v6 X6,Q (k (.exit 0) ⟨73,aC,[(3,true,.ptr 250 1 0),(6,true,.ptr 400 1 0),(8,true,.ptr 500 1 0),(40,true,.d (.list (l.map bx))),(41,true,.d (.int .i64 l.length)),(42,true,.d (.int .i64 l.length)),(43,true,.d (.bool false))],
  [⟨250,1,J⟩,⟨400,1,M⟩,⟨450,1,N⟩,⟨500,1,.box [.ptr 1100 1 0]⟩,⟨600,v6,X6⟩,⟨951,1,O⟩,⟨1100,1,.box [T,U,V,Y,.vec 1101 v1 0 l.length,Z,y]⟩,⟨1101,v1,.vec 1 (l.map ES)⟩]⟩)):
 ∀(rest pre:List Vr)(v1 v6:Nat)(X6:ay),l=pre++rest->Q (aN ctx 22 (.loop (Code.at (bq f22) [1,1,1,1,0,1,0,0])) ⟨73,aC,[(3,true,.ptr 250 1 0),(6,true,.ptr 400 1 0),(8,true,.ptr 500 1 0),(40,true,.d (.list (l.map bx))),(41,true,.d (.int .i64 l.length)),(42,true,.d (.int .i64 pre.length))],
  [⟨250,1,J⟩,⟨400,1,M⟩,⟨450,1,N⟩,⟨500,1,.box [.ptr 1100 1 0]⟩,⟨600,v6,X6⟩,⟨951,1,O⟩,⟨1100,1,.box [T,U,V,Y,.vec 1101 v1 0 pre.length,Z,y]⟩,⟨1101,v1,.vec 1 (pre.map ES)⟩]⟩ k)
 |[],pre,v1,v6,X6,H=>by
  have E:=E v1 v6 X6;simp at H;subst H;rw[ag];simp[f22,E]
 |v::r,pre,v1,v6,X6,H=>by
  have ih:=λv1 v6 X6=>Ks l I J M N X5 O T U V Y Z y k Q E r (pre++[v]) v1 v6 X6 (by simp[H]);clear E;have A8:pre.length<l.length:=by rw[H];simp
  have A9:l[pre.length]=v:=by simp[H]
  have AA:=FK v.ty;have AB:IntKind.i64.wrap ((pre.length:Int)+1)=(pre.length:Int)+1:=aH (by unfold aI;omega);have AC:pre.length+1<=4611686018427387904:=by omega
  have AD:(pre.length+1)*24<=140737488355328:=by omega
  have AE:pre.length+1<=281474976710656:=by omega
  rw[ag];simp[f22]at ih⊢;simp[A8,A9,bx,dK,AA,AB,AC,AD,AE,ES,aj]at ih⊢;apply ih
theorem YT(e:Int)(d0 d1 d2 d3:D)(n:Nat)(A':List D)(C:List Int)(f:Nat):xZ ctx 55 [.ptr 0 0 0,.ptr 1 0 0,.gw 103 (lq e)] [.box [.ptr 2 0 0],.box [.lit (.slice none 0 0),.d (.int .i64 0),.d (.int .i64 0)],.box [.d d0,.d d1,.d d2,.d d3,.vec 3 0 0 n,.vec 4 0 0 C.length,.d (.int .i64 f)],.vec 1 A',.vec 1 (C.map jD)]=
 some (.ret (.bY []),[(0,.box [.ptr 2 0 0]),(0,.box [.vec 4 0 0 C.length,.d (.int .i64 e),.d (.int .i64 f)]),(0,.box [.d d0,.d d1,.d d2,.d d3,.vec 3 0 0 n,.vec 4 0 0 C.length,.d (.int .i64 f)]),(0,.vec 1 A'),(0,.vec 1 (C.map jD))]):=by
 rw[abJ (by rfl) (by rfl) (by simp)];simp[f55];erw[Ar rfl];simp[lq,aj]
theorem ade(b f2:D)(d0 d1 d2 d3:D)(n:Nat)(A':List D)(C:List Int)(f:Nat):xZ ctx 55 [.ptr 0 0 0,.ptr 1 0 0,.lit .nilIface] [.box [.ptr 2 0 0],.box [.vec 3 0 0 C.length,.d b,.d f2],.box [.d d0,.d d1,.d d2,.d d3,.vec 4 0 0 n,.vec 3 0 0 C.length,.d (.int .i64 f)],.vec 1 (C.map jD),.vec 1 A']=
 some (.ret (.bY []),[(0,.box [.ptr 2 0 0]),(0,.box [.vec 3 0 0 C.length,.d b,.d f2]),(0,.box [.d d0,.d d1,.d d2,.d d3,.vec 4 0 0 n,.vec 3 0 0 C.length,.d (.int .i64 f)]),(0,.vec 1 (C.map jD)),(0,.vec 1 A')]):=by
 rw[abJ (by rfl) (by rfl) (by simp)];simp[f55];erw[Ar rfl];simp
theorem air{p:Pg}(A2:p.vars.length<=1000)(A5:∀v∈p.vars,dQ v=true)(C:List Int)(f:Nat)(A0:eX p C)(AJ:f<=16384)(AF:BK p p.body):ah ctx 22 [.d (nV p),.d (.list (C.map jD)),.d (.int .i64 f)] []=
 some (.ret (.d (.agg [.list ((mm p C f).1.map jD),.int .i64 (mm p C f).2.1,.int .i64 (mm p C f).2.2])),[]):=by
 have I:=OS p A2 A5;have A6:=vQ C (by have:=A0.le;omega);have AG:=A0.len;obtain⟨AK,A⟩:=AF C f A0 (by omega);have g1:¬((f:Int)<0):=by omega
 have g2:¬(16384<(f:Int)):=by omega
 have A1:=λJ M N O T U V Y Z y k Q E v1 v6 X6=>Ks p.vars A2 J M N .dead O T U V Y Z y k Q E p.vars [] v1 v6 X6 rfl;have AH:=λe=>YT e;have A7:=ade;unfold mm;rw[abH (by simp)];simp[f22]at A1;simp[f22,mG,oM,gV,DY,I,A6,AG,g1,g2,aj];generalize cD p.vars p.body ⟨C,f⟩=q at*;obtain⟨w,A3,A4⟩:=q;cases w with
 |ft e=>
  simp[fF]at A;refine A1 _ _ _ _ _ _ _ _ _ _ _ (λr=>r=some (.ret (.d (.agg [.list (A3.map jD),.int .i64 e,.int .i64 A4])),[])) (λv1 v6 X6=>?_) _ _ _;simp[f22,mG,oM,gV,DY,A,AH,aj]
 |on=>
  simp[fF,fE]at A;refine A1 _ _ _ _ _ _ _ _ _ _ _ (λr=>r=some (.ret (.d (.agg [.list (A3.map jD),.int .i64 0,.int .i64 A4])),[])) (λv1 v6 X6=>?_) _ _ _;simp[f22,mG,oM,gV,DY,A,A7,aj]
 |lv=>
  simp[fF,fE]at A;refine A1 _ _ _ _ _ _ _ _ _ _ _ (λr=>r=some (.ret (.d (.agg [.list (A3.map jD),.int .i64 0,.int .i64 A4])),[])) (λv1 v6 X6=>?_) _ _ _;simp[f22,mG,oM,gV,DY,A,A7,aj]
 |rt=>
  simp[fF,fE]at A;refine A1 _ _ _ _ _ _ _ _ _ _ _ (λr=>r=some (.ret (.d (.agg [.list (A3.map jD),.int .i64 0,.int .i64 A4])),[])) (λv1 v6 X6=>?_) _ _ _;simp[f22,mG,oM,gV,DY,A,A7,aj]
theorem YU{p:Pg}(A2:p.vars.length<=1000)(A5:∀v∈p.vars,dQ v=true)(C:List Int)(f:Int)(A0:C.length<=100000)(AI:(¬(C.length:Int)=eF p.vars\/f<0)\/16384<f):ah ctx 22 [.d (nV p),.d (.list (C.map jD)),.d (.int .i64 f)] []=
 some (.ret (.d (.agg [.list (C.map jD),.int .i64 0,.int .i64 (-1)])),[]):=by
 have I:=OS p A2 A5;have A6:=vQ C A0;rw[abH (by simp)];simp[f22,mG,oM,gV,DY,I,A6,AI,aj]
end Go.Am
end
section
namespace Go.Am
open Go
theorem AO:∀(l p:List Vr)(n:Int),n<=1024->(GX l p n).1=0->n+eF l<=1024
 |[],_,n,A,_=>by simp[eF];exact A
 |v::r,p,n,A,h=>by
  unfold GX at h;split at h
  ·simp at h
  ·split at h
   ·simp at h
   ·have:=AO r _ _ (by omega) h;simp only[eF];omega
section
variable {vs:List Vr}
end
theorem alS(x:Ex):7<=fh (bL x):=by
 obtain⟨op,n,name,field,sub,line⟩:=x;simp only[bL,fh,db];omega
theorem ais(n:Int)(t:Bool)(line:Int):fh (bL (kq n t line))<=14:=by
 unfold kq;split
 ·simp[bL,j8,fh,db]
 ·split
  ·simp[bL,j8,fh,db]
  ·simp[bL,j8,fh,db]
theorem alT(x:Ex):fh (bL (jX x))<=fh (bL x):=by
 unfold jX;split
 ·omega
 ·split
  ·omega
  ·rename_i l D;split
   ·omega
   ·rename_i r H;split
    ·omega
    ·have hm:=λI=>ais r.1 r.2.1 I;obtain⟨op,n,name,field,sub,line⟩:=x;simp only[mO]at D;cases sub with
     |nil=>
      simp only[m9,abX]at D;subst D;simp[AE]at H
     |cons y q=>
      have:=alS y;refine ahI (hm _) ?_;simp only[bL,j8,fh,db];omega
mutual
theorem acb:∀x:Ex,fh (bL (cS x))<=fh (bL x)
 | .mk op n name field sub line=>by
  have h:=Kv sub;have A:=alT (.mk op n name field (cf sub) line);unfold cS;refine ahI A ?_;simp only[bL,fh,db];omega
theorem Kv:∀l:List Ex,db (j8 (cf l))<=db (j8 l)
 |[]=>by simp[cf]
 |x::r=>by
  have A:=acb x;have E:=Kv r;simp only[cf,j8,db];omega
end
theorem acd(x:Ex):db (Eo (cS x))<=db (Eo x):=by
 have:=acb x;rw[EE,EE]at this;omega
mutual
theorem alU:∀x:Sm,fh (cK (pQ x))<=fh (cK x)
 | .mk op name to val J N fields M line=>by
  have A:=acd to;have E:=acd val;have O:=Kv J;have T:=Wl M;simp only[pQ,cK,fh,db,yj];omega
theorem Kw:∀l:List Sm,db (qt (iW l))<=db (qt l)
 |[]=>by simp[iW]
 |x::r=>by
  have A:=alU x;have E:=Kw r;simp only[iW,qt,db];omega
theorem Wl:∀l:List (List Sm),db (rY (gd l))<=db (rY l)
 |[]=>by simp[gd]
 |b::r=>by
  have A:=Kw b;have E:=Wl r;simp only[gd,rY,db,fh];omega
end
section
variable {vs:List Vr}
end
end Go.Am
end
section
namespace Go.Am
open Go Go.Proofs Go.Proofs.Tryz
variable [Inhabited bI]
set_option maxRecDepth 20000
def uj(o:Option (Int×Bool)):Out:=match o with|some c=>.ret (.bY [.d (.int .i64 c.1),.d (.bool c.2),.d (.bool true)])|none=>.ret (.bY [.d (.int .i64 0),.d (.bool false),.d (.bool false)])
theorem Wm(n:Int)(t:Bool)(line:Int):ah ctx 168 [.d (.int .i64 n),.d (.bool t),.d (.int .i64 line)] []=some (.ret (.d (bL (kq n t line))),[]):=by
 rw[af3 (by simp)];cases t with
 |true=>simp[f168,kq,bL,j8]
 |false=>
  by_cases h:0<=n
  ·simp[f168,kq,bL,j8,h]
  ·simp[f168,kq,bL,j8,h,uY]
theorem Bw(x:Ex):ah ctx 166 [.d (bL x)] []=some (uj (iu x),[]):=by
 obtain⟨op,n,name,field,sub,line⟩:=x;rw[af1 (by simp)];simp[f166,au];by_cases A:op=1
 ·subst A;simp[iu,uj]
 by_cases D:op=2
 ·subst D;simp[iu,uj]
 by_cases E:op=6
 ·subst E;match sub with
  |[]=>simp[iu,uj]
  |[y]=>
   by_cases H:bO y=1
   ·simp[iu,uj,H,au,uY]
   ·simp[iu,uj,H,au]
  |y::z::r=>
   have I:¬((r.length:Int)+1+1=1):=by omega
   simp[iu,uj,I]
 ·simp[iu,uj,A,D,E]
def u6(y:Ex):Prop:=ah ctx 99 [.d (bL y)] []=some (.ret (.d (bL (cS y))),[])
theorem Kx(l:List Ex)(M:l.length<100000000)(A B:cB)(A2:A.key=150)(A3:B.key=200)(O T:ay)(k:Kt)(Q:List Ex->cd->Prop)
 (I:∀(Y:Env)(out:List Ex) v v3 D,Q out (k (.exit 0) ⟨105,aC,(1,true,.ptr 150 1 0)::(2,true,.ptr 200 1 0)::(3,true,.vec 250 v 0 out.length)::Y,[A,B,⟨250,v,.vec 6 (out.map bL)⟩,⟨350,v3,D⟩,⟨550,0,O⟩,⟨700,0,T⟩]⟩)):
 ∀(rest pre out:List Ex)(v v3:Nat)(D:ay),l=pre++rest->out.length=pre.length->(∀y∈rest,u6 y)->
 Q (out++cf rest) (aN ctx 99 (.loop (Code.at (bq f99) [1,1,0,1,0,0])) ⟨105,aC,[(1,true,.ptr 150 1 0),(2,true,.ptr 200 1 0),(3,true,.vec 250 v 0 out.length),(20,true,.d (.list (l.map bL))),(21,true,.d (.int .i64 l.length)),(22,true,.d (.int .i64 pre.length))],[A,B,⟨250,v,.vec 6 (out.map bL)⟩,⟨350,v3,D⟩,⟨550,0,O⟩,⟨700,0,T⟩]⟩ k)
 |[],pre,out,v,v3,D,E,N,H=>by
  have U:pre.length=l.length:=by rw[E];simp
  have:=I [(20,true,.d (.list (l.map bL))),(21,true,.d (.int .i64 l.length)),(22,true,.d (.int .i64 l.length)),(23,true,.d (.bool false))] out v v3 D;simp[cf]at this⊢;rw[U,ag];simp[f99,this]
 |x::rest,pre,out,v,v3,D,E,N,H=>by
  have V:pre.length<l.length:=by rw[E];simp
  have Z:l[pre.length]=x:=by simp[E]
  have J:=H x (by simp);unfold u6 at J;have ih:=λv v3 D=>Kx l M A B A2 A3 O T k Q I rest (pre++[x]) (out++[cS x]) v v3 D (by simp[E]) (by simp[N]) (λy q=>H y (by simp[q]));have A':IntKind.i64.wrap ((pre.length:Int)+1)=(pre.length:Int)+1:=aH (by unfold aI;omega);have A0:out.length<=4611686018427387903:=by omega
  have A1:(out.length+1)*80<=140737488355328:=by omega
  have e:out++cf (x::rest)=out++[cS x]++cf rest:=by simp[cf]
  rw[e,ag];generalize cS x=A5 at*;simp[f99,au]at ih J⊢;simp[V,Z,A2,A3,au,J,A',A0,A1,ih]
theorem Ky(l:List Ex)(M:l.length<100000000)(k:Kt)(Q:List Ex->cd->Prop)
 (I:∀(Y:Env)(out:List Ex) v v3 D,Q out (k (.exit 0) ⟨19,aC,(3,true,.vec 250 v 0 out.length)::Y,[⟨250,v,.vec 6 (out.map bL)⟩,⟨350,v3,D⟩]⟩)):
 ∀(rest pre out:List Ex)(v v3:Nat)(D:ay),l=pre++rest->out.length=pre.length->(∀y∈rest,u6 y)->
 Q (out++cf rest) (aN ctx 100 (.loop (Code.at (bq f100) [1,1,0,1,0,0])) ⟨19,aC,[(3,true,.vec 250 v 0 out.length),(6,true,.d (.list (l.map bL))),(7,true,.d (.int .i64 l.length)),(8,true,.d (.int .i64 pre.length))],[⟨250,v,.vec 6 (out.map bL)⟩,⟨350,v3,D⟩]⟩ k)
 |[],pre,out,v,v3,D,E,N,H=>by
  have U:pre.length=l.length:=by rw[E];simp
  have:=I [(6,true,.d (.list (l.map bL))),(7,true,.d (.int .i64 l.length)),(8,true,.d (.int .i64 l.length)),(9,true,.d (.bool false))] out v v3 D;simp[cf]at this⊢;rw[U,ag];simp[f100,this]
 |x::rest,pre,out,v,v3,D,E,N,H=>by
  have V:pre.length<l.length:=by rw[E];simp
  have Z:l[pre.length]=x:=by simp[E]
  have J:=H x (by simp);unfold u6 at J;have ih:=λv v3 D=>Ky l M k Q I rest (pre++[x]) (out++[cS x]) v v3 D (by simp[E]) (by simp[N]) (λy q=>H y (by simp[q]));have A':IntKind.i64.wrap ((pre.length:Int)+1)=(pre.length:Int)+1:=aH (by unfold aI;omega);have A0:out.length<=4611686018427387903:=by omega
  have A1:(out.length+1)*80<=140737488355328:=by omega
  have e:out++cf (x::rest)=out++[cS x]++cf rest:=by simp[cf]
  rw[e,ag];generalize cS x=A5 at*;simp[f100,au]at ih J⊢;simp[V,Z,au,J,A',A0,A1,ih]
theorem YV(l:List Ex)(M:l.length<100000000)(H:∀y∈l,u6 y):ah ctx 100 [.d (.list (l.map bL))] []=some (.ret (.d (.list ((cf l).map bL))),[]):=by
 have A4:=λk Q I v v3 D=>Ky l M k Q I l [] [] v v3 D rfl rfl H;rw[afK (by simp)];simp[f100]at A4⊢;refine A4 _ (λout r=>out=cf l->r=some (.ret (.d (.list ((cf l).map bL))),[])) (λY out v v3 D h=>?_) _ _ _ rfl;subst h;simp
end Go.Am
end
section
namespace Go.Am
open Go Go.Proofs Go.Proofs.Tryz
variable [Inhabited bI]
set_option maxRecDepth 20000
set_option maxHeartbeats 4000000
theorem asD{α:Type}{l:List α}(h:l.length=2):∃a b,l=[a,b]:=by
 match l,h with
 |[a,b],_=>exact⟨a,b,rfl⟩
theorem ait{op n line:Int}{name field:Tx}{sub:List Ex}(AC:sub.length<100000000)(A6:6<=op->sub.length=1\/sub.length=2)(A7:∀y∈sub,u6 y)(A8:∀y∈sub,∀c,iu (cS y)=some c->aI c.1):u6 (.mk op n name field sub line):=by
 have A4:=λA B AD AF AG AH k Q AI v v3 AB=>Kx sub AC A B AD AF AG AH k Q AI sub [] [] v v3 AB rfl rfl A7;unfold u6;have e:cS (.mk op n name field sub line)=jX (.mk op n name field (cf sub) line):=by simp[cS]
 rw[e];have A0:∀y∈cf sub,∀c,iu y=some c->aI c.1:=by
  rw[iI];intro y D;obtain⟨z,J,rfl⟩:=ab4.1 D;exact A8 z J
 have A9:6<=op->(cf sub).length=1\/(cf sub).length=2:=by rw[iI];simpa using A6
 obtain⟨R,H⟩:∃R,R=bL (jX (.mk op n name field (cf sub) line)):=⟨_,rfl⟩;rw[<-H,alm (by simp)];simp[f99,au]at A4⊢;refine A4 _ _ ?_ ?_ _ _ _ (λout r=>out=cf sub->r=some (.ret (.d R),[])) (λY out v v3 AB h=>?_) _ _ _ rfl
 ·rfl
 ·rfl
 subst h;generalize cf sub=out at*;have V:=Bw (.mk op n name field out line);by_cases Z:op<6
 ·have M:jX (.mk op n name field out line)=.mk op n name field out line:=by simp[jX,Z]
  rw[M]at H;subst H;simp[f99,Z,au]
 cases A1:iu (.mk op n name field out line)with
 |some c=>
  have M:jX (.mk op n name field out line)=.mk op n name field out line:=by simp[jX,A1]
  rw[M]at H;subst H;rw[A1]at V;simp[au]at V;simp[f99,Z,au,V,uj]
 |none=>
  rw[A1]at V;rcases A9 (by omega)with AJ|AK
  ·obtain⟨y,rfl⟩:=FQ AJ;have D:=Bw y;simp[au,uj]at V D;simp[f99,Z,au,V];rw[ag];cases O:iu y with
   |none=>
    have M:jX (.mk op n name field [y] line)=.mk op n name field [y] line:=by simp[jX,m9,O]
    rw[M]at H;subst H;rw[O]at D;simp at D;simp[au,D]
   |some c=>
    obtain⟨a,t⟩:=c;have AA:aI a:=A0 y (by simp) _ O;have E:=pz t;have I:=B8 op a t AA;rw[O]at D;simp at D;have M:jX (.mk op n name field [y] line)=if (kh op a t).2.2≠0\/((kh op a t).2.1=false/\(kh op a t).1= -9223372036854775808)then .mk op n name field [y] line else kq (kh op a t).1 (kh op a t).2.1 line:=by
     simp[jX,m9,O,A1,AE,Z]
    rw[M]at H;generalize kh op a t=q at*;obtain⟨q1,q2,q3⟩:=q;have hm:=Wm q1 q2 line;simp only at H I;have A2:(q3≠0/\R=bL (.mk op n name field [y] line))\/(q3=0/\q2=false/\q1= -9223372036854775808/\R=bL (.mk op n name field [y] line))\/(∃e,R=bL e/\q3=0/\q2=false/\q1≠ -9223372036854775808/\ah ctx 168 [.d (.int .i64 q1),.d (.bool q2),.d (.int .i64 line)] []=some (.ret (.d (bL e)),[]))\/(∃e,R=bL e/\q3=0/\q2=true/\ah ctx 168 [.d (.int .i64 q1),.d (.bool q2),.d (.int .i64 line)] []=some (.ret (.d (bL e)),[])):=by
     by_cases N:q3≠0\/(q2=false/\q1= -9223372036854775808)
     ·rw[abT N]at H;rcases N with h|h
      ·exact .inl ⟨h,H⟩
      ·by_cases A3:q3=0
       ·exact .inr (.inl ⟨A3,h.1,h.2,H⟩)
       ·exact .inl ⟨A3,H⟩
     ·rw[abN N]at H;simp only[amr,not_and,amx]at N;cases q2 with
      |true=>exact .inr (.inr (.inr ⟨_,H,N.1,rfl,hm⟩))
      |false=>exact .inr (.inr (.inl ⟨_,H,N.1,rfl,N.2 rfl,hm⟩))
    clear H hm A0 A8 A7 A4 A6 A9;cases t
    ·simp[dk]at E I;rcases A2 with ⟨T,H⟩|⟨rfl,rfl,rfl,H⟩|⟨e,rfl,rfl,rfl,U,hm⟩|⟨e,rfl,rfl,rfl,hm⟩
     ·subst H;simp[au,D,E,I,T];rw[ag];simp[au,D,E,I,T]
     ·subst H;simp[au,D,E,I];rw[ag];simp[au,D,E,I]
     ·simp[au]at hm;simp[au,D,E,I,U,hm];rw[ag];simp[au,D,E,I,U,hm]
     ·simp[au]at hm;simp[au,D,E,I,hm];rw[ag];simp[au,D,E,I,hm]
    ·simp[dk]at E I;rcases A2 with ⟨T,H⟩|⟨rfl,rfl,rfl,H⟩|⟨e,rfl,rfl,rfl,U,hm⟩|⟨e,rfl,rfl,rfl,hm⟩
     ·subst H;simp[au,D,E,I,T];rw[ag];simp[au,D,E,I,T]
     ·subst H;simp[au,D,E,I];rw[ag];simp[au,D,E,I]
     ·simp[au]at hm;simp[au,D,E,I,U,hm];rw[ag];simp[au,D,E,I,U,hm]
     ·simp[au]at hm;simp[au,D,E,I,hm];rw[ag];simp[au,D,E,I,hm]
  ·obtain⟨y,z,rfl⟩:=asD AK;have D:=Bw y;have J:=Bw z;simp[au,uj]at V D J;simp[f99,Z,au,V];rw[ag];cases O:iu y with
   |none=>
    have M:jX (.mk op n name field [y,z] line)=.mk op n name field [y,z] line:=by simp[jX,m9,O]
    rw[M]at H;subst H;rw[O]at D;simp at D;simp[au,D]
   |some c=>
    obtain⟨a,t⟩:=c;have AA:aI a:=A0 y (by simp) _ O;have E:=pz t;rw[O]at D;simp at D;cases A':iu z with
    |none=>
     have M:jX (.mk op n name field [y,z] line)=.mk op n name field [y,z] line:=by simp[jX,m9,O,A']
     rw[M]at H;subst H;rw[A']at J;simp at J E;simp[au,D,E];rw[ag];simp[au,J]
    |some d=>
     obtain⟨b,u⟩:=d;have AL:aI b:=A0 z (by simp) _ A';have hu:=pz u;rw[A']at J;simp at J;by_cases A5:t=u
     ·subst A5;have I:=qN op a b t AA AL;have M:jX (.mk op n name field [y,z] line)=if (ik op a b t).2.2≠0\/((ik op a b t).2.1=false/\(ik op a b t).1= -9223372036854775808)then .mk op n name field [y,z] line else kq (ik op a b t).1 (ik op a b t).2.1 line:=by
       simp[jX,m9,O,A',A1,AE,Z]
      rw[M]at H;generalize ik op a b t=q at*;obtain⟨q1,q2,q3⟩:=q;have hm:=Wm q1 q2 line;simp only at H I;have A2:(q3≠0/\R=bL (.mk op n name field [y,z] line))\/(q3=0/\q2=false/\q1= -9223372036854775808/\R=bL (.mk op n name field [y,z] line))\/(∃e,R=bL e/\q3=0/\q2=false/\q1≠ -9223372036854775808/\ah ctx 168 [.d (.int .i64 q1),.d (.bool q2),.d (.int .i64 line)] []=some (.ret (.d (bL e)),[]))\/(∃e,R=bL e/\q3=0/\q2=true/\ah ctx 168 [.d (.int .i64 q1),.d (.bool q2),.d (.int .i64 line)] []=some (.ret (.d (bL e)),[])):=by
       by_cases N:q3≠0\/(q2=false/\q1= -9223372036854775808)
       ·rw[abT N]at H;rcases N with h|h
        ·exact .inl ⟨h,H⟩
        ·by_cases A3:q3=0
         ·exact .inr (.inl ⟨A3,h.1,h.2,H⟩)
         ·exact .inl ⟨A3,H⟩
       ·rw[abN N]at H;simp only[amr,not_and,amx]at N;cases q2 with
        |true=>exact .inr (.inr (.inr ⟨_,H,N.1,rfl,hm⟩))
        |false=>exact .inr (.inr (.inl ⟨_,H,N.1,rfl,N.2 rfl,hm⟩))
      clear H hm A0 A8 A7 A4 A6 A9;cases t
      ·simp[dk]at E I;rcases A2 with ⟨T,H⟩|⟨rfl,rfl,rfl,H⟩|⟨e,rfl,rfl,rfl,U,hm⟩|⟨e,rfl,rfl,rfl,hm⟩
       ·subst H;simp[au,D,J,E,I,T];rw[ag];simp[au,D,J,E,I,T];rw[ag];simp[au,D,J,E,I,T]
       ·subst H;simp[au,D,J,E,I];rw[ag];simp[au,D,J,E,I];rw[ag];simp[au,D,J,E,I]
       ·simp[au]at hm;simp[au,D,J,E,I,U,hm];rw[ag];simp[au,D,J,E,I,U,hm];rw[ag];simp[au,D,J,E,I,U,hm]
       ·simp[au]at hm;simp[au,D,J,E,I,hm];rw[ag];simp[au,D,J,E,I,hm];rw[ag];simp[au,D,J,E,I,hm]
      ·simp[dk]at E I;rcases A2 with ⟨T,H⟩|⟨rfl,rfl,rfl,H⟩|⟨e,rfl,rfl,rfl,U,hm⟩|⟨e,rfl,rfl,rfl,hm⟩
       ·subst H;simp[au,D,J,E,I,T];rw[ag];simp[au,D,J,E,I,T];rw[ag];simp[au,D,J,E,I,T]
       ·subst H;simp[au,D,J,E,I];rw[ag];simp[au,D,J,E,I];rw[ag];simp[au,D,J,E,I]
       ·simp[au]at hm;simp[au,D,J,E,I,U,hm];rw[ag];simp[au,D,J,E,I,U,hm];rw[ag];simp[au,D,J,E,I,U,hm]
       ·simp[au]at hm;simp[au,D,J,E,I,hm];rw[ag];simp[au,D,J,E,I,hm];rw[ag];simp[au,D,J,E,I,hm]
     ·have M:jX (.mk op n name field [y,z] line)=.mk op n name field [y,z] line:=by simp[jX,m9,O,A',AE,A5]
      rw[M]at H;subst H;cases t<;>cases u
      ·exact absurd rfl A5
      ·simp[dk]at E hu;simp[au,D,J,E,hu];rw[ag];simp[au,D,J,E,hu];rw[ag];simp[au,D,J,E,hu]
      ·simp[dk]at E hu;simp[au,D,J,E,hu];rw[ag];simp[au,D,J,E,hu];rw[ag];simp[au,D,J,E,hu]
      ·exact absurd rfl A5
end Go.Am
end
section
namespace Go.Am
open Go Go.Proofs
variable [Inhabited bI]
set_option maxRecDepth 20000
theorem aiu{vs:List Vr}{x:Ex}(A:bH x=true)(he:(aL vs x).e=0):∀y∈cV x,(aL vs y).e=0:=by
 cases Bt A he with
 |num h=>simp
 |ru h=>simp
 |var N Y O=>simp
 |idx N Y O T J ty=>simpa using J
 |VP N O A2 A=>simp
 |one Z T J ty=>simpa using J
 |two Z T J A3 q ty A4=>simpa using ⟨J,q⟩
mutual
theorem pA{vs:List Vr}:∀x:Ex,bH x=true->cO x=true->(aL vs x).e=0->u6 x
 | .mk op n name field sub line,A,H,he=>by
  have I:=aiu A he;simp only[mO]at I;have A5:=A;simp only[bH,Ds,abQ]at A;simp only[cO,Ds]at H;have E:=A.2.1;unfold eT at E;have U:=A.2.2.2.2;have V:=H.2;refine ait (by split at E<;>(try split at E)<;>omega) (λA'=>by
   by_cases h:op=4\/op=6\/op=7
   ·rw[abT h]at E;exact .inl E
   ·rw[abN h,abT (by omega)]at E;exact .inr E) (Bx sub U V I) (λy D c A0=>?_)
  have M:=Bq y ((im _).1 U y D) ((lh _).1 V y D) (I y D);have:=(VM A0 M.1 M.2.1 (by rw[M.2.2.1];exact I y D)).2;unfold aI;omega
theorem Bx{vs:List Vr}:∀l:List Ex,bG l=true->cQ l=true->(∀y∈l,(aL vs y).e=0)->∀y∈l,u6 y
 |[],_,_,_,y,D=>absurd D (aed)
 |x::r,A,H,he,y,D=>by
  simp only[bG,Ds]at A;simp only[cQ,Ds]at H;rcases abV.1 D with h|h
  ·rw[h];exact pA x A.1 H.1 (he x (by simp))
  ·exact Bx r A.2 H.2 (λz A1=>he z (by simp[A1])) y h
end
theorem jd{x:Ex}(h:dL x=true):u6 x:=by
 obtain⟨op,n,name,field,sub,line⟩:=x;have h:(decide (op=0)&&(decide (n=0)&&decide (name.length+field.length+sub.length=0)))=true:=h;simp only[Ds,abQ]at h;have I:sub=[]:=ab8 (by omega);have A6:=h.1;subst I;exact ait (by simp) (λA'=>by omega) (λy D=>absurd D (aed)) (λy D=>absurd D (aed))
end Go.Am
end
section
namespace Go.Am
open Go Go.Proofs Go.Proofs.Tryz
variable [Inhabited bI]
set_option maxRecDepth 20000
set_option maxHeartbeats 1000000
def KG(b:List Sm):Prop:=ah ctx 60 [.d (.list (b.map cK))] []=some (.ret (.d (.list ((iW b).map cK))),[])
def KH(x:Sm):Prop:=ah ctx 99 [.d (bL (eB x))] []=some (.ret (.d (bL (cS (eB x)))),[])/\ah ctx 99 [.d (bL (dc x))] []=some (.ret (.d (bL (cS (dc x)))),[])/\ah ctx 100 [.d (.list ((bJ x).map bL))] []=some (.ret (.d (.list ((cf (bJ x)).map bL))),[])/\(aQ x).length<100000000/\∀b∈aQ x,KG b
theorem Pr(l:List (List Sm))(O:l.length<100000000)(M T N:Nat)(U:List D)(cs:List AV)(A0:∀v ai,cs.map (kK 400 v ai)=cs)(a9 V Z:D)(k:Kt)(Q:List (List Sm)->cd->Prop)
 (I:∀(Y:Env)(out:List (List Sm)) v,Q out (k (.exit 2) ⟨48,aC,(3,true,.vec 250 M 0 T)::(5,true,.ptr 350 N 0)::(6,true,.d (.list (out.map lS)))::(9,true,.d a9)::(10,true,.d V)::(11,true,.d Z)::Y,[⟨250,M,.vec 19 U⟩,⟨350,N,.box cs⟩,⟨400,v,.dead⟩]⟩)):
 ∀(rest pre out:List (List Sm))(v:Nat),l=pre++rest->out.length=pre.length->(∀b∈rest,KG b)->
 Q (out++gd rest) (aN ctx 60 (.loop (Code.at (bq f60) [1,1,0,1,0,0,1,1,0,0,1,1,1,0,1,0,0])) ⟨48,aC,[(3,true,.vec 250 M 0 T),(5,true,.ptr 350 N 0),(6,true,.vec 400 v 0 out.length),(9,true,.d a9),(10,true,.d V),(11,true,.d Z),(28,true,.d (.list (l.map lS))),(29,true,.d (.int .i64 l.length)),(30,true,.d (.int .i64 pre.length))],[⟨250,M,.vec 19 U⟩,⟨350,N,.box cs⟩,⟨400,v,.vec 1 (out.map lS)⟩]⟩ k)
 |[],pre,out,v,A,q,J=>by
  have A1:pre.length=l.length:=by rw[A];simp
  have:=I [(28,true,.d (.list (l.map lS))),(29,true,.d (.int .i64 l.length)),(30,true,.d (.int .i64 l.length)),(31,true,.d (.bool false))] out (v+1);simp[gd]at this⊢;rw[A1,ag];simp[f60,A0,this]
 |b::rest,pre,out,v,A,q,J=>by
  have A2:pre.length<l.length:=by rw[A];simp
  have A3:l[pre.length]=b:=by simp[A]
  have A4:=J b (by simp);unfold KG at A4;have ih:=λv=>Pr l O M T N U cs A0 a9 V Z k Q I rest (pre++[b]) (out++[iW b]) v (by simp[A]) (by simp[q]) (λy A5=>J y (by simp[A5]));have A6:IntKind.i64.wrap ((pre.length:Int)+1)=(pre.length:Int)+1:=aH (by unfold aI;omega);have A7:out.length<=4611686018427387903:=by omega
  have A8:(out.length+1)*24<=140737488355328:=by omega
  have e:out++gd (b::rest)=out++[iW b]++gd rest:=by simp[gd]
  rw[e,ag];generalize iW b=AJ at*;simp[f60,lS]at ih A4⊢;simp[A2,A3,lS,A4,A6,A7,A8,ih]
theorem Ps(l:List Sm)(O:l.length<100000000)(k:Kt)(Q:List Sm->cd->Prop)
 (I:∀(Y:Env)(out:List Sm) v v3 E v4 H,Q out (k (.exit 0) ⟨48,aC,(3,true,.vec 250 v 0 out.length)::Y,[⟨250,v,.vec 19 (out.map cK)⟩,⟨350,v3,E⟩,⟨400,v4,H⟩]⟩)):
 ∀(rest pre out:List Sm)(v v3:Nat)(E:ay)(v4:Nat)(H:ay),l=pre++rest->out.length=pre.length->(∀x∈rest,KH x)->
 Q (out++iW rest) (aN ctx 60 (.loop (Code.at (bq f60) [1,1,0,1,0,0])) ⟨48,aC,[(3,true,.vec 250 v 0 out.length),(9,true,.d (.list (l.map cK))),(10,true,.d (.int .i64 l.length)),(11,true,.d (.int .i64 pre.length))],[⟨250,v,.vec 19 (out.map cK)⟩,⟨350,v3,E⟩,⟨400,v4,H⟩]⟩ k)
 |[],pre,out,v,v3,E,v4,H,A,q,J=>by
  have A1:pre.length=l.length:=by rw[A];simp
  have:=I [(9,true,.d (.list (l.map cK))),(10,true,.d (.int .i64 l.length)),(11,true,.d (.int .i64 l.length)),(12,true,.d (.bool false))] out v v3 E v4 H;simp[iW]at this⊢;rw[A1,ag];simp[f60,this]
 |x::rest,pre,out,v,v3,E,v4,H,A,q,J=>by
  have A2:pre.length<l.length:=by rw[A];simp
  have A3:l[pre.length]=x:=by simp[A]
  obtain⟨A9,AA,AB,AD,AE⟩:=J x (by simp);have ih:=λv v3 E v4 H=>Ps l O k Q I rest (pre++[x]) (out++[pQ x]) v v3 E v4 H (by simp[A]) (by simp[q]) (λy A5=>J y (by simp[A5]));have A':=λM T N U cs A0 a9 V Z k Q I v=>Pr (aQ x) AD M T N U cs A0 a9 V Z k Q I (aQ x) [] [] v rfl rfl AE;have A6:IntKind.i64.wrap ((pre.length:Int)+1)=(pre.length:Int)+1:=aH (by unfold aI;omega);have A7:out.length<=4611686018427387903:=by omega
  have A8:(out.length+1)*288<=140737488355328:=by omega
  have e:out++iW (x::rest)=out++[pQ x]++iW rest:=by simp[iW]
  have AF:cK (pQ x)=.agg [.int .i64 (bj x),.str (gM x),.int .i64 (bO (cS (eB x))),.int .i64 (fW (cS (eB x))),.str (dS (cS (eB x))),.str (eS (cS (eB x))),.list ((cV (cS (eB x))).map bL),.int .i64 (jq (cS (eB x))),.int .i64 (bO (cS (dc x))),.int .i64 (fW (cS (dc x))),.str (dS (cS (dc x))),.str (eS (cS (dc x))),.list ((cV (cS (dc x))).map bL),.int .i64 (jq (cS (dc x))),.list ((cf (bJ x)).map bL),.list ((cM x).map il),.list ((dE x).map .str),.list ((gd (aQ x)).map lS),.int .i64 (kS x)]:=by
   obtain⟨op,name,to,val,AK,AL,fields,AM,line⟩:=x;rw[cG];simp[pQ,bj,gM,eB,dc,bJ,cM,dE,aQ,kS]
  rw[e,ag];have AG:(cK (pQ x)).size=19:=by rw[cG];simp
  generalize pQ x=AH at*;generalize cS (eB x)=t at*;generalize cS (dc x)=w at*;generalize cf (bJ x)=AN at*;simp[f60]at ih A'⊢;simp[au]at A9 AA AB;simp[A2,A3,cG x,au,A9,AA,AB,aj];refine A' _ _ _ _ _ ?_ _ _ _ _ (λAC r=>AC=gd (aQ x)->Q (out++AH::iW rest) r) (λY AC AO AI=>?_) _ rfl
  ·intro v ai;simp
  subst AI;simp[f60,A6,A7,A8,<-AF,AG,ih]
theorem C4(l:List Sm)(O:l.length<100000000)(J:∀x∈l,KH x):KG l:=by
 have A':=λk Q I v v3 E v4 H=>Ps l O k Q I l [] [] v v3 E v4 H rfl rfl J;unfold KG;rw[alb (by simp)];simp[f60]at A'⊢;refine A' _ (λout r=>out=iW l->r=some (.ret (.d (.list ((iW l).map cK))),[])) (λY out v v3 E v4 H h=>?_) _ _ _ _ _ rfl;subst h;simp
end Go.Am
end
section
namespace Go.Am
open Go Go.Proofs Go.Proofs.Tryz
variable [Inhabited bI]
set_option maxRecDepth 20000
theorem alV{vs:List Vr}{lp:Bool}{x:Sm}(E:jF x=true)(D:iq x=true)(h:(kW vs lp x).1=0)(A:yO x)(V:∀(lp:Bool) (cs:List Ex),cH (aQ x)=true->eK (aQ x)=true->(eN vs lp cs (aQ x)).1=0->l9 (aQ x)->∀b∈aQ x,KG b):KH x:=by
 have AC:(u6 (eB x)/\u6 (dc x))/\(∀c∈bJ x,u6 c)/\∀b∈aQ x,KG b:=by
  have AD:cO (eB x)=true/\cO (dc x)=true/\cQ (bJ x)=true/\eK (aQ x)=true:=by
   obtain⟨op,name,to,val,A6,A7,fields,A2,line⟩:=x;simp only[iq,Ds]at D;exact⟨D.1,D.2.1,D.2.2.1,D.2.2.2.2⟩
  have Y:l9 (aQ x):=by
   obtain⟨op,name,to,val,A6,A7,fields,A2,line⟩:=x;simp only[yO]at A;exact A.2
  obtain⟨AE,A3,U,Z⟩:=AD;cases FR E h with
  |asg H A9 A4 ft AF O AH AA=>exact⟨⟨pA _ ft AE AF,pA _ O A3 AH⟩,by simp[bJ],by simp[aQ]⟩
  |cnd H J A8 T I q M hh=>
   exact⟨⟨jd H,jd J⟩,Bx _ A8 U (λc A5=>(jY (AG I hh c A5)).1),V _ _ M Z hh Y⟩
  |cas H O A' I q AV M hh=>exact⟨⟨jd H,pA _ O A3 (jY A').1⟩,by simp[bJ],V _ _ M Z hh Y⟩
  |cnt A H J A9 A4 AW AA AI AJ AK AL AM AN M hh=>
   simp only[bJ,cQ,Ds]at U;refine⟨⟨jd H,jd J⟩,?_,V true [] (by simpa [aQ,cH]using M) Z (by simp[aQ,eN,eU,hh]) Y⟩;intro c A5;simp only[bJ,abV,aed,amt]at A5;rcases A5 with rfl|rfl|rfl
   ·exact pA _ AI U.1 (jY AJ).1
   ·exact pA _ AK U.2.1 (jY AL).1
   ·exact pA _ AM U.2.2.1 (jY AN).1
  |whl H O A' M hh=>exact⟨⟨jd H,pA _ O A3 (jY A').1⟩,by simp[bJ],V true [] (by simpa [aQ,cH]using M) Z (by simp[aQ,eN,eU,hh]) Y⟩
  |rep H O A' M hh=>exact⟨⟨jd H,pA _ O A3 (jY A').1⟩,by simp[bJ],V true [] (by simpa [aQ,cH]using M) Z (by simp[aQ,eN,eU,hh]) Y⟩
  |ext H J AX=>exact⟨⟨jd H,jd J⟩,by simp[bJ],by simp[aQ]⟩
  |ret H J=>exact⟨⟨jd H,jd J⟩,by simp[bJ],by simp[aQ]⟩
  |cal AY H J A9 AA A8 AO AZ hh=>exact⟨⟨jd H,jd J⟩,Bx _ A8 U (Bu _ _ [] AO hh),by simp[aQ]⟩
 have AB:(bJ x).length<100000000/\(aQ x).length<100000000:=by
  obtain⟨op,name,to,val,A6,A7,fields,A2,line⟩:=x;simp only[yO]at A;exact⟨A.1.2.2.1.1,A.1.2.2.2.2.2⟩
 obtain⟨⟨AP,AQ⟩,AR,AS⟩:=AC;refine⟨?_,?_,?_,AB.2,AS⟩
 ·exact AP
 ·exact AQ
 ·exact YV _ AB.1 AR
mutual
theorem aiv{vs:List Vr}:∀(x:Sm)(lp:Bool),jF x=true->iq x=true->(kW vs lp x).1=0->yO x->KH x
 | .mk op name to val A6 A7 fields A2 line,lp,E,D,h,A=>alV E D h A (λlp cs T I q AT=>C5 A2 lp cs T I q AT)
theorem yt{vs:List Vr}:∀(l:List Sm)(lp:Bool),eh l=true->gm l=true->(ep vs lp l).1=0->ke l->∀x∈l,KH x
 |[],_,_,_,_,_,x,A0=>absurd A0 (aed)
 |y::r,lp,E,D,h,A,x,A0=>by
  simp only[eh,Ds]at E;simp only[gm,Ds]at D;simp only[ep]at h;simp only[ke]at A;obtain⟨T,I⟩:=cu.1 h;rcases abV.1 A0 with A1|A0
  ·rw[A1];exact aiv y lp E.1 D.1 T A.1
  ·exact yt r lp E.2 D.2 I A.2 x A0
theorem C5{vs:List Vr}:∀(l:List (List Sm))(lp:Bool)(cs:List Ex),cH l=true->eK l=true->(eN vs lp cs l).1=0->l9 l->∀b∈l,KG b
 |[],_,_,_,_,_,_,b,N=>absurd N (aed)
 |y::r,lp,[],E,D,h,A,b,N=>by
  simp only[cH,Ds]at E;simp only[eK,Ds]at D;simp only[eN]at h;simp only[l9]at A;obtain⟨T,I⟩:=cu.1 h;rcases abV.1 N with A1|N
  ·rw[A1];exact C4 y A.1.1 (yt y lp E.1 D.1 T A.1.2)
  ·exact C5 r lp [] E.2 D.2 I A.2 b N
 |y::r,lp,c::cs,E,D,h,A,b,N=>by
  simp only[cH,Ds]at E;simp only[eK,Ds]at D;simp only[eN]at h;simp only[l9]at A;obtain⟨T,I⟩:=cu.1 h;obtain⟨I,q⟩:=cu.1 I;rcases abV.1 N with A1|N
  ·rw[A1];exact C4 y A.1.1 (yt y lp E.1 D.1 I A.1.2)
  ·exact C5 r lp cs E.2 D.2 q A.2 b N
end
theorem adf{p:Pg}{lp:Bool}(AU:p.body.length<100000000)(E:eh p.body=true)(D:gm p.body=true)(h:(ep p.vars lp p.body).1=0)(A:ke p.body):ah ctx 30 [.d (nV p)] []=some (.ret (.d (nV (B3 p))),[]):=by
 have A4:=C4 p.body AU (yt p.body lp E D h A);unfold KG at A4;rw[akX (by simp)];simp[f30,A4,B3]
end Go.Am
end
section
namespace Go.Am
open Go Go.Proofs
variable [Inhabited bI]
set_option maxRecDepth 20000
structure uk(p:Pg):Prop where
 fit:nC p=true
 lit:gm p.body=true
 Kz:(mP p).1=0
 lw:fh (nV p)<10000000
theorem EZ{p:Pg}(h:nC p=true):p.vars.length<=64/\(∀v∈p.vars,dQ v=true)/\eh p.body=true:=by
 simp only[nC,Ds,ab2,abQ]at h;exact h.2
theorem Cb{p:Pg}(h:(mP p).1=0):(ep p.vars false p.body).1=0:=(cu.1 h).2
theorem uk.fo{p:Pg}(h:uk p):uk (B3 p):=by
 have A:=wV false p.body (EZ h.fit).2.2 h.lit (Cb h.Kz);refine⟨?_,A.2.1,cu.2 ⟨(cu.1 h.Kz).1,A.2.2⟩,?_⟩
 ·have:=h.fit;simp only[nC,B3,Ds]at this⊢;exact⟨this.1,this.2.1,this.2.2.1,A.1⟩
 ·have H:=Kw p.body;have:=h.lw;simp only[B3,nV,fh,db]at this⊢;rw[<-wI]at this⊢;omega
theorem YW{p:Pg}(h:uk p):ah ctx 30 [.d (nV p)] []=some (.ret (.d (nV (B3 p))),[]):=by
 obtain⟨D,E,I⟩:=yl (p:=p) (by have:=h.lw;simp only[nV]at this;omega);exact adf (lp:=false) D (EZ h.fit).2.2 h.lit (Cb h.Kz) E
end Go.Am
end
section
namespace Go.Am
open Go Go.Proofs Go.Proofs.Tryz
variable [Inhabited bI]
set_option maxRecDepth 20000
theorem E0(s:Tx)(l:List Vr)(I:l.length<1000000)(k:Kt)(RF:Option Vr->cd)
 (A:∀w v,k .ret ⟨25,aC,[(4,true,.ptr 300 v 0),(5,true,.d (.bool true))],[⟨300,v,ja w⟩]⟩=RF (some w))
 (D:∀(v:Nat)(b c:AV),k (.exit 0) ⟨25,aC,[(0,true,.d (.list (l.map bx))),(1,true,.d (.str s)),(4,true,.ptr 300 v 0),(6,true,b),(10,true,c)],[⟨300,v,ja sk⟩]⟩=RF none):∀(rest pre:List Vr)(v:Nat),l=pre++rest->
 aN ctx 38 (.loop (Code.at (bq f38) [1,0,1,0,0])) ⟨25,aC,[(0,true,.d (.list (l.map bx))),(1,true,.d (.str s)),(4,true,.ptr 300 v 0),(6,true,.d (.int .i64 pre.length))],[⟨300,v,ja sk⟩]⟩ k=RF (bz rest s)
 |[],pre,v,E=>by
  have T:pre.length=l.length:=by rw[E];simp
  simp only[ja,sk]at D;rw[T,ag];simp[f38,D,bz,sk]
 |x::rest,pre,v,E=>by
  have N:pre.length<l.length:=by rw[E];simp
  have O:l[pre.length]=x:=by simp[E]
  have ih:=E0 s l I k RF A D rest (pre++[x]) v (by simp[E]);have J:IntKind.i64.wrap ((pre.length:Int)+1)=(pre.length:Int)+1:=aH (by unfold aI;omega);have A:=A x;simp only[ja]at A;rw[ag];by_cases M:x.name=s
  ·simp only[M]at A;simp[f38,sk];simp[N,O,bx,dK,M,A,bz]
  ·simp[f38,sk]at ih⊢;simp[N,O,bx,dK,M,J,ih,bz]
theorem nf{vs:List Vr}(I:vs.length<1000000)(s:Tx):ah ctx 38 [.d (.list (vs.map bx)),.d (.str s)] []=some (.ret (.bY [.d (bx (fV vs s)),.d (.bool (bz vs s).isSome)]),[]):=by
 have h:=λk RF A D v=>E0 s vs I k RF A D vs [] v rfl;rw[ak2 (by simp)];unfold fV;simp[f38,sk]at h⊢;rw[h _ (λo=>some (.ret (.bY [.d (bx (o.getD sk)),.d (.bool o.isSome)]),[]))]
 ·simp[sk]
 ·intro w v;simp[bx,dK]
 ·intro v b c;simp[bx,dK,sk]
theorem Pt(k:Int):ah ctx 52 [.d (.int .i64 k)] []=some (.ret (.d (.list ((bC k).map de))),[]):=by
 by_cases h:10<=k/\k<=31
 ·have:k=10\/k=11\/k=12\/k=13\/k=14\/k=15\/k=16\/k=17\/k=18\/k=19\/k=20\/k=21\/k=22\/k=23\/k=24\/k=25\/k=26\/k=27\/k=28\/k=29\/k=30\/k=31:=by omega
  rcases this with h|h|h|h|h|h|h|h|h|h|h|h|h|h|h|h|h|h|h|h|h|h<;>subst h
  ·exact ar2
  ·exact ar3
  ·exact ar4
  ·exact ar5
  ·exact ar6
  ·exact ar7
  ·exact ar8
  ·exact ar9
  ·exact asa
  ·exact asb
  ·exact asc
  ·exact asd
  ·exact ase
  ·exact asf
  ·exact ash
  ·exact asi
  ·exact asj
  ·exact asl
  ·exact asm
  ·exact asn
  ·exact aso
  ·exact asp
 ·have U:bC k=[]:=by
   have e:∀n:Int,10<=n->n<=31->¬n=k:=λn a b c=>h (by omega);unfold bC Mq;simp only[ye];rw[abN (e _ (by decide) (by decide)),abN (e _ (by decide) (by decide)),abN (e _ (by decide) (by decide)),abN (e _ (by decide) (by decide)),abN (e _ (by decide) (by decide)),abN (e _ (by decide) (by decide)),abN (e _ (by decide) (by decide)),abN (e _ (by decide) (by decide)),abN (e _ (by decide) (by decide)),abN (e _ (by decide) (by decide)),abN (e _ (by decide) (by decide)),abN (e _ (by decide) (by decide)),abN (e _ (by decide) (by decide)),abN (e _ (by decide) (by decide)),abN (e _ (by decide) (by decide)),abN (e _ (by decide) (by decide)),abN (e _ (by decide) (by decide)),abN (e _ (by decide) (by decide)),abN (e _ (by decide) (by decide)),abN (e _ (by decide) (by decide)),abN (e _ (by decide) (by decide))]
  rw[U];rw[ak8 (by simp)];by_cases A:k<10
  ·simp[f52,A]
  ·have D:31<k:=by omega
   simp[f52,A,D]
theorem YX{w:Vr}(V:w.arr=true->0<=w.lo/\w.lo<=w.hi/\w.hi<=255):ah ctx 39 [.d (.agg (dK w))] []=some (.ret (.d (.int .i64 (cq w))),[]):=by
 have Y:=Pt w.ty;rw[ak3 (by simp)];unfold cq;cases H:w.arr with
 |true=>
  have q:=V H;have J:IntKind.i64.wrap (w.hi-w.lo)=w.hi-w.lo:=aH (by unfold aI;omega);have Z:IntKind.i64.wrap (w.hi-w.lo+1)=w.hi-w.lo+1:=aH (by unfold aI;omega);simp[f39,dK,H,J,Z]
 |false=>
  by_cases D:2<w.ty
  ·simp[f39,dK,H,D,Y]
  ·simp[f39,dK,H,D]
def Cc(p:Pn):ay:=.box [.d (.str p.name),.d (.int .i64 p.ty),.d (.bool p.Jw)]
theorem Hc(s:Tx)(l:List Pn)(N:l.length<1000000)(k:Kt)(RF:Option Pn->cd)
 (A:∀w v,k .ret ⟨32,aC,[(4,true,.ptr 300 v 0),(5,true,.d (.bool true))],[⟨300,v,Cc w⟩]⟩=RF (some w))
 (E:∀(v:Nat)(b c:AV),k (.exit 0) ⟨32,aC,[(1,true,.d (.str s)),(4,true,.ptr 300 v 0),(6,true,.d (.list (l.map de))),(7,true,b),(13,true,c)],[⟨300,v,Cc uV⟩]⟩=RF none):∀(rest pre:List Pn)(v:Nat),l=pre++rest->
 aN ctx 179 (.loop (Code.at (bq f179) [1,1,0,1,0,0])) ⟨32,aC,[(1,true,.d (.str s)),(4,true,.ptr 300 v 0),(6,true,.d (.list (l.map de))),(7,true,.d (.int .i64 pre.length))],[⟨300,v,Cc uV⟩]⟩ k=RF (yf rest s)
 |[],pre,v,H=>by
  have V:pre.length=l.length:=by rw[H];simp
  simp only[Cc,uV]at E;rw[V,ag];simp[f179,Cc,E,yf,uV]
 |x::rest,pre,v,H=>by
  have I:pre.length<l.length:=by rw[H];simp
  have O:l[pre.length]=x:=by simp[H]
  have ih:=Hc s l N k RF A E rest (pre++[x]) v (by simp[H]);have U:IntKind.i64.wrap ((pre.length:Int)+1)=(pre.length:Int)+1:=aH (by unfold aI;omega);have A:=A x;simp only[Cc]at A;rw[ag];by_cases J:s=[]
  ·simp only[J]at ih⊢;simp[f179,Cc,uV]at ih⊢;simp[I,U,ih,yf]
  ·by_cases M:x.name=s
   ·simp only[M]at A;simp[f179,Cc,uV];simp[I,O,de,M,J,A,yf]
   ·simp[f179,Cc,uV]at ih⊢;simp[I,O,de,M,J,U,ih,yf]
theorem Wo(q:Int)(s:Tx):ah ctx 179 [.d (.int .i64 q),.d (.str s)] []=some (.ret (.bY [.d (de (fP q s)),.d (.bool (l7 q s).isSome)]),[]):=by
 have N:=Ax q;have Y:=Pt q;have h:=λk RF A E v=>Hc s (bC q) (by omega) k RF A E (bC q) [] v rfl;rw[af4 (by simp)];unfold fP l7;simp[f179,Cc,uV]at h⊢;simp[Y];rw[h _ (λo=>some (.ret (.bY [.d (de (o.getD uV)),.d (.bool o.isSome)]),[]))]
 ·simp[uV]
 ·intro w v;simp[de]
 ·intro v b c;simp[de,uV]
def ed(t:Te):AV:=.bY [.d (.int .i64 t.t),.d (.agg [.int .i64 t.e,.int .i64 t.line])]
def RT(vs:List Vr)(x:Ex):Prop:=ah ctx 109 [.d (.list (vs.map bx)),.d (.agg [.int .i64 (bO x),.int .i64 (fW x),.str (dS x),.str (eS x),.list ((cV x).map bL),.int .i64 (jq x)])] []=some (.ret (ed (aL vs x)),[])
def dy(e:EL):AV:=.d (.agg [.int .i64 e.1,.int .i64 e.2])
def E1(vs:List Vr)(x:Ex)(t:Int):EL:=if (aL vs x).e=0/\(aL vs x).t≠t then (10,jq x)else ((aL vs x).e,(aL vs x).line)
theorem C6{vs:List Vr}{x:Ex}(h:RT vs x):ah ctx 180 [.d (.list (vs.map bx)),.d (.agg [.int .i64 (bO x),.int .i64 (fW x),.str (dS x),.str (eS x),.list ((cV x).map bL),.int .i64 (jq x)])] []=some (.ret (dy (E1 vs x 1)),[]):=by
 unfold RT at h;rw[af5 (by simp)];unfold E1;generalize aL vs x=T at*;by_cases D:T.e=0
 ·by_cases A:T.t=1
  ·simp[f180,ed,dy,D,A,h]
  ·simp[f180,ed,dy,D,A,h]
 ·simp[f180,ed,dy,D,h]
theorem qv{vs:List Vr}{x:Ex}(t:Int)(h:RT vs x):ah ctx 110 [.d (.list (vs.map bx)),.d (.agg [.int .i64 (bO x),.int .i64 (fW x),.str (dS x),.str (eS x),.list ((cV x).map bL),.int .i64 (jq x)]),.d (.int .i64 t)] []=some (.ret (dy (E1 vs x t)),[]):=by
 unfold RT at h;rw[afM (by simp)];unfold E1;generalize aL vs x=T at*;by_cases D:T.e=0
 ·by_cases A:T.t=t
  ·simp[f110,ed,dy,D,A,h]
  ·simp[f110,ed,dy,D,A,h]
 ·simp[f110,ed,dy,D,h]
section
variable {vs:List Vr} (J:vs.length<1000000) (q:∀v∈vs,dQ v=true)
theorem aiw{op nn line:Int}{name field:Tx}{sub:List Ex}(h:op=1\/op=2):RT vs (.mk op nn name field sub line):=by
 unfold RT;rw[en (by simp)];have e:aL vs (.mk op nn name field sub line)=gv op:=by
  unfold aL;rw[abT h]
 rw[e];rcases h with h|h<;>subst h<;>simp[f109,ed,gv]
include J in
theorem Wp{nn line:Int}{name field:Tx}{sub:List Ex}:RT vs (.mk 5 nn name field sub line):=by
 unfold RT;have A:=nf (vs:=vs) J name;rw[en (by simp)];have e:aL vs (.mk 5 nn name field sub line)=(match bz vs name with
  |none=>df 9 line
  |some v=>(if v.ty<=2 then df 10 line else match l7 v.ty field with
   |none=>df 9 line
   |some p=>gv p.ty)):=by
  unfold aL;rw[abN (by decide),abT (by decide)];rfl
 rw[e];cases I:bz vs name with
 |none=>
  simp[I,fV,bx,dK,sk]at A;simp[f109,ed,df,A,aj]
 |some v=>
  have U:=Wo v.ty field;simp[I,fV,bx,dK]at A;by_cases D:v.ty<=2
  ·simp[f109,ed,df,A,aj,D]
  ·cases V:l7 v.ty field with
   |none=>
    simp[V,fP,de,uV]at U;simp[f109,ed,df,A,aj,D,U,V]
   |some p=>
    simp[V,fP,de]at U;simp[f109,ed,gv,A,aj,D,U,V]
include J in
theorem adg{nn line:Int}{name field:Tx}{v:Vr}{y:Ex}{T:Te}(I:bz vs name=some v)(E:v.arr=true)(D:¬2<v.ty)(M:RT vs y)(O:aL vs y=T)(H:T.e=0)(N:T.t=1):ah ctx 109 [.d (.list (vs.map bx)),.d (.agg [.int .i64 4,.int .i64 nn,.str name,.str field,.list ([y].map bL),.int .i64 line])] []=some (.ret (ed (gv v.ty)),[]):=by
 have A:=nf (vs:=vs) J name;have hi:=C6 M;unfold E1 dy at hi;rw[O]at hi;clear O M;rw[en (by simp)];simp[I,fV,bx,dK]at A;simp[H,N]at hi;simp[f109,ed,gv,df,A,aj,E,D,au,hi,H,N]
include J in
theorem adh{nn line:Int}{name field:Tx}{v:Vr}{y:Ex}{T:Te}(I:bz vs name=some v)(E:v.arr=true)(D:¬2<v.ty)(M:RT vs y)(O:aL vs y=T)(H:T.e=0)(N:¬T.t=1):ah ctx 109 [.d (.list (vs.map bx)),.d (.agg [.int .i64 4,.int .i64 nn,.str name,.str field,.list ([y].map bL),.int .i64 line])] []=some (.ret (ed (df 10 (jq y))),[]):=by
 have A:=nf (vs:=vs) J name;have hi:=C6 M;unfold E1 dy at hi;rw[O]at hi;clear O M;rw[en (by simp)];simp[I,fV,bx,dK]at A;simp[H,N]at hi;simp[f109,ed,gv,df,A,aj,E,D,au,hi,H,N]
include J in
theorem adi{nn line:Int}{name field:Tx}{v:Vr}{y:Ex}{T:Te}(I:bz vs name=some v)(E:v.arr=true)(D:¬2<v.ty)(M:RT vs y)(O:aL vs y=T)(H:¬T.e=0):ah ctx 109 [.d (.list (vs.map bx)),.d (.agg [.int .i64 4,.int .i64 nn,.str name,.str field,.list ([y].map bL),.int .i64 line])] []=some (.ret (ed (df T.e T.line)),[]):=by
 have A:=nf (vs:=vs) J name;have hi:=C6 M;unfold E1 dy at hi;rw[O]at hi;clear O M;rw[en (by simp)];simp[I,fV,bx,dK]at A;simp[H]at hi;simp[f109,ed,gv,df,A,aj,E,D,au,hi,H]
include J in
theorem adj{op nn line:Int}{name field:Tx}{sub:List Ex}(h:op=3\/op=4)(Y:op=4->∃y,sub=[y]/\RT vs y):RT vs (.mk op nn name field sub line):=by
 unfold RT;have A:=nf (vs:=vs) J name;have e:aL vs (.mk op nn name field sub line)=(match bz vs name with
  |none=>df 9 line
  |some v=>if v.arr≠decide (op=4)\/2<v.ty then df 10 line else if op=4 then Ey vs v.ty sub else gv v.ty):=by
  conv=>lhs;unfold aL
  rw[abN (by omega),abT (by omega)];cases bz vs name with
  |none=>rfl
  |some v=>
   simp only
   rw[abN (by omega)]
 rw[e];clear e;cases I:bz vs name with
 |none=>
  simp[I,fV,bx,dK,sk]at A;rcases h with h|h<;>subst h<;>rw[en (by simp)]<;>simp[f109,ed,df,A,aj]
 |some v=>
  simp[I,fV,bx,dK]at A;rcases h with h|h<;>subst h
  ·cases E:v.arr with
   |true=>(rw[en (by simp)];simp[f109,ed,df,A,aj,E])
   |false=>
    by_cases D:2<v.ty
    ·(rw[en (by simp)];simp[f109,ed,df,A,aj,E,D])
    ·(rw[en (by simp)];simp[f109,ed,gv,A,aj,E,D])
  ·cases E:v.arr with
   |false=>(rw[en (by simp)];simp[f109,ed,df,A,aj,E])
   |true=>
    by_cases D:2<v.ty
    ·(rw[en (by simp)];simp[f109,ed,df,A,aj,E,D])
    ·obtain⟨y,Z,M⟩:=Y rfl;subst Z;simp only[Ey,iP,rH,Ew,Ju,mO,Jv];by_cases H:(aL vs y).e=0
     ·by_cases N:(aL vs y).t=1
      ·have:=adg (nn:=nn) (line:=line) (field:=field) J I E D M rfl H N;simpa [H,N,D,E,gv]using this
      ·have:=adh (nn:=nn) (line:=line) (field:=field) J I E D M rfl H N;simpa [H,N,D,E,df]using this
     ·have:=adi (nn:=nn) (line:=line) (field:=field) J I E D M rfl H;simpa [H,D,E,df]using this
end
section
variable {vs:List Vr}
set_option maxHeartbeats 1000000 in
theorem alW{nn line:Int}{name field:Tx}{a:Ex}(h:RT vs a):RT vs (.mk 6 nn name field [a] line):=by
 have e:aL vs (.mk 6 nn name field [a] line)=cj 6 line (aL vs a) (aL vs a):=by
  conv=>lhs;unfold aL
  rw[abN (by omega),abN (by omega)];rfl
 unfold RT at h⊢;rw[e,en (by simp)];clear e;generalize aL vs a=T at*;simp[ed]at h;simp[f109,ed,aj,au,h];by_cases A:T.e=0
 ·by_cases E:T.t=1<;>simp[A,E,cj,gW,jE,gv,df]
 ·simp[A,cj]
set_option maxHeartbeats 1000000 in
theorem alX{nn line:Int}{name field:Tx}{a:Ex}(h:RT vs a):RT vs (.mk 7 nn name field [a] line):=by
 have e:aL vs (.mk 7 nn name field [a] line)=cj 7 line (aL vs a) (aL vs a):=by
  conv=>lhs;unfold aL
  rw[abN (by omega),abN (by omega)];rfl
 unfold RT at h⊢;rw[e,en (by simp)];clear e;generalize aL vs a=T at*;simp[ed]at h;simp[f109,ed,aj,au,h];by_cases A:T.e=0
 ·by_cases E:T.t=2<;>simp[A,E,cj,gW,jE,gv,df]
 ·simp[A,cj]
set_option maxHeartbeats 1000000 in
theorem alY{nn line:Int}{name field:Tx}{a b:Ex}(h:RT vs a)(D:RT vs b):RT vs (.mk 8 nn name field [a,b] line):=by
 have e:aL vs (.mk 8 nn name field [a,b] line)=cj 8 line (aL vs a) (aL vs b):=by
  conv=>lhs;unfold aL
  rw[abN (by omega),abN (by omega)];rfl
 unfold RT at h D⊢;rw[e,en (by simp)];clear e;generalize aL vs a=T at*;generalize aL vs b=H at*;simp[ed]at h D;simp[f109,ed,aj,au,h,D];by_cases A:T.e=0
 ·by_cases E:H.e=0
  ·by_cases J:T.t=1<;>by_cases I:H.t=1<;>simp[A,E,J,I,cj,gW,jE,gv,df]
  ·simp[A,E,cj]
 ·simp[A,cj]
set_option maxHeartbeats 1000000 in
theorem alZ{nn line:Int}{name field:Tx}{a b:Ex}(h:RT vs a)(D:RT vs b):RT vs (.mk 9 nn name field [a,b] line):=by
 have e:aL vs (.mk 9 nn name field [a,b] line)=cj 9 line (aL vs a) (aL vs b):=by
  conv=>lhs;unfold aL
  rw[abN (by omega),abN (by omega)];rfl
 unfold RT at h D⊢;rw[e,en (by simp)];clear e;generalize aL vs a=T at*;generalize aL vs b=H at*;simp[ed]at h D;simp[f109,ed,aj,au,h,D];by_cases A:T.e=0
 ·by_cases E:H.e=0
  ·by_cases J:T.t=1<;>by_cases I:H.t=1<;>simp[A,E,J,I,cj,gW,jE,gv,df]
  ·simp[A,E,cj]
 ·simp[A,cj]
set_option maxHeartbeats 1000000 in
theorem aix{nn line:Int}{name field:Tx}{a b:Ex}(h:RT vs a)(D:RT vs b):RT vs (.mk 10 nn name field [a,b] line):=by
 have e:aL vs (.mk 10 nn name field [a,b] line)=cj 10 line (aL vs a) (aL vs b):=by
  conv=>lhs;unfold aL
  rw[abN (by omega),abN (by omega)];rfl
 unfold RT at h D⊢;rw[e,en (by simp)];clear e;generalize aL vs a=T at*;generalize aL vs b=H at*;simp[ed]at h D;simp[f109,ed,aj,au,h,D];by_cases A:T.e=0
 ·by_cases E:H.e=0
  ·by_cases J:T.t=1<;>by_cases I:H.t=1<;>simp[A,E,J,I,cj,gW,jE,gv,df]
  ·simp[A,E,cj]
 ·simp[A,cj]
set_option maxHeartbeats 1000000 in
theorem aiy{nn line:Int}{name field:Tx}{a b:Ex}(h:RT vs a)(D:RT vs b):RT vs (.mk 11 nn name field [a,b] line):=by
 have e:aL vs (.mk 11 nn name field [a,b] line)=cj 11 line (aL vs a) (aL vs b):=by
  conv=>lhs;unfold aL
  rw[abN (by omega),abN (by omega)];rfl
 unfold RT at h D⊢;rw[e,en (by simp)];clear e;generalize aL vs a=T at*;generalize aL vs b=H at*;simp[ed]at h D;simp[f109,ed,aj,au,h,D];by_cases A:T.e=0
 ·by_cases E:H.e=0
  ·by_cases J:T.t=1<;>by_cases I:H.t=1<;>simp[A,E,J,I,cj,gW,jE,gv,df]
  ·simp[A,E,cj]
 ·simp[A,cj]
set_option maxHeartbeats 1000000 in
theorem aiz{nn line:Int}{name field:Tx}{a b:Ex}(h:RT vs a)(D:RT vs b):RT vs (.mk 12 nn name field [a,b] line):=by
 have e:aL vs (.mk 12 nn name field [a,b] line)=cj 12 line (aL vs a) (aL vs b):=by
  conv=>lhs;unfold aL
  rw[abN (by omega),abN (by omega)];rfl
 unfold RT at h D⊢;rw[e,en (by simp)];clear e;generalize aL vs a=T at*;generalize aL vs b=H at*;simp[ed]at h D;simp[f109,ed,aj,au,h,D];by_cases A:T.e=0
 ·by_cases E:H.e=0
  ·by_cases J:T.t=1<;>by_cases I:H.t=1<;>simp[A,E,J,I,cj,gW,jE,gv,df]
  ·simp[A,E,cj]
 ·simp[A,cj]
set_option maxHeartbeats 1000000 in
theorem aiA{nn line:Int}{name field:Tx}{a b:Ex}(h:RT vs a)(D:RT vs b):RT vs (.mk 13 nn name field [a,b] line):=by
 have e:aL vs (.mk 13 nn name field [a,b] line)=cj 13 line (aL vs a) (aL vs b):=by
  conv=>lhs;unfold aL
  rw[abN (by omega),abN (by omega)];rfl
 unfold RT at h D⊢;rw[e,en (by simp)];clear e;generalize aL vs a=T at*;generalize aL vs b=H at*;simp[ed]at h D;simp[f109,ed,aj,au,h,D];by_cases A:T.e=0
 ·by_cases E:H.e=0
  ·by_cases I:H.t=T.t<;>simp[A,E,I,cj,gW,jE,gv,df]
  ·simp[A,E,cj]
 ·simp[A,cj]
end
section
variable {vs:List Vr}
set_option maxHeartbeats 1000000 in
theorem aiB{nn line:Int}{name field:Tx}{a b:Ex}(h:RT vs a)(A:RT vs b):RT vs (.mk 14 nn name field [a,b] line):=by
 have e:aL vs (.mk 14 nn name field [a,b] line)=cj 14 line (aL vs a) (aL vs b):=by
  conv=>lhs;unfold aL
  rw[abN (by omega),abN (by omega)];rfl
 unfold RT at h A⊢;rw[e,en (by simp)];clear e;generalize aL vs a=T at*;generalize aL vs b=E at*;simp[ed]at h A;simp[f109,ed,aj,au,h,A];by_cases D:T.e=0
 ·by_cases H:E.e=0
  ·by_cases I:E.t=T.t<;>simp[D,H,I,cj,gW,jE,gv,df]
  ·simp[D,H,cj]
 ·simp[D,cj]
set_option maxHeartbeats 1000000 in
theorem aiC{nn line:Int}{name field:Tx}{a b:Ex}(h:RT vs a)(A:RT vs b):RT vs (.mk 15 nn name field [a,b] line):=by
 have e:aL vs (.mk 15 nn name field [a,b] line)=cj 15 line (aL vs a) (aL vs b):=by
  conv=>lhs;unfold aL
  rw[abN (by omega),abN (by omega)];rfl
 unfold RT at h A⊢;rw[e,en (by simp)];clear e;generalize aL vs a=T at*;generalize aL vs b=E at*;simp[ed]at h A;simp[f109,ed,aj,au,h,A];by_cases D:T.e=0
 ·by_cases H:E.e=0
  ·by_cases J:T.t=1<;>by_cases I:E.t=1<;>simp[D,H,J,I,cj,gW,jE,gv,df]
  ·simp[D,H,cj]
 ·simp[D,cj]
set_option maxHeartbeats 1000000 in
theorem aiD{nn line:Int}{name field:Tx}{a b:Ex}(h:RT vs a)(A:RT vs b):RT vs (.mk 16 nn name field [a,b] line):=by
 have e:aL vs (.mk 16 nn name field [a,b] line)=cj 16 line (aL vs a) (aL vs b):=by
  conv=>lhs;unfold aL
  rw[abN (by omega),abN (by omega)];rfl
 unfold RT at h A⊢;rw[e,en (by simp)];clear e;generalize aL vs a=T at*;generalize aL vs b=E at*;simp[ed]at h A;simp[f109,ed,aj,au,h,A];by_cases D:T.e=0
 ·by_cases H:E.e=0
  ·by_cases J:T.t=1<;>by_cases I:E.t=1<;>simp[D,H,J,I,cj,gW,jE,gv,df]
  ·simp[D,H,cj]
 ·simp[D,cj]
set_option maxHeartbeats 1000000 in
theorem aiE{nn line:Int}{name field:Tx}{a b:Ex}(h:RT vs a)(A:RT vs b):RT vs (.mk 17 nn name field [a,b] line):=by
 have e:aL vs (.mk 17 nn name field [a,b] line)=cj 17 line (aL vs a) (aL vs b):=by
  conv=>lhs;unfold aL
  rw[abN (by omega),abN (by omega)];rfl
 unfold RT at h A⊢;rw[e,en (by simp)];clear e;generalize aL vs a=T at*;generalize aL vs b=E at*;simp[ed]at h A;simp[f109,ed,aj,au,h,A];by_cases D:T.e=0
 ·by_cases H:E.e=0
  ·by_cases J:T.t=1<;>by_cases I:E.t=1<;>simp[D,H,J,I,cj,gW,jE,gv,df]
  ·simp[D,H,cj]
 ·simp[D,cj]
set_option maxHeartbeats 1000000 in
theorem aiF{nn line:Int}{name field:Tx}{a b:Ex}(h:RT vs a)(A:RT vs b):RT vs (.mk 18 nn name field [a,b] line):=by
 have e:aL vs (.mk 18 nn name field [a,b] line)=cj 18 line (aL vs a) (aL vs b):=by
  conv=>lhs;unfold aL
  rw[abN (by omega),abN (by omega)];rfl
 unfold RT at h A⊢;rw[e,en (by simp)];clear e;generalize aL vs a=T at*;generalize aL vs b=E at*;simp[ed]at h A;simp[f109,ed,aj,au,h,A];by_cases D:T.e=0
 ·by_cases H:E.e=0
  ·by_cases J:T.t=1<;>by_cases I:E.t=1<;>simp[D,H,J,I,cj,gW,jE,gv,df]
  ·simp[D,H,cj]
 ·simp[D,cj]
set_option maxHeartbeats 1000000 in
theorem aiG{nn line:Int}{name field:Tx}{a b:Ex}(h:RT vs a)(A:RT vs b):RT vs (.mk 19 nn name field [a,b] line):=by
 have e:aL vs (.mk 19 nn name field [a,b] line)=cj 19 line (aL vs a) (aL vs b):=by
  conv=>lhs;unfold aL
  rw[abN (by omega),abN (by omega)];rfl
 unfold RT at h A⊢;rw[e,en (by simp)];clear e;generalize aL vs a=T at*;generalize aL vs b=E at*;simp[ed]at h A;simp[f109,ed,aj,au,h,A];by_cases D:T.e=0
 ·by_cases H:E.e=0
  ·by_cases J:T.t=2<;>by_cases I:E.t=2<;>simp[D,H,J,I,cj,gW,jE,gv,df]
  ·simp[D,H,cj]
 ·simp[D,cj]
set_option maxHeartbeats 1000000 in
theorem aiH{nn line:Int}{name field:Tx}{a b:Ex}(h:RT vs a)(A:RT vs b):RT vs (.mk 20 nn name field [a,b] line):=by
 have e:aL vs (.mk 20 nn name field [a,b] line)=cj 20 line (aL vs a) (aL vs b):=by
  conv=>lhs;unfold aL
  rw[abN (by omega),abN (by omega)];rfl
 unfold RT at h A⊢;rw[e,en (by simp)];clear e;generalize aL vs a=T at*;generalize aL vs b=E at*;simp[ed]at h A;simp[f109,ed,aj,au,h,A];by_cases D:T.e=0
 ·by_cases H:E.e=0
  ·by_cases J:T.t=2<;>by_cases I:E.t=2<;>simp[D,H,J,I,cj,gW,jE,gv,df]
  ·simp[D,H,cj]
 ·simp[D,cj]
set_option maxHeartbeats 1000000 in
theorem aiI{nn line:Int}{name field:Tx}{a b:Ex}(h:RT vs a)(A:RT vs b):RT vs (.mk 21 nn name field [a,b] line):=by
 have e:aL vs (.mk 21 nn name field [a,b] line)=cj 21 line (aL vs a) (aL vs b):=by
  conv=>lhs;unfold aL
  rw[abN (by omega),abN (by omega)];rfl
 unfold RT at h A⊢;rw[e,en (by simp)];clear e;generalize aL vs a=T at*;generalize aL vs b=E at*;simp[ed]at h A;simp[f109,ed,aj,au,h,A];by_cases D:T.e=0
 ·by_cases H:E.e=0
  ·by_cases J:T.t=2<;>by_cases I:E.t=2<;>simp[D,H,J,I,cj,gW,jE,gv,df]
  ·simp[D,H,cj]
 ·simp[D,cj]
end
end Go.Am
end
section
namespace Go.Am
open Go Go.Proofs
variable [Inhabited bI]
set_option maxRecDepth 20000
theorem aiJ{vs:List Vr}{op nn line:Int}{name field:Tx}{a b:Ex}(A4:8<=op)(A5:op<=21)(h:RT vs a)(A:RT vs b):RT vs (.mk op nn name field [a,b] line):=by
 have Y:op=8\/op=9\/op=10\/op=11\/op=12\/op=13\/op=14\/op=15\/op=16\/op=17\/op=18\/op=19\/op=20\/op=21:=by omega
 rcases Y with e|e|e|e|e|e|e|e|e|e|e|e|e|e<;>subst e
 ·exact alY h A
 ·exact alZ h A
 ·exact aix h A
 ·exact aiy h A
 ·exact aiz h A
 ·exact aiA h A
 ·exact aiB h A
 ·exact aiC h A
 ·exact aiD h A
 ·exact aiE h A
 ·exact aiF h A
 ·exact aiG h A
 ·exact aiH h A
 ·exact aiI h A
section
variable {vs:List Vr} (H:vs.length<1000000)
include H
mutual
theorem sZ:∀x:Ex,bH x=true->RT vs x
 | .mk op nn name field sub line,D=>by
  simp only[bH,Ds,abQ,ahy,aeB]at D;obtain⟨A6,E,_,_,Z⟩:=D;have ih:=C7 sub Z;unfold eT at E;by_cases q:op=1\/op=2
  ·exact aiw q
  ·by_cases A':op=5
   ·subst A';exact Wp H
   ·by_cases A0:op=3\/op=4
    ·refine adj H A0 (λA1=>?_);rw[abT (.inl A1)]at E;match sub,E with
     |[y],_=>exact⟨y,rfl,ih y (by simp)⟩
    ·by_cases U:op=6\/op=7
     ·rw[abT (.inr U)]at E;match sub,E with
      |[y],_=>
       rcases U with e|e<;>subst e
       ·exact alW (ih y (by simp))
       ·exact alX (ih y (by simp))
     ·rw[abN (by omega),abT (by omega)]at E;match sub,E with
      |[y,z],_=>exact aiJ (by omega) (by omega) (ih y (by simp)) (ih z (by simp))
theorem C7:∀l:List Ex,bG l=true->∀y∈l,RT vs y
 |[],_,y,I=>by simp at I
 |x::r,D,y,I=>by
  simp only[bG,Ds]at D;rcases abV.1 I with e|I
  ·rw[e];exact sZ x D.1
  ·exact C7 r D.2 y I
end
end
theorem Hd{op line:Int}{a b:Te}(h:(cj op line a b).e=0):(cj op line a b).line=0:=by
 rw[(kT h).2.2.2.2];rfl
theorem YY(vs:List Vr):∀x:Ex,(aL vs x).e=0->(aL vs x).line=0
 | .mk op nn name field sub line,h=>by
  unfold aL at h⊢;split at h
  ·rename_i c;rw[abT c];rfl
  ·rename_i c;rw[abN c];split at h
   ·rename_i J;rw[abT J];cases D:bz vs name with
    |none=>rw[D]at h;simp[df]at h
    |some v=>
     rw[D]at h;simp only at h⊢;split at h
     ·rename_i M;rw[abT M];split at h
      ·simp[df]at h
      ·rename_i N;rw[abN N];cases A2:l7 v.ty field with
       |none=>rw[A2]at h;simp[df]at h
       |some p=>rfl
     ·rename_i M;rw[abN M];split at h
      ·simp[df]at h
      ·rename_i N;rw[abN N];split at h
       ·rename_i O;rw[abT O];cases sub with
        |nil=>rfl
        |cons y r=>
         simp only[Ey]at h⊢;split at h
         ·rename_i T;exact absurd h T
         ·rename_i T;rw[abN T];split at h
          ·simp[df]at h
          ·rename_i A3;rw[abN A3];rfl
       ·rename_i O;rw[abN O];rfl
   ·rename_i J;rw[abN J];match sub,h with
    |[],_=>rfl
    |[y],h=>exact Hd h
    |y::z::_,h=>exact Hd h
theorem qw(vs:List Vr)(x:Ex)(t:Int):E1 vs x t=dz vs x t:=by
 unfold E1 dz;have:=YY vs x;by_cases h:(aL vs x).e=0
 ·have H:=this h;by_cases V:(aL vs x).t=t
  ·simp[h,V,H]
  ·simp[h,V]
 ·simp[h]
end Go.Am
end
section
namespace Go.Am
open Go Go.Proofs Go.Proofs.Tryz
variable [Inhabited bI]
set_option maxRecDepth 20000
def RM(vs:List Vr)(lp:Bool)(x:Sm):Prop:=ah ctx 71 [.d (.list (vs.map bx)),.d (.agg (smL x)),.d (.bool lp)] []=some (.ret (dy (dH (kW vs lp x))),[])
def pD(vs:List Vr)(lp:Bool)(l:List Sm):Prop:=ah ctx 40 [.d (.list (vs.map bx)),.d (.list (l.map cK)),.d (.bool lp)] []=some (.ret (dy (dH (ep vs lp l))),[])
@[simp] def gN(e:EL):ay:=.box [.d (.int .i64 e.1),.d (.int .i64 e.2)]
theorem KA{vs:List Vr}{lp:Bool}{l:List Sm}(M:l.length<100000000)(J:∀x∈l,RM vs lp x)(k:Kt)(RF:EL->cd)
 (A:∀e u v X,k .ret ⟨27,aC,[(6,true,.ptr 400 u 0)],[⟨400,u,gN e⟩,⟨500,v,X⟩]⟩=RF e)
 (H:∀(u v:Nat)(X:ay)(b c:AV),k (.exit 0) ⟨27,aC,[(0,true,.d (.list (vs.map bx))),(1,true,.d (.list (l.map cK))),(2,true,.d (.bool lp)),(6,true,.ptr 400 u 0),(7,true,b),(12,true,c)],[⟨400,u,gN (0,0)⟩,⟨500,v,X⟩]⟩=RF (0,0)):∀(rest pre:List Sm)(u v:Nat)(X:ay),l=pre++rest->
 aN ctx 40 (.loop (Code.at (bq f40) [1,0,1,0,0])) ⟨27,aC,[(0,true,.d (.list (vs.map bx))),(1,true,.d (.list (l.map cK))),(2,true,.d (.bool lp)),(6,true,.ptr 400 u 0),(7,true,.d (.int .i64 pre.length))],[⟨400,u,gN (0,0)⟩,⟨500,v,X⟩]⟩ k=RF (dH (ep vs lp rest))
 |[],pre,u,v,X,D=>by
  have T:pre.length=l.length:=by rw[D];simp
  simp only[gN]at H;rw[T,ag];simp[f40,H,ep,dH]
 |x::rest,pre,u,v,X,D=>by
  have N:pre.length<l.length:=by rw[D];simp
  have O:l[pre.length]=x:=by simp[D]
  have hm:=J x (by rw[D];simp);have ih:=λu v X=>KA M J k RF A H rest (pre++[x]) u v X (by simp[D]);have U:IntKind.i64.wrap ((pre.length:Int)+1)=(pre.length:Int)+1:=aH (by unfold aI;omega);have key:ep vs lp (x::rest)=eU (kW vs lp x) (ep vs lp rest):=by rw[ep]
  rw[key];unfold RM dy at hm;generalize kW vs lp x=E at*;generalize ep vs lp rest=F at*;simp only[gN]at A;rw[ag];by_cases I:E.1=0
  ·rw[lI I];simp[dH,I]at hm;simp[f40]at ih⊢;simp[N,O,cG,hm,U,ih]
  ·rw[pw I];have A:=A E;simp[dH,I]at hm;simp[f40];simp[N,O,cG,hm,I,A,dH]
theorem KB{vs:List Vr}{lp:Bool}{l:List Sm}(M:l.length<100000000)(J:∀x∈l,RM vs lp x):pD vs lp l:=by
 unfold pD;have h:=λk RF A H u v X=>KA M J k RF A H l [] u v X rfl;rw[ak4 (by simp)];simp[f40]at h⊢;rw[h _ (λe=>some (.ret (dy e),[]))]
 ·intro a b u v X;simp[dy]
 ·intro u v X b c;simp[dy]
theorem aiK{w:Vr}(h:dQ w=true):w.arr=true->0<=w.lo/\w.lo<=w.hi/\w.hi<=255:=by
 intro A4;simp only[dQ,Ds,A4,aes,abQ]at h;exact h.2.2.1.2
theorem KC(l:List Vr)(A5:l.length<=1000)(J:∀v∈l,dQ v=true)(D H:AV)(k:Kt)(RF:EL->cd)
 (M:∀e u v X,e.1≠0->k .ret ⟨58,aC,[(2,true,.ptr 200 u 0)],[⟨150,1,.box [D,.d (.list (l.map bx)),H]⟩,⟨200,u,gN e⟩,⟨350,v,X⟩]⟩=RF e)
 (N:∀(u v:Nat)(X:ay)(a b c:AV),k (.exit 0) ⟨58,aC,[(1,true,.ptr 150 1 0),(2,true,.ptr 200 u 0),(3,true,a),(4,true,b),(11,true,c)],[⟨150,1,.box [D,.d (.list (l.map bx)),H]⟩,⟨200,u,gN (0,0)⟩,⟨350,v,X⟩]⟩=RF (0,0)):∀(rest pre:List Vr)(n:Int)(u v:Nat)(X:ay),l=pre++rest->0<=n->n<=1024->
 aN ctx 15 (.loop (Code.at (bq f15) [1,1,0,1,0,0])) ⟨58,aC,[(1,true,.ptr 150 1 0),(2,true,.ptr 200 u 0),(3,true,.d (.int .i64 n)),(4,true,.d (.int .i64 pre.length))],[⟨150,1,.box [D,.d (.list (l.map bx)),H]⟩,⟨200,u,gN (0,0)⟩,⟨350,v,X⟩]⟩ k=RF (GX rest pre n)
 |[],pre,n,u,v,X,A,A6,A7=>by
  have A8:pre.length=l.length:=by rw[A];simp
  simp only[gN]at N;rw[A8,ag];simp[f15,N,GX]
 |x::rest,pre,n,u,v,X,A,A6,A7=>by
  have O:pre.length<l.length:=by rw[A];simp
  have T:l[pre.length]=x:=by simp[A]
  have U:List.take pre.length (List.map bx l)=List.map bx pre:=by simp[A]
  have Y:pre.length<=l.length:=by omega
  have q:=J x (by rw[A];simp);have AB:=B1 q;have Z:=YX (aiK q);have I:=nf (vs:=pre) (by omega) x.name;have ih:=λu v X=>KC l A5 J D H k RF M N rest (pre++[x]) (n+cq x) u v X (by simp[A]);have A9:IntKind.i64.wrap ((pre.length:Int)+1)=(pre.length:Int)+1:=aH (by unfold aI;omega);have y:IntKind.i64.wrap (n+cq x)=n+cq x:=aH (by unfold aI;omega);have A':=λu v X=>M (11,x.line) u v X (by simp);have A0:=λu v X=>M (13,x.line) u v X (by simp);simp only[gN]at A' A0;simp[dK]at Z;generalize AC:fV pre x.name=W at*;simp[bx,dK]at I;rw[ag];unfold GX;cases A1:(bz pre x.name).isSome with
  |true=>
   rw[A1]at I;simp[f15];simp[O,T,U,Y,bx,dK,I,A',aj]
  |false=>
   rw[A1]at I;by_cases Dj:1024<n+cq x
   ·simp[f15];simp[O,T,U,Y,bx,dK,I,Z,y,Dj,A0,aj]
   ·have ih:=λu v X=>ih u v X (by omega) (by omega);simp[f15]at ih⊢;simp[O,T,U,Y,bx,dK,I,Z,A9,y,Dj,ih,aj]
theorem YZ{p:Pg}(J:nC p=true)(A2:pD p.vars false p.body):ah ctx 15 [.d (.agg [.str p.name,.list (p.vars.map bx),.list (p.body.map cK)])] []=some (.ret (dy (dH (mP p))),[]):=by
 simp only[nC,Ds,abQ,ab2]at J;obtain⟨_,AD,AA,AE⟩:=J;unfold pD at A2;unfold mP;generalize AF:ep p.vars false p.body=E at*;have h:=λD H k RF M N u v X=>KC p.vars (by omega) AA D H k RF M N p.vars [] 0 u v X rfl (by omega) (by omega);generalize AG:GX p.vars [] 0=V at*;rw[akU (by simp)];simp[f15]at h⊢;rw[h _ _ _ (λe=>some (.ret (dy (dH (eU e E))),[]))]
 ·intro a b u v X A3;rw[pw A3];simp[dy,dH,A3]
 ·intro u v X a b c;rw[lI rfl];simp[A2,dy]
@[reducible] noncomputable def Cd(p:List Nat):Code:=Code.at (bq f111) p
theorem KD{x:Sm}{f:Tx}{pre AF:List Tx}(A2:dE x=pre++f::AF)(V:(dE x).length<100000000){a0:AV}{u v5 v6:Nat}{W X5 X6:ay}(k:Kt)(R1 R2:cd)
 (H:k .ret ⟨91,aC,[(4,true,.ptr 300 u 0)],[⟨250,1,bm x⟩,⟨300,u,gN (11,kS x)⟩,⟨350,1,W⟩,⟨500,v5,X5⟩,⟨650,v6,X6⟩]⟩=R1)
 (A:∀b c,k (.exit 2) ⟨91,aC,[(0,true,a0),(3,true,.ptr 250 1 0),(4,true,.ptr 300 u 0),(5,true,.ptr 350 1 0),(7,true,.d (.int .i64 pre.length)),(8,true,.ptr 500 v5 0),(10,true,b),(60,true,c)],[⟨250,1,bm x⟩,⟨300,u,gN (0,0)⟩,⟨350,1,W⟩,⟨500,v5,X5⟩,⟨650,v6,X6⟩]⟩=R2):∀(rest I:List Tx),pre=I++rest->
 aN ctx 111 (.loop (Cd [1,1,1,1,0,1,0,0,1,0,0,1,1,0,1,0,0])) ⟨91,aC,[(0,true,a0),(3,true,.ptr 250 1 0),(4,true,.ptr 300 u 0),(5,true,.ptr 350 1 0),(7,true,.d (.int .i64 pre.length)),(8,true,.ptr 500 v5 0),(10,true,.d (.int .i64 I.length))],[⟨250,1,bm x⟩,⟨300,u,gN (0,0)⟩,⟨350,1,W⟩,⟨500,v5,X5⟩,⟨650,v6,X6⟩]⟩ k=if f∈rest then R1 else R2
 |[],I,D=>by
  have A6:I.length=pre.length:=by rw[D];simp
  simp only[gN,bm]at A;rw[A6,ag];simp[Cd,f111,A]
 |c::rest,I,D=>by
  have M:I.length<pre.length:=by rw[D];simp
  have N:pre.length<(dE x).length:=by rw[A2];simp
  have A':I.length<(dE x).length:=by omega
  have A0:(dE x)[pre.length]=f:=by simp[A2]
  have AA:(dE x)[I.length]=c:=by simp[A2,D]
  have ih:=KD A2 V k R1 R2 H A rest (I++[c]) (by simp[D]);have A7:IntKind.i64.wrap ((I.length:Int)+1)=(I.length:Int)+1:=aH (by unfold aI;omega);simp only[gN,bm]at H;rw[ag];by_cases O:c=f
  ·have AB:f=c:=O.symm;simp[Cd,f111];simp[M,N,A',A0,AA,O,H,aj]
  ·have AB:¬f=c:=λh=>O h.symm;simp[Cd,f111]at ih⊢;simp[M,N,A',A0,AA,O,AB,A7,ih,aj]
theorem KE{vs:List Vr}{x:Sm}{w:Vr}(V:(dE x).length<100000000)(hle:(bJ x).length=(dE x).length)(A3:∀y∈bJ x,RT vs y)(k:Kt)(RF:EL->cd)
 (H:∀e u v5 v6 X5 X6,k .ret ⟨91,aC,[(4,true,.ptr 300 u 0)],[⟨250,1,bm x⟩,⟨300,u,gN e⟩,⟨350,1,ja w⟩,⟨500,v5,X5⟩,⟨650,v6,X6⟩]⟩=RF e)
 (A:∀u v5 v6 X5 X6 b c,k (.exit 0) ⟨91,aC,[(0,true,.d (.list (vs.map bx))),(3,true,.ptr 250 1 0),(4,true,.ptr 300 u 0),(5,true,.ptr 350 1 0),(7,true,b),(34,true,c)],[⟨250,1,bm x⟩,⟨300,u,gN (0,0)⟩,⟨350,1,ja w⟩,⟨500,v5,X5⟩,⟨650,v6,X6⟩]⟩=RF (0,0)):∀(rest pre:List Tx)(J Y:List Ex)(u v5 v6:Nat)(X5 X6:ay),dE x=pre++rest->bJ x=Y++J->Y.length=pre.length->
 aN ctx 111 (.loop (Cd [1,1,1,1,0,1,0,0])) ⟨91,aC,[(0,true,.d (.list (vs.map bx))),(3,true,.ptr 250 1 0),(4,true,.ptr 300 u 0),(5,true,.ptr 350 1 0),(7,true,.d (.int .i64 pre.length))],[⟨250,1,bm x⟩,⟨300,u,gN (0,0)⟩,⟨350,1,ja w⟩,⟨500,v5,X5⟩,⟨650,v6,X6⟩]⟩ k=RF (dH (ib vs w.ty (kS x) rest J pre))
 |[],pre,J,Y,u,v5,v6,X5,X6,D,Z,A4=>by
  have A6:pre.length=(dE x).length:=by rw[D];simp
  have AG:ib vs w.ty (kS x) [] J pre=(0,0):=by unfold ib;rfl
  simp only[gN,bm,ja]at A;rw[AG,A6,ag];simp[Cd,f111,A,dH]
 |f::rest,pre,[],Y,u,v5,v6,X5,X6,D,Z,A4=>by
  rw[D,Z]at hle;simp at hle;omega
 |f::rest,pre,y::J,Y,u,v5,v6,X5,X6,D,Z,A4=>by
  have M:pre.length<(dE x).length:=by rw[D];simp
  have N:(dE x)[pre.length]=f:=by simp[D]
  have A':pre.length<(bJ x).length:=by omega
  have A0:(bJ x)[pre.length]=y:=by simp[<-A4,Z]
  have AH:=A3 y (by rw[Z];simp);have U:=Wo w.ty f;have ih:=λu v5 v6 X5 X6=>KE V hle A3 k RF H A rest (pre++[f]) J (Y++[y]) u v5 v6 X5 X6 (by simp[D]) (by simp[Z]) (by simp[A4]);have AC:=λa0 u v5 v6 W X5 X6 k R1 R2 H A=>KD (a0:=a0) (u:=u) (v5:=v5) (v6:=v6) (W:=W) (X5:=X5) (X6:=X6) D V k R1 R2 H A pre [] rfl;have A7:IntKind.i64.wrap ((pre.length:Int)+1)=(pre.length:Int)+1:=aH (by unfold aI;omega);have key:ib vs w.ty (kS x) (f::rest) (y::J) pre=(match l7 w.ty f with
   |none=>(9,kS x)
   |some q=>if q.Jw=false then (9,kS x)else if f∈pre then (11,kS x)else eU (dz vs y q.ty) (ib vs w.ty (kS x) rest J (pre++[f]))):=by
   conv=>lhs;unfold ib
   rfl
  have A8:=H (9,kS x);have AD:=H (11,kS x);have A9:=H (dz vs y (fP w.ty f).ty);have hw:=qv (fP w.ty f).ty AH;rw[qw]at hw;unfold dy at hw;simp only[gN,bm,ja]at A8 AD A9;rw[key];clear key;rw[ag];cases O:l7 w.ty f with
  |none=>
   simp[O,fP,de,uV]at U;simp[Cd,f111];simp[M,N,U,A8,dH,aj]
  |some q=>
   simp only[fP,O,aer]at hw A9;simp[O,fP,de]at U;simp only
   generalize ib vs w.ty (kS x) rest J (pre++[f])=E at*;generalize dz vs y q.ty=T at*;by_cases hi:q.Jw=false
   ·simp[hi]at U;simp[Cd,f111];simp[M,N,U,A8,dH,hi,aj]
   ·have hi:q.Jw=true:=by simpa using hi
    simp[hi]at U;simp[Cd,f111]at AC ih⊢;simp[M,N,U,hi,aj];rw[AC (R1:=RF (11,kS x)) (R2:=RF (dH (eU T E)))]
    ·by_cases hm:f∈pre
     ·simp[hm,dH]
     ·simp[hm]
    ·simp[AD]
    ·intro b c;by_cases A5:T.1=0
     ·rw[lI A5];simp[M,N,A',A0,au,hw,A5,A7,ih,aj]
     ·rw[pw A5];simp[M,N,A',A0,au,hw,A5,A9,dH,aj]
theorem adk{vs:List Vr}(AI:vs.length<1000000){x:Sm}(V:(dE x).length<100000000)(hle:(bJ x).length=(dE x).length)(A3:∀y∈bJ x,RT vs y):ah ctx 111 [.d (.list (vs.map bx)),.d (.agg (smL x))] []=some (.ret (dy (dH (VC vs x))),[]):=by
 have A1:=nf AI (gM x);rw[afN (by simp)];unfold VC;cases AE:bz vs (gM x)with
 |none=>
  simp[AE,fV,bx,dK,sk]at A1;simp[f111,A1,dy,dH]
 |some v=>
  have h:=λk RF H A u v5 v6 X5 X6=>KE (w:=v) V hle A3 k RF H A (dE x) [] (bJ x) [] u v5 v6 X5 X6 rfl rfl rfl;simp[AE,fV,bx,dK]at A1;by_cases A:v.ty<=2
  ·simp[f111,A1,dy,dH,A]
  ·generalize AJ:ib vs v.ty (kS x) (dE x) (bJ x) []=E at*;simp[Cd,f111]at h;simp[f111,A1,A];rw[h _ (λe=>some (.ret (dy e),[]))]
   ·rw[AJ]
   ·intro a b u v5 v6 X5 X6;simp[dy]
   ·intro u v5 v6 X5 X6 b c;simp[dy]
section
variable {vs:List Vr} {lp:Bool} {x:Sm}
theorem al0(h:bj x=7):RM vs lp x:=by
 unfold RM;rw[sL,m8 (by simp)];cases lp with
 |true=>simp[f71,h,dy,dH]
 |false=>simp[f71,h,dy,dH]
theorem al1(h:bj x=8):RM vs lp x:=by
 unfold RM;rw[sL,m8 (by simp)];simp[f71,h,dy,dH]
theorem al2(M:vs.length<1000000)(h:bj x=9)(N:(dE x).length<100000000)(hle:(bJ x).length=(dE x).length)(O:∀y∈bJ x,RT vs y):RM vs lp x:=by
 have J:=adk M N hle O;unfold RM;rw[sL,m8 (by simp)];generalize VC vs x=E at*;simp[h,dy]at J;simp[f71,h,dy,J]
theorem al3(h:bj x=5){b:List Sm}(H:aQ x=[b])(I:RT vs (dc x))(D:pD vs true b):RM vs lp x:=by
 have hw:=qv 2 I;rw[qw]at hw;unfold pD at D;unfold RM;rw[sL,m8 (by simp)];have e:rJ vs (aQ x)=ep vs true b:=by rw[H];rfl
 rw[e];generalize dz vs (dc x) 2=T at*;generalize ep vs true b=E at*;simp[dy]at hw D;by_cases A:T.1=0
 ·simp[f71,h,H,lS,dy,hw,D,lI A,A]
 ·simp[f71,h,H,dy,hw,pw A,A,dH]
theorem al4(h:bj x=6){b:List Sm}(H:aQ x=[b])(I:RT vs (dc x))(D:pD vs true b):RM vs lp x:=by
 have hw:=qv 2 I;rw[qw]at hw;unfold pD at D;unfold RM;rw[sL,m8 (by simp)];have e:rJ vs (aQ x)=ep vs true b:=by rw[H];rfl
 have U:(dz vs (dc x) 2).1=0->dz vs (dc x) 2=(0,0):=by
  unfold dz;split
  ·intro hh;rename_i c;exact absurd hh c
  ·split
   ·intro hh;simp at hh
   ·intro _;rfl
 rw[e];generalize dz vs (dc x) 2=T at*;generalize ep vs true b=E at*;have V:dH T=T:=by
  unfold dH;by_cases A:T.1=0
  ·rw[abT A,U A]
  ·rw[abN A]
 simp[dy]at hw D;by_cases A:E.1=0
 ·simp[dH,A]at D;simp[f71,h,H,lS,dy,hw,D,lI A,V]
 ·simp[dH,A]at D;simp[f71,h,H,lS,dy,D,pw A,A,dH]
end
section
variable {vs:List Vr} {lp:Bool} {x:Sm}
theorem al5(Y:vs.length<1000000)(h:bj x=1)(D:RT vs (eB x))(H:RT vs (dc x)):RM vs lp x:=by
 have A:=nf Y (dS (eB x));unfold RT at D H;unfold RM;rw[sL,m8 (by simp),abT h];unfold JD;generalize aL vs (eB x)=T at*;generalize aL vs (dc x)=M at*;simp[ed]at D H;cases U:bz vs (dS (eB x))with
 |none=>
  simp[U,fV,bx,dK,sk]at A;simp[f71,h,A,dy,dH]
 |some w=>
  simp[U,fV,bx,dK]at A;by_cases I:w.sec=1
  ·simp[f71,h,A,I,dy,dH]
  ·by_cases E:T.e=0
   ·have N:(GW T).1=0:=E;by_cases J:M.e=0
    ·have O:(GW M).1=0:=J;by_cases V:M.t=T.t
     ·simp[f71,h,A,I,D,E,H,J,V,lI N,lI O,dy,dH]
     ·simp[f71,h,A,I,D,E,H,J,V,lI N,lI O,dy,dH]
    ·have O:¬(GW M).1=0:=J;simp[f71,h,A,I,D,E,H,J,eU,dy,dH,GW]
   ·have N:¬(GW T).1=0:=E;simp[f71,h,A,I,D,E,eU,dy,dH,GW]
end
@[reducible] noncomputable def pU(p:List Nat):Code:=Code.at (bq f71) p
@[simp] def nE(x:Sm)(e:EL)(M N w85 D AB:Nat)(O U Y85 H AC AD:ay)(AE:Nat):List cB:=[⟨300,1,bm x⟩,⟨400,1,gN e⟩,⟨450,0,.dead⟩,⟨600,0,.dead⟩,⟨750,M,O⟩,⟨800,N,U⟩,⟨850,w85,Y85⟩,⟨950,D,H⟩,⟨1000,AE,AD⟩,⟨1150,AB,AC⟩,⟨1200,0,.dead⟩,⟨1250,0,.dead⟩]
section
variable {vs:List Vr} {lp:Bool} {x:Sm}
theorem KI{w85:Nat}{Y85:ay}(A2:(aQ x).length<100000000)(A':∀b∈aQ x,pD vs lp b)(k:Kt)(RF:EL->cd)
 (Y:∀e D H,k .ret ⟨242,aC,[(6,true,.ptr 400 1 0)],nE x e 0 0 w85 D 0 .dead .dead Y85 H .dead .dead 0⟩=RF e)
 (V:∀D H b c,k (.exit 3) ⟨242,aC,[(0,true,.d (.list (vs.map bx))),(2,true,.d (.bool lp)),(4,true,.ptr 300 1 0),(6,true,.ptr 400 1 0),(16,true,b),(128,true,c)],nE x (0,0) 0 0 w85 D 0 .dead .dead Y85 H .dead .dead 0⟩=RF (0,0)):∀(rest pre:List (List Sm))(D:Nat)(H:ay),aQ x=pre++rest->
 aN ctx 71 (.loop (pU [1,0,1,0,1,1,1,1,1,0,1,1,0,0])) ⟨242,aC,[(0,true,.d (.list (vs.map bx))),(2,true,.d (.bool lp)),(4,true,.ptr 300 1 0),(6,true,.ptr 400 1 0),(16,true,.d (.int .i64 pre.length))],nE x (0,0) 0 0 w85 D 0 .dead .dead Y85 H .dead .dead 0⟩ k=RF (dH (eN vs lp [] rest))
 |[],pre,D,H,J=>by
  have A5:pre.length=(aQ x).length:=by rw[J];simp
  have A6:eN vs lp [] []=(0,0):=by unfold eN;rfl
  simp only[nE,gN,bm]at V;rw[A6,A5,ag];simp[pU,f71,V,dH]
 |b::rest,pre,D,H,J=>by
  have Z:pre.length<(aQ x).length:=by rw[J];simp
  have q:(aQ x)[pre.length]=b:=by simp[J]
  have I:=A' b (by rw[J];simp);have ih:=λD H=>KI A2 A' k RF Y V rest (pre++[b]) D H (by simp[J]);have A4:IntKind.i64.wrap ((pre.length:Int)+1)=(pre.length:Int)+1:=aH (by unfold aI;omega);have key:eN vs lp [] (b::rest)=eU (ep vs lp b) (eN vs lp [] rest):=by
   conv=>lhs;unfold eN
  rw[key];clear key;unfold pD dy at I;generalize ep vs lp b=E at*;generalize eN vs lp [] rest=F at*;have A1:=Y E;simp only[nE,gN,bm]at A1;rw[ag];by_cases A:E.1=0
  ·rw[lI A];simp[dH,A]at I;simp[pU,f71]at ih⊢;simp[Z,q,lS,I,A4,ih]
  ·rw[pw A];simp[dH,A]at I;simp[pU,f71];simp[Z,q,lS,I,A,A1,dH]
theorem al6(h:bj x=3)(A2:(aQ x).length<100000000)(AF:RT vs (dc x))(A':∀b∈aQ x,pD vs lp b):RM vs lp x:=by
 have hw:=qv 1 AF;rw[qw]at hw;have A7:=λw85 Y85 k RF Y V D H=>KI (w85:=w85) (Y85:=Y85) A2 A' k RF Y V (aQ x) [] D H rfl;unfold RM;rw[sL,m8 (by simp)];generalize dz vs (dc x) 1=T at*;simp[dy]at hw;by_cases A:T.1=0
 ·rw[abN (by omega),abN (by omega),abT h,lI A];generalize eN vs lp [] (aQ x)=E at*;simp[pU,f71,h]at A7;simp[f71,h,hw,A];rw[A7 _ _ _ (λe=>some (.ret (dy e),[]))]
  ·intro a b D H;simp[dy]
  ·intro D H b c;simp[dy]
 ·simp[f71,h,hw,A,pw A,dH,dy]
theorem KJ(A2:(aQ x).length<100000000)(AG:(bJ x).length<100000000)(A8:∀y∈bJ x,RT vs y)(A':∀b∈aQ x,pD vs lp b)(k:Kt)(RF:EL->cd)
 (Y:∀e M O N U,k .ret ⟨242,aC,[(6,true,.ptr 400 1 0)],nE x e M N 0 0 0 O U .dead .dead .dead .dead 0⟩=RF e)
 (V:∀M O N U b c,k (.exit 1) ⟨242,aC,[(0,true,.d (.list (vs.map bx))),(2,true,.d (.bool lp)),(4,true,.ptr 300 1 0),(6,true,.ptr 400 1 0),(12,true,b),(83,true,c)],nE x (0,0) M N 0 0 0 O U .dead .dead .dead .dead 0⟩=RF (0,0)):∀(rest pre:List (List Sm))(M:Nat)(O:ay)(N:Nat)(U:ay),aQ x=pre++rest->
 aN ctx 71 (.loop (pU [1,0,1,0,1,1,1,0,1,0,0])) ⟨242,aC,[(0,true,.d (.list (vs.map bx))),(2,true,.d (.bool lp)),(4,true,.ptr 300 1 0),(6,true,.ptr 400 1 0),(12,true,.d (.int .i64 pre.length))],nE x (0,0) M N 0 0 0 O U .dead .dead .dead .dead 0⟩ k=RF (dH (eN vs lp ((bJ x).drop pre.length) rest))
 |[],pre,M,O,N,U,J=>by
  have A5:pre.length=(aQ x).length:=by rw[J];simp
  have A6:∀cs,eN vs lp cs []=(0,0):=by intro cs;unfold eN;rfl
  simp only[nE,gN,bm]at V;rw[A6,A5,ag];simp[pU,f71,V,dH]
 |b::rest,pre,M,O,N,U,J=>by
  have Z:pre.length<(aQ x).length:=by rw[J];simp
  have q:(aQ x)[pre.length]=b:=by simp[J]
  have I:=A' b (by rw[J];simp);have ih:=λM O N U=>KJ A2 AG A8 A' k RF Y V rest (pre++[b]) M O N U (by simp[J]);have A4:IntKind.i64.wrap ((pre.length:Int)+1)=(pre.length:Int)+1:=aH (by unfold aI;omega);unfold pD dy at I;have A1:=Y (ep vs lp b);simp only[nE,gN,bm]at A1;rw[ag];by_cases A0:pre.length<(bJ x).length
  ·have AH:=A8 _ (aep A0);have hw:=qv 2 AH;rw[qw]at hw;have key:eN vs lp ((bJ x).drop pre.length) (b::rest)=eU (dz vs (bJ x)[pre.length] 2) (eU (ep vs lp b) (eN vs lp ((bJ x).drop (pre.length+1)) rest)):=by
    rw[aeN A0];conv=>lhs;unfold eN
   rw[key];clear key;have A9:=Y (dz vs (bJ x)[pre.length] 2);simp only[nE,gN,bm]at A9;simp only[acg,ach,aeI,aeF]at ih;generalize ep vs lp b=E at*;generalize eN vs lp ((bJ x).drop (pre.length+1)) rest=F at*;generalize dz vs (bJ x)[pre.length] 2=T at*;unfold dy at hw;by_cases A3:T.1=0
   ·rw[lI A3];by_cases A:E.1=0
    ·rw[lI A];simp[dH,A]at I;simp[pU,f71]at ih⊢;simp[Z,q,A0,au,lS,hw,A3,I,A4,ih]
    ·rw[pw A];simp[dH,A]at I;simp[pU,f71];simp[Z,q,A0,au,lS,hw,A3,I,A,A1,dH]
   ·rw[pw A3];simp[pU,f71];simp[Z,q,A0,au,hw,A3,A9,dH]
  ·have AA:∀n,pre.length<=n->(bJ x).drop n=[]:=λn AI=>List.drop_eq_nil_of_le (by omega);have key:eN vs lp ((bJ x).drop pre.length) (b::rest)=eU (ep vs lp b) (eN vs lp [] rest):=by
    rw[AA _ (abO _)];conv=>lhs;unfold eN
   rw[key];clear key;simp only[acg,ach,aeI,aeF,AA (pre.length+1) (by omega)]at ih;generalize ep vs lp b=E at*;generalize eN vs lp [] rest=F at*;by_cases A:E.1=0
   ·rw[lI A];simp[dH,A]at I;simp[pU,f71]at ih⊢;simp[Z,q,A0,lS,I,A4,ih]
   ·rw[pw A];simp[dH,A]at I;simp[pU,f71];simp[Z,q,A0,lS,I,A,A1,dH]
end
section
variable {vs:List Vr} {lp:Bool} {x:Sm}
theorem al7(h:bj x=2)(A7:(aQ x).length<100000000)(O:(bJ x).length<100000000)(N:∀y∈bJ x,RT vs y)(A8:∀b∈aQ x,pD vs lp b):RM vs lp x:=by
 have U:=λk RF D A A0 A1 A2 A3=>KJ A7 O N A8 k RF D A (aQ x) [] A0 A1 A2 A3 rfl;unfold RM;rw[sL,m8 (by simp)];rw[abN (by omega),abT h];simp only[aeI,List.drop_zero]at U;generalize eN vs lp (bJ x) (aQ x)=E at*;simp[pU,f71,h]at U;simp[f71,h];rw[U _ (λe=>some (.ret (dy e),[]))]
 ·intro a b A0 A1 A2 A3;simp[dy]
 ·intro A0 A1 A2 A3 b c;simp[dy]
theorem KK{W:ay}(O:(bJ x).length<100000000)(N:∀y∈bJ x,RT vs y)(k:Kt)(RF:EL->cd)
 (D:∀(e:EL) H I,¬e.1=0->k .ret ⟨242,aC,[(6,true,.ptr 400 1 0)],nE x e 0 0 0 0 H .dead .dead .dead .dead I W 1⟩=RF e)
 (A:∀H I b c,k (.exit 5) ⟨242,aC,[(0,true,.d (.list (vs.map bx))),(4,true,.ptr 300 1 0),(6,true,.ptr 400 1 0),(20,true,b),(177,true,c)],nE x (0,0) 0 0 0 0 H .dead .dead .dead .dead I W 1⟩=RF (0,0)):∀(rest pre:List Ex)(H:Nat)(I:ay),bJ x=pre++rest->
 aN ctx 71 (.loop (pU [1,0,1,0,1,1,1,1,1,1,1,0,1,1,1,1,0,1,0,0])) ⟨242,aC,[(0,true,.d (.list (vs.map bx))),(4,true,.ptr 300 1 0),(6,true,.ptr 400 1 0),(20,true,.d (.int .i64 pre.length))],nE x (0,0) 0 0 0 0 H .dead .dead .dead .dead I W 1⟩ k=RF (dH (kV vs 1 rest))
 |[],pre,H,I,V=>by
  have A9:pre.length=(bJ x).length:=by rw[V];simp
  simp only[nE,gN,bm]at A;rw[A9,ag];simp[pU,f71,A,dH,kV]
 |y::rest,pre,H,I,V=>by
  have A4:pre.length<(bJ x).length:=by rw[V];simp
  have A5:(bJ x)[pre.length]=y:=by simp[V]
  have hw:=qv 1 (N y (by rw[V];simp));rw[qw]at hw;have ih:=λH I=>KK O N k RF D A rest (pre++[y]) H I (by simp[V]);have AA:IntKind.i64.wrap ((pre.length:Int)+1)=(pre.length:Int)+1:=aH (by unfold aI;omega);have key:kV vs 1 (y::rest)=eU (dz vs y 1) (kV vs 1 rest):=rfl;rw[key];clear key;unfold dy at hw;generalize dz vs y 1=E at*;generalize kV vs 1 rest=F at*;rw[ag];by_cases M:E.1=0
  ·rw[lI M];simp[pU,f71]at ih⊢;simp[A4,A5,au,hw,M,AA,ih]
  ·rw[pw M];have A6:=λw Y=>D E w Y M;simp only[nE,gN,bm]at A6;simp[pU,f71];simp[A4,A5,au,hw,M,A6,dH]
set_option maxHeartbeats 1000000 in
theorem aiL(h:bj x=4)(O:(bJ x).length<100000000)(N:∀y∈bJ x,RT vs y){b:List Sm}(Z:aQ x=[b])(q:pD vs true b){w:Vr}(T:bz vs (gM x)=some w)(J:ah ctx 38 [.d (.list (vs.map bx)),.d (.str (gM x))] []=some (.ret (.bY [.d (bx (fV vs (gM x))),.d (.bool (bz vs (gM x)).isSome)]),[]))(D:¬w.sec=1)(A:w.arr=false)(A':w.ty=1):
 ah ctx 71 [.d (.list (vs.map bx)),.d (.agg (smL x)),.d (.bool lp)] []=some (.ret (dy (dH (eU (kV vs 1 (bJ x)) (ep vs true b)))),[]):=by
 have U:=λW k RF D A H I=>KK (W:=W) O N k RF D A (bJ x) [] H I rfl;unfold pD at q;rw[m8 (by simp)];generalize ep vs true b=F at*;generalize kV vs 1 (bJ x)=E at*;simp[T,fV,bx,dK]at J;simp[pU,f71,h,Z]at U;simp[dy]at q;simp[f71,h,J,D,A,A',Z];rw[U _ _ (λe=>some (.ret (dy (dH (eU e F))),[]))]
 ·by_cases M:E.1=0
  ·simp[dH,M,eU]
  ·simp[dH,M,eU]
 ·intro AC AD H I M;simp[dy,eU,M,dH]
 ·intro H I c d;simp[lS,q,dy,eU]
theorem al8(AB:vs.length<1000000)(h:bj x=4)(O:(bJ x).length<100000000)(N:∀y∈bJ x,RT vs y){b:List Sm}(Z:aQ x=[b])(q:pD vs true b):RM vs lp x:=by
 have J:=nf AB (gM x);unfold RM;rw[sL];rw[abN (by omega),abN (by omega),abN (by omega),abT h];have e:rJ vs (aQ x)=ep vs true b:=by rw[Z];rfl
 unfold coE;rw[e];cases T:bz vs (gM x)with
 |none=>
  rw[m8 (by simp)];simp[T,fV,bx,dK,sk]at J;simp[f71,h,J,dy,dH]
 |some w=>
  by_cases D:w.sec=1
  ·rw[m8 (by simp)];simp[T,fV,bx,dK]at J;simp[f71,h,J,D,dy,dH]
  ·by_cases A:w.arr=true
   ·rw[m8 (by simp)];simp[T,fV,bx,dK]at J;simp[f71,h,J,D,A,dy,dH]
   ·have A:w.arr=false:=by simpa using A
    by_cases A':w.ty=1
    ·rw[aiL h O N Z q T J D A A'];simp only[abN D,A,A'];simp
    ·rw[m8 (by simp)];simp[T,fV,bx,dK]at J;simp[f71,h,J,D,A,A',dy,dH]
end
end Go.Am
end
section
namespace Go.Am
open Go Go.Proofs
variable [Inhabited bI]
set_option maxRecDepth 20000
theorem FX{α:Type}{l:List α}(h:l.length=1):∃a,l=[a]:=by
 match l,h with
 |[a],_=>exact⟨a,rfl⟩
section
variable {vs:List Vr} (H:vs.length<1000000)
include H
theorem adl{lp:Bool}{x:Sm}(D:jF x=true)(A2:(aQ x).length<100000000)(A3:(bJ x).length<100000000)(A6:(dE x).length<100000000)(T:∀b∈aQ x,∀q,pD vs q b):RM vs lp x:=by
 have A7:∃op name to val U V fields M line,x=.mk op name to val U V fields M line:=by
  obtain⟨op,name,to,val,U,V,fields,M,line⟩:=x;exact⟨op,name,to,val,U,V,fields,M,line,rfl⟩
 have facts:(1<=bj x/\bj x<=9)/\(bj x=1->bH (eB x)=true)/\((bj x=1\/bj x=3\/bj x=5\/bj x=6)->bH (dc x)=true)/\bG (bJ x)=true/\dq (bj x) (bJ x).length (cM x).length (dE x).length (aQ x).length=true:=by
  obtain⟨op,name,to,val,U,V,fields,M,line,rfl⟩:=A7;simp only[jF,Ds,abQ]at D;obtain⟨A4,AA,Y,N,Z,E,AB,AC,AD⟩:=D;refine⟨A4,λI=>?_,λI=>?_,Z,E⟩
  ·simp only[UF]at I;rw[abT I]at Y;simp only[Ds]at Y;exact Y.2
  ·simp only[UF]at I;rw[abT I]at N;simp only[Ds]at N;exact N.2
 obtain⟨A4,Y,N,Z,E⟩:=facts;have A':=C7 H (bJ x) Z;have A8:bj x=1\/bj x=2\/bj x=3\/bj x=4\/bj x=5\/bj x=6\/bj x=7\/bj x=8\/bj x=9:=by omega
 rcases A8 with h|h|h|h|h|h|h|h|h
 ·exact al5 H h (sZ H _ (Y h)) (sZ H _ (N (.inl h)))
 ·exact al7 h A2 A3 A' (λb A=>T b A lp)
 ·exact al6 h A2 (sZ H _ (N (.inr (.inl h)))) (λb A=>T b A lp)
 ·rw[h]at E;simp[dq]at E;obtain⟨b,A⟩:=FX E.2.2.2;exact al8 H h A3 A' A (T b (by rw[A];simp) true)
 ·rw[h]at E;simp[dq]at E;obtain⟨b,A⟩:=FX E.2.2.2;exact al3 h A (sZ H _ (N (.inr (.inr (.inl h))))) (T b (by rw[A];simp) true)
 ·rw[h]at E;simp[dq]at E;obtain⟨b,A⟩:=FX E.2.2.2;exact al4 h A (sZ H _ (N (.inr (.inr (.inr h))))) (T b (by rw[A];simp) true)
 ·exact al0 h
 ·exact al1 h
 ·rw[h]at E;simp[dq]at E;exact al2 H h A6 E.1 A'
mutual
theorem aiM:∀(x:Sm),jF x=true->OC x<100000000->∀lp,RM vs lp x
 | .mk op name to val U V fields M line,D,O,lp=>by
  have A9:cH M=true:=by
   simp only[jF,Ds]at D;exact D.2.2.2.2.2.2.2.2
  have AE:=JM M;simp only[OC]at O;exact adl H D (by simp only[ae9];omega) (by simp only[ae7];omega) (by simp only[ae8];omega) (λb A q=>Pu M A9 (by omega) b A q)
theorem FY:∀(l:List Sm),eh l=true->rZ l<100000000->∀x∈l,∀lp,RM vs lp x
 |[],_,_,x,J,_=>by simp at J
 |y::r,D,O,x,J,lp=>by
  simp only[eh,Ds]at D;simp only[rZ]at O;have I:=aiM y D.1 (by omega);have A0:=FY r D.2 (by omega);rcases abV.1 J with h|J
  ·rw[h];exact I lp
  ·exact A0 x J lp
theorem Pu:∀(A1:List (List Sm)),cH A1=true->vM A1<100000000->∀b∈A1,∀q,pD vs q b
 |[],_,_,b,A,_=>by simp at A
 |c::r,D,O,b,A,q=>by
  simp only[cH,Ds]at D;simp only[vM]at O;have AF:=CS c;have I:=FY c D.1 (by omega);have A0:=Pu r D.2 (by omega);rcases abV.1 A with h|A
  ·rw[h];exact KB (by omega) (λx J=>I x J q)
  ·exact A0 b A q
end
end
theorem Wq{p:Pg}(D:nC p=true)(O:rZ p.body<100000000):ah ctx 15 [.d (.agg [.str p.name,.list (p.vars.map bx),.list (p.body.map cK)])] []=some (.ret (dy (dH (mP p))),[]):=by
 have A5:=D;simp only[nC,Ds,abQ,ab2]at A5;obtain⟨_,AG,AH,A⟩:=A5;have AI:=CS p.body;exact YZ D (KB (by omega) (λx J=>FY (by omega) p.body A O x J false))
@[simp] def iD(l:List Nat):List D:=l.map λ(n:Nat)=>D.int .i64 (n:Int)
section
variable (ins:List aV) (vars cells:Int) (A E:Nat) (S T:List D)
end
@[simp] def azl(ins:List aV)(vars cells:Int):D:=.agg [.list (ins.map r0),.int .i64 vars,.int .i64 cells]
theorem adm(x y:aV):x=y↔x.op=y.op/\x.a=y.a/\x.b=y.b/\x.n=y.n/\x.m=y.m:=by
 constructor
 ·rintro rfl;simp
 ·intro h;cases x;cases y;simp_all
instance:DecidableEq aV:=λx y=>decidable_of_iff _ (adm x y).symm
theorem al9(e:EL):(dH e).1=0↔e.1=0:=by
 unfold dH;split<;>simp[*]
end Go.Am
end
section
namespace Go.Am
open Go Go.Proofs
variable [Inhabited bI]
structure anB(x:aV)(s t:Ms):Prop where
 len:t.cells.length=s.cells.length
 cI:∀n∈t.cells,aI n
 sI:∀n∈t.ud,aI n
 h64:t.ud.length<=64
 fuel:t.fuel=s.fuel\/(x.op=11/\t.fuel+1=s.fuel/\s.fuel≠0)
 at_:t.at_=s.at_+1\/((x.op=9\/x.op=10)/\t.at_=x.a)
 ok:t.fault=0->t.ud.length=Dj x s.ud.length/\(x.op=9->t.at_=x.a)/\(x.op=11->t.fuel+1=s.fuel)
end Go.Am
end
section
namespace Go.Am
open Go Go.Proofs
variable [Inhabited bI]
set_option maxRecDepth 20000
@[simp] def rM(ins:List aV)(vars cells:Int)(s:Ms)(G:List Int)(v:Nat)(c:ay):Mem:=
 [⟨250,1,.box [.d (.list (ins.map r0)),.d (.int .i64 vars),.d (.int .i64 cells)]⟩,⟨400,1,.box [.lit (.slice none 0 0),.d (.int .i64 0),.d (.int .i64 0)]⟩,⟨500,v,c⟩,⟨1701,2,.vec 1 (s.cells.map jD)⟩,
  ⟨2150,1,.box (mB (.d (.list (ins.map r0))) vars cells (.vec 1701 2 0 s.cells.length) s.ud G s.ud.length s.at_ s.fuel s.fault)⟩,⟨4051,0,.dead⟩]
@[simp] def aiN(C:List Int)(fault fuel:Int):D:=.agg [.list (C.map jD),.int .i64 fault,.int .i64 fuel]
def s0(C:List Int)(cells:Nat)(fuel:Int):Ms:=⟨C++List.replicate (cells-C.length) 0,[],0,fuel,0⟩
end Go.Am
end
section
namespace Go.Am
open Go Go.Proofs Go.Proofs.Tryz
variable [Inhabited bI]
set_option maxRecDepth 20000
theorem LD(A B:List Int)(T:A.length=B.length)(O:A.length<=100000)(k:Kt)(R:cd):∀(J E:List Int)(i:Nat),A.drop i=J->B.drop i=E->i+J.length=A.length->
 ((if J=E then k (.exit 0) ⟨26,aC,[(0,true,.d (.list (A.map jD))),(1,true,.d (.list (B.map jD))),(5,true,.d (.int .i64 A.length)),(14,true,.d (.bool false))],[]⟩else k .ret ⟨26,aC,[(4,true,.d (.bool false))],[]⟩)=R)->
 aN ctx 47 (.loop (Code.at (bq f47) [1,1,0,1,0,0])) ⟨26,aC,[(0,true,.d (.list (A.map jD))),(1,true,.d (.list (B.map jD))),(5,true,.d (.int .i64 i))],[]⟩ k=R:=by
 intro J;induction J with
 |nil=>
  intro E i U H hi D;have hi:i=A.length:=by simpa using hi
  subst hi;have A1:E=[]:=by rw[<-H];exact List.drop_eq_nil_of_le (by omega)
  subst A1;simp at D;rw[ag];simp[f47,D]
 |cons a J ih=>
  intro E i U H hi D;have V:i<A.length:=by simp at hi;omega
  have Y:i<B.length:=by omega
  have y:A[i]=a:=by
   have:=aeK (·[0]?) U;simp at this;simpa [V]using this
  obtain⟨b,M,rfl⟩:∃b M,E=b::M:=by
   match E,H with
   |[],H=>have:=aeK List.length H;simp at this;omega
   |b::M,_=>exact⟨b,M,rfl⟩
  have A':B[i]=b:=by
   have:=aeK (·[0]?) H;simp at this;simpa [Y]using this
  have A2:IntKind.i64.wrap ((i:Int)+1)=(i:Int)+1:=aH (by unfold aI;omega);rw[ag];by_cases I:a=b
  ·subst I;have ih:=ih M (i+1) (by rw[<-amu,U];rfl) (by rw[<-amu,H];rfl) (by simp at hi;omega) (by simpa using D);simp[f47]at ih⊢;simp[V,Y,y,A',A2,aj,ih]
  ·rw[abN (by simp[I])]at D;simp[f47];simp[V,Y,y,A',I,aj,D]
theorem SD(A B:List Int)(O:A.length<=100000):ah ctx 47 [.d (.list (A.map jD)),.d (.list (B.map jD))] []=some (.ret (.d (.bool (decide (A=B)))),[]):=by
 rw[ak6 (by simp)];by_cases T:A.length=B.length
 ·have A0:=λk R D=>LD A B T O k R A B 0 (by simp) (by simp) (by simp) D;have Z:(A.length:Int)=(B.length:Int):=by omega
  simp[f47]at A0;simp[f47,Z];rw[A0];by_cases I:A=B<;>simp[I]
 ·have I:A≠B:=λh=>T (by rw[h]);have Z:¬(A.length:Int)=(B.length:Int):=by omega
  simp[f47,Z,I]
theorem SF(A B:List Int)(f g u v:Int)(O:A.length<=100000):ah ctx 18 [.d (aiN A f u),.d (aiN B g v)] []=some (.ret (.d (.bool (decide (A=B/\f=g/\u=v)))),[]):=by
 have N:=SD A B O;rw[akV (by simp)];try simp at N
 by_cases q:A=B
 ·subst q;simp at N;by_cases A3:f=g<;>by_cases A4:u=v<;>simp[f18,N,A3,A4]
 ·simp[q]at N;simp[f18,N,q]
theorem Y1{p:Pg}(U:gm p.body=true)(hw:fh (nV p)<10000000):∃b,ah ctx 28 [.d (nV p)] []=some (.ret (.d (.bool b)),[])/\(b=true->uk p):=by
 obtain⟨E,H,V⟩:=yl (p:=p) (by simp only[nV]at hw;omega);obtain⟨B,J⟩:=acM E H;have I:=ag8 E H;cases B with
 |false=>
  refine⟨false,?_,by simp⟩;rw[Sf (by simp)];simp[f28,J]
 |true=>
  cases A:nC p with
  |false=>
   rw[A]at I;refine⟨false,?_,by simp⟩;rw[Sf (by simp)];simp[f28,J,I]
  |true=>
   rw[A]at I;have O:=Wq A (by omega);unfold dy at O;refine⟨decide ((mP p).1=0),?_,λh=>⟨A,U,by simpa using h,hw⟩⟩;rw[Sf (by simp)];simp[f28,J,I,O,al9]
def runM(p:Pg)(C:List Int)(f:Int):List Int×Int×Int:=
 if (¬(C.length:Int)=eF p.vars\/f<0)\/16384<f then (C,0, -1)else ((mm p C f.toNat).1,(mm p C f.toNat).2.1,(mm p C f.toNat).2.2)
def mrD(r:List Int×Int×Int):D:=.agg [.list (r.1.map jD),.int .i64 r.2.1,.int .i64 r.2.2]
theorem FZ{p:Pg}(h:uk p)(C:List Int)(f:Int)(A0:C.length<=2000)(Y:∀c∈C,aI c):ah ctx 22 [.d (nV p),.d (.list (C.map jD)),.d (.int .i64 f)] []=some (.ret (.d (mrD (runM p C f))),[]):=by
 have A:=h.fit;simp only[nC,Ds,abQ,ab2]at A;obtain⟨_,A1,M,Z⟩:=A;obtain⟨E,H,V⟩:=yl (p:=p) (by have:=h.lw;simp only[nV]at this;omega);unfold runM;by_cases N:(¬(C.length:Int)=eF p.vars\/f<0)\/16384<f
 ·rw[abT N,YU (by omega) M C f (by omega) N];rfl
 ·rw[abN N];obtain⟨n,rfl⟩:∃n:Nat,f=n:=⟨f.toNat,by omega⟩;have T:=h.Kz;unfold mP at T;obtain⟨q,y⟩:=cu.1 T;have hle:(C.length:Int)<=1024:=by
   have:=AO p.vars [] 0 (by omega) q;omega
  have A':eX p C:=⟨by omega,by omega,Y⟩;rw[air (by omega) M C n A' (by omega) (Wj (by omega) M (lp:=false) E Z h.lit H y).1];rfl
end Go.Am
end
section
namespace Go.Am
open Go Go.Proofs
variable [Inhabited bI]
set_option maxRecDepth 20000
def pB(L:List fg)(s:PS):List AV:=[.d (.list (L.map qu)),.d (.int .i64 s.at_),.d (.int .i64 s.deep),.vec 1 0 0 s.vars.length]
def pC(L:List fg)(s:PS):List ay:=[.box (pB L s),.vec 8 (s.vars.map bx)]
def wX(L:List fg)(s:PS):List (Nat×ay):=[(0,.box (pB L s)),(0,.vec 8 (s.vars.map bx))]
def fD(e:Er):D:=.agg [.int .i64 e.e,.int .i64 0,.str [],.int .i64 0,.int .i64 e.line,.int .i64 e.En]
def r6(L:List fg)(e:Er)(s:PS):cd:=some (.panic 161 (fD e),wX L s)
section
variable {L:List fg} {s:PS}
@[simp] theorem ayd(a b:Tx):(a == b)=decide (a=b):=by by_cases h:a=b<;>simp[h]
@[simp] theorem azm{β:Type}{b:Bool}{x y:β}:(if b=false then x else y)=if b=true then y else x:=by cases b<;>rfl
end
section
variable {L:List fg} {s:PS} (A:L.length<1000000)
include A
end
structure Sh where
 k:Int
 name:Tx
 ins:Tx
 outs:Tx
 n:Int
@[simp] def shD(x:Sh):D:=.agg [.int .i64 x.k,.str x.name,.str x.ins,.str x.outs,.int .i64 x.n]
end Go.Am
end
section
namespace Go.Am
open Go
section
variable {D A α β:Type}
def PR.le(r E:PR D A α):Prop:=r=.out\/r=E
theorem PR.le.refl(r:PR D A α):r.le r:=.inr rfl
theorem PR.le.out(r:PR D A α):PR.le .out r:=.inl rfl
theorem PR.le.bind{r E:PR D A α}{k H:α->A->PR D A β}(h:r.le E)(J:∀a s,(k a s).le (H a s)):(r.bind k).le (E.bind H):=by
 rcases h with h|h
 ·subst h;exact .inl rfl
 ·subst h;cases r with
  |ok a s=>exact J a s
  |bad e s=>exact .inr rfl
  |out=>exact .inl rfl
theorem PR.le.el{r E:PR D A α}{I:Type}{f:α->A->Option I}{g:D->A->Option I}(h:r.le E):Le (r.el f g) (E.el f g):=by
 rcases h with h|h
 ·subst h;exact Le.none
 ·subst h;exact Le.refl _
end
section
variable (L:List fg)
structure aBR(f g:Nat):Prop where
 level:∀n s,(tY L f n s).le (tY L g n s)
 loop:∀n x s,(Au L f n x s).le (Au L g n x s)
 unary:∀s,(wK L f s).le (wK L g s)
 unop:∀op t s,(Es L f op t s).le (Es L g op t s)
 expr:∀s,(lH L f s).le (lH L g s)
 index:∀s,(wO L f s).le (wO L g s)
 E3:∀s,(wL L f s).le (wL L g s)
structure aBS(f g:Nat):Prop where
 block:∀w s,(nR L f w s).le (nR L g w s)
 wP:∀w l s,(wP L f w l s).le (wP L g w l s)
 stmt:∀s,(Bh L f s).le (Bh L g s)
 tE:∀s,(Et L f s).le (Et L g s)
 yu:∀s,(rG L f s).le (rG L g s)
 mM:∀c l s,(mM L f c l s).le (mM L g c l s)
 cases:∀s,(Av L f s).le (Av L g s)
 ub:∀v c l s,(ub L f v c l s).le (ub L g v c l s)
 yc:∀l s,(yc L f l s).le (yc L g l s)
 By:∀s,(tZ L f s).le (tZ L g s)
 call:∀n s,(Eu L f n s).le (Eu L g n s)
 yd:∀n c l s,(yd L f n c l s).le (yd L g n c l s)
end
end Go.Am
end
section
namespace Go.Am
open Go Go.Proofs
variable [Inhabited bI]
set_option maxRecDepth 20000
def ama:List Nat:=[219,223,220,217,154,155,262,264,309,310,291,222,316,314]
structure aiP(L:List fg)(A:br)(f:Nat):Prop where
 le:∀g a c r,A g a c=some r->ah ctx g a c=some r
 out:∀g,ama.contains g=true->A g=ah ctx g
 level:∀n s,A 311 [.ptr 0 0 0,.d (.int .i64 (n:Nat))] (pC L s)=(tY L f n s).el (λx s=>some (.ret (.d (bL x)),wX L s)) (r6 L)
 unary:∀s,A 315 [.ptr 0 0 0] (pC L s)=(wK L f s).el (λx s=>some (.ret (.d (bL x)),wX L s)) (r6 L)
 E3:∀s,A 318 [.ptr 0 0 0] (pC L s)=(wL L f s).el (λx s=>some (.ret (.d (bL x)),wX L s)) (r6 L)
 index:∀s,A 297 [.ptr 0 0 0] (pC L s)=(wO L f s).el (λx s=>some (.ret (.d (bL x)),wX L s)) (r6 L)
 expr:∀s,A 295 [.ptr 0 0 0] (pC L s)=(lH L f s).el (λx s=>some (.ret (.d (bL x)),wX L s)) (r6 L)
section
variable {L:List fg} {s:PS} {A:br} {f:Nat} (D:L.length<1000000) (F:aiP L A f)
include D F
end
structure asF(L:List fg)(A:br)(f:Nat):Prop where
 E:aiP L A f
 block:∀ws s,ws.length<1000->A 157 [.ptr 0 0 0,.d (.list (ws.map .str))] (pC L s)=(nR L f ws s).el (λl s=>some (.ret (.d (.list (l.map cK))),wX L s)) (r6 L)
 stmt:∀s,A 224 [.ptr 0 0 0] (pC L s)=(Bh L f s).el (λx s=>some (.ret (.d (cK x)),wX L s)) (r6 L)
 tE:∀s,A 263 [.ptr 0 0 0] (pC L s)=(Et L f s).el (λx s=>some (.ret (.d (cK x)),wX L s)) (r6 L)
 yu:∀s,A 292 [.ptr 0 0 0] (pC L s)=(rG L f s).el (λx s=>some (.ret (.d (cK x)),wX L s)) (r6 L)
 cases:∀s,A 293 [.ptr 0 0 0] (pC L s)=(Av L f s).el (λx s=>some (.ret (.d (cK x)),wX L s)) (r6 L)
 By:∀s,A 294 [.ptr 0 0 0] (pC L s)=(tZ L f s).el (λx s=>some (.ret (.d (cK x)),wX L s)) (r6 L)
 call:∀D s,A 296 [.ptr 0 0 0,.d (.str D)] (pC L s)=(Eu L f D s).el (λx s=>some (.ret (.d (cK x)),wX L s)) (r6 L)
section
variable {L:List fg} {s:PS} {A:br} {f:Nat} (H:L.length<1000000) (F:asF L A f)
include H F
end
inductive TA where
 |level (n:Nat) (s:PS)
 |unary (s:PS)
 |E3 (s:PS)
 |index (s:PS)
 |expr (s:PS)
 |block (ws:List Tx) (s:PS)
 |stmt (s:PS)
 |tE (s:PS)
 |yu (s:PS)
 |cases (s:PS)
 |By (s:PS)
 |call (A:Tx) (s:PS)
def TA.args:TA->List AV
 | .level n _=>[.ptr 0 0 0,.d (.int .i64 n)]
 | .block ws _=>[.ptr 0 0 0,.d (.list (ws.map .str))]
 | .call A _=>[.ptr 0 0 0,.d (.str A)]
 |_=>[.ptr 0 0 0]
def TA.st:TA->PS
 | .level _ s=>s
 | .unary s=>s
 | .E3 s=>s
 | .index s=>s
 | .expr s=>s
 | .block _ s=>s
 | .stmt s=>s
 | .tE s=>s
 | .yu s=>s
 | .cases s=>s
 | .By s=>s
 | .call _ s=>s
end Go.Am
end
section
namespace Go.Am
open Go
section
variable {α β:Type}
def Tr(r:PM α)(Q:α->PS->Prop):Prop:=match r with
 | .ok a s=>Q a s
 | .bad e _=>1<=e.line/\e.e≠0
 | .out=>False
theorem Tr.bind{r:PM α}{k:α->PS->PM β}{Q:α->PS->Prop}{D:β->PS->Prop}(h:Tr r Q)(E:∀a s,Q a s->Tr (k a s) D):Tr (r.bind k) D:=by
 cases r with
 |ok a s=>exact E a s h
 |bad e s=>exact h
 |out=>exact h.elim
theorem Tr.mono{r:PM α}{Q D:α->PS->Prop}(h:Tr r Q)(E:∀a s,Q a s->D a s):Tr r D:=by
 cases r with
 |ok a s=>exact E a s h
 |bad e s=>exact h
 |out=>exact h.elim
theorem Tr.ok{a:α}{s:PS}{Q:α->PS->Prop}(h:Q a s):Tr (.ok a s) Q:=h
end
structure OkL(L:List fg):Prop where
 ends:∀(i:Nat)(t:fg),L[i]?=some t->(t.kind=0↔i+1=L.length)
 line:∀(i:Nat)(t:fg),L[i]?=some t->1<=t.line
 len:L.length<=49999
structure Iv(L:List fg)(s:PS):Prop where
 at_:s.at_<L.length
 d0:0<=s.deep
 d1:s.deep<=32
 vs:s.vars.length<=64
structure Fw(L:List fg)(s A:PS):Prop where
 iv:Iv L A
 deep:A.deep=s.deep
 vars:A.vars=s.vars
 at_:s.at_<=A.at_
structure Fs(L:List fg)(s A:PS):Prop extends Fw L s A where
 lt:s.at_<A.at_
theorem Fw.refl{L s}(h:Iv L s):Fw L s s:=⟨h,rfl,rfl,abO _⟩
theorem Fw.trans{L s s1 s2}(h:Fw L s s1)(k:Fw L s1 s2):Fw L s s2:=⟨k.iv,k.deep.trans h.deep,k.vars.trans h.vars,ahI h.at_ k.at_⟩
theorem Fs.trans{L s s1 s2}(h:Fs L s s1)(k:Fw L s1 s2):Fs L s s2:=⟨h.toFw.trans k,ahA h.lt k.at_⟩
section
variable {L:List fg} (H:OkL L)
include H
structure Dn(L:List fg)(s A:PS):Prop where
 iv:Iv L A
 deep:A.deep=s.deep+1
 vars:A.vars=s.vars
 at_:A.at_=s.at_
structure Fv(L:List fg)(s A:PS):Prop where
 iv:Iv L A
 deep:A.deep=s.deep
 at_:s.at_<=A.at_
structure aBT(L:List fg)(f:Nat):Prop where
 level:∀(n:Nat)(s:PS),n<=6->Iv L s->20*(L.length-s.at_)+(10-n)<=f->Tr (tY L f n s) λ_ A=>Fs L s A
 loop:∀(n:Nat)(x:Ex)(s:PS),n<6->Iv L s->20*(L.length-s.at_)+1<=f->Tr (Au L f n x s) λ_ A=>Fw L s A
 unary:∀s:PS,Iv L s->20*(L.length-s.at_)+3<=f->Tr (wK L f s) λ_ A=>Fs L s A
 unop:∀(op:Int)(t:fg)(s:PS),Iv L s->L[s.at_]?=some t->t.kind≠0->20*(L.length-s.at_)+2<=f->Tr (Es L f op t s) λ_ A=>Fs L s A
 expr:∀s:PS,Iv L s->20*(L.length-s.at_)+11<=f->Tr (lH L f s) λ_ A=>Fs L s A
 index:∀s:PS,Iv L s->20*(L.length-s.at_)+1<=f->Tr (wO L f s) λ_ A=>Fs L s A
 E3:∀s:PS,Iv L s->20*(L.length-s.at_)+2<=f->Tr (wL L f s) λ_ A=>Fs L s A
end
section
variable {L:List fg} (E:OkL L)
include E
structure aBU(L:List fg)(f:Nat):Prop where
 block:∀(ws:List Tx)(s:PS),Iv L s->20*(L.length-s.at_)+19<=f->Tr (nR L f ws s) λ_ A=>Fw L s A
 loop:∀(ws:List Tx)(l:List Sm)(s:PS),Iv L s->l.length<=s.at_->20*(L.length-s.at_)+18<=f->Tr (wP L f ws l s) λ_ A=>Fw L s A
 stmt:∀s:PS,Iv L s->20*(L.length-s.at_)+17<=f->Tr (Bh L f s) λ_ A=>Fs L s A
 tE:∀s:PS,Iv L s->20*(L.length-s.at_)+16<=f->Tr (Et L f s) λ_ A=>Fs L s A
 yu:∀s:PS,Iv L s->20*(L.length-s.at_)+15<=f->Tr (rG L f s) λ_ A=>Fs L s A
 mM:∀(c:List Ex)(l:List (List Sm))(s:PS),Iv L s->c.length<=s.at_->l.length<=s.at_->20*(L.length-s.at_)+14<=f->Tr (mM L f c l s) λ_ A=>Fs L s A
 cases:∀s:PS,Iv L s->20*(L.length-s.at_)+15<=f->Tr (Av L f s) λ_ A=>Fs L s A
 ub:∀(v:Ex)(c:List (List Int))(l:List (List Sm))(s:PS),Iv L s->c.length<=s.at_->l.length<=s.at_->20*(L.length-s.at_)+14<=f->Tr (ub L f v c l s) λ_ A=>Fs L s A
 yc:∀(l:List Sm)(s:PS),Iv L s->l.length<=s.at_->20*(L.length-s.at_)+18<=f->Tr (yc L f l s) λ_ A=>Fw L s A
 By:∀s:PS,Iv L s->20*(L.length-s.at_)+15<=f->Tr (tZ L f s) λ_ A=>Fs L s A
 call:∀(D:Tx)(s:PS),Iv L s->20*(L.length-s.at_)+15<=f->Tr (Eu L f D s) λ_ A=>Fs L s A
 yd:∀(D:Tx)(c:List Tx)(l:List Ex)(s:PS),Iv L s->c.length<=s.at_->l.length<=s.at_->20*(L.length-s.at_)+14<=f->Tr (yd L f D c l s) λ_ A=>Fs L s A
end
abbrev aiQ:=Option (Out×List (Nat×ay))
theorem aiR(c:Prop)[Decidable c](a b:Bool)(l:List (Nat×ay)):(if c then (some (Out.ret (.d (.bool a)),l):aiQ)else some (Out.ret (.d (.bool b)),l))=some (Out.ret (.d (.bool (if c then a else b))),l):=by split<;>rfl
theorem Y2(a b:Bool)(l:List (Nat×ay)):(some (Out.ret (.d (.bool a)),l):aiQ)=some (Out.ret (.d (.bool b)),l)↔(a=true↔b=true):=by
 cases a<;>cases b<;>simp
end Go.Am
end
section
namespace Go.Am
open Go Go.Proofs Go.Proofs.Tryz
variable [Inhabited bI]
set_option maxRecDepth 20000
theorem Y3{n:Int}(A:0<=n)(D:n<=255):IntKind.u8.wrap n=n:=by
 simp[IntKind.wrap,IntKind.bits,IntKind.signed];omega
theorem E4(c:UInt8):ah ctx 210 [.d (.int .u8 c.toNat)] []=some (.ret (.d (.bool (qq c))),[]):=by
 rw[agh (by simp)];simp[f210,aj];grind [qq]
theorem AP(c:UInt8):ah ctx 214 [.d (.int .u8 c.toNat)] []=some (.ret (.d (.bool (po c))),[]):=by
 rw[agk (by simp)];simp[f214,aj];grind [po]
theorem Hf(c:UInt8):ah ctx 212 [.d (.int .u8 c.toNat)] []=some (.ret (.d (.bool (eR c))),[]):=by
 rw[agi (by simp)];simp[f212,aj,E4,AP];simp only[aiR,Y2];grind [eR]
theorem Hg(c:UInt8):ah ctx 258 [.d (.int .u8 c.toNat)] []=some (.ret (.d (.int .i64 (fT c))),[]):=by
 rw[agy (by simp)];simp[f258,aj,AP];have E:c.toNat<256:=c.toNat_lt;have w:∀y:Int, -9223372036854775808<=y->y<=9223372036854775807->IntKind.i64.wrap y=y:=λy A D=>aH ⟨A,D⟩;have H:∀y:Int,0<=y->y<=255->IntKind.u8.wrap y=y:=λy A D=>Y3 A D;grind [fT,po]
theorem qx{s:Tx}{i:Nat}(h:i<s.length):iR s i=s[i]:=by simp[iR,h]
theorem acf(c:UInt8)(n:Nat)(A2:n<256):((c.toNat:Int)=n)↔c=UInt8.ofNat n:=by
 constructor
 ·intro h;have h:c.toNat=n:=by omega
  rw[<-h];simp
 ·rintro rfl;simp;omega
@[simp] def uo(s:Tx)(i:Nat):ay:=.box [.d (.str s),.d (.int .i64 i),.d (.int .i64 (fU (s.take i)).1),.d (.int .i64 (fU (s.take i)).2)]
theorem KL(s:Tx)(i:Nat)(h:i<=s.length):ah ctx 151 [.ptr 0 0 0] [uo s i]=some (.ret (.d (.str (s.drop i))),[(0,uo s i)]):=by
 rw[afY (by simp)];simp[f151,aj,h]
theorem Hh(s:Tx)(i n:Nat)(h:i+n<=s.length)(H:s.length<=100000)(k:Kt):∀(r j:Nat),j+r=n->
 aN ctx 153 (.loop (Code.at (bq f153) [1,0,0])) ⟨42,aC,[(0,true,.ptr 0 0 0),(4,true,.d (.int .i64 n)),(5,true,.d (.int .i64 j))],[⟨0,0,uo s (i+j)⟩]⟩ k=
  k (.exit 0) ⟨42,aC,[(0,true,.ptr 0 0 0),(4,true,.d (.int .i64 n)),(5,true,.d (.int .i64 n)),(6,true,.d (.bool false))],[⟨0,0,uo s (i+n)⟩]⟩
 |0,j,I=>by
  have I:j=n:=by omega
  subst I;rw[ag];simp[f153]
 |r+1,j,I=>by
  have ih:=Hh s i n h H k r (j+1) (by omega);have D:i+j<s.length:=by omega
  have A':=UD (s:=s) (i:=i+j);have A:=As D;rw[show i+(j+1)=i+j+1 by omega]at ih;generalize A0:fU (s.take (i+j))=p at*;generalize A1:fU (s.take (i+j+1))=q at*;obtain⟨l,c⟩:=p;obtain⟨A3,A4⟩:=q;simp only at A';have J:IntKind.i64.wrap (c+1)=c+1:=aH (by unfold aI;omega);have M:IntKind.i64.wrap (l+1)=l+1:=aH (by unfold aI;omega);have N:IntKind.i64.wrap ((i:Int)+j+1)=(i:Int)+j+1:=aH (by unfold aI;omega);have O:IntKind.i64.wrap ((j:Int)+1)=(j:Int)+1:=aH (by unfold aI;omega);have T:j<n:=by omega
  rw[ag];simp[f153,A0,A1]at ih⊢;have U:(0:Int)<=(i:Int)+j:=by omega
  have V:((i:Int)+j).toNat=i+j:=by omega
  have Y:=qx D;have Z:=acf s[i+j] 10 (by omega);simp at Z;unfold jV at A;by_cases E:s[i+j]=10
  ·rw[abT E]at A;cases A;simp[T,J,M,N,O,D,aj,U,V,Y,E,ih]
  ·rw[abN E]at A;cases A;simp[T,J,M,N,O,D,aj,U,V,Y,Z,E,ih]
theorem yw(s:Tx)(i n:Nat)(h:i+n<=s.length)(H:s.length<=100000):ah ctx 153 [.ptr 0 0 0,.d (.int .i64 n)] [uo s i]=some (.ret (.bY []),[(0,uo s (i+n))]):=by
 have y:=λk=>Hh s i n h H k n 0 (by omega);rw[af0 (by simp)];simp[f153]at y⊢;simp[y]
theorem yT(t:Tx)(c:UInt8):ah ctx 208 [.d (.str t),.d (.int .u8 c.toNat)] []=some (.ret (.d (.int .i64 (Go.Lib.indexByte t c))),[]):=by
 rw[agf (by simp)];simp[f208,aj]
set_option maxHeartbeats 1000000 in
theorem yx(s:Tx)(J:s.length<=100000)(k:Kt)(R:cd):∀(f i:Nat),i<=s.length->s.length-i<f->
 (k .ret ⟨51,aC,[(2,true,.d (.bool (fJ f (s.drop i)).2))],[⟨0,0,uo s (i+(fJ f (s.drop i)).1)⟩]⟩=R)->
 aN ctx 150 (.loop (Code.at (bq f150) [1,0,0])) ⟨51,aC,[(0,true,.ptr 0 0 0)],[⟨0,0,uo s i⟩]⟩ k=R
 |0,i,hi,A1,A=>by omega
 |f+1,i,hi,A1,A=>by
  have D:=KL s i hi;cases O:s.drop i with
  |nil=>
   rw[O]at D A;simp[fJ]at D A;rw[ag];simp[f150,D,A,aj]
  |cons c r=>
   have A9:i+(r.length+1)=s.length:=by have:=aeK List.length O;simp at this;omega
   have M:=yT (c::r) 10;rw[wH]at M;rw[O]at D A;unfold fJ at A;have T:iR (c::r) 0=c:=rfl;have A2:=Js (c::r);by_cases E:wG c=true
   ·rw[abT E]at A;have H:=yw s i 1 (by omega) J;have Y:s.drop (i+1)=r:=by rw[<-amu,O];rfl
    have ih:=yx s J k R f (i+1) (by omega) (by omega) (by rw[Y,show i+1+(fJ f r).1=i+(1+(fJ f r).1) by omega];exact A);simp[wG]at E;rw[ag];simp[f150]at D H ih⊢;rcases E with (E|E)|E<;>simp[D,T,E,H,ih,aj]
   rw[abN E]at A;have Z:¬(c.toNat:Int)=32:=λh=>E (by simp[wG];omega);have q:¬(c.toNat:Int)=10:=λh=>E (by simp[wG];omega);have y:¬(c.toNat:Int)=9:=λh=>E (by simp[wG];omega);have I:=Em 47 47 c r;have N:=Em 40 42 c r;by_cases A':c=47/\r.head?=some 47
   ·rw[abT A']at A;have I:Go.Lib.hasPrefix (c::r) [47,47]=true:=by rw[I];simp[A']
    have H:=yw s i (iE (c::r)) (by simp at A2;omega) J;have Y:s.drop (i+iE (c::r))=(c::r).drop (iE (c::r)):=by rw[<-amw,O]
    have AA:0<iE (c::r):=by simp[iE,A'.1]
    have ih:=yx s J k R f (i+iE (c::r)) (by simp at A2;omega) (by omega) (by rw[Y,adN];exact A);generalize iE (c::r)=n at*;rw[ag];by_cases U:n<(c::r).length
    ·rw[abT U]at M;have A3:¬((n:Int)<0):=by omega
     simp[f150]at D H ih M⊢;simp[D,T,Z,q,y,I,M,A3,H,ih,aj]
    ·rw[abN U]at M;have A7:n=r.length+1:=by simp at U A2;omega
     subst A7;simp[f150]at D H ih M⊢;simp[D,T,Z,q,y,I,M,H,ih,aj]
   rw[abN A']at A;have I:Go.Lib.hasPrefix (c::r) [47,47]=false:=by rw[I];simpa using A'
   by_cases A0:c=40/\r.head?=some 42
   ·rw[abT A0]at A;have N:Go.Lib.hasPrefix (c::r) [40,42]=true:=by rw[N];simp[A0]
    have V:=GQ r.tail;have A5:(2:Int)<=(r.length:Int)+1:=by cases r with|nil=>simp at A0|cons d r=>simp;omega
    have A6:r.length-1<4294967281:=by omega
    cases A4:m7 r.tail with
    |none=>
     rw[A4]at A V;simp at A V D;rw[ag];simp[f150];simp[D,T,Z,q,y,I,N,A5,A6,V,A,aj]
    |some m=>
     rw[A4]at A V;have hm:=x9 A4;have AB:r.tail.length=r.length-1:=by simp
     have H:=yw s i (m+4) (by omega) J;have Y:s.drop (i+(m+4))=(c::r).drop (m+4):=by rw[<-amw,O]
     have ih:=yx s J k R f (i+(m+4)) (by omega) (by omega) (by rw[Y,adN];exact A);have A3:¬((m:Int)<0):=by omega
     have A8:IntKind.i64.wrap ((m:Int)+4)=m+4:=aH (by unfold aI;omega);rw[ag];simp[f150]at D H ih V⊢;simp[D,T,Z,q,y,I,N,A5,A6,V,A3,A8,H,ih,aj]
   rw[abN A0]at A;have N:Go.Lib.hasPrefix (c::r) [40,42]=false:=by rw[N];simpa using A0
   simp at A D;rw[ag];simp[f150];simp[D,T,Z,q,y,I,N,A,aj]
theorem adn(s:Tx)(i:Nat)(hi:i<=s.length)(J:s.length<=100000)(f:Nat)(A1:s.length-i<f):
 ah ctx 150 [.ptr 0 0 0] [uo s i]=some (.ret (.d (.bool (fJ f (s.drop i)).2)),[(0,uo s (i+(fJ f (s.drop i)).1))]):=by
 have U:=λk R=>yx s J k R f i hi A1;rw[afX (by simp)];simp[f150]at U⊢;rw[U];simp
theorem LF(c:UInt8)(b:Int):ah ctx 257 [.d (.int .u8 c.toNat),.ptr 0 0 0] [.box [.d (.int .i64 b)]]=some (.ret (.d (.bool (decide ((fT c:Int)<b)))),[(0,.box [.d (.int .i64 b)])]):=by
 rw[agx (by simp)];simp[f257,aj,Hg]
theorem Ce(s:Tx)(E:s.length<=100000)(k:Kt):∀(r n:Nat),n+r=s.length->
 aN ctx 211 (.loop (Code.at (bq f211) [1,1,0,0,0])) ⟨20,aC,[(0,true,.d (.str s)),(1,true,.fn 212 []),(5,true,.d (.int .i64 n))],[]⟩ k=
  k (.exit 0) ⟨20,aC,[(0,true,.d (.str s)),(1,true,.fn 212 []),(5,true,.d (.int .i64 (n+((s.drop n).takeWhile eR).length:Nat))),(16,true,.d (.bool false))],[]⟩
 |0,n,H=>by
  have H:n=s.length:=by omega
  subst H;rw[ag];simp[f211]
 |r+1,n,H=>by
  have D:n<s.length:=by omega
  have ih:=Ce s E k r (n+1) (by omega);have N:IntKind.i64.wrap ((n:Int)+1)=(n:Int)+1:=aH (by unfold aI;omega);have I:=qx D;have A:=Hf s[n];have O:s.drop n=s[n]::s.drop (n+1):=aeN D;rw[O,List.takeWhile_cons];rw[ag];cases J:eR s[n]with
  |true=>
   rw[J]at A;have e:n+1+(List.takeWhile eR (s.drop (n+1))).length=n+((List.takeWhile eR (s.drop (n+1))).length+1):=by omega
   rw[e]at ih;simp[f211]at ih A⊢;simp[D,I,A,N,ih]
  |false=>
   rw[J]at A;simp[f211]at A⊢;simp[D,I,A]
theorem SG(s:Tx)(E:s.length<=100000):ah ctx 211 [.d (.str s),.fn 212 []] []=some (.ret (.d (.int .i64 (s.takeWhile eR).length)),[]):=by
 have M:=λk=>Ce s E k s.length 0 (by omega);rw[Vy (by simp)];simp[f211]at M⊢;simp[M]
theorem Cf(s:Tx)(E:s.length<=100000)(b:Nat)(k:Kt):∀(r n:Nat),n+r=s.length->
 aN ctx 211 (.loop (Code.at (bq f211) [1,1,0,0,0])) ⟨20,aC,[(0,true,.d (.str s)),(1,true,.fn 257 [.ptr 0 0 0]),(5,true,.d (.int .i64 n))],[⟨0,0,.box [.d (.int .i64 b)]⟩]⟩ k=
  k (.exit 0) ⟨20,aC,[(0,true,.d (.str s)),(1,true,.fn 257 [.ptr 0 0 0]),(5,true,.d (.int .i64 (n+((s.drop n).takeWhile (λc=>decide (fT c<b))).length:Nat))),(16,true,.d (.bool false))],[⟨0,0,.box [.d (.int .i64 b)]⟩]⟩
 |0,n,H=>by
  have H:n=s.length:=by omega
  subst H;rw[ag];simp[f211]
 |r+1,n,H=>by
  have D:n<s.length:=by omega
  have ih:=Cf s E b k r (n+1) (by omega);have N:IntKind.i64.wrap ((n:Int)+1)=(n:Int)+1:=aH (by unfold aI;omega);have I:=qx D;have A:=LF s[n] b;have O:s.drop n=s[n]::s.drop (n+1):=aeN D;rw[O,List.takeWhile_cons];rw[ag];by_cases J:fT s[n]<b
  ·have e:n+1+(List.takeWhile (λc=>decide (fT c<b)) (s.drop (n+1))).length=n+((List.takeWhile (λc=>decide (fT c<b)) (s.drop (n+1))).length+1):=by omega
   rw[e]at ih;simp[f211,J]at ih A⊢;simp[D,I,A,N,ih]
  ·simp[f211,J]at A⊢;simp[D,I,A]
theorem SH(s:Tx)(E:s.length<=100000)(b:Nat):ah ctx 211 [.d (.str s),.fn 257 [.ptr 0 0 0]] [.box [.d (.int .i64 b)]]=
 some (.ret (.d (.int .i64 (s.takeWhile (λc=>decide (fT c<b))).length)),[(0,.box [.d (.int .i64 b)])]):=by
 have M:=λk=>Cf s E b k s.length 0 (by omega);rw[Vy (by simp)];simp[f211]at M⊢;simp[M]
theorem ado(c:UInt8):fT c<=99:=by
 unfold fT po;split
 ·rename_i h;simp at h;omega
 ·split<;>omega
set_option maxHeartbeats 1000000 in
theorem KM(s:Tx)(A7:s.length<=100000)(b:Nat)(A8:2<=b/\b<=16)(n v:Nat)(D:ay)(O:n<=s.length)(k:Kt)(R:cd):∀(rest:Tx)(i x:Nat),(s.drop i).take rest.length=rest->i+rest.length=n->x<=9223372036854775807->
 (match FH b x rest with
  |none=>k .ret ⟨83,aC,[(2,true,.d (.int .i64 0)),(3,true,.d (.int .i64 0)),(4,true,.d (.int .i64 2))],[⟨350,1,.box [.d (.int .i64 b)]⟩,⟨500,v,D⟩]⟩
  |some y=>k (.exit 2) ⟨83,aC,[(0,true,.d (.str s)),(5,true,.ptr 350 1 0),(9,true,.d (.int .i64 n)),(10,true,.d (.int .i64 y)),(11,true,.d (.int .i64 n)),(63,true,.d (.bool false))],[⟨350,1,.box [.d (.int .i64 b)]⟩,⟨500,v,D⟩]⟩)=R->
 aN ctx 215 (.loop (Code.at (bq f215) [1,1,1,1,1,1,0,1,0,0])) ⟨83,aC,[(0,true,.d (.str s)),(5,true,.ptr 350 1 0),(9,true,.d (.int .i64 n)),(10,true,.d (.int .i64 x)),(11,true,.d (.int .i64 i))],[⟨350,1,.box [.d (.int .i64 b)]⟩,⟨500,v,D⟩]⟩ k=R
 |[],i,x,A',hi,AN,I=>by
  have hi:i=n:=by simpa using hi
  subst hi;simp[FH]at I;rw[ag];simp[f215,I]
 |c::rest,i,x,A',hi,AN,I=>by
  simp only[ach]at hi A';have A:i<s.length:=by omega
  have T:i<n:=by omega
  have AO:s.drop i=s[i]::s.drop (i+1):=aeN A;rw[AO,List.take_succ_cons]at A';have J:s[i]=c:=(List.cons.inj A').1;have AP:=(List.cons.inj A').2;have AE:=qx A;have Y:=Hg c;have Ag:=ado c;have AQ:IntKind.i64.wrap ((i:Int)+1)=(i:Int)+1:=aH (by unfold aI;omega);have AF:IntKind.i64.wrap (9223372036854775807-(fT c:Int))=((9223372036854775807-fT c:Nat):Int):=by rw[aH (by unfold aI;omega)];omega
  have AR:(9223372036854775807-fT c)/b<=9223372036854775807:=ahI (Nat.div_le_self _ _) (Nat.sub_le _ _);have AG:IntKind.i64.wrap (((9223372036854775807-fT c:Nat):Int)/(b:Int))=(((9223372036854775807-fT c)/b:Nat):Int):=by
   rw[<-Int.natCast_ediv];generalize (9223372036854775807-fT c)/b=z at AR;exact aH (by unfold aI;omega)
  have AH:b≠0:=by omega
  unfold FH at I;rw[ag];by_cases A2:(9223372036854775807-fT c)/b<x
  ·have A9:((9223372036854775807-fT c:Nat):Int)/(b:Int)<x:=by rw[<-Int.natCast_ediv];exact Int.ofNat_lt.2 A2
   rw[abT A2]at I;simp at I Y;simp[f215];simp[T,A,AE,J,Y,AF,AG,AH,A9,I]
  ·have A9:¬(((9223372036854775807-fT c:Nat):Int)/(b:Int)<x):=by rw[<-Int.natCast_ediv];exact λh=>A2 (Int.ofNat_lt.1 h)
   rw[abN A2]at I;have hm:x*b<=9223372036854775807-fT c:=by
    have AA:x<=(9223372036854775807-fT c)/b:=by omega
    have:=ab0 b AA;have AB:=Nat.div_mul_le_self (9223372036854775807-fT c) b;omega
   have AS:(x:Int)*(b:Int)=((x*b:Nat):Int):=by simp
   have AT:IntKind.i64.wrap ((x:Int)*b)=((x*b:Nat):Int):=by rw[AS];exact aH (by unfold aI;omega)
   have AU:IntKind.i64.wrap (((x*b:Nat):Int)+fT c)=((x*b+fT c:Nat):Int):=by rw[aH (by unfold aI;omega)];simp
   have ih:=KM s A7 b A8 n v D O k R rest (i+1) (x*b+fT c) AP (by omega) (by omega) I;generalize Ah:x*b+fT c=Ai at*;generalize x*b=Aj at*;simp[f215]at ih⊢;simp[T,A,AE,J,Y,AQ,AF,AG,AT,AU,AH,A9,ih]
theorem kf{a:UInt8}{p s:Tx}(h:(a::p).isPrefixOf s=true):s.head?=some a/\p.length+1<=s.length:=by
 have U:=List.isPrefixOf_iff_prefix.1 h;refine⟨?_,by simpa using U.length_le⟩;obtain⟨t,rfl⟩:=U;rfl
theorem yy(s:Tx):(Go.Lib.hasPrefix s [50,35]=true/\Go.Lib.hasPrefix s [56,35]=false/\Go.Lib.hasPrefix s [49,54,35]=false/\oc s=(2,2)/\2<=s.length)\/
 (Go.Lib.hasPrefix s [50,35]=false/\Go.Lib.hasPrefix s [56,35]=true/\Go.Lib.hasPrefix s [49,54,35]=false/\oc s=(8,2)/\2<=s.length)\/
 (Go.Lib.hasPrefix s [50,35]=false/\Go.Lib.hasPrefix s [56,35]=false/\Go.Lib.hasPrefix s [49,54,35]=true/\oc s=(16,3)/\3<=s.length)\/
 (Go.Lib.hasPrefix s [50,35]=false/\Go.Lib.hasPrefix s [56,35]=false/\Go.Lib.hasPrefix s [49,54,35]=false/\oc s=(10,0)/\0<=s.length):=by
 unfold Go.Lib.hasPrefix oc;have Ak:([50,35]:Tx).isPrefixOf s=true->([56,35]:Tx).isPrefixOf s=true->False:=λh g=>by
  have h:=(kf h).1;have g:=(kf g).1;rw[h]at g;revert g;decide
 have Al:([50,35]:Tx).isPrefixOf s=true->([49,54,35]:Tx).isPrefixOf s=true->False:=λh g=>by
  have h:=(kf h).1;have g:=(kf g).1;rw[h]at g;revert g;decide
 have An:([56,35]:Tx).isPrefixOf s=true->([49,54,35]:Tx).isPrefixOf s=true->False:=λh g=>by
  have h:=(kf h).1;have g:=(kf g).1;rw[h]at g;revert g;decide
 have Ao:([50,35]:Tx).isPrefixOf s=true->2<=s.length:=λh=>(kf h).2;have Ap:([56,35]:Tx).isPrefixOf s=true->2<=s.length:=λh=>(kf h).2;have Aq:([49,54,35]:Tx).isPrefixOf s=true->3<=s.length:=λh=>(kf h).2;cases AB:([50,35]:Tx).isPrefixOf s<;>cases Ar:([56,35]:Tx).isPrefixOf s<;>cases As:([49,54,35]:Tx).isPrefixOf s<;>simp_all
set_option maxHeartbeats 2000000 in
theorem SI(s:Tx)(A7:s.length<=100000):ah ctx 215 [.d (.str s)] []=some (.ret (.bY [.d (.int .i64 (nB s).1),.d (.int .i64 (nB s).2.1),.d (.int .i64 (nB s).2.2)]),[]):=by
 obtain⟨b,h,AI,A8,At⟩:∃b h,oc s=(b,h)/\(2<=b/\b<=16)/\h<=s.length:=by
  rcases yy s with ⟨_,_,_,e,M⟩|⟨_,_,_,e,M⟩|⟨_,_,_,e,M⟩|⟨_,_,_,e,M⟩<;>exact⟨_,_,e,by omega,by omega⟩
 have hw:=SH (s.drop h) (by simp;omega) b;obtain⟨E,A3⟩:∃E,E=(s.drop h).takeWhile (λc=>decide (fT c<b)):=⟨_,rfl⟩;rw[<-A3]at hw;have Au:E.length<=s.length-h:=by
  have:=(aiT (λc=>decide (fT c<b)) (l:=s.drop h)).length_le;rw[<-A3]at this;simpa using this
 have AV:(s.drop h).take E.length=E:=by
  rw[A3];exact List.prefix_iff_eq_take.1 (aiT _) |>.symm
 obtain⟨n,O⟩:∃n,n=h+E.length:=⟨_,rfl⟩;have AW:n<=s.length:=by omega
 have AJ:=λv D k R=>KM s A7 b A8 n v D AW k R E h 0 AV O.symm (by omega);have wn:IntKind.i64.wrap ((h:Int)+E.length)=(n:Int):=by rw[aH (by unfold aI;omega)];omega
 have Av:¬((n:Int)<0):=by omega
 have Aw:(0:Int)<=n:=by omega
 obtain⟨F,H⟩:∃F:Nat×Nat×Nat,F=CO s b h E:=⟨_,rfl⟩;have AX:nB s=F:=by unfold nB;rw[H,AI];simp only[<-A3]
 rw[AX];have AY:IntKind.i64.wrap 1=1:=aH (by unfold aI;omega);have AZ:IntKind.i64.wrap 2=2:=aH (by unfold aI;omega);have A_:IntKind.i64.wrap 3=3:=aH (by unfold aI;omega);have Aa:List.range' 0 3=[0,1,2]:=rfl;have key:∀(v:Nat)(D:ay)(k:Kt),n≠h->(n<s.length->eR (iR s n)=false/\iR s n≠35)->
  (∀x,k (.exit 2) ⟨83,aC,[(0,true,.d (.str s)),(5,true,.ptr 350 1 0),(9,true,.d (.int .i64 n)),(10,true,.d (.int .i64 x)),(11,true,.d (.int .i64 n)),(63,true,.d (.bool false))],[⟨350,1,.box [.d (.int .i64 b)]⟩,⟨500,v,D⟩]⟩=some (.ret (.bY [.d (.int .i64 n),.d (.int .i64 x),.d (.int .i64 0)]),[]))->
  (k .ret ⟨83,aC,[(2,true,.d (.int .i64 0)),(3,true,.d (.int .i64 0)),(4,true,.d (.int .i64 2))],[⟨350,1,.box [.d (.int .i64 b)]⟩,⟨500,v,D⟩]⟩=some (.ret (.bY [.d (.int .i64 0),.d (.int .i64 0),.d (.int .i64 2)]),[]))->
  aN ctx 215 (.loop (Code.at (bq f215) [1,1,1,1,1,1,0,1,0,0])) ⟨83,aC,[(0,true,.d (.str s)),(5,true,.ptr 350 1 0),(9,true,.d (.int .i64 n)),(10,true,.d (.int .i64 (0:Nat))),(11,true,.d (.int .i64 h))],[⟨350,1,.box [.d (.int .i64 b)]⟩,⟨500,v,D⟩]⟩ k=
   some (.ret (.bY [.d (.int .i64 F.1),.d (.int .i64 F.2.1),.d (.int .i64 F.2.2)]),[]):=by
  intro v D k AA AB Ab Ac;have Ad:¬(E=[]\/∃c,s[h+E.length]?=some c/\(eR c=true\/c=35)):=by
   rintro (J|⟨c,J,N⟩)
   ·exact AA (by rw[O,J];rfl)
   ·rw[<-O]at J;obtain⟨A,Ae⟩:=abM.1 J;have AC:=AB A;rw[qx A,Ae]at AC;rcases N with N|N
    ·rw[AC.1]at N;cases N
    ·exact AC.2 N
  unfold CO at H;rw[abN Ad,<-O]at H;refine AJ v D k _ ?_;cases Y:FH b 0 E with
  |none=>rw[Y]at H;rw[H];exact Ac
  |some x=>rw[Y]at H;rw[H];exact Ab x
 have err:∀c,n<s.length->iR s n=c->(eR c=true\/c=35)->F=(0,0,5):=by
  intro c A J N;unfold CO at H;rw[H,abT (.inr ⟨c,by rw[<-O,ad2 A,<-qx A,J],N⟩)]
 have AK:n=h->F=(0,0,5):=by
  intro he;unfold CO at H;rw[H,abT (.inl (List.length_eq_zero_iff.1 (by omega)))]
 have V:=Hf (iR s n);have AL:=acf (iR s n) 35 (by omega);simp at AL;clear H AJ;rw[agl (by simp)];rcases yy s with ⟨A4,A5,A6,e,M⟩|⟨A4,A5,A6,e,M⟩|⟨A4,A5,A6,e,M⟩|⟨A4,A5,A6,e,M⟩;all_goals
  obtain⟨U,AD⟩:∃U:Nat,U=h:=⟨_,rfl⟩;rw[AI]at e;cases e;have AM:=Int.ofNat_le.2 M;simp[f215]at hw wn AM key AK;simp[f215,Aa];iterate 4 (rw[ag];simp[A4,A5,A6,AY,AZ,A_,aj])
  simp[M,AM,hw,wn];by_cases Z:n=U
  ·have A0:=AK (Z.trans AD);rw[AD]at Z;simp[Z,A0]
  ·have q:¬((n:Int)=(U:Int)):=by omega
   rw[AD]at q Z;simp at q;by_cases A:n<s.length
   ·cases T:eR (iR s n)
    ·rw[T]at V;by_cases A1:iR s n=35
     ·have A0:=err _ A A1 (.inr rfl);rw[A1]at V;simp at V;simp[q,A,V,A1,A0]
     ·have Af:¬((iR s n).toNat:Int)=35:=λh=>A1 (AL.1 h);simp[q,A,V,Af];exact key _ _ _ Z (λ_=>⟨T,A1⟩) (λx=>by simp) (by simp)
    ·have A0:=err _ A rfl (.inl T);rw[T]at V;simp[q,A,V,A0]
   ·simp[q,A];exact key _ _ _ Z (λh=>absurd h A) (λx=>by simp) (by simp)
def r7(s:Tx):Nat->List Tx->Int
 |_,[]=> -1
 |i,x::r=>if s=x then (i:Int)else r7 s (i+1) r
theorem KO(s:Tx):∀(l:List Tx)(i:Nat),decide (0<=r7 s i l)=decide (s∈l)
 |[],i=>by simp[r7]
 |x::r,i=>by
  have:=KO s r (i+1);unfold r7;by_cases h:s=x
  ·simp[h]
  ·simp only[abN h,this];simp[h]
theorem Cg(l:List Tx)(E:l.length<=1000)(s:Tx)(k:Kt)(R:cd):∀(rest:List Tx)(i:Nat),l.drop i=rest->i+rest.length=l.length->
 ((if 0<=r7 s i rest then k .ret ⟨19,aC,[(4,true,.d (.int .i64 (r7 s i rest)))],[]⟩else k (.exit 0) ⟨19,aC,[(0,true,.d (.list (l.map .str))),(1,true,.d (.str s)),(7,true,.d (.int .i64 l.length)),(8,true,.d (.int .i64 l.length)),(9,true,.d (.bool false))],[]⟩)=R)->
 aN ctx 287 (.loop (Code.at (bq f287) [1,0,1,0,0])) ⟨19,aC,[(0,true,.d (.list (l.map .str))),(1,true,.d (.str s)),(7,true,.d (.int .i64 l.length)),(8,true,.d (.int .i64 i))],[]⟩ k=R
 |[],i,H,hi,h=>by
  have hi:i=l.length:=by simpa using hi
  subst hi;rw[ag];simp[r7]at h;simp[f287,h]
 |x::rest,i,H,hi,h=>by
  have I:i<l.length:=by simp at hi;omega
  have M:l[i]=x:=by
   have:=aeK (·[0]?) H;simp at this;simpa [I]using this
  have U:IntKind.i64.wrap ((i:Int)+1)=(i:Int)+1:=aH (by unfold aI;omega);unfold r7 at h;rw[ag];by_cases A:s=x
  ·simp[A]at h;simp[f287];simp[I,M,A,h]
  ·rw[abN A]at h;have ih:=Cg l E s k R rest (i+1) (by rw[<-amu,H];rfl) (by simp at hi;omega) h;simp[f287]at ih⊢;simp[I,M,A,U,ih]
theorem KP(s:Tx):∀(l:List Tx)(i:Nat),¬0<=r7 s i l->r7 s i l= -1
 |[],i,_=>rfl
 |x::r,i,h=>by
  unfold r7 at h⊢;split
  ·rename_i A;rw[abT A]at h;omega
  ·rename_i A;rw[abN A]at h;exact KP s r (i+1) h
theorem SJ(l:List Tx)(E:l.length<=1000)(s:Tx):ah ctx 287 [.d (.list (l.map .str)),.d (.str s)] []=some (.ret (.d (.int .i64 (r7 s 0 l))),[]):=by
 have N:=λk R h=>Cg l E s k R l 0 rfl (by simp) h;rw[agE (by simp)];simp[f287]at N⊢;rw[N];split
 ·simp
 ·rename_i h;simp[KP s l 0 h]
theorem KQ(l:List Tx)(E:l.length<=1000)(s:Tx):ah ctx 256 [.d (.list (l.map .str)),.d (.str s)] []=some (.ret (.d (.bool (decide (s∈l)))),[]):=by
 have h:=SJ l E s;rw[agw (by simp)];simp[f256,h,<-KO s l 0]
theorem SL:ah ctx 140 [.d (.str UE)] []=some (.ret (.d (.list (jW.map .str))),[]):=bu 300 (by kernel_rfl)
theorem Y4(s:Tx):ah ctx 213 [.d (.str s)] []=some (.ret (.d (.bool (uS s))),[]):=by
 have J:=SL;have O:=KQ jW (by decide) s;unfold UE at J;generalize jW.map D.str=W at J O;rw[agj (by simp)];simp[f213,J,O,uS]
theorem yU(c:UInt8):∀(l:Tx),0<=Go.Lib.indexByte l c↔c∈l
 |[]=>by simp[Go.Lib.indexByte]
 |b::r=>by
  have ih:=yU c r;have A2:=Go.Lib.indexByte_ge r c;unfold Go.Lib.indexByte;by_cases h:b=c
  ·simp[h]
  ·have V:¬c=b:=λe=>h e.symm;simp only[beq_iff_eq,h,ad0,abV,V,false_or,<-ih];split<;>omega
theorem Y5(c:UInt8)(r:Tx):sK (c::r)=if Go.Lib.hasPrefix (c::r) [58,61]=true then 2 else if Go.Lib.hasPrefix (c::r) [60,61]=true then 2 else if Go.Lib.hasPrefix (c::r) [62,61]=true then 2 else if Go.Lib.hasPrefix (c::r) [60,62]=true then 2 else if Go.Lib.hasPrefix (c::r) [46,46]=true then 2 else if 0<=Go.Lib.indexByte At c then 1 else 0:=by
 have hm:=yU c At;unfold sK Jt Go.Lib.hasPrefix;simp only[List.any_cons,List.any_nil,Bool.or_false,ahz,hm];grind
theorem Y6(c:UInt8)(r:Tx):ah ctx 216 [.d (.str (c::r))] []=some (.ret (.d (.int .i64 (sK (c::r)))),[]):=by
 have Y:List.range' 0 5=[0,1,2,3,4]:=rfl;have Z:IntKind.i64.wrap 1=1:=aH (by unfold aI;omega);have q:IntKind.i64.wrap 2=2:=aH (by unfold aI;omega);have y:IntKind.i64.wrap 3=3:=aH (by unfold aI;omega);have A':IntKind.i64.wrap 4=4:=aH (by unfold aI;omega);have A0:IntKind.i64.wrap 5=5:=aH (by unfold aI;omega);have T:=yT At c;rw[agm (by simp)];simp[f216,Y];iterate 6 (try (rw[ag];simp[Z,q,y,A',A0,aj]))
 have A1:iR (c::r) 0=c:=rfl;rw[Y5];unfold At at T⊢;simp[A1,T];grind
theorem Px(s:Tx):(nB s).1<=s.length:=by
 unfold nB CO;rcases yy s with ⟨_,_,_,e,A⟩|⟨_,_,_,e,A⟩|⟨_,_,_,e,A⟩|⟨_,_,_,e,A⟩;all_goals
  rw[e];simp only
  split
  ·simp
  ·split
   ·simp
   ·rename_i x _;simp only
    have:=(aiT (λc=>decide (fT c<(oc s).1)) (l:=s.drop (oc s).2)).length_le;rw[e]at this;simp only[aeo]at this;omega
theorem KR(c:UInt8)(r:Tx):sK (c::r)<=(c::r).length:=by
 unfold sK;split
 ·rename_i h;simp only[Jt,List.any_cons,List.any_nil,Bool.or_false,ahz]at h;rcases h with h|h|h|h|h<;>exact (kf h).2
 ·simp only
  split<;>simp
set_option maxHeartbeats 1000000 in
theorem Za(c:UInt8)(r:Tx)(V:(c::r).length<=100000)(line En:Int):ah ctx 152 [.d (.str (c::r)),.d (qu ⟨0,[],0,line,En⟩)] []=
 some (.ret (.bY [.d (qu ⟨(ko (c::r)).2.1,(c::r).take (ko (c::r)).2.2.1,(ko (c::r)).2.2.2,line,En⟩),.d (.int .i64 (ko (c::r)).1)]),[]):=by
 have I:iR (c::r) 0=c:=rfl;have A:=E4 c;have J:=AP c;have hw:=SG (c::r) V;have T:=SI (c::r) V;have Y:=Y6 c r;have N:((c::r).takeWhile eR).length<=(c::r).length:=(aiT _).length_le;have O:=Px (c::r);have U:=KR c r;have M:=Y4 ((c::r).take ((c::r).takeWhile eR).length);unfold ko;generalize y:((c::r).takeWhile eR).length=Z at*;generalize A':sK (c::r)=q at*;generalize A0:nB (c::r)=F at*;obtain⟨n,x,e⟩:=F;simp only at T O;rw[afZ (by simp)];simp only[ach]at N O U;cases E:qq c with
 |true=>
  rw[E]at A;cases D:uS ((c::r).take Z)with
  |true=>
   rw[D]at M;simp[f152,aj,I,A,hw,N,M,E,D]
  |false=>
   rw[D]at M;by_cases H:16<Z
   ·simp[f152,aj,I,A,hw,N,M,E,D,H];omega
   ·simp[f152,aj,I,A,hw,N,M,E,D,H];omega
 |false=>
  rw[E]at A;cases D:po c with
  |true=>
   rw[D]at J;by_cases H:e=0
   ·simp[f152,aj,I,A,J,T,O,E,D,H]
   ·simp[f152,aj,I,A,J,T,O,E,D,H]
  |false=>
   rw[D]at J;by_cases H:q=0
   ·simp[f152,aj,I,A,J,Y,U,E,D,H]
   ·simp[f152,aj,I,A,J,Y,U,E,D,H]
theorem Zb{s:Tx}(h:(nB s).2.2=0):1<=(nB s).1:=by
 unfold nB CO at h⊢;split
 ·rename_i M;rw[abT M]at h;simp at h
 ·rename_i M;rw[abN M]at h;split
  ·rename_i A0;rw[A0]at h;simp at h
  ·simp only
   simp only[amr]at M;have:=List.length_pos_iff.2 M.1;omega
theorem Zc{c:UInt8}{r:Tx}(h:(ko (c::r)).1=0):1<=(ko (c::r)).2.2.1/\(ko (c::r)).2.2.1<=(c::r).length:=by
 have Y:((c::r).takeWhile eR).length<=(c::r).length:=(aiT _).length_le;have A1:=Px (c::r);have A2:=KR c r;have A3:qq c=true->1<=((c::r).takeWhile eR).length:=by
  intro O;have:eR c=true:=by unfold eR;rw[O];rfl
  simp[this]
 have A4:=Zb (s:=c::r);unfold ko at h⊢;simp only at h⊢;generalize ((c::r).takeWhile eR).length=AG at*;generalize sK (c::r)=AH at*;generalize nB (c::r)=F at*;by_cases T:qq c=true
 ·simp only[abT T]at h⊢;have:=A3 T;split at h
  ·rename_i hw;rw[abT hw];exact⟨this,Y⟩
  ·rename_i hw;rw[abN hw];split at h
   ·simp at h
   ·rename_i A5;rw[abN A5];exact⟨this,Y⟩
 ·simp only[abN T]at h⊢;by_cases Z:po c=true
  ·simp only[abT Z]at h⊢;split at h
   ·rename_i he;rw[abT he];exact⟨A4 he,A1⟩
   ·rename_i he;exact absurd h he
  ·simp only[abN Z]at h⊢;split at h
   ·simp at h
   ·rename_i he;rw[abN he];exact⟨by simp only;omega,A2⟩
set_option maxHeartbeats 1000000 in
theorem KU(s:Tx)(A6:s.length<=16384):∀(f i:Nat)(out:List fg)(v4 v5 D:Nat)(E H:ay),i<=s.length->s.length-i<f->out.length<=i->
 aN ctx 92 (.loop (Code.at (bq f92) [1,1,1,1,0,0])) ⟨62,aC,[(4,true,.ptr 300 1 0),(5,true,.ptr 950 1 0),(6,true,.vec 400 v4 0 out.length)],
  [⟨200,1,.vec 5 []⟩,⟨300,1,.box [.d (.int .i64 0),.d (.str []),.d (.int .i64 0),.d (.int .i64 0),.d (.int .i64 0)]⟩,⟨400,v4,.vec 5 (out.map qu)⟩,⟨500,v5,E⟩,⟨550,D,H⟩,⟨950,1,uo s i⟩]⟩
  (CJ 0 (vI Tryz.prog QY 0 [.tmp 2,.tmp 3,.cell 4 55]))=some (.ret (.bY [.d (.list ((CP s f i out).1.map qu)),.d (.int .i64 (CP s f i out).2.1),.d (qu (CP s f i out).2.2)]),[])
 |0,i,out,v4,v5,D,E,H,hi,A7,A8=>by omega
 |f+1,i,out,v4,v5,D,E,H,hi,A7,A8=>by
  have A:=adn s i hi (by omega) (s.length+1) (by omega);have A9:=Be (s.length+1) (s.drop i);unfold CP;generalize fJ (s.length+1) (s.drop i)=g at*;obtain⟨n,ok⟩:=g;simp only[aeo]at A9;simp only at A⊢;obtain⟨j,AA⟩:∃j,j=i+n:=⟨_,rfl⟩;have AB:j<=s.length:=by omega
  have AI:((i+n:Nat):Int)=(i:Int)+n:=by omega
  rw[<-AA]at A⊢;have I:=KL s j AB;generalize J:fU (s.take j)=p at*;obtain⟨l,c⟩:=p;rw[ag];cases ok with
  |false=>
   simp[J]at A;simp[f92,aj,A,here]
  |true=>
   simp only[Bool.true_eq_false,ad0];cases U:s.drop j with
   |nil=>
    rw[U]at I;simp[J]at A I;have g1:(out.length+1)*48<=140737488355328/\out.length<=4611686018427387903:=by omega
    simp[f92,aj,A,I,here,g1]
   |cons a r=>
    rw[U]at I;have AJ:j+(r.length+1)=s.length:=by have:=aeK List.length U;simp at this;omega
    have N:=Za a r (by simp;omega) l c;have q:=Zc (c:=a) (r:=r);have AC:¬(a::r=[]):=by simp
    simp only[abN AC];generalize ko (a::r)=F at*;obtain⟨e,AD,m,x⟩:=F;simp only at N q⊢;simp[J]at A I;have g1:(out.length+1)*48<=140737488355328/\out.length<=4611686018427387903:=by omega
    by_cases he:e=0
    ·subst he;obtain⟨AK,AE⟩:=q rfl;simp only[ach]at AE;have y:=yw s j m (by omega) (by omega);have ih:=λv4 v5 D E H=>KU s A6 f (j+m) (out++[⟨AD,(a::r).take m,x,l,c⟩]) v4 v5 D E H (by omega) (by omega) (by simp;omega);have A':min m (r.length+1)=m:=by omega
     have AL:((min m (r.length+1):Nat):Int)=m:=by rw[A']
     simp at N;simp[f92,J]at ih y⊢;simp[aj,A,I,N,g1,A',y,ih]
    ·simp at N;have AF:¬((e:Int)=0):=by omega
     simp[f92,aj,A,I,N,he,AF,here]
theorem adp(s:Tx):ah ctx 92 [.d (.str s)] []=some (.ret (.bY [.d (.list ((FI s).1.map qu)),.d (.int .i64 (FI s).2.1),.d (qu (FI s).2.2)]),[]):=by
 rw[alj (by simp)];unfold FI;by_cases h:16384<s.length
 ·have V:(16384:Int)<s.length:=by omega
  simp[f92,aj,h,V]
 ·have V:¬((16384:Int)<s.length):=by omega
  have O:=λv4 v5 D E H=>KU s (by omega) (s.length+1) 0 [] v4 v5 D E H (by omega) (by omega) (by simp);rw[abN h];generalize CP s (s.length+1) 0 []=L at*;have J:fU []=(1,1):=rfl;simp[f92,J]at O;simp[f92,aj,h,V];exact O _ _ _ _ _
end Go.Am
end
section
namespace Go.Am
open Go Go.Proofs
variable [Inhabited bI]
def Hi(p q:Int×Int):Prop:=p.1<q.1\/(p.1=q.1/\p.2<q.2)
theorem KY(p:Int×Int)(c:UInt8):Hi p (jV p c):=by
 unfold Hi jV;split
 ·left;simp only;omega
 ·right;simp only;exact⟨trivial,by omega⟩
theorem Wu{p q r:Int×Int}(h:Hi p q)(k:Hi q r):Hi p r:=by
 unfold Hi at*;omega
theorem Py{s:Tx}:∀(d i:Nat),i+d+1<=s.length->Hi (fU (s.take i)) (fU (s.take (i+d+1)))
 |0,i,h=>by
  rw[As (show i+0<s.length by omega)];exact KY _ _
 |d+1,i,h=>by
  have:=Py (s:=s) d i (by omega);rw[As (show i+(d+1)<s.length by omega)];exact Wu this (KY _ _)
theorem Pz{s:Tx}{i j:Nat}(h:i<j)(M:j<=s.length):¬((fU (s.take j)).1=(fU (s.take i)).1/\(fU (s.take j)).2=(fU (s.take i)).2):=by
 have:=Py (s:=s) (j-i-1) i (by omega);rw[show i+(j-i-1)+1=j by omega]at this;unfold Hi at this;omega
inductive Laid(s:Tx):Nat->List fg->Prop
 |fin (i:Nat) (h:i<=s.length):Laid s i [here (fU (s.take s.length))]
 |sign (i j m:Nat) (k n:Int) (r:List fg) (I:i<=j) (A:j+m<=s.length) (D:1<=m) (h:Laid s (j+m) r):
  Laid s i (⟨k,(s.drop j).take m,n,(fU (s.take j)).1,(fU (s.take j)).2⟩::r)
theorem Laid.weaken{s:Tx}{i E:Nat}{r:List fg}(h:Laid s i r)(hi:E<=i):Laid s E r:=by
 cases h with
 |fin _ h=>exact .fin E (by omega)
 |sign _ j m k n r I A D h=>exact .sign E j m k n r (by omega) A D h
theorem Laid.step{s:Tx}{i:Nat}{t:fg}{r:List fg}(h:Laid s i (t::r))(hi:i<=s.length):
 (¬(t.line=(fU (s.take i)).1/\t.En=(fU (s.take i)).2)/\i<s.length/\Laid s (i+1) (t::r))\/
 ((t.line=(fU (s.take i)).1/\t.En=(fU (s.take i)).2)/\t.text.length<=s.length-i/\(s.drop i).take t.text.length=t.text/\((i<s.length/\Laid s (i+1) r)\/(i=s.length/\r=[]))):=by
 cases h with
 |fin _ h=>
  by_cases he:i=s.length
  ·subst he;right;simp[here]
  ·left;have H:i<s.length:=by omega
   exact⟨Pz H (abO _),H,.fin _ (by omega)⟩
 |sign _ j m k n r I A D h=>
  by_cases he:i=j
  ·subst he;right;have J:((s.drop i).take m).length=m:=by simp;omega
   refine⟨⟨rfl,rfl⟩,?_,?_,.inl ⟨by omega,h.weaken (by omega)⟩⟩
   ·simp only[J];omega
   ·simp only[J]
  ·left;have H:i<j:=by omega
   exact⟨Pz H (by omega),by omega,.sign _ j m k n r (by omega) A D h⟩
end Go.Am
end
section
namespace Go.Am
open Go Go.Proofs Go.Proofs.Tryz
variable [Inhabited bI]
set_option maxRecDepth 100000
theorem adq(x y A E H I J M:D)(ai:List D):xZ ctx 93 [.ptr 0 0 0,.ptr 1 0 0,.ptr 2 0 0,.lit .nilIface] [.box [.d x,.vec 3 0 0 ai.length,.d y],.box [.d A],.box [.d E,.d H,.d I,.d J,.d M],.vec 8 ai]=
 some (.ret (.bY []),[(0,.box [.d x,.vec 3 1 0 ai.length,.d y]),(0,.box [.d A]),(0,.box [.d E,.d H,.d I,.d J,.d M]),(1,.vec 8 ai)]):=by
 rw[alk (by rfl) (by rfl) (by simp)];simp[f93];erw[Ar rfl];simp
theorem Wv{U:Tx}{N:List fg}{a:Tx}{R c:List D}{n m:Int}(Z:FI U=(N,0,⟨0,[],0,0,0⟩))
 (V:ah ctx 94 [.ptr 0 0 0] [.box [.d (.list (N.map qu)),.d (.int .i64 0),.d (.int .i64 0),.vec 1 0 0 0],.vec 8 []]=
  some (.ret (.agg [.d (.str a),.vec 1 1 0 R.length,.d (.list c)]),[(0,.box [.d (.list (N.map qu)),.d (.int .i64 n),.d (.int .i64 m),.vec 1 1 0 R.length]),(1,.vec 8 R)])):
 ah ctx 57 [.d (.str U)] []=some (.ret (.bY [.d (.agg [.str a,.list R,.list c]),.d (.int .i64 0),.d (.agg [.int .i64 0,.str [],.int .i64 0,.int .i64 0,.int .i64 0])]),[]):=by
 have O:=adp U;rw[Z]at O;have Y:=λx y A E H I J M=>adq x y A E H I J M R;simp only at O;generalize N.map qu=T at*;have q:List.take R.length R=R:=List.take_length;rw[ala (by simp)];simp at O Y V;simp[f57,mG,oM,gV,DY,O,aj,V,Y,q]
def Ww:Tx:=[80,82,79,71,82,65,77,32,112,32,86,65,82,32,97,32,58,32,73,78,84,59,32,69,78,68,95,86,65,82,32,97,32,58,61,32,55,59,32,97,32,58,61,32,97,32,47,32,48,59,32,69,78,68,95,80,82,79,71,82,65,77]
def KZ:List fg:=[⟨2,[80,82,79,71,82,65,77],0,1,1⟩,⟨1,[112],0,1,9⟩,⟨2,[86,65,82],0,1,11⟩,⟨1,[97],0,1,15⟩,⟨4,[58],0,1,17⟩,⟨2,[73,78,84],0,1,19⟩,⟨4,[59],0,1,22⟩,⟨2,[69,78,68,95,86,65,82],0,1,24⟩,
 ⟨1,[97],0,1,32⟩,⟨4,[58,61],0,1,34⟩,⟨3,[55],7,1,37⟩,⟨4,[59],0,1,38⟩,⟨1,[97],0,1,40⟩,⟨4,[58,61],0,1,42⟩,⟨1,[97],0,1,45⟩,⟨4,[47],0,1,47⟩,⟨3,[48],0,1,49⟩,⟨4,[59],0,1,50⟩,⟨2,[69,78,68,95,80,82,79,71,82,65,77],0,1,52⟩,⟨0,[],0,1,63⟩]
theorem SM:FI Ww=(KZ,0,⟨0,[],0,0,0⟩):=by kernel_rfl
def vT:Pg:=⟨[112],[⟨[97],1,0,false,0,0,0,1⟩],[.mk 1 [] (.mk 3 0 [97] [] [] 1) (.mk 1 7 [] [] [] 1) [] [] [] [] 1,.mk 1 [] (.mk 3 0 [97] [] [] 1) (.mk 11 0 [] [] [.mk 3 0 [97] [] [] 1,.mk 1 0 [] [] [] 1] 1) [] [] [] [] 1]⟩
theorem Wx:ah ctx 94 [.ptr 0 0 0] [.box [.d (.list (KZ.map qu)),.d (.int .i64 0),.d (.int .i64 0),.vec 1 0 0 0],.vec 8 []]=
 some (.ret (.agg [.d (.str vT.name),.vec 1 1 0 (vT.vars.map bx).length,.d (.list (vT.body.map cK))]),[(0,.box [.d (.list (KZ.map qu)),.d (.int .i64 19),.d (.int .i64 0),.vec 1 1 0 (vT.vars.map bx).length]),(1,.vec 8 (vT.vars.map bx))]):=bu 300 (by kernel_rfl)
theorem adr:uk vT:=⟨by kernel_rfl,by kernel_rfl,by kernel_rfl,by decide+kernel⟩
theorem Zd:runM vT [0] 9=([7],1,7):=by kernel_rfl
theorem aiU:ah ctx 27 [] []=some (.ret (.d (.bool true)),[]):=by
 have D:=Wv SM Wx;have A:=FZ adr [0] 9 (by decide) (by simp[aI]);rw[Zd]at A;simp only[nV]at A;generalize vT.name=a at*;generalize vT.body.map cK=c at*;generalize vT.vars.map bx=R at*;rw[akW (by simp)];simp[Ww]at D;simp[mrD]at A;simp[f27,D,A]
end Go.Am
end
section
namespace Go.Am
open Go Go.Proofs Go.Proofs.Tryz
variable [Inhabited bI]
set_option maxRecDepth 20000
set_option maxHeartbeats 1600000
theorem Wy{p:Pg}(h:uk p){C:List Int}(Y:eX p C)(f:Nat):eX p (mm p C f).1/\(mm p C f).2.2<=f:=by
 have E:=h.fit;simp only[nC,Ds,abQ,ab2]at E;obtain⟨_,Z,N,A⟩:=E;obtain⟨y,I,A3⟩:=yl (p:=p) (by have:=h.lw;simp only[nV]at this;omega);have H:=h.Kz;unfold mP at H;have A':=(Wj (p:=p) (by omega) N (lp:=false) y A h.lit I (cu.1 H).2).2 ⟨C,f⟩ Y;unfold mm;generalize cD p.vars p.body ⟨C,f⟩=q at*;obtain⟨w,s⟩:=q;cases w<;>exact A'
theorem aiV{p:Pg}(h:uk p){C:List Int}(A0:(C.length:Int)=eF p.vars)(D:∀c∈C,aI c):eX p C:=by
 have E:=h.fit;simp only[nC,Ds,abQ,ab2]at E;obtain⟨_,Z,N,A⟩:=E;have H:=h.Kz;unfold mP at H;have:=AO p.vars [] 0 (by omega) (cu.1 H).1;exact⟨A0,by omega,D⟩
theorem Ze{p:Pg}(h:uk p){C:List Int}(D:∀c∈C,aI c)(f:Int):(runM p C f).1.length=C.length:=by
 unfold runM;split
 ·rfl
 ·rename_i A;simp only[amr,Int.not_lt,amx]at A;have:=(Wy h (aiV h A.1.1 D) f.toNat).1.len;show (mm p C f.toNat).1.length=C.length;omega
theorem ads{p:Pg}(h:uk p)(C:List Int)(f:Int):runM (B3 p) C f=runM p C f:=by
 unfold runM;rw[Ss h.fit h.lit h.Kz];rfl
theorem Hr{p:Pg}(C:List Int)(fuel:Int)(A1:gm p.body=true)(hw:fh (nV p)<10000000)(D:∀x∈C,aI x):
 ah ctx 9 [.d (nV p),.d (.list (C.map jD)),.d (.int .i64 fuel)] []=some (.ret (.d (.bool true)),[]):=by
 obtain⟨b,A,A2⟩:=Y1 A1 hw;have J:=aiU;rw[arw (by simp)];try simp at A
 cases b with
 |false=>simp[f9,J,A]
 |true=>
 have h:=A2 rfl;by_cases I:C.length<=2000;rotate_left
 ·have g2:(2000:Int)<(C.length:Int):=by omega
  simp[f9,J,A,g2]
 have g2:¬(2000:Int)<(C.length:Int):=by omega
 by_cases O:3000<fuel
 ·simp[f9,J,A,g2,O]
 have T:=YW h;have U:=FZ h C fuel I D;have M:=FZ h.fo C fuel I D;rw[ads h]at M;have A4:=Ze h D fuel;have V:=SF (runM p C fuel).1 (runM p C fuel).1 (runM p C fuel).2.1 (runM p C fuel).2.1 (runM p C fuel).2.2 (runM p C fuel).2.2 (by omega);generalize runM p C fuel=q at*;obtain⟨c,e,g⟩:=q;simp[mrD]at U M V;try simp at T
 generalize nV (B3 p)=A5 at*;simp[f9,J,A,g2,O,T,U,M,V,aj]
end Go.Am
end
section
namespace Go.Am
open Go
set_option maxRecDepth 20000
def asH:Nat->Nat
 |99=>207
 |143=>209
 |206=>253
 |217=>254
 |219=>255
 |224=>285
 |225=>284
 |266=>283
 |267=>286
 |314=>307
 |_=>0
def asI:Nat->Nat
 |3=>3
 |4=>4
 |5=>5
 |9=>9
 |46=>327
 |51=>285
 |146=>338
 |_=>0
def asJ:Nat->Nat
 |1=>2
 |_=>0
def rho:Go.Shelf.Ren:=⟨asH,asI,asJ⟩
theorem adt:Go.Proofs.Lays.n143 Go.Proofs.Tryz.prog rho where
 mixed:=by kernel_rfl
 f143:=by kernel_rfl
 f217:=by kernel_rfl
 f219:=by kernel_rfl
 f224:=by kernel_rfl
 f225:=by kernel_rfl
 f266:=by kernel_rfl
 f267:=by kernel_rfl
 f314:=by kernel_rfl
 t3:=by kernel_rfl
 a3:=by intro w;kernel_rfl
 z3:=by intro w;kernel_rfl
 v3:=by intro w;kernel_rfl
 t4:=by kernel_rfl
 a4:=by intro w;kernel_rfl
 z4:=by intro w;kernel_rfl
 v4:=by intro w;kernel_rfl
 t5:=by kernel_rfl
 a5:=by intro w;kernel_rfl
 z5:=by intro w;kernel_rfl
 v5:=by intro w;kernel_rfl
 t9:=by kernel_rfl
 a9:=by intro w;kernel_rfl
 z9:=by intro w;kernel_rfl
 v9:=by intro w;kernel_rfl
 t46:=by kernel_rfl
 a46:=by intro w;kernel_rfl
 z46:=by intro w;kernel_rfl
 v46:=by intro w;kernel_rfl
 t51:=by kernel_rfl
 a51:=by intro w;kernel_rfl
 z51:=by intro w;kernel_rfl
 v51:=by intro w;kernel_rfl
 t146:=by kernel_rfl
 a146:=by intro w;kernel_rfl
 z146:=by intro w;kernel_rfl
 v146:=by intro w;kernel_rfl
 g1:=by kernel_rfl
theorem adu:Go.Proofs.Lays.n217 Go.Proofs.Tryz.prog rho where
 mixed:=by kernel_rfl
 f217:=by kernel_rfl
 f266:=by kernel_rfl
 t3:=by kernel_rfl
 a3:=by intro w;kernel_rfl
 z3:=by intro w;kernel_rfl
 v3:=by intro w;kernel_rfl
 t5:=by kernel_rfl
 a5:=by intro w;kernel_rfl
 z5:=by intro w;kernel_rfl
 v5:=by intro w;kernel_rfl
 t9:=by kernel_rfl
 a9:=by intro w;kernel_rfl
 z9:=by intro w;kernel_rfl
 v9:=by intro w;kernel_rfl
theorem aiX:Go.Proofs.Lays.n99 Go.Proofs.Tryz.prog rho where
 mixed:=by kernel_rfl
 f99:=by kernel_rfl
 f206:=by kernel_rfl
 t3:=by kernel_rfl
 a3:=by intro w;kernel_rfl
 z3:=by intro w;kernel_rfl
 v3:=by intro w;kernel_rfl
 t4:=by kernel_rfl
 a4:=by intro w;kernel_rfl
 z4:=by intro w;kernel_rfl
 v4:=by intro w;kernel_rfl
 t9:=by kernel_rfl
 a9:=by intro w;kernel_rfl
 z9:=by intro w;kernel_rfl
 v9:=by intro w;kernel_rfl
end Go.Am
end
