/-
  Texts of one proof, one behind the other.
-/
import Derived.Test.YtdjlcobfpppbbaaGreatDoorQ6
import Derived.KernelRfl
import Derived.Test.YtdjlcobfpppbbaaGreatDoorProg
import Derived.Shelf.Lays
import Derived.Shelf.Strings.Search3
import Derived.Shelf.Strings.Prefix
import Derived.LaidLaws
import Derived.JoinedCond
set_option linter.all false
section
namespace Go.Am
open Go Go.Proofs
variable [Inhabited bV]
set_option maxRecDepth 20000
def Mk.CN(m:Mk)(at_ cell:Int)(b:List ar)(c u:Int):Mk:=
 ⟨m.out++(ins 11 0 0 0 0::ins 13 at_ cell 0 0::ins 10 (m.out.length+b.length+8) 0 0 0::cF (m.out.length+3) b++[ins 2 at_ 0 0 0,ins 2 (cell+1) 0 0 0,ins 8 0 8 0 0,ins 6 at_ 0 0 0,ins 9 m.out.length 0 0 0]),c,max m.most u,gI m.ex (cB (-1) (m.out.length+3) b),m.lv++cB (-2) (m.out.length+3) b⟩
def MkF(p:Pg)(m:Mk)(s:Sm)(at_ cell:Int)(r:bP):Prop:=∃v1 v2 v3,r=some (.ret (.aU []),[(0,.box [.ptr 4 0 0]),(0,.box [.d (.int .i64 at_)]),(0,.box [.d (.int .i64 cell)]),(0,bh s),(0,gH p m 0 5 6 7 v1 v2 v3),(v1,.vec 5 (m.out.map da)),(v2,.vv (m.ex.map fI) none),(v3,.vec 1 (m.lv.map dw))])
section
variable {p:Pg}
theorem aeN{name:Tx}{to val:Ex}{conds:List Ex}{b:List Sm}{line at_ cell:Int}(hB:sm p true b)(m:Mk)(hm:0≤m.most)(hc:0≤m.cells)(hI:ik m)(hex:m.ex≠[])(nN:aY (cell+1))
 (hl:m.out.length+(ag p.vars b m.cells).1.length+8<99999990) (aO:(ag p.vars b m.cells).2<99999990) (fE:m.ex.length+il b<99999990):
 MkF p (m.CN at_ cell (ag p.vars b m.cells).1 (ag p.vars b m.cells).2 (max 2 (bf b))) (.mk 4 name to val conds [] [] [b] line) at_ cell (ai ctx 210 [.ptr 0 0 0,.ptr 1 0 0,.ptr 2 0 0,.ptr 3 0 0] [.box [.ptr 4 0 0],.box [.d (.int .i64 at_)],.box [.d (.int .i64 cell)],bh (.mk 4 name to val conds [] [] [b] line),gH p m 0 5 6 7 0 0 0,.vec 5 (m.out.map da),.vv (m.ex.map fI) none,.vec 1 (m.lv.map dw)]):=by
 have g0:=CC p m 0;obtain⟨a1,a2,a3,g1⟩:=lV p m 0 (by omega) (by decide);have l1:(m.put (ins 11 0 0 0 0) 0).out.length=m.out.length+1:=by simp[Mk.put]
 generalize mU:m.put (ins 11 0 0 0 0) 0=M1 at g1 l1;obtain⟨b1,b2,b3,g2⟩:=jg p M1 0 1 (ins 13 at_ cell 0 0) (by omega) (by decide);have l2:(M1.put (ins 13 at_ cell 0 0) (0+1)).out.length=m.out.length+2:=by simp[Mk.put];omega
 generalize ou:M1.put (ins 13 at_ cell 0 0) (0+1)=M2 at g2 l2;obtain⟨c1,c2,c3,g3⟩:=we p M2 (0+1) 0 (by omega) (by decide);rw[show (0:Int)+1+ -1=0 by omega]at g3;have l3:(M2.put (ins 10 0 0 0 0) 0).out.length=m.out.length+3:=by simp[Mk.put];omega
 generalize qk:M2.put (ins 10 0 0 0 0) 0=M3 at g3 l3;have f3:M3.cells=m.cells∧M3.ex=m.ex∧M3.lv=m.lv∧0≤M3.most∧M3.most=max m.most 1∧M3.out=m.out++[ins 11 0 0 0 0,ins 13 at_ cell 0 0,ins 10 0 0 0 0]:=by
  subst qk ou mU;simp[Mk.put];omega
 have q3:ik M3:=by
  subst qk ou mU;exact ((hI.put _ _).put _ _).put _ _
 obtain⟨d1,d2,d3,g4⟩:=hB M3 f3.2.2.2.1 (by rw[f3.1];exact hc) q3 (fun _=>by rw[f3.2.1];exact hex) (by rw[f3.1];omega) (by rw[f3.1];omega) (by rw[f3.2.1];omega);rw[f3.1]at g4;have l4:(M3.aM (ag p.vars b m.cells).1 (ag p.vars b m.cells).2 (bf b)).out.length=m.out.length+3+(ag p.vars b m.cells).1.length:=by
  show (M3.out++cF _ _).length=_;rw[List.length_append,mh,l3]
 generalize qL:M3.aM (ag p.vars b m.cells).1 (ag p.vars b m.cells).2 (bf b)=M4 at g4 l4;obtain⟨e1,e2,e3,g5⟩:=CE p M4 0 at_ 1 (by omega) (by decide);rw[if_neg (by decide)]at g5;have l5:(M4.put (ins 2 at_ 0 0 0) (0+1)).out.length=m.out.length+4+(ag p.vars b m.cells).1.length:=by simp[Mk.put];omega
 generalize u5:M4.put (ins 2 at_ 0 0 0) (0+1)=M5 at g5 l5;obtain⟨h1,h2,h3,g6⟩:=CE p M5 (0+1) (cell+1) 1 (by omega) (by decide);rw[if_neg (by decide)]at g6;have l6:(M5.put (ins 2 (cell+1) 0 0 0) (0+1+1)).out.length=m.out.length+5+(ag p.vars b m.cells).1.length:=by simp[Mk.put];omega
 generalize Iu:M5.put (ins 2 (cell+1) 0 0 0) (0+1+1)=M6 at g6 l6;obtain⟨i1,i2,i3,g7⟩:=jg p M6 (0+1+1) (-1) (ins 8 0 8 0 0) (by omega) (by decide);have l7:(M6.put (ins 8 0 8 0 0) (0+1+1+ -1)).out.length=m.out.length+6+(ag p.vars b m.cells).1.length:=by simp[Mk.put];omega
 generalize Iw:M6.put (ins 8 0 8 0 0) (0+1+1+ -1)=M7 at g7 l7;obtain⟨j1,j2,j3,g8⟩:=pq p M7 (0+1+1+ -1) at_ (by omega) (by decide);rw[show (0:Int)+1+1+ -1+ -1=0 by omega]at g8;have l8:(M7.put (ins 6 at_ 0 0 0) 0).out.length=m.out.length+7+(ag p.vars b m.cells).1.length:=by simp[Mk.put];omega
 generalize hM8:M7.put (ins 6 at_ 0 0 0) 0=M8 at g8 l8;obtain⟨k1,k2,k3,g9⟩:=CD p M8 0 m.out.length (by omega) (by decide);have l9:(M8.put (ins 9 m.out.length 0 0 0) 0).out.length=m.out.length+8+(ag p.vars b m.cells).1.length:=by simp[Mk.put];omega
 generalize hM9:M8.put (ins 9 m.out.length 0 0 0) 0=M9 at g9 l9;have g10:=qj p M9 0 (m.out.length+2) (by omega) (by omega);have eP:M9.lead (m.out.length+2:Nat)=m.CN at_ cell (ag p.vars b m.cells).1 (ag p.vars b m.cells).2 (max 2 (bf b)):=by
  have o9:M9.out=(m.out++[ins 11 0 0 0 0,ins 13 at_ cell 0 0])++ins 10 0 0 0 0::(cF (m.out.length+3) (ag p.vars b m.cells).1++[ins 2 at_ 0 0 0,ins 2 (cell+1) 0 0 0,ins 8 0 8 0 0,ins 6 at_ 0 0 0,ins 9 m.out.length 0 0 0]):=by
   subst hM9 hM8 Iw Iu u5 qL;simp[Mk.put,Mk.aM,l3,f3]
  have x9:M9.ex=gI m.ex (cB (-1) (m.out.length+3) (ag p.vars b m.cells).1)∧M9.lv=m.lv++cB (-2) (m.out.length+3) (ag p.vars b m.cells).1∧M9.cells=(ag p.vars b m.cells).2∧M9.most=max m.most (max 2 (bf b)):=by
   subst hM9 hM8 Iw Iu u5 qL;simp[Mk.put,Mk.aM,l3,f3];omega
  unfold Mk.lead Mk.CN;rw[l9];simp only[x9,Mk.mk.injEq,and_true];rw[o9];have:=qh (m.out++[ins 11 0 0 0 0,ins 13 at_ cell 0 0]) (ins 10 0 0 0 0) (cF (m.out.length+3) (ag p.vars b m.cells).1++[ins 2 at_ 0 0 0,ins 2 (cell+1) 0 0 0,ins 8 0 8 0 0,ins 6 at_ 0 0 0,ins 9 m.out.length 0 0 0]) ((m.out.length+8+(ag p.vars b m.cells).1.length:Nat):Int);have e2:((m.out++[ins 11 0 0 0 0,ins 13 at_ cell 0 0]).length:Int)=((m.out.length+2:Nat):Int):=by simp
  rw[e2]at this;rw[this];simp[ins];omega
 rw[eP]at g10;generalize m.CN at_ cell (ag p.vars b m.cells).1 (ag p.vars b m.cells).2 (max 2 (bf b))=M10 at*;have w1:IntKind.i64.wrap (cell+1)=cell+1:=aw nN;rw[l2]at g3;clear mU ou qk qL u5 Iu Iw hM8 hM9 eP f3;have r8:List.range 8=[0,1,2,3,4,5,6,7]:=rfl;rw[acZ (by simp)];simp[ins]at g0 g1 g2 g3 g4 g5 g6 g7 g8 g9 g10;simp[Tryz.f210,aq,dc,w1,r8,g0,g1,g2,g3,g4,g5,g6,g7,g8,g9,g10];exact⟨_,_,_,rfl⟩
end
def Mk.opn(m:Mk):Mk:={m with ex:=m.ex++[[]]}
theorem ik.opn{m:Mk}(h:ik m):ik m.opn:=
 ⟨h.1,fun r hr=>by
  rcases List.mem_append.1 hr with hr|hr
  ·exact h.2 r hr
  ·simp at hr;subst hr;simp⟩
def Mk.qM(m:Mk)(ex:List (List Int))(row:List Int):Mk:={m with out:=jd m.out row m.out.length,ex:=ex}
theorem Ix{p:Pg}{s:Sm}{m M:Mk}{row:List Int}(hM:M.ex=m.ex++[row])(aO:ET p M 0 s (.ret (.aU [])) (ai ctx 211 [.ptr 0 0 0,.ptr 1 0 0] [.box [.ptr 2 0 0],bh s,gH p m.opn 0 3 4 5 0 0 0,.vec 5 (m.out.map da),.vv (m.opn.ex.map fI) none,.vec 1 (m.lv.map dw)]))
 (iT:row.length<99999990) (hl:M.out.length<99999990) (hp:Pl M.out.length row) (fE:m.ex.length<99999990):
 Y1 p (M.qM m.ex row) s (ai ctx 209 [.ptr 0 0 0,.fn 211 [.ptr 1 0 0,.ptr 2 0 0]] [gH p m 0 3 4 5 0 0 0,.box [.ptr 0 0 0],bh s,.vec 5 (m.out.map da),.vv (m.ex.map fI) none,.vec 1 (m.lv.map dw)]):=by
 obtain⟨v1,v2,v3,aO⟩:=aO;have kj:=th p {M with ex:=m.ex} 0 row (by omega) (by simpa using (by omega:M.out.length<100000000)) hp;have e:({M with ex:=m.ex}:Mk).cx row=M.qM m.ex row:=rfl;rw[e]at kj;have hx:(M.qM m.ex row).ex=m.ex:=rfl;have nt:(M.qM m.ex row).lv=M.lv:=rfl;generalize M.qM m.ex row=N at*;simp[hM,Mk.opn]at aO;simp[hx,nt]at kj;have w1:m.ex.length≤4611686018427387903:=by omega
 have w2:(m.ex.length+1)*24≤140737488355328:=by omega
 have w3:IntKind.i64.wrap ((m.ex.length:Int)+1-1)=m.ex.length:=by rw[show (m.ex.length:Int)+1-1=m.ex.length by omega];exact aw (by unfold aY;omega)
 have w4:IntKind.i64.wrap (m.ex.length:Int)=m.ex.length:=aw (by unfold aY;omega);rw[Sw (by simp)];simp[Tryz.f209,aO,w1,w2,w3,w4,kj];rw[←hx,←nt];exact⟨_,_,_,rfl⟩
def MkG(p:Pg)(m:Mk)(s:Sm)(at_ cell:Int)(r:bP):Prop:=∃v1 v2 v3,r=some (.ret (.aU []),[(0,gH p m 0 5 6 7 v1 v2 v3),(0,.box [.ptr 0 0 0]),(0,.box [.d (.int .i64 at_)]),(0,.box [.d (.int .i64 cell)]),(0,bh s),(v1,.vec 5 (m.out.map da)),(v2,.vv (m.ex.map fI) none),(v3,.vec 1 (m.lv.map dw))])
theorem VK{p:Pg}{s:Sm}{at_ cell:Int}{m M:Mk}{row:List Int}(hM:M.ex=m.ex++[row])(aO:MkF p M s at_ cell (ai ctx 210 [.ptr 0 0 0,.ptr 1 0 0,.ptr 2 0 0,.ptr 3 0 0] [.box [.ptr 4 0 0],.box [.d (.int .i64 at_)],.box [.d (.int .i64 cell)],bh s,gH p m.opn 0 5 6 7 0 0 0,.vec 5 (m.out.map da),.vv (m.opn.ex.map fI) none,.vec 1 (m.lv.map dw)]))
 (iT:row.length<99999990) (hl:M.out.length<99999990) (hp:Pl M.out.length row) (fE:m.ex.length<99999990):
 MkG p (M.qM m.ex row) s at_ cell (ai ctx 209 [.ptr 0 0 0,.fn 210 [.ptr 1 0 0,.ptr 2 0 0,.ptr 3 0 0,.ptr 4 0 0]] [gH p m 0 5 6 7 0 0 0,.box [.ptr 0 0 0],.box [.d (.int .i64 at_)],.box [.d (.int .i64 cell)],bh s,.vec 5 (m.out.map da),.vv (m.ex.map fI) none,.vec 1 (m.lv.map dw)]):=by
 obtain⟨v1,v2,v3,aO⟩:=aO;have kj:=th p {M with ex:=m.ex} 0 row (by omega) (by simpa using (by omega:M.out.length<100000000)) hp;have e:({M with ex:=m.ex}:Mk).cx row=M.qM m.ex row:=rfl;rw[e]at kj;have hx:(M.qM m.ex row).ex=m.ex:=rfl;have nt:(M.qM m.ex row).lv=M.lv:=rfl;generalize M.qM m.ex row=N at*;simp[hM,Mk.opn]at aO;simp[hx,nt]at kj;have w1:m.ex.length≤4611686018427387903:=by omega
 have w2:(m.ex.length+1)*24≤140737488355328:=by omega
 have w3:IntKind.i64.wrap ((m.ex.length:Int)+1-1)=m.ex.length:=by rw[show (m.ex.length:Int)+1-1=m.ex.length by omega];exact aw (by unfold aY;omega)
 have w4:IntKind.i64.wrap (m.ex.length:Int)=m.ex.length:=aw (by unfold aY;omega);rw[Sw (by simp)];simp[Tryz.f209,aO,w1,w2,w3,w4,kj];rw[←hx,←nt];exact⟨_,_,_,rfl⟩
theorem aeQ(m:Mk)(t b:List ar)(c u:Int):(m.opn.CL t b c u).ex=m.ex++[cB (-1) (m.out.length+t.length+2) b]:=by
 show gI (m.ex++[[]]) _=_;rw[iP];rfl
theorem Z1{m:Mk}{t b:List ar}{c u:Int}(ht:Flat t):(m.opn.CL t b c u).qM m.ex (cB (-1) (m.out.length+t.length+2) b)=m.aM (ij t b) c u:=by
 unfold Mk.qM Mk.CL Mk.aM Mk.opn;simp only[Mk.mk.injEq,true_and];have hlen:((m.out++(ins 11 0 0 0 0::t++(ins 10 (m.out.length+t.length+3+b.length) 0 0 0::cF (m.out.length+t.length+2) b++[ins 9 m.out.length 0 0 0]))).length:Int)=m.out.length+t.length+3+b.length:=by simp;omega
 rw[hlen];refine⟨P0 ht rfl rfl,?_,?_⟩
 ·have:cB (-1) m.out.length (ij t b)=[]:=Ib _ _;rw[this,lW]
 ·rw[S5 (by decide) (by decide) ht]
theorem aeR(m:Mk)(t b:List ar)(c u:Int):(m.opn.CM t b c u).ex=m.ex++[cB (-1) m.out.length b]:=by
 show gI (m.ex++[[]]) _=_;rw[iP];rfl
theorem Z2{m:Mk}{t b:List ar}{c u:Int}(ht:Flat t):(m.opn.CM t b c u).qM m.ex (cB (-1) m.out.length b)=m.aM (lS t b) c u:=by
 unfold Mk.qM Mk.CM Mk.aM Mk.opn;simp only[Mk.mk.injEq,true_and];have hlen:((m.out++(cF m.out.length b++(ins 11 0 0 0 0::t++[ins 10 m.out.length 0 0 0]))).length:Int)=m.out.length+b.length+t.length+2:=by simp;omega
 rw[hlen];refine⟨VC ht rfl rfl,?_,?_⟩
 ·have:cB (-1) m.out.length (lS t b)=[]:=Ib _ _;rw[this,lW]
 ·rw[ZK (by decide) (by decide) ht]
theorem P6(t b:List ar):(ij t b).length=t.length+3+b.length:=by simp[ij];omega
theorem VL(t b:List ar):(lS t b).length=t.length+2+b.length:=by simp[lS];omega
section
variable {p:Pg} (bm:p.vars.length≤1000) (hf:∀v∈p.vars,dr v=true)
include bm hf
theorem VM{to val:Ex}{b:List Sm}{line:Int}(fv:bk val=true)(ev:(aF p.vars val).e=0)(hB:sm p true b)(m:Mk)(hm:0≤m.most)(hc:0≤m.cells)(hI:ik m)
 (hl:m.out.length+(ij (ak p.vars val).1 (ag p.vars b m.cells).1).length<99999990) (aO:(ag p.vars b m.cells).2<99999990) (fE:m.ex.length+1+il b<99999990):
 fK p (m.aM (ij (ak p.vars val).1 (ag p.vars b m.cells).1) (ag p.vars b m.cells).2 (max (aL 0 val) (bf b))) 0 (.ret (.aU [])) (ai ctx 140 [.ptr 0 0 0,.d (b5 (.mk 5 [] to val [] [] [] [b] line))] (fJ p m 0)):=by
 rw[P6]at hl;have ho:m.opn.ex.length=m.ex.length+1:=by simp[Mk.opn]
 have h1:=aeL bm hf (to:=to) (line:=line) fv ev hB m.opn hm hc hI.opn (by simp[Mk.opn]) (by show m.out.length+_+(ag p.vars b m.cells).1.length+3<_;omega) aO (by rw[ho];exact fE);rw[show m.opn.cells=m.cells from rfl]at h1;have hrl:=pt (-1) (ag p.vars b m.cells).1 (m.out.length+(ak p.vars val).1.length+2);have pU:(m.opn.CL (ak p.vars val).1 (ag p.vars b m.cells).1 (ag p.vars b m.cells).2 (max (aL 0 val) (bf b))).out.length=m.out.length+(ak p.vars val).1.length+3+(ag p.vars b m.cells).1.length:=by
  simp[Mk.CL,Mk.opn];omega
 obtain⟨v1,v2,v3,nB⟩:=Ix (m:=m) (aeQ m _ _ _ _) h1 (by omega) (by rw[pU];omega) (fun i hi=>by
  obtain⟨j,e,hj⟩:=yD _ _ _ i hi;exact⟨j,e,by rw[pU];omega⟩) (by omega)
 rw[Z1 (lA val fv ev)]at nB;generalize m.aM (ij (ak p.vars val).1 (ag p.vars b m.cells).1) (ag p.vars b m.cells).2 (max (aL 0 val) (bf b))=M at*;rw[Su (by simp)];simp at nB;simp[Tryz.f140,eI,nB];exact⟨_,_,_,rfl⟩
theorem Tm{to val:Ex}{b:List Sm}{line:Int}(fv:bk val=true)(ev:(aF p.vars val).e=0)(hB:sm p true b)(m:Mk)(hm:0≤m.most)(hc:0≤m.cells)(hI:ik m)
 (hl:m.out.length+(lS (ak p.vars val).1 (ag p.vars b m.cells).1).length<99999990) (aO:(ag p.vars b m.cells).2<99999990) (fE:m.ex.length+1+il b<99999990):
 fK p (m.aM (lS (ak p.vars val).1 (ag p.vars b m.cells).1) (ag p.vars b m.cells).2 (max (aL 0 val) (bf b))) 0 (.ret (.aU [])) (ai ctx 140 [.ptr 0 0 0,.d (b5 (.mk 6 [] to val [] [] [] [b] line))] (fJ p m 0)):=by
 rw[VL]at hl;have ho:m.opn.ex.length=m.ex.length+1:=by simp[Mk.opn]
 have h1:=aeM bm hf (to:=to) (line:=line) fv ev hB m.opn hm hc hI.opn (by simp[Mk.opn]) (by show m.out.length+_+(ag p.vars b m.cells).1.length+2<_;omega) aO (by rw[ho];exact fE);rw[show m.opn.cells=m.cells from rfl]at h1;have hrl:=pt (-1) (ag p.vars b m.cells).1 m.out.length;have pU:(m.opn.CM (ak p.vars val).1 (ag p.vars b m.cells).1 (ag p.vars b m.cells).2 (max (aL 0 val) (bf b))).out.length=m.out.length+(ak p.vars val).1.length+2+(ag p.vars b m.cells).1.length:=by
  simp[Mk.CM,Mk.opn];omega
 obtain⟨v1,v2,v3,nB⟩:=Ix (m:=m) (aeR m _ _ _ _) h1 (by omega) (by rw[pU];omega) (fun i hi=>by
  obtain⟨j,e,hj⟩:=yD _ _ _ i hi;exact⟨j,e,by rw[pU];omega⟩) (by omega)
 rw[Z2 (lA val fv ev)]at nB;generalize m.aM (lS (ak p.vars val).1 (ag p.vars b m.cells).1) (ag p.vars b m.cells).2 (max (aL 0 val) (bf b))=M at*;rw[Su (by simp)];simp at nB;simp[Tryz.f140,eI,nB];exact⟨_,_,_,rfl⟩
end
theorem aeS(m:Mk)(a cell:Int)(b:List ar)(c u:Int):(m.opn.CN a cell b c u).ex=m.ex++[cB (-1) (m.out.length+3) b]:=by
 show gI (m.ex++[[]]) _=_;rw[iP];rfl
theorem Z3{m:Mk}{a cell:Int}{b:List ar}{c u:Int}:(m.opn.CN a cell b c u).qM m.ex (cB (-1) (m.out.length+3) b)=m.aM (kL a cell b) c u:=by
 unfold Mk.qM Mk.CN Mk.aM Mk.opn;simp only[Mk.mk.injEq,true_and];have hlen:((m.out++(ins 11 0 0 0 0::ins 13 a cell 0 0::ins 10 (m.out.length+b.length+8) 0 0 0::cF (m.out.length+3) b++[ins 2 a 0 0 0,ins 2 (cell+1) 0 0 0,ins 8 0 8 0 0,ins 6 a 0 0 0,ins 9 m.out.length 0 0 0])).length:Int)=m.out.length+b.length+8:=by simp;omega
 rw[hlen];refine⟨VD rfl rfl,?_,?_⟩
 ·have:cB (-1) m.out.length (kL a cell b)=[]:=Ib _ _;rw[this,lW]
 ·rw[ZL (by decide) (by decide)]
theorem VN(a c:Int)(b:List ar):(kL a c b).length=b.length+8:=by simp[kL]
section
variable {p:Pg} (bm:p.vars.length≤1000) (hf:∀v∈p.vars,dr v=true)
include bm hf
theorem P7{name:Tx}{to val x y z:Ex}{b:List Sm}{line:Int}{v:Vr}(hv:bg p.vars name=some v)(fx:bk x=true)(ex:(aF p.vars x).e=0)(fy:bk y=true)(ey:(aF p.vars y).e=0)(fz:bk z=true)(ez:(aF p.vars z).e=0)(hB:sm p true b)(aie:∀c,0≤c→c≤(ag p.vars b c).2)(m:Mk)(hm:0≤m.most)(hc:0≤m.cells)(hI:ik m)
 (hl:m.out.length+((ak p.vars x).1++((ak p.vars y).1++(ak p.vars z).1)).length+3+(kL (b9 p.vars name).1 m.cells (ag p.vars b (m.cells+2)).1).length<99999990) (aO:(ag p.vars b (m.cells+2)).2<99999990) (fE:m.ex.length+1+il b<99999990):
 fK p (m.aM (jn (((ak p.vars x).1++((ak p.vars y).1++(ak p.vars z).1))++[ins 6 (m.cells+1) 0 0 0,ins 6 m.cells 0 0 0,ins 6 (b9 p.vars name).1 0 0 0]) (kL (b9 p.vars name).1 m.cells (ag p.vars b (m.cells+2)).1)) (ag p.vars b (m.cells+2)).2 (max (max (fC 0 [x,y,z]) 3) (bf b))) 0 (.ret (.aU [])) (ai ctx 139 [.ptr 0 0 0,.d (b5 (.mk 4 name to val [x,y,z] [] [] [b] line))] (fJ p m 0)):=by
 rw[VN]at hl;simp only[List.length_append]at hl;have s8:=aie (m.cells+2) (by omega);have gM:=pr p bm hf name;rw[hv,iB hv]at gM;obtain⟨a1,a2,a3,g1⟩:=Ta p m 0 2 (aw (by unfold aY;omega));have f1:({m with cells:=m.cells+2}:Mk).out=m.out:=rfl;generalize mU:({m with cells:=m.cells+2}:Mk)=M1 at g1 f1;have m1:0≤M1.most:=by subst mU;exact hm
 obtain⟨b1,b2,b3,g2⟩:=kS bm hf x fx ex M1 0 (by omega) (by omega) m1 (by rw[f1];omega);have l2:(M1.az (ak p.vars x).1 (aL 0 x)).out.length=m.out.length+(ak p.vars x).1.length:=by simp[Mk.az,f1]
 have p2:0≤(M1.az (ak p.vars x).1 (aL 0 x)).most:=by simp[Mk.az];omega
 generalize ou:M1.az (ak p.vars x).1 (aL 0 x)=M2 at g2 l2 p2;have hpx:=jQ p.vars x;have hpy:=jQ p.vars y;have hpz:=jQ p.vars z;obtain⟨c1,c2,c3,g3⟩:=kS bm hf y fy ey M2 (0+1) (by omega) (by omega) p2 (by omega);have l3:(M2.az (ak p.vars y).1 (aL (0+1) y)).out.length=m.out.length+(ak p.vars x).1.length+(ak p.vars y).1.length:=by simp[Mk.az,l2]
 have p3:0≤(M2.az (ak p.vars y).1 (aL (0+1) y)).most:=by simp[Mk.az];omega
 generalize qk:M2.az (ak p.vars y).1 (aL (0+1) y)=M3 at g3 l3 p3;obtain⟨d1,d2,d3,g4⟩:=kS bm hf z fz ez M3 (0+1+1) (by omega) (by omega) p3 (by omega);have l4:(M3.az (ak p.vars z).1 (aL (0+1+1) z)).out.length=m.out.length+(ak p.vars x).1.length+(ak p.vars y).1.length+(ak p.vars z).1.length:=by simp[Mk.az,l3]
 generalize qL:M3.az (ak p.vars z).1 (aL (0+1+1) z)=M4 at g4 l4;obtain⟨e1,e2,e3,g5⟩:=pq p M4 (0+1+1+1) (m.cells+1) (by omega) (by decide);have l5:(M4.put (ins 6 (m.cells+1) 0 0 0) (0+1+1+1+ -1)).out.length=m.out.length+(ak p.vars x).1.length+(ak p.vars y).1.length+(ak p.vars z).1.length+1:=by simp[Mk.put,l4]
 generalize u5:M4.put (ins 6 (m.cells+1) 0 0 0) (0+1+1+1+ -1)=M5 at g5 l5;obtain⟨h1,h2,h3,g6⟩:=pq p M5 (0+1+1+1+ -1) m.cells (by omega) (by decide);have l6:(M5.put (ins 6 m.cells 0 0 0) (0+1+1+1+ -1+ -1)).out.length=m.out.length+(ak p.vars x).1.length+(ak p.vars y).1.length+(ak p.vars z).1.length+2:=by simp[Mk.put,l5]
 generalize Iu:M5.put (ins 6 m.cells 0 0 0) (0+1+1+1+ -1+ -1)=M6 at g6 l6;obtain⟨i1,i2,i3,g7⟩:=pq p M6 (0+1+1+1+ -1+ -1) (b9 p.vars name).1 (by omega) (by decide);have l7:(M6.put (ins 6 (b9 p.vars name).1 0 0 0) (0+1+1+1+ -1+ -1+ -1)).out.length=m.out.length+(ak p.vars x).1.length+(ak p.vars y).1.length+(ak p.vars z).1.length+3:=by simp[Mk.put,l6]
 generalize Iw:M6.put (ins 6 (b9 p.vars name).1 0 0 0) (0+1+1+1+ -1+ -1+ -1)=M7 at g7 l7;have f7:M7.cells=m.cells+2∧M7.ex=m.ex∧0≤M7.most∧M7=(({m with cells:=m.cells+2}:Mk).az (((ak p.vars x).1++((ak p.vars y).1++(ak p.vars z).1))++[ins 6 (m.cells+1) 0 0 0,ins 6 m.cells 0 0 0,ins 6 (b9 p.vars name).1 0 0 0]) (max (fC 0 [x,y,z]) 3)):=by
  have t1:=kW 0 x;have t2:=kW 1 y;have t3:=kW 2 z;subst Iw Iu u5 qL qk ou mU;refine⟨rfl,rfl,?_,?_⟩
  ·simp[Mk.put,Mk.az];omega
  ·simp only[Mk.put,Mk.az,Mk.mk.injEq,fC];simp;omega
 have q7:ik M7:=by
  have q1:ik ({m with cells:=m.cells+2}:Mk):=hI;subst Iw Iu u5 qL qk ou mU;exact (((((q1.az _ _).az _ _).az _ _).put _ _).put _ _).put _ _
 have ho:M7.opn.ex.length=m.ex.length+1:=by simp[Mk.opn,f7.2.1]
 have g8:=aeN (name:=name) (to:=to) (val:=val) (conds:=[x,y,z]) (line:=line) (at_:=(b9 p.vars name).1) (cell:=m.cells) hB M7.opn f7.2.2.1 (by show 0≤M7.cells;rw[f7.1];omega) q7.opn (by simp[Mk.opn]) (by unfold aY;omega) (by show M7.out.length+(ag p.vars b M7.cells).1.length+8<_;rw[f7.1,l7];omega) (by show (ag p.vars b M7.cells).2<_;rw[f7.1];exact aO) (by rw[ho];exact fE);rw[show M7.opn.cells=m.cells+2 from f7.1]at g8;have hrl:=pt (-1) (ag p.vars b (m.cells+2)).1 (M7.out.length+3);have pU:(M7.opn.CN (b9 p.vars name).1 m.cells (ag p.vars b (m.cells+2)).1 (ag p.vars b (m.cells+2)).2 (max 2 (bf b))).out.length=M7.out.length+8+(ag p.vars b (m.cells+2)).1.length:=by
  simp[Mk.CN,Mk.opn];omega
 obtain⟨v1,v2,v3,nB⟩:=VK (m:=M7) (aeS M7 _ _ _ _ _) g8 (by omega) (by rw[pU];omega) (fun i hi=>by
  obtain⟨j,e,hj⟩:=yD _ _ _ i hi;exact⟨j,e,by rw[pU];omega⟩) (by rw[f7.2.1];omega)
 rw[Z3]at nB;have eP:M7.aM (kL (b9 p.vars name).1 m.cells (ag p.vars b (m.cells+2)).1) (ag p.vars b (m.cells+2)).2 (max 2 (bf b))=m.aM (jn (((ak p.vars x).1++((ak p.vars y).1++(ak p.vars z).1))++[ins 6 (m.cells+1) 0 0 0,ins 6 m.cells 0 0 0,ins 6 (b9 p.vars name).1 0 0 0]) (kL (b9 p.vars name).1 m.cells (ag p.vars b (m.cells+2)).1)) (ag p.vars b (m.cells+2)).2 (max (max (fC 0 [x,y,z]) 3) (bf b)):=by
  have iC:Flat (((ak p.vars x).1++((ak p.vars y).1++(ak p.vars z).1))++[ins 6 (m.cells+1) 0 0 0,ins 6 m.cells 0 0 0,ins 6 (b9 p.vars name).1 0 0 0]):=
   (((lA x fx ex).app ((lA y fy ey).app (lA z fz ez)))).app (.cons (by simp[ins]) (.cons (by simp[ins]) (.one (by simp[ins]))))
  rw[←zp m _ _ (m.cells+2) _ (max (fC 0 [x,y,z]) 3) _,f7.2.2.2];have e:({m with cells:=m.cells+2}:Mk).az (((ak p.vars x).1++((ak p.vars y).1++(ak p.vars z).1))++[ins 6 (m.cells+1) 0 0 0,ins 6 m.cells 0 0 0,ins 6 (b9 p.vars name).1 0 0 0]) (max (fC 0 [x,y,z]) 3)=m.aM (((ak p.vars x).1++((ak p.vars y).1++(ak p.vars z).1))++[ins 6 (m.cells+1) 0 0 0,ins 6 m.cells 0 0 0,ins 6 (b9 p.vars name).1 0 0 0]) (m.cells+2) (max (fC 0 [x,y,z]) 3):=by
   rw[←nI iC];rfl
  rw[e];exact lX (by simp[Mk.aM];omega)
 rw[eP]at nB;generalize m.aM (jn (((ak p.vars x).1++((ak p.vars y).1++(ak p.vars z).1))++[ins 6 (m.cells+1) 0 0 0,ins 6 m.cells 0 0 0,ins 6 (b9 p.vars name).1 0 0 0]) (kL (b9 p.vars name).1 m.cells (ag p.vars b (m.cells+2)).1)) (ag p.vars b (m.cells+2)).2 (max (max (fC 0 [x,y,z]) 3) (bf b))=M at*;clear mU ou qk qL u5 Iu Iw eP f7 g8;have w1:IntKind.i64.wrap (m.cells+1)=m.cells+1:=aw (by unfold aY;omega);have u1:IntKind.i64.wrap 1=1:=rfl;have u2:IntKind.i64.wrap 2=2:=rfl;have u3:IntKind.i64.wrap 3=3:=rfl;rw[acE (by simp)];simp at g1 g2 g3 g4 g5 g6 g7;simp[aD]at nB;simp[Tryz.f139,eI,gM,bF,ep,g1,aq];rw[ah];simp[Tryz.f139,aD,g2,u1];rw[ah];simp[Tryz.f139,aD,g3,u1,u2];rw[ah];simp[Tryz.f139,aD,g4,u1,u2,u3];rw[ah];simp[Tryz.f139,g5,g6,g7,w1,nB];exact⟨_,_,_,rfl⟩
end
theorem EV(c:Int):∀l:List Int,l.length%2=0→(dZ c l).length=l.length
 |[],_=>by simp[dZ]
 |[_],h=>by simp at h
 |a::b::r,h=>by
  have:=EV c r (by simp only[List.length_cons]at h;omega);simp only[dZ,List.length_cons];omega
def yG(c:Int)(labels:List (List Int)):List (List ar×Int):=labels.map fun l=>(ins 1 0 0 0 0::dZ c l,2)
theorem Z4(c:Int)(labels:List (List Int)):dk (yG c labels)=labels.map fun l=>ins 1 0 0 0 0::dZ c l:=by simp[dk,yG]
theorem Iy(c:Int):∀labels:List (List Int),dt (yG c labels)=if labels=[]then 0 else 2
 |[]=>rfl
 |l::r=>by
  have:=Iy c r;have e:dt (yG c (l::r))=max 2 (dt (yG c r)):=rfl;rw[e,this];rw[if_neg (List.cons_ne_nil _ _)];split<;>rfl
def wT(vs:List Vr)(conds:List Ex):List (List ar×Int):=conds.map fun x=>((ak vs x).1,aL 0 x)
theorem Dy(vs:List Vr)(conds:List Ex):dk (wT vs conds)=conds.map fun x=>(ak vs x).1:=by simp[dk,wT]
theorem Iz(vs:List Vr):∀conds:List Ex,dt (wT vs conds)=jP conds
 |[]=>rfl
 |x::r=>by
  have:=Iz vs r;have e:dt (wT vs (x::r))=max (aL 0 x) (dt (wT vs r)):=rfl;rw[e,this];rfl
section
variable {p:Pg} {lp:Bool} (bm:p.vars.length≤1000) (hf:∀v∈p.vars,dr v=true)
include bm hf
theorem VO{to val:Ex}{labels:List (List Int)}{blocks:List (List Sm)}{line:Int}(fv:bk val=true)(ev:(aF p.vars val).e=0)(AW:labels.all pc=true)(jl:labels.length≤blocks.length)(CH:blocks.length≤labels.length+1)(gx:blocks.length<99999980)
 (HB:∀b∈blocks,sm p lp b) (HC:∀b∈blocks,∀c,0≤c→c≤(ag p.vars b c).2) (m:Mk) (hm:0≤m.most) (hc:0≤m.cells) (hI:ik m) (hex:lp=true→m.ex≠[])
 (hl:m.out.length+(ak p.vars val).1.length+1+(cR (labels.map fun l=>ins 1 0 0 0 0::dZ m.cells l) (au p.vars blocks (m.cells+1)).1).length<99999990) (aO:(au p.vars blocks (m.cells+1)).2<99999990) (fE:∀b∈blocks,m.ex.length+il b<99999990):
 fK p (m.aM (jn ((ak p.vars val).1++[ins 6 m.cells 0 0 0]) (cR (labels.map fun l=>ins 1 0 0 0 0::dZ m.cells l) (au p.vars blocks (m.cells+1)).1)) (au p.vars blocks (m.cells+1)).2 (max (aL 0 val) (max (if labels=[]then 0 else 2) (bW blocks)))) 0 (.ret (.aU []))
  (ai ctx 138 [.ptr 0 0 0,.d (b5 (.mk 3 [] to val [] labels [] blocks line))] (fJ p m 0)):=by
 have s8:=wi blocks (m.cells+1) (by omega) HC;obtain⟨a1,a2,a3,g1⟩:=Ta p m 0 1 (aw (by unfold aY;omega));have f1:({m with cells:=m.cells+1}:Mk).out=m.out:=rfl;generalize mU:({m with cells:=m.cells+1}:Mk)=M1 at g1 f1;have m1:0≤M1.most:=by subst mU;exact hm
 obtain⟨b1,b2,b3,g2⟩:=kS bm hf val fv ev M1 0 (by omega) (by omega) m1 (by rw[f1];omega);have l2:(M1.az (ak p.vars val).1 (aL 0 val)).out.length=m.out.length+(ak p.vars val).1.length:=by simp[Mk.az,f1]
 generalize ou:M1.az (ak p.vars val).1 (aL 0 val)=M2 at g2 l2;obtain⟨e1,e2,e3,g3⟩:=pq p M2 (0+1) m.cells (by omega) (by decide);have l3:(M2.put (ins 6 m.cells 0 0 0) (0+1+ -1)).out.length=m.out.length+(ak p.vars val).1.length+1:=by simp[Mk.put,l2]
 generalize qk:M2.put (ins 6 m.cells 0 0 0) (0+1+ -1)=M3 at g3 l3;have iC:Flat ((ak p.vars val).1++[ins 6 m.cells 0 0 0]):=(lA val fv ev).app (.one (by simp[ins]));have f3:M3.cells=m.cells+1∧M3.ex=m.ex∧0≤M3.most∧M3=m.aM ((ak p.vars val).1++[ins 6 m.cells 0 0 0]) (m.cells+1) (aL 0 val):=by
  have t1:=kW 0 val;have e:({m with cells:=m.cells+1}:Mk).az ((ak p.vars val).1++[ins 6 m.cells 0 0 0]) (aL 0 val)=m.aM ((ak p.vars val).1++[ins 6 m.cells 0 0 0]) (m.cells+1) (aL 0 val):=by
   rw[←nI iC];rfl
  rw[←e];subst qk ou mU;refine⟨rfl,rfl,?_,?_⟩
  ·simp[Mk.put,Mk.az];omega
  ·simp only[Mk.put,Mk.az,Mk.mk.injEq];simp;omega
 have q3:ik M3:=by
  have q1:ik ({m with cells:=m.cells+1}:Mk):=hI;subst qk ou mU;exact (q1.az _ _).put _ _
 have VP:=Z4 m.cells labels;have xu:=P5 (p:=p) (lp:=lp) (s:=.mk 3 [] to val [] labels [] blocks line) (q:=m.cells) (blocks:=blocks) (ts:=yG m.cells labels) gx (by simpa [yG]using jl) (by simpa [yG]using CH)
  (by
   rw[VP];intro x hx;obtain⟨l,_,rfl⟩:=List.mem_map.1 hx;exact .cons (by simp[ins]) (YX _ _))
  (by
   intro i t ht M hM hML;simp only[yG,List.getElem?_map,Option.map_eq_some_iff]at ht;obtain⟨l,cm,rfl⟩:=ht;have s7:pc l=true:=List.all_eq_true.1 AW l (List.mem_of_getElem? cm);have bU:l.length%2=0:=by
    simp only[pc,Bool.and_eq_true,decide_eq_true_eq]at s7;exact s7.2.1
   have:=EV m.cells l bU;simp only[List.length_cons]at hML;exact VJ (.mk 3 [] to val [] labels [] blocks line) m.cells i l cm s7 M hM (by omega))
  HB HC M3 f3.2.2.1 (by rw[f3.1];omega) q3 (fun h=>by rw[f3.2.1];exact hex h) (by rw[f3.1,l3,VP];omega) (by rw[f3.1];exact aO) (fun b hb=>by rw[f3.2.1];exact fE b hb)
 rw[f3.1,VP,Iy]at xu;have eP:M3.aM (cR (labels.map fun l=>ins 1 0 0 0 0::dZ m.cells l) (au p.vars blocks (m.cells+1)).1) (au p.vars blocks (m.cells+1)).2 (max (if labels=[]then 0 else 2) (bW blocks))=m.aM (jn ((ak p.vars val).1++[ins 6 m.cells 0 0 0]) (cR (labels.map fun l=>ins 1 0 0 0 0::dZ m.cells l) (au p.vars blocks (m.cells+1)).1)) (au p.vars blocks (m.cells+1)).2 (max (aL 0 val) (max (if labels=[]then 0 else 2) (bW blocks))):=by
  rw[←zp m _ _ (m.cells+1) _ (aL 0 val) _,←f3.2.2.2]
 rw[eP]at xu;generalize m.aM (jn ((ak p.vars val).1++[ins 6 m.cells 0 0 0]) (cR (labels.map fun l=>ins 1 0 0 0 0::dZ m.cells l) (au p.vars blocks (m.cells+1)).1)) (au p.vars blocks (m.cells+1)).2 (max (aL 0 val) (max (if labels=[]then 0 else 2) (bW blocks)))=M at*;obtain⟨v1,v2,v3,xu⟩:=xu;clear mU ou qk eP f3 HB HC;have el:(yG m.cells labels).length=labels.length:=by simp[yG]
 rw[el]at xu;rw[acD (by simp)];simp at g1 g2 g3;simp at xu;simp[Tryz.f138,eI,g1,g2,g3,xu];exact⟨_,_,_,rfl⟩
end
section
variable {p:Pg} {x:Sm} {m M:Mk} (hl:m.out.length<99999990)
include hl
theorem Y2(ho:bA x=1)(h:fK p M 0 (.ret (.aU [])) (ai ctx 134 [.ptr 0 0 0,.d (b5 x)] (fJ p (m.put (ins 11 0 0 0 0) 0) 0))):
 fK p M 0 (.ret (.aU [])) (ai ctx 91 [.ptr 0 0 0,.d (b5 x)] (fJ p m 0)):=by
 obtain⟨a1,a2,a3,ht⟩:=lV p m 0 (by omega) (by decide);obtain⟨b1,b2,b3,h⟩:=h;generalize m.put (ins 11 0 0 0 0) 0=N at*;rw[sZ (by simp)];simp[eI,ho]at h;simp at ht;simp[Tryz.f91,eI,ho,ht,h];exact⟨_,_,_,rfl⟩
theorem aif(ho:bA x=3)(h:fK p M 0 (.ret (.aU [])) (ai ctx 138 [.ptr 0 0 0,.d (b5 x)] (fJ p (m.put (ins 11 0 0 0 0) 0) 0))):
 fK p M 0 (.ret (.aU [])) (ai ctx 91 [.ptr 0 0 0,.d (b5 x)] (fJ p m 0)):=by
 obtain⟨a1,a2,a3,ht⟩:=lV p m 0 (by omega) (by decide);obtain⟨b1,b2,b3,h⟩:=h;generalize m.put (ins 11 0 0 0 0) 0=N at*;rw[sZ (by simp)];simp[eI,ho]at h;simp at ht;simp[Tryz.f91,eI,ho,ht,h];exact⟨_,_,_,rfl⟩
theorem aih(ho:bA x=4)(h:fK p M 0 (.ret (.aU [])) (ai ctx 139 [.ptr 0 0 0,.d (b5 x)] (fJ p (m.put (ins 11 0 0 0 0) 0) 0))):
 fK p M 0 (.ret (.aU [])) (ai ctx 91 [.ptr 0 0 0,.d (b5 x)] (fJ p m 0)):=by
 obtain⟨a1,a2,a3,ht⟩:=lV p m 0 (by omega) (by decide);obtain⟨b1,b2,b3,h⟩:=h;generalize m.put (ins 11 0 0 0 0) 0=N at*;rw[sZ (by simp)];simp[eI,ho]at h;simp at ht;simp[Tryz.f91,eI,ho,ht,h];exact⟨_,_,_,rfl⟩
theorem Tn(ho:bA x=5∨bA x=6)(h:fK p M 0 (.ret (.aU [])) (ai ctx 140 [.ptr 0 0 0,.d (b5 x)] (fJ p (m.put (ins 11 0 0 0 0) 0) 0))):
 fK p M 0 (.ret (.aU [])) (ai ctx 91 [.ptr 0 0 0,.d (b5 x)] (fJ p m 0)):=by
 obtain⟨a1,a2,a3,ht⟩:=lV p m 0 (by omega) (by decide);obtain⟨b1,b2,b3,h⟩:=h;generalize m.put (ins 11 0 0 0 0) 0=N at*;rw[sZ (by simp)];simp at ht;rcases ho with ho|ho
 ·simp[eI,ho]at h;simp[Tryz.f91,eI,ho,ht,h];exact⟨_,_,_,rfl⟩
 ·simp[eI,ho]at h;simp[Tryz.f91,eI,ho,ht,h];exact⟨_,_,_,rfl⟩
theorem aii(ho:bA x=9)(h:fK p M 0 (.ret (.aU [])) (ai ctx 142 [.ptr 0 0 0,.d (b5 x)] (fJ p (m.put (ins 11 0 0 0 0) 0) 0))):
 fK p M 0 (.ret (.aU [])) (ai ctx 91 [.ptr 0 0 0,.d (b5 x)] (fJ p m 0)):=by
 obtain⟨a1,a2,a3,ht⟩:=lV p m 0 (by omega) (by decide);obtain⟨b1,b2,b3,h⟩:=h;generalize m.put (ins 11 0 0 0 0) 0=N at*;rw[sZ (by simp)];simp[eI,ho]at h;simp at ht;simp[Tryz.f91,eI,ho,ht,h];exact⟨_,_,_,rfl⟩
theorem aij(ho:bA x=2)(h:Y1 p M x (ai ctx 135 [.ptr 0 0 0,.d (.list ((bB x).map dc)),.d (.int .i64 (cw x).length),.fn 136 [.ptr 1 0 0,.ptr 2 0 0]] [gH p (m.put (ins 11 0 0 0 0) 0) 0 3 4 5 0 0 0,.box [.ptr 0 0 0],bh x,.vec 5 ((m.put (ins 11 0 0 0 0) 0).out.map da),.vv ((m.put (ins 11 0 0 0 0) 0).ex.map fI) none,.vec 1 ((m.put (ins 11 0 0 0 0) 0).lv.map dw)])):
 fK p M 0 (.ret (.aU [])) (ai ctx 91 [.ptr 0 0 0,.d (b5 x)] (fJ p m 0)):=by
 obtain⟨a1,a2,a3,ht⟩:=lV p m 0 (by omega) (by decide);obtain⟨b1,b2,b3,h⟩:=h;generalize m.put (ins 11 0 0 0 0) 0=N at*;rw[sZ (by simp)];simp[ho]at h;simp at ht;simp[Tryz.f91,eI,ho,ht,h];exact⟨_,_,_,rfl⟩
end
theorem aik(p:Pg)(m:Mk)(h ib:Int)(x:ar)(hl:m.out.length<100000000)(hw:IntKind.i64.wrap (h+ib)=h+ib):ai ctx 53 [.ptr 0 0 0,.d (da x),.d (.int .i64 ib)] (fJ p m h)=some (.ret (.d (.int .i64 m.out.length)),Na p (m.put x (h+ib)) (h+ib) 1 0 0):=by
 have w0:IntKind.i64.wrap (m.out.length:Int)=m.out.length:=aw (by unfold aY;omega);have w3:m.out.length≤4611686018427387903:=by omega
 have w4:(m.out.length+1)*40≤140737488355328:=by omega
 rw[PI (by simp)];simp[Tryz.f53,aq,hw,w0,w3,w4,mxI,Mk.put]
theorem aeT(p:Pg)(m:Mk)(h to:Int)(hl:m.out.length<100000000)(hw:IntKind.i64.wrap h=h):ai ctx 141 [.ptr 0 0 0,.d (.int .i64 to)] (fJ p m h)=some (.ret (.d (.int .i64 m.out.length)),Na p (m.put (ins 9 to 0 0 0) h) h 1 0 0):=by
 have ha:=aik p m h 0 (ins 9 to 0 0 0) hl (by simpa using hw);rw[show h+0=h by omega]at ha;generalize m.put (ins 9 to 0 0 0) h=M at*;rw[Hl (by simp)];simp[ins]at ha;simp[Tryz.f141,ha]
@[simp] def mkO(p:Pg)(m:Mk)(h:Int)(pre:List (List Int))(row:List Int):List aE:=[.box [.d (.str p.name),.d (.list (p.vars.map bF)),.d (.list (p.body.map b5)),.vec 1 0 0 m.out.length,.d (.int .i64 m.cells),.d (.int .i64 h),.d (.int .i64 m.most),.vec 2 0 0 (pre.length+1),.vec 3 0 0 m.lv.length],.vec 5 (m.out.map da),.vv (pre.map fI) (some (.vec 4 0 0 row.length)),.vec 1 (m.lv.map dw),.vec 1 (row.map dw)]
@[simp] def mkP(p:Pg)(m:Mk)(h:Int)(pre:List (List Int))(row:List Int):List (Nat×aE):=[(0,.box [.d (.str p.name),.d (.list (p.vars.map bF)),.d (.list (p.body.map b5)),.vec 1 1 0 m.out.length,.d (.int .i64 m.cells),.d (.int .i64 h),.d (.int .i64 m.most),.vec 2 0 0 (pre.length+1),.vec 3 0 0 m.lv.length]),(1,.vec 5 (m.out.map da)),(0,.vv (pre.map fI) (some (.vec 4 0 0 row.length))),(0,.vec 1 (m.lv.map dw)),(0,.vec 1 (row.map dw))]
theorem ail(p:Pg)(m:Mk)(h ib:Int)(x:ar)(pre:List (List Int))(row:List Int)(hl:m.out.length<100000000)(hw:IntKind.i64.wrap (h+ib)=h+ib):ai ctx 53 [.ptr 0 0 0,.d (da x),.d (.int .i64 ib)] (mkO p m h pre row)=some (.ret (.d (.int .i64 m.out.length)),mkP p (m.put x (h+ib)) (h+ib) pre row):=by
 have w0:IntKind.i64.wrap (m.out.length:Int)=m.out.length:=aw (by unfold aY;omega);have w3:m.out.length≤4611686018427387903:=by omega
 have w4:(m.out.length+1)*40≤140737488355328:=by omega
 rw[PI (by simp)];simp[Tryz.f53,aq,hw,w0,w3,w4,mxI,Mk.put]
theorem aeU(p:Pg)(m:Mk)(h to:Int)(pre:List (List Int))(row:List Int)(hl:m.out.length<100000000)(hw:IntKind.i64.wrap h=h):ai ctx 141 [.ptr 0 0 0,.d (.int .i64 to)] (mkO p m h pre row)=some (.ret (.d (.int .i64 m.out.length)),mkP p (m.put (ins 9 to 0 0 0) h) h pre row):=by
 have ha:=ail p m h 0 (ins 9 to 0 0 0) pre row hl (by simpa using hw);rw[show h+0=h by omega]at ha;generalize m.put (ins 9 to 0 0 0) h=M at*;rw[Hl (by simp)];simp[ins]at ha;simp[Tryz.f141,ha]
def Mk.ext(m:Mk):Mk:={m with out:=m.out++[ins 9 0 0 0 0],most:=max m.most 0,ex:=gI m.ex [(m.out.length:Int)]}
def Mk.ret(m:Mk):Mk:={m with out:=m.out++[ins 9 0 0 0 0],most:=max m.most 0,lv:=m.lv++[(m.out.length:Int)]}
theorem aim{p:Pg}{x:Sm}{m:Mk}(hl:m.out.length<99999989)(nt:m.lv.length<99999989)(ho:bA x=8):fK p (m.put (ins 11 0 0 0 0) 0).ret 0 (.ret (.aU [])) (ai ctx 91 [.ptr 0 0 0,.d (b5 x)] (fJ p m 0)):=by
 obtain⟨a1,a2,a3,ht⟩:=lV p m 0 (by omega) (by decide);have hN:(m.put (ins 11 0 0 0 0) 0).lv.length<99999989:=nt;have hN2:(m.put (ins 11 0 0 0 0) 0).out.length<99999990:=by simp[Mk.put];omega
 generalize m.put (ins 11 0 0 0 0) 0=N at*;have hj:=aeT p N 0 0 (by omega) (by decide);have e:N.ret={(N.put (ins 9 0 0 0 0) 0)with lv:=N.lv++[(N.out.length:Int)]}:=rfl;have hx:(N.put (ins 9 0 0 0 0) 0).lv=N.lv:=rfl;rw[e];generalize N.put (ins 9 0 0 0 0) 0=P at*;have w1:N.lv.length≤4611686018427387903:=by omega
 have w2:(N.lv.length+1)*8≤140737488355328:=by omega
 rw[sZ (by simp)];simp[ins]at ht hj;rw[hx]at hj;simp[Tryz.f91,eI,ho,ht,hj,hx,w1,w2,Dd,Fm,Fl,vN,yg,yT,lJ,mZ,n6,qT,BN,BO,BP,BQ,eV,qR,tJ,C6,sK,At,JN,QW,GB,dU,dstep,kF,pG,aS.app];exact⟨1,(if a2=0 then 0 else 1),1,by simp⟩
theorem ain{p:Pg}{x:Sm}{m:Mk}{pre:List (List Int)}{row:List Int}(hx:m.ex=pre++[row])(hl:m.out.length<99999989)(iT:row.length<99999990)(jH:pre.length<99999990)(ho:bA x=7):fK p (m.put (ins 11 0 0 0 0) 0).ext 0 (.ret (.aU [])) (ai ctx 91 [.ptr 0 0 0,.d (b5 x)] (fJ p m 0)):=by
 obtain⟨a1,a2,a3,ht⟩:=lV p m 0 (by omega) (by decide);have hNx:(m.put (ins 11 0 0 0 0) 0).ex=pre++[row]:=hx;have hN2:(m.put (ins 11 0 0 0 0) 0).out.length<99999990:=by simp[Mk.put];omega
 generalize m.put (ins 11 0 0 0 0) 0=N at*;have hj:=aeU p N 0 0 pre row (by omega) (by decide);have e:N.ext={(N.put (ins 9 0 0 0 0) 0)with ex:=pre++[row++[(N.out.length:Int)]]}:=by
  unfold Mk.ext;rw[hNx,iP];rfl
 have hPx:(N.put (ins 9 0 0 0 0) 0).ex=pre++[row]:=hNx;rw[e];generalize N.put (ins 9 0 0 0 0) 0=P at*;have w1:row.length≤4611686018427387903:=by omega
 have w2:(row.length+1)*8≤140737488355328:=by omega
 have w3:IntKind.i64.wrap ((pre.length:Int)+1-1)=pre.length:=by rw[show (pre.length:Int)+1-1=pre.length by omega];exact aw (by unfold aY;omega)
 have w4:IntKind.i64.wrap (pre.length:Int)=pre.length:=aw (by unfold aY;omega);rw[sZ (by simp)];simp[ins,hNx,hPx,hx]at ht hj;simp[Tryz.f91,eI,ho,hx,ht,hj,w1,w2,w3,w4,Dd,Fm,Fl,vN,yg,yT,lJ,mZ,n6,qT,BN,BO,BP,BQ,eV,qR,tJ,C6,sK,At,JN,QW,GB,dU,dstep,kF,pG,aS.app];exact⟨1,(if a2=0 then 0 else 1),(if a3=0 then 0 else 1),by simp⟩
def To(p:Pg)(lp:Bool)(x:Sm):Prop:=∀(m:Mk),0≤m.most→0≤m.cells→ik m→(lp=true→m.ex≠[])→m.out.length+(qw p.vars x m.cells).length<99999990→(cV p.vars x m.cells).2<99999990→m.ex.length+u0 x<99999990→
 fK p (m.aM (qw p.vars x m.cells) (cV p.vars x m.cells).2 (gk x)) 0 (.ret (.aU [])) (ai ctx 91 [.ptr 0 0 0,.d (b5 x)] (fJ p m 0))
theorem Nh(vs:List Vr):∀(l:List Sm)(c:Int),l.length≤(ag vs l c).1.length
 |[],c=>by simp
 |x::r,c=>by
  have:=Nh vs r (cV vs x c).2;unfold ag;simp only[dX,List.length_cons,List.length_nil];omega
theorem CO{p:Pg}{lp:Bool}(l:List Sm)(lz:l.length<99999999)(k:Kt)(Q:Mk→bP→Prop)
 (hx:∀(Y:Env) M v1 v2 v3 v6 X6,Q M (k (.exit 0) ⟨16,aC,(0,true,.ptr 0 0 0)::Y,Y0 p M 0 v1 v2 v3++[⟨350,v6,X6⟩]⟩)):
 ∀(lr pre:List Sm)(m:Mk)(v1 v2 v3 v6:Nat)(X6:aE),l=pre++lr→(∀x∈lr,To p lp x)→0≤m.most→0≤m.cells→ik m→(lp=true→m.ex≠[])→m.out.length+(ag p.vars lr m.cells).1.length<99999990→(ag p.vars lr m.cells).2<99999990→m.ex.length+il lr<99999990→
 Q (m.aM (ag p.vars lr m.cells).1 (ag p.vars lr m.cells).2 (bf lr)) (aI ctx 51 (.loop (Code.at (aX Tryz.f51) [1,0,0])) ⟨16,aC,[(0,true,.ptr 0 0 0),(6,true,.d (.list (l.map b5))),(7,true,.d (.int .i64 l.length)),(8,true,.d (.int .i64 pre.length))],Y0 p m 0 v1 v2 v3++[⟨350,v6,X6⟩]⟩ k)
 |[],pre,m,v1,v2,v3,v6,X6,h1,hK,hm,hc,hI,hex,ho,aO,fE=>by
  have e:m.aM (ag p.vars [] m.cells).1 (ag p.vars [] m.cells).2 (bf [])=m:=VH m hm;rw[e];have cm:pre.length=l.length:=by rw[h1];simp
  have:=hx [(6,true,.d (.list (l.map b5))),(7,true,.d (.int .i64 l.length)),(8,true,.d (.int .i64 l.length)),(9,true,.d (.bool false))] m v1 v2 v3 v6 X6;simp at this;rw[cm,ah];simp[Tryz.f51,this]
 |x::r,pre,m,v1,v2,v3,v6,X6,h1,hK,hm,hc,hI,hex,ho,aO,fE=>by
  have eg:ag p.vars (x::r) m.cells=(jn (qw p.vars x m.cells) (ag p.vars r (cV p.vars x m.cells).2).1,(ag p.vars r (cV p.vars x m.cells).2).2):=rfl;have ed:il (x::r)=max (u0 x) (il r):=by simp[il]
  have et:bf (x::r)=max (gk x) (bf r):=by simp[bf]
  have c1:=yB (vs:=p.vars) x m.cells;have c2:=gG (vs:=p.vars) r (cV p.vars x m.cells).2;rw[eg]at ho aO⊢;rw[ed]at fE;rw[et];simp only[dX]at ho;simp only at aO;obtain⟨a1,a2,a3,hk⟩:=hK x (by simp) m hm hc hI hex (by omega) (by omega) (by omega);have l1:(m.aM (qw p.vars x m.cells) (cV p.vars x m.cells).2 (gk x)).out.length=m.out.length+(qw p.vars x m.cells).length:=by
   show (m.out++cF _ _).length=_;rw[List.length_append,mh]
  have l2:(m.aM (qw p.vars x m.cells) (cV p.vars x m.cells).2 (gk x)).ex.length=m.ex.length:=by
   show (gI _ _).length=_;rw[Tf]
  have ih:=fun v1 v2 v3 v6 X6=>CO l lz k Q hx r (pre++[x]) (m.aM (qw p.vars x m.cells) (cV p.vars x m.cells).2 (gk x)) v1 v2 v3 v6 X6 (by simp[h1]) (fun y hy=>hK y (by simp[hy])) (by show 0≤max m.most _;omega) (by show 0≤(cV p.vars x m.cells).2;omega) (hI.aM _ _ _)
   (fun h=>by
    have:=hex h;intro h0;rw[h0]at l2;exact this (List.eq_nil_of_length_eq_zero l2.symm))
   (by rw[l1];show _+(ag p.vars r (cV p.vars x m.cells).2).1.length<_;omega) (by show (ag p.vars r (cV p.vars x m.cells).2).2<_;omega) (by rw[l2];omega)
  rw[show (m.aM (qw p.vars x m.cells) (cV p.vars x m.cells).2 (gk x)).cells=(cV p.vars x m.cells).2 from rfl,zp]at ih;clear hx hK;generalize m.aM (qw p.vars x m.cells) (cV p.vars x m.cells).2 (gk x)=M at*;have aV:pre.length<l.length:=by rw[h1];simp
  have aW:l[pre.length]=x:=by simp[h1]
  have w1:IntKind.i64.wrap ((pre.length:Int)+1)=(pre.length:Int)+1:=aw (by unfold aY;omega);rw[ah];simp[eI]at hk;simp[Tryz.f51]at ih⊢;simp[aV,aW,eI,hk,aq,w1,ih]
theorem A3{p:Pg}{lp:Bool}(l:List Sm)(hK:∀x∈l,To p lp x):sm p lp l:=by
 intro m hm hc hI hex ho aO fE;have lz:=Nh p.vars l m.cells;have cP:=fun (k:Kt) (Q:Mk→bP→Prop) hx v6 X6=>CO l (by omega) k Q hx l [] m 0 0 0 v6 X6 rfl hK hm hc hI hex ho aO fE;rw[ahK (by simp)];generalize m.aM (ag p.vars l m.cells).1 (ag p.vars l m.cells).2 (bf l)=N at*;simp[Tryz.f51]at cP⊢;refine cP _ (fun X r=>X=N→fK p N 0 (.ret (.aU [])) r) (fun Y X v1 v2 v3 v6 X6 hX=>?_) _ _ rfl;subst hX;simp[Tryz.f51];exact⟨_,_,_,rfl⟩
end Go.Am
end
section
namespace Go.Am
open Go
inductive Vl where
 |v (n:Int) (t:Bool)
 |f (e:Int)
 deriving DecidableEq
structure Mc where
 cells:List Int
 fuel:Nat
inductive Hw where
 |on
 |lv
 |rt
 |ft (e:Int)
 deriving DecidableEq
section
variable {vs:List Vr}
theorem Z5{x:Ex}{t:Int}(h:(dj vs x t).1=0):(aF vs x).e=0∧(aF vs x).t=t:=by
 unfold dj at h;split at h
 ·exact absurd h (by assumption)
 ·rename_i h0;split at h
  ·simp at h
  ·rename_i h1;exact⟨by simpa using h0,by simpa using h1⟩
theorem Dz{k line:Int}:∀(fs:List Tx)(xs:List Ex)(p:List Tx),xs.length=fs.length→(iz vs k line fs xs p).1=0→∀x∈xs,(aF vs x).e=0
 |[],[],_,_,_,x,hx=>by simp at hx
 |f::fs,x::xs,p,hl,h,y,hy=>by
  simp only[iz]at h;cases hq:kJ k f with
  |none=>rw[hq]at h;simp at h
  |some q=>
   rw[hq]at h;simp only at h;split at h
   ·simp at h
   ·split at h
    ·simp at h
    ·obtain⟨h1,h2⟩:=bX.1 h;rcases List.mem_cons.1 hy with rfl|hy
     ·exact (Z5 h1).1
     ·exact Dz fs xs _ (by simpa using hl) h2 y hy
 |[],_::_,_,h,_,_,_=>by simp at h
 |_::_,[],_,h,_,_,_=>by simp at h
end
end Go.Am
end
section
namespace Go.Am
open Go Go.Proofs
variable [Inhabited bV]
set_option maxRecDepth 20000
theorem Ni{vs:List Vr}{name:Tx}:∀(fs:List Tx)(xs:List Ex),xs.length=fs.length→fs.length≤(dK vs name fs xs).length
 |[],xs,_=>by simp
 |_::_,[],h=>by simp at h
 |f::fs,x::xs,h=>by
  have:=Ni (vs:=vs) (name:=name) fs xs (by simpa using h);simp only[dK,List.length_append,List.length_cons];omega
theorem P8:∀(ts bs:List (List ar)),(∀t∈ts,1≤t.length)→bs.length≤ts.length+1→2*bs.length≤(cR ts bs).length+2
 |_,[],_,_=>by simp
 |[],b::r,_,h=>by
  have hr:r=[]:=List.eq_nil_of_length_eq_zero (by simpa using h);subst hr;simp
 |t::ts,b::r,ht,h=>by
  have ih:=P8 ts r (fun y hy=>ht y (by simp[hy])) (by simpa using h);have h1:=ht t (by simp);unfold cR;simp only[dX,List.length_append,List.length_cons,List.length_nil,kV];omega
theorem u6(vs:List Vr):∀(l:List (List Sm))(c:Int),(au vs l c).1.length=l.length
 |[],c=>by simp[au]
 |b::r,c=>by simp[au,u6 vs r]
theorem Tp{m:Mk}(h:0≤m.most)(l:List ar)(c t:Int):(m.put (ins 11 0 0 0 0) 0).aM l c t=m.aM (jn [ins 11 0 0 0 0] l) c t:=by
 rw[VI,←nI (Flat.one (by simp[ins])),zp];exact lX (by omega)
section
variable {p:Pg} (bm:p.vars.length≤1000) (gp:∀v∈p.vars,dr v=true)
include bm gp
theorem aio{lp:Bool}{x:Sm}(hf:iZ x=true)(h:(jS p.vars lp x).1=0)(hB:∀(lp:Bool) (cs:List Ex),cI (bB x)=true→(fq p.vars lp cs (bB x)).1=0→∀b∈bB x,sm p lp b):To p lp x:=by
 intro m hm hc hI hex ho aO fE;rw[Vw]at ho;have e0:qw p.vars x m.cells=jn [ins 11 0 0 0 0] (cV p.vars x m.cells).1:=rfl;rw[e0,←Tp hm];have mU:(m.put (ins 11 0 0 0 0) 0).out.length=m.out.length+1:=by simp[Mk.put]
 have ou:(m.put (ins 11 0 0 0 0) 0).cells=m.cells:=rfl;have qk:(m.put (ins 11 0 0 0 0) 0).ex=m.ex:=rfl;have qL:0≤(m.put (ins 11 0 0 0 0) 0).most:=by simp[Mk.put];omega
 have u5:ik (m.put (ins 11 0 0 0 0) 0):=hI.put _ _;cases MU hf h with
 |@asg to val line v cE hv hs ft et fv ev ht=>
  have kO:=Du ft et;have wC:=lA val fv ev;cases kO with
  |num h=>simp[bR]at cE
  |qE h=>simp[bR]at cE
  |YT _ _ _ _=>simp[bR]at cE
  |one o _ _ _=>simp[bR]at cE;omega
  |two o _ _ _ _ _ _=>simp[bR]at cE;omega
  |@var name l1 v' sq ha uk=>
   refine Y2 (by omega) rfl ?_;have e:cV p.vars (.mk 1 [] (.mk 3 0 name [] [] l1) val [] [] [] [] line) m.cells=((ak p.vars val).1++[ins 6 (b9 p.vars name).1 0 0 0],m.cells):=by simp[cV,bR,dA]
   have et:gk (.mk 1 [] (.mk 3 0 name [] [] l1) val [] [] [] [] line)=aL 0 val:=by simp[gk,bR]
   rw[e]at ho⊢;rw[et];simp only[List.length_append,List.length_cons,List.length_nil]at ho;show fK p ((m.put (ins 11 0 0 0 0) 0).aM _ (m.put (ins 11 0 0 0 0) 0).cells _) 0 _ _;rw[nI (Flat.app wC (Flat.one (by simp[ins])))];exact Th bm gp sq fv ev _ qL (by omega)
  |@idx name l1 v' y sq ha uk fy ey ty=>
   refine Y2 (by omega) rfl ?_;have hfy:=lA y fy ey;have e:cV p.vars (.mk 1 [] (.mk 4 0 name [] [y] l1) val [] [] [] [] line) m.cells=((ak p.vars y).1++((ak p.vars val).1++[ins 7 (b9 p.vars name).1 0 v'.lo v'.hi]),m.cells):=by simp[cV,bR,dA,cK,oo,iB sq]
   have et:gk (.mk 1 [] (.mk 4 0 name [] [y] l1) val [] [] [] [] line)=max (fC 0 [y]) (aL 1 val):=by simp[gk,bR,cK]
   have et2:fC 0 [y]=max (aL 0 y) 0:=by simp[fC]
   rw[e]at ho⊢;rw[et,et2];simp only[List.length_append,List.length_cons,List.length_nil]at ho;show fK p ((m.put (ins 11 0 0 0 0) 0).aM _ (m.put (ins 11 0 0 0 0) 0).cells _) 0 _ _;rw[nI (Flat.app hfy (Flat.app wC (Flat.one (by simp[ins])))),show max (max (aL 0 y) 0) (aL 1 val)=max (aL 0 y) (aL 1 val) by have:=kW 0 y;omega];exact Ti bm gp sq fy ey fv ev _ qL (by omega)
 |@cnd to val conds blocks line cE cA fc h1 h2 h3 fb hh=>
  have hK:∀c∈conds,bk c=true∧(aF p.vars c).e=0:=fun c s8=>⟨(iO _).1 fc c s8,(jF (tg h2 hh c s8)).1⟩;have xM:=hB lp conds fb hh;have e:cV p.vars (.mk 2 [] to val conds [] [] blocks line) m.cells=(cR (dk (wT p.vars conds)) (au p.vars blocks m.cells).1,(au p.vars blocks m.cells).2):=by simp[cV,Dy]
  have et:gk (.mk 2 [] to val conds [] [] blocks line)=max (dt (wT p.vars conds)) (bW blocks):=by simp[gk,Iz]
  rw[e]at ho aO⊢;rw[et];simp only at ho aO;have bn:(wT p.vars conds).length=conds.length:=by simp[wT]
  have hn:=P8 (dk (wT p.vars conds)) (au p.vars blocks m.cells).1 (fun t ht=>by
   rw[Dy]at ht;obtain⟨c,_,rfl⟩:=List.mem_map.1 ht;have:=jQ p.vars c;omega) (by rw[u6];simpa [dk,bn]using h3)
  rw[u6]at hn;refine aij (by omega) rfl ?_;have:=P4 (p:=p) (lp:=lp) (s:=.mk 2 [] to val conds [] [] blocks line) (blocks:=blocks) (ts:=wT p.vars conds) (by omega) (by omega) (by omega)
   (fun t ht=>by
    rw[Dy]at ht;obtain⟨c,s8,rfl⟩:=List.mem_map.1 ht;exact lA c (hK c s8).1 (hK c s8).2)
   (fun i t hi m hm hl=>by
    simp only[wT,List.getElem?_map,Option.map_eq_some_iff]at hi;obtain⟨c,sE,rfl⟩:=hi;have s8:=List.mem_of_getElem? sE;exact ZU bm gp (.mk 2 [] to val conds [] [] blocks line) i c sE (hK c s8).1 (hK c s8).2 m hm (by simp only at hl;omega))
   xM (fun b _ c _=>gG b c) (m.put (ins 11 0 0 0 0) 0) qL hc u5 hex (by rw[ou,mU];omega) aO (fun b hb=>by
    have:=A0 hb;rw[qk];simp only[u0]at fE;omega)
  rw[bn]at this;exact this
 |@cas to val labels blocks line cE fv wv h2 h3 AW fb hh=>
  have xM:=hB lp [] fb hh;have e:cV p.vars (.mk 3 [] to val [] labels [] blocks line) m.cells=(jn ((ak p.vars val).1++[ins 6 m.cells 0 0 0]) (cR (labels.map fun l=>ins 1 0 0 0 0::dZ m.cells l) (au p.vars blocks (m.cells+1)).1),(au p.vars blocks (m.cells+1)).2):=by simp[cV]
  have et:gk (.mk 3 [] to val [] labels [] blocks line)=max (aL 0 val) (max (if labels=[]then 0 else 2) (bW blocks)):=by simp[gk]
  rw[e]at ho aO⊢;rw[et];simp only[dX,List.length_append,List.length_cons,List.length_nil]at ho aO;have hn:=P8 (labels.map fun l=>ins 1 0 0 0 0::dZ m.cells l) (au p.vars blocks (m.cells+1)).1 (fun t ht=>by
   obtain⟨l,_,rfl⟩:=List.mem_map.1 ht;simp) (by rw[u6];simpa using h3)
  rw[u6]at hn;exact aif (by omega) rfl (VO bm gp fv (jF wv).1 AW h2 h3 (by omega) xM (fun b _ c _=>gG b c) (m.put (ins 11 0 0 0 0) 0) qL hc u5 hex (by rw[ou,mU];omega) aO (fun b hb=>by
   have:=A0 hb;rw[qk];simp only[u0]at fE;omega))
 |@cnt name to val x y z b line v hn cE cA hv hs ha ht fx wx fy wy fz wz fb hh=>
  have xM:=hB true [] (by simpa [bB,cI]using fb) (by simp[bB,fq,eU,hh]) b (by simp[bB]);have e:cV p.vars (.mk 4 name to val [x,y,z] [] [] [b] line) m.cells=(jn (((ak p.vars x).1++((ak p.vars y).1++(ak p.vars z).1))++[ins 6 (m.cells+1) 0 0 0,ins 6 m.cells 0 0 0,ins 6 (b9 p.vars name).1 0 0 0]) (kL (b9 p.vars name).1 m.cells (ag p.vars b (m.cells+2)).1),(ag p.vars b (m.cells+2)).2):=by simp[cV,hZ,lj]
  have et:gk (.mk 4 name to val [x,y,z] [] [] [b] line)=max (max (fC 0 [x,y,z]) 3) (max (bf b) 0):=by simp[gk,bW]
  have ed:u0 (.mk 4 name to val [x,y,z] [] [] [b] line)=max (il b) 0+1:=by simp[u0,ub]
  rw[e]at ho aO⊢;rw[et,lX (u:=max (max (fC 0 [x,y,z]) 3) (bf b)) (by omega)];rw[ed]at fE;simp only[dX,List.length_append,List.length_cons,List.length_nil]at ho aO;exact aih (by omega) rfl (P7 bm gp hv fx (jF wx).1 fy (jF wy).1 fz (jF wz).1 xM (fun c _=>gG b c) (m.put (ins 11 0 0 0 0) 0) qL hc u5 (by simp only[List.length_append];rw[ou,mU];omega) aO (by rw[qk];omega))
 |@whl to val b line cE fv wv fb hh=>
  have xM:=hB true [] (by simpa [bB,cI]using fb) (by simp[bB,fq,eU,hh]) b (by simp[bB]);have e:cV p.vars (.mk 5 [] to val [] [] [] [b] line) m.cells=(ij (ak p.vars val).1 (ag p.vars b m.cells).1,(ag p.vars b m.cells).2):=by simp[cV,lj]
  have et:gk (.mk 5 [] to val [] [] [] [b] line)=max (aL 0 val) (max (bf b) 0):=by simp[gk,bW]
  have ed:u0 (.mk 5 [] to val [] [] [] [b] line)=max (il b) 0+1:=by simp[u0,ub]
  rw[e]at ho aO⊢;rw[et,lX (u:=max (aL 0 val) (bf b)) (by omega)];rw[ed]at fE;simp only at ho aO;exact Tn (by omega) (.inl rfl) (VM bm gp fv (jF wv).1 xM (m.put (ins 11 0 0 0 0) 0) qL hc u5 (by rw[ou,mU];omega) aO (by rw[qk];omega))
 |@rep to val b line cE fv wv fb hh=>
  have xM:=hB true [] (by simpa [bB,cI]using fb) (by simp[bB,fq,eU,hh]) b (by simp[bB]);have e:cV p.vars (.mk 6 [] to val [] [] [] [b] line) m.cells=(lS (ak p.vars val).1 (ag p.vars b m.cells).1,(ag p.vars b m.cells).2):=by simp[cV,lj]
  have et:gk (.mk 6 [] to val [] [] [] [b] line)=max (aL 0 val) (max (bf b) 0):=by simp[gk,bW]
  have ed:u0 (.mk 6 [] to val [] [] [] [b] line)=max (il b) 0+1:=by simp[u0,ub]
  rw[e]at ho aO⊢;rw[et,lX (u:=max (aL 0 val) (bf b)) (by omega)];rw[ed]at fE;simp only at ho aO;exact Tn (by omega) (.inr rfl) (Tm bm gp fv (jF wv).1 xM (m.put (ins 11 0 0 0 0) 0) qL hc u5 (by rw[ou,mU];omega) aO (by rw[qk];omega))
 |@ext to val line cE cA nB=>
  have e:cV p.vars (.mk 7 [] to val [] [] [] [] line) m.cells=([ins 9 (-1) 0 0 0],m.cells):=by simp[cV]
  have et:gk (.mk 7 [] to val [] [] [] [] line)=0:=by simp[gk]
  rw[e]at ho⊢;rw[et];simp only[List.length_cons,List.length_nil]at ho;rcases List.eq_nil_or_concat m.ex with hx|⟨pre,row,hx⟩
  ·exact absurd hx (hex nB)
  ·rw[List.concat_eq_append]at hx;have hr:=hI.2 row (by rw[hx];simp);have dz:m.ex.length=pre.length+1:=by rw[hx];simp
   have:=ain (p:=p) (x:=.mk 7 [] to val [] [] [] [] line) hx (by omega) (by omega) (by omega) rfl;have e2:(m.put (ins 11 0 0 0 0) 0).ext=(m.put (ins 11 0 0 0 0) 0).aM [ins 9 (-1) 0 0 0] m.cells 0:=by
    simp[Mk.ext,Mk.aM,cF,jT,cB,ins,Mk.put]
   rw[e2]at this;exact this
 |@ret to val line cE cA=>
  have e:cV p.vars (.mk 8 [] to val [] [] [] [] line) m.cells=([ins 9 (-2) 0 0 0],m.cells):=by simp[cV]
  have et:gk (.mk 8 [] to val [] [] [] [] line)=0:=by simp[gk]
  rw[e]at ho⊢;rw[et];simp only[List.length_cons,List.length_nil]at ho;have:=aim (p:=p) (x:=.mk 8 [] to val [] [] [] [] line) (m:=m) (by omega) (by have:=hI.1;omega) rfl;have e2:(m.put (ins 11 0 0 0 0) 0).ret=(m.put (ins 11 0 0 0 0) 0).aM [ins 9 (-2) 0 0 0] m.cells 0:=by
   simp[Mk.ret,Mk.aM,cF,jT,cB,ins,Mk.put,lW]
  rw[e2]at this;exact this
 |@cal name to val conds fields line v hn cE cA hv ht fc hl hff hh=>
  have mm:=Dz fields conds [] hl hh;have hK:∀c∈conds,bk c=true∧(aF p.vars c).e=0:=fun c s8=>⟨(iO _).1 fc c s8,mm c s8⟩;have Bw:=Ni (vs:=p.vars) (name:=name) fields conds hl;have e:cV p.vars (.mk 9 name to val conds [] fields [] line) m.cells=(dK p.vars name fields conds++[ins 12 (b9 p.vars name).1 v.ty 0 0],m.cells):=by simp[cV,iB hv]
  have et:gk (.mk 9 name to val conds [] fields [] line)=jP conds:=by simp[gk]
  rw[e]at ho⊢;rw[et];simp only[List.length_append,List.length_cons,List.length_nil]at ho;refine aii (by omega) rfl ?_;show fK p ((m.put (ins 11 0 0 0 0) 0).aM _ (m.put (ins 11 0 0 0 0) 0).cells _) 0 _ _;rw[nI (Flat.app (Ik fields conds fc mm) (Flat.one (by simp[ins])))];exact ZT bm gp hv hl (by omega) hK _ qL (by omega)
mutual
theorem aeW:∀(x:Sm)(lp:Bool),iZ x=true→(jS p.vars lp x).1=0→To p lp x
 | .mk op name to val conds labels fields blocks line,lp,hf,h=>aio bm gp hf h (fun lp cs h1 h2=>A4 blocks lp cs h1 h2)
theorem wj:∀(l:List Sm)(lp:Bool),ej l=true→(eu p.vars lp l).1=0→∀x∈l,To p lp x
 |[],_,_,_,x,hx=>absurd hx (List.not_mem_nil)
 |y::r,lp,hf,h,x,hx=>by
  simp only[ej,Bool.and_eq_true]at hf;simp only[eu]at h;obtain⟨h1,h2⟩:=bX.1 h;rcases List.mem_cons.1 hx with h0|hx
  ·rw[h0];exact aeW y lp hf.1 h1
  ·exact wj r lp hf.2 h2 x hx
theorem A4:∀(l:List (List Sm))(lp:Bool)(cs:List Ex),cI l=true→(fq p.vars lp cs l).1=0→∀b∈l,sm p lp b
 |[],_,_,_,_,b,hb=>absurd hb (List.not_mem_nil)
 |y::r,lp,[],hf,h,b,hb=>by
  simp only[cI,Bool.and_eq_true]at hf;simp only[fq]at h;obtain⟨h1,h2⟩:=bX.1 h;rcases List.mem_cons.1 hb with h0|hb
  ·rw[h0];exact A3 y (wj y lp hf.1 h1)
  ·exact A4 r lp [] hf.2 h2 b hb
 |y::r,lp,c::cs,hf,h,b,hb=>by
  simp only[cI,Bool.and_eq_true]at hf;simp only[fq]at h;obtain⟨h1,h2⟩:=bX.1 h;obtain⟨h2,h3⟩:=bX.1 h2;rcases List.mem_cons.1 hb with h0|hb
  ·rw[h0];exact A3 y (wj y lp hf.1 h2)
  ·exact A4 r lp cs hf.2 h3 b hb
end
theorem Z6{l:List Sm}{lp:Bool}(hf:ej l=true)(h:(eu p.vars lp l).1=0):sm p lp l:=A3 l (wj bm gp l lp hf h)
end
def A5:List Vr→Int→List Int
 |[],_=>[]
 |v::r,n=>n::A5 r (n+bK v)
def A6:List Vr→List Int
 |[]=>[]
 |v::r=>(if v.arr=false∧v.ty≤2 then [v.init]else List.replicate (bK v).toNat 0)++A6 r
@[simp] def aeX(v1 v2 v3:Nat)(X3:aE)(S:List Int)(n:Int)(F:List Int):List cH:=[⟨250,1,.box [.vec 251 v1 0 S.length,.d (.int .i64 n),.vec 252 v2 0 F.length]⟩,⟨251,v1,.vec 1 (S.map dw)⟩,⟨252,v2,.vec 1 (F.map dw)⟩,⟨350,v3,X3⟩]
theorem IA(l:List Vr)(bm:l.length≤1000)(hf:∀v∈l,dr v=true)(B C:cH)(hB:B.key=150)(hC:C.key=200)(k:Kt)(Q:List Int→Int→List Int→bP→Prop)
 (hx:∀(Y:Env) S n F v1 v2 v3 X3,Q S n F (k (.exit 0) ⟨51,aC,(2,true,.ptr 200 1 0)::(3,true,.ptr 250 1 0)::Y,B::C::aeX v1 v2 v3 X3 S n F⟩)):∀(rest pre:List Vr)(S:List Int)(n:Int)(F:List Int)(v1 v2 v3:Nat)(X3:aE),l=pre++rest→0≤n→n≤1000*pre.length→S.length=pre.length→(F.length:Int)=n→
 Q (S++A5 rest n) (n+cd rest) (F++A6 rest) (aI ctx 50 (.loop (Code.at (aX Tryz.f50) [1,1,0,1,0,0])) ⟨51,aC,[(2,true,.ptr 200 1 0),(3,true,.ptr 250 1 0),(8,true,.d (.list (l.map bF))),(9,true,.d (.int .i64 l.length)),(10,true,.d (.int .i64 pre.length))],B::C::aeX v1 v2 v3 X3 S n F⟩ k)
 |[],pre,S,n,F,v1,v2,v3,X3,hd,h0,hn,hS,hF=>by
  have cm:pre.length=l.length:=by rw[hd];simp
  have:=hx [(8,true,.d (.list (l.map bF))),(9,true,.d (.int .i64 l.length)),(10,true,.d (.int .i64 l.length)),(11,true,.d (.bool false))] S n F v1 v2 v3 X3;simp[A5,cd,A6]at this⊢;rw[cm,ah];simp[Tryz.f50,this]
 |w::rest,pre,S,n,F,v1,v2,v3,X3,hd,h0,hn,hS,hF=>by
  have aV:pre.length<l.length:=by rw[hd];simp
  have aW:l[pre.length]=w:=by simp[hd]
  have hc:=Hm (hf w (by rw[hd];simp));have kO:=pK (hf w (by rw[hd];simp));have ih:=fun F' h v1 v2 v3 X3=>IA l bm hf B C hB hC k Q hx rest (pre++[w]) (S++[n]) (n+bK w) F' v1 v2 v3 X3 (by simp[hd]) (by omega) (by simp;omega) (by simp[hS]) h;have w1:IntKind.i64.wrap ((pre.length:Int)+1)=(pre.length:Int)+1:=aw (by unfold aY;omega);have w2:IntKind.i64.wrap (n+bK w)=n+bK w:=aw (by unfold aY;omega);have w3:S.length≤4611686018427387903:=by omega
  have w4:(S.length+1)*8≤140737488355328:=by omega
  rw[ah];simp only[A5,cd,A6];rw[←Int.add_assoc];by_cases hs:w.arr=false∧w.ty≤2
  ·have h1:bK w=1:=by unfold bK;rw[if_neg (by simp[hs.1]),if_neg (by omega)]
   rw[h1]at hc ih w2 kO⊢;have ih:=ih (F++[w.init]) (by simp;omega);have w5:F.length≤4611686018427387903:=by omega
   have w6:(F.length+1)*8≤140737488355328:=by omega
   have w7:IntKind.i64.wrap n=F.length:=by rw[←hF];exact aw (by unfold aY;omega)
   have w8:(F.map dw++[D.int .i64 0]).set F.length (D.int .i64 w.init)=F.map dw++[D.int .i64 w.init]:=by
    rw[List.set_append_right _ _ (by simp)];simp
   simp[Tryz.f50,bF,ep,hs,dw]at ih hc⊢;simp[aV,aW,hB,hC,bF,ep,hs,hc,w1,w2,w3,w4,w5,w6,w7,w8,ih,dw]
  ·have ih:=ih (F++List.replicate (bK w).toNat 0) (by simp;omega);have w7:0≤bK w∧bK w≤4611686018427387904:=by omega
   have w5:F.length+(bK w).toNat≤4611686018427387904:=by omega
   have w6:(F.length+(bK w).toNat)*8≤140737488355328:=by omega
   simp[Tryz.f50,bF,ep,hs,dw]at ih hc⊢;simp[aV,aW,hB,hC,bF,ep,hs,hc,w1,w2,w3,w4,w5,w6,w7,ih,dw]
theorem Z7(p:Pg)(bm:p.vars.length≤1000)(hf:∀v∈p.vars,dr v=true):ai ctx 50 [.d (mS p)] []=some (.ret (.d (.agg [.list ((A5 p.vars 0).map dw),.int .i64 (cd p.vars),.list ((A6 p.vars).map dw)])),[]):=by
 have cP:=fun B C hB hC k Q hx v1 v2 v3 X3=>IA p.vars bm hf B C hB hC k Q hx p.vars [] [] 0 [] v1 v2 v3 X3 rfl (by omega) (by simp) rfl rfl;rw[ahJ (by simp)];simp[Tryz.f50]at cP⊢;refine cP _ _ ?_ ?_ _ (fun S n F r=>S=A5 p.vars 0→n=cd p.vars→F=A6 p.vars→r=some (.ret (.d (.agg [.list ((A5 p.vars 0).map dw),.int .i64 (cd p.vars),.list ((A6 p.vars).map dw)])),[])) (fun Y S n F v1 v2 v3 X3 h1 h2 h3=>?_) _ _ _ _ rfl rfl rfl
 ·rfl
 ·rfl
 ·subst h1 h2 h3;simp
end Go.Am
end
section
namespace Go.Am
open Go Go.Proofs
variable [Inhabited bV]
set_option maxRecDepth 20000
set_option maxHeartbeats 1000000
theorem VQ(p:Pg)(bm:p.vars.length≤1000)(gp:∀v∈p.vars,dr v=true)
 (hF:ai ctx 37 [.d (mS p)] []=some (.ret (.d (mS (uR p))),[]))
 (M:Mk) (hM:fK p M 0 (.ret (.aU [])) (ai ctx 51 [.ptr 0 0 0,.d (.list ((dh p.body).map b5))] (fJ p ⟨[],cd p.vars,0,[],[]⟩ 0))) (hl:M.out.length<99999990) (nt:M.lv.length<100000000) (hp:Pl M.out.length M.lv):
 ai ctx 20 [.d (mS p)] []=(if 4096<(((M.cx M.lv).put (ins 15 0 0 0 0) 0).out.length:Int)∨64<((M.cx M.lv).put (ins 15 0 0 0 0) 0).most then some (.ret (.aU [.d (.agg [.list [],.int .i64 0,.int .i64 0]),.d (.int .i64 13)]),[])else some (.ret (.aU [.d (.agg [.list (((M.cx M.lv).put (ins 15 0 0 0 0) 0).out.map da),.int .i64 (cd p.vars),.int .i64 M.cells]),.d (.int .i64 0)]),[])):=by
 have hL:=Z7 p bm gp;obtain⟨a1,a2,a3,hM⟩:=hM;have h2:=VG p M 0 nt (by omega) hp;have hlA:(M.cx M.lv).out.length=M.out.length:=by
  have:∀(ps:List Int)(m:Mk),(m.cx ps).out.length=m.out.length:=by
   intro ps;induction ps with
   |nil=>intro m;rfl
   |cons i r ih=>intro m;rw[sl,ih,AZ]
  exact this _ _
 obtain⟨b1,b2,b3,h3⟩:=jg p (M.cx M.lv) 0 0 (ins 15 0 0 0 0) (by rw[hlA];omega) (by decide);rw[ahy (by simp)];simp[uR]at hF;simp at hM h2;simp[ins]at h3;have e1:(M.cx M.lv).ex=M.ex:=rfl;have e2:(M.cx M.lv).lv=M.lv:=rfl;have e3:(M.cx M.lv).most=M.most:=rfl;have e4:(M.cx M.lv).cells=M.cells:=rfl;simp[e1,e2,e3,e4]at h2 h3;have e5:((M.cx M.lv).put (ins 15 0 0 0 0) 0).cells=M.cells:=rfl;rw[←e5];simp only[ins]at h3⊢;clear e1 e2 e3 e4 e5 hlA hp;generalize M.cx M.lv=N at*;simp[Tryz.f20,hL,hF,hM,h2,h3,aq];split<;>rename_i h<;>first|simp[h]|simp_all
end Go.Am
end
section
namespace Go.Am
open Go
theorem ao5{x:ar}(h:x.op=9∨x.op=10→0≤x.a):jT 0 x=x:=by
 unfold jT;split
 ·rename_i ho;have:=h ho;rw[if_pos this];obtain⟨op,a,b,n,m⟩:=x;simp
 ·rfl
theorem ao6{l:List ar}(h:∀x∈l,x.op=9∨x.op=10→0≤x.a):cF 0 l=l:=by
 unfold cF;exact (List.map_congr_left (g:=id) (fun x hx=>ao5 (h x hx))).trans (List.map_id l)
theorem Z8{l:List ar}(hj:Jf false l):jd (cF 0 l) (cB (-2) 0 l) l.length=l.map (SP l.length):=by
 have h:=qi (k:= -2) (to:=(l.length:Int)) (by decide) (by omega) 0 l [] [] 0 rfl;simp only[List.nil_append,List.append_nil]at h;rw[show ((l.length:Int)+((0:Nat):Int))=(l.length:Int) by omega]at h;rw[h];have e:(fun x=>kI (-2) (l.length:Int) x)=SP (l.length:Int):=rfl;rw[show l.map (kI (-2) (l.length:Int))=l.map (SP (l.length:Int))from rfl];refine ao6 (fun x hx ho=>?_);obtain⟨y,hy,rfl⟩:=List.mem_map.1 hx;have EM:=hj y hy;unfold SP at ho⊢;split
 ·show 0≤(l.length:Int);omega
 ·rename_i hn;rw[if_neg hn]at ho;rcases ho with ho|ho
  ·rcases EM.2 ho with h|h|h
   ·exact h
   ·exact absurd ⟨ho,h⟩ hn
   ·exact absurd h.1 (by decide)
  ·exact EM.1 ho
theorem zt:∀(ts bs:List (List ar)),(bs.map List.length).sum≤(cR ts bs).length
 |[],[]=>by simp[cR]
 |_::_,[]=>by simp[cR]
 |[],b::r=>by
  have ih:=zt [] r;rw[Dw];simp only[List.map_cons,List.sum_cons];split
  ·rename_i h;subst h;simp
  ·simp only[dX,List.length_append,List.length_cons,List.length_nil];omega
 |t::ts,b::r=>by
  have ih:=zt ts r;rw[cR];simp only[List.map_cons,List.sum_cons];generalize cR ts r=out at ih⊢;rw[dX];simp only[List.length_append,List.length_cons,List.length_nil,kV];split
  ·omega
  ·simp only[List.length_append,List.length_cons,List.length_nil];omega
section
variable {vs:List Vr}
mutual
theorem P9:∀(s:Sm)(c:Int),(cV vs s c).2≤c+(cV vs s c).1.length
 | .mk op name to val conds labels fields blocks line,c=>by
  have h1:=fun c=>Ab blocks c;have h2:=fun c=>Qa blocks c;unfold cV;split
  ·simp only;omega
  ·split
   ·have q1:=h1 c;have q2:=zt (conds.map fun x=>(ak vs x).1) (au vs blocks c).1;simp only
    omega
   ·split
    ·have q1:=h1 (c+1);have q2:=zt (labels.map fun l=>ins 1 0 0 0 0::dZ c l) (au vs blocks (c+1)).1;simp only[dX,List.length_append,List.length_cons,List.length_nil];omega
    ·split
     ·have q1:=h2 (c+2);simp only[dX,List.length_append,List.length_cons,List.length_nil,kL,ng,kV];omega
     ·split
      ·have q1:=h2 c;simp only[ij,ng,List.length_append,List.length_cons,List.length_nil,kV];omega
      ·split
       ·have q1:=h2 c;simp only[lS,ng,List.length_append,List.length_cons,List.length_nil];omega
       ·split
        ·simp only;omega
        ·split<;>(simp only;omega)
theorem mV:∀(l:List Sm)(c:Int),(ag vs l c).2≤c+(ag vs l c).1.length
 |[],c=>by simp[ag]
 |x::r,c=>by
  have h1:=P9 x c;have h2:=mV r (cV vs x c).2;simp only[ag,dX,List.length_cons,List.length_nil];omega
theorem Ab:∀(l:List (List Sm))(c:Int),(au vs l c).2≤c+(((au vs l c).1.map List.length).sum:Nat)
 |[],c=>by simp[au]
 |b::r,c=>by
  have h1:=mV b c;have h2:=Ab r (ag vs b c).2;simp only[au,List.map_cons,List.sum_cons];omega
theorem Qa:∀(l:List (List Sm))(c:Int),(lj vs l c).2≤c+(lj vs l c).1.length
 |[],c=>by simp[lj]
 |b::r,c=>mV b c
end
end
theorem yH:∀(l p:List Vr)(n:Int),n≤1024→(Eu l p n).1=0→n+cd l≤1024
 |[],_,n,hn,_=>by simp[cd];exact hn
 |v::r,p,n,hn,h=>by
  unfold Eu at h;split at h
  ·simp at h
  ·split at h
   ·simp at h
   ·have:=yH r _ _ (by omega) h;simp only[cd];omega
theorem wm:∀(l:List Vr),(∀v∈l,0≤bK v)→0≤cd l
 |[],_=>by simp[cd]
 |y::l,h=>by
  have:=wm l (fun v hv=>h v (by simp[hv]));have:=h y (by simp);simp only[cd];omega
theorem Tq{p:Pg}(hf:pe p=true)(hl:iM p.body=true)(hc:(r9 p).1=0)(VR:bf (dh p.body)≤64):
 Fg (ag p.vars (dh p.body) (cd p.vars)).2 false (ag p.vars (dh p.body) (cd p.vars)).1∧0≤cd p.vars∧cd p.vars≤1024∧cd p.vars≤(ag p.vars (dh p.body) (cd p.vars)).2∧
 (ag p.vars (dh p.body) (cd p.vars)).2≤cd p.vars+(ag p.vars (dh p.body) (cd p.vars)).1.length:=by
 simp only[pe,Bool.and_eq_true,List.all_eq_true]at hf;obtain⟨_,_,ee,hb⟩:=hf;obtain⟨h1,h2⟩:=bX.1 hc;obtain⟨a1,a2,a3⟩:=pk false p.body hb hl h2;have V9:=yH p.vars [] 0 (by omega) h1;have DP:=wm p.vars (fun v hv=>nF (ee v hv));have hm:=gG (vs:=p.vars) (dh p.body) (cd p.vars);have aO:=mV (vs:=p.vars) (dh p.body) (cd p.vars);exact⟨sj ee hm false (dh p.body) (cd p.vars) a1 a3 VR DP (Int.le_refl _),DP,by omega,hm,aO⟩
section
variable {vs:List Vr}
mutual
theorem u7:∀x:Ex,(ak vs x).1.length≤dH (bJ x)
 | .mk op n name field sub line=>by
  have h1:=DA sub;have h2:=Ts sub;unfold ak;simp only[bJ,dH,bG];split
  ·simp only[List.length_cons,List.length_nil];omega
  ·split
   ·simp only[List.length_cons,List.length_nil];omega
   ·split
    ·simp only[List.length_cons,List.length_nil];omega
    ·split
     ·simp only[List.length_append,List.length_cons,List.length_nil];omega
     ·simp only[List.length_append,List.length_cons,List.length_nil];omega
theorem DA:∀l:List Ex,(hZ vs l).1.length≤bG (fX l)
 |[]=>by simp[hZ]
 |[x]=>by
  have:=u7 x;simp only[hZ,fX,bG];omega
 |x::y::r=>by
  have h1:=u7 x;have h2:=DA (y::r);simp only[fX,bG]at h2;simp only[hZ,fX,bG,List.length_append]at h2⊢;omega
theorem Ts:∀l:List Ex,(oo vs l).length≤bG (fX l)
 |[]=>by simp[oo]
 |x::r=>by
  have:=u7 x;simp only[oo,fX,bG];omega
end
theorem aeY(x:Ex):(ak vs x).1.length≤bG (uE x)+1:=by
 have:=u7 (vs:=vs) x;rw[uO]at this;exact this
theorem Z9(x:Ex):(oo vs (cK x)).length≤bG (uE x):=by
 obtain⟨op,n,name,field,sub,line⟩:=x;have:=Ts (vs:=vs) sub;simp only[uE,mR,bG,dH];omega
end
theorem FB(x:Ex):7≤dH (bJ x):=by
 obtain⟨op,n,name,field,sub,line⟩:=x;simp only[bJ,dH,bG];omega
theorem Y3(x:Ex):6≤bG (uE x):=by
 have:=FB x;rw[uO]at this;omega
theorem aeZ(n:Int)(t:Bool)(line:Int):dH (bJ (jD n t line))≤14:=by
 unfold jD;split
 ·simp[bJ,fX,dH,bG]
 ·split
  ·simp[bJ,fX,dH,bG]
  ·simp[bJ,fX,dH,bG]
theorem aip(x:Ex):dH (bJ (fj x))≤dH (bJ x):=by
 unfold fj;split
 ·omega
 ·split
  ·omega
  ·rename_i l hl;split
   ·omega
   ·rename_i r hr;split
    ·omega
    ·have hm:=fun ln=>aeZ r.1 r.2.1 ln;obtain⟨op,n,name,field,sub,line⟩:=x;simp only[mR]at hl;cases sub with
     |nil=>
      simp only[m6,Option.some.injEq]at hl;subst hl;simp[HW]at hr
     |cons y q=>
      have:=FB y;refine Nat.le_trans (hm _) ?_;simp only[bJ,fX,dH,bG];omega
mutual
theorem Y4:∀x:Ex,dH (bJ (cC x))≤dH (bJ x)
 | .mk op n name field sub line=>by
  have h:=IB sub;have h1:=aip (.mk op n name field (cu sub) line);unfold cC;refine Nat.le_trans h1 ?_;simp only[bJ,dH,bG];omega
theorem IB:∀l:List Ex,bG (fX (cu l))≤bG (fX l)
 |[]=>by simp[cu]
 |x::r=>by
  have h1:=Y4 x;have h2:=IB r;simp only[cu,fX,bG];omega
end
theorem Y5(x:Ex):bG (uE (cC x))≤bG (uE x):=by
 have:=Y4 x;rw[uO,uO]at this;omega
mutual
theorem aiq:∀x:Sm,dH (b5 (nD x))≤dH (b5 x)
 | .mk op name to val conds labels fields blocks line=>by
  have h1:=Y5 to;have h2:=Y5 val;have h3:=IB conds;have h4:=Tt blocks;simp only[nD,b5,dH,bG,pf];omega
theorem CP:∀l:List Sm,bG (lf (dh l))≤bG (lf l)
 |[]=>by simp[dh]
 |x::r=>by
  have h1:=aiq x;have h2:=CP r;simp only[dh,lf,bG];omega
theorem Tt:∀l:List (List Sm),bG (ld (gj l))≤bG (ld l)
 |[]=>by simp[gj]
 |b::r=>by
  have h1:=CP b;have h2:=Tt r;simp only[gj,ld,bG,dH];omega
end
def ow(l:List (List ar)):Nat:=(l.map fun t=>t.length+1).sum
theorem FC:∀(ts bs:List (List ar)),(cR ts bs).length≤ow ts+ow bs
 |[],[]=>by simp[cR]
 |_::_,[]=>by simp[cR]
 |[],b::r=>by
  have ih:=FC [] r;rw[Dw];simp only[ow,List.map_cons,List.sum_cons,List.map_nil,List.sum_nil]at ih⊢;split
  ·omega
  ·simp only[dX,List.length_append,List.length_cons,List.length_nil];omega
 |t::ts,b::r=>by
  have ih:=FC ts r;rw[cR];simp only[ow,List.map_cons,List.sum_cons]at ih⊢;generalize cR ts r=out at ih⊢;rw[dX];simp only[List.length_append,List.length_cons,List.length_nil,kV];split
  ·omega
  ·simp only[List.length_append,List.length_cons,List.length_nil];omega
theorem Tu(c:Int):∀l:List Int,(dZ c l).length≤l.length
 |[]=>by simp[dZ]
 |[_]=>by simp[dZ]
 |a::b::r=>by
  have:=Tu c r;simp only[dZ,List.length_cons];omega
theorem Tv(c:Int):∀l:List (List Int),ow (l.map fun l=>ins 1 0 0 0 0::dZ c l)≤2*bG (l.map mq)
 |[]=>by simp[ow]
 |x::r=>by
  have h1:=Tv c r;have h2:=Tu c x;have h3:=YN x;have h4:1+x.length≤dH (mq x):=by
   have:=vY (fun n=>D.int .i64 n) x;simp only[mq,dH];omega
  simp only[ow,List.map_cons,List.sum_cons,bG,List.length_cons]at h1⊢;omega
section
variable {vs:List Vr}
theorem Nj:∀l:List Ex,ow (l.map fun x=>(ak vs x).1)≤2*bG (fX l)
 |[]=>by simp[ow]
 |x::r=>by
  have h1:=Nj r;have h2:=u7 (vs:=vs) x;have h3:=FB x;simp only[ow,List.map_cons,List.sum_cons,fX,bG]at h1⊢;omega
theorem Nk(name:Tx):∀(fs:List Tx)(xs:List Ex),(dK vs name fs xs).length≤2*bG (fX xs)
 |[],xs=>by cases xs<;>simp[dK]
 |_::_,[]=>by simp[dK]
 |f::fs,x::xs=>by
  have h1:=Nk name fs xs;have h2:=u7 (vs:=vs) x;have h3:=FB x;simp only[dK,List.length_append,List.length_cons,fX,bG];omega
mutual
theorem ae0:∀(s:Sm)(c:Int),(cV vs s c).1.length+1≤2*dH (b5 s)
 | .mk op name to val conds labels fields blocks line,c=>by
  have h1:=fun c=>Nl blocks c;have h2:=fun c=>ae1 blocks c;have a1:=Y3 to;have a2:=Y3 val;have a3:=aeY (vs:=vs) val;have a4:=Z9 (vs:=vs) to;have a5:=Nj (vs:=vs) conds;have a6:=DA (vs:=vs) conds;have a7:=Nk (vs:=vs) name fields conds;simp only[b5,dH,bG,pf];unfold cV;split
  ·split
   ·simp only[List.length_append,List.length_cons,List.length_nil];omega
   ·simp only[List.length_append,List.length_cons,List.length_nil];omega
  ·split
   ·have q1:=h1 c;have q2:=FC (conds.map fun x=>(ak vs x).1) (au vs blocks c).1;simp only;omega
   ·split
    ·have q1:=h1 (c+1);have q2:=FC (labels.map fun l=>ins 1 0 0 0 0::dZ c l) (au vs blocks (c+1)).1;have q3:=Tv c labels;simp only[dX,List.length_append,List.length_cons,List.length_nil];omega
    ·split
     ·have q1:=h2 (c+2);simp only[dX,kL,ng,kV,List.length_append,List.length_cons,List.length_nil];omega
     ·split
      ·have q1:=h2 c;simp only[ij,ng,kV,List.length_append,List.length_cons,List.length_nil];omega
      ·split
       ·have q1:=h2 c;simp only[lS,ng,kV,List.length_append,List.length_cons,List.length_nil];omega
       ·split
        ·simp only[List.length_cons,List.length_nil];omega
        ·split
         ·simp only[List.length_cons,List.length_nil];omega
         ·simp only[List.length_append,List.length_cons,List.length_nil];omega
theorem zu:∀(l:List Sm)(c:Int),(ag vs l c).1.length≤2*bG (lf l)
 |[],c=>by simp[ag]
 |x::r,c=>by
  have h1:=ae0 x c;have h2:=zu r (cV vs x c).2;simp only[ag,lf,bG,dX,List.length_cons,List.length_nil];omega
theorem Nl:∀(l:List (List Sm))(c:Int),ow (au vs l c).1≤2*bG (ld l)
 |[],c=>by simp[au,ow]
 |b::r,c=>by
  have h1:=zu b c;have h2:=Nl r (ag vs b c).2;simp only[ow]at h2;simp only[au,ld,bG,dH,ow,List.map_cons,List.sum_cons];omega
theorem ae1:∀(l:List (List Sm))(c:Int),(lj vs l c).1.length≤2*bG (ld l)
 |[],c=>by simp[lj]
 |b::r,c=>by
  have h1:=zu b c;simp only[lj,ld,bG,dH];omega
end
end
mutual
theorem air:∀s:Sm,u0 s≤dH (b5 s)
 | .mk op name to val conds labels fields blocks line=>by
  have:=Tw blocks;simp only[u0,b5,dH,bG,pf];omega
theorem IC:∀l:List Sm,il l≤bG (lf l)
 |[]=>by simp[il]
 |x::r=>by
  have h1:=air x;have h2:=IC r;simp only[il,lf,bG];omega
theorem Tw:∀l:List (List Sm),ub l≤bG (ld l)
 |[]=>by simp[ub]
 |b::r=>by
  have h1:=IC b;have h2:=Tw r;simp only[ub,ld,bG,dH];omega
end
theorem Qb(p:Pg){n:Nat}(h:dH (.agg [.str p.name,.list (p.vars.map bF),.list (p.body.map b5)])<n):
 (∀c,(ag p.vars (dh p.body) c).1.length<2*n)∧il (dh p.body)<n∧(dh p.body).length<n:=by
 simp only[dH,bG]at h;rw[←rl]at h;have h0:=CP p.body;have h1:=IC (dh p.body);have h2:=lQ (lf (dh p.body));rw[AQ]at h2;refine⟨fun c=>?_,by omega,by omega⟩;have:=zu (vs:=p.vars) (dh p.body) c;omega
end Go.Am
end
section
namespace Go.Am
open Go Go.Proofs
variable [Inhabited bV]
set_option maxRecDepth 20000
@[simp] def Y6(p:Int×Bool):AV:=.aU [.d (.int .i64 p.1),.d (.bool p.2)]
@[simp] def ae2(p:Int×Int):AV:=.aU [.d (.int .i64 p.1),.d (.int .i64 p.2)]
theorem VS(a b:Int)(ha:aY a)(hb:aY b):ai ctx 265 [.d (.int .i64 a),.d (.int .i64 b)] []=some (.ret (Y6 (kG (a+b))),[]):=by
 have hw:IntKind.i64.wrap (a+b)=(a+b+9223372036854775808)%18446744073709551616-9223372036854775808:=IntKind.wrap_i64 _;unfold aY at ha hb;rw[adg (by simp)];unfold kG;by_cases h1:0≤a<;>by_cases h2:0≤b<;>by_cases h3:0≤IntKind.i64.wrap (a+b)<;>by_cases h4:(-9223372036854775808≤a+b∧a+b≤9223372036854775807)<;>
  first
  |(exfalso;omega)
  |(simp[Tryz.f265,h1,h2,h3,h4];try omega)
theorem ID(a b:Int)(ha:aY a)(hb:aY b):ai ctx 264 [.d (.int .i64 a),.d (.int .i64 b)] []=some (.ret (Y6 (kG (a-b))),[]):=by
 have hw:IntKind.i64.wrap (a-b)=(a-b+9223372036854775808)%18446744073709551616-9223372036854775808:=IntKind.wrap_i64 _;unfold aY at ha hb;rw[adf (by simp)];unfold kG;by_cases h1:0≤a<;>by_cases h2:0≤b<;>by_cases h3:0≤IntKind.i64.wrap (a-b)<;>by_cases h4:(-9223372036854775808≤a-b∧a-b≤9223372036854775807)<;>
  first
  |(exfalso;omega)
  |(simp[Tryz.f264,h1,h2,h3,h4];try omega)
theorem EW(a:Int)(ha:aY a):ai ctx 298 [.d (.int .i64 a)] []=some (.ret (.d (.int .u64 (a.natAbs:Nat))),[]):=by
 unfold aY at ha;rw[ado (by simp)];have h1:=IntKind.wrap_u64 a;by_cases h:a<0
 ·have h2:IntKind.u64.wrap (-IntKind.u64.wrap a)=(a.natAbs:Nat):=by rw[h1,IntKind.wrap_u64];omega
  simp[Tryz.f298,h,h2]
 ·have h2:IntKind.u64.wrap a=(a.natAbs:Nat):=by rw[h1];omega
  simp[Tryz.f298,h,h2]
theorem Jr(n:Nat)(hn:n<18446744073709551616)(s:Bool):ai ctx 299 [.d (.int .u64 n),.d (.bool s)] []=some (.ret (Y6 (kG (if s=true then-(n:Int)else n))),[]):=by
 rw[adp (by simp)];have h1:=IntKind.wrap_i64 (n:Int);unfold kG;cases s
 ·by_cases h:n≤9223372036854775807
  ·have h2:(n:Int)≤9223372036854775807:=by omega
   have h3:IntKind.i64.wrap (n:Int)=n:=by rw[h1];omega
   have h4: -9223372036854775808≤(n:Int):=by omega
   simp[Tryz.f299,h2,h3,h4]
  ·have h2:¬(n:Int)≤9223372036854775807:=by omega
   simp[Tryz.f299,h2]
 ·by_cases h:n≤9223372036854775808
  ·have h2:(n:Int)≤9223372036854775808:=by omega
   have h3:IntKind.i64.wrap (-(IntKind.i64.wrap (n:Int)))= -(n:Int):=by rw[h1,IntKind.wrap_i64];omega
   have h4: -9223372036854775808≤ -(n:Int):=by omega
   have h5: -(n:Int)≤9223372036854775807:=by omega
   simp[Tryz.f299,h2,h3,h4,h5]
  ·have h2:¬(n:Int)≤9223372036854775808:=by omega
   have h4:¬ -9223372036854775808≤ -(n:Int):=by omega
   simp[Tryz.f299,h2,h4]
def wo(k:IntKind)(a b:Int):Int:=k.wrap (BitVec.ofInt k.bits a &&& BitVec.ofInt k.bits b).toNat
def IE(k:IntKind)(a b:Int):Int:=k.wrap (BitVec.ofInt k.bits a ||| BitVec.ofInt k.bits b).toNat
theorem CQ(k:IntKind)(a b:Int):intBin .and k a b=some (true,.int k (wo k a b)):=rfl
theorem Ty(k:IntKind)(a b:Int):intBin .or k a b=some (true,.int k (IE k a b)):=rfl
theorem ais(a:Nat)(ha:a<18446744073709551616):wo .u64 (a:Int) 4294967295=((a%4294967296:Nat):Int):=by
 show IntKind.u64.wrap (BitVec.ofInt 64 (a:Int) &&& BitVec.ofInt 64 4294967295).toNat=_;have e:(BitVec.ofInt 64 (a:Int) &&& BitVec.ofInt 64 4294967295).toNat=a%4294967296:=by
  rw[BitVec.toNat_and,BitVec.toNat_ofInt,BitVec.toNat_ofInt];have e1:((a:Int)%((2^64:Nat):Int)).toNat=a:=by omega
  have e2:((4294967295:Int)%((2^64:Nat):Int)).toNat=4294967295:=by decide
  rw[e1,e2];exact Nat.and_two_pow_sub_one_eq_mod a 32
 rw[e,IntKind.wrap_u64];omega
theorem Tz(x y:Nat)(hx:x<18446744073709551616)(hy:y<18446744073709551616):
 ai ctx 297 [.d (.int .u64 x),.d (.int .u64 y)] []=some (.ret (.aU [.d (.int .u64 (x*y/18446744073709551616:Nat)),.d (.int .u64 (x*y%18446744073709551616:Nat))]),[]):=by
 have mN:∀a:Nat,a<18446744073709551616→wo .u64 (a:Int) 4294967295=((a%4294967296:Nat):Int):=fun a ha=>ais a ha;have fN:∀a:Nat,(a:Int).fdiv 4294967296=((a/4294967296:Nat):Int):=fun a=>by rw[Int.fdiv_eq_ediv_of_nonneg _ (by decide)];omega
 have mul':∀a b:Nat,(a:Int)*(b:Int)=((a*b:Nat):Int):=fun a b=>(Int.natCast_mul a b).symm;have IF:∀a b:Nat,(a:Int)+(b:Int)=((a+b:Nat):Int):=fun a b=>(Int.natCast_add a b).symm;have wN:∀a:Nat,a<18446744073709551616→IntKind.u64.wrap (a:Int)=(a:Int):=fun a h=>by rw[IntKind.wrap_u64];omega
 have wM:∀a:Nat,IntKind.u64.wrap (a:Int)=((a%18446744073709551616:Nat):Int):=fun a=>by rw[IntKind.wrap_u64];omega
 obtain⟨bd,bt,bw,nw⟩:=Lib.mul64_hi x y hx hy;have ba:=Lib.half_mul_le (a:=x/4294967296) (b:=y/4294967296) (by omega) (by omega);have bb:=Lib.half_mul_le (a:=x/4294967296) (b:=y%4294967296) (by omega) (by omega);have bc:=Lib.half_mul_le (a:=x%4294967296) (b:=y/4294967296) (by omega) (by omega);have m1:=mN x hx;have m2:=mN y hy;have f1:=fN x;have f2:=fN y;have lx0:x%4294967296<4294967296:=by omega
 have lx1:x/4294967296<4294967296:=by omega
 have ly0:y%4294967296<4294967296:=by omega
 have ly1:y/4294967296<4294967296:=by omega
 have k9:IntKind.u64.wrap ((x:Int)*(y:Int))=((x*y%18446744073709551616:Nat):Int):=by rw[mul',wM]
 have lhi:x*y/18446744073709551616<18446744073709551616:=by
  have:x*y<18446744073709551616*18446744073709551616:=Nat.mul_lt_mul_of_lt_of_lt hx hy;omega
 generalize x*y%18446744073709551616=lo at k9⊢;generalize x*y/18446744073709551616=hi at nw lhi⊢;generalize x%4294967296=x0 at bd bt bw nw ba bb bc m1 lx0;generalize x/4294967296=x1 at bd bt bw nw ba bb bc f1 lx1;generalize y%4294967296=y0 at bd bt bw nw ba bb bc m2 ly0;generalize y/4294967296=y1 at bd bt bw nw ba bb bc f2 ly1;generalize ht:x1*y0+x0*y0/4294967296=t at bt bw nw;generalize oG:t%4294967296+x0*y1=w1 at bw nw;have k1:IntKind.u64.wrap ((x0:Int)*(y0:Int))=((x0*y0:Nat):Int):=by rw[mul',wN _ bd]
 have k2:IntKind.u64.wrap ((x1:Int)*(y0:Int))=((x1*y0:Nat):Int):=by rw[mul',wN _ (by omega)]
 have k3:IntKind.u64.wrap (((x1*y0:Nat):Int)+((x0*y0/4294967296:Nat):Int))=(t:Int):=by rw[IF,ht,wN _ bt]
 have k4:IntKind.u64.wrap ((x0:Int)*(y1:Int))=((x0*y1:Nat):Int):=by rw[mul',wN _ (by omega)]
 have k5:IntKind.u64.wrap (((t%4294967296:Nat):Int)+((x0*y1:Nat):Int))=(w1:Int):=by rw[IF,oG,wN _ bw]
 have k6:IntKind.u64.wrap ((x1:Int)*(y1:Int))=((x1*y1:Nat):Int):=by rw[mul',wN _ (by omega)]
 have k7:IntKind.u64.wrap (((x1*y1:Nat):Int)+((t/4294967296:Nat):Int))=((x1*y1+t/4294967296:Nat):Int):=by rw[IF,wN _ (by omega)]
 have k8:IntKind.u64.wrap (((x1*y1+t/4294967296:Nat):Int)+((w1/4294967296:Nat):Int))=(hi:Int):=by rw[IF,nw,wN _ lhi]
 have fk:=fun a=>fN a;have mt:=mN t bt;rw[adn (by simp)];have f3:=fN t;have f4:=fN w1;have f5:=fN (x0*y0);clear fk mN fN IF wN wM ht oG nw;generalize hpd:x0*y0/4294967296=pd at k3 f5;generalize ayd:x0*y0=p00 at k1 f5;generalize aye:x1*y0=p10 at k2 k3;generalize ayf:x0*y1=p01 at k4 k5;generalize ht7:t/4294967296=td at k7 k8 f3;generalize htm:t%4294967296=tm at k5 mt;generalize MK:w1/4294967296=wd at k8 f4;generalize hpp:x1*y1+td=ptd at k7 k8;generalize ayg:x1*y1=p11 at k6 k7;simp[Tryz.f297, -intBin.eq_6,CQ,Ag,IntKind.bits,m1,m2,f1,f2,f3,f4,f5,mt,k1,k2,k3,k4,k5,k6,k7,k8,k9]
theorem VT(a b:Int)(ha:aY a)(hb:aY b):ai ctx 266 [.d (.int .i64 a),.d (.int .i64 b)] []=some (.ret (Y6 (kG (a*b))),[]):=by
 have sa:=EW a ha;have sb:=EW b hb;unfold aY at ha hb;have la:a.natAbs<18446744073709551616:=by omega
 have lb:b.natAbs<18446744073709551616:=by omega
 have hm:=Tz _ _ la lb;have sF:=Zt a b;have hs:=fun s=>Jr (a.natAbs*b.natAbs%18446744073709551616) (by omega) s;generalize hx:a.natAbs=x at*;generalize hy:b.natAbs=y at*;have mul':((x*y:Nat):Int)=(x:Int)*(y:Int):=Int.natCast_mul x y;generalize x*y=p at*;have hd:(a<0↔b<0)=(decide (a<0)=decide (b<0)):=by simp
 rw[adh (by simp)];have hf:¬p/18446744073709551616=0→kG (a*b)=(0,false):=by
  intro h;unfold kG;rw[if_neg];rw[sF];split<;>omega
 by_cases hp:p/18446744073709551616=0
 ·have rM:p%18446744073709551616=p:=by omega
  rw[rM]at hs hm;rw[hp]at hm;have e:(if (decide (a<0) != decide (b<0))=true then-(p:Int)else (p:Int))=a*b:=by
   rw[sF];by_cases h:decide (a<0)=decide (b<0)<;>simp[h]
  have pN:=hs (decide (a<0) != decide (b<0));rw[e]at pN;try simp at hm
  try simp at pN
  simp[Tryz.f266,sa,sb,hm,pN]
 ·have hf:=hf hp;have zJ:¬((p/18446744073709551616:Nat):Int)=0:=by omega
  generalize p/18446744073709551616=q at*;generalize p%18446744073709551616=r at*;try simp at hm
  simp[Tryz.f266,sa,sb,hm,hf,hp,zJ]
theorem VU(a b:Int)(ha:aY a)(hb:aY b):ai ctx 267 [.d (.int .i64 a),.d (.int .i64 b)] []=some (.ret (ae2 (yh a b)),[]):=by
 rw[adi (by simp)];unfold yh;by_cases h0:b=0
 ·simp[Tryz.f267,h0]
 ·by_cases h1:a= -9223372036854775808
  ·by_cases h2:b= -1
   ·simp[Tryz.f267,h0,h1,h2]
   ·have w:IntKind.i64.wrap (a.tdiv b)=a.tdiv b:=aw (by
     have hq:=Hd a b;unfold aY at*;have hle:a.natAbs/b.natAbs≤9223372036854775808:=by
      have:=Nat.div_le_self a.natAbs b.natAbs;omega
     have TY:decide (a<0)=decide (b<0)→a.natAbs/b.natAbs≤4611686018427387904:=by
      intro hd;rw[h1]at hd;simp at hd;have aW:2≤b.natAbs:=by omega
      have h3:=Nat.div_le_div_left aW (by decide) (a:=a.natAbs);have h4:a.natAbs=9223372036854775808:=by omega
      rw[h4]at h3⊢;exact h3
     generalize a.natAbs/b.natAbs=q at*;split at hq
     ·rename_i hd;have:=TY hd;omega
     ·omega)
    rw[h1]at w;simp at w;simp[Tryz.f267,h0,h1,h2,w]
  ·have w:IntKind.i64.wrap (a.tdiv b)=a.tdiv b:=aw (by
    have hq:=Hd a b;unfold aY at*;have hle:a.natAbs/b.natAbs≤a.natAbs:=Nat.div_le_self _ _;generalize a.natAbs/b.natAbs=q at*;split at hq<;>omega)
   simp[Tryz.f267,h0,h1,w]
theorem VV(a b:Int)(ha:aY a)(hb:aY b):ai ctx 268 [.d (.int .i64 a),.d (.int .i64 b)] []=some (.ret (ae2 (AK a b)),[]):=by
 rw[adj (by simp)];unfold AK;by_cases h0:b=0
 ·simp[Tryz.f268,h0]
 ·by_cases h2:b= -1
  ·simp[Tryz.f268,h0,h2]
  ·simp[Tryz.f268,h0,h2]
theorem oy(b:Bool):ai ctx 194 [.d (.bool b)] []=some (.ret (.d (.int .i64 (dI b))),[]):=by
 rw[acO (by simp)];cases b<;>simp[Tryz.f194,dI]
@[simp] theorem wr0:IntKind.i64.wrap 0=0:=rfl
@[simp] theorem wr1:IntKind.i64.wrap 1=1:=rfl
@[simp] theorem wr2:IntKind.i64.wrap 2=2:=rfl
@[simp] theorem wr3:IntKind.i64.wrap 3=3:=rfl
@[simp] theorem wr4:IntKind.i64.wrap 4=4:=rfl
@[simp] theorem ayh:IntKind.i64.wrap (-1)= -1:=rfl
@[simp] theorem wu0:IntKind.u64.wrap 0=0:=rfl
@[simp] theorem wu1:IntKind.u64.wrap 1=1:=rfl
theorem TB(op a:Int)(t:Bool)(ha:aY a)(ht:t=true→a=0∨a=1):ai ctx 212 [.d (.int .i64 op),.d (.int .i64 a),.d (.bool t)] []=some (.ret (J2 (qG op a t)),[]):=by
 have hs:=ID 0 a (by unfold aY;omega) ha;rw[ac0 (by simp)];unfold qG;generalize kG (0-a)=p at*;cases t
 ·by_cases h6:op=6
  ·simp at hs;cases hf:p.2<;>simp[Tryz.f212,h6,hf,hs,tV]
  ·simp[Tryz.f212,h6,kZ]
 ·rcases ht rfl with rfl|rfl<;>by_cases h7:op=7
  ·simp[Tryz.f212,h7,dI,wr0,wr1]
  ·simp[Tryz.f212,h7,kZ]
  ·simp[Tryz.f212,h7,dI,wr0,wr1]
  ·simp[Tryz.f212,h7,kZ]
theorem IG(op a b:Int)(ha:a=0∨a=1)(hb:b=0∨b=1):ai ctx 213 [.d (.int .i64 op),.d (.int .i64 a),.d (.int .i64 b)] []=some (.ret (J2 (He op a b)),[]):=by
 have a00:wo .i64 0 0=0:=by decide
 have a01:wo .i64 0 1=0:=by decide
 have Nn:wo .i64 1 0=0:=by decide
 have No:wo .i64 1 1=1:=by decide
 have o00:IE .i64 0 0=0:=by decide
 have o01:IE .i64 0 1=1:=by decide
 have o10:IE .i64 1 0=1:=by decide
 have o11:IE .i64 1 1=1:=by decide
 rw[ac1 (by simp)];unfold He;have hc:op=13∨op=14∨op=20∨op=19∨op=21∨(op≠13∧op≠14∧op≠20∧op≠19∧op≠21):=by omega
 rcases ha with rfl|rfl<;>rcases hb with rfl|rfl<;>rcases hc with rfl|rfl|rfl|rfl|rfl|⟨h1,h2,h3,h4,h5⟩<;>
  simp[Tryz.f213,oy, -intBin.eq_6, -intBin.eq_7,CQ,Ty,dI,kZ, *]
theorem IH(op a b:Int)(h:13≤op∧op≤18):ai ctx 215 [.d (.int .i64 op),.d (.int .i64 a),.d (.int .i64 b)] []=some (.ret (J2 (Cb op a b)),[]):=by
 rw[ac3 (by simp)];unfold Cb;have hc:op=13∨op=14∨op=15∨op=16∨op=17∨op=18:=by omega
 rcases hc with rfl|rfl|rfl|rfl|rfl|rfl<;>simp[Tryz.f215,oy,bne]
theorem II(op a b:Int)(h:8≤op∧op≤12)(ha:aY a)(hb:aY b):ai ctx 214 [.d (.int .i64 op),.d (.int .i64 a),.d (.int .i64 b)] []=some (.ret (J2 (Cb op a b)),[]):=by
 have q1:=VS a b ha hb;have q2:=ID a b ha hb;have q3:=VT a b ha hb;have q4:=VU a b ha hb;have q5:=VV a b ha hb;have hc:op=8∨op=9∨op=10∨op=11∨op=12:=by omega
 rw[ac2 (by simp)];unfold Cb;generalize kG (a+b)=f1 at*;generalize kG (a-b)=f2 at*;generalize kG (a*b)=f3 at*;generalize yh a b=f4 at*;generalize AK a b=f5 at*;simp at q1 q2 q3 q4 q5;rcases hc with rfl|rfl|rfl|rfl|rfl
 ·cases hf:f1.2<;>simp[Tryz.f214,q1,hf,tV]
 ·cases hf:f2.2<;>simp[Tryz.f214,q2,hf,tV]
 ·cases hf:f3.2<;>simp[Tryz.f214,q3,hf,tV]
 ·by_cases h3:f4.2=3
  ·simp[Tryz.f214,q4,h3,o8]
  ·by_cases h0:f4.2=0<;>simp[Tryz.f214,q4,h0,h3,o8]
 ·by_cases h3:f5.2=3
  ·simp[Tryz.f214,q5,h3,o8]
  ·by_cases h0:f5.2=0<;>simp[Tryz.f214,q5,h0,h3,o8]
theorem Js(op a:Int)(t:Bool)(ha:aY a):ai ctx 152 [.d (.int .i64 op),.d (.list [.int .i64 a]),.d (.bool t)] []=some (.ret (J2 (qG op a t)),[]):=by
 rw[Sv (by simp)];by_cases hb:t=true∧a≠0∧a≠1
 ·obtain⟨rfl,h0,h1⟩:=hb;simp[Tryz.f152];rw[ah];simp[h0,h1,qG,kZ]
 ·have h1:=TB op a t ha (by intro h;subst h;simp at hb;omega);have hg:(t&&(a != 0))=true→a=1:=by simp;intro h1 h2;simp[h1]at hb;exact hb h2
  generalize qG op a t=p at*;simp at h1;cases t
  ·simp[Tryz.f152];rw[ah];simp;rw[ah];simp[h1]
  ·have rK:a=0∨a=1:=by simp at hg;omega
   rcases rK with rfl|rfl
   ·simp[Tryz.f152];rw[ah];simp;rw[ah];simp[h1]
   ·simp[Tryz.f152];rw[ah];simp;rw[ah];simp[h1]
theorem Jt(op a b:Int)(t:Bool)(ha:aY a)(hb:aY b):ai ctx 152 [.d (.int .i64 op),.d (.list [.int .i64 a,.int .i64 b]),.d (.bool t)] []=some (.ret (J2 (uB op a b t)),[]):=by
 rw[Sv (by simp)];have cmp:=fun h=>IH op a b h;have rck:=fun h=>II op a b h ha hb;have qE:=fun h1 h2=>IG op a b h1 h2;unfold uB;cases t
 ·have zK:¬(8≤op∧op≤12)→¬(13≤op∧op≤18)→Cb op a b=kZ:=by
   intro h1 h2;unfold Cb;simp only[show ¬op=8 by omega,show ¬op=9 by omega,show ¬op=10 by omega,show ¬op=11 by omega,show ¬op=12 by omega,show ¬op=13 by omega,show ¬op=14 by omega,show ¬op=15 by omega,show ¬op=16 by omega,show ¬op=17 by omega,show ¬op=18 by omega,if_false]
  generalize Cb op a b=p at*;simp[Tryz.f152];rw[ah];simp;rw[ah];simp;rw[ah];simp;by_cases h1:8≤op∧op≤12
  ·have r:=rck h1;simp at r;simp[h1.1,h1.2,r,aq]
  ·by_cases h2:13≤op∧op≤18
   ·have r:=cmp h2;have h3:¬op≤12:=by omega
    have h4:8≤op:=by omega
    simp at r;simp[h2.1,h2.2,h3,h4,r,aq]
   ·have hp:=zK h1 h2;subst hp;by_cases h5:8≤op
    ·have h6:¬op≤12:=by omega
     have h7:13≤op:=by omega
     have h8:¬op≤18:=by omega
     simp[h5,h6,h7,h8,kZ]
    ·have h7:¬13≤op:=by omega
     simp[h5,h7,kZ]
 ·by_cases h1:a=0∨a=1
  ·by_cases h2:b=0∨b=1
   ·have r:=qE h1 h2;generalize He op a b=p at*;rcases h1 with rfl|rfl<;>rcases h2 with rfl|rfl<;>
     (simp at r
      simp[Tryz.f152];rw[ah];simp;rw[ah];simp;rw[ah];simp[r,aq])
   ·have h3:¬b=0:=by omega
    have h4:¬b=1:=by omega
    rcases h1 with rfl|rfl<;>
     (simp[Tryz.f152]
      rw[ah];simp;rw[ah];simp[h3,h4,kZ])
  ·have h3:¬a=0:=by omega
   have h4:¬a=1:=by omega
   simp[Tryz.f152];rw[ah];simp[h3,h4,kZ]
def sn(o:Option (Int×Bool)):Out:=match o with|some c=>.ret (.aU [.d (.int .i64 c.1),.d (.bool c.2),.d (.bool true)])|none=>.ret (.aU [.d (.int .i64 0),.d (.bool false),.d (.bool false)])
theorem TC(n:Int)(t:Bool)(line:Int):ai ctx 195 [.d (.int .i64 n),.d (.bool t),.d (.int .i64 line)] []=some (.ret (.d (bJ (jD n t line))),[]):=by
 rw[acP (by simp)];cases t with
 |true=>simp[Tryz.f195,jD,bJ,fX]
 |false=>
  by_cases h:0≤n
  ·simp[Tryz.f195,jD,bJ,fX,h]
  ·simp[Tryz.f195,jD,bJ,fX,h,MN]
theorem zv(x:Ex):ai ctx 193 [.d (bJ x)] []=some (sn (jb x),[]):=by
 obtain⟨op,n,name,field,sub,line⟩:=x;rw[acN (by simp)];simp[Tryz.f193,aD];by_cases h1:op=1
 ·subst h1;simp[jb,sn]
 by_cases h2:op=2
 ·subst h2;simp[jb,sn]
 by_cases h6:op=6
 ·subst h6;match sub with
  |[]=>simp[jb,sn]
  |[y]=>
   by_cases hy:bR y=1
   ·simp[jb,sn,hy,aD,MN]
   ·simp[jb,sn,hy,aD]
  |y::z::r=>
   have bE:¬((r.length:Int)+1+1=1):=by omega
   simp[jb,sn,bE]
 ·simp[jb,sn,h1,h2,h6]
def tw(y:Ex):Prop:=ai ctx 124 [.d (bJ y)] []=some (.ret (.d (bJ (cC y))),[])
theorem IJ(l:List Ex)(lz:l.length<100000000)(A B:cH)(hA:A.key=150)(hB:B.key=200)(C1 C2:aE)(k:Kt)(Q:List Ex→bP→Prop)
 (hx:∀(Y:Env)(out:List Ex) v v3 X3,Q out (k (.exit 0) ⟨105,aC,(1,true,.ptr 150 1 0)::(2,true,.ptr 200 1 0)::(3,true,.vec 250 v 0 out.length)::Y,[A,B,⟨250,v,.vec 6 (out.map bJ)⟩,⟨350,v3,X3⟩,⟨550,0,C1⟩,⟨700,0,C2⟩]⟩)):
 ∀(rest pre out:List Ex)(v v3:Nat)(X3:aE),l=pre++rest→out.length=pre.length→(∀y∈rest,tw y)→
 Q (out++cu rest) (aI ctx 124 (.loop (Code.at (aX Tryz.f124) [1,1,0,1,0,0])) ⟨105,aC,[(1,true,.ptr 150 1 0),(2,true,.ptr 200 1 0),(3,true,.vec 250 v 0 out.length),(20,true,.d (.list (l.map bJ))),(21,true,.d (.int .i64 l.length)),(22,true,.d (.int .i64 pre.length))],[A,B,⟨250,v,.vec 6 (out.map bJ)⟩,⟨350,v3,X3⟩,⟨550,0,C1⟩,⟨700,0,C2⟩]⟩ k)
 |[],pre,out,v,v3,X3,hd,ho,hK=>by
  have cm:pre.length=l.length:=by rw[hd];simp
  have:=hx [(20,true,.d (.list (l.map bJ))),(21,true,.d (.int .i64 l.length)),(22,true,.d (.int .i64 l.length)),(23,true,.d (.bool false))] out v v3 X3;simp[cu]at this⊢;rw[cm,ah];simp[Tryz.f124,this]
 |x::rest,pre,out,v,v3,X3,hd,ho,hK=>by
  have aV:pre.length<l.length:=by rw[hd];simp
  have aW:l[pre.length]=x:=by simp[hd]
  have hk:=hK x (by simp);unfold tw at hk;have ih:=fun v v3 X3=>IJ l lz A B hA hB C1 C2 k Q hx rest (pre++[x]) (out++[cC x]) v v3 X3 (by simp[hd]) (by simp[ho]) (fun y hy=>hK y (by simp[hy]));have w1:IntKind.i64.wrap ((pre.length:Int)+1)=(pre.length:Int)+1:=aw (by unfold aY;omega);have w3:out.length≤4611686018427387903:=by omega
  have w4:(out.length+1)*80≤140737488355328:=by omega
  have e:out++cu (x::rest)=out++[cC x]++cu rest:=by simp[cu]
  rw[e,ah];generalize cC x=x' at*;simp[Tryz.f124,aD]at ih hk⊢;simp[aV,aW,hA,hB,aD,hk,w1,w3,w4,ih]
theorem IK(l:List Ex)(lz:l.length<100000000)(k:Kt)(Q:List Ex→bP→Prop)
 (hx:∀(Y:Env)(out:List Ex) v v3 X3,Q out (k (.exit 0) ⟨19,aC,(3,true,.vec 250 v 0 out.length)::Y,[⟨250,v,.vec 6 (out.map bJ)⟩,⟨350,v3,X3⟩]⟩)):
 ∀(rest pre out:List Ex)(v v3:Nat)(X3:aE),l=pre++rest→out.length=pre.length→(∀y∈rest,tw y)→
 Q (out++cu rest) (aI ctx 125 (.loop (Code.at (aX Tryz.f125) [1,1,0,1,0,0])) ⟨19,aC,[(3,true,.vec 250 v 0 out.length),(6,true,.d (.list (l.map bJ))),(7,true,.d (.int .i64 l.length)),(8,true,.d (.int .i64 pre.length))],[⟨250,v,.vec 6 (out.map bJ)⟩,⟨350,v3,X3⟩]⟩ k)
 |[],pre,out,v,v3,X3,hd,ho,hK=>by
  have cm:pre.length=l.length:=by rw[hd];simp
  have:=hx [(6,true,.d (.list (l.map bJ))),(7,true,.d (.int .i64 l.length)),(8,true,.d (.int .i64 l.length)),(9,true,.d (.bool false))] out v v3 X3;simp[cu]at this⊢;rw[cm,ah];simp[Tryz.f125,this]
 |x::rest,pre,out,v,v3,X3,hd,ho,hK=>by
  have aV:pre.length<l.length:=by rw[hd];simp
  have aW:l[pre.length]=x:=by simp[hd]
  have hk:=hK x (by simp);unfold tw at hk;have ih:=fun v v3 X3=>IK l lz k Q hx rest (pre++[x]) (out++[cC x]) v v3 X3 (by simp[hd]) (by simp[ho]) (fun y hy=>hK y (by simp[hy]));have w1:IntKind.i64.wrap ((pre.length:Int)+1)=(pre.length:Int)+1:=aw (by unfold aY;omega);have w3:out.length≤4611686018427387903:=by omega
  have w4:(out.length+1)*80≤140737488355328:=by omega
  have e:out++cu (x::rest)=out++[cC x]++cu rest:=by simp[cu]
  rw[e,ah];generalize cC x=x' at*;simp[Tryz.f125,aD]at ih hk⊢;simp[aV,aW,aD,hk,w1,w3,w4,ih]
theorem VW(l:List Ex)(lz:l.length<100000000)(hK:∀y∈l,tw y):ai ctx 125 [.d (.list (l.map bJ))] []=some (.ret (.d (.list ((cu l).map bJ))),[]):=by
 have cP:=fun k Q hx v v3 X3=>IK l lz k Q hx l [] [] v v3 X3 rfl rfl hK;rw[acx (by simp)];simp[Tryz.f125]at cP⊢;refine cP _ (fun out r=>out=cu l→r=some (.ret (.d (.list ((cu l).map bJ))),[])) (fun Y out v v3 X3 h=>?_) _ _ _ rfl;subst h;simp
end Go.Am
end
section
namespace Go.Am
open Go Go.Proofs
variable [Inhabited bV]
set_option maxRecDepth 20000
set_option maxHeartbeats 4000000
theorem ao7{α:Type}{l:List α}(h:l.length=2):∃a b,l=[a,b]:=by
 match l,h with
 |[a,b],_=>exact⟨a,b,rfl⟩
theorem ae3{op n line:Int}{name field:Tx}{sub:List Ex}(lz:sub.length<100000000)(hs:6≤op→sub.length=1∨sub.length=2)(hK:∀y∈sub,tw y)(hC:∀y∈sub,∀c,jb (cC y)=some c→aY c.1):tw (.mk op n name field sub line):=by
 have cP:=fun A B hA hB C1 C2 k Q hx v v3 X3=>IJ sub lz A B hA hB C1 C2 k Q hx sub [] [] v v3 X3 rfl rfl hK;unfold tw;have e:cC (.mk op n name field sub line)=fj (.mk op n name field (cu sub) line):=by simp[cC]
 rw[e];have TD:∀y∈cu sub,∀c,jb y=some c→aY c.1:=by
  rw[lR];intro y hy;obtain⟨z,hz,rfl⟩:=List.mem_map.1 hy;exact hC z hz
 have pN:6≤op→(cu sub).length=1∨(cu sub).length=2:=by rw[lR];simpa using hs
 obtain⟨R,hR⟩:∃R,R=bJ (fj (.mk op n name field (cu sub) line)):=⟨_,rfl⟩;rw[←hR,acw (by simp)];simp[Tryz.f124,aD]at cP⊢;refine cP _ _ ?_ ?_ _ _ _ (fun out r=>out=cu sub→r=some (.ret (.d R),[])) (fun Y out v v3 X3 h=>?_) _ _ _ rfl
 ·rfl
 ·rfl
 subst h;generalize cu sub=out at*;have hc:=zv (.mk op n name field out line);by_cases h6:op<6
 ·have hv:fj (.mk op n name field out line)=.mk op n name field out line:=by simp[fj,h6]
  rw[hv]at hR;subst hR;simp[Tryz.f124,h6,aD]
 cases eQ:jb (.mk op n name field out line)with
 |some c=>
  have hv:fj (.mk op n name field out line)=.mk op n name field out line:=by simp[fj,eQ]
  rw[hv]at hR;subst hR;rw[eQ]at hc;simp[aD]at hc;simp[Tryz.f124,h6,aD,hc,sn]
 |none=>
  rw[eQ]at hc;rcases pN (by omega)with h1|h2
  ·obtain⟨y,rfl⟩:=Ds h1;have hy:=zv y;simp[aD,sn]at hc hy;simp[Tryz.f124,h6,aD,hc];rw[ah];cases mL:jb y with
   |none=>
    have hv:fj (.mk op n name field [y] line)=.mk op n name field [y] line:=by simp[fj,m6,mL]
    rw[hv]at hR;subst hR;rw[mL]at hy;simp at hy;simp[aD,hy]
   |some c=>
    obtain⟨a,t⟩:=c;have ha:aY a:=TD y (by simp) _ mL;have ht:=oy t;have cS:=Js op a t ha;rw[mL]at hy;simp at hy;have hv:fj (.mk op n name field [y] line)=if (qG op a t).2.2≠0∨((qG op a t).2.1=false∧(qG op a t).1= -9223372036854775808)then .mk op n name field [y] line else jD (qG op a t).1 (qG op a t).2.1 line:=by
     simp[fj,m6,mL,eQ,HW,h6]
    rw[hv]at hR;generalize qG op a t=q at*;obtain⟨q1,q2,q3⟩:=q;have hm:=TC q1 q2 line;simp only at hR cS;have hq:(q3≠0∧R=bJ (.mk op n name field [y] line))∨(q3=0∧q2=false∧q1= -9223372036854775808∧R=bJ (.mk op n name field [y] line))∨(∃e,R=bJ e∧q3=0∧q2=false∧q1≠ -9223372036854775808∧ai ctx 195 [.d (.int .i64 q1),.d (.bool q2),.d (.int .i64 line)] []=some (.ret (.d (bJ e)),[]))∨(∃e,R=bJ e∧q3=0∧q2=true∧ai ctx 195 [.d (.int .i64 q1),.d (.bool q2),.d (.int .i64 line)] []=some (.ret (.d (bJ e)),[])):=by
     by_cases ni:q3≠0∨(q2=false∧q1= -9223372036854775808)
     ·rw[if_pos ni]at hR;rcases ni with h|h
      ·exact .inl ⟨h,hR⟩
      ·by_cases h3:q3=0
       ·exact .inr (.inl ⟨h3,h.1,h.2,hR⟩)
       ·exact .inl ⟨h3,hR⟩
     ·rw[if_neg ni]at hR;simp only[not_or,not_and,Classical.not_not]at ni;cases q2 with
      |true=>exact .inr (.inr (.inr ⟨_,hR,ni.1,rfl,hm⟩))
      |false=>exact .inr (.inr (.inl ⟨_,hR,ni.1,rfl,ni.2 rfl,hm⟩))
    clear hR hm TD hC hK cP hs pN;cases t
    ·simp[dI]at ht cS;rcases hq with ⟨e3,hR⟩|⟨rfl,rfl,rfl,hR⟩|⟨e,rfl,rfl,rfl,e1,hm⟩|⟨e,rfl,rfl,rfl,hm⟩
     ·subst hR;simp[aD,hy,ht,cS,e3];rw[ah];simp[aD,hy,ht,cS,e3]
     ·subst hR;simp[aD,hy,ht,cS];rw[ah];simp[aD,hy,ht,cS]
     ·simp[aD]at hm;simp[aD,hy,ht,cS,e1,hm];rw[ah];simp[aD,hy,ht,cS,e1,hm]
     ·simp[aD]at hm;simp[aD,hy,ht,cS,hm];rw[ah];simp[aD,hy,ht,cS,hm]
    ·simp[dI]at ht cS;rcases hq with ⟨e3,hR⟩|⟨rfl,rfl,rfl,hR⟩|⟨e,rfl,rfl,rfl,e1,hm⟩|⟨e,rfl,rfl,rfl,hm⟩
     ·subst hR;simp[aD,hy,ht,cS,e3];rw[ah];simp[aD,hy,ht,cS,e3]
     ·subst hR;simp[aD,hy,ht,cS];rw[ah];simp[aD,hy,ht,cS]
     ·simp[aD]at hm;simp[aD,hy,ht,cS,e1,hm];rw[ah];simp[aD,hy,ht,cS,e1,hm]
     ·simp[aD]at hm;simp[aD,hy,ht,cS,hm];rw[ah];simp[aD,hy,ht,cS,hm]
  ·obtain⟨y,z,rfl⟩:=ao7 h2;have hy:=zv y;have hz:=zv z;simp[aD,sn]at hc hy hz;simp[Tryz.f124,h6,aD,hc];rw[ah];cases mL:jb y with
   |none=>
    have hv:fj (.mk op n name field [y,z] line)=.mk op n name field [y,z] line:=by simp[fj,m6,mL]
    rw[hv]at hR;subst hR;rw[mL]at hy;simp at hy;simp[aD,hy]
   |some c=>
    obtain⟨a,t⟩:=c;have ha:aY a:=TD y (by simp) _ mL;have ht:=oy t;rw[mL]at hy;simp at hy;cases Np:jb z with
    |none=>
     have hv:fj (.mk op n name field [y,z] line)=.mk op n name field [y,z] line:=by simp[fj,m6,mL,Np]
     rw[hv]at hR;subst hR;rw[Np]at hz;simp at hz ht;simp[aD,hy,ht];rw[ah];simp[aD,hz]
    |some d=>
     obtain⟨b,u⟩:=d;have hb:aY b:=TD z (by simp) _ Np;have hu:=oy u;rw[Np]at hz;simp at hz;by_cases Za:t=u
     ·subst Za;have cS:=Jt op a b t ha hb;have hv:fj (.mk op n name field [y,z] line)=if (uB op a b t).2.2≠0∨((uB op a b t).2.1=false∧(uB op a b t).1= -9223372036854775808)then .mk op n name field [y,z] line else jD (uB op a b t).1 (uB op a b t).2.1 line:=by
       simp[fj,m6,mL,Np,eQ,HW,h6]
      rw[hv]at hR;generalize uB op a b t=q at*;obtain⟨q1,q2,q3⟩:=q;have hm:=TC q1 q2 line;simp only at hR cS;have hq:(q3≠0∧R=bJ (.mk op n name field [y,z] line))∨(q3=0∧q2=false∧q1= -9223372036854775808∧R=bJ (.mk op n name field [y,z] line))∨(∃e,R=bJ e∧q3=0∧q2=false∧q1≠ -9223372036854775808∧ai ctx 195 [.d (.int .i64 q1),.d (.bool q2),.d (.int .i64 line)] []=some (.ret (.d (bJ e)),[]))∨(∃e,R=bJ e∧q3=0∧q2=true∧ai ctx 195 [.d (.int .i64 q1),.d (.bool q2),.d (.int .i64 line)] []=some (.ret (.d (bJ e)),[])):=by
       by_cases ni:q3≠0∨(q2=false∧q1= -9223372036854775808)
       ·rw[if_pos ni]at hR;rcases ni with h|h
        ·exact .inl ⟨h,hR⟩
        ·by_cases h3:q3=0
         ·exact .inr (.inl ⟨h3,h.1,h.2,hR⟩)
         ·exact .inl ⟨h3,hR⟩
       ·rw[if_neg ni]at hR;simp only[not_or,not_and,Classical.not_not]at ni;cases q2 with
        |true=>exact .inr (.inr (.inr ⟨_,hR,ni.1,rfl,hm⟩))
        |false=>exact .inr (.inr (.inl ⟨_,hR,ni.1,rfl,ni.2 rfl,hm⟩))
      clear hR hm TD hC hK cP hs pN;cases t
      ·simp[dI]at ht cS;rcases hq with ⟨e3,hR⟩|⟨rfl,rfl,rfl,hR⟩|⟨e,rfl,rfl,rfl,e1,hm⟩|⟨e,rfl,rfl,rfl,hm⟩
       ·subst hR;simp[aD,hy,hz,ht,cS,e3];rw[ah];simp[aD,hy,hz,ht,cS,e3];rw[ah];simp[aD,hy,hz,ht,cS,e3]
       ·subst hR;simp[aD,hy,hz,ht,cS];rw[ah];simp[aD,hy,hz,ht,cS];rw[ah];simp[aD,hy,hz,ht,cS]
       ·simp[aD]at hm;simp[aD,hy,hz,ht,cS,e1,hm];rw[ah];simp[aD,hy,hz,ht,cS,e1,hm];rw[ah];simp[aD,hy,hz,ht,cS,e1,hm]
       ·simp[aD]at hm;simp[aD,hy,hz,ht,cS,hm];rw[ah];simp[aD,hy,hz,ht,cS,hm];rw[ah];simp[aD,hy,hz,ht,cS,hm]
      ·simp[dI]at ht cS;rcases hq with ⟨e3,hR⟩|⟨rfl,rfl,rfl,hR⟩|⟨e,rfl,rfl,rfl,e1,hm⟩|⟨e,rfl,rfl,rfl,hm⟩
       ·subst hR;simp[aD,hy,hz,ht,cS,e3];rw[ah];simp[aD,hy,hz,ht,cS,e3];rw[ah];simp[aD,hy,hz,ht,cS,e3]
       ·subst hR;simp[aD,hy,hz,ht,cS];rw[ah];simp[aD,hy,hz,ht,cS];rw[ah];simp[aD,hy,hz,ht,cS]
       ·simp[aD]at hm;simp[aD,hy,hz,ht,cS,e1,hm];rw[ah];simp[aD,hy,hz,ht,cS,e1,hm];rw[ah];simp[aD,hy,hz,ht,cS,e1,hm]
       ·simp[aD]at hm;simp[aD,hy,hz,ht,cS,hm];rw[ah];simp[aD,hy,hz,ht,cS,hm];rw[ah];simp[aD,hy,hz,ht,cS,hm]
     ·have hv:fj (.mk op n name field [y,z] line)=.mk op n name field [y,z] line:=by simp[fj,m6,mL,Np,HW,Za]
      rw[hv]at hR;subst hR;cases t<;>cases u
      ·exact absurd rfl Za
      ·simp[dI]at ht hu;simp[aD,hy,hz,ht,hu];rw[ah];simp[aD,hy,hz,ht,hu];rw[ah];simp[aD,hy,hz,ht,hu]
      ·simp[dI]at ht hu;simp[aD,hy,hz,ht,hu];rw[ah];simp[aD,hy,hz,ht,hu];rw[ah];simp[aD,hy,hz,ht,hu]
      ·exact absurd rfl Za
end Go.Am
end
section
namespace Go.Am
open Go Go.Proofs
variable [Inhabited bV]
set_option maxRecDepth 20000
theorem ae4{vs:List Vr}{x:Ex}(hf:bk x=true)(he:(aF vs x).e=0):∀y∈cK x,(aF vs y).e=0:=by
 cases Du hf he with
 |num h=>simp
 |qE h=>simp
 |var hv ha ht=>simp
 |idx hv ha ht fy ey ty=>simpa using ey
 |YT hv ht hq hf=>simp
 |one ho fy ey ty=>simpa using ey
 |two ho fy ey fz ez ty tz=>simpa using ⟨ey,ez⟩
mutual
theorem oz{vs:List Vr}:∀x:Ex,bk x=true→eE x=true→(aF vs x).e=0→tw x
 | .mk op n name field sub line,hf,hl,he=>by
  have hs:=ae4 hf he;simp only[mR]at hs;have YZ:=hf;simp only[bk,Bool.and_eq_true,decide_eq_true_eq]at hf;simp only[eE,Bool.and_eq_true]at hl;have hlen:=hf.2.1;unfold dC at hlen;have pV:=hf.2.2.2.2;have hls:=hl.2;refine ae3 (by split at hlen<;>(try split at hlen)<;>omega) (fun h6=>by
   by_cases h:op=4∨op=6∨op=7
   ·rw[if_pos h]at hlen;exact .inl hlen
   ·rw[if_neg h,if_pos (by omega)]at hlen;exact .inr hlen) (zw sub pV hls hs) (fun y hy c hc=>?_)
  have hk:=Cx y ((iO _).1 pV y hy) ((s9 _).1 hls y hy) (hs y hy);have:=(SU hc hk.1 hk.2.1 (by rw[hk.2.2.1];exact hs y hy)).2;unfold aY;omega
theorem zw{vs:List Vr}:∀l:List Ex,bH l=true→ea l=true→(∀y∈l,(aF vs y).e=0)→∀y∈l,tw y
 |[],_,_,_,y,hy=>absurd hy (List.not_mem_nil)
 |x::r,hf,hl,he,y,hy=>by
  simp only[bH,Bool.and_eq_true]at hf;simp only[ea,Bool.and_eq_true]at hl;rcases List.mem_cons.1 hy with h|h
  ·rw[h];exact oz x hf.1 hl.1 (he x (by simp))
  ·exact zw r hf.2 hl.2 (fun z hz=>he z (by simp[hz])) y h
end
theorem iR{x:Ex}(h:dD x=true):tw x:=by
 obtain⟨op,n,name,field,sub,line⟩:=x;have h:(decide (op=0)&&(decide (n=0)&&decide (name.length+field.length+sub.length=0)))=true:=h;simp only[Bool.and_eq_true,decide_eq_true_eq]at h;have hs:sub=[]:=List.eq_nil_of_length_eq_zero (by omega);have h0:=h.1;subst hs;exact ae3 (by simp) (fun h6=>by omega) (fun y hy=>absurd hy (List.not_mem_nil)) (fun y hy=>absurd hy (List.not_mem_nil))
end Go.Am
end
section
namespace Go.Am
open Go Go.Proofs
variable [Inhabited bV]
set_option maxRecDepth 20000
set_option maxHeartbeats 1000000
def KG(b:List Sm):Prop:=ai ctx 81 [.d (.list (b.map b5))] []=some (.ret (.d (.list ((dh b).map b5))),[])
def KH(x:Sm):Prop:=ai ctx 124 [.d (bJ (eD x))] []=some (.ret (.d (bJ (cC (eD x)))),[])∧ai ctx 124 [.d (bJ (dF x))] []=some (.ret (.d (bJ (cC (dF x)))),[])∧ai ctx 125 [.d (.list ((cw x).map bJ))] []=some (.ret (.d (.list ((cu (cw x)).map bJ))),[])∧(bB x).length<100000000∧∀b∈bB x,KG b
theorem Nq(l:List (List Sm))(lz:l.length<100000000)(va na vb:Nat)(ra:List D)(cs:List AV)(kO:∀v rows,cs.map (fzAV 400 v rows)=cs)(a9 Nn No:D)(k:Kt)(Q:List (List Sm)→bP→Prop)
 (hx:∀(Y:Env)(out:List (List Sm)) v,Q out (k (.exit 2) ⟨48,aC,(3,true,.vec 250 va 0 na)::(5,true,.ptr 350 vb 0)::(6,true,.d (.list (out.map dc)))::(9,true,.d a9)::(10,true,.d Nn)::(11,true,.d No)::Y,[⟨250,va,.vec 19 ra⟩,⟨350,vb,.box cs⟩,⟨400,v,.dead⟩]⟩)):
 ∀(rest pre out:List (List Sm))(v:Nat),l=pre++rest→out.length=pre.length→(∀b∈rest,KG b)→
 Q (out++gj rest) (aI ctx 81 (.loop (Code.at (aX Tryz.f81) [1,1,0,1,0,0,1,1,0,0,1,1,1,0,1,0,0])) ⟨48,aC,[(3,true,.vec 250 va 0 na),(5,true,.ptr 350 vb 0),(6,true,.vec 400 v 0 out.length),(9,true,.d a9),(10,true,.d Nn),(11,true,.d No),(28,true,.d (.list (l.map dc))),(29,true,.d (.int .i64 l.length)),(30,true,.d (.int .i64 pre.length))],[⟨250,va,.vec 19 ra⟩,⟨350,vb,.box cs⟩,⟨400,v,.vec 1 (out.map dc)⟩]⟩ k)
 |[],pre,out,v,hd,ho,hK=>by
  have cm:pre.length=l.length:=by rw[hd];simp
  have:=hx [(28,true,.d (.list (l.map dc))),(29,true,.d (.int .i64 l.length)),(30,true,.d (.int .i64 l.length)),(31,true,.d (.bool false))] out (v+1);simp[gj]at this⊢;rw[cm,ah];simp[Tryz.f81,kO,this]
 |b::rest,pre,out,v,hd,ho,hK=>by
  have aV:pre.length<l.length:=by rw[hd];simp
  have aW:l[pre.length]=b:=by simp[hd]
  have hk:=hK b (by simp);unfold KG at hk;have ih:=fun v=>Nq l lz va na vb ra cs kO a9 Nn No k Q hx rest (pre++[b]) (out++[dh b]) v (by simp[hd]) (by simp[ho]) (fun y hy=>hK y (by simp[hy]));have w1:IntKind.i64.wrap ((pre.length:Int)+1)=(pre.length:Int)+1:=aw (by unfold aY;omega);have w3:out.length≤4611686018427387903:=by omega
  have w4:(out.length+1)*24≤140737488355328:=by omega
  have e:out++gj (b::rest)=out++[dh b]++gj rest:=by simp[gj]
  rw[e,ah];generalize dh b=b' at*;simp[Tryz.f81,dc]at ih hk⊢;simp[aV,aW,dc,hk,w1,w3,w4,ih]
theorem Nr(l:List Sm)(lz:l.length<100000000)(k:Kt)(Q:List Sm→bP→Prop)
 (hx:∀(Y:Env)(out:List Sm) v v3 X3 v4 X4,Q out (k (.exit 0) ⟨48,aC,(3,true,.vec 250 v 0 out.length)::Y,[⟨250,v,.vec 19 (out.map b5)⟩,⟨350,v3,X3⟩,⟨400,v4,X4⟩]⟩)):
 ∀(rest pre out:List Sm)(v v3:Nat)(X3:aE)(v4:Nat)(X4:aE),l=pre++rest→out.length=pre.length→(∀x∈rest,KH x)→
 Q (out++dh rest) (aI ctx 81 (.loop (Code.at (aX Tryz.f81) [1,1,0,1,0,0])) ⟨48,aC,[(3,true,.vec 250 v 0 out.length),(9,true,.d (.list (l.map b5))),(10,true,.d (.int .i64 l.length)),(11,true,.d (.int .i64 pre.length))],[⟨250,v,.vec 19 (out.map b5)⟩,⟨350,v3,X3⟩,⟨400,v4,X4⟩]⟩ k)
 |[],pre,out,v,v3,X3,v4,X4,hd,ho,hK=>by
  have cm:pre.length=l.length:=by rw[hd];simp
  have:=hx [(9,true,.d (.list (l.map b5))),(10,true,.d (.int .i64 l.length)),(11,true,.d (.int .i64 l.length)),(12,true,.d (.bool false))] out v v3 X3 v4 X4;simp[dh]at this⊢;rw[cm,ah];simp[Tryz.f81,this]
 |x::rest,pre,out,v,v3,X3,v4,X4,hd,ho,hK=>by
  have aV:pre.length<l.length:=by rw[hd];simp
  have aW:l[pre.length]=x:=by simp[hd]
  obtain⟨ht,hv,hc,gx,hK2⟩:=hK x (by simp);have ih:=fun v v3 X3 v4 X4=>Nr l lz k Q hx rest (pre++[x]) (out++[nD x]) v v3 X3 v4 X4 (by simp[hd]) (by simp[ho]) (fun y hy=>hK y (by simp[hy]));have cP:=fun va na vb ra cs kO a9 Nn No k Q hx v=>Nq (bB x) gx va na vb ra cs kO a9 Nn No k Q hx (bB x) [] [] v rfl rfl hK2;have w1:IntKind.i64.wrap ((pre.length:Int)+1)=(pre.length:Int)+1:=aw (by unfold aY;omega);have w3:out.length≤4611686018427387903:=by omega
  have w4:(out.length+1)*288≤140737488355328:=by omega
  have e:out++dh (x::rest)=out++[nD x]++dh rest:=by simp[dh]
  have eM:b5 (nD x)=.agg [.int .i64 (bA x),.str (gR x),.int .i64 (bR (cC (eD x))),.int .i64 (gY (cC (eD x))),.str (dA (cC (eD x))),.str (fi (cC (eD x))),.list ((cK (cC (eD x))).map bJ),.int .i64 (jC (cC (eD x))),.int .i64 (bR (cC (dF x))),.int .i64 (gY (cC (dF x))),.str (dA (cC (dF x))),.str (fi (cC (dF x))),.list ((cK (cC (dF x))).map bJ),.int .i64 (jC (cC (dF x))),.list ((cu (cw x)).map bJ),.list ((dW x).map mq),.list ((dM x).map .str),.list ((gj (bB x)).map dc),.int .i64 (kp x)]:=by
   obtain⟨op,name,to,val,conds,labels,fields,blocks,line⟩:=x;rw[eI];simp[nD,bA,gR,eD,dF,cw,dW,dM,bB,kp]
  rw[e,ah];have h19:(b5 (nD x)).size=19:=by rw[eI];simp
  generalize nD x=x' at*;generalize cC (eD x)=t at*;generalize cC (dF x)=w at*;generalize cu (cw x)=cc at*;simp[Tryz.f81]at ih cP⊢;simp[aD]at ht hv hc;simp[aV,aW,eI x,aD,ht,hv,hc,aq];refine cP _ _ _ _ _ ?_ _ _ _ _ (fun bo r=>bo=gj (bB x)→Q (out++x'::dh rest) r) (fun Y bo v4' hbo=>?_) _ rfl
  ·intro v rows;simp
  subst hbo;simp[Tryz.f81,w1,w3,w4,←eM,h19,ih]
theorem A7(l:List Sm)(lz:l.length<100000000)(hK:∀x∈l,KH x):KG l:=by
 have cP:=fun k Q hx v v3 X3 v4 X4=>Nr l lz k Q hx l [] [] v v3 X3 v4 X4 rfl rfl hK;unfold KG;rw[ahO (by simp)];simp[Tryz.f81]at cP⊢;refine cP _ (fun out r=>out=dh l→r=some (.ret (.d (.list ((dh l).map b5))),[])) (fun Y out v v3 X3 v4 X4 h=>?_) _ _ _ _ _ rfl;subst h;simp
end Go.Am
end
section
namespace Go.Am
open Go Go.Proofs
variable [Inhabited bV]
set_option maxRecDepth 20000
theorem ait{vs:List Vr}{lp:Bool}{x:Sm}(hf:iZ x=true)(hl:oq x=true)(h:(jS vs lp x).1=0)(hn:yr x)(hB:∀(lp:Bool) (cs:List Ex),cI (bB x)=true→ia (bB x)=true→(fq vs lp cs (bB x)).1=0→nc (bB x)→∀b∈bB x,KG b):KH x:=by
 have hk:(tw (eD x)∧tw (dF x))∧(∀c∈cw x,tw c)∧∀b∈bB x,KG b:=by
  have bn:eE (eD x)=true∧eE (dF x)=true∧ea (cw x)=true∧ia (bB x)=true:=by
   obtain⟨op,name,to,val,conds,labels,fields,blocks,line⟩:=x;simp only[oq,Bool.and_eq_true]at hl;exact⟨hl.1,hl.2.1,hl.2.2.1,hl.2.2.2.2⟩
  have TE:nc (bB x):=by
   obtain⟨op,name,to,val,conds,labels,fields,blocks,line⟩:=x;simp only[yr]at hn;exact hn.2
  obtain⟨l1,l2,l3,l4⟩:=bn;cases MU hf h with
  |asg cE hv hs ft et fv ev ht=>exact⟨⟨oz _ ft l1 et,oz _ fv l2 ev⟩,by simp[cw],by simp[bB]⟩
  |cnd cE cA fc h1 h2 h3 fb hh=>
   exact⟨⟨iR cE,iR cA⟩,zw _ fc l3 (fun c hc=>(jF (tg h2 hh c hc)).1),hB _ _ fb l4 hh TE⟩
  |cas cE fv wv h2 h3 AW fb hh=>exact⟨⟨iR cE,oz _ fv l2 (jF wv).1⟩,by simp[cw],hB _ _ fb l4 hh TE⟩
  |cnt hn cE cA hv hs ha ht fx wx fy wy fz wz fb hh=>
   simp only[cw,ea,Bool.and_eq_true]at l3;refine⟨⟨iR cE,iR cA⟩,?_,hB true [] (by simpa [bB,cI]using fb) l4 (by simp[bB,fq,eU,hh]) TE⟩;intro c hc;simp only[cw,List.mem_cons,List.not_mem_nil,or_false]at hc;rcases hc with rfl|rfl|rfl
   ·exact oz _ fx l3.1 (jF wx).1
   ·exact oz _ fy l3.2.1 (jF wy).1
   ·exact oz _ fz l3.2.2.1 (jF wz).1
  |whl cE fv wv fb hh=>exact⟨⟨iR cE,oz _ fv l2 (jF wv).1⟩,by simp[cw],hB true [] (by simpa [bB,cI]using fb) l4 (by simp[bB,fq,eU,hh]) TE⟩
  |rep cE fv wv fb hh=>exact⟨⟨iR cE,oz _ fv l2 (jF wv).1⟩,by simp[cw],hB true [] (by simpa [bB,cI]using fb) l4 (by simp[bB,fq,eU,hh]) TE⟩
  |ext cE cA nB=>exact⟨⟨iR cE,iR cA⟩,by simp[cw],by simp[bB]⟩
  |ret cE cA=>exact⟨⟨iR cE,iR cA⟩,by simp[cw],by simp[bB]⟩
  |cal hn9 cE cA hv ht fc hl9 hff hh=>exact⟨⟨iR cE,iR cA⟩,zw _ fc l3 (Dz _ _ [] hl9 hh),by simp[bB]⟩
 have hlen:(cw x).length<100000000∧(bB x).length<100000000:=by
  obtain⟨op,name,to,val,conds,labels,fields,blocks,line⟩:=x;simp only[yr]at hn;exact⟨hn.1.2.2.1.1,hn.1.2.2.2.2.2⟩
 obtain⟨⟨k1,k2⟩,k3,k4⟩:=hk;refine⟨?_,?_,?_,hlen.2,k4⟩
 ·exact k1
 ·exact k2
 ·exact VW _ hlen.1 k3
mutual
theorem ae5{vs:List Vr}:∀(x:Sm)(lp:Bool),iZ x=true→oq x=true→(jS vs lp x).1=0→yr x→KH x
 | .mk op name to val conds labels fields blocks line,lp,hf,hl,h,hn=>ait hf hl h hn (fun lp cs h1 h2 h3 h4=>A8 blocks lp cs h1 h2 h3 h4)
theorem wq{vs:List Vr}:∀(l:List Sm)(lp:Bool),ej l=true→iM l=true→(eu vs lp l).1=0→lh l→∀x∈l,KH x
 |[],_,_,_,_,_,x,hx=>absurd hx (List.not_mem_nil)
 |y::r,lp,hf,hl,h,hn,x,hx=>by
  simp only[ej,Bool.and_eq_true]at hf;simp only[iM,Bool.and_eq_true]at hl;simp only[eu]at h;simp only[lh]at hn;obtain⟨h1,h2⟩:=bX.1 h;rcases List.mem_cons.1 hx with h0|hx
  ·rw[h0];exact ae5 y lp hf.1 hl.1 h1 hn.1
  ·exact wq r lp hf.2 hl.2 h2 hn.2 x hx
theorem A8{vs:List Vr}:∀(l:List (List Sm))(lp:Bool)(cs:List Ex),cI l=true→ia l=true→(fq vs lp cs l).1=0→nc l→∀b∈l,KG b
 |[],_,_,_,_,_,_,b,hb=>absurd hb (List.not_mem_nil)
 |y::r,lp,[],hf,hl,h,hn,b,hb=>by
  simp only[cI,Bool.and_eq_true]at hf;simp only[ia,Bool.and_eq_true]at hl;simp only[fq]at h;simp only[nc]at hn;obtain⟨h1,h2⟩:=bX.1 h;rcases List.mem_cons.1 hb with h0|hb
  ·rw[h0];exact A7 y hn.1.1 (wq y lp hf.1 hl.1 h1 hn.1.2)
  ·exact A8 r lp [] hf.2 hl.2 h2 hn.2 b hb
 |y::r,lp,c::cs,hf,hl,h,hn,b,hb=>by
  simp only[cI,Bool.and_eq_true]at hf;simp only[ia,Bool.and_eq_true]at hl;simp only[fq]at h;simp only[nc]at hn;obtain⟨h1,h2⟩:=bX.1 h;obtain⟨h2,h3⟩:=bX.1 h2;rcases List.mem_cons.1 hb with h0|hb
  ·rw[h0];exact A7 y hn.1.1 (wq y lp hf.1 hl.1 h2 hn.1.2)
  ·exact A8 r lp cs hf.2 hl.2 h3 hn.2 b hb
end
theorem aaa{p:Pg}{lp:Bool}(lz:p.body.length<100000000)(hf:ej p.body=true)(hl:iM p.body=true)(h:(eu p.vars lp p.body).1=0)(hn:lh p.body):ai ctx 37 [.d (mS p)] []=some (.ret (.d (mS (uR p))),[]):=by
 have hs:=A7 p.body lz (wq p.body lp hf hl h hn);unfold KG at hs;rw[ahB (by simp)];simp[Tryz.f37,hs,uR]
structure yI(p:Pg):Prop where
 fit:pe p=true
 lit:iM p.body=true
 Ns:(r9 p).1=0
 lw:dH (mS p)<10000000
theorem wu{p:Pg}(h:pe p=true):p.vars.length≤64∧(∀v∈p.vars,dr v=true)∧ej p.body=true:=by
 simp only[pe,Bool.and_eq_true,List.all_eq_true,decide_eq_true_eq]at h;exact h.2
theorem uc{p:Pg}(h:(r9 p).1=0):(eu p.vars false p.body).1=0:=(bX.1 h).2
theorem yI.fo{p:Pg}(h:yI p):yI (uR p):=by
 have hb:=pk false p.body (wu h.fit).2.2 h.lit (uc h.Ns);refine⟨?_,hb.2.1,bX.2 ⟨(bX.1 h.Ns).1,hb.2.2⟩,?_⟩
 ·have:=h.fit;simp only[pe,uR,Bool.and_eq_true]at this⊢;exact⟨this.1,this.2.1,this.2.2.1,hb.1⟩
 ·have h0:=CP p.body;have:=h.lw;simp only[uR,mS,dH,bG]at this⊢;rw[←rl]at this⊢;omega
theorem ae6{p:Pg}(h:yI p)(VR:bf (dh p.body)≤64):Jf false (ag p.vars (dh p.body) (cd p.vars)).1:=by
 have hg:=(Tq h.fit h.lit h.Ns VR).1;intro x hx;by_cases h0:0≤x.a
 ·exact⟨fun _=>h0,fun _=>.inl h0⟩
 ·refine⟨fun qI=>?_,fun h9=>?_⟩
  ·have:=(hg.out x hx (.inr qI) (by omega)).1;omega
  ·rcases (hg.out x hx (.inl h9) (by omega)).2 with e|⟨e,_⟩
   ·exact .inr (.inl e)
   ·cases e
theorem IL{p:Pg}(h:yI p):ai ctx 37 [.d (mS p)] []=some (.ret (.d (mS (uR p))),[]):=by
 obtain⟨h1,h2,h3⟩:=HI (p:=p) (by have:=h.lw;simp only[mS]at this;omega);exact aaa (lp:=false) h1 (wu h.fit).2.2 h.lit (uc h.Ns) h2
def EX:Option (List ar×Int×Int)→D
 |none=>.agg [.list [],.int .i64 0,.int .i64 0]
 |some g=>.agg [.list (g.1.map da),.int .i64 g.2.1,.int .i64 g.2.2]
def Zb:Option (List ar×Int×Int)→Int
 |none=>13
 |some _=>0
theorem A9{p:Pg}(h:yI p):ai ctx 20 [.d (mS p)] []=some (.ret (.aU [.d (EX (nf p)),.d (.int .i64 (Zb (nf p)))]),[]):=by
 obtain⟨f1,f2,f3⟩:=wu h.fit;obtain⟨w1,w2,w3⟩:=Qb p h.lw;have hb:=pk false p.body f3 h.lit (uc h.Ns);have hK:=Z6 (p:=p) (by omega) f2 hb.1 hb.2.2;have DP:=wm p.vars (fun v hv=>nF (f2 v hv));have V9:=yH p.vars [] 0 (by omega) (bX.1 h.Ns).1;have aO:=mV (vs:=p.vars) (dh p.body) (cd p.vars);have q1:=w1 (cd p.vars);have hM:=hK ⟨[],cd p.vars,0,[],[]⟩ (Int.le_refl _) DP ⟨by simp,by simp⟩ (by simp) (by simp only[List.length_nil];omega) (by simp only;omega) (by simp only[List.length_nil];omega);have e0:(0:Nat)+(ag p.vars (dh p.body) (cd p.vars)).1.length=(ag p.vars (dh p.body) (cd p.vars)).1.length:=by omega
 have nt:=pt (-2) (ag p.vars (dh p.body) (cd p.vars)).1 0;have hR:=VQ p (by omega) f2 (IL h) _ hM (by simp[Mk.aM];omega) (by simp[Mk.aM];omega) (by
  intro i hi;simp only[Mk.aM,List.nil_append,List.length_append,List.length_nil,mh]at hi⊢;obtain⟨j,e,hj⟩:=yD _ _ _ i hi;exact⟨j,e,by omega⟩)
 rw[hR];simp only[Mk.aM,Mk.cx,Mk.put,List.nil_append,List.length_append,List.length_nil,mh,List.length_cons,CA,Nat.zero_add];unfold nf;simp only
 by_cases hc:4096<(ag p.vars (dh p.body) (cd p.vars)).1.length+1∨64<bf (dh p.body)
 ·rw[if_pos hc,if_pos (by omega)];rfl
 ·rw[if_neg hc,if_neg (by omega),Z8 (ae6 h (by omega))];rfl
end Go.Am
end
section
namespace Go.Am
open Go Go.Proofs
variable [Inhabited bV]
set_option maxRecDepth 100000
def TF:Tx:=[80,82,79,71,82,65,77,32,112,32,86,65,82,32,97,32,58,32,73,78,84,59,32,69,78,68,95,86,65,82,32,97,32,58,61,32,97,32,43,32,49,59,32,69,78,68,95,80,82,79,71,82,65,77]
def IM:List eZ:=[⟨2,[80,82,79,71,82,65,77],0,1,1⟩,⟨1,[112],0,1,9⟩,⟨2,[86,65,82],0,1,11⟩,⟨1,[97],0,1,15⟩,⟨4,[58],0,1,17⟩,⟨2,[73,78,84],0,1,19⟩,⟨4,[59],0,1,22⟩,⟨2,[69,78,68,95,86,65,82],0,1,24⟩,
 ⟨1,[97],0,1,32⟩,⟨4,[58,61],0,1,34⟩,⟨1,[97],0,1,37⟩,⟨4,[43],0,1,39⟩,⟨3,[49],1,1,41⟩,⟨4,[59],0,1,42⟩,⟨2,[69,78,68,95,80,82,79,71,82,65,77],0,1,44⟩,⟨0,[],0,1,55⟩]
theorem Qc:Dg TF=(IM,0,⟨0,[],0,0,0⟩):=by kernel_rfl
def ud:Pg:=⟨[112],[⟨[97],1,0,false,0,0,0,1⟩],[.mk 1 [] (.mk 3 0 [97] [] [] 1) (.mk 8 0 [] [] [.mk 3 0 [97] [] [] 1,.mk 1 1 [] [] [] 1] 1) [] [] [] [] 1]⟩
theorem TG:ai ctx 119 [.ptr 0 0 0] [.box [.d (.list (IM.map pb)),.d (.int .i64 0),.d (.int .i64 0),.vec 1 0 0 0],.vec 8 []]=
 some (.ret (.agg [.d (.str ud.name),.vec 1 1 0 (ud.vars.map bF).length,.d (.list (ud.body.map b5))]),[(0,.box [.d (.list (IM.map pb)),.d (.int .i64 15),.d (.int .i64 0),.vec 1 1 0 (ud.vars.map bF).length]),(1,.vec 8 (ud.vars.map bF))]):=bx 300 (by kernel_rfl)
theorem aab:yI ud:=⟨by kernel_rfl,by kernel_rfl,by kernel_rfl,by decide+kernel⟩
theorem VX:nf ud=some ([ins 11 0 0 0 0,ins 2 0 0 0 0,ins 1 0 0 1 0,ins 8 0 8 0 0,ins 6 0 0 0 0,ins 15 0 0 0 0],1,1):=by kernel_rfl
theorem ae7:ai ctx 34 [] []=some (.ret (.d (.bool true)),[]):=by
 have hP:=SO Qc TG;have hc:=A9 aab;rw[VX]at hc;simp only[mS]at hc;generalize ud.name=a at*;generalize ud.body.map b5=c at*;generalize ud.vars.map bF=R at*;rw[ahA (by simp)];simp[TF]at hP;simp[EX,Zb,ins]at hc;simp[Tryz.f34,hP,hc]
end Go.Am
end
section
namespace Go.Am
open Go Go.Proofs
variable [Inhabited bV]
set_option maxRecDepth 20000
theorem ql{P:Program}{n:Nat}{t:TypeId}{d:D}(h:typed P n t d):∃m,n=m+1:=by
 cases n with
 |zero=>exact h.elim
 |succ m=>exact⟨m,rfl⟩
theorem kT{P:Program}{n:Nat}{t:TypeId}{d:D}(ht:P.underlying t=some (.int .i64))(h:typed P n t d):∃z,d=.int .i64 z∧Dq z=true:=by
 obtain⟨m,rfl⟩:=ql h;obtain⟨z,rfl,hw⟩:=SJ ht h;refine⟨z,rfl,?_⟩;have h2:aY z:=by
  simp[Lit.wf]at hw;unfold aY;have e1:IntKind.i64.min= -9223372036854775808:=by decide
  have e2:IntKind.i64.max=9223372036854775807:=by decide
  simp only[e1,e2]at hw;omega
 unfold aY at h2;unfold Dq;simp only[decide_eq_true_eq];exact h2
theorem aac{P:Program}{n:Nat}{t:TypeId}{d:D}(ht:P.underlying t=some .bool)(h:typed P n t d):∃b,d=.bool b:=by
 obtain⟨m,rfl⟩:=ql h;exact PO ht h
theorem nK{P:Program}{n:Nat}{t:TypeId}{d:D}(ht:P.underlying t=some .string)(h:typed P n t d):∃s,d=.str s:=by
 obtain⟨m,rfl⟩:=ql h;obtain⟨s,rfl,_⟩:=HA ht h;exact⟨s,rfl⟩
theorem kM{P:Program}{n:Nat}{t e:TypeId}{d:D}(ht:P.underlying t=some (.slice e))(h:typed P n t d):∃xs m,m<n∧d=.list xs∧∀x∈xs,typed P m e x:=by
 obtain⟨m,rfl⟩:=ql h;obtain⟨xs,rfl,_,hx⟩:=Jp ht h;exact⟨xs,m,by omega,rfl,hx⟩
theorem tA{P:Program}{n:Nat}{t:TypeId}{d:D}{fs:Array Field}(ht:P.underlying t=some (.struct fs))(h:typed P n t d):∃ds m,m<n∧d=.agg ds∧zh P m fs.toList ds:=by
 obtain⟨m,rfl⟩:=ql h;obtain⟨ds,rfl,hf⟩:=HD ht h;exact⟨ds,m,by omega,rfl,hf⟩
theorem im{α:Type}{f:α→D}{Q:α→Prop}:∀{xs:List D},(∀x∈xs,∃r,x=f r∧Q r)→∃rs:List α,xs=rs.map f∧∀r∈rs,Q r
 |[],_=>⟨[],rfl,fun r h=>by cases h⟩
 |x::xs,h=>by
  obtain⟨r,rfl,hr⟩:=h x (by simp);obtain⟨rs,rfl,lC⟩:=im (xs:=xs) (fun y hy=>h y (by simp[hy]));exact⟨r::rs,rfl,fun y hy=>by
   rcases List.mem_cons.1 hy with rfl|hy
   ·exact hr
   ·exact lC y hy⟩
theorem Ba:∀{l:List Ex},(∀x∈l,eE x=true)→ea l=true
 |[],_=>by simp[ea]
 |x::r,h=>by simp only[ea,Bool.and_eq_true];exact⟨h x (by simp),Ba fun y hy=>h y (by simp[hy])⟩
theorem Bb:∀{l:List Sm},(∀x∈l,oq x=true)→iM l=true
 |[],_=>by simp[iM]
 |x::r,h=>by simp only[iM,Bool.and_eq_true];exact⟨h x (by simp),Bb fun y hy=>h y (by simp[hy])⟩
theorem IN:∀{l:List (List Sm)},(∀x∈l,iM x=true)→ia l=true
 |[],_=>by simp[ia]
 |x::r,h=>by simp only[ia,Bool.and_eq_true];exact⟨h x (by simp),IN fun y hy=>h y (by simp[hy])⟩
theorem Bc:∀(n:Nat)(x:D),typed Tryz.prog n 136 x→∃e:Ex,x=bJ e∧eE e=true:=by
 intro n;induction n using Nat.strongRecOn with
 |ind n ih=>
 intro x h;obtain⟨ds,m,hm,rfl,y0,d0,h0,⟨y1,d1,h1,⟨y2,d2,h2,⟨y3,d3,h3,⟨y4,d4,h4,⟨y5,d5,h5,rfl,rfl⟩,rfl⟩,rfl⟩,rfl⟩,rfl⟩,rfl⟩:=tA Tryz.underlying136 h;obtain⟨op,rfl,_⟩:=kT Tryz.underlying3 h0;obtain⟨k,rfl,hk⟩:=kT Tryz.underlying2 h1;obtain⟨name,rfl⟩:=nK Tryz.underlying9 h2;obtain⟨field,rfl⟩:=nK Tryz.underlying9 h3;obtain⟨xs,q,hq,rfl,mK⟩:=kM Tryz.underlying134 h4;obtain⟨line,rfl,_⟩:=kT Tryz.underlying3 h5;obtain⟨l,rfl,hl⟩:=im (f:=bJ) (Q:=fun e=>eE e=true) (fun x hx=>ih q (by omega) x (mK x hx));exact⟨.mk op k name field l line,by rw[Fp];simp[uE,rk,D.cells],by
  simp only[eE,Bool.and_eq_true];exact⟨hk,Ba hl⟩⟩
theorem Qd{n:Nat}{x:D}(h:typed Tryz.prog n 45 x):∃l:List Int,x=mq l∧l.all Dq=true:=by
 obtain⟨xs,q,hq,rfl,mK⟩:=kM Tryz.underlying45 h;obtain⟨l,rfl,hl⟩:=im (f:=fun n=>D.int .i64 n) (Q:=fun e=>Dq e=true) (fun x hx=>kT Tryz.underlying2 (mK x hx));exact⟨l,rfl,List.all_eq_true.2 hl⟩
theorem VY:∀(n:Nat)(x:D),typed Tryz.prog n 141 x→∃e:Sm,x=b5 e∧oq e=true:=by
 intro n;induction n using Nat.strongRecOn with
 |ind n ih=>
 intro x h;obtain⟨ds,m,hm,rfl,y0,d0,h0,⟨y1,d1,h1,⟨y2,d2,h2,⟨y3,d3,h3,⟨y4,d4,h4,⟨y5,d5,h5,⟨y6,d6,h6,⟨y7,d7,h7,⟨y8,d8,h8,rfl,rfl⟩,rfl⟩,rfl⟩,rfl⟩,rfl⟩,rfl⟩,rfl⟩,rfl⟩,rfl⟩:=tA Tryz.underlying141 h;obtain⟨op,rfl,_⟩:=kT Tryz.underlying3 h0;obtain⟨name,rfl⟩:=nK Tryz.underlying9 h1;obtain⟨to,rfl,cE⟩:=Bc _ _ h2;obtain⟨val,rfl,cA⟩:=Bc _ _ h3;obtain⟨x4,q4,hq4,rfl,hx4⟩:=kM Tryz.underlying134 h4;obtain⟨x5,q5,hq5,rfl,hx5⟩:=kM Tryz.underlying137 h5;obtain⟨x6,q6,hq6,rfl,hx6⟩:=kM Tryz.underlying138 h6;obtain⟨x7,q7,hq7,rfl,hx7⟩:=kM Tryz.underlying139 h7;obtain⟨line,rfl,_⟩:=kT Tryz.underlying3 h8;obtain⟨conds,rfl,eK⟩:=im (f:=bJ) (Q:=fun e=>eE e=true) (fun x hx=>Bc _ _ (hx4 x hx));obtain⟨labels,rfl,AW⟩:=im (f:=mq) (Q:=fun l=>l.all Dq=true) (fun x hx=>Qd (hx5 x hx));obtain⟨fields,rfl⟩:=tZ (f:=D.str) (fun x hx=>nK Tryz.underlying9 (hx6 x hx));obtain⟨blocks,rfl,gx⟩:=im (f:=fun b:List Sm=>D.list (b.map b5)) (Q:=fun b=>iM b=true) (fun x hx=>by
  obtain⟨xs,q,hq,rfl,mK⟩:=kM Tryz.underlying23 (hx7 x hx);obtain⟨l,rfl,hl⟩:=im (f:=b5) (Q:=fun e=>oq e=true) (fun x hx=>ih q (by omega) x (mK x hx));exact⟨l,rfl,Bb hl⟩)
 refine⟨.mk op name to val conds labels fields blocks line,?_,?_⟩
 ·simp[b5,rk,yY,D.cells,Fp]
 ·simp only[oq,Bool.and_eq_true];exact⟨cE,cA,Ba eK,List.all_eq_true.2 AW,IN gx⟩
theorem VZ{n:Nat}{x:D}(h:typed Tryz.prog n 71 x):∃v:Vr,x=bF v:=by
 obtain⟨ds,m,hm,rfl,y0,d0,h0,⟨y1,d1,h1,⟨y2,d2,h2,⟨y3,d3,h3,⟨y4,d4,h4,⟨y5,d5,h5,⟨y6,d6,h6,⟨y7,d7,h7,rfl,rfl⟩,rfl⟩,rfl⟩,rfl⟩,rfl⟩,rfl⟩,rfl⟩,rfl⟩:=tA Tryz.underlying71 h;obtain⟨name,rfl⟩:=nK Tryz.underlying9 h0;obtain⟨ty,rfl,_⟩:=kT Tryz.underlying3 h1;obtain⟨sec,rfl,_⟩:=kT Tryz.underlying3 h2;obtain⟨arr,rfl⟩:=aac Tryz.underlying4 h3;obtain⟨lo,rfl,_⟩:=kT Tryz.underlying2 h4;obtain⟨hi,rfl,_⟩:=kT Tryz.underlying2 h5;obtain⟨init,rfl,_⟩:=kT Tryz.underlying2 h6;obtain⟨line,rfl,_⟩:=kT Tryz.underlying3 h7;exact⟨⟨name,ty,sec,arr,lo,hi,init,line⟩,rfl⟩
theorem V0{n:Nat}{x:D}(h:typed Tryz.prog n 25 x):∃p:Pg,x=.agg [.str p.name,.list (p.vars.map bF),.list (p.body.map b5)]∧iM p.body=true:=by
 obtain⟨ds,m,hm,rfl,y0,d0,h0,⟨y1,d1,h1,⟨y2,d2,h2,rfl,rfl⟩,rfl⟩,rfl⟩:=tA Tryz.underlying25 h;obtain⟨name,rfl⟩:=nK Tryz.underlying9 h0;obtain⟨x1,q1,hq1,rfl,F8⟩:=kM Tryz.underlying22 h1;obtain⟨x2,q2,hq2,rfl,hx2⟩:=kM Tryz.underlying23 h2;obtain⟨vars,rfl⟩:=tZ (f:=bF) (fun x hx=>VZ (F8 x hx));obtain⟨body,rfl,aiu⟩:=im (f:=b5) (Q:=fun e=>oq e=true) (fun x hx=>VY _ _ (hx2 x hx));exact⟨⟨name,vars,body⟩,rfl,Bb aiu⟩
theorem CS(s:Tx)(l:List Vr)(hl:l.length<1000000)(k:Kt)(RF:Option Vr→bP)
 (h1:∀w v,k .ret ⟨25,aC,[(4,true,.ptr 300 v 0),(5,true,.d (.bool true))],[⟨300,v,gZ w⟩]⟩=RF (some w))
 (h2:∀(v:Nat)(b c:AV),k (.exit 0) ⟨25,aC,[(0,true,.d (.list (l.map bF))),(1,true,.d (.str s)),(4,true,.ptr 300 v 0),(6,true,b),(10,true,c)],[⟨300,v,gZ qJ⟩]⟩=RF none):∀(rest pre:List Vr)(v:Nat),l=pre++rest→
 aI ctx 47 (.loop (Code.at (aX Tryz.f47) [1,0,1,0,0])) ⟨25,aC,[(0,true,.d (.list (l.map bF))),(1,true,.d (.str s)),(4,true,.ptr 300 v 0),(6,true,.d (.int .i64 pre.length))],[⟨300,v,gZ qJ⟩]⟩ k=RF (bg rest s)
 |[],pre,v,hd=>by
  have cm:pre.length=l.length:=by rw[hd];simp
  simp only[gZ,qJ]at h2;rw[cm,ah];simp[Tryz.f47,h2,bg,qJ]
 |x::rest,pre,v,hd=>by
  have aV:pre.length<l.length:=by rw[hd];simp
  have aW:l[pre.length]=x:=by simp[hd]
  have ih:=CS s l hl k RF h1 h2 rest (pre++[x]) v (by simp[hd]);have w1:IntKind.i64.wrap ((pre.length:Int)+1)=(pre.length:Int)+1:=aw (by unfold aY;omega);have h1:=h1 x;simp only[gZ]at h1;rw[ah];by_cases hq:x.name=s
  ·simp only[hq]at h1;simp[Tryz.f47,qJ];simp[aV,aW,bF,ep,hq,h1,bg]
  ·simp[Tryz.f47,qJ]at ih⊢;simp[aV,aW,bF,ep,hq,w1,ih,bg]
theorem mi{vs:List Vr}(hl:vs.length<1000000)(s:Tx):ai ctx 47 [.d (.list (vs.map bF)),.d (.str s)] []=some (.ret (.aU [.d (bF (fV vs s)),.d (.bool (bg vs s).isSome)]),[]):=by
 have h:=fun k RF h1 h2 v=>CS s vs hl k RF h1 h2 vs [] v rfl;rw[ahG (by simp)];unfold fV;simp[Tryz.f47,qJ]at h⊢;rw[h _ (fun o=>some (.ret (.aU [.d (bF (o.getD qJ)),.d (.bool o.isSome)]),[]))]
 ·simp[qJ]
 ·intro w v;simp[bF,ep]
 ·intro v b c;simp[bF,ep,qJ]
theorem Nt(k:Int):ai ctx 73 [.d (.int .i64 k)] []=some (.ret (.d (.list ((bz k).map cU))),[]):=by
 by_cases h:10≤k∧k≤31
 ·have:k=10∨k=11∨k=12∨k=13∨k=14∨k=15∨k=16∨k=17∨k=18∨k=19∨k=20∨k=21∨k=22∨k=23∨k=24∨k=25∨k=26∨k=27∨k=28∨k=29∨k=30∨k=31:=by omega
  rcases this with h|h|h|h|h|h|h|h|h|h|h|h|h|h|h|h|h|h|h|h|h|h<;>subst h
  ·exact aoy
  ·exact aoz
  ·exact aoA
  ·exact aoB
  ·exact aoC
  ·exact aoD
  ·exact aoE
  ·exact aoF
  ·exact aoG
  ·exact aoH
  ·exact aoI
  ·exact aoJ
  ·exact aoK
  ·exact aoL
  ·exact aoM
  ·exact aoN
  ·exact aoO
  ·exact aoP
  ·exact aoQ
  ·exact aoR
  ·exact aoS
  ·exact aoT
 ·have e1:bz k=[]:=by
   have e:∀n:Int,10≤n→n≤31→¬n=k:=fun n a b c=>h (by omega);unfold bz Hj;simp only[q8];rw[if_neg (e _ (by decide) (by decide)),if_neg (e _ (by decide) (by decide)),if_neg (e _ (by decide) (by decide)),if_neg (e _ (by decide) (by decide)),if_neg (e _ (by decide) (by decide)),if_neg (e _ (by decide) (by decide)),if_neg (e _ (by decide) (by decide)),if_neg (e _ (by decide) (by decide)),if_neg (e _ (by decide) (by decide)),if_neg (e _ (by decide) (by decide)),if_neg (e _ (by decide) (by decide)),if_neg (e _ (by decide) (by decide)),if_neg (e _ (by decide) (by decide)),if_neg (e _ (by decide) (by decide)),if_neg (e _ (by decide) (by decide)),if_neg (e _ (by decide) (by decide)),if_neg (e _ (by decide) (by decide)),if_neg (e _ (by decide) (by decide)),if_neg (e _ (by decide) (by decide)),if_neg (e _ (by decide) (by decide)),if_neg (e _ (by decide) (by decide))]
  rw[e1];rw[ahL (by simp)];by_cases h1:k<10
  ·simp[Tryz.f73,h1]
  ·have h2:31<k:=by omega
   simp[Tryz.f73,h1,h2]
theorem V1{w:Vr}(hI:w.arr=true→0≤w.lo∧w.lo≤w.hi∧w.hi≤255):ai ctx 48 [.d (.agg (ep w))] []=some (.ret (.d (.int .i64 (bK w))),[]):=by
 have hp:=Nt w.ty;rw[ahH (by simp)];unfold bK;cases ha:w.arr with
 |true=>
  have h3:=hI ha;have w1:IntKind.i64.wrap (w.hi-w.lo)=w.hi-w.lo:=aw (by unfold aY;omega);have w2:IntKind.i64.wrap (w.hi-w.lo+1)=w.hi-w.lo+1:=aw (by unfold aY;omega);simp[Tryz.f48,ep,ha,w1,w2]
 |false=>
  by_cases h2:2<w.ty
  ·simp[Tryz.f48,ep,ha,h2,hp]
  ·simp[Tryz.f48,ep,ha,h2]
def Ac(p:Pn):aE:=.box [.d (.str p.name),.d (.int .i64 p.ty),.d (.bool p.J5)]
theorem EY(s:Tx)(l:List Pn)(hl:l.length<1000000)(k:Kt)(RF:Option Pn→bP)
 (h1:∀w v,k .ret ⟨32,aC,[(4,true,.ptr 300 v 0),(5,true,.d (.bool true))],[⟨300,v,Ac w⟩]⟩=RF (some w))
 (h2:∀(v:Nat)(b c:AV),k (.exit 0) ⟨32,aC,[(1,true,.d (.str s)),(4,true,.ptr 300 v 0),(6,true,.d (.list (l.map cU))),(7,true,b),(13,true,c)],[⟨300,v,Ac s5⟩]⟩=RF none):∀(rest pre:List Pn)(v:Nat),l=pre++rest→
 aI ctx 200 (.loop (Code.at (aX Tryz.f200) [1,1,0,1,0,0])) ⟨32,aC,[(1,true,.d (.str s)),(4,true,.ptr 300 v 0),(6,true,.d (.list (l.map cU))),(7,true,.d (.int .i64 pre.length))],[⟨300,v,Ac s5⟩]⟩ k=RF (vW rest s)
 |[],pre,v,hd=>by
  have cm:pre.length=l.length:=by rw[hd];simp
  simp only[Ac,s5]at h2;rw[cm,ah];simp[Tryz.f200,Ac,h2,vW,s5]
 |x::rest,pre,v,hd=>by
  have aV:pre.length<l.length:=by rw[hd];simp
  have aW:l[pre.length]=x:=by simp[hd]
  have ih:=EY s l hl k RF h1 h2 rest (pre++[x]) v (by simp[hd]);have w1:IntKind.i64.wrap ((pre.length:Int)+1)=(pre.length:Int)+1:=aw (by unfold aY;omega);have h1:=h1 x;simp only[Ac]at h1;rw[ah];by_cases hs:s=[]
  ·simp only[hs]at ih⊢;simp[Tryz.f200,Ac,s5]at ih⊢;simp[aV,w1,ih,vW]
  ·by_cases hq:x.name=s
   ·simp only[hq]at h1;simp[Tryz.f200,Ac,s5];simp[aV,aW,cU,hq,hs,h1,vW]
   ·simp[Tryz.f200,Ac,s5]at ih⊢;simp[aV,aW,cU,hq,hs,w1,ih,vW]
theorem TH(q:Int)(s:Tx):ai ctx 200 [.d (.int .i64 q),.d (.str s)] []=some (.ret (.aU [.d (cU (fP q s)),.d (.bool (kJ q s).isSome)]),[]):=by
 have hl:=yo q;have hp:=Nt q;have h:=fun k RF h1 h2 v=>EY s (bz q) (by omega) k RF h1 h2 (bz q) [] v rfl;rw[acQ (by simp)];unfold fP kJ;simp[Tryz.f200,Ac,s5]at h⊢;simp[hp];rw[h _ (fun o=>some (.ret (.aU [.d (cU (o.getD s5)),.d (.bool o.isSome)]),[]))]
 ·simp[s5]
 ·intro w v;simp[cU]
 ·intro v b c;simp[cU,s5]
def ef(t:Te):AV:=.aU [.d (.int .i64 t.t),.d (.agg [.int .i64 t.e,.int .i64 t.line])]
def RT(vs:List Vr)(x:Ex):Prop:=ai ctx 130 [.d (.list (vs.map bF)),.d (.agg [.int .i64 (bR x),.int .i64 (gY x),.str (dA x),.str (fi x),.list ((cK x).map bJ),.int .i64 (jC x)])] []=some (.ret (ef (aF vs x)),[])
def dp(e:EL):AV:=.d (.agg [.int .i64 e.1,.int .i64 e.2])
def CT(vs:List Vr)(x:Ex)(t:Int):EL:=if (aF vs x).e=0∧(aF vs x).t≠t then (10,jC x)else ((aF vs x).e,(aF vs x).line)
theorem Be{vs:List Vr}{x:Ex}(h:RT vs x):ai ctx 201 [.d (.list (vs.map bF)),.d (.agg [.int .i64 (bR x),.int .i64 (gY x),.str (dA x),.str (fi x),.list ((cK x).map bJ),.int .i64 (jC x)])] []=some (.ret (dp (CT vs x 1)),[]):=by
 unfold RT at h;rw[acR (by simp)];unfold CT;generalize aF vs x=T at*;by_cases h0:T.e=0
 ·by_cases h1:T.t=1
  ·simp[Tryz.f201,ef,dp,h0,h1,h]
  ·simp[Tryz.f201,ef,dp,h0,h1,h]
 ·simp[Tryz.f201,ef,dp,h0,h]
theorem pv{vs:List Vr}{x:Ex}(t:Int)(h:RT vs x):ai ctx 131 [.d (.list (vs.map bF)),.d (.agg [.int .i64 (bR x),.int .i64 (gY x),.str (dA x),.str (fi x),.list ((cK x).map bJ),.int .i64 (jC x)]),.d (.int .i64 t)] []=some (.ret (dp (CT vs x t)),[]):=by
 unfold RT at h;rw[acz (by simp)];unfold CT;generalize aF vs x=T at*;by_cases h0:T.e=0
 ·by_cases h1:T.t=t
  ·simp[Tryz.f131,ef,dp,h0,h1,h]
  ·simp[Tryz.f131,ef,dp,h0,h1,h]
 ·simp[Tryz.f131,ef,dp,h0,h]
section
variable {vs:List Vr} (hl:vs.length<1000000) (ee:∀v∈vs,dr v=true)
theorem ae8{op nn line:Int}{name field:Tx}{sub:List Ex}(h:op=1∨op=2):RT vs (.mk op nn name field sub line):=by
 unfold RT;rw[er (by simp)];have e:aF vs (.mk op nn name field sub line)=eJ op:=by
  unfold aF;rw[if_pos h]
 rw[e];rcases h with h|h<;>subst h<;>simp[Tryz.f130,ef,eJ]
include hl in
theorem TI{nn line:Int}{name field:Tx}{sub:List Ex}:RT vs (.mk 5 nn name field sub line):=by
 unfold RT;have hf:=mi (vs:=vs) hl name;rw[er (by simp)];have e:aF vs (.mk 5 nn name field sub line)=(match bg vs name with
  |none=>cy 9 line
  |some v=>(if v.ty≤2 then cy 10 line else match kJ v.ty field with
   |none=>cy 9 line
   |some p=>eJ p.ty)):=by
  unfold aF;rw[if_neg (by decide),if_pos (by decide)];rfl
 rw[e];cases hv:bg vs name with
 |none=>
  simp[hv,fV,bF,ep,qJ]at hf;simp[Tryz.f130,ef,cy,hf,aq]
 |some v=>
  have hp:=TH v.ty field;simp[hv,fV,bF,ep]at hf;by_cases h2:v.ty≤2
  ·simp[Tryz.f130,ef,cy,hf,aq,h2]
  ·cases hq:kJ v.ty field with
   |none=>
    simp[hq,fP,cU,s5]at hp;simp[Tryz.f130,ef,cy,hf,aq,h2,hp,hq]
   |some p=>
    simp[hq,fP,cU]at hp;simp[Tryz.f130,ef,eJ,hf,aq,h2,hp,hq]
include hl in
theorem aad{nn line:Int}{name field:Tx}{v:Vr}{y:Ex}{T:Te}(hv:bg vs name=some v)(ha:v.arr=true)(h2:¬2<v.ty)(hr:RT vs y)(hT:aF vs y=T)(h0:T.e=0)(h1:T.t=1):ai ctx 130 [.d (.list (vs.map bF)),.d (.agg [.int .i64 4,.int .i64 nn,.str name,.str field,.list ([y].map bJ),.int .i64 line])] []=some (.ret (ef (eJ v.ty)),[]):=by
 have hf:=mi (vs:=vs) hl name;have hi:=Be hr;unfold CT dp at hi;rw[hT]at hi;clear hT hr;rw[er (by simp)];simp[hv,fV,bF,ep]at hf;simp[h0,h1]at hi;simp[Tryz.f130,ef,eJ,cy,hf,aq,ha,h2,aD,hi,h0,h1]
include hl in
theorem aae{nn line:Int}{name field:Tx}{v:Vr}{y:Ex}{T:Te}(hv:bg vs name=some v)(ha:v.arr=true)(h2:¬2<v.ty)(hr:RT vs y)(hT:aF vs y=T)(h0:T.e=0)(h1:¬T.t=1):ai ctx 130 [.d (.list (vs.map bF)),.d (.agg [.int .i64 4,.int .i64 nn,.str name,.str field,.list ([y].map bJ),.int .i64 line])] []=some (.ret (ef (cy 10 (jC y))),[]):=by
 have hf:=mi (vs:=vs) hl name;have hi:=Be hr;unfold CT dp at hi;rw[hT]at hi;clear hT hr;rw[er (by simp)];simp[hv,fV,bF,ep]at hf;simp[h0,h1]at hi;simp[Tryz.f130,ef,eJ,cy,hf,aq,ha,h2,aD,hi,h0,h1]
include hl in
theorem aaf{nn line:Int}{name field:Tx}{v:Vr}{y:Ex}{T:Te}(hv:bg vs name=some v)(ha:v.arr=true)(h2:¬2<v.ty)(hr:RT vs y)(hT:aF vs y=T)(h0:¬T.e=0):ai ctx 130 [.d (.list (vs.map bF)),.d (.agg [.int .i64 4,.int .i64 nn,.str name,.str field,.list ([y].map bJ),.int .i64 line])] []=some (.ret (ef (cy T.e T.line)),[]):=by
 have hf:=mi (vs:=vs) hl name;have hi:=Be hr;unfold CT dp at hi;rw[hT]at hi;clear hT hr;rw[er (by simp)];simp[hv,fV,bF,ep]at hf;simp[h0]at hi;simp[Tryz.f130,ef,eJ,cy,hf,aq,ha,h2,aD,hi,h0]
include hl in
theorem aag{op nn line:Int}{name field:Tx}{sub:List Ex}(h:op=3∨op=4)(hs:op=4→∃y,sub=[y]∧RT vs y):RT vs (.mk op nn name field sub line):=by
 unfold RT;have hf:=mi (vs:=vs) hl name;have e:aF vs (.mk op nn name field sub line)=(match bg vs name with
  |none=>cy 9 line
  |some v=>if v.arr≠decide (op=4)∨2<v.ty then cy 10 line else if op=4 then uL vs v.ty sub else eJ v.ty):=by
  conv=>lhs;unfold aF
  rw[if_neg (by omega),if_pos (by omega)];cases bg vs name with
  |none=>rfl
  |some v=>
   simp only
   rw[if_neg (by omega)]
 rw[e];clear e;cases hv:bg vs name with
 |none=>
  simp[hv,fV,bF,ep,qJ]at hf;rcases h with h|h<;>subst h<;>rw[er (by simp)]<;>simp[Tryz.f130,ef,cy,hf,aq]
 |some v=>
  simp[hv,fV,bF,ep]at hf;rcases h with h|h<;>subst h
  ·cases ha:v.arr with
   |true=>(rw[er (by simp)];simp[Tryz.f130,ef,cy,hf,aq,ha])
   |false=>
    by_cases h2:2<v.ty
    ·(rw[er (by simp)];simp[Tryz.f130,ef,cy,hf,aq,ha,h2])
    ·(rw[er (by simp)];simp[Tryz.f130,ef,eJ,hf,aq,ha,h2])
  ·cases ha:v.arr with
   |false=>(rw[er (by simp)];simp[Tryz.f130,ef,cy,hf,aq,ha])
   |true=>
    by_cases h2:2<v.ty
    ·(rw[er (by simp)];simp[Tryz.f130,ef,cy,hf,aq,ha,h2])
    ·obtain⟨y,hy,hr⟩:=hs rfl;subst hy;simp only[uL,mQ,uK,yn,Hi,mR,RD];by_cases h0:(aF vs y).e=0
     ·by_cases h1:(aF vs y).t=1
      ·have:=aad (nn:=nn) (line:=line) (field:=field) hl hv ha h2 hr rfl h0 h1;simpa [h0,h1,h2,ha,eJ]using this
      ·have:=aae (nn:=nn) (line:=line) (field:=field) hl hv ha h2 hr rfl h0 h1;simpa [h0,h1,h2,ha,cy]using this
     ·have:=aaf (nn:=nn) (line:=line) (field:=field) hl hv ha h2 hr rfl h0;simpa [h0,h2,ha,cy]using this
end
section
variable {vs:List Vr}
set_option maxHeartbeats 1000000 in
theorem aiv{nn line:Int}{name field:Tx}{a:Ex}(h:RT vs a):RT vs (.mk 6 nn name field [a] line):=by
 have e:aF vs (.mk 6 nn name field [a] line)=b8 6 line (aF vs a) (aF vs a):=by
  conv=>lhs;unfold aF
  rw[if_neg (by omega),if_neg (by omega)];rfl
 unfold RT at h⊢;rw[e,er (by simp)];clear e;generalize aF vs a=T at*;simp[ef]at h;simp[Tryz.f130,ef,aq,aD,h];by_cases h0:T.e=0
 ·by_cases h1:T.t=1<;>simp[h0,h1,b8,fY,gF,eJ,cy]
 ·simp[h0,b8]
set_option maxHeartbeats 1000000 in
theorem aiw{nn line:Int}{name field:Tx}{a:Ex}(h:RT vs a):RT vs (.mk 7 nn name field [a] line):=by
 have e:aF vs (.mk 7 nn name field [a] line)=b8 7 line (aF vs a) (aF vs a):=by
  conv=>lhs;unfold aF
  rw[if_neg (by omega),if_neg (by omega)];rfl
 unfold RT at h⊢;rw[e,er (by simp)];clear e;generalize aF vs a=T at*;simp[ef]at h;simp[Tryz.f130,ef,aq,aD,h];by_cases h0:T.e=0
 ·by_cases h1:T.t=2<;>simp[h0,h1,b8,fY,gF,eJ,cy]
 ·simp[h0,b8]
set_option maxHeartbeats 1000000 in
theorem aix{nn line:Int}{name field:Tx}{a b:Ex}(h:RT vs a)(hb:RT vs b):RT vs (.mk 8 nn name field [a,b] line):=by
 have e:aF vs (.mk 8 nn name field [a,b] line)=b8 8 line (aF vs a) (aF vs b):=by
  conv=>lhs;unfold aF
  rw[if_neg (by omega),if_neg (by omega)];rfl
 unfold RT at h hb⊢;rw[e,er (by simp)];clear e;generalize aF vs a=T at*;generalize aF vs b=U at*;simp[ef]at h hb;simp[Tryz.f130,ef,aq,aD,h,hb];by_cases h0:T.e=0
 ·by_cases h1:U.e=0
  ·by_cases h2:T.t=1<;>by_cases h3:U.t=1<;>simp[h0,h1,h2,h3,b8,fY,gF,eJ,cy]
  ·simp[h0,h1,b8]
 ·simp[h0,b8]
set_option maxHeartbeats 1000000 in
theorem aiy{nn line:Int}{name field:Tx}{a b:Ex}(h:RT vs a)(hb:RT vs b):RT vs (.mk 9 nn name field [a,b] line):=by
 have e:aF vs (.mk 9 nn name field [a,b] line)=b8 9 line (aF vs a) (aF vs b):=by
  conv=>lhs;unfold aF
  rw[if_neg (by omega),if_neg (by omega)];rfl
 unfold RT at h hb⊢;rw[e,er (by simp)];clear e;generalize aF vs a=T at*;generalize aF vs b=U at*;simp[ef]at h hb;simp[Tryz.f130,ef,aq,aD,h,hb];by_cases h0:T.e=0
 ·by_cases h1:U.e=0
  ·by_cases h2:T.t=1<;>by_cases h3:U.t=1<;>simp[h0,h1,h2,h3,b8,fY,gF,eJ,cy]
  ·simp[h0,h1,b8]
 ·simp[h0,b8]
set_option maxHeartbeats 1000000 in
theorem ae9{nn line:Int}{name field:Tx}{a b:Ex}(h:RT vs a)(hb:RT vs b):RT vs (.mk 10 nn name field [a,b] line):=by
 have e:aF vs (.mk 10 nn name field [a,b] line)=b8 10 line (aF vs a) (aF vs b):=by
  conv=>lhs;unfold aF
  rw[if_neg (by omega),if_neg (by omega)];rfl
 unfold RT at h hb⊢;rw[e,er (by simp)];clear e;generalize aF vs a=T at*;generalize aF vs b=U at*;simp[ef]at h hb;simp[Tryz.f130,ef,aq,aD,h,hb];by_cases h0:T.e=0
 ·by_cases h1:U.e=0
  ·by_cases h2:T.t=1<;>by_cases h3:U.t=1<;>simp[h0,h1,h2,h3,b8,fY,gF,eJ,cy]
  ·simp[h0,h1,b8]
 ·simp[h0,b8]
set_option maxHeartbeats 1000000 in
theorem afa{nn line:Int}{name field:Tx}{a b:Ex}(h:RT vs a)(hb:RT vs b):RT vs (.mk 11 nn name field [a,b] line):=by
 have e:aF vs (.mk 11 nn name field [a,b] line)=b8 11 line (aF vs a) (aF vs b):=by
  conv=>lhs;unfold aF
  rw[if_neg (by omega),if_neg (by omega)];rfl
 unfold RT at h hb⊢;rw[e,er (by simp)];clear e;generalize aF vs a=T at*;generalize aF vs b=U at*;simp[ef]at h hb;simp[Tryz.f130,ef,aq,aD,h,hb];by_cases h0:T.e=0
 ·by_cases h1:U.e=0
  ·by_cases h2:T.t=1<;>by_cases h3:U.t=1<;>simp[h0,h1,h2,h3,b8,fY,gF,eJ,cy]
  ·simp[h0,h1,b8]
 ·simp[h0,b8]
set_option maxHeartbeats 1000000 in
theorem afb{nn line:Int}{name field:Tx}{a b:Ex}(h:RT vs a)(hb:RT vs b):RT vs (.mk 12 nn name field [a,b] line):=by
 have e:aF vs (.mk 12 nn name field [a,b] line)=b8 12 line (aF vs a) (aF vs b):=by
  conv=>lhs;unfold aF
  rw[if_neg (by omega),if_neg (by omega)];rfl
 unfold RT at h hb⊢;rw[e,er (by simp)];clear e;generalize aF vs a=T at*;generalize aF vs b=U at*;simp[ef]at h hb;simp[Tryz.f130,ef,aq,aD,h,hb];by_cases h0:T.e=0
 ·by_cases h1:U.e=0
  ·by_cases h2:T.t=1<;>by_cases h3:U.t=1<;>simp[h0,h1,h2,h3,b8,fY,gF,eJ,cy]
  ·simp[h0,h1,b8]
 ·simp[h0,b8]
set_option maxHeartbeats 1000000 in
theorem afc{nn line:Int}{name field:Tx}{a b:Ex}(h:RT vs a)(hb:RT vs b):RT vs (.mk 13 nn name field [a,b] line):=by
 have e:aF vs (.mk 13 nn name field [a,b] line)=b8 13 line (aF vs a) (aF vs b):=by
  conv=>lhs;unfold aF
  rw[if_neg (by omega),if_neg (by omega)];rfl
 unfold RT at h hb⊢;rw[e,er (by simp)];clear e;generalize aF vs a=T at*;generalize aF vs b=U at*;simp[ef]at h hb;simp[Tryz.f130,ef,aq,aD,h,hb];by_cases h0:T.e=0
 ·by_cases h1:U.e=0
  ·by_cases h3:U.t=T.t<;>simp[h0,h1,h3,b8,fY,gF,eJ,cy]
  ·simp[h0,h1,b8]
 ·simp[h0,b8]
end
section
variable {vs:List Vr}
set_option maxHeartbeats 1000000 in
theorem afd{nn line:Int}{name field:Tx}{a b:Ex}(h:RT vs a)(hb:RT vs b):RT vs (.mk 14 nn name field [a,b] line):=by
 have e:aF vs (.mk 14 nn name field [a,b] line)=b8 14 line (aF vs a) (aF vs b):=by
  conv=>lhs;unfold aF
  rw[if_neg (by omega),if_neg (by omega)];rfl
 unfold RT at h hb⊢;rw[e,er (by simp)];clear e;generalize aF vs a=T at*;generalize aF vs b=U at*;simp[ef]at h hb;simp[Tryz.f130,ef,aq,aD,h,hb];by_cases h0:T.e=0
 ·by_cases h1:U.e=0
  ·by_cases h3:U.t=T.t<;>simp[h0,h1,h3,b8,fY,gF,eJ,cy]
  ·simp[h0,h1,b8]
 ·simp[h0,b8]
set_option maxHeartbeats 1000000 in
theorem afe{nn line:Int}{name field:Tx}{a b:Ex}(h:RT vs a)(hb:RT vs b):RT vs (.mk 15 nn name field [a,b] line):=by
 have e:aF vs (.mk 15 nn name field [a,b] line)=b8 15 line (aF vs a) (aF vs b):=by
  conv=>lhs;unfold aF
  rw[if_neg (by omega),if_neg (by omega)];rfl
 unfold RT at h hb⊢;rw[e,er (by simp)];clear e;generalize aF vs a=T at*;generalize aF vs b=U at*;simp[ef]at h hb;simp[Tryz.f130,ef,aq,aD,h,hb];by_cases h0:T.e=0
 ·by_cases h1:U.e=0
  ·by_cases h2:T.t=1<;>by_cases h3:U.t=1<;>simp[h0,h1,h2,h3,b8,fY,gF,eJ,cy]
  ·simp[h0,h1,b8]
 ·simp[h0,b8]
set_option maxHeartbeats 1000000 in
theorem aff{nn line:Int}{name field:Tx}{a b:Ex}(h:RT vs a)(hb:RT vs b):RT vs (.mk 16 nn name field [a,b] line):=by
 have e:aF vs (.mk 16 nn name field [a,b] line)=b8 16 line (aF vs a) (aF vs b):=by
  conv=>lhs;unfold aF
  rw[if_neg (by omega),if_neg (by omega)];rfl
 unfold RT at h hb⊢;rw[e,er (by simp)];clear e;generalize aF vs a=T at*;generalize aF vs b=U at*;simp[ef]at h hb;simp[Tryz.f130,ef,aq,aD,h,hb];by_cases h0:T.e=0
 ·by_cases h1:U.e=0
  ·by_cases h2:T.t=1<;>by_cases h3:U.t=1<;>simp[h0,h1,h2,h3,b8,fY,gF,eJ,cy]
  ·simp[h0,h1,b8]
 ·simp[h0,b8]
set_option maxHeartbeats 1000000 in
theorem afg{nn line:Int}{name field:Tx}{a b:Ex}(h:RT vs a)(hb:RT vs b):RT vs (.mk 17 nn name field [a,b] line):=by
 have e:aF vs (.mk 17 nn name field [a,b] line)=b8 17 line (aF vs a) (aF vs b):=by
  conv=>lhs;unfold aF
  rw[if_neg (by omega),if_neg (by omega)];rfl
 unfold RT at h hb⊢;rw[e,er (by simp)];clear e;generalize aF vs a=T at*;generalize aF vs b=U at*;simp[ef]at h hb;simp[Tryz.f130,ef,aq,aD,h,hb];by_cases h0:T.e=0
 ·by_cases h1:U.e=0
  ·by_cases h2:T.t=1<;>by_cases h3:U.t=1<;>simp[h0,h1,h2,h3,b8,fY,gF,eJ,cy]
  ·simp[h0,h1,b8]
 ·simp[h0,b8]
set_option maxHeartbeats 1000000 in
theorem afh{nn line:Int}{name field:Tx}{a b:Ex}(h:RT vs a)(hb:RT vs b):RT vs (.mk 18 nn name field [a,b] line):=by
 have e:aF vs (.mk 18 nn name field [a,b] line)=b8 18 line (aF vs a) (aF vs b):=by
  conv=>lhs;unfold aF
  rw[if_neg (by omega),if_neg (by omega)];rfl
 unfold RT at h hb⊢;rw[e,er (by simp)];clear e;generalize aF vs a=T at*;generalize aF vs b=U at*;simp[ef]at h hb;simp[Tryz.f130,ef,aq,aD,h,hb];by_cases h0:T.e=0
 ·by_cases h1:U.e=0
  ·by_cases h2:T.t=1<;>by_cases h3:U.t=1<;>simp[h0,h1,h2,h3,b8,fY,gF,eJ,cy]
  ·simp[h0,h1,b8]
 ·simp[h0,b8]
set_option maxHeartbeats 1000000 in
theorem afi{nn line:Int}{name field:Tx}{a b:Ex}(h:RT vs a)(hb:RT vs b):RT vs (.mk 19 nn name field [a,b] line):=by
 have e:aF vs (.mk 19 nn name field [a,b] line)=b8 19 line (aF vs a) (aF vs b):=by
  conv=>lhs;unfold aF
  rw[if_neg (by omega),if_neg (by omega)];rfl
 unfold RT at h hb⊢;rw[e,er (by simp)];clear e;generalize aF vs a=T at*;generalize aF vs b=U at*;simp[ef]at h hb;simp[Tryz.f130,ef,aq,aD,h,hb];by_cases h0:T.e=0
 ·by_cases h1:U.e=0
  ·by_cases h2:T.t=2<;>by_cases h3:U.t=2<;>simp[h0,h1,h2,h3,b8,fY,gF,eJ,cy]
  ·simp[h0,h1,b8]
 ·simp[h0,b8]
set_option maxHeartbeats 1000000 in
theorem afj{nn line:Int}{name field:Tx}{a b:Ex}(h:RT vs a)(hb:RT vs b):RT vs (.mk 20 nn name field [a,b] line):=by
 have e:aF vs (.mk 20 nn name field [a,b] line)=b8 20 line (aF vs a) (aF vs b):=by
  conv=>lhs;unfold aF
  rw[if_neg (by omega),if_neg (by omega)];rfl
 unfold RT at h hb⊢;rw[e,er (by simp)];clear e;generalize aF vs a=T at*;generalize aF vs b=U at*;simp[ef]at h hb;simp[Tryz.f130,ef,aq,aD,h,hb];by_cases h0:T.e=0
 ·by_cases h1:U.e=0
  ·by_cases h2:T.t=2<;>by_cases h3:U.t=2<;>simp[h0,h1,h2,h3,b8,fY,gF,eJ,cy]
  ·simp[h0,h1,b8]
 ·simp[h0,b8]
set_option maxHeartbeats 1000000 in
theorem afk{nn line:Int}{name field:Tx}{a b:Ex}(h:RT vs a)(hb:RT vs b):RT vs (.mk 21 nn name field [a,b] line):=by
 have e:aF vs (.mk 21 nn name field [a,b] line)=b8 21 line (aF vs a) (aF vs b):=by
  conv=>lhs;unfold aF
  rw[if_neg (by omega),if_neg (by omega)];rfl
 unfold RT at h hb⊢;rw[e,er (by simp)];clear e;generalize aF vs a=T at*;generalize aF vs b=U at*;simp[ef]at h hb;simp[Tryz.f130,ef,aq,aD,h,hb];by_cases h0:T.e=0
 ·by_cases h1:U.e=0
  ·by_cases h2:T.t=2<;>by_cases h3:U.t=2<;>simp[h0,h1,h2,h3,b8,fY,gF,eJ,cy]
  ·simp[h0,h1,b8]
 ·simp[h0,b8]
end
theorem afl{vs:List Vr}{op nn line:Int}{name field:Tx}{a b:Ex}(h8:8≤op)(RI:op≤21)(h:RT vs a)(hb:RT vs b):RT vs (.mk op nn name field [a,b] line):=by
 have hc:op=8∨op=9∨op=10∨op=11∨op=12∨op=13∨op=14∨op=15∨op=16∨op=17∨op=18∨op=19∨op=20∨op=21:=by omega
 rcases hc with e|e|e|e|e|e|e|e|e|e|e|e|e|e<;>subst e
 ·exact aix h hb
 ·exact aiy h hb
 ·exact ae9 h hb
 ·exact afa h hb
 ·exact afb h hb
 ·exact afc h hb
 ·exact afd h hb
 ·exact afe h hb
 ·exact aff h hb
 ·exact afg h hb
 ·exact afh h hb
 ·exact afi h hb
 ·exact afj h hb
 ·exact afk h hb
section
variable {vs:List Vr} (hl:vs.length<1000000)
include hl
mutual
theorem rp:∀x:Ex,bk x=true→RT vs x
 | .mk op nn name field sub line,hf=>by
  simp only[bk,Bool.and_eq_true,decide_eq_true_eq,Bool.not_eq_true',decide_eq_false_iff_not]at hf;obtain⟨cS,hlen,_,_,fQ⟩:=hf;have ih:=Bf sub fQ;unfold dC at hlen;by_cases kR:op=1∨op=2
  ·exact ae8 kR
  ·by_cases h5:op=5
   ·subst h5;exact TI hl
   ·by_cases h34:op=3∨op=4
    ·refine aag hl h34 (fun h4=>?_);rw[if_pos (.inl h4)]at hlen;match sub,hlen with
     |[y],_=>exact⟨y,rfl,ih y (by simp)⟩
    ·by_cases YW:op=6∨op=7
     ·rw[if_pos (.inr YW)]at hlen;match sub,hlen with
      |[y],_=>
       rcases YW with e|e<;>subst e
       ·exact aiv (ih y (by simp))
       ·exact aiw (ih y (by simp))
     ·rw[if_neg (by omega),if_pos (by omega)]at hlen;match sub,hlen with
      |[y,z],_=>exact afl (by omega) (by omega) (ih y (by simp)) (ih z (by simp))
theorem Bf:∀l:List Ex,bH l=true→∀y∈l,RT vs y
 |[],_,y,hy=>by simp at hy
 |x::r,hf,y,hy=>by
  simp only[bH,Bool.and_eq_true]at hf;rcases List.mem_cons.1 hy with e|hy
  ·rw[e];exact rp x hf.1
  ·exact Bf r hf.2 y hy
end
end
theorem EZ{op line:Int}{a b:Te}(h:(b8 op line a b).e=0):(b8 op line a b).line=0:=by
 rw[(gS h).2.2.2.2];rfl
theorem V2(vs:List Vr):∀x:Ex,(aF vs x).e=0→(aF vs x).line=0
 | .mk op nn name field sub line,h=>by
  unfold aF at h⊢;split at h
  ·rename_i c;rw[if_pos c];rfl
  ·rename_i c;rw[if_neg c];split at h
   ·rename_i c2;rw[if_pos c2];cases hf:bg vs name with
    |none=>rw[hf]at h;simp[cy]at h
    |some v=>
     rw[hf]at h;simp only at h⊢;split at h
     ·rename_i c3;rw[if_pos c3];split at h
      ·simp[cy]at h
      ·rename_i c4;rw[if_neg c4];cases hp:kJ v.ty field with
       |none=>rw[hp]at h;simp[cy]at h
       |some p=>rfl
     ·rename_i c3;rw[if_neg c3];split at h
      ·simp[cy]at h
      ·rename_i c4;rw[if_neg c4];split at h
       ·rename_i c5;rw[if_pos c5];cases sub with
        |nil=>rfl
        |cons y r=>
         simp only[uL]at h⊢;split at h
         ·rename_i c6;exact absurd h c6
         ·rename_i c6;rw[if_neg c6];split at h
          ·simp[cy]at h
          ·rename_i c7;rw[if_neg c7];rfl
       ·rename_i c5;rw[if_neg c5];rfl
   ·rename_i c2;rw[if_neg c2];match sub,h with
    |[],_=>rfl
    |[y],h=>exact EZ h
    |y::z::_,h=>exact EZ h
theorem pw(vs:List Vr)(x:Ex)(t:Int):CT vs x t=dj vs x t:=by
 unfold CT dj;have:=V2 vs x;by_cases h:(aF vs x).e=0
 ·have hl:=this h;by_cases ht:(aF vs x).t=t
  ·simp[h,ht,hl]
  ·simp[h,ht]
 ·simp[h]
def RM(vs:List Vr)(lp:Bool)(x:Sm):Prop:=ai ctx 89 [.d (.list (vs.map bF)),.d (.agg (smL x)),.d (.bool lp)] []=some (.ret (dp (dB (jS vs lp x))),[])
def oA(vs:List Vr)(lp:Bool)(l:List Sm):Prop:=ai ctx 49 [.d (.list (vs.map bF)),.d (.list (l.map b5)),.d (.bool lp)] []=some (.ret (dp (dB (eu vs lp l))),[])
@[simp] def gN(e:EL):aE:=.box [.d (.int .i64 e.1),.d (.int .i64 e.2)]
theorem IP{vs:List Vr}{lp:Bool}{l:List Sm}(bm:l.length<100000000)(hK:∀x∈l,RM vs lp x)(k:Kt)(RF:EL→bP)
 (h1:∀e u v X,k .ret ⟨27,aC,[(6,true,.ptr 400 u 0)],[⟨400,u,gN e⟩,⟨500,v,X⟩]⟩=RF e)
 (h2:∀(u v:Nat)(X:aE)(b c:AV),k (.exit 0) ⟨27,aC,[(0,true,.d (.list (vs.map bF))),(1,true,.d (.list (l.map b5))),(2,true,.d (.bool lp)),(6,true,.ptr 400 u 0),(7,true,b),(12,true,c)],[⟨400,u,gN (0,0)⟩,⟨500,v,X⟩]⟩=RF (0,0)):∀(rest pre:List Sm)(u v:Nat)(X:aE),l=pre++rest→
 aI ctx 49 (.loop (Code.at (aX Tryz.f49) [1,0,1,0,0])) ⟨27,aC,[(0,true,.d (.list (vs.map bF))),(1,true,.d (.list (l.map b5))),(2,true,.d (.bool lp)),(6,true,.ptr 400 u 0),(7,true,.d (.int .i64 pre.length))],[⟨400,u,gN (0,0)⟩,⟨500,v,X⟩]⟩ k=RF (dB (eu vs lp rest))
 |[],pre,u,v,X,hd=>by
  have cm:pre.length=l.length:=by rw[hd];simp
  simp only[gN]at h2;rw[cm,ah];simp[Tryz.f49,h2,eu,dB]
 |x::rest,pre,u,v,X,hd=>by
  have aV:pre.length<l.length:=by rw[hd];simp
  have aW:l[pre.length]=x:=by simp[hd]
  have hm:=hK x (by rw[hd];simp);have ih:=fun u v X=>IP bm hK k RF h1 h2 rest (pre++[x]) u v X (by simp[hd]);have w1:IntKind.i64.wrap ((pre.length:Int)+1)=(pre.length:Int)+1:=aw (by unfold aY;omega);have key:eu vs lp (x::rest)=eU (jS vs lp x) (eu vs lp rest):=by rw[eu]
  rw[key];unfold RM dp at hm;generalize jS vs lp x=E at*;generalize eu vs lp rest=F at*;simp only[gN]at h1;rw[ah];by_cases h0:E.1=0
  ·rw[kK h0];simp[dB,h0]at hm;simp[Tryz.f49]at ih⊢;simp[aV,aW,eI,hm,w1,ih]
  ·rw[om h0];have h1:=h1 E;simp[dB,h0]at hm;simp[Tryz.f49];simp[aV,aW,eI,hm,h0,h1,dB]
theorem IQ{vs:List Vr}{lp:Bool}{l:List Sm}(bm:l.length<100000000)(hK:∀x∈l,RM vs lp x):oA vs lp l:=by
 unfold oA;have h:=fun k RF h1 h2 u v X=>IP bm hK k RF h1 h2 l [] u v X rfl;rw[ahI (by simp)];simp[Tryz.f49]at h⊢;rw[h _ (fun e=>some (.ret (dp e),[]))]
 ·intro a b u v X;simp[dp]
 ·intro u v X b c;simp[dp]
theorem afm{w:Vr}(h:dr w=true):w.arr=true→0≤w.lo∧w.lo≤w.hi∧w.hi≤255:=by
 intro ha;simp only[dr,Bool.and_eq_true,ha,if_true,decide_eq_true_eq]at h;exact h.2.2.1.2
theorem IS(l:List Vr)(bm:l.length≤1000)(hf:∀v∈l,dr v=true)(D1 D2:AV)(k:Kt)(RF:EL→bP)
 (h1:∀e u v X,e.1≠0→k .ret ⟨58,aC,[(2,true,.ptr 200 u 0)],[⟨150,1,.box [D1,.d (.list (l.map bF)),D2]⟩,⟨200,u,gN e⟩,⟨350,v,X⟩]⟩=RF e)
 (h2:∀(u v:Nat)(X:aE)(a b c:AV),k (.exit 0) ⟨58,aC,[(1,true,.ptr 150 1 0),(2,true,.ptr 200 u 0),(3,true,a),(4,true,b),(11,true,c)],[⟨150,1,.box [D1,.d (.list (l.map bF)),D2]⟩,⟨200,u,gN (0,0)⟩,⟨350,v,X⟩]⟩=RF (0,0)):∀(rest pre:List Vr)(n:Int)(u v:Nat)(X:aE),l=pre++rest→0≤n→n≤1024→
 aI ctx 19 (.loop (Code.at (aX Tryz.f19) [1,1,0,1,0,0])) ⟨58,aC,[(1,true,.ptr 150 1 0),(2,true,.ptr 200 u 0),(3,true,.d (.int .i64 n)),(4,true,.d (.int .i64 pre.length))],[⟨150,1,.box [D1,.d (.list (l.map bF)),D2]⟩,⟨200,u,gN (0,0)⟩,⟨350,v,X⟩]⟩ k=RF (Eu rest pre n)
 |[],pre,n,u,v,X,hd,h0,hn=>by
  have cm:pre.length=l.length:=by rw[hd];simp
  simp only[gN]at h2;rw[cm,ah];simp[Tryz.f19,h2,Eu]
 |x::rest,pre,n,u,v,X,hd,h0,hn=>by
  have aV:pre.length<l.length:=by rw[hd];simp
  have aW:l[pre.length]=x:=by simp[hd]
  have tj:List.take pre.length (List.map bF l)=List.map bF pre:=by simp[hd]
  have yE:pre.length≤l.length:=by omega
  have wC:=hf x (by rw[hd];simp);have kO:=pK wC;have hc:=V1 (afm wC);have j9:=mi (vs:=pre) (by omega) x.name;have ih:=fun u v X=>IS l bm hf D1 D2 k RF h1 h2 rest (pre++[x]) (n+bK x) u v X (by simp[hd]);have w1:IntKind.i64.wrap ((pre.length:Int)+1)=(pre.length:Int)+1:=aw (by unfold aY;omega);have w3:IntKind.i64.wrap (n+bK x)=n+bK x:=aw (by unfold aY;omega);have qN:=fun u v X=>h1 (11,x.line) u v X (by simp);have E0:=fun u v X=>h1 (13,x.line) u v X (by simp);simp only[gN]at qN E0;simp[ep]at hc;generalize hW:fV pre x.name=W at*;simp[bF,ep]at j9;rw[ah];unfold Eu;cases cL:(bg pre x.name).isSome with
  |true=>
   rw[cL]at j9;simp[Tryz.f19];simp[aV,aW,tj,yE,bF,ep,j9,qN,aq]
  |false=>
   rw[cL]at j9;by_cases FL:1024<n+bK x
   ·simp[Tryz.f19];simp[aV,aW,tj,yE,bF,ep,j9,hc,w3,FL,E0,aq]
   ·have ih:=fun u v X=>ih u v X (by omega) (by omega);simp[Tryz.f19]at ih⊢;simp[aV,aW,tj,yE,bF,ep,j9,hc,w1,w3,FL,ih,aq]
theorem V3{p:Pg}(hf:pe p=true)(hs:oA p.vars false p.body):ai ctx 19 [.d (.agg [.str p.name,.list (p.vars.map bF),.list (p.body.map b5)])] []=some (.ret (dp (dB (r9 p))),[]):=by
 simp only[pe,Bool.and_eq_true,decide_eq_true_eq,List.all_eq_true]at hf;obtain⟨_,hvl,ee,hb⟩:=hf;unfold oA at hs;unfold r9;generalize hE:eu p.vars false p.body=E at*;have h:=fun D1 D2 k RF h1 h2 u v X=>IS p.vars (by omega) ee D1 D2 k RF h1 h2 p.vars [] 0 u v X rfl (by omega) (by omega);generalize hV:Eu p.vars [] 0=V at*;rw[ahx (by simp)];simp[Tryz.f19]at h⊢;rw[h _ _ _ (fun e=>some (.ret (dp (dB (eU e E))),[]))]
 ·intro a b u v X sF;rw[om sF];simp[dp,dB,sF]
 ·intro u v X a b c;rw[kK rfl];simp[hs,dp]
@[reducible] noncomputable def Ad(p:List Nat):Code:=Code.at (aX Tryz.f132) p
theorem IT{x:Sm}{f:Tx}{pre tl:List Tx}(hx:dM x=pre++f::tl)(hlen:(dM x).length<100000000){a0:AV}{u v5 v6:Nat}{W X5 X6:aE}(k:Kt)(R1 R2:bP)
 (h1:k .ret ⟨91,aC,[(4,true,.ptr 300 u 0)],[⟨250,1,bh x⟩,⟨300,u,gN (11,kp x)⟩,⟨350,1,W⟩,⟨500,v5,X5⟩,⟨650,v6,X6⟩]⟩=R1)
 (h2:∀b c,k (.exit 2) ⟨91,aC,[(0,true,a0),(3,true,.ptr 250 1 0),(4,true,.ptr 300 u 0),(5,true,.ptr 350 1 0),(7,true,.d (.int .i64 pre.length)),(8,true,.ptr 500 v5 0),(10,true,b),(60,true,c)],[⟨250,1,bh x⟩,⟨300,u,gN (0,0)⟩,⟨350,1,W⟩,⟨500,v5,X5⟩,⟨650,v6,X6⟩]⟩=R2):∀(rest p2:List Tx),pre=p2++rest→
 aI ctx 132 (.loop (Ad [1,1,1,1,0,1,0,0,1,0,0,1,1,0,1,0,0])) ⟨91,aC,[(0,true,a0),(3,true,.ptr 250 1 0),(4,true,.ptr 300 u 0),(5,true,.ptr 350 1 0),(7,true,.d (.int .i64 pre.length)),(8,true,.ptr 500 v5 0),(10,true,.d (.int .i64 p2.length))],[⟨250,1,bh x⟩,⟨300,u,gN (0,0)⟩,⟨350,1,W⟩,⟨500,v5,X5⟩,⟨650,v6,X6⟩]⟩ k=if f∈rest then R1 else R2
 |[],p2,hd=>by
  have cm:p2.length=pre.length:=by rw[hd];simp
  simp only[gN,bh]at h2;rw[cm,ah];simp[Ad,Tryz.f132,h2]
 |c::rest,p2,hd=>by
  have aV:p2.length<pre.length:=by rw[hd];simp
  have aW:pre.length<(dM x).length:=by rw[hx];simp
  have tj:p2.length<(dM x).length:=by omega
  have yE:(dM x)[pre.length]=f:=by simp[hx]
  have hb5:(dM x)[p2.length]=c:=by simp[hx,hd]
  have ih:=IT hx hlen k R1 R2 h1 h2 rest (p2++[c]) (by simp[hd]);have w1:IntKind.i64.wrap ((p2.length:Int)+1)=(p2.length:Int)+1:=aw (by unfold aY;omega);simp only[gN,bh]at h1;rw[ah];by_cases hq:c=f
  ·have oI:f=c:=hq.symm;simp[Ad,Tryz.f132];simp[aV,aW,tj,yE,hb5,hq,h1,aq]
  ·have oI:¬f=c:=fun h=>hq h.symm;simp[Ad,Tryz.f132]at ih⊢;simp[aV,aW,tj,yE,hb5,hq,oI,w1,ih,aq]
theorem IU{vs:List Vr}{x:Sm}{w:Vr}(hlen:(dM x).length<100000000)(hle:(cw x).length=(dM x).length)(hC:∀y∈cw x,RT vs y)(k:Kt)(RF:EL→bP)
 (h1:∀e u v5 v6 X5 X6,k .ret ⟨91,aC,[(4,true,.ptr 300 u 0)],[⟨250,1,bh x⟩,⟨300,u,gN e⟩,⟨350,1,gZ w⟩,⟨500,v5,X5⟩,⟨650,v6,X6⟩]⟩=RF e)
 (h2:∀u v5 v6 X5 X6 b c,k (.exit 0) ⟨91,aC,[(0,true,.d (.list (vs.map bF))),(3,true,.ptr 250 1 0),(4,true,.ptr 300 u 0),(5,true,.ptr 350 1 0),(7,true,b),(34,true,c)],[⟨250,1,bh x⟩,⟨300,u,gN (0,0)⟩,⟨350,1,gZ w⟩,⟨500,v5,X5⟩,⟨650,v6,X6⟩]⟩=RF (0,0)):∀(rest pre:List Tx)(cr cp:List Ex)(u v5 v6:Nat)(X5 X6:aE),dM x=pre++rest→cw x=cp++cr→cp.length=pre.length→
 aI ctx 132 (.loop (Ad [1,1,1,1,0,1,0,0])) ⟨91,aC,[(0,true,.d (.list (vs.map bF))),(3,true,.ptr 250 1 0),(4,true,.ptr 300 u 0),(5,true,.ptr 350 1 0),(7,true,.d (.int .i64 pre.length))],[⟨250,1,bh x⟩,⟨300,u,gN (0,0)⟩,⟨350,1,gZ w⟩,⟨500,v5,X5⟩,⟨650,v6,X6⟩]⟩ k=RF (dB (iz vs w.ty (kp x) rest cr pre))
 |[],pre,cr,cp,u,v5,v6,X5,X6,hd,hc,aO=>by
  have cm:pre.length=(dM x).length:=by rw[hd];simp
  have e0:iz vs w.ty (kp x) [] cr pre=(0,0):=by unfold iz;rfl
  simp only[gN,bh,gZ]at h2;rw[e0,cm,ah];simp[Ad,Tryz.f132,h2,dB]
 |f::rest,pre,[],cp,u,v5,v6,X5,X6,hd,hc,aO=>by
  rw[hd,hc]at hle;simp at hle;omega
 |f::rest,pre,y::cr,cp,u,v5,v6,X5,X6,hd,hc,aO=>by
  have aV:pre.length<(dM x).length:=by rw[hd];simp
  have aW:(dM x)[pre.length]=f:=by simp[hd]
  have tj:pre.length<(cw x).length:=by omega
  have yE:(cw x)[pre.length]=y:=by simp[←aO,hc]
  have hy:=hC y (by rw[hc];simp);have hp:=TH w.ty f;have ih:=fun u v5 v6 X5 X6=>IU hlen hle hC k RF h1 h2 rest (pre++[f]) cr (cp++[y]) u v5 v6 X5 X6 (by simp[hd]) (by simp[hc]) (by simp[aO]);have cL:=fun a0 u v5 v6 W X5 X6 k R1 R2 h1 h2=>IT (a0:=a0) (u:=u) (v5:=v5) (v6:=v6) (W:=W) (X5:=X5) (X6:=X6) hd hlen k R1 R2 h1 h2 pre [] rfl;have w1:IntKind.i64.wrap ((pre.length:Int)+1)=(pre.length:Int)+1:=aw (by unfold aY;omega);have key:iz vs w.ty (kp x) (f::rest) (y::cr) pre=(match kJ w.ty f with
   |none=>(9,kp x)
   |some q=>if q.J5=false then (9,kp x)else if f∈pre then (11,kp x)else eU (dj vs y q.ty) (iz vs w.ty (kp x) rest cr (pre++[f]))):=by
   conv=>lhs;unfold iz
   rfl
  have qN:=h1 (9,kp x);have E0:=h1 (11,kp x);have QB:=h1 (dj vs y (fP w.ty f).ty);have hw:=pv (fP w.ty f).ty hy;rw[pw]at hw;unfold dp at hw;simp only[gN,bh,gZ]at qN E0 QB;rw[key];clear key;rw[ah];cases hq:kJ w.ty f with
  |none=>
   simp[hq,fP,cU,s5]at hp;simp[Ad,Tryz.f132];simp[aV,aW,hp,qN,dB,aq]
  |some q=>
   simp only[fP,hq,Option.getD_some]at hw QB;simp[hq,fP,cU]at hp;simp only
   generalize iz vs w.ty (kp x) rest cr (pre++[f])=E at*;generalize dj vs y q.ty=T at*;by_cases hi:q.J5=false
   ·simp[hi]at hp;simp[Ad,Tryz.f132];simp[aV,aW,hp,qN,dB,hi,aq]
   ·have hi:q.J5=true:=by simpa using hi
    simp[hi]at hp;simp[Ad,Tryz.f132]at cL ih⊢;simp[aV,aW,hp,hi,aq];rw[cL (R1:=RF (11,kp x)) (R2:=RF (dB (eU T E)))]
    ·by_cases hm:f∈pre
     ·simp[hm,dB]
     ·simp[hm]
    ·simp[E0]
    ·intro b c;by_cases h0:T.1=0
     ·rw[kK h0];simp[aV,aW,tj,yE,aD,hw,h0,w1,ih,aq]
     ·rw[om h0];simp[aV,aW,tj,yE,aD,hw,h0,QB,dB,aq]
theorem aah{vs:List Vr}(hl:vs.length<1000000){x:Sm}(hlen:(dM x).length<100000000)(hle:(cw x).length=(dM x).length)(hC:∀y∈cw x,RT vs y):ai ctx 132 [.d (.list (vs.map bF)),.d (.agg (smL x))] []=some (.ret (dp (dB (SC vs x))),[]):=by
 have hf:=mi hl (gR x);rw[acA (by simp)];unfold SC;cases hv:bg vs (gR x)with
 |none=>
  simp[hv,fV,bF,ep,qJ]at hf;simp[Tryz.f132,hf,dp,dB]
 |some v=>
  have h:=fun k RF h1 h2 u v5 v6 X5 X6=>IU (w:=v) hlen hle hC k RF h1 h2 (dM x) [] (cw x) [] u v5 v6 X5 X6 rfl rfl rfl;simp[hv,fV,bF,ep]at hf;by_cases h2:v.ty≤2
  ·simp[Tryz.f132,hf,dp,dB,h2]
  ·generalize hE:iz vs v.ty (kp x) (dM x) (cw x) []=E at*;simp[Ad,Tryz.f132]at h;simp[Tryz.f132,hf,h2];rw[h _ (fun e=>some (.ret (dp e),[]))]
   ·rw[hE]
   ·intro a b u v5 v6 X5 X6;simp[dp]
   ·intro u v5 v6 X5 X6 b c;simp[dp]
section
variable {vs:List Vr} {lp:Bool} {x:Sm}
theorem aiz(h:bA x=7):RM vs lp x:=by
 unfold RM;rw[rf,mg (by simp)];cases lp with
 |true=>simp[Tryz.f89,h,dp,dB]
 |false=>simp[Tryz.f89,h,dp,dB]
theorem aiA(h:bA x=8):RM vs lp x:=by
 unfold RM;rw[rf,mg (by simp)];simp[Tryz.f89,h,dp,dB]
theorem aiB(hl:vs.length<1000000)(h:bA x=9)(hlen:(dM x).length<100000000)(hle:(cw x).length=(dM x).length)(hC:∀y∈cw x,RT vs y):RM vs lp x:=by
 have hc:=aah hl hlen hle hC;unfold RM;rw[rf,mg (by simp)];generalize SC vs x=E at*;simp[h,dp]at hc;simp[Tryz.f89,h,dp,hc]
theorem aiC(h:bA x=5){b:List Sm}(hb:bB x=[b])(hv:RT vs (dF x))(hs:oA vs true b):RM vs lp x:=by
 have hw:=pv 2 hv;rw[pw]at hw;unfold oA at hs;unfold RM;rw[rf,mg (by simp)];have e:s4 vs (bB x)=eu vs true b:=by rw[hb];rfl
 rw[e];generalize dj vs (dF x) 2=T at*;generalize eu vs true b=E at*;simp[dp]at hw hs;by_cases h0:T.1=0
 ·simp[Tryz.f89,h,hb,dc,dp,hw,hs,kK h0,h0]
 ·simp[Tryz.f89,h,hb,dp,hw,om h0,h0,dB]
theorem aiD(h:bA x=6){b:List Sm}(hb:bB x=[b])(hv:RT vs (dF x))(hs:oA vs true b):RM vs lp x:=by
 have hw:=pv 2 hv;rw[pw]at hw;unfold oA at hs;unfold RM;rw[rf,mg (by simp)];have e:s4 vs (bB x)=eu vs true b:=by rw[hb];rfl
 have hT:(dj vs (dF x) 2).1=0→dj vs (dF x) 2=(0,0):=by
  unfold dj;split
  ·intro hh;rename_i c;exact absurd hh c
  ·split
   ·intro hh;simp at hh
   ·intro _;rfl
 rw[e];generalize dj vs (dF x) 2=T at*;generalize eu vs true b=E at*;have hT2:dB T=T:=by
  unfold dB;by_cases h0:T.1=0
  ·rw[if_pos h0,hT h0]
  ·rw[if_neg h0]
 simp[dp]at hw hs;by_cases h0:E.1=0
 ·simp[dB,h0]at hs;simp[Tryz.f89,h,hb,dc,dp,hw,hs,kK h0,hT2]
 ·simp[dB,h0]at hs;simp[Tryz.f89,h,hb,dc,dp,hs,om h0,h0,dB]
end
section
variable {vs:List Vr} {lp:Bool} {x:Sm}
theorem aiE(hl:vs.length<1000000)(h:bA x=1)(ht:RT vs (eD x))(hv:RT vs (dF x)):RM vs lp x:=by
 have hf:=mi hl (dA (eD x));unfold RT at ht hv;unfold RM;rw[rf,mg (by simp),if_pos h];unfold Cn;generalize aF vs (eD x)=T at*;generalize aF vs (dF x)=U at*;simp[ef]at ht hv;cases hq:bg vs (dA (eD x))with
 |none=>
  simp[hq,fV,bF,ep,qJ]at hf;simp[Tryz.f89,h,hf,dp,dB]
 |some w=>
  simp[hq,fV,bF,ep]at hf;by_cases h1:w.sec=1
  ·simp[Tryz.f89,h,hf,h1,dp,dB]
  ·by_cases h2:T.e=0
   ·have o1:(Et T).1=0:=h2;by_cases h3:U.e=0
    ·have o2:(Et U).1=0:=h3;by_cases h4:U.t=T.t
     ·simp[Tryz.f89,h,hf,h1,ht,h2,hv,h3,h4,kK o1,kK o2,dp,dB]
     ·simp[Tryz.f89,h,hf,h1,ht,h2,hv,h3,h4,kK o1,kK o2,dp,dB]
    ·have o2:¬(Et U).1=0:=h3;simp[Tryz.f89,h,hf,h1,ht,h2,hv,h3,eU,dp,dB,Et]
   ·have o1:¬(Et T).1=0:=h2;simp[Tryz.f89,h,hf,h1,ht,h2,eU,dp,dB,Et]
end
@[reducible] noncomputable def oQ(p:List Nat):Code:=Code.at (aX Tryz.f89) p
@[simp] def mE(x:Sm)(e:EL)(w7 w8 w85 w9 oO:Nat)(Y7 Y8 Y85 Y9 so Y10:aE)(w10:Nat):List cH:=[⟨300,1,bh x⟩,⟨400,1,gN e⟩,⟨450,0,.dead⟩,⟨600,0,.dead⟩,⟨750,w7,Y7⟩,⟨800,w8,Y8⟩,⟨850,w85,Y85⟩,⟨950,w9,Y9⟩,⟨1000,w10,Y10⟩,⟨1150,oO,so⟩,⟨1200,0,.dead⟩,⟨1250,0,.dead⟩]
section
variable {vs:List Vr} {lp:Bool} {x:Sm}
theorem IV{w85:Nat}{Y85:aE}(hlen:(bB x).length<100000000)(hB:∀b∈bB x,oA vs lp b)(k:Kt)(RF:EL→bP)
 (h1:∀e w9 Y9,k .ret ⟨242,aC,[(6,true,.ptr 400 1 0)],mE x e 0 0 w85 w9 0 .dead .dead Y85 Y9 .dead .dead 0⟩=RF e)
 (h2:∀w9 Y9 b c,k (.exit 3) ⟨242,aC,[(0,true,.d (.list (vs.map bF))),(2,true,.d (.bool lp)),(4,true,.ptr 300 1 0),(6,true,.ptr 400 1 0),(16,true,b),(128,true,c)],mE x (0,0) 0 0 w85 w9 0 .dead .dead Y85 Y9 .dead .dead 0⟩=RF (0,0)):∀(rest pre:List (List Sm))(w9:Nat)(Y9:aE),bB x=pre++rest→
 aI ctx 89 (.loop (oQ [1,0,1,0,1,1,1,1,1,0,1,1,0,0])) ⟨242,aC,[(0,true,.d (.list (vs.map bF))),(2,true,.d (.bool lp)),(4,true,.ptr 300 1 0),(6,true,.ptr 400 1 0),(16,true,.d (.int .i64 pre.length))],mE x (0,0) 0 0 w85 w9 0 .dead .dead Y85 Y9 .dead .dead 0⟩ k=RF (dB (fq vs lp [] rest))
 |[],pre,w9,Y9,hd=>by
  have cm:pre.length=(bB x).length:=by rw[hd];simp
  have e0:fq vs lp [] []=(0,0):=by unfold fq;rfl
  simp only[mE,gN,bh]at h2;rw[e0,cm,ah];simp[oQ,Tryz.f89,h2,dB]
 |b::rest,pre,w9,Y9,hd=>by
  have aV:pre.length<(bB x).length:=by rw[hd];simp
  have aW:(bB x)[pre.length]=b:=by simp[hd]
  have hs:=hB b (by rw[hd];simp);have ih:=fun w9 Y9=>IV hlen hB k RF h1 h2 rest (pre++[b]) w9 Y9 (by simp[hd]);have w1:IntKind.i64.wrap ((pre.length:Int)+1)=(pre.length:Int)+1:=aw (by unfold aY;omega);have key:fq vs lp [] (b::rest)=eU (eu vs lp b) (fq vs lp [] rest):=by
   conv=>lhs;unfold fq
  rw[key];clear key;unfold oA dp at hs;generalize eu vs lp b=E at*;generalize fq vs lp [] rest=F at*;have qN:=h1 E;simp only[mE,gN,bh]at qN;rw[ah];by_cases h0:E.1=0
  ·rw[kK h0];simp[dB,h0]at hs;simp[oQ,Tryz.f89]at ih⊢;simp[aV,aW,dc,hs,w1,ih]
  ·rw[om h0];simp[dB,h0]at hs;simp[oQ,Tryz.f89];simp[aV,aW,dc,hs,h0,qN,dB]
theorem aiF(h:bA x=3)(hlen:(bB x).length<100000000)(hv:RT vs (dF x))(hB:∀b∈bB x,oA vs lp b):RM vs lp x:=by
 have hw:=pv 1 hv;rw[pw]at hw;have cP:=fun w85 Y85 k RF h1 h2 w9 Y9=>IV (w85:=w85) (Y85:=Y85) hlen hB k RF h1 h2 (bB x) [] w9 Y9 rfl;unfold RM;rw[rf,mg (by simp)];generalize dj vs (dF x) 1=T at*;simp[dp]at hw;by_cases h0:T.1=0
 ·rw[if_neg (by omega),if_neg (by omega),if_pos h,kK h0];generalize fq vs lp [] (bB x)=E at*;simp[oQ,Tryz.f89,h]at cP;simp[Tryz.f89,h,hw,h0];rw[cP _ _ _ (fun e=>some (.ret (dp e),[]))]
  ·intro a b w9 Y9;simp[dp]
  ·intro w9 Y9 b c;simp[dp]
 ·simp[Tryz.f89,h,hw,h0,om h0,dB,dp]
theorem IW(hlen:(bB x).length<100000000)(fU:(cw x).length<100000000)(hC:∀y∈cw x,RT vs y)(hB:∀b∈bB x,oA vs lp b)(k:Kt)(RF:EL→bP)
 (h1:∀e w7 Y7 w8 Y8,k .ret ⟨242,aC,[(6,true,.ptr 400 1 0)],mE x e w7 w8 0 0 0 Y7 Y8 .dead .dead .dead .dead 0⟩=RF e)
 (h2:∀w7 Y7 w8 Y8 b c,k (.exit 1) ⟨242,aC,[(0,true,.d (.list (vs.map bF))),(2,true,.d (.bool lp)),(4,true,.ptr 300 1 0),(6,true,.ptr 400 1 0),(12,true,b),(83,true,c)],mE x (0,0) w7 w8 0 0 0 Y7 Y8 .dead .dead .dead .dead 0⟩=RF (0,0)):∀(rest pre:List (List Sm))(w7:Nat)(Y7:aE)(w8:Nat)(Y8:aE),bB x=pre++rest→
 aI ctx 89 (.loop (oQ [1,0,1,0,1,1,1,0,1,0,0])) ⟨242,aC,[(0,true,.d (.list (vs.map bF))),(2,true,.d (.bool lp)),(4,true,.ptr 300 1 0),(6,true,.ptr 400 1 0),(12,true,.d (.int .i64 pre.length))],mE x (0,0) w7 w8 0 0 0 Y7 Y8 .dead .dead .dead .dead 0⟩ k=RF (dB (fq vs lp ((cw x).drop pre.length) rest))
 |[],pre,w7,Y7,w8,Y8,hd=>by
  have cm:pre.length=(bB x).length:=by rw[hd];simp
  have e0:∀cs,fq vs lp cs []=(0,0):=by intro cs;unfold fq;rfl
  simp only[mE,gN,bh]at h2;rw[e0,cm,ah];simp[oQ,Tryz.f89,h2,dB]
 |b::rest,pre,w7,Y7,w8,Y8,hd=>by
  have aV:pre.length<(bB x).length:=by rw[hd];simp
  have aW:(bB x)[pre.length]=b:=by simp[hd]
  have hs:=hB b (by rw[hd];simp);have ih:=fun w7 Y7 w8 Y8=>IW hlen fU hC hB k RF h1 h2 rest (pre++[b]) w7 Y7 w8 Y8 (by simp[hd]);have w1:IntKind.i64.wrap ((pre.length:Int)+1)=(pre.length:Int)+1:=aw (by unfold aY;omega);unfold oA dp at hs;have qN:=h1 (eu vs lp b);simp only[mE,gN,bh]at qN;rw[ah];by_cases hc:pre.length<(cw x).length
  ·have hy:=hC _ (List.getElem_mem hc);have hw:=pv 2 hy;rw[pw]at hw;have key:fq vs lp ((cw x).drop pre.length) (b::rest)=eU (dj vs (cw x)[pre.length] 2) (eU (eu vs lp b) (fq vs lp ((cw x).drop (pre.length+1)) rest)):=by
    rw[List.drop_eq_getElem_cons hc];conv=>lhs;unfold fq
   rw[key];clear key;have E0:=h1 (dj vs (cw x)[pre.length] 2);simp only[mE,gN,bh]at E0;simp only[List.length_append,List.length_cons,List.length_nil,Nat.zero_add]at ih;generalize eu vs lp b=E at*;generalize fq vs lp ((cw x).drop (pre.length+1)) rest=F at*;generalize dj vs (cw x)[pre.length] 2=T at*;unfold dp at hw;by_cases ht:T.1=0
   ·rw[kK ht];by_cases h0:E.1=0
    ·rw[kK h0];simp[dB,h0]at hs;simp[oQ,Tryz.f89]at ih⊢;simp[aV,aW,hc,aD,dc,hw,ht,hs,w1,ih]
    ·rw[om h0];simp[dB,h0]at hs;simp[oQ,Tryz.f89];simp[aV,aW,hc,aD,dc,hw,ht,hs,h0,qN,dB]
   ·rw[om ht];simp[oQ,Tryz.f89];simp[aV,aW,hc,aD,hw,ht,E0,dB]
  ·have iU:∀n,pre.length≤n→(cw x).drop n=[]:=fun n hn=>List.drop_eq_nil_of_le (by omega);have key:fq vs lp ((cw x).drop pre.length) (b::rest)=eU (eu vs lp b) (fq vs lp [] rest):=by
    rw[iU _ (Nat.le_refl _)];conv=>lhs;unfold fq
   rw[key];clear key;simp only[List.length_append,List.length_cons,List.length_nil,Nat.zero_add,iU (pre.length+1) (by omega)]at ih;generalize eu vs lp b=E at*;generalize fq vs lp [] rest=F at*;by_cases h0:E.1=0
   ·rw[kK h0];simp[dB,h0]at hs;simp[oQ,Tryz.f89]at ih⊢;simp[aV,aW,hc,dc,hs,w1,ih]
   ·rw[om h0];simp[dB,h0]at hs;simp[oQ,Tryz.f89];simp[aV,aW,hc,dc,hs,h0,qN,dB]
end
section
variable {vs:List Vr} {lp:Bool} {x:Sm}
theorem aiG(h:bA x=2)(hlen:(bB x).length<100000000)(fU:(cw x).length<100000000)(hC:∀y∈cw x,RT vs y)(hB:∀b∈bB x,oA vs lp b):RM vs lp x:=by
 have cP:=fun k RF h1 h2 w7 Y7 w8 Y8=>IW hlen fU hC hB k RF h1 h2 (bB x) [] w7 Y7 w8 Y8 rfl;unfold RM;rw[rf,mg (by simp)];rw[if_neg (by omega),if_pos h];simp only[List.length_nil,List.drop_zero]at cP;generalize fq vs lp (cw x) (bB x)=E at*;simp[oQ,Tryz.f89,h]at cP;simp[Tryz.f89,h];rw[cP _ (fun e=>some (.ret (dp e),[]))]
 ·intro a b w7 Y7 w8 Y8;simp[dp]
 ·intro w7 Y7 w8 Y8 b c;simp[dp]
theorem IX{W:aE}(fU:(cw x).length<100000000)(hC:∀y∈cw x,RT vs y)(k:Kt)(RF:EL→bP)
 (h1:∀(e:EL) oO so,¬e.1=0→k .ret ⟨242,aC,[(6,true,.ptr 400 1 0)],mE x e 0 0 0 0 oO .dead .dead .dead .dead so W 1⟩=RF e)
 (h2:∀oO so b c,k (.exit 5) ⟨242,aC,[(0,true,.d (.list (vs.map bF))),(4,true,.ptr 300 1 0),(6,true,.ptr 400 1 0),(20,true,b),(177,true,c)],mE x (0,0) 0 0 0 0 oO .dead .dead .dead .dead so W 1⟩=RF (0,0)):∀(rest pre:List Ex)(oO:Nat)(so:aE),cw x=pre++rest→
 aI ctx 89 (.loop (oQ [1,0,1,0,1,1,1,1,1,1,1,0,1,1,1,1,0,1,0,0])) ⟨242,aC,[(0,true,.d (.list (vs.map bF))),(4,true,.ptr 300 1 0),(6,true,.ptr 400 1 0),(20,true,.d (.int .i64 pre.length))],mE x (0,0) 0 0 0 0 oO .dead .dead .dead .dead so W 1⟩ k=RF (dB (kq vs 1 rest))
 |[],pre,oO,so,hd=>by
  have cm:pre.length=(cw x).length:=by rw[hd];simp
  simp only[mE,gN,bh]at h2;rw[cm,ah];simp[oQ,Tryz.f89,h2,dB,kq]
 |y::rest,pre,oO,so,hd=>by
  have aV:pre.length<(cw x).length:=by rw[hd];simp
  have aW:(cw x)[pre.length]=y:=by simp[hd]
  have hw:=pv 1 (hC y (by rw[hd];simp));rw[pw]at hw;have ih:=fun oO so=>IX fU hC k RF h1 h2 rest (pre++[y]) oO so (by simp[hd]);have w1:IntKind.i64.wrap ((pre.length:Int)+1)=(pre.length:Int)+1:=aw (by unfold aY;omega);have key:kq vs 1 (y::rest)=eU (dj vs y 1) (kq vs 1 rest):=rfl;rw[key];clear key;unfold dp at hw;generalize dj vs y 1=E at*;generalize kq vs 1 rest=F at*;rw[ah];by_cases h0:E.1=0
  ·rw[kK h0];simp[oQ,Tryz.f89]at ih⊢;simp[aV,aW,aD,hw,h0,w1,ih]
  ·rw[om h0];have qN:=fun w Y=>h1 E w Y h0;simp only[mE,gN,bh]at qN;simp[oQ,Tryz.f89];simp[aV,aW,aD,hw,h0,qN,dB]
set_option maxHeartbeats 1000000 in
theorem afn(h:bA x=4)(fU:(cw x).length<100000000)(hC:∀y∈cw x,RT vs y){b:List Sm}(hb:bB x=[b])(hs:oA vs true b){w:Vr}(hq:bg vs (gR x)=some w)(hf:ai ctx 47 [.d (.list (vs.map bF)),.d (.str (gR x))] []=some (.ret (.aU [.d (bF (fV vs (gR x))),.d (.bool (bg vs (gR x)).isSome)]),[]))(h1:¬w.sec=1)(h2:w.arr=false)(h3:w.ty=1):
 ai ctx 89 [.d (.list (vs.map bF)),.d (.agg (smL x)),.d (.bool lp)] []=some (.ret (dp (dB (eU (kq vs 1 (cw x)) (eu vs true b)))),[]):=by
 have cP:=fun W k RF h1 h2 oO so=>IX (W:=W) fU hC k RF h1 h2 (cw x) [] oO so rfl;unfold oA at hs;rw[mg (by simp)];generalize eu vs true b=F at*;generalize kq vs 1 (cw x)=E at*;simp[hq,fV,bF,ep]at hf;simp[oQ,Tryz.f89,h,hb]at cP;simp[dp]at hs;simp[Tryz.f89,h,hf,h1,h2,h3,hb];rw[cP _ _ (fun e=>some (.ret (dp (dB (eU e F))),[]))]
 ·by_cases h0:E.1=0
  ·simp[dB,h0,eU]
  ·simp[dB,h0,eU]
 ·intro e1 e2 oO so h0;simp[dp,eU,h0,dB]
 ·intro oO so c d;simp[dc,hs,dp,eU]
theorem aiH(hl:vs.length<1000000)(h:bA x=4)(fU:(cw x).length<100000000)(hC:∀y∈cw x,RT vs y){b:List Sm}(hb:bB x=[b])(hs:oA vs true b):RM vs lp x:=by
 have hf:=mi hl (gR x);unfold RM;rw[rf];rw[if_neg (by omega),if_neg (by omega),if_neg (by omega),if_pos h];have e:s4 vs (bB x)=eu vs true b:=by rw[hb];rfl
 unfold coE;rw[e];cases hq:bg vs (gR x)with
 |none=>
  rw[mg (by simp)];simp[hq,fV,bF,ep,qJ]at hf;simp[Tryz.f89,h,hf,dp,dB]
 |some w=>
  by_cases h1:w.sec=1
  ·rw[mg (by simp)];simp[hq,fV,bF,ep]at hf;simp[Tryz.f89,h,hf,h1,dp,dB]
  ·by_cases h2:w.arr=true
   ·rw[mg (by simp)];simp[hq,fV,bF,ep]at hf;simp[Tryz.f89,h,hf,h1,h2,dp,dB]
   ·have h2:w.arr=false:=by simpa using h2
    by_cases h3:w.ty=1
    ·rw[afn h fU hC hb hs hq hf h1 h2 h3];simp only[if_neg h1,h2,h3];simp
    ·rw[mg (by simp)];simp[hq,fV,bF,ep]at hf;simp[Tryz.f89,h,hf,h1,h2,h3,dp,dB]
end
theorem DB{α:Type}{l:List α}(h:l.length=1):∃a,l=[a]:=by
 match l,h with
 |[a],_=>exact⟨a,rfl⟩
section
variable {vs:List Vr} (hl:vs.length<1000000)
include hl
theorem aai{lp:Bool}{x:Sm}(hf:iZ x=true)(s7:(bB x).length<100000000)(fU:(cw x).length<100000000)(xI:(dM x).length<100000000)(hB:∀b∈bB x,∀q,oA vs q b):RM vs lp x:=by
 have wC:∃op name to val conds labels fields blocks line,x=.mk op name to val conds labels fields blocks line:=by
  obtain⟨op,name,to,val,conds,labels,fields,blocks,line⟩:=x;exact⟨op,name,to,val,conds,labels,fields,blocks,line,rfl⟩
 have facts:(1≤bA x∧bA x≤9)∧(bA x=1→bk (eD x)=true)∧((bA x=1∨bA x=3∨bA x=5∨bA x=6)→bk (dF x)=true)∧bH (cw x)=true∧cq (bA x) (cw x).length (dW x).length (dM x).length (bB x).length=true:=by
  obtain⟨op,name,to,val,conds,labels,fields,blocks,line,rfl⟩:=wC;simp only[iZ,Bool.and_eq_true,decide_eq_true_eq]at hf;obtain⟨cS,eN,cE,cA,eK,bZ,uT,uU,eO⟩:=hf;refine⟨cS,fun h1=>?_,fun h1=>?_,eK,bZ⟩
  ·simp only[RE]at h1;rw[if_pos h1]at cE;simp only[Bool.and_eq_true]at cE;exact cE.2
  ·simp only[RE]at h1;rw[if_pos h1]at cA;simp only[Bool.and_eq_true]at cA;exact cA.2
 obtain⟨cS,cE,cA,eK,bZ⟩:=facts;have hC:=Bf hl (cw x) eK;have hc:bA x=1∨bA x=2∨bA x=3∨bA x=4∨bA x=5∨bA x=6∨bA x=7∨bA x=8∨bA x=9:=by omega
 rcases hc with h|h|h|h|h|h|h|h|h
 ·exact aiE hl h (rp hl _ (cE h)) (rp hl _ (cA (.inl h)))
 ·exact aiG h s7 fU hC (fun b hb=>hB b hb lp)
 ·exact aiF h s7 (rp hl _ (cA (.inr (.inl h)))) (fun b hb=>hB b hb lp)
 ·rw[h]at bZ;simp[cq]at bZ;obtain⟨b,hb⟩:=DB bZ.2.2.2;exact aiH hl h fU hC hb (hB b (by rw[hb];simp) true)
 ·rw[h]at bZ;simp[cq]at bZ;obtain⟨b,hb⟩:=DB bZ.2.2.2;exact aiC h hb (rp hl _ (cA (.inr (.inr (.inl h))))) (hB b (by rw[hb];simp) true)
 ·rw[h]at bZ;simp[cq]at bZ;obtain⟨b,hb⟩:=DB bZ.2.2.2;exact aiD h hb (rp hl _ (cA (.inr (.inr (.inr h))))) (hB b (by rw[hb];simp) true)
 ·exact aiz h
 ·exact aiA h
 ·rw[h]at bZ;simp[cq]at bZ;exact aiB hl h xI bZ.1 hC
mutual
theorem afo:∀(x:Sm),iZ x=true→Mz x<100000000→∀lp,RM vs lp x
 | .mk op name to val conds labels fields blocks line,hf,hn,lp=>by
  have hfb:cI blocks=true:=by
   simp only[iZ,Bool.and_eq_true]at hf;exact hf.2.2.2.2.2.2.2.2
  have gx:=Hv blocks;simp only[Mz]at hn;exact aai hl hf (by simp only[abN];omega) (by simp only[RG];omega) (by simp only[RH];omega) (fun b hb q=>Nu blocks hfb (by omega) b hb q)
theorem DC:∀(l:List Sm),ej l=true→qt l<100000000→∀x∈l,∀lp,RM vs lp x
 |[],_,_,x,hx,_=>by simp at hx
 |y::r,hf,hn,x,hx,lp=>by
  simp only[ej,Bool.and_eq_true]at hf;simp only[qt]at hn;have h1:=afo y hf.1 (by omega);have h2:=DC r hf.2 (by omega);rcases List.mem_cons.1 hx with h|hx
  ·rw[h];exact h1 lp
  ·exact h2 x hx lp
theorem Nu:∀(bs:List (List Sm)),cI bs=true→tY bs<100000000→∀b∈bs,∀q,oA vs q b
 |[],_,_,b,hb,_=>by simp at hb
 |c::r,hf,hn,b,hb,q=>by
  simp only[cI,Bool.and_eq_true]at hf;simp only[tY]at hn;have aO:=AO c;have h1:=DC c hf.1 (by omega);have h2:=Nu r hf.2 (by omega);rcases List.mem_cons.1 hb with h|hb
  ·rw[h];exact IQ (by omega) (fun x hx=>h1 x hx q)
  ·exact h2 b hb q
end
end
theorem TJ{p:Pg}(hf:pe p=true)(hn:qt p.body<100000000):ai ctx 19 [.d (.agg [.str p.name,.list (p.vars.map bF),.list (p.body.map b5)])] []=some (.ret (dp (dB (r9 p))),[]):=by
 have MG:=hf;simp only[pe,Bool.and_eq_true,decide_eq_true_eq,List.all_eq_true]at MG;obtain⟨_,hvl,ee,hb⟩:=MG;have hml:=AO p.body;exact V3 hf (IQ (by omega) (fun x hx=>DC (by omega) p.body hb hn x hx false))
end Go.Am
end
section
namespace Go.Am
open Go
theorem TL(p:Pg):nf (uR p)=nf p:=by
 unfold nf uR;simp only[AU]
end Go.Am
end
section
namespace Go.Am
open Go Go.Proofs
variable [Inhabited bV]
set_option maxRecDepth 20000
@[simp] def iD(l:List Nat):List D:=l.map fun (n:Nat)=>D.int .i64 (n:Int)
section
variable (ins:List ar) (vars cells:Int) (n1 n2:Nat) (S T:List D)
end
@[simp] def FD(ins:List ar)(vars cells:Int):D:=.agg [.list (ins.map da),.int .i64 vars,.int .i64 cells]
theorem Nv(x y:ar):x=y↔x.op=y.op∧x.a=y.a∧x.b=y.b∧x.n=y.n∧x.m=y.m:=by
 constructor
 ·rintro rfl;simp
 ·intro h;cases x;cases y;simp_all
instance:DecidableEq ar:=fun x y=>decidable_of_iff _ (Nv x y).symm
theorem CU(a b:List ar)(va ca vb cb:Int)(ha:a.length≤1000000)(hl:a.length=b.length)(k:Kt)(R1 R2:bP)
 (h1:∀M,k .ret ⟨45,aC,[(4,true,.d (.bool false))],M⟩=R1) (h2:∀(Y:Env) M,k (.exit 0) ⟨45,aC,Y,M⟩=R2):∀(ra rb:List ar)(i:Nat),a.drop i=ra→b.drop i=rb→i+ra.length=a.length→
 aI ctx 26 (.loop (Code.at (aX Tryz.f26) [1,1,0,1,0,0])) ⟨45,aC,[(2,true,.ptr 200 1 0),(3,true,.ptr 250 1 0),(5,true,.d (.int .i64 i))],
  [⟨200,1,.box [.d (.list (a.map da)),.d (.int .i64 va),.d (.int .i64 ca)]⟩,⟨250,1,.box [.d (.list (b.map da)),.d (.int .i64 vb),.d (.int .i64 cb)]⟩]⟩ k=if ra=rb then R2 else R1
 |[],rb,i,hra,hrb,hi=>by
  have hi:i=a.length:=by simpa using hi
  subst hi;have:rb=[]:=by rw[←hrb,hl];simp
  subst this;rw[ah];simp[Tryz.f26,h2]
 |x::ra,rb,i,hra,hrb,hi=>by
  have bn:i<a.length:=by simp at hi;omega
  have ao8:(i:Int)<a.length:=by omega
  have NQ:i<b.length:=by omega
  have aiI:(i:Int)<b.length:=by omega
  have hx:a[i]=x:=by
   have:=congrArg (·[0]?) hra;simp at this;simpa [bn]using this
  obtain⟨y,hy⟩:∃y,y=b[i]:=⟨_,rfl⟩;have ao9:rb=y::b.drop (i+1):=by rw[←hrb,hy];exact List.drop_eq_getElem_cons NQ
  have ih:=CU a b va ca vb cb ha hl k R1 R2 h1 h2 ra (b.drop (i+1)) (i+1) (by rw[←List.tail_drop,hra];rfl) rfl (by simp at hi;omega);have w1:IntKind.i64.wrap ((i:Int)+1)=(i:Int)+1:=aw (by unfold aY;omega);rw[ao9,ah];simp[Tryz.f26]at ih;simp[Tryz.f26];simp[bn,ao8,NQ,aiI,hx,←hy,w1,ih,h1,aq];have he:=Nv x y;clear ih h1 h2;by_cases q0:x.op=y.op<;>by_cases q1:x.a=y.a<;>by_cases q2:x.b=y.b<;>by_cases q3:x.n=y.n<;>by_cases q4:x.m=y.m<;>simp[q0,q1,q2,q3,q4]at he⊢<;>simp[he]
theorem E1(a b:List ar)(va ca vb cb:Int)(ha:a.length≤1000000):ai ctx 26 [.d (FD a va ca),.d (FD b vb cb)] []=some (.ret (.d (.bool (decide (a=b)&&decide (va=vb)&&decide (ca=cb)))),[]):=by
 rw[ahz (by simp)];by_cases hl:a.length=b.length
 ·have h:=fun k R1 R2 h1 h2=>CU a b va ca vb cb ha hl k R1 R2 h1 h2 a b 0 rfl rfl (by simp);simp[Tryz.f26]at h;by_cases hv:va=vb
  ·by_cases hc:ca=cb
   ·simp[Tryz.f26,hl,hv,hc];rw[hv,hc]at h;rw[h _ (some (.ret (.d (.bool false)),[])) (some (.ret (.d (.bool true)),[])) (by simp) (by simp)];by_cases e:a=b<;>simp[e]
   ·simp[Tryz.f26,hl,hv,hc]
  ·simp[Tryz.f26,hl,hv]
 ·have hI:¬((a.length:Int)=b.length):=by omega
  have bE:a≠b:=fun h=>hl (by rw[h]);simp[Tryz.f26,hI,bE,hl]
theorem aiJ(e:EL):(dB e).1=0↔e.1=0:=by
 unfold dB;split<;>simp[*]
theorem V4{p:Pg}(hl:iM p.body=true)(hw:dH (mS p)<10000000):∃b,ai ctx 35 [.d (mS p)] []=some (.ret (.d (.bool b)),[])∧(b=true→yI p):=by
 obtain⟨h1,h2,h3⟩:=HI (p:=p) (by simp only[mS]at hw;omega);obtain⟨B,rH⟩:=Zw h1 h2;have j9:=adT h1 h2;cases B with
 |false=>
  refine⟨false,?_,by simp⟩;rw[PH (by simp)];simp[Tryz.f35,rH]
 |true=>
  cases hf:pe p with
  |false=>
   rw[hf]at j9;refine⟨false,?_,by simp⟩;rw[PH (by simp)];simp[Tryz.f35,rH,j9]
  |true=>
   rw[hf]at j9;have hr:=TJ hf (by omega);unfold dp at hr;refine⟨decide ((r9 p).1=0),?_,fun h=>⟨hf,hl,by simpa using h,hw⟩⟩;rw[PH (by simp)];simp[Tryz.f35,rH,j9,hr,aiJ]
theorem V5{p:Pg}{g:List ar×Int×Int}(h:nf p=some g):g.1.length≤4096:=by
 unfold nf at h;simp only at h;split at h
 ·cases h
 ·cases h;simp only[List.length_append,List.length_map,List.length_cons,List.length_nil];omega
theorem V6{p:Pg}:ai ctx 26 [.d (EX (nf p)),.d (EX (nf p))] []=some (.ret (.d (.bool true)),[]):=by
 cases hg:nf p with
 |none=>
  have:=E1 [] [] 0 0 0 0 (by simp);simp only[FD,List.map_nil]at this;simpa [EX]using this
 |some g=>
  have:=E1 g.1 g.1 g.2.1 g.2.2 g.2.1 g.2.2 (by have:=V5 hg;omega);simp only[FD]at this;simpa [EX]using this
theorem Fc{p:Pg}(hl:iM p.body=true)(hw:dH (mS p)<10000000)(haw:ai ctx 34 [] []=some (.ret (.d (.bool true)),[])):ai ctx 9 [.d (mS p)] []=some (.ret (.d (.bool true)),[]):=by
 obtain⟨b,hb,cQ⟩:=V4 hl hw;rw[an0 (by simp)];try simp at hb
 cases b with
 |false=>simp[Tryz.f9,haw,hb]
 |true=>
  have h:=cQ rfl;have h1:=A9 h;have h2:=IL h;have h3:=A9 h.fo;have e:nf (uR p)=nf p:=TL p;rw[e]at h3;have hs:=V6 (p:=p);cases hg:nf p with
  |none=>
   rw[hg]at h1 h3 hs;simp[uR,EX,Zb]at h1 h2 h3 hs;simp[Tryz.f9,haw,hb,h1,h2,h3,hs]
  |some g=>
   rw[hg]at h1 h3 hs;simp[uR,EX,Zb]at h1 h2 h3 hs;simp[Tryz.f9,haw,hb,h1,h2,h3,hs]
end Go.Am
end
section
namespace Go.Am
open Go
set_option maxRecDepth 20000
def apa:Nat→Nat
 |99=>228
 |143=>230
 |206=>274
 |217=>275
 |219=>276
 |224=>306
 |225=>305
 |266=>304
 |267=>307
 |314=>328
 |_=>0
def apb:Nat→Nat
 |3=>3
 |4=>4
 |5=>5
 |9=>9
 |46=>158
 |51=>308
 |146=>358
 |_=>0
def apc:Nat→Nat
 |1=>2
 |_=>0
def rho:Go.Shelf.Ren:=⟨apa,apb,apc⟩
theorem aaj:Go.Proofs.Lays.n143 Go.Proofs.Tryz.prog rho where
 mixed:=by kernel_rfl
 f143:=by kernel_rfl
 f217:=by kernel_rfl
 f219:=by kernel_rfl
 f224:=by kernel_rfl
 f225:=by kernel_rfl
 f266:=by kernel_rfl
 f267:=by kernel_rfl
 f314:=by kernel_rfl
 t3:=by kernel_rfl
 a3:=by intro w;kernel_rfl
 z3:=by intro w;kernel_rfl
 v3:=by intro w;kernel_rfl
 t4:=by kernel_rfl
 a4:=by intro w;kernel_rfl
 z4:=by intro w;kernel_rfl
 v4:=by intro w;kernel_rfl
 t5:=by kernel_rfl
 a5:=by intro w;kernel_rfl
 z5:=by intro w;kernel_rfl
 v5:=by intro w;kernel_rfl
 t9:=by kernel_rfl
 a9:=by intro w;kernel_rfl
 z9:=by intro w;kernel_rfl
 v9:=by intro w;kernel_rfl
 t46:=by kernel_rfl
 a46:=by intro w;kernel_rfl
 z46:=by intro w;kernel_rfl
 v46:=by intro w;kernel_rfl
 t51:=by kernel_rfl
 a51:=by intro w;kernel_rfl
 z51:=by intro w;kernel_rfl
 v51:=by intro w;kernel_rfl
 t146:=by kernel_rfl
 a146:=by intro w;kernel_rfl
 z146:=by intro w;kernel_rfl
 v146:=by intro w;kernel_rfl
 g1:=by kernel_rfl
theorem aak:Go.Proofs.Lays.n217 Go.Proofs.Tryz.prog rho where
 mixed:=by kernel_rfl
 f217:=by kernel_rfl
 f266:=by kernel_rfl
 t3:=by kernel_rfl
 a3:=by intro w;kernel_rfl
 z3:=by intro w;kernel_rfl
 v3:=by intro w;kernel_rfl
 t5:=by kernel_rfl
 a5:=by intro w;kernel_rfl
 z5:=by intro w;kernel_rfl
 v5:=by intro w;kernel_rfl
 t9:=by kernel_rfl
 a9:=by intro w;kernel_rfl
 z9:=by intro w;kernel_rfl
 v9:=by intro w;kernel_rfl
theorem aft:Go.Proofs.Lays.n99 Go.Proofs.Tryz.prog rho where
 mixed:=by kernel_rfl
 f99:=by kernel_rfl
 f206:=by kernel_rfl
 t3:=by kernel_rfl
 a3:=by intro w;kernel_rfl
 z3:=by intro w;kernel_rfl
 v3:=by intro w;kernel_rfl
 t4:=by kernel_rfl
 a4:=by intro w;kernel_rfl
 z4:=by intro w;kernel_rfl
 v4:=by intro w;kernel_rfl
 t9:=by kernel_rfl
 a9:=by intro w;kernel_rfl
 z9:=by intro w;kernel_rfl
 v9:=by intro w;kernel_rfl
end Go.Am
end
section
namespace Go.Am
open Go Go.Proofs
variable [Inhabited bV]
set_option maxRecDepth 20000
theorem ue{P:Program}{g:FuncId}{fn:Func}(hf:P.funcs[g]?=some fn)(hb:fn.body.isSome=true)(hn:(fn.name == "runtime.NumGoroutine")=false):gC P g=true:=by
 unfold gC;rw[hf];simp only[hb,hn];rfl
theorem u9{w F s v}(h:aK w F (.str s) v):∃b:ByteArray,v=.string b∧b.data.toList=s:=by
 cases h with
 |str b s h=>exact⟨b,rfl,h⟩
theorem Nw{w F k n v}(h:aK w F (.int k n) v):v=.int k n:=by cases h;rfl
theorem Bg{ds:List D}{a b:D}{w F}{vs:Array Value}(hd:ds=[a,b])(hl:ds.length=vs.size)(hr:∀(i:Nat) x v,ds[i]?=some x→vs[i]?=some v→aK w F x v):
 ∃x y,vs=#[x,y]∧aK w F a x∧aK w F b y:=by
 subst hd;obtain⟨l⟩:=vs;match l,hl with
 |[x,y],_=>exact⟨x,y,rfl,hr 0 a x rfl rfl,hr 1 b y rfl rfl⟩
theorem aal{w:World}{F}(hg:eF w F aC):∃m,w.cell? ⟨2,0,none⟩=some (.int .i64 m):=by
 obtain⟨_,_,x',h1,h2⟩:=hg (2,.int .i64 (id (α:=Int) (default:bV))) (by simp[aC]);generalize id (α:=Int) (default:bV)=z at h1;obtain rfl:=Nw h1;exact⟨z,h2 0 _ (by simp[Value.cells])⟩
theorem aiK:pL ctx 228 (liftO hpO):=by
 refine pL.lift ⟨ue Tryz.func228 (by kernel_rfl) (by kernel_rfl),fun ds d hd F w vs hg mj hl hr=>?_⟩;unfold hpO at hd;split at hd
 ·rename_i s p;obtain⟨x,y,rfl,h1,h2⟩:=Bg rfl hl hr;obtain⟨a,rfl,rfl⟩:=u9 h1;obtain⟨b,rfl,rfl⟩:=u9 h2;refine (Any.strings_HasPrefix aft a b w).mono ?_;rintro e w' ⟨rfl,rfl⟩;cases hd;exact⟨_,rfl,Go.RowKit.Below.refl _ _,.bool _⟩
 ·cases hd
theorem aiL:pL ctx 275 (liftO ibO):=by
 refine pL.lift ⟨ue Tryz.func275 (by kernel_rfl) (by kernel_rfl),fun ds d hd F w vs hg mj hl hr=>?_⟩;unfold ibO at hd;split at hd
 ·rename_i s p;obtain⟨x,y,rfl,h1,h2⟩:=Bg rfl hl hr;obtain⟨a,rfl,rfl⟩:=u9 h1;obtain rfl:=Nw h2;refine (Any.stringslite_IndexByte aak a _ w).mono ?_;rintro e w' ⟨rfl,rfl⟩;cases hd;exact⟨_,rfl,Go.RowKit.Below.refl _ _,.int _ _⟩
 ·cases hd
theorem afu:pL ctx 230 (liftO idxO):=by
 refine pL.lift ⟨ue Tryz.func230 (by kernel_rfl) (by kernel_rfl),fun ds d hd F w vs hg mj hl hr=>?_⟩;unfold idxO at hd;split at hd
 ·rename_i s p;split at hd
  ·rename_i hs;obtain⟨x,y,rfl,h1,h2⟩:=Bg rfl hl hr;obtain⟨a,rfl,rfl⟩:=u9 h1;obtain⟨b,rfl,rfl⟩:=u9 h2;obtain⟨m,hm⟩:=aal hg;refine (Any.strings_Index aaj a b m w (by simpa using hs) hm).mono ?_;rintro e w' ⟨rfl,rfl⟩;cases hd;exact⟨_,rfl,Go.RowKit.Below.refl _ _,.int _ _⟩
  ·cases hd
 ·cases hd
theorem aam:∀g h,ctx.wJ g=some h→pL ctx g h:=by
 intro g h hg;have rK:Vd g=some h:=hg;unfold Vd at rK;split at rK;all_goals first|(cases rK;first|exact aiK|exact aiL|exact afu)|cases rK
end Go.Am
end
section
namespace Go.Am
open Go
theorem IY{P:Program}{w:World}{n:String}{d:DataW Unit}:∀{l:List (String×DataW Unit)}{ps:List MemPlace},DataW.LaidVars P w l ps→(n,d)∈l→
 ∃g t cs fuel p,P.globalNamed n=some g∧(P.globals[g]?).map (·.type)=some t∧w.var? P n=some cs∧DataW.trod (fun _=>()) P w 0 (fun _=>true) false fuel t cs.toList=some (d,p)
 |[],_,_,hm=>by simp at hm
 |(n',d')::r,ps,⟨g,t,cs,fuel,p,q,h1,h2,h3,h4,h5,_⟩,hm=>by
  rcases List.mem_cons.1 hm with hm|hm
  ·cases hm;exact⟨g,t,cs,fuel,p,h1,h2,h3,h4⟩
  ·exact IY h5 hm
theorem TM{H:Type}{enc:TypeId×Value→H}{P:Program}{w:World}{base:Nat}{sp:Nat→Bool}{held:Bool}{fuel:Nat}{t e:TypeId}{n:Nat}{k:IntKind}{cs:List Value}{ds:List (DataW H)}{p:List MemPlace}
 (ha:P.underlying t=some (.array n e)) (he:P.underlying e=some (.int k)) (hc:P.cellsOf e=1) (h:DataW.trod enc P w base sp held fuel t cs=some (.agg ds,p)):
 cs.length=P.cellsOf t∧ds.length=n∧∀i,i<n→∃z,cs[i]?=some (.int k z)∧ds[i]?=some (.lit (.int k z)):=by
 cases fuel with
 |zero=>simp[DataW.trod]at h
 |succ m=>
  unfold DataW.trod at h;rw[ha]at h;simp only at h;split at h
  ·rename_i hl;simp only[Option.map_eq_some_iff,Prod.mk.injEq,DataW.agg.injEq]at h;obtain⟨xs,hx,rfl,_⟩:=h;have h1:xs.length=n:=by simpa using mapM_some_length hx
   refine⟨hl,by simpa using h1,fun i hi=>?_⟩;have h2:=mapM_some_get hx i i (by simp[hi]);have h3:i<xs.length:=by omega
   have h4:xs[i]?=some xs[i]:=by simp[h3]
   rw[h4,hc]at h2;obtain⟨z,h5,h6,_⟩:=DataW.trod_int he h2;refine⟨z,?_,by simp[h4,h6]⟩;have h7:=congrArg (·[0]?) h5;simpa [List.getElem?_take,List.getElem?_drop]using h7
  ·cases h
theorem IZ{P:Program}{W:World}{l:List (String×DataW Unit)}{name:String}{g:Nat}{t e:TypeId}{n:Nat}{k:IntKind}{zs:List Int}
 (hl:laidMet P l W) (hm:(name,DataW.agg (zs.map fun z=>.lit (.int k z)))∈l) (hg:P.globalNamed name=some g) (ht:(P.globals[g]?).map (·.type)=some t)
 (ha:P.underlying t=some (.array n e)) (he:P.underlying e=some (.int k)) (hc:P.cellsOf e=1) (hn:0<n) (hct:P.cellsOf t=n):
 (g<W.heap.size∧∀cs,D.agg (zs.map fun z=>.int k z)=.agg cs→∃cur e fz,W.heap[g]?=some (.cells cur e fz)∧cur.size=cs.length)∧∃x',aK W (fun _=>False) (.agg (zs.map fun z=>.int k z)) x'∧∀(i:Nat)(c:Value),x'.cells[i]?=some c→W.cell? ⟨g,i,none⟩=some c:=by
 obtain⟨ps,hv,_⟩:=hl;obtain⟨g',t',cs,fuel,p,h1,h2,h3,h4⟩:=IY hv hm;obtain rfl:=Option.some.inj (hg.symm.trans h1);obtain rfl:=Option.some.inj (ht.symm.trans h2);obtain⟨YL,h5,h6⟩:=TM ha he hc h4;rw[hct]at YL;simp at h5;have h7:∀i z,zs[i]?=some z→W.cell? ⟨g,i,none⟩=some (.int k z):=by
  intro i z hz;have hi:i<n:=by
   have:=(List.getElem?_eq_some_iff.1 hz).1;omega
  obtain⟨z',h8,h9⟩:=h6 i hi;simp[hz]at h9;subst h9;rw[World.var?_cell hg h3 i];simpa using h8
 refine⟨⟨?_,?_⟩,.agg (zs.map fun z=>Value.int k z).toArray,?_,?_⟩
 ·have hz:∃z,zs[0]?=some z:=⟨zs[0]'(by omega),by simp[show 0<zs.length by omega]⟩
  obtain⟨z,hz⟩:=hz;exact (AP (h7 0 z hz)).1
 ·rintro ll apd;obtain rfl:=D.agg.inj apd;unfold World.var? at h3;rw[hg]at h3;simp only[Option.bind_some]at h3;split at h3
  ·rename_i cur e' fz hh;cases h3;exact⟨_,_,_,hh,by simp at h5 YL⊢;omega⟩
  ·cases h3
 ·refine aK.nj (by simp) (fun v hv=>?_) (fun i c v dL hv=>?_)
  ·simp at hv;obtain⟨z,_,rfl⟩:=hv;rfl
  ·simp only[List.getElem?_map,Option.map_eq_some_iff]at dL hv;obtain⟨z,hz,rfl⟩:=dL;obtain⟨z',sG,rfl⟩:=hv;rw[hz]at sG;cases sG;exact .int k z
 ·intro i c hi;simp[Value.cells]at hi;obtain⟨z,hz,rfl⟩:=hi;exact h7 i z hz
end Go.Am
end
section
namespace Go.Am
open Go
variable {H:Type} {enc:TypeId×Value→H}
theorem Qe{a:Assume}{C:Checked}{os:Os}{f:FuncId}{fn:Func}{s:OpenSpec}{k:(H:Type)→List (DataW H)→Bool}(hk:s.cond=some k){conds:List PathCond}{apart fresh handsOn again:Bool}{X:World→Array Value→Prop}{F:Stop.Interp}
 (hX:∀(w w':World)(args:Array Value),w.heap=w'.heap→X w args→X w' args)
 (own:ownKnob C.prog.godebug=none) (started:os.Started) (afv:C.prog.inits.idxOf? f=none) (QG:C.prog.funcs[f]?=some fn)
 (witness:∃(w:World)(tape:Tape)(i:Input),w.os=os∧(w.forCall tape i).Shaped C.prog∧i.vars=[]∧Input.okWide C.prog (w.forCall tape i) .any w.heap.size f i∧
  ((s.pre enc C.prog fn conds apart (w.forCall tape i).memory i.args∧X (w.forCall tape i).memory i.args)∧sizedMet enc C.prog fn s apart (w.forCall tape i).memory i.args)∧a.holds C.prog (lone (Frame.enter C.prog f i.args .normal) [] (w.forCall tape i)))
 (V7:∀(W:World)(base:Nat)(args:Array Value)(ds gs:List (DataW H))(before:List MemPlace),
  (∀(j:Nat) t v,fn.params[j]?=some t→args[j]?=some v→Value.okWide C.prog W .any base t v)→
  DataW.Whole enc C.prog fn.params.toList s.vars apart W args.toList ds gs before→k H (ds++gs)=true→X W args→W.ShapedOpen C.prog→
  Calls C.prog f args W fun e W'=>∃v,e=.returned v∧(s.at F).post enc C.prog fn apart fresh handsOn again W args v W'):
 ReturnsInHanded a C os f .any (fun w args=>(s.pre enc C.prog fn conds apart w args∧X w args)∧sizedMet enc C.prog fn s apart w args) ((s.at F).post enc C.prog fn apart fresh handsOn again):=by
 refine returnsInHanded_of_calls own started afv witness ?_;intro w tape i _ rH _ cQ jH _;obtain⟨_,_,_,fn',ape,_,_,_,_,cA⟩:=cQ;have e:fn'=fn:=Option.some.inj (ape.symm.trans QG);subst e;obtain⟨⟨hp,hx⟩,hz⟩:=jH;obtain⟨ds,gs,before,hw,hc,ny⟩:=(OpenSpec.pre_some hk conds apart _ _).1 hp;have qz:=DataW.Whole.of_heap (w':=w.forCall tape i) (by rfl) hw;refine (V7 (w.forCall tape i) w.heap.size i.args ds gs before cA qz ny (hX _ _ _ (by rfl) hx) rH).mono fun e W' ⟨v,he,hp⟩=>?_;subst he;exact ChangeSpec.post_blind hp
theorem CV{C:Checked}{os:Os}{f:FuncId}{fn:Func}{s:OpenSpec}{k:(H:Type)→List (DataW H)→Bool}(hk:s.cond=some k){conds:List PathCond}{apart:Bool}{X:World→Array Value→Prop}(modest:Bool)(w0:World)(args:Array Value)(fuel:Nat)(pO:w0.os=os)
 (rH:(w0.forCall (fun _ _=>0) ⟨#[],args,[]⟩).Shaped C.prog)
 (cQ:Input.okWideB C.prog (w0.forCall (fun _ _=>0) ⟨#[],args,[]⟩) f ⟨#[],args,[]⟩=true)
 {x:List (DataW H)×List (DataW H)×List MemPlace} (hx:DataW.whole enc C.prog (w0.forCall (fun _ _=>0) ⟨#[],args,[]⟩).memory fn.params.toList s.vars apart args.toList fuel=some x)
 (eK:conds.all (PathCond.test C.prog ⟨fn.params.toList,x.1,s.bare.plain.varTypes C.prog,x.2.1⟩)=true) (ny:k H (x.1++x.2.1)=true)
 (bQ:s.bare.sizedB enc C.prog fn apart (w0.forCall (fun _ _=>0) ⟨#[],args,[]⟩).memory args fuel=true)
 (hX:X (w0.forCall (fun _ _=>0) ⟨#[],args,[]⟩).memory args):
 ∃(w:World)(tape:Tape)(i:Input),w.os=os∧(w.forCall tape i).Shaped C.prog∧i.vars=[]∧Input.okWide C.prog (w.forCall tape i) .any w.heap.size f i∧
  ((s.pre enc C.prog fn conds apart (w.forCall tape i).memory i.args∧X (w.forCall tape i).memory i.args)∧sizedMet enc C.prog fn s apart (w.forCall tape i).memory i.args)∧({modest:=modest}:Assume).holds C.prog (lone (Frame.enter C.prog f i.args .normal) [] (w.forCall tape i)):=
 ⟨w0,fun _ _=>0,⟨#[],args,[]⟩,pO,rH,(Input.okWide_of_okWideB (base:=0) cQ).1,(Input.okWide_of_okWideB cQ).2,
  ⟨⟨(OpenSpec.pre_some hk conds apart _ _).2 ⟨x.1,x.2.1,x.2.2,DataW.Whole_of_whole hx,eK,ny⟩,hX⟩,sizedMet_of_sizedB bQ⟩,by
  simp only[Assume.holds];exact⟨by simp,by simp,fun _=>Modest.zero,by simp,by simp⟩⟩
def TN{H:Type}(enc:TypeId×Value→H)(P:Program)(s:OpenSpec)(k:(H:Type)→List (DataW H)→Bool)(conds:List PathCond)(apart:Bool)(w:World)(ts:List TypeId)(args:List Value)(fuel:Nat):Bool:=
 match DataW.whole enc P w ts s.vars apart args fuel with
 |some x=>conds.all (PathCond.test P ⟨ts,x.1,s.bare.plain.varTypes P,x.2.1⟩)&&k H (x.1++x.2.1)
 |none=>false
theorem CW{C:Checked}{os:Os}{f:FuncId}{fn:Func}{s:OpenSpec}{k:(H:Type)→List (DataW H)→Bool}(hk:s.cond=some k){conds:List PathCond}{apart:Bool}{X:World→Array Value→Prop}(modest:Bool)(w0:World)(args:Array Value)(fuel:Nat)(pO:w0.os=os)
 (rH:(w0.forCall (fun _ _=>0) ⟨#[],args,[]⟩).Shaped C.prog)
 (cQ:Input.okWideB C.prog (w0.forCall (fun _ _=>0) ⟨#[],args,[]⟩) f ⟨#[],args,[]⟩=true)
 (hx:TN enc C.prog s k conds apart (w0.forCall (fun _ _=>0) ⟨#[],args,[]⟩).memory fn.params.toList args.toList fuel=true)
 (bQ:s.bare.sizedB enc C.prog fn apart (w0.forCall (fun _ _=>0) ⟨#[],args,[]⟩).memory args fuel=true)
 (hX:X (w0.forCall (fun _ _=>0) ⟨#[],args,[]⟩).memory args):
 ∃(w:World)(tape:Tape)(i:Input),w.os=os∧(w.forCall tape i).Shaped C.prog∧i.vars=[]∧Input.okWide C.prog (w.forCall tape i) .any w.heap.size f i∧
  ((s.pre enc C.prog fn conds apart (w.forCall tape i).memory i.args∧X (w.forCall tape i).memory i.args)∧sizedMet enc C.prog fn s apart (w.forCall tape i).memory i.args)∧({modest:=modest}:Assume).holds C.prog (lone (Frame.enter C.prog f i.args .normal) [] (w.forCall tape i)):=by
 unfold TN at hx;split at hx
 ·rename_i x hw;simp only[Bool.and_eq_true]at hx;exact CV hk modest w0 args fuel pO rH cQ hw hx.1 hx.2 bQ hX
 ·cases hx
end Go.Am
end
