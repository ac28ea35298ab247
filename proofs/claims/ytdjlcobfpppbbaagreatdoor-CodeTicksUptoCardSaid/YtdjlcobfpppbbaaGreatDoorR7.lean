/-
  Texts of one proof, one behind the other.
-/
import Derived.Test.YtdjlcobfpppbbaaGreatDoorR6
import Derived.KernelRfl
import Derived.Test.YtdjlcobfpppbbaaGreatDoorProg
import Derived.Shelf.Lays
import Derived.Shelf.Strings.Search3
import Derived.Shelf.Strings.Prefix
import Derived.LaidLaws
import Derived.JoinedCond
set_option linter.all false
section
namespace Go.Am
open Go Go.Proofs
variable [Inhabited bX]
set_option maxRecDepth 20000
def Mk.C0(m:Mk)(at_ cell:Int)(b:List ar)(c u:Int):Mk:=
 ⟨m.out++(ins 11 0 0 0 0::ins 13 at_ cell 0 0::ins 10 (m.out.length+b.length+8) 0 0 0::cG (m.out.length+3) b++[ins 2 at_ 0 0 0,ins 2 (cell+1) 0 0 0,ins 8 0 8 0 0,ins 6 at_ 0 0 0,ins 9 m.out.length 0 0 0]),c,max m.most u,gK m.ex (cE (-1) (m.out.length+3) b),m.lv++cE (-2) (m.out.length+3) b⟩
def MkF(p:Pg)(m:Mk)(s:Sm)(at_ cell:Int)(r:bS):Prop:=∃v1 v2 v3,r=some (.ret (.aW []),[(0,.box [.ptr 4 0 0]),(0,.box [.d (.int .i64 at_)]),(0,.box [.d (.int .i64 cell)]),(0,bh s),(0,gJ p m 0 5 6 7 v1 v2 v3),(v1,.vec 5 (m.out.map dc)),(v2,.vv (m.ex.map fL) none),(v3,.vec 1 (m.lv.map dC))])
section
variable {p:Pg}
theorem ae7{name:Tx}{to val:Ex}{conds:List Ex}{b:List Sm}{line at_ cell:Int}(hB:sA p true b)(m:Mk)(hm:0≤m.most)(hc:0≤m.cells)(hI:iu m)(hex:m.ex≠[])(nS:aX (cell+1))
 (hl:m.out.length+(ag p.vars b m.cells).1.length+8<99999990) (aO:(ag p.vars b m.cells).2<99999990) (fH:m.ex.length+iw b<99999990):
 MkF p (m.C0 at_ cell (ag p.vars b m.cells).1 (ag p.vars b m.cells).2 (max 2 (bg b))) (.mk 4 name to val conds [] [] [b] line) at_ cell (ai ctx 210 [.ptr 0 0 0,.ptr 1 0 0,.ptr 2 0 0,.ptr 3 0 0] [.box [.ptr 4 0 0],.box [.d (.int .i64 at_)],.box [.d (.int .i64 cell)],bh (.mk 4 name to val conds [] [] [b] line),gJ p m 0 5 6 7 0 0 0,.vec 5 (m.out.map dc),.vv (m.ex.map fL) none,.vec 1 (m.lv.map dC)]):=by
 have g0:=CO p m 0;obtain⟨a1,a2,a3,g1⟩:=mb p m 0 (by omega) (by decide);have l1:(m.put (ins 11 0 0 0 0) 0).out.length=m.out.length+1:=by simp[Mk.put]
 generalize m5:m.put (ins 11 0 0 0 0) 0=M1 at g1 l1;obtain⟨b1,b2,b3,g2⟩:=ji p M1 0 1 (ins 13 at_ cell 0 0) (by omega) (by decide);have l2:(M1.put (ins 13 at_ cell 0 0) (0+1)).out.length=m.out.length+2:=by simp[Mk.put];omega
 generalize oC:M1.put (ins 13 at_ cell 0 0) (0+1)=M2 at g2 l2;obtain⟨c1,c2,c3,g3⟩:=wB p M2 (0+1) 0 (by omega) (by decide);rw[show (0:Int)+1+ -1=0 by omega]at g3;have l3:(M2.put (ins 10 0 0 0 0) 0).out.length=m.out.length+3:=by simp[Mk.put];omega
 generalize qv:M2.put (ins 10 0 0 0 0) 0=M3 at g3 l3;have f3:M3.cells=m.cells∧M3.ex=m.ex∧M3.lv=m.lv∧0≤M3.most∧M3.most=max m.most 1∧M3.out=m.out++[ins 11 0 0 0 0,ins 13 at_ cell 0 0,ins 10 0 0 0 0]:=by
  subst qv oC m5;simp[Mk.put];omega
 have q3:iu M3:=by
  subst qv oC m5;exact ((hI.put _ _).put _ _).put _ _
 obtain⟨d1,d2,d3,g4⟩:=hB M3 f3.2.2.2.1 (by rw[f3.1];exact hc) q3 (fun _=>by rw[f3.2.1];exact hex) (by rw[f3.1];omega) (by rw[f3.1];omega) (by rw[f3.2.1];omega);rw[f3.1]at g4;have l4:(M3.aM (ag p.vars b m.cells).1 (ag p.vars b m.cells).2 (bg b)).out.length=m.out.length+3+(ag p.vars b m.cells).1.length:=by
  show (M3.out++cG _ _).length=_;rw[List.length_append,mq,l3]
 generalize qV:M3.aM (ag p.vars b m.cells).1 (ag p.vars b m.cells).2 (bg b)=M4 at g4 l4;obtain⟨e1,e2,e3,g5⟩:=CQ p M4 0 at_ 1 (by omega) (by decide);rw[if_neg (by decide)]at g5;have l5:(M4.put (ins 2 at_ 0 0 0) (0+1)).out.length=m.out.length+4+(ag p.vars b m.cells).1.length:=by simp[Mk.put];omega
 generalize vh:M4.put (ins 2 at_ 0 0 0) (0+1)=M5 at g5 l5;obtain⟨h1,h2,h3,g6⟩:=CQ p M5 (0+1) (cell+1) 1 (by omega) (by decide);rw[if_neg (by decide)]at g6;have l6:(M5.put (ins 2 (cell+1) 0 0 0) (0+1+1)).out.length=m.out.length+5+(ag p.vars b m.cells).1.length:=by simp[Mk.put];omega
 generalize IE:M5.put (ins 2 (cell+1) 0 0 0) (0+1+1)=M6 at g6 l6;obtain⟨i1,i2,i3,g7⟩:=ji p M6 (0+1+1) (-1) (ins 8 0 8 0 0) (by omega) (by decide);have l7:(M6.put (ins 8 0 8 0 0) (0+1+1+ -1)).out.length=m.out.length+6+(ag p.vars b m.cells).1.length:=by simp[Mk.put];omega
 generalize IF:M6.put (ins 8 0 8 0 0) (0+1+1+ -1)=M7 at g7 l7;obtain⟨j1,j2,j3,g8⟩:=pz p M7 (0+1+1+ -1) at_ (by omega) (by decide);rw[show (0:Int)+1+1+ -1+ -1=0 by omega]at g8;have l8:(M7.put (ins 6 at_ 0 0 0) 0).out.length=m.out.length+7+(ag p.vars b m.cells).1.length:=by simp[Mk.put];omega
 generalize hM8:M7.put (ins 6 at_ 0 0 0) 0=M8 at g8 l8;obtain⟨k1,k2,k3,g9⟩:=CP p M8 0 m.out.length (by omega) (by decide);have l9:(M8.put (ins 9 m.out.length 0 0 0) 0).out.length=m.out.length+8+(ag p.vars b m.cells).1.length:=by simp[Mk.put];omega
 generalize hM9:M8.put (ins 9 m.out.length 0 0 0) 0=M9 at g9 l9;have g10:=qu p M9 0 (m.out.length+2) (by omega) (by omega);have eS:M9.lead (m.out.length+2:Nat)=m.C0 at_ cell (ag p.vars b m.cells).1 (ag p.vars b m.cells).2 (max 2 (bg b)):=by
  have o9:M9.out=(m.out++[ins 11 0 0 0 0,ins 13 at_ cell 0 0])++ins 10 0 0 0 0::(cG (m.out.length+3) (ag p.vars b m.cells).1++[ins 2 at_ 0 0 0,ins 2 (cell+1) 0 0 0,ins 8 0 8 0 0,ins 6 at_ 0 0 0,ins 9 m.out.length 0 0 0]):=by
   subst hM9 hM8 IF IE vh qV;simp[Mk.put,Mk.aM,l3,f3]
  have x9:M9.ex=gK m.ex (cE (-1) (m.out.length+3) (ag p.vars b m.cells).1)∧M9.lv=m.lv++cE (-2) (m.out.length+3) (ag p.vars b m.cells).1∧M9.cells=(ag p.vars b m.cells).2∧M9.most=max m.most (max 2 (bg b)):=by
   subst hM9 hM8 IF IE vh qV;simp[Mk.put,Mk.aM,l3,f3];omega
  unfold Mk.lead Mk.C0;rw[l9];simp only[x9,Mk.mk.injEq,and_true];rw[o9];have:=qp (m.out++[ins 11 0 0 0 0,ins 13 at_ cell 0 0]) (ins 10 0 0 0 0) (cG (m.out.length+3) (ag p.vars b m.cells).1++[ins 2 at_ 0 0 0,ins 2 (cell+1) 0 0 0,ins 8 0 8 0 0,ins 6 at_ 0 0 0,ins 9 m.out.length 0 0 0]) ((m.out.length+8+(ag p.vars b m.cells).1.length:Nat):Int);have e2:((m.out++[ins 11 0 0 0 0,ins 13 at_ cell 0 0]).length:Int)=((m.out.length+2:Nat):Int):=by simp
  rw[e2]at this;rw[this];simp[ins];omega
 rw[eS]at g10;generalize m.C0 at_ cell (ag p.vars b m.cells).1 (ag p.vars b m.cells).2 (max 2 (bg b))=M10 at*;have w1:IntKind.i64.wrap (cell+1)=cell+1:=au nS;rw[l2]at g3;clear m5 oC qv qV vh IE IF hM8 hM9 eS f3;have r8:List.range 8=[0,1,2,3,4,5,6,7]:=rfl;rw[adi (by simp)];simp[ins]at g0 g1 g2 g3 g4 g5 g6 g7 g8 g9 g10;simp[Tryz.f210,aq,df,w1,r8,g0,g1,g2,g3,g4,g5,g6,g7,g8,g9,g10];exact⟨_,_,_,rfl⟩
end
def Mk.opn(m:Mk):Mk:={m with ex:=m.ex++[[]]}
theorem iu.opn{m:Mk}(h:iu m):iu m.opn:=
 ⟨h.1,fun r hr=>by
  rcases List.mem_append.1 hr with hr|hr
  ·exact h.2 r hr
  ·simp at hr;subst hr;simp⟩
def Mk.qW(m:Mk)(ex:List (List Int))(row:List Int):Mk:={m with out:=jg m.out row m.out.length,ex:=ex}
theorem IG{p:Pg}{s:Sm}{m M:Mk}{row:List Int}(hM:M.ex=m.ex++[row])(aO:E4 p M 0 s (.ret (.aW [])) (ai ctx 211 [.ptr 0 0 0,.ptr 1 0 0] [.box [.ptr 2 0 0],bh s,gJ p m.opn 0 3 4 5 0 0 0,.vec 5 (m.out.map dc),.vv (m.opn.ex.map fL) none,.vec 1 (m.lv.map dC)]))
 (iX:row.length<99999990) (hl:M.out.length<99999990) (hp:Pl M.out.length row) (fH:m.ex.length<99999990):
 Zl p (M.qW m.ex row) s (ai ctx 209 [.ptr 0 0 0,.fn 211 [.ptr 1 0 0,.ptr 2 0 0]] [gJ p m 0 3 4 5 0 0 0,.box [.ptr 0 0 0],bh s,.vec 5 (m.out.map dc),.vv (m.ex.map fL) none,.vec 1 (m.lv.map dC)]):=by
 obtain⟨v1,v2,v3,aO⟩:=aO;have kr:=tC p {M with ex:=m.ex} 0 row (by omega) (by simpa using (by omega:M.out.length<100000000)) hp;have e:({M with ex:=m.ex}:Mk).cA row=M.qW m.ex row:=rfl;rw[e]at kr;have hx:(M.qW m.ex row).ex=m.ex:=rfl;have nA:(M.qW m.ex row).lv=M.lv:=rfl;generalize M.qW m.ex row=N at*;simp[hM,Mk.opn]at aO;simp[hx,nA]at kr;have w1:m.ex.length≤4611686018427387903:=by omega
 have w2:(m.ex.length+1)*24≤140737488355328:=by omega
 have w3:IntKind.i64.wrap ((m.ex.length:Int)+1-1)=m.ex.length:=by rw[show (m.ex.length:Int)+1-1=m.ex.length by omega];exact au (by unfold aX;omega)
 have w4:IntKind.i64.wrap (m.ex.length:Int)=m.ex.length:=au (by unfold aX;omega);rw[SN (by simp)];simp[Tryz.f209,aO,w1,w2,w3,w4,kr];rw[←hx,←nA];exact⟨_,_,_,rfl⟩
def MkG(p:Pg)(m:Mk)(s:Sm)(at_ cell:Int)(r:bS):Prop:=∃v1 v2 v3,r=some (.ret (.aW []),[(0,gJ p m 0 5 6 7 v1 v2 v3),(0,.box [.ptr 0 0 0]),(0,.box [.d (.int .i64 at_)]),(0,.box [.d (.int .i64 cell)]),(0,bh s),(v1,.vec 5 (m.out.map dc)),(v2,.vv (m.ex.map fL) none),(v3,.vec 1 (m.lv.map dC))])
theorem V1{p:Pg}{s:Sm}{at_ cell:Int}{m M:Mk}{row:List Int}(hM:M.ex=m.ex++[row])(aO:MkF p M s at_ cell (ai ctx 210 [.ptr 0 0 0,.ptr 1 0 0,.ptr 2 0 0,.ptr 3 0 0] [.box [.ptr 4 0 0],.box [.d (.int .i64 at_)],.box [.d (.int .i64 cell)],bh s,gJ p m.opn 0 5 6 7 0 0 0,.vec 5 (m.out.map dc),.vv (m.opn.ex.map fL) none,.vec 1 (m.lv.map dC)]))
 (iX:row.length<99999990) (hl:M.out.length<99999990) (hp:Pl M.out.length row) (fH:m.ex.length<99999990):
 MkG p (M.qW m.ex row) s at_ cell (ai ctx 209 [.ptr 0 0 0,.fn 210 [.ptr 1 0 0,.ptr 2 0 0,.ptr 3 0 0,.ptr 4 0 0]] [gJ p m 0 5 6 7 0 0 0,.box [.ptr 0 0 0],.box [.d (.int .i64 at_)],.box [.d (.int .i64 cell)],bh s,.vec 5 (m.out.map dc),.vv (m.ex.map fL) none,.vec 1 (m.lv.map dC)]):=by
 obtain⟨v1,v2,v3,aO⟩:=aO;have kr:=tC p {M with ex:=m.ex} 0 row (by omega) (by simpa using (by omega:M.out.length<100000000)) hp;have e:({M with ex:=m.ex}:Mk).cA row=M.qW m.ex row:=rfl;rw[e]at kr;have hx:(M.qW m.ex row).ex=m.ex:=rfl;have nA:(M.qW m.ex row).lv=M.lv:=rfl;generalize M.qW m.ex row=N at*;simp[hM,Mk.opn]at aO;simp[hx,nA]at kr;have w1:m.ex.length≤4611686018427387903:=by omega
 have w2:(m.ex.length+1)*24≤140737488355328:=by omega
 have w3:IntKind.i64.wrap ((m.ex.length:Int)+1-1)=m.ex.length:=by rw[show (m.ex.length:Int)+1-1=m.ex.length by omega];exact au (by unfold aX;omega)
 have w4:IntKind.i64.wrap (m.ex.length:Int)=m.ex.length:=au (by unfold aX;omega);rw[SN (by simp)];simp[Tryz.f209,aO,w1,w2,w3,w4,kr];rw[←hx,←nA];exact⟨_,_,_,rfl⟩
theorem afa(m:Mk)(t b:List ar)(c u:Int):(m.opn.CY t b c u).ex=m.ex++[cE (-1) (m.out.length+t.length+2) b]:=by
 show gK (m.ex++[[]]) _=_;rw[iT];rfl
theorem aai{m:Mk}{t b:List ar}{c u:Int}(ht:Flat t):(m.opn.CY t b c u).qW m.ex (cE (-1) (m.out.length+t.length+2) b)=m.aM (gV t b) c u:=by
 unfold Mk.qW Mk.CY Mk.aM Mk.opn;simp only[Mk.mk.injEq,true_and];have hlen:((m.out++(ins 11 0 0 0 0::t++(ins 10 (m.out.length+t.length+3+b.length) 0 0 0::cG (m.out.length+t.length+2) b++[ins 9 m.out.length 0 0 0]))).length:Int)=m.out.length+t.length+3+b.length:=by simp;omega
 rw[hlen];refine⟨Qg ht rfl rfl,?_,?_⟩
 ·have:cE (-1) m.out.length (gV t b)=[]:=Im _ _;rw[this,me]
 ·rw[Tk (by decide) (by decide) ht]
theorem afb(m:Mk)(t b:List ar)(c u:Int):(m.opn.CZ t b c u).ex=m.ex++[cE (-1) m.out.length b]:=by
 show gK (m.ex++[[]]) _=_;rw[iT];rfl
theorem aaj{m:Mk}{t b:List ar}{c u:Int}(ht:Flat t):(m.opn.CZ t b c u).qW m.ex (cE (-1) m.out.length b)=m.aM (lA t b) c u:=by
 unfold Mk.qW Mk.CZ Mk.aM Mk.opn;simp only[Mk.mk.injEq,true_and];have hlen:((m.out++(cG m.out.length b++(ins 11 0 0 0 0::t++[ins 10 m.out.length 0 0 0]))).length:Int)=m.out.length+b.length+t.length+2:=by simp;omega
 rw[hlen];refine⟨VT ht rfl rfl,?_,?_⟩
 ·have:cE (-1) m.out.length (lA t b)=[]:=Im _ _;rw[this,me]
 ·rw[Z1 (by decide) (by decide) ht]
theorem Qm(t b:List ar):(gV t b).length=t.length+3+b.length:=by simp[gV];omega
theorem V2(t b:List ar):(lA t b).length=t.length+2+b.length:=by simp[lA];omega
section
variable {p:Pg} (bn:p.vars.length≤1000) (hf:∀v∈p.vars,dj v=true)
include bn hf
theorem V3{to val:Ex}{b:List Sm}{line:Int}(fv:bk val=true)(ev:(aF p.vars val).e=0)(hB:sA p true b)(m:Mk)(hm:0≤m.most)(hc:0≤m.cells)(hI:iu m)
 (hl:m.out.length+(gV (ak p.vars val).1 (ag p.vars b m.cells).1).length<99999990) (aO:(ag p.vars b m.cells).2<99999990) (fH:m.ex.length+1+iw b<99999990):
 fO p (m.aM (gV (ak p.vars val).1 (ag p.vars b m.cells).1) (ag p.vars b m.cells).2 (max (aL 0 val) (bg b))) 0 (.ret (.aW [])) (ai ctx 140 [.ptr 0 0 0,.d (b5 (.mk 5 [] to val [] [] [] [b] line))] (fM p m 0)):=by
 rw[Qm]at hl;have ho:m.opn.ex.length=m.ex.length+1:=by simp[Mk.opn]
 have h1:=ae5 bn hf (to:=to) (line:=line) fv ev hB m.opn hm hc hI.opn (by simp[Mk.opn]) (by show m.out.length+_+(ag p.vars b m.cells).1.length+3<_;omega) aO (by rw[ho];exact fH);rw[show m.opn.cells=m.cells from rfl]at h1;have hrl:=pD (-1) (ag p.vars b m.cells).1 (m.out.length+(ak p.vars val).1.length+2);have p5:(m.opn.CY (ak p.vars val).1 (ag p.vars b m.cells).1 (ag p.vars b m.cells).2 (max (aL 0 val) (bg b))).out.length=m.out.length+(ak p.vars val).1.length+3+(ag p.vars b m.cells).1.length:=by
  simp[Mk.CY,Mk.opn];omega
 obtain⟨v1,v2,v3,nH⟩:=IG (m:=m) (afa m _ _ _ _) h1 (by omega) (by rw[p5];omega) (fun i hi=>by
  obtain⟨j,e,hj⟩:=yP _ _ _ i hi;exact⟨j,e,by rw[p5];omega⟩) (by omega)
 rw[aai (lG val fv ev)]at nH;generalize m.aM (gV (ak p.vars val).1 (ag p.vars b m.cells).1) (ag p.vars b m.cells).2 (max (aL 0 val) (bg b))=M at*;rw[SL (by simp)];simp at nH;simp[Tryz.f140,ef,nH];exact⟨_,_,_,rfl⟩
theorem TD{to val:Ex}{b:List Sm}{line:Int}(fv:bk val=true)(ev:(aF p.vars val).e=0)(hB:sA p true b)(m:Mk)(hm:0≤m.most)(hc:0≤m.cells)(hI:iu m)
 (hl:m.out.length+(lA (ak p.vars val).1 (ag p.vars b m.cells).1).length<99999990) (aO:(ag p.vars b m.cells).2<99999990) (fH:m.ex.length+1+iw b<99999990):
 fO p (m.aM (lA (ak p.vars val).1 (ag p.vars b m.cells).1) (ag p.vars b m.cells).2 (max (aL 0 val) (bg b))) 0 (.ret (.aW [])) (ai ctx 140 [.ptr 0 0 0,.d (b5 (.mk 6 [] to val [] [] [] [b] line))] (fM p m 0)):=by
 rw[V2]at hl;have ho:m.opn.ex.length=m.ex.length+1:=by simp[Mk.opn]
 have h1:=ae6 bn hf (to:=to) (line:=line) fv ev hB m.opn hm hc hI.opn (by simp[Mk.opn]) (by show m.out.length+_+(ag p.vars b m.cells).1.length+2<_;omega) aO (by rw[ho];exact fH);rw[show m.opn.cells=m.cells from rfl]at h1;have hrl:=pD (-1) (ag p.vars b m.cells).1 m.out.length;have p5:(m.opn.CZ (ak p.vars val).1 (ag p.vars b m.cells).1 (ag p.vars b m.cells).2 (max (aL 0 val) (bg b))).out.length=m.out.length+(ak p.vars val).1.length+2+(ag p.vars b m.cells).1.length:=by
  simp[Mk.CZ,Mk.opn];omega
 obtain⟨v1,v2,v3,nH⟩:=IG (m:=m) (afb m _ _ _ _) h1 (by omega) (by rw[p5];omega) (fun i hi=>by
  obtain⟨j,e,hj⟩:=yP _ _ _ i hi;exact⟨j,e,by rw[p5];omega⟩) (by omega)
 rw[aaj (lG val fv ev)]at nH;generalize m.aM (lA (ak p.vars val).1 (ag p.vars b m.cells).1) (ag p.vars b m.cells).2 (max (aL 0 val) (bg b))=M at*;rw[SL (by simp)];simp at nH;simp[Tryz.f140,ef,nH];exact⟨_,_,_,rfl⟩
end
theorem afc(m:Mk)(a cell:Int)(b:List ar)(c u:Int):(m.opn.C0 a cell b c u).ex=m.ex++[cE (-1) (m.out.length+3) b]:=by
 show gK (m.ex++[[]]) _=_;rw[iT];rfl
theorem aak{m:Mk}{a cell:Int}{b:List ar}{c u:Int}:(m.opn.C0 a cell b c u).qW m.ex (cE (-1) (m.out.length+3) b)=m.aM (kE a cell b) c u:=by
 unfold Mk.qW Mk.C0 Mk.aM Mk.opn;simp only[Mk.mk.injEq,true_and];have hlen:((m.out++(ins 11 0 0 0 0::ins 13 a cell 0 0::ins 10 (m.out.length+b.length+8) 0 0 0::cG (m.out.length+3) b++[ins 2 a 0 0 0,ins 2 (cell+1) 0 0 0,ins 8 0 8 0 0,ins 6 a 0 0 0,ins 9 m.out.length 0 0 0])).length:Int)=m.out.length+b.length+8:=by simp;omega
 rw[hlen];refine⟨VU rfl rfl,?_,?_⟩
 ·have:cE (-1) m.out.length (kE a cell b)=[]:=Im _ _;rw[this,me]
 ·rw[Z2 (by decide) (by decide)]
theorem V4(a c:Int)(b:List ar):(kE a c b).length=b.length+8:=by simp[kE]
section
variable {p:Pg} (bn:p.vars.length≤1000) (hf:∀v∈p.vars,dj v=true)
include bn hf
theorem Qn{name:Tx}{to val x y z:Ex}{b:List Sm}{line:Int}{v:Vr}(hv:aZ p.vars name=some v)(fx:bk x=true)(ex:(aF p.vars x).e=0)(fy:bk y=true)(ey:(aF p.vars y).e=0)(fz:bk z=true)(ez:(aF p.vars z).e=0)(hB:sA p true b)(aiB:∀c,0≤c→c≤(ag p.vars b c).2)(m:Mk)(hm:0≤m.most)(hc:0≤m.cells)(hI:iu m)
 (hl:m.out.length+((ak p.vars x).1++((ak p.vars y).1++(ak p.vars z).1)).length+3+(kE (cj p.vars name).1 m.cells (ag p.vars b (m.cells+2)).1).length<99999990) (aO:(ag p.vars b (m.cells+2)).2<99999990) (fH:m.ex.length+1+iw b<99999990):
 fO p (m.aM (jn (((ak p.vars x).1++((ak p.vars y).1++(ak p.vars z).1))++[ins 6 (m.cells+1) 0 0 0,ins 6 m.cells 0 0 0,ins 6 (cj p.vars name).1 0 0 0]) (kE (cj p.vars name).1 m.cells (ag p.vars b (m.cells+2)).1)) (ag p.vars b (m.cells+2)).2 (max (max (fF 0 [x,y,z]) 3) (bg b))) 0 (.ret (.aW [])) (ai ctx 139 [.ptr 0 0 0,.d (b5 (.mk 4 name to val [x,y,z] [] [] [b] line))] (fM p m 0)):=by
 rw[V4]at hl;simp only[List.length_append]at hl;have tt:=aiB (m.cells+2) (by omega);have gi:=pA p bn hf name;rw[hv,gY hv]at gi;obtain⟨a1,a2,a3,g1⟩:=Tp p m 0 2 (au (by unfold aX;omega));have f1:({m with cells:=m.cells+2}:Mk).out=m.out:=rfl;generalize m5:({m with cells:=m.cells+2}:Mk)=M1 at g1 f1;have m1:0≤M1.most:=by subst m5;exact hm
 obtain⟨b1,b2,b3,g2⟩:=ld bn hf x fx ex M1 0 (by omega) (by omega) m1 (by rw[f1];omega);have l2:(M1.az (ak p.vars x).1 (aL 0 x)).out.length=m.out.length+(ak p.vars x).1.length:=by simp[Mk.az,f1]
 have p2:0≤(M1.az (ak p.vars x).1 (aL 0 x)).most:=by simp[Mk.az];omega
 generalize oC:M1.az (ak p.vars x).1 (aL 0 x)=M2 at g2 l2 p2;have hpx:=jV p.vars x;have hpy:=jV p.vars y;have hpz:=jV p.vars z;obtain⟨c1,c2,c3,g3⟩:=ld bn hf y fy ey M2 (0+1) (by omega) (by omega) p2 (by omega);have l3:(M2.az (ak p.vars y).1 (aL (0+1) y)).out.length=m.out.length+(ak p.vars x).1.length+(ak p.vars y).1.length:=by simp[Mk.az,l2]
 have p3:0≤(M2.az (ak p.vars y).1 (aL (0+1) y)).most:=by simp[Mk.az];omega
 generalize qv:M2.az (ak p.vars y).1 (aL (0+1) y)=M3 at g3 l3 p3;obtain⟨d1,d2,d3,g4⟩:=ld bn hf z fz ez M3 (0+1+1) (by omega) (by omega) p3 (by omega);have l4:(M3.az (ak p.vars z).1 (aL (0+1+1) z)).out.length=m.out.length+(ak p.vars x).1.length+(ak p.vars y).1.length+(ak p.vars z).1.length:=by simp[Mk.az,l3]
 generalize qV:M3.az (ak p.vars z).1 (aL (0+1+1) z)=M4 at g4 l4;obtain⟨e1,e2,e3,g5⟩:=pz p M4 (0+1+1+1) (m.cells+1) (by omega) (by decide);have l5:(M4.put (ins 6 (m.cells+1) 0 0 0) (0+1+1+1+ -1)).out.length=m.out.length+(ak p.vars x).1.length+(ak p.vars y).1.length+(ak p.vars z).1.length+1:=by simp[Mk.put,l4]
 generalize vh:M4.put (ins 6 (m.cells+1) 0 0 0) (0+1+1+1+ -1)=M5 at g5 l5;obtain⟨h1,h2,h3,g6⟩:=pz p M5 (0+1+1+1+ -1) m.cells (by omega) (by decide);have l6:(M5.put (ins 6 m.cells 0 0 0) (0+1+1+1+ -1+ -1)).out.length=m.out.length+(ak p.vars x).1.length+(ak p.vars y).1.length+(ak p.vars z).1.length+2:=by simp[Mk.put,l5]
 generalize IE:M5.put (ins 6 m.cells 0 0 0) (0+1+1+1+ -1+ -1)=M6 at g6 l6;obtain⟨i1,i2,i3,g7⟩:=pz p M6 (0+1+1+1+ -1+ -1) (cj p.vars name).1 (by omega) (by decide);have l7:(M6.put (ins 6 (cj p.vars name).1 0 0 0) (0+1+1+1+ -1+ -1+ -1)).out.length=m.out.length+(ak p.vars x).1.length+(ak p.vars y).1.length+(ak p.vars z).1.length+3:=by simp[Mk.put,l6]
 generalize IF:M6.put (ins 6 (cj p.vars name).1 0 0 0) (0+1+1+1+ -1+ -1+ -1)=M7 at g7 l7;have f7:M7.cells=m.cells+2∧M7.ex=m.ex∧0≤M7.most∧M7=(({m with cells:=m.cells+2}:Mk).az (((ak p.vars x).1++((ak p.vars y).1++(ak p.vars z).1))++[ins 6 (m.cells+1) 0 0 0,ins 6 m.cells 0 0 0,ins 6 (cj p.vars name).1 0 0 0]) (max (fF 0 [x,y,z]) 3)):=by
  have t1:=lj 0 x;have t2:=lj 1 y;have t3:=lj 2 z;subst IF IE vh qV qv oC m5;refine⟨rfl,rfl,?_,?_⟩
  ·simp[Mk.put,Mk.az];omega
  ·simp only[Mk.put,Mk.az,Mk.mk.injEq,fF];simp;omega
 have q7:iu M7:=by
  have q1:iu ({m with cells:=m.cells+2}:Mk):=hI;subst IF IE vh qV qv oC m5;exact (((((q1.az _ _).az _ _).az _ _).put _ _).put _ _).put _ _
 have ho:M7.opn.ex.length=m.ex.length+1:=by simp[Mk.opn,f7.2.1]
 have g8:=ae7 (name:=name) (to:=to) (val:=val) (conds:=[x,y,z]) (line:=line) (at_:=(cj p.vars name).1) (cell:=m.cells) hB M7.opn f7.2.2.1 (by show 0≤M7.cells;rw[f7.1];omega) q7.opn (by simp[Mk.opn]) (by unfold aX;omega) (by show M7.out.length+(ag p.vars b M7.cells).1.length+8<_;rw[f7.1,l7];omega) (by show (ag p.vars b M7.cells).2<_;rw[f7.1];exact aO) (by rw[ho];exact fH);rw[show M7.opn.cells=m.cells+2 from f7.1]at g8;have hrl:=pD (-1) (ag p.vars b (m.cells+2)).1 (M7.out.length+3);have p5:(M7.opn.C0 (cj p.vars name).1 m.cells (ag p.vars b (m.cells+2)).1 (ag p.vars b (m.cells+2)).2 (max 2 (bg b))).out.length=M7.out.length+8+(ag p.vars b (m.cells+2)).1.length:=by
  simp[Mk.C0,Mk.opn];omega
 obtain⟨v1,v2,v3,nH⟩:=V1 (m:=M7) (afc M7 _ _ _ _ _) g8 (by omega) (by rw[p5];omega) (fun i hi=>by
  obtain⟨j,e,hj⟩:=yP _ _ _ i hi;exact⟨j,e,by rw[p5];omega⟩) (by rw[f7.2.1];omega)
 rw[aak]at nH;have eS:M7.aM (kE (cj p.vars name).1 m.cells (ag p.vars b (m.cells+2)).1) (ag p.vars b (m.cells+2)).2 (max 2 (bg b))=m.aM (jn (((ak p.vars x).1++((ak p.vars y).1++(ak p.vars z).1))++[ins 6 (m.cells+1) 0 0 0,ins 6 m.cells 0 0 0,ins 6 (cj p.vars name).1 0 0 0]) (kE (cj p.vars name).1 m.cells (ag p.vars b (m.cells+2)).1)) (ag p.vars b (m.cells+2)).2 (max (max (fF 0 [x,y,z]) 3) (bg b)):=by
  have iJ:Flat (((ak p.vars x).1++((ak p.vars y).1++(ak p.vars z).1))++[ins 6 (m.cells+1) 0 0 0,ins 6 m.cells 0 0 0,ins 6 (cj p.vars name).1 0 0 0]):=
   (((lG x fx ex).app ((lG y fy ey).app (lG z fz ez)))).app (.cons (by simp[ins]) (.cons (by simp[ins]) (.one (by simp[ins]))))
  rw[←zB m _ _ (m.cells+2) _ (max (fF 0 [x,y,z]) 3) _,f7.2.2.2];have e:({m with cells:=m.cells+2}:Mk).az (((ak p.vars x).1++((ak p.vars y).1++(ak p.vars z).1))++[ins 6 (m.cells+1) 0 0 0,ins 6 m.cells 0 0 0,ins 6 (cj p.vars name).1 0 0 0]) (max (fF 0 [x,y,z]) 3)=m.aM (((ak p.vars x).1++((ak p.vars y).1++(ak p.vars z).1))++[ins 6 (m.cells+1) 0 0 0,ins 6 m.cells 0 0 0,ins 6 (cj p.vars name).1 0 0 0]) (m.cells+2) (max (fF 0 [x,y,z]) 3):=by
   rw[←nN iJ];rfl
  rw[e];exact mf (by simp[Mk.aM];omega)
 rw[eS]at nH;generalize m.aM (jn (((ak p.vars x).1++((ak p.vars y).1++(ak p.vars z).1))++[ins 6 (m.cells+1) 0 0 0,ins 6 m.cells 0 0 0,ins 6 (cj p.vars name).1 0 0 0]) (kE (cj p.vars name).1 m.cells (ag p.vars b (m.cells+2)).1)) (ag p.vars b (m.cells+2)).2 (max (max (fF 0 [x,y,z]) 3) (bg b))=M at*;clear m5 oC qv qV vh IE IF eS f7 g8;have w1:IntKind.i64.wrap (m.cells+1)=m.cells+1:=au (by unfold aX;omega);have u1:IntKind.i64.wrap 1=1:=rfl;have u2:IntKind.i64.wrap 2=2:=rfl;have u3:IntKind.i64.wrap 3=3:=rfl;rw[acV (by simp)];simp at g1 g2 g3 g4 g5 g6 g7;simp[aD]at nH;simp[Tryz.f139,ef,gi,bI,eD,g1,aq];rw[ah];simp[Tryz.f139,aD,g2,u1];rw[ah];simp[Tryz.f139,aD,g3,u1,u2];rw[ah];simp[Tryz.f139,aD,g4,u1,u2,u3];rw[ah];simp[Tryz.f139,g5,g6,g7,w1,nH];exact⟨_,_,_,rfl⟩
end
theorem E6(c:Int):∀l:List Int,l.length%2=0→(dH c l).length=l.length
 |[],_=>by simp[dH]
 |[_],h=>by simp at h
 |a::b::r,h=>by
  have:=E6 c r (by simp only[List.length_cons]at h;omega);simp only[dH,List.length_cons];omega
def yS(c:Int)(labels:List (List Int)):List (List ar×Int):=labels.map fun l=>(ins 1 0 0 0 0::dH c l,2)
theorem aal(c:Int)(labels:List (List Int)):dp (yS c labels)=labels.map fun l=>ins 1 0 0 0 0::dH c l:=by simp[dp,yS]
theorem IH(c:Int):∀labels:List (List Int),dy (yS c labels)=if labels=[]then 0 else 2
 |[]=>rfl
 |l::r=>by
  have:=IH c r;have e:dy (yS c (l::r))=max 2 (dy (yS c r)):=rfl;rw[e,this];rw[if_neg (List.cons_ne_nil _ _)];split<;>rfl
def xf(vs:List Vr)(conds:List Ex):List (List ar×Int):=conds.map fun x=>((ak vs x).1,aL 0 x)
theorem DK(vs:List Vr)(conds:List Ex):dp (xf vs conds)=conds.map fun x=>(ak vs x).1:=by simp[dp,xf]
theorem II(vs:List Vr):∀conds:List Ex,dy (xf vs conds)=jU conds
 |[]=>rfl
 |x::r=>by
  have:=II vs r;have e:dy (xf vs (x::r))=max (aL 0 x) (dy (xf vs r)):=rfl;rw[e,this];rfl
section
variable {p:Pg} {lp:Bool} (bn:p.vars.length≤1000) (hf:∀v∈p.vars,dj v=true)
include bn hf
theorem V5{to val:Ex}{labels:List (List Int)}{blocks:List (List Sm)}{line:Int}(fv:bk val=true)(ev:(aF p.vars val).e=0)(A9:labels.all pq=true)(jr:labels.length≤blocks.length)(CU:blocks.length≤labels.length+1)(fG:blocks.length<99999980)
 (HB:∀b∈blocks,sA p lp b) (HC:∀b∈blocks,∀c,0≤c→c≤(ag p.vars b c).2) (m:Mk) (hm:0≤m.most) (hc:0≤m.cells) (hI:iu m) (hex:lp=true→m.ex≠[])
 (hl:m.out.length+(ak p.vars val).1.length+1+(cK (labels.map fun l=>ins 1 0 0 0 0::dH m.cells l) (aw p.vars blocks (m.cells+1)).1).length<99999990) (aO:(aw p.vars blocks (m.cells+1)).2<99999990) (fH:∀b∈blocks,m.ex.length+iw b<99999990):
 fO p (m.aM (jn ((ak p.vars val).1++[ins 6 m.cells 0 0 0]) (cK (labels.map fun l=>ins 1 0 0 0 0::dH m.cells l) (aw p.vars blocks (m.cells+1)).1)) (aw p.vars blocks (m.cells+1)).2 (max (aL 0 val) (max (if labels=[]then 0 else 2) (b6 blocks)))) 0 (.ret (.aW []))
  (ai ctx 138 [.ptr 0 0 0,.d (b5 (.mk 3 [] to val [] labels [] blocks line))] (fM p m 0)):=by
 have tt:=wE blocks (m.cells+1) (by omega) HC;obtain⟨a1,a2,a3,g1⟩:=Tp p m 0 1 (au (by unfold aX;omega));have f1:({m with cells:=m.cells+1}:Mk).out=m.out:=rfl;generalize m5:({m with cells:=m.cells+1}:Mk)=M1 at g1 f1;have m1:0≤M1.most:=by subst m5;exact hm
 obtain⟨b1,b2,b3,g2⟩:=ld bn hf val fv ev M1 0 (by omega) (by omega) m1 (by rw[f1];omega);have l2:(M1.az (ak p.vars val).1 (aL 0 val)).out.length=m.out.length+(ak p.vars val).1.length:=by simp[Mk.az,f1]
 generalize oC:M1.az (ak p.vars val).1 (aL 0 val)=M2 at g2 l2;obtain⟨e1,e2,e3,g3⟩:=pz p M2 (0+1) m.cells (by omega) (by decide);have l3:(M2.put (ins 6 m.cells 0 0 0) (0+1+ -1)).out.length=m.out.length+(ak p.vars val).1.length+1:=by simp[Mk.put,l2]
 generalize qv:M2.put (ins 6 m.cells 0 0 0) (0+1+ -1)=M3 at g3 l3;have iJ:Flat ((ak p.vars val).1++[ins 6 m.cells 0 0 0]):=(lG val fv ev).app (.one (by simp[ins]));have f3:M3.cells=m.cells+1∧M3.ex=m.ex∧0≤M3.most∧M3=m.aM ((ak p.vars val).1++[ins 6 m.cells 0 0 0]) (m.cells+1) (aL 0 val):=by
  have t1:=lj 0 val;have e:({m with cells:=m.cells+1}:Mk).az ((ak p.vars val).1++[ins 6 m.cells 0 0 0]) (aL 0 val)=m.aM ((ak p.vars val).1++[ins 6 m.cells 0 0 0]) (m.cells+1) (aL 0 val):=by
   rw[←nN iJ];rfl
  rw[←e];subst qv oC m5;refine⟨rfl,rfl,?_,?_⟩
  ·simp[Mk.put,Mk.az];omega
  ·simp only[Mk.put,Mk.az,Mk.mk.injEq];simp;omega
 have q3:iu M3:=by
  have q1:iu ({m with cells:=m.cells+1}:Mk):=hI;subst qv oC m5;exact (q1.az _ _).put _ _
 have V6:=aal m.cells labels;have xF:=Ql (p:=p) (lp:=lp) (s:=.mk 3 [] to val [] labels [] blocks line) (q:=m.cells) (blocks:=blocks) (ts:=yS m.cells labels) fG (by simpa [yS]using jr) (by simpa [yS]using CU)
  (by
   rw[V6];intro x hx;obtain⟨l,_,rfl⟩:=List.mem_map.1 hx;exact .cons (by simp[ins]) (Zh _ _))
  (by
   intro i t ht M hM hML;simp only[yS,List.getElem?_map,Option.map_eq_some_iff]at ht;obtain⟨l,cf,rfl⟩:=ht;have tj:pq l=true:=List.all_eq_true.1 A9 l (List.mem_of_getElem? cf);have bZ:l.length%2=0:=by
    simp only[pq,Bool.and_eq_true,decide_eq_true_eq]at tj;exact tj.2.1
   have:=E6 m.cells l bZ;simp only[List.length_cons]at hML;exact V0 (.mk 3 [] to val [] labels [] blocks line) m.cells i l cf tj M hM (by omega))
  HB HC M3 f3.2.2.1 (by rw[f3.1];omega) q3 (fun h=>by rw[f3.2.1];exact hex h) (by rw[f3.1,l3,V6];omega) (by rw[f3.1];exact aO) (fun b hb=>by rw[f3.2.1];exact fH b hb)
 rw[f3.1,V6,IH]at xF;have eS:M3.aM (cK (labels.map fun l=>ins 1 0 0 0 0::dH m.cells l) (aw p.vars blocks (m.cells+1)).1) (aw p.vars blocks (m.cells+1)).2 (max (if labels=[]then 0 else 2) (b6 blocks))=m.aM (jn ((ak p.vars val).1++[ins 6 m.cells 0 0 0]) (cK (labels.map fun l=>ins 1 0 0 0 0::dH m.cells l) (aw p.vars blocks (m.cells+1)).1)) (aw p.vars blocks (m.cells+1)).2 (max (aL 0 val) (max (if labels=[]then 0 else 2) (b6 blocks))):=by
  rw[←zB m _ _ (m.cells+1) _ (aL 0 val) _,←f3.2.2.2]
 rw[eS]at xF;generalize m.aM (jn ((ak p.vars val).1++[ins 6 m.cells 0 0 0]) (cK (labels.map fun l=>ins 1 0 0 0 0::dH m.cells l) (aw p.vars blocks (m.cells+1)).1)) (aw p.vars blocks (m.cells+1)).2 (max (aL 0 val) (max (if labels=[]then 0 else 2) (b6 blocks)))=M at*;obtain⟨v1,v2,v3,xF⟩:=xF;clear m5 oC qv eS f3 HB HC;have el:(yS m.cells labels).length=labels.length:=by simp[yS]
 rw[el]at xF;rw[acU (by simp)];simp at g1 g2 g3;simp at xF;simp[Tryz.f138,ef,g1,g2,g3,xF];exact⟨_,_,_,rfl⟩
end
section
variable {p:Pg} {x:Sm} {m M:Mk} (hl:m.out.length<99999990)
include hl
theorem Zm(ho:bu x=1)(h:fO p M 0 (.ret (.aW [])) (ai ctx 134 [.ptr 0 0 0,.d (b5 x)] (fM p (m.put (ins 11 0 0 0 0) 0) 0))):
 fO p M 0 (.ret (.aW [])) (ai ctx 91 [.ptr 0 0 0,.d (b5 x)] (fM p m 0)):=by
 obtain⟨a1,a2,a3,ht⟩:=mb p m 0 (by omega) (by decide);obtain⟨b1,b2,b3,h⟩:=h;generalize m.put (ins 11 0 0 0 0) 0=N at*;rw[tg (by simp)];simp[ef,ho]at h;simp at ht;simp[Tryz.f91,ef,ho,ht,h];exact⟨_,_,_,rfl⟩
theorem aiC(ho:bu x=3)(h:fO p M 0 (.ret (.aW [])) (ai ctx 138 [.ptr 0 0 0,.d (b5 x)] (fM p (m.put (ins 11 0 0 0 0) 0) 0))):
 fO p M 0 (.ret (.aW [])) (ai ctx 91 [.ptr 0 0 0,.d (b5 x)] (fM p m 0)):=by
 obtain⟨a1,a2,a3,ht⟩:=mb p m 0 (by omega) (by decide);obtain⟨b1,b2,b3,h⟩:=h;generalize m.put (ins 11 0 0 0 0) 0=N at*;rw[tg (by simp)];simp[ef,ho]at h;simp at ht;simp[Tryz.f91,ef,ho,ht,h];exact⟨_,_,_,rfl⟩
theorem aiD(ho:bu x=4)(h:fO p M 0 (.ret (.aW [])) (ai ctx 139 [.ptr 0 0 0,.d (b5 x)] (fM p (m.put (ins 11 0 0 0 0) 0) 0))):
 fO p M 0 (.ret (.aW [])) (ai ctx 91 [.ptr 0 0 0,.d (b5 x)] (fM p m 0)):=by
 obtain⟨a1,a2,a3,ht⟩:=mb p m 0 (by omega) (by decide);obtain⟨b1,b2,b3,h⟩:=h;generalize m.put (ins 11 0 0 0 0) 0=N at*;rw[tg (by simp)];simp[ef,ho]at h;simp at ht;simp[Tryz.f91,ef,ho,ht,h];exact⟨_,_,_,rfl⟩
theorem TE(ho:bu x=5∨bu x=6)(h:fO p M 0 (.ret (.aW [])) (ai ctx 140 [.ptr 0 0 0,.d (b5 x)] (fM p (m.put (ins 11 0 0 0 0) 0) 0))):
 fO p M 0 (.ret (.aW [])) (ai ctx 91 [.ptr 0 0 0,.d (b5 x)] (fM p m 0)):=by
 obtain⟨a1,a2,a3,ht⟩:=mb p m 0 (by omega) (by decide);obtain⟨b1,b2,b3,h⟩:=h;generalize m.put (ins 11 0 0 0 0) 0=N at*;rw[tg (by simp)];simp at ht;rcases ho with ho|ho
 ·simp[ef,ho]at h;simp[Tryz.f91,ef,ho,ht,h];exact⟨_,_,_,rfl⟩
 ·simp[ef,ho]at h;simp[Tryz.f91,ef,ho,ht,h];exact⟨_,_,_,rfl⟩
theorem aiE(ho:bu x=9)(h:fO p M 0 (.ret (.aW [])) (ai ctx 142 [.ptr 0 0 0,.d (b5 x)] (fM p (m.put (ins 11 0 0 0 0) 0) 0))):
 fO p M 0 (.ret (.aW [])) (ai ctx 91 [.ptr 0 0 0,.d (b5 x)] (fM p m 0)):=by
 obtain⟨a1,a2,a3,ht⟩:=mb p m 0 (by omega) (by decide);obtain⟨b1,b2,b3,h⟩:=h;generalize m.put (ins 11 0 0 0 0) 0=N at*;rw[tg (by simp)];simp[ef,ho]at h;simp at ht;simp[Tryz.f91,ef,ho,ht,h];exact⟨_,_,_,rfl⟩
theorem aiF(ho:bu x=2)(h:Zl p M x (ai ctx 135 [.ptr 0 0 0,.d (.list ((bj x).map df)),.d (.int .i64 (cy x).length),.fn 136 [.ptr 1 0 0,.ptr 2 0 0]] [gJ p (m.put (ins 11 0 0 0 0) 0) 0 3 4 5 0 0 0,.box [.ptr 0 0 0],bh x,.vec 5 ((m.put (ins 11 0 0 0 0) 0).out.map dc),.vv ((m.put (ins 11 0 0 0 0) 0).ex.map fL) none,.vec 1 ((m.put (ins 11 0 0 0 0) 0).lv.map dC)])):
 fO p M 0 (.ret (.aW [])) (ai ctx 91 [.ptr 0 0 0,.d (b5 x)] (fM p m 0)):=by
 obtain⟨a1,a2,a3,ht⟩:=mb p m 0 (by omega) (by decide);obtain⟨b1,b2,b3,h⟩:=h;generalize m.put (ins 11 0 0 0 0) 0=N at*;rw[tg (by simp)];simp[ho]at h;simp at ht;simp[Tryz.f91,ef,ho,ht,h];exact⟨_,_,_,rfl⟩
end
theorem aiG(p:Pg)(m:Mk)(h im:Int)(x:ar)(hl:m.out.length<100000000)(hw:IntKind.i64.wrap (h+im)=h+im):ai ctx 53 [.ptr 0 0 0,.d (dc x),.d (.int .i64 im)] (fM p m h)=some (.ret (.d (.int .i64 m.out.length)),Nq p (m.put x (h+im)) (h+im) 1 0 0):=by
 have w0:IntKind.i64.wrap (m.out.length:Int)=m.out.length:=au (by unfold aX;omega);have w3:m.out.length≤4611686018427387903:=by omega
 have w4:(m.out.length+1)*40≤140737488355328:=by omega
 rw[P2 (by simp)];simp[Tryz.f53,aq,hw,w0,w3,w4,mxI,Mk.put]
theorem afd(p:Pg)(m:Mk)(h to:Int)(hl:m.out.length<100000000)(hw:IntKind.i64.wrap h=h):ai ctx 141 [.ptr 0 0 0,.d (.int .i64 to)] (fM p m h)=some (.ret (.d (.int .i64 m.out.length)),Nq p (m.put (ins 9 to 0 0 0) h) h 1 0 0):=by
 have ha:=aiG p m h 0 (ins 9 to 0 0 0) hl (by simpa using hw);rw[show h+0=h by omega]at ha;generalize m.put (ins 9 to 0 0 0) h=M at*;rw[Hu (by simp)];simp[ins]at ha;simp[Tryz.f141,ha]
@[simp] def mkO(p:Pg)(m:Mk)(h:Int)(pre:List (List Int))(row:List Int):List aE:=[.box [.d (.str p.name),.d (.list (p.vars.map bI)),.d (.list (p.body.map b5)),.vec 1 0 0 m.out.length,.d (.int .i64 m.cells),.d (.int .i64 h),.d (.int .i64 m.most),.vec 2 0 0 (pre.length+1),.vec 3 0 0 m.lv.length],.vec 5 (m.out.map dc),.vv (pre.map fL) (some (.vec 4 0 0 row.length)),.vec 1 (m.lv.map dC),.vec 1 (row.map dC)]
@[simp] def mkP(p:Pg)(m:Mk)(h:Int)(pre:List (List Int))(row:List Int):List (Nat×aE):=[(0,.box [.d (.str p.name),.d (.list (p.vars.map bI)),.d (.list (p.body.map b5)),.vec 1 1 0 m.out.length,.d (.int .i64 m.cells),.d (.int .i64 h),.d (.int .i64 m.most),.vec 2 0 0 (pre.length+1),.vec 3 0 0 m.lv.length]),(1,.vec 5 (m.out.map dc)),(0,.vv (pre.map fL) (some (.vec 4 0 0 row.length))),(0,.vec 1 (m.lv.map dC)),(0,.vec 1 (row.map dC))]
theorem aiH(p:Pg)(m:Mk)(h im:Int)(x:ar)(pre:List (List Int))(row:List Int)(hl:m.out.length<100000000)(hw:IntKind.i64.wrap (h+im)=h+im):ai ctx 53 [.ptr 0 0 0,.d (dc x),.d (.int .i64 im)] (mkO p m h pre row)=some (.ret (.d (.int .i64 m.out.length)),mkP p (m.put x (h+im)) (h+im) pre row):=by
 have w0:IntKind.i64.wrap (m.out.length:Int)=m.out.length:=au (by unfold aX;omega);have w3:m.out.length≤4611686018427387903:=by omega
 have w4:(m.out.length+1)*40≤140737488355328:=by omega
 rw[P2 (by simp)];simp[Tryz.f53,aq,hw,w0,w3,w4,mxI,Mk.put]
theorem afe(p:Pg)(m:Mk)(h to:Int)(pre:List (List Int))(row:List Int)(hl:m.out.length<100000000)(hw:IntKind.i64.wrap h=h):ai ctx 141 [.ptr 0 0 0,.d (.int .i64 to)] (mkO p m h pre row)=some (.ret (.d (.int .i64 m.out.length)),mkP p (m.put (ins 9 to 0 0 0) h) h pre row):=by
 have ha:=aiH p m h 0 (ins 9 to 0 0 0) pre row hl (by simpa using hw);rw[show h+0=h by omega]at ha;generalize m.put (ins 9 to 0 0 0) h=M at*;rw[Hu (by simp)];simp[ins]at ha;simp[Tryz.f141,ha]
def Mk.ext(m:Mk):Mk:={m with out:=m.out++[ins 9 0 0 0 0],most:=max m.most 0,ex:=gK m.ex [(m.out.length:Int)]}
def Mk.ret(m:Mk):Mk:={m with out:=m.out++[ins 9 0 0 0 0],most:=max m.most 0,lv:=m.lv++[(m.out.length:Int)]}
theorem aiI{p:Pg}{x:Sm}{m:Mk}(hl:m.out.length<99999989)(nA:m.lv.length<99999989)(ho:bu x=8):fO p (m.put (ins 11 0 0 0 0) 0).ret 0 (.ret (.aW [])) (ai ctx 91 [.ptr 0 0 0,.d (b5 x)] (fM p m 0)):=by
 obtain⟨a1,a2,a3,ht⟩:=mb p m 0 (by omega) (by decide);have hN:(m.put (ins 11 0 0 0 0) 0).lv.length<99999989:=nA;have hN2:(m.put (ins 11 0 0 0 0) 0).out.length<99999990:=by simp[Mk.put];omega
 generalize m.put (ins 11 0 0 0 0) 0=N at*;have hj:=afd p N 0 0 (by omega) (by decide);have e:N.ret={(N.put (ins 9 0 0 0 0) 0)with lv:=N.lv++[(N.out.length:Int)]}:=rfl;have hx:(N.put (ins 9 0 0 0 0) 0).lv=N.lv:=rfl;rw[e];generalize N.put (ins 9 0 0 0 0) 0=P at*;have w1:N.lv.length≤4611686018427387903:=by omega
 have w2:(N.lv.length+1)*8≤140737488355328:=by omega
 rw[tg (by simp)];simp[ins]at ht hj;rw[hx]at hj;simp[Tryz.f91,ef,ho,ht,hj,hx,w1,w2,Dr,FB,FA,vV,yq,ze,lP,nb,ob,q9,BZ,B0,B1,B3,eZ,q8,tS,Di,sW,AI,J3,Rd,GK,dZ,dstep,kR,pN,aU.app];exact⟨1,(if a2=0 then 0 else 1),1,by simp⟩
theorem aiJ{p:Pg}{x:Sm}{m:Mk}{pre:List (List Int)}{row:List Int}(hx:m.ex=pre++[row])(hl:m.out.length<99999989)(iX:row.length<99999990)(jL:pre.length<99999990)(ho:bu x=7):fO p (m.put (ins 11 0 0 0 0) 0).ext 0 (.ret (.aW [])) (ai ctx 91 [.ptr 0 0 0,.d (b5 x)] (fM p m 0)):=by
 obtain⟨a1,a2,a3,ht⟩:=mb p m 0 (by omega) (by decide);have hNx:(m.put (ins 11 0 0 0 0) 0).ex=pre++[row]:=hx;have hN2:(m.put (ins 11 0 0 0 0) 0).out.length<99999990:=by simp[Mk.put];omega
 generalize m.put (ins 11 0 0 0 0) 0=N at*;have hj:=afe p N 0 0 pre row (by omega) (by decide);have e:N.ext={(N.put (ins 9 0 0 0 0) 0)with ex:=pre++[row++[(N.out.length:Int)]]}:=by
  unfold Mk.ext;rw[hNx,iT];rfl
 have hPx:(N.put (ins 9 0 0 0 0) 0).ex=pre++[row]:=hNx;rw[e];generalize N.put (ins 9 0 0 0 0) 0=P at*;have w1:row.length≤4611686018427387903:=by omega
 have w2:(row.length+1)*8≤140737488355328:=by omega
 have w3:IntKind.i64.wrap ((pre.length:Int)+1-1)=pre.length:=by rw[show (pre.length:Int)+1-1=pre.length by omega];exact au (by unfold aX;omega)
 have w4:IntKind.i64.wrap (pre.length:Int)=pre.length:=au (by unfold aX;omega);rw[tg (by simp)];simp[ins,hNx,hPx,hx]at ht hj;simp[Tryz.f91,ef,ho,hx,ht,hj,w1,w2,w3,w4,Dr,FB,FA,vV,yq,ze,lP,nb,ob,q9,BZ,B0,B1,B3,eZ,q8,tS,Di,sW,AI,J3,Rd,GK,dZ,dstep,kR,pN,aU.app];exact⟨1,(if a2=0 then 0 else 1),(if a3=0 then 0 else 1),by simp⟩
def TF(p:Pg)(lp:Bool)(x:Sm):Prop:=∀(m:Mk),0≤m.most→0≤m.cells→iu m→(lp=true→m.ex≠[])→m.out.length+(qF p.vars x m.cells).length<99999990→(cM p.vars x m.cells).2<99999990→m.ex.length+vd x<99999990→
 fO p (m.aM (qF p.vars x m.cells) (cM p.vars x m.cells).2 (gq x)) 0 (.ret (.aW [])) (ai ctx 91 [.ptr 0 0 0,.d (b5 x)] (fM p m 0))
theorem Nw(vs:List Vr):∀(l:List Sm)(c:Int),l.length≤(ag vs l c).1.length
 |[],c=>by simp
 |x::r,c=>by
  have:=Nw vs r (cM vs x c).2;unfold ag;simp only[ei,List.length_cons,List.length_nil];omega
theorem C3{p:Pg}{lp:Bool}(l:List Sm)(jY:l.length<99999999)(k:Kt)(Q:Mk→bS→Prop)
 (hx:∀(Y:Env) M v1 v2 v3 v6 X6,Q M (k (.exit 0) ⟨16,aC,(0,true,.ptr 0 0 0)::Y,Zk p M 0 v1 v2 v3++[⟨350,v6,X6⟩]⟩)):
 ∀(lr pre:List Sm)(m:Mk)(v1 v2 v3 v6:Nat)(X6:aE),l=pre++lr→(∀x∈lr,TF p lp x)→0≤m.most→0≤m.cells→iu m→(lp=true→m.ex≠[])→m.out.length+(ag p.vars lr m.cells).1.length<99999990→(ag p.vars lr m.cells).2<99999990→m.ex.length+iw lr<99999990→
 Q (m.aM (ag p.vars lr m.cells).1 (ag p.vars lr m.cells).2 (bg lr)) (aI ctx 51 (.loop (Code.at (aY Tryz.f51) [1,0,0])) ⟨16,aC,[(0,true,.ptr 0 0 0),(6,true,.d (.list (l.map b5))),(7,true,.d (.int .i64 l.length)),(8,true,.d (.int .i64 pre.length))],Zk p m 0 v1 v2 v3++[⟨350,v6,X6⟩]⟩ k)
 |[],pre,m,v1,v2,v3,v6,X6,h1,hK,hm,hc,hI,hex,ho,aO,fH=>by
  have e:m.aM (ag p.vars [] m.cells).1 (ag p.vars [] m.cells).2 (bg [])=m:=VY m hm;rw[e];have cf:pre.length=l.length:=by rw[h1];simp
  have:=hx [(6,true,.d (.list (l.map b5))),(7,true,.d (.int .i64 l.length)),(8,true,.d (.int .i64 l.length)),(9,true,.d (.bool false))] m v1 v2 v3 v6 X6;simp at this;rw[cf,ah];simp[Tryz.f51,this]
 |x::r,pre,m,v1,v2,v3,v6,X6,h1,hK,hm,hc,hI,hex,ho,aO,fH=>by
  have eg:ag p.vars (x::r) m.cells=(jn (qF p.vars x m.cells) (ag p.vars r (cM p.vars x m.cells).2).1,(ag p.vars r (cM p.vars x m.cells).2).2):=rfl;have ed:iw (x::r)=max (vd x) (iw r):=by simp[iw]
  have et:bg (x::r)=max (gq x) (bg r):=by simp[bg]
  have c1:=yN (vs:=p.vars) x m.cells;have c2:=gI (vs:=p.vars) r (cM p.vars x m.cells).2;rw[eg]at ho aO⊢;rw[ed]at fH;rw[et];simp only[ei]at ho;simp only at aO;obtain⟨a1,a2,a3,hk⟩:=hK x (by simp) m hm hc hI hex (by omega) (by omega) (by omega);have l1:(m.aM (qF p.vars x m.cells) (cM p.vars x m.cells).2 (gq x)).out.length=m.out.length+(qF p.vars x m.cells).length:=by
   show (m.out++cG _ _).length=_;rw[List.length_append,mq]
  have l2:(m.aM (qF p.vars x m.cells) (cM p.vars x m.cells).2 (gq x)).ex.length=m.ex.length:=by
   show (gK _ _).length=_;rw[Tu]
  have ih:=fun v1 v2 v3 v6 X6=>C3 l jY k Q hx r (pre++[x]) (m.aM (qF p.vars x m.cells) (cM p.vars x m.cells).2 (gq x)) v1 v2 v3 v6 X6 (by simp[h1]) (fun y hy=>hK y (by simp[hy])) (by show 0≤max m.most _;omega) (by show 0≤(cM p.vars x m.cells).2;omega) (hI.aM _ _ _)
   (fun h=>by
    have:=hex h;intro h0;rw[h0]at l2;exact this (List.eq_nil_of_length_eq_zero l2.symm))
   (by rw[l1];show _+(ag p.vars r (cM p.vars x m.cells).2).1.length<_;omega) (by show (ag p.vars r (cM p.vars x m.cells).2).2<_;omega) (by rw[l2];omega)
  rw[show (m.aM (qF p.vars x m.cells) (cM p.vars x m.cells).2 (gq x)).cells=(cM p.vars x m.cells).2 from rfl,zB]at ih;clear hx hK;generalize m.aM (qF p.vars x m.cells) (cM p.vars x m.cells).2 (gq x)=M at*;have aR:pre.length<l.length:=by rw[h1];simp
  have aV:l[pre.length]=x:=by simp[h1]
  have w1:IntKind.i64.wrap ((pre.length:Int)+1)=(pre.length:Int)+1:=au (by unfold aX;omega);rw[ah];simp[ef]at hk;simp[Tryz.f51]at ih⊢;simp[aR,aV,ef,hk,aq,w1,ih]
theorem Bh{p:Pg}{lp:Bool}(l:List Sm)(hK:∀x∈l,TF p lp x):sA p lp l:=by
 intro m hm hc hI hex ho aO fH;have jY:=Nw p.vars l m.cells;have cJ:=fun (k:Kt) (Q:Mk→bS→Prop) hx v6 X6=>C3 l (by omega) k Q hx l [] m 0 0 0 v6 X6 rfl hK hm hc hI hex ho aO fH;rw[ah6 (by simp)];generalize m.aM (ag p.vars l m.cells).1 (ag p.vars l m.cells).2 (bg l)=N at*;simp[Tryz.f51]at cJ⊢;refine cJ _ (fun X r=>X=N→fO p N 0 (.ret (.aW [])) r) (fun Y X v1 v2 v3 v6 X6 hX=>?_) _ _ rfl;subst hX;simp[Tryz.f51];exact⟨_,_,_,rfl⟩
end Go.Am
end
section
namespace Go.Am
open Go
inductive Vl where
 |v (n:Int) (t:Bool)
 |f (e:Int)
 deriving DecidableEq
structure Mc where
 cells:List Int
 fuel:Nat
inductive Hw where
 |on
 |lv
 |rt
 |ft (e:Int)
 deriving DecidableEq
section
variable {vs:List Vr}
theorem aam{x:Ex}{t:Int}(h:(dn vs x t).1=0):(aF vs x).e=0∧(aF vs x).t=t:=by
 unfold dn at h;split at h
 ·exact absurd h (by assumption)
 ·rename_i h0;split at h
  ·simp at h
  ·rename_i h1;exact⟨by simpa using h0,by simpa using h1⟩
theorem DL{k line:Int}:∀(fs:List Tx)(xs:List Ex)(p:List Tx),xs.length=fs.length→(gQ vs k line fs xs p).1=0→∀x∈xs,(aF vs x).e=0
 |[],[],_,_,_,x,hx=>by simp at hx
 |f::fs,x::xs,p,hl,h,y,hy=>by
  simp only[gQ]at h;cases hq:jS k f with
  |none=>rw[hq]at h;simp at h
  |some q=>
   rw[hq]at h;simp only at h;split at h
   ·simp at h
   ·split at h
    ·simp at h
    ·obtain⟨h1,h2⟩:=bH.1 h;rcases List.mem_cons.1 hy with rfl|hy
     ·exact (aam h1).1
     ·exact DL fs xs _ (by simpa using hl) h2 y hy
 |[],_::_,_,h,_,_,_=>by simp at h
 |_::_,[],_,h,_,_,_=>by simp at h
end
end Go.Am
end
section
namespace Go.Am
open Go Go.Proofs
variable [Inhabited bX]
set_option maxRecDepth 20000
theorem Nx{vs:List Vr}{name:Tx}:∀(fs:List Tx)(xs:List Ex),xs.length=fs.length→fs.length≤(dw vs name fs xs).length
 |[],xs,_=>by simp
 |_::_,[],h=>by simp at h
 |f::fs,x::xs,h=>by
  have:=Nx (vs:=vs) (name:=name) fs xs (by simpa using h);simp only[dw,List.length_append,List.length_cons];omega
theorem Qo:∀(ts bs:List (List ar)),(∀t∈ts,1≤t.length)→bs.length≤ts.length+1→2*bs.length≤(cK ts bs).length+2
 |_,[],_,_=>by simp
 |[],b::r,_,h=>by
  have hr:r=[]:=List.eq_nil_of_length_eq_zero (by simpa using h);subst hr;simp
 |t::ts,b::r,ht,h=>by
  have ih:=Qo ts r (fun y hy=>ht y (by simp[hy])) (by simpa using h);have h1:=ht t (by simp);unfold cK;simp only[ei,List.length_append,List.length_cons,List.length_nil,lh];omega
theorem vi(vs:List Vr):∀(l:List (List Sm))(c:Int),(aw vs l c).1.length=l.length
 |[],c=>by simp[aw]
 |b::r,c=>by simp[aw,vi vs r]
theorem TG{m:Mk}(h:0≤m.most)(l:List ar)(c t:Int):(m.put (ins 11 0 0 0 0) 0).aM l c t=m.aM (jn [ins 11 0 0 0 0] l) c t:=by
 rw[VZ,←nN (Flat.one (by simp[ins])),zB];exact mf (by omega)
section
variable {p:Pg} (bn:p.vars.length≤1000) (fY:∀v∈p.vars,dj v=true)
include bn fY
theorem aiK{lp:Bool}{x:Sm}(hf:iH x=true)(h:(jk p.vars lp x).1=0)(hB:∀(lp:Bool) (cs:List Ex),cB (bj x)=true→(fu p.vars lp cs (bj x)).1=0→∀b∈bj x,sA p lp b):TF p lp x:=by
 intro m hm hc hI hex ho aO fH;rw[VN]at ho;have e0:qF p.vars x m.cells=jn [ins 11 0 0 0 0] (cM p.vars x m.cells).1:=rfl;rw[e0,←TG hm];have m5:(m.put (ins 11 0 0 0 0) 0).out.length=m.out.length+1:=by simp[Mk.put]
 have oC:(m.put (ins 11 0 0 0 0) 0).cells=m.cells:=rfl;have qv:(m.put (ins 11 0 0 0 0) 0).ex=m.ex:=rfl;have qV:0≤(m.put (ins 11 0 0 0 0) 0).most:=by simp[Mk.put];omega
 have vh:iu (m.put (ins 11 0 0 0 0) 0):=hI.put _ _;cases Ni hf h with
 |@asg to val line v cC hv hs ft et fv ev ht=>
  have kX:=DH ft et;have wL:=lG val fv ev;cases kX with
  |num h=>simp[bW]at cC
  |qN h=>simp[bW]at cC
  |Zd _ _ _ _=>simp[bW]at cC
  |one o _ _ _=>simp[bW]at cC;omega
  |two o _ _ _ _ _ _=>simp[bW]at cC;omega
  |@var name l1 v' sE ha ux=>
   refine Zm (by omega) rfl ?_;have e:cM p.vars (.mk 1 [] (.mk 3 0 name [] [] l1) val [] [] [] [] line) m.cells=((ak p.vars val).1++[ins 6 (cj p.vars name).1 0 0 0],m.cells):=by simp[cM,bW,dA]
   have et:gq (.mk 1 [] (.mk 3 0 name [] [] l1) val [] [] [] [] line)=aL 0 val:=by simp[gq,bW]
   rw[e]at ho⊢;rw[et];simp only[List.length_append,List.length_cons,List.length_nil]at ho;show fO p ((m.put (ins 11 0 0 0 0) 0).aM _ (m.put (ins 11 0 0 0 0) 0).cells _) 0 _ _;rw[nN (Flat.app wL (Flat.one (by simp[ins])))];exact Tw bn fY sE fv ev _ qV (by omega)
  |@idx name l1 v' y sE ha ux fy ey ty=>
   refine Zm (by omega) rfl ?_;have hfy:=lG y fy ey;have e:cM p.vars (.mk 1 [] (.mk 4 0 name [] [y] l1) val [] [] [] [] line) m.cells=((ak p.vars y).1++((ak p.vars val).1++[ins 7 (cj p.vars name).1 0 v'.lo v'.hi]),m.cells):=by simp[cM,bW,dA,cN,lz,gY sE]
   have et:gq (.mk 1 [] (.mk 4 0 name [] [y] l1) val [] [] [] [] line)=max (fF 0 [y]) (aL 1 val):=by simp[gq,bW,cN]
   have et2:fF 0 [y]=max (aL 0 y) 0:=by simp[fF]
   rw[e]at ho⊢;rw[et,et2];simp only[List.length_append,List.length_cons,List.length_nil]at ho;show fO p ((m.put (ins 11 0 0 0 0) 0).aM _ (m.put (ins 11 0 0 0 0) 0).cells _) 0 _ _;rw[nN (Flat.app hfy (Flat.app wL (Flat.one (by simp[ins])))),show max (max (aL 0 y) 0) (aL 1 val)=max (aL 0 y) (aL 1 val) by have:=lj 0 y;omega];exact Ty bn fY sE fy ey fv ev _ qV (by omega)
 |@cnd to val conds blocks line cC cm fc h1 h2 h3 fb hh=>
  have hK:∀c∈conds,bk c=true∧(aF p.vars c).e=0:=fun c tt=>⟨(gj _).1 fc c tt,(jJ (qt h2 hh c tt)).1⟩;have xW:=hB lp conds fb hh;have e:cM p.vars (.mk 2 [] to val conds [] [] blocks line) m.cells=(cK (dp (xf p.vars conds)) (aw p.vars blocks m.cells).1,(aw p.vars blocks m.cells).2):=by simp[cM,DK]
  have et:gq (.mk 2 [] to val conds [] [] blocks line)=max (dy (xf p.vars conds)) (b6 blocks):=by simp[gq,II]
  rw[e]at ho aO⊢;rw[et];simp only at ho aO;have bz:(xf p.vars conds).length=conds.length:=by simp[xf]
  have hn:=Qo (dp (xf p.vars conds)) (aw p.vars blocks m.cells).1 (fun t ht=>by
   rw[DK]at ht;obtain⟨c,_,rfl⟩:=List.mem_map.1 ht;have:=jV p.vars c;omega) (by rw[vi];simpa [dp,bz]using h3)
  rw[vi]at hn;refine aiF (by omega) rfl ?_;have:=Qk (p:=p) (lp:=lp) (s:=.mk 2 [] to val conds [] [] blocks line) (blocks:=blocks) (ts:=xf p.vars conds) (by omega) (by omega) (by omega)
   (fun t ht=>by
    rw[DK]at ht;obtain⟨c,tt,rfl⟩:=List.mem_map.1 ht;exact lG c (hK c tt).1 (hK c tt).2)
   (fun i t hi m hm hl=>by
    simp only[xf,List.getElem?_map,Option.map_eq_some_iff]at hi;obtain⟨c,sP,rfl⟩:=hi;have tt:=List.mem_of_getElem? sP;exact aab bn fY (.mk 2 [] to val conds [] [] blocks line) i c sP (hK c tt).1 (hK c tt).2 m hm (by simp only at hl;omega))
   xW (fun b _ c _=>gI b c) (m.put (ins 11 0 0 0 0) 0) qV hc vh hex (by rw[oC,m5];omega) aO (fun b hb=>by
    have:=Be hb;rw[qv];simp only[vd]at fH;omega)
  rw[bz]at this;exact this
 |@cas to val labels blocks line cC fv wv h2 h3 A9 fb hh=>
  have xW:=hB lp [] fb hh;have e:cM p.vars (.mk 3 [] to val [] labels [] blocks line) m.cells=(jn ((ak p.vars val).1++[ins 6 m.cells 0 0 0]) (cK (labels.map fun l=>ins 1 0 0 0 0::dH m.cells l) (aw p.vars blocks (m.cells+1)).1),(aw p.vars blocks (m.cells+1)).2):=by simp[cM]
  have et:gq (.mk 3 [] to val [] labels [] blocks line)=max (aL 0 val) (max (if labels=[]then 0 else 2) (b6 blocks)):=by simp[gq]
  rw[e]at ho aO⊢;rw[et];simp only[ei,List.length_append,List.length_cons,List.length_nil]at ho aO;have hn:=Qo (labels.map fun l=>ins 1 0 0 0 0::dH m.cells l) (aw p.vars blocks (m.cells+1)).1 (fun t ht=>by
   obtain⟨l,_,rfl⟩:=List.mem_map.1 ht;simp) (by rw[vi];simpa using h3)
  rw[vi]at hn;exact aiC (by omega) rfl (V5 bn fY fv (jJ wv).1 A9 h2 h3 (by omega) xW (fun b _ c _=>gI b c) (m.put (ins 11 0 0 0 0) 0) qV hc vh hex (by rw[oC,m5];omega) aO (fun b hb=>by
   have:=Be hb;rw[qv];simp only[vd]at fH;omega))
 |@cnt name to val x y z b line v hn cC cm hv hs ha ht fx wx fy wy fz wz fb hh=>
  have xW:=hB true [] (by simpa [bj,cB]using fb) (by simp[bj,fu,eX,hh]) b (by simp[bj]);have e:cM p.vars (.mk 4 name to val [x,y,z] [] [] [b] line) m.cells=(jn (((ak p.vars x).1++((ak p.vars y).1++(ak p.vars z).1))++[ins 6 (m.cells+1) 0 0 0,ins 6 m.cells 0 0 0,ins 6 (cj p.vars name).1 0 0 0]) (kE (cj p.vars name).1 m.cells (ag p.vars b (m.cells+2)).1),(ag p.vars b (m.cells+2)).2):=by simp[cM,eY,kF]
  have et:gq (.mk 4 name to val [x,y,z] [] [] [b] line)=max (max (fF 0 [x,y,z]) 3) (max (bg b) 0):=by simp[gq,b6]
  have ed:vd (.mk 4 name to val [x,y,z] [] [] [b] line)=max (iw b) 0+1:=by simp[vd,uk]
  rw[e]at ho aO⊢;rw[et,mf (u:=max (max (fF 0 [x,y,z]) 3) (bg b)) (by omega)];rw[ed]at fH;simp only[ei,List.length_append,List.length_cons,List.length_nil]at ho aO;exact aiD (by omega) rfl (Qn bn fY hv fx (jJ wx).1 fy (jJ wy).1 fz (jJ wz).1 xW (fun c _=>gI b c) (m.put (ins 11 0 0 0 0) 0) qV hc vh (by simp only[List.length_append];rw[oC,m5];omega) aO (by rw[qv];omega))
 |@whl to val b line cC fv wv fb hh=>
  have xW:=hB true [] (by simpa [bj,cB]using fb) (by simp[bj,fu,eX,hh]) b (by simp[bj]);have e:cM p.vars (.mk 5 [] to val [] [] [] [b] line) m.cells=(gV (ak p.vars val).1 (ag p.vars b m.cells).1,(ag p.vars b m.cells).2):=by simp[cM,kF]
  have et:gq (.mk 5 [] to val [] [] [] [b] line)=max (aL 0 val) (max (bg b) 0):=by simp[gq,b6]
  have ed:vd (.mk 5 [] to val [] [] [] [b] line)=max (iw b) 0+1:=by simp[vd,uk]
  rw[e]at ho aO⊢;rw[et,mf (u:=max (aL 0 val) (bg b)) (by omega)];rw[ed]at fH;simp only at ho aO;exact TE (by omega) (.inl rfl) (V3 bn fY fv (jJ wv).1 xW (m.put (ins 11 0 0 0 0) 0) qV hc vh (by rw[oC,m5];omega) aO (by rw[qv];omega))
 |@rep to val b line cC fv wv fb hh=>
  have xW:=hB true [] (by simpa [bj,cB]using fb) (by simp[bj,fu,eX,hh]) b (by simp[bj]);have e:cM p.vars (.mk 6 [] to val [] [] [] [b] line) m.cells=(lA (ak p.vars val).1 (ag p.vars b m.cells).1,(ag p.vars b m.cells).2):=by simp[cM,kF]
  have et:gq (.mk 6 [] to val [] [] [] [b] line)=max (aL 0 val) (max (bg b) 0):=by simp[gq,b6]
  have ed:vd (.mk 6 [] to val [] [] [] [b] line)=max (iw b) 0+1:=by simp[vd,uk]
  rw[e]at ho aO⊢;rw[et,mf (u:=max (aL 0 val) (bg b)) (by omega)];rw[ed]at fH;simp only at ho aO;exact TE (by omega) (.inr rfl) (TD bn fY fv (jJ wv).1 xW (m.put (ins 11 0 0 0 0) 0) qV hc vh (by rw[oC,m5];omega) aO (by rw[qv];omega))
 |@ext to val line cC cm nH=>
  have e:cM p.vars (.mk 7 [] to val [] [] [] [] line) m.cells=([ins 9 (-1) 0 0 0],m.cells):=by simp[cM]
  have et:gq (.mk 7 [] to val [] [] [] [] line)=0:=by simp[gq]
  rw[e]at ho⊢;rw[et];simp only[List.length_cons,List.length_nil]at ho;rcases List.eq_nil_or_concat m.ex with hx|⟨pre,row,hx⟩
  ·exact absurd hx (hex nH)
  ·rw[List.concat_eq_append]at hx;have hr:=hI.2 row (by rw[hx];simp);have dF:m.ex.length=pre.length+1:=by rw[hx];simp
   have:=aiJ (p:=p) (x:=.mk 7 [] to val [] [] [] [] line) hx (by omega) (by omega) (by omega) rfl;have e2:(m.put (ins 11 0 0 0 0) 0).ext=(m.put (ins 11 0 0 0 0) 0).aM [ins 9 (-1) 0 0 0] m.cells 0:=by
    simp[Mk.ext,Mk.aM,cG,jZ,cE,ins,Mk.put]
   rw[e2]at this;exact this
 |@ret to val line cC cm=>
  have e:cM p.vars (.mk 8 [] to val [] [] [] [] line) m.cells=([ins 9 (-2) 0 0 0],m.cells):=by simp[cM]
  have et:gq (.mk 8 [] to val [] [] [] [] line)=0:=by simp[gq]
  rw[e]at ho⊢;rw[et];simp only[List.length_cons,List.length_nil]at ho;have:=aiI (p:=p) (x:=.mk 8 [] to val [] [] [] [] line) (m:=m) (by omega) (by have:=hI.1;omega) rfl;have e2:(m.put (ins 11 0 0 0 0) 0).ret=(m.put (ins 11 0 0 0 0) 0).aM [ins 9 (-2) 0 0 0] m.cells 0:=by
   simp[Mk.ret,Mk.aM,cG,jZ,cE,ins,Mk.put,me]
  rw[e2]at this;exact this
 |@cal name to val conds fields line v hn cC cm hv ht fc hl hff hh=>
  have mz:=DL fields conds [] hl hh;have hK:∀c∈conds,bk c=true∧(aF p.vars c).e=0:=fun c tt=>⟨(gj _).1 fc c tt,mz c tt⟩;have BI:=Nx (vs:=p.vars) (name:=name) fields conds hl;have e:cM p.vars (.mk 9 name to val conds [] fields [] line) m.cells=(dw p.vars name fields conds++[ins 12 (cj p.vars name).1 v.ty 0 0],m.cells):=by simp[cM,gY hv]
  have et:gq (.mk 9 name to val conds [] fields [] line)=jU conds:=by simp[gq]
  rw[e]at ho⊢;rw[et];simp only[List.length_append,List.length_cons,List.length_nil]at ho;refine aiE (by omega) rfl ?_;show fO p ((m.put (ins 11 0 0 0 0) 0).aM _ (m.put (ins 11 0 0 0 0) 0).cells _) 0 _ _;rw[nN (Flat.app (Iw fields conds fc mz) (Flat.one (by simp[ins])))];exact aaa bn fY hv hl (by omega) hK _ qV (by omega)
mutual
theorem afg:∀(x:Sm)(lp:Bool),iH x=true→(jk p.vars lp x).1=0→TF p lp x
 | .mk op name to val conds labels fields blocks line,lp,hf,h=>aiK bn fY hf h (fun lp cs h1 h2=>Bi blocks lp cs h1 h2)
theorem wF:∀(l:List Sm)(lp:Bool),eh l=true→(er p.vars lp l).1=0→∀x∈l,TF p lp x
 |[],_,_,_,x,hx=>absurd hx (List.not_mem_nil)
 |y::r,lp,hf,h,x,hx=>by
  simp only[eh,Bool.and_eq_true]at hf;simp only[er]at h;obtain⟨h1,h2⟩:=bH.1 h;rcases List.mem_cons.1 hx with h0|hx
  ·rw[h0];exact afg y lp hf.1 h1
  ·exact wF r lp hf.2 h2 x hx
theorem Bi:∀(l:List (List Sm))(lp:Bool)(cs:List Ex),cB l=true→(fu p.vars lp cs l).1=0→∀b∈l,sA p lp b
 |[],_,_,_,_,b,hb=>absurd hb (List.not_mem_nil)
 |y::r,lp,[],hf,h,b,hb=>by
  simp only[cB,Bool.and_eq_true]at hf;simp only[fu]at h;obtain⟨h1,h2⟩:=bH.1 h;rcases List.mem_cons.1 hb with h0|hb
  ·rw[h0];exact Bh y (wF y lp hf.1 h1)
  ·exact Bi r lp [] hf.2 h2 b hb
 |y::r,lp,c::cs,hf,h,b,hb=>by
  simp only[cB,Bool.and_eq_true]at hf;simp only[fu]at h;obtain⟨h1,h2⟩:=bH.1 h;obtain⟨h2,h3⟩:=bH.1 h2;rcases List.mem_cons.1 hb with h0|hb
  ·rw[h0];exact Bh y (wF y lp hf.1 h2)
  ·exact Bi r lp cs hf.2 h3 b hb
end
theorem aan{l:List Sm}{lp:Bool}(hf:eh l=true)(h:(er p.vars lp l).1=0):sA p lp l:=Bh l (wF bn fY l lp hf h)
end
def Bj:List Vr→Int→List Int
 |[],_=>[]
 |v::r,n=>n::Bj r (n+bN v)
def Bk:List Vr→List Int
 |[]=>[]
 |v::r=>(if v.arr=false∧v.ty≤2 then [v.init]else List.replicate (bN v).toNat 0)++Bk r
@[simp] def afh(v1 v2 v3:Nat)(X3:aE)(S:List Int)(n:Int)(F:List Int):List cI:=[⟨250,1,.box [.vec 251 v1 0 S.length,.d (.int .i64 n),.vec 252 v2 0 F.length]⟩,⟨251,v1,.vec 1 (S.map dC)⟩,⟨252,v2,.vec 1 (F.map dC)⟩,⟨350,v3,X3⟩]
theorem IJ(l:List Vr)(bn:l.length≤1000)(hf:∀v∈l,dj v=true)(B C:cI)(hB:B.key=150)(hC:C.key=200)(k:Kt)(Q:List Int→Int→List Int→bS→Prop)
 (hx:∀(Y:Env) S n F v1 v2 v3 X3,Q S n F (k (.exit 0) ⟨51,aC,(2,true,.ptr 200 1 0)::(3,true,.ptr 250 1 0)::Y,B::C::afh v1 v2 v3 X3 S n F⟩)):∀(rest pre:List Vr)(S:List Int)(n:Int)(F:List Int)(v1 v2 v3:Nat)(X3:aE),l=pre++rest→0≤n→n≤1000*pre.length→S.length=pre.length→(F.length:Int)=n→
 Q (S++Bj rest n) (n+b8 rest) (F++Bk rest) (aI ctx 50 (.loop (Code.at (aY Tryz.f50) [1,1,0,1,0,0])) ⟨51,aC,[(2,true,.ptr 200 1 0),(3,true,.ptr 250 1 0),(8,true,.d (.list (l.map bI))),(9,true,.d (.int .i64 l.length)),(10,true,.d (.int .i64 pre.length))],B::C::afh v1 v2 v3 X3 S n F⟩ k)
 |[],pre,S,n,F,v1,v2,v3,X3,hd,h0,hn,hS,hF=>by
  have cf:pre.length=l.length:=by rw[hd];simp
  have:=hx [(8,true,.d (.list (l.map bI))),(9,true,.d (.int .i64 l.length)),(10,true,.d (.int .i64 l.length)),(11,true,.d (.bool false))] S n F v1 v2 v3 X3;simp[Bj,b8,Bk]at this⊢;rw[cf,ah];simp[Tryz.f50,this]
 |w::rest,pre,S,n,F,v1,v2,v3,X3,hd,h0,hn,hS,hF=>by
  have aR:pre.length<l.length:=by rw[hd];simp
  have aV:l[pre.length]=w:=by simp[hd]
  have hc:=Hv (hf w (by rw[hd];simp));have kX:=pR (hf w (by rw[hd];simp));have ih:=fun F' h v1 v2 v3 X3=>IJ l bn hf B C hB hC k Q hx rest (pre++[w]) (S++[n]) (n+bN w) F' v1 v2 v3 X3 (by simp[hd]) (by omega) (by simp;omega) (by simp[hS]) h;have w1:IntKind.i64.wrap ((pre.length:Int)+1)=(pre.length:Int)+1:=au (by unfold aX;omega);have w2:IntKind.i64.wrap (n+bN w)=n+bN w:=au (by unfold aX;omega);have w3:S.length≤4611686018427387903:=by omega
  have w4:(S.length+1)*8≤140737488355328:=by omega
  rw[ah];simp only[Bj,b8,Bk];rw[←Int.add_assoc];by_cases hs:w.arr=false∧w.ty≤2
  ·have h1:bN w=1:=by unfold bN;rw[if_neg (by simp[hs.1]),if_neg (by omega)]
   rw[h1]at hc ih w2 kX⊢;have ih:=ih (F++[w.init]) (by simp;omega);have w5:F.length≤4611686018427387903:=by omega
   have w6:(F.length+1)*8≤140737488355328:=by omega
   have w7:IntKind.i64.wrap n=F.length:=by rw[←hF];exact au (by unfold aX;omega)
   have w8:(F.map dC++[D.int .i64 0]).set F.length (D.int .i64 w.init)=F.map dC++[D.int .i64 w.init]:=by
    rw[List.set_append_right _ _ (by simp)];simp
   simp[Tryz.f50,bI,eD,hs,dC]at ih hc⊢;simp[aR,aV,hB,hC,bI,eD,hs,hc,w1,w2,w3,w4,w5,w6,w7,w8,ih,dC]
  ·have ih:=ih (F++List.replicate (bN w).toNat 0) (by simp;omega);have w7:0≤bN w∧bN w≤4611686018427387904:=by omega
   have w5:F.length+(bN w).toNat≤4611686018427387904:=by omega
   have w6:(F.length+(bN w).toNat)*8≤140737488355328:=by omega
   simp[Tryz.f50,bI,eD,hs,dC]at ih hc⊢;simp[aR,aV,hB,hC,bI,eD,hs,hc,w1,w2,w3,w4,w5,w6,w7,ih,dC]
theorem aao(p:Pg)(bn:p.vars.length≤1000)(hf:∀v∈p.vars,dj v=true):ai ctx 50 [.d (mc p)] []=some (.ret (.d (.agg [.list ((Bj p.vars 0).map dC),.int .i64 (b8 p.vars),.list ((Bk p.vars).map dC)])),[]):=by
 have cJ:=fun B C hB hC k Q hx v1 v2 v3 X3=>IJ p.vars bn hf B C hB hC k Q hx p.vars [] [] 0 [] v1 v2 v3 X3 rfl (by omega) (by simp) rfl rfl;rw[ah5 (by simp)];simp[Tryz.f50]at cJ⊢;refine cJ _ _ ?_ ?_ _ (fun S n F r=>S=Bj p.vars 0→n=b8 p.vars→F=Bk p.vars→r=some (.ret (.d (.agg [.list ((Bj p.vars 0).map dC),.int .i64 (b8 p.vars),.list ((Bk p.vars).map dC)])),[])) (fun Y S n F v1 v2 v3 X3 h1 h2 h3=>?_) _ _ _ _ rfl rfl rfl
 ·rfl
 ·rfl
 ·subst h1 h2 h3;simp
end Go.Am
end
section
namespace Go.Am
open Go Go.Proofs
variable [Inhabited bX]
set_option maxRecDepth 20000
set_option maxHeartbeats 1000000
theorem V7(p:Pg)(bn:p.vars.length≤1000)(fY:∀v∈p.vars,dj v=true)
 (hF:ai ctx 37 [.d (mc p)] []=some (.ret (.d (mc (Tc p))),[]))
 (M:Mk) (hM:fO p M 0 (.ret (.aW [])) (ai ctx 51 [.ptr 0 0 0,.d (.list ((dr p.body).map b5))] (fM p ⟨[],b8 p.vars,0,[],[]⟩ 0))) (hl:M.out.length<99999990) (nA:M.lv.length<100000000) (hp:Pl M.out.length M.lv):
 ai ctx 20 [.d (mc p)] []=(if 4096<(((M.cA M.lv).put (ins 15 0 0 0 0) 0).out.length:Int)∨64<((M.cA M.lv).put (ins 15 0 0 0 0) 0).most then some (.ret (.aW [.d (.agg [.list [],.int .i64 0,.int .i64 0]),.d (.int .i64 13)]),[])else some (.ret (.aW [.d (.agg [.list (((M.cA M.lv).put (ins 15 0 0 0 0) 0).out.map dc),.int .i64 (b8 p.vars),.int .i64 M.cells]),.d (.int .i64 0)]),[])):=by
 have hL:=aao p bn fY;obtain⟨a1,a2,a3,hM⟩:=hM;have h2:=VX p M 0 nA (by omega) hp;have hlA:(M.cA M.lv).out.length=M.out.length:=by
  have:∀(ps:List Int)(m:Mk),(m.cA ps).out.length=m.out.length:=by
   intro ps;induction ps with
   |nil=>intro m;rfl
   |cons i r ih=>intro m;rw[sy,ih,Bc]
  exact this _ _
 obtain⟨b1,b2,b3,h3⟩:=ji p (M.cA M.lv) 0 0 (ins 15 0 0 0 0) (by rw[hlA];omega) (by decide);rw[ahU (by simp)];simp[Tc]at hF;simp at hM h2;simp[ins]at h3;have e1:(M.cA M.lv).ex=M.ex:=rfl;have e2:(M.cA M.lv).lv=M.lv:=rfl;have e3:(M.cA M.lv).most=M.most:=rfl;have e4:(M.cA M.lv).cells=M.cells:=rfl;simp[e1,e2,e3,e4]at h2 h3;have e5:((M.cA M.lv).put (ins 15 0 0 0 0) 0).cells=M.cells:=rfl;rw[←e5];simp only[ins]at h3⊢;clear e1 e2 e3 e4 e5 hlA hp;generalize M.cA M.lv=N at*;simp[Tryz.f20,hL,hF,hM,h2,h3,aq];split<;>rename_i h<;>first|simp[h]|simp_all
end Go.Am
end
section
namespace Go.Am
open Go
theorem apr{x:ar}(h:x.op=9∨x.op=10→0≤x.a):jZ 0 x=x:=by
 unfold jZ;split
 ·rename_i ho;have:=h ho;rw[if_pos this];obtain⟨op,a,b,n,m⟩:=x;simp
 ·rfl
theorem aps{l:List ar}(h:∀x∈l,x.op=9∨x.op=10→0≤x.a):cG 0 l=l:=by
 unfold cG;exact (List.map_congr_left (g:=id) (fun x hx=>apr (h x hx))).trans (List.map_id l)
theorem aap{l:List ar}(hj:Jf false l):jg (cG 0 l) (cE (-2) 0 l) l.length=l.map (H6 l.length):=by
 have h:=qq (k:= -2) (to:=(l.length:Int)) (by decide) (by omega) 0 l [] [] 0 rfl;simp only[List.nil_append,List.append_nil]at h;rw[show ((l.length:Int)+((0:Nat):Int))=(l.length:Int) by omega]at h;rw[h];have e:(fun x=>kI (-2) (l.length:Int) x)=H6 (l.length:Int):=rfl;rw[show l.map (kI (-2) (l.length:Int))=l.map (H6 (l.length:Int))from rfl];refine aps (fun x hx ho=>?_);obtain⟨y,hy,rfl⟩:=List.mem_map.1 hx;have EY:=hj y hy;unfold H6 at ho⊢;split
 ·show 0≤(l.length:Int);omega
 ·rename_i hn;rw[if_neg hn]at ho;rcases ho with ho|ho
  ·rcases EY.2 ho with h|h|h
   ·exact h
   ·exact absurd ⟨ho,h⟩ hn
   ·exact absurd h.1 (by decide)
  ·exact EY.1 ho
theorem zE:∀(ts bs:List (List ar)),(bs.map List.length).sum≤(cK ts bs).length
 |[],[]=>by simp[cK]
 |_::_,[]=>by simp[cK]
 |[],b::r=>by
  have ih:=zE [] r;rw[zA];simp only[List.map_cons,List.sum_cons];split
  ·rename_i h;subst h;simp
  ·simp only[ei,List.length_append,List.length_cons,List.length_nil];omega
 |t::ts,b::r=>by
  have ih:=zE ts r;rw[cK];simp only[List.map_cons,List.sum_cons];generalize cK ts r=out at ih⊢;rw[ei];simp only[List.length_append,List.length_cons,List.length_nil,lh];split
  ·omega
  ·simp only[List.length_append,List.length_cons,List.length_nil];omega
section
variable {vs:List Vr}
mutual
theorem Qp:∀(s:Sm)(c:Int),(cM vs s c).2≤c+(cM vs s c).1.length
 | .mk op name to val conds labels fields blocks line,c=>by
  have h1:=fun c=>Ap blocks c;have h2:=fun c=>Qq blocks c;unfold cM;split
  ·simp only;omega
  ·split
   ·have q1:=h1 c;have q2:=zE (conds.map fun x=>(ak vs x).1) (aw vs blocks c).1;simp only
    omega
   ·split
    ·have q1:=h1 (c+1);have q2:=zE (labels.map fun l=>ins 1 0 0 0 0::dH c l) (aw vs blocks (c+1)).1;simp only[ei,List.length_append,List.length_cons,List.length_nil];omega
    ·split
     ·have q1:=h2 (c+2);simp only[ei,List.length_append,List.length_cons,List.length_nil,kE,nq,lh];omega
     ·split
      ·have q1:=h2 c;simp only[gV,nq,List.length_append,List.length_cons,List.length_nil,lh];omega
      ·split
       ·have q1:=h2 c;simp only[lA,nq,List.length_append,List.length_cons,List.length_nil];omega
       ·split
        ·simp only;omega
        ·split<;>(simp only;omega)
theorem m6:∀(l:List Sm)(c:Int),(ag vs l c).2≤c+(ag vs l c).1.length
 |[],c=>by simp[ag]
 |x::r,c=>by
  have h1:=Qp x c;have h2:=m6 r (cM vs x c).2;simp only[ag,ei,List.length_cons,List.length_nil];omega
theorem Ap:∀(l:List (List Sm))(c:Int),(aw vs l c).2≤c+(((aw vs l c).1.map List.length).sum:Nat)
 |[],c=>by simp[aw]
 |b::r,c=>by
  have h1:=m6 b c;have h2:=Ap r (ag vs b c).2;simp only[aw,List.map_cons,List.sum_cons];omega
theorem Qq:∀(l:List (List Sm))(c:Int),(kF vs l c).2≤c+(kF vs l c).1.length
 |[],c=>by simp[kF]
 |b::r,c=>m6 b c
end
end
theorem yT:∀(l p:List Vr)(n:Int),n≤1024→(EJ l p n).1=0→n+b8 l≤1024
 |[],_,n,hn,_=>by simp[b8];exact hn
 |v::r,p,n,hn,h=>by
  unfold EJ at h;split at h
  ·simp at h
  ·split at h
   ·simp at h
   ·have:=yT r _ _ (by omega) h;simp only[b8];omega
theorem wG:∀(l:List Vr),(∀v∈l,0≤bN v)→0≤b8 l
 |[],_=>by simp[b8]
 |y::l,h=>by
  have:=wG l (fun v hv=>h v (by simp[hv]));have:=h y (by simp);simp only[b8];omega
theorem TH{p:Pg}(hf:oo p=true)(hl:iF p.body=true)(hc:(qn p).1=0)(V8:bg (dr p.body)≤64):
 Fg (ag p.vars (dr p.body) (b8 p.vars)).2 false (ag p.vars (dr p.body) (b8 p.vars)).1∧0≤b8 p.vars∧b8 p.vars≤1024∧b8 p.vars≤(ag p.vars (dr p.body) (b8 p.vars)).2∧
 (ag p.vars (dr p.body) (b8 p.vars)).2≤b8 p.vars+(ag p.vars (dr p.body) (b8 p.vars)).1.length:=by
 simp only[oo,Bool.and_eq_true,List.all_eq_true]at hf;obtain⟨_,_,cS,hb⟩:=hf;obtain⟨h1,h2⟩:=bH.1 hc;obtain⟨a1,a2,a3⟩:=pw false p.body hb hl h2;have Wq:=yT p.vars [] 0 (by omega) h1;have D3:=wG p.vars (fun v hv=>nK (cS v hv));have hm:=gI (vs:=p.vars) (dr p.body) (b8 p.vars);have aO:=m6 (vs:=p.vars) (dr p.body) (b8 p.vars);exact⟨sw cS hm false (dr p.body) (b8 p.vars) a1 a3 V8 D3 (Int.le_refl _),D3,by omega,hm,aO⟩
section
variable {vs:List Vr}
mutual
theorem vj:∀x:Ex,(ak vs x).1.length≤dB (bM x)
 | .mk op n name field sub line=>by
  have h1:=DM sub;have h2:=TI sub;unfold ak;simp only[bM,dB,bE];split
  ·simp only[List.length_cons,List.length_nil];omega
  ·split
   ·simp only[List.length_cons,List.length_nil];omega
   ·split
    ·simp only[List.length_cons,List.length_nil];omega
    ·split
     ·simp only[List.length_append,List.length_cons,List.length_nil];omega
     ·simp only[List.length_append,List.length_cons,List.length_nil];omega
theorem DM:∀l:List Ex,(eY vs l).1.length≤bE (ga l)
 |[]=>by simp[eY]
 |[x]=>by
  have:=vj x;simp only[eY,ga,bE];omega
 |x::y::r=>by
  have h1:=vj x;have h2:=DM (y::r);simp only[ga,bE]at h2;simp only[eY,ga,bE,List.length_append]at h2⊢;omega
theorem TI:∀l:List Ex,(lz vs l).length≤bE (ga l)
 |[]=>by simp[lz]
 |x::r=>by
  have:=vj x;simp only[lz,ga,bE];omega
end
theorem afi(x:Ex):(ak vs x).1.length≤bE (uM x)+1:=by
 have:=vj (vs:=vs) x;rw[uX]at this;exact this
theorem aaq(x:Ex):(lz vs (cN x)).length≤bE (uM x):=by
 obtain⟨op,n,name,field,sub,line⟩:=x;have:=TI (vs:=vs) sub;simp only[uM,m4,bE,dB];omega
end
theorem FL(x:Ex):7≤dB (bM x):=by
 obtain⟨op,n,name,field,sub,line⟩:=x;simp only[bM,dB,bE];omega
theorem Zn(x:Ex):6≤bE (uM x):=by
 have:=FL x;rw[uX]at this;omega
theorem afj(n:Int)(t:Bool)(line:Int):dB (bM (lF n t line))≤14:=by
 unfold lF;split
 ·simp[bM,ga,dB,bE]
 ·split
  ·simp[bM,ga,dB,bE]
  ·simp[bM,ga,dB,bE]
theorem aiL(x:Ex):dB (bM (kM x))≤dB (bM x):=by
 unfold kM;split
 ·omega
 ·split
  ·omega
  ·rename_i l hl;split
   ·omega
   ·rename_i r hr;split
    ·omega
    ·have hm:=fun ln=>afj r.1 r.2.1 ln;obtain⟨op,n,name,field,sub,line⟩:=x;simp only[m4]at hl;cases sub with
     |nil=>
      simp only[ng,Option.some.injEq]at hl;subst hl;simp[H5]at hr
     |cons y q=>
      have:=FL y;refine Nat.le_trans (hm _) ?_;simp only[bM,ga,dB,bE];omega
mutual
theorem Zo:∀x:Ex,dB (bM (cY x))≤dB (bM x)
 | .mk op n name field sub line=>by
  have h:=IK sub;have h1:=aiL (.mk op n name field (cR sub) line);unfold cY;refine Nat.le_trans h1 ?_;simp only[bM,dB,bE];omega
theorem IK:∀l:List Ex,bE (ga (cR l))≤bE (ga l)
 |[]=>by simp[cR]
 |x::r=>by
  have h1:=Zo x;have h2:=IK r;simp only[cR,ga,bE];omega
end
theorem Zp(x:Ex):bE (uM (cY x))≤bE (uM x):=by
 have:=Zo x;rw[uX,uX]at this;omega
mutual
theorem aiM:∀x:Sm,dB (b5 (oV x))≤dB (b5 x)
 | .mk op name to val conds labels fields blocks line=>by
  have h1:=Zp to;have h2:=Zp val;have h3:=IK conds;have h4:=TJ blocks;simp only[oV,b5,dB,bE,np];omega
theorem IL:∀l:List Sm,bE (kB (dr l))≤bE (kB l)
 |[]=>by simp[dr]
 |x::r=>by
  have h1:=aiM x;have h2:=IL r;simp only[dr,kB,bE];omega
theorem TJ:∀l:List (List Sm),bE (kA (gO l))≤bE (kA l)
 |[]=>by simp[gO]
 |b::r=>by
  have h1:=IL b;have h2:=TJ r;simp only[gO,kA,bE,dB];omega
end
def oD(l:List (List ar)):Nat:=(l.map fun t=>t.length+1).sum
theorem FM:∀(ts bs:List (List ar)),(cK ts bs).length≤oD ts+oD bs
 |[],[]=>by simp[cK]
 |_::_,[]=>by simp[cK]
 |[],b::r=>by
  have ih:=FM [] r;rw[zA];simp only[oD,List.map_cons,List.sum_cons,List.map_nil,List.sum_nil]at ih⊢;split
  ·omega
  ·simp only[ei,List.length_append,List.length_cons,List.length_nil];omega
 |t::ts,b::r=>by
  have ih:=FM ts r;rw[cK];simp only[oD,List.map_cons,List.sum_cons]at ih⊢;generalize cK ts r=out at ih⊢;rw[ei];simp only[List.length_append,List.length_cons,List.length_nil,lh];split
  ·omega
  ·simp only[List.length_append,List.length_cons,List.length_nil];omega
theorem TL(c:Int):∀l:List Int,(dH c l).length≤l.length
 |[]=>by simp[dH]
 |[_]=>by simp[dH]
 |a::b::r=>by
  have:=TL c r;simp only[dH,List.length_cons];omega
theorem TM(c:Int):∀l:List (List Int),oD (l.map fun l=>ins 1 0 0 0 0::dH c l)≤2*bE (l.map mC)
 |[]=>by simp[oD]
 |x::r=>by
  have h1:=TM c r;have h2:=TL c x;have h3:=Y4 x;have h4:1+x.length≤dB (mC x):=by
   have:=wg (fun n=>D.int .i64 n) x;simp only[mC,dB];omega
  simp only[oD,List.map_cons,List.sum_cons,bE,List.length_cons]at h1⊢;omega
section
variable {vs:List Vr}
theorem Ny:∀l:List Ex,oD (l.map fun x=>(ak vs x).1)≤2*bE (ga l)
 |[]=>by simp[oD]
 |x::r=>by
  have h1:=Ny r;have h2:=vj (vs:=vs) x;have h3:=FL x;simp only[oD,List.map_cons,List.sum_cons,ga,bE]at h1⊢;omega
theorem Nz(name:Tx):∀(fs:List Tx)(xs:List Ex),(dw vs name fs xs).length≤2*bE (ga xs)
 |[],xs=>by cases xs<;>simp[dw]
 |_::_,[]=>by simp[dw]
 |f::fs,x::xs=>by
  have h1:=Nz name fs xs;have h2:=vj (vs:=vs) x;have h3:=FL x;simp only[dw,List.length_append,List.length_cons,ga,bE];omega
mutual
theorem afk:∀(s:Sm)(c:Int),(cM vs s c).1.length+1≤2*dB (b5 s)
 | .mk op name to val conds labels fields blocks line,c=>by
  have h1:=fun c=>NA blocks c;have h2:=fun c=>afl blocks c;have a1:=Zn to;have a2:=Zn val;have a3:=afi (vs:=vs) val;have a4:=aaq (vs:=vs) to;have a5:=Ny (vs:=vs) conds;have a6:=DM (vs:=vs) conds;have a7:=Nz (vs:=vs) name fields conds;simp only[b5,dB,bE,np];unfold cM;split
  ·split
   ·simp only[List.length_append,List.length_cons,List.length_nil];omega
   ·simp only[List.length_append,List.length_cons,List.length_nil];omega
  ·split
   ·have q1:=h1 c;have q2:=FM (conds.map fun x=>(ak vs x).1) (aw vs blocks c).1;simp only;omega
   ·split
    ·have q1:=h1 (c+1);have q2:=FM (labels.map fun l=>ins 1 0 0 0 0::dH c l) (aw vs blocks (c+1)).1;have q3:=TM c labels;simp only[ei,List.length_append,List.length_cons,List.length_nil];omega
    ·split
     ·have q1:=h2 (c+2);simp only[ei,kE,nq,lh,List.length_append,List.length_cons,List.length_nil];omega
     ·split
      ·have q1:=h2 c;simp only[gV,nq,lh,List.length_append,List.length_cons,List.length_nil];omega
      ·split
       ·have q1:=h2 c;simp only[lA,nq,lh,List.length_append,List.length_cons,List.length_nil];omega
       ·split
        ·simp only[List.length_cons,List.length_nil];omega
        ·split
         ·simp only[List.length_cons,List.length_nil];omega
         ·simp only[List.length_append,List.length_cons,List.length_nil];omega
theorem zF:∀(l:List Sm)(c:Int),(ag vs l c).1.length≤2*bE (kB l)
 |[],c=>by simp[ag]
 |x::r,c=>by
  have h1:=afk x c;have h2:=zF r (cM vs x c).2;simp only[ag,kB,bE,ei,List.length_cons,List.length_nil];omega
theorem NA:∀(l:List (List Sm))(c:Int),oD (aw vs l c).1≤2*bE (kA l)
 |[],c=>by simp[aw,oD]
 |b::r,c=>by
  have h1:=zF b c;have h2:=NA r (ag vs b c).2;simp only[oD]at h2;simp only[aw,kA,bE,dB,oD,List.map_cons,List.sum_cons];omega
theorem afl:∀(l:List (List Sm))(c:Int),(kF vs l c).1.length≤2*bE (kA l)
 |[],c=>by simp[kF]
 |b::r,c=>by
  have h1:=zF b c;simp only[kF,kA,bE,dB];omega
end
end
mutual
theorem aiN:∀s:Sm,vd s≤dB (b5 s)
 | .mk op name to val conds labels fields blocks line=>by
  have:=TN blocks;simp only[vd,b5,dB,bE,np];omega
theorem IM:∀l:List Sm,iw l≤bE (kB l)
 |[]=>by simp[iw]
 |x::r=>by
  have h1:=aiN x;have h2:=IM r;simp only[iw,kB,bE];omega
theorem TN:∀l:List (List Sm),uk l≤bE (kA l)
 |[]=>by simp[uk]
 |b::r=>by
  have h1:=IM b;have h2:=TN r;simp only[uk,kA,bE,dB];omega
end
theorem Qr(p:Pg){n:Nat}(h:dB (.agg [.str p.name,.list (p.vars.map bI),.list (p.body.map b5)])<n):
 (∀c,(ag p.vars (dr p.body) c).1.length<2*n)∧iw (dr p.body)<n∧(dr p.body).length<n:=by
 simp only[dB,bE]at h;rw[←pn]at h;have h0:=IL p.body;have h1:=IM (dr p.body);have h2:=lY (kB (dr p.body));rw[A5]at h2;refine⟨fun c=>?_,by omega,by omega⟩;have:=zF (vs:=p.vars) (dr p.body) c;omega
end Go.Am
end
section
namespace Go.Am
open Go Go.Proofs
variable [Inhabited bX]
set_option maxRecDepth 20000
@[simp] def Zq(p:Int×Bool):AV:=.aW [.d (.int .i64 p.1),.d (.bool p.2)]
@[simp] def afm(p:Int×Int):AV:=.aW [.d (.int .i64 p.1),.d (.int .i64 p.2)]
theorem V9(a b:Int)(ha:aX a)(hb:aX b):ai ctx 265 [.d (.int .i64 a),.d (.int .i64 b)] []=some (.ret (Zq (kS (a+b))),[]):=by
 have hw:IntKind.i64.wrap (a+b)=(a+b+9223372036854775808)%18446744073709551616-9223372036854775808:=IntKind.wrap_i64 _;unfold aX at ha hb;rw[adx (by simp)];unfold kS;by_cases h1:0≤a<;>by_cases h2:0≤b<;>by_cases h3:0≤IntKind.i64.wrap (a+b)<;>by_cases h4:(-9223372036854775808≤a+b∧a+b≤9223372036854775807)<;>
  first
  |(exfalso;omega)
  |(simp[Tryz.f265,h1,h2,h3,h4];try omega)
theorem IN(a b:Int)(ha:aX a)(hb:aX b):ai ctx 264 [.d (.int .i64 a),.d (.int .i64 b)] []=some (.ret (Zq (kS (a-b))),[]):=by
 have hw:IntKind.i64.wrap (a-b)=(a-b+9223372036854775808)%18446744073709551616-9223372036854775808:=IntKind.wrap_i64 _;unfold aX at ha hb;rw[adw (by simp)];unfold kS;by_cases h1:0≤a<;>by_cases h2:0≤b<;>by_cases h3:0≤IntKind.i64.wrap (a-b)<;>by_cases h4:(-9223372036854775808≤a-b∧a-b≤9223372036854775807)<;>
  first
  |(exfalso;omega)
  |(simp[Tryz.f264,h1,h2,h3,h4];try omega)
theorem E7(a:Int)(ha:aX a):ai ctx 298 [.d (.int .i64 a)] []=some (.ret (.d (.int .u64 (a.natAbs:Nat))),[]):=by
 unfold aX at ha;rw[adF (by simp)];have h1:=IntKind.wrap_u64 a;by_cases h:a<0
 ·have h2:IntKind.u64.wrap (-IntKind.u64.wrap a)=(a.natAbs:Nat):=by rw[h1,IntKind.wrap_u64];omega
  simp[Tryz.f298,h,h2]
 ·have h2:IntKind.u64.wrap a=(a.natAbs:Nat):=by rw[h1];omega
  simp[Tryz.f298,h,h2]
theorem JG(n:Nat)(hn:n<18446744073709551616)(s:Bool):ai ctx 299 [.d (.int .u64 n),.d (.bool s)] []=some (.ret (Zq (kS (if s=true then-(n:Int)else n))),[]):=by
 rw[adG (by simp)];have h1:=IntKind.wrap_i64 (n:Int);unfold kS;cases s
 ·by_cases h:n≤9223372036854775807
  ·have h2:(n:Int)≤9223372036854775807:=by omega
   have h3:IntKind.i64.wrap (n:Int)=n:=by rw[h1];omega
   have h4: -9223372036854775808≤(n:Int):=by omega
   simp[Tryz.f299,h2,h3,h4]
  ·have h2:¬(n:Int)≤9223372036854775807:=by omega
   simp[Tryz.f299,h2]
 ·by_cases h:n≤9223372036854775808
  ·have h2:(n:Int)≤9223372036854775808:=by omega
   have h3:IntKind.i64.wrap (-(IntKind.i64.wrap (n:Int)))= -(n:Int):=by rw[h1,IntKind.wrap_i64];omega
   have h4: -9223372036854775808≤ -(n:Int):=by omega
   have h5: -(n:Int)≤9223372036854775807:=by omega
   simp[Tryz.f299,h2,h3,h4,h5]
  ·have h2:¬(n:Int)≤9223372036854775808:=by omega
   have h4:¬ -9223372036854775808≤ -(n:Int):=by omega
   simp[Tryz.f299,h2,h4]
def wH(k:IntKind)(a b:Int):Int:=k.wrap (BitVec.ofInt k.bits a &&& BitVec.ofInt k.bits b).toNat
def IP(k:IntKind)(a b:Int):Int:=k.wrap (BitVec.ofInt k.bits a ||| BitVec.ofInt k.bits b).toNat
theorem C4(k:IntKind)(a b:Int):intBin .and k a b=some (true,.int k (wH k a b)):=rfl
theorem TO(k:IntKind)(a b:Int):intBin .or k a b=some (true,.int k (IP k a b)):=rfl
theorem aiO(a:Nat)(ha:a<18446744073709551616):wH .u64 (a:Int) 4294967295=((a%4294967296:Nat):Int):=by
 show IntKind.u64.wrap (BitVec.ofInt 64 (a:Int) &&& BitVec.ofInt 64 4294967295).toNat=_;have e:(BitVec.ofInt 64 (a:Int) &&& BitVec.ofInt 64 4294967295).toNat=a%4294967296:=by
  rw[BitVec.toNat_and,BitVec.toNat_ofInt,BitVec.toNat_ofInt];have e1:((a:Int)%((2^64:Nat):Int)).toNat=a:=by omega
  have e2:((4294967295:Int)%((2^64:Nat):Int)).toNat=4294967295:=by decide
  rw[e1,e2];exact Nat.and_two_pow_sub_one_eq_mod a 32
 rw[e,IntKind.wrap_u64];omega
theorem TP(x y:Nat)(hx:x<18446744073709551616)(hy:y<18446744073709551616):
 ai ctx 297 [.d (.int .u64 x),.d (.int .u64 y)] []=some (.ret (.aW [.d (.int .u64 (x*y/18446744073709551616:Nat)),.d (.int .u64 (x*y%18446744073709551616:Nat))]),[]):=by
 have mN:∀a:Nat,a<18446744073709551616→wH .u64 (a:Int) 4294967295=((a%4294967296:Nat):Int):=fun a ha=>aiO a ha;have fN:∀a:Nat,(a:Int).fdiv 4294967296=((a/4294967296:Nat):Int):=fun a=>by rw[Int.fdiv_eq_ediv_of_nonneg _ (by decide)];omega
 have mul':∀a b:Nat,(a:Int)*(b:Int)=((a*b:Nat):Int):=fun a b=>(Int.natCast_mul a b).symm;have IQ:∀a b:Nat,(a:Int)+(b:Int)=((a+b:Nat):Int):=fun a b=>(Int.natCast_add a b).symm;have wN:∀a:Nat,a<18446744073709551616→IntKind.u64.wrap (a:Int)=(a:Int):=fun a h=>by rw[IntKind.wrap_u64];omega
 have wM:∀a:Nat,IntKind.u64.wrap (a:Int)=((a%18446744073709551616:Nat):Int):=fun a=>by rw[IntKind.wrap_u64];omega
 obtain⟨bd,bt,bw,nC⟩:=Lib.mul64_hi x y hx hy;have ba:=Lib.half_mul_le (a:=x/4294967296) (b:=y/4294967296) (by omega) (by omega);have bb:=Lib.half_mul_le (a:=x/4294967296) (b:=y%4294967296) (by omega) (by omega);have bc:=Lib.half_mul_le (a:=x%4294967296) (b:=y/4294967296) (by omega) (by omega);have m1:=mN x hx;have m2:=mN y hy;have f1:=fN x;have f2:=fN y;have lx0:x%4294967296<4294967296:=by omega
 have lx1:x/4294967296<4294967296:=by omega
 have ly0:y%4294967296<4294967296:=by omega
 have ly1:y/4294967296<4294967296:=by omega
 have k9:IntKind.u64.wrap ((x:Int)*(y:Int))=((x*y%18446744073709551616:Nat):Int):=by rw[mul',wM]
 have lhi:x*y/18446744073709551616<18446744073709551616:=by
  have:x*y<18446744073709551616*18446744073709551616:=Nat.mul_lt_mul_of_lt_of_lt hx hy;omega
 generalize x*y%18446744073709551616=lo at k9⊢;generalize x*y/18446744073709551616=hi at nC lhi⊢;generalize x%4294967296=x0 at bd bt bw nC ba bb bc m1 lx0;generalize x/4294967296=x1 at bd bt bw nC ba bb bc f1 lx1;generalize y%4294967296=y0 at bd bt bw nC ba bb bc m2 ly0;generalize y/4294967296=y1 at bd bt bw nC ba bb bc f2 ly1;generalize ht:x1*y0+x0*y0/4294967296=t at bt bw nC;generalize oM:t%4294967296+x0*y1=w1 at bw nC;have k1:IntKind.u64.wrap ((x0:Int)*(y0:Int))=((x0*y0:Nat):Int):=by rw[mul',wN _ bd]
 have k2:IntKind.u64.wrap ((x1:Int)*(y0:Int))=((x1*y0:Nat):Int):=by rw[mul',wN _ (by omega)]
 have k3:IntKind.u64.wrap (((x1*y0:Nat):Int)+((x0*y0/4294967296:Nat):Int))=(t:Int):=by rw[IQ,ht,wN _ bt]
 have k4:IntKind.u64.wrap ((x0:Int)*(y1:Int))=((x0*y1:Nat):Int):=by rw[mul',wN _ (by omega)]
 have k5:IntKind.u64.wrap (((t%4294967296:Nat):Int)+((x0*y1:Nat):Int))=(w1:Int):=by rw[IQ,oM,wN _ bw]
 have k6:IntKind.u64.wrap ((x1:Int)*(y1:Int))=((x1*y1:Nat):Int):=by rw[mul',wN _ (by omega)]
 have k7:IntKind.u64.wrap (((x1*y1:Nat):Int)+((t/4294967296:Nat):Int))=((x1*y1+t/4294967296:Nat):Int):=by rw[IQ,wN _ (by omega)]
 have k8:IntKind.u64.wrap (((x1*y1+t/4294967296:Nat):Int)+((w1/4294967296:Nat):Int))=(hi:Int):=by rw[IQ,nC,wN _ lhi]
 have fk:=fun a=>fN a;have mt:=mN t bt;rw[adE (by simp)];have f3:=fN t;have f4:=fN w1;have f5:=fN (x0*y0);clear fk mN fN IQ wN wM ht oM nC;generalize hpd:x0*y0/4294967296=pd at k3 f5;generalize ayA:x0*y0=p00 at k1 f5;generalize ayB:x1*y0=p10 at k2 k3;generalize ayC:x0*y1=p01 at k4 k5;generalize ht7:t/4294967296=td at k7 k8 f3;generalize htm:t%4294967296=tm at k5 mt;generalize M0:w1/4294967296=wd at k8 f4;generalize hpp:x1*y1+td=ptd at k7 k8;generalize ayD:x1*y1=p11 at k6 k7;simp[Tryz.f297, -intBin.eq_6,C4,Av,IntKind.bits,m1,m2,f1,f2,f3,f4,f5,mt,k1,k2,k3,k4,k5,k6,k7,k8,k9]
theorem Wa(a b:Int)(ha:aX a)(hb:aX b):ai ctx 266 [.d (.int .i64 a),.d (.int .i64 b)] []=some (.ret (Zq (kS (a*b))),[]):=by
 have sa:=E7 a ha;have sb:=E7 b hb;unfold aX at ha hb;have la:a.natAbs<18446744073709551616:=by omega
 have lb:b.natAbs<18446744073709551616:=by omega
 have hm:=TP _ _ la lb;have sQ:=ZM a b;have hs:=fun s=>JG (a.natAbs*b.natAbs%18446744073709551616) (by omega) s;generalize hx:a.natAbs=x at*;generalize hy:b.natAbs=y at*;have mul':((x*y:Nat):Int)=(x:Int)*(y:Int):=Int.natCast_mul x y;generalize x*y=p at*;have hd:(a<0↔b<0)=(decide (a<0)=decide (b<0)):=by simp
 rw[ady (by simp)];have hf:¬p/18446744073709551616=0→kS (a*b)=(0,false):=by
  intro h;unfold kS;rw[if_neg];rw[sQ];split<;>omega
 by_cases hp:p/18446744073709551616=0
 ·have rX:p%18446744073709551616=p:=by omega
  rw[rX]at hs hm;rw[hp]at hm;have e:(if (decide (a<0) != decide (b<0))=true then-(p:Int)else (p:Int))=a*b:=by
   rw[sQ];by_cases h:decide (a<0)=decide (b<0)<;>simp[h]
  have pU:=hs (decide (a<0) != decide (b<0));rw[e]at pU;try simp at hm
  try simp at pU
  simp[Tryz.f266,sa,sb,hm,pU]
 ·have hf:=hf hp;have zV:¬((p/18446744073709551616:Nat):Int)=0:=by omega
  generalize p/18446744073709551616=q at*;generalize p%18446744073709551616=r at*;try simp at hm
  simp[Tryz.f266,sa,sb,hm,hf,hp,zV]
theorem Wb(a b:Int)(ha:aX a)(hb:aX b):ai ctx 267 [.d (.int .i64 a),.d (.int .i64 b)] []=some (.ret (afm (yr a b)),[]):=by
 rw[adz (by simp)];unfold yr;by_cases h0:b=0
 ·simp[Tryz.f267,h0]
 ·by_cases h1:a= -9223372036854775808
  ·by_cases h2:b= -1
   ·simp[Tryz.f267,h0,h1,h2]
   ·have w:IntKind.i64.wrap (a.tdiv b)=a.tdiv b:=au (by
     have hq:=Hm a b;unfold aX at*;have hle:a.natAbs/b.natAbs≤9223372036854775808:=by
      have:=Nat.div_le_self a.natAbs b.natAbs;omega
     have Ui:decide (a<0)=decide (b<0)→a.natAbs/b.natAbs≤4611686018427387904:=by
      intro hd;rw[h1]at hd;simp at hd;have aV:2≤b.natAbs:=by omega
      have h3:=Nat.div_le_div_left aV (by decide) (a:=a.natAbs);have h4:a.natAbs=9223372036854775808:=by omega
      rw[h4]at h3⊢;exact h3
     generalize a.natAbs/b.natAbs=q at*;split at hq
     ·rename_i hd;have:=Ui hd;omega
     ·omega)
    rw[h1]at w;simp at w;simp[Tryz.f267,h0,h1,h2,w]
  ·have w:IntKind.i64.wrap (a.tdiv b)=a.tdiv b:=au (by
    have hq:=Hm a b;unfold aX at*;have hle:a.natAbs/b.natAbs≤a.natAbs:=Nat.div_le_self _ _;generalize a.natAbs/b.natAbs=q at*;split at hq<;>omega)
   simp[Tryz.f267,h0,h1,w]
theorem Wc(a b:Int)(ha:aX a)(hb:aX b):ai ctx 268 [.d (.int .i64 a),.d (.int .i64 b)] []=some (.ret (afm (AZ a b)),[]):=by
 rw[adA (by simp)];unfold AZ;by_cases h0:b=0
 ·simp[Tryz.f268,h0]
 ·by_cases h2:b= -1
  ·simp[Tryz.f268,h0,h2]
  ·simp[Tryz.f268,h0,h2]
theorem oE(b:Bool):ai ctx 194 [.d (.bool b)] []=some (.ret (.d (.int .i64 (dO b))),[]):=by
 rw[ac5 (by simp)];cases b<;>simp[Tryz.f194,dO]
@[simp] theorem wr0:IntKind.i64.wrap 0=0:=rfl
@[simp] theorem wr1:IntKind.i64.wrap 1=1:=rfl
@[simp] theorem wr2:IntKind.i64.wrap 2=2:=rfl
@[simp] theorem wr3:IntKind.i64.wrap 3=3:=rfl
@[simp] theorem wr4:IntKind.i64.wrap 4=4:=rfl
@[simp] theorem ayE:IntKind.i64.wrap (-1)= -1:=rfl
@[simp] theorem wu0:IntKind.u64.wrap 0=0:=rfl
@[simp] theorem wu1:IntKind.u64.wrap 1=1:=rfl
theorem TQ(op a:Int)(t:Bool)(ha:aX a)(ht:t=true→a=0∨a=1):ai ctx 212 [.d (.int .i64 op),.d (.int .i64 a),.d (.bool t)] []=some (.ret (Kj (qP op a t)),[]):=by
 have hs:=IN 0 a (by unfold aX;omega) ha;rw[adj (by simp)];unfold qP;generalize kS (0-a)=p at*;cases t
 ·by_cases h6:op=6
  ·simp at hs;cases hf:p.2<;>simp[Tryz.f212,h6,hf,hs,uf]
  ·simp[Tryz.f212,h6,lu]
 ·rcases ht rfl with rfl|rfl<;>by_cases h7:op=7
  ·simp[Tryz.f212,h7,dO,wr0,wr1]
  ·simp[Tryz.f212,h7,lu]
  ·simp[Tryz.f212,h7,dO,wr0,wr1]
  ·simp[Tryz.f212,h7,lu]
theorem IS(op a b:Int)(ha:a=0∨a=1)(hb:b=0∨b=1):ai ctx 213 [.d (.int .i64 op),.d (.int .i64 a),.d (.int .i64 b)] []=some (.ret (Kj (Hn op a b)),[]):=by
 have a00:wH .i64 0 0=0:=by decide
 have a01:wH .i64 0 1=0:=by decide
 have NB:wH .i64 1 0=0:=by decide
 have NC:wH .i64 1 1=1:=by decide
 have o00:IP .i64 0 0=0:=by decide
 have o01:IP .i64 0 1=1:=by decide
 have o10:IP .i64 1 0=1:=by decide
 have o11:IP .i64 1 1=1:=by decide
 rw[adk (by simp)];unfold Hn;have hc:op=13∨op=14∨op=20∨op=19∨op=21∨(op≠13∧op≠14∧op≠20∧op≠19∧op≠21):=by omega
 rcases ha with rfl|rfl<;>rcases hb with rfl|rfl<;>rcases hc with rfl|rfl|rfl|rfl|rfl|⟨h1,h2,h3,h4,h5⟩<;>
  simp[Tryz.f213,oE, -intBin.eq_6, -intBin.eq_7,C4,TO,dO,lu, *]
theorem IT(op a b:Int)(h:13≤op∧op≤18):ai ctx 215 [.d (.int .i64 op),.d (.int .i64 a),.d (.int .i64 b)] []=some (.ret (Kj (Co op a b)),[]):=by
 rw[adm (by simp)];unfold Co;have hc:op=13∨op=14∨op=15∨op=16∨op=17∨op=18:=by omega
 rcases hc with rfl|rfl|rfl|rfl|rfl|rfl<;>simp[Tryz.f215,oE,bne]
theorem IU(op a b:Int)(h:8≤op∧op≤12)(ha:aX a)(hb:aX b):ai ctx 214 [.d (.int .i64 op),.d (.int .i64 a),.d (.int .i64 b)] []=some (.ret (Kj (Co op a b)),[]):=by
 have q1:=V9 a b ha hb;have q2:=IN a b ha hb;have q3:=Wa a b ha hb;have q4:=Wb a b ha hb;have q5:=Wc a b ha hb;have hc:op=8∨op=9∨op=10∨op=11∨op=12:=by omega
 rw[adl (by simp)];unfold Co;generalize kS (a+b)=f1 at*;generalize kS (a-b)=f2 at*;generalize kS (a*b)=f3 at*;generalize yr a b=f4 at*;generalize AZ a b=f5 at*;simp at q1 q2 q3 q4 q5;rcases hc with rfl|rfl|rfl|rfl|rfl
 ·cases hf:f1.2<;>simp[Tryz.f214,q1,hf,uf]
 ·cases hf:f2.2<;>simp[Tryz.f214,q2,hf,uf]
 ·cases hf:f3.2<;>simp[Tryz.f214,q3,hf,uf]
 ·by_cases h3:f4.2=3
  ·simp[Tryz.f214,q4,h3,ph]
  ·by_cases h0:f4.2=0<;>simp[Tryz.f214,q4,h0,h3,ph]
 ·by_cases h3:f5.2=3
  ·simp[Tryz.f214,q5,h3,ph]
  ·by_cases h0:f5.2=0<;>simp[Tryz.f214,q5,h0,h3,ph]
theorem JH(op a:Int)(t:Bool)(ha:aX a):ai ctx 152 [.d (.int .i64 op),.d (.list [.int .i64 a]),.d (.bool t)] []=some (.ret (Kj (qP op a t)),[]):=by
 rw[SM (by simp)];by_cases hb:t=true∧a≠0∧a≠1
 ·obtain⟨rfl,h0,h1⟩:=hb;simp[Tryz.f152];rw[ah];simp[h0,h1,qP,lu]
 ·have h1:=TQ op a t ha (by intro h;subst h;simp at hb;omega);have hg:(t&&(a != 0))=true→a=1:=by simp;intro h1 h2;simp[h1]at hb;exact hb h2
  generalize qP op a t=p at*;simp at h1;cases t
  ·simp[Tryz.f152];rw[ah];simp;rw[ah];simp[h1]
  ·have rV:a=0∨a=1:=by simp at hg;omega
   rcases rV with rfl|rfl
   ·simp[Tryz.f152];rw[ah];simp;rw[ah];simp[h1]
   ·simp[Tryz.f152];rw[ah];simp;rw[ah];simp[h1]
theorem JI(op a b:Int)(t:Bool)(ha:aX a)(hb:aX b):ai ctx 152 [.d (.int .i64 op),.d (.list [.int .i64 a,.int .i64 b]),.d (.bool t)] []=some (.ret (Kj (uJ op a b t)),[]):=by
 rw[SM (by simp)];have cmp:=fun h=>IT op a b h;have rck:=fun h=>IU op a b h ha hb;have qN:=fun h1 h2=>IS op a b h1 h2;unfold uJ;cases t
 ·have zW:¬(8≤op∧op≤12)→¬(13≤op∧op≤18)→Co op a b=lu:=by
   intro h1 h2;unfold Co;simp only[show ¬op=8 by omega,show ¬op=9 by omega,show ¬op=10 by omega,show ¬op=11 by omega,show ¬op=12 by omega,show ¬op=13 by omega,show ¬op=14 by omega,show ¬op=15 by omega,show ¬op=16 by omega,show ¬op=17 by omega,show ¬op=18 by omega,if_false]
  generalize Co op a b=p at*;simp[Tryz.f152];rw[ah];simp;rw[ah];simp;rw[ah];simp;by_cases h1:8≤op∧op≤12
  ·have r:=rck h1;simp at r;simp[h1.1,h1.2,r,aq]
  ·by_cases h2:13≤op∧op≤18
   ·have r:=cmp h2;have h3:¬op≤12:=by omega
    have h4:8≤op:=by omega
    simp at r;simp[h2.1,h2.2,h3,h4,r,aq]
   ·have hp:=zW h1 h2;subst hp;by_cases h5:8≤op
    ·have h6:¬op≤12:=by omega
     have h7:13≤op:=by omega
     have h8:¬op≤18:=by omega
     simp[h5,h6,h7,h8,lu]
    ·have h7:¬13≤op:=by omega
     simp[h5,h7,lu]
 ·by_cases h1:a=0∨a=1
  ·by_cases h2:b=0∨b=1
   ·have r:=qN h1 h2;generalize Hn op a b=p at*;rcases h1 with rfl|rfl<;>rcases h2 with rfl|rfl<;>
     (simp at r
      simp[Tryz.f152];rw[ah];simp;rw[ah];simp;rw[ah];simp[r,aq])
   ·have h3:¬b=0:=by omega
    have h4:¬b=1:=by omega
    rcases h1 with rfl|rfl<;>
     (simp[Tryz.f152]
      rw[ah];simp;rw[ah];simp[h3,h4,lu])
  ·have h3:¬a=0:=by omega
   have h4:¬a=1:=by omega
   simp[Tryz.f152];rw[ah];simp[h3,h4,lu]
def sB(o:Option (Int×Bool)):Out:=match o with|some c=>.ret (.aW [.d (.int .i64 c.1),.d (.bool c.2),.d (.bool true)])|none=>.ret (.aW [.d (.int .i64 0),.d (.bool false),.d (.bool false)])
theorem TR(n:Int)(t:Bool)(line:Int):ai ctx 195 [.d (.int .i64 n),.d (.bool t),.d (.int .i64 line)] []=some (.ret (.d (bM (lF n t line))),[]):=by
 rw[ac6 (by simp)];cases t with
 |true=>simp[Tryz.f195,lF,bM,ga]
 |false=>
  by_cases h:0≤n
  ·simp[Tryz.f195,lF,bM,ga,h]
  ·simp[Tryz.f195,lF,bM,ga,h,Nc]
theorem zG(x:Ex):ai ctx 193 [.d (bM x)] []=some (sB (jl x),[]):=by
 obtain⟨op,n,name,field,sub,line⟩:=x;rw[ac4 (by simp)];simp[Tryz.f193,aD];by_cases h1:op=1
 ·subst h1;simp[jl,sB]
 by_cases h2:op=2
 ·subst h2;simp[jl,sB]
 by_cases h6:op=6
 ·subst h6;match sub with
  |[]=>simp[jl,sB]
  |[y]=>
   by_cases hy:bW y=1
   ·simp[jl,sB,hy,aD,Nc]
   ·simp[jl,sB,hy,aD]
  |y::z::r=>
   have bK:¬((r.length:Int)+1+1=1):=by omega
   simp[jl,sB,bK]
 ·simp[jl,sB,h1,h2,h6]
def tH(y:Ex):Prop:=ai ctx 124 [.d (bM y)] []=some (.ret (.d (bM (cY y))),[])
theorem IV(l:List Ex)(jY:l.length<100000000)(A B:cI)(hA:A.key=150)(hB:B.key=200)(C1 C2:aE)(k:Kt)(Q:List Ex→bS→Prop)
 (hx:∀(Y:Env)(out:List Ex) v v3 X3,Q out (k (.exit 0) ⟨105,aC,(1,true,.ptr 150 1 0)::(2,true,.ptr 200 1 0)::(3,true,.vec 250 v 0 out.length)::Y,[A,B,⟨250,v,.vec 6 (out.map bM)⟩,⟨350,v3,X3⟩,⟨550,0,C1⟩,⟨700,0,C2⟩]⟩)):
 ∀(rest pre out:List Ex)(v v3:Nat)(X3:aE),l=pre++rest→out.length=pre.length→(∀y∈rest,tH y)→
 Q (out++cR rest) (aI ctx 124 (.loop (Code.at (aY Tryz.f124) [1,1,0,1,0,0])) ⟨105,aC,[(1,true,.ptr 150 1 0),(2,true,.ptr 200 1 0),(3,true,.vec 250 v 0 out.length),(20,true,.d (.list (l.map bM))),(21,true,.d (.int .i64 l.length)),(22,true,.d (.int .i64 pre.length))],[A,B,⟨250,v,.vec 6 (out.map bM)⟩,⟨350,v3,X3⟩,⟨550,0,C1⟩,⟨700,0,C2⟩]⟩ k)
 |[],pre,out,v,v3,X3,hd,ho,hK=>by
  have cf:pre.length=l.length:=by rw[hd];simp
  have:=hx [(20,true,.d (.list (l.map bM))),(21,true,.d (.int .i64 l.length)),(22,true,.d (.int .i64 l.length)),(23,true,.d (.bool false))] out v v3 X3;simp[cR]at this⊢;rw[cf,ah];simp[Tryz.f124,this]
 |x::rest,pre,out,v,v3,X3,hd,ho,hK=>by
  have aR:pre.length<l.length:=by rw[hd];simp
  have aV:l[pre.length]=x:=by simp[hd]
  have hk:=hK x (by simp);unfold tH at hk;have ih:=fun v v3 X3=>IV l jY A B hA hB C1 C2 k Q hx rest (pre++[x]) (out++[cY x]) v v3 X3 (by simp[hd]) (by simp[ho]) (fun y hy=>hK y (by simp[hy]));have w1:IntKind.i64.wrap ((pre.length:Int)+1)=(pre.length:Int)+1:=au (by unfold aX;omega);have w3:out.length≤4611686018427387903:=by omega
  have w4:(out.length+1)*80≤140737488355328:=by omega
  have e:out++cR (x::rest)=out++[cY x]++cR rest:=by simp[cR]
  rw[e,ah];generalize cY x=x' at*;simp[Tryz.f124,aD]at ih hk⊢;simp[aR,aV,hA,hB,aD,hk,w1,w3,w4,ih]
theorem IW(l:List Ex)(jY:l.length<100000000)(k:Kt)(Q:List Ex→bS→Prop)
 (hx:∀(Y:Env)(out:List Ex) v v3 X3,Q out (k (.exit 0) ⟨19,aC,(3,true,.vec 250 v 0 out.length)::Y,[⟨250,v,.vec 6 (out.map bM)⟩,⟨350,v3,X3⟩]⟩)):
 ∀(rest pre out:List Ex)(v v3:Nat)(X3:aE),l=pre++rest→out.length=pre.length→(∀y∈rest,tH y)→
 Q (out++cR rest) (aI ctx 125 (.loop (Code.at (aY Tryz.f125) [1,1,0,1,0,0])) ⟨19,aC,[(3,true,.vec 250 v 0 out.length),(6,true,.d (.list (l.map bM))),(7,true,.d (.int .i64 l.length)),(8,true,.d (.int .i64 pre.length))],[⟨250,v,.vec 6 (out.map bM)⟩,⟨350,v3,X3⟩]⟩ k)
 |[],pre,out,v,v3,X3,hd,ho,hK=>by
  have cf:pre.length=l.length:=by rw[hd];simp
  have:=hx [(6,true,.d (.list (l.map bM))),(7,true,.d (.int .i64 l.length)),(8,true,.d (.int .i64 l.length)),(9,true,.d (.bool false))] out v v3 X3;simp[cR]at this⊢;rw[cf,ah];simp[Tryz.f125,this]
 |x::rest,pre,out,v,v3,X3,hd,ho,hK=>by
  have aR:pre.length<l.length:=by rw[hd];simp
  have aV:l[pre.length]=x:=by simp[hd]
  have hk:=hK x (by simp);unfold tH at hk;have ih:=fun v v3 X3=>IW l jY k Q hx rest (pre++[x]) (out++[cY x]) v v3 X3 (by simp[hd]) (by simp[ho]) (fun y hy=>hK y (by simp[hy]));have w1:IntKind.i64.wrap ((pre.length:Int)+1)=(pre.length:Int)+1:=au (by unfold aX;omega);have w3:out.length≤4611686018427387903:=by omega
  have w4:(out.length+1)*80≤140737488355328:=by omega
  have e:out++cR (x::rest)=out++[cY x]++cR rest:=by simp[cR]
  rw[e,ah];generalize cY x=x' at*;simp[Tryz.f125,aD]at ih hk⊢;simp[aR,aV,aD,hk,w1,w3,w4,ih]
theorem Wd(l:List Ex)(jY:l.length<100000000)(hK:∀y∈l,tH y):ai ctx 125 [.d (.list (l.map bM))] []=some (.ret (.d (.list ((cR l).map bM))),[]):=by
 have cJ:=fun k Q hx v v3 X3=>IW l jY k Q hx l [] [] v v3 X3 rfl rfl hK;rw[acO (by simp)];simp[Tryz.f125]at cJ⊢;refine cJ _ (fun out r=>out=cR l→r=some (.ret (.d (.list ((cR l).map bM))),[])) (fun Y out v v3 X3 h=>?_) _ _ _ rfl;subst h;simp
end Go.Am
end
section
namespace Go.Am
open Go Go.Proofs
variable [Inhabited bX]
set_option maxRecDepth 20000
set_option maxHeartbeats 4000000
theorem apt{α:Type}{l:List α}(h:l.length=2):∃a b,l=[a,b]:=by
 match l,h with
 |[a,b],_=>exact⟨a,b,rfl⟩
theorem afn{op n line:Int}{name field:Tx}{sub:List Ex}(jY:sub.length<100000000)(hs:6≤op→sub.length=1∨sub.length=2)(hK:∀y∈sub,tH y)(hC:∀y∈sub,∀c,jl (cY y)=some c→aX c.1):tH (.mk op n name field sub line):=by
 have cJ:=fun A B hA hB C1 C2 k Q hx v v3 X3=>IV sub jY A B hA hB C1 C2 k Q hx sub [] [] v v3 X3 rfl rfl hK;unfold tH;have e:cY (.mk op n name field sub line)=kM (.mk op n name field (cR sub) line):=by simp[cY]
 rw[e];have TS:∀y∈cR sub,∀c,jl y=some c→aX c.1:=by
  rw[lZ];intro y hy;obtain⟨z,hz,rfl⟩:=List.mem_map.1 hy;exact hC z hz
 have pU:6≤op→(cR sub).length=1∨(cR sub).length=2:=by rw[lZ];simpa using hs
 obtain⟨R,hR⟩:∃R,R=bM (kM (.mk op n name field (cR sub) line)):=⟨_,rfl⟩;rw[←hR,acN (by simp)];simp[Tryz.f124,aD]at cJ⊢;refine cJ _ _ ?_ ?_ _ _ _ (fun out r=>out=cR sub→r=some (.ret (.d R),[])) (fun Y out v v3 X3 h=>?_) _ _ _ rfl
 ·rfl
 ·rfl
 subst h;generalize cR sub=out at*;have hc:=zG (.mk op n name field out line);by_cases h6:op<6
 ·have hv:kM (.mk op n name field out line)=.mk op n name field out line:=by simp[kM,h6]
  rw[hv]at hR;subst hR;simp[Tryz.f124,h6,aD]
 cases eT:jl (.mk op n name field out line)with
 |some c=>
  have hv:kM (.mk op n name field out line)=.mk op n name field out line:=by simp[kM,eT]
  rw[hv]at hR;subst hR;rw[eT]at hc;simp[aD]at hc;simp[Tryz.f124,h6,aD,hc,sB]
 |none=>
  rw[eT]at hc;rcases pU (by omega)with h1|h2
  ·obtain⟨y,rfl⟩:=DE h1;have hy:=zG y;simp[aD,sB]at hc hy;simp[Tryz.f124,h6,aD,hc];rw[ah];cases mV:jl y with
   |none=>
    have hv:kM (.mk op n name field [y] line)=.mk op n name field [y] line:=by simp[kM,ng,mV]
    rw[hv]at hR;subst hR;rw[mV]at hy;simp at hy;simp[aD,hy]
   |some c=>
    obtain⟨a,t⟩:=c;have ha:aX a:=TS y (by simp) _ mV;have ht:=oE t;have cU:=JH op a t ha;rw[mV]at hy;simp at hy;have hv:kM (.mk op n name field [y] line)=if (qP op a t).2.2≠0∨((qP op a t).2.1=false∧(qP op a t).1= -9223372036854775808)then .mk op n name field [y] line else lF (qP op a t).1 (qP op a t).2.1 line:=by
     simp[kM,ng,mV,eT,H5,h6]
    rw[hv]at hR;generalize qP op a t=q at*;obtain⟨q1,q2,q3⟩:=q;have hm:=TR q1 q2 line;simp only at hR cU;have hq:(q3≠0∧R=bM (.mk op n name field [y] line))∨(q3=0∧q2=false∧q1= -9223372036854775808∧R=bM (.mk op n name field [y] line))∨(∃e,R=bM e∧q3=0∧q2=false∧q1≠ -9223372036854775808∧ai ctx 195 [.d (.int .i64 q1),.d (.bool q2),.d (.int .i64 line)] []=some (.ret (.d (bM e)),[]))∨(∃e,R=bM e∧q3=0∧q2=true∧ai ctx 195 [.d (.int .i64 q1),.d (.bool q2),.d (.int .i64 line)] []=some (.ret (.d (bM e)),[])):=by
     by_cases nt:q3≠0∨(q2=false∧q1= -9223372036854775808)
     ·rw[if_pos nt]at hR;rcases nt with h|h
      ·exact .inl ⟨h,hR⟩
      ·by_cases h3:q3=0
       ·exact .inr (.inl ⟨h3,h.1,h.2,hR⟩)
       ·exact .inl ⟨h3,hR⟩
     ·rw[if_neg nt]at hR;simp only[not_or,not_and,Classical.not_not]at nt;cases q2 with
      |true=>exact .inr (.inr (.inr ⟨_,hR,nt.1,rfl,hm⟩))
      |false=>exact .inr (.inr (.inl ⟨_,hR,nt.1,rfl,nt.2 rfl,hm⟩))
    clear hR hm TS hC hK cJ hs pU;cases t
    ·simp[dO]at ht cU;rcases hq with ⟨e3,hR⟩|⟨rfl,rfl,rfl,hR⟩|⟨e,rfl,rfl,rfl,e1,hm⟩|⟨e,rfl,rfl,rfl,hm⟩
     ·subst hR;simp[aD,hy,ht,cU,e3];rw[ah];simp[aD,hy,ht,cU,e3]
     ·subst hR;simp[aD,hy,ht,cU];rw[ah];simp[aD,hy,ht,cU]
     ·simp[aD]at hm;simp[aD,hy,ht,cU,e1,hm];rw[ah];simp[aD,hy,ht,cU,e1,hm]
     ·simp[aD]at hm;simp[aD,hy,ht,cU,hm];rw[ah];simp[aD,hy,ht,cU,hm]
    ·simp[dO]at ht cU;rcases hq with ⟨e3,hR⟩|⟨rfl,rfl,rfl,hR⟩|⟨e,rfl,rfl,rfl,e1,hm⟩|⟨e,rfl,rfl,rfl,hm⟩
     ·subst hR;simp[aD,hy,ht,cU,e3];rw[ah];simp[aD,hy,ht,cU,e3]
     ·subst hR;simp[aD,hy,ht,cU];rw[ah];simp[aD,hy,ht,cU]
     ·simp[aD]at hm;simp[aD,hy,ht,cU,e1,hm];rw[ah];simp[aD,hy,ht,cU,e1,hm]
     ·simp[aD]at hm;simp[aD,hy,ht,cU,hm];rw[ah];simp[aD,hy,ht,cU,hm]
  ·obtain⟨y,z,rfl⟩:=apt h2;have hy:=zG y;have hz:=zG z;simp[aD,sB]at hc hy hz;simp[Tryz.f124,h6,aD,hc];rw[ah];cases mV:jl y with
   |none=>
    have hv:kM (.mk op n name field [y,z] line)=.mk op n name field [y,z] line:=by simp[kM,ng,mV]
    rw[hv]at hR;subst hR;rw[mV]at hy;simp at hy;simp[aD,hy]
   |some c=>
    obtain⟨a,t⟩:=c;have ha:aX a:=TS y (by simp) _ mV;have ht:=oE t;rw[mV]at hy;simp at hy;cases ND:jl z with
    |none=>
     have hv:kM (.mk op n name field [y,z] line)=.mk op n name field [y,z] line:=by simp[kM,ng,mV,ND]
     rw[hv]at hR;subst hR;rw[ND]at hz;simp at hz ht;simp[aD,hy,ht];rw[ah];simp[aD,hz]
    |some d=>
     obtain⟨b,u⟩:=d;have hb:aX b:=TS z (by simp) _ ND;have hu:=oE u;rw[ND]at hz;simp at hz;by_cases Zr:t=u
     ·subst Zr;have cU:=JI op a b t ha hb;have hv:kM (.mk op n name field [y,z] line)=if (uJ op a b t).2.2≠0∨((uJ op a b t).2.1=false∧(uJ op a b t).1= -9223372036854775808)then .mk op n name field [y,z] line else lF (uJ op a b t).1 (uJ op a b t).2.1 line:=by
       simp[kM,ng,mV,ND,eT,H5,h6]
      rw[hv]at hR;generalize uJ op a b t=q at*;obtain⟨q1,q2,q3⟩:=q;have hm:=TR q1 q2 line;simp only at hR cU;have hq:(q3≠0∧R=bM (.mk op n name field [y,z] line))∨(q3=0∧q2=false∧q1= -9223372036854775808∧R=bM (.mk op n name field [y,z] line))∨(∃e,R=bM e∧q3=0∧q2=false∧q1≠ -9223372036854775808∧ai ctx 195 [.d (.int .i64 q1),.d (.bool q2),.d (.int .i64 line)] []=some (.ret (.d (bM e)),[]))∨(∃e,R=bM e∧q3=0∧q2=true∧ai ctx 195 [.d (.int .i64 q1),.d (.bool q2),.d (.int .i64 line)] []=some (.ret (.d (bM e)),[])):=by
       by_cases nt:q3≠0∨(q2=false∧q1= -9223372036854775808)
       ·rw[if_pos nt]at hR;rcases nt with h|h
        ·exact .inl ⟨h,hR⟩
        ·by_cases h3:q3=0
         ·exact .inr (.inl ⟨h3,h.1,h.2,hR⟩)
         ·exact .inl ⟨h3,hR⟩
       ·rw[if_neg nt]at hR;simp only[not_or,not_and,Classical.not_not]at nt;cases q2 with
        |true=>exact .inr (.inr (.inr ⟨_,hR,nt.1,rfl,hm⟩))
        |false=>exact .inr (.inr (.inl ⟨_,hR,nt.1,rfl,nt.2 rfl,hm⟩))
      clear hR hm TS hC hK cJ hs pU;cases t
      ·simp[dO]at ht cU;rcases hq with ⟨e3,hR⟩|⟨rfl,rfl,rfl,hR⟩|⟨e,rfl,rfl,rfl,e1,hm⟩|⟨e,rfl,rfl,rfl,hm⟩
       ·subst hR;simp[aD,hy,hz,ht,cU,e3];rw[ah];simp[aD,hy,hz,ht,cU,e3];rw[ah];simp[aD,hy,hz,ht,cU,e3]
       ·subst hR;simp[aD,hy,hz,ht,cU];rw[ah];simp[aD,hy,hz,ht,cU];rw[ah];simp[aD,hy,hz,ht,cU]
       ·simp[aD]at hm;simp[aD,hy,hz,ht,cU,e1,hm];rw[ah];simp[aD,hy,hz,ht,cU,e1,hm];rw[ah];simp[aD,hy,hz,ht,cU,e1,hm]
       ·simp[aD]at hm;simp[aD,hy,hz,ht,cU,hm];rw[ah];simp[aD,hy,hz,ht,cU,hm];rw[ah];simp[aD,hy,hz,ht,cU,hm]
      ·simp[dO]at ht cU;rcases hq with ⟨e3,hR⟩|⟨rfl,rfl,rfl,hR⟩|⟨e,rfl,rfl,rfl,e1,hm⟩|⟨e,rfl,rfl,rfl,hm⟩
       ·subst hR;simp[aD,hy,hz,ht,cU,e3];rw[ah];simp[aD,hy,hz,ht,cU,e3];rw[ah];simp[aD,hy,hz,ht,cU,e3]
       ·subst hR;simp[aD,hy,hz,ht,cU];rw[ah];simp[aD,hy,hz,ht,cU];rw[ah];simp[aD,hy,hz,ht,cU]
       ·simp[aD]at hm;simp[aD,hy,hz,ht,cU,e1,hm];rw[ah];simp[aD,hy,hz,ht,cU,e1,hm];rw[ah];simp[aD,hy,hz,ht,cU,e1,hm]
       ·simp[aD]at hm;simp[aD,hy,hz,ht,cU,hm];rw[ah];simp[aD,hy,hz,ht,cU,hm];rw[ah];simp[aD,hy,hz,ht,cU,hm]
     ·have hv:kM (.mk op n name field [y,z] line)=.mk op n name field [y,z] line:=by simp[kM,ng,mV,ND,H5,Zr]
      rw[hv]at hR;subst hR;cases t<;>cases u
      ·exact absurd rfl Zr
      ·simp[dO]at ht hu;simp[aD,hy,hz,ht,hu];rw[ah];simp[aD,hy,hz,ht,hu];rw[ah];simp[aD,hy,hz,ht,hu]
      ·simp[dO]at ht hu;simp[aD,hy,hz,ht,hu];rw[ah];simp[aD,hy,hz,ht,hu];rw[ah];simp[aD,hy,hz,ht,hu]
      ·exact absurd rfl Zr
end Go.Am
end
section
namespace Go.Am
open Go Go.Proofs
variable [Inhabited bX]
set_option maxRecDepth 20000
theorem afo{vs:List Vr}{x:Ex}(hf:bk x=true)(he:(aF vs x).e=0):∀y∈cN x,(aF vs y).e=0:=by
 cases DH hf he with
 |num h=>simp
 |qN h=>simp
 |var hv ha ht=>simp
 |idx hv ha ht fy ey ty=>simpa using ey
 |Zd hv ht hq hf=>simp
 |one ho fy ey ty=>simpa using ey
 |two ho fy ey fz ez ty tz=>simpa using ⟨ey,ez⟩
mutual
theorem oF{vs:List Vr}:∀x:Ex,bk x=true→eJ x=true→(aF vs x).e=0→tH x
 | .mk op n name field sub line,hf,hl,he=>by
  have hs:=afo hf he;simp only[m4]at hs;have Zj:=hf;simp only[bk,Bool.and_eq_true,decide_eq_true_eq]at hf;simp only[eJ,Bool.and_eq_true]at hl;have hlen:=hf.2.1;unfold dJ at hlen;have p6:=hf.2.2.2.2;have hls:=hl.2;refine afn (by split at hlen<;>(try split at hlen)<;>omega) (fun h6=>by
   by_cases h:op=4∨op=6∨op=7
   ·rw[if_pos h]at hlen;exact .inl hlen
   ·rw[if_neg h,if_pos (by omega)]at hlen;exact .inr hlen) (zH sub p6 hls hs) (fun y hy c hc=>?_)
  have hk:=CJ y ((gj _).1 p6 y hy) ((tu _).1 hls y hy) (hs y hy);have:=(Tf hc hk.1 hk.2.1 (by rw[hk.2.2.1];exact hs y hy)).2;unfold aX;omega
theorem zH{vs:List Vr}:∀l:List Ex,bA l=true→en l=true→(∀y∈l,(aF vs y).e=0)→∀y∈l,tH y
 |[],_,_,_,y,hy=>absurd hy (List.not_mem_nil)
 |x::r,hf,hl,he,y,hy=>by
  simp only[bA,Bool.and_eq_true]at hf;simp only[en,Bool.and_eq_true]at hl;rcases List.mem_cons.1 hy with h|h
  ·rw[h];exact oF x hf.1 hl.1 (he x (by simp))
  ·exact zH r hf.2 hl.2 (fun z hz=>he z (by simp[hz])) y h
end
theorem iV{x:Ex}(h:dK x=true):tH x:=by
 obtain⟨op,n,name,field,sub,line⟩:=x;have h:(decide (op=0)&&(decide (n=0)&&decide (name.length+field.length+sub.length=0)))=true:=h;simp only[Bool.and_eq_true,decide_eq_true_eq]at h;have hs:sub=[]:=List.eq_nil_of_length_eq_zero (by omega);have h0:=h.1;subst hs;exact afn (by simp) (fun h6=>by omega) (fun y hy=>absurd hy (List.not_mem_nil)) (fun y hy=>absurd hy (List.not_mem_nil))
end Go.Am
end
section
namespace Go.Am
open Go Go.Proofs
variable [Inhabited bX]
set_option maxRecDepth 20000
set_option maxHeartbeats 1000000
def KG(b:List Sm):Prop:=ai ctx 81 [.d (.list (b.map b5))] []=some (.ret (.d (.list ((dr b).map b5))),[])
def KH(x:Sm):Prop:=ai ctx 124 [.d (bM (eI x))] []=some (.ret (.d (bM (cY (eI x)))),[])∧ai ctx 124 [.d (bM (dM x))] []=some (.ret (.d (bM (cY (dM x)))),[])∧ai ctx 125 [.d (.list ((cy x).map bM))] []=some (.ret (.d (.list ((cR (cy x)).map bM))),[])∧(bj x).length<100000000∧∀b∈bj x,KG b
theorem NF(l:List (List Sm))(jY:l.length<100000000)(va na vb:Nat)(ra:List D)(cs:List AV)(kX:∀v rows,cs.map (fzAV 400 v rows)=cs)(a9 NB NC:D)(k:Kt)(Q:List (List Sm)→bS→Prop)
 (hx:∀(Y:Env)(out:List (List Sm)) v,Q out (k (.exit 2) ⟨48,aC,(3,true,.vec 250 va 0 na)::(5,true,.ptr 350 vb 0)::(6,true,.d (.list (out.map df)))::(9,true,.d a9)::(10,true,.d NB)::(11,true,.d NC)::Y,[⟨250,va,.vec 19 ra⟩,⟨350,vb,.box cs⟩,⟨400,v,.dead⟩]⟩)):
 ∀(rest pre out:List (List Sm))(v:Nat),l=pre++rest→out.length=pre.length→(∀b∈rest,KG b)→
 Q (out++gO rest) (aI ctx 81 (.loop (Code.at (aY Tryz.f81) [1,1,0,1,0,0,1,1,0,0,1,1,1,0,1,0,0])) ⟨48,aC,[(3,true,.vec 250 va 0 na),(5,true,.ptr 350 vb 0),(6,true,.vec 400 v 0 out.length),(9,true,.d a9),(10,true,.d NB),(11,true,.d NC),(28,true,.d (.list (l.map df))),(29,true,.d (.int .i64 l.length)),(30,true,.d (.int .i64 pre.length))],[⟨250,va,.vec 19 ra⟩,⟨350,vb,.box cs⟩,⟨400,v,.vec 1 (out.map df)⟩]⟩ k)
 |[],pre,out,v,hd,ho,hK=>by
  have cf:pre.length=l.length:=by rw[hd];simp
  have:=hx [(28,true,.d (.list (l.map df))),(29,true,.d (.int .i64 l.length)),(30,true,.d (.int .i64 l.length)),(31,true,.d (.bool false))] out (v+1);simp[gO]at this⊢;rw[cf,ah];simp[Tryz.f81,kX,this]
 |b::rest,pre,out,v,hd,ho,hK=>by
  have aR:pre.length<l.length:=by rw[hd];simp
  have aV:l[pre.length]=b:=by simp[hd]
  have hk:=hK b (by simp);unfold KG at hk;have ih:=fun v=>NF l jY va na vb ra cs kX a9 NB NC k Q hx rest (pre++[b]) (out++[dr b]) v (by simp[hd]) (by simp[ho]) (fun y hy=>hK y (by simp[hy]));have w1:IntKind.i64.wrap ((pre.length:Int)+1)=(pre.length:Int)+1:=au (by unfold aX;omega);have w3:out.length≤4611686018427387903:=by omega
  have w4:(out.length+1)*24≤140737488355328:=by omega
  have e:out++gO (b::rest)=out++[dr b]++gO rest:=by simp[gO]
  rw[e,ah];generalize dr b=b' at*;simp[Tryz.f81,df]at ih hk⊢;simp[aR,aV,df,hk,w1,w3,w4,ih]
theorem NG(l:List Sm)(jY:l.length<100000000)(k:Kt)(Q:List Sm→bS→Prop)
 (hx:∀(Y:Env)(out:List Sm) v v3 X3 v4 X4,Q out (k (.exit 0) ⟨48,aC,(3,true,.vec 250 v 0 out.length)::Y,[⟨250,v,.vec 19 (out.map b5)⟩,⟨350,v3,X3⟩,⟨400,v4,X4⟩]⟩)):
 ∀(rest pre out:List Sm)(v v3:Nat)(X3:aE)(v4:Nat)(X4:aE),l=pre++rest→out.length=pre.length→(∀x∈rest,KH x)→
 Q (out++dr rest) (aI ctx 81 (.loop (Code.at (aY Tryz.f81) [1,1,0,1,0,0])) ⟨48,aC,[(3,true,.vec 250 v 0 out.length),(9,true,.d (.list (l.map b5))),(10,true,.d (.int .i64 l.length)),(11,true,.d (.int .i64 pre.length))],[⟨250,v,.vec 19 (out.map b5)⟩,⟨350,v3,X3⟩,⟨400,v4,X4⟩]⟩ k)
 |[],pre,out,v,v3,X3,v4,X4,hd,ho,hK=>by
  have cf:pre.length=l.length:=by rw[hd];simp
  have:=hx [(9,true,.d (.list (l.map b5))),(10,true,.d (.int .i64 l.length)),(11,true,.d (.int .i64 l.length)),(12,true,.d (.bool false))] out v v3 X3 v4 X4;simp[dr]at this⊢;rw[cf,ah];simp[Tryz.f81,this]
 |x::rest,pre,out,v,v3,X3,v4,X4,hd,ho,hK=>by
  have aR:pre.length<l.length:=by rw[hd];simp
  have aV:l[pre.length]=x:=by simp[hd]
  obtain⟨ht,hv,hc,fG,hK2⟩:=hK x (by simp);have ih:=fun v v3 X3 v4 X4=>NG l jY k Q hx rest (pre++[x]) (out++[oV x]) v v3 X3 v4 X4 (by simp[hd]) (by simp[ho]) (fun y hy=>hK y (by simp[hy]));have cJ:=fun va na vb ra cs kX a9 NB NC k Q hx v=>NF (bj x) fG va na vb ra cs kX a9 NB NC k Q hx (bj x) [] [] v rfl rfl hK2;have w1:IntKind.i64.wrap ((pre.length:Int)+1)=(pre.length:Int)+1:=au (by unfold aX;omega);have w3:out.length≤4611686018427387903:=by omega
  have w4:(out.length+1)*288≤140737488355328:=by omega
  have e:out++dr (x::rest)=out++[oV x]++dr rest:=by simp[dr]
  have eM:b5 (oV x)=.agg [.int .i64 (bu x),.str (gU x),.int .i64 (bW (cY (eI x))),.int .i64 (ic (cY (eI x))),.str (dA (cY (eI x))),.str (fq (cY (eI x))),.list ((cN (cY (eI x))).map bM),.int .i64 (jG (cY (eI x))),.int .i64 (bW (cY (dM x))),.int .i64 (ic (cY (dM x))),.str (dA (cY (dM x))),.str (fq (cY (dM x))),.list ((cN (cY (dM x))).map bM),.int .i64 (jG (cY (dM x))),.list ((cR (cy x)).map bM),.list ((ee x).map mC),.list ((dR x).map .str),.list ((gO (bj x)).map df),.int .i64 (kC x)]:=by
   obtain⟨op,name,to,val,conds,labels,fields,blocks,line⟩:=x;rw[ef];simp[oV,bu,gU,eI,dM,cy,ee,dR,bj,kC]
  rw[e,ah];have h19:(b5 (oV x)).size=19:=by rw[ef];simp
  generalize oV x=x' at*;generalize cY (eI x)=t at*;generalize cY (dM x)=w at*;generalize cR (cy x)=cc at*;simp[Tryz.f81]at ih cJ⊢;simp[aD]at ht hv hc;simp[aR,aV,ef x,aD,ht,hv,hc,aq];refine cJ _ _ _ _ _ ?_ _ _ _ _ (fun bo r=>bo=gO (bj x)→Q (out++x'::dr rest) r) (fun Y bo v4' hbo=>?_) _ rfl
  ·intro v rows;simp
  subst hbo;simp[Tryz.f81,w1,w3,w4,←eM,h19,ih]
theorem Bl(l:List Sm)(jY:l.length<100000000)(hK:∀x∈l,KH x):KG l:=by
 have cJ:=fun k Q hx v v3 X3 v4 X4=>NG l jY k Q hx l [] [] v v3 X3 v4 X4 rfl rfl hK;unfold KG;rw[aia (by simp)];simp[Tryz.f81]at cJ⊢;refine cJ _ (fun out r=>out=dr l→r=some (.ret (.d (.list ((dr l).map b5))),[])) (fun Y out v v3 X3 v4 X4 h=>?_) _ _ _ _ _ rfl;subst h;simp
end Go.Am
end
section
namespace Go.Am
open Go Go.Proofs
variable [Inhabited bX]
set_option maxRecDepth 20000
theorem aiP{vs:List Vr}{lp:Bool}{x:Sm}(hf:iH x=true)(hl:oA x=true)(h:(jk vs lp x).1=0)(hn:uV x)(hB:∀(lp:Bool) (cs:List Ex),cB (bj x)=true→il (bj x)=true→(fu vs lp cs (bj x)).1=0→lX (bj x)→∀b∈bj x,KG b):KH x:=by
 have hk:(tH (eI x)∧tH (dM x))∧(∀c∈cy x,tH c)∧∀b∈bj x,KG b:=by
  have bz:eJ (eI x)=true∧eJ (dM x)=true∧en (cy x)=true∧il (bj x)=true:=by
   obtain⟨op,name,to,val,conds,labels,fields,blocks,line⟩:=x;simp only[oA,Bool.and_eq_true]at hl;exact⟨hl.1,hl.2.1,hl.2.2.1,hl.2.2.2.2⟩
  have TU:lX (bj x):=by
   obtain⟨op,name,to,val,conds,labels,fields,blocks,line⟩:=x;simp only[uV]at hn;exact hn.2
  obtain⟨l1,l2,l3,l4⟩:=bz;cases Ni hf h with
  |asg cC hv hs ft et fv ev ht=>exact⟨⟨oF _ ft l1 et,oF _ fv l2 ev⟩,by simp[cy],by simp[bj]⟩
  |cnd cC cm fc h1 h2 h3 fb hh=>
   exact⟨⟨iV cC,iV cm⟩,zH _ fc l3 (fun c hc=>(jJ (qt h2 hh c hc)).1),hB _ _ fb l4 hh TU⟩
  |cas cC fv wv h2 h3 A9 fb hh=>exact⟨⟨iV cC,oF _ fv l2 (jJ wv).1⟩,by simp[cy],hB _ _ fb l4 hh TU⟩
  |cnt hn cC cm hv hs ha ht fx wx fy wy fz wz fb hh=>
   simp only[cy,en,Bool.and_eq_true]at l3;refine⟨⟨iV cC,iV cm⟩,?_,hB true [] (by simpa [bj,cB]using fb) l4 (by simp[bj,fu,eX,hh]) TU⟩;intro c hc;simp only[cy,List.mem_cons,List.not_mem_nil,or_false]at hc;rcases hc with rfl|rfl|rfl
   ·exact oF _ fx l3.1 (jJ wx).1
   ·exact oF _ fy l3.2.1 (jJ wy).1
   ·exact oF _ fz l3.2.2.1 (jJ wz).1
  |whl cC fv wv fb hh=>exact⟨⟨iV cC,oF _ fv l2 (jJ wv).1⟩,by simp[cy],hB true [] (by simpa [bj,cB]using fb) l4 (by simp[bj,fu,eX,hh]) TU⟩
  |rep cC fv wv fb hh=>exact⟨⟨iV cC,oF _ fv l2 (jJ wv).1⟩,by simp[cy],hB true [] (by simpa [bj,cB]using fb) l4 (by simp[bj,fu,eX,hh]) TU⟩
  |ext cC cm nH=>exact⟨⟨iV cC,iV cm⟩,by simp[cy],by simp[bj]⟩
  |ret cC cm=>exact⟨⟨iV cC,iV cm⟩,by simp[cy],by simp[bj]⟩
  |cal hn9 cC cm hv ht fc hl9 hff hh=>exact⟨⟨iV cC,iV cm⟩,zH _ fc l3 (DL _ _ [] hl9 hh),by simp[bj]⟩
 have hlen:(cy x).length<100000000∧(bj x).length<100000000:=by
  obtain⟨op,name,to,val,conds,labels,fields,blocks,line⟩:=x;simp only[uV]at hn;exact⟨hn.1.2.2.1.1,hn.1.2.2.2.2.2⟩
 obtain⟨⟨k1,k2⟩,k3,k4⟩:=hk;refine⟨?_,?_,?_,hlen.2,k4⟩
 ·exact k1
 ·exact k2
 ·exact Wd _ hlen.1 k3
mutual
theorem afp{vs:List Vr}:∀(x:Sm)(lp:Bool),iH x=true→oA x=true→(jk vs lp x).1=0→uV x→KH x
 | .mk op name to val conds labels fields blocks line,lp,hf,hl,h,hn=>aiP hf hl h hn (fun lp cs h1 h2 h3 h4=>Bm blocks lp cs h1 h2 h3 h4)
theorem wI{vs:List Vr}:∀(l:List Sm)(lp:Bool),eh l=true→iF l=true→(er vs lp l).1=0→kD l→∀x∈l,KH x
 |[],_,_,_,_,_,x,hx=>absurd hx (List.not_mem_nil)
 |y::r,lp,hf,hl,h,hn,x,hx=>by
  simp only[eh,Bool.and_eq_true]at hf;simp only[iF,Bool.and_eq_true]at hl;simp only[er]at h;simp only[kD]at hn;obtain⟨h1,h2⟩:=bH.1 h;rcases List.mem_cons.1 hx with h0|hx
  ·rw[h0];exact afp y lp hf.1 hl.1 h1 hn.1
  ·exact wI r lp hf.2 hl.2 h2 hn.2 x hx
theorem Bm{vs:List Vr}:∀(l:List (List Sm))(lp:Bool)(cs:List Ex),cB l=true→il l=true→(fu vs lp cs l).1=0→lX l→∀b∈l,KG b
 |[],_,_,_,_,_,_,b,hb=>absurd hb (List.not_mem_nil)
 |y::r,lp,[],hf,hl,h,hn,b,hb=>by
  simp only[cB,Bool.and_eq_true]at hf;simp only[il,Bool.and_eq_true]at hl;simp only[fu]at h;simp only[lX]at hn;obtain⟨h1,h2⟩:=bH.1 h;rcases List.mem_cons.1 hb with h0|hb
  ·rw[h0];exact Bl y hn.1.1 (wI y lp hf.1 hl.1 h1 hn.1.2)
  ·exact Bm r lp [] hf.2 hl.2 h2 hn.2 b hb
 |y::r,lp,c::cs,hf,hl,h,hn,b,hb=>by
  simp only[cB,Bool.and_eq_true]at hf;simp only[il,Bool.and_eq_true]at hl;simp only[fu]at h;simp only[lX]at hn;obtain⟨h1,h2⟩:=bH.1 h;obtain⟨h2,h3⟩:=bH.1 h2;rcases List.mem_cons.1 hb with h0|hb
  ·rw[h0];exact Bl y hn.1.1 (wI y lp hf.1 hl.1 h2 hn.1.2)
  ·exact Bm r lp cs hf.2 hl.2 h3 hn.2 b hb
end
theorem aar{p:Pg}{lp:Bool}(jY:p.body.length<100000000)(hf:eh p.body=true)(hl:iF p.body=true)(h:(er p.vars lp p.body).1=0)(hn:kD p.body):ai ctx 37 [.d (mc p)] []=some (.ret (.d (mc (Tc p))),[]):=by
 have hs:=Bl p.body jY (wI p.body lp hf hl h hn);unfold KG at hs;rw[ahW (by simp)];simp[Tryz.f37,hs,Tc]
structure IX(p:Pg):Prop where
 fit:oo p=true
 lit:iF p.body=true
 TV:(qn p).1=0
 lw:dB (mc p)<10000000
theorem C5{p:Pg}(h:oo p=true):p.vars.length≤64∧(∀v∈p.vars,dj v=true)∧eh p.body=true:=by
 simp only[oo,Bool.and_eq_true,List.all_eq_true,decide_eq_true_eq]at h;exact h.2
theorem Aq{p:Pg}(h:(qn p).1=0):(er p.vars false p.body).1=0:=(bH.1 h).2
theorem afq{p:Pg}(h:IX p)(V8:bg (dr p.body)≤64):Jf false (ag p.vars (dr p.body) (b8 p.vars)).1:=by
 have hg:=(TH h.fit h.lit h.TV V8).1;intro x hx;by_cases h0:0≤x.a
 ·exact⟨fun _=>h0,fun _=>.inl h0⟩
 ·refine⟨fun qR=>?_,fun h9=>?_⟩
  ·have:=(hg.out x hx (.inr qR) (by omega)).1;omega
  ·rcases (hg.out x hx (.inl h9) (by omega)).2 with e|⟨e,_⟩
   ·exact .inr (.inl e)
   ·cases e
theorem We{p:Pg}(h:IX p):ai ctx 37 [.d (mc p)] []=some (.ret (.d (mc (Tc p))),[]):=by
 obtain⟨h1,h2,h3⟩:=A6 (p:=p) (by have:=h.lw;simp only[mc]at this;omega);exact aar (lp:=false) h1 (C5 h.fit).2.2 h.lit (Aq h.TV) h2
def Zs:Option (List ar×Int×Int)→D
 |none=>.agg [.list [],.int .i64 0,.int .i64 0]
 |some g=>.agg [.list (g.1.map dc),.int .i64 g.2.1,.int .i64 g.2.2]
def Zt:Option (List ar×Int×Int)→Int
 |none=>13
 |some _=>0
theorem IY{p:Pg}(h:IX p):ai ctx 20 [.d (mc p)] []=some (.ret (.aW [.d (Zs (wo p)),.d (.int .i64 (Zt (wo p)))]),[]):=by
 obtain⟨f1,f2,f3⟩:=C5 h.fit;obtain⟨w1,w2,w3⟩:=Qr p h.lw;have hb:=pw false p.body f3 h.lit (Aq h.TV);have hK:=aan (p:=p) (by omega) f2 hb.1 hb.2.2;have D3:=wG p.vars (fun v hv=>nK (f2 v hv));have Wq:=yT p.vars [] 0 (by omega) (bH.1 h.TV).1;have aO:=m6 (vs:=p.vars) (dr p.body) (b8 p.vars);have q1:=w1 (b8 p.vars);have hM:=hK ⟨[],b8 p.vars,0,[],[]⟩ (Int.le_refl _) D3 ⟨by simp,by simp⟩ (by simp) (by simp only[List.length_nil];omega) (by simp only;omega) (by simp only[List.length_nil];omega);have e0:(0:Nat)+(ag p.vars (dr p.body) (b8 p.vars)).1.length=(ag p.vars (dr p.body) (b8 p.vars)).1.length:=by omega
 have nA:=pD (-2) (ag p.vars (dr p.body) (b8 p.vars)).1 0;have hR:=V7 p (by omega) f2 (We h) _ hM (by simp[Mk.aM];omega) (by simp[Mk.aM];omega) (by
  intro i hi;simp only[Mk.aM,List.nil_append,List.length_append,List.length_nil,mq]at hi⊢;obtain⟨j,e,hj⟩:=yP _ _ _ i hi;exact⟨j,e,by omega⟩)
 rw[hR];simp only[Mk.aM,Mk.cA,Mk.put,List.nil_append,List.length_append,List.length_nil,mq,List.length_cons,CM,Nat.zero_add];unfold wo;simp only
 by_cases hc:4096<(ag p.vars (dr p.body) (b8 p.vars)).1.length+1∨64<bg (dr p.body)
 ·rw[if_pos hc,if_pos (by omega)];rfl
 ·rw[if_neg hc,if_neg (by omega),aap (afq h (by omega))];rfl
end Go.Am
end
section
namespace Go.Am
open Go Go.Proofs
variable [Inhabited bX]
set_option maxRecDepth 100000
def TW:Tx:=[80,82,79,71,82,65,77,32,112,32,86,65,82,32,97,32,58,32,73,78,84,59,32,69,78,68,95,86,65,82,32,97,32,58,61,32,97,32,43,32,49,59,32,69,78,68,95,80,82,79,71,82,65,77]
def IZ:List fg:=[⟨2,[80,82,79,71,82,65,77],0,1,1⟩,⟨1,[112],0,1,9⟩,⟨2,[86,65,82],0,1,11⟩,⟨1,[97],0,1,15⟩,⟨4,[58],0,1,17⟩,⟨2,[73,78,84],0,1,19⟩,⟨4,[59],0,1,22⟩,⟨2,[69,78,68,95,86,65,82],0,1,24⟩,
 ⟨1,[97],0,1,32⟩,⟨4,[58,61],0,1,34⟩,⟨1,[97],0,1,37⟩,⟨4,[43],0,1,39⟩,⟨3,[49],1,1,41⟩,⟨4,[59],0,1,42⟩,⟨2,[69,78,68,95,80,82,79,71,82,65,77],0,1,44⟩,⟨0,[],0,1,55⟩]
theorem Qs:Du TW=(IZ,0,⟨0,[],0,0,0⟩):=by kernel_rfl
def um:Pg:=⟨[112],[⟨[97],1,0,false,0,0,0,1⟩],[.mk 1 [] (.mk 3 0 [97] [] [] 1) (.mk 8 0 [] [] [.mk 3 0 [97] [] [] 1,.mk 1 1 [] [] [] 1] 1) [] [] [] [] 1]⟩
theorem TX:ai ctx 119 [.ptr 0 0 0] [.box [.d (.list (IZ.map po)),.d (.int .i64 0),.d (.int .i64 0),.vec 1 0 0 0],.vec 8 []]=
 some (.ret (.agg [.d (.str um.name),.vec 1 1 0 (um.vars.map bI).length,.d (.list (um.body.map b5))]),[(0,.box [.d (.list (IZ.map po)),.d (.int .i64 15),.d (.int .i64 0),.vec 1 1 0 (um.vars.map bI).length]),(1,.vec 8 (um.vars.map bI))]):=bB 300 (by kernel_rfl)
theorem aas:IX um:=⟨by kernel_rfl,by kernel_rfl,by kernel_rfl,by decide+kernel⟩
theorem Wf:wo um=some ([ins 11 0 0 0 0,ins 2 0 0 0 0,ins 1 0 0 1 0,ins 8 0 8 0 0,ins 6 0 0 0 0,ins 15 0 0 0 0],1,1):=by kernel_rfl
theorem afr:ai ctx 34 [] []=some (.ret (.d (.bool true)),[]):=by
 have hP:=Tb Qs TX;have hc:=IY aas;rw[Wf]at hc;simp only[mc]at hc;generalize um.name=a at*;generalize um.body.map b5=c at*;generalize um.vars.map bI=R at*;rw[ahV (by simp)];simp[TW]at hP;simp[Zs,Zt,ins]at hc;simp[Tryz.f34,hP,hc]
end Go.Am
end
section
namespace Go.Am
open Go Go.Proofs
variable [Inhabited bX]
set_option maxRecDepth 20000
theorem qw{P:Program}{n:Nat}{t:TypeId}{d:D}(h:typed P n t d):∃m,n=m+1:=by
 cases n with
 |zero=>exact h.elim
 |succ m=>exact⟨m,rfl⟩
theorem lf{P:Program}{n:Nat}{t:TypeId}{d:D}(ht:P.underlying t=some (.int .i64))(h:typed P n t d):∃z,d=.int .i64 z∧DD z=true:=by
 obtain⟨m,rfl⟩:=qw h;obtain⟨z,rfl,hw⟩:=S6 ht h;refine⟨z,rfl,?_⟩;have h2:aX z:=by
  simp[Lit.wf]at hw;unfold aX;have e1:IntKind.i64.min= -9223372036854775808:=by decide
  have e2:IntKind.i64.max=9223372036854775807:=by decide
  simp only[e1,e2]at hw;omega
 unfold aX at h2;unfold DD;simp only[decide_eq_true_eq];exact h2
theorem aat{P:Program}{n:Nat}{t:TypeId}{d:D}(ht:P.underlying t=some .bool)(h:typed P n t d):∃b,d=.bool b:=by
 obtain⟨m,rfl⟩:=qw h;exact P7 ht h
theorem nP{P:Program}{n:Nat}{t:TypeId}{d:D}(ht:P.underlying t=some .string)(h:typed P n t d):∃s,d=.str s:=by
 obtain⟨m,rfl⟩:=qw h;obtain⟨s,rfl,_⟩:=HL ht h;exact⟨s,rfl⟩
theorem kV{P:Program}{n:Nat}{t e:TypeId}{d:D}(ht:P.underlying t=some (.slice e))(h:typed P n t d):∃xs m,m<n∧d=.list xs∧∀x∈xs,typed P m e x:=by
 obtain⟨m,rfl⟩:=qw h;obtain⟨xs,rfl,_,hx⟩:=JE ht h;exact⟨xs,m,by omega,rfl,hx⟩
theorem tI{P:Program}{n:Nat}{t:TypeId}{d:D}{fs:Array Field}(ht:P.underlying t=some (.struct fs))(h:typed P n t d):∃ds m,m<n∧d=.agg ds∧zx P m fs.toList ds:=by
 obtain⟨m,rfl⟩:=qw h;obtain⟨ds,rfl,hf⟩:=HM ht h;exact⟨ds,m,by omega,rfl,hf⟩
theorem ix{α:Type}{f:α→D}{Q:α→Prop}:∀{xs:List D},(∀x∈xs,∃r,x=f r∧Q r)→∃rs:List α,xs=rs.map f∧∀r∈rs,Q r
 |[],_=>⟨[],rfl,fun r h=>by cases h⟩
 |x::xs,h=>by
  obtain⟨r,rfl,hr⟩:=h x (by simp);obtain⟨rs,rfl,lI⟩:=ix (xs:=xs) (fun y hy=>h y (by simp[hy]));exact⟨r::rs,rfl,fun y hy=>by
   rcases List.mem_cons.1 hy with rfl|hy
   ·exact hr
   ·exact lI y hy⟩
theorem Bn:∀{l:List Ex},(∀x∈l,eJ x=true)→en l=true
 |[],_=>by simp[en]
 |x::r,h=>by simp only[en,Bool.and_eq_true];exact⟨h x (by simp),Bn fun y hy=>h y (by simp[hy])⟩
theorem Bo:∀{l:List Sm},(∀x∈l,oA x=true)→iF l=true
 |[],_=>by simp[iF]
 |x::r,h=>by simp only[iF,Bool.and_eq_true];exact⟨h x (by simp),Bo fun y hy=>h y (by simp[hy])⟩
theorem I0:∀{l:List (List Sm)},(∀x∈l,iF x=true)→il l=true
 |[],_=>by simp[il]
 |x::r,h=>by simp only[il,Bool.and_eq_true];exact⟨h x (by simp),I0 fun y hy=>h y (by simp[hy])⟩
theorem Bp:∀(n:Nat)(x:D),typed Tryz.prog n 136 x→∃e:Ex,x=bM e∧eJ e=true:=by
 intro n;induction n using Nat.strongRecOn with
 |ind n ih=>
 intro x h;obtain⟨ds,m,hm,rfl,y0,d0,h0,⟨y1,d1,h1,⟨y2,d2,h2,⟨y3,d3,h3,⟨y4,d4,h4,⟨y5,d5,h5,rfl,rfl⟩,rfl⟩,rfl⟩,rfl⟩,rfl⟩,rfl⟩:=tI Tryz.underlying136 h;obtain⟨op,rfl,_⟩:=lf Tryz.underlying3 h0;obtain⟨k,rfl,hk⟩:=lf Tryz.underlying2 h1;obtain⟨name,rfl⟩:=nP Tryz.underlying9 h2;obtain⟨field,rfl⟩:=nP Tryz.underlying9 h3;obtain⟨xs,q,hq,rfl,mU⟩:=kV Tryz.underlying134 h4;obtain⟨line,rfl,_⟩:=lf Tryz.underlying3 h5;obtain⟨l,rfl,hl⟩:=ix (f:=bM) (Q:=fun e=>eJ e=true) (fun x hx=>ih q (by omega) x (mU x hx));exact⟨.mk op k name field l line,by rw[FC];simp[uM,ry,D.cells],by
  simp only[eJ,Bool.and_eq_true];exact⟨hk,Bn hl⟩⟩
theorem Qt{n:Nat}{x:D}(h:typed Tryz.prog n 45 x):∃l:List Int,x=mC l∧l.all DD=true:=by
 obtain⟨xs,q,hq,rfl,mU⟩:=kV Tryz.underlying45 h;obtain⟨l,rfl,hl⟩:=ix (f:=fun n=>D.int .i64 n) (Q:=fun e=>DD e=true) (fun x hx=>lf Tryz.underlying2 (mU x hx));exact⟨l,rfl,List.all_eq_true.2 hl⟩
theorem Wg:∀(n:Nat)(x:D),typed Tryz.prog n 141 x→∃e:Sm,x=b5 e∧oA e=true:=by
 intro n;induction n using Nat.strongRecOn with
 |ind n ih=>
 intro x h;obtain⟨ds,m,hm,rfl,y0,d0,h0,⟨y1,d1,h1,⟨y2,d2,h2,⟨y3,d3,h3,⟨y4,d4,h4,⟨y5,d5,h5,⟨y6,d6,h6,⟨y7,d7,h7,⟨y8,d8,h8,rfl,rfl⟩,rfl⟩,rfl⟩,rfl⟩,rfl⟩,rfl⟩,rfl⟩,rfl⟩,rfl⟩:=tI Tryz.underlying141 h;obtain⟨op,rfl,_⟩:=lf Tryz.underlying3 h0;obtain⟨name,rfl⟩:=nP Tryz.underlying9 h1;obtain⟨to,rfl,cC⟩:=Bp _ _ h2;obtain⟨val,rfl,cm⟩:=Bp _ _ h3;obtain⟨x4,q4,hq4,rfl,hx4⟩:=kV Tryz.underlying134 h4;obtain⟨x5,q5,hq5,rfl,hx5⟩:=kV Tryz.underlying137 h5;obtain⟨x6,q6,hq6,rfl,hx6⟩:=kV Tryz.underlying138 h6;obtain⟨x7,q7,hq7,rfl,hx7⟩:=kV Tryz.underlying139 h7;obtain⟨line,rfl,_⟩:=lf Tryz.underlying3 h8;obtain⟨conds,rfl,ej⟩:=ix (f:=bM) (Q:=fun e=>eJ e=true) (fun x hx=>Bp _ _ (hx4 x hx));obtain⟨labels,rfl,A9⟩:=ix (f:=mC) (Q:=fun l=>l.all DD=true) (fun x hx=>Qt (hx5 x hx));obtain⟨fields,rfl⟩:=uj (f:=D.str) (fun x hx=>nP Tryz.underlying9 (hx6 x hx));obtain⟨blocks,rfl,fG⟩:=ix (f:=fun b:List Sm=>D.list (b.map b5)) (Q:=fun b=>iF b=true) (fun x hx=>by
  obtain⟨xs,q,hq,rfl,mU⟩:=kV Tryz.underlying23 (hx7 x hx);obtain⟨l,rfl,hl⟩:=ix (f:=b5) (Q:=fun e=>oA e=true) (fun x hx=>ih q (by omega) x (mU x hx));exact⟨l,rfl,Bo hl⟩)
 refine⟨.mk op name to val conds labels fields blocks line,?_,?_⟩
 ·simp[b5,ry,zp,D.cells,FC]
 ·simp only[oA,Bool.and_eq_true];exact⟨cC,cm,Bn ej,List.all_eq_true.2 A9,I0 fG⟩
theorem Wh{n:Nat}{x:D}(h:typed Tryz.prog n 71 x):∃v:Vr,x=bI v:=by
 obtain⟨ds,m,hm,rfl,y0,d0,h0,⟨y1,d1,h1,⟨y2,d2,h2,⟨y3,d3,h3,⟨y4,d4,h4,⟨y5,d5,h5,⟨y6,d6,h6,⟨y7,d7,h7,rfl,rfl⟩,rfl⟩,rfl⟩,rfl⟩,rfl⟩,rfl⟩,rfl⟩,rfl⟩:=tI Tryz.underlying71 h;obtain⟨name,rfl⟩:=nP Tryz.underlying9 h0;obtain⟨ty,rfl,_⟩:=lf Tryz.underlying3 h1;obtain⟨sec,rfl,_⟩:=lf Tryz.underlying3 h2;obtain⟨arr,rfl⟩:=aat Tryz.underlying4 h3;obtain⟨lo,rfl,_⟩:=lf Tryz.underlying2 h4;obtain⟨hi,rfl,_⟩:=lf Tryz.underlying2 h5;obtain⟨init,rfl,_⟩:=lf Tryz.underlying2 h6;obtain⟨line,rfl,_⟩:=lf Tryz.underlying3 h7;exact⟨⟨name,ty,sec,arr,lo,hi,init,line⟩,rfl⟩
theorem Wi{n:Nat}{x:D}(h:typed Tryz.prog n 25 x):∃p:Pg,x=.agg [.str p.name,.list (p.vars.map bI),.list (p.body.map b5)]∧iF p.body=true:=by
 obtain⟨ds,m,hm,rfl,y0,d0,h0,⟨y1,d1,h1,⟨y2,d2,h2,rfl,rfl⟩,rfl⟩,rfl⟩:=tI Tryz.underlying25 h;obtain⟨name,rfl⟩:=nP Tryz.underlying9 h0;obtain⟨x1,q1,hq1,rfl,Gg⟩:=kV Tryz.underlying22 h1;obtain⟨x2,q2,hq2,rfl,hx2⟩:=kV Tryz.underlying23 h2;obtain⟨vars,rfl⟩:=uj (f:=bI) (fun x hx=>Wh (Gg x hx));obtain⟨body,rfl,aiQ⟩:=ix (f:=b5) (Q:=fun e=>oA e=true) (fun x hx=>Wg _ _ (hx2 x hx));exact⟨⟨name,vars,body⟩,rfl,Bo aiQ⟩
theorem C6(s:Tx)(l:List Vr)(hl:l.length<1000000)(k:Kt)(RF:Option Vr→bS)
 (h1:∀w v,k .ret ⟨25,aC,[(4,true,.ptr 300 v 0),(5,true,.d (.bool true))],[⟨300,v,ie w⟩]⟩=RF (some w))
 (h2:∀(v:Nat)(b c:AV),k (.exit 0) ⟨25,aC,[(0,true,.d (.list (l.map bI))),(1,true,.d (.str s)),(4,true,.ptr 300 v 0),(6,true,b),(10,true,c)],[⟨300,v,ie qT⟩]⟩=RF none):∀(rest pre:List Vr)(v:Nat),l=pre++rest→
 aI ctx 47 (.loop (Code.at (aY Tryz.f47) [1,0,1,0,0])) ⟨25,aC,[(0,true,.d (.list (l.map bI))),(1,true,.d (.str s)),(4,true,.ptr 300 v 0),(6,true,.d (.int .i64 pre.length))],[⟨300,v,ie qT⟩]⟩ k=RF (aZ rest s)
 |[],pre,v,hd=>by
  have cf:pre.length=l.length:=by rw[hd];simp
  simp only[ie,qT]at h2;rw[cf,ah];simp[Tryz.f47,h2,aZ,qT]
 |x::rest,pre,v,hd=>by
  have aR:pre.length<l.length:=by rw[hd];simp
  have aV:l[pre.length]=x:=by simp[hd]
  have ih:=C6 s l hl k RF h1 h2 rest (pre++[x]) v (by simp[hd]);have w1:IntKind.i64.wrap ((pre.length:Int)+1)=(pre.length:Int)+1:=au (by unfold aX;omega);have h1:=h1 x;simp only[ie]at h1;rw[ah];by_cases hq:x.name=s
  ·simp only[hq]at h1;simp[Tryz.f47,qT];simp[aR,aV,bI,eD,hq,h1,aZ]
  ·simp[Tryz.f47,qT]at ih⊢;simp[aR,aV,bI,eD,hq,w1,ih,aZ]
theorem mr{vs:List Vr}(hl:vs.length<1000000)(s:Tx):ai ctx 47 [.d (.list (vs.map bI)),.d (.str s)] []=some (.ret (.aW [.d (bI (fV vs s)),.d (.bool (aZ vs s).isSome)]),[]):=by
 have h:=fun k RF h1 h2 v=>C6 s vs hl k RF h1 h2 vs [] v rfl;rw[ah2 (by simp)];unfold fV;simp[Tryz.f47,qT]at h⊢;rw[h _ (fun o=>some (.ret (.aW [.d (bI (o.getD qT)),.d (.bool o.isSome)]),[]))]
 ·simp[qT]
 ·intro w v;simp[bI,eD]
 ·intro v b c;simp[bI,eD,qT]
theorem NH(k:Int):ai ctx 73 [.d (.int .i64 k)] []=some (.ret (.d (.list ((bC k).map cW))),[]):=by
 by_cases h:10≤k∧k≤31
 ·have:k=10∨k=11∨k=12∨k=13∨k=14∨k=15∨k=16∨k=17∨k=18∨k=19∨k=20∨k=21∨k=22∨k=23∨k=24∨k=25∨k=26∨k=27∨k=28∨k=29∨k=30∨k=31:=by omega
  rcases this with h|h|h|h|h|h|h|h|h|h|h|h|h|h|h|h|h|h|h|h|h|h<;>subst h
  ·exact aoU
  ·exact aoV
  ·exact aoW
  ·exact aoX
  ·exact aoY
  ·exact aoZ
  ·exact ao0
  ·exact ao1
  ·exact ao2
  ·exact ao3
  ·exact ao4
  ·exact ao5
  ·exact ao6
  ·exact ao7
  ·exact ao8
  ·exact ao9
  ·exact apa
  ·exact apb
  ·exact apc
  ·exact apd
  ·exact ape
  ·exact apf
 ·have e1:bC k=[]:=by
   have e:∀n:Int,10≤n→n≤31→¬n=k:=fun n a b c=>h (by omega);unfold bC Hs;simp only[rl];rw[if_neg (e _ (by decide) (by decide)),if_neg (e _ (by decide) (by decide)),if_neg (e _ (by decide) (by decide)),if_neg (e _ (by decide) (by decide)),if_neg (e _ (by decide) (by decide)),if_neg (e _ (by decide) (by decide)),if_neg (e _ (by decide) (by decide)),if_neg (e _ (by decide) (by decide)),if_neg (e _ (by decide) (by decide)),if_neg (e _ (by decide) (by decide)),if_neg (e _ (by decide) (by decide)),if_neg (e _ (by decide) (by decide)),if_neg (e _ (by decide) (by decide)),if_neg (e _ (by decide) (by decide)),if_neg (e _ (by decide) (by decide)),if_neg (e _ (by decide) (by decide)),if_neg (e _ (by decide) (by decide)),if_neg (e _ (by decide) (by decide)),if_neg (e _ (by decide) (by decide)),if_neg (e _ (by decide) (by decide)),if_neg (e _ (by decide) (by decide))]
  rw[e1];rw[ah7 (by simp)];by_cases h1:k<10
  ·simp[Tryz.f73,h1]
  ·have h2:31<k:=by omega
   simp[Tryz.f73,h1,h2]
theorem Wj{w:Vr}(hI:w.arr=true→0≤w.lo∧w.lo≤w.hi∧w.hi≤255):ai ctx 48 [.d (.agg (eD w))] []=some (.ret (.d (.int .i64 (bN w))),[]):=by
 have hp:=NH w.ty;rw[ah3 (by simp)];unfold bN;cases ha:w.arr with
 |true=>
  have h3:=hI ha;have w1:IntKind.i64.wrap (w.hi-w.lo)=w.hi-w.lo:=au (by unfold aX;omega);have w2:IntKind.i64.wrap (w.hi-w.lo+1)=w.hi-w.lo+1:=au (by unfold aX;omega);simp[Tryz.f48,eD,ha,w1,w2]
 |false=>
  by_cases h2:2<w.ty
  ·simp[Tryz.f48,eD,ha,h2,hp]
  ·simp[Tryz.f48,eD,ha,h2]
def Ar(p:Pn):aE:=.box [.d (.str p.name),.d (.int .i64 p.ty),.d (.bool p.Km)]
theorem Fa(s:Tx)(l:List Pn)(hl:l.length<1000000)(k:Kt)(RF:Option Pn→bS)
 (h1:∀w v,k .ret ⟨32,aC,[(4,true,.ptr 300 v 0),(5,true,.d (.bool true))],[⟨300,v,Ar w⟩]⟩=RF (some w))
 (h2:∀(v:Nat)(b c:AV),k (.exit 0) ⟨32,aC,[(1,true,.d (.str s)),(4,true,.ptr 300 v 0),(6,true,.d (.list (l.map cW))),(7,true,b),(13,true,c)],[⟨300,v,Ar th⟩]⟩=RF none):∀(rest pre:List Pn)(v:Nat),l=pre++rest→
 aI ctx 200 (.loop (Code.at (aY Tryz.f200) [1,1,0,1,0,0])) ⟨32,aC,[(1,true,.d (.str s)),(4,true,.ptr 300 v 0),(6,true,.d (.list (l.map cW))),(7,true,.d (.int .i64 pre.length))],[⟨300,v,Ar th⟩]⟩ k=RF (wc rest s)
 |[],pre,v,hd=>by
  have cf:pre.length=l.length:=by rw[hd];simp
  simp only[Ar,th]at h2;rw[cf,ah];simp[Tryz.f200,Ar,h2,wc,th]
 |x::rest,pre,v,hd=>by
  have aR:pre.length<l.length:=by rw[hd];simp
  have aV:l[pre.length]=x:=by simp[hd]
  have ih:=Fa s l hl k RF h1 h2 rest (pre++[x]) v (by simp[hd]);have w1:IntKind.i64.wrap ((pre.length:Int)+1)=(pre.length:Int)+1:=au (by unfold aX;omega);have h1:=h1 x;simp only[Ar]at h1;rw[ah];by_cases hs:s=[]
  ·simp only[hs]at ih⊢;simp[Tryz.f200,Ar,th]at ih⊢;simp[aR,w1,ih,wc]
  ·by_cases hq:x.name=s
   ·simp only[hq]at h1;simp[Tryz.f200,Ar,th];simp[aR,aV,cW,hq,hs,h1,wc]
   ·simp[Tryz.f200,Ar,th]at ih⊢;simp[aR,aV,cW,hq,hs,w1,ih,wc]
theorem TY(q:Int)(s:Tx):ai ctx 200 [.d (.int .i64 q),.d (.str s)] []=some (.ret (.aW [.d (cW (fP q s)),.d (.bool (jS q s).isSome)]),[]):=by
 have hl:=yA q;have hp:=NH q;have h:=fun k RF h1 h2 v=>Fa s (bC q) (by omega) k RF h1 h2 (bC q) [] v rfl;rw[ac7 (by simp)];unfold fP jS;simp[Tryz.f200,Ar,th]at h⊢;simp[hp];rw[h _ (fun o=>some (.ret (.aW [.d (cW (o.getD th)),.d (.bool o.isSome)]),[]))]
 ·simp[th]
 ·intro w v;simp[cW]
 ·intro v b c;simp[cW,th]
def eo(t:Te):AV:=.aW [.d (.int .i64 t.t),.d (.agg [.int .i64 t.e,.int .i64 t.line])]
def RT(vs:List Vr)(x:Ex):Prop:=ai ctx 130 [.d (.list (vs.map bI)),.d (.agg [.int .i64 (bW x),.int .i64 (ic x),.str (dA x),.str (fq x),.list ((cN x).map bM),.int .i64 (jG x)])] []=some (.ret (eo (aF vs x)),[])
def du(e:EL):AV:=.d (.agg [.int .i64 e.1,.int .i64 e.2])
def C7(vs:List Vr)(x:Ex)(t:Int):EL:=if (aF vs x).e=0∧(aF vs x).t≠t then (10,jG x)else ((aF vs x).e,(aF vs x).line)
theorem Bq{vs:List Vr}{x:Ex}(h:RT vs x):ai ctx 201 [.d (.list (vs.map bI)),.d (.agg [.int .i64 (bW x),.int .i64 (ic x),.str (dA x),.str (fq x),.list ((cN x).map bM),.int .i64 (jG x)])] []=some (.ret (du (C7 vs x 1)),[]):=by
 unfold RT at h;rw[ac8 (by simp)];unfold C7;generalize aF vs x=T at*;by_cases h0:T.e=0
 ·by_cases h1:T.t=1
  ·simp[Tryz.f201,eo,du,h0,h1,h]
  ·simp[Tryz.f201,eo,du,h0,h1,h]
 ·simp[Tryz.f201,eo,du,h0,h]
theorem pE{vs:List Vr}{x:Ex}(t:Int)(h:RT vs x):ai ctx 131 [.d (.list (vs.map bI)),.d (.agg [.int .i64 (bW x),.int .i64 (ic x),.str (dA x),.str (fq x),.list ((cN x).map bM),.int .i64 (jG x)]),.d (.int .i64 t)] []=some (.ret (du (C7 vs x t)),[]):=by
 unfold RT at h;rw[acQ (by simp)];unfold C7;generalize aF vs x=T at*;by_cases h0:T.e=0
 ·by_cases h1:T.t=t
  ·simp[Tryz.f131,eo,du,h0,h1,h]
  ·simp[Tryz.f131,eo,du,h0,h1,h]
 ·simp[Tryz.f131,eo,du,h0,h]
section
variable {vs:List Vr} (hl:vs.length<1000000) (cS:∀v∈vs,dj v=true)
theorem afs{op nn line:Int}{name field:Tx}{sub:List Ex}(h:op=1∨op=2):RT vs (.mk op nn name field sub line):=by
 unfold RT;rw[eE (by simp)];have e:aF vs (.mk op nn name field sub line)=eP op:=by
  unfold aF;rw[if_pos h]
 rw[e];rcases h with h|h<;>subst h<;>simp[Tryz.f130,eo,eP]
include hl in
theorem TZ{nn line:Int}{name field:Tx}{sub:List Ex}:RT vs (.mk 5 nn name field sub line):=by
 unfold RT;have hf:=mr (vs:=vs) hl name;rw[eE (by simp)];have e:aF vs (.mk 5 nn name field sub line)=(match aZ vs name with
  |none=>ck 9 line
  |some v=>(if v.ty≤2 then ck 10 line else match jS v.ty field with
   |none=>ck 9 line
   |some p=>eP p.ty)):=by
  unfold aF;rw[if_neg (by decide),if_pos (by decide)];rfl
 rw[e];cases hv:aZ vs name with
 |none=>
  simp[hv,fV,bI,eD,qT]at hf;simp[Tryz.f130,eo,ck,hf,aq]
 |some v=>
  have hp:=TY v.ty field;simp[hv,fV,bI,eD]at hf;by_cases h2:v.ty≤2
  ·simp[Tryz.f130,eo,ck,hf,aq,h2]
  ·cases hq:jS v.ty field with
   |none=>
    simp[hq,fP,cW,th]at hp;simp[Tryz.f130,eo,ck,hf,aq,h2,hp,hq]
   |some p=>
    simp[hq,fP,cW]at hp;simp[Tryz.f130,eo,eP,hf,aq,h2,hp,hq]
include hl in
theorem aau{nn line:Int}{name field:Tx}{v:Vr}{y:Ex}{T:Te}(hv:aZ vs name=some v)(ha:v.arr=true)(h2:¬2<v.ty)(hr:RT vs y)(hT:aF vs y=T)(h0:T.e=0)(h1:T.t=1):ai ctx 130 [.d (.list (vs.map bI)),.d (.agg [.int .i64 4,.int .i64 nn,.str name,.str field,.list ([y].map bM),.int .i64 line])] []=some (.ret (eo (eP v.ty)),[]):=by
 have hf:=mr (vs:=vs) hl name;have hi:=Bq hr;unfold C7 du at hi;rw[hT]at hi;clear hT hr;rw[eE (by simp)];simp[hv,fV,bI,eD]at hf;simp[h0,h1]at hi;simp[Tryz.f130,eo,eP,ck,hf,aq,ha,h2,aD,hi,h0,h1]
include hl in
theorem aav{nn line:Int}{name field:Tx}{v:Vr}{y:Ex}{T:Te}(hv:aZ vs name=some v)(ha:v.arr=true)(h2:¬2<v.ty)(hr:RT vs y)(hT:aF vs y=T)(h0:T.e=0)(h1:¬T.t=1):ai ctx 130 [.d (.list (vs.map bI)),.d (.agg [.int .i64 4,.int .i64 nn,.str name,.str field,.list ([y].map bM),.int .i64 line])] []=some (.ret (eo (ck 10 (jG y))),[]):=by
 have hf:=mr (vs:=vs) hl name;have hi:=Bq hr;unfold C7 du at hi;rw[hT]at hi;clear hT hr;rw[eE (by simp)];simp[hv,fV,bI,eD]at hf;simp[h0,h1]at hi;simp[Tryz.f130,eo,eP,ck,hf,aq,ha,h2,aD,hi,h0,h1]
include hl in
theorem aaw{nn line:Int}{name field:Tx}{v:Vr}{y:Ex}{T:Te}(hv:aZ vs name=some v)(ha:v.arr=true)(h2:¬2<v.ty)(hr:RT vs y)(hT:aF vs y=T)(h0:¬T.e=0):ai ctx 130 [.d (.list (vs.map bI)),.d (.agg [.int .i64 4,.int .i64 nn,.str name,.str field,.list ([y].map bM),.int .i64 line])] []=some (.ret (eo (ck T.e T.line)),[]):=by
 have hf:=mr (vs:=vs) hl name;have hi:=Bq hr;unfold C7 du at hi;rw[hT]at hi;clear hT hr;rw[eE (by simp)];simp[hv,fV,bI,eD]at hf;simp[h0]at hi;simp[Tryz.f130,eo,eP,ck,hf,aq,ha,h2,aD,hi,h0]
include hl in
theorem aax{op nn line:Int}{name field:Tx}{sub:List Ex}(h:op=3∨op=4)(hs:op=4→∃y,sub=[y]∧RT vs y):RT vs (.mk op nn name field sub line):=by
 unfold RT;have hf:=mr (vs:=vs) hl name;have e:aF vs (.mk op nn name field sub line)=(match aZ vs name with
  |none=>ck 9 line
  |some v=>if v.arr≠decide (op=4)∨2<v.ty then ck 10 line else if op=4 then uT vs v.ty sub else eP v.ty):=by
  conv=>lhs;unfold aF
  rw[if_neg (by omega),if_pos (by omega)];cases aZ vs name with
  |none=>rfl
  |some v=>
   simp only
   rw[if_neg (by omega)]
 rw[e];clear e;cases hv:aZ vs name with
 |none=>
  simp[hv,fV,bI,eD,qT]at hf;rcases h with h|h<;>subst h<;>rw[eE (by simp)]<;>simp[Tryz.f130,eo,ck,hf,aq]
 |some v=>
  simp[hv,fV,bI,eD]at hf;rcases h with h|h<;>subst h
  ·cases ha:v.arr with
   |true=>(rw[eE (by simp)];simp[Tryz.f130,eo,ck,hf,aq,ha])
   |false=>
    by_cases h2:2<v.ty
    ·(rw[eE (by simp)];simp[Tryz.f130,eo,ck,hf,aq,ha,h2])
    ·(rw[eE (by simp)];simp[Tryz.f130,eo,eP,hf,aq,ha,h2])
  ·cases ha:v.arr with
   |false=>(rw[eE (by simp)];simp[Tryz.f130,eo,ck,hf,aq,ha])
   |true=>
    by_cases h2:2<v.ty
    ·(rw[eE (by simp)];simp[Tryz.f130,eo,ck,hf,aq,ha,h2])
    ·obtain⟨y,hy,hr⟩:=hs rfl;subst hy;simp only[uT,mZ,uS,yz,Hr,m4,RY];by_cases h0:(aF vs y).e=0
     ·by_cases h1:(aF vs y).t=1
      ·have:=aau (nn:=nn) (line:=line) (field:=field) hl hv ha h2 hr rfl h0 h1;simpa [h0,h1,h2,ha,eP]using this
      ·have:=aav (nn:=nn) (line:=line) (field:=field) hl hv ha h2 hr rfl h0 h1;simpa [h0,h1,h2,ha,ck]using this
     ·have:=aaw (nn:=nn) (line:=line) (field:=field) hl hv ha h2 hr rfl h0;simpa [h0,h2,ha,ck]using this
end
section
variable {vs:List Vr}
set_option maxHeartbeats 1000000 in
theorem aiR{nn line:Int}{name field:Tx}{a:Ex}(h:RT vs a):RT vs (.mk 6 nn name field [a] line):=by
 have e:aF vs (.mk 6 nn name field [a] line)=cg 6 line (aF vs a) (aF vs a):=by
  conv=>lhs;unfold aF
  rw[if_neg (by omega),if_neg (by omega)];rfl
 unfold RT at h⊢;rw[e,eE (by simp)];clear e;generalize aF vs a=T at*;simp[eo]at h;simp[Tryz.f130,eo,aq,aD,h];by_cases h0:T.e=0
 ·by_cases h1:T.t=1<;>simp[h0,h1,cg,gd,gH,eP,ck]
 ·simp[h0,cg]
set_option maxHeartbeats 1000000 in
theorem aiS{nn line:Int}{name field:Tx}{a:Ex}(h:RT vs a):RT vs (.mk 7 nn name field [a] line):=by
 have e:aF vs (.mk 7 nn name field [a] line)=cg 7 line (aF vs a) (aF vs a):=by
  conv=>lhs;unfold aF
  rw[if_neg (by omega),if_neg (by omega)];rfl
 unfold RT at h⊢;rw[e,eE (by simp)];clear e;generalize aF vs a=T at*;simp[eo]at h;simp[Tryz.f130,eo,aq,aD,h];by_cases h0:T.e=0
 ·by_cases h1:T.t=2<;>simp[h0,h1,cg,gd,gH,eP,ck]
 ·simp[h0,cg]
set_option maxHeartbeats 1000000 in
theorem aiT{nn line:Int}{name field:Tx}{a b:Ex}(h:RT vs a)(hb:RT vs b):RT vs (.mk 8 nn name field [a,b] line):=by
 have e:aF vs (.mk 8 nn name field [a,b] line)=cg 8 line (aF vs a) (aF vs b):=by
  conv=>lhs;unfold aF
  rw[if_neg (by omega),if_neg (by omega)];rfl
 unfold RT at h hb⊢;rw[e,eE (by simp)];clear e;generalize aF vs a=T at*;generalize aF vs b=U at*;simp[eo]at h hb;simp[Tryz.f130,eo,aq,aD,h,hb];by_cases h0:T.e=0
 ·by_cases h1:U.e=0
  ·by_cases h2:T.t=1<;>by_cases h3:U.t=1<;>simp[h0,h1,h2,h3,cg,gd,gH,eP,ck]
  ·simp[h0,h1,cg]
 ·simp[h0,cg]
set_option maxHeartbeats 1000000 in
theorem aiU{nn line:Int}{name field:Tx}{a b:Ex}(h:RT vs a)(hb:RT vs b):RT vs (.mk 9 nn name field [a,b] line):=by
 have e:aF vs (.mk 9 nn name field [a,b] line)=cg 9 line (aF vs a) (aF vs b):=by
  conv=>lhs;unfold aF
  rw[if_neg (by omega),if_neg (by omega)];rfl
 unfold RT at h hb⊢;rw[e,eE (by simp)];clear e;generalize aF vs a=T at*;generalize aF vs b=U at*;simp[eo]at h hb;simp[Tryz.f130,eo,aq,aD,h,hb];by_cases h0:T.e=0
 ·by_cases h1:U.e=0
  ·by_cases h2:T.t=1<;>by_cases h3:U.t=1<;>simp[h0,h1,h2,h3,cg,gd,gH,eP,ck]
  ·simp[h0,h1,cg]
 ·simp[h0,cg]
set_option maxHeartbeats 1000000 in
theorem aft{nn line:Int}{name field:Tx}{a b:Ex}(h:RT vs a)(hb:RT vs b):RT vs (.mk 10 nn name field [a,b] line):=by
 have e:aF vs (.mk 10 nn name field [a,b] line)=cg 10 line (aF vs a) (aF vs b):=by
  conv=>lhs;unfold aF
  rw[if_neg (by omega),if_neg (by omega)];rfl
 unfold RT at h hb⊢;rw[e,eE (by simp)];clear e;generalize aF vs a=T at*;generalize aF vs b=U at*;simp[eo]at h hb;simp[Tryz.f130,eo,aq,aD,h,hb];by_cases h0:T.e=0
 ·by_cases h1:U.e=0
  ·by_cases h2:T.t=1<;>by_cases h3:U.t=1<;>simp[h0,h1,h2,h3,cg,gd,gH,eP,ck]
  ·simp[h0,h1,cg]
 ·simp[h0,cg]
set_option maxHeartbeats 1000000 in
theorem afu{nn line:Int}{name field:Tx}{a b:Ex}(h:RT vs a)(hb:RT vs b):RT vs (.mk 11 nn name field [a,b] line):=by
 have e:aF vs (.mk 11 nn name field [a,b] line)=cg 11 line (aF vs a) (aF vs b):=by
  conv=>lhs;unfold aF
  rw[if_neg (by omega),if_neg (by omega)];rfl
 unfold RT at h hb⊢;rw[e,eE (by simp)];clear e;generalize aF vs a=T at*;generalize aF vs b=U at*;simp[eo]at h hb;simp[Tryz.f130,eo,aq,aD,h,hb];by_cases h0:T.e=0
 ·by_cases h1:U.e=0
  ·by_cases h2:T.t=1<;>by_cases h3:U.t=1<;>simp[h0,h1,h2,h3,cg,gd,gH,eP,ck]
  ·simp[h0,h1,cg]
 ·simp[h0,cg]
set_option maxHeartbeats 1000000 in
theorem afv{nn line:Int}{name field:Tx}{a b:Ex}(h:RT vs a)(hb:RT vs b):RT vs (.mk 12 nn name field [a,b] line):=by
 have e:aF vs (.mk 12 nn name field [a,b] line)=cg 12 line (aF vs a) (aF vs b):=by
  conv=>lhs;unfold aF
  rw[if_neg (by omega),if_neg (by omega)];rfl
 unfold RT at h hb⊢;rw[e,eE (by simp)];clear e;generalize aF vs a=T at*;generalize aF vs b=U at*;simp[eo]at h hb;simp[Tryz.f130,eo,aq,aD,h,hb];by_cases h0:T.e=0
 ·by_cases h1:U.e=0
  ·by_cases h2:T.t=1<;>by_cases h3:U.t=1<;>simp[h0,h1,h2,h3,cg,gd,gH,eP,ck]
  ·simp[h0,h1,cg]
 ·simp[h0,cg]
set_option maxHeartbeats 1000000 in
theorem afw{nn line:Int}{name field:Tx}{a b:Ex}(h:RT vs a)(hb:RT vs b):RT vs (.mk 13 nn name field [a,b] line):=by
 have e:aF vs (.mk 13 nn name field [a,b] line)=cg 13 line (aF vs a) (aF vs b):=by
  conv=>lhs;unfold aF
  rw[if_neg (by omega),if_neg (by omega)];rfl
 unfold RT at h hb⊢;rw[e,eE (by simp)];clear e;generalize aF vs a=T at*;generalize aF vs b=U at*;simp[eo]at h hb;simp[Tryz.f130,eo,aq,aD,h,hb];by_cases h0:T.e=0
 ·by_cases h1:U.e=0
  ·by_cases h3:U.t=T.t<;>simp[h0,h1,h3,cg,gd,gH,eP,ck]
  ·simp[h0,h1,cg]
 ·simp[h0,cg]
end
section
variable {vs:List Vr}
set_option maxHeartbeats 1000000 in
theorem afx{nn line:Int}{name field:Tx}{a b:Ex}(h:RT vs a)(hb:RT vs b):RT vs (.mk 14 nn name field [a,b] line):=by
 have e:aF vs (.mk 14 nn name field [a,b] line)=cg 14 line (aF vs a) (aF vs b):=by
  conv=>lhs;unfold aF
  rw[if_neg (by omega),if_neg (by omega)];rfl
 unfold RT at h hb⊢;rw[e,eE (by simp)];clear e;generalize aF vs a=T at*;generalize aF vs b=U at*;simp[eo]at h hb;simp[Tryz.f130,eo,aq,aD,h,hb];by_cases h0:T.e=0
 ·by_cases h1:U.e=0
  ·by_cases h3:U.t=T.t<;>simp[h0,h1,h3,cg,gd,gH,eP,ck]
  ·simp[h0,h1,cg]
 ·simp[h0,cg]
set_option maxHeartbeats 1000000 in
theorem afy{nn line:Int}{name field:Tx}{a b:Ex}(h:RT vs a)(hb:RT vs b):RT vs (.mk 15 nn name field [a,b] line):=by
 have e:aF vs (.mk 15 nn name field [a,b] line)=cg 15 line (aF vs a) (aF vs b):=by
  conv=>lhs;unfold aF
  rw[if_neg (by omega),if_neg (by omega)];rfl
 unfold RT at h hb⊢;rw[e,eE (by simp)];clear e;generalize aF vs a=T at*;generalize aF vs b=U at*;simp[eo]at h hb;simp[Tryz.f130,eo,aq,aD,h,hb];by_cases h0:T.e=0
 ·by_cases h1:U.e=0
  ·by_cases h2:T.t=1<;>by_cases h3:U.t=1<;>simp[h0,h1,h2,h3,cg,gd,gH,eP,ck]
  ·simp[h0,h1,cg]
 ·simp[h0,cg]
set_option maxHeartbeats 1000000 in
theorem afz{nn line:Int}{name field:Tx}{a b:Ex}(h:RT vs a)(hb:RT vs b):RT vs (.mk 16 nn name field [a,b] line):=by
 have e:aF vs (.mk 16 nn name field [a,b] line)=cg 16 line (aF vs a) (aF vs b):=by
  conv=>lhs;unfold aF
  rw[if_neg (by omega),if_neg (by omega)];rfl
 unfold RT at h hb⊢;rw[e,eE (by simp)];clear e;generalize aF vs a=T at*;generalize aF vs b=U at*;simp[eo]at h hb;simp[Tryz.f130,eo,aq,aD,h,hb];by_cases h0:T.e=0
 ·by_cases h1:U.e=0
  ·by_cases h2:T.t=1<;>by_cases h3:U.t=1<;>simp[h0,h1,h2,h3,cg,gd,gH,eP,ck]
  ·simp[h0,h1,cg]
 ·simp[h0,cg]
set_option maxHeartbeats 1000000 in
theorem afA{nn line:Int}{name field:Tx}{a b:Ex}(h:RT vs a)(hb:RT vs b):RT vs (.mk 17 nn name field [a,b] line):=by
 have e:aF vs (.mk 17 nn name field [a,b] line)=cg 17 line (aF vs a) (aF vs b):=by
  conv=>lhs;unfold aF
  rw[if_neg (by omega),if_neg (by omega)];rfl
 unfold RT at h hb⊢;rw[e,eE (by simp)];clear e;generalize aF vs a=T at*;generalize aF vs b=U at*;simp[eo]at h hb;simp[Tryz.f130,eo,aq,aD,h,hb];by_cases h0:T.e=0
 ·by_cases h1:U.e=0
  ·by_cases h2:T.t=1<;>by_cases h3:U.t=1<;>simp[h0,h1,h2,h3,cg,gd,gH,eP,ck]
  ·simp[h0,h1,cg]
 ·simp[h0,cg]
set_option maxHeartbeats 1000000 in
theorem afB{nn line:Int}{name field:Tx}{a b:Ex}(h:RT vs a)(hb:RT vs b):RT vs (.mk 18 nn name field [a,b] line):=by
 have e:aF vs (.mk 18 nn name field [a,b] line)=cg 18 line (aF vs a) (aF vs b):=by
  conv=>lhs;unfold aF
  rw[if_neg (by omega),if_neg (by omega)];rfl
 unfold RT at h hb⊢;rw[e,eE (by simp)];clear e;generalize aF vs a=T at*;generalize aF vs b=U at*;simp[eo]at h hb;simp[Tryz.f130,eo,aq,aD,h,hb];by_cases h0:T.e=0
 ·by_cases h1:U.e=0
  ·by_cases h2:T.t=1<;>by_cases h3:U.t=1<;>simp[h0,h1,h2,h3,cg,gd,gH,eP,ck]
  ·simp[h0,h1,cg]
 ·simp[h0,cg]
set_option maxHeartbeats 1000000 in
theorem afC{nn line:Int}{name field:Tx}{a b:Ex}(h:RT vs a)(hb:RT vs b):RT vs (.mk 19 nn name field [a,b] line):=by
 have e:aF vs (.mk 19 nn name field [a,b] line)=cg 19 line (aF vs a) (aF vs b):=by
  conv=>lhs;unfold aF
  rw[if_neg (by omega),if_neg (by omega)];rfl
 unfold RT at h hb⊢;rw[e,eE (by simp)];clear e;generalize aF vs a=T at*;generalize aF vs b=U at*;simp[eo]at h hb;simp[Tryz.f130,eo,aq,aD,h,hb];by_cases h0:T.e=0
 ·by_cases h1:U.e=0
  ·by_cases h2:T.t=2<;>by_cases h3:U.t=2<;>simp[h0,h1,h2,h3,cg,gd,gH,eP,ck]
  ·simp[h0,h1,cg]
 ·simp[h0,cg]
set_option maxHeartbeats 1000000 in
theorem afD{nn line:Int}{name field:Tx}{a b:Ex}(h:RT vs a)(hb:RT vs b):RT vs (.mk 20 nn name field [a,b] line):=by
 have e:aF vs (.mk 20 nn name field [a,b] line)=cg 20 line (aF vs a) (aF vs b):=by
  conv=>lhs;unfold aF
  rw[if_neg (by omega),if_neg (by omega)];rfl
 unfold RT at h hb⊢;rw[e,eE (by simp)];clear e;generalize aF vs a=T at*;generalize aF vs b=U at*;simp[eo]at h hb;simp[Tryz.f130,eo,aq,aD,h,hb];by_cases h0:T.e=0
 ·by_cases h1:U.e=0
  ·by_cases h2:T.t=2<;>by_cases h3:U.t=2<;>simp[h0,h1,h2,h3,cg,gd,gH,eP,ck]
  ·simp[h0,h1,cg]
 ·simp[h0,cg]
set_option maxHeartbeats 1000000 in
theorem afE{nn line:Int}{name field:Tx}{a b:Ex}(h:RT vs a)(hb:RT vs b):RT vs (.mk 21 nn name field [a,b] line):=by
 have e:aF vs (.mk 21 nn name field [a,b] line)=cg 21 line (aF vs a) (aF vs b):=by
  conv=>lhs;unfold aF
  rw[if_neg (by omega),if_neg (by omega)];rfl
 unfold RT at h hb⊢;rw[e,eE (by simp)];clear e;generalize aF vs a=T at*;generalize aF vs b=U at*;simp[eo]at h hb;simp[Tryz.f130,eo,aq,aD,h,hb];by_cases h0:T.e=0
 ·by_cases h1:U.e=0
  ·by_cases h2:T.t=2<;>by_cases h3:U.t=2<;>simp[h0,h1,h2,h3,cg,gd,gH,eP,ck]
  ·simp[h0,h1,cg]
 ·simp[h0,cg]
end
theorem afF{vs:List Vr}{op nn line:Int}{name field:Tx}{a b:Ex}(h8:8≤op)(R4:op≤21)(h:RT vs a)(hb:RT vs b):RT vs (.mk op nn name field [a,b] line):=by
 have hc:op=8∨op=9∨op=10∨op=11∨op=12∨op=13∨op=14∨op=15∨op=16∨op=17∨op=18∨op=19∨op=20∨op=21:=by omega
 rcases hc with e|e|e|e|e|e|e|e|e|e|e|e|e|e<;>subst e
 ·exact aiT h hb
 ·exact aiU h hb
 ·exact aft h hb
 ·exact afu h hb
 ·exact afv h hb
 ·exact afw h hb
 ·exact afx h hb
 ·exact afy h hb
 ·exact afz h hb
 ·exact afA h hb
 ·exact afB h hb
 ·exact afC h hb
 ·exact afD h hb
 ·exact afE h hb
section
variable {vs:List Vr} (hl:vs.length<1000000)
include hl
mutual
theorem rF:∀x:Ex,bk x=true→RT vs x
 | .mk op nn name field sub line,hf=>by
  simp only[bk,Bool.and_eq_true,decide_eq_true_eq,Bool.not_eq_true',decide_eq_false_iff_not]at hf;obtain⟨cU,hlen,_,_,eQ⟩:=hf;have ih:=Br sub eQ;unfold dJ at hlen;by_cases jX:op=1∨op=2
  ·exact afs jX
  ·by_cases h5:op=5
   ·subst h5;exact TZ hl
   ·by_cases h34:op=3∨op=4
    ·refine aax hl h34 (fun h4=>?_);rw[if_pos (.inl h4)]at hlen;match sub,hlen with
     |[y],_=>exact⟨y,rfl,ih y (by simp)⟩
    ·by_cases Zg:op=6∨op=7
     ·rw[if_pos (.inr Zg)]at hlen;match sub,hlen with
      |[y],_=>
       rcases Zg with e|e<;>subst e
       ·exact aiR (ih y (by simp))
       ·exact aiS (ih y (by simp))
     ·rw[if_neg (by omega),if_pos (by omega)]at hlen;match sub,hlen with
      |[y,z],_=>exact afF (by omega) (by omega) (ih y (by simp)) (ih z (by simp))
theorem Br:∀l:List Ex,bA l=true→∀y∈l,RT vs y
 |[],_,y,hy=>by simp at hy
 |x::r,hf,y,hy=>by
  simp only[bA,Bool.and_eq_true]at hf;rcases List.mem_cons.1 hy with e|hy
  ·rw[e];exact rF x hf.1
  ·exact Br r hf.2 y hy
end
end
theorem Fb{op line:Int}{a b:Te}(h:(cg op line a b).e=0):(cg op line a b).line=0:=by
 rw[(gW h).2.2.2.2];rfl
theorem Wk(vs:List Vr):∀x:Ex,(aF vs x).e=0→(aF vs x).line=0
 | .mk op nn name field sub line,h=>by
  unfold aF at h⊢;split at h
  ·rename_i c;rw[if_pos c];rfl
  ·rename_i c;rw[if_neg c];split at h
   ·rename_i c2;rw[if_pos c2];cases hf:aZ vs name with
    |none=>rw[hf]at h;simp[ck]at h
    |some v=>
     rw[hf]at h;simp only at h⊢;split at h
     ·rename_i c3;rw[if_pos c3];split at h
      ·simp[ck]at h
      ·rename_i c4;rw[if_neg c4];cases hp:jS v.ty field with
       |none=>rw[hp]at h;simp[ck]at h
       |some p=>rfl
     ·rename_i c3;rw[if_neg c3];split at h
      ·simp[ck]at h
      ·rename_i c4;rw[if_neg c4];split at h
       ·rename_i c5;rw[if_pos c5];cases sub with
        |nil=>rfl
        |cons y r=>
         simp only[uT]at h⊢;split at h
         ·rename_i c6;exact absurd h c6
         ·rename_i c6;rw[if_neg c6];split at h
          ·simp[ck]at h
          ·rename_i c7;rw[if_neg c7];rfl
       ·rename_i c5;rw[if_neg c5];rfl
   ·rename_i c2;rw[if_neg c2];match sub,h with
    |[],_=>rfl
    |[y],h=>exact Fb h
    |y::z::_,h=>exact Fb h
theorem pF(vs:List Vr)(x:Ex)(t:Int):C7 vs x t=dn vs x t:=by
 unfold C7 dn;have:=Wk vs x;by_cases h:(aF vs x).e=0
 ·have hl:=this h;by_cases ht:(aF vs x).t=t
  ·simp[h,ht,hl]
  ·simp[h,ht]
 ·simp[h]
def RM(vs:List Vr)(lp:Bool)(x:Sm):Prop:=ai ctx 89 [.d (.list (vs.map bI)),.d (.agg (smL x)),.d (.bool lp)] []=some (.ret (du (dG (jk vs lp x))),[])
def oG(vs:List Vr)(lp:Bool)(l:List Sm):Prop:=ai ctx 49 [.d (.list (vs.map bI)),.d (.list (l.map b5)),.d (.bool lp)] []=some (.ret (du (dG (er vs lp l))),[])
@[simp] def gP(e:EL):aE:=.box [.d (.int .i64 e.1),.d (.int .i64 e.2)]
theorem I1{vs:List Vr}{lp:Bool}{l:List Sm}(bn:l.length<100000000)(hK:∀x∈l,RM vs lp x)(k:Kt)(RF:EL→bS)
 (h1:∀e u v X,k .ret ⟨27,aC,[(6,true,.ptr 400 u 0)],[⟨400,u,gP e⟩,⟨500,v,X⟩]⟩=RF e)
 (h2:∀(u v:Nat)(X:aE)(b c:AV),k (.exit 0) ⟨27,aC,[(0,true,.d (.list (vs.map bI))),(1,true,.d (.list (l.map b5))),(2,true,.d (.bool lp)),(6,true,.ptr 400 u 0),(7,true,b),(12,true,c)],[⟨400,u,gP (0,0)⟩,⟨500,v,X⟩]⟩=RF (0,0)):∀(rest pre:List Sm)(u v:Nat)(X:aE),l=pre++rest→
 aI ctx 49 (.loop (Code.at (aY Tryz.f49) [1,0,1,0,0])) ⟨27,aC,[(0,true,.d (.list (vs.map bI))),(1,true,.d (.list (l.map b5))),(2,true,.d (.bool lp)),(6,true,.ptr 400 u 0),(7,true,.d (.int .i64 pre.length))],[⟨400,u,gP (0,0)⟩,⟨500,v,X⟩]⟩ k=RF (dG (er vs lp rest))
 |[],pre,u,v,X,hd=>by
  have cf:pre.length=l.length:=by rw[hd];simp
  simp only[gP]at h2;rw[cf,ah];simp[Tryz.f49,h2,er,dG]
 |x::rest,pre,u,v,X,hd=>by
  have aR:pre.length<l.length:=by rw[hd];simp
  have aV:l[pre.length]=x:=by simp[hd]
  have hm:=hK x (by rw[hd];simp);have ih:=fun u v X=>I1 bn hK k RF h1 h2 rest (pre++[x]) u v X (by simp[hd]);have w1:IntKind.i64.wrap ((pre.length:Int)+1)=(pre.length:Int)+1:=au (by unfold aX;omega);have key:er vs lp (x::rest)=eX (jk vs lp x) (er vs lp rest):=by rw[er]
  rw[key];unfold RM du at hm;generalize jk vs lp x=E at*;generalize er vs lp rest=F at*;simp only[gP]at h1;rw[ah];by_cases h0:E.1=0
  ·rw[kU h0];simp[dG,h0]at hm;simp[Tryz.f49]at ih⊢;simp[aR,aV,ef,hm,w1,ih]
  ·rw[oy h0];have h1:=h1 E;simp[dG,h0]at hm;simp[Tryz.f49];simp[aR,aV,ef,hm,h0,h1,dG]
theorem I2{vs:List Vr}{lp:Bool}{l:List Sm}(bn:l.length<100000000)(hK:∀x∈l,RM vs lp x):oG vs lp l:=by
 unfold oG;have h:=fun k RF h1 h2 u v X=>I1 bn hK k RF h1 h2 l [] u v X rfl;rw[ah4 (by simp)];simp[Tryz.f49]at h⊢;rw[h _ (fun e=>some (.ret (du e),[]))]
 ·intro a b u v X;simp[du]
 ·intro u v X b c;simp[du]
theorem afG{w:Vr}(h:dj w=true):w.arr=true→0≤w.lo∧w.lo≤w.hi∧w.hi≤255:=by
 intro ha;simp only[dj,Bool.and_eq_true,ha,if_true,decide_eq_true_eq]at h;exact h.2.2.1.2
theorem I3(l:List Vr)(bn:l.length≤1000)(hf:∀v∈l,dj v=true)(D1 D2:AV)(k:Kt)(RF:EL→bS)
 (h1:∀e u v X,e.1≠0→k .ret ⟨58,aC,[(2,true,.ptr 200 u 0)],[⟨150,1,.box [D1,.d (.list (l.map bI)),D2]⟩,⟨200,u,gP e⟩,⟨350,v,X⟩]⟩=RF e)
 (h2:∀(u v:Nat)(X:aE)(a b c:AV),k (.exit 0) ⟨58,aC,[(1,true,.ptr 150 1 0),(2,true,.ptr 200 u 0),(3,true,a),(4,true,b),(11,true,c)],[⟨150,1,.box [D1,.d (.list (l.map bI)),D2]⟩,⟨200,u,gP (0,0)⟩,⟨350,v,X⟩]⟩=RF (0,0)):∀(rest pre:List Vr)(n:Int)(u v:Nat)(X:aE),l=pre++rest→0≤n→n≤1024→
 aI ctx 19 (.loop (Code.at (aY Tryz.f19) [1,1,0,1,0,0])) ⟨58,aC,[(1,true,.ptr 150 1 0),(2,true,.ptr 200 u 0),(3,true,.d (.int .i64 n)),(4,true,.d (.int .i64 pre.length))],[⟨150,1,.box [D1,.d (.list (l.map bI)),D2]⟩,⟨200,u,gP (0,0)⟩,⟨350,v,X⟩]⟩ k=RF (EJ rest pre n)
 |[],pre,n,u,v,X,hd,h0,hn=>by
  have cf:pre.length=l.length:=by rw[hd];simp
  simp only[gP]at h2;rw[cf,ah];simp[Tryz.f19,h2,EJ]
 |x::rest,pre,n,u,v,X,hd,h0,hn=>by
  have aR:pre.length<l.length:=by rw[hd];simp
  have aV:l[pre.length]=x:=by simp[hd]
  have tD:List.take pre.length (List.map bI l)=List.map bI pre:=by simp[hd]
  have yQ:pre.length≤l.length:=by omega
  have wL:=hf x (by rw[hd];simp);have kX:=pR wL;have hc:=Wj (afG wL);have ki:=mr (vs:=pre) (by omega) x.name;have ih:=fun u v X=>I3 l bn hf D1 D2 k RF h1 h2 rest (pre++[x]) (n+bN x) u v X (by simp[hd]);have w1:IntKind.i64.wrap ((pre.length:Int)+1)=(pre.length:Int)+1:=au (by unfold aX;omega);have w3:IntKind.i64.wrap (n+bN x)=n+bN x:=au (by unfold aX;omega);have qX:=fun u v X=>h1 (11,x.line) u v X (by simp);have Fc:=fun u v X=>h1 (13,x.line) u v X (by simp);simp only[gP]at qX Fc;simp[eD]at hc;generalize hW:fV pre x.name=W at*;simp[bI,eD]at ki;rw[ah];unfold EJ;cases cD:(aZ pre x.name).isSome with
  |true=>
   rw[cD]at ki;simp[Tryz.f19];simp[aR,aV,tD,yQ,bI,eD,ki,qX,aq]
  |false=>
   rw[cD]at ki;by_cases FU:1024<n+bN x
   ·simp[Tryz.f19];simp[aR,aV,tD,yQ,bI,eD,ki,hc,w3,FU,Fc,aq]
   ·have ih:=fun u v X=>ih u v X (by omega) (by omega);simp[Tryz.f19]at ih⊢;simp[aR,aV,tD,yQ,bI,eD,ki,hc,w1,w3,FU,ih,aq]
theorem Wl{p:Pg}(hf:oo p=true)(hs:oG p.vars false p.body):ai ctx 19 [.d (.agg [.str p.name,.list (p.vars.map bI),.list (p.body.map b5)])] []=some (.ret (du (dG (qn p))),[]):=by
 simp only[oo,Bool.and_eq_true,decide_eq_true_eq,List.all_eq_true]at hf;obtain⟨_,hvl,cS,hb⟩:=hf;unfold oG at hs;unfold qn;generalize hE:er p.vars false p.body=E at*;have h:=fun D1 D2 k RF h1 h2 u v X=>I3 p.vars (by omega) cS D1 D2 k RF h1 h2 p.vars [] 0 u v X rfl (by omega) (by omega);generalize hV:EJ p.vars [] 0=V at*;rw[ahT (by simp)];simp[Tryz.f19]at h⊢;rw[h _ _ _ (fun e=>some (.ret (du (dG (eX e E))),[]))]
 ·intro a b u v X sQ;rw[oy sQ];simp[du,dG,sQ]
 ·intro u v X a b c;rw[kU rfl];simp[hs,du]
@[reducible] noncomputable def As(p:List Nat):Code:=Code.at (aY Tryz.f132) p
theorem I4{x:Sm}{f:Tx}{pre tl:List Tx}(hx:dR x=pre++f::tl)(hlen:(dR x).length<100000000){a0:AV}{u v5 v6:Nat}{W X5 X6:aE}(k:Kt)(R1 R2:bS)
 (h1:k .ret ⟨91,aC,[(4,true,.ptr 300 u 0)],[⟨250,1,bh x⟩,⟨300,u,gP (11,kC x)⟩,⟨350,1,W⟩,⟨500,v5,X5⟩,⟨650,v6,X6⟩]⟩=R1)
 (h2:∀b c,k (.exit 2) ⟨91,aC,[(0,true,a0),(3,true,.ptr 250 1 0),(4,true,.ptr 300 u 0),(5,true,.ptr 350 1 0),(7,true,.d (.int .i64 pre.length)),(8,true,.ptr 500 v5 0),(10,true,b),(60,true,c)],[⟨250,1,bh x⟩,⟨300,u,gP (0,0)⟩,⟨350,1,W⟩,⟨500,v5,X5⟩,⟨650,v6,X6⟩]⟩=R2):∀(rest p2:List Tx),pre=p2++rest→
 aI ctx 132 (.loop (As [1,1,1,1,0,1,0,0,1,0,0,1,1,0,1,0,0])) ⟨91,aC,[(0,true,a0),(3,true,.ptr 250 1 0),(4,true,.ptr 300 u 0),(5,true,.ptr 350 1 0),(7,true,.d (.int .i64 pre.length)),(8,true,.ptr 500 v5 0),(10,true,.d (.int .i64 p2.length))],[⟨250,1,bh x⟩,⟨300,u,gP (0,0)⟩,⟨350,1,W⟩,⟨500,v5,X5⟩,⟨650,v6,X6⟩]⟩ k=if f∈rest then R1 else R2
 |[],p2,hd=>by
  have cf:p2.length=pre.length:=by rw[hd];simp
  simp only[gP,bh]at h2;rw[cf,ah];simp[As,Tryz.f132,h2]
 |c::rest,p2,hd=>by
  have aR:p2.length<pre.length:=by rw[hd];simp
  have aV:pre.length<(dR x).length:=by rw[hx];simp
  have tD:p2.length<(dR x).length:=by omega
  have yQ:(dR x)[pre.length]=f:=by simp[hx]
  have hb5:(dR x)[p2.length]=c:=by simp[hx,hd]
  have ih:=I4 hx hlen k R1 R2 h1 h2 rest (p2++[c]) (by simp[hd]);have w1:IntKind.i64.wrap ((p2.length:Int)+1)=(p2.length:Int)+1:=au (by unfold aX;omega);simp only[gP,bh]at h1;rw[ah];by_cases hq:c=f
  ·have oO:f=c:=hq.symm;simp[As,Tryz.f132];simp[aR,aV,tD,yQ,hb5,hq,h1,aq]
  ·have oO:¬f=c:=fun h=>hq h.symm;simp[As,Tryz.f132]at ih⊢;simp[aR,aV,tD,yQ,hb5,hq,oO,w1,ih,aq]
theorem I5{vs:List Vr}{x:Sm}{w:Vr}(hlen:(dR x).length<100000000)(hle:(cy x).length=(dR x).length)(hC:∀y∈cy x,RT vs y)(k:Kt)(RF:EL→bS)
 (h1:∀e u v5 v6 X5 X6,k .ret ⟨91,aC,[(4,true,.ptr 300 u 0)],[⟨250,1,bh x⟩,⟨300,u,gP e⟩,⟨350,1,ie w⟩,⟨500,v5,X5⟩,⟨650,v6,X6⟩]⟩=RF e)
 (h2:∀u v5 v6 X5 X6 b c,k (.exit 0) ⟨91,aC,[(0,true,.d (.list (vs.map bI))),(3,true,.ptr 250 1 0),(4,true,.ptr 300 u 0),(5,true,.ptr 350 1 0),(7,true,b),(34,true,c)],[⟨250,1,bh x⟩,⟨300,u,gP (0,0)⟩,⟨350,1,ie w⟩,⟨500,v5,X5⟩,⟨650,v6,X6⟩]⟩=RF (0,0)):∀(rest pre:List Tx)(cr cp:List Ex)(u v5 v6:Nat)(X5 X6:aE),dR x=pre++rest→cy x=cp++cr→cp.length=pre.length→
 aI ctx 132 (.loop (As [1,1,1,1,0,1,0,0])) ⟨91,aC,[(0,true,.d (.list (vs.map bI))),(3,true,.ptr 250 1 0),(4,true,.ptr 300 u 0),(5,true,.ptr 350 1 0),(7,true,.d (.int .i64 pre.length))],[⟨250,1,bh x⟩,⟨300,u,gP (0,0)⟩,⟨350,1,ie w⟩,⟨500,v5,X5⟩,⟨650,v6,X6⟩]⟩ k=RF (dG (gQ vs w.ty (kC x) rest cr pre))
 |[],pre,cr,cp,u,v5,v6,X5,X6,hd,hc,aO=>by
  have cf:pre.length=(dR x).length:=by rw[hd];simp
  have e0:gQ vs w.ty (kC x) [] cr pre=(0,0):=by unfold gQ;rfl
  simp only[gP,bh,ie]at h2;rw[e0,cf,ah];simp[As,Tryz.f132,h2,dG]
 |f::rest,pre,[],cp,u,v5,v6,X5,X6,hd,hc,aO=>by
  rw[hd,hc]at hle;simp at hle;omega
 |f::rest,pre,y::cr,cp,u,v5,v6,X5,X6,hd,hc,aO=>by
  have aR:pre.length<(dR x).length:=by rw[hd];simp
  have aV:(dR x)[pre.length]=f:=by simp[hd]
  have tD:pre.length<(cy x).length:=by omega
  have yQ:(cy x)[pre.length]=y:=by simp[←aO,hc]
  have hy:=hC y (by rw[hc];simp);have hp:=TY w.ty f;have ih:=fun u v5 v6 X5 X6=>I5 hlen hle hC k RF h1 h2 rest (pre++[f]) cr (cp++[y]) u v5 v6 X5 X6 (by simp[hd]) (by simp[hc]) (by simp[aO]);have cD:=fun a0 u v5 v6 W X5 X6 k R1 R2 h1 h2=>I4 (a0:=a0) (u:=u) (v5:=v5) (v6:=v6) (W:=W) (X5:=X5) (X6:=X6) hd hlen k R1 R2 h1 h2 pre [] rfl;have w1:IntKind.i64.wrap ((pre.length:Int)+1)=(pre.length:Int)+1:=au (by unfold aX;omega);have key:gQ vs w.ty (kC x) (f::rest) (y::cr) pre=(match jS w.ty f with
   |none=>(9,kC x)
   |some q=>if q.Km=false then (9,kC x)else if f∈pre then (11,kC x)else eX (dn vs y q.ty) (gQ vs w.ty (kC x) rest cr (pre++[f]))):=by
   conv=>lhs;unfold gQ
   rfl
  have qX:=h1 (9,kC x);have Fc:=h1 (11,kC x);have QS:=h1 (dn vs y (fP w.ty f).ty);have hw:=pE (fP w.ty f).ty hy;rw[pF]at hw;unfold du at hw;simp only[gP,bh,ie]at qX Fc QS;rw[key];clear key;rw[ah];cases hq:jS w.ty f with
  |none=>
   simp[hq,fP,cW,th]at hp;simp[As,Tryz.f132];simp[aR,aV,hp,qX,dG,aq]
  |some q=>
   simp only[fP,hq,Option.getD_some]at hw QS;simp[hq,fP,cW]at hp;simp only
   generalize gQ vs w.ty (kC x) rest cr (pre++[f])=E at*;generalize dn vs y q.ty=T at*;by_cases hi:q.Km=false
   ·simp[hi]at hp;simp[As,Tryz.f132];simp[aR,aV,hp,qX,dG,hi,aq]
   ·have hi:q.Km=true:=by simpa using hi
    simp[hi]at hp;simp[As,Tryz.f132]at cD ih⊢;simp[aR,aV,hp,hi,aq];rw[cD (R1:=RF (11,kC x)) (R2:=RF (dG (eX T E)))]
    ·by_cases hm:f∈pre
     ·simp[hm,dG]
     ·simp[hm]
    ·simp[Fc]
    ·intro b c;by_cases h0:T.1=0
     ·rw[kU h0];simp[aR,aV,tD,yQ,aD,hw,h0,w1,ih,aq]
     ·rw[oy h0];simp[aR,aV,tD,yQ,aD,hw,h0,QS,dG,aq]
theorem aay{vs:List Vr}(hl:vs.length<1000000){x:Sm}(hlen:(dR x).length<100000000)(hle:(cy x).length=(dR x).length)(hC:∀y∈cy x,RT vs y):ai ctx 132 [.d (.list (vs.map bI)),.d (.agg (smL x))] []=some (.ret (du (dG (SV vs x))),[]):=by
 have hf:=mr hl (gU x);rw[acR (by simp)];unfold SV;cases hv:aZ vs (gU x)with
 |none=>
  simp[hv,fV,bI,eD,qT]at hf;simp[Tryz.f132,hf,du,dG]
 |some v=>
  have h:=fun k RF h1 h2 u v5 v6 X5 X6=>I5 (w:=v) hlen hle hC k RF h1 h2 (dR x) [] (cy x) [] u v5 v6 X5 X6 rfl rfl rfl;simp[hv,fV,bI,eD]at hf;by_cases h2:v.ty≤2
  ·simp[Tryz.f132,hf,du,dG,h2]
  ·generalize hE:gQ vs v.ty (kC x) (dR x) (cy x) []=E at*;simp[As,Tryz.f132]at h;simp[Tryz.f132,hf,h2];rw[h _ (fun e=>some (.ret (du e),[]))]
   ·rw[hE]
   ·intro a b u v5 v6 X5 X6;simp[du]
   ·intro u v5 v6 X5 X6 b c;simp[du]
section
variable {vs:List Vr} {lp:Bool} {x:Sm}
theorem aiV(h:bu x=7):RM vs lp x:=by
 unfold RM;rw[rn,mo (by simp)];cases lp with
 |true=>simp[Tryz.f89,h,du,dG]
 |false=>simp[Tryz.f89,h,du,dG]
theorem aiW(h:bu x=8):RM vs lp x:=by
 unfold RM;rw[rn,mo (by simp)];simp[Tryz.f89,h,du,dG]
theorem aiX(hl:vs.length<1000000)(h:bu x=9)(hlen:(dR x).length<100000000)(hle:(cy x).length=(dR x).length)(hC:∀y∈cy x,RT vs y):RM vs lp x:=by
 have hc:=aay hl hlen hle hC;unfold RM;rw[rn,mo (by simp)];generalize SV vs x=E at*;simp[h,du]at hc;simp[Tryz.f89,h,du,hc]
theorem aiY(h:bu x=5){b:List Sm}(hb:bj x=[b])(hv:RT vs (dM x))(hs:oG vs true b):RM vs lp x:=by
 have hw:=pE 2 hv;rw[pF]at hw;unfold oG at hs;unfold RM;rw[rn,mo (by simp)];have e:sm vs (bj x)=er vs true b:=by rw[hb];rfl
 rw[e];generalize dn vs (dM x) 2=T at*;generalize er vs true b=E at*;simp[du]at hw hs;by_cases h0:T.1=0
 ·simp[Tryz.f89,h,hb,df,du,hw,hs,kU h0,h0]
 ·simp[Tryz.f89,h,hb,du,hw,oy h0,h0,dG]
theorem aiZ(h:bu x=6){b:List Sm}(hb:bj x=[b])(hv:RT vs (dM x))(hs:oG vs true b):RM vs lp x:=by
 have hw:=pE 2 hv;rw[pF]at hw;unfold oG at hs;unfold RM;rw[rn,mo (by simp)];have e:sm vs (bj x)=er vs true b:=by rw[hb];rfl
 have hT:(dn vs (dM x) 2).1=0→dn vs (dM x) 2=(0,0):=by
  unfold dn;split
  ·intro hh;rename_i c;exact absurd hh c
  ·split
   ·intro hh;simp at hh
   ·intro _;rfl
 rw[e];generalize dn vs (dM x) 2=T at*;generalize er vs true b=E at*;have hT2:dG T=T:=by
  unfold dG;by_cases h0:T.1=0
  ·rw[if_pos h0,hT h0]
  ·rw[if_neg h0]
 simp[du]at hw hs;by_cases h0:E.1=0
 ·simp[dG,h0]at hs;simp[Tryz.f89,h,hb,df,du,hw,hs,kU h0,hT2]
 ·simp[dG,h0]at hs;simp[Tryz.f89,h,hb,df,du,hs,oy h0,h0,dG]
end
section
variable {vs:List Vr} {lp:Bool} {x:Sm}
theorem ai0(hl:vs.length<1000000)(h:bu x=1)(ht:RT vs (eI x))(hv:RT vs (dM x)):RM vs lp x:=by
 have hf:=mr hl (dA (eI x));unfold RT at ht hv;unfold RM;rw[rn,mo (by simp),if_pos h];unfold Ae;generalize aF vs (eI x)=T at*;generalize aF vs (dM x)=U at*;simp[eo]at ht hv;cases hq:aZ vs (dA (eI x))with
 |none=>
  simp[hq,fV,bI,eD,qT]at hf;simp[Tryz.f89,h,hf,du,dG]
 |some w=>
  simp[hq,fV,bI,eD]at hf;by_cases h1:w.sec=1
  ·simp[Tryz.f89,h,hf,h1,du,dG]
  ·by_cases h2:T.e=0
   ·have o1:(EI T).1=0:=h2;by_cases h3:U.e=0
    ·have o2:(EI U).1=0:=h3;by_cases h4:U.t=T.t
     ·simp[Tryz.f89,h,hf,h1,ht,h2,hv,h3,h4,kU o1,kU o2,du,dG]
     ·simp[Tryz.f89,h,hf,h1,ht,h2,hv,h3,h4,kU o1,kU o2,du,dG]
    ·have o2:¬(EI U).1=0:=h3;simp[Tryz.f89,h,hf,h1,ht,h2,hv,h3,eX,du,dG,EI]
   ·have o1:¬(EI T).1=0:=h2;simp[Tryz.f89,h,hf,h1,ht,h2,eX,du,dG,EI]
end
@[reducible] noncomputable def oX(p:List Nat):Code:=Code.at (aY Tryz.f89) p
@[simp] def mM(x:Sm)(e:EL)(w7 w8 w85 w9 oU:Nat)(Y7 Y8 Y85 Y9 sC Y10:aE)(w10:Nat):List cI:=[⟨300,1,bh x⟩,⟨400,1,gP e⟩,⟨450,0,.dead⟩,⟨600,0,.dead⟩,⟨750,w7,Y7⟩,⟨800,w8,Y8⟩,⟨850,w85,Y85⟩,⟨950,w9,Y9⟩,⟨1000,w10,Y10⟩,⟨1150,oU,sC⟩,⟨1200,0,.dead⟩,⟨1250,0,.dead⟩]
section
variable {vs:List Vr} {lp:Bool} {x:Sm}
theorem I6{w85:Nat}{Y85:aE}(hlen:(bj x).length<100000000)(hB:∀b∈bj x,oG vs lp b)(k:Kt)(RF:EL→bS)
 (h1:∀e w9 Y9,k .ret ⟨242,aC,[(6,true,.ptr 400 1 0)],mM x e 0 0 w85 w9 0 .dead .dead Y85 Y9 .dead .dead 0⟩=RF e)
 (h2:∀w9 Y9 b c,k (.exit 3) ⟨242,aC,[(0,true,.d (.list (vs.map bI))),(2,true,.d (.bool lp)),(4,true,.ptr 300 1 0),(6,true,.ptr 400 1 0),(16,true,b),(128,true,c)],mM x (0,0) 0 0 w85 w9 0 .dead .dead Y85 Y9 .dead .dead 0⟩=RF (0,0)):∀(rest pre:List (List Sm))(w9:Nat)(Y9:aE),bj x=pre++rest→
 aI ctx 89 (.loop (oX [1,0,1,0,1,1,1,1,1,0,1,1,0,0])) ⟨242,aC,[(0,true,.d (.list (vs.map bI))),(2,true,.d (.bool lp)),(4,true,.ptr 300 1 0),(6,true,.ptr 400 1 0),(16,true,.d (.int .i64 pre.length))],mM x (0,0) 0 0 w85 w9 0 .dead .dead Y85 Y9 .dead .dead 0⟩ k=RF (dG (fu vs lp [] rest))
 |[],pre,w9,Y9,hd=>by
  have cf:pre.length=(bj x).length:=by rw[hd];simp
  have e0:fu vs lp [] []=(0,0):=by unfold fu;rfl
  simp only[mM,gP,bh]at h2;rw[e0,cf,ah];simp[oX,Tryz.f89,h2,dG]
 |b::rest,pre,w9,Y9,hd=>by
  have aR:pre.length<(bj x).length:=by rw[hd];simp
  have aV:(bj x)[pre.length]=b:=by simp[hd]
  have hs:=hB b (by rw[hd];simp);have ih:=fun w9 Y9=>I6 hlen hB k RF h1 h2 rest (pre++[b]) w9 Y9 (by simp[hd]);have w1:IntKind.i64.wrap ((pre.length:Int)+1)=(pre.length:Int)+1:=au (by unfold aX;omega);have key:fu vs lp [] (b::rest)=eX (er vs lp b) (fu vs lp [] rest):=by
   conv=>lhs;unfold fu
  rw[key];clear key;unfold oG du at hs;generalize er vs lp b=E at*;generalize fu vs lp [] rest=F at*;have qX:=h1 E;simp only[mM,gP,bh]at qX;rw[ah];by_cases h0:E.1=0
  ·rw[kU h0];simp[dG,h0]at hs;simp[oX,Tryz.f89]at ih⊢;simp[aR,aV,df,hs,w1,ih]
  ·rw[oy h0];simp[dG,h0]at hs;simp[oX,Tryz.f89];simp[aR,aV,df,hs,h0,qX,dG]
theorem ai1(h:bu x=3)(hlen:(bj x).length<100000000)(hv:RT vs (dM x))(hB:∀b∈bj x,oG vs lp b):RM vs lp x:=by
 have hw:=pE 1 hv;rw[pF]at hw;have cJ:=fun w85 Y85 k RF h1 h2 w9 Y9=>I6 (w85:=w85) (Y85:=Y85) hlen hB k RF h1 h2 (bj x) [] w9 Y9 rfl;unfold RM;rw[rn,mo (by simp)];generalize dn vs (dM x) 1=T at*;simp[du]at hw;by_cases h0:T.1=0
 ·rw[if_neg (by omega),if_neg (by omega),if_pos h,kU h0];generalize fu vs lp [] (bj x)=E at*;simp[oX,Tryz.f89,h]at cJ;simp[Tryz.f89,h,hw,h0];rw[cJ _ _ _ (fun e=>some (.ret (du e),[]))]
  ·intro a b w9 Y9;simp[du]
  ·intro w9 Y9 b c;simp[du]
 ·simp[Tryz.f89,h,hw,h0,oy h0,dG,du]
theorem I7(hlen:(bj x).length<100000000)(fX:(cy x).length<100000000)(hC:∀y∈cy x,RT vs y)(hB:∀b∈bj x,oG vs lp b)(k:Kt)(RF:EL→bS)
 (h1:∀e w7 Y7 w8 Y8,k .ret ⟨242,aC,[(6,true,.ptr 400 1 0)],mM x e w7 w8 0 0 0 Y7 Y8 .dead .dead .dead .dead 0⟩=RF e)
 (h2:∀w7 Y7 w8 Y8 b c,k (.exit 1) ⟨242,aC,[(0,true,.d (.list (vs.map bI))),(2,true,.d (.bool lp)),(4,true,.ptr 300 1 0),(6,true,.ptr 400 1 0),(12,true,b),(83,true,c)],mM x (0,0) w7 w8 0 0 0 Y7 Y8 .dead .dead .dead .dead 0⟩=RF (0,0)):∀(rest pre:List (List Sm))(w7:Nat)(Y7:aE)(w8:Nat)(Y8:aE),bj x=pre++rest→
 aI ctx 89 (.loop (oX [1,0,1,0,1,1,1,0,1,0,0])) ⟨242,aC,[(0,true,.d (.list (vs.map bI))),(2,true,.d (.bool lp)),(4,true,.ptr 300 1 0),(6,true,.ptr 400 1 0),(12,true,.d (.int .i64 pre.length))],mM x (0,0) w7 w8 0 0 0 Y7 Y8 .dead .dead .dead .dead 0⟩ k=RF (dG (fu vs lp ((cy x).drop pre.length) rest))
 |[],pre,w7,Y7,w8,Y8,hd=>by
  have cf:pre.length=(bj x).length:=by rw[hd];simp
  have e0:∀cs,fu vs lp cs []=(0,0):=by intro cs;unfold fu;rfl
  simp only[mM,gP,bh]at h2;rw[e0,cf,ah];simp[oX,Tryz.f89,h2,dG]
 |b::rest,pre,w7,Y7,w8,Y8,hd=>by
  have aR:pre.length<(bj x).length:=by rw[hd];simp
  have aV:(bj x)[pre.length]=b:=by simp[hd]
  have hs:=hB b (by rw[hd];simp);have ih:=fun w7 Y7 w8 Y8=>I7 hlen fX hC hB k RF h1 h2 rest (pre++[b]) w7 Y7 w8 Y8 (by simp[hd]);have w1:IntKind.i64.wrap ((pre.length:Int)+1)=(pre.length:Int)+1:=au (by unfold aX;omega);unfold oG du at hs;have qX:=h1 (er vs lp b);simp only[mM,gP,bh]at qX;rw[ah];by_cases hc:pre.length<(cy x).length
  ·have hy:=hC _ (List.getElem_mem hc);have hw:=pE 2 hy;rw[pF]at hw;have key:fu vs lp ((cy x).drop pre.length) (b::rest)=eX (dn vs (cy x)[pre.length] 2) (eX (er vs lp b) (fu vs lp ((cy x).drop (pre.length+1)) rest)):=by
    rw[List.drop_eq_getElem_cons hc];conv=>lhs;unfold fu
   rw[key];clear key;have Fc:=h1 (dn vs (cy x)[pre.length] 2);simp only[mM,gP,bh]at Fc;simp only[List.length_append,List.length_cons,List.length_nil,Nat.zero_add]at ih;generalize er vs lp b=E at*;generalize fu vs lp ((cy x).drop (pre.length+1)) rest=F at*;generalize dn vs (cy x)[pre.length] 2=T at*;unfold du at hw;by_cases ht:T.1=0
   ·rw[kU ht];by_cases h0:E.1=0
    ·rw[kU h0];simp[dG,h0]at hs;simp[oX,Tryz.f89]at ih⊢;simp[aR,aV,hc,aD,df,hw,ht,hs,w1,ih]
    ·rw[oy h0];simp[dG,h0]at hs;simp[oX,Tryz.f89];simp[aR,aV,hc,aD,df,hw,ht,hs,h0,qX,dG]
   ·rw[oy ht];simp[oX,Tryz.f89];simp[aR,aV,hc,aD,hw,ht,Fc,dG]
  ·have iY:∀n,pre.length≤n→(cy x).drop n=[]:=fun n hn=>List.drop_eq_nil_of_le (by omega);have key:fu vs lp ((cy x).drop pre.length) (b::rest)=eX (er vs lp b) (fu vs lp [] rest):=by
    rw[iY _ (Nat.le_refl _)];conv=>lhs;unfold fu
   rw[key];clear key;simp only[List.length_append,List.length_cons,List.length_nil,Nat.zero_add,iY (pre.length+1) (by omega)]at ih;generalize er vs lp b=E at*;generalize fu vs lp [] rest=F at*;by_cases h0:E.1=0
   ·rw[kU h0];simp[dG,h0]at hs;simp[oX,Tryz.f89]at ih⊢;simp[aR,aV,hc,df,hs,w1,ih]
   ·rw[oy h0];simp[dG,h0]at hs;simp[oX,Tryz.f89];simp[aR,aV,hc,df,hs,h0,qX,dG]
end
section
variable {vs:List Vr} {lp:Bool} {x:Sm}
theorem ai2(h:bu x=2)(hlen:(bj x).length<100000000)(fX:(cy x).length<100000000)(hC:∀y∈cy x,RT vs y)(hB:∀b∈bj x,oG vs lp b):RM vs lp x:=by
 have cJ:=fun k RF h1 h2 w7 Y7 w8 Y8=>I7 hlen fX hC hB k RF h1 h2 (bj x) [] w7 Y7 w8 Y8 rfl;unfold RM;rw[rn,mo (by simp)];rw[if_neg (by omega),if_pos h];simp only[List.length_nil,List.drop_zero]at cJ;generalize fu vs lp (cy x) (bj x)=E at*;simp[oX,Tryz.f89,h]at cJ;simp[Tryz.f89,h];rw[cJ _ (fun e=>some (.ret (du e),[]))]
 ·intro a b w7 Y7 w8 Y8;simp[du]
 ·intro w7 Y7 w8 Y8 b c;simp[du]
theorem I8{W:aE}(fX:(cy x).length<100000000)(hC:∀y∈cy x,RT vs y)(k:Kt)(RF:EL→bS)
 (h1:∀(e:EL) oU sC,¬e.1=0→k .ret ⟨242,aC,[(6,true,.ptr 400 1 0)],mM x e 0 0 0 0 oU .dead .dead .dead .dead sC W 1⟩=RF e)
 (h2:∀oU sC b c,k (.exit 5) ⟨242,aC,[(0,true,.d (.list (vs.map bI))),(4,true,.ptr 300 1 0),(6,true,.ptr 400 1 0),(20,true,b),(177,true,c)],mM x (0,0) 0 0 0 0 oU .dead .dead .dead .dead sC W 1⟩=RF (0,0)):∀(rest pre:List Ex)(oU:Nat)(sC:aE),cy x=pre++rest→
 aI ctx 89 (.loop (oX [1,0,1,0,1,1,1,1,1,1,1,0,1,1,1,1,0,1,0,0])) ⟨242,aC,[(0,true,.d (.list (vs.map bI))),(4,true,.ptr 300 1 0),(6,true,.ptr 400 1 0),(20,true,.d (.int .i64 pre.length))],mM x (0,0) 0 0 0 0 oU .dead .dead .dead .dead sC W 1⟩ k=RF (dG (jH vs 1 rest))
 |[],pre,oU,sC,hd=>by
  have cf:pre.length=(cy x).length:=by rw[hd];simp
  simp only[mM,gP,bh]at h2;rw[cf,ah];simp[oX,Tryz.f89,h2,dG,jH]
 |y::rest,pre,oU,sC,hd=>by
  have aR:pre.length<(cy x).length:=by rw[hd];simp
  have aV:(cy x)[pre.length]=y:=by simp[hd]
  have hw:=pE 1 (hC y (by rw[hd];simp));rw[pF]at hw;have ih:=fun oU sC=>I8 fX hC k RF h1 h2 rest (pre++[y]) oU sC (by simp[hd]);have w1:IntKind.i64.wrap ((pre.length:Int)+1)=(pre.length:Int)+1:=au (by unfold aX;omega);have key:jH vs 1 (y::rest)=eX (dn vs y 1) (jH vs 1 rest):=rfl;rw[key];clear key;unfold du at hw;generalize dn vs y 1=E at*;generalize jH vs 1 rest=F at*;rw[ah];by_cases h0:E.1=0
  ·rw[kU h0];simp[oX,Tryz.f89]at ih⊢;simp[aR,aV,aD,hw,h0,w1,ih]
  ·rw[oy h0];have qX:=fun w Y=>h1 E w Y h0;simp only[mM,gP,bh]at qX;simp[oX,Tryz.f89];simp[aR,aV,aD,hw,h0,qX,dG]
set_option maxHeartbeats 1000000 in
theorem afH(h:bu x=4)(fX:(cy x).length<100000000)(hC:∀y∈cy x,RT vs y){b:List Sm}(hb:bj x=[b])(hs:oG vs true b){w:Vr}(hq:aZ vs (gU x)=some w)(hf:ai ctx 47 [.d (.list (vs.map bI)),.d (.str (gU x))] []=some (.ret (.aW [.d (bI (fV vs (gU x))),.d (.bool (aZ vs (gU x)).isSome)]),[]))(h1:¬w.sec=1)(h2:w.arr=false)(h3:w.ty=1):
 ai ctx 89 [.d (.list (vs.map bI)),.d (.agg (smL x)),.d (.bool lp)] []=some (.ret (du (dG (eX (jH vs 1 (cy x)) (er vs true b)))),[]):=by
 have cJ:=fun W k RF h1 h2 oU sC=>I8 (W:=W) fX hC k RF h1 h2 (cy x) [] oU sC rfl;unfold oG at hs;rw[mo (by simp)];generalize er vs true b=F at*;generalize jH vs 1 (cy x)=E at*;simp[hq,fV,bI,eD]at hf;simp[oX,Tryz.f89,h,hb]at cJ;simp[du]at hs;simp[Tryz.f89,h,hf,h1,h2,h3,hb];rw[cJ _ _ (fun e=>some (.ret (du (dG (eX e F))),[]))]
 ·by_cases h0:E.1=0
  ·simp[dG,h0,eX]
  ·simp[dG,h0,eX]
 ·intro e1 e2 oU sC h0;simp[du,eX,h0,dG]
 ·intro oU sC c d;simp[df,hs,du,eX]
theorem ai3(hl:vs.length<1000000)(h:bu x=4)(fX:(cy x).length<100000000)(hC:∀y∈cy x,RT vs y){b:List Sm}(hb:bj x=[b])(hs:oG vs true b):RM vs lp x:=by
 have hf:=mr hl (gU x);unfold RM;rw[rn];rw[if_neg (by omega),if_neg (by omega),if_neg (by omega),if_pos h];have e:sm vs (bj x)=er vs true b:=by rw[hb];rfl
 unfold coE;rw[e];cases hq:aZ vs (gU x)with
 |none=>
  rw[mo (by simp)];simp[hq,fV,bI,eD,qT]at hf;simp[Tryz.f89,h,hf,du,dG]
 |some w=>
  by_cases h1:w.sec=1
  ·rw[mo (by simp)];simp[hq,fV,bI,eD]at hf;simp[Tryz.f89,h,hf,h1,du,dG]
  ·by_cases h2:w.arr=true
   ·rw[mo (by simp)];simp[hq,fV,bI,eD]at hf;simp[Tryz.f89,h,hf,h1,h2,du,dG]
   ·have h2:w.arr=false:=by simpa using h2
    by_cases h3:w.ty=1
    ·rw[afH h fX hC hb hs hq hf h1 h2 h3];simp only[if_neg h1,h2,h3];simp
    ·rw[mo (by simp)];simp[hq,fV,bI,eD]at hf;simp[Tryz.f89,h,hf,h1,h2,h3,du,dG]
end
theorem DN{α:Type}{l:List α}(h:l.length=1):∃a,l=[a]:=by
 match l,h with
 |[a],_=>exact⟨a,rfl⟩
section
variable {vs:List Vr} (hl:vs.length<1000000)
include hl
theorem aaz{lp:Bool}{x:Sm}(hf:iH x=true)(tj:(bj x).length<100000000)(fX:(cy x).length<100000000)(xS:(dR x).length<100000000)(hB:∀b∈bj x,∀q,oG vs q b):RM vs lp x:=by
 have wL:∃op name to val conds labels fields blocks line,x=.mk op name to val conds labels fields blocks line:=by
  obtain⟨op,name,to,val,conds,labels,fields,blocks,line⟩:=x;exact⟨op,name,to,val,conds,labels,fields,blocks,line,rfl⟩
 have facts:(1≤bu x∧bu x≤9)∧(bu x=1→bk (eI x)=true)∧((bu x=1∨bu x=3∨bu x=5∨bu x=6)→bk (dM x)=true)∧bA (cy x)=true∧bG (bu x) (cy x).length (ee x).length (dR x).length (bj x).length=true:=by
  obtain⟨op,name,to,val,conds,labels,fields,blocks,line,rfl⟩:=wL;simp only[iH,Bool.and_eq_true,decide_eq_true_eq]at hf;obtain⟨cU,eO,cC,cm,ej,bJ,rB,rC,dI⟩:=hf;refine⟨cU,fun h1=>?_,fun h1=>?_,ej,bJ⟩
  ·simp only[RZ]at h1;rw[if_pos h1]at cC;simp only[Bool.and_eq_true]at cC;exact cC.2
  ·simp only[RZ]at h1;rw[if_pos h1]at cm;simp only[Bool.and_eq_true]at cm;exact cm.2
 obtain⟨cU,cC,cm,ej,bJ⟩:=facts;have hC:=Br hl (cy x) ej;have hc:bu x=1∨bu x=2∨bu x=3∨bu x=4∨bu x=5∨bu x=6∨bu x=7∨bu x=8∨bu x=9:=by omega
 rcases hc with h|h|h|h|h|h|h|h|h
 ·exact ai0 hl h (rF hl _ (cC h)) (rF hl _ (cm (.inl h)))
 ·exact ai2 h tj fX hC (fun b hb=>hB b hb lp)
 ·exact ai1 h tj (rF hl _ (cm (.inr (.inl h)))) (fun b hb=>hB b hb lp)
 ·rw[h]at bJ;simp[bG]at bJ;obtain⟨b,hb⟩:=DN bJ.2.2.2;exact ai3 hl h fX hC hb (hB b (by rw[hb];simp) true)
 ·rw[h]at bJ;simp[bG]at bJ;obtain⟨b,hb⟩:=DN bJ.2.2.2;exact aiY h hb (rF hl _ (cm (.inr (.inr (.inl h))))) (hB b (by rw[hb];simp) true)
 ·rw[h]at bJ;simp[bG]at bJ;obtain⟨b,hb⟩:=DN bJ.2.2.2;exact aiZ h hb (rF hl _ (cm (.inr (.inr (.inr h))))) (hB b (by rw[hb];simp) true)
 ·exact aiV h
 ·exact aiW h
 ·rw[h]at bJ;simp[bG]at bJ;exact aiX hl h xS bJ.1 hC
mutual
theorem afI:∀(x:Sm),iH x=true→MQ x<100000000→∀lp,RM vs lp x
 | .mk op name to val conds labels fields blocks line,hf,hn,lp=>by
  have hfb:cB blocks=true:=by
   simp only[iH,Bool.and_eq_true]at hf;exact hf.2.2.2.2.2.2.2.2
  have fG:=HH blocks;simp only[MQ]at hn;exact aaz hl hf (by simp only[ab6];omega) (by simp only[R0];omega) (by simp only[R3];omega) (fun b hb q=>NI blocks hfb (by omega) b hb q)
theorem DO:∀(l:List Sm),eh l=true→qC l<100000000→∀x∈l,∀lp,RM vs lp x
 |[],_,_,x,hx,_=>by simp at hx
 |y::r,hf,hn,x,hx,lp=>by
  simp only[eh,Bool.and_eq_true]at hf;simp only[qC]at hn;have h1:=afI y hf.1 (by omega);have h2:=DO r hf.2 (by omega);rcases List.mem_cons.1 hx with h|hx
  ·rw[h];exact h1 lp
  ·exact h2 x hx lp
theorem NI:∀(bs:List (List Sm)),cB bs=true→ui bs<100000000→∀b∈bs,∀q,oG vs q b
 |[],_,_,b,hb,_=>by simp at hb
 |c::r,hf,hn,b,hb,q=>by
  simp only[cB,Bool.and_eq_true]at hf;simp only[ui]at hn;have aO:=A3 c;have h1:=DO c hf.1 (by omega);have h2:=NI r hf.2 (by omega);rcases List.mem_cons.1 hb with h|hb
  ·rw[h];exact I2 (by omega) (fun x hx=>h1 x hx q)
  ·exact h2 b hb q
end
end
theorem T0{p:Pg}(hf:oo p=true)(hn:qC p.body<100000000):ai ctx 19 [.d (.agg [.str p.name,.list (p.vars.map bI),.list (p.body.map b5)])] []=some (.ret (du (dG (qn p))),[]):=by
 have MW:=hf;simp only[oo,Bool.and_eq_true,decide_eq_true_eq,List.all_eq_true]at MW;obtain⟨_,hvl,cS,hb⟩:=MW;have hml:=A3 p.body;exact Wl hf (I2 (by omega) (fun x hx=>DO (by omega) p.body hb hn x hx false))
end Go.Am
end
section
namespace Go.Am
open Go
mutual
def sD:Sm→Nat
 | .mk op _ _ _ _ _ _ blocks _=>1+(if op=4∨op=5∨op=6 then 1 else 0)+gZ blocks
def iI:List Sm→Nat
 |[]=>0
 |x::r=>sD x+iI r
def gZ:List (List Sm)→Nat
 |[]=>0
 |b::r=>iI b+gZ r
end
mutual
theorem afJ:∀s:Sm,sD (oV s)=sD s
 | .mk op name to val conds labels fields blocks line=>by simp only[oV,sD,NJ blocks]
theorem DP:∀l:List Sm,iI (dr l)=iI l
 |[]=>rfl
 |x::r=>by simp only[dr,iI,afJ x,DP r]
theorem NJ:∀l:List (List Sm),gZ (gO l)=gZ l
 |[]=>rfl
 |b::r=>by simp only[gO,gZ,DP b,NJ r]
end
theorem vk{l:List ar}(h:∀x∈l,x.op≠11):bO l=0:=by
 unfold bO;rw[List.countP_eq_zero];intro x hx;simpa using h x hx
theorem rp(x:ar)(l:List ar):bO (x::l)=(if x.op=11 then 1 else 0)+bO l:=by
 unfold bO;rw[List.countP_cons];by_cases h:x.op=11<;>simp[h];omega
theorem tJ:∀(ts bs:List (List ar)),(∀t∈ts,bO t=0)→bO (cK ts bs)=(bs.map bO).sum
 |[],[],_=>by simp[cK,bO]
 |_::_,[],_=>by simp[cK,bO]
 |[],b::r,h=>by
  have ih:=tJ [] r h;rw[zA];simp only[List.map_cons,List.sum_cons];split
  ·rename_i e;subst e;simp
  ·rw[pt,dt,ih,vk (l:=[ins 9 _ 0 0 0]) (by intro x hx;simp at hx;subst hx;simp[ins])];omega
 |t::ts,b::r,h=>by
  have ih:=tJ ts r (fun x hx=>h x (by simp[hx]));have h0:=h t (by simp);rw[cK];simp only[List.map_cons,List.sum_cons];rw[pt,ih,dt,dt,wq,h0,vk (l:=[ins 10 _ 0 0 0]) (by intro x hx;simp at hx;subst hx;simp[ins])];split
  ·omega
  ·rw[dt,vk (l:=[ins 9 _ 0 0 0]) (by intro x hx;simp at hx;subst hx;simp[ins])];omega
theorem C8(c:Int):∀(n:Nat)(l:List Int),l.length≤n→∀x∈dH c l,x.op≠11
 |0,l,hl,x,hx=>by
  obtain rfl:l=[]:=List.eq_nil_of_length_eq_zero (by omega);simp[dH]at hx
 |n+1,[],_,x,hx=>by simp[dH]at hx
 |n+1,[a],_,x,hx=>by simp[dH]at hx
 |n+1,a::b::r,hl,x,hx=>by
  simp only[dH,List.mem_cons]at hx;rcases hx with rfl|rfl|hx
  ·simp[ins]
  ·simp[ins]
  ·exact C8 c n r (by simp at hl;omega) x hx
section
variable {vs:List Vr} (cS:∀v∈vs,dj v=true)
include cS
theorem T1:∀x:Ex,bk x=true→(aF vs x).e=0→∀y∈(ak vs x).1,y.op≠11
 | .mk op n name field sub line,hf,he=>by
  obtain⟨hlen,eQ⟩:=rz hf;have xe:=u4 hf he;have ih:∀y∈sub,∀z∈(ak vs y).1,z.op≠11:=fun y hy=>T1 y ((gj sub).1 eQ y hy) (xe y hy);unfold aF at he;unfold ak;intro y hy;by_cases jX:op=1∨op=2
  ·rw[if_pos jX]at hy;simp at hy;subst hy;simp[ins]
  ·rw[if_neg jX]at hy he;by_cases pv:op=3∨op=4∨op=5
   ·rw[if_pos pv]at he;cases hv:aZ vs name with
    |none=>rw[hv]at he;simp[ck]at he
    |some v=>
     rw[hv]at he;simp only at he;have gi:=gY hv;have fY:=cS v (qo hv).1;by_cases h5:op=5
     ·subst h5;simp only[if_true]at he;rw[if_neg (by decide),if_pos rfl]at hy;by_cases nJ:v.ty≤2
      ·rw[if_pos nJ]at he;simp[ck]at he
      ·rw[if_neg nJ]at he;cases hp:jS v.ty field with
       |none=>rw[hp]at he;simp[ck]at he
       |some p=>
        obtain⟨q1,q2,_⟩:=rD hv (by omega) hp;have:=Ig q2;simp at hy;subst hy;simp only[ins,q1];omega
     ·rw[if_neg h5]at he;by_cases yM:v.arr≠decide (op=4)∨2<v.ty
      ·rw[if_pos yM]at he;simp[ck]at he
      ·have aeL:¬2<v.ty:=fun h=>yM (.inr h);have htv:v.ty=1∨v.ty=2:=by
        rcases Dw fY with h|h
        ·exact h
        ·omega
       by_cases h3:op=3
       ·rw[if_pos h3]at hy;simp at hy;subst hy;simp only[ins,gi];omega
       ·have h4:op=4:=by omega
        rw[if_neg h3,if_neg h5,if_pos h4]at hy;rcases List.mem_append.1 hy with hy|hy
        ·match sub,ih,hy with
         |[],_,hy=>simp[lz]at hy
         |z::_,ih,hy=>exact ih z (by simp) y hy
        ·simp at hy;subst hy;simp only[ins,gi];omega
   ·rw[if_neg (by omega),if_neg (by omega),if_neg (by omega)]at hy;rcases List.mem_append.1 hy with hy|hy
    ·have key:∀l:List Ex,(∀y∈l,∀z∈(ak vs y).1,z.op≠11)→∀z∈(eY vs l).1,z.op≠11:=by
      intro l;induction l with
      |nil=>intro _ z hz;simp[eY]at hz
      |cons a l ihl=>
       intro hh z hz;cases l with
       |nil=>simp only[eY]at hz;exact hh a (by simp) z hz
       |cons b l=>
        simp only[eY,List.mem_append]at hz;rcases hz with hz|hz
        ·exact hh a (by simp) z hz
        ·exact ihl (fun y hy=>hh y (by simp[hy])) z hz
     exact key sub ih y hy
    ·simp at hy;subst hy;simp[ins]
termination_by x=>SizeOf.sizeOf x
decreasing_by all_goals (simp_wf;have:=List.sizeOf_lt_of_mem hy;omega)
theorem mu{x:Ex}(hf:bk x=true)(he:(aF vs x).e=0):bO (ak vs x).1=0:=vk (T1 cS x hf he)
theorem I9:∀{l:List Ex}{t:Int},bA l=true→(jH vs t l).1=0→bO (eY vs l).1=0
 |[],_,_,_=>by simp[eY,bO]
 |[x],t,hf,h=>by
  simp only[bA,Bool.and_true]at hf;obtain⟨h1,_⟩:=bH.1 h;simp only[eY];exact mu cS hf (gX.1 h1).1
 |x::y::r,t,hf,h=>by
  simp only[bA,Bool.and_eq_true]at hf;obtain⟨h1,h2⟩:=bH.1 h;have:=I9 (l:=y::r) (by simpa [bA]using hf.2) h2;simp only[eY,dt];rw[mu cS hf.1 (gX.1 h1).1];rw[this]
theorem NK{name:Tx}{k line:Int}:∀(fs:List Tx)(xs:List Ex)(p:List Tx),bA xs=true→(gQ vs k line fs xs p).1=0→bO (dw vs name fs xs)=0
 |[],xs,_,_,_=>by cases xs<;>simp[dw,bO]
 |_::_,[],_,_,_=>by simp[dw,bO]
 |f::fs,x::xs,p,hf,h=>by
  simp only[bA,Bool.and_eq_true]at hf;unfold gQ at h;cases hp:jS k f with
  |none=>rw[hp]at h;simp at h
  |some q=>
   rw[hp]at h;simp only at h;split at h
   ·simp at h
   ·split at h
    ·simp at h
    ·obtain⟨h3,h4⟩:=bH.1 h;have ih:=NK (name:=name) fs xs (p++[f]) hf.2 h4;simp only[dw,dt,rp];rw[mu cS hf.1 (gX.1 h3).1,ih];simp[ins]
end
theorem aaA(l:List ar):bO (jn [ins 11 0 0 0 0] l)=1+bO l:=by
 rw[pt];rfl
section
variable {vs:List Vr} (cS:∀v∈vs,dj v=true)
include cS
mutual
theorem afK(loops:Bool):∀(s:Sm)(c:Int),iH s=true→(jk vs loops s).1=0→1+bO (cM vs s c).1=sD s
 | .mk op name to val conds labels fields blocks line,c,hf,h=>by
  simp only[iH,Bool.and_eq_true,decide_eq_true_eq]at hf;obtain⟨cU,eO,cC,cm,ej,bJ,rB,rC,dI⟩:=hf;have vf:(op=1∨op=3∨op=5∨op=6)→bk val=true:=by
   intro h1;rw[if_pos h1]at cm;simp only[Bool.and_eq_true]at cm;exact cm.2
  unfold jk at h;unfold cM;unfold sD;by_cases h1:op=1
  ·subst h1;rw[if_pos rfl]at h;rw[if_pos rfl]at cC;simp only[Bool.and_eq_true,decide_eq_true_eq]at cC;have hs:bG 1 conds.length labels.length fields.length blocks.length=true:=bJ;simp[bG]at hs;obtain⟨rfl,_,_,rfl⟩:=hs;simp only[if_true,gZ];have hq:(aF vs to).e=0∧(aF vs val).e=0:=by
    unfold Ae at h;cases hv:aZ vs (dA to)with
    |none=>rw[hv]at h;simp at h
    |some v=>
     rw[hv]at h;simp only at h;split at h
     ·simp at h
     ·obtain⟨q1,q2⟩:=bH.1 h;exact⟨q1,(bH.1 q2).1⟩
   have e1:=mu cS (vf (.inl rfl)) hq.2;split
   ·rw[dt,e1];simp[bO,ins]
   ·rw[dt,dt,e1];have e2:bO (lz vs (cN to))=0:=by
     obtain⟨o,n,nm,fl,sub,ln⟩:=to;have xe:=u4 cC.2 hq.1;obtain⟨_,eQ⟩:=rz cC.2;simp only[m4];match sub,xe,eQ with
     |[],_,_=>simp[lz,bO]
     |z::r,xe,eQ=>
      simp only[lz];exact mu cS ((gj _).1 eQ z (by simp)) (xe z (by simp))
    rw[e2];simp[bO,ins]
  ·rw[if_neg h1]at h;simp only[if_neg h1];by_cases h2:op=2
   ·subst h2;rw[if_pos rfl]at h;simp only[if_true];have hs:bG 2 conds.length labels.length fields.length blocks.length=true:=bJ;simp[bG]at hs;rw[tJ _ _ (fun t ht=>by
     obtain⟨x,hx,rfl⟩:=List.mem_map.1 ht;exact mu cS ((gj _).1 ej x hx) (gX.1 (qt (by omega) h x hx)).1),zI loops conds blocks c dI h]
    rw[if_neg (by decide)]
   ·rw[if_neg h2]at h;simp only[if_neg h2];by_cases h3:op=3
    ·subst h3;rw[if_pos rfl]at h;simp only[if_true];obtain⟨q1,q2⟩:=bH.1 h;rw[pt,dt,mu cS (vf (.inr (.inl rfl))) (gX.1 q1).1,tJ _ _ (fun t ht=>by
      obtain⟨l,hl,rfl⟩:=List.mem_map.1 ht;exact vk (fun x hx=>by
       rcases List.mem_cons.1 hx with rfl|hx
       ·simp[ins]
       ·exact C8 c l.length l (Nat.le_refl _) x hx)),zI loops [] blocks (c+1) dI q2]
     rw[if_neg (by decide)];simp[bO,ins]
    ·rw[if_neg h3]at h;simp only[if_neg h3];by_cases h4:op=4
     ·subst h4;rw[if_pos rfl]at h;simp only[if_true];have hs:bG 4 conds.length labels.length fields.length blocks.length=true:=bJ;simp[bG]at hs;obtain⟨aO,_,_,fG⟩:=hs;cases hv:aZ vs name with
      |none=>rw[hv]at h;simp at h
      |some v=>
       rw[hv]at h;simp only at h;split at h
       ·simp at h
       ·split at h
        ·simp at h
        ·obtain⟨q1,q2⟩:=bH.1 h;have e:=Ja blocks (c+2) dI q2 fG;rw[pt,dt,I9 cS ej q1,kE,yH,dt,dt,wq,e];simp[bO,ins];omega
     ·rw[if_neg h4]at h;simp only[if_neg h4];by_cases h5:op=5
      ·subst h5;rw[if_pos rfl]at h;simp only[if_true];have hs:bG 5 conds.length labels.length fields.length blocks.length=true:=bJ;simp[bG]at hs;obtain⟨q1,q2⟩:=bH.1 h;have e:=Ja blocks c dI q2 hs.2.2.2;rw[gV,yH,dt,dt,dt,rp,wq,mu cS (vf (.inr (.inr (.inl rfl)))) (gX.1 q1).1,e];simp[bO,ins];omega
      ·rw[if_neg h5]at h;simp only[if_neg h5];by_cases h6:op=6
       ·subst h6;rw[if_pos rfl]at h;simp only[if_true];have hs:bG 6 conds.length labels.length fields.length blocks.length=true:=bJ;simp[bG]at hs;obtain⟨q1,q2⟩:=bH.1 h;have e:=Ja blocks c dI q1 hs.2.2.2;rw[lA,yH,dt,dt,rp,mu cS (vf (.inr (.inr (.inr rfl)))) (gX.1 q2).1,e];simp[bO,ins];omega
       ·rw[if_neg h6]at h;have apu:¬(op=4∨op=5∨op=6):=by omega
        simp only[if_neg h6,if_neg apu];by_cases h7:op=7
        ·subst h7;have hs:bG 7 conds.length labels.length fields.length blocks.length=true:=bJ;simp[bG]at hs;obtain⟨rfl,_,_,rfl⟩:=hs;simp[gZ,bO,ins]
        ·rw[if_neg h7]at h;simp only[if_neg h7];by_cases h8:op=8
         ·subst h8;have hs:bG 8 conds.length labels.length fields.length blocks.length=true:=bJ;simp[bG]at hs;obtain⟨rfl,_,_,rfl⟩:=hs;simp[gZ,bO,ins]
         ·have h9:op=9:=by omega
          subst h9;rw[if_pos rfl]at h;have hs:bG 9 conds.length labels.length fields.length blocks.length=true:=bJ;simp[bG]at hs;obtain⟨_,_,rfl⟩:=hs;cases hv:aZ vs name with
          |none=>rw[hv]at h;simp at h
          |some v=>
           rw[hv]at h;simp only at h;split at h
           ·simp at h
           ·simp only[if_neg h8];rw[dt,NK cS fields conds [] ej h];simp[gZ,bO,ins]
theorem vm(loops:Bool):∀(l:List Sm)(c:Int),eh l=true→(er vs loops l).1=0→bO (ag vs l c).1=iI l
 |[],c,_,_=>by simp[ag,bO,iI]
 |x::r,c,hf,h=>by
  simp only[eh,Bool.and_eq_true]at hf;obtain⟨h1,h2⟩:=bH.1 h;have i1:=afK loops x c hf.1 h1;have i2:=vm loops r (cM vs x c).2 hf.2 h2;simp only[ag,iI];rw[pt,aaA,i2,i1]
theorem zI(loops:Bool):∀(cs:List Ex)(l:List (List Sm))(c:Int),cB l=true→(fu vs loops cs l).1=0→((aw vs l c).1.map bO).sum=gZ l
 |_,[],c,_,_=>by simp[aw,gZ]
 |[],x::r,c,hf,h=>by
  simp only[cB,Bool.and_eq_true]at hf;obtain⟨h1,h2⟩:=bH.1 h;have i1:=vm loops x c hf.1 h1;have i2:=zI loops [] r (ag vs x c).2 hf.2 h2;simp only[aw,gZ,List.map_cons,List.sum_cons,i1,i2]
 |_::cs,x::r,c,hf,h=>by
  simp only[cB,Bool.and_eq_true]at hf;obtain⟨_,h⟩:=bH.1 h;obtain⟨h1,h2⟩:=bH.1 h;have i1:=vm loops x c hf.1 h1;have i2:=zI loops cs r (ag vs x c).2 hf.2 h2;simp only[aw,gZ,List.map_cons,List.sum_cons,i1,i2]
theorem Ja:∀(l:List (List Sm))(c:Int),cB l=true→(sm vs l).1=0→l.length=1→bO (kF vs l c).1=gZ l
 |[b],c,hf,h,_=>by
  simp only[cB,Bool.and_true]at hf;simp only[kF,gZ,Nat.add_zero];exact vm true b c hf h
 |[],_,_,_,hl=>by simp at hl
 |_::_::_,_,_,_,hl=>by simp at hl
end
end
theorem T4{p:Pg}(hf:oo p=true)(hl:iF p.body=true)(hc:(qn p).1=0){l:List ar}{v c:Int}(h:wo p=some (l,v,c)):bO l=iI p.body:=by
 unfold wo at h;simp only at h;split at h
 ·cases h
 ·cases h;simp only[oo,Bool.and_eq_true,List.all_eq_true]at hf;obtain⟨_,_,cS,hb⟩:=hf;obtain⟨_,h2⟩:=bH.1 hc;obtain⟨a1,_,a3⟩:=pw (vs:=p.vars) false p.body hb hl h2;have e:=vm cS false (dr p.body) (b8 p.vars) a1 a3;rw[dt,yG (aes _),e,DP];simp[bO,ins]
end Go.Am
end
section
namespace Go.Am
open Go Go.Proofs
variable [Inhabited bX]
set_option maxRecDepth 20000
@[simp] def iD(l:List Nat):List D:=l.map fun (n:Nat)=>D.int .i64 (n:Int)
section
variable (ins:List ar) (vars cells:Int) (n1 n2:Nat) (S T:List D)
end
@[simp] def av8(ins:List ar)(vars cells:Int):D:=.agg [.list (ins.map dc),.int .i64 vars,.int .i64 cells]
theorem aaB(x y:ar):x=y↔x.op=y.op∧x.a=y.a∧x.b=y.b∧x.n=y.n∧x.m=y.m:=by
 constructor
 ·rintro rfl;simp
 ·intro h;cases x;cases y;simp_all
instance:DecidableEq ar:=fun x y=>decidable_of_iff _ (aaB x y).symm
theorem ai4(e:EL):(dG e).1=0↔e.1=0:=by
 unfold dG;split<;>simp[*]
theorem Wm{p:Pg}(hl:iF p.body=true)(hw:dB (mc p)<10000000):∃b,ai ctx 35 [.d (mc p)] []=some (.ret (.d (.bool b)),[])∧(b=true→IX p):=by
 obtain⟨h1,h2,h3⟩:=A6 (p:=p) (by simp only[mc]at hw;omega);obtain⟨B,rS⟩:=ZP h1 h2;have ki:=aea h1 h2;cases B with
 |false=>
  refine⟨false,?_,by simp⟩;rw[P1 (by simp)];simp[Tryz.f35,rS]
 |true=>
  cases hf:oo p with
  |false=>
   rw[hf]at ki;refine⟨false,?_,by simp⟩;rw[P1 (by simp)];simp[Tryz.f35,rS,ki]
  |true=>
   rw[hf]at ki;have hr:=T0 hf (by omega);unfold du at hr;refine⟨decide ((qn p).1=0),?_,fun h=>⟨hf,hl,by simpa using h,hw⟩⟩;rw[P1 (by simp)];simp[Tryz.f35,rS,ki,hr,ai4]
theorem Wn{p:Pg}{g:List ar×Int×Int}(h:wo p=some g):g.1.length≤4096:=by
 unfold wo at h;simp only at h;split at h
 ·cases h
 ·cases h;simp only[List.length_append,List.length_map,List.length_cons,List.length_nil];omega
def KT(l:List Sm):Prop:=ai ctx 38 [.d (.list (l.map b5))] []=some (.ret (.d (.int .i64 (iI l:Nat))),[])
theorem ai5(x:Sm):sD x=1+(if bu x=4∨bu x=5∨bu x=6 then 1 else 0)+gZ (bj x):=by
 obtain⟨op,name,to,val,conds,labels,fields,blocks,line⟩:=x;simp only[sD,bu,bj];try rfl
theorem NL{l:List Sm}{i:Nat}{x:Sm}(hi:i<l.length)(hx0:l[i]=x)(fG:(bj x).length<100000000)(k:Kt)(R:bS):∀(rest pre:List (List Sm))(n:Nat),bj x=pre++rest→n+gZ rest<4000000000→(∀b∈rest,KT b)→
 (∀Y:Env,k (.exit 2) ⟨60,aC,(0,true,.d (.list (l.map b5)))::(3,true,.d (.int .i64 (n+gZ rest:Nat)))::(4,true,.d (.int .i64 i))::Y,[]⟩=R)→
 aI ctx 38 (.loop (Code.at (aY Tryz.f38) [1,1,0,1,0,0,1,0,0,1,1,1,0,0])) ⟨60,aC,[(0,true,.d (.list (l.map b5))),(3,true,.d (.int .i64 n)),(4,true,.d (.int .i64 i)),(5,true,.d (.int .i64 pre.length))],[]⟩ k=R
 |[],pre,n,hd,hb,hK,hx=>by
  have cf:pre.length=(bj x).length:=by rw[hd];simp
  have hx:=hx [(5,true,.d (.int .i64 pre.length)),(45,true,.d (.bool false))];simp[gZ]at hx;rw[ah];simp[Tryz.f38];simp[hi,hx0,ef x,cf]at hx⊢;simp[hx]
 |b::rest,pre,n,hd,hb,hK,hx=>by
  have aR:pre.length<(bj x).length:=by rw[hd];simp
  have aV:(bj x)[pre.length]=b:=by simp[hd]
  have hk:=hK b (by simp);unfold KT at hk;simp only[gZ]at hb hx;have ih:=NL hi hx0 fG k R rest (pre++[b]) (n+iI b) (by simp[hd]) (by omega) (fun y hy=>hK y (by simp[hy])) (by rw[Nat.add_assoc];exact hx);have w1:IntKind.i64.wrap ((pre.length:Int)+1)=(pre.length:Int)+1:=au (by unfold aX;omega);have w2:IntKind.i64.wrap ((n:Int)+(iI b:Nat))=((n+iI b:Nat):Int):=by rw[show (n:Int)+(iI b:Nat)=((n+iI b:Nat):Int) by omega];exact au (by unfold aX;omega)
  rw[ah];simp[Tryz.f38]at ih hk⊢;simp[hi,hx0,ef x,aR,aV,df,hk,w1,w2]at ih⊢;simp[ih]
theorem NM{l:List Sm}(jY:l.length<100000000)(k:Kt)(R:bS):∀(rest pre:List Sm)(n:Nat),l=pre++rest→n+iI rest<4000000000→(∀x∈rest,(bj x).length<100000000∧∀b∈bj x,KT b)→
 (∀Y:Env,k (.exit 0) ⟨60,aC,(0,true,.d (.list (l.map b5)))::(3,true,.d (.int .i64 (n+iI rest:Nat)))::Y,[]⟩=R)→
 aI ctx 38 (.loop (Code.at (aY Tryz.f38) [1,1,0,1,0,0])) ⟨60,aC,[(0,true,.d (.list (l.map b5))),(3,true,.d (.int .i64 n)),(4,true,.d (.int .i64 pre.length))],[]⟩ k=R
 |[],pre,n,hd,hb,hK,hx=>by
  have cf:pre.length=l.length:=by rw[hd];simp
  have hx:=hx [(4,true,.d (.int .i64 l.length)),(9,true,.d (.bool false))];simp[iI]at hx;rw[cf,ah];simp[Tryz.f38,hx]
 |x::rest,pre,n,hd,hb,hK,hx=>by
  have aR:pre.length<l.length:=by rw[hd];simp
  have aV:l[pre.length]=x:=by simp[hd]
  obtain⟨fG,G7⟩:=hK x (by simp);simp only[iI]at hb hx;have e:=ai5 x;have ih:=NM jY k R rest (pre++[x]) (n+sD x) (by simp[hd]) (by omega) (fun y hy=>hK y (by simp[hy])) (by rw[Nat.add_assoc];exact hx);have w1:IntKind.i64.wrap ((pre.length:Int)+1)=(pre.length:Int)+1:=au (by unfold aX;omega);have w2:IntKind.i64.wrap ((n:Int)+1)=(n:Int)+1:=au (by unfold aX;omega);have w3:IntKind.i64.wrap ((n:Int)+1+1)=(n:Int)+2:=by rw[show (n:Int)+1+1=(n:Int)+2 by omega];exact au (by unfold aX;omega)
  have cD:=fun k R n hb hx=>NL (i:=pre.length) aR aV fG k R (bj x) [] n rfl hb G7 hx;rw[ah];by_cases ho:bu x=4∨bu x=5∨bu x=6
  ·rw[if_pos ho]at e;have cD:=fun k R hx=>cD k R (n+2) (by omega) hx;simp[Tryz.f38]at ih cD⊢;have key:∀Y:Env,True:=fun _=>trivial;rcases ho with h4|h4|h4<;>
   ·simp[aR,aV,ef x,h4,w1,w2,w3,aq];refine cD _ _ (fun Y=>?_);rw[show ((n:Int)+2+(gZ (bj x):Int))=((n:Int)+(sD x:Int)) by omega];simp[w1,ih]
  ·rw[if_neg ho]at e;simp only[not_or]at ho;obtain⟨h4,h5,h6⟩:=ho;have cD:=fun k R hx=>cD k R (n+1) (by omega) hx;simp[Tryz.f38]at ih cD⊢;simp[aR,aV,ef x,h4,h5,h6,w1,w2,aq];refine cD _ _ (fun Y=>?_);rw[show ((n:Int)+1+(gZ (bj x):Int))=((n:Int)+(sD x:Int)) by omega];simp[w1,ih]
theorem Jb{l:List Sm}(jY:l.length<100000000)(hb:iI l<4000000000)(hK:∀x∈l,(bj x).length<100000000∧∀b∈bj x,KT b):KT l:=by
 have cJ:=fun k R hx=>NM jY k R l [] 0 rfl (by omega) hK hx;unfold KT;rw[ahX (by simp)];simp[Tryz.f38]at cJ⊢;exact cJ _ _ (fun Y=>by simp)
mutual
theorem apv:∀x:Sm,uV x→sD x<4000000000→(bj x).length<100000000∧∀b∈bj x,KT b
 | .mk op name to val conds labels fields blocks line,hn,ht=>by
  simp only[uV]at hn;simp only[sD]at ht;exact⟨hn.1.2.2.2.2.2,Zu blocks hn.2 (by omega)⟩
theorem Qu:∀l:List Sm,kD l→iI l<4000000000→∀x∈l,(bj x).length<100000000∧∀b∈bj x,KT b
 |[],_,_,x,hx=>absurd hx (List.not_mem_nil)
 |y::r,hn,ht,x,hx=>by
  simp only[kD]at hn;simp only[iI]at ht;rcases List.mem_cons.1 hx with h0|hx
  ·rw[h0];exact apv y hn.1 (by omega)
  ·exact Qu r hn.2 (by omega) x hx
theorem Zu:∀l:List (List Sm),lX l→gZ l<4000000000→∀b∈l,KT b
 |[],_,_,b,hb=>absurd hb (List.not_mem_nil)
 |y::r,hn,ht,b,hb=>by
  simp only[lX]at hn;simp only[gZ]at ht;rcases List.mem_cons.1 hb with h0|hb
  ·rw[h0];exact Jb hn.1.1 (by omega) (Qu y hn.1.2 (by omega))
  ·exact Zu r hn.2 (by omega) b hb
end
mutual
theorem ai6:∀x:Sm,sD x≤dB (b5 x)
 | .mk op name to val conds labels fields blocks line=>by
  have:=T6 blocks;simp only[sD,b5,dB,bE,np];split<;>omega
theorem Jc:∀l:List Sm,iI l≤bE (kB l)
 |[]=>by simp[iI]
 |x::r=>by
  have h1:=ai6 x;have h2:=Jc r;simp only[iI,kB,bE];omega
theorem T6:∀l:List (List Sm),gZ l≤bE (kA l)
 |[]=>by simp[gZ]
 |b::r=>by
  have h1:=Jc b;have h2:=T6 r;simp only[gZ,kA,bE,dB];omega
end
theorem NN(l:List ar)(hl:l.length≤5000)(cs:List AV)(v c:Int)(k:Kt)(R:bS)
 (hx:∀Y:Env,k (.exit 0) ⟨40,aC,(1,true,.ptr 150 1 0)::(3,true,.ptr 250 1 0)::(5,true,.d (.int .i64 (bO l)))::Y,[⟨150,1,.box cs⟩,⟨250,1,.box [.d (.list (l.map dc)),.d (.int .i64 v),.d (.int .i64 c)]⟩]⟩=R):∀(rest pre:List ar),l=pre++rest→
 aI ctx 10 (.loop (Code.at (aY Tryz.f10) [1,1,1,1,1,1,0,1,0,0])) ⟨40,aC,[(1,true,.ptr 150 1 0),(3,true,.ptr 250 1 0),(5,true,.d (.int .i64 (bO pre))),(6,true,.d (.int .i64 pre.length))],[⟨150,1,.box cs⟩,⟨250,1,.box [.d (.list (l.map dc)),.d (.int .i64 v),.d (.int .i64 c)]⟩]⟩ k=R
 |[],pre,hd=>by
  have hd:l=pre:=by simpa using hd
  subst hd;have hx:=hx [(6,true,.d (.int .i64 l.length)),(23,true,.d (.bool false))];try simp at hx
  rw[ah];simp[Tryz.f10,hx]
 |x::rest,pre,hd=>by
  have aR:pre.length<l.length:=by rw[hd];simp
  have aV:l[pre.length]=x:=by simp[hd]
  have ih:=NN l hl cs v c k R hx rest (pre++[x]) (by simp[hd]);have hle:bO pre≤pre.length:=List.countP_le_length;have w1:IntKind.i64.wrap ((pre.length:Int)+1)=(pre.length:Int)+1:=au (by unfold aX;omega);have w2:IntKind.i64.wrap ((bO pre:Int)+1)=(bO pre:Int)+1:=au (by unfold aX;omega);rw[dt,rp]at ih;have e0:bO []=0:=rfl;rw[e0]at ih;rw[ah];by_cases h:x.op=11
  ·rw[if_pos h]at ih;simp[Tryz.f10]at ih⊢;simp[aR,aV,h,w1,w2,aq,ih]
  ·rw[if_neg h]at ih;simp[Tryz.f10]at ih⊢;simp[aR,aV,h,w1,aq,ih]
theorem Fp{p:Pg}(hl:iF p.body=true)(hw:dB (mc p)<10000000)(haw:ai ctx 34 [] []=some (.ret (.d (.bool true)),[])):ai ctx 10 [.d (mc p)] []=some (.ret (.d (.bool true)),[]):=by
 obtain⟨b,hb,cV⟩:=Wm hl hw;obtain⟨h1,h2,h3⟩:=A6 (p:=p) (by simp only[mc]at hw;omega);have htw:=Jc p.body;have JW:KT p.body:=Jb h1 (by
  simp only[mc,dB,bE]at hw;rw[←pn]at hw;omega) (Qu p.body h2 (by
  simp only[mc,dB,bE]at hw;rw[←pn]at hw;omega))
 unfold KT at JW;rw[ahQ (by simp)];try simp at hb
 cases b with
 |false=>simp[Tryz.f10,haw,hb]
 |true=>
  have h:=cV rfl;have hc:=IY h;cases hg:wo p with
  |none=>
   rw[hg]at hc;simp[Zs,Zt]at hc;simp[Tryz.f10,haw,hb,hc]
  |some g=>
   have hlen:=Wn hg;have ht:=T4 h.fit h.lit h.TV hg;rw[hg]at hc;simp[Zs,Zt]at hc;have cJ:=fun cs k R hx=>NN g.1 (by omega) cs g.2.1 g.2.2 k R hx g.1 [] rfl;have e0:bO []=0:=rfl;simp[Tryz.f10,e0]at cJ;try simp at JW
   simp[Tryz.f10,haw,hb,hc];refine cJ _ _ _ (fun Y=>?_);simp[JW,ht]
end Go.Am
end
section
namespace Go.Am
open Go
set_option maxRecDepth 20000
def apw:Nat→Nat
 |99=>228
 |143=>230
 |206=>274
 |217=>275
 |219=>276
 |224=>306
 |225=>305
 |266=>304
 |267=>307
 |314=>328
 |_=>0
def apx:Nat→Nat
 |3=>3
 |4=>4
 |5=>5
 |9=>9
 |46=>158
 |51=>308
 |146=>358
 |_=>0
def apy:Nat→Nat
 |1=>2
 |_=>0
def rho:Go.Shelf.Ren:=⟨apw,apx,apy⟩
theorem aaC:Go.Proofs.Lays.n143 Go.Proofs.Tryz.prog rho where
 mixed:=by kernel_rfl
 f143:=by kernel_rfl
 f217:=by kernel_rfl
 f219:=by kernel_rfl
 f224:=by kernel_rfl
 f225:=by kernel_rfl
 f266:=by kernel_rfl
 f267:=by kernel_rfl
 f314:=by kernel_rfl
 t3:=by kernel_rfl
 a3:=by intro w;kernel_rfl
 z3:=by intro w;kernel_rfl
 v3:=by intro w;kernel_rfl
 t4:=by kernel_rfl
 a4:=by intro w;kernel_rfl
 z4:=by intro w;kernel_rfl
 v4:=by intro w;kernel_rfl
 t5:=by kernel_rfl
 a5:=by intro w;kernel_rfl
 z5:=by intro w;kernel_rfl
 v5:=by intro w;kernel_rfl
 t9:=by kernel_rfl
 a9:=by intro w;kernel_rfl
 z9:=by intro w;kernel_rfl
 v9:=by intro w;kernel_rfl
 t46:=by kernel_rfl
 a46:=by intro w;kernel_rfl
 z46:=by intro w;kernel_rfl
 v46:=by intro w;kernel_rfl
 t51:=by kernel_rfl
 a51:=by intro w;kernel_rfl
 z51:=by intro w;kernel_rfl
 v51:=by intro w;kernel_rfl
 t146:=by kernel_rfl
 a146:=by intro w;kernel_rfl
 z146:=by intro w;kernel_rfl
 v146:=by intro w;kernel_rfl
 g1:=by kernel_rfl
theorem aaD:Go.Proofs.Lays.n217 Go.Proofs.Tryz.prog rho where
 mixed:=by kernel_rfl
 f217:=by kernel_rfl
 f266:=by kernel_rfl
 t3:=by kernel_rfl
 a3:=by intro w;kernel_rfl
 z3:=by intro w;kernel_rfl
 v3:=by intro w;kernel_rfl
 t5:=by kernel_rfl
 a5:=by intro w;kernel_rfl
 z5:=by intro w;kernel_rfl
 v5:=by intro w;kernel_rfl
 t9:=by kernel_rfl
 a9:=by intro w;kernel_rfl
 z9:=by intro w;kernel_rfl
 v9:=by intro w;kernel_rfl
theorem afO:Go.Proofs.Lays.n99 Go.Proofs.Tryz.prog rho where
 mixed:=by kernel_rfl
 f99:=by kernel_rfl
 f206:=by kernel_rfl
 t3:=by kernel_rfl
 a3:=by intro w;kernel_rfl
 z3:=by intro w;kernel_rfl
 v3:=by intro w;kernel_rfl
 t4:=by kernel_rfl
 a4:=by intro w;kernel_rfl
 z4:=by intro w;kernel_rfl
 v4:=by intro w;kernel_rfl
 t9:=by kernel_rfl
 a9:=by intro w;kernel_rfl
 z9:=by intro w;kernel_rfl
 v9:=by intro w;kernel_rfl
end Go.Am
end
section
namespace Go.Am
open Go Go.Proofs
variable [Inhabited bX]
set_option maxRecDepth 20000
theorem uo{P:Program}{g:FuncId}{fn:Func}(hf:P.funcs[g]?=some fn)(hb:fn.body.isSome=true)(hn:(fn.name == "runtime.NumGoroutine")=false):gE P g=true:=by
 unfold gE;rw[hf];simp only[hb,hn];rfl
theorem vo{w F s v}(h:aK w F (.str s) v):∃b:ByteArray,v=.string b∧b.data.toList=s:=by
 cases h with
 |str b s h=>exact⟨b,rfl,h⟩
theorem NO{w F k n v}(h:aK w F (.int k n) v):v=.int k n:=by cases h;rfl
theorem Bs{ds:List D}{a b:D}{w F}{vs:Array Value}(hd:ds=[a,b])(hl:ds.length=vs.size)(hr:∀(i:Nat) x v,ds[i]?=some x→vs[i]?=some v→aK w F x v):
 ∃x y,vs=#[x,y]∧aK w F a x∧aK w F b y:=by
 subst hd;obtain⟨l⟩:=vs;match l,hl with
 |[x,y],_=>exact⟨x,y,rfl,hr 0 a x rfl rfl,hr 1 b y rfl rfl⟩
theorem aaE{w:World}{F}(hg:eK w F aC):∃m,w.cell? ⟨2,0,none⟩=some (.int .i64 m):=by
 obtain⟨_,_,x',h1,h2⟩:=hg (2,.int .i64 (id (α:=Int) (default:bX))) (by simp[aC]);generalize id (α:=Int) (default:bX)=z at h1;obtain rfl:=NO h1;exact⟨z,h2 0 _ (by simp[Value.cells])⟩
theorem ai7:pS ctx 228 (liftO hpO):=by
 refine pS.lift ⟨uo Tryz.func228 (by kernel_rfl) (by kernel_rfl),fun ds d hd F w vs hg mw hl hr=>?_⟩;unfold hpO at hd;split at hd
 ·rename_i s p;obtain⟨x,y,rfl,h1,h2⟩:=Bs rfl hl hr;obtain⟨a,rfl,rfl⟩:=vo h1;obtain⟨b,rfl,rfl⟩:=vo h2;refine (Any.strings_HasPrefix afO a b w).mono ?_;rintro e w' ⟨rfl,rfl⟩;cases hd;exact⟨_,rfl,Go.RowKit.Below.refl _ _,.bool _⟩
 ·cases hd
theorem ai8:pS ctx 275 (liftO ibO):=by
 refine pS.lift ⟨uo Tryz.func275 (by kernel_rfl) (by kernel_rfl),fun ds d hd F w vs hg mw hl hr=>?_⟩;unfold ibO at hd;split at hd
 ·rename_i s p;obtain⟨x,y,rfl,h1,h2⟩:=Bs rfl hl hr;obtain⟨a,rfl,rfl⟩:=vo h1;obtain rfl:=NO h2;refine (Any.stringslite_IndexByte aaD a _ w).mono ?_;rintro e w' ⟨rfl,rfl⟩;cases hd;exact⟨_,rfl,Go.RowKit.Below.refl _ _,.int _ _⟩
 ·cases hd
theorem afP:pS ctx 230 (liftO idxO):=by
 refine pS.lift ⟨uo Tryz.func230 (by kernel_rfl) (by kernel_rfl),fun ds d hd F w vs hg mw hl hr=>?_⟩;unfold idxO at hd;split at hd
 ·rename_i s p;split at hd
  ·rename_i hs;obtain⟨x,y,rfl,h1,h2⟩:=Bs rfl hl hr;obtain⟨a,rfl,rfl⟩:=vo h1;obtain⟨b,rfl,rfl⟩:=vo h2;obtain⟨m,hm⟩:=aaE hg;refine (Any.strings_Index aaC a b m w (by simpa using hs) hm).mono ?_;rintro e w' ⟨rfl,rfl⟩;cases hd;exact⟨_,rfl,Go.RowKit.Below.refl _ _,.int _ _⟩
  ·cases hd
 ·cases hd
theorem aaF:∀g h,ctx.wU g=some h→pS ctx g h:=by
 intro g h hg;have rV:Vx g=some h:=hg;unfold Vx at rV;split at rV;all_goals first|(cases rV;first|exact ai7|exact ai8|exact afP)|cases rV
end Go.Am
end
section
namespace Go.Am
open Go
theorem Jd{P:Program}{w:World}{n:String}{d:DataW Unit}:∀{l:List (String×DataW Unit)}{ps:List MemPlace},DataW.LaidVars P w l ps→(n,d)∈l→
 ∃g t cs fuel p,P.globalNamed n=some g∧(P.globals[g]?).map (·.type)=some t∧w.var? P n=some cs∧DataW.trod (fun _=>()) P w 0 (fun _=>true) false fuel t cs.toList=some (d,p)
 |[],_,_,hm=>by simp at hm
 |(n',d')::r,ps,⟨g,t,cs,fuel,p,q,h1,h2,h3,h4,h5,_⟩,hm=>by
  rcases List.mem_cons.1 hm with hm|hm
  ·cases hm;exact⟨g,t,cs,fuel,p,h1,h2,h3,h4⟩
  ·exact Jd h5 hm
theorem T7{H:Type}{enc:TypeId×Value→H}{P:Program}{w:World}{base:Nat}{sp:Nat→Bool}{held:Bool}{fuel:Nat}{t e:TypeId}{n:Nat}{k:IntKind}{cs:List Value}{ds:List (DataW H)}{p:List MemPlace}
 (ha:P.underlying t=some (.array n e)) (he:P.underlying e=some (.int k)) (hc:P.cellsOf e=1) (h:DataW.trod enc P w base sp held fuel t cs=some (.agg ds,p)):
 cs.length=P.cellsOf t∧ds.length=n∧∀i,i<n→∃z,cs[i]?=some (.int k z)∧ds[i]?=some (.lit (.int k z)):=by
 cases fuel with
 |zero=>simp[DataW.trod]at h
 |succ m=>
  unfold DataW.trod at h;rw[ha]at h;simp only at h;split at h
  ·rename_i hl;simp only[Option.map_eq_some_iff,Prod.mk.injEq,DataW.agg.injEq]at h;obtain⟨xs,hx,rfl,_⟩:=h;have h1:xs.length=n:=by simpa using mapM_some_length hx
   refine⟨hl,by simpa using h1,fun i hi=>?_⟩;have h2:=mapM_some_get hx i i (by simp[hi]);have h3:i<xs.length:=by omega
   have h4:xs[i]?=some xs[i]:=by simp[h3]
   rw[h4,hc]at h2;obtain⟨z,h5,h6,_⟩:=DataW.trod_int he h2;refine⟨z,?_,by simp[h4,h6]⟩;have h7:=congrArg (·[0]?) h5;simpa [List.getElem?_take,List.getElem?_drop]using h7
  ·cases h
theorem Je{P:Program}{W:World}{l:List (String×DataW Unit)}{name:String}{g:Nat}{t e:TypeId}{n:Nat}{k:IntKind}{zs:List Int}
 (hl:laidMet P l W) (hm:(name,DataW.agg (zs.map fun z=>.lit (.int k z)))∈l) (hg:P.globalNamed name=some g) (ht:(P.globals[g]?).map (·.type)=some t)
 (ha:P.underlying t=some (.array n e)) (he:P.underlying e=some (.int k)) (hc:P.cellsOf e=1) (hn:0<n) (hct:P.cellsOf t=n):
 (g<W.heap.size∧∀cs,D.agg (zs.map fun z=>.int k z)=.agg cs→∃cur e fz,W.heap[g]?=some (.cells cur e fz)∧cur.size=cs.length)∧∃x',aK W (fun _=>False) (.agg (zs.map fun z=>.int k z)) x'∧∀(i:Nat)(c:Value),x'.cells[i]?=some c→W.cell? ⟨g,i,none⟩=some c:=by
 obtain⟨ps,hv,_⟩:=hl;obtain⟨g',t',cs,fuel,p,h1,h2,h3,h4⟩:=Jd hv hm;obtain rfl:=Option.some.inj (hg.symm.trans h1);obtain rfl:=Option.some.inj (ht.symm.trans h2);obtain⟨Y2,h5,h6⟩:=T7 ha he hc h4;rw[hct]at Y2;simp at h5;have h7:∀i z,zs[i]?=some z→W.cell? ⟨g,i,none⟩=some (.int k z):=by
  intro i z hz;have hi:i<n:=by
   have:=(List.getElem?_eq_some_iff.1 hz).1;omega
  obtain⟨z',h8,h9⟩:=h6 i hi;simp[hz]at h9;subst h9;rw[World.var?_cell hg h3 i];simpa using h8
 refine⟨⟨?_,?_⟩,.agg (zs.map fun z=>Value.int k z).toArray,?_,?_⟩
 ·have hz:∃z,zs[0]?=some z:=⟨zs[0]'(by omega),by simp[show 0<zs.length by omega]⟩
  obtain⟨z,hz⟩:=hz;exact (A4 (h7 0 z hz)).1
 ·rintro lB apz;obtain rfl:=D.agg.inj apz;unfold World.var? at h3;rw[hg]at h3;simp only[Option.bind_some]at h3;split at h3
  ·rename_i cur e' fz hh;cases h3;exact⟨_,_,_,hh,by simp at h5 Y2⊢;omega⟩
  ·cases h3
 ·refine aK.nu (by simp) (fun v hv=>?_) (fun i c v dQ hv=>?_)
  ·simp at hv;obtain⟨z,_,rfl⟩:=hv;rfl
  ·simp only[List.getElem?_map,Option.map_eq_some_iff]at dQ hv;obtain⟨z,hz,rfl⟩:=dQ;obtain⟨z',sR,rfl⟩:=hv;rw[hz]at sR;cases sR;exact .int k z
 ·intro i c hi;simp[Value.cells]at hi;obtain⟨z,hz,rfl⟩:=hi;exact h7 i z hz
end Go.Am
end
section
namespace Go.Am
open Go
variable {H:Type} {enc:TypeId×Value→H}
theorem Qv{a:Assume}{C:Checked}{os:Os}{f:FuncId}{fn:Func}{s:OpenSpec}{k:(H:Type)→List (DataW H)→Bool}(hk:s.cond=some k){conds:List PathCond}{apart fresh handsOn again:Bool}{X:World→Array Value→Prop}{F:Stop.Interp}
 (hX:∀(w w':World)(args:Array Value),w.heap=w'.heap→X w args→X w' args)
 (own:ownKnob C.prog.godebug=none) (started:os.Started) (afQ:C.prog.inits.idxOf? f=none) (QX:C.prog.funcs[f]?=some fn)
 (witness:∃(w:World)(tape:Tape)(i:Input),w.os=os∧(w.forCall tape i).Shaped C.prog∧i.vars=[]∧Input.okWide C.prog (w.forCall tape i) .any w.heap.size f i∧
  ((s.pre enc C.prog fn conds apart (w.forCall tape i).memory i.args∧X (w.forCall tape i).memory i.args)∧sizedMet enc C.prog fn s apart (w.forCall tape i).memory i.args)∧a.holds C.prog (lone (Frame.enter C.prog f i.args .normal) [] (w.forCall tape i)))
 (Wo:∀(W:World)(base:Nat)(args:Array Value)(ds gs:List (DataW H))(before:List MemPlace),
  (∀(j:Nat) t v,fn.params[j]?=some t→args[j]?=some v→Value.okWide C.prog W .any base t v)→
  DataW.Whole enc C.prog fn.params.toList s.vars apart W args.toList ds gs before→k H (ds++gs)=true→X W args→W.ShapedOpen C.prog→
  Calls C.prog f args W fun e W'=>∃v,e=.returned v∧(s.at F).post enc C.prog fn apart fresh handsOn again W args v W'):
 ReturnsInHanded a C os f .any (fun w args=>(s.pre enc C.prog fn conds apart w args∧X w args)∧sizedMet enc C.prog fn s apart w args) ((s.at F).post enc C.prog fn apart fresh handsOn again):=by
 refine returnsInHanded_of_calls own started afQ witness ?_;intro w tape i _ rS _ cV jL _;obtain⟨_,_,_,fn',apA,_,_,_,_,cm⟩:=cV;have e:fn'=fn:=Option.some.inj (apA.symm.trans QX);subst e;obtain⟨⟨hp,hx⟩,hz⟩:=jL;obtain⟨ds,gs,before,hw,hc,nE⟩:=(OpenSpec.pre_some hk conds apart _ _).1 hp;have qI:=DataW.Whole.of_heap (w':=w.forCall tape i) (by rfl) hw;refine (Wo (w.forCall tape i) w.heap.size i.args ds gs before cm qI nE (hX _ _ _ (by rfl) hx) rS).mono fun e W' ⟨v,he,hp⟩=>?_;subst he;exact ChangeSpec.post_blind hp
theorem C9{C:Checked}{os:Os}{f:FuncId}{fn:Func}{s:OpenSpec}{k:(H:Type)→List (DataW H)→Bool}(hk:s.cond=some k){conds:List PathCond}{apart:Bool}{X:World→Array Value→Prop}(modest:Bool)(w0:World)(args:Array Value)(fuel:Nat)(pV:w0.os=os)
 (rS:(w0.forCall (fun _ _=>0) ⟨#[],args,[]⟩).Shaped C.prog)
 (cV:Input.okWideB C.prog (w0.forCall (fun _ _=>0) ⟨#[],args,[]⟩) f ⟨#[],args,[]⟩=true)
 {x:List (DataW H)×List (DataW H)×List MemPlace} (hx:DataW.whole enc C.prog (w0.forCall (fun _ _=>0) ⟨#[],args,[]⟩).memory fn.params.toList s.vars apart args.toList fuel=some x)
 (ej:conds.all (PathCond.test C.prog ⟨fn.params.toList,x.1,s.bare.plain.varTypes C.prog,x.2.1⟩)=true) (nE:k H (x.1++x.2.1)=true)
 (bV:s.bare.sizedB enc C.prog fn apart (w0.forCall (fun _ _=>0) ⟨#[],args,[]⟩).memory args fuel=true)
 (hX:X (w0.forCall (fun _ _=>0) ⟨#[],args,[]⟩).memory args):
 ∃(w:World)(tape:Tape)(i:Input),w.os=os∧(w.forCall tape i).Shaped C.prog∧i.vars=[]∧Input.okWide C.prog (w.forCall tape i) .any w.heap.size f i∧
  ((s.pre enc C.prog fn conds apart (w.forCall tape i).memory i.args∧X (w.forCall tape i).memory i.args)∧sizedMet enc C.prog fn s apart (w.forCall tape i).memory i.args)∧({modest:=modest}:Assume).holds C.prog (lone (Frame.enter C.prog f i.args .normal) [] (w.forCall tape i)):=
 ⟨w0,fun _ _=>0,⟨#[],args,[]⟩,pV,rS,(Input.okWide_of_okWideB (base:=0) cV).1,(Input.okWide_of_okWideB cV).2,
  ⟨⟨(OpenSpec.pre_some hk conds apart _ _).2 ⟨x.1,x.2.1,x.2.2,DataW.Whole_of_whole hx,ej,nE⟩,hX⟩,sizedMet_of_sizedB bV⟩,by
  simp only[Assume.holds];exact⟨by simp,by simp,fun _=>Modest.zero,by simp,by simp⟩⟩
def T8{H:Type}(enc:TypeId×Value→H)(P:Program)(s:OpenSpec)(k:(H:Type)→List (DataW H)→Bool)(conds:List PathCond)(apart:Bool)(w:World)(ts:List TypeId)(args:List Value)(fuel:Nat):Bool:=
 match DataW.whole enc P w ts s.vars apart args fuel with
 |some x=>conds.all (PathCond.test P ⟨ts,x.1,s.bare.plain.varTypes P,x.2.1⟩)&&k H (x.1++x.2.1)
 |none=>false
theorem Da{C:Checked}{os:Os}{f:FuncId}{fn:Func}{s:OpenSpec}{k:(H:Type)→List (DataW H)→Bool}(hk:s.cond=some k){conds:List PathCond}{apart:Bool}{X:World→Array Value→Prop}(modest:Bool)(w0:World)(args:Array Value)(fuel:Nat)(pV:w0.os=os)
 (rS:(w0.forCall (fun _ _=>0) ⟨#[],args,[]⟩).Shaped C.prog)
 (cV:Input.okWideB C.prog (w0.forCall (fun _ _=>0) ⟨#[],args,[]⟩) f ⟨#[],args,[]⟩=true)
 (hx:T8 enc C.prog s k conds apart (w0.forCall (fun _ _=>0) ⟨#[],args,[]⟩).memory fn.params.toList args.toList fuel=true)
 (bV:s.bare.sizedB enc C.prog fn apart (w0.forCall (fun _ _=>0) ⟨#[],args,[]⟩).memory args fuel=true)
 (hX:X (w0.forCall (fun _ _=>0) ⟨#[],args,[]⟩).memory args):
 ∃(w:World)(tape:Tape)(i:Input),w.os=os∧(w.forCall tape i).Shaped C.prog∧i.vars=[]∧Input.okWide C.prog (w.forCall tape i) .any w.heap.size f i∧
  ((s.pre enc C.prog fn conds apart (w.forCall tape i).memory i.args∧X (w.forCall tape i).memory i.args)∧sizedMet enc C.prog fn s apart (w.forCall tape i).memory i.args)∧({modest:=modest}:Assume).holds C.prog (lone (Frame.enter C.prog f i.args .normal) [] (w.forCall tape i)):=by
 unfold T8 at hx;split at hx
 ·rename_i x hw;simp only[Bool.and_eq_true]at hx;exact C9 hk modest w0 args fuel pV rS cV hw hx.1 hx.2 bV hX
 ·cases hx
end Go.Am
end
