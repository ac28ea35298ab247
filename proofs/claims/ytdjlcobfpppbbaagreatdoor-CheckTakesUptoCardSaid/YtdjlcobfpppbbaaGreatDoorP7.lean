/-
  Texts of one proof, one behind the other.
-/
import Derived.Test.YtdjlcobfpppbbaaGreatDoorP6
import Derived.Test.YtdjlcobfpppbbaaGreatDoorProg
import Derived.Shelf.Lays
import Derived.KernelRfl
import Derived.Shelf.Strings.Search3
import Derived.Shelf.Strings.Prefix
import Derived.LaidLaws
import Derived.JoinedCond
set_option linter.all false
section
namespace Go.Am
open Go Go.Proofs
variable [Inhabited b6]
set_option maxRecDepth 20000
def QV (p:Pg) (lp:Bool) (x:Sm):Prop:=∀(m:Mk),0≤m.most→0≤m.cells→iw m→(lp=true→m.ex≠[])→m.out.length+(qt p.vars x m.cells).length<99999990→(cV p.vars x m.cells).2<99999990→m.ex.length+uy x<99999990→
 fR p (m.aL (qt p.vars x m.cells) (cV p.vars x m.cells).2 (gq x)) 0 (.ret (.aU [])) (ai ctx 91 [.ptr 0 0 0,.d (cC x)] (fQ p m 0))
theorem KK (vs:List Vr):∀(l:List Sm) (c:Int),l.length≤(ag vs l c).1.length
 |[],c=>by simp
 |x::r,c=>by
  have:=KK vs r (cV vs x c).2;unfold ag;simp only[dL,List.length_cons,List.length_nil];omega
theorem B3 {p:Pg} {lp:Bool} (l:List Sm) (jI:l.length<99999999) (k:Kt) (Q:Mk→bU→Prop)
 (hx:∀(Y:Env) M v1 v2 v3 v6 X6,Q M (k (.exit 0) ⟨16,aB,(0,true,.ptr 0 0 0)::Y,VI p M 0 v1 v2 v3++[⟨350,v6,X6⟩]⟩)):
 ∀(lr pre:List Sm) (m:Mk) (v1 v2 v3 v6:Nat) (X6:aD),l=pre++lr→(∀x∈lr,QV p lp x)→0≤m.most→0≤m.cells→iw m→(lp=true→m.ex≠[])→m.out.length+(ag p.vars lr m.cells).1.length<99999990→(ag p.vars lr m.cells).2<99999990→m.ex.length+ix lr<99999990→
 Q (m.aL (ag p.vars lr m.cells).1 (ag p.vars lr m.cells).2 (aY lr)) (aG ctx 51 (.loop (Code.at (bh Tryz.f51) [1,0,0])) ⟨16,aB,[(0,true,.ptr 0 0 0),(6,true,.d (.list (l.map cC))),(7,true,.d (.int .i64 l.length)),(8,true,.d (.int .i64 pre.length))],VI p m 0 v1 v2 v3++[⟨350,v6,X6⟩]⟩ k)
 |[],pre,m,v1,v2,v3,v6,X6,h1,hK,hm,hc,hI,hex,ho,aP,fG=>by
  have e:m.aL (ag p.vars [] m.cells).1 (ag p.vars [] m.cells).2 (aY [])=m:=TD m hm;rw[e];have cw:pre.length=l.length:=by rw[h1];simp
  have:=hx [(6,true,.d (.list (l.map cC))),(7,true,.d (.int .i64 l.length)),(8,true,.d (.int .i64 l.length)),(9,true,.d (.bool false))] m v1 v2 v3 v6 X6;simp at this;rw[cw,ah];simp[Tryz.f51,this]
 |x::r,pre,m,v1,v2,v3,v6,X6,h1,hK,hm,hc,hI,hex,ho,aP,fG=>by
  have eg:ag p.vars (x::r) m.cells=(jn (qt p.vars x m.cells) (ag p.vars r (cV p.vars x m.cells).2).1,(ag p.vars r (cV p.vars x m.cells).2).2):=rfl;have ed:ix (x::r)=max (uy x) (ix r):=by simp[ix]
  have et:aY (x::r)=max (gq x) (aY r):=by simp[aY]
  have c1:=xR (vs:=p.vars) x m.cells;have c2:=gI (vs:=p.vars) r (cV p.vars x m.cells).2;rw[eg]at ho aP⊢;rw[ed]at fG;rw[et];simp only[dL]at ho;simp only at aP;obtain⟨a1,a2,a3,hk⟩:=hK x (by simp) m hm hc hI hex (by omega) (by omega) (by omega);have l1:(m.aL (qt p.vars x m.cells) (cV p.vars x m.cells).2 (gq x)).out.length=m.out.length+(qt p.vars x m.cells).length:=by
   show (m.out++cH _ _).length=_;rw[List.length_append,mm]
  have l2:(m.aL (qt p.vars x m.cells) (cV p.vars x m.cells).2 (gq x)).ex.length=m.ex.length:=by
   show (gK _ _).length=_;rw[QM]
  have ih:=fun v1 v2 v3 v6 X6=>B3 l jI k Q hx r (pre++[x]) (m.aL (qt p.vars x m.cells) (cV p.vars x m.cells).2 (gq x)) v1 v2 v3 v6 X6 (by simp[h1]) (fun y hy=>hK y (by simp[hy])) (by show 0≤max m.most _;omega) (by show 0≤(cV p.vars x m.cells).2;omega) (hI.aL _ _ _)
   (fun h=>by
    have:=hex h;intro h0;rw[h0]at l2;exact this (List.eq_nil_of_length_eq_zero l2.symm))
   (by rw[l1];show _+(ag p.vars r (cV p.vars x m.cells).2).1.length<_;omega) (by show (ag p.vars r (cV p.vars x m.cells).2).2<_;omega) (by rw[l2];omega)
  rw[show (m.aL (qt p.vars x m.cells) (cV p.vars x m.cells).2 (gq x)).cells=(cV p.vars x m.cells).2 from rfl,yC]at ih;clear hx hK;generalize m.aL (qt p.vars x m.cells) (cV p.vars x m.cells).2 (gq x)=M at*;have aV:pre.length<l.length:=by rw[h1];simp
  have aS:l[pre.length]=x:=by simp[h1]
  have w1:IntKind.i64.wrap ((pre.length:Int)+1)=(pre.length:Int)+1:=ay (by unfold aZ;omega);rw[ah];simp[eK]at hk;simp[Tryz.f51]at ih⊢;simp[aV,aS,eK,hk,aI,w1,ih]
theorem Aw {p:Pg} {lp:Bool} (l:List Sm) (hK:∀x∈l,QV p lp x):rW p lp l:=by
 intro m hm hc hI hex ho aP fG;have jI:=KK p.vars l m.cells;have dc:=fun (k:Kt) (Q:Mk→bU→Prop) hx v6 X6=>B3 l (by omega) k Q hx l [] m 0 0 0 v6 X6 rfl hK hm hc hI hex ho aP fG;rw[aeR (by simp)];generalize m.aL (ag p.vars l m.cells).1 (ag p.vars l m.cells).2 (aY l)=N at*;simp[Tryz.f51]at dc⊢;refine dc _ (fun X r=>X=N→fR p N 0 (.ret (.aU [])) r) (fun Y X v1 v2 v3 v6 X6 hX=>?_) _ _ rfl;subst hX;simp[Tryz.f51];exact⟨_,_,_,rfl⟩
end Go.Am
end
section
namespace Go.Am
open Go
inductive Vl where
 |v (n:Int) (t:Bool)
 |f (e:Int)
 deriving DecidableEq
structure Mc where
 cells:List Int
 fuel:Nat
inductive Hw where
 |on
 |lv
 |rt
 |ft (e:Int)
 deriving DecidableEq
abbrev Rr:=Hw×Mc
def bR (q:Rr) (f:Mc→Rr):Rr:=
 match q with
 |(.on,s)=>f s
 |q=>q
def vR (q:Vl) (s:Mc) (f:Int→Rr):Rr:=
 match q with
 | .f e=>(.ft e,s)
 | .v n _=>f n
def QW (F:Mc→Rr) (s:Mc):Rr:=if s.fuel=0 then (.ft 4,s)else F ⟨s.cells,s.fuel-1⟩
def B4 (q:Rr):Rr:=if q.1=.lv then (.on,q.2)else q
section
variable {vs:List Vr}
theorem WR {x:Ex} {t:Int} (h:(dk vs x t).1=0):(aC vs x).e=0∧(aC vs x).t=t:=by
 unfold dk at h;split at h
 ·exact absurd h (by assumption)
 ·rename_i h0;split at h
  ·simp at h
  ·rename_i h1;exact⟨by simpa using h0,by simpa using h1⟩
theorem CM {k line:Int}:∀(fs:List Tx) (xs:List Ex) (p:List Tx),xs.length=fs.length→(iC vs k line fs xs p).1=0→∀x∈xs,(aC vs x).e=0
 |[],[],_,_,_,x,hx=>by simp at hx
 |f::fs,x::xs,p,hl,h,y,hy=>by
  simp only[iC]at h;cases hq:kG k f with
  |none=>rw[hq]at h;simp at h
  |some q=>
   rw[hq]at h;simp only at h;split at h
   ·simp at h
   ·split at h
    ·simp at h
    ·obtain⟨h1,h2⟩:=b5.1 h;rcases List.mem_cons.1 hy with rfl|hy
     ·exact (WR h1).1
     ·exact CM fs xs _ (by simpa using hl) h2 y hy
 |[],_::_,_,h,_,_,_=>by simp at h
 |_::_,[],_,h,_,_,_=>by simp at h
end
end Go.Am
end
section
namespace Go.Am
open Go Go.Proofs
variable [Inhabited b6]
set_option maxRecDepth 20000
theorem KL {vs:List Vr} {name:Tx}:∀(fs:List Tx) (xs:List Ex),xs.length=fs.length→fs.length≤(dM vs name fs xs).length
 |[],xs,_=>by simp
 |_::_,[],h=>by simp at h
 |f::fs,x::xs,h=>by
  have:=KL (vs:=vs) (name:=name) fs xs (by simpa using h);simp only[dM,List.length_append,List.length_cons];omega
theorem NG:∀(ts bs:List (List aq)),(∀t∈ts,1≤t.length)→bs.length≤ts.length+1→2*bs.length≤(cy ts bs).length+2
 |_,[],_,_=>by simp
 |[],b::r,_,h=>by
  have hr:r=[]:=List.eq_nil_of_length_eq_zero (by simpa using h);subst hr;simp
 |t::ts,b::r,ht,h=>by
  have ih:=NG ts r (fun y hy=>ht y (by simp[hy])) (by simpa using h);have h1:=ht t (by simp);unfold cy;simp only[dL,List.length_append,List.length_cons,List.length_nil,kV];omega
theorem uA (vs:List Vr):∀(l:List (List Sm)) (c:Int),(ar vs l c).1.length=l.length
 |[],c=>by simp[ar]
 |b::r,c=>by simp[ar,uA vs r]
theorem QX {m:Mk} (h:0≤m.most) (l:List aq) (c t:Int):(m.put (ins 11 0 0 0 0) 0).aL l c t=m.aL (jn [ins 11 0 0 0 0] l) c t:=by
 rw[TE,←nH (Flat.one (by simp[ins])),yC];exact mf (by omega)
section
variable {p:Pg} (bm:p.vars.length≤1000) (gv:∀v∈p.vars,du v=true)
include bm gv
theorem afx {lp:Bool} {x:Sm} (hf:ji x=true) (h:(jU p.vars lp x).1=0) (hB:∀(lp:Bool) (cs:List Ex),cK (bx x)=true→(fB p.vars lp cs (bx x)).1=0→∀b∈bx x,rW p lp b):QV p lp x:=by
 intro m hm hc hI hex ho aP fG;rw[To]at ho;have e0:qt p.vars x m.cells=jn [ins 11 0 0 0 0] (cV p.vars x m.cells).1:=rfl;rw[e0,←QX hm];have mW:(m.put (ins 11 0 0 0 0) 0).out.length=m.out.length+1:=by simp[Mk.put]
 have oy:(m.put (ins 11 0 0 0 0) 0).cells=m.cells:=rfl;have qj:(m.put (ins 11 0 0 0 0) 0).ex=m.ex:=rfl;have qH:0≤(m.put (ins 11 0 0 0 0) 0).most:=by simp[Mk.put];omega
 have uz:iw (m.put (ins 11 0 0 0 0) 0):=hI.put _ _;cases Ks hf h with
 |@asg to val line v cF hv hs ft et fv ev ht=>
  have kM:=CH ft et;have vL:=lF val fv ev;cases kM with
  |num h=>simp[bO]at cF
  |qA h=>simp[bO]at cF
  |VB _ _ _ _=>simp[bO]at cF
  |one o _ _ _=>simp[bO]at cF;omega
  |two o _ _ _ _ _ _=>simp[bO]at cF;omega
  |@var name l1 v' r5 ha tR=>
   refine VK (by omega) rfl ?_;have e:cV p.vars (.mk 1 [] (.mk 3 0 name [] [] l1) val [] [] [] [] line) m.cells=((ak p.vars val).1++[ins 6 (cd p.vars name).1 0 0 0],m.cells):=by simp[cV,bO,dB]
   have et:gq (.mk 1 [] (.mk 3 0 name [] [] l1) val [] [] [] [] line)=aJ 0 val:=by simp[gq,bO]
   rw[e]at ho⊢;rw[et];simp only[List.length_append,List.length_cons,List.length_nil]at ho;show fR p ((m.put (ins 11 0 0 0 0) 0).aL _ (m.put (ins 11 0 0 0 0) 0).cells _) 0 _ _;rw[nH (Flat.app vL (Flat.one (by simp[ins])))];exact QO bm gv r5 fv ev _ qH (by omega)
  |@idx name l1 v' y r5 ha tR fy ey ty=>
   refine VK (by omega) rfl ?_;have hfy:=lF y fy ey;have e:cV p.vars (.mk 1 [] (.mk 4 0 name [] [y] l1) val [] [] [] [] line) m.cells=((ak p.vars y).1++((ak p.vars val).1++[ins 7 (cd p.vars name).1 0 v'.lo v'.hi]),m.cells):=by simp[cV,bO,dB,cO,ou,iG r5]
   have et:gq (.mk 1 [] (.mk 4 0 name [] [y] l1) val [] [] [] [] line)=max (fF 0 [y]) (aJ 1 val):=by simp[gq,bO,cO]
   have et2:fF 0 [y]=max (aJ 0 y) 0:=by simp[fF]
   rw[e]at ho⊢;rw[et,et2];simp only[List.length_append,List.length_cons,List.length_nil]at ho;show fR p ((m.put (ins 11 0 0 0 0) 0).aL _ (m.put (ins 11 0 0 0 0) 0).cells _) 0 _ _;rw[nH (Flat.app hfy (Flat.app vL (Flat.one (by simp[ins])))),show max (max (aJ 0 y) 0) (aJ 1 val)=max (aJ 0 y) (aJ 1 val) by have:=kW 0 y;omega];exact QP bm gv r5 fy ey fv ev _ qH (by omega)
 |@cnd to val conds blocks line cF cB fc h1 h2 h3 fb hh=>
  have hK:∀c∈conds,bk c=true∧(aC p.vars c).e=0:=fun c sL=>⟨(iU _).1 fc c sL,(jK (sS h2 hh c sL)).1⟩;have sq:=hB lp conds fb hh;have e:cV p.vars (.mk 2 [] to val conds [] [] blocks line) m.cells=(cy (dn (vZ p.vars conds)) (ar p.vars blocks m.cells).1,(ar p.vars blocks m.cells).2):=by simp[cV,CL]
  have et:gq (.mk 2 [] to val conds [] [] blocks line)=max (dw (vZ p.vars conds)) (bV blocks):=by simp[gq,Ho]
  rw[e]at ho aP⊢;rw[et];simp only at ho aP;have cg:(vZ p.vars conds).length=conds.length:=by simp[vZ]
  have hn:=NG (dn (vZ p.vars conds)) (ar p.vars blocks m.cells).1 (fun t ht=>by
   rw[CL]at ht;obtain⟨c,_,rfl⟩:=List.mem_map.1 ht;have:=jR p.vars c;omega) (by rw[uA];simpa [dn,cg]using h3)
  rw[uA]at hn;refine afs (by omega) rfl ?_;have:=NB (p:=p) (lp:=lp) (s:=.mk 2 [] to val conds [] [] blocks line) (blocks:=blocks) (ts:=vZ p.vars conds) (by omega) (by omega) (by omega)
   (fun t ht=>by
    rw[CL]at ht;obtain⟨c,sL,rfl⟩:=List.mem_map.1 ht;exact lF c (hK c sL).1 (hK c sL).2)
   (fun i t hi m hm hl=>by
    simp only[vZ,List.getElem?_map,Option.map_eq_some_iff]at hi;obtain⟨c,sk,rfl⟩:=hi;have sL:=List.mem_of_getElem? sk;exact WE bm gv (.mk 2 [] to val conds [] [] blocks line) i c sk (hK c sL).1 (hK c sL).2 m hm (by simp only at hl;omega))
   sq (fun b _ c _=>gI b c) (m.put (ins 11 0 0 0 0) 0) qH hc uz hex (by rw[oy,mW];omega) aP (fun b hb=>by
    have:=At hb;rw[qj];simp only[uy]at fG;omega)
  rw[cg]at this;exact this
 |@cas to val labels blocks line cF fv wv h2 h3 Ap fb hh=>
  have sq:=hB lp [] fb hh;have e:cV p.vars (.mk 3 [] to val [] labels [] blocks line) m.cells=(jn ((ak p.vars val).1++[ins 6 m.cells 0 0 0]) (cy (labels.map fun l=>ins 1 0 0 0 0::ee m.cells l) (ar p.vars blocks (m.cells+1)).1),(ar p.vars blocks (m.cells+1)).2):=by simp[cV]
  have et:gq (.mk 3 [] to val [] labels [] blocks line)=max (aJ 0 val) (max (if labels=[]then 0 else 2) (bV blocks)):=by simp[gq]
  rw[e]at ho aP⊢;rw[et];simp only[dL,List.length_append,List.length_cons,List.length_nil]at ho aP;have hn:=NG (labels.map fun l=>ins 1 0 0 0 0::ee m.cells l) (ar p.vars blocks (m.cells+1)).1 (fun t ht=>by
   obtain⟨l,_,rfl⟩:=List.mem_map.1 ht;simp) (by rw[uA];simpa using h3)
  rw[uA]at hn;exact afp (by omega) rfl (TL bm gv fv (jK wv).1 Ap h2 h3 (by omega) sq (fun b _ c _=>gI b c) (m.put (ins 11 0 0 0 0) 0) qH hc uz hex (by rw[oy,mW];omega) aP (fun b hb=>by
   have:=At hb;rw[qj];simp only[uy]at fG;omega))
 |@cnt name to val x y z b line v hn cF cB hv hs ha ht fx wx fy wy fz wz fb hh=>
  have sq:=hB true [] (by simpa [bx,cK]using fb) (by simp[bx,fB,eX,hh]) b (by simp[bx]);have e:cV p.vars (.mk 4 name to val [x,y,z] [] [] [b] line) m.cells=(jn (((ak p.vars x).1++((ak p.vars y).1++(ak p.vars z).1))++[ins 6 (m.cells+1) 0 0 0,ins 6 m.cells 0 0 0,ins 6 (cd p.vars name).1 0 0 0]) (kK (cd p.vars name).1 m.cells (ag p.vars b (m.cells+2)).1),(ag p.vars b (m.cells+2)).2):=by simp[cV,ik,lj]
  have et:gq (.mk 4 name to val [x,y,z] [] [] [b] line)=max (max (fF 0 [x,y,z]) 3) (max (aY b) 0):=by simp[gq,bV]
  have ed:uy (.mk 4 name to val [x,y,z] [] [] [b] line)=max (ix b) 0+1:=by simp[uy,tJ]
  rw[e]at ho aP⊢;rw[et,mf (u:=max (max (fF 0 [x,y,z]) 3) (aY b)) (by omega)];rw[ed]at fG;simp only[dL,List.length_append,List.length_cons,List.length_nil]at ho aP;exact afq (by omega) rfl (NF bm gv hv fx (jK wx).1 fy (jK wy).1 fz (jK wz).1 sq (fun c _=>gI b c) (m.put (ins 11 0 0 0 0) 0) qH hc uz (by simp only[List.length_append];rw[oy,mW];omega) aP (by rw[qj];omega))
 |@whl to val b line cF fv wv fb hh=>
  have sq:=hB true [] (by simpa [bx,cK]using fb) (by simp[bx,fB,eX,hh]) b (by simp[bx]);have e:cV p.vars (.mk 5 [] to val [] [] [] [b] line) m.cells=(iv (ak p.vars val).1 (ag p.vars b m.cells).1,(ag p.vars b m.cells).2):=by simp[cV,lj]
  have et:gq (.mk 5 [] to val [] [] [] [b] line)=max (aJ 0 val) (max (aY b) 0):=by simp[gq,bV]
  have ed:uy (.mk 5 [] to val [] [] [] [b] line)=max (ix b) 0+1:=by simp[uy,tJ]
  rw[e]at ho aP⊢;rw[et,mf (u:=max (aJ 0 val) (aY b)) (by omega)];rw[ed]at fG;simp only at ho aP;exact QU (by omega) (.inl rfl) (TI bm gv fv (jK wv).1 sq (m.put (ins 11 0 0 0 0) 0) qH hc uz (by rw[oy,mW];omega) aP (by rw[qj];omega))
 |@rep to val b line cF fv wv fb hh=>
  have sq:=hB true [] (by simpa [bx,cK]using fb) (by simp[bx,fB,eX,hh]) b (by simp[bx]);have e:cV p.vars (.mk 6 [] to val [] [] [] [b] line) m.cells=(lZ (ak p.vars val).1 (ag p.vars b m.cells).1,(ag p.vars b m.cells).2):=by simp[cV,lj]
  have et:gq (.mk 6 [] to val [] [] [] [b] line)=max (aJ 0 val) (max (aY b) 0):=by simp[gq,bV]
  have ed:uy (.mk 6 [] to val [] [] [] [b] line)=max (ix b) 0+1:=by simp[uy,tJ]
  rw[e]at ho aP⊢;rw[et,mf (u:=max (aJ 0 val) (aY b)) (by omega)];rw[ed]at fG;simp only at ho aP;exact QU (by omega) (.inr rfl) (QT bm gv fv (jK wv).1 sq (m.put (ins 11 0 0 0 0) 0) qH hc uz (by rw[oy,mW];omega) aP (by rw[qj];omega))
 |@ext to val line cF cB oN=>
  have e:cV p.vars (.mk 7 [] to val [] [] [] [] line) m.cells=([ins 9 (-1) 0 0 0],m.cells):=by simp[cV]
  have et:gq (.mk 7 [] to val [] [] [] [] line)=0:=by simp[gq]
  rw[e]at ho⊢;rw[et];simp only[List.length_cons,List.length_nil]at ho;rcases List.eq_nil_or_concat m.ex with hx|⟨pre,row,hx⟩
  ·exact absurd hx (hex oN)
  ·rw[List.concat_eq_append]at hx;have hr:=hI.2 row (by rw[hx];simp);have dg:m.ex.length=pre.length+1:=by rw[hx];simp
   have:=afw (p:=p) (x:=.mk 7 [] to val [] [] [] [] line) hx (by omega) (by omega) (by omega) rfl;have e2:(m.put (ins 11 0 0 0 0) 0).ext=(m.put (ins 11 0 0 0 0) 0).aL [ins 9 (-1) 0 0 0] m.cells 0:=by
    simp[Mk.ext,Mk.aL,cH,jV,cD,ins,Mk.put]
   rw[e2]at this;exact this
 |@ret to val line cF cB=>
  have e:cV p.vars (.mk 8 [] to val [] [] [] [] line) m.cells=([ins 9 (-2) 0 0 0],m.cells):=by simp[cV]
  have et:gq (.mk 8 [] to val [] [] [] [] line)=0:=by simp[gq]
  rw[e]at ho⊢;rw[et];simp only[List.length_cons,List.length_nil]at ho;have:=afv (p:=p) (x:=.mk 8 [] to val [] [] [] [] line) (m:=m) (by omega) (by have:=hI.1;omega) rfl;have e2:(m.put (ins 11 0 0 0 0) 0).ret=(m.put (ins 11 0 0 0 0) 0).aL [ins 9 (-2) 0 0 0] m.cells 0:=by
   simp[Mk.ret,Mk.aL,cH,jV,cD,ins,Mk.put,me]
  rw[e2]at this;exact this
 |@cal name to val conds fields line v hn cF cB hv ht fc hl hff hh=>
  have mu:=CM fields conds [] hl hh;have hK:∀c∈conds,bk c=true∧(aC p.vars c).e=0:=fun c sL=>⟨(iU _).1 fc c sL,mu c sL⟩;have Oi:=KL (vs:=p.vars) (name:=name) fields conds hl;have e:cV p.vars (.mk 9 name to val conds [] fields [] line) m.cells=(dM p.vars name fields conds++[ins 12 (cd p.vars name).1 v.ty 0 0],m.cells):=by simp[cV,iG hv]
  have et:gq (.mk 9 name to val conds [] fields [] line)=jQ conds:=by simp[gq]
  rw[e]at ho⊢;rw[et];simp only[List.length_append,List.length_cons,List.length_nil]at ho;refine afr (by omega) rfl ?_;show fR p ((m.put (ins 11 0 0 0 0) 0).aL _ (m.put (ins 11 0 0 0 0) 0).cells _) 0 _ _;rw[nH (Flat.app (Hc fields conds fc mu) (Flat.one (by simp[ins])))];exact WD bm gv hv hl (by omega) hK _ qH (by omega)
mutual
theorem aby:∀(x:Sm) (lp:Bool),ji x=true→(jU p.vars lp x).1=0→QV p lp x
 | .mk op name to val conds labels fields blocks line,lp,hf,h=>afx bm gv hf h (fun lp cs h1 h2=>Ax blocks lp cs h1 h2)
theorem vC:∀(l:List Sm) (lp:Bool),en l=true→(eA p.vars lp l).1=0→∀x∈l,QV p lp x
 |[],_,_,_,x,hx=>absurd hx (List.not_mem_nil)
 |y::r,lp,hf,h,x,hx=>by
  simp only[en,Bool.and_eq_true]at hf;simp only[eA]at h;obtain⟨h1,h2⟩:=b5.1 h;rcases List.mem_cons.1 hx with h0|hx
  ·rw[h0];exact aby y lp hf.1 h1
  ·exact vC r lp hf.2 h2 x hx
theorem Ax:∀(l:List (List Sm)) (lp:Bool) (cs:List Ex),cK l=true→(fB p.vars lp cs l).1=0→∀b∈l,rW p lp b
 |[],_,_,_,_,b,hb=>absurd hb (List.not_mem_nil)
 |y::r,lp,[],hf,h,b,hb=>by
  simp only[cK,Bool.and_eq_true]at hf;simp only[fB]at h;obtain⟨h1,h2⟩:=b5.1 h;rcases List.mem_cons.1 hb with h0|hb
  ·rw[h0];exact Aw y (vC y lp hf.1 h1)
  ·exact Ax r lp [] hf.2 h2 b hb
 |y::r,lp,c::cs,hf,h,b,hb=>by
  simp only[cK,Bool.and_eq_true]at hf;simp only[fB]at h;obtain⟨h1,h2⟩:=b5.1 h;obtain⟨h2,h3⟩:=b5.1 h2;rcases List.mem_cons.1 hb with h0|hb
  ·rw[h0];exact Aw y (vC y lp hf.1 h2)
  ·exact Ax r lp cs hf.2 h3 b hb
end
theorem WS {l:List Sm} {lp:Bool} (hf:en l=true) (h:(eA p.vars lp l).1=0):rW p lp l:=Aw l (vC bm gv l lp hf h)
end
def Ay:List Vr→Int→List Int
 |[],_=>[]
 |v::r,n=>n::Ay r (n+bH v)
def Az:List Vr→List Int
 |[]=>[]
 |v::r=>(if v.arr=false∧v.ty≤2 then [v.init]else List.replicate (bH v).toNat 0)++Az r
@[simp] def abz (v1 v2 v3:Nat) (X3:aD) (S:List Int) (n:Int) (F:List Int):List cJ:=[⟨250,1,.box [.vec 251 v1 0 S.length,.d (.int .i64 n),.vec 252 v2 0 F.length]⟩,⟨251,v1,.vec 1 (S.map dy)⟩,⟨252,v2,.vec 1 (F.map dy)⟩,⟨350,v3,X3⟩]
theorem Hp (l:List Vr) (bm:l.length≤1000) (hf:∀v∈l,du v=true) (B C:cJ) (hB:B.key=150) (hC:C.key=200) (k:Kt) (Q:List Int→Int→List Int→bU→Prop)
 (hx:∀(Y:Env) S n F v1 v2 v3 X3,Q S n F (k (.exit 0) ⟨51,aB,(2,true,.ptr 200 1 0)::(3,true,.ptr 250 1 0)::Y,B::C::abz v1 v2 v3 X3 S n F⟩)):∀(rest pre:List Vr) (S:List Int) (n:Int) (F:List Int) (v1 v2 v3:Nat) (X3:aD),l=pre++rest→0≤n→n≤1000*pre.length→S.length=pre.length→(F.length:Int)=n→
 Q (S++Ay rest n) (n+cf rest) (F++Az rest) (aG ctx 50 (.loop (Code.at (bh Tryz.f50) [1,1,0,1,0,0])) ⟨51,aB,[(2,true,.ptr 200 1 0),(3,true,.ptr 250 1 0),(8,true,.d (.list (l.map bG))),(9,true,.d (.int .i64 l.length)),(10,true,.d (.int .i64 pre.length))],B::C::abz v1 v2 v3 X3 S n F⟩ k)
 |[],pre,S,n,F,v1,v2,v3,X3,hd,h0,hn,hS,hF=>by
  have cw:pre.length=l.length:=by rw[hd];simp
  have:=hx [(8,true,.d (.list (l.map bG))),(9,true,.d (.int .i64 l.length)),(10,true,.d (.int .i64 l.length)),(11,true,.d (.bool false))] S n F v1 v2 v3 X3;simp[Ay,cf,Az]at this⊢;rw[cw,ah];simp[Tryz.f50,this]
 |w::rest,pre,S,n,F,v1,v2,v3,X3,hd,h0,hn,hS,hF=>by
  have aV:pre.length<l.length:=by rw[hd];simp
  have aS:l[pre.length]=w:=by simp[hd]
  have hc:=Gn (hf w (by rw[hd];simp));have kM:=pG (hf w (by rw[hd];simp));have ih:=fun F' h v1 v2 v3 X3=>Hp l bm hf B C hB hC k Q hx rest (pre++[w]) (S++[n]) (n+bH w) F' v1 v2 v3 X3 (by simp[hd]) (by omega) (by simp;omega) (by simp[hS]) h;have w1:IntKind.i64.wrap ((pre.length:Int)+1)=(pre.length:Int)+1:=ay (by unfold aZ;omega);have w2:IntKind.i64.wrap (n+bH w)=n+bH w:=ay (by unfold aZ;omega);have w3:S.length≤4611686018427387903:=by omega
  have w4:(S.length+1)*8≤140737488355328:=by omega
  rw[ah];simp only[Ay,cf,Az];rw[←Int.add_assoc];by_cases hs:w.arr=false∧w.ty≤2
  ·have h1:bH w=1:=by unfold bH;rw[if_neg (by simp[hs.1]),if_neg (by omega)]
   rw[h1]at hc ih w2 kM⊢;have ih:=ih (F++[w.init]) (by simp;omega);have w5:F.length≤4611686018427387903:=by omega
   have w6:(F.length+1)*8≤140737488355328:=by omega
   have w7:IntKind.i64.wrap n=F.length:=by rw[←hF];exact ay (by unfold aZ;omega)
   have w8:(F.map dy++[D.int .i64 0]).set F.length (D.int .i64 w.init)=F.map dy++[D.int .i64 w.init]:=by
    rw[List.set_append_right _ _ (by simp)];simp
   simp[Tryz.f50,bG,eu,hs,dy]at ih hc⊢;simp[aV,aS,hB,hC,bG,eu,hs,hc,w1,w2,w3,w4,w5,w6,w7,w8,ih,dy]
  ·have ih:=ih (F++List.replicate (bH w).toNat 0) (by simp;omega);have w7:0≤bH w∧bH w≤4611686018427387904:=by omega
   have w5:F.length+(bH w).toNat≤4611686018427387904:=by omega
   have w6:(F.length+(bH w).toNat)*8≤140737488355328:=by omega
   simp[Tryz.f50,bG,eu,hs,dy]at ih hc⊢;simp[aV,aS,hB,hC,bG,eu,hs,hc,w1,w2,w3,w4,w5,w6,w7,ih,dy]
theorem WT (p:Pg) (bm:p.vars.length≤1000) (hf:∀v∈p.vars,du v=true):ai ctx 50 [.d (qi p)] []=some (.ret (.d (.agg [.list ((Ay p.vars 0).map dy),.int .i64 (cf p.vars),.list ((Az p.vars).map dy)])),[]):=by
 have dc:=fun B C hB hC k Q hx v1 v2 v3 X3=>Hp p.vars bm hf B C hB hC k Q hx p.vars [] [] 0 [] v1 v2 v3 X3 rfl (by omega) (by simp) rfl rfl;rw[aeQ (by simp)];simp[Tryz.f50]at dc⊢;refine dc _ _ ?_ ?_ _ (fun S n F r=>S=Ay p.vars 0→n=cf p.vars→F=Az p.vars→r=some (.ret (.d (.agg [.list ((Ay p.vars 0).map dy),.int .i64 (cf p.vars),.list ((Az p.vars).map dy)])),[])) (fun Y S n F v1 v2 v3 X3 h1 h2 h3=>?_) _ _ _ _ rfl rfl rfl
 ·rfl
 ·rfl
 ·subst h1 h2 h3;simp
end Go.Am
end
section
namespace Go.Am
open Go Go.Proofs
variable [Inhabited b6]
set_option maxRecDepth 20000
set_option maxHeartbeats 1000000
theorem TN (p:Pg) (bm:p.vars.length≤1000) (gv:∀v∈p.vars,du v=true)
 (hF:ai ctx 37 [.d (qi p)] []=some (.ret (.d (qi (Qr p))),[]))
 (M:Mk) (hM:fR p M 0 (.ret (.aU [])) (ai ctx 51 [.ptr 0 0 0,.d (.list ((dD p.body).map cC))] (fQ p ⟨[],cf p.vars,0,[],[]⟩ 0))) (hl:M.out.length<99999990) (nq:M.lv.length<100000000) (hp:Pl M.out.length M.lv):
 ai ctx 20 [.d (qi p)] []=(if 4096<(((M.cv M.lv).put (ins 15 0 0 0 0) 0).out.length:Int)∨64<((M.cv M.lv).put (ins 15 0 0 0 0) 0).most then some (.ret (.aU [.d (.agg [.list [],.int .i64 0,.int .i64 0]),.d (.int .i64 13)]),[])else some (.ret (.aU [.d (.agg [.list (((M.cv M.lv).put (ins 15 0 0 0 0) 0).out.map cE),.int .i64 (cf p.vars),.int .i64 M.cells]),.d (.int .i64 0)]),[])):=by
 have hL:=WT p bm gv;obtain⟨a1,a2,a3,hM⟩:=hM;have h2:=TC p M 0 nq (by omega) hp;have hlA:(M.cv M.lv).out.length=M.out.length:=by
  have:∀(ps:List Int) (m:Mk),(m.cv ps).out.length=m.out.length:=by
   intro ps;induction ps with
   |nil=>intro m;rfl
   |cons i r ih=>intro m;rw[rV,ih,As]
  exact this _ _
 obtain⟨b1,b2,b3,h3⟩:=jo p (M.cv M.lv) 0 0 (ins 15 0 0 0 0) (by rw[hlA];omega) (by decide);rw[aeG (by simp)];simp[Qr]at hF;simp at hM h2;simp[ins]at h3;have e1:(M.cv M.lv).ex=M.ex:=rfl;have e2:(M.cv M.lv).lv=M.lv:=rfl;have e3:(M.cv M.lv).most=M.most:=rfl;have e4:(M.cv M.lv).cells=M.cells:=rfl;simp[e1,e2,e3,e4]at h2 h3;have e5:((M.cv M.lv).put (ins 15 0 0 0 0) 0).cells=M.cells:=rfl;rw[←e5];simp only[ins]at h3⊢;clear e1 e2 e3 e4 e5 hlA hp;generalize M.cv M.lv=N at*;simp[Tryz.f20,hL,hF,hM,h2,h3,aI];split<;>rename_i h<;>first|simp[h]|simp_all
end Go.Am
end
section
namespace Go.Am
open Go
theorem alD {x:aq} (h:x.op=9∨x.op=10→0≤x.a):jV 0 x=x:=by
 unfold jV;split
 ·rename_i ho;have:=h ho;rw[if_pos this];obtain⟨op,a,b,n,m⟩:=x;simp
 ·rfl
theorem alE {l:List aq} (h:∀x∈l,x.op=9∨x.op=10→0≤x.a):cH 0 l=l:=by
 unfold cH;exact (List.map_congr_left (g:=id) (fun x hx=>alD (h x hx))).trans (List.map_id l)
theorem WU {l:List aq} (hj:Jf false l):jl (cH 0 l) (cD (-2) 0 l) l.length=l.map (mV l.length):=by
 have h:=qg (k:= -2) (to:=(l.length:Int)) (by decide) (by omega) 0 l [] [] 0 rfl;simp only[List.nil_append,List.append_nil]at h;rw[show ((l.length:Int)+((0:Nat):Int))=(l.length:Int) by omega]at h;rw[h];have e:(fun x=>kI (-2) (l.length:Int) x)=mV (l.length:Int):=rfl;rw[show l.map (kI (-2) (l.length:Int))=l.map (mV (l.length:Int))from rfl];refine alE (fun x hx ho=>?_);obtain⟨y,hy,rfl⟩:=List.mem_map.1 hx;have xQ:=hj y hy;unfold mV at ho⊢;split
 ·show 0≤(l.length:Int);omega
 ·rename_i hn;rw[if_neg hn]at ho;rcases ho with ho|ho
  ·rcases xQ.2 ho with h|h|h
   ·exact h
   ·exact absurd ⟨ho,h⟩ hn
   ·exact absurd h.1 (by decide)
  ·exact xQ.1 ho
theorem yF:∀(ts bs:List (List aq)),(bs.map List.length).sum≤(cy ts bs).length
 |[],[]=>by simp[cy]
 |_::_,[]=>by simp[cy]
 |[],b::r=>by
  have ih:=yF [] r;rw[CJ];simp only[List.map_cons,List.sum_cons];split
  ·rename_i h;subst h;simp
  ·simp only[dL,List.length_append,List.length_cons,List.length_nil];omega
 |t::ts,b::r=>by
  have ih:=yF ts r;rw[cy];simp only[List.map_cons,List.sum_cons];generalize cy ts r=out at ih⊢;rw[dL];simp only[List.length_append,List.length_cons,List.length_nil,kV];split
  ·omega
  ·simp only[List.length_append,List.length_cons,List.length_nil];omega
section
variable {vs:List Vr}
mutual
theorem NH:∀(s:Sm) (c:Int),(cV vs s c).2≤c+(cV vs s c).1.length
 | .mk op name to val conds labels fields blocks line,c=>by
  have h1:=fun c=>zA blocks c;have h2:=fun c=>NI blocks c;unfold cV;split
  ·simp only;omega
  ·split
   ·have q1:=h1 c;have q2:=yF (conds.map fun x=>(ak vs x).1) (ar vs blocks c).1;simp only
    omega
   ·split
    ·have q1:=h1 (c+1);have q2:=yF (labels.map fun l=>ins 1 0 0 0 0::ee c l) (ar vs blocks (c+1)).1;simp only[dL,List.length_append,List.length_cons,List.length_nil];omega
    ·split
     ·have q1:=h2 (c+2);simp only[dL,List.length_append,List.length_cons,List.length_nil,kK,nf,kV];omega
     ·split
      ·have q1:=h2 c;simp only[iv,nf,List.length_append,List.length_cons,List.length_nil,kV];omega
      ·split
       ·have q1:=h2 c;simp only[lZ,nf,List.length_append,List.length_cons,List.length_nil];omega
       ·split
        ·simp only;omega
        ·split<;>(simp only;omega)
theorem mX:∀(l:List Sm) (c:Int),(ag vs l c).2≤c+(ag vs l c).1.length
 |[],c=>by simp[ag]
 |x::r,c=>by
  have h1:=NH x c;have h2:=mX r (cV vs x c).2;simp only[ag,dL,List.length_cons,List.length_nil];omega
theorem zA:∀(l:List (List Sm)) (c:Int),(ar vs l c).2≤c+(((ar vs l c).1.map List.length).sum:Nat)
 |[],c=>by simp[ar]
 |b::r,c=>by
  have h1:=mX b c;have h2:=zA r (ag vs b c).2;simp only[ar,List.map_cons,List.sum_cons];omega
theorem NI:∀(l:List (List Sm)) (c:Int),(lj vs l c).2≤c+(lj vs l c).1.length
 |[],c=>by simp[lj]
 |b::r,c=>mX b c
end
end
theorem TO {cells last:Int} {i:Int} {x:aq} (h:cQ xP cells 0 0 x=true) (h9:¬eQ x) (uc:x.op≠15):cQ xP cells last i x=true:=by
 unfold cQ at h⊢;unfold eQ at h9;split
 ·rfl
 ·rename_i g1;rw[if_neg g1]at h;split
  ·rename_i g2;rw[if_pos g2]at h;exact h
  ·rename_i g2;rw[if_neg g2]at h;split
   ·rename_i g3;rw[if_pos g3]at h;exact h
   ·rename_i g3;rw[if_neg g3]at h;split
    ·rename_i g4;rw[if_pos g4]at h;exact h
    ·rename_i g4;rw[if_neg g4]at h;split
     ·rename_i g5;rw[if_pos g5]at h;exact h
     ·rename_i g5;rw[if_neg g5,if_neg h9]at h;split
      ·rename_i g7;rw[if_pos g7]at h;exact h
      ·rename_i g7;rw[if_neg g7,if_neg uc]at h;cases h
theorem Hq {l:List aq} {S S':List Bool} (h:bW l S=some S') (i:Nat):∃T,bW (l.take i) S=some T:=by
 rw[←List.take_append_drop i l,db]at h;cases hq:bW (l.take i) S with
 |none=>rw[hq]at h;cases h
 |some T=>exact⟨T,rfl⟩
theorem WV {g:List aq} {cells:Int} (h:Fg cells false g) (hl:g.length+1≤4096):∃r st,Good xP cells (g.map (mV g.length)++[ins 15 0 0 0 0]) r st:=by
 obtain⟨l,KM⟩:∃l,l=g.map (mV g.length)++[ins 15 0 0 0 0]:=⟨_,rfl⟩;rw[←KM];have hlen:l.length=g.length+1:=by rw[KM];simp
 have afy:bW (g.map (mV g.length)) []=some []:=by rw[pk (GY _)];exact h.run
 have bB:bW l []=some []:=by
  rw[KM,db,afy];simp[bW,bZ,ins,gj]
 have gW:∀(i:Nat) x,l[i]?=some x→(i<g.length∧∃y,g[i]?=some y∧x=mV g.length y)∨(i=g.length∧x=ins 15 0 0 0 0):=by
  intro i x hx;rw[KM]at hx;by_cases hi:i<g.length
  ·rw[List.getElem?_append_left (by simpa using hi),List.getElem?_map]at hx;obtain⟨y,hy,rfl⟩:=Option.map_eq_some_iff.1 hx;exact .inl ⟨hi,y,hy,rfl⟩
  ·rw[List.getElem?_append_right (by simpa using hi)]at hx;have h0:i-g.length=0:=by
    have:=(List.getElem?_eq_some_iff.1 hx).1;simp at this;omega
   simp only[List.length_map]at hx;rw[h0]at hx;simp at hx;exact .inr ⟨by omega,hx.symm⟩
 have VL:∀k,k≤g.length→bW (l.take k) []=bW (g.take k) []:=by
  intro k hk;rw[KM,List.take_append_of_le_length (by simpa using hk),←List.map_take,pk (GY _)]
 have hJ:∀y,eQ (mV g.length y)↔eQ y:=fun y=>by unfold eQ;rw[Qt]
 --where a jump leads
 have TP:∀(i:Nat) x,l[i]?=some x→eQ x→0≤x.a∧x.a.toNat≤g.length∧bW (l.take x.a.toNat) []=some []∧(i<x.a.toNat∨∃y,l[x.a.toNat]?=some y∧y.op=11):=by
  intro i x hx hj;rcases gW i x hx with ⟨hi,y,hy,rfl⟩|⟨_,rfl⟩
  ·have xQ:=(hJ y).1 hj;have L9:bW (l.take g.length) []=some []:=by rw[VL _ (Nat.le_refl _),List.take_length];exact h.run
   by_cases h0:0≤y.a
   ·have e:mV g.length y=y:=by unfold mV;rw[if_neg (by rintro ⟨_,h'⟩;omega)]
    rw[e];rcases h.jmp i y hy xQ h0 with h1|⟨h1,h2,h3⟩
    ·refine⟨h0,by omega,?_,.inl (by omega)⟩;rw[h1];exact L9
    ·refine⟨h0,h1,by rw[VL _ h1];exact h2,?_⟩;rcases h3 with h3|⟨z,hz,qz⟩
     ·exact .inl h3
     ·refine .inr ⟨mV g.length z,?_,by rw[Qt];exact qz⟩;rw[KM,List.getElem?_append_left (by simpa using (List.getElem?_eq_some_iff.1 hz).1),List.getElem?_map,hz];rfl
   ·obtain⟨q1,q2⟩:=h.out y (List.mem_of_getElem? hy) xQ (by omega);have q2:y.a= -2:=by
     rcases q2 with q2|⟨q2,_⟩
     ·exact q2
     ·cases q2
    have e:(mV g.length y).a=g.length:=by unfold mV;rw[if_pos ⟨q1,q2⟩]
    rw[e];refine⟨by omega,by omega,?_,.inl (by omega)⟩;rw[show ((g.length:Int)).toNat=g.length by omega];exact L9
  ·simp[eQ,ins]at hj
 refine⟨fun i=>match l[i]? with|some x=>if x.op=11 then 0 else l.length+1-i|none=>0,fun i=>(bW (l.take i) []).getD [],?_⟩;refine⟨by omega,?_,?_,rfl,?_,?_,?_⟩
 ·intro x hx;rcases gW _ x hx with ⟨hi,_⟩|⟨_,rfl⟩
  ·omega
  ·rfl
 ·intro i x hx;by_cases hj:eQ x
  ·obtain⟨h1,h2,_⟩:=TP i x hx hj;have h3:x.a≤(l.length:Int)-1:=by omega
   unfold cQ;rcases hj with e|e
   ·simp[e,h1,h3]
   ·simp[e,h1,h3]
  ·rcases gW i x hx with ⟨hi,y,hy,rfl⟩|⟨hi,rfl⟩
   ·have e:mV g.length y=y:=by
     rcases GY (g.length:Int) y with e|⟨e,_⟩
     ·exact e
     ·exact absurd ((hJ y).2 e) hj
    rw[e]at hj⊢;rcases h.ok y (List.mem_of_getElem? hy)with h1|⟨h1,h2⟩
    ·exact absurd h1 hj
    ·exact TO h1 hj h2
   ·have:cQ xP cells ((l.length:Int)-1) (i:Int) (ins 15 0 0 0 0)=true:=by
     simp[cQ,ins];omega
    exact this
 ·intro i x hx;obtain⟨T,hT⟩:=Hq bB i;obtain⟨T',hT'⟩:=Hq bB (i+1);have hi:=(List.getElem?_eq_some_iff.1 hx).1;have e:l.take (i+1)=l.take i++[x]:=by
   rw[List.take_add_one,hx];rfl
  rw[e,db,hT]at hT';have Hr:bW [x] T=some T':=hT';simp only[bW]at Hr;have hm:bZ x T=some T':=by
   cases hq:bZ x T with
   |none=>rw[hq]at Hr;cases Hr
   |some U=>rw[hq]at Hr;simpa using Hr
  show bZ x ((bW (l.take i) []).getD [])=some ((bW (l.take (i+1)) []).getD []);rw[e,db,hT];show bZ x T=some (((bW [x] T)).getD []);simp only[bW,hm];rfl
 ·intro i x hx hj;obtain⟨_,_,h3,_⟩:=TP i x hx hj;show (bW (l.take x.a.toNat) []).getD []=[];rw[h3];rfl
 ·intro i x hx ho j hj;have hi:=(List.getElem?_eq_some_iff.1 hx).1;have hri:(match l[i]? with|some x=>if x.op=11 then 0 else l.length+1-i|none=>0)=l.length+1-i:=by
   rw[hx];simp only
   rw[if_neg ho]
  have hrj:∀j:Nat,(match l[j]? with|some x=>if x.op=11 then 0 else l.length+1-j|none=>0)≤l.length+1-j:=by
   intro j;cases l[j]? with
   |none=>simp
   |some z=>simp only;split<;>omega
  have nX:∀k:Nat,i<k→(match l[k]? with|some x=>if x.op=11 then 0 else l.length+1-k|none=>0)<l.length+1-i:=by
   intro k hk;have:=hrj k;omega
  have cF:eQ x→(match l[x.a.toNat]? with|some x=>if x.op=11 then 0 else l.length+1-x.a.toNat|none=>0)<l.length+1-i∨True:=fun _=>.inr trivial;show (match l[j]? with|some x=>if x.op=11 then 0 else l.length+1-j|none=>0)<(match l[i]? with|some x=>if x.op=11 then 0 else l.length+1-i|none=>0);rw[hri];have VM:eQ x→j=x.a.toNat→(match l[j]? with|some x=>if x.op=11 then 0 else l.length+1-j|none=>0)<l.length+1-i:=by
   intro G7 e;obtain⟨_,_,_,h4⟩:=TP i x hx G7;rw[←e]at h4;rcases h4 with h4|⟨y,hy,mH⟩
   ·exact nX j h4
   ·rw[hy];simp only
    rw[if_pos mH];omega
  unfold vk at hj;rw[hx]at hj;simp only at hj;split at hj
  ·rename_i h9;simp at hj;exact VM (.inl h9) hj
  ·split at hj
   ·rename_i nB;simp at hj;rcases hj with hj|hj
    ·exact nX j (by omega)
    ·exact VM (.inr nB) hj
   ·split at hj
    ·simp at hj
    ·simp at hj;exact nX j (by omega)
theorem xX:∀(l p:List Vr) (n:Int),n≤1024→(DK l p n).1=0→n+cf l≤1024
 |[],_,n,hn,_=>by simp[cf];exact hn
 |v::r,p,n,hn,h=>by
  unfold DK at h;split at h
  ·simp at h
  ·split at h
   ·simp at h
   ·have:=xX r _ _ (by omega) h;simp only[cf];omega
theorem vD:∀(l:List Vr),(∀v∈l,0≤bH v)→0≤cf l
 |[],_=>by simp[cf]
 |y::l,h=>by
  have:=vD l (fun v hv=>h v (by simp[hv]));have:=h y (by simp);simp only[cf];omega
theorem D3 {p:Pg} (hf:pg p=true) (hl:iQ p.body=true) (hc:(qd p).1=0) (TQ:aY (dD p.body)≤64):
 Fg (ag p.vars (dD p.body) (cf p.vars)).2 false (ag p.vars (dD p.body) (cf p.vars)).1∧0≤cf p.vars∧cf p.vars≤1024∧cf p.vars≤(ag p.vars (dD p.body) (cf p.vars)).2∧
 (ag p.vars (dD p.body) (cf p.vars)).2≤cf p.vars+(ag p.vars (dD p.body) (cf p.vars)).1.length:=by
 simp only[pg,Bool.and_eq_true,List.all_eq_true]at hf;obtain⟨_,_,eh,hb⟩:=hf;obtain⟨h1,h2⟩:=b5.1 hc;obtain⟨a1,a2,a3⟩:=rf false p.body hb hl h2;have Ub:=xX p.vars [] 0 (by omega) h1;have C6:=vD p.vars (fun v hv=>nE (eh v hv));have hm:=gI (vs:=p.vars) (dD p.body) (cf p.vars);have aP:=mX (vs:=p.vars) (dD p.body) (cf p.vars);exact⟨rT eh hm false (dD p.body) (cf p.vars) a1 a3 TQ C6 (Int.le_refl _),C6,by omega,hm,aP⟩
theorem QY {p:Pg} (hf:pg p=true) (hl:iQ p.body=true) (hc:(qd p).1=0) {l:List aq} {v c:Int} (h:vr p=some (l,v,c)):xC xP l v c=true:=by
 unfold vr at h;simp only at h;split at h
 ·cases h
 ·rename_i hn;simp only[not_or,Nat.not_lt,Int.not_lt]at hn;cases h;obtain⟨g1,g2,g3,g4,g5⟩:=D3 hf hl hc hn.2;obtain⟨r,st,hg⟩:=WV g1 hn.1;exact afj ⟨by omega,by omega,by omega,by omega⟩ hg
section
variable {vs:List Vr}
mutual
theorem uB:∀x:Ex,(ak vs x).1.length≤dP (bL x)
 | .mk op n name field sub line=>by
  have h1:=CN sub;have h2:=QZ sub;unfold ak;simp only[bL,dP,bC];split
  ·simp only[List.length_cons,List.length_nil];omega
  ·split
   ·simp only[List.length_cons,List.length_nil];omega
   ·split
    ·simp only[List.length_cons,List.length_nil];omega
    ·split
     ·simp only[List.length_append,List.length_cons,List.length_nil];omega
     ·simp only[List.length_append,List.length_cons,List.length_nil];omega
theorem CN:∀l:List Ex,(ik vs l).1.length≤bC (ga l)
 |[]=>by simp[ik]
 |[x]=>by
  have:=uB x;simp only[ik,ga,bC];omega
 |x::y::r=>by
  have h1:=uB x;have h2:=CN (y::r);simp only[ga,bC]at h2;simp only[ik,ga,bC,List.length_append]at h2⊢;omega
theorem QZ:∀l:List Ex,(ou vs l).length≤bC (ga l)
 |[]=>by simp[ou]
 |x::r=>by
  have:=uB x;simp only[ou,ga,bC];omega
end
theorem abA (x:Ex):(ak vs x).1.length≤bC (ud x)+1:=by
 have:=uB (vs:=vs) x;rw[uj]at this;exact this
theorem WW (x:Ex):(ou vs (cO x)).length≤bC (ud x):=by
 obtain⟨op,n,name,field,sub,line⟩:=x;have:=QZ (vs:=vs) sub;simp only[ud,ob,bC,dP];omega
end
theorem EE (x:Ex):7≤dP (bL x):=by
 obtain⟨op,n,name,field,sub,line⟩:=x;simp only[bL,dP,bC];omega
theorem VN (x:Ex):6≤bC (ud x):=by
 have:=EE x;rw[uj]at this;omega
theorem abB (n:Int) (t:Bool) (line:Int):dP (bL (lE n t line))≤14:=by
 unfold lE;split
 ·simp[bL,ga,dP,bC]
 ·split
  ·simp[bL,ga,dP,bC]
  ·simp[bL,ga,dP,bC]
theorem afz (x:Ex):dP (bL (kz x))≤dP (bL x):=by
 unfold kz;split
 ·omega
 ·split
  ·omega
  ·rename_i l hl;split
   ·omega
   ·rename_i r hr;split
    ·omega
    ·have hm:=fun ln=>abB r.1 r.2.1 ln;obtain⟨op,n,name,field,sub,line⟩:=x;simp only[ob]at hl;cases sub with
     |nil=>
      simp only[m6,Option.some.injEq]at hl;subst hl;simp[GK]at hr
     |cons y q=>
      have:=EE y;refine Nat.le_trans (hm _) ?_;simp only[bL,ga,dP,bC];omega
mutual
theorem VO:∀x:Ex,dP (bL (cU x))≤dP (bL x)
 | .mk op n name field sub line=>by
  have h:=Hs sub;have h1:=afz (.mk op n name field (cP sub) line);unfold cU;refine Nat.le_trans h1 ?_;simp only[bL,dP,bC];omega
theorem Hs:∀l:List Ex,bC (ga (cP l))≤bC (ga l)
 |[]=>by simp[cP]
 |x::r=>by
  have h1:=VO x;have h2:=Hs r;simp only[cP,ga,bC];omega
end
theorem VP (x:Ex):bC (ud (cU x))≤bC (ud x):=by
 have:=VO x;rw[uj,uj]at this;omega
mutual
theorem afA:∀x:Sm,dP (cC (qF x))≤dP (cC x)
 | .mk op name to val conds labels fields blocks line=>by
  have h1:=VP to;have h2:=VP val;have h3:=Hs conds;have h4:=Q0 blocks;simp only[qF,cC,dP,bC,ph];omega
theorem Ht:∀l:List Sm,bC (lf (dD l))≤bC (lf l)
 |[]=>by simp[dD]
 |x::r=>by
  have h1:=afA x;have h2:=Ht r;simp only[dD,lf,bC];omega
theorem Q0:∀l:List (List Sm),bC (ld (ir l))≤bC (ld l)
 |[]=>by simp[ir]
 |b::r=>by
  have h1:=Ht b;have h2:=Q0 r;simp only[ir,ld,bC,dP];omega
end
def oz (l:List (List aq)):Nat:=(l.map fun t=>t.length+1).sum
theorem EG:∀(ts bs:List (List aq)),(cy ts bs).length≤oz ts+oz bs
 |[],[]=>by simp[cy]
 |_::_,[]=>by simp[cy]
 |[],b::r=>by
  have ih:=EG [] r;rw[CJ];simp only[oz,List.map_cons,List.sum_cons,List.map_nil,List.sum_nil]at ih⊢;split
  ·omega
  ·simp only[dL,List.length_append,List.length_cons,List.length_nil];omega
 |t::ts,b::r=>by
  have ih:=EG ts r;rw[cy];simp only[oz,List.map_cons,List.sum_cons]at ih⊢;generalize cy ts r=out at ih⊢;rw[dL];simp only[List.length_append,List.length_cons,List.length_nil,kV];split
  ·omega
  ·simp only[List.length_append,List.length_cons,List.length_nil];omega
theorem Q1 (c:Int):∀l:List Int,(ee c l).length≤l.length
 |[]=>by simp[ee]
 |[_]=>by simp[ee]
 |a::b::r=>by
  have:=Q1 c r;simp only[ee,List.length_cons];omega
theorem Q2 (c:Int):∀l:List (List Int),oz (l.map fun l=>ins 1 0 0 0 0::ee c l)≤2*bC (l.map mA)
 |[]=>by simp[oz]
 |x::r=>by
  have h1:=Q2 c r;have h2:=Q1 c x;have h3:=Vx x;have h4:1+x.length≤dP (mA x):=by
   have:=vq (fun n=>D.int .i64 n) x;simp only[mA,dP];omega
  simp only[oz,List.map_cons,List.sum_cons,bC,List.length_cons]at h1⊢;omega
section
variable {vs:List Vr}
theorem KN:∀l:List Ex,oz (l.map fun x=>(ak vs x).1)≤2*bC (ga l)
 |[]=>by simp[oz]
 |x::r=>by
  have h1:=KN r;have h2:=uB (vs:=vs) x;have h3:=EE x;simp only[oz,List.map_cons,List.sum_cons,ga,bC]at h1⊢;omega
theorem KO (name:Tx):∀(fs:List Tx) (xs:List Ex),(dM vs name fs xs).length≤2*bC (ga xs)
 |[],xs=>by cases xs<;>simp[dM]
 |_::_,[]=>by simp[dM]
 |f::fs,x::xs=>by
  have h1:=KO name fs xs;have h2:=uB (vs:=vs) x;have h3:=EE x;simp only[dM,List.length_append,List.length_cons,ga,bC];omega
mutual
theorem abC:∀(s:Sm) (c:Int),(cV vs s c).1.length+1≤2*dP (cC s)
 | .mk op name to val conds labels fields blocks line,c=>by
  have h1:=fun c=>KP blocks c;have h2:=fun c=>abD blocks c;have a1:=VN to;have a2:=VN val;have a3:=abA (vs:=vs) val;have a4:=WW (vs:=vs) to;have a5:=KN (vs:=vs) conds;have a6:=CN (vs:=vs) conds;have a7:=KO (vs:=vs) name fields conds;simp only[cC,dP,bC,ph];unfold cV;split
  ·split
   ·simp only[List.length_append,List.length_cons,List.length_nil];omega
   ·simp only[List.length_append,List.length_cons,List.length_nil];omega
  ·split
   ·have q1:=h1 c;have q2:=EG (conds.map fun x=>(ak vs x).1) (ar vs blocks c).1;simp only;omega
   ·split
    ·have q1:=h1 (c+1);have q2:=EG (labels.map fun l=>ins 1 0 0 0 0::ee c l) (ar vs blocks (c+1)).1;have q3:=Q2 c labels;simp only[dL,List.length_append,List.length_cons,List.length_nil];omega
    ·split
     ·have q1:=h2 (c+2);simp only[dL,kK,nf,kV,List.length_append,List.length_cons,List.length_nil];omega
     ·split
      ·have q1:=h2 c;simp only[iv,nf,kV,List.length_append,List.length_cons,List.length_nil];omega
      ·split
       ·have q1:=h2 c;simp only[lZ,nf,kV,List.length_append,List.length_cons,List.length_nil];omega
       ·split
        ·simp only[List.length_cons,List.length_nil];omega
        ·split
         ·simp only[List.length_cons,List.length_nil];omega
         ·simp only[List.length_append,List.length_cons,List.length_nil];omega
theorem yG:∀(l:List Sm) (c:Int),(ag vs l c).1.length≤2*bC (lf l)
 |[],c=>by simp[ag]
 |x::r,c=>by
  have h1:=abC x c;have h2:=yG r (cV vs x c).2;simp only[ag,lf,bC,dL,List.length_cons,List.length_nil];omega
theorem KP:∀(l:List (List Sm)) (c:Int),oz (ar vs l c).1≤2*bC (ld l)
 |[],c=>by simp[ar,oz]
 |b::r,c=>by
  have h1:=yG b c;have h2:=KP r (ag vs b c).2;simp only[oz]at h2;simp only[ar,ld,bC,dP,oz,List.map_cons,List.sum_cons];omega
theorem abD:∀(l:List (List Sm)) (c:Int),(lj vs l c).1.length≤2*bC (ld l)
 |[],c=>by simp[lj]
 |b::r,c=>by
  have h1:=yG b c;simp only[lj,ld,bC,dP];omega
end
end
mutual
theorem afB:∀s:Sm,uy s≤dP (cC s)
 | .mk op name to val conds labels fields blocks line=>by
  have:=Q3 blocks;simp only[uy,cC,dP,bC,ph];omega
theorem Hu:∀l:List Sm,ix l≤bC (lf l)
 |[]=>by simp[ix]
 |x::r=>by
  have h1:=afB x;have h2:=Hu r;simp only[ix,lf,bC];omega
theorem Q3:∀l:List (List Sm),tJ l≤bC (ld l)
 |[]=>by simp[tJ]
 |b::r=>by
  have h1:=Hu b;have h2:=Q3 r;simp only[tJ,ld,bC,dP];omega
end
theorem NJ (p:Pg) {n:Nat} (h:dP (.agg [.str p.name,.list (p.vars.map bG),.list (p.body.map cC)])<n):
 (∀c,(ag p.vars (dD p.body) c).1.length<2*n)∧ix (dD p.body)<n∧(dD p.body).length<n:=by
 simp only[dP,bC]at h;rw[←ue]at h;have h0:=Ht p.body;have h1:=Hu (dD p.body);have h2:=lX (lf (dD p.body));rw[Ak]at h2;refine⟨fun c=>?_,by omega,by omega⟩;have:=yG (vs:=p.vars) (dD p.body) c;omega
end Go.Am
end
section
namespace Go.Am
open Go Go.Proofs
variable [Inhabited b6]
set_option maxRecDepth 20000
@[simp] def VQ (p:Int×Bool):AV:=.aU [.d (.int .i64 p.1),.d (.bool p.2)]
@[simp] def abE (p:Int×Int):AV:=.aU [.d (.int .i64 p.1),.d (.int .i64 p.2)]
theorem TR (a b:Int) (ha:aZ a) (hb:aZ b):ai ctx 265 [.d (.int .i64 a),.d (.int .i64 b)] []=some (.ret (VQ (kF (a+b))),[]):=by
 have hw:IntKind.i64.wrap (a+b)=(a+b+9223372036854775808)%18446744073709551616-9223372036854775808:=IntKind.wrap_i64 _;unfold aZ at ha hb;rw[ZZ (by simp)];unfold kF;by_cases h1:0≤a<;>by_cases h2:0≤b<;>by_cases h3:0≤IntKind.i64.wrap (a+b)<;>by_cases h4:(-9223372036854775808≤a+b∧a+b≤9223372036854775807)<;>
  first
  |(exfalso;omega)
  |(simp[Tryz.f265,h1,h2,h3,h4];try omega)
theorem Hv (a b:Int) (ha:aZ a) (hb:aZ b):ai ctx 264 [.d (.int .i64 a),.d (.int .i64 b)] []=some (.ret (VQ (kF (a-b))),[]):=by
 have hw:IntKind.i64.wrap (a-b)=(a-b+9223372036854775808)%18446744073709551616-9223372036854775808:=IntKind.wrap_i64 _;unfold aZ at ha hb;rw[ZY (by simp)];unfold kF;by_cases h1:0≤a<;>by_cases h2:0≤b<;>by_cases h3:0≤IntKind.i64.wrap (a-b)<;>by_cases h4:(-9223372036854775808≤a-b∧a-b≤9223372036854775807)<;>
  first
  |(exfalso;omega)
  |(simp[Tryz.f264,h1,h2,h3,h4];try omega)
theorem D4 (a:Int) (ha:aZ a):ai ctx 298 [.d (.int .i64 a)] []=some (.ret (.d (.int .u64 (a.natAbs:Nat))),[]):=by
 unfold aZ at ha;rw[Z4 (by simp)];have h1:=IntKind.wrap_u64 a;by_cases h:a<0
 ·have h2:IntKind.u64.wrap (-IntKind.u64.wrap a)=(a.natAbs:Nat):=by rw[h1,IntKind.wrap_u64];omega
  simp[Tryz.f298,h,h2]
 ·have h2:IntKind.u64.wrap a=(a.natAbs:Nat):=by rw[h1];omega
  simp[Tryz.f298,h,h2]
theorem Ir (n:Nat) (hn:n<18446744073709551616) (s:Bool):ai ctx 299 [.d (.int .u64 n),.d (.bool s)] []=some (.ret (VQ (kF (if s=true then-(n:Int)else n))),[]):=by
 rw[Z5 (by simp)];have h1:=IntKind.wrap_i64 (n:Int);unfold kF;cases s
 ·by_cases h:n≤9223372036854775807
  ·have h2:(n:Int)≤9223372036854775807:=by omega
   have h3:IntKind.i64.wrap (n:Int)=n:=by rw[h1];omega
   have h4: -9223372036854775808≤(n:Int):=by omega
   simp[Tryz.f299,h2,h3,h4]
  ·have h2:¬(n:Int)≤9223372036854775807:=by omega
   simp[Tryz.f299,h2]
 ·by_cases h:n≤9223372036854775808
  ·have h2:(n:Int)≤9223372036854775808:=by omega
   have h3:IntKind.i64.wrap (-(IntKind.i64.wrap (n:Int)))= -(n:Int):=by rw[h1,IntKind.wrap_i64];omega
   have h4: -9223372036854775808≤ -(n:Int):=by omega
   have h5: -(n:Int)≤9223372036854775807:=by omega
   simp[Tryz.f299,h2,h3,h4,h5]
  ·have h2:¬(n:Int)≤9223372036854775808:=by omega
   have h4:¬ -9223372036854775808≤ -(n:Int):=by omega
   simp[Tryz.f299,h2,h4]
def vE (k:IntKind) (a b:Int):Int:=k.wrap (BitVec.ofInt k.bits a &&& BitVec.ofInt k.bits b).toNat
def Hx (k:IntKind) (a b:Int):Int:=k.wrap (BitVec.ofInt k.bits a ||| BitVec.ofInt k.bits b).toNat
theorem B5 (k:IntKind) (a b:Int):intBin .and k a b=some (true,.int k (vE k a b)):=rfl
theorem Q4 (k:IntKind) (a b:Int):intBin .or k a b=some (true,.int k (Hx k a b)):=rfl
theorem afC (a:Nat) (ha:a<18446744073709551616):vE .u64 (a:Int) 4294967295=((a%4294967296:Nat):Int):=by
 show IntKind.u64.wrap (BitVec.ofInt 64 (a:Int) &&& BitVec.ofInt 64 4294967295).toNat=_;have e:(BitVec.ofInt 64 (a:Int) &&& BitVec.ofInt 64 4294967295).toNat=a%4294967296:=by
  rw[BitVec.toNat_and,BitVec.toNat_ofInt,BitVec.toNat_ofInt];have e1:((a:Int)%((2^64:Nat):Int)).toNat=a:=by omega
  have e2:((4294967295:Int)%((2^64:Nat):Int)).toNat=4294967295:=by decide
  rw[e1,e2];exact Nat.and_two_pow_sub_one_eq_mod a 32
 rw[e,IntKind.wrap_u64];omega
theorem Q5 (x y:Nat) (hx:x<18446744073709551616) (hy:y<18446744073709551616):
 ai ctx 297 [.d (.int .u64 x),.d (.int .u64 y)] []=some (.ret (.aU [.d (.int .u64 (x*y/18446744073709551616:Nat)),.d (.int .u64 (x*y%18446744073709551616:Nat))]),[]):=by
 have mN:∀a:Nat,a<18446744073709551616→vE .u64 (a:Int) 4294967295=((a%4294967296:Nat):Int):=fun a ha=>afC a ha;have fN:∀a:Nat,(a:Int).fdiv 4294967296=((a/4294967296:Nat):Int):=fun a=>by rw[Int.fdiv_eq_ediv_of_nonneg _ (by decide)];omega
 have mul':∀a b:Nat,(a:Int)*(b:Int)=((a*b:Nat):Int):=fun a b=>(Int.natCast_mul a b).symm;have Hy:∀a b:Nat,(a:Int)+(b:Int)=((a+b:Nat):Int):=fun a b=>(Int.natCast_add a b).symm;have wN:∀a:Nat,a<18446744073709551616→IntKind.u64.wrap (a:Int)=(a:Int):=fun a h=>by rw[IntKind.wrap_u64];omega
 have wM:∀a:Nat,IntKind.u64.wrap (a:Int)=((a%18446744073709551616:Nat):Int):=fun a=>by rw[IntKind.wrap_u64];omega
 obtain⟨bd,bt,bw,nt⟩:=Lib.mul64_hi x y hx hy;have ba:=Lib.half_mul_le (a:=x/4294967296) (b:=y/4294967296) (by omega) (by omega);have bb:=Lib.half_mul_le (a:=x/4294967296) (b:=y%4294967296) (by omega) (by omega);have bc:=Lib.half_mul_le (a:=x%4294967296) (b:=y/4294967296) (by omega) (by omega);have m1:=mN x hx;have m2:=mN y hy;have f1:=fN x;have f2:=fN y;have lx0:x%4294967296<4294967296:=by omega
 have lx1:x/4294967296<4294967296:=by omega
 have ly0:y%4294967296<4294967296:=by omega
 have ly1:y/4294967296<4294967296:=by omega
 have k9:IntKind.u64.wrap ((x:Int)*(y:Int))=((x*y%18446744073709551616:Nat):Int):=by rw[mul',wM]
 have lhi:x*y/18446744073709551616<18446744073709551616:=by
  have:x*y<18446744073709551616*18446744073709551616:=Nat.mul_lt_mul_of_lt_of_lt hx hy;omega
 generalize x*y%18446744073709551616=lo at k9⊢;generalize x*y/18446744073709551616=hi at nt lhi⊢;generalize x%4294967296=x0 at bd bt bw nt ba bb bc m1 lx0;generalize x/4294967296=x1 at bd bt bw nt ba bb bc f1 lx1;generalize y%4294967296=y0 at bd bt bw nt ba bb bc m2 ly0;generalize y/4294967296=y1 at bd bt bw nt ba bb bc f2 ly1;generalize ht:x1*y0+x0*y0/4294967296=t at bt bw nt;generalize oJ:t%4294967296+x0*y1=w1 at bw nt;have k1:IntKind.u64.wrap ((x0:Int)*(y0:Int))=((x0*y0:Nat):Int):=by rw[mul',wN _ bd]
 have k2:IntKind.u64.wrap ((x1:Int)*(y0:Int))=((x1*y0:Nat):Int):=by rw[mul',wN _ (by omega)]
 have k3:IntKind.u64.wrap (((x1*y0:Nat):Int)+((x0*y0/4294967296:Nat):Int))=(t:Int):=by rw[Hy,ht,wN _ bt]
 have k4:IntKind.u64.wrap ((x0:Int)*(y1:Int))=((x0*y1:Nat):Int):=by rw[mul',wN _ (by omega)]
 have k5:IntKind.u64.wrap (((t%4294967296:Nat):Int)+((x0*y1:Nat):Int))=(w1:Int):=by rw[Hy,oJ,wN _ bw]
 have k6:IntKind.u64.wrap ((x1:Int)*(y1:Int))=((x1*y1:Nat):Int):=by rw[mul',wN _ (by omega)]
 have k7:IntKind.u64.wrap (((x1*y1:Nat):Int)+((t/4294967296:Nat):Int))=((x1*y1+t/4294967296:Nat):Int):=by rw[Hy,wN _ (by omega)]
 have k8:IntKind.u64.wrap (((x1*y1+t/4294967296:Nat):Int)+((w1/4294967296:Nat):Int))=(hi:Int):=by rw[Hy,nt,wN _ lhi]
 have fk:=fun a=>fN a;have mt:=mN t bt;rw[Z3 (by simp)];have f3:=fN t;have f4:=fN w1;have f5:=fN (x0*y0);clear fk mN fN Hy wN wM ht oJ nt;generalize hpd:x0*y0/4294967296=pd at k3 f5;generalize as8:x0*y0=p00 at k1 f5;generalize as9:x1*y0=p10 at k2 k3;generalize ata:x0*y1=p01 at k4 k5;generalize ht7:t/4294967296=td at k7 k8 f3;generalize htm:t%4294967296=tm at k5 mt;generalize hwd:w1/4294967296=wd at k8 f4;generalize hpp:x1*y1+td=ptd at k7 k8;generalize atb:x1*y1=p11 at k6 k7;simp[Tryz.f297, -intBin.eq_6,B5,zH,IntKind.bits,m1,m2,f1,f2,f3,f4,f5,mt,k1,k2,k3,k4,k5,k6,k7,k8,k9]
theorem TS (a b:Int) (ha:aZ a) (hb:aZ b):ai ctx 266 [.d (.int .i64 a),.d (.int .i64 b)] []=some (.ret (VQ (kF (a*b))),[]):=by
 have sa:=D4 a ha;have sb:=D4 b hb;unfold aZ at ha hb;have la:a.natAbs<18446744073709551616:=by omega
 have lb:b.natAbs<18446744073709551616:=by omega
 have hm:=Q5 _ _ la lb;have sm:=Wh a b;have hs:=fun s=>Ir (a.natAbs*b.natAbs%18446744073709551616) (by omega) s;generalize hx:a.natAbs=x at*;generalize hy:b.natAbs=y at*;have mul':((x*y:Nat):Int)=(x:Int)*(y:Int):=Int.natCast_mul x y;generalize x*y=p at*;have hd:(a<0↔b<0)=(decide (a<0)=decide (b<0)):=by simp
 rw[Z0 (by simp)];have hf:¬p/18446744073709551616=0→kF (a*b)=(0,false):=by
  intro h;unfold kF;rw[if_neg];rw[sm];split<;>omega
 by_cases hp:p/18446744073709551616=0
 ·have rC:p%18446744073709551616=p:=by omega
  rw[rC]at hs hm;rw[hp]at hm;have e:(if (decide (a<0) != decide (b<0))=true then-(p:Int)else (p:Int))=a*b:=by
   rw[sm];by_cases h:decide (a<0)=decide (b<0)<;>simp[h]
  have pJ:=hs (decide (a<0) != decide (b<0));rw[e]at pJ;try simp at hm
  try simp at pJ
  simp[Tryz.f266,sa,sb,hm,pJ]
 ·have hf:=hf hp;have yX:¬((p/18446744073709551616:Nat):Int)=0:=by omega
  generalize p/18446744073709551616=q at*;generalize p%18446744073709551616=r at*;try simp at hm
  simp[Tryz.f266,sa,sb,hm,hf,hp,yX]
theorem TU (a b:Int) (ha:aZ a) (hb:aZ b):ai ctx 267 [.d (.int .i64 a),.d (.int .i64 b)] []=some (.ret (abE (xB a b)),[]):=by
 rw[Z1 (by simp)];unfold xB;by_cases h0:b=0
 ·simp[Tryz.f267,h0]
 ·by_cases h1:a= -9223372036854775808
  ·by_cases h2:b= -1
   ·simp[Tryz.f267,h0,h1,h2]
   ·have w:IntKind.i64.wrap (a.tdiv b)=a.tdiv b:=ay (by
     have hq:=Gg a b;unfold aZ at*;have hle:a.natAbs/b.natAbs≤9223372036854775808:=by
      have:=Nat.div_le_self a.natAbs b.natAbs;omega
     have RD:decide (a<0)=decide (b<0)→a.natAbs/b.natAbs≤4611686018427387904:=by
      intro hd;rw[h1]at hd;simp at hd;have aS:2≤b.natAbs:=by omega
      have h3:=Nat.div_le_div_left aS (by decide) (a:=a.natAbs);have h4:a.natAbs=9223372036854775808:=by omega
      rw[h4]at h3⊢;exact h3
     generalize a.natAbs/b.natAbs=q at*;split at hq
     ·rename_i hd;have:=RD hd;omega
     ·omega)
    rw[h1]at w;simp at w;simp[Tryz.f267,h0,h1,h2,w]
  ·have w:IntKind.i64.wrap (a.tdiv b)=a.tdiv b:=ay (by
    have hq:=Gg a b;unfold aZ at*;have hle:a.natAbs/b.natAbs≤a.natAbs:=Nat.div_le_self _ _;generalize a.natAbs/b.natAbs=q at*;split at hq<;>omega)
   simp[Tryz.f267,h0,h1,w]
theorem TV (a b:Int) (ha:aZ a) (hb:aZ b):ai ctx 268 [.d (.int .i64 a),.d (.int .i64 b)] []=some (.ret (abE (Af a b)),[]):=by
 rw[Z2 (by simp)];unfold Af;by_cases h0:b=0
 ·simp[Tryz.f268,h0]
 ·by_cases h2:b= -1
  ·simp[Tryz.f268,h0,h2]
  ·simp[Tryz.f268,h0,h2]
theorem oA (b:Bool):ai ctx 194 [.d (.bool b)] []=some (.ret (.d (.int .i64 (dJ b))),[]):=by
 rw[ZG (by simp)];cases b<;>simp[Tryz.f194,dJ]
@[simp] theorem wr0:IntKind.i64.wrap 0=0:=rfl
@[simp] theorem wr1:IntKind.i64.wrap 1=1:=rfl
@[simp] theorem wr2:IntKind.i64.wrap 2=2:=rfl
@[simp] theorem wr3:IntKind.i64.wrap 3=3:=rfl
@[simp] theorem wr4:IntKind.i64.wrap 4=4:=rfl
@[simp] theorem atc:IntKind.i64.wrap (-1)= -1:=rfl
@[simp] theorem wu0:IntKind.u64.wrap 0=0:=rfl
@[simp] theorem wu1:IntKind.u64.wrap 1=1:=rfl
theorem Q6 (op a:Int) (t:Bool) (ha:aZ a) (ht:t=true→a=0∨a=1):ai ctx 212 [.d (.int .i64 op),.d (.int .i64 a),.d (.bool t)] []=some (.ret (IY (qC op a t)),[]):=by
 have hs:=Hv 0 a (by unfold aZ;omega) ha;rw[ZS (by simp)];unfold qC;generalize kF (0-a)=p at*;cases t
 ·by_cases h6:op=6
  ·simp at hs;cases hf:p.2<;>simp[Tryz.f212,h6,hf,hs,tE]
  ·simp[Tryz.f212,h6,kZ]
 ·rcases ht rfl with rfl|rfl<;>by_cases h7:op=7
  ·simp[Tryz.f212,h7,dJ,wr0,wr1]
  ·simp[Tryz.f212,h7,kZ]
  ·simp[Tryz.f212,h7,dJ,wr0,wr1]
  ·simp[Tryz.f212,h7,kZ]
theorem Hz (op a b:Int) (ha:a=0∨a=1) (hb:b=0∨b=1):ai ctx 213 [.d (.int .i64 op),.d (.int .i64 a),.d (.int .i64 b)] []=some (.ret (IY (Gi op a b)),[]):=by
 have a00:vE .i64 0 0=0:=by decide
 have a01:vE .i64 0 1=0:=by decide
 have KQ:vE .i64 1 0=0:=by decide
 have KR:vE .i64 1 1=1:=by decide
 have o00:Hx .i64 0 0=0:=by decide
 have o01:Hx .i64 0 1=1:=by decide
 have o10:Hx .i64 1 0=1:=by decide
 have o11:Hx .i64 1 1=1:=by decide
 rw[ZT (by simp)];unfold Gi;have hc:op=13∨op=14∨op=20∨op=19∨op=21∨(op≠13∧op≠14∧op≠20∧op≠19∧op≠21):=by omega
 rcases ha with rfl|rfl<;>rcases hb with rfl|rfl<;>rcases hc with rfl|rfl|rfl|rfl|rfl|⟨h1,h2,h3,h4,h5⟩<;>
  simp[Tryz.f213,oA, -intBin.eq_6, -intBin.eq_7,B5,Q4,dJ,kZ, *]
theorem HA (op a b:Int) (h:13≤op∧op≤18):ai ctx 215 [.d (.int .i64 op),.d (.int .i64 a),.d (.int .i64 b)] []=some (.ret (IY (BB op a b)),[]):=by
 rw[ZV (by simp)];unfold BB;have hc:op=13∨op=14∨op=15∨op=16∨op=17∨op=18:=by omega
 rcases hc with rfl|rfl|rfl|rfl|rfl|rfl<;>simp[Tryz.f215,oA,bne]
theorem HD (op a b:Int) (h:8≤op∧op≤12) (ha:aZ a) (hb:aZ b):ai ctx 214 [.d (.int .i64 op),.d (.int .i64 a),.d (.int .i64 b)] []=some (.ret (IY (BB op a b)),[]):=by
 have q1:=TR a b ha hb;have q2:=Hv a b ha hb;have q3:=TS a b ha hb;have q4:=TU a b ha hb;have q5:=TV a b ha hb;have hc:op=8∨op=9∨op=10∨op=11∨op=12:=by omega
 rw[ZU (by simp)];unfold BB;generalize kF (a+b)=f1 at*;generalize kF (a-b)=f2 at*;generalize kF (a*b)=f3 at*;generalize xB a b=f4 at*;generalize Af a b=f5 at*;simp at q1 q2 q3 q4 q5;rcases hc with rfl|rfl|rfl|rfl|rfl
 ·cases hf:f1.2<;>simp[Tryz.f214,q1,hf,tE]
 ·cases hf:f2.2<;>simp[Tryz.f214,q2,hf,tE]
 ·cases hf:f3.2<;>simp[Tryz.f214,q3,hf,tE]
 ·by_cases h3:f4.2=3
  ·simp[Tryz.f214,q4,h3,pe]
  ·by_cases h0:f4.2=0<;>simp[Tryz.f214,q4,h0,h3,pe]
 ·by_cases h3:f5.2=3
  ·simp[Tryz.f214,q5,h3,pe]
  ·by_cases h0:f5.2=0<;>simp[Tryz.f214,q5,h0,h3,pe]
theorem It (op a:Int) (t:Bool) (ha:aZ a):ai ctx 152 [.d (.int .i64 op),.d (.list [.int .i64 a]),.d (.bool t)] []=some (.ret (IY (qC op a t)),[]):=by
 rw[Qb (by simp)];by_cases hb:t=true∧a≠0∧a≠1
 ·obtain⟨rfl,h0,h1⟩:=hb;simp[Tryz.f152];rw[ah];simp[h0,h1,qC,kZ]
 ·have h1:=Q6 op a t ha (by intro h;subst h;simp at hb;omega);have hg:(t&&(a != 0))=true→a=1:=by simp;intro h1 h2;simp[h1]at hb;exact hb h2
  generalize qC op a t=p at*;simp at h1;cases t
  ·simp[Tryz.f152];rw[ah];simp;rw[ah];simp[h1]
  ·have rB:a=0∨a=1:=by simp at hg;omega
   rcases rB with rfl|rfl
   ·simp[Tryz.f152];rw[ah];simp;rw[ah];simp[h1]
   ·simp[Tryz.f152];rw[ah];simp;rw[ah];simp[h1]
theorem Iu (op a b:Int) (t:Bool) (ha:aZ a) (hb:aZ b):ai ctx 152 [.d (.int .i64 op),.d (.list [.int .i64 a,.int .i64 b]),.d (.bool t)] []=some (.ret (IY (ub op a b t)),[]):=by
 rw[Qb (by simp)];have cmp:=fun h=>HA op a b h;have rck:=fun h=>HD op a b h ha hb;have qA:=fun h1 h2=>Hz op a b h1 h2;unfold ub;cases t
 ·have yY:¬(8≤op∧op≤12)→¬(13≤op∧op≤18)→BB op a b=kZ:=by
   intro h1 h2;unfold BB;simp only[show ¬op=8 by omega,show ¬op=9 by omega,show ¬op=10 by omega,show ¬op=11 by omega,show ¬op=12 by omega,show ¬op=13 by omega,show ¬op=14 by omega,show ¬op=15 by omega,show ¬op=16 by omega,show ¬op=17 by omega,show ¬op=18 by omega,if_false]
  generalize BB op a b=p at*;simp[Tryz.f152];rw[ah];simp;rw[ah];simp;rw[ah];simp;by_cases h1:8≤op∧op≤12
  ·have r:=rck h1;simp at r;simp[h1.1,h1.2,r,aI]
  ·by_cases h2:13≤op∧op≤18
   ·have r:=cmp h2;have h3:¬op≤12:=by omega
    have h4:8≤op:=by omega
    simp at r;simp[h2.1,h2.2,h3,h4,r,aI]
   ·have hp:=yY h1 h2;subst hp;by_cases h5:8≤op
    ·have h6:¬op≤12:=by omega
     have h7:13≤op:=by omega
     have h8:¬op≤18:=by omega
     simp[h5,h6,h7,h8,kZ]
    ·have h7:¬13≤op:=by omega
     simp[h5,h7,kZ]
 ·by_cases h1:a=0∨a=1
  ·by_cases h2:b=0∨b=1
   ·have r:=qA h1 h2;generalize Gi op a b=p at*;rcases h1 with rfl|rfl<;>rcases h2 with rfl|rfl<;>
     (simp at r
      simp[Tryz.f152];rw[ah];simp;rw[ah];simp;rw[ah];simp[r,aI])
   ·have h3:¬b=0:=by omega
    have h4:¬b=1:=by omega
    rcases h1 with rfl|rfl<;>
     (simp[Tryz.f152]
      rw[ah];simp;rw[ah];simp[h3,h4,kZ])
  ·have h3:¬a=0:=by omega
   have h4:¬a=1:=by omega
   simp[Tryz.f152];rw[ah];simp[h3,h4,kZ]
def rX (o:Option (Int×Bool)):Out:=match o with|some c=>.ret (.aU [.d (.int .i64 c.1),.d (.bool c.2),.d (.bool true)])|none=>.ret (.aU [.d (.int .i64 0),.d (.bool false),.d (.bool false)])
theorem Q7 (n:Int) (t:Bool) (line:Int):ai ctx 195 [.d (.int .i64 n),.d (.bool t),.d (.int .i64 line)] []=some (.ret (.d (bL (lE n t line))),[]):=by
 rw[ZH (by simp)];cases t with
 |true=>simp[Tryz.f195,lE,bL,ga]
 |false=>
  by_cases h:0≤n
  ·simp[Tryz.f195,lE,bL,ga,h]
  ·simp[Tryz.f195,lE,bL,ga,h,Kl]
theorem yH (x:Ex):ai ctx 193 [.d (bL x)] []=some (rX (jt x),[]):=by
 obtain⟨op,n,name,field,sub,line⟩:=x;rw[ZF (by simp)];simp[Tryz.f193,aA];by_cases h1:op=1
 ·subst h1;simp[jt,rX]
 by_cases h2:op=2
 ·subst h2;simp[jt,rX]
 by_cases h6:op=6
 ·subst h6;match sub with
  |[]=>simp[jt,rX]
  |[y]=>
   by_cases hy:bO y=1
   ·simp[jt,rX,hy,aA,Kl]
   ·simp[jt,rX,hy,aA]
  |y::z::r=>
   have bE:¬((r.length:Int)+1+1=1):=by omega
   simp[jt,rX,bE]
 ·simp[jt,rX,h1,h2,h6]
def s4 (y:Ex):Prop:=ai ctx 124 [.d (bL y)] []=some (.ret (.d (bL (cU y))),[])
theorem HE (l:List Ex) (jI:l.length<100000000) (A B:cJ) (hA:A.key=150) (hB:B.key=200) (C1 C2:aD) (k:Kt) (Q:List Ex→bU→Prop)
 (hx:∀(Y:Env) (out:List Ex) v v3 X3,Q out (k (.exit 0) ⟨105,aB,(1,true,.ptr 150 1 0)::(2,true,.ptr 200 1 0)::(3,true,.vec 250 v 0 out.length)::Y,[A,B,⟨250,v,.vec 6 (out.map bL)⟩,⟨350,v3,X3⟩,⟨550,0,C1⟩,⟨700,0,C2⟩]⟩)):
 ∀(rest pre out:List Ex) (v v3:Nat) (X3:aD),l=pre++rest→out.length=pre.length→(∀y∈rest,s4 y)→
 Q (out++cP rest) (aG ctx 124 (.loop (Code.at (bh Tryz.f124) [1,1,0,1,0,0])) ⟨105,aB,[(1,true,.ptr 150 1 0),(2,true,.ptr 200 1 0),(3,true,.vec 250 v 0 out.length),(20,true,.d (.list (l.map bL))),(21,true,.d (.int .i64 l.length)),(22,true,.d (.int .i64 pre.length))],[A,B,⟨250,v,.vec 6 (out.map bL)⟩,⟨350,v3,X3⟩,⟨550,0,C1⟩,⟨700,0,C2⟩]⟩ k)
 |[],pre,out,v,v3,X3,hd,ho,hK=>by
  have cw:pre.length=l.length:=by rw[hd];simp
  have:=hx [(20,true,.d (.list (l.map bL))),(21,true,.d (.int .i64 l.length)),(22,true,.d (.int .i64 l.length)),(23,true,.d (.bool false))] out v v3 X3;simp[cP]at this⊢;rw[cw,ah];simp[Tryz.f124,this]
 |x::rest,pre,out,v,v3,X3,hd,ho,hK=>by
  have aV:pre.length<l.length:=by rw[hd];simp
  have aS:l[pre.length]=x:=by simp[hd]
  have hk:=hK x (by simp);unfold s4 at hk;have ih:=fun v v3 X3=>HE l jI A B hA hB C1 C2 k Q hx rest (pre++[x]) (out++[cU x]) v v3 X3 (by simp[hd]) (by simp[ho]) (fun y hy=>hK y (by simp[hy]));have w1:IntKind.i64.wrap ((pre.length:Int)+1)=(pre.length:Int)+1:=ay (by unfold aZ;omega);have w3:out.length≤4611686018427387903:=by omega
  have w4:(out.length+1)*80≤140737488355328:=by omega
  have e:out++cP (x::rest)=out++[cU x]++cP rest:=by simp[cP]
  rw[e,ah];generalize cU x=x' at*;simp[Tryz.f124,aA]at ih hk⊢;simp[aV,aS,hA,hB,aA,hk,w1,w3,w4,ih]
theorem HF (l:List Ex) (jI:l.length<100000000) (k:Kt) (Q:List Ex→bU→Prop)
 (hx:∀(Y:Env) (out:List Ex) v v3 X3,Q out (k (.exit 0) ⟨19,aB,(3,true,.vec 250 v 0 out.length)::Y,[⟨250,v,.vec 6 (out.map bL)⟩,⟨350,v3,X3⟩]⟩)):
 ∀(rest pre out:List Ex) (v v3:Nat) (X3:aD),l=pre++rest→out.length=pre.length→(∀y∈rest,s4 y)→
 Q (out++cP rest) (aG ctx 125 (.loop (Code.at (bh Tryz.f125) [1,1,0,1,0,0])) ⟨19,aB,[(3,true,.vec 250 v 0 out.length),(6,true,.d (.list (l.map bL))),(7,true,.d (.int .i64 l.length)),(8,true,.d (.int .i64 pre.length))],[⟨250,v,.vec 6 (out.map bL)⟩,⟨350,v3,X3⟩]⟩ k)
 |[],pre,out,v,v3,X3,hd,ho,hK=>by
  have cw:pre.length=l.length:=by rw[hd];simp
  have:=hx [(6,true,.d (.list (l.map bL))),(7,true,.d (.int .i64 l.length)),(8,true,.d (.int .i64 l.length)),(9,true,.d (.bool false))] out v v3 X3;simp[cP]at this⊢;rw[cw,ah];simp[Tryz.f125,this]
 |x::rest,pre,out,v,v3,X3,hd,ho,hK=>by
  have aV:pre.length<l.length:=by rw[hd];simp
  have aS:l[pre.length]=x:=by simp[hd]
  have hk:=hK x (by simp);unfold s4 at hk;have ih:=fun v v3 X3=>HF l jI k Q hx rest (pre++[x]) (out++[cU x]) v v3 X3 (by simp[hd]) (by simp[ho]) (fun y hy=>hK y (by simp[hy]));have w1:IntKind.i64.wrap ((pre.length:Int)+1)=(pre.length:Int)+1:=ay (by unfold aZ;omega);have w3:out.length≤4611686018427387903:=by omega
  have w4:(out.length+1)*80≤140737488355328:=by omega
  have e:out++cP (x::rest)=out++[cU x]++cP rest:=by simp[cP]
  rw[e,ah];generalize cU x=x' at*;simp[Tryz.f125,aA]at ih hk⊢;simp[aV,aS,aA,hk,w1,w3,w4,ih]
theorem TW (l:List Ex) (jI:l.length<100000000) (hK:∀y∈l,s4 y):ai ctx 125 [.d (.list (l.map bL))] []=some (.ret (.d (.list ((cP l).map bL))),[]):=by
 have dc:=fun k Q hx v v3 X3=>HF l jI k Q hx l [] [] v v3 X3 rfl rfl hK;rw[Zp (by simp)];simp[Tryz.f125]at dc⊢;refine dc _ (fun out r=>out=cP l→r=some (.ret (.d (.list ((cP l).map bL))),[])) (fun Y out v v3 X3 h=>?_) _ _ _ rfl;subst h;simp
end Go.Am
end
section
namespace Go.Am
open Go Go.Proofs
variable [Inhabited b6]
set_option maxRecDepth 20000
set_option maxHeartbeats 4000000
theorem alF {α:Type} {l:List α} (h:l.length=2):∃a b,l=[a,b]:=by
 match l,h with
 |[a,b],_=>exact⟨a,b,rfl⟩
theorem abF {op n line:Int} {name field:Tx} {sub:List Ex} (jI:sub.length<100000000) (hs:6≤op→sub.length=1∨sub.length=2) (hK:∀y∈sub,s4 y) (hC:∀y∈sub,∀c,jt (cU y)=some c→aZ c.1):s4 (.mk op n name field sub line):=by
 have dc:=fun A B hA hB C1 C2 k Q hx v v3 X3=>HE sub jI A B hA hB C1 C2 k Q hx sub [] [] v v3 X3 rfl rfl hK;unfold s4;have e:cU (.mk op n name field sub line)=kz (.mk op n name field (cP sub) line):=by simp[cU]
 rw[e];have Q8:∀y∈cP sub,∀c,jt y=some c→aZ c.1:=by
  rw[lY];intro y hy;obtain⟨z,hz,rfl⟩:=List.mem_map.1 hy;exact hC z hz
 have pJ:6≤op→(cP sub).length=1∨(cP sub).length=2:=by rw[lY];simpa using hs
 obtain⟨R,hR⟩:∃R,R=bL (kz (.mk op n name field (cP sub) line)):=⟨_,rfl⟩;rw[←hR,Zo (by simp)];simp[Tryz.f124,aA]at dc⊢;refine dc _ _ ?_ ?_ _ _ _ (fun out r=>out=cP sub→r=some (.ret (.d R),[])) (fun Y out v v3 X3 h=>?_) _ _ _ rfl
 ·rfl
 ·rfl
 subst h;generalize cP sub=out at*;have hc:=yH (.mk op n name field out line);by_cases h6:op<6
 ·have hv:kz (.mk op n name field out line)=.mk op n name field out line:=by simp[kz,h6]
  rw[hv]at hR;subst hR;simp[Tryz.f124,h6,aA]
 cases fu:jt (.mk op n name field out line)with
 |some c=>
  have hv:kz (.mk op n name field out line)=.mk op n name field out line:=by simp[kz,fu]
  rw[hv]at hR;subst hR;rw[fu]at hc;simp[aA]at hc;simp[Tryz.f124,h6,aA,hc,rX]
 |none=>
  rw[fu]at hc;rcases pJ (by omega)with h1|h2
  ·obtain⟨y,rfl⟩:=CE h1;have hy:=yH y;simp[aA,rX]at hc hy;simp[Tryz.f124,h6,aA,hc];rw[ah];cases mP:jt y with
   |none=>
    have hv:kz (.mk op n name field [y] line)=.mk op n name field [y] line:=by simp[kz,m6,mP]
    rw[hv]at hR;subst hR;rw[mP]at hy;simp at hy;simp[aA,hy]
   |some c=>
    obtain⟨a,t⟩:=c;have ha:aZ a:=Q8 y (by simp) _ mP;have ht:=oA t;have cR:=It op a t ha;rw[mP]at hy;simp at hy;have hv:kz (.mk op n name field [y] line)=if (qC op a t).2.2≠0∨((qC op a t).2.1=false∧(qC op a t).1= -9223372036854775808)then .mk op n name field [y] line else lE (qC op a t).1 (qC op a t).2.1 line:=by
     simp[kz,m6,mP,fu,GK,h6]
    rw[hv]at hR;generalize qC op a t=q at*;obtain⟨q1,q2,q3⟩:=q;have hm:=Q7 q1 q2 line;simp only at hR cR;have hq:(q3≠0∧R=bL (.mk op n name field [y] line))∨(q3=0∧q2=false∧q1= -9223372036854775808∧R=bL (.mk op n name field [y] line))∨(∃e,R=bL e∧q3=0∧q2=false∧q1≠ -9223372036854775808∧ai ctx 195 [.d (.int .i64 q1),.d (.bool q2),.d (.int .i64 line)] []=some (.ret (.d (bL e)),[]))∨(∃e,R=bL e∧q3=0∧q2=true∧ai ctx 195 [.d (.int .i64 q1),.d (.bool q2),.d (.int .i64 line)] []=some (.ret (.d (bL e)),[])):=by
     by_cases nh:q3≠0∨(q2=false∧q1= -9223372036854775808)
     ·rw[if_pos nh]at hR;rcases nh with h|h
      ·exact .inl ⟨h,hR⟩
      ·by_cases h3:q3=0
       ·exact .inr (.inl ⟨h3,h.1,h.2,hR⟩)
       ·exact .inl ⟨h3,hR⟩
     ·rw[if_neg nh]at hR;simp only[not_or,not_and,Classical.not_not]at nh;cases q2 with
      |true=>exact .inr (.inr (.inr ⟨_,hR,nh.1,rfl,hm⟩))
      |false=>exact .inr (.inr (.inl ⟨_,hR,nh.1,rfl,nh.2 rfl,hm⟩))
    clear hR hm Q8 hC hK dc hs pJ;cases t
    ·simp[dJ]at ht cR;rcases hq with ⟨e3,hR⟩|⟨rfl,rfl,rfl,hR⟩|⟨e,rfl,rfl,rfl,e1,hm⟩|⟨e,rfl,rfl,rfl,hm⟩
     ·subst hR;simp[aA,hy,ht,cR,e3];rw[ah];simp[aA,hy,ht,cR,e3]
     ·subst hR;simp[aA,hy,ht,cR];rw[ah];simp[aA,hy,ht,cR]
     ·simp[aA]at hm;simp[aA,hy,ht,cR,e1,hm];rw[ah];simp[aA,hy,ht,cR,e1,hm]
     ·simp[aA]at hm;simp[aA,hy,ht,cR,hm];rw[ah];simp[aA,hy,ht,cR,hm]
    ·simp[dJ]at ht cR;rcases hq with ⟨e3,hR⟩|⟨rfl,rfl,rfl,hR⟩|⟨e,rfl,rfl,rfl,e1,hm⟩|⟨e,rfl,rfl,rfl,hm⟩
     ·subst hR;simp[aA,hy,ht,cR,e3];rw[ah];simp[aA,hy,ht,cR,e3]
     ·subst hR;simp[aA,hy,ht,cR];rw[ah];simp[aA,hy,ht,cR]
     ·simp[aA]at hm;simp[aA,hy,ht,cR,e1,hm];rw[ah];simp[aA,hy,ht,cR,e1,hm]
     ·simp[aA]at hm;simp[aA,hy,ht,cR,hm];rw[ah];simp[aA,hy,ht,cR,hm]
  ·obtain⟨y,z,rfl⟩:=alF h2;have hy:=yH y;have hz:=yH z;simp[aA,rX]at hc hy hz;simp[Tryz.f124,h6,aA,hc];rw[ah];cases mP:jt y with
   |none=>
    have hv:kz (.mk op n name field [y,z] line)=.mk op n name field [y,z] line:=by simp[kz,m6,mP]
    rw[hv]at hR;subst hR;rw[mP]at hy;simp at hy;simp[aA,hy]
   |some c=>
    obtain⟨a,t⟩:=c;have ha:aZ a:=Q8 y (by simp) _ mP;have ht:=oA t;rw[mP]at hy;simp at hy;cases KT:jt z with
    |none=>
     have hv:kz (.mk op n name field [y,z] line)=.mk op n name field [y,z] line:=by simp[kz,m6,mP,KT]
     rw[hv]at hR;subst hR;rw[KT]at hz;simp at hz ht;simp[aA,hy,ht];rw[ah];simp[aA,hz]
    |some d=>
     obtain⟨b,u⟩:=d;have hb:aZ b:=Q8 z (by simp) _ KT;have hu:=oA u;rw[KT]at hz;simp at hz;by_cases VR:t=u
     ·subst VR;have cR:=Iu op a b t ha hb;have hv:kz (.mk op n name field [y,z] line)=if (ub op a b t).2.2≠0∨((ub op a b t).2.1=false∧(ub op a b t).1= -9223372036854775808)then .mk op n name field [y,z] line else lE (ub op a b t).1 (ub op a b t).2.1 line:=by
       simp[kz,m6,mP,KT,fu,GK,h6]
      rw[hv]at hR;generalize ub op a b t=q at*;obtain⟨q1,q2,q3⟩:=q;have hm:=Q7 q1 q2 line;simp only at hR cR;have hq:(q3≠0∧R=bL (.mk op n name field [y,z] line))∨(q3=0∧q2=false∧q1= -9223372036854775808∧R=bL (.mk op n name field [y,z] line))∨(∃e,R=bL e∧q3=0∧q2=false∧q1≠ -9223372036854775808∧ai ctx 195 [.d (.int .i64 q1),.d (.bool q2),.d (.int .i64 line)] []=some (.ret (.d (bL e)),[]))∨(∃e,R=bL e∧q3=0∧q2=true∧ai ctx 195 [.d (.int .i64 q1),.d (.bool q2),.d (.int .i64 line)] []=some (.ret (.d (bL e)),[])):=by
       by_cases nh:q3≠0∨(q2=false∧q1= -9223372036854775808)
       ·rw[if_pos nh]at hR;rcases nh with h|h
        ·exact .inl ⟨h,hR⟩
        ·by_cases h3:q3=0
         ·exact .inr (.inl ⟨h3,h.1,h.2,hR⟩)
         ·exact .inl ⟨h3,hR⟩
       ·rw[if_neg nh]at hR;simp only[not_or,not_and,Classical.not_not]at nh;cases q2 with
        |true=>exact .inr (.inr (.inr ⟨_,hR,nh.1,rfl,hm⟩))
        |false=>exact .inr (.inr (.inl ⟨_,hR,nh.1,rfl,nh.2 rfl,hm⟩))
      clear hR hm Q8 hC hK dc hs pJ;cases t
      ·simp[dJ]at ht cR;rcases hq with ⟨e3,hR⟩|⟨rfl,rfl,rfl,hR⟩|⟨e,rfl,rfl,rfl,e1,hm⟩|⟨e,rfl,rfl,rfl,hm⟩
       ·subst hR;simp[aA,hy,hz,ht,cR,e3];rw[ah];simp[aA,hy,hz,ht,cR,e3];rw[ah];simp[aA,hy,hz,ht,cR,e3]
       ·subst hR;simp[aA,hy,hz,ht,cR];rw[ah];simp[aA,hy,hz,ht,cR];rw[ah];simp[aA,hy,hz,ht,cR]
       ·simp[aA]at hm;simp[aA,hy,hz,ht,cR,e1,hm];rw[ah];simp[aA,hy,hz,ht,cR,e1,hm];rw[ah];simp[aA,hy,hz,ht,cR,e1,hm]
       ·simp[aA]at hm;simp[aA,hy,hz,ht,cR,hm];rw[ah];simp[aA,hy,hz,ht,cR,hm];rw[ah];simp[aA,hy,hz,ht,cR,hm]
      ·simp[dJ]at ht cR;rcases hq with ⟨e3,hR⟩|⟨rfl,rfl,rfl,hR⟩|⟨e,rfl,rfl,rfl,e1,hm⟩|⟨e,rfl,rfl,rfl,hm⟩
       ·subst hR;simp[aA,hy,hz,ht,cR,e3];rw[ah];simp[aA,hy,hz,ht,cR,e3];rw[ah];simp[aA,hy,hz,ht,cR,e3]
       ·subst hR;simp[aA,hy,hz,ht,cR];rw[ah];simp[aA,hy,hz,ht,cR];rw[ah];simp[aA,hy,hz,ht,cR]
       ·simp[aA]at hm;simp[aA,hy,hz,ht,cR,e1,hm];rw[ah];simp[aA,hy,hz,ht,cR,e1,hm];rw[ah];simp[aA,hy,hz,ht,cR,e1,hm]
       ·simp[aA]at hm;simp[aA,hy,hz,ht,cR,hm];rw[ah];simp[aA,hy,hz,ht,cR,hm];rw[ah];simp[aA,hy,hz,ht,cR,hm]
     ·have hv:kz (.mk op n name field [y,z] line)=.mk op n name field [y,z] line:=by simp[kz,m6,mP,KT,GK,VR]
      rw[hv]at hR;subst hR;cases t<;>cases u
      ·exact absurd rfl VR
      ·simp[dJ]at ht hu;simp[aA,hy,hz,ht,hu];rw[ah];simp[aA,hy,hz,ht,hu];rw[ah];simp[aA,hy,hz,ht,hu]
      ·simp[dJ]at ht hu;simp[aA,hy,hz,ht,hu];rw[ah];simp[aA,hy,hz,ht,hu];rw[ah];simp[aA,hy,hz,ht,hu]
      ·exact absurd rfl VR
end Go.Am
end
section
namespace Go.Am
open Go Go.Proofs
variable [Inhabited b6]
set_option maxRecDepth 20000
theorem abG {vs:List Vr} {x:Ex} (hf:bk x=true) (he:(aC vs x).e=0):∀y∈cO x,(aC vs y).e=0:=by
 cases CH hf he with
 |num h=>simp
 |qA h=>simp
 |var hv ha ht=>simp
 |idx hv ha ht fy ey ty=>simpa using ey
 |VB hv ht hq hf=>simp
 |one ho fy ey ty=>simpa using ey
 |two ho fy ey fz ez ty tz=>simpa using ⟨ey,ez⟩
mutual
theorem oB {vs:List Vr}:∀x:Ex,bk x=true→eG x=true→(aC vs x).e=0→s4 x
 | .mk op n name field sub line,hf,hl,he=>by
  have hs:=abG hf he;simp only[ob]at hs;have VH:=hf;simp only[bk,Bool.and_eq_true,decide_eq_true_eq]at hf;simp only[eG,Bool.and_eq_true]at hl;have hlen:=hf.2.1;unfold dE at hlen;have pR:=hf.2.2.2.2;have hls:=hl.2;refine abF (by split at hlen<;>(try split at hlen)<;>omega) (fun h6=>by
   by_cases h:op=4∨op=6∨op=7
   ·rw[if_pos h]at hlen;exact .inl hlen
   ·rw[if_neg h,if_pos (by omega)]at hlen;exact .inr hlen) (yI sub pR hls hs) (fun y hy c hc=>?_)
  have hk:=BL y ((iU _).1 pR y hy) ((sN _).1 hls y hy) (hs y hy);have:=(Qw hc hk.1 hk.2.1 (by rw[hk.2.2.1];exact hs y hy)).2;unfold aZ;omega
theorem yI {vs:List Vr}:∀l:List Ex,bA l=true→ef l=true→(∀y∈l,(aC vs y).e=0)→∀y∈l,s4 y
 |[],_,_,_,y,hy=>absurd hy (List.not_mem_nil)
 |x::r,hf,hl,he,y,hy=>by
  simp only[bA,Bool.and_eq_true]at hf;simp only[ef,Bool.and_eq_true]at hl;rcases List.mem_cons.1 hy with h|h
  ·rw[h];exact oB x hf.1 hl.1 (he x (by simp))
  ·exact yI r hf.2 hl.2 (fun z hz=>he z (by simp[hz])) y h
end
theorem iX {x:Ex} (h:dF x=true):s4 x:=by
 obtain⟨op,n,name,field,sub,line⟩:=x;have h:(decide (op=0)&&(decide (n=0)&&decide (name.length+field.length+sub.length=0)))=true:=h;simp only[Bool.and_eq_true,decide_eq_true_eq]at h;have hs:sub=[]:=List.eq_nil_of_length_eq_zero (by omega);have h0:=h.1;subst hs;exact abF (by simp) (fun h6=>by omega) (fun y hy=>absurd hy (List.not_mem_nil)) (fun y hy=>absurd hy (List.not_mem_nil))
end Go.Am
end
section
namespace Go.Am
open Go Go.Proofs
variable [Inhabited b6]
set_option maxRecDepth 20000
set_option maxHeartbeats 1000000
def KG (b:List Sm):Prop:=ai ctx 81 [.d (.list (b.map cC))] []=some (.ret (.d (.list ((dD b).map cC))),[])
def KH (x:Sm):Prop:=ai ctx 124 [.d (bL (eF x))] []=some (.ret (.d (bL (cU (eF x)))),[])∧ai ctx 124 [.d (bL (dH x))] []=some (.ret (.d (bL (cU (dH x)))),[])∧ai ctx 125 [.d (.list ((cu x).map bL))] []=some (.ret (.d (.list ((cP (cu x)).map bL))),[])∧(bx x).length<100000000∧∀b∈bx x,KG b
theorem KU (l:List (List Sm)) (jI:l.length<100000000) (va na vb:Nat) (ra:List D) (cs:List AV) (kM:∀v rows,cs.map (fzAV 400 v rows)=cs) (a9 KQ KR:D) (k:Kt) (Q:List (List Sm)→bU→Prop)
 (hx:∀(Y:Env) (out:List (List Sm)) v,Q out (k (.exit 2) ⟨48,aB,(3,true,.vec 250 va 0 na)::(5,true,.ptr 350 vb 0)::(6,true,.d (.list (out.map df)))::(9,true,.d a9)::(10,true,.d KQ)::(11,true,.d KR)::Y,[⟨250,va,.vec 19 ra⟩,⟨350,vb,.box cs⟩,⟨400,v,.dead⟩]⟩)):
 ∀(rest pre out:List (List Sm)) (v:Nat),l=pre++rest→out.length=pre.length→(∀b∈rest,KG b)→
 Q (out++ir rest) (aG ctx 81 (.loop (Code.at (bh Tryz.f81) [1,1,0,1,0,0,1,1,0,0,1,1,1,0,1,0,0])) ⟨48,aB,[(3,true,.vec 250 va 0 na),(5,true,.ptr 350 vb 0),(6,true,.vec 400 v 0 out.length),(9,true,.d a9),(10,true,.d KQ),(11,true,.d KR),(28,true,.d (.list (l.map df))),(29,true,.d (.int .i64 l.length)),(30,true,.d (.int .i64 pre.length))],[⟨250,va,.vec 19 ra⟩,⟨350,vb,.box cs⟩,⟨400,v,.vec 1 (out.map df)⟩]⟩ k)
 |[],pre,out,v,hd,ho,hK=>by
  have cw:pre.length=l.length:=by rw[hd];simp
  have:=hx [(28,true,.d (.list (l.map df))),(29,true,.d (.int .i64 l.length)),(30,true,.d (.int .i64 l.length)),(31,true,.d (.bool false))] out (v+1);simp[ir]at this⊢;rw[cw,ah];simp[Tryz.f81,kM,this]
 |b::rest,pre,out,v,hd,ho,hK=>by
  have aV:pre.length<l.length:=by rw[hd];simp
  have aS:l[pre.length]=b:=by simp[hd]
  have hk:=hK b (by simp);unfold KG at hk;have ih:=fun v=>KU l jI va na vb ra cs kM a9 KQ KR k Q hx rest (pre++[b]) (out++[dD b]) v (by simp[hd]) (by simp[ho]) (fun y hy=>hK y (by simp[hy]));have w1:IntKind.i64.wrap ((pre.length:Int)+1)=(pre.length:Int)+1:=ay (by unfold aZ;omega);have w3:out.length≤4611686018427387903:=by omega
  have w4:(out.length+1)*24≤140737488355328:=by omega
  have e:out++ir (b::rest)=out++[dD b]++ir rest:=by simp[ir]
  rw[e,ah];generalize dD b=b' at*;simp[Tryz.f81,df]at ih hk⊢;simp[aV,aS,df,hk,w1,w3,w4,ih]
theorem KV (l:List Sm) (jI:l.length<100000000) (k:Kt) (Q:List Sm→bU→Prop)
 (hx:∀(Y:Env) (out:List Sm) v v3 X3 v4 X4,Q out (k (.exit 0) ⟨48,aB,(3,true,.vec 250 v 0 out.length)::Y,[⟨250,v,.vec 19 (out.map cC)⟩,⟨350,v3,X3⟩,⟨400,v4,X4⟩]⟩)):
 ∀(rest pre out:List Sm) (v v3:Nat) (X3:aD) (v4:Nat) (X4:aD),l=pre++rest→out.length=pre.length→(∀x∈rest,KH x)→
 Q (out++dD rest) (aG ctx 81 (.loop (Code.at (bh Tryz.f81) [1,1,0,1,0,0])) ⟨48,aB,[(3,true,.vec 250 v 0 out.length),(9,true,.d (.list (l.map cC))),(10,true,.d (.int .i64 l.length)),(11,true,.d (.int .i64 pre.length))],[⟨250,v,.vec 19 (out.map cC)⟩,⟨350,v3,X3⟩,⟨400,v4,X4⟩]⟩ k)
 |[],pre,out,v,v3,X3,v4,X4,hd,ho,hK=>by
  have cw:pre.length=l.length:=by rw[hd];simp
  have:=hx [(9,true,.d (.list (l.map cC))),(10,true,.d (.int .i64 l.length)),(11,true,.d (.int .i64 l.length)),(12,true,.d (.bool false))] out v v3 X3 v4 X4;simp[dD]at this⊢;rw[cw,ah];simp[Tryz.f81,this]
 |x::rest,pre,out,v,v3,X3,v4,X4,hd,ho,hK=>by
  have aV:pre.length<l.length:=by rw[hd];simp
  have aS:l[pre.length]=x:=by simp[hd]
  obtain⟨ht,hv,hc,gA,hK2⟩:=hK x (by simp);have ih:=fun v v3 X3 v4 X4=>KV l jI k Q hx rest (pre++[x]) (out++[qF x]) v v3 X3 v4 X4 (by simp[hd]) (by simp[ho]) (fun y hy=>hK y (by simp[hy]));have dc:=fun va na vb ra cs kM a9 KQ KR k Q hx v=>KU (bx x) gA va na vb ra cs kM a9 KQ KR k Q hx (bx x) [] [] v rfl rfl hK2;have w1:IntKind.i64.wrap ((pre.length:Int)+1)=(pre.length:Int)+1:=ay (by unfold aZ;omega);have w3:out.length≤4611686018427387903:=by omega
  have w4:(out.length+1)*288≤140737488355328:=by omega
  have e:out++dD (x::rest)=out++[qF x]++dD rest:=by simp[dD]
  have eM:cC (qF x)=.agg [.int .i64 (bu x),.str (gV x),.int .i64 (bO (cU (eF x))),.int .i64 (ia (cU (eF x))),.str (dB (cU (eF x))),.str (fw (cU (eF x))),.list ((cO (cU (eF x))).map bL),.int .i64 (jH (cU (eF x))),.int .i64 (bO (cU (dH x))),.int .i64 (ia (cU (dH x))),.str (dB (cU (dH x))),.str (fw (cU (dH x))),.list ((cO (cU (dH x))).map bL),.int .i64 (jH (cU (dH x))),.list ((cP (cu x)).map bL),.list ((ea x).map mA),.list ((dO x).map .str),.list ((ir (bx x)).map df),.int .i64 (ko x)]:=by
   obtain⟨op,name,to,val,conds,labels,fields,blocks,line⟩:=x;rw[eK];simp[qF,bu,gV,eF,dH,cu,ea,dO,bx,ko]
  rw[e,ah];have YG:(cC (qF x)).size=19:=by rw[eK];simp
  generalize qF x=x' at*;generalize cU (eF x)=t at*;generalize cU (dH x)=w at*;generalize cP (cu x)=cc at*;simp[Tryz.f81]at ih dc⊢;simp[aA]at ht hv hc;simp[aV,aS,eK x,aA,ht,hv,hc,aI];refine dc _ _ _ _ _ ?_ _ _ _ _ (fun bo r=>bo=ir (bx x)→Q (out++x'::dD rest) r) (fun Y bo v4' hbo=>?_) _ rfl
  ·intro v rows;simp
  subst hbo;simp[Tryz.f81,w1,w3,w4,←eM,YG,ih]
theorem AA (l:List Sm) (jI:l.length<100000000) (hK:∀x∈l,KH x):KG l:=by
 have dc:=fun k Q hx v v3 X3 v4 X4=>KV l jI k Q hx l [] [] v v3 X3 v4 X4 rfl rfl hK;unfold KG;rw[aeW (by simp)];simp[Tryz.f81]at dc⊢;refine dc _ (fun out r=>out=dD l→r=some (.ret (.d (.list ((dD l).map cC))),[])) (fun Y out v v3 X3 v4 X4 h=>?_) _ _ _ _ _ rfl;subst h;simp
end Go.Am
end
section
namespace Go.Am
open Go Go.Proofs
variable [Inhabited b6]
set_option maxRecDepth 20000
theorem afD {vs:List Vr} {lp:Bool} {x:Sm} (hf:ji x=true) (hl:ot x=true) (h:(jU vs lp x).1=0) (hn:xI x) (hB:∀(lp:Bool) (cs:List Ex),cK (bx x)=true→ij (bx x)=true→(fB vs lp cs (bx x)).1=0→nb (bx x)→∀b∈bx x,KG b):KH x:=by
 have hk:(s4 (eF x)∧s4 (dH x))∧(∀c∈cu x,s4 c)∧∀b∈bx x,KG b:=by
  have cg:eG (eF x)=true∧eG (dH x)=true∧ef (cu x)=true∧ij (bx x)=true:=by
   obtain⟨op,name,to,val,conds,labels,fields,blocks,line⟩:=x;simp only[ot,Bool.and_eq_true]at hl;exact⟨hl.1,hl.2.1,hl.2.2.1,hl.2.2.2.2⟩
  have Q9:nb (bx x):=by
   obtain⟨op,name,to,val,conds,labels,fields,blocks,line⟩:=x;simp only[xI]at hn;exact hn.2
  obtain⟨l1,l2,l3,l4⟩:=cg;cases Ks hf h with
  |asg cF hv hs ft et fv ev ht=>exact⟨⟨oB _ ft l1 et,oB _ fv l2 ev⟩,by simp[cu],by simp[bx]⟩
  |cnd cF cB fc h1 h2 h3 fb hh=>
   exact⟨⟨iX cF,iX cB⟩,yI _ fc l3 (fun c hc=>(jK (sS h2 hh c hc)).1),hB _ _ fb l4 hh Q9⟩
  |cas cF fv wv h2 h3 Ap fb hh=>exact⟨⟨iX cF,oB _ fv l2 (jK wv).1⟩,by simp[cu],hB _ _ fb l4 hh Q9⟩
  |cnt hn cF cB hv hs ha ht fx wx fy wy fz wz fb hh=>
   simp only[cu,ef,Bool.and_eq_true]at l3;refine⟨⟨iX cF,iX cB⟩,?_,hB true [] (by simpa [bx,cK]using fb) l4 (by simp[bx,fB,eX,hh]) Q9⟩;intro c hc;simp only[cu,List.mem_cons,List.not_mem_nil,or_false]at hc;rcases hc with rfl|rfl|rfl
   ·exact oB _ fx l3.1 (jK wx).1
   ·exact oB _ fy l3.2.1 (jK wy).1
   ·exact oB _ fz l3.2.2.1 (jK wz).1
  |whl cF fv wv fb hh=>exact⟨⟨iX cF,oB _ fv l2 (jK wv).1⟩,by simp[cu],hB true [] (by simpa [bx,cK]using fb) l4 (by simp[bx,fB,eX,hh]) Q9⟩
  |rep cF fv wv fb hh=>exact⟨⟨iX cF,oB _ fv l2 (jK wv).1⟩,by simp[cu],hB true [] (by simpa [bx,cK]using fb) l4 (by simp[bx,fB,eX,hh]) Q9⟩
  |ext cF cB oN=>exact⟨⟨iX cF,iX cB⟩,by simp[cu],by simp[bx]⟩
  |ret cF cB=>exact⟨⟨iX cF,iX cB⟩,by simp[cu],by simp[bx]⟩
  |cal hn9 cF cB hv ht fc hl9 hff hh=>exact⟨⟨iX cF,iX cB⟩,yI _ fc l3 (CM _ _ [] hl9 hh),by simp[bx]⟩
 have hlen:(cu x).length<100000000∧(bx x).length<100000000:=by
  obtain⟨op,name,to,val,conds,labels,fields,blocks,line⟩:=x;simp only[xI]at hn;exact⟨hn.1.2.2.1.1,hn.1.2.2.2.2.2⟩
 obtain⟨⟨k1,k2⟩,k3,k4⟩:=hk;refine⟨?_,?_,?_,hlen.2,k4⟩
 ·exact k1
 ·exact k2
 ·exact TW _ hlen.1 k3
mutual
theorem abH {vs:List Vr}:∀(x:Sm) (lp:Bool),ji x=true→ot x=true→(jU vs lp x).1=0→xI x→KH x
 | .mk op name to val conds labels fields blocks line,lp,hf,hl,h,hn=>afD hf hl h hn (fun lp cs h1 h2 h3 h4=>AB blocks lp cs h1 h2 h3 h4)
theorem vF {vs:List Vr}:∀(l:List Sm) (lp:Bool),en l=true→iQ l=true→(eA vs lp l).1=0→lh l→∀x∈l,KH x
 |[],_,_,_,_,_,x,hx=>absurd hx (List.not_mem_nil)
 |y::r,lp,hf,hl,h,hn,x,hx=>by
  simp only[en,Bool.and_eq_true]at hf;simp only[iQ,Bool.and_eq_true]at hl;simp only[eA]at h;simp only[lh]at hn;obtain⟨h1,h2⟩:=b5.1 h;rcases List.mem_cons.1 hx with h0|hx
  ·rw[h0];exact abH y lp hf.1 hl.1 h1 hn.1
  ·exact vF r lp hf.2 hl.2 h2 hn.2 x hx
theorem AB {vs:List Vr}:∀(l:List (List Sm)) (lp:Bool) (cs:List Ex),cK l=true→ij l=true→(fB vs lp cs l).1=0→nb l→∀b∈l,KG b
 |[],_,_,_,_,_,_,b,hb=>absurd hb (List.not_mem_nil)
 |y::r,lp,[],hf,hl,h,hn,b,hb=>by
  simp only[cK,Bool.and_eq_true]at hf;simp only[ij,Bool.and_eq_true]at hl;simp only[fB]at h;simp only[nb]at hn;obtain⟨h1,h2⟩:=b5.1 h;rcases List.mem_cons.1 hb with h0|hb
  ·rw[h0];exact AA y hn.1.1 (vF y lp hf.1 hl.1 h1 hn.1.2)
  ·exact AB r lp [] hf.2 hl.2 h2 hn.2 b hb
 |y::r,lp,c::cs,hf,hl,h,hn,b,hb=>by
  simp only[cK,Bool.and_eq_true]at hf;simp only[ij,Bool.and_eq_true]at hl;simp only[fB]at h;simp only[nb]at hn;obtain⟨h1,h2⟩:=b5.1 h;obtain⟨h2,h3⟩:=b5.1 h2;rcases List.mem_cons.1 hb with h0|hb
  ·rw[h0];exact AA y hn.1.1 (vF y lp hf.1 hl.1 h2 hn.1.2)
  ·exact AB r lp cs hf.2 hl.2 h3 hn.2 b hb
end
theorem WX {p:Pg} {lp:Bool} (jI:p.body.length<100000000) (hf:en p.body=true) (hl:iQ p.body=true) (h:(eA p.vars lp p.body).1=0) (hn:lh p.body):ai ctx 37 [.d (qi p)] []=some (.ret (.d (qi (Qr p))),[]):=by
 have hs:=AA p.body jI (vF p.body lp hf hl h hn);unfold KG at hs;rw[aeI (by simp)];simp[Tryz.f37,hs,Qr]
structure HG (p:Pg):Prop where
 fit:pg p=true
 lit:iQ p.body=true
 Ra:(qd p).1=0
 lw:dP (qi p)<10000000
theorem B6 {p:Pg} (h:pg p=true):p.vars.length≤64∧(∀v∈p.vars,du v=true)∧en p.body=true:=by
 simp only[pg,Bool.and_eq_true,List.all_eq_true,decide_eq_true_eq]at h;exact h.2
theorem zB {p:Pg} (h:(qd p).1=0):(eA p.vars false p.body).1=0:=(b5.1 h).2
theorem abI {p:Pg} (h:HG p) (TQ:aY (dD p.body)≤64):Jf false (ag p.vars (dD p.body) (cf p.vars)).1:=by
 have hg:=(D3 h.fit h.lit h.Ra TQ).1;intro x hx;by_cases h0:0≤x.a
 ·exact⟨fun _=>h0,fun _=>.inl h0⟩
 ·refine⟨fun nB=>?_,fun h9=>?_⟩
  ·have:=(hg.out x hx (.inr nB) (by omega)).1;omega
  ·rcases (hg.out x hx (.inl h9) (by omega)).2 with e|⟨e,_⟩
   ·exact .inr (.inl e)
   ·cases e
theorem TX {p:Pg} (h:HG p):ai ctx 37 [.d (qi p)] []=some (.ret (.d (qi (Qr p))),[]):=by
 obtain⟨h1,h2,h3⟩:=GI (p:=p) (by have:=h.lw;simp only[qi]at this;omega);exact WX (lp:=false) h1 (B6 h.fit).2.2 h.lit (zB h.Ra) h2
def cdD:Option (List aq×Int×Int)→D
 |none=>.agg [.list [],.int .i64 0,.int .i64 0]
 |some g=>.agg [.list (g.1.map cE),.int .i64 g.2.1,.int .i64 g.2.2]
def cdE:Option (List aq×Int×Int)→Int
 |none=>13
 |some _=>0
theorem TY {p:Pg} (h:HG p):ai ctx 20 [.d (qi p)] []=some (.ret (.aU [.d (cdD (vr p)),.d (.int .i64 (cdE (vr p)))]),[]):=by
 obtain⟨f1,f2,f3⟩:=B6 h.fit;obtain⟨w1,w2,w3⟩:=NJ p h.lw;have hb:=rf false p.body f3 h.lit (zB h.Ra);have hK:=WS (p:=p) (by omega) f2 hb.1 hb.2.2;have C6:=vD p.vars (fun v hv=>nE (f2 v hv));have Ub:=xX p.vars [] 0 (by omega) (b5.1 h.Ra).1;have aP:=mX (vs:=p.vars) (dD p.body) (cf p.vars);have q1:=w1 (cf p.vars);have hM:=hK ⟨[],cf p.vars,0,[],[]⟩ (Int.le_refl _) C6 ⟨by simp,by simp⟩ (by simp) (by simp only[List.length_nil];omega) (by simp only;omega) (by simp only[List.length_nil];omega);have e0:(0:Nat)+(ag p.vars (dD p.body) (cf p.vars)).1.length=(ag p.vars (dD p.body) (cf p.vars)).1.length:=by omega
 have nq:=pt (-2) (ag p.vars (dD p.body) (cf p.vars)).1 0;have hR:=TN p (by omega) f2 (TX h) _ hM (by simp[Mk.aL];omega) (by simp[Mk.aL];omega) (by
  intro i hi;simp only[Mk.aL,List.nil_append,List.length_append,List.length_nil,mm]at hi⊢;obtain⟨j,e,hj⟩:=xT _ _ _ i hi;exact⟨j,e,by omega⟩)
 rw[hR];simp only[Mk.aL,Mk.cv,Mk.put,List.nil_append,List.length_append,List.length_nil,mm,List.length_cons,BP,Nat.zero_add];unfold vr;simp only
 by_cases hc:4096<(ag p.vars (dD p.body) (cf p.vars)).1.length+1∨64<aY (dD p.body)
 ·rw[if_pos hc,if_pos (by omega)];rfl
 ·rw[if_neg hc,if_neg (by omega),WU (abI h (by omega))];rfl
theorem B7 (s:Tx) (l:List Vr) (hl:l.length<1000000) (k:Kt) (RF:Option Vr→bU)
 (h1:∀w v,k .ret ⟨25,aB,[(4,true,.ptr 300 v 0),(5,true,.d (.bool true))],[⟨300,v,ib w⟩]⟩=RF (some w))
 (h2:∀(v:Nat) (b c:AV),k (.exit 0) ⟨25,aB,[(0,true,.d (.list (l.map bG))),(1,true,.d (.str s)),(4,true,.ptr 300 v 0),(6,true,b),(10,true,c)],[⟨300,v,ib qE⟩]⟩=RF none):∀(rest pre:List Vr) (v:Nat),l=pre++rest→
 aG ctx 47 (.loop (Code.at (bh Tryz.f47) [1,0,1,0,0])) ⟨25,aB,[(0,true,.d (.list (l.map bG))),(1,true,.d (.str s)),(4,true,.ptr 300 v 0),(6,true,.d (.int .i64 pre.length))],[⟨300,v,ib qE⟩]⟩ k=RF (bf rest s)
 |[],pre,v,hd=>by
  have cw:pre.length=l.length:=by rw[hd];simp
  simp only[ib,qE]at h2;rw[cw,ah];simp[Tryz.f47,h2,bf,qE]
 |x::rest,pre,v,hd=>by
  have aV:pre.length<l.length:=by rw[hd];simp
  have aS:l[pre.length]=x:=by simp[hd]
  have ih:=B7 s l hl k RF h1 h2 rest (pre++[x]) v (by simp[hd]);have w1:IntKind.i64.wrap ((pre.length:Int)+1)=(pre.length:Int)+1:=ay (by unfold aZ;omega);have h1:=h1 x;simp only[ib]at h1;rw[ah];by_cases hq:x.name=s
  ·simp only[hq]at h1;simp[Tryz.f47,qE];simp[aV,aS,bG,eu,hq,h1,bf]
  ·simp[Tryz.f47,qE]at ih⊢;simp[aV,aS,bG,eu,hq,w1,ih,bf]
theorem mn {vs:List Vr} (hl:vs.length<1000000) (s:Tx):ai ctx 47 [.d (.list (vs.map bG)),.d (.str s)] []=some (.ret (.aU [.d (bG (fV vs s)),.d (.bool (bf vs s).isSome)]),[]):=by
 have h:=fun k RF h1 h2 v=>B7 s vs hl k RF h1 h2 vs [] v rfl;rw[aeN (by simp)];unfold fV;simp[Tryz.f47,qE]at h⊢;rw[h _ (fun o=>some (.ret (.aU [.d (bG (o.getD qE)),.d (.bool o.isSome)]),[]))]
 ·simp[qE]
 ·intro w v;simp[bG,eu]
 ·intro v b c;simp[bG,eu,qE]
theorem KW (k:Int):ai ctx 73 [.d (.int .i64 k)] []=some (.ret (.d (.list ((bq k).map cS))),[]):=by
 by_cases h:10≤k∧k≤31
 ·have:k=10∨k=11∨k=12∨k=13∨k=14∨k=15∨k=16∨k=17∨k=18∨k=19∨k=20∨k=21∨k=22∨k=23∨k=24∨k=25∨k=26∨k=27∨k=28∨k=29∨k=30∨k=31:=by omega
  rcases this with h|h|h|h|h|h|h|h|h|h|h|h|h|h|h|h|h|h|h|h|h|h<;>subst h
  ·exact ak5
  ·exact ak6
  ·exact ak7
  ·exact ak8
  ·exact ak9
  ·exact ala
  ·exact alb
  ·exact alc
  ·exact ald
  ·exact ale
  ·exact alf
  ·exact alg
  ·exact alh
  ·exact ali
  ·exact alj
  ·exact alk
  ·exact alm
  ·exact aln
  ·exact alo
  ·exact alp
  ·exact alq
  ·exact alr
 ·have e1:bq k=[]:=by
   have e:∀n:Int,10≤n→n≤31→¬n=k:=fun n a b c=>h (by omega);unfold bq Gl;simp only[qW];rw[if_neg (e _ (by decide) (by decide)),if_neg (e _ (by decide) (by decide)),if_neg (e _ (by decide) (by decide)),if_neg (e _ (by decide) (by decide)),if_neg (e _ (by decide) (by decide)),if_neg (e _ (by decide) (by decide)),if_neg (e _ (by decide) (by decide)),if_neg (e _ (by decide) (by decide)),if_neg (e _ (by decide) (by decide)),if_neg (e _ (by decide) (by decide)),if_neg (e _ (by decide) (by decide)),if_neg (e _ (by decide) (by decide)),if_neg (e _ (by decide) (by decide)),if_neg (e _ (by decide) (by decide)),if_neg (e _ (by decide) (by decide)),if_neg (e _ (by decide) (by decide)),if_neg (e _ (by decide) (by decide)),if_neg (e _ (by decide) (by decide)),if_neg (e _ (by decide) (by decide)),if_neg (e _ (by decide) (by decide)),if_neg (e _ (by decide) (by decide))]
  rw[e1];rw[aeV (by simp)];by_cases h1:k<10
  ·simp[Tryz.f73,h1]
  ·have h2:31<k:=by omega
   simp[Tryz.f73,h1,h2]
theorem TZ {w:Vr} (hI:w.arr=true→0≤w.lo∧w.lo≤w.hi∧w.hi≤255):ai ctx 48 [.d (.agg (eu w))] []=some (.ret (.d (.int .i64 (bH w))),[]):=by
 have hp:=KW w.ty;rw[aeO (by simp)];unfold bH;cases ha:w.arr with
 |true=>
  have h3:=hI ha;have w1:IntKind.i64.wrap (w.hi-w.lo)=w.hi-w.lo:=ay (by unfold aZ;omega);have w2:IntKind.i64.wrap (w.hi-w.lo+1)=w.hi-w.lo+1:=ay (by unfold aZ;omega);simp[Tryz.f48,eu,ha,w1,w2]
 |false=>
  by_cases h2:2<w.ty
  ·simp[Tryz.f48,eu,ha,h2,hp]
  ·simp[Tryz.f48,eu,ha,h2]
def zC (p:Pn):aD:=.box [.d (.str p.name),.d (.int .i64 p.ty),.d (.bool p.I0)]
theorem D5 (s:Tx) (l:List Pn) (hl:l.length<1000000) (k:Kt) (RF:Option Pn→bU)
 (h1:∀w v,k .ret ⟨32,aB,[(4,true,.ptr 300 v 0),(5,true,.d (.bool true))],[⟨300,v,zC w⟩]⟩=RF (some w))
 (h2:∀(v:Nat) (b c:AV),k (.exit 0) ⟨32,aB,[(1,true,.d (.str s)),(4,true,.ptr 300 v 0),(6,true,.d (.list (l.map cS))),(7,true,b),(13,true,c)],[⟨300,v,zC sI⟩]⟩=RF none):∀(rest pre:List Pn) (v:Nat),l=pre++rest→
 aG ctx 200 (.loop (Code.at (bh Tryz.f200) [1,1,0,1,0,0])) ⟨32,aB,[(1,true,.d (.str s)),(4,true,.ptr 300 v 0),(6,true,.d (.list (l.map cS))),(7,true,.d (.int .i64 pre.length))],[⟨300,v,zC sI⟩]⟩ k=RF (vo rest s)
 |[],pre,v,hd=>by
  have cw:pre.length=l.length:=by rw[hd];simp
  simp only[zC,sI]at h2;rw[cw,ah];simp[Tryz.f200,zC,h2,vo,sI]
 |x::rest,pre,v,hd=>by
  have aV:pre.length<l.length:=by rw[hd];simp
  have aS:l[pre.length]=x:=by simp[hd]
  have ih:=D5 s l hl k RF h1 h2 rest (pre++[x]) v (by simp[hd]);have w1:IntKind.i64.wrap ((pre.length:Int)+1)=(pre.length:Int)+1:=ay (by unfold aZ;omega);have h1:=h1 x;simp only[zC]at h1;rw[ah];by_cases hs:s=[]
  ·simp only[hs]at ih⊢;simp[Tryz.f200,zC,sI]at ih⊢;simp[aV,w1,ih,vo]
  ·by_cases hq:x.name=s
   ·simp only[hq]at h1;simp[Tryz.f200,zC,sI];simp[aV,aS,cS,hq,hs,h1,vo]
   ·simp[Tryz.f200,zC,sI]at ih⊢;simp[aV,aS,cS,hq,hs,w1,ih,vo]
theorem Rb (q:Int) (s:Tx):ai ctx 200 [.d (.int .i64 q),.d (.str s)] []=some (.ret (.aU [.d (cS (fP q s)),.d (.bool (kG q s).isSome)]),[]):=by
 have hl:=xF q;have hp:=KW q;have h:=fun k RF h1 h2 v=>D5 s (bq q) (by omega) k RF h1 h2 (bq q) [] v rfl;rw[ZI (by simp)];unfold fP kG;simp[Tryz.f200,zC,sI]at h⊢;simp[hp];rw[h _ (fun o=>some (.ret (.aU [.d (cS (o.getD sI)),.d (.bool o.isSome)]),[]))]
 ·simp[sI]
 ·intro w v;simp[cS]
 ·intro v b c;simp[cS,sI]
def ei (t:Te):AV:=.aU [.d (.int .i64 t.t),.d (.agg [.int .i64 t.e,.int .i64 t.line])]
def RT (vs:List Vr) (x:Ex):Prop:=ai ctx 130 [.d (.list (vs.map bG)),.d (.agg [.int .i64 (bO x),.int .i64 (ia x),.str (dB x),.str (fw x),.list ((cO x).map bL),.int .i64 (jH x)])] []=some (.ret (ei (aC vs x)),[])
def dq (e:EL):AV:=.d (.agg [.int .i64 e.1,.int .i64 e.2])
def B8 (vs:List Vr) (x:Ex) (t:Int):EL:=if (aC vs x).e=0∧(aC vs x).t≠t then (10,jH x)else ((aC vs x).e,(aC vs x).line)
theorem AD {vs:List Vr} {x:Ex} (h:RT vs x):ai ctx 201 [.d (.list (vs.map bG)),.d (.agg [.int .i64 (bO x),.int .i64 (ia x),.str (dB x),.str (fw x),.list ((cO x).map bL),.int .i64 (jH x)])] []=some (.ret (dq (B8 vs x 1)),[]):=by
 unfold RT at h;rw[ZJ (by simp)];unfold B8;generalize aC vs x=T at*;by_cases h0:T.e=0
 ·by_cases h1:T.t=1
  ·simp[Tryz.f201,ei,dq,h0,h1,h]
  ·simp[Tryz.f201,ei,dq,h0,h1,h]
 ·simp[Tryz.f201,ei,dq,h0,h]
theorem pv {vs:List Vr} {x:Ex} (t:Int) (h:RT vs x):ai ctx 131 [.d (.list (vs.map bG)),.d (.agg [.int .i64 (bO x),.int .i64 (ia x),.str (dB x),.str (fw x),.list ((cO x).map bL),.int .i64 (jH x)]),.d (.int .i64 t)] []=some (.ret (dq (B8 vs x t)),[]):=by
 unfold RT at h;rw[Zr (by simp)];unfold B8;generalize aC vs x=T at*;by_cases h0:T.e=0
 ·by_cases h1:T.t=t
  ·simp[Tryz.f131,ei,dq,h0,h1,h]
  ·simp[Tryz.f131,ei,dq,h0,h1,h]
 ·simp[Tryz.f131,ei,dq,h0,h]
section
variable {vs:List Vr} (hl:vs.length<1000000) (eh:∀v∈vs,du v=true)
theorem abL {op nn line:Int} {name field:Tx} {sub:List Ex} (h:op=1∨op=2):RT vs (.mk op nn name field sub line):=by
 unfold RT;rw[ew (by simp)];have e:aC vs (.mk op nn name field sub line)=eN op:=by
  unfold aC;rw[if_pos h]
 rw[e];rcases h with h|h<;>subst h<;>simp[Tryz.f130,ei,eN]
include hl in
theorem Rc {nn line:Int} {name field:Tx} {sub:List Ex}:RT vs (.mk 5 nn name field sub line):=by
 unfold RT;have hf:=mn (vs:=vs) hl name;rw[ew (by simp)];have e:aC vs (.mk 5 nn name field sub line)=(match bf vs name with
  |none=>cA 9 line
  |some v=>(if v.ty≤2 then cA 10 line else match kG v.ty field with
   |none=>cA 9 line
   |some p=>eN p.ty)):=by
  unfold aC;rw[if_neg (by decide),if_pos (by decide)];rfl
 rw[e];cases hv:bf vs name with
 |none=>
  simp[hv,fV,bG,eu,qE]at hf;simp[Tryz.f130,ei,cA,hf,aI]
 |some v=>
  have hp:=Rb v.ty field;simp[hv,fV,bG,eu]at hf;by_cases h2:v.ty≤2
  ·simp[Tryz.f130,ei,cA,hf,aI,h2]
  ·cases hq:kG v.ty field with
   |none=>
    simp[hq,fP,cS,sI]at hp;simp[Tryz.f130,ei,cA,hf,aI,h2,hp,hq]
   |some p=>
    simp[hq,fP,cS]at hp;simp[Tryz.f130,ei,eN,hf,aI,h2,hp,hq]
include hl in
theorem WY {nn line:Int} {name field:Tx} {v:Vr} {y:Ex} {T:Te} (hv:bf vs name=some v) (ha:v.arr=true) (h2:¬2<v.ty) (hr:RT vs y) (hT:aC vs y=T) (h0:T.e=0) (h1:T.t=1):ai ctx 130 [.d (.list (vs.map bG)),.d (.agg [.int .i64 4,.int .i64 nn,.str name,.str field,.list ([y].map bL),.int .i64 line])] []=some (.ret (ei (eN v.ty)),[]):=by
 have hf:=mn (vs:=vs) hl name;have hi:=AD hr;unfold B8 dq at hi;rw[hT]at hi;clear hT hr;rw[ew (by simp)];simp[hv,fV,bG,eu]at hf;simp[h0,h1]at hi;simp[Tryz.f130,ei,eN,cA,hf,aI,ha,h2,aA,hi,h0,h1]
include hl in
theorem WZ {nn line:Int} {name field:Tx} {v:Vr} {y:Ex} {T:Te} (hv:bf vs name=some v) (ha:v.arr=true) (h2:¬2<v.ty) (hr:RT vs y) (hT:aC vs y=T) (h0:T.e=0) (h1:¬T.t=1):ai ctx 130 [.d (.list (vs.map bG)),.d (.agg [.int .i64 4,.int .i64 nn,.str name,.str field,.list ([y].map bL),.int .i64 line])] []=some (.ret (ei (cA 10 (jH y))),[]):=by
 have hf:=mn (vs:=vs) hl name;have hi:=AD hr;unfold B8 dq at hi;rw[hT]at hi;clear hT hr;rw[ew (by simp)];simp[hv,fV,bG,eu]at hf;simp[h0,h1]at hi;simp[Tryz.f130,ei,eN,cA,hf,aI,ha,h2,aA,hi,h0,h1]
include hl in
theorem W0 {nn line:Int} {name field:Tx} {v:Vr} {y:Ex} {T:Te} (hv:bf vs name=some v) (ha:v.arr=true) (h2:¬2<v.ty) (hr:RT vs y) (hT:aC vs y=T) (h0:¬T.e=0):ai ctx 130 [.d (.list (vs.map bG)),.d (.agg [.int .i64 4,.int .i64 nn,.str name,.str field,.list ([y].map bL),.int .i64 line])] []=some (.ret (ei (cA T.e T.line)),[]):=by
 have hf:=mn (vs:=vs) hl name;have hi:=AD hr;unfold B8 dq at hi;rw[hT]at hi;clear hT hr;rw[ew (by simp)];simp[hv,fV,bG,eu]at hf;simp[h0]at hi;simp[Tryz.f130,ei,eN,cA,hf,aI,ha,h2,aA,hi,h0]
include hl in
theorem W1 {op nn line:Int} {name field:Tx} {sub:List Ex} (h:op=3∨op=4) (hs:op=4→∃y,sub=[y]∧RT vs y):RT vs (.mk op nn name field sub line):=by
 unfold RT;have hf:=mn (vs:=vs) hl name;have e:aC vs (.mk op nn name field sub line)=(match bf vs name with
  |none=>cA 9 line
  |some v=>if v.arr≠decide (op=4)∨2<v.ty then cA 10 line else if op=4 then ug vs v.ty sub else eN v.ty):=by
  conv=>lhs;unfold aC
  rw[if_neg (by omega),if_pos (by omega)];cases bf vs name with
  |none=>rfl
  |some v=>
   simp only
   rw[if_neg (by omega)]
 rw[e];clear e;cases hv:bf vs name with
 |none=>
  simp[hv,fV,bG,eu,qE]at hf;rcases h with h|h<;>subst h<;>rw[ew (by simp)]<;>simp[Tryz.f130,ei,cA,hf,aI]
 |some v=>
  simp[hv,fV,bG,eu]at hf;rcases h with h|h<;>subst h
  ·cases ha:v.arr with
   |true=>(rw[ew (by simp)];simp[Tryz.f130,ei,cA,hf,aI,ha])
   |false=>
    by_cases h2:2<v.ty
    ·(rw[ew (by simp)];simp[Tryz.f130,ei,cA,hf,aI,ha,h2])
    ·(rw[ew (by simp)];simp[Tryz.f130,ei,eN,hf,aI,ha,h2])
  ·cases ha:v.arr with
   |false=>(rw[ew (by simp)];simp[Tryz.f130,ei,cA,hf,aI,ha])
   |true=>
    by_cases h2:2<v.ty
    ·(rw[ew (by simp)];simp[Tryz.f130,ei,cA,hf,aI,ha,h2])
    ·obtain⟨y,hy,hr⟩:=hs rfl;subst hy;simp only[ug,mU,uf,xE,Gk,ob,Ph];by_cases h0:(aC vs y).e=0
     ·by_cases h1:(aC vs y).t=1
      ·have:=WY (nn:=nn) (line:=line) (field:=field) hl hv ha h2 hr rfl h0 h1;simpa [h0,h1,h2,ha,eN]using this
      ·have:=WZ (nn:=nn) (line:=line) (field:=field) hl hv ha h2 hr rfl h0 h1;simpa [h0,h1,h2,ha,cA]using this
     ·have:=W0 (nn:=nn) (line:=line) (field:=field) hl hv ha h2 hr rfl h0;simpa [h0,h2,ha,cA]using this
end
section
variable {vs:List Vr}
set_option maxHeartbeats 1000000 in
theorem afE {nn line:Int} {name field:Tx} {a:Ex} (h:RT vs a):RT vs (.mk 6 nn name field [a] line):=by
 have e:aC vs (.mk 6 nn name field [a] line)=b9 6 line (aC vs a) (aC vs a):=by
  conv=>lhs;unfold aC
  rw[if_neg (by omega),if_neg (by omega)];rfl
 unfold RT at h⊢;rw[e,ew (by simp)];clear e;generalize aC vs a=T at*;simp[ei]at h;simp[Tryz.f130,ei,aI,aA,h];by_cases h0:T.e=0
 ·by_cases h1:T.t=1<;>simp[h0,h1,b9,gd,gG,eN,cA]
 ·simp[h0,b9]
set_option maxHeartbeats 1000000 in
theorem afF {nn line:Int} {name field:Tx} {a:Ex} (h:RT vs a):RT vs (.mk 7 nn name field [a] line):=by
 have e:aC vs (.mk 7 nn name field [a] line)=b9 7 line (aC vs a) (aC vs a):=by
  conv=>lhs;unfold aC
  rw[if_neg (by omega),if_neg (by omega)];rfl
 unfold RT at h⊢;rw[e,ew (by simp)];clear e;generalize aC vs a=T at*;simp[ei]at h;simp[Tryz.f130,ei,aI,aA,h];by_cases h0:T.e=0
 ·by_cases h1:T.t=2<;>simp[h0,h1,b9,gd,gG,eN,cA]
 ·simp[h0,b9]
set_option maxHeartbeats 1000000 in
theorem afG {nn line:Int} {name field:Tx} {a b:Ex} (h:RT vs a) (hb:RT vs b):RT vs (.mk 8 nn name field [a,b] line):=by
 have e:aC vs (.mk 8 nn name field [a,b] line)=b9 8 line (aC vs a) (aC vs b):=by
  conv=>lhs;unfold aC
  rw[if_neg (by omega),if_neg (by omega)];rfl
 unfold RT at h hb⊢;rw[e,ew (by simp)];clear e;generalize aC vs a=T at*;generalize aC vs b=U at*;simp[ei]at h hb;simp[Tryz.f130,ei,aI,aA,h,hb];by_cases h0:T.e=0
 ·by_cases h1:U.e=0
  ·by_cases h2:T.t=1<;>by_cases h3:U.t=1<;>simp[h0,h1,h2,h3,b9,gd,gG,eN,cA]
  ·simp[h0,h1,b9]
 ·simp[h0,b9]
set_option maxHeartbeats 1000000 in
theorem afH {nn line:Int} {name field:Tx} {a b:Ex} (h:RT vs a) (hb:RT vs b):RT vs (.mk 9 nn name field [a,b] line):=by
 have e:aC vs (.mk 9 nn name field [a,b] line)=b9 9 line (aC vs a) (aC vs b):=by
  conv=>lhs;unfold aC
  rw[if_neg (by omega),if_neg (by omega)];rfl
 unfold RT at h hb⊢;rw[e,ew (by simp)];clear e;generalize aC vs a=T at*;generalize aC vs b=U at*;simp[ei]at h hb;simp[Tryz.f130,ei,aI,aA,h,hb];by_cases h0:T.e=0
 ·by_cases h1:U.e=0
  ·by_cases h2:T.t=1<;>by_cases h3:U.t=1<;>simp[h0,h1,h2,h3,b9,gd,gG,eN,cA]
  ·simp[h0,h1,b9]
 ·simp[h0,b9]
set_option maxHeartbeats 1000000 in
theorem abM {nn line:Int} {name field:Tx} {a b:Ex} (h:RT vs a) (hb:RT vs b):RT vs (.mk 10 nn name field [a,b] line):=by
 have e:aC vs (.mk 10 nn name field [a,b] line)=b9 10 line (aC vs a) (aC vs b):=by
  conv=>lhs;unfold aC
  rw[if_neg (by omega),if_neg (by omega)];rfl
 unfold RT at h hb⊢;rw[e,ew (by simp)];clear e;generalize aC vs a=T at*;generalize aC vs b=U at*;simp[ei]at h hb;simp[Tryz.f130,ei,aI,aA,h,hb];by_cases h0:T.e=0
 ·by_cases h1:U.e=0
  ·by_cases h2:T.t=1<;>by_cases h3:U.t=1<;>simp[h0,h1,h2,h3,b9,gd,gG,eN,cA]
  ·simp[h0,h1,b9]
 ·simp[h0,b9]
set_option maxHeartbeats 1000000 in
theorem abN {nn line:Int} {name field:Tx} {a b:Ex} (h:RT vs a) (hb:RT vs b):RT vs (.mk 11 nn name field [a,b] line):=by
 have e:aC vs (.mk 11 nn name field [a,b] line)=b9 11 line (aC vs a) (aC vs b):=by
  conv=>lhs;unfold aC
  rw[if_neg (by omega),if_neg (by omega)];rfl
 unfold RT at h hb⊢;rw[e,ew (by simp)];clear e;generalize aC vs a=T at*;generalize aC vs b=U at*;simp[ei]at h hb;simp[Tryz.f130,ei,aI,aA,h,hb];by_cases h0:T.e=0
 ·by_cases h1:U.e=0
  ·by_cases h2:T.t=1<;>by_cases h3:U.t=1<;>simp[h0,h1,h2,h3,b9,gd,gG,eN,cA]
  ·simp[h0,h1,b9]
 ·simp[h0,b9]
set_option maxHeartbeats 1000000 in
theorem abO {nn line:Int} {name field:Tx} {a b:Ex} (h:RT vs a) (hb:RT vs b):RT vs (.mk 12 nn name field [a,b] line):=by
 have e:aC vs (.mk 12 nn name field [a,b] line)=b9 12 line (aC vs a) (aC vs b):=by
  conv=>lhs;unfold aC
  rw[if_neg (by omega),if_neg (by omega)];rfl
 unfold RT at h hb⊢;rw[e,ew (by simp)];clear e;generalize aC vs a=T at*;generalize aC vs b=U at*;simp[ei]at h hb;simp[Tryz.f130,ei,aI,aA,h,hb];by_cases h0:T.e=0
 ·by_cases h1:U.e=0
  ·by_cases h2:T.t=1<;>by_cases h3:U.t=1<;>simp[h0,h1,h2,h3,b9,gd,gG,eN,cA]
  ·simp[h0,h1,b9]
 ·simp[h0,b9]
set_option maxHeartbeats 1000000 in
theorem abP {nn line:Int} {name field:Tx} {a b:Ex} (h:RT vs a) (hb:RT vs b):RT vs (.mk 13 nn name field [a,b] line):=by
 have e:aC vs (.mk 13 nn name field [a,b] line)=b9 13 line (aC vs a) (aC vs b):=by
  conv=>lhs;unfold aC
  rw[if_neg (by omega),if_neg (by omega)];rfl
 unfold RT at h hb⊢;rw[e,ew (by simp)];clear e;generalize aC vs a=T at*;generalize aC vs b=U at*;simp[ei]at h hb;simp[Tryz.f130,ei,aI,aA,h,hb];by_cases h0:T.e=0
 ·by_cases h1:U.e=0
  ·by_cases h3:U.t=T.t<;>simp[h0,h1,h3,b9,gd,gG,eN,cA]
  ·simp[h0,h1,b9]
 ·simp[h0,b9]
end
section
variable {vs:List Vr}
set_option maxHeartbeats 1000000 in
theorem abQ {nn line:Int} {name field:Tx} {a b:Ex} (h:RT vs a) (hb:RT vs b):RT vs (.mk 14 nn name field [a,b] line):=by
 have e:aC vs (.mk 14 nn name field [a,b] line)=b9 14 line (aC vs a) (aC vs b):=by
  conv=>lhs;unfold aC
  rw[if_neg (by omega),if_neg (by omega)];rfl
 unfold RT at h hb⊢;rw[e,ew (by simp)];clear e;generalize aC vs a=T at*;generalize aC vs b=U at*;simp[ei]at h hb;simp[Tryz.f130,ei,aI,aA,h,hb];by_cases h0:T.e=0
 ·by_cases h1:U.e=0
  ·by_cases h3:U.t=T.t<;>simp[h0,h1,h3,b9,gd,gG,eN,cA]
  ·simp[h0,h1,b9]
 ·simp[h0,b9]
set_option maxHeartbeats 1000000 in
theorem abR {nn line:Int} {name field:Tx} {a b:Ex} (h:RT vs a) (hb:RT vs b):RT vs (.mk 15 nn name field [a,b] line):=by
 have e:aC vs (.mk 15 nn name field [a,b] line)=b9 15 line (aC vs a) (aC vs b):=by
  conv=>lhs;unfold aC
  rw[if_neg (by omega),if_neg (by omega)];rfl
 unfold RT at h hb⊢;rw[e,ew (by simp)];clear e;generalize aC vs a=T at*;generalize aC vs b=U at*;simp[ei]at h hb;simp[Tryz.f130,ei,aI,aA,h,hb];by_cases h0:T.e=0
 ·by_cases h1:U.e=0
  ·by_cases h2:T.t=1<;>by_cases h3:U.t=1<;>simp[h0,h1,h2,h3,b9,gd,gG,eN,cA]
  ·simp[h0,h1,b9]
 ·simp[h0,b9]
set_option maxHeartbeats 1000000 in
theorem abS {nn line:Int} {name field:Tx} {a b:Ex} (h:RT vs a) (hb:RT vs b):RT vs (.mk 16 nn name field [a,b] line):=by
 have e:aC vs (.mk 16 nn name field [a,b] line)=b9 16 line (aC vs a) (aC vs b):=by
  conv=>lhs;unfold aC
  rw[if_neg (by omega),if_neg (by omega)];rfl
 unfold RT at h hb⊢;rw[e,ew (by simp)];clear e;generalize aC vs a=T at*;generalize aC vs b=U at*;simp[ei]at h hb;simp[Tryz.f130,ei,aI,aA,h,hb];by_cases h0:T.e=0
 ·by_cases h1:U.e=0
  ·by_cases h2:T.t=1<;>by_cases h3:U.t=1<;>simp[h0,h1,h2,h3,b9,gd,gG,eN,cA]
  ·simp[h0,h1,b9]
 ·simp[h0,b9]
set_option maxHeartbeats 1000000 in
theorem abT {nn line:Int} {name field:Tx} {a b:Ex} (h:RT vs a) (hb:RT vs b):RT vs (.mk 17 nn name field [a,b] line):=by
 have e:aC vs (.mk 17 nn name field [a,b] line)=b9 17 line (aC vs a) (aC vs b):=by
  conv=>lhs;unfold aC
  rw[if_neg (by omega),if_neg (by omega)];rfl
 unfold RT at h hb⊢;rw[e,ew (by simp)];clear e;generalize aC vs a=T at*;generalize aC vs b=U at*;simp[ei]at h hb;simp[Tryz.f130,ei,aI,aA,h,hb];by_cases h0:T.e=0
 ·by_cases h1:U.e=0
  ·by_cases h2:T.t=1<;>by_cases h3:U.t=1<;>simp[h0,h1,h2,h3,b9,gd,gG,eN,cA]
  ·simp[h0,h1,b9]
 ·simp[h0,b9]
set_option maxHeartbeats 1000000 in
theorem abU {nn line:Int} {name field:Tx} {a b:Ex} (h:RT vs a) (hb:RT vs b):RT vs (.mk 18 nn name field [a,b] line):=by
 have e:aC vs (.mk 18 nn name field [a,b] line)=b9 18 line (aC vs a) (aC vs b):=by
  conv=>lhs;unfold aC
  rw[if_neg (by omega),if_neg (by omega)];rfl
 unfold RT at h hb⊢;rw[e,ew (by simp)];clear e;generalize aC vs a=T at*;generalize aC vs b=U at*;simp[ei]at h hb;simp[Tryz.f130,ei,aI,aA,h,hb];by_cases h0:T.e=0
 ·by_cases h1:U.e=0
  ·by_cases h2:T.t=1<;>by_cases h3:U.t=1<;>simp[h0,h1,h2,h3,b9,gd,gG,eN,cA]
  ·simp[h0,h1,b9]
 ·simp[h0,b9]
set_option maxHeartbeats 1000000 in
theorem abV {nn line:Int} {name field:Tx} {a b:Ex} (h:RT vs a) (hb:RT vs b):RT vs (.mk 19 nn name field [a,b] line):=by
 have e:aC vs (.mk 19 nn name field [a,b] line)=b9 19 line (aC vs a) (aC vs b):=by
  conv=>lhs;unfold aC
  rw[if_neg (by omega),if_neg (by omega)];rfl
 unfold RT at h hb⊢;rw[e,ew (by simp)];clear e;generalize aC vs a=T at*;generalize aC vs b=U at*;simp[ei]at h hb;simp[Tryz.f130,ei,aI,aA,h,hb];by_cases h0:T.e=0
 ·by_cases h1:U.e=0
  ·by_cases h2:T.t=2<;>by_cases h3:U.t=2<;>simp[h0,h1,h2,h3,b9,gd,gG,eN,cA]
  ·simp[h0,h1,b9]
 ·simp[h0,b9]
set_option maxHeartbeats 1000000 in
theorem abW {nn line:Int} {name field:Tx} {a b:Ex} (h:RT vs a) (hb:RT vs b):RT vs (.mk 20 nn name field [a,b] line):=by
 have e:aC vs (.mk 20 nn name field [a,b] line)=b9 20 line (aC vs a) (aC vs b):=by
  conv=>lhs;unfold aC
  rw[if_neg (by omega),if_neg (by omega)];rfl
 unfold RT at h hb⊢;rw[e,ew (by simp)];clear e;generalize aC vs a=T at*;generalize aC vs b=U at*;simp[ei]at h hb;simp[Tryz.f130,ei,aI,aA,h,hb];by_cases h0:T.e=0
 ·by_cases h1:U.e=0
  ·by_cases h2:T.t=2<;>by_cases h3:U.t=2<;>simp[h0,h1,h2,h3,b9,gd,gG,eN,cA]
  ·simp[h0,h1,b9]
 ·simp[h0,b9]
set_option maxHeartbeats 1000000 in
theorem abX {nn line:Int} {name field:Tx} {a b:Ex} (h:RT vs a) (hb:RT vs b):RT vs (.mk 21 nn name field [a,b] line):=by
 have e:aC vs (.mk 21 nn name field [a,b] line)=b9 21 line (aC vs a) (aC vs b):=by
  conv=>lhs;unfold aC
  rw[if_neg (by omega),if_neg (by omega)];rfl
 unfold RT at h hb⊢;rw[e,ew (by simp)];clear e;generalize aC vs a=T at*;generalize aC vs b=U at*;simp[ei]at h hb;simp[Tryz.f130,ei,aI,aA,h,hb];by_cases h0:T.e=0
 ·by_cases h1:U.e=0
  ·by_cases h2:T.t=2<;>by_cases h3:U.t=2<;>simp[h0,h1,h2,h3,b9,gd,gG,eN,cA]
  ·simp[h0,h1,b9]
 ·simp[h0,b9]
end
theorem abY {vs:List Vr} {op nn line:Int} {name field:Tx} {a b:Ex} (h8:8≤op) (Pp:op≤21) (h:RT vs a) (hb:RT vs b):RT vs (.mk op nn name field [a,b] line):=by
 have hc:op=8∨op=9∨op=10∨op=11∨op=12∨op=13∨op=14∨op=15∨op=16∨op=17∨op=18∨op=19∨op=20∨op=21:=by omega
 rcases hc with e|e|e|e|e|e|e|e|e|e|e|e|e|e<;>subst e
 ·exact afG h hb
 ·exact afH h hb
 ·exact abM h hb
 ·exact abN h hb
 ·exact abO h hb
 ·exact abP h hb
 ·exact abQ h hb
 ·exact abR h hb
 ·exact abS h hb
 ·exact abT h hb
 ·exact abU h hb
 ·exact abV h hb
 ·exact abW h hb
 ·exact abX h hb
section
variable {vs:List Vr} (hl:vs.length<1000000)
include hl
mutual
theorem ri:∀x:Ex,bk x=true→RT vs x
 | .mk op nn name field sub line,hf=>by
  simp only[bk,Bool.and_eq_true,decide_eq_true_eq,Bool.not_eq_true',decide_eq_false_iff_not]at hf;obtain⟨cR,hlen,_,_,fq⟩:=hf;have ih:=AE sub fq;unfold dE at hlen;by_cases kP:op=1∨op=2
  ·exact abL kP
  ·by_cases h5:op=5
   ·subst h5;exact Rc hl
   ·by_cases h34:op=3∨op=4
    ·refine W1 hl h34 (fun h4=>?_);rw[if_pos (.inl h4)]at hlen;match sub,hlen with
     |[y],_=>exact⟨y,rfl,ih y (by simp)⟩
    ·by_cases VE:op=6∨op=7
     ·rw[if_pos (.inr VE)]at hlen;match sub,hlen with
      |[y],_=>
       rcases VE with e|e<;>subst e
       ·exact afE (ih y (by simp))
       ·exact afF (ih y (by simp))
     ·rw[if_neg (by omega),if_pos (by omega)]at hlen;match sub,hlen with
      |[y,z],_=>exact abY (by omega) (by omega) (ih y (by simp)) (ih z (by simp))
theorem AE:∀l:List Ex,bA l=true→∀y∈l,RT vs y
 |[],_,y,hy=>by simp at hy
 |x::r,hf,y,hy=>by
  simp only[bA,Bool.and_eq_true]at hf;rcases List.mem_cons.1 hy with e|hy
  ·rw[e];exact ri x hf.1
  ·exact AE r hf.2 y hy
end
end
theorem D6 {op line:Int} {a b:Te} (h:(b9 op line a b).e=0):(b9 op line a b).line=0:=by
 rw[(gY h).2.2.2.2];rfl
theorem T0 (vs:List Vr):∀x:Ex,(aC vs x).e=0→(aC vs x).line=0
 | .mk op nn name field sub line,h=>by
  unfold aC at h⊢;split at h
  ·rename_i c;rw[if_pos c];rfl
  ·rename_i c;rw[if_neg c];split at h
   ·rename_i c2;rw[if_pos c2];cases hf:bf vs name with
    |none=>rw[hf]at h;simp[cA]at h
    |some v=>
     rw[hf]at h;simp only at h⊢;split at h
     ·rename_i c3;rw[if_pos c3];split at h
      ·simp[cA]at h
      ·rename_i c4;rw[if_neg c4];cases hp:kG v.ty field with
       |none=>rw[hp]at h;simp[cA]at h
       |some p=>rfl
     ·rename_i c3;rw[if_neg c3];split at h
      ·simp[cA]at h
      ·rename_i c4;rw[if_neg c4];split at h
       ·rename_i c5;rw[if_pos c5];cases sub with
        |nil=>rfl
        |cons y r=>
         simp only[ug]at h⊢;split at h
         ·rename_i c6;exact absurd h c6
         ·rename_i c6;rw[if_neg c6];split at h
          ·simp[cA]at h
          ·rename_i c7;rw[if_neg c7];rfl
       ·rename_i c5;rw[if_neg c5];rfl
   ·rename_i c2;rw[if_neg c2];match sub,h with
    |[],_=>rfl
    |[y],h=>exact D6 h
    |y::z::_,h=>exact D6 h
theorem pw (vs:List Vr) (x:Ex) (t:Int):B8 vs x t=dk vs x t:=by
 unfold B8 dk;have:=T0 vs x;by_cases h:(aC vs x).e=0
 ·have hl:=this h;by_cases ht:(aC vs x).t=t
  ·simp[h,ht,hl]
  ·simp[h,ht]
 ·simp[h]
def RM (vs:List Vr) (lp:Bool) (x:Sm):Prop:=ai ctx 89 [.d (.list (vs.map bG)),.d (.agg (smL x)),.d (.bool lp)] []=some (.ret (dq (dC (jU vs lp x))),[])
def oC (vs:List Vr) (lp:Bool) (l:List Sm):Prop:=ai ctx 49 [.d (.list (vs.map bG)),.d (.list (l.map cC)),.d (.bool lp)] []=some (.ret (dq (dC (eA vs lp l))),[])
@[simp] def gP (e:EL):aD:=.box [.d (.int .i64 e.1),.d (.int .i64 e.2)]
theorem HH {vs:List Vr} {lp:Bool} {l:List Sm} (bm:l.length<100000000) (hK:∀x∈l,RM vs lp x) (k:Kt) (RF:EL→bU)
 (h1:∀e u v X,k .ret ⟨27,aB,[(6,true,.ptr 400 u 0)],[⟨400,u,gP e⟩,⟨500,v,X⟩]⟩=RF e)
 (h2:∀(u v:Nat) (X:aD) (b c:AV),k (.exit 0) ⟨27,aB,[(0,true,.d (.list (vs.map bG))),(1,true,.d (.list (l.map cC))),(2,true,.d (.bool lp)),(6,true,.ptr 400 u 0),(7,true,b),(12,true,c)],[⟨400,u,gP (0,0)⟩,⟨500,v,X⟩]⟩=RF (0,0)):∀(rest pre:List Sm) (u v:Nat) (X:aD),l=pre++rest→
 aG ctx 49 (.loop (Code.at (bh Tryz.f49) [1,0,1,0,0])) ⟨27,aB,[(0,true,.d (.list (vs.map bG))),(1,true,.d (.list (l.map cC))),(2,true,.d (.bool lp)),(6,true,.ptr 400 u 0),(7,true,.d (.int .i64 pre.length))],[⟨400,u,gP (0,0)⟩,⟨500,v,X⟩]⟩ k=RF (dC (eA vs lp rest))
 |[],pre,u,v,X,hd=>by
  have cw:pre.length=l.length:=by rw[hd];simp
  simp only[gP]at h2;rw[cw,ah];simp[Tryz.f49,h2,eA,dC]
 |x::rest,pre,u,v,X,hd=>by
  have aV:pre.length<l.length:=by rw[hd];simp
  have aS:l[pre.length]=x:=by simp[hd]
  have hm:=hK x (by rw[hd];simp);have ih:=fun u v X=>HH bm hK k RF h1 h2 rest (pre++[x]) u v X (by simp[hd]);have w1:IntKind.i64.wrap ((pre.length:Int)+1)=(pre.length:Int)+1:=ay (by unfold aZ;omega);have key:eA vs lp (x::rest)=eX (jU vs lp x) (eA vs lp rest):=by rw[eA]
  rw[key];unfold RM dq at hm;generalize jU vs lp x=E at*;generalize eA vs lp rest=F at*;simp only[gP]at h1;rw[ah];by_cases h0:E.1=0
  ·rw[kH h0];simp[dC,h0]at hm;simp[Tryz.f49]at ih⊢;simp[aV,aS,eK,hm,w1,ih]
  ·rw[oq h0];have h1:=h1 E;simp[dC,h0]at hm;simp[Tryz.f49];simp[aV,aS,eK,hm,h0,h1,dC]
theorem HI {vs:List Vr} {lp:Bool} {l:List Sm} (bm:l.length<100000000) (hK:∀x∈l,RM vs lp x):oC vs lp l:=by
 unfold oC;have h:=fun k RF h1 h2 u v X=>HH bm hK k RF h1 h2 l [] u v X rfl;rw[aeP (by simp)];simp[Tryz.f49]at h⊢;rw[h _ (fun e=>some (.ret (dq e),[]))]
 ·intro a b u v X;simp[dq]
 ·intro u v X b c;simp[dq]
theorem abZ {w:Vr} (h:du w=true):w.arr=true→0≤w.lo∧w.lo≤w.hi∧w.hi≤255:=by
 intro ha;simp only[du,Bool.and_eq_true,ha,if_true,decide_eq_true_eq]at h;exact h.2.2.1.2
theorem HJ (l:List Vr) (bm:l.length≤1000) (hf:∀v∈l,du v=true) (D1 D2:AV) (k:Kt) (RF:EL→bU)
 (h1:∀e u v X,e.1≠0→k .ret ⟨58,aB,[(2,true,.ptr 200 u 0)],[⟨150,1,.box [D1,.d (.list (l.map bG)),D2]⟩,⟨200,u,gP e⟩,⟨350,v,X⟩]⟩=RF e)
 (h2:∀(u v:Nat) (X:aD) (a b c:AV),k (.exit 0) ⟨58,aB,[(1,true,.ptr 150 1 0),(2,true,.ptr 200 u 0),(3,true,a),(4,true,b),(11,true,c)],[⟨150,1,.box [D1,.d (.list (l.map bG)),D2]⟩,⟨200,u,gP (0,0)⟩,⟨350,v,X⟩]⟩=RF (0,0)):∀(rest pre:List Vr) (n:Int) (u v:Nat) (X:aD),l=pre++rest→0≤n→n≤1024→
 aG ctx 19 (.loop (Code.at (bh Tryz.f19) [1,1,0,1,0,0])) ⟨58,aB,[(1,true,.ptr 150 1 0),(2,true,.ptr 200 u 0),(3,true,.d (.int .i64 n)),(4,true,.d (.int .i64 pre.length))],[⟨150,1,.box [D1,.d (.list (l.map bG)),D2]⟩,⟨200,u,gP (0,0)⟩,⟨350,v,X⟩]⟩ k=RF (DK rest pre n)
 |[],pre,n,u,v,X,hd,h0,hn=>by
  have cw:pre.length=l.length:=by rw[hd];simp
  simp only[gP]at h2;rw[cw,ah];simp[Tryz.f19,h2,DK]
 |x::rest,pre,n,u,v,X,hd,h0,hn=>by
  have aV:pre.length<l.length:=by rw[hd];simp
  have aS:l[pre.length]=x:=by simp[hd]
  have sV:List.take pre.length (List.map bG l)=List.map bG pre:=by simp[hd]
  have xU:pre.length≤l.length:=by omega
  have vL:=hf x (by rw[hd];simp);have kM:=pG vL;have hc:=TZ (abZ vL);have jy:=mn (vs:=pre) (by omega) x.name;have ih:=fun u v X=>HJ l bm hf D1 D2 k RF h1 h2 rest (pre++[x]) (n+bH x) u v X (by simp[hd]);have w1:IntKind.i64.wrap ((pre.length:Int)+1)=(pre.length:Int)+1:=ay (by unfold aZ;omega);have w3:IntKind.i64.wrap (n+bH x)=n+bH x:=ay (by unfold aZ;omega);have qJ:=fun u v X=>h1 (11,x.line) u v X (by simp);have D7:=fun u v X=>h1 (13,x.line) u v X (by simp);simp only[gP]at qJ D7;simp[eu]at hc;generalize hW:fV pre x.name=W at*;simp[bG,eu]at jy;rw[ah];unfold DK;cases de:(bf pre x.name).isSome with
  |true=>
   rw[de]at jy;simp[Tryz.f19];simp[aV,aS,sV,xU,bG,eu,jy,qJ,aI]
  |false=>
   rw[de]at jy;by_cases sd:1024<n+bH x
   ·simp[Tryz.f19];simp[aV,aS,sV,xU,bG,eu,jy,hc,w3,sd,D7,aI]
   ·have ih:=fun u v X=>ih u v X (by omega) (by omega);simp[Tryz.f19]at ih⊢;simp[aV,aS,sV,xU,bG,eu,jy,hc,w1,w3,sd,ih,aI]
theorem T1 {p:Pg} (hf:pg p=true) (hs:oC p.vars false p.body):ai ctx 19 [.d (.agg [.str p.name,.list (p.vars.map bG),.list (p.body.map cC)])] []=some (.ret (dq (dC (qd p))),[]):=by
 simp only[pg,Bool.and_eq_true,decide_eq_true_eq,List.all_eq_true]at hf;obtain⟨_,hvl,eh,hb⟩:=hf;unfold oC at hs;unfold qd;generalize hE:eA p.vars false p.body=E at*;have h:=fun D1 D2 k RF h1 h2 u v X=>HJ p.vars (by omega) eh D1 D2 k RF h1 h2 p.vars [] 0 u v X rfl (by omega) (by omega);generalize hV:DK p.vars [] 0=V at*;rw[aeF (by simp)];simp[Tryz.f19]at h⊢;rw[h _ _ _ (fun e=>some (.ret (dq (dC (eX e E))),[]))]
 ·intro a b u v X sm;rw[oq sm];simp[dq,dC,sm]
 ·intro u v X a b c;rw[kH rfl];simp[hs,dq]
@[reducible] noncomputable def zD (p:List Nat):Code:=Code.at (bh Tryz.f132) p
theorem HK {x:Sm} {f:Tx} {pre tl:List Tx} (hx:dO x=pre++f::tl) (hlen:(dO x).length<100000000) {a0:AV} {u v5 v6:Nat} {W X5 X6:aD} (k:Kt) (R1 R2:bU)
 (h1:k .ret ⟨91,aB,[(4,true,.ptr 300 u 0)],[⟨250,1,bg x⟩,⟨300,u,gP (11,ko x)⟩,⟨350,1,W⟩,⟨500,v5,X5⟩,⟨650,v6,X6⟩]⟩=R1)
 (h2:∀b c,k (.exit 2) ⟨91,aB,[(0,true,a0),(3,true,.ptr 250 1 0),(4,true,.ptr 300 u 0),(5,true,.ptr 350 1 0),(7,true,.d (.int .i64 pre.length)),(8,true,.ptr 500 v5 0),(10,true,b),(60,true,c)],[⟨250,1,bg x⟩,⟨300,u,gP (0,0)⟩,⟨350,1,W⟩,⟨500,v5,X5⟩,⟨650,v6,X6⟩]⟩=R2):∀(rest p2:List Tx),pre=p2++rest→
 aG ctx 132 (.loop (zD [1,1,1,1,0,1,0,0,1,0,0,1,1,0,1,0,0])) ⟨91,aB,[(0,true,a0),(3,true,.ptr 250 1 0),(4,true,.ptr 300 u 0),(5,true,.ptr 350 1 0),(7,true,.d (.int .i64 pre.length)),(8,true,.ptr 500 v5 0),(10,true,.d (.int .i64 p2.length))],[⟨250,1,bg x⟩,⟨300,u,gP (0,0)⟩,⟨350,1,W⟩,⟨500,v5,X5⟩,⟨650,v6,X6⟩]⟩ k=if f∈rest then R1 else R2
 |[],p2,hd=>by
  have cw:p2.length=pre.length:=by rw[hd];simp
  simp only[gP,bg]at h2;rw[cw,ah];simp[zD,Tryz.f132,h2]
 |c::rest,p2,hd=>by
  have aV:p2.length<pre.length:=by rw[hd];simp
  have aS:pre.length<(dO x).length:=by rw[hx];simp
  have sV:p2.length<(dO x).length:=by omega
  have xU:(dO x)[pre.length]=f:=by simp[hx]
  have hb5:(dO x)[p2.length]=c:=by simp[hx,hd]
  have ih:=HK hx hlen k R1 R2 h1 h2 rest (p2++[c]) (by simp[hd]);have w1:IntKind.i64.wrap ((p2.length:Int)+1)=(p2.length:Int)+1:=ay (by unfold aZ;omega);simp only[gP,bg]at h1;rw[ah];by_cases hq:c=f
  ·have oL:f=c:=hq.symm;simp[zD,Tryz.f132];simp[aV,aS,sV,xU,hb5,hq,h1,aI]
  ·have oL:¬f=c:=fun h=>hq h.symm;simp[zD,Tryz.f132]at ih⊢;simp[aV,aS,sV,xU,hb5,hq,oL,w1,ih,aI]
theorem HL {vs:List Vr} {x:Sm} {w:Vr} (hlen:(dO x).length<100000000) (hle:(cu x).length=(dO x).length) (hC:∀y∈cu x,RT vs y) (k:Kt) (RF:EL→bU)
 (h1:∀e u v5 v6 X5 X6,k .ret ⟨91,aB,[(4,true,.ptr 300 u 0)],[⟨250,1,bg x⟩,⟨300,u,gP e⟩,⟨350,1,ib w⟩,⟨500,v5,X5⟩,⟨650,v6,X6⟩]⟩=RF e)
 (h2:∀u v5 v6 X5 X6 b c,k (.exit 0) ⟨91,aB,[(0,true,.d (.list (vs.map bG))),(3,true,.ptr 250 1 0),(4,true,.ptr 300 u 0),(5,true,.ptr 350 1 0),(7,true,b),(34,true,c)],[⟨250,1,bg x⟩,⟨300,u,gP (0,0)⟩,⟨350,1,ib w⟩,⟨500,v5,X5⟩,⟨650,v6,X6⟩]⟩=RF (0,0)):∀(rest pre:List Tx) (cr cp:List Ex) (u v5 v6:Nat) (X5 X6:aD),dO x=pre++rest→cu x=cp++cr→cp.length=pre.length→
 aG ctx 132 (.loop (zD [1,1,1,1,0,1,0,0])) ⟨91,aB,[(0,true,.d (.list (vs.map bG))),(3,true,.ptr 250 1 0),(4,true,.ptr 300 u 0),(5,true,.ptr 350 1 0),(7,true,.d (.int .i64 pre.length))],[⟨250,1,bg x⟩,⟨300,u,gP (0,0)⟩,⟨350,1,ib w⟩,⟨500,v5,X5⟩,⟨650,v6,X6⟩]⟩ k=RF (dC (iC vs w.ty (ko x) rest cr pre))
 |[],pre,cr,cp,u,v5,v6,X5,X6,hd,hc,aP=>by
  have cw:pre.length=(dO x).length:=by rw[hd];simp
  have e0:iC vs w.ty (ko x) [] cr pre=(0,0):=by unfold iC;rfl
  simp only[gP,bg,ib]at h2;rw[e0,cw,ah];simp[zD,Tryz.f132,h2,dC]
 |f::rest,pre,[],cp,u,v5,v6,X5,X6,hd,hc,aP=>by
  rw[hd,hc]at hle;simp at hle;omega
 |f::rest,pre,y::cr,cp,u,v5,v6,X5,X6,hd,hc,aP=>by
  have aV:pre.length<(dO x).length:=by rw[hd];simp
  have aS:(dO x)[pre.length]=f:=by simp[hd]
  have sV:pre.length<(cu x).length:=by omega
  have xU:(cu x)[pre.length]=y:=by simp[←aP,hc]
  have hy:=hC y (by rw[hc];simp);have hp:=Rb w.ty f;have ih:=fun u v5 v6 X5 X6=>HL hlen hle hC k RF h1 h2 rest (pre++[f]) cr (cp++[y]) u v5 v6 X5 X6 (by simp[hd]) (by simp[hc]) (by simp[aP]);have de:=fun a0 u v5 v6 W X5 X6 k R1 R2 h1 h2=>HK (a0:=a0) (u:=u) (v5:=v5) (v6:=v6) (W:=W) (X5:=X5) (X6:=X6) hd hlen k R1 R2 h1 h2 pre [] rfl;have w1:IntKind.i64.wrap ((pre.length:Int)+1)=(pre.length:Int)+1:=ay (by unfold aZ;omega);have key:iC vs w.ty (ko x) (f::rest) (y::cr) pre=(match kG w.ty f with
   |none=>(9,ko x)
   |some q=>if q.I0=false then (9,ko x)else if f∈pre then (11,ko x)else eX (dk vs y q.ty) (iC vs w.ty (ko x) rest cr (pre++[f]))):=by
   conv=>lhs;unfold iC
   rfl
  have qJ:=h1 (9,ko x);have D7:=h1 (11,ko x);have Oe:=h1 (dk vs y (fP w.ty f).ty);have hw:=pv (fP w.ty f).ty hy;rw[pw]at hw;unfold dq at hw;simp only[gP,bg,ib]at qJ D7 Oe;rw[key];clear key;rw[ah];cases hq:kG w.ty f with
  |none=>
   simp[hq,fP,cS,sI]at hp;simp[zD,Tryz.f132];simp[aV,aS,hp,qJ,dC,aI]
  |some q=>
   simp only[fP,hq,Option.getD_some]at hw Oe;simp[hq,fP,cS]at hp;simp only
   generalize iC vs w.ty (ko x) rest cr (pre++[f])=E at*;generalize dk vs y q.ty=T at*;by_cases hi:q.I0=false
   ·simp[hi]at hp;simp[zD,Tryz.f132];simp[aV,aS,hp,qJ,dC,hi,aI]
   ·have hi:q.I0=true:=by simpa using hi
    simp[hi]at hp;simp[zD,Tryz.f132]at de ih⊢;simp[aV,aS,hp,hi,aI];rw[de (R1:=RF (11,ko x)) (R2:=RF (dC (eX T E)))]
    ·by_cases hm:f∈pre
     ·simp[hm,dC]
     ·simp[hm]
    ·simp[D7]
    ·intro b c;by_cases h0:T.1=0
     ·rw[kH h0];simp[aV,aS,sV,xU,aA,hw,h0,w1,ih,aI]
     ·rw[oq h0];simp[aV,aS,sV,xU,aA,hw,h0,Oe,dC,aI]
theorem W2 {vs:List Vr} (hl:vs.length<1000000) {x:Sm} (hlen:(dO x).length<100000000) (hle:(cu x).length=(dO x).length) (hC:∀y∈cu x,RT vs y):ai ctx 132 [.d (.list (vs.map bG)),.d (.agg (smL x))] []=some (.ret (dq (dC (Qk vs x))),[]):=by
 have hf:=mn hl (gV x);rw[Zs (by simp)];unfold Qk;cases hv:bf vs (gV x)with
 |none=>
  simp[hv,fV,bG,eu,qE]at hf;simp[Tryz.f132,hf,dq,dC]
 |some v=>
  have h:=fun k RF h1 h2 u v5 v6 X5 X6=>HL (w:=v) hlen hle hC k RF h1 h2 (dO x) [] (cu x) [] u v5 v6 X5 X6 rfl rfl rfl;simp[hv,fV,bG,eu]at hf;by_cases h2:v.ty≤2
  ·simp[Tryz.f132,hf,dq,dC,h2]
  ·generalize hE:iC vs v.ty (ko x) (dO x) (cu x) []=E at*;simp[zD,Tryz.f132]at h;simp[Tryz.f132,hf,h2];rw[h _ (fun e=>some (.ret (dq e),[]))]
   ·rw[hE]
   ·intro a b u v5 v6 X5 X6;simp[dq]
   ·intro u v5 v6 X5 X6 b c;simp[dq]
section
variable {vs:List Vr} {lp:Bool} {x:Sm}
theorem afI (h:bu x=7):RM vs lp x:=by
 unfold RM;rw[qY,ml (by simp)];cases lp with
 |true=>simp[Tryz.f89,h,dq,dC]
 |false=>simp[Tryz.f89,h,dq,dC]
theorem afJ (h:bu x=8):RM vs lp x:=by
 unfold RM;rw[qY,ml (by simp)];simp[Tryz.f89,h,dq,dC]
theorem afK (hl:vs.length<1000000) (h:bu x=9) (hlen:(dO x).length<100000000) (hle:(cu x).length=(dO x).length) (hC:∀y∈cu x,RT vs y):RM vs lp x:=by
 have hc:=W2 hl hlen hle hC;unfold RM;rw[qY,ml (by simp)];generalize Qk vs x=E at*;simp[h,dq]at hc;simp[Tryz.f89,h,dq,hc]
theorem afL (h:bu x=5) {b:List Sm} (hb:bx x=[b]) (hv:RT vs (dH x)) (hs:oC vs true b):RM vs lp x:=by
 have hw:=pv 2 hv;rw[pw]at hw;unfold oC at hs;unfold RM;rw[qY,ml (by simp)];have e:sH vs (bx x)=eA vs true b:=by rw[hb];rfl
 rw[e];generalize dk vs (dH x) 2=T at*;generalize eA vs true b=E at*;simp[dq]at hw hs;by_cases h0:T.1=0
 ·simp[Tryz.f89,h,hb,df,dq,hw,hs,kH h0,h0]
 ·simp[Tryz.f89,h,hb,dq,hw,oq h0,h0,dC]
theorem afM (h:bu x=6) {b:List Sm} (hb:bx x=[b]) (hv:RT vs (dH x)) (hs:oC vs true b):RM vs lp x:=by
 have hw:=pv 2 hv;rw[pw]at hw;unfold oC at hs;unfold RM;rw[qY,ml (by simp)];have e:sH vs (bx x)=eA vs true b:=by rw[hb];rfl
 have hT:(dk vs (dH x) 2).1=0→dk vs (dH x) 2=(0,0):=by
  unfold dk;split
  ·intro hh;rename_i c;exact absurd hh c
  ·split
   ·intro hh;simp at hh
   ·intro _;rfl
 rw[e];generalize dk vs (dH x) 2=T at*;generalize eA vs true b=E at*;have Hr:dC T=T:=by
  unfold dC;by_cases h0:T.1=0
  ·rw[if_pos h0,hT h0]
  ·rw[if_neg h0]
 simp[dq]at hw hs;by_cases h0:E.1=0
 ·simp[dC,h0]at hs;simp[Tryz.f89,h,hb,df,dq,hw,hs,kH h0,Hr]
 ·simp[dC,h0]at hs;simp[Tryz.f89,h,hb,df,dq,hs,oq h0,h0,dC]
end
section
variable {vs:List Vr} {lp:Bool} {x:Sm}
theorem afN (hl:vs.length<1000000) (h:bu x=1) (ht:RT vs (eF x)) (hv:RT vs (dH x)):RM vs lp x:=by
 have hf:=mn hl (dB (eF x));unfold RT at ht hv;unfold RM;rw[qY,ml (by simp),if_pos h];unfold BE;generalize aC vs (eF x)=T at*;generalize aC vs (dH x)=U at*;simp[ei]at ht hv;cases hq:bf vs (dB (eF x))with
 |none=>
  simp[hq,fV,bG,eu,qE]at hf;simp[Tryz.f89,h,hf,dq,dC]
 |some w=>
  simp[hq,fV,bG,eu]at hf;by_cases h1:w.sec=1
  ·simp[Tryz.f89,h,hf,h1,dq,dC]
  ·by_cases h2:T.e=0
   ·have o1:(DJ T).1=0:=h2;by_cases h3:U.e=0
    ·have o2:(DJ U).1=0:=h3;by_cases h4:U.t=T.t
     ·simp[Tryz.f89,h,hf,h1,ht,h2,hv,h3,h4,kH o1,kH o2,dq,dC]
     ·simp[Tryz.f89,h,hf,h1,ht,h2,hv,h3,h4,kH o1,kH o2,dq,dC]
    ·have o2:¬(DJ U).1=0:=h3;simp[Tryz.f89,h,hf,h1,ht,h2,hv,h3,eX,dq,dC,DJ]
   ·have o1:¬(DJ T).1=0:=h2;simp[Tryz.f89,h,hf,h1,ht,h2,eX,dq,dC,DJ]
end
@[reducible] noncomputable def oU (p:List Nat):Code:=Code.at (bh Tryz.f89) p
@[simp] def mG (x:Sm) (e:EL) (w7 w8 w85 w9 oR:Nat) (Y7 Y8 Y85 Y9 rY Y10:aD) (w10:Nat):List cJ:=[⟨300,1,bg x⟩,⟨400,1,gP e⟩,⟨450,0,.dead⟩,⟨600,0,.dead⟩,⟨750,w7,Y7⟩,⟨800,w8,Y8⟩,⟨850,w85,Y85⟩,⟨950,w9,Y9⟩,⟨1000,w10,Y10⟩,⟨1150,oR,rY⟩,⟨1200,0,.dead⟩,⟨1250,0,.dead⟩]
section
variable {vs:List Vr} {lp:Bool} {x:Sm}
theorem HM {w85:Nat} {Y85:aD} (hlen:(bx x).length<100000000) (hB:∀b∈bx x,oC vs lp b) (k:Kt) (RF:EL→bU)
 (h1:∀e w9 Y9,k .ret ⟨242,aB,[(6,true,.ptr 400 1 0)],mG x e 0 0 w85 w9 0 .dead .dead Y85 Y9 .dead .dead 0⟩=RF e)
 (h2:∀w9 Y9 b c,k (.exit 3) ⟨242,aB,[(0,true,.d (.list (vs.map bG))),(2,true,.d (.bool lp)),(4,true,.ptr 300 1 0),(6,true,.ptr 400 1 0),(16,true,b),(128,true,c)],mG x (0,0) 0 0 w85 w9 0 .dead .dead Y85 Y9 .dead .dead 0⟩=RF (0,0)):∀(rest pre:List (List Sm)) (w9:Nat) (Y9:aD),bx x=pre++rest→
 aG ctx 89 (.loop (oU [1,0,1,0,1,1,1,1,1,0,1,1,0,0])) ⟨242,aB,[(0,true,.d (.list (vs.map bG))),(2,true,.d (.bool lp)),(4,true,.ptr 300 1 0),(6,true,.ptr 400 1 0),(16,true,.d (.int .i64 pre.length))],mG x (0,0) 0 0 w85 w9 0 .dead .dead Y85 Y9 .dead .dead 0⟩ k=RF (dC (fB vs lp [] rest))
 |[],pre,w9,Y9,hd=>by
  have cw:pre.length=(bx x).length:=by rw[hd];simp
  have e0:fB vs lp [] []=(0,0):=by unfold fB;rfl
  simp only[mG,gP,bg]at h2;rw[e0,cw,ah];simp[oU,Tryz.f89,h2,dC]
 |b::rest,pre,w9,Y9,hd=>by
  have aV:pre.length<(bx x).length:=by rw[hd];simp
  have aS:(bx x)[pre.length]=b:=by simp[hd]
  have hs:=hB b (by rw[hd];simp);have ih:=fun w9 Y9=>HM hlen hB k RF h1 h2 rest (pre++[b]) w9 Y9 (by simp[hd]);have w1:IntKind.i64.wrap ((pre.length:Int)+1)=(pre.length:Int)+1:=ay (by unfold aZ;omega);have key:fB vs lp [] (b::rest)=eX (eA vs lp b) (fB vs lp [] rest):=by
   conv=>lhs;unfold fB
  rw[key];clear key;unfold oC dq at hs;generalize eA vs lp b=E at*;generalize fB vs lp [] rest=F at*;have qJ:=h1 E;simp only[mG,gP,bg]at qJ;rw[ah];by_cases h0:E.1=0
  ·rw[kH h0];simp[dC,h0]at hs;simp[oU,Tryz.f89]at ih⊢;simp[aV,aS,df,hs,w1,ih]
  ·rw[oq h0];simp[dC,h0]at hs;simp[oU,Tryz.f89];simp[aV,aS,df,hs,h0,qJ,dC]
theorem afO (h:bu x=3) (hlen:(bx x).length<100000000) (hv:RT vs (dH x)) (hB:∀b∈bx x,oC vs lp b):RM vs lp x:=by
 have hw:=pv 1 hv;rw[pw]at hw;have dc:=fun w85 Y85 k RF h1 h2 w9 Y9=>HM (w85:=w85) (Y85:=Y85) hlen hB k RF h1 h2 (bx x) [] w9 Y9 rfl;unfold RM;rw[qY,ml (by simp)];generalize dk vs (dH x) 1=T at*;simp[dq]at hw;by_cases h0:T.1=0
 ·rw[if_neg (by omega),if_neg (by omega),if_pos h,kH h0];generalize fB vs lp [] (bx x)=E at*;simp[oU,Tryz.f89,h]at dc;simp[Tryz.f89,h,hw,h0];rw[dc _ _ _ (fun e=>some (.ret (dq e),[]))]
  ·intro a b w9 Y9;simp[dq]
  ·intro w9 Y9 b c;simp[dq]
 ·simp[Tryz.f89,h,hw,h0,oq h0,dC,dq]
theorem HN (hlen:(bx x).length<100000000) (fX:(cu x).length<100000000) (hC:∀y∈cu x,RT vs y) (hB:∀b∈bx x,oC vs lp b) (k:Kt) (RF:EL→bU)
 (h1:∀e w7 Y7 w8 Y8,k .ret ⟨242,aB,[(6,true,.ptr 400 1 0)],mG x e w7 w8 0 0 0 Y7 Y8 .dead .dead .dead .dead 0⟩=RF e)
 (h2:∀w7 Y7 w8 Y8 b c,k (.exit 1) ⟨242,aB,[(0,true,.d (.list (vs.map bG))),(2,true,.d (.bool lp)),(4,true,.ptr 300 1 0),(6,true,.ptr 400 1 0),(12,true,b),(83,true,c)],mG x (0,0) w7 w8 0 0 0 Y7 Y8 .dead .dead .dead .dead 0⟩=RF (0,0)):∀(rest pre:List (List Sm)) (w7:Nat) (Y7:aD) (w8:Nat) (Y8:aD),bx x=pre++rest→
 aG ctx 89 (.loop (oU [1,0,1,0,1,1,1,0,1,0,0])) ⟨242,aB,[(0,true,.d (.list (vs.map bG))),(2,true,.d (.bool lp)),(4,true,.ptr 300 1 0),(6,true,.ptr 400 1 0),(12,true,.d (.int .i64 pre.length))],mG x (0,0) w7 w8 0 0 0 Y7 Y8 .dead .dead .dead .dead 0⟩ k=RF (dC (fB vs lp ((cu x).drop pre.length) rest))
 |[],pre,w7,Y7,w8,Y8,hd=>by
  have cw:pre.length=(bx x).length:=by rw[hd];simp
  have e0:∀cs,fB vs lp cs []=(0,0):=by intro cs;unfold fB;rfl
  simp only[mG,gP,bg]at h2;rw[e0,cw,ah];simp[oU,Tryz.f89,h2,dC]
 |b::rest,pre,w7,Y7,w8,Y8,hd=>by
  have aV:pre.length<(bx x).length:=by rw[hd];simp
  have aS:(bx x)[pre.length]=b:=by simp[hd]
  have hs:=hB b (by rw[hd];simp);have ih:=fun w7 Y7 w8 Y8=>HN hlen fX hC hB k RF h1 h2 rest (pre++[b]) w7 Y7 w8 Y8 (by simp[hd]);have w1:IntKind.i64.wrap ((pre.length:Int)+1)=(pre.length:Int)+1:=ay (by unfold aZ;omega);unfold oC dq at hs;have qJ:=h1 (eA vs lp b);simp only[mG,gP,bg]at qJ;rw[ah];by_cases hc:pre.length<(cu x).length
  ·have hy:=hC _ (List.getElem_mem hc);have hw:=pv 2 hy;rw[pw]at hw;have key:fB vs lp ((cu x).drop pre.length) (b::rest)=eX (dk vs (cu x)[pre.length] 2) (eX (eA vs lp b) (fB vs lp ((cu x).drop (pre.length+1)) rest)):=by
    rw[List.drop_eq_getElem_cons hc];conv=>lhs;unfold fB
   rw[key];clear key;have D7:=h1 (dk vs (cu x)[pre.length] 2);simp only[mG,gP,bg]at D7;simp only[List.length_append,List.length_cons,List.length_nil,Nat.zero_add]at ih;generalize eA vs lp b=E at*;generalize fB vs lp ((cu x).drop (pre.length+1)) rest=F at*;generalize dk vs (cu x)[pre.length] 2=T at*;unfold dq at hw;by_cases ht:T.1=0
   ·rw[kH ht];by_cases h0:E.1=0
    ·rw[kH h0];simp[dC,h0]at hs;simp[oU,Tryz.f89]at ih⊢;simp[aV,aS,hc,aA,df,hw,ht,hs,w1,ih]
    ·rw[oq h0];simp[dC,h0]at hs;simp[oU,Tryz.f89];simp[aV,aS,hc,aA,df,hw,ht,hs,h0,qJ,dC]
   ·rw[oq ht];simp[oU,Tryz.f89];simp[aV,aS,hc,aA,hw,ht,D7,dC]
  ·have jb:∀n,pre.length≤n→(cu x).drop n=[]:=fun n hn=>List.drop_eq_nil_of_le (by omega);have key:fB vs lp ((cu x).drop pre.length) (b::rest)=eX (eA vs lp b) (fB vs lp [] rest):=by
    rw[jb _ (Nat.le_refl _)];conv=>lhs;unfold fB
   rw[key];clear key;simp only[List.length_append,List.length_cons,List.length_nil,Nat.zero_add,jb (pre.length+1) (by omega)]at ih;generalize eA vs lp b=E at*;generalize fB vs lp [] rest=F at*;by_cases h0:E.1=0
   ·rw[kH h0];simp[dC,h0]at hs;simp[oU,Tryz.f89]at ih⊢;simp[aV,aS,hc,df,hs,w1,ih]
   ·rw[oq h0];simp[dC,h0]at hs;simp[oU,Tryz.f89];simp[aV,aS,hc,df,hs,h0,qJ,dC]
end
section
variable {vs:List Vr} {lp:Bool} {x:Sm}
theorem afP (h:bu x=2) (hlen:(bx x).length<100000000) (fX:(cu x).length<100000000) (hC:∀y∈cu x,RT vs y) (hB:∀b∈bx x,oC vs lp b):RM vs lp x:=by
 have dc:=fun k RF h1 h2 w7 Y7 w8 Y8=>HN hlen fX hC hB k RF h1 h2 (bx x) [] w7 Y7 w8 Y8 rfl;unfold RM;rw[qY,ml (by simp)];rw[if_neg (by omega),if_pos h];simp only[List.length_nil,List.drop_zero]at dc;generalize fB vs lp (cu x) (bx x)=E at*;simp[oU,Tryz.f89,h]at dc;simp[Tryz.f89,h];rw[dc _ (fun e=>some (.ret (dq e),[]))]
 ·intro a b w7 Y7 w8 Y8;simp[dq]
 ·intro w7 Y7 w8 Y8 b c;simp[dq]
theorem HO {W:aD} (fX:(cu x).length<100000000) (hC:∀y∈cu x,RT vs y) (k:Kt) (RF:EL→bU)
 (h1:∀(e:EL) oR rY,¬e.1=0→k .ret ⟨242,aB,[(6,true,.ptr 400 1 0)],mG x e 0 0 0 0 oR .dead .dead .dead .dead rY W 1⟩=RF e)
 (h2:∀oR rY b c,k (.exit 5) ⟨242,aB,[(0,true,.d (.list (vs.map bG))),(4,true,.ptr 300 1 0),(6,true,.ptr 400 1 0),(20,true,b),(177,true,c)],mG x (0,0) 0 0 0 0 oR .dead .dead .dead .dead rY W 1⟩=RF (0,0)):∀(rest pre:List Ex) (oR:Nat) (rY:aD),cu x=pre++rest→
 aG ctx 89 (.loop (oU [1,0,1,0,1,1,1,1,1,1,1,0,1,1,1,1,0,1,0,0])) ⟨242,aB,[(0,true,.d (.list (vs.map bG))),(4,true,.ptr 300 1 0),(6,true,.ptr 400 1 0),(20,true,.d (.int .i64 pre.length))],mG x (0,0) 0 0 0 0 oR .dead .dead .dead .dead rY W 1⟩ k=RF (dC (kp vs 1 rest))
 |[],pre,oR,rY,hd=>by
  have cw:pre.length=(cu x).length:=by rw[hd];simp
  simp only[mG,gP,bg]at h2;rw[cw,ah];simp[oU,Tryz.f89,h2,dC,kp]
 |y::rest,pre,oR,rY,hd=>by
  have aV:pre.length<(cu x).length:=by rw[hd];simp
  have aS:(cu x)[pre.length]=y:=by simp[hd]
  have hw:=pv 1 (hC y (by rw[hd];simp));rw[pw]at hw;have ih:=fun oR rY=>HO fX hC k RF h1 h2 rest (pre++[y]) oR rY (by simp[hd]);have w1:IntKind.i64.wrap ((pre.length:Int)+1)=(pre.length:Int)+1:=ay (by unfold aZ;omega);have key:kp vs 1 (y::rest)=eX (dk vs y 1) (kp vs 1 rest):=rfl;rw[key];clear key;unfold dq at hw;generalize dk vs y 1=E at*;generalize kp vs 1 rest=F at*;rw[ah];by_cases h0:E.1=0
  ·rw[kH h0];simp[oU,Tryz.f89]at ih⊢;simp[aV,aS,aA,hw,h0,w1,ih]
  ·rw[oq h0];have qJ:=fun w Y=>h1 E w Y h0;simp only[mG,gP,bg]at qJ;simp[oU,Tryz.f89];simp[aV,aS,aA,hw,h0,qJ,dC]
set_option maxHeartbeats 1000000 in
theorem ab0 (h:bu x=4) (fX:(cu x).length<100000000) (hC:∀y∈cu x,RT vs y) {b:List Sm} (hb:bx x=[b]) (hs:oC vs true b) {w:Vr} (hq:bf vs (gV x)=some w) (hf:ai ctx 47 [.d (.list (vs.map bG)),.d (.str (gV x))] []=some (.ret (.aU [.d (bG (fV vs (gV x))),.d (.bool (bf vs (gV x)).isSome)]),[])) (h1:¬w.sec=1) (h2:w.arr=false) (h3:w.ty=1):
 ai ctx 89 [.d (.list (vs.map bG)),.d (.agg (smL x)),.d (.bool lp)] []=some (.ret (dq (dC (eX (kp vs 1 (cu x)) (eA vs true b)))),[]):=by
 have dc:=fun W k RF h1 h2 oR rY=>HO (W:=W) fX hC k RF h1 h2 (cu x) [] oR rY rfl;unfold oC at hs;rw[ml (by simp)];generalize eA vs true b=F at*;generalize kp vs 1 (cu x)=E at*;simp[hq,fV,bG,eu]at hf;simp[oU,Tryz.f89,h,hb]at dc;simp[dq]at hs;simp[Tryz.f89,h,hf,h1,h2,h3,hb];rw[dc _ _ (fun e=>some (.ret (dq (dC (eX e F))),[]))]
 ·by_cases h0:E.1=0
  ·simp[dC,h0,eX]
  ·simp[dC,h0,eX]
 ·intro e1 e2 oR rY h0;simp[dq,eX,h0,dC]
 ·intro oR rY c d;simp[df,hs,dq,eX]
theorem afQ (hl:vs.length<1000000) (h:bu x=4) (fX:(cu x).length<100000000) (hC:∀y∈cu x,RT vs y) {b:List Sm} (hb:bx x=[b]) (hs:oC vs true b):RM vs lp x:=by
 have hf:=mn hl (gV x);unfold RM;rw[qY];rw[if_neg (by omega),if_neg (by omega),if_neg (by omega),if_pos h];have e:sH vs (bx x)=eA vs true b:=by rw[hb];rfl
 unfold coE;rw[e];cases hq:bf vs (gV x)with
 |none=>
  rw[ml (by simp)];simp[hq,fV,bG,eu,qE]at hf;simp[Tryz.f89,h,hf,dq,dC]
 |some w=>
  by_cases h1:w.sec=1
  ·rw[ml (by simp)];simp[hq,fV,bG,eu]at hf;simp[Tryz.f89,h,hf,h1,dq,dC]
  ·by_cases h2:w.arr=true
   ·rw[ml (by simp)];simp[hq,fV,bG,eu]at hf;simp[Tryz.f89,h,hf,h1,h2,dq,dC]
   ·have h2:w.arr=false:=by simpa using h2
    by_cases h3:w.ty=1
    ·rw[ab0 h fX hC hb hs hq hf h1 h2 h3];simp only[if_neg h1,h2,h3];simp
    ·rw[ml (by simp)];simp[hq,fV,bG,eu]at hf;simp[Tryz.f89,h,hf,h1,h2,h3,dq,dC]
end
theorem CO {α:Type} {l:List α} (h:l.length=1):∃a,l=[a]:=by
 match l,h with
 |[a],_=>exact⟨a,rfl⟩
section
variable {vs:List Vr} (hl:vs.length<1000000)
include hl
theorem W3 {lp:Bool} {x:Sm} (hf:ji x=true) (zv:(bx x).length<100000000) (fX:(cu x).length<100000000) (wY:(dO x).length<100000000) (hB:∀b∈bx x,∀q,oC vs q b):RM vs lp x:=by
 have vL:∃op name to val conds labels fields blocks line,x=.mk op name to val conds labels fields blocks line:=by
  obtain⟨op,name,to,val,conds,labels,fields,blocks,line⟩:=x;exact⟨op,name,to,val,conds,labels,fields,blocks,line,rfl⟩
 have facts:(1≤bu x∧bu x≤9)∧(bu x=1→bk (eF x)=true)∧((bu x=1∨bu x=3∨bu x=5∨bu x=6)→bk (dH x)=true)∧bA (cu x)=true∧cm (bu x) (cu x).length (ea x).length (dO x).length (bx x).length=true:=by
  obtain⟨op,name,to,val,conds,labels,fields,blocks,line,rfl⟩:=vL;simp only[ji,Bool.and_eq_true,decide_eq_true_eq]at hf;obtain⟨cR,eT,cF,cB,eP,bY,um,uo,eU⟩:=hf;refine⟨cR,fun h1=>?_,fun h1=>?_,eP,bY⟩
  ·simp only[Pj]at h1;rw[if_pos h1]at cF;simp only[Bool.and_eq_true]at cF;exact cF.2
  ·simp only[Pj]at h1;rw[if_pos h1]at cB;simp only[Bool.and_eq_true]at cB;exact cB.2
 obtain⟨cR,cF,cB,eP,bY⟩:=facts;have hC:=AE hl (cu x) eP;have hc:bu x=1∨bu x=2∨bu x=3∨bu x=4∨bu x=5∨bu x=6∨bu x=7∨bu x=8∨bu x=9:=by omega
 rcases hc with h|h|h|h|h|h|h|h|h
 ·exact afN hl h (ri hl _ (cF h)) (ri hl _ (cB (.inl h)))
 ·exact afP h zv fX hC (fun b hb=>hB b hb lp)
 ·exact afO h zv (ri hl _ (cB (.inr (.inl h)))) (fun b hb=>hB b hb lp)
 ·rw[h]at bY;simp[cm]at bY;obtain⟨b,hb⟩:=CO bY.2.2.2;exact afQ hl h fX hC hb (hB b (by rw[hb];simp) true)
 ·rw[h]at bY;simp[cm]at bY;obtain⟨b,hb⟩:=CO bY.2.2.2;exact afL h hb (ri hl _ (cB (.inr (.inr (.inl h))))) (hB b (by rw[hb];simp) true)
 ·rw[h]at bY;simp[cm]at bY;obtain⟨b,hb⟩:=CO bY.2.2.2;exact afM h hb (ri hl _ (cB (.inr (.inr (.inr h))))) (hB b (by rw[hb];simp) true)
 ·exact afI h
 ·exact afJ h
 ·rw[h]at bY;simp[cm]at bY;exact afK hl h wY bY.1 hC
mutual
theorem ab1:∀(x:Sm),ji x=true→Kf x<100000000→∀lp,RM vs lp x
 | .mk op name to val conds labels fields blocks line,hf,hn,lp=>by
  have hfb:cK blocks=true:=by
   simp only[ji,Bool.and_eq_true]at hf;exact hf.2.2.2.2.2.2.2.2
  have gA:=Gx blocks;simp only[Kf]at hn;exact W3 hl hf (by simp only[YE];omega) (by simp only[Pk];omega) (by simp only[Pm];omega) (fun b hb q=>KX blocks hfb (by omega) b hb q)
theorem CP:∀(l:List Sm),en l=true→qq l<100000000→∀x∈l,∀lp,RM vs lp x
 |[],_,_,x,hx,_=>by simp at hx
 |y::r,hf,hn,x,hx,lp=>by
  simp only[en,Bool.and_eq_true]at hf;simp only[qq]at hn;have h1:=ab1 y hf.1 (by omega);have h2:=CP r hf.2 (by omega);rcases List.mem_cons.1 hx with h|hx
  ·rw[h];exact h1 lp
  ·exact h2 x hx lp
theorem KX:∀(bs:List (List Sm)),cK bs=true→tH bs<100000000→∀b∈bs,∀q,oC vs q b
 |[],_,_,b,hb,_=>by simp at hb
 |c::r,hf,hn,b,hb,q=>by
  simp only[cK,Bool.and_eq_true]at hf;simp only[tH]at hn;have aP:=Ai c;have h1:=CP c hf.1 (by omega);have h2:=KX r hf.2 (by omega);rcases List.mem_cons.1 hb with h|hb
  ·rw[h];exact HI (by omega) (fun x hx=>h1 x hx q)
  ·exact h2 b hb q
end
end
theorem Rd {p:Pg} (hf:pg p=true) (hn:qq p.body<100000000):ai ctx 19 [.d (.agg [.str p.name,.list (p.vars.map bG),.list (p.body.map cC)])] []=some (.ret (dq (dC (qd p))),[]):=by
 have hf2:=hf;simp only[pg,Bool.and_eq_true,decide_eq_true_eq,List.all_eq_true]at hf2;obtain⟨_,hvl,eh,hb⟩:=hf2;have hml:=Ai p.body;exact T1 hf (HI (by omega) (fun x hx=>CP (by omega) p.body hb hn x hx false))
def xY (f:Nat) (pins:Int→Nat):Prop:=∀b:Int,∃l:List D,ai ctx f [.d (.int .i64 b)] []=some (.ret (.d (.list l)),[])∧l.length=pins b∧pins b≤100
set_option maxHeartbeats 2000000 in
theorem T4 (pins:Int→Nat) (hp:xY 75 pins) (ins:List aq) (vars cells:Int) (n1 n2:Nat) (S T:List D) (at_:Int) (x:aq) (hc:0≤cells∧cells≤8192) (hl:ins.length≤5000):
 ai ctx 93 [.ptr 0 0 0,.d (.int .i64 at_),.d (cE x)] [eH ins vars cells (.vec 1 0 0 n1) (.vec 2 0 0 n2),.vec 1 S,.vec 1 T]=
  some (.ret (.d (.bool (cQ pins cells ((ins.length:Int)-1) at_ x))),[(0,eH ins vars cells (.vec 1 0 0 n1) (.vec 2 0 0 n2)),(0,.vec 1 S),(0,.vec 1 T)]):=by
 have KY:=vu ins vars cells n1 n2 S T x.a 1 hc (by unfold aZ;omega);have w1:IntKind.i64.wrap ((ins.length:Int)-1)=(ins.length:Int)-1:=ay (by unfold aZ;omega);rw[ae4 (by simp)];unfold cQ;simp at KY;by_cases e1:x.op=1
 ·simp[Tryz.f93,w1,e1]
 by_cases e11:x.op=11
 ·simp[Tryz.f93,w1,e11]
 by_cases e2:x.op=2
 ·simp[Tryz.f93,w1,e2,KY]
 by_cases e3:x.op=3
 ·simp[Tryz.f93,w1,e3,KY]
 by_cases e6:x.op=6
 ·simp[Tryz.f93,w1,e6,KY]
 by_cases HP:x.op=14
 ·simp[Tryz.f93,w1,HP,KY]
 by_cases HQ:x.op=13
 ·have sq:=vu ins vars cells n1 n2 S T x.b 2 hc (by unfold aZ;omega);simp at sq;cases hq:fM cells x.a 1<;>simp[Tryz.f93,w1,HQ,KY,sq,hq]
 have eO:=QH ins vars cells n1 n2 S T x hc;simp at eO;by_cases e4:x.op=4
 ·simp[e4]at eO;simp[Tryz.f93,w1,e4,eO]
 by_cases e5:x.op=5
 ·simp[e5]at eO;simp[Tryz.f93,w1,e5,eO]
 by_cases e7:x.op=7
 ·simp[e7]at eO;simp[Tryz.f93,w1,e7,eO]
 by_cases e8:x.op=8
 ·have hd:=TB x;simp[e8]at hd;simp[Tryz.f93,w1,e8,hd]
 by_cases e9:x.op=9
 ·by_cases h0:0≤x.a<;>simp[Tryz.f93,w1,e9,h0]
 by_cases ma:x.op=10
 ·by_cases h0:0≤x.a<;>simp[Tryz.f93,w1,ma,h0]
 by_cases e12:x.op=12
 ·obtain⟨l,iR,wD,sX⟩:=hp x.b;have hB:=vu ins vars cells n1 n2 S T x.a (pins x.b) hc (by unfold aZ;omega);simp at hB;by_cases h0:0<pins x.b
  ·simp[Tryz.f93,w1,e12,h0,iR,wD,hB]
  ·simp[Tryz.f93,w1,e12,h0,iR,wD,hB]
 by_cases BN:x.op=15
 ·simp[Tryz.f93,w1,BN]
 ·simp[Tryz.f93,w1,e1,e2,e3,e4,e5,e6,e7,e8,e9,ma,e11,e12,HQ,HP,BN]
theorem B9 (pins:Int→Nat) (hp:xY 75 pins) (vars cells:Int) (n1 n2:Nat) (S T:List D) (B:aD) (hc:0≤cells∧cells≤8192) (L:Int):∀(rest pre:List aq) (v:Nat) (ct:aD),((pre++rest).length:Int)-1=L→(pre++rest).length≤5000→∀k:Kt,
 ∃v' qK,aG ctx 54 (.loop (Code.at (bh Tryz.f54) [1,1,1,1,0,1,0,0])) ⟨66,aB,[(0,true,.ptr 0 0 0),(53,true,.d (.list ((pre++rest).map cE))),(54,true,.d (.int .i64 (pre++rest).length)),(55,true,.d (.int .i64 pre.length))],
  [⟨0,0,eH (pre++rest) vars cells (.vec 1 0 0 n1) (.vec 2 0 0 n2)⟩,⟨1,0,.vec 1 S⟩,⟨2,0,.vec 1 T⟩,⟨250,1,B⟩,⟨400,v,ct⟩]⟩ k=
  if lS pins cells L pre.length rest=true then
   k (.exit 0) ⟨66,aB,[(0,true,.ptr 0 0 0),(53,true,.d (.list ((pre++rest).map cE))),(54,true,.d (.int .i64 (pre++rest).length)),(55,true,.d (.int .i64 (pre++rest).length)),(56,true,.d (.bool false))],
   [⟨0,0,eH (pre++rest) vars cells (.vec 1 0 0 n1) (.vec 2 0 0 n2)⟩,⟨1,0,.vec 1 S⟩,⟨2,0,.vec 1 T⟩,⟨250,1,B⟩,⟨400,v',qK⟩]⟩
  else k .ret ⟨66,aB,[(2,true,.d (.bool false))],[⟨0,0,eH (pre++rest) vars cells (.vec 1 0 0 n1) (.vec 2 0 0 n2)⟩,⟨1,0,.vec 1 S⟩,⟨2,0,.vec 1 T⟩,⟨250,1,B⟩,⟨400,v',qK⟩]⟩
 |[],pre,v,ct,hL,hl,k=>by
  refine⟨v,ct,?_⟩;rw[ah];simp[Tryz.f54,lS]
 |x::rest,pre,v,ct,hL,hl,k=>by
  have hf:=T4 pins hp (pre++x::rest) vars cells n1 n2 S T pre.length x hc hl;rw[hL]at hf;have h1:(pre.length:Int)<pre.length+(rest.length+1):=by omega
  have h2:IntKind.i64.wrap ((pre.length:Int)+1)=pre.length+1:=ay (by unfold aZ;simp at hl;omega);cases hq:cQ pins cells L pre.length x
  ·refine⟨v+1,.box [.d (.int .i64 x.op),.d (.int .i64 x.a),.d (.int .i64 x.b),.d (.int .i64 x.n),.d (.int .i64 x.m)],?_⟩;rw[ah];simp[hq]at hf;simp[Tryz.f54,lS,hq];simp[h1,hf]
  ·obtain⟨v',qK,ih⟩:=B9 pins hp vars cells n1 n2 S T B hc L rest (pre++[x]) (v+1) (.box [.d (.int .i64 x.op),.d (.int .i64 x.a),.d (.int .i64 x.b),.d (.int .i64 x.n),.d (.int .i64 x.m)]) (by simpa using hL) (by simpa using hl) k;refine⟨v',qK,?_⟩;rw[ah];simp[hq]at hf;simp[Tryz.f54,lS,hq]at ih⊢;simp[h1,h2,hf,ih]
theorem Re (pins:Int→Nat) (hp:xY 75 pins) (ins:List aq) (vars cells:Int) (n1 n2:Nat) (S T:List D) (hl:ins.length≤5000):
 ai ctx 54 [.ptr 0 0 0] [eH ins vars cells (.vec 1 0 0 n1) (.vec 2 0 0 n2),.vec 1 S,.vec 1 T]=
  some (.ret (.d (.bool (km pins ins vars cells))),[(0,eH ins vars cells (.vec 1 0 0 n1) (.vec 2 0 0 n2)),(0,.vec 1 S),(0,.vec 1 T)]):=by
 rw[aeS (by simp)];unfold km BC;by_cases h1:1≤(ins.length:Int)
 ·have c1:¬((ins.length:Int)<1):=by omega
  obtain⟨xZ,last,rfl⟩:∃xZ last,ins=xZ++[last]:=⟨ins.dropLast,ins.getLast (by intro h;simp[h]at h1),(List.dropLast_concat_getLast _).symm⟩;have gn:qc (xZ++[last])=last.op:=by simp[qc]
  rw[gn];have w1:IntKind.i64.wrap ((xZ.length:Int)+1-1)=xZ.length:=by rw[ay (by unfold aZ;simp at hl;omega)];omega
  simp at w1;simp only[List.length_append,List.length_cons,List.length_nil]at hl;by_cases h2:(xZ.length:Int)+1≤4096;rotate_left
  ·have sK:(4096:Int)<(xZ.length:Int)+1:=by omega
   simp[Tryz.f54,h2,sK,w1]
  have sK:¬((4096:Int)<(xZ.length:Int)+1):=by omega
  by_cases h3:0≤cells;rotate_left
  ·simp[Tryz.f54,h2,sK,h3,w1]
  by_cases h4:cells≤8192;rotate_left
  ·simp[Tryz.f54,h2,sK,h3,h4,w1]
  by_cases h5:0≤vars;rotate_left
  ·simp[Tryz.f54,h2,sK,h3,h4,h5,w1]
  by_cases h6:vars≤cells;rotate_left
  ·simp[Tryz.f54,h2,sK,h3,h4,h5,h6,w1]
  by_cases h7:last.op=15;rotate_left
  ·simp[Tryz.f54,h2,sK,h3,h4,h5,h6,h7,w1]
  have h8:(1:Int)≤(xZ.length:Int)+1:=by omega
  have iO:=fun B=>B9 pins hp vars cells n1 n2 S T B ⟨h3,h4⟩ xZ.length (xZ++[last]) [] 0 .dead (by simp) (by simp;omega);simp[Tryz.f54,h2,sK,h3,h4,h5,h6,h7,h8,w1]at iO⊢;obtain⟨v',qK,h9⟩:=iO _ _;rw[h9];split
  ·rename_i q;simp[q]
  ·rename_i q;simp[q]
 ·have c1:(ins.length:Int)<1:=by omega
  simp[Tryz.f54,c1,h1]
section
variable (ins:List aq) (vars cells:Int) (n2:Nat) (T:List D)
theorem rZ (t:Bool) (S:List Bool) (hl:S.length≤5000):
 ai ctx 147 [.ptr 0 0 0,.d (.bool t)] [eH ins vars cells (.vec 1 0 0 S.length) (.vec 2 0 0 n2),.vec 1 (bD S),.vec 1 T]=
  some (.ret (.d (.bool (decide (S.length<64)))),[(0,eH ins vars cells (.vec 1 1 0 (S.length+1)) (.vec 2 0 0 n2)),(1,.vec 1 (bD (S++[t]))),(0,.vec 1 T)]):=by
 have g1:S.length+1≤140737488355328∧S.length≤4611686018427387903:=by omega
 have g2:((S.length:Int)+1≤64)=(S.length<64):=by simp;omega
 rw[ZC (by simp)];simp[Tryz.f147,g1,g2]
theorem x8 (S:List D) (n1:Nat):
 ai ctx 94 [.ptr 0 0 0] [eH ins vars cells (.vec 1 0 0 n1) (.vec 2 0 0 n2),.vec 1 S,.vec 1 T]=
  some (.ret (.d (.bool (decide (n1=0)))),[(0,eH ins vars cells (.vec 1 0 0 n1) (.vec 2 0 0 n2)),(0,.vec 1 S),(0,.vec 1 T)]):=by
 rw[ae5 (by simp)];by_cases q:n1=0<;>simp[Tryz.f94,q]
theorem D8 (n:Nat) (t:Bool) (A:List Bool) (hA:A.length≤5000):∀(rest pre:List Bool),(pre++rest).length=n→n≤5000→∀k:Kt,
 aG ctx 148 (.loop (Code.at (bh Tryz.f148) [1,1,0,1,0,0])) ⟨54,aB,[(0,true,.ptr 0 0 0),(1,true,.d (.int .i64 n)),(2,true,.d (.bool t)),(27,true,.vec 1 0 A.length n),(28,true,.d (.int .i64 n)),(29,true,.d (.int .i64 pre.length))],
  [⟨0,0,eH ins vars cells (.vec 1 0 0 (A++(pre++rest)).length) (.vec 2 0 0 n2)⟩,⟨1,0,.vec 1 (bD (A++(pre++rest)))⟩,⟨2,0,.vec 1 T⟩]⟩ k=
  if (t&&rest.any (fun b=>!b))=true then k .ret ⟨54,aB,[(6,true,.d (.bool false))],[⟨0,0,eH ins vars cells (.vec 1 0 0 (A++(pre++rest)).length) (.vec 2 0 0 n2)⟩,⟨1,0,.vec 1 (bD (A++(pre++rest)))⟩,⟨2,0,.vec 1 T⟩]⟩
  else k (.exit 0) ⟨54,aB,[(0,true,.ptr 0 0 0),(1,true,.d (.int .i64 n)),(2,true,.d (.bool t)),(27,true,.vec 1 0 A.length n),(28,true,.d (.int .i64 n)),(29,true,.d (.int .i64 n)),(30,true,.d (.bool false))],
  [⟨0,0,eH ins vars cells (.vec 1 0 0 (A++(pre++rest)).length) (.vec 2 0 0 n2)⟩,⟨1,0,.vec 1 (bD (A++(pre++rest)))⟩,⟨2,0,.vec 1 T⟩]⟩
 |[],pre,hn,hl,k=>by
  subst hn;rw[ah];simp[Tryz.f148]
 |x::rest,pre,hn,hl,k=>by
  have ih:=D8 n t A hA rest (pre++[x]) (by simpa using hn) hl k;have h1:(pre.length:Int)<n:=by simp at hn;omega
  have ly:pre.length<n:=by omega
  have h2:IntKind.i64.wrap ((pre.length:Int)+1)=pre.length+1:=ay (by unfold aZ;omega);rw[ah];simp[Tryz.f148]at ih⊢;cases t
  ·simp[h1,ly,h2]at ih⊢;exact ih
  ·cases x
   ·simp[h1,ly,h2]
   ·simp[h1,ly,h2]at ih⊢;exact ih
theorem s5 (n:Nat) (t:Bool) (S:List Bool) (hl:S.length≤5000) (hn:n≤5000):
 ai ctx 148 [.ptr 0 0 0,.d (.int .i64 n),.d (.bool t)] [eH ins vars cells (.vec 1 0 0 S.length) (.vec 2 0 0 n2),.vec 1 (bD S),.vec 1 T]=
  match gX n t S with
  |some S'=>some (.ret (.d (.bool true)),[(0,eH ins vars cells (.vec 1 1 0 S'.length) (.vec 2 0 0 n2)),(1,.vec 1 (bD S')),(0,.vec 1 T)])
  |none=>some (.ret (.d (.bool false)),[(0,eH ins vars cells (.vec 1 1 0 S.length) (.vec 2 0 0 n2)),(1,.vec 1 (bD S)),(0,.vec 1 T)]):=by
 rw[ZD (by simp)];unfold gX;by_cases h1:S.length<n
 ·have ly:(S.length:Int)<n:=by omega
  simp[Tryz.f148,h1,ly]
 ·have ly:¬((S.length:Int)<n):=by omega
  obtain⟨A,B,rfl,hB⟩:∃A B,S=A++B∧B.length=n:=⟨S.take (S.length-n),S.drop (S.length-n),(List.take_append_drop _ _).symm,by simp;omega⟩;have hA:(A++B).length -n=A.length:=by simp;omega
  have w1:IntKind.i64.wrap (((A++B).length:Int)-n)=A.length:=by rw[ay (by unfold aZ;omega)];simp;omega
  have iO:=D8 ins vars cells n2 T n t A (by simp at hl;omega) B [] (by simpa using hB) hn;have hAn:A.length+B.length-A.length=n:=by omega
  have atd:A.length+n-A.length=n:=by omega
  subst hB;rw[hA];have c1:¬((A.length:Int)+B.length<B.length):=by omega
  have c2:(A.length:Int)≤(A.length:Int)+B.length:=by omega
  have c3:((A.length:Int)+B.length).toNat -A.length=B.length:=by omega
  have c4:¬(A.length+B.length<B.length):=by omega
  simp at h1 ly w1;simp[Tryz.f148]at iO⊢;simp[w1,c1,c2,c3,c4];rw[pc (by kernel_rfl)];simp[c1,c2,c3,c4,iO];by_cases q:t=true∧false∈B
  ·simp[q]
  ·rw[if_neg q,if_neg q];simp[w1,c1,c2,c3,c4];rw[pc (by kernel_rfl)];simp[w1]
end
section
variable (ins:List aq) (vars cells:Int) (n2:Nat) (T:List D)
def KZ (x:aq) (S:List Bool) (r:bU):Prop:=∃S':List Bool,r=some (.ret (.d (.bool (bZ x S).isSome)),[(0,eH ins vars cells (.vec 1 1 0 S'.length) (.vec 2 0 0 n2)),(1,.vec 1 (bD S')),(0,.vec 1 T)])∧∀S2,bZ x S=some S2→S2=S'
theorem s6 {n:Nat} {t:Bool} {S S':List Bool} (h:gX n t S=some S'):S'.length≤S.length:=by
 unfold gX at h;split at h
 ·cases h
 ·split at h
  ·cases h
  ·cases h;simp
set_option maxHeartbeats 4000000 in
theorem Rf (x:aq) (S:List Bool) (hl:S.length≤64):
 KZ ins vars cells n2 T x S (ai ctx 95 [.ptr 0 0 0,.d (cE x)] [eH ins vars cells (.vec 1 0 0 S.length) (.vec 2 0 0 n2),.vec 1 (bD S),.vec 1 T]):=by
 rw[ae6 (by simp)];unfold KZ bZ;have sd:=rZ ins vars cells n2 T true S (by omega);have Ox:=rZ ins vars cells n2 T false S (by omega);have he:=x8 ins vars cells n2 T (bD S) S.length;simp at sd Ox he;by_cases e1:x.op=1
 ·refine⟨S++[decide (x.n=0)||decide (x.n=1)],?_,?_⟩
  ·by_cases q:x.n=0
   ·simp[Tryz.f95,e1,q,sd,dZ];split<;>simp[*]
   ·by_cases q1:x.n=1
    ·simp[Tryz.f95,e1,q1,sd,dZ];split<;>simp[*]
    ·simp[Tryz.f95,e1,q,q1,Ox,dZ];split<;>simp[*]
  ·simp[e1,dZ]
 by_cases e2:x.op=2
 ·refine⟨S++[false],?_,?_⟩
  ·simp[Tryz.f95,e2,Ox,dZ];split<;>simp[*]
  ·simp[e2,dZ]
 by_cases e3:x.op=3
 ·refine⟨S++[true],?_,?_⟩
  ·simp[Tryz.f95,e3,sd,dZ];split<;>simp[*]
  ·simp[e3,dZ]
 by_cases HQ:x.op=13
 ·refine⟨S++[true],?_,?_⟩
  ·simp[Tryz.f95,HQ,sd,dZ];split<;>simp[*]
  ·simp[HQ,dZ]
 by_cases HP:x.op=14
 ·refine⟨S++[true],?_,?_⟩
  ·simp[Tryz.f95,HP,sd,dZ];split<;>simp[*]
  ·simp[HP,dZ]
 have jh:=s5 ins vars cells n2 T 1 false S (by omega) (by omega);by_cases e4:x.op=4
 ·cases q:gX 1 false S with
  |none=>
   simp[q]at jh;refine⟨S,?_,?_⟩
   ·simp[Tryz.f95,e4,jh,q]
   ·simp[e4,q]
  |some S1=>
   have iR:=s6 q;have dK:=rZ ins vars cells n2 T false S1 (by omega);simp[q]at jh;simp at dK;refine⟨S1++[false],?_,?_⟩
   ·simp[Tryz.f95,e4,jh,dK,q,dZ];split<;>simp[*]
   ·simp[e4,q,dZ]
 by_cases e5:x.op=5
 ·cases q:gX 1 false S with
  |none=>
   simp[q]at jh;refine⟨S,?_,?_⟩
   ·simp[Tryz.f95,e5,jh,q]
   ·simp[e5,q]
  |some S1=>
   have iR:=s6 q;have dK:=rZ ins vars cells n2 T true S1 (by omega);simp[q]at jh;simp at dK;refine⟨S1++[true],?_,?_⟩
   ·simp[Tryz.f95,e5,jh,dK,q,dZ];split<;>simp[*]
   ·simp[e5,q,dZ]
 by_cases e6:x.op=6
 ·cases q:gX 1 false S with
  |none=>
   simp[q]at jh;refine⟨S,?_,?_⟩
   ·simp[Tryz.f95,e6,jh,q]
   ·simp[e6,q]
  |some S1=>
   simp[q]at jh;refine⟨S1,?_,?_⟩
   ·simp[Tryz.f95,e6,jh,q]
   ·simp[e6,q]
 by_cases e7:x.op=7
 ·have fL:=s5 ins vars cells n2 T 2 false S (by omega) (by omega);cases q:gX 2 false S with
  |none=>
   simp[q]at fL;refine⟨S,?_,?_⟩
   ·simp[Tryz.f95,e7,fL,q]
   ·simp[e7,q]
  |some S1=>
   simp[q]at fL;refine⟨S1,?_,?_⟩
   ·simp[Tryz.f95,e7,fL,q]
   ·simp[e7,q]
 by_cases ma:x.op=10
 ·have fL:=s5 ins vars cells n2 T 1 true S (by omega) (by omega);cases q:gX 1 true S with
  |none=>
   simp[q]at fL;refine⟨S,?_,?_⟩
   ·simp[Tryz.f95,ma,fL,q]
   ·simp[ma,q]
  |some S1=>
   have yM:=x8 ins vars cells n2 T (bD S1) S1.length;simp at yM;simp[q]at fL;refine⟨S1,?_,?_⟩
   ·simp[Tryz.f95,ma,fL,q,gj,yM];split<;>simp[*]
   ·simp[ma,q,gj]
 by_cases e8:x.op=8
 ·obtain⟨n,hn⟩:∃n:Nat,n=(if x.b=6∨x.b=7 then 1 else 2):=⟨_,rfl⟩;obtain⟨g,hg⟩:∃g,g=(decide (x.b=7)||decide (13≤x.b)):=⟨_,rfl⟩;have my:n≤2:=by rw[hn];split<;>omega
  have fL:=s5 ins vars cells n2 T n (decide (x.a=1)) S (by omega) (by omega);rw[←hn,←hg];have hc:(x.b=6∧n=1∧g=false)∨(x.b=7∧n=1∧g=true)∨(x.b≠6∧x.b≠7∧¬13≤x.b∧n=2∧g=false)∨(x.b≠6∧x.b≠7∧13≤x.b∧n=2∧g=true):=by
   rw[hn,hg];by_cases h6:x.b=6
   ·simp[h6]
   ·by_cases h7:x.b=7
    ·simp[h7]
    ·by_cases YF:13≤x.b<;>simp[h6,h7,YF]
  clear hn hg;cases q:gX n (decide (x.a=1)) S with
  |none=>
   simp[q]at fL;refine⟨S,?_,?_⟩
   ·rcases hc with ⟨h1,rfl,rfl⟩|⟨h1,rfl,rfl⟩|⟨h1,h2,h3,rfl,rfl⟩|⟨h1,h2,h3,rfl,rfl⟩
    ·simp at fL;simp[Tryz.f95,e8,h1,fL,q]
    ·simp at fL;simp[Tryz.f95,e8,h1,fL,q]
    ·simp at fL;simp[Tryz.f95,e8,h1,h2,h3,fL,q]
    ·simp at fL;simp[Tryz.f95,e8,h1,h2,h3,fL,q]
   ·simp[e8,q]
  |some S1=>
   have iR:=s6 q;have dK:=rZ ins vars cells n2 T g S1 (by omega);simp[q]at fL;simp at dK;refine⟨S1++[g],?_,?_⟩
   ·rcases hc with ⟨h1,rfl,rfl⟩|⟨h1,rfl,rfl⟩|⟨h1,h2,h3,rfl,rfl⟩|⟨h1,h2,h3,rfl,rfl⟩
    ·simp at fL;simp[Tryz.f95,e8,h1,fL,dK,q,dZ];split<;>simp[*]
    ·simp at fL;simp[Tryz.f95,e8,h1,fL,dK,q,dZ];split<;>simp[*]
    ·simp at fL;simp[Tryz.f95,e8,h1,h2,h3,fL,dK,q,dZ];split<;>simp[*]
    ·simp at fL;simp[Tryz.f95,e8,h1,h2,h3,fL,dK,q,dZ];split<;>simp[*]
   ·simp[e8,q,dZ]
 ·refine⟨S,?_,?_⟩
  ·simp[Tryz.f95,e1,e2,e3,e4,e5,e6,e7,e8,ma,HQ,HP,gj,he];split<;>simp[*]
  ·simp[e1,e2,e3,e4,e5,e6,e7,e8,ma,HQ,HP,gj]
end
def iY (l:List Bool) (x:aq):List Bool:=if x.op=9∨x.op=10 then l.set x.a.toNat true else l
theorem tK (l:List Bool) (x:aq):(iY l x).length=l.length:=by unfold iY;split<;>simp
theorem Rg (l:List Bool) (i:Nat) (b:Bool):(bD l).set i (.bool b)=bD (l.set i b):=by simp[bD,List.map_set]
theorem Ca {x:aq} {S S':List Bool} (hl:S.length≤64) (h:bZ x S=some S'):S'.length≤64:=by
 have g:∀{t S S'},dZ t S=some S'→S'.length≤64:=by
  intro t S S' h;unfold dZ at h;split at h
  ·cases h;simp;omega
  ·cases h
 have e:∀{S S'},gj S=some S'→S'.length≤64:=by
  intro S S' h;unfold gj at h;split at h
  ·cases h;simp
  ·cases h
 have tk:∀{n t S'},gX n t S=some S'→S'.length≤64:=fun h=>Nat.le_trans (s6 h) hl;unfold bZ at h;repeat' split at h
 all_goals first
  |exact g h
  |exact e h
  |exact tk h
  |(obtain⟨y,_,h2⟩:=Option.bind_eq_some_iff.1 h;exact g h2)
  |(obtain⟨y,_,h2⟩:=Option.bind_eq_some_iff.1 h;exact e h2)
section
variable (ins:List aq) (vars cells:Int)
theorem HR (B:aD):∀(rest pre:List aq) (T:List Bool) (v:Nat) (ct:aD),(pre++rest).length≤5000→(∀x∈rest,x.op=9∨x.op=10→0≤x.a∧x.a<T.length)→∀k:Kt,
 ∃v' qK,aG ctx 55 (.loop (Code.at (bh Tryz.f55) [1,0,1,0,0])) ⟨63,aB,[(0,true,.ptr 0 0 0),(11,true,.d (.list ((pre++rest).map cE))),(12,true,.d (.int .i64 (pre++rest).length)),(13,true,.d (.int .i64 pre.length))],
  [⟨0,0,eH ins vars cells (.vec 1 0 0 0) (.vec 2 0 0 T.length)⟩,⟨1,0,.vec 1 []⟩,⟨2,0,.vec 1 (bD T)⟩,⟨300,v,ct⟩,⟨400,0,B⟩]⟩ k=
  k (.exit 0) ⟨63,aB,[(0,true,.ptr 0 0 0),(11,true,.d (.list ((pre++rest).map cE))),(12,true,.d (.int .i64 (pre++rest).length)),(13,true,.d (.int .i64 (pre++rest).length)),(14,true,.d (.bool false))],
   [⟨0,0,eH ins vars cells (.vec 1 0 0 0) (.vec 2 0 0 T.length)⟩,⟨1,0,.vec 1 []⟩,⟨2,0,.vec 1 (bD (rest.foldl iY T))⟩,⟨300,v',qK⟩,⟨400,0,B⟩]⟩
 |[],pre,T,v,ct,hl,hT,k=>by
  refine⟨v,ct,?_⟩;rw[ah];simp[Tryz.f55]
 |x::rest,pre,T,v,ct,hl,hT,k=>by
  obtain⟨v',qK,ih⟩:=HR B rest (pre++[x]) (iY T x) (v+1) (.box [.d (.int .i64 x.op),.d (.int .i64 x.a),.d (.int .i64 x.b),.d (.int .i64 x.n),.d (.int .i64 x.m)]) (by simpa using hl) (fun y hy h=>by rw[tK];exact hT y (by simp[hy]) h) k;refine⟨v',qK,?_⟩;have h1:(pre.length:Int)<pre.length+(rest.length+1):=by omega
  have h2:IntKind.i64.wrap ((pre.length:Int)+1)=pre.length+1:=ay (by unfold aZ;simp at hl;omega);rw[tK]at ih;rw[ah];by_cases e9:x.op=9
  ·obtain⟨a1,a2⟩:=hT x (by simp) (.inl e9);have a3:x.a.toNat<T.length:=by omega
   have e:iY T x=T.set x.a.toNat true:=by simp[iY,e9]
   rw[e,←Rg]at ih;simp[Tryz.f55,e9]at ih⊢;simp[h1,h2,a1,a3];rw[pc (by kernel_rfl)];simp[h2,e,ih]
  ·by_cases ma:x.op=10
   ·obtain⟨a1,a2⟩:=hT x (by simp) (.inr ma);have a3:x.a.toNat<T.length:=by omega
    have e:iY T x=T.set x.a.toNat true:=by simp[iY,ma]
    rw[e,←Rg]at ih;simp[Tryz.f55,ma]at ih⊢;simp[h1,h2,a1,a3];rw[pc (by kernel_rfl)];simp[h2,e,ih]
   ·have e:iY T x=T:=by simp[iY,e9,ma]
    rw[e]at ih;simp[Tryz.f55,e9,ma]at ih⊢;simp[h1,h2,e,ih]
theorem AF (L:List Bool):∀(rest pre:List aq) (S:List Bool) (v v1:Nat) (B:aD),(pre++rest).length=L.length→L.length≤5000→S.length≤64→∀(C:aD) (vc:Nat) (k:Kt),
 ∃v' D9 qK S',aG ctx 55 (.loop (Code.at (bh Tryz.f55) [1,1,0,1,0,0])) ⟨63,aB,[(0,true,.ptr 0 0 0),(37,true,.d (.list ((pre++rest).map cE))),(38,true,.d (.int .i64 (pre++rest).length)),(39,true,.d (.int .i64 pre.length))],
  [⟨0,0,eH ins vars cells (.vec 1 v1 0 S.length) (.vec 2 0 0 L.length)⟩,⟨1,v1,.vec 1 (bD S)⟩,⟨2,0,.vec 1 (bD L)⟩,⟨300,vc,C⟩,⟨400,v,B⟩]⟩ k=
  if fH L pre.length rest S=true then
   k (.exit 2) ⟨63,aB,[(0,true,.ptr 0 0 0),(37,true,.d (.list ((pre++rest).map cE))),(38,true,.d (.int .i64 (pre++rest).length)),(39,true,.d (.int .i64 (pre++rest).length)),(40,true,.d (.bool false))],
    [⟨0,0,eH ins vars cells (.vec 1 D9 0 (S':List Bool).length) (.vec 2 0 0 L.length)⟩,⟨1,D9,.vec 1 (bD S')⟩,⟨2,0,.vec 1 (bD L)⟩,⟨300,vc,C⟩,⟨400,v',qK⟩]⟩
  else k .ret ⟨63,aB,[(2,true,.d (.bool false))],[⟨0,0,eH ins vars cells (.vec 1 D9 0 S'.length) (.vec 2 0 0 L.length)⟩,⟨1,D9,.vec 1 (bD S')⟩,⟨2,0,.vec 1 (bD L)⟩,⟨300,vc,C⟩,⟨400,v',qK⟩]⟩
 |[],pre,S,v,v1,B,hl,hL,hS,C,vc,k=>by
  refine⟨v,v1,B,S,?_⟩;rw[ah];simp[Tryz.f55,fH]
 |x::rest,pre,S,v,v1,B,hl,hL,hS,C,vc,k=>by
  have h1:(pre.length:Int)<pre.length+(rest.length+1):=by omega
  have h2:IntKind.i64.wrap ((pre.length:Int)+1)=pre.length+1:=ay (by unfold aZ;simp at hl;omega);have hp:pre.length<L.length:=by simp at hl;omega
  obtain⟨S2,hm,jT⟩:=Rf ins vars cells L.length (bD L) x S hS;have he:=x8 ins vars cells L.length (bD L) (bD S) S.length;have gW:(L.getD pre.length false)=L[pre.length]:=by simp[hp]
  cases hb:L[pre.length]
  ·cases uC:bZ x S with
   |none=>
    refine⟨v+1,v1+1,.box [.d (.int .i64 x.op),.d (.int .i64 x.a),.d (.int .i64 x.b),.d (.int .i64 x.n),.d (.int .i64 x.m)],S2,?_⟩;rw[ah];have eB:fH L pre.length (x::rest) S=false:=by simp[fH,gW,hb,uC]
    rw[eB];simp[uC]at hm;simp[Tryz.f55,h1,hp,hb,hm]
   |some S3=>
    have hS3:=Ca hS uC;obtain rfl:=jT S3 uC;obtain⟨v',D9,qK,S',ih⟩:=AF L rest (pre++[x]) S3 (v+1) (v1+1) (.box [.d (.int .i64 x.op),.d (.int .i64 x.a),.d (.int .i64 x.b),.d (.int .i64 x.n),.d (.int .i64 x.m)]) (by simpa using hl) hL hS3 C vc k;refine⟨v',D9,qK,S',?_⟩;have eB:fH L pre.length (x::rest) S=fH L (pre++[x]).length rest S3:=by rw[fH,gW,hb];simp[uC]
    rw[eB,ah];simp[uC]at hm;simp[Tryz.f55]at ih⊢;simp[h1,h2,hp,hb,hm,ih]
  ·cases S with
   |nil=>
    simp at he;cases uC:bZ x []with
    |none=>
     refine⟨v+1,v1+1,.box [.d (.int .i64 x.op),.d (.int .i64 x.a),.d (.int .i64 x.b),.d (.int .i64 x.n),.d (.int .i64 x.m)],S2,?_⟩;rw[ah];have eB:fH L pre.length (x::rest) []=false:=by simp[fH,uC]
     rw[eB];simp[uC]at hm;simp[Tryz.f55,h1,hp,hb,hm,he]
    |some S3=>
     have hS3:=Ca hS uC;obtain rfl:=jT S3 uC;obtain⟨v',D9,qK,S',ih⟩:=AF L rest (pre++[x]) S3 (v+1) (v1+1) (.box [.d (.int .i64 x.op),.d (.int .i64 x.a),.d (.int .i64 x.b),.d (.int .i64 x.n),.d (.int .i64 x.m)]) (by simpa using hl) hL hS3 C vc k;refine⟨v',D9,qK,S',?_⟩;have eB:fH L pre.length (x::rest) []=fH L (pre++[x]).length rest S3:=by simp[fH,uC]
     rw[eB,ah];simp[uC]at hm;simp[Tryz.f55]at ih⊢;simp[h1,h2,hp,hb,hm,he,ih]
   |cons y S=>
    refine⟨v+1,v1,.box [.d (.int .i64 x.op),.d (.int .i64 x.a),.d (.int .i64 x.b),.d (.int .i64 x.n),.d (.int .i64 x.m)],y::S,?_⟩;have eB:fH L pre.length (x::rest) (y::S)=false:=by rw[fH,gW,hb];simp
    rw[eB,ah];simp at he;simp[Tryz.f55,h1,hp,hb,he]
theorem NK (hl:ins.length≤5000) (hA:∀x∈ins,x.op=9∨x.op=10→0≤x.a∧x.a<ins.length):
 ∃S',ai ctx 55 [.ptr 0 0 0] [eH ins vars cells (.vec 1 0 0 0) (.vec 2 0 0 ins.length),.vec 1 [],.vec 1 (bD (List.replicate ins.length false))]=
  some (.ret (.d (.bool (fH (lC ins) 0 ins []))),[(0,eH ins vars cells (.vec 1 1 0 (S':List Bool).length) (.vec 2 1 0 ins.length)),(1,.vec 1 (bD S')),(1,.vec 1 (bD (lC ins)))]):=by
 have jI:(lC ins).length=ins.length:=by
  have:∀(l:List aq) (T:List Bool),(l.foldl iY T).length=T.length:=by
   intro l;induction l with
   |nil=>intro T;rfl
   |cons x l ih=>intro T;simp only[List.foldl_cons];rw[ih,tK]
  rw[show lC ins=ins.foldl iY (List.replicate ins.length false)from rfl,this];simp
 have h1:=fun B=>HR ins vars cells B ins [] (List.replicate ins.length false) 0 .dead hl (by simpa using hA);rw[show ins.foldl iY (List.replicate ins.length false)=lC ins from rfl]at h1;have h2:=fun C vc=>AF ins vars cells (lC ins) ins [] [] 0 0 .dead (by simp[jI]) (by omega) (by simp) C vc;generalize lC ins=L at jI h1 h2;generalize hr:ai ctx 55 _ _=r;rw[aeT (by simp)]at hr;simp[Tryz.f55,jI]at h1 h2 hr;obtain⟨f1,h1⟩:=Classical.axiomOfChoice (h1 .dead);obtain⟨f2,h1⟩:=Classical.axiomOfChoice h1;rw[h1]at hr;clear h1;generalize f1 _=a at hr;generalize f2 _=b at hr;simp at hr;replace h2:=h2 b a;obtain⟨g1,h2⟩:=Classical.axiomOfChoice h2;obtain⟨g2,h2⟩:=Classical.axiomOfChoice h2;obtain⟨g3,h2⟩:=Classical.axiomOfChoice h2;obtain⟨g4,h2⟩:=Classical.axiomOfChoice h2;rw[h2]at hr;clear h2;generalize g1 _=a1 at hr;generalize g2 _=a2 at hr;generalize g3 _=a3 at hr;generalize g4 _=S' at hr;refine⟨S',?_⟩;rw[←hr];have wD:ins.length≤L.length:=by omega
 have ht:List.take ins.length (List.map D.bool L)=List.map D.bool L:=by rw[←jI];simp
 cases hq:fH L 0 ins []
 ·simp[wD,ht]
 ·simp[wD,ht]
end
theorem s7 (succ:Nat→List Nat):∀f:Nat,
 (∀at_ seen,(iT succ f at_ seen).2.length=seen.length∧fresh (iT succ f at_ seen).2≤fresh seen)∧(∀l seen,(iE succ f l seen).2.length=seen.length∧fresh (iE succ f l seen).2≤fresh seen)
 |0=>by
  have h0:∀at_ seen,(iT succ 0 at_ seen).2.length=seen.length∧fresh (iT succ 0 at_ seen).2≤fresh seen:=fun at_ seen=>by unfold iT;exact⟨rfl,Nat.le_refl _⟩
  refine⟨h0,fun l seen=>?_⟩;cases l with
  |nil=>unfold iE;exact⟨rfl,Nat.le_refl _⟩
  |cons n r=>unfold iE iT;exact⟨rfl,Nat.le_refl _⟩
 |f+1=>by
  have hd:∀at_ seen,(iT succ (f+1) at_ seen).2.length=seen.length∧fresh (iT succ (f+1) at_ seen).2≤fresh seen:=by
   intro at_ seen;unfold iT;split
   ·exact⟨rfl,Nat.le_refl _⟩
   ·have h:=(s7 succ f).2 (succ at_) (seen.set at_ 1);have h1:=rM (l:=seen) (i:=at_) (v:=1) (by decide);obtain⟨s,b,he⟩:∃s b,iE succ f (succ at_) (seen.set at_ 1)=(b,s):=⟨_,_,rfl⟩;rw[he]at h⊢;simp only[List.length_set]at h;cases b with
    |true=>exact⟨h.1,by simp only;omega⟩
    |false=>
     have h2:=rM (l:=s) (i:=at_) (v:=2) (by decide);exact⟨by simp only[List.length_set];exact h.1,by simp only;omega⟩
  refine⟨hd,fun l=>?_⟩;induction l with
  |nil=>intro seen;unfold iE;exact⟨rfl,Nat.le_refl _⟩
  |cons n r ih=>
   intro seen;unfold iE;have h:=hd n seen;obtain⟨s,b,he⟩:∃s b,iT succ (f+1) n seen=(b,s):=⟨_,_,rfl⟩;rw[he]at h⊢;cases b with
   |true=>exact h
   |false=>
    have h2:=ih s;simp only at h;exact⟨by simp only;rw[h2.1,h.1],by simp only;omega⟩
@[simp] def iD (l:List Nat):List D:=l.map fun (n:Nat)=>D.int .i64 (n:Int)
def oD (i:Nat) (x:aq):List Nat:=if x.op=9 then [x.a.toNat]else if x.op=10 then [i+1,x.a.toNat]else if x.op=15 then []else [i+1]
theorem Rh (i:Nat) (x:aq) (hi:i<5000) (ha:x.op=9∨x.op=10→0≤x.a):ai ctx 149 [.d (.int .i64 i),.d (cE x)] []=some (.ret (.d (.list (iD (oD i x)))),[]):=by
 have w:IntKind.i64.wrap ((i:Int)+1)=i+1:=ay (by unfold aZ;omega);rw[ZE (by simp)];unfold oD;by_cases e9:x.op=9
 ·have h:=ha (.inl e9);have h2:max x.a 0=x.a:=by omega
  simp[Tryz.f149,e9,h2]
 by_cases ma:x.op=10
 ·have h:=ha (.inr ma);have h2:max x.a 0=x.a:=by omega
  simp[Tryz.f149,ma,w,h2,List.range']
 by_cases BN:x.op=15
 ·simp[Tryz.f149,BN]
 ·simp[Tryz.f149,e9,ma,BN,w]
section
variable (ins:List aq) (vars cells:Int) (n1 n2:Nat) (S T:List D)
def K0 (f:Nat):Prop:=∀(at_:Nat) (seen:List Nat),fresh seen<f→at_<ins.length→seen.length=ins.length→
 ai ctx 96 [.ptr 0 0 0,.d (.int .i64 at_),.vec 1 0 0 ins.length] [eH ins vars cells (.vec 2 0 0 n1) (.vec 3 0 0 n2),.vec 1 (iD seen),.vec 1 S,.vec 1 T]=
  some (.ret (.d (.bool (iT (fi ins) f at_ seen).1)),[(0,eH ins vars cells (.vec 2 0 0 n1) (.vec 3 0 0 n2)),(0,.vec 1 (iD (iT (fi ins) f at_ seen).2)),(0,.vec 1 S),(0,.vec 1 T)])
theorem vG (hlen:ins.length≤5000) (f at_:Nat) (hr:K0 ins vars cells n1 n2 S T f):∀(rest pre:List Nat) (seen:List Nat),fresh seen<f→(pre++rest).length<5000→(∀n∈rest,n<ins.length)→seen.length=ins.length→∀k:Kt,
 aG ctx 96 (.loop (Code.at (bh Tryz.f96) [1,1,1,0,1,0,1,0,0])) ⟨67,aB,[(0,true,.ptr 0 0 0),(1,true,.d (.int .i64 at_)),(2,true,.vec 1 0 0 ins.length),(41,true,.d (.list (iD (pre++rest)))),(42,true,.d (.int .i64 (pre++rest).length)),(43,true,.d (.int .i64 pre.length))],
  [⟨0,0,eH ins vars cells (.vec 2 0 0 n1) (.vec 3 0 0 n2)⟩,⟨1,0,.vec 1 (iD seen)⟩,⟨2,0,.vec 1 S⟩,⟨3,0,.vec 1 T⟩]⟩ k=
  if (iE (fi ins) f (rest.filter fun j=>!gU ins j) seen).1=true then
   k .ret ⟨67,aB,[(6,true,.d (.bool true))],[⟨0,0,eH ins vars cells (.vec 2 0 0 n1) (.vec 3 0 0 n2)⟩,⟨1,0,.vec 1 (iD (iE (fi ins) f (rest.filter fun j=>!gU ins j) seen).2)⟩,⟨2,0,.vec 1 S⟩,⟨3,0,.vec 1 T⟩]⟩
  else k (.exit 0) ⟨67,aB,[(0,true,.ptr 0 0 0),(1,true,.d (.int .i64 at_)),(2,true,.vec 1 0 0 ins.length),(41,true,.d (.list (iD (pre++rest)))),(42,true,.d (.int .i64 (pre++rest).length)),(43,true,.d (.int .i64 (pre++rest).length)),(44,true,.d (.bool false))],
   [⟨0,0,eH ins vars cells (.vec 2 0 0 n1) (.vec 3 0 0 n2)⟩,⟨1,0,.vec 1 (iD (iE (fi ins) f (rest.filter fun j=>!gU ins j) seen).2)⟩,⟨2,0,.vec 1 S⟩,⟨3,0,.vec 1 T⟩]⟩
 |[],pre,seen,hf,hl,hn,hs,k=>by
  rw[ah];simp[Tryz.f96,iE]
 |n::rest,pre,seen,hf,hl,hn,hs,k=>by
  have eL:=hn n (by simp);have gW:ins[n]?=some ins[n]:=by simp[eL]
  have h1:(pre.length:Int)<pre.length+(rest.length+1):=by omega
  have h2:IntKind.i64.wrap ((pre.length:Int)+1)=pre.length+1:=ay (by unfold aZ;simp at hl;omega);by_cases ht:ins[n].op=11
  ·have lu:gU ins n=true:=by simp[gU,gW,ht]
   have ih:=vG hlen f at_ hr rest (pre++[n]) seen hf (by simpa using hl) (fun m hm=>hn m (by simp[hm])) hs k;rw[ah];simp[Tryz.f96,lu]at ih⊢;simp[h1,h2,eL,ht,ih]
  ·have lu:gU ins n=false:=by simp[gU,gW,ht]
   have hc:=hr n seen hf eL hs;have hk:=(s7 (fi ins) f).1 n seen;have e:iE (fi ins) f ((n::rest).filter fun j=>!gU ins j) seen=if (iT (fi ins) f n seen).1=true then (true,(iT (fi ins) f n seen).2)else iE (fi ins) f (rest.filter fun j=>!gU ins j) (iT (fi ins) f n seen).2:=by
    rw[List.filter_cons,lu];simp only[Bool.not_false,if_true];rw[iE];obtain⟨s,b,he⟩:∃s b,iT (fi ins) f n seen=(b,s):=⟨_,_,rfl⟩;rw[he];cases b<;>rfl
   rw[e];obtain⟨s,b,he⟩:∃s b,iT (fi ins) f n seen=(b,s):=⟨_,_,rfl⟩;rw[he]at hc hk⊢;simp only at hk;rw[ah];cases b
   ·have ih:=vG hlen f at_ hr rest (pre++[n]) s (by omega) (by simpa using hl) (fun m hm=>hn m (by simp[hm])) (by omega) k;simp[Tryz.f96]at ih hc⊢;simp[h1,h2,eL,ht,hc,ih]
   ·simp at hc;simp[Tryz.f96];simp[h1,h2,eL,ht,hc]
end
def yb (ins:List aq):Prop:=∀i x,ins[i]?=some x→(x.op=9∨x.op=10→0≤x.a∧x.a<(ins.length:Int))∧(x.op≠9→x.op≠15→i+1<ins.length)
theorem Ri {pins:Int→Nat} {ins:List aq} {vars cells:Int} (h:km pins ins vars cells=true):yb ins:=by
 intro i x hx;simp only[km,Bool.and_eq_true]at h;have hf:=sE h.2 i _ hx;have hi:i<ins.length:=(List.getElem?_eq_some_iff.1 hx).1;simp only[Nat.zero_add]at hf;have gn:i+1=ins.length→x.op=15:=by
  intro h1;have h2:=h.1;simp only[BC,Bool.and_eq_true,decide_eq_true_eq]at h2;have h3:=h2.2;unfold qc at h3;rw[List.getLast?_eq_getElem?,show ins.length-1=i by omega,hx]at h3;simpa using h3
 refine⟨fun hj=>?_,fun h9 uc=>?_⟩
 ·unfold cQ at hf;rcases hj with hj|hj<;>simp[hj]at hf<;>omega
 ·have:i+1≠ins.length:=fun h=>uc (gn h);omega
section
variable (ins:List aq) (vars cells:Int) (n1 n2:Nat) (S T:List D)
theorem Rj (i:Nat) (x:aq):(oD i x).length≤2:=by
 unfold oD;repeat' split
 all_goals simp
theorem W4 (de:yb ins) {i:Nat} (hi:i<ins.length):∀j∈oD i ins[i],j<ins.length:=by
 have h:=de i ins[i] (by simp[hi]);intro j hj;unfold oD at hj;split at hj
 ·rename_i h9;have:=h.1 (.inl h9);simp at hj;omega
 ·rename_i h9;split at hj
  ·rename_i nB;have:=h.1 (.inr nB);have:=h.2 h9 (by omega);simp at hj;omega
  ·split at hj
   ·simp at hj
   ·rename_i uc;have:=h.2 h9 uc;simp at hj;omega
theorem T6 {i:Nat} (hi:i<ins.length):fi ins i=if ins[i].op=11 then []else (oD i ins[i]).filter fun j=>!gU ins j:=by
 have hx:ins[i]?=some ins[i]:=by simp[hi]
 unfold fi sD gU vk oD;rw[hx];simp only[decide_eq_true_eq];split<;>rfl
theorem Ea (hlen:ins.length≤5000) (de:yb ins):∀f,K0 ins vars cells n1 n2 S T f
 |0=>fun at_ seen hf _ _=>by omega
 |f+1=>by
  intro at_ seen hf fg hs;have CQ:at_<seen.length:=by omega
  have gW:seen.getD at_ 0=seen[at_]:=by simp[CQ]
  rw[ae7 (by simp)];unfold iT;rw[gW];by_cases h0:seen[at_]=0
  ·rw[if_neg (by simp[h0])];have vQ:=DH (l:=seen) (i:=at_) (v:=1) (by rw[gW];exact h0) CQ (by decide);have jd:(iD seen).set at_ (.int .i64 1)=iD (seen.set at_ 1):=by simp[iD,List.map_set]
   rw[T6 ins fg];by_cases ht:ins[at_].op=11
   ·rw[if_pos ht];have VS:((iD seen).set at_ (.int .i64 1)).set at_ (.int .i64 2)=iD ((seen.set at_ 1).set at_ 2):=by simp[iD,List.map_set]
    simp at VS;simp[Tryz.f96,CQ,fg,h0,ht,iE,VS]
   ·rw[if_neg ht];have hn:=Rh at_ ins[at_] (by omega) (fun h=>((de at_ _ (by simp[fg])).1 h).1);have iO:=vG ins vars cells n1 n2 S T hlen f at_ (Ea hlen de f) (oD at_ ins[at_]) [] (seen.set at_ 1) (by omega) (by have:=Rj at_ ins[at_];simp;omega) (W4 ins de fg) (by simp;omega);simp only[List.nil_append,List.length_nil]at iO;rw[←jd]at iO;have hk:=(s7 (fi ins) f).2 ((oD at_ ins[at_]).filter fun j=>!gU ins j) (seen.set at_ 1);obtain⟨s,b,he⟩:∃s b,iE (fi ins) f ((oD at_ ins[at_]).filter fun j=>!gU ins j) (seen.set at_ 1)=(b,s):=⟨_,_,rfl⟩;rw[he]at iO hk⊢;have VT:(iD s).set at_ (.int .i64 2)=iD (s.set at_ 2):=by simp[iD,List.map_set]
    simp only[List.length_set]at hk;have hs3:at_<s.length:=by omega
    simp at VT;cases b
    ·simp[Tryz.f96]at hn iO⊢;simp[CQ,fg,h0,ht,hn,iO,hs3,VT]
    ·simp[Tryz.f96]at hn iO⊢;simp[CQ,fg,h0,ht,hn,iO]
  ·rw[if_pos h0];simp[Tryz.f96,CQ,fg,h0];generalize seen[at_]=z;by_cases q:z=1
   ·subst q;rfl
   ·have q2:¬((z:Int)=1):=by omega
    simp[q,q2]
theorem zE (hlen:ins.length≤5000) (de:yb ins):∀(rest pre:List Nat) (seen:List Nat),pre++rest=List.range ins.length→seen.length=ins.length→∀(v:Nat) (k:Kt),
 ∃v' s',aG ctx 56 (.loop (Code.at (bh Tryz.f56) [1,1,0,1,0,0])) ⟨26,aB,[(0,true,.ptr 0 0 0),(3,true,.vec 650 v 0 ins.length),(17,true,.d (.int .i64 ins.length)),(18,true,.d (.int .i64 pre.length))],
  [⟨0,0,eH ins vars cells (.vec 1 0 0 n1) (.vec 2 0 0 n2)⟩,⟨1,0,.vec 1 S⟩,⟨2,0,.vec 1 T⟩,⟨650,v,.vec 1 (iD seen)⟩]⟩ k=
  if rounds (fi ins) (ins.length+1) rest seen=true then
   k .ret ⟨26,aB,[(2,true,.d (.bool true))],[⟨0,0,eH ins vars cells (.vec 1 0 0 n1) (.vec 2 0 0 n2)⟩,⟨1,0,.vec 1 S⟩,⟨2,0,.vec 1 T⟩,⟨650,v',.vec 1 (iD s')⟩]⟩
  else k (.exit 0) ⟨26,aB,[(0,true,.ptr 0 0 0),(3,true,.vec 650 v' 0 ins.length),(17,true,.d (.int .i64 ins.length)),(18,true,.d (.int .i64 ins.length)),(19,true,.d (.bool false))],
   [⟨0,0,eH ins vars cells (.vec 1 0 0 n1) (.vec 2 0 0 n2)⟩,⟨1,0,.vec 1 S⟩,⟨2,0,.vec 1 T⟩,⟨650,v',.vec 1 (iD s')⟩]⟩
 |[],pre,seen,hp,hs,v,k=>by
  refine⟨v,seen,?_⟩;have dg:pre.length=ins.length:=by simpa using congrArg List.length hp
  rw[ah];simp[Tryz.f56,rounds,dg]
 |n::rest,pre,seen,hp,hs,v,k=>by
  have dg:pre.length+(rest.length+1)=ins.length:=by simpa using congrArg List.length hp
  have hn:n=pre.length:=by
   have:=congrArg (fun l=>l[pre.length]?) hp;simp at this;rw[List.getElem?_range (by omega)]at this;simpa using this
  have h1:pre.length<ins.length:=by omega
  have h2:IntKind.i64.wrap ((pre.length:Int)+1)=pre.length+1:=ay (by unfold aZ;omega);have vQ:fresh seen≤seen.length:=List.countP_le_length;have hr:=Ea ins vars cells n1 n2 S T hlen de (ins.length+1) pre.length seen (by omega) (by omega) hs;have hk:=((s7 (fi ins) (ins.length+1)).1 pre.length seen).1;subst hn;rw[rounds];obtain⟨s,b,he⟩:∃s b,iT (fi ins) (ins.length+1) pre.length seen=(b,s):=⟨_,_,rfl⟩;rw[he]at hr hk⊢;simp only at hk;cases b
  ·obtain⟨v',s',ih⟩:=zE hlen de rest (pre++[pre.length]) s (by simpa using hp) (by omega) v k;refine⟨v',s',?_⟩;rw[ah];simp[Tryz.f56]at ih hr⊢;simp[h1,h2,hr,ih]
  ·refine⟨v,s,?_⟩;rw[ah];simp at hr;simp[Tryz.f56];simp[h1,h2,hr]
theorem NL (hlen:ins.length≤5000) (de:yb ins):
 ai ctx 56 [.ptr 0 0 0] [eH ins vars cells (.vec 1 0 0 n1) (.vec 2 0 0 n2),.vec 1 S,.vec 1 T]=
  some (.ret (.d (.bool (rounds (fi ins) (ins.length+1) (List.range ins.length) (List.replicate ins.length 0)))),[(0,eH ins vars cells (.vec 1 0 0 n1) (.vec 2 0 0 n2)),(0,.vec 1 S),(0,.vec 1 T)]):=by
 have h1:=zE ins vars cells n1 n2 S T hlen de (List.range ins.length) [] (List.replicate ins.length 0) rfl (by simp) 1;obtain⟨f1,h1⟩:=Classical.axiomOfChoice h1;obtain⟨f2,h1⟩:=Classical.axiomOfChoice h1;have g1:(ins.length:Int)*8≤140737488355328∧(ins.length:Int)≤4611686018427387904:=by omega
 rw[aeU (by simp)];simp[Tryz.f56]at h1⊢;simp[g1,h1];cases hq:rounds (fi ins) (ins.length+1) (List.range ins.length) (List.replicate ins.length 0)<;>simp;trace_state
end
@[simp] def VU (ins:List aq) (vars cells:Int):D:=.agg [.list (ins.map cE),.int .i64 vars,.int .i64 cells]
theorem Ej (pins:Int→Nat) (hp:xY 75 pins) (ins:List aq) (vars cells:Int) (hl:ins.length≤5000):
 ai ctx 21 [.d (VU ins vars cells)] []=some (.ret (.d (.bool (xC pins ins vars cells))),[]):=by
 have hf:=Re pins hp ins vars cells 0 ins.length [] (bD (List.replicate ins.length false)) hl;have g1:(ins.length:Int)≤140737488355328∧(ins.length:Int)≤4611686018427387904:=by omega
 rw[aeH (by simp)];unfold xC;cases hq:km pins ins vars cells
 ·simp[hq]at hf;simp[Tryz.f21,g1];rw[pc (by kernel_rfl)];simp[hf]
 ·have de:=Ri hq;obtain⟨S',hs⟩:=NK ins vars cells hl (fun x hx h=>by
   obtain⟨i,hi,rfl⟩:=List.getElem_of_mem hx;exact (de i _ (by simp[hi])).1 h)
  have hr:=NL ins vars cells S'.length ins.length (bD S') (bD (lC ins)) hl de;simp[hq]at hf hs hr;simp[Tryz.f21,g1];rw[pc (by kernel_rfl)];simp[hf,hs];cases hq2:fH (lC ins) 0 ins []
  ·simp
  ·simp[hr]
theorem W5 (x y:aq):x=y↔x.op=y.op∧x.a=y.a∧x.b=y.b∧x.n=y.n∧x.m=y.m:=by
 constructor
 ·rintro rfl;simp
 ·intro h;cases x;cases y;simp_all
instance:DecidableEq aq:=fun x y=>decidable_of_iff _ (W5 x y).symm
theorem NM (e:EL):(dC e).1=0↔e.1=0:=by
 unfold dC;split<;>simp[*]
theorem T7 {p:Pg} {g:List aq×Int×Int} (h:vr p=some g):g.1.length≤4096:=by
 unfold vr at h;simp only at h;split at h
 ·cases h
 ·cases h;simp only[List.length_append,List.length_map,List.length_cons,List.length_nil];omega
def eY:Option (Out×List (Nat×aD))→Option Nat
 |some (.ret (.d (.list l)),[])=>some l.length
 |_=>none
theorem Iv {r:Option (Out×List (Nat×aD))} {n:Nat} (h:eY r=some n):∃l,r=some (.ret (.d (.list l)),[])∧l.length=n:=by
 unfold eY at h;split at h
 ·rename_i l;exact⟨l,rfl,by simpa using h⟩
 ·cases h
theorem eV {f:FuncId} {b:Int} {n:Nat} (h:eY (aO ctx 120 f [.d (.int .i64 b)] [])=some n):∃l:List D,ai ctx f [.d (.int .i64 b)] []=some (.ret (.d (.list l)),[])∧l.length=n:=by
 obtain⟨l,h1,h2⟩:=Iv h;exact⟨l,bn 120 h1,h2⟩
theorem ab4:eY (aO ctx 120 75 [.d (.int .i64 10)] [])=some 4:=by kernel_rfl
theorem ab5:eY (aO ctx 120 75 [.d (.int .i64 11)] [])=some 4:=by kernel_rfl
theorem ab6:eY (aO ctx 120 75 [.d (.int .i64 12)] [])=some 6:=by kernel_rfl
theorem ab7:eY (aO ctx 120 75 [.d (.int .i64 13)] [])=some 6:=by kernel_rfl
theorem ab8:eY (aO ctx 120 75 [.d (.int .i64 14)] [])=some 6:=by kernel_rfl
theorem ab9:eY (aO ctx 120 75 [.d (.int .i64 15)] [])=some 3:=by kernel_rfl
theorem aca:eY (aO ctx 120 75 [.d (.int .i64 16)] [])=some 3:=by kernel_rfl
theorem acb:eY (aO ctx 120 75 [.d (.int .i64 17)] [])=some 3:=by kernel_rfl
theorem acd:eY (aO ctx 120 75 [.d (.int .i64 18)] [])=some 3:=by kernel_rfl
theorem ace:eY (aO ctx 120 75 [.d (.int .i64 20)] [])=some 4:=by kernel_rfl
theorem acf:eY (aO ctx 120 75 [.d (.int .i64 21)] [])=some 9:=by kernel_rfl
theorem acg:eY (aO ctx 120 75 [.d (.int .i64 22)] [])=some 9:=by kernel_rfl
theorem ach:eY (aO ctx 120 75 [.d (.int .i64 23)] [])=some 9:=by kernel_rfl
theorem aci:eY (aO ctx 120 75 [.d (.int .i64 24)] [])=some 12:=by kernel_rfl
theorem acj:eY (aO ctx 120 75 [.d (.int .i64 25)] [])=some 12:=by kernel_rfl
theorem ack:eY (aO ctx 120 75 [.d (.int .i64 26)] [])=some 12:=by kernel_rfl
theorem acm:eY (aO ctx 120 75 [.d (.int .i64 27)] [])=some 10:=by kernel_rfl
theorem acn:eY (aO ctx 120 75 [.d (.int .i64 28)] [])=some 12:=by kernel_rfl
theorem aco:eY (aO ctx 120 75 [.d (.int .i64 29)] [])=some 5:=by kernel_rfl
theorem acp:eY (aO ctx 120 75 [.d (.int .i64 30)] [])=some 6:=by kernel_rfl
theorem acq:eY (aO ctx 120 75 [.d (.int .i64 31)] [])=some 4:=by kernel_rfl
def qk:List Int:=[10,11,12,13,14,15,16,17,18,20,21,22,23,24,25,26,27,28,29,30,31]
def mo:D→Option Int
 | .agg [.int .i64 k,.str _,.str _,.str _,.int .i64 _]=>some k
 |_=>none
theorem yc {d:D} {k:Int} (h:mo d=some k):∃a b c n,d=.agg [.int .i64 k,.str a,.str b,.str c,.int .i64 n]:=by
 unfold mo at h;split at h
 ·rename_i k' a b c n;cases h;exact⟨a,b,c,n,rfl⟩
 ·cases h
def HS:Option (Out×List (Nat×aD))→Option (List (Option Int))
 |some (.ret (.d (.list l)),[])=>some (l.map mo)
 |_=>none
theorem T8:HS (aO ctx 120 164 [] [])=some (qk.map some):=by kernel_rfl
theorem NN:∃l:List D,ai ctx 164 [] []=some (.ret (.d (.list l)),[])∧l.map mo=qk.map some:=by
 have h:=T8;generalize hr:aO ctx 120 164 [] []=r at h;unfold HS at h;split at h
 ·rename_i l;exact⟨l,bn 120 hr,by simpa using h⟩
 ·cases h
theorem NO (d:D) (k b:Int) (hd:mo d=some k):ai ctx 166 [.d d,.ptr 0 0 0] [.box [.d (.int .i64 b)]]=some (.ret (.d (.bool (decide (k=b)))),[(0,.box [.d (.int .i64 b)])]):=by
 obtain⟨a,e,c,n,rfl⟩:=yc hd;rw[Qd (by simp)];simp[Tryz.f166]
theorem v7 (b:Int):∀(rest pre:List D),(∀d∈rest,∃k,mo d=some k∧k≠b)→(pre++rest).length<1000→∀k:Kt,
 aG ctx 165 (.loop (Code.at (bh Tryz.f165) [1,0,1,0,0])) ⟨19,aB,[(0,true,.d (.list (pre++rest))),(1,true,.fn 166 [.ptr 0 0 0]),(7,true,.d (.int .i64 (pre++rest).length)),(8,true,.d (.int .i64 pre.length))],[⟨0,0,.box [.d (.int .i64 b)]⟩]⟩ k=
  k (.exit 0) ⟨19,aB,[(0,true,.d (.list (pre++rest))),(1,true,.fn 166 [.ptr 0 0 0]),(7,true,.d (.int .i64 (pre++rest).length)),(8,true,.d (.int .i64 (pre++rest).length)),(9,true,.d (.bool false))],[⟨0,0,.box [.d (.int .i64 b)]⟩]⟩
 |[],pre,h,hl,k=>by
  rw[ah];simp[Tryz.f165]
 |d::rest,pre,h,hl,k=>by
  obtain⟨kd,hk,bE⟩:=h d (by simp);have hs:=NO d kd b hk;obtain⟨a1,a2,a3,a4,rfl⟩:=yc hk;have ih:=v7 b rest (pre++[.agg [.int .i64 kd,.str a1,.str a2,.str a3,.int .i64 a4]]) (fun d hd=>h d (by simp[hd])) (by simpa using hl) k;have h1:(pre.length:Int)<pre.length+(rest.length+1):=by omega
  have h2:IntKind.i64.wrap ((pre.length:Int)+1)=pre.length+1:=ay (by unfold aZ;simp at hl;omega);simp[bE]at hs;rw[ah];simp[Tryz.f165]at ih⊢;simp[h1,h2,hs,ih]
theorem Rk (b:Int) (hb:b∉qk):ai ctx 75 [.d (.int .i64 b)] []=some (.ret (.d (.list [])),[]):=by
 obtain⟨l,hl,hm⟩:=NN;have hlen:l.length=21:=by have:=congrArg List.length hm;simpa [qk]using this
 have cZ:∀d∈l,∃k,mo d=some k∧k≠b:=by
  intro d hd;have h1:mo d∈l.map mo:=List.mem_map_of_mem hd;rw[hm]at h1;obtain⟨k,hk,he⟩:=List.mem_map.1 h1;exact⟨k,he.symm,fun h=>hb (h▸hk)⟩
 have iO:=v7 b l [] cZ (by simp;omega);have Tf:ai ctx 165 [.d (.list l),.fn 166 [.ptr 0 0 0]] [.box [.d (.int .i64 b)]]=some (.ret (.d (.int .i64 (-1))),[(0,.box [.d (.int .i64 b)])]):=by
  rw[Qc (by simp)];simp[Tryz.f165]at iO⊢;simp[iO]
 have Dq:ai ctx 114 [.d (.int .i64 b)] []=some (.ret (.aU [.d (.agg [.int .i64 0,.str [],.str [],.str [],.int .i64 0]),.d (.bool false)]),[]):=by
  rw[P7 (by simp)];simp[Tryz.f114,hl,Tf]
 rw[Vo (by simp)];simp[Tryz.f75,Dq]
theorem W6:xY 75 qX:=by
 intro b;by_cases hb:b∈qk
 ·simp only[qk,List.mem_cons,List.not_mem_nil,or_false]at hb;rcases hb with rfl|rfl|rfl|rfl|rfl|rfl|rfl|rfl|rfl|rfl|rfl|rfl|rfl|rfl|rfl|rfl|rfl|rfl|rfl|rfl|rfl
  ·obtain⟨l,h1,h2⟩:=eV ab4;exact⟨l,h1,by rw[h2];rfl,by decide⟩
  ·obtain⟨l,h1,h2⟩:=eV ab5;exact⟨l,h1,by rw[h2];rfl,by decide⟩
  ·obtain⟨l,h1,h2⟩:=eV ab6;exact⟨l,h1,by rw[h2];rfl,by decide⟩
  ·obtain⟨l,h1,h2⟩:=eV ab7;exact⟨l,h1,by rw[h2];rfl,by decide⟩
  ·obtain⟨l,h1,h2⟩:=eV ab8;exact⟨l,h1,by rw[h2];rfl,by decide⟩
  ·obtain⟨l,h1,h2⟩:=eV ab9;exact⟨l,h1,by rw[h2];rfl,by decide⟩
  ·obtain⟨l,h1,h2⟩:=eV aca;exact⟨l,h1,by rw[h2];rfl,by decide⟩
  ·obtain⟨l,h1,h2⟩:=eV acb;exact⟨l,h1,by rw[h2];rfl,by decide⟩
  ·obtain⟨l,h1,h2⟩:=eV acd;exact⟨l,h1,by rw[h2];rfl,by decide⟩
  ·obtain⟨l,h1,h2⟩:=eV ace;exact⟨l,h1,by rw[h2];rfl,by decide⟩
  ·obtain⟨l,h1,h2⟩:=eV acf;exact⟨l,h1,by rw[h2];rfl,by decide⟩
  ·obtain⟨l,h1,h2⟩:=eV acg;exact⟨l,h1,by rw[h2];rfl,by decide⟩
  ·obtain⟨l,h1,h2⟩:=eV ach;exact⟨l,h1,by rw[h2];rfl,by decide⟩
  ·obtain⟨l,h1,h2⟩:=eV aci;exact⟨l,h1,by rw[h2];rfl,by decide⟩
  ·obtain⟨l,h1,h2⟩:=eV acj;exact⟨l,h1,by rw[h2];rfl,by decide⟩
  ·obtain⟨l,h1,h2⟩:=eV ack;exact⟨l,h1,by rw[h2];rfl,by decide⟩
  ·obtain⟨l,h1,h2⟩:=eV acm;exact⟨l,h1,by rw[h2];rfl,by decide⟩
  ·obtain⟨l,h1,h2⟩:=eV acn;exact⟨l,h1,by rw[h2];rfl,by decide⟩
  ·obtain⟨l,h1,h2⟩:=eV aco;exact⟨l,h1,by rw[h2];rfl,by decide⟩
  ·obtain⟨l,h1,h2⟩:=eV acp;exact⟨l,h1,by rw[h2];rfl,by decide⟩
  ·obtain⟨l,h1,h2⟩:=eV acq;exact⟨l,h1,by rw[h2];rfl,by decide⟩
 ·refine⟨[],Rk b hb,?_,?_⟩
  ·simp only[qk,List.mem_cons,List.not_mem_nil,or_false,not_or]at hb;simp[qX,hb]
  ·simp only[qk,List.mem_cons,List.not_mem_nil,or_false,not_or]at hb;simp[qX,hb]
end Go.Am
end
section
namespace Go.Am
open Go
section
variable {vs:List Vr}
theorem NP {q:Rr} (f:Mc→Rr) (h:q.1=.on):bR q f=f q.2:=by
 obtain⟨w,s⟩:=q;simp only at h;subst h;rfl
theorem NQ {q:Rr} (f:Mc→Rr) (h:q.1≠.on):bR q f=q:=by
 obtain⟨w,s⟩:=q;cases w with
 |on=>exact absurd rfl h
 |_=>rfl
def HU (m:Nat) (s:Mc):Mc:=⟨s.cells,s.fuel+m⟩
structure Rl (m f:Nat) (q q':Rr):Prop where
 out:q.1=.ft 4→q.2.fuel=0
 more:q.1≠.ft 4→q'=(q.1,HU m q.2)
 le:q.2.fuel≤f
theorem Rl.bind {m f:Nat} {q q':Rr} (h:Rl m f q q') {G G':Mc→Rr} (hG:∀s,s.fuel≤f→Rl m s.fuel (G s) (G' (HU m s))):Rl m f (bR q G) (bR q' G'):=by
 by_cases ho:q.1=.on
 ·have e:=h.more (by rw[ho];simp);have g:=hG q.2 h.le;rw[NP G ho,e,NP G' (by simpa using ho)];exact⟨g.out,g.more,Nat.le_trans g.le h.le⟩
 ·rw[NQ G ho];refine⟨h.out,fun hn=>?_,h.le⟩;rw[h.more hn,NQ G' (by simpa using ho)]
theorem Rl.ret {m:Nat} {s:Mc} {w:Hw} (h:w≠.ft 4):Rl m s.fuel (w,s) (w,HU m s):=⟨fun e=>absurd e h,fun _=>rfl,Nat.le_refl _⟩
theorem Rl.val {m:Nat} {s:Mc} {v:Vl} (hv:∀e,v=.f e→e≠4) {F F':Int→Rr} (hF:∀n,Rl m s.fuel (F n) (F' n)):Rl m s.fuel (vR v s F) (vR v (HU m s) F'):=by
 cases v with
 |f e=>exact .ret (by simpa using hv e rfl)
 |v n t=>exact hF n
theorem Rl.step {m:Nat} {s:Mc} {F F':Mc→Rr} (hF:∀f,s.fuel=f+1→Rl m f (F ⟨s.cells,f⟩) (F' (HU m ⟨s.cells,f⟩))):Rl m s.fuel (QW F s) (QW F' (HU m s)):=by
 unfold QW HU;by_cases h0:s.fuel=0
 ·rw[if_pos h0];exact⟨fun _=>h0,fun h=>absurd rfl h,Nat.le_refl _⟩
 ·have h:=hF (s.fuel-1) (by omega);rw[if_neg h0,if_neg (by simp only;omega)];simp only at h⊢;rw[show s.fuel+m-1=s.fuel-1+m by omega];exact⟨h.out,h.more,by have:=h.le;omega⟩
theorem Rl.left {m f:Nat} {q q':Rr} (h:Rl m f q q'):Rl m f (B4 q) (B4 q'):=by
 unfold B4;by_cases hl:q.1=.lv
 ·have e:=h.more (by rw[hl];simp);rw[if_pos hl,e,if_pos (by simpa using hl)];exact⟨fun hh=>by simp at hh,fun _=>rfl,h.le⟩
 ·rw[if_neg hl];refine⟨h.out,fun hn=>?_,h.le⟩;rw[h.more hn,if_neg (by simpa using hl)]
end
section
variable {vs:List Vr}
def Qh (lp:Bool) (q:Rr):Prop:=q.1≠.rt∧(lp=false→q.1≠.lv)∧q.1≠.ft 0
theorem Qh.on {lp:Bool} {s:Mc}:Qh lp (.on,s):=⟨by simp,fun _=>by simp,by simp⟩
theorem Qh.ft {lp:Bool} {e:Int} {s:Mc} (h:e≠0):Qh lp (.ft e,s):=⟨by simp,fun _=>by simp,by simpa using h⟩
theorem Qh.bind {lp:Bool} {q:Rr} (h:Qh lp q) {G:Mc→Rr} (hG:∀s,Qh lp (G s)):Qh lp (bR q G):=by
 by_cases ho:q.1=.on
 ·rw[NP G ho];exact hG _
 ·rw[NQ G ho];exact h
theorem Qh.val {lp:Bool} {v:Vl} {s:Mc} {F:Int→Rr} (hv:∀e,v=.f e→e≠0) (hF:∀n,Qh lp (F n)):Qh lp (vR v s F):=by
 cases v with
 |f e=>exact .ft (hv e rfl)
 |v n t=>exact hF n
theorem Qh.step {lp:Bool} {s:Mc} {F:Mc→Rr} (hF:∀s,Qh lp (F s)):Qh lp (QW F s):=by
 unfold QW;split
 ·exact .ft (by decide)
 ·exact hF _
theorem Qh.left {lp lp':Bool} {q:Rr} (h:Qh lp q):Qh lp' (B4 q):=by
 unfold B4;by_cases hl:q.1=.lv
 ·rw[if_pos hl];exact .on
 ·rw[if_neg hl];exact⟨h.1,fun _=>hl,h.2.2⟩
end
theorem afR (b:Int):xP b=qX b:=by
 unfold xP;by_cases hb:b∈gH
 ·simp only[gH,List.mem_cons,List.not_mem_nil,or_false]at hb;rcases hb with rfl|rfl|rfl|rfl|rfl|rfl|rfl|rfl|rfl|rfl|rfl|rfl|rfl|rfl|rfl|rfl|rfl|rfl|rfl|rfl|rfl<;>decide
 ·rw[oc hb];simp[gH]at hb;unfold qX;simp[hb]
inductive vH (L:List aq):Ms→Ms→Prop
 |refl (s:Ms):vH L s s
 |step (s:Ms) (x:aq) (t:Ms) (h0:s.fault=0) (hx:L[s.at_.toNat]?=some x) (h:x.op≠15) (h':vH L (Me x s) t):vH L s t
section
variable {L:List aq}
theorem vH.trans {a b c:Ms} (h1:vH L a b) (h2:vH L b c):vH L a c:=by
 induction h1 with
 |refl=>exact h2
 |step s x t h0 hx h _ ih=>exact .step _ _ _ h0 hx h (ih h2)
end
def mS (K S:List Int) (p f:Nat):Ms:=⟨K,S,p,f,0⟩
theorem vH.one {L:List aq} {K S:List Int} {p f:Nat} {x:aq} {t:Ms} (hx:L[p]?=some x) (h:x.op≠15) (ht:Me x (mS K S p f)=t):vH L (mS K S p f) t:=
 .step _ x _ rfl (by simpa [mS]using hx) h (ht▸.refl _)
section
variable {K S:List Int} {p f:Nat}
end
def s8 (n X R:Nat) (x:aq):aq:=if x.op=9∨x.op=10 then {x with a:=if 0≤x.a then x.a+n else if x.op=9∧x.a= -1 then X else R} else x
def gL (L:List aq) (n X R:Nat) (l:List aq):Prop:=∀(i:Nat) (x:aq),l[i]?=some x→L[n+i]?=some (s8 n X R x)
theorem Cb {n X R:Nat} {x:aq} (h:x.op≠9∧x.op≠10):s8 n X R x=x:=by unfold s8;rw[if_neg (by omega)]
theorem acr (n X R k:Nat) (x:aq):s8 n X R (kR k x)=s8 (n+k) X R x:=by
 obtain⟨op,a,b,c,d⟩:=x;unfold s8 kR;by_cases h:op=9∨op=10
 ·by_cases h0:0≤a
  ·simp only[h,h0,and_self,if_true,aq.mk.injEq,true_and,and_true];rw[if_pos (by omega)];omega
  ·simp only[h,h0,and_false,if_false,if_true]
 ·simp only[h,false_and,if_false]
theorem W7 (n X R k:Nat) (x:aq):s8 n X R (oT k x)=s8 n (n+k) R x:=by
 obtain⟨op,a,b,c,d⟩:=x;unfold s8 oT;by_cases h:op=9∧a= -1
 ·obtain⟨rfl,rfl⟩:=h;simp;omega
 ·rw[if_neg h];by_cases h2:op=9∨op=10
  ·simp only[h2,if_true,h,if_false]
  ·simp only[h2,if_false]
section
variable {L:List aq} {n X R:Nat}
theorem gL.left {a b:List aq} (h:gL L n X R (a++b)):gL L n X R a:=fun i x hx=>h i x (by
 rw[List.getElem?_append_left (List.getElem?_eq_some_iff.1 hx).1];exact hx)
theorem gL.right {a b:List aq} (h:gL L n X R (a++b)) (i:Nat) (x:aq) (hx:b[i]?=some x):L[n+a.length+i]?=some (s8 n X R x):=by
 have:=h (a.length+i) x (by rw[List.getElem?_append_right (by omega)];rw[show a.length+i-a.length=i by omega];exact hx);rw[show n+a.length+i=n+(a.length+i) by omega];exact this
theorem gL.flat {a b:List aq} (h:gL L n X R (a++b)) (hb:Flat b):gL L (n+a.length) X R b:=fun i x hx=>by
 have hm:=hb x (List.mem_of_getElem? hx);rw[h.right i x hx,Cb hm,Cb hm]
theorem gL.jn1 {a b:List aq} (h:gL L n X R (jn a b)):gL L n X R a:=gL.left h
theorem gL.jn2 {a b:List aq} (h:gL L n X R (jn a b)):gL L (n+a.length) X R b:=fun i x hx=>by
 have:=gL.right h i (kR a.length x) (by unfold ic;rw[List.getElem?_map,hx];rfl);rw[this,acr]
theorem gL.out {l:List aq} (h:gL L n X R (nc l)):gL L n (n+l.length) R l:=fun i x hx=>by
 have:=h i (oT l.length x) (by unfold nc;rw[List.getElem?_map,hx];rfl);rw[this,W7]
theorem gL.tail {x:aq} {l:List aq} (h:gL L n X R (x::l)) (hl:Flat l):gL L (n+1) X R l:=fun i y hy=>by
 have hm:=hl y (List.mem_of_getElem? hy);have:=h (i+1) y (by simpa using hy);rw[Cb hm]at this⊢;rw[show n+1+i=n+(i+1) by omega];exact this
theorem gL.last {a:List aq} {x:aq} (h:gL L n X R (a++[x])) (hx:x.op≠9∧x.op≠10):L[n+a.length]?=some x:=by
 have:=h.right 0 x rfl;rw[Cb hx]at this;exact this
theorem afS {a:Int} {k:Nat} (h:a=k):s8 n X R (ins 9 a 0 0 0)=ins 9 ((n+k:Nat)) 0 0 0:=by
 subst h;simp[s8,ins];omega
theorem acs {a:Int} {k:Nat} (h:a=k):s8 n X R (ins 10 a 0 0 0)=ins 10 ((n+k:Nat)) 0 0 0:=by
 subst h;simp[s8,ins];omega
theorem gL.ch {t b:List aq} {ts r:List (List aq)} {pl:Nat} (hp:pl=if r=[]then b.length else b.length+1) (h:gL L n X R (cy (t::ts) (b::r))):
 gL L n X R t∧L[n+t.length]?=some (ins 10 ((n+(t.length+1+pl):Nat)) 0 0 0)∧gL L (n+(t.length+1)) X R b∧
 (r≠[]→L[n+(t.length+1+b.length)]?=some (ins 9 ((n+(t.length+1+pl+(cy ts r).length):Nat)) 0 0 0))∧gL L (n+(t.length+1+pl)) X R (cy ts r)∧
 (cy (t::ts) (b::r)).length=t.length+1+pl+(cy ts r).length:=by
 have e:cy (t::ts) (b::r)=jn (jn (t++[ins 10 ((t.length:Int)+1+(if r=[]then b else b++[ins 9 ((b.length:Int)+1+(cy ts r).length) 0 0 0]).length) 0 0 0]) (if r=[]then b else b++[ins 9 ((b.length:Int)+1+(cy ts r).length) 0 0 0])) (cy ts r):=by
  rw[cy];simp[jn]
 rw[e]at h⊢;have dg:(if r=[]then b else b++[ins 9 ((b.length:Int)+1+(cy ts r).length) 0 0 0]).length=pl:=by
  rw[hp];split<;>simp
 generalize hq:(if r=[]then b else b++[ins 9 ((b.length:Int)+1+(cy ts r).length) 0 0 0])=q at h dg⊢;have h1:=h.jn1;have h2:=h.jn2;have h3:=h1.jn1;have h4:=h1.jn2;have h5:=h3.right 0 _ rfl;rw[acs (k:=t.length+1+pl) (by omega)]at h5;simp only[dL,List.length_append,List.length_cons,List.length_nil,dg]at h2 h4⊢;refine⟨h3.left,h5,?_,fun hr=>?_,?_,?_⟩;rotate_right
 ·first|trivial|omega
 ·by_cases hr:r=[]
  ·rw[if_pos hr]at hq;rw[hq];exact h4
  ·rw[if_neg hr]at hq;rw[←hq]at h4;exact h4.left
 ·rw[if_neg hr]at hq hp;rw[←hq]at h4;have h6:=h4.right 0 _ rfl;rw[afS (k:=b.length+1+(cy ts r).length) (by omega)]at h6;rw[show n+(t.length+1+b.length)=n+(t.length+(0+1))+b.length+0 by omega,h6,hp];congr 3;omega
 ·rw[show n+(t.length+1+pl)=n+(t.length+(0+1)+pl) by omega];exact h2
end
end Go.Am
end
section
namespace Go.Am
open Go Go.Proofs
variable [Inhabited b6]
set_option maxRecDepth 20000
theorem HV:ai ctx 16 [] []=some (.ret (.d (.bool true)),[]):=bn 30 (by kernel_rfl)
theorem Rn {p:Pg} (h:HG p) {g:List aq×Int×Int} (hg:vr p=some g):ai ctx 21 [.d (VU g.1 g.2.1 g.2.2)] []=some (.ret (.d (.bool true)),[]):=by
 have h1:=T7 hg;have hc:=Ej qX W6 g.1 g.2.1 g.2.2 (by omega);have ht:=QY h.fit h.lit h.Ra hg;rw[show xP=qX from funext afR]at ht;rw[ht]at hc;exact hc
theorem CS {p:Pg} (hl:iQ p.body=true) (hw:dP (qi p)<10000000):ai ctx 3 [.d (qi p)] []=some (.ret (.d (.bool true)),[]):=by
 obtain⟨h1,h2,h3⟩:=GI (p:=p) (by simp only[qi]at hw;omega);obtain⟨B,pU⟩:=Wk h1 h2;have jy:=aay h1 h2;have Ro:=HV;rw[akz (by simp)];cases B with
 |false=>simp[Tryz.f3,Ro,pU]
 |true=>
  cases hf:pg p with
  |false=>
   rw[hf]at jy;simp[Tryz.f3,Ro,pU,jy]
  |true=>
   rw[hf]at jy;have hr:=Rd hf (by omega);unfold dq at hr;by_cases hc:(qd p).1=0
   ·have h:HG p:=⟨hf,hl,hc,hw⟩;have K1:=TY h;cases hg:vr p with
    |none=>
     rw[hg]at K1;simp[cdD,cdE]at K1;simp[Tryz.f3,Ro,pU,jy,hr,hc,NM,K1]
    |some g=>
     have hck:=Rn h hg;rw[hg]at K1;simp[cdD,cdE]at K1;simp at hck;simp[Tryz.f3,Ro,pU,jy,hr,hc,NM,K1,hck]
   ·simp[Tryz.f3,Ro,pU,jy,hr,hc,NM]
end Go.Am
end
section
namespace Go.Am
open Go
set_option maxRecDepth 20000
def alG:Nat→Nat
 |99=>228
 |143=>230
 |206=>274
 |217=>275
 |219=>276
 |224=>306
 |225=>305
 |266=>304
 |267=>307
 |314=>328
 |_=>0
def alH:Nat→Nat
 |3=>3
 |4=>4
 |5=>5
 |9=>9
 |46=>158
 |51=>308
 |146=>358
 |_=>0
def alI:Nat→Nat
 |1=>2
 |_=>0
def rho:Go.Shelf.Ren:=⟨alG,alH,alI⟩
theorem W8:Go.Proofs.Lays.n143 Go.Proofs.Tryz.prog rho where
 mixed:=by kernel_rfl
 f143:=by kernel_rfl
 f217:=by kernel_rfl
 f219:=by kernel_rfl
 f224:=by kernel_rfl
 f225:=by kernel_rfl
 f266:=by kernel_rfl
 f267:=by kernel_rfl
 f314:=by kernel_rfl
 t3:=by kernel_rfl
 a3:=by intro w;kernel_rfl
 z3:=by intro w;kernel_rfl
 v3:=by intro w;kernel_rfl
 t4:=by kernel_rfl
 a4:=by intro w;kernel_rfl
 z4:=by intro w;kernel_rfl
 v4:=by intro w;kernel_rfl
 t5:=by kernel_rfl
 a5:=by intro w;kernel_rfl
 z5:=by intro w;kernel_rfl
 v5:=by intro w;kernel_rfl
 t9:=by kernel_rfl
 a9:=by intro w;kernel_rfl
 z9:=by intro w;kernel_rfl
 v9:=by intro w;kernel_rfl
 t46:=by kernel_rfl
 a46:=by intro w;kernel_rfl
 z46:=by intro w;kernel_rfl
 v46:=by intro w;kernel_rfl
 t51:=by kernel_rfl
 a51:=by intro w;kernel_rfl
 z51:=by intro w;kernel_rfl
 v51:=by intro w;kernel_rfl
 t146:=by kernel_rfl
 a146:=by intro w;kernel_rfl
 z146:=by intro w;kernel_rfl
 v146:=by intro w;kernel_rfl
 g1:=by kernel_rfl
theorem W9:Go.Proofs.Lays.n217 Go.Proofs.Tryz.prog rho where
 mixed:=by kernel_rfl
 f217:=by kernel_rfl
 f266:=by kernel_rfl
 t3:=by kernel_rfl
 a3:=by intro w;kernel_rfl
 z3:=by intro w;kernel_rfl
 v3:=by intro w;kernel_rfl
 t5:=by kernel_rfl
 a5:=by intro w;kernel_rfl
 z5:=by intro w;kernel_rfl
 v5:=by intro w;kernel_rfl
 t9:=by kernel_rfl
 a9:=by intro w;kernel_rfl
 z9:=by intro w;kernel_rfl
 v9:=by intro w;kernel_rfl
theorem acv:Go.Proofs.Lays.n99 Go.Proofs.Tryz.prog rho where
 mixed:=by kernel_rfl
 f99:=by kernel_rfl
 f206:=by kernel_rfl
 t3:=by kernel_rfl
 a3:=by intro w;kernel_rfl
 z3:=by intro w;kernel_rfl
 v3:=by intro w;kernel_rfl
 t4:=by kernel_rfl
 a4:=by intro w;kernel_rfl
 z4:=by intro w;kernel_rfl
 v4:=by intro w;kernel_rfl
 t9:=by kernel_rfl
 a9:=by intro w;kernel_rfl
 z9:=by intro w;kernel_rfl
 v9:=by intro w;kernel_rfl
end Go.Am
end
section
namespace Go.Am
open Go Go.Proofs
variable [Inhabited b6]
set_option maxRecDepth 20000
theorem tL {P:Program} {g:FuncId} {fn:Func} (hf:P.funcs[g]?=some fn) (hb:fn.body.isSome=true) (hn:(fn.name == "runtime.NumGoroutine")=false):gE P g=true:=by
 unfold gE;rw[hf];simp only[hb,hn];rfl
theorem uD {w F s v} (h:aH w F (.str s) v):∃b:ByteArray,v=.string b∧b.data.toList=s:=by
 cases h with
 |str b s h=>exact⟨b,rfl,h⟩
theorem K2 {w F k n v} (h:aH w F (.int k n) v):v=.int k n:=by cases h;rfl
theorem AG {ds:List D} {a b:D} {w F} {vs:Array Value} (hd:ds=[a,b]) (hl:ds.length=vs.size) (hr:∀(i:Nat) x v,ds[i]?=some x→vs[i]?=some v→aH w F x v):
 ∃x y,vs=#[x,y]∧aH w F a x∧aH w F b y:=by
 subst hd;obtain⟨l⟩:=vs;match l,hl with
 |[x,y],_=>exact⟨x,y,rfl,hr 0 a x rfl rfl,hr 1 b y rfl rfl⟩
theorem Xa {w:World} {F} (hg:eI w F aB):∃m,w.cell? ⟨2,0,none⟩=some (.int .i64 m):=by
 obtain⟨_,_,x',h1,h2⟩:=hg (2,.int .i64 (id (α:=Int) (default:b6))) (by simp[aB]);generalize id (α:=Int) (default:b6)=z at h1;obtain rfl:=K2 h1;exact⟨z,h2 0 _ (by simp[Value.cells])⟩
theorem afT:pH ctx 228 (liftO hpO):=by
 refine pH.lift ⟨tL Tryz.func228 (by kernel_rfl) (by kernel_rfl),fun ds d hd F w vs hg mq hl hr=>?_⟩;unfold hpO at hd;split at hd
 ·rename_i s p;obtain⟨x,y,rfl,h1,h2⟩:=AG rfl hl hr;obtain⟨a,rfl,rfl⟩:=uD h1;obtain⟨b,rfl,rfl⟩:=uD h2;refine (Any.strings_HasPrefix acv a b w).mono ?_;rintro e w' ⟨rfl,rfl⟩;cases hd;exact⟨_,rfl,Go.RowKit.Below.refl _ _,.bool _⟩
 ·cases hd
theorem afU:pH ctx 275 (liftO ibO):=by
 refine pH.lift ⟨tL Tryz.func275 (by kernel_rfl) (by kernel_rfl),fun ds d hd F w vs hg mq hl hr=>?_⟩;unfold ibO at hd;split at hd
 ·rename_i s p;obtain⟨x,y,rfl,h1,h2⟩:=AG rfl hl hr;obtain⟨a,rfl,rfl⟩:=uD h1;obtain rfl:=K2 h2;refine (Any.stringslite_IndexByte W9 a _ w).mono ?_;rintro e w' ⟨rfl,rfl⟩;cases hd;exact⟨_,rfl,Go.RowKit.Below.refl _ _,.int _ _⟩
 ·cases hd
theorem acw:pH ctx 230 (liftO idxO):=by
 refine pH.lift ⟨tL Tryz.func230 (by kernel_rfl) (by kernel_rfl),fun ds d hd F w vs hg mq hl hr=>?_⟩;unfold idxO at hd;split at hd
 ·rename_i s p;split at hd
  ·rename_i hs;obtain⟨x,y,rfl,h1,h2⟩:=AG rfl hl hr;obtain⟨a,rfl,rfl⟩:=uD h1;obtain⟨b,rfl,rfl⟩:=uD h2;obtain⟨m,hm⟩:=Xa hg;refine (Any.strings_Index W8 a b m w (by simpa using hs) hm).mono ?_;rintro e w' ⟨rfl,rfl⟩;cases hd;exact⟨_,rfl,Go.RowKit.Below.refl _ _,.int _ _⟩
  ·cases hd
 ·cases hd
theorem Xb:∀g h,ctx.zi g=some h→pH ctx g h:=by
 intro g h hg;have rB:Tb g=some h:=hg;unfold Tb at rB;split at rB;all_goals first|(cases rB;first|exact afT|exact afU|exact acw)|cases rB
end Go.Am
end
section
namespace Go.Am
open Go
theorem HW {P:Program} {w:World} {n:String} {d:DataW Unit}:∀{l:List (String×DataW Unit)} {ps:List MemPlace},DataW.LaidVars P w l ps→(n,d)∈l→
 ∃g t cs fuel p,P.globalNamed n=some g∧(P.globals[g]?).map (·.type)=some t∧w.var? P n=some cs∧DataW.trod (fun _=>()) P w 0 (fun _=>true) false fuel t cs.toList=some (d,p)
 |[],_,_,hm=>by simp at hm
 |(n',d')::r,ps,⟨g,t,cs,fuel,p,q,h1,h2,h3,h4,h5,_⟩,hm=>by
  rcases List.mem_cons.1 hm with hm|hm
  ·cases hm;exact⟨g,t,cs,fuel,p,h1,h2,h3,h4⟩
  ·exact HW h5 hm
theorem Rp {H:Type} {enc:TypeId×Value→H} {P:Program} {w:World} {base:Nat} {sp:Nat→Bool} {held:Bool} {fuel:Nat} {t e:TypeId} {n:Nat} {k:IntKind} {cs:List Value} {ds:List (DataW H)} {p:List MemPlace}
 (ha:P.underlying t=some (.array n e)) (he:P.underlying e=some (.int k)) (hc:P.cellsOf e=1) (h:DataW.trod enc P w base sp held fuel t cs=some (.agg ds,p)):
 cs.length=P.cellsOf t∧ds.length=n∧∀i,i<n→∃z,cs[i]?=some (.int k z)∧ds[i]?=some (.lit (.int k z)):=by
 cases fuel with
 |zero=>simp[DataW.trod]at h
 |succ m=>
  unfold DataW.trod at h;rw[ha]at h;simp only at h;split at h
  ·rename_i hl;simp only[Option.map_eq_some_iff,Prod.mk.injEq,DataW.agg.injEq]at h;obtain⟨xs,hx,rfl,_⟩:=h;have h1:xs.length=n:=by simpa using mapM_some_length hx
   refine⟨hl,by simpa using h1,fun i hi=>?_⟩;have h2:=mapM_some_get hx i i (by simp[hi]);have h3:i<xs.length:=by omega
   have h4:xs[i]?=some xs[i]:=by simp[h3]
   rw[h4,hc]at h2;obtain⟨z,h5,h6,_⟩:=DataW.trod_int he h2;refine⟨z,?_,by simp[h4,h6]⟩;have h7:=congrArg (·[0]?) h5;simpa [List.getElem?_take,List.getElem?_drop]using h7
  ·cases h
theorem HX {P:Program} {W:World} {l:List (String×DataW Unit)} {name:String} {g:Nat} {t e:TypeId} {n:Nat} {k:IntKind} {zs:List Int}
 (hl:laidMet P l W) (hm:(name,DataW.agg (zs.map fun z=>.lit (.int k z)))∈l) (hg:P.globalNamed name=some g) (ht:(P.globals[g]?).map (·.type)=some t)
 (ha:P.underlying t=some (.array n e)) (he:P.underlying e=some (.int k)) (hc:P.cellsOf e=1) (hn:0<n) (hct:P.cellsOf t=n):
 (g<W.heap.size∧∀cs,D.agg (zs.map fun z=>.int k z)=.agg cs→∃cur e fz,W.heap[g]?=some (.cells cur e fz)∧cur.size=cs.length)∧∃x',aH W (fun _=>False) (.agg (zs.map fun z=>.int k z)) x'∧∀(i:Nat) (c:Value),x'.cells[i]?=some c→W.cell? ⟨g,i,none⟩=some c:=by
 obtain⟨ps,hv,_⟩:=hl;obtain⟨g',t',cs,fuel,p,h1,h2,h3,h4⟩:=HW hv hm;obtain rfl:=Option.some.inj (hg.symm.trans h1);obtain rfl:=Option.some.inj (ht.symm.trans h2);obtain⟨Vv,h5,h6⟩:=Rp ha he hc h4;rw[hct]at Vv;simp at h5;have h7:∀i z,zs[i]?=some z→W.cell? ⟨g,i,none⟩=some (.int k z):=by
  intro i z hz;have hi:i<n:=by
   have:=(List.getElem?_eq_some_iff.1 hz).1;omega
  obtain⟨z',h8,h9⟩:=h6 i hi;simp[hz]at h9;subst h9;rw[World.var?_cell hg h3 i];simpa using h8
 refine⟨⟨?_,?_⟩,.agg (zs.map fun z=>Value.int k z).toArray,?_,?_⟩
 ·have hz:∃z,zs[0]?=some z:=⟨zs[0]'(by omega),by simp[show 0<zs.length by omega]⟩
  obtain⟨z,hz⟩:=hz;exact (Aj (h7 0 z hz)).1
 ·rintro lq alJ;obtain rfl:=D.agg.inj alJ;unfold World.var? at h3;rw[hg]at h3;simp only[Option.bind_some]at h3;split at h3
  ·rename_i cur e' fz hh;cases h3;exact⟨_,_,_,hh,by simp at h5 Vv⊢;omega⟩
  ·cases h3
 ·refine aH.ni (by simp) (fun v hv=>?_) (fun i c v dN hv=>?_)
  ·simp at hv;obtain⟨z,_,rfl⟩:=hv;rfl
  ·simp only[List.getElem?_map,Option.map_eq_some_iff]at dN hv;obtain⟨z,hz,rfl⟩:=dN;obtain⟨z',qz,rfl⟩:=hv;rw[hz]at qz;cases qz;exact .int k z
 ·intro i c hi;simp[Value.cells]at hi;obtain⟨z,hz,rfl⟩:=hi;exact h7 i z hz
end Go.Am
end
section
namespace Go.Am
open Go
variable {H:Type} {enc:TypeId×Value→H}
theorem NR {a:Assume} {C:Checked} {os:Os} {f:FuncId} {fn:Func} {s:OpenSpec} {k:(H:Type)→List (DataW H)→Bool} (hk:s.cond=some k) {conds:List PathCond} {apart fresh handsOn again:Bool} {X:World→Array Value→Prop} {F:Stop.Interp}
 (hX:∀(w w':World) (args:Array Value),w.heap=w'.heap→X w args→X w' args)
 (own:ownKnob C.prog.godebug=none) (started:os.Started) (acx:C.prog.inits.idxOf? f=none) (Ok:C.prog.funcs[f]?=some fn)
 (witness:∃(w:World) (tape:Tape) (i:Input),w.os=os∧(w.forCall tape i).Shaped C.prog∧i.vars=[]∧Input.okWide C.prog (w.forCall tape i) .any w.heap.size f i∧
  ((s.pre enc C.prog fn conds apart (w.forCall tape i).memory i.args∧X (w.forCall tape i).memory i.args)∧sizedMet enc C.prog fn s apart (w.forCall tape i).memory i.args)∧a.holds C.prog (lone (Frame.enter C.prog f i.args .normal) [] (w.forCall tape i)))
 (T9:∀(W:World) (base:Nat) (args:Array Value) (ds gs:List (DataW H)) (before:List MemPlace),
  (∀(j:Nat) t v,fn.params[j]?=some t→args[j]?=some v→Value.okWide C.prog W .any base t v)→
  DataW.Whole enc C.prog fn.params.toList s.vars apart W args.toList ds gs before→k H (ds++gs)=true→X W args→W.ShapedOpen C.prog→
  Calls C.prog f args W fun e W'=>∃v,e=.returned v∧(s.at F).post enc C.prog fn apart fresh handsOn again W args v W'):
 ReturnsInHanded a C os f .any (fun w args=>(s.pre enc C.prog fn conds apart w args∧X w args)∧sizedMet enc C.prog fn s apart w args) ((s.at F).post enc C.prog fn apart fresh handsOn again):=by
 refine returnsInHanded_of_calls own started acx witness ?_;intro w tape i _ pU _ dt jM _;obtain⟨_,_,_,fn',alK,_,_,_,_,cB⟩:=dt;have e:fn'=fn:=Option.some.inj (alK.symm.trans Ok);subst e;obtain⟨⟨hp,hx⟩,hz⟩:=jM;obtain⟨ds,gs,before,hw,hc,nw⟩:=(OpenSpec.pre_some hk conds apart _ _).1 hp;have qw:=DataW.Whole.of_heap (w':=w.forCall tape i) (by rfl) hw;refine (T9 (w.forCall tape i) w.heap.size i.args ds gs before cB qw nw (hX _ _ _ (by rfl) hx) pU).mono fun e W' ⟨v,he,hp⟩=>?_;subst he;exact ChangeSpec.post_blind hp
theorem Cc {C:Checked} {os:Os} {f:FuncId} {fn:Func} {s:OpenSpec} {k:(H:Type)→List (DataW H)→Bool} (hk:s.cond=some k) {conds:List PathCond} {apart:Bool} {X:World→Array Value→Prop} (modest:Bool) (w0:World) (args:Array Value) (fuel:Nat) (pK:w0.os=os)
 (pU:(w0.forCall (fun _ _=>0) ⟨#[],args,[]⟩).Shaped C.prog)
 (dt:Input.okWideB C.prog (w0.forCall (fun _ _=>0) ⟨#[],args,[]⟩) f ⟨#[],args,[]⟩=true)
 {x:List (DataW H)×List (DataW H)×List MemPlace} (hx:DataW.whole enc C.prog (w0.forCall (fun _ _=>0) ⟨#[],args,[]⟩).memory fn.params.toList s.vars apart args.toList fuel=some x)
 (eP:conds.all (PathCond.test C.prog ⟨fn.params.toList,x.1,s.bare.plain.varTypes C.prog,x.2.1⟩)=true) (nw:k H (x.1++x.2.1)=true)
 (bN:s.bare.sizedB enc C.prog fn apart (w0.forCall (fun _ _=>0) ⟨#[],args,[]⟩).memory args fuel=true)
 (hX:X (w0.forCall (fun _ _=>0) ⟨#[],args,[]⟩).memory args):
 ∃(w:World) (tape:Tape) (i:Input),w.os=os∧(w.forCall tape i).Shaped C.prog∧i.vars=[]∧Input.okWide C.prog (w.forCall tape i) .any w.heap.size f i∧
  ((s.pre enc C.prog fn conds apart (w.forCall tape i).memory i.args∧X (w.forCall tape i).memory i.args)∧sizedMet enc C.prog fn s apart (w.forCall tape i).memory i.args)∧({modest:=modest}:Assume).holds C.prog (lone (Frame.enter C.prog f i.args .normal) [] (w.forCall tape i)):=
 ⟨w0,fun _ _=>0,⟨#[],args,[]⟩,pK,pU,(Input.okWide_of_okWideB (base:=0) dt).1,(Input.okWide_of_okWideB dt).2,
  ⟨⟨(OpenSpec.pre_some hk conds apart _ _).2 ⟨x.1,x.2.1,x.2.2,DataW.Whole_of_whole hx,eP,nw⟩,hX⟩,sizedMet_of_sizedB bN⟩,by
  simp only[Assume.holds];exact⟨by simp,by simp,fun _=>Modest.zero,by simp,by simp⟩⟩
def Rq {H:Type} (enc:TypeId×Value→H) (P:Program) (s:OpenSpec) (k:(H:Type)→List (DataW H)→Bool) (conds:List PathCond) (apart:Bool) (w:World) (ts:List TypeId) (args:List Value) (fuel:Nat):Bool:=
 match DataW.whole enc P w ts s.vars apart args fuel with
 |some x=>conds.all (PathCond.test P ⟨ts,x.1,s.bare.plain.varTypes P,x.2.1⟩)&&k H (x.1++x.2.1)
 |none=>false
theorem Cd {C:Checked} {os:Os} {f:FuncId} {fn:Func} {s:OpenSpec} {k:(H:Type)→List (DataW H)→Bool} (hk:s.cond=some k) {conds:List PathCond} {apart:Bool} {X:World→Array Value→Prop} (modest:Bool) (w0:World) (args:Array Value) (fuel:Nat) (pK:w0.os=os)
 (pU:(w0.forCall (fun _ _=>0) ⟨#[],args,[]⟩).Shaped C.prog)
 (dt:Input.okWideB C.prog (w0.forCall (fun _ _=>0) ⟨#[],args,[]⟩) f ⟨#[],args,[]⟩=true)
 (hx:Rq enc C.prog s k conds apart (w0.forCall (fun _ _=>0) ⟨#[],args,[]⟩).memory fn.params.toList args.toList fuel=true)
 (bN:s.bare.sizedB enc C.prog fn apart (w0.forCall (fun _ _=>0) ⟨#[],args,[]⟩).memory args fuel=true)
 (hX:X (w0.forCall (fun _ _=>0) ⟨#[],args,[]⟩).memory args):
 ∃(w:World) (tape:Tape) (i:Input),w.os=os∧(w.forCall tape i).Shaped C.prog∧i.vars=[]∧Input.okWide C.prog (w.forCall tape i) .any w.heap.size f i∧
  ((s.pre enc C.prog fn conds apart (w.forCall tape i).memory i.args∧X (w.forCall tape i).memory i.args)∧sizedMet enc C.prog fn s apart (w.forCall tape i).memory i.args)∧({modest:=modest}:Assume).holds C.prog (lone (Frame.enter C.prog f i.args .normal) [] (w.forCall tape i)):=by
 unfold Rq at hx;split at hx
 ·rename_i x hw;simp only[Bool.and_eq_true]at hx;exact Cc hk modest w0 args fuel pK pU dt hw hx.1 hx.2 bN hX
 ·cases hx
end Go.Am
end
