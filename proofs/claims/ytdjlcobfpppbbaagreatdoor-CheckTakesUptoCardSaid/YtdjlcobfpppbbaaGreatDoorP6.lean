/-
  Texts of one proof, one behind the other.
-/
import Derived.Test.YtdjlcobfpppbbaaGreatDoorP5
set_option linter.all false
section
namespace Go.Am
open Go
def jV (n:Nat) (x:aq):aq:=if x.op=9∨x.op=10 then {x with a:=if 0≤x.a then x.a+n else 0} else x
def cH (n:Nat) (l:List aq):List aq:=l.map (jV n)
theorem EA {n:Nat} {a:Int} (h:0≤a):jV n (ins 9 a 0 0 0)=ins 9 (a+n) 0 0 0:=by simp[jV,ins,h]
theorem xN {n:Nat} {a:Int} (h:0≤a):jV n (ins 10 a 0 0 0)=ins 10 (a+n) 0 0 0:=by simp[jV,ins,h]
@[simp] theorem mm (n:Nat) (l:List aq):(cH n l).length=l.length:=by simp[cH]
theorem pn (n:Nat) (a b:List aq):cH n (a++b)=cH n a++cH n b:=by simp[cH]
@[simp] theorem uv (n:Nat):cH n []=[]:=rfl
theorem ng (n:Nat) (x:aq) (l:List aq):cH n (x::l)=jV n x::cH n l:=rfl
theorem aa1 (n k:Nat) (x:aq):jV n (kR k x)=jV (n+k) x:=by
 obtain⟨op,a,b,c,d⟩:=x;unfold jV kR;by_cases h:op=9∨op=10
 ·by_cases h0:0≤a
  ·simp only[h,h0,and_self,if_true,aq.mk.injEq,true_and,and_true];rw[if_pos (by omega)];omega
  ·simp only[h,h0,and_false,if_false,if_true]
 ·simp only[h,false_and,if_false]
theorem xO (n k:Nat) (l:List aq):cH n (ic k l)=cH (n+k) l:=by
 unfold cH ic;rw[List.map_map];congr 1;funext x;exact aa1 n k x
theorem GZ (n:Nat) (a b:List aq):cH n (jn a b)=cH n a++cH (n+a.length) b:=by rw[jn,pn,xO]
def Flat (l:List aq):Prop:=∀x∈l,x.op≠9∧x.op≠10
theorem Flat.cH {l:List aq} (h:Flat l) (n:Nat):Am.cH n l=l:=by
 unfold Am.cH;conv=>rhs;rw[←List.map_id l]
 refine List.map_congr_left fun x hx=>?_;have:=h x hx;simp[jV,this.1,this.2]
theorem Flat.app {a b:List aq} (ha:Flat a) (hb:Flat b):Flat (a++b):=fun x hx=>(List.mem_append.1 hx).elim (ha x) (hb x)
theorem Flat.nil:Flat []:=fun _ h=>by simp at h
theorem Flat.one {x:aq} (h:x.op≠9∧x.op≠10):Flat [x]:=fun y hy=>by simp at hy;subst hy;exact h
theorem Flat.cons {x:aq} {l:List aq} (h:x.op≠9∧x.op≠10) (hl:Flat l):Flat (x::l):=fun y hy=>by
 rcases List.mem_cons.1 hy with rfl|hy
 ·exact h
 ·exact hl y hy
def cD (k:Int):Nat→List aq→List Int
 |_,[]=>[]
 |n,x::r=>if x.op=9∧x.a=k then (n:Int)::cD k (n+1) r else cD k (n+1) r
theorem jk (k:Int):∀(a b:List aq) (n:Nat),cD k n (a++b)=cD k n a++cD k (n+a.length) b
 |[],b,n=>by simp[cD]
 |x::a,b,n=>by
  simp only[List.cons_append,cD,jk k a b (n+1),List.length_cons];rw[show n+1+a.length=n+(a.length+1) by omega];split<;>simp
theorem po {k:Int} {l:List aq} (h:Flat l) (n:Nat):cD k n l=[]:=by
 induction l generalizing n with
 |nil=>rfl
 |cons x r ih=>
  simp only[cD];rw[if_neg (fun hh=>(h x (by simp)).1 hh.1)];exact ih (fun y hy=>h y (by simp[hy])) _
theorem G2 {k:Int} {f:aq→aq} (h:∀x,((f x).op=9∧(f x).a=k)↔(x.op=9∧x.a=k)):∀(l:List aq) (n:Nat),cD k n (l.map f)=cD k n l
 |[],n=>rfl
 |x::r,n=>by
  simp only[List.map_cons,cD,G2 h r];by_cases hx:x.op=9∧x.a=k
  ·rw[if_pos hx,if_pos ((h x).2 hx)]
  ·rw[if_neg hx,if_neg (fun hh=>hx ((h x).1 hh))]
theorem EB {k:Int} (hk:k<0) (j:Nat) (l:List aq) (n:Nat):cD k n (ic j l)=cD k n l:=by
 refine G2 (fun x=>?_) l n;unfold kR;split
 ·rename_i h;simp only;omega
 ·exact Iff.rfl
theorem EC {k:Int} (hk:k<0) (a b:List aq) (n:Nat):cD k n (jn a b)=cD k n a++cD k (n+a.length) b:=by rw[jn,jk,EB hk]
def kI (k to:Int) (x:aq):aq:=if x.op=9∧x.a=k then {x with a:=to} else x
theorem aa2 {k to:Int} (h:to≠k):∀(l:List aq) (n:Nat),cD k n (l.map (kI k to))=[]
 |[],n=>rfl
 |x::r,n=>by
  simp only[List.map_cons,cD,aa2 h r];rw[if_neg];unfold kI;split
  ·rintro ⟨_,hh⟩;exact h hh
  ·assumption
theorem Nw {k k2 to:Int} (h1:to≠k2) (h2:k≠k2) (l:List aq) (n:Nat):cD k2 n (l.map (kI k to))=cD k2 n l:=by
 refine G2 (fun x=>?_) l n;unfold kI;split
 ·rename_i h;simp only
  constructor
  ·rintro ⟨_,hh⟩;exact absurd hh h1
  ·rintro ⟨_,hh⟩;exact absurd (h.2.symm.trans hh) h2
 ·exact Iff.rfl
def setAt (l:List aq) (i:Int) (v:Int):List aq:=l.modify i.toNat fun x=>{x with a:=v}
def jl (l:List aq) (ps:List Int) (v:Int):List aq:=ps.foldl (fun l i=>setAt l i v) l
@[simp] theorem QB (l:List aq) (i v:Int):(setAt l i v).length=l.length:=by simp[setAt]
@[simp] theorem BP:∀(ps:List Int) (l:List aq) (v:Int),(jl l ps v).length=l.length
 |[],l,v=>rfl
 |i::r,l,v=>by
  show (jl (setAt l i v) r v).length=_;rw[BP r];simp
theorem qf (pre:List aq) (x:aq) (post:List aq) (v:Int):setAt (pre++x::post) pre.length v=pre++{x with a:=v}::post:=by
 unfold setAt;rw[Int.toNat_natCast];induction pre with
 |nil=>rfl
 |cons y r ih=>simp only[List.cons_append,List.length_cons,List.modify_succ_cons,ih]
theorem pI (l:List aq) (i:Int) (r:List Int) (v:Int):jl l (i::r) v=jl (setAt l i v) r v:=rfl
theorem afk {n:Nat} {k to:Int} {x:aq} (h:x.op=9∧x.a=k) (ht:0≤to) (hk:k<0):({jV n x with a:=to+n}:aq)=jV n (kI k to x):=by
 obtain⟨op,a,b,c,d⟩:=x;obtain⟨rfl,rfl⟩:=h;simp[jV,kI,ht]
theorem qg {k to:Int} (hk:k<0) (ht:0≤to) (base:Nat):∀(l pre post:List aq) (n:Nat),pre.length=n→jl (pre++cH base l++post) (cD k n l) (to+base)=pre++cH base (l.map (kI k to))++post
 |[],pre,post,n,h=>by simp[cD,jl]
 |x::r,pre,post,n,h=>by
  have ih:=qg hk ht base r;simp only[cD,List.map_cons,ng];split
  ·rename_i hx;rw[pI];have e:pre++jV base x::cH base r++post=pre++jV base x::(cH base r++post):=by simp
   rw[e,←h,qf,afk hx ht hk];have:=ih (pre++[jV base (kI k to x)]) post (pre.length+1) (by simp);simpa using this
  ·rename_i hx;have e2:kI k to x=x:=by unfold kI;rw[if_neg hx]
   rw[e2];have:=ih (pre++[jV base x]) post (n+1) (by simp[h]);simpa using this
def jJ (E:Int):Nat→List (List aq)→List (List aq)→List aq
 |_,_,[]=>[]
 |n,[],b::r=>if r=[]then cH n b else cH n b++ins 9 E 0 0 0::jJ E (n+b.length+1) [] r
 |n,t::ts,b::r=>
  if r=[]then t++ins 10 (n+t.length+1+b.length) 0 0 0::cH (n+t.length+1) b
  else t++ins 10 (n+t.length+2+b.length) 0 0 0::(cH (n+t.length+1) b++ins 9 E 0 0 0::jJ E (n+t.length+2+b.length) ts r)
theorem uw (E:Int):∀(n:Nat) (ts bs:List (List aq)),(jJ E n ts bs).length=(cy ts bs).length
 |_,_,[]=>by simp[jJ,cy]
 |n,[],b::r=>by
  simp only[jJ,cy];split
  ·simp
  ·simp[uw E _ [] r,dL];omega
 |n,t::ts,b::r=>by
  simp only[jJ,cy];split
  ·rename_i h;subst h;simp[dL,cy]
  ·simp[uw E _ ts r,dL];omega
theorem G3:∀(n:Nat) (ts bs:List (List aq)),(∀t∈ts,Flat t)→∀E:Int,E=n+(cy ts bs).length→jJ E n ts bs=cH n (cy ts bs)
 |n,_,[],_,_,_=>by simp[jJ,cy]
 |n,[],b::r,_,E,hE=>by
  simp only[jJ,cy]at hE⊢;split
  ·rfl
  ·rename_i h;rw[if_neg h]at hE;rw[GZ,pn];have e:E=((n+b.length+1:Nat):Int)+(cy [] r).length:=by rw[hE];simp[dL];omega
   rw[G3 (n+b.length+1) [] r (by simp) E e];have e3:jV n (ins 9 (b.length+1+(cy [] r).length) 0 0 0)=ins 9 E 0 0 0:=by
    rw[EA (by omega)];congr 1;omega
   have e2:cH n [ins 9 (b.length+1+(cy [] r).length) 0 0 0]=[ins 9 E 0 0 0]:=by rw[ng,e3];rfl
   rw[e2];simp[Nat.add_assoc]
 |n,t::ts,b::r,hf,E,hE=>by
  have VC:Flat t:=hf t (by simp);simp only[jJ,cy]at hE⊢;rw[GZ];by_cases h:r=[]
  ·subst h;simp only[if_true,pn,xO,VC.cH,cy,uv,List.append_nil,ng];have e:jV n (ins 10 (t.length+1+b.length) 0 0 0)=ins 10 (n+t.length+1+b.length) 0 0 0:=by
    rw[xN (by omega)];congr 1;omega
   rw[e];simp[Nat.add_assoc]
  ·simp only[if_neg h]at hE⊢;have e:E=((n+t.length+2+b.length:Nat):Int)+(cy ts r).length:=by rw[hE];simp[dL];omega
   rw[G3 (n+t.length+2+b.length) ts r (fun t ht=>hf t (by simp[ht])) E e];simp only[pn,xO,VC.cH,ng,uv,List.length_append,List.length_cons,List.length_nil,kV];have e1:jV n (ins 10 (t.length+1+(b.length+(0+1):Nat)) 0 0 0)=ins 10 (n+t.length+2+b.length) 0 0 0:=by
    rw[xN (by omega)];congr 1;omega
   have e2:jV (n+(t.length+1)) (ins 9 (b.length+1+(cy ts r).length) 0 0 0)=ins 9 E 0 0 0:=by
    rw[EA (by omega)];congr 1;omega
   rw[e1,e2,show n+(t.length+(0+1)+(b.length+(0+1)))=n+t.length+2+b.length by omega];simp[Nat.add_assoc]
theorem alz {k to:Int} (hk:k<0) (ht:0≤to) (j:Nat) (x:aq):kI k (to+j) (kR j x)=kR j (kI k to x):=by
 obtain⟨op,a,b,c,d⟩:=x;unfold kI kR;by_cases h:op=9∧a=k
 ·obtain⟨rfl,rfl⟩:=h;have h0:¬0≤a:=by omega
  simp[h0,ht]
 ·by_cases h2:(op=9∨op=10)∧0≤a
  ·have:¬(op=9∧a+(j:Int)=k):=by omega
   simp[h,h2,this]
  ·simp[h,h2]
theorem VD {k to:Int} (hk:k<0) (ht:0≤to) (j:Nat) (l:List aq):(ic j l).map (kI k (to+j))=ic j (l.map (kI k to)):=by
 unfold ic;rw[List.map_map,List.map_map];congr 1;funext x;exact alz hk ht j x
theorem QC {l:List aq} (h:Flat l) (k to:Int):l.map (kI k to)=l:=by
 conv=>rhs;rw[←List.map_id l]
 refine List.map_congr_left fun x hx=>?_;have:=h x hx;simp[kI,this.1]
theorem sP {k to:Int} {x:aq} (h:x.op=9→x.a≠k):kI k to x=x:=by
 unfold kI;rw[if_neg];exact fun hh=>h hh.1 hh.2
theorem rh (l:List aq):nc l=l.map (kI (-1) l.length):=rfl
theorem Aq {n:Nat} {x:aq} (h:x.op≠9∧x.op≠10):jV n x=x:=by simp[jV,h.1,h.2]
theorem Nx {out t b:List aq} (ht:Flat t) {n:Nat} (hn:out.length=n) {H:Int} (hH:H=n+t.length+3+b.length):
 jl (out++(ins 11 0 0 0 0::t++(ins 10 H 0 0 0::cH (n+t.length+2) b++[ins 9 n 0 0 0]))) (cD (-1) (n+t.length+2) b) H=out++cH n (iv t b):=by
 have h1:=qg (k:= -1) (to:=b.length+1) (by decide) (by omega) (n+t.length+2) b (out++(ins 11 0 0 0 0::t++[ins 10 H 0 0 0])) [ins 9 n 0 0 0] (n+t.length+2) (by simp;omega);have e0:((b.length:Int)+1)+((n+t.length+2:Nat):Int)=H:=by rw[hH];omega
 rw[e0]at h1;have e1:out++(ins 11 0 0 0 0::t++(ins 10 H 0 0 0::cH (n+t.length+2) b++[ins 9 n 0 0 0]))=out++(ins 11 0 0 0 0::t++[ins 10 H 0 0 0])++cH (n+t.length+2) b++[ins 9 n 0 0 0]:=by simp
 rw[e1,h1];unfold iv;rw[rh];have hl:((ins 11 0 0 0 0::t++[ins 10 (t.length+3+b.length) 0 0 0]++ic (t.length+2) b++[ins 9 0 0 0 0]).length:Int)=((b.length:Int)+1)+((t.length+2:Nat):Int):=by simp;omega
 rw[hl];simp only[List.map_append,List.map_cons,List.map_nil,QC ht,VD (show (-1:Int)<0 by decide) (show 0≤(b.length:Int)+1 by omega),pn,ng,uv,ht.cH,xO];rw[sP (by simp[ins]),sP (by simp[ins]),sP (by simp[ins]),Aq (by simp[ins]),xN (by omega),EA (by omega)];have e2:ins 10 (t.length+3+b.length+n) 0 0 0=ins 10 H 0 0 0:=by congr 1;omega
 rw[e2,show n+(t.length+2)=n+t.length+2 by omega];simp
theorem QD {k:Int} (hk:k<0) (gu:k≠ -1) {t b:List aq} (ht:Flat t) (n:Nat):cD k n (iv t b)=cD k (n+t.length+2) b:=by
 unfold iv;rw[rh,Nw (by omega) (by omega)];have e0:ins 11 0 0 0 0::t++[ins 10 (t.length+3+b.length) 0 0 0]++ic (t.length+2) b++[ins 9 0 0 0 0]=[ins 11 0 0 0 0]++(t++([ins 10 (t.length+3+b.length) 0 0 0]++(ic (t.length+2) b++[ins 9 0 0 0 0]))):=by simp
 rw[e0,jk];rw[po (Flat.one (by simp[ins])),jk,po ht,jk,jk,EB hk];have e:∀m,cD k m [ins 10 (t.length+3+b.length) 0 0 0]=[]:=fun m=>by simp[cD,ins]
 have e2:∀m,cD k m [ins 9 0 0 0 0]=[]:=fun m=>by simp[cD,ins];omega
 rw[e,e2];simp only[List.nil_append,List.append_nil,List.length_cons,List.length_nil];congr 1;omega
theorem G4 (l:List aq) (n:Nat):cD (-1) n (nc l)=[]:=aa2 (by omega) l n
theorem Tw {out t b:List aq} (ht:Flat t) {n:Nat} (hn:out.length=n) {H:Int} (hH:H=n+b.length+t.length+2):
 jl (out++(cH n b++(ins 11 0 0 0 0::t++[ins 10 n 0 0 0]))) (cD (-1) n b) H=out++cH n (lZ t b):=by
 have h1:=qg (k:= -1) (to:=b.length+t.length+2) (by decide) (by omega) n b out (ins 11 0 0 0 0::t++[ins 10 n 0 0 0]) n hn;have e0:((b.length:Int)+t.length+2)+(n:Int)=H:=by rw[hH];omega
 rw[e0]at h1;rw[←List.append_assoc,h1];unfold lZ;rw[rh];have hl:((b++ins 11 0 0 0 0::t++[ins 10 0 0 0 0]).length:Int)=(b.length:Int)+t.length+2:=by simp;omega
 rw[hl];simp only[List.map_append,List.map_cons,List.map_nil,QC ht,pn,ng,uv,ht.cH];rw[sP (by simp[ins]),sP (by simp[ins]),Aq (by simp[ins]),xN (by omega)];simp
theorem Wu {k:Int} (hk:k<0) (gu:k≠ -1) {t b:List aq} (ht:Flat t) (n:Nat):cD k n (lZ t b)=cD k n b:=by
 unfold lZ;rw[rh,Nw (by omega) (by omega)];have e0:b++ins 11 0 0 0 0::t++[ins 10 0 0 0 0]=b++([ins 11 0 0 0 0]++(t++[ins 10 0 0 0 0])):=by simp
 rw[e0,jk,jk];rw[po (Flat.one (by simp[ins])),jk,po ht];have e:∀m,cD k m [ins 10 0 0 0 0]=[]:=fun m=>by simp[cD,ins]
 rw[e];simp
theorem Ty {out b:List aq} {at_ cell:Int} {n:Nat} (hn:out.length=n) {H:Int} (hH:H=n+b.length+8):
 jl (out++(ins 11 0 0 0 0::ins 13 at_ cell 0 0::ins 10 H 0 0 0::cH (n+3) b++[ins 2 at_ 0 0 0,ins 2 (cell+1) 0 0 0,ins 8 0 8 0 0,ins 6 at_ 0 0 0,ins 9 n 0 0 0])) (cD (-1) (n+3) b) H=out++cH n (kK at_ cell b):=by
 have h1:=qg (k:= -1) (to:=b.length+5) (by decide) (by omega) (n+3) b (out++[ins 11 0 0 0 0,ins 13 at_ cell 0 0,ins 10 H 0 0 0]) [ins 2 at_ 0 0 0,ins 2 (cell+1) 0 0 0,ins 8 0 8 0 0,ins 6 at_ 0 0 0,ins 9 n 0 0 0] (n+3) (by simp[hn]);have e0:((b.length:Int)+5)+((n+3:Nat):Int)=H:=by rw[hH];omega
 rw[e0]at h1;have e1:out++(ins 11 0 0 0 0::ins 13 at_ cell 0 0::ins 10 H 0 0 0::cH (n+3) b++[ins 2 at_ 0 0 0,ins 2 (cell+1) 0 0 0,ins 8 0 8 0 0,ins 6 at_ 0 0 0,ins 9 n 0 0 0])=out++[ins 11 0 0 0 0,ins 13 at_ cell 0 0,ins 10 H 0 0 0]++cH (n+3) b++[ins 2 at_ 0 0 0,ins 2 (cell+1) 0 0 0,ins 8 0 8 0 0,ins 6 at_ 0 0 0,ins 9 n 0 0 0]:=by simp
 rw[e1,h1];unfold kK;rw[rh];have hl:(([ins 11 0 0 0 0,ins 13 at_ cell 0 0,ins 10 (b.length+8) 0 0 0]++ic 3 b++[ins 2 at_ 0 0 0,ins 2 (cell+1) 0 0 0,ins 8 0 8 0 0,ins 6 at_ 0 0 0,ins 9 0 0 0 0]).length:Int)=((b.length:Int)+5)+((3:Nat):Int):=by simp;omega
 rw[hl];simp only[List.map_append,List.map_cons,List.map_nil,VD (show (-1:Int)<0 by decide) (show 0≤(b.length:Int)+5 by omega),pn,ng,uv,xO];have e3:∀x:aq,(x.op≠9∧x.op≠10)→∀to,jV n (kI (-1) to x)=x:=fun x h to=>by rw[sP (fun hh=>absurd hh h.1),Aq h]
 have e4:kI (-1) (b.length+5+((3:Nat):Int)) (ins 10 (b.length+8) 0 0 0)=ins 10 (b.length+8) 0 0 0:=sP (by simp[ins]);have e5:kI (-1) (b.length+5+((3:Nat):Int)) (ins 9 0 0 0 0)=ins 9 0 0 0 0:=sP (by simp[ins]);rw[e4,e5,e3 _ (by simp[ins]),e3 (ins 13 at_ cell 0 0) (by simp[ins]),e3 (ins 2 at_ 0 0 0) (by simp[ins]),e3 (ins 2 (cell+1) 0 0 0) (by simp[ins]),e3 (ins 8 0 8 0 0) (by simp[ins]),e3 (ins 6 at_ 0 0 0) (by simp[ins]),xN (by omega),EA (by omega)];have e2:ins 10 (b.length+8+n) 0 0 0=ins 10 H 0 0 0:=by congr 1;omega
 rw[e2];simp
theorem Wv {k:Int} (hk:k<0) (gu:k≠ -1) {b:List aq} {at_ cell:Int} (n:Nat):cD k n (kK at_ cell b)=cD k (n+3) b:=by
 unfold kK;rw[rh,Nw (by omega) (by omega)];rw[jk,jk,EB hk];have e:∀m,cD k m [ins 11 0 0 0 0,ins 13 at_ cell 0 0,ins 10 (b.length+8) 0 0 0]=[]:=fun m=>by simp[cD,ins]
 have e2:∀m,cD k m [ins 2 at_ 0 0 0,ins 2 (cell+1) 0 0 0,ins 8 0 8 0 0,ins 6 at_ 0 0 0,ins 9 0 0 0 0]=[]:=fun m=>by simp[cD,ins];omega
 rw[e,e2];simp
def fC:Nat→List (List aq)→List (List aq)→List Int
 |_,_,[]=>[]
 |n,[],b::r=>if r=[]then []else ((n+b.length:Nat):Int)::fC (n+b.length+1) [] r
 |n,t::ts,b::r=>if r=[]then []else ((n+t.length+1+b.length:Nat):Int)::fC (n+t.length+2+b.length) ts r
def sQ (k:Int):Nat→List (List aq)→List (List aq)→List Int
 |_,_,[]=>[]
 |n,[],b::r=>cD k n b++(if r=[]then []else sQ k (n+b.length+1) [] r)
 |n,t::ts,b::r=>cD k (n+t.length+1) b++(if r=[]then []else sQ k (n+t.length+2+b.length) ts r)
theorem CI (E:Int):∀(n:Nat) (ts bs:List (List aq)) (pre:List aq),pre.length=n→jl (pre++jJ 0 n ts bs) (fC n ts bs) E=pre++jJ E n ts bs
 |n,_,[],pre,hn=>by simp[jJ,fC,jl]
 |n,[],b::r,pre,hn=>by
  simp only[jJ,fC];split
  ·rfl
  ·rw[pI];have e1:pre++(cH n b++ins 9 0 0 0 0::jJ 0 (n+b.length+1) [] r)=(pre++cH n b)++ins 9 0 0 0 0::jJ 0 (n+b.length+1) [] r:=by simp
   have e2:((n+b.length:Nat):Int)=((pre++cH n b).length:Int):=by simp;omega
   rw[e1,e2,qf];have ih:=CI E (n+b.length+1) [] r (pre++cH n b++[ins 9 E 0 0 0]) (by simp;omega);simp only[List.append_assoc,List.singleton_append]at ih⊢;exact ih
 |n,t::ts,b::r,pre,hn=>by
  simp only[jJ,fC];split
  ·rfl
  ·rw[pI];have e1:pre++(t++ins 10 (n+t.length+2+b.length) 0 0 0::(cH (n+t.length+1) b++ins 9 0 0 0 0::jJ 0 (n+t.length+2+b.length) ts r))=(pre++(t++ins 10 (n+t.length+2+b.length) 0 0 0::cH (n+t.length+1) b))++ins 9 0 0 0 0::jJ 0 (n+t.length+2+b.length) ts r:=by simp
   have e2:((n+t.length+1+b.length:Nat):Int)=((pre++(t++ins 10 (n+t.length+2+b.length) 0 0 0::cH (n+t.length+1) b)).length:Int):=by simp;omega
   rw[e1,e2,qf];have ih:=CI E (n+t.length+2+b.length) ts r (pre++(t++ins 10 (n+t.length+2+b.length) 0 0 0::cH (n+t.length+1) b)++[ins 9 E 0 0 0]) (by simp;omega);simp only[List.append_assoc,List.cons_append,List.singleton_append]at ih⊢;exact ih
theorem BQ {k:Int} (hk:k<0):∀(n:Nat) (ts bs:List (List aq)),(∀t∈ts,Flat t)→cD k n (cy ts bs)=sQ k n ts bs
 |n,_,[],_=>by simp[cy,sQ,cD]
 |n,[],b::r,hf=>by
  simp only[cy,sQ];split
  ·simp
  ·rw[EC hk,jk,BQ hk _ [] r (by simp)];have e:∀m,cD k m [ins 9 (b.length+1+(cy [] r).length) 0 0 0]=[]:=fun m=>by simp[cD,ins];omega
   rw[e];simp[Nat.add_assoc]
 |n,t::ts,b::r,hf=>by
  have VC:Flat t:=hf t (by simp);simp only[cy,sQ];rw[EC hk,jk,jk,po VC,EB hk,BQ hk _ ts r (fun t ht=>hf t (by simp[ht]))];have e:∀m a,cD k m [ins 10 a 0 0 0]=[]:=fun m a=>by simp[cD,ins]
  rw[e];by_cases h:r=[]
  ·subst h;simp[sQ,Nat.add_assoc]
  ·simp only[if_neg h,jk];have e2:∀m,cD k m [ins 9 (b.length+1+(cy ts r).length) 0 0 0]=[]:=fun m=>by simp[cD,ins];omega
   rw[e2];simp only[List.nil_append,List.append_nil,List.length_append,List.length_cons,List.length_nil,kV];rw[show n+(t.length+(0+1))=n+t.length+1 by omega,show n+(t.length+(0+1)+(b.length+(0+1)))=n+t.length+2+b.length by omega]
theorem Ww {pre:List aq} {n:Nat} (hn:pre.length=n) {ts bs:List (List aq)} (hf:∀t∈ts,Flat t):jl (pre++jJ 0 n ts bs) (fC n ts bs) (n+(cy ts bs).length)=pre++cH n (cy ts bs):=by
 rw[CI _ n ts bs pre hn,G3 n ts bs hf _ rfl]
def Rm (u:Bool) (a a':EL):Prop:=a.1=0→a'.1=if u=true then 9 else 0
theorem Rm.or {u1 u2:Bool} {a a' b b':EL} (h1:Rm u1 a a') (h2:Rm u2 b b'):Rm (u1||u2) (eX a b) (eX a' b'):=by
 intro h;unfold eX at h⊢;by_cases ha:a.1=0
 ·rw[if_neg (fun h=>h ha)]at h;have h1:=h1 ha;have h2:=h2 h;cases u1 with
  |true=>simp at h1;rw[if_pos (by rw[h1];decide),h1];simp
  |false=>simp at h1;rw[if_neg (fun h=>h h1)];simpa using h2
 ·rw[if_pos ha]at h;exact absurd h ha
theorem Rm.zero:Rm false (0,0) (0,0):=fun _=>rfl
theorem Rm.same {u:Bool} {a a':EL} (hu:u=false) (h:a'=a):Rm u a a':=by
 subst hu h;intro h;simpa using h
section
variable {vs UC:List Vr} {nm:Tx} (bE:nm≠[]) (hf:∀s,bf UC s=if s=nm then none else bf vs s)
include bE hf
end
section
variable {vs UC:List Vr} {nm:Tx} (bE:nm≠[]) (hf:∀s,bf UC s=if s=nm then none else bf vs s)
include bE hf
end
theorem nE {v:Vr} (h:du v=true):0≤bH v:=by
 simp only[du,Bool.and_eq_true]at h;obtain⟨_,_,h,_⟩:=h;unfold bH;split
 ·rename_i ha;rw[if_pos ha]at h;have:=of_decide_eq_true h;omega
 ·split<;>omega
def xP (k:Int):Nat:=(bq k).length
def sR (cells:Int) (x:aq):Prop:=1≤x.op∧x.op≤8∧cQ xP cells 0 0 x=true
theorem jm {cells a n:Int} (h1:0≤a) (h2:0≤n) (h3:a+n≤cells):fM cells a n=true:=by
 unfold fM;simp only[Bool.and_eq_true,decide_eq_true_eq];omega
theorem G5 {op n:Int} {name field:Tx} {sub:List Ex} {line:Int} (h:bk (.mk op n name field sub line)=true):1≤op∧op≤21:=by
 simp only[bk,Bool.and_eq_true,Bool.not_eq_true',decide_eq_false_iff_not]at h;have:=h.1;omega
section
variable {vs:List Vr} {cells:Int} (eh:∀v∈vs,du v=true) (hc:cf vs≤cells)
include eh hc
theorem nF:∀(x:Ex) (S:List Bool),bk x=true→(aC vs x).e=0→aJ S.length x≤64→
 (∃f,bW (ak vs x).1 S=some (S++[f])∧((aC vs x).t=2→f=true))∧(ak vs x).2=decide ((aC vs x).t=2)∧((aC vs x).t=1∨(aC vs x).t=2)∧∀y∈(ak vs x).1,sR cells y
 | .mk op n name field sub line,S,hf,he,ht=>by
  obtain⟨hlen,fq⟩:=yB hf;have cR:=G5 hf;have Ko:=CD hf he;have zp:∀v∈vs,0≤bH v:=fun v hv=>nE (eh v hv);have ih:∀y∈sub,∀S:List Bool,aJ S.length y≤64→_:=fun y hy S ht=>nF y S ((iU sub).1 fq y hy) (Ko y hy) ht;unfold aJ at ht;unfold ak;have mu:aC vs (.mk op n name field sub line)=aC vs (.mk op n name field sub line):=rfl;conv at mu=>rhs;unfold aC
  rw[mu]at he⊢;clear mu;by_cases kP:op=1∨op=2
  ·have hh:S.length<64:=by
    rw[if_pos (by omega)]at ht;omega
   simp only[if_pos kP];refine⟨⟨decide (n=0)||decide (n=1),?_,?_⟩,rfl,by simp[eN];exact kP,?_⟩
   ·simp[bW,bZ,ins,kr hh];rfl
   ·intro h2;have h2:op=2:=h2;subst h2;simp[bk]at hf;simp only[Bool.or_eq_true,decide_eq_true_eq];omega
   ·intro y hy;simp at hy;subst hy;simp[sR,ins,cQ]
  ·simp only[if_neg kP]at he⊢;by_cases rP:op=3∨op=4∨op=5
   ·simp only[if_pos rP]at he⊢;cases hv:bf vs name with
    |none=>rw[hv]at he;simp[cA]at he
    |some v=>
     rw[hv]at he;simp only at he⊢;have fg:=iG hv;have gv:=eh v (sJ hv).1;have aP:=sO zp hv;have zZ:=gv;simp only[du,Bool.and_eq_true]at zZ;by_cases h5:op=5
     ·subst h5;have hh:S.length<64:=by
       rw[if_pos (by omega)]at ht;omega
      simp only[if_pos]at he⊢;by_cases fL:v.ty≤2
      ·rw[if_pos fL]at he;simp[cA]at he
      ·rw[if_neg fL]at he⊢;cases hp:kG v.ty field with
       |none=>rw[hp]at he;simp[cA]at he
       |some p=>
        obtain⟨q1,q2,j,q3,q4⟩:=uu hv (by omega) hp;have hpt:=Qy q2;have mK:bH v=(bq v.ty).length:=by
         unfold bH;have eO:¬v.arr=true:=by
          intro ha;have h4:=zZ.2.2.1;rw[if_pos ha]at h4;have:=of_decide_eq_true h4;omega
         rw[if_neg eO,if_pos (by omega)]
        simp only[show ¬((5:Int)=3) by decide,if_false,q1];have qG:fM cells (iu vs name field).1 1=true:=jm (by rw[q3];omega) (by omega) (by rw[q3];omega);rcases hpt with e|e
        ·refine⟨⟨false,?_,fun h=>by simp[eN,e]at h⟩,decide_eq_decide.2 Iff.rfl,.inl e,?_⟩
         ·simp[bW,bZ,ins,e,kr hh]
         ·intro y hy;simp at hy;subst hy;simp[sR,ins,cQ,e,qG]
        ·refine⟨⟨true,?_,fun _=>rfl⟩,decide_eq_decide.2 Iff.rfl,.inr e,?_⟩
         ·simp[bW,bZ,ins,e,kr hh]
         ·intro y hy;simp at hy;subst hy;simp[sR,ins,cQ,e,qG]
     ·simp only[if_neg h5]at he⊢;by_cases DS:v.arr≠decide (op=4)∨2<v.ty
      ·rw[if_pos DS]at he;simp[cA]at he
      ·simp only[if_neg DS]at he⊢;have wI:v.arr=decide (op=4):=by
        cases hq:v.arr<;>cases hq2:decide (op=4)<;>simp_all
       have alA:¬2<v.ty:=fun h=>DS (.inr h);have htv:v.ty=1∨v.ty=2:=by
        rcases Kb gv with h|h
        ·exact h
        ·omega
       by_cases h4:op=4
       ·subst h4;simp only[if_pos,show ¬((4:Int)=3) by decide,if_false]at he⊢;obtain⟨z,rfl⟩:∃z,sub=[z]:=by
         match sub,hlen with
         |[z],_=>exact⟨z,rfl⟩
         |[],h=>simp[dE]at h
         |_::_::_,h=>simp[dE]at h
        rw[if_neg (by omega)]at ht;simp only[fF]at ht;obtain⟨⟨f,i1,_⟩,_,_,i4⟩:=ih z (by simp) S (by omega);have hze:=Ko z (by simp);have mu:ug vs v.ty [z]=eN v.ty:=by
         simp only[ug]at he⊢;rw[if_neg (by simpa using hze)]at he⊢;split at he
         ·simp[cA]at he
         ·rename_i hz;rw[if_neg hz]
        rw[mu];have eO:v.arr=true:=by simpa using wI
        have hb:=zZ.2.2.1;rw[if_pos eO]at hb;have hb:=of_decide_eq_true hb;have mK:bH v=v.hi-v.lo+1:=by unfold bH;rw[if_pos eO]
        have qG:fM cells (cd vs name).1 (v.hi-v.lo+1)=true:=jm (by omega) (by omega) (by omega);have hh:S.length<64:=by omega
        simp only[ou,fg];rcases htv with e|e
        ·refine⟨⟨false,?_,fun h=>by simp[eN,e]at h⟩,decide_eq_decide.2 Iff.rfl,.inl e,?_⟩
         ·rw[db,i1];simp[bW,bZ,ins,e,xM,kr hh]
         ·intro y hy;rcases List.mem_append.1 hy with hy|hy
          ·exact i4 y hy
          ·simp at hy;subst hy;simp[sR,ins,cQ,Ag,e,qG];omega
        ·refine⟨⟨true,?_,fun _=>rfl⟩,decide_eq_decide.2 Iff.rfl,.inr e,?_⟩
         ·rw[db,i1];simp[bW,bZ,ins,e,xM,kr hh]
         ·intro y hy;rcases List.mem_append.1 hy with hy|hy
          ·exact i4 y hy
          ·simp at hy;subst hy;simp[sR,ins,cQ,Ag,e,qG];omega
       ·have h3:op=3:=by omega
        subst h3;have hh:S.length<64:=by
         rw[if_pos (by omega)]at ht;omega
        simp only[if_pos,if_neg h4,fg]at he⊢;have eO:¬v.arr=true:=by simp[wI]
        have mK:bH v=1:=by unfold bH;rw[if_neg eO,if_neg (by omega)]
        have qG:fM cells (cd vs name).1 1=true:=jm (by omega) (by omega) (by omega);rcases htv with e|e
        ·refine⟨⟨false,?_,fun h=>by simp[eN,e]at h⟩,decide_eq_decide.2 Iff.rfl,.inl e,?_⟩
         ·simp[bW,bZ,ins,e,kr hh]
         ·intro y hy;simp at hy;subst hy;simp[sR,ins,cQ,e,qG]
        ·refine⟨⟨true,?_,fun _=>rfl⟩,decide_eq_decide.2 Iff.rfl,.inr e,?_⟩
         ·simp[bW,bZ,ins,e,kr hh]
         ·intro y hy;simp at hy;subst hy;simp[sR,ins,cQ,e,qG]
   ·have h3:¬op=3:=fun h=>rP (.inl h);have h4:¬op=4:=fun h=>rP (.inr (.inl h));have h5:¬op=5:=fun h=>rP (.inr (.inr h));simp only[if_neg rP,if_neg h3,if_neg h4,if_neg h5]at he⊢;rw[if_neg (by omega)]at ht;have hh:S.length<64:=by omega
    match sub,hlen,ih,he,ht with
    |[a],hlen,ih,he,ht=>
     have VE:op=6∨op=7:=by
      simp only[dE]at hlen;split at hlen
      ·omega
      ·split at hlen<;>simp at hlen
     simp only[fF]at ht;obtain⟨⟨f,i1,i2⟩,i3,i4,i5⟩:=ih a (by simp) S (by omega);obtain⟨_,_,q3,_,q5⟩:=gY he;simp only[qD]at he⊢;simp only[q5,ik];rcases VE with e|e
     ·subst e;have Bs:(aC vs a).t=1:=by rw[q3];rfl
      have hg:(ak vs a).2=false:=by rw[i3,Bs];rfl
      simp only[hg,Bool.false_eq_true,if_false,if_true];refine⟨⟨false,?_,fun h=>by simp[eN,gG]at h⟩,rfl,.inl rfl,?_⟩
      ·rw[db,i1];simp[bW,bZ,ins,xM,kr hh]
      ·intro y hy;rcases List.mem_append.1 hy with hy|hy
       ·exact i5 y hy
       ·simp at hy;subst hy;simp[sR,ins,cQ,qV]
     ·subst e;have Bs:(aC vs a).t=2:=by rw[q3];rfl
      have hg:(ak vs a).2=true:=by rw[i3,Bs];rfl
      obtain rfl:=i2 Bs;simp only[hg,Bool.false_eq_true,if_false,if_true];refine⟨⟨true,?_,fun _=>rfl⟩,rfl,.inr rfl,?_⟩
      ·rw[db,i1];simp[bW,bZ,ins,BO,kr hh]
      ·intro y hy;rcases List.mem_append.1 hy with hy|hy
       ·exact i5 y hy
       ·simp at hy;subst hy;simp[sR,ins,cQ,qV]
    |[a,b],hlen,ih,he,ht=>
     have h8:8≤op:=by
      simp only[dE]at hlen;split at hlen
      ·simp at hlen
      ·split at hlen
       ·omega
       ·simp at hlen
     simp only[fF]at ht;obtain⟨⟨f,i1,i2⟩,i3,i4,i5⟩:=ih a (by simp) S (by omega);have wD:((S++[f]).length:Int)=S.length+1:=by simp
     obtain⟨⟨g,j1,j2⟩,j3,j4,j5⟩:=ih b (by simp) (S++[f]) (by rw[wD];omega);obtain⟨_,_,q3,q4,q5⟩:=gY he;simp only[qD]at he⊢;simp only[q5,ik];have cZ:∀y∈(ak vs a).1++(ak vs b).1,sR cells y:=by
      intro y hy;rcases List.mem_append.1 hy with hy|hy
      ·exact i5 y hy
      ·exact j5 y hy
     have bB:bW ((ak vs a).1++(ak vs b).1) S=some (S++[f]++[g]):=by rw[db,i1];exact j1
     have Ny:(eN (gG op)).t=if op≤12 then 1 else 2:=by
      simp only[eN,gG];by_cases h:op≤12
      ·rw[if_pos (by omega),if_pos h]
      ·rw[if_neg (by omega),if_neg h]
     have aa3:decide (op=7∨12<op)=decide ((eN (gG op)).t=2):=by
      rw[Ny];by_cases h:op≤12
      ·rw[if_pos h];simp;omega
      ·rw[if_neg h];simp;omega
     have kD:(eN (gG op)).t=1∨(eN (gG op)).t=2:=by
      rw[Ny];split<;>simp
     have iH:(eN (gG op)).t=2→(decide (op=7)||decide (13≤op))=true:=by
      rw[Ny];split
      ·simp
      ·intro _;simp;omega
     rcases j4 with e|e
     ·have hg:(ak vs b).2=false:=by rw[j3,e];rfl
      have hT:gd op (aC vs a).t=1:=by rw[←q4];exact e
      have h18:op≤18:=by
       by_cases h:op≤18
       ·exact h
       ·exfalso;unfold gd at hT;rw[if_neg (by omega),if_neg (by omega)]at hT;omega
      simp only[hg,Bool.false_eq_true,if_false,if_true];refine⟨⟨decide (op=7)||decide (13≤op),?_,iH⟩,aa3,kD,?_⟩
      ·rw[db,bB];have hb:¬(op=6∨op=7):=by omega
       simp only[Option.bind_some,bW,bZ,ins,Bool.false_eq_true,if_false];simp only[show ¬((8:Int)=1) by decide,show ¬((8:Int)=2) by decide,show ¬((8:Int)=3∨(8:Int)=13∨(8:Int)=14) by decide,show ¬((8:Int)=4) by decide,show ¬((8:Int)=5) by decide,show ¬((8:Int)=6) by decide,show ¬((8:Int)=7) by decide,if_false,if_true,hb,show decide ((0:Int)=1)=false by decide];change (((gX 2 false (S++[f]++[g])).bind _).bind _)=_
       rw[Tu];simp only[Option.bind_some,kr hh];rfl
      ·intro y hy;rcases List.mem_append.1 hy with hy|hy
       ·exact cZ y hy
       ·simp at hy;subst hy;simp[sR,ins,cQ,qV];exact .inr ⟨decide_eq_true (by omega),decide_eq_true (by omega)⟩
     ·have hg:(ak vs b).2=true:=by rw[j3,e];rfl
      have hT:gd op (aC vs a).t=2:=by rw[←q4];exact e
      have Bs:(aC vs a).t=2:=by rw[q3];exact hT
      obtain rfl:=i2 Bs;obtain rfl:=j2 e;have alB:op=13∨op=14∨19≤op:=by
       unfold gd at hT;split at hT
       ·omega
       ·omega
      simp only[hg,Bool.false_eq_true,if_false,if_true];refine⟨⟨decide (op=7)||decide (13≤op),?_,iH⟩,aa3,kD,?_⟩
      ·rw[db,bB];have hb:¬(op=6∨op=7):=by omega
       simp only[Option.bind_some,bW,bZ,ins,if_true];simp only[show ¬((8:Int)=1) by decide,show ¬((8:Int)=2) by decide,show ¬((8:Int)=3∨(8:Int)=13∨(8:Int)=14) by decide,show ¬((8:Int)=4) by decide,show ¬((8:Int)=5) by decide,show ¬((8:Int)=6) by decide,show ¬((8:Int)=7) by decide,if_false,if_true,hb,show decide ((1:Int)=1)=true by decide];change (((gX 2 true (S++[true]++[true])).bind _).bind _)=_
       rw[VA];simp only[Option.bind_some,kr hh];rfl
      ·intro y hy;rcases List.mem_append.1 hy with hy|hy
       ·exact cZ y hy
       ·simp at hy;subst hy;simp[sR,ins,cQ,qV];rcases alB with h|h|h
        ·exact .inl (.inl (.inr (decide_eq_true h)))
        ·exact .inl (.inr (decide_eq_true h))
        ·exact .inr ⟨decide_eq_true h,decide_eq_true (by omega)⟩
    |[],hlen,_,_,_=>
     exfalso;simp only[dE,List.length_nil]at hlen;split at hlen
     ·simp at hlen
     ·split at hlen
      ·simp at hlen
      ·omega
    |a::b::c::d,hlen,_,_,_=>
     exfalso;simp only[dE]at hlen;split at hlen
     ·simp at hlen
     ·split at hlen<;>simp at hlen
termination_by x=>SizeOf.sizeOf x
decreasing_by all_goals (simp_wf;have:=List.sizeOf_lt_of_mem hy;omega)
end
def ux (cells:Int) (x:aq):Prop:=eQ x∨(cQ xP cells 0 0 x=true∧x.op≠15)
structure gm (cells:Int) (ex:Bool) (e:Nat) (l:List aq):Prop where
 le:l.length≤e
 run:bW l []=some []
 ok:∀x∈l,ux cells x
 jmp:∀(i:Nat) x,l[i]?=some x→eQ x→0≤x.a→x.a.toNat=e∨(x.a.toNat≤l.length∧bW (l.take x.a.toNat) []=some []∧(i<x.a.toNat∨∃y,l[x.a.toNat]?=some y∧y.op=11))
 out:∀x∈l,eQ x→x.a<0→x.op=9∧(x.a= -2∨(ex=true∧x.a= -1))
def Fg (cells:Int) (ex:Bool) (l:List aq):Prop:=gm cells ex l.length l
section
variable {cells:Int} {ex:Bool}
theorem G6 {k:Nat} {x:aq}:eQ (kR k x)↔eQ x:=by unfold eQ;rw[GL]
theorem aa4 {k:Nat} {x:aq} (h:ux cells x):ux cells (kR k x):=by
 rcases QA k x with e|⟨e,_⟩
 ·rw[e];exact h
 ·exact .inl (G6.2 e)
theorem QE {k:Nat} {x:aq} (hj:eQ x) (h:0≤x.a):(kR k x).a=x.a+k:=by
 unfold kR;rw[if_pos ⟨hj,h⟩]
theorem QF {k:Nat} {x:aq} (h:x.a<0):(kR k x).a=x.a:=by
 unfold kR;rw[if_neg (by rintro ⟨_,h'⟩;omega)]
theorem Tz (k j:Nat) (l:List aq):(ic k l).take j=ic k (l.take j):=by simp[ic]
theorem Ku (k i:Nat) (l:List aq):(ic k l)[i]?=(l[i]?).map (kR k):=by simp[ic]
theorem gm.wk {e e':Nat} {l:List aq} (h:gm cells ex e l) (he:e=l.length) (h':l.length≤e'):gm cells ex e' l:=by
 subst he;refine⟨h',h.run,h.ok,fun i x hx hj ha=>?_,h.out⟩;rcases h.jmp i x hx hj ha with h1|h1
 ·right;have hi:=(List.getElem?_eq_some_iff.1 hx).1;exact⟨by omega,by rw[h1,List.take_length];exact h.run,.inl (by omega)⟩
 ·exact .inr h1
theorem gm.plain {l:List aq} (hr:bW l []=some []) (ho:∀x∈l,ux cells x) (hj:∀x∈l,¬eQ x) {e:Nat} (he:l.length≤e):gm cells ex e l:=
 ⟨he,hr,ho,fun _ x hx nr=>absurd nr (hj x (List.mem_of_getElem? hx)),fun x hx nr=>absurd nr (hj x hx)⟩
theorem gm.app {e e':Nat} {A B:List aq} (hB:gm cells ex e' B) (he:e=A.length+e') (hr:bW A []=some []) (ho:∀x∈A,ux cells x)
 (hj:∀(i:Nat) x,A[i]?=some x→eQ x→0≤x.a→x.a.toNat=e∨(x.a.toNat≤A.length+B.length∧bW ((A++ic A.length B).take x.a.toNat) []=some []∧(i<x.a.toNat∨∃y,(A++ic A.length B)[x.a.toNat]?=some y∧y.op=11)))
 (hn:∀x∈A,eQ x→x.a<0→x.op=9∧(x.a= -2∨(ex=true∧x.a= -1))):gm cells ex e (A++ic A.length B):=by
 have hle:=hB.le;refine⟨by simp;omega,?_,?_,?_,?_⟩
 ·rw[db,hr];show bW (ic _ B) []=_;rw[CG];exact hB.run
 ·intro x hx;rcases List.mem_append.1 hx with hx|hx
  ·exact ho x hx
  ·obtain⟨y,hy,rfl⟩:=List.mem_map.1 hx;exact aa4 (hB.ok y hy)
 ·intro i x hx G7 ha;by_cases hi:i<A.length
  ·rw[List.getElem?_append_left hi]at hx;rcases hj i x hx G7 ha with h|h
   ·exact .inl h
   ·refine .inr ⟨by simp;omega,h.2⟩
  ·rw[List.getElem?_append_right (by omega),Ku]at hx;obtain⟨y,hy,rfl⟩:=Option.map_eq_some_iff.1 hx;have xQ:=G6.1 G7;have QG:0≤y.a:=by
    by_cases h:0≤y.a
    ·exact h
    ·rw[QF (by omega)]at ha;exact ha
   rw[QE xQ QG];have et:(y.a+(A.length:Int)).toNat=A.length+y.a.toNat:=by omega
   rw[et];rcases hB.jmp _ y hy xQ QG with h|⟨h1,h2,h3⟩
   ·exact .inl (by omega)
   ·refine .inr ⟨by simp;omega,?_,?_⟩
    ·rw[List.take_append,List.take_of_length_le (by omega),db,hr];show bW ((ic _ B).take _) []=_;rw[Tz,CG,Nat.add_sub_cancel_left];exact h2
    ·rcases h3 with h3|⟨z,hz,qz⟩
     ·exact .inl (by omega)
     ·refine .inr ⟨kR A.length z,?_,by rw[GL];exact qz⟩;rw[List.getElem?_append_right (by omega),Ku,Nat.add_sub_cancel_left,hz];rfl
 ·intro x hx G7 ha;rcases List.mem_append.1 hx with hx|hx
  ·exact hn x hx G7 ha
  ·obtain⟨y,hy,rfl⟩:=List.mem_map.1 hx;have xQ:=G6.1 G7;have QG:y.a<0:=by
    by_cases h:0≤y.a
    ·rw[QE xQ h]at ha;omega
    ·omega
   rw[QF QG,GL];exact hB.out y hy xQ QG
theorem gm.jn {e e':Nat} {a b:List aq} (ha:gm cells ex e a) (hb:gm cells ex e' b) (he:e=a.length+e'):gm cells ex e (jn a b):=by
 refine hb.app he ha.run ha.ok ?_ ha.out;intro i x hx hj h0;rcases ha.jmp i x hx hj h0 with h|⟨h1,h2,h3⟩
 ·exact .inl h
 ·refine .inr ⟨by omega,?_,?_⟩
  ·rw[List.take_append_of_le_length h1];exact h2
  ·rcases h3 with h3|⟨y,hy,mH⟩
   ·exact .inl h3
   ·exact .inr ⟨y,by rw[List.getElem?_append_left (List.getElem?_eq_some_iff.1 hy).1];exact hy,mH⟩
theorem Fg.jn {a b:List aq} (ha:Fg cells ex a) (hb:Fg cells ex b):Fg cells ex (jn a b):=by
 unfold Fg;rw[dL];exact gm.jn (ha.wk rfl (by omega)) hb rfl
theorem gm.tail {e e0:Nat} {l q:List aq} (h:gm cells ex e0 l) (h0:e0=e) (hr:bW q []=some []) (ho:∀x∈q,ux cells x) (hq:∀x∈q,eQ x→x.a=0)
 (ht:∃y,(l++q)[0]?=some y∧y.op=11) (hl:(l++q).length≤e):gm cells ex e (l++q):=by
 subst h0;refine⟨hl,?_,?_,?_,?_⟩
 ·rw[db,h.run];exact hr
 ·intro x hx;rcases List.mem_append.1 hx with hx|hx
  ·exact h.ok x hx
  ·exact ho x hx
 ·intro i x hx hj h0;by_cases hi:i<l.length
  ·rw[List.getElem?_append_left hi]at hx;rcases h.jmp i x hx hj h0 with h|⟨h1,h2,h3⟩
   ·exact .inl h
   ·refine .inr ⟨by simp;omega,by rw[List.take_append_of_le_length h1];exact h2,?_⟩;rcases h3 with h3|⟨y,hy,mH⟩
    ·exact .inl h3
    ·exact .inr ⟨y,by rw[List.getElem?_append_left (List.getElem?_eq_some_iff.1 hy).1];exact hy,mH⟩
  ·rw[List.getElem?_append_right (by omega)]at hx;have:=hq x (List.mem_of_getElem? hx) hj;rw[this];exact .inr ⟨by simp,rfl,.inr ht⟩
 ·intro x hx hj h0;rcases List.mem_append.1 hx with hx|hx
  ·exact h.out x hx hj h0
  ·have:=hq x hx hj;omega
theorem aa5 {k:Int} {x:aq} (hk:0≤k):(oT k x).a<0→x.a<0∧¬(x.op=9∧x.a= -1)∧oT k x=x:=by
 unfold oT;split
 ·rename_i h;intro h';simp only at h';omega
 ·rename_i h;exact fun h'=>⟨h',h,rfl⟩
theorem Fg.Nz {l:List aq} (h:Fg cells true l):Fg cells ex (nc l):=by
 have hJ:∀x,eQ (oT l.length x)↔eQ x:=fun x=>by unfold eQ;rw[Qs]
 unfold Fg;rw[nf];refine⟨by simp,?_,?_,?_,?_⟩
 ·rw[nc,pk (GX _)];exact h.run
 ·intro x hx;obtain⟨y,hy,rfl⟩:=List.mem_map.1 hx;rcases GX (l.length:Int) y with e|⟨e,_⟩
  ·rw[e];exact h.ok y hy
  ·exact .inl ((hJ y).2 e)
 ·intro i x hx hj h0;unfold nc at hx;rw[List.getElem?_map]at hx;obtain⟨y,hy,rfl⟩:=Option.map_eq_some_iff.1 hx;by_cases C5:y.op=9∧y.a= -1
  ·left;unfold oT;rw[if_pos C5];simp
  ·have e:oT l.length y=y:=by unfold oT;rw[if_neg C5]
   rw[e]at h0⊢;rcases h.jmp i y hy ((hJ y).1 hj) h0 with h1|⟨h1,h2,h3⟩
   ·exact .inl h1
   ·refine .inr ⟨by simpa using h1,?_,?_⟩
    ·unfold nc;rw[←List.map_take,pk (GX _)];exact h2
    ·rcases h3 with h3|⟨z,hz,qz⟩
     ·exact .inl h3
     ·refine .inr ⟨oT l.length z,?_,by rw[Qs];exact qz⟩;unfold nc;rw[List.getElem?_map,hz];rfl
 ·intro x hx hj h0;obtain⟨y,hy,rfl⟩:=List.mem_map.1 hx;obtain⟨h1,h2,h3⟩:=aa5 (by omega) h0;rw[h3]at h0⊢;obtain⟨q1,q2⟩:=h.out y hy ((hJ y).1 hj) h1;refine⟨q1,?_⟩;rcases q2 with q2|⟨_,q2⟩
  ·exact .inl q2
  ·exact absurd ⟨q1,q2⟩ h2
end
section
variable {cells:Int} {ex:Bool}
theorem rR {x:aq} (h:sR cells x):ux cells x∧¬eQ x:=by
 obtain⟨h1,h2,h3⟩:=h;exact⟨.inr ⟨h3,by omega⟩,by unfold eQ;omega⟩
def G8 (cells:Int) (t:List aq):Prop:=bW t []=some [true]∧∀x∈t,ux cells x∧¬eQ x
theorem Kv {e:Nat} (h:1≤e):gm cells ex e [ins 9 (e:Int) 0 0 0]:=by
 refine⟨by simpa using h,by simp[bW,bZ,ins,gj],?_,?_,?_⟩
 ·intro x hx;simp at hx;subst hx;exact .inl (.inl rfl)
 ·intro i x hx hj h0;cases i with
  |zero=>simp at hx;subst hx;exact .inl (by simp[ins])
  |succ i=>simp at hx
 ·intro x hx hj h0;simp at hx;subst hx;simp only[ins]at h0;omega
theorem Kw {e:Nat} {t p:List aq} (ht:G8 cells t) (hp:gm cells ex e p):gm cells ex (t.length+1+e) (t++[ins 10 ((t.length:Int)+1+p.length) 0 0 0]++ic (t.length+1) p):=by
 have hr:bW (t++[ins 10 ((t.length:Int)+1+p.length) 0 0 0]) []=some []:=by
  rw[db,ht.1];have:=BO [];simp only[List.nil_append]at this;simp[bW,bZ,ins,this,gj]
 have hl:(t++[ins 10 ((t.length:Int)+1+p.length) 0 0 0]).length=t.length+1:=by simp
 have:=hp.app (e:=t.length+1+e) (A:=t++[ins 10 ((t.length:Int)+1+p.length) 0 0 0]) (by rw[hl]) hr ?_ ?_ ?_
 ·rw[hl]at this;exact this
 ·intro x hx;rcases List.mem_append.1 hx with hx|hx
  ·exact (ht.2 x hx).1
  ·simp at hx;subst hx;exact .inl (.inr rfl)
 ·intro i x hx hj h0;by_cases hi:i<t.length
  ·rw[List.getElem?_append_left hi]at hx;exact absurd hj (ht.2 x (List.mem_of_getElem? hx)).2
  ·rw[List.getElem?_append_right (by omega)]at hx;have:i-t.length=0:=by
    have:=(List.getElem?_eq_some_iff.1 hx).1;simp at this;omega
   rw[this]at hx;simp at hx;subst hx;have e1:((ins 10 ((t.length:Int)+1+p.length) 0 0 0).a).toNat=t.length+1+p.length:=by simp only[ins];omega
   rw[e1];refine .inr ⟨by simp,?_,.inl (by omega)⟩;rw[List.take_of_length_le (by simp;omega)];rw[db,hr];show bW (ic _ p) []=_;rw[CG];exact hp.run
 ·intro x hx hj h0;rcases List.mem_append.1 hx with hx|hx
  ·exact absurd hj (ht.2 x hx).2
  ·simp at hx;subst hx;simp only[ins]at h0;omega
theorem CJ (b:List aq) (r:List (List aq)):cy [] (b::r)=if r=[]then b else jn (b++[ins 9 ((b.length:Int)+1+(cy [] r).length) 0 0 0]) (cy [] r):=by rw[cy]
theorem Kx (b:List aq) (n:Nat):b++[ins 9 ((b.length:Int)+1+n) 0 0 0]=jn b [ins 9 (((1+n:Nat)):Int) 0 0 0]:=by
 simp only[jn,ic,List.map_cons,List.map_nil];congr 2;unfold kR;rw[if_pos ⟨.inl rfl,by simp only[ins];omega⟩];simp only[ins,aq.mk.injEq,true_and,and_true];omega
theorem ED:∀(ts bs:List (List aq)),(∀t∈ts,G8 cells t)→(∀b∈bs,Fg cells ex b)→Fg cells ex (cy ts bs)
 |[],[],_,_=>by
  rw[cy];exact gm.plain rfl (by simp) (by simp) (by simp)
 |_::_,[],_,_=>by
  rw[cy];exact gm.plain rfl (by simp) (by simp) (by simp)
 |[],b::r,ht,hb=>by
  have ET:=hb b (by simp);have ih:=ED [] r ht (fun x hx=>hb x (by simp[hx]));rw[CJ];split
  ·exact ET
  ·generalize cy [] r=out at ih⊢;rw[Kx];have h1:gm cells ex (b.length+(1+out.length)) (jn b [ins 9 (((1+out.length:Nat)):Int) 0 0 0]):=gm.jn (ET.wk rfl (by omega)) (Kv (by omega)) rfl;unfold Fg;rw[dL];have e:(jn b [ins 9 (((1+out.length:Nat)):Int) 0 0 0]).length=b.length+1:=by rw[dL];rfl
   rw[e];have:=gm.jn (e:=b.length+1+out.length) (b:=out) (e':=out.length) (by rw[show b.length+1+out.length=b.length+(1+out.length) by omega];exact h1) ih (by rw[e]);exact this
 |t::ts,b::r,ht,hb=>by
  have ET:=hb b (by simp);have CY:=ht t (by simp);have ih:=ED ts r (fun x hx=>ht x (by simp[hx])) (fun x hx=>hb x (by simp[hx]));rw[cy];generalize cy ts r=out at ih⊢;split
  ·have h1:=Kw CY ET;have hl:(t++[ins 10 ((t.length:Int)+1+b.length) 0 0 0]++ic (t.length+1) b).length=t.length+1+b.length:=by simp;omega
   unfold Fg;rw[dL,hl];refine gm.jn (e':=out.length) ?_ ih (by rw[hl]);exact (show gm cells ex (t.length+1+b.length) _ from h1).wk hl.symm (by rw[hl];omega)
  ·rw[Kx];have h1:gm cells ex (b.length+(1+out.length)) (jn b [ins 9 (((1+out.length:Nat)):Int) 0 0 0]):=gm.jn (ET.wk rfl (by omega)) (Kv (by omega)) rfl;have h2:=Kw CY h1;have e:(jn b [ins 9 (((1+out.length:Nat)):Int) 0 0 0]).length=b.length+1:=by rw[dL];rfl
   generalize jn b [ins 9 (((1+out.length:Nat)):Int) 0 0 0]=part at h2 e⊢;have hl:(t++[ins 10 ((t.length:Int)+1+part.length) 0 0 0]++ic (t.length+1) part).length=t.length+1+(b.length+1):=by simp[e];omega
   unfold Fg;rw[dL,hl];refine gm.jn (e':=out.length) ?_ ih (by rw[hl]);rw[show t.length+1+(b.length+1)+out.length=t.length+1+(b.length+(1+out.length)) by omega];exact h2
theorem nG:ux cells (ins 11 0 0 0 0)∧¬eQ (ins 11 0 0 0 0):=⟨.inr ⟨by simp[cQ,ins],by simp[ins]⟩,by simp[eQ,ins]⟩
theorem Ar (S:List aq):bW (ins 11 0 0 0 0::S) []=bW S []:=by simp[bW,bZ,ins,gj]
theorem TA {t b:List aq} (ht:G8 cells t) (hb:Fg cells true b):Fg cells ex (iv t b):=by
 unfold iv;refine Fg.Nz ?_;have hl:(ins 11 0 0 0 0::t).length=t.length+1:=by simp
 have fL:G8 cells (ins 11 0 0 0 0::t):=⟨by rw[Ar];exact ht.1,fun x hx=>by
  rcases List.mem_cons.1 hx with rfl|hx
  ·exact nG
  ·exact ht.2 x hx⟩
 --vK test leads behind vK jump back
 have hr:bW (ins 11 0 0 0 0::t++[ins 10 ((t.length:Int)+3+b.length) 0 0 0]) []=some []:=by
  rw[db,fL.1];have:=BO [];simp only[List.nil_append]at this;simp[bW,bZ,ins,this,gj]
 have hA:(ins 11 0 0 0 0::t++[ins 10 ((t.length:Int)+3+b.length) 0 0 0]).length=t.length+2:=by simp
 have hBw:gm cells true (b.length+1) b:=gm.wk hb rfl (by omega);have h1:=hBw.app (e:=t.length+3+b.length) (A:=ins 11 0 0 0 0::t++[ins 10 ((t.length:Int)+3+b.length) 0 0 0]) (by rw[hA];omega) hr ?_ ?_ ?_
 ·rw[hA]at h1;unfold Fg;have e:(ins 11 0 0 0 0::t++[ins 10 ((t.length:Int)+3+b.length) 0 0 0]++ic (t.length+2) b++[ins 9 0 0 0 0]).length=t.length+3+b.length:=by simp;omega
  have h3:=gm.tail h1 (e:=t.length+3+b.length) rfl (q:=[ins 9 0 0 0 0]) (by simp[bW,bZ,ins,gj]) (by
   intro x hx;simp at hx;subst hx;exact .inl (.inl rfl)) (by
   intro x hx _;simp at hx;subst hx;rfl) ⟨ins 11 0 0 0 0,by simp,rfl⟩ (by rw[e];omega)
  rw[e];exact h3
 ·intro x hx;rcases List.mem_append.1 hx with hx|hx
  ·exact (fL.2 x hx).1
  ·simp at hx;subst hx;exact .inl (.inr rfl)
 ·intro i x hx hj h0;by_cases hi:i<(ins 11 0 0 0 0::t).length
  ·rw[List.getElem?_append_left hi]at hx;exact absurd hj (fL.2 x (List.mem_of_getElem? hx)).2
  ·rw[List.getElem?_append_right (by omega)]at hx;have:i-(ins 11 0 0 0 0::t).length=0:=by
    have:=(List.getElem?_eq_some_iff.1 hx).1;simp at this⊢;omega
   rw[this]at hx;simp at hx;subst hx;left;simp only[ins];omega
 ·intro x hx hj h0;rcases List.mem_append.1 hx with hx|hx
  ·exact absurd hj (fL.2 x hx).2
  ·simp at hx;subst hx;simp only[ins]at h0;omega
theorem aa7 {t b:List aq} (ht:G8 cells t) (hb:Fg cells true b) (hh:b=[]∨∃y,b[0]?=some y∧y.op=11):Fg cells ex (lZ t b):=by
 unfold lZ;refine Fg.Nz ?_;unfold Fg;have e:b++ins 11 0 0 0 0::t++[ins 10 0 0 0 0]=b++(ins 11 0 0 0 0::t++[ins 10 0 0 0 0]):=by simp
 rw[e];refine gm.tail (gm.wk hb rfl (by simp)) rfl ?_ ?_ ?_ ?_ (Nat.le_refl _)
 ·rw[db,Ar,ht.1];have:=BO [];simp only[List.nil_append]at this;simp[bW,bZ,ins,this,gj]
 ·intro x hx;rcases List.mem_append.1 hx with hx|hx
  ·rcases List.mem_cons.1 hx with rfl|hx
   ·exact (nG (cells:=cells)).1
   ·exact (ht.2 x hx).1
  ·simp at hx;subst hx;exact .inl (.inr rfl)
 ·intro x hx hj;rcases List.mem_append.1 hx with hx|hx
  ·rcases List.mem_cons.1 hx with rfl|hx
   ·exact absurd hj (nG (cells:=cells)).2
   ·exact absurd hj (ht.2 x hx).2
  ·simp at hx;subst hx;rfl
 ·rcases hh with rfl|⟨y,hy,mH⟩
  ·exact⟨ins 11 0 0 0 0,by simp,rfl⟩
  ·exact⟨y,by rw[List.getElem?_append_left (List.getElem?_eq_some_iff.1 hy).1];exact hy,mH⟩
theorem aa8 {a c:Int} {b:List aq} (ha:fM cells a 1=true) (hc:fM cells c 2=true) (sf:fM cells (c+1) 1=true) (hb:Fg cells true b):Fg cells ex (kK a c b):=by
 unfold kK;refine Fg.Nz ?_;have hr:bW [ins 11 0 0 0 0,ins 13 a c 0 0,ins 10 ((b.length:Int)+8) 0 0 0] []=some []:=by
  have:=BO [];simp only[List.nil_append]at this;simp[bW,bZ,ins,this,gj,dZ]
 have hBw:gm cells true (b.length+5) b:=gm.wk hb rfl (by omega);have h1:=hBw.app (e:=b.length+8) (A:=[ins 11 0 0 0 0,ins 13 a c 0 0,ins 10 ((b.length:Int)+8) 0 0 0]) (by simp;omega) hr ?_ ?_ ?_
 ·unfold Fg;have e:([ins 11 0 0 0 0,ins 13 a c 0 0,ins 10 ((b.length:Int)+8) 0 0 0]++ic 3 b++[ins 2 a 0 0 0,ins 2 (c+1) 0 0 0,ins 8 0 8 0 0,ins 6 a 0 0 0,ins 9 0 0 0 0]).length=b.length+8:=by simp
  have h3:=gm.tail h1 (e:=b.length+8) rfl (q:=[ins 2 a 0 0 0,ins 2 (c+1) 0 0 0,ins 8 0 8 0 0,ins 6 a 0 0 0,ins 9 0 0 0 0]) (by
   have h2:=Tu [] false false;have h1:=xM [] false;simp only[List.nil_append,List.cons_append]at h1 h2;simp[bW,bZ,ins,gj,dZ,h1,h2]) (by
   intro x hx;simp at hx;rcases hx with rfl|rfl|rfl|rfl|rfl
   ·exact .inr ⟨by simp[cQ,ins,ha],by simp[ins]⟩
   ·exact .inr ⟨by simp[cQ,ins,sf],by simp[ins]⟩
   ·exact .inr ⟨by simp[cQ,ins,qV],by simp[ins]⟩
   ·exact .inr ⟨by simp[cQ,ins,ha],by simp[ins]⟩
   ·exact .inl (.inl rfl)) (by
   intro x hx hj;simp at hx;rcases hx with rfl|rfl|rfl|rfl|rfl
   ·simp[eQ,ins]at hj
   ·simp[eQ,ins]at hj
   ·simp[eQ,ins]at hj
   ·simp[eQ,ins]at hj
   ·rfl) ⟨ins 11 0 0 0 0,rfl,rfl⟩ (by rw[←e];exact Nat.le_refl _)
  rw[e];exact h3
 ·intro x hx;simp at hx;rcases hx with rfl|rfl|rfl
  ·exact (nG (cells:=cells)).1
  ·exact .inr ⟨by simp[cQ,ins,ha,hc],by simp[ins]⟩
  ·exact .inl (.inr rfl)
 ·intro i x hx hj h0;match i,hx with
  |0,hx=>simp at hx;subst hx;exact absurd hj (nG (cells:=cells)).2
  |1,hx=>simp at hx;subst hx;simp[eQ,ins]at hj
  |2,hx=>
   simp at hx;subst hx;left;simp only[ins];omega
  |i+3,hx=>simp at hx
 ·intro x hx hj h0;simp at hx;rcases hx with rfl|rfl|rfl
  ·exact absurd hj (nG (cells:=cells)).2
  ·simp[eQ,ins]at hj
  ·simp only[ins]at h0;omega
end
section
variable {vs:List Vr}
mutual
theorem xR:∀(s:Sm) (c:Int),c≤(cV vs s c).2
 | .mk op name to val conds labels fields blocks line,c=>by
  have h1:=ow blocks;have h2:=DT blocks;unfold cV;split
  ·exact Int.le_refl _
  ·split
   ·exact h1 c
   ·split
    ·have:=h1 (c+1);simp only;omega
    ·split
     ·have:=h2 (c+2);simp only;omega
     ·split
      ·exact h2 c
      ·split
       ·exact h2 c
       ·split
        ·exact Int.le_refl _
        ·split<;>exact Int.le_refl _
theorem gI:∀(l:List Sm) (c:Int),c≤(ag vs l c).2
 |[],c=>Int.le_refl _
 |x::r,c=>by
  have h1:=xR x c;have h2:=gI r (cV vs x c).2;simp only[ag];omega
theorem ow:∀(l:List (List Sm)) (c:Int),c≤(ar vs l c).2
 |[],c=>Int.le_refl _
 |b::r,c=>by
  have h1:=gI b c;have h2:=ow r (ag vs b c).2;simp only[ar];omega
theorem DT:∀(l:List (List Sm)) (c:Int),c≤(lj vs l c).2
 |[],c=>Int.le_refl _
 |b::r,c=>gI b c
end
end
theorem NA (vs:List Vr):∀(l:List Sm) (c:Int),(ag vs l c).1=[]∨∃y,(ag vs l c).1[0]?=some y∧y.op=11
 |[],c=>.inl rfl
 |x::r,c=>.inr ⟨ins 11 0 0 0 0,by simp[ag,jn],rfl⟩
theorem Ky {h:Int}:∀{l:List Ex},jQ l≤h→∀x∈l,aJ 0 x≤h
 |y::r,ht,x,hx=>by
  simp only[jQ]at ht;rcases List.mem_cons.1 hx with rfl|hx
  ·omega
  ·exact Ky (by omega) x hx
section
variable {vs:List Vr} {cells:Int} (eh:∀v∈vs,du v=true) (hc:cf vs≤cells)
include eh hc
theorem G9 {x:Ex} (hf:bk x=true) (hw:(dk vs x 2).1=0) (ht:aJ 0 x≤64):G8 cells (ak vs x).1:=by
 obtain⟨h1,h2⟩:=nD.1 hw;obtain⟨⟨f,i1,i2⟩,_,_,i4⟩:=nF eh hc x [] hf h1 (by simpa using ht);obtain rfl:=i2 h2;exact⟨i1,fun y hy=>rR (i4 y hy)⟩
theorem Ha {ex:Bool} {x:Ex} {a:Int} (hf:bk x=true) (he:(aC vs x).e=0) (ht:aJ 0 x≤64) (ha:fM cells a 1=true):bW ((ak vs x).1++[ins 6 a 0 0 0]) []=some []∧∀y∈(ak vs x).1++[ins 6 a 0 0 0],ux cells y∧¬eQ y:=by
 obtain⟨⟨f,i1,i2⟩,_,_,i4⟩:=nF eh hc x [] hf he (by simpa using ht);constructor
 ·rw[db,i1];have:=xM [] f;simp only[List.nil_append]at this;simp[bW,bZ,ins,this]
 ·intro y hy;rcases List.mem_append.1 hy with hy|hy
  ·exact rR (i4 y hy)
  ·simp at hy;subst hy;exact⟨.inr ⟨by simp[cQ,ins,ha],by simp[ins]⟩,by simp[eQ,ins]⟩
theorem rS {ex:Bool} {l:List aq} (h:bW l []=some []∧∀y∈l,ux cells y∧¬eQ y):Fg cells ex l:=
 gm.plain h.1 (fun x hx=>(h.2 x hx).1) (fun x hx=>(h.2 x hx).2) (Nat.le_refl _)
omit eh in
theorem Wx {c:Int} (h:fM cells c 1=true) (l:List Int):G8 cells (ins 1 0 0 0 0::ee c l):=by
 have key:∀(n:Nat) (l:List Int),l.length≤n→bW (ee c l) [true]=some [true]∧∀x∈ee c l,ux cells x∧¬eQ x:=by
  intro n;induction n with
  |zero=>
   intro l hl;obtain rfl:l=[]:=List.eq_nil_of_length_eq_zero (by omega);exact⟨rfl,by simp[ee]⟩
  |succ n ih=>
   intro l hl;match l,hl with
   |[],_=>exact⟨rfl,by simp[ee]⟩
   |[a],_=>exact⟨rfl,by simp[ee]⟩
   |a::b::r,hl=>
    obtain⟨i1,i2⟩:=ih r (by simp at hl;omega);constructor
    ·have:=VA [];simp only[List.nil_append,List.cons_append]at this;simp[ee,bW,bZ,ins,dZ,this,i1]
    ·intro x hx;simp only[ee,List.mem_cons]at hx;rcases hx with rfl|rfl|hx
     ·exact⟨.inr ⟨by simp[cQ,ins,h],by simp[ins]⟩,by simp[eQ,ins]⟩
     ·exact⟨.inr ⟨by simp[cQ,ins,qV],by simp[ins]⟩,by simp[eQ,ins]⟩
     ·exact i2 x hx
 obtain⟨i1,i2⟩:=key l.length l (Nat.le_refl _);refine⟨by simp[bW,bZ,ins,dZ,i1],fun x hx=>?_⟩;rcases List.mem_cons.1 hx with rfl|hx
 ·exact⟨.inr ⟨by simp[cQ,ins],by simp[ins]⟩,by simp[eQ,ins]⟩
 ·exact i2 x hx
theorem Hb {s:Tx} {v:Vr} (h:bf vs s=some v) (ha:¬v.arr=true) (ht:v.ty≤2):fM cells (cd vs s).1 1=true:=by
 have zp:∀v∈vs,0≤bH v:=fun v hv=>nE (eh v hv);have aP:=sO zp h;have mK:bH v=1:=by unfold bH;rw[if_neg ha,if_neg (by omega)]
 exact jm (by omega) (by omega) (by omega)
theorem Wy {s:Tx} {v:Vr} (h:bf vs s=some v) (ha:v.arr=true):Ag cells (ins 7 (cd vs s).1 0 v.lo v.hi)=true:=by
 have zp:∀v∈vs,0≤bH v:=fun v hv=>nE (eh v hv);have aP:=sO zp h;have gv:=eh v (sJ h).1;simp only[du,Bool.and_eq_true]at gv;have hb:=gv.2.2.1;rw[if_pos ha]at hb;have hb:=of_decide_eq_true hb;have mK:bH v=v.hi-v.lo+1:=by unfold bH;rw[if_pos ha]
 have qG:fM cells (cd vs s).1 (v.hi-v.lo+1)=true:=jm (by omega) (by omega) (by omega);unfold Ag;simp only[Bool.and_eq_true];exact⟨⟨⟨decide_eq_true (show (0:Int)≤v.lo by omega),decide_eq_true (show v.lo≤v.hi by omega)⟩,decide_eq_true (show v.hi≤255 by omega)⟩,qG⟩
theorem DU {s:Tx} {v:Vr} (h:bf vs s=some v) (ht:2<v.ty):0≤(cd vs s).1∧(cd vs s).1+(bq v.ty).length≤cells∧0<(bq v.ty).length:=by
 have zp:∀v∈vs,0≤bH v:=fun v hv=>nE (eh v hv);have aP:=sO zp h;have gv:=eh v (sJ h).1;have hk:oe v.ty=true:=by
  rcases Kb gv with h|h
  ·omega
  ·exact h.2.2
 simp only[du,Bool.and_eq_true]at gv;have eO:¬v.arr=true:=by
  intro ha;have hb:=gv.2.2.1;rw[if_pos ha]at hb;have hb:=of_decide_eq_true hb;omega
 have mK:bH v=(bq v.ty).length:=by unfold bH;rw[if_neg eO,if_pos ht]
 refine⟨by omega,by omega,?_⟩;unfold oe at hk;have:=of_decide_eq_true hk;omega
theorem afl {ex:Bool} {to val:Ex} {line:Int} (h3:bO to=3∨bO to=4) (f1:bk to=true) (f2:bk val=true) (h:(BE vs to val line).1=0) (ht:(if bO to=3 then aJ 0 val else max (fF 0 (cO to)) (aJ 1 val))≤64):
 Fg cells ex (if bO to=3 then (ak vs val).1++[ins 6 (cd vs (dB to)).1 0 0 0]else ou vs (cO to)++((ak vs val).1++[ins 7 (cd vs (dB to)).1 0 (cd vs (dB to)).2.lo (cd vs (dB to)).2.hi])):=by
 obtain⟨op,n,name,field,sub,l⟩:=to;simp only[mU,xE,ob]at h3 ht⊢;unfold BE at h;simp only[xE]at h;cases hv:bf vs name with
 |none=>rw[hv]at h;simp at h
 |some v=>
  rw[hv]at h;simp only at h;split at h
  ·simp at h
  ·obtain⟨q1,q2'⟩:=b5.1 h;obtain⟨alC,_⟩:=b5.1 q2';have q1:(aC vs (.mk op n name field sub l)).e=0:=q1;have q2:(aC vs val).e=0:=alC;have Ko:=CD f1 q1;obtain⟨hlen,fq⟩:=yB f1;have fg:=iG hv;unfold aC at q1;rw[if_neg (by omega),if_pos (by omega),hv]at q1;simp only at q1;rw[if_neg (by omega)]at q1;by_cases DS:v.arr≠decide (op=4)∨2<v.ty
   ·rw[if_pos DS]at q1;simp[cA]at q1
   ·have wI:v.arr=decide (op=4):=by
     cases hq:v.arr<;>cases hq2:decide (op=4)<;>simp_all
    have alA:¬2<v.ty:=fun h=>DS (.inr h);by_cases ho:op=3
    ·subst ho;have ht:aJ 0 val≤64:=ht;have eO:¬v.arr=true:=by rw[wI];decide
     exact rS (l:=(ak vs val).1++[ins 6 (cd vs name).1 0 0 0]) eh hc (Ha (ex:=ex) eh hc f2 q2 ht (Hb eh hc hv eO (by omega)))
    ·have ho4:op=4:=by omega
     subst ho4;have ht:max (fF 0 sub) (aJ 1 val)≤64:=ht;obtain⟨z,rfl⟩:∃z,sub=[z]:=by
      match sub,hlen with
      |[z],_=>exact⟨z,rfl⟩
      |[],h=>simp[dE]at h
      |_::_::_,h=>simp[dE]at h
     simp only[fF]at ht;have hz:=(iU _).1 fq z (by simp);obtain⟨⟨f,i1,_⟩,_,_,i4⟩:=nF eh hc z [] hz (Ko z (by simp)) (by simp;omega);obtain⟨⟨g,j1,_⟩,_,_,j4⟩:=nF eh hc val [f] f2 q2 (by simp;omega);have eO:v.arr=true:=by rw[wI];decide
     have hb:=Wy eh hc hv eO;simp only[ou,fg];refine rS (l:=(ak vs z).1++((ak vs val).1++[ins 7 (cd vs name).1 0 v.lo v.hi])) eh hc ⟨?_,?_⟩
     ·rw[db,i1];simp only[List.nil_append,Option.bind_some];rw[db,j1];have:=Tu [] f g;simp only[List.nil_append,List.cons_append]at this;simp[bW,bZ,ins,this]
     ·intro y hy;rcases List.mem_append.1 hy with hy|hy
      ·exact rR (i4 y hy)
      ·rcases List.mem_append.1 hy with hy|hy
       ·exact rR (j4 y hy)
       ·simp at hy;subst hy;refine⟨.inr ⟨?_,by simp[ins]⟩,by simp[eQ,ins]⟩;unfold cQ;simp only[ins]at hb⊢;simpa using hb
theorem Kz {name:Tx} {v:Vr} {line:Int} (hv:bf vs name=some v) (ht:2<v.ty):∀(fs:List Tx) (xs:List Ex) (p:List Tx),xs.length=fs.length→bA xs=true→(iC vs v.ty line fs xs p).1=0→jQ xs≤64→
 bW (dM vs name fs xs) []=some []∧∀y∈dM vs name fs xs,ux cells y∧¬eQ y
 |[],[],p,_,_,_,_=>⟨rfl,by simp[dM]⟩
 |f::fs,x::xs,p,hl,hf,h,AN=>by
  simp only[bA,Bool.and_eq_true]at hf;simp only[jQ]at AN;unfold iC at h;cases hp:kG v.ty f with
  |none=>rw[hp]at h;simp at h
  |some q=>
   rw[hp]at h;simp only at h;split at h
   ·simp at h
   ·split at h
    ·simp at h
    ·obtain⟨h3,h4⟩:=b5.1 h;obtain⟨i1,i2⟩:=Kz hv ht fs xs (p++[f]) (by simpa using hl) hf.2 h4 (by omega);obtain⟨_,q2,j,q3,q4⟩:=uu hv ht hp;obtain⟨b1,b2,b3⟩:=DU eh hc hv ht;have qG:fM cells (iu vs name f).1 1=true:=jm (by rw[q3];omega) (by omega) (by rw[q3];omega);obtain⟨j1,j2⟩:=Ha (ex:=false) eh hc hf.1 (nD.1 h3).1 (by omega) qG;have e:dM vs name (f::fs) (x::xs)=((ak vs x).1++[ins 6 (iu vs name f).1 0 0 0])++dM vs name fs xs:=by simp[dM]
     rw[e];constructor
     ·rw[db,j1];exact i1
     ·intro y hy;rcases List.mem_append.1 hy with hy|hy
      ·exact j2 y hy
      ·exact i2 y hy
 |[],_::_,_,hl,_,_,_=>by simp at hl
 |_::_,[],_,hl,_,_,_=>by simp at hl
end
theorem sS {vs:List Vr} {loops:Bool}:∀{cs:List Ex} {l:List (List Sm)},cs.length≤l.length→(fB vs loops cs l).1=0→∀x∈cs,(dk vs x 2).1=0
 |c::cs,b::r,hl,h,x,hx=>by
  obtain⟨h1,h2⟩:=b5.1 h;obtain⟨_,h3⟩:=b5.1 h2;rcases List.mem_cons.1 hx with rfl|hx
  ·exact h1
  ·exact sS (by simpa using hl) h3 x hx
 |_::_,[],hl,_,_,_=>by simp at hl
section
variable {vs:List Vr} {cells:Int} (eh:∀v∈vs,du v=true) (hc:cf vs≤cells)
include eh hc
mutual
theorem Wz (loops:Bool):∀(s:Sm) (c:Int),ji s=true→(jU vs loops s).1=0→gq s≤64→0≤c→(cV vs s c).2≤cells→Fg cells loops (cV vs s c).1
 | .mk op name to val conds labels fields blocks line,c,hf,h,ht,gQ,fu=>by
  simp only[ji,Bool.and_eq_true,decide_eq_true_eq]at hf;obtain⟨cR,eT,cF,cB,eP,bY,um,uo,eU⟩:=hf;have vf:(op=1∨op=3∨op=5∨op=6)→bk val=true:=by
   intro h1;rw[if_pos h1]at cB;simp only[Bool.and_eq_true]at cB;exact cB.2
  unfold jU at h;unfold gq at ht;unfold cV at fu⊢;by_cases h1:op=1
  ·subst h1;rw[if_pos rfl]at h;rw[if_pos rfl]at cF;simp only[Bool.and_eq_true,decide_eq_true_eq]at cF;simp only[if_true]at ht⊢;exact afl eh hc cF.1 cF.2 (vf (.inl rfl)) h ht
  ·rw[if_neg h1]at h ht;simp only[if_neg h1]at fu⊢;by_cases h2:op=2
   ·subst h2;rw[if_pos rfl]at h ht;simp only[if_true]at fu⊢;have hs:cm 2 conds.length labels.length fields.length blocks.length=true:=bY;simp[cm]at hs;refine ED _ _ ?_ (vt loops conds blocks c eU h (by omega) gQ fu);intro t CY;obtain⟨x,hx,rfl⟩:=List.mem_map.1 CY;exact G9 eh hc ((iU _).1 eP x hx) (sS (by omega) h x hx) (Ky (by omega) x hx)
   ·rw[if_neg h2]at h ht;simp only[if_neg h2]at fu⊢;by_cases h3:op=3
    ·subst h3;rw[if_pos rfl]at h ht;simp only[if_true]at fu⊢;obtain⟨q1,q2⟩:=b5.1 h;have hm:=ow (vs:=vs) blocks (c+1);have nL:fM cells c 1=true:=jm gQ (by omega) (by omega);refine Fg.jn (rS eh hc (Ha (ex:=loops) eh hc (vf (.inr (.inl rfl))) (nD.1 q1).1 (by omega) nL)) ?_;refine ED _ _ ?_ (vt loops [] blocks (c+1) eU q2 (by omega) (by omega) fu);intro t CY;obtain⟨l,hl,rfl⟩:=List.mem_map.1 CY;exact Wx hc nL l
    ·rw[if_neg h3]at h ht;simp only[if_neg h3]at fu⊢;by_cases h4:op=4
     ·subst h4;rw[if_pos rfl]at h ht;simp only[if_true]at fu⊢;have hs:cm 4 conds.length labels.length fields.length blocks.length=true:=bY;simp[cm]at hs;obtain⟨aP,_,_,gA⟩:=hs;cases hv:bf vs name with
      |none=>rw[hv]at h;simp at h
      |some v=>
       rw[hv]at h;simp only at h;split at h
       ·simp at h
       ·split at h
        ·simp at h
        ·rename_i g2;obtain⟨q1,q2⟩:=b5.1 h;have hm:=DT (vs:=vs) blocks (c+2);have oK:=Hb eh hc hv (fun e=>g2 (.inl e)) (by omega);have c1:fM cells c 1=true:=jm gQ (by omega) (by omega);have c2:fM cells (c+1) 1=true:=jm (by omega) (by omega) (by omega);have c3:fM cells c 2=true:=jm gQ (by omega) (by omega);refine Fg.jn ?_ (aa8 oK c3 c2 (CK blocks (c+2) eU q2 gA (by omega) (by omega) fu));obtain⟨x,y,z,rfl⟩:∃x y z,conds=[x,y,z]:=by
          match conds,aP with
          |[x,y,z],_=>exact⟨x,y,z,rfl⟩
         obtain⟨w1,w2⟩:=b5.1 q1;obtain⟨w2,w3⟩:=b5.1 w2;obtain⟨w3,_⟩:=b5.1 w3;simp only[bA,Bool.and_eq_true]at eP;simp only[fF,Int.zero_add,Int.reduceAdd]at ht;obtain⟨⟨f,i1,_⟩,_,_,i4⟩:=nF eh hc x [] eP.1 (nD.1 w1).1 (by simp;omega);obtain⟨⟨g,j1,_⟩,_,_,j4⟩:=nF eh hc y [f] eP.2.1 (nD.1 w2).1 (by simp;omega);obtain⟨⟨k,k1,_⟩,_,_,k4⟩:=nF eh hc z [f,g] eP.2.2.1 (nD.1 w3).1 (by simp;omega);refine rS eh hc ⟨?_,?_⟩
         ·simp only[ik];rw[db,db,i1];simp only[List.nil_append,Option.bind_some];rw[db,j1];simp only[List.cons_append,List.nil_append,Option.bind_some];rw[k1];have t1:=xM [f,g] k;have t2:=xM [f] g;have t3:=xM [] f;simp only[List.cons_append,List.nil_append]at t1 t2 t3;simp[bW,bZ,ins,t1,t2,t3]
         ·intro a ha;simp only[ik,List.mem_append,List.mem_cons,List.not_mem_nil,or_false]at ha;rcases ha with (ha|ha|ha)|rfl|rfl|rfl
          ·exact rR (i4 a ha)
          ·exact rR (j4 a ha)
          ·exact rR (k4 a ha)
          ·exact⟨.inr ⟨by simp[cQ,ins,c2],by simp[ins]⟩,by simp[eQ,ins]⟩
          ·exact⟨.inr ⟨by simp[cQ,ins,c1],by simp[ins]⟩,by simp[eQ,ins]⟩
          ·exact⟨.inr ⟨by simp[cQ,ins,oK],by simp[ins]⟩,by simp[eQ,ins]⟩
     ·rw[if_neg h4]at h ht;simp only[if_neg h4]at fu⊢;by_cases h5:op=5
      ·subst h5;rw[if_pos rfl]at h;rw[if_pos (.inl rfl)]at ht;simp only[if_true]at fu⊢;have hs:cm 5 conds.length labels.length fields.length blocks.length=true:=bY;simp[cm]at hs;obtain⟨q1,q2⟩:=b5.1 h;exact TA (G9 eh hc (vf (.inr (.inr (.inl rfl)))) q1 (by omega)) (CK blocks c eU q2 hs.2.2.2 (by omega) gQ fu)
      ·rw[if_neg h5]at h;simp only[if_neg h5]at fu⊢;by_cases h6:op=6
       ·subst h6;rw[if_pos rfl]at h;rw[if_pos (.inr rfl)]at ht;simp only[if_true]at fu⊢;have hs:cm 6 conds.length labels.length fields.length blocks.length=true:=bY;simp[cm]at hs;obtain⟨q1,q2⟩:=b5.1 h;refine aa7 (G9 eh hc (vf (.inr (.inr (.inr rfl)))) q2 (by omega)) (CK blocks c eU q1 hs.2.2.2 (by omega) gQ fu) ?_;match blocks,hs.2.2.2 with
        |[b],_=>exact NA vs b c
       ·rw[if_neg h6]at h;rw[if_neg (by omega)]at ht;simp only[if_neg h6]at fu⊢;by_cases h7:op=7
        ·subst h7;rw[if_pos rfl]at h;simp only[if_true]at⊢;split at h
         ·rename_i dc;subst dc;refine⟨Nat.le_refl _,by simp[bW,bZ,ins,gj],?_,?_,?_⟩
          ·intro x hx;simp at hx;subst hx;exact .inl (.inl rfl)
          ·intro i x hx hj h0;cases i with
           |zero=>simp at hx;subst hx;simp[ins]at h0
           |succ i=>simp at hx
          ·intro x hx hj h0;simp at hx;subst hx;exact⟨rfl,.inr ⟨rfl,rfl⟩⟩
         ·simp at h
        ·rw[if_neg h7]at h;simp only[if_neg h7]at⊢;by_cases h8:op=8
         ·subst h8;simp only[if_true];refine⟨Nat.le_refl _,by simp[bW,bZ,ins,gj],?_,?_,?_⟩
          ·intro x hx;simp at hx;subst hx;exact .inl (.inl rfl)
          ·intro i x hx hj h0;cases i with
           |zero=>simp at hx;subst hx;simp[ins]at h0
           |succ i=>simp at hx
          ·intro x hx hj h0;simp at hx;subst hx;exact⟨rfl,.inl rfl⟩
         ·have h9:op=9:=by omega
          subst h9;rw[if_pos rfl]at h;rw[if_neg (by omega)]at ht;simp only[if_neg h8];have hs:cm 9 conds.length labels.length fields.length blocks.length=true:=bY;simp[cm]at hs;cases hv:bf vs name with
          |none=>rw[hv]at h;simp at h
          |some v=>
           rw[hv]at h;simp only at h;split at h
           ·simp at h
           ·rename_i g1;have fg:=iG hv;obtain⟨i1,i2⟩:=Kz eh hc hv (by omega) fields conds [] hs.1 eP h ht;obtain⟨b1,b2,b3⟩:=DU eh hc hv (by omega);refine rS eh hc ⟨?_,?_⟩
            ·rw[db,i1];simp[bW,bZ,ins,gj]
            ·intro y hy;rcases List.mem_append.1 hy with hy|hy
             ·exact i2 y hy
             ·simp at hy;subst hy;refine⟨.inr ⟨?_,by simp[ins]⟩,by simp[eQ,ins]⟩;rw[fg];have qG:fM cells (cd vs name).1 (bq v.ty).length=true:=jm b1 (by omega) b2;simp[cQ,ins,xP,qG];exact decide_eq_true b3
theorem rT (loops:Bool):∀(l:List Sm) (c:Int),en l=true→(eA vs loops l).1=0→aY l≤64→0≤c→(ag vs l c).2≤cells→Fg cells loops (ag vs l c).1
 |[],c,_,_,_,_,_=>gm.plain rfl (by simp[ag]) (by simp[ag]) (Nat.le_refl _)
 |x::r,c,hf,h,ht,gQ,fu=>by
  simp only[en,Bool.and_eq_true]at hf;simp only[aY]at ht;obtain⟨h1,h2⟩:=b5.1 h;simp only[ag]at fu⊢;have m1:=xR (vs:=vs) x c;have m2:=gI (vs:=vs) r (cV vs x c).2;have i1:=Wz loops x c hf.1 h1 (by omega) gQ (by omega);have i2:=rT loops r (cV vs x c).2 hf.2 h2 (by omega) (by omega) fu;have tk:Fg cells loops [ins 11 0 0 0 0]:=gm.plain (by rw[Ar];rfl) (fun x hx=>by simp at hx;subst hx;exact nG.1) (fun x hx=>by simp at hx;subst hx;exact (nG (cells:=cells)).2) (Nat.le_refl _);exact Fg.jn (Fg.jn tk i1) i2
theorem vt (loops:Bool):∀(cs:List Ex) (l:List (List Sm)) (c:Int),cK l=true→(fB vs loops cs l).1=0→bV l≤64→0≤c→(ar vs l c).2≤cells→∀b∈(ar vs l c).1,Fg cells loops b
 |_,[],c,_,_,_,_,_,b,hb=>by simp[ar]at hb
 |[],x::r,c,hf,h,ht,gQ,fu,b,hb=>by
  simp only[cK,Bool.and_eq_true]at hf;simp only[bV]at ht;obtain⟨h1,h2⟩:=b5.1 h;simp only[ar]at fu hb;have m1:=gI (vs:=vs) x c;have m2:=ow (vs:=vs) r (ag vs x c).2;have i1:=rT loops x c hf.1 h1 (by omega) gQ (by omega);have i2:=vt loops [] r (ag vs x c).2 hf.2 h2 (by omega) (by omega) fu;rcases List.mem_cons.1 hb with rfl|hb
  ·exact i1
  ·exact i2 b hb
 |_::cs,x::r,c,hf,h,ht,gQ,fu,b,hb=>by
  simp only[cK,Bool.and_eq_true]at hf;simp only[bV]at ht;obtain⟨_,h⟩:=b5.1 h;obtain⟨h1,h2⟩:=b5.1 h;simp only[ar]at fu hb;have m1:=gI (vs:=vs) x c;have m2:=ow (vs:=vs) r (ag vs x c).2;have i1:=rT loops x c hf.1 h1 (by omega) gQ (by omega);have i2:=vt loops cs r (ag vs x c).2 hf.2 h2 (by omega) (by omega) fu;rcases List.mem_cons.1 hb with rfl|hb
  ·exact i1
  ·exact i2 b hb
theorem CK:∀(l:List (List Sm)) (c:Int),cK l=true→(sH vs l).1=0→l.length=1→bV l≤64→0≤c→(lj vs l c).2≤cells→Fg cells true (lj vs l c).1
 |[b],c,hf,h,_,ht,gQ,fu=>by
  simp only[cK,Bool.and_true]at hf;simp only[bV]at ht;exact rT true b c hf h (by omega) gQ fu
 |[],_,_,_,hl,_,_,_=>by simp at hl
 |_::_::_,_,_,_,hl,_,_,_=>by simp at hl
end
end
theorem rU {op a b n m:Int} (h:op<9∨10<op):Flat [ins op a b n m]:=Flat.one (by simp[ins];omega)
section
variable {vs:List Vr}
mutual
theorem lF:∀x:Ex,bk x=true→(aC vs x).e=0→Flat (ak vs x).1
 | .mk op n name field sub line,hf,h=>by
  have cR:=G5 hf;simp only[bk,Bool.and_eq_true,decide_eq_true_eq]at hf;obtain⟨_,hlen,_,_,fq⟩:=hf;unfold aC at h;unfold ak;by_cases kP:op=1∨op=2
  ·simp only[if_pos kP];exact rU (by omega)
  ·rw[if_neg kP]at h⊢;by_cases rP:op=3∨op=4∨op=5
   ·rw[if_pos rP]at h;cases hv:bf vs name with
    |none=>rw[hv]at h;simp[cA]at h
    |some v=>
     rw[hv]at h;simp only at h;have fg:(cd vs name).2=v:=iG hv;by_cases h5:op=5
     ·rw[if_pos h5]at h;rw[if_neg (by omega),if_pos h5];split at h
      ·simp[cA]at h
      ·rename_i mu;cases hp:kG v.ty field with
       |none=>rw[hp]at h;simp[cA]at h
       |some p=>
        obtain⟨_,hm,j,hj,_⟩:=GW (i:=0) hp;have hpa:=uu hv (by omega) hp;have hpt:=Qy hm;have:(iu vs name field).2=p:=by
         obtain⟨_,_,_,_⟩:=hpa;simp_all
        simp only[this];exact rU (by omega)
     ·rw[if_neg h5]at h;split at h
      ·simp[cA]at h
      ·rename_i DS;simp only[not_or,Int.not_lt]at DS;by_cases h4:op=4
       ·rw[if_pos h4]at h;rw[if_neg (by omega),if_neg h5,if_pos h4];simp only[fg];refine Flat.app (afm sub v.ty fq h) (rU (by omega))
       ·rw[if_pos (by omega)];simp only[fg];exact rU (by omega)
   ·rw[if_neg rP]at h;rw[if_neg (by omega),if_neg (by omega),if_neg (by omega)];exact Flat.app (afn sub op line fq h (by rw[hlen];unfold dE;split<;>(try split)<;>omega)) (rU (by omega))
theorem afm:∀(l:List Ex) (t:Int),bA l=true→(ug vs t l).e=0→Flat (ou vs l)
 |[],t,_,_=>by unfold ou;exact Flat.nil
 |x::r,t,hf,h=>by
  simp only[bA,Bool.and_eq_true]at hf;unfold ou;unfold ug at h;split at h
  ·rename_i he;exact absurd h he
  ·rename_i he;exact lF x hf.1 (by simpa using he)
theorem afn:∀(l:List Ex) (op line:Int),bA l=true→(qD vs op line l).e=0→l.length≤2→Flat (ik vs l).1
 |[],_,_,_,_,_=>by unfold ik;exact Flat.nil
 |[x],op,line,hf,h,_=>by
  simp only[bA,Bool.and_true]at hf;unfold qD at h;unfold ik;exact lF x hf (gY h).1
 |[x,y],op,line,hf,h,_=>by
  simp only[bA,Bool.and_true,Bool.and_eq_true]at hf;unfold qD at h;obtain⟨h1,h2,_⟩:=gY h;unfold ik ik;exact Flat.app (lF x hf.1 h1) (lF y hf.2 h2)
 |x::y::z::r,_,_,_,_,hl=>by simp at hl
end
theorem jK {x:Ex} {t:Int} (h:(dk vs x t).1=0):(aC vs x).e=0∧(aC vs x).t=t:=by
 unfold dk at h;split at h
 ·rename_i he;exact absurd h he
 ·rename_i he;split at h
  ·simp at h
  ·rename_i ht;exact⟨by simpa using he,by simpa using ht⟩
theorem VF (c:Int):∀l:List Int,Flat (ee c l)
 |[]=>by unfold ee;exact Flat.nil
 |[_]=>by unfold ee;exact Flat.nil
 |a::b::r=>by
  unfold ee;exact Flat.cons (by simp[ins]) (Flat.cons (by simp[ins]) (VF c r))
end
def jf (ex:Bool) (x:aq):Prop:=(x.op=10→0≤x.a)∧(x.op=9→0≤x.a∨x.a= -2∨(ex=true∧x.a= -1))
def Jf (ex:Bool) (l:List aq):Prop:=∀x∈l,jf ex x
section
variable {ex:Bool}
theorem Flat.jf {l:List aq} (h:Flat l):Jf ex l:=fun x hx=>⟨fun h9=>absurd h9 (h x hx).2,fun h9=>absurd h9 (h x hx).1⟩
theorem Jf.app {a b:List aq} (ha:Jf ex a) (hb:Jf ex b):Jf ex (a++b):=fun x hx=>(List.mem_append.1 hx).elim (ha x) (hb x)
theorem Jf.nil:Jf ex []:=fun _ h=>by simp at h
theorem Jf.one {x:aq} (h:Am.jf ex x):Jf ex [x]:=fun y hy=>by simp at hy;subst hy;exact h
theorem Jf.mv {l:List aq} (h:Jf ex l) (k:Nat):Jf ex (ic k l):=by
 intro x hx;obtain⟨y,hy,rfl⟩:=List.mem_map.1 hx;have:=h y hy;unfold Am.jf kR at*;split
 ·rename_i hc;exact⟨fun _=>by simp only;omega,fun _=>.inl (by simp only;omega)⟩
 ·exact this
theorem Jf.jn {a b:List aq} (ha:Jf ex a) (hb:Jf ex b):Jf ex (jn a b):=ha.app (hb.mv _)
theorem Jf.out {l:List aq} (h:Jf true l):Jf ex (nc l):=by
 intro x hx;obtain⟨y,hy,rfl⟩:=List.mem_map.1 hx;have:=h y hy;unfold Am.jf oT at*;split
 ·exact⟨fun _=>by simp only;omega,fun _=>.inl (by simp only;omega)⟩
 ·rename_i hc;refine⟨this.1,fun h9=>?_⟩;rcases this.2 h9 with h|h|h
  ·exact .inl h
  ·exact .inr (.inl h)
  ·exact absurd ⟨h9,h.2⟩ hc
end
theorem Hc {vs:List Vr} {name:Tx}:∀(fs:List Tx) (xs:List Ex),bA xs=true→(∀x∈xs,(aC vs x).e=0)→Flat (dM vs name fs xs)
 |[],xs,_,_=>by cases xs<;>simp only[dM]<;>exact Flat.nil
 |_::_,[],_,_=>by simp only[dM];exact Flat.nil
 |f::fs,x::xs,hf,h=>by
  simp only[bA,Bool.and_eq_true]at hf;simp only[dM];exact Flat.app (lF x hf.1 (h x (by simp))) (Flat.cons (by simp[ins]) (Hc fs xs hf.2 (fun y hy=>h y (by simp[hy]))))
end Go.Am
end
section
namespace Go.Am
open Go Go.Proofs
variable [Inhabited b6]
set_option maxRecDepth 20000
@[simp] def cE (x:aq):D:=.agg [.int .i64 x.op,.int .i64 x.a,.int .i64 x.b,.int .i64 x.n,.int .i64 x.m]
@[simp] def eH (ins:List aq) (vars cells:Int) (x y:AV):aD:=.box [.d (.list (ins.map cE)),.d (.int .i64 vars),.d (.int .i64 cells),x,y]
@[simp] def bD (l:List Bool):List D:=l.map .bool
section
variable (ins:List aq) (vars cells:Int) (s1 o1 n1 s2 o2 n2:Nat) (S T:List D)
theorem vu (at_ n:Int) (hc:0≤cells∧cells≤8192) (hI:aZ n):
 ai ctx 144 [.ptr 0 0 0,.d (.int .i64 at_),.d (.int .i64 n)] [eH ins vars cells (.vec 1 0 0 n1) (.vec 2 0 0 n2),.vec 1 S,.vec 1 T]=
  some (.ret (.d (.bool (fM cells at_ n))),[(0,eH ins vars cells (.vec 1 0 0 n1) (.vec 2 0 0 n2)),(0,.vec 1 S),(0,.vec 1 T)]):=by
 rw[Zz (by simp)];unfold fM;by_cases h1:0≤at_<;>by_cases h2:0≤n<;>by_cases h3:n≤cells<;>simp[Tryz.f144,h1,h2,h3];rw[ay (by unfold aZ;omega)]
theorem QH (x:aq) (hc:0≤cells∧cells≤8192):
 ai ctx 145 [.ptr 0 0 0,.d (cE x)] [eH ins vars cells (.vec 1 0 0 n1) (.vec 2 0 0 n2),.vec 1 S,.vec 1 T]=
  some (.ret (.d (.bool (Ag cells x))),[(0,eH ins vars cells (.vec 1 0 0 n1) (.vec 2 0 0 n2)),(0,.vec 1 S),(0,.vec 1 T)]):=by
 rw[ZA (by simp)];unfold Ag;by_cases h1:0≤x.n
 ·by_cases h2:x.n≤x.m
  ·by_cases h3:x.m≤255
   ·have h:=vu ins vars cells n1 n2 S T x.a (x.m-x.n+1) hc (by unfold aZ;omega);have w1:IntKind.i64.wrap (x.m-x.n)=x.m-x.n:=ay (by unfold aZ;omega);have w2:IntKind.i64.wrap (x.m-x.n+1)=x.m-x.n+1:=ay (by unfold aZ;omega);simp at h;simp[Tryz.f145,h1,h2,h3,w1,w2,h]
   ·simp[Tryz.f145,h1,h2,h3]
  ·simp[Tryz.f145,h1,h2]
 ·simp[Tryz.f145,h1]
theorem TB (x:aq):ai ctx 146 [.d (cE x)] []=some (.ret (.d (.bool (qV x))),[]):=by
 rw[ZB (by simp)];unfold qV;by_cases h0:x.a=0
 ·by_cases h1:x.b=6
  ·simp[Tryz.f146,h0,h1]
  ·by_cases h2:8≤x.b<;>simp[Tryz.f146,h0,h1,h2]
 ·by_cases h1:x.a=1
  ·by_cases h2:x.b=7
   ·simp[Tryz.f146,h1,h2]
   ·by_cases h3:x.b=13
    ·simp[Tryz.f146,h1,h3]
    ·by_cases h4:x.b=14
     ·simp[Tryz.f146,h1,h4]
     ·by_cases h5:19≤x.b<;>simp[Tryz.f146,h1,h2,h3,h4,h5]
  ·simp[Tryz.f146,h0,h1]
end
structure Mk where
 out:List aq
 cells:Int
 most:Int
 ex:List (List Int)
 lv:List Int
@[simp] def dy (n:Int):D:=.int .i64 n
@[simp] def fO (l:List Int):List D:=l.map dy
@[simp] def mkB (p:Pg) (m:Mk) (h:Int):aD:=.box [.d (.str p.name),.d (.list (p.vars.map bG)),.d (.list (p.body.map cC)),.vec 1 0 0 m.out.length,.d (.int .i64 m.cells),.d (.int .i64 h),.d (.int .i64 m.most),.vec 2 0 0 m.ex.length,.vec 3 0 0 m.lv.length]
@[simp] def fQ (p:Pg) (m:Mk) (h:Int):List aD:=[mkB p m h,.vec 5 (m.out.map cE),.vv (m.ex.map fO) none,.vec 1 (m.lv.map dy)]
@[simp] def KA (p:Pg) (m:Mk) (h:Int) (v1 v2 v3:Nat):List (Nat×aD):=[(0,.box [.d (.str p.name),.d (.list (p.vars.map bG)),.d (.list (p.body.map cC)),.vec 1 v1 0 m.out.length,.d (.int .i64 m.cells),.d (.int .i64 h),.d (.int .i64 m.most),.vec 2 v2 0 m.ex.length,.vec 3 v3 0 m.lv.length]),(v1,.vec 5 (m.out.map cE)),(v2,.vv (m.ex.map fO) none),(v3,.vec 1 (m.lv.map dy))]
@[simp] def gJ (p:Pg) (m:Mk) (h:Int) (a b c va vb vc:Nat):aD:=.box [.d (.str p.name),.d (.list (p.vars.map bG)),.d (.list (p.body.map cC)),.vec a va 0 m.out.length,.d (.int .i64 m.cells),.d (.int .i64 h),.d (.int .i64 m.most),.vec b vb 0 m.ex.length,.vec c vc 0 m.lv.length]
def fR (p:Pg) (m:Mk) (h:Int) (o:Out) (r:bU):Prop:=∃v1 v2 v3,r=some (o,KA p m h v1 v2 v3)
def Mk.put (m:Mk) (x:aq) (t:Int):Mk:={m with out:=m.out++[x],most:=max m.most t}
theorem mxI (a b:Int):(if a<b then b else a)=max a b:=by
 rw[Int.max_def];by_cases h:a<b
 ·rw[if_pos h,if_pos (by omega)]
 ·by_cases h2:a=b
  ·subst h2;simp
  ·rw[if_neg h,if_neg (by omega)]
theorem BR (p:Pg) (m:Mk) (h:Int):ai ctx 143 [.ptr 0 0 0] (fQ p m h)=some (.ret (.d (.int .i64 m.out.length)),KA p m h 0 0 0):=by
 rw[Zy (by simp)];simp[Tryz.f143]
theorem jo (p:Pg) (m:Mk) (h il:Int) (x:aq) (hl:m.out.length<100000000) (hw:IntKind.i64.wrap (h+il)=h+il):fR p (m.put x (h+il)) (h+il) (.ret (.d (.int .i64 m.out.length))) (ai ctx 53 [.ptr 0 0 0,.d (cE x),.d (.int .i64 il)] (fQ p m h)):=by
 have w0:IntKind.i64.wrap (m.out.length:Int)=m.out.length:=ay (by unfold aZ;omega);have w3:m.out.length≤4611686018427387903:=by omega
 have w4:(m.out.length+1)*40≤140737488355328:=by omega
 rw[Nn (by simp)];simp[Tryz.f53,aI,hw,w0,w3,w4,mxI];exact⟨1,0,0,by simp[Mk.put]⟩
theorem QI (p:Pg) (m:Mk) (h n:Int) (hw:IntKind.i64.wrap (m.cells+n)=m.cells+n):fR p {m with cells:=m.cells+n} h (.ret (.d (.int .i64 m.cells))) (ai ctx 207 [.ptr 0 0 0,.d (.int .i64 n)] (fQ p m h)):=by
 rw[ZP (by simp)];simp[Tryz.f207,hw];exact⟨_,_,_,rfl⟩
theorem pq (p:Pg) (m:Mk) (h at_:Int) (hl:m.out.length<100000000) (hw:IntKind.i64.wrap (h+ -1)=h+ -1):fR p (m.put (ins 6 at_ 0 0 0) (h+ -1)) (h+ -1) (.ret (.aU [])) (ai ctx 203 [.ptr 0 0 0,.d (.int .i64 at_)] (fQ p m h)):=by
 obtain⟨v1,v2,v3,ha⟩:=jo p m h (-1) (ins 6 at_ 0 0 0) hl hw;generalize m.put (ins 6 at_ 0 0 0) (h+ -1)=M at*;rw[ZL (by simp)];simp[ins]at ha;simp[Tryz.f203,ha];exact⟨_,_,_,rfl⟩
theorem mc (p:Pg) (m:Mk) (h:Int) (hl:m.out.length<100000000) (hw:IntKind.i64.wrap h=h):fR p (m.put (ins 11 0 0 0 0) h) h (.ret (.aU [])) (ai ctx 133 [.ptr 0 0 0] (fQ p m h)):=by
 obtain⟨v1,v2,v3,ha⟩:=jo p m h 0 (ins 11 0 0 0 0) hl (by simpa using hw);rw[show h+0=h by omega]at ha;generalize m.put (ins 11 0 0 0 0) h=M at*;rw[Zt (by simp)];simp[ins]at ha;simp[Tryz.f133,ha];exact⟨_,_,_,rfl⟩
theorem vy (p:Pg) (m:Mk) (h to:Int) (hl:m.out.length<100000000) (hw:IntKind.i64.wrap (h+ -1)=h+ -1):fR p (m.put (ins 10 to 0 0 0) (h+ -1)) (h+ -1) (.ret (.d (.int .i64 m.out.length))) (ai ctx 204 [.ptr 0 0 0,.d (.int .i64 to)] (fQ p m h)):=by
 obtain⟨v1,v2,v3,ha⟩:=jo p m h (-1) (ins 10 to 0 0 0) hl hw;generalize m.put (ins 10 to 0 0 0) (h+ -1)=M at*;rw[ZM (by simp)];simp[ins]at ha;simp[Tryz.f204,ha];exact⟨_,_,_,rfl⟩
theorem BS (p:Pg) (m:Mk) (h to:Int) (hl:m.out.length<100000000) (hw:IntKind.i64.wrap h=h):fR p (m.put (ins 9 to 0 0 0) h) h (.ret (.d (.int .i64 m.out.length))) (ai ctx 141 [.ptr 0 0 0,.d (.int .i64 to)] (fQ p m h)):=by
 obtain⟨v1,v2,v3,ha⟩:=jo p m h 0 (ins 9 to 0 0 0) hl (by simpa using hw);rw[show h+0=h by omega]at ha;generalize m.put (ins 9 to 0 0 0) h=M at*;rw[Gm (by simp)];simp[ins]at ha;simp[Tryz.f141,ha];exact⟨_,_,_,rfl⟩
theorem BT (p:Pg) (m:Mk) (h at_ t:Int) (hl:m.out.length<100000000) (hw:IntKind.i64.wrap (h+1)=h+1):fR p (m.put (ins (if t=2 then 3 else 2) at_ 0 0 0) (h+1)) (h+1) (.ret (.aU [])) (ai ctx 205 [.ptr 0 0 0,.d (.int .i64 at_),.d (.int .i64 t)] (fQ p m h)):=by
 obtain⟨v1,v2,v3,ha⟩:=jo p m h 1 (ins (if t=2 then 3 else 2) at_ 0 0 0) hl hw;generalize m.put (ins (if t=2 then 3 else 2) at_ 0 0 0) (h+1)=M at*;rw[ZN (by simp)];by_cases ht:t=2
 ·simp[ins,ht]at ha;simp[Tryz.f205,ht,ha];exact⟨_,_,_,rfl⟩
 ·simp[ins,ht]at ha;simp[Tryz.f205,ht,ha];exact⟨_,_,_,rfl⟩
def Mk.lead (m:Mk) (at_:Int):Mk:={m with out:=setAt m.out at_ m.out.length}
theorem QJ:∀(l:List aq) (i:Nat) (v:Int) (hi:i<l.length),(l.map cE).set i (.agg [.int .i64 l[i].op,.int .i64 v,.int .i64 l[i].b,.int .i64 l[i].n,.int .i64 l[i].m])=(setAt l i v).map cE
 |x::l,0,v,hi=>by simp[setAt]
 |x::l,i+1,v,hi=>by
  have ih:=QJ l i v (by simpa using hi);simp only[setAt,Int.toNat_natCast]at ih⊢;have e:((i+1:Nat):Int).toNat=i+1:=by omega
  try rw[e]
  simp only[List.map_cons,List.set_cons_succ,List.getElem_cons_succ,List.modify_succ_cons];rw[ih]
theorem qh (p:Pg) (m:Mk) (h:Int) (i:Nat) (hi:i<m.out.length) (hl:m.out.length<100000000):ai ctx 92 [.ptr 0 0 0,.d (.int .i64 i)] (fQ p m h)=some (.ret (.aU []),KA p (m.lead i) h 0 0 0):=by
 have ha:=BR p m h;have hs:=QJ m.out i m.out.length hi;rw[ae3 (by simp)];simp at ha hs;simp[Tryz.f92,ha,hi,Cu,Et,Es,vh,xA,yp,lO,m5,nZ,qP,Bc,Be,Bf,Bg,eZ,qO,tj,Ck,sr,zT,IN,OE,FH,dX,dstep,kE,pE,aR.app];simp[hs,Mk.lead]
def Mk.cv (m:Mk) (ps:List Int):Mk:={m with out:=jl m.out ps m.out.length}
theorem rV (m:Mk) (i:Int) (ps:List Int):m.cv (i::ps)=(m.lead i).cv ps:=by
 unfold Mk.cv Mk.lead;simp only[pI,QB]
@[simp] theorem As (m:Mk) (i:Int):(m.lead i).out.length=m.out.length:=by simp[Mk.lead]
def Pl (n:Nat) (ps:List Int):Prop:=∀i∈ps,∃k:Nat,i=k∧k<n
theorem xS (p:Pg) (h:Int) (l:List Int) (bm:l.length<100000000) (k:Kt) (R:bU):∀(rest pre:List Int) (m:Mk),l=pre++rest→m.out.length<100000000→Pl m.out.length rest→
 (∀Y:Env,k (.exit 0) ⟨16,aB,Y,[⟨0,0,gJ p (m.cv rest) h 2 3 4 0 0 0⟩,⟨1,0,.vec 1 (l.map dy)⟩,⟨2,0,.vec 5 ((m.cv rest).out.map cE)⟩,⟨3,0,.vv (m.ex.map fO) none⟩,⟨4,0,.vec 1 (m.lv.map dy)⟩]⟩=R)→
 aG ctx 52 (.loop (Code.at (bh Tryz.f52) [1,0,0])) ⟨16,aB,[(0,true,.ptr 0 0 0),(6,true,.vec 1 0 0 l.length),(7,true,.d (.int .i64 l.length)),(8,true,.d (.int .i64 pre.length))],[⟨0,0,gJ p m h 2 3 4 0 0 0⟩,⟨1,0,.vec 1 (l.map dy)⟩,⟨2,0,.vec 5 (m.out.map cE)⟩,⟨3,0,.vv (m.ex.map fO) none⟩,⟨4,0,.vec 1 (m.lv.map dy)⟩]⟩ k=R
 |[],pre,m,hd,hl,hp,hx=>by
  have cw:pre.length=l.length:=by rw[hd];simp
  have e:m.cv []=m:=rfl;rw[e]at hx;simp at hx;rw[cw,ah];simp[Tryz.f52,hx]
 |i::rest,pre,m,hd,hl,hp,hx=>by
  obtain⟨j,rfl,hj⟩:=hp i (by simp);have aV:pre.length<l.length:=by rw[hd];simp
  have aS:l[pre.length]=(j:Int):=by simp[hd]
  have hle:=qh p m h j hj hl;have w1:IntKind.i64.wrap ((pre.length:Int)+1)=(pre.length:Int)+1:=ay (by unfold aZ;omega);have ih:=xS p h l bm k R rest (pre++[(j:Int)]) (m.lead j) (by simp[hd]) (by simpa using hl) (fun i hi=>by simpa using hp i (by simp[hi])) (fun Y=>by have:=hx Y;rw[rV]at this;exact this);clear hx;generalize m.lead j=M at*;rw[ah];simp[Tryz.f52]at ih hle⊢;simp[aV,aS,hle,w1,ih]
theorem sU (p:Pg) (m:Mk) (h:Int) (l:List Int) (bm:l.length<100000000) (hl:m.out.length<100000000) (hp:Pl m.out.length l):ai ctx 52 [.ptr 0 0 0,.vec 1 0 0 l.length] [gJ p m h 2 3 4 0 0 0,.vec 1 (l.map dy),.vec 5 (m.out.map cE),.vv (m.ex.map fO) none,.vec 1 (m.lv.map dy)]=
 some (.ret (.aU []),[(0,gJ p (m.cv l) h 2 3 4 0 0 0),(0,.vec 1 (l.map dy)),(0,.vec 5 ((m.cv l).out.map cE)),(0,.vv (m.ex.map fO) none),(0,.vec 1 (m.lv.map dy))]):=by
 have dc:=fun k R hx=>xS p h l bm k R l [] m rfl hl hp hx;rw[Vn (by simp)];simp[Tryz.f52]at dc⊢;have e1:(m.cv l).ex=m.ex:=rfl;have e2:(m.cv l).lv=m.lv:=rfl;rw[dc _ (some (.ret (.aU []),[(0,gJ p (m.cv l) h 2 3 4 0 0 0),(0,.vec 1 (l.map dy)),(0,.vec 5 ((m.cv l).out.map cE)),(0,.vv (m.ex.map fO) none),(0,.vec 1 (m.lv.map dy))])) (fun Y=>by simp[e1,e2])];simp
theorem zx (p:Pg) (h:Int) (l:List Int) (bm:l.length<100000000) (k:Kt) (R:bU):∀(rest pre:List Int) (m:Mk),l=m.lv→l=pre++rest→m.out.length<100000000→Pl m.out.length rest→
 (∀Y:Env,k (.exit 0) ⟨16,aB,Y,[⟨0,0,gJ p (m.cv rest) h 2 3 1 0 0 0⟩,⟨1,0,.vec 1 (m.lv.map dy)⟩,⟨2,0,.vec 5 ((m.cv rest).out.map cE)⟩,⟨3,0,.vv (m.ex.map fO) none⟩]⟩=R)→
 aG ctx 52 (.loop (Code.at (bh Tryz.f52) [1,0,0])) ⟨16,aB,[(0,true,.ptr 0 0 0),(6,true,.vec 1 0 0 l.length),(7,true,.d (.int .i64 l.length)),(8,true,.d (.int .i64 pre.length))],[⟨0,0,gJ p m h 2 3 1 0 0 0⟩,⟨1,0,.vec 1 (m.lv.map dy)⟩,⟨2,0,.vec 5 (m.out.map cE)⟩,⟨3,0,.vv (m.ex.map fO) none⟩]⟩ k=R
 |[],pre,m,nq,hd,hl,hp,hx=>by
  have cw:pre.length=l.length:=by rw[hd];simp
  have e:m.cv []=m:=rfl;rw[e]at hx;simp at hx;rw[cw,ah];simp[Tryz.f52,hx]
 |i::rest,pre,m,nq,hd,hl,hp,hx=>by
  obtain⟨j,rfl,hj⟩:=hp i (by simp);have aV:pre.length<m.lv.length:=by rw[←nq,hd];simp
  have aS:m.lv[pre.length]=(j:Int):=by
   have:l[pre.length]?=some (j:Int):=by rw[hd];simp
   rw[nq]at this;exact (List.getElem?_eq_some_iff.1 this).2
  have sV:l.length=m.lv.length:=by rw[nq]
  have hle:=qh p m h j hj hl;have w1:IntKind.i64.wrap ((pre.length:Int)+1)=(pre.length:Int)+1:=ay (by unfold aZ;omega);have ih:=zx p h l bm k R rest (pre++[(j:Int)]) (m.lead j) nq (by simp[hd]) (by simpa using hl) (fun i hi=>by simpa using hp i (by simp[hi])) (fun Y=>by have:=hx Y;rw[rV]at this;exact this);have e2:(m.lead j).lv=m.lv:=rfl;clear hx;generalize m.lead j=M at*;rw[ah];simp[Tryz.f52]at ih hle⊢;rw[e2]at ih hle;simp[aV,aS,sV,hle,w1,ih];simp[sV]at ih;exact ih
theorem TC (p:Pg) (m:Mk) (h:Int) (bm:m.lv.length<100000000) (hl:m.out.length<100000000) (hp:Pl m.out.length m.lv):ai ctx 52 [.ptr 0 0 0,.vec 1 0 0 m.lv.length] [gJ p m h 2 3 1 0 0 0,.vec 1 (m.lv.map dy),.vec 5 (m.out.map cE),.vv (m.ex.map fO) none]=
 some (.ret (.aU []),[(0,gJ p (m.cv m.lv) h 2 3 1 0 0 0),(0,.vec 1 (m.lv.map dy)),(0,.vec 5 ((m.cv m.lv).out.map cE)),(0,.vv (m.ex.map fO) none)]):=by
 have dc:=fun k R hx=>zx p h m.lv bm k R m.lv [] m rfl rfl hl hp hx;rw[Vn (by simp)];simp[Tryz.f52]at dc⊢;have e1:(m.cv m.lv).ex=m.ex:=rfl;have e2:(m.cv m.lv).lv=m.lv:=rfl;rw[dc _ (some (.ret (.aU []),[(0,gJ p (m.cv m.lv) h 2 3 1 0 0 0),(0,.vec 1 (m.lv.map dy)),(0,.vec 5 ((m.cv m.lv).out.map cE)),(0,.vv (m.ex.map fO) none)])) (fun Y=>by simp[e1,e2])];simp
theorem KB (l:List Vr) (bm:l.length≤1000) (hf:∀v∈l,du v=true) (s:Tx) (E:cJ) (hE:E.key=200) (k:Kt) (R:bU) (RP:Int→Vr→bU)
 (hr:∀(n:Int) (w:Vr) v1 v2 X2,k .ret ⟨29,aB,[(4,true,.d (.int .i64 n)),(5,true,.ptr 350 v1 0),(6,true,.d (.bool true))],[E,⟨350,v1,ib w⟩,⟨550,v2,X2⟩]⟩=RP n w)
 (hx:∀(Y:Env) v1 v2 X2,k (.exit 0) ⟨29,aB,(1,true,.d (.str s))::(5,true,.ptr 350 v1 0)::Y,[E,⟨350,v1,ib zw⟩,⟨550,v2,X2⟩]⟩=R):∀(rest pre:List Vr) (n:Int) (v1 v2:Nat) (X2:aD),l=pre++rest→0≤n→n≤1000*pre.length→
 aG ctx 202 (.loop (Code.at (bh Tryz.f202) [1,1,0,1,0,0])) ⟨29,aB,[(1,true,.d (.str s)),(5,true,.ptr 350 v1 0),(7,true,.d (.int .i64 n)),(11,true,.d (.list (l.map bG))),(12,true,.d (.int .i64 l.length)),(13,true,.d (.int .i64 pre.length))],[E,⟨350,v1,ib zw⟩,⟨550,v2,X2⟩]⟩ k=if (bf rest s).isSome=true then RP (oS rest s n).1 (oS rest s n).2 else R
 |[],pre,n,v1,v2,X2,hd,h0,hn=>by
  have cw:pre.length=l.length:=by rw[hd];simp
  simp[ib,zw]at hx;rw[cw,ah];simp[Tryz.f202,ib,zw,bf];exact hx _ _ _ _
 |w::rest,pre,n,v1,v2,X2,hd,h0,hn=>by
  have aV:pre.length<l.length:=by rw[hd];simp
  have aS:l[pre.length]=w:=by simp[hd]
  have hc:=Gn (hf w (by rw[hd];simp));have kM:=pG (hf w (by rw[hd];simp));have ih:=fun v2 X2=>KB l bm hf s E hE k R RP hr hx rest (pre++[w]) (n+bH w) v1 v2 X2 (by simp[hd]) (by omega) (by simp;omega);have w1:IntKind.i64.wrap ((pre.length:Int)+1)=(pre.length:Int)+1:=ay (by unfold aZ;omega);have w2:IntKind.i64.wrap (n+bH w)=n+bH w:=ay (by unfold aZ;omega);rw[ah];simp only[bf,oS];by_cases hs:w.name=s
  ·simp[Tryz.f202];have:=hr n w v1 (v2+1);simp[ib,hs]at this;simp[aV,aS,hE,bG,eu,hs,aI,this]
  ·simp[Tryz.f202,bG,eu]at ih hc⊢;simp[aV,aS,hE,bG,eu,hs,hc,w1,w2,ih]
abbrev qi (p:Pg):D:=.agg [.str p.name,.list (p.vars.map bG),.list (p.body.map cC)]
theorem pr (p:Pg) (bm:p.vars.length≤1000) (hf:∀v∈p.vars,du v=true) (s:Tx):ai ctx 202 [.d (qi p),.d (.str s)] []=some (.ret (.aU [.d (.int .i64 (cd p.vars s).1),.d (bG (cd p.vars s).2),.d (.bool (bf p.vars s).isSome)]),[]):=by
 have dc:=fun E hE k R RP hr hx v1 v2 X2=>KB p.vars bm hf s E hE k R RP hr hx p.vars [] 0 v1 v2 X2 rfl (by omega) (by simp);have key:(if (bf p.vars s).isSome=true then some (.ret (.aU [.d (.int .i64 (oS p.vars s 0).1),.d (bG (oS p.vars s 0).2),.d (.bool true)]),([]:List (Nat×aD)))else some (.ret (.aU [.d (.int .i64 0),.d (bG zw),.d (.bool false)]),[]))=some (Out.ret (.aU [.d (.int .i64 (cd p.vars s).1),.d (bG (cd p.vars s).2),.d (.bool (bf p.vars s).isSome)]),([]:List (Nat×aD))):=by
  unfold cd;cases h:(bf p.vars s).isSome with
  |true=>simp
  |false=>
   have h0:∀(l:List Vr) n,(bf l s).isSome=false→oS l s n=(0,zw):=by
    intro l;induction l with
    |nil=>intro n _;rfl
    |cons v r ih=>
     intro n hn;simp only[bf,oS]at hn⊢;split at hn
     ·cases hn
     ·rename_i bE;rw[if_neg bE];exact ih _ hn
   simp[h0 _ _ h]
 rw[ZK (by simp)];simp[Tryz.f202,ib,zw]at dc⊢;rw[dc _ rfl _ (some (.ret (.aU [.d (.int .i64 0),.d (bG zw),.d (.bool false)]),[])) (fun n w=>some (.ret (.aU [.d (.int .i64 n),.d (bG w),.d (.bool true)]),[]))]
 ·exact key
 ·intro n w v1 v2 X2;simp[bG,eu]
 ·intro Y v1 v2 X2;simp[bG,eu,zw,aI]
theorem WA (s:Tx) (q:Pn):ai ctx 263 [.d (cS q),.ptr 0 0 0] [.box [.d (.str s)]]=some (.ret (.d (.bool (decide (q.name=s)))),[(0,.box [.d (.str s)])]):=by
 rw[ZX (by simp)];simp[Tryz.f263,cS]
theorem DV (s:Tx):∀(rest pre:List Pn),(pre++rest).length<1000000→∀k:Kt,
 aG ctx 262 (.loop (Code.at (bh Tryz.f262) [1,0,1,0,0])) ⟨19,aB,[(0,true,.d (.list ((pre++rest).map cS))),(1,true,.fn 263 [.ptr 0 0 0]),(7,true,.d (.int .i64 (pre++rest).length)),(8,true,.d (.int .i64 pre.length))],[⟨0,0,.box [.d (.str s)]⟩]⟩ k=
  if og (fun q:Pn=>decide (q.name=s)) rest pre.length<0 then k (.exit 0) ⟨19,aB,[(0,true,.d (.list ((pre++rest).map cS))),(1,true,.fn 263 [.ptr 0 0 0]),(7,true,.d (.int .i64 (pre++rest).length)),(8,true,.d (.int .i64 (pre++rest).length)),(9,true,.d (.bool false))],[⟨0,0,.box [.d (.str s)]⟩]⟩
  else k .ret ⟨19,aB,[(4,true,.d (.int .i64 (og (fun q:Pn=>decide (q.name=s)) rest pre.length)))],[⟨0,0,.box [.d (.str s)]⟩]⟩
 |[],pre,hl,k=>by
  rw[ah];simp[Tryz.f262,og]
 |x::rest,pre,hl,k=>by
  obtain⟨b,hb⟩:∃b,b=(fun q:Pn=>decide (q.name=s)) x:=⟨_,rfl⟩;have hs:ai ctx 263 [.d (cS x),.ptr 0 0 0] [.box [.d (.str s)]]=some (.ret (.d (.bool b)),[(0,.box [.d (.str s)])]):=by rw[hb];exact WA s x
  have key:og (fun q:Pn=>decide (q.name=s)) (x::rest) pre.length=if b=true then (pre.length:Int)else og (fun q:Pn=>decide (q.name=s)) rest (pre.length+1):=by rw[hb];rfl
  have ih:=DV s rest (pre++[x]) (by simpa using hl) k;have h1:(pre.length:Int)<pre.length+(rest.length+1):=by omega
  have h2:IntKind.i64.wrap ((pre.length:Int)+1)=pre.length+1:=ay (by unfold aZ;simp at hl;omega);have h3:¬((pre.length:Int)<0):=by omega
  try simp[cS]at hs
  rw[ah,key];clear hb key;cases b with
  |true=>simp[Tryz.f262,h1,h2,h3,hs,cS]
  |false=>
   simp[Tryz.f262,cS]at ih⊢;simp[h1,h2,hs,ih,cS]
theorem WB (s:Tx) (l:List Pn) (hl:l.length<1000000):ai ctx 262 [.d (.list (l.map cS)),.fn 263 [.ptr 0 0 0]] [.box [.d (.str s)]]=some (.ret (.d (.int .i64 (og (fun q:Pn=>decide (q.name=s)) l 0))),[(0,.box [.d (.str s)])]):=by
 have h:=fun k=>DV s l [] (by simpa using hl) k;rw[ZW (by simp)];simp[Tryz.f262]at h⊢;simp[h];intro h;rcases BF (fun q:Pn=>decide (q.name=s)) l 0 with h1|h1
 ·exact h1.symm
 ·omega
theorem Hd (s:Tx):∀(l:List Pn) (n:Nat),(match xK l s n with
 |some (i,q)=>og (fun q:Pn=>decide (q.name=s)) l n=i∧n≤i∧l[i-n]?=some q
 |none=>og (fun q:Pn=>decide (q.name=s)) l n= -1)
 |[],n=>rfl
 |q::l,n=>by
  have ih:=Hd s l (n+1);simp only[xK,og];by_cases h:q.name=s
  ·rw[if_pos h];simp[h]
  ·rw[if_neg h];simp only[h,decide_false,Bool.false_eq_true,if_false];cases hp:xK l s (n+1)with
   |none=>rw[hp]at ih;exact ih
   |some x=>
    obtain⟨i,w⟩:=x;rw[hp]at ih;obtain⟨h1,h2,h3⟩:=ih;refine⟨h1,by omega,?_⟩;rw[show i-n=(i-(n+1))+1 by omega];simpa using h3
theorem He (p:Pg) (bm:p.vars.length≤1000) (hf:∀v∈p.vars,du v=true) (s f:Tx):∃b,ai ctx 206 [.d (qi p),.d (.str s),.d (.str f)] []=some (.ret (.aU [.d (.int .i64 (iu p.vars s f).1),.d (cS (iu p.vars s f).2),.d (.bool b)]),[]):=by
 have ha:=pr p bm hf s;have fg:0≤(cd p.vars s).1∧(cd p.vars s).1≤1000*1000:=by
  have key:∀(l:List Vr) (n:Int),(∀v∈l,du v=true)→0≤n→(oS l s n).1=0∨(n≤(oS l s n).1∧(oS l s n).1≤n+1000*l.length):=by
   intro l;induction l with
   |nil=>intro n _ _;exact .inl rfl
   |cons v r ih=>
    intro n hv hn;have hc:=pG (hv v (by simp));simp only[oS];split
    ·exact .inr ⟨by omega,by simp;omega⟩
    ·rcases ih (n+bH v) (fun w hw=>hv w (by simp[hw])) (by omega)with h|h
     ·exact .inl h
     ·exact .inr ⟨by omega,by simp;omega⟩
  unfold cd;rcases key p.vars 0 hf (by omega)with h|h<;>omega
 have hsp:=J8 (cd p.vars s).2.ty;have dg:=xF (cd p.vars s).2.ty;have VG:=WB f (bq (cd p.vars s).2.ty) (by omega);have jD:=Hd f (bq (cd p.vars s).2.ty) 0;unfold iu;generalize (cd p.vars s)=A at*;obtain⟨n,w⟩:=A;simp only at*;rw[ZO (by simp)];cases hv:bf p.vars s with
 |none=>
  rw[hv]at ha;exact⟨_,by simp[Tryz.f206,ha,bG,eu,CC,cS];rfl⟩
 |some v=>
  rw[hv]at ha;by_cases ht:2<w.ty
  ·by_cases VH:f=[]
   ·exact⟨_,by simp[Tryz.f206,ha,bG,eu,CC,cS,ht,VH];rfl⟩
   ·cases hp:xK (bq w.ty) f 0 with
    |none=>
     rw[hp]at jD;simp only at jD;rw[jD]at VG;refine⟨false,?_⟩;simp[Tryz.f206,ha,bG,eu,CC,cS,ht,VH,hsp,VG]
    |some x=>
     obtain⟨i,q⟩:=x;rw[hp]at jD;obtain⟨g1,g2,g3⟩:=jD;refine⟨true,?_⟩;rw[g1]at VG;have hi:i<(bq w.ty).length:=by
      have:=(List.getElem?_eq_some_iff.1 g3).1;simpa using this
     have hq:(bq w.ty)[i]=q:=by
      have:=(List.getElem?_eq_some_iff.1 g3).2;simpa using this
     have w1:IntKind.i64.wrap (n+i)=n+i:=ay (by unfold aZ;omega);have w2:¬((i:Int)<0):=by omega
     simp[Tryz.f206,ha,bG,eu,ht,VH,hsp,VG,aI,w1,w2,hi,hq,cS]
  ·have fL:w.ty≤2:=by omega
   exact⟨_,by simp[Tryz.f206,ha,bG,eu,CC,cS,ht,fL];rfl⟩
def Mk.au (m:Mk) (l:List aq) (t:Int):Mk:={m with out:=m.out++l,most:=max m.most t}
def KE (p:Pg) (x:Ex):Prop:=∀(m:Mk) (h:Int),0≤h→h≤m.out.length→0≤m.most→m.out.length+(ak p.vars x).1.length<100000000→
 fR p (m.au (ak p.vars x).1 (aJ h x)) (h+1) (.ret (.d (.bool (ak p.vars x).2))) (ai ctx 137 [.ptr 0 0 0,.d (.agg [.int .i64 (bO x),.int .i64 (ia x),.str (dB x),.str (fw x),.list ((cO x).map bL),.int .i64 (jH x)])] (fQ p m h))
theorem WC {k:Int} {q:Pn} (h:q∈bq k):q.ty=1∨q.ty=2:=by
 by_cases hb:k∈gH
 ·have all:∀q∈bq k,q.ty=1∨q.ty=2:=by
   simp only[gH,List.mem_cons,List.not_mem_nil,or_false]at hb;rcases hb with rfl|rfl|rfl|rfl|rfl|rfl|rfl|rfl|rfl|rfl|rfl|rfl|rfl|rfl|rfl|rfl|rfl|rfl|rfl|rfl|rfl<;>decide
  exact all q h
 ·rw[oc hb]at h;simp at h
section
variable {p:Pg} (bm:p.vars.length≤1000) (hf:∀v∈p.vars,du v=true)
theorem aba {n line:Int}:KE p (.mk 1 n [] [] [] line):=by
 intro m h h0 hh hm hl;simp[ak]at hl;obtain⟨v1,v2,v3,ha⟩:=jo p m h 1 (ins 1 0 0 n 0) (by omega) (ay (by unfold aZ;omega));have e:m.au (ak p.vars (.mk 1 n [] [] [] line)).1 (aJ h (.mk 1 n [] [] [] line))=m.put (ins 1 0 0 n 0) (h+1):=by simp[ak,aJ,Mk.au,Mk.put]
 rw[e];generalize m.put (ins 1 0 0 n 0) (h+1)=M at*;simp[ins]at ha;rw[rN (by simp)];simp[Tryz.f137,ha,ak];exact⟨_,_,_,rfl⟩
theorem abb {n line:Int}:KE p (.mk 2 n [] [] [] line):=by
 intro m h h0 hh hm hl;simp[ak]at hl;obtain⟨v1,v2,v3,ha⟩:=jo p m h 1 (ins 1 0 0 n 0) (by omega) (ay (by unfold aZ;omega));have e:m.au (ak p.vars (.mk 2 n [] [] [] line)).1 (aJ h (.mk 2 n [] [] [] line))=m.put (ins 1 0 0 n 0) (h+1):=by simp[ak,aJ,Mk.au,Mk.put]
 rw[e];generalize m.put (ins 1 0 0 n 0) (h+1)=M at*;simp[ins]at ha;rw[rN (by simp)];simp[Tryz.f137,ha,ak];exact⟨_,_,_,rfl⟩
include bm hf
theorem abc {s:Tx} {v:Vr} (hv:bf p.vars s=some v) (ht:v.ty≤2):v.ty=1∨v.ty=2:=by
 have hm:v∈p.vars:=by
  have key:∀l:List Vr,bf l s=some v→v∈l:=by
   intro l;induction l with
   |nil=>intro h;simp[bf]at h
   |cons w r ih=>
    intro h;simp only[bf]at h;split at h
    ·cases h;simp
    ·exact List.mem_cons_of_mem _ (ih h)
  exact key _ hv
 have:=hf v hm;simp only[du,Bool.and_eq_true,Bool.or_eq_true,decide_eq_true_eq]at this;rcases this.2.1.2 with h|h
 ·exact h
 ·have:v.ty∉gH∨v.ty∈gH:=by by_cases h:v.ty∈gH<;>simp[h]
  rcases this with h2|h2
  ·unfold oe at h;rw[oc h2]at h;simp at h
  ·simp only[gH,List.mem_cons,List.not_mem_nil,or_false]at h2;omega
theorem abd {name:Tx} {line:Int} {v:Vr} (hv:bf p.vars name=some v) (ht:v.ty≤2):KE p (.mk 3 0 name [] [] line):=by
 intro m h h0 hh hm hl;simp[ak]at hl;have fg:=pr p bm hf name;have e2:=iG hv;rw[hv]at fg;have kP:=abc bm hf hv ht;obtain⟨v1,v2,v3,ha⟩:=BT p m h (cd p.vars name).1 v.ty (by omega) (ay (by unfold aZ;omega));have e3:(if v.ty=2 then (3:Int)else 2)=1+v.ty:=by rcases kP with h|h<;>rw[h]<;>rfl
 rw[e3]at ha;have e:m.au (ak p.vars (.mk 3 0 name [] [] line)).1 (aJ h (.mk 3 0 name [] [] line))=m.put (ins (1+v.ty) (cd p.vars name).1 0 0 0) (h+1):=by simp[ak,aJ,Mk.au,Mk.put,e2]
 have e4:(ak p.vars (.mk 3 0 name [] [] line)).2=decide (v.ty=2):=by simp[ak,e2]
 rw[e,e4];rw[e2]at fg;generalize m.put (ins (1+v.ty) (cd p.vars name).1 0 0 0) (h+1)=M at*;simp at ha;rw[rN (by simp)];simp[Tryz.f137,fg,bG,eu,ha,aI];exact⟨_,_,_,rfl⟩
theorem abe {name field:Tx} {line:Int} {v:Vr} {q:Pn} (hv:bf p.vars name=some v) (ht:2<v.ty) (hq:kG v.ty field=some q) (vN:cY field=true):KE p (.mk 5 0 name field [] line):=by
 intro m h h0 hh hm hl;simp[ak]at hl;obtain⟨b,fg⟩:=He p bm hf name field;have e2:(iu p.vars name field).2=q:=(uu hv ht hq).1;have kP:q.ty=1∨q.ty=2:=WC (uu hv ht hq).2.1;obtain⟨v1,v2,v3,ha⟩:=BT p m h (iu p.vars name field).1 q.ty (by omega) (ay (by unfold aZ;omega));have e3:(if q.ty=2 then (3:Int)else 2)=1+q.ty:=by rcases kP with h|h<;>rw[h]<;>rfl
 rw[e3]at ha;have e:m.au (ak p.vars (.mk 5 0 name field [] line)).1 (aJ h (.mk 5 0 name field [] line))=m.put (ins (1+q.ty) (iu p.vars name field).1 0 0 0) (h+1):=by simp[ak,aJ,Mk.au,Mk.put,e2]
 have e4:(ak p.vars (.mk 5 0 name field [] line)).2=decide (q.ty=2):=by simp[ak,e2]
 rw[e,e4];rw[e2]at fg;generalize m.put (ins (1+q.ty) (iu p.vars name field).1 0 0 0) (h+1)=M at*;simp at ha;simp[cS]at fg;rw[rN (by simp)];simp[Tryz.f137,fg,ha,aI];exact⟨_,_,_,rfl⟩
theorem abf {name:Tx} {line:Int} {v:Vr} {y:Ex} (hv:bf p.vars name=some v) (ht:v.ty≤2) (hy:KE p y):KE p (.mk 4 0 name [] [y] line):=by
 intro m h h0 hh hm hl;have e2:=iG hv;have eg:(ak p.vars (.mk 4 0 name [] [y] line))=((ak p.vars y).1++[ins (3+v.ty) (cd p.vars name).1 0 v.lo v.hi],decide (v.ty=2)):=by simp[ak,ou,e2]
 rw[eg]at hl;simp at hl;have fg:=pr p bm hf name;rw[hv,e2]at fg;have kP:=abc bm hf hv ht;obtain⟨v1,v2,v3,hk⟩:=hy m h h0 hh hm (by omega);have nN:=jR p.vars y;obtain⟨u1,u2,u3,ha⟩:=jo p (m.au (ak p.vars y).1 (aJ h y)) (h+1) 0 (ins (3+v.ty) (cd p.vars name).1 0 v.lo v.hi) (by simp[Mk.au];omega) (ay (by unfold aZ;omega));have e:m.au (ak p.vars (.mk 4 0 name [] [y] line)).1 (aJ h (.mk 4 0 name [] [y] line))=(m.au (ak p.vars y).1 (aJ h y)).put (ins (3+v.ty) (cd p.vars name).1 0 v.lo v.hi) (h+1+0):=by
  rw[eg];simp[aJ,fF,Mk.au,Mk.put];omega
 rw[e,eg];generalize (m.au (ak p.vars y).1 (aJ h y)).put (ins (3+v.ty) (cd p.vars name).1 0 v.lo v.hi) (h+1+0)=M at*;generalize m.au (ak p.vars y).1 (aJ h y)=N at*;simp[ins]at ha hk;rw[rN (by simp)];rcases kP with h2|h2
 ·simp[h2]at ha;simp[Tryz.f137,fg,bG,eu,aA,hk,ha,aI,h2];exact⟨_,_,_,rfl⟩
 ·simp[h2]at ha;simp[Tryz.f137,fg,bG,eu,aA,hk,ha,aI,h2];exact⟨_,_,_,rfl⟩
end
section
variable {p:Pg}
theorem abg {op line:Int} {y:Ex} (ho:op=6∨op=7) (hy:KE p y):KE p (.mk op 0 [] [] [y] line):=by
 intro m h h0 hh hm hl;have n1:¬(op=1∨op=2):=by omega
 have n3:¬op=3:=by omega
 have n4:¬op=4:=by omega
 have n5:¬op=5:=by omega
 have QK:¬op=1:=by omega
 have QL:¬op=2:=by omega
 have eg:(ak p.vars (.mk op 0 [] [] [y] line))=((ak p.vars y).1++[ins 8 (if (ak p.vars y).2=true then 1 else 0) op 0 0],decide (op=7∨12<op)):=by simp[ak,ik,n1,n3,n4,n5];rfl
 rw[eg]at hl;simp at hl;obtain⟨v1,v2,v3,hk⟩:=hy m h h0 hh hm (by omega);have nN:=jR p.vars y;obtain⟨u1,u2,u3,ha⟩:=jo p (m.au (ak p.vars y).1 (aJ h y)) (h+1) 0 (ins 8 (if (ak p.vars y).2=true then 1 else 0) op 0 0) (by simp[Mk.au];omega) (ay (by unfold aZ;omega));have e:m.au (ak p.vars (.mk op 0 [] [] [y] line)).1 (aJ h (.mk op 0 [] [] [y] line))=(m.au (ak p.vars y).1 (aJ h y)).put (ins 8 (if (ak p.vars y).2=true then 1 else 0) op 0 0) (h+1+0):=by
  rw[eg];have n13:¬(op=1∨op=2∨op=3∨op=5):=by omega
  simp[aJ,fF,Mk.au,Mk.put,n13];omega
 rw[e,eg];generalize (m.au (ak p.vars y).1 (aJ h y)).put (ins 8 (if (ak p.vars y).2=true then 1 else 0) op 0 0) (h+1+0)=M at*;generalize m.au (ak p.vars y).1 (aJ h y)=N at*;generalize (ak p.vars y).2=B at*;have w1:IntKind.i64.wrap 1=1:=rfl;have w0:IntKind.i64.wrap 0=0:=rfl;simp[ins]at ha hk;rw[rN (by simp)];have e5:decide (13≤op)=decide (12<op):=by rw[decide_eq_decide];omega
 cases B with
 |true=>
  simp at ha;simp[Tryz.f137,QK,QL,n3,n4,n5,aA];rw[ah];simp[Tryz.f137,aA,hk,w1,w0];rw[ah];simp[Tryz.f137,hk,ha,w1,w0,e5];exact⟨_,_,_,rfl⟩
 |false=>
  simp at ha;simp[Tryz.f137,QK,QL,n3,n4,n5,aA];rw[ah];simp[Tryz.f137,aA,hk,w1,w0];rw[ah];simp[Tryz.f137,hk,ha,w1,w0,e5];exact⟨_,_,_,rfl⟩
theorem abi {op line:Int} {y z:Ex} (ho:8≤op) (hy:KE p y) (hz:KE p z):KE p (.mk op 0 [] [] [y,z] line):=by
 intro m h h0 hh hm hl;have n1:¬(op=1∨op=2):=by omega
 have n3:¬op=3:=by omega
 have n4:¬op=4:=by omega
 have n5:¬op=5:=by omega
 have QK:¬op=1:=by omega
 have QL:¬op=2:=by omega
 have eg:(ak p.vars (.mk op 0 [] [] [y,z] line))=((ak p.vars y).1++((ak p.vars z).1++[ins 8 (if (ak p.vars z).2=true then 1 else 0) op 0 0]),decide (op=7∨12<op)):=by simp[ak,ik,n1,n3,n4,n5];rfl
 rw[eg]at hl;simp at hl;have nN:=jR p.vars y;have arE:=jR p.vars z;obtain⟨v1,v2,v3,hk⟩:=hy m h h0 hh hm (by omega);obtain⟨t1,t2,t3,ck⟩:=hz (m.au (ak p.vars y).1 (aJ h y)) (h+1) (by omega) (by simp[Mk.au];omega) (by simp[Mk.au];omega) (by simp[Mk.au];omega);obtain⟨u1,u2,u3,ha⟩:=jo p ((m.au (ak p.vars y).1 (aJ h y)).au (ak p.vars z).1 (aJ (h+1) z)) (h+1+1) (-1) (ins 8 (if (ak p.vars z).2=true then 1 else 0) op 0 0) (by simp[Mk.au];omega) (ay (by unfold aZ;omega));rw[show h+1+1+ -1=h+1 by omega]at ha;have e:m.au (ak p.vars (.mk op 0 [] [] [y,z] line)).1 (aJ h (.mk op 0 [] [] [y,z] line))=((m.au (ak p.vars y).1 (aJ h y)).au (ak p.vars z).1 (aJ (h+1) z)).put (ins 8 (if (ak p.vars z).2=true then 1 else 0) op 0 0) (h+1):=by
  rw[eg];have n13:¬(op=1∨op=2∨op=3∨op=5):=by omega
  simp[aJ,fF,Mk.au,Mk.put,n13];omega
 rw[e,eg];generalize ((m.au (ak p.vars y).1 (aJ h y)).au (ak p.vars z).1 (aJ (h+1) z)).put (ins 8 (if (ak p.vars z).2=true then 1 else 0) op 0 0) (h+1)=M at*;generalize (m.au (ak p.vars y).1 (aJ h y)).au (ak p.vars z).1 (aJ (h+1) z)=N2 at*;generalize m.au (ak p.vars y).1 (aJ h y)=N at*;generalize (ak p.vars z).2=B at*;generalize (ak p.vars y).2=B2 at*;have w1:IntKind.i64.wrap 1=1:=rfl;have w0:IntKind.i64.wrap 0=0:=rfl;have w2:IntKind.i64.wrap 2=2:=rfl;have w3:IntKind.i64.wrap (-1)= -1:=rfl;have e5:decide (13≤op)=decide (12<op):=by rw[decide_eq_decide];omega
 simp[ins]at ha hk ck;rw[rN (by simp)];cases B with
 |true=>
  simp at ha ck;simp[Tryz.f137,QK,QL,n3,n4,n5,aA];rw[ah];simp[Tryz.f137,aA,hk,w1,w0];rw[ah];simp[Tryz.f137,aA,ck,w1,w0,w2];rw[ah];simp[Tryz.f137,ha,w1,w0,w2,w3,e5];exact⟨_,_,_,rfl⟩
 |false=>
  simp at ha ck;simp[Tryz.f137,QK,QL,n3,n4,n5,aA];rw[ah];simp[Tryz.f137,aA,hk,w1,w0];rw[ah];simp[Tryz.f137,aA,ck,w1,w0,w2];rw[ah];simp[Tryz.f137,ha,w1,w0,w2,w3,e5];exact⟨_,_,_,rfl⟩
end
theorem kS {p:Pg} (bm:p.vars.length≤1000) (hf:∀v∈p.vars,du v=true):∀x:Ex,bk x=true→(aC p.vars x).e=0→KE p x
 | .mk op n name field sub line,fx,ex=>by
  have ih:∀y∈sub,bk y=true→(aC p.vars y).e=0→KE p y:=fun y hy=>kS bm hf y;have hc:=CH fx ex;cases hc with
  |num h=>exact aba
  |qA h=>exact abb
  |var hv ha ht=>exact abd bm hf hv ht
  |idx hv ha ht fy ey ty=>exact abf bm hf hv ht (ih _ (by simp) fy ey)
  |VB hv ht hq vN=>exact abe bm hf hv ht hq vN
  |one ho fy ey ty=>exact abg ho (ih _ (by simp) fy ey)
  |two ho fy ey fz ez ty tz=>exact abi ho.1 (ih _ (by simp) fy ey) (ih _ (by simp) fz ez)
termination_by x=>SizeOf.sizeOf x
decreasing_by all_goals (simp_wf;have:=List.sizeOf_lt_of_mem hy;omega)
end Go.Am
end
section
namespace Go.Am
open Go
def gK (ex:List (List Int)) (a:List Int):List (List Int):=
 match ex.getLast? with
 |some r=>ex.dropLast++[r++a]
 |none=>[]
theorem iV (ex:List (List Int)) (r a:List Int):gK (ex++[r]) a=ex++[r++a]:=by simp[gK]
theorem me (ex:List (List Int)):gK ex []=ex:=by
 rcases List.eq_nil_or_concat ex with h|⟨l,r,h⟩
 ·subst h;rfl
 ·rw[h,List.concat_eq_append,iV,List.append_nil]
theorem DW (ex:List (List Int)) (a b:List Int):gK (gK ex a) b=gK ex (a++b):=by
 rcases List.eq_nil_or_concat ex with h|⟨l,r,h⟩
 ·subst h;rfl
 ·rw[h,List.concat_eq_append,iV,iV,iV,List.append_assoc]
@[simp] theorem QM (ex:List (List Int)) (a:List Int):(gK ex a).length=ex.length:=by
 rcases List.eq_nil_or_concat ex with h|⟨l,r,h⟩
 ·subst h;rfl
 ·rw[h,List.concat_eq_append,iV];simp
def Mk.aL (m:Mk) (l:List aq) (c t:Int):Mk:=
 ⟨m.out++cH m.out.length l,c,max m.most t,gK m.ex (cD (-1) m.out.length l),m.lv++cD (-2) m.out.length l⟩
theorem yC (m:Mk) (a b:List aq) (c c' t t':Int):(m.aL a c t).aL b c' t'=m.aL (jn a b) c' (max t t'):=by
 unfold Mk.aL;simp only[Mk.mk.injEq,List.length_append,mm];rw[GZ,EC (by decide),EC (by decide),DW];simp[List.append_assoc,Int.max_assoc]
theorem TD (m:Mk) (h:0≤m.most):m.aL [] m.cells 0=m:=by
 unfold Mk.aL;simp[cD,me];cases m;simp at h⊢;omega
theorem nH {m:Mk} {l:List aq} (h:Flat l) (t:Int):m.aL l m.cells t=m.au l t:=by
 unfold Mk.aL Mk.au;rw[h.cH,po h,po h,me];simp
theorem vz {m:Mk} {l:List aq} {x:aq} {t u:Int}:(m.au l t).put x u=m.au (l++[x]) (max t u):=by
 unfold Mk.au Mk.put;simp[List.append_assoc,Int.max_assoc]
theorem DX {m:Mk} {l r:List aq} {t u:Int}:(m.au l t).au r u=m.au (l++r) (max t u):=by
 unfold Mk.au;simp[List.append_assoc,Int.max_assoc]
theorem TE {m:Mk} {x:aq} {u:Int}:m.put x u=m.au [x] u:=rfl
theorem sW {m:Mk} {l:List aq} {t u:Int} (h:max m.most t=max m.most u):m.au l t=m.au l u:=by
 unfold Mk.au;rw[h]
theorem mf {m:Mk} {l:List aq} {c t u:Int} (h:max m.most t=max m.most u):m.aL l c t=m.aL l c u:=by
 unfold Mk.aL;rw[h]
theorem kW (h:Int) (x:Ex):h+1≤aJ h x:=by
 obtain⟨op,n,name,field,sub,line⟩:=x;unfold aJ;split
 ·exact Int.le_refl _
 ·omega
theorem xT (k:Int):∀(l:List aq) (n:Nat),∀i∈cD k n l,∃j:Nat,i=j∧j<n+l.length
 |[],n,i,h=>by simp[cD]at h
 |x::r,n,i,h=>by
  simp only[cD]at h;have key:i∈cD k (n+1) r→∃j:Nat,i=j∧j<n+(x::r).length:=fun h=>by
   obtain⟨j,e,hj⟩:=xT k r (n+1) i h;exact⟨j,e,by simp;omega⟩
  split at h
  ·rcases List.mem_cons.1 h with rfl|h
   ·exact⟨n,rfl,by simp⟩
   ·exact key h
  ·exact key h
theorem pt (k:Int):∀(l:List aq) (n:Nat),(cD k n l).length≤l.length
 |[],n=>by simp[cD]
 |x::r,n=>by
  have:=pt k r (n+1);simp only[cD];split<;>simp<;>omega
def iw (m:Mk):Prop:=m.lv.length≤m.out.length∧∀r∈m.ex,r.length≤m.out.length
theorem QN {ex:List (List Int)} {a r:List Int} (h:r∈gK ex a):∃r0∈ex,r.length≤r0.length+a.length:=by
 rcases List.eq_nil_or_concat ex with e|⟨l,q,e⟩
 ·subst e;simp[gK]at h
 ·rw[e,List.concat_eq_append]at h⊢;rw[iV]at h;rcases List.mem_append.1 h with h|h
  ·exact⟨r,by simp[h],by omega⟩
  ·simp at h;subst h;exact⟨q,by simp,by simp⟩
theorem iw.put {m:Mk} (h:iw m) (x:aq) (t:Int):iw (m.put x t):=
 ⟨by have:=h.1;simp[Mk.put];omega,fun r hr=>by have:=h.2 r hr;simp[Mk.put];omega⟩
theorem iw.au {m:Mk} (h:iw m) (l:List aq) (t:Int):iw (m.au l t):=
 ⟨by have:=h.1;simp[Mk.au];omega,fun r hr=>by have:=h.2 r hr;simp[Mk.au];omega⟩
theorem iw.aL {m:Mk} (h:iw m) (l:List aq) (c t:Int):iw (m.aL l c t):=by
 refine⟨?_,fun r hr=>?_⟩
 ·have:=h.1;have:=pt (-2) l m.out.length;simp[Mk.aL];omega
 ·obtain⟨r0,h0,hr⟩:=QN hr;have:=h.2 r0 h0;have:=pt (-1) l m.out.length;simp[Mk.aL];omega
theorem iw.lead {m:Mk} (h:iw m) (i:Int):iw (m.lead i):=by
 have e:(m.lead i).out.length=m.out.length:=by simp[Mk.lead]
 exact⟨by rw[e];exact h.1,fun r hr=>by rw[e];exact h.2 r hr⟩
end Go.Am
end
section
namespace Go.Am
open Go Go.Proofs
variable [Inhabited b6]
set_option maxRecDepth 20000
section
variable {p:Pg} (bm:p.vars.length≤1000) (hf:∀v∈p.vars,du v=true)
include bm hf
theorem QO {name:Tx} {l1 l2:Int} {v:Vr} {val:Ex} (hv:bf p.vars name=some v) (fv:bk val=true) (ev:(aC p.vars val).e=0) (m:Mk) (hm:0≤m.most) (hl:m.out.length+(ak p.vars val).1.length<99999999):
 fR p (m.au ((ak p.vars val).1++[ins 6 (cd p.vars name).1 0 0 0]) (aJ 0 val)) 0 (.ret (.aU [])) (ai ctx 134 [.ptr 0 0 0,.d (cC (.mk 1 [] (.mk 3 0 name [] [] l1) val [] [] [] [] l2))] (fQ p m 0)):=by
 have fg:=pr p bm hf name;rw[hv]at fg;obtain⟨v1,v2,v3,hk⟩:=kS bm hf val fv ev m 0 (by omega) (by omega) hm (by omega);obtain⟨u1,u2,u3,hs⟩:=pq p (m.au (ak p.vars val).1 (aJ 0 val)) 1 (cd p.vars name).1 (by simp[Mk.au];omega) (by decide);have e:m.au ((ak p.vars val).1++[ins 6 (cd p.vars name).1 0 0 0]) (aJ 0 val)=(m.au (ak p.vars val).1 (aJ 0 val)).put (ins 6 (cd p.vars name).1 0 0 0) (1+ -1):=by
  rw[vz];exact sW (by have:=kW 0 val;omega)
 rw[e];generalize (m.au (ak p.vars val).1 (aJ 0 val)).put (ins 6 (cd p.vars name).1 0 0 0) (1+ -1)=M at*;generalize m.au (ak p.vars val).1 (aJ 0 val)=N at*;simp at hk hs;rw[P8 (by simp)];simp[Tryz.f134,eK,fg,bG,eu,hk,hs,aI];exact⟨_,_,_,rfl⟩
theorem QP {name:Tx} {l1 l2:Int} {v:Vr} {y val:Ex} (hv:bf p.vars name=some v) (fy:bk y=true) (ey:(aC p.vars y).e=0) (fv:bk val=true) (ev:(aC p.vars val).e=0) (m:Mk) (hm:0≤m.most) (hl:m.out.length+(ak p.vars y).1.length+(ak p.vars val).1.length<99999999):
 fR p (m.au ((ak p.vars y).1++((ak p.vars val).1++[ins 7 (cd p.vars name).1 0 v.lo v.hi])) (max (aJ 0 y) (aJ 1 val))) 0 (.ret (.aU [])) (ai ctx 134 [.ptr 0 0 0,.d (cC (.mk 1 [] (.mk 4 0 name [] [y] l1) val [] [] [] [] l2))] (fQ p m 0)):=by
 have fg:=pr p bm hf name;rw[hv,iG hv]at fg;obtain⟨v1,v2,v3,hk⟩:=kS bm hf y fy ey m 0 (by omega) (by omega) hm (by omega);have nN:=jR p.vars y;obtain⟨t1,t2,t3,ck⟩:=kS bm hf val fv ev (m.au (ak p.vars y).1 (aJ 0 y)) 1 (by omega) (by simp[Mk.au];omega) (by simp[Mk.au];omega) (by simp[Mk.au];omega);obtain⟨u1,u2,u3,hs⟩:=jo p ((m.au (ak p.vars y).1 (aJ 0 y)).au (ak p.vars val).1 (aJ 1 val)) 2 (-2) (ins 7 (cd p.vars name).1 0 v.lo v.hi) (by simp[Mk.au];omega) (by decide);have e:m.au ((ak p.vars y).1++((ak p.vars val).1++[ins 7 (cd p.vars name).1 0 v.lo v.hi])) (max (aJ 0 y) (aJ 1 val))=((m.au (ak p.vars y).1 (aJ 0 y)).au (ak p.vars val).1 (aJ 1 val)).put (ins 7 (cd p.vars name).1 0 v.lo v.hi) (2+ -2):=by
  rw[DX,vz,List.append_assoc];exact sW (by have:=kW 0 y;omega)
 rw[e];generalize ((m.au (ak p.vars y).1 (aJ 0 y)).au (ak p.vars val).1 (aJ 1 val)).put (ins 7 (cd p.vars name).1 0 v.lo v.hi) (2+ -2)=M at*;generalize (m.au (ak p.vars y).1 (aJ 0 y)).au (ak p.vars val).1 (aJ 1 val)=N2 at*;generalize m.au (ak p.vars y).1 (aJ 0 y)=N at*;simp[ins]at hk ck hs;rw[P8 (by simp)];simp[Tryz.f134,eK,fg,bG,eu,aA,hk,ck,hs,aI];exact⟨_,_,_,rfl⟩
end
@[simp] def VI (p:Pg) (m:Mk) (h:Int) (v1 v2 v3:Nat):List cJ:=[⟨0,0,.box [.d (.str p.name),.d (.list (p.vars.map bG)),.d (.list (p.body.map cC)),.vec 1 v1 0 m.out.length,.d (.int .i64 m.cells),.d (.int .i64 h),.d (.int .i64 m.most),.vec 2 v2 0 m.ex.length,.vec 3 v3 0 m.lv.length]⟩,⟨1,v1,.vec 5 (m.out.map cE)⟩,⟨2,v2,.vv (m.ex.map fO) none⟩,⟨3,v3,.vec 1 (m.lv.map dy)⟩]
section
variable {p:Pg} (bm:p.vars.length≤1000) (hf:∀v∈p.vars,du v=true)
include bm hf
theorem BU (x:Sm) (wY:(dO x).length<100000000) (at_:AV) (v:Vr) (k:Kt) (Q:Mk→bU→Prop)
 (hx:∀(Y:Env) M v1 v2 v3 v6 X6,Q M (k (.exit 0) ⟨60,aB,(0,true,.ptr 0 0 0)::(3,true,.ptr 250 1 0)::(4,true,at_)::(5,true,.ptr 350 1 0)::Y,VI p M 0 v1 v2 v3++[⟨250,1,bg x⟩,⟨350,1,ib v⟩,⟨600,v6,X6⟩]⟩)):
 ∀(fr fp:List Tx) (cr cp:List Ex) (m:Mk) (v1 v2 v3 v6:Nat) (X6:aD),dO x=fp++fr→cu x=cp++cr→fp.length=cp.length→fr.length=cr.length→(∀c∈cr,bk c=true∧(aC p.vars c).e=0)→0≤m.most→m.out.length+(dM p.vars (gV x) fr cr).length<99999999→
 Q (m.au (dM p.vars (gV x) fr cr) (jQ cr)) (aG ctx 142 (.loop (Code.at (bh Tryz.f142) [1,1,0,1,0,0])) ⟨60,aB,[(0,true,.ptr 0 0 0),(3,true,.ptr 250 1 0),(4,true,at_),(5,true,.ptr 350 1 0),(24,true,.d (.list ((dO x).map .str))),(25,true,.d (.int .i64 (dO x).length)),(26,true,.d (.int .i64 fp.length))],VI p m 0 v1 v2 v3++[⟨250,1,bg x⟩,⟨350,1,ib v⟩,⟨600,v6,X6⟩]⟩ k)
 |[],fp,cr,cp,m,v1,v2,v3,v6,X6,h1,h2,h3,h4,hK,hm,hl=>by
  have hc:cr=[]:=rQ (by simpa using h4.symm);subst hc;have e:m.au (dM p.vars (gV x) [] []) (jQ [])=m:=by
   simp[dM,jQ,Mk.au];cases m;simp at hm⊢;omega
  rw[e];have cw:fp.length=(dO x).length:=by rw[h1];simp
  have:=hx [(24,true,.d (.list ((dO x).map .str))),(25,true,.d (.int .i64 (dO x).length)),(26,true,.d (.int .i64 (dO x).length)),(27,true,.d (.bool false))] m v1 v2 v3 v6 X6;simp at this;rw[cw,ah];simp[Tryz.f142,this]
 |f::fr,fp,cr,cp,m,v1,v2,v3,v6,X6,h1,h2,h3,h4,hK,hm,hl=>by
  obtain⟨c,cr,rfl⟩:∃c r,cr=c::r:=by
   cases cr with
   |nil=>simp at h4
   |cons c r=>exact⟨c,r,rfl⟩
  have nN:=jR p.vars c;have eC:dM p.vars (gV x) (f::fr) (c::cr)=((ak p.vars c).1++[ins 6 (iu p.vars (gV x) f).1 0 0 0])++dM p.vars (gV x) fr cr:=by simp[dM]
  rw[eC]at hl⊢;simp at hl;obtain⟨fc,ec⟩:=hK c (by simp);obtain⟨b,abj⟩:=He p bm hf (gV x) f;obtain⟨s1,s2,s3,hk⟩:=kS bm hf c fc ec m 0 (by omega) (by omega) hm (by omega);obtain⟨u1,u2,u3,hs⟩:=pq p (m.au (ak p.vars c).1 (aJ 0 c)) 1 (iu p.vars (gV x) f).1 (by simp[Mk.au];omega) (by decide);have e:m.au (((ak p.vars c).1++[ins 6 (iu p.vars (gV x) f).1 0 0 0])++dM p.vars (gV x) fr cr) (jQ (c::cr))=((m.au (ak p.vars c).1 (aJ 0 c)).put (ins 6 (iu p.vars (gV x) f).1 0 0 0) (1+ -1)).au (dM p.vars (gV x) fr cr) (jQ cr):=by
   rw[vz,DX];exact sW (by have:=kW 0 c;simp only[jQ];omega)
  rw[e];have mW:0≤((m.au (ak p.vars c).1 (aJ 0 c)).put (ins 6 (iu p.vars (gV x) f).1 0 0 0) (1+ -1)).most:=by simp[Mk.put,Mk.au];omega
  have oy:((m.au (ak p.vars c).1 (aJ 0 c)).put (ins 6 (iu p.vars (gV x) f).1 0 0 0) (1+ -1)).out.length=m.out.length+(ak p.vars c).1.length+1:=by simp[Mk.put,Mk.au];omega
  have ih:=fun v1 v2 v3 v6 X6=>BU x wY at_ v k Q hx fr (fp++[f]) cr (cp++[c]) ((m.au (ak p.vars c).1 (aJ 0 c)).put (ins 6 (iu p.vars (gV x) f).1 0 0 0) (1+ -1)) v1 v2 v3 v6 X6 (by simp[h1]) (by simp[h2]) (by simp[h3]) (by simpa using h4) (fun c hc=>hK c (by simp[hc])) mW (by rw[oy];omega);clear hx hK e;generalize (m.au (ak p.vars c).1 (aJ 0 c)).put (ins 6 (iu p.vars (gV x) f).1 0 0 0) (1+ -1)=M at*;generalize m.au (ak p.vars c).1 (aJ 0 c)=N at*;have aV:fp.length<(dO x).length:=by rw[h1];simp
  have aS:(dO x)[fp.length]=f:=by simp[h1]
  have sV:fp.length<(cu x).length:=by rw[h2,h3];simp
  have xU:(cu x)[fp.length]=c:=by simp[h2,h3]
  have w1:IntKind.i64.wrap ((fp.length:Int)+1)=(fp.length:Int)+1:=ay (by unfold aZ;omega);rw[ah];simp at hk hs abj;simp[Tryz.f142]at ih⊢;simp[aV,aS,sV,xU,aA,cS,abj,hk,hs,aI,w1,ih]
theorem WD {name:Tx} {to val:Ex} {conds:List Ex} {fields:List Tx} {line:Int} {v:Vr} (hv:bf p.vars name=some v) (hl4:conds.length=fields.length) (wY:fields.length<100000000) (hK:∀c∈conds,bk c=true∧(aC p.vars c).e=0) (m:Mk) (hm:0≤m.most) (hl:m.out.length+(dM p.vars name fields conds).length<99999998):
 fR p (m.au (dM p.vars name fields conds++[ins 12 (cd p.vars name).1 v.ty 0 0]) (jQ conds)) 0 (.ret (.aU [])) (ai ctx 142 [.ptr 0 0 0,.d (cC (.mk 9 name to val conds [] fields [] line))] (fQ p m 0)):=by
 have fg:=pr p bm hf name;rw[hv,iG hv]at fg;have ha:=fun (N:Mk) (h:N.out.length<100000000)=>jo p N 0 0 (ins 12 (cd p.vars name).1 v.ty 0 0) h (by decide);have e:m.au (dM p.vars name fields conds++[ins 12 (cd p.vars name).1 v.ty 0 0]) (jQ conds)=(m.au (dM p.vars name fields conds) (jQ conds)).put (ins 12 (cd p.vars name).1 v.ty 0 0) (0+0):=by
  rw[vz];exact sW (by omega)
 rw[e];obtain⟨u1,u2,u3,hu⟩:=ha (m.au (dM p.vars name fields conds) (jQ conds)) (by simp[Mk.au];omega);have dc:=fun (at_:AV) (k:Kt) (Q:Mk→bU→Prop) hx v6 X6=>BU bm hf (.mk 9 name to val conds [] fields [] line) wY at_ v k Q hx fields [] conds [] m 0 0 0 v6 X6 rfl rfl rfl hl4.symm hK hm (by simpa using (by omega:m.out.length+(dM p.vars name fields conds).length<99999999));rw[Zx (by simp)];generalize (m.au (dM p.vars name fields conds) (jQ conds)).put (ins 12 (cd p.vars name).1 v.ty 0 0) (0+0)=M at*;simp only[YD,Pm,Pk]at dc;generalize m.au (dM p.vars name fields conds) (jQ conds)=N at*;simp[ins]at hu;simp[Tryz.f142]at dc⊢;simp[eK,fg,bG,eu,aI];refine dc _ _ (fun X r=>X=N→fR p M 0 (.ret (.aU [])) r) (fun Y X v1 v2 v3 v6 X6 hX=>?_) _ _ rfl;subst hX;simp[Tryz.f142,hu];exact⟨_,_,_,rfl⟩
end
end Go.Am
end
section
namespace Go.Am
open Go
def dw:List (List aq×Int)→Int
 |[]=>0
 |t::r=>max t.2 (dw r)
def dn (ts:List (List aq×Int)):List (List aq):=ts.map (·.1)
def Mk.dh (m:Mk) (ts:List (List aq×Int)) (bs:List (List aq)) (c t:Int):Mk:=
 ⟨m.out++jJ 0 m.out.length (dn ts) bs,c,max m.most t,gK m.ex (sQ (-1) m.out.length (dn ts) bs),m.lv++sQ (-2) m.out.length (dn ts) bs⟩
theorem Hf (m:Mk) (ts:List (List aq×Int)) (h:0≤m.most):m.dh ts [] m.cells 0=m:=by
 unfold Mk.dh;have e1:jJ 0 m.out.length (dn ts) []=[]:=by unfold jJ;rfl
 have e2:∀k,sQ k m.out.length (dn ts) []=[]:=fun k=>by unfold sQ;rfl
 rw[e1,e2,e2,me];cases m;simp at h⊢;omega
def Mk.fS (m:Mk) (t:List aq×Int):Mk:=(m.au t.1 t.2).put (ins 10 0 0 0 0) 0
theorem vA (a b c:List aq) (x:aq) (v:Int) (k:Int) (hk:k=((a.length+b.length:Nat):Int)):setAt (a++b++x::c) k v=a++b++{x with a:=v}::c:=by
 have:=qf (a++b) x c v;simp only[List.length_append]at this;rw[hk];exact this
theorem KC (m:Mk) (t:List aq×Int) (ts:List (List aq×Int)) (b:List aq) (c u:Int) (h0:0≤m.most):
 ((m.fS t).aL b c u).lead (m.out.length+t.1.length:Nat)=m.dh (t::ts) [b] c (max t.2 u):=by
 unfold Mk.fS Mk.au Mk.put Mk.aL Mk.lead Mk.dh dn;simp only[List.map_cons,jJ,sQ,if_true,List.append_nil,Mk.mk.injEq,true_and];have hlen:(m.out++t.1++[ins 10 0 0 0 0]).length=m.out.length+t.1.length+1:=by simp;omega
 rw[hlen];refine⟨?_,by omega,rfl,rfl⟩;have:=vA m.out t.1 (cH (m.out.length+t.1.length+1) b) (ins 10 0 0 0 0) ((m.out.length+t.1.length+1+b.length:Nat):Int) ((m.out.length+t.1.length:Nat):Int) rfl;simp only[ins]at this⊢;have e2:((m.out++t.1++[({op:=10,a:=0,b:=0,n:=0,m:=0}:aq)]++cH (m.out.length+t.1.length+1) b).length:Int)=((m.out.length+t.1.length+1+b.length:Nat):Int):=by simp;omega
 rw[e2];have e3:m.out++t.1++[({op:=10,a:=0,b:=0,n:=0,m:=0}:aq)]++cH (m.out.length+t.1.length+1) b=m.out++t.1++({op:=10,a:=0,b:=0,n:=0,m:=0}:aq)::cH (m.out.length+t.1.length+1) b:=by simp
 rw[e3,this];simp
theorem KD (m:Mk) (t:List aq×Int) (ts:List (List aq×Int)) (b:List aq) (bs:List (List aq)) (c c' u u':Int) (h0:0≤m.most) (hb:bs≠[]):
 ((((m.fS t).aL b c u).put (ins 9 0 0 0 0) 0).lead (m.out.length+t.1.length:Nat)).dh ts bs c' u'=m.dh (t::ts) (b::bs) c' (max t.2 (max u u')):=by
 have iR:((((m.fS t).aL b c u).put (ins 9 0 0 0 0) 0).lead (m.out.length+t.1.length:Nat)).out.length=m.out.length+t.1.length+2+b.length:=by
  simp[Mk.fS,Mk.au,Mk.put,Mk.aL,Mk.lead];omega
 have ho:((((m.fS t).aL b c u).put (ins 9 0 0 0 0) 0).lead (m.out.length+t.1.length:Nat)).out=m.out++(t.1++ins 10 (m.out.length+t.1.length+2+b.length) 0 0 0::(cH (m.out.length+t.1.length+1) b++[ins 9 0 0 0 0])):=by
  unfold Mk.fS Mk.au Mk.put Mk.aL Mk.lead;simp only
  have hlen:(m.out++t.1++[ins 10 0 0 0 0]).length=m.out.length+t.1.length+1:=by simp;omega
  rw[hlen];have:=vA m.out t.1 (cH (m.out.length+t.1.length+1) b++[ins 9 0 0 0 0]) (ins 10 0 0 0 0) ((m.out.length+t.1.length+2+b.length:Nat):Int) ((m.out.length+t.1.length:Nat):Int) rfl;have e2:((m.out++t.1++[ins 10 0 0 0 0]++cH (m.out.length+t.1.length+1) b++[ins 9 0 0 0 0]).length:Int)=((m.out.length+t.1.length+2+b.length:Nat):Int):=by simp;omega
  rw[e2];have e3:m.out++t.1++[ins 10 0 0 0 0]++cH (m.out.length+t.1.length+1) b++[ins 9 0 0 0 0]=m.out++t.1++ins 10 0 0 0 0::(cH (m.out.length+t.1.length+1) b++[ins 9 0 0 0 0]):=by simp
  rw[e3,this];simp[ins]
 have hex:((((m.fS t).aL b c u).put (ins 9 0 0 0 0) 0).lead (m.out.length+t.1.length:Nat)).ex=gK m.ex (cD (-1) (m.out.length+t.1.length+1) b):=by
  unfold Mk.fS Mk.au Mk.put Mk.aL Mk.lead;simp only
  have hlen:(m.out++t.1++[ins 10 0 0 0 0]).length=m.out.length+t.1.length+1:=by simp;omega
  rw[hlen]
 have nq:((((m.fS t).aL b c u).put (ins 9 0 0 0 0) 0).lead (m.out.length+t.1.length:Nat)).lv=m.lv++cD (-2) (m.out.length+t.1.length+1) b:=by
  unfold Mk.fS Mk.au Mk.put Mk.aL Mk.lead;simp only
  have hlen:(m.out++t.1++[ins 10 0 0 0 0]).length=m.out.length+t.1.length+1:=by simp;omega
  rw[hlen]
 have hmo:((((m.fS t).aL b c u).put (ins 9 0 0 0 0) 0).lead (m.out.length+t.1.length:Nat)).most=max m.most (max t.2 u):=by
  simp[Mk.fS,Mk.au,Mk.put,Mk.aL,Mk.lead];omega
 generalize (((m.fS t).aL b c u).put (ins 9 0 0 0 0) 0).lead (m.out.length+t.1.length:Nat)=M at*;unfold Mk.dh;rw[iR,ho,hex,nq,hmo];simp only[dn,List.map_cons,jJ,sQ,if_neg hb,Mk.mk.injEq,true_and,DW,List.append_assoc];exact⟨by simp,by omega,trivial⟩
theorem KI (m:Mk) (b:List aq) (c u:Int):m.aL b c u=m.dh [] [b] c u:=by
 unfold Mk.aL Mk.dh dn;simp[jJ,sQ]
end Go.Am
end
section
namespace Go.Am
open Go Go.Proofs
variable [Inhabited b6]
set_option maxRecDepth 20000
def DY (p:Pg) (m:Mk) (h:Int) (s:Sm) (o:Out) (r:bU):Prop:=∃v1 v2 v3,r=some (o,[(0,.box [.ptr 2 0 0]),(0,bg s),(0,gJ p m h 3 4 5 v1 v2 v3),(v1,.vec 5 (m.out.map cE)),(v2,.vv (m.ex.map fO) none),(v3,.vec 1 (m.lv.map dy))])
section
variable {p:Pg} (bm:p.vars.length≤1000) (hf:∀v∈p.vars,du v=true)
include bm hf
theorem WE (s:Sm) (i:Nat) (c:Ex) (hc:(cu s)[i]?=some c) (fc:bk c=true) (ec:(aC p.vars c).e=0) (m:Mk) (hm:0≤m.most) (hl:m.out.length+(ak p.vars c).1.length<99999999):
 DY p (m.au (ak p.vars c).1 (aJ 0 c)) 1 s (.ret (.aU [])) (ai ctx 136 [.d (.int .i64 i),.ptr 0 0 0,.ptr 1 0 0] [.box [.ptr 2 0 0],bg s,gJ p m 0 3 4 5 0 0 0,.vec 5 (m.out.map cE),.vv (m.ex.map fO) none,.vec 1 (m.lv.map dy)]):=by
 obtain⟨v1,v2,v3,hk⟩:=kS bm hf c fc ec m 0 (by omega) (by omega) hm (by omega);have aV:i<(cu s).length:=(List.getElem?_eq_some_iff.1 hc).1;have aS:(cu s)[i]=c:=(List.getElem?_eq_some_iff.1 hc).2;generalize m.au (ak p.vars c).1 (aJ 0 c)=M at*;simp at hk;rw[Zu (by simp)];simp[Tryz.f136,aI,aV,aS,aA,hk];exact⟨_,_,_,rfl⟩
end
mutual
def uy:Sm→Nat
 | .mk _ _ _ _ _ _ _ blocks _=>tJ blocks+1
def ix:List Sm→Nat
 |[]=>0
 |x::r=>max (uy x) (ix r)
def tJ:List (List Sm)→Nat
 |[]=>0
 |b::r=>max (ix b) (tJ r)
end
theorem At:∀{l:List (List Sm)} {b:List Sm},b∈l→ix b≤tJ l
 |c::r,b,h=>by
  simp only[tJ];rcases List.mem_cons.1 h with rfl|h
  ·omega
  ·have:=At h;omega
def rW (p:Pg) (lp:Bool) (b:List Sm):Prop:=∀(m:Mk),0≤m.most→0≤m.cells→iw m→(lp=true→m.ex≠[])→m.out.length+(ag p.vars b m.cells).1.length<99999990→(ag p.vars b m.cells).2<99999990→m.ex.length+ix b<99999990→
 fR p (m.aL (ag p.vars b m.cells).1 (ag p.vars b m.cells).2 (aY b)) 0 (.ret (.aU [])) (ai ctx 51 [.ptr 0 0 0,.d (.list (b.map cC))] (fQ p m 0))
@[simp] def zy (p:Pg) (m:Mk) (s:Sm) (E:List Int) (v1 v2 v3 ve:Nat):List cJ:=[⟨0,0,gJ p m 0 3 4 5 v1 v2 v3⟩,⟨1,0,.box [.ptr 0 0 0]⟩,⟨2,0,bg s⟩,⟨3,v1,.vec 5 (m.out.map cE)⟩,⟨4,v2,.vv (m.ex.map fO) none⟩,⟨5,v3,.vec 1 (m.lv.map dy)⟩,⟨500,ve,.vec 1 (E.map dy)⟩]
theorem WG {p:Pg} {s:Sm} {blocks:List (List Sm)} {n i:Nat} {b:List Sm} (aV:i<blocks.length) (aS:blocks[i]=b) (de:i<n) (hn:n<99999990) (gn:i+1<blocks.length) (gA:blocks.length<99999990)
 {m m1 m3:Mk} (h1:DY p m1 1 s (.ret (.aU [])) (ai ctx 136 [.d (.int .i64 i),.ptr 0 0 0,.ptr 1 0 0] [.box [.ptr 2 0 0],bg s,gJ p m 0 3 4 5 0 0 0,.vec 5 (m.out.map cE),.vv (m.ex.map fO) none,.vec 1 (m.lv.map dy)]))
 (iR:m1.out.length<99999990)
 (h3:fR p m3 0 (.ret (.aU [])) (ai ctx 51 [.ptr 0 0 0,.d (.list (b.map cC))] (fQ p (m1.put (ins 10 0 0 0 0) 0) 0)))
 (sX:m1.out.length<m3.out.length∧m3.out.length<99999990) (E:List Int) (hE:E.length<99999990) (k:Kt) (Q:bU→Prop)
 (hx:∀v1 v2 v3 ve,Q (aG ctx 135 (.loop (Code.at (bh Tryz.f135) [1,0,1,0,0])) ⟨49,aB,[(0,true,.ptr 0 0 0),(1,true,.d (.list (blocks.map df))),(2,true,.d (.int .i64 n)),(3,true,.fn 136 [.ptr 1 0 0,.ptr 2 0 0]),(8,true,.vec 500 ve 0 (E.length+1)),(12,true,.d (.list (blocks.map df))),(13,true,.d (.int .i64 blocks.length)),(14,true,.d (.int .i64 (i+1)))],zy p ((m3.put (ins 9 0 0 0 0) 0).lead m1.out.length) s (E++[(m3.out.length:Int)]) v1 v2 v3 ve⟩ k))
 (v1 v2 v3 ve:Nat):
 Q (aG ctx 135 (.loop (Code.at (bh Tryz.f135) [1,0,1,0,0])) ⟨49,aB,[(0,true,.ptr 0 0 0),(1,true,.d (.list (blocks.map df))),(2,true,.d (.int .i64 n)),(3,true,.fn 136 [.ptr 1 0 0,.ptr 2 0 0]),(8,true,.vec 500 ve 0 E.length),(12,true,.d (.list (blocks.map df))),(13,true,.d (.int .i64 blocks.length)),(14,true,.d (.int .i64 i))],zy p m s E v1 v2 v3 ve⟩ k):=by
 obtain⟨a1,a2,a3,h1⟩:=h1;obtain⟨c1,c2,c3,h2⟩:=vy p m1 1 0 (by omega) (by decide);rw[show (1:Int)+ -1=0 by omega]at h2;obtain⟨d1,d2,d3,h3⟩:=h3;obtain⟨e1,e2,e3,h4⟩:=BS p m3 0 0 (by omega) (by decide);have BV:(m3.put (ins 9 0 0 0 0) 0).out.length=m3.out.length+1:=by simp[Mk.put]
 have h5:=qh p (m3.put (ins 9 0 0 0 0) 0) 0 m1.out.length (by rw[BV];omega) (by rw[BV];omega);have w1:IntKind.i64.wrap ((i:Int)+1)=(i:Int)+1:=ay (by unfold aZ;omega);have w2:IntKind.i64.wrap ((blocks.length:Int)-1)=(blocks.length:Int)-1:=ay (by unfold aZ;omega);have w3:(i:Int)<(blocks.length:Int)-1:=by omega
 have w4:E.length≤4611686018427387903:=by omega
 have w5:(E.length+1)*8≤140737488355328:=by omega
 have w6:(0:Int)≤m1.out.length:=by omega
 generalize (m3.put (ins 9 0 0 0 0) 0).lead m1.out.length=M5 at*;generalize m3.put (ins 9 0 0 0 0) 0=M4 at*;generalize m1.put (ins 10 0 0 0 0) 0=M2 at*;rw[ah];simp at h1 h2 h3 h4 h5;simp[Tryz.f135]at hx⊢;simp[aV,aS,df,de,h1,h2,h3,h4,h5,w1,w2,w3,w4,w5,w6,hx]
theorem WH {p:Pg} {s:Sm} {blocks:List (List Sm)} {n i:Nat} {b:List Sm} (aV:i<blocks.length) (aS:blocks[i]=b) (de:i<n) (hn:n<99999990) (gn:¬i+1<blocks.length) (gA:blocks.length<99999990)
 {m m1 m3:Mk} (h1:DY p m1 1 s (.ret (.aU [])) (ai ctx 136 [.d (.int .i64 i),.ptr 0 0 0,.ptr 1 0 0] [.box [.ptr 2 0 0],bg s,gJ p m 0 3 4 5 0 0 0,.vec 5 (m.out.map cE),.vv (m.ex.map fO) none,.vec 1 (m.lv.map dy)]))
 (iR:m1.out.length<99999990)
 (h3:fR p m3 0 (.ret (.aU [])) (ai ctx 51 [.ptr 0 0 0,.d (.list (b.map cC))] (fQ p (m1.put (ins 10 0 0 0 0) 0) 0)))
 (sX:m1.out.length<m3.out.length∧m3.out.length<99999990) (E:List Int) (hE:E.length<99999990) (k:Kt) (Q:bU→Prop)
 (hx:∀v1 v2 v3 ve,Q (aG ctx 135 (.loop (Code.at (bh Tryz.f135) [1,0,1,0,0])) ⟨49,aB,[(0,true,.ptr 0 0 0),(1,true,.d (.list (blocks.map df))),(2,true,.d (.int .i64 n)),(3,true,.fn 136 [.ptr 1 0 0,.ptr 2 0 0]),(8,true,.vec 500 ve 0 E.length),(12,true,.d (.list (blocks.map df))),(13,true,.d (.int .i64 blocks.length)),(14,true,.d (.int .i64 (i+1)))],zy p (m3.lead m1.out.length) s E v1 v2 v3 ve⟩ k))
 (v1 v2 v3 ve:Nat):
 Q (aG ctx 135 (.loop (Code.at (bh Tryz.f135) [1,0,1,0,0])) ⟨49,aB,[(0,true,.ptr 0 0 0),(1,true,.d (.list (blocks.map df))),(2,true,.d (.int .i64 n)),(3,true,.fn 136 [.ptr 1 0 0,.ptr 2 0 0]),(8,true,.vec 500 ve 0 E.length),(12,true,.d (.list (blocks.map df))),(13,true,.d (.int .i64 blocks.length)),(14,true,.d (.int .i64 i))],zy p m s E v1 v2 v3 ve⟩ k):=by
 obtain⟨a1,a2,a3,h1⟩:=h1;obtain⟨c1,c2,c3,h2⟩:=vy p m1 1 0 (by omega) (by decide);rw[show (1:Int)+ -1=0 by omega]at h2;obtain⟨d1,d2,d3,h3⟩:=h3;have h5:=qh p m3 0 m1.out.length (by omega) (by omega);have w1:IntKind.i64.wrap ((i:Int)+1)=(i:Int)+1:=ay (by unfold aZ;omega);have w2:IntKind.i64.wrap ((blocks.length:Int)-1)=(blocks.length:Int)-1:=ay (by unfold aZ;omega);have w3:¬(i:Int)<(blocks.length:Int)-1:=by omega
 have w6:(0:Int)≤m1.out.length:=by omega
 generalize m3.lead m1.out.length=M5 at*;generalize m1.put (ins 10 0 0 0 0) 0=M2 at*;rw[ah];simp at h1 h2 h3 h5;simp[Tryz.f135]at hx⊢;simp[aV,aS,df,de,h1,h2,h3,h5,w1,w2,w3,w6,hx]
theorem WI {p:Pg} {s:Sm} {blocks:List (List Sm)} {n i:Nat} {b:List Sm} (aV:i<blocks.length) (aS:blocks[i]=b) (de:¬i<n) (hn:n<99999990) (gn:¬i+1<blocks.length) (gA:blocks.length<99999990)
 {m m3:Mk}
 (h3:fR p m3 0 (.ret (.aU [])) (ai ctx 51 [.ptr 0 0 0,.d (.list (b.map cC))] (fQ p m 0)))
 (E:List Int) (k:Kt) (Q:bU→Prop)
 (hx:∀v1 v2 v3 ve,Q (aG ctx 135 (.loop (Code.at (bh Tryz.f135) [1,0,1,0,0])) ⟨49,aB,[(0,true,.ptr 0 0 0),(1,true,.d (.list (blocks.map df))),(2,true,.d (.int .i64 n)),(3,true,.fn 136 [.ptr 1 0 0,.ptr 2 0 0]),(8,true,.vec 500 ve 0 E.length),(12,true,.d (.list (blocks.map df))),(13,true,.d (.int .i64 blocks.length)),(14,true,.d (.int .i64 (i+1)))],zy p m3 s E v1 v2 v3 ve⟩ k))
 (v1 v2 v3 ve:Nat):
 Q (aG ctx 135 (.loop (Code.at (bh Tryz.f135) [1,0,1,0,0])) ⟨49,aB,[(0,true,.ptr 0 0 0),(1,true,.d (.list (blocks.map df))),(2,true,.d (.int .i64 n)),(3,true,.fn 136 [.ptr 1 0 0,.ptr 2 0 0]),(8,true,.vec 500 ve 0 E.length),(12,true,.d (.list (blocks.map df))),(13,true,.d (.int .i64 blocks.length)),(14,true,.d (.int .i64 i))],zy p m s E v1 v2 v3 ve⟩ k):=by
 obtain⟨d1,d2,d3,h3⟩:=h3;have w1:IntKind.i64.wrap ((i:Int)+1)=(i:Int)+1:=ay (by unfold aZ;omega);have w2:IntKind.i64.wrap ((blocks.length:Int)-1)=(blocks.length:Int)-1:=ay (by unfold aZ;omega);have w3:¬(i:Int)<(blocks.length:Int)-1:=by omega
 rw[ah];simp at h3;simp[Tryz.f135]at hx⊢;simp[aV,aS,df,de,h3,w1,w2,w3,hx]
theorem Au {p:Pg} {s:Sm} {blocks:List (List Sm)} {n:Nat} {m:Mk} (E:List Int) (k:Kt) (Q:bU→Prop)
 (hx:∀(Y:Env) v1 v2 v3 ve,Q (k (.exit 0) ⟨49,aB,(0,true,.ptr 0 0 0)::(1,true,.d (.list (blocks.map df)))::(2,true,.d (.int .i64 n))::(3,true,.fn 136 [.ptr 1 0 0,.ptr 2 0 0])::(8,true,.vec 500 ve 0 E.length)::Y,zy p m s E v1 v2 v3 ve⟩))
 (v1 v2 v3 ve:Nat) {i:Nat} (hi:i=blocks.length):
 Q (aG ctx 135 (.loop (Code.at (bh Tryz.f135) [1,0,1,0,0])) ⟨49,aB,[(0,true,.ptr 0 0 0),(1,true,.d (.list (blocks.map df))),(2,true,.d (.int .i64 n)),(3,true,.fn 136 [.ptr 1 0 0,.ptr 2 0 0]),(8,true,.vec 500 ve 0 E.length),(12,true,.d (.list (blocks.map df))),(13,true,.d (.int .i64 blocks.length)),(14,true,.d (.int .i64 i))],zy p m s E v1 v2 v3 ve⟩ k):=by
 subst hi;rw[ah];simp[Tryz.f135]at hx⊢;exact hx _ _ _ _ _
def KJ (p:Pg) (m:Mk) (h:Int) (s:Sm) (q:Int) (o:Out) (r:bU):Prop:=∃v1 v2 v3,r=some (o,[(0,.box [.ptr 3 0 0]),(0,bg s),(0,.box [.d (.int .i64 q)]),(0,gJ p m h 4 5 6 v1 v2 v3),(v1,.vec 5 (m.out.map cE)),(v2,.vv (m.ex.map fO) none),(v3,.vec 1 (m.lv.map dy))])
@[simp] def zz (p:Pg) (m:Mk) (s:Sm) (q:Int) (E:List Int) (v1 v2 v3 ve:Nat):List cJ:=[⟨0,0,gJ p m 0 4 5 6 v1 v2 v3⟩,⟨1,0,.box [.ptr 0 0 0]⟩,⟨2,0,bg s⟩,⟨3,0,.box [.d (.int .i64 q)]⟩,⟨4,v1,.vec 5 (m.out.map cE)⟩,⟨5,v2,.vv (m.ex.map fO) none⟩,⟨6,v3,.vec 1 (m.lv.map dy)⟩,⟨500,ve,.vec 1 (E.map dy)⟩]
theorem WJ {p:Pg} {s:Sm} {q:Int} {blocks:List (List Sm)} {n i:Nat} {b:List Sm} (aV:i<blocks.length) (aS:blocks[i]=b) (de:i<n) (hn:n<99999990) (gn:i+1<blocks.length) (gA:blocks.length<99999990)
 {m m1 m3:Mk} (h1:KJ p m1 1 s q (.ret (.aU [])) (ai ctx 208 [.d (.int .i64 i),.ptr 0 0 0,.ptr 1 0 0,.ptr 2 0 0] [.box [.ptr 3 0 0],bg s,.box [.d (.int .i64 q)],gJ p m 0 4 5 6 0 0 0,.vec 5 (m.out.map cE),.vv (m.ex.map fO) none,.vec 1 (m.lv.map dy)]))
 (iR:m1.out.length<99999990)
 (h3:fR p m3 0 (.ret (.aU [])) (ai ctx 51 [.ptr 0 0 0,.d (.list (b.map cC))] (fQ p (m1.put (ins 10 0 0 0 0) 0) 0)))
 (sX:m1.out.length<m3.out.length∧m3.out.length<99999990) (E:List Int) (hE:E.length<99999990) (k:Kt) (Q:bU→Prop)
 (hx:∀v1 v2 v3 ve,Q (aG ctx 135 (.loop (Code.at (bh Tryz.f135) [1,0,1,0,0])) ⟨49,aB,[(0,true,.ptr 0 0 0),(1,true,.d (.list (blocks.map df))),(2,true,.d (.int .i64 n)),(3,true,.fn 208 [.ptr 1 0 0,.ptr 2 0 0,.ptr 3 0 0]),(8,true,.vec 500 ve 0 (E.length+1)),(12,true,.d (.list (blocks.map df))),(13,true,.d (.int .i64 blocks.length)),(14,true,.d (.int .i64 (i+1)))],zz p ((m3.put (ins 9 0 0 0 0) 0).lead m1.out.length) s q (E++[(m3.out.length:Int)]) v1 v2 v3 ve⟩ k))
 (v1 v2 v3 ve:Nat):
 Q (aG ctx 135 (.loop (Code.at (bh Tryz.f135) [1,0,1,0,0])) ⟨49,aB,[(0,true,.ptr 0 0 0),(1,true,.d (.list (blocks.map df))),(2,true,.d (.int .i64 n)),(3,true,.fn 208 [.ptr 1 0 0,.ptr 2 0 0,.ptr 3 0 0]),(8,true,.vec 500 ve 0 E.length),(12,true,.d (.list (blocks.map df))),(13,true,.d (.int .i64 blocks.length)),(14,true,.d (.int .i64 i))],zz p m s q E v1 v2 v3 ve⟩ k):=by
 obtain⟨a1,a2,a3,h1⟩:=h1;obtain⟨c1,c2,c3,h2⟩:=vy p m1 1 0 (by omega) (by decide);rw[show (1:Int)+ -1=0 by omega]at h2;obtain⟨d1,d2,d3,h3⟩:=h3;obtain⟨e1,e2,e3,h4⟩:=BS p m3 0 0 (by omega) (by decide);have BV:(m3.put (ins 9 0 0 0 0) 0).out.length=m3.out.length+1:=by simp[Mk.put]
 have h5:=qh p (m3.put (ins 9 0 0 0 0) 0) 0 m1.out.length (by rw[BV];omega) (by rw[BV];omega);have w1:IntKind.i64.wrap ((i:Int)+1)=(i:Int)+1:=ay (by unfold aZ;omega);have w2:IntKind.i64.wrap ((blocks.length:Int)-1)=(blocks.length:Int)-1:=ay (by unfold aZ;omega);have w3:(i:Int)<(blocks.length:Int)-1:=by omega
 have w4:E.length≤4611686018427387903:=by omega
 have w5:(E.length+1)*8≤140737488355328:=by omega
 have w6:(0:Int)≤m1.out.length:=by omega
 generalize (m3.put (ins 9 0 0 0 0) 0).lead m1.out.length=M5 at*;generalize m3.put (ins 9 0 0 0 0) 0=M4 at*;generalize m1.put (ins 10 0 0 0 0) 0=M2 at*;rw[ah];simp at h1 h2 h3 h4 h5;simp[Tryz.f135]at hx⊢;simp[aV,aS,df,de,h1,h2,h3,h4,h5,w1,w2,w3,w4,w5,w6,hx]
theorem WK {p:Pg} {s:Sm} {q:Int} {blocks:List (List Sm)} {n i:Nat} {b:List Sm} (aV:i<blocks.length) (aS:blocks[i]=b) (de:i<n) (hn:n<99999990) (gn:¬i+1<blocks.length) (gA:blocks.length<99999990)
 {m m1 m3:Mk} (h1:KJ p m1 1 s q (.ret (.aU [])) (ai ctx 208 [.d (.int .i64 i),.ptr 0 0 0,.ptr 1 0 0,.ptr 2 0 0] [.box [.ptr 3 0 0],bg s,.box [.d (.int .i64 q)],gJ p m 0 4 5 6 0 0 0,.vec 5 (m.out.map cE),.vv (m.ex.map fO) none,.vec 1 (m.lv.map dy)]))
 (iR:m1.out.length<99999990)
 (h3:fR p m3 0 (.ret (.aU [])) (ai ctx 51 [.ptr 0 0 0,.d (.list (b.map cC))] (fQ p (m1.put (ins 10 0 0 0 0) 0) 0)))
 (sX:m1.out.length<m3.out.length∧m3.out.length<99999990) (E:List Int) (hE:E.length<99999990) (k:Kt) (Q:bU→Prop)
 (hx:∀v1 v2 v3 ve,Q (aG ctx 135 (.loop (Code.at (bh Tryz.f135) [1,0,1,0,0])) ⟨49,aB,[(0,true,.ptr 0 0 0),(1,true,.d (.list (blocks.map df))),(2,true,.d (.int .i64 n)),(3,true,.fn 208 [.ptr 1 0 0,.ptr 2 0 0,.ptr 3 0 0]),(8,true,.vec 500 ve 0 E.length),(12,true,.d (.list (blocks.map df))),(13,true,.d (.int .i64 blocks.length)),(14,true,.d (.int .i64 (i+1)))],zz p (m3.lead m1.out.length) s q E v1 v2 v3 ve⟩ k))
 (v1 v2 v3 ve:Nat):
 Q (aG ctx 135 (.loop (Code.at (bh Tryz.f135) [1,0,1,0,0])) ⟨49,aB,[(0,true,.ptr 0 0 0),(1,true,.d (.list (blocks.map df))),(2,true,.d (.int .i64 n)),(3,true,.fn 208 [.ptr 1 0 0,.ptr 2 0 0,.ptr 3 0 0]),(8,true,.vec 500 ve 0 E.length),(12,true,.d (.list (blocks.map df))),(13,true,.d (.int .i64 blocks.length)),(14,true,.d (.int .i64 i))],zz p m s q E v1 v2 v3 ve⟩ k):=by
 obtain⟨a1,a2,a3,h1⟩:=h1;obtain⟨c1,c2,c3,h2⟩:=vy p m1 1 0 (by omega) (by decide);rw[show (1:Int)+ -1=0 by omega]at h2;obtain⟨d1,d2,d3,h3⟩:=h3;have h5:=qh p m3 0 m1.out.length (by omega) (by omega);have w1:IntKind.i64.wrap ((i:Int)+1)=(i:Int)+1:=ay (by unfold aZ;omega);have w2:IntKind.i64.wrap ((blocks.length:Int)-1)=(blocks.length:Int)-1:=ay (by unfold aZ;omega);have w3:¬(i:Int)<(blocks.length:Int)-1:=by omega
 have w6:(0:Int)≤m1.out.length:=by omega
 generalize m3.lead m1.out.length=M5 at*;generalize m1.put (ins 10 0 0 0 0) 0=M2 at*;rw[ah];simp at h1 h2 h3 h5;simp[Tryz.f135]at hx⊢;simp[aV,aS,df,de,h1,h2,h3,h5,w1,w2,w3,w6,hx]
theorem WL {p:Pg} {s:Sm} {q:Int} {blocks:List (List Sm)} {n i:Nat} {b:List Sm} (aV:i<blocks.length) (aS:blocks[i]=b) (de:¬i<n) (hn:n<99999990) (gn:¬i+1<blocks.length) (gA:blocks.length<99999990)
 {m m3:Mk}
 (h3:fR p m3 0 (.ret (.aU [])) (ai ctx 51 [.ptr 0 0 0,.d (.list (b.map cC))] (fQ p m 0)))
 (E:List Int) (k:Kt) (Q:bU→Prop)
 (hx:∀v1 v2 v3 ve,Q (aG ctx 135 (.loop (Code.at (bh Tryz.f135) [1,0,1,0,0])) ⟨49,aB,[(0,true,.ptr 0 0 0),(1,true,.d (.list (blocks.map df))),(2,true,.d (.int .i64 n)),(3,true,.fn 208 [.ptr 1 0 0,.ptr 2 0 0,.ptr 3 0 0]),(8,true,.vec 500 ve 0 E.length),(12,true,.d (.list (blocks.map df))),(13,true,.d (.int .i64 blocks.length)),(14,true,.d (.int .i64 (i+1)))],zz p m3 s q E v1 v2 v3 ve⟩ k))
 (v1 v2 v3 ve:Nat):
 Q (aG ctx 135 (.loop (Code.at (bh Tryz.f135) [1,0,1,0,0])) ⟨49,aB,[(0,true,.ptr 0 0 0),(1,true,.d (.list (blocks.map df))),(2,true,.d (.int .i64 n)),(3,true,.fn 208 [.ptr 1 0 0,.ptr 2 0 0,.ptr 3 0 0]),(8,true,.vec 500 ve 0 E.length),(12,true,.d (.list (blocks.map df))),(13,true,.d (.int .i64 blocks.length)),(14,true,.d (.int .i64 i))],zz p m s q E v1 v2 v3 ve⟩ k):=by
 obtain⟨d1,d2,d3,h3⟩:=h3;have w1:IntKind.i64.wrap ((i:Int)+1)=(i:Int)+1:=ay (by unfold aZ;omega);have w2:IntKind.i64.wrap ((blocks.length:Int)-1)=(blocks.length:Int)-1:=ay (by unfold aZ;omega);have w3:¬(i:Int)<(blocks.length:Int)-1:=by omega
 rw[ah];simp at h3;simp[Tryz.f135]at hx⊢;simp[aV,aS,df,de,h3,w1,w2,w3,hx]
theorem Av {p:Pg} {s:Sm} {q:Int} {blocks:List (List Sm)} {n:Nat} {m:Mk} (E:List Int) (k:Kt) (Q:bU→Prop)
 (hx:∀(Y:Env) v1 v2 v3 ve,Q (k (.exit 0) ⟨49,aB,(0,true,.ptr 0 0 0)::(1,true,.d (.list (blocks.map df)))::(2,true,.d (.int .i64 n))::(3,true,.fn 208 [.ptr 1 0 0,.ptr 2 0 0,.ptr 3 0 0])::(8,true,.vec 500 ve 0 E.length)::Y,zz p m s q E v1 v2 v3 ve⟩))
 (v1 v2 v3 ve:Nat) {i:Nat} (hi:i=blocks.length):
 Q (aG ctx 135 (.loop (Code.at (bh Tryz.f135) [1,0,1,0,0])) ⟨49,aB,[(0,true,.ptr 0 0 0),(1,true,.d (.list (blocks.map df))),(2,true,.d (.int .i64 n)),(3,true,.fn 208 [.ptr 1 0 0,.ptr 2 0 0,.ptr 3 0 0]),(8,true,.vec 500 ve 0 E.length),(12,true,.d (.list (blocks.map df))),(13,true,.d (.int .i64 blocks.length)),(14,true,.d (.int .i64 i))],zz p m s q E v1 v2 v3 ve⟩ k):=by
 subst hi;rw[ah];simp[Tryz.f135]at hx⊢;exact hx _ _ _ _ _
@[simp] theorem anz:List.range 7=[0,1,2,3,4,5,6]:=rfl
@[simp] theorem anA:List.range 8=[0,1,2,3,4,5,6,7]:=rfl
@[simp] def mqL (p:Pg) (m:Mk) (h:Int) (s:Sm) (q:Int) (v1 v2 v3:Nat):List cJ:=[⟨0,0,.box [.ptr 3 0 0]⟩,⟨1,0,bg s⟩,⟨2,0,.box [.d (.int .i64 q)]⟩,⟨3,0,gJ p m h 4 5 6 v1 v2 v3⟩,⟨4,v1,.vec 5 (m.out.map cE)⟩,⟨5,v2,.vv (m.ex.map fO) none⟩,⟨6,v3,.vec 1 (m.lv.map dy)⟩]
theorem DZ {p:Pg} {s:Sm} {q:Int} (l:List Int) (bm:l.length<99999990) (k:Kt) (Q:Mk→bU→Prop)
 (hx:∀(Y:Env) M v1 v2 v3,Q M (k (.exit 0) ⟨38,aB,Y,mqL p M 1 s q v1 v2 v3⟩)):
 ∀(rest pre:List Int) (m:Mk) (v1 v2 v3:Nat),l=pre++rest→rest.length%2=0→0≤m.most→m.out.length+rest.length<99999990→2≤m.most∨rest≠[]→
 Q (m.au (ee q rest) 2) (aG ctx 208 (.loop (Code.at (bh Tryz.f208) [1,1,1,0,0])) ⟨38,aB,[(1,true,.ptr 0 0 0),(3,true,.ptr 2 0 0),(5,true,.d (.list (l.map fun n=>.int .i64 n))),(6,true,.d (.int .i64 pre.length))],mqL p m 1 s q v1 v2 v3⟩ k)
 |[],pre,m,v1,v2,v3,hd,he,hm,hl,h2=>by
  have cw:pre.length=l.length:=by rw[hd];simp
  have e:m.au (ee q []) 2=m:=by
   simp[ee,Mk.au];cases m;simp at hm h2⊢;omega
  rw[e];have w1:IntKind.i64.wrap ((l.length:Int)+1)=(l.length:Int)+1:=ay (by unfold aZ;omega);have w2:¬(l.length:Int)+1<l.length:=by omega
  rw[cw,ah];simp at hx;simp[Tryz.f208,w1,w2,hx]
 |[a],pre,m,v1,v2,v3,hd,he,hm,hl,h2=>by simp at he
 |a::b::rest,pre,m,v1,v2,v3,hd,he,hm,hl,h2=>by
  simp only[List.length_cons]at hl he;obtain⟨c1,c2,c3,g1⟩:=jo p m 1 1 (ins 14 q 0 a b) (by omega) (by decide);obtain⟨d1,d2,d3,g2⟩:=jo p (m.put (ins 14 q 0 a b) (1+1)) (1+1) (-1) (ins 8 1 21 0 0) (by simp[Mk.put];omega) (by decide);have e:m.au (ee q (a::b::rest)) 2=((m.put (ins 14 q 0 a b) (1+1)).put (ins 8 1 21 0 0) (1+1+ -1)).au (ee q rest) 2:=by
   simp only[ee,Mk.put,Mk.au,Mk.mk.injEq];simp;omega
  rw[e];have ih:=fun v1 v2 v3=>DZ (p:=p) (s:=s) (q:=q) l bm k Q hx rest (pre++[a,b]) ((m.put (ins 14 q 0 a b) (1+1)).put (ins 8 1 21 0 0) (1+1+ -1)) v1 v2 v3 (by simp[hd]) (by omega) (by simp[Mk.put];omega) (by simp[Mk.put];omega) (by simp[Mk.put];omega);clear hx e;generalize (m.put (ins 14 q 0 a b) (1+1)).put (ins 8 1 21 0 0) (1+1+ -1)=M at*;generalize m.put (ins 14 q 0 a b) (1+1)=N at*;have jI:l.length=pre.length+(rest.length+2):=by rw[hd];simp
  have w1:IntKind.i64.wrap ((pre.length:Int)+1)=(pre.length:Int)+1:=ay (by unfold aZ;omega);have w2:(pre.length:Int)+1<l.length:=by omega
  have w3:IntKind.i64.wrap ((pre.length:Int)+2)=(pre.length:Int)+2:=ay (by unfold aZ;omega);have i1:pre.length<l.length:=by omega
  have i2:l[pre.length]=a:=by simp[hd]
  have i3:pre.length+1<l.length:=by omega
  have i4:l[pre.length+1]=b:=by simp[hd]
  have i5:((pre.length:Int)+1).toNat=pre.length+1:=by omega
  have i6:(0:Int)≤(pre.length:Int)+1:=by omega
  rw[ah];simp[ins]at g1 g2;simp[Tryz.f208]at ih⊢;simp[w1,w2,w3,i1,i2,i3,i4,i5,i6,g1,g2,aI,ih]
theorem TF {p:Pg} (s:Sm) (q:Int) (i:Nat) (l:List Int) (hc:(ea s)[i]?=some l) (hb:pf l=true) (m:Mk) (hm:0≤m.most) (hl:m.out.length+l.length+1<99999990):
 KJ p (m.au (ins 1 0 0 0 0::ee q l) 2) 1 s q (.ret (.aU [])) (ai ctx 208 [.d (.int .i64 i),.ptr 0 0 0,.ptr 1 0 0,.ptr 2 0 0] [.box [.ptr 3 0 0],bg s,.box [.d (.int .i64 q)],gJ p m 0 4 5 6 0 0 0,.vec 5 (m.out.map cE),.vv (m.ex.map fO) none,.vec 1 (m.lv.map dy)]):=by
 have bm:l.length<99999990:=by omega
 simp only[pf,Bool.and_eq_true,Bool.not_eq_true',decide_eq_true_eq,decide_eq_false_iff_not]at hb;obtain⟨Qv,aS,_⟩:=hb;obtain⟨c1,c2,c3,g1⟩:=jo p m 0 1 (ins 1 0 0 0 0) (by omega) (by decide);have e:m.au (ins 1 0 0 0 0::ee q l) 2=(m.put (ins 1 0 0 0 0) (0+1)).au (ee q l) 2:=by
  simp only[Mk.put,Mk.au,Mk.mk.injEq];simp;omega
 rw[e];have dc:=fun k Q hx v1 v2 v3=>DZ (p:=p) (s:=s) (q:=q) l bm k Q hx l [] (m.put (ins 1 0 0 0 0) (0+1)) v1 v2 v3 rfl (by omega) (by simp[Mk.put];omega) (by simp[Mk.put];omega) (.inr (by intro h;simp[h]at Qv));generalize (m.put (ins 1 0 0 0 0) (0+1)).au (ee q l) 2=M at*;generalize m.put (ins 1 0 0 0 0) (0+1)=N at*;have aV:i<(ea s).length:=(List.getElem?_eq_some_iff.1 hc).1;have aS:(ea s)[i]=l:=(List.getElem?_eq_some_iff.1 hc).2;rw[ZQ (by simp)];simp[ins]at g1;simp[Tryz.f208]at dc⊢;simp[g1,aV,aS,mA];refine dc _ (fun X r=>X=M→KJ p M 1 s q (.ret (.aU [])) r) (fun Y X v1 v2 v3 hX=>?_) _ _ _ rfl;subst hX;have r7:List.range 7=[0,1,2,3,4,5,6]:=rfl;simp[r7];exact⟨_,_,_,rfl⟩
theorem sY (vs:List Vr):∀(l:List (List Sm)) (c:Int),(ar vs l c).1.length=l.length
 |[],c=>by simp[ar]
 |b::r,c=>by simp[ar,sY vs r]
theorem Hg {vs:List Vr} {l:List (List Sm)} {c:Int}:(ar vs l c).1=[]↔l=[]:=by
 constructor
 ·intro h;have:=sY vs l c;rw[h]at this;exact rQ this.symm
 ·rintro rfl;simp[ar]
theorem QQ (t:List aq) (ts:List (List aq)) (b:List aq) (r:List (List aq)):t.length+1+b.length+(if r=[]then 0 else 1+(cy ts r).length)≤(cy (t::ts) (b::r)).length:=by
 simp only[cy];by_cases h:r=[]
 ·subst h;simp[dL];omega
 ·simp[h,dL];omega
theorem yD (m:Mk) (t:List aq×Int):(m.fS t).out.length=m.out.length+t.1.length+1:=by simp[Mk.fS,Mk.au,Mk.put];omega
theorem sZ {m:Mk} {ts:List (List aq×Int)} {bs:List (List aq)} {c t u:Int} (h:max m.most t=max m.most u):m.dh ts bs c t=m.dh ts bs c u:=by
 unfold Mk.dh;rw[h]
theorem vB {vs:List Vr}:∀(l:List (List Sm)) (c:Int),0≤c→(∀b∈l,∀c,0≤c→c≤(ag vs b c).2)→c≤(ar vs l c).2
 |[],c,_,_=>by simp[ar]
 |b::r,c,h0,h=>by
  have h1:=h b (by simp) c h0;have h2:=vB r (ag vs b c).2 (by omega) (fun b hb=>h b (by simp[hb]));simp only[ar];omega
section
variable {p:Pg} {lp:Bool}
theorem Hh {s:Sm} {blocks:List (List Sm)} {ts:List (List aq×Int)} (gA:blocks.length<99999990) (jw:ts.length≤blocks.length) (BW:blocks.length≤ts.length+1)
 (HT:∀(i:Nat) (t:List aq×Int),ts[i]?=some t→∀m:Mk,0≤m.most→m.out.length+t.1.length<99999990→DY p (m.au t.1 t.2) 1 s (.ret (.aU [])) (ai ctx 136 [.d (.int .i64 i),.ptr 0 0 0,.ptr 1 0 0] [.box [.ptr 2 0 0],bg s,gJ p m 0 3 4 5 0 0 0,.vec 5 (m.out.map cE),.vv (m.ex.map fO) none,.vec 1 (m.lv.map dy)]))
 (HB:∀b∈blocks,rW p lp b) (HC:∀b∈blocks,∀c,0≤c→c≤(ag p.vars b c).2) (k:Kt) (Q:Mk→List Int→bU→Prop)
 (hx:∀(Y:Env) M E v1 v2 v3 ve,Q M E (k (.exit 0) ⟨49,aB,(0,true,.ptr 0 0 0)::(1,true,.d (.list (blocks.map df)))::(2,true,.d (.int .i64 ts.length))::(3,true,.fn 136 [.ptr 1 0 0,.ptr 2 0 0])::(8,true,.vec 500 ve 0 E.length)::Y,zy p M s E v1 v2 v3 ve⟩)):
 ∀(br bp:List (List Sm)) (tr tp:List (List aq×Int)) (m:Mk) (E:List Int) (v1 v2 v3 ve:Nat),blocks=bp++br→ts=tp++tr→(bp.length=tp.length∨(tr=[]∧br=[]))→0≤m.most→0≤m.cells→iw m→(lp=true→m.ex≠[])→
 m.out.length+(cy (dn tr) (ar p.vars br m.cells).1).length<99999990→(ar p.vars br m.cells).2<99999990→(∀b∈blocks,m.ex.length+ix b<99999990)→E.length+br.length<99999980→
 Q (m.dh tr (ar p.vars br m.cells).1 (ar p.vars br m.cells).2 (max (dw tr) (bV br))) (E++fC m.out.length (dn tr) (ar p.vars br m.cells).1)
  (aG ctx 135 (.loop (Code.at (bh Tryz.f135) [1,0,1,0,0])) ⟨49,aB,[(0,true,.ptr 0 0 0),(1,true,.d (.list (blocks.map df))),(2,true,.d (.int .i64 ts.length)),(3,true,.fn 136 [.ptr 1 0 0,.ptr 2 0 0]),(8,true,.vec 500 ve 0 E.length),(12,true,.d (.list (blocks.map df))),(13,true,.d (.int .i64 blocks.length)),(14,true,.d (.int .i64 bp.length))],zy p m s E v1 v2 v3 ve⟩ k)
 |[],bp,tr,tp,m,E,v1,v2,v3,ve,h1,h2,h3,hm,hc,hI,hex,ho,aP,fG,hE=>by
  have Hi:tr=[]:=by
   rcases h3 with h3|h3
   ·have a1:blocks.length=bp.length:=by rw[h1];simp
    have a2:ts.length=tp.length+tr.length:=by rw[h2];simp
    exact rQ (by omega)
   ·exact h3.1
  subst Hi;have e1:(ar p.vars [] m.cells)=([],m.cells):=by simp[ar]
  have e2:m.dh [] (ar p.vars [] m.cells).1 (ar p.vars [] m.cells).2 (max (dw []) (bV []))=m:=by
   rw[e1];have:=Hf m [] hm;simpa [dw,bV]using this
  have e3:E++fC m.out.length (dn []) (ar p.vars [] m.cells).1=E:=by rw[e1];simp[fC]
  rw[e2,e3];exact Au E k (Q m E) (fun Y v1 v2 v3 ve=>hx Y m E v1 v2 v3 ve) v1 v2 v3 ve (by rw[h1];simp)
 |b::br,bp,[],tp,m,E,v1,v2,v3,ve,h1,h2,h3,hm,hc,hI,hex,ho,aP,fG,hE=>by
  have h3:bp.length=tp.length:=by
   rcases h3 with h3|h3
   ·exact h3
   ·cases h3.2
  have a1:blocks.length=bp.length+(br.length+1):=by rw[h1];simp
  have a2:ts.length=tp.length:=by rw[h2];simp
  have xV:br=[]:=rQ (by omega);subst xV;have eg:ar p.vars [b] m.cells=([(ag p.vars b m.cells).1],(ag p.vars b m.cells).2):=by simp[ar]
  rw[eg]at ho aP⊢;have cx:m.out.length+(ag p.vars b m.cells).1.length<99999990:=by simpa [dn,cy]using ho
  have oQ:=HB b (by rw[h1];simp) m hm hc hI hex (by omega) aP (fG b (by rw[h1];simp));have e2:m.dh [] [(ag p.vars b m.cells).1] (ag p.vars b m.cells).2 (max (dw []) (bV [b]))=m.aL (ag p.vars b m.cells).1 (ag p.vars b m.cells).2 (aY b):=by
   rw[←KI];exact mf (by simp only[dw,bV];omega)
  have e3:E++fC m.out.length (dn []) [(ag p.vars b m.cells).1]=E:=by simp[dn,fC]
  simp only
  rw[e2,e3];refine WI (i:=bp.length) (b:=b) (by omega) (by simp[h1]) (by omega) (by omega) (by omega) gA oQ E k (Q _ E) (fun v1 v2 v3 ve=>?_) v1 v2 v3 ve;exact Au E k (Q _ E) (fun Y v1 v2 v3 ve=>hx Y _ E v1 v2 v3 ve) v1 v2 v3 ve (i:=bp.length+1) (by omega)
 |b::br,bp,t::tr,tp,m,E,v1,v2,v3,ve,h1,h2,h3,hm,hc,hI,hex,ho,aP,fG,hE=>by
  have h3:bp.length=tp.length:=by
   rcases h3 with h3|h3
   ·exact h3
   ·cases h3.2
  have a1:blocks.length=bp.length+(br.length+1):=by rw[h1];simp
  have a2:ts.length=tp.length+(tr.length+1):=by rw[h2];simp
  have eg:ar p.vars (b::br) m.cells=((ag p.vars b m.cells).1::(ar p.vars br (ag p.vars b m.cells).2).1,(ar p.vars br (ag p.vars b m.cells).2).2):=by simp[ar]
  rw[eg]at ho aP⊢;have wb:=QQ t.1 (dn tr) (ag p.vars b m.cells).1 (ar p.vars br (ag p.vars b m.cells).2).1;have qG:=HC b (by rw[h1];simp) m.cells hc;have b8:=vB br (ag p.vars b m.cells).2 (by omega) (fun b hb=>HC b (by rw[h1];simp[hb]));have ec:dn (t::tr)=t.1::dn tr:=rfl;rw[ec]at ho⊢;simp only at aP ho;have hT:=HT bp.length t (by rw[h2,h3];simp) m hm (by omega);have hmt:0≤(m.fS t).most:=by simp[Mk.fS,Mk.au,Mk.put];omega
  have oQ:=HB b (by rw[h1];simp) (m.fS t) hmt hc ((hI.au _ _).put _ _) hex (by rw[yD];show _+(ag p.vars b m.cells).1.length<_;omega) (by show (ag p.vars b m.cells).2<_;omega) (fG b (by rw[h1];simp));have oQ:fR p ((m.fS t).aL (ag p.vars b m.cells).1 (ag p.vars b m.cells).2 (aY b)) 0 (.ret (.aU [])) (ai ctx 51 [.ptr 0 0 0,.d (.list (b.map cC))] (fQ p ((m.au t.1 t.2).put (ins 10 0 0 0 0) 0) 0)):=oQ;have iR:(m.au t.1 t.2).out.length=m.out.length+t.1.length:=by simp[Mk.au]
  have sX:((m.fS t).aL (ag p.vars b m.cells).1 (ag p.vars b m.cells).2 (aY b)).out.length=m.out.length+t.1.length+1+(ag p.vars b m.cells).1.length:=by
   show ((m.fS t).out++cH _ _).length=_;rw[List.length_append,mm,yD]
  have n9:((m.au t.1 t.2).out.length:Int)=((m.out.length+t.1.length:Nat):Int):=by rw[iR]
  by_cases xV:br=[]
  ·subst xV;have Hi:tr=[]:=rQ (by simp at a1;omega);subst Hi;have eb:ar p.vars [] (ag p.vars b m.cells).2=([],(ag p.vars b m.cells).2):=by simp[ar]
   rw[eb];have e2:m.dh [t] [(ag p.vars b m.cells).1] (ag p.vars b m.cells).2 (max (dw [t]) (bV [b]))=((m.fS t).aL (ag p.vars b m.cells).1 (ag p.vars b m.cells).2 (aY b)).lead (m.au t.1 t.2).out.length:=by
    rw[n9,KC m t [] _ _ _ hm];exact sZ (by simp only[dw,bV];omega)
   have e3:E++fC m.out.length (t.1::dn []) [(ag p.vars b m.cells).1]=E:=by simp[dn,fC]
   simp only
   rw[e2,e3];refine WH (i:=bp.length) (b:=b) (by omega) (by simp[h1]) (by omega) (by omega) (by simp at a1;omega) gA hT (by rw[iR];omega) oQ (by rw[iR,sX];omega) E (by omega) k (Q _ E) (fun v1 v2 v3 ve=>?_) v1 v2 v3 ve;exact Au E k (Q _ E) (fun Y v1 v2 v3 ve=>hx Y _ E v1 v2 v3 ve) v1 v2 v3 ve (i:=bp.length+1) (by simp at a1;omega)
  ·have Qv:0<br.length:=by
    cases br with
    |nil=>exact absurd rfl xV
    |cons _ _=>simp
   have oM:(ar p.vars br (ag p.vars b m.cells).2).1≠[]:=fun h=>xV (Hg.1 h);rw[if_neg oM]at wb;refine WG (i:=bp.length) (b:=b) (by omega) (by simp[h1]) (by omega) (by omega) (by omega) gA hT (by rw[iR];omega) oQ (by rw[iR,sX];omega) E (by omega) k (Q _ _) (fun v1 v2 v3 ve=>?_) v1 v2 v3 ve;have e2:=KD m t tr (ag p.vars b m.cells).1 (ar p.vars br (ag p.vars b m.cells).2).1 (ag p.vars b m.cells).2 (ar p.vars br (ag p.vars b m.cells).2).2 (aY b) (max (dw tr) (bV br)) hm oM;have e3:fC m.out.length (t.1::dn tr) ((ag p.vars b m.cells).1::(ar p.vars br (ag p.vars b m.cells).2).1)=((m.out.length+t.1.length+1+(ag p.vars b m.cells).1.length:Nat):Int)::fC (m.out.length+t.1.length+2+(ag p.vars b m.cells).1.length) (dn tr) (ar p.vars br (ag p.vars b m.cells).2).1:=by
    simp only[fC,if_neg oM]
   have hM:((((m.fS t).aL (ag p.vars b m.cells).1 (ag p.vars b m.cells).2 (aY b)).put (ins 9 0 0 0 0) 0).lead (m.out.length+t.1.length:Nat)).out.length=m.out.length+t.1.length+2+(ag p.vars b m.cells).1.length:=by
    rw[As];show (((m.fS t).aL _ _ _).out++_).length=_;rw[List.length_append,sX];simp;omega
   have BX:((((m.fS t).aL (ag p.vars b m.cells).1 (ag p.vars b m.cells).2 (aY b)).put (ins 9 0 0 0 0) 0).lead (m.out.length+t.1.length:Nat)).cells=(ag p.vars b m.cells).2:=rfl;have QR:((((m.fS t).aL (ag p.vars b m.cells).1 (ag p.vars b m.cells).2 (aY b)).put (ins 9 0 0 0 0) 0).lead (m.out.length+t.1.length:Nat)).ex.length=m.ex.length:=by
    show (gK m.ex _).length=_;simp
   have hMm:0≤((((m.fS t).aL (ag p.vars b m.cells).1 (ag p.vars b m.cells).2 (aY b)).put (ins 9 0 0 0 0) 0).lead (m.out.length+t.1.length:Nat)).most:=by
    simp[Mk.lead,Mk.put,Mk.aL];omega
   have e5:m.dh (t::tr) ((ag p.vars b m.cells).1::(ar p.vars br (ag p.vars b m.cells).2).1) (ar p.vars br (ag p.vars b m.cells).2).2 (max (dw (t::tr)) (bV (b::br)))=((((m.fS t).aL (ag p.vars b m.cells).1 (ag p.vars b m.cells).2 (aY b)).put (ins 9 0 0 0 0) 0).lead (m.out.length+t.1.length:Nat)).dh tr (ar p.vars br (ag p.vars b m.cells).2).1 (ar p.vars br (ag p.vars b m.cells).2).2 (max (dw tr) (bV br)):=by
    rw[e2];exact sZ (by simp only[dw,bV];omega)
   have ih:=Hh gA jw BW HT HB HC k Q hx br (bp++[b]) tr (tp++[t]) ((((m.fS t).aL (ag p.vars b m.cells).1 (ag p.vars b m.cells).2 (aY b)).put (ins 9 0 0 0 0) 0).lead (m.out.length+t.1.length:Nat)) (E++[((m.out.length+t.1.length+1+(ag p.vars b m.cells).1.length:Nat):Int)]) v1 v2 v3 ve (by simp[h1]) (by simp[h2]) (.inl (by simp[h3])) hMm (by rw[BX];omega) ((((((hI.au _ _).put _ _).aL _ _ _).put _ _).lead _)) (fun h=>by
    intro h0;have:=QR;rw[h0]at this;have h9:=hex h;cases QS:m.ex with
    |nil=>exact h9 QS
    |cons _ _=>rw[QS]at this;simp at this) (by rw[hM,BX];omega) (by rw[BX];omega) (fun b hb=>by rw[QR];exact fG b hb) (by simp at hE⊢;omega)
   rw[hM,BX]at ih;simp only
   rw[e5,e3,n9,sX];have e6:E++((m.out.length+t.1.length+1+(ag p.vars b m.cells).1.length:Nat):Int)::fC (m.out.length+t.1.length+2+(ag p.vars b m.cells).1.length) (dn tr) (ar p.vars br (ag p.vars b m.cells).2).1=E++[((m.out.length+t.1.length+1+(ag p.vars b m.cells).1.length:Nat):Int)]++fC (m.out.length+t.1.length+2+(ag p.vars b m.cells).1.length) (dn tr) (ar p.vars br (ag p.vars b m.cells).2).1:=by simp
   rw[e6];simpa using ih
end
section
variable {p:Pg} {lp:Bool}
theorem Hj {s:Sm} {q:Int} {blocks:List (List Sm)} {ts:List (List aq×Int)} (gA:blocks.length<99999990) (jw:ts.length≤blocks.length) (BW:blocks.length≤ts.length+1)
 (HT:∀(i:Nat) (t:List aq×Int),ts[i]?=some t→∀m:Mk,0≤m.most→m.out.length+t.1.length<99999990→KJ p (m.au t.1 t.2) 1 s q (.ret (.aU [])) (ai ctx 208 [.d (.int .i64 i),.ptr 0 0 0,.ptr 1 0 0,.ptr 2 0 0] [.box [.ptr 3 0 0],bg s,.box [.d (.int .i64 q)],gJ p m 0 4 5 6 0 0 0,.vec 5 (m.out.map cE),.vv (m.ex.map fO) none,.vec 1 (m.lv.map dy)]))
 (HB:∀b∈blocks,rW p lp b) (HC:∀b∈blocks,∀c,0≤c→c≤(ag p.vars b c).2) (k:Kt) (Q:Mk→List Int→bU→Prop)
 (hx:∀(Y:Env) M E v1 v2 v3 ve,Q M E (k (.exit 0) ⟨49,aB,(0,true,.ptr 0 0 0)::(1,true,.d (.list (blocks.map df)))::(2,true,.d (.int .i64 ts.length))::(3,true,.fn 208 [.ptr 1 0 0,.ptr 2 0 0,.ptr 3 0 0])::(8,true,.vec 500 ve 0 E.length)::Y,zz p M s q E v1 v2 v3 ve⟩)):
 ∀(br bp:List (List Sm)) (tr tp:List (List aq×Int)) (m:Mk) (E:List Int) (v1 v2 v3 ve:Nat),blocks=bp++br→ts=tp++tr→(bp.length=tp.length∨(tr=[]∧br=[]))→0≤m.most→0≤m.cells→iw m→(lp=true→m.ex≠[])→
 m.out.length+(cy (dn tr) (ar p.vars br m.cells).1).length<99999990→(ar p.vars br m.cells).2<99999990→(∀b∈blocks,m.ex.length+ix b<99999990)→E.length+br.length<99999980→
 Q (m.dh tr (ar p.vars br m.cells).1 (ar p.vars br m.cells).2 (max (dw tr) (bV br))) (E++fC m.out.length (dn tr) (ar p.vars br m.cells).1)
  (aG ctx 135 (.loop (Code.at (bh Tryz.f135) [1,0,1,0,0])) ⟨49,aB,[(0,true,.ptr 0 0 0),(1,true,.d (.list (blocks.map df))),(2,true,.d (.int .i64 ts.length)),(3,true,.fn 208 [.ptr 1 0 0,.ptr 2 0 0,.ptr 3 0 0]),(8,true,.vec 500 ve 0 E.length),(12,true,.d (.list (blocks.map df))),(13,true,.d (.int .i64 blocks.length)),(14,true,.d (.int .i64 bp.length))],zz p m s q E v1 v2 v3 ve⟩ k)
 |[],bp,tr,tp,m,E,v1,v2,v3,ve,h1,h2,h3,hm,hc,hI,hex,ho,aP,fG,hE=>by
  have Hi:tr=[]:=by
   rcases h3 with h3|h3
   ·have a1:blocks.length=bp.length:=by rw[h1];simp
    have a2:ts.length=tp.length+tr.length:=by rw[h2];simp
    exact rQ (by omega)
   ·exact h3.1
  subst Hi;have e1:(ar p.vars [] m.cells)=([],m.cells):=by simp[ar]
  have e2:m.dh [] (ar p.vars [] m.cells).1 (ar p.vars [] m.cells).2 (max (dw []) (bV []))=m:=by
   rw[e1];have:=Hf m [] hm;simpa [dw,bV]using this
  have e3:E++fC m.out.length (dn []) (ar p.vars [] m.cells).1=E:=by rw[e1];simp[fC]
  rw[e2,e3];exact Av E k (Q m E) (fun Y v1 v2 v3 ve=>hx Y m E v1 v2 v3 ve) v1 v2 v3 ve (by rw[h1];simp)
 |b::br,bp,[],tp,m,E,v1,v2,v3,ve,h1,h2,h3,hm,hc,hI,hex,ho,aP,fG,hE=>by
  have h3:bp.length=tp.length:=by
   rcases h3 with h3|h3
   ·exact h3
   ·cases h3.2
  have a1:blocks.length=bp.length+(br.length+1):=by rw[h1];simp
  have a2:ts.length=tp.length:=by rw[h2];simp
  have xV:br=[]:=rQ (by omega);subst xV;have eg:ar p.vars [b] m.cells=([(ag p.vars b m.cells).1],(ag p.vars b m.cells).2):=by simp[ar]
  rw[eg]at ho aP⊢;have cx:m.out.length+(ag p.vars b m.cells).1.length<99999990:=by simpa [dn,cy]using ho
  have oQ:=HB b (by rw[h1];simp) m hm hc hI hex (by omega) aP (fG b (by rw[h1];simp));have e2:m.dh [] [(ag p.vars b m.cells).1] (ag p.vars b m.cells).2 (max (dw []) (bV [b]))=m.aL (ag p.vars b m.cells).1 (ag p.vars b m.cells).2 (aY b):=by
   rw[←KI];exact mf (by simp only[dw,bV];omega)
  have e3:E++fC m.out.length (dn []) [(ag p.vars b m.cells).1]=E:=by simp[dn,fC]
  simp only
  rw[e2,e3];refine WL (i:=bp.length) (b:=b) (by omega) (by simp[h1]) (by omega) (by omega) (by omega) gA oQ E k (Q _ E) (fun v1 v2 v3 ve=>?_) v1 v2 v3 ve;exact Av E k (Q _ E) (fun Y v1 v2 v3 ve=>hx Y _ E v1 v2 v3 ve) v1 v2 v3 ve (i:=bp.length+1) (by omega)
 |b::br,bp,t::tr,tp,m,E,v1,v2,v3,ve,h1,h2,h3,hm,hc,hI,hex,ho,aP,fG,hE=>by
  have h3:bp.length=tp.length:=by
   rcases h3 with h3|h3
   ·exact h3
   ·cases h3.2
  have a1:blocks.length=bp.length+(br.length+1):=by rw[h1];simp
  have a2:ts.length=tp.length+(tr.length+1):=by rw[h2];simp
  have eg:ar p.vars (b::br) m.cells=((ag p.vars b m.cells).1::(ar p.vars br (ag p.vars b m.cells).2).1,(ar p.vars br (ag p.vars b m.cells).2).2):=by simp[ar]
  rw[eg]at ho aP⊢;have wb:=QQ t.1 (dn tr) (ag p.vars b m.cells).1 (ar p.vars br (ag p.vars b m.cells).2).1;have qG:=HC b (by rw[h1];simp) m.cells hc;have b8:=vB br (ag p.vars b m.cells).2 (by omega) (fun b hb=>HC b (by rw[h1];simp[hb]));have ec:dn (t::tr)=t.1::dn tr:=rfl;rw[ec]at ho⊢;simp only at aP ho;have hT:=HT bp.length t (by rw[h2,h3];simp) m hm (by omega);have hmt:0≤(m.fS t).most:=by simp[Mk.fS,Mk.au,Mk.put];omega
  have oQ:=HB b (by rw[h1];simp) (m.fS t) hmt hc ((hI.au _ _).put _ _) hex (by rw[yD];show _+(ag p.vars b m.cells).1.length<_;omega) (by show (ag p.vars b m.cells).2<_;omega) (fG b (by rw[h1];simp));have oQ:fR p ((m.fS t).aL (ag p.vars b m.cells).1 (ag p.vars b m.cells).2 (aY b)) 0 (.ret (.aU [])) (ai ctx 51 [.ptr 0 0 0,.d (.list (b.map cC))] (fQ p ((m.au t.1 t.2).put (ins 10 0 0 0 0) 0) 0)):=oQ;have iR:(m.au t.1 t.2).out.length=m.out.length+t.1.length:=by simp[Mk.au]
  have sX:((m.fS t).aL (ag p.vars b m.cells).1 (ag p.vars b m.cells).2 (aY b)).out.length=m.out.length+t.1.length+1+(ag p.vars b m.cells).1.length:=by
   show ((m.fS t).out++cH _ _).length=_;rw[List.length_append,mm,yD]
  have n9:((m.au t.1 t.2).out.length:Int)=((m.out.length+t.1.length:Nat):Int):=by rw[iR]
  by_cases xV:br=[]
  ·subst xV;have Hi:tr=[]:=rQ (by simp at a1;omega);subst Hi;have eb:ar p.vars [] (ag p.vars b m.cells).2=([],(ag p.vars b m.cells).2):=by simp[ar]
   rw[eb];have e2:m.dh [t] [(ag p.vars b m.cells).1] (ag p.vars b m.cells).2 (max (dw [t]) (bV [b]))=((m.fS t).aL (ag p.vars b m.cells).1 (ag p.vars b m.cells).2 (aY b)).lead (m.au t.1 t.2).out.length:=by
    rw[n9,KC m t [] _ _ _ hm];exact sZ (by simp only[dw,bV];omega)
   have e3:E++fC m.out.length (t.1::dn []) [(ag p.vars b m.cells).1]=E:=by simp[dn,fC]
   simp only
   rw[e2,e3];refine WK (i:=bp.length) (b:=b) (by omega) (by simp[h1]) (by omega) (by omega) (by simp at a1;omega) gA hT (by rw[iR];omega) oQ (by rw[iR,sX];omega) E (by omega) k (Q _ E) (fun v1 v2 v3 ve=>?_) v1 v2 v3 ve;exact Av E k (Q _ E) (fun Y v1 v2 v3 ve=>hx Y _ E v1 v2 v3 ve) v1 v2 v3 ve (i:=bp.length+1) (by simp at a1;omega)
  ·have Qv:0<br.length:=by
    cases br with
    |nil=>exact absurd rfl xV
    |cons _ _=>simp
   have oM:(ar p.vars br (ag p.vars b m.cells).2).1≠[]:=fun h=>xV (Hg.1 h);rw[if_neg oM]at wb;refine WJ (i:=bp.length) (b:=b) (by omega) (by simp[h1]) (by omega) (by omega) (by omega) gA hT (by rw[iR];omega) oQ (by rw[iR,sX];omega) E (by omega) k (Q _ _) (fun v1 v2 v3 ve=>?_) v1 v2 v3 ve;have e2:=KD m t tr (ag p.vars b m.cells).1 (ar p.vars br (ag p.vars b m.cells).2).1 (ag p.vars b m.cells).2 (ar p.vars br (ag p.vars b m.cells).2).2 (aY b) (max (dw tr) (bV br)) hm oM;have e3:fC m.out.length (t.1::dn tr) ((ag p.vars b m.cells).1::(ar p.vars br (ag p.vars b m.cells).2).1)=((m.out.length+t.1.length+1+(ag p.vars b m.cells).1.length:Nat):Int)::fC (m.out.length+t.1.length+2+(ag p.vars b m.cells).1.length) (dn tr) (ar p.vars br (ag p.vars b m.cells).2).1:=by
    simp only[fC,if_neg oM]
   have hM:((((m.fS t).aL (ag p.vars b m.cells).1 (ag p.vars b m.cells).2 (aY b)).put (ins 9 0 0 0 0) 0).lead (m.out.length+t.1.length:Nat)).out.length=m.out.length+t.1.length+2+(ag p.vars b m.cells).1.length:=by
    rw[As];show (((m.fS t).aL _ _ _).out++_).length=_;rw[List.length_append,sX];simp;omega
   have BX:((((m.fS t).aL (ag p.vars b m.cells).1 (ag p.vars b m.cells).2 (aY b)).put (ins 9 0 0 0 0) 0).lead (m.out.length+t.1.length:Nat)).cells=(ag p.vars b m.cells).2:=rfl;have QR:((((m.fS t).aL (ag p.vars b m.cells).1 (ag p.vars b m.cells).2 (aY b)).put (ins 9 0 0 0 0) 0).lead (m.out.length+t.1.length:Nat)).ex.length=m.ex.length:=by
    show (gK m.ex _).length=_;simp
   have hMm:0≤((((m.fS t).aL (ag p.vars b m.cells).1 (ag p.vars b m.cells).2 (aY b)).put (ins 9 0 0 0 0) 0).lead (m.out.length+t.1.length:Nat)).most:=by
    simp[Mk.lead,Mk.put,Mk.aL];omega
   have e5:m.dh (t::tr) ((ag p.vars b m.cells).1::(ar p.vars br (ag p.vars b m.cells).2).1) (ar p.vars br (ag p.vars b m.cells).2).2 (max (dw (t::tr)) (bV (b::br)))=((((m.fS t).aL (ag p.vars b m.cells).1 (ag p.vars b m.cells).2 (aY b)).put (ins 9 0 0 0 0) 0).lead (m.out.length+t.1.length:Nat)).dh tr (ar p.vars br (ag p.vars b m.cells).2).1 (ar p.vars br (ag p.vars b m.cells).2).2 (max (dw tr) (bV br)):=by
    rw[e2];exact sZ (by simp only[dw,bV];omega)
   have ih:=Hj gA jw BW HT HB HC k Q hx br (bp++[b]) tr (tp++[t]) ((((m.fS t).aL (ag p.vars b m.cells).1 (ag p.vars b m.cells).2 (aY b)).put (ins 9 0 0 0 0) 0).lead (m.out.length+t.1.length:Nat)) (E++[((m.out.length+t.1.length+1+(ag p.vars b m.cells).1.length:Nat):Int)]) v1 v2 v3 ve (by simp[h1]) (by simp[h2]) (.inl (by simp[h3])) hMm (by rw[BX];omega) ((((((hI.au _ _).put _ _).aL _ _ _).put _ _).lead _)) (fun h=>by
    intro h0;have:=QR;rw[h0]at this;have h9:=hex h;cases QS:m.ex with
    |nil=>exact h9 QS
    |cons _ _=>rw[QS]at this;simp at this) (by rw[hM,BX];omega) (by rw[BX];omega) (fun b hb=>by rw[QR];exact fG b hb) (by simp at hE⊢;omega)
   rw[hM,BX]at ih;simp only
   rw[e5,e3,n9,sX];have e6:E++((m.out.length+t.1.length+1+(ag p.vars b m.cells).1.length:Nat):Int)::fC (m.out.length+t.1.length+2+(ag p.vars b m.cells).1.length) (dn tr) (ar p.vars br (ag p.vars b m.cells).2).1=E++[((m.out.length+t.1.length+1+(ag p.vars b m.cells).1.length:Nat):Int)]++fC (m.out.length+t.1.length+2+(ag p.vars b m.cells).1.length) (dn tr) (ar p.vars br (ag p.vars b m.cells).2).1:=by simp
   rw[e6];simpa using ih
end
theorem BY:∀(n:Nat) (ts bs:List (List aq)),∀i∈fC n ts bs,∃k:Nat,i=k∧k<n+(jJ 0 n ts bs).length
 |_,_,[],i,h=>by simp[fC]at h
 |n,[],b::r,i,h=>by
  simp only[fC,jJ]at h⊢;by_cases hr:r=[]
  ·rw[if_pos hr]at h;simp at h
  ·rw[if_neg hr]at h⊢;rcases List.mem_cons.1 h with rfl|h
   ·exact⟨_,rfl,by simp⟩
   ·obtain⟨k,e,hk⟩:=BY (n+b.length+1) [] r i h;exact⟨k,e,by simp;omega⟩
 |n,t::ts,b::r,i,h=>by
  simp only[fC,jJ]at h⊢;by_cases hr:r=[]
  ·rw[if_pos hr]at h;simp at h
  ·rw[if_neg hr]at h⊢;rcases List.mem_cons.1 h with rfl|h
   ·exact⟨_,rfl,by simp;omega⟩
   ·obtain⟨k,e,hk⟩:=BY (n+t.length+2+b.length) ts r i h;exact⟨k,e,by simp;omega⟩
theorem nI {m:Mk} {ts:List (List aq×Int)} {bs:List (List aq)} {c t:Int} (hf:∀x∈dn ts,Flat x):(m.dh ts bs c t).cv (fC m.out.length (dn ts) bs)=m.aL (cy (dn ts) bs) c t:=by
 unfold Mk.cv Mk.dh Mk.aL;simp only[Mk.mk.injEq,true_and,and_true];refine⟨?_,by rw[BQ (by decide) _ _ _ hf],by rw[BQ (by decide) _ _ _ hf]⟩;have:=Ww (pre:=m.out) rfl (ts:=dn ts) (bs:=bs) hf;rw[←this];congr 1;simp[uw]
theorem yE:∀(n:Nat) (ts bs:List (List aq)),(fC n ts bs).length≤bs.length
 |_,_,[]=>by simp[fC]
 |n,[],b::r=>by
  simp only[fC];split
  ·simp
  ·have:=yE (n+b.length+1) [] r;simp;omega
 |n,t::ts,b::r=>by
  simp only[fC];split
  ·simp
  ·have:=yE (n+t.length+2+b.length) ts r;simp;omega
def VJ (p:Pg) (m:Mk) (s:Sm) (r:bU):Prop:=∃v1 v2 v3,r=some (.ret (.aU []),[(0,gJ p m 0 3 4 5 v1 v2 v3),(0,.box [.ptr 0 0 0]),(0,bg s),(v1,.vec 5 (m.out.map cE)),(v2,.vv (m.ex.map fO) none),(v3,.vec 1 (m.lv.map dy))])
def MkK (p:Pg) (m:Mk) (s:Sm) (q:Int) (r:bU):Prop:=∃v1 v2 v3,r=some (.ret (.aU []),[(0,gJ p m 0 4 5 6 v1 v2 v3),(0,.box [.ptr 0 0 0]),(0,bg s),(0,.box [.d (.int .i64 q)]),(v1,.vec 5 (m.out.map cE)),(v2,.vv (m.ex.map fO) none),(v3,.vec 1 (m.lv.map dy))])
section
variable {p:Pg} {lp:Bool}
theorem NB {s:Sm} {blocks:List (List Sm)} {ts:List (List aq×Int)} (gA:blocks.length<99999980) (jw:ts.length≤blocks.length) (BW:blocks.length≤ts.length+1) (iH:∀x∈dn ts,Flat x)
 (HT:∀(i:Nat) (t:List aq×Int),ts[i]?=some t→∀m:Mk,0≤m.most→m.out.length+t.1.length<99999990→DY p (m.au t.1 t.2) 1 s (.ret (.aU [])) (ai ctx 136 [.d (.int .i64 i),.ptr 0 0 0,.ptr 1 0 0] [.box [.ptr 2 0 0],bg s,gJ p m 0 3 4 5 0 0 0,.vec 5 (m.out.map cE),.vv (m.ex.map fO) none,.vec 1 (m.lv.map dy)]))
 (HB:∀b∈blocks,rW p lp b) (HC:∀b∈blocks,∀c,0≤c→c≤(ag p.vars b c).2) (m:Mk) (hm:0≤m.most) (hc:0≤m.cells) (hI:iw m) (hex:lp=true→m.ex≠[])
 (ho:m.out.length+(cy (dn ts) (ar p.vars blocks m.cells).1).length<99999990) (aP:(ar p.vars blocks m.cells).2<99999990) (fG:∀b∈blocks,m.ex.length+ix b<99999990):
 VJ p (m.aL (cy (dn ts) (ar p.vars blocks m.cells).1) (ar p.vars blocks m.cells).2 (max (dw ts) (bV blocks))) s
  (ai ctx 135 [.ptr 0 0 0,.d (.list (blocks.map df)),.d (.int .i64 ts.length),.fn 136 [.ptr 1 0 0,.ptr 2 0 0]] [gJ p m 0 3 4 5 0 0 0,.box [.ptr 0 0 0],bg s,.vec 5 (m.out.map cE),.vv (m.ex.map fO) none,.vec 1 (m.lv.map dy)]):=by
 have dc:=fun k Q hx v1 v2 v3 ve=>Hh (by omega) jw BW HT HB HC k Q hx blocks [] ts [] m [] v1 v2 v3 ve rfl rfl (.inl rfl) hm hc hI hex ho aP fG (by simp;omega);have hE:(fC m.out.length (dn ts) (ar p.vars blocks m.cells).1).length<100000000:=by
  have:=yE m.out.length (dn ts) (ar p.vars blocks m.cells).1;rw[sY]at this;omega
 have hlen:(m.dh ts (ar p.vars blocks m.cells).1 (ar p.vars blocks m.cells).2 (max (dw ts) (bV blocks))).out.length<100000000:=by
  simp only[Mk.dh,List.length_append,uw];omega
 have dg:Pl (m.dh ts (ar p.vars blocks m.cells).1 (ar p.vars blocks m.cells).2 (max (dw ts) (bV blocks))).out.length (fC m.out.length (dn ts) (ar p.vars blocks m.cells).1):=by
  intro i hi;obtain⟨k,e,hk⟩:=BY _ _ _ i hi;exact⟨k,e,by simpa [Mk.dh]using hk⟩
 have kj:=sU p (m.dh ts (ar p.vars blocks m.cells).1 (ar p.vars blocks m.cells).2 (max (dw ts) (bV blocks))) 0 _ hE hlen dg;have x1:(m.dh ts (ar p.vars blocks m.cells).1 (ar p.vars blocks m.cells).2 (max (dw ts) (bV blocks))).ex=(m.aL (cy (dn ts) (ar p.vars blocks m.cells).1) (ar p.vars blocks m.cells).2 (max (dw ts) (bV blocks))).ex:=by rw[←nI iH];rfl
 have x2:(m.dh ts (ar p.vars blocks m.cells).1 (ar p.vars blocks m.cells).2 (max (dw ts) (bV blocks))).lv=(m.aL (cy (dn ts) (ar p.vars blocks m.cells).1) (ar p.vars blocks m.cells).2 (max (dw ts) (bV blocks))).lv:=by rw[←nI iH];rfl
 rw[nI iH]at kj;generalize m.aL (cy (dn ts) (ar p.vars blocks m.cells).1) (ar p.vars blocks m.cells).2 (max (dw ts) (bV blocks))=M at*;generalize m.dh ts (ar p.vars blocks m.cells).1 (ar p.vars blocks m.cells).2 (max (dw ts) (bV blocks))=N at*;generalize fC m.out.length (dn ts) (ar p.vars blocks m.cells).1=E at*;rw[P9 (by simp)];simp[x1,x2]at kj;simp[Tryz.f135]at dc⊢;refine dc _ (fun X F r=>X=N→F=E→VJ p M s r) (fun Y X F v1 v2 v3 ve hX hF=>?_) _ _ _ _ rfl rfl;subst hX hF;simp[Tryz.f135,kj,x1,x2];exact⟨_,_,_,rfl⟩
theorem NC {s:Sm} {q:Int} {blocks:List (List Sm)} {ts:List (List aq×Int)} (gA:blocks.length<99999980) (jw:ts.length≤blocks.length) (BW:blocks.length≤ts.length+1) (iH:∀x∈dn ts,Flat x)
 (HT:∀(i:Nat) (t:List aq×Int),ts[i]?=some t→∀m:Mk,0≤m.most→m.out.length+t.1.length<99999990→KJ p (m.au t.1 t.2) 1 s q (.ret (.aU [])) (ai ctx 208 [.d (.int .i64 i),.ptr 0 0 0,.ptr 1 0 0,.ptr 2 0 0] [.box [.ptr 3 0 0],bg s,.box [.d (.int .i64 q)],gJ p m 0 4 5 6 0 0 0,.vec 5 (m.out.map cE),.vv (m.ex.map fO) none,.vec 1 (m.lv.map dy)]))
 (HB:∀b∈blocks,rW p lp b) (HC:∀b∈blocks,∀c,0≤c→c≤(ag p.vars b c).2) (m:Mk) (hm:0≤m.most) (hc:0≤m.cells) (hI:iw m) (hex:lp=true→m.ex≠[])
 (ho:m.out.length+(cy (dn ts) (ar p.vars blocks m.cells).1).length<99999990) (aP:(ar p.vars blocks m.cells).2<99999990) (fG:∀b∈blocks,m.ex.length+ix b<99999990):
 MkK p (m.aL (cy (dn ts) (ar p.vars blocks m.cells).1) (ar p.vars blocks m.cells).2 (max (dw ts) (bV blocks))) s q
  (ai ctx 135 [.ptr 0 0 0,.d (.list (blocks.map df)),.d (.int .i64 ts.length),.fn 208 [.ptr 1 0 0,.ptr 2 0 0,.ptr 3 0 0]] [gJ p m 0 4 5 6 0 0 0,.box [.ptr 0 0 0],bg s,.box [.d (.int .i64 q)],.vec 5 (m.out.map cE),.vv (m.ex.map fO) none,.vec 1 (m.lv.map dy)]):=by
 have dc:=fun k Q hx v1 v2 v3 ve=>Hj (by omega) jw BW HT HB HC k Q hx blocks [] ts [] m [] v1 v2 v3 ve rfl rfl (.inl rfl) hm hc hI hex ho aP fG (by simp;omega);have hE:(fC m.out.length (dn ts) (ar p.vars blocks m.cells).1).length<100000000:=by
  have:=yE m.out.length (dn ts) (ar p.vars blocks m.cells).1;rw[sY]at this;omega
 have hlen:(m.dh ts (ar p.vars blocks m.cells).1 (ar p.vars blocks m.cells).2 (max (dw ts) (bV blocks))).out.length<100000000:=by
  simp only[Mk.dh,List.length_append,uw];omega
 have dg:Pl (m.dh ts (ar p.vars blocks m.cells).1 (ar p.vars blocks m.cells).2 (max (dw ts) (bV blocks))).out.length (fC m.out.length (dn ts) (ar p.vars blocks m.cells).1):=by
  intro i hi;obtain⟨k,e,hk⟩:=BY _ _ _ i hi;exact⟨k,e,by simpa [Mk.dh]using hk⟩
 have kj:=sU p (m.dh ts (ar p.vars blocks m.cells).1 (ar p.vars blocks m.cells).2 (max (dw ts) (bV blocks))) 0 _ hE hlen dg;have x1:(m.dh ts (ar p.vars blocks m.cells).1 (ar p.vars blocks m.cells).2 (max (dw ts) (bV blocks))).ex=(m.aL (cy (dn ts) (ar p.vars blocks m.cells).1) (ar p.vars blocks m.cells).2 (max (dw ts) (bV blocks))).ex:=by rw[←nI iH];rfl
 have x2:(m.dh ts (ar p.vars blocks m.cells).1 (ar p.vars blocks m.cells).2 (max (dw ts) (bV blocks))).lv=(m.aL (cy (dn ts) (ar p.vars blocks m.cells).1) (ar p.vars blocks m.cells).2 (max (dw ts) (bV blocks))).lv:=by rw[←nI iH];rfl
 rw[nI iH]at kj;generalize m.aL (cy (dn ts) (ar p.vars blocks m.cells).1) (ar p.vars blocks m.cells).2 (max (dw ts) (bV blocks))=M at*;generalize m.dh ts (ar p.vars blocks m.cells).1 (ar p.vars blocks m.cells).2 (max (dw ts) (bV blocks))=N at*;generalize fC m.out.length (dn ts) (ar p.vars blocks m.cells).1=E at*;rw[P9 (by simp)];simp[x1,x2]at kj;simp[Tryz.f135]at dc⊢;refine dc _ (fun X F r=>X=N→F=E→MkK p M s q r) (fun Y X F v1 v2 v3 ve hX hF=>?_) _ _ _ _ rfl rfl;subst hX hF;simp[Tryz.f135,kj,x1,x2];exact⟨_,_,_,rfl⟩
end
def Mk.BZ (m:Mk) (t b:List aq) (c u:Int):Mk:=
 ⟨m.out++(ins 11 0 0 0 0::t++(ins 10 (m.out.length+t.length+3+b.length) 0 0 0::cH (m.out.length+t.length+2) b++[ins 9 m.out.length 0 0 0])),c,max m.most u,gK m.ex (cD (-1) (m.out.length+t.length+2) b),m.lv++cD (-2) (m.out.length+t.length+2) b⟩
def Mk.B0 (m:Mk) (t b:List aq) (c u:Int):Mk:=
 ⟨m.out++(cH m.out.length b++(ins 11 0 0 0 0::t++[ins 10 m.out.length 0 0 0])),c,max m.most u,gK m.ex (cD (-1) m.out.length b),m.lv++cD (-2) m.out.length b⟩
section
variable {p:Pg} (bm:p.vars.length≤1000) (hf:∀v∈p.vars,du v=true)
include bm hf
theorem abm {to val:Ex} {b:List Sm} {line:Int} (fv:bk val=true) (ev:(aC p.vars val).e=0) (hB:rW p true b) (m:Mk) (hm:0≤m.most) (hc:0≤m.cells) (hI:iw m) (hex:m.ex≠[])
 (hl:m.out.length+(ak p.vars val).1.length+(ag p.vars b m.cells).1.length+3<99999990) (aP:(ag p.vars b m.cells).2<99999990) (fG:m.ex.length+ix b<99999990):
 DY p (m.BZ (ak p.vars val).1 (ag p.vars b m.cells).1 (ag p.vars b m.cells).2 (max (aJ 0 val) (aY b))) 0 (.mk 5 [] to val [] [] [] [b] line) (.ret (.aU [])) (ai ctx 211 [.ptr 0 0 0,.ptr 1 0 0] [.box [.ptr 2 0 0],bg (.mk 5 [] to val [] [] [] [b] line),gJ p m 0 3 4 5 0 0 0,.vec 5 (m.out.map cE),.vv (m.ex.map fO) none,.vec 1 (m.lv.map dy)]):=by
 have g0:=BR p m 0;obtain⟨a1,a2,a3,g1⟩:=mc p m 0 (by omega) (by decide);have l1:(m.put (ins 11 0 0 0 0) 0).out.length=m.out.length+1:=by simp[Mk.put]
 obtain⟨b1,b2,b3,g2⟩:=kS bm hf val fv ev (m.put (ins 11 0 0 0 0) 0) 0 (by omega) (by omega) (by simp[Mk.put];omega) (by rw[l1];omega);have l2:((m.put (ins 11 0 0 0 0) 0).au (ak p.vars val).1 (aJ 0 val)).out.length=m.out.length+1+(ak p.vars val).1.length:=by
  show ((m.put (ins 11 0 0 0 0) 0).out++_).length=_;rw[List.length_append,l1]
 obtain⟨c1,c2,c3,g3⟩:=vy p ((m.put (ins 11 0 0 0 0) 0).au (ak p.vars val).1 (aJ 0 val)) 1 0 (by rw[l2];omega) (by decide);rw[show (1:Int)+ -1=0 by omega]at g3;have l3:(((m.put (ins 11 0 0 0 0) 0).au (ak p.vars val).1 (aJ 0 val)).put (ins 10 0 0 0 0) 0).out.length=m.out.length+(ak p.vars val).1.length+2:=by
  show (((m.put (ins 11 0 0 0 0) 0).au (ak p.vars val).1 (aJ 0 val)).out++_).length=_;rw[List.length_append,l2];simp;omega
 obtain⟨d1,d2,d3,g4⟩:=hB (((m.put (ins 11 0 0 0 0) 0).au (ak p.vars val).1 (aJ 0 val)).put (ins 10 0 0 0 0) 0) (by simp[Mk.put,Mk.au];omega) hc (((hI.put _ _).au _ _).put _ _) (fun _=>hex) (by rw[l3];show _+(ag p.vars b m.cells).1.length<_;omega) (by show (ag p.vars b m.cells).2<_;omega) (by show m.ex.length+_<_;omega);have l4:((((m.put (ins 11 0 0 0 0) 0).au (ak p.vars val).1 (aJ 0 val)).put (ins 10 0 0 0 0) 0).aL (ag p.vars b m.cells).1 (ag p.vars b m.cells).2 (aY b)).out.length=m.out.length+(ak p.vars val).1.length+2+(ag p.vars b m.cells).1.length:=by
  show ((((m.put (ins 11 0 0 0 0) 0).au (ak p.vars val).1 (aJ 0 val)).put (ins 10 0 0 0 0) 0).out++cH _ _).length=_;rw[List.length_append,l3,mm]
 obtain⟨e1,e2,e3,g5⟩:=BS p ((((m.put (ins 11 0 0 0 0) 0).au (ak p.vars val).1 (aJ 0 val)).put (ins 10 0 0 0 0) 0).aL (ag p.vars b m.cells).1 (ag p.vars b m.cells).2 (aY b)) 0 m.out.length (by rw[l4];omega) (by decide);have l5:(((((m.put (ins 11 0 0 0 0) 0).au (ak p.vars val).1 (aJ 0 val)).put (ins 10 0 0 0 0) 0).aL (ag p.vars b m.cells).1 (ag p.vars b m.cells).2 (aY b)).put (ins 9 m.out.length 0 0 0) 0).out.length=m.out.length+(ak p.vars val).1.length+3+(ag p.vars b m.cells).1.length:=by
  show (((((m.put (ins 11 0 0 0 0) 0).au (ak p.vars val).1 (aJ 0 val)).put (ins 10 0 0 0 0) 0).aL (ag p.vars b m.cells).1 (ag p.vars b m.cells).2 (aY b)).out++_).length=_;rw[List.length_append,l4];simp;omega
 have g6:=qh p (((((m.put (ins 11 0 0 0 0) 0).au (ak p.vars val).1 (aJ 0 val)).put (ins 10 0 0 0 0) 0).aL (ag p.vars b m.cells).1 (ag p.vars b m.cells).2 (aY b)).put (ins 9 m.out.length 0 0 0) 0) 0 (m.out.length+1+(ak p.vars val).1.length) (by rw[l5];omega) (by rw[l5];omega);have eW:(((((m.put (ins 11 0 0 0 0) 0).au (ak p.vars val).1 (aJ 0 val)).put (ins 10 0 0 0 0) 0).aL (ag p.vars b m.cells).1 (ag p.vars b m.cells).2 (aY b)).put (ins 9 m.out.length 0 0 0) 0).lead (m.out.length+1+(ak p.vars val).1.length:Nat)=m.BZ (ak p.vars val).1 (ag p.vars b m.cells).1 (ag p.vars b m.cells).2 (max (aJ 0 val) (aY b)):=by
  unfold Mk.lead;rw[l5];unfold Mk.BZ Mk.aL;rw[l3];simp only[Mk.put,Mk.au,Mk.mk.injEq,true_and,and_true];refine⟨?_,by have:=kW 0 val;omega⟩;have:=vA m.out (ins 11 0 0 0 0::(ak p.vars val).1) (cH (m.out.length+(ak p.vars val).1.length+2) (ag p.vars b m.cells).1++[ins 9 m.out.length 0 0 0]) (ins 10 0 0 0 0) ((m.out.length+(ak p.vars val).1.length+3+(ag p.vars b m.cells).1.length:Nat):Int) ((m.out.length+1+(ak p.vars val).1.length:Nat):Int) (by simp;omega);have e3:m.out++[ins 11 0 0 0 0]++(ak p.vars val).1++[ins 10 0 0 0 0]++cH (m.out.length+(ak p.vars val).1.length+2) (ag p.vars b m.cells).1++[ins 9 m.out.length 0 0 0]=m.out++(ins 11 0 0 0 0::(ak p.vars val).1)++ins 10 0 0 0 0::(cH (m.out.length+(ak p.vars val).1.length+2) (ag p.vars b m.cells).1++[ins 9 m.out.length 0 0 0]):=by simp
  rw[e3,this];simp[ins]
 rw[l2]at g3;rw[eW]at g6;generalize m.BZ (ak p.vars val).1 (ag p.vars b m.cells).1 (ag p.vars b m.cells).2 (max (aJ 0 val) (aY b))=M6 at*;generalize ((((m.put (ins 11 0 0 0 0) 0).au (ak p.vars val).1 (aJ 0 val)).put (ins 10 0 0 0 0) 0).aL (ag p.vars b m.cells).1 (ag p.vars b m.cells).2 (aY b)).put (ins 9 m.out.length 0 0 0) 0=M5 at*;have g4:ai ctx 51 [.ptr 0 0 0,.d (.list (b.map cC))] (fQ p (((m.put (ins 11 0 0 0 0) 0).au (ak p.vars val).1 (aJ 0 val)).put (ins 10 0 0 0 0) 0) 0)=some (.ret (.aU []),KA p ((((m.put (ins 11 0 0 0 0) 0).au (ak p.vars val).1 (aJ 0 val)).put (ins 10 0 0 0 0) 0).aL (ag p.vars b m.cells).1 (ag p.vars b m.cells).2 (aY b)) 0 d1 d2 d3):=g4;generalize (((m.put (ins 11 0 0 0 0) 0).au (ak p.vars val).1 (aJ 0 val)).put (ins 10 0 0 0 0) 0).aL (ag p.vars b m.cells).1 (ag p.vars b m.cells).2 (aY b)=M4 at*;generalize ((m.put (ins 11 0 0 0 0) 0).au (ak p.vars val).1 (aJ 0 val)).put (ins 10 0 0 0 0) 0=M3 at*;generalize (m.put (ins 11 0 0 0 0) 0).au (ak p.vars val).1 (aJ 0 val)=M2 at*;generalize m.put (ins 11 0 0 0 0) 0=M1 at*;rw[Qf (by simp)];simp at g0 g1 g2 g3 g4 g5 g6;simp[Tryz.f211,aI,df,g0,g1,g2,g3,g4,g5,g6];exact⟨_,_,_,rfl⟩
theorem abn {to val:Ex} {b:List Sm} {line:Int} (fv:bk val=true) (ev:(aC p.vars val).e=0) (hB:rW p true b) (m:Mk) (hm:0≤m.most) (hc:0≤m.cells) (hI:iw m) (hex:m.ex≠[])
 (hl:m.out.length+(ak p.vars val).1.length+(ag p.vars b m.cells).1.length+2<99999990) (aP:(ag p.vars b m.cells).2<99999990) (fG:m.ex.length+ix b<99999990):
 DY p (m.B0 (ak p.vars val).1 (ag p.vars b m.cells).1 (ag p.vars b m.cells).2 (max (aJ 0 val) (aY b))) 0 (.mk 6 [] to val [] [] [] [b] line) (.ret (.aU [])) (ai ctx 211 [.ptr 0 0 0,.ptr 1 0 0] [.box [.ptr 2 0 0],bg (.mk 6 [] to val [] [] [] [b] line),gJ p m 0 3 4 5 0 0 0,.vec 5 (m.out.map cE),.vv (m.ex.map fO) none,.vec 1 (m.lv.map dy)]):=by
 have g0:=BR p m 0;obtain⟨d1,d2,d3,g1⟩:=hB m hm hc hI (fun _=>hex) (by omega) (by omega) (by omega);have l1:(m.aL (ag p.vars b m.cells).1 (ag p.vars b m.cells).2 (aY b)).out.length=m.out.length+(ag p.vars b m.cells).1.length:=by
  show (m.out++cH _ _).length=_;rw[List.length_append,mm]
 obtain⟨a1,a2,a3,g2⟩:=mc p (m.aL (ag p.vars b m.cells).1 (ag p.vars b m.cells).2 (aY b)) 0 (by rw[l1];omega) (by decide);have l2:((m.aL (ag p.vars b m.cells).1 (ag p.vars b m.cells).2 (aY b)).put (ins 11 0 0 0 0) 0).out.length=m.out.length+(ag p.vars b m.cells).1.length+1:=by
  show ((m.aL (ag p.vars b m.cells).1 (ag p.vars b m.cells).2 (aY b)).out++_).length=_;rw[List.length_append,l1];rfl
 obtain⟨b1,b2,b3,g3⟩:=kS bm hf val fv ev ((m.aL (ag p.vars b m.cells).1 (ag p.vars b m.cells).2 (aY b)).put (ins 11 0 0 0 0) 0) 0 (by omega) (by omega) (by simp[Mk.put,Mk.aL];omega) (by rw[l2];omega);have l3:(((m.aL (ag p.vars b m.cells).1 (ag p.vars b m.cells).2 (aY b)).put (ins 11 0 0 0 0) 0).au (ak p.vars val).1 (aJ 0 val)).out.length=m.out.length+(ag p.vars b m.cells).1.length+1+(ak p.vars val).1.length:=by
  show (((m.aL (ag p.vars b m.cells).1 (ag p.vars b m.cells).2 (aY b)).put (ins 11 0 0 0 0) 0).out++_).length=_;rw[List.length_append,l2]
 obtain⟨c1,c2,c3,g4⟩:=vy p (((m.aL (ag p.vars b m.cells).1 (ag p.vars b m.cells).2 (aY b)).put (ins 11 0 0 0 0) 0).au (ak p.vars val).1 (aJ 0 val)) 1 m.out.length (by rw[l3];omega) (by decide);rw[show (1:Int)+ -1=0 by omega]at g4;have eW:(((m.aL (ag p.vars b m.cells).1 (ag p.vars b m.cells).2 (aY b)).put (ins 11 0 0 0 0) 0).au (ak p.vars val).1 (aJ 0 val)).put (ins 10 m.out.length 0 0 0) 0=m.B0 (ak p.vars val).1 (ag p.vars b m.cells).1 (ag p.vars b m.cells).2 (max (aJ 0 val) (aY b)):=by
  unfold Mk.B0 Mk.aL;simp only[Mk.put,Mk.au,Mk.mk.injEq,true_and,and_true];exact⟨by simp,by have:=kW 0 val;omega⟩
 rw[eW]at g4;generalize m.B0 (ak p.vars val).1 (ag p.vars b m.cells).1 (ag p.vars b m.cells).2 (max (aJ 0 val) (aY b))=M4 at*;clear eW;generalize ((m.aL (ag p.vars b m.cells).1 (ag p.vars b m.cells).2 (aY b)).put (ins 11 0 0 0 0) 0).au (ak p.vars val).1 (aJ 0 val)=M3 at*;generalize (m.aL (ag p.vars b m.cells).1 (ag p.vars b m.cells).2 (aY b)).put (ins 11 0 0 0 0) 0=M2 at*;generalize m.aL (ag p.vars b m.cells).1 (ag p.vars b m.cells).2 (aY b)=M1 at*;rw[Qf (by simp)];simp at g0 g1 g2 g3 g4;simp[Tryz.f211,aI,df,g0,g1,g2,g3,g4];exact⟨_,_,_,rfl⟩
end
def Mk.B1 (m:Mk) (at_ cell:Int) (b:List aq) (c u:Int):Mk:=
 ⟨m.out++(ins 11 0 0 0 0::ins 13 at_ cell 0 0::ins 10 (m.out.length+b.length+8) 0 0 0::cH (m.out.length+3) b++[ins 2 at_ 0 0 0,ins 2 (cell+1) 0 0 0,ins 8 0 8 0 0,ins 6 at_ 0 0 0,ins 9 m.out.length 0 0 0]),c,max m.most u,gK m.ex (cD (-1) (m.out.length+3) b),m.lv++cD (-2) (m.out.length+3) b⟩
def MkF (p:Pg) (m:Mk) (s:Sm) (at_ cell:Int) (r:bU):Prop:=∃v1 v2 v3,r=some (.ret (.aU []),[(0,.box [.ptr 4 0 0]),(0,.box [.d (.int .i64 at_)]),(0,.box [.d (.int .i64 cell)]),(0,bg s),(0,gJ p m 0 5 6 7 v1 v2 v3),(v1,.vec 5 (m.out.map cE)),(v2,.vv (m.ex.map fO) none),(v3,.vec 1 (m.lv.map dy))])
section
variable {p:Pg}
theorem abo {name:Tx} {to val:Ex} {conds:List Ex} {b:List Sm} {line at_ cell:Int} (hB:rW p true b) (m:Mk) (hm:0≤m.most) (hc:0≤m.cells) (hI:iw m) (hex:m.ex≠[]) (nL:aZ (cell+1))
 (hl:m.out.length+(ag p.vars b m.cells).1.length+8<99999990) (aP:(ag p.vars b m.cells).2<99999990) (fG:m.ex.length+ix b<99999990):
 MkF p (m.B1 at_ cell (ag p.vars b m.cells).1 (ag p.vars b m.cells).2 (max 2 (aY b))) (.mk 4 name to val conds [] [] [b] line) at_ cell (ai ctx 210 [.ptr 0 0 0,.ptr 1 0 0,.ptr 2 0 0,.ptr 3 0 0] [.box [.ptr 4 0 0],.box [.d (.int .i64 at_)],.box [.d (.int .i64 cell)],bg (.mk 4 name to val conds [] [] [b] line),gJ p m 0 5 6 7 0 0 0,.vec 5 (m.out.map cE),.vv (m.ex.map fO) none,.vec 1 (m.lv.map dy)]):=by
 have g0:=BR p m 0;obtain⟨a1,a2,a3,g1⟩:=mc p m 0 (by omega) (by decide);have l1:(m.put (ins 11 0 0 0 0) 0).out.length=m.out.length+1:=by simp[Mk.put]
 generalize mW:m.put (ins 11 0 0 0 0) 0=M1 at g1 l1;obtain⟨b1,b2,b3,g2⟩:=jo p M1 0 1 (ins 13 at_ cell 0 0) (by omega) (by decide);have l2:(M1.put (ins 13 at_ cell 0 0) (0+1)).out.length=m.out.length+2:=by simp[Mk.put];omega
 generalize oy:M1.put (ins 13 at_ cell 0 0) (0+1)=M2 at g2 l2;obtain⟨c1,c2,c3,g3⟩:=vy p M2 (0+1) 0 (by omega) (by decide);rw[show (0:Int)+1+ -1=0 by omega]at g3;have l3:(M2.put (ins 10 0 0 0 0) 0).out.length=m.out.length+3:=by simp[Mk.put];omega
 generalize qj:M2.put (ins 10 0 0 0 0) 0=M3 at g3 l3;have f3:M3.cells=m.cells∧M3.ex=m.ex∧M3.lv=m.lv∧0≤M3.most∧M3.most=max m.most 1∧M3.out=m.out++[ins 11 0 0 0 0,ins 13 at_ cell 0 0,ins 10 0 0 0 0]:=by
  subst qj oy mW;simp[Mk.put];omega
 have q3:iw M3:=by
  subst qj oy mW;exact ((hI.put _ _).put _ _).put _ _
 obtain⟨d1,d2,d3,g4⟩:=hB M3 f3.2.2.2.1 (by rw[f3.1];exact hc) q3 (fun _=>by rw[f3.2.1];exact hex) (by rw[f3.1];omega) (by rw[f3.1];omega) (by rw[f3.2.1];omega);rw[f3.1]at g4;have l4:(M3.aL (ag p.vars b m.cells).1 (ag p.vars b m.cells).2 (aY b)).out.length=m.out.length+3+(ag p.vars b m.cells).1.length:=by
  show (M3.out++cH _ _).length=_;rw[List.length_append,mm,l3]
 generalize qH:M3.aL (ag p.vars b m.cells).1 (ag p.vars b m.cells).2 (aY b)=M4 at g4 l4;obtain⟨e1,e2,e3,g5⟩:=BT p M4 0 at_ 1 (by omega) (by decide);rw[if_neg (by decide)]at g5;have l5:(M4.put (ins 2 at_ 0 0 0) (0+1)).out.length=m.out.length+4+(ag p.vars b m.cells).1.length:=by simp[Mk.put];omega
 generalize uz:M4.put (ins 2 at_ 0 0 0) (0+1)=M5 at g5 l5;obtain⟨h1,h2,h3,g6⟩:=BT p M5 (0+1) (cell+1) 1 (by omega) (by decide);rw[if_neg (by decide)]at g6;have l6:(M5.put (ins 2 (cell+1) 0 0 0) (0+1+1)).out.length=m.out.length+5+(ag p.vars b m.cells).1.length:=by simp[Mk.put];omega
 generalize Hk:M5.put (ins 2 (cell+1) 0 0 0) (0+1+1)=M6 at g6 l6;obtain⟨i1,i2,i3,g7⟩:=jo p M6 (0+1+1) (-1) (ins 8 0 8 0 0) (by omega) (by decide);have l7:(M6.put (ins 8 0 8 0 0) (0+1+1+ -1)).out.length=m.out.length+6+(ag p.vars b m.cells).1.length:=by simp[Mk.put];omega
 generalize Hl:M6.put (ins 8 0 8 0 0) (0+1+1+ -1)=M7 at g7 l7;obtain⟨j1,j2,j3,g8⟩:=pq p M7 (0+1+1+ -1) at_ (by omega) (by decide);rw[show (0:Int)+1+1+ -1+ -1=0 by omega]at g8;have l8:(M7.put (ins 6 at_ 0 0 0) 0).out.length=m.out.length+7+(ag p.vars b m.cells).1.length:=by simp[Mk.put];omega
 generalize hM8:M7.put (ins 6 at_ 0 0 0) 0=M8 at g8 l8;obtain⟨k1,k2,k3,g9⟩:=BS p M8 0 m.out.length (by omega) (by decide);have l9:(M8.put (ins 9 m.out.length 0 0 0) 0).out.length=m.out.length+8+(ag p.vars b m.cells).1.length:=by simp[Mk.put];omega
 generalize hM9:M8.put (ins 9 m.out.length 0 0 0) 0=M9 at g9 l9;have g10:=qh p M9 0 (m.out.length+2) (by omega) (by omega);have eW:M9.lead (m.out.length+2:Nat)=m.B1 at_ cell (ag p.vars b m.cells).1 (ag p.vars b m.cells).2 (max 2 (aY b)):=by
  have o9:M9.out=(m.out++[ins 11 0 0 0 0,ins 13 at_ cell 0 0])++ins 10 0 0 0 0::(cH (m.out.length+3) (ag p.vars b m.cells).1++[ins 2 at_ 0 0 0,ins 2 (cell+1) 0 0 0,ins 8 0 8 0 0,ins 6 at_ 0 0 0,ins 9 m.out.length 0 0 0]):=by
   subst hM9 hM8 Hl Hk uz qH;simp[Mk.put,Mk.aL,l3,f3]
  have x9:M9.ex=gK m.ex (cD (-1) (m.out.length+3) (ag p.vars b m.cells).1)∧M9.lv=m.lv++cD (-2) (m.out.length+3) (ag p.vars b m.cells).1∧M9.cells=(ag p.vars b m.cells).2∧M9.most=max m.most (max 2 (aY b)):=by
   subst hM9 hM8 Hl Hk uz qH;simp[Mk.put,Mk.aL,l3,f3];omega
  unfold Mk.lead Mk.B1;rw[l9];simp only[x9,Mk.mk.injEq,and_true];rw[o9];have:=qf (m.out++[ins 11 0 0 0 0,ins 13 at_ cell 0 0]) (ins 10 0 0 0 0) (cH (m.out.length+3) (ag p.vars b m.cells).1++[ins 2 at_ 0 0 0,ins 2 (cell+1) 0 0 0,ins 8 0 8 0 0,ins 6 at_ 0 0 0,ins 9 m.out.length 0 0 0]) ((m.out.length+8+(ag p.vars b m.cells).1.length:Nat):Int);have e2:((m.out++[ins 11 0 0 0 0,ins 13 at_ cell 0 0]).length:Int)=((m.out.length+2:Nat):Int):=by simp
  rw[e2]at this;rw[this];simp[ins];omega
 rw[eW]at g10;generalize m.B1 at_ cell (ag p.vars b m.cells).1 (ag p.vars b m.cells).2 (max 2 (aY b))=M10 at*;have w1:IntKind.i64.wrap (cell+1)=cell+1:=ay nL;rw[l2]at g3;clear mW oy qj qH uz Hk Hl hM8 hM9 eW f3;have r8:List.range 8=[0,1,2,3,4,5,6,7]:=rfl;rw[ZR (by simp)];simp[ins]at g0 g1 g2 g3 g4 g5 g6 g7 g8 g9 g10;simp[Tryz.f210,aI,df,w1,r8,g0,g1,g2,g3,g4,g5,g6,g7,g8,g9,g10];exact⟨_,_,_,rfl⟩
end
def Mk.opn (m:Mk):Mk:={m with ex:=m.ex++[[]]}
theorem iw.opn {m:Mk} (h:iw m):iw m.opn:=
 ⟨h.1,fun r hr=>by
  rcases List.mem_append.1 hr with hr|hr
  ·exact h.2 r hr
  ·simp at hr;subst hr;simp⟩
def Mk.qI (m:Mk) (ex:List (List Int)) (row:List Int):Mk:={m with out:=jl m.out row m.out.length,ex:=ex}
theorem Hm {p:Pg} {s:Sm} {m M:Mk} {row:List Int} (hM:M.ex=m.ex++[row]) (aP:DY p M 0 s (.ret (.aU [])) (ai ctx 211 [.ptr 0 0 0,.ptr 1 0 0] [.box [.ptr 2 0 0],bg s,gJ p m.opn 0 3 4 5 0 0 0,.vec 5 (m.out.map cE),.vv (m.opn.ex.map fO) none,.vec 1 (m.lv.map dy)]))
 (ja:row.length<99999990) (hl:M.out.length<99999990) (hp:Pl M.out.length row) (fG:m.ex.length<99999990):
 VJ p (M.qI m.ex row) s (ai ctx 209 [.ptr 0 0 0,.fn 211 [.ptr 1 0 0,.ptr 2 0 0]] [gJ p m 0 3 4 5 0 0 0,.box [.ptr 0 0 0],bg s,.vec 5 (m.out.map cE),.vv (m.ex.map fO) none,.vec 1 (m.lv.map dy)]):=by
 obtain⟨v1,v2,v3,aP⟩:=aP;have kj:=sU p {M with ex:=m.ex} 0 row (by omega) (by simpa using (by omega:M.out.length<100000000)) hp;have e:({M with ex:=m.ex}:Mk).cv row=M.qI m.ex row:=rfl;rw[e]at kj;have hx:(M.qI m.ex row).ex=m.ex:=rfl;have nq:(M.qI m.ex row).lv=M.lv:=rfl;generalize M.qI m.ex row=N at*;simp[hM,Mk.opn]at aP;simp[hx,nq]at kj;have w1:m.ex.length≤4611686018427387903:=by omega
 have w2:(m.ex.length+1)*24≤140737488355328:=by omega
 have w3:IntKind.i64.wrap ((m.ex.length:Int)+1-1)=m.ex.length:=by rw[show (m.ex.length:Int)+1-1=m.ex.length by omega];exact ay (by unfold aZ;omega)
 have w4:IntKind.i64.wrap (m.ex.length:Int)=m.ex.length:=ay (by unfold aZ;omega);rw[Qe (by simp)];simp[Tryz.f209,aP,w1,w2,w3,w4,kj];rw[←hx,←nq];exact⟨_,_,_,rfl⟩
def MkG (p:Pg) (m:Mk) (s:Sm) (at_ cell:Int) (r:bU):Prop:=∃v1 v2 v3,r=some (.ret (.aU []),[(0,gJ p m 0 5 6 7 v1 v2 v3),(0,.box [.ptr 0 0 0]),(0,.box [.d (.int .i64 at_)]),(0,.box [.d (.int .i64 cell)]),(0,bg s),(v1,.vec 5 (m.out.map cE)),(v2,.vv (m.ex.map fO) none),(v3,.vec 1 (m.lv.map dy))])
theorem TG {p:Pg} {s:Sm} {at_ cell:Int} {m M:Mk} {row:List Int} (hM:M.ex=m.ex++[row]) (aP:MkF p M s at_ cell (ai ctx 210 [.ptr 0 0 0,.ptr 1 0 0,.ptr 2 0 0,.ptr 3 0 0] [.box [.ptr 4 0 0],.box [.d (.int .i64 at_)],.box [.d (.int .i64 cell)],bg s,gJ p m.opn 0 5 6 7 0 0 0,.vec 5 (m.out.map cE),.vv (m.opn.ex.map fO) none,.vec 1 (m.lv.map dy)]))
 (ja:row.length<99999990) (hl:M.out.length<99999990) (hp:Pl M.out.length row) (fG:m.ex.length<99999990):
 MkG p (M.qI m.ex row) s at_ cell (ai ctx 209 [.ptr 0 0 0,.fn 210 [.ptr 1 0 0,.ptr 2 0 0,.ptr 3 0 0,.ptr 4 0 0]] [gJ p m 0 5 6 7 0 0 0,.box [.ptr 0 0 0],.box [.d (.int .i64 at_)],.box [.d (.int .i64 cell)],bg s,.vec 5 (m.out.map cE),.vv (m.ex.map fO) none,.vec 1 (m.lv.map dy)]):=by
 obtain⟨v1,v2,v3,aP⟩:=aP;have kj:=sU p {M with ex:=m.ex} 0 row (by omega) (by simpa using (by omega:M.out.length<100000000)) hp;have e:({M with ex:=m.ex}:Mk).cv row=M.qI m.ex row:=rfl;rw[e]at kj;have hx:(M.qI m.ex row).ex=m.ex:=rfl;have nq:(M.qI m.ex row).lv=M.lv:=rfl;generalize M.qI m.ex row=N at*;simp[hM,Mk.opn]at aP;simp[hx,nq]at kj;have w1:m.ex.length≤4611686018427387903:=by omega
 have w2:(m.ex.length+1)*24≤140737488355328:=by omega
 have w3:IntKind.i64.wrap ((m.ex.length:Int)+1-1)=m.ex.length:=by rw[show (m.ex.length:Int)+1-1=m.ex.length by omega];exact ay (by unfold aZ;omega)
 have w4:IntKind.i64.wrap (m.ex.length:Int)=m.ex.length:=ay (by unfold aZ;omega);rw[Qe (by simp)];simp[Tryz.f209,aP,w1,w2,w3,w4,kj];rw[←hx,←nq];exact⟨_,_,_,rfl⟩
theorem abr (m:Mk) (t b:List aq) (c u:Int):(m.opn.BZ t b c u).ex=m.ex++[cD (-1) (m.out.length+t.length+2) b]:=by
 show gK (m.ex++[[]]) _=_;rw[iV];rfl
theorem WM {m:Mk} {t b:List aq} {c u:Int} (ht:Flat t):(m.opn.BZ t b c u).qI m.ex (cD (-1) (m.out.length+t.length+2) b)=m.aL (iv t b) c u:=by
 unfold Mk.qI Mk.BZ Mk.aL Mk.opn;simp only[Mk.mk.injEq,true_and];have hlen:((m.out++(ins 11 0 0 0 0::t++(ins 10 (m.out.length+t.length+3+b.length) 0 0 0::cH (m.out.length+t.length+2) b++[ins 9 m.out.length 0 0 0]))).length:Int)=m.out.length+t.length+3+b.length:=by simp;omega
 rw[hlen];refine⟨Nx ht rfl rfl,?_,?_⟩
 ·have:cD (-1) m.out.length (iv t b)=[]:=G4 _ _;rw[this,me]
 ·rw[QD (by decide) (by decide) ht]
theorem abt (m:Mk) (t b:List aq) (c u:Int):(m.opn.B0 t b c u).ex=m.ex++[cD (-1) m.out.length b]:=by
 show gK (m.ex++[[]]) _=_;rw[iV];rfl
theorem WN {m:Mk} {t b:List aq} {c u:Int} (ht:Flat t):(m.opn.B0 t b c u).qI m.ex (cD (-1) m.out.length b)=m.aL (lZ t b) c u:=by
 unfold Mk.qI Mk.B0 Mk.aL Mk.opn;simp only[Mk.mk.injEq,true_and];have hlen:((m.out++(cH m.out.length b++(ins 11 0 0 0 0::t++[ins 10 m.out.length 0 0 0]))).length:Int)=m.out.length+b.length+t.length+2:=by simp;omega
 rw[hlen];refine⟨Tw ht rfl rfl,?_,?_⟩
 ·have:cD (-1) m.out.length (lZ t b)=[]:=G4 _ _;rw[this,me]
 ·rw[Wu (by decide) (by decide) ht]
theorem ND (t b:List aq):(iv t b).length=t.length+3+b.length:=by simp[iv];omega
theorem TH (t b:List aq):(lZ t b).length=t.length+2+b.length:=by simp[lZ];omega
section
variable {p:Pg} (bm:p.vars.length≤1000) (hf:∀v∈p.vars,du v=true)
include bm hf
theorem TI {to val:Ex} {b:List Sm} {line:Int} (fv:bk val=true) (ev:(aC p.vars val).e=0) (hB:rW p true b) (m:Mk) (hm:0≤m.most) (hc:0≤m.cells) (hI:iw m)
 (hl:m.out.length+(iv (ak p.vars val).1 (ag p.vars b m.cells).1).length<99999990) (aP:(ag p.vars b m.cells).2<99999990) (fG:m.ex.length+1+ix b<99999990):
 fR p (m.aL (iv (ak p.vars val).1 (ag p.vars b m.cells).1) (ag p.vars b m.cells).2 (max (aJ 0 val) (aY b))) 0 (.ret (.aU [])) (ai ctx 140 [.ptr 0 0 0,.d (cC (.mk 5 [] to val [] [] [] [b] line))] (fQ p m 0)):=by
 rw[ND]at hl;have ho:m.opn.ex.length=m.ex.length+1:=by simp[Mk.opn]
 have h1:=abm bm hf (to:=to) (line:=line) fv ev hB m.opn hm hc hI.opn (by simp[Mk.opn]) (by show m.out.length+_+(ag p.vars b m.cells).1.length+3<_;omega) aP (by rw[ho];exact fG);rw[show m.opn.cells=m.cells from rfl]at h1;have hrl:=pt (-1) (ag p.vars b m.cells).1 (m.out.length+(ak p.vars val).1.length+2);have pQ:(m.opn.BZ (ak p.vars val).1 (ag p.vars b m.cells).1 (ag p.vars b m.cells).2 (max (aJ 0 val) (aY b))).out.length=m.out.length+(ak p.vars val).1.length+3+(ag p.vars b m.cells).1.length:=by
  simp[Mk.BZ,Mk.opn];omega
 obtain⟨v1,v2,v3,oN⟩:=Hm (m:=m) (abr m _ _ _ _) h1 (by omega) (by rw[pQ];omega) (fun i hi=>by
  obtain⟨j,e,hj⟩:=xT _ _ _ i hi;exact⟨j,e,by rw[pQ];omega⟩) (by omega)
 rw[WM (lF val fv ev)]at oN;generalize m.aL (iv (ak p.vars val).1 (ag p.vars b m.cells).1) (ag p.vars b m.cells).2 (max (aJ 0 val) (aY b))=M at*;rw[Qa (by simp)];simp at oN;simp[Tryz.f140,eK,oN];exact⟨_,_,_,rfl⟩
theorem QT {to val:Ex} {b:List Sm} {line:Int} (fv:bk val=true) (ev:(aC p.vars val).e=0) (hB:rW p true b) (m:Mk) (hm:0≤m.most) (hc:0≤m.cells) (hI:iw m)
 (hl:m.out.length+(lZ (ak p.vars val).1 (ag p.vars b m.cells).1).length<99999990) (aP:(ag p.vars b m.cells).2<99999990) (fG:m.ex.length+1+ix b<99999990):
 fR p (m.aL (lZ (ak p.vars val).1 (ag p.vars b m.cells).1) (ag p.vars b m.cells).2 (max (aJ 0 val) (aY b))) 0 (.ret (.aU [])) (ai ctx 140 [.ptr 0 0 0,.d (cC (.mk 6 [] to val [] [] [] [b] line))] (fQ p m 0)):=by
 rw[TH]at hl;have ho:m.opn.ex.length=m.ex.length+1:=by simp[Mk.opn]
 have h1:=abn bm hf (to:=to) (line:=line) fv ev hB m.opn hm hc hI.opn (by simp[Mk.opn]) (by show m.out.length+_+(ag p.vars b m.cells).1.length+2<_;omega) aP (by rw[ho];exact fG);rw[show m.opn.cells=m.cells from rfl]at h1;have hrl:=pt (-1) (ag p.vars b m.cells).1 m.out.length;have pQ:(m.opn.B0 (ak p.vars val).1 (ag p.vars b m.cells).1 (ag p.vars b m.cells).2 (max (aJ 0 val) (aY b))).out.length=m.out.length+(ak p.vars val).1.length+2+(ag p.vars b m.cells).1.length:=by
  simp[Mk.B0,Mk.opn];omega
 obtain⟨v1,v2,v3,oN⟩:=Hm (m:=m) (abt m _ _ _ _) h1 (by omega) (by rw[pQ];omega) (fun i hi=>by
  obtain⟨j,e,hj⟩:=xT _ _ _ i hi;exact⟨j,e,by rw[pQ];omega⟩) (by omega)
 rw[WN (lF val fv ev)]at oN;generalize m.aL (lZ (ak p.vars val).1 (ag p.vars b m.cells).1) (ag p.vars b m.cells).2 (max (aJ 0 val) (aY b))=M at*;rw[Qa (by simp)];simp at oN;simp[Tryz.f140,eK,oN];exact⟨_,_,_,rfl⟩
end
theorem abu (m:Mk) (a cell:Int) (b:List aq) (c u:Int):(m.opn.B1 a cell b c u).ex=m.ex++[cD (-1) (m.out.length+3) b]:=by
 show gK (m.ex++[[]]) _=_;rw[iV];rfl
theorem WO {m:Mk} {a cell:Int} {b:List aq} {c u:Int}:(m.opn.B1 a cell b c u).qI m.ex (cD (-1) (m.out.length+3) b)=m.aL (kK a cell b) c u:=by
 unfold Mk.qI Mk.B1 Mk.aL Mk.opn;simp only[Mk.mk.injEq,true_and];have hlen:((m.out++(ins 11 0 0 0 0::ins 13 a cell 0 0::ins 10 (m.out.length+b.length+8) 0 0 0::cH (m.out.length+3) b++[ins 2 a 0 0 0,ins 2 (cell+1) 0 0 0,ins 8 0 8 0 0,ins 6 a 0 0 0,ins 9 m.out.length 0 0 0])).length:Int)=m.out.length+b.length+8:=by simp;omega
 rw[hlen];refine⟨Ty rfl rfl,?_,?_⟩
 ·have:cD (-1) m.out.length (kK a cell b)=[]:=G4 _ _;rw[this,me]
 ·rw[Wv (by decide) (by decide)]
theorem TJ (a c:Int) (b:List aq):(kK a c b).length=b.length+8:=by simp[kK]
section
variable {p:Pg} (bm:p.vars.length≤1000) (hf:∀v∈p.vars,du v=true)
include bm hf
theorem NF {name:Tx} {to val x y z:Ex} {b:List Sm} {line:Int} {v:Vr} (hv:bf p.vars name=some v) (fx:bk x=true) (ex:(aC p.vars x).e=0) (fy:bk y=true) (ey:(aC p.vars y).e=0) (fz:bk z=true) (ez:(aC p.vars z).e=0) (hB:rW p true b) (afo:∀c,0≤c→c≤(ag p.vars b c).2) (m:Mk) (hm:0≤m.most) (hc:0≤m.cells) (hI:iw m)
 (hl:m.out.length+((ak p.vars x).1++((ak p.vars y).1++(ak p.vars z).1)).length+3+(kK (cd p.vars name).1 m.cells (ag p.vars b (m.cells+2)).1).length<99999990) (aP:(ag p.vars b (m.cells+2)).2<99999990) (fG:m.ex.length+1+ix b<99999990):
 fR p (m.aL (jn (((ak p.vars x).1++((ak p.vars y).1++(ak p.vars z).1))++[ins 6 (m.cells+1) 0 0 0,ins 6 m.cells 0 0 0,ins 6 (cd p.vars name).1 0 0 0]) (kK (cd p.vars name).1 m.cells (ag p.vars b (m.cells+2)).1)) (ag p.vars b (m.cells+2)).2 (max (max (fF 0 [x,y,z]) 3) (aY b))) 0 (.ret (.aU [])) (ai ctx 139 [.ptr 0 0 0,.d (cC (.mk 4 name to val [x,y,z] [] [] [b] line))] (fQ p m 0)):=by
 rw[TJ]at hl;simp only[List.length_append]at hl;have sL:=afo (m.cells+2) (by omega);have fg:=pr p bm hf name;rw[hv,iG hv]at fg;obtain⟨a1,a2,a3,g1⟩:=QI p m 0 2 (ay (by unfold aZ;omega));have f1:({m with cells:=m.cells+2}:Mk).out=m.out:=rfl;generalize mW:({m with cells:=m.cells+2}:Mk)=M1 at g1 f1;have m1:0≤M1.most:=by subst mW;exact hm
 obtain⟨b1,b2,b3,g2⟩:=kS bm hf x fx ex M1 0 (by omega) (by omega) m1 (by rw[f1];omega);have l2:(M1.au (ak p.vars x).1 (aJ 0 x)).out.length=m.out.length+(ak p.vars x).1.length:=by simp[Mk.au,f1]
 have p2:0≤(M1.au (ak p.vars x).1 (aJ 0 x)).most:=by simp[Mk.au];omega
 generalize oy:M1.au (ak p.vars x).1 (aJ 0 x)=M2 at g2 l2 p2;have hpx:=jR p.vars x;have hpy:=jR p.vars y;have hpz:=jR p.vars z;obtain⟨c1,c2,c3,g3⟩:=kS bm hf y fy ey M2 (0+1) (by omega) (by omega) p2 (by omega);have l3:(M2.au (ak p.vars y).1 (aJ (0+1) y)).out.length=m.out.length+(ak p.vars x).1.length+(ak p.vars y).1.length:=by simp[Mk.au,l2]
 have p3:0≤(M2.au (ak p.vars y).1 (aJ (0+1) y)).most:=by simp[Mk.au];omega
 generalize qj:M2.au (ak p.vars y).1 (aJ (0+1) y)=M3 at g3 l3 p3;obtain⟨d1,d2,d3,g4⟩:=kS bm hf z fz ez M3 (0+1+1) (by omega) (by omega) p3 (by omega);have l4:(M3.au (ak p.vars z).1 (aJ (0+1+1) z)).out.length=m.out.length+(ak p.vars x).1.length+(ak p.vars y).1.length+(ak p.vars z).1.length:=by simp[Mk.au,l3]
 generalize qH:M3.au (ak p.vars z).1 (aJ (0+1+1) z)=M4 at g4 l4;obtain⟨e1,e2,e3,g5⟩:=pq p M4 (0+1+1+1) (m.cells+1) (by omega) (by decide);have l5:(M4.put (ins 6 (m.cells+1) 0 0 0) (0+1+1+1+ -1)).out.length=m.out.length+(ak p.vars x).1.length+(ak p.vars y).1.length+(ak p.vars z).1.length+1:=by simp[Mk.put,l4]
 generalize uz:M4.put (ins 6 (m.cells+1) 0 0 0) (0+1+1+1+ -1)=M5 at g5 l5;obtain⟨h1,h2,h3,g6⟩:=pq p M5 (0+1+1+1+ -1) m.cells (by omega) (by decide);have l6:(M5.put (ins 6 m.cells 0 0 0) (0+1+1+1+ -1+ -1)).out.length=m.out.length+(ak p.vars x).1.length+(ak p.vars y).1.length+(ak p.vars z).1.length+2:=by simp[Mk.put,l5]
 generalize Hk:M5.put (ins 6 m.cells 0 0 0) (0+1+1+1+ -1+ -1)=M6 at g6 l6;obtain⟨i1,i2,i3,g7⟩:=pq p M6 (0+1+1+1+ -1+ -1) (cd p.vars name).1 (by omega) (by decide);have l7:(M6.put (ins 6 (cd p.vars name).1 0 0 0) (0+1+1+1+ -1+ -1+ -1)).out.length=m.out.length+(ak p.vars x).1.length+(ak p.vars y).1.length+(ak p.vars z).1.length+3:=by simp[Mk.put,l6]
 generalize Hl:M6.put (ins 6 (cd p.vars name).1 0 0 0) (0+1+1+1+ -1+ -1+ -1)=M7 at g7 l7;have f7:M7.cells=m.cells+2∧M7.ex=m.ex∧0≤M7.most∧M7=(({m with cells:=m.cells+2}:Mk).au (((ak p.vars x).1++((ak p.vars y).1++(ak p.vars z).1))++[ins 6 (m.cells+1) 0 0 0,ins 6 m.cells 0 0 0,ins 6 (cd p.vars name).1 0 0 0]) (max (fF 0 [x,y,z]) 3)):=by
  have t1:=kW 0 x;have t2:=kW 1 y;have t3:=kW 2 z;subst Hl Hk uz qH qj oy mW;refine⟨rfl,rfl,?_,?_⟩
  ·simp[Mk.put,Mk.au];omega
  ·simp only[Mk.put,Mk.au,Mk.mk.injEq,fF];simp;omega
 have q7:iw M7:=by
  have q1:iw ({m with cells:=m.cells+2}:Mk):=hI;subst Hl Hk uz qH qj oy mW;exact (((((q1.au _ _).au _ _).au _ _).put _ _).put _ _).put _ _
 have ho:M7.opn.ex.length=m.ex.length+1:=by simp[Mk.opn,f7.2.1]
 have g8:=abo (name:=name) (to:=to) (val:=val) (conds:=[x,y,z]) (line:=line) (at_:=(cd p.vars name).1) (cell:=m.cells) hB M7.opn f7.2.2.1 (by show 0≤M7.cells;rw[f7.1];omega) q7.opn (by simp[Mk.opn]) (by unfold aZ;omega) (by show M7.out.length+(ag p.vars b M7.cells).1.length+8<_;rw[f7.1,l7];omega) (by show (ag p.vars b M7.cells).2<_;rw[f7.1];exact aP) (by rw[ho];exact fG);rw[show M7.opn.cells=m.cells+2 from f7.1]at g8;have hrl:=pt (-1) (ag p.vars b (m.cells+2)).1 (M7.out.length+3);have pQ:(M7.opn.B1 (cd p.vars name).1 m.cells (ag p.vars b (m.cells+2)).1 (ag p.vars b (m.cells+2)).2 (max 2 (aY b))).out.length=M7.out.length+8+(ag p.vars b (m.cells+2)).1.length:=by
  simp[Mk.B1,Mk.opn];omega
 obtain⟨v1,v2,v3,oN⟩:=TG (m:=M7) (abu M7 _ _ _ _ _) g8 (by omega) (by rw[pQ];omega) (fun i hi=>by
  obtain⟨j,e,hj⟩:=xT _ _ _ i hi;exact⟨j,e,by rw[pQ];omega⟩) (by rw[f7.2.1];omega)
 rw[WO]at oN;have eW:M7.aL (kK (cd p.vars name).1 m.cells (ag p.vars b (m.cells+2)).1) (ag p.vars b (m.cells+2)).2 (max 2 (aY b))=m.aL (jn (((ak p.vars x).1++((ak p.vars y).1++(ak p.vars z).1))++[ins 6 (m.cells+1) 0 0 0,ins 6 m.cells 0 0 0,ins 6 (cd p.vars name).1 0 0 0]) (kK (cd p.vars name).1 m.cells (ag p.vars b (m.cells+2)).1)) (ag p.vars b (m.cells+2)).2 (max (max (fF 0 [x,y,z]) 3) (aY b)):=by
  have iH:Flat (((ak p.vars x).1++((ak p.vars y).1++(ak p.vars z).1))++[ins 6 (m.cells+1) 0 0 0,ins 6 m.cells 0 0 0,ins 6 (cd p.vars name).1 0 0 0]):=
   (((lF x fx ex).app ((lF y fy ey).app (lF z fz ez)))).app (.cons (by simp[ins]) (.cons (by simp[ins]) (.one (by simp[ins]))))
  rw[←yC m _ _ (m.cells+2) _ (max (fF 0 [x,y,z]) 3) _,f7.2.2.2];have e:({m with cells:=m.cells+2}:Mk).au (((ak p.vars x).1++((ak p.vars y).1++(ak p.vars z).1))++[ins 6 (m.cells+1) 0 0 0,ins 6 m.cells 0 0 0,ins 6 (cd p.vars name).1 0 0 0]) (max (fF 0 [x,y,z]) 3)=m.aL (((ak p.vars x).1++((ak p.vars y).1++(ak p.vars z).1))++[ins 6 (m.cells+1) 0 0 0,ins 6 m.cells 0 0 0,ins 6 (cd p.vars name).1 0 0 0]) (m.cells+2) (max (fF 0 [x,y,z]) 3):=by
   rw[←nH iH];rfl
  rw[e];exact mf (by simp[Mk.aL];omega)
 rw[eW]at oN;generalize m.aL (jn (((ak p.vars x).1++((ak p.vars y).1++(ak p.vars z).1))++[ins 6 (m.cells+1) 0 0 0,ins 6 m.cells 0 0 0,ins 6 (cd p.vars name).1 0 0 0]) (kK (cd p.vars name).1 m.cells (ag p.vars b (m.cells+2)).1)) (ag p.vars b (m.cells+2)).2 (max (max (fF 0 [x,y,z]) 3) (aY b))=M at*;clear mW oy qj qH uz Hk Hl eW f7 g8;have w1:IntKind.i64.wrap (m.cells+1)=m.cells+1:=ay (by unfold aZ;omega);have u1:IntKind.i64.wrap 1=1:=rfl;have u2:IntKind.i64.wrap 2=2:=rfl;have u3:IntKind.i64.wrap 3=3:=rfl;rw[Zw (by simp)];simp at g1 g2 g3 g4 g5 g6 g7;simp[aA]at oN;simp[Tryz.f139,eK,fg,bG,eu,g1,aI];rw[ah];simp[Tryz.f139,aA,g2,u1];rw[ah];simp[Tryz.f139,aA,g3,u1,u2];rw[ah];simp[Tryz.f139,aA,g4,u1,u2,u3];rw[ah];simp[Tryz.f139,g5,g6,g7,w1,oN];exact⟨_,_,_,rfl⟩
end
theorem D0 (c:Int):∀l:List Int,l.length%2=0→(ee c l).length=l.length
 |[],_=>by simp[ee]
 |[_],h=>by simp at h
 |a::b::r,h=>by
  have:=D0 c r (by simp only[List.length_cons]at h;omega);simp only[ee,List.length_cons];omega
def xW (c:Int) (labels:List (List Int)):List (List aq×Int):=labels.map fun l=>(ins 1 0 0 0 0::ee c l,2)
theorem WQ (c:Int) (labels:List (List Int)):dn (xW c labels)=labels.map fun l=>ins 1 0 0 0 0::ee c l:=by simp[dn,xW]
theorem Hn (c:Int):∀labels:List (List Int),dw (xW c labels)=if labels=[]then 0 else 2
 |[]=>rfl
 |l::r=>by
  have:=Hn c r;have e:dw (xW c (l::r))=max 2 (dw (xW c r)):=rfl;rw[e,this];rw[if_neg (List.cons_ne_nil _ _)];split<;>rfl
def vZ (vs:List Vr) (conds:List Ex):List (List aq×Int):=conds.map fun x=>((ak vs x).1,aJ 0 x)
theorem CL (vs:List Vr) (conds:List Ex):dn (vZ vs conds)=conds.map fun x=>(ak vs x).1:=by simp[dn,vZ]
theorem Ho (vs:List Vr):∀conds:List Ex,dw (vZ vs conds)=jQ conds
 |[]=>rfl
 |x::r=>by
  have:=Ho vs r;have e:dw (vZ vs (x::r))=max (aJ 0 x) (dw (vZ vs r)):=rfl;rw[e,this];rfl
section
variable {p:Pg} {lp:Bool} (bm:p.vars.length≤1000) (hf:∀v∈p.vars,du v=true)
include bm hf
theorem TL {to val:Ex} {labels:List (List Int)} {blocks:List (List Sm)} {line:Int} (fv:bk val=true) (ev:(aC p.vars val).e=0) (Ap:labels.all pf=true) (jw:labels.length≤blocks.length) (BW:blocks.length≤labels.length+1) (gA:blocks.length<99999980)
 (HB:∀b∈blocks,rW p lp b) (HC:∀b∈blocks,∀c,0≤c→c≤(ag p.vars b c).2) (m:Mk) (hm:0≤m.most) (hc:0≤m.cells) (hI:iw m) (hex:lp=true→m.ex≠[])
 (hl:m.out.length+(ak p.vars val).1.length+1+(cy (labels.map fun l=>ins 1 0 0 0 0::ee m.cells l) (ar p.vars blocks (m.cells+1)).1).length<99999990) (aP:(ar p.vars blocks (m.cells+1)).2<99999990) (fG:∀b∈blocks,m.ex.length+ix b<99999990):
 fR p (m.aL (jn ((ak p.vars val).1++[ins 6 m.cells 0 0 0]) (cy (labels.map fun l=>ins 1 0 0 0 0::ee m.cells l) (ar p.vars blocks (m.cells+1)).1)) (ar p.vars blocks (m.cells+1)).2 (max (aJ 0 val) (max (if labels=[]then 0 else 2) (bV blocks)))) 0 (.ret (.aU []))
  (ai ctx 138 [.ptr 0 0 0,.d (cC (.mk 3 [] to val [] labels [] blocks line))] (fQ p m 0)):=by
 have sL:=vB blocks (m.cells+1) (by omega) HC;obtain⟨a1,a2,a3,g1⟩:=QI p m 0 1 (ay (by unfold aZ;omega));have f1:({m with cells:=m.cells+1}:Mk).out=m.out:=rfl;generalize mW:({m with cells:=m.cells+1}:Mk)=M1 at g1 f1;have m1:0≤M1.most:=by subst mW;exact hm
 obtain⟨b1,b2,b3,g2⟩:=kS bm hf val fv ev M1 0 (by omega) (by omega) m1 (by rw[f1];omega);have l2:(M1.au (ak p.vars val).1 (aJ 0 val)).out.length=m.out.length+(ak p.vars val).1.length:=by simp[Mk.au,f1]
 generalize oy:M1.au (ak p.vars val).1 (aJ 0 val)=M2 at g2 l2;obtain⟨e1,e2,e3,g3⟩:=pq p M2 (0+1) m.cells (by omega) (by decide);have l3:(M2.put (ins 6 m.cells 0 0 0) (0+1+ -1)).out.length=m.out.length+(ak p.vars val).1.length+1:=by simp[Mk.put,l2]
 generalize qj:M2.put (ins 6 m.cells 0 0 0) (0+1+ -1)=M3 at g3 l3;have iH:Flat ((ak p.vars val).1++[ins 6 m.cells 0 0 0]):=(lF val fv ev).app (.one (by simp[ins]));have f3:M3.cells=m.cells+1∧M3.ex=m.ex∧0≤M3.most∧M3=m.aL ((ak p.vars val).1++[ins 6 m.cells 0 0 0]) (m.cells+1) (aJ 0 val):=by
  have t1:=kW 0 val;have e:({m with cells:=m.cells+1}:Mk).au ((ak p.vars val).1++[ins 6 m.cells 0 0 0]) (aJ 0 val)=m.aL ((ak p.vars val).1++[ins 6 m.cells 0 0 0]) (m.cells+1) (aJ 0 val):=by
   rw[←nH iH];rfl
  rw[←e];subst qj oy mW;refine⟨rfl,rfl,?_,?_⟩
  ·simp[Mk.put,Mk.au];omega
  ·simp only[Mk.put,Mk.au,Mk.mk.injEq];simp;omega
 have q3:iw M3:=by
  have q1:iw ({m with cells:=m.cells+1}:Mk):=hI;subst qj oy mW;exact (q1.au _ _).put _ _
 have TM:=WQ m.cells labels;have wJ:=NC (p:=p) (lp:=lp) (s:=.mk 3 [] to val [] labels [] blocks line) (q:=m.cells) (blocks:=blocks) (ts:=xW m.cells labels) gA (by simpa [xW]using jw) (by simpa [xW]using BW)
  (by
   rw[TM];intro x hx;obtain⟨l,_,rfl⟩:=List.mem_map.1 hx;exact .cons (by simp[ins]) (VF _ _))
  (by
   intro i t ht M hM hML;simp only[xW,List.getElem?_map,Option.map_eq_some_iff]at ht;obtain⟨l,cw,rfl⟩:=ht;have zv:pf l=true:=List.all_eq_true.1 Ap l (List.mem_of_getElem? cw);have bS:l.length%2=0:=by
    simp only[pf,Bool.and_eq_true,decide_eq_true_eq]at zv;exact zv.2.1
   have:=D0 m.cells l bS;simp only[List.length_cons]at hML;exact TF (.mk 3 [] to val [] labels [] blocks line) m.cells i l cw zv M hM (by omega))
  HB HC M3 f3.2.2.1 (by rw[f3.1];omega) q3 (fun h=>by rw[f3.2.1];exact hex h) (by rw[f3.1,l3,TM];omega) (by rw[f3.1];exact aP) (fun b hb=>by rw[f3.2.1];exact fG b hb)
 rw[f3.1,TM,Hn]at wJ;have eW:M3.aL (cy (labels.map fun l=>ins 1 0 0 0 0::ee m.cells l) (ar p.vars blocks (m.cells+1)).1) (ar p.vars blocks (m.cells+1)).2 (max (if labels=[]then 0 else 2) (bV blocks))=m.aL (jn ((ak p.vars val).1++[ins 6 m.cells 0 0 0]) (cy (labels.map fun l=>ins 1 0 0 0 0::ee m.cells l) (ar p.vars blocks (m.cells+1)).1)) (ar p.vars blocks (m.cells+1)).2 (max (aJ 0 val) (max (if labels=[]then 0 else 2) (bV blocks))):=by
  rw[←yC m _ _ (m.cells+1) _ (aJ 0 val) _,←f3.2.2.2]
 rw[eW]at wJ;generalize m.aL (jn ((ak p.vars val).1++[ins 6 m.cells 0 0 0]) (cy (labels.map fun l=>ins 1 0 0 0 0::ee m.cells l) (ar p.vars blocks (m.cells+1)).1)) (ar p.vars blocks (m.cells+1)).2 (max (aJ 0 val) (max (if labels=[]then 0 else 2) (bV blocks)))=M at*;obtain⟨v1,v2,v3,wJ⟩:=wJ;clear mW oy qj eW f3 HB HC;have el:(xW m.cells labels).length=labels.length:=by simp[xW]
 rw[el]at wJ;rw[Zv (by simp)];simp at g1 g2 g3;simp at wJ;simp[Tryz.f138,eK,g1,g2,g3,wJ];exact⟨_,_,_,rfl⟩
end
section
variable {p:Pg} {x:Sm} {m M:Mk} (hl:m.out.length<99999990)
include hl
theorem VK (ho:bu x=1) (h:fR p M 0 (.ret (.aU [])) (ai ctx 134 [.ptr 0 0 0,.d (cC x)] (fQ p (m.put (ins 11 0 0 0 0) 0) 0))):
 fR p M 0 (.ret (.aU [])) (ai ctx 91 [.ptr 0 0 0,.d (cC x)] (fQ p m 0)):=by
 obtain⟨a1,a2,a3,ht⟩:=mc p m 0 (by omega) (by decide);obtain⟨b1,b2,b3,h⟩:=h;generalize m.put (ins 11 0 0 0 0) 0=N at*;rw[sG (by simp)];simp[eK,ho]at h;simp at ht;simp[Tryz.f91,eK,ho,ht,h];exact⟨_,_,_,rfl⟩
theorem afp (ho:bu x=3) (h:fR p M 0 (.ret (.aU [])) (ai ctx 138 [.ptr 0 0 0,.d (cC x)] (fQ p (m.put (ins 11 0 0 0 0) 0) 0))):
 fR p M 0 (.ret (.aU [])) (ai ctx 91 [.ptr 0 0 0,.d (cC x)] (fQ p m 0)):=by
 obtain⟨a1,a2,a3,ht⟩:=mc p m 0 (by omega) (by decide);obtain⟨b1,b2,b3,h⟩:=h;generalize m.put (ins 11 0 0 0 0) 0=N at*;rw[sG (by simp)];simp[eK,ho]at h;simp at ht;simp[Tryz.f91,eK,ho,ht,h];exact⟨_,_,_,rfl⟩
theorem afq (ho:bu x=4) (h:fR p M 0 (.ret (.aU [])) (ai ctx 139 [.ptr 0 0 0,.d (cC x)] (fQ p (m.put (ins 11 0 0 0 0) 0) 0))):
 fR p M 0 (.ret (.aU [])) (ai ctx 91 [.ptr 0 0 0,.d (cC x)] (fQ p m 0)):=by
 obtain⟨a1,a2,a3,ht⟩:=mc p m 0 (by omega) (by decide);obtain⟨b1,b2,b3,h⟩:=h;generalize m.put (ins 11 0 0 0 0) 0=N at*;rw[sG (by simp)];simp[eK,ho]at h;simp at ht;simp[Tryz.f91,eK,ho,ht,h];exact⟨_,_,_,rfl⟩
theorem QU (ho:bu x=5∨bu x=6) (h:fR p M 0 (.ret (.aU [])) (ai ctx 140 [.ptr 0 0 0,.d (cC x)] (fQ p (m.put (ins 11 0 0 0 0) 0) 0))):
 fR p M 0 (.ret (.aU [])) (ai ctx 91 [.ptr 0 0 0,.d (cC x)] (fQ p m 0)):=by
 obtain⟨a1,a2,a3,ht⟩:=mc p m 0 (by omega) (by decide);obtain⟨b1,b2,b3,h⟩:=h;generalize m.put (ins 11 0 0 0 0) 0=N at*;rw[sG (by simp)];simp at ht;rcases ho with ho|ho
 ·simp[eK,ho]at h;simp[Tryz.f91,eK,ho,ht,h];exact⟨_,_,_,rfl⟩
 ·simp[eK,ho]at h;simp[Tryz.f91,eK,ho,ht,h];exact⟨_,_,_,rfl⟩
theorem afr (ho:bu x=9) (h:fR p M 0 (.ret (.aU [])) (ai ctx 142 [.ptr 0 0 0,.d (cC x)] (fQ p (m.put (ins 11 0 0 0 0) 0) 0))):
 fR p M 0 (.ret (.aU [])) (ai ctx 91 [.ptr 0 0 0,.d (cC x)] (fQ p m 0)):=by
 obtain⟨a1,a2,a3,ht⟩:=mc p m 0 (by omega) (by decide);obtain⟨b1,b2,b3,h⟩:=h;generalize m.put (ins 11 0 0 0 0) 0=N at*;rw[sG (by simp)];simp[eK,ho]at h;simp at ht;simp[Tryz.f91,eK,ho,ht,h];exact⟨_,_,_,rfl⟩
theorem afs (ho:bu x=2) (h:VJ p M x (ai ctx 135 [.ptr 0 0 0,.d (.list ((bx x).map df)),.d (.int .i64 (cu x).length),.fn 136 [.ptr 1 0 0,.ptr 2 0 0]] [gJ p (m.put (ins 11 0 0 0 0) 0) 0 3 4 5 0 0 0,.box [.ptr 0 0 0],bg x,.vec 5 ((m.put (ins 11 0 0 0 0) 0).out.map cE),.vv ((m.put (ins 11 0 0 0 0) 0).ex.map fO) none,.vec 1 ((m.put (ins 11 0 0 0 0) 0).lv.map dy)])):
 fR p M 0 (.ret (.aU [])) (ai ctx 91 [.ptr 0 0 0,.d (cC x)] (fQ p m 0)):=by
 obtain⟨a1,a2,a3,ht⟩:=mc p m 0 (by omega) (by decide);obtain⟨b1,b2,b3,h⟩:=h;generalize m.put (ins 11 0 0 0 0) 0=N at*;rw[sG (by simp)];simp[ho]at h;simp at ht;simp[Tryz.f91,eK,ho,ht,h];exact⟨_,_,_,rfl⟩
end
theorem aft (p:Pg) (m:Mk) (h il:Int) (x:aq) (hl:m.out.length<100000000) (hw:IntKind.i64.wrap (h+il)=h+il):ai ctx 53 [.ptr 0 0 0,.d (cE x),.d (.int .i64 il)] (fQ p m h)=some (.ret (.d (.int .i64 m.out.length)),KA p (m.put x (h+il)) (h+il) 1 0 0):=by
 have w0:IntKind.i64.wrap (m.out.length:Int)=m.out.length:=ay (by unfold aZ;omega);have w3:m.out.length≤4611686018427387903:=by omega
 have w4:(m.out.length+1)*40≤140737488355328:=by omega
 rw[Nn (by simp)];simp[Tryz.f53,aI,hw,w0,w3,w4,mxI,Mk.put]
theorem abv (p:Pg) (m:Mk) (h to:Int) (hl:m.out.length<100000000) (hw:IntKind.i64.wrap h=h):ai ctx 141 [.ptr 0 0 0,.d (.int .i64 to)] (fQ p m h)=some (.ret (.d (.int .i64 m.out.length)),KA p (m.put (ins 9 to 0 0 0) h) h 1 0 0):=by
 have ha:=aft p m h 0 (ins 9 to 0 0 0) hl (by simpa using hw);rw[show h+0=h by omega]at ha;generalize m.put (ins 9 to 0 0 0) h=M at*;rw[Gm (by simp)];simp[ins]at ha;simp[Tryz.f141,ha]
@[simp] def mkO (p:Pg) (m:Mk) (h:Int) (pre:List (List Int)) (row:List Int):List aD:=[.box [.d (.str p.name),.d (.list (p.vars.map bG)),.d (.list (p.body.map cC)),.vec 1 0 0 m.out.length,.d (.int .i64 m.cells),.d (.int .i64 h),.d (.int .i64 m.most),.vec 2 0 0 (pre.length+1),.vec 3 0 0 m.lv.length],.vec 5 (m.out.map cE),.vv (pre.map fO) (some (.vec 4 0 0 row.length)),.vec 1 (m.lv.map dy),.vec 1 (row.map dy)]
@[simp] def mkP (p:Pg) (m:Mk) (h:Int) (pre:List (List Int)) (row:List Int):List (Nat×aD):=[(0,.box [.d (.str p.name),.d (.list (p.vars.map bG)),.d (.list (p.body.map cC)),.vec 1 1 0 m.out.length,.d (.int .i64 m.cells),.d (.int .i64 h),.d (.int .i64 m.most),.vec 2 0 0 (pre.length+1),.vec 3 0 0 m.lv.length]),(1,.vec 5 (m.out.map cE)),(0,.vv (pre.map fO) (some (.vec 4 0 0 row.length))),(0,.vec 1 (m.lv.map dy)),(0,.vec 1 (row.map dy))]
theorem afu (p:Pg) (m:Mk) (h il:Int) (x:aq) (pre:List (List Int)) (row:List Int) (hl:m.out.length<100000000) (hw:IntKind.i64.wrap (h+il)=h+il):ai ctx 53 [.ptr 0 0 0,.d (cE x),.d (.int .i64 il)] (mkO p m h pre row)=some (.ret (.d (.int .i64 m.out.length)),mkP p (m.put x (h+il)) (h+il) pre row):=by
 have w0:IntKind.i64.wrap (m.out.length:Int)=m.out.length:=ay (by unfold aZ;omega);have w3:m.out.length≤4611686018427387903:=by omega
 have w4:(m.out.length+1)*40≤140737488355328:=by omega
 rw[Nn (by simp)];simp[Tryz.f53,aI,hw,w0,w3,w4,mxI,Mk.put]
theorem abw (p:Pg) (m:Mk) (h to:Int) (pre:List (List Int)) (row:List Int) (hl:m.out.length<100000000) (hw:IntKind.i64.wrap h=h):ai ctx 141 [.ptr 0 0 0,.d (.int .i64 to)] (mkO p m h pre row)=some (.ret (.d (.int .i64 m.out.length)),mkP p (m.put (ins 9 to 0 0 0) h) h pre row):=by
 have ha:=afu p m h 0 (ins 9 to 0 0 0) pre row hl (by simpa using hw);rw[show h+0=h by omega]at ha;generalize m.put (ins 9 to 0 0 0) h=M at*;rw[Gm (by simp)];simp[ins]at ha;simp[Tryz.f141,ha]
def Mk.ext (m:Mk):Mk:={m with out:=m.out++[ins 9 0 0 0 0],most:=max m.most 0,ex:=gK m.ex [(m.out.length:Int)]}
def Mk.ret (m:Mk):Mk:={m with out:=m.out++[ins 9 0 0 0 0],most:=max m.most 0,lv:=m.lv++[(m.out.length:Int)]}
theorem afv {p:Pg} {x:Sm} {m:Mk} (hl:m.out.length<99999989) (nq:m.lv.length<99999989) (ho:bu x=8):fR p (m.put (ins 11 0 0 0 0) 0).ret 0 (.ret (.aU [])) (ai ctx 91 [.ptr 0 0 0,.d (cC x)] (fQ p m 0)):=by
 obtain⟨a1,a2,a3,ht⟩:=mc p m 0 (by omega) (by decide);have hN:(m.put (ins 11 0 0 0 0) 0).lv.length<99999989:=nq;have hN2:(m.put (ins 11 0 0 0 0) 0).out.length<99999990:=by simp[Mk.put];omega
 generalize m.put (ins 11 0 0 0 0) 0=N at*;have hj:=abv p N 0 0 (by omega) (by decide);have e:N.ret={(N.put (ins 9 0 0 0 0) 0)with lv:=N.lv++[(N.out.length:Int)]}:=rfl;have hx:(N.put (ins 9 0 0 0 0) 0).lv=N.lv:=rfl;rw[e];generalize N.put (ins 9 0 0 0 0) 0=P at*;have w1:N.lv.length≤4611686018427387903:=by omega
 have w2:(N.lv.length+1)*8≤140737488355328:=by omega
 rw[sG (by simp)];simp[ins]at ht hj;rw[hx]at hj;simp[Tryz.f91,eK,ho,ht,hj,hx,w1,w2,Cu,Et,Es,vh,xA,yp,lO,m5,nZ,qP,Bc,Be,Bf,Bg,eZ,qO,tj,Ck,sr,zT,IN,OE,FH,dX,dstep,kE,pE,aR.app];exact⟨1,(if a2=0 then 0 else 1),1,by simp⟩
theorem afw {p:Pg} {x:Sm} {m:Mk} {pre:List (List Int)} {row:List Int} (hx:m.ex=pre++[row]) (hl:m.out.length<99999989) (ja:row.length<99999990) (jM:pre.length<99999990) (ho:bu x=7):fR p (m.put (ins 11 0 0 0 0) 0).ext 0 (.ret (.aU [])) (ai ctx 91 [.ptr 0 0 0,.d (cC x)] (fQ p m 0)):=by
 obtain⟨a1,a2,a3,ht⟩:=mc p m 0 (by omega) (by decide);have hNx:(m.put (ins 11 0 0 0 0) 0).ex=pre++[row]:=hx;have hN2:(m.put (ins 11 0 0 0 0) 0).out.length<99999990:=by simp[Mk.put];omega
 generalize m.put (ins 11 0 0 0 0) 0=N at*;have hj:=abw p N 0 0 pre row (by omega) (by decide);have e:N.ext={(N.put (ins 9 0 0 0 0) 0)with ex:=pre++[row++[(N.out.length:Int)]]}:=by
  unfold Mk.ext;rw[hNx,iV];rfl
 have hPx:(N.put (ins 9 0 0 0 0) 0).ex=pre++[row]:=hNx;rw[e];generalize N.put (ins 9 0 0 0 0) 0=P at*;have w1:row.length≤4611686018427387903:=by omega
 have w2:(row.length+1)*8≤140737488355328:=by omega
 have w3:IntKind.i64.wrap ((pre.length:Int)+1-1)=pre.length:=by rw[show (pre.length:Int)+1-1=pre.length by omega];exact ay (by unfold aZ;omega)
 have w4:IntKind.i64.wrap (pre.length:Int)=pre.length:=ay (by unfold aZ;omega);rw[sG (by simp)];simp[ins,hNx,hPx,hx]at ht hj;simp[Tryz.f91,eK,ho,hx,ht,hj,w1,w2,w3,w4,Cu,Et,Es,vh,xA,yp,lO,m5,nZ,qP,Bc,Be,Bf,Bg,eZ,qO,tj,Ck,sr,zT,IN,OE,FH,dX,dstep,kE,pE,aR.app];exact⟨1,(if a2=0 then 0 else 1),(if a3=0 then 0 else 1),by simp⟩
end Go.Am
end
