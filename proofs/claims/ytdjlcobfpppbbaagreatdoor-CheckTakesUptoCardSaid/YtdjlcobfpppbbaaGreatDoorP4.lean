/-
  Texts of one proof, one behind the other.
-/
import Derived.Test.YtdjlcobfpppbbaaGreatDoorP3
import Derived.Laws.BitsLemmas
import Derived.Laws.Bits64
import Derived.Lib.Mul64
import Derived.Lib.Bytealg
import Derived.Lib.Index
import Derived.Lib.Strings
import Derived.Test.YtdjlcobfpppbbaaGreatDoorProg
import Derived.KernelRfl
set_option linter.all false
section
namespace Go.Am
open Go
abbrev bU:=Option (Out×List (Nat×aD))
abbrev Kt:=XE→St→bU
noncomputable def aG (X:Ctx) (f:FuncId) (c:Code) (S:St) (k:Kt):bU:=(fW X f c S).bind fun p=>k p.1 p.2
noncomputable def runK (X:Ctx) (md:Bool) (all ops:List Oper) (S:St) (k:Kt):bU:=(gi X (ai X) md all ops S).bind fun p=>k p.1 p.2
noncomputable def jr (X:Ctx) (md:Bool) (nd:Nat×List (List Nat)) (all ops:List Oper) (S:St) (acc:List aR) (k:Kt):bU:=(gS X (ai X) md nd all ops S acc).bind fun p=>k p.1 p.2
noncomputable def xz (X:Ctx) (f:FuncId) (b:Code) (k:Kt):Kt
 | .normal,S=>aG X f b S k
 |e,S=>k e S
def Cs (id:Nat) (k:Kt):Kt
 | .exit mw,S=>if mw=id then k .normal S else k (.exit mw) S
 |e,S=>k e S
noncomputable def Bz (X:Ctx) (f:FuncId) (c:Code) (k:Kt):Kt
 | .normal,S=>aG X f (.loop c) S k
 |e,S=>k e S
def BA (X:Ctx) (f:FuncId) (id:Nat) (k:Kt):Kt
 | .normal,S=>k .normal (S.leave X f id)
 |e,S=>k e S
def Ct (P:Program) (p:aM) (n0:Nat) (rs:List ResultVar):Kt
 | .normal,S=>finish P p n0 rs S
 | .ret,S=>finish P p n0 rs S
 | .panic t x,S=>finPanic p n0 t x S
 | .exit _,_=>none
def isB:Bool×AV→Bool
 |(true,.d (.bool _))=>true
 |_=>false
def boolOf:Bool×AV→Bool
 |(_,.d (.bool b))=>b
 |_=>false
def Env.kn:Env→Nat→Bool→Env
 |[],_,_=>[]
 |(t,x)::r,c,b=>if t=c then (t,true,.d (.bool b))::r else (t,x)::Env.kn r c b
def St.kn (S:St) (c:Nat) (b:Bool):St:={S with env:=Env.kn S.env c b}
section
variable {X:Ctx} {f:FuncId} {S:St} {k:Kt}
theorem rL (r:Option (XE×St)) (g:St→Option (XE×St)):(andThen r g).bind (fun p=>k p.1 p.2)=r.bind fun p=>match p with
 |(.normal,S)=>(g S).bind fun p=>k p.1 p.2
 |(e,S)=>k e S:=by
 rcases r with _|⟨e,S⟩
 ·rfl
 ·cases e<;>rfl
theorem denK_skip:aG X f .skip S k=k .normal S:=by simp only[aG,O4,Option.bind_some]
theorem denK_exit {id:Nat}:aG X f (.exit id) S k=k (.exit id) (ghs S (X.gh f (id+1000000))):=by simp only[aG,O5,Option.bind_some]
theorem denK_ret:aG X f .ret S k=k .ret S:=by simp only[aG,Sk,Option.bind_some]
theorem denK_seq {a b:Code}:aG X f (.seq a b) S k=aG X f a S (xz X f b k):=by
 simp only[aG,Sl,rL];congr 1;funext p;obtain⟨e,S⟩:=p;cases e<;>rfl
theorem ah {c:Code}:aG X f (.loop c) S k=aG X f c S (Bz X f c k):=by
 rw[aG,O8,rL,aG];congr 1;funext p;obtain⟨e,S⟩:=p;cases e<;>rfl
theorem denK_block {id:Nat} {c:Code}:aG X f (.block id c) S k=aG X f c S (Cs id k):=by
 simp only[aG,L6];rcases fW X f c S with _|⟨e,S⟩
 ·rfl
 ·cases e with
  |exit mw=>
   simp only[Bh,Option.bind_some,Cs];split<;>rfl
  |_=>rfl
theorem DG {c:Operand} {a b:Code}:aG X f (.cond c a b) S k=if isB (S.opd c)=true then (if boolOf (S.opd c)=true then aG X f a S k else aG X f b S k)else none:=by
 simp only[aG,O6];generalize S.opd c=v;obtain⟨g,x⟩:=v;cases g with
 |false=>rfl
 |true=>
  cases x with
  |d x=>
   cases x with
   |bool t=>cases t<;>rfl
   |_=>rfl
  |_=>rfl
theorem UG {b:Bool}:∀{env:Env} {c:Nat},Env.lk env c=some (true,.d (.bool b))→Env.kn env c b=env
 |[],c,h=>by cases h
 |(t,x)::r,c,h=>by
  simp only[Env.lk]at h;simp only[Env.kn];split
  ·rename_i ht;rw[if_pos ht]at h;cases h;rfl
  ·rename_i ht;rw[if_neg ht]at h;rw[UG h]
theorem YB {c:Tmp} {b:Bool} (h:S.opd (.tmp c)=(true,.d (.bool b))):Env.lk S.env c=some (true,.d (.bool b)):=by
 simp only[St.opd]at h;cases hl:Env.lk S.env c with
 |none=>rw[hl]at h;simp at h
 |some x=>rw[hl]at h;simp only[Option.getD_some]at h;rw[h]
theorem denK_condT {c:Tmp} {a b:Code}:aG X f (.cond (.tmp c) a b) S k=if isB (S.opd (.tmp c))=true then (if boolOf (S.opd (.tmp c))=true then aG X f a (S.kn c true) k else aG X f b (S.kn c false) k)else none:=by
 rw[DG];generalize hv:S.opd (.tmp c)=v;obtain⟨g,x⟩:=v;cases g with
 |false=>rfl
 |true=>
  cases x with
  |d x=>
   cases x with
   |bool t=>
    have:S.kn c t=S:=by
     unfold St.kn;rw[UG (YB hv)]
    cases t with
    |true=>rw[this];rfl
    |false=>rw[this];rfl
   |_=>rfl
  |_=>rfl
theorem denK_condC {v:Value} {a b:Code}:aG X f (.cond (.const v) a b) S k=if isB (S.opd (.const v))=true then (if boolOf (S.opd (.const v))=true then aG X f a S k else aG X f b S k)else none:=DG
theorem denK_region {id:Nat} {l:List Oper}:aG X f (.region id ⟨l⟩ false) S k=runK X (X.md f id) l l S (BA X f id k):=by
 simp only[aG,Io,runK];rcases gi X (ai X) (X.md f id) l l S with _|⟨e,S⟩
 ·rfl
 ·cases e<;>rfl
noncomputable def yn (X:Ctx) (md:Bool) (nd:List (List Nat)) (l:List Oper) (S:St) (k:Kt):List (Nat×Nat)→bU
 |[]=>jr X md (verSum S.mem,nd) l l S [] k
 |q::r=>(LJ X (ai X) md nd l S (eZ S.mem (q::r))).bind fun p=>k p.1 p.2
theorem denK_draw {id:Nat} {l:List Oper}:aG X f (.region id ⟨l⟩ true) S k=yn X (X.md f id) (X.od f id) l S (BA X f id k) (X.fl f id):=by
 simp only[aG,O7];cases X.fl f id with
 |nil=>
  simp only[rE,yn,jr];rcases gS X (ai X) (X.md f id) (verSum S.mem,X.od f id) l l S []with _|⟨e,S⟩
  ·rfl
  ·cases e<;>rfl
 |cons q r=>
  simp only[rE,yn];rcases LJ X (ai X) (X.md f id) (X.od f id) l S (eZ S.mem (q::r))with _|⟨e,S⟩
  ·rfl
  ·cases e<;>rfl
noncomputable def yo (X:Ctx) (md:Bool) (nd:List (List Nat)) (LI:List Cl) (all ops:List Oper) (S:St) (acc:List aR) (k:Kt):bU:=(mF X (ai X) md nd LI all ops S acc).bind fun p=>k p.1 p.2
noncomputable def Es (X:Ctx) (md:Bool) (nd:List (List Nat)) (LI:List Cl) (all r:List Oper) (acc:List aR) (k:Kt):Option (St×aR)→bU
 |some (S,p)=>yo X md nd LI all r S (p::acc) k
 |none=>none
theorem drwKA_n {md:Bool} {nd:List (List Nat)} {l:List Oper}:yn X md nd l S k []=jr X md (verSum S.mem,nd) l l S [] k:=rfl
noncomputable def Et (X:Ctx) (md:Bool) (nd:List (List Nat)) (l:List Oper) (S:St) (k:Kt):Option (List Cl)→bU
 |some LI=>yo X md nd LI l l S [] k
 |none=>none
theorem Cu {md:Bool} {nd:List (List Nat)} {l:List Oper} {q:Nat×Nat} {r:List (Nat×Nat)}:yn X md nd l S k (q::r)=Et X md nd l S k (eZ S.mem (q::r)):=by
 simp only[yn];cases eZ S.mem (q::r)<;>rfl
noncomputable def yp (X:Ctx) (md:Bool) (nd:List (List Nat)) (LI:List Cl) (all r:List Oper) (S:St) (o:Oper) (acc:List aR) (k:Kt):Bool→bU
 |true=>if ordD nd acc.reverse=true then runK X md all [o] S k else none
 |false=>Es X md nd LI all r acc k (m5 X (ai X) md LI all S o (nZ X.P LI S o))
theorem vh {md:Bool} {nd:List (List Nat)} {LI:List Cl} {all r:List Oper} {o:Oper} {acc:List aR}:yo X md nd LI all (o::r) S acc k=yp X md nd LI all r S o acc k (lO (nd.getD acc.length []) r):=by
 simp only[yo,mF];cases lO (nd.getD acc.length []) r with
 |true=>
  simp only[FI,yp];split
  ·rfl
  ·rfl
 |false=>
  simp only[yp];rcases m5 X (ai X) md LI all S o (nZ X.P LI S o)with _|⟨S1,p⟩<;>rfl
theorem seqK_n {b:Code}:xz X f b k .normal S=aG X f b S k:=rfl
theorem seqK_x {b:Code} {id:Nat}:xz X f b k (.exit id) S=k (.exit id) S:=rfl
theorem seqK_r {b:Code}:xz X f b k .ret S=k .ret S:=rfl
theorem seqK_p {b:Code} {t:TypeId} {x:D}:xz X f b k (.panic t x) S=k (.panic t x) S:=rfl
theorem blkK_n {id:Nat}:Cs id k .normal S=k .normal S:=rfl
theorem blkK_x {id mw:Nat}:Cs id k (.exit mw) S=if mw=id then k .normal S else k (.exit mw) S:=rfl
theorem blkK_r {id:Nat}:Cs id k .ret S=k .ret S:=rfl
theorem blkK_p {id:Nat} {t:TypeId} {x:D}:Cs id k (.panic t x) S=k (.panic t x) S:=rfl
theorem loopK_n {c:Code}:Bz X f c k .normal S=aG X f (.loop c) S k:=rfl
theorem loopK_x {c:Code} {id:Nat}:Bz X f c k (.exit id) S=k (.exit id) S:=rfl
theorem loopK_r {c:Code}:Bz X f c k .ret S=k .ret S:=rfl
theorem loopK_p {c:Code} {t:TypeId} {x:D}:Bz X f c k (.panic t x) S=k (.panic t x) S:=rfl
theorem leaveK_n {id:Nat}:BA X f id k .normal S=k .normal (S.leave X f id):=rfl
theorem leaveK_p {id:Nat} {t:TypeId} {x:D}:BA X f id k (.panic t x) S=k (.panic t x) S:=rfl
theorem finK_n {P:Program} {p:aM} {n0:Nat} {rs:List ResultVar}:Ct P p n0 rs .normal S=finish P p n0 rs S:=rfl
theorem finK_r {P:Program} {p:aM} {n0:Nat} {rs:List ResultVar}:Ct P p n0 rs .ret S=finish P p n0 rs S:=rfl
theorem finK_p {P:Program} {p:aM} {n0:Nat} {rs:List ResultVar} {t:TypeId} {x:D}:Ct P p n0 rs (.panic t x) S=finPanic p n0 t x S:=rfl
end
def gdst (all:List Oper) (o:Oper):Option Nat:=
 match o.guard with
 |some (j,_)=>dstAt all j
 |none=>none
noncomputable def callK (X:Ctx) (md:Bool) (S:St) (d:Option Nat) (all r:List Oper) (k:Kt):Option fK→bU
 |some ⟨.ret x,es,_⟩=>runK X md all r (({S with mem:=putAll S.mem es}:St).put d true x) k
 |some ⟨.panic t x,es,_⟩=>k (.panic t x) {S with mem:=putAll S.mem es}
 |none=>none
def panicK (S:St) (k:Kt):Bool×AV→bU
 |(true,.gM t d)=>k (.panic t d) S
 |_=>none
noncomputable def specK (X:Ctx) (md:Bool) (S:St) (o:Oper) (all r:List Oper) (k:Kt):Op→bU
 | .call {callee:=.value fv,args,..}=>callK X md S o.dst all r k (callVal X (ai X) S o args.toList (S.opd fv))
 | .panic x=>panicK S k (S.opd x)
 |_=>none
noncomputable def stepK (X:Ctx) (md:Bool) (S:St) (o:Oper) (all r:List Oper) (k:Kt):dj→bU
 | .val c x=>if (opOk S o&&c)=true then runK X md all r (S.put o.dst true x) k else none
 | .cW c x e=>if (opOk S o&&c)=true then runK X md all r (({S with mem:=Mem.set S.mem e}:St).put o.dst true x) k else none
 | .no=>specK X md S o all r k o.op
noncomputable def guardK (X:Ctx) (md:Bool) (S:St) (o:Oper) (all r:List Oper) (k:Kt) (b:Bool):dj→bU
 | .val c x=>if b=true→(opOk S o&&c)=true then runK X md all r (S.put o.dst b x) k else none
 | .cW c x e=>if b=true then stepK X md S o all r k (.cW c x e)else runK X md all r (S.put o.dst true .aW) k
 | .no=>if b=true then specK X md S o all r k o.op else runK X md all r (S.put o.dst true .aW) k
noncomputable def forkK (X:Ctx) (S:St) (o:Oper) (all r:List Oper) (k:Kt) (want t:Bool):Bool→bU
 |false=>guardK X false S o all r k (t == want) (stepv X.P S o)
 |true=>if (t == want)=true then stepK X true (S.cz (gdst all o) want) o all r k (stepv X.P (S.cz (gdst all o) want) o)else runK X true all r ((S.cz (gdst all o) (!want)).put o.dst true (.aU [])) k
noncomputable def grdK (X:Ctx) (md:Bool) (S:St) (o:Oper) (all r:List Oper) (k:Kt) (want:Bool):GV→bU
 | .qA t=>forkK X S o all r k want t md
 | .skip=>runK X md all r (S.put o.dst true (.aU [])) k
 | .bad=>none
section
variable {X:Ctx} {f:FuncId} {S:St} {k:Kt} {all r:List Oper} {md:Bool}
theorem vi (o:Oper) (res:dj):(andThen (gR X (ai X) S o res) (gi X (ai X) md all r)).bind (fun p=>k p.1 p.2)=stepK X md S o all r k res:=by
 cases res with
 |val c x=>simp only[gR,stepK];split<;>rfl
 |cW c x e=>simp only[gR,stepK];split<;>rfl
 |no=>
  simp only[gR,stepK,p6];split
  ·rename_i fv args hU ho;rw[ho];simp only[specK];rcases callVal X (ai X) S o args.toList (S.opd fv)with _|⟨out,es,ks⟩
   ·rfl
   ·cases out<;>rfl
  ·rename_i x ho;rw[ho];simp only[specK];generalize S.opd x=v;obtain⟨g,y⟩:=v;cases g<;>cases y<;>rfl
  ·rename_i h1 h2;unfold specK;split
   ·rename_i heq;exact absurd heq (h1 _ _ _)
   ·rename_i heq;exact absurd heq (h2 _)
   ·rfl
theorem runK_nil:runK X md all [] S k=k .normal S:=rfl
theorem runK_cons {d:Option Tmp} {op:Op} {ty:TypeId} {pos:String} {af:Array Edge}:runK X md all (⟨d,op,ty,pos,af,none⟩::r) S k=stepK X md S ⟨d,op,ty,pos,af,none⟩ all r k (stepv X.P S ⟨d,op,ty,pos,af,none⟩):=
 vi _ _
theorem runK_guard {d:Option Tmp} {op:Op} {ty:TypeId} {pos:String} {af:Array Edge} {j:Nat} {w:Bool}:runK X md all (⟨d,op,ty,pos,af,some (j,w)⟩::r) S k=grdK X md S ⟨d,op,ty,pos,af,some (j,w)⟩ all r k w (nY (grd all S j)):=by
 simp only[runK,gi,mj];generalize nY (grd all S j)=g;cases g with
 |skip=>rfl
 |bad=>rfl
 |qA t=>
  simp only[grdK];cases md with
  |true=>
   simp only[forkK,gdst];split
   ·exact vi _ _
   ·rfl
  |false=>
  simp only[forkK];generalize hs:stepv X.P S _=res;cases res with
  |val c x=>simp only[nz,guardK];split<;>rfl
  |cW c x e=>
   simp only[nz,guardK];split
   ·exact vi _ (.cW c x e)
   ·rfl
  |no=>
   simp only[nz,guardK];split
   ·exact vi _ .no
   ·rfl
theorem callK_ite {d:Option Nat} {c:Prop} [Decidable c] {a b:Option fK}:callK X md S d all r k (if c then a else b)=if c then callK X md S d all r k a else callK X md S d all r k b:=by split<;>rfl
end
theorem callBack_ite {m:Mem} {k0:Nat} {ρ B:List Nat} {c:Prop} [Decidable c] {a b:Option (Out×List (Nat×aD))}:callBack m k0 ρ B (if c then a else b)=if c then callBack m k0 ρ B a else callBack m k0 ρ B b:=by split<;>rfl
noncomputable def dcallK (X:Ctx) (md:Bool) (nd:Nat×List (List Nat)) (S:St) (d:Option Nat) (all r:List Oper) (acc:List aR) (k:Kt):Option fK→bU
 |some ⟨.ret x,es,ks⟩=>jr X md nd all r (({S with mem:=putAll S.mem es}:St).put d true x) (⟨ks,es,true,x⟩::acc) k
 |some ⟨.panic t x,es,ks⟩=>(panE X md nd all r d acc ⟨{S with mem:=putAll S.mem es},t,x,es,ks⟩).bind fun p=>k p.1 p.2
 |none=>none
noncomputable def dspecK (X:Ctx) (md:Bool) (nd:Nat×List (List Nat)) (S:St) (o:Oper) (all r:List Oper) (acc:List aR) (k:Kt):Op→bU
 | .call {callee:=.value fv,args,..}=>dcallK X md nd S o.dst all r acc k (callVal X (ai X) S o args.toList (S.opd fv))
 |_=>none
noncomputable def dstepK (X:Ctx) (md:Bool) (nd:Nat×List (List Nat)) (S:St) (o:Oper) (all r:List Oper) (acc:List aR) (k:Kt):dj→bU
 | .val c x=>if (opOk S o&&c)=true then jr X md nd all r (S.put o.dst true x) (⟨touch S o,[],true,x⟩::acc) k else none
 | .cW c x e=>if (opOk S o&&c&&(touch S o).contains e.key)=true then jr X md nd all r (({S with mem:=Mem.set S.mem e}:St).put o.dst true x) (⟨touch S o,[e],true,x⟩::acc) k else none
 | .no=>dspecK X md nd S o all r acc k o.op
noncomputable def dcallG (X:Ctx) (md:Bool) (nd:Nat×List (List Nat)) (S:St) (d:Option Nat) (all r:List Oper) (acc:List aR) (k:Kt):Option fK→bU
 |some ⟨.ret x,es,ks⟩=>jr X md nd all r (({S with mem:=putAll S.mem es}:St).put d true x) (⟨ks,es,true,x⟩::acc) k
 |_=>none
noncomputable def dspecG (X:Ctx) (md:Bool) (nd:Nat×List (List Nat)) (S:St) (o:Oper) (all r:List Oper) (acc:List aR) (k:Kt):Op→bU
 | .call {callee:=.value fv,args,..}=>dcallG X md nd S o.dst all r acc k (callVal X (ai X) S o args.toList (S.opd fv))
 |_=>none
noncomputable def dstepG (X:Ctx) (md:Bool) (nd:Nat×List (List Nat)) (S:St) (o:Oper) (all r:List Oper) (acc:List aR) (k:Kt):dj→bU
 | .val c x=>if (opOk S o&&c)=true then jr X md nd all r (S.put o.dst true x) (⟨touch S o,[],true,x⟩::acc) k else none
 | .cW c x e=>if (opOk S o&&c&&(touch S o).contains e.key)=true then jr X md nd all r (({S with mem:=Mem.set S.mem e}:St).put o.dst true x) (⟨touch S o,[e],true,x⟩::acc) k else none
 | .no=>dspecG X md nd S o all r acc k o.op
noncomputable def dguardK (X:Ctx) (md:Bool) (nd:Nat×List (List Nat)) (S:St) (o:Oper) (all r:List Oper) (acc:List aR) (k:Kt) (b:Bool):dj→bU
 | .val c x=>if b=true→(opOk S o&&c)=true then jr X md nd all r (S.put o.dst b x) (⟨touch S o,[],b,x⟩::acc) k else none
 | .cW c x e=>if b=true then dstepG X md nd S o all r acc k (.cW c x e)else jr X md nd all r (S.put o.dst true .aW) (⟨[],[],true,.aW⟩::acc) k
 | .no=>if b=true then dspecG X md nd S o all r acc k o.op else jr X md nd all r (S.put o.dst true .aW) (⟨[],[],true,.aW⟩::acc) k
noncomputable def dforkK (X:Ctx) (nd:Nat×List (List Nat)) (S:St) (o:Oper) (all r:List Oper) (acc:List aR) (k:Kt) (want t:Bool):Bool→bU
 |false=>dguardK X false nd S o all r acc k (t == want) (stepv X.P S o)
 |true=>if (t == want)=true then dstepG X true nd (S.cz (gdst all o) want) o all r acc k (stepv X.P (S.cz (gdst all o) want) o)else jr X true nd all r ((S.cz (gdst all o) (!want)).put o.dst true (.aU [])) (⟨[],[],true,.aU []⟩::acc) k
noncomputable def dgrdK (X:Ctx) (md:Bool) (nd:Nat×List (List Nat)) (S:St) (o:Oper) (all r:List Oper) (acc:List aR) (k:Kt) (want:Bool):GV→bU
 | .qA t=>dforkK X nd S o all r acc k want t md
 | .skip=>jr X md nd all r (S.put o.dst true (.aU [])) (⟨[],[],true,.aU []⟩::acc) k
 | .bad=>none
section
variable {X:Ctx} {f:FuncId} {S:St} {k:Kt} {all r:List Oper} {md:Bool} {nd:Nat×List (List Nat)} {acc:List aR}
theorem qb (o:Oper) (res:dj):(uR acc (dstep X (ai X) S o res) (gS X (ai X) md nd all r)).bind (fun p=>k p.1 p.2)=dstepG X md nd S o all r acc k res:=by
 cases res with
 |val c x=>simp only[dstep,dstepG];split<;>rfl
 |cW c x e=>simp only[dstep,dstepG];split<;>rfl
 |no=>
  simp only[dstep,dstepG,kE];split
  ·rename_i fv args hU ho;rw[ho];simp only[dspecG];rcases callVal X (ai X) S o args.toList (S.opd fv)with _|⟨out,es,ks⟩
   ·rfl
   ·cases out<;>rfl
  ·rename_i h1;unfold dspecG;split
   ·rename_i heq;exact absurd heq (h1 _ _ _)
   ·rfl
theorem pc (h:ordD nd.2 acc.reverse=true):jr X md nd all [] S acc k=k .normal S:=by
 simp only[jr,gS,h,if_true,Option.bind_some]
def revA:List aR→List aR→List aR
 |[],r=>r
 |x::l,r=>revA l (x::r)
theorem yq:∀(l r:List aR),revA l r=l.reverse++r
 |[],_=>rfl
 |x::l,r=>by rw[revA,yq l];simp
theorem xA {nd:List (List Nat)} {LI:List Cl}:yo X md nd LI all [] S acc k=if ordD nd (revA acc [])=true then k .normal S else none:=by
 simp only[yo,mF];rw[yq,List.append_nil];split<;>rfl
theorem aI:jr X md nd all [] S acc k=if ordD nd.2 (revA acc [])=true then k .normal S else none:=by
 rw[yq,List.append_nil];simp only[jr,gS];split<;>rfl
theorem drwK_cons {d:Option Tmp} {op:Op} {ty:TypeId} {pos:String} {af:Array Edge}:jr X md nd all (⟨d,op,ty,pos,af,none⟩::r) S acc k=dstepK X md nd S ⟨d,op,ty,pos,af,none⟩ all r acc k (stepv X.P S ⟨d,op,ty,pos,af,none⟩):=by
 simp only[jr,gS,ki];generalize ho:(⟨d,op,ty,pos,af,none⟩:Oper)=o;have hg:o.guard=none:=by subst ho;rfl
 have hd:dX X (ai X) md all S o=dstep X (ai X) S o (stepv X.P S o):=by unfold dX;rw[hg]
 generalize hs:stepv X.P S o=res;rw[hs]at hd;cases res with
 |val c x=>simp only[zS,mE,hd,dstepK];exact qb _ (.val c x)
 |cW c x e=>simp only[zS,mE,hd,dstepK];exact qb _ (.cW c x e)
 |no=>
  simp only[zS,FG,dstepK];split
  ·rename_i fv args hU cR;rw[cR];simp only[dspecK];cases hc:callVal X (ai X) S o args.toList (S.opd fv)with
   |none=>
    simp only[th,mE,hd,dstep,kE,cR,hc,dcallK];rfl
   |some res=>
    obtain⟨out,es,ks⟩:=res;cases out with
    |ret x=>
     simp only[th,mE,hd,dstep,kE,cR,hc,dcallK];rfl
    |panic t x=>rfl
  ·rename_i h1;simp only[mE,hd,dstep,kE];unfold dspecK;split
   ·rename_i heq;exact absurd heq (h1 _ _ _)
   ·rfl
theorem drwK_guard {d:Option Tmp} {op:Op} {ty:TypeId} {pos:String} {af:Array Edge} {j:Nat} {w:Bool}:jr X md nd all (⟨d,op,ty,pos,af,some (j,w)⟩::r) S acc k=dgrdK X md nd S ⟨d,op,ty,pos,af,some (j,w)⟩ all r acc k w (nY (grd all S j)):=by
 simp only[jr,gS,ki,mE,dX];generalize nY (grd all S j)=g;cases g with
 |skip=>rfl
 |bad=>rfl
 |qA t=>
  simp only[dgrdK];cases md with
  |true=>
   simp only[dforkK,gdst];split
   ·exact qb _ _
   ·rfl
  |false=>
  simp only[dforkK];generalize hs:stepv X.P S _=res;cases res with
  |val c x=>simp only[p7,dguardK];split<;>rfl
  |cW c x e=>
   simp only[p7,dguardK];split
   ·exact qb _ (.cW c x e)
   ·rfl
  |no=>
   simp only[p7,dguardK];split
   ·exact qb _ .no
   ·rfl
theorem dcallK_ite {d:Option Nat} {c:Prop} [Decidable c] {a b:Option fK}:dcallK X md nd S d all r acc k (if c then a else b)=if c then dcallK X md nd S d all r acc k a else dcallK X md nd S d all r acc k b:=by split<;>rfl
theorem dcallG_ite {d:Option Nat} {c:Prop} [Decidable c] {a b:Option fK}:dcallG X md nd S d all r acc k (if c then a else b)=if c then dcallG X md nd S d all r acc k a else dcallG X md nd S d all r acc k b:=by split<;>rfl
end
def callOk (n:Nat) (p:aM) (args:List AV) (cs:List aD):Bool:=
 decide (args.length≤n)&&decide (cs.length≤100)&&p.sites.all (fun k=>decide (100≤k))&&decide p.sites.Nodup
theorem ax {X:Ctx} {f:FuncId} {fn:Func} {c:Code} {args:List AV} {cs:List aD} {n:Nat} {rs:List ResultVar} {p:aM} (Bv:X.ov=none) (wu:X.zi f=none) (hf:X.P.funcs[f]?=some fn) (hb:fn.body=some c) (jG:xh c=false) (hn:fn.ntmps=n) (nM:fn.results.toList=rs)
 (hp:X.fp f=p) (hs:p.split=false) (dt:callOk n p args cs=true):ai X f args cs=aG X f c (entry n X.gl args cs p.sites) (Ct X.P p cs.length rs):=by
 subst hp;rw[Sn Bv wu hf hb jG,hs];simp only[runSplit,By];subst hn;subst nM;rw[if_pos (by simpa only[callOk]using dt)];simp only[aG];rcases fW X f c _ with _|⟨e,S⟩
 ·rfl
 ·cases e<;>rfl
attribute [simp] stepv.eq_1
attribute [simp] opOk.eq_1
attribute [simp] okAll.eq_1 okAll.eq_2
attribute [simp] Go.Op.operands.eq_1 Go.Op.operands.eq_2 Go.Op.operands.eq_3 Go.Op.operands.eq_4 Go.Op.operands.eq_5 Go.Op.operands.eq_6 Go.Op.operands.eq_7 Go.Op.operands.eq_8 Go.Op.operands.eq_9 Go.Op.operands.eq_10 Go.Op.operands.eq_11 Go.Op.operands.eq_12 Go.Op.operands.eq_13 Go.Op.operands.eq_14 Go.Op.operands.eq_15 Go.Op.operands.eq_16 Go.Op.operands.eq_17 Go.Op.operands.eq_18 Go.Op.operands.eq_19 Go.Op.operands.eq_20 Go.Op.operands.eq_21 Go.Op.operands.eq_22 Go.Op.operands.eq_23 Go.Op.operands.eq_24 Go.Op.operands.eq_25 Go.Op.operands.eq_26 Go.Op.operands.eq_27 Go.Op.operands.eq_28 Go.Op.operands.eq_29 Go.Op.operands.eq_30 Go.Op.operands.eq_31 Go.Op.operands.eq_32 Go.Op.operands.eq_33 Go.Op.operands.eq_34 Go.Op.operands.eq_35 Go.Op.operands.eq_36 Go.Op.operands.eq_37 Go.Op.operands.eq_38 Go.Op.operands.eq_39 Go.Op.operands.eq_40 Go.Op.operands.eq_41 Go.Op.operands.eq_42 Go.Op.operands.eq_43
attribute [simp] St.opd.eq_1 St.opd.eq_2 St.opd.eq_3 St.opd.eq_4
attribute [simp] Env.lk.eq_1 Env.lk.eq_2
attribute [simp] St.put.eq_1 St.put.eq_2
attribute [simp] Mem.get.eq_1 Mem.get.eq_2
attribute [simp] Mem.set.eq_1 Mem.set.eq_2
attribute [simp] AV.solid.eq_1 AV.solid.eq_2 AV.solid.eq_3
attribute [simp] constAV.eq_1 constAV.eq_2 constAV.eq_3 constAV.eq_4 constAV.eq_5 constAV.eq_6
attribute [simp] AV.cells.eq_1 AV.cells.eq_2 AV.cells.eq_3
attribute [simp] loadR.eq_1 loadR.eq_2 loadR.eq_3 loadR.eq_4 loadR.eq_5
attribute [simp] storeR.eq_1 storeR.eq_2 storeR.eq_3
attribute [simp] fieldRm.eq_1 nilCheckR.eq_1 nilCheckR.eq_2 nilCheckR.eq_3
attribute [simp] indexR.eq_1 indexR.eq_2
attribute [simp] binOpR.eq_1 binOpR.eq_2 binOpR.eq_3 binOpR.eq_4
attribute [simp] isNilV.eq_1 isNilV.eq_2 isNilV.eq_3 isNilV.eq_4
attribute [simp] binR.eq_1 binR.eq_2 binR.eq_3 binR.eq_4 binR.eq_5 binR.eq_6 binR.eq_7 binR.eq_8 binR.eq_9
attribute [simp] intBin.eq_1 intBin.eq_2 intBin.eq_3 intBin.eq_4 intBin.eq_5 intBin.eq_6 intBin.eq_7 intBin.eq_8 intBin.eq_9 intBin.eq_10 intBin.eq_11 intBin.eq_12 intBin.eq_13 intBin.eq_14 intBin.eq_15 intBin.eq_16
attribute [simp] strBin.eq_1 strBin.eq_2 strBin.eq_3 strBin.eq_4 strBin.eq_5 strBin.eq_6 strBin.eq_7 strBin.eq_8
attribute [simp] pickR.eq_1
attribute [simp] pickAV.eq_1 pickAV.eq_2
attribute [simp] pickD.eq_1 pickD.eq_2
attribute [simp] grd.eq_1
attribute [simp] mkAgg.eq_1
def L7 {α:Type} (y:α):Option (List α)→Option (List α)
 |some ys=>some (y::ys)
 |none=>none
@[simp] theorem acY {α:Type} (y:α) (ys:List α):L7 y (some ys)=some (y::ys):=rfl
@[simp] theorem acZ {α:Type} (y:α):L7 y none=none:=rfl
@[simp] theorem ah6:gp []=some []:=rfl
@[simp] theorem aoj (y r):gp (.d y::r)=L7 y (gp r):=by
 cases h:gp r with
 |none=>exact gp.eq_3 _ _ (fun _ _ _ h2=>by rw[h]at h2;cases h2)
 |some ys=>exact gp.eq_2 _ _ _ h
@[simp] theorem ah7 (a b c d r):gp (.vec a b c d::r)=none:=by rw[gp.eq_def]
@[simp] theorem ah8 (a b c r):gp (.ptr a b c::r)=none:=by rw[gp.eq_def]
@[simp] theorem ah9 (a r):gp (.lit a::r)=none:=by rw[gp.eq_def]
@[simp] theorem alN (a b r):gp (.fn a b::r)=none:=by rw[gp.eq_def]
@[simp] theorem alO (r):gp (.nn::r)=none:=by rw[gp.eq_def]
@[simp] theorem agk (r):gp (.aW::r)=none:=by rw[gp.eq_def]
attribute [simp] moveR.eq_1 moveR.eq_2
attribute [simp] unR.eq_1 unR.eq_2 unR.eq_3 unR.eq_4
attribute [simp] builtinR.eq_1 builtinR.eq_2 builtinR.eq_3 builtinR.eq_4 builtinR.eq_5 builtinR.eq_6 capR.eq_1
attribute [simp] lenRm.eq_1 lenRm.eq_2 lenRm.eq_3 lenRm.eq_4 lenRm.eq_5
attribute [simp] appR.eq_1
attribute [simp] appSrc.eq_1 appN.eq_1 appN.eq_2 appS.eq_1 appS.eq_2
attribute [simp] fzRes.eq_1 fzRes.eq_2
attribute [simp] srcRows.eq_1 srcRows.eq_2 srcRows.eq_3 srcRows.eq_4 srcRows.eq_5
attribute [simp] makeR.eq_1
attribute [simp] copyR.eq_1
attribute [simp] maxR.eq_1 maxR.eq_2
attribute [simp] foldMax.eq_1 foldMax.eq_2 foldMax.eq_3 foldMax.eq_4
attribute [simp] buildR.eq_1
attribute [simp] fillA.eq_1 fillA.eq_2
attribute [simp] buildSliceR.eq_1
attribute [simp] partDs.eq_1 partDs.eq_2
attribute [simp] convM.eq_1 convM.eq_2
attribute [simp] convR.eq_1 convR.eq_2 convR.eq_3 convR.eq_4 convR.eq_5 convR.eq_6
attribute [simp] makeIfaceR.eq_1
attribute [simp] makeFuncR.eq_1 makeFuncR.eq_2 makeFuncR.eq_3
attribute [simp] extractR.eq_1 extractR.eq_2 fieldVR.eq_1 fieldVR.eq_2 assertR.eq_1
attribute [simp] indexVR.eq_1 indexVR.eq_2 indexVR.eq_3 indexVR.eq_4
attribute [simp] sliceR.eq_1 sliceR.eq_2 sliceR.eq_3 sliceR.eq_4 sliceR.eq_5
attribute [simp] bound.eq_1 bound.eq_2 bound.eq_3
attribute [simp] putCells.eq_1 putCells.eq_2
attribute [simp] nilR.eq_1 nilR.eq_2 nilR.eq_3 nilR.eq_4 nilR.eq_5 nilR.eq_6 nilR.eq_7 nilR.eq_8 nilR.eq_9 nilR.eq_10 nilR.eq_11 nilR.eq_12
attribute [simp] D.cells.eq_1 D.cells.eq_2
attribute [simp] D.size.eq_1 D.size.eq_2
attribute [simp] D.flat.eq_1 D.flat.eq_2
attribute [simp] callVal.eq_1 callVal.eq_2
attribute [simp] argVals.eq_1 argVals.eq_2 fnId.eq_1 fnArgs.eq_1 fnIdN.eq_1 fnArgsN.eq_1 bnB.eq_1
attribute [simp] collect.eq_1 collect.eq_2 collect.eq_3
attribute [simp] argKeys.eq_1 argKeys.eq_2
attribute [simp] argBor.eq_1 argBor.eq_2
attribute [simp] avKeys.eq_1 avKeys.eq_2 avKeys.eq_3 avKeys.eq_4 avKeys.eq_5 avKeys.eq_6 avKeys.eq_7 avKeys.eq_8 avKeys.eq_9 avKeys.eq_10 avKeys.eq_11 avKeys.eq_12
attribute [simp] ptrKeys.eq_1 ptrKeys.eq_2 ptrKeys.eq_3 ptrKeys.eq_4 ptrKeys.eq_5 ptrKeys.eq_6 ptrKeys.eq_7
attribute [simp] vecKeys.eq_1 vecKeys.eq_2 vecKeys.eq_3 vecKeys.eq_4
attribute [simp] contKeys.eq_1 contKeys.eq_2
attribute [simp] vwArgs.eq_1 vwArgs.eq_2 nrm.eq_1 nrm.eq_2
attribute [simp] conts.eq_1 conts.eq_2
attribute [simp] selC.eq_1 selC.eq_2 selC.eq_3
attribute [simp] selE.eq_1 selE.eq_2
attribute [simp] findK.eq_1 findK.eq_2
attribute [simp] callBack.eq_1 callBack.eq_2
attribute [simp] frOk.eq_1 frOk.eq_2
attribute [simp] plainO.eq_1 plainO.eq_2
attribute [simp] plainL.eq_1 plainL.eq_2 plainL.eq_1 plainL.eq_2
attribute [simp] plainC.eq_1 plainC.eq_2 plainC.eq_3
attribute [simp] plainAV.eq_1 plainAV.eq_2 plainAV.eq_3 plainAV.eq_4 plainAV.eq_5 plainAV.eq_6 plainAV.eq_7 plainAV.eq_8 plainAV.eq_9 plainAV.eq_10 plainAV.eq_11 plainAV.eq_12
attribute [simp] plainD.eq_1 plainD.eq_2 plainD.eq_3 plainD.eq_4 plainD.eq_5 plainD.eq_6
attribute [simp] upO.eq_1 upO.eq_2
attribute [simp] up.eq_1 up.eq_2 up.eq_3 up.eq_4 up.eq_5 up.eq_6 up.eq_7 up.eq_8 up.eq_9 up.eq_10 up.eq_11 up.eq_12
attribute [simp] upC.eq_1 upC.eq_2 upC.eq_3
attribute [simp] backL.eq_1 backL.eq_2
attribute [simp] base.eq_1 base.eq_2
attribute [simp] putAll.eq_1 putAll.eq_2
attribute [simp] ghs.eq_1 ghs.eq_2
attribute [simp] Gh.go.eq_1 Gh.go.eq_2 Gh.go.eq_3 Gh.go.eq_4
attribute [simp] St.rekey.eq_1 rkAV.eq_1 rkAV.eq_2 mapB.eq_1 mapB.eq_2 boxD.eq_1 boxD.eq_2 flats.eq_1 flats.eq_2
attribute [simp] finish.eq_1
attribute [simp] resAll.eq_1 resAll.eq_2
attribute [simp] resOne.eq_1 resOne.eq_2
attribute [simp] finKeys.eq_1
attribute [simp] St.trim1.eq_1
attribute [simp] refMem.eq_1 refMem.eq_2 refMem.eq_3
attribute [simp] refEnv.eq_1 refEnv.eq_2
attribute [simp] refAV.eq_1 refAV.eq_2 refAV.eq_3 refAV.eq_4 refAV.eq_5 refAV.eq_6 refAV.eq_7 refAV.eq_8 refAV.eq_9 refAV.eq_10 refAV.eq_11 refAV.eq_12
attribute [simp] St.trim.eq_1
attribute [simp] mapEnv.eq_1 mapEnv.eq_2
attribute [simp] mapM.eq_1 mapM.eq_2
attribute [simp] mapC.eq_1 mapC.eq_2 mapC.eq_3
attribute [simp] trAV.eq_1 trAV.eq_2 trAV.eq_3 trAV.eq_4 trAV.eq_5 trAV.eq_6 trAV.eq_7 trAV.eq_8 trAV.eq_9 trAV.eq_10 trAV.eq_11 trAV.eq_12
attribute [simp] envVals.eq_1 envVals.eq_2
attribute [simp] oneOf.eq_1 oneOf.eq_2
attribute [simp] AV.norm.eq_1 AV.norm.eq_2 AV.norm.eq_3 AV.norm.eq_4
attribute [simp] toD1.eq_1 toD1.eq_2 toD1.eq_3 toD1.eq_4
attribute [simp] toDsN.eq_1 toDsN.eq_2
attribute [simp] vw.eq_1 vw.eq_2 vw.eq_3 vw.eq_4 vw.eq_5 vw.eq_6 vw.eq_7 vw.eq_8 vw.eq_9 vw.eq_10 vw.eq_11 vw.eq_12
attribute [simp] selL.eq_1 selL.eq_2
attribute [simp] TK.agg.eq_1 TK.agg.eq_2 TK.agg.eq_3
attribute [simp] stepK.eq_1 stepK.eq_2 stepK.eq_3
attribute [simp] guardK.eq_1 guardK.eq_2 guardK.eq_3
attribute [simp] grdK.eq_1 grdK.eq_2 grdK.eq_3
attribute [simp] specK.eq_1 specK.eq_2 specK.eq_3
attribute [simp] callK.eq_1 callK.eq_2 callK.eq_3
attribute [simp] panicK.eq_1 panicK.eq_2
attribute [simp] isB.eq_1 isB.eq_2
attribute [simp] boolOf.eq_1 boolOf.eq_2
attribute [simp] boxR.eq_1
attribute [simp] allocR.eq_1 arrR.eq_1 isZ.eq_1 isZ.eq_2 zeroOf.eq_1 zeroOf.eq_2 zeroOf.eq_3
attribute [simp] St.trims.eq_1 St.trims.eq_2
attribute [simp] vws.eq_1 vws.eq_2
attribute [simp] plainAVs.eq_1 plainAVs.eq_2
attribute [simp] plainDs.eq_1 plainDs.eq_2
attribute [simp] ups.eq_1 ups.eq_2
attribute [simp] refAVs.eq_1 refAVs.eq_2
attribute [simp] trAVs.eq_1 trAVs.eq_2
attribute [simp] avsKeys.eq_1 avsKeys.eq_2
attribute [simp] ptrsKeys.eq_1 ptrsKeys.eq_2
attribute [simp] vecsKeys.eq_1 vecsKeys.eq_2
attribute [simp] entryEnv.eq_1 entryEnv.eq_2
attribute [simp] inM.eq_1 inM.eq_2
attribute [simp] runSplit.eq_1 runSplit.eq_2 runSplit.eq_3
attribute [simp] emptyVec.eq_1 emptyVec.eq_2
attribute [simp] splitRun.eq_1
attribute [simp] touch.eq_1 topsOf.eq_1 topsOf.eq_2 topsOf.eq_3
attribute [simp] keysTop.eq_1 keysTop.eq_2
attribute [simp] keyTop.eq_1 keyTop.eq_2 keyTop.eq_3 keyTop.eq_4
attribute [simp] dstepK.eq_1 dstepK.eq_2 dstepK.eq_3
attribute [simp] dguardK.eq_1 dguardK.eq_2 dguardK.eq_3
attribute [simp] dgrdK.eq_1 dgrdK.eq_2 dgrdK.eq_3
attribute [simp] dspecK.eq_1 dspecK.eq_2 dstepG.eq_1 dstepG.eq_2 dstepG.eq_3 dspecG.eq_1 dspecG.eq_2 dcallG.eq_1 dcallG.eq_2
attribute [simp] dcallK.eq_1 dcallK.eq_2 dcallK.eq_3
attribute [simp] fzAV.eq_1 fzAV.eq_2 fzAV.eq_3 fzAV.eq_4 fzAV.eq_5 fzAV.eq_6 fzAV.eq_7 fzAV.eq_8 fzAV.eq_9 fzAV.eq_10 fzAV.eq_11 fzAV.eq_12
attribute [simp] fzAVs.eq_1 fzAVs.eq_2
attribute [simp] St.freeze.eq_1
attribute [simp] St.adopt.eq_1
attribute [simp] Go.Call.operands.eq_1
attribute [simp] D.isByte.eq_1 D.isByte.eq_2
attribute [simp] eqFlat.eq_1 eqFlat.eq_2 eqFlat.eq_3 eqFlat.eq_4
attribute [simp] eqFlats.eq_1 eqFlats.eq_2 eqFlats.eq_3
attribute [simp] glk.eq_1 glk.eq_2
attribute [simp] denK_skip denK_exit denK_ret denK_seq denK_block denK_condT denK_condC denK_region denK_draw drwKA_n seqK_n seqK_x seqK_r seqK_p blkK_n blkK_x blkK_r blkK_p loopK_n loopK_x loopK_r loopK_p leaveK_n leaveK_p finK_n finK_r finK_p runK_nil runK_cons runK_guard callK_ite callBack_ite drwK_cons drwK_guard dcallK_ite dcallG_ite
attribute [simp] frzO.eq_1 frzO.eq_2 frzR.eq_1 frzR.eq_2 mkM.eq_1 mkM.eq_2
attribute [simp] forkK.eq_1 forkK.eq_2
attribute [simp] dforkK.eq_1 dforkK.eq_2
attribute [simp] gdst.eq_1
attribute [simp] Env.kn.eq_1 Env.kn.eq_2 St.kn.eq_1
attribute [simp] ordD.eq_1 ordL.eq_1 ordL.eq_2 ordL.eq_3 ordE.eq_1 ordE.eq_2 ordK.eq_1 ordK.eq_2 revA.eq_1 revA.eq_2 disj.eq_1
attribute [simp] orcAns.eq_1 orcAns.eq_2 liftO.eq_1
@[simp] theorem aok (t:Bool):nY (some (true,.d (.bool t)))=.qA t:=rfl
@[simp] theorem aol:nY (some (true,.aU []))=.skip:=rfl
attribute [simp] dstAt.eq_1
attribute [simp] St.cz St.prune keyOf St.leave finVals finTrim finOut St.mapAll nvX nv0 callOk entry dead callOp callOp2 callOp3 D.at D.cell D.setCells finPanic
@[simp] theorem ac0 (m ρ bor nv):∀ds:List D,vws m ρ bor nv (ds.map .d)=ds.map .d
 |[]=>rfl
 |d::r=>by simp[ac0 m ρ bor nv r]
@[simp] theorem ac1 (ρ bs):∀ds:List D,ups ρ bs (ds.map .d)=ds.map .d
 |[]=>rfl
 |d::r=>by simp[ac1 ρ bs r]
@[simp] theorem O9:∀ds:List D,avsKeys (ds.map .d)=[]
 |[]=>rfl
 |d::r=>by simp[O9 r]
@[simp] theorem So (k v):∀ds:List D,refAVs k v (ds.map .d)=none
 |[]=>rfl
 |d::r=>by simp[So k v r]
@[simp] theorem Wg (k v o l):∀ds:List D,trAVs k v o l (ds.map .d)=ds.map .d
 |[]=>rfl
 |d::r=>by simp[Wg k v o l r]
@[simp] theorem L8:∀ds:List D,plainAVs (ds.map .d)=plainDs ds
 |[]=>rfl
 |d::r=>by simp[L8 r]
attribute [simp] List.take_of_length_le
@[simp] def Code.at:Code→List Nat→Code
 |c,[]=>c
 | .seq a b,i::p=>if i=0 then Code.at a p else Code.at b p
 | .cond _ a b,i::p=>if i=0 then Code.at a p else Code.at b p
 | .block _ c,_::p=>Code.at c p
 | .loop c,_::p=>Code.at c p
 |c,_=>c
@[simp] theorem alP:List.range 2=[0,1]:=rfl
@[simp] theorem alQ:List.range 3=[0,1,2]:=rfl
@[simp] theorem alR:List.range 4=[0,1,2,3]:=rfl
@[simp] theorem alS:List.range 5=[0,1,2,3,4]:=rfl
@[simp] theorem alT:List.range 6=[0,1,2,3,4,5]:=rfl
@[simp] theorem alU (a b:Int):(a == b)=decide (a=b):=by by_cases h:a=b<;>simp[h]
def aZ (n:Int):Prop:= -9223372036854775808≤n∧n≤9223372036854775807
theorem ay {n:Int} (h:aZ n):IntKind.i64.wrap n=n:=IntWalk.i64_in _ (by unfold aZ at h;omega)
def q1 (m:Nat):Nat:=m/4294967296%4294967296
def q2 (m:Nat):Nat:=m/18446744073709551616%4294967296
def q3 (m:Nat):Nat:=m/79228162514264337593543950336%4294967296
def kF (z:Int):Int×Bool:=if-9223372036854775808≤z∧z≤9223372036854775807 then (z,true)else (0,false)
def xB (a b:Int):Int×Int:=if b=0 then (0,3)else if a= -9223372036854775808∧b= -1 then (0,2)else (a.tdiv b,0)
def Af (a b:Int):Int×Int:=if b=0 then (0,3)else (a.tmod b,0)
theorem Gg (a b:Int):a.tdiv b=(if decide (a<0)=decide (b<0)then ((a.natAbs/b.natAbs:Nat):Int)else-((a.natAbs/b.natAbs:Nat):Int)):=by
 rcases Int.lt_or_le a 0 with ha|ha<;>rcases Int.lt_or_le b 0 with hb|hb
 ·rw[if_pos (by simp[ha,hb])];obtain⟨m,rfl⟩:∃m:Nat,a= -(m:Int):=⟨a.natAbs,by omega⟩;obtain⟨n,rfl⟩:∃n:Nat,b= -(n:Int):=⟨b.natAbs,by omega⟩;simp[Int.neg_tdiv,Int.tdiv_neg]
 ·rw[if_neg (by simp[ha];omega)];obtain⟨m,rfl⟩:∃m:Nat,a= -(m:Int):=⟨a.natAbs,by omega⟩;obtain⟨n,rfl⟩:∃n:Nat,b=(n:Int):=⟨b.natAbs,by omega⟩;simp[Int.neg_tdiv]
 ·rw[if_neg (by simp[hb];omega)];obtain⟨m,rfl⟩:∃m:Nat,a=(m:Int):=⟨a.natAbs,by omega⟩;obtain⟨n,rfl⟩:∃n:Nat,b= -(n:Int):=⟨b.natAbs,by omega⟩;simp[Int.tdiv_neg]
 ·rw[if_pos (by simp;omega)];obtain⟨m,rfl⟩:∃m:Nat,a=(m:Int):=⟨a.natAbs,by omega⟩;obtain⟨n,rfl⟩:∃n:Nat,b=(n:Int):=⟨b.natAbs,by omega⟩;simp
theorem Wh (a b:Int):a*b=(if decide (a<0)=decide (b<0)then ((a.natAbs*b.natAbs:Nat):Int)else-((a.natAbs*b.natAbs:Nat):Int)):=by
 rcases Int.lt_or_le a 0 with ha|ha<;>rcases Int.lt_or_le b 0 with hb|hb
 ·rw[if_pos (by simp[ha,hb])];obtain⟨m,rfl⟩:∃m:Nat,a= -(m:Int):=⟨a.natAbs,by omega⟩;obtain⟨n,rfl⟩:∃n:Nat,b= -(n:Int):=⟨b.natAbs,by omega⟩;simp[Int.neg_mul,Int.mul_neg]
 ·rw[if_neg (by simp[ha];omega)];obtain⟨m,rfl⟩:∃m:Nat,a= -(m:Int):=⟨a.natAbs,by omega⟩;obtain⟨n,rfl⟩:∃n:Nat,b=(n:Int):=⟨b.natAbs,by omega⟩;simp[Int.neg_mul]
 ·rw[if_neg (by simp[hb];omega)];obtain⟨m,rfl⟩:∃m:Nat,a=(m:Int):=⟨a.natAbs,by omega⟩;obtain⟨n,rfl⟩:∃n:Nat,b= -(n:Int):=⟨b.natAbs,by omega⟩;simp[Int.mul_neg]
 ·rw[if_pos (by simp;omega)];obtain⟨m,rfl⟩:∃m:Nat,a=(m:Int):=⟨a.natAbs,by omega⟩;obtain⟨n,rfl⟩:∃n:Nat,b=(n:Int):=⟨b.natAbs,by omega⟩;simp
def dJ (b:Bool):Int:=if b=true then 1 else 0
@[simp] def IY (p:Int×Bool×Int):AV:=.aU [.d (.int .i64 p.1),.d (.bool p.2.1),.d (.int .i64 p.2.2)]
def kZ:Int×Bool×Int:=(0,false, -1)
def tE (p:Int×Bool):Int×Bool×Int:=if p.2=true then (p.1,false,0)else (0,false,2)
def pe (p:Int×Int):Int×Bool×Int:=if p.2=3 then (0,false,1)else if p.2=0 then (p.1,false,0)else (0,false,2)
def qC (op a:Int) (t:Bool):Int×Bool×Int:=
 if t=true then (if a≠0∧a≠1 then kZ else if op=7 then (dJ (decide (a=0)),true,0)else kZ)
 else if op=6 then tE (kF (0-a))else kZ
def Gi (op a b:Int):Int×Bool×Int:=
 if op=13 then (dJ (decide (a=b)),true,0)else if op=14∨op=20 then (dJ (decide (a≠b)),true,0)
 else if op=19 then (dJ (decide (a=1∧b=1)),true,0)else if op=21 then (dJ (decide (a=1∨b=1)),true,0)else kZ
def BB (op a b:Int):Int×Bool×Int:=
 if op=8 then tE (kF (a+b))else if op=9 then tE (kF (a-b))else if op=10 then tE (kF (a*b))else if op=11 then pe (xB a b)else if op=12 then pe (Af a b)
 else if op=13 then (dJ (decide (a=b)),true,0)else if op=14 then (dJ (decide (a≠b)),true,0)else if op=15 then (dJ (decide (a<b)),true,0)
 else if op=16 then (dJ (decide (b<a)),true,0)else if op=17 then (dJ (decide (a≤b)),true,0)else if op=18 then (dJ (decide (b≤a)),true,0)else kZ
def ub (op a b:Int) (t:Bool):Int×Bool×Int:=
 if t=true then (if (a≠0∧a≠1)∨(b≠0∧b≠1)then kZ else Gi op a b)else BB op a b
def Pa (e b:Int):Int:=if e<b then e+1 else e
def ac2 (k a b q e:Int):List Int:=
 if k=10 then (if a=0 then [a,b,0,0]else [a,b,dJ (decide (b≤Pa e b)),Pa e b])
 else if k=11 then (if a=0 then (if q=0 then [a,b,q,e]else [a,b,dJ (decide (Pa e b<b)),Pa e b])else [a,b,1,0])
 else [a,b,q,e]
def tpS (a b q e p r:Int):List Int:=
 let r1:=if a≠0∧p=0∧r=0 then 1 else r
 let e1:=if a≠0∧p=0∧r=0 then 0 else e
 if r1=0 then [a,b,q,e1,dJ (decide (a≠0)),r1]else [a,b,dJ (decide (e1<b)),Pa e1 b,dJ (decide (a≠0)),dJ (decide (e1<b))]
def cuS (a s v q c p:Int):List Int:=
 let c1:=if s≠0 then 0 else if a≠0∧p=0∧c<9223372036854775807 then c+1 else c
 [a,s,v,dJ (decide (v≤c1)),c1,dJ (decide (a≠0))]
def cdS (a s v q c p:Int):List Int:=
 let c1:=if s≠0 then v else if a≠0∧p=0∧ -9223372036854775808<c then c-1 else c
 [a,s,v,dJ (decide (c1≤0)),c1,dJ (decide (a≠0))]
def ac3 (k a b q e p r:Int):List Int:=
 if k=12 then tpS a b q e p r else if k=13 then cuS a b q e p r else if k=14 then cdS a b q e p r else [a,b,q,e,p,r]
def ac4 (k a b q:Int):List Int:=
 if k=15 then [a,dJ (decide (a≠0∧q=0)),dJ (decide (a≠0))]else if k=16 then [a,dJ (decide (a=0∧q≠0)),dJ (decide (a≠0))]
 else if k=17 then [a,b,dJ (decide (a≠0∨(q≠0∧b=0)))]else if k=18 then [a,b,dJ (decide (b=0∧(q≠0∨a≠0)))]else [a,b,q]
def ac5 (k:Int):List Int→List Int
 |[a,b,q]=>ac4 k a b q
 |[a,b,q,e]=>ac2 k a b q e
 |[a,b,q,e,p,r]=>ac3 k a b q e p r
 |c=>c
end Go.Am
end
section
namespace Go.Am
inductive Ends (succ:Nat→List Nat):Nat→Prop
 |mk (i:Nat) (h:∀j∈succ i,Ends succ j):Ends succ i
inductive Way (succ:Nat→List Nat):Nat→Nat→Prop
 |one {i j} (h:j∈succ i):Way succ i j
 |more {i j k} (h:Way succ i j) (h2:k∈succ j):Way succ i k
theorem Way.trans {succ:Nat→List Nat} {i j k:Nat} (h:Way succ i j) (h2:Way succ j k):Way succ i k:=by
 induction h2 with
 |one h3=>exact .more h h3
 |more _ h3 ih=>exact .more ih h3
theorem Ends.way {succ:Nat→List Nat} {i j:Nat} (h:Ends succ i) (w:Way succ i j):Ends succ j:=by
 induction w with
 |one h2=>cases h with|mk _ h=>exact h _ h2
 |more _ h2 ih=>cases ih with|mk _ h=>exact h _ h2
theorem Ends.Sp {succ:Nat→List Nat} {i:Nat} (h:Ends succ i):¬Way succ i i:=by
 induction h with
 |mk i h ih=>
  intro w
  --vK first step of vK way
  have first:∀{a b},Way succ a b→∃c∈succ a,c=b∨Way succ c b:=by
   intro a b w;induction w with
   |one h=>exact⟨_,h,.inl rfl⟩
   |more _ h2 ih=>
    obtain⟨c,hc,h3⟩:=ih;rcases h3 with rfl|h3
    ·exact⟨_,hc,.inr (.one h2)⟩
    ·exact⟨_,hc,.inr (.more h3 h2)⟩
  obtain⟨c,hc,h3⟩:=first w
  rcases h3 with rfl|h3
  ·exact ih _ hc w
  ·exact ih c hc (h3.trans (.one hc))
mutual
def iT (succ:Nat→List Nat):Nat→Nat→List Nat→Bool×List Nat
 |0,_,seen=>(true,seen)
 |f+1,at_,seen=>if seen.getD at_ 0≠0 then (seen.getD at_ 0 == 1,seen)else
  match iE succ f (succ at_) (seen.set at_ 1)with
  |(true,s)=>(true,s)
  |(false,s)=>(false,s.set at_ 2)
def iE (succ:Nat→List Nat):Nat→List Nat→List Nat→Bool×List Nat
 |_,[],seen=>(false,seen)
 |f,n::r,seen=>match iT succ f n seen with
  |(true,s)=>(true,s)
  |(false,s)=>iE succ f r s
end
def fresh (seen:List Nat):Nat:=seen.countP (·== 0)
structure n8 (succ:Nat→List Nat) (seen yr:List Nat):Prop where
 len:yr.length=seen.length
 Cv:∀i,yr.getD i 0=1↔seen.getD i 0=1
 black:∀i,seen.getD i 0=2→yr.getD i 0=2
 Gj:(∀i,seen.getD i 0≤2)→∀i,yr.getD i 0≤2
 ends:(∀i,seen.getD i 0=2→Ends succ i)→∀i,yr.getD i 0=2→Ends succ i
 fresh:fresh yr≤fresh seen
theorem n8.refl (succ:Nat→List Nat) (s:List Nat):n8 succ s s:=⟨rfl,fun _=>Iff.rfl,fun _ h=>h,fun h=>h,fun h=>h,Nat.le_refl _⟩
theorem n8.trans {succ:Nat→List Nat} {a b c:List Nat} (h:n8 succ a b) (k:n8 succ b c):n8 succ a c:=
 ⟨by rw[k.len,h.len],fun i=>(k.Cv i).trans (h.Cv i),fun i hi=>k.black i (h.black i hi),fun hv=>k.Gj (h.Gj hv),fun he=>k.ends (h.ends he),Nat.le_trans k.fresh h.fresh⟩
theorem iF (l:List Nat) (i j v:Nat):(l.set i v).getD j 0=if i=j∧i<l.length then v else l.getD j 0:=by
 simp only[List.getD_eq_getElem?_getD,List.getElem?_set];by_cases h:i=j
 ·subst h;by_cases h2:i<l.length
  ·simp[h2]
  ·simp[h2]
 ·simp[h]
theorem DH {l:List Nat} {i v:Nat} (h:l.getD i 0=0) (hi:i<l.length) (hv:v≠0):fresh (l.set i v)+1=fresh l:=by
 induction l generalizing i with
 |nil=>simp at hi
 |cons x r ih=>
  cases i with
  |zero=>
   simp at h;subst h;simp[fresh,hv]
  |succ i=>
   have h1:=ih (i:=i) (by simpa using h) (by simpa using hi);unfold fresh at h1⊢;simp only[List.set_cons_succ,List.countP_cons];omega
theorem rM {l:List Nat} {i v:Nat} (hv:v≠0):fresh (l.set i v)≤fresh l:=by
 induction l generalizing i with
 |nil=>simp
 |cons x r ih=>
  cases i with
  |zero=>
   simp only[fresh,List.set_cons_zero,List.countP_cons];simp[hv]
  |succ i=>
   have h1:=ih (i:=i);unfold fresh at h1⊢;simp only[List.set_cons_succ,List.countP_cons];omega
def YC (succ:Nat→List Nat) (seen:List Nat) (at_:Nat):Prop:=∀i,seen.getD i 0=1→Way succ i at_
theorem IZ (succ:Nat→List Nat):∀f:Nat,
 (∀at_ seen,fresh seen<f→at_<seen.length→(∀i<seen.length,∀j∈succ i,j<seen.length)→(∀i,seen.getD i 0≤2)→YC succ seen at_→
  ((iT succ f at_ seen).1=true→∃i,i<seen.length∧Way succ i i)∧((iT succ f at_ seen).1=false→n8 succ seen (iT succ f at_ seen).2∧(iT succ f at_ seen).2.getD at_ 0=2))∧
 (∀l at_ seen,fresh seen<f→(∀n∈l,n∈succ at_)→(∀n∈l,n<seen.length)→seen.getD at_ 0=1→(∀i<seen.length,∀j∈succ i,j<seen.length)→(∀i,seen.getD i 0≤2)→(∀i,seen.getD i 0=1→i=at_∨Way succ i at_)→
  ((iE succ f l seen).1=true→∃i,i<seen.length∧Way succ i i)∧((iE succ f l seen).1=false→n8 succ seen (iE succ f l seen).2∧∀n∈l,(iE succ f l seen).2.getD n 0=2))
 |0=>⟨fun _ _ h=>by omega,fun _ _ _ h=>by omega⟩
 |f+1=>by
  have hd:∀at_ seen,fresh seen<f+1→at_<seen.length→(∀i<seen.length,∀j∈succ i,j<seen.length)→(∀i,seen.getD i 0≤2)→YC succ seen at_→
   ((iT succ (f+1) at_ seen).1=true→∃i,i<seen.length∧Way succ i i)∧((iT succ (f+1) at_ seen).1=false→n8 succ seen (iT succ (f+1) at_ seen).2∧(iT succ (f+1) at_ seen).2.getD at_ 0=2):=by
   intro at_ seen hf hl hs hv n9;have ihL:=(IZ succ f).2 (succ at_) at_ (seen.set at_ 1);unfold iT;by_cases h0:seen.getD at_ 0≠0
   ·rw[if_pos h0];refine⟨fun h=>⟨at_,hl,n9 at_ (by simpa using h)⟩,fun h=>⟨n8.refl _ _,?_⟩⟩;have:=hv at_;simp only[beq_eq_false_iff_ne]at h;simp only
    omega
   ·rw[if_neg h0];have lM:seen.getD at_ 0=0:=by omega
    have vQ:=DH (v:=1) lM hl (by decide);have hL:=ihL (by omega) (fun n h=>h) (fun n h=>by simpa using hs at_ hl n h) (by rw[iF];simp[hl]) (by simpa using hs)
     (fun i=>by rw[iF];split;omega;exact hv i)
     (fun i hi=>by
      rw[iF]at hi;split at hi
      ·rename_i h;exact .inl h.1.symm
      ·exact .inr (n9 i hi))
    obtain⟨s,b,he⟩:∃s b,iE succ f (succ at_) (seen.set at_ 1)=(b,s):=⟨_,_,rfl⟩;rw[he]at hL⊢;cases b with
    |true=>exact⟨fun _=>by simpa using hL.1 rfl,fun h=>by simp at h⟩
    |false=>
     refine⟨fun h=>by simp at h,fun _=>?_⟩;obtain⟨ok,cZ⟩:=hL.2 rfl;simp only at ok cZ⊢;have hlen:s.length=seen.length:=by rw[ok.len];simp
     refine⟨⟨by simp[hlen],fun i=>?_,fun i hi=>?_,fun _ i=>?_,fun L9 i hi=>?_,?_⟩,by rw[iF];simp[hlen,hl]⟩
     ·rw[iF];by_cases hi:at_=i
      ·subst hi;simp only[hlen,hl,and_self,if_true,lM];omega
      ·simp only[hi,false_and,if_false];rw[ok.Cv i,iF];simp[hi]
     ·rw[iF];split
      ·rfl
      ·refine ok.black i ?_;rw[iF];split
       ·rename_i h;rw[←h.1,lM]at hi;omega
       ·exact hi
     ·rw[iF];split
      ·omega
      ·refine ok.Gj (fun i=>?_) i;rw[iF];split;omega;exact hv i
     ·have UH:∀i,s.getD i 0=2→Ends succ i:=ok.ends (fun i hi=>by
       rw[iF]at hi;split at hi
       ·omega
       ·exact L9 i hi)
      rw[iF]at hi;split at hi
      ·rename_i h;rw[←h.1];exact .mk _ (fun j hj=>UH j (cZ j hj))
      ·exact UH i hi
     ·have h1:=rM (l:=s) (i:=at_) (v:=2) (by decide);have h2:=ok.fresh;omega
  refine⟨hd,?_⟩;intro l;induction l with
  |nil=>
   intro at_ seen _ _ _ _ _ _ _;unfold iE;exact⟨fun h=>by simp at h,fun _=>⟨n8.refl _ _,fun n h=>by simp at h⟩⟩
  |cons n r ih=>
   intro at_ seen hf fq cg fg hs hv n9;have h1:=hd n seen hf (cg n (by simp)) hs hv (fun i hi=>by
    have hn:=fq n (by simp);rcases n9 i hi with rfl|h
    ·exact .one hn
    ·exact .more h hn)
   unfold iE;obtain⟨s,b,he⟩:∃s b,iT succ (f+1) n seen=(b,s):=⟨_,_,rfl⟩;rw[he]at h1⊢;cases b with
   |true=>exact⟨fun _=>h1.1 rfl,fun h=>by simp at h⟩
   |false=>
    obtain⟨ok,my⟩:=h1.2 rfl;simp only at ok my⊢;have h2:=ih at_ s (Nat.lt_of_le_of_lt ok.fresh hf) (fun m hm=>fq m (by simp[hm])) (fun m hm=>by rw[ok.len];exact cg m (by simp[hm])) ((ok.Cv at_).2 fg)
     (by rw[ok.len];exact hs) (ok.Gj hv) (fun i hi=>n9 i ((ok.Cv i).1 hi))
    refine⟨fun h=>by have:=h2.1 h;rwa [ok.len]at this,fun h=>?_⟩;obtain⟨ok2,cZ⟩:=h2.2 h;refine⟨ok.trans ok2,fun m hm=>?_⟩;rcases List.mem_cons.1 hm with rfl|hm
    ·exact ok2.black _ my
    ·exact cZ m hm
def rounds (succ:Nat→List Nat) (f:Nat):List Nat→List Nat→Bool
 |[],_=>false
 |n::r,seen=>match iT succ f n seen with
  |(true,_)=>true
  |(false,s)=>rounds succ f r s
theorem Ma (succ:Nat→List Nat) (N f:Nat) (hf:N<f) (hs:∀i<N,∀j∈succ i,j<N):
 rounds succ f (List.range N) (List.replicate N 0)=true↔∃i<N,¬Ends succ i:=by
 have key:∀(l:List Nat) (seen:List Nat),seen.length=N→(∀n∈l,n<N)→(∀i,seen.getD i 0≠1)→(∀i,seen.getD i 0≤2)→(∀i,seen.getD i 0=2→Ends succ i)→(∀i<N,i∈l∨seen.getD i 0=2)→
  (rounds succ f l seen=true↔∃i<N,¬Ends succ i):=by
  intro l;induction l with
  |nil=>
   intro seen _ _ _ _ he cZ;unfold rounds;refine⟨fun h=>by simp at h,?_⟩;rintro ⟨i,hi,hn⟩;rcases cZ i hi with h|h
   ·simp at h
   ·exact absurd (he i h) hn
  |cons n r ih=>
   intro seen hl cg hg hv he cZ;have vQ:fresh seen≤seen.length:=List.countP_le_length;have h1:=(IZ succ f).1 n seen (by omega) (by rw[hl];exact cg n (by simp)) (by rw[hl];exact hs) hv (fun i hi=>absurd hi (hg i));unfold rounds;obtain⟨s,b,hd⟩:∃s b,iT succ f n seen=(b,s):=⟨_,_,rfl⟩;rw[hd]at h1⊢;cases b with
   |true=>
    refine⟨fun _=>?_,fun _=>rfl⟩;obtain⟨i,hi,w⟩:=h1.1 rfl;exact⟨i,by omega,fun h=>h.Sp w⟩
   |false=>
    obtain⟨ok,my⟩:=h1.2 rfl;simp only at ok my⊢;refine ih s (by rw[ok.len,hl]) (fun m hm=>cg m (by simp[hm])) (fun i hi=>hg i ((ok.Cv i).1 hi)) (ok.Gj hv) (ok.ends he) (fun i hi=>?_);rcases cZ i hi with h|h
    ·rcases List.mem_cons.1 h with rfl|h
     ·exact .inr my
     ·exact .inl h
    ·exact .inr (ok.black i h)
 refine key _ _ (by simp) (by simp) (fun i=>?_) (fun i=>?_) (fun i hi=>?_) (fun i hi=>.inl (by simpa using hi))
 ·simp[List.getD_eq_getElem?_getD,List.getElem?_replicate];split<;>simp
 ·simp[List.getD_eq_getElem?_getD,List.getElem?_replicate];split<;>simp
 ·simp[List.getD_eq_getElem?_getD,List.getElem?_replicate]at hi;split at hi<;>simp at hi
def left (g:List Bool):Nat:=g.countP (·== false)
structure vj (succ:Nat→List Nat) (s s':List Bool×Bool):Prop where
 len:s'.1.length=s.1.length
 ends:(∀i<s.1.length,s.1.getD i true=true→Ends succ i)→∀i<s.1.length,s'.1.getD i true=true→Ends succ i
 less:s'.2=true→s.2=false→left s'.1<left s.1
 le:left s'.1≤left s.1
 more:s.2=true→s'.2=true
 same:s'.2=false→s'=s
theorem vj.trans {succ:Nat→List Nat} {a b c:List Bool×Bool} (h:vj succ a b) (k:vj succ b c):vj succ a c:=
 ⟨by
  rw[k.len,h.len],fun he=>by have:=k.ends;rw[h.len]at this;exact this (h.ends he),fun h1 h2=>by
  cases hb:b.2 with
  |true=>exact Nat.lt_of_le_of_lt k.le (h.less hb h2)
  |false=>exact Nat.lt_of_lt_of_le (k.less h1 hb) h.le,Nat.le_trans k.le h.le,fun h1=>k.more (h.more h1),fun h1=>by
  cases hb:b.2 with
  |true=>rw[k.more hb]at h1;cases h1
  |false=>rw[k.same h1,h.same hb]⟩
theorem Ip {succ:Nat→List Nat} {p:Nat→Bool} (hp:∀j,p j=false→Ends succ j) (i:Nat):Ends (fun i=>(succ i).filter p) i↔Ends succ i:=by
 constructor
 ·intro h;induction h with
  |mk i h ih=>
   refine .mk _ (fun j hj=>?_);cases pY:p j with
   |false=>exact hp j pY
   |true=>exact ih j (by simp[hj,pY])
 ·intro h;induction h with
  |mk i h ih=>exact .mk _ (fun j hj=>ih j ((List.mem_filter.1 hj).1))
structure aq where
 op:Int
 a:Int
 b:Int
 n:Int
 m:Int
def fM (cells at_ n:Int):Bool:=decide (0≤at_)&&decide (0≤n)&&decide (n≤cells)&&decide (at_≤cells-n)
def qV (x:aq):Bool:=
 if x.a=0 then decide (x.b=6)||decide (8≤x.b)&&decide (x.b≤18)
 else if x.a=1 then decide (x.b=7)||decide (x.b=13)||decide (x.b=14)||decide (19≤x.b)&&decide (x.b≤21)
 else false
def Ag (cells:Int) (x:aq):Bool:=decide (0≤x.n)&&decide (x.n≤x.m)&&decide (x.m≤255)&&fM cells x.a (x.m-x.n+1)
def cQ (pins:Int→Nat) (cells last at_:Int) (x:aq):Bool:=
 if x.op=1∨x.op=11 then true
 else if x.op=2∨x.op=3∨x.op=6∨x.op=14 then fM cells x.a 1
 else if x.op=13 then fM cells x.a 1&&fM cells x.b 2
 else if x.op=4∨x.op=5∨x.op=7 then Ag cells x
 else if x.op=8 then qV x
 else if x.op=9∨x.op=10 then decide (0≤x.a)&&decide (x.a≤last)
 else if x.op=12 then decide (0<pins x.b)&&fM cells x.a (pins x.b)
 else if x.op=15 then decide (at_=last)
 else false
def lS (pins:Int→Nat) (cells last:Int):Nat→List aq→Bool
 |_,[]=>true
 |i,x::r=>cQ pins cells last i x&&lS pins cells last (i+1) r
def gX (n:Nat) (t:Bool) (S:List Bool):Option (List Bool):=
 if S.length<n then none else if t&&(S.drop (S.length-n)).any (fun b=>!b)then none else some (S.take (S.length-n))
def dZ (t:Bool) (S:List Bool):Option (List Bool):=if S.length<64 then some (S++[t])else none
def gj (S:List Bool):Option (List Bool):=if S=[]then some []else none
def bZ (x:aq) (S:List Bool):Option (List Bool):=
 if x.op=1 then dZ (decide (x.n=0)||decide (x.n=1)) S
 else if x.op=2 then dZ false S
 else if x.op=3∨x.op=13∨x.op=14 then dZ true S
 else if x.op=4 then (gX 1 false S).bind (dZ false)
 else if x.op=5 then (gX 1 false S).bind (dZ true)
 else if x.op=6 then gX 1 false S
 else if x.op=7 then gX 2 false S
 else if x.op=8 then (gX (if x.b=6∨x.b=7 then 1 else 2) (decide (x.a=1)) S).bind (dZ (decide (x.b=7)||decide (13≤x.b)))
 else if x.op=10 then (gX 1 true S).bind gj
 else gj S
def fH (DI:List Bool):Nat→List aq→List Bool→Bool
 |_,[],_=>true
 |i,x::r,S=>if DI.getD i false&&!S.isEmpty then false else match bZ x S with
  |none=>false
  |some S'=>fH DI (i+1) r S'
def lC (ins:List aq):List Bool:=ins.foldl (fun l x=>if x.op=9∨x.op=10 then l.set x.a.toNat true else l) (List.replicate ins.length false)
def vk (ins:List aq) (i:Nat):List Nat:=
 match ins[i]? with
 |none=>[]
 |some x=>if x.op=9 then [x.a.toNat]else if x.op=10 then [i+1,x.a.toNat]else if x.op=15 then []else [i+1]
def gU (ins:List aq) (i:Nat):Bool:=
 match ins[i]? with
 |none=>false
 |some x=>decide (x.op=11)
def sD (ins:List aq) (i:Nat):List Nat:=if gU ins i=true then []else vk ins i
def fi (ins:List aq) (i:Nat):List Nat:=(sD ins i).filter fun j=>!gU ins j
theorem Pb (ins:List aq) (i:Nat):Ends (fi ins) i↔Ends (sD ins) i:=
 Ip (p:=fun j=>!gU ins j) (fun j hj=>.mk _ (fun k hk=>by
  have:gU ins j=true:=by simpa using hj
  simp[sD,this]at hk)) i
def BC (n vars cells:Int) (qc:Int):Bool:=decide (1≤n)&&decide (n≤4096)&&decide (0≤cells)&&decide (cells≤8192)&&decide (0≤vars)&&decide (vars≤cells)&&decide (qc=15)
def qc (ins:List aq):Int:=(ins.getLast?.map (·.op)).getD 0
def km (pins:Int→Nat) (ins:List aq) (vars cells:Int):Bool:=BC ins.length vars cells (qc ins)&&lS pins cells ((ins.length:Int)-1) 0 ins
def xC (pins:Int→Nat) (ins:List aq) (vars cells:Int):Bool:=
 km pins ins vars cells&&fH (lC ins) 0 ins []&&!(rounds (fi ins) (ins.length+1) (List.range ins.length) (List.replicate ins.length 0))
theorem sE {pins:Int→Nat} {cells last:Int}:∀{ins:List aq} {i0:Nat},lS pins cells last i0 ins=true→∀i x,ins[i]?=some x→cQ pins cells last ((i0+i:Nat):Int) x=true
 |y::r,i0,h,i,x,hx=>by
  simp only[lS,Bool.and_eq_true]at h;cases i with
  |zero=>simp at hx;subst hx;exact h.1
  |succ i=>
   have:=sE h.2 i x (by simpa using hx);rw[show i0+(i+1)=i0+1+i by omega];exact this
theorem Wi {pins:Int→Nat} {ins:List aq} {vars cells:Int} (h:km pins ins vars cells=true):∀i<ins.length,∀j∈sD ins i,j<ins.length:=by
 intro i hi j hj;simp only[km,Bool.and_eq_true]at h;have hx:ins[i]?=some ins[i]:=by simp[hi]
 have hf:=sE h.2 i _ hx;simp only[Nat.zero_add]at hf;have gn:i+1=ins.length→ins[i].op=15:=by
  intro h1;have h2:=h.1;simp only[BC,Bool.and_eq_true,decide_eq_true_eq]at h2;have h3:=h2.2;unfold qc at h3;rw[List.getLast?_eq_getElem?,show ins.length-1=i by omega,hx]at h3;simpa using h3
 unfold sD at hj;split at hj
 ·simp at hj
 ·unfold vk at hj;rw[hx]at hj;simp only at hj;unfold cQ at hf;by_cases h9:ins[i].op=9
  ·simp[h9]at hj hf;omega
  ·by_cases nB:ins[i].op=10
   ·simp[nB]at hj hf;have:i+1≠ins.length:=fun h=>by have:=gn h;omega
    omega
   ·by_cases uc:ins[i].op=15
    ·simp[uc]at hj
    ·simp[h9,nB,uc]at hj;have:i+1≠ins.length:=fun h=>uc (gn h);omega
theorem Pc {pins:Int→Nat} {ins:List aq} {vars cells:Int} (h:km pins ins vars cells=true):
 rounds (fi ins) (ins.length+1) (List.range ins.length) (List.replicate ins.length 0)=true↔∃i<ins.length,¬Ends (sD ins) i:=by
 rw[Ma (fi ins) ins.length (ins.length+1) (by omega) (fun i hi j hj=>Wi h i hi j (List.mem_filter.1 hj).1)];simp only[Pb]
end Go.Am
end
section
namespace Go.Am
open Go
noncomputable def oa (X:Ctx) (f:FuncId) (c:Code) (S:St) (ds:List DF):XD:=gT fun k=>iM X f (aO X k) k c S ds
noncomputable def Mb (X:Ctx) (f:FuncId) (rv:AV) (c:Code) (S:St):Option (XE×St):=gT fun k=>pa X f (aO X k) k rv c S
noncomputable def aia (X:Ctx):bz:=fun g args cs=>gT fun k=>uU X k (aO X k) g args cs
abbrev xD:=XE→St→List DF→bU
noncomputable def lD (X:Ctx) (f:FuncId) (c:Code) (S:St) (ds:List DF) (k:xD):bU:=(oa X f c S ds).bind fun p=>k p.1 p.2.1 p.2.2
noncomputable def vm (X:Ctx) (md:Bool) (all ops:List Oper) (S:St) (ds:List DF) (k:xD):bU:=(fE X (ai X) md all ops S ds).bind fun p=>k p.1 p.2.1 p.2.2
noncomputable def seqKD (X:Ctx) (f:FuncId) (b:Code) (k:xD):xD
 | .normal,S,ds=>lD X f b S ds k
 |e,S,ds=>k e S ds
def leaveKD (X:Ctx) (f:FuncId) (id:Nat) (k:xD):xD
 | .normal,S,ds=>k .normal (S.leave X f id) ds
 |e,S,ds=>k e S ds
noncomputable def nextKD (X:Ctx) (md:Bool) (all r:List Oper) (ds:List DF) (k:xD):Kt
 | .normal,S=>vm X md all r S ds k
 |e,S=>k e S ds
noncomputable def oneKD (X:Ctx) (md:Bool) (all r:List Oper) (o:Oper) (S:St) (ds:List DF) (k:xD):Option DF→bU
 |some d=>vm X md all r (S.put o.dst true .aW) (d::ds) k
 |none=>runK X md all [o] S (nextKD X md all r ds k)
section
variable {X:Ctx} {f:FuncId} {S:St} {ds:List DF} {md:Bool}
theorem tF (all:List Oper):∀(ops:List Oper) (S:St) (ds:List DF),gT (fun k=>fE X (aO X k) md all ops S ds)=fE X (ai X) md all ops S ds
 |[],S,ds=>aX _
 |o::r,S,ds=>by
  simp only[fE];cases nA S o with
  |some d=>exact tF all r _ _
  |none=>
   simp only[Ad];rw[fZ (g:=fun x n=>nT (fun S1=>fE X (aO X n) md all r S1 ds) ds x) (qU (bQ X) all) (fun x=>by
    obtain⟨e,S1⟩:=x;cases e with
    |normal=>exact lR (bQ X) all r S1 ds
    |_=>exact aK.const _),DE]
   congr 1;funext x;obtain⟨e,S1⟩:=x;cases e with
   |normal=>exact tF all r S1 ds
   |_=>exact aX _
theorem dmD (c:Code) (S:St) (ds:List DF):aK (fun k=>iM X f (aO X k) k c S ds):=DC (bQ X) f (m:=fun k=>k) (fun k=>Nat.le_succ k) c S ds
theorem Pd {a b:Code}:oa X f (.seq a b) S ds=FJ (oa X f b) (oa X f a S ds):=by
 unfold oa;simp only[iM,IW];rw[fZ (g:=fun x n=>sT (iM X f (aO X n) n b) x) (dmD a S ds) (fun x=>by
  obtain⟨e,S1,sA⟩:=x;cases e with
  |normal=>exact dmD b S1 sA
  |_=>exact aK.const _)]
 congr 1;funext x;obtain⟨e,S1,sA⟩:=x;cases e<;>first|rfl|exact aX _
theorem lU {c:Code} (h:∀k,iM X f (aO X k) k c S ds=uT ds (den X f (aO X k) k c S)):oa X f c S ds=uT ds (fW X f c S):=by
 unfold oa fW;have:(fun k=>iM X f (aO X k) k c S ds)=fun k=>(den X f (aO X k) k c S).bind fun q=>dT ds q:=by
  funext k;rw[h,Cr]
 rw[this,fZ (dm c S) (fun _=>aK.const _),Cr];simp only[aX]
theorem Pe {id:Nat} {ops:Array Oper} (h:Bj ops.toList=true):oa X f (.region id ops false) S ds=xd (St.leave X f id) (fE X (ai X) (X.md f id) ops.toList ops.toList S ds):=by
 unfold oa;have:(fun k=>iM X f (aO X k) k (.region id ops false) S ds)=fun k=>(fE X (aO X k) (X.md f id) ops.toList ops.toList S ds).bind fun q=>lT (St.leave X f id) q:=by
  funext k;simp only[iM,h,Bool.not_false,Bool.and_self,xx]
 rw[this,fZ (lR (bQ X) _ _ _ _) (fun _=>aK.const _),tF,xx];simp only[aX]
variable {k:xD}
theorem denKD_seq {a b:Code}:lD X f (.seq a b) S ds k=lD X f a S ds (seqKD X f b k):=by
 simp only[lD,Pd];rcases oa X f a S ds with _|⟨e,S1,sA⟩
 ·rfl
 ·cases e<;>rfl
theorem lV {c:Code} (h:oa X f c S ds=uT ds (fW X f c S)):lD X f c S ds k=aG X f c S fun e S=>k e S ds:=by
 simp only[lD,aG,h];rcases fW X f c S with _|⟨e,S1⟩<;>rfl
theorem denKD_cond {o:Operand} {a b:Code}:lD X f (.cond o a b) S ds k=aG X f (.cond o a b) S fun e S=>k e S ds:=lV (lU fun _=>rfl)
theorem denKD_ret:lD X f .ret S ds k=aG X f .ret S fun e S=>k e S ds:=lV (lU fun _=>rfl)
theorem denKD_skip:lD X f .skip S ds k=aG X f .skip S fun e S=>k e S ds:=lV (lU fun _=>rfl)
theorem denKD_loop {c:Code}:lD X f (.loop c) S ds k=aG X f (.loop c) S fun e S=>k e S ds:=lV (lU fun _=>rfl)
theorem denKD_block {id:Nat} {c:Code}:lD X f (.block id c) S ds k=aG X f (.block id c) S fun e S=>k e S ds:=lV (lU fun _=>rfl)
theorem denKD_draw {id:Nat} {ops:Array Oper}:lD X f (.region id ops true) S ds k=aG X f (.region id ops true) S fun e S=>k e S ds:=lV (lU fun _=>rfl)
theorem denKD_reg {id:Nat} {l:List Oper}:lD X f (.region id ⟨l⟩ false) S ds k=if Bj l=true then vm X (X.md f id) l l S ds (leaveKD X f id k)else aG X f (.region id ⟨l⟩ false) S fun e S=>k e S ds:=by
 split
 ·rename_i h;simp only[lD,vm,Pe (ops:=⟨l⟩) h];rcases fE X (ai X) (X.md f id) l l S ds with _|⟨e,S1,sA⟩
  ·rfl
  ·cases e<;>rfl
 ·rename_i h;exact lV (lU fun _=>by simp[iM,h])
theorem runKD_nil {all:List Oper}:vm X md all [] S ds k=k .normal S ds:=rfl
theorem runKD_cons {all r:List Oper} {o:Oper}:vm X md all (o::r) S ds k=oneKD X md all r o S ds k (nA S o):=by
 simp only[vm,fE];cases nA S o with
 |some d=>rfl
 |none=>
  simp only[oneKD,runK,gi,Ad,u6];rcases mj X (ai X) md all S o with _|⟨e,S1⟩
  ·rfl
  ·cases e<;>rfl
end
noncomputable def finKD (X:Ctx) (p:aM) (n0:Nat) (rs:List ResultVar):xD
 |e,S,[]=>Ct X.P p n0 rs e S
 |e,S,[d]=>finD1 X p n0 rs (aia X) S d (recA e)
 |_,_,_=>none
noncomputable def Md (X:Ctx) (f:FuncId) (rv:AV) (c:Code) (S:St) (k:Kt):bU:=(Mb X f rv c S).bind fun p=>k p.1 p.2
def finRK (P:Program) (p:aM) (n0:Nat) (rs:List ResultVar):Kt
 | .normal,S=>finish P p n0 rs S
 | .ret,S=>finish P p n0 rs S
 |_,_=>none
section
variable {X:Ctx} {f:FuncId} {S:St}
variable {k:Kt} {rv:AV}
theorem denRK_seq {a b:Code}:Md X f rv (.seq a b) S k=Md X f rv a S (xz X f b k):=by
 have h:Mb X f rv (.seq a b) S=andThen (Mb X f rv a S) (fW X f b):=
  tD (F:=fun n=>pa X f (aO X n) n rv a S) (K:=fun S' n=>den X f (aO X n) n b S') (DD (bQ X) f (m:=fun k=>k) (fun k=>Nat.le_succ k) rv a S) (fun S'=>dm b S')
 simp only[Md,h,rL];congr 1;funext q;obtain⟨e,S1⟩:=q;cases e<;>rfl
end
def Ctx.over (X:Ctx) (cl:bz):Ctx:={X with ov:=some cl}
section
variable {X:Ctx} {cl C:bz} {f:FuncId}
@[simp] theorem aor:(X.over cl).P=X.P:=rfl
@[simp] theorem alV:(X.over cl).gl=X.gl:=rfl
@[simp] theorem agn:(X.over cl).oW=X.oW:=rfl
@[simp] theorem alW:(X.over cl).gh=X.gh:=rfl
@[simp] theorem alX:(X.over cl).md=X.md:=rfl
@[simp] theorem alY:(X.over cl).fp=X.fp:=rfl
@[simp] theorem alZ:(X.over cl).od=X.od:=rfl
@[simp] theorem al0:(X.over cl).fl=X.fl:=rfl
@[simp] theorem ac6:ai (X.over cl)=cl:=by
 funext g a c;unfold ai;rw[←Dy (bQ (X.over cl) g a c)];have:(fun n=>aO (X.over cl) (n+1) g a c)=fun _=>cl g a c:=rfl;rw[this,aX]
end
inductive PR (ε σ α:Type) where
 |ok (a:α) (s:σ)
 |bad (e:ε) (s:σ)
 |out
section
variable {ε σ α β γ:Type}
def PR.el (r:PR ε σ α) (f:α→σ→Option β) (g:ε→σ→Option β):Option β:=
 match r with
 | .ok a s=>f a s
 | .bad e s=>g e s
 | .out=>none
@[simp] theorem aqG {a:α} {s:σ} {f:α→σ→Option β} {g:ε→σ→Option β}:(PR.ok a s).el f g=f a s:=rfl
@[simp] theorem aos {e:ε} {s:σ} {f:α→σ→Option β} {g:ε→σ→Option β}:(PR.bad e s).el f g=g e s:=rfl
@[simp] theorem aot {f:α→σ→Option β} {g:ε→σ→Option β}:(PR.out:PR ε σ α).el f g=none:=rfl
@[simp] theorem aou {c:Prop} [Decidable c] {a b:PR ε σ α} {f:α→σ→Option β} {g:ε→σ→Option β}:(if c then a else b).el f g=if c then a.el f g else b.el f g:=by split<;>rfl
def PR.bind (r:PR ε σ α) (k:α→σ→PR ε σ γ):PR ε σ γ:=
 match r with
 | .ok a s=>k a s
 | .bad e s=>.bad e s
 | .out=>.out
@[simp] theorem al1 {a:α} {s:σ} {k:α→σ→PR ε σ γ}:(PR.ok a s).bind k=k a s:=rfl
@[simp] theorem aib {e:ε} {s:σ} {k:α→σ→PR ε σ γ}:(PR.bad e s:PR ε σ α).bind k=.bad e s:=rfl
@[simp] theorem aic {k:α→σ→PR ε σ γ}:(PR.out:PR ε σ α).bind k=.out:=rfl
@[simp] theorem al2 {r:PR ε σ α} {k:α→σ→PR ε σ γ} {f:γ→σ→Option β} {g:ε→σ→Option β}:(r.bind k).el f g=r.el (fun a s=>(k a s).el f g) g:=by cases r<;>rfl
@[simp] theorem aqH {r:PR ε σ α} {f:α→σ→Option β} {g:ε→σ→Option β}:r.el (fun a s=>f a s) (fun e s=>g e s)=r.el f g:=rfl
theorem el_frz {n0:Nat} {b:Bool} {r:PR ε σ α} {f:α→σ→bU} {g:ε→σ→bU}:frzR n0 b (r.el f g)=r.el (fun a s=>frzR n0 b (f a s)) (fun e s=>frzR n0 b (g e s)):=by cases r<;>rfl
theorem el_back {m:Mem} {k0:Nat} {ρ B:List Nat} {r:PR ε σ α} {f:α→σ→bU} {g:ε→σ→bU}:callBack m k0 ρ B (r.el f g)=r.el (fun a s=>callBack m k0 ρ B (f a s)) (fun e s=>callBack m k0 ρ B (g e s)):=by cases r<;>rfl
theorem el_callK {X:Ctx} {md:Bool} {S:St} {d:Option Nat} {all q:List Oper} {k:Kt} {r:PR ε σ α} {f:α→σ→Option fK} {g:ε→σ→Option fK}:callK X md S d all q k (r.el f g)=r.el (fun a s=>callK X md S d all q k (f a s)) (fun e s=>callK X md S d all q k (g e s)):=by cases r<;>rfl
theorem el_dcallK {X:Ctx} {md:Bool} {nd:Nat×List (List Nat)} {S:St} {d:Option Nat} {all q:List Oper} {acc:List aR} {k:Kt} {r:PR ε σ α} {f:α→σ→Option fK} {g:ε→σ→Option fK}:dcallK X md nd S d all q acc k (r.el f g)=r.el (fun a s=>dcallK X md nd S d all q acc k (f a s)) (fun e s=>dcallK X md nd S d all q acc k (g e s)):=by cases r<;>rfl
def Le (a b:Option β):Prop:=∀r,a=some r→b=some r
theorem Le.refl (a:Option β):Le a a:=fun _ h=>h
theorem Le.trans {a b c:Option β} (h:Le a b) (k:Le b c):Le a c:=fun r hr=>k r (h r hr)
theorem Le.none {b:Option β}:Le none b:=fun _ h=>by cases h
theorem Le.el {r:PR ε σ α} {f f':α→σ→Option β} {g g':ε→σ→Option β} (hf:∀a s,Le (f a s) (f' a s)) (hg:∀e s,Le (g e s) (g' e s)):Le (r.el f g) (r.el f' g'):=by
 cases r with
 |ok a s=>exact hf a s
 |bad e s=>exact hg e s
 |out=>exact Le.none
end
end Go.Am
end
section
namespace Go.Am
abbrev Tx:=List UInt8
def lW:List Tx:=[[80,82,79,71,82,65,77],[69,78,68,95,80,82,79,71,82,65,77],[86,65,82],[86,65,82,95,73,78,80,85,84],[86,65,82,95,79,85,84,80,85,84],[69,78,68,95,86,65,82],[73,78,84],[66,79,79,76],[65,82,82,65,89],[79,70],[84,82,85,69],[70,65,76,83,69],[73,70],[84,72,69,78],[69,76,83,73,70],[69,76,83,69],[69,78,68,95,73,70],[67,65,83,69],[69,78,68,95,67,65,83,69],[70,79,82],[84,79],[66,89],[68,79],[69,78,68,95,70,79,82],[87,72,73,76,69],[69,78,68,95,87,72,73,76,69],[82,69,80,69,65,84],[85,78,84,73,76],[69,78,68,95,82,69,80,69,65,84],[69,88,73,84],[82,69,84,85,82,78],[65,78,68],[79,82],[88,79,82],[78,79,84],[77,79,68]]
def Eu (s:Tx):Bool:=decide (s∈lW)
structure Pf where
 kind:Int
 text:Tx
 n:Int
 line:Int
 col:Int
 deriving DecidableEq
end Go.Am
end
section
namespace Go.Am
open Go
inductive Ex where
 |mk (op n:Int) (name field:Tx) (sub:List Ex) (line:Int)
inductive Sm where
 |mk (op:Int) (name:Tx) (to val:Ex) (conds:List Ex) (labels:List (List Int)) (fields:List Tx) (blocks:List (List Sm)) (line:Int)
instance:Inhabited Ex:=⟨.mk 0 0 [] [] [] 0⟩
instance:Inhabited Sm:=⟨.mk 0 [] default default [] [] [] [] 0⟩
structure Vr where
 name:Tx
 ty:Int
 sec:Int
 arr:Bool
 lo:Int
 hi:Int
 init:Int
 line:Int
 deriving DecidableEq
structure Pg where
 name:Tx
 vars:List Vr
 body:List Sm
mutual
def bL:Ex→D
 | .mk op n name field sub line=>.agg [.int .i64 op,.int .i64 n,.str name,.str field,.list (ga sub),.int .i64 line]
def ga:List Ex→List D
 |[]=>[]
 |x::r=>bL x::ga r
end
theorem q9:∀l:List Ex,ga l=l.map bL
 |[]=>rfl
 |x::r=>by simp[ga,q9 r]
def ud:Ex→List D
 | .mk op n name field sub line=>[.int .i64 op,.int .i64 n,.str name,.str field,.list (ga sub),.int .i64 line]
theorem Ew (x:Ex):bL x=.agg (ud x):=by cases x;rfl
def mA (l:List Int):D:=.list (l.map fun n=>.int .i64 n)
mutual
def cC:Sm→D
 | .mk op name to val conds labels fields blocks line=>.agg (.int .i64 op::.str name::(ud to++(ud val++[.list (ga conds),.list (labels.map mA),.list (fields.map .str),.list (ld blocks),.int .i64 line])))
def lf:List Sm→List D
 |[]=>[]
 |x::r=>cC x::lf r
def ld:List (List Sm)→List D
 |[]=>[]
 |b::r=>.list (lf b)::ld r
end
theorem ue:∀l:List Sm,lf l=l.map cC
 |[]=>rfl
 |x::r=>by simp[lf,ue r]
theorem yt:∀l:List (List Sm),ld l=l.map fun b=>.list (b.map cC)
 |[]=>rfl
 |x::r=>by simp[ld,yt r,ue]
def eu (v:Vr):List D:=[.str v.name,.int .i64 v.ty,.int .i64 v.sec,.bool v.arr,.int .i64 v.lo,.int .i64 v.hi,.int .i64 v.init,.int .i64 v.line]
def bG (v:Vr):D:=.agg (eu v)
structure PS where
 at_:Nat
 deep:Int
 vars:List Vr
structure Er where
 e:Int
 line:Int
 col:Int
 deriving DecidableEq
abbrev PM (α:Type):=PR Er PS α
section
variable (L:List Pf)
def aid (s:PS):PM Pf:=match L[s.at_]? with
 |some t=>.ok t s
 |none=>.out
def isW (t:Pf) (w:Tx):Bool:=(decide (t.kind=2)||decide (t.kind=4))&&decide (t.text=w)
def isS (w:Tx) (s:PS):PM Bool:=(aid L s).bind fun t s=>.ok (isW t w) s
structure Kd where
 at_:Pf
 kind:Int
 arr:Bool
 lo:Int
 hi:Int
end
def bO:Ex→Int| .mk a _ _ _ _ _=>a
def ia:Ex→Int| .mk _ a _ _ _ _=>a
def dB:Ex→Tx| .mk _ _ a _ _ _=>a
def fw:Ex→Tx| .mk _ _ _ a _ _=>a
def cO:Ex→List Ex| .mk _ _ _ _ a _=>a
def jH:Ex→Int| .mk _ _ _ _ _ a=>a
@[simp] theorem mU {a b c d e f}:bO (.mk a b c d e f)=a:=rfl
@[simp] theorem uf {a b c d e f}:ia (.mk a b c d e f)=b:=rfl
@[simp] theorem xE {a b c d e f}:dB (.mk a b c d e f)=c:=rfl
@[simp] theorem Gk {a b c d e f}:fw (.mk a b c d e f)=d:=rfl
@[simp] theorem ob {a b c d e f}:cO (.mk a b c d e f)=e:=rfl
@[simp] theorem Ph {a b c d e f}:jH (.mk a b c d e f)=f:=rfl
theorem UI (x:Ex):ud x=[.int .i64 (bO x),.int .i64 (ia x),.str (dB x),.str (fw x),.list ((cO x).map bL),.int .i64 (jH x)]:=by cases x;simp[ud,q9]
theorem aA (x:Ex):bL x=.agg [.int .i64 (bO x),.int .i64 (ia x),.str (dB x),.str (fw x),.list ((cO x).map bL),.int .i64 (jH x)]:=by rw[Ew,UI]
def bu:Sm→Int| .mk a _ _ _ _ _ _ _ _=>a
def gV:Sm→Tx| .mk _ a _ _ _ _ _ _ _=>a
def eF:Sm→Ex| .mk _ _ a _ _ _ _ _ _=>a
def dH:Sm→Ex| .mk _ _ _ a _ _ _ _ _=>a
def cu:Sm→List Ex| .mk _ _ _ _ a _ _ _ _=>a
def ea:Sm→List (List Int)| .mk _ _ _ _ _ a _ _ _=>a
def dO:Sm→List Tx| .mk _ _ _ _ _ _ a _ _=>a
def bx:Sm→List (List Sm)| .mk _ _ _ _ _ _ _ a _=>a
def ko:Sm→Int| .mk _ _ _ _ _ _ _ _ a=>a
@[simp] theorem Pj {a b c d e f g h i}:bu (.mk a b c d e f g h i)=a:=rfl
@[simp] theorem YD {a b c d e f g h i}:gV (.mk a b c d e f g h i)=b:=rfl
@[simp] theorem aow {a b c d e f g h i}:eF (.mk a b c d e f g h i)=c:=rfl
@[simp] theorem aoy {a b c d e f g h i}:dH (.mk a b c d e f g h i)=d:=rfl
@[simp] theorem Pk {a b c d e f g h i}:cu (.mk a b c d e f g h i)=e:=rfl
@[simp] theorem al3 {a b c d e f g h i}:ea (.mk a b c d e f g h i)=f:=rfl
@[simp] theorem Pm {a b c d e f g h i}:dO (.mk a b c d e f g h i)=g:=rfl
@[simp] theorem YE {a b c d e f g h i}:bx (.mk a b c d e f g h i)=h:=rfl
@[simp] theorem aoz {a b c d e f g h i}:ko (.mk a b c d e f g h i)=i:=rfl
def df (l:List Sm):D:=.list (l.map cC)
theorem eK (x:Sm):cC x=.agg [.int .i64 (bu x),.str (gV x),
 .int .i64 (bO (eF x)),.int .i64 (ia (eF x)),.str (dB (eF x)),.str (fw (eF x)),.list ((cO (eF x)).map bL),.int .i64 (jH (eF x)),
 .int .i64 (bO (dH x)),.int .i64 (ia (dH x)),.str (dB (dH x)),.str (fw (dH x)),.list ((cO (dH x)).map bL),.int .i64 (jH (dH x)),
 .list ((cu x).map bL),.list ((ea x).map mA),.list ((dO x).map .str),.list ((bx x).map df),.int .i64 (ko x)]:=by
 cases x;simp[cC,UI,q9,yt,df]
def Sq (c:UInt8):Bool:=(decide (65≤c.toNat)&&decide (c.toNat≤90))||(decide (97≤c.toNat)&&decide (c.toNat≤122))
def Sr (c:UInt8):Bool:=decide (48≤c.toNat)&&decide (c.toNat≤57)
def sF:List UInt8→Nat→Bool
 |[],_=>true
 |c::r,i=>(Sq c||(!decide (i=0)&&(decide (c=95)||Sr c)))&&sF r (i+1)
def cY (s:Tx):Bool:=decide (1≤s.length)&&(decide (s.length≤16)&&(!Eu s&&sF s 0))
structure Pn where
 name:Tx
 ty:Int
 I0:Bool
 deriving DecidableEq
def cS (p:Pn):D:=.agg [.str p.name,.int .i64 p.ty,.bool p.I0]
def jP (ins outs:List (Tx×Bool)) (n:Nat):List Pn:=ins.map (fun x=>⟨x.1,if x.2 then 1 else 2,true⟩)++outs.map (fun x=>⟨x.1,if x.2 then 1 else 2,false⟩)++List.replicate n ⟨[],1,false⟩
def yu:List (Tx×Bool):=[([68,111,110,101],false),([66,117,115,121],false),([65,99,116,105,118,101],false),([67,111,109,109,97,110,100,65,98,111,114,116,101,100],false),([69,114,114,111,114],false)]
def Gl:List (Int×List Pn):=[
 (10,jP [([73,78],false),([80,84],true)] [([81],false),([69,84],true)] 0),
 (11,jP [([73,78],false),([80,84],true)] [([81],false),([69,84],true)] 0),
 (12,jP [([73,78],false),([80,84],true)] [([81],false),([69,84],true)] 2),
 (13,jP [([67,85],false),([82],false),([80,86],true)] [([81],false),([67,86],true)] 1),
 (14,jP [([67,68],false),([76,68],false),([80,86],true)] [([81],false),([67,86],true)] 1),
 (15,jP [([67,76,75],false)] [([81],false)] 1),
 (16,jP [([67,76,75],false)] [([81],false)] 1),
 (17,jP [([83,49],false),([82],false)] [([81,49],false)] 0),
 (18,jP [([83],false),([82,49],false)] [([81,49],false)] 0),
 (20,jP [([65,120,105,115],true),([69,110,97,98,108,101],false)] [([83,116,97,116,117,115],false),([69,114,114,111,114],false)] 0),
 (21,jP [([65,120,105,115],true),([69,120,101,99,117,116,101],false)] yu 2),
 (22,jP [([65,120,105,115],true),([69,120,101,99,117,116,101],false)] yu 2),
 (23,jP [([65,120,105,115],true),([69,120,101,99,117,116,101],false)] yu 2),
 (24,jP [([65,120,105,115],true),([69,120,101,99,117,116,101],false),([80,111,115,105,116,105,111,110],true),([86,101,108,111,99,105,116,121],true),([66,117,102,102,101,114,77,111,100,101],true)] yu 2),
 (25,jP [([65,120,105,115],true),([69,120,101,99,117,116,101],false),([68,105,115,116,97,110,99,101],true),([86,101,108,111,99,105,116,121],true),([66,117,102,102,101,114,77,111,100,101],true)] yu 2),
 (26,jP [([65,120,105,115],true),([69,120,101,99,117,116,101],false),([68,105,115,116,97,110,99,101],true),([86,101,108,111,99,105,116,121],true),([66,117,102,102,101,114,77,111,100,101],true)] yu 2),
 (27,jP [([65,120,105,115],true),([69,120,101,99,117,116,101],false),([86,101,108,111,99,105,116,121],true)] [([73,110,86,101,108,111,99,105,116,121],false),([66,117,115,121],false),([65,99,116,105,118,101],false),([67,111,109,109,97,110,100,65,98,111,114,116,101,100],false),([69,114,114,111,114],false)] 2),
 (28,jP [([65,120,105,115],true),([69,120,101,99,117,116,101],false),([77,97,115,116,101,114],true),([78,117,109,101,114,97,116,111,114],true),([68,101,110,111,109,105,110,97,116,111,114],true)] [([73,110,71,101,97,114],false),([66,117,115,121],false),([65,99,116,105,118,101],false),([67,111,109,109,97,110,100,65,98,111,114,116,101,100],false),([69,114,114,111,114],false)] 2),
 (29,jP [([65,120,105,115],true),([69,120,101,99,117,116,101],false)] [([68,111,110,101],false),([69,114,114,111,114],false)] 1),
 (30,jP [([65,120,105,115],true),([69,120,101,99,117,116,101],false),([80,111,115,105,116,105,111,110],true)] [([68,111,110,101],false),([69,114,114,111,114],false)] 1),
 (31,jP [([65,120,105,115],true),([69,110,97,98,108,101],false),([80,101,114,99,101,110,116],true)] [([69,110,97,98,108,101,100],false)] 0)]
def qW:List (Int×List Pn)→Int→List Pn
 |[],_=>[]
 |(a,l)::r,k=>if a=k then l else qW r k
def bq (k:Int):List Pn:=qW Gl k
def vo:List Pn→Tx→Option Pn
 |[],_=>none
 |p::r,s=>if p.name=s∧s≠[]then some p else vo r s
def kG (k:Int) (s:Tx):Option Pn:=vo (bq k) s
def bf:List Vr→Tx→Option Vr
 |[],_=>none
 |v::r,s=>if v.name=s then some v else bf r s
def bH (v:Vr):Int:=if v.arr=true then v.hi-v.lo+1 else if 2<v.ty then (bq v.ty).length else 1
structure Te where
 t:Int
 e:Int
 line:Int
 deriving DecidableEq
def eN (t:Int):Te:=⟨t,0,0⟩
def cA (e line:Int):Te:=⟨0,e,line⟩
def gd (op t:Int):Int:=if op=6∨(8≤op∧op≤12)∨(15≤op∧op≤18)then 1 else if op=13∨op=14 then t else 2
def gG (op:Int):Int:=if op=6∨(8≤op∧op≤12)then 1 else 2
def b9 (op line:Int) (a b:Te):Te:=
 if a.e≠0 then ⟨0,a.e,a.line⟩else if b.e≠0 then ⟨0,b.e,b.line⟩else
 if a.t≠gd op a.t∨b.t≠gd op a.t then cA 10 line else eN (gG op)
theorem gY {op line:Int} {a b:Te} (h:(b9 op line a b).e=0):a.e=0∧b.e=0∧a.t=gd op a.t∧b.t=gd op a.t∧b9 op line a b=eN (gG op):=by
 unfold b9 at h⊢;by_cases h1:a.e≠0
 ·rw[if_pos h1]at h;exact absurd h h1
 ·rw[if_neg h1]at h⊢;by_cases h2:b.e≠0
  ·rw[if_pos h2]at h;exact absurd h h2
  ·rw[if_neg h2]at h⊢;by_cases h3:a.t≠gd op a.t∨b.t≠gd op a.t
   ·rw[if_pos h3]at h;simp[cA]at h
   ·rw[if_neg h3];simp only[ne_eq,not_or,Decidable.not_not]at h1 h2 h3;exact⟨h1,h2,h3.1,h3.2,rfl⟩
mutual
def aC (vs:List Vr):Ex→Te
 | .mk op _ name field sub line=>
  if op=1∨op=2 then eN op
  else if op=3∨op=4∨op=5 then
   match bf vs name with
   |none=>cA 9 line
   |some v=>
    if op=5 then (if v.ty≤2 then cA 10 line else match kG v.ty field with
     |none=>cA 9 line
     |some p=>eN p.ty)
    else if v.arr≠decide (op=4)∨2<v.ty then cA 10 line
    else if op=4 then ug vs v.ty sub
    else eN v.ty
  else qD vs op line sub
def ug (vs:List Vr) (t:Int):List Ex→Te
 |[]=>eN t
 |x::_=>if (aC vs x).e≠0 then cA (aC vs x).e (aC vs x).line else if (aC vs x).t≠1 then cA 10 (jH x)else eN t
def qD (vs:List Vr) (op line:Int):List Ex→Te
 |[]=>eN 0
 |[x]=>b9 op line (aC vs x) (aC vs x)
 |x::y::_=>b9 op line (aC vs x) (aC vs y)
end
def dk (vs:List Vr) (x:Ex) (t:Int):Int×Int:=if (aC vs x).e≠0 then ((aC vs x).e,(aC vs x).line)else if (aC vs x).t≠t then (10,jH x)else (0,0)
def qX (b:Int):Nat:=
 if b=10 then 4 else if b=11 then 4 else if b=12 then 6 else if b=13 then 6 else if b=14 then 6 else if b=15 then 3 else if b=16 then 3 else if b=17 then 3 else if b=18 then 3 else if b=20 then 4 else if b=21 then 9 else if b=22 then 9 else if b=23 then 9 else if b=24 then 12 else if b=25 then 12 else if b=26 then 12 else if b=27 then 10 else if b=28 then 12 else if b=29 then 5 else if b=30 then 6 else if b=31 then 4 else 0
def gH:List Int:=[10,11,12,13,14,15,16,17,18,20,21,22,23,24,25,26,27,28,29,30,31]
theorem oc {b:Int} (hb:b∉gH):bq b=[]:=by
 simp only[gH,List.mem_cons,List.not_mem_nil,or_false,not_or]at hb;obtain⟨h1,h2,h3,h4,h5,h6,h7,h8,h9,nB,BD,kP,YF,h14,uc,Po,h17,h18,YG,h20,Pp⟩:=hb;unfold bq Gl;simp only[qW,if_neg (Ne.symm h1),if_neg (Ne.symm h2),if_neg (Ne.symm h3),if_neg (Ne.symm h4),if_neg (Ne.symm h5),if_neg (Ne.symm h6),if_neg (Ne.symm h7),if_neg (Ne.symm h8),if_neg (Ne.symm h9),if_neg (Ne.symm nB),if_neg (Ne.symm BD),if_neg (Ne.symm kP),if_neg (Ne.symm YF),if_neg (Ne.symm h14),if_neg (Ne.symm uc),if_neg (Ne.symm Po),if_neg (Ne.symm h17),if_neg (Ne.symm h18),if_neg (Ne.symm YG),if_neg (Ne.symm h20),if_neg (Ne.symm Pp)]
theorem xF (b:Int):(bq b).length≤20:=by
 by_cases hb:b∈gH
 ·simp only[gH,List.mem_cons,List.not_mem_nil,or_false]at hb;rcases hb with rfl|rfl|rfl|rfl|rfl|rfl|rfl|rfl|rfl|rfl|rfl|rfl|rfl|rfl|rfl|rfl|rfl|rfl|rfl|rfl|rfl<;>decide
 ·rw[oc hb];decide
def UJ (x:aq) (n:Int):Bool:=decide (x.n≤n)&&decide (n≤x.m)
def vW (C:List Int) (k:Int):Int:=C[k.toNat]?.getD 0
def ac7 (C:List Int) (x:aq):Bool:=decide (0≤vW C (x.b+1)∧vW C x.a≤vW C x.b)||decide (vW C (x.b+1)<0∧vW C x.b≤vW C x.a)
structure Ms where
 cells:List Int
 Pq:List Int
 at_:Int
 fuel:Int
 fault:Int
def Ms.pop (s:Ms):Ms:={s with Pq:=s.Pq.dropLast}
def Ms.push (s:Ms) (n:Int):Ms:={s with Pq:=s.Pq++[n]}
def Ms.top (s:Ms):Int:=s.Pq.getLast?.getD 0
def YH (C:List Int) (k n:Int):List Int:=C.set k.toNat n
def ac8 (x:aq) (s:Ms):Option Ms:=
 if x.op=1 then some (s.push x.n)
 else if x.op=2 then some (s.push (vW s.cells x.a))
 else if x.op=3 then some (s.push (dJ (decide (vW s.cells x.a≠0))))
 else if x.op=4∨x.op=5 then
  (if UJ x s.top=true then some (s.pop.push (if x.op=4 then vW s.cells (x.a+(s.top-x.n))else dJ (decide (vW s.cells (x.a+(s.top-x.n))≠0))))else some {s.pop with fault:=3})
 else if x.op=6 then some {s.pop with cells:=YH s.cells x.a s.top}
 else if x.op=7 then
  (if UJ x s.pop.top=true then some {s.pop.pop with cells:=YH s.cells (x.a+(s.pop.top-x.n)) s.top} else some {s.pop.pop with fault:=3})
 else none
def doF (x:aq) (s:Ms):Ms:=
 if x.b=6∨x.b=7 then
  (if (qC x.b s.top (decide (x.a=1))).2.2=0 then s.pop.push (qC x.b s.top (decide (x.a=1))).1 else {s.pop with fault:=(qC x.b s.top (decide (x.a=1))).2.2})
 else
  (if (ub x.b s.pop.top s.top (decide (x.a=1))).2.2=0 then s.pop.pop.push (ub x.b s.pop.top s.top (decide (x.a=1))).1 else {s.pop.pop with fault:=(ub x.b s.pop.top s.top (decide (x.a=1))).2.2})
def YI (x:aq) (C:List Int):List Int:=C.take x.a.toNat++ac5 x.b ((C.drop x.a.toNat).take (qX x.b))++C.drop (x.a.toNat+qX x.b)
def aie (x:aq) (s:Ms):Ms:=
 if x.op=8 then doF x s
 else if x.op=9 then {s with at_:=x.a}
 else if x.op=10 then (if s.top=0 then {s.pop with at_:=x.a} else s.pop)
 else if x.op=11 then (if s.fuel=0 then {s with fault:=4} else {s with fuel:=s.fuel-1})
 else if x.op=12 then {s with cells:=YI x s.cells}
 else if x.op=13 then s.push (dJ (ac7 s.cells x))
 else if x.op=14 then s.push (dJ (decide (x.n≤vW s.cells x.a∧vW s.cells x.a≤x.m)))
 else s
def Me (x:aq) (s:Ms):Ms:=
 match ac8 x {s with at_:=s.at_+1} with
 |some t=>t
 |none=>aie x {s with at_:=s.at_+1}
inductive Ey (l:List aq):Ms→Ms→Prop
 |fault (s:Ms) (h:s.fault≠0):Ey l s s
 |fin (s:Ms) (x:aq) (h0:s.fault=0) (hx:l[s.at_.toNat]?=some x) (h:x.op=15):Ey l s s
 |step (s:Ms) (x:aq) (t:Ms) (h0:s.fault=0) (hx:l[s.at_.toNat]?=some x) (h:x.op≠15) (h':Ey l (Me x s) t):Ey l s t
end Go.Am
end
section
namespace Go.Am
open Go
open Go.Proofs
abbrev T2 (t:Nat) (k:TK) (s:Nat):Prop:=tk Tryz.prog t=k∧fm Tryz.prog t=some s
abbrev T3 (t:Nat) (k:TK) (s:Nat) (z:List AV):Prop:=T2 t k s∧se Tryz.prog t=some z
abbrev T5 (t:Nat) (k:TK) (s:Nat) (z:List AV) (b:Nat) (d:D):Prop:=T3 t k s z∧wh Tryz.prog t=some b∧lH Tryz.prog t=some d
abbrev FF (t i o y:Nat):Prop:=uE Tryz.prog t i=some o∧Fi Tryz.prog t i=some y
@[simp] theorem arQ:T2 1 (.func) 1:=by and_intros<;>kernel_rfl
@[simp] theorem arR:T5 2 (.int .i64) 1 ([.d (.int .i64 0)]) 8 (.int .i64 0):=by and_intros<;>kernel_rfl
@[simp] theorem arS:T5 3 (.int .i64) 1 ([.d (.int .i64 0)]) 8 (.int .i64 0):=by and_intros<;>kernel_rfl
@[simp] theorem arT:T5 4 (.bool) 1 ([.d (.bool false)]) 1 (.bool false):=by and_intros<;>kernel_rfl
@[simp] theorem arU:T5 5 (.int .u8) 1 ([.d (.int .u8 0)]) 1 (.int .u8 0):=by and_intros<;>kernel_rfl
@[simp] theorem arV:T5 6 (.int .u8) 1 ([.d (.int .u8 0)]) 1 (.int .u8 0):=by and_intros<;>kernel_rfl
@[simp] theorem arW:T5 7 (.struct) 4 ([.d (.int .i64 0),.d (.int .i64 0),.d (.bool false),.d (.int .u8 0)]) 24 (.agg ([.int .i64 0,.int .i64 0,.bool false,.int .u8 0])):=by and_intros<;>kernel_rfl
@[simp] theorem aoE:FF 7 0 0 2:=by and_intros<;>kernel_rfl
@[simp] theorem aoF:FF 7 1 1 3:=by and_intros<;>kernel_rfl
@[simp] theorem aoG:FF 7 2 2 4:=by and_intros<;>kernel_rfl
@[simp] theorem aoH:FF 7 3 3 6:=by and_intros<;>kernel_rfl
@[simp] theorem aif:bJ Tryz.prog 7=some [(0,1),(1,1),(2,1),(3,1)]:=by kernel_rfl
@[simp] theorem arX:T5 8 (.struct) 4 ([.d (.int .i64 0),.d (.int .i64 0),.d (.bool false),.d (.int .u8 0)]) 24 (.agg ([.int .i64 0,.int .i64 0,.bool false,.int .u8 0])):=by and_intros<;>kernel_rfl
@[simp] theorem aoI:FF 8 0 0 2:=by and_intros<;>kernel_rfl
@[simp] theorem aoJ:FF 8 1 1 3:=by and_intros<;>kernel_rfl
@[simp] theorem aoK:FF 8 2 2 4:=by and_intros<;>kernel_rfl
@[simp] theorem aoL:FF 8 3 3 6:=by and_intros<;>kernel_rfl
@[simp] theorem aih:bJ Tryz.prog 8=some [(0,1),(1,1),(2,1),(3,1)]:=by kernel_rfl
@[simp] theorem arY:T5 9 (.str) 1 ([.d (.str [])]) 16 (.str []):=by and_intros<;>kernel_rfl
@[simp] theorem al4:fh Tryz.prog 9=true:=by kernel_rfl
@[simp] theorem aqI:T5 10 (.str) 1 ([.d (.str [])]) 16 (.str []):=by and_intros<;>kernel_rfl
@[simp] theorem aii:fh Tryz.prog 10=true:=by kernel_rfl
@[simp] theorem aqJ:T5 11 (.str) 1 ([.d (.str [])]) 16 (.str []):=by and_intros<;>kernel_rfl
@[simp] theorem aij:fh Tryz.prog 11=true:=by kernel_rfl
@[simp] theorem aqK:T5 12 (.int .u64) 1 ([.d (.int .u64 0)]) 8 (.int .u64 0):=by and_intros<;>kernel_rfl
@[simp] theorem aqL:T5 13 (.struct) 2 ([.d (.str []),.d (.int .u64 0)]) 24 (.agg ([.str [],.int .u64 0])):=by and_intros<;>kernel_rfl
@[simp] theorem al5:FF 13 0 0 9:=by and_intros<;>kernel_rfl
@[simp] theorem al6:FF 13 1 1 12:=by and_intros<;>kernel_rfl
@[simp] theorem agq:bJ Tryz.prog 13=some [(0,1),(1,1)]:=by kernel_rfl
@[simp] theorem aqM:T5 14 (.struct) 2 ([.d (.str []),.d (.int .u64 0)]) 24 (.agg ([.str [],.int .u64 0])):=by and_intros<;>kernel_rfl
@[simp] theorem al7:FF 14 0 0 9:=by and_intros<;>kernel_rfl
@[simp] theorem al8:FF 14 1 1 12:=by and_intros<;>kernel_rfl
@[simp] theorem agr:bJ Tryz.prog 14=some [(0,1),(1,1)]:=by kernel_rfl
@[simp] theorem aqN:T2 15 (.ptr 368) 1:=by and_intros<;>kernel_rfl
@[simp] theorem aqO:T2 16 (.ptr 371) 1:=by and_intros<;>kernel_rfl
@[simp] theorem aqP:T2 17 (.ptr 379) 1:=by and_intros<;>kernel_rfl
@[simp] theorem aqQ:T3 18 (.struct) 1 ([.lit (.pointer none)]):=by and_intros<;>kernel_rfl
@[simp] theorem al9:FF 18 0 0 17:=by and_intros<;>kernel_rfl
@[simp] theorem ags:bJ Tryz.prog 18=some [(0,1)]:=by kernel_rfl
@[simp] theorem aqR:T3 19 (.struct) 1 ([.lit (.pointer none)]):=by and_intros<;>kernel_rfl
@[simp] theorem ama:FF 19 0 0 17:=by and_intros<;>kernel_rfl
@[simp] theorem agt:bJ Tryz.prog 19=some [(0,1)]:=by kernel_rfl
@[simp] theorem aqS:T2 20 (.iface) 1:=by and_intros<;>kernel_rfl
@[simp] theorem aqT:T5 21 (.int .i32) 1 ([.d (.int .i32 0)]) 4 (.int .i32 0):=by and_intros<;>kernel_rfl
@[simp] theorem aqU:T5 22 (.slice 71) 1 ([.lit (.slice none 0 0)]) 24 (.list []):=by and_intros<;>kernel_rfl
@[simp] theorem aik:fh Tryz.prog 22=true:=by kernel_rfl
@[simp] theorem aqV:T5 23 (.slice 141) 1 ([.lit (.slice none 0 0)]) 24 (.list []):=by and_intros<;>kernel_rfl
@[simp] theorem ail:fh Tryz.prog 23=true:=by kernel_rfl
@[simp] theorem aqW:T5 24 (.struct) 3 ([.d (.str []),.lit (.slice none 0 0),.lit (.slice none 0 0)]) 64 (.agg ([.str [],.list [],.list []])):=by and_intros<;>kernel_rfl
@[simp] theorem amb:FF 24 0 0 9:=by and_intros<;>kernel_rfl
@[simp] theorem amc:FF 24 1 1 22:=by and_intros<;>kernel_rfl
@[simp] theorem amd:FF 24 2 2 23:=by and_intros<;>kernel_rfl
@[simp] theorem agu:bJ Tryz.prog 24=some [(0,1),(1,1),(2,1)]:=by kernel_rfl
@[simp] theorem aqX:T5 25 (.struct) 3 ([.d (.str []),.lit (.slice none 0 0),.lit (.slice none 0 0)]) 64 (.agg ([.str [],.list [],.list []])):=by and_intros<;>kernel_rfl
@[simp] theorem ame:FF 25 0 0 9:=by and_intros<;>kernel_rfl
@[simp] theorem amf:FF 25 1 1 22:=by and_intros<;>kernel_rfl
@[simp] theorem amg:FF 25 2 2 23:=by and_intros<;>kernel_rfl
@[simp] theorem agv:bJ Tryz.prog 25=some [(0,1),(1,1),(2,1)]:=by kernel_rfl
@[simp] theorem aqY:T2 26 (.func) 1:=by and_intros<;>kernel_rfl
@[simp] theorem aqZ:T2 27 (.func) 1:=by and_intros<;>kernel_rfl
@[simp] theorem aq0:T5 28 (.struct) 2 ([.d (.int .i64 0),.d (.int .i64 0)]) 16 (.agg ([.int .i64 0,.int .i64 0])):=by and_intros<;>kernel_rfl
@[simp] theorem amh:FF 28 0 0 3:=by and_intros<;>kernel_rfl
@[simp] theorem ami:FF 28 1 1 3:=by and_intros<;>kernel_rfl
@[simp] theorem agw:bJ Tryz.prog 28=some [(0,1),(1,1)]∧dI Tryz.prog 28=some [.int .i64,.int .i64]:=by and_intros<;>kernel_rfl
@[simp] theorem aq1:T5 29 (.struct) 2 ([.d (.int .i64 0),.d (.int .i64 0)]) 16 (.agg ([.int .i64 0,.int .i64 0])):=by and_intros<;>kernel_rfl
@[simp] theorem amj:FF 29 0 0 3:=by and_intros<;>kernel_rfl
@[simp] theorem amk:FF 29 1 1 3:=by and_intros<;>kernel_rfl
@[simp] theorem agx:bJ Tryz.prog 29=some [(0,1),(1,1)]∧dI Tryz.prog 29=some [.int .i64,.int .i64]:=by and_intros<;>kernel_rfl
@[simp] theorem aq2:T2 30 (.func) 1:=by and_intros<;>kernel_rfl
@[simp] theorem aq3:T5 31 (.slice 56) 1 ([.lit (.slice none 0 0)]) 24 (.list []):=by and_intros<;>kernel_rfl
@[simp] theorem aim:fh Tryz.prog 31=true:=by kernel_rfl
@[simp] theorem aq4:T5 32 (.struct) 3 ([.lit (.slice none 0 0),.d (.int .i64 0),.d (.int .i64 0)]) 40 (.agg ([.list [],.int .i64 0,.int .i64 0])):=by and_intros<;>kernel_rfl
@[simp] theorem aml:FF 32 0 0 31:=by and_intros<;>kernel_rfl
@[simp] theorem amm:FF 32 1 1 3:=by and_intros<;>kernel_rfl
@[simp] theorem amn:FF 32 2 2 3:=by and_intros<;>kernel_rfl
@[simp] theorem agy:bJ Tryz.prog 32=some [(0,1),(1,1),(2,1)]:=by kernel_rfl
@[simp] theorem aq5:T5 33 (.struct) 3 ([.lit (.slice none 0 0),.d (.int .i64 0),.d (.int .i64 0)]) 40 (.agg ([.list [],.int .i64 0,.int .i64 0])):=by and_intros<;>kernel_rfl
@[simp] theorem amo:FF 33 0 0 31:=by and_intros<;>kernel_rfl
@[simp] theorem amp:FF 33 1 1 3:=by and_intros<;>kernel_rfl
@[simp] theorem amq:FF 33 2 2 3:=by and_intros<;>kernel_rfl
@[simp] theorem agz:bJ Tryz.prog 33=some [(0,1),(1,1),(2,1)]:=by kernel_rfl
@[simp] theorem aq6:T5 34 (.int .i64) 1 ([.d (.int .i64 0)]) 8 (.int .i64 0):=by and_intros<;>kernel_rfl
@[simp] theorem aq7:T2 36 (.func) 1:=by and_intros<;>kernel_rfl
@[simp] theorem aq8:T5 38 (.slice 5) 1 ([.lit (.slice none 0 0)]) 24 (.list []):=by and_intros<;>kernel_rfl
@[simp] theorem ain:fh Tryz.prog 38=true:=by kernel_rfl
@[simp] theorem aq9:T5 45 (.slice 2) 1 ([.lit (.slice none 0 0)]) 24 (.list []):=by and_intros<;>kernel_rfl
@[simp] theorem aio:fh Tryz.prog 45=true:=by kernel_rfl
@[simp] theorem ara:T2 46 (.func) 1:=by and_intros<;>kernel_rfl
@[simp] theorem arb:T5 48 (.struct) 3 ([.lit (.slice none 0 0),.d (.int .i64 0),.d (.int .i64 0)]) 40 (.agg ([.list [],.int .i64 0,.int .i64 0])):=by and_intros<;>kernel_rfl
@[simp] theorem amr:FF 48 0 0 45:=by and_intros<;>kernel_rfl
@[simp] theorem ams:FF 48 1 1 3:=by and_intros<;>kernel_rfl
@[simp] theorem amt:FF 48 2 2 3:=by and_intros<;>kernel_rfl
@[simp] theorem agA:bJ Tryz.prog 48=some [(0,1),(1,1),(2,1)]:=by kernel_rfl
@[simp] theorem arc:T5 55 (.struct) 5 ([.d (.int .i64 0),.d (.int .i64 0),.d (.int .i64 0),.d (.int .i64 0),.d (.int .i64 0)]) 40 (.agg ([.int .i64 0,.int .i64 0,.int .i64 0,.int .i64 0,.int .i64 0])):=by and_intros<;>kernel_rfl
@[simp] theorem amu:FF 55 0 0 3:=by and_intros<;>kernel_rfl
@[simp] theorem amv:FF 55 1 1 3:=by and_intros<;>kernel_rfl
@[simp] theorem amw:FF 55 2 2 3:=by and_intros<;>kernel_rfl
@[simp] theorem amx:FF 55 3 3 2:=by and_intros<;>kernel_rfl
@[simp] theorem amy:FF 55 4 4 2:=by and_intros<;>kernel_rfl
@[simp] theorem agB:bJ Tryz.prog 55=some [(0,1),(1,1),(2,1),(3,1),(4,1)]∧dI Tryz.prog 55=some [.int .i64,.int .i64,.int .i64,.int .i64,.int .i64]:=by and_intros<;>kernel_rfl
@[simp] theorem ard:T5 56 (.struct) 5 ([.d (.int .i64 0),.d (.int .i64 0),.d (.int .i64 0),.d (.int .i64 0),.d (.int .i64 0)]) 40 (.agg ([.int .i64 0,.int .i64 0,.int .i64 0,.int .i64 0,.int .i64 0])):=by and_intros<;>kernel_rfl
@[simp] theorem amz:FF 56 0 0 3:=by and_intros<;>kernel_rfl
@[simp] theorem amA:FF 56 1 1 3:=by and_intros<;>kernel_rfl
@[simp] theorem amB:FF 56 2 2 3:=by and_intros<;>kernel_rfl
@[simp] theorem amC:FF 56 3 3 2:=by and_intros<;>kernel_rfl
@[simp] theorem amD:FF 56 4 4 2:=by and_intros<;>kernel_rfl
@[simp] theorem agC:bJ Tryz.prog 56=some [(0,1),(1,1),(2,1),(3,1),(4,1)]∧dI Tryz.prog 56=some [.int .i64,.int .i64,.int .i64,.int .i64,.int .i64]:=by and_intros<;>kernel_rfl
@[simp] theorem are:T2 57 (.func) 1:=by and_intros<;>kernel_rfl
@[simp] theorem arf:T2 65 (.func) 1:=by and_intros<;>kernel_rfl
@[simp] theorem arh:T5 70 (.struct) 8 ([.d (.str []),.d (.int .i64 0),.d (.int .i64 0),.d (.bool false),.d (.int .i64 0),.d (.int .i64 0),.d (.int .i64 0),.d (.int .i64 0)]) 72 (.agg ([.str [],.int .i64 0,.int .i64 0,.bool false,.int .i64 0,.int .i64 0,.int .i64 0,.int .i64 0])):=by and_intros<;>kernel_rfl
@[simp] theorem amE:FF 70 0 0 9:=by and_intros<;>kernel_rfl
@[simp] theorem amF:FF 70 1 1 3:=by and_intros<;>kernel_rfl
@[simp] theorem amG:FF 70 2 2 3:=by and_intros<;>kernel_rfl
@[simp] theorem amH:FF 70 3 3 4:=by and_intros<;>kernel_rfl
@[simp] theorem amI:FF 70 4 4 2:=by and_intros<;>kernel_rfl
@[simp] theorem amJ:FF 70 5 5 2:=by and_intros<;>kernel_rfl
@[simp] theorem amK:FF 70 6 6 2:=by and_intros<;>kernel_rfl
@[simp] theorem amL:FF 70 7 7 3:=by and_intros<;>kernel_rfl
@[simp] theorem agD:bJ Tryz.prog 70=some [(0,1),(1,1),(2,1),(3,1),(4,1),(5,1),(6,1),(7,1)]∧dI Tryz.prog 70=some [.str,.int .i64,.int .i64,.bool,.int .i64,.int .i64,.int .i64,.int .i64]:=by and_intros<;>kernel_rfl
@[simp] theorem ari:T5 71 (.struct) 8 ([.d (.str []),.d (.int .i64 0),.d (.int .i64 0),.d (.bool false),.d (.int .i64 0),.d (.int .i64 0),.d (.int .i64 0),.d (.int .i64 0)]) 72 (.agg ([.str [],.int .i64 0,.int .i64 0,.bool false,.int .i64 0,.int .i64 0,.int .i64 0,.int .i64 0])):=by and_intros<;>kernel_rfl
@[simp] theorem amM:FF 71 0 0 9:=by and_intros<;>kernel_rfl
@[simp] theorem amN:FF 71 1 1 3:=by and_intros<;>kernel_rfl
@[simp] theorem amO:FF 71 2 2 3:=by and_intros<;>kernel_rfl
@[simp] theorem amP:FF 71 3 3 4:=by and_intros<;>kernel_rfl
@[simp] theorem amQ:FF 71 4 4 2:=by and_intros<;>kernel_rfl
@[simp] theorem amR:FF 71 5 5 2:=by and_intros<;>kernel_rfl
@[simp] theorem amS:FF 71 6 6 2:=by and_intros<;>kernel_rfl
@[simp] theorem amT:FF 71 7 7 3:=by and_intros<;>kernel_rfl
@[simp] theorem agE:bJ Tryz.prog 71=some [(0,1),(1,1),(2,1),(3,1),(4,1),(5,1),(6,1),(7,1)]∧dI Tryz.prog 71=some [.str,.int .i64,.int .i64,.bool,.int .i64,.int .i64,.int .i64,.int .i64]:=by and_intros<;>kernel_rfl
@[simp] theorem arj:T5 77 (.slice 3) 1 ([.lit (.slice none 0 0)]) 24 (.list []):=by and_intros<;>kernel_rfl
@[simp] theorem aip:fh Tryz.prog 77=true:=by kernel_rfl
@[simp] theorem ark:T5 78 (.struct) 3 ([.lit (.slice none 0 0),.d (.int .i64 0),.lit (.slice none 0 0)]) 56 (.agg ([.list [],.int .i64 0,.list []])):=by and_intros<;>kernel_rfl
@[simp] theorem amU:FF 78 0 0 77:=by and_intros<;>kernel_rfl
@[simp] theorem amV:FF 78 1 1 3:=by and_intros<;>kernel_rfl
@[simp] theorem amW:FF 78 2 2 45:=by and_intros<;>kernel_rfl
@[simp] theorem agF:bJ Tryz.prog 78=some [(0,1),(1,1),(2,1)]:=by kernel_rfl
@[simp] theorem arl:T5 79 (.struct) 3 ([.lit (.slice none 0 0),.d (.int .i64 0),.lit (.slice none 0 0)]) 56 (.agg ([.list [],.int .i64 0,.list []])):=by and_intros<;>kernel_rfl
@[simp] theorem amX:FF 79 0 0 77:=by and_intros<;>kernel_rfl
@[simp] theorem amY:FF 79 1 1 3:=by and_intros<;>kernel_rfl
@[simp] theorem amZ:FF 79 2 2 45:=by and_intros<;>kernel_rfl
@[simp] theorem agG:bJ Tryz.prog 79=some [(0,1),(1,1),(2,1)]:=by kernel_rfl
@[simp] theorem arn:T2 81 (.ptr 84) 1:=by and_intros<;>kernel_rfl
@[simp] theorem aro:T5 82 (.slice 77) 1 ([.lit (.slice none 0 0)]) 24 (.list []):=by and_intros<;>kernel_rfl
@[simp] theorem aiq:fh Tryz.prog 82=true:=by kernel_rfl
@[simp] theorem arp:T5 83 (.struct) 9 ([.d (.str []),.lit (.slice none 0 0),.lit (.slice none 0 0),.lit (.slice none 0 0),.d (.int .i64 0),.d (.int .i64 0),.d (.int .i64 0),.lit (.slice none 0 0),.lit (.slice none 0 0)]) 160 (.agg ([.str [],.list [],.list [],.list [],.int .i64 0,.int .i64 0,.int .i64 0,.list [],.list []])):=by and_intros<;>kernel_rfl
@[simp] theorem am0:FF 83 0 0 25:=by and_intros<;>kernel_rfl
@[simp] theorem am1:FF 83 1 3 31:=by and_intros<;>kernel_rfl
@[simp] theorem am2:FF 83 2 4 3:=by and_intros<;>kernel_rfl
@[simp] theorem am3:FF 83 3 5 3:=by and_intros<;>kernel_rfl
@[simp] theorem am4:FF 83 4 6 3:=by and_intros<;>kernel_rfl
@[simp] theorem am5:FF 83 5 7 82:=by and_intros<;>kernel_rfl
@[simp] theorem am6:FF 83 6 8 77:=by and_intros<;>kernel_rfl
@[simp] theorem agH:bJ Tryz.prog 83=some [(0,3),(3,1),(4,1),(5,1),(6,1),(7,1),(8,1)]:=by kernel_rfl
@[simp] theorem arq:T5 84 (.struct) 9 ([.d (.str []),.lit (.slice none 0 0),.lit (.slice none 0 0),.lit (.slice none 0 0),.d (.int .i64 0),.d (.int .i64 0),.d (.int .i64 0),.lit (.slice none 0 0),.lit (.slice none 0 0)]) 160 (.agg ([.str [],.list [],.list [],.list [],.int .i64 0,.int .i64 0,.int .i64 0,.list [],.list []])):=by and_intros<;>kernel_rfl
@[simp] theorem am7:FF 84 0 0 25:=by and_intros<;>kernel_rfl
@[simp] theorem am8:FF 84 1 3 31:=by and_intros<;>kernel_rfl
@[simp] theorem am9:FF 84 2 4 3:=by and_intros<;>kernel_rfl
@[simp] theorem ana:FF 84 3 5 3:=by and_intros<;>kernel_rfl
@[simp] theorem anb:FF 84 4 6 3:=by and_intros<;>kernel_rfl
@[simp] theorem anc:FF 84 5 7 82:=by and_intros<;>kernel_rfl
@[simp] theorem ane:FF 84 6 8 77:=by and_intros<;>kernel_rfl
@[simp] theorem agI:bJ Tryz.prog 84=some [(0,3),(3,1),(4,1),(5,1),(6,1),(7,1),(8,1)]:=by kernel_rfl
@[simp] theorem ars:T2 88 (.ptr 91) 1:=by and_intros<;>kernel_rfl
@[simp] theorem art:T5 89 (.slice 4) 1 ([.lit (.slice none 0 0)]) 24 (.list []):=by and_intros<;>kernel_rfl
@[simp] theorem air:fh Tryz.prog 89=true:=by kernel_rfl
@[simp] theorem aru:T5 90 (.struct) 5 ([.lit (.slice none 0 0),.d (.int .i64 0),.d (.int .i64 0),.lit (.slice none 0 0),.lit (.slice none 0 0)]) 88 (.agg ([.list [],.int .i64 0,.int .i64 0,.list [],.list []])):=by and_intros<;>kernel_rfl
@[simp] theorem anf:FF 90 0 0 33:=by and_intros<;>kernel_rfl
@[simp] theorem ang:FF 90 1 3 89:=by and_intros<;>kernel_rfl
@[simp] theorem anh:FF 90 2 4 89:=by and_intros<;>kernel_rfl
@[simp] theorem agJ:bJ Tryz.prog 90=some [(0,3),(3,1),(4,1)]:=by kernel_rfl
@[simp] theorem arv:T5 91 (.struct) 5 ([.lit (.slice none 0 0),.d (.int .i64 0),.d (.int .i64 0),.lit (.slice none 0 0),.lit (.slice none 0 0)]) 88 (.agg ([.list [],.int .i64 0,.int .i64 0,.list [],.list []])):=by and_intros<;>kernel_rfl
@[simp] theorem ani:FF 91 0 0 33:=by and_intros<;>kernel_rfl
@[simp] theorem anj:FF 91 1 3 89:=by and_intros<;>kernel_rfl
@[simp] theorem ank:FF 91 2 4 89:=by and_intros<;>kernel_rfl
@[simp] theorem agK:bJ Tryz.prog 91=some [(0,3),(3,1),(4,1)]:=by kernel_rfl
@[simp] theorem arw:T5 94 (.struct) 2 ([.lit (.slice none 0 0),.d (.int .i64 0)]) 32 (.agg ([.list [],.int .i64 0])):=by and_intros<;>kernel_rfl
@[simp] theorem anl:FF 94 0 0 38:=by and_intros<;>kernel_rfl
@[simp] theorem anm:FF 94 1 1 34:=by and_intros<;>kernel_rfl
@[simp] theorem agL:bJ Tryz.prog 94=some [(0,1),(1,1)]:=by kernel_rfl
@[simp] theorem arx:T5 95 (.struct) 2 ([.lit (.slice none 0 0),.d (.int .i64 0)]) 32 (.agg ([.list [],.int .i64 0])):=by and_intros<;>kernel_rfl
@[simp] theorem ann:FF 95 0 0 38:=by and_intros<;>kernel_rfl
@[simp] theorem ano:FF 95 1 1 34:=by and_intros<;>kernel_rfl
@[simp] theorem agM:bJ Tryz.prog 95=some [(0,1),(1,1)]:=by kernel_rfl
@[simp] theorem ary:T5 96 (.int .u64) 1 ([.d (.int .u64 0)]) 8 (.int .u64 0):=by and_intros<;>kernel_rfl
@[simp] theorem arz:T2 97 (.func) 1:=by and_intros<;>kernel_rfl
@[simp] theorem aoM:T2 100 (.func) 1:=by and_intros<;>kernel_rfl
@[simp] theorem aoN:T5 103 (.int .u16) 1 ([.d (.int .u16 0)]) 2 (.int .u16 0):=by and_intros<;>kernel_rfl
@[simp] theorem aoO:T2 105 (.func) 1:=by and_intros<;>kernel_rfl
@[simp] theorem aoP:T5 111 (.arr 64 2) 64 (List.replicate 64 (.d (.int .i64 0))) 512 (.agg (List.replicate 64 (.int .i64 0))):=by and_intros<;>kernel_rfl
@[simp] theorem ac9:bJ Tryz.prog 111=none:=by kernel_rfl
@[simp] theorem aoQ:T5 116 (.slice 119) 1 ([.lit (.slice none 0 0)]) 24 (.list []):=by and_intros<;>kernel_rfl
@[simp] theorem agN:fh Tryz.prog 116=true:=by kernel_rfl
@[simp] theorem aoR:T5 119 (.slice 175) 1 ([.lit (.slice none 0 0)]) 24 (.list []):=by and_intros<;>kernel_rfl
@[simp] theorem agO:fh Tryz.prog 119=true:=by kernel_rfl
@[simp] theorem aoS:T5 122 (.struct) 7 ([.d (.str []),.lit (.slice none 0 0),.lit (.slice none 0 0),.lit (.slice none 0 0),.lit (.slice none 0 0),.lit (.slice none 0 0),.d (.int .i64 0)]) 144 (.agg ([.str [],.list [],.list [],.list [],.list [],.list [],.int .i64 0])):=by and_intros<;>kernel_rfl
@[simp] theorem ais:FF 122 0 0 25:=by and_intros<;>kernel_rfl
@[simp] theorem ait:FF 122 1 3 77:=by and_intros<;>kernel_rfl
@[simp] theorem aiu:FF 122 2 4 116:=by and_intros<;>kernel_rfl
@[simp] theorem aiv:FF 122 3 5 45:=by and_intros<;>kernel_rfl
@[simp] theorem aiw:FF 122 4 6 3:=by and_intros<;>kernel_rfl
@[simp] theorem ada:bJ Tryz.prog 122=some [(0,3),(3,1),(4,1),(5,1),(6,1)]:=by kernel_rfl
@[simp] theorem aoT:T2 128 (.func) 1:=by and_intros<;>kernel_rfl
@[simp] theorem aoU:T2 133 (.func) 1:=by and_intros<;>kernel_rfl
@[simp] theorem aoV:T5 134 (.slice 136) 1 ([.lit (.slice none 0 0)]) 24 (.list []):=by and_intros<;>kernel_rfl
@[simp] theorem agP:fh Tryz.prog 134=true:=by kernel_rfl
@[simp] theorem aoW:T5 135 (.struct) 6 ([.d (.int .i64 0),.d (.int .i64 0),.d (.str []),.d (.str []),.lit (.slice none 0 0),.d (.int .i64 0)]) 80 (.agg ([.int .i64 0,.int .i64 0,.str [],.str [],.list [],.int .i64 0])):=by and_intros<;>kernel_rfl
@[simp] theorem aix:FF 135 0 0 3:=by and_intros<;>kernel_rfl
@[simp] theorem aiy:FF 135 1 1 2:=by and_intros<;>kernel_rfl
@[simp] theorem aiz:FF 135 2 2 9:=by and_intros<;>kernel_rfl
@[simp] theorem aiA:FF 135 3 3 9:=by and_intros<;>kernel_rfl
@[simp] theorem aiB:FF 135 4 4 134:=by and_intros<;>kernel_rfl
@[simp] theorem aiC:FF 135 5 5 3:=by and_intros<;>kernel_rfl
@[simp] theorem adb:bJ Tryz.prog 135=some [(0,1),(1,1),(2,1),(3,1),(4,1),(5,1)]:=by kernel_rfl
@[simp] theorem aoX:T5 136 (.struct) 6 ([.d (.int .i64 0),.d (.int .i64 0),.d (.str []),.d (.str []),.lit (.slice none 0 0),.d (.int .i64 0)]) 80 (.agg ([.int .i64 0,.int .i64 0,.str [],.str [],.list [],.int .i64 0])):=by and_intros<;>kernel_rfl
@[simp] theorem aiD:FF 136 0 0 3:=by and_intros<;>kernel_rfl
@[simp] theorem aiE:FF 136 1 1 2:=by and_intros<;>kernel_rfl
@[simp] theorem aiF:FF 136 2 2 9:=by and_intros<;>kernel_rfl
@[simp] theorem aiG:FF 136 3 3 9:=by and_intros<;>kernel_rfl
@[simp] theorem aiH:FF 136 4 4 134:=by and_intros<;>kernel_rfl
@[simp] theorem aiI:FF 136 5 5 3:=by and_intros<;>kernel_rfl
@[simp] theorem ade:bJ Tryz.prog 136=some [(0,1),(1,1),(2,1),(3,1),(4,1),(5,1)]:=by kernel_rfl
@[simp] theorem aoY:T5 137 (.slice 45) 1 ([.lit (.slice none 0 0)]) 24 (.list []):=by and_intros<;>kernel_rfl
@[simp] theorem agQ:fh Tryz.prog 137=true:=by kernel_rfl
@[simp] theorem aoZ:T5 138 (.slice 9) 1 ([.lit (.slice none 0 0)]) 24 (.list []):=by and_intros<;>kernel_rfl
@[simp] theorem agR:fh Tryz.prog 138=true:=by kernel_rfl
@[simp] theorem ao0:T5 139 (.slice 23) 1 ([.lit (.slice none 0 0)]) 24 (.list []):=by and_intros<;>kernel_rfl
@[simp] theorem agS:fh Tryz.prog 139=true:=by kernel_rfl
@[simp] theorem ao1:T5 140 (.struct) 19 ([.d (.int .i64 0),.d (.str []),.d (.int .i64 0),.d (.int .i64 0),.d (.str []),.d (.str []),.lit (.slice none 0 0),.d (.int .i64 0),.d (.int .i64 0),.d (.int .i64 0),.d (.str []),.d (.str []),.lit (.slice none 0 0),.d (.int .i64 0),.lit (.slice none 0 0),.lit (.slice none 0 0),.lit (.slice none 0 0),.lit (.slice none 0 0),.d (.int .i64 0)]) 288 (.agg ([.int .i64 0,.str [],.int .i64 0,.int .i64 0,.str [],.str [],.list [],.int .i64 0,.int .i64 0,.int .i64 0,.str [],.str [],.list [],.int .i64 0,.list [],.list [],.list [],.list [],.int .i64 0])):=by and_intros<;>kernel_rfl
@[simp] theorem aiJ:FF 140 0 0 3:=by and_intros<;>kernel_rfl
@[simp] theorem aiK:FF 140 1 1 9:=by and_intros<;>kernel_rfl
@[simp] theorem aiL:FF 140 2 2 136:=by and_intros<;>kernel_rfl
@[simp] theorem aiM:FF 140 3 8 136:=by and_intros<;>kernel_rfl
@[simp] theorem aiN:FF 140 4 14 134:=by and_intros<;>kernel_rfl
@[simp] theorem aiO:FF 140 5 15 137:=by and_intros<;>kernel_rfl
@[simp] theorem aiP:FF 140 6 16 138:=by and_intros<;>kernel_rfl
@[simp] theorem aiQ:FF 140 7 17 139:=by and_intros<;>kernel_rfl
@[simp] theorem aiR:FF 140 8 18 3:=by and_intros<;>kernel_rfl
@[simp] theorem adf:bJ Tryz.prog 140=some [(0,1),(1,1),(2,6),(8,6),(14,1),(15,1),(16,1),(17,1),(18,1)]:=by kernel_rfl
@[simp] theorem ao2:T5 141 (.struct) 19 ([.d (.int .i64 0),.d (.str []),.d (.int .i64 0),.d (.int .i64 0),.d (.str []),.d (.str []),.lit (.slice none 0 0),.d (.int .i64 0),.d (.int .i64 0),.d (.int .i64 0),.d (.str []),.d (.str []),.lit (.slice none 0 0),.d (.int .i64 0),.lit (.slice none 0 0),.lit (.slice none 0 0),.lit (.slice none 0 0),.lit (.slice none 0 0),.d (.int .i64 0)]) 288 (.agg ([.int .i64 0,.str [],.int .i64 0,.int .i64 0,.str [],.str [],.list [],.int .i64 0,.int .i64 0,.int .i64 0,.str [],.str [],.list [],.int .i64 0,.list [],.list [],.list [],.list [],.int .i64 0])):=by and_intros<;>kernel_rfl
@[simp] theorem aiS:FF 141 0 0 3:=by and_intros<;>kernel_rfl
@[simp] theorem aiT:FF 141 1 1 9:=by and_intros<;>kernel_rfl
@[simp] theorem aiU:FF 141 2 2 136:=by and_intros<;>kernel_rfl
@[simp] theorem aiV:FF 141 3 8 136:=by and_intros<;>kernel_rfl
@[simp] theorem aiW:FF 141 4 14 134:=by and_intros<;>kernel_rfl
@[simp] theorem aiX:FF 141 5 15 137:=by and_intros<;>kernel_rfl
@[simp] theorem aiY:FF 141 6 16 138:=by and_intros<;>kernel_rfl
@[simp] theorem aiZ:FF 141 7 17 139:=by and_intros<;>kernel_rfl
@[simp] theorem ai0:FF 141 8 18 3:=by and_intros<;>kernel_rfl
@[simp] theorem adg:bJ Tryz.prog 141=some [(0,1),(1,1),(2,6),(8,6),(14,1),(15,1),(16,1),(17,1),(18,1)]:=by kernel_rfl
@[simp] theorem ao3:T5 145 (.slice 148) 1 ([.lit (.slice none 0 0)]) 24 (.list []):=by and_intros<;>kernel_rfl
@[simp] theorem agT:fh Tryz.prog 145=true:=by kernel_rfl
@[simp] theorem ao4:T5 147 (.struct) 4 ([.d (.int .i64 0),.d (.str []),.d (.str []),.lit (.slice none 0 0)]) 64 (.agg ([.int .i64 0,.str [],.str [],.list []])):=by and_intros<;>kernel_rfl
@[simp] theorem ai1:FF 147 0 0 3:=by and_intros<;>kernel_rfl
@[simp] theorem ai2:FF 147 1 1 9:=by and_intros<;>kernel_rfl
@[simp] theorem ai3:FF 147 2 2 9:=by and_intros<;>kernel_rfl
@[simp] theorem ai4:FF 147 3 3 138:=by and_intros<;>kernel_rfl
@[simp] theorem adh:bJ Tryz.prog 147=some [(0,1),(1,1),(2,1),(3,1)]:=by kernel_rfl
@[simp] theorem ao5:T5 148 (.struct) 4 ([.d (.int .i64 0),.d (.str []),.d (.str []),.lit (.slice none 0 0)]) 64 (.agg ([.int .i64 0,.str [],.str [],.list []])):=by and_intros<;>kernel_rfl
@[simp] theorem ai5:FF 148 0 0 3:=by and_intros<;>kernel_rfl
@[simp] theorem ai6:FF 148 1 1 9:=by and_intros<;>kernel_rfl
@[simp] theorem ai7:FF 148 2 2 9:=by and_intros<;>kernel_rfl
@[simp] theorem ai8:FF 148 3 3 138:=by and_intros<;>kernel_rfl
@[simp] theorem adi:bJ Tryz.prog 148=some [(0,1),(1,1),(2,1),(3,1)]:=by kernel_rfl
@[simp] theorem ao6:T2 155 (.func) 1:=by and_intros<;>kernel_rfl
@[simp] theorem ao7:T5 158 (.int .u64) 1 ([.d (.int .u64 0)]) 8 (.int .u64 0):=by and_intros<;>kernel_rfl
@[simp] theorem ao8:T2 160 (.func) 1:=by and_intros<;>kernel_rfl
@[simp] theorem ao9:T5 174 (.struct) 3 ([.d (.str []),.d (.int .i64 0),.d (.bool false)]) 32 (.agg ([.str [],.int .i64 0,.bool false])):=by and_intros<;>kernel_rfl
@[simp] theorem ai9:FF 174 0 0 9:=by and_intros<;>kernel_rfl
@[simp] theorem aja:FF 174 1 1 3:=by and_intros<;>kernel_rfl
@[simp] theorem ajb:FF 174 2 2 4:=by and_intros<;>kernel_rfl
@[simp] theorem adj:bJ Tryz.prog 174=some [(0,1),(1,1),(2,1)]∧dI Tryz.prog 174=some [.str,.int .i64,.bool]:=by and_intros<;>kernel_rfl
@[simp] theorem apa:T5 175 (.struct) 3 ([.d (.str []),.d (.int .i64 0),.d (.bool false)]) 32 (.agg ([.str [],.int .i64 0,.bool false])):=by and_intros<;>kernel_rfl
@[simp] theorem ajc:FF 175 0 0 9:=by and_intros<;>kernel_rfl
@[simp] theorem ajd:FF 175 1 1 3:=by and_intros<;>kernel_rfl
@[simp] theorem aje:FF 175 2 2 4:=by and_intros<;>kernel_rfl
@[simp] theorem adk:bJ Tryz.prog 175=some [(0,1),(1,1),(2,1)]∧dI Tryz.prog 175=some [.str,.int .i64,.bool]:=by and_intros<;>kernel_rfl
@[simp] theorem apb:T5 177 (.struct) 5 ([.d (.int .i64 0),.d (.str []),.d (.str []),.d (.str []),.d (.int .i64 0)]) 64 (.agg ([.int .i64 0,.str [],.str [],.str [],.int .i64 0])):=by and_intros<;>kernel_rfl
@[simp] theorem ajf:FF 177 0 0 3:=by and_intros<;>kernel_rfl
@[simp] theorem ajg:FF 177 1 1 9:=by and_intros<;>kernel_rfl
@[simp] theorem ajh:FF 177 2 2 9:=by and_intros<;>kernel_rfl
@[simp] theorem aji:FF 177 3 3 9:=by and_intros<;>kernel_rfl
@[simp] theorem ajj:FF 177 4 4 3:=by and_intros<;>kernel_rfl
@[simp] theorem adl:bJ Tryz.prog 177=some [(0,1),(1,1),(2,1),(3,1),(4,1)]∧dI Tryz.prog 177=some [.int .i64,.str,.str,.str,.int .i64]:=by and_intros<;>kernel_rfl
@[simp] theorem apc:T5 178 (.struct) 5 ([.d (.int .i64 0),.d (.str []),.d (.str []),.d (.str []),.d (.int .i64 0)]) 64 (.agg ([.int .i64 0,.str [],.str [],.str [],.int .i64 0])):=by and_intros<;>kernel_rfl
@[simp] theorem ajk:FF 178 0 0 3:=by and_intros<;>kernel_rfl
@[simp] theorem ajl:FF 178 1 1 9:=by and_intros<;>kernel_rfl
@[simp] theorem ajm:FF 178 2 2 9:=by and_intros<;>kernel_rfl
@[simp] theorem ajn:FF 178 3 3 9:=by and_intros<;>kernel_rfl
@[simp] theorem ajo:FF 178 4 4 3:=by and_intros<;>kernel_rfl
@[simp] theorem adm:bJ Tryz.prog 178=some [(0,1),(1,1),(2,1),(3,1),(4,1)]∧dI Tryz.prog 178=some [.int .i64,.str,.str,.str,.int .i64]:=by and_intros<;>kernel_rfl
@[simp] theorem apd:T5 204 (.slice 134) 1 ([.lit (.slice none 0 0)]) 24 (.list []):=by and_intros<;>kernel_rfl
@[simp] theorem agU:fh Tryz.prog 204=true:=by kernel_rfl
@[simp] theorem ape:T5 229 (.slice 178) 1 ([.lit (.slice none 0 0)]) 24 (.list []):=by and_intros<;>kernel_rfl
@[simp] theorem agV:fh Tryz.prog 229=true:=by kernel_rfl
@[simp] theorem apf:T2 232 (.func) 1:=by and_intros<;>kernel_rfl
@[simp] theorem apg:T2 255 (.func) 1:=by and_intros<;>kernel_rfl
@[simp] theorem aph:T5 274 (.arr 256 5) 256 (List.replicate 256 (.d (.int .u8 0))) 256 (.agg (List.replicate 256 (.int .u8 0))):=by and_intros<;>kernel_rfl
@[simp] theorem adn:bJ Tryz.prog 274=none:=by kernel_rfl
@[simp] theorem api:T2 276 (.func) 1:=by and_intros<;>kernel_rfl
@[simp] theorem apj:T2 302 (.func) 1:=by and_intros<;>kernel_rfl
@[simp] theorem apk:T5 305 (.slice 307) 1 ([.lit (.slice none 0 0)]) 24 (.list []):=by and_intros<;>kernel_rfl
@[simp] theorem agW:fh Tryz.prog 305=true:=by kernel_rfl
@[simp] theorem apl:T5 306 (.struct) 2 ([.d (.int .i64 0),.d (.int .i64 0)]) 16 (.agg ([.int .i64 0,.int .i64 0])):=by and_intros<;>kernel_rfl
@[simp] theorem ajp:FF 306 0 0 3:=by and_intros<;>kernel_rfl
@[simp] theorem ajq:FF 306 1 1 3:=by and_intros<;>kernel_rfl
@[simp] theorem ado:bJ Tryz.prog 306=some [(0,1),(1,1)]∧dI Tryz.prog 306=some [.int .i64,.int .i64]:=by and_intros<;>kernel_rfl
@[simp] theorem apm:T5 307 (.struct) 2 ([.d (.int .i64 0),.d (.int .i64 0)]) 16 (.agg ([.int .i64 0,.int .i64 0])):=by and_intros<;>kernel_rfl
@[simp] theorem ajr:FF 307 0 0 3:=by and_intros<;>kernel_rfl
@[simp] theorem ajs:FF 307 1 1 3:=by and_intros<;>kernel_rfl
@[simp] theorem adp:bJ Tryz.prog 307=some [(0,1),(1,1)]∧dI Tryz.prog 307=some [.int .i64,.int .i64]:=by and_intros<;>kernel_rfl
@[simp] theorem apn:T5 308 (.int .u32) 1 ([.d (.int .u32 0)]) 4 (.int .u32 0):=by and_intros<;>kernel_rfl
@[simp] theorem apo:T2 310 (.ptr 340) 1:=by and_intros<;>kernel_rfl
@[simp] theorem apq:T5 337 (.slice 342) 1 ([.lit (.slice none 0 0)]) 24 (.list []):=by and_intros<;>kernel_rfl
@[simp] theorem agX:fh Tryz.prog 337=true:=by kernel_rfl
@[simp] theorem apr:T5 338 (.slice 345) 1 ([.lit (.slice none 0 0)]) 24 (.list []):=by and_intros<;>kernel_rfl
@[simp] theorem agY:fh Tryz.prog 338=true:=by kernel_rfl
@[simp] theorem aps:T5 339 (.struct) 3 ([.lit (.slice none 0 0),.lit (.slice none 0 0),.d (.int .i64 0)]) 56 (.agg ([.list [],.list [],.int .i64 0])):=by and_intros<;>kernel_rfl
@[simp] theorem ajt:FF 339 0 0 337:=by and_intros<;>kernel_rfl
@[simp] theorem aju:FF 339 1 1 338:=by and_intros<;>kernel_rfl
@[simp] theorem ajv:FF 339 2 2 3:=by and_intros<;>kernel_rfl
@[simp] theorem adq:bJ Tryz.prog 339=some [(0,1),(1,1),(2,1)]:=by kernel_rfl
@[simp] theorem apt:T5 340 (.struct) 3 ([.lit (.slice none 0 0),.lit (.slice none 0 0),.d (.int .i64 0)]) 56 (.agg ([.list [],.list [],.int .i64 0])):=by and_intros<;>kernel_rfl
@[simp] theorem ajw:FF 340 0 0 337:=by and_intros<;>kernel_rfl
@[simp] theorem ajx:FF 340 1 1 338:=by and_intros<;>kernel_rfl
@[simp] theorem ajy:FF 340 2 2 3:=by and_intros<;>kernel_rfl
@[simp] theorem adr:bJ Tryz.prog 340=some [(0,1),(1,1),(2,1)]:=by kernel_rfl
@[simp] theorem apu:T5 341 (.struct) 3 ([.d (.int .u16 0),.d (.int .u16 0),.d (.int .u16 0)]) 6 (.agg ([.int .u16 0,.int .u16 0,.int .u16 0])):=by and_intros<;>kernel_rfl
@[simp] theorem ajz:FF 341 0 0 103:=by and_intros<;>kernel_rfl
@[simp] theorem ajA:FF 341 1 1 103:=by and_intros<;>kernel_rfl
@[simp] theorem ajB:FF 341 2 2 103:=by and_intros<;>kernel_rfl
@[simp] theorem ads:bJ Tryz.prog 341=some [(0,1),(1,1),(2,1)]∧dI Tryz.prog 341=some [.int .u16,.int .u16,.int .u16]:=by and_intros<;>kernel_rfl
@[simp] theorem apv:T5 342 (.struct) 3 ([.d (.int .u16 0),.d (.int .u16 0),.d (.int .u16 0)]) 6 (.agg ([.int .u16 0,.int .u16 0,.int .u16 0])):=by and_intros<;>kernel_rfl
@[simp] theorem ajC:FF 342 0 0 103:=by and_intros<;>kernel_rfl
@[simp] theorem ajD:FF 342 1 1 103:=by and_intros<;>kernel_rfl
@[simp] theorem ajE:FF 342 2 2 103:=by and_intros<;>kernel_rfl
@[simp] theorem adt:bJ Tryz.prog 342=some [(0,1),(1,1),(2,1)]∧dI Tryz.prog 342=some [.int .u16,.int .u16,.int .u16]:=by and_intros<;>kernel_rfl
@[simp] theorem apw:T5 344 (.struct) 3 ([.d (.int .u32 0),.d (.int .u32 0),.d (.int .u32 0)]) 12 (.agg ([.int .u32 0,.int .u32 0,.int .u32 0])):=by and_intros<;>kernel_rfl
@[simp] theorem ajF:FF 344 0 0 308:=by and_intros<;>kernel_rfl
@[simp] theorem ajG:FF 344 1 1 308:=by and_intros<;>kernel_rfl
@[simp] theorem ajH:FF 344 2 2 308:=by and_intros<;>kernel_rfl
@[simp] theorem adu:bJ Tryz.prog 344=some [(0,1),(1,1),(2,1)]∧dI Tryz.prog 344=some [.int .u32,.int .u32,.int .u32]:=by and_intros<;>kernel_rfl
@[simp] theorem apx:T5 345 (.struct) 3 ([.d (.int .u32 0),.d (.int .u32 0),.d (.int .u32 0)]) 12 (.agg ([.int .u32 0,.int .u32 0,.int .u32 0])):=by and_intros<;>kernel_rfl
@[simp] theorem ajI:FF 345 0 0 308:=by and_intros<;>kernel_rfl
@[simp] theorem ajJ:FF 345 1 1 308:=by and_intros<;>kernel_rfl
@[simp] theorem ajK:FF 345 2 2 308:=by and_intros<;>kernel_rfl
@[simp] theorem adv:bJ Tryz.prog 345=some [(0,1),(1,1),(2,1)]∧dI Tryz.prog 345=some [.int .u32,.int .u32,.int .u32]:=by and_intros<;>kernel_rfl
@[simp] theorem apy:T2 356 (.ptr 342) 1:=by and_intros<;>kernel_rfl
@[simp] theorem apz:T2 357 (.ptr 345) 1:=by and_intros<;>kernel_rfl
@[simp] theorem apA:T3 367 (.struct) 4 ([.lit (.pointer none),.lit (.pointer none),.lit (.pointer none),.d (.str [])]):=by and_intros<;>kernel_rfl
@[simp] theorem ajL:FF 367 0 0 17:=by and_intros<;>kernel_rfl
@[simp] theorem ajM:FF 367 1 1 17:=by and_intros<;>kernel_rfl
@[simp] theorem ajN:FF 367 2 2 17:=by and_intros<;>kernel_rfl
@[simp] theorem ajO:FF 367 3 3 9:=by and_intros<;>kernel_rfl
@[simp] theorem adw:bJ Tryz.prog 367=some [(0,1),(1,1),(2,1),(3,1)]:=by kernel_rfl
@[simp] theorem apB:T3 368 (.struct) 4 ([.lit (.pointer none),.lit (.pointer none),.lit (.pointer none),.d (.str [])]):=by and_intros<;>kernel_rfl
@[simp] theorem ajP:FF 368 0 0 17:=by and_intros<;>kernel_rfl
@[simp] theorem ajQ:FF 368 1 1 17:=by and_intros<;>kernel_rfl
@[simp] theorem ajR:FF 368 2 2 17:=by and_intros<;>kernel_rfl
@[simp] theorem ajS:FF 368 3 3 9:=by and_intros<;>kernel_rfl
@[simp] theorem adx:bJ Tryz.prog 368=some [(0,1),(1,1),(2,1),(3,1)]:=by kernel_rfl
@[simp] theorem apC:T5 369 (.arr 0 16) 0 ([]) 0 (.agg ([])):=by and_intros<;>kernel_rfl
@[simp] theorem ady:bJ Tryz.prog 369=none:=by kernel_rfl
@[simp] theorem apD:T5 370 (.struct) 0 ([]) 0 (.agg ([])):=by and_intros<;>kernel_rfl
@[simp] theorem adz:bJ Tryz.prog 370=some [(0,0)]:=by kernel_rfl
@[simp] theorem apE:T5 371 (.struct) 0 ([]) 0 (.agg ([])):=by and_intros<;>kernel_rfl
@[simp] theorem adA:bJ Tryz.prog 371=some [(0,0)]:=by kernel_rfl
@[simp] theorem apF:T5 372 (.int .u8) 1 ([.d (.int .u8 0)]) 1 (.int .u8 0):=by and_intros<;>kernel_rfl
@[simp] theorem apG:T5 373 (.int .u8) 1 ([.d (.int .u8 0)]) 1 (.int .u8 0):=by and_intros<;>kernel_rfl
@[simp] theorem apH:T2 374 (.func) 1:=by and_intros<;>kernel_rfl
@[simp] theorem apI:T2 375 (.ptr 5) 1:=by and_intros<;>kernel_rfl
@[simp] theorem apJ:T5 376 (.int .i32) 1 ([.d (.int .i32 0)]) 4 (.int .i32 0):=by and_intros<;>kernel_rfl
@[simp] theorem apK:T5 377 (.int .i32) 1 ([.d (.int .i32 0)]) 4 (.int .i32 0):=by and_intros<;>kernel_rfl
@[simp] theorem apL:T3 378 (.struct) 11 ([.d (.int .u64 0),.d (.int .u64 0),.d (.int .u32 0),.d (.int .u8 0),.d (.int .u8 0),.d (.int .u8 0),.d (.int .u8 0),.lit .nilFunc,.lit (.pointer none),.d (.int .i32 0),.d (.int .i32 0)]):=by and_intros<;>kernel_rfl
@[simp] theorem ajT:FF 378 0 0 12:=by and_intros<;>kernel_rfl
@[simp] theorem ajU:FF 378 1 1 12:=by and_intros<;>kernel_rfl
@[simp] theorem ajV:FF 378 2 2 308:=by and_intros<;>kernel_rfl
@[simp] theorem ajW:FF 378 3 3 372:=by and_intros<;>kernel_rfl
@[simp] theorem ajX:FF 378 4 4 5:=by and_intros<;>kernel_rfl
@[simp] theorem ajY:FF 378 5 5 5:=by and_intros<;>kernel_rfl
@[simp] theorem ajZ:FF 378 6 6 373:=by and_intros<;>kernel_rfl
@[simp] theorem aj0:FF 378 7 7 374:=by and_intros<;>kernel_rfl
@[simp] theorem aj1:FF 378 8 8 375:=by and_intros<;>kernel_rfl
@[simp] theorem aj2:FF 378 9 9 376:=by and_intros<;>kernel_rfl
@[simp] theorem agZ:FF 378 10 10 377:=by and_intros<;>kernel_rfl
@[simp] theorem adB:bJ Tryz.prog 378=some [(0,1),(1,1),(2,1),(3,1),(4,1),(5,1),(6,1),(7,1),(8,1),(9,1),(10,1)]:=by kernel_rfl
@[simp] theorem apM:T3 379 (.struct) 11 ([.d (.int .u64 0),.d (.int .u64 0),.d (.int .u32 0),.d (.int .u8 0),.d (.int .u8 0),.d (.int .u8 0),.d (.int .u8 0),.lit .nilFunc,.lit (.pointer none),.d (.int .i32 0),.d (.int .i32 0)]):=by and_intros<;>kernel_rfl
@[simp] theorem aj3:FF 379 0 0 12:=by and_intros<;>kernel_rfl
@[simp] theorem aj4:FF 379 1 1 12:=by and_intros<;>kernel_rfl
@[simp] theorem aj5:FF 379 2 2 308:=by and_intros<;>kernel_rfl
@[simp] theorem aj6:FF 379 3 3 372:=by and_intros<;>kernel_rfl
@[simp] theorem aj7:FF 379 4 4 5:=by and_intros<;>kernel_rfl
@[simp] theorem aj8:FF 379 5 5 5:=by and_intros<;>kernel_rfl
@[simp] theorem aj9:FF 379 6 6 373:=by and_intros<;>kernel_rfl
@[simp] theorem aka:FF 379 7 7 374:=by and_intros<;>kernel_rfl
@[simp] theorem akb:FF 379 8 8 375:=by and_intros<;>kernel_rfl
@[simp] theorem akc:FF 379 9 9 376:=by and_intros<;>kernel_rfl
@[simp] theorem ag0:FF 379 10 10 377:=by and_intros<;>kernel_rfl
@[simp] theorem adC:bJ Tryz.prog 379=some [(0,1),(1,1),(2,1),(3,1),(4,1),(5,1),(6,1),(7,1),(8,1),(9,1),(10,1)]:=by kernel_rfl
end Go.Am
end
section
namespace Go.Am
open Go
def idxO:List D→Option D
 |[.str s,.str t]=>if s.length<4294967281 then some (.int .i64 (Go.Lib.index s t))else none
 |_=>none
def ibO:List D→Option D
 |[.str s,.int .u8 c]=>some (.int .i64 (Go.Lib.indexByte s c.toNat.toUInt8))
 |_=>none
def hpO:List D→Option D
 |[.str s,.str p]=>some (.bool (Go.Lib.hasPrefix s p))
 |_=>none
attribute [simp] idxO.eq_1 ibO.eq_1 hpO.eq_1
section
variable {X:Ctx} {cl:bz} {md:Bool} {all:List Oper} {S:St}
@[simp] theorem acz {d:Option Tmp} {op:Op} {ty:TypeId} {pos:String} {af:Array Edge}:dX X cl md all S ⟨d,op,ty,pos,af,none⟩=dstep X cl S ⟨d,op,ty,pos,af,none⟩ (stepv X.P S ⟨d,op,ty,pos,af,none⟩):=rfl
@[simp] theorem akd {js:List Nat} {i:Nat} {acc:List aR}:qn X md all js i [] S acc=some (revA acc []):=by rw[yq,List.append_nil];rfl
theorem pOps_cons {js:List Nat} {i:Nat} {o:Oper} {r:List Oper} {acc:List aR}:qn X md all js i (o::r) S acc=if js.contains i=true then (match dX X (fun _ _ _=>none) md all S o with
 |some (S1,p)=>qn X md all js (i+1) r S1 (p::acc)
 |none=>none)else qn X md all js (i+1) r (S.put o.dst false .aW) (⟨[],[],false,.aW⟩::acc):=by
 simp only[qn];cases js.contains i<;>rfl
end
attribute [simp] pOps_cons dstep.eq_1 dstep.eq_2 dstep.eq_3 panE.eq_1 pEnd.eq_1 pEnd.eq_2 verSum.eq_1 verSum.eq_2 verSums.eq_1 verSums.eq_2 killM.eq_1 killM.eq_2 St.kill.eq_1 farE.eq_1 farE.eq_2 farJ.eq_1 farJ.eq_2
attribute [simp] el_frz el_back el_callK el_dcallK
section
variable {ε σ α:Type} {X:Ctx} {md:Bool} {nd:Nat×List (List Nat)} {S:St} {d:Option Nat} {all q:List Oper} {acc:List aR} {k:Kt} {r:PR ε σ α} {f:α→σ→Option fK} {g:ε→σ→Option fK}
@[simp] theorem ag1:dcallG X md nd S d all q acc k (r.el f g)=r.el (fun a s=>dcallG X md nd S d all q acc k (f a s)) (fun e s=>dcallG X md nd S d all q acc k (g e s)):=by cases r<;>rfl
@[simp] theorem anp:memC S (r.el f g)=r.el (fun a s=>memC S (f a s)) (fun e s=>memC S (g e s)):=by cases r<;>rfl
@[simp] theorem anq {p:aM} {n0:Nat} {rs:List ResultVar} {f:α→σ→Option St} {g:ε→σ→Option St}:finM X p n0 rs (r.el f g)=r.el (fun a s=>finM X p n0 rs (f a s)) (fun e s=>finM X p n0 rs (g e s)):=by cases r<;>rfl
end
attribute [simp] denKD_seq denKD_cond denKD_ret denKD_skip denKD_loop denKD_block denKD_draw denKD_reg runKD_nil runKD_cons
attribute [simp] seqKD.eq_1 leaveKD.eq_1 nextKD.eq_1 oneKD.eq_1 oneKD.eq_2 finKD.eq_1 finKD.eq_2 finM.eq_1 finM.eq_2 memC.eq_1 recA.eq_1 recA.eq_2 recA.eq_3 finD1.eq_1 denRK_seq finRK.eq_1 finRK.eq_2
section
variable {X:Ctx} {f:FuncId} {S:St} {ds:List DF} {kd:xD} {b:Code}
@[simp] theorem anr:seqKD X f b kd .ret S ds=kd .ret S ds:=rfl
@[simp] theorem ans {t:TypeId} {x:D}:seqKD X f b kd (.panic t x) S ds=kd (.panic t x) S ds:=rfl
@[simp] theorem ant {i:Nat}:seqKD X f b kd (.exit i) S ds=kd (.exit i) S ds:=rfl
@[simp] theorem ag2 {id:Nat} {t:TypeId} {x:D}:leaveKD X f id kd (.panic t x) S ds=kd (.panic t x) S ds:=rfl
@[simp] theorem ake {md:Bool} {all r:List Oper} {t:TypeId} {x:D}:nextKD X md all r ds kd (.panic t x) S=kd (.panic t x) S ds:=rfl
end
@[simp] theorem Xe:contKeys none=[]:=rfl
@[simp] theorem Xf (k v:Nat):contKeys (some ⟨k,v,.dead⟩)=[]:=rfl
@[simp] theorem YJ (k v:Nat) (cs:List AV):contKeys (some ⟨k,v,.box cs⟩)=avsKeys cs:=rfl
@[simp] theorem YK (k v sz:Nat) (rows:List D):contKeys (some ⟨k,v,.vec sz rows⟩)=[]:=rfl
@[simp] theorem YL (k v:Nat) (rows:List (List D)):contKeys (some ⟨k,v,.vv rows none⟩)=[]:=rfl
@[simp] theorem acA (k v:Nat) (rows:List (List D)) (x:AV):contKeys (some ⟨k,v,.vv rows (some x)⟩)=avKeys x:=rfl
@[simp] theorem anu (m ρ bor nv rows y):selC m ρ bor nv (.vv rows y)=.vv rows (y.map (vw m ρ bor nv)):=rfl
@[simp] theorem ag3 (rows y):plainC (.vv rows y)=(rows.all plainDs&&(match y with|none=>true|some x=>plainAV x)):=rfl
@[simp] theorem apN (ρ bs rows y):upC ρ bs (.vv rows y)=.vv rows (y.map (up ρ bs)):=rfl
@[simp] theorem anv (τ rows y):mapC τ (.vv rows y)=.vv rows (y.map τ):=rfl
@[simp] theorem akf {n0:Nat} {b:Bool} {c:Prop} [Decidable c] {x y:Option (Out×List (Nat×aD))}:frzR n0 b (if c then x else y)=if c then frzR n0 b x else frzR n0 b y:=by split<;>rfl
@[simp] theorem Xg (P t k0 len ps):gB P t k0 len ps none=none:=by
 unfold gB;split<;>simp_all
@[simp] theorem adD (P t k0 len n x o):gB P t k0 len [(n,.d x)] o=none:=by
 unfold gB;split<;>simp_all
@[simp] theorem YM (P t k0 len n x o):gB P t k0 len [(n,.agg x)] o=none:=by
 unfold gB;split<;>simp_all
@[simp] theorem YN (P t k0 len o):gB P t k0 len [] o=none:=by
 unfold gB;split<;>simp_all
@[simp] theorem YO (P t k0 len p q r o):gB P t k0 len (p::q::r) o=none:=by
 unfold gB;split<;>simp_all
@[simp] theorem YP (P t k0 len k v c):gB P t k0 len [(0,.lit (.slice none 0 0))] (some ⟨k,v,c⟩)=(match tk P t with
 | .slice e=>match fm P e,lH P e with
  |some sz,some _=>some (.cW (sz=1∧len=1) (.vec k0 (v+1) 0 1) ⟨k0,v+1,.box [.lit (.slice none 0 0)]⟩)
  |_,_=>none
 |_=>none):=rfl
attribute [simp] buildSlice0.eq_1
attribute [simp] storeV.eq_1 appV.eq_1
attribute [simp] Gh.go St.opn.eq_1 St.cls.eq_1 St.shut.eq_1 St.adoptV.eq_1
end Go.Am
end
section
namespace Go.Am
open Go
open Go.Proofs
set_option maxRecDepth 10000
@[simp] def UK:Nat→List Nat
 |0=>[1]
 |1=>[1,6]
 |2=>[2]
 |3=>[1,20]
 |4=>[2]
 |5=>[3,4]
 |6=>[2]
 |_=>[]
@[simp] def md3:Nat→Bool
 |3=>true
 |6=>true
 |_=>false
@[simp] def YQ:aM:=⟨[],false,[150,250],[],false⟩
@[simp] def Pr:Nat→List Nat
 |0=>[]
 |1=>[0]
 |_=>[]
@[simp] def YR:Nat→Bool
 |1=>true
 |_=>false
@[simp] def YS:aM:=⟨[],false,[],[],false⟩
@[simp] def Ps:Nat→List Nat
 |0=>[1]
 |1=>[1,3]
 |2=>[2]
 |_=>[]
@[simp] def Ss:aM:=⟨[],false,[150],[],false⟩
@[simp] def Pt:Nat→List Nat
 |0=>[1]
 |1=>[1,14]
 |2=>[2]
 |3=>[1,3]
 |4=>[1,3,19]
 |5=>[1,3]
 |6=>[1,3,4]
 |7=>[1,3,4,40]
 |8=>[2]
 |9=>[1,3,4,54]
 |10=>[2]
 |11=>[1,3,4,93]
 |12=>[2]
 |13=>[1,3,125]
 |14=>[2]
 |15=>[2]
 |_=>[]
@[simp] def YT:Nat→Bool
 |9=>true
 |11=>true
 |13=>true
 |_=>false
@[simp] def Su:aM:=⟨[],false,[150,300],[],false⟩
@[simp] def Pu:Nat→List Nat
 |0=>[1,2]
 |1=>[1,2,3]
 |2=>[1,2,3,4]
 |3=>[1,2,3,4,11]
 |4=>[1,2,3,4]
 |5=>[1,2,3,4,6]
 |6=>[1,2,3,4,28]
 |7=>[2]
 |8=>[1,2,3,4]
 |9=>[1,2,3,4,45]
 |10=>[2]
 |11=>[2]
 |_=>[]
@[simp] def YU:Nat→List (List Nat)
 |5=>[[2,4,5,6,7,8,9,14],[2,4,5,6,7,8,9,14],[0,1,4,5,6,7,8,9,14],[4,5,6,7,8,9,14],[0,1,2,3,6,14],[0,1,2,3,6,14],[0,1,2,3,4,5,14],[0,1,2,3,14],[0,1,2,3,14],[0,1,2,3,14],[14],[14],[13,14],[12,14,15],[0,1,2,3,4,5,6,7,8,9,10,11,12,13],[13],[]]
 |_=>[]
@[simp] def Sv:aM:=⟨[],false,[150,200,350],[],false⟩
@[simp] def Pv:Nat→List Nat
 |0=>[1,2]
 |1=>[1,2,4]
 |2=>[1,2,4,5]
 |3=>[2,4,5]
 |4=>[2,4,5]
 |5=>[2,4,5]
 |6=>[2,4,5,39]
 |7=>[2,3]
 |8=>[2,3]
 |_=>[]
@[simp] def YV:Nat→List (List Nat)
 |8=>[[4,5,6,7,8],[4,5,6,7,8],[4,5,6,7,8],[4,5,6,7,8],[0,1,2,3,5,6,7,8],[0,1,2,3,4],[0,1,2,3,4],[0,1,2,3,4],[0,1,2,3,4],[],[],[]]
 |_=>[]
@[simp] def YW:Nat→List Gh
 |2=>[.adopt 700 3 701 5,.adoptV 700 7 702,.adopt 700 8 703 1]
 |_=>[]
@[simp] def Sw:aM:=⟨[],false,[150,200,700,701,702,703],[],false⟩
@[simp] def Pw:Nat→List Nat
 |0=>[1]
 |1=>[3]
 |2=>[2]
 |_=>[]
@[simp] def YX:Nat→Bool
 |2=>true
 |_=>false
@[simp] def YY:Nat→List (List Nat)
 |1=>[[1,2,3,4],[0],[0],[0],[0],[],[],[]]
 |_=>[]
@[simp] def YZ:Nat→List Gh
 |1=>[.adopt 600 3 601 1]
 |_=>[]
@[simp] def Sx:aM:=⟨[],false,[150,500,600,601],[],false⟩
@[simp] def Px:Nat→List Nat
 |0=>[1,2]
 |1=>[1,2]
 |2=>[2]
 |_=>[]
@[simp] def Sy:aM:=⟨[],false,[150,200],[],false⟩
@[simp] def Py:Nat→List Nat
 |0=>[1,2]
 |1=>[2,6,7]
 |2=>[4,5]
 |_=>[]
@[simp] def Sz:aM:=⟨[],false,[200],[],false⟩
@[simp] def Pz:Nat→List Nat
 |0=>[0]
 |1=>[0,17]
 |2=>[2]
 |3=>[0,3]
 |4=>[0,3,21]
 |5=>[0,3]
 |6=>[0,3,4]
 |7=>[0,3,4,5]
 |8=>[0,3,58]
 |9=>[2]
 |10=>[2]
 |_=>[]
@[simp] def Y0:Nat→Bool
 |1=>true
 |7=>true
 |8=>true
 |_=>false
@[simp] def SA:aM:=⟨[],false,[],[],false⟩
@[simp] def PA:Nat→List Nat
 |0=>[0]
 |1=>[0,3]
 |2=>[0,3,4]
 |3=>[0,3,4,9]
 |4=>[0,3,4]
 |5=>[0,3,4,18]
 |6=>[2]
 |7=>[2]
 |_=>[]
@[simp] def SB:aM:=⟨[],false,[],[],false⟩
@[simp] def PB:Nat→List Nat
 |0=>[0]
 |1=>[0,3]
 |2=>[0,3,20]
 |3=>[0,3]
 |4=>[0,3,4]
 |5=>[0,3,4,5,6,7]
 |6=>[0,3,4,6,7,59]
 |7=>[2]
 |8=>[0,3,4,7,89]
 |9=>[2]
 |10=>[0,3,4,118]
 |11=>[2]
 |12=>[0,3,4,8,9,10,11,12]
 |13=>[0,3,4,8,9,10,11,12,120]
 |14=>[0,3,4,8,9,10,11,12,120,121]
 |15=>[0,3,4,8,9,10,11,12]
 |16=>[0,3,4,8,9,10,11,12,120,131]
 |17=>[0,3,4,8,9,10,11,12]
 |18=>[0,3,4,8,9,10,11,12,120,139]
 |19=>[0,3,4,8,9,10,11,12]
 |20=>[0,3,4,8,9,10,11,12,120,141]
 |21=>[0,3,4,8,9,10,11,12,120,141]
 |22=>[0,3,4,8,9,10,11,12]
 |23=>[0,3,4,8,9,10,11,12,144]
 |24=>[0,3,4,8,9,10,11,12]
 |25=>[0,3,4,186]
 |26=>[2]
 |27=>[0,3,4,13]
 |28=>[0,3,4,13,191]
 |29=>[0,3,4,13]
 |30=>[0,3,4,13,200]
 |31=>[2]
 |32=>[0,3,4,14]
 |33=>[0,3,4,14,205]
 |34=>[0,3,4,14]
 |35=>[0,3,4,14,224]
 |36=>[2]
 |37=>[0,3,4,14,15]
 |38=>[0,3,4,14,15,232]
 |39=>[0,3,4,14,15]
 |40=>[0,3,4,14,15,243]
 |41=>[2]
 |42=>[0,3,4,16]
 |43=>[0,3,4,16,248]
 |44=>[0,3,4,16]
 |45=>[0,3,4,16,257]
 |46=>[2]
 |47=>[2]
 |_=>[]
@[simp] def Y1:Nat→Bool
 |6=>true
 |8=>true
 |10=>true
 |35=>true
 |_=>false
@[simp] def Y2:Nat→List (List Nat)
 |15=>[[4,5,6,7],[4,5,6,7],[4,5,6,7],[4,5,6,7],[0,1,2,3,8],[0,1,2,3,8],[0,1,2,3,8],[0,1,2,3,8],[4,5,6,7],[],[]]
 |17=>[[3,4,5],[3,4,5],[3,4,5],[0,1,2,6],[0,1,2,6],[0,1,2,6],[3,4,5],[],[]]
 |24=>[[3,4,5],[3,4,5],[3,4,5],[0,1,2,6],[0,1,2,6],[0,1,2,6],[3,4,5],[]]
 |_=>[]
@[simp] def SC:aM:=⟨[],false,[300],[],false⟩
@[simp] def PC:Nat→List Nat
 |0=>[0,1,4]
 |1=>[0,1,4,6]
 |2=>[0,1,4,6,10]
 |3=>[0,1,4,6]
 |4=>[0,1,4,6,19]
 |5=>[4,5]
 |6=>[4,5]
 |_=>[]
@[simp] def SD:aM:=⟨[],false,[300],[],false⟩
@[simp] def PD:Nat→List Nat
 |0=>[1]
 |1=>[1,4]
 |2=>[2]
 |3=>[1,13]
 |4=>[2]
 |5=>[2]
 |_=>[]
@[simp] def SF:aM:=⟨[],false,[150],[],false⟩
@[simp] def PE:Nat→List Nat
 |0=>[0,1,2,6]
 |1=>[0,1,2,6,7]
 |2=>[0,1,2,6,7,12]
 |3=>[0,1,2,6,7]
 |4=>[0,1,2,6,7,8]
 |5=>[0,1,2,6,7,8,24]
 |6=>[6]
 |7=>[6]
 |_=>[]
@[simp] def SG:aM:=⟨[],false,[400,500],[],false⟩
@[simp] def PF:Nat→List Nat
 |0=>[1,2]
 |1=>[1,2,3]
 |2=>[2,3,8,9,10]
 |3=>[2,3,8,9,10,11]
 |4=>[2,3,5,8,9,10]
 |5=>[2,3,5,8,9,10]
 |6=>[2,3,5,6,8,9,10]
 |7=>[2,3,5,6,8,9,10]
 |8=>[2,3,5,8,9,10]
 |9=>[2,3,5,8,9,10,40]
 |10=>[2,3,8,9,10]
 |11=>[2,3,8,9,10]
 |12=>[2]
 |_=>[]
@[simp] def Y3:Nat→List Gh
 |1=>[.adopt 250 0 251 1,.adopt 250 2 252 1]
 |_=>[]
@[simp] def SH:aM:=⟨[],false,[150,200,250,251,252,350],[],false⟩
@[simp] def PG:Nat→List Nat
 |0=>[0,6,7,8]
 |1=>[0,6,7,8,9]
 |2=>[0,5,6,7,8]
 |3=>[0,6,7,8]
 |4=>[0,6,7,8]
 |_=>[]
@[simp] def SI:aM:=⟨[1,2,3,4,5,6,7,8],false,[350],[],false⟩
@[simp] def PH:Nat→List Nat
 |0=>[0,6,7,8]
 |1=>[0,6,7,8,9]
 |2=>[0,5,6,7,8]
 |3=>[0,6,7,8]
 |4=>[0,6,7,8]
 |_=>[]
@[simp] def SJ:aM:=⟨[1,2,3,4,5,6,7,8],false,[],[1],false⟩
@[simp] def PI:Nat→List Nat
 |0=>[0,2,4]
 |1=>[0,2]
 |2=>[0]
 |3=>[0]
 |4=>[6]
 |_=>[]
@[simp] def Y4:Nat→List (List Nat)
 |1=>[[1,2,3,4,5,6,7],[0,5,6],[0,5,6],[0,5,6],[0,5,6],[0,1,2,3,4],[0,1,2,3,4],[0],[],[],[]]
 |3=>[[1,2,3,4,5,6,7,8,9],[0,5,6,7,8],[0,5,6,7,8],[0,5,6,7,8],[0,5,6,7,8],[0,1,2,3,4],[0,1,2,3,4],[0,1,2,3,4],[0,1,2,3,4],[0],[],[],[]]
 |_=>[]
@[simp] def SK:aM:=⟨[1,2,3,4,5,6,7,8],false,[300],[],false⟩
@[simp] def PJ:Nat→List Nat
 |0=>[0]
 |1=>[0,3]
 |2=>[0,3,4]
 |3=>[0,3,51]
 |4=>[2]
 |5=>[0,53,54,55]
 |6=>[0,53,54,55,56]
 |7=>[0,5,6,53,54,55]
 |8=>[0,53,54,55,64]
 |9=>[2]
 |10=>[0,53,54,55]
 |11=>[2]
 |_=>[]
@[simp] def Y5:Nat→Bool
 |3=>true
 |_=>false
@[simp] def SL:aM:=⟨[1,2],false,[250,400],[],false⟩
@[simp] def PK:Nat→List Nat
 |0=>[0]
 |1=>[0,11,12,13]
 |2=>[0,11,12,13,14]
 |3=>[0,4,11,12,13]
 |4=>[0,4,11,12,13,24]
 |5=>[0,11,12,13]
 |6=>[0,11,12,13]
 |7=>[0,37,38,39]
 |8=>[0,37,38,39,40]
 |9=>[0,5,6,37,38,39]
 |10=>[0,37,38,39,61]
 |11=>[2]
 |12=>[0,37,38,39]
 |13=>[2]
 |_=>[]
@[simp] def Y6:Nat→Bool
 |10=>true
 |_=>false
@[simp] def Za:Nat→List (List Nat)
 |5=>[[4,5],[4,5],[4,5],[4,5],[0,1,2,3],[0,1,2,3],[],[]]
 |_=>[]
@[simp] def SM:aM:=⟨[],false,[300,400],[],false⟩
@[simp] def PL:Nat→List Nat
 |0=>[0]
 |1=>[0,3]
 |2=>[0,3,17,18]
 |3=>[0,3,17,18,19]
 |4=>[0,3,4,17,18]
 |5=>[0,3,17,18,24]
 |6=>[2]
 |7=>[0,3,17,18]
 |8=>[2]
 |_=>[]
@[simp] def SN:aM:=⟨[1,2],false,[650],[],false⟩
@[simp] def PN:Nat→List Nat
 |0=>[0]
 |1=>[0,14]
 |2=>[2]
 |3=>[0,3]
 |4=>[0,3,4]
 |5=>[0,3,4,19]
 |6=>[0,3,4]
 |7=>[0,3,4,28]
 |8=>[3,4,5]
 |9=>[3,4,5,6]
 |10=>[3,4,5,6,36]
 |11=>[3,4,5,6]
 |12=>[3,4,5,6,7]
 |13=>[3,4,5,6,7,8]
 |14=>[3,4,5,6,7,8,52]
 |15=>[3,4,5,6,7,8]
 |16=>[3,4,5,6,7,8,55]
 |17=>[3,4,5,6,7,8]
 |18=>[3,4,5,6,8]
 |19=>[3,4,5,6]
 |20=>[2]
 |21=>[2]
 |_=>[]
@[simp] def SO:aM:=⟨[],false,[350,500],[],false⟩
@[simp] def PO:Nat→List Nat
 |0=>[0]
 |1=>[3,4]
 |2=>[3,12]
 |3=>[2]
 |4=>[3,5]
 |5=>[5,21,22]
 |6=>[5,21,22,23]
 |7=>[5,21,22]
 |8=>[5,21,22]
 |9=>[2]
 |_=>[]
@[simp] def Zb:Nat→List (List Nat)
 |4=>[[3,4],[3,4],[3,4],[0,1,2],[0,1,2],[],[],[]]
 |_=>[]
@[simp] def SP:aM:=⟨[],false,[250,851],[],false⟩
@[simp] def PQ:Nat→List Nat
 |0=>[0]
 |1=>[0,3]
 |2=>[3,9,10,11]
 |3=>[3,9,10,11,12]
 |4=>[3,5,9,10,11]
 |5=>[3,5,9,10,11]
 |6=>[3,5,6,9,10,11]
 |7=>[3,5,6,9,10,11,28,29,30]
 |8=>[3,5,6,9,10,11,28,29,30,31]
 |9=>[3,5,6,8,9,10,11,28,29,30]
 |10=>[3,5,6,9,10,11,28,29,30]
 |11=>[3,5,6,9,10,11,28,29,30]
 |12=>[3,5,9,10,11]
 |13=>[3,9,10,11]
 |14=>[3,9,10,11]
 |15=>[2]
 |_=>[]
@[simp] def Zc:Nat→List (List Nat)
 |5=>[[3,4,6,7],[3,4,6,7],[3,4,6,7],[0,1,2,6,7],[0,1,2,6,7],[6,7,9],[0,1,2,3,4,5],[0,1,2,3,4,5],[9],[5,8],[],[],[],[],[]]
 |_=>[]
@[simp] def Zd:Nat→List Gh
 |1000002=>[.freeze 400]
 |_=>[]
@[simp] def SQ:aM:=⟨[],false,[250,350,400],[],false⟩
@[simp] def PT:Nat→List Nat
 |0=>[0,1]
 |1=>[0,1,6,7]
 |2=>[0,1,6,7,8]
 |3=>[0,1,6,7,8,26]
 |4=>[0,1,6,7,8]
 |5=>[0,1,6,7,8]
 |6=>[0,1,6,7,8,9]
 |7=>[0,1,6,7,8,9,42,43,44]
 |8=>[0,1,6,7,8,9,42,43,44,45]
 |9=>[0,1,6,7,8,9,11,42,43,44]
 |10=>[0,1,6,7,8,9,12,13,42,43,44]
 |11=>[0,1,6,7,8,9,13,42,43,44]
 |12=>[0,1,6,7,8,9,42,43,44]
 |13=>[0,1,6,7,8,9,42,43,44]
 |14=>[0,1,6,7,8,9]
 |15=>[0,1,6,7,8,9,14]
 |16=>[0,1,6,7,8,9,14,88]
 |17=>[0,1,6,7,8,9,14]
 |18=>[0,1,6,7,8,9,14]
 |19=>[0,1,6,7,8,9,15]
 |20=>[0,1,6,7,8,9,15,111]
 |21=>[0,1,6,7,8,9,15]
 |22=>[0,1,6,7,8,9,15,16,17]
 |23=>[0,1,6,7,8,9,15,17]
 |24=>[0,1,6,7,8,9,15]
 |25=>[4,5]
 |_=>[]
@[simp] def SR:aM:=⟨[],false,[550],[],false⟩
@[simp] def PU:Nat→List Nat
 |0=>[0]
 |1=>[0,5,6,7]
 |2=>[0,5,6,7,8]
 |3=>[0,4,5,6,7]
 |4=>[0,5,6,7,13]
 |5=>[2]
 |6=>[0,5,6,7]
 |7=>[2]
 |_=>[]
@[simp] def SU:aM:=⟨[],false,[],[],false⟩
@[simp] def PV:Nat→List Nat
 |0=>[]
 |1=>[0]
 |_=>[]
@[simp] def Ze:aM:=⟨[],false,[],[],false⟩
@[simp] def PW:Nat→List Nat
 |0=>[0]
 |1=>[2,3,4]
 |_=>[]
@[simp] def SV:aM:=⟨[],false,[],[],false⟩
@[simp] def PX:Nat→List Nat
 |0=>[0]
 |1=>[0,3]
 |2=>[0,3,11]
 |3=>[0,3]
 |4=>[0,3,4]
 |5=>[0,3,4,5,6,7]
 |6=>[0,3,4,5,6,7,18]
 |7=>[0,3,4,5,6,7,18]
 |8=>[0,3,4,5,6,7,18]
 |9=>[0,3,4,5,6,7,18]
 |10=>[0,3,4,5,6,7,18]
 |11=>[2]
 |12=>[0,3,4,5,6,7,54]
 |13=>[0,3,4,5,6,7]
 |14=>[0,3,4,5,6,7,58]
 |15=>[0,3,4,5,6,7]
 |16=>[0,3,4,5,6,7,62]
 |17=>[0,3,4,5,6,7]
 |18=>[0,3,4,5,6,7,66]
 |19=>[0,3,4,5,6,7]
 |20=>[0,3,4,5,6,7,75]
 |21=>[0,3,4,5,6,7]
 |22=>[0,3,125]
 |23=>[2]
 |24=>[2]
 |_=>[]
@[simp] def Zf:Nat→Bool
 |7=>true
 |22=>true
 |_=>false
@[simp] def SW:aM:=⟨[],false,[300],[],false⟩
@[simp] def PY:Nat→List Nat
 |0=>[1]
 |1=>[2]
 |_=>[]
@[simp] def SX:aM:=⟨[],false,[150],[],false⟩
@[simp] def PZ:Nat→List Nat
 |0=>[0,2,4,6]
 |1=>[0,2,4,6,25]
 |2=>[0,2,4,6,25,26]
 |3=>[0,4,6,7,8]
 |4=>[0,4,6,7,37]
 |5=>[6]
 |6=>[0,4,6,44]
 |7=>[6]
 |8=>[0,4,6,9,10]
 |9=>[0,4,6,9,10,58]
 |10=>[6]
 |11=>[4,6,9,10,11]
 |12=>[4,6,9,10,11,69]
 |13=>[6]
 |14=>[4,6,73]
 |15=>[6]
 |16=>[0,2,4,6,25,77]
 |17=>[0,2,4,6,12]
 |18=>[0,2,4,6,12,83]
 |19=>[0,2,4,6,12]
 |20=>[0,2,4,6,12,90]
 |21=>[0,2,4,6,12,13]
 |22=>[0,2,4,6,12,13,100]
 |23=>[6]
 |24=>[0,2,4,6,12,14]
 |25=>[0,2,4,6,12,14,112]
 |26=>[6]
 |27=>[0,2,4,6,25,114]
 |28=>[0,2,4,6,15]
 |29=>[0,2,4,6,15,122]
 |30=>[6]
 |31=>[0,2,4,6,16]
 |32=>[0,2,4,6,16,128]
 |33=>[0,2,4,6,16]
 |34=>[0,2,4,6,16,17]
 |35=>[0,2,4,6,16,17,141]
 |36=>[6]
 |37=>[0,2,4,6,25,143]
 |38=>[0,4,6,18,19]
 |39=>[0,4,6,18,153]
 |40=>[6]
 |41=>[0,4,6,18,159]
 |42=>[6]
 |43=>[0,4,6,169]
 |44=>[6]
 |45=>[0,4,6,20]
 |46=>[0,4,6,20,177]
 |47=>[0,4,6,20]
 |48=>[0,4,6,20,21]
 |49=>[0,4,6,20,21,189]
 |50=>[6]
 |51=>[6]
 |52=>[0,2,4,6,25,197]
 |53=>[0,4,6,22]
 |54=>[0,4,6,22,205]
 |55=>[6]
 |56=>[6]
 |57=>[0,2,4,6,25,213]
 |58=>[0,4,6,23]
 |59=>[0,4,6,23,223]
 |60=>[6]
 |61=>[6]
 |62=>[0,2,4,6,25,229]
 |63=>[4,6,232]
 |64=>[6]
 |65=>[0,4,6,236]
 |66=>[6]
 |67=>[6]
 |_=>[]
@[simp] def SY:aM:=⟨[],false,[300,400,450,600,750,800,850,950,1000,1150,1200,1250],[],false⟩
@[simp] def P0:Nat→List Nat
 |0=>[1]
 |1=>[1,3]
 |2=>[2]
 |3=>[1,12]
 |4=>[2]
 |5=>[2]
 |_=>[]
@[simp] def SZ:aM:=⟨[],false,[150],[],false⟩
@[simp] def P1:Nat→List Nat
 |0=>[2,3]
 |1=>[2,3]
 |2=>[2,3,8]
 |3=>[2,3,8,9]
 |4=>[]
 |5=>[2,3,8,14]
 |6=>[]
 |7=>[2,3,8,24]
 |8=>[]
 |9=>[2,3,8,29]
 |10=>[]
 |11=>[2,3,8,34]
 |12=>[2,3,8,34]
 |13=>[]
 |14=>[2,3,8,40]
 |15=>[2,4]
 |16=>[]
 |17=>[2,3,8,65]
 |18=>[]
 |19=>[2,3,78]
 |20=>[]
 |_=>[]
@[simp] def Zg:Nat→List (List Nat)
 |16=>[[4,5,6,7,8,9,10,11,12,13,14,15],[4,5,6,7,8,9,10,11,12,13,14,15],[4,5,6,7,8,9,10,11,12,13,14,15],[4,5,6,7,8,9,10,11,12,13,14,15],[0,1,2,3,5,6,7,8,9,10,11,12,13,14,15],[0,1,2,3,4,9,12,13,14],[0,1,2,3,4,9,12,13,14],[0,1,2,3,4,9,12,13,14],[0,1,2,3,4,9,12,13,14],[0,1,2,3,4,5,6,7,8,12,13,14],[0,1,2,3,4,12,13,14],[0,1,2,3,4,12,13,14],[0,1,2,3,4,5,6,7,8,9,10,11],[0,1,2,3,4,5,6,7,8,9,10,11],[0,1,2,3,4,5,6,7,8,9,10,11],[0,1,2,3,4],[],[]]
 |18=>[[1,2,3,4,5,6,7,8],[0,5,6,7],[0,5,6,7],[0,5,6,7],[0,5,6,7],[0,1,2,3,4],[0,1,2,3,4],[0,1,2,3,4],[0],[],[],[]]
 |_=>[]
@[simp] def Zh:Nat→List Gh
 |15=>[.opn 2 101]
 |16=>[.cls 2 101]
 |_=>[]
@[simp] def Zi:Nat→List (Nat×Nat)
 |16=>[(0,7),(2,0)]
 |18=>[(0,8)]
 |_=>[]
@[simp] def S5:aM:=⟨[1,2,3,4,5,6,7,8],false,[101,200,250],[],false⟩
@[simp] def P2:Nat→List Nat
 |0=>[]
 |_=>[]
@[simp] def Zj:Nat→List (List Nat)
 |0=>[[4,5,6],[4,5,6],[4,5,6],[4,5,6],[0,1,2,3,5,6],[0,1,2,3,4],[0,1,2,3,4],[],[],[]]
 |_=>[]
@[simp] def Zk:Nat→List (Nat×Nat)
 |0=>[(0,3)]
 |_=>[]
@[simp] def S6:aM:=⟨[1,2,3,4,5,6,7,8],false,[],[],false⟩
@[simp] def P3:Nat→List Nat
 |0=>[0,1,5]
 |1=>[0,1,5,7]
 |2=>[0,1,5,7,17]
 |3=>[0,1,5,7,17,18]
 |4=>[0,1,5,7,17,18]
 |5=>[6]
 |6=>[0,1,5,7,17,21]
 |7=>[0,1,5,7,17,21]
 |8=>[0,1,5,7,17,21]
 |9=>[0,1,5,7,17,21]
 |10=>[6]
 |11=>[0,1,5,7,17,30]
 |12=>[6]
 |13=>[0,1,5,7,17,42]
 |14=>[0,1,5,7,17,42]
 |15=>[0,1,5,7,17,42]
 |16=>[6]
 |17=>[0,1,5,7,17,49]
 |18=>[6]
 |19=>[0,1,5,7,17,53]
 |20=>[0,1,5,7,17,53]
 |21=>[6]
 |22=>[0,1,5,7,17,65]
 |23=>[0,5,8]
 |24=>[6]
 |25=>[1,7,80]
 |26=>[6]
 |27=>[6]
 |_=>[]
@[simp] def Zl:Nat→Bool
 |12=>true
 |24=>true
 |_=>false
@[simp] def S7:aM:=⟨[1,2],false,[350],[],false⟩
@[simp] def P4:Nat→List Nat
 |0=>[0]
 |1=>[2]
 |_=>[]
@[simp] def S8:aM:=⟨[1,2],false,[],[],false⟩
@[simp] def P5:Nat→List Nat
 |0=>[0,3]
 |1=>[0,3,7]
 |2=>[0,3,7,8]
 |3=>[4]
 |4=>[0,3,7,20]
 |5=>[4]
 |6=>[0,3,7,24]
 |7=>[0,3,7,24]
 |8=>[0,3,7,24]
 |9=>[4]
 |10=>[0,3,7,30]
 |11=>[4]
 |12=>[0,3,7,38]
 |13=>[4]
 |14=>[0,3,7,46]
 |15=>[4]
 |16=>[0,3,7,50]
 |17=>[4]
 |18=>[0,3,7,54]
 |19=>[0,3,5]
 |20=>[0,3,5,63]
 |21=>[0,3,5]
 |22=>[4]
 |23=>[0,82]
 |24=>[4]
 |25=>[4]
 |_=>[]
@[simp] def Zm:Nat→Bool
 |11=>true
 |13=>true
 |22=>true
 |24=>true
 |_=>false
@[simp] def S9:aM:=⟨[2],false,[250],[],false⟩
@[simp] def P6:Nat→List Nat
 |0=>[0,1,2]
 |1=>[0,1,2,13]
 |2=>[6]
 |3=>[0,1,2]
 |4=>[0,1,2,31]
 |5=>[0,1,2,41,42,43]
 |6=>[0,1,2,41,42,43,44]
 |7=>[0,1,2,8,41,42,43]
 |8=>[0,1,2,41,42,43,62]
 |9=>[6]
 |10=>[0,1,2,41,42,43]
 |11=>[]
 |12=>[6]
 |_=>[]
@[simp] def Zn:Nat→Bool
 |8=>true
 |_=>false
@[simp] def Ta:aM:=⟨[1,2,3],false,[],[2],false⟩
@[simp] def I1:Nat→List Nat
 |0=>[1,2]
 |1=>[1,2,4]
 |2=>[2,4,5]
 |3=>[2,4,5,11]
 |4=>[2,3]
 |5=>[2,3]
 |_=>[]
@[simp] def Mf:aM:=⟨[],false,[150,200],[],false⟩
@[simp] def I2:Nat→List Nat
 |0=>[0,1]
 |1=>[0,1,5]
 |2=>[1,5,12,13,14]
 |3=>[1,5,12,13,14,15]
 |4=>[1,5,7,12,13,14]
 |5=>[1,5,7,8,12,13,14]
 |6=>[1,5,8,9,10,12,13,14]
 |7=>[1,5,8,9,12,13,14,26]
 |8=>[1,5,8,12,13,14]
 |9=>[1,5,12,13,14]
 |10=>[1,5,12,13,14]
 |11=>[4]
 |_=>[]
@[simp] def UL:aM:=⟨[],true,[300,350,500],[],false⟩
@[simp] def I3:Nat→List Nat
 |0=>[1,2]
 |1=>[1,2,3]
 |2=>[1,2,3,20,21,22]
 |3=>[1,2,3,20,21,22,23]
 |4=>[1,2,3,5,20,21,22]
 |5=>[1,2,3,20,21,22]
 |6=>[1,2,3,20,21,22]
 |7=>[1,2,3]
 |8=>[1,2,3,36]
 |9=>[2]
 |10=>[1,2,3,8]
 |11=>[1,2,3,44]
 |12=>[2]
 |13=>[1,2,3,9]
 |14=>[1,2,3,9,10]
 |15=>[1,2,9,10,46,47,48]
 |16=>[1,2,9,10,46,47,48,49]
 |17=>[1,2,9,10,12,46,47,48]
 |18=>[1,2,9,10,13,14,15,46,47,48]
 |19=>[1,2,9,10,13,14,46,47,48,59]
 |20=>[2]
 |21=>[1,2,9,10,14,46,47,48]
 |22=>[1,2,9,10,46,47,48]
 |23=>[1,2,9,10,46,47,48]
 |24=>[1,2,9,10,77]
 |25=>[2]
 |26=>[1,2,16,17,18]
 |27=>[1,2,16,17,98]
 |28=>[2]
 |29=>[2]
 |_=>[]
@[simp] def UM:Nat→Bool
 |27=>true
 |_=>false
@[simp] def Mg:aM:=⟨[],false,[150,200,250,350,550,700],[],false⟩
@[simp] def I4:Nat→List Nat
 |0=>[0]
 |1=>[0,3]
 |2=>[3,6,7,8]
 |3=>[3,6,7,8,9]
 |4=>[3,5,6,7,8]
 |5=>[3,6,7,8]
 |6=>[3,6,7,8]
 |7=>[2]
 |_=>[]
@[simp] def Mh:aM:=⟨[],false,[250,350],[],false⟩
@[simp] def I5:Nat→List Nat
 |0=>[0,1]
 |1=>[0,1,6,7]
 |2=>[0,1,6,7,8]
 |3=>[0,1,6,7,8,19]
 |4=>[0,1,6,7,8]
 |5=>[0,1,6,7,8,9,10]
 |6=>[0,1,6,7,8,10]
 |7=>[0,1,6,7,8]
 |8=>[4,5]
 |_=>[]
@[simp] def Mi:aM:=⟨[],false,[],[],false⟩
@[simp] def I6:Nat→List Nat
 |0=>[0,3,5]
 |1=>[0,3,5,6]
 |2=>[0,3,5,6,21]
 |3=>[0,3,5,6,21,22]
 |4=>[0,3,5,6,21,22]
 |5=>[4,5]
 |6=>[0,3,5,6,21,28]
 |7=>[0,3,5,6,21,28]
 |8=>[0,3,5,6,28]
 |9=>[0,3,5,6,7,8]
 |10=>[0,3,5,6,7,40]
 |11=>[4,5]
 |12=>[0,3,5,6,7,46]
 |13=>[3,5,6,7,49]
 |14=>[4,5]
 |15=>[3,5,9,10]
 |16=>[3,5,9,60]
 |17=>[4,5]
 |18=>[4,5]
 |19=>[0,3,5,6,7,77]
 |20=>[4,5]
 |21=>[0,3,5,7,81]
 |22=>[5,7,11]
 |23=>[5,7,11,90]
 |24=>[4,5]
 |25=>[4,5]
 |26=>[0,3,5,6,12,13]
 |27=>[0,3,5,6,12,13,106]
 |28=>[4,5]
 |29=>[0,3,5,6,12,13,14]
 |30=>[0,3,5,6,12,13,14,112]
 |31=>[3,5,6,12,13,14]
 |32=>[3,5,6,12,13,14,124]
 |33=>[4,5]
 |34=>[3,5,6,12,14,15]
 |35=>[3,5,6,12,14,15,16]
 |36=>[5,6,12,14,15,16,127]
 |37=>[5,6,12,14,15,16,127,128]
 |38=>[5,6,12,14,15,16,127,128]
 |39=>[5,6,12,14,15,16,127,128]
 |40=>[5,6,12,14,15,16,127,128]
 |41=>[5,6,12,14,15,16,127,128]
 |42=>[5,6,12,14,15,16,127,128]
 |43=>[5,6,12,14,15,16]
 |44=>[5,6,12,14,15,16,127,135]
 |45=>[5,6,12,14,15,16,127,135]
 |46=>[5,6,12,14,15,16]
 |47=>[5,6,12,14,15,16,127,139]
 |48=>[5,6,12,14,15,16,127,139]
 |49=>[5,6,12,14,15,16,127,139]
 |50=>[5,6,12,14,15,16,139]
 |51=>[5,6,12,14,15,16]
 |52=>[5,6,16,151]
 |53=>[4,5]
 |54=>[4,5]
 |_=>[]
@[simp] def UN:Nat→List (List Nat)
 |11=>[[3],[3],[3],[0,1,2],[]]
 |14=>[[1],[0],[]]
 |17=>[[3],[3],[3],[0,1,2],[]]
 |20=>[[1],[0],[]]
 |24=>[[1],[0],[]]
 |28=>[[1],[0],[]]
 |33=>[[1],[0],[]]
 |53=>[[1],[0],[]]
 |_=>[]
@[simp] def Mj:aM:=⟨[],false,[250,350,400,450,550,650,750],[],false⟩
@[simp] def I7:Nat→List Nat
 |0=>[0,2,4,6]
 |1=>[2,4,6,7,8]
 |2=>[4,6,8,22]
 |3=>[6]
 |4=>[6]
 |_=>[]
@[simp] def Ml:aM:=⟨[],false,[300,400,500],[],false⟩
@[simp] def I8:Nat→List Nat
 |0=>[0,3,4]
 |1=>[0,3,4,5,6]
 |2=>[0,3,4,5,20]
 |3=>[4]
 |4=>[0,3,4,5,26]
 |5=>[4]
 |6=>[0,3,4,5,7]
 |7=>[0,3,4,5,7,34]
 |8=>[0,3,4,5,7]
 |9=>[0,3,4,5,7,8,9]
 |10=>[0,3,4,5,7,8,54]
 |11=>[4]
 |12=>[0,3,4,5,7,8,10]
 |13=>[0,3,4,5,7,8,10,60]
 |14=>[0,3,4,5,7,8,10]
 |15=>[0,3,4,5,7,8,10,73]
 |16=>[4]
 |17=>[0,3,4,5,7,11]
 |18=>[0,3,4,5,7,11,88]
 |19=>[4]
 |20=>[4]
 |_=>[]
@[simp] def UO:Nat→List (List Nat)
 |9=>[[2,3,4,5,6,11],[2,3,4,5,6,11],[0,1,4,11],[0,1,4,11],[0,1,2,3,11],[0,1,11],[0,1,11],[11],[11],[10,11],[9,11,12],[0,1,2,3,4,5,6,7,8,9,10],[10],[]]
 |15=>[[2,5,6,7,8,9],[2,5,6,7,8,9],[0,1,5,6,7,8,9],[5,6,7,8,9],[5,6,7,8,9],[0,1,2,3,4,7],[0,1,2,3,4,7],[0,1,2,3,4,5,6],[0,1,2,3,4],[0,1,2,3,4],[]]
 |17=>[[1,2,3,4,5,6,7,9],[0,3,6,7,9],[0,3,6,7,9],[0,1,2,6,7,9],[0,6,7,9],[0,6,7,9],[0,1,2,3,4,5,9],[0,1,2,3,4,5,9],[9],[0,1,2,3,4,5,6,7,8],[]]
 |_=>[]
@[simp] def Mm:aM:=⟨[],false,[250,300,350,500,650],[],false⟩
@[simp] def I9:Nat→List Nat
 |0=>[]
 |_=>[]
@[simp] def Mn:aM:=⟨[1,2,3,4,5,6,7,8],false,[],[],false⟩
@[simp] def Ja:Nat→List Nat
 |0=>[0,3]
 |1=>[0,3,4,5]
 |2=>[0,3,4,5,22]
 |3=>[0,4]
 |4=>[]
 |5=>[0,3,4,5]
 |6=>[0,4,5]
 |7=>[]
 |_=>[]
@[simp] def UP:Nat→List (List Nat)
 |1=>[[4,5,6,12],[4,5,6,12],[4,5,6,12],[4,5,6,12],[0,1,2,3,12],[0,1,2,3,12],[0,1,2,3,12],[12],[12],[10,11,12],[9,11,12,13],[9,10,12,13,14],[0,1,2,3,4,5,6,7,8,9,10,11],[10,11],[11],[]]
 |_=>[]
@[simp] def Mo:aM:=⟨[1,2,3,4,5,6,7,8],false,[250,350],[],false⟩
@[simp] def Jb:Nat→List Nat
 |0=>[0,1,2,3,8]
 |1=>[0,1,2,3,8,12,13,14]
 |2=>[0,1,2,3,8,12,13,14,15]
 |3=>[0,1,2,3,8,9,10,12,13,14]
 |4=>[0,1,2,3,8,9,10,11,12,13,14]
 |5=>[0,1,2,3,8,9,10,11,12,13,14,21]
 |6=>[0,1,2,3,8,9,10,12,13,14]
 |7=>[0,1,2,3,8,9,10,11,12,13,14]
 |8=>[0,1,2,3,8,9,11,12,13,14]
 |9=>[0,1,2,3,8,11,12,13,14,34]
 |10=>[0,1,2,3,8,11,12,13,14]
 |11=>[0,1,2,3,8,11,12,13,14,41]
 |12=>[0,1,2,3,8,12,13,14]
 |13=>[0,1,2,3,8,12,13,14]
 |14=>[]
 |_=>[]
@[simp] def Mp:aM:=⟨[1,2,3,4,5,6,7,8],false,[500],[],false⟩
@[simp] def Jc:Nat→List Nat
 |0=>[]
 |_=>[]
@[simp] def UQ:Nat→List (List Nat)
 |0=>[[1,2,3,4,5],[0,3],[0,3],[0,1,2],[0],[0],[]]
 |_=>[]
@[simp] def Mq:aM:=⟨[1,2,3,4,5,6,7,8],false,[],[],false⟩
@[simp] def Jd:Nat→List Nat
 |0=>[0,3]
 |1=>[0,3,20]
 |2=>[0,3,20,21]
 |3=>[0,3,20,21]
 |4=>[3]
 |5=>[4]
 |6=>[0,3,20,32]
 |7=>[0,5,6]
 |8=>[6]
 |9=>[4]
 |10=>[0,3,20,53]
 |11=>[0,3,8,9]
 |12=>[0,8,9]
 |13=>[0,8,9,11]
 |14=>[0,8,9,11,74]
 |15=>[0,8,9,11]
 |16=>[9]
 |17=>[4]
 |18=>[0,3,87]
 |19=>[0,12,13]
 |20=>[13]
 |21=>[4]
 |22=>[0,3,15]
 |23=>[0,3,15,111,112,113]
 |24=>[0,3,15,111,112,113,114]
 |25=>[0,3,17,111,112,113]
 |26=>[0,3,15,111,112,113]
 |27=>[0,3,15,111,112,113]
 |28=>[0,3,15,18]
 |29=>[0,3,18,124]
 |30=>[0,3,18]
 |31=>[3]
 |32=>[4]
 |_=>[]
@[simp] def UR:Nat→List (List Nat)
 |7=>[[4,5,11],[4,5,11],[4,5,11],[4,5,11],[0,1,2,3,11],[0,1,2,3,11],[11],[11],[9,10,11],[8,10,11,12],[8,9,11,12,13],[0,1,2,3,4,5,6,7,8,9,10],[9,10],[10],[]]
 |11=>[[4,5,11],[4,5,11],[4,5,11],[4,5,11],[0,1,2,3,11],[0,1,2,3,11],[11],[11],[9,10,11],[8,10,11,12],[8,9,11,12,13],[0,1,2,3,4,5,6,7,8,9,10],[9,10],[10],[]]
 |19=>[[4,5,6,7,13],[4,5,6,7,13],[4,5,6,7,13],[4,5,6,7,13],[0,1,2,3,6,7,13],[0,1,2,3,6,7,13],[0,1,2,3,4,5,13],[0,1,2,3,4,5,13],[13],[13],[11,12,13],[10,12,13,14],[10,11,13,14,15],[0,1,2,3,4,5,6,7,8,9,10,11,12],[11,12],[12],[]]
 |_=>[]
@[simp] def Mr:aM:=⟨[1,2,3,4,5,6,7,8],false,[250,400,550,750,950,1000],[],false⟩
@[simp] def Je:Nat→List Nat
 |0=>[2,3]
 |1=>[2,3,4]
 |2=>[2,3,4]
 |3=>[2,3,4]
 |4=>[]
 |_=>[]
@[simp] def Mt:aM:=⟨[1,2,3,4,5,6,7,8],false,[200,250,300],[],false⟩
@[simp] def Jg:Nat→List Nat
 |0=>[2,3]
 |1=>[2,3,4]
 |2=>[2,3,4,5]
 |3=>[2,3,4,5,24,25,26]
 |4=>[2,3,4,5,24,25,26,27]
 |5=>[2,3,4,5,9,24,25,26]
 |6=>[2,3,4,5,24,25,26]
 |7=>[2,3,4,5,24,25,26]
 |8=>[2,3,4,5]
 |9=>[2,3,4,5]
 |10=>[2,3,4,5]
 |11=>[]
 |_=>[]
@[simp] def US:Nat→List (List Nat)
 |2=>[[4,5,11,12],[4,5,11,12],[4,5,11,12],[4,5,11,12],[0,1,2,3,11,12],[0,1,2,3,11,12],[11,12],[11,12],[9,10,11,12],[8,10,11,12,13],[8,9,11,12,13,14],[0,1,2,3,4,5,6,7,8,9,10,12],[0,1,2,3,4,5,6,7,8,9,10,11],[9,10],[10],[]]
 |_=>[]
@[simp] def Mu:aM:=⟨[1,2,3,4,5,6,7,8],false,[200,250,300,350,400,550],[],false⟩
@[simp] def Jh:Nat→List Nat
 |0=>[2,3]
 |1=>[]
 |_=>[]
@[simp] def Mv:aM:=⟨[1,2,3,4,5,6,7,8],false,[200,250],[],false⟩
@[simp] def Ji:Nat→List Nat
 |0=>[0,1]
 |1=>[4]
 |_=>[]
@[simp] def Mw:aM:=⟨[1,2,3,4,5,6,7,8],false,[],[],false⟩
@[simp] def Jj:Nat→List Nat
 |0=>[0,3]
 |1=>[0,3,4,5]
 |2=>[0,3,4,5,24,25,26]
 |3=>[0,3,4,5,24,25,26,27]
 |4=>[0,3,4,5,7,8,24,25,26]
 |5=>[0,3,4,5,7,9,24,25,26]
 |6=>[0,3,4,5,9,24,25,26]
 |7=>[0,3,4,5,24,25,26]
 |8=>[0,3,4,5,24,25,26]
 |9=>[]
 |_=>[]
@[simp] def UT:Nat→List (List Nat)
 |1=>[[4,5,11],[4,5,11],[4,5,11],[4,5,11],[0,1,2,3,11],[0,1,2,3,11],[11],[11],[9,10,11],[8,10,11,12],[8,9,11,12,13],[0,1,2,3,4,5,6,7,8,9,10],[9,10],[10],[]]
 |5=>[[4,5,6,12],[4,5,6,12],[4,5,6,12],[4,5,6,12],[0,1,2,3,6,12],[0,1,2,3,6,12],[0,1,2,3,4,5,12],[12],[12],[10,11,12],[9,11,12,13],[9,10,12,13,14],[0,1,2,3,4,5,6,7,8,9,10,11],[10,11],[11],[]]
 |_=>[]
@[simp] def Mx:aM:=⟨[1,2,3,4,5,6,7,8],false,[250,350,600],[],false⟩
@[simp] def Jk:Nat→List Nat
 |0=>[0]
 |1=>[2]
 |_=>[]
@[simp] def My:aM:=⟨[1,2,3,4,5,6,7,8],false,[],[],false⟩
@[simp] def Jl:Nat→List Nat
 |0=>[0,1,2]
 |1=>[6]
 |_=>[]
@[simp] def Mz:aM:=⟨[1,2],false,[],[],false⟩
@[simp] def Jm:Nat→List Nat
 |0=>[0,3]
 |1=>[4]
 |_=>[]
@[simp] def UU:Nat→Bool
 |1=>true
 |_=>false
@[simp] def MA:aM:=⟨[1,2],false,[250],[],false⟩
@[simp] def Jn:Nat→List Nat
 |0=>[1]
 |1=>[1,3]
 |2=>[2]
 |3=>[1,20]
 |4=>[2]
 |5=>[2]
 |_=>[]
@[simp] def UW:Nat→Bool
 |2=>true
 |4=>true
 |_=>false
@[simp] def MB:aM:=⟨[],false,[150],[],false⟩
@[simp] def Jo:Nat→List Nat
 |0=>[0,1]
 |1=>[0]
 |2=>[4]
 |_=>[]
@[simp] def MD:aM:=⟨[2],false,[],[],false⟩
@[simp] def Jp:Nat→List Nat
 |0=>[0,1,2]
 |1=>[0,1,2,15]
 |2=>[6]
 |3=>[0,1,2,27,28,29]
 |4=>[0,1,2,27,28,29,30]
 |5=>[0,1,2,8,27,28,29]
 |6=>[0,1,2,27,28,29,37]
 |7=>[6]
 |8=>[0,1,2,27,28,29]
 |9=>[]
 |10=>[6]
 |_=>[]
@[simp] def UX:Nat→List (List Nat)
 |3=>[[4,5,6,7,8,9,10,13],[4,5,6,7,8,9,10,13],[4,5,6,7,8,9,10,13],[4,5,6,7,8,9,10,13],[0,1,2,3,9,13],[0,1,2,3,9,13],[0,1,2,3,9,13],[0,1,2,3,9,13],[0,1,2,3,9,13],[0,1,2,3,4,5,6,7,8,13],[0,1,2,3,13],[13],[13],[0,1,2,3,4,5,6,7,8,9,10,11,12]]
 |9=>[[1,2,3,4,5,6,7,8,9,10,11,12],[0,5,6,7,8,9,10,11],[0,5,6,7,8,9,10,11],[0,5,6,7,8,9,10,11],[0,5,6,7,8,9,10,11],[0,1,2,3,4,10],[0,1,2,3,4,10],[0,1,2,3,4,10],[0,1,2,3,4,10],[0,1,2,3,4,10],[0,1,2,3,4,5,6,7,8,9],[0,1,2,3,4],[0],[],[],[]]
 |_=>[]
@[simp] def ME:aM:=⟨[2],false,[],[],false⟩
@[simp] def Jq:Nat→List Nat
 |0=>[0,3]
 |1=>[0,3,6]
 |2=>[0,3,6,7]
 |3=>[4]
 |4=>[0,3,6,12]
 |5=>[4]
 |6=>[0,19]
 |7=>[4]
 |8=>[4]
 |_=>[]
@[simp] def MF:aM:=⟨[],false,[250],[],false⟩
@[simp] def Jr:Nat→List Nat
 |0=>[0,1,2]
 |1=>[0,1,2,11,12,13]
 |2=>[0,1,2,11,12,13,14]
 |3=>[0,1,2,10,11,12,13]
 |4=>[0,1,2,11,12,13,25]
 |5=>[6,7,8]
 |6=>[0,1,2,11,12,13]
 |7=>[0,1,2,27]
 |8=>[6,7,8]
 |9=>[0,1,2,40]
 |10=>[6,7,8]
 |11=>[0,1,44]
 |12=>[6,7,8]
 |13=>[0,1,57]
 |14=>[6,7,8]
 |15=>[0,1,75]
 |16=>[6,7,8]
 |17=>[6,7,8]
 |_=>[]
@[simp] def UY:Nat→List (List Nat)
 |12=>[[1,2,3,4,5,6],[0,4,5,6],[0,4,5,6],[0,4,5,6],[0,1,2,3],[0,1,2,3],[0,1,2,3],[],[9,10],[8,10],[8,9],[],[],[]]
 |14=>[[1,2,3,4,5,6],[0,4,5,6],[0,4,5,6],[0,4,5,6],[0,1,2,3],[0,1,2,3],[0,1,2,3],[],[9,10],[8,10],[8,9],[],[],[]]
 |16=>[[1,2,3,4,5,6],[0,4,5,6],[0,4,5,6],[0,4,5,6],[0,1,2,3],[0,1,2,3],[0,1,2,3],[],[9,10],[8,10],[8,9],[],[],[]]
 |_=>[]
@[simp] def MG:aM:=⟨[],false,[],[],false⟩
@[simp] def Js:Nat→List Nat
 |0=>[]
 |1=>[0]
 |_=>[]
@[simp] def UZ:aM:=⟨[],false,[],[],false⟩
@[simp] def Jt:Nat→List Nat
 |0=>[0,1]
 |1=>[0,1,7,8]
 |2=>[0,1,7,8,9]
 |3=>[0,1,5,7,8]
 |4=>[0,1,5,7,8,16]
 |5=>[4]
 |6=>[0,1,7,8]
 |7=>[4]
 |_=>[]
@[simp] def MH:aM:=⟨[],false,[],[],false⟩
@[simp] def Ju:Nat→List Nat
 |0=>[1,2]
 |1=>[3]
 |_=>[]
@[simp] def MI:aM:=⟨[],false,[200],[],false⟩
@[simp] def Jv:Nat→List Nat
 |0=>[0]
 |1=>[0,3]
 |2=>[0,3,4]
 |3=>[0,3,4,5]
 |4=>[0,3,4,5,6]
 |5=>[0,3,4,5,6,16]
 |6=>[0,3,4,5,6]
 |7=>[0,3,4,5,6,7]
 |8=>[0,3,4,5,6,7]
 |9=>[0,3,4,5,6,8]
 |10=>[0,3,5,6,8]
 |11=>[0,3,4,5,6]
 |12=>[0,3,37]
 |13=>[2]
 |14=>[0,9]
 |15=>[0,9,10]
 |16=>[0,9,10]
 |17=>[0,9,10,12]
 |18=>[0,9,10,12,53]
 |19=>[0,9,10,12]
 |20=>[0,9,10,11,12]
 |21=>[0,9,10,11,12,60]
 |22=>[0,9,10,11,12,66]
 |23=>[0,9,10,11,12]
 |24=>[0,9,10,12]
 |25=>[0,9,10,12]
 |26=>[0,9,10,12]
 |27=>[0,9,10,12,91]
 |28=>[0,9,10,12]
 |29=>[0,9,10,11,12]
 |30=>[0,9,10,11,98]
 |31=>[9]
 |32=>[2]
 |_=>[]
@[simp] def U0:Nat→Bool
 |18=>true
 |27=>true
 |_=>false
@[simp] def U1:aM:=⟨[],false,[2150],[],false⟩
@[simp] def Jw:Nat→List Nat
 |0=>[0,1]
 |1=>[4,5]
 |_=>[]
@[simp] def U2:aM:=⟨[],false,[],[],false⟩
@[simp] def Jx:Nat→List Nat
 |0=>[1]
 |1=>[1,5]
 |2=>[2,3,4]
 |3=>[1,11]
 |4=>[2,3,4]
 |5=>[1,17]
 |6=>[2,3,4]
 |7=>[2,3,4]
 |_=>[]
@[simp] def U3:Nat→Bool
 |5=>true
 |_=>false
@[simp] def MJ:aM:=⟨[],false,[150],[],false⟩
@[simp] def Jy:Nat→List Nat
 |0=>[0]
 |1=>[3]
 |2=>[2]
 |3=>[2]
 |_=>[]
@[simp] def MK:aM:=⟨[],false,[],[],false⟩
@[simp] def Jz:Nat→List Nat
 |0=>[0,1,2,6]
 |1=>[0,2,6,7]
 |2=>[6]
 |3=>[0,2,6,12]
 |4=>[6]
 |5=>[6]
 |_=>[]
@[simp] def ML:aM:=⟨[],false,[400],[],false⟩
@[simp] def JA:Nat→List Nat
 |0=>[0,1,4]
 |1=>[1,4,6]
 |2=>[1,4,6,7]
 |3=>[1,4,6,7,13]
 |4=>[1,4,6,7]
 |5=>[1,4,6,7,26]
 |6=>[4,5]
 |7=>[4,5]
 |_=>[]
@[simp] def U4:Nat→Bool
 |5=>true
 |_=>false
@[simp] def MM:aM:=⟨[],false,[300],[],false⟩
@[simp] def JB:Nat→List Nat
 |0=>[0,3,4]
 |1=>[3,4,5,6]
 |2=>[3,4,6,19]
 |3=>[4]
 |4=>[4]
 |_=>[]
@[simp] def MN:aM:=⟨[],false,[250,300,400],[],false⟩
@[simp] def JC:Nat→List Nat
 |0=>[1,2,5]
 |1=>[1,2,5,7]
 |2=>[1,5,7,11,12,13]
 |3=>[1,5,7,11,12,13,14]
 |4=>[1,5,7,9,11,12,13]
 |5=>[1,5,7,9,11,12,13,20]
 |6=>[4,5,6]
 |7=>[1,5,7,11,12,13]
 |8=>[1,5,7,11,12,13]
 |9=>[4,5,6]
 |_=>[]
@[simp] def U5:Nat→List (List Nat)
 |6=>[[1],[0,2],[1],[],[]]
 |_=>[]
@[simp] def MO:aM:=⟨[],false,[200,350,550],[],false⟩
@[simp] def JD:Nat→List Nat
 |0=>[]
 |_=>[]
@[simp] def MP:aM:=⟨[1,2,3,4,5,6,7,8],false,[],[],false⟩
@[simp] def JE:Nat→List Nat
 |0=>[0,1]
 |1=>[4]
 |_=>[]
@[simp] def MQ:aM:=⟨[1,2,3,4,5,6,7,8],false,[],[],false⟩
@[simp] def JF:Nat→List Nat
 |0=>[0,1,2,6]
 |1=>[0,1,6,8]
 |2=>[0,1,6]
 |3=>[]
 |_=>[]
@[simp] def MR:aM:=⟨[1,2,3,4,5,6,7,8],false,[],[],false⟩
@[simp] def JG:Nat→List Nat
 |0=>[1,3,5,7]
 |1=>[5,7,9,10,11]
 |2=>[5,7,9,10,31]
 |3=>[6,7,8]
 |4=>[5,7,9,12]
 |5=>[7,9,12,13]
 |6=>[7,9,12,13,40]
 |7=>[6,7,8]
 |8=>[6,7,8]
 |_=>[]
@[simp] def U6:Nat→List (List Nat)
 |8=>[[1,3,4,5,6],[0,3,4,5,6],[3,4,5,6],[0,1,2,4,7],[0,1,2,3,7],[0,1,2,7],[0,1,2,7],[3,4,5,6],[],[]]
 |_=>[]
@[simp] def MS:aM:=⟨[],false,[250,350,450,600],[],false⟩
@[simp] def JH:Nat→List Nat
 |0=>[0,1]
 |1=>[0,1,5]
 |2=>[5]
 |3=>[4]
 |_=>[]
@[simp] def MT:aM:=⟨[1,2,3,4,5,6,7,8],false,[],[],false⟩
@[simp] def JI:Nat→List Nat
 |0=>[0,1,2,3]
 |1=>[1,3,5]
 |2=>[1,3,5,6]
 |3=>[1,3,5,6,19]
 |4=>[1,3,5,6]
 |5=>[1,3,5,6]
 |6=>[1,3,5,6]
 |_=>[]
@[simp] def U7:Nat→List (List Nat)
 |5=>[[1,2,3,4,5,6,7,8,9,10,11],[0,2,3,4,5,6,7,8,9,10],[0,1,3,6,7,8,9,10],[0,1,2,6,7,8,9,10],[0,1,6,7,8,9,10],[0,1,6,7,8,9,10],[0,1,2,3,4,5,7,8],[0,1,2,3,4,5,6],[0,1,2,3,4,5,6],[0,1,2,3,4,5],[0,1,2,3,4,5],[0],[]]
 |_=>[]
@[simp] def MU:aM:=⟨[1,2,3,4,5,6,7,8],false,[],[],false⟩
@[simp] def JJ:Nat→List Nat
 |0=>[0,1]
 |1=>[0]
 |2=>[0,4]
 |3=>[0,4,5]
 |4=>[0,5]
 |5=>[]
 |_=>[]
@[simp] def U8:Nat→List Gh
 |2=>[.opn 4 101,.opn 6 101]
 |4=>[.shut 4,.shut 6]
 |_=>[]
@[simp] def MV:aM:=⟨[1,2,3,4,5,6,7,8],false,[101,650],[],false⟩
@[simp] def JK:Nat→List Nat
 |0=>[0,1,2,3,4]
 |1=>[0,1,2,3,4]
 |2=>[0,1,2,3,4]
 |3=>[0,1,2,3,4,5]
 |4=>[0,1,2,4,5]
 |5=>[0,1,2,4,5]
 |6=>[0,1,4,5]
 |7=>[0,1,4,5]
 |8=>[0,4,5]
 |9=>[0,5]
 |10=>[]
 |_=>[]
@[simp] def U9:Nat→List (List Nat)
 |4=>[[1,2,3,4],[0],[0],[0],[0],[]]
 |_=>[]
@[simp] def MW:aM:=⟨[1,2,3,4,5,6,7,8],false,[],[],false⟩
@[simp] def JL:Nat→List Nat
 |0=>[0,1,2]
 |1=>[0,1,2,8]
 |2=>[0,1,2]
 |3=>[0,1,2]
 |4=>[0,2]
 |5=>[]
 |6=>[0,1,2]
 |7=>[0,1,2]
 |8=>[0,1,2,3]
 |9=>[0,2,3]
 |10=>[0,3]
 |11=>[]
 |_=>[]
@[simp] def Va:Nat→List (List Nat)
 |2=>[[1,2,3,4],[0],[0],[0],[0],[]]
 |9=>[[1,2,3,4],[0],[0],[0],[0],[]]
 |_=>[]
@[simp] def MX:aM:=⟨[1,2,3,4,5,6,7,8],false,[],[],false⟩
@[simp] def JM:Nat→List Nat
 |0=>[0,1,2]
 |1=>[0,1,2,11]
 |2=>[9,10]
 |3=>[9,24]
 |4=>[6,7,8]
 |5=>[6,7,8]
 |6=>[1,26]
 |7=>[6,7,8]
 |8=>[6,7,8]
 |_=>[]
@[simp] def MY:aM:=⟨[],false,[],[],false⟩
@[simp] def JN:Nat→List Nat
 |0=>[0,1,2]
 |1=>[1,2,9]
 |2=>[1,2,9,10]
 |3=>[6,7,8]
 |4=>[1,2,9,16]
 |5=>[1,2,9,16]
 |6=>[6,7,8]
 |7=>[1,2,9,23]
 |8=>[6,7,8]
 |9=>[1,2,28]
 |10=>[6,7,8]
 |11=>[6,7,8]
 |_=>[]
@[simp] def MZ:aM:=⟨[],false,[],[],false⟩
@[simp] def JO:Nat→List Nat
 |0=>[0,1,2]
 |1=>[0,1,2,9]
 |2=>[0,1,2,9,10]
 |3=>[0,1,2,9,10,11]
 |4=>[1,2,9,10,11,12]
 |5=>[1,2,9,10,11,12,13]
 |6=>[9,10,11]
 |7=>[1,2,9,10,11,12,21]
 |8=>[9,10,11]
 |9=>[1,2,9,10,11,12,29]
 |10=>[9,10,11]
 |11=>[1,2,9,10,11,12,37]
 |12=>[9,10,11]
 |13=>[1,2,9,10,11,45]
 |14=>[9,10,11]
 |15=>[9,10,11,53]
 |16=>[6,7,8]
 |17=>[9,56]
 |18=>[6,7,8]
 |19=>[6,7,8]
 |_=>[]
@[simp] def M0:aM:=⟨[],false,[],[],false⟩
@[simp] def JP:Nat→List Nat
 |0=>[0,1,2]
 |1=>[0,1,2,9]
 |2=>[1,2,9,10]
 |3=>[1,2,9,10,11]
 |4=>[9]
 |5=>[1,2,9,10,16]
 |6=>[9]
 |7=>[1,2,9,10,21]
 |8=>[9]
 |9=>[1,2,9,10,26]
 |10=>[9]
 |11=>[1,2,9,10,31]
 |12=>[9]
 |13=>[1,2,9,36]
 |14=>[9]
 |15=>[6,7,8]
 |_=>[]
@[simp] def Na:aM:=⟨[],false,[],[],false⟩
@[simp] def JQ:Nat→List Nat
 |0=>[0,1]
 |1=>[0,1,5]
 |2=>[0,1,5,6]
 |3=>[0,1,5,6,14]
 |4=>[0,1,5,6,14,15,16]
 |5=>[0,1,5,6,7,8,14]
 |6=>[0,1,5,6,7,14,21]
 |7=>[0,1,5,6,7,14,23]
 |8=>[0,1,5,6,14]
 |9=>[0,1,5,6,14]
 |10=>[0,1,5,6,7,14,33]
 |11=>[0,1,5,6,14]
 |12=>[0,5,6,36]
 |13=>[0,5]
 |14=>[0,5,9]
 |15=>[0,9,47,48,49]
 |16=>[0,9,47,48,49,50]
 |17=>[0,9,10,11,47,48,49]
 |18=>[0,9,47,48,49]
 |19=>[0,9,47,48,49]
 |20=>[4]
 |_=>[]
@[simp] def Vb:aM:=⟨[],false,[650,700,2400],[],false⟩
@[simp] def JR:Nat→List Nat
 |0=>[0]
 |1=>[0,5]
 |2=>[6]
 |3=>[6,7]
 |4=>[6,7]
 |5=>[6,7]
 |6=>[6,7]
 |7=>[6,7]
 |8=>[6,7]
 |9=>[6,7]
 |10=>[7]
 |11=>[2]
 |12=>[2]
 |13=>[2]
 |_=>[]
@[simp] def Vc:aM:=⟨[],false,[],[],false⟩
@[simp] def JS:Nat→List Nat
 |0=>[0,1]
 |1=>[0,1,9]
 |2=>[4,5]
 |3=>[4,5]
 |_=>[]
@[simp] def Vd:aM:=⟨[],false,[],[],false⟩
@[simp] def JT:Nat→List Nat
 |0=>[0,1]
 |1=>[0,1,7,8]
 |2=>[0,1,7,8,9]
 |3=>[0,1,5,7,8]
 |4=>[0,1,5,7,8,16]
 |5=>[4]
 |6=>[0,1,7,8]
 |7=>[4]
 |_=>[]
@[simp] def Nb:aM:=⟨[],false,[],[],false⟩
@[simp] def JU:Nat→List Nat
 |0=>[1,2]
 |1=>[3]
 |_=>[]
@[simp] def Nc:aM:=⟨[],false,[200],[],false⟩
@[simp] def JV:Nat→List Nat
 |0=>[0,1]
 |1=>[0,1,6]
 |2=>[6,21]
 |3=>[4,5]
 |4=>[4,5]
 |_=>[]
@[simp] def Nd:aM:=⟨[],false,[],[],false⟩
@[simp] def JW:Nat→List Nat
 |0=>[0,1]
 |1=>[0,1,6]
 |2=>[6,21]
 |3=>[4,5]
 |4=>[4,5]
 |_=>[]
@[simp] def Nf:aM:=⟨[],false,[],[],false⟩
@[simp] def JX:Nat→List Nat
 |0=>[0,1]
 |1=>[0,1,6,7]
 |2=>[0,1,7,17]
 |3=>[4,5]
 |4=>[4,5]
 |_=>[]
@[simp] def Ng:aM:=⟨[],false,[],[],false⟩
@[simp] def JY:Nat→List Nat
 |0=>[0,1]
 |1=>[0,1,6]
 |2=>[4,5]
 |3=>[0,1,9]
 |4=>[4,5]
 |5=>[4,5]
 |_=>[]
@[simp] def Nh:aM:=⟨[],false,[],[],false⟩
@[simp] def JZ:Nat→List Nat
 |0=>[0,1]
 |1=>[0,1,6]
 |2=>[0,1,6,7]
 |3=>[4,5]
 |4=>[0,1,9]
 |5=>[4,5]
 |6=>[4,5]
 |_=>[]
@[simp] def Ni:aM:=⟨[],false,[],[],false⟩
@[simp] def J0:Nat→List Nat
 |0=>[0,1]
 |1=>[0,1,5]
 |2=>[0,1,5,6]
 |3=>[0,1,5,6,32]
 |4=>[4]
 |5=>[1,7]
 |6=>[1,7,54]
 |7=>[4]
 |8=>[4]
 |_=>[]
@[simp] def Ve:Nat→Bool
 |3=>true
 |6=>true
 |_=>false
@[simp] def Vf:aM:=⟨[],false,[],[],false⟩
@[simp] def J1:Nat→List Nat
 |0=>[0,1]
 |1=>[4]
 |_=>[]
@[simp] def Vg:Nat→Bool
 |1=>true
 |_=>false
@[simp] def Vh:aM:=⟨[],false,[],[],false⟩
@[simp] def J2:Nat→List Nat
 |0=>[0,1]
 |1=>[0,1,6]
 |2=>[0,1,6,7]
 |3=>[0,1,6,7,8]
 |4=>[0,1,6,7,8,9]
 |5=>[0,1,6,7,8,9,10]
 |6=>[0,1,6,7,9,11]
 |7=>[0,1,6,7,9,11,12]
 |8=>[0,1,6,7,9,12,13]
 |9=>[0,1,7,9,12,13]
 |10=>[0,1,4]
 |11=>[4,5]
 |_=>[]
@[simp] def Nj:aM:=⟨[],false,[],[],false⟩
@[simp] def J3:Nat→List Nat
 |0=>[0]
 |1=>[0,4]
 |2=>[2]
 |3=>[2]
 |_=>[]
@[simp] def Nk:aM:=⟨[],false,[],[],false⟩
@[simp] def J4:Nat→List Nat
 |0=>[0,1]
 |1=>[0,1,6]
 |2=>[4,5]
 |3=>[0,15]
 |4=>[4,5]
 |5=>[4,5]
 |_=>[]
@[simp] def Nl:aM:=⟨[],false,[],[],false⟩
@[simp] def J5:Nat→List Nat
 |0=>[0,1]
 |1=>[0,1,17]
 |2=>[0,1,19,20]
 |3=>[0,1,19,20,21]
 |4=>[0,1,5,19,20]
 |5=>[0,1,6,19,20]
 |6=>[0,1,6,19,20,31]
 |7=>[4]
 |8=>[0,1,6,19,20,37]
 |9=>[4]
 |10=>[0,1,19,20]
 |11=>[4]
 |12=>[0,1,7]
 |13=>[0,1,7,8]
 |14=>[0,1,7,8,62]
 |15=>[0,1,7,8,9]
 |16=>[0,1,7,8,9,10]
 |17=>[0,1,7,8,9,10,85]
 |18=>[4]
 |19=>[0,1,7,8,9,110]
 |20=>[0,1,7,8]
 |21=>[0,1,7,8]
 |22=>[4]
 |_=>[]
@[simp] def Vi:Nat→List (List Nat)
 |9=>[[],[],[],[],[],[],[7,8,9,10,12,13,14,15],[6,12,13,14,15],[6,12,13,14,15],[6,12,13,14,15],[6,12,13,14,15],[12,13,14,15],[6,7,8,9,10,11],[6,7,8,9,10,11],[6,7,8,9,10,11],[6,7,8,9,10,11],[],[],[],[]]
 |18=>[[],[],[],[],[],[],[7,8,9,10,12,13,14,15],[6,12,13,14,15],[6,12,13,14,15],[6,12,13,14,15],[6,12,13,14,15],[12,13,14,15],[6,7,8,9,10,11],[6,7,8,9,10,11],[6,7,8,9,10,11],[6,7,8,9,10,11],[],[],[],[]]
 |_=>[]
@[simp] def Vj:aM:=⟨[],false,[],[],false⟩
@[simp] def J6:Nat→List Nat
 |0=>[0,1]
 |1=>[0,1,13]
 |2=>[0,1,15,16]
 |3=>[0,1,15,16,17]
 |4=>[0,1,5,15,16]
 |5=>[0,1,6,15,16]
 |6=>[0,1,6,15,16,27]
 |7=>[4]
 |8=>[0,1,6,15,16,33]
 |9=>[4]
 |10=>[0,1,15,16]
 |11=>[4]
 |12=>[0,1,7]
 |13=>[0,1,7,8]
 |14=>[0,1,7,8,58]
 |15=>[0,1,7,8,9]
 |16=>[0,1,7,8,9,10]
 |17=>[0,1,7,8,9,10,78]
 |18=>[4]
 |19=>[0,1,7,8,9,95]
 |20=>[0,1,7,8]
 |21=>[0,1,7,8]
 |22=>[4]
 |_=>[]
@[simp] def Vk:Nat→List (List Nat)
 |9=>[[],[],[],[],[],[],[7,8,9,10,12,13,14,15],[6,12,13,14,15],[6,12,13,14,15],[6,12,13,14,15],[6,12,13,14,15],[12,13,14,15],[6,7,8,9,10,11],[6,7,8,9,10,11],[6,7,8,9,10,11],[6,7,8,9,10,11],[],[],[],[]]
 |_=>[]
@[simp] def Vm:aM:=⟨[],false,[600],[],false⟩
def od5:Nat→List (List Nat)
 |9=>[[],[],[],[4,5,7,8,9],[3,5,7,8,9],[3,4,7,8,9],[7,8,9],[3,4,5,6,8,9],[3,4,5,6,7,9],[3,4,5,6,7,8],[],[],[],[]]
 |_=>[]
def od6:Nat→List (List Nat)
 |6=>[[],[],[],[4,5,7,8,9],[3,5,7,8,9],[3,4,7,8,9],[7,8,9],[3,4,5,6,8,9],[3,4,5,6,7,9],[3,4,5,6,7,8],[],[],[],[]]
 |_=>[]
def akg:Nat→List (List Nat)
 |5=>[[1,2,4,5,6,7,8,10,11],[0,2,4,5,6,7,8,10,11],[0,1,4,5,6,7,8,10,11],[4,5,6,7,8,10,11],[0,1,2,3,5,6,7,8,10,11],[0,1,2,3,4,6,7,8,10,11],[0,1,2,3,4,5,7,10,11],[0,1,2,3,4,5,6,10,11],[0,1,2,3,4,5,10,11],[10,11],[0,1,2,3,4,5,6,7,8,9,11],[0,1,2,3,4,5,6,7,8,9,10],[],[]]
 |_=>[]
def akh:Nat→List (List Nat)
 |5=>[[1,2,3],[0,2,3,4],[0,1,3],[0,1,2],[1],[]]
 |6=>[[2,4,5,6,7],[2,4,5,6,7],[0,1,4,5,6,7],[4,5,6,7],[0,1,2,3,6,8,9],[0,1,2,3,6,8,9],[0,1,2,3,4,5,8,9],[0,1,2,3,8,9],[4,5,6,7],[4,5,6,7],[],[]]
 |7=>[[1,2,4,5,6,8,9],[0,2,4,5,6,8,9],[0,1,4,5,6,8,9],[4,5,6,8,9],[0,1,2,3,5,6,8,9],[0,1,2,3,4,6,8,9],[0,1,2,3,4,5,8,9],[8,9],[0,1,2,3,4,5,6,7,9],[0,1,2,3,4,5,6,7,8],[],[]]
 |10=>[[1,2,3,4,5,6],[0,2,3,4,5],[0,1,4,5],[0,1,4,5],[0,1,2,3],[0,1,2,3],[0],[],[]]
 |_=>[]
def aki:Nat→List (List Nat)
 |5=>[[1,2,4,6,7],[0,2,4,6,7],[0,1,4,6,7],[4,6,7],[0,1,2,3,6,7],[6,7],[0,1,2,3,4,5,7],[0,1,2,3,4,5,6],[],[],[]]
 |_=>[]
def akj:Nat→List (List Nat)
 |9=>[[1,2,4,5,6],[0,2,4,5,6],[0,1,4,5,6],[4,5,6],[0,1,2,3,5,6],[0,1,2,3,4,6],[0,1,2,3,4,5],[],[],[]]
 |_=>[]
def akk:Nat→List (List Nat)
 |9=>[[2,3,4],[2,3,4],[0,1],[0,1],[0,1],[],[],[]]
 |11=>[[1,2,3,4],[0,5],[0,5],[0,5],[0,5],[1,2,3,4],[]]
 |_=>[]
def akl:Nat→List (List Nat)
 |6=>[[1,4,5,6,7],[0,4,5,6,7],[4,5,6,7],[4,5,6,7],[0,1,2,3,5],[0,1,2,3,4],[0,1,2,3],[0,1,2,3],[]]
 |_=>[]
def akm:Nat→List (List Nat)
 |6=>[[2,5,6,7,8,9],[2,5,6,7,8,9],[0,1,5,6,7,8,9],[5,6,7,8,9],[5,6,7,8,9],[0,1,2,3,4,7],[0,1,2,3,4,7],[0,1,2,3,4,5,6],[0,1,2,3,4],[0,1,2,3,4],[]]
 |_=>[]
def akn:Nat→List (List Nat)
 |3=>[[1,2,3,4,5,6,7,8,9],[0,3,4,5,6,7,9],[0,3,4,5,6,7,9],[0,1,2,5,6,9],[0,1,2,5,6,9],[0,1,2,3,4,9],[0,1,2,3,4,9],[0,1,2,9],[0,9],[0,1,2,3,4,5,6,7,8],[],[],[]]
 |5=>[[2,3,4,5,8],[2,3,4,5,8],[0,1,8],[0,1,8],[0,1,8],[0,1,8],[8],[8],[0,1,2,3,4,5,6,7],[]]
 |10=>[[4,5,8,9,10,11,12,13,14,15],[4,5,8,9,10,11,12,13,14,15],[4,5,8,9,10,11,12,13,14,15],[4,5,8,9,10,11,12,13,14,15],[0,1,2,3,8,9,10,11,12,13,14,15],[0,1,2,3,8,9,10,11,12,13,14,15],[8,9,10,11,12,13,14,15],[8,9,10,11,12,13,14,15],[0,1,2,3,4,5,6,7,12,13,14,15],[0,1,2,3,4,5,6,7,12,13,14,15],[0,1,2,3,4,5,6,7,12,13,14,15],[0,1,2,3,4,5,6,7,12,13,14,15],[0,1,2,3,4,5,6,7,8,9,10,11],[0,1,2,3,4,5,6,7,8,9,10,11],[0,1,2,3,4,5,6,7,8,9,10,11],[0,1,2,3,4,5,6,7,8,9,10,11],[],[]]
 |_=>[]
def ako:Nat→List (List Nat)
 |1=>[[1,2,3,4,5,6],[0,3,4,6],[0,3,4,6],[0,1,2,4,6],[0,1,2,3,6],[0,6],[0,1,2,3,4,5],[],[],[]]
 |5=>[[1,2,3,4,5,6,7,8,9,10,11,12,13],[0,5,6,7,8,9,10,11,12],[0,5,6,7,8,9,10,11,12],[0,5,6,7,8,9,10,11,12],[0,5,6,7,8,9,10,11,12],[0,1,2,3,4,7],[0,1,2,3,4,7],[0,1,2,3,4,5,6],[0,1,2,3,4],[0,1,2,3,4],[0,1,2,3,4],[0,1,2,3,4],[0,1,2,3,4],[0],[],[],[]]
 |7=>[[4,5,6,7,8,9,10,11],[4,5,6,7,8,9,10,11],[4,5,6,7,8,9,10,11],[4,5,6,7,8,9,10,11],[0,1,2,3,8,9,10,11],[0,1,2,3,8,9,10,11],[0,1,2,3,8,9,10,11],[0,1,2,3,8,9,10,11],[0,1,2,3,4,5,6,7],[0,1,2,3,4,5,6,7],[0,1,2,3,4,5,6,7],[0,1,2,3,4,5,6,7],[],[]]
 |_=>[]
def akp:Nat→List (List Nat)
 |2=>[[1,2,3,4,5,8],[0,3,4,5,8],[0,3,4,5,8],[0,1,2,5,8],[0,1,2,5,8],[0,1,2,3,4,8],[8],[8],[0,1,2,3,4,5,6,7],[]]
 |8=>[[1,2,3,4,5,6,7,8,9],[0,5,6,7,8],[0,5,6,7,8],[0,5,6,7,8],[0,5,6,7,8],[0,1,2,3,4],[0,1,2,3,4],[0,1,2,3,4],[0,1,2,3,4],[0],[],[],[]]
 |12=>[[4,5,6,7],[4,5,6,7],[4,5,6,7],[4,5,6,7],[0,1,2,3],[0,1,2,3],[0,1,2,3],[0,1,2,3],[],[]]
 |_=>[]
def akq:Nat→List (List Nat)
 |3=>[[1,2,3],[0,2,3,4],[0,1,3,4,5],[0,1,2,4,5,6],[1,2,3],[2,3],[3],[]]
 |10=>[[1,2],[0,2,3],[0,1,3,4,5],[1,2],[2],[2],[]]
 |_=>[]
def akr:Nat→List (List Nat)
 |4=>[[],[],[],[4,7,8,9,10,11,12,13,14,15,16,17,18,19],[3,7,8,9,10,11,12,13,14,15,16,17,18,19],[7,8,9,10,11,12,13,14,15,16,17,18,19],[7,8,9,10,11,12,13,14,15,16,17,18,19],[3,4,5,6,8,13,14,15,16,17,18],[3,4,5,6,7,13,14,15,16,17,18],[3,4,5,6,13,14,15,16,17,18],[3,4,5,6,13,14,15,16,17,18],[3,4,5,6,13,14,15,16,17,18],[3,4,5,6,13,14,15,16,17,18],[3,4,5,6,7,8,9,10,11,12,14,15],[3,4,5,6,7,8,9,10,11,12,13],[3,4,5,6,7,8,9,10,11,12,13],[3,4,5,6,7,8,9,10,11,12],[3,4,5,6,7,8,9,10,11,12],[3,4,5,6,7,8,9,10,11,12],[3,4,5,6],[],[],[]]
 |_=>[]
def aks:Nat→List (List Nat)
 |6=>[[1,4,5,6,7],[0,4,5,6,7],[4,5,6,7],[4,5,6,7],[0,1,2,3,5],[0,1,2,3,4],[0,1,2,3],[0,1,2,3],[]]
 |_=>[]
def akt:Nat→List (List Nat)
 |6=>[[1,2,3,4,5,6,7,8],[0,5,6],[0,5,6],[0,5,6],[0,5,6],[0,1,2,3,4],[0,1,2,3,4],[0],[0],[]]
 |8=>[[1,2,3,4,5,6,7,8,9,10],[0,5,6],[0,5,6],[0,5,6],[0,5,6],[0,1,2,3,4],[0,1,2,3,4],[0],[0],[0],[0],[]]
 |11=>[[1,2,3],[0,2,3],[0,1],[0,1],[],[],[7],[6,8],[7],[]]
 |18=>[[4,5,6],[4,5,6],[4,5,6],[4,5,6],[0,1,2,3,6],[0,1,2,3,6],[0,1,2,3,4,5],[],[]]
 |21=>[[1,2,3],[0,2,3],[0,1],[0,1],[],[],[7],[6,8],[7],[]]
 |_=>[]
def aku:Nat→List (List Nat)
 |15=>[[4,5,7,8,9,10,11,12,13,14,15,16,17,18,19,20],[4,5,7,8,9,10,11,12,13,14,15,16,17,18,19,20],[4,5,7,8,9,10,11,12,13,14,15,16,17,18,19,20],[4,5,7,8,9,10,11,12,13,14,15,16,17,18,19,20],[0,1,2,3,7,8,9,10,11,12,13,14,15,16,17,18,19,20],[0,1,2,3,7,8,9,10,11,12,13,14,15,16,17,18,19,20],[7,8,9,10,11,12,13,14,15,16,17,18,19,20],[0,1,2,3,4,5,6,9,10,11,12,13,14,15,16,17,18,19],[0,1,2,3,4,5,6,9,10,11,12,13,14,15,16,17,18,19],[0,1,2,3,4,5,6,7,8,13,14,15,16,17,18],[0,1,2,3,4,5,6,7,8,13,14,15,16,17,18],[0,1,2,3,4,5,6,7,8,13,14,15,16,17,18],[0,1,2,3,4,5,6,7,8,13,14,15,16,17,18],[0,1,2,3,4,5,6,7,8,9,10,11,12,15,16,17,18],[0,1,2,3,4,5,6,7,8,9,10,11,12,15,16,17,18],[0,1,2,3,4,5,6,7,8,9,10,11,12,13,14,17],[0,1,2,3,4,5,6,7,8,9,10,11,12,13,14,17],[0,1,2,3,4,5,6,7,8,9,10,11,12,13,14,15,16],[0,1,2,3,4,5,6,7,8,9,10,11,12,13,14],[0,1,2,3,4,5,6,7,8],[0,1,2,3,4,5,6],[]]
 |19=>[[4,5],[4,5],[4,5],[4,5],[0,1,2,3],[0,1,2,3],[],[],[]]
 |_=>[]
def akv:Nat→List (List Nat)
 |5=>[[4,5,6,7,8,9],[4,5,6,7,8,9],[4,5,6,7,8,9],[4,5,6,7,8,9],[0,1,2,3,6,7,8,9],[0,1,2,3,6,7,8,9],[0,1,2,3,4,5],[0,1,2,3,4,5],[0,1,2,3,4,5],[0,1,2,3,4,5],[],[]]
 |_=>[]
def akw:Nat→List (List Nat)
 |3=>[[1,2],[0,2,3],[0,1,3,4],[1,2],[2],[]]
 |_=>[]
def akx:Nat→List (List Nat)
 |5=>[[1,2,3,4,5,6,7,8],[0,3,4,5,6,7],[0,3,4,5,6,7],[0,1,2,4,5,6,7],[0,1,2,3,5],[0,1,2,3,4],[0,1,2,3],[0,1,2,3],[0],[],[],[]]
 |_=>[]
def aky:Nat→List (List Nat)
 |12=>[[2,3,4,5,6,7,8,9,10,11],[2,3,4,5,6,7,8,9,10,11],[0,1,3,7],[0,1,2,7],[0,1,7],[0,1,7],[0,1,7],[0,1,2,3,4,5,6],[0,1],[0,1],[0,1],[0,1],[],[],[]]
 |17=>[[2,3,4,5,6,7,8,9,10,11],[2,3,4,5,6,7,8,9,10,11],[0,1,3,7],[0,1,2,7],[0,1,7],[0,1,7],[0,1,7],[0,1,2,3,4,5,6],[0,1],[0,1],[0,1],[0,1],[],[],[]]
 |_=>[]
def adE:Nat→List (List Nat)
 |5=>[[1],[0],[],[],[],[],[7,8,9,10,11],[6,8],[6,7],[6],[6],[6],[],[],[],[],[],[],[19,23,24,25,26,27,28,29,30,31],[18,23,24,25,26,27,28,29,30,31],[23,24,25,26,27,28,29,30,31],[23,24,25,26,27,28,29,30,31],[23,24,25,26,27,28,29,30,31],[18,19,20,21,22,24,25,26,27,28],[18,19,20,21,22,23,25],[18,19,20,21,22,23,24],[18,19,20,21,22,23],[18,19,20,21,22,23],[18,19,20,21,22,23],[18,19,20,21,22],[18,19,20,21,22],[18,19,20,21,22],[],[]]
 |_=>[]
def adF:Nat→List (List Nat)
 |0=>[[1,2,3,4,5],[0,5,6,7],[0,5,6,7],[0,5,6,7],[0,5,6,7],[0,1,2,3,4,6,7],[1,2,3,4,5],[1,2,3,4,5],[],[]]
 |_=>[]
def adG:Nat→List (List Nat)
 |2=>[[1,2,3,4],[0,5,6],[0,5,6],[0,5,6],[0,5,6],[1,2,3,4],[1,2,3,4],[],[],[]]
 |_=>[]
def adH:Nat→List (List Nat)
 |4=>[[3,4,5,6,7,8,9,10,11,12],[3,4,5,6,7,8,9,10,11,12],[3,4,5,6,7,8,9,10,11,12],[0,1,2,7,9,10,11,12],[0,1,2,7,9,10,11,12],[0,1,2,7,9,10,11,12],[0,1,2,7,9,10,11,12],[0,1,2,3,4,5,6,9,10,11,12],[0,1,2,9,10,11,12],[0,1,2,3,4,5,6,7,8],[0,1,2,3,4,5,6,7,8],[0,1,2,3,4,5,6,7,8],[0,1,2,3,4,5,6,7,8],[],[],[]]
 |_=>[]
def adI:Nat→List (List Nat)
 |1=>[[4,5,8,9,10,11,12,13,14,15,16,17,18,19,20,21,22,23,24],[4,5,8,9,10,11,12,13,14,15,16,17,18,19,20,21,22,23,24],[4,5,8,9,10,11,12,13,14,15,16,17,18,19,20,21,22,23,24],[4,5,8,9,10,11,12,13,14,15,16,17,18,19,20,21,22,23,24],[0,1,2,3,8,9,10,11,12,13,14,15,16,17,18,19,20,21,22,23,24],[0,1,2,3,8,9,10,11,12,13,14,15,16,17,18,19,20,21,22,23,24],[8,9,10,11,12,13,14,15,16,17,18,19,20,21,22,23,24],[8,9,10,11,12,13,14,15,16,17,18,19,20,21,22,23,24],[0,1,2,3,4,5,6,7,12,13,16,17,18,19,20,21,22,23,24,25],[0,1,2,3,4,5,6,7,12,13,16,17,18,19,20,21,22,23,24,25],[0,1,2,3,4,5,6,7,12,13,16,17,18,19,20,21,22,23,24,25],[0,1,2,3,4,5,6,7,12,13,16,17,18,19,20,21,22,23,24,25],[0,1,2,3,4,5,6,7,8,9,10,11,16,17,18,19,20,21,22,23,24,25],[0,1,2,3,4,5,6,7,8,9,10,11,16,17,18,19,20,21,22,23,24,25],[0,1,2,3,4,5,6,7,16,17,18,19,20,21,22,23,24,25],[0,1,2,3,4,5,6,7,16,17,18,19,20,21,22,23,24,25],[0,1,2,3,4,5,6,7,8,9,10,11,12,13,14,15,20,21,22,25,26],[0,1,2,3,4,5,6,7,8,9,10,11,12,13,14,15,20,21,22,25,26],[0,1,2,3,4,5,6,7,8,9,10,11,12,13,14,15,20,21,22,25,26],[0,1,2,3,4,5,6,7,8,9,10,11,12,13,14,15,20,21,22,25,26],[0,1,2,3,4,5,6,7,8,9,10,11,12,13,14,15,16,17,18,19,25,26],[0,1,2,3,4,5,6,7,8,9,10,11,12,13,14,15,16,17,18,19,25,26],[0,1,2,3,4,5,6,7,8,9,10,11,12,13,14,15,16,17,18,19,25,26],[0,1,2,3,4,5,6,7,8,9,10,11,12,13,14,15,25,26],[0,1,2,3,4,5,6,7,8,9,10,11,12,13,14,15,25,26],[8,9,10,11,12,13,14,15,16,17,18,19,20,21,22,23,24],[16,17,18,19,20,21,22,23,24],[]]
 |_=>[]
def adJ:Nat→List (List Nat)
 |64=>[[1,2,3,4,5,6,7],[0,3,4,5,6,7],[0,3,4,5,6,7],[0,1,2,5],[0,1,2,5],[0,1,2,3,4],[0,1,2],[0,1,2],[],[],[11],[10,12],[11],[]]
 |67=>[[2,3,4,5,6,7,8,9,10,11,12],[2,3,4,5,6,7,8,9,10,11,12],[0,1,3,4,5,6,7,8,9,10,11],[0,1,2,7,8,9,10],[0,1,2,7,8,9,10],[0,1,2,7,8,9,10],[0,1,2,7,8,9,10],[0,1,2,3,4,5,6,8,9,10],[0,1,2,3,4,5,6,7,9],[0,1,2,3,4,5,6,7,8],[0,1,2,3,4,5,6,7],[0,1,2],[0,1],[],[]]
 |71=>[[4,5,6,7,8,9,10],[4,5,6,7,8,9,10],[4,5,6,7,8,9,10],[4,5,6,7,8,9,10],[0,1,2,3,5,7,8,9,10],[0,1,2,3,4,7,8,9,10],[0,1,2,3,7,8,9,10],[0,1,2,3,4,5,6,8],[0,1,2,3,4,5,6,7],[0,1,2,3,4,5,6],[0,1,2,3,4,5,6],[],[]]
 |_=>[]
def adK:Nat→List (List Nat)
 |6=>[[4,5,6,7,9],[4,5,6,7,9],[4,5,6,7,9],[4,5,6,7,9],[0,1,2,3,9],[0,1,2,3,9],[0,1,2,3,9],[0,1,2,3,9],[9],[0,1,2,3,4,5,6,7,8],[]]
 |8=>[[1,2],[0],[0],[]]
 |11=>[[2,7],[2,7],[0,1,7],[7],[7],[6,7],[5,7,8],[0,1,2,3,4,5,6],[6],[]]
 |13=>[[1,2],[0,2,3],[0,1],[1],[]]
 |_=>[]
def adL:Nat→List (List Nat)
 |5=>[[1,2,3,4],[0,3,4,5],[0,3,4,5],[0,1,2,5,6],[0,1,2,5,6],[1,2,3,4],[3,4],[]]
 |_=>[]
def adM:Nat→List (List Nat)
 |1=>[[4,5,11],[4,5,11],[4,5,11],[4,5,11],[0,1,2,3,11],[0,1,2,3,11],[11],[11],[9,10,11],[8,10,11,12],[8,9,11,12,13],[0,1,2,3,4,5,6,7,8,9,10],[9,10],[10],[]]
 |4=>[[4,5,6],[4,5,6],[4,5,6],[4,5,6],[0,1,2,3],[0,1,2,3],[0,1,2,3],[],[],[10,11],[9,11,12],[9,10,12,13],[10,11],[11]]
 |8=>[[1,2,3,4,5,6,7,8,9,10,11],[0,2,3,5,6,7,8,9,10],[0,1,5,6,7,8,9,10],[0,1,5,6,7,8,9,10],[0,5,6,7,8,9,10],[0,1,2,3,4,6,7,8,9],[0,1,2,3,4,5,8,9],[0,1,2,3,4,5,8,9],[0,1,2,3,4,5,6,7],[0,1,2,3,4,5,6,7],[0,1,2,3,4],[0],[],[],[]]
 |32=>[[1,2,3,4,5,6,7,8,9,10,11,12,13,14,15,16,17,18,19,20,21],[0,2,3,4,5,6,7,8,9,10,11,12,13,14,15,16,17,18,20],[0,1,4,7,10,11,12,13,14,15,16,17,18,20],[0,1,4,7,10,11,12,13,14,15,16,17,18,20],[0,1,2,3,7,10,11,12,13,14,15,16,17,18,20],[0,1,7,10,11,12,13,14,15,16,17,18,20],[0,1,7,10,11,12,13,14,15,16,17,18,20],[0,1,2,3,4,5,6,10,11,12,13,14,15,16,17,18,20],[0,1,10,11,12,13,14,15,16,17,18,20],[0,1,10,11,12,13,14,15,16,17,18,20],[0,1,2,3,4,5,6,7,8,9,12,15,16,20],[0,1,2,3,4,5,6,7,8,9,12,15,16,20],[0,1,2,3,4,5,6,7,8,9,10,11,15,16,20],[0,1,2,3,4,5,6,7,8,9,15,16,20],[0,1,2,3,4,5,6,7,8,9,15,16,20],[0,1,2,3,4,5,6,7,8,9,10,11,12,13,14,20],[0,1,2,3,4,5,6,7,8,9,10,11,12,13,14,20],[0,1,2,3,4,5,6,7,8,9,20],[0,1,2,3,4,5,6,7,8,9,20],[0,20],[0,1,2,3,4,5,6,7,8,9,10,11,12,13,14,15,16,17,18,19],[0],[],[]]
 |39=>[[1,2,3,4,6,7,8,9,10,12,13,14,15,16,18,19,20,21,22,23,24,25],[0,6,7,8,9,10,12,13,14,15,16,18,19,20,21,22,23,24,25],[0,6,7,8,9,10,12,13,14,15,16,18,19,20,21,22,23,24,25],[0,6,7,8,9,10,12,13,14,15,16,18,19,20,21,22,23,24,25],[0,6,7,8,9,10,12,13,14,15,16,18,19,20,21,22,23,24,25],[6,7,8,9,10,12,13,14,15,16,18,19,20,21,22,23,24,25],[0,1,2,3,4,5,7,8,9,10,12,13,14,15,16,18,19,20,21,22,23,24,25],[0,1,2,3,4,5,6,12,13,14,15,16,18,19,20,21,22,23,24,25],[0,1,2,3,4,5,6,12,13,14,15,16,18,19,20,21,22,23,24,25],[0,1,2,3,4,5,6,12,13,14,15,16,18,19,20,21,22,23,24,25],[0,1,2,3,4,5,6,12,13,14,15,16,18,19,20,21,22,23,24,25],[12,13,14,15,16,18,19,20,21,22,23,24,25],[0,1,2,3,4,5,6,7,8,9,10,11,13,14,15,16,18,19,20,21,22,23,24,25],[0,1,2,3,4,5,6,7,8,9,10,11,12,18,19,20,21,22,23,24,25],[0,1,2,3,4,5,6,7,8,9,10,11,12,18,19,20,21,22,23,24,25],[0,1,2,3,4,5,6,7,8,9,10,11,12,18,19,20,21,22,23,24,25],[0,1,2,3,4,5,6,7,8,9,10,11,12,18,19,20,21,22,23,24,25],[18,19,20,21,22,23,24,25],[0,1,2,3,4,5,6,7,8,9,10,11,12,13,14,15,16,17,21,22,23,24],[0,1,2,3,4,5,6,7,8,9,10,11,12,13,14,15,16,17,21,22,23,24],[0,1,2,3,4,5,6,7,8,9,10,11,12,13,14,15,16,17,21,22,23,24],[0,1,2,3,4,5,6,7,8,9,10,11,12,13,14,15,16,17,18,19,20,23,24],[0,1,2,3,4,5,6,7,8,9,10,11,12,13,14,15,16,17,18,19,20,23,24],[0,1,2,3,4,5,6,7,8,9,10,11,12,13,14,15,16,17,18,19,20,21,22],[0,1,2,3,4,5,6,7,8,9,10,11,12,13,14,15,16,17,18,19,20,21,22],[0,1,2,3,4,5,6,7,8,9,10,11,12,13,14,15,16,17],[],[],[]]
 |47=>[[2,3,4,6],[2,3,4,6],[0,1,3,4,6],[0,1,2,6],[0,1,2,6],[6],[0,1,2,3,4,5],[],[],[],[]]
 |53=>[[1,2,3,4,5,6,9,10],[0,3,4,5,9,10],[0,3,4,5,9,10],[0,1,2,4,5,9,10],[0,1,2,3,9,10],[0,1,2,3,9,10],[0,9,10],[9,10],[9,10],[0,1,2,3,4,5,6,7,8],[0,1,2,3,4,5,6,7,8],[],[]]
 |63=>[[4,5,6,7,8,9,10,16],[4,5,6,7,8,9,10,16],[4,5,6,7,8,9,10,16],[4,5,6,7,8,9,10,16],[0,1,2,3,6,7,8,9,10,16],[0,1,2,3,6,7,8,9,10,16],[0,1,2,3,4,5,8,16],[0,1,2,3,4,5,8,16],[0,1,2,3,4,5,6,7,16],[0,1,2,3,4,5,16],[0,1,2,3,4,5,16],[16],[16],[14,15,16],[13,15,16,17],[13,14,16,17,18],[0,1,2,3,4,5,6,7,8,9,10,11,12,13,14,15],[14,15],[15],[]]
 |_=>[]
def adN:Nat→List (List Nat)
 |6=>[[2,3,4,5,6,7,8],[2,3,4,5,6,7,8],[0,1,4],[0,1,4],[0,1,2,3],[0,1],[0,1],[0,1],[0,1],[],[],[]]
 |_=>[]
def adO:Nat→List (List Nat)
 |5=>[[1,2,3,4,5],[0,2,3,4,5,6,7],[0,1,4,5],[0,1,4,5],[0,1,2,3,6,7],[0,1,2,3,6,7],[1,4,5],[1,4,5],[],[]]
 |_=>[]
def adP:Nat→List (List Nat)
 |4=>[[4,7,8],[4,7,8],[4,7,8],[4,7,8],[0,1,2,3,7,8],[7,8],[7,8],[0,1,2,3,4,5,6],[0,1,2,3,4,5,6],[]]
 |7=>[[1,2,3,4,5,6,7],[0,5,6],[0,5,6],[0,5,6],[0,5,6],[0,1,2,3,4],[0,1,2,3,4],[0],[],[],[]]
 |_=>[]
def adQ:Nat→List (List Nat)
 |5=>[[1],[0,2,3],[1],[1],[],[]]
 |7=>[[1,2,3,4,5,6,7,8],[0,4,5,6],[0,4,5,6],[0,4,5,6],[0,1,2,3],[0,1,2,3],[0,1,2,3],[0],[0],[],[]]
 |10=>[[1],[0,2,3],[1],[1],[],[]]
 |13=>[[1,2,3,4,5,6,7,8],[0,4,5,6],[0,4,5,6],[0,4,5,6],[0,1,2,3],[0,1,2,3],[0,1,2,3],[0],[0],[],[]]
 |16=>[[1],[0,2,3],[1],[1],[],[]]
 |18=>[[1,2,3,4,5,6,7,8],[0,4,5,6],[0,4,5,6],[0,4,5,6],[0,1,2,3],[0,1,2,3],[0,1,2,3],[0],[0],[],[]]
 |19=>[[1,2,3],[0],[0],[0],[],[]]
 |21=>[[1,2,3,4,5],[0],[0],[0],[0],[0],[],[]]
 |_=>[]
def adR:Nat→List (List Nat)
 |6=>[[1,2,3,4,5,6,7,8],[0,4,5,6],[0,4,5,6],[0,4,5,6],[0,1,2,3],[0,1,2,3],[0,1,2,3],[0],[0],[],[]]
 |_=>[]
def adS:Nat→List (List Nat)
 |5=>[[5,8,9,10,11,12,13,14,15],[5,8,9,10,11,12,13,14,15],[5,8,9,10,11,12,13,14,15],[5,8,9,10,11,12,13,14,15],[5,8,9,10,11,12,13,14,15],[0,1,2,3,4,8,9,10,11,12,13,14,15],[8,9,10,11,12,13,14,15],[8,9,10,11,12,13,14,15],[0,1,2,3,4,5,6,7,13,16],[0,1,2,3,4,5,6,7,13,16],[0,1,2,3,4,5,6,7,13,16],[0,1,2,3,4,5,6,7,13,16],[0,1,2,3,4,5,6,7,13,16],[0,1,2,3,4,5,6,7,8,9,10,11,12,16],[0,1,2,3,4,5,6,7,16],[0,1,2,3,4,5,6,7,16],[8,9,10,11,12,13,14,15],[]]
 |_=>[]
def adT:Nat→List (List Nat)
 |4=>[[2,3,4],[2,3,4],[0,1,5],[0,1,5],[0,1,5],[2,3,4],[]]
 |_=>[]
def adU:Nat→List (List Nat)
 |10=>[[4,5,6,7],[4,5,6,7],[4,5,6,7],[4,5,6,7],[0,1,2,3,5,6,7],[0,1,2,3,4],[0,1,2,3,4],[0,1,2,3,4],[],[]]
 |18=>[[4,7,8,9],[4,7,8,9],[4,7,8,9],[4,7,8,9],[0,1,2,3,7,8,9],[7,8,9],[7,8,9],[0,1,2,3,4,5,6],[0,1,2,3,4,5,6],[0,1,2,3,4,5,6],[],[],[],[14,15],[13,15,16],[13,14,16,17],[14,15],[15],[]]
 |_=>[]
def adV:Nat→List (List Nat)
 |9=>[[5,8,10,11,12,13,14,15,16,17,18,19,20],[5,8,10,11,12,13,14,15,16,17,18,19,20],[5,8,10,11,12,13,14,15,16,17,18,19,20],[5,8,10,11,12,13,14,15,16,17,18,19,20],[5,8,10,11,12,13,14,15,16,17,18,19,20],[0,1,2,3,4,8,10,11,12,13,14,15,16,17,18,19,20],[8,10,11,12,13,14,15,16,17,18,19,20],[8,10,11,12,13,14,15,16,17,18,19,20],[0,1,2,3,4,5,6,7,10,11,12,13,14,15,16,17,18,19,20],[10,11,12,13,14,15,16,17,18,19,20],[0,1,2,3,4,5,6,7,8,9,14,17,21],[0,1,2,3,4,5,6,7,8,9,14,17,21],[0,1,2,3,4,5,6,7,8,9,14,17,21],[0,1,2,3,4,5,6,7,8,9,14,17,21],[0,1,2,3,4,5,6,7,8,9,10,11,12,13,17,21],[0,1,2,3,4,5,6,7,8,9,17,21],[0,1,2,3,4,5,6,7,8,9,17,21],[0,1,2,3,4,5,6,7,8,9,10,11,12,13,14,15,16,21],[0,1,2,3,4,5,6,7,8,9,21],[0,1,2,3,4,5,6,7,8,9,21],[0,1,2,3,4,5,6,7,8,9,21],[10,11,12,13,14,15,16,17,18,19,20],[]]
 |_=>[]
def adW:Nat→List (List Nat)
 |6=>[[3,4,5],[3,4,5],[3,4,5],[0,1,2],[0,1,2],[0,1,2],[],[]]
 |7=>[[3,4,5],[3,4,5],[3,4,5],[0,1,2],[0,1,2],[0,1,2],[],[]]
 |8=>[[3,4,5,6,7,8,9,10,11,12],[3,4,5,6,7,8,9,10,11,12],[3,4,5,6,7,8,9,10,11,12],[0,1,2,6,7,8,9,10,11,12],[0,1,2,6,7,8,9,10,11,12],[0,1,2,6,7,8,9,10,11,12],[0,1,2,3,4,5,7,8,9,12],[0,1,2,3,4,5,6,12],[0,1,2,3,4,5,6,12],[0,1,2,3,4,5,6,12],[0,1,2,3,4,5,12],[0,1,2,3,4,5,12],[0,1,2,3,4,5,6,7,8,9,10,11],[],[]]
 |11=>[[3,4,5],[3,4,5],[3,4,5],[0,1,2],[0,1,2],[0,1,2],[],[]]
 |14=>[[3,4,5],[3,4,5],[3,4,5],[0,1,2],[0,1,2],[0,1,2],[],[]]
 |15=>[[3,4,5,6,7,8,9,10,11,12],[3,4,5,6,7,8,9,10,11,12],[3,4,5,6,7,8,9,10,11,12],[0,1,2,6,7,8,9,10,11,12],[0,1,2,6,7,8,9,10,11,12],[0,1,2,6,7,8,9,10,11,12],[0,1,2,3,4,5,7,8,9,12],[0,1,2,3,4,5,6,12],[0,1,2,3,4,5,6,12],[0,1,2,3,4,5,6,12],[0,1,2,3,4,5,12],[0,1,2,3,4,5,12],[0,1,2,3,4,5,6,7,8,9,10,11],[],[]]
 |17=>[[3,4,5,6,7,8],[3,4,5,6,7,8],[3,4,5,6,7,8],[0,1,2,6,7,8,9],[0,1,2,6,7,8,9],[0,1,2,6,7,8,9],[0,1,2,3,4,5,9,10],[0,1,2,3,4,5,9,10],[0,1,2,3,4,5,9,10],[3,4,5,6,7,8],[6,7,8],[]]
 |24=>[[3,4,5,6,7,8,9,10,11,12,13],[3,4,5,6,7,8,9,10,11,12,13],[3,4,5,6,7,8,9,10,11,12,13],[0,1,2,6,7,8,9,10,11,12,13],[0,1,2,6,7,8,9,10,11,12,13],[0,1,2,6,7,8,9,10,11,12,13],[0,1,2,3,4,5,7,8,9,10,11,12,13],[0,1,2,3,4,5,6,8,9,10,11,12,13],[0,1,2,3,4,5,6,7,13],[0,1,2,3,4,5,6,7,13],[0,1,2,3,4,5,6,7,13],[0,1,2,3,4,5,6,7,13],[0,1,2,3,4,5,6,7,13],[0,1,2,3,4,5,6,7,8,9,10,11,12],[],[]]
 |31=>[[3,4,5,6,7,8,9,10,11,12,13,14,15,16,17,18,19,20],[3,4,5,6,7,8,9,10,11,12,13,14,15,16,17,18,19,20],[3,4,5,6,7,8,9,10,11,12,13,14,15,16,17,18,19,20],[0,1,2,6,7,8,9,10,11,12,13,14,15,16,17,18,19,20],[0,1,2,6,7,8,9,10,11,12,13,14,15,16,17,18,19,20],[0,1,2,6,7,8,9,10,11,12,13,14,15,16,17,18,19,20],[0,1,2,3,4,5,9,10,11,12,13,14,15,16,17,18,19,20],[0,1,2,3,4,5,9,10,11,12,13,14,15,16,17,18,19,20],[0,1,2,3,4,5,9,10,11,12,13,14,15,16,17,18,19,20],[0,1,2,3,4,5,6,7,8,10,11,12,15,16,17,18,19],[0,1,2,3,4,5,6,7,8,9,15,16,17,18,19],[0,1,2,3,4,5,6,7,8,9,15,16,17,18,19],[0,1,2,3,4,5,6,7,8,9,15,16,17,18,19],[0,1,2,3,4,5,6,7,8,15,16,17,18,19],[0,1,2,3,4,5,6,7,8,15,16,17,18,19],[0,1,2,3,4,5,6,7,8,9,10,11,12,13,14,16,17,18,19,20],[0,1,2,3,4,5,6,7,8,9,10,11,12,13,14,15],[0,1,2,3,4,5,6,7,8,9,10,11,12,13,14,15],[0,1,2,3,4,5,6,7,8,9,10,11,12,13,14,15],[0,1,2,3,4,5,6,7,8,9,10,11,12,13,14,15],[0,1,2,3,4,5,6,7,8,15],[],[]]
 |38=>[[3,4,5,6,7,8,9,10,11,12,13,14,15,16,17],[3,4,5,6,7,8,9,10,11,12,13,14,15,16,17],[3,4,5,6,7,8,9,10,11,12,13,14,15,16,17],[0,1,2,6,7,8,9,10,11,12,13,14,15,16,17],[0,1,2,6,7,8,9,10,11,12,13,14,15,16,17],[0,1,2,6,7,8,9,10,11,12,13,14,15,16,17],[0,1,2,3,4,5,9,10,11,12,13,14,15,16,17],[0,1,2,3,4,5,9,10,11,12,13,14,15,16,17],[0,1,2,3,4,5,9,10,11,12,13,14,15,16,17],[0,1,2,3,4,5,6,7,8,12,13,14,15,16],[0,1,2,3,4,5,6,7,8,12,13,14,15,16],[0,1,2,3,4,5,6,7,8,12,13,14,15,16],[0,1,2,3,4,5,6,7,8,9,10,11,13,14,15,16,17],[0,1,2,3,4,5,6,7,8,9,10,11,12],[0,1,2,3,4,5,6,7,8,9,10,11,12],[0,1,2,3,4,5,6,7,8,9,10,11,12],[0,1,2,3,4,5,6,7,8,9,10,11,12],[0,1,2,3,4,5,6,7,8,12],[],[]]
 |40=>[[3,4,5,6,7,8,9,10,11,12,13,14,15,16,17,18],[3,4,5,6,7,8,9,10,11,12,13,14,15,16,17,18],[3,4,5,6,7,8,9,10,11,12,13,14,15,16,17,18],[0,1,2,14,15,16,17],[0,1,2,14,15,16,17],[0,1,2,14,15,16,17],[0,1,2,14,15,16,17],[0,1,2,14,15,16,17],[0,1,2,14,15,16,17],[0,1,2,14,15,16,17],[0,1,2,14,15,16,17],[0,1,2,14,15,16,17],[0,1,2,14,15,16,17],[0,1,2,14,15,16,17],[0,1,2,3,4,5,6,7,8,9,10,11,12,13],[0,1,2,3,4,5,6,7,8,9,10,11,12,13],[0,1,2,3,4,5,6,7,8,9,10,11,12,13],[0,1,2,3,4,5,6,7,8,9,10,11,12,13],[0,1,2],[],[]]
 |42=>[[3,4,5,6,7,8,9,10,11,12,13,14,15,16,17,18],[3,4,5,6,7,8,9,10,11,12,13,14,15,16,17,18],[3,4,5,6,7,8,9,10,11,12,13,14,15,16,17,18],[0,1,2,14,15,16,17],[0,1,2,14,15,16,17],[0,1,2,14,15,16,17],[0,1,2,14,15,16,17],[0,1,2,14,15,16,17],[0,1,2,14,15,16,17],[0,1,2,14,15,16,17],[0,1,2,14,15,16,17],[0,1,2,14,15,16,17],[0,1,2,14,15,16,17],[0,1,2,14,15,16,17],[0,1,2,3,4,5,6,7,8,9,10,11,12,13],[0,1,2,3,4,5,6,7,8,9,10,11,12,13],[0,1,2,3,4,5,6,7,8,9,10,11,12,13],[0,1,2,3,4,5,6,7,8,9,10,11,12,13],[0,1,2],[],[]]
 |44=>[[3,4,5,6,7,8,9,10,11,12,13,14,15,16,17,18,19,20,21,22],[3,4,5,6,7,8,9,10,11,12,13,14,15,16,17,18,19,20,21,22],[3,4,5,6,7,8,9,10,11,12,13,14,15,16,17,18,19,20,21,22],[0,1,2,6,7,8,9,10,11,12,13,14,15,16,17,18,19,20,21,22],[0,1,2,6,7,8,9,10,11,12,13,14,15,16,17,18,19,20,21,22],[0,1,2,6,7,8,9,10,11,12,13,14,15,16,17,18,19,20,21,22],[0,1,2,3,4,5],[0,1,2,3,4,5],[0,1,2,3,4,5],[0,1,2,3,4,5],[0,1,2,3,4,5],[0,1,2,3,4,5],[0,1,2,3,4,5],[0,1,2,3,4,5],[0,1,2,3,4,5],[0,1,2,3,4,5],[0,1,2,3,4,5],[0,1,2,3,4,5],[0,1,2,3,4,5],[0,1,2,3,4,5],[0,1,2,3,4,5],[0,1,2,3,4,5],[0,1,2,3,4,5],[],[]]
 |46=>[[3,4,5,6,7,8,9,10,11,12,13,14,15,16,17,18,19,20,21,22],[3,4,5,6,7,8,9,10,11,12,13,14,15,16,17,18,19,20,21,22],[3,4,5,6,7,8,9,10,11,12,13,14,15,16,17,18,19,20,21,22],[0,1,2,6,7,8,9,10,11,12,13,14,15,16,17,18,19,20,21,22],[0,1,2,6,7,8,9,10,11,12,13,14,15,16,17,18,19,20,21,22],[0,1,2,6,7,8,9,10,11,12,13,14,15,16,17,18,19,20,21,22],[0,1,2,3,4,5],[0,1,2,3,4,5],[0,1,2,3,4,5],[0,1,2,3,4,5],[0,1,2,3,4,5],[0,1,2,3,4,5],[0,1,2,3,4,5],[0,1,2,3,4,5],[0,1,2,3,4,5],[0,1,2,3,4,5],[0,1,2,3,4,5],[0,1,2,3,4,5],[0,1,2,3,4,5],[0,1,2,3,4,5],[0,1,2,3,4,5],[0,1,2,3,4,5],[0,1,2,3,4,5],[],[]]
 |_=>[]
def adX:Nat→List (List Nat)
 |3=>[[4,5,6,7,8],[4,5,6,7,8],[4,5,6,7,8],[4,5,6,7,8],[0,1,2,3,5,6,7,8],[0,1,2,3,4,6,7],[0,1,2,3,4,5],[0,1,2,3,4,5],[0,1,2,3,4],[],[]]
 |6=>[[4,5,6,7,8],[4,5,6,7,8],[4,5,6,7,8],[4,5,6,7,8],[0,1,2,3,5,6,8],[0,1,2,3,4,6,8],[0,1,2,3,4,5,8],[0,1,2,3,8],[0,1,2,3,4,5,6,7],[],[]]
 |_=>[]
def adY:Nat→List (List Nat)
 |6=>[[4,5,6,7,8,9,10,11],[4,5,6,7,8,9,10,11],[4,5,6,7,8,9,10,11],[4,5,6,7,8,9,10,11],[0,1,2,3,5,6,7,8,9,10,11],[0,1,2,3,4,6,7,8,9,10],[0,1,2,3,4,5,8],[0,1,2,3,4,5,8],[0,1,2,3,4,5,6,7],[0,1,2,3,4,5],[0,1,2,3,4,5],[0,1,2,3,4],[],[]]
 |9=>[[4,6,7,8,9,10,11,12,13,14,15,16,17],[4,6,7,8,9,10,11,12,13,14,15,16,17],[4,6,7,8,9,10,11,12,13,14,15,16,17],[4,6,7,8,9,10,11,12,13,14,15,16,17],[0,1,2,3,6,7,8,9,10,11,12,13,14,15,16,17],[6,7,8,9,10,11,12,13,14,15,16,17],[0,1,2,3,4,5,8,9,10,11,12,13,14,15,16],[0,1,2,3,4,5,8,9,10,11,12,13,14,15,16],[0,1,2,3,4,5,6,7,12,13,14,15],[0,1,2,3,4,5,6,7,12,13,14,15],[0,1,2,3,4,5,6,7,12,13,14,15],[0,1,2,3,4,5,6,7,12,13,14,15],[0,1,2,3,4,5,6,7,8,9,10,11,13,14,15],[0,1,2,3,4,5,6,7,8,9,10,11,12,14],[0,1,2,3,4,5,6,7,8,9,10,11,12,13],[0,1,2,3,4,5,6,7,8,9,10,11,12],[0,1,2,3,4,5,6,7],[0,1,2,3,4,5],[]]
 |_=>[]
def adZ:Nat→List (List Nat)
 |1=>[[4,5,6,7],[4,5,6,7],[4,5,6,7],[4,5,6,7],[0,1,2,3],[0,1,2,3],[0,1,2,3],[0,1,2,3],[],[]]
 |_=>[]
def ad0:Nat→List (List Nat)
 |3=>[[4,5,6,7],[4,5,6,7],[4,5,6,7],[4,5,6,7],[0,1,2,3],[0,1,2,3],[0,1,2,3],[0,1,2,3],[],[]]
 |_=>[]
def ad1:Nat→List (List Nat)
 |6=>[[2,5,6,7,8,9],[2,5,6,7,8,9],[0,1,5,6,7,8,9],[5,6,7,8,9],[5,6,7,8,9],[0,1,2,3,4,7,10],[0,1,2,3,4,7,10],[0,1,2,3,4,5,6,10],[0,1,2,3,4,10],[0,1,2,3,4,10],[5,6,7,8,9],[],[]]
 |_=>[]
def ad2:Nat→List (List Nat)
 |10=>[[1,4,5,6],[0,4,5,6],[4,5,6],[4,5,6],[0,1,2,3,6],[0,1,2,3,6],[0,1,2,3,4,5],[],[],[]]
 |_=>[]
def ad3:Nat→List (List Nat)
 |9=>[[1,3,4,5,6],[0,3,4,5,6],[3,4,5,6],[0,1,2,4,7],[0,1,2,3,7],[0,1,2,7],[0,1,2,7],[3,4,5,6],[],[]]
 |_=>[]
def ad4:Nat→List (List Nat)
 |2=>[[2,3],[2,3],[0,1,4],[0,1,4],[2,3],[]]
 |_=>[]
def ad5:Nat→List (List Nat)
 |17=>[[3,4,5],[3,4,5],[3,4,5],[0,1,2,6],[0,1,2,6],[0,1,2,6],[3,4,5],[]]
 |_=>[]
def ad6:Nat→List (List Nat)
 |18=>[[5,6],[5,6],[5,6],[5,6],[5,6],[0,1,2,3,4],[0,1,2,3,4],[]]
 |_=>[]
def ad7:Nat→List (List Nat)
 |0=>[[3,4,5],[3,4,5],[3,4,5],[0,1,2],[0,1,2],[0,1,2],[]]
 |_=>[]
def ad8:Nat→List (List Nat)
 |2=>[[4,7,8,9,10,11,12,13,14],[4,7,8,9,10,11,12,13,14],[4,7,8,9,10,11,12,13,14],[4,7,8,9,10,11,12,13,14],[0,1,2,3,7,8,9,10,11,12,13,14],[7,8,9,10,11,12,13,14],[7,8,9,10,11,12,13,14],[0,1,2,3,4,5,6,12,15],[0,1,2,3,4,5,6,12,15],[0,1,2,3,4,5,6,12,15],[0,1,2,3,4,5,6,12,15],[0,1,2,3,4,5,6,12,15],[0,1,2,3,4,5,6,7,8,9,10,11,15],[0,1,2,3,4,5,6,15],[0,1,2,3,4,5,6,15],[7,8,9,10,11,12,13,14],[]]
 |_=>[]
def ad9:Nat→List (List Nat)
 |3=>[[4,7,9,10,11,12,13,14,15,16,17,18],[4,7,9,10,11,12,13,14,15,16,17,18],[4,7,9,10,11,12,13,14,15,16,17,18],[4,7,9,10,11,12,13,14,15,16,17,18],[0,1,2,3,7,9,10,11,12,13,14,15,16,17,18],[7,9,10,11,12,13,14,15,16,17,18],[7,9,10,11,12,13,14,15,16,17,18],[0,1,2,3,4,5,6,9,10,11,12,13,14,15,16,17,18],[9,10,11,12,13,14,15,16,17,18],[0,1,2,3,4,5,6,7,8,13,16,19],[0,1,2,3,4,5,6,7,8,13,16,19],[0,1,2,3,4,5,6,7,8,13,16,19],[0,1,2,3,4,5,6,7,8,13,16,19],[0,1,2,3,4,5,6,7,8,9,10,11,12,16,19],[0,1,2,3,4,5,6,7,8,16,19],[0,1,2,3,4,5,6,7,8,16,19],[0,1,2,3,4,5,6,7,8,9,10,11,12,13,14,15,19],[0,1,2,3,4,5,6,7,8,19],[0,1,2,3,4,5,6,7,8,19],[9,10,11,12,13,14,15,16,17,18],[]]
 |_=>[]
def aea:Nat→List (List Nat)
 |6=>[[2,3,4],[2,3,4],[0,1,5],[0,1,5],[0,1,5],[2,3,4],[]]
 |_=>[]
def aeb:Nat→List (List Nat)
 |1=>[[4,5,6,7],[4,5,6,7],[4,5,6,7],[4,5,6,7],[0,1,2,3],[0,1,2,3],[0,1,2,3],[0,1,2,3],[],[],[]]
 |_=>[]
def aec:Nat→List (List Nat)
 |18=>[[1,2,3,4,5,6,7,8,9,10,11,12,13,14,15,16,17,18,19,20,21],[0,5,6,7,8,9,10,11,12,13,14,15,16,17,18,19,20],[0,5,6,7,8,9,10,11,12,13,14,15,16,17,18,19,20],[0,5,6,7,8,9,10,11,12,13,14,15,16,17,18,19,20],[0,5,6,7,8,9,10,11,12,13,14,15,16,17,18,19,20],[0,1,2,3,4,7,8,9,10,11,12,13,14,15,16,17,18],[0,1,2,3,4,7,8,9,10,11,12,13,14,15,16,17,18],[0,1,2,3,4,5,6,9,10,11,12,13,14,15,16,17,18],[0,1,2,3,4,5,6,9,10,11,12,13,14,15,16,17,18],[0,1,2,3,4,5,6,7,8,10,11,12,13,14,15,16,17,18],[0,1,2,3,4,5,6,7,8,9,12,13,14,15,16,17,18],[0,1,2,3,4,5,6,7,8,9,12,13,14,15,16,17,18],[0,1,2,3,4,5,6,7,8,9,10,11,14,15,16,17,18],[0,1,2,3,4,5,6,7,8,9,10,11,14,15,16,17,18],[0,1,2,3,4,5,6,7,8,9,10,11,12,13,16,17,18],[0,1,2,3,4,5,6,7,8,9,10,11,12,13,16,17,18],[0,1,2,3,4,5,6,7,8,9,10,11,12,13,14,15,17,18],[0,1,2,3,4,5,6,7,8,9,10,11,12,13,14,15,16],[0,1,2,3,4,5,6,7,8,9,10,11,12,13,14,15,16],[0,1,2,3,4],[0,1,2,3,4],[0],[],[],[]]
 |_=>[]
def aed:Nat→List (List Nat)
 |5=>[[4,5,6],[4,5,6],[4,5,6],[4,5,6],[0,1,2,3,7],[0,1,2,3,7],[0,1,2,3,7],[4,5,6],[]]
 |8=>[[4,5,11],[4,5,11],[4,5,11],[4,5,11],[0,1,2,3,11],[0,1,2,3,11],[11],[11],[9,10,11],[8,10,11,12],[8,9,11,12,13],[0,1,2,3,4,5,6,7,8,9,10],[9,10],[10],[]]
 |11=>[[4,5,6,7,13],[4,5,6,7,13],[4,5,6,7,13],[4,5,6,7,13],[0,1,2,3,6,7,13],[0,1,2,3,6,7,13],[0,1,2,3,4,5,13],[0,1,2,3,4,5,13],[13],[13],[11,12,13],[10,12,13,14],[10,11,13,14,15],[0,1,2,3,4,5,6,7,8,9,10,11,12],[11,12],[12],[]]
 |12=>[[1,2],[0,3],[0,3],[1,2],[]]
 |15=>[[4,5,11],[4,5,11],[4,5,11],[4,5,11],[0,1,2,3,11],[0,1,2,3,11],[11],[11],[9,10,11],[8,10,11,12],[8,9,11,12,13],[0,1,2,3,4,5,6,7,8,9,10],[9,10],[10],[]]
 |17=>[[1,2,3,4,5,6,7,8,9,10,13,14,15],[0,4,5,6,7,8,13,14,15],[0,4,5,6,7,8,13,14,15],[0,4,5,6,7,8,13,14,15],[0,1,2,3,5,6,7,8,13,14,15],[0,1,2,3,4,7,8,13,14,15],[0,1,2,3,4,7,8,13,14,15],[0,1,2,3,4,5,6,13,14,15],[0,1,2,3,4,5,6,13,14,15],[0,13,14,15],[0,13,14,15],[13,14,15],[13,14,15],[0,1,2,3,4,5,6,7,8,9,10,11,12,16],[0,1,2,3,4,5,6,7,8,9,10,11,12,16],[0,1,2,3,4,5,6,7,8,9,10,11,12,16],[13,14,15],[]]
 |29=>[[1,2,5,6,7],[0,5,6,7],[0,5,6,7],[5,6,7],[5,6,7],[0,1,2,3,4],[0,1,2,3,4],[0,1,2,3,4],[],[13],[13],[13],[13],[9,10,11,12],[]]
 |_=>[]
def aee:Nat→List (List Nat)
 |4=>[[1,2,7,8],[0,7,8],[0,7,8],[7,8],[7,8],[6,7,8],[5,7,8,9],[0,1,2,3,4,5,6,8],[0,1,2,3,4,5,6,7],[6],[]]
 |_=>[]
def aef:Nat→List (List Nat)
 |4=>[[1,2,4,6,7],[0,4,6,7],[0,4,6,7],[4,6,7],[0,1,2,3,6,7],[6,7],[0,1,2,3,4,5],[0,1,2,3,4,5],[]]
 |_=>[]
def aeg:Nat→List (List Nat)
 |1=>[[1,4,5],[0,4,5],[4,5],[4,5],[0,1,2,3],[0,1,2,3],[]]
 |_=>[]
def aeh:Nat→List (List Nat)
 |1=>[[1,4,5],[0,4,5],[4,5],[4,5],[0,1,2,3],[0,1,2,3],[]]
 |_=>[]
def aei:Nat→List (List Nat)
 |2=>[[2,3],[2,3],[0,1],[0,1],[]]
 |8=>[[2,4,7,8],[2,4,7,8],[0,1,4,7,8],[4,7,8],[0,1,2,3,7,8],[7,8],[7,8],[0,1,2,3,4,5,6],[0,1,2,3,4,5,6],[]]
 |9=>[[1,2,3,4,5,7,8,10,11,12,13,14,15],[0,3,7,8,10,11,12,13,14,15],[0,3,7,8,10,11,12,13,14,15],[0,1,2,7,8,10,11,12,13,14,15],[0,7,8,10,11,12,13,14,15],[0,7,8,10,11,12,13,14,15],[7,8,10,11,12,13,14,15],[0,1,2,3,4,5,6,10,11,12,13,14,15],[0,1,2,3,4,5,6,10,11,12,13,14,15],[10,11,12,13,14,15],[0,1,2,3,4,5,6,7,8,9,12],[0,1,2,3,4,5,6,7,8,9,12],[0,1,2,3,4,5,6,7,8,9,10,11],[0,1,2,3,4,5,6,7,8,9],[0,1,2,3,4,5,6,7,8,9],[0,1,2,3,4,5,6,7,8,9],[]]
 |_=>[]
def aej:Nat→List (List Nat)
 |8=>[[1,2,3,5,6,7],[0,2,3,5,6,7],[0,1,5,6,7],[0,1,5,6,7],[5,6,7],[0,1,2,3,4,8],[0,1,2,3,4,8],[0,1,2,3,4,8],[5,6,7],[]]
 |12=>[[1,2,3,4,5,6,8,9,10],[0,2,3,5,6,8,9,10],[0,1,3,5,6,8,9,10],[0,1,2,5,6,8,9,10],[0,5,6,8,9,10],[0,1,2,3,4,8,9,10],[0,1,2,3,4,8,9,10],[8,9,10],[0,1,2,3,4,5,6,7,11],[0,1,2,3,4,5,6,7,11],[0,1,2,3,4,5,6,7,11],[8,9,10],[]]
 |15=>[[1,2,3,5,6,7],[0,2,3,5,6,7],[0,1,5,6,7],[0,1,5,6,7],[5,6,7],[0,1,2,3,4,8],[0,1,2,3,4,8],[0,1,2,3,4,8],[5,6,7],[]]
 |_=>[]
def aek:Nat→List (List Nat)
 |1=>[[2],[2],[0,1],[],[]]
 |_=>[]
def ael:Nat→List (List Nat)
 |28=>[[2,3,4,5,6],[2,3,4,5,6],[0,1,5,6],[0,1,5,6],[0,1,5,6],[0,1,2,3,4],[0,1,2,3,4],[],[]]
 |30=>[[1,2],[0],[0],[],[]]
 |_=>[]
def aem:Nat→List (List Nat)
 |8=>[[1,4,5,6,7],[0,4,5,6,7],[4,5,6,7],[4,5,6,7],[0,1,2,3,5],[0,1,2,3,4],[0,1,2,3],[0,1,2,3],[],[]]
 |_=>[]
def aen:Nat→List (List Nat)
 |13=>[[1],[0,2],[1],[]]
 |_=>[]
def aeo:Nat→List (List Nat)
 |5=>[[8,9],[8,9],[8,9],[8,9],[8,9],[8,9],[8,9],[8,9],[0,1,2,3,4,5,6,7],[0,1,2,3,4,5,6,7],[]]
 |_=>[]
def aep:Nat→List (List Nat)
 |6=>[[1,2,3,4,5,6,7],[0,2,3,4,5,7],[0,1,4,5,7],[0,1,4,5,7],[0,1,2,3,7],[0,1,2,3,7],[0,7],[0,1,2,3,4,5,6],[],[]]
 |10=>[[2,3],[2,3],[0,1],[0,1],[]]
 |12=>[[2,3],[2,3],[0,1],[0,1],[]]
 |15=>[[1,2,3,5,6],[0,5,6],[0,5,6],[0,5,6],[5,6],[0,1,2,3,4],[0,1,2,3,4],[]]
 |17=>[[2,3],[2,3],[0,1],[0,1],[]]
 |_=>[]
def aeq:Nat→List (List Nat)
 |7=>[[2,3],[2,3],[0,1],[0,1],[],[]]
 |_=>[]
def aer:Nat→List (List Nat)
 |2=>[[2,3,4],[2,3,4],[0,1],[0,1],[0,1],[],[],[]]
 |4=>[[2,3,4,5],[2,3,4,5],[0,1,3],[0,1,2],[0,1],[0,1],[],[],[]]
 |7=>[[2,3,4,5],[2,3,4,5],[0,1,3],[0,1,2],[0,1],[0,1],[],[],[]]
 |_=>[]
def aes:Nat→List (List Nat)
 |4=>[[2,3,4],[2,3,4],[0,1],[0,1],[0,1],[],[],[]]
 |10=>[[2,3,4,5],[2,3,4,5],[0,1,3],[0,1,2],[0,1],[0,1],[],[],[]]
 |_=>[]
def aet:Nat→List (List Nat)
 |5=>[[1,2],[0],[0],[],[],[]]
 |_=>[]
def aeu:Nat→List (List Nat)
 |4=>[[2,3,4,5],[2,3,4,5],[0,1],[0,1],[0,1],[0,1],[],[],[]]
 |6=>[[2,3,4],[2,3,4],[0,1],[0,1],[0,1],[],[],[]]
 |_=>[]
def aev:Nat→List (List Nat)
 |5=>[[1,4,5,6,7,9],[0,4,5,6,7,9],[4,5,6,7,9],[4,5,6,7,9],[0,1,2,3,5,9],[0,1,2,3,4,9],[0,1,2,3,9],[0,1,2,3,9],[9],[0,1,2,3,4,5,6,7,8],[],[]]
 |_=>[]
def aew:Nat→List (List Nat)
 |4=>[[1,4,5,6,7],[0,4,5,6,7],[4,5,6,7],[4,5,6,7],[0,1,2,3,5],[0,1,2,3,4],[0,1,2,3],[0,1,2,3],[]]
 |6=>[[1,4,5,6,7],[0,4,5,6,7],[4,5,6,7],[4,5,6,7],[0,1,2,3,5],[0,1,2,3,4],[0,1,2,3],[0,1,2,3],[]]
 |_=>[]
def aex:Nat→List (List Nat)
 |5=>[[1,5,6,7,8,10],[0,5,6,7,8,10],[5,6,7,8,10],[5,6,7,8,10],[5,6,7,8,10],[0,1,2,3,4,6,10],[0,1,2,3,4,5,10],[0,1,2,3,4,10],[0,1,2,3,4,10],[10],[0,1,2,3,4,5,6,7,8,9],[],[]]
 |_=>[]
def aey:Nat→List (List Nat)
 |2=>[[2,3],[2,3],[0,1],[0,1],[]]
 |_=>[]
def aez:Nat→List (List Nat)
 |7=>[[3,4,5,6,9,10],[3,4,5,6,9,10],[3,4,5,6,9,10],[0,1,2,4,5,6,7,9,10],[0,1,2,3,5,6,9,10],[0,1,2,3,4,9,10],[0,1,2,3,4,9,10],[3,9,10],[9,10],[0,1,2,3,4,5,6,7,8],[0,1,2,3,4,5,6,7,8],[],[]]
 |_=>[]
def aeA:Nat→List (List Nat)
 |10=>[[1,2,3,4,5,7],[0,4,5,7],[0,4,5,7],[0,4,5,7],[0,1,2,3,7],[0,1,2,3,7],[7],[0,1,2,3,4,5,6],[]]
 |_=>[]
def aeB:Nat→List (List Nat)
 |3=>[[3,4],[3,4],[3,4],[0,1,2],[0,1,2],[],[]]
 |17=>[[2,3,4,5,6],[2,3,4,5,6],[0,1,5,6],[0,1,5,6],[0,1,5,6],[0,1,2,3,4],[0,1,2,3,4],[],[]]
 |19=>[[2,3,4,5,6],[2,3,4,5,6],[0,1,5,6],[0,1,5,6],[0,1,5,6],[0,1,2,3,4],[0,1,2,3,4],[],[]]
 |_=>[]
end Go.Am
end
