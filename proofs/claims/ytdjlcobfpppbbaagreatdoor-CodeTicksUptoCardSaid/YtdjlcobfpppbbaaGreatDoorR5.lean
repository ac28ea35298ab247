/-
  Texts of one proof, one behind the other.
-/
import Derived.Test.YtdjlcobfpppbbaaGreatDoorR4
import Derived.ProofKit
import Derived.ChangeArms
import Derived.ChangeCalls
set_option linter.all false
section
namespace Go.Am
open Go
open Go.Proofs
set_option maxRecDepth 10000
abbrev zk:Nat→List Nat:=fun _=>[]
abbrev zg:Nat→List Gh:=fun _=>[]
abbrev zm:Nat→Bool:=fun _=>false
abbrev zf:ay:=⟨[],false,[],[],false⟩
abbrev zo:Nat→List (List Nat):=fun _=>[]
abbrev zl:Nat→List (Nat×Nat):=fun _=>[]
noncomputable def ahP:List (Nat→List Nat):=[zk,zk,zk,zk,zk,zk,zk,zk,W2,W3,R6,zk,zk,zk,zk,zk,zk,R7,R8,R9,Sa,zk,zk,zk,zk,zk,Sb,zk,zk,zk,zk,zk,zk,zk,Sc,Sd,zk,Se,Sf,zk,zk,zk,zk,Sg,Si,Sj,Sk,Sl,Sn,So,Sp,Sq,Sr,Ss,zk,zk,zk,zk,zk,zk,zk,zk,zk,zk,zk,zk,zk,zk,zk,zk,zk,zk,zk,Su,zk,Sv,zk,zk,Sw,zk,zk,Sx,zk,Sy,Sz,SA,SB,SC,SD,SF,SG,SH,SI,zk,zk,zk,zk,zk,zk,zk,zk,zk,zk,zk,zk,zk,zk,zk,zk,zk,zk,zk,zk,zk,Kn,Ko,zk,Kq,Kr,Ks,zk,zk,zk,zk,Ku,Kv,zk,zk,zk,Kw,Kx,Ky,Kz,KA,KB,KC,KD,KI,KJ,KK,KL,KM,KN,KO,zk,zk,zk,zk,zk,zk,zk,zk,KP,zk,zk,zk,zk,zk,zk,zk,zk,zk,zk,zk,KQ,KR,KU,KV,KW,zk,zk,zk,zk,zk,zk,zk,zk,KX,KY,KZ,K0,K1,K2,K3,K4,zk,zk,zk,zk,zk,zk,zk,zk,K5,K6,K7,zk,zk,zk,zk,K8,K9,La,Lc,Ld,Lf,Lg,Lh,Li,Lj,Lk,Ll,Lm,Ln,Lo,Lp,zk,zk,zk,zk,Lq,Lr,Ls,zk,zk,zk,zk,zk,Lt,Lu,Lv,Lw,LA,LB,LC,LD,LF,LG,LH,LJ,LK,LL,LM,LN,LO,LP,zk,zk,zk,zk,zk,zk,zk,zk,zk,zk,zk,zk,zk,zk,zk,zk,LQ,LR,LS,LU,LV,LW,LX,LY,LZ,zk,zk,zk,L3,L4,L5,L6,L7,L8,L9,Ma,Mb,Md,Me,Mf,zk,zk,zk,zk,zk,zk,zk,zk,zk,zk,zk,Mg,Mh,Mi,Mj,Ml,zk,zk,zk,zk,Mm,Mn,Mo,Mp,Mq,Mr,Mt,Mu,Mv,Mw,Mx,My,Mz,zk,zk,zk,zk,zk,zk,zk,zk,zk,MA,MB,MD,ME,MF,zk,zk,MG,MH,MI,zk,MJ,zk,zk,zk,zk,zk,zk,zk,zk,zk,zk,zk,zk,zk,zk,zk,zk,zk,zk,zk,zk,zk,zk,zk,zk]
noncomputable def ghL:List (Nat→List Gh):=[zg,zg,zg,zg,zg,zg,zg,zg,zg,zg,zg,zg,zg,zg,zg,zg,zg,zg,zg,zg,acm,zg,zg,zg,zg,zg,zg,zg,zg,zg,zg,zg,zg,zg,zg,zg,zg,zg,zg,zg,zg,zg,zg,zg,zg,zg,zg,zg,zg,zg,acw,zg,zg,zg,zg,zg,zg,zg,zg,zg,zg,zg,zg,zg,zg,zg,zg,zg,zg,zg,zg,zg,zg,zg,zg,zg,zg,zg,acA,zg,zg,acC,zg,zg,zg,zg,zg,zg,zg,zg,zg,acG,zg,zg,zg,zg,zg,zg,zg,zg,zg,zg,zg,zg,zg,zg,zg,zg,zg,zg,zg,zg,zg,zg,zg,zg,zg,zg,zg,zg,zg,zg,zg,zg,zg,zg,zg,zg,zg,zg,zg,zg,zg,zg,zg,zg,zg,zg,zg,zg,zg,zg,zg,zg,zg,zg,zg,zg,zg,zg,zg,zg,zg,zg,zg,zg,zg,zg,zg,zg,zg,zg,zg,zg,zg,zg,zg,zg,zg,zg,zg,zg,zg,zg,zg,zg,zg,zg,zg,zg,zg,zg,zg,zg,zg,zg,zg,zg,zg,zg,zg,zg,zg,zg,zg,zg,zg,zg,zg,zg,zg,zg,zg,zg,zg,zg,zg,zg,zg,Xx,zg,zg,zg,zg,zg,zg,zg,zg,zg,zg,zg,zg,zg,zg,zg,zg,zg,zg,zg,zg,zg,zg,zg,zg,zg,zg,zg,zg,zg,zg,zg,zg,zg,zg,zg,zg,zg,zg,zg,zg,zg,zg,zg,zg,zg,zg,zg,zg,zg,zg,zg,zg,zg,zg,zg,zg,zg,zg,zg,zg,zg,zg,zg,zg,zg,zg,zg,zg,zg,zg,zg,zg,zg,zg,zg,zg,zg,zg,zg,zg,zg,zg,zg,zg,zg,zg,zg,zg,zg,zg,zg,zg,zg,zg,zg,zg,zg,zg,zg,zg,zg,zg,zg,Yw,YA,zg,zg,YG,zg,zg,zg,zg,zg,zg,zg,zg,zg,zg,zg,zg,zg,zg,zg,zg,zg,zg,zg,zg,zg,zg,zg,zg,zg,zg,zg,zg,zg,zg,zg,zg,zg,zg,zg,zg,zg,zg,zg,zg,zg,zg,zg,zg,zg,zg]
noncomputable def mdL:List (Nat→Bool):=[zm,zm,zm,zm,zm,zm,zm,zm,md8,md9,zm,zm,zm,zm,zm,zm,zm,zm,aci,zm,zm,zm,zm,zm,zm,zm,zm,zm,zm,zm,zm,zm,zm,zm,acp,acq,zm,zm,acr,zm,zm,zm,zm,zm,acs,zm,acu,zm,zm,zm,zm,zm,zm,zm,zm,zm,zm,zm,zm,zm,zm,zm,zm,zm,zm,zm,zm,zm,zm,zm,zm,zm,zm,zm,zm,zm,zm,zm,zm,zm,zm,zm,zm,zm,zm,zm,zm,acE,zm,zm,zm,zm,zm,zm,zm,zm,zm,zm,zm,zm,zm,zm,zm,zm,zm,zm,zm,zm,zm,zm,zm,zm,zm,zm,zm,zm,zm,zm,zm,zm,zm,zm,zm,zm,W8,zm,zm,zm,zm,zm,zm,zm,zm,zm,zm,zm,zm,zm,zm,zm,zm,zm,zm,zm,zm,zm,zm,zm,zm,zm,zm,zm,zm,zm,zm,zm,zm,zm,zm,zm,zm,zm,zm,zm,zm,zm,zm,Xi,zm,zm,zm,zm,zm,zm,zm,zm,zm,Xl,zm,zm,zm,zm,zm,zm,zm,zm,zm,zm,zm,zm,zm,zm,zm,Xs,zm,zm,zm,zm,zm,zm,Xt,zm,zm,zm,zm,zm,zm,zm,zm,zm,zm,zm,zm,zm,zm,zm,zm,zm,zm,zm,zm,zm,zm,zm,zm,zm,zm,zm,zm,zm,zm,XI,XJ,XK,zm,zm,XL,zm,zm,zm,zm,zm,zm,zm,zm,zm,zm,zm,zm,zm,zm,zm,zm,zm,zm,zm,zm,zm,zm,zm,zm,zm,zm,zm,zm,zm,zm,zm,zm,XX,XZ,zm,zm,zm,X1,zm,X9,zm,zm,zm,zm,zm,zm,zm,zm,zm,zm,zm,zm,zm,zm,zm,zm,zm,zm,zm,zm,zm,zm,zm,zm,zm,zm,zm,zm,zm,zm,Yo,zm,zm,zm,zm,zm,zm,Yy,zm,zm,zm,zm,zm,zm,zm,zm,zm,zm,zm,zm,zm,zm,zm,YL,zm,zm,zm,zm,zm,zm,zm,zm,zm,zm,zm,zm,zm,zm,zm,zm,zm,zm,zm,zm,zm,zm,zm,zm,zm,zm,zm,zm,zm,zm,zm,zm,zm]
noncomputable def fpL:List (ay):=[zf,zf,zf,zf,zf,zf,zf,zf,fp8,fp9,UZ,zf,zf,zf,zf,zf,zf,U0,U1,U2,U3,zf,zf,zf,zf,zf,aco,zf,zf,zf,zf,zf,zf,zf,U4,U5,zf,U6,U7,zf,zf,zf,zf,U8,U9,Va,Vb,Vc,Vd,Ve,Vf,Vg,Vh,Vi,zf,zf,zf,zf,zf,zf,zf,zf,zf,zf,zf,zf,zf,zf,zf,zf,zf,zf,zf,Vj,zf,Vk,zf,zf,Ht,zf,zf,Vm,zf,Vn,Vo,acD,Vp,Vq,Vs,Vt,Vu,Vv,Vw,zf,zf,zf,zf,zf,zf,zf,zf,zf,zf,zf,zf,zf,zf,zf,zf,zf,zf,zf,zf,zf,OP,W4,zf,FE,Cy,W7,zf,zf,zf,zf,OQ,OR,zf,zf,zf,OS,OT,OU,OV,OW,OX,OY,OZ,O0,O1,O2,O3,O4,O5,O6,zf,zf,zf,zf,zf,zf,zf,zf,O7,zf,zf,zf,zf,zf,zf,zf,zf,zf,zf,zf,Xh,O8,O9,Xj,Xk,zf,zf,zf,zf,zf,zf,zf,zf,Pa,Pb,Pc,Pd,Xo,Xp,Xq,Xr,zf,zf,zf,zf,zf,zf,zf,zf,Pe,Pf,Ph,zf,zf,zf,zf,Pj,Pk,Pm,Po,Pp,Pq,Pr,Ps,Pt,Pu,Pv,Pw,Px,Py,Pz,PA,zf,zf,zf,zf,XA,XB,XF,zf,zf,zf,zf,zf,XG,PB,XH,PC,PD,PE,PF,PG,PH,PI,XN,XO,XQ,XR,XT,XU,XV,XW,zf,zf,zf,zf,zf,zf,zf,zf,zf,zf,zf,zf,zf,zf,zf,zf,PJ,PK,PL,PN,PO,PQ,PT,XY,X0,zf,zf,zf,X7,X8,Ya,PU,PV,PW,Yc,Yd,Ye,Yf,Yh,Yi,zf,zf,zf,zf,zf,zf,zf,zf,zf,zf,zf,PX,PY,PZ,Yk,Ym,zf,zf,zf,zf,Yn,Yp,P0,Yq,Ys,Yt,Yu,Yx,YB,YD,YE,YH,YI,zf,zf,zf,zf,zf,zf,zf,zf,zf,YJ,YK,YM,YN,YP,zf,zf,YQ,YS,YT,zf,YV,zf,zf,zf,zf,zf,zf,zf,zf,zf,zf,zf,zf,zf,zf,zf,zf,zf,zf,zf,zf,zf,zf,zf,zf]
noncomputable def odL:List (Nat→List (List Nat)):=[zo,zo,zo,zo,zo,od5,od6,zo,zo,zo,zo,an4,an5,an6,zo,an7,zo,zo,zo,acj,ack,an8,zo,an9,zo,aoa,acn,zo,zo,zo,aob,aoc,zo,aod,zo,zo,zo,zo,zo,zo,zo,zo,aoe,zo,zo,zo,acv,zo,zo,zo,zo,zo,zo,acx,zo,aof,zo,aog,zo,zo,zo,zo,zo,zo,zo,zo,zo,zo,aoh,zo,aoi,aoj,zo,zo,zo,acy,aok,zo,acz,aol,aom,acB,zo,zo,zo,zo,zo,zo,zo,zo,zo,acF,acI,zo,zo,zo,zo,zo,zo,zo,ag7,zo,zo,zo,zo,ag8,zo,zo,ag9,aha,zo,ahb,zo,ahc,zo,zo,zo,W5,W6,zo,zo,zo,ahd,ahe,zo,zo,ahf,ahg,zo,zo,W9,zo,Xa,zo,Xb,zo,Xc,Xd,zo,Xe,zo,zo,Xf,zo,zo,zo,zo,zo,ahh,zo,zo,zo,Xg,ahi,ahj,zo,ahk,ahl,zo,zo,ahm,zo,ahn,aho,zo,zo,zo,zo,zo,zo,ahp,zo,zo,zo,zo,zo,ahq,zo,Xm,zo,Xn,zo,zo,zo,zo,zo,ahr,zo,ahs,zo,aht,ahu,ahv,zo,zo,zo,zo,zo,zo,ahw,zo,zo,Xu,zo,zo,zo,Xv,zo,Xw,zo,Xy,Xz,zo,zo,zo,zo,ahx,zo,zo,zo,zo,zo,zo,ahy,zo,zo,zo,ahz,zo,zo,zo,zo,zo,zo,zo,zo,XM,zo,zo,zo,XP,zo,XS,zo,zo,zo,ahA,zo,zo,zo,zo,zo,ahB,zo,zo,ahC,zo,ahD,zo,ahE,zo,ahF,zo,zo,zo,zo,zo,zo,zo,zo,zo,zo,ahG,zo,zo,zo,zo,zo,Yb,zo,zo,zo,zo,zo,Yg,zo,zo,zo,zo,zo,ahH,ahI,zo,ahJ,ahK,zo,zo,zo,zo,zo,Yj,Yl,zo,zo,zo,zo,zo,zo,zo,zo,Yr,zo,zo,Yv,Yz,YC,zo,YF,zo,ahL,ahM,ahN,zo,ahO,zo,zo,zo,zo,zo,zo,zo,zo,YO,zo,zo,zo,YR,zo,zo,YU,zo,zo,zo,zo,zo,zo,zo,zo,zo,zo,zo,zo,zo,zo,zo,zo,zo,zo,zo,zo,zo,zo,zo,zo]
noncomputable def flL:List (Nat→List (Nat×Nat)):=[zl,zl,zl,zl,zl,zl,zl,zl,zl,zl,zl,zl,zl,zl,zl,zl,zl,zl,zl,zl,zl,zl,zl,zl,zl,zl,zl,zl,zl,zl,zl,zl,zl,zl,zl,zl,zl,zl,zl,zl,zl,zl,zl,zl,zl,zl,zl,zl,zl,zl,zl,zl,zl,zl,zl,zl,zl,zl,zl,zl,zl,zl,zl,zl,zl,zl,zl,zl,zl,zl,zl,zl,zl,zl,zl,zl,zl,zl,zl,zl,zl,zl,zl,zl,zl,zl,zl,zl,zl,zl,zl,acH,acJ,zl,zl,zl,zl,zl,zl,zl,zl,zl,zl,zl,zl,zl,zl,zl,zl,zl,zl,zl,zl,zl,zl,zl,zl,zl,zl,zl,zl,zl,zl,zl,zl,zl,zl,zl,zl,zl,zl,zl,zl,zl,zl,zl,zl,zl,zl,zl,zl,zl,zl,zl,zl,zl,zl,zl,zl,zl,zl,zl,zl,zl,zl,zl,zl,zl,zl,zl,zl,zl,zl,zl,zl,zl,zl,zl,zl,zl,zl,zl,zl,zl,zl,zl,zl,zl,zl,zl,zl,zl,zl,zl,zl,zl,zl,zl,zl,zl,zl,zl,zl,zl,zl,zl,zl,zl,zl,zl,zl,zl,zl,zl,zl,zl,zl,zl,zl,zl,zl,zl,zl,zl,zl,zl,zl,zl,zl,zl,zl,zl,zl,zl,zl,zl,zl,zl,zl,zl,zl,zl,zl,zl,zl,zl,zl,zl,zl,zl,zl,zl,zl,zl,zl,zl,zl,zl,zl,zl,zl,zl,zl,zl,zl,zl,zl,zl,zl,zl,zl,zl,zl,zl,zl,zl,zl,zl,zl,zl,zl,zl,zl,zl,zl,zl,zl,zl,zl,zl,zl,zl,zl,zl,zl,zl,zl,zl,zl,zl,zl,zl,zl,zl,zl,zl,zl,zl,zl,zl,zl,zl,zl,zl,zl,zl,zl,zl,zl,zl,zl,zl,zl,zl,zl,zl,zl,zl,zl,zl,zl,zl,zl,zl,zl,zl,zl,zl,zl,zl,zl,zl,zl,zl,zl,zl,zl,zl,zl,zl,zl,zl,zl,zl,zl,zl,zl,zl,zl,zl,zl,zl,zl,zl,zl,zl,zl,zl,zl,zl,zl,zl,zl,zl]
def bX:Type:=Int
variable [Inhabited bX]
def Dv:List Int:=[0,0,0,0,0,0,0,0,0,1,1,1,1,1,0,0,0,0,0,0,0,0,0,0,0,0,0,0,0,0,0,0,1,0,0,0,0,0,0,0,0,0,0,0,0,0,0,0,0,0,0,0,0,0,0,0,0,0,0,0,0,0,0,0,0,0,0,0,0,0,0,0,0,0,0,0,0,0,0,0,0,0,0,0,0,0,0,0,0,0,0,0,0,0,0,0,0,0,0,0,0,0,0,0,0,0,0,0,0,0,0,0,0,0,0,0,0,0,0,0,0,0,0,0,0,0,0,0,0,0,0,0,0,0,0,0,0,0,0,0,0,0,0,0,0,0,0,0,0,0,0,0,0,0,0,0,0,0,0,0,0,0,0,0,0,0,0,0,0,0,0,0,0,0,0,0,0,0,0,0,0,0,0,0,0,0,0,0,0,0,0,0,0,0,0,0,0,0,0,0,0,0,0,0,0,0,0,0,0,0,0,0,0,0,0,0,0,0,0,0,0,0,0,0,0,0,0,0,0,0,0,0,0,0,0,0,0,0,0,0,0,0,0,0,0,0,0,0,0,0,0,0,0,0,0,0]
def aC:List (Nat×D):=[(0,.agg (Dv.map fun z=>.int .u8 z)),(2,.int .i64 (id (α:=Int) (default:bX)))]
@[simp] theorem av0:glk aC 0=some (.agg (Dv.map fun z=>.int .u8 z)):=rfl
def Vx:FuncId→Option (List AV→Option AV)
 |228=>some (liftO hpO)
 |230=>some (liftO idxO)
 |275=>some (liftO ibO)
 |_=>none
noncomputable def ctx:Ctx:=⟨Tryz.prog,aC,fun f=>ahP.getD f (fun _=>[]),fun f=>ghL.getD f (fun _=>[]),fun f=>mdL.getD f (fun _=>false),fun f=>fpL.getD f ⟨[],false,[],[],false⟩,fun f=>odL.getD f (fun _=>[]),Vx,fun f=>flL.getD f (fun _=>[]),none⟩
@[simp] theorem av1:ctx.P=Tryz.prog:=rfl
@[simp] theorem aui:ctx.gl=aC:=rfl
@[simp] def aY(fn:Func):Code:=fn.body.getD .skip
abbrev EF(n:Nat)(k:Nat→List Nat)(g:Nat→List Gh)(m:Nat→Bool)(p:ay)(l:Nat→List (Nat×Nat))(o:Nat→List (List Nat)):Prop:=ctx.o6 n=k∧ctx.gh n=g∧ctx.md n=m∧ctx.fp n=p∧ctx.fl n=l∧ctx.od n=o
abbrev RF(n c:Nat)(p:ay)(fn:Func)(rs:List ResultVar):Prop:=∀{args:List AV}{cs:List aE},callOk c p args cs=true→ai ctx n args cs=aI ctx n (aY fn) (entry c aC args cs p.sites) (AY Tryz.prog p cs.length rs)
@[simp] theorem E8:EF 8 W2 zg md8 fp8 zl zo:=⟨rfl,rfl,rfl,rfl,rfl,rfl⟩
@[simp] theorem E9:EF 9 W3 zg md9 fp9 zl zo:=⟨rfl,rfl,rfl,rfl,rfl,rfl⟩
@[simp] theorem E10:EF 10 R6 zg zm UZ zl zo:=⟨rfl,rfl,rfl,rfl,rfl,rfl⟩
theorem ahQ:RF 10 40 UZ Tryz.f10 [.tmp 2]:=ax rfl rfl Tryz.func10 rfl (by kernel_rfl) Tryz.ntmps10 (by rw[Tryz.results10]) rfl rfl
@[simp] theorem E17:EF 17 R7 zg zm U0 zl zo:=⟨rfl,rfl,rfl,rfl,rfl,rfl⟩
theorem ahR:RF 17 18 U0 Tryz.f17 [.tmp 2]:=ax rfl rfl Tryz.func17 rfl (by kernel_rfl) Tryz.ntmps17 (by rw[Tryz.results17]) rfl rfl
@[simp] theorem E18:EF 18 R8 zg aci U1 zl zo:=⟨rfl,rfl,rfl,rfl,rfl,rfl⟩
theorem ahS:RF 18 129 U1 Tryz.f18 [.tmp 2]:=ax rfl rfl Tryz.func18 rfl (by kernel_rfl) Tryz.ntmps18 (by rw[Tryz.results18]) rfl rfl
@[simp] theorem E19:EF 19 R9 zg zm U2 zl acj:=⟨rfl,rfl,rfl,rfl,rfl,rfl⟩
theorem ahT:RF 19 58 U2 Tryz.f19 [.cell 2 29]:=ax rfl rfl Tryz.func19 rfl (by kernel_rfl) Tryz.ntmps19 (by rw[Tryz.results19]) rfl rfl
@[simp] theorem E20:EF 20 Sa acm zm U3 zl ack:=⟨rfl,rfl,rfl,rfl,rfl,rfl⟩
theorem ahU:RF 20 51 U3 Tryz.f20 [.cell 2 33,.tmp 3]:=ax rfl rfl Tryz.func20 rfl (by kernel_rfl) Tryz.ntmps20 (by rw[Tryz.results20]) rfl rfl
@[simp] theorem E26:EF 26 Sb zg zm aco zl acn:=⟨rfl,rfl,rfl,rfl,rfl,rfl⟩
@[simp] theorem E34:EF 34 Sc zg acp U4 zl zo:=⟨rfl,rfl,rfl,rfl,rfl,rfl⟩
theorem ahV:RF 34 45 U4 Tryz.f34 [.tmp 0]:=ax rfl rfl Tryz.func34 rfl (by kernel_rfl) Tryz.ntmps34 (by rw[Tryz.results34]) rfl rfl
@[simp] theorem E35:EF 35 Sd zg acq U5 zl zo:=⟨rfl,rfl,rfl,rfl,rfl,rfl⟩
theorem P1:RF 35 15 U5 Tryz.f35 [.tmp 2]:=ax rfl rfl Tryz.func35 rfl (by kernel_rfl) Tryz.ntmps35 (by rw[Tryz.results35]) rfl rfl
@[simp] theorem E37:EF 37 Se zg zm U6 zl zo:=⟨rfl,rfl,rfl,rfl,rfl,rfl⟩
theorem ahW:RF 37 8 U6 Tryz.f37 [.cell 2 25]:=ax rfl rfl Tryz.func37 rfl (by kernel_rfl) Tryz.ntmps37 (by rw[Tryz.results37]) rfl rfl
@[simp] theorem E38:EF 38 Sf zg acr U7 zl zo:=⟨rfl,rfl,rfl,rfl,rfl,rfl⟩
theorem ahX:RF 38 60 U7 Tryz.f38 [.tmp 2]:=ax rfl rfl Tryz.func38 rfl (by kernel_rfl) Tryz.ntmps38 (by rw[Tryz.results38]) rfl rfl
@[simp] theorem E43:EF 43 Sg zg zm U8 zl zo:=⟨rfl,rfl,rfl,rfl,rfl,rfl⟩
theorem ahY:RF 43 21 U8 Tryz.f43 [.tmp 4,.tmp 5]:=ax rfl rfl Tryz.func43 rfl (by kernel_rfl) Tryz.ntmps43 (by rw[Tryz.results43]) rfl rfl
@[simp] theorem E44:EF 44 Si zg acs U9 zl zo:=⟨rfl,rfl,rfl,rfl,rfl,rfl⟩
theorem ahZ:RF 44 59 U9 Tryz.f44 [.tmp 2]:=ax rfl rfl Tryz.func44 rfl (by kernel_rfl) Tryz.ntmps44 (by rw[Tryz.results44]) rfl rfl
@[simp] theorem E45:EF 45 Sj zg zm Va zl zo:=⟨rfl,rfl,rfl,rfl,rfl,rfl⟩
theorem ah0:RF 45 24 Va Tryz.f45 [.tmp 2]:=ax rfl rfl Tryz.func45 rfl (by kernel_rfl) Tryz.ntmps45 (by rw[Tryz.results45]) rfl rfl
@[simp] theorem E46:EF 46 Sk zg acu Vb zl acv:=⟨rfl,rfl,rfl,rfl,rfl,rfl⟩
theorem ah1:RF 46 258 Vb Tryz.f46 [.tmp 2]:=ax rfl rfl Tryz.func46 rfl (by kernel_rfl) Tryz.ntmps46 (by rw[Tryz.results46]) rfl rfl
@[simp] theorem E47:EF 47 Sl zg zm Vc zl zo:=⟨rfl,rfl,rfl,rfl,rfl,rfl⟩
theorem ah2:RF 47 25 Vc Tryz.f47 [.cell 4 71,.tmp 5]:=ax rfl rfl Tryz.func47 rfl (by kernel_rfl) Tryz.ntmps47 (by rw[Tryz.results47]) rfl rfl
@[simp] theorem E48:EF 48 Sn zg zm Vd zl zo:=⟨rfl,rfl,rfl,rfl,rfl,rfl⟩
theorem ah3:RF 48 18 Vd Tryz.f48 [.tmp 2]:=ax rfl rfl Tryz.func48 rfl (by kernel_rfl) Tryz.ntmps48 (by rw[Tryz.results48]) rfl rfl
@[simp] theorem E49:EF 49 So zg zm Ve zl zo:=⟨rfl,rfl,rfl,rfl,rfl,rfl⟩
theorem ah4:RF 49 27 Ve Tryz.f49 [.cell 6 29]:=ax rfl rfl Tryz.func49 rfl (by kernel_rfl) Tryz.ntmps49 (by rw[Tryz.results49]) rfl rfl
@[simp] theorem E50:EF 50 Sp acw zm Vf zl zo:=⟨rfl,rfl,rfl,rfl,rfl,rfl⟩
theorem ah5:RF 50 51 Vf Tryz.f50 [.cell 2 79]:=ax rfl rfl Tryz.func50 rfl (by kernel_rfl) Tryz.ntmps50 (by rw[Tryz.results50]) rfl rfl
@[simp] theorem E51:EF 51 Sq zg zm Vg zl zo:=⟨rfl,rfl,rfl,rfl,rfl,rfl⟩
theorem ah6:RF 51 16 Vg Tryz.f51 []:=ax rfl rfl Tryz.func51 rfl (by kernel_rfl) Tryz.ntmps51 (by rw[Tryz.results51]) rfl rfl
@[simp] theorem E52:EF 52 Sr zg zm Vh zl zo:=⟨rfl,rfl,rfl,rfl,rfl,rfl⟩
theorem YW:RF 52 16 Vh Tryz.f52 []:=ax rfl rfl Tryz.func52 rfl (by kernel_rfl) Tryz.ntmps52 (by rw[Tryz.results52]) rfl rfl
@[simp] theorem E53:EF 53 Ss zg zm Vi zl acx:=⟨rfl,rfl,rfl,rfl,rfl,rfl⟩
theorem P2:RF 53 43 Vi Tryz.f53 [.tmp 6]:=ax rfl rfl Tryz.func53 rfl (by kernel_rfl) Tryz.ntmps53 (by rw[Tryz.results53]) rfl rfl
@[simp] theorem E73:EF 73 Su zg zm Vj zl zo:=⟨rfl,rfl,rfl,rfl,rfl,rfl⟩
theorem ah7:RF 73 77 Vj Tryz.f73 [.tmp 2]:=ax rfl rfl Tryz.func73 rfl (by kernel_rfl) Tryz.ntmps73 (by rw[Tryz.results73]) rfl rfl
@[simp] theorem E75:EF 75 Sv zg zm Vk zl acy:=⟨rfl,rfl,rfl,rfl,rfl,rfl⟩
theorem ah8:RF 75 30 Vk Tryz.f75 [.tmp 2]:=ax rfl rfl Tryz.func75 rfl (by kernel_rfl) Tryz.ntmps75 (by rw[Tryz.results75]) rfl rfl
@[simp] theorem E78:EF 78 Sw acA zm Ht zl acz:=⟨rfl,rfl,rfl,rfl,rfl,rfl⟩
theorem ah9{args:List AV}{cs:List aE}(h:callOk 25 Ht args cs=true):ai ctx 78 args cs=jD ctx 78 (aY Tryz.f78) (entry 25 aC args cs Ht.sites) [] (finKD ctx Ht cs.length [.cell 2 25,.cell 3 34,.cell 4 63]):=
 RU rfl rfl Tryz.func78 rfl (by kernel_rfl) Tryz.ntmps78 (by rw[Tryz.results78]) rfl h
@[simp] theorem E81:EF 81 Sx acC zm Vm zl acB:=⟨rfl,rfl,rfl,rfl,rfl,rfl⟩
theorem aia:RF 81 48 Vm Tryz.f81 [.tmp 2]:=ax rfl rfl Tryz.func81 rfl (by kernel_rfl) Tryz.ntmps81 (by rw[Tryz.results81]) rfl rfl
@[simp] theorem E83:EF 83 Sy zg zm Vn zl zo:=⟨rfl,rfl,rfl,rfl,rfl,rfl⟩
theorem aib:RF 83 136 Vn Tryz.f83 [.tmp 4,.tmp 5]:=ax rfl rfl Tryz.func83 rfl (by kernel_rfl) Tryz.ntmps83 (by rw[Tryz.results83]) rfl rfl
@[simp] theorem E84:EF 84 Sz zg zm Vo zl zo:=⟨rfl,rfl,rfl,rfl,rfl,rfl⟩
theorem aic:RF 84 15 Vo Tryz.f84 [.tmp 2]:=ax rfl rfl Tryz.func84 rfl (by kernel_rfl) Tryz.ntmps84 (by rw[Tryz.results84]) rfl rfl
@[simp] theorem E85:EF 85 SA zg zm acD zl zo:=⟨rfl,rfl,rfl,rfl,rfl,rfl⟩
@[simp] theorem E86:EF 86 SB zg zm Vp zl zo:=⟨rfl,rfl,rfl,rfl,rfl,rfl⟩
theorem aid:RF 86 27 Vp Tryz.f86 [.tmp 2,.tmp 3,.tmp 4]:=ax rfl rfl Tryz.func86 rfl (by kernel_rfl) Tryz.ntmps86 (by rw[Tryz.results86]) rfl rfl
@[simp] theorem E87:EF 87 SC zg acE Vq zl zo:=⟨rfl,rfl,rfl,rfl,rfl,rfl⟩
theorem aie:RF 87 126 Vq Tryz.f87 [.tmp 2]:=ax rfl rfl Tryz.func87 rfl (by kernel_rfl) Tryz.ntmps87 (by rw[Tryz.results87]) rfl rfl
@[simp] theorem E88:EF 88 SD zg zm Vs zl zo:=⟨rfl,rfl,rfl,rfl,rfl,rfl⟩
theorem aif:RF 88 25 Vs Tryz.f88 [.tmp 2]:=ax rfl rfl Tryz.func88 rfl (by kernel_rfl) Tryz.ntmps88 (by rw[Tryz.results88]) rfl rfl
@[simp] theorem E89:EF 89 SF zg zm Vt zl zo:=⟨rfl,rfl,rfl,rfl,rfl,rfl⟩
theorem mo:RF 89 242 Vt Tryz.f89 [.cell 6 29]:=ax rfl rfl Tryz.func89 rfl (by kernel_rfl) Tryz.ntmps89 (by rw[Tryz.results89]) rfl rfl
@[simp] theorem E90:EF 90 SG zg zm Vu zl zo:=⟨rfl,rfl,rfl,rfl,rfl,rfl⟩
theorem aih:RF 90 20 Vu Tryz.f90 [.tmp 2]:=ax rfl rfl Tryz.func90 rfl (by kernel_rfl) Tryz.ntmps90 (by rw[Tryz.results90]) rfl rfl
@[simp] theorem E91:EF 91 SH acG zm Vv acH acF:=⟨rfl,rfl,rfl,rfl,rfl,rfl⟩
theorem tg:RF 91 83 Vv Tryz.f91 []:=ax rfl rfl Tryz.func91 rfl (by kernel_rfl) Tryz.ntmps91 (by rw[Tryz.results91]) rfl rfl
@[simp] theorem E92:EF 92 SI zg zm Vw acJ acI:=⟨rfl,rfl,rfl,rfl,rfl,rfl⟩
theorem aii:RF 92 13 Vw Tryz.f92 []:=ax rfl rfl Tryz.func92 rfl (by kernel_rfl) Tryz.ntmps92 (by rw[Tryz.results92]) rfl rfl
@[simp] theorem awt:EF 114 Kn zg zm OP zl zo:=⟨rfl,rfl,rfl,rfl,rfl,rfl⟩
theorem acK:RF 114 17 OP Tryz.f114 [.cell 2 178,.tmp 3]:=ax rfl rfl Tryz.func114 rfl (by kernel_rfl) Tryz.ntmps114 (by rw[Tryz.results114]) rfl rfl
@[simp] theorem awu:EF 115 Ko zg zm W4 zl zo:=⟨rfl,rfl,rfl,rfl,rfl,rfl⟩
@[simp] theorem awv:EF 117 Kq zg zm FE zl W5:=⟨rfl,rfl,rfl,rfl,rfl,rfl⟩
theorem acL:RF 117 62 FE Tryz.f117 [.tmp 2,.tmp 3,.cell 4 63]:=ax rfl rfl Tryz.func117 rfl (by kernel_rfl) Tryz.ntmps117 (by rw[Tryz.results117]) rfl rfl
@[simp] theorem aww:EF 118 Kr zg zm Cy zl W6:=⟨rfl,rfl,rfl,rfl,rfl,rfl⟩
theorem acM{args ys:List AV}{rv:AV}{cs:List aE}(hl:args.getLast?=some rv)(hy:args.dropLast=ys)(h:callOk 22 Cy ys cs=true):Ds ctx 118 args cs=tc ctx 118 rv (aY Tryz.f118) (entry 22 aC ys cs Cy.sites) (finRK Tryz.prog Cy cs.length []):=
 ZN Tryz.func118 rfl Tryz.ntmps118 (by rw[Tryz.results118]) rfl hl hy h
@[simp] theorem awx:EF 119 Ks zg zm W7 zl zo:=⟨rfl,rfl,rfl,rfl,rfl,rfl⟩
@[simp] theorem awy:EF 124 Ku zg W8 OQ zl zo:=⟨rfl,rfl,rfl,rfl,rfl,rfl⟩
theorem acN:RF 124 105 OQ Tryz.f124 [.cell 2 136]:=ax rfl rfl Tryz.func124 rfl (by kernel_rfl) Tryz.ntmps124 (by rw[Tryz.results124]) rfl rfl
@[simp] theorem awz:EF 125 Kv zg zm OR zl zo:=⟨rfl,rfl,rfl,rfl,rfl,rfl⟩
theorem acO:RF 125 19 OR Tryz.f125 [.tmp 2]:=ax rfl rfl Tryz.func125 rfl (by kernel_rfl) Tryz.ntmps125 (by rw[Tryz.results125]) rfl rfl
@[simp] theorem awA:EF 129 Kw zg zm OS zl zo:=⟨rfl,rfl,rfl,rfl,rfl,rfl⟩
theorem acP:RF 129 44 OS Tryz.f129 [.tmp 4,.tmp 5]:=ax rfl rfl Tryz.func129 rfl (by kernel_rfl) Tryz.ntmps129 (by rw[Tryz.results129]) rfl rfl
@[simp] theorem awB:EF 130 Kx zg zm OT zl W9:=⟨rfl,rfl,rfl,rfl,rfl,rfl⟩
theorem eE:RF 130 155 OT Tryz.f130 [.tmp 4,.cell 5 29]:=ax rfl rfl Tryz.func130 rfl (by kernel_rfl) Tryz.ntmps130 (by rw[Tryz.results130]) rfl rfl
@[simp] theorem awC:EF 131 Ky zg zm OU zl zo:=⟨rfl,rfl,rfl,rfl,rfl,rfl⟩
theorem acQ:RF 131 27 OU Tryz.f131 [.cell 6 29]:=ax rfl rfl Tryz.func131 rfl (by kernel_rfl) Tryz.ntmps131 (by rw[Tryz.results131]) rfl rfl
@[simp] theorem awD:EF 132 Kz zg zm OV zl Xa:=⟨rfl,rfl,rfl,rfl,rfl,rfl⟩
theorem acR:RF 132 91 OV Tryz.f132 [.cell 4 29]:=ax rfl rfl Tryz.func132 rfl (by kernel_rfl) Tryz.ntmps132 (by rw[Tryz.results132]) rfl rfl
@[simp] theorem awE:EF 133 KA zg zm OW zl zo:=⟨rfl,rfl,rfl,rfl,rfl,rfl⟩
theorem acS:RF 133 5 OW Tryz.f133 []:=ax rfl rfl Tryz.func133 rfl (by kernel_rfl) Tryz.ntmps133 (by rw[Tryz.results133]) rfl rfl
@[simp] theorem awF:EF 134 KB zg zm OX zl Xb:=⟨rfl,rfl,rfl,rfl,rfl,rfl⟩
theorem SJ:RF 134 49 OX Tryz.f134 []:=ax rfl rfl Tryz.func134 rfl (by kernel_rfl) Tryz.ntmps134 (by rw[Tryz.results134]) rfl rfl
@[simp] theorem awG:EF 135 KC zg zm OY zl zo:=⟨rfl,rfl,rfl,rfl,rfl,rfl⟩
theorem SK:RF 135 49 OY Tryz.f135 []:=ax rfl rfl Tryz.func135 rfl (by kernel_rfl) Tryz.ntmps135 (by rw[Tryz.results135]) rfl rfl
@[simp] theorem awH:EF 136 KD zg zm OZ zl Xc:=⟨rfl,rfl,rfl,rfl,rfl,rfl⟩
theorem acT:RF 136 11 OZ Tryz.f136 []:=ax rfl rfl Tryz.func136 rfl (by kernel_rfl) Tryz.ntmps136 (by rw[Tryz.results136]) rfl rfl
@[simp] theorem awI:EF 137 KI zg zm O0 zl Xd:=⟨rfl,rfl,rfl,rfl,rfl,rfl⟩
theorem sl:RF 137 141 O0 Tryz.f137 [.tmp 4]:=ax rfl rfl Tryz.func137 rfl (by kernel_rfl) Tryz.ntmps137 (by rw[Tryz.results137]) rfl rfl
@[simp] theorem awJ:EF 138 KJ zg zm O1 zl zo:=⟨rfl,rfl,rfl,rfl,rfl,rfl⟩
theorem acU:RF 138 22 O1 Tryz.f138 []:=ax rfl rfl Tryz.func138 rfl (by kernel_rfl) Tryz.ntmps138 (by rw[Tryz.results138]) rfl rfl
@[simp] theorem awK:EF 139 KK zg zm O2 zl Xe:=⟨rfl,rfl,rfl,rfl,rfl,rfl⟩
theorem acV:RF 139 47 O2 Tryz.f139 []:=ax rfl rfl Tryz.func139 rfl (by kernel_rfl) Tryz.ntmps139 (by rw[Tryz.results139]) rfl rfl
@[simp] theorem awL:EF 140 KL zg zm O3 zl zo:=⟨rfl,rfl,rfl,rfl,rfl,rfl⟩
theorem SL:RF 140 7 O3 Tryz.f140 []:=ax rfl rfl Tryz.func140 rfl (by kernel_rfl) Tryz.ntmps140 (by rw[Tryz.results140]) rfl rfl
@[simp] theorem awM:EF 141 KM zg zm O4 zl zo:=⟨rfl,rfl,rfl,rfl,rfl,rfl⟩
theorem Hu:RF 141 9 O4 Tryz.f141 [.tmp 4]:=ax rfl rfl Tryz.func141 rfl (by kernel_rfl) Tryz.ntmps141 (by rw[Tryz.results141]) rfl rfl
@[simp] theorem awN:EF 142 KN zg zm O5 zl Xf:=⟨rfl,rfl,rfl,rfl,rfl,rfl⟩
theorem acW:RF 142 60 O5 Tryz.f142 []:=ax rfl rfl Tryz.func142 rfl (by kernel_rfl) Tryz.ntmps142 (by rw[Tryz.results142]) rfl rfl
@[simp] theorem awO:EF 143 KO zg zm O6 zl zo:=⟨rfl,rfl,rfl,rfl,rfl,rfl⟩
theorem acX:RF 143 8 O6 Tryz.f143 [.tmp 2]:=ax rfl rfl Tryz.func143 rfl (by kernel_rfl) Tryz.ntmps143 (by rw[Tryz.results143]) rfl rfl
@[simp] theorem awP:EF 152 KP zg zm O7 zl Xg:=⟨rfl,rfl,rfl,rfl,rfl,rfl⟩
theorem SM:RF 152 93 O7 Tryz.f152 [.tmp 6,.tmp 7,.tmp 8]:=ax rfl rfl Tryz.func152 rfl (by kernel_rfl) Tryz.ntmps152 (by rw[Tryz.results152]) rfl rfl
@[simp] theorem awQ:EF 164 KQ zg zm Xh zl zo:=⟨rfl,rfl,rfl,rfl,rfl,rfl⟩
@[simp] theorem awR:EF 165 KR zg zm O8 zl zo:=⟨rfl,rfl,rfl,rfl,rfl,rfl⟩
theorem acY:RF 165 19 O8 Tryz.f165 [.tmp 4]:=ax rfl rfl Tryz.func165 rfl (by kernel_rfl) Tryz.ntmps165 (by rw[Tryz.results165]) rfl rfl
@[simp] theorem awS:EF 166 KU zg zm O9 zl zo:=⟨rfl,rfl,rfl,rfl,rfl,rfl⟩
theorem acZ:RF 166 8 O9 Tryz.f166 [.tmp 3]:=ax rfl rfl Tryz.func166 rfl (by kernel_rfl) Tryz.ntmps166 (by rw[Tryz.results166]) rfl rfl
@[simp] theorem awT:EF 167 KV zg Xi Xj zl zo:=⟨rfl,rfl,rfl,rfl,rfl,rfl⟩
@[simp] theorem awU:EF 168 KW zg zm Xk zl zo:=⟨rfl,rfl,rfl,rfl,rfl,rfl⟩
@[simp] theorem awV:EF 177 KX zg Xl Pa zl zo:=⟨rfl,rfl,rfl,rfl,rfl,rfl⟩
theorem ac0:RF 177 51 Pa Tryz.f177 [.tmp 2]:=ax rfl rfl Tryz.func177 rfl (by kernel_rfl) Tryz.ntmps177 (by rw[Tryz.results177]) rfl rfl
@[simp] theorem awW:EF 178 KY zg zm Pb zl Xm:=⟨rfl,rfl,rfl,rfl,rfl,rfl⟩
theorem ac1:RF 178 12 Pb Tryz.f178 [.tmp 2]:=ax rfl rfl Tryz.func178 rfl (by kernel_rfl) Tryz.ntmps178 (by rw[Tryz.results178]) rfl rfl
@[simp] theorem awX:EF 179 KZ zg zm Pc zl zo:=⟨rfl,rfl,rfl,rfl,rfl,rfl⟩
theorem ac2:RF 179 54 Pc Tryz.f179 [.cell 4 63,.tmp 5]:=ax rfl rfl Tryz.func179 rfl (by kernel_rfl) Tryz.ntmps179 (by rw[Tryz.results179]) rfl rfl
@[simp] theorem awY:EF 180 K0 zg zm Pd zl Xn:=⟨rfl,rfl,rfl,rfl,rfl,rfl⟩
theorem ac3:RF 180 42 Pd Tryz.f180 []:=ax rfl rfl Tryz.func180 rfl (by kernel_rfl) Tryz.ntmps180 (by rw[Tryz.results180]) rfl rfl
@[simp] theorem awZ:EF 181 K1 zg zm Xo zl zo:=⟨rfl,rfl,rfl,rfl,rfl,rfl⟩
@[simp] theorem aw0:EF 182 K2 zg zm Xp zl zo:=⟨rfl,rfl,rfl,rfl,rfl,rfl⟩
@[simp] theorem aw1:EF 183 K3 zg zm Xq zl zo:=⟨rfl,rfl,rfl,rfl,rfl,rfl⟩
@[simp] theorem aw2:EF 184 K4 zg zm Xr zl zo:=⟨rfl,rfl,rfl,rfl,rfl,rfl⟩
@[simp] theorem aw3:EF 193 K5 zg Xs Pe zl zo:=⟨rfl,rfl,rfl,rfl,rfl,rfl⟩
theorem ac4:RF 193 41 Pe Tryz.f193 [.tmp 2,.tmp 3,.tmp 4]:=ax rfl rfl Tryz.func193 rfl (by kernel_rfl) Tryz.ntmps193 (by rw[Tryz.results193]) rfl rfl
@[simp] theorem aw4:EF 194 K6 zg zm Pf zl zo:=⟨rfl,rfl,rfl,rfl,rfl,rfl⟩
theorem ac5:RF 194 4 Pf Tryz.f194 [.tmp 2]:=ax rfl rfl Tryz.func194 rfl (by kernel_rfl) Tryz.ntmps194 (by rw[Tryz.results194]) rfl rfl
@[simp] theorem aw5:EF 195 K7 zg zm Ph zl zo:=⟨rfl,rfl,rfl,rfl,rfl,rfl⟩
theorem ac6:RF 195 25 Ph Tryz.f195 [.cell 6 136]:=ax rfl rfl Tryz.func195 rfl (by kernel_rfl) Tryz.ntmps195 (by rw[Tryz.results195]) rfl rfl
@[simp] theorem aw6:EF 200 K8 zg Xt Pj zl zo:=⟨rfl,rfl,rfl,rfl,rfl,rfl⟩
theorem ac7:RF 200 32 Pj Tryz.f200 [.cell 4 175,.tmp 5]:=ax rfl rfl Tryz.func200 rfl (by kernel_rfl) Tryz.ntmps200 (by rw[Tryz.results200]) rfl rfl
@[simp] theorem aw7:EF 201 K9 zg zm Pk zl zo:=⟨rfl,rfl,rfl,rfl,rfl,rfl⟩
theorem ac8:RF 201 24 Pk Tryz.f201 [.cell 4 29]:=ax rfl rfl Tryz.func201 rfl (by kernel_rfl) Tryz.ntmps201 (by rw[Tryz.results201]) rfl rfl
@[simp] theorem aw8:EF 202 La zg zm Pm zl Xu:=⟨rfl,rfl,rfl,rfl,rfl,rfl⟩
theorem ac9:RF 202 29 Pm Tryz.f202 [.tmp 4,.cell 5 71,.tmp 6]:=ax rfl rfl Tryz.func202 rfl (by kernel_rfl) Tryz.ntmps202 (by rw[Tryz.results202]) rfl rfl
@[simp] theorem aw9:EF 203 Lc zg zm Po zl zo:=⟨rfl,rfl,rfl,rfl,rfl,rfl⟩
theorem ada:RF 203 8 Po Tryz.f203 []:=ax rfl rfl Tryz.func203 rfl (by kernel_rfl) Tryz.ntmps203 (by rw[Tryz.results203]) rfl rfl
@[simp] theorem axa:EF 204 Ld zg zm Pp zl zo:=⟨rfl,rfl,rfl,rfl,rfl,rfl⟩
theorem adb:RF 204 9 Pp Tryz.f204 [.tmp 4]:=ax rfl rfl Tryz.func204 rfl (by kernel_rfl) Tryz.ntmps204 (by rw[Tryz.results204]) rfl rfl
@[simp] theorem axb:EF 205 Lf zg zm Pq zl zo:=⟨rfl,rfl,rfl,rfl,rfl,rfl⟩
theorem ade:RF 205 14 Pq Tryz.f205 []:=ax rfl rfl Tryz.func205 rfl (by kernel_rfl) Tryz.ntmps205 (by rw[Tryz.results205]) rfl rfl
@[simp] theorem axc:EF 206 Lg zg zm Pr zl Xv:=⟨rfl,rfl,rfl,rfl,rfl,rfl⟩
theorem adf:RF 206 49 Pr Tryz.f206 [.tmp 6,.cell 7 175,.tmp 8]:=ax rfl rfl Tryz.func206 rfl (by kernel_rfl) Tryz.ntmps206 (by rw[Tryz.results206]) rfl rfl
@[simp] theorem axd:EF 207 Lh zg zm Ps zl zo:=⟨rfl,rfl,rfl,rfl,rfl,rfl⟩
theorem adg:RF 207 19 Ps Tryz.f207 [.tmp 4]:=ax rfl rfl Tryz.func207 rfl (by kernel_rfl) Tryz.ntmps207 (by rw[Tryz.results207]) rfl rfl
@[simp] theorem axe:EF 208 Li zg zm Pt zl Xw:=⟨rfl,rfl,rfl,rfl,rfl,rfl⟩
theorem adh:RF 208 38 Pt Tryz.f208 []:=ax rfl rfl Tryz.func208 rfl (by kernel_rfl) Tryz.ntmps208 (by rw[Tryz.results208]) rfl rfl
@[simp] theorem axf:EF 209 Lj Xx zm Pu zl zo:=⟨rfl,rfl,rfl,rfl,rfl,rfl⟩
theorem SN:RF 209 42 Pu Tryz.f209 []:=ax rfl rfl Tryz.func209 rfl (by kernel_rfl) Tryz.ntmps209 (by rw[Tryz.results209]) rfl rfl
@[simp] theorem axg:EF 210 Lk zg zm Pv zl Xy:=⟨rfl,rfl,rfl,rfl,rfl,rfl⟩
theorem adi:RF 210 42 Pv Tryz.f210 []:=ax rfl rfl Tryz.func210 rfl (by kernel_rfl) Tryz.ntmps210 (by rw[Tryz.results210]) rfl rfl
@[simp] theorem axh:EF 211 Ll zg zm Pw zl Xz:=⟨rfl,rfl,rfl,rfl,rfl,rfl⟩
theorem SO:RF 211 44 Pw Tryz.f211 []:=ax rfl rfl Tryz.func211 rfl (by kernel_rfl) Tryz.ntmps211 (by rw[Tryz.results211]) rfl rfl
@[simp] theorem axi:EF 212 Lm zg zm Px zl zo:=⟨rfl,rfl,rfl,rfl,rfl,rfl⟩
theorem adj:RF 212 34 Px Tryz.f212 [.tmp 6,.tmp 7,.tmp 8]:=ax rfl rfl Tryz.func212 rfl (by kernel_rfl) Tryz.ntmps212 (by rw[Tryz.results212]) rfl rfl
@[simp] theorem axj:EF 213 Ln zg zm Py zl zo:=⟨rfl,rfl,rfl,rfl,rfl,rfl⟩
theorem adk:RF 213 33 Py Tryz.f213 [.tmp 6,.tmp 7,.tmp 8]:=ax rfl rfl Tryz.func213 rfl (by kernel_rfl) Tryz.ntmps213 (by rw[Tryz.results213]) rfl rfl
@[simp] theorem axk:EF 214 Lo zg zm Pz zl zo:=⟨rfl,rfl,rfl,rfl,rfl,rfl⟩
theorem adl:RF 214 64 Pz Tryz.f214 [.tmp 6,.tmp 7,.tmp 8]:=ax rfl rfl Tryz.func214 rfl (by kernel_rfl) Tryz.ntmps214 (by rw[Tryz.results214]) rfl rfl
@[simp] theorem axl:EF 215 Lp zg zm PA zl zo:=⟨rfl,rfl,rfl,rfl,rfl,rfl⟩
theorem adm:RF 215 43 PA Tryz.f215 [.tmp 6,.tmp 7,.tmp 8]:=ax rfl rfl Tryz.func215 rfl (by kernel_rfl) Tryz.ntmps215 (by rw[Tryz.results215]) rfl rfl
@[simp] theorem axm:EF 220 Lq zg zm XA zl zo:=⟨rfl,rfl,rfl,rfl,rfl,rfl⟩
@[simp] theorem axn:EF 221 Lr zg zm XB zl zo:=⟨rfl,rfl,rfl,rfl,rfl,rfl⟩
@[simp] theorem axo:EF 222 Ls zg zm XF zl zo:=⟨rfl,rfl,rfl,rfl,rfl,rfl⟩
@[simp] theorem axp:EF 228 Lt zg zm XG zl zo:=⟨rfl,rfl,rfl,rfl,rfl,rfl⟩
@[simp] theorem aij{args:List AV}{cs:List aE}:ai ctx 228 args cs=orcAns (liftO hpO) args cs:=yn rfl rfl
@[simp] theorem axq:EF 229 Lu zg zm PB zl zo:=⟨rfl,rfl,rfl,rfl,rfl,rfl⟩
theorem adn:RF 229 8 PB Tryz.f229 [.tmp 4]:=ax rfl rfl Tryz.func229 rfl (by kernel_rfl) Tryz.ntmps229 (by rw[Tryz.results229]) rfl rfl
@[simp] theorem axr:EF 230 Lv zg zm XH zl zo:=⟨rfl,rfl,rfl,rfl,rfl,rfl⟩
@[simp] theorem aik{args:List AV}{cs:List aE}:ai ctx 230 args cs=orcAns (liftO idxO) args cs:=yn rfl rfl
@[simp] theorem axs:EF 231 Lw zg XI PC zl zo:=⟨rfl,rfl,rfl,rfl,rfl,rfl⟩
theorem ado:RF 231 17 PC Tryz.f231 [.tmp 2]:=ax rfl rfl Tryz.func231 rfl (by kernel_rfl) Tryz.ntmps231 (by rw[Tryz.results231]) rfl rfl
@[simp] theorem axt:EF 232 LA zg XJ PD zl zo:=⟨rfl,rfl,rfl,rfl,rfl,rfl⟩
theorem SP:RF 232 20 PD Tryz.f232 [.tmp 4]:=ax rfl rfl Tryz.func232 rfl (by kernel_rfl) Tryz.ntmps232 (by rw[Tryz.results232]) rfl rfl
@[simp] theorem axu:EF 233 LB zg XK PE zl zo:=⟨rfl,rfl,rfl,rfl,rfl,rfl⟩
theorem adp:RF 233 13 PE Tryz.f233 [.tmp 2]:=ax rfl rfl Tryz.func233 rfl (by kernel_rfl) Tryz.ntmps233 (by rw[Tryz.results233]) rfl rfl
@[simp] theorem axv:EF 234 LC zg zm PF zl zo:=⟨rfl,rfl,rfl,rfl,rfl,rfl⟩
theorem adq:RF 234 6 PF Tryz.f234 [.tmp 2]:=ax rfl rfl Tryz.func234 rfl (by kernel_rfl) Tryz.ntmps234 (by rw[Tryz.results234]) rfl rfl
@[simp] theorem axw:EF 235 LD zg zm PG zl zo:=⟨rfl,rfl,rfl,rfl,rfl,rfl⟩
theorem adr:RF 235 9 PG Tryz.f235 [.tmp 2]:=ax rfl rfl Tryz.func235 rfl (by kernel_rfl) Tryz.ntmps235 (by rw[Tryz.results235]) rfl rfl
@[simp] theorem axx:EF 236 LF zg XL PH zl XM:=⟨rfl,rfl,rfl,rfl,rfl,rfl⟩
theorem ads:RF 236 83 PH Tryz.f236 [.tmp 2,.tmp 3,.tmp 4]:=ax rfl rfl Tryz.func236 rfl (by kernel_rfl) Tryz.ntmps236 (by rw[Tryz.results236]) rfl rfl
@[simp] theorem axy:EF 237 LG zg zm PI zl zo:=⟨rfl,rfl,rfl,rfl,rfl,rfl⟩
theorem adt:RF 237 19 PI Tryz.f237 [.tmp 2]:=ax rfl rfl Tryz.func237 rfl (by kernel_rfl) Tryz.ntmps237 (by rw[Tryz.results237]) rfl rfl
@[simp] theorem axz:EF 238 LH zg zm XN zl zo:=⟨rfl,rfl,rfl,rfl,rfl,rfl⟩
@[simp] theorem axA:EF 239 LJ zg zm XO zl zo:=⟨rfl,rfl,rfl,rfl,rfl,rfl⟩
@[simp] theorem axB:EF 240 LK zg zm XQ zl XP:=⟨rfl,rfl,rfl,rfl,rfl,rfl⟩
@[simp] theorem axC:EF 241 LL zg zm XR zl zo:=⟨rfl,rfl,rfl,rfl,rfl,rfl⟩
@[simp] theorem axD:EF 242 LM zg zm XT zl XS:=⟨rfl,rfl,rfl,rfl,rfl,rfl⟩
@[simp] theorem axE:EF 243 LN zg zm XU zl zo:=⟨rfl,rfl,rfl,rfl,rfl,rfl⟩
@[simp] theorem axF:EF 244 LO zg zm XV zl zo:=⟨rfl,rfl,rfl,rfl,rfl,rfl⟩
@[simp] theorem axG:EF 245 LP zg zm XW zl zo:=⟨rfl,rfl,rfl,rfl,rfl,rfl⟩
@[simp] theorem axH:EF 262 LQ zg zm PJ zl zo:=⟨rfl,rfl,rfl,rfl,rfl,rfl⟩
theorem adu:RF 262 19 PJ Tryz.f262 [.tmp 4]:=ax rfl rfl Tryz.func262 rfl (by kernel_rfl) Tryz.ntmps262 (by rw[Tryz.results262]) rfl rfl
@[simp] theorem axI:EF 263 LR zg zm PK zl zo:=⟨rfl,rfl,rfl,rfl,rfl,rfl⟩
theorem adv:RF 263 8 PK Tryz.f263 [.tmp 3]:=ax rfl rfl Tryz.func263 rfl (by kernel_rfl) Tryz.ntmps263 (by rw[Tryz.results263]) rfl rfl
@[simp] theorem axJ:EF 264 LS zg zm PL zl zo:=⟨rfl,rfl,rfl,rfl,rfl,rfl⟩
theorem adw:RF 264 23 PL Tryz.f264 [.tmp 4,.tmp 5]:=ax rfl rfl Tryz.func264 rfl (by kernel_rfl) Tryz.ntmps264 (by rw[Tryz.results264]) rfl rfl
@[simp] theorem axK:EF 265 LU zg zm PN zl zo:=⟨rfl,rfl,rfl,rfl,rfl,rfl⟩
theorem adx:RF 265 23 PN Tryz.f265 [.tmp 4,.tmp 5]:=ax rfl rfl Tryz.func265 rfl (by kernel_rfl) Tryz.ntmps265 (by rw[Tryz.results265]) rfl rfl
@[simp] theorem axL:EF 266 LV zg zm PO zl zo:=⟨rfl,rfl,rfl,rfl,rfl,rfl⟩
theorem ady:RF 266 27 PO Tryz.f266 [.tmp 4,.tmp 5]:=ax rfl rfl Tryz.func266 rfl (by kernel_rfl) Tryz.ntmps266 (by rw[Tryz.results266]) rfl rfl
@[simp] theorem axM:EF 267 LW zg zm PQ zl zo:=⟨rfl,rfl,rfl,rfl,rfl,rfl⟩
theorem adz:RF 267 19 PQ Tryz.f267 [.tmp 4,.tmp 5]:=ax rfl rfl Tryz.func267 rfl (by kernel_rfl) Tryz.ntmps267 (by rw[Tryz.results267]) rfl rfl
@[simp] theorem axN:EF 268 LX zg zm PT zl zo:=⟨rfl,rfl,rfl,rfl,rfl,rfl⟩
theorem adA:RF 268 14 PT Tryz.f268 [.tmp 4,.tmp 5]:=ax rfl rfl Tryz.func268 rfl (by kernel_rfl) Tryz.ntmps268 (by rw[Tryz.results268]) rfl rfl
@[simp] theorem axO:EF 269 LY zg XX XY zl zo:=⟨rfl,rfl,rfl,rfl,rfl,rfl⟩
@[simp] theorem axP:EF 270 LZ zg XZ X0 zl zo:=⟨rfl,rfl,rfl,rfl,rfl,rfl⟩
@[simp] theorem axQ:EF 274 L3 zg X1 X7 zl zo:=⟨rfl,rfl,rfl,rfl,rfl,rfl⟩
@[simp] theorem axR:EF 275 L4 zg zm X8 zl zo:=⟨rfl,rfl,rfl,rfl,rfl,rfl⟩
@[simp] theorem ail{args:List AV}{cs:List aE}:ai ctx 275 args cs=orcAns (liftO ibO) args cs:=yn rfl rfl
@[simp] theorem axS:EF 276 L5 zg X9 Ya zl zo:=⟨rfl,rfl,rfl,rfl,rfl,rfl⟩
@[simp] theorem axT:EF 277 L6 zg zm PU zl zo:=⟨rfl,rfl,rfl,rfl,rfl,rfl⟩
theorem adB:RF 277 9 PU Tryz.f277 [.tmp 4]:=ax rfl rfl Tryz.func277 rfl (by kernel_rfl) Tryz.ntmps277 (by rw[Tryz.results277]) rfl rfl
@[simp] theorem axU:EF 278 L7 zg zm PV zl Yb:=⟨rfl,rfl,rfl,rfl,rfl,rfl⟩
theorem adC:RF 278 8 PV Tryz.f278 [.tmp 3]:=ax rfl rfl Tryz.func278 rfl (by kernel_rfl) Tryz.ntmps278 (by rw[Tryz.results278]) rfl rfl
@[simp] theorem axV:EF 279 L8 zg zm PW zl zo:=⟨rfl,rfl,rfl,rfl,rfl,rfl⟩
theorem adD:RF 279 20 PW Tryz.f279 [.tmp 2]:=ax rfl rfl Tryz.func279 rfl (by kernel_rfl) Tryz.ntmps279 (by rw[Tryz.results279]) rfl rfl
@[simp] theorem axW:EF 280 L9 zg zm Yc zl zo:=⟨rfl,rfl,rfl,rfl,rfl,rfl⟩
@[simp] theorem axX:EF 281 Ma zg zm Yd zl zo:=⟨rfl,rfl,rfl,rfl,rfl,rfl⟩
@[simp] theorem axY:EF 282 Mb zg zm Ye zl zo:=⟨rfl,rfl,rfl,rfl,rfl,rfl⟩
@[simp] theorem axZ:EF 283 Md zg zm Yf zl zo:=⟨rfl,rfl,rfl,rfl,rfl,rfl⟩
@[simp] theorem ax0:EF 284 Me zg zm Yh zl Yg:=⟨rfl,rfl,rfl,rfl,rfl,rfl⟩
@[simp] theorem ax1:EF 285 Mf zg zm Yi zl zo:=⟨rfl,rfl,rfl,rfl,rfl,rfl⟩
@[simp] theorem ax2:EF 297 Mg zg zm PX zl zo:=⟨rfl,rfl,rfl,rfl,rfl,rfl⟩
theorem adE:RF 297 51 PX Tryz.f297 [.tmp 4,.tmp 5]:=ax rfl rfl Tryz.func297 rfl (by kernel_rfl) Tryz.ntmps297 (by rw[Tryz.results297]) rfl rfl
@[simp] theorem ax3:EF 298 Mh zg zm PY zl zo:=⟨rfl,rfl,rfl,rfl,rfl,rfl⟩
theorem adF:RF 298 10 PY Tryz.f298 [.tmp 2]:=ax rfl rfl Tryz.func298 rfl (by kernel_rfl) Tryz.ntmps298 (by rw[Tryz.results298]) rfl rfl
@[simp] theorem ax4:EF 299 Mi zg zm PZ zl zo:=⟨rfl,rfl,rfl,rfl,rfl,rfl⟩
theorem adG:RF 299 24 PZ Tryz.f299 [.tmp 4,.tmp 5]:=ax rfl rfl Tryz.func299 rfl (by kernel_rfl) Tryz.ntmps299 (by rw[Tryz.results299]) rfl rfl
@[simp] theorem ax5:EF 300 Mj zg zm Yk zl Yj:=⟨rfl,rfl,rfl,rfl,rfl,rfl⟩
@[simp] theorem ax6:EF 301 Ml zg zm Ym zl Yl:=⟨rfl,rfl,rfl,rfl,rfl,rfl⟩
@[simp] theorem ax7:EF 306 Mm zg zm Yn zl zo:=⟨rfl,rfl,rfl,rfl,rfl,rfl⟩
@[simp] theorem ax8:EF 307 Mn zg Yo Yp zl zo:=⟨rfl,rfl,rfl,rfl,rfl,rfl⟩
@[simp] theorem ax9:EF 308 Mo zg zm P0 zl zo:=⟨rfl,rfl,rfl,rfl,rfl,rfl⟩
theorem adH:RF 308 19 P0 Tryz.f308 [.tmp 4]:=ax rfl rfl Tryz.func308 rfl (by kernel_rfl) Tryz.ntmps308 (by rw[Tryz.results308]) rfl rfl
@[simp] theorem aya:EF 309 Mp zg zm Yq zl zo:=⟨rfl,rfl,rfl,rfl,rfl,rfl⟩
@[simp] theorem ayb:EF 310 Mq zg zm Ys zl Yr:=⟨rfl,rfl,rfl,rfl,rfl,rfl⟩
@[simp] theorem ayc:EF 311 Mr zg zm Yt zl zo:=⟨rfl,rfl,rfl,rfl,rfl,rfl⟩
@[simp] theorem ayd:EF 312 Mt zg zm Yu zl zo:=⟨rfl,rfl,rfl,rfl,rfl,rfl⟩
@[simp] theorem aye:EF 313 Mu Yw zm Yx zl Yv:=⟨rfl,rfl,rfl,rfl,rfl,rfl⟩
@[simp] theorem ayf:EF 314 Mv YA Yy YB zl Yz:=⟨rfl,rfl,rfl,rfl,rfl,rfl⟩
@[simp] theorem ayg:EF 315 Mw zg zm YD zl YC:=⟨rfl,rfl,rfl,rfl,rfl,rfl⟩
@[simp] theorem ayh:EF 316 Mx zg zm YE zl zo:=⟨rfl,rfl,rfl,rfl,rfl,rfl⟩
@[simp] theorem ayi:EF 317 My YG zm YH zl YF:=⟨rfl,rfl,rfl,rfl,rfl,rfl⟩
@[simp] theorem ayj:EF 318 Mz zg zm YI zl zo:=⟨rfl,rfl,rfl,rfl,rfl,rfl⟩
@[simp] theorem ayk:EF 328 MA zg zm YJ zl zo:=⟨rfl,rfl,rfl,rfl,rfl,rfl⟩
@[simp] theorem ayl:EF 329 MB zg zm YK zl zo:=⟨rfl,rfl,rfl,rfl,rfl,rfl⟩
@[simp] theorem aym:EF 330 MD zg YL YM zl zo:=⟨rfl,rfl,rfl,rfl,rfl,rfl⟩
@[simp] theorem ayn:EF 331 ME zg zm YN zl zo:=⟨rfl,rfl,rfl,rfl,rfl,rfl⟩
@[simp] theorem ayo:EF 332 MF zg zm YP zl YO:=⟨rfl,rfl,rfl,rfl,rfl,rfl⟩
@[simp] theorem ayp:EF 335 MG zg zm YQ zl zo:=⟨rfl,rfl,rfl,rfl,rfl,rfl⟩
@[simp] theorem ayq:EF 336 MH zg zm YS zl YR:=⟨rfl,rfl,rfl,rfl,rfl,rfl⟩
@[simp] theorem ayr:EF 337 MI zg zm YT zl zo:=⟨rfl,rfl,rfl,rfl,rfl,rfl⟩
@[simp] theorem ays:EF 339 MJ zg zm YV zl YU:=⟨rfl,rfl,rfl,rfl,rfl,rfl⟩
end Go.Am
end
section
namespace Go.Am
@[simp] def po(t:fg):D:=.agg [.int .i64 t.kind,.str t.text,.int .i64 t.n,.int .i64 t.line,.int .i64 t.Cs]
end Go.Am
end
section
namespace Go.Am
open Go
def dJ(op:Int):Nat:=if op=4∨op=6∨op=7 then 1 else if 7<op then 2 else 0
mutual
def bk:Ex→Bool
 | .mk op n name field sub _=>
  !decide ((op=1∧n<0)∨(op=2∧(n<0∨1<n))∨(2<op∧n≠0)∨op<1∨21<op)&&
  (decide (sub.length=dJ op)&&((if op=3∨op=4∨op=5 then da name else decide (name=[]))&&((if op=5 then da field else decide (field=[]))&&bA sub)))
def bA:List Ex→Bool
 |[]=>true
 |x::r=>bk x&&bA r
end
theorem gj:∀l:List Ex,bA l=true↔∀x∈l,bk x=true
 |[]=>by simp[bA]
 |x::r=>by simp[bA,gj r]
def dK(x:Ex):Bool:=decide (bW x=0)&&(decide (ic x=0)&&decide ((dA x).length+(fq x).length+(cN x).length=0))
def pq(l:List Int):Bool:=!decide (l.length=0)&&(decide (l.length%2=0)&&l.all fun n=>decide (n≠ -9223372036854775808))
def bG(op:Int)(conds labels fields blocks:Nat):Bool:=
 if op=2 then decide (conds=max 1 conds)&&(decide (labels=0)&&(decide (fields=0)&&(decide (max 1 conds≤blocks)&&decide (blocks≤max 1 conds+1))))
 else if op=3 then decide (conds=0)&&(decide (fields=0)&&(decide (labels≤blocks)&&decide (blocks≤labels+1)))
 else if op=4 then decide (conds=3)&&(decide (labels=0)&&(decide (fields=0)&&decide (blocks=1)))
 else if op=5∨op=6 then decide (conds=0)&&(decide (labels=0)&&(decide (fields=0)&&decide (blocks=1)))
 else if op=9 then decide (conds=fields)&&(decide (labels=0)&&decide (blocks=0))
 else decide (conds=0)&&(decide (labels=0)&&(decide (fields=0)&&decide (blocks=0)))
mutual
def iH:Sm→Bool
 | .mk op name to val conds labels fields blocks _=>
  decide (1≤op∧op≤9)&&((if op=4∨op=9 then da name else decide (name=[]))&&
  ((if op=1 then decide (bW to=3∨bW to=4)&&bk to else dK to)&&
  ((if op=1∨op=3∨op=5∨op=6 then !dK val&&bk val else dK val)&&
  (bA conds&&(bG op conds.length labels.length fields.length blocks.length&&
  (fields.all da&&(labels.all pq&&cB blocks)))))))
def eh:List Sm→Bool
 |[]=>true
 |x::r=>iH x&&eh r
def cB:List (List Sm)→Bool
 |[]=>true
 |b::r=>eh b&&cB r
end
def om(k:Int):Bool:=(bC k).length≠0
def dj(v:Vr):Bool:=
 da v.name&&(decide (0≤v.sec∧v.sec≤2)&&(decide (v.ty=1∨v.ty=2)||om v.ty)&&
 ((if v.arr=true then decide (v.ty≤2∧0≤v.lo∧v.lo≤v.hi∧v.hi≤255)else decide (v.lo=0∧v.hi=0))&&
 !decide (((v.arr=true∨2<v.ty)∧v.init≠0)∨(v.ty=2∧(v.init<0∨1<v.init))∨v.init= -9223372036854775808)))
def oo(p:Pg):Bool:=da p.name&&(decide (p.vars.length≤64)&&(p.vars.all dj&&eh p.body))
abbrev EL:=Int×Int
def eX(a b:EL):EL:=if a.1≠0 then a else b
def EI(a:Te):EL:=(a.e,a.line)
def Ae(vs:List Vr)(to val:Ex)(line:Int):EL:=
 match aZ vs (dA to)with
 |none=>(9,jG to)
 |some v=>if v.sec=1 then (1,jG to)else eX (EI (aF vs to)) (eX (EI (aF vs val)) (if (aF vs val).t≠(aF vs to).t then (10,line)else (0,0)))
def jH(vs:List Vr)(t:Int):List Ex→EL
 |[]=>(0,0)
 |x::r=>eX (dn vs x t) (jH vs t r)
def gQ(vs:List Vr)(k line:Int):List Tx→List Ex→List Tx→EL
 |f::fs,x::xs,p=>match jS k f with
  |none=>(9,line)
  |some q=>if q.Km=false then (9,line)else if f∈p then (11,line)else eX (dn vs x q.ty) (gQ vs k line fs xs (p++[f]))
 |_,_,_=>(0,0)
mutual
def jk(vs:List Vr)(loops:Bool):Sm→EL
 | .mk op name to val conds _ fields blocks line=>
  if op=1 then Ae vs to val line
  else if op=2 then fu vs loops conds blocks
  else if op=3 then eX (dn vs val 1) (fu vs loops [] blocks)
  else if op=4 then (match aZ vs name with
   |none=>(9,line)
   |some v=>if v.sec=1 then (1,line)else if v.arr=true∨v.ty≠1 then (10,line)else eX (jH vs 1 conds) (sm vs blocks))
  else if op=5 then eX (dn vs val 2) (sm vs blocks)
  else if op=6 then eX (sm vs blocks) (dn vs val 2)
  else if op=7 then (if loops=true then (0,0)else (14,line))
  else if op=9 then (match aZ vs name with
   |none=>(9,line)
   |some v=>if v.ty≤2 then (10,line)else gQ vs v.ty line fields conds [])
  else (0,0)
def er(vs:List Vr)(loops:Bool):List Sm→EL
 |[]=>(0,0)
 |x::r=>eX (jk vs loops x) (er vs loops r)
def fu(vs:List Vr)(loops:Bool):List Ex→List (List Sm)→EL
 |_,[]=>(0,0)
 |[],b::r=>eX (er vs loops b) (fu vs loops [] r)
 |c::cs,b::r=>eX (dn vs c 2) (eX (er vs loops b) (fu vs loops cs r))
def sm(vs:List Vr):List (List Sm)→EL
 |[]=>(0,0)
 |b::_=>er vs true b
end
def EJ:List Vr→List Vr→Int→EL
 |[],_,_=>(0,0)
 |v::r,p,n=>if (aZ p v.name).isSome then (11,v.line)else if 1024<n+bN v then (13,v.line)else EJ r (p++[v]) (n+bN v)
def qn(p:Pg):EL:=eX (EJ p.vars [] 0) (er p.vars false p.body)
def oq{α:Type}(p:α→Bool):List α→Nat→Int
 |[],_=> -1
 |x::r,i=>if p x=true then i else oq p r (i+1)
theorem Cz{α:Type}(p:α→Bool):∀(l:List α)(i:Nat),oq p l i= -1∨(i≤oq p l i∧oq p l i<i+l.length)
 |[],i=>.inl rfl
 |x::r,i=>by
  unfold oq;split
  ·right;simp;omega
  ·rcases Cz p r (i+1)with h|h
   ·exact .inl h
   ·right;simp only[List.length_cons];omega
end Go.Am
end
section
namespace Go.Am
open Go Go.Proofs
variable [Inhabited bX]
set_option maxRecDepth 20000
@[simp] theorem arv(a b:Tx):(a == b)=decide (a=b):=by by_cases h:a=b<;>simp[h]
theorem aon:ai ctx 75 [.d (.int .i64 10)] []=some (.ret (.d (.list ((bC 10).map cW))),[]):=bB 120 (by kernel_rfl)
theorem aoo:ai ctx 75 [.d (.int .i64 11)] []=some (.ret (.d (.list ((bC 11).map cW))),[]):=bB 120 (by kernel_rfl)
theorem aop:ai ctx 75 [.d (.int .i64 12)] []=some (.ret (.d (.list ((bC 12).map cW))),[]):=bB 120 (by kernel_rfl)
theorem aoq:ai ctx 75 [.d (.int .i64 13)] []=some (.ret (.d (.list ((bC 13).map cW))),[]):=bB 120 (by kernel_rfl)
theorem aor:ai ctx 75 [.d (.int .i64 14)] []=some (.ret (.d (.list ((bC 14).map cW))),[]):=bB 120 (by kernel_rfl)
theorem aos:ai ctx 75 [.d (.int .i64 15)] []=some (.ret (.d (.list ((bC 15).map cW))),[]):=bB 120 (by kernel_rfl)
theorem aot:ai ctx 75 [.d (.int .i64 16)] []=some (.ret (.d (.list ((bC 16).map cW))),[]):=bB 120 (by kernel_rfl)
theorem aou:ai ctx 75 [.d (.int .i64 17)] []=some (.ret (.d (.list ((bC 17).map cW))),[]):=bB 120 (by kernel_rfl)
theorem aov:ai ctx 75 [.d (.int .i64 18)] []=some (.ret (.d (.list ((bC 18).map cW))),[]):=bB 120 (by kernel_rfl)
theorem aow:ai ctx 75 [.d (.int .i64 20)] []=some (.ret (.d (.list ((bC 20).map cW))),[]):=bB 120 (by kernel_rfl)
theorem aoy:ai ctx 75 [.d (.int .i64 21)] []=some (.ret (.d (.list ((bC 21).map cW))),[]):=bB 120 (by kernel_rfl)
theorem aoz:ai ctx 75 [.d (.int .i64 22)] []=some (.ret (.d (.list ((bC 22).map cW))),[]):=bB 120 (by kernel_rfl)
theorem aoA:ai ctx 75 [.d (.int .i64 23)] []=some (.ret (.d (.list ((bC 23).map cW))),[]):=bB 120 (by kernel_rfl)
theorem aoB:ai ctx 75 [.d (.int .i64 24)] []=some (.ret (.d (.list ((bC 24).map cW))),[]):=bB 120 (by kernel_rfl)
theorem aoC:ai ctx 75 [.d (.int .i64 25)] []=some (.ret (.d (.list ((bC 25).map cW))),[]):=bB 120 (by kernel_rfl)
theorem aoD:ai ctx 75 [.d (.int .i64 26)] []=some (.ret (.d (.list ((bC 26).map cW))),[]):=bB 120 (by kernel_rfl)
theorem aoE:ai ctx 75 [.d (.int .i64 27)] []=some (.ret (.d (.list ((bC 27).map cW))),[]):=bB 120 (by kernel_rfl)
theorem aoF:ai ctx 75 [.d (.int .i64 28)] []=some (.ret (.d (.list ((bC 28).map cW))),[]):=bB 120 (by kernel_rfl)
theorem aoG:ai ctx 75 [.d (.int .i64 29)] []=some (.ret (.d (.list ((bC 29).map cW))),[]):=bB 120 (by kernel_rfl)
theorem aoH:ai ctx 75 [.d (.int .i64 30)] []=some (.ret (.d (.list ((bC 30).map cW))),[]):=bB 120 (by kernel_rfl)
theorem aoI:ai ctx 75 [.d (.int .i64 31)] []=some (.ret (.d (.list ((bC 31).map cW))),[]):=bB 120 (by kernel_rfl)
def ot:D→Option Int
 | .agg [.int .i64 k,.str _,.str _,.str _,.int .i64 _]=>some k
 |_=>none
theorem Af{d:D}{k:Int}(h:ot d=some k):∃a b c n,d=.agg [.int .i64 k,.str a,.str b,.str c,.int .i64 n]:=by
 unfold ot at h;split at h
 ·rename_i k' a b c n;cases h;exact⟨a,b,c,n,rfl⟩
 ·cases h
def MK:Option (Out×List (Nat×aE))→Option (List (Option Int))
 |some (.ret (.d (.list l)),[])=>some (l.map ot)
 |_=>none
theorem adI:MK (aS ctx 120 164 [] [])=some (iM.map some):=by kernel_rfl
theorem Vy:∃l:List D,ai ctx 164 [] []=some (.ret (.d (.list l)),[])∧l.map ot=iM.map some:=by
 have h:=adI;generalize hr:aS ctx 120 164 [] []=r at h;unfold MK at h;split at h
 ·rename_i l;exact⟨l,bB 120 hr,by simpa using h⟩
 ·cases h
theorem Vz(d:D)(k b:Int)(hd:ot d=some k):ai ctx 166 [.d d,.ptr 0 0 0] [.box [.d (.int .i64 b)]]=some (.ret (.d (.bool (decide (k=b)))),[(0,.box [.d (.int .i64 b)])]):=by
 obtain⟨a,e,c,n,rfl⟩:=Af hd;rw[acZ (by simp)];simp[Tryz.f166]
theorem Ag(b:Int):∀(rest pre:List D),(∀d∈rest,∃k,ot d=some k∧k≠b)→(pre++rest).length<1000→∀k:Kt,
 aI ctx 165 (.loop (Code.at (aY Tryz.f165) [1,0,1,0,0])) ⟨19,aC,[(0,true,.d (.list (pre++rest))),(1,true,.fn 166 [.ptr 0 0 0]),(7,true,.d (.int .i64 (pre++rest).length)),(8,true,.d (.int .i64 pre.length))],[⟨0,0,.box [.d (.int .i64 b)]⟩]⟩ k=
  k (.exit 0) ⟨19,aC,[(0,true,.d (.list (pre++rest))),(1,true,.fn 166 [.ptr 0 0 0]),(7,true,.d (.int .i64 (pre++rest).length)),(8,true,.d (.int .i64 (pre++rest).length)),(9,true,.d (.bool false))],[⟨0,0,.box [.d (.int .i64 b)]⟩]⟩
 |[],pre,h,hl,k=>by
  rw[ah];simp[Tryz.f165]
 |d::rest,pre,h,hl,k=>by
  obtain⟨kd,hk,bK⟩:=h d (by simp);have hs:=Vz d kd b hk;obtain⟨a1,a2,a3,a4,rfl⟩:=Af hk;have ih:=Ag b rest (pre++[.agg [.int .i64 kd,.str a1,.str a2,.str a3,.int .i64 a4]]) (fun d hd=>h d (by simp[hd])) (by simpa using hl) k;have h1:(pre.length:Int)<pre.length+(rest.length+1):=by omega
  have h2:IntKind.i64.wrap ((pre.length:Int)+1)=pre.length+1:=au (by unfold aX;simp at hl;omega);simp[bK]at hs;rw[ah];simp[Tryz.f165]at ih⊢;simp[h1,h2,hs,ih]
theorem P3(b:Int)(hb:b∉iM):ai ctx 75 [.d (.int .i64 b)] []=some (.ret (.d (.list [])),[]):=by
 obtain⟨l,hl,hm⟩:=Vy;have hlen:l.length=21:=by have:=congrArg List.length hm;simpa [iM]using this
 have dV:∀d∈l,∃k,ot d=some k∧k≠b:=by
  intro d hd;have h1:ot d∈l.map ot:=List.mem_map_of_mem hd;rw[hm]at h1;obtain⟨k,hk,he⟩:=List.mem_map.1 h1;exact⟨k,he.symm,fun h=>hb (h▸hk)⟩
 have CA:=Ag b l [] dV (by simp;omega);have aoJ:ai ctx 165 [.d (.list l),.fn 166 [.ptr 0 0 0]] [.box [.d (.int .i64 b)]]=some (.ret (.d (.int .i64 (-1))),[(0,.box [.d (.int .i64 b)])]):=by
  rw[acY (by simp)];simp[Tryz.f165]at CA⊢;simp[CA]
 have J8:ai ctx 114 [.d (.int .i64 b)] []=some (.ret (.aW [.d (.agg [.int .i64 0,.str [],.str [],.str [],.int .i64 0]),.d (.bool false)]),[]):=by
  rw[acK (by simp)];simp[Tryz.f114,hl,aoJ]
 rw[ah8 (by simp)];simp[Tryz.f75,J8]
theorem ML(b:Int):ai ctx 75 [.d (.int .i64 b)] []=some (.ret (.d (.list ((bC b).map cW))),[]):=by
 by_cases hb:b∈iM
 ·simp only[iM,List.mem_cons,List.not_mem_nil,or_false]at hb;rcases hb with rfl|rfl|rfl|rfl|rfl|rfl|rfl|rfl|rfl|rfl|rfl|rfl|rfl|rfl|rfl|rfl|rfl|rfl|rfl|rfl|rfl
  ·exact aon
  ·exact aoo
  ·exact aop
  ·exact aoq
  ·exact aor
  ·exact aos
  ·exact aot
  ·exact aou
  ·exact aov
  ·exact aow
  ·exact aoy
  ·exact aoz
  ·exact aoA
  ·exact aoB
  ·exact aoC
  ·exact aoD
  ·exact aoE
  ·exact aoF
  ·exact aoG
  ·exact aoH
  ·exact aoI
 ·rw[rm hb];exact P3 b hb
def qT:Vr:=⟨[],0,0,false,0,0,0,0⟩
def fV(vs:List Vr)(s:Tx):Vr:=(aZ vs s).getD qT
def th:Pn:=⟨[],0,false⟩
def fP(k:Int)(s:Tx):Pn:=(jS k s).getD th
@[simp] def P4(t:Tx):D:=.str t
theorem CB(s:Tx)(l:List Tx)(hl:l.length≤1000)(k:Kt)(R1 R2:bS)
 (h1:k .ret ⟨15,aC,[(2,true,.d (.bool true))],[]⟩=R1)
 (h2:∀Y:Env,k (.exit 0) ⟨15,aC,Y,[]⟩=R2):∀(rest:List Tx)(j:Nat),l.drop j=rest→j+rest.length=l.length→
 aI ctx 84 (.loop (Code.at (aY Tryz.f84) [1,0,1,0,0])) ⟨15,aC,[(0,true,.d (.str s)),(5,true,.d (.list (l.map P4))),(6,true,.d (.int .i64 l.length)),(7,true,.d (.int .i64 j))],[]⟩ k=if s∈rest then R1 else R2
 |[],j,hd,hj=>by
  have hj:j=l.length:=by simpa using hj
  subst hj;rw[ah];simp[Tryz.f84,h2]
 |x::rest,j,hd,hj=>by
  have bz:j<l.length:=by simp at hj;omega
  have hx:l[j]=x:=by
   have:=congrArg (·[0]?) hd;simp at this;simpa [bz]using this
  have ih:=CB s l hl k R1 R2 h1 h2 rest (j+1) (by rw[←List.tail_drop,hd];rfl) (by simp at hj;omega);have w1:IntKind.i64.wrap ((j:Int)+1)=(j:Int)+1:=au (by unfold aX;omega);rw[ah];by_cases hs:x=s
  ·simp[Tryz.f84];simp[bz,hx,hs,h1]
  ·have pU:¬s=x:=fun h=>hs h.symm;simp[Tryz.f84]at ih⊢;simp[bz,hx,hs,pU,w1,ih]
theorem SQ(s:Tx):ai ctx 84 [.d (.str s)] []=some (.ret (.d (.bool (te s))),[]):=by
 have cJ:=fun k R1 R2 h1 h2=>CB s jF (by decide) k R1 R2 h1 h2 jF 0 rfl (by decide);have e:List.map P4 jF=jF.map P4:=rfl;have hlen:jF.length=36:=rfl;have r36:List.range' 0 36=[0,1,2,3,4,5,6,7,8,9,10,11,12,13,14,15,16,17,18,19,20,21,22,23,24,25,26,27,28,29,30,31,32,33,34,35]:=rfl;rw[aic (by simp)];unfold te;generalize hB:decide (s∈jF)=B;simp[Tryz.f84,jF]at cJ;simp[Tryz.f84,r36];rw[cJ _ (some (.ret (.d (.bool true)),[])) (some (.ret (.d (.bool false)),[])) (by simp) (by simp)];subst hB;by_cases hm:s∈jF
 ·rw[decide_eq_true hm];simp only[jF,List.mem_cons,List.not_mem_nil,or_false]at hm;rw[if_pos hm]
 ·rw[decide_eq_false hm];simp only[jF,List.mem_cons,List.not_mem_nil,or_false]at hm;rw[if_neg hm]
theorem CC(s:Tx)(hl:s.length≤16)(k:Kt)(R1 R2:bS)
 (h1:k .ret ⟨59,aC,[(2,true,.d (.bool false))],[]⟩=R1)
 (h2:∀Y:Env,k (.exit 0) ⟨59,aC,Y,[]⟩=R2):∀(rest:Tx)(j:Nat),s.drop j=rest→j+rest.length=s.length→
 aI ctx 44 (.loop (Code.at (aY Tryz.f44) [1,1,0,1,0,0])) ⟨59,aC,[(0,true,.d (.str s)),(3,true,.d (.int .i64 j))],[]⟩ k=if tf rest j=true then R2 else R1
 |[],j,hd,hj=>by
  have hj:j=s.length:=by simpa using hj
  subst hj;rw[ah];simp[Tryz.f44,h2,tf]
 |c::rest,j,hd,hj=>by
  have bz:j<s.length:=by simp at hj;omega
  have hx:iP s j=c:=by
   have:=congrArg (·[0]?) hd;simp at this;simp[iP,this]
  have ih:=CC s hl k R1 R2 h1 h2 rest (j+1) (by rw[←List.tail_drop,hd];rfl) (by simp at hj;omega);have w1:IntKind.i64.wrap ((j:Int)+1)=(j:Int)+1:=au (by unfold aX;omega);have key:tf (c::rest) j=((UX c||(!decide (j=0)&&(decide (c=95)||UY c)))&&tf rest (j+1)):=rfl;have aoK:decide (c=95)=decide (c.toNat=95):=by
   rw[decide_eq_decide];exact⟨fun h=>by rw[h];rfl,fun h=>UInt8.toNat_inj.1 (by rw[h];rfl)⟩
  rw[key,aoK];generalize tf rest (j+1)=B at*;rw[ah];simp[Tryz.f44]at ih⊢;simp[bz,hx,w1,h1,ih];unfold UX UY;grind
theorem eL(s:Tx):ai ctx 44 [.d (.str s)] []=some (.ret (.d (.bool (da s))),[]):=by
 have hw:=SQ s;unfold da;rw[ahZ (by simp)];by_cases h1:s.length<1
 ·have h2:¬1≤s.length:=by omega
  have h3:(s.length:Int)<1:=by omega
  simp[Tryz.f44,h2,h3]
 ·by_cases EH:16<s.length
  ·have h2:1≤s.length:=by omega
   have h3:¬(s.length:Int)<1:=by omega
   have h4:¬s.length≤16:=by omega
   have h5:(16:Int)<s.length:=by omega
   simp[Tryz.f44,h2,h3,h4,EH,h5]
  ·have h2:1≤s.length:=by omega
   have h3:¬(s.length:Int)<1:=by omega
   have h4:s.length≤16:=by omega
   have h5:¬(16:Int)<s.length:=by omega
   cases hb:te s with
   |true=>
    rw[hb]at hw;simp[Tryz.f44,h2,h3,h4,EH,h5,hw]
   |false=>
    rw[hb]at hw;have cJ:=fun k R1 R2 h1 h2=>CC s h4 k R1 R2 h1 h2 s 0 rfl (by simp);simp[Tryz.f44]at cJ;simp[Tryz.f44,h2,h3,h4,EH,h5,hw];rw[cJ _ (some (.ret (.d (.bool false)),[])) (some (.ret (.d (.bool true)),[])) (by simp) (by simp)];cases tf s 0<;>simp
theorem MM{x:Ex}(h:(dA x).length<100000000∧(fq x).length<100000000∧(cN x).length<100000000):ai ctx 88 [.d (.agg [.int .i64 (bW x),.int .i64 (ic x),.str (dA x),.str (fq x),.list ((cN x).map bM),.int .i64 (jG x)])] []=some (.ret (.d (.bool (dK x))),[]):=by
 have w1:IntKind.i64.wrap ((dA x).length+(fq x).length:Int)=(dA x).length+(fq x).length:=au (by unfold aX;omega);have w2:IntKind.i64.wrap ((dA x).length+(fq x).length+(cN x).length:Int)=(dA x).length+(fq x).length+(cN x).length:=au (by unfold aX;omega);unfold dK;generalize hB:decide ((dA x).length+(fq x).length+(cN x).length=0)=B;rw[aif (by simp)];by_cases h0:bW x=0
 ·by_cases h1:ic x=0
  ·simp[Tryz.f88,h0,h1];rw[w1,w2,←hB,decide_eq_decide];omega
  ·simp[Tryz.f88,h0,h1]
 ·simp[Tryz.f88,h0]
theorem VA(op:Int):ai ctx 86 [.d (.int .i64 op)] []=some (.ret (.aW [.d (.bool (decide (op=4∨op=9))),.d (.bool (decide (op=1))),.d (.bool (decide (op=1∨op=3∨op=5∨op=6)))]),[]):=by
 rw[aid (by simp)];simp[Tryz.f86];grind
theorem ou(x:Ex):bk x=(!decide ((bW x=1∧ic x<0)∨(bW x=2∧(ic x<0∨1<ic x))∨(2<bW x∧ic x≠0)∨bW x<1∨21<bW x)&&
 (decide ((cN x).length=dJ (bW x))&&((if bW x=3∨bW x=4∨bW x=5 then da (dA x)else decide (dA x=[]))&&((if bW x=5 then da (fq x)else decide (fq x=[]))&&bA (cN x))))):=by
 cases x;rw[bk];rfl
def KF(l:List Ex):Prop:=ai ctx 87 [.d (.list (l.map bM))] []=some (.ret (.d (.bool (bA l))),[])
theorem adJ{l:List Ex}(bn:l.length<100000000){i:Nat}{x:Ex}(aR:i<l.length)(aV:l[i]=x)(hk:KF (cN x))(lC:(cN x).length<100000000)(k:Kt)(R1 R2:bS)(B:Bool)
 (h1:∀v X,k .ret ⟨126,aC,[(2,true,.d (.bool false))],[⟨300,v,X⟩]⟩=R1)
 (ih:∀v X,aI ctx 87 (.loop (Code.at (aY Tryz.f87) [1,0,1,0,0])) ⟨126,aC,[(0,true,.d (.list (l.map bM))),(3,true,.d (.int .i64 (i+1)))],[⟨300,v,X⟩]⟩ k=if B=true then R2 else R1) (h:bW x<1) (v:Nat) (X:aE):
 aI ctx 87 (.loop (Code.at (aY Tryz.f87) [1,0,1,0,0])) ⟨126,aC,[(0,true,.d (.list (l.map bM))),(3,true,.d (.int .i64 i))],[⟨300,v,X⟩]⟩ k=if (bk x&&B)=true then R2 else R1:=by
 have w1:IntKind.i64.wrap ((i:Int)+1)=i+1:=au (by unfold aX;omega);have hn:=eL (dA x);have hf:=eL (fq x);unfold KF at hk;rw[ou];generalize bA (cN x)=S at*;generalize da (dA x)=N at*;generalize da (fq x)=F at*;have c1:¬bW x=1:=by omega
 have c2:¬bW x=2:=by omega
 have c3:¬bW x=3:=by omega
 have c4:¬bW x=4:=by omega
 have c5:¬bW x=5:=by omega
 have c6:¬bW x=6:=by omega
 have c7:¬bW x=7:=by omega
 have d1:¬2<bW x:=by omega
 rw[ah];simp[Tryz.f87]at ih⊢;simp[aR,aV,w1,aD,h,hk,hn,hf,ih,h1,c1,c2,d1];intros;omega
theorem adK{l:List Ex}(bn:l.length<100000000){i:Nat}{x:Ex}(aR:i<l.length)(aV:l[i]=x)(hk:KF (cN x))(lC:(cN x).length<100000000)(k:Kt)(R1 R2:bS)(B:Bool)
 (h1:∀v X,k .ret ⟨126,aC,[(2,true,.d (.bool false))],[⟨300,v,X⟩]⟩=R1)
 (ih:∀v X,aI ctx 87 (.loop (Code.at (aY Tryz.f87) [1,0,1,0,0])) ⟨126,aC,[(0,true,.d (.list (l.map bM))),(3,true,.d (.int .i64 (i+1)))],[⟨300,v,X⟩]⟩ k=if B=true then R2 else R1) (h:bW x=1) (v:Nat) (X:aE):
 aI ctx 87 (.loop (Code.at (aY Tryz.f87) [1,0,1,0,0])) ⟨126,aC,[(0,true,.d (.list (l.map bM))),(3,true,.d (.int .i64 i))],[⟨300,v,X⟩]⟩ k=if (bk x&&B)=true then R2 else R1:=by
 have w1:IntKind.i64.wrap ((i:Int)+1)=i+1:=au (by unfold aX;omega);have hn:=eL (dA x);have hf:=eL (fq x);unfold KF at hk;rw[ou];generalize bA (cN x)=S at*;generalize da (dA x)=N at*;generalize da (fq x)=F at*;rw[ah];simp[Tryz.f87]at ih⊢;have e0:dJ 1=0:=rfl;by_cases fm:ic x<0
 ·simp[aR,aV,w1,aD,h,hk,hn,hf,ih,h1,fm];intros;omega
 ·by_cases dP:1<ic x
  ·simp[aR,aV,w1,aD,h,hk,hn,hf,ih,h1,fm,dP,e0];grind
  ·simp[aR,aV,w1,aD,h,hk,hn,hf,ih,h1,fm,dP,e0];grind
theorem adL{l:List Ex}(bn:l.length<100000000){i:Nat}{x:Ex}(aR:i<l.length)(aV:l[i]=x)(hk:KF (cN x))(lC:(cN x).length<100000000)(k:Kt)(R1 R2:bS)(B:Bool)
 (h1:∀v X,k .ret ⟨126,aC,[(2,true,.d (.bool false))],[⟨300,v,X⟩]⟩=R1)
 (ih:∀v X,aI ctx 87 (.loop (Code.at (aY Tryz.f87) [1,0,1,0,0])) ⟨126,aC,[(0,true,.d (.list (l.map bM))),(3,true,.d (.int .i64 (i+1)))],[⟨300,v,X⟩]⟩ k=if B=true then R2 else R1) (h:bW x=2) (v:Nat) (X:aE):
 aI ctx 87 (.loop (Code.at (aY Tryz.f87) [1,0,1,0,0])) ⟨126,aC,[(0,true,.d (.list (l.map bM))),(3,true,.d (.int .i64 i))],[⟨300,v,X⟩]⟩ k=if (bk x&&B)=true then R2 else R1:=by
 have w1:IntKind.i64.wrap ((i:Int)+1)=i+1:=au (by unfold aX;omega);have hn:=eL (dA x);have hf:=eL (fq x);unfold KF at hk;rw[ou];generalize bA (cN x)=S at*;generalize da (dA x)=N at*;generalize da (fq x)=F at*;rw[ah];simp[Tryz.f87]at ih⊢;have e0:dJ 2=0:=rfl;by_cases fm:ic x<0
 ·simp[aR,aV,w1,aD,h,hk,hn,hf,ih,h1,fm];intros;omega
 ·by_cases dP:1<ic x
  ·simp[aR,aV,w1,aD,h,hk,hn,hf,ih,h1,fm,dP,e0];intros;omega
  ·simp[aR,aV,w1,aD,h,hk,hn,hf,ih,h1,fm,dP,e0];grind
theorem adM{l:List Ex}(bn:l.length<100000000){i:Nat}{x:Ex}(aR:i<l.length)(aV:l[i]=x)(hk:KF (cN x))(lC:(cN x).length<100000000)(k:Kt)(R1 R2:bS)(B:Bool)
 (h1:∀v X,k .ret ⟨126,aC,[(2,true,.d (.bool false))],[⟨300,v,X⟩]⟩=R1)
 (ih:∀v X,aI ctx 87 (.loop (Code.at (aY Tryz.f87) [1,0,1,0,0])) ⟨126,aC,[(0,true,.d (.list (l.map bM))),(3,true,.d (.int .i64 (i+1)))],[⟨300,v,X⟩]⟩ k=if B=true then R2 else R1) (h:bW x=3) (v:Nat) (X:aE):
 aI ctx 87 (.loop (Code.at (aY Tryz.f87) [1,0,1,0,0])) ⟨126,aC,[(0,true,.d (.list (l.map bM))),(3,true,.d (.int .i64 i))],[⟨300,v,X⟩]⟩ k=if (bk x&&B)=true then R2 else R1:=by
 have w1:IntKind.i64.wrap ((i:Int)+1)=i+1:=au (by unfold aX;omega);have hn:=eL (dA x);have hf:=eL (fq x);unfold KF at hk;rw[ou];generalize bA (cN x)=S at*;generalize da (dA x)=N at*;generalize da (fq x)=F at*;rw[ah];simp[Tryz.f87]at ih⊢;have e0:dJ 3=0:=rfl;by_cases fm:ic x=0
 ·simp[aR,aV,w1,aD,h,hk,hn,hf,ih,h1,fm,e0];grind
 ·simp[aR,aV,w1,aD,h,hk,hn,hf,ih,h1,fm]
theorem adN{l:List Ex}(bn:l.length<100000000){i:Nat}{x:Ex}(aR:i<l.length)(aV:l[i]=x)(hk:KF (cN x))(lC:(cN x).length<100000000)(k:Kt)(R1 R2:bS)(B:Bool)
 (h1:∀v X,k .ret ⟨126,aC,[(2,true,.d (.bool false))],[⟨300,v,X⟩]⟩=R1)
 (ih:∀v X,aI ctx 87 (.loop (Code.at (aY Tryz.f87) [1,0,1,0,0])) ⟨126,aC,[(0,true,.d (.list (l.map bM))),(3,true,.d (.int .i64 (i+1)))],[⟨300,v,X⟩]⟩ k=if B=true then R2 else R1) (h:bW x=4) (v:Nat) (X:aE):
 aI ctx 87 (.loop (Code.at (aY Tryz.f87) [1,0,1,0,0])) ⟨126,aC,[(0,true,.d (.list (l.map bM))),(3,true,.d (.int .i64 i))],[⟨300,v,X⟩]⟩ k=if (bk x&&B)=true then R2 else R1:=by
 have w1:IntKind.i64.wrap ((i:Int)+1)=i+1:=au (by unfold aX;omega);have hn:=eL (dA x);have hf:=eL (fq x);unfold KF at hk;rw[ou];generalize bA (cN x)=S at*;generalize da (dA x)=N at*;generalize da (fq x)=F at*;rw[ah];simp[Tryz.f87]at ih⊢;have e0:dJ 4=1:=rfl;by_cases fm:ic x=0
 ·simp[aR,aV,w1,aD,h,hk,hn,hf,ih,h1,fm,e0];grind
 ·simp[aR,aV,w1,aD,h,hk,hn,hf,ih,h1,fm]
theorem adO{l:List Ex}(bn:l.length<100000000){i:Nat}{x:Ex}(aR:i<l.length)(aV:l[i]=x)(hk:KF (cN x))(lC:(cN x).length<100000000)(k:Kt)(R1 R2:bS)(B:Bool)
 (h1:∀v X,k .ret ⟨126,aC,[(2,true,.d (.bool false))],[⟨300,v,X⟩]⟩=R1)
 (ih:∀v X,aI ctx 87 (.loop (Code.at (aY Tryz.f87) [1,0,1,0,0])) ⟨126,aC,[(0,true,.d (.list (l.map bM))),(3,true,.d (.int .i64 (i+1)))],[⟨300,v,X⟩]⟩ k=if B=true then R2 else R1) (h:bW x=5) (v:Nat) (X:aE):
 aI ctx 87 (.loop (Code.at (aY Tryz.f87) [1,0,1,0,0])) ⟨126,aC,[(0,true,.d (.list (l.map bM))),(3,true,.d (.int .i64 i))],[⟨300,v,X⟩]⟩ k=if (bk x&&B)=true then R2 else R1:=by
 have w1:IntKind.i64.wrap ((i:Int)+1)=i+1:=au (by unfold aX;omega);have hn:=eL (dA x);have hf:=eL (fq x);unfold KF at hk;rw[ou];generalize bA (cN x)=S at*;generalize da (dA x)=N at*;generalize da (fq x)=F at*;rw[ah];simp[Tryz.f87]at ih⊢;have e0:dJ 5=0:=rfl;by_cases fm:ic x=0
 ·simp[aR,aV,w1,aD,h,hk,hn,hf,ih,h1,fm,e0];grind
 ·simp[aR,aV,w1,aD,h,hk,hn,hf,ih,h1,fm]
theorem adP{l:List Ex}(bn:l.length<100000000){i:Nat}{x:Ex}(aR:i<l.length)(aV:l[i]=x)(hk:KF (cN x))(lC:(cN x).length<100000000)(k:Kt)(R1 R2:bS)(B:Bool)
 (h1:∀v X,k .ret ⟨126,aC,[(2,true,.d (.bool false))],[⟨300,v,X⟩]⟩=R1)
 (ih:∀v X,aI ctx 87 (.loop (Code.at (aY Tryz.f87) [1,0,1,0,0])) ⟨126,aC,[(0,true,.d (.list (l.map bM))),(3,true,.d (.int .i64 (i+1)))],[⟨300,v,X⟩]⟩ k=if B=true then R2 else R1) (h:bW x=6) (v:Nat) (X:aE):
 aI ctx 87 (.loop (Code.at (aY Tryz.f87) [1,0,1,0,0])) ⟨126,aC,[(0,true,.d (.list (l.map bM))),(3,true,.d (.int .i64 i))],[⟨300,v,X⟩]⟩ k=if (bk x&&B)=true then R2 else R1:=by
 have w1:IntKind.i64.wrap ((i:Int)+1)=i+1:=au (by unfold aX;omega);have hn:=eL (dA x);have hf:=eL (fq x);unfold KF at hk;rw[ou];generalize bA (cN x)=S at*;generalize da (dA x)=N at*;generalize da (fq x)=F at*;rw[ah];simp[Tryz.f87]at ih⊢;have e0:dJ 6=1:=rfl;by_cases fm:ic x=0
 ·simp[aR,aV,w1,aD,h,hk,hn,hf,ih,h1,fm,e0];grind
 ·simp[aR,aV,w1,aD,h,hk,hn,hf,ih,h1,fm]
theorem adQ{l:List Ex}(bn:l.length<100000000){i:Nat}{x:Ex}(aR:i<l.length)(aV:l[i]=x)(hk:KF (cN x))(lC:(cN x).length<100000000)(k:Kt)(R1 R2:bS)(B:Bool)
 (h1:∀v X,k .ret ⟨126,aC,[(2,true,.d (.bool false))],[⟨300,v,X⟩]⟩=R1)
 (ih:∀v X,aI ctx 87 (.loop (Code.at (aY Tryz.f87) [1,0,1,0,0])) ⟨126,aC,[(0,true,.d (.list (l.map bM))),(3,true,.d (.int .i64 (i+1)))],[⟨300,v,X⟩]⟩ k=if B=true then R2 else R1) (h:bW x=7) (v:Nat) (X:aE):
 aI ctx 87 (.loop (Code.at (aY Tryz.f87) [1,0,1,0,0])) ⟨126,aC,[(0,true,.d (.list (l.map bM))),(3,true,.d (.int .i64 i))],[⟨300,v,X⟩]⟩ k=if (bk x&&B)=true then R2 else R1:=by
 have w1:IntKind.i64.wrap ((i:Int)+1)=i+1:=au (by unfold aX;omega);have hn:=eL (dA x);have hf:=eL (fq x);unfold KF at hk;rw[ou];generalize bA (cN x)=S at*;generalize da (dA x)=N at*;generalize da (fq x)=F at*;rw[ah];simp[Tryz.f87]at ih⊢;have e0:dJ 7=1:=rfl;by_cases fm:ic x=0
 ·simp[aR,aV,w1,aD,h,hk,hn,hf,ih,h1,fm,e0];grind
 ·simp[aR,aV,w1,aD,h,hk,hn,hf,ih,h1,fm]
theorem adR{l:List Ex}(bn:l.length<100000000){i:Nat}{x:Ex}(aR:i<l.length)(aV:l[i]=x)(hk:KF (cN x))(lC:(cN x).length<100000000)(k:Kt)(R1 R2:bS)(B:Bool)
 (h1:∀v X,k .ret ⟨126,aC,[(2,true,.d (.bool false))],[⟨300,v,X⟩]⟩=R1)
 (ih:∀v X,aI ctx 87 (.loop (Code.at (aY Tryz.f87) [1,0,1,0,0])) ⟨126,aC,[(0,true,.d (.list (l.map bM))),(3,true,.d (.int .i64 (i+1)))],[⟨300,v,X⟩]⟩ k=if B=true then R2 else R1) (h:7<bW x) (v:Nat) (X:aE):
 aI ctx 87 (.loop (Code.at (aY Tryz.f87) [1,0,1,0,0])) ⟨126,aC,[(0,true,.d (.list (l.map bM))),(3,true,.d (.int .i64 i))],[⟨300,v,X⟩]⟩ k=if (bk x&&B)=true then R2 else R1:=by
 have w1:IntKind.i64.wrap ((i:Int)+1)=i+1:=au (by unfold aX;omega);have hn:=eL (dA x);have hf:=eL (fq x);unfold KF at hk;rw[ou];generalize bA (cN x)=S at*;generalize da (dA x)=N at*;generalize da (fq x)=F at*;have c1:¬bW x=1:=by omega
 have c2:¬bW x=2:=by omega
 have c3:¬bW x=3:=by omega
 have c4:¬bW x=4:=by omega
 have c5:¬bW x=5:=by omega
 have c6:¬bW x=6:=by omega
 have c7:¬bW x=7:=by omega
 have d1:2<bW x:=by omega
 have d2:¬bW x<1:=by omega
 have e0:dJ (bW x)=2:=by unfold dJ;rw[if_neg (by omega),if_pos h]
 rw[ah];simp[Tryz.f87]at ih⊢;by_cases fm:ic x=0
 ·by_cases R4:21<bW x
  ·simp[aR,aV,w1,aD,h,hk,hn,hf,ih,h1,fm,R4,c1,c2,c3,c4,c5,c6,c7,d1,d2];intros;omega
  ·simp[aR,aV,w1,aD,h,hk,hn,hf,ih,h1,fm,R4,e0,c1,c2,c3,c4,c5,c6,c7,d1,d2];grind
 ·simp[aR,aV,w1,aD,h,hk,hn,hf,ih,h1,fm,c1,c2,d1];intros;omega
theorem EK(l:List Ex)(bn:l.length<100000000)(hK:∀x∈l,KF (cN x))(hs:∀x∈l,(cN x).length<100000000)(k:Kt)(R1 R2:bS)
 (h1:∀v X,k .ret ⟨126,aC,[(2,true,.d (.bool false))],[⟨300,v,X⟩]⟩=R1)
 (h2:∀(Y:Env) v X,k (.exit 0) ⟨126,aC,Y,[⟨300,v,X⟩]⟩=R2):∀(rest pre:List Ex)(v:Nat)(X:aE),l=pre++rest→
 aI ctx 87 (.loop (Code.at (aY Tryz.f87) [1,0,1,0,0])) ⟨126,aC,[(0,true,.d (.list (l.map bM))),(3,true,.d (.int .i64 pre.length))],[⟨300,v,X⟩]⟩ k=if bA rest=true then R2 else R1
 |[],pre,v,X,hd=>by
  have cf:pre.length=l.length:=by rw[hd];simp
  rw[cf,ah];simp[Tryz.f87,h2,bA]
 |x::rest,pre,v,X,hd=>by
  have aR:pre.length<l.length:=by rw[hd];simp
  have aV:l[pre.length]=x:=by simp[hd]
  have hk:=hK x (by rw[hd];simp);have lC:=hs x (by rw[hd];simp);have ih:∀v X,aI ctx 87 (.loop (Code.at (aY Tryz.f87) [1,0,1,0,0])) ⟨126,aC,[(0,true,.d (.list (l.map bM))),(3,true,.d (.int .i64 (pre.length+1)))],[⟨300,v,X⟩]⟩ k=if bA rest=true then R2 else R1:=fun v X=>by
   have:=EK l bn hK hs k R1 R2 h1 h2 rest (pre++[x]) v X (by simp[hd]);simpa using this
  have key:bA (x::rest)=(bk x&&bA rest):=by rw[bA]
  rw[key];have hc:bW x<1∨bW x=1∨bW x=2∨bW x=3∨bW x=4∨bW x=5∨bW x=6∨bW x=7∨7<bW x:=by omega
  rcases hc with h|h|h|h|h|h|h|h|h
  ·exact adJ bn aR aV hk lC k R1 R2 _ h1 ih h v X
  ·exact adK bn aR aV hk lC k R1 R2 _ h1 ih h v X
  ·exact adL bn aR aV hk lC k R1 R2 _ h1 ih h v X
  ·exact adM bn aR aV hk lC k R1 R2 _ h1 ih h v X
  ·exact adN bn aR aV hk lC k R1 R2 _ h1 ih h v X
  ·exact adO bn aR aV hk lC k R1 R2 _ h1 ih h v X
  ·exact adP bn aR aV hk lC k R1 R2 _ h1 ih h v X
  ·exact adQ bn aR aV hk lC k R1 R2 _ h1 ih h v X
  ·exact adR bn aR aV hk lC k R1 R2 _ h1 ih h v X
theorem SR{l:List Ex}(bn:l.length<100000000)(hK:∀x∈l,KF (cN x))(hs:∀x∈l,(cN x).length<100000000):KF l:=by
 have h:=fun k R1 R2 h1 h2 v X=>EK l bn hK hs k R1 R2 h1 h2 l [] v X rfl;unfold KF;rw[aie (by simp)];simp[Tryz.f87]at h⊢;rw[h _ (some (.ret (.d (.bool false)),[])) (some (.ret (.d (.bool true)),[]))]
 ·cases bA l<;>simp
 ·intro v X;simp
 ·intro Y v X;simp
mutual
def uU:Ex→Prop
 | .mk _ _ name field sub _=>(name.length<100000000∧field.length<100000000∧sub.length<100000000)∧ow sub
def ow:List Ex→Prop
 |[]=>True
 |x::r=>uU x∧ow r
end
mutual
theorem adS:∀x:Ex,uU x→KF (cN x)∧(cN x).length<100000000
 | .mk op nn name field sub line,h=>by
  simp only[uU]at h;have hs:=zu sub h.2;exact⟨SR h.1.2.2 (fun x hx=>(hs x hx).1) (fun x hx=>(hs x hx).2),h.1.2.2⟩
theorem zu:∀l:List Ex,ow l→∀x∈l,KF (cN x)∧(cN x).length<100000000
 |[],_,x,hx=>by simp at hx
 |y::r,h,x,hx=>by
  simp only[ow]at h;have h1:=adS y h.1;have h2:=zu r h.2;rcases List.mem_cons.1 hx with e|hx
  ·rw[e];exact h1
  ·exact h2 x hx
end
theorem A2{l:List Ex}(bn:l.length<100000000)(h:ow l):KF l:=
 SR bn (fun x hx=>(zu l h x hx).1) (fun x hx=>(zu l h x hx).2)
end Go.Am
end
section
namespace Go.Am
open Go
theorem MN{k:Int}(h:om k=true):10≤k∧k≤31:=by
 unfold om bC at h;by_cases hk:10≤k∧k≤31
 ·exact hk
 ·exfalso;have:rl Hs k=[]:=by
   unfold Hs;simp only[rl];repeat rw[if_neg (by omega)]
  rw[this]at h;simp at h
theorem Dw{v:Vr}(h:dj v=true):(v.ty=1∨v.ty=2)∨(10≤v.ty∧v.ty≤31∧om v.ty=true):=by
 simp only[dj,Bool.and_eq_true,Bool.or_eq_true,decide_eq_true_eq]at h;rcases h.2.1.2 with h|h
 ·exact .inl h
 ·exact .inr ⟨(MN h).1,(MN h).2,h⟩
theorem qo{s:Tx}{v:Vr}:∀{l:List Vr},aZ l s=some v→v∈l∧v.name=s
 |x::r,h=>by
  unfold aZ at h;split at h
  ·rename_i e;cases h;exact⟨by simp,e⟩
  ·have:=qo h;exact⟨by simp[this.1],this.2⟩
end Go.Am
end
section
namespace Go.Am
open Go Go.Proofs
variable [Inhabited bX]
set_option maxRecDepth 20000
@[simp] def smL(x:Sm):List D:=[.int .i64 (bu x),.str (gU x),
 .int .i64 (bW (eI x)),.int .i64 (ic (eI x)),.str (dA (eI x)),.str (fq (eI x)),.list ((cN (eI x)).map bM),.int .i64 (jG (eI x)),
 .int .i64 (bW (dM x)),.int .i64 (ic (dM x)),.str (dA (dM x)),.str (fq (dM x)),.list ((cN (dM x)).map bM),.int .i64 (jG (dM x)),
 .list ((cy x).map bM),.list ((ee x).map mC),.list ((dR x).map .str),.list ((bj x).map df),.int .i64 (kC x)]
section
variable {vs:List Vr} {n:Int} (hl:vs.length<1000000) (cS:∀v∈vs,dj v=true)
include hl cS
end
@[simp] def bh(x:Sm):aE:=.box [.d (.int .i64 (bu x)),.d (.str (gU x)),.d (.int .i64 (bW (eI x))),.d (.int .i64 (ic (eI x))),.d (.str (dA (eI x))),.d (.str (fq (eI x))),.d (.list ((cN (eI x)).map bM)),.d (.int .i64 (jG (eI x))),
 .d (.int .i64 (bW (dM x))),.d (.int .i64 (ic (dM x))),.d (.str (dA (dM x))),.d (.str (fq (dM x))),.d (.list ((cN (dM x)).map bM)),.d (.int .i64 (jG (dM x))),.d (.list ((cy x).map bM)),.d (.list ((ee x).map mC)),.d (.list ((dR x).map .str)),.d (.list ((bj x).map df)),.d (.int .i64 (kC x))]
@[simp] def ie(v:Vr):aE:=.box [.d (.str v.name),.d (.int .i64 v.ty),.d (.int .i64 v.sec),.d (.bool v.arr),.d (.int .i64 v.lo),.d (.int .i64 v.hi),.d (.int .i64 v.init),.d (.int .i64 v.line)]
theorem Hv{v:Vr}(hf:dj v=true):ai ctx 90 [.d (bI v)] []=some (.ret (.d (.int .i64 (bN v))),[]):=by
 have hs:=ML v.ty;rw[aih (by simp)];unfold bN;cases ha:v.arr with
 |true=>
  simp only[dj,Bool.and_eq_true,ha,if_true,decide_eq_true_eq]at hf;have w1:IntKind.i64.wrap (v.hi-v.lo)=v.hi-v.lo:=au (by unfold aX;omega);have w2:IntKind.i64.wrap (v.hi-v.lo+1)=v.hi-v.lo+1:=au (by unfold aX;omega);simp[Tryz.f90,bI,eD,ha,w1,w2]
 |false=>
  by_cases h2:2<v.ty
  ·simp[Tryz.f90,bI,eD,ha,h2,hs]
  ·simp[Tryz.f90,bI,eD,ha,h2]
theorem pR{v:Vr}(hf:dj v=true):0≤bN v∧bN v≤256:=by
 have:=yA v.ty;unfold bN;cases ha:v.arr with
 |true=>
  simp only[dj,Bool.and_eq_true,ha,if_true,decide_eq_true_eq]at hf;simp only[if_true];omega
 |false=>
  simp only[Bool.false_eq_true,if_false];split<;>omega
@[reducible] noncomputable def bY(p:List Nat):Code:=Code.at (aY Tryz.f46) p
section
variable {x:Sm} {v:Nat} {k:Kt} {R1:bS} {a b:AV} (hr:k .ret ⟨258,aC,[(2,true,.d (.bool false))],[⟨300,v,bh x⟩]⟩=R1)
def Hx(x:Sm):Bool:=decide (1≤bu x∧bu x≤9)&&(if bu x=4∨bu x=9 then da (gU x)else decide (gU x=[]))
def Hy(x:Sm):Bool:=if bu x=1 then decide (bW (eI x)=3∨bW (eI x)=4)&&bk (eI x)else dK (eI x)
def Dx(x:Sm):Bool:=(if bu x=1∨bu x=3∨bu x=5∨bu x=6 then !dK (dM x)&&bk (dM x)else dK (dM x))&&bA (cy x)
include hr
theorem aoL{d6 d7:AV}:aI ctx 46 (bY [1,0,1,0,0,1,0,0,1,1,0]) ⟨258,aC,[(0,true,a),(3,true,b),(4,true,.ptr 300 v 0),(5,true,.d (.bool (decide (bu x=4∨bu x=9)))),(6,true,d6),(7,true,d7)],[⟨300,v,bh x⟩]⟩ k=
 if Hx x=true then k .normal ⟨258,aC,[(0,true,a),(3,true,b),(4,true,.ptr 300 v 0),(6,true,d6),(7,true,d7),(59,true,.d (.bool false))],[⟨300,v,bh x⟩]⟩else R1:=by
 have hn:=eL (gU x);unfold Hx;simp only[bh]at hr;generalize da (gU x)=N at*;by_cases h1:bu x<1
 ·have h2:¬1≤bu x:=by omega
  simp[bY,Tryz.f46];simp[h1,h2,hr]
 ·have h2:1≤bu x:=by omega
  by_cases h9:9<bu x
  ·have h3:¬bu x≤9:=by omega
   simp[bY,Tryz.f46];simp[h1,h2,h9,h3,hr]
  ·have h3:bu x≤9:=by omega
   by_cases h4:bu x=4
   ·simp only[h4]at hr⊢;cases N<;>(simp[bY,Tryz.f46];simp[h4,hn,hr])
   ·by_cases h5:bu x=9
    ·simp only[h5]at hr⊢;cases N<;>(simp[bY,Tryz.f46];simp[h5,hn,hr])
    ·by_cases he:gU x=[]
     ·simp only[he]at hr⊢;simp[bY,Tryz.f46];simp[h1,h2,h9,h3,h4,h5,he,hr]
     ·simp[bY,Tryz.f46];simp[h1,h2,h9,h3,h4,h5,he,hr]
theorem aoM{d7:AV}(hl:(dA (eI x)).length<100000000∧(fq (eI x)).length<100000000∧(cN (eI x)).length<100000000)(hk:KF [eI x]):aI ctx 46 (bY [1,0,1,0,0,1,0,0,1,1,1,0]) ⟨258,aC,[(0,true,a),(3,true,b),(4,true,.ptr 300 v 0),(6,true,.d (.bool (decide (bu x=1)))),(7,true,d7),(59,true,.d (.bool false))],[⟨300,v,bh x⟩]⟩ k=
 if Hy x=true then k .normal ⟨258,aC,[(0,true,a),(3,true,b),(4,true,.ptr 300 v 0),(7,true,d7),(89,true,.d (.bool false))],[⟨300,v,bh x⟩]⟩else R1:=by
 have hn:=MM hl;unfold KF at hk;simp[aD,bA]at hk;unfold Hy;simp only[bh]at hr;generalize dK (eI x)=N at*;generalize bk (eI x)=T at*;by_cases h1:bu x=1
 ·simp only[h1]at hr;by_cases h3:bW (eI x)=3
  ·simp only[h3]at hr hk;cases T<;>(simp[bY,Tryz.f46];simp[h1,h3,hk,hr])
  ·by_cases h4:bW (eI x)=4
   ·simp only[h4]at hr hk;cases T<;>(simp[bY,Tryz.f46];simp[h1,h4,hk,hr])
   ·simp[bY,Tryz.f46];simp[h1,h3,h4,hr]
 ·cases N<;>(simp[bY,Tryz.f46];simp[h1,hn,hr])
end
section
variable {x:Sm} {v:Nat} {k:Kt} {R1:bS} {a b:AV}
theorem aoN(hr:k .ret ⟨258,aC,[(2,true,.d (.bool false))],[⟨300,v,bh x⟩]⟩=R1){V:Bool}(hV:V=decide (bu x=1∨bu x=3∨bu x=5∨bu x=6))(hl:(dA (dM x)).length<100000000∧(fq (dM x)).length<100000000∧(cN (dM x)).length<100000000)(hk:KF [dM x])(hc:KF (cy x)):aI ctx 46 (bY [1,0,1,0,0,1,0,0,1,1,1,1,0]) ⟨258,aC,[(0,true,a),(3,true,b),(4,true,.ptr 300 v 0),(7,true,.d (.bool V)),(89,true,.d (.bool false))],[⟨300,v,bh x⟩]⟩ k=
 if Dx x=true then k .normal ⟨258,aC,[(0,true,a),(3,true,b),(4,true,.ptr 300 v 0),(118,true,.d (.bool false))],[⟨300,v,bh x⟩]⟩else R1:=by
 have hn:=MM hl;unfold KF at hk hc;simp[aD,bA]at hk;have e:Dx x=((if V=true then !dK (dM x)&&bk (dM x)else dK (dM x))&&bA (cy x)):=by
  unfold Dx;rw[hV];by_cases h:bu x=1∨bu x=3∨bu x=5∨bu x=6
  ·rw[if_pos h,if_pos (by simpa using h)]
  ·rw[if_neg h,if_neg (by simpa using h)]
 rw[e];simp only[bh]at hr;generalize dK (dM x)=N at*;generalize bk (dM x)=T at*;generalize bA (cy x)=W at*;clear hV e;cases V with
 |true=>
  cases N with
  |true=>(simp[bY,Tryz.f46];simp[hn,hr])
  |false=>cases T<;>cases W<;>(simp[bY,Tryz.f46];simp[hn,hk,hc,hr])
 |false=>cases N<;>cases W<;>(simp[bY,Tryz.f46];simp[hn,hc,hr])
theorem aoO{X:Env}:aI ctx 46 (bY [1,0,1,0,0,1,0,0,1,1,1,1,1,0]) ⟨258,aC,[(0,true,a),(3,true,b),(4,true,.ptr 300 v 0),(118,true,.d (.bool false))],[⟨300,v,bh x⟩]⟩ k=
 k .normal ⟨258,aC,[(0,true,a),(3,true,b),(4,true,.ptr 300 v 0),(8,true,.d (.int .i64 0)),(9,true,.d (.int .i64 0)),(10,true,.d (.int .i64 0)),(11,true,.d (.int .i64 0)),(12,true,.d (.int .i64 0))],[⟨300,v,bh x⟩]⟩:=by
 simp[bY,Tryz.f46]
def yB(n:Int):Int:=if 1<n then n else 1
def oR(x:Sm):Int:=if bu x=2 then yB (cy x).length else if bu x=4 then 3 else if bu x=9 then (dR x).length else 0
def oS(x:Sm):Int:=if bu x=3 then (ee x).length else 0
def ly(x:Sm):Int:=if bu x=9 then (dR x).length else 0
def iR(x:Sm):Int:=if bu x=2 then yB (cy x).length else if bu x=3 then (ee x).length else if bu x=4∨bu x=5∨bu x=6 then 1 else 0
def jd(x:Sm):Int:=if bu x=2∨bu x=3 then 1 else 0
def cX(x:Sm):Env:=if bu x=2∨bu x=3∨bu x=4∨bu x=5∨bu x=6∨bu x=9 then []else [(144,true,.d (.bool false))]
theorem adU(h2:bu x=2):aI ctx 46 (bY [1,0,1,0,0,1,0,0,1,1,1,1,1,1,0]) ⟨258,aC,[(0,true,a),(3,true,b),(4,true,.ptr 300 v 0),(8,true,.d (.int .i64 0)),(9,true,.d (.int .i64 0)),(10,true,.d (.int .i64 0)),(11,true,.d (.int .i64 0)),(12,true,.d (.int .i64 0))],[⟨300,v,bh x⟩]⟩ k=
 k .normal ⟨258,aC,[(0,true,a),(3,true,b),(4,true,.ptr 300 v 0),(8,true,.d (.int .i64 (oR x))),(9,true,.d (.int .i64 (oS x))),(10,true,.d (.int .i64 (ly x))),(11,true,.d (.int .i64 (iR x))),(12,true,.d (.int .i64 (jd x)))]++cX x,[⟨300,v,bh x⟩]⟩:=by
 unfold oR oS ly iR jd cX;simp[bY,Tryz.f46];simp[h2,aq,yB]
theorem adV(h3:bu x=3):aI ctx 46 (bY [1,0,1,0,0,1,0,0,1,1,1,1,1,1,0]) ⟨258,aC,[(0,true,a),(3,true,b),(4,true,.ptr 300 v 0),(8,true,.d (.int .i64 0)),(9,true,.d (.int .i64 0)),(10,true,.d (.int .i64 0)),(11,true,.d (.int .i64 0)),(12,true,.d (.int .i64 0))],[⟨300,v,bh x⟩]⟩ k=
 k .normal ⟨258,aC,[(0,true,a),(3,true,b),(4,true,.ptr 300 v 0),(8,true,.d (.int .i64 (oR x))),(9,true,.d (.int .i64 (oS x))),(10,true,.d (.int .i64 (ly x))),(11,true,.d (.int .i64 (iR x))),(12,true,.d (.int .i64 (jd x)))]++cX x,[⟨300,v,bh x⟩]⟩:=by
 unfold oR oS ly iR jd cX;simp[bY,Tryz.f46];simp[h3,aq,yB]
theorem adW(h4:bu x=4):aI ctx 46 (bY [1,0,1,0,0,1,0,0,1,1,1,1,1,1,0]) ⟨258,aC,[(0,true,a),(3,true,b),(4,true,.ptr 300 v 0),(8,true,.d (.int .i64 0)),(9,true,.d (.int .i64 0)),(10,true,.d (.int .i64 0)),(11,true,.d (.int .i64 0)),(12,true,.d (.int .i64 0))],[⟨300,v,bh x⟩]⟩ k=
 k .normal ⟨258,aC,[(0,true,a),(3,true,b),(4,true,.ptr 300 v 0),(8,true,.d (.int .i64 (oR x))),(9,true,.d (.int .i64 (oS x))),(10,true,.d (.int .i64 (ly x))),(11,true,.d (.int .i64 (iR x))),(12,true,.d (.int .i64 (jd x)))]++cX x,[⟨300,v,bh x⟩]⟩:=by
 unfold oR oS ly iR jd cX;simp[bY,Tryz.f46];simp[h4,aq,yB]
theorem adX(h5:bu x=5):aI ctx 46 (bY [1,0,1,0,0,1,0,0,1,1,1,1,1,1,0]) ⟨258,aC,[(0,true,a),(3,true,b),(4,true,.ptr 300 v 0),(8,true,.d (.int .i64 0)),(9,true,.d (.int .i64 0)),(10,true,.d (.int .i64 0)),(11,true,.d (.int .i64 0)),(12,true,.d (.int .i64 0))],[⟨300,v,bh x⟩]⟩ k=
 k .normal ⟨258,aC,[(0,true,a),(3,true,b),(4,true,.ptr 300 v 0),(8,true,.d (.int .i64 (oR x))),(9,true,.d (.int .i64 (oS x))),(10,true,.d (.int .i64 (ly x))),(11,true,.d (.int .i64 (iR x))),(12,true,.d (.int .i64 (jd x)))]++cX x,[⟨300,v,bh x⟩]⟩:=by
 unfold oR oS ly iR jd cX;simp[bY,Tryz.f46];simp[h5,aq,yB]
theorem adY(h6:bu x=6):aI ctx 46 (bY [1,0,1,0,0,1,0,0,1,1,1,1,1,1,0]) ⟨258,aC,[(0,true,a),(3,true,b),(4,true,.ptr 300 v 0),(8,true,.d (.int .i64 0)),(9,true,.d (.int .i64 0)),(10,true,.d (.int .i64 0)),(11,true,.d (.int .i64 0)),(12,true,.d (.int .i64 0))],[⟨300,v,bh x⟩]⟩ k=
 k .normal ⟨258,aC,[(0,true,a),(3,true,b),(4,true,.ptr 300 v 0),(8,true,.d (.int .i64 (oR x))),(9,true,.d (.int .i64 (oS x))),(10,true,.d (.int .i64 (ly x))),(11,true,.d (.int .i64 (iR x))),(12,true,.d (.int .i64 (jd x)))]++cX x,[⟨300,v,bh x⟩]⟩:=by
 unfold oR oS ly iR jd cX;simp[bY,Tryz.f46];simp[h6,aq,yB]
theorem adZ(h9:bu x=9):aI ctx 46 (bY [1,0,1,0,0,1,0,0,1,1,1,1,1,1,0]) ⟨258,aC,[(0,true,a),(3,true,b),(4,true,.ptr 300 v 0),(8,true,.d (.int .i64 0)),(9,true,.d (.int .i64 0)),(10,true,.d (.int .i64 0)),(11,true,.d (.int .i64 0)),(12,true,.d (.int .i64 0))],[⟨300,v,bh x⟩]⟩ k=
 k .normal ⟨258,aC,[(0,true,a),(3,true,b),(4,true,.ptr 300 v 0),(8,true,.d (.int .i64 (oR x))),(9,true,.d (.int .i64 (oS x))),(10,true,.d (.int .i64 (ly x))),(11,true,.d (.int .i64 (iR x))),(12,true,.d (.int .i64 (jd x)))]++cX x,[⟨300,v,bh x⟩]⟩:=by
 unfold oR oS ly iR jd cX;simp[bY,Tryz.f46];simp[h9,aq,yB]
theorem ad0(h2:¬bu x=2)(h3:¬bu x=3)(h4:¬bu x=4)(h5:¬bu x=5)(h6:¬bu x=6)(h9:¬bu x=9):aI ctx 46 (bY [1,0,1,0,0,1,0,0,1,1,1,1,1,1,0]) ⟨258,aC,[(0,true,a),(3,true,b),(4,true,.ptr 300 v 0),(8,true,.d (.int .i64 0)),(9,true,.d (.int .i64 0)),(10,true,.d (.int .i64 0)),(11,true,.d (.int .i64 0)),(12,true,.d (.int .i64 0))],[⟨300,v,bh x⟩]⟩ k=
 k .normal ⟨258,aC,[(0,true,a),(3,true,b),(4,true,.ptr 300 v 0),(8,true,.d (.int .i64 (oR x))),(9,true,.d (.int .i64 (oS x))),(10,true,.d (.int .i64 (ly x))),(11,true,.d (.int .i64 (iR x))),(12,true,.d (.int .i64 (jd x)))]++cX x,[⟨300,v,bh x⟩]⟩:=by
 unfold oR oS ly iR jd cX;simp[bY,Tryz.f46];simp[h2,h3,h4,h5,h6,h9,aq,yB]
theorem aoP:aI ctx 46 (bY [1,0,1,0,0,1,0,0,1,1,1,1,1,1,0]) ⟨258,aC,[(0,true,a),(3,true,b),(4,true,.ptr 300 v 0),(8,true,.d (.int .i64 0)),(9,true,.d (.int .i64 0)),(10,true,.d (.int .i64 0)),(11,true,.d (.int .i64 0)),(12,true,.d (.int .i64 0))],[⟨300,v,bh x⟩]⟩ k=
 k .normal ⟨258,aC,[(0,true,a),(3,true,b),(4,true,.ptr 300 v 0),(8,true,.d (.int .i64 (oR x))),(9,true,.d (.int .i64 (oS x))),(10,true,.d (.int .i64 (ly x))),(11,true,.d (.int .i64 (iR x))),(12,true,.d (.int .i64 (jd x)))]++cX x,[⟨300,v,bh x⟩]⟩:=by
 by_cases h2:bu x=2
 ·exact adU h2
 ·by_cases h3:bu x=3
  ·exact adV h3
  ·by_cases h4:bu x=4
   ·exact adW h4
   ·by_cases h5:bu x=5
    ·exact adX h5
    ·by_cases h6:bu x=6
     ·exact adY h6
     ·by_cases h9:bu x=9
      ·exact adZ h9
      ·exact ad0 h2 h3 h4 h5 h6 h9
theorem aim(hr:k .ret ⟨258,aC,[(2,true,.d (.bool false))],[⟨300,v,bh x⟩]⟩=R1){c8 c9 Hz sn yC:Int}(hw:IntKind.i64.wrap (sn+yC)=sn+yC):aI ctx 46 (bY [1,0,1,0,0,1,0,0,1,1,1,1,1,1,1,0]) ⟨258,aC,[(0,true,a),(3,true,b),(4,true,.ptr 300 v 0),(8,true,.d (.int .i64 c8)),(9,true,.d (.int .i64 c9)),(10,true,.d (.int .i64 Hz)),(11,true,.d (.int .i64 sn)),(12,true,.d (.int .i64 yC))],[⟨300,v,bh x⟩]⟩ k=
 if (((cy x).length:Int)=c8∧((ee x).length:Int)=c9∧((dR x).length:Int)=Hz∧¬((bj x).length:Int)<sn∧¬sn+yC<((bj x).length:Int))then k .normal ⟨258,aC,[(0,true,a),(3,true,b),(4,true,.ptr 300 v 0),(186,true,.d (.bool false))],[⟨300,v,bh x⟩]⟩else R1:=by
 simp only[bh]at hr;by_cases h8:((cy x).length:Int)=c8
 ·by_cases h9:((ee x).length:Int)=c9
  ·by_cases qR:((dR x).length:Int)=Hz
   ·by_cases Cx:((bj x).length:Int)<sn
    ·(simp[bY,Tryz.f46];simp[h8,h9,qR,Cx,hr];intros;exfalso;omega)
    ·by_cases jX:sn+yC<((bj x).length:Int)
     ·(simp[bY,Tryz.f46];simp[h8,h9,qR,Cx,hw,jX,hr];intros;exfalso;omega)
     ·(simp[bY,Tryz.f46];simp[h8,h9,qR,Cx,hw,jX,hr])
   ·(simp[bY,Tryz.f46];simp[h8,h9,qR,hr])
  ·(simp[bY,Tryz.f46];simp[h8,h9,hr])
 ·(simp[bY,Tryz.f46];simp[h8,hr])
theorem ain(hr:k .ret ⟨258,aC,[(2,true,.d (.bool false))],[⟨300,v,bh x⟩]⟩=R1){c8 c9 Hz sn yC:Int}(hw:IntKind.i64.wrap (sn+yC)=sn+yC):aI ctx 46 (bY [1,0,1,0,0,1,0,0,1,1,1,1,1,1,1,0]) ⟨258,aC,[(0,true,a),(3,true,b),(4,true,.ptr 300 v 0),(8,true,.d (.int .i64 c8)),(9,true,.d (.int .i64 c9)),(10,true,.d (.int .i64 Hz)),(11,true,.d (.int .i64 sn)),(12,true,.d (.int .i64 yC)),(144,true,.d (.bool false))],[⟨300,v,bh x⟩]⟩ k=
 if (((cy x).length:Int)=c8∧((ee x).length:Int)=c9∧((dR x).length:Int)=Hz∧¬((bj x).length:Int)<sn∧¬sn+yC<((bj x).length:Int))then k .normal ⟨258,aC,[(0,true,a),(3,true,b),(4,true,.ptr 300 v 0),(186,true,.d (.bool false))],[⟨300,v,bh x⟩]⟩else R1:=by
 simp only[bh]at hr;by_cases h8:((cy x).length:Int)=c8
 ·by_cases h9:((ee x).length:Int)=c9
  ·by_cases qR:((dR x).length:Int)=Hz
   ·by_cases Cx:((bj x).length:Int)<sn
    ·(simp[bY,Tryz.f46];simp[h8,h9,qR,Cx,hr];intros;exfalso;omega)
    ·by_cases jX:sn+yC<((bj x).length:Int)
     ·(simp[bY,Tryz.f46];simp[h8,h9,qR,Cx,hw,jX,hr];intros;exfalso;omega)
     ·(simp[bY,Tryz.f46];simp[h8,h9,qR,Cx,hw,jX,hr])
   ·(simp[bY,Tryz.f46];simp[h8,h9,qR,hr])
  ·(simp[bY,Tryz.f46];simp[h8,h9,hr])
 ·(simp[bY,Tryz.f46];simp[h8,hr])
end
def KS(b:List Sm):Prop:=ai ctx 46 [.d (.list (b.map b5))] []=some (.ret (.d (.bool (eh b))),[])
section
variable {x:Sm} {v:Nat} {k:Kt} {R1 R2:bS} {a b:AV}
theorem HA(hl:(dR x).length<100000000)(h1:k .ret ⟨258,aC,[(2,true,.d (.bool false))],[⟨300,v,bh x⟩]⟩=R1)
 (h2:k (.exit 3) ⟨258,aC,[(0,true,a),(3,true,b),(4,true,.ptr 300 v 0),(13,true,.d (.int .i64 (dR x).length)),(191,true,.d (.bool false))],[⟨300,v,bh x⟩]⟩=R2):∀(rest pre:List Tx),dR x=pre++rest→
 aI ctx 46 (.loop (bY [1,0,1,0,0,1,0,0,1,1,1,1,1,1,1,1,0,1,0,0])) ⟨258,aC,[(0,true,a),(3,true,b),(4,true,.ptr 300 v 0),(13,true,.d (.int .i64 pre.length))],[⟨300,v,bh x⟩]⟩ k=if rest.all da=true then R2 else R1
 |[],pre,hd=>by
  have cf:pre.length=(dR x).length:=by rw[hd];simp
  simp only[bh]at h2;rw[cf,ah];simp[bY,Tryz.f46,h2]
 |c::rest,pre,hd=>by
  have aR:pre.length<(dR x).length:=by rw[hd];simp
  have aV:(dR x)[pre.length]=c:=by simp[hd]
  have ih:=HA hl h1 h2 rest (pre++[c]) (by simp[hd]);have hn:=eL c;have w1:IntKind.i64.wrap ((pre.length:Int)+1)=(pre.length:Int)+1:=au (by unfold aX;omega);simp only[bh]at h1;rw[List.all_cons];generalize da c=N at*;rw[ah];cases N with
  |true=>
   simp[bY,Tryz.f46]at ih⊢;simp[aR,aV,hn,w1,ih]
  |false=>
   simp[bY,Tryz.f46];simp[aR,aV,hn,h1]
theorem HD{l:List Int}{i:Nat}(hi:i<(ee x).length)(hx:(ee x)[i]=l)(hl:l.length<100000000)(h1:k .ret ⟨258,aC,[(2,true,.d (.bool false))],[⟨300,v,bh x⟩]⟩=R1)
 (h2:k (.exit 7) ⟨258,aC,[(0,true,a),(3,true,b),(4,true,.ptr 300 v 0),(14,true,.d (.int .i64 i)),(15,true,.d (.int .i64 l.length)),(232,true,.d (.bool false))],[⟨300,v,bh x⟩]⟩=R2):∀(rest pre:List Int),l=pre++rest→
 aI ctx 46 (.loop (bY [1,0,1,0,0,1,0,0,1,1,1,1,1,1,1,1,1,0,1,0,0,1,0,0,1,1,0,0])) ⟨258,aC,[(0,true,a),(3,true,b),(4,true,.ptr 300 v 0),(14,true,.d (.int .i64 i)),(15,true,.d (.int .i64 pre.length))],[⟨300,v,bh x⟩]⟩ k=if rest.all (fun n=>decide (n≠ -9223372036854775808))=true then R2 else R1
 |[],pre,hd=>by
  have cf:pre.length=l.length:=by rw[hd];simp
  simp only[bh]at h2;rw[cf,ah];simp[bY,Tryz.f46];simp[hi,hx,mC,h2]
 |c::rest,pre,hd=>by
  have aR:pre.length<l.length:=by rw[hd];simp
  have aV:l[pre.length]=c:=by simp[hd]
  have ih:=HD hi hx hl h1 h2 rest (pre++[c]) (by simp[hd]);have w1:IntKind.i64.wrap ((pre.length:Int)+1)=(pre.length:Int)+1:=au (by unfold aX;omega);simp only[bh]at h1;rw[List.all_cons];rw[ah];by_cases hc:c= -9223372036854775808
  ·simp[bY,Tryz.f46];simp[hi,hx,mC,aR,aV,hc,h1]
  ·simp[bY,Tryz.f46]at ih⊢;simp[hi,hx,mC,aR,aV,hc,w1,ih]
theorem HE(hl:(bj x).length<100000000)(hK:∀c∈bj x,KS c)(h1:k .ret ⟨258,aC,[(2,true,.d (.bool false))],[⟨300,v,bh x⟩]⟩=R1)
 (h2:k (.exit 9) ⟨258,aC,[(0,true,a),(3,true,b),(4,true,.ptr 300 v 0),(16,true,.d (.int .i64 (bj x).length)),(248,true,.d (.bool false))],[⟨300,v,bh x⟩]⟩=R2):∀(rest pre:List (List Sm)),bj x=pre++rest→
 aI ctx 46 (.loop (bY [1,0,1,0,0,1,0,0,1,1,1,1,1,1,1,1,1,1,1,0,0])) ⟨258,aC,[(0,true,a),(3,true,b),(4,true,.ptr 300 v 0),(16,true,.d (.int .i64 pre.length))],[⟨300,v,bh x⟩]⟩ k=if cB rest=true then R2 else R1
 |[],pre,hd=>by
  have cf:pre.length=(bj x).length:=by rw[hd];simp
  simp only[bh]at h2;rw[cf,ah];simp[bY,Tryz.f46,h2,cB]
 |c::rest,pre,hd=>by
  have aR:pre.length<(bj x).length:=by rw[hd];simp
  have aV:(bj x)[pre.length]=c:=by simp[hd]
  have ih:=HE hl hK h1 h2 rest (pre++[c]) (by simp[hd]);have hn:=hK c (by rw[hd];simp);have w1:IntKind.i64.wrap ((pre.length:Int)+1)=(pre.length:Int)+1:=au (by unfold aX;omega);simp only[bh]at h1;unfold KS at hn;have key:cB (c::rest)=(eh c&&cB rest):=by rw[cB]
  rw[key];generalize eh c=N at*;rw[ah];cases N with
  |true=>
   simp[bY,Tryz.f46]at ih⊢;simp[aR,aV,hn,df,w1,ih]
  |false=>
   simp[bY,Tryz.f46];simp[aR,aV,hn,df,h1]
end
section
variable {x:Sm} {v:Nat} {k:Kt} {R1 R2:bS} {a b:AV}
theorem HF(hl:(ee x).length<100000000)(jY:∀l∈ee x,l.length<100000000)(h1:k .ret ⟨258,aC,[(2,true,.d (.bool false))],[⟨300,v,bh x⟩]⟩=R1)
 (h2:k (.exit 5) ⟨258,aC,[(0,true,a),(3,true,b),(4,true,.ptr 300 v 0),(14,true,.d (.int .i64 (ee x).length)),(205,true,.d (.bool false))],[⟨300,v,bh x⟩]⟩=R2):∀(rest pre:List (List Int)),ee x=pre++rest→
 aI ctx 46 (.loop (bY [1,0,1,0,0,1,0,0,1,1,1,1,1,1,1,1,1,0,1,0,0])) ⟨258,aC,[(0,true,a),(3,true,b),(4,true,.ptr 300 v 0),(14,true,.d (.int .i64 pre.length))],[⟨300,v,bh x⟩]⟩ k=if rest.all pq=true then R2 else R1
 |[],pre,hd=>by
  have cf:pre.length=(ee x).length:=by rw[hd];simp
  simp only[bh]at h2;rw[cf,ah];simp[bY,Tryz.f46,h2]
 |c::rest,pre,hd=>by
  have aR:pre.length<(ee x).length:=by rw[hd];simp
  have aV:(ee x)[pre.length]=c:=by simp[hd]
  have aO:=jY c (by rw[hd];simp);have ih:=HF hl jY h1 h2 rest (pre++[c]) (by simp[hd]);have w1:IntKind.i64.wrap ((pre.length:Int)+1)=(pre.length:Int)+1:=au (by unfold aX;omega);have cD:=fun k R1 R2 h1 h2=>HD (a:=a) (b:=b) (v:=v) (k:=k) (R1:=R1) (R2:=R2) aR aV aO h1 h2 c [] rfl;simp only[bh]at h1;rw[List.all_cons];have key:pq c=(!decide (c.length=0)&&(decide (c.length%2=0)&&c.all fun n=>decide (n≠ -9223372036854775808))):=rfl;rw[key];generalize (c.all fun n=>decide (n≠ -9223372036854775808))=B at*;rw[ah];have ht:((c.length:Int)).tmod 2=((c.length%2:Nat):Int):=(Int.ofNat_tmod c.length 2).symm;by_cases h0:c.length=0
  ·have gR:c=[]:=List.eq_nil_of_length_eq_zero h0;simp[bY,Tryz.f46];simp[aR,aV,mC,h0,gR,h1]
  ·have gR:¬c=[]:=fun h=>h0 (by rw[h];rfl);by_cases hp:c.length%2=1
   ·have Gy:¬c.length%2=0:=by omega
    rw[hp]at ht;simp[bY,Tryz.f46];simp[aR,aV,mC,h0,gR,hp,Gy,ht,h1]
   ·have Gy:c.length%2=0:=by omega
    rw[Gy]at ht;simp[bY,Tryz.f46]at ih cD⊢;simp[aR,aV,mC,h0,gR,hp,Gy,ht];rw[cD];cases B<;>simp[h1,w1,ih]
end
section
variable {x:Sm} {v:Nat} {k:Kt} {R1 R2:bS} {a b:AV}
theorem aoQ(hl:(dR x).length<100000000)(h1:k .ret ⟨258,aC,[(2,true,.d (.bool false))],[⟨300,v,bh x⟩]⟩=R1):
 aI ctx 46 (bY [1,0,1,0,0,1,0,0,1,1,1,1,1,1,1,1,0]) ⟨258,aC,[(0,true,a),(3,true,b),(4,true,.ptr 300 v 0),(186,true,.d (.bool false))],[⟨300,v,bh x⟩]⟩ k=
 if (dR x).all da=true then k .normal ⟨258,aC,[(0,true,a),(3,true,b),(4,true,.ptr 300 v 0),(13,true,.d (.int .i64 (dR x).length)),(191,true,.d (.bool false))],[⟨300,v,bh x⟩]⟩else R1:=by
 have cD:=fun k R1 R2 h1 h2=>HA (a:=a) (b:=b) (v:=v) (k:=k) (R1:=R1) (R2:=R2) hl h1 h2 (dR x) [] rfl;simp only[bh]at h1;generalize (dR x).all da=B at*;simp[bY,Tryz.f46]at cD⊢;rw[cD];cases B<;>simp[h1]
theorem aoR(hl:(ee x).length<100000000)(jY:∀l∈ee x,l.length<100000000)(h1:k .ret ⟨258,aC,[(2,true,.d (.bool false))],[⟨300,v,bh x⟩]⟩=R1){d1 d2:AV}:
 aI ctx 46 (bY [1,0,1,0,0,1,0,0,1,1,1,1,1,1,1,1,1,0]) ⟨258,aC,[(0,true,a),(3,true,b),(4,true,.ptr 300 v 0),(13,true,d1),(191,true,d2)],[⟨300,v,bh x⟩]⟩ k=
 if (ee x).all pq=true then k .normal ⟨258,aC,[(0,true,a),(3,true,b),(4,true,.ptr 300 v 0),(14,true,.d (.int .i64 (ee x).length)),(205,true,.d (.bool false))],[⟨300,v,bh x⟩]⟩else R1:=by
 have cD:=fun k R1 R2 h1 h2=>HF (a:=a) (b:=b) (v:=v) (k:=k) (R1:=R1) (R2:=R2) hl jY h1 h2 (ee x) [] rfl;simp only[bh]at h1;generalize (ee x).all pq=B at*;simp[bY,Tryz.f46]at cD⊢;rw[cD];cases B<;>simp[h1]
theorem aoS(hl:(bj x).length<100000000)(hK:∀c∈bj x,KS c)(h1:k .ret ⟨258,aC,[(2,true,.d (.bool false))],[⟨300,v,bh x⟩]⟩=R1){d1 d2:AV}:
 aI ctx 46 (bY [1,0,1,0,0,1,0,0,1,1,1,1,1,1,1,1,1,1]) ⟨258,aC,[(0,true,a),(3,true,b),(4,true,.ptr 300 v 0),(14,true,d1),(205,true,d2)],[⟨300,v,bh x⟩]⟩ k=
 if cB (bj x)=true then k .normal ⟨258,aC,[(0,true,a),(3,true,b),(4,true,.ptr 300 v 0),(16,true,.d (.int .i64 (bj x).length)),(248,true,.d (.bool false))],[⟨300,v,bh x⟩]⟩else R1:=by
 have cD:=fun k R1 R2 h1 h2=>HE (a:=a) (b:=b) (v:=v) (k:=k) (R1:=R1) (R2:=R2) hl hK h1 h2 (bj x) [] rfl;simp only[bh]at h1;generalize cB (bj x)=B at*;simp[bY,Tryz.f46]at cD⊢;rw[cD];cases B<;>simp[h1]
theorem aoT:aI ctx 46 (bY [1,0,1,0,0,1,0,0,1,0]) ⟨258,aC,[(0,true,a),(3,true,b),(4,true,.ptr 300 v 0)],[⟨300,v,bh x⟩]⟩ k=
 k .normal ⟨258,aC,[(0,true,a),(3,true,b),(4,true,.ptr 300 v 0),(5,true,.d (.bool (decide (bu x=4∨bu x=9)))),(6,true,.d (.bool (decide (bu x=1)))),(7,true,.d (.bool (decide (bu x=1∨bu x=3∨bu x=5∨bu x=6))))],[⟨300,v,bh x⟩]⟩:=by
 have hs:=VA (bu x);simp[bY,Tryz.f46];simp[hs]
end
def Dy(x:Sm):Bool:=decide (((cy x).length:Int)=oR x∧((ee x).length:Int)=oS x∧((dR x).length:Int)=ly x∧¬((bj x).length:Int)<iR x∧¬iR x+jd x<((bj x).length:Int))
theorem P5(x:Sm):Dy x=bG (bu x) (cy x).length (ee x).length (dR x).length (bj x).length:=by
 unfold Dy bG oR oS ly iR jd yB;generalize bu x=o;generalize (cy x).length=n1;generalize (ee x).length=n2;generalize (dR x).length=n3;generalize (bj x).length=n4;rw[Bool.eq_iff_iff];by_cases h2:o=2
 ·subst h2;by_cases h:(1:Int)<n1
  ·simp[h];omega
  ·simp[h];omega
 ·by_cases h3:o=3
  ·subst h3;simp;omega
  ·by_cases h4:o=4
   ·subst h4;simp;omega
   ·by_cases h5:o=5
    ·subst h5;simp;omega
    ·by_cases h6:o=6
     ·subst h6;simp;omega
     ·by_cases h9:o=9
      ·subst h9;simp;omega
      ·simp[h2,h3,h4,h5,h6,h9]
theorem ad1(x:Sm):iH x=(Hx x&&(Hy x&&(Dx x&&(Dy x&&((dR x).all da&&((ee x).all pq&&cB (bj x))))))):=by
 rw[P5];obtain⟨op,name,to,val,conds,labels,fields,blocks,line⟩:=x;unfold iH Hx Hy Dx;simp only[Bool.and_assoc];rfl
theorem YX(x:Ex):uU x↔((dA x).length<100000000∧(fq x).length<100000000∧(cN x).length<100000000)∧ow (cN x):=by
 obtain⟨op,nn,name,field,sub,line⟩:=x;simp only[uU,yz,Hr,m4]
mutual
def uV:Sm→Prop
 | .mk _ _ to val conds labels fields blocks _=>(uU to∧uU val∧(conds.length<100000000∧ow conds)∧(labels.length<100000000∧∀l∈labels,l.length<100000000)∧fields.length<100000000∧blocks.length<100000000)∧lX blocks
def kD:List Sm→Prop
 |[]=>True
 |x::r=>uV x∧kD r
def lX:List (List Sm)→Prop
 |[]=>True
 |b::r=>(b.length<100000000∧kD b)∧lX r
end
def uW(x:Sm):Prop:=uU (eI x)∧uU (dM x)∧((cy x).length<100000000∧ow (cy x))∧((ee x).length<100000000∧∀l∈ee x,l.length<100000000)∧(dR x).length<100000000∧(bj x).length<100000000
theorem YY(x:Sm):uV x↔uW x∧lX (bj x):=by
 obtain⟨op,name,to,val,conds,labels,fields,blocks,line⟩:=x;unfold uV uW;rfl
theorem VB(x:Sm):cX x=[]∨cX x=[(144,true,.d (.bool false))]:=by
 unfold cX;split
 ·exact .inl rfl
 ·exact .inr rfl
theorem aio{x:Sm}(h:uW x):IntKind.i64.wrap (iR x+jd x)=iR x+jd x:=by
 obtain⟨_,_,⟨h1,_⟩,⟨h2,_⟩,_,_⟩:=h;apply au;have a1:0≤iR x∧iR x<200000000:=by
  unfold iR yB;split
  ·split<;>omega
  ·split
   ·omega
   ·split<;>omega
 have a2:0≤jd x∧jd x≤1:=by
  unfold jd;split<;>omega
 unfold aX;omega
section
variable {x:Sm} {v:Nat} {k:Kt} {R1:bS} {a b:AV}
theorem ad2(hx:uW x)(hK:∀c∈bj x,KS c)(h1:k .ret ⟨258,aC,[(2,true,.d (.bool false))],[⟨300,v,bh x⟩]⟩=R1):
 aI ctx 46 (bY [1,0,1,0,0,1,0,0,1]) ⟨258,aC,[(0,true,a),(3,true,b),(4,true,.ptr 300 v 0)],[⟨300,v,bh x⟩]⟩ k=
 if iH x=true then k .normal ⟨258,aC,[(0,true,a),(3,true,b),(4,true,.ptr 300 v 0),(16,true,.d (.int .i64 (bj x).length)),(248,true,.d (.bool false))],[⟨300,v,bh x⟩]⟩else R1:=by
 have e1:bY [1,0,1,0,0,1,0,0,1]=Code.seq (bY [1,0,1,0,0,1,0,0,1,0]) (bY [1,0,1,0,0,1,0,0,1,1]):=rfl;have e2:bY [1,0,1,0,0,1,0,0,1,1]=Code.seq (bY [1,0,1,0,0,1,0,0,1,1,0]) (bY [1,0,1,0,0,1,0,0,1,1,1]):=rfl;have e3:bY [1,0,1,0,0,1,0,0,1,1,1]=Code.seq (bY [1,0,1,0,0,1,0,0,1,1,1,0]) (bY [1,0,1,0,0,1,0,0,1,1,1,1]):=rfl;have e4:bY [1,0,1,0,0,1,0,0,1,1,1,1]=Code.seq (bY [1,0,1,0,0,1,0,0,1,1,1,1,0]) (bY [1,0,1,0,0,1,0,0,1,1,1,1,1]):=rfl;have e5:bY [1,0,1,0,0,1,0,0,1,1,1,1,1]=Code.seq (bY [1,0,1,0,0,1,0,0,1,1,1,1,1,0]) (bY [1,0,1,0,0,1,0,0,1,1,1,1,1,1]):=rfl;have e6:bY [1,0,1,0,0,1,0,0,1,1,1,1,1,1]=Code.seq (bY [1,0,1,0,0,1,0,0,1,1,1,1,1,1,0]) (bY [1,0,1,0,0,1,0,0,1,1,1,1,1,1,1]):=rfl;have e7:bY [1,0,1,0,0,1,0,0,1,1,1,1,1,1,1]=Code.seq (bY [1,0,1,0,0,1,0,0,1,1,1,1,1,1,1,0]) (bY [1,0,1,0,0,1,0,0,1,1,1,1,1,1,1,1]):=rfl;have e8:bY [1,0,1,0,0,1,0,0,1,1,1,1,1,1,1,1]=Code.seq (bY [1,0,1,0,0,1,0,0,1,1,1,1,1,1,1,1,0]) (bY [1,0,1,0,0,1,0,0,1,1,1,1,1,1,1,1,1]):=rfl;have e9:bY [1,0,1,0,0,1,0,0,1,1,1,1,1,1,1,1,1]=Code.seq (bY [1,0,1,0,0,1,0,0,1,1,1,1,1,1,1,1,1,0]) (bY [1,0,1,0,0,1,0,0,1,1,1,1,1,1,1,1,1,1]):=rfl;have hq:∀c,yo ctx 46 c k .ret ⟨258,aC,[(2,true,.d (.bool false))],[⟨300,v,bh x⟩]⟩=R1:=fun _=>h1;have hw:=aio hx;obtain⟨ht,hv,⟨hc,oI⟩,⟨tj,ad3⟩,hf,fG⟩:=hx;have kt:KF [eI x]:=A2 (l:=[eI x]) (by simp) ⟨ht,trivial⟩;have kv:KF [dM x]:=A2 (l:=[dM x]) (by simp) ⟨hv,trivial⟩;have kc:KF (cy x):=A2 hc oI;rw[ad1];rw[e1,denK_seq,aoT,seqK_n,e2,denK_seq,aoL (hq _)];cases Hx x
 ·rw[Bool.false_and,if_neg Bool.false_ne_true,if_neg Bool.false_ne_true]
 rw[if_pos rfl,Bool.true_and,seqK_n,e3,denK_seq,aoM (hq _) ((YX _).1 ht).1 kt];cases Hy x
 ·rw[Bool.false_and,if_neg Bool.false_ne_true,if_neg Bool.false_ne_true]
 rw[if_pos rfl,Bool.true_and,seqK_n,e4,denK_seq,aoN (hq _) rfl ((YX _).1 hv).1 kv kc];cases Dx x
 ·rw[Bool.false_and,if_neg Bool.false_ne_true,if_neg Bool.false_ne_true]
 rw[if_pos rfl,Bool.true_and,seqK_n,e5,denK_seq,aoO (X:=[]),seqK_n,e6,denK_seq,aoP,seqK_n,e7,denK_seq];have h6:∀kk:Kt,kk .ret ⟨258,aC,[(2,true,.d (.bool false))],[⟨300,v,bh x⟩]⟩=R1→aI ctx 46 (bY [1,0,1,0,0,1,0,0,1,1,1,1,1,1,1,0]) ⟨258,aC,[(0,true,a),(3,true,b),(4,true,.ptr 300 v 0),(8,true,.d (.int .i64 (oR x))),(9,true,.d (.int .i64 (oS x))),(10,true,.d (.int .i64 (ly x))),(11,true,.d (.int .i64 (iR x))),(12,true,.d (.int .i64 (jd x)))]++cX x,[⟨300,v,bh x⟩]⟩ kk=
  if Dy x=true then kk .normal ⟨258,aC,[(0,true,a),(3,true,b),(4,true,.ptr 300 v 0),(186,true,.d (.bool false))],[⟨300,v,bh x⟩]⟩else R1:=by
  intro kk hk;unfold Dy;rcases VB x with hX|hX
  ·rw[hX,List.append_nil,aim hk hw];simp only[decide_eq_true_eq]
  ·rw[hX];simp only[List.cons_append,List.nil_append];rw[ain hk hw];simp only[decide_eq_true_eq]
 rw[h6 _ (hq _)];cases Dy x
 ·rw[Bool.false_and,if_neg Bool.false_ne_true,if_neg Bool.false_ne_true]
 rw[if_pos rfl,Bool.true_and,seqK_n,e8,denK_seq,aoQ hf (hq _)];cases (dR x).all da
 ·rw[Bool.false_and,if_neg Bool.false_ne_true,if_neg Bool.false_ne_true]
 rw[if_pos rfl,Bool.true_and,seqK_n,e9,denK_seq,aoR tj ad3 (hq _)];cases (ee x).all pq
 ·rw[Bool.false_and,if_neg Bool.false_ne_true,if_neg Bool.false_ne_true]
 rw[if_pos rfl,Bool.true_and,seqK_n,aoS fG hK h1]
end
theorem HG(l:List Sm)(bn:l.length<100000000)(hS:∀x∈l,uW x)(hK:∀x∈l,∀c∈bj x,KS c)(k:Kt)(R1 R2:bS)
 (h1:∀v X,k .ret ⟨258,aC,[(2,true,.d (.bool false))],[⟨300,v,X⟩]⟩=R1)
 (h2:∀(Y:Env) v X,k (.exit 0) ⟨258,aC,Y,[⟨300,v,X⟩]⟩=R2):∀(rest pre:List Sm)(v:Nat)(X:aE),l=pre++rest→
 aI ctx 46 (.loop (bY [1,0,1,0,0])) ⟨258,aC,[(0,true,.d (.list (l.map b5))),(3,true,.d (.int .i64 pre.length))],[⟨300,v,X⟩]⟩ k=if eh rest=true then R2 else R1
 |[],pre,v,X,hd=>by
  have cf:pre.length=l.length:=by rw[hd];simp
  rw[cf,ah];simp[bY,Tryz.f46,h2,eh]
 |x::rest,pre,v,X,hd=>by
  have aR:pre.length<l.length:=by rw[hd];simp
  have aV:l[pre.length]=x:=by simp[hd]
  have hm:x∈l:=by rw[hd];simp
  have hb:=fun (v:Nat) (a b:AV) (k:Kt)=>ad2 (v:=v) (a:=a) (b:=b) (k:=k) (hS x hm) (hK x hm) rfl;have ih:∀v X,aI ctx 46 (.loop (bY [1,0,1,0,0])) ⟨258,aC,[(0,true,.d (.list (l.map b5))),(3,true,.d (.int .i64 (pre.length+1)))],[⟨300,v,X⟩]⟩ k=if eh rest=true then R2 else R1:=fun v X=>by
   have:=HG l bn hS hK k R1 R2 h1 h2 rest (pre++[x]) v X (by simp[hd]);simpa using this
  have w1:IntKind.i64.wrap ((pre.length:Int)+1)=(pre.length:Int)+1:=au (by unfold aX;omega);have key:eh (x::rest)=(iH x&&eh rest):=by rw[eh]
  rw[key];generalize iH x=N at*;generalize eh rest=M at*;rw[ah];simp[bY,Tryz.f46]at hb ih⊢;simp[aR,aV,ef];simp[hb];cases N<;>simp[h1,w1,ih]
theorem SU{l:List Sm}(bn:l.length<100000000)(hS:∀x∈l,uW x)(hK:∀x∈l,∀c∈bj x,KS c):KS l:=by
 have h:=fun k R1 R2 h1 h2 v X=>HG l bn hS hK k R1 R2 h1 h2 l [] v X rfl;unfold KS;rw[ah1 (by simp)];simp[bY,Tryz.f46]at h⊢;rw[h _ (some (.ret (.d (.bool false)),[])) (some (.ret (.d (.bool true)),[]))]
 ·cases eh l<;>simp
 ·intro v X;simp
 ·intro Y v X;simp
mutual
theorem ad4:∀x:Sm,uV x→uW x∧∀c∈bj x,KS c
 | .mk op name to val conds labels fields blocks line,h=>by
  have h:=(YY _).1 h;exact⟨h.1,MO blocks h.2⟩
theorem zv:∀l:List Sm,kD l→∀x∈l,uW x∧∀c∈bj x,KS c
 |[],_,x,hx=>by simp at hx
 |y::r,h,x,hx=>by
  simp only[kD]at h;have h1:=ad4 y h.1;have h2:=zv r h.2;rcases List.mem_cons.1 hx with e|hx
  ·rw[e];exact h1
  ·exact h2 x hx
theorem MO:∀l:List (List Sm),lX l→∀c∈l,KS c
 |[],_,c,hc=>by simp at hc
 |b::r,h,c,hc=>by
  simp only[lX]at h;have h1:=zv b h.1.2;have h2:=MO r h.2;rcases List.mem_cons.1 hc with e|hc
  ·rw[e];exact SU h.1.1 (fun x hx=>(h1 x hx).1) (fun x hx=>(h1 x hx).2)
  ·exact h2 c hc
end
theorem VC{l:List Sm}(bn:l.length<100000000)(h:kD l):KS l:=
 SU bn (fun x hx=>(zv l h x hx).1) (fun x hx=>(zv l h x hx).2)
theorem aoU:ai ctx 73 [.d (.int .i64 10)] []=some (.ret (.d (.list ((bC 10).map cW))),[]):=bB 120 (by kernel_rfl)
theorem aoV:ai ctx 73 [.d (.int .i64 11)] []=some (.ret (.d (.list ((bC 11).map cW))),[]):=bB 120 (by kernel_rfl)
theorem aoW:ai ctx 73 [.d (.int .i64 12)] []=some (.ret (.d (.list ((bC 12).map cW))),[]):=bB 120 (by kernel_rfl)
theorem aoX:ai ctx 73 [.d (.int .i64 13)] []=some (.ret (.d (.list ((bC 13).map cW))),[]):=bB 120 (by kernel_rfl)
theorem aoY:ai ctx 73 [.d (.int .i64 14)] []=some (.ret (.d (.list ((bC 14).map cW))),[]):=bB 120 (by kernel_rfl)
theorem aoZ:ai ctx 73 [.d (.int .i64 15)] []=some (.ret (.d (.list ((bC 15).map cW))),[]):=bB 120 (by kernel_rfl)
theorem ao0:ai ctx 73 [.d (.int .i64 16)] []=some (.ret (.d (.list ((bC 16).map cW))),[]):=bB 120 (by kernel_rfl)
theorem ao1:ai ctx 73 [.d (.int .i64 17)] []=some (.ret (.d (.list ((bC 17).map cW))),[]):=bB 120 (by kernel_rfl)
theorem ao2:ai ctx 73 [.d (.int .i64 18)] []=some (.ret (.d (.list ((bC 18).map cW))),[]):=bB 120 (by kernel_rfl)
theorem ao3:ai ctx 73 [.d (.int .i64 19)] []=some (.ret (.d (.list ((bC 19).map cW))),[]):=bB 120 (by kernel_rfl)
theorem ao4:ai ctx 73 [.d (.int .i64 20)] []=some (.ret (.d (.list ((bC 20).map cW))),[]):=bB 120 (by kernel_rfl)
theorem ao5:ai ctx 73 [.d (.int .i64 21)] []=some (.ret (.d (.list ((bC 21).map cW))),[]):=bB 120 (by kernel_rfl)
theorem ao6:ai ctx 73 [.d (.int .i64 22)] []=some (.ret (.d (.list ((bC 22).map cW))),[]):=bB 120 (by kernel_rfl)
theorem ao7:ai ctx 73 [.d (.int .i64 23)] []=some (.ret (.d (.list ((bC 23).map cW))),[]):=bB 120 (by kernel_rfl)
theorem ao8:ai ctx 73 [.d (.int .i64 24)] []=some (.ret (.d (.list ((bC 24).map cW))),[]):=bB 120 (by kernel_rfl)
theorem ao9:ai ctx 73 [.d (.int .i64 25)] []=some (.ret (.d (.list ((bC 25).map cW))),[]):=bB 120 (by kernel_rfl)
theorem apa:ai ctx 73 [.d (.int .i64 26)] []=some (.ret (.d (.list ((bC 26).map cW))),[]):=bB 120 (by kernel_rfl)
theorem apb:ai ctx 73 [.d (.int .i64 27)] []=some (.ret (.d (.list ((bC 27).map cW))),[]):=bB 120 (by kernel_rfl)
theorem apc:ai ctx 73 [.d (.int .i64 28)] []=some (.ret (.d (.list ((bC 28).map cW))),[]):=bB 120 (by kernel_rfl)
theorem apd:ai ctx 73 [.d (.int .i64 29)] []=some (.ret (.d (.list ((bC 29).map cW))),[]):=bB 120 (by kernel_rfl)
theorem ape:ai ctx 73 [.d (.int .i64 30)] []=some (.ret (.d (.list ((bC 30).map cW))),[]):=bB 120 (by kernel_rfl)
theorem apf:ai ctx 73 [.d (.int .i64 31)] []=some (.ret (.d (.list ((bC 31).map cW))),[]):=bB 120 (by kernel_rfl)
abbrev Rw:=Int×Tx×Tx×List Tx
def CD:List Rw:=[
 (10,[84,79,78],[105,73,111,79],[[73,78],[80,84],[81],[69,84]]),
 (11,[84,79,70],[105,73,111,79],[[73,78],[80,84],[81],[69,84]]),
 (12,[84,80],[105,73,111,79,46,46],[[73,78],[80,84],[81],[69,84]]),
 (13,[67,84,85],[105,105,73,111,79,46],[[67,85],[82],[80,86],[81],[67,86]]),
 (14,[67,84,68],[105,105,73,111,79,46],[[67,68],[76,68],[80,86],[81],[67,86]]),
 (15,[82,95,84,82,73,71],[105,111,46],[[67,76,75],[81]]),
 (16,[70,95,84,82,73,71],[105,111,46],[[67,76,75],[81]]),
 (17,[83,82],[105,105,111],[[83,49],[82],[81,49]]),
 (18,[82,83],[105,105,111],[[83],[82,49],[81,49]]),
 (20,[77,67,95,80,111,119,101,114],[73,105,111,111],[[65,120,105,115],[69,110,97,98,108,101],[83,116,97,116,117,115],[69,114,114,111,114]]),
 (21,[77,67,95,72,111,109,101],[73,105,111,111,111,111,111,46,46],[[65,120,105,115],[69,120,101,99,117,116,101],[68,111,110,101],[66,117,115,121],[65,99,116,105,118,101],[67,111,109,109,97,110,100,65,98,111,114,116,101,100],[69,114,114,111,114]]),
 (22,[77,67,95,83,116,111,112],[73,105,111,111,111,111,111,46,46],[[65,120,105,115],[69,120,101,99,117,116,101],[68,111,110,101],[66,117,115,121],[65,99,116,105,118,101],[67,111,109,109,97,110,100,65,98,111,114,116,101,100],[69,114,114,111,114]]),
 (23,[77,67,95,72,97,108,116],[73,105,111,111,111,111,111,46,46],[[65,120,105,115],[69,120,101,99,117,116,101],[68,111,110,101],[66,117,115,121],[65,99,116,105,118,101],[67,111,109,109,97,110,100,65,98,111,114,116,101,100],[69,114,114,111,114]]),
 (24,[77,67,95,77,111,118,101,65,98,115,111,108,117,116,101],[73,105,73,73,73,111,111,111,111,111,46,46],[[65,120,105,115],[69,120,101,99,117,116,101],[80,111,115,105,116,105,111,110],[86,101,108,111,99,105,116,121],[66,117,102,102,101,114,77,111,100,101],[68,111,110,101],[66,117,115,121],[65,99,116,105,118,101],[67,111,109,109,97,110,100,65,98,111,114,116,101,100],[69,114,114,111,114]]),
 (25,[77,67,95,77,111,118,101,82,101,108,97,116,105,118,101],[73,105,73,73,73,111,111,111,111,111,46,46],[[65,120,105,115],[69,120,101,99,117,116,101],[68,105,115,116,97,110,99,101],[86,101,108,111,99,105,116,121],[66,117,102,102,101,114,77,111,100,101],[68,111,110,101],[66,117,115,121],[65,99,116,105,118,101],[67,111,109,109,97,110,100,65,98,111,114,116,101,100],[69,114,114,111,114]]),
 (26,[77,67,95,77,111,118,101,65,100,100,105,116,105,118,101],[73,105,73,73,73,111,111,111,111,111,46,46],[[65,120,105,115],[69,120,101,99,117,116,101],[68,105,115,116,97,110,99,101],[86,101,108,111,99,105,116,121],[66,117,102,102,101,114,77,111,100,101],[68,111,110,101],[66,117,115,121],[65,99,116,105,118,101],[67,111,109,109,97,110,100,65,98,111,114,116,101,100],[69,114,114,111,114]]),
 (27,[77,67,95,77,111,118,101,86,101,108,111,99,105,116,121],[73,105,73,111,111,111,111,111,46,46],[[65,120,105,115],[69,120,101,99,117,116,101],[86,101,108,111,99,105,116,121],[73,110,86,101,108,111,99,105,116,121],[66,117,115,121],[65,99,116,105,118,101],[67,111,109,109,97,110,100,65,98,111,114,116,101,100],[69,114,114,111,114]]),
 (28,[77,67,95,71,101,97,114,73,110],[73,105,73,73,73,111,111,111,111,111,46,46],[[65,120,105,115],[69,120,101,99,117,116,101],[77,97,115,116,101,114],[78,117,109,101,114,97,116,111,114],[68,101,110,111,109,105,110,97,116,111,114],[73,110,71,101,97,114],[66,117,115,121],[65,99,116,105,118,101],[67,111,109,109,97,110,100,65,98,111,114,116,101,100],[69,114,114,111,114]]),
 (29,[77,67,95,82,101,115,101,116],[73,105,111,111,46],[[65,120,105,115],[69,120,101,99,117,116,101],[68,111,110,101],[69,114,114,111,114]]),
 (30,[77,67,95,83,101,116,80,111,115,105,116,105,111,110],[73,105,73,111,111,46],[[65,120,105,115],[69,120,101,99,117,116,101],[80,111,115,105,116,105,111,110],[68,111,110,101],[69,114,114,111,114]]),
 (31,[77,67,95,83,101,116,79,118,101,114,114,105,100,101],[73,105,73,111],[[65,120,105,115],[69,110,97,98,108,101],[80,101,114,99,101,110,116],[69,110,97,98,108,101,100]])]
def YZ(r:Rw):D:=.agg [.int .i64 r.1,.str r.2.1,.str r.2.2.1,.list (r.2.2.2.map .str)]
theorem ad5:ai ctx 85 [] []=some (.ret (.d (.list (CD.map YZ))),[]):=bB 120 (by kernel_rfl)
def uh(k:Int):List Rw→Tx
 |[]=>[]
 |r::l=>if r.1=k then r.2.1 else uh k l
theorem MP(q:Int)(l:List Rw)(hl:l.length<1000)(k:Kt)(RF:Tx→bS)
 (h1:∀t,k .ret ⟨24,aC,[(2,true,.d (.str t))],[]⟩=RF t)
 (h2:∀Y:Env,k (.exit 0) ⟨24,aC,Y,[]⟩=RF []):∀(rest pre:List Rw),l=pre++rest→
 aI ctx 45 (.loop (Code.at (aY Tryz.f45) [1,1,0,1,0,0])) ⟨24,aC,[(0,true,.d (.int .i64 q)),(3,true,.d (.list (l.map YZ))),(4,true,.d (.int .i64 pre.length))],[]⟩ k=RF (uh q rest)
 |[],pre,hd=>by
  have cf:pre.length=l.length:=by rw[hd];simp
  rw[cf,ah];simp[Tryz.f45,h2,uh]
 |x::rest,pre,hd=>by
  have aR:pre.length<l.length:=by rw[hd];simp
  have aV:l[pre.length]=x:=by simp[hd]
  have ih:=MP q l hl k RF h1 h2 rest (pre++[x]) (by simp[hd]);have w1:IntKind.i64.wrap ((pre.length:Int)+1)=(pre.length:Int)+1:=au (by unfold aX;omega);rw[ah];by_cases hq:x.1=q
  ·simp[Tryz.f45];simp[aR,aV,YZ,hq,h1,uh]
  ·simp[Tryz.f45]at ih⊢;simp[aR,aV,YZ,hq,w1,ih,uh]
theorem apg(q:Int):ai ctx 45 [.d (.int .i64 q)] []=some (.ret (.d (.str (uh q CD))),[]):=by
 have h:=fun k RF h1 h2=>MP q CD (by decide) k RF h1 h2 CD [] rfl;have hr:=ad5;rw[ah0 (by simp)];generalize CD=l at*;simp[Tryz.f45]at h⊢;simp[hr];rw[h _ (fun t=>some (.ret (.d (.str t)),[])) (by simp) (by simp)]
theorem ZO(q:Int):(uh q CD=[])↔om q=false:=by
 by_cases h:10≤q∧q≤31
 ·have:q=10∨q=11∨q=12∨q=13∨q=14∨q=15∨q=16∨q=17∨q=18∨q=19∨q=20∨q=21∨q=22∨q=23∨q=24∨q=25∨q=26∨q=27∨q=28∨q=29∨q=30∨q=31:=by omega
  rcases this with h|h|h|h|h|h|h|h|h|h|h|h|h|h|h|h|h|h|h|h|h|h<;>subst h<;>decide
 ·have e:∀n:Int,10≤n→n≤31→¬n=q:=fun n a b c=>h (by omega);have e1:bC q=[]:=by
   unfold bC Hs;simp only[rl];rw[if_neg (e _ (by decide) (by decide)),if_neg (e _ (by decide) (by decide)),if_neg (e _ (by decide) (by decide)),if_neg (e _ (by decide) (by decide)),if_neg (e _ (by decide) (by decide)),if_neg (e _ (by decide) (by decide)),if_neg (e _ (by decide) (by decide)),if_neg (e _ (by decide) (by decide)),if_neg (e _ (by decide) (by decide)),if_neg (e _ (by decide) (by decide)),if_neg (e _ (by decide) (by decide)),if_neg (e _ (by decide) (by decide)),if_neg (e _ (by decide) (by decide)),if_neg (e _ (by decide) (by decide)),if_neg (e _ (by decide) (by decide)),if_neg (e _ (by decide) (by decide)),if_neg (e _ (by decide) (by decide)),if_neg (e _ (by decide) (by decide)),if_neg (e _ (by decide) (by decide)),if_neg (e _ (by decide) (by decide)),if_neg (e _ (by decide) (by decide))]
  have e2:uh q CD=[]:=by
   unfold CD;simp only[uh];rw[if_neg (e _ (by decide) (by decide)),if_neg (e _ (by decide) (by decide)),if_neg (e _ (by decide) (by decide)),if_neg (e _ (by decide) (by decide)),if_neg (e _ (by decide) (by decide)),if_neg (e _ (by decide) (by decide)),if_neg (e _ (by decide) (by decide)),if_neg (e _ (by decide) (by decide)),if_neg (e _ (by decide) (by decide)),if_neg (e _ (by decide) (by decide)),if_neg (e _ (by decide) (by decide)),if_neg (e _ (by decide) (by decide)),if_neg (e _ (by decide) (by decide)),if_neg (e _ (by decide) (by decide)),if_neg (e _ (by decide) (by decide)),if_neg (e _ (by decide) (by decide)),if_neg (e _ (by decide) (by decide)),if_neg (e _ (by decide) (by decide)),if_neg (e _ (by decide) (by decide)),if_neg (e _ (by decide) (by decide)),if_neg (e _ (by decide) (by decide))]
  rw[e2];unfold om;rw[e1];simp
section
variable {vs:List Vr} {n:Int} (hl:vs.length<1000000) (cS:∀v∈vs,dj v=true)
def SV(vs:List Vr)(x:Sm):EL:=match aZ vs (gU x)with
 |none=>(9,kC x)
 |some v=>if v.ty≤2 then (10,kC x)else gQ vs v.ty (kC x) (dR x) (cy x) []
def coE(vs:List Vr)(x:Sm):EL:=match aZ vs (gU x)with
 |none=>(9,kC x)
 |some v=>if v.sec=1 then (1,kC x)else if v.arr=true∨v.ty≠1 then (10,kC x)else eX (jH vs 1 (cy x)) (sm vs (bj x))
include hl cS
end
theorem rn(vs:List Vr)(lp:Bool)(x:Sm):jk vs lp x=
 if bu x=1 then Ae vs (eI x) (dM x) (kC x)
 else if bu x=2 then fu vs lp (cy x) (bj x)
 else if bu x=3 then eX (dn vs (dM x) 1) (fu vs lp [] (bj x))
 else if bu x=4 then coE vs x
 else if bu x=5 then eX (dn vs (dM x) 2) (sm vs (bj x))
 else if bu x=6 then eX (sm vs (bj x)) (dn vs (dM x) 2)
 else if bu x=7 then (if lp=true then (0,0)else (14,kC x))
 else if bu x=9 then SV vs x
 else (0,0):=by
 obtain⟨op,name,to,val,conds,labels,fields,blocks,line⟩:=x;unfold jk coE SV;rfl
mutual
def MQ:Sm→Nat
 | .mk _ _ _ _ conds labels fields blocks _=>1+conds.length+labels.length+fields.length+ui blocks
def qC:List Sm→Nat
 |[]=>0
 |x::r=>MQ x+qC r
def ui:List (List Sm)→Nat
 |[]=>0
 |b::r=>qC b+1+ui r
end
theorem A3:∀l:List Sm,l.length≤qC l
 |[]=>by simp[qC]
 | .mk _ _ _ _ c lb f bl _::r=>by have:=A3 r;simp only[qC,MQ,List.length_cons];omega
theorem HH:∀l:List (List Sm),l.length≤ui l
 |[]=>by simp[ui]
 |b::r=>by have:=HH r;simp only[ui,List.length_cons];omega
section
variable {vs:List Vr} {n:Int} (hl:vs.length<1000000) (cS:∀v∈vs,dj v=true)
end
section
variable {vs:List Vr} {n:Int} (hl:vs.length<1000000) (cS:∀v∈vs,dj v=true)
theorem kU{a b:EL}(h:a.1=0):eX a b=b:=by unfold eX;rw[if_neg (by simp[h])]
theorem oy{a b:EL}(h:¬a.1=0):eX a b=a:=by unfold eX;rw[if_pos h]
include hl cS
end
def dG(e:EL):EL:=if e.1=0 then (0,0)else e
@[reducible] noncomputable def fI(p:List Nat):Code:=Code.at (aY Tryz.f18) p
def SW(w:Vr):Bool:=da w.name&&decide (0≤w.sec∧w.sec≤2)
def SX(w:Vr):Bool:=decide (w.ty=1∨w.ty=2)||om w.ty
def SY(w:Vr):Bool:=if w.arr=true then decide (w.ty≤2∧0≤w.lo∧w.lo≤w.hi∧w.hi≤255)else decide (w.lo=0∧w.hi=0)
def Y0(w:Vr):Bool:=!decide (((w.arr=true∨2<w.ty)∧w.init≠0)∨(w.ty=2∧(w.init<0∨1<w.init))∨w.init= -9223372036854775808)
theorem ad7(w:Vr):dj w=(SW w&&(SX w&&(SY w&&Y0 w))):=by
 unfold dj SW SX SY Y0;simp only[Bool.and_assoc]
section
variable {w:Vr} {v:Nat} {k:Kt} {R1:bS} {a b:AV} {B:aE} (hr:k .ret ⟨129,aC,[(2,true,.d (.bool false))],[⟨150,1,B⟩,⟨300,v,ie w⟩]⟩=R1)
include hr
theorem aip:aI ctx 18 (fI [1,1,0,1,0,0,1,0,0,1,0]) ⟨129,aC,[(1,true,a),(3,true,b),(4,true,.ptr 300 v 0)],[⟨150,1,B⟩,⟨300,v,ie w⟩]⟩ k=
 if SW w=true then k .normal ⟨129,aC,[(1,true,a),(3,true,b),(4,true,.ptr 300 v 0),(40,true,.d (.bool false))],[⟨150,1,B⟩,⟨300,v,ie w⟩]⟩else R1:=by
 have hn:=eL w.name;unfold SW;simp only[ie]at hr;generalize da w.name=N at*;cases N with
 |false=>(simp[fI,Tryz.f18];simp[hn,hr])
 |true=>
  by_cases h1:w.sec<0
  ·have h2:¬0≤w.sec:=by omega
   (simp[fI,Tryz.f18];simp[hn,h1,h2,hr])
  ·have h2:0≤w.sec:=by omega
   by_cases h3:2<w.sec
   ·have h4:¬w.sec≤2:=by omega
    (simp[fI,Tryz.f18];simp[hn,h1,h2,h3,h4,hr])
   ·have h4:w.sec≤2:=by omega
    (simp[fI,Tryz.f18];simp[hn,h1,h2,h3,h4,hr])
theorem aiq{d:AV}:aI ctx 18 (fI [1,1,0,1,0,0,1,0,0,1,1,0]) ⟨129,aC,[(1,true,a),(3,true,b),(4,true,.ptr 300 v 0),(40,true,d)],[⟨150,1,B⟩,⟨300,v,ie w⟩]⟩ k=
 if SX w=true then k .normal ⟨129,aC,[(1,true,a),(3,true,b),(4,true,.ptr 300 v 0),(54,true,.d (.bool false))],[⟨150,1,B⟩,⟨300,v,ie w⟩]⟩else R1:=by
 have hn:=apg w.ty;have hq:=ZO w.ty;unfold SX;simp only[ie]at hr;generalize uh w.ty CD=T at*;generalize om w.ty=Q at*;by_cases h1:w.ty=1
 ·(simp only[h1]at hr⊢;simp[fI,Tryz.f18];simp[h1])
 ·by_cases h2:w.ty=2
  ·(simp only[h2]at hr⊢;simp[fI,Tryz.f18];simp[h2])
  ·by_cases hT:T=[]
   ·have hQ:=hq.1 hT
    (simp[fI,Tryz.f18];simp[hn,h1,h2,hT,hQ,hr])
   ·have hQ:Q=true:=by cases Q with|true=>rfl|false=>exact absurd (hq.2 rfl) hT
    (simp[fI,Tryz.f18];simp[hn,h1,h2,hT,hQ,hr])
theorem air{d:AV}:aI ctx 18 (fI [1,1,0,1,0,0,1,0,0,1,1,1,0]) ⟨129,aC,[(1,true,a),(3,true,b),(4,true,.ptr 300 v 0),(54,true,d)],[⟨150,1,B⟩,⟨300,v,ie w⟩]⟩ k=
 if SY w=true then k .normal ⟨129,aC,[(1,true,a),(3,true,b),(4,true,.ptr 300 v 0),(93,true,.d (.bool false))],[⟨150,1,B⟩,⟨300,v,ie w⟩]⟩else R1:=by
 unfold SY;simp only[ie]at hr;obtain⟨name,ty,sec,arr,lo,hi,init,line⟩:=w;simp only at hr⊢;cases arr with
 |false=>
  by_cases h1:lo=0
  ·by_cases h2:hi=0
   ·(simp[fI,Tryz.f18];simp[h1,h2,hr])
   ·(simp only[h1]at hr;simp[fI,Tryz.f18];simp[h1,h2,hr])
  ·(simp[fI,Tryz.f18];simp[h1,hr])
 |true=>
  by_cases h1:2<ty
  ·have qJ:¬ty≤2:=by omega
   (simp[fI,Tryz.f18];simp[h1,qJ,hr])
  ·have qJ:ty≤2:=by omega
   by_cases h2:lo<0
   ·have SZ:¬0≤lo:=by omega
    (simp[fI,Tryz.f18];simp[h1,qJ,h2,SZ,hr])
   ·have SZ:0≤lo:=by omega
    by_cases h3:hi<lo
    ·have oT:¬lo≤hi:=by omega
     (simp[fI,Tryz.f18];simp[h1,qJ,h2,SZ,h3,oT,hr])
    ·have oT:lo≤hi:=by omega
     by_cases h4:255<hi
     ·have EM:¬hi≤255:=by omega
      (simp[fI,Tryz.f18];simp[h1,qJ,h2,SZ,h3,oT,h4,EM,hr])
     ·have EM:hi≤255:=by omega
      (simp[fI,Tryz.f18];simp[h1,qJ,h2,SZ,h3,oT,h4,EM,hr])
theorem ais{d:AV}:aI ctx 18 (fI [1,1,0,1,0,0,1,0,0,1,1,1,1]) ⟨129,aC,[(1,true,a),(3,true,b),(4,true,.ptr 300 v 0),(93,true,d)],[⟨150,1,B⟩,⟨300,v,ie w⟩]⟩ k=
 if Y0 w=true then k .normal ⟨129,aC,[(1,true,a),(3,true,b),(125,true,.d (.bool false))],[⟨150,1,B⟩,⟨300,v,ie w⟩]⟩else R1:=by
 unfold Y0;simp only[ie]at hr;obtain⟨name,ty,sec,arr,lo,hi,init,line⟩:=w;simp only at hr⊢;cases arr with
 |true=>
  by_cases h2:init=0
  ·subst h2;by_cases h3:ty=2
   ·subst h3;(simp[fI,Tryz.f18];all_goals simp[hr])
   ·(simp[fI,Tryz.f18];all_goals simp[h3,hr])
  ·(simp[fI,Tryz.f18];all_goals simp[h2,hr])
 |false=>
  by_cases h1:2<ty
  ·have h3:¬ty=2:=by omega
   have qJ:¬ty≤2:=by omega
   by_cases h2:init=0
   ·subst h2;(simp[fI,Tryz.f18];all_goals simp[h1,qJ,h3,hr])
   ·(simp[fI,Tryz.f18];all_goals simp[h1,qJ,h2,h3,hr])
  ·have qJ:ty≤2:=by omega
   by_cases h3:ty=2
   ·subst h3;by_cases h4:init<0
    ·have EM:¬0≤init:=by omega
     (simp[fI,Tryz.f18];all_goals simp[h4,EM,hr])
    ·have EM:0≤init:=by omega
     by_cases h5:1<init
     ·have h5':¬init≤1:=by omega
      (simp[fI,Tryz.f18];all_goals simp[h4,EM,h5,h5',hr])
     ·have h6:¬init= -9223372036854775808:=by omega
      have h5':init≤1:=by omega
      (simp[fI,Tryz.f18];all_goals simp[h4,EM,h5,h5',h6,hr])
   ·by_cases h6:init= -9223372036854775808
    ·subst h6;(simp[fI,Tryz.f18];all_goals simp[h1,qJ,h3,hr])
    ·(simp[fI,Tryz.f18];all_goals simp[h1,qJ,h3,h6,hr])
end
section
variable {w:Vr} {v:Nat} {k:Kt} {R1:bS} {a b:AV} {B:aE}
theorem ad9(hr:k .ret ⟨129,aC,[(2,true,.d (.bool false))],[⟨150,1,B⟩,⟨300,v,ie w⟩]⟩=R1):
 aI ctx 18 (fI [1,1,0,1,0,0,1,0,0,1]) ⟨129,aC,[(1,true,a),(3,true,b),(4,true,.ptr 300 v 0)],[⟨150,1,B⟩,⟨300,v,ie w⟩]⟩ k=
 if dj w=true then k .normal ⟨129,aC,[(1,true,a),(3,true,b),(125,true,.d (.bool false))],[⟨150,1,B⟩,⟨300,v,ie w⟩]⟩else R1:=by
 have e1:fI [1,1,0,1,0,0,1,0,0,1]=Code.seq (fI [1,1,0,1,0,0,1,0,0,1,0]) (fI [1,1,0,1,0,0,1,0,0,1,1]):=rfl;have e2:fI [1,1,0,1,0,0,1,0,0,1,1]=Code.seq (fI [1,1,0,1,0,0,1,0,0,1,1,0]) (fI [1,1,0,1,0,0,1,0,0,1,1,1]):=rfl;have e3:fI [1,1,0,1,0,0,1,0,0,1,1,1]=Code.seq (fI [1,1,0,1,0,0,1,0,0,1,1,1,0]) (fI [1,1,0,1,0,0,1,0,0,1,1,1,1]):=rfl;have hq:∀c,yo ctx 18 c k .ret ⟨129,aC,[(2,true,.d (.bool false))],[⟨150,1,B⟩,⟨300,v,ie w⟩]⟩=R1:=fun _=>hr;rw[ad7,e1,denK_seq,aip (hq _)];cases SW w
 ·rw[Bool.false_and,if_neg Bool.false_ne_true,if_neg Bool.false_ne_true]
 rw[if_pos rfl,Bool.true_and,seqK_n,e2,denK_seq,aiq (hq _)];cases SX w
 ·rw[Bool.false_and,if_neg Bool.false_ne_true,if_neg Bool.false_ne_true]
 rw[if_pos rfl,Bool.true_and,seqK_n,e3,denK_seq,air (hq _)];cases SY w
 ·rw[Bool.false_and,if_neg Bool.false_ne_true,if_neg Bool.false_ne_true]
 rw[if_pos rfl,Bool.true_and,seqK_n,ais hr]
end
theorem MR(l:List Vr)(bn:l.length≤64)(D1 D2:AV)(k:Kt)(R1 R2:bS)
 (h1:∀v X,k .ret ⟨129,aC,[(2,true,.d (.bool false))],[⟨150,1,.box [D1,.d (.list (l.map bI)),D2]⟩,⟨300,v,X⟩]⟩=R1)
 (h2:∀(b c:AV) v X,k (.exit 0) ⟨129,aC,[(1,true,.ptr 150 1 0),(3,true,b),(19,true,c)],[⟨150,1,.box [D1,.d (.list (l.map bI)),D2]⟩,⟨300,v,X⟩]⟩=R2):∀(rest pre:List Vr)(v:Nat)(X:aE),l=pre++rest→
 aI ctx 18 (.loop (fI [1,1,0,1,0,0])) ⟨129,aC,[(1,true,.ptr 150 1 0),(3,true,.d (.int .i64 pre.length))],[⟨150,1,.box [D1,.d (.list (l.map bI)),D2]⟩,⟨300,v,X⟩]⟩ k=if rest.all dj=true then R2 else R1
 |[],pre,v,X,hd=>by
  have cf:pre.length=l.length:=by rw[hd];simp
  rw[cf,ah];simp[fI,Tryz.f18,h2]
 |x::rest,pre,v,X,hd=>by
  have aR:pre.length<l.length:=by rw[hd];simp
  have aV:l[pre.length]=x:=by simp[hd]
  have hb:=fun (v:Nat) (a b:AV) (k:Kt)=>ad9 (w:=x) (v:=v) (a:=a) (b:=b) (k:=k) (B:=.box [D1,.d (.list (l.map bI)),D2]) rfl;have ih:∀v X,aI ctx 18 (.loop (fI [1,1,0,1,0,0])) ⟨129,aC,[(1,true,.ptr 150 1 0),(3,true,.d (.int .i64 (pre.length+1)))],[⟨150,1,.box [D1,.d (.list (l.map bI)),D2]⟩,⟨300,v,X⟩]⟩ k=if rest.all dj=true then R2 else R1:=fun v X=>by
   have:=MR l bn D1 D2 k R1 R2 h1 h2 rest (pre++[x]) v X (by simp[hd]);simpa using this
  have w1:IntKind.i64.wrap ((pre.length:Int)+1)=(pre.length:Int)+1:=au (by unfold aX;omega);rw[List.all_cons];generalize dj x=N at*;generalize rest.all dj=M at*;rw[ah];simp[fI,Tryz.f18]at hb ih⊢;simp[aR,aV,bI,eD];simp[hb];cases N<;>simp[h1,w1,ih]
theorem aea{p:Pg}(hb:p.body.length<100000000)(hl:kD p.body):ai ctx 18 [.d (.agg [.str p.name,.list (p.vars.map bI),.list (p.body.map b5)])] []=some (.ret (.d (.bool (oo p))),[]):=by
 have hn:=eL p.name;have hs:=VC hb hl;unfold KS at hs;rw[ahS (by simp)];unfold oo;generalize da p.name=N at*;generalize eh p.body=M at*;cases N with
 |false=>simp[Tryz.f18,hn]
 |true=>
  by_cases h6:64<p.vars.length
  ·have h6':(64:Int)<p.vars.length:=by omega
   have h7:¬p.vars.length≤64:=by omega
   simp[Tryz.f18,hn,h6,h6',h7]
  ·have h6':¬(64:Int)<p.vars.length:=by omega
   have h7:p.vars.length≤64:=by omega
   have cJ:=fun D1 D2 k R1 R2 h1 h2 v X=>MR p.vars h7 D1 D2 k R1 R2 h1 h2 p.vars [] v X rfl;generalize p.vars.all dj=Q at*;simp[fI,Tryz.f18]at cJ;simp[Tryz.f18,hn,h6,h6',h7];rw[cJ _ _ _ (some (.ret (.d (.bool false)),[])) (some (.ret (.d (.bool M)),[]))]
   ·cases Q<;>simp
   ·intro v X;simp
   ·intro b c v X;simp[hs]
def SE(l:List Ex):Prop:=∀most:Int,∃n d:Int,ai ctx 129 [.d (.list (l.map bM)),.d (.int .i64 most)] []=some (.ret (.aW [.d (.int .i64 n),.d (.int .i64 d)]),[])
theorem MS(l:List Ex)(bn:l.length<100000000)(hK:∀x∈l,SE (cN x))(most:Int)(k:Kt)(Q:bS→Prop)
 (h2:∀(n d:Int)(b c:AV),Q (k (.exit 0) ⟨44,aC,[(0,true,.d (.list (l.map bM))),(1,true,.d (.int .i64 most)),(6,true,.d (.int .i64 n)),(7,true,.d (.int .i64 d)),(8,true,b),(19,true,c)],[]⟩)):∀(rest pre:List Ex)(n d:Int),l=pre++rest→
 Q (aI ctx 129 (.loop (Code.at (aY Tryz.f129) [1,1,0,1,0,0])) ⟨44,aC,[(0,true,.d (.list (l.map bM))),(1,true,.d (.int .i64 most)),(6,true,.d (.int .i64 n)),(7,true,.d (.int .i64 d)),(8,true,.d (.int .i64 pre.length))],[]⟩ k)
 |[],pre,n,d,hd=>by
  have cf:pre.length=l.length:=by rw[hd];simp
  rw[cf,ah];simp[Tryz.f129,h2]
 |x::rest,pre,n,d,hd=>by
  have aR:pre.length<l.length:=by rw[hd];simp
  have aV:l[pre.length]=x:=by simp[hd]
  obtain⟨m,d',hm⟩:=hK x (by rw[hd];simp) (IntKind.i64.wrap (most-n));have ih:∀n d,Q (aI ctx 129 (.loop (Code.at (aY Tryz.f129) [1,1,0,1,0,0])) ⟨44,aC,[(0,true,.d (.list (l.map bM))),(1,true,.d (.int .i64 most)),(6,true,.d (.int .i64 n)),(7,true,.d (.int .i64 d)),(8,true,.d (.int .i64 (pre.length+1)))],[]⟩ k):=fun n d=>by
   have:=MS l bn hK most k Q h2 rest (pre++[x]) n d (by simp[hd]);simpa using this
  have w1:IntKind.i64.wrap ((pre.length:Int)+1)=(pre.length:Int)+1:=au (by unfold aX;omega);rw[ah];by_cases hn:n≤most
  ·simp[Tryz.f129]at ih⊢;simp[aR,aV,hn,aD,hm,w1,ih]
  ·simp[Tryz.f129];simp[aR,hn,h2]
theorem aec{l:List Ex}(bn:l.length<100000000)(hK:∀x∈l,SE (cN x)):SE l:=by
 intro most;have h:=fun k Q h2=>MS l bn hK most k Q h2 l [] 0 0 rfl;rw[acP (by simp)];simp[Tryz.f129]at h⊢;apply h _ (fun A=>∃n d:Int,A=some (.ret (.aW [.d (.int .i64 n),.d (.int .i64 d)]),[]));intro n d b c;simp
mutual
theorem aph:∀x:Ex,uU x→SE (cN x)
 | .mk op nn name field sub line,h=>by
  simp only[uU]at h;exact aec h.1.2.2 (P6 sub h.2)
theorem P6:∀l:List Ex,ow l→∀x∈l,SE (cN x)
 |[],_,x,hx=>by simp at hx
 |y::r,h,x,hx=>by
  simp only[ow]at h;rcases List.mem_cons.1 hx with e|hx
  ·rw[e];exact aph y h.1
  ·exact P6 r h.2 x hx
end
theorem S5{l:List Ex}(bn:l.length<100000000)(h:ow l):SE l:=aec bn (P6 l h)
@[reducible] noncomputable def kL(p:List Nat):Code:=Code.at (aY Tryz.f83) p
def SS(l:List Sm):Prop:=∀most:Int,∃n d:Int,ai ctx 83 [.d (.list (l.map b5)),.d (.int .i64 most)] []=some (.ret (.aW [.d (.int .i64 n),.d (.int .i64 d)]),[])
section
variable {x:Sm} {v:Nat} {k:Kt} {Q:bS→Prop} {a b:AV} {most:Int}
theorem ssA(h1:SE [eI x,dM x])(hc:SE (cy x))(n d:Int)
 (hQ:∀(n d:Int)(c1 c2 c3 c4:AV),Q (k .normal ⟨136,aC,[(0,true,a),(1,true,.d (.int .i64 most)),(6,true,.d (.int .i64 n)),(7,true,.d (.int .i64 d)),(8,true,b),(9,true,.ptr 550 v 0),(42,true,c1),(43,true,c2),(44,true,c3),(45,true,c4)],[⟨550,v,bh x⟩]⟩)):
 Q (aI ctx 83 (kL [1,1,0,1,0,0,1,0,0,1,1,0]) ⟨136,aC,[(0,true,a),(1,true,.d (.int .i64 most)),(6,true,.d (.int .i64 n)),(7,true,.d (.int .i64 d)),(8,true,b),(9,true,.ptr 550 v 0)],[⟨550,v,bh x⟩]⟩ k):=by
 unfold SE at h1 hc;simp[aD]at h1;have oU:IntKind.i64.wrap 1=1:=by decide
 have w12:IntKind.i64.wrap 2=2:=by decide
 have r2:List.range' 0 2=[0,1]:=rfl;simp only[bh]at hQ;obtain⟨m,d',hm⟩:=h1 (IntKind.i64.wrap (most-n));simp[kL,Tryz.f83,r2];rw[ah];simp[hm,oU];generalize IntKind.i64.wrap (n+m)=n2;obtain⟨m2,d2,jx⟩:=hc (IntKind.i64.wrap (most-n2));rw[ah];simp[jx,oU,w12];rw[ah];simp[hQ]
end
section
variable {x:Sm} {v:Nat} {k:Kt} {Q:bS→Prop} {a b:AV} {most:Int}
theorem ssB(n d:Int)(c1 c2 c3 c4:AV)
 (hQ:∀(n:Int),Q (k .normal ⟨136,aC,[(0,true,a),(1,true,.d (.int .i64 most)),(6,true,.d (.int .i64 n)),(7,true,.d (.int .i64 d)),(8,true,b),(9,true,.ptr 550 v 0)],[⟨550,v,bh x⟩]⟩)):
 Q (aI ctx 83 (kL [1,1,0,1,0,0,1,0,0,1,1,1,0]) ⟨136,aC,[(0,true,a),(1,true,.d (.int .i64 most)),(6,true,.d (.int .i64 n)),(7,true,.d (.int .i64 d)),(8,true,b),(9,true,.ptr 550 v 0),(42,true,c1),(43,true,c2),(44,true,c3),(45,true,c4)],[⟨550,v,bh x⟩]⟩ k):=by
 simp only[bh]at hQ;simp[kL,Tryz.f83];apply hQ
theorem HI(hl:(ee x).length<100000000)(d:Int)
 (hQ:∀(n:Int)(c1 c2:AV),Q (k (.exit 4) ⟨136,aC,[(0,true,a),(1,true,.d (.int .i64 most)),(6,true,.d (.int .i64 n)),(7,true,.d (.int .i64 d)),(8,true,b),(9,true,.ptr 550 v 0),(14,true,c1),(88,true,c2)],[⟨550,v,bh x⟩]⟩)):∀(rest pre:List (List Int))(n:Int),ee x=pre++rest→
 Q (aI ctx 83 (.loop (kL [1,1,0,1,0,0,1,0,0,1,1,1,1,0,1,0,0])) ⟨136,aC,[(0,true,a),(1,true,.d (.int .i64 most)),(6,true,.d (.int .i64 n)),(7,true,.d (.int .i64 d)),(8,true,b),(9,true,.ptr 550 v 0),(14,true,.d (.int .i64 pre.length))],[⟨550,v,bh x⟩]⟩ k)
 |[],pre,n,hd=>by
  have cf:pre.length=(ee x).length:=by rw[hd];simp
  simp only[bh]at hQ;rw[cf,ah];simp[kL,Tryz.f83,hQ]
 |c::rest,pre,n,hd=>by
  have aR:pre.length<(ee x).length:=by rw[hd];simp
  have aV:(ee x)[pre.length]=c:=by simp[hd]
  have ih:=fun n=>HI hl d hQ rest (pre++[c]) n (by simp[hd]);have w1:IntKind.i64.wrap ((pre.length:Int)+1)=(pre.length:Int)+1:=au (by unfold aX;omega);simp only[bh]at hQ;rw[ah];by_cases hn:n≤most
  ·simp[kL,Tryz.f83]at ih⊢;simp[aR,aV,hn,mC,w1];apply ih
  ·simp[kL,Tryz.f83];simp[aR,hn,hQ]
theorem HJ(hl:(bj x).length<100000000)(hK:∀c∈bj x,SS c)
 (hQ:∀(n d:Int)(c1 c2:AV),Q (k (.exit 6) ⟨136,aC,[(0,true,a),(1,true,.d (.int .i64 most)),(6,true,.d (.int .i64 n)),(7,true,.d (.int .i64 d)),(8,true,b),(9,true,.ptr 550 v 0),(15,true,c1),(111,true,c2)],[⟨550,v,bh x⟩]⟩)):∀(rest pre:List (List Sm))(n d:Int),bj x=pre++rest→
 Q (aI ctx 83 (.loop (kL [1,1,0,1,0,0,1,0,0,1,1,1,1,1,1,0,0])) ⟨136,aC,[(0,true,a),(1,true,.d (.int .i64 most)),(6,true,.d (.int .i64 n)),(7,true,.d (.int .i64 d)),(8,true,b),(9,true,.ptr 550 v 0),(15,true,.d (.int .i64 pre.length))],[⟨550,v,bh x⟩]⟩ k)
 |[],pre,n,d,hd=>by
  have cf:pre.length=(bj x).length:=by rw[hd];simp
  simp only[bh]at hQ;rw[cf,ah];simp[kL,Tryz.f83,hQ]
 |c::rest,pre,n,d,hd=>by
  have aR:pre.length<(bj x).length:=by rw[hd];simp
  have aV:(bj x)[pre.length]=c:=by simp[hd]
  have ih:=fun n d=>HJ hl hK hQ rest (pre++[c]) n d (by simp[hd]);obtain⟨m,d',hm⟩:=hK c (by rw[hd];simp) (IntKind.i64.wrap (most-n));have w1:IntKind.i64.wrap ((pre.length:Int)+1)=(pre.length:Int)+1:=au (by unfold aX;omega);simp only[bh]at hQ;rw[ah];by_cases hn:n≤most
  ·simp[kL,Tryz.f83]at ih⊢;simp[aR,aV,hn,df,hm,w1];apply ih
  ·simp[kL,Tryz.f83];simp[aR,hn,hQ]
theorem aed(hx:uW x)(hK:∀c∈bj x,SS c)(n d:Int)
 (hQ:∀(n d:Int)(c1 c2:AV),Q (k .normal ⟨136,aC,[(0,true,a),(1,true,.d (.int .i64 most)),(6,true,.d (.int .i64 n)),(7,true,.d (.int .i64 d)),(8,true,b),(9,true,.ptr 550 v 0),(15,true,c1),(111,true,c2)],[⟨550,v,bh x⟩]⟩)):
 Q (aI ctx 83 (kL [1,1,0,1,0,0,1,0,0,1,1]) ⟨136,aC,[(0,true,a),(1,true,.d (.int .i64 most)),(6,true,.d (.int .i64 n)),(7,true,.d (.int .i64 d)),(8,true,b),(9,true,.ptr 550 v 0)],[⟨550,v,bh x⟩]⟩ k):=by
 obtain⟨ht,hv,⟨hc,oI⟩,⟨tj,ad3⟩,hf,fG⟩:=hx;have e1:kL [1,1,0,1,0,0,1,0,0,1,1]=Code.seq (kL [1,1,0,1,0,0,1,0,0,1,1,0]) (kL [1,1,0,1,0,0,1,0,0,1,1,1]):=rfl;have e2:kL [1,1,0,1,0,0,1,0,0,1,1,1]=Code.seq (kL [1,1,0,1,0,0,1,0,0,1,1,1,0]) (kL [1,1,0,1,0,0,1,0,0,1,1,1,1]):=rfl;rw[e1,denK_seq];apply ssA (S5 (l:=[eI x,dM x]) (by simp) ⟨ht,hv,trivial⟩) (S5 hc oI);intro n d c1 c2 c3 c4;rw[seqK_n,e2,denK_seq];apply ssB;intro n;rw[seqK_n];have hL:=fun k Q hQ=>HI (a:=a) (b:=b) (v:=v) (most:=most) (k:=k) (Q:=Q) tj d hQ (ee x) [] n rfl;simp[kL,Tryz.f83]at hL⊢;apply hL;intro n c1 c2;have hB:=fun k Q hQ=>HJ (a:=a) (b:=b) (v:=v) (most:=most) (k:=k) (Q:=Q) fG hK hQ (bj x) [] n d rfl;simp[kL,Tryz.f83]at hB⊢;apply hB;intro n d c1 c2;simp only[bh]at hQ;simp[hQ]
end
theorem MT(l:List Sm)(bn:l.length<100000000)(hS:∀x∈l,uW x)(hK:∀x∈l,∀c∈bj x,SS c)(most:Int)(k:Kt)(Q:bS→Prop)
 (h2:∀(n d:Int)(b c:AV) v X,Q (k (.exit 0) ⟨136,aC,[(0,true,.d (.list (l.map b5))),(1,true,.d (.int .i64 most)),(6,true,.d (.int .i64 n)),(7,true,.d (.int .i64 d)),(8,true,b),(26,true,c)],[⟨550,v,X⟩]⟩)):∀(rest pre:List Sm)(n d:Int)(v:Nat)(X:aE),l=pre++rest→
 Q (aI ctx 83 (.loop (kL [1,1,0,1,0,0])) ⟨136,aC,[(0,true,.d (.list (l.map b5))),(1,true,.d (.int .i64 most)),(6,true,.d (.int .i64 n)),(7,true,.d (.int .i64 d)),(8,true,.d (.int .i64 pre.length))],[⟨550,v,X⟩]⟩ k)
 |[],pre,n,d,v,X,hd=>by
  have cf:pre.length=l.length:=by rw[hd];simp
  rw[cf,ah];simp[kL,Tryz.f83,h2]
 |x::rest,pre,n,d,v,X,hd=>by
  have aR:pre.length<l.length:=by rw[hd];simp
  have aV:l[pre.length]=x:=by simp[hd]
  have hm:x∈l:=by rw[hd];simp
  have hb:=fun (v:Nat) (a b:AV) (k:Kt) (Q:bS→Prop) (n d:Int)=>aed (v:=v) (a:=a) (b:=b) (most:=most) (k:=k) (Q:=Q) (hS x hm) (hK x hm) n d;have ih:=fun n d v X=>MT l bn hS hK most k Q h2 rest (pre++[x]) n d v X (by simp[hd]);have w1:IntKind.i64.wrap ((pre.length:Int)+1)=(pre.length:Int)+1:=au (by unfold aX;omega);rw[ah];by_cases hn:n≤most
  ·simp[kL,Tryz.f83]at hb ih⊢;simp[aR,aV,hn,ef];apply hb;intro n d c1 c2;simp[w1,ih]
  ·simp[kL,Tryz.f83];simp[aR,hn,h2]
theorem aee{l:List Sm}(bn:l.length<100000000)(hS:∀x∈l,uW x)(hK:∀x∈l,∀c∈bj x,SS c):SS l:=by
 intro most;have h:=fun k Q h2 v X=>MT l bn hS hK most k Q h2 l [] 0 0 v X rfl;rw[aib (by simp)];simp[kL,Tryz.f83]at h⊢;apply h _ (fun A=>∃n d:Int,A=some (.ret (.aW [.d (.int .i64 n),.d (.int .i64 d)]),[]));intro n d b c v X;simp
mutual
theorem api:∀x:Sm,uV x→uW x∧∀c∈bj x,SS c
 | .mk op name to val conds labels fields blocks line,h=>by
  have h:=(YY _).1 h;exact⟨h.1,Y1 blocks h.2⟩
theorem FG:∀l:List Sm,kD l→∀x∈l,uW x∧∀c∈bj x,SS c
 |[],_,x,hx=>by simp at hx
 |y::r,h,x,hx=>by
  simp only[kD]at h;have h1:=api y h.1;have h2:=FG r h.2;rcases List.mem_cons.1 hx with e|hx
  ·rw[e];exact h1
  ·exact h2 x hx
theorem Y1:∀l:List (List Sm),lX l→∀c∈l,SS c
 |[],_,c,hc=>by simp at hc
 |b::r,h,c,hc=>by
  simp only[lX]at h;have h1:=FG b h.1.2;have h2:=Y1 r h.2;rcases List.mem_cons.1 hc with e|hc
  ·rw[e];exact aee h.1.1 (fun x hx=>(h1 x hx).1) (fun x hx=>(h1 x hx).2)
  ·exact h2 c hc
end
theorem aef{l:List Sm}(bn:l.length<100000000)(h:kD l):SS l:=
 aee bn (fun x hx=>(FG l h x hx).1) (fun x hx=>(FG l h x hx).2)
theorem aeg{p:Pg}(hb:p.body.length<100000000)(hl:kD p.body)(most:Int):∃n d:Int,ai ctx 43 [.d (.agg [.str p.name,.list (p.vars.map bI),.list (p.body.map b5)]),.d (.int .i64 most)] []=some (.ret (.aW [.d (.int .i64 n),.d (.int .i64 d)]),[]):=by
 obtain⟨n,d,h⟩:=aef hb hl most;rw[ahY (by simp)];simp[Tryz.f43,h]
theorem ZP{p:Pg}(hb:p.body.length<100000000)(hl:kD p.body):∃B:Bool,ai ctx 17 [.d (.agg [.str p.name,.list (p.vars.map bI),.list (p.body.map b5)])] []=some (.ret (.d (.bool B)),[]):=by
 obtain⟨n,d,h⟩:=aeg hb hl 2000;rw[ahR (by simp)];simp[Tryz.f17,h]
end Go.Am
end
section
namespace Go.Am
open Go Go.ChangeShapes Go.WideShapes Go.RowKit
def zw(P:Program)(ok:TypeId→Bool):List Field→Nat→Nat→Bool
 |[],o,tot=>o == tot
 |f::r,o,tot=>f.offset == o&&ok f.type&&zw P ok r (o+P.cellsOf f.type) tot
def typed(P:Program):Nat→TypeId→D→Prop
 |0,_,_=>False
 |n+1,t,d=>match P.underlying t with
  |some .bool=>∃b,d=.bool b
  |some (.int k)=>∃z,d=.int k z∧(Lit.int k z).wf=true
  |some .string=>∃s,d=.str s∧s.length≤maxLen
  |some (.slice e)=>∃xs,d=.list xs∧xs.length≤maxLen∧∀x∈xs,typed P n e x
  |some (.struct fs)=>∃ys:List D,d=.agg (ys.flatMap D.cells)∧ys.length=fs.size∧∀(i:Nat)(f:Field)(y:D),fs[i]?=some f→ys[i]?=some y→typed P n f.type y
  |_=>False
def Reads(w:World)(F:Nat→Prop)(d:D)(cs:List Value):Prop:=
 d.cells.length=cs.length∧(∀u∈cs,cx u=true)∧∀(i:Nat) c u,d.cells[i]?=some c→cs[i]?=some u→aK w F c u∧c.flat=true
theorem Reads.one{w F d v}(h:aK w F d v)(hf:d.flat=true)(hc:d.cells=[d]):Reads w F d [v]:=by
 refine⟨by rw[hc];rfl,fun u hu=>?_,fun i c u h1 h2=>?_⟩
 ·simp at hu;subst hu;exact h.one hf
 ·rw[hc]at h1;cases i with
  |zero=>simp at h1 h2;subst h1;subst h2;exact⟨h,hf⟩
  |succ i=>simp at h1
def shaped(d:D)(cs:List Value):Value:=
 match d with
 | .agg _=>.agg cs.toArray
 |_=>cs.headD undef
theorem Reads.rel{w F d cs}(h:Reads w F d cs):aK w F d (shaped d cs):=by
 obtain⟨h1,h2,h3⟩:=h;have key:d.flat=true→d.cells=[d]→aK w F d (cs.headD undef):=by
  intro hf hc;rw[hc]at h1 h3;match cs,h1 with
  |[u],_=>exact (h3 0 d u rfl rfl).1
 cases d with
 |agg ds=>exact aK.nu h1 h2 (fun i c v hc hv=>(h3 i c v hc hv).1)
 |_=>exact key rfl rfl
theorem Reads.HK{w F d cs}(h:Reads w F d cs):(shaped d cs).cells.toList=cs:=by
 obtain⟨h1,h2,h3⟩:=h;have key:d.cells=[d]→(cs.headD undef).cells.toList=cs:=by
  intro hc;rw[hc]at h1;match cs,h1,h2 with
  |[u],_,h2=>simp only[List.headD];rw[dS (h2 u (by simp))]
 cases d with
 |agg ds=>simp[shaped,Value.cells]
 |_=>exact key rfl
theorem CE{w:World}{base:Nat}{a:Addr}{n:Nat}{cs:List Value}(h:w.cells? base a n=some cs):cs.length=n∧∀j,j<n→w.cell? (a.add j)=cs[j]?:=by
 unfold World.cells? at h;split at h
 ·exact⟨by simpa using mapM_some_length h,fun j hj=>mapM_some_get h j j (by simp[hj])⟩
 ·cases h
theorem add_add{b off n j:Nat}:(Addr.add (Addr.add ⟨b,off,none⟩ n) j)=⟨b,off+n+j,none⟩:=by
 unfold Addr.add;split<;>split<;>simp_all
theorem A4{w:World}{a:Addr}{c:Value}(h:w.cell? a=some c):a.block<w.heap.size∧a.spot=none:=by
 unfold World.cell? at h;split at h
 ·rename_i hh;refine⟨(Array.getElem?_eq_some_iff.1 hh).1,?_⟩;split at h
  ·cases h
  ·rename_i hs;simpa using hs
 ·cases h
section
variable {H:Type} {enc:TypeId×Value→H} {P:Program} {w:World} {base:Nat} {sp:Nat→Bool} {held:Bool}
end
section
variable {H:Type} {enc:TypeId×Value→H} {P:Program} {w:World} {base:Nat} {sp:Nat→Bool} {held:Bool}
theorem wY(hl:laidOutB P=true){W W':World}(hb:Below W.heap.size W W'):∀{ts:List TypeId}{vs:List Value}{ds:List (DataW H)}{ps:List MemPlace},DataW.TrodAll enc P W 0 (fun _=>true) true ts vs ds ps→
 (∀t∈ts,P.readableRec t=true∧t<P.types.size)→(∀x∈ps,x.block<W.heap.size)→DataW.TrodAll enc P W' 0 (fun b=>decide (b<W.heap.size)) true ts vs ds ps
 |[],[],[],_,h,_,_=>h
 |t::ts,v::vs,d::ds,ps,h,hp,bz=>by
  obtain⟨p,q,h1,h2,rfl⟩:=h;exact⟨p,q,Below.trod hl (hp t (by simp)).1 (hp t (by simp)).2 h1 hb (fun x hx=>bz x (by simp[hx])),wY hl hb h2 (fun t ht=>hp t (by simp[ht])) (fun x hx=>bz x (by simp[hx])),rfl⟩
 |[],_::_,_,_,h,_,_=>by cases h
 |[],[],_::_,_,h,_,_=>by cases h
 |_::_,[],_,_,h,_,_=>by cases h
 |_::_,_::_,[],_,h,_,_=>by cases h
end
section
variable {P:Program} {n:Nat} {t:TypeId} {d:D}
def zx(P:Program)(n:Nat):List Field→List D→Prop
 |[],ds=>ds=[]
 |f::r,ds=>∃y ja,typed P n f.type y∧zx P n r ja∧ds=y.cells++ja
theorem CF:∀{fs:List Field}{ys:List D},ys.length=fs.length→(∀(i:Nat)(f:Field)(y:D),fs[i]?=some f→ys[i]?=some y→typed P n f.type y)→zx P n fs (ys.flatMap D.cells)
 |[],[],_,_=>rfl
 |f::fs,y::ys,h,hf=>⟨y,ys.flatMap D.cells,hf 0 f y rfl rfl,CF (by simpa using h) (fun i f y h1 h2=>hf (i+1) f y (by simpa using h1) (by simpa using h2)),by simp⟩
theorem S6{k:IntKind}(ht:P.underlying t=some (.int k))(h:typed P (n+1) t d):∃z,d=.int k z∧(Lit.int k z).wf=true:=by simpa only[typed,ht]using h
theorem P7(ht:P.underlying t=some .bool)(h:typed P (n+1) t d):∃b,d=.bool b:=by simpa only[typed,ht]using h
theorem HL(ht:P.underlying t=some .string)(h:typed P (n+1) t d):∃s,d=.str s∧s.length≤maxLen:=by simpa only[typed,ht]using h
theorem JE{e:TypeId}(ht:P.underlying t=some (.slice e))(h:typed P (n+1) t d):∃xs,d=.list xs∧xs.length≤maxLen∧∀x∈xs,typed P n e x:=by simpa only[typed,ht]using h
theorem HM{fs:Array Field}(ht:P.underlying t=some (.struct fs))(h:typed P (n+1) t d):∃ds,d=.agg ds∧zx P n fs.toList ds:=by
 simp only[typed,ht]at h;obtain⟨ys,rfl,h1,h2⟩:=h;exact⟨_,rfl,CF (by simpa using h1) (fun i f y h3 h4=>h2 i f y (by simpa using h3) h4)⟩
end
def aei(X:Ctx):Bool:=
 (List.range X.P.funcs.size).all (fun g=>match X.P.funcs[g]? with|some fn=>fn.name != "runtime.NumGoroutine" &&(match fn.body with|some c=>eB X g fn.ntmps c|none=>true)|none=>true)&&X.P.follows .mixedOrders&&X.ov.isNone
def pS(X:Ctx)(g:FuncId)(h:List AV→Option AV):Prop:=gE X.P g=true∧∀(Cd:List AV)(a:AV),h Cd=some a→∀(φ:bQ)(F:Nat→Prop)(w:World)(vs:Array Value),eK w F X.gl→(∀b,F b→b<w.heap.size)→Cd.length=vs.size→
 (∀(i:Nat) x v,Cd[i]?=some x→vs[i]?=some v→aB φ w F x v)→Calls X.P g vs w fun e w'=>∃v,e=.returned v∧Below w.heap.size w w'∧aB φ w' F a v
theorem pS.lift{X:Ctx}{g:FuncId}{h:List D→Option D}(hh:gE X.P g=true∧∀(ds:List D) (d:D),h ds=some d→∀(F:Nat→Prop) (w:World) (vs:Array Value),eK w F X.gl→(∀b,F b→b<w.heap.size)→ds.length=vs.size→
 (∀(i:Nat) x v,ds[i]?=some x→vs[i]?=some v→aK w F x v)→Calls X.P g vs w fun e w'=>∃v,e=.returned v∧Below w.heap.size w w'∧aK w' F d v):pS X g (liftO h):=by
 refine⟨hh.1,fun Cd a ha φ F w vs cv mw hl hr=>?_⟩;unfold liftO at ha;cases jq:gn Cd with
 |none=>rw[jq]at ha;cases ha
 |some ds=>
  rw[jq]at ha;obtain⟨d,hd,rfl⟩:=Option.map_eq_some_iff.1 ha;have he:=J9 jq;subst he;refine (hh.2 ds d hd F w vs cv mw (by simpa using hl) (fun i x v hx hv=>?_)).mono ?_
  ·have:=hr i (.d x) v (by simp[hx]) hv;cases this with|d _ _ h=>exact h
  ·rintro e w' ⟨v,rfl,hb,hv⟩;exact⟨v,rfl,hb,.d _ _ hv⟩
theorem jC.of{X:Ctx}(h:aei X=true)(ho:∀g h,X.wU g=some h→pS X g h):jC X:=by
 simp only[aei,Bool.and_eq_true,List.all_eq_true,List.mem_range]at h;have key:∀(g:FuncId)(fn:Func),X.P.funcs[g]?=some fn→fn.name≠ "runtime.NumGoroutine" ∧(match fn.body with|some c=>eB X g fn.ntmps c|none=>true)=true:=by
  intro g fn hg;have h1:=h.1.1 g (Array.getElem?_eq_some_iff.1 hg).1;rw[hg]at h1;simpa using h1
 refine⟨by simpa using h.2,fun g fn hg=>(key g fn hg).1,fun g fn c hg hb=>?_,h.1.2,ho⟩;have:=(key g fn hg).2;rw[hb]at this;exact this
theorem uj{α:Type}{f:α→D}:∀{xs:List D},(∀x∈xs,∃r,x=f r)→∃rs:List α,xs=rs.map f
 |[],_=>⟨[],rfl⟩
 |x::xs,h=>by
  obtain⟨r,rfl⟩:=h x (by simp);obtain⟨rs,rfl⟩:=uj (xs:=xs) (fun y hy=>h y (by simp[hy]));exact⟨r::rs,rfl⟩
def fr0:Fr:=⟨fun _=>False,[]⟩
theorem S7{X:Ctx}(hX:jC X){f:FuncId}{b:Bool}{xs:List D}(hc:ai X f (xs.map .d) []=some (.ret (.d (.bool b)),[])){W:World}{args:Array Value}(hl:xs.length=args.size)
 (hr:∀(i:Nat) x v,xs[i]?=some x→args[i]?=some v→aK W (fun _=>False) x v) (hg:eK W (fun _=>False) X.gl):
 Calls X.P f args W fun e W'=>e=.returned (.bool b)∧Below W.heap.size W W':=by
 have h:=(UO hX f _ _ _ _ hc).2;have hF:∀b,Fo fr0 (fun _=>none) (inM 0 []) b→False:=by
  intro b hb;rcases hb with hb|⟨e,he,_⟩
  ·exact hb
  ·simp[inM]at he
 refine (h (fun _=>none) fr0 W args ⟨by simp[inM],fun k L hL=>by simp at hL,fun e he=>by simp[inM]at he,fun e he=>by simp[inM]at he,fun b ⟨e,he,_⟩=>by simp[inM]at he,fun b hb=>hb.elim⟩
  (hg.mono (fun _ _ _=>rfl) (Nat.le_refl _) (fun b _ hb=>hF b hb)) (by simpa using hl) (fun i x v hx hv=>?_)).mono ?_
 ·simp only[List.getElem?_map,Option.map_eq_some_iff]at hx;obtain⟨d,hd,rfl⟩:=hx;exact .d d v ((hr i d v hd hv).mono (fun _ _ _=>rfl) (Nat.le_refl _) (fun b _ hb=>hF b hb))
 ·rintro e W' ⟨φ',m',out,⟨rfl,rfl⟩,hm,hk,ho⟩;refine⟨?_,hk.os,hk.tape,hk.output,hk.size,fun k aN=>hk.xh k aN (fun ⟨e,he,_⟩=>by simp[inM]at he)⟩;cases e with
  |returned v=>
   simp only[mS]at ho;cases ho with
   |d x v h=>cases h;rfl
  |_=>exact ho.elim
section
variable {H:Type} {enc:TypeId×Value→H}
end
def yD(P:Program)(L:List TypeId):Bool:=L.all fun t=>match P.underlying t with
 |some .bool|some (.int _)|some .string=>P.cellsOf t == 1
 |some (.slice e)=>P.cellsOf t == 1&&L.contains e&&decide (1≤P.cellsOf e)
 |some (.struct fs)=>zw P (fun t=>L.contains t) fs.toList 0 (P.cellsOf t)
 |_=>false
theorem EN{P:Program}{L:List TypeId}{t:TypeId}(h:yD P L=true)(ht:L.contains t=true):(match P.underlying t with
 |some .bool|some (.int _)|some .string=>P.cellsOf t == 1
 |some (.slice e)=>P.cellsOf t == 1&&L.contains e&&decide (1≤P.cellsOf e)
 |some (.struct fs)=>zw P (fun t=>L.contains t) fs.toList 0 (P.cellsOf t)
 |_=>false)=true:=List.all_eq_true.1 h t (by simpa using ht)
section
variable {H:Type} {enc:TypeId×Value→H} {P:Program} {w:World} {base:Nat} {sp:Nat→Bool} {held:Bool}
end
section
variable {H:Type} {enc:TypeId×Value→H}
end
mutual
def dB:D→Nat
 | .str s=>s.length+1
 | .list xs=>bE xs+1
 | .agg cs=>bE cs+1
 |_=>1
def bE:List D→Nat
 |[]=>0
 |x::r=>dB x+bE r
end
mutual
def ik{H:Type}:DataW H→Nat
 | .lit (.string bytes)=>bytes.length+1
 | .slice elems _=>gk elems+1
 | .agg parts=>gk parts+1
 |_=>1
def gk{H:Type}:List (DataW H)→Nat
 |[]=>0
 |d::r=>ik d+gk r
end
theorem np:∀l r:List D,bE (l++r)=bE l+bE r
 |[],r=>by simp[bE]
 |x::l,r=>by simp[bE,np l r,Nat.add_assoc]
theorem P8(x:D):bE x.cells≤dB x:=by
 cases x<;>simp[D.cells,bE,dB]
theorem aej(x:D):1≤dB x:=by cases x<;>simp[dB]
theorem lY:∀l:List D,l.length≤bE l
 |[]=>by simp
 |x::r=>by have:=lY r;have:=aej x;simp only[bE,List.length_cons];omega
theorem HN:∀{l:List D}{x:D},x∈l→dB x≤bE l
 |y::r,x,h=>by
  rcases List.mem_cons.1 h with rfl|h
  ·simp only[bE];omega
  ·have:=HN h;simp only[bE];omega
theorem MU{H:Type}:∀(l:List D)(ds:List (DataW H)),l.length=ds.length→(∀(i:Nat) x d,l[i]?=some x→ds[i]?=some d→dB x≤ik d)→bE l≤gk ds
 |[],[],_,_=>Nat.le_refl _
 |x::l,d::ds,h,hi=>by
  have h1:=hi 0 x d rfl rfl;have h2:=MU l ds (by simpa using h) (fun i y e hy he=>hi (i+1) y e (by simpa using hy) (by simpa using he));simp only[bE,gk];omega
 |[],_::_,h,_=>by simp at h
 |_::_,[],h,_=>by simp at h
theorem wZ{H:Type}{P:Program}{w:World}{F:Nat→Prop}{n:Nat}{cs:List Value}{ok:TypeId→Bool}:∀(fs:List Field)(ws:List (DataW H))(o:Nat),zw P ok fs o cs.length=true→ws.length=fs.length→
 (∀(i:Nat) f e,fs[i]?=some f→ws[i]?=some e→ok f.type=true→∃d,typed P n f.type d∧Reads w F d ((cs.drop f.offset).take (P.cellsOf f.type))∧d.cells.length=P.cellsOf f.type∧dB d≤ik e)→
 ∃ys:List D,ys.length=fs.length∧(∀(i:Nat)(f:Field)(y:D),fs[i]?=some f→ys[i]?=some y→typed P n f.type y)∧o≤cs.length∧Reads w F (.agg (ys.flatMap D.cells)) (cs.drop o)∧bE (ys.flatMap D.cells)≤gk ws
 |[],[],o,ht,_,_=>by
  simp only[zw,beq_iff_eq]at ht;subst ht;exact⟨[],rfl,fun i f y hf=>by simp at hf,Nat.le_refl _,⟨by simp[D.cells],by simp,fun i c u h1=>by simp[D.cells]at h1⟩,by simp[bE,gk]⟩
 |f::r,e::ws,o,ht,hw,hf=>by
  simp only[zw,Bool.and_eq_true,beq_iff_eq]at ht;obtain⟨⟨rfl,cV⟩,hr⟩:=ht;obtain⟨ys,h1,h2,h3,h4,h5⟩:=wZ r ws _ hr (by simpa using hw) (fun i f' e' hi he=>hf (i+1) f' e' (by simpa using hi) (by simpa using he));obtain⟨d,hd,hR,hl,HO⟩:=hf 0 f e rfl rfl cV;refine⟨d::ys,by simp[h1],fun i f' y hi hy=>?_,by omega,?_,?_⟩
  ·cases i with
   |zero=>simp at hi hy;subst hi;subst hy;exact hd
   |succ i=>simp at hi hy;exact h2 i f' y hi hy
  ·have F7:cs.drop f.offset=(cs.drop f.offset).take (P.cellsOf f.type)++cs.drop (f.offset+P.cellsOf f.type):=by
    rw[←List.drop_drop,List.take_append_drop]
   obtain⟨a1,a2,a3⟩:=hR;obtain⟨b1,b2,b3⟩:=h4;have aek:(D.agg ((d::ys).flatMap D.cells)).cells=d.cells++(D.agg (ys.flatMap D.cells)).cells:=by simp[D.cells]
   rw[F7];unfold Reads;rw[aek];refine⟨by simp only[List.length_append,a1,b1],fun u hu=>?_,fun i c u hc hu=>?_⟩
   ·rcases List.mem_append.1 hu with hu|hu
    ·exact a2 u hu
    ·exact b2 u hu
   ·by_cases hi:i<d.cells.length
    ·rw[List.getElem?_append_left hi]at hc;rw[List.getElem?_append_left (by omega)]at hu;exact a3 i c u hc hu
    ·rw[List.getElem?_append_right (by omega)]at hc;rw[List.getElem?_append_right (by omega)]at hu;rw[←a1]at hu;exact b3 _ c u hc hu
  ·have hc:=P8 d;simp only[List.flatMap_cons,np,gk];omega
 |[],_::_,_,_,h,_=>by simp at h
 |_::_,[],_,_,h,_=>by simp at h
section
variable {H:Type} {enc:TypeId×Value→H} {P:Program} {w:World} {base:Nat} {sp:Nat→Bool} {held:Bool}
theorem we{L:List TypeId}(hL:yD P L=true):∀(m:Nat)(t:TypeId)(cs:List Value)(x:DataW H×List MemPlace),L.contains t=true→DataW.trod enc P w base sp held m t cs=some x→
 ∃d,typed P (m+1) t d∧Reads w (fun _=>False) d cs∧d.cells.length=P.cellsOf t∧dB d≤ik x.1
 |m,t,cs,x,hp,hx=>by
  have hp:=EN hL hp;simp only[typed];cases ht:P.underlying t with
  |none=>rw[ht]at hp;cases hp
  |some u=>
   rw[ht]at hp;cases u with
   |bool=>
    obtain⟨b,rfl,rfl⟩:=DataW.trod_bool ht hx;exact⟨.bool b,⟨b,rfl⟩,Reads.one (.bool b) rfl rfl,by simp at hp;simp[D.cells,hp],by simp[dB,ik]⟩
   |int k=>
    obtain⟨z,rfl,rfl,hw⟩:=DataW.trod_int ht hx;exact⟨.int k z,⟨z,rfl,hw⟩,Reads.one (.int k z) rfl rfl,by simp at hp;simp[D.cells,hp],by simp[dB,ik]⟩
   |string=>
    obtain⟨s,rfl,rfl,hw⟩:=DataW.trod_string ht hx;exact⟨.str s.data.toList,⟨_,rfl,by simpa using hw⟩,Reads.one (.str s _ rfl) rfl rfl,by simp at hp;simp[D.cells,hp],by simp[dB,ik]⟩
   |slice e=>
    simp only[Bool.and_eq_true,beq_iff_eq,decide_eq_true_eq]at hp;obtain⟨⟨h1,h2⟩,h3⟩:=hp;rcases DataW.trod_slice ht hx with ⟨rfl,rfl⟩|⟨a,len,cap,elems,rest,m',rfl,rfl,rfl,hb,fX,tt,hel,oY,_⟩
    ·exact⟨.list [],⟨[],rfl,by simp,by simp⟩,Reads.one (.nil none 0 (fun _=>rfl)) rfl rfl,by simp[D.cells,h1],by simp[dB,bE,ik]⟩
    ·have hq:∀i,∃p:D×Value,i<len→typed P (m'+1) e p.1∧aK w (fun _=>False) p.1 p.2∧p.1.size=P.cellsOf e∧a.block<w.heap.size∧a.spot=none∧
      (∀j c,p.2.cells[j]?=some c→w.cell? ⟨a.block,a.off+i*P.cellsOf e+j,none⟩=some c)∧∀q,elems[i]?=some q→dB p.1≤ik q.1:=by
      intro i;by_cases hi:i<len
      ·have h4:=oY i hi;have h5:∃y,elems[i]?=some y:=⟨elems[i]'(by omega),by simp[show i<elems.length by omega]⟩
       obtain⟨y,hy⟩:=h5;rw[hy]at h4;simp only[Option.bind_eq_some_iff]at h4;obtain⟨lB,kX,nU⟩:=h4;obtain⟨d,hd,hR,hl,HO⟩:=we hL m' e lB y h2 nU;obtain⟨g1,g2⟩:=CE kX;have g3:a.block<w.heap.size∧a.spot=none:=by
        have h0:∃i0,i0<len∧i0=0:=⟨0,by omega,rfl⟩;have h40:=oY 0 (by omega);have Y2:∃y,elems[0]?=some y:=⟨elems[0]'(by omega),by simp[show 0<elems.length by omega]⟩
        obtain⟨y0,JQ⟩:=Y2;rw[JQ]at h40;simp only[Option.bind_eq_some_iff]at h40;obtain⟨iL,apj,_⟩:=h40;obtain⟨g01,g02⟩:=CE apj;have h6:=g02 0 (by omega);have h7:∃c,iL[0]?=some c:=⟨iL[0]'(by omega),by simp[show 0<iL.length by omega]⟩
        obtain⟨c,hc⟩:=h7;rw[hc]at h6;have h8:=A4 h6;simpa [Addr.add]using h8
       refine⟨⟨d,shaped d lB⟩,fun _=>⟨hd,hR.rel,by rw[←D.fS];exact hl,g3.1,g3.2,fun j c hj=>?_,fun q hq=>by rw[hy]at hq;cases hq;exact HO⟩⟩;have h6:=hR.HK;have h7:lB[j]?=some c:=by rw[←h6];simpa using hj
       have gS:j<P.cellsOf e:=by
        have:=(List.getElem?_eq_some_iff.1 h7).1;omega
       have h8:=g2 j gS;obtain⟨ab,ao,ae⟩:=a;obtain rfl:ae=none:=g3.2;rw[add_add]at h8;rw[h8];exact h7
      ·exact⟨⟨.bool false,undef⟩,fun h=>absurd h hi⟩
     obtain⟨f,hf⟩:=Classical.axiomOfChoice hq;refine⟨.list ((List.range len).map fun i=>(f i).1),⟨_,rfl,by simp;omega,fun x hx=>?_⟩,Reads.one ?_ rfl rfl,by simp[D.cells,h1],?_⟩
     ·simp only[List.mem_map,List.mem_range]at hx;obtain⟨i,hi,rfl⟩:=hx;exact (hf i hi).1
     ·by_cases hl:len=0
      ·subst hl;exact .nil (some a) cap (fun h=>by cases h)
      ·have h0:=hf 0 (by omega);obtain⟨ab,ao,ae⟩:=a;obtain rfl:ae=none:=h0.2.2.2.2.1;have hlen:((List.range len).map fun i=>(f i).1).length=len:=by simp
       have:=aK.list (w:=w) (F:=fun _=>False) ((List.range len).map fun i=>(f i).1) ab ao cap (P.cellsOf e) (fun i=>(f i).2) (by rw[hlen];exact fX) h0.2.2.2.1 (fun h=>h)
        (fun d hd=>by
         simp only[List.mem_map,List.mem_range]at hd;obtain⟨i,hi,rfl⟩:=hd;exact (hf i hi).2.2.1)
        (fun i d hd=>by
         simp only[List.getElem?_map,Option.map_eq_some_iff]at hd;obtain⟨i',lH,rfl⟩:=hd;have:=List.getElem?_eq_some_iff.1 lH;obtain⟨sL,hi3⟩:=this;simp at sL hi3;subst hi3;exact (hf _ sL).2.1)
        (fun i j c hi hj=>by
         rw[hlen]at hi;exact (hf i hi).2.2.2.2.2.1 j c hj)
       rw[hlen]at this;exact this
     ·simp only[dB,ik];refine Nat.succ_le_succ (MU _ _ (by simp;omega) fun i x d hx hd=>?_);simp only[List.getElem?_map,Option.map_eq_some_iff]at hx hd;obtain⟨j,hj,rfl⟩:=hx;obtain⟨q,hq,rfl⟩:=hd;obtain⟨Aa,hj3⟩:=List.getElem?_eq_some_iff.1 hj;simp at Aa hj3;subst hj3;exact (hf i Aa).2.2.2.2.2.2 q hq
   |struct fs=>
    obtain⟨xs,m',rfl,rfl,hl,mU,oY⟩:=DataW.trod_struct ht hx;simp only at hp;rw[←hl]at hp;obtain⟨ys,h1,h2,_,h4,h5⟩:=wZ (n:=m'+1) (w:=w) (F:=fun _=>False) fs.toList (xs.map (·.1)) 0 hp (by simpa using mU) (fun i f e hi he cV=>by
     simp only[List.getElem?_map,Option.map_eq_some_iff]at he;obtain⟨y,hy,rfl⟩:=he;have h5:=oY i f (by simpa using hi);rw[hy]at h5;exact we hL m' f.type _ y cV h5)
    refine⟨.agg (ys.flatMap D.cells),⟨ys,rfl,by simpa using h1,fun i f y hi hy=>h2 i f y (by simpa using hi) hy⟩,by simpa using h4,?_,?_⟩
    ·have:=h4.1;rw[this];simpa using hl
    ·simp only[dB,ik];omega
   |_=>cases hp
theorem VD{L:List TypeId}(hL:yD P L=true){t:TypeId}{v:Value}{d:DataW H}{ps:List MemPlace}{b0:Nat}(hp:L.contains t=true)(hv:Value.okWide P w .any b0 t v)(h:DataW.Trod enc P w base sp held t v d ps):
 ∃n x,typed P n t x∧aK w (fun _=>False) x v∧dB x≤ik d:=by
 obtain⟨m,hm⟩:=h;obtain⟨x,hx,hR,_,HO⟩:=we hL m t _ _ hp hm;refine⟨m+1,x,hx,?_,HO⟩;have h1:=hR.rel
 ·have hp:=EN hL hp;simp only[typed]at hx;cases ht:P.underlying t with
  |none=>rw[ht]at hp;cases hp
  |some u=>
   rw[ht]at hp hx;cases u with
   |bool=>obtain⟨b,rfl⟩:=okWide_bool ht hv;obtain⟨y,rfl⟩:=hx;exact h1
   |int k=>obtain⟨b,rfl⟩:=okWide_int ht hv;obtain⟨y,rfl,_⟩:=hx;exact h1
   |string=>obtain⟨b,rfl⟩:=okWide_string ht hv;obtain⟨y,rfl,_⟩:=hx;exact h1
   |slice e=>obtain⟨a,len,cap,rfl⟩:=okWide_slice ht hv;obtain⟨y,rfl,_⟩:=hx;exact h1
   |struct fs=>
    simp only[Value.okWide,ht]at hv;obtain⟨cs,rfl,_⟩:=hv;obtain⟨ys,rfl,_⟩:=hx;simpa [shaped,Value.cells]using h1
   |_=>cases hp
theorem EO{L:List TypeId}(hL:yD P L=true){b0:Nat}:∀{ts:List TypeId}{vs:List Value}{ds:List (DataW H)}{ps:List MemPlace},DataW.TrodAll enc P w base sp held ts vs ds ps→(∀t∈ts,L.contains t=true)→
 (∀(j:Nat) t v,ts[j]?=some t→vs[j]?=some v→Value.okWide P w .any b0 t v)→
 ∃xs:List D,xs.length=vs.length∧xs.length=ts.length∧(∀(i:Nat) t x,ts[i]?=some t→xs[i]?=some x→∃n,typed P n t x)∧(∀(i:Nat) x v,xs[i]?=some x→vs[i]?=some v→aK w (fun _=>False) x v)∧bE xs≤gk ds
 |[],[],[],_,_,_,_=>⟨[],rfl,rfl,fun i t x h=>by simp at h,fun i x v h=>by simp at h,by simp[bE,gk]⟩
 |t::ts,v::vs,d::ds,ps,h,hp,hv=>by
  obtain⟨p,q,h1,h2,_⟩:=h;obtain⟨n,x,hx,hr,HO⟩:=VD hL (hp t (by simp)) (hv 0 t v rfl rfl) h1;obtain⟨xs,g1,g2,g3,g4,g5⟩:=EO hL h2 (fun t ht=>hp t (by simp[ht])) (fun j t v h3 h4=>hv (j+1) t v (by simpa using h3) (by simpa using h4));refine⟨x::xs,by simp[g1],by simp[g2],fun i t' x' h3 h4=>?_,fun i x' v' h3 h4=>?_,by simp only[bE,gk];omega⟩
  ·cases i with
   |zero=>simp at h3 h4;subst h3;subst h4;exact⟨n,hx⟩
   |succ i=>simp at h3 h4;exact g3 i t' x' h3 h4
  ·cases i with
   |zero=>simp at h3 h4;subst h3;subst h4;exact hr
   |succ i=>simp at h3 h4;exact g4 i x' v' h3 h4
 |[],_::_,_,_,h,_,_=>by cases h
 |[],[],_::_,_,h,_,_=>by cases h
 |_::_,[],_,_,h,_,_=>by cases h
 |_::_,_::_,[],_,h,_,_=>by cases h
end
section
variable {H:Type} {enc:TypeId×Value→H}
theorem Fm{X:Ctx}(hX:jC X){f:FuncId}{fn:Func}{s:ChangeSpec}{apart fresh handsOn:Bool}{L:List TypeId}{tb:TypeId}(hL:yD X.P L=true)
 (ait:laidOutB X.P=true) (jr:(fn.params.toList.all fun t=>X.P.readableRec t&&decide (t<X.P.types.size)&&L.contains t)=true)
 (Hd:fn.resultTypes=#[tb]) (htb:X.P.underlying tb=some .bool) (Y3:s.vars=[])
 (aiu:∀ds:List (DataW H),ds.length=fn.params.size→s.fn H ds={results:=[.lit (.bool true)],args:=ds})
 {W:World} {base:Nat} {args:Array Value} {ds gs:List (DataW H)} {before:List MemPlace}
 (cm:∀(j:Nat) t v,fn.params[j]?=some t→args[j]?=some v→Value.okWide X.P W .any base t v)
 (hW:DataW.Whole enc X.P fn.params.toList s.vars apart W args.toList ds gs before) (hg:eK W (fun _=>False) X.gl)
 (bP:∀xs:List D,xs.length=fn.params.size→(∀(i:Nat) t x,fn.params[i]?=some t→xs[i]?=some x→∃n,typed X.P n t x)→bE xs≤gk ds→ai X f (xs.map .d) []=some (.ret (.d (.bool true)),[])):
 Calls X.P f args W fun e W'=>∃v,e=.returned v∧s.post enc X.P fn apart fresh handsOn false W args v W':=by
 have hW':=hW;obtain⟨p,q,hA,hV,rfl,By,xN⟩:=hW;rw[Y3]at hV;obtain⟨rfl,rfl⟩:gs=[]∧q=[]:=by
  cases gs with
  |nil=>exact⟨rfl,hV⟩
  |cons g r=>exact absurd hV (by intro h;cases h)
 simp only[List.all_eq_true,Bool.and_eq_true,decide_eq_true_eq]at jr;obtain⟨xs,h1,h2,h3,h4,h5⟩:=EO hL (b0:=base) hA (fun t ht=>(jr t ht).2) (fun j t v ht hv=>cm j t v (by simpa using ht) (by simpa using hv));have hlen:=trodAll_length hA;refine (S7 hX (bP xs (by simpa using h2) (fun i t x ht hx=>h3 i t x (by simpa using ht) hx) h5) (by simpa using h1) (fun i x v hx hv=>h4 i x v hx (by simpa using hv)) hg).mono ?_;rintro e W' ⟨rfl,hb⟩;have bz:∀x∈p,x.block<W.heap.size:=fun x hx=>by simpa using hW'.lt x (by simpa using hx)
 have hs:s.fn H (ds++[])={results:=[.lit (.bool true)],args:=ds}:=by
  rw[List.append_nil];exact aiu ds (by simpa using hlen.2)
 refine⟨_,rfl,ds,[],p++[],[],p,[],hW',?_,?_,?_,hb.frame _,fun h=>by cases h⟩
 ·rw[hs,Hd];exact trodAll_mk1 (shut_bool htb true)
 ·rw[hs];exact wY ait hb hA (fun t ht=>(jr t ht).1) bz
 ·rw[hs,Y3];rfl
end
end Go.Am
end
section
namespace Go.Am
open Go
theorem HP(l:List Ex):(ga l).length=l.length:=by rw[ry];simp
theorem uX(x:Ex):dB (bM x)=bE (uM x)+1:=by rw[FC];rfl
mutual
theorem HQ:∀x:Ex,dB (bM x)<100000000→uU x
 | .mk op n name field sub line,h=>by
  simp only[bM,dB,bE]at h;have h2:=lY (ga sub);rw[HP]at h2;simp only[uU];exact⟨⟨by omega,by omega,by omega⟩,Dz sub (by omega)⟩
theorem Dz:∀l:List Ex,bE (ga l)<100000000→ow l
 |[],_=>by simp only[ow]
 |x::r,h=>by
  simp only[ga,bE]at h;simp only[ow];exact⟨HQ x (by omega),Dz r (by omega)⟩
end
theorem wg{α:Type}(f:α→D)(l:List α):l.length≤bE (l.map f):=by
 have:=lY (l.map f);simpa using this
theorem Y4(l:List Int):l.length≤dB (mC l):=by
 have:=wg (fun n=>D.int .i64 n) l;simp only[mC,dB];omega
theorem VE(l:List (List Sm)):(kA l).length=l.length:=by rw[zp];simp
theorem A5(l:List Sm):(kB l).length=l.length:=by rw[pn];simp
mutual
theorem aem:∀x:Sm,dB (b5 x)<100000000→uV x∧MQ x≤dB (b5 x)
 | .mk op name to val conds labels fields blocks line,h=>by
  simp only[b5,dB,bE,np]at h⊢;have e1:=uX to;have e2:=uX val;have h2:=lY (ga conds);rw[HP]at h2;have h3:=wg mC labels;have h4:=wg D.str fields;have h5:=lY (kA blocks);rw[VE]at h5;have hb:=MV blocks (by omega);simp only[uV,MQ];refine⟨⟨⟨HQ to (by omega),HQ val (by omega),⟨by omega,Dz conds (by omega)⟩,⟨by omega,fun l hl=>?_⟩,by omega,by omega⟩,hb.1⟩,by omega⟩;have h6:=HN (List.mem_map_of_mem (f:=mC) hl);have h7:=Y4 l;omega
theorem DA:∀l:List Sm,bE (kB l)<100000000→kD l∧qC l≤bE (kB l)
 |[],_=>by simp only[kD,qC];exact⟨trivial,Nat.zero_le _⟩
 |x::r,h=>by
  simp only[kB,bE]at h⊢;have h1:=aem x (by omega);have h2:=DA r (by omega);simp only[kD,qC];exact⟨⟨h1.1,h2.1⟩,by omega⟩
theorem MV:∀l:List (List Sm),bE (kA l)<100000000→lX l∧ui l≤bE (kA l)
 |[],_=>by simp only[lX,ui];exact⟨trivial,Nat.zero_le _⟩
 |b::r,h=>by
  simp only[kA,bE,dB]at h⊢;have h0:=lY (kB b);rw[A5]at h0;have h1:=DA b (by omega);have h2:=MV r (by omega);simp only[lX,ui];exact⟨⟨⟨by omega,h1.1⟩,h2.1⟩,by omega⟩
end
theorem A6{p:Pg}(h:dB (.agg [.str p.name,.list (p.vars.map bI),.list (p.body.map b5)])<50000000):p.body.length<100000000∧kD p.body∧qC p.body<50000000:=by
 simp only[dB,bE]at h;rw[←pn]at h;have h0:=lY (kB p.body);rw[A5]at h0;have h1:=DA p.body (by omega);exact⟨by omega,h1.1,by omega⟩
end Go.Am
end
section
namespace Go.Am
open Go Go.Proofs
variable [Inhabited bX]
set_option maxRecDepth 20000
def pB(L:List fg)(s:PS):List AV:=[.d (.list (L.map po)),.d (.int .i64 s.at_),.d (.int .i64 s.deep),.vec 1 0 0 s.vars.length]
def pC(L:List fg)(s:PS):List aE:=[.box (pB L s),.vec 8 (s.vars.map bI)]
def uY(L:List fg)(s:PS):List (Nat×aE):=[(0,.box (pB L s)),(0,.vec 8 (s.vars.map bI))]
def fD(e:Er):D:=.agg [.int .i64 e.e,.int .i64 0,.str [],.int .i64 0,.int .i64 e.line,.int .i64 e.Cs]
def qD(L:List fg)(e:Er)(s:PS):bS:=some (.panic 186 (fD e),uY L s)
section
variable {L:List fg} {s:PS}
@[simp] theorem aup(a b:Tx):(a == b)=decide (a=b):=by by_cases h:a=b<;>simp[h]
@[simp] theorem av2{β:Type}{b:Bool}{x y:β}:(if b=false then x else y)=if b=true then y else x:=by cases b<;>rfl
end
section
variable {L:List fg} {s:PS} (hL:L.length<1000000)
include hL
end
structure Sh where
 k:Int
 name:Tx
 ins:Tx
 outs:Tx
 n:Int
@[simp] def shD(x:Sh):D:=.agg [.int .i64 x.k,.str x.name,.str x.ins,.str x.outs,.int .i64 x.n]
end Go.Am
end
section
namespace Go.Am
open Go
section
variable {ε σ α β:Type}
def PR.le(r r':PR ε σ α):Prop:=r=.out∨r=r'
theorem PR.le.refl(r:PR ε σ α):r.le r:=.inr rfl
theorem PR.le.out(r:PR ε σ α):PR.le .out r:=.inl rfl
theorem PR.le.bind{r r':PR ε σ α}{k k':α→σ→PR ε σ β}(h:r.le r')(hk:∀a s,(k a s).le (k' a s)):(r.bind k).le (r'.bind k'):=by
 rcases h with h|h
 ·subst h;exact .inl rfl
 ·subst h;cases r with
  |ok a s=>exact hk a s
  |bad e s=>exact .inr rfl
  |out=>exact .inl rfl
theorem PR.le.el{r r':PR ε σ α}{γ:Type}{f:α→σ→Option γ}{g:ε→σ→Option γ}(h:r.le r'):Le (r.el f g) (r'.el f g):=by
 rcases h with h|h
 ·subst h;exact Le.none
 ·subst h;exact Le.refl _
end
section
variable (L:List fg)
structure ayt(f g:Nat):Prop where
 level:∀n s,(si L f n s).le (si L g n s)
 loop:∀n x s,(yx L f n x s).le (yx L g n x s)
 unary:∀s,(uO L f s).le (uO L g s)
 unop:∀op t s,(Cu L f op t s).le (Cu L g op t s)
 expr:∀s,(kT L f s).le (kT L g s)
 index:∀s,(uQ L f s).le (uQ L g s)
 CG:∀s,(uP L f s).le (uP L g s)
structure ayu(f g:Nat):Prop where
 block:∀w s,(mY L f w s).le (mY L g w s)
 uR:∀w l s,(uR L f w l s).le (uR L g w l s)
 stmt:∀s,(zr L f s).le (zr L g s)
 opn:∀s,(Cv L f s).le (Cv L g s)
 wh:∀s,(qm L f s).le (qm L g s)
 lW:∀c l s,(lW L f c l s).le (lW L g c l s)
 cases:∀s,(yy L f s).le (yy L g s)
 sk:∀v c l s,(sk L f v c l s).le (sk L g v c l s)
 wa:∀l s,(wa L f l s).le (wa L g l s)
 zy:∀s,(sj L f s).le (sj L g s)
 call:∀n s,(Cw L f n s).le (Cw L g n s)
 wb:∀n c l s,(wb L f n c l s).le (wb L g n c l s)
end
end Go.Am
end
section
namespace Go.Am
open Go Go.Proofs
variable [Inhabited bX]
set_option maxRecDepth 20000
def aiv:List Nat:=[240,244,241,238,181,182,283,285,330,331,312,243,337,335]
structure aen(L:List fg)(cl:bq)(f:Nat):Prop where
 le:∀g a c r,cl g a c=some r→ai ctx g a c=some r
 out:∀g,aiv.contains g=true→cl g=ai ctx g
 level:∀n s,cl 332 [.ptr 0 0 0,.d (.int .i64 (n:Nat))] (pC L s)=(si L f n s).el (fun x s=>some (.ret (.d (bM x)),uY L s)) (qD L)
 unary:∀s,cl 336 [.ptr 0 0 0] (pC L s)=(uO L f s).el (fun x s=>some (.ret (.d (bM x)),uY L s)) (qD L)
 CG:∀s,cl 339 [.ptr 0 0 0] (pC L s)=(uP L f s).el (fun x s=>some (.ret (.d (bM x)),uY L s)) (qD L)
 index:∀s,cl 318 [.ptr 0 0 0] (pC L s)=(uQ L f s).el (fun x s=>some (.ret (.d (bM x)),uY L s)) (qD L)
 expr:∀s,cl 316 [.ptr 0 0 0] (pC L s)=(kT L f s).el (fun x s=>some (.ret (.d (bM x)),uY L s)) (qD L)
section
variable {L:List fg} {s:PS} {cl:bq} {f:Nat} (hL:L.length<1000000) (F:aen L cl f)
include hL F
end
structure apk(L:List fg)(cl:bq)(f:Nat):Prop where
 E:aen L cl f
 block:∀ws s,ws.length<1000→cl 184 [.ptr 0 0 0,.d (.list (ws.map .str))] (pC L s)=(mY L f ws s).el (fun l s=>some (.ret (.d (.list (l.map b5))),uY L s)) (qD L)
 stmt:∀s,cl 245 [.ptr 0 0 0] (pC L s)=(zr L f s).el (fun x s=>some (.ret (.d (b5 x)),uY L s)) (qD L)
 opn:∀s,cl 284 [.ptr 0 0 0] (pC L s)=(Cv L f s).el (fun x s=>some (.ret (.d (b5 x)),uY L s)) (qD L)
 wh:∀s,cl 313 [.ptr 0 0 0] (pC L s)=(qm L f s).el (fun x s=>some (.ret (.d (b5 x)),uY L s)) (qD L)
 cases:∀s,cl 314 [.ptr 0 0 0] (pC L s)=(yy L f s).el (fun x s=>some (.ret (.d (b5 x)),uY L s)) (qD L)
 zy:∀s,cl 315 [.ptr 0 0 0] (pC L s)=(sj L f s).el (fun x s=>some (.ret (.d (b5 x)),uY L s)) (qD L)
 call:∀nm s,cl 317 [.ptr 0 0 0,.d (.str nm)] (pC L s)=(Cw L f nm s).el (fun x s=>some (.ret (.d (b5 x)),uY L s)) (qD L)
section
variable {L:List fg} {s:PS} {cl:bq} {f:Nat} (hL:L.length<1000000) (F:apk L cl f)
include hL F
end
inductive TA where
 |level (n:Nat) (s:PS)
 |unary (s:PS)
 |CG (s:PS)
 |index (s:PS)
 |expr (s:PS)
 |block (ws:List Tx) (s:PS)
 |stmt (s:PS)
 |opn (s:PS)
 |wh (s:PS)
 |cases (s:PS)
 |zy (s:PS)
 |call (nm:Tx) (s:PS)
def TA.args:TA→List AV
 | .level n _=>[.ptr 0 0 0,.d (.int .i64 n)]
 | .block ws _=>[.ptr 0 0 0,.d (.list (ws.map .str))]
 | .call nm _=>[.ptr 0 0 0,.d (.str nm)]
 |_=>[.ptr 0 0 0]
def TA.st:TA→PS
 | .level _ s=>s
 | .unary s=>s
 | .CG s=>s
 | .index s=>s
 | .expr s=>s
 | .block _ s=>s
 | .stmt s=>s
 | .opn s=>s
 | .wh s=>s
 | .cases s=>s
 | .zy s=>s
 | .call _ s=>s
end Go.Am
end
section
namespace Go.Am
open Go
section
variable {α β:Type}
def Tr(r:PM α)(Q:α→PS→Prop):Prop:=match r with
 | .ok a s=>Q a s
 | .bad e _=>1≤e.line∧e.e≠0
 | .out=>False
theorem Tr.bind{r:PM α}{k:α→PS→PM β}{Q:α→PS→Prop}{Q':β→PS→Prop}(h:Tr r Q)(hk:∀a s,Q a s→Tr (k a s) Q'):Tr (r.bind k) Q':=by
 cases r with
 |ok a s=>exact hk a s h
 |bad e s=>exact h
 |out=>exact h.elim
theorem Tr.mono{r:PM α}{Q Q':α→PS→Prop}(h:Tr r Q)(hk:∀a s,Q a s→Q' a s):Tr r Q':=by
 cases r with
 |ok a s=>exact hk a s h
 |bad e s=>exact h
 |out=>exact h.elim
theorem Tr.ok{a:α}{s:PS}{Q:α→PS→Prop}(h:Q a s):Tr (.ok a s) Q:=h
end
structure OkL(L:List fg):Prop where
 ends:∀(i:Nat)(t:fg),L[i]?=some t→(t.kind=0↔i+1=L.length)
 line:∀(i:Nat)(t:fg),L[i]?=some t→1≤t.line
 len:L.length≤49999
structure Iv(L:List fg)(s:PS):Prop where
 at_:s.at_<L.length
 d0:0≤s.deep
 d1:s.deep≤32
 vs:s.vars.length≤64
structure Fw(L:List fg)(s s':PS):Prop where
 iv:Iv L s'
 deep:s'.deep=s.deep
 vars:s'.vars=s.vars
 at_:s.at_≤s'.at_
structure Fs(L:List fg)(s s':PS):Prop extends Fw L s s' where
 lt:s.at_<s'.at_
theorem Fw.refl{L s}(h:Iv L s):Fw L s s:=⟨h,rfl,rfl,Nat.le_refl _⟩
theorem Fw.trans{L s s1 s2}(h:Fw L s s1)(k:Fw L s1 s2):Fw L s s2:=⟨k.iv,k.deep.trans h.deep,k.vars.trans h.vars,Nat.le_trans h.at_ k.at_⟩
theorem Fs.trans{L s s1 s2}(h:Fs L s s1)(k:Fw L s1 s2):Fs L s s2:=⟨h.toFw.trans k,Nat.lt_of_lt_of_le h.lt k.at_⟩
section
variable {L:List fg} (hL:OkL L)
include hL
structure Dn(L:List fg)(s s':PS):Prop where
 iv:Iv L s'
 deep:s'.deep=s.deep+1
 vars:s'.vars=s.vars
 at_:s'.at_=s.at_
structure Fv(L:List fg)(s s':PS):Prop where
 iv:Iv L s'
 deep:s'.deep=s.deep
 at_:s.at_≤s'.at_
structure ayw(L:List fg)(f:Nat):Prop where
 level:∀(n:Nat)(s:PS),n≤6→Iv L s→20*(L.length-s.at_)+(10-n)≤f→Tr (si L f n s) fun _ s'=>Fs L s s'
 loop:∀(n:Nat)(x:Ex)(s:PS),n<6→Iv L s→20*(L.length-s.at_)+1≤f→Tr (yx L f n x s) fun _ s'=>Fw L s s'
 unary:∀s:PS,Iv L s→20*(L.length-s.at_)+3≤f→Tr (uO L f s) fun _ s'=>Fs L s s'
 unop:∀(op:Int)(t:fg)(s:PS),Iv L s→L[s.at_]?=some t→t.kind≠0→20*(L.length-s.at_)+2≤f→Tr (Cu L f op t s) fun _ s'=>Fs L s s'
 expr:∀s:PS,Iv L s→20*(L.length-s.at_)+11≤f→Tr (kT L f s) fun _ s'=>Fs L s s'
 index:∀s:PS,Iv L s→20*(L.length-s.at_)+1≤f→Tr (uQ L f s) fun _ s'=>Fs L s s'
 CG:∀s:PS,Iv L s→20*(L.length-s.at_)+2≤f→Tr (uP L f s) fun _ s'=>Fs L s s'
end
section
variable {L:List fg} (hL:OkL L)
include hL
structure ayx(L:List fg)(f:Nat):Prop where
 block:∀(ws:List Tx)(s:PS),Iv L s→20*(L.length-s.at_)+19≤f→Tr (mY L f ws s) fun _ s'=>Fw L s s'
 loop:∀(ws:List Tx)(l:List Sm)(s:PS),Iv L s→l.length≤s.at_→20*(L.length-s.at_)+18≤f→Tr (uR L f ws l s) fun _ s'=>Fw L s s'
 stmt:∀s:PS,Iv L s→20*(L.length-s.at_)+17≤f→Tr (zr L f s) fun _ s'=>Fs L s s'
 opn:∀s:PS,Iv L s→20*(L.length-s.at_)+16≤f→Tr (Cv L f s) fun _ s'=>Fs L s s'
 wh:∀s:PS,Iv L s→20*(L.length-s.at_)+15≤f→Tr (qm L f s) fun _ s'=>Fs L s s'
 lW:∀(c:List Ex)(l:List (List Sm))(s:PS),Iv L s→c.length≤s.at_→l.length≤s.at_→20*(L.length-s.at_)+14≤f→Tr (lW L f c l s) fun _ s'=>Fs L s s'
 cases:∀s:PS,Iv L s→20*(L.length-s.at_)+15≤f→Tr (yy L f s) fun _ s'=>Fs L s s'
 sk:∀(v:Ex)(c:List (List Int))(l:List (List Sm))(s:PS),Iv L s→c.length≤s.at_→l.length≤s.at_→20*(L.length-s.at_)+14≤f→Tr (sk L f v c l s) fun _ s'=>Fs L s s'
 wa:∀(l:List Sm)(s:PS),Iv L s→l.length≤s.at_→20*(L.length-s.at_)+18≤f→Tr (wa L f l s) fun _ s'=>Fw L s s'
 zy:∀s:PS,Iv L s→20*(L.length-s.at_)+15≤f→Tr (sj L f s) fun _ s'=>Fs L s s'
 call:∀(nm:Tx)(s:PS),Iv L s→20*(L.length-s.at_)+15≤f→Tr (Cw L f nm s) fun _ s'=>Fs L s s'
 wb:∀(nm:Tx)(c:List Tx)(l:List Ex)(s:PS),Iv L s→c.length≤s.at_→l.length≤s.at_→20*(L.length-s.at_)+14≤f→Tr (wb L f nm c l s) fun _ s'=>Fs L s s'
end
abbrev aeo:=Option (Out×List (Nat×aE))
theorem aep(c:Prop)[Decidable c](a b:Bool)(l:List (Nat×aE)):(if c then (some (Out.ret (.d (.bool a)),l):aeo)else some (Out.ret (.d (.bool b)),l))=some (Out.ret (.d (.bool (if c then a else b))),l):=by split<;>rfl
theorem VF(a b:Bool)(l:List (Nat×aE)):(some (Out.ret (.d (.bool a)),l):aeo)=some (Out.ret (.d (.bool b)),l)↔(a=true↔b=true):=by
 cases a<;>cases b<;>simp
end Go.Am
end
section
namespace Go.Am
open Go Go.Proofs
variable [Inhabited bX]
set_option maxRecDepth 20000
theorem VG{n:Int}(h1:0≤n)(h2:n≤255):IntKind.u8.wrap n=n:=by
 simp[IntKind.wrap,IntKind.bits,IntKind.signed];omega
theorem CH(c:UInt8):ai ctx 231 [.d (.int .u8 c.toNat)] []=some (.ret (.d (.bool (pk c))),[]):=by
 rw[ado (by simp)];simp[Tryz.f231,aq];grind [pk]
theorem yE(c:UInt8):ai ctx 235 [.d (.int .u8 c.toNat)] []=some (.ret (.d (.bool (oh c))),[]):=by
 rw[adr (by simp)];simp[Tryz.f235,aq];grind [oh]
theorem EP(c:UInt8):ai ctx 233 [.d (.int .u8 c.toNat)] []=some (.ret (.d (.bool (eW c))),[]):=by
 rw[adp (by simp)];simp[Tryz.f233,aq,CH,yE];simp only[aep,VF];grind [eW]
theorem ER(c:UInt8):ai ctx 279 [.d (.int .u8 c.toNat)] []=some (.ret (.d (.int .i64 (fU c))),[]):=by
 rw[adD (by simp)];simp[Tryz.f279,aq,yE];have hc:c.toNat<256:=c.toNat_lt;have w:∀y:Int, -9223372036854775808≤y→y≤9223372036854775807→IntKind.i64.wrap y=y:=fun y h1 h2=>au ⟨h1,h2⟩;have w8:∀y:Int,0≤y→y≤255→IntKind.u8.wrap y=y:=fun y h1 h2=>VG h1 h2;grind [fU,oh]
theorem pr{s:Tx}{i:Nat}(h:i<s.length):iP s i=s[i]:=by simp[iP,h]
theorem Y5(c:UInt8)(n:Nat)(hn:n<256):((c.toNat:Int)=n)↔c=UInt8.ofNat n:=by
 constructor
 ·intro h;have h:c.toNat=n:=by omega
  rw[←h];simp
 ·rintro rfl;simp;omega
@[simp] def so(s:Tx)(i:Nat):aE:=.box [.d (.str s),.d (.int .i64 i),.d (.int .i64 (fW (s.take i)).1),.d (.int .i64 (fW (s.take i)).2)]
theorem HR(s:Tx)(i:Nat)(h:i≤s.length):ai ctx 178 [.ptr 0 0 0] [so s i]=some (.ret (.d (.str (s.drop i))),[(0,so s i)]):=by
 rw[ac1 (by simp)];simp[Tryz.f178,aq,h]
theorem ES(s:Tx)(i n:Nat)(h:i+n≤s.length)(hs:s.length≤100000)(k:Kt):∀(r j:Nat),j+r=n→
 aI ctx 180 (.loop (Code.at (aY Tryz.f180) [1,0,0])) ⟨42,aC,[(0,true,.ptr 0 0 0),(4,true,.d (.int .i64 n)),(5,true,.d (.int .i64 j))],[⟨0,0,so s (i+j)⟩]⟩ k=
  k (.exit 0) ⟨42,aC,[(0,true,.ptr 0 0 0),(4,true,.d (.int .i64 n)),(5,true,.d (.int .i64 n)),(6,true,.d (.bool false))],[⟨0,0,so s (i+n)⟩]⟩
 |0,j,hj=>by
  have hj:j=n:=by omega
  subst hj;rw[ah];simp[Tryz.f180]
 |r+1,j,hj=>by
  have ih:=ES s i n h hs k r (j+1) (by omega);have bz:i+j<s.length:=by omega
  have hb:=RW (s:=s) (i:=i+j);have S8:=yu bz;rw[show i+(j+1)=i+j+1 by omega]at ih;generalize hp:fW (s.take (i+j))=p at*;generalize hq:fW (s.take (i+j+1))=q at*;obtain⟨l,c⟩:=p;obtain⟨l2,c2⟩:=q;simp only at hb;have w1:IntKind.i64.wrap (c+1)=c+1:=au (by unfold aX;omega);have w2:IntKind.i64.wrap (l+1)=l+1:=au (by unfold aX;omega);have w3:IntKind.i64.wrap ((i:Int)+j+1)=(i:Int)+j+1:=au (by unfold aX;omega);have w4:IntKind.i64.wrap ((j:Int)+1)=(j:Int)+1:=au (by unfold aX;omega);have hjn:j<n:=by omega
  rw[ah];simp[Tryz.f180,hp,hq]at ih⊢;have h0:(0:Int)≤(i:Int)+j:=by omega
  have ht:((i:Int)+j).toNat=i+j:=by omega
  have de:=pr bz;have qR:=Y5 s[i+j] 10 (by omega);simp at qR;unfold jE at S8;by_cases hc:s[i+j]=10
  ·rw[if_pos hc]at S8;cases S8;simp[hjn,w1,w2,w3,w4,bz,aq,h0,ht,de,hc,ih]
  ·rw[if_neg hc]at S8;cases S8;simp[hjn,w1,w2,w3,w4,bz,aq,h0,ht,de,qR,hc,ih]
theorem wi(s:Tx)(i n:Nat)(h:i+n≤s.length)(hs:s.length≤100000):ai ctx 180 [.ptr 0 0 0,.d (.int .i64 n)] [so s i]=some (.ret (.aW []),[(0,so s (i+n))]):=by
 have hl:=fun k=>ES s i n h hs k n 0 (by omega);rw[ac3 (by simp)];simp[Tryz.f180]at hl⊢;simp[hl]
theorem xc(t:Tx)(c:UInt8):ai ctx 229 [.d (.str t),.d (.int .u8 c.toNat)] []=some (.ret (.d (.int .i64 (Go.Lib.indexByte t c))),[]):=by
 rw[adn (by simp)];simp[Tryz.f229,aq]
set_option maxHeartbeats 1000000 in
theorem wj(s:Tx)(hs:s.length≤100000)(k:Kt)(R:bS):∀(f i:Nat),i≤s.length→s.length-i<f→
 (k .ret ⟨51,aC,[(2,true,.d (.bool (fE f (s.drop i)).2))],[⟨0,0,so s (i+(fE f (s.drop i)).1)⟩]⟩=R)→
 aI ctx 177 (.loop (Code.at (aY Tryz.f177) [1,0,0])) ⟨51,aC,[(0,true,.ptr 0 0 0)],[⟨0,0,so s i⟩]⟩ k=R
 |0,i,hi,hf,hk=>by omega
 |f+1,i,hi,hf,hk=>by
  have hr:=HR s i hi;cases ht:s.drop i with
  |nil=>
   rw[ht]at hr hk;simp[fE]at hr hk;rw[ah];simp[Tryz.f177,hr,hk,aq]
  |cons c r=>
   have hlen:i+(r.length+1)=s.length:=by have:=congrArg List.length ht;simp at this;omega
   have aR:=xc (c::r) 10;rw[uL]at aR;rw[ht]at hr hk;unfold fE at hk;have de:iP (c::r) 0=c:=rfl;have tj:=Hp (c::r);by_cases h1:uK c=true
   ·rw[if_pos h1]at hk;have uZ:=wi s i 1 (by omega) hs;have hd:s.drop (i+1)=r:=by rw[←List.tail_drop,ht];rfl
    have ih:=wj s hs k R f (i+1) (by omega) (by omega) (by rw[hd,show i+1+(fE f r).1=i+(1+(fE f r).1) by omega];exact hk);simp[uK]at h1;rw[ah];simp[Tryz.f177]at hr uZ ih⊢;rcases h1 with (h1|h1)|h1<;>simp[hr,de,h1,uZ,ih,aq]
   rw[if_neg h1]at hk;have n1:¬(c.toNat:Int)=32:=fun h=>h1 (by simp[uK];omega);have n2:¬(c.toNat:Int)=10:=fun h=>h1 (by simp[uK];omega);have n3:¬(c.toNat:Int)=9:=fun h=>h1 (by simp[uK];omega);have p1:=Cr 47 47 c r;have p2:=Cr 40 42 c r;by_cases h2:c=47∧r.head?=some 47
   ·rw[if_pos h2]at hk;have p1:Go.Lib.hasPrefix (c::r) [47,47]=true:=by rw[p1];simp[h2]
    have uZ:=wi s i (iC (c::r)) (by simp at tj;omega) hs;have hd:s.drop (i+iC (c::r))=(c::r).drop (iC (c::r)):=by rw[←List.drop_drop,ht]
    have ni:0<iC (c::r):=by simp[iC,h2.1]
    have ih:=wj s hs k R f (i+iC (c::r)) (by simp at tj;omega) (by omega) (by rw[hd,Nat.add_assoc];exact hk);generalize iC (c::r)=n at*;rw[ah];by_cases hl:n<(c::r).length
    ·rw[if_pos hl]at aR;have BI:¬((n:Int)<0):=by omega
     simp[Tryz.f177]at hr uZ ih aR⊢;simp[hr,de,n1,n2,n3,p1,aR,BI,uZ,ih,aq]
    ·rw[if_neg hl]at aR;have hn:n=r.length+1:=by simp at hl tj;omega
     subst hn;simp[Tryz.f177]at hr uZ ih aR⊢;simp[hr,de,n1,n2,n3,p1,aR,uZ,ih,aq]
   rw[if_neg h2]at hk;have p1:Go.Lib.hasPrefix (c::r) [47,47]=false:=by rw[p1];simpa using h2
   by_cases h3:c=40∧r.head?=some 42
   ·rw[if_pos h3]at hk;have p2:Go.Lib.hasPrefix (c::r) [40,42]=true:=by rw[p2];simp[h3]
    have sL:=EE r.tail;have h2l:(2:Int)≤(r.length:Int)+1:=by cases r with|nil=>simp at h3|cons d r=>simp;omega
    have hb:r.length-1<4294967281:=by omega
    cases MW:mn r.tail with
    |none=>
     rw[MW]at hk sL;simp at hk sL hr;rw[ah];simp[Tryz.f177];simp[hr,de,n1,n2,n3,p1,p2,h2l,hb,sL,hk,aq]
    |some m=>
     rw[MW]at hk sL;have hm:=v7 MW;have Y6:r.tail.length=r.length-1:=by simp
     have uZ:=wi s i (m+4) (by omega) hs;have hd:s.drop (i+(m+4))=(c::r).drop (m+4):=by rw[←List.drop_drop,ht]
     have ih:=wj s hs k R f (i+(m+4)) (by omega) (by omega) (by rw[hd,Nat.add_assoc];exact hk);have BI:¬((m:Int)<0):=by omega
     have w1:IntKind.i64.wrap ((m:Int)+4)=m+4:=au (by unfold aX;omega);rw[ah];simp[Tryz.f177]at hr uZ ih sL⊢;simp[hr,de,n1,n2,n3,p1,p2,h2l,hb,sL,BI,w1,uZ,ih,aq]
   rw[if_neg h3]at hk;have p2:Go.Lib.hasPrefix (c::r) [40,42]=false:=by rw[p2];simpa using h3
   simp at hk hr;rw[ah];simp[Tryz.f177];simp[hr,de,n1,n2,n3,p1,p2,hk,aq]
theorem ZQ(s:Tx)(i:Nat)(hi:i≤s.length)(hs:s.length≤100000)(f:Nat)(hf:s.length-i<f):
 ai ctx 177 [.ptr 0 0 0] [so s i]=some (.ret (.d (.bool (fE f (s.drop i)).2)),[(0,so s (i+(fE f (s.drop i)).1))]):=by
 have hl:=fun k R=>wj s hs k R f i hi hf;rw[ac0 (by simp)];simp[Tryz.f177]at hl⊢;rw[hl];simp
theorem JF(c:UInt8)(b:Int):ai ctx 278 [.d (.int .u8 c.toNat),.ptr 0 0 0] [.box [.d (.int .i64 b)]]=some (.ret (.d (.bool (decide ((fU c:Int)<b)))),[(0,.box [.d (.int .i64 b)])]):=by
 rw[adC (by simp)];simp[Tryz.f278,aq,ER]
theorem Ah(s:Tx)(hs:s.length≤100000)(k:Kt):∀(r n:Nat),n+r=s.length→
 aI ctx 232 (.loop (Code.at (aY Tryz.f232) [1,1,0,0,0])) ⟨20,aC,[(0,true,.d (.str s)),(1,true,.fn 233 []),(5,true,.d (.int .i64 n))],[]⟩ k=
  k (.exit 0) ⟨20,aC,[(0,true,.d (.str s)),(1,true,.fn 233 []),(5,true,.d (.int .i64 (n+((s.drop n).takeWhile eW).length:Nat))),(16,true,.d (.bool false))],[]⟩
 |0,n,hn=>by
  have hn:n=s.length:=by omega
  subst hn;rw[ah];simp[Tryz.f232]
 |r+1,n,hn=>by
  have bz:n<s.length:=by omega
  have ih:=Ah s hs k r (n+1) (by omega);have w1:IntKind.i64.wrap ((n:Int)+1)=(n:Int)+1:=au (by unfold aX;omega);have de:=pr bz;have cD:=EP s[n];have hd:s.drop n=s[n]::s.drop (n+1):=List.drop_eq_getElem_cons bz;rw[hd,List.takeWhile_cons];rw[ah];cases hq:eW s[n]with
  |true=>
   rw[hq]at cD;have e:n+1+(List.takeWhile eW (s.drop (n+1))).length=n+((List.takeWhile eW (s.drop (n+1))).length+1):=by omega
   rw[e]at ih;simp[Tryz.f232]at ih cD⊢;simp[bz,de,cD,w1,ih]
  |false=>
   rw[hq]at cD;simp[Tryz.f232]at cD⊢;simp[bz,de,cD]
theorem P9(s:Tx)(hs:s.length≤100000):ai ctx 232 [.d (.str s),.fn 233 []] []=some (.ret (.d (.int .i64 (s.takeWhile eW).length)),[]):=by
 have hl:=fun k=>Ah s hs k s.length 0 (by omega);rw[SP (by simp)];simp[Tryz.f232]at hl⊢;simp[hl]
theorem Ai(s:Tx)(hs:s.length≤100000)(b:Nat)(k:Kt):∀(r n:Nat),n+r=s.length→
 aI ctx 232 (.loop (Code.at (aY Tryz.f232) [1,1,0,0,0])) ⟨20,aC,[(0,true,.d (.str s)),(1,true,.fn 278 [.ptr 0 0 0]),(5,true,.d (.int .i64 n))],[⟨0,0,.box [.d (.int .i64 b)]⟩]⟩ k=
  k (.exit 0) ⟨20,aC,[(0,true,.d (.str s)),(1,true,.fn 278 [.ptr 0 0 0]),(5,true,.d (.int .i64 (n+((s.drop n).takeWhile (fun c=>decide (fU c<b))).length:Nat))),(16,true,.d (.bool false))],[⟨0,0,.box [.d (.int .i64 b)]⟩]⟩
 |0,n,hn=>by
  have hn:n=s.length:=by omega
  subst hn;rw[ah];simp[Tryz.f232]
 |r+1,n,hn=>by
  have bz:n<s.length:=by omega
  have ih:=Ai s hs b k r (n+1) (by omega);have w1:IntKind.i64.wrap ((n:Int)+1)=(n:Int)+1:=au (by unfold aX;omega);have de:=pr bz;have cD:=JF s[n] b;have hd:s.drop n=s[n]::s.drop (n+1):=List.drop_eq_getElem_cons bz;rw[hd,List.takeWhile_cons];rw[ah];by_cases hq:fU s[n]<b
  ·have e:n+1+(List.takeWhile (fun c=>decide (fU c<b)) (s.drop (n+1))).length=n+((List.takeWhile (fun c=>decide (fU c<b)) (s.drop (n+1))).length+1):=by omega
   rw[e]at ih;simp[Tryz.f232,hq]at ih cD⊢;simp[bz,de,cD,w1,ih]
  ·simp[Tryz.f232,hq]at cD⊢;simp[bz,de,cD]
theorem Qa(s:Tx)(hs:s.length≤100000)(b:Nat):ai ctx 232 [.d (.str s),.fn 278 [.ptr 0 0 0]] [.box [.d (.int .i64 b)]]=
 some (.ret (.d (.int .i64 (s.takeWhile (fun c=>decide (fU c<b))).length)),[(0,.box [.d (.int .i64 b)])]):=by
 have hl:=fun k=>Ai s hs b k s.length 0 (by omega);rw[SP (by simp)];simp[Tryz.f232]at hl⊢;simp[hl]
theorem ZR(c:UInt8):fU c≤99:=by
 unfold fU oh;split
 ·rename_i h;simp at h;omega
 ·split<;>omega
set_option maxHeartbeats 1000000 in
theorem HS(s:Tx)(hs:s.length≤100000)(b:Nat)(hb:2≤b∧b≤16)(n v:Nat)(ct:aE)(hn:n≤s.length)(k:Kt)(R:bS):∀(rest:Tx)(i x:Nat),(s.drop i).take rest.length=rest→i+rest.length=n→x≤9223372036854775807→
 (match Dt b x rest with
  |none=>k .ret ⟨83,aC,[(2,true,.d (.int .i64 0)),(3,true,.d (.int .i64 0)),(4,true,.d (.int .i64 2))],[⟨350,1,.box [.d (.int .i64 b)]⟩,⟨500,v,ct⟩]⟩
  |some y=>k (.exit 2) ⟨83,aC,[(0,true,.d (.str s)),(5,true,.ptr 350 1 0),(9,true,.d (.int .i64 n)),(10,true,.d (.int .i64 y)),(11,true,.d (.int .i64 n)),(63,true,.d (.bool false))],[⟨350,1,.box [.d (.int .i64 b)]⟩,⟨500,v,ct⟩]⟩)=R→
 aI ctx 236 (.loop (Code.at (aY Tryz.f236) [1,1,1,1,1,1,0,1,0,0])) ⟨83,aC,[(0,true,.d (.str s)),(5,true,.ptr 350 1 0),(9,true,.d (.int .i64 n)),(10,true,.d (.int .i64 x)),(11,true,.d (.int .i64 i))],[⟨350,1,.box [.d (.int .i64 b)]⟩,⟨500,v,ct⟩]⟩ k=R
 |[],i,x,ht,hi,hx,hR=>by
  have hi:i=n:=by simpa using hi
  subst hi;simp[Dt]at hR;rw[ah];simp[Tryz.f236,hR]
 |c::rest,i,x,ht,hi,hx,hR=>by
  simp only[List.length_cons]at hi ht;have bz:i<s.length:=by omega
  have cD:i<n:=by omega
  have hd:s.drop i=s[i]::s.drop (i+1):=List.drop_eq_getElem_cons bz;rw[hd,List.take_succ_cons]at ht;have hc:s[i]=c:=(List.cons.inj ht).1;have nJ:=(List.cons.inj ht).2;have de:=pr bz;have hv:=ER c;have hvl:=ZR c;have w1:IntKind.i64.wrap ((i:Int)+1)=(i:Int)+1:=au (by unfold aX;omega);have w2:IntKind.i64.wrap (9223372036854775807-(fU c:Int))=((9223372036854775807-fU c:Nat):Int):=by rw[au (by unfold aX;omega)];omega
  have hqb:(9223372036854775807-fU c)/b≤9223372036854775807:=Nat.le_trans (Nat.div_le_self _ _) (Nat.sub_le _ _);have w3:IntKind.i64.wrap (((9223372036854775807-fU c:Nat):Int)/(b:Int))=(((9223372036854775807-fU c)/b:Nat):Int):=by
   rw[←Int.natCast_ediv];generalize (9223372036854775807-fU c)/b=z at hqb;exact au (by unfold aX;omega)
  have ET:b≠0:=by omega
  unfold Dt at hR;rw[ah];by_cases ho:(9223372036854775807-fU c)/b<x
  ·have cq:((9223372036854775807-fU c:Nat):Int)/(b:Int)<x:=by rw[←Int.natCast_ediv];exact Int.ofNat_lt.2 ho
   rw[if_pos ho]at hR;simp at hR hv;simp[Tryz.f236];simp[cD,bz,de,hc,hv,w2,w3,ET,cq,hR]
  ·have cq:¬(((9223372036854775807-fU c:Nat):Int)/(b:Int)<x):=by rw[←Int.natCast_ediv];exact fun h=>ho (Int.ofNat_lt.1 h)
   rw[if_neg ho]at hR;have hm:x*b≤9223372036854775807-fU c:=by
    have h1:x≤(9223372036854775807-fU c)/b:=by omega
    have:=Nat.mul_le_mul_right b h1;have h2:=Nat.div_mul_le_self (9223372036854775807-fU c) b;omega
   have jx:(x:Int)*(b:Int)=((x*b:Nat):Int):=by simp
   have w4:IntKind.i64.wrap ((x:Int)*b)=((x*b:Nat):Int):=by rw[jx];exact au (by unfold aX;omega)
   have w5:IntKind.i64.wrap (((x*b:Nat):Int)+fU c)=((x*b+fU c:Nat):Int):=by rw[au (by unfold aX;omega)];simp
   have ih:=HS s hs b hb n v ct hn k R rest (i+1) (x*b+fU c) nJ (by omega) (by omega) hR;generalize hxb:x*b+fU c=xb at*;generalize x*b=xm at*;simp[Tryz.f236]at ih⊢;simp[cD,bz,de,hc,hv,w1,w2,w3,w4,w5,ET,cq,ih]
theorem jT{a:UInt8}{p s:Tx}(h:(a::p).isPrefixOf s=true):s.head?=some a∧p.length+1≤s.length:=by
 have h':=List.isPrefixOf_iff_prefix.1 h;refine⟨?_,by simpa using h'.length_le⟩;obtain⟨t,rfl⟩:=h';rfl
theorem wm(s:Tx):(Go.Lib.hasPrefix s [50,35]=true∧Go.Lib.hasPrefix s [56,35]=false∧Go.Lib.hasPrefix s [49,54,35]=false∧nf s=(2,2)∧2≤s.length)∨
 (Go.Lib.hasPrefix s [50,35]=false∧Go.Lib.hasPrefix s [56,35]=true∧Go.Lib.hasPrefix s [49,54,35]=false∧nf s=(8,2)∧2≤s.length)∨
 (Go.Lib.hasPrefix s [50,35]=false∧Go.Lib.hasPrefix s [56,35]=false∧Go.Lib.hasPrefix s [49,54,35]=true∧nf s=(16,3)∧3≤s.length)∨
 (Go.Lib.hasPrefix s [50,35]=false∧Go.Lib.hasPrefix s [56,35]=false∧Go.Lib.hasPrefix s [49,54,35]=false∧nf s=(10,0)∧0≤s.length):=by
 unfold Go.Lib.hasPrefix nf;have x1:([50,35]:Tx).isPrefixOf s=true→([56,35]:Tx).isPrefixOf s=true→False:=fun h g=>by
  have h:=(jT h).1;have g:=(jT g).1;rw[h]at g;revert g;decide
 have x2:([50,35]:Tx).isPrefixOf s=true→([49,54,35]:Tx).isPrefixOf s=true→False:=fun h g=>by
  have h:=(jT h).1;have g:=(jT g).1;rw[h]at g;revert g;decide
 have x3:([56,35]:Tx).isPrefixOf s=true→([49,54,35]:Tx).isPrefixOf s=true→False:=fun h g=>by
  have h:=(jT h).1;have g:=(jT g).1;rw[h]at g;revert g;decide
 have l1:([50,35]:Tx).isPrefixOf s=true→2≤s.length:=fun h=>(jT h).2;have l2:([56,35]:Tx).isPrefixOf s=true→2≤s.length:=fun h=>(jT h).2;have l3:([49,54,35]:Tx).isPrefixOf s=true→3≤s.length:=fun h=>(jT h).2;cases h2:([50,35]:Tx).isPrefixOf s<;>cases h8:([56,35]:Tx).isPrefixOf s<;>cases EH:([49,54,35]:Tx).isPrefixOf s<;>simp_all
set_option maxHeartbeats 2000000 in
theorem Qb(s:Tx)(hs:s.length≤100000):ai ctx 236 [.d (.str s)] []=some (.ret (.aW [.d (.int .i64 (mL s).1),.d (.int .i64 (mL s).2.1),.d (.int .i64 (mL s).2.2)]),[]):=by
 obtain⟨b,h,hbh,hb,hhl⟩:∃b h,nf s=(b,h)∧(2≤b∧b≤16)∧h≤s.length:=by
  rcases wm s with ⟨_,_,_,e,hl⟩|⟨_,_,_,e,hl⟩|⟨_,_,_,e,hl⟩|⟨_,_,_,e,hl⟩<;>exact⟨_,_,e,by omega,by omega⟩
 have hw:=Qa (s.drop h) (by simp;omega) b;obtain⟨ds,jq⟩:∃ds,ds=(s.drop h).takeWhile (fun c=>decide (fU c<b)):=⟨_,rfl⟩;rw[←jq]at hw;have hdl:ds.length≤s.length-h:=by
  have:=(List.takeWhile_prefix (fun c=>decide (fU c<b)) (l:=s.drop h)).length_le;rw[←jq]at this;simpa using this
 have hdt:(s.drop h).take ds.length=ds:=by
  rw[jq];exact List.prefix_iff_eq_take.1 (List.takeWhile_prefix _) |>.symm
 obtain⟨n,hn⟩:∃n,n=h+ds.length:=⟨_,rfl⟩;have JV:n≤s.length:=by omega
 have CA:=fun v ct k R=>HS s hs b hb n v ct JV k R ds h 0 hdt hn.symm (by omega);have wn:IntKind.i64.wrap ((h:Int)+ds.length)=(n:Int):=by rw[au (by unfold aX;omega)];omega
 have fm:¬((n:Int)<0):=by omega
 have dP:(0:Int)≤n:=by omega
 obtain⟨F,hF⟩:∃F:Nat×Nat×Nat,F=A0 s b h ds:=⟨_,rfl⟩;have J0:mL s=F:=by unfold mL;rw[hF,hbh];simp only[←jq]
 rw[J0];have c1:IntKind.i64.wrap 1=1:=au (by unfold aX;omega);have c2:IntKind.i64.wrap 2=2:=au (by unfold aX;omega);have c3:IntKind.i64.wrap 3=3:=au (by unfold aX;omega);have r3:List.range' 0 3=[0,1,2]:=rfl;have key:∀(v:Nat)(ct:aE)(k:Kt),n≠h→(n<s.length→eW (iP s n)=false∧iP s n≠35)→
  (∀x,k (.exit 2) ⟨83,aC,[(0,true,.d (.str s)),(5,true,.ptr 350 1 0),(9,true,.d (.int .i64 n)),(10,true,.d (.int .i64 x)),(11,true,.d (.int .i64 n)),(63,true,.d (.bool false))],[⟨350,1,.box [.d (.int .i64 b)]⟩,⟨500,v,ct⟩]⟩=some (.ret (.aW [.d (.int .i64 n),.d (.int .i64 x),.d (.int .i64 0)]),[]))→
  (k .ret ⟨83,aC,[(2,true,.d (.int .i64 0)),(3,true,.d (.int .i64 0)),(4,true,.d (.int .i64 2))],[⟨350,1,.box [.d (.int .i64 b)]⟩,⟨500,v,ct⟩]⟩=some (.ret (.aW [.d (.int .i64 0),.d (.int .i64 0),.d (.int .i64 2)]),[]))→
  aI ctx 236 (.loop (Code.at (aY Tryz.f236) [1,1,1,1,1,1,0,1,0,0])) ⟨83,aC,[(0,true,.d (.str s)),(5,true,.ptr 350 1 0),(9,true,.d (.int .i64 n)),(10,true,.d (.int .i64 (0:Nat))),(11,true,.d (.int .i64 h))],[⟨350,1,.box [.d (.int .i64 b)]⟩,⟨500,v,ct⟩]⟩ k=
   some (.ret (.aW [.d (.int .i64 F.1),.d (.int .i64 F.2.1),.d (.int .i64 F.2.2)]),[]):=by
  intro v ct k h1 h2 h3 h4;have bK:¬(ds=[]∨∃c,s[h+ds.length]?=some c∧(eW c=true∨c=35)):=by
   rintro (hc|⟨c,hc,EU⟩)
   ·exact h1 (by rw[hn,hc];rfl)
   ·rw[←hn]at hc;obtain⟨bz,eT⟩:=List.getElem?_eq_some_iff.1 hc;have h5:=h2 bz;rw[pr bz,eT]at h5;rcases EU with EU|EU
    ·rw[h5.1]at EU;cases EU
    ·exact h5.2 EU
  unfold A0 at hF;rw[if_neg bK,←hn]at hF;refine CA v ct k _ ?_;cases hv:Dt b 0 ds with
  |none=>rw[hv]at hF;rw[hF];exact h4
  |some x=>rw[hv]at hF;rw[hF];exact h3 x
 have err:∀c,n<s.length→iP s n=c→(eW c=true∨c=35)→F=(0,0,5):=by
  intro c bz hc EU;unfold A0 at hF;rw[hF,if_pos (.inr ⟨c,by rw[←hn,List.getElem?_eq_getElem bz,←pr bz,hc],EU⟩)]
 have aeq:n=h→F=(0,0,5):=by
  intro he;unfold A0 at hF;rw[hF,if_pos (.inl (List.length_eq_zero_iff.1 (by omega)))]
 have A7:=EP (iP s n);have h35:=Y5 (iP s n) 35 (by omega);simp at h35;clear hF CA;rw[ads (by simp)];rcases wm s with ⟨p1,p2,p3,e,hl⟩|⟨p1,p2,p3,e,hl⟩|⟨p1,p2,p3,e,hl⟩|⟨p1,p2,p3,e,hl⟩;all_goals
  obtain⟨h',xB⟩:∃h':Nat,h'=h:=⟨_,rfl⟩;rw[hbh]at e;cases e;have hlI:=Int.ofNat_le.2 hl;simp[Tryz.f236]at hw wn hlI key aeq;simp[Tryz.f236,r3];iterate 4 (rw[ah];simp[p1,p2,p3,c1,c2,c3,aq])
  simp[hl,hlI,hw,wn];by_cases MX:n=h'
  ·have S9:=aeq (MX.trans xB);rw[xB]at MX;simp[MX,S9]
  ·have MY:¬((n:Int)=(h':Int)):=by omega
   rw[xB]at MY MX;simp at MY;by_cases bz:n<s.length
   ·cases cD:eW (iP s n)
    ·rw[cD]at A7;by_cases HU:iP s n=35
     ·have S9:=err _ bz HU (.inr rfl);rw[HU]at A7;simp at A7;simp[MY,bz,A7,HU,S9]
     ·have apl:¬((iP s n).toNat:Int)=35:=fun h=>HU (h35.1 h);simp[MY,bz,A7,apl];exact key _ _ _ MX (fun _=>⟨cD,HU⟩) (fun x=>by simp) (by simp)
    ·have S9:=err _ bz rfl (.inl cD);rw[cD]at A7;simp[MY,bz,A7,S9]
   ·simp[MY,bz];exact key _ _ _ MX (fun h=>absurd h bz) (fun x=>by simp) (by simp)
def qE(s:Tx):Nat→List Tx→Int
 |_,[]=> -1
 |i,x::r=>if s=x then (i:Int)else qE s (i+1) r
theorem HV(s:Tx):∀(l:List Tx)(i:Nat),decide (0≤qE s i l)=decide (s∈l)
 |[],i=>by simp[qE]
 |x::r,i=>by
  have:=HV s r (i+1);unfold qE;by_cases h:s=x
  ·simp[h]
  ·simp only[if_neg h,this];simp[h]
theorem Aj(l:List Tx)(hl:l.length≤1000)(s:Tx)(k:Kt)(R:bS):∀(rest:List Tx)(i:Nat),l.drop i=rest→i+rest.length=l.length→
 ((if 0≤qE s i rest then k .ret ⟨19,aC,[(4,true,.d (.int .i64 (qE s i rest)))],[]⟩else k (.exit 0) ⟨19,aC,[(0,true,.d (.list (l.map .str))),(1,true,.d (.str s)),(7,true,.d (.int .i64 l.length)),(8,true,.d (.int .i64 l.length)),(9,true,.d (.bool false))],[]⟩)=R)→
 aI ctx 308 (.loop (Code.at (aY Tryz.f308) [1,0,1,0,0])) ⟨19,aC,[(0,true,.d (.list (l.map .str))),(1,true,.d (.str s)),(7,true,.d (.int .i64 l.length)),(8,true,.d (.int .i64 i))],[]⟩ k=R
 |[],i,hd,hi,h=>by
  have hi:i=l.length:=by simpa using hi
  subst hi;rw[ah];simp[qE]at h;simp[Tryz.f308,h]
 |x::rest,i,hd,hi,h=>by
  have bz:i<l.length:=by simp at hi;omega
  have hx:l[i]=x:=by
   have:=congrArg (·[0]?) hd;simp at this;simpa [bz]using this
  have w1:IntKind.i64.wrap ((i:Int)+1)=(i:Int)+1:=au (by unfold aX;omega);unfold qE at h;rw[ah];by_cases hs:s=x
  ·simp[hs]at h;simp[Tryz.f308];simp[bz,hx,hs,h]
  ·rw[if_neg hs]at h;have ih:=Aj l hl s k R rest (i+1) (by rw[←List.tail_drop,hd];rfl) (by simp at hi;omega) h;simp[Tryz.f308]at ih⊢;simp[bz,hx,hs,w1,ih]
theorem HW(s:Tx):∀(l:List Tx)(i:Nat),¬0≤qE s i l→qE s i l= -1
 |[],i,_=>rfl
 |x::r,i,h=>by
  unfold qE at h⊢;split
  ·rename_i hs;rw[if_pos hs]at h;omega
  ·rename_i hs;rw[if_neg hs]at h;exact HW s r (i+1) h
theorem Qc(l:List Tx)(hl:l.length≤1000)(s:Tx):ai ctx 308 [.d (.list (l.map .str)),.d (.str s)] []=some (.ret (.d (.int .i64 (qE s 0 l))),[]):=by
 have cJ:=fun k R h=>Aj l hl s k R l 0 rfl (by simp) h;rw[adH (by simp)];simp[Tryz.f308]at cJ⊢;rw[cJ];split
 ·simp
 ·rename_i h;simp[HW s l 0 h]
theorem HX(l:List Tx)(hl:l.length≤1000)(s:Tx):ai ctx 277 [.d (.list (l.map .str)),.d (.str s)] []=some (.ret (.d (.bool (decide (s∈l)))),[]):=by
 have h:=Qc l hl s;rw[adB (by simp)];simp[Tryz.f277,h,←HV s l 0]
theorem Qd:ai ctx 167 [.d (.str RX)] []=some (.ret (.d (.list (jF.map .str))),[]):=bB 300 (by kernel_rfl)
theorem VH(s:Tx):ai ctx 234 [.d (.str s)] []=some (.ret (.d (.bool (te s))),[]):=by
 have hf:=Qd;have hc:=HX jF (by decide) s;unfold RX at hf;generalize jF.map D.str=W at hf hc;rw[adq (by simp)];simp[Tryz.f234,hf,hc,te]
theorem xd(c:UInt8):∀(l:Tx),0≤Go.Lib.indexByte l c↔c∈l
 |[]=>by simp[Go.Lib.indexByte]
 |b::r=>by
  have ih:=xd c r;have hg:=Go.Lib.indexByte_ge r c;unfold Go.Lib.indexByte;by_cases h:b=c
  ·simp[h]
  ·have h':¬c=b:=fun e=>h e.symm;simp only[beq_iff_eq,h,if_false,List.mem_cons,h',false_or,←ih];split<;>omega
theorem VI(c:UInt8)(r:Tx):rk (c::r)=if Go.Lib.hasPrefix (c::r) [58,61]=true then 2 else if Go.Lib.hasPrefix (c::r) [60,61]=true then 2 else if Go.Lib.hasPrefix (c::r) [62,61]=true then 2 else if Go.Lib.hasPrefix (c::r) [60,62]=true then 2 else if Go.Lib.hasPrefix (c::r) [46,46]=true then 2 else if 0≤Go.Lib.indexByte yw c then 1 else 0:=by
 have hm:=xd c yw;unfold rk Hq Go.Lib.hasPrefix;simp only[List.any_cons,List.any_nil,Bool.or_false,Bool.or_eq_true,hm];grind
theorem VJ(c:UInt8)(r:Tx):ai ctx 237 [.d (.str (c::r))] []=some (.ret (.d (.int .i64 (rk (c::r)))),[]):=by
 have r5:List.range' 0 5=[0,1,2,3,4]:=rfl;have c1:IntKind.i64.wrap 1=1:=au (by unfold aX;omega);have c2:IntKind.i64.wrap 2=2:=au (by unfold aX;omega);have c3:IntKind.i64.wrap 3=3:=au (by unfold aX;omega);have c4:IntKind.i64.wrap 4=4:=au (by unfold aX;omega);have c5:IntKind.i64.wrap 5=5:=au (by unfold aX;omega);have hb:=xc yw c;rw[adt (by simp)];simp[Tryz.f237,r5];iterate 6 (try (rw[ah];simp[c1,c2,c3,c4,c5,aq]))
 have de:iP (c::r) 0=c:=rfl;rw[VI];unfold yw at hb⊢;simp[de,hb];grind
theorem MZ(s:Tx):(mL s).1≤s.length:=by
 unfold mL A0;rcases wm s with ⟨_,_,_,e,hl⟩|⟨_,_,_,e,hl⟩|⟨_,_,_,e,hl⟩|⟨_,_,_,e,hl⟩;all_goals
  rw[e];simp only
  split
  ·simp
  ·split
   ·simp
   ·rename_i x _;simp only
    have:=(List.takeWhile_prefix (fun c=>decide (fU c<(nf s).1)) (l:=s.drop (nf s).2)).length_le;rw[e]at this;simp only[List.length_drop]at this;omega
theorem HY(c:UInt8)(r:Tx):rk (c::r)≤(c::r).length:=by
 unfold rk;split
 ·rename_i h;simp only[Hq,List.any_cons,List.any_nil,Bool.or_false,Bool.or_eq_true]at h;rcases h with h|h|h|h|h<;>exact (jT h).2
 ·simp only
  split<;>simp
set_option maxHeartbeats 1000000 in
theorem VK(c:UInt8)(r:Tx)(hs:(c::r).length≤100000)(line Cs:Int):ai ctx 179 [.d (.str (c::r)),.d (po ⟨0,[],0,line,Cs⟩)] []=
 some (.ret (.aW [.d (po ⟨(j7 (c::r)).2.1,(c::r).take (j7 (c::r)).2.2.1,(j7 (c::r)).2.2.2,line,Cs⟩),.d (.int .i64 (j7 (c::r)).1)]),[]):=by
 have de:iP (c::r) 0=c:=rfl;have hl:=CH c;have hd:=yE c;have hw:=P9 (c::r) hs;have rO:=Qb (c::r) hs;have hsg:=VJ c r;have A8:((c::r).takeWhile eW).length≤(c::r).length:=(List.takeWhile_prefix _).length_le;have DB:=MZ (c::r);have HZ:=HY c r;have M0:=VH ((c::r).take ((c::r).takeWhile eW).length);unfold j7;generalize dP:((c::r).takeWhile eW).length=n1 at*;generalize qK:rk (c::r)=n2 at*;generalize hF:mL (c::r)=F at*;obtain⟨n,x,e⟩:=F;simp only at rO DB;rw[ac2 (by simp)];simp only[List.length_cons]at A8 DB HZ;cases h1:pk c with
 |true=>
  rw[h1]at hl;cases h2:te ((c::r).take n1)with
  |true=>
   rw[h2]at M0;simp[Tryz.f179,aq,de,hl,hw,A8,M0,h1,h2]
  |false=>
   rw[h2]at M0;by_cases h3:16<n1
   ·simp[Tryz.f179,aq,de,hl,hw,A8,M0,h1,h2,h3];omega
   ·simp[Tryz.f179,aq,de,hl,hw,A8,M0,h1,h2,h3];omega
 |false=>
  rw[h1]at hl;cases h2:oh c with
  |true=>
   rw[h2]at hd;by_cases h3:e=0
   ·simp[Tryz.f179,aq,de,hl,hd,rO,DB,h1,h2,h3]
   ·simp[Tryz.f179,aq,de,hl,hd,rO,DB,h1,h2,h3]
  |false=>
   rw[h2]at hd;by_cases h3:n2=0
   ·simp[Tryz.f179,aq,de,hl,hd,hsg,HZ,h1,h2,h3]
   ·simp[Tryz.f179,aq,de,hl,hd,hsg,HZ,h1,h2,h3]
theorem VL{s:Tx}(h:(mL s).2.2=0):1≤(mL s).1:=by
 unfold mL A0 at h⊢;split
 ·rename_i hc;rw[if_pos hc]at h;simp at h
 ·rename_i hc;rw[if_neg hc]at h;split
  ·rename_i hv;rw[hv]at h;simp at h
  ·simp only
   simp only[not_or]at hc;have:=List.length_pos_iff.2 hc.1;omega
theorem VM{c:UInt8}{r:Tx}(h:(j7 (c::r)).1=0):1≤(j7 (c::r)).2.2.1∧(j7 (c::r)).2.2.1≤(c::r).length:=by
 have A8:((c::r).takeWhile eW).length≤(c::r).length:=(List.takeWhile_prefix _).length_le;have DB:=MZ (c::r);have HZ:=HY c r;have nH:pk c=true→1≤((c::r).takeWhile eW).length:=by
  intro hl;have:eW c=true:=by unfold eW;rw[hl];rfl
  simp[this]
 have hnp:=VL (s:=c::r);unfold j7 at h⊢;simp only at h⊢;generalize ((c::r).takeWhile eW).length=n1 at*;generalize rk (c::r)=n2 at*;generalize mL (c::r)=F at*;by_cases h1:pk c=true
 ·simp only[if_pos h1]at h⊢;have:=nH h1;split at h
  ·rename_i hw;rw[if_pos hw];exact⟨this,A8⟩
  ·rename_i hw;rw[if_neg hw];split at h
   ·simp at h
   ·rename_i EH;rw[if_neg EH];exact⟨this,A8⟩
 ·simp only[if_neg h1]at h⊢;by_cases h2:oh c=true
  ·simp only[if_pos h2]at h⊢;split at h
   ·rename_i he;rw[if_pos he];exact⟨hnp he,DB⟩
   ·rename_i he;exact absurd h he
  ·simp only[if_neg h2]at h⊢;split at h
   ·simp at h
   ·rename_i he;rw[if_neg he];exact⟨by simp only;omega,HZ⟩
set_option maxHeartbeats 1000000 in
theorem H0(s:Tx)(hs:s.length≤16384):∀(f i:Nat)(out:List fg)(v4 v5 H2:Nat)(c5 H3:aE),i≤s.length→s.length-i<f→out.length≤i→
 aI ctx 117 (.loop (Code.at (aY Tryz.f117) [1,1,1,1,0,0])) ⟨62,aC,[(4,true,.ptr 300 1 0),(5,true,.ptr 950 1 0),(6,true,.vec 400 v4 0 out.length)],
  [⟨200,1,.vec 5 []⟩,⟨300,1,.box [.d (.int .i64 0),.d (.str []),.d (.int .i64 0),.d (.int .i64 0),.d (.int .i64 0)]⟩,⟨400,v4,.vec 5 (out.map po)⟩,⟨500,v5,c5⟩,⟨550,H2,H3⟩,⟨950,1,so s i⟩]⟩
  (AX 0 (AY Tryz.prog FE 0 [.tmp 2,.tmp 3,.cell 4 63]))=some (.ret (.aW [.d (.list ((A1 s f i out).1.map po)),.d (.int .i64 (A1 s f i out).2.1),.d (po (A1 s f i out).2.2)]),[])
 |0,i,out,v4,v5,H2,c5,H3,hi,hf,ho=>by omega
 |f+1,i,out,v4,v5,H2,c5,H3,hi,hf,ho=>by
  have hg:=ZQ s i hi (by omega) (s.length+1) (by omega);have cv:=zn (s.length+1) (s.drop i);unfold A1;generalize fE (s.length+1) (s.drop i)=g at*;obtain⟨n,ok⟩:=g;simp only[List.length_drop]at cv;simp only at hg⊢;obtain⟨j,hj⟩:∃j,j=i+n:=⟨_,rfl⟩;have gS:j≤s.length:=by omega
  have av3:((i+n:Nat):Int)=(i:Int)+n:=by omega
  rw[←hj]at hg⊢;have hr:=HR s j gS;generalize hp:fW (s.take j)=p at*;obtain⟨l,c⟩:=p;rw[ah];cases ok with
  |false=>
   simp[hp]at hg;simp[Tryz.f117,aq,hg,here]
  |true=>
   simp only[Bool.true_eq_false,if_false];cases ht:s.drop j with
   |nil=>
    rw[ht]at hr;simp[hp]at hg hr;have g1:(out.length+1)*48≤140737488355328∧out.length≤4611686018427387903:=by omega
    simp[Tryz.f117,aq,hg,hr,here,g1]
   |cons a r=>
    rw[ht]at hr;have hlen:j+(r.length+1)=s.length:=by have:=congrArg List.length ht;simp at this;omega
    have hn:=VK a r (by simp;omega) l c;have cV:=VM (c:=a) (r:=r);have bK:¬(a::r=[]):=by simp
    simp only[if_neg bK];generalize j7 (a::r)=F at*;obtain⟨e,kd,m,x⟩:=F;simp only at hn cV⊢;simp[hp]at hg hr;have g1:(out.length+1)*48≤140737488355328∧out.length≤4611686018427387903:=by omega
    by_cases he:e=0
    ·subst he;obtain⟨rW,jx⟩:=cV rfl;simp only[List.length_cons]at jx;have uZ:=wi s j m (by omega) (by omega);have ih:=fun v4 v5 H2 c5 H3=>H0 s hs f (j+m) (out++[⟨kd,(a::r).take m,x,l,c⟩]) v4 v5 H2 c5 H3 (by omega) (by omega) (by simp;omega);have F6:min m (r.length+1)=m:=by omega
     have av4:((min m (r.length+1):Nat):Int)=m:=by rw[F6]
     simp at hn;simp[Tryz.f117,hp]at ih uZ⊢;simp[aq,hg,hr,hn,g1,F6,uZ,ih]
    ·simp at hn;have heI:¬((e:Int)=0):=by omega
     simp[Tryz.f117,aq,hg,hr,hn,he,heI,here]
theorem ZS(s:Tx):ai ctx 117 [.d (.str s)] []=some (.ret (.aW [.d (.list ((Du s).1.map po)),.d (.int .i64 (Du s).2.1),.d (po (Du s).2.2)]),[]):=by
 rw[acL (by simp)];unfold Du;by_cases h:16384<s.length
 ·have hI:(16384:Int)<s.length:=by omega
  simp[Tryz.f117,aq,h,hI]
 ·have hI:¬((16384:Int)<s.length):=by omega
  have hl:=fun v4 v5 H2 c5 H3=>H0 s (by omega) (s.length+1) 0 [] v4 v5 H2 c5 H3 (by omega) (by omega) (by simp);rw[if_neg h];generalize A1 s (s.length+1) 0 []=L at*;have hp:fW []=(1,1):=rfl;simp[Tryz.f117,hp]at hl;simp[Tryz.f117,aq,h,hI];exact hl _ _ _ _ _
end Go.Am
end
section
namespace Go.Am
open Go Go.Proofs
variable [Inhabited bX]
def EV(p q:Int×Int):Prop:=p.1<q.1∨(p.1=q.1∧p.2<q.2)
theorem H4(p:Int×Int)(c:UInt8):EV p (jE p c):=by
 unfold EV jE;split
 ·left;simp only;omega
 ·right;simp only;exact⟨trivial,by omega⟩
theorem Ta{p q r:Int×Int}(h:EV p q)(k:EV q r):EV p r:=by
 unfold EV at*;omega
theorem Na{s:Tx}:∀(d i:Nat),i+d+1≤s.length→EV (fW (s.take i)) (fW (s.take (i+d+1)))
 |0,i,h=>by
  rw[yu (show i+0<s.length by omega)];exact H4 _ _
 |d+1,i,h=>by
  have:=Na (s:=s) d i (by omega);rw[yu (show i+(d+1)<s.length by omega)];exact Ta this (H4 _ _)
theorem Nb{s:Tx}{i j:Nat}(h:i<j)(hj:j≤s.length):¬((fW (s.take j)).1=(fW (s.take i)).1∧(fW (s.take j)).2=(fW (s.take i)).2):=by
 have:=Na (s:=s) (j-i-1) i (by omega);rw[show i+(j-i-1)+1=j by omega]at this;unfold EV at this;omega
inductive Laid(s:Tx):Nat→List fg→Prop
 |fin (i:Nat) (h:i≤s.length):Laid s i [here (fW (s.take s.length))]
 |sign (i j m:Nat) (k n:Int) (r:List fg) (h1:i≤j) (h2:j+m≤s.length) (h3:1≤m) (h:Laid s (j+m) r):
  Laid s i (⟨k,(s.drop j).take m,n,(fW (s.take j)).1,(fW (s.take j)).2⟩::r)
theorem Laid.weaken{s:Tx}{i i':Nat}{r:List fg}(h:Laid s i r)(hi:i'≤i):Laid s i' r:=by
 cases h with
 |fin _ h=>exact .fin i' (by omega)
 |sign _ j m k n r h1 h2 h3 h=>exact .sign i' j m k n r (by omega) h2 h3 h
theorem Laid.step{s:Tx}{i:Nat}{t:fg}{r:List fg}(h:Laid s i (t::r))(hi:i≤s.length):
 (¬(t.line=(fW (s.take i)).1∧t.Cs=(fW (s.take i)).2)∧i<s.length∧Laid s (i+1) (t::r))∨
 ((t.line=(fW (s.take i)).1∧t.Cs=(fW (s.take i)).2)∧t.text.length≤s.length-i∧(s.drop i).take t.text.length=t.text∧((i<s.length∧Laid s (i+1) r)∨(i=s.length∧r=[]))):=by
 cases h with
 |fin _ h=>
  by_cases he:i=s.length
  ·subst he;right;simp[here]
  ·left;have bz:i<s.length:=by omega
   exact⟨Nb bz (Nat.le_refl _),bz,.fin _ (by omega)⟩
 |sign _ j m k n r h1 h2 h3 h=>
  by_cases he:i=j
  ·subst he;right;have hl:((s.drop i).take m).length=m:=by simp;omega
   refine⟨⟨rfl,rfl⟩,?_,?_,.inl ⟨by omega,h.weaken (by omega)⟩⟩
   ·simp only[hl];omega
   ·simp only[hl]
  ·left;have bz:i<j:=by omega
   exact⟨Nb bz (by omega),by omega,.sign _ j m k n r (by omega) h2 h3 h⟩
end Go.Am
end
section
namespace Go.Am
open Go Go.Proofs
variable [Inhabited bX]
set_option maxRecDepth 100000
theorem ZT(x y b1 c1 c2 c3 c4 c5:D)(rows:List D):Ds ctx 118 [.ptr 0 0 0,.ptr 1 0 0,.ptr 2 0 0,.lit .nilIface] [.box [.d x,.vec 3 0 0 rows.length,.d y],.box [.d b1],.box [.d c1,.d c2,.d c3,.d c4,.d c5],.vec 8 rows]=
 some (.ret (.aW []),[(0,.box [.d x,.vec 3 1 0 rows.length,.d y]),(0,.box [.d b1]),(0,.box [.d c1,.d c2,.d c3,.d c4,.d c5]),(1,.vec 8 rows)]):=by
 rw[acM (by rfl) (by rfl) (by simp)];simp[Tryz.f118];erw[RV rfl];simp
theorem Tb{txt:Tx}{Za:List fg}{a:Tx}{R c:List D}{n m:Int}(cf:Du txt=(Za,0,⟨0,[],0,0,0⟩))
 (hp:ai ctx 119 [.ptr 0 0 0] [.box [.d (.list (Za.map po)),.d (.int .i64 0),.d (.int .i64 0),.vec 1 0 0 0],.vec 8 []]=
  some (.ret (.agg [.d (.str a),.vec 1 1 0 R.length,.d (.list c)]),[(0,.box [.d (.list (Za.map po)),.d (.int .i64 n),.d (.int .i64 m),.vec 1 1 0 R.length]),(1,.vec 8 R)])):
 ai ctx 78 [.d (.str txt)] []=some (.ret (.aW [.d (.agg [.str a,.list R,.list c]),.d (.int .i64 0),.d (.agg [.int .i64 0,.str [],.int .i64 0,.int .i64 0,.int .i64 0])]),[]):=by
 have hl:=ZS txt;rw[cf]at hl;have hr:=fun x y b1 c1 c2 c3 c4 c5=>ZT x y b1 c1 c2 c3 c4 c5 R;simp only at hl;generalize Za.map po=T at*;have e3:List.take R.length R=R:=List.take_length;rw[ah9 (by simp)];simp at hl hr hp;simp[Tryz.f78,xX,J4,ml,dfv,hl,aq,hp,hr,e3]
end Go.Am
end
section
namespace Go.Am
open Go
def Nc(n:Int):Int:=IntKind.i64.wrap (-n)
def jl(x:Ex):Option (Int×Bool):=
 if bW x=1 then some (ic x,false)
 else if bW x=2 then some (ic x,true)
 else if bW x=6 then (match cN x with
  |[y]=>if bW y=1 then some (Nc (ic y),false)else none
  |_=>none)
 else none
def ng:List Ex→Option (List (Int×Bool))
 |[]=>some []
 |x::r=>match jl x with
  |some p=>(match ng r with
   |some l=>some (p::l)
   |none=>none)
  |none=>none
def lF(n:Int)(t:Bool)(line:Int):Ex:=
 if t=true then .mk 2 n [] [] [] line
 else if 0≤n then .mk 1 n [] [] [] line
 else .mk 6 0 [] [] [.mk 1 (Nc n) [] [] [] line] line
def H5(op:Int):List (Int×Bool)→Option (Int×Bool×Int)
 |[a]=>some (qP op a.1 a.2)
 |[a,b]=>if a.2=b.2 then some (uJ op a.1 b.1 a.2)else none
 |_=>none
def kM(x:Ex):Ex:=
 if bW x<6∨(jl x).isSome then x
 else match ng (cN x)with
  |none=>x
  |some l=>match H5 (bW x) l with
   |none=>x
   |some r=>if r.2.2≠0∨(r.2.1=false∧r.1= -9223372036854775808)then x else lF r.1 r.2.1 (jG x)
mutual
def cY:Ex→Ex
 | .mk op n name field sub line=>kM (.mk op n name field (cR sub) line)
def cR:List Ex→List Ex
 |[]=>[]
 |x::r=>cY x::cR r
end
theorem lZ:∀l:List Ex,cR l=l.map cY
 |[]=>rfl
 |x::r=>by simp[cR,lZ r]
mutual
def oV:Sm→Sm
 | .mk op name to val conds labels fields blocks line=>.mk op name (cY to) (cY val) (cR conds) labels fields (gO blocks) line
def dr:List Sm→List Sm
 |[]=>[]
 |x::r=>oV x::dr r
def gO:List (List Sm)→List (List Sm)
 |[]=>[]
 |b::r=>dr b::gO r
end
def Tc(p:Pg):Pg:=⟨p.name,p.vars,dr p.body⟩
def Ak:Vr:=⟨[],0,0,false,0,0,0,0⟩
def oW:List Vr→Tx→Int→Int×Vr
 |[],_,_=>(0,Ak)
 |v::r,s,n=>if v.name=s then (n,v)else oW r s (n+bN v)
def cj(vs:List Vr)(s:Tx):Int×Vr:=oW vs s 0
def b8:List Vr→Int
 |[]=>0
 |v::r=>bN v+b8 r
def yF:List Pn→Tx→Nat→Option (Nat×Pn)
 |[],_,_=>none
 |p::r,s,i=>if p.name=s then some (i,p)else yF r s (i+1)
def DC:Pn:=⟨[],0,false⟩
def ir(vs:List Vr)(s f:Tx):Int×Pn:=
 if (aZ vs s).isSome=true∧2<(cj vs s).2.ty∧f≠[]then
  (match yF (bC (cj vs s).2.ty) f 0 with
   |some (i,p)=>((cj vs s).1+i,p)
   |none=>(0,DC))
 else (0,DC)
def mD(k:Nat)(x:ar):ar:=if (x.op=9∨x.op=10)∧0≤x.a then {x with a:=x.a+k} else x
def ig(k:Nat)(l:List ar):List ar:=l.map (mD k)
def jn(a b:List ar):List ar:=a++ig a.length b
def sq(to:Int)(x:ar):ar:=if x.op=9∧x.a= -1 then {x with a:=to} else x
def H6(to:Int)(x:ar):ar:=if x.op=9∧x.a= -2 then {x with a:=to} else x
def ins(op a b n m:Int):ar:=⟨op,a,b,n,m⟩
mutual
def ak(vs:List Vr):Ex→List ar×Bool
 | .mk op n name field sub _=>
  if op=1∨op=2 then ([ins 1 0 0 n 0],decide (op=2))
  else if op=3 then ([ins (1+(cj vs name).2.ty) (cj vs name).1 0 0 0],decide ((cj vs name).2.ty=2))
  else if op=5 then ([ins (1+(ir vs name field).2.ty) (ir vs name field).1 0 0 0],decide ((ir vs name field).2.ty=2))
  else if op=4 then (lz vs sub++[ins (3+(cj vs name).2.ty) (cj vs name).1 0 (cj vs name).2.lo (cj vs name).2.hi],decide ((cj vs name).2.ty=2))
  else ((eY vs sub).1++[ins 8 (if (eY vs sub).2=true then 1 else 0) op 0 0],decide (op=7∨12<op))
def eY(vs:List Vr):List Ex→List ar×Bool
 |[]=>([],false)
 |[x]=>ak vs x
 |x::r=>((ak vs x).1++(eY vs r).1,(eY vs r).2)
def lz(vs:List Vr):List Ex→List ar
 |[]=>[]
 |x::_=>(ak vs x).1
end
mutual
def aL(h:Int):Ex→Int
 | .mk op _ _ _ sub _=>if op=1∨op=2∨op=3∨op=5 then h+1 else max (h+1) (fF h sub)
def fF(h:Int):List Ex→Int
 |[]=>0
 |x::r=>max (aL h x) (fF (h+1) r)
end
def cK:List (List ar)→List (List ar)→List ar
 |_,[]=>[]
 |[],b::r=>if r=[]then b else jn (b++[ins 9 (b.length+1+(cK [] r).length) 0 0 0]) (cK [] r)
 |t::ts,b::r=>
  let out:=cK ts r
  let part:=if r=[]then b else b++[ins 9 (b.length+1+out.length) 0 0 0]
  jn (t++[ins 10 (t.length+1+part.length) 0 0 0]++ig (t.length+1) part) out
def dH(cell:Int):List Int→List ar
 |a::b::r=>ins 14 cell 0 a b::ins 8 1 21 0 0::dH cell r
 |_=>[]
def dw(vs:List Vr)(name:Tx):List Tx→List Ex→List ar
 |f::fs,x::xs=>(ak vs x).1++ins 6 (ir vs name f).1 0 0 0::dw vs name fs xs
 |_,_=>[]
def oz(l:List ar):List ar:=l.map (sq l.length)
def gV(t b:List ar):List ar:=oz (ins 11 0 0 0 0::t++[ins 10 (t.length+3+b.length) 0 0 0]++ig (t.length+2) b++[ins 9 0 0 0 0])
def lA(t b:List ar):List ar:=oz (b++ins 11 0 0 0 0::t++[ins 10 0 0 0 0])
def kE(at_ cell:Int)(b:List ar):List ar:=
 oz ([ins 11 0 0 0 0,ins 13 at_ cell 0 0,ins 10 (b.length+8) 0 0 0]++ig 3 b++[ins 2 at_ 0 0 0,ins 2 (cell+1) 0 0 0,ins 8 0 8 0 0,ins 6 at_ 0 0 0,ins 9 0 0 0 0])
mutual
def cM(vs:List Vr):Sm→Int→List ar×Int
 | .mk op name to val conds labels fields blocks _,c=>
  if op=1 then
   (if bW to=3 then (ak vs val).1++[ins 6 (cj vs (dA to)).1 0 0 0]
    else lz vs (cN to)++((ak vs val).1++[ins 7 (cj vs (dA to)).1 0 (cj vs (dA to)).2.lo (cj vs (dA to)).2.hi]),c)
  else if op=2 then (cK (conds.map fun x=>(ak vs x).1) (aw vs blocks c).1,(aw vs blocks c).2)
  else if op=3 then (jn ((ak vs val).1++[ins 6 c 0 0 0]) (cK (labels.map fun l=>ins 1 0 0 0 0::dH c l) (aw vs blocks (c+1)).1),(aw vs blocks (c+1)).2)
  else if op=4 then (jn ((eY vs conds).1++[ins 6 (c+1) 0 0 0,ins 6 c 0 0 0,ins 6 (cj vs name).1 0 0 0]) (kE (cj vs name).1 c (kF vs blocks (c+2)).1),(kF vs blocks (c+2)).2)
  else if op=5 then (gV (ak vs val).1 (kF vs blocks c).1,(kF vs blocks c).2)
  else if op=6 then (lA (ak vs val).1 (kF vs blocks c).1,(kF vs blocks c).2)
  else if op=7 then ([ins 9 (-1) 0 0 0],c)
  else if op=8 then ([ins 9 (-2) 0 0 0],c)
  else (dw vs name fields conds++[ins 12 (cj vs name).1 (cj vs name).2.ty 0 0],c)
def ag(vs:List Vr):List Sm→Int→List ar×Int
 |[],c=>([],c)
 |x::r,c=>(jn (jn [ins 11 0 0 0 0] (cM vs x c).1) (ag vs r (cM vs x c).2).1,(ag vs r (cM vs x c).2).2)
def aw(vs:List Vr):List (List Sm)→Int→List (List ar)×Int
 |[],c=>([],c)
 |b::r,c=>((ag vs b c).1::(aw vs r (ag vs b c).2).1,(aw vs r (ag vs b c).2).2)
def kF(vs:List Vr):List (List Sm)→Int→List ar×Int
 |[],c=>([],c)
 |b::_,c=>ag vs b c
end
def jU:List Ex→Int
 |[]=>0
 |x::r=>max (aL 0 x) (jU r)
mutual
def gq:Sm→Int
 | .mk op _ to val conds labels _ blocks _=>
  if op=1 then (if bW to=3 then aL 0 val else max (fF 0 (cN to)) (aL 1 val))
  else if op=2 then max (jU conds) (b6 blocks)
  else if op=3 then max (aL 0 val) (max (if labels=[]then 0 else 2) (b6 blocks))
  else if op=4 then max (max (fF 0 conds) 3) (b6 blocks)
  else if op=5∨op=6 then max (aL 0 val) (b6 blocks)
  else if op=7∨op=8 then 0
  else jU conds
def bg:List Sm→Int
 |[]=>0
 |x::r=>max (gq x) (bg r)
def b6:List (List Sm)→Int
 |[]=>0
 |b::r=>max (bg b) (b6 r)
end
def wo(p:Pg):Option (List ar×Int×Int):=
 let g:=ag p.vars (dr p.body) (b8 p.vars)
 if 4096<g.1.length+1∨64<bg (dr p.body)then none
 else some (g.1.map (H6 g.1.length)++[ins 15 0 0 0 0],b8 p.vars,g.2)
@[simp] theorem lh(k:Nat)(l:List ar):(ig k l).length=l.length:=by simp[ig]
@[simp] theorem nq(l:List ar):(oz l).length=l.length:=by simp[oz]
theorem ei(a b:List ar):(jn a b).length=a.length+b.length:=by simp[jn]
theorem CI(k:Nat)(x:ar):(mD k x).op=x.op:=by unfold mD;split<;>rfl
theorem H7(k:Int)(x:ar):(sq k x).op=x.op:=by unfold sq;split<;>rfl
theorem aes(k:Int)(x:ar):(H6 k x).op=x.op:=by unfold H6;split<;>rfl
def bO(l:List ar):Nat:=l.countP fun x=>decide (x.op=11)
theorem dt(a b:List ar):bO (a++b)=bO a+bO b:=List.countP_append
theorem yG{f:ar→ar}(h:∀x,(f x).op=x.op)(l:List ar):bO (l.map f)=bO l:=by
 unfold bO;rw[List.countP_map];congr 1;funext x;simp[h]
theorem wq(k:Nat)(l:List ar):bO (ig k l)=bO l:=yG (CI k) l
theorem pt(a b:List ar):bO (jn a b)=bO a+bO b:=by rw[jn,dt,wq]
theorem yH(l:List ar):bO (oz l)=bO l:=yG (H7 _) l
def qF(vs:List Vr)(x:Sm)(c:Int):List ar:=jn [ins 11 0 0 0 0] (cM vs x c).1
theorem VN(vs:List Vr)(x:Sm)(c:Int):(qF vs x c).length=(cM vs x c).1.length+1:=by unfold qF;rw[ei];simp;omega
mutual
def eJ:Ex→Bool
 | .mk _ n _ _ sub _=>decide (-9223372036854775808≤n∧n≤9223372036854775807)&&en sub
def en:List Ex→Bool
 |[]=>true
 |x::r=>eJ x&&en r
end
def DD(n:Int):Bool:=decide (-9223372036854775808≤n∧n≤9223372036854775807)
mutual
def oA:Sm→Bool
 | .mk _ _ to val conds labels _ blocks _=>eJ to&&(eJ val&&(en conds&&(labels.all (fun l=>l.all DD)&&il blocks)))
def iF:List Sm→Bool
 |[]=>true
 |x::r=>oA x&&iF r
def il:List (List Sm)→Bool
 |[]=>true
 |b::r=>iF b&&il r
end
theorem Td{n:Int}(h: -9223372036854775808<n∧n≤9223372036854775807):Nc n= -n:=by
 unfold Nc;simp only[IntKind.wrap,IntKind.bits,IntKind.signed];simp;omega
theorem aet(b:Bool):dO b=0∨dO b=1:=by cases b<;>simp[dO]
def Nd(r:Int×Bool×Int)(t:Bool):Prop:=r.2.2=0→r.2.1=t∧(t=true→r.1=0∨r.1=1)∧(-9223372036854775808≤r.1∧r.1≤9223372036854775807)
theorem u0(t:Bool):Nd lu t:=fun h=>by simp[lu]at h
theorem kG(b:Bool):Nd (dO b,true,0) true:=fun _=>by rcases aet b with h|h<;>simp[h]
theorem zz(z:Int):Nd (uf (kS z)) false:=by
 intro h;unfold uf kS at h⊢;split<;>simp_all;all_goals omega
theorem aeu{a b:Int}(ha: -9223372036854775808≤a∧a≤9223372036854775807)(h:¬(a= -9223372036854775808∧b= -1)): -9223372036854775808≤a.tdiv b∧a.tdiv b≤9223372036854775807:=by
 have h1:(a.tdiv b).natAbs≤a.natAbs:=by rw[Int.natAbs_tdiv];exact Nat.div_le_self _ _
 by_cases hm:a= -9223372036854775808
 ·by_cases hb:b=1
  ·subst hb;simp only[Int.tdiv_one];omega
  ·by_cases ET:b=0
   ·subst ET;simp
   ·have h2:2≤b.natAbs:=by omega
    have h3:(a.tdiv b).natAbs≤a.natAbs/2:=by rw[Int.natAbs_tdiv];exact Nat.div_le_div_left h2 (by omega)
    omega
 ·omega
theorem aev{a b:Int}(ha: -9223372036854775808≤a∧a≤9223372036854775807): -9223372036854775808≤a.tmod b∧a.tmod b≤9223372036854775807:=by
 have h1:(a.tmod b).natAbs≤a.natAbs:=by rw[Int.natAbs_tmod];exact Nat.mod_le _ _
 have h2:0≤a→0≤a.tmod b:=fun h=>Int.tmod_nonneg _ h;have h3:a≤0→a.tmod b≤0:=fun h=>by
  have:=Int.tmod_nonneg (a:= -a) b (by omega);rw[Int.neg_tmod]at this;omega
 omega
theorem ZU{a b:Int}(ha: -9223372036854775808≤a∧a≤9223372036854775807):Nd (ph (yr a b)) false:=by
 intro h;by_cases hb:b=0
 ·simp[ph,yr,hb]at h
 ·by_cases hm:a= -9223372036854775808∧b= -1
  ·simp[ph,yr,hm]at h
  ·have:=aeu ha hm;simp[ph,yr,hb,hm,this]
theorem ZV{a b:Int}(ha: -9223372036854775808≤a∧a≤9223372036854775807):Nd (ph (AZ a b)) false:=by
 intro h;by_cases hb:b=0
 ·simp[ph,AZ,hb]at h
 ·have:=aev (b:=b) ha;simp[ph,AZ,hb,this]
def aew(op:Int):Prop:=op=6∨(8≤op∧op≤12)∨(15≤op∧op≤18)
instance (op:Int):Decidable (aew op):=inferInstanceAs (Decidable (_∨_))
theorem aex{op:Int}{l:List (Int×Bool)}{r:Int×Bool×Int}(h:H5 op l=some r)(hl:∀p∈l, -9223372036854775808≤p.1∧p.1≤9223372036854775807):
 Nd r (!decide (op=6∨(8≤op∧op≤12))):=by
 unfold H5 at h;split at h
 ·rename_i a;cases h;have ha:=hl a (by simp);unfold qP;split
  ·split
   ·exact u0 _
   ·split
    ·rename_i h7;subst h7;exact kG _
    ·exact u0 _
  ·split
   ·rename_i h6;subst h6;exact zz _
   ·exact u0 _
 ·rename_i a b;have ha:=hl a (by simp);have hb:=hl b (by simp);split at h
  ·cases h;unfold uJ;split
   ·split
    ·exact u0 _
    ·unfold Hn;split
     ·rename_i e;subst e;exact kG _
     ·split
      ·rename_i e;have:(!decide (op=6∨(8≤op∧op≤12)))=true:=by simp;omega
       rw[this];exact kG _
      ·split
       ·rename_i e;subst e;exact kG _
       ·split
        ·rename_i e;subst e;exact kG _
        ·exact u0 _
   ·unfold Co;split
    ·rename_i e;subst e;exact zz _
    ·split
     ·rename_i e;subst e;exact zz _
     ·split
      ·rename_i e;subst e;exact zz _
      ·split
       ·rename_i e;subst e;exact ZU ha
       ·split
        ·rename_i e;subst e;exact ZV ha
        ·split
         ·rename_i e;subst e;exact kG _
         ·split
          ·rename_i e;subst e;exact kG _
          ·split
           ·rename_i e;subst e;exact kG _
           ·split
            ·rename_i e;subst e;exact kG _
            ·split
             ·rename_i e;subst e;exact kG _
             ·split
              ·rename_i e;subst e;exact kG _
              ·exact u0 _
  ·cases h
 ·cases h
end Go.Am
end
