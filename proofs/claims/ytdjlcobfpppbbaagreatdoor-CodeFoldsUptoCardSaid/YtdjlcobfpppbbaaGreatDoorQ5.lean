/-
  Texts of one proof, one behind the other.
-/
import Derived.Test.YtdjlcobfpppbbaaGreatDoorQ4
import Derived.ProofKit
import Derived.ChangeArms
import Derived.ChangeCalls
set_option linter.all false
section
namespace Go.Am
open Go
open Go.Proofs
set_option maxRecDepth 10000
abbrev zk:Nat→List Nat:=fun _=>[]
abbrev zg:Nat→List Gh:=fun _=>[]
abbrev zm:Nat→Bool:=fun _=>false
abbrev zf:ay:=⟨[],false,[],[],false⟩
abbrev zo:Nat→List (List Nat):=fun _=>[]
abbrev zl:Nat→List (Nat×Nat):=fun _=>[]
noncomputable def ahu:List (Nat→List Nat):=[zk,zk,zk,zk,zk,zk,zk,zk,WK,WL,RL,zk,zk,zk,zk,zk,zk,RN,RO,RQ,RR,zk,zk,zk,zk,zk,RS,zk,zk,zk,zk,zk,zk,zk,RU,RV,zk,RW,RX,zk,zk,zk,zk,RY,RZ,R0,R3,R4,R5,R6,R7,R8,R9,Sa,zk,zk,zk,zk,zk,zk,zk,zk,zk,zk,zk,zk,zk,zk,zk,zk,zk,zk,zk,Sb,zk,Sc,zk,zk,Sd,zk,zk,Se,zk,Sf,Sg,Si,Sj,Sk,Sl,Sn,So,Sp,Sq,zk,zk,zk,zk,zk,zk,zk,zk,zk,zk,zk,zk,zk,zk,zk,zk,zk,zk,zk,zk,zk,J6,J7,zk,J8,J9,Ka,zk,zk,zk,zk,Kb,Kc,zk,zk,zk,Ke,Kf,Kg,Kh,Ki,Kj,Kk,Kl,Km,Kn,Ko,Kq,Kr,Ks,Ku,zk,zk,zk,zk,zk,zk,zk,zk,Kv,zk,zk,zk,zk,zk,zk,zk,zk,zk,zk,zk,Kw,Kx,Ky,Kz,KA,zk,zk,zk,zk,zk,zk,zk,zk,KB,KC,KD,KI,KJ,KK,KL,KM,zk,zk,zk,zk,zk,zk,zk,zk,KN,KO,KP,zk,zk,zk,zk,KQ,KR,KT,KU,KV,KW,KX,KY,KZ,K0,K1,K2,K3,K4,K5,K6,zk,zk,zk,zk,K7,K8,K9,zk,zk,zk,zk,zk,La,Lc,Ld,Lf,Lg,Lh,Li,Lj,Lk,Ll,Lm,Ln,Lo,Lp,Lq,Lr,Ls,Lt,zk,zk,zk,zk,zk,zk,zk,zk,zk,zk,zk,zk,zk,zk,zk,zk,Lu,Lv,Lw,LA,LB,LC,LD,LF,LG,zk,zk,zk,LH,LJ,LK,LL,LM,LN,LO,LP,LQ,LR,LS,LU,zk,zk,zk,zk,zk,zk,zk,zk,zk,zk,zk,LV,LW,LX,LY,LZ,zk,zk,zk,zk,L3,L4,L5,L6,L7,L8,L9,Ma,Mb,Md,Me,Mf,Mg,zk,zk,zk,zk,zk,zk,zk,zk,zk,Mh,Mi,Mj,Ml,Mm,zk,zk,Mn,Mo,Mp,zk,Mq,zk,zk,zk,zk,zk,zk,zk,zk,zk,zk,zk,zk,zk,zk,zk,zk,zk,zk,zk,zk,zk,zk,zk,zk]
noncomputable def ghL:List (Nat→List Gh):=[zg,zg,zg,zg,zg,zg,zg,zg,zg,zg,zg,zg,zg,zg,zg,zg,zg,zg,zg,zg,ab3,zg,zg,zg,zg,zg,zg,zg,zg,zg,zg,zg,zg,zg,zg,zg,zg,zg,zg,zg,zg,zg,zg,zg,zg,zg,zg,zg,zg,zg,acd,zg,zg,zg,zg,zg,zg,zg,zg,zg,zg,zg,zg,zg,zg,zg,zg,zg,zg,zg,zg,zg,zg,zg,zg,zg,zg,zg,ach,zg,zg,acj,zg,zg,zg,zg,zg,zg,zg,zg,zg,aco,zg,zg,zg,zg,zg,zg,zg,zg,zg,zg,zg,zg,zg,zg,zg,zg,zg,zg,zg,zg,zg,zg,zg,zg,zg,zg,zg,zg,zg,zg,zg,zg,zg,zg,zg,zg,zg,zg,zg,zg,zg,zg,zg,zg,zg,zg,zg,zg,zg,zg,zg,zg,zg,zg,zg,zg,zg,zg,zg,zg,zg,zg,zg,zg,zg,zg,zg,zg,zg,zg,zg,zg,zg,zg,zg,zg,zg,zg,zg,zg,zg,zg,zg,zg,zg,zg,zg,zg,zg,zg,zg,zg,zg,zg,zg,zg,zg,zg,zg,zg,zg,zg,zg,zg,zg,zg,zg,zg,zg,zg,zg,zg,zg,zg,zg,zg,zg,Xg,zg,zg,zg,zg,zg,zg,zg,zg,zg,zg,zg,zg,zg,zg,zg,zg,zg,zg,zg,zg,zg,zg,zg,zg,zg,zg,zg,zg,zg,zg,zg,zg,zg,zg,zg,zg,zg,zg,zg,zg,zg,zg,zg,zg,zg,zg,zg,zg,zg,zg,zg,zg,zg,zg,zg,zg,zg,zg,zg,zg,zg,zg,zg,zg,zg,zg,zg,zg,zg,zg,zg,zg,zg,zg,zg,zg,zg,zg,zg,zg,zg,zg,zg,zg,zg,zg,zg,zg,zg,zg,zg,zg,zg,zg,zg,zg,zg,zg,zg,zg,zg,zg,zg,Yf,Yj,zg,zg,Yp,zg,zg,zg,zg,zg,zg,zg,zg,zg,zg,zg,zg,zg,zg,zg,zg,zg,zg,zg,zg,zg,zg,zg,zg,zg,zg,zg,zg,zg,zg,zg,zg,zg,zg,zg,zg,zg,zg,zg,zg,zg,zg,zg,zg,zg,zg]
noncomputable def mdL:List (Nat→Bool):=[zm,zm,zm,zm,zm,zm,zm,zm,md8,md9,zm,zm,zm,zm,zm,zm,zm,zm,ab0,zm,zm,zm,zm,zm,zm,zm,zm,zm,zm,zm,zm,zm,zm,zm,ab5,ab6,zm,zm,ab7,zm,zm,zm,zm,zm,ab9,zm,aca,zm,zm,zm,zm,zm,zm,zm,zm,zm,zm,zm,zm,zm,zm,zm,zm,zm,zm,zm,zm,zm,zm,zm,zm,zm,zm,zm,zm,zm,zm,zm,zm,zm,zm,zm,zm,zm,zm,zm,zm,acm,zm,zm,zm,zm,zm,zm,zm,zm,zm,zm,zm,zm,zm,zm,zm,zm,zm,zm,zm,zm,zm,zm,zm,zm,zm,zm,zm,zm,zm,zm,zm,zm,zm,zm,zm,zm,WR,zm,zm,zm,zm,zm,zm,zm,zm,zm,zm,zm,zm,zm,zm,zm,zm,zm,zm,zm,zm,zm,zm,zm,zm,zm,zm,zm,zm,zm,zm,zm,zm,zm,zm,zm,zm,zm,zm,zm,zm,zm,zm,W1,zm,zm,zm,zm,zm,zm,zm,zm,zm,W4,zm,zm,zm,zm,zm,zm,zm,zm,zm,zm,zm,zm,zm,zm,zm,Xb,zm,zm,zm,zm,zm,zm,Xc,zm,zm,zm,zm,zm,zm,zm,zm,zm,zm,zm,zm,zm,zm,zm,zm,zm,zm,zm,zm,zm,zm,zm,zm,zm,zm,zm,zm,zm,zm,Xo,Xp,Xq,zm,zm,Xr,zm,zm,zm,zm,zm,zm,zm,zm,zm,zm,zm,zm,zm,zm,zm,zm,zm,zm,zm,zm,zm,zm,zm,zm,zm,zm,zm,zm,zm,zm,zm,zm,XG,XI,zm,zm,zm,XK,zm,XN,zm,zm,zm,zm,zm,zm,zm,zm,zm,zm,zm,zm,zm,zm,zm,zm,zm,zm,zm,zm,zm,zm,zm,zm,zm,zm,zm,zm,zm,zm,X7,zm,zm,zm,zm,zm,zm,Yh,zm,zm,zm,zm,zm,zm,zm,zm,zm,zm,zm,zm,zm,zm,zm,Yu,zm,zm,zm,zm,zm,zm,zm,zm,zm,zm,zm,zm,zm,zm,zm,zm,zm,zm,zm,zm,zm,zm,zm,zm,zm,zm,zm,zm,zm,zm,zm,zm,zm]
noncomputable def fpL:List (ay):=[zf,zf,zf,zf,zf,zf,zf,zf,fp8,fp9,abZ,zf,zf,zf,zf,zf,zf,UH,UI,UJ,UK,zf,zf,zf,zf,zf,UL,zf,zf,zf,zf,zf,zf,zf,UM,UN,zf,UO,ab8,zf,zf,zf,zf,UP,UQ,UR,US,UT,UU,UW,UX,UY,UZ,U0,zf,zf,zf,zf,zf,zf,zf,zf,zf,zf,zf,zf,zf,zf,zf,zf,zf,zf,zf,U1,zf,U2,zf,zf,Hk,zf,zf,U3,zf,U4,U5,ack,U6,U7,U8,U9,Va,Vb,Vc,zf,zf,zf,zf,zf,zf,zf,zf,zf,zf,zf,zf,zf,zf,zf,zf,zf,zf,zf,zf,zf,Oz,WM,zf,Ft,Cm,WQ,zf,zf,zf,zf,OA,OB,zf,zf,zf,OC,OD,OE,OF,OG,OH,OI,OJ,OK,OL,OM,ON,OO,OP,OQ,zf,zf,zf,zf,zf,zf,zf,zf,OR,zf,zf,zf,zf,zf,zf,zf,zf,zf,zf,zf,W0,OS,OT,W2,W3,zf,zf,zf,zf,zf,zf,zf,zf,OU,OV,OW,OX,W7,W8,W9,Xa,zf,zf,zf,zf,zf,zf,zf,zf,OY,OZ,O0,zf,zf,zf,zf,O1,O2,O3,O4,O5,O6,O7,O8,O9,Pa,Pb,Pc,Pd,Pe,Pf,Ph,zf,zf,zf,zf,Xj,Xk,Xl,zf,zf,zf,zf,zf,Xm,Pj,Xn,Pk,Pm,Po,Pp,Pq,Pr,Ps,Xt,Xu,Xw,Xx,Xz,XA,XB,XF,zf,zf,zf,zf,zf,zf,zf,zf,zf,zf,zf,zf,zf,zf,zf,zf,Pt,Pu,Pv,Pw,Px,Py,Pz,XH,XJ,zf,zf,zf,XL,XM,XO,PA,PB,PC,XQ,XR,XS,XT,XV,XW,zf,zf,zf,zf,zf,zf,zf,zf,zf,zf,zf,PD,PE,PF,XY,X0,zf,zf,zf,zf,X1,X8,PG,X9,Yb,Yc,Yd,Yg,Yk,Ym,Yn,Yq,Yr,zf,zf,zf,zf,zf,zf,zf,zf,zf,Ys,Yt,Yv,Yw,Yy,zf,zf,Yz,YB,YC,zf,YE,zf,zf,zf,zf,zf,zf,zf,zf,zf,zf,zf,zf,zf,zf,zf,zf,zf,zf,zf,zf,zf,zf,zf,zf]
noncomputable def odL:List (Nat→List (List Nat)):=[zo,zo,zo,zo,zo,od5,od6,zo,zo,zo,zo,anH,anI,anJ,zo,anK,zo,zo,zo,ab1,ab2,anL,zo,anM,zo,anN,ab4,zo,zo,zo,anO,anP,zo,anQ,zo,zo,zo,zo,zo,zo,zo,zo,anR,zo,zo,zo,acb,zo,zo,zo,zo,zo,zo,ace,zo,anS,zo,anT,zo,zo,zo,zo,zo,zo,zo,zo,zo,zo,anU,zo,anV,anW,zo,zo,zo,acf,anX,zo,acg,anY,anZ,aci,zo,zo,zo,zo,zo,zo,zo,zo,zo,acn,acq,zo,zo,zo,zo,zo,zo,zo,agM,zo,zo,zo,zo,agN,zo,zo,agO,agP,zo,agQ,zo,agR,zo,zo,zo,WN,WO,zo,zo,zo,agS,agT,zo,zo,agU,agV,zo,zo,WS,zo,WT,zo,WU,zo,WV,WW,zo,WX,zo,zo,WY,zo,zo,zo,zo,zo,agW,zo,zo,zo,WZ,agX,agY,zo,agZ,ag0,zo,zo,ag1,zo,ag2,ag3,zo,zo,zo,zo,zo,zo,ag4,zo,zo,zo,zo,zo,ag5,zo,W5,zo,W6,zo,zo,zo,zo,zo,ag6,zo,ag7,zo,ag8,ag9,aha,zo,zo,zo,zo,zo,zo,ahb,zo,zo,Xd,zo,zo,zo,Xe,zo,Xf,zo,Xh,Xi,zo,zo,zo,zo,ahc,zo,zo,zo,zo,zo,zo,ahd,zo,zo,zo,ahe,zo,zo,zo,zo,zo,zo,zo,zo,Xs,zo,zo,zo,Xv,zo,Xy,zo,zo,zo,ahf,zo,zo,zo,zo,zo,ahg,zo,zo,ahh,zo,ahi,zo,ahj,zo,ahk,zo,zo,zo,zo,zo,zo,zo,zo,zo,zo,ahl,zo,zo,zo,zo,zo,XP,zo,zo,zo,zo,zo,XU,zo,zo,zo,zo,zo,ahm,ahn,zo,aho,ahp,zo,zo,zo,zo,zo,XX,XZ,zo,zo,zo,zo,zo,zo,zo,zo,Ya,zo,zo,Ye,Yi,Yl,zo,Yo,zo,ahq,ahr,ahs,zo,aht,zo,zo,zo,zo,zo,zo,zo,zo,Yx,zo,zo,zo,YA,zo,zo,YD,zo,zo,zo,zo,zo,zo,zo,zo,zo,zo,zo,zo,zo,zo,zo,zo,zo,zo,zo,zo,zo,zo,zo,zo]
noncomputable def flL:List (Nat→List (Nat×Nat)):=[zl,zl,zl,zl,zl,zl,zl,zl,zl,zl,zl,zl,zl,zl,zl,zl,zl,zl,zl,zl,zl,zl,zl,zl,zl,zl,zl,zl,zl,zl,zl,zl,zl,zl,zl,zl,zl,zl,zl,zl,zl,zl,zl,zl,zl,zl,zl,zl,zl,zl,zl,zl,zl,zl,zl,zl,zl,zl,zl,zl,zl,zl,zl,zl,zl,zl,zl,zl,zl,zl,zl,zl,zl,zl,zl,zl,zl,zl,zl,zl,zl,zl,zl,zl,zl,zl,zl,zl,zl,zl,zl,acp,acr,zl,zl,zl,zl,zl,zl,zl,zl,zl,zl,zl,zl,zl,zl,zl,zl,zl,zl,zl,zl,zl,zl,zl,zl,zl,zl,zl,zl,zl,zl,zl,zl,zl,zl,zl,zl,zl,zl,zl,zl,zl,zl,zl,zl,zl,zl,zl,zl,zl,zl,zl,zl,zl,zl,zl,zl,zl,zl,zl,zl,zl,zl,zl,zl,zl,zl,zl,zl,zl,zl,zl,zl,zl,zl,zl,zl,zl,zl,zl,zl,zl,zl,zl,zl,zl,zl,zl,zl,zl,zl,zl,zl,zl,zl,zl,zl,zl,zl,zl,zl,zl,zl,zl,zl,zl,zl,zl,zl,zl,zl,zl,zl,zl,zl,zl,zl,zl,zl,zl,zl,zl,zl,zl,zl,zl,zl,zl,zl,zl,zl,zl,zl,zl,zl,zl,zl,zl,zl,zl,zl,zl,zl,zl,zl,zl,zl,zl,zl,zl,zl,zl,zl,zl,zl,zl,zl,zl,zl,zl,zl,zl,zl,zl,zl,zl,zl,zl,zl,zl,zl,zl,zl,zl,zl,zl,zl,zl,zl,zl,zl,zl,zl,zl,zl,zl,zl,zl,zl,zl,zl,zl,zl,zl,zl,zl,zl,zl,zl,zl,zl,zl,zl,zl,zl,zl,zl,zl,zl,zl,zl,zl,zl,zl,zl,zl,zl,zl,zl,zl,zl,zl,zl,zl,zl,zl,zl,zl,zl,zl,zl,zl,zl,zl,zl,zl,zl,zl,zl,zl,zl,zl,zl,zl,zl,zl,zl,zl,zl,zl,zl,zl,zl,zl,zl,zl,zl,zl,zl,zl,zl,zl,zl,zl,zl,zl,zl,zl,zl,zl,zl,zl]
def bV:Type:=Int
variable [Inhabited bV]
def Dh:List Int:=[0,0,0,0,0,0,0,0,0,1,1,1,1,1,0,0,0,0,0,0,0,0,0,0,0,0,0,0,0,0,0,0,1,0,0,0,0,0,0,0,0,0,0,0,0,0,0,0,0,0,0,0,0,0,0,0,0,0,0,0,0,0,0,0,0,0,0,0,0,0,0,0,0,0,0,0,0,0,0,0,0,0,0,0,0,0,0,0,0,0,0,0,0,0,0,0,0,0,0,0,0,0,0,0,0,0,0,0,0,0,0,0,0,0,0,0,0,0,0,0,0,0,0,0,0,0,0,0,0,0,0,0,0,0,0,0,0,0,0,0,0,0,0,0,0,0,0,0,0,0,0,0,0,0,0,0,0,0,0,0,0,0,0,0,0,0,0,0,0,0,0,0,0,0,0,0,0,0,0,0,0,0,0,0,0,0,0,0,0,0,0,0,0,0,0,0,0,0,0,0,0,0,0,0,0,0,0,0,0,0,0,0,0,0,0,0,0,0,0,0,0,0,0,0,0,0,0,0,0,0,0,0,0,0,0,0,0,0,0,0,0,0,0,0,0,0,0,0,0,0,0,0,0,0,0,0]
def aC:List (Nat×D):=[(0,.agg (Dh.map fun z=>.int .u8 z)),(2,.int .i64 (id (α:=Int) (default:bV)))]
@[simp] theorem avE:glk aC 0=some (.agg (Dh.map fun z=>.int .u8 z)):=rfl
def Vd:FuncId→Option (List AV→Option AV)
 |228=>some (liftO hpO)
 |230=>some (liftO idxO)
 |275=>some (liftO ibO)
 |_=>none
noncomputable def ctx:Ctx:=⟨Tryz.prog,aC,fun f=>ahu.getD f (fun _=>[]),fun f=>ghL.getD f (fun _=>[]),fun f=>mdL.getD f (fun _=>false),fun f=>fpL.getD f ⟨[],false,[],[],false⟩,fun f=>odL.getD f (fun _=>[]),Vd,fun f=>flL.getD f (fun _=>[]),none⟩
@[simp] theorem avF:ctx.P=Tryz.prog:=rfl
@[simp] theorem atU:ctx.gl=aC:=rfl
@[simp] def aX(fn:Func):Code:=fn.body.getD .skip
abbrev EF(n:Nat)(k:Nat→List Nat)(g:Nat→List Gh)(m:Nat→Bool)(p:ay)(l:Nat→List (Nat×Nat))(o:Nat→List (List Nat)):Prop:=ctx.oT n=k∧ctx.gh n=g∧ctx.md n=m∧ctx.fp n=p∧ctx.fl n=l∧ctx.od n=o
abbrev RF(n c:Nat)(p:ay)(fn:Func)(rs:List ResultVar):Prop:=∀{args:List AV}{cs:List aE},callOk c p args cs=true→ai ctx n args cs=aI ctx n (aX fn) (entry c aC args cs p.sites) (AJ Tryz.prog p cs.length rs)
@[simp] theorem E8:EF 8 WK zg md8 fp8 zl zo:=⟨rfl,rfl,rfl,rfl,rfl,rfl⟩
@[simp] theorem E9:EF 9 WL zg md9 fp9 zl zo:=⟨rfl,rfl,rfl,rfl,rfl,rfl⟩
theorem an0:RF 9 31 fp9 Tryz.f9 [.tmp 2]:=ax rfl rfl Tryz.func9 rfl (by kernel_rfl) Tryz.ntmps9 (by rw[Tryz.results9]) rfl rfl
@[simp] theorem E10:EF 10 RL zg zm abZ zl zo:=⟨rfl,rfl,rfl,rfl,rfl,rfl⟩
@[simp] theorem E17:EF 17 RN zg zm UH zl zo:=⟨rfl,rfl,rfl,rfl,rfl,rfl⟩
theorem ahv:RF 17 18 UH Tryz.f17 [.tmp 2]:=ax rfl rfl Tryz.func17 rfl (by kernel_rfl) Tryz.ntmps17 (by rw[Tryz.results17]) rfl rfl
@[simp] theorem E18:EF 18 RO zg ab0 UI zl zo:=⟨rfl,rfl,rfl,rfl,rfl,rfl⟩
theorem ahw:RF 18 129 UI Tryz.f18 [.tmp 2]:=ax rfl rfl Tryz.func18 rfl (by kernel_rfl) Tryz.ntmps18 (by rw[Tryz.results18]) rfl rfl
@[simp] theorem E19:EF 19 RQ zg zm UJ zl ab1:=⟨rfl,rfl,rfl,rfl,rfl,rfl⟩
theorem ahx:RF 19 58 UJ Tryz.f19 [.cell 2 29]:=ax rfl rfl Tryz.func19 rfl (by kernel_rfl) Tryz.ntmps19 (by rw[Tryz.results19]) rfl rfl
@[simp] theorem E20:EF 20 RR ab3 zm UK zl ab2:=⟨rfl,rfl,rfl,rfl,rfl,rfl⟩
theorem ahy:RF 20 51 UK Tryz.f20 [.cell 2 33,.tmp 3]:=ax rfl rfl Tryz.func20 rfl (by kernel_rfl) Tryz.ntmps20 (by rw[Tryz.results20]) rfl rfl
@[simp] theorem E26:EF 26 RS zg zm UL zl ab4:=⟨rfl,rfl,rfl,rfl,rfl,rfl⟩
theorem ahz:RF 26 45 UL Tryz.f26 [.tmp 4]:=ax rfl rfl Tryz.func26 rfl (by kernel_rfl) Tryz.ntmps26 (by rw[Tryz.results26]) rfl rfl
@[simp] theorem E34:EF 34 RU zg ab5 UM zl zo:=⟨rfl,rfl,rfl,rfl,rfl,rfl⟩
theorem ahA:RF 34 45 UM Tryz.f34 [.tmp 0]:=ax rfl rfl Tryz.func34 rfl (by kernel_rfl) Tryz.ntmps34 (by rw[Tryz.results34]) rfl rfl
@[simp] theorem E35:EF 35 RV zg ab6 UN zl zo:=⟨rfl,rfl,rfl,rfl,rfl,rfl⟩
theorem PH:RF 35 15 UN Tryz.f35 [.tmp 2]:=ax rfl rfl Tryz.func35 rfl (by kernel_rfl) Tryz.ntmps35 (by rw[Tryz.results35]) rfl rfl
@[simp] theorem E37:EF 37 RW zg zm UO zl zo:=⟨rfl,rfl,rfl,rfl,rfl,rfl⟩
theorem ahB:RF 37 8 UO Tryz.f37 [.cell 2 25]:=ax rfl rfl Tryz.func37 rfl (by kernel_rfl) Tryz.ntmps37 (by rw[Tryz.results37]) rfl rfl
@[simp] theorem E38:EF 38 RX zg ab7 ab8 zl zo:=⟨rfl,rfl,rfl,rfl,rfl,rfl⟩
@[simp] theorem E43:EF 43 RY zg zm UP zl zo:=⟨rfl,rfl,rfl,rfl,rfl,rfl⟩
theorem ahC:RF 43 21 UP Tryz.f43 [.tmp 4,.tmp 5]:=ax rfl rfl Tryz.func43 rfl (by kernel_rfl) Tryz.ntmps43 (by rw[Tryz.results43]) rfl rfl
@[simp] theorem E44:EF 44 RZ zg ab9 UQ zl zo:=⟨rfl,rfl,rfl,rfl,rfl,rfl⟩
theorem ahD:RF 44 59 UQ Tryz.f44 [.tmp 2]:=ax rfl rfl Tryz.func44 rfl (by kernel_rfl) Tryz.ntmps44 (by rw[Tryz.results44]) rfl rfl
@[simp] theorem E45:EF 45 R0 zg zm UR zl zo:=⟨rfl,rfl,rfl,rfl,rfl,rfl⟩
theorem ahE:RF 45 24 UR Tryz.f45 [.tmp 2]:=ax rfl rfl Tryz.func45 rfl (by kernel_rfl) Tryz.ntmps45 (by rw[Tryz.results45]) rfl rfl
@[simp] theorem E46:EF 46 R3 zg aca US zl acb:=⟨rfl,rfl,rfl,rfl,rfl,rfl⟩
theorem ahF:RF 46 258 US Tryz.f46 [.tmp 2]:=ax rfl rfl Tryz.func46 rfl (by kernel_rfl) Tryz.ntmps46 (by rw[Tryz.results46]) rfl rfl
@[simp] theorem E47:EF 47 R4 zg zm UT zl zo:=⟨rfl,rfl,rfl,rfl,rfl,rfl⟩
theorem ahG:RF 47 25 UT Tryz.f47 [.cell 4 71,.tmp 5]:=ax rfl rfl Tryz.func47 rfl (by kernel_rfl) Tryz.ntmps47 (by rw[Tryz.results47]) rfl rfl
@[simp] theorem E48:EF 48 R5 zg zm UU zl zo:=⟨rfl,rfl,rfl,rfl,rfl,rfl⟩
theorem ahH:RF 48 18 UU Tryz.f48 [.tmp 2]:=ax rfl rfl Tryz.func48 rfl (by kernel_rfl) Tryz.ntmps48 (by rw[Tryz.results48]) rfl rfl
@[simp] theorem E49:EF 49 R6 zg zm UW zl zo:=⟨rfl,rfl,rfl,rfl,rfl,rfl⟩
theorem ahI:RF 49 27 UW Tryz.f49 [.cell 6 29]:=ax rfl rfl Tryz.func49 rfl (by kernel_rfl) Tryz.ntmps49 (by rw[Tryz.results49]) rfl rfl
@[simp] theorem E50:EF 50 R7 acd zm UX zl zo:=⟨rfl,rfl,rfl,rfl,rfl,rfl⟩
theorem ahJ:RF 50 51 UX Tryz.f50 [.cell 2 79]:=ax rfl rfl Tryz.func50 rfl (by kernel_rfl) Tryz.ntmps50 (by rw[Tryz.results50]) rfl rfl
@[simp] theorem E51:EF 51 R8 zg zm UY zl zo:=⟨rfl,rfl,rfl,rfl,rfl,rfl⟩
theorem ahK:RF 51 16 UY Tryz.f51 []:=ax rfl rfl Tryz.func51 rfl (by kernel_rfl) Tryz.ntmps51 (by rw[Tryz.results51]) rfl rfl
@[simp] theorem E52:EF 52 R9 zg zm UZ zl zo:=⟨rfl,rfl,rfl,rfl,rfl,rfl⟩
theorem YF:RF 52 16 UZ Tryz.f52 []:=ax rfl rfl Tryz.func52 rfl (by kernel_rfl) Tryz.ntmps52 (by rw[Tryz.results52]) rfl rfl
@[simp] theorem E53:EF 53 Sa zg zm U0 zl ace:=⟨rfl,rfl,rfl,rfl,rfl,rfl⟩
theorem PI:RF 53 43 U0 Tryz.f53 [.tmp 6]:=ax rfl rfl Tryz.func53 rfl (by kernel_rfl) Tryz.ntmps53 (by rw[Tryz.results53]) rfl rfl
@[simp] theorem E73:EF 73 Sb zg zm U1 zl zo:=⟨rfl,rfl,rfl,rfl,rfl,rfl⟩
theorem ahL:RF 73 77 U1 Tryz.f73 [.tmp 2]:=ax rfl rfl Tryz.func73 rfl (by kernel_rfl) Tryz.ntmps73 (by rw[Tryz.results73]) rfl rfl
@[simp] theorem E75:EF 75 Sc zg zm U2 zl acf:=⟨rfl,rfl,rfl,rfl,rfl,rfl⟩
theorem ahM:RF 75 30 U2 Tryz.f75 [.tmp 2]:=ax rfl rfl Tryz.func75 rfl (by kernel_rfl) Tryz.ntmps75 (by rw[Tryz.results75]) rfl rfl
@[simp] theorem E78:EF 78 Sd ach zm Hk zl acg:=⟨rfl,rfl,rfl,rfl,rfl,rfl⟩
theorem ahN{args:List AV}{cs:List aE}(h:callOk 25 Hk args cs=true):ai ctx 78 args cs=jz ctx 78 (aX Tryz.f78) (entry 25 aC args cs Hk.sites) [] (finKD ctx Hk cs.length [.cell 2 25,.cell 3 34,.cell 4 63]):=
 Rz rfl rfl Tryz.func78 rfl (by kernel_rfl) Tryz.ntmps78 (by rw[Tryz.results78]) rfl h
@[simp] theorem E81:EF 81 Se acj zm U3 zl aci:=⟨rfl,rfl,rfl,rfl,rfl,rfl⟩
theorem ahO:RF 81 48 U3 Tryz.f81 [.tmp 2]:=ax rfl rfl Tryz.func81 rfl (by kernel_rfl) Tryz.ntmps81 (by rw[Tryz.results81]) rfl rfl
@[simp] theorem E83:EF 83 Sf zg zm U4 zl zo:=⟨rfl,rfl,rfl,rfl,rfl,rfl⟩
theorem ahP:RF 83 136 U4 Tryz.f83 [.tmp 4,.tmp 5]:=ax rfl rfl Tryz.func83 rfl (by kernel_rfl) Tryz.ntmps83 (by rw[Tryz.results83]) rfl rfl
@[simp] theorem E84:EF 84 Sg zg zm U5 zl zo:=⟨rfl,rfl,rfl,rfl,rfl,rfl⟩
theorem ahQ:RF 84 15 U5 Tryz.f84 [.tmp 2]:=ax rfl rfl Tryz.func84 rfl (by kernel_rfl) Tryz.ntmps84 (by rw[Tryz.results84]) rfl rfl
@[simp] theorem E85:EF 85 Si zg zm ack zl zo:=⟨rfl,rfl,rfl,rfl,rfl,rfl⟩
@[simp] theorem E86:EF 86 Sj zg zm U6 zl zo:=⟨rfl,rfl,rfl,rfl,rfl,rfl⟩
theorem ahR:RF 86 27 U6 Tryz.f86 [.tmp 2,.tmp 3,.tmp 4]:=ax rfl rfl Tryz.func86 rfl (by kernel_rfl) Tryz.ntmps86 (by rw[Tryz.results86]) rfl rfl
@[simp] theorem E87:EF 87 Sk zg acm U7 zl zo:=⟨rfl,rfl,rfl,rfl,rfl,rfl⟩
theorem ahS:RF 87 126 U7 Tryz.f87 [.tmp 2]:=ax rfl rfl Tryz.func87 rfl (by kernel_rfl) Tryz.ntmps87 (by rw[Tryz.results87]) rfl rfl
@[simp] theorem E88:EF 88 Sl zg zm U8 zl zo:=⟨rfl,rfl,rfl,rfl,rfl,rfl⟩
theorem ahT:RF 88 25 U8 Tryz.f88 [.tmp 2]:=ax rfl rfl Tryz.func88 rfl (by kernel_rfl) Tryz.ntmps88 (by rw[Tryz.results88]) rfl rfl
@[simp] theorem E89:EF 89 Sn zg zm U9 zl zo:=⟨rfl,rfl,rfl,rfl,rfl,rfl⟩
theorem mg:RF 89 242 U9 Tryz.f89 [.cell 6 29]:=ax rfl rfl Tryz.func89 rfl (by kernel_rfl) Tryz.ntmps89 (by rw[Tryz.results89]) rfl rfl
@[simp] theorem E90:EF 90 So zg zm Va zl zo:=⟨rfl,rfl,rfl,rfl,rfl,rfl⟩
theorem ahU:RF 90 20 Va Tryz.f90 [.tmp 2]:=ax rfl rfl Tryz.func90 rfl (by kernel_rfl) Tryz.ntmps90 (by rw[Tryz.results90]) rfl rfl
@[simp] theorem E91:EF 91 Sp aco zm Vb acp acn:=⟨rfl,rfl,rfl,rfl,rfl,rfl⟩
theorem sZ:RF 91 83 Vb Tryz.f91 []:=ax rfl rfl Tryz.func91 rfl (by kernel_rfl) Tryz.ntmps91 (by rw[Tryz.results91]) rfl rfl
@[simp] theorem E92:EF 92 Sq zg zm Vc acr acq:=⟨rfl,rfl,rfl,rfl,rfl,rfl⟩
theorem ahV:RF 92 13 Vc Tryz.f92 []:=ax rfl rfl Tryz.func92 rfl (by kernel_rfl) Tryz.ntmps92 (by rw[Tryz.results92]) rfl rfl
@[simp] theorem av6:EF 114 J6 zg zm Oz zl zo:=⟨rfl,rfl,rfl,rfl,rfl,rfl⟩
theorem acs:RF 114 17 Oz Tryz.f114 [.cell 2 178,.tmp 3]:=ax rfl rfl Tryz.func114 rfl (by kernel_rfl) Tryz.ntmps114 (by rw[Tryz.results114]) rfl rfl
@[simp] theorem av7:EF 115 J7 zg zm WM zl zo:=⟨rfl,rfl,rfl,rfl,rfl,rfl⟩
@[simp] theorem av8:EF 117 J8 zg zm Ft zl WN:=⟨rfl,rfl,rfl,rfl,rfl,rfl⟩
theorem acu:RF 117 62 Ft Tryz.f117 [.tmp 2,.tmp 3,.cell 4 63]:=ax rfl rfl Tryz.func117 rfl (by kernel_rfl) Tryz.ntmps117 (by rw[Tryz.results117]) rfl rfl
@[simp] theorem av9:EF 118 J9 zg zm Cm zl WO:=⟨rfl,rfl,rfl,rfl,rfl,rfl⟩
theorem acv{args ys:List AV}{rv:AV}{cs:List aE}(hl:args.getLast?=some rv)(hy:args.dropLast=ys)(h:callOk 22 Cm ys cs=true):De ctx 118 args cs=sW ctx 118 rv (aX Tryz.f118) (entry 22 aC ys cs Cm.sites) (finRK Tryz.prog Cm cs.length []):=
 Zu Tryz.func118 rfl Tryz.ntmps118 (by rw[Tryz.results118]) rfl hl hy h
@[simp] theorem awa:EF 119 Ka zg zm WQ zl zo:=⟨rfl,rfl,rfl,rfl,rfl,rfl⟩
@[simp] theorem awb:EF 124 Kb zg WR OA zl zo:=⟨rfl,rfl,rfl,rfl,rfl,rfl⟩
theorem acw:RF 124 105 OA Tryz.f124 [.cell 2 136]:=ax rfl rfl Tryz.func124 rfl (by kernel_rfl) Tryz.ntmps124 (by rw[Tryz.results124]) rfl rfl
@[simp] theorem awc:EF 125 Kc zg zm OB zl zo:=⟨rfl,rfl,rfl,rfl,rfl,rfl⟩
theorem acx:RF 125 19 OB Tryz.f125 [.tmp 2]:=ax rfl rfl Tryz.func125 rfl (by kernel_rfl) Tryz.ntmps125 (by rw[Tryz.results125]) rfl rfl
@[simp] theorem awd:EF 129 Ke zg zm OC zl zo:=⟨rfl,rfl,rfl,rfl,rfl,rfl⟩
theorem acy:RF 129 44 OC Tryz.f129 [.tmp 4,.tmp 5]:=ax rfl rfl Tryz.func129 rfl (by kernel_rfl) Tryz.ntmps129 (by rw[Tryz.results129]) rfl rfl
@[simp] theorem awe:EF 130 Kf zg zm OD zl WS:=⟨rfl,rfl,rfl,rfl,rfl,rfl⟩
theorem er:RF 130 155 OD Tryz.f130 [.tmp 4,.cell 5 29]:=ax rfl rfl Tryz.func130 rfl (by kernel_rfl) Tryz.ntmps130 (by rw[Tryz.results130]) rfl rfl
@[simp] theorem awf:EF 131 Kg zg zm OE zl zo:=⟨rfl,rfl,rfl,rfl,rfl,rfl⟩
theorem acz:RF 131 27 OE Tryz.f131 [.cell 6 29]:=ax rfl rfl Tryz.func131 rfl (by kernel_rfl) Tryz.ntmps131 (by rw[Tryz.results131]) rfl rfl
@[simp] theorem awg:EF 132 Kh zg zm OF zl WT:=⟨rfl,rfl,rfl,rfl,rfl,rfl⟩
theorem acA:RF 132 91 OF Tryz.f132 [.cell 4 29]:=ax rfl rfl Tryz.func132 rfl (by kernel_rfl) Tryz.ntmps132 (by rw[Tryz.results132]) rfl rfl
@[simp] theorem awh:EF 133 Ki zg zm OG zl zo:=⟨rfl,rfl,rfl,rfl,rfl,rfl⟩
theorem acB:RF 133 5 OG Tryz.f133 []:=ax rfl rfl Tryz.func133 rfl (by kernel_rfl) Tryz.ntmps133 (by rw[Tryz.results133]) rfl rfl
@[simp] theorem awi:EF 134 Kj zg zm OH zl WU:=⟨rfl,rfl,rfl,rfl,rfl,rfl⟩
theorem Sr:RF 134 49 OH Tryz.f134 []:=ax rfl rfl Tryz.func134 rfl (by kernel_rfl) Tryz.ntmps134 (by rw[Tryz.results134]) rfl rfl
@[simp] theorem awj:EF 135 Kk zg zm OI zl zo:=⟨rfl,rfl,rfl,rfl,rfl,rfl⟩
theorem Ss:RF 135 49 OI Tryz.f135 []:=ax rfl rfl Tryz.func135 rfl (by kernel_rfl) Tryz.ntmps135 (by rw[Tryz.results135]) rfl rfl
@[simp] theorem awk:EF 136 Kl zg zm OJ zl WV:=⟨rfl,rfl,rfl,rfl,rfl,rfl⟩
theorem acC:RF 136 11 OJ Tryz.f136 []:=ax rfl rfl Tryz.func136 rfl (by kernel_rfl) Tryz.ntmps136 (by rw[Tryz.results136]) rfl rfl
@[simp] theorem awl:EF 137 Km zg zm OK zl WW:=⟨rfl,rfl,rfl,rfl,rfl,rfl⟩
theorem r6:RF 137 141 OK Tryz.f137 [.tmp 4]:=ax rfl rfl Tryz.func137 rfl (by kernel_rfl) Tryz.ntmps137 (by rw[Tryz.results137]) rfl rfl
@[simp] theorem awm:EF 138 Kn zg zm OL zl zo:=⟨rfl,rfl,rfl,rfl,rfl,rfl⟩
theorem acD:RF 138 22 OL Tryz.f138 []:=ax rfl rfl Tryz.func138 rfl (by kernel_rfl) Tryz.ntmps138 (by rw[Tryz.results138]) rfl rfl
@[simp] theorem awn:EF 139 Ko zg zm OM zl WX:=⟨rfl,rfl,rfl,rfl,rfl,rfl⟩
theorem acE:RF 139 47 OM Tryz.f139 []:=ax rfl rfl Tryz.func139 rfl (by kernel_rfl) Tryz.ntmps139 (by rw[Tryz.results139]) rfl rfl
@[simp] theorem awo:EF 140 Kq zg zm ON zl zo:=⟨rfl,rfl,rfl,rfl,rfl,rfl⟩
theorem Su:RF 140 7 ON Tryz.f140 []:=ax rfl rfl Tryz.func140 rfl (by kernel_rfl) Tryz.ntmps140 (by rw[Tryz.results140]) rfl rfl
@[simp] theorem awp:EF 141 Kr zg zm OO zl zo:=⟨rfl,rfl,rfl,rfl,rfl,rfl⟩
theorem Hl:RF 141 9 OO Tryz.f141 [.tmp 4]:=ax rfl rfl Tryz.func141 rfl (by kernel_rfl) Tryz.ntmps141 (by rw[Tryz.results141]) rfl rfl
@[simp] theorem awq:EF 142 Ks zg zm OP zl WY:=⟨rfl,rfl,rfl,rfl,rfl,rfl⟩
theorem acF:RF 142 60 OP Tryz.f142 []:=ax rfl rfl Tryz.func142 rfl (by kernel_rfl) Tryz.ntmps142 (by rw[Tryz.results142]) rfl rfl
@[simp] theorem awr:EF 143 Ku zg zm OQ zl zo:=⟨rfl,rfl,rfl,rfl,rfl,rfl⟩
theorem acG:RF 143 8 OQ Tryz.f143 [.tmp 2]:=ax rfl rfl Tryz.func143 rfl (by kernel_rfl) Tryz.ntmps143 (by rw[Tryz.results143]) rfl rfl
@[simp] theorem aws:EF 152 Kv zg zm OR zl WZ:=⟨rfl,rfl,rfl,rfl,rfl,rfl⟩
theorem Sv:RF 152 93 OR Tryz.f152 [.tmp 6,.tmp 7,.tmp 8]:=ax rfl rfl Tryz.func152 rfl (by kernel_rfl) Tryz.ntmps152 (by rw[Tryz.results152]) rfl rfl
@[simp] theorem awt:EF 164 Kw zg zm W0 zl zo:=⟨rfl,rfl,rfl,rfl,rfl,rfl⟩
@[simp] theorem awu:EF 165 Kx zg zm OS zl zo:=⟨rfl,rfl,rfl,rfl,rfl,rfl⟩
theorem acH:RF 165 19 OS Tryz.f165 [.tmp 4]:=ax rfl rfl Tryz.func165 rfl (by kernel_rfl) Tryz.ntmps165 (by rw[Tryz.results165]) rfl rfl
@[simp] theorem awv:EF 166 Ky zg zm OT zl zo:=⟨rfl,rfl,rfl,rfl,rfl,rfl⟩
theorem acI:RF 166 8 OT Tryz.f166 [.tmp 3]:=ax rfl rfl Tryz.func166 rfl (by kernel_rfl) Tryz.ntmps166 (by rw[Tryz.results166]) rfl rfl
@[simp] theorem aww:EF 167 Kz zg W1 W2 zl zo:=⟨rfl,rfl,rfl,rfl,rfl,rfl⟩
@[simp] theorem awx:EF 168 KA zg zm W3 zl zo:=⟨rfl,rfl,rfl,rfl,rfl,rfl⟩
@[simp] theorem awy:EF 177 KB zg W4 OU zl zo:=⟨rfl,rfl,rfl,rfl,rfl,rfl⟩
theorem acJ:RF 177 51 OU Tryz.f177 [.tmp 2]:=ax rfl rfl Tryz.func177 rfl (by kernel_rfl) Tryz.ntmps177 (by rw[Tryz.results177]) rfl rfl
@[simp] theorem awz:EF 178 KC zg zm OV zl W5:=⟨rfl,rfl,rfl,rfl,rfl,rfl⟩
theorem acK:RF 178 12 OV Tryz.f178 [.tmp 2]:=ax rfl rfl Tryz.func178 rfl (by kernel_rfl) Tryz.ntmps178 (by rw[Tryz.results178]) rfl rfl
@[simp] theorem awA:EF 179 KD zg zm OW zl zo:=⟨rfl,rfl,rfl,rfl,rfl,rfl⟩
theorem acL:RF 179 54 OW Tryz.f179 [.cell 4 63,.tmp 5]:=ax rfl rfl Tryz.func179 rfl (by kernel_rfl) Tryz.ntmps179 (by rw[Tryz.results179]) rfl rfl
@[simp] theorem awB:EF 180 KI zg zm OX zl W6:=⟨rfl,rfl,rfl,rfl,rfl,rfl⟩
theorem acM:RF 180 42 OX Tryz.f180 []:=ax rfl rfl Tryz.func180 rfl (by kernel_rfl) Tryz.ntmps180 (by rw[Tryz.results180]) rfl rfl
@[simp] theorem awC:EF 181 KJ zg zm W7 zl zo:=⟨rfl,rfl,rfl,rfl,rfl,rfl⟩
@[simp] theorem awD:EF 182 KK zg zm W8 zl zo:=⟨rfl,rfl,rfl,rfl,rfl,rfl⟩
@[simp] theorem awE:EF 183 KL zg zm W9 zl zo:=⟨rfl,rfl,rfl,rfl,rfl,rfl⟩
@[simp] theorem awF:EF 184 KM zg zm Xa zl zo:=⟨rfl,rfl,rfl,rfl,rfl,rfl⟩
@[simp] theorem awG:EF 193 KN zg Xb OY zl zo:=⟨rfl,rfl,rfl,rfl,rfl,rfl⟩
theorem acN:RF 193 41 OY Tryz.f193 [.tmp 2,.tmp 3,.tmp 4]:=ax rfl rfl Tryz.func193 rfl (by kernel_rfl) Tryz.ntmps193 (by rw[Tryz.results193]) rfl rfl
@[simp] theorem awH:EF 194 KO zg zm OZ zl zo:=⟨rfl,rfl,rfl,rfl,rfl,rfl⟩
theorem acO:RF 194 4 OZ Tryz.f194 [.tmp 2]:=ax rfl rfl Tryz.func194 rfl (by kernel_rfl) Tryz.ntmps194 (by rw[Tryz.results194]) rfl rfl
@[simp] theorem awI:EF 195 KP zg zm O0 zl zo:=⟨rfl,rfl,rfl,rfl,rfl,rfl⟩
theorem acP:RF 195 25 O0 Tryz.f195 [.cell 6 136]:=ax rfl rfl Tryz.func195 rfl (by kernel_rfl) Tryz.ntmps195 (by rw[Tryz.results195]) rfl rfl
@[simp] theorem awJ:EF 200 KQ zg Xc O1 zl zo:=⟨rfl,rfl,rfl,rfl,rfl,rfl⟩
theorem acQ:RF 200 32 O1 Tryz.f200 [.cell 4 175,.tmp 5]:=ax rfl rfl Tryz.func200 rfl (by kernel_rfl) Tryz.ntmps200 (by rw[Tryz.results200]) rfl rfl
@[simp] theorem awK:EF 201 KR zg zm O2 zl zo:=⟨rfl,rfl,rfl,rfl,rfl,rfl⟩
theorem acR:RF 201 24 O2 Tryz.f201 [.cell 4 29]:=ax rfl rfl Tryz.func201 rfl (by kernel_rfl) Tryz.ntmps201 (by rw[Tryz.results201]) rfl rfl
@[simp] theorem awL:EF 202 KT zg zm O3 zl Xd:=⟨rfl,rfl,rfl,rfl,rfl,rfl⟩
theorem acS:RF 202 29 O3 Tryz.f202 [.tmp 4,.cell 5 71,.tmp 6]:=ax rfl rfl Tryz.func202 rfl (by kernel_rfl) Tryz.ntmps202 (by rw[Tryz.results202]) rfl rfl
@[simp] theorem awM:EF 203 KU zg zm O4 zl zo:=⟨rfl,rfl,rfl,rfl,rfl,rfl⟩
theorem acT:RF 203 8 O4 Tryz.f203 []:=ax rfl rfl Tryz.func203 rfl (by kernel_rfl) Tryz.ntmps203 (by rw[Tryz.results203]) rfl rfl
@[simp] theorem awN:EF 204 KV zg zm O5 zl zo:=⟨rfl,rfl,rfl,rfl,rfl,rfl⟩
theorem acU:RF 204 9 O5 Tryz.f204 [.tmp 4]:=ax rfl rfl Tryz.func204 rfl (by kernel_rfl) Tryz.ntmps204 (by rw[Tryz.results204]) rfl rfl
@[simp] theorem awO:EF 205 KW zg zm O6 zl zo:=⟨rfl,rfl,rfl,rfl,rfl,rfl⟩
theorem acV:RF 205 14 O6 Tryz.f205 []:=ax rfl rfl Tryz.func205 rfl (by kernel_rfl) Tryz.ntmps205 (by rw[Tryz.results205]) rfl rfl
@[simp] theorem awP:EF 206 KX zg zm O7 zl Xe:=⟨rfl,rfl,rfl,rfl,rfl,rfl⟩
theorem acW:RF 206 49 O7 Tryz.f206 [.tmp 6,.cell 7 175,.tmp 8]:=ax rfl rfl Tryz.func206 rfl (by kernel_rfl) Tryz.ntmps206 (by rw[Tryz.results206]) rfl rfl
@[simp] theorem awQ:EF 207 KY zg zm O8 zl zo:=⟨rfl,rfl,rfl,rfl,rfl,rfl⟩
theorem acX:RF 207 19 O8 Tryz.f207 [.tmp 4]:=ax rfl rfl Tryz.func207 rfl (by kernel_rfl) Tryz.ntmps207 (by rw[Tryz.results207]) rfl rfl
@[simp] theorem awR:EF 208 KZ zg zm O9 zl Xf:=⟨rfl,rfl,rfl,rfl,rfl,rfl⟩
theorem acY:RF 208 38 O9 Tryz.f208 []:=ax rfl rfl Tryz.func208 rfl (by kernel_rfl) Tryz.ntmps208 (by rw[Tryz.results208]) rfl rfl
@[simp] theorem awS:EF 209 K0 Xg zm Pa zl zo:=⟨rfl,rfl,rfl,rfl,rfl,rfl⟩
theorem Sw:RF 209 42 Pa Tryz.f209 []:=ax rfl rfl Tryz.func209 rfl (by kernel_rfl) Tryz.ntmps209 (by rw[Tryz.results209]) rfl rfl
@[simp] theorem awT:EF 210 K1 zg zm Pb zl Xh:=⟨rfl,rfl,rfl,rfl,rfl,rfl⟩
theorem acZ:RF 210 42 Pb Tryz.f210 []:=ax rfl rfl Tryz.func210 rfl (by kernel_rfl) Tryz.ntmps210 (by rw[Tryz.results210]) rfl rfl
@[simp] theorem awU:EF 211 K2 zg zm Pc zl Xi:=⟨rfl,rfl,rfl,rfl,rfl,rfl⟩
theorem Sx:RF 211 44 Pc Tryz.f211 []:=ax rfl rfl Tryz.func211 rfl (by kernel_rfl) Tryz.ntmps211 (by rw[Tryz.results211]) rfl rfl
@[simp] theorem awV:EF 212 K3 zg zm Pd zl zo:=⟨rfl,rfl,rfl,rfl,rfl,rfl⟩
theorem ac0:RF 212 34 Pd Tryz.f212 [.tmp 6,.tmp 7,.tmp 8]:=ax rfl rfl Tryz.func212 rfl (by kernel_rfl) Tryz.ntmps212 (by rw[Tryz.results212]) rfl rfl
@[simp] theorem awW:EF 213 K4 zg zm Pe zl zo:=⟨rfl,rfl,rfl,rfl,rfl,rfl⟩
theorem ac1:RF 213 33 Pe Tryz.f213 [.tmp 6,.tmp 7,.tmp 8]:=ax rfl rfl Tryz.func213 rfl (by kernel_rfl) Tryz.ntmps213 (by rw[Tryz.results213]) rfl rfl
@[simp] theorem awX:EF 214 K5 zg zm Pf zl zo:=⟨rfl,rfl,rfl,rfl,rfl,rfl⟩
theorem ac2:RF 214 64 Pf Tryz.f214 [.tmp 6,.tmp 7,.tmp 8]:=ax rfl rfl Tryz.func214 rfl (by kernel_rfl) Tryz.ntmps214 (by rw[Tryz.results214]) rfl rfl
@[simp] theorem awY:EF 215 K6 zg zm Ph zl zo:=⟨rfl,rfl,rfl,rfl,rfl,rfl⟩
theorem ac3:RF 215 43 Ph Tryz.f215 [.tmp 6,.tmp 7,.tmp 8]:=ax rfl rfl Tryz.func215 rfl (by kernel_rfl) Tryz.ntmps215 (by rw[Tryz.results215]) rfl rfl
@[simp] theorem awZ:EF 220 K7 zg zm Xj zl zo:=⟨rfl,rfl,rfl,rfl,rfl,rfl⟩
@[simp] theorem aw0:EF 221 K8 zg zm Xk zl zo:=⟨rfl,rfl,rfl,rfl,rfl,rfl⟩
@[simp] theorem aw1:EF 222 K9 zg zm Xl zl zo:=⟨rfl,rfl,rfl,rfl,rfl,rfl⟩
@[simp] theorem aw2:EF 228 La zg zm Xm zl zo:=⟨rfl,rfl,rfl,rfl,rfl,rfl⟩
@[simp] theorem ahW{args:List AV}{cs:List aE}:ai ctx 228 args cs=orcAns (liftO hpO) args cs:=yd rfl rfl
@[simp] theorem aw3:EF 229 Lc zg zm Pj zl zo:=⟨rfl,rfl,rfl,rfl,rfl,rfl⟩
theorem ac4:RF 229 8 Pj Tryz.f229 [.tmp 4]:=ax rfl rfl Tryz.func229 rfl (by kernel_rfl) Tryz.ntmps229 (by rw[Tryz.results229]) rfl rfl
@[simp] theorem aw4:EF 230 Ld zg zm Xn zl zo:=⟨rfl,rfl,rfl,rfl,rfl,rfl⟩
@[simp] theorem ahX{args:List AV}{cs:List aE}:ai ctx 230 args cs=orcAns (liftO idxO) args cs:=yd rfl rfl
@[simp] theorem aw5:EF 231 Lf zg Xo Pk zl zo:=⟨rfl,rfl,rfl,rfl,rfl,rfl⟩
theorem ac5:RF 231 17 Pk Tryz.f231 [.tmp 2]:=ax rfl rfl Tryz.func231 rfl (by kernel_rfl) Tryz.ntmps231 (by rw[Tryz.results231]) rfl rfl
@[simp] theorem aw6:EF 232 Lg zg Xp Pm zl zo:=⟨rfl,rfl,rfl,rfl,rfl,rfl⟩
theorem Sy:RF 232 20 Pm Tryz.f232 [.tmp 4]:=ax rfl rfl Tryz.func232 rfl (by kernel_rfl) Tryz.ntmps232 (by rw[Tryz.results232]) rfl rfl
@[simp] theorem aw7:EF 233 Lh zg Xq Po zl zo:=⟨rfl,rfl,rfl,rfl,rfl,rfl⟩
theorem ac6:RF 233 13 Po Tryz.f233 [.tmp 2]:=ax rfl rfl Tryz.func233 rfl (by kernel_rfl) Tryz.ntmps233 (by rw[Tryz.results233]) rfl rfl
@[simp] theorem aw8:EF 234 Li zg zm Pp zl zo:=⟨rfl,rfl,rfl,rfl,rfl,rfl⟩
theorem ac7:RF 234 6 Pp Tryz.f234 [.tmp 2]:=ax rfl rfl Tryz.func234 rfl (by kernel_rfl) Tryz.ntmps234 (by rw[Tryz.results234]) rfl rfl
@[simp] theorem aw9:EF 235 Lj zg zm Pq zl zo:=⟨rfl,rfl,rfl,rfl,rfl,rfl⟩
theorem ac8:RF 235 9 Pq Tryz.f235 [.tmp 2]:=ax rfl rfl Tryz.func235 rfl (by kernel_rfl) Tryz.ntmps235 (by rw[Tryz.results235]) rfl rfl
@[simp] theorem axa:EF 236 Lk zg Xr Pr zl Xs:=⟨rfl,rfl,rfl,rfl,rfl,rfl⟩
theorem ac9:RF 236 83 Pr Tryz.f236 [.tmp 2,.tmp 3,.tmp 4]:=ax rfl rfl Tryz.func236 rfl (by kernel_rfl) Tryz.ntmps236 (by rw[Tryz.results236]) rfl rfl
@[simp] theorem axb:EF 237 Ll zg zm Ps zl zo:=⟨rfl,rfl,rfl,rfl,rfl,rfl⟩
theorem ada:RF 237 19 Ps Tryz.f237 [.tmp 2]:=ax rfl rfl Tryz.func237 rfl (by kernel_rfl) Tryz.ntmps237 (by rw[Tryz.results237]) rfl rfl
@[simp] theorem axc:EF 238 Lm zg zm Xt zl zo:=⟨rfl,rfl,rfl,rfl,rfl,rfl⟩
@[simp] theorem axd:EF 239 Ln zg zm Xu zl zo:=⟨rfl,rfl,rfl,rfl,rfl,rfl⟩
@[simp] theorem axe:EF 240 Lo zg zm Xw zl Xv:=⟨rfl,rfl,rfl,rfl,rfl,rfl⟩
@[simp] theorem axf:EF 241 Lp zg zm Xx zl zo:=⟨rfl,rfl,rfl,rfl,rfl,rfl⟩
@[simp] theorem axg:EF 242 Lq zg zm Xz zl Xy:=⟨rfl,rfl,rfl,rfl,rfl,rfl⟩
@[simp] theorem axh:EF 243 Lr zg zm XA zl zo:=⟨rfl,rfl,rfl,rfl,rfl,rfl⟩
@[simp] theorem axi:EF 244 Ls zg zm XB zl zo:=⟨rfl,rfl,rfl,rfl,rfl,rfl⟩
@[simp] theorem axj:EF 245 Lt zg zm XF zl zo:=⟨rfl,rfl,rfl,rfl,rfl,rfl⟩
@[simp] theorem axk:EF 262 Lu zg zm Pt zl zo:=⟨rfl,rfl,rfl,rfl,rfl,rfl⟩
theorem adb:RF 262 19 Pt Tryz.f262 [.tmp 4]:=ax rfl rfl Tryz.func262 rfl (by kernel_rfl) Tryz.ntmps262 (by rw[Tryz.results262]) rfl rfl
@[simp] theorem axl:EF 263 Lv zg zm Pu zl zo:=⟨rfl,rfl,rfl,rfl,rfl,rfl⟩
theorem ade:RF 263 8 Pu Tryz.f263 [.tmp 3]:=ax rfl rfl Tryz.func263 rfl (by kernel_rfl) Tryz.ntmps263 (by rw[Tryz.results263]) rfl rfl
@[simp] theorem axm:EF 264 Lw zg zm Pv zl zo:=⟨rfl,rfl,rfl,rfl,rfl,rfl⟩
theorem adf:RF 264 23 Pv Tryz.f264 [.tmp 4,.tmp 5]:=ax rfl rfl Tryz.func264 rfl (by kernel_rfl) Tryz.ntmps264 (by rw[Tryz.results264]) rfl rfl
@[simp] theorem axn:EF 265 LA zg zm Pw zl zo:=⟨rfl,rfl,rfl,rfl,rfl,rfl⟩
theorem adg:RF 265 23 Pw Tryz.f265 [.tmp 4,.tmp 5]:=ax rfl rfl Tryz.func265 rfl (by kernel_rfl) Tryz.ntmps265 (by rw[Tryz.results265]) rfl rfl
@[simp] theorem axo:EF 266 LB zg zm Px zl zo:=⟨rfl,rfl,rfl,rfl,rfl,rfl⟩
theorem adh:RF 266 27 Px Tryz.f266 [.tmp 4,.tmp 5]:=ax rfl rfl Tryz.func266 rfl (by kernel_rfl) Tryz.ntmps266 (by rw[Tryz.results266]) rfl rfl
@[simp] theorem axp:EF 267 LC zg zm Py zl zo:=⟨rfl,rfl,rfl,rfl,rfl,rfl⟩
theorem adi:RF 267 19 Py Tryz.f267 [.tmp 4,.tmp 5]:=ax rfl rfl Tryz.func267 rfl (by kernel_rfl) Tryz.ntmps267 (by rw[Tryz.results267]) rfl rfl
@[simp] theorem axq:EF 268 LD zg zm Pz zl zo:=⟨rfl,rfl,rfl,rfl,rfl,rfl⟩
theorem adj:RF 268 14 Pz Tryz.f268 [.tmp 4,.tmp 5]:=ax rfl rfl Tryz.func268 rfl (by kernel_rfl) Tryz.ntmps268 (by rw[Tryz.results268]) rfl rfl
@[simp] theorem axr:EF 269 LF zg XG XH zl zo:=⟨rfl,rfl,rfl,rfl,rfl,rfl⟩
@[simp] theorem axs:EF 270 LG zg XI XJ zl zo:=⟨rfl,rfl,rfl,rfl,rfl,rfl⟩
@[simp] theorem axt:EF 274 LH zg XK XL zl zo:=⟨rfl,rfl,rfl,rfl,rfl,rfl⟩
@[simp] theorem axu:EF 275 LJ zg zm XM zl zo:=⟨rfl,rfl,rfl,rfl,rfl,rfl⟩
@[simp] theorem ahY{args:List AV}{cs:List aE}:ai ctx 275 args cs=orcAns (liftO ibO) args cs:=yd rfl rfl
@[simp] theorem axv:EF 276 LK zg XN XO zl zo:=⟨rfl,rfl,rfl,rfl,rfl,rfl⟩
@[simp] theorem axw:EF 277 LL zg zm PA zl zo:=⟨rfl,rfl,rfl,rfl,rfl,rfl⟩
theorem adk:RF 277 9 PA Tryz.f277 [.tmp 4]:=ax rfl rfl Tryz.func277 rfl (by kernel_rfl) Tryz.ntmps277 (by rw[Tryz.results277]) rfl rfl
@[simp] theorem axx:EF 278 LM zg zm PB zl XP:=⟨rfl,rfl,rfl,rfl,rfl,rfl⟩
theorem adl:RF 278 8 PB Tryz.f278 [.tmp 3]:=ax rfl rfl Tryz.func278 rfl (by kernel_rfl) Tryz.ntmps278 (by rw[Tryz.results278]) rfl rfl
@[simp] theorem axy:EF 279 LN zg zm PC zl zo:=⟨rfl,rfl,rfl,rfl,rfl,rfl⟩
theorem adm:RF 279 20 PC Tryz.f279 [.tmp 2]:=ax rfl rfl Tryz.func279 rfl (by kernel_rfl) Tryz.ntmps279 (by rw[Tryz.results279]) rfl rfl
@[simp] theorem axz:EF 280 LO zg zm XQ zl zo:=⟨rfl,rfl,rfl,rfl,rfl,rfl⟩
@[simp] theorem axA:EF 281 LP zg zm XR zl zo:=⟨rfl,rfl,rfl,rfl,rfl,rfl⟩
@[simp] theorem axB:EF 282 LQ zg zm XS zl zo:=⟨rfl,rfl,rfl,rfl,rfl,rfl⟩
@[simp] theorem axC:EF 283 LR zg zm XT zl zo:=⟨rfl,rfl,rfl,rfl,rfl,rfl⟩
@[simp] theorem axD:EF 284 LS zg zm XV zl XU:=⟨rfl,rfl,rfl,rfl,rfl,rfl⟩
@[simp] theorem axE:EF 285 LU zg zm XW zl zo:=⟨rfl,rfl,rfl,rfl,rfl,rfl⟩
@[simp] theorem axF:EF 297 LV zg zm PD zl zo:=⟨rfl,rfl,rfl,rfl,rfl,rfl⟩
theorem adn:RF 297 51 PD Tryz.f297 [.tmp 4,.tmp 5]:=ax rfl rfl Tryz.func297 rfl (by kernel_rfl) Tryz.ntmps297 (by rw[Tryz.results297]) rfl rfl
@[simp] theorem axG:EF 298 LW zg zm PE zl zo:=⟨rfl,rfl,rfl,rfl,rfl,rfl⟩
theorem ado:RF 298 10 PE Tryz.f298 [.tmp 2]:=ax rfl rfl Tryz.func298 rfl (by kernel_rfl) Tryz.ntmps298 (by rw[Tryz.results298]) rfl rfl
@[simp] theorem axH:EF 299 LX zg zm PF zl zo:=⟨rfl,rfl,rfl,rfl,rfl,rfl⟩
theorem adp:RF 299 24 PF Tryz.f299 [.tmp 4,.tmp 5]:=ax rfl rfl Tryz.func299 rfl (by kernel_rfl) Tryz.ntmps299 (by rw[Tryz.results299]) rfl rfl
@[simp] theorem axI:EF 300 LY zg zm XY zl XX:=⟨rfl,rfl,rfl,rfl,rfl,rfl⟩
@[simp] theorem axJ:EF 301 LZ zg zm X0 zl XZ:=⟨rfl,rfl,rfl,rfl,rfl,rfl⟩
@[simp] theorem axK:EF 306 L3 zg zm X1 zl zo:=⟨rfl,rfl,rfl,rfl,rfl,rfl⟩
@[simp] theorem axL:EF 307 L4 zg X7 X8 zl zo:=⟨rfl,rfl,rfl,rfl,rfl,rfl⟩
@[simp] theorem axM:EF 308 L5 zg zm PG zl zo:=⟨rfl,rfl,rfl,rfl,rfl,rfl⟩
theorem adq:RF 308 19 PG Tryz.f308 [.tmp 4]:=ax rfl rfl Tryz.func308 rfl (by kernel_rfl) Tryz.ntmps308 (by rw[Tryz.results308]) rfl rfl
@[simp] theorem axN:EF 309 L6 zg zm X9 zl zo:=⟨rfl,rfl,rfl,rfl,rfl,rfl⟩
@[simp] theorem axO:EF 310 L7 zg zm Yb zl Ya:=⟨rfl,rfl,rfl,rfl,rfl,rfl⟩
@[simp] theorem axP:EF 311 L8 zg zm Yc zl zo:=⟨rfl,rfl,rfl,rfl,rfl,rfl⟩
@[simp] theorem axQ:EF 312 L9 zg zm Yd zl zo:=⟨rfl,rfl,rfl,rfl,rfl,rfl⟩
@[simp] theorem axR:EF 313 Ma Yf zm Yg zl Ye:=⟨rfl,rfl,rfl,rfl,rfl,rfl⟩
@[simp] theorem axS:EF 314 Mb Yj Yh Yk zl Yi:=⟨rfl,rfl,rfl,rfl,rfl,rfl⟩
@[simp] theorem axT:EF 315 Md zg zm Ym zl Yl:=⟨rfl,rfl,rfl,rfl,rfl,rfl⟩
@[simp] theorem axU:EF 316 Me zg zm Yn zl zo:=⟨rfl,rfl,rfl,rfl,rfl,rfl⟩
@[simp] theorem axV:EF 317 Mf Yp zm Yq zl Yo:=⟨rfl,rfl,rfl,rfl,rfl,rfl⟩
@[simp] theorem axW:EF 318 Mg zg zm Yr zl zo:=⟨rfl,rfl,rfl,rfl,rfl,rfl⟩
@[simp] theorem axX:EF 328 Mh zg zm Ys zl zo:=⟨rfl,rfl,rfl,rfl,rfl,rfl⟩
@[simp] theorem axY:EF 329 Mi zg zm Yt zl zo:=⟨rfl,rfl,rfl,rfl,rfl,rfl⟩
@[simp] theorem axZ:EF 330 Mj zg Yu Yv zl zo:=⟨rfl,rfl,rfl,rfl,rfl,rfl⟩
@[simp] theorem ax0:EF 331 Ml zg zm Yw zl zo:=⟨rfl,rfl,rfl,rfl,rfl,rfl⟩
@[simp] theorem ax1:EF 332 Mm zg zm Yy zl Yx:=⟨rfl,rfl,rfl,rfl,rfl,rfl⟩
@[simp] theorem ax2:EF 335 Mn zg zm Yz zl zo:=⟨rfl,rfl,rfl,rfl,rfl,rfl⟩
@[simp] theorem ax3:EF 336 Mo zg zm YB zl YA:=⟨rfl,rfl,rfl,rfl,rfl,rfl⟩
@[simp] theorem ax4:EF 337 Mp zg zm YC zl zo:=⟨rfl,rfl,rfl,rfl,rfl,rfl⟩
@[simp] theorem ax5:EF 339 Mq zg zm YE zl YD:=⟨rfl,rfl,rfl,rfl,rfl,rfl⟩
end Go.Am
end
section
namespace Go.Am
@[simp] def pb(t:eZ):D:=.agg [.int .i64 t.kind,.str t.text,.int .i64 t.n,.int .i64 t.line,.int .i64 t.Cf]
end Go.Am
end
section
namespace Go.Am
open Go
def dC(op:Int):Nat:=if op=4∨op=6∨op=7 then 1 else if 7<op then 2 else 0
mutual
def bk:Ex→Bool
 | .mk op n name field sub _=>
  !decide ((op=1∧n<0)∨(op=2∧(n<0∨1<n))∨(2<op∧n≠0)∨op<1∨21<op)&&
  (decide (sub.length=dC op)&&((if op=3∨op=4∨op=5 then cY name else decide (name=[]))&&((if op=5 then cY field else decide (field=[]))&&bH sub)))
def bH:List Ex→Bool
 |[]=>true
 |x::r=>bk x&&bH r
end
theorem iO:∀l:List Ex,bH l=true↔∀x∈l,bk x=true
 |[]=>by simp[bH]
 |x::r=>by simp[bH,iO r]
def dD(x:Ex):Bool:=decide (bR x=0)&&(decide (gY x=0)&&decide ((dA x).length+(fi x).length+(cK x).length=0))
def pc(l:List Int):Bool:=!decide (l.length=0)&&(decide (l.length%2=0)&&l.all fun n=>decide (n≠ -9223372036854775808))
def cq(op:Int)(conds labels fields blocks:Nat):Bool:=
 if op=2 then decide (conds=max 1 conds)&&(decide (labels=0)&&(decide (fields=0)&&(decide (max 1 conds≤blocks)&&decide (blocks≤max 1 conds+1))))
 else if op=3 then decide (conds=0)&&(decide (fields=0)&&(decide (labels≤blocks)&&decide (blocks≤labels+1)))
 else if op=4 then decide (conds=3)&&(decide (labels=0)&&(decide (fields=0)&&decide (blocks=1)))
 else if op=5∨op=6 then decide (conds=0)&&(decide (labels=0)&&(decide (fields=0)&&decide (blocks=1)))
 else if op=9 then decide (conds=fields)&&(decide (labels=0)&&decide (blocks=0))
 else decide (conds=0)&&(decide (labels=0)&&(decide (fields=0)&&decide (blocks=0)))
mutual
def iZ:Sm→Bool
 | .mk op name to val conds labels fields blocks _=>
  decide (1≤op∧op≤9)&&((if op=4∨op=9 then cY name else decide (name=[]))&&
  ((if op=1 then decide (bR to=3∨bR to=4)&&bk to else dD to)&&
  ((if op=1∨op=3∨op=5∨op=6 then !dD val&&bk val else dD val)&&
  (bH conds&&(cq op conds.length labels.length fields.length blocks.length&&
  (fields.all cY&&(labels.all pc&&cI blocks)))))))
def ej:List Sm→Bool
 |[]=>true
 |x::r=>iZ x&&ej r
def cI:List (List Sm)→Bool
 |[]=>true
 |b::r=>ej b&&cI r
end
def ob(k:Int):Bool:=(bz k).length≠0
def dr(v:Vr):Bool:=
 cY v.name&&(decide (0≤v.sec∧v.sec≤2)&&(decide (v.ty=1∨v.ty=2)||ob v.ty)&&
 ((if v.arr=true then decide (v.ty≤2∧0≤v.lo∧v.lo≤v.hi∧v.hi≤255)else decide (v.lo=0∧v.hi=0))&&
 !decide (((v.arr=true∨2<v.ty)∧v.init≠0)∨(v.ty=2∧(v.init<0∨1<v.init))∨v.init= -9223372036854775808)))
def pe(p:Pg):Bool:=cY p.name&&(decide (p.vars.length≤64)&&(p.vars.all dr&&ej p.body))
abbrev EL:=Int×Int
def eU(a b:EL):EL:=if a.1≠0 then a else b
def Et(a:Te):EL:=(a.e,a.line)
def Cn(vs:List Vr)(to val:Ex)(line:Int):EL:=
 match bg vs (dA to)with
 |none=>(9,jC to)
 |some v=>if v.sec=1 then (1,jC to)else eU (Et (aF vs to)) (eU (Et (aF vs val)) (if (aF vs val).t≠(aF vs to).t then (10,line)else (0,0)))
def kq(vs:List Vr)(t:Int):List Ex→EL
 |[]=>(0,0)
 |x::r=>eU (dj vs x t) (kq vs t r)
def iz(vs:List Vr)(k line:Int):List Tx→List Ex→List Tx→EL
 |f::fs,x::xs,p=>match kJ k f with
  |none=>(9,line)
  |some q=>if q.J5=false then (9,line)else if f∈p then (11,line)else eU (dj vs x q.ty) (iz vs k line fs xs (p++[f]))
 |_,_,_=>(0,0)
mutual
def jS(vs:List Vr)(loops:Bool):Sm→EL
 | .mk op name to val conds _ fields blocks line=>
  if op=1 then Cn vs to val line
  else if op=2 then fq vs loops conds blocks
  else if op=3 then eU (dj vs val 1) (fq vs loops [] blocks)
  else if op=4 then (match bg vs name with
   |none=>(9,line)
   |some v=>if v.sec=1 then (1,line)else if v.arr=true∨v.ty≠1 then (10,line)else eU (kq vs 1 conds) (s4 vs blocks))
  else if op=5 then eU (dj vs val 2) (s4 vs blocks)
  else if op=6 then eU (s4 vs blocks) (dj vs val 2)
  else if op=7 then (if loops=true then (0,0)else (14,line))
  else if op=9 then (match bg vs name with
   |none=>(9,line)
   |some v=>if v.ty≤2 then (10,line)else iz vs v.ty line fields conds [])
  else (0,0)
def eu(vs:List Vr)(loops:Bool):List Sm→EL
 |[]=>(0,0)
 |x::r=>eU (jS vs loops x) (eu vs loops r)
def fq(vs:List Vr)(loops:Bool):List Ex→List (List Sm)→EL
 |_,[]=>(0,0)
 |[],b::r=>eU (eu vs loops b) (fq vs loops [] r)
 |c::cs,b::r=>eU (dj vs c 2) (eU (eu vs loops b) (fq vs loops cs r))
def s4(vs:List Vr):List (List Sm)→EL
 |[]=>(0,0)
 |b::_=>eu vs true b
end
def Eu:List Vr→List Vr→Int→EL
 |[],_,_=>(0,0)
 |v::r,p,n=>if (bg p v.name).isSome then (11,v.line)else if 1024<n+bK v then (13,v.line)else Eu r (p++[v]) (n+bK v)
def r9(p:Pg):EL:=eU (Eu p.vars [] 0) (eu p.vars false p.body)
def oc{α:Type}(p:α→Bool):List α→Nat→Int
 |[],_=> -1
 |x::r,i=>if p x=true then i else oc p r (i+1)
theorem Co{α:Type}(p:α→Bool):∀(l:List α)(i:Nat),oc p l i= -1∨(i≤oc p l i∧oc p l i<i+l.length)
 |[],i=>.inl rfl
 |x::r,i=>by
  unfold oc;split
  ·right;simp;omega
  ·rcases Co p r (i+1)with h|h
   ·exact .inl h
   ·right;simp only[List.length_cons];omega
end Go.Am
end
section
namespace Go.Am
open Go Go.Proofs
variable [Inhabited bV]
set_option maxRecDepth 20000
@[simp] theorem aq7(a b:Tx):(a == b)=decide (a=b):=by by_cases h:a=b<;>simp[h]
theorem an1:ai ctx 75 [.d (.int .i64 10)] []=some (.ret (.d (.list ((bz 10).map cU))),[]):=bx 120 (by kernel_rfl)
theorem an2:ai ctx 75 [.d (.int .i64 11)] []=some (.ret (.d (.list ((bz 11).map cU))),[]):=bx 120 (by kernel_rfl)
theorem an3:ai ctx 75 [.d (.int .i64 12)] []=some (.ret (.d (.list ((bz 12).map cU))),[]):=bx 120 (by kernel_rfl)
theorem an4:ai ctx 75 [.d (.int .i64 13)] []=some (.ret (.d (.list ((bz 13).map cU))),[]):=bx 120 (by kernel_rfl)
theorem an5:ai ctx 75 [.d (.int .i64 14)] []=some (.ret (.d (.list ((bz 14).map cU))),[]):=bx 120 (by kernel_rfl)
theorem an6:ai ctx 75 [.d (.int .i64 15)] []=some (.ret (.d (.list ((bz 15).map cU))),[]):=bx 120 (by kernel_rfl)
theorem an7:ai ctx 75 [.d (.int .i64 16)] []=some (.ret (.d (.list ((bz 16).map cU))),[]):=bx 120 (by kernel_rfl)
theorem an8:ai ctx 75 [.d (.int .i64 17)] []=some (.ret (.d (.list ((bz 17).map cU))),[]):=bx 120 (by kernel_rfl)
theorem an9:ai ctx 75 [.d (.int .i64 18)] []=some (.ret (.d (.list ((bz 18).map cU))),[]):=bx 120 (by kernel_rfl)
theorem aoa:ai ctx 75 [.d (.int .i64 20)] []=some (.ret (.d (.list ((bz 20).map cU))),[]):=bx 120 (by kernel_rfl)
theorem aob:ai ctx 75 [.d (.int .i64 21)] []=some (.ret (.d (.list ((bz 21).map cU))),[]):=bx 120 (by kernel_rfl)
theorem aoc:ai ctx 75 [.d (.int .i64 22)] []=some (.ret (.d (.list ((bz 22).map cU))),[]):=bx 120 (by kernel_rfl)
theorem aod:ai ctx 75 [.d (.int .i64 23)] []=some (.ret (.d (.list ((bz 23).map cU))),[]):=bx 120 (by kernel_rfl)
theorem aoe:ai ctx 75 [.d (.int .i64 24)] []=some (.ret (.d (.list ((bz 24).map cU))),[]):=bx 120 (by kernel_rfl)
theorem aof:ai ctx 75 [.d (.int .i64 25)] []=some (.ret (.d (.list ((bz 25).map cU))),[]):=bx 120 (by kernel_rfl)
theorem aog:ai ctx 75 [.d (.int .i64 26)] []=some (.ret (.d (.list ((bz 26).map cU))),[]):=bx 120 (by kernel_rfl)
theorem aoh:ai ctx 75 [.d (.int .i64 27)] []=some (.ret (.d (.list ((bz 27).map cU))),[]):=bx 120 (by kernel_rfl)
theorem aoi:ai ctx 75 [.d (.int .i64 28)] []=some (.ret (.d (.list ((bz 28).map cU))),[]):=bx 120 (by kernel_rfl)
theorem aoj:ai ctx 75 [.d (.int .i64 29)] []=some (.ret (.d (.list ((bz 29).map cU))),[]):=bx 120 (by kernel_rfl)
theorem aok:ai ctx 75 [.d (.int .i64 30)] []=some (.ret (.d (.list ((bz 30).map cU))),[]):=bx 120 (by kernel_rfl)
theorem aol:ai ctx 75 [.d (.int .i64 31)] []=some (.ret (.d (.list ((bz 31).map cU))),[]):=bx 120 (by kernel_rfl)
def oe:D→Option Int
 | .agg [.int .i64 k,.str _,.str _,.str _,.int .i64 _]=>some k
 |_=>none
theorem zV{d:D}{k:Int}(h:oe d=some k):∃a b c n,d=.agg [.int .i64 k,.str a,.str b,.str c,.int .i64 n]:=by
 unfold oe at h;split at h
 ·rename_i k' a b c n;cases h;exact⟨a,b,c,n,rfl⟩
 ·cases h
def Mr:Option (Out×List (Nat×aE))→Option (List (Option Int))
 |some (.ret (.d (.list l)),[])=>some (l.map oe)
 |_=>none
theorem adr:Mr (aR ctx 120 164 [] [])=some (iG.map some):=by kernel_rfl
theorem Ve:∃l:List D,ai ctx 164 [] []=some (.ret (.d (.list l)),[])∧l.map oe=iG.map some:=by
 have h:=adr;generalize hr:aR ctx 120 164 [] []=r at h;unfold Mr at h;split at h
 ·rename_i l;exact⟨l,bx 120 hr,by simpa using h⟩
 ·cases h
theorem Vf(d:D)(k b:Int)(hd:oe d=some k):ai ctx 166 [.d d,.ptr 0 0 0] [.box [.d (.int .i64 b)]]=some (.ret (.d (.bool (decide (k=b)))),[(0,.box [.d (.int .i64 b)])]):=by
 obtain⟨a,e,c,n,rfl⟩:=zV hd;rw[acI (by simp)];simp[Tryz.f166]
theorem zW(b:Int):∀(rest pre:List D),(∀d∈rest,∃k,oe d=some k∧k≠b)→(pre++rest).length<1000→∀k:Kt,
 aI ctx 165 (.loop (Code.at (aX Tryz.f165) [1,0,1,0,0])) ⟨19,aC,[(0,true,.d (.list (pre++rest))),(1,true,.fn 166 [.ptr 0 0 0]),(7,true,.d (.int .i64 (pre++rest).length)),(8,true,.d (.int .i64 pre.length))],[⟨0,0,.box [.d (.int .i64 b)]⟩]⟩ k=
  k (.exit 0) ⟨19,aC,[(0,true,.d (.list (pre++rest))),(1,true,.fn 166 [.ptr 0 0 0]),(7,true,.d (.int .i64 (pre++rest).length)),(8,true,.d (.int .i64 (pre++rest).length)),(9,true,.d (.bool false))],[⟨0,0,.box [.d (.int .i64 b)]⟩]⟩
 |[],pre,h,hl,k=>by
  rw[ah];simp[Tryz.f165]
 |d::rest,pre,h,hl,k=>by
  obtain⟨kd,hk,bE⟩:=h d (by simp);have hs:=Vf d kd b hk;obtain⟨a1,a2,a3,a4,rfl⟩:=zV hk;have ih:=zW b rest (pre++[.agg [.int .i64 kd,.str a1,.str a2,.str a3,.int .i64 a4]]) (fun d hd=>h d (by simp[hd])) (by simpa using hl) k;have h1:(pre.length:Int)<pre.length+(rest.length+1):=by omega
  have h2:IntKind.i64.wrap ((pre.length:Int)+1)=pre.length+1:=aw (by unfold aY;simp at hl;omega);simp[bE]at hs;rw[ah];simp[Tryz.f165]at ih⊢;simp[h1,h2,hs,ih]
theorem PJ(b:Int)(hb:b∉iG):ai ctx 75 [.d (.int .i64 b)] []=some (.ret (.d (.list [])),[]):=by
 obtain⟨l,hl,hm⟩:=Ve;have hlen:l.length=21:=by have:=congrArg List.length hm;simpa [iG]using this
 have dP:∀d∈l,∃k,oe d=some k∧k≠b:=by
  intro d hd;have h1:oe d∈l.map oe:=List.mem_map_of_mem hd;rw[hm]at h1;obtain⟨k,hk,he⟩:=List.mem_map.1 h1;exact⟨k,he.symm,fun h=>hb (h▸hk)⟩
 have Cp:=zW b l [] dP (by simp;omega);have aom:ai ctx 165 [.d (.list l),.fn 166 [.ptr 0 0 0]] [.box [.d (.int .i64 b)]]=some (.ret (.d (.int .i64 (-1))),[(0,.box [.d (.int .i64 b)])]):=by
  rw[acH (by simp)];simp[Tryz.f165]at Cp⊢;simp[Cp]
 have JS:ai ctx 114 [.d (.int .i64 b)] []=some (.ret (.aU [.d (.agg [.int .i64 0,.str [],.str [],.str [],.int .i64 0]),.d (.bool false)]),[]):=by
  rw[acs (by simp)];simp[Tryz.f114,hl,aom]
 rw[ahM (by simp)];simp[Tryz.f75,JS]
theorem Mt(b:Int):ai ctx 75 [.d (.int .i64 b)] []=some (.ret (.d (.list ((bz b).map cU))),[]):=by
 by_cases hb:b∈iG
 ·simp only[iG,List.mem_cons,List.not_mem_nil,or_false]at hb;rcases hb with rfl|rfl|rfl|rfl|rfl|rfl|rfl|rfl|rfl|rfl|rfl|rfl|rfl|rfl|rfl|rfl|rfl|rfl|rfl|rfl|rfl
  ·exact an1
  ·exact an2
  ·exact an3
  ·exact an4
  ·exact an5
  ·exact an6
  ·exact an7
  ·exact an8
  ·exact an9
  ·exact aoa
  ·exact aob
  ·exact aoc
  ·exact aod
  ·exact aoe
  ·exact aof
  ·exact aog
  ·exact aoh
  ·exact aoi
  ·exact aoj
  ·exact aok
  ·exact aol
 ·rw[q9 hb];exact PJ b hb
def qJ:Vr:=⟨[],0,0,false,0,0,0,0⟩
def fV(vs:List Vr)(s:Tx):Vr:=(bg vs s).getD qJ
def s5:Pn:=⟨[],0,false⟩
def fP(k:Int)(s:Tx):Pn:=(kJ k s).getD s5
@[simp] def PK(t:Tx):D:=.str t
theorem Cq(s:Tx)(l:List Tx)(hl:l.length≤1000)(k:Kt)(R1 R2:bP)
 (h1:k .ret ⟨15,aC,[(2,true,.d (.bool true))],[]⟩=R1)
 (h2:∀Y:Env,k (.exit 0) ⟨15,aC,Y,[]⟩=R2):∀(rest:List Tx)(j:Nat),l.drop j=rest→j+rest.length=l.length→
 aI ctx 84 (.loop (Code.at (aX Tryz.f84) [1,0,1,0,0])) ⟨15,aC,[(0,true,.d (.str s)),(5,true,.d (.list (l.map PK))),(6,true,.d (.int .i64 l.length)),(7,true,.d (.int .i64 j))],[]⟩ k=if s∈rest then R1 else R2
 |[],j,hd,hj=>by
  have hj:j=l.length:=by simpa using hj
  subst hj;rw[ah];simp[Tryz.f84,h2]
 |x::rest,j,hd,hj=>by
  have bn:j<l.length:=by simp at hj;omega
  have hx:l[j]=x:=by
   have:=congrArg (·[0]?) hd;simp at this;simpa [bn]using this
  have ih:=Cq s l hl k R1 R2 h1 h2 rest (j+1) (by rw[←List.tail_drop,hd];rfl) (by simp at hj;omega);have w1:IntKind.i64.wrap ((j:Int)+1)=(j:Int)+1:=aw (by unfold aY;omega);rw[ah];by_cases hs:x=s
  ·simp[Tryz.f84];simp[bn,hx,hs,h1]
  ·have pN:¬s=x:=fun h=>hs h.symm;simp[Tryz.f84]at ih⊢;simp[bn,hx,hs,pN,w1,ih]
theorem Sz(s:Tx):ai ctx 84 [.d (.str s)] []=some (.ret (.d (.bool (sX s))),[]):=by
 have cP:=fun k R1 R2 h1 h2=>Cq s jB (by decide) k R1 R2 h1 h2 jB 0 rfl (by decide);have e:List.map PK jB=jB.map PK:=rfl;have hlen:jB.length=36:=rfl;have r36:List.range' 0 36=[0,1,2,3,4,5,6,7,8,9,10,11,12,13,14,15,16,17,18,19,20,21,22,23,24,25,26,27,28,29,30,31,32,33,34,35]:=rfl;rw[ahQ (by simp)];unfold sX;generalize hB:decide (s∈jB)=B;simp[Tryz.f84,jB]at cP;simp[Tryz.f84,r36];rw[cP _ (some (.ret (.d (.bool true)),[])) (some (.ret (.d (.bool false)),[])) (by simp) (by simp)];subst hB;by_cases hm:s∈jB
 ·rw[decide_eq_true hm];simp only[jB,List.mem_cons,List.not_mem_nil,or_false]at hm;rw[if_pos hm]
 ·rw[decide_eq_false hm];simp only[jB,List.mem_cons,List.not_mem_nil,or_false]at hm;rw[if_neg hm]
theorem Cr(s:Tx)(hl:s.length≤16)(k:Kt)(R1 R2:bP)
 (h1:k .ret ⟨59,aC,[(2,true,.d (.bool false))],[]⟩=R1)
 (h2:∀Y:Env,k (.exit 0) ⟨59,aC,Y,[]⟩=R2):∀(rest:Tx)(j:Nat),s.drop j=rest→j+rest.length=s.length→
 aI ctx 44 (.loop (Code.at (aX Tryz.f44) [1,1,0,1,0,0])) ⟨59,aC,[(0,true,.d (.str s)),(3,true,.d (.int .i64 j))],[]⟩ k=if sY rest j=true then R2 else R1
 |[],j,hd,hj=>by
  have hj:j=s.length:=by simpa using hj
  subst hj;rw[ah];simp[Tryz.f44,h2,sY]
 |c::rest,j,hd,hj=>by
  have bn:j<s.length:=by simp at hj;omega
  have hx:iJ s j=c:=by
   have:=congrArg (·[0]?) hd;simp at this;simp[iJ,this]
  have ih:=Cr s hl k R1 R2 h1 h2 rest (j+1) (by rw[←List.tail_drop,hd];rfl) (by simp at hj;omega);have w1:IntKind.i64.wrap ((j:Int)+1)=(j:Int)+1:=aw (by unfold aY;omega);have key:sY (c::rest) j=((UF c||(!decide (j=0)&&(decide (c=95)||UG c)))&&sY rest (j+1)):=rfl;have aon:decide (c=95)=decide (c.toNat=95):=by
   rw[decide_eq_decide];exact⟨fun h=>by rw[h];rfl,fun h=>UInt8.toNat_inj.1 (by rw[h];rfl)⟩
  rw[key,aon];generalize sY rest (j+1)=B at*;rw[ah];simp[Tryz.f44]at ih⊢;simp[bn,hx,w1,h1,ih];unfold UF UG;grind
theorem eG(s:Tx):ai ctx 44 [.d (.str s)] []=some (.ret (.d (.bool (cY s))),[]):=by
 have hw:=Sz s;unfold cY;rw[ahD (by simp)];by_cases h1:s.length<1
 ·have h2:¬1≤s.length:=by omega
  have h3:(s.length:Int)<1:=by omega
  simp[Tryz.f44,h2,h3]
 ·by_cases Es:16<s.length
  ·have h2:1≤s.length:=by omega
   have h3:¬(s.length:Int)<1:=by omega
   have h4:¬s.length≤16:=by omega
   have h5:(16:Int)<s.length:=by omega
   simp[Tryz.f44,h2,h3,h4,Es,h5]
  ·have h2:1≤s.length:=by omega
   have h3:¬(s.length:Int)<1:=by omega
   have h4:s.length≤16:=by omega
   have h5:¬(16:Int)<s.length:=by omega
   cases hb:sX s with
   |true=>
    rw[hb]at hw;simp[Tryz.f44,h2,h3,h4,Es,h5,hw]
   |false=>
    rw[hb]at hw;have cP:=fun k R1 R2 h1 h2=>Cr s h4 k R1 R2 h1 h2 s 0 rfl (by simp);simp[Tryz.f44]at cP;simp[Tryz.f44,h2,h3,h4,Es,h5,hw];rw[cP _ (some (.ret (.d (.bool false)),[])) (some (.ret (.d (.bool true)),[])) (by simp) (by simp)];cases sY s 0<;>simp
theorem Mu{x:Ex}(h:(dA x).length<100000000∧(fi x).length<100000000∧(cK x).length<100000000):ai ctx 88 [.d (.agg [.int .i64 (bR x),.int .i64 (gY x),.str (dA x),.str (fi x),.list ((cK x).map bJ),.int .i64 (jC x)])] []=some (.ret (.d (.bool (dD x))),[]):=by
 have w1:IntKind.i64.wrap ((dA x).length+(fi x).length:Int)=(dA x).length+(fi x).length:=aw (by unfold aY;omega);have w2:IntKind.i64.wrap ((dA x).length+(fi x).length+(cK x).length:Int)=(dA x).length+(fi x).length+(cK x).length:=aw (by unfold aY;omega);unfold dD;generalize hB:decide ((dA x).length+(fi x).length+(cK x).length=0)=B;rw[ahT (by simp)];by_cases h0:bR x=0
 ·by_cases h1:gY x=0
  ·simp[Tryz.f88,h0,h1];rw[w1,w2,←hB,decide_eq_decide];omega
  ·simp[Tryz.f88,h0,h1]
 ·simp[Tryz.f88,h0]
theorem Vg(op:Int):ai ctx 86 [.d (.int .i64 op)] []=some (.ret (.aU [.d (.bool (decide (op=4∨op=9))),.d (.bool (decide (op=1))),.d (.bool (decide (op=1∨op=3∨op=5∨op=6)))]),[]):=by
 rw[ahR (by simp)];simp[Tryz.f86];grind
theorem og(x:Ex):bk x=(!decide ((bR x=1∧gY x<0)∨(bR x=2∧(gY x<0∨1<gY x))∨(2<bR x∧gY x≠0)∨bR x<1∨21<bR x)&&
 (decide ((cK x).length=dC (bR x))&&((if bR x=3∨bR x=4∨bR x=5 then cY (dA x)else decide (dA x=[]))&&((if bR x=5 then cY (fi x)else decide (fi x=[]))&&bH (cK x))))):=by
 cases x;rw[bk];rfl
def KF(l:List Ex):Prop:=ai ctx 87 [.d (.list (l.map bJ))] []=some (.ret (.d (.bool (bH l))),[])
theorem ads{l:List Ex}(bm:l.length<100000000){i:Nat}{x:Ex}(aV:i<l.length)(aW:l[i]=x)(hk:KF (cK x))(lq:(cK x).length<100000000)(k:Kt)(R1 R2:bP)(B:Bool)
 (h1:∀v X,k .ret ⟨126,aC,[(2,true,.d (.bool false))],[⟨300,v,X⟩]⟩=R1)
 (ih:∀v X,aI ctx 87 (.loop (Code.at (aX Tryz.f87) [1,0,1,0,0])) ⟨126,aC,[(0,true,.d (.list (l.map bJ))),(3,true,.d (.int .i64 (i+1)))],[⟨300,v,X⟩]⟩ k=if B=true then R2 else R1) (h:bR x<1) (v:Nat) (X:aE):
 aI ctx 87 (.loop (Code.at (aX Tryz.f87) [1,0,1,0,0])) ⟨126,aC,[(0,true,.d (.list (l.map bJ))),(3,true,.d (.int .i64 i))],[⟨300,v,X⟩]⟩ k=if (bk x&&B)=true then R2 else R1:=by
 have w1:IntKind.i64.wrap ((i:Int)+1)=i+1:=aw (by unfold aY;omega);have hn:=eG (dA x);have hf:=eG (fi x);unfold KF at hk;rw[og];generalize bH (cK x)=S at*;generalize cY (dA x)=N at*;generalize cY (fi x)=F at*;have c1:¬bR x=1:=by omega
 have c2:¬bR x=2:=by omega
 have c3:¬bR x=3:=by omega
 have c4:¬bR x=4:=by omega
 have c5:¬bR x=5:=by omega
 have c6:¬bR x=6:=by omega
 have c7:¬bR x=7:=by omega
 have d1:¬2<bR x:=by omega
 rw[ah];simp[Tryz.f87]at ih⊢;simp[aV,aW,w1,aD,h,hk,hn,hf,ih,h1,c1,c2,d1];intros;omega
theorem adt{l:List Ex}(bm:l.length<100000000){i:Nat}{x:Ex}(aV:i<l.length)(aW:l[i]=x)(hk:KF (cK x))(lq:(cK x).length<100000000)(k:Kt)(R1 R2:bP)(B:Bool)
 (h1:∀v X,k .ret ⟨126,aC,[(2,true,.d (.bool false))],[⟨300,v,X⟩]⟩=R1)
 (ih:∀v X,aI ctx 87 (.loop (Code.at (aX Tryz.f87) [1,0,1,0,0])) ⟨126,aC,[(0,true,.d (.list (l.map bJ))),(3,true,.d (.int .i64 (i+1)))],[⟨300,v,X⟩]⟩ k=if B=true then R2 else R1) (h:bR x=1) (v:Nat) (X:aE):
 aI ctx 87 (.loop (Code.at (aX Tryz.f87) [1,0,1,0,0])) ⟨126,aC,[(0,true,.d (.list (l.map bJ))),(3,true,.d (.int .i64 i))],[⟨300,v,X⟩]⟩ k=if (bk x&&B)=true then R2 else R1:=by
 have w1:IntKind.i64.wrap ((i:Int)+1)=i+1:=aw (by unfold aY;omega);have hn:=eG (dA x);have hf:=eG (fi x);unfold KF at hk;rw[og];generalize bH (cK x)=S at*;generalize cY (dA x)=N at*;generalize cY (fi x)=F at*;rw[ah];simp[Tryz.f87]at ih⊢;have e0:dC 1=0:=rfl;by_cases fg:gY x<0
 ·simp[aV,aW,w1,aD,h,hk,hn,hf,ih,h1,fg];intros;omega
 ·by_cases dJ:1<gY x
  ·simp[aV,aW,w1,aD,h,hk,hn,hf,ih,h1,fg,dJ,e0];grind
  ·simp[aV,aW,w1,aD,h,hk,hn,hf,ih,h1,fg,dJ,e0];grind
theorem adu{l:List Ex}(bm:l.length<100000000){i:Nat}{x:Ex}(aV:i<l.length)(aW:l[i]=x)(hk:KF (cK x))(lq:(cK x).length<100000000)(k:Kt)(R1 R2:bP)(B:Bool)
 (h1:∀v X,k .ret ⟨126,aC,[(2,true,.d (.bool false))],[⟨300,v,X⟩]⟩=R1)
 (ih:∀v X,aI ctx 87 (.loop (Code.at (aX Tryz.f87) [1,0,1,0,0])) ⟨126,aC,[(0,true,.d (.list (l.map bJ))),(3,true,.d (.int .i64 (i+1)))],[⟨300,v,X⟩]⟩ k=if B=true then R2 else R1) (h:bR x=2) (v:Nat) (X:aE):
 aI ctx 87 (.loop (Code.at (aX Tryz.f87) [1,0,1,0,0])) ⟨126,aC,[(0,true,.d (.list (l.map bJ))),(3,true,.d (.int .i64 i))],[⟨300,v,X⟩]⟩ k=if (bk x&&B)=true then R2 else R1:=by
 have w1:IntKind.i64.wrap ((i:Int)+1)=i+1:=aw (by unfold aY;omega);have hn:=eG (dA x);have hf:=eG (fi x);unfold KF at hk;rw[og];generalize bH (cK x)=S at*;generalize cY (dA x)=N at*;generalize cY (fi x)=F at*;rw[ah];simp[Tryz.f87]at ih⊢;have e0:dC 2=0:=rfl;by_cases fg:gY x<0
 ·simp[aV,aW,w1,aD,h,hk,hn,hf,ih,h1,fg];intros;omega
 ·by_cases dJ:1<gY x
  ·simp[aV,aW,w1,aD,h,hk,hn,hf,ih,h1,fg,dJ,e0];intros;omega
  ·simp[aV,aW,w1,aD,h,hk,hn,hf,ih,h1,fg,dJ,e0];grind
theorem adv{l:List Ex}(bm:l.length<100000000){i:Nat}{x:Ex}(aV:i<l.length)(aW:l[i]=x)(hk:KF (cK x))(lq:(cK x).length<100000000)(k:Kt)(R1 R2:bP)(B:Bool)
 (h1:∀v X,k .ret ⟨126,aC,[(2,true,.d (.bool false))],[⟨300,v,X⟩]⟩=R1)
 (ih:∀v X,aI ctx 87 (.loop (Code.at (aX Tryz.f87) [1,0,1,0,0])) ⟨126,aC,[(0,true,.d (.list (l.map bJ))),(3,true,.d (.int .i64 (i+1)))],[⟨300,v,X⟩]⟩ k=if B=true then R2 else R1) (h:bR x=3) (v:Nat) (X:aE):
 aI ctx 87 (.loop (Code.at (aX Tryz.f87) [1,0,1,0,0])) ⟨126,aC,[(0,true,.d (.list (l.map bJ))),(3,true,.d (.int .i64 i))],[⟨300,v,X⟩]⟩ k=if (bk x&&B)=true then R2 else R1:=by
 have w1:IntKind.i64.wrap ((i:Int)+1)=i+1:=aw (by unfold aY;omega);have hn:=eG (dA x);have hf:=eG (fi x);unfold KF at hk;rw[og];generalize bH (cK x)=S at*;generalize cY (dA x)=N at*;generalize cY (fi x)=F at*;rw[ah];simp[Tryz.f87]at ih⊢;have e0:dC 3=0:=rfl;by_cases fg:gY x=0
 ·simp[aV,aW,w1,aD,h,hk,hn,hf,ih,h1,fg,e0];grind
 ·simp[aV,aW,w1,aD,h,hk,hn,hf,ih,h1,fg]
theorem adw{l:List Ex}(bm:l.length<100000000){i:Nat}{x:Ex}(aV:i<l.length)(aW:l[i]=x)(hk:KF (cK x))(lq:(cK x).length<100000000)(k:Kt)(R1 R2:bP)(B:Bool)
 (h1:∀v X,k .ret ⟨126,aC,[(2,true,.d (.bool false))],[⟨300,v,X⟩]⟩=R1)
 (ih:∀v X,aI ctx 87 (.loop (Code.at (aX Tryz.f87) [1,0,1,0,0])) ⟨126,aC,[(0,true,.d (.list (l.map bJ))),(3,true,.d (.int .i64 (i+1)))],[⟨300,v,X⟩]⟩ k=if B=true then R2 else R1) (h:bR x=4) (v:Nat) (X:aE):
 aI ctx 87 (.loop (Code.at (aX Tryz.f87) [1,0,1,0,0])) ⟨126,aC,[(0,true,.d (.list (l.map bJ))),(3,true,.d (.int .i64 i))],[⟨300,v,X⟩]⟩ k=if (bk x&&B)=true then R2 else R1:=by
 have w1:IntKind.i64.wrap ((i:Int)+1)=i+1:=aw (by unfold aY;omega);have hn:=eG (dA x);have hf:=eG (fi x);unfold KF at hk;rw[og];generalize bH (cK x)=S at*;generalize cY (dA x)=N at*;generalize cY (fi x)=F at*;rw[ah];simp[Tryz.f87]at ih⊢;have e0:dC 4=1:=rfl;by_cases fg:gY x=0
 ·simp[aV,aW,w1,aD,h,hk,hn,hf,ih,h1,fg,e0];grind
 ·simp[aV,aW,w1,aD,h,hk,hn,hf,ih,h1,fg]
theorem adx{l:List Ex}(bm:l.length<100000000){i:Nat}{x:Ex}(aV:i<l.length)(aW:l[i]=x)(hk:KF (cK x))(lq:(cK x).length<100000000)(k:Kt)(R1 R2:bP)(B:Bool)
 (h1:∀v X,k .ret ⟨126,aC,[(2,true,.d (.bool false))],[⟨300,v,X⟩]⟩=R1)
 (ih:∀v X,aI ctx 87 (.loop (Code.at (aX Tryz.f87) [1,0,1,0,0])) ⟨126,aC,[(0,true,.d (.list (l.map bJ))),(3,true,.d (.int .i64 (i+1)))],[⟨300,v,X⟩]⟩ k=if B=true then R2 else R1) (h:bR x=5) (v:Nat) (X:aE):
 aI ctx 87 (.loop (Code.at (aX Tryz.f87) [1,0,1,0,0])) ⟨126,aC,[(0,true,.d (.list (l.map bJ))),(3,true,.d (.int .i64 i))],[⟨300,v,X⟩]⟩ k=if (bk x&&B)=true then R2 else R1:=by
 have w1:IntKind.i64.wrap ((i:Int)+1)=i+1:=aw (by unfold aY;omega);have hn:=eG (dA x);have hf:=eG (fi x);unfold KF at hk;rw[og];generalize bH (cK x)=S at*;generalize cY (dA x)=N at*;generalize cY (fi x)=F at*;rw[ah];simp[Tryz.f87]at ih⊢;have e0:dC 5=0:=rfl;by_cases fg:gY x=0
 ·simp[aV,aW,w1,aD,h,hk,hn,hf,ih,h1,fg,e0];grind
 ·simp[aV,aW,w1,aD,h,hk,hn,hf,ih,h1,fg]
theorem ady{l:List Ex}(bm:l.length<100000000){i:Nat}{x:Ex}(aV:i<l.length)(aW:l[i]=x)(hk:KF (cK x))(lq:(cK x).length<100000000)(k:Kt)(R1 R2:bP)(B:Bool)
 (h1:∀v X,k .ret ⟨126,aC,[(2,true,.d (.bool false))],[⟨300,v,X⟩]⟩=R1)
 (ih:∀v X,aI ctx 87 (.loop (Code.at (aX Tryz.f87) [1,0,1,0,0])) ⟨126,aC,[(0,true,.d (.list (l.map bJ))),(3,true,.d (.int .i64 (i+1)))],[⟨300,v,X⟩]⟩ k=if B=true then R2 else R1) (h:bR x=6) (v:Nat) (X:aE):
 aI ctx 87 (.loop (Code.at (aX Tryz.f87) [1,0,1,0,0])) ⟨126,aC,[(0,true,.d (.list (l.map bJ))),(3,true,.d (.int .i64 i))],[⟨300,v,X⟩]⟩ k=if (bk x&&B)=true then R2 else R1:=by
 have w1:IntKind.i64.wrap ((i:Int)+1)=i+1:=aw (by unfold aY;omega);have hn:=eG (dA x);have hf:=eG (fi x);unfold KF at hk;rw[og];generalize bH (cK x)=S at*;generalize cY (dA x)=N at*;generalize cY (fi x)=F at*;rw[ah];simp[Tryz.f87]at ih⊢;have e0:dC 6=1:=rfl;by_cases fg:gY x=0
 ·simp[aV,aW,w1,aD,h,hk,hn,hf,ih,h1,fg,e0];grind
 ·simp[aV,aW,w1,aD,h,hk,hn,hf,ih,h1,fg]
theorem adz{l:List Ex}(bm:l.length<100000000){i:Nat}{x:Ex}(aV:i<l.length)(aW:l[i]=x)(hk:KF (cK x))(lq:(cK x).length<100000000)(k:Kt)(R1 R2:bP)(B:Bool)
 (h1:∀v X,k .ret ⟨126,aC,[(2,true,.d (.bool false))],[⟨300,v,X⟩]⟩=R1)
 (ih:∀v X,aI ctx 87 (.loop (Code.at (aX Tryz.f87) [1,0,1,0,0])) ⟨126,aC,[(0,true,.d (.list (l.map bJ))),(3,true,.d (.int .i64 (i+1)))],[⟨300,v,X⟩]⟩ k=if B=true then R2 else R1) (h:bR x=7) (v:Nat) (X:aE):
 aI ctx 87 (.loop (Code.at (aX Tryz.f87) [1,0,1,0,0])) ⟨126,aC,[(0,true,.d (.list (l.map bJ))),(3,true,.d (.int .i64 i))],[⟨300,v,X⟩]⟩ k=if (bk x&&B)=true then R2 else R1:=by
 have w1:IntKind.i64.wrap ((i:Int)+1)=i+1:=aw (by unfold aY;omega);have hn:=eG (dA x);have hf:=eG (fi x);unfold KF at hk;rw[og];generalize bH (cK x)=S at*;generalize cY (dA x)=N at*;generalize cY (fi x)=F at*;rw[ah];simp[Tryz.f87]at ih⊢;have e0:dC 7=1:=rfl;by_cases fg:gY x=0
 ·simp[aV,aW,w1,aD,h,hk,hn,hf,ih,h1,fg,e0];grind
 ·simp[aV,aW,w1,aD,h,hk,hn,hf,ih,h1,fg]
theorem adA{l:List Ex}(bm:l.length<100000000){i:Nat}{x:Ex}(aV:i<l.length)(aW:l[i]=x)(hk:KF (cK x))(lq:(cK x).length<100000000)(k:Kt)(R1 R2:bP)(B:Bool)
 (h1:∀v X,k .ret ⟨126,aC,[(2,true,.d (.bool false))],[⟨300,v,X⟩]⟩=R1)
 (ih:∀v X,aI ctx 87 (.loop (Code.at (aX Tryz.f87) [1,0,1,0,0])) ⟨126,aC,[(0,true,.d (.list (l.map bJ))),(3,true,.d (.int .i64 (i+1)))],[⟨300,v,X⟩]⟩ k=if B=true then R2 else R1) (h:7<bR x) (v:Nat) (X:aE):
 aI ctx 87 (.loop (Code.at (aX Tryz.f87) [1,0,1,0,0])) ⟨126,aC,[(0,true,.d (.list (l.map bJ))),(3,true,.d (.int .i64 i))],[⟨300,v,X⟩]⟩ k=if (bk x&&B)=true then R2 else R1:=by
 have w1:IntKind.i64.wrap ((i:Int)+1)=i+1:=aw (by unfold aY;omega);have hn:=eG (dA x);have hf:=eG (fi x);unfold KF at hk;rw[og];generalize bH (cK x)=S at*;generalize cY (dA x)=N at*;generalize cY (fi x)=F at*;have c1:¬bR x=1:=by omega
 have c2:¬bR x=2:=by omega
 have c3:¬bR x=3:=by omega
 have c4:¬bR x=4:=by omega
 have c5:¬bR x=5:=by omega
 have c6:¬bR x=6:=by omega
 have c7:¬bR x=7:=by omega
 have d1:2<bR x:=by omega
 have d2:¬bR x<1:=by omega
 have e0:dC (bR x)=2:=by unfold dC;rw[if_neg (by omega),if_pos h]
 rw[ah];simp[Tryz.f87]at ih⊢;by_cases fg:gY x=0
 ·by_cases RI:21<bR x
  ·simp[aV,aW,w1,aD,h,hk,hn,hf,ih,h1,fg,RI,c1,c2,c3,c4,c5,c6,c7,d1,d2];intros;omega
  ·simp[aV,aW,w1,aD,h,hk,hn,hf,ih,h1,fg,RI,e0,c1,c2,c3,c4,c5,c6,c7,d1,d2];grind
 ·simp[aV,aW,w1,aD,h,hk,hn,hf,ih,h1,fg,c1,c2,d1];intros;omega
theorem Ew(l:List Ex)(bm:l.length<100000000)(hK:∀x∈l,KF (cK x))(hs:∀x∈l,(cK x).length<100000000)(k:Kt)(R1 R2:bP)
 (h1:∀v X,k .ret ⟨126,aC,[(2,true,.d (.bool false))],[⟨300,v,X⟩]⟩=R1)
 (h2:∀(Y:Env) v X,k (.exit 0) ⟨126,aC,Y,[⟨300,v,X⟩]⟩=R2):∀(rest pre:List Ex)(v:Nat)(X:aE),l=pre++rest→
 aI ctx 87 (.loop (Code.at (aX Tryz.f87) [1,0,1,0,0])) ⟨126,aC,[(0,true,.d (.list (l.map bJ))),(3,true,.d (.int .i64 pre.length))],[⟨300,v,X⟩]⟩ k=if bH rest=true then R2 else R1
 |[],pre,v,X,hd=>by
  have cm:pre.length=l.length:=by rw[hd];simp
  rw[cm,ah];simp[Tryz.f87,h2,bH]
 |x::rest,pre,v,X,hd=>by
  have aV:pre.length<l.length:=by rw[hd];simp
  have aW:l[pre.length]=x:=by simp[hd]
  have hk:=hK x (by rw[hd];simp);have lq:=hs x (by rw[hd];simp);have ih:∀v X,aI ctx 87 (.loop (Code.at (aX Tryz.f87) [1,0,1,0,0])) ⟨126,aC,[(0,true,.d (.list (l.map bJ))),(3,true,.d (.int .i64 (pre.length+1)))],[⟨300,v,X⟩]⟩ k=if bH rest=true then R2 else R1:=fun v X=>by
   have:=Ew l bm hK hs k R1 R2 h1 h2 rest (pre++[x]) v X (by simp[hd]);simpa using this
  have key:bH (x::rest)=(bk x&&bH rest):=by rw[bH]
  rw[key];have hc:bR x<1∨bR x=1∨bR x=2∨bR x=3∨bR x=4∨bR x=5∨bR x=6∨bR x=7∨7<bR x:=by omega
  rcases hc with h|h|h|h|h|h|h|h|h
  ·exact ads bm aV aW hk lq k R1 R2 _ h1 ih h v X
  ·exact adt bm aV aW hk lq k R1 R2 _ h1 ih h v X
  ·exact adu bm aV aW hk lq k R1 R2 _ h1 ih h v X
  ·exact adv bm aV aW hk lq k R1 R2 _ h1 ih h v X
  ·exact adw bm aV aW hk lq k R1 R2 _ h1 ih h v X
  ·exact adx bm aV aW hk lq k R1 R2 _ h1 ih h v X
  ·exact ady bm aV aW hk lq k R1 R2 _ h1 ih h v X
  ·exact adz bm aV aW hk lq k R1 R2 _ h1 ih h v X
  ·exact adA bm aV aW hk lq k R1 R2 _ h1 ih h v X
theorem SA{l:List Ex}(bm:l.length<100000000)(hK:∀x∈l,KF (cK x))(hs:∀x∈l,(cK x).length<100000000):KF l:=by
 have h:=fun k R1 R2 h1 h2 v X=>Ew l bm hK hs k R1 R2 h1 h2 l [] v X rfl;unfold KF;rw[ahS (by simp)];simp[Tryz.f87]at h⊢;rw[h _ (some (.ret (.d (.bool false)),[])) (some (.ret (.d (.bool true)),[]))]
 ·cases bH l<;>simp
 ·intro v X;simp
 ·intro Y v X;simp
mutual
def uM:Ex→Prop
 | .mk _ _ name field sub _=>(name.length<100000000∧field.length<100000000∧sub.length<100000000)∧oh sub
def oh:List Ex→Prop
 |[]=>True
 |x::r=>uM x∧oh r
end
mutual
theorem adB:∀x:Ex,uM x→KF (cK x)∧(cK x).length<100000000
 | .mk op nn name field sub line,h=>by
  simp only[uM]at h;have hs:=zb sub h.2;exact⟨SA h.1.2.2 (fun x hx=>(hs x hx).1) (fun x hx=>(hs x hx).2),h.1.2.2⟩
theorem zb:∀l:List Ex,oh l→∀x∈l,KF (cK x)∧(cK x).length<100000000
 |[],_,x,hx=>by simp at hx
 |y::r,h,x,hx=>by
  simp only[oh]at h;have h1:=adB y h.1;have h2:=zb r h.2;rcases List.mem_cons.1 hx with e|hx
  ·rw[e];exact h1
  ·exact h2 x hx
end
theorem AN{l:List Ex}(bm:l.length<100000000)(h:oh l):KF l:=
 SA bm (fun x hx=>(zb l h x hx).1) (fun x hx=>(zb l h x hx).2)
end Go.Am
end
section
namespace Go.Am
open Go
theorem Mv{k:Int}(h:ob k=true):10≤k∧k≤31:=by
 unfold ob bz at h;by_cases hk:10≤k∧k≤31
 ·exact hk
 ·exfalso;have:q8 Hj k=[]:=by
   unfold Hj;simp only[q8];repeat rw[if_neg (by omega)]
  rw[this]at h;simp at h
theorem Mw{v:Vr}(h:dr v=true):(v.ty=1∨v.ty=2)∨(10≤v.ty∧v.ty≤31∧ob v.ty=true):=by
 simp only[dr,Bool.and_eq_true,Bool.or_eq_true,decide_eq_true_eq]at h;rcases h.2.1.2 with h|h
 ·exact .inl h
 ·exact .inr ⟨(Mv h).1,(Mv h).2,h⟩
theorem s6{s:Tx}{v:Vr}:∀{l:List Vr},bg l s=some v→v∈l∧v.name=s
 |x::r,h=>by
  unfold bg at h;split at h
  ·rename_i e;cases h;exact⟨by simp,e⟩
  ·have:=s6 h;exact⟨by simp[this.1],this.2⟩
end Go.Am
end
section
namespace Go.Am
open Go Go.Proofs
variable [Inhabited bV]
set_option maxRecDepth 20000
@[simp] def smL(x:Sm):List D:=[.int .i64 (bA x),.str (gR x),
 .int .i64 (bR (eD x)),.int .i64 (gY (eD x)),.str (dA (eD x)),.str (fi (eD x)),.list ((cK (eD x)).map bJ),.int .i64 (jC (eD x)),
 .int .i64 (bR (dF x)),.int .i64 (gY (dF x)),.str (dA (dF x)),.str (fi (dF x)),.list ((cK (dF x)).map bJ),.int .i64 (jC (dF x)),
 .list ((cw x).map bJ),.list ((dW x).map mq),.list ((dM x).map .str),.list ((bB x).map dc),.int .i64 (kp x)]
section
variable {vs:List Vr} {n:Int} (hl:vs.length<1000000) (ee:∀v∈vs,dr v=true)
include hl ee
end
@[simp] def bh(x:Sm):aE:=.box [.d (.int .i64 (bA x)),.d (.str (gR x)),.d (.int .i64 (bR (eD x))),.d (.int .i64 (gY (eD x))),.d (.str (dA (eD x))),.d (.str (fi (eD x))),.d (.list ((cK (eD x)).map bJ)),.d (.int .i64 (jC (eD x))),
 .d (.int .i64 (bR (dF x))),.d (.int .i64 (gY (dF x))),.d (.str (dA (dF x))),.d (.str (fi (dF x))),.d (.list ((cK (dF x)).map bJ)),.d (.int .i64 (jC (dF x))),.d (.list ((cw x).map bJ)),.d (.list ((dW x).map mq)),.d (.list ((dM x).map .str)),.d (.list ((bB x).map dc)),.d (.int .i64 (kp x))]
@[simp] def gZ(v:Vr):aE:=.box [.d (.str v.name),.d (.int .i64 v.ty),.d (.int .i64 v.sec),.d (.bool v.arr),.d (.int .i64 v.lo),.d (.int .i64 v.hi),.d (.int .i64 v.init),.d (.int .i64 v.line)]
theorem Hm{v:Vr}(hf:dr v=true):ai ctx 90 [.d (bF v)] []=some (.ret (.d (.int .i64 (bK v))),[]):=by
 have hs:=Mt v.ty;rw[ahU (by simp)];unfold bK;cases ha:v.arr with
 |true=>
  simp only[dr,Bool.and_eq_true,ha,if_true,decide_eq_true_eq]at hf;have w1:IntKind.i64.wrap (v.hi-v.lo)=v.hi-v.lo:=aw (by unfold aY;omega);have w2:IntKind.i64.wrap (v.hi-v.lo+1)=v.hi-v.lo+1:=aw (by unfold aY;omega);simp[Tryz.f90,bF,ep,ha,w1,w2]
 |false=>
  by_cases h2:2<v.ty
  ·simp[Tryz.f90,bF,ep,ha,h2,hs]
  ·simp[Tryz.f90,bF,ep,ha,h2]
theorem pK{v:Vr}(hf:dr v=true):0≤bK v∧bK v≤256:=by
 have:=yo v.ty;unfold bK;cases ha:v.arr with
 |true=>
  simp only[dr,Bool.and_eq_true,ha,if_true,decide_eq_true_eq]at hf;simp only[if_true];omega
 |false=>
  simp only[Bool.false_eq_true,if_false];split<;>omega
@[reducible] noncomputable def bS(p:List Nat):Code:=Code.at (aX Tryz.f46) p
section
variable {x:Sm} {v:Nat} {k:Kt} {R1:bP} {a b:AV} (hr:k .ret ⟨258,aC,[(2,true,.d (.bool false))],[⟨300,v,bh x⟩]⟩=R1)
def Hn(x:Sm):Bool:=decide (1≤bA x∧bA x≤9)&&(if bA x=4∨bA x=9 then cY (gR x)else decide (gR x=[]))
def Ho(x:Sm):Bool:=if bA x=1 then decide (bR (eD x)=3∨bR (eD x)=4)&&bk (eD x)else dD (eD x)
def Di(x:Sm):Bool:=(if bA x=1∨bA x=3∨bA x=5∨bA x=6 then !dD (dF x)&&bk (dF x)else dD (dF x))&&bH (cw x)
include hr
theorem aoo{d6 d7:AV}:aI ctx 46 (bS [1,0,1,0,0,1,0,0,1,1,0]) ⟨258,aC,[(0,true,a),(3,true,b),(4,true,.ptr 300 v 0),(5,true,.d (.bool (decide (bA x=4∨bA x=9)))),(6,true,d6),(7,true,d7)],[⟨300,v,bh x⟩]⟩ k=
 if Hn x=true then k .normal ⟨258,aC,[(0,true,a),(3,true,b),(4,true,.ptr 300 v 0),(6,true,d6),(7,true,d7),(59,true,.d (.bool false))],[⟨300,v,bh x⟩]⟩else R1:=by
 have hn:=eG (gR x);unfold Hn;simp only[bh]at hr;generalize cY (gR x)=N at*;by_cases h1:bA x<1
 ·have h2:¬1≤bA x:=by omega
  simp[bS,Tryz.f46];simp[h1,h2,hr]
 ·have h2:1≤bA x:=by omega
  by_cases h9:9<bA x
  ·have h3:¬bA x≤9:=by omega
   simp[bS,Tryz.f46];simp[h1,h2,h9,h3,hr]
  ·have h3:bA x≤9:=by omega
   by_cases h4:bA x=4
   ·simp only[h4]at hr⊢;cases N<;>(simp[bS,Tryz.f46];simp[h4,hn,hr])
   ·by_cases h5:bA x=9
    ·simp only[h5]at hr⊢;cases N<;>(simp[bS,Tryz.f46];simp[h5,hn,hr])
    ·by_cases he:gR x=[]
     ·simp only[he]at hr⊢;simp[bS,Tryz.f46];simp[h1,h2,h9,h3,h4,h5,he,hr]
     ·simp[bS,Tryz.f46];simp[h1,h2,h9,h3,h4,h5,he,hr]
theorem aop{d7:AV}(hl:(dA (eD x)).length<100000000∧(fi (eD x)).length<100000000∧(cK (eD x)).length<100000000)(hk:KF [eD x]):aI ctx 46 (bS [1,0,1,0,0,1,0,0,1,1,1,0]) ⟨258,aC,[(0,true,a),(3,true,b),(4,true,.ptr 300 v 0),(6,true,.d (.bool (decide (bA x=1)))),(7,true,d7),(59,true,.d (.bool false))],[⟨300,v,bh x⟩]⟩ k=
 if Ho x=true then k .normal ⟨258,aC,[(0,true,a),(3,true,b),(4,true,.ptr 300 v 0),(7,true,d7),(89,true,.d (.bool false))],[⟨300,v,bh x⟩]⟩else R1:=by
 have hn:=Mu hl;unfold KF at hk;simp[aD,bH]at hk;unfold Ho;simp only[bh]at hr;generalize dD (eD x)=N at*;generalize bk (eD x)=T at*;by_cases h1:bA x=1
 ·simp only[h1]at hr;by_cases h3:bR (eD x)=3
  ·simp only[h3]at hr hk;cases T<;>(simp[bS,Tryz.f46];simp[h1,h3,hk,hr])
  ·by_cases h4:bR (eD x)=4
   ·simp only[h4]at hr hk;cases T<;>(simp[bS,Tryz.f46];simp[h1,h4,hk,hr])
   ·simp[bS,Tryz.f46];simp[h1,h3,h4,hr]
 ·cases N<;>(simp[bS,Tryz.f46];simp[h1,hn,hr])
end
section
variable {x:Sm} {v:Nat} {k:Kt} {R1:bP} {a b:AV}
theorem aoq(hr:k .ret ⟨258,aC,[(2,true,.d (.bool false))],[⟨300,v,bh x⟩]⟩=R1){V:Bool}(hV:V=decide (bA x=1∨bA x=3∨bA x=5∨bA x=6))(hl:(dA (dF x)).length<100000000∧(fi (dF x)).length<100000000∧(cK (dF x)).length<100000000)(hk:KF [dF x])(hc:KF (cw x)):aI ctx 46 (bS [1,0,1,0,0,1,0,0,1,1,1,1,0]) ⟨258,aC,[(0,true,a),(3,true,b),(4,true,.ptr 300 v 0),(7,true,.d (.bool V)),(89,true,.d (.bool false))],[⟨300,v,bh x⟩]⟩ k=
 if Di x=true then k .normal ⟨258,aC,[(0,true,a),(3,true,b),(4,true,.ptr 300 v 0),(118,true,.d (.bool false))],[⟨300,v,bh x⟩]⟩else R1:=by
 have hn:=Mu hl;unfold KF at hk hc;simp[aD,bH]at hk;have e:Di x=((if V=true then !dD (dF x)&&bk (dF x)else dD (dF x))&&bH (cw x)):=by
  unfold Di;rw[hV];by_cases h:bA x=1∨bA x=3∨bA x=5∨bA x=6
  ·rw[if_pos h,if_pos (by simpa using h)]
  ·rw[if_neg h,if_neg (by simpa using h)]
 rw[e];simp only[bh]at hr;generalize dD (dF x)=N at*;generalize bk (dF x)=T at*;generalize bH (cw x)=W at*;clear hV e;cases V with
 |true=>
  cases N with
  |true=>(simp[bS,Tryz.f46];simp[hn,hr])
  |false=>cases T<;>cases W<;>(simp[bS,Tryz.f46];simp[hn,hk,hc,hr])
 |false=>cases N<;>cases W<;>(simp[bS,Tryz.f46];simp[hn,hc,hr])
theorem aor{X:Env}:aI ctx 46 (bS [1,0,1,0,0,1,0,0,1,1,1,1,1,0]) ⟨258,aC,[(0,true,a),(3,true,b),(4,true,.ptr 300 v 0),(118,true,.d (.bool false))],[⟨300,v,bh x⟩]⟩ k=
 k .normal ⟨258,aC,[(0,true,a),(3,true,b),(4,true,.ptr 300 v 0),(8,true,.d (.int .i64 0)),(9,true,.d (.int .i64 0)),(10,true,.d (.int .i64 0)),(11,true,.d (.int .i64 0)),(12,true,.d (.int .i64 0))],[⟨300,v,bh x⟩]⟩:=by
 simp[bS,Tryz.f46]
def yp(n:Int):Int:=if 1<n then n else 1
def oL(x:Sm):Int:=if bA x=2 then yp (cw x).length else if bA x=4 then 3 else if bA x=9 then (dM x).length else 0
def oM(x:Sm):Int:=if bA x=3 then (dW x).length else 0
def lg(x:Sm):Int:=if bA x=9 then (dM x).length else 0
def iL(x:Sm):Int:=if bA x=2 then yp (cw x).length else if bA x=3 then (dW x).length else if bA x=4∨bA x=5∨bA x=6 then 1 else 0
def ja(x:Sm):Int:=if bA x=2∨bA x=3 then 1 else 0
def cX(x:Sm):Env:=if bA x=2∨bA x=3∨bA x=4∨bA x=5∨bA x=6∨bA x=9 then []else [(144,true,.d (.bool false))]
theorem adD(h2:bA x=2):aI ctx 46 (bS [1,0,1,0,0,1,0,0,1,1,1,1,1,1,0]) ⟨258,aC,[(0,true,a),(3,true,b),(4,true,.ptr 300 v 0),(8,true,.d (.int .i64 0)),(9,true,.d (.int .i64 0)),(10,true,.d (.int .i64 0)),(11,true,.d (.int .i64 0)),(12,true,.d (.int .i64 0))],[⟨300,v,bh x⟩]⟩ k=
 k .normal ⟨258,aC,[(0,true,a),(3,true,b),(4,true,.ptr 300 v 0),(8,true,.d (.int .i64 (oL x))),(9,true,.d (.int .i64 (oM x))),(10,true,.d (.int .i64 (lg x))),(11,true,.d (.int .i64 (iL x))),(12,true,.d (.int .i64 (ja x)))]++cX x,[⟨300,v,bh x⟩]⟩:=by
 unfold oL oM lg iL ja cX;simp[bS,Tryz.f46];simp[h2,aq,yp]
theorem adE(h3:bA x=3):aI ctx 46 (bS [1,0,1,0,0,1,0,0,1,1,1,1,1,1,0]) ⟨258,aC,[(0,true,a),(3,true,b),(4,true,.ptr 300 v 0),(8,true,.d (.int .i64 0)),(9,true,.d (.int .i64 0)),(10,true,.d (.int .i64 0)),(11,true,.d (.int .i64 0)),(12,true,.d (.int .i64 0))],[⟨300,v,bh x⟩]⟩ k=
 k .normal ⟨258,aC,[(0,true,a),(3,true,b),(4,true,.ptr 300 v 0),(8,true,.d (.int .i64 (oL x))),(9,true,.d (.int .i64 (oM x))),(10,true,.d (.int .i64 (lg x))),(11,true,.d (.int .i64 (iL x))),(12,true,.d (.int .i64 (ja x)))]++cX x,[⟨300,v,bh x⟩]⟩:=by
 unfold oL oM lg iL ja cX;simp[bS,Tryz.f46];simp[h3,aq,yp]
theorem adF(h4:bA x=4):aI ctx 46 (bS [1,0,1,0,0,1,0,0,1,1,1,1,1,1,0]) ⟨258,aC,[(0,true,a),(3,true,b),(4,true,.ptr 300 v 0),(8,true,.d (.int .i64 0)),(9,true,.d (.int .i64 0)),(10,true,.d (.int .i64 0)),(11,true,.d (.int .i64 0)),(12,true,.d (.int .i64 0))],[⟨300,v,bh x⟩]⟩ k=
 k .normal ⟨258,aC,[(0,true,a),(3,true,b),(4,true,.ptr 300 v 0),(8,true,.d (.int .i64 (oL x))),(9,true,.d (.int .i64 (oM x))),(10,true,.d (.int .i64 (lg x))),(11,true,.d (.int .i64 (iL x))),(12,true,.d (.int .i64 (ja x)))]++cX x,[⟨300,v,bh x⟩]⟩:=by
 unfold oL oM lg iL ja cX;simp[bS,Tryz.f46];simp[h4,aq,yp]
theorem adG(h5:bA x=5):aI ctx 46 (bS [1,0,1,0,0,1,0,0,1,1,1,1,1,1,0]) ⟨258,aC,[(0,true,a),(3,true,b),(4,true,.ptr 300 v 0),(8,true,.d (.int .i64 0)),(9,true,.d (.int .i64 0)),(10,true,.d (.int .i64 0)),(11,true,.d (.int .i64 0)),(12,true,.d (.int .i64 0))],[⟨300,v,bh x⟩]⟩ k=
 k .normal ⟨258,aC,[(0,true,a),(3,true,b),(4,true,.ptr 300 v 0),(8,true,.d (.int .i64 (oL x))),(9,true,.d (.int .i64 (oM x))),(10,true,.d (.int .i64 (lg x))),(11,true,.d (.int .i64 (iL x))),(12,true,.d (.int .i64 (ja x)))]++cX x,[⟨300,v,bh x⟩]⟩:=by
 unfold oL oM lg iL ja cX;simp[bS,Tryz.f46];simp[h5,aq,yp]
theorem adH(h6:bA x=6):aI ctx 46 (bS [1,0,1,0,0,1,0,0,1,1,1,1,1,1,0]) ⟨258,aC,[(0,true,a),(3,true,b),(4,true,.ptr 300 v 0),(8,true,.d (.int .i64 0)),(9,true,.d (.int .i64 0)),(10,true,.d (.int .i64 0)),(11,true,.d (.int .i64 0)),(12,true,.d (.int .i64 0))],[⟨300,v,bh x⟩]⟩ k=
 k .normal ⟨258,aC,[(0,true,a),(3,true,b),(4,true,.ptr 300 v 0),(8,true,.d (.int .i64 (oL x))),(9,true,.d (.int .i64 (oM x))),(10,true,.d (.int .i64 (lg x))),(11,true,.d (.int .i64 (iL x))),(12,true,.d (.int .i64 (ja x)))]++cX x,[⟨300,v,bh x⟩]⟩:=by
 unfold oL oM lg iL ja cX;simp[bS,Tryz.f46];simp[h6,aq,yp]
theorem adI(h9:bA x=9):aI ctx 46 (bS [1,0,1,0,0,1,0,0,1,1,1,1,1,1,0]) ⟨258,aC,[(0,true,a),(3,true,b),(4,true,.ptr 300 v 0),(8,true,.d (.int .i64 0)),(9,true,.d (.int .i64 0)),(10,true,.d (.int .i64 0)),(11,true,.d (.int .i64 0)),(12,true,.d (.int .i64 0))],[⟨300,v,bh x⟩]⟩ k=
 k .normal ⟨258,aC,[(0,true,a),(3,true,b),(4,true,.ptr 300 v 0),(8,true,.d (.int .i64 (oL x))),(9,true,.d (.int .i64 (oM x))),(10,true,.d (.int .i64 (lg x))),(11,true,.d (.int .i64 (iL x))),(12,true,.d (.int .i64 (ja x)))]++cX x,[⟨300,v,bh x⟩]⟩:=by
 unfold oL oM lg iL ja cX;simp[bS,Tryz.f46];simp[h9,aq,yp]
theorem adJ(h2:¬bA x=2)(h3:¬bA x=3)(h4:¬bA x=4)(h5:¬bA x=5)(h6:¬bA x=6)(h9:¬bA x=9):aI ctx 46 (bS [1,0,1,0,0,1,0,0,1,1,1,1,1,1,0]) ⟨258,aC,[(0,true,a),(3,true,b),(4,true,.ptr 300 v 0),(8,true,.d (.int .i64 0)),(9,true,.d (.int .i64 0)),(10,true,.d (.int .i64 0)),(11,true,.d (.int .i64 0)),(12,true,.d (.int .i64 0))],[⟨300,v,bh x⟩]⟩ k=
 k .normal ⟨258,aC,[(0,true,a),(3,true,b),(4,true,.ptr 300 v 0),(8,true,.d (.int .i64 (oL x))),(9,true,.d (.int .i64 (oM x))),(10,true,.d (.int .i64 (lg x))),(11,true,.d (.int .i64 (iL x))),(12,true,.d (.int .i64 (ja x)))]++cX x,[⟨300,v,bh x⟩]⟩:=by
 unfold oL oM lg iL ja cX;simp[bS,Tryz.f46];simp[h2,h3,h4,h5,h6,h9,aq,yp]
theorem aos:aI ctx 46 (bS [1,0,1,0,0,1,0,0,1,1,1,1,1,1,0]) ⟨258,aC,[(0,true,a),(3,true,b),(4,true,.ptr 300 v 0),(8,true,.d (.int .i64 0)),(9,true,.d (.int .i64 0)),(10,true,.d (.int .i64 0)),(11,true,.d (.int .i64 0)),(12,true,.d (.int .i64 0))],[⟨300,v,bh x⟩]⟩ k=
 k .normal ⟨258,aC,[(0,true,a),(3,true,b),(4,true,.ptr 300 v 0),(8,true,.d (.int .i64 (oL x))),(9,true,.d (.int .i64 (oM x))),(10,true,.d (.int .i64 (lg x))),(11,true,.d (.int .i64 (iL x))),(12,true,.d (.int .i64 (ja x)))]++cX x,[⟨300,v,bh x⟩]⟩:=by
 by_cases h2:bA x=2
 ·exact adD h2
 ·by_cases h3:bA x=3
  ·exact adE h3
  ·by_cases h4:bA x=4
   ·exact adF h4
   ·by_cases h5:bA x=5
    ·exact adG h5
    ·by_cases h6:bA x=6
     ·exact adH h6
     ·by_cases h9:bA x=9
      ·exact adI h9
      ·exact adJ h2 h3 h4 h5 h6 h9
theorem ahZ(hr:k .ret ⟨258,aC,[(2,true,.d (.bool false))],[⟨300,v,bh x⟩]⟩=R1){c8 c9 Hp sc yq:Int}(hw:IntKind.i64.wrap (sc+yq)=sc+yq):aI ctx 46 (bS [1,0,1,0,0,1,0,0,1,1,1,1,1,1,1,0]) ⟨258,aC,[(0,true,a),(3,true,b),(4,true,.ptr 300 v 0),(8,true,.d (.int .i64 c8)),(9,true,.d (.int .i64 c9)),(10,true,.d (.int .i64 Hp)),(11,true,.d (.int .i64 sc)),(12,true,.d (.int .i64 yq))],[⟨300,v,bh x⟩]⟩ k=
 if (((cw x).length:Int)=c8∧((dW x).length:Int)=c9∧((dM x).length:Int)=Hp∧¬((bB x).length:Int)<sc∧¬sc+yq<((bB x).length:Int))then k .normal ⟨258,aC,[(0,true,a),(3,true,b),(4,true,.ptr 300 v 0),(186,true,.d (.bool false))],[⟨300,v,bh x⟩]⟩else R1:=by
 simp only[bh]at hr;by_cases h8:((cw x).length:Int)=c8
 ·by_cases h9:((dW x).length:Int)=c9
  ·by_cases qI:((dM x).length:Int)=Hp
   ·by_cases Ck:((bB x).length:Int)<sc
    ·(simp[bS,Tryz.f46];simp[h8,h9,qI,Ck,hr];intros;exfalso;omega)
    ·by_cases kR:sc+yq<((bB x).length:Int)
     ·(simp[bS,Tryz.f46];simp[h8,h9,qI,Ck,hw,kR,hr];intros;exfalso;omega)
     ·(simp[bS,Tryz.f46];simp[h8,h9,qI,Ck,hw,kR,hr])
   ·(simp[bS,Tryz.f46];simp[h8,h9,qI,hr])
  ·(simp[bS,Tryz.f46];simp[h8,h9,hr])
 ·(simp[bS,Tryz.f46];simp[h8,hr])
theorem ah0(hr:k .ret ⟨258,aC,[(2,true,.d (.bool false))],[⟨300,v,bh x⟩]⟩=R1){c8 c9 Hp sc yq:Int}(hw:IntKind.i64.wrap (sc+yq)=sc+yq):aI ctx 46 (bS [1,0,1,0,0,1,0,0,1,1,1,1,1,1,1,0]) ⟨258,aC,[(0,true,a),(3,true,b),(4,true,.ptr 300 v 0),(8,true,.d (.int .i64 c8)),(9,true,.d (.int .i64 c9)),(10,true,.d (.int .i64 Hp)),(11,true,.d (.int .i64 sc)),(12,true,.d (.int .i64 yq)),(144,true,.d (.bool false))],[⟨300,v,bh x⟩]⟩ k=
 if (((cw x).length:Int)=c8∧((dW x).length:Int)=c9∧((dM x).length:Int)=Hp∧¬((bB x).length:Int)<sc∧¬sc+yq<((bB x).length:Int))then k .normal ⟨258,aC,[(0,true,a),(3,true,b),(4,true,.ptr 300 v 0),(186,true,.d (.bool false))],[⟨300,v,bh x⟩]⟩else R1:=by
 simp only[bh]at hr;by_cases h8:((cw x).length:Int)=c8
 ·by_cases h9:((dW x).length:Int)=c9
  ·by_cases qI:((dM x).length:Int)=Hp
   ·by_cases Ck:((bB x).length:Int)<sc
    ·(simp[bS,Tryz.f46];simp[h8,h9,qI,Ck,hr];intros;exfalso;omega)
    ·by_cases kR:sc+yq<((bB x).length:Int)
     ·(simp[bS,Tryz.f46];simp[h8,h9,qI,Ck,hw,kR,hr];intros;exfalso;omega)
     ·(simp[bS,Tryz.f46];simp[h8,h9,qI,Ck,hw,kR,hr])
   ·(simp[bS,Tryz.f46];simp[h8,h9,qI,hr])
  ·(simp[bS,Tryz.f46];simp[h8,h9,hr])
 ·(simp[bS,Tryz.f46];simp[h8,hr])
end
def KS(b:List Sm):Prop:=ai ctx 46 [.d (.list (b.map b5))] []=some (.ret (.d (.bool (ej b))),[])
section
variable {x:Sm} {v:Nat} {k:Kt} {R1 R2:bP} {a b:AV}
theorem Hq(hl:(dM x).length<100000000)(h1:k .ret ⟨258,aC,[(2,true,.d (.bool false))],[⟨300,v,bh x⟩]⟩=R1)
 (h2:k (.exit 3) ⟨258,aC,[(0,true,a),(3,true,b),(4,true,.ptr 300 v 0),(13,true,.d (.int .i64 (dM x).length)),(191,true,.d (.bool false))],[⟨300,v,bh x⟩]⟩=R2):∀(rest pre:List Tx),dM x=pre++rest→
 aI ctx 46 (.loop (bS [1,0,1,0,0,1,0,0,1,1,1,1,1,1,1,1,0,1,0,0])) ⟨258,aC,[(0,true,a),(3,true,b),(4,true,.ptr 300 v 0),(13,true,.d (.int .i64 pre.length))],[⟨300,v,bh x⟩]⟩ k=if rest.all cY=true then R2 else R1
 |[],pre,hd=>by
  have cm:pre.length=(dM x).length:=by rw[hd];simp
  simp only[bh]at h2;rw[cm,ah];simp[bS,Tryz.f46,h2]
 |c::rest,pre,hd=>by
  have aV:pre.length<(dM x).length:=by rw[hd];simp
  have aW:(dM x)[pre.length]=c:=by simp[hd]
  have ih:=Hq hl h1 h2 rest (pre++[c]) (by simp[hd]);have hn:=eG c;have w1:IntKind.i64.wrap ((pre.length:Int)+1)=(pre.length:Int)+1:=aw (by unfold aY;omega);simp only[bh]at h1;rw[List.all_cons];generalize cY c=N at*;rw[ah];cases N with
  |true=>
   simp[bS,Tryz.f46]at ih⊢;simp[aV,aW,hn,w1,ih]
  |false=>
   simp[bS,Tryz.f46];simp[aV,aW,hn,h1]
theorem Hr{l:List Int}{i:Nat}(hi:i<(dW x).length)(hx:(dW x)[i]=l)(hl:l.length<100000000)(h1:k .ret ⟨258,aC,[(2,true,.d (.bool false))],[⟨300,v,bh x⟩]⟩=R1)
 (h2:k (.exit 7) ⟨258,aC,[(0,true,a),(3,true,b),(4,true,.ptr 300 v 0),(14,true,.d (.int .i64 i)),(15,true,.d (.int .i64 l.length)),(232,true,.d (.bool false))],[⟨300,v,bh x⟩]⟩=R2):∀(rest pre:List Int),l=pre++rest→
 aI ctx 46 (.loop (bS [1,0,1,0,0,1,0,0,1,1,1,1,1,1,1,1,1,0,1,0,0,1,0,0,1,1,0,0])) ⟨258,aC,[(0,true,a),(3,true,b),(4,true,.ptr 300 v 0),(14,true,.d (.int .i64 i)),(15,true,.d (.int .i64 pre.length))],[⟨300,v,bh x⟩]⟩ k=if rest.all (fun n=>decide (n≠ -9223372036854775808))=true then R2 else R1
 |[],pre,hd=>by
  have cm:pre.length=l.length:=by rw[hd];simp
  simp only[bh]at h2;rw[cm,ah];simp[bS,Tryz.f46];simp[hi,hx,mq,h2]
 |c::rest,pre,hd=>by
  have aV:pre.length<l.length:=by rw[hd];simp
  have aW:l[pre.length]=c:=by simp[hd]
  have ih:=Hr hi hx hl h1 h2 rest (pre++[c]) (by simp[hd]);have w1:IntKind.i64.wrap ((pre.length:Int)+1)=(pre.length:Int)+1:=aw (by unfold aY;omega);simp only[bh]at h1;rw[List.all_cons];rw[ah];by_cases hc:c= -9223372036854775808
  ·simp[bS,Tryz.f46];simp[hi,hx,mq,aV,aW,hc,h1]
  ·simp[bS,Tryz.f46]at ih⊢;simp[hi,hx,mq,aV,aW,hc,w1,ih]
theorem Hs(hl:(bB x).length<100000000)(hK:∀c∈bB x,KS c)(h1:k .ret ⟨258,aC,[(2,true,.d (.bool false))],[⟨300,v,bh x⟩]⟩=R1)
 (h2:k (.exit 9) ⟨258,aC,[(0,true,a),(3,true,b),(4,true,.ptr 300 v 0),(16,true,.d (.int .i64 (bB x).length)),(248,true,.d (.bool false))],[⟨300,v,bh x⟩]⟩=R2):∀(rest pre:List (List Sm)),bB x=pre++rest→
 aI ctx 46 (.loop (bS [1,0,1,0,0,1,0,0,1,1,1,1,1,1,1,1,1,1,1,0,0])) ⟨258,aC,[(0,true,a),(3,true,b),(4,true,.ptr 300 v 0),(16,true,.d (.int .i64 pre.length))],[⟨300,v,bh x⟩]⟩ k=if cI rest=true then R2 else R1
 |[],pre,hd=>by
  have cm:pre.length=(bB x).length:=by rw[hd];simp
  simp only[bh]at h2;rw[cm,ah];simp[bS,Tryz.f46,h2,cI]
 |c::rest,pre,hd=>by
  have aV:pre.length<(bB x).length:=by rw[hd];simp
  have aW:(bB x)[pre.length]=c:=by simp[hd]
  have ih:=Hs hl hK h1 h2 rest (pre++[c]) (by simp[hd]);have hn:=hK c (by rw[hd];simp);have w1:IntKind.i64.wrap ((pre.length:Int)+1)=(pre.length:Int)+1:=aw (by unfold aY;omega);simp only[bh]at h1;unfold KS at hn;have key:cI (c::rest)=(ej c&&cI rest):=by rw[cI]
  rw[key];generalize ej c=N at*;rw[ah];cases N with
  |true=>
   simp[bS,Tryz.f46]at ih⊢;simp[aV,aW,hn,dc,w1,ih]
  |false=>
   simp[bS,Tryz.f46];simp[aV,aW,hn,dc,h1]
end
section
variable {x:Sm} {v:Nat} {k:Kt} {R1 R2:bP} {a b:AV}
theorem Ht(hl:(dW x).length<100000000)(lz:∀l∈dW x,l.length<100000000)(h1:k .ret ⟨258,aC,[(2,true,.d (.bool false))],[⟨300,v,bh x⟩]⟩=R1)
 (h2:k (.exit 5) ⟨258,aC,[(0,true,a),(3,true,b),(4,true,.ptr 300 v 0),(14,true,.d (.int .i64 (dW x).length)),(205,true,.d (.bool false))],[⟨300,v,bh x⟩]⟩=R2):∀(rest pre:List (List Int)),dW x=pre++rest→
 aI ctx 46 (.loop (bS [1,0,1,0,0,1,0,0,1,1,1,1,1,1,1,1,1,0,1,0,0])) ⟨258,aC,[(0,true,a),(3,true,b),(4,true,.ptr 300 v 0),(14,true,.d (.int .i64 pre.length))],[⟨300,v,bh x⟩]⟩ k=if rest.all pc=true then R2 else R1
 |[],pre,hd=>by
  have cm:pre.length=(dW x).length:=by rw[hd];simp
  simp only[bh]at h2;rw[cm,ah];simp[bS,Tryz.f46,h2]
 |c::rest,pre,hd=>by
  have aV:pre.length<(dW x).length:=by rw[hd];simp
  have aW:(dW x)[pre.length]=c:=by simp[hd]
  have aO:=lz c (by rw[hd];simp);have ih:=Ht hl lz h1 h2 rest (pre++[c]) (by simp[hd]);have w1:IntKind.i64.wrap ((pre.length:Int)+1)=(pre.length:Int)+1:=aw (by unfold aY;omega);have cL:=fun k R1 R2 h1 h2=>Hr (a:=a) (b:=b) (v:=v) (k:=k) (R1:=R1) (R2:=R2) aV aW aO h1 h2 c [] rfl;simp only[bh]at h1;rw[List.all_cons];have key:pc c=(!decide (c.length=0)&&(decide (c.length%2=0)&&c.all fun n=>decide (n≠ -9223372036854775808))):=rfl;rw[key];generalize (c.all fun n=>decide (n≠ -9223372036854775808))=B at*;rw[ah];have ht:((c.length:Int)).tmod 2=((c.length%2:Nat):Int):=(Int.ofNat_tmod c.length 2).symm;by_cases h0:c.length=0
  ·have gO:c=[]:=List.eq_nil_of_length_eq_zero h0;simp[bS,Tryz.f46];simp[aV,aW,mq,h0,gO,h1]
  ·have gO:¬c=[]:=fun h=>h0 (by rw[h];rfl);by_cases hp:c.length%2=1
   ·have Gq:¬c.length%2=0:=by omega
    rw[hp]at ht;simp[bS,Tryz.f46];simp[aV,aW,mq,h0,gO,hp,Gq,ht,h1]
   ·have Gq:c.length%2=0:=by omega
    rw[Gq]at ht;simp[bS,Tryz.f46]at ih cL⊢;simp[aV,aW,mq,h0,gO,hp,Gq,ht];rw[cL];cases B<;>simp[h1,w1,ih]
end
section
variable {x:Sm} {v:Nat} {k:Kt} {R1 R2:bP} {a b:AV}
theorem aot(hl:(dM x).length<100000000)(h1:k .ret ⟨258,aC,[(2,true,.d (.bool false))],[⟨300,v,bh x⟩]⟩=R1):
 aI ctx 46 (bS [1,0,1,0,0,1,0,0,1,1,1,1,1,1,1,1,0]) ⟨258,aC,[(0,true,a),(3,true,b),(4,true,.ptr 300 v 0),(186,true,.d (.bool false))],[⟨300,v,bh x⟩]⟩ k=
 if (dM x).all cY=true then k .normal ⟨258,aC,[(0,true,a),(3,true,b),(4,true,.ptr 300 v 0),(13,true,.d (.int .i64 (dM x).length)),(191,true,.d (.bool false))],[⟨300,v,bh x⟩]⟩else R1:=by
 have cL:=fun k R1 R2 h1 h2=>Hq (a:=a) (b:=b) (v:=v) (k:=k) (R1:=R1) (R2:=R2) hl h1 h2 (dM x) [] rfl;simp only[bh]at h1;generalize (dM x).all cY=B at*;simp[bS,Tryz.f46]at cL⊢;rw[cL];cases B<;>simp[h1]
theorem aou(hl:(dW x).length<100000000)(lz:∀l∈dW x,l.length<100000000)(h1:k .ret ⟨258,aC,[(2,true,.d (.bool false))],[⟨300,v,bh x⟩]⟩=R1){d1 d2:AV}:
 aI ctx 46 (bS [1,0,1,0,0,1,0,0,1,1,1,1,1,1,1,1,1,0]) ⟨258,aC,[(0,true,a),(3,true,b),(4,true,.ptr 300 v 0),(13,true,d1),(191,true,d2)],[⟨300,v,bh x⟩]⟩ k=
 if (dW x).all pc=true then k .normal ⟨258,aC,[(0,true,a),(3,true,b),(4,true,.ptr 300 v 0),(14,true,.d (.int .i64 (dW x).length)),(205,true,.d (.bool false))],[⟨300,v,bh x⟩]⟩else R1:=by
 have cL:=fun k R1 R2 h1 h2=>Ht (a:=a) (b:=b) (v:=v) (k:=k) (R1:=R1) (R2:=R2) hl lz h1 h2 (dW x) [] rfl;simp only[bh]at h1;generalize (dW x).all pc=B at*;simp[bS,Tryz.f46]at cL⊢;rw[cL];cases B<;>simp[h1]
theorem aov(hl:(bB x).length<100000000)(hK:∀c∈bB x,KS c)(h1:k .ret ⟨258,aC,[(2,true,.d (.bool false))],[⟨300,v,bh x⟩]⟩=R1){d1 d2:AV}:
 aI ctx 46 (bS [1,0,1,0,0,1,0,0,1,1,1,1,1,1,1,1,1,1]) ⟨258,aC,[(0,true,a),(3,true,b),(4,true,.ptr 300 v 0),(14,true,d1),(205,true,d2)],[⟨300,v,bh x⟩]⟩ k=
 if cI (bB x)=true then k .normal ⟨258,aC,[(0,true,a),(3,true,b),(4,true,.ptr 300 v 0),(16,true,.d (.int .i64 (bB x).length)),(248,true,.d (.bool false))],[⟨300,v,bh x⟩]⟩else R1:=by
 have cL:=fun k R1 R2 h1 h2=>Hs (a:=a) (b:=b) (v:=v) (k:=k) (R1:=R1) (R2:=R2) hl hK h1 h2 (bB x) [] rfl;simp only[bh]at h1;generalize cI (bB x)=B at*;simp[bS,Tryz.f46]at cL⊢;rw[cL];cases B<;>simp[h1]
theorem aow:aI ctx 46 (bS [1,0,1,0,0,1,0,0,1,0]) ⟨258,aC,[(0,true,a),(3,true,b),(4,true,.ptr 300 v 0)],[⟨300,v,bh x⟩]⟩ k=
 k .normal ⟨258,aC,[(0,true,a),(3,true,b),(4,true,.ptr 300 v 0),(5,true,.d (.bool (decide (bA x=4∨bA x=9)))),(6,true,.d (.bool (decide (bA x=1)))),(7,true,.d (.bool (decide (bA x=1∨bA x=3∨bA x=5∨bA x=6))))],[⟨300,v,bh x⟩]⟩:=by
 have hs:=Vg (bA x);simp[bS,Tryz.f46];simp[hs]
end
def Dj(x:Sm):Bool:=decide (((cw x).length:Int)=oL x∧((dW x).length:Int)=oM x∧((dM x).length:Int)=lg x∧¬((bB x).length:Int)<iL x∧¬iL x+ja x<((bB x).length:Int))
theorem PL(x:Sm):Dj x=cq (bA x) (cw x).length (dW x).length (dM x).length (bB x).length:=by
 unfold Dj cq oL oM lg iL ja yp;generalize bA x=o;generalize (cw x).length=n1;generalize (dW x).length=n2;generalize (dM x).length=n3;generalize (bB x).length=n4;rw[Bool.eq_iff_iff];by_cases h2:o=2
 ·subst h2;by_cases h:(1:Int)<n1
  ·simp[h];omega
  ·simp[h];omega
 ·by_cases h3:o=3
  ·subst h3;simp;omega
  ·by_cases h4:o=4
   ·subst h4;simp;omega
   ·by_cases h5:o=5
    ·subst h5;simp;omega
    ·by_cases h6:o=6
     ·subst h6;simp;omega
     ·by_cases h9:o=9
      ·subst h9;simp;omega
      ·simp[h2,h3,h4,h5,h6,h9]
theorem adK(x:Sm):iZ x=(Hn x&&(Ho x&&(Di x&&(Dj x&&((dM x).all cY&&((dW x).all pc&&cI (bB x))))))):=by
 rw[PL];obtain⟨op,name,to,val,conds,labels,fields,blocks,line⟩:=x;unfold iZ Hn Ho Di;simp only[Bool.and_assoc];rfl
theorem YG(x:Ex):uM x↔((dA x).length<100000000∧(fi x).length<100000000∧(cK x).length<100000000)∧oh (cK x):=by
 obtain⟨op,nn,name,field,sub,line⟩:=x;simp only[uM,yn,Hi,mR]
mutual
def yr:Sm→Prop
 | .mk _ _ to val conds labels fields blocks _=>(uM to∧uM val∧(conds.length<100000000∧oh conds)∧(labels.length<100000000∧∀l∈labels,l.length<100000000)∧fields.length<100000000∧blocks.length<100000000)∧nc blocks
def lh:List Sm→Prop
 |[]=>True
 |x::r=>yr x∧lh r
def nc:List (List Sm)→Prop
 |[]=>True
 |b::r=>(b.length<100000000∧lh b)∧nc r
end
def uN(x:Sm):Prop:=uM (eD x)∧uM (dF x)∧((cw x).length<100000000∧oh (cw x))∧((dW x).length<100000000∧∀l∈dW x,l.length<100000000)∧(dM x).length<100000000∧(bB x).length<100000000
theorem YH(x:Sm):yr x↔uN x∧nc (bB x):=by
 obtain⟨op,name,to,val,conds,labels,fields,blocks,line⟩:=x;unfold yr uN;rfl
theorem Vh(x:Sm):cX x=[]∨cX x=[(144,true,.d (.bool false))]:=by
 unfold cX;split
 ·exact .inl rfl
 ·exact .inr rfl
theorem ah1{x:Sm}(h:uN x):IntKind.i64.wrap (iL x+ja x)=iL x+ja x:=by
 obtain⟨_,_,⟨h1,_⟩,⟨h2,_⟩,_,_⟩:=h;apply aw;have a1:0≤iL x∧iL x<200000000:=by
  unfold iL yp;split
  ·split<;>omega
  ·split
   ·omega
   ·split<;>omega
 have a2:0≤ja x∧ja x≤1:=by
  unfold ja;split<;>omega
 unfold aY;omega
section
variable {x:Sm} {v:Nat} {k:Kt} {R1:bP} {a b:AV}
theorem adL(hx:uN x)(hK:∀c∈bB x,KS c)(h1:k .ret ⟨258,aC,[(2,true,.d (.bool false))],[⟨300,v,bh x⟩]⟩=R1):
 aI ctx 46 (bS [1,0,1,0,0,1,0,0,1]) ⟨258,aC,[(0,true,a),(3,true,b),(4,true,.ptr 300 v 0)],[⟨300,v,bh x⟩]⟩ k=
 if iZ x=true then k .normal ⟨258,aC,[(0,true,a),(3,true,b),(4,true,.ptr 300 v 0),(16,true,.d (.int .i64 (bB x).length)),(248,true,.d (.bool false))],[⟨300,v,bh x⟩]⟩else R1:=by
 have e1:bS [1,0,1,0,0,1,0,0,1]=Code.seq (bS [1,0,1,0,0,1,0,0,1,0]) (bS [1,0,1,0,0,1,0,0,1,1]):=rfl;have e2:bS [1,0,1,0,0,1,0,0,1,1]=Code.seq (bS [1,0,1,0,0,1,0,0,1,1,0]) (bS [1,0,1,0,0,1,0,0,1,1,1]):=rfl;have e3:bS [1,0,1,0,0,1,0,0,1,1,1]=Code.seq (bS [1,0,1,0,0,1,0,0,1,1,1,0]) (bS [1,0,1,0,0,1,0,0,1,1,1,1]):=rfl;have e4:bS [1,0,1,0,0,1,0,0,1,1,1,1]=Code.seq (bS [1,0,1,0,0,1,0,0,1,1,1,1,0]) (bS [1,0,1,0,0,1,0,0,1,1,1,1,1]):=rfl;have e5:bS [1,0,1,0,0,1,0,0,1,1,1,1,1]=Code.seq (bS [1,0,1,0,0,1,0,0,1,1,1,1,1,0]) (bS [1,0,1,0,0,1,0,0,1,1,1,1,1,1]):=rfl;have e6:bS [1,0,1,0,0,1,0,0,1,1,1,1,1,1]=Code.seq (bS [1,0,1,0,0,1,0,0,1,1,1,1,1,1,0]) (bS [1,0,1,0,0,1,0,0,1,1,1,1,1,1,1]):=rfl;have e7:bS [1,0,1,0,0,1,0,0,1,1,1,1,1,1,1]=Code.seq (bS [1,0,1,0,0,1,0,0,1,1,1,1,1,1,1,0]) (bS [1,0,1,0,0,1,0,0,1,1,1,1,1,1,1,1]):=rfl;have e8:bS [1,0,1,0,0,1,0,0,1,1,1,1,1,1,1,1]=Code.seq (bS [1,0,1,0,0,1,0,0,1,1,1,1,1,1,1,1,0]) (bS [1,0,1,0,0,1,0,0,1,1,1,1,1,1,1,1,1]):=rfl;have e9:bS [1,0,1,0,0,1,0,0,1,1,1,1,1,1,1,1,1]=Code.seq (bS [1,0,1,0,0,1,0,0,1,1,1,1,1,1,1,1,1,0]) (bS [1,0,1,0,0,1,0,0,1,1,1,1,1,1,1,1,1,1]):=rfl;have hq:∀c,ye ctx 46 c k .ret ⟨258,aC,[(2,true,.d (.bool false))],[⟨300,v,bh x⟩]⟩=R1:=fun _=>h1;have hw:=ah1 hx;obtain⟨ht,hv,⟨hc,oC⟩,⟨s7,adM⟩,hf,gx⟩:=hx;have kt:KF [eD x]:=AN (l:=[eD x]) (by simp) ⟨ht,trivial⟩;have kv:KF [dF x]:=AN (l:=[dF x]) (by simp) ⟨hv,trivial⟩;have kc:KF (cw x):=AN hc oC;rw[adK];rw[e1,denK_seq,aow,seqK_n,e2,denK_seq,aoo (hq _)];cases Hn x
 ·rw[Bool.false_and,if_neg Bool.false_ne_true,if_neg Bool.false_ne_true]
 rw[if_pos rfl,Bool.true_and,seqK_n,e3,denK_seq,aop (hq _) ((YG _).1 ht).1 kt];cases Ho x
 ·rw[Bool.false_and,if_neg Bool.false_ne_true,if_neg Bool.false_ne_true]
 rw[if_pos rfl,Bool.true_and,seqK_n,e4,denK_seq,aoq (hq _) rfl ((YG _).1 hv).1 kv kc];cases Di x
 ·rw[Bool.false_and,if_neg Bool.false_ne_true,if_neg Bool.false_ne_true]
 rw[if_pos rfl,Bool.true_and,seqK_n,e5,denK_seq,aor (X:=[]),seqK_n,e6,denK_seq,aos,seqK_n,e7,denK_seq];have h6:∀kk:Kt,kk .ret ⟨258,aC,[(2,true,.d (.bool false))],[⟨300,v,bh x⟩]⟩=R1→aI ctx 46 (bS [1,0,1,0,0,1,0,0,1,1,1,1,1,1,1,0]) ⟨258,aC,[(0,true,a),(3,true,b),(4,true,.ptr 300 v 0),(8,true,.d (.int .i64 (oL x))),(9,true,.d (.int .i64 (oM x))),(10,true,.d (.int .i64 (lg x))),(11,true,.d (.int .i64 (iL x))),(12,true,.d (.int .i64 (ja x)))]++cX x,[⟨300,v,bh x⟩]⟩ kk=
  if Dj x=true then kk .normal ⟨258,aC,[(0,true,a),(3,true,b),(4,true,.ptr 300 v 0),(186,true,.d (.bool false))],[⟨300,v,bh x⟩]⟩else R1:=by
  intro kk hk;unfold Dj;rcases Vh x with hX|hX
  ·rw[hX,List.append_nil,ahZ hk hw];simp only[decide_eq_true_eq]
  ·rw[hX];simp only[List.cons_append,List.nil_append];rw[ah0 hk hw];simp only[decide_eq_true_eq]
 rw[h6 _ (hq _)];cases Dj x
 ·rw[Bool.false_and,if_neg Bool.false_ne_true,if_neg Bool.false_ne_true]
 rw[if_pos rfl,Bool.true_and,seqK_n,e8,denK_seq,aot hf (hq _)];cases (dM x).all cY
 ·rw[Bool.false_and,if_neg Bool.false_ne_true,if_neg Bool.false_ne_true]
 rw[if_pos rfl,Bool.true_and,seqK_n,e9,denK_seq,aou s7 adM (hq _)];cases (dW x).all pc
 ·rw[Bool.false_and,if_neg Bool.false_ne_true,if_neg Bool.false_ne_true]
 rw[if_pos rfl,Bool.true_and,seqK_n,aov gx hK h1]
end
theorem Hu(l:List Sm)(bm:l.length<100000000)(hS:∀x∈l,uN x)(hK:∀x∈l,∀c∈bB x,KS c)(k:Kt)(R1 R2:bP)
 (h1:∀v X,k .ret ⟨258,aC,[(2,true,.d (.bool false))],[⟨300,v,X⟩]⟩=R1)
 (h2:∀(Y:Env) v X,k (.exit 0) ⟨258,aC,Y,[⟨300,v,X⟩]⟩=R2):∀(rest pre:List Sm)(v:Nat)(X:aE),l=pre++rest→
 aI ctx 46 (.loop (bS [1,0,1,0,0])) ⟨258,aC,[(0,true,.d (.list (l.map b5))),(3,true,.d (.int .i64 pre.length))],[⟨300,v,X⟩]⟩ k=if ej rest=true then R2 else R1
 |[],pre,v,X,hd=>by
  have cm:pre.length=l.length:=by rw[hd];simp
  rw[cm,ah];simp[bS,Tryz.f46,h2,ej]
 |x::rest,pre,v,X,hd=>by
  have aV:pre.length<l.length:=by rw[hd];simp
  have aW:l[pre.length]=x:=by simp[hd]
  have hm:x∈l:=by rw[hd];simp
  have hb:=fun (v:Nat) (a b:AV) (k:Kt)=>adL (v:=v) (a:=a) (b:=b) (k:=k) (hS x hm) (hK x hm) rfl;have ih:∀v X,aI ctx 46 (.loop (bS [1,0,1,0,0])) ⟨258,aC,[(0,true,.d (.list (l.map b5))),(3,true,.d (.int .i64 (pre.length+1)))],[⟨300,v,X⟩]⟩ k=if ej rest=true then R2 else R1:=fun v X=>by
   have:=Hu l bm hS hK k R1 R2 h1 h2 rest (pre++[x]) v X (by simp[hd]);simpa using this
  have w1:IntKind.i64.wrap ((pre.length:Int)+1)=(pre.length:Int)+1:=aw (by unfold aY;omega);have key:ej (x::rest)=(iZ x&&ej rest):=by rw[ej]
  rw[key];generalize iZ x=N at*;generalize ej rest=M at*;rw[ah];simp[bS,Tryz.f46]at hb ih⊢;simp[aV,aW,eI];simp[hb];cases N<;>simp[h1,w1,ih]
theorem SB{l:List Sm}(bm:l.length<100000000)(hS:∀x∈l,uN x)(hK:∀x∈l,∀c∈bB x,KS c):KS l:=by
 have h:=fun k R1 R2 h1 h2 v X=>Hu l bm hS hK k R1 R2 h1 h2 l [] v X rfl;unfold KS;rw[ahF (by simp)];simp[bS,Tryz.f46]at h⊢;rw[h _ (some (.ret (.d (.bool false)),[])) (some (.ret (.d (.bool true)),[]))]
 ·cases ej l<;>simp
 ·intro v X;simp
 ·intro Y v X;simp
mutual
theorem adN:∀x:Sm,yr x→uN x∧∀c∈bB x,KS c
 | .mk op name to val conds labels fields blocks line,h=>by
  have h:=(YH _).1 h;exact⟨h.1,Mx blocks h.2⟩
theorem zc:∀l:List Sm,lh l→∀x∈l,uN x∧∀c∈bB x,KS c
 |[],_,x,hx=>by simp at hx
 |y::r,h,x,hx=>by
  simp only[lh]at h;have h1:=adN y h.1;have h2:=zc r h.2;rcases List.mem_cons.1 hx with e|hx
  ·rw[e];exact h1
  ·exact h2 x hx
theorem Mx:∀l:List (List Sm),nc l→∀c∈l,KS c
 |[],_,c,hc=>by simp at hc
 |b::r,h,c,hc=>by
  simp only[nc]at h;have h1:=zc b h.1.2;have h2:=Mx r h.2;rcases List.mem_cons.1 hc with e|hc
  ·rw[e];exact SB h.1.1 (fun x hx=>(h1 x hx).1) (fun x hx=>(h1 x hx).2)
  ·exact h2 c hc
end
theorem Vi{l:List Sm}(bm:l.length<100000000)(h:lh l):KS l:=
 SB bm (fun x hx=>(zc l h x hx).1) (fun x hx=>(zc l h x hx).2)
theorem aoy:ai ctx 73 [.d (.int .i64 10)] []=some (.ret (.d (.list ((bz 10).map cU))),[]):=bx 120 (by kernel_rfl)
theorem aoz:ai ctx 73 [.d (.int .i64 11)] []=some (.ret (.d (.list ((bz 11).map cU))),[]):=bx 120 (by kernel_rfl)
theorem aoA:ai ctx 73 [.d (.int .i64 12)] []=some (.ret (.d (.list ((bz 12).map cU))),[]):=bx 120 (by kernel_rfl)
theorem aoB:ai ctx 73 [.d (.int .i64 13)] []=some (.ret (.d (.list ((bz 13).map cU))),[]):=bx 120 (by kernel_rfl)
theorem aoC:ai ctx 73 [.d (.int .i64 14)] []=some (.ret (.d (.list ((bz 14).map cU))),[]):=bx 120 (by kernel_rfl)
theorem aoD:ai ctx 73 [.d (.int .i64 15)] []=some (.ret (.d (.list ((bz 15).map cU))),[]):=bx 120 (by kernel_rfl)
theorem aoE:ai ctx 73 [.d (.int .i64 16)] []=some (.ret (.d (.list ((bz 16).map cU))),[]):=bx 120 (by kernel_rfl)
theorem aoF:ai ctx 73 [.d (.int .i64 17)] []=some (.ret (.d (.list ((bz 17).map cU))),[]):=bx 120 (by kernel_rfl)
theorem aoG:ai ctx 73 [.d (.int .i64 18)] []=some (.ret (.d (.list ((bz 18).map cU))),[]):=bx 120 (by kernel_rfl)
theorem aoH:ai ctx 73 [.d (.int .i64 19)] []=some (.ret (.d (.list ((bz 19).map cU))),[]):=bx 120 (by kernel_rfl)
theorem aoI:ai ctx 73 [.d (.int .i64 20)] []=some (.ret (.d (.list ((bz 20).map cU))),[]):=bx 120 (by kernel_rfl)
theorem aoJ:ai ctx 73 [.d (.int .i64 21)] []=some (.ret (.d (.list ((bz 21).map cU))),[]):=bx 120 (by kernel_rfl)
theorem aoK:ai ctx 73 [.d (.int .i64 22)] []=some (.ret (.d (.list ((bz 22).map cU))),[]):=bx 120 (by kernel_rfl)
theorem aoL:ai ctx 73 [.d (.int .i64 23)] []=some (.ret (.d (.list ((bz 23).map cU))),[]):=bx 120 (by kernel_rfl)
theorem aoM:ai ctx 73 [.d (.int .i64 24)] []=some (.ret (.d (.list ((bz 24).map cU))),[]):=bx 120 (by kernel_rfl)
theorem aoN:ai ctx 73 [.d (.int .i64 25)] []=some (.ret (.d (.list ((bz 25).map cU))),[]):=bx 120 (by kernel_rfl)
theorem aoO:ai ctx 73 [.d (.int .i64 26)] []=some (.ret (.d (.list ((bz 26).map cU))),[]):=bx 120 (by kernel_rfl)
theorem aoP:ai ctx 73 [.d (.int .i64 27)] []=some (.ret (.d (.list ((bz 27).map cU))),[]):=bx 120 (by kernel_rfl)
theorem aoQ:ai ctx 73 [.d (.int .i64 28)] []=some (.ret (.d (.list ((bz 28).map cU))),[]):=bx 120 (by kernel_rfl)
theorem aoR:ai ctx 73 [.d (.int .i64 29)] []=some (.ret (.d (.list ((bz 29).map cU))),[]):=bx 120 (by kernel_rfl)
theorem aoS:ai ctx 73 [.d (.int .i64 30)] []=some (.ret (.d (.list ((bz 30).map cU))),[]):=bx 120 (by kernel_rfl)
theorem aoT:ai ctx 73 [.d (.int .i64 31)] []=some (.ret (.d (.list ((bz 31).map cU))),[]):=bx 120 (by kernel_rfl)
abbrev Rw:=Int×Tx×Tx×List Tx
def Cs:List Rw:=[
 (10,[84,79,78],[105,73,111,79],[[73,78],[80,84],[81],[69,84]]),
 (11,[84,79,70],[105,73,111,79],[[73,78],[80,84],[81],[69,84]]),
 (12,[84,80],[105,73,111,79,46,46],[[73,78],[80,84],[81],[69,84]]),
 (13,[67,84,85],[105,105,73,111,79,46],[[67,85],[82],[80,86],[81],[67,86]]),
 (14,[67,84,68],[105,105,73,111,79,46],[[67,68],[76,68],[80,86],[81],[67,86]]),
 (15,[82,95,84,82,73,71],[105,111,46],[[67,76,75],[81]]),
 (16,[70,95,84,82,73,71],[105,111,46],[[67,76,75],[81]]),
 (17,[83,82],[105,105,111],[[83,49],[82],[81,49]]),
 (18,[82,83],[105,105,111],[[83],[82,49],[81,49]]),
 (20,[77,67,95,80,111,119,101,114],[73,105,111,111],[[65,120,105,115],[69,110,97,98,108,101],[83,116,97,116,117,115],[69,114,114,111,114]]),
 (21,[77,67,95,72,111,109,101],[73,105,111,111,111,111,111,46,46],[[65,120,105,115],[69,120,101,99,117,116,101],[68,111,110,101],[66,117,115,121],[65,99,116,105,118,101],[67,111,109,109,97,110,100,65,98,111,114,116,101,100],[69,114,114,111,114]]),
 (22,[77,67,95,83,116,111,112],[73,105,111,111,111,111,111,46,46],[[65,120,105,115],[69,120,101,99,117,116,101],[68,111,110,101],[66,117,115,121],[65,99,116,105,118,101],[67,111,109,109,97,110,100,65,98,111,114,116,101,100],[69,114,114,111,114]]),
 (23,[77,67,95,72,97,108,116],[73,105,111,111,111,111,111,46,46],[[65,120,105,115],[69,120,101,99,117,116,101],[68,111,110,101],[66,117,115,121],[65,99,116,105,118,101],[67,111,109,109,97,110,100,65,98,111,114,116,101,100],[69,114,114,111,114]]),
 (24,[77,67,95,77,111,118,101,65,98,115,111,108,117,116,101],[73,105,73,73,73,111,111,111,111,111,46,46],[[65,120,105,115],[69,120,101,99,117,116,101],[80,111,115,105,116,105,111,110],[86,101,108,111,99,105,116,121],[66,117,102,102,101,114,77,111,100,101],[68,111,110,101],[66,117,115,121],[65,99,116,105,118,101],[67,111,109,109,97,110,100,65,98,111,114,116,101,100],[69,114,114,111,114]]),
 (25,[77,67,95,77,111,118,101,82,101,108,97,116,105,118,101],[73,105,73,73,73,111,111,111,111,111,46,46],[[65,120,105,115],[69,120,101,99,117,116,101],[68,105,115,116,97,110,99,101],[86,101,108,111,99,105,116,121],[66,117,102,102,101,114,77,111,100,101],[68,111,110,101],[66,117,115,121],[65,99,116,105,118,101],[67,111,109,109,97,110,100,65,98,111,114,116,101,100],[69,114,114,111,114]]),
 (26,[77,67,95,77,111,118,101,65,100,100,105,116,105,118,101],[73,105,73,73,73,111,111,111,111,111,46,46],[[65,120,105,115],[69,120,101,99,117,116,101],[68,105,115,116,97,110,99,101],[86,101,108,111,99,105,116,121],[66,117,102,102,101,114,77,111,100,101],[68,111,110,101],[66,117,115,121],[65,99,116,105,118,101],[67,111,109,109,97,110,100,65,98,111,114,116,101,100],[69,114,114,111,114]]),
 (27,[77,67,95,77,111,118,101,86,101,108,111,99,105,116,121],[73,105,73,111,111,111,111,111,46,46],[[65,120,105,115],[69,120,101,99,117,116,101],[86,101,108,111,99,105,116,121],[73,110,86,101,108,111,99,105,116,121],[66,117,115,121],[65,99,116,105,118,101],[67,111,109,109,97,110,100,65,98,111,114,116,101,100],[69,114,114,111,114]]),
 (28,[77,67,95,71,101,97,114,73,110],[73,105,73,73,73,111,111,111,111,111,46,46],[[65,120,105,115],[69,120,101,99,117,116,101],[77,97,115,116,101,114],[78,117,109,101,114,97,116,111,114],[68,101,110,111,109,105,110,97,116,111,114],[73,110,71,101,97,114],[66,117,115,121],[65,99,116,105,118,101],[67,111,109,109,97,110,100,65,98,111,114,116,101,100],[69,114,114,111,114]]),
 (29,[77,67,95,82,101,115,101,116],[73,105,111,111,46],[[65,120,105,115],[69,120,101,99,117,116,101],[68,111,110,101],[69,114,114,111,114]]),
 (30,[77,67,95,83,101,116,80,111,115,105,116,105,111,110],[73,105,73,111,111,46],[[65,120,105,115],[69,120,101,99,117,116,101],[80,111,115,105,116,105,111,110],[68,111,110,101],[69,114,114,111,114]]),
 (31,[77,67,95,83,101,116,79,118,101,114,114,105,100,101],[73,105,73,111],[[65,120,105,115],[69,110,97,98,108,101],[80,101,114,99,101,110,116],[69,110,97,98,108,101,100]])]
def YI(r:Rw):D:=.agg [.int .i64 r.1,.str r.2.1,.str r.2.2.1,.list (r.2.2.2.map .str)]
theorem adO:ai ctx 85 [] []=some (.ret (.d (.list (Cs.map YI))),[]):=bx 120 (by kernel_rfl)
def tX(k:Int):List Rw→Tx
 |[]=>[]
 |r::l=>if r.1=k then r.2.1 else tX k l
theorem My(q:Int)(l:List Rw)(hl:l.length<1000)(k:Kt)(RF:Tx→bP)
 (h1:∀t,k .ret ⟨24,aC,[(2,true,.d (.str t))],[]⟩=RF t)
 (h2:∀Y:Env,k (.exit 0) ⟨24,aC,Y,[]⟩=RF []):∀(rest pre:List Rw),l=pre++rest→
 aI ctx 45 (.loop (Code.at (aX Tryz.f45) [1,1,0,1,0,0])) ⟨24,aC,[(0,true,.d (.int .i64 q)),(3,true,.d (.list (l.map YI))),(4,true,.d (.int .i64 pre.length))],[]⟩ k=RF (tX q rest)
 |[],pre,hd=>by
  have cm:pre.length=l.length:=by rw[hd];simp
  rw[cm,ah];simp[Tryz.f45,h2,tX]
 |x::rest,pre,hd=>by
  have aV:pre.length<l.length:=by rw[hd];simp
  have aW:l[pre.length]=x:=by simp[hd]
  have ih:=My q l hl k RF h1 h2 rest (pre++[x]) (by simp[hd]);have w1:IntKind.i64.wrap ((pre.length:Int)+1)=(pre.length:Int)+1:=aw (by unfold aY;omega);rw[ah];by_cases hq:x.1=q
  ·simp[Tryz.f45];simp[aV,aW,YI,hq,h1,tX]
  ·simp[Tryz.f45]at ih⊢;simp[aV,aW,YI,hq,w1,ih,tX]
theorem aoU(q:Int):ai ctx 45 [.d (.int .i64 q)] []=some (.ret (.d (.str (tX q Cs))),[]):=by
 have h:=fun k RF h1 h2=>My q Cs (by decide) k RF h1 h2 Cs [] rfl;have hr:=adO;rw[ahE (by simp)];generalize Cs=l at*;simp[Tryz.f45]at h⊢;simp[hr];rw[h _ (fun t=>some (.ret (.d (.str t)),[])) (by simp) (by simp)]
theorem Zv(q:Int):(tX q Cs=[])↔ob q=false:=by
 by_cases h:10≤q∧q≤31
 ·have:q=10∨q=11∨q=12∨q=13∨q=14∨q=15∨q=16∨q=17∨q=18∨q=19∨q=20∨q=21∨q=22∨q=23∨q=24∨q=25∨q=26∨q=27∨q=28∨q=29∨q=30∨q=31:=by omega
  rcases this with h|h|h|h|h|h|h|h|h|h|h|h|h|h|h|h|h|h|h|h|h|h<;>subst h<;>decide
 ·have e:∀n:Int,10≤n→n≤31→¬n=q:=fun n a b c=>h (by omega);have e1:bz q=[]:=by
   unfold bz Hj;simp only[q8];rw[if_neg (e _ (by decide) (by decide)),if_neg (e _ (by decide) (by decide)),if_neg (e _ (by decide) (by decide)),if_neg (e _ (by decide) (by decide)),if_neg (e _ (by decide) (by decide)),if_neg (e _ (by decide) (by decide)),if_neg (e _ (by decide) (by decide)),if_neg (e _ (by decide) (by decide)),if_neg (e _ (by decide) (by decide)),if_neg (e _ (by decide) (by decide)),if_neg (e _ (by decide) (by decide)),if_neg (e _ (by decide) (by decide)),if_neg (e _ (by decide) (by decide)),if_neg (e _ (by decide) (by decide)),if_neg (e _ (by decide) (by decide)),if_neg (e _ (by decide) (by decide)),if_neg (e _ (by decide) (by decide)),if_neg (e _ (by decide) (by decide)),if_neg (e _ (by decide) (by decide)),if_neg (e _ (by decide) (by decide)),if_neg (e _ (by decide) (by decide))]
  have e2:tX q Cs=[]:=by
   unfold Cs;simp only[tX];rw[if_neg (e _ (by decide) (by decide)),if_neg (e _ (by decide) (by decide)),if_neg (e _ (by decide) (by decide)),if_neg (e _ (by decide) (by decide)),if_neg (e _ (by decide) (by decide)),if_neg (e _ (by decide) (by decide)),if_neg (e _ (by decide) (by decide)),if_neg (e _ (by decide) (by decide)),if_neg (e _ (by decide) (by decide)),if_neg (e _ (by decide) (by decide)),if_neg (e _ (by decide) (by decide)),if_neg (e _ (by decide) (by decide)),if_neg (e _ (by decide) (by decide)),if_neg (e _ (by decide) (by decide)),if_neg (e _ (by decide) (by decide)),if_neg (e _ (by decide) (by decide)),if_neg (e _ (by decide) (by decide)),if_neg (e _ (by decide) (by decide)),if_neg (e _ (by decide) (by decide)),if_neg (e _ (by decide) (by decide)),if_neg (e _ (by decide) (by decide))]
  rw[e2];unfold ob;rw[e1];simp
section
variable {vs:List Vr} {n:Int} (hl:vs.length<1000000) (ee:∀v∈vs,dr v=true)
def SC(vs:List Vr)(x:Sm):EL:=match bg vs (gR x)with
 |none=>(9,kp x)
 |some v=>if v.ty≤2 then (10,kp x)else iz vs v.ty (kp x) (dM x) (cw x) []
def coE(vs:List Vr)(x:Sm):EL:=match bg vs (gR x)with
 |none=>(9,kp x)
 |some v=>if v.sec=1 then (1,kp x)else if v.arr=true∨v.ty≠1 then (10,kp x)else eU (kq vs 1 (cw x)) (s4 vs (bB x))
include hl ee
end
theorem rf(vs:List Vr)(lp:Bool)(x:Sm):jS vs lp x=
 if bA x=1 then Cn vs (eD x) (dF x) (kp x)
 else if bA x=2 then fq vs lp (cw x) (bB x)
 else if bA x=3 then eU (dj vs (dF x) 1) (fq vs lp [] (bB x))
 else if bA x=4 then coE vs x
 else if bA x=5 then eU (dj vs (dF x) 2) (s4 vs (bB x))
 else if bA x=6 then eU (s4 vs (bB x)) (dj vs (dF x) 2)
 else if bA x=7 then (if lp=true then (0,0)else (14,kp x))
 else if bA x=9 then SC vs x
 else (0,0):=by
 obtain⟨op,name,to,val,conds,labels,fields,blocks,line⟩:=x;unfold jS coE SC;rfl
mutual
def Mz:Sm→Nat
 | .mk _ _ _ _ conds labels fields blocks _=>1+conds.length+labels.length+fields.length+tY blocks
def qt:List Sm→Nat
 |[]=>0
 |x::r=>Mz x+qt r
def tY:List (List Sm)→Nat
 |[]=>0
 |b::r=>qt b+1+tY r
end
theorem AO:∀l:List Sm,l.length≤qt l
 |[]=>by simp[qt]
 | .mk _ _ _ _ c lb f bl _::r=>by have:=AO r;simp only[qt,Mz,List.length_cons];omega
theorem Hv:∀l:List (List Sm),l.length≤tY l
 |[]=>by simp[tY]
 |b::r=>by have:=Hv r;simp only[tY,List.length_cons];omega
section
variable {vs:List Vr} {n:Int} (hl:vs.length<1000000) (ee:∀v∈vs,dr v=true)
end
section
variable {vs:List Vr} {n:Int} (hl:vs.length<1000000) (ee:∀v∈vs,dr v=true)
theorem kK{a b:EL}(h:a.1=0):eU a b=b:=by unfold eU;rw[if_neg (by simp[h])]
theorem om{a b:EL}(h:¬a.1=0):eU a b=a:=by unfold eU;rw[if_pos h]
include hl ee
end
def dB(e:EL):EL:=if e.1=0 then (0,0)else e
@[reducible] noncomputable def fF(p:List Nat):Code:=Code.at (aX Tryz.f18) p
def SD(w:Vr):Bool:=cY w.name&&decide (0≤w.sec∧w.sec≤2)
def SF(w:Vr):Bool:=decide (w.ty=1∨w.ty=2)||ob w.ty
def SG(w:Vr):Bool:=if w.arr=true then decide (w.ty≤2∧0≤w.lo∧w.lo≤w.hi∧w.hi≤255)else decide (w.lo=0∧w.hi=0)
def YJ(w:Vr):Bool:=!decide (((w.arr=true∨2<w.ty)∧w.init≠0)∨(w.ty=2∧(w.init<0∨1<w.init))∨w.init= -9223372036854775808)
theorem adQ(w:Vr):dr w=(SD w&&(SF w&&(SG w&&YJ w))):=by
 unfold dr SD SF SG YJ;simp only[Bool.and_assoc]
section
variable {w:Vr} {v:Nat} {k:Kt} {R1:bP} {a b:AV} {B:aE} (hr:k .ret ⟨129,aC,[(2,true,.d (.bool false))],[⟨150,1,B⟩,⟨300,v,gZ w⟩]⟩=R1)
include hr
theorem ah2:aI ctx 18 (fF [1,1,0,1,0,0,1,0,0,1,0]) ⟨129,aC,[(1,true,a),(3,true,b),(4,true,.ptr 300 v 0)],[⟨150,1,B⟩,⟨300,v,gZ w⟩]⟩ k=
 if SD w=true then k .normal ⟨129,aC,[(1,true,a),(3,true,b),(4,true,.ptr 300 v 0),(40,true,.d (.bool false))],[⟨150,1,B⟩,⟨300,v,gZ w⟩]⟩else R1:=by
 have hn:=eG w.name;unfold SD;simp only[gZ]at hr;generalize cY w.name=N at*;cases N with
 |false=>(simp[fF,Tryz.f18];simp[hn,hr])
 |true=>
  by_cases h1:w.sec<0
  ·have h2:¬0≤w.sec:=by omega
   (simp[fF,Tryz.f18];simp[hn,h1,h2,hr])
  ·have h2:0≤w.sec:=by omega
   by_cases h3:2<w.sec
   ·have h4:¬w.sec≤2:=by omega
    (simp[fF,Tryz.f18];simp[hn,h1,h2,h3,h4,hr])
   ·have h4:w.sec≤2:=by omega
    (simp[fF,Tryz.f18];simp[hn,h1,h2,h3,h4,hr])
theorem ah3{d:AV}:aI ctx 18 (fF [1,1,0,1,0,0,1,0,0,1,1,0]) ⟨129,aC,[(1,true,a),(3,true,b),(4,true,.ptr 300 v 0),(40,true,d)],[⟨150,1,B⟩,⟨300,v,gZ w⟩]⟩ k=
 if SF w=true then k .normal ⟨129,aC,[(1,true,a),(3,true,b),(4,true,.ptr 300 v 0),(54,true,.d (.bool false))],[⟨150,1,B⟩,⟨300,v,gZ w⟩]⟩else R1:=by
 have hn:=aoU w.ty;have hq:=Zv w.ty;unfold SF;simp only[gZ]at hr;generalize tX w.ty Cs=T at*;generalize ob w.ty=Q at*;by_cases h1:w.ty=1
 ·(simp only[h1]at hr⊢;simp[fF,Tryz.f18];simp[h1])
 ·by_cases h2:w.ty=2
  ·(simp only[h2]at hr⊢;simp[fF,Tryz.f18];simp[h2])
  ·by_cases hT:T=[]
   ·have hQ:=hq.1 hT
    (simp[fF,Tryz.f18];simp[hn,h1,h2,hT,hQ,hr])
   ·have hQ:Q=true:=by cases Q with|true=>rfl|false=>exact absurd (hq.2 rfl) hT
    (simp[fF,Tryz.f18];simp[hn,h1,h2,hT,hQ,hr])
theorem ah4{d:AV}:aI ctx 18 (fF [1,1,0,1,0,0,1,0,0,1,1,1,0]) ⟨129,aC,[(1,true,a),(3,true,b),(4,true,.ptr 300 v 0),(54,true,d)],[⟨150,1,B⟩,⟨300,v,gZ w⟩]⟩ k=
 if SG w=true then k .normal ⟨129,aC,[(1,true,a),(3,true,b),(4,true,.ptr 300 v 0),(93,true,.d (.bool false))],[⟨150,1,B⟩,⟨300,v,gZ w⟩]⟩else R1:=by
 unfold SG;simp only[gZ]at hr;obtain⟨name,ty,sec,arr,lo,hi,init,line⟩:=w;simp only at hr⊢;cases arr with
 |false=>
  by_cases h1:lo=0
  ·by_cases h2:hi=0
   ·(simp[fF,Tryz.f18];simp[h1,h2,hr])
   ·(simp only[h1]at hr;simp[fF,Tryz.f18];simp[h1,h2,hr])
  ·(simp[fF,Tryz.f18];simp[h1,hr])
 |true=>
  by_cases h1:2<ty
  ·have qA:¬ty≤2:=by omega
   (simp[fF,Tryz.f18];simp[h1,qA,hr])
  ·have qA:ty≤2:=by omega
   by_cases h2:lo<0
   ·have SH:¬0≤lo:=by omega
    (simp[fF,Tryz.f18];simp[h1,qA,h2,SH,hr])
   ·have SH:0≤lo:=by omega
    by_cases h3:hi<lo
    ·have oN:¬lo≤hi:=by omega
     (simp[fF,Tryz.f18];simp[h1,qA,h2,SH,h3,oN,hr])
    ·have oN:lo≤hi:=by omega
     by_cases h4:255<hi
     ·have Ey:¬hi≤255:=by omega
      (simp[fF,Tryz.f18];simp[h1,qA,h2,SH,h3,oN,h4,Ey,hr])
     ·have Ey:hi≤255:=by omega
      (simp[fF,Tryz.f18];simp[h1,qA,h2,SH,h3,oN,h4,Ey,hr])
theorem ah5{d:AV}:aI ctx 18 (fF [1,1,0,1,0,0,1,0,0,1,1,1,1]) ⟨129,aC,[(1,true,a),(3,true,b),(4,true,.ptr 300 v 0),(93,true,d)],[⟨150,1,B⟩,⟨300,v,gZ w⟩]⟩ k=
 if YJ w=true then k .normal ⟨129,aC,[(1,true,a),(3,true,b),(125,true,.d (.bool false))],[⟨150,1,B⟩,⟨300,v,gZ w⟩]⟩else R1:=by
 unfold YJ;simp only[gZ]at hr;obtain⟨name,ty,sec,arr,lo,hi,init,line⟩:=w;simp only at hr⊢;cases arr with
 |true=>
  by_cases h2:init=0
  ·subst h2;by_cases h3:ty=2
   ·subst h3;(simp[fF,Tryz.f18];all_goals simp[hr])
   ·(simp[fF,Tryz.f18];all_goals simp[h3,hr])
  ·(simp[fF,Tryz.f18];all_goals simp[h2,hr])
 |false=>
  by_cases h1:2<ty
  ·have h3:¬ty=2:=by omega
   have qA:¬ty≤2:=by omega
   by_cases h2:init=0
   ·subst h2;(simp[fF,Tryz.f18];all_goals simp[h1,qA,h3,hr])
   ·(simp[fF,Tryz.f18];all_goals simp[h1,qA,h2,h3,hr])
  ·have qA:ty≤2:=by omega
   by_cases h3:ty=2
   ·subst h3;by_cases h4:init<0
    ·have Ey:¬0≤init:=by omega
     (simp[fF,Tryz.f18];all_goals simp[h4,Ey,hr])
    ·have Ey:0≤init:=by omega
     by_cases h5:1<init
     ·have h5':¬init≤1:=by omega
      (simp[fF,Tryz.f18];all_goals simp[h4,Ey,h5,h5',hr])
     ·have h6:¬init= -9223372036854775808:=by omega
      have h5':init≤1:=by omega
      (simp[fF,Tryz.f18];all_goals simp[h4,Ey,h5,h5',h6,hr])
   ·by_cases h6:init= -9223372036854775808
    ·subst h6;(simp[fF,Tryz.f18];all_goals simp[h1,qA,h3,hr])
    ·(simp[fF,Tryz.f18];all_goals simp[h1,qA,h3,h6,hr])
end
section
variable {w:Vr} {v:Nat} {k:Kt} {R1:bP} {a b:AV} {B:aE}
theorem adS(hr:k .ret ⟨129,aC,[(2,true,.d (.bool false))],[⟨150,1,B⟩,⟨300,v,gZ w⟩]⟩=R1):
 aI ctx 18 (fF [1,1,0,1,0,0,1,0,0,1]) ⟨129,aC,[(1,true,a),(3,true,b),(4,true,.ptr 300 v 0)],[⟨150,1,B⟩,⟨300,v,gZ w⟩]⟩ k=
 if dr w=true then k .normal ⟨129,aC,[(1,true,a),(3,true,b),(125,true,.d (.bool false))],[⟨150,1,B⟩,⟨300,v,gZ w⟩]⟩else R1:=by
 have e1:fF [1,1,0,1,0,0,1,0,0,1]=Code.seq (fF [1,1,0,1,0,0,1,0,0,1,0]) (fF [1,1,0,1,0,0,1,0,0,1,1]):=rfl;have e2:fF [1,1,0,1,0,0,1,0,0,1,1]=Code.seq (fF [1,1,0,1,0,0,1,0,0,1,1,0]) (fF [1,1,0,1,0,0,1,0,0,1,1,1]):=rfl;have e3:fF [1,1,0,1,0,0,1,0,0,1,1,1]=Code.seq (fF [1,1,0,1,0,0,1,0,0,1,1,1,0]) (fF [1,1,0,1,0,0,1,0,0,1,1,1,1]):=rfl;have hq:∀c,ye ctx 18 c k .ret ⟨129,aC,[(2,true,.d (.bool false))],[⟨150,1,B⟩,⟨300,v,gZ w⟩]⟩=R1:=fun _=>hr;rw[adQ,e1,denK_seq,ah2 (hq _)];cases SD w
 ·rw[Bool.false_and,if_neg Bool.false_ne_true,if_neg Bool.false_ne_true]
 rw[if_pos rfl,Bool.true_and,seqK_n,e2,denK_seq,ah3 (hq _)];cases SF w
 ·rw[Bool.false_and,if_neg Bool.false_ne_true,if_neg Bool.false_ne_true]
 rw[if_pos rfl,Bool.true_and,seqK_n,e3,denK_seq,ah4 (hq _)];cases SG w
 ·rw[Bool.false_and,if_neg Bool.false_ne_true,if_neg Bool.false_ne_true]
 rw[if_pos rfl,Bool.true_and,seqK_n,ah5 hr]
end
theorem MA(l:List Vr)(bm:l.length≤64)(D1 D2:AV)(k:Kt)(R1 R2:bP)
 (h1:∀v X,k .ret ⟨129,aC,[(2,true,.d (.bool false))],[⟨150,1,.box [D1,.d (.list (l.map bF)),D2]⟩,⟨300,v,X⟩]⟩=R1)
 (h2:∀(b c:AV) v X,k (.exit 0) ⟨129,aC,[(1,true,.ptr 150 1 0),(3,true,b),(19,true,c)],[⟨150,1,.box [D1,.d (.list (l.map bF)),D2]⟩,⟨300,v,X⟩]⟩=R2):∀(rest pre:List Vr)(v:Nat)(X:aE),l=pre++rest→
 aI ctx 18 (.loop (fF [1,1,0,1,0,0])) ⟨129,aC,[(1,true,.ptr 150 1 0),(3,true,.d (.int .i64 pre.length))],[⟨150,1,.box [D1,.d (.list (l.map bF)),D2]⟩,⟨300,v,X⟩]⟩ k=if rest.all dr=true then R2 else R1
 |[],pre,v,X,hd=>by
  have cm:pre.length=l.length:=by rw[hd];simp
  rw[cm,ah];simp[fF,Tryz.f18,h2]
 |x::rest,pre,v,X,hd=>by
  have aV:pre.length<l.length:=by rw[hd];simp
  have aW:l[pre.length]=x:=by simp[hd]
  have hb:=fun (v:Nat) (a b:AV) (k:Kt)=>adS (w:=x) (v:=v) (a:=a) (b:=b) (k:=k) (B:=.box [D1,.d (.list (l.map bF)),D2]) rfl;have ih:∀v X,aI ctx 18 (.loop (fF [1,1,0,1,0,0])) ⟨129,aC,[(1,true,.ptr 150 1 0),(3,true,.d (.int .i64 (pre.length+1)))],[⟨150,1,.box [D1,.d (.list (l.map bF)),D2]⟩,⟨300,v,X⟩]⟩ k=if rest.all dr=true then R2 else R1:=fun v X=>by
   have:=MA l bm D1 D2 k R1 R2 h1 h2 rest (pre++[x]) v X (by simp[hd]);simpa using this
  have w1:IntKind.i64.wrap ((pre.length:Int)+1)=(pre.length:Int)+1:=aw (by unfold aY;omega);rw[List.all_cons];generalize dr x=N at*;generalize rest.all dr=M at*;rw[ah];simp[fF,Tryz.f18]at hb ih⊢;simp[aV,aW,bF,ep];simp[hb];cases N<;>simp[h1,w1,ih]
theorem adT{p:Pg}(hb:p.body.length<100000000)(hl:lh p.body):ai ctx 18 [.d (.agg [.str p.name,.list (p.vars.map bF),.list (p.body.map b5)])] []=some (.ret (.d (.bool (pe p))),[]):=by
 have hn:=eG p.name;have hs:=Vi hb hl;unfold KS at hs;rw[ahw (by simp)];unfold pe;generalize cY p.name=N at*;generalize ej p.body=M at*;cases N with
 |false=>simp[Tryz.f18,hn]
 |true=>
  by_cases h6:64<p.vars.length
  ·have h6':(64:Int)<p.vars.length:=by omega
   have h7:¬p.vars.length≤64:=by omega
   simp[Tryz.f18,hn,h6,h6',h7]
  ·have h6':¬(64:Int)<p.vars.length:=by omega
   have h7:p.vars.length≤64:=by omega
   have cP:=fun D1 D2 k R1 R2 h1 h2 v X=>MA p.vars h7 D1 D2 k R1 R2 h1 h2 p.vars [] v X rfl;generalize p.vars.all dr=Q at*;simp[fF,Tryz.f18]at cP;simp[Tryz.f18,hn,h6,h6',h7];rw[cP _ _ _ (some (.ret (.d (.bool false)),[])) (some (.ret (.d (.bool M)),[]))]
   ·cases Q<;>simp
   ·intro v X;simp
   ·intro b c v X;simp[hs]
def SE(l:List Ex):Prop:=∀most:Int,∃n d:Int,ai ctx 129 [.d (.list (l.map bJ)),.d (.int .i64 most)] []=some (.ret (.aU [.d (.int .i64 n),.d (.int .i64 d)]),[])
theorem MB(l:List Ex)(bm:l.length<100000000)(hK:∀x∈l,SE (cK x))(most:Int)(k:Kt)(Q:bP→Prop)
 (h2:∀(n d:Int)(b c:AV),Q (k (.exit 0) ⟨44,aC,[(0,true,.d (.list (l.map bJ))),(1,true,.d (.int .i64 most)),(6,true,.d (.int .i64 n)),(7,true,.d (.int .i64 d)),(8,true,b),(19,true,c)],[]⟩)):∀(rest pre:List Ex)(n d:Int),l=pre++rest→
 Q (aI ctx 129 (.loop (Code.at (aX Tryz.f129) [1,1,0,1,0,0])) ⟨44,aC,[(0,true,.d (.list (l.map bJ))),(1,true,.d (.int .i64 most)),(6,true,.d (.int .i64 n)),(7,true,.d (.int .i64 d)),(8,true,.d (.int .i64 pre.length))],[]⟩ k)
 |[],pre,n,d,hd=>by
  have cm:pre.length=l.length:=by rw[hd];simp
  rw[cm,ah];simp[Tryz.f129,h2]
 |x::rest,pre,n,d,hd=>by
  have aV:pre.length<l.length:=by rw[hd];simp
  have aW:l[pre.length]=x:=by simp[hd]
  obtain⟨m,d',hm⟩:=hK x (by rw[hd];simp) (IntKind.i64.wrap (most-n));have ih:∀n d,Q (aI ctx 129 (.loop (Code.at (aX Tryz.f129) [1,1,0,1,0,0])) ⟨44,aC,[(0,true,.d (.list (l.map bJ))),(1,true,.d (.int .i64 most)),(6,true,.d (.int .i64 n)),(7,true,.d (.int .i64 d)),(8,true,.d (.int .i64 (pre.length+1)))],[]⟩ k):=fun n d=>by
   have:=MB l bm hK most k Q h2 rest (pre++[x]) n d (by simp[hd]);simpa using this
  have w1:IntKind.i64.wrap ((pre.length:Int)+1)=(pre.length:Int)+1:=aw (by unfold aY;omega);rw[ah];by_cases hn:n≤most
  ·simp[Tryz.f129]at ih⊢;simp[aV,aW,hn,aD,hm,w1,ih]
  ·simp[Tryz.f129];simp[aV,hn,h2]
theorem adV{l:List Ex}(bm:l.length<100000000)(hK:∀x∈l,SE (cK x)):SE l:=by
 intro most;have h:=fun k Q h2=>MB l bm hK most k Q h2 l [] 0 0 rfl;rw[acy (by simp)];simp[Tryz.f129]at h⊢;apply h _ (fun A=>∃n d:Int,A=some (.ret (.aU [.d (.int .i64 n),.d (.int .i64 d)]),[]));intro n d b c;simp
mutual
theorem aoV:∀x:Ex,uM x→SE (cK x)
 | .mk op nn name field sub line,h=>by
  simp only[uM]at h;exact adV h.1.2.2 (PN sub h.2)
theorem PN:∀l:List Ex,oh l→∀x∈l,SE (cK x)
 |[],_,x,hx=>by simp at hx
 |y::r,h,x,hx=>by
  simp only[oh]at h;rcases List.mem_cons.1 hx with e|hx
  ·rw[e];exact aoV y h.1
  ·exact PN r h.2 x hx
end
theorem SI{l:List Ex}(bm:l.length<100000000)(h:oh l):SE l:=adV bm (PN l h)
@[reducible] noncomputable def kA(p:List Nat):Code:=Code.at (aX Tryz.f83) p
def SS(l:List Sm):Prop:=∀most:Int,∃n d:Int,ai ctx 83 [.d (.list (l.map b5)),.d (.int .i64 most)] []=some (.ret (.aU [.d (.int .i64 n),.d (.int .i64 d)]),[])
section
variable {x:Sm} {v:Nat} {k:Kt} {Q:bP→Prop} {a b:AV} {most:Int}
theorem ssA(h1:SE [eD x,dF x])(hc:SE (cw x))(n d:Int)
 (hQ:∀(n d:Int)(c1 c2 c3 c4:AV),Q (k .normal ⟨136,aC,[(0,true,a),(1,true,.d (.int .i64 most)),(6,true,.d (.int .i64 n)),(7,true,.d (.int .i64 d)),(8,true,b),(9,true,.ptr 550 v 0),(42,true,c1),(43,true,c2),(44,true,c3),(45,true,c4)],[⟨550,v,bh x⟩]⟩)):
 Q (aI ctx 83 (kA [1,1,0,1,0,0,1,0,0,1,1,0]) ⟨136,aC,[(0,true,a),(1,true,.d (.int .i64 most)),(6,true,.d (.int .i64 n)),(7,true,.d (.int .i64 d)),(8,true,b),(9,true,.ptr 550 v 0)],[⟨550,v,bh x⟩]⟩ k):=by
 unfold SE at h1 hc;simp[aD]at h1;have oO:IntKind.i64.wrap 1=1:=by decide
 have w12:IntKind.i64.wrap 2=2:=by decide
 have r2:List.range' 0 2=[0,1]:=rfl;simp only[bh]at hQ;obtain⟨m,d',hm⟩:=h1 (IntKind.i64.wrap (most-n));simp[kA,Tryz.f83,r2];rw[ah];simp[hm,oO];generalize IntKind.i64.wrap (n+m)=n2;obtain⟨m2,d2,jt⟩:=hc (IntKind.i64.wrap (most-n2));rw[ah];simp[jt,oO,w12];rw[ah];simp[hQ]
end
section
variable {x:Sm} {v:Nat} {k:Kt} {Q:bP→Prop} {a b:AV} {most:Int}
theorem ssB(n d:Int)(c1 c2 c3 c4:AV)
 (hQ:∀(n:Int),Q (k .normal ⟨136,aC,[(0,true,a),(1,true,.d (.int .i64 most)),(6,true,.d (.int .i64 n)),(7,true,.d (.int .i64 d)),(8,true,b),(9,true,.ptr 550 v 0)],[⟨550,v,bh x⟩]⟩)):
 Q (aI ctx 83 (kA [1,1,0,1,0,0,1,0,0,1,1,1,0]) ⟨136,aC,[(0,true,a),(1,true,.d (.int .i64 most)),(6,true,.d (.int .i64 n)),(7,true,.d (.int .i64 d)),(8,true,b),(9,true,.ptr 550 v 0),(42,true,c1),(43,true,c2),(44,true,c3),(45,true,c4)],[⟨550,v,bh x⟩]⟩ k):=by
 simp only[bh]at hQ;simp[kA,Tryz.f83];apply hQ
theorem Hx(hl:(dW x).length<100000000)(d:Int)
 (hQ:∀(n:Int)(c1 c2:AV),Q (k (.exit 4) ⟨136,aC,[(0,true,a),(1,true,.d (.int .i64 most)),(6,true,.d (.int .i64 n)),(7,true,.d (.int .i64 d)),(8,true,b),(9,true,.ptr 550 v 0),(14,true,c1),(88,true,c2)],[⟨550,v,bh x⟩]⟩)):∀(rest pre:List (List Int))(n:Int),dW x=pre++rest→
 Q (aI ctx 83 (.loop (kA [1,1,0,1,0,0,1,0,0,1,1,1,1,0,1,0,0])) ⟨136,aC,[(0,true,a),(1,true,.d (.int .i64 most)),(6,true,.d (.int .i64 n)),(7,true,.d (.int .i64 d)),(8,true,b),(9,true,.ptr 550 v 0),(14,true,.d (.int .i64 pre.length))],[⟨550,v,bh x⟩]⟩ k)
 |[],pre,n,hd=>by
  have cm:pre.length=(dW x).length:=by rw[hd];simp
  simp only[bh]at hQ;rw[cm,ah];simp[kA,Tryz.f83,hQ]
 |c::rest,pre,n,hd=>by
  have aV:pre.length<(dW x).length:=by rw[hd];simp
  have aW:(dW x)[pre.length]=c:=by simp[hd]
  have ih:=fun n=>Hx hl d hQ rest (pre++[c]) n (by simp[hd]);have w1:IntKind.i64.wrap ((pre.length:Int)+1)=(pre.length:Int)+1:=aw (by unfold aY;omega);simp only[bh]at hQ;rw[ah];by_cases hn:n≤most
  ·simp[kA,Tryz.f83]at ih⊢;simp[aV,aW,hn,mq,w1];apply ih
  ·simp[kA,Tryz.f83];simp[aV,hn,hQ]
theorem Hy(hl:(bB x).length<100000000)(hK:∀c∈bB x,SS c)
 (hQ:∀(n d:Int)(c1 c2:AV),Q (k (.exit 6) ⟨136,aC,[(0,true,a),(1,true,.d (.int .i64 most)),(6,true,.d (.int .i64 n)),(7,true,.d (.int .i64 d)),(8,true,b),(9,true,.ptr 550 v 0),(15,true,c1),(111,true,c2)],[⟨550,v,bh x⟩]⟩)):∀(rest pre:List (List Sm))(n d:Int),bB x=pre++rest→
 Q (aI ctx 83 (.loop (kA [1,1,0,1,0,0,1,0,0,1,1,1,1,1,1,0,0])) ⟨136,aC,[(0,true,a),(1,true,.d (.int .i64 most)),(6,true,.d (.int .i64 n)),(7,true,.d (.int .i64 d)),(8,true,b),(9,true,.ptr 550 v 0),(15,true,.d (.int .i64 pre.length))],[⟨550,v,bh x⟩]⟩ k)
 |[],pre,n,d,hd=>by
  have cm:pre.length=(bB x).length:=by rw[hd];simp
  simp only[bh]at hQ;rw[cm,ah];simp[kA,Tryz.f83,hQ]
 |c::rest,pre,n,d,hd=>by
  have aV:pre.length<(bB x).length:=by rw[hd];simp
  have aW:(bB x)[pre.length]=c:=by simp[hd]
  have ih:=fun n d=>Hy hl hK hQ rest (pre++[c]) n d (by simp[hd]);obtain⟨m,d',hm⟩:=hK c (by rw[hd];simp) (IntKind.i64.wrap (most-n));have w1:IntKind.i64.wrap ((pre.length:Int)+1)=(pre.length:Int)+1:=aw (by unfold aY;omega);simp only[bh]at hQ;rw[ah];by_cases hn:n≤most
  ·simp[kA,Tryz.f83]at ih⊢;simp[aV,aW,hn,dc,hm,w1];apply ih
  ·simp[kA,Tryz.f83];simp[aV,hn,hQ]
theorem adW(hx:uN x)(hK:∀c∈bB x,SS c)(n d:Int)
 (hQ:∀(n d:Int)(c1 c2:AV),Q (k .normal ⟨136,aC,[(0,true,a),(1,true,.d (.int .i64 most)),(6,true,.d (.int .i64 n)),(7,true,.d (.int .i64 d)),(8,true,b),(9,true,.ptr 550 v 0),(15,true,c1),(111,true,c2)],[⟨550,v,bh x⟩]⟩)):
 Q (aI ctx 83 (kA [1,1,0,1,0,0,1,0,0,1,1]) ⟨136,aC,[(0,true,a),(1,true,.d (.int .i64 most)),(6,true,.d (.int .i64 n)),(7,true,.d (.int .i64 d)),(8,true,b),(9,true,.ptr 550 v 0)],[⟨550,v,bh x⟩]⟩ k):=by
 obtain⟨ht,hv,⟨hc,oC⟩,⟨s7,adM⟩,hf,gx⟩:=hx;have e1:kA [1,1,0,1,0,0,1,0,0,1,1]=Code.seq (kA [1,1,0,1,0,0,1,0,0,1,1,0]) (kA [1,1,0,1,0,0,1,0,0,1,1,1]):=rfl;have e2:kA [1,1,0,1,0,0,1,0,0,1,1,1]=Code.seq (kA [1,1,0,1,0,0,1,0,0,1,1,1,0]) (kA [1,1,0,1,0,0,1,0,0,1,1,1,1]):=rfl;rw[e1,denK_seq];apply ssA (SI (l:=[eD x,dF x]) (by simp) ⟨ht,hv,trivial⟩) (SI hc oC);intro n d c1 c2 c3 c4;rw[seqK_n,e2,denK_seq];apply ssB;intro n;rw[seqK_n];have hL:=fun k Q hQ=>Hx (a:=a) (b:=b) (v:=v) (most:=most) (k:=k) (Q:=Q) s7 d hQ (dW x) [] n rfl;simp[kA,Tryz.f83]at hL⊢;apply hL;intro n c1 c2;have hB:=fun k Q hQ=>Hy (a:=a) (b:=b) (v:=v) (most:=most) (k:=k) (Q:=Q) gx hK hQ (bB x) [] n d rfl;simp[kA,Tryz.f83]at hB⊢;apply hB;intro n d c1 c2;simp only[bh]at hQ;simp[hQ]
end
theorem MD(l:List Sm)(bm:l.length<100000000)(hS:∀x∈l,uN x)(hK:∀x∈l,∀c∈bB x,SS c)(most:Int)(k:Kt)(Q:bP→Prop)
 (h2:∀(n d:Int)(b c:AV) v X,Q (k (.exit 0) ⟨136,aC,[(0,true,.d (.list (l.map b5))),(1,true,.d (.int .i64 most)),(6,true,.d (.int .i64 n)),(7,true,.d (.int .i64 d)),(8,true,b),(26,true,c)],[⟨550,v,X⟩]⟩)):∀(rest pre:List Sm)(n d:Int)(v:Nat)(X:aE),l=pre++rest→
 Q (aI ctx 83 (.loop (kA [1,1,0,1,0,0])) ⟨136,aC,[(0,true,.d (.list (l.map b5))),(1,true,.d (.int .i64 most)),(6,true,.d (.int .i64 n)),(7,true,.d (.int .i64 d)),(8,true,.d (.int .i64 pre.length))],[⟨550,v,X⟩]⟩ k)
 |[],pre,n,d,v,X,hd=>by
  have cm:pre.length=l.length:=by rw[hd];simp
  rw[cm,ah];simp[kA,Tryz.f83,h2]
 |x::rest,pre,n,d,v,X,hd=>by
  have aV:pre.length<l.length:=by rw[hd];simp
  have aW:l[pre.length]=x:=by simp[hd]
  have hm:x∈l:=by rw[hd];simp
  have hb:=fun (v:Nat) (a b:AV) (k:Kt) (Q:bP→Prop) (n d:Int)=>adW (v:=v) (a:=a) (b:=b) (most:=most) (k:=k) (Q:=Q) (hS x hm) (hK x hm) n d;have ih:=fun n d v X=>MD l bm hS hK most k Q h2 rest (pre++[x]) n d v X (by simp[hd]);have w1:IntKind.i64.wrap ((pre.length:Int)+1)=(pre.length:Int)+1:=aw (by unfold aY;omega);rw[ah];by_cases hn:n≤most
  ·simp[kA,Tryz.f83]at hb ih⊢;simp[aV,aW,hn,eI];apply hb;intro n d c1 c2;simp[w1,ih]
  ·simp[kA,Tryz.f83];simp[aV,hn,h2]
theorem adX{l:List Sm}(bm:l.length<100000000)(hS:∀x∈l,uN x)(hK:∀x∈l,∀c∈bB x,SS c):SS l:=by
 intro most;have h:=fun k Q h2 v X=>MD l bm hS hK most k Q h2 l [] 0 0 v X rfl;rw[ahP (by simp)];simp[kA,Tryz.f83]at h⊢;apply h _ (fun A=>∃n d:Int,A=some (.ret (.aU [.d (.int .i64 n),.d (.int .i64 d)]),[]));intro n d b c v X;simp
mutual
theorem aoW:∀x:Sm,yr x→uN x∧∀c∈bB x,SS c
 | .mk op name to val conds labels fields blocks line,h=>by
  have h:=(YH _).1 h;exact⟨h.1,YK blocks h.2⟩
theorem Fu:∀l:List Sm,lh l→∀x∈l,uN x∧∀c∈bB x,SS c
 |[],_,x,hx=>by simp at hx
 |y::r,h,x,hx=>by
  simp only[lh]at h;have h1:=aoW y h.1;have h2:=Fu r h.2;rcases List.mem_cons.1 hx with e|hx
  ·rw[e];exact h1
  ·exact h2 x hx
theorem YK:∀l:List (List Sm),nc l→∀c∈l,SS c
 |[],_,c,hc=>by simp at hc
 |b::r,h,c,hc=>by
  simp only[nc]at h;have h1:=Fu b h.1.2;have h2:=YK r h.2;rcases List.mem_cons.1 hc with e|hc
  ·rw[e];exact adX h.1.1 (fun x hx=>(h1 x hx).1) (fun x hx=>(h1 x hx).2)
  ·exact h2 c hc
end
theorem adY{l:List Sm}(bm:l.length<100000000)(h:lh l):SS l:=
 adX bm (fun x hx=>(Fu l h x hx).1) (fun x hx=>(Fu l h x hx).2)
theorem adZ{p:Pg}(hb:p.body.length<100000000)(hl:lh p.body)(most:Int):∃n d:Int,ai ctx 43 [.d (.agg [.str p.name,.list (p.vars.map bF),.list (p.body.map b5)]),.d (.int .i64 most)] []=some (.ret (.aU [.d (.int .i64 n),.d (.int .i64 d)]),[]):=by
 obtain⟨n,d,h⟩:=adY hb hl most;rw[ahC (by simp)];simp[Tryz.f43,h]
theorem Zw{p:Pg}(hb:p.body.length<100000000)(hl:lh p.body):∃B:Bool,ai ctx 17 [.d (.agg [.str p.name,.list (p.vars.map bF),.list (p.body.map b5)])] []=some (.ret (.d (.bool B)),[]):=by
 obtain⟨n,d,h⟩:=adZ hb hl 2000;rw[ahv (by simp)];simp[Tryz.f17,h]
end Go.Am
end
section
namespace Go.Am
open Go Go.ChangeShapes Go.WideShapes Go.RowKit
def ze(P:Program)(ok:TypeId→Bool):List Field→Nat→Nat→Bool
 |[],o,tot=>o == tot
 |f::r,o,tot=>f.offset == o&&ok f.type&&ze P ok r (o+P.cellsOf f.type) tot
def typed(P:Program):Nat→TypeId→D→Prop
 |0,_,_=>False
 |n+1,t,d=>match P.underlying t with
  |some .bool=>∃b,d=.bool b
  |some (.int k)=>∃z,d=.int k z∧(Lit.int k z).wf=true
  |some .string=>∃s,d=.str s∧s.length≤maxLen
  |some (.slice e)=>∃xs,d=.list xs∧xs.length≤maxLen∧∀x∈xs,typed P n e x
  |some (.struct fs)=>∃ys:List D,d=.agg (ys.flatMap D.cells)∧ys.length=fs.size∧∀(i:Nat)(f:Field)(y:D),fs[i]?=some f→ys[i]?=some y→typed P n f.type y
  |_=>False
def Reads(w:World)(F:Nat→Prop)(d:D)(cs:List Value):Prop:=
 d.cells.length=cs.length∧(∀u∈cs,cv u=true)∧∀(i:Nat) c u,d.cells[i]?=some c→cs[i]?=some u→aK w F c u∧c.flat=true
theorem Reads.one{w F d v}(h:aK w F d v)(hf:d.flat=true)(hc:d.cells=[d]):Reads w F d [v]:=by
 refine⟨by rw[hc];rfl,fun u hu=>?_,fun i c u h1 h2=>?_⟩
 ·simp at hu;subst hu;exact h.one hf
 ·rw[hc]at h1;cases i with
  |zero=>simp at h1 h2;subst h1;subst h2;exact⟨h,hf⟩
  |succ i=>simp at h1
def shaped(d:D)(cs:List Value):Value:=
 match d with
 | .agg _=>.agg cs.toArray
 |_=>cs.headD undef
theorem Reads.rel{w F d cs}(h:Reads w F d cs):aK w F d (shaped d cs):=by
 obtain⟨h1,h2,h3⟩:=h;have key:d.flat=true→d.cells=[d]→aK w F d (cs.headD undef):=by
  intro hf hc;rw[hc]at h1 h3;match cs,h1 with
  |[u],_=>exact (h3 0 d u rfl rfl).1
 cases d with
 |agg ds=>exact aK.nj h1 h2 (fun i c v hc hv=>(h3 i c v hc hv).1)
 |_=>exact key rfl rfl
theorem Reads.Hz{w F d cs}(h:Reads w F d cs):(shaped d cs).cells.toList=cs:=by
 obtain⟨h1,h2,h3⟩:=h;have key:d.cells=[d]→(cs.headD undef).cells.toList=cs:=by
  intro hc;rw[hc]at h1;match cs,h1,h2 with
  |[u],_,h2=>simp only[List.headD];rw[dN (h2 u (by simp))]
 cases d with
 |agg ds=>simp[shaped,Value.cells]
 |_=>exact key rfl
theorem Ct{w:World}{base:Nat}{a:Addr}{n:Nat}{cs:List Value}(h:w.cells? base a n=some cs):cs.length=n∧∀j,j<n→w.cell? (a.add j)=cs[j]?:=by
 unfold World.cells? at h;split at h
 ·exact⟨by simpa using mapM_some_length h,fun j hj=>mapM_some_get h j j (by simp[hj])⟩
 ·cases h
theorem add_add{b off n j:Nat}:(Addr.add (Addr.add ⟨b,off,none⟩ n) j)=⟨b,off+n+j,none⟩:=by
 unfold Addr.add;split<;>split<;>simp_all
theorem AP{w:World}{a:Addr}{c:Value}(h:w.cell? a=some c):a.block<w.heap.size∧a.spot=none:=by
 unfold World.cell? at h;split at h
 ·rename_i hh;refine⟨(Array.getElem?_eq_some_iff.1 hh).1,?_⟩;split at h
  ·cases h
  ·rename_i hs;simpa using hs
 ·cases h
section
variable {H:Type} {enc:TypeId×Value→H} {P:Program} {w:World} {base:Nat} {sp:Nat→Bool} {held:Bool}
end
section
variable {H:Type} {enc:TypeId×Value→H} {P:Program} {w:World} {base:Nat} {sp:Nat→Bool} {held:Bool}
theorem wP(hl:laidOutB P=true){W W':World}(hb:Below W.heap.size W W'):∀{ts:List TypeId}{vs:List Value}{ds:List (DataW H)}{ps:List MemPlace},DataW.TrodAll enc P W 0 (fun _=>true) true ts vs ds ps→
 (∀t∈ts,P.readableRec t=true∧t<P.types.size)→(∀x∈ps,x.block<W.heap.size)→DataW.TrodAll enc P W' 0 (fun b=>decide (b<W.heap.size)) true ts vs ds ps
 |[],[],[],_,h,_,_=>h
 |t::ts,v::vs,d::ds,ps,h,hp,bn=>by
  obtain⟨p,q,h1,h2,rfl⟩:=h;exact⟨p,q,Below.trod hl (hp t (by simp)).1 (hp t (by simp)).2 h1 hb (fun x hx=>bn x (by simp[hx])),wP hl hb h2 (fun t ht=>hp t (by simp[ht])) (fun x hx=>bn x (by simp[hx])),rfl⟩
 |[],_::_,_,_,h,_,_=>by cases h
 |[],[],_::_,_,h,_,_=>by cases h
 |_::_,[],_,_,h,_,_=>by cases h
 |_::_,_::_,[],_,h,_,_=>by cases h
end
section
variable {P:Program} {n:Nat} {t:TypeId} {d:D}
def zh(P:Program)(n:Nat):List Field→List D→Prop
 |[],ds=>ds=[]
 |f::r,ds=>∃y iW,typed P n f.type y∧zh P n r iW∧ds=y.cells++iW
theorem Cu:∀{fs:List Field}{ys:List D},ys.length=fs.length→(∀(i:Nat)(f:Field)(y:D),fs[i]?=some f→ys[i]?=some y→typed P n f.type y)→zh P n fs (ys.flatMap D.cells)
 |[],[],_,_=>rfl
 |f::fs,y::ys,h,hf=>⟨y,ys.flatMap D.cells,hf 0 f y rfl rfl,Cu (by simpa using h) (fun i f y h1 h2=>hf (i+1) f y (by simpa using h1) (by simpa using h2)),by simp⟩
theorem SJ{k:IntKind}(ht:P.underlying t=some (.int k))(h:typed P (n+1) t d):∃z,d=.int k z∧(Lit.int k z).wf=true:=by simpa only[typed,ht]using h
theorem PO(ht:P.underlying t=some .bool)(h:typed P (n+1) t d):∃b,d=.bool b:=by simpa only[typed,ht]using h
theorem HA(ht:P.underlying t=some .string)(h:typed P (n+1) t d):∃s,d=.str s∧s.length≤maxLen:=by simpa only[typed,ht]using h
theorem Jp{e:TypeId}(ht:P.underlying t=some (.slice e))(h:typed P (n+1) t d):∃xs,d=.list xs∧xs.length≤maxLen∧∀x∈xs,typed P n e x:=by simpa only[typed,ht]using h
theorem HD{fs:Array Field}(ht:P.underlying t=some (.struct fs))(h:typed P (n+1) t d):∃ds,d=.agg ds∧zh P n fs.toList ds:=by
 simp only[typed,ht]at h;obtain⟨ys,rfl,h1,h2⟩:=h;exact⟨_,rfl,Cu (by simpa using h1) (fun i f y h3 h4=>h2 i f y (by simpa using h3) h4)⟩
end
def ad1(X:Ctx):Bool:=
 (List.range X.P.funcs.size).all (fun g=>match X.P.funcs[g]? with|some fn=>fn.name != "runtime.NumGoroutine" &&(match fn.body with|some c=>eo X g fn.ntmps c|none=>true)|none=>true)&&X.P.follows .mixedOrders&&X.ov.isNone
def pL(X:Ctx)(g:FuncId)(h:List AV→Option AV):Prop:=gC X.P g=true∧∀(B0:List AV)(a:AV),h B0=some a→∀(φ:bM)(F:Nat→Prop)(w:World)(vs:Array Value),eF w F X.gl→(∀b,F b→b<w.heap.size)→B0.length=vs.size→
 (∀(i:Nat) x v,B0[i]?=some x→vs[i]?=some v→aB φ w F x v)→Calls X.P g vs w fun e w'=>∃v,e=.returned v∧Below w.heap.size w w'∧aB φ w' F a v
theorem pL.lift{X:Ctx}{g:FuncId}{h:List D→Option D}(hh:gC X.P g=true∧∀(ds:List D) (d:D),h ds=some d→∀(F:Nat→Prop) (w:World) (vs:Array Value),eF w F X.gl→(∀b,F b→b<w.heap.size)→ds.length=vs.size→
 (∀(i:Nat) x v,ds[i]?=some x→vs[i]?=some v→aK w F x v)→Calls X.P g vs w fun e w'=>∃v,e=.returned v∧Below w.heap.size w w'∧aK w' F d v):pL X g (liftO h):=by
 refine⟨hh.1,fun B0 a ha φ F w vs ck mj hl hr=>?_⟩;unfold liftO at ha;cases jk:gg B0 with
 |none=>rw[jk]at ha;cases ha
 |some ds=>
  rw[jk]at ha;obtain⟨d,hd,rfl⟩:=Option.map_eq_some_iff.1 ha;have he:=JT jk;subst he;refine (hh.2 ds d hd F w vs ck mj (by simpa using hl) (fun i x v hx hv=>?_)).mono ?_
  ·have:=hr i (.d x) v (by simp[hx]) hv;cases this with|d _ _ h=>exact h
  ·rintro e w' ⟨v,rfl,hb,hv⟩;exact⟨v,rfl,hb,.d _ _ hv⟩
theorem jy.of{X:Ctx}(h:ad1 X=true)(ho:∀g h,X.wJ g=some h→pL X g h):jy X:=by
 simp only[ad1,Bool.and_eq_true,List.all_eq_true,List.mem_range]at h;have key:∀(g:FuncId)(fn:Func),X.P.funcs[g]?=some fn→fn.name≠ "runtime.NumGoroutine" ∧(match fn.body with|some c=>eo X g fn.ntmps c|none=>true)=true:=by
  intro g fn hg;have h1:=h.1.1 g (Array.getElem?_eq_some_iff.1 hg).1;rw[hg]at h1;simpa using h1
 refine⟨by simpa using h.2,fun g fn hg=>(key g fn hg).1,fun g fn c hg hb=>?_,h.1.2,ho⟩;have:=(key g fn hg).2;rw[hb]at this;exact this
theorem tZ{α:Type}{f:α→D}:∀{xs:List D},(∀x∈xs,∃r,x=f r)→∃rs:List α,xs=rs.map f
 |[],_=>⟨[],rfl⟩
 |x::xs,h=>by
  obtain⟨r,rfl⟩:=h x (by simp);obtain⟨rs,rfl⟩:=tZ (xs:=xs) (fun y hy=>h y (by simp[hy]));exact⟨r::rs,rfl⟩
def fr0:Fr:=⟨fun _=>False,[]⟩
theorem SK{X:Ctx}(hX:jy X){f:FuncId}{b:Bool}{xs:List D}(hc:ai X f (xs.map .d) []=some (.ret (.d (.bool b)),[])){W:World}{args:Array Value}(hl:xs.length=args.size)
 (hr:∀(i:Nat) x v,xs[i]?=some x→args[i]?=some v→aK W (fun _=>False) x v) (hg:eF W (fun _=>False) X.gl):
 Calls X.P f args W fun e W'=>e=.returned (.bool b)∧Below W.heap.size W W':=by
 have h:=(Ux hX f _ _ _ _ hc).2;have hF:∀b,Fo fr0 (fun _=>none) (inM 0 []) b→False:=by
  intro b hb;rcases hb with hb|⟨e,he,_⟩
  ·exact hb
  ·simp[inM]at he
 refine (h (fun _=>none) fr0 W args ⟨by simp[inM],fun k L hL=>by simp at hL,fun e he=>by simp[inM]at he,fun e he=>by simp[inM]at he,fun b ⟨e,he,_⟩=>by simp[inM]at he,fun b hb=>hb.elim⟩
  (hg.mono (fun _ _ _=>rfl) (Nat.le_refl _) (fun b _ hb=>hF b hb)) (by simpa using hl) (fun i x v hx hv=>?_)).mono ?_
 ·simp only[List.getElem?_map,Option.map_eq_some_iff]at hx;obtain⟨d,hd,rfl⟩:=hx;exact .d d v ((hr i d v hd hv).mono (fun _ _ _=>rfl) (Nat.le_refl _) (fun b _ hb=>hF b hb))
 ·rintro e W' ⟨φ',m',out,⟨rfl,rfl⟩,hm,hk,ho⟩;refine⟨?_,hk.os,hk.tape,hk.output,hk.size,fun k aN=>hk.wV k aN (fun ⟨e,he,_⟩=>by simp[inM]at he)⟩;cases e with
  |returned v=>
   simp only[mJ]at ho;cases ho with
   |d x v h=>cases h;rfl
  |_=>exact ho.elim
section
variable {H:Type} {enc:TypeId×Value→H}
end
def yt(P:Program)(L:List TypeId):Bool:=L.all fun t=>match P.underlying t with
 |some .bool|some (.int _)|some .string=>P.cellsOf t == 1
 |some (.slice e)=>P.cellsOf t == 1&&L.contains e&&decide (1≤P.cellsOf e)
 |some (.struct fs)=>ze P (fun t=>L.contains t) fs.toList 0 (P.cellsOf t)
 |_=>false
theorem Ez{P:Program}{L:List TypeId}{t:TypeId}(h:yt P L=true)(ht:L.contains t=true):(match P.underlying t with
 |some .bool|some (.int _)|some .string=>P.cellsOf t == 1
 |some (.slice e)=>P.cellsOf t == 1&&L.contains e&&decide (1≤P.cellsOf e)
 |some (.struct fs)=>ze P (fun t=>L.contains t) fs.toList 0 (P.cellsOf t)
 |_=>false)=true:=List.all_eq_true.1 h t (by simpa using ht)
section
variable {H:Type} {enc:TypeId×Value→H} {P:Program} {w:World} {base:Nat} {sp:Nat→Bool} {held:Bool}
end
section
variable {H:Type} {enc:TypeId×Value→H}
end
mutual
def dH:D→Nat
 | .str s=>s.length+1
 | .list xs=>bG xs+1
 | .agg cs=>bG cs+1
 |_=>1
def bG:List D→Nat
 |[]=>0
 |x::r=>dH x+bG r
end
mutual
def hY{H:Type}:DataW H→Nat
 | .lit (.string bytes)=>bytes.length+1
 | .slice elems _=>gd elems+1
 | .agg parts=>gd parts+1
 |_=>1
def gd{H:Type}:List (DataW H)→Nat
 |[]=>0
 |d::r=>hY d+gd r
end
theorem pf:∀l r:List D,bG (l++r)=bG l+bG r
 |[],r=>by simp[bG]
 |x::l,r=>by simp[bG,pf l r,Nat.add_assoc]
theorem PQ(x:D):bG x.cells≤dH x:=by
 cases x<;>simp[D.cells,bG,dH]
theorem ad2(x:D):1≤dH x:=by cases x<;>simp[dH]
theorem lQ:∀l:List D,l.length≤bG l
 |[]=>by simp
 |x::r=>by have:=lQ r;have:=ad2 x;simp only[bG,List.length_cons];omega
theorem HE:∀{l:List D}{x:D},x∈l→dH x≤bG l
 |y::r,x,h=>by
  rcases List.mem_cons.1 h with rfl|h
  ·simp only[bG];omega
  ·have:=HE h;simp only[bG];omega
theorem ME{H:Type}:∀(l:List D)(ds:List (DataW H)),l.length=ds.length→(∀(i:Nat) x d,l[i]?=some x→ds[i]?=some d→dH x≤hY d)→bG l≤gd ds
 |[],[],_,_=>Nat.le_refl _
 |x::l,d::ds,h,hi=>by
  have h1:=hi 0 x d rfl rfl;have h2:=ME l ds (by simpa using h) (fun i y e hy he=>hi (i+1) y e (by simpa using hy) (by simpa using he));simp only[bG,gd];omega
 |[],_::_,h,_=>by simp at h
 |_::_,[],h,_=>by simp at h
theorem wQ{H:Type}{P:Program}{w:World}{F:Nat→Prop}{n:Nat}{cs:List Value}{ok:TypeId→Bool}:∀(fs:List Field)(ws:List (DataW H))(o:Nat),ze P ok fs o cs.length=true→ws.length=fs.length→
 (∀(i:Nat) f e,fs[i]?=some f→ws[i]?=some e→ok f.type=true→∃d,typed P n f.type d∧Reads w F d ((cs.drop f.offset).take (P.cellsOf f.type))∧d.cells.length=P.cellsOf f.type∧dH d≤hY e)→
 ∃ys:List D,ys.length=fs.length∧(∀(i:Nat)(f:Field)(y:D),fs[i]?=some f→ys[i]?=some y→typed P n f.type y)∧o≤cs.length∧Reads w F (.agg (ys.flatMap D.cells)) (cs.drop o)∧bG (ys.flatMap D.cells)≤gd ws
 |[],[],o,ht,_,_=>by
  simp only[ze,beq_iff_eq]at ht;subst ht;exact⟨[],rfl,fun i f y hf=>by simp at hf,Nat.le_refl _,⟨by simp[D.cells],by simp,fun i c u h1=>by simp[D.cells]at h1⟩,by simp[bG,gd]⟩
 |f::r,e::ws,o,ht,hw,hf=>by
  simp only[ze,Bool.and_eq_true,beq_iff_eq]at ht;obtain⟨⟨rfl,cQ⟩,hr⟩:=ht;obtain⟨ys,h1,h2,h3,h4,h5⟩:=wQ r ws _ hr (by simpa using hw) (fun i f' e' hi he=>hf (i+1) f' e' (by simpa using hi) (by simpa using he));obtain⟨d,hd,hR,hl,HF⟩:=hf 0 f e rfl rfl cQ;refine⟨d::ys,by simp[h1],fun i f' y hi hy=>?_,by omega,?_,?_⟩
  ·cases i with
   |zero=>simp at hi hy;subst hi;subst hy;exact hd
   |succ i=>simp at hi hy;exact h2 i f' y hi hy
  ·have FY:cs.drop f.offset=(cs.drop f.offset).take (P.cellsOf f.type)++cs.drop (f.offset+P.cellsOf f.type):=by
    rw[←List.drop_drop,List.take_append_drop]
   obtain⟨a1,a2,a3⟩:=hR;obtain⟨b1,b2,b3⟩:=h4;have ad3:(D.agg ((d::ys).flatMap D.cells)).cells=d.cells++(D.agg (ys.flatMap D.cells)).cells:=by simp[D.cells]
   rw[FY];unfold Reads;rw[ad3];refine⟨by simp only[List.length_append,a1,b1],fun u hu=>?_,fun i c u hc hu=>?_⟩
   ·rcases List.mem_append.1 hu with hu|hu
    ·exact a2 u hu
    ·exact b2 u hu
   ·by_cases hi:i<d.cells.length
    ·rw[List.getElem?_append_left hi]at hc;rw[List.getElem?_append_left (by omega)]at hu;exact a3 i c u hc hu
    ·rw[List.getElem?_append_right (by omega)]at hc;rw[List.getElem?_append_right (by omega)]at hu;rw[←a1]at hu;exact b3 _ c u hc hu
  ·have hc:=PQ d;simp only[List.flatMap_cons,pf,gd];omega
 |[],_::_,_,_,h,_=>by simp at h
 |_::_,[],_,_,h,_=>by simp at h
section
variable {H:Type} {enc:TypeId×Value→H} {P:Program} {w:World} {base:Nat} {sp:Nat→Bool} {held:Bool}
theorem vX{L:List TypeId}(hL:yt P L=true):∀(m:Nat)(t:TypeId)(cs:List Value)(x:DataW H×List MemPlace),L.contains t=true→DataW.trod enc P w base sp held m t cs=some x→
 ∃d,typed P (m+1) t d∧Reads w (fun _=>False) d cs∧d.cells.length=P.cellsOf t∧dH d≤hY x.1
 |m,t,cs,x,hp,hx=>by
  have hp:=Ez hL hp;simp only[typed];cases ht:P.underlying t with
  |none=>rw[ht]at hp;cases hp
  |some u=>
   rw[ht]at hp;cases u with
   |bool=>
    obtain⟨b,rfl,rfl⟩:=DataW.trod_bool ht hx;exact⟨.bool b,⟨b,rfl⟩,Reads.one (.bool b) rfl rfl,by simp at hp;simp[D.cells,hp],by simp[dH,hY]⟩
   |int k=>
    obtain⟨z,rfl,rfl,hw⟩:=DataW.trod_int ht hx;exact⟨.int k z,⟨z,rfl,hw⟩,Reads.one (.int k z) rfl rfl,by simp at hp;simp[D.cells,hp],by simp[dH,hY]⟩
   |string=>
    obtain⟨s,rfl,rfl,hw⟩:=DataW.trod_string ht hx;exact⟨.str s.data.toList,⟨_,rfl,by simpa using hw⟩,Reads.one (.str s _ rfl) rfl rfl,by simp at hp;simp[D.cells,hp],by simp[dH,hY]⟩
   |slice e=>
    simp only[Bool.and_eq_true,beq_iff_eq,decide_eq_true_eq]at hp;obtain⟨⟨h1,h2⟩,h3⟩:=hp;rcases DataW.trod_slice ht hx with ⟨rfl,rfl⟩|⟨a,len,cap,elems,rest,m',rfl,rfl,rfl,hb,fU,s8,hel,oR,_⟩
    ·exact⟨.list [],⟨[],rfl,by simp,by simp⟩,Reads.one (.nil none 0 (fun _=>rfl)) rfl rfl,by simp[D.cells,h1],by simp[dH,bG,hY]⟩
    ·have hq:∀i,∃p:D×Value,i<len→typed P (m'+1) e p.1∧aK w (fun _=>False) p.1 p.2∧p.1.size=P.cellsOf e∧a.block<w.heap.size∧a.spot=none∧
      (∀j c,p.2.cells[j]?=some c→w.cell? ⟨a.block,a.off+i*P.cellsOf e+j,none⟩=some c)∧∀q,elems[i]?=some q→dH p.1≤hY q.1:=by
      intro i;by_cases hi:i<len
      ·have h4:=oR i hi;have h5:∃y,elems[i]?=some y:=⟨elems[i]'(by omega),by simp[show i<elems.length by omega]⟩
       obtain⟨y,hy⟩:=h5;rw[hy]at h4;simp only[Option.bind_eq_some_iff]at h4;obtain⟨ll,kO,nO⟩:=h4;obtain⟨d,hd,hR,hl,HF⟩:=vX hL m' e ll y h2 nO;obtain⟨g1,g2⟩:=Ct kO;have g3:a.block<w.heap.size∧a.spot=none:=by
        have h0:∃i0,i0<len∧i0=0:=⟨0,by omega,rfl⟩;have h40:=oR 0 (by omega);have YL:∃y,elems[0]?=some y:=⟨elems[0]'(by omega),by simp[show 0<elems.length by omega]⟩
        obtain⟨y0,JB⟩:=YL;rw[JB]at h40;simp only[Option.bind_eq_some_iff]at h40;obtain⟨iF,aoX,_⟩:=h40;obtain⟨g01,g02⟩:=Ct aoX;have h6:=g02 0 (by omega);have h7:∃c,iF[0]?=some c:=⟨iF[0]'(by omega),by simp[show 0<iF.length by omega]⟩
        obtain⟨c,hc⟩:=h7;rw[hc]at h6;have h8:=AP h6;simpa [Addr.add]using h8
       refine⟨⟨d,shaped d ll⟩,fun _=>⟨hd,hR.rel,by rw[←D.fO];exact hl,g3.1,g3.2,fun j c hj=>?_,fun q hq=>by rw[hy]at hq;cases hq;exact HF⟩⟩;have h6:=hR.Hz;have h7:ll[j]?=some c:=by rw[←h6];simpa using hj
       have gP:j<P.cellsOf e:=by
        have:=(List.getElem?_eq_some_iff.1 h7).1;omega
       have h8:=g2 j gP;obtain⟨ab,ao,ae⟩:=a;obtain rfl:ae=none:=g3.2;rw[add_add]at h8;rw[h8];exact h7
      ·exact⟨⟨.bool false,undef⟩,fun h=>absurd h hi⟩
     obtain⟨f,hf⟩:=Classical.axiomOfChoice hq;refine⟨.list ((List.range len).map fun i=>(f i).1),⟨_,rfl,by simp;omega,fun x hx=>?_⟩,Reads.one ?_ rfl rfl,by simp[D.cells,h1],?_⟩
     ·simp only[List.mem_map,List.mem_range]at hx;obtain⟨i,hi,rfl⟩:=hx;exact (hf i hi).1
     ·by_cases hl:len=0
      ·subst hl;exact .nil (some a) cap (fun h=>by cases h)
      ·have h0:=hf 0 (by omega);obtain⟨ab,ao,ae⟩:=a;obtain rfl:ae=none:=h0.2.2.2.2.1;have hlen:((List.range len).map fun i=>(f i).1).length=len:=by simp
       have:=aK.list (w:=w) (F:=fun _=>False) ((List.range len).map fun i=>(f i).1) ab ao cap (P.cellsOf e) (fun i=>(f i).2) (by rw[hlen];exact fU) h0.2.2.2.1 (fun h=>h)
        (fun d hd=>by
         simp only[List.mem_map,List.mem_range]at hd;obtain⟨i,hi,rfl⟩:=hd;exact (hf i hi).2.2.1)
        (fun i d hd=>by
         simp only[List.getElem?_map,Option.map_eq_some_iff]at hd;obtain⟨i',lB,rfl⟩:=hd;have:=List.getElem?_eq_some_iff.1 lB;obtain⟨sA,hi3⟩:=this;simp at sA hi3;subst hi3;exact (hf _ sA).2.1)
        (fun i j c hi hj=>by
         rw[hlen]at hi;exact (hf i hi).2.2.2.2.2.1 j c hj)
       rw[hlen]at this;exact this
     ·simp only[dH,hY];refine Nat.succ_le_succ (ME _ _ (by simp;omega) fun i x d hx hd=>?_);simp only[List.getElem?_map,Option.map_eq_some_iff]at hx hd;obtain⟨j,hj,rfl⟩:=hx;obtain⟨q,hq,rfl⟩:=hd;obtain⟨zR,hj3⟩:=List.getElem?_eq_some_iff.1 hj;simp at zR hj3;subst hj3;exact (hf i zR).2.2.2.2.2.2 q hq
   |struct fs=>
    obtain⟨xs,m',rfl,rfl,hl,mK,oR⟩:=DataW.trod_struct ht hx;simp only at hp;rw[←hl]at hp;obtain⟨ys,h1,h2,_,h4,h5⟩:=wQ (n:=m'+1) (w:=w) (F:=fun _=>False) fs.toList (xs.map (·.1)) 0 hp (by simpa using mK) (fun i f e hi he cQ=>by
     simp only[List.getElem?_map,Option.map_eq_some_iff]at he;obtain⟨y,hy,rfl⟩:=he;have h5:=oR i f (by simpa using hi);rw[hy]at h5;exact vX hL m' f.type _ y cQ h5)
    refine⟨.agg (ys.flatMap D.cells),⟨ys,rfl,by simpa using h1,fun i f y hi hy=>h2 i f y (by simpa using hi) hy⟩,by simpa using h4,?_,?_⟩
    ·have:=h4.1;rw[this];simpa using hl
    ·simp only[dH,hY];omega
   |_=>cases hp
theorem Vj{L:List TypeId}(hL:yt P L=true){t:TypeId}{v:Value}{d:DataW H}{ps:List MemPlace}{b0:Nat}(hp:L.contains t=true)(hv:Value.okWide P w .any b0 t v)(h:DataW.Trod enc P w base sp held t v d ps):
 ∃n x,typed P n t x∧aK w (fun _=>False) x v∧dH x≤hY d:=by
 obtain⟨m,hm⟩:=h;obtain⟨x,hx,hR,_,HF⟩:=vX hL m t _ _ hp hm;refine⟨m+1,x,hx,?_,HF⟩;have h1:=hR.rel
 ·have hp:=Ez hL hp;simp only[typed]at hx;cases ht:P.underlying t with
  |none=>rw[ht]at hp;cases hp
  |some u=>
   rw[ht]at hp hx;cases u with
   |bool=>obtain⟨b,rfl⟩:=okWide_bool ht hv;obtain⟨y,rfl⟩:=hx;exact h1
   |int k=>obtain⟨b,rfl⟩:=okWide_int ht hv;obtain⟨y,rfl,_⟩:=hx;exact h1
   |string=>obtain⟨b,rfl⟩:=okWide_string ht hv;obtain⟨y,rfl,_⟩:=hx;exact h1
   |slice e=>obtain⟨a,len,cap,rfl⟩:=okWide_slice ht hv;obtain⟨y,rfl,_⟩:=hx;exact h1
   |struct fs=>
    simp only[Value.okWide,ht]at hv;obtain⟨cs,rfl,_⟩:=hv;obtain⟨ys,rfl,_⟩:=hx;simpa [shaped,Value.cells]using h1
   |_=>cases hp
theorem EA{L:List TypeId}(hL:yt P L=true){b0:Nat}:∀{ts:List TypeId}{vs:List Value}{ds:List (DataW H)}{ps:List MemPlace},DataW.TrodAll enc P w base sp held ts vs ds ps→(∀t∈ts,L.contains t=true)→
 (∀(j:Nat) t v,ts[j]?=some t→vs[j]?=some v→Value.okWide P w .any b0 t v)→
 ∃xs:List D,xs.length=vs.length∧xs.length=ts.length∧(∀(i:Nat) t x,ts[i]?=some t→xs[i]?=some x→∃n,typed P n t x)∧(∀(i:Nat) x v,xs[i]?=some x→vs[i]?=some v→aK w (fun _=>False) x v)∧bG xs≤gd ds
 |[],[],[],_,_,_,_=>⟨[],rfl,rfl,fun i t x h=>by simp at h,fun i x v h=>by simp at h,by simp[bG,gd]⟩
 |t::ts,v::vs,d::ds,ps,h,hp,hv=>by
  obtain⟨p,q,h1,h2,_⟩:=h;obtain⟨n,x,hx,hr,HF⟩:=Vj hL (hp t (by simp)) (hv 0 t v rfl rfl) h1;obtain⟨xs,g1,g2,g3,g4,g5⟩:=EA hL h2 (fun t ht=>hp t (by simp[ht])) (fun j t v h3 h4=>hv (j+1) t v (by simpa using h3) (by simpa using h4));refine⟨x::xs,by simp[g1],by simp[g2],fun i t' x' h3 h4=>?_,fun i x' v' h3 h4=>?_,by simp only[bG,gd];omega⟩
  ·cases i with
   |zero=>simp at h3 h4;subst h3;subst h4;exact⟨n,hx⟩
   |succ i=>simp at h3 h4;exact g3 i t' x' h3 h4
  ·cases i with
   |zero=>simp at h3 h4;subst h3;subst h4;exact hr
   |succ i=>simp at h3 h4;exact g4 i x' v' h3 h4
 |[],_::_,_,_,h,_,_=>by cases h
 |[],[],_::_,_,h,_,_=>by cases h
 |_::_,[],_,_,h,_,_=>by cases h
 |_::_,_::_,[],_,h,_,_=>by cases h
end
section
variable {H:Type} {enc:TypeId×Value→H}
theorem Fb{X:Ctx}(hX:jy X){f:FuncId}{fn:Func}{s:ChangeSpec}{apart fresh handsOn:Bool}{L:List TypeId}{tb:TypeId}(hL:yt X.P L=true)
 (ah6:laidOutB X.P=true) (jl:(fn.params.toList.all fun t=>X.P.readableRec t&&decide (t<X.P.types.size)&&L.contains t)=true)
 (G4:fn.resultTypes=#[tb]) (htb:X.P.underlying tb=some .bool) (YM:s.vars=[])
 (ah7:∀ds:List (DataW H),ds.length=fn.params.size→s.fn H ds={results:=[.lit (.bool true)],args:=ds})
 {W:World} {base:Nat} {args:Array Value} {ds gs:List (DataW H)} {before:List MemPlace}
 (cA:∀(j:Nat) t v,fn.params[j]?=some t→args[j]?=some v→Value.okWide X.P W .any base t v)
 (hW:DataW.Whole enc X.P fn.params.toList s.vars apart W args.toList ds gs before) (hg:eF W (fun _=>False) X.gl)
 (bL:∀xs:List D,xs.length=fn.params.size→(∀(i:Nat) t x,fn.params[i]?=some t→xs[i]?=some x→∃n,typed X.P n t x)→bG xs≤gd ds→ai X f (xs.map .d) []=some (.ret (.d (.bool true)),[])):
 Calls X.P f args W fun e W'=>∃v,e=.returned v∧s.post enc X.P fn apart fresh handsOn false W args v W':=by
 have hW':=hW;obtain⟨p,q,hA,hV,rfl,Bm,xD⟩:=hW;rw[YM]at hV;obtain⟨rfl,rfl⟩:gs=[]∧q=[]:=by
  cases gs with
  |nil=>exact⟨rfl,hV⟩
  |cons g r=>exact absurd hV (by intro h;cases h)
 simp only[List.all_eq_true,Bool.and_eq_true,decide_eq_true_eq]at jl;obtain⟨xs,h1,h2,h3,h4,h5⟩:=EA hL (b0:=base) hA (fun t ht=>(jl t ht).2) (fun j t v ht hv=>cA j t v (by simpa using ht) (by simpa using hv));have hlen:=trodAll_length hA;refine (SK hX (bL xs (by simpa using h2) (fun i t x ht hx=>h3 i t x (by simpa using ht) hx) h5) (by simpa using h1) (fun i x v hx hv=>h4 i x v hx (by simpa using hv)) hg).mono ?_;rintro e W' ⟨rfl,hb⟩;have bn:∀x∈p,x.block<W.heap.size:=fun x hx=>by simpa using hW'.lt x (by simpa using hx)
 have hs:s.fn H (ds++[])={results:=[.lit (.bool true)],args:=ds}:=by
  rw[List.append_nil];exact ah7 ds (by simpa using hlen.2)
 refine⟨_,rfl,ds,[],p++[],[],p,[],hW',?_,?_,?_,hb.frame _,fun h=>by cases h⟩
 ·rw[hs,G4];exact trodAll_mk1 (shut_bool htb true)
 ·rw[hs];exact wP ah6 hb hA (fun t ht=>(jl t ht).1) bn
 ·rw[hs,YM];rfl
end
end Go.Am
end
section
namespace Go.Am
open Go
theorem HG(l:List Ex):(fX l).length=l.length:=by rw[rk];simp
theorem uO(x:Ex):dH (bJ x)=bG (uE x)+1:=by rw[Fp];rfl
mutual
theorem HH:∀x:Ex,dH (bJ x)<100000000→uM x
 | .mk op n name field sub line,h=>by
  simp only[bJ,dH,bG]at h;have h2:=lQ (fX sub);rw[HG]at h2;simp only[uM];exact⟨⟨by omega,by omega,by omega⟩,Dk sub (by omega)⟩
theorem Dk:∀l:List Ex,bG (fX l)<100000000→oh l
 |[],_=>by simp only[oh]
 |x::r,h=>by
  simp only[fX,bG]at h;simp only[oh];exact⟨HH x (by omega),Dk r (by omega)⟩
end
theorem vY{α:Type}(f:α→D)(l:List α):l.length≤bG (l.map f):=by
 have:=lQ (l.map f);simpa using this
theorem YN(l:List Int):l.length≤dH (mq l):=by
 have:=vY (fun n=>D.int .i64 n) l;simp only[mq,dH];omega
theorem Vk(l:List (List Sm)):(ld l).length=l.length:=by rw[yY];simp
theorem AQ(l:List Sm):(lf l).length=l.length:=by rw[rl];simp
mutual
theorem ad5:∀x:Sm,dH (b5 x)<100000000→yr x∧Mz x≤dH (b5 x)
 | .mk op name to val conds labels fields blocks line,h=>by
  simp only[b5,dH,bG,pf]at h⊢;have e1:=uO to;have e2:=uO val;have h2:=lQ (fX conds);rw[HG]at h2;have h3:=vY mq labels;have h4:=vY D.str fields;have h5:=lQ (ld blocks);rw[Vk]at h5;have hb:=MF blocks (by omega);simp only[yr,Mz];refine⟨⟨⟨HH to (by omega),HH val (by omega),⟨by omega,Dk conds (by omega)⟩,⟨by omega,fun l hl=>?_⟩,by omega,by omega⟩,hb.1⟩,by omega⟩;have h6:=HE (List.mem_map_of_mem (f:=mq) hl);have h7:=YN l;omega
theorem Dl:∀l:List Sm,bG (lf l)<100000000→lh l∧qt l≤bG (lf l)
 |[],_=>by simp only[lh,qt];exact⟨trivial,Nat.zero_le _⟩
 |x::r,h=>by
  simp only[lf,bG]at h⊢;have h1:=ad5 x (by omega);have h2:=Dl r (by omega);simp only[lh,qt];exact⟨⟨h1.1,h2.1⟩,by omega⟩
theorem MF:∀l:List (List Sm),bG (ld l)<100000000→nc l∧tY l≤bG (ld l)
 |[],_=>by simp only[nc,tY];exact⟨trivial,Nat.zero_le _⟩
 |b::r,h=>by
  simp only[ld,bG,dH]at h⊢;have h0:=lQ (lf b);rw[AQ]at h0;have h1:=Dl b (by omega);have h2:=MF r (by omega);simp only[nc,tY];exact⟨⟨⟨by omega,h1.1⟩,h2.1⟩,by omega⟩
end
theorem HI{p:Pg}(h:dH (.agg [.str p.name,.list (p.vars.map bF),.list (p.body.map b5)])<50000000):p.body.length<100000000∧lh p.body∧qt p.body<50000000:=by
 simp only[dH,bG]at h;rw[←rl]at h;have h0:=lQ (lf p.body);rw[AQ]at h0;have h1:=Dl p.body (by omega);exact⟨by omega,h1.1,by omega⟩
end Go.Am
end
section
namespace Go.Am
open Go Go.Proofs
variable [Inhabited bV]
set_option maxRecDepth 20000
def pB(L:List eZ)(s:PS):List AV:=[.d (.list (L.map pb)),.d (.int .i64 s.at_),.d (.int .i64 s.deep),.vec 1 0 0 s.vars.length]
def pC(L:List eZ)(s:PS):List aE:=[.box (pB L s),.vec 8 (s.vars.map bF)]
def uP(L:List eZ)(s:PS):List (Nat×aE):=[(0,.box (pB L s)),(0,.vec 8 (s.vars.map bF))]
def fD(e:Er):D:=.agg [.int .i64 e.e,.int .i64 0,.str [],.int .i64 0,.int .i64 e.line,.int .i64 e.Cf]
def qu(L:List eZ)(e:Er)(s:PS):bP:=some (.panic 186 (fD e),uP L s)
section
variable {L:List eZ} {s:PS}
@[simp] theorem at1(a b:Tx):(a == b)=decide (a=b):=by by_cases h:a=b<;>simp[h]
@[simp] theorem avG{β:Type}{b:Bool}{x y:β}:(if b=false then x else y)=if b=true then y else x:=by cases b<;>rfl
end
section
variable {L:List eZ} {s:PS} (hL:L.length<1000000)
include hL
end
structure Sh where
 k:Int
 name:Tx
 ins:Tx
 outs:Tx
 n:Int
@[simp] def shD(x:Sh):D:=.agg [.int .i64 x.k,.str x.name,.str x.ins,.str x.outs,.int .i64 x.n]
end Go.Am
end
section
namespace Go.Am
open Go
section
variable {ε σ α β:Type}
def PR.le(r r':PR ε σ α):Prop:=r=.out∨r=r'
theorem PR.le.refl(r:PR ε σ α):r.le r:=.inr rfl
theorem PR.le.out(r:PR ε σ α):PR.le .out r:=.inl rfl
theorem PR.le.bind{r r':PR ε σ α}{k k':α→σ→PR ε σ β}(h:r.le r')(hk:∀a s,(k a s).le (k' a s)):(r.bind k).le (r'.bind k'):=by
 rcases h with h|h
 ·subst h;exact .inl rfl
 ·subst h;cases r with
  |ok a s=>exact hk a s
  |bad e s=>exact .inr rfl
  |out=>exact .inl rfl
theorem PR.le.el{r r':PR ε σ α}{γ:Type}{f:α→σ→Option γ}{g:ε→σ→Option γ}(h:r.le r'):Le (r.el f g) (r'.el f g):=by
 rcases h with h|h
 ·subst h;exact Le.none
 ·subst h;exact Le.refl _
end
section
variable (L:List eZ)
structure ax6(f g:Nat):Prop where
 level:∀n s,(rX L f n s).le (rX L g n s)
 loop:∀n x s,(yl L f n x s).le (yl L g n x s)
 unary:∀s,(uG L f s).le (uG L g s)
 unop:∀op t s,(Ch L f op t s).le (Ch L g op t s)
 expr:∀s,(kH L f s).le (kH L g s)
 index:∀s,(uI L f s).le (uI L g s)
 Cv:∀s,(uH L f s).le (uH L g s)
structure ax7(f g:Nat):Prop where
 block:∀w s,(mP L f w s).le (mP L g w s)
 uJ:∀w l s,(uJ L f w l s).le (uJ L g w l s)
 stmt:∀s,(y9 L f s).le (y9 L g s)
 opn:∀s,(Ci L f s).le (Ci L g s)
 vZ:∀s,(qg L f s).le (qg L g s)
 lP:∀c l s,(lP L f c l s).le (lP L g c l s)
 cases:∀s,(ym L f s).le (ym L g s)
 rZ:∀v c l s,(rZ L f v c l s).le (rZ L g v c l s)
 vU:∀l s,(vU L f l s).le (vU L g l s)
 zi:∀s,(rY L f s).le (rY L g s)
 call:∀n s,(Cj L f n s).le (Cj L g n s)
 vV:∀n c l s,(vV L f n c l s).le (vV L g n c l s)
end
end Go.Am
end
section
namespace Go.Am
open Go Go.Proofs
variable [Inhabited bV]
set_option maxRecDepth 20000
def ah8:List Nat:=[240,244,241,238,181,182,283,285,330,331,312,243,337,335]
structure ad6(L:List eZ)(cl:bq)(f:Nat):Prop where
 le:∀g a c r,cl g a c=some r→ai ctx g a c=some r
 out:∀g,ah8.contains g=true→cl g=ai ctx g
 level:∀n s,cl 332 [.ptr 0 0 0,.d (.int .i64 (n:Nat))] (pC L s)=(rX L f n s).el (fun x s=>some (.ret (.d (bJ x)),uP L s)) (qu L)
 unary:∀s,cl 336 [.ptr 0 0 0] (pC L s)=(uG L f s).el (fun x s=>some (.ret (.d (bJ x)),uP L s)) (qu L)
 Cv:∀s,cl 339 [.ptr 0 0 0] (pC L s)=(uH L f s).el (fun x s=>some (.ret (.d (bJ x)),uP L s)) (qu L)
 index:∀s,cl 318 [.ptr 0 0 0] (pC L s)=(uI L f s).el (fun x s=>some (.ret (.d (bJ x)),uP L s)) (qu L)
 expr:∀s,cl 316 [.ptr 0 0 0] (pC L s)=(kH L f s).el (fun x s=>some (.ret (.d (bJ x)),uP L s)) (qu L)
section
variable {L:List eZ} {s:PS} {cl:bq} {f:Nat} (hL:L.length<1000000) (F:ad6 L cl f)
include hL F
end
structure aoY(L:List eZ)(cl:bq)(f:Nat):Prop where
 E:ad6 L cl f
 block:∀ws s,ws.length<1000→cl 184 [.ptr 0 0 0,.d (.list (ws.map .str))] (pC L s)=(mP L f ws s).el (fun l s=>some (.ret (.d (.list (l.map b5))),uP L s)) (qu L)
 stmt:∀s,cl 245 [.ptr 0 0 0] (pC L s)=(y9 L f s).el (fun x s=>some (.ret (.d (b5 x)),uP L s)) (qu L)
 opn:∀s,cl 284 [.ptr 0 0 0] (pC L s)=(Ci L f s).el (fun x s=>some (.ret (.d (b5 x)),uP L s)) (qu L)
 vZ:∀s,cl 313 [.ptr 0 0 0] (pC L s)=(qg L f s).el (fun x s=>some (.ret (.d (b5 x)),uP L s)) (qu L)
 cases:∀s,cl 314 [.ptr 0 0 0] (pC L s)=(ym L f s).el (fun x s=>some (.ret (.d (b5 x)),uP L s)) (qu L)
 zi:∀s,cl 315 [.ptr 0 0 0] (pC L s)=(rY L f s).el (fun x s=>some (.ret (.d (b5 x)),uP L s)) (qu L)
 call:∀nm s,cl 317 [.ptr 0 0 0,.d (.str nm)] (pC L s)=(Cj L f nm s).el (fun x s=>some (.ret (.d (b5 x)),uP L s)) (qu L)
section
variable {L:List eZ} {s:PS} {cl:bq} {f:Nat} (hL:L.length<1000000) (F:aoY L cl f)
include hL F
end
inductive TA where
 |level (n:Nat) (s:PS)
 |unary (s:PS)
 |Cv (s:PS)
 |index (s:PS)
 |expr (s:PS)
 |block (ws:List Tx) (s:PS)
 |stmt (s:PS)
 |opn (s:PS)
 |vZ (s:PS)
 |cases (s:PS)
 |zi (s:PS)
 |call (nm:Tx) (s:PS)
def TA.args:TA→List AV
 | .level n _=>[.ptr 0 0 0,.d (.int .i64 n)]
 | .block ws _=>[.ptr 0 0 0,.d (.list (ws.map .str))]
 | .call nm _=>[.ptr 0 0 0,.d (.str nm)]
 |_=>[.ptr 0 0 0]
def TA.st:TA→PS
 | .level _ s=>s
 | .unary s=>s
 | .Cv s=>s
 | .index s=>s
 | .expr s=>s
 | .block _ s=>s
 | .stmt s=>s
 | .opn s=>s
 | .vZ s=>s
 | .cases s=>s
 | .zi s=>s
 | .call _ s=>s
end Go.Am
end
section
namespace Go.Am
open Go
section
variable {α β:Type}
def Tr(r:PM α)(Q:α→PS→Prop):Prop:=match r with
 | .ok a s=>Q a s
 | .bad e _=>1≤e.line∧e.e≠0
 | .out=>False
theorem Tr.bind{r:PM α}{k:α→PS→PM β}{Q:α→PS→Prop}{Q':β→PS→Prop}(h:Tr r Q)(hk:∀a s,Q a s→Tr (k a s) Q'):Tr (r.bind k) Q':=by
 cases r with
 |ok a s=>exact hk a s h
 |bad e s=>exact h
 |out=>exact h.elim
theorem Tr.mono{r:PM α}{Q Q':α→PS→Prop}(h:Tr r Q)(hk:∀a s,Q a s→Q' a s):Tr r Q':=by
 cases r with
 |ok a s=>exact hk a s h
 |bad e s=>exact h
 |out=>exact h.elim
theorem Tr.ok{a:α}{s:PS}{Q:α→PS→Prop}(h:Q a s):Tr (.ok a s) Q:=h
end
structure OkL(L:List eZ):Prop where
 ends:∀(i:Nat)(t:eZ),L[i]?=some t→(t.kind=0↔i+1=L.length)
 line:∀(i:Nat)(t:eZ),L[i]?=some t→1≤t.line
 len:L.length≤49999
structure Iv(L:List eZ)(s:PS):Prop where
 at_:s.at_<L.length
 d0:0≤s.deep
 d1:s.deep≤32
 vs:s.vars.length≤64
structure Fw(L:List eZ)(s s':PS):Prop where
 iv:Iv L s'
 deep:s'.deep=s.deep
 vars:s'.vars=s.vars
 at_:s.at_≤s'.at_
structure Fs(L:List eZ)(s s':PS):Prop extends Fw L s s' where
 lt:s.at_<s'.at_
theorem Fw.refl{L s}(h:Iv L s):Fw L s s:=⟨h,rfl,rfl,Nat.le_refl _⟩
theorem Fw.trans{L s s1 s2}(h:Fw L s s1)(k:Fw L s1 s2):Fw L s s2:=⟨k.iv,k.deep.trans h.deep,k.vars.trans h.vars,Nat.le_trans h.at_ k.at_⟩
theorem Fs.trans{L s s1 s2}(h:Fs L s s1)(k:Fw L s1 s2):Fs L s s2:=⟨h.toFw.trans k,Nat.lt_of_lt_of_le h.lt k.at_⟩
section
variable {L:List eZ} (hL:OkL L)
include hL
structure Dn(L:List eZ)(s s':PS):Prop where
 iv:Iv L s'
 deep:s'.deep=s.deep+1
 vars:s'.vars=s.vars
 at_:s'.at_=s.at_
structure Fv(L:List eZ)(s s':PS):Prop where
 iv:Iv L s'
 deep:s'.deep=s.deep
 at_:s.at_≤s'.at_
structure ax9(L:List eZ)(f:Nat):Prop where
 level:∀(n:Nat)(s:PS),n≤6→Iv L s→20*(L.length-s.at_)+(10-n)≤f→Tr (rX L f n s) fun _ s'=>Fs L s s'
 loop:∀(n:Nat)(x:Ex)(s:PS),n<6→Iv L s→20*(L.length-s.at_)+1≤f→Tr (yl L f n x s) fun _ s'=>Fw L s s'
 unary:∀s:PS,Iv L s→20*(L.length-s.at_)+3≤f→Tr (uG L f s) fun _ s'=>Fs L s s'
 unop:∀(op:Int)(t:eZ)(s:PS),Iv L s→L[s.at_]?=some t→t.kind≠0→20*(L.length-s.at_)+2≤f→Tr (Ch L f op t s) fun _ s'=>Fs L s s'
 expr:∀s:PS,Iv L s→20*(L.length-s.at_)+11≤f→Tr (kH L f s) fun _ s'=>Fs L s s'
 index:∀s:PS,Iv L s→20*(L.length-s.at_)+1≤f→Tr (uI L f s) fun _ s'=>Fs L s s'
 Cv:∀s:PS,Iv L s→20*(L.length-s.at_)+2≤f→Tr (uH L f s) fun _ s'=>Fs L s s'
end
section
variable {L:List eZ} (hL:OkL L)
include hL
structure aya(L:List eZ)(f:Nat):Prop where
 block:∀(ws:List Tx)(s:PS),Iv L s→20*(L.length-s.at_)+19≤f→Tr (mP L f ws s) fun _ s'=>Fw L s s'
 loop:∀(ws:List Tx)(l:List Sm)(s:PS),Iv L s→l.length≤s.at_→20*(L.length-s.at_)+18≤f→Tr (uJ L f ws l s) fun _ s'=>Fw L s s'
 stmt:∀s:PS,Iv L s→20*(L.length-s.at_)+17≤f→Tr (y9 L f s) fun _ s'=>Fs L s s'
 opn:∀s:PS,Iv L s→20*(L.length-s.at_)+16≤f→Tr (Ci L f s) fun _ s'=>Fs L s s'
 vZ:∀s:PS,Iv L s→20*(L.length-s.at_)+15≤f→Tr (qg L f s) fun _ s'=>Fs L s s'
 lP:∀(c:List Ex)(l:List (List Sm))(s:PS),Iv L s→c.length≤s.at_→l.length≤s.at_→20*(L.length-s.at_)+14≤f→Tr (lP L f c l s) fun _ s'=>Fs L s s'
 cases:∀s:PS,Iv L s→20*(L.length-s.at_)+15≤f→Tr (ym L f s) fun _ s'=>Fs L s s'
 rZ:∀(v:Ex)(c:List (List Int))(l:List (List Sm))(s:PS),Iv L s→c.length≤s.at_→l.length≤s.at_→20*(L.length-s.at_)+14≤f→Tr (rZ L f v c l s) fun _ s'=>Fs L s s'
 vU:∀(l:List Sm)(s:PS),Iv L s→l.length≤s.at_→20*(L.length-s.at_)+18≤f→Tr (vU L f l s) fun _ s'=>Fw L s s'
 zi:∀s:PS,Iv L s→20*(L.length-s.at_)+15≤f→Tr (rY L f s) fun _ s'=>Fs L s s'
 call:∀(nm:Tx)(s:PS),Iv L s→20*(L.length-s.at_)+15≤f→Tr (Cj L f nm s) fun _ s'=>Fs L s s'
 vV:∀(nm:Tx)(c:List Tx)(l:List Ex)(s:PS),Iv L s→c.length≤s.at_→l.length≤s.at_→20*(L.length-s.at_)+14≤f→Tr (vV L f nm c l s) fun _ s'=>Fs L s s'
end
abbrev ad7:=Option (Out×List (Nat×aE))
theorem ad8(c:Prop)[Decidable c](a b:Bool)(l:List (Nat×aE)):(if c then (some (Out.ret (.d (.bool a)),l):ad7)else some (Out.ret (.d (.bool b)),l))=some (Out.ret (.d (.bool (if c then a else b))),l):=by split<;>rfl
theorem Vm(a b:Bool)(l:List (Nat×aE)):(some (Out.ret (.d (.bool a)),l):ad7)=some (Out.ret (.d (.bool b)),l)↔(a=true↔b=true):=by
 cases a<;>cases b<;>simp
end Go.Am
end
section
namespace Go.Am
open Go Go.Proofs
variable [Inhabited bV]
set_option maxRecDepth 20000
theorem Vn{n:Int}(h1:0≤n)(h2:n≤255):IntKind.u8.wrap n=n:=by
 simp[IntKind.wrap,IntKind.bits,IntKind.signed];omega
theorem Cw(c:UInt8):ai ctx 231 [.d (.int .u8 c.toNat)] []=some (.ret (.d (.bool (pa c))),[]):=by
 rw[ac5 (by simp)];simp[Tryz.f231,aq];grind [pa]
theorem yu(c:UInt8):ai ctx 235 [.d (.int .u8 c.toNat)] []=some (.ret (.d (.bool (oa c))),[]):=by
 rw[ac8 (by simp)];simp[Tryz.f235,aq];grind [oa]
theorem EB(c:UInt8):ai ctx 233 [.d (.int .u8 c.toNat)] []=some (.ret (.d (.bool (eT c))),[]):=by
 rw[ac6 (by simp)];simp[Tryz.f233,aq,Cw,yu];simp only[ad8,Vm];grind [eT]
theorem EC(c:UInt8):ai ctx 279 [.d (.int .u8 c.toNat)] []=some (.ret (.d (.int .i64 (fS c))),[]):=by
 rw[adm (by simp)];simp[Tryz.f279,aq,yu];have hc:c.toNat<256:=c.toNat_lt;have w:∀y:Int, -9223372036854775808≤y→y≤9223372036854775807→IntKind.i64.wrap y=y:=fun y h1 h2=>aw ⟨h1,h2⟩;have w8:∀y:Int,0≤y→y≤255→IntKind.u8.wrap y=y:=fun y h1 h2=>Vn h1 h2;grind [fS,oa]
theorem pg{s:Tx}{i:Nat}(h:i<s.length):iJ s i=s[i]:=by simp[iJ,h]
theorem YO(c:UInt8)(n:Nat)(hn:n<256):((c.toNat:Int)=n)↔c=UInt8.ofNat n:=by
 constructor
 ·intro h;have h:c.toNat=n:=by omega
  rw[←h];simp
 ·rintro rfl;simp;omega
@[simp] def sd(s:Tx)(i:Nat):aE:=.box [.d (.str s),.d (.int .i64 i),.d (.int .i64 (fT (s.take i)).1),.d (.int .i64 (fT (s.take i)).2)]
theorem HJ(s:Tx)(i:Nat)(h:i≤s.length):ai ctx 178 [.ptr 0 0 0] [sd s i]=some (.ret (.d (.str (s.drop i))),[(0,sd s i)]):=by
 rw[acK (by simp)];simp[Tryz.f178,aq,h]
theorem ED(s:Tx)(i n:Nat)(h:i+n≤s.length)(hs:s.length≤100000)(k:Kt):∀(r j:Nat),j+r=n→
 aI ctx 180 (.loop (Code.at (aX Tryz.f180) [1,0,0])) ⟨42,aC,[(0,true,.ptr 0 0 0),(4,true,.d (.int .i64 n)),(5,true,.d (.int .i64 j))],[⟨0,0,sd s (i+j)⟩]⟩ k=
  k (.exit 0) ⟨42,aC,[(0,true,.ptr 0 0 0),(4,true,.d (.int .i64 n)),(5,true,.d (.int .i64 n)),(6,true,.d (.bool false))],[⟨0,0,sd s (i+n)⟩]⟩
 |0,j,hj=>by
  have hj:j=n:=by omega
  subst hj;rw[ah];simp[Tryz.f180]
 |r+1,j,hj=>by
  have ih:=ED s i n h hs k r (j+1) (by omega);have bn:i+j<s.length:=by omega
  have hb:=RB (s:=s) (i:=i+j);have SL:=yj bn;rw[show i+(j+1)=i+j+1 by omega]at ih;generalize hp:fT (s.take (i+j))=p at*;generalize hq:fT (s.take (i+j+1))=q at*;obtain⟨l,c⟩:=p;obtain⟨l2,c2⟩:=q;simp only at hb;have w1:IntKind.i64.wrap (c+1)=c+1:=aw (by unfold aY;omega);have w2:IntKind.i64.wrap (l+1)=l+1:=aw (by unfold aY;omega);have w3:IntKind.i64.wrap ((i:Int)+j+1)=(i:Int)+j+1:=aw (by unfold aY;omega);have w4:IntKind.i64.wrap ((j:Int)+1)=(j:Int)+1:=aw (by unfold aY;omega);have hjn:j<n:=by omega
  rw[ah];simp[Tryz.f180,hp,hq]at ih⊢;have h0:(0:Int)≤(i:Int)+j:=by omega
  have ht:((i:Int)+j).toNat=i+j:=by omega
  have db:=pg bn;have qI:=YO s[i+j] 10 (by omega);simp at qI;unfold jA at SL;by_cases hc:s[i+j]=10
  ·rw[if_pos hc]at SL;cases SL;simp[hjn,w1,w2,w3,w4,bn,aq,h0,ht,db,hc,ih]
  ·rw[if_neg hc]at SL;cases SL;simp[hjn,w1,w2,w3,w4,bn,aq,h0,ht,db,qI,hc,ih]
theorem v7(s:Tx)(i n:Nat)(h:i+n≤s.length)(hs:s.length≤100000):ai ctx 180 [.ptr 0 0 0,.d (.int .i64 n)] [sd s i]=some (.ret (.aU []),[(0,sd s (i+n))]):=by
 have hl:=fun k=>ED s i n h hs k n 0 (by omega);rw[acM (by simp)];simp[Tryz.f180]at hl⊢;simp[hl]
theorem wR(t:Tx)(c:UInt8):ai ctx 229 [.d (.str t),.d (.int .u8 c.toNat)] []=some (.ret (.d (.int .i64 (Go.Lib.indexByte t c))),[]):=by
 rw[ac4 (by simp)];simp[Tryz.f229,aq]
set_option maxHeartbeats 1000000 in
theorem v8(s:Tx)(hs:s.length≤100000)(k:Kt)(R:bP):∀(f i:Nat),i≤s.length→s.length-i<f→
 (k .ret ⟨51,aC,[(2,true,.d (.bool (fB f (s.drop i)).2))],[⟨0,0,sd s (i+(fB f (s.drop i)).1)⟩]⟩=R)→
 aI ctx 177 (.loop (Code.at (aX Tryz.f177) [1,0,0])) ⟨51,aC,[(0,true,.ptr 0 0 0)],[⟨0,0,sd s i⟩]⟩ k=R
 |0,i,hi,hf,hk=>by omega
 |f+1,i,hi,hf,hk=>by
  have hr:=HJ s i hi;cases ht:s.drop i with
  |nil=>
   rw[ht]at hr hk;simp[fB]at hr hk;rw[ah];simp[Tryz.f177,hr,hk,aq]
  |cons c r=>
   have hlen:i+(r.length+1)=s.length:=by have:=congrArg List.length ht;simp at this;omega
   have aV:=wR (c::r) 10;rw[uD]at aV;rw[ht]at hr hk;unfold fB at hk;have db:iJ (c::r) 0=c:=rfl;have s7:=Hg (c::r);by_cases h1:uC c=true
   ·rw[if_pos h1]at hk;have uQ:=v7 s i 1 (by omega) hs;have hd:s.drop (i+1)=r:=by rw[←List.tail_drop,ht];rfl
    have ih:=v8 s hs k R f (i+1) (by omega) (by omega) (by rw[hd,show i+1+(fB f r).1=i+(1+(fB f r).1) by omega];exact hk);simp[uC]at h1;rw[ah];simp[Tryz.f177]at hr uQ ih⊢;rcases h1 with (h1|h1)|h1<;>simp[hr,db,h1,uQ,ih,aq]
   rw[if_neg h1]at hk;have n1:¬(c.toNat:Int)=32:=fun h=>h1 (by simp[uC];omega);have n2:¬(c.toNat:Int)=10:=fun h=>h1 (by simp[uC];omega);have n3:¬(c.toNat:Int)=9:=fun h=>h1 (by simp[uC];omega);have p1:=Ce 47 47 c r;have p2:=Ce 40 42 c r;by_cases h2:c=47∧r.head?=some 47
   ·rw[if_pos h2]at hk;have p1:Go.Lib.hasPrefix (c::r) [47,47]=true:=by rw[p1];simp[h2]
    have uQ:=v7 s i (ix (c::r)) (by simp at s7;omega) hs;have hd:s.drop (i+ix (c::r))=(c::r).drop (ix (c::r)):=by rw[←List.drop_drop,ht]
    have m8:0<ix (c::r):=by simp[ix,h2.1]
    have ih:=v8 s hs k R f (i+ix (c::r)) (by simp at s7;omega) (by omega) (by rw[hd,Nat.add_assoc];exact hk);generalize ix (c::r)=n at*;rw[ah];by_cases hl:n<(c::r).length
    ·rw[if_pos hl]at aV;have Bw:¬((n:Int)<0):=by omega
     simp[Tryz.f177]at hr uQ ih aV⊢;simp[hr,db,n1,n2,n3,p1,aV,Bw,uQ,ih,aq]
    ·rw[if_neg hl]at aV;have hn:n=r.length+1:=by simp at hl s7;omega
     subst hn;simp[Tryz.f177]at hr uQ ih aV⊢;simp[hr,db,n1,n2,n3,p1,aV,uQ,ih,aq]
   rw[if_neg h2]at hk;have p1:Go.Lib.hasPrefix (c::r) [47,47]=false:=by rw[p1];simpa using h2
   by_cases h3:c=40∧r.head?=some 42
   ·rw[if_pos h3]at hk;have p2:Go.Lib.hasPrefix (c::r) [40,42]=true:=by rw[p2];simp[h3]
    have sA:=Eo r.tail;have h2l:(2:Int)≤(r.length:Int)+1:=by cases r with|nil=>simp at h3|cons d r=>simp;omega
    have hb:r.length-1<4294967281:=by omega
    cases MG:mf r.tail with
    |none=>
     rw[MG]at hk sA;simp at hk sA hr;rw[ah];simp[Tryz.f177];simp[hr,db,n1,n2,n3,p1,p2,h2l,hb,sA,hk,aq]
    |some m=>
     rw[MG]at hk sA;have hm:=vS MG;have YP:r.tail.length=r.length-1:=by simp
     have uQ:=v7 s i (m+4) (by omega) hs;have hd:s.drop (i+(m+4))=(c::r).drop (m+4):=by rw[←List.drop_drop,ht]
     have ih:=v8 s hs k R f (i+(m+4)) (by omega) (by omega) (by rw[hd,Nat.add_assoc];exact hk);have Bw:¬((m:Int)<0):=by omega
     have w1:IntKind.i64.wrap ((m:Int)+4)=m+4:=aw (by unfold aY;omega);rw[ah];simp[Tryz.f177]at hr uQ ih sA⊢;simp[hr,db,n1,n2,n3,p1,p2,h2l,hb,sA,Bw,w1,uQ,ih,aq]
   rw[if_neg h3]at hk;have p2:Go.Lib.hasPrefix (c::r) [40,42]=false:=by rw[p2];simpa using h3
   simp at hk hr;rw[ah];simp[Tryz.f177];simp[hr,db,n1,n2,n3,p1,p2,hk,aq]
theorem Zx(s:Tx)(i:Nat)(hi:i≤s.length)(hs:s.length≤100000)(f:Nat)(hf:s.length-i<f):
 ai ctx 177 [.ptr 0 0 0] [sd s i]=some (.ret (.d (.bool (fB f (s.drop i)).2)),[(0,sd s (i+(fB f (s.drop i)).1))]):=by
 have hl:=fun k R=>v8 s hs k R f i hi hf;rw[acJ (by simp)];simp[Tryz.f177]at hl⊢;rw[hl];simp
theorem Jq(c:UInt8)(b:Int):ai ctx 278 [.d (.int .u8 c.toNat),.ptr 0 0 0] [.box [.d (.int .i64 b)]]=some (.ret (.d (.bool (decide ((fS c:Int)<b)))),[(0,.box [.d (.int .i64 b)])]):=by
 rw[adl (by simp)];simp[Tryz.f278,aq,EC]
theorem zX(s:Tx)(hs:s.length≤100000)(k:Kt):∀(r n:Nat),n+r=s.length→
 aI ctx 232 (.loop (Code.at (aX Tryz.f232) [1,1,0,0,0])) ⟨20,aC,[(0,true,.d (.str s)),(1,true,.fn 233 []),(5,true,.d (.int .i64 n))],[]⟩ k=
  k (.exit 0) ⟨20,aC,[(0,true,.d (.str s)),(1,true,.fn 233 []),(5,true,.d (.int .i64 (n+((s.drop n).takeWhile eT).length:Nat))),(16,true,.d (.bool false))],[]⟩
 |0,n,hn=>by
  have hn:n=s.length:=by omega
  subst hn;rw[ah];simp[Tryz.f232]
 |r+1,n,hn=>by
  have bn:n<s.length:=by omega
  have ih:=zX s hs k r (n+1) (by omega);have w1:IntKind.i64.wrap ((n:Int)+1)=(n:Int)+1:=aw (by unfold aY;omega);have db:=pg bn;have cL:=EB s[n];have hd:s.drop n=s[n]::s.drop (n+1):=List.drop_eq_getElem_cons bn;rw[hd,List.takeWhile_cons];rw[ah];cases hq:eT s[n]with
  |true=>
   rw[hq]at cL;have e:n+1+(List.takeWhile eT (s.drop (n+1))).length=n+((List.takeWhile eT (s.drop (n+1))).length+1):=by omega
   rw[e]at ih;simp[Tryz.f232]at ih cL⊢;simp[bn,db,cL,w1,ih]
  |false=>
   rw[hq]at cL;simp[Tryz.f232]at cL⊢;simp[bn,db,cL]
theorem PT(s:Tx)(hs:s.length≤100000):ai ctx 232 [.d (.str s),.fn 233 []] []=some (.ret (.d (.int .i64 (s.takeWhile eT).length)),[]):=by
 have hl:=fun k=>zX s hs k s.length 0 (by omega);rw[Sy (by simp)];simp[Tryz.f232]at hl⊢;simp[hl]
theorem zY(s:Tx)(hs:s.length≤100000)(b:Nat)(k:Kt):∀(r n:Nat),n+r=s.length→
 aI ctx 232 (.loop (Code.at (aX Tryz.f232) [1,1,0,0,0])) ⟨20,aC,[(0,true,.d (.str s)),(1,true,.fn 278 [.ptr 0 0 0]),(5,true,.d (.int .i64 n))],[⟨0,0,.box [.d (.int .i64 b)]⟩]⟩ k=
  k (.exit 0) ⟨20,aC,[(0,true,.d (.str s)),(1,true,.fn 278 [.ptr 0 0 0]),(5,true,.d (.int .i64 (n+((s.drop n).takeWhile (fun c=>decide (fS c<b))).length:Nat))),(16,true,.d (.bool false))],[⟨0,0,.box [.d (.int .i64 b)]⟩]⟩
 |0,n,hn=>by
  have hn:n=s.length:=by omega
  subst hn;rw[ah];simp[Tryz.f232]
 |r+1,n,hn=>by
  have bn:n<s.length:=by omega
  have ih:=zY s hs b k r (n+1) (by omega);have w1:IntKind.i64.wrap ((n:Int)+1)=(n:Int)+1:=aw (by unfold aY;omega);have db:=pg bn;have cL:=Jq s[n] b;have hd:s.drop n=s[n]::s.drop (n+1):=List.drop_eq_getElem_cons bn;rw[hd,List.takeWhile_cons];rw[ah];by_cases hq:fS s[n]<b
  ·have e:n+1+(List.takeWhile (fun c=>decide (fS c<b)) (s.drop (n+1))).length=n+((List.takeWhile (fun c=>decide (fS c<b)) (s.drop (n+1))).length+1):=by omega
   rw[e]at ih;simp[Tryz.f232,hq]at ih cL⊢;simp[bn,db,cL,w1,ih]
  ·simp[Tryz.f232,hq]at cL⊢;simp[bn,db,cL]
theorem PU(s:Tx)(hs:s.length≤100000)(b:Nat):ai ctx 232 [.d (.str s),.fn 278 [.ptr 0 0 0]] [.box [.d (.int .i64 b)]]=
 some (.ret (.d (.int .i64 (s.takeWhile (fun c=>decide (fS c<b))).length)),[(0,.box [.d (.int .i64 b)])]):=by
 have hl:=fun k=>zY s hs b k s.length 0 (by omega);rw[Sy (by simp)];simp[Tryz.f232]at hl⊢;simp[hl]
theorem Zy(c:UInt8):fS c≤99:=by
 unfold fS oa;split
 ·rename_i h;simp at h;omega
 ·split<;>omega
set_option maxHeartbeats 1000000 in
theorem HK(s:Tx)(hs:s.length≤100000)(b:Nat)(hb:2≤b∧b≤16)(n v:Nat)(ct:aE)(hn:n≤s.length)(k:Kt)(R:bP):∀(rest:Tx)(i x:Nat),(s.drop i).take rest.length=rest→i+rest.length=n→x≤9223372036854775807→
 (match Df b x rest with
  |none=>k .ret ⟨83,aC,[(2,true,.d (.int .i64 0)),(3,true,.d (.int .i64 0)),(4,true,.d (.int .i64 2))],[⟨350,1,.box [.d (.int .i64 b)]⟩,⟨500,v,ct⟩]⟩
  |some y=>k (.exit 2) ⟨83,aC,[(0,true,.d (.str s)),(5,true,.ptr 350 1 0),(9,true,.d (.int .i64 n)),(10,true,.d (.int .i64 y)),(11,true,.d (.int .i64 n)),(63,true,.d (.bool false))],[⟨350,1,.box [.d (.int .i64 b)]⟩,⟨500,v,ct⟩]⟩)=R→
 aI ctx 236 (.loop (Code.at (aX Tryz.f236) [1,1,1,1,1,1,0,1,0,0])) ⟨83,aC,[(0,true,.d (.str s)),(5,true,.ptr 350 1 0),(9,true,.d (.int .i64 n)),(10,true,.d (.int .i64 x)),(11,true,.d (.int .i64 i))],[⟨350,1,.box [.d (.int .i64 b)]⟩,⟨500,v,ct⟩]⟩ k=R
 |[],i,x,ht,hi,hx,hR=>by
  have hi:i=n:=by simpa using hi
  subst hi;simp[Df]at hR;rw[ah];simp[Tryz.f236,hR]
 |c::rest,i,x,ht,hi,hx,hR=>by
  simp only[List.length_cons]at hi ht;have bn:i<s.length:=by omega
  have cL:i<n:=by omega
  have hd:s.drop i=s[i]::s.drop (i+1):=List.drop_eq_getElem_cons bn;rw[hd,List.take_succ_cons]at ht;have hc:s[i]=c:=(List.cons.inj ht).1;have qe:=(List.cons.inj ht).2;have db:=pg bn;have hv:=EC c;have hvl:=Zy c;have w1:IntKind.i64.wrap ((i:Int)+1)=(i:Int)+1:=aw (by unfold aY;omega);have w2:IntKind.i64.wrap (9223372036854775807-(fS c:Int))=((9223372036854775807-fS c:Nat):Int):=by rw[aw (by unfold aY;omega)];omega
  have hqb:(9223372036854775807-fS c)/b≤9223372036854775807:=Nat.le_trans (Nat.div_le_self _ _) (Nat.sub_le _ _);have w3:IntKind.i64.wrap (((9223372036854775807-fS c:Nat):Int)/(b:Int))=(((9223372036854775807-fS c)/b:Nat):Int):=by
   rw[←Int.natCast_ediv];generalize (9223372036854775807-fS c)/b=z at hqb;exact aw (by unfold aY;omega)
  have EE:b≠0:=by omega
  unfold Df at hR;rw[ah];by_cases ho:(9223372036854775807-fS c)/b<x
  ·have cg:((9223372036854775807-fS c:Nat):Int)/(b:Int)<x:=by rw[←Int.natCast_ediv];exact Int.ofNat_lt.2 ho
   rw[if_pos ho]at hR;simp at hR hv;simp[Tryz.f236];simp[cL,bn,db,hc,hv,w2,w3,EE,cg,hR]
  ·have cg:¬(((9223372036854775807-fS c:Nat):Int)/(b:Int)<x):=by rw[←Int.natCast_ediv];exact fun h=>ho (Int.ofNat_lt.1 h)
   rw[if_neg ho]at hR;have hm:x*b≤9223372036854775807-fS c:=by
    have h1:x≤(9223372036854775807-fS c)/b:=by omega
    have:=Nat.mul_le_mul_right b h1;have h2:=Nat.div_mul_le_self (9223372036854775807-fS c) b;omega
   have jt:(x:Int)*(b:Int)=((x*b:Nat):Int):=by simp
   have w4:IntKind.i64.wrap ((x:Int)*b)=((x*b:Nat):Int):=by rw[jt];exact aw (by unfold aY;omega)
   have w5:IntKind.i64.wrap (((x*b:Nat):Int)+fS c)=((x*b+fS c:Nat):Int):=by rw[aw (by unfold aY;omega)];simp
   have ih:=HK s hs b hb n v ct hn k R rest (i+1) (x*b+fS c) qe (by omega) (by omega) hR;generalize hxb:x*b+fS c=xb at*;generalize x*b=xm at*;simp[Tryz.f236]at ih⊢;simp[cL,bn,db,hc,hv,w1,w2,w3,w4,w5,EE,cg,ih]
theorem jO{a:UInt8}{p s:Tx}(h:(a::p).isPrefixOf s=true):s.head?=some a∧p.length+1≤s.length:=by
 have h':=List.isPrefixOf_iff_prefix.1 h;refine⟨?_,by simpa using h'.length_le⟩;obtain⟨t,rfl⟩:=h';rfl
theorem wa(s:Tx):(Go.Lib.hasPrefix s [50,35]=true∧Go.Lib.hasPrefix s [56,35]=false∧Go.Lib.hasPrefix s [49,54,35]=false∧m5 s=(2,2)∧2≤s.length)∨
 (Go.Lib.hasPrefix s [50,35]=false∧Go.Lib.hasPrefix s [56,35]=true∧Go.Lib.hasPrefix s [49,54,35]=false∧m5 s=(8,2)∧2≤s.length)∨
 (Go.Lib.hasPrefix s [50,35]=false∧Go.Lib.hasPrefix s [56,35]=false∧Go.Lib.hasPrefix s [49,54,35]=true∧m5 s=(16,3)∧3≤s.length)∨
 (Go.Lib.hasPrefix s [50,35]=false∧Go.Lib.hasPrefix s [56,35]=false∧Go.Lib.hasPrefix s [49,54,35]=false∧m5 s=(10,0)∧0≤s.length):=by
 unfold Go.Lib.hasPrefix m5;have x1:([50,35]:Tx).isPrefixOf s=true→([56,35]:Tx).isPrefixOf s=true→False:=fun h g=>by
  have h:=(jO h).1;have g:=(jO g).1;rw[h]at g;revert g;decide
 have x2:([50,35]:Tx).isPrefixOf s=true→([49,54,35]:Tx).isPrefixOf s=true→False:=fun h g=>by
  have h:=(jO h).1;have g:=(jO g).1;rw[h]at g;revert g;decide
 have x3:([56,35]:Tx).isPrefixOf s=true→([49,54,35]:Tx).isPrefixOf s=true→False:=fun h g=>by
  have h:=(jO h).1;have g:=(jO g).1;rw[h]at g;revert g;decide
 have l1:([50,35]:Tx).isPrefixOf s=true→2≤s.length:=fun h=>(jO h).2;have l2:([56,35]:Tx).isPrefixOf s=true→2≤s.length:=fun h=>(jO h).2;have l3:([49,54,35]:Tx).isPrefixOf s=true→3≤s.length:=fun h=>(jO h).2;cases h2:([50,35]:Tx).isPrefixOf s<;>cases h8:([56,35]:Tx).isPrefixOf s<;>cases Es:([49,54,35]:Tx).isPrefixOf s<;>simp_all
set_option maxHeartbeats 2000000 in
theorem PV(s:Tx)(hs:s.length≤100000):ai ctx 236 [.d (.str s)] []=some (.ret (.aU [.d (.int .i64 (mD s).1),.d (.int .i64 (mD s).2.1),.d (.int .i64 (mD s).2.2)]),[]):=by
 obtain⟨b,h,hbh,hb,hhl⟩:∃b h,m5 s=(b,h)∧(2≤b∧b≤16)∧h≤s.length:=by
  rcases wa s with ⟨_,_,_,e,hl⟩|⟨_,_,_,e,hl⟩|⟨_,_,_,e,hl⟩|⟨_,_,_,e,hl⟩<;>exact⟨_,_,e,by omega,by omega⟩
 have hw:=PU (s.drop h) (by simp;omega) b;obtain⟨ds,jk⟩:∃ds,ds=(s.drop h).takeWhile (fun c=>decide (fS c<b)):=⟨_,rfl⟩;rw[←jk]at hw;have hdl:ds.length≤s.length-h:=by
  have:=(List.takeWhile_prefix (fun c=>decide (fS c<b)) (l:=s.drop h)).length_le;rw[←jk]at this;simpa using this
 have hdt:(s.drop h).take ds.length=ds:=by
  rw[jk];exact List.prefix_iff_eq_take.1 (List.takeWhile_prefix _) |>.symm
 obtain⟨n,hn⟩:∃n,n=h+ds.length:=⟨_,rfl⟩;have JG:n≤s.length:=by omega
 have Cp:=fun v ct k R=>HK s hs b hb n v ct JG k R ds h 0 hdt hn.symm (by omega);have wn:IntKind.i64.wrap ((h:Int)+ds.length)=(n:Int):=by rw[aw (by unfold aY;omega)];omega
 have fg:¬((n:Int)<0):=by omega
 have dJ:(0:Int)≤n:=by omega
 obtain⟨F,hF⟩:∃F:Nat×Nat×Nat,F=AL s b h ds:=⟨_,rfl⟩;have JK:mD s=F:=by unfold mD;rw[hF,hbh];simp only[←jk]
 rw[JK];have c1:IntKind.i64.wrap 1=1:=aw (by unfold aY;omega);have c2:IntKind.i64.wrap 2=2:=aw (by unfold aY;omega);have c3:IntKind.i64.wrap 3=3:=aw (by unfold aY;omega);have r3:List.range' 0 3=[0,1,2]:=rfl;have key:∀(v:Nat)(ct:aE)(k:Kt),n≠h→(n<s.length→eT (iJ s n)=false∧iJ s n≠35)→
  (∀x,k (.exit 2) ⟨83,aC,[(0,true,.d (.str s)),(5,true,.ptr 350 1 0),(9,true,.d (.int .i64 n)),(10,true,.d (.int .i64 x)),(11,true,.d (.int .i64 n)),(63,true,.d (.bool false))],[⟨350,1,.box [.d (.int .i64 b)]⟩,⟨500,v,ct⟩]⟩=some (.ret (.aU [.d (.int .i64 n),.d (.int .i64 x),.d (.int .i64 0)]),[]))→
  (k .ret ⟨83,aC,[(2,true,.d (.int .i64 0)),(3,true,.d (.int .i64 0)),(4,true,.d (.int .i64 2))],[⟨350,1,.box [.d (.int .i64 b)]⟩,⟨500,v,ct⟩]⟩=some (.ret (.aU [.d (.int .i64 0),.d (.int .i64 0),.d (.int .i64 2)]),[]))→
  aI ctx 236 (.loop (Code.at (aX Tryz.f236) [1,1,1,1,1,1,0,1,0,0])) ⟨83,aC,[(0,true,.d (.str s)),(5,true,.ptr 350 1 0),(9,true,.d (.int .i64 n)),(10,true,.d (.int .i64 (0:Nat))),(11,true,.d (.int .i64 h))],[⟨350,1,.box [.d (.int .i64 b)]⟩,⟨500,v,ct⟩]⟩ k=
   some (.ret (.aU [.d (.int .i64 F.1),.d (.int .i64 F.2.1),.d (.int .i64 F.2.2)]),[]):=by
  intro v ct k h1 h2 h3 h4;have bE:¬(ds=[]∨∃c,s[h+ds.length]?=some c∧(eT c=true∨c=35)):=by
   rintro (hc|⟨c,hc,EG⟩)
   ·exact h1 (by rw[hn,hc];rfl)
   ·rw[←hn]at hc;obtain⟨bn,eQ⟩:=List.getElem?_eq_some_iff.1 hc;have h5:=h2 bn;rw[pg bn,eQ]at h5;rcases EG with EG|EG
    ·rw[h5.1]at EG;cases EG
    ·exact h5.2 EG
  unfold AL at hF;rw[if_neg bE,←hn]at hF;refine Cp v ct k _ ?_;cases hv:Df b 0 ds with
  |none=>rw[hv]at hF;rw[hF];exact h4
  |some x=>rw[hv]at hF;rw[hF];exact h3 x
 have err:∀c,n<s.length→iJ s n=c→(eT c=true∨c=35)→F=(0,0,5):=by
  intro c bn hc EG;unfold AL at hF;rw[hF,if_pos (.inr ⟨c,by rw[←hn,List.getElem?_eq_getElem bn,←pg bn,hc],EG⟩)]
 have ad9:n=h→F=(0,0,5):=by
  intro he;unfold AL at hF;rw[hF,if_pos (.inl (List.length_eq_zero_iff.1 (by omega)))]
 have AR:=EB (iJ s n);have h35:=YO (iJ s n) 35 (by omega);simp at h35;clear hF Cp;rw[ac9 (by simp)];rcases wa s with ⟨p1,p2,p3,e,hl⟩|⟨p1,p2,p3,e,hl⟩|⟨p1,p2,p3,e,hl⟩|⟨p1,p2,p3,e,hl⟩;all_goals
  obtain⟨h',xo⟩:∃h':Nat,h'=h:=⟨_,rfl⟩;rw[hbh]at e;cases e;have hlI:=Int.ofNat_le.2 hl;simp[Tryz.f236]at hw wn hlI key ad9;simp[Tryz.f236,r3];iterate 4 (rw[ah];simp[p1,p2,p3,c1,c2,c3,aq])
  simp[hl,hlI,hw,wn];by_cases MH:n=h'
  ·have SM:=ad9 (MH.trans xo);rw[xo]at MH;simp[MH,SM]
  ·have MI:¬((n:Int)=(h':Int)):=by omega
   rw[xo]at MI MH;simp at MI;by_cases bn:n<s.length
   ·cases cL:eT (iJ s n)
    ·rw[cL]at AR;by_cases HL:iJ s n=35
     ·have SM:=err _ bn HL (.inr rfl);rw[HL]at AR;simp at AR;simp[MI,bn,AR,HL,SM]
     ·have aoZ:¬((iJ s n).toNat:Int)=35:=fun h=>HL (h35.1 h);simp[MI,bn,AR,aoZ];exact key _ _ _ MH (fun _=>⟨cL,HL⟩) (fun x=>by simp) (by simp)
    ·have SM:=err _ bn rfl (.inl cL);rw[cL]at AR;simp[MI,bn,AR,SM]
   ·simp[MI,bn];exact key _ _ _ MH (fun h=>absurd h bn) (fun x=>by simp) (by simp)
def qv(s:Tx):Nat→List Tx→Int
 |_,[]=> -1
 |i,x::r=>if s=x then (i:Int)else qv s (i+1) r
theorem HM(s:Tx):∀(l:List Tx)(i:Nat),decide (0≤qv s i l)=decide (s∈l)
 |[],i=>by simp[qv]
 |x::r,i=>by
  have:=HM s r (i+1);unfold qv;by_cases h:s=x
  ·simp[h]
  ·simp only[if_neg h,this];simp[h]
theorem zZ(l:List Tx)(hl:l.length≤1000)(s:Tx)(k:Kt)(R:bP):∀(rest:List Tx)(i:Nat),l.drop i=rest→i+rest.length=l.length→
 ((if 0≤qv s i rest then k .ret ⟨19,aC,[(4,true,.d (.int .i64 (qv s i rest)))],[]⟩else k (.exit 0) ⟨19,aC,[(0,true,.d (.list (l.map .str))),(1,true,.d (.str s)),(7,true,.d (.int .i64 l.length)),(8,true,.d (.int .i64 l.length)),(9,true,.d (.bool false))],[]⟩)=R)→
 aI ctx 308 (.loop (Code.at (aX Tryz.f308) [1,0,1,0,0])) ⟨19,aC,[(0,true,.d (.list (l.map .str))),(1,true,.d (.str s)),(7,true,.d (.int .i64 l.length)),(8,true,.d (.int .i64 i))],[]⟩ k=R
 |[],i,hd,hi,h=>by
  have hi:i=l.length:=by simpa using hi
  subst hi;rw[ah];simp[qv]at h;simp[Tryz.f308,h]
 |x::rest,i,hd,hi,h=>by
  have bn:i<l.length:=by simp at hi;omega
  have hx:l[i]=x:=by
   have:=congrArg (·[0]?) hd;simp at this;simpa [bn]using this
  have w1:IntKind.i64.wrap ((i:Int)+1)=(i:Int)+1:=aw (by unfold aY;omega);unfold qv at h;rw[ah];by_cases hs:s=x
  ·simp[hs]at h;simp[Tryz.f308];simp[bn,hx,hs,h]
  ·rw[if_neg hs]at h;have ih:=zZ l hl s k R rest (i+1) (by rw[←List.tail_drop,hd];rfl) (by simp at hi;omega) h;simp[Tryz.f308]at ih⊢;simp[bn,hx,hs,w1,ih]
theorem HN(s:Tx):∀(l:List Tx)(i:Nat),¬0≤qv s i l→qv s i l= -1
 |[],i,_=>rfl
 |x::r,i,h=>by
  unfold qv at h⊢;split
  ·rename_i hs;rw[if_pos hs]at h;omega
  ·rename_i hs;rw[if_neg hs]at h;exact HN s r (i+1) h
theorem PW(l:List Tx)(hl:l.length≤1000)(s:Tx):ai ctx 308 [.d (.list (l.map .str)),.d (.str s)] []=some (.ret (.d (.int .i64 (qv s 0 l))),[]):=by
 have cP:=fun k R h=>zZ l hl s k R l 0 rfl (by simp) h;rw[adq (by simp)];simp[Tryz.f308]at cP⊢;rw[cP];split
 ·simp
 ·rename_i h;simp[HN s l 0 h]
theorem HO(l:List Tx)(hl:l.length≤1000)(s:Tx):ai ctx 277 [.d (.list (l.map .str)),.d (.str s)] []=some (.ret (.d (.bool (decide (s∈l)))),[]):=by
 have h:=PW l hl s;rw[adk (by simp)];simp[Tryz.f277,h,←HM s l 0]
theorem PX:ai ctx 167 [.d (.str RC)] []=some (.ret (.d (.list (jB.map .str))),[]):=bx 300 (by kernel_rfl)
theorem Vo(s:Tx):ai ctx 234 [.d (.str s)] []=some (.ret (.d (.bool (sX s))),[]):=by
 have hf:=PX;have hc:=HO jB (by decide) s;unfold RC at hf;generalize jB.map D.str=W at hf hc;rw[ac7 (by simp)];simp[Tryz.f234,hf,hc,sX]
theorem wS(c:UInt8):∀(l:Tx),0≤Go.Lib.indexByte l c↔c∈l
 |[]=>by simp[Go.Lib.indexByte]
 |b::r=>by
  have ih:=wS c r;have hg:=Go.Lib.indexByte_ge r c;unfold Go.Lib.indexByte;by_cases h:b=c
  ·simp[h]
  ·have h':¬c=b:=fun e=>h e.symm;simp only[beq_iff_eq,h,if_false,List.mem_cons,h',false_or,←ih];split<;>omega
theorem Vp(c:UInt8)(r:Tx):qZ (c::r)=if Go.Lib.hasPrefix (c::r) [58,61]=true then 2 else if Go.Lib.hasPrefix (c::r) [60,61]=true then 2 else if Go.Lib.hasPrefix (c::r) [62,61]=true then 2 else if Go.Lib.hasPrefix (c::r) [60,62]=true then 2 else if Go.Lib.hasPrefix (c::r) [46,46]=true then 2 else if 0≤Go.Lib.indexByte yk c then 1 else 0:=by
 have hm:=wS c yk;unfold qZ Hh Go.Lib.hasPrefix;simp only[List.any_cons,List.any_nil,Bool.or_false,Bool.or_eq_true,hm];grind
theorem Vq(c:UInt8)(r:Tx):ai ctx 237 [.d (.str (c::r))] []=some (.ret (.d (.int .i64 (qZ (c::r)))),[]):=by
 have r5:List.range' 0 5=[0,1,2,3,4]:=rfl;have c1:IntKind.i64.wrap 1=1:=aw (by unfold aY;omega);have c2:IntKind.i64.wrap 2=2:=aw (by unfold aY;omega);have c3:IntKind.i64.wrap 3=3:=aw (by unfold aY;omega);have c4:IntKind.i64.wrap 4=4:=aw (by unfold aY;omega);have c5:IntKind.i64.wrap 5=5:=aw (by unfold aY;omega);have hb:=wR yk c;rw[ada (by simp)];simp[Tryz.f237,r5];iterate 6 (try (rw[ah];simp[c1,c2,c3,c4,c5,aq]))
 have db:iJ (c::r) 0=c:=rfl;rw[Vp];unfold yk at hb⊢;simp[db,hb];grind
theorem MJ(s:Tx):(mD s).1≤s.length:=by
 unfold mD AL;rcases wa s with ⟨_,_,_,e,hl⟩|⟨_,_,_,e,hl⟩|⟨_,_,_,e,hl⟩|⟨_,_,_,e,hl⟩;all_goals
  rw[e];simp only
  split
  ·simp
  ·split
   ·simp
   ·rename_i x _;simp only
    have:=(List.takeWhile_prefix (fun c=>decide (fS c<(m5 s).1)) (l:=s.drop (m5 s).2)).length_le;rw[e]at this;simp only[List.length_drop]at this;omega
theorem HP(c:UInt8)(r:Tx):qZ (c::r)≤(c::r).length:=by
 unfold qZ;split
 ·rename_i h;simp only[Hh,List.any_cons,List.any_nil,Bool.or_false,Bool.or_eq_true]at h;rcases h with h|h|h|h|h<;>exact (jO h).2
 ·simp only
  split<;>simp
set_option maxHeartbeats 1000000 in
theorem Vs(c:UInt8)(r:Tx)(hs:(c::r).length≤100000)(line Cf:Int):ai ctx 179 [.d (.str (c::r)),.d (pb ⟨0,[],0,line,Cf⟩)] []=
 some (.ret (.aU [.d (pb ⟨(jW (c::r)).2.1,(c::r).take (jW (c::r)).2.2.1,(jW (c::r)).2.2.2,line,Cf⟩),.d (.int .i64 (jW (c::r)).1)]),[]):=by
 have db:iJ (c::r) 0=c:=rfl;have hl:=Cw c;have hd:=yu c;have hw:=PT (c::r) hs;have rD:=PV (c::r) hs;have hsg:=Vq c r;have AS:((c::r).takeWhile eT).length≤(c::r).length:=(List.takeWhile_prefix _).length_le;have Dm:=MJ (c::r);have HQ:=HP c r;have MK:=Vo ((c::r).take ((c::r).takeWhile eT).length);unfold jW;generalize dJ:((c::r).takeWhile eT).length=n1 at*;generalize qB:qZ (c::r)=n2 at*;generalize hF:mD (c::r)=F at*;obtain⟨n,x,e⟩:=F;simp only at rD Dm;rw[acL (by simp)];simp only[List.length_cons]at AS Dm HQ;cases h1:pa c with
 |true=>
  rw[h1]at hl;cases h2:sX ((c::r).take n1)with
  |true=>
   rw[h2]at MK;simp[Tryz.f179,aq,db,hl,hw,AS,MK,h1,h2]
  |false=>
   rw[h2]at MK;by_cases h3:16<n1
   ·simp[Tryz.f179,aq,db,hl,hw,AS,MK,h1,h2,h3];omega
   ·simp[Tryz.f179,aq,db,hl,hw,AS,MK,h1,h2,h3];omega
 |false=>
  rw[h1]at hl;cases h2:oa c with
  |true=>
   rw[h2]at hd;by_cases h3:e=0
   ·simp[Tryz.f179,aq,db,hl,hd,rD,Dm,h1,h2,h3]
   ·simp[Tryz.f179,aq,db,hl,hd,rD,Dm,h1,h2,h3]
  |false=>
   rw[h2]at hd;by_cases h3:n2=0
   ·simp[Tryz.f179,aq,db,hl,hd,hsg,HQ,h1,h2,h3]
   ·simp[Tryz.f179,aq,db,hl,hd,hsg,HQ,h1,h2,h3]
theorem Vt{s:Tx}(h:(mD s).2.2=0):1≤(mD s).1:=by
 unfold mD AL at h⊢;split
 ·rename_i hc;rw[if_pos hc]at h;simp at h
 ·rename_i hc;rw[if_neg hc]at h;split
  ·rename_i hv;rw[hv]at h;simp at h
  ·simp only
   simp only[not_or]at hc;have:=List.length_pos_iff.2 hc.1;omega
theorem Vu{c:UInt8}{r:Tx}(h:(jW (c::r)).1=0):1≤(jW (c::r)).2.2.1∧(jW (c::r)).2.2.1≤(c::r).length:=by
 have AS:((c::r).takeWhile eT).length≤(c::r).length:=(List.takeWhile_prefix _).length_le;have Dm:=MJ (c::r);have HQ:=HP c r;have nB:pa c=true→1≤((c::r).takeWhile eT).length:=by
  intro hl;have:eT c=true:=by unfold eT;rw[hl];rfl
  simp[this]
 have hnp:=Vt (s:=c::r);unfold jW at h⊢;simp only at h⊢;generalize ((c::r).takeWhile eT).length=n1 at*;generalize qZ (c::r)=n2 at*;generalize mD (c::r)=F at*;by_cases h1:pa c=true
 ·simp only[if_pos h1]at h⊢;have:=nB h1;split at h
  ·rename_i hw;rw[if_pos hw];exact⟨this,AS⟩
  ·rename_i hw;rw[if_neg hw];split at h
   ·simp at h
   ·rename_i Es;rw[if_neg Es];exact⟨this,AS⟩
 ·simp only[if_neg h1]at h⊢;by_cases h2:oa c=true
  ·simp only[if_pos h2]at h⊢;split at h
   ·rename_i he;rw[if_pos he];exact⟨hnp he,Dm⟩
   ·rename_i he;exact absurd h he
  ·simp only[if_neg h2]at h⊢;split at h
   ·simp at h
   ·rename_i he;rw[if_neg he];exact⟨by simp only;omega,HQ⟩
set_option maxHeartbeats 1000000 in
theorem HR(s:Tx)(hs:s.length≤16384):∀(f i:Nat)(out:List eZ)(v4 v5 HS:Nat)(c5 HU:aE),i≤s.length→s.length-i<f→out.length≤i→
 aI ctx 117 (.loop (Code.at (aX Tryz.f117) [1,1,1,1,0,0])) ⟨62,aC,[(4,true,.ptr 300 1 0),(5,true,.ptr 950 1 0),(6,true,.vec 400 v4 0 out.length)],
  [⟨200,1,.vec 5 []⟩,⟨300,1,.box [.d (.int .i64 0),.d (.str []),.d (.int .i64 0),.d (.int .i64 0),.d (.int .i64 0)]⟩,⟨400,v4,.vec 5 (out.map pb)⟩,⟨500,v5,c5⟩,⟨550,HS,HU⟩,⟨950,1,sd s i⟩]⟩
  (AI 0 (AJ Tryz.prog Ft 0 [.tmp 2,.tmp 3,.cell 4 63]))=some (.ret (.aU [.d (.list ((AM s f i out).1.map pb)),.d (.int .i64 (AM s f i out).2.1),.d (pb (AM s f i out).2.2)]),[])
 |0,i,out,v4,v5,HS,c5,HU,hi,hf,ho=>by omega
 |f+1,i,out,v4,v5,HS,c5,HU,hi,hf,ho=>by
  have hg:=Zx s i hi (by omega) (s.length+1) (by omega);have ck:=yX (s.length+1) (s.drop i);unfold AM;generalize fB (s.length+1) (s.drop i)=g at*;obtain⟨n,ok⟩:=g;simp only[List.length_drop]at ck;simp only at hg⊢;obtain⟨j,hj⟩:∃j,j=i+n:=⟨_,rfl⟩;have gP:j≤s.length:=by omega
  have avH:((i+n:Nat):Int)=(i:Int)+n:=by omega
  rw[←hj]at hg⊢;have hr:=HJ s j gP;generalize hp:fT (s.take j)=p at*;obtain⟨l,c⟩:=p;rw[ah];cases ok with
  |false=>
   simp[hp]at hg;simp[Tryz.f117,aq,hg,here]
  |true=>
   simp only[Bool.true_eq_false,if_false];cases ht:s.drop j with
   |nil=>
    rw[ht]at hr;simp[hp]at hg hr;have g1:(out.length+1)*48≤140737488355328∧out.length≤4611686018427387903:=by omega
    simp[Tryz.f117,aq,hg,hr,here,g1]
   |cons a r=>
    rw[ht]at hr;have hlen:j+(r.length+1)=s.length:=by have:=congrArg List.length ht;simp at this;omega
    have hn:=Vs a r (by simp;omega) l c;have cQ:=Vu (c:=a) (r:=r);have bE:¬(a::r=[]):=by simp
    simp only[if_neg bE];generalize jW (a::r)=F at*;obtain⟨e,kd,m,x⟩:=F;simp only at hn cQ⊢;simp[hp]at hg hr;have g1:(out.length+1)*48≤140737488355328∧out.length≤4611686018427387903:=by omega
    by_cases he:e=0
    ·subst he;obtain⟨rL,jt⟩:=cQ rfl;simp only[List.length_cons]at jt;have uQ:=v7 s j m (by omega) (by omega);have ih:=fun v4 v5 HS c5 HU=>HR s hs f (j+m) (out++[⟨kd,(a::r).take m,x,l,c⟩]) v4 v5 HS c5 HU (by omega) (by omega) (by simp;omega);have FX:min m (r.length+1)=m:=by omega
     have avI:((min m (r.length+1):Nat):Int)=m:=by rw[FX]
     simp at hn;simp[Tryz.f117,hp]at ih uQ⊢;simp[aq,hg,hr,hn,g1,FX,uQ,ih]
    ·simp at hn;have heI:¬((e:Int)=0):=by omega
     simp[Tryz.f117,aq,hg,hr,hn,he,heI,here]
theorem Zz(s:Tx):ai ctx 117 [.d (.str s)] []=some (.ret (.aU [.d (.list ((Dg s).1.map pb)),.d (.int .i64 (Dg s).2.1),.d (pb (Dg s).2.2)]),[]):=by
 rw[acu (by simp)];unfold Dg;by_cases h:16384<s.length
 ·have hI:(16384:Int)<s.length:=by omega
  simp[Tryz.f117,aq,h,hI]
 ·have hI:¬((16384:Int)<s.length):=by omega
  have hl:=fun v4 v5 HS c5 HU=>HR s (by omega) (s.length+1) 0 [] v4 v5 HS c5 HU (by omega) (by omega) (by simp);rw[if_neg h];generalize AM s (s.length+1) 0 []=L at*;have hp:fT []=(1,1):=rfl;simp[Tryz.f117,hp]at hl;simp[Tryz.f117,aq,h,hI];exact hl _ _ _ _ _
end Go.Am
end
section
namespace Go.Am
open Go Go.Proofs
variable [Inhabited bV]
def EH(p q:Int×Int):Prop:=p.1<q.1∨(p.1=q.1∧p.2<q.2)
theorem HV(p:Int×Int)(c:UInt8):EH p (jA p c):=by
 unfold EH jA;split
 ·left;simp only;omega
 ·right;simp only;exact⟨trivial,by omega⟩
theorem SN{p q r:Int×Int}(h:EH p q)(k:EH q r):EH p r:=by
 unfold EH at*;omega
theorem ML{s:Tx}:∀(d i:Nat),i+d+1≤s.length→EH (fT (s.take i)) (fT (s.take (i+d+1)))
 |0,i,h=>by
  rw[yj (show i+0<s.length by omega)];exact HV _ _
 |d+1,i,h=>by
  have:=ML (s:=s) d i (by omega);rw[yj (show i+(d+1)<s.length by omega)];exact SN this (HV _ _)
theorem MM{s:Tx}{i j:Nat}(h:i<j)(hj:j≤s.length):¬((fT (s.take j)).1=(fT (s.take i)).1∧(fT (s.take j)).2=(fT (s.take i)).2):=by
 have:=ML (s:=s) (j-i-1) i (by omega);rw[show i+(j-i-1)+1=j by omega]at this;unfold EH at this;omega
inductive Laid(s:Tx):Nat→List eZ→Prop
 |fin (i:Nat) (h:i≤s.length):Laid s i [here (fT (s.take s.length))]
 |sign (i j m:Nat) (k n:Int) (r:List eZ) (h1:i≤j) (h2:j+m≤s.length) (h3:1≤m) (h:Laid s (j+m) r):
  Laid s i (⟨k,(s.drop j).take m,n,(fT (s.take j)).1,(fT (s.take j)).2⟩::r)
theorem Laid.weaken{s:Tx}{i i':Nat}{r:List eZ}(h:Laid s i r)(hi:i'≤i):Laid s i' r:=by
 cases h with
 |fin _ h=>exact .fin i' (by omega)
 |sign _ j m k n r h1 h2 h3 h=>exact .sign i' j m k n r (by omega) h2 h3 h
theorem Laid.step{s:Tx}{i:Nat}{t:eZ}{r:List eZ}(h:Laid s i (t::r))(hi:i≤s.length):
 (¬(t.line=(fT (s.take i)).1∧t.Cf=(fT (s.take i)).2)∧i<s.length∧Laid s (i+1) (t::r))∨
 ((t.line=(fT (s.take i)).1∧t.Cf=(fT (s.take i)).2)∧t.text.length≤s.length-i∧(s.drop i).take t.text.length=t.text∧((i<s.length∧Laid s (i+1) r)∨(i=s.length∧r=[]))):=by
 cases h with
 |fin _ h=>
  by_cases he:i=s.length
  ·subst he;right;simp[here]
  ·left;have bn:i<s.length:=by omega
   exact⟨MM bn (Nat.le_refl _),bn,.fin _ (by omega)⟩
 |sign _ j m k n r h1 h2 h3 h=>
  by_cases he:i=j
  ·subst he;right;have hl:((s.drop i).take m).length=m:=by simp;omega
   refine⟨⟨rfl,rfl⟩,?_,?_,.inl ⟨by omega,h.weaken (by omega)⟩⟩
   ·simp only[hl];omega
   ·simp only[hl]
  ·left;have bn:i<j:=by omega
   exact⟨MM bn (by omega),by omega,.sign _ j m k n r (by omega) h2 h3 h⟩
end Go.Am
end
section
namespace Go.Am
open Go Go.Proofs
variable [Inhabited bV]
set_option maxRecDepth 100000
theorem ZA(x y b1 c1 c2 c3 c4 c5:D)(rows:List D):De ctx 118 [.ptr 0 0 0,.ptr 1 0 0,.ptr 2 0 0,.lit .nilIface] [.box [.d x,.vec 3 0 0 rows.length,.d y],.box [.d b1],.box [.d c1,.d c2,.d c3,.d c4,.d c5],.vec 8 rows]=
 some (.ret (.aU []),[(0,.box [.d x,.vec 3 1 0 rows.length,.d y]),(0,.box [.d b1]),(0,.box [.d c1,.d c2,.d c3,.d c4,.d c5]),(1,.vec 8 rows)]):=by
 rw[acv (by rfl) (by rfl) (by simp)];simp[Tryz.f118];erw[RA rfl];simp
theorem SO{txt:Tx}{YQ:List eZ}{a:Tx}{R c:List D}{n m:Int}(cm:Dg txt=(YQ,0,⟨0,[],0,0,0⟩))
 (hp:ai ctx 119 [.ptr 0 0 0] [.box [.d (.list (YQ.map pb)),.d (.int .i64 0),.d (.int .i64 0),.vec 1 0 0 0],.vec 8 []]=
  some (.ret (.agg [.d (.str a),.vec 1 1 0 R.length,.d (.list c)]),[(0,.box [.d (.list (YQ.map pb)),.d (.int .i64 n),.d (.int .i64 m),.vec 1 1 0 R.length]),(1,.vec 8 R)])):
 ai ctx 78 [.d (.str txt)] []=some (.ret (.aU [.d (.agg [.str a,.list R,.list c]),.d (.int .i64 0),.d (.agg [.int .i64 0,.str [],.int .i64 0,.int .i64 0,.int .i64 0])]),[]):=by
 have hl:=Zz txt;rw[cm]at hl;have hr:=fun x y b1 c1 c2 c3 c4 c5=>ZA x y b1 c1 c2 c3 c4 c5 R;simp only at hl;generalize YQ.map pb=T at*;have e3:List.take R.length R=R:=List.take_length;rw[ahN (by simp)];simp at hl hr hp;simp[Tryz.f78,xN,JO,mc,dfv,hl,aq,hp,hr,e3]
end Go.Am
end
section
namespace Go.Am
open Go
def MN(n:Int):Int:=IntKind.i64.wrap (-n)
def jb(x:Ex):Option (Int×Bool):=
 if bR x=1 then some (gY x,false)
 else if bR x=2 then some (gY x,true)
 else if bR x=6 then (match cK x with
  |[y]=>if bR y=1 then some (MN (gY y),false)else none
  |_=>none)
 else none
def m6:List Ex→Option (List (Int×Bool))
 |[]=>some []
 |x::r=>match jb x with
  |some p=>(match m6 r with
   |some l=>some (p::l)
   |none=>none)
  |none=>none
def jD(n:Int)(t:Bool)(line:Int):Ex:=
 if t=true then .mk 2 n [] [] [] line
 else if 0≤n then .mk 1 n [] [] [] line
 else .mk 6 0 [] [] [.mk 1 (MN n) [] [] [] line] line
def HW(op:Int):List (Int×Bool)→Option (Int×Bool×Int)
 |[a]=>some (qG op a.1 a.2)
 |[a,b]=>if a.2=b.2 then some (uB op a.1 b.1 a.2)else none
 |_=>none
def fj(x:Ex):Ex:=
 if bR x<6∨(jb x).isSome then x
 else match m6 (cK x)with
  |none=>x
  |some l=>match HW (bR x) l with
   |none=>x
   |some r=>if r.2.2≠0∨(r.2.1=false∧r.1= -9223372036854775808)then x else jD r.1 r.2.1 (jC x)
mutual
def cC:Ex→Ex
 | .mk op n name field sub line=>fj (.mk op n name field (cu sub) line)
def cu:List Ex→List Ex
 |[]=>[]
 |x::r=>cC x::cu r
end
theorem lR:∀l:List Ex,cu l=l.map cC
 |[]=>rfl
 |x::r=>by simp[cu,lR r]
mutual
def nD:Sm→Sm
 | .mk op name to val conds labels fields blocks line=>.mk op name (cC to) (cC val) (cu conds) labels fields (gj blocks) line
def dh:List Sm→List Sm
 |[]=>[]
 |x::r=>nD x::dh r
def gj:List (List Sm)→List (List Sm)
 |[]=>[]
 |b::r=>dh b::gj r
end
def uR(p:Pg):Pg:=⟨p.name,p.vars,dh p.body⟩
theorem Vv(n:Int)(t:Bool)(line:Int):cC (jD n t line)=jD n t line:=by
 unfold jD;split
 ·simp[cC,cu,fj]
 ·split
  ·simp[cC,cu,fj]
  ·simp[cC,cu,fj,jb]
theorem ZB(x:Ex)(h:cu (cK x)=cK x):cC (fj x)=fj x:=by
 have self:fj x=x→cC (fj x)=fj x:=by
  intro e;rw[e];obtain⟨op,n,name,field,sub,line⟩:=x;simp only[mR]at h;show fj (.mk op n name field (cu sub) line)=_;rw[h];exact e
 unfold fj;split
 ·rename_i hc;exact by have:=self (by unfold fj;rw[if_pos hc]);rwa [show fj x=x by unfold fj;rw[if_pos hc]]at this
 ·rename_i hc;split
  ·rename_i h1;have e:fj x=x:=by unfold fj;rw[if_neg hc,h1]
   have:=self e;rwa [e]at this
  ·rename_i l h1;split
   ·rename_i h2;have e:fj x=x:=by unfold fj;rw[if_neg hc,h1];simp only;rw[h2]
    have:=self e;rwa [e]at this
   ·rename_i r h2;split
    ·rename_i h3;have e:fj x=x:=by unfold fj;rw[if_neg hc,h1];simp only;rw[h2];simp only;rw[if_pos h3]
     have:=self e;rwa [e]at this
    ·exact Vv _ _ _
mutual
theorem MO:∀x:Ex,cC (cC x)=cC x
 | .mk op n name field sub line=>by
  show cC (fj (.mk op n name field (cu sub) line))=fj (.mk op n name field (cu sub) line);exact ZB _ (AT sub)
theorem AT:∀l:List Ex,cu (cu l)=cu l
 |[]=>rfl
 |x::r=>by simp only[cu,MO x,AT r]
end
mutual
theorem ZC:∀x:Sm,nD (nD x)=nD x
 | .mk op name to val conds labels fields blocks line=>by simp only[nD,MO,AT,HX blocks]
theorem AU:∀l:List Sm,dh (dh l)=dh l
 |[]=>rfl
 |x::r=>by simp only[dh,ZC x,AU r]
theorem HX:∀l:List (List Sm),gj (gj l)=gj l
 |[]=>rfl
 |b::r=>by simp only[gj,AU b,HX r]
end
def z6:Vr:=⟨[],0,0,false,0,0,0,0⟩
def oP:List Vr→Tx→Int→Int×Vr
 |[],_,_=>(0,z6)
 |v::r,s,n=>if v.name=s then (n,v)else oP r s (n+bK v)
def b9(vs:List Vr)(s:Tx):Int×Vr:=oP vs s 0
def cd:List Vr→Int
 |[]=>0
 |v::r=>bK v+cd r
def yw:List Pn→Tx→Nat→Option (Nat×Pn)
 |[],_,_=>none
 |p::r,s,i=>if p.name=s then some (i,p)else yw r s (i+1)
def Dp:Pn:=⟨[],0,false⟩
def ie(vs:List Vr)(s f:Tx):Int×Pn:=
 if (bg vs s).isSome=true∧2<(b9 vs s).2.ty∧f≠[]then
  (match yw (bz (b9 vs s).2.ty) f 0 with
   |some (i,p)=>((b9 vs s).1+i,p)
   |none=>(0,Dp))
 else (0,Dp)
def mr(k:Nat)(x:ar):ar:=if (x.op=9∨x.op=10)∧0≤x.a then {x with a:=x.a+k} else x
def ig(k:Nat)(l:List ar):List ar:=l.map (mr k)
def jn(a b:List ar):List ar:=a++ig a.length b
def se(to:Int)(x:ar):ar:=if x.op=9∧x.a= -1 then {x with a:=to} else x
def SP(to:Int)(x:ar):ar:=if x.op=9∧x.a= -2 then {x with a:=to} else x
def ins(op a b n m:Int):ar:=⟨op,a,b,n,m⟩
mutual
def ak(vs:List Vr):Ex→List ar×Bool
 | .mk op n name field sub _=>
  if op=1∨op=2 then ([ins 1 0 0 n 0],decide (op=2))
  else if op=3 then ([ins (1+(b9 vs name).2.ty) (b9 vs name).1 0 0 0],decide ((b9 vs name).2.ty=2))
  else if op=5 then ([ins (1+(ie vs name field).2.ty) (ie vs name field).1 0 0 0],decide ((ie vs name field).2.ty=2))
  else if op=4 then (oo vs sub++[ins (3+(b9 vs name).2.ty) (b9 vs name).1 0 (b9 vs name).2.lo (b9 vs name).2.hi],decide ((b9 vs name).2.ty=2))
  else ((hZ vs sub).1++[ins 8 (if (hZ vs sub).2=true then 1 else 0) op 0 0],decide (op=7∨12<op))
def hZ(vs:List Vr):List Ex→List ar×Bool
 |[]=>([],false)
 |[x]=>ak vs x
 |x::r=>((ak vs x).1++(hZ vs r).1,(hZ vs r).2)
def oo(vs:List Vr):List Ex→List ar
 |[]=>[]
 |x::_=>(ak vs x).1
end
mutual
def aL(h:Int):Ex→Int
 | .mk op _ _ _ sub _=>if op=1∨op=2∨op=3∨op=5 then h+1 else max (h+1) (fC h sub)
def fC(h:Int):List Ex→Int
 |[]=>0
 |x::r=>max (aL h x) (fC (h+1) r)
end
def cR:List (List ar)→List (List ar)→List ar
 |_,[]=>[]
 |[],b::r=>if r=[]then b else jn (b++[ins 9 (b.length+1+(cR [] r).length) 0 0 0]) (cR [] r)
 |t::ts,b::r=>
  let out:=cR ts r
  let part:=if r=[]then b else b++[ins 9 (b.length+1+out.length) 0 0 0]
  jn (t++[ins 10 (t.length+1+part.length) 0 0 0]++ig (t.length+1) part) out
def dZ(cell:Int):List Int→List ar
 |a::b::r=>ins 14 cell 0 a b::ins 8 1 21 0 0::dZ cell r
 |_=>[]
def dK(vs:List Vr)(name:Tx):List Tx→List Ex→List ar
 |f::fs,x::xs=>(ak vs x).1++ins 6 (ie vs name f).1 0 0 0::dK vs name fs xs
 |_,_=>[]
def ph(l:List ar):List ar:=l.map (se l.length)
def ij(t b:List ar):List ar:=ph (ins 11 0 0 0 0::t++[ins 10 (t.length+3+b.length) 0 0 0]++ig (t.length+2) b++[ins 9 0 0 0 0])
def lS(t b:List ar):List ar:=ph (b++ins 11 0 0 0 0::t++[ins 10 0 0 0 0])
def kL(at_ cell:Int)(b:List ar):List ar:=
 ph ([ins 11 0 0 0 0,ins 13 at_ cell 0 0,ins 10 (b.length+8) 0 0 0]++ig 3 b++[ins 2 at_ 0 0 0,ins 2 (cell+1) 0 0 0,ins 8 0 8 0 0,ins 6 at_ 0 0 0,ins 9 0 0 0 0])
mutual
def cV(vs:List Vr):Sm→Int→List ar×Int
 | .mk op name to val conds labels fields blocks _,c=>
  if op=1 then
   (if bR to=3 then (ak vs val).1++[ins 6 (b9 vs (dA to)).1 0 0 0]
    else oo vs (cK to)++((ak vs val).1++[ins 7 (b9 vs (dA to)).1 0 (b9 vs (dA to)).2.lo (b9 vs (dA to)).2.hi]),c)
  else if op=2 then (cR (conds.map fun x=>(ak vs x).1) (au vs blocks c).1,(au vs blocks c).2)
  else if op=3 then (jn ((ak vs val).1++[ins 6 c 0 0 0]) (cR (labels.map fun l=>ins 1 0 0 0 0::dZ c l) (au vs blocks (c+1)).1),(au vs blocks (c+1)).2)
  else if op=4 then (jn ((hZ vs conds).1++[ins 6 (c+1) 0 0 0,ins 6 c 0 0 0,ins 6 (b9 vs name).1 0 0 0]) (kL (b9 vs name).1 c (lj vs blocks (c+2)).1),(lj vs blocks (c+2)).2)
  else if op=5 then (ij (ak vs val).1 (lj vs blocks c).1,(lj vs blocks c).2)
  else if op=6 then (lS (ak vs val).1 (lj vs blocks c).1,(lj vs blocks c).2)
  else if op=7 then ([ins 9 (-1) 0 0 0],c)
  else if op=8 then ([ins 9 (-2) 0 0 0],c)
  else (dK vs name fields conds++[ins 12 (b9 vs name).1 (b9 vs name).2.ty 0 0],c)
def ag(vs:List Vr):List Sm→Int→List ar×Int
 |[],c=>([],c)
 |x::r,c=>(jn (jn [ins 11 0 0 0 0] (cV vs x c).1) (ag vs r (cV vs x c).2).1,(ag vs r (cV vs x c).2).2)
def au(vs:List Vr):List (List Sm)→Int→List (List ar)×Int
 |[],c=>([],c)
 |b::r,c=>((ag vs b c).1::(au vs r (ag vs b c).2).1,(au vs r (ag vs b c).2).2)
def lj(vs:List Vr):List (List Sm)→Int→List ar×Int
 |[],c=>([],c)
 |b::_,c=>ag vs b c
end
def jP:List Ex→Int
 |[]=>0
 |x::r=>max (aL 0 x) (jP r)
mutual
def gk:Sm→Int
 | .mk op _ to val conds labels _ blocks _=>
  if op=1 then (if bR to=3 then aL 0 val else max (fC 0 (cK to)) (aL 1 val))
  else if op=2 then max (jP conds) (bW blocks)
  else if op=3 then max (aL 0 val) (max (if labels=[]then 0 else 2) (bW blocks))
  else if op=4 then max (max (fC 0 conds) 3) (bW blocks)
  else if op=5∨op=6 then max (aL 0 val) (bW blocks)
  else if op=7∨op=8 then 0
  else jP conds
def bf:List Sm→Int
 |[]=>0
 |x::r=>max (gk x) (bf r)
def bW:List (List Sm)→Int
 |[]=>0
 |b::r=>max (bf b) (bW r)
end
def nf(p:Pg):Option (List ar×Int×Int):=
 let g:=ag p.vars (dh p.body) (cd p.vars)
 if 4096<g.1.length+1∨64<bf (dh p.body)then none
 else some (g.1.map (SP g.1.length)++[ins 15 0 0 0 0],cd p.vars,g.2)
@[simp] theorem kV(k:Nat)(l:List ar):(ig k l).length=l.length:=by simp[ig]
@[simp] theorem ng(l:List ar):(ph l).length=l.length:=by simp[ph]
theorem dX(a b:List ar):(jn a b).length=a.length+b.length:=by simp[jn]
theorem HY(k:Nat)(x:ar):(mr k x).op=x.op:=by unfold mr;split<;>rfl
theorem SQ(k:Int)(x:ar):(se k x).op=x.op:=by unfold se;split<;>rfl
def qw(vs:List Vr)(x:Sm)(c:Int):List ar:=jn [ins 11 0 0 0 0] (cV vs x c).1
theorem Vw(vs:List Vr)(x:Sm)(c:Int):(qw vs x c).length=(cV vs x c).1.length+1:=by unfold qw;rw[dX];simp;omega
mutual
def eE:Ex→Bool
 | .mk _ n _ _ sub _=>decide (-9223372036854775808≤n∧n≤9223372036854775807)&&ea sub
def ea:List Ex→Bool
 |[]=>true
 |x::r=>eE x&&ea r
end
def Dq(n:Int):Bool:=decide (-9223372036854775808≤n∧n≤9223372036854775807)
mutual
def oq:Sm→Bool
 | .mk _ _ to val conds labels _ blocks _=>eE to&&(eE val&&(ea conds&&(labels.all (fun l=>l.all Dq)&&ia blocks)))
def iM:List Sm→Bool
 |[]=>true
 |x::r=>oq x&&iM r
def ia:List (List Sm)→Bool
 |[]=>true
 |b::r=>iM b&&ia r
end
theorem SR{n:Int}(h: -9223372036854775808<n∧n≤9223372036854775807):MN n= -n:=by
 unfold MN;simp only[IntKind.wrap,IntKind.bits,IntKind.signed];simp;omega
theorem aeb(b:Bool):dI b=0∨dI b=1:=by cases b<;>simp[dI]
def MP(r:Int×Bool×Int)(t:Bool):Prop:=r.2.2=0→r.2.1=t∧(t=true→r.1=0∨r.1=1)∧(-9223372036854775808≤r.1∧r.1≤9223372036854775807)
theorem uS(t:Bool):MP kZ t:=fun h=>by simp[kZ]at h
theorem kr(b:Bool):MP (dI b,true,0) true:=fun _=>by rcases aeb b with h|h<;>simp[h]
theorem zj(z:Int):MP (tV (kG z)) false:=by
 intro h;unfold tV kG at h⊢;split<;>simp_all;all_goals omega
theorem aec{a b:Int}(ha: -9223372036854775808≤a∧a≤9223372036854775807)(h:¬(a= -9223372036854775808∧b= -1)): -9223372036854775808≤a.tdiv b∧a.tdiv b≤9223372036854775807:=by
 have h1:(a.tdiv b).natAbs≤a.natAbs:=by rw[Int.natAbs_tdiv];exact Nat.div_le_self _ _
 by_cases hm:a= -9223372036854775808
 ·by_cases hb:b=1
  ·subst hb;simp only[Int.tdiv_one];omega
  ·by_cases EE:b=0
   ·subst EE;simp
   ·have h2:2≤b.natAbs:=by omega
    have h3:(a.tdiv b).natAbs≤a.natAbs/2:=by rw[Int.natAbs_tdiv];exact Nat.div_le_div_left h2 (by omega)
    omega
 ·omega
theorem aed{a b:Int}(ha: -9223372036854775808≤a∧a≤9223372036854775807): -9223372036854775808≤a.tmod b∧a.tmod b≤9223372036854775807:=by
 have h1:(a.tmod b).natAbs≤a.natAbs:=by rw[Int.natAbs_tmod];exact Nat.mod_le _ _
 have h2:0≤a→0≤a.tmod b:=fun h=>Int.tmod_nonneg _ h;have h3:a≤0→a.tmod b≤0:=fun h=>by
  have:=Int.tmod_nonneg (a:= -a) b (by omega);rw[Int.neg_tmod]at this;omega
 omega
theorem ZD{a b:Int}(ha: -9223372036854775808≤a∧a≤9223372036854775807):MP (o8 (yh a b)) false:=by
 intro h;by_cases hb:b=0
 ·simp[o8,yh,hb]at h
 ·by_cases hm:a= -9223372036854775808∧b= -1
  ·simp[o8,yh,hm]at h
  ·have:=aec ha hm;simp[o8,yh,hb,hm,this]
theorem ZE{a b:Int}(ha: -9223372036854775808≤a∧a≤9223372036854775807):MP (o8 (AK a b)) false:=by
 intro h;by_cases hb:b=0
 ·simp[o8,AK,hb]at h
 ·have:=aed (b:=b) ha;simp[o8,AK,hb,this]
def aee(op:Int):Prop:=op=6∨(8≤op∧op≤12)∨(15≤op∧op≤18)
instance (op:Int):Decidable (aee op):=inferInstanceAs (Decidable (_∨_))
theorem aef{op:Int}{l:List (Int×Bool)}{r:Int×Bool×Int}(h:HW op l=some r)(hl:∀p∈l, -9223372036854775808≤p.1∧p.1≤9223372036854775807):
 MP r (!decide (op=6∨(8≤op∧op≤12))):=by
 unfold HW at h;split at h
 ·rename_i a;cases h;have ha:=hl a (by simp);unfold qG;split
  ·split
   ·exact uS _
   ·split
    ·rename_i h7;subst h7;exact kr _
    ·exact uS _
  ·split
   ·rename_i h6;subst h6;exact zj _
   ·exact uS _
 ·rename_i a b;have ha:=hl a (by simp);have hb:=hl b (by simp);split at h
  ·cases h;unfold uB;split
   ·split
    ·exact uS _
    ·unfold He;split
     ·rename_i e;subst e;exact kr _
     ·split
      ·rename_i e;have:(!decide (op=6∨(8≤op∧op≤12)))=true:=by simp;omega
       rw[this];exact kr _
      ·split
       ·rename_i e;subst e;exact kr _
       ·split
        ·rename_i e;subst e;exact kr _
        ·exact uS _
   ·unfold Cb;split
    ·rename_i e;subst e;exact zj _
    ·split
     ·rename_i e;subst e;exact zj _
     ·split
      ·rename_i e;subst e;exact zj _
      ·split
       ·rename_i e;subst e;exact ZD ha
       ·split
        ·rename_i e;subst e;exact ZE ha
        ·split
         ·rename_i e;subst e;exact kr _
         ·split
          ·rename_i e;subst e;exact kr _
          ·split
           ·rename_i e;subst e;exact kr _
           ·split
            ·rename_i e;subst e;exact kr _
            ·split
             ·rename_i e;subst e;exact kr _
             ·split
              ·rename_i e;subst e;exact kr _
              ·exact uS _
  ·cases h
 ·cases h
end Go.Am
end
