/-
  Texts of one proof, one behind the other.
-/
import Derived.Test.YtdjlcobfpppbbaaGreatDoorP4
import Derived.ProofKit
import Derived.ChangeArms
import Derived.ChangeCalls
set_option linter.all false
section
namespace Go.Am
open Go
open Go.Proofs
set_option maxRecDepth 10000
abbrev zk:Nat→List Nat:=fun _=>[]
abbrev zg:Nat→List Gh:=fun _=>[]
abbrev zm:Nat→Bool:=fun _=>false
abbrev zf:aM:=⟨[],false,[],[],false⟩
abbrev zo:Nat→List (List Nat):=fun _=>[]
abbrev zl:Nat→List (Nat×Nat):=fun _=>[]
noncomputable def aeC:List (Nat→List Nat):=[zk,zk,zk,UK,zk,zk,zk,zk,zk,zk,zk,zk,zk,zk,zk,zk,Pr,Ps,Pt,Pu,Pv,Pw,zk,zk,zk,zk,zk,zk,zk,zk,zk,zk,zk,zk,zk,zk,zk,Px,zk,zk,zk,zk,zk,Py,Pz,PA,PB,PC,PD,PE,PF,PG,PH,PI,PJ,PK,PL,zk,zk,zk,zk,zk,zk,zk,zk,zk,zk,zk,zk,zk,zk,zk,zk,PN,zk,PO,zk,zk,zk,zk,zk,PQ,zk,PT,PU,PV,PW,PX,PY,PZ,P0,P1,P2,P3,P4,P5,P6,zk,zk,zk,zk,zk,zk,zk,zk,zk,zk,zk,zk,zk,zk,zk,zk,zk,I1,I2,zk,zk,zk,zk,zk,zk,zk,zk,I3,I4,zk,zk,zk,I5,I6,I7,I8,I9,Ja,Jb,Jc,Jd,Je,Jg,Jh,Ji,Jj,Jk,Jl,Jm,Jn,Jo,Jp,Jq,zk,zk,Jr,zk,zk,zk,zk,zk,zk,zk,zk,zk,zk,zk,Js,Jt,Ju,Jv,Jw,zk,zk,zk,zk,zk,zk,zk,zk,zk,zk,zk,zk,zk,zk,zk,zk,zk,zk,zk,zk,zk,zk,zk,zk,Jx,Jy,Jz,zk,zk,zk,zk,JA,JB,JC,JD,JE,JF,JG,JH,JI,JJ,JK,JL,JM,JN,JO,JP,zk,zk,zk,zk,JQ,JR,JS,zk,zk,zk,zk,zk,zk,zk,zk,zk,zk,zk,zk,zk,zk,zk,zk,zk,zk,zk,zk,zk,zk,zk,zk,zk,zk,zk,zk,zk,zk,zk,zk,zk,zk,zk,zk,zk,zk,zk,JT,JU,JV,JW,JX,JY,JZ,J0,J1,zk,zk,zk,zk,zk,zk,zk,zk,zk,zk,zk,zk,zk,zk,zk,zk,zk,zk,zk,zk,zk,zk,zk,zk,zk,zk,J2,J3,J4,J5,J6,zk,zk,zk,zk,zk,zk,zk,zk,zk,zk,zk,zk,zk,zk,zk,zk,zk,zk,zk,zk,zk,zk,zk,zk,zk,zk,zk,zk,zk,zk,zk,zk,zk,zk,zk,zk,zk,zk,zk,zk,zk,zk,zk,zk,zk,zk,zk,zk,zk,zk,zk,zk,zk,zk,zk,zk,zk,zk,zk,zk,zk,zk]
noncomputable def ghL:List (Nat→List Gh):=[zg,zg,zg,zg,zg,zg,zg,zg,zg,zg,zg,zg,zg,zg,zg,zg,zg,zg,zg,zg,YW,YZ,zg,zg,zg,zg,zg,zg,zg,zg,zg,zg,zg,zg,zg,zg,zg,zg,zg,zg,zg,zg,zg,zg,zg,zg,zg,zg,zg,zg,Y3,zg,zg,zg,zg,zg,zg,zg,zg,zg,zg,zg,zg,zg,zg,zg,zg,zg,zg,zg,zg,zg,zg,zg,zg,zg,zg,zg,zg,zg,zg,Zd,zg,zg,zg,zg,zg,zg,zg,zg,zg,Zh,zg,zg,zg,zg,zg,zg,zg,zg,zg,zg,zg,zg,zg,zg,zg,zg,zg,zg,zg,zg,zg,zg,zg,zg,zg,zg,zg,zg,zg,zg,zg,zg,zg,zg,zg,zg,zg,zg,zg,zg,zg,zg,zg,zg,zg,zg,zg,zg,zg,zg,zg,zg,zg,zg,zg,zg,zg,zg,zg,zg,zg,zg,zg,zg,zg,zg,zg,zg,zg,zg,zg,zg,zg,zg,zg,zg,zg,zg,zg,zg,zg,zg,zg,zg,zg,zg,zg,zg,zg,zg,zg,zg,zg,zg,zg,zg,zg,zg,zg,zg,zg,zg,zg,zg,zg,zg,zg,zg,zg,zg,zg,zg,zg,zg,zg,zg,zg,U8,zg,zg,zg,zg,zg,zg,zg,zg,zg,zg,zg,zg,zg,zg,zg,zg,zg,zg,zg,zg,zg,zg,zg,zg,zg,zg,zg,zg,zg,zg,zg,zg,zg,zg,zg,zg,zg,zg,zg,zg,zg,zg,zg,zg,zg,zg,zg,zg,zg,zg,zg,zg,zg,zg,zg,zg,zg,zg,zg,zg,zg,zg,zg,zg,zg,zg,zg,zg,zg,zg,zg,zg,zg,zg,zg,zg,zg,zg,zg,zg,zg,zg,zg,zg,zg,zg,zg,zg,zg,zg,zg,zg,zg,zg,zg,zg,zg,zg,zg,zg,zg,zg,zg,zg,zg,zg,zg,zg,zg,zg,zg,zg,zg,zg,zg,zg,zg,zg,zg,zg,zg,zg,zg,zg,zg,zg,zg,zg,zg,zg,zg,zg,zg,zg,zg,zg,zg,zg,zg,zg,zg,zg,zg,zg,zg,zg,zg,zg,zg,zg,zg,zg,zg,zg]
noncomputable def mdL:List (Nat→Bool):=[zm,zm,zm,md3,zm,zm,zm,zm,zm,zm,zm,zm,zm,zm,zm,zm,YR,zm,YT,zm,zm,YX,zm,zm,zm,zm,zm,zm,zm,zm,zm,zm,zm,zm,zm,zm,zm,zm,zm,zm,zm,zm,zm,zm,Y0,zm,Y1,zm,zm,zm,zm,zm,zm,zm,Y5,Y6,zm,zm,zm,zm,zm,zm,zm,zm,zm,zm,zm,zm,zm,zm,zm,zm,zm,zm,zm,zm,zm,zm,zm,zm,zm,zm,zm,zm,zm,zm,zm,Zf,zm,zm,zm,zm,zm,Zl,zm,Zm,Zn,zm,zm,zm,zm,zm,zm,zm,zm,zm,zm,zm,zm,zm,zm,zm,zm,zm,zm,zm,zm,zm,zm,zm,zm,zm,zm,zm,UM,zm,zm,zm,zm,zm,zm,zm,zm,zm,zm,zm,zm,zm,zm,zm,zm,zm,zm,zm,zm,UU,UW,zm,zm,zm,zm,zm,zm,zm,zm,zm,zm,zm,zm,zm,zm,zm,zm,zm,zm,zm,zm,U0,zm,zm,zm,zm,zm,zm,zm,zm,zm,zm,zm,zm,zm,zm,zm,zm,zm,zm,zm,zm,zm,zm,zm,zm,zm,U3,zm,zm,zm,zm,zm,zm,U4,zm,zm,zm,zm,zm,zm,zm,zm,zm,zm,zm,zm,zm,zm,zm,zm,zm,zm,zm,zm,zm,zm,zm,zm,zm,zm,zm,zm,zm,zm,zm,zm,zm,zm,zm,zm,zm,zm,zm,zm,zm,zm,zm,zm,zm,zm,zm,zm,zm,zm,zm,zm,zm,zm,zm,zm,zm,zm,zm,zm,zm,zm,zm,zm,zm,zm,zm,zm,Ve,Vg,zm,zm,zm,zm,zm,zm,zm,zm,zm,zm,zm,zm,zm,zm,zm,zm,zm,zm,zm,zm,zm,zm,zm,zm,zm,zm,zm,zm,zm,zm,zm,zm,zm,zm,zm,zm,zm,zm,zm,zm,zm,zm,zm,zm,zm,zm,zm,zm,zm,zm,zm,zm,zm,zm,zm,zm,zm,zm,zm,zm,zm,zm,zm,zm,zm,zm,zm,zm,zm,zm,zm,zm,zm,zm,zm,zm,zm,zm,zm,zm,zm,zm,zm,zm,zm,zm,zm,zm,zm,zm,zm,zm,zm]
noncomputable def fpL:List (aM):=[zf,zf,zf,YQ,zf,zf,zf,zf,zf,zf,zf,zf,zf,zf,zf,zf,YS,Ss,Su,Sv,Sw,Sx,zf,zf,zf,zf,zf,zf,zf,zf,zf,zf,zf,zf,zf,zf,zf,Sy,zf,zf,zf,zf,zf,Sz,SA,SB,SC,SD,SF,SG,SH,SI,SJ,SK,SL,SM,SN,zf,zf,zf,zf,zf,zf,zf,zf,zf,zf,zf,zf,zf,zf,zf,zf,SO,zf,SP,zf,zf,zf,zf,zf,SQ,zf,SR,SU,Ze,SV,SW,SX,SY,SZ,S5,S6,S7,S8,S9,Ta,zf,zf,zf,zf,zf,zf,zf,zf,zf,zf,zf,zf,zf,zf,zf,zf,zf,Mf,UL,zf,zf,zf,zf,zf,zf,zf,zf,Mg,Mh,zf,zf,zf,Mi,Mj,Ml,Mm,Mn,Mo,Mp,Mq,Mr,Mt,Mu,Mv,Mw,Mx,My,Mz,MA,MB,MD,ME,MF,zf,zf,MG,zf,zf,zf,zf,zf,zf,zf,zf,zf,zf,zf,UZ,MH,MI,U1,U2,zf,zf,zf,zf,zf,zf,zf,zf,zf,zf,zf,zf,zf,zf,zf,zf,zf,zf,zf,zf,zf,zf,zf,zf,MJ,MK,ML,zf,zf,zf,zf,MM,MN,MO,MP,MQ,MR,MS,MT,MU,MV,MW,MX,MY,MZ,M0,Na,zf,zf,zf,zf,Vb,Vc,Vd,zf,zf,zf,zf,zf,zf,zf,zf,zf,zf,zf,zf,zf,zf,zf,zf,zf,zf,zf,zf,zf,zf,zf,zf,zf,zf,zf,zf,zf,zf,zf,zf,zf,zf,zf,zf,zf,zf,zf,Nb,Nc,Nd,Nf,Ng,Nh,Ni,Vf,Vh,zf,zf,zf,zf,zf,zf,zf,zf,zf,zf,zf,zf,zf,zf,zf,zf,zf,zf,zf,zf,zf,zf,zf,zf,zf,zf,Nj,Nk,Nl,Vj,Vm,zf,zf,zf,zf,zf,zf,zf,zf,zf,zf,zf,zf,zf,zf,zf,zf,zf,zf,zf,zf,zf,zf,zf,zf,zf,zf,zf,zf,zf,zf,zf,zf,zf,zf,zf,zf,zf,zf,zf,zf,zf,zf,zf,zf,zf,zf,zf,zf,zf,zf,zf,zf,zf,zf,zf,zf,zf,zf,zf,zf,zf,zf]
noncomputable def odL:List (Nat→List (List Nat)):=[zo,zo,zo,zo,zo,od5,od6,zo,zo,zo,zo,akg,akh,aki,zo,akj,zo,zo,zo,YU,YV,YY,zo,akk,zo,akl,akm,zo,zo,zo,akn,ako,zo,akp,zo,zo,zo,zo,zo,zo,zo,zo,akq,zo,zo,zo,Y2,zo,zo,zo,zo,zo,zo,Y4,zo,Za,zo,akr,zo,zo,zo,zo,zo,zo,zo,zo,zo,zo,aks,zo,akt,aku,zo,zo,zo,Zb,akv,zo,akw,akx,aky,Zc,zo,zo,zo,zo,zo,zo,zo,zo,zo,Zg,Zj,zo,zo,zo,zo,zo,zo,zo,adE,zo,zo,zo,zo,adF,zo,zo,adG,adH,zo,adI,zo,adJ,zo,zo,zo,adK,adL,zo,zo,zo,adM,adN,zo,zo,adO,adP,zo,zo,UN,zo,UO,zo,UP,zo,UQ,UR,zo,US,zo,zo,UT,zo,zo,zo,zo,zo,UX,zo,zo,zo,UY,adQ,adR,zo,adS,adT,zo,zo,adU,zo,adV,adW,zo,zo,zo,zo,zo,zo,adX,zo,zo,zo,zo,zo,adY,zo,adZ,zo,ad0,zo,zo,zo,zo,zo,ad1,zo,ad2,zo,ad3,ad4,ad5,zo,zo,zo,zo,zo,zo,ad6,zo,zo,U5,zo,zo,zo,U6,zo,U7,zo,U9,Va,zo,zo,zo,zo,ad7,zo,zo,zo,zo,zo,zo,ad8,zo,zo,zo,ad9,zo,zo,zo,zo,zo,zo,zo,zo,aea,zo,zo,zo,aeb,zo,aec,zo,zo,zo,aed,zo,zo,zo,zo,zo,aee,zo,zo,aef,zo,aeg,zo,aeh,zo,aei,zo,zo,zo,zo,zo,zo,zo,zo,zo,zo,aej,zo,zo,zo,zo,zo,aek,zo,zo,zo,zo,zo,ael,zo,zo,zo,zo,zo,aem,aen,zo,aeo,aep,zo,zo,zo,zo,zo,Vi,Vk,zo,zo,zo,zo,zo,zo,zo,zo,aeq,zo,zo,aer,aes,aet,zo,aeu,zo,aev,aew,aex,zo,aey,zo,zo,zo,zo,zo,zo,zo,zo,aez,zo,zo,zo,aeA,zo,zo,aeB,zo,zo,zo,zo,zo,zo,zo,zo,zo,zo,zo,zo,zo,zo,zo,zo,zo,zo,zo,zo,zo,zo,zo,zo]
noncomputable def flL:List (Nat→List (Nat×Nat)):=[zl,zl,zl,zl,zl,zl,zl,zl,zl,zl,zl,zl,zl,zl,zl,zl,zl,zl,zl,zl,zl,zl,zl,zl,zl,zl,zl,zl,zl,zl,zl,zl,zl,zl,zl,zl,zl,zl,zl,zl,zl,zl,zl,zl,zl,zl,zl,zl,zl,zl,zl,zl,zl,zl,zl,zl,zl,zl,zl,zl,zl,zl,zl,zl,zl,zl,zl,zl,zl,zl,zl,zl,zl,zl,zl,zl,zl,zl,zl,zl,zl,zl,zl,zl,zl,zl,zl,zl,zl,zl,zl,Zi,Zk,zl,zl,zl,zl,zl,zl,zl,zl,zl,zl,zl,zl,zl,zl,zl,zl,zl,zl,zl,zl,zl,zl,zl,zl,zl,zl,zl,zl,zl,zl,zl,zl,zl,zl,zl,zl,zl,zl,zl,zl,zl,zl,zl,zl,zl,zl,zl,zl,zl,zl,zl,zl,zl,zl,zl,zl,zl,zl,zl,zl,zl,zl,zl,zl,zl,zl,zl,zl,zl,zl,zl,zl,zl,zl,zl,zl,zl,zl,zl,zl,zl,zl,zl,zl,zl,zl,zl,zl,zl,zl,zl,zl,zl,zl,zl,zl,zl,zl,zl,zl,zl,zl,zl,zl,zl,zl,zl,zl,zl,zl,zl,zl,zl,zl,zl,zl,zl,zl,zl,zl,zl,zl,zl,zl,zl,zl,zl,zl,zl,zl,zl,zl,zl,zl,zl,zl,zl,zl,zl,zl,zl,zl,zl,zl,zl,zl,zl,zl,zl,zl,zl,zl,zl,zl,zl,zl,zl,zl,zl,zl,zl,zl,zl,zl,zl,zl,zl,zl,zl,zl,zl,zl,zl,zl,zl,zl,zl,zl,zl,zl,zl,zl,zl,zl,zl,zl,zl,zl,zl,zl,zl,zl,zl,zl,zl,zl,zl,zl,zl,zl,zl,zl,zl,zl,zl,zl,zl,zl,zl,zl,zl,zl,zl,zl,zl,zl,zl,zl,zl,zl,zl,zl,zl,zl,zl,zl,zl,zl,zl,zl,zl,zl,zl,zl,zl,zl,zl,zl,zl,zl,zl,zl,zl,zl,zl,zl,zl,zl,zl,zl,zl,zl,zl,zl,zl,zl,zl,zl,zl,zl,zl,zl,zl,zl,zl,zl,zl,zl,zl,zl,zl]
def b6:Type:=Int
variable [Inhabited b6]
def Cw:List Int:=[0,0,0,0,0,0,0,0,0,1,1,1,1,1,0,0,0,0,0,0,0,0,0,0,0,0,0,0,0,0,0,0,1,0,0,0,0,0,0,0,0,0,0,0,0,0,0,0,0,0,0,0,0,0,0,0,0,0,0,0,0,0,0,0,0,0,0,0,0,0,0,0,0,0,0,0,0,0,0,0,0,0,0,0,0,0,0,0,0,0,0,0,0,0,0,0,0,0,0,0,0,0,0,0,0,0,0,0,0,0,0,0,0,0,0,0,0,0,0,0,0,0,0,0,0,0,0,0,0,0,0,0,0,0,0,0,0,0,0,0,0,0,0,0,0,0,0,0,0,0,0,0,0,0,0,0,0,0,0,0,0,0,0,0,0,0,0,0,0,0,0,0,0,0,0,0,0,0,0,0,0,0,0,0,0,0,0,0,0,0,0,0,0,0,0,0,0,0,0,0,0,0,0,0,0,0,0,0,0,0,0,0,0,0,0,0,0,0,0,0,0,0,0,0,0,0,0,0,0,0,0,0,0,0,0,0,0,0,0,0,0,0,0,0,0,0,0,0,0,0,0,0,0,0,0,0]
def aB:List (Nat×D):=[(0,.agg (Cw.map fun z=>.int .u8 z)),(2,.int .i64 (id (α:=Int) (default:b6)))]
@[simp] theorem arA:glk aB 0=some (.agg (Cw.map fun z=>.int .u8 z)):=rfl
def Tb:FuncId→Option (List AV→Option AV)
 |_=>none
noncomputable def ctx:Ctx:=⟨Tryz.prog,aB,fun f=>aeC.getD f (fun _=>[]),fun f=>ghL.getD f (fun _=>[]),fun f=>mdL.getD f (fun _=>false),fun f=>fpL.getD f ⟨[],false,[],[],false⟩,fun f=>odL.getD f (fun _=>[]),Tb,fun f=>flL.getD f (fun _=>[]),none⟩
@[simp] theorem arB:ctx.P=Tryz.prog:=rfl
@[simp] theorem apV:ctx.gl=aB:=rfl
@[simp] def bh (fn:Func):Code:=fn.body.getD .skip
abbrev EF (n:Nat) (k:Nat→List Nat) (g:Nat→List Gh) (m:Nat→Bool) (p:aM) (l:Nat→List (Nat×Nat)) (o:Nat→List (List Nat)):Prop:=ctx.oW n=k∧ctx.gh n=g∧ctx.md n=m∧ctx.fp n=p∧ctx.fl n=l∧ctx.od n=o
abbrev RF (n c:Nat) (p:aM) (fn:Func) (rs:List ResultVar):Prop:=∀{args:List AV} {cs:List aD},callOk c p args cs=true→ai ctx n args cs=aG ctx n (bh fn) (entry c aB args cs p.sites) (Ct Tryz.prog p cs.length rs)
@[simp] theorem E3:EF 3 UK zg md3 YQ zl zo:=⟨rfl,rfl,rfl,rfl,rfl,rfl⟩
theorem akz:RF 3 32 YQ Tryz.f3 [.tmp 2]:=ax rfl rfl Tryz.func3 rfl (by kernel_rfl) Tryz.ntmps3 (by rw[Tryz.results3]) rfl rfl
@[simp] theorem E16:EF 16 Pr zg YR YS zl zo:=⟨rfl,rfl,rfl,rfl,rfl,rfl⟩
@[simp] theorem E17:EF 17 Ps zg zm Ss zl zo:=⟨rfl,rfl,rfl,rfl,rfl,rfl⟩
theorem aeD:RF 17 18 Ss Tryz.f17 [.tmp 2]:=ax rfl rfl Tryz.func17 rfl (by kernel_rfl) Tryz.ntmps17 (by rw[Tryz.results17]) rfl rfl
@[simp] theorem E18:EF 18 Pt zg YT Su zl zo:=⟨rfl,rfl,rfl,rfl,rfl,rfl⟩
theorem aeE:RF 18 129 Su Tryz.f18 [.tmp 2]:=ax rfl rfl Tryz.func18 rfl (by kernel_rfl) Tryz.ntmps18 (by rw[Tryz.results18]) rfl rfl
@[simp] theorem E19:EF 19 Pu zg zm Sv zl YU:=⟨rfl,rfl,rfl,rfl,rfl,rfl⟩
theorem aeF:RF 19 58 Sv Tryz.f19 [.cell 2 29]:=ax rfl rfl Tryz.func19 rfl (by kernel_rfl) Tryz.ntmps19 (by rw[Tryz.results19]) rfl rfl
@[simp] theorem E20:EF 20 Pv YW zm Sw zl YV:=⟨rfl,rfl,rfl,rfl,rfl,rfl⟩
theorem aeG:RF 20 51 Sw Tryz.f20 [.cell 2 33,.tmp 3]:=ax rfl rfl Tryz.func20 rfl (by kernel_rfl) Tryz.ntmps20 (by rw[Tryz.results20]) rfl rfl
@[simp] theorem E21:EF 21 Pw YZ YX Sx zl YY:=⟨rfl,rfl,rfl,rfl,rfl,rfl⟩
theorem aeH:RF 21 22 Sx Tryz.f21 [.tmp 2]:=ax rfl rfl Tryz.func21 rfl (by kernel_rfl) Tryz.ntmps21 (by rw[Tryz.results21]) rfl rfl
@[simp] theorem E37:EF 37 Px zg zm Sy zl zo:=⟨rfl,rfl,rfl,rfl,rfl,rfl⟩
theorem aeI:RF 37 8 Sy Tryz.f37 [.cell 2 25]:=ax rfl rfl Tryz.func37 rfl (by kernel_rfl) Tryz.ntmps37 (by rw[Tryz.results37]) rfl rfl
@[simp] theorem E43:EF 43 Py zg zm Sz zl zo:=⟨rfl,rfl,rfl,rfl,rfl,rfl⟩
theorem aeJ:RF 43 21 Sz Tryz.f43 [.tmp 4,.tmp 5]:=ax rfl rfl Tryz.func43 rfl (by kernel_rfl) Tryz.ntmps43 (by rw[Tryz.results43]) rfl rfl
@[simp] theorem E44:EF 44 Pz zg Y0 SA zl zo:=⟨rfl,rfl,rfl,rfl,rfl,rfl⟩
theorem aeK:RF 44 59 SA Tryz.f44 [.tmp 2]:=ax rfl rfl Tryz.func44 rfl (by kernel_rfl) Tryz.ntmps44 (by rw[Tryz.results44]) rfl rfl
@[simp] theorem E45:EF 45 PA zg zm SB zl zo:=⟨rfl,rfl,rfl,rfl,rfl,rfl⟩
theorem aeL:RF 45 24 SB Tryz.f45 [.tmp 2]:=ax rfl rfl Tryz.func45 rfl (by kernel_rfl) Tryz.ntmps45 (by rw[Tryz.results45]) rfl rfl
@[simp] theorem E46:EF 46 PB zg Y1 SC zl Y2:=⟨rfl,rfl,rfl,rfl,rfl,rfl⟩
theorem aeM:RF 46 258 SC Tryz.f46 [.tmp 2]:=ax rfl rfl Tryz.func46 rfl (by kernel_rfl) Tryz.ntmps46 (by rw[Tryz.results46]) rfl rfl
@[simp] theorem E47:EF 47 PC zg zm SD zl zo:=⟨rfl,rfl,rfl,rfl,rfl,rfl⟩
theorem aeN:RF 47 25 SD Tryz.f47 [.cell 4 71,.tmp 5]:=ax rfl rfl Tryz.func47 rfl (by kernel_rfl) Tryz.ntmps47 (by rw[Tryz.results47]) rfl rfl
@[simp] theorem E48:EF 48 PD zg zm SF zl zo:=⟨rfl,rfl,rfl,rfl,rfl,rfl⟩
theorem aeO:RF 48 18 SF Tryz.f48 [.tmp 2]:=ax rfl rfl Tryz.func48 rfl (by kernel_rfl) Tryz.ntmps48 (by rw[Tryz.results48]) rfl rfl
@[simp] theorem E49:EF 49 PE zg zm SG zl zo:=⟨rfl,rfl,rfl,rfl,rfl,rfl⟩
theorem aeP:RF 49 27 SG Tryz.f49 [.cell 6 29]:=ax rfl rfl Tryz.func49 rfl (by kernel_rfl) Tryz.ntmps49 (by rw[Tryz.results49]) rfl rfl
@[simp] theorem E50:EF 50 PF Y3 zm SH zl zo:=⟨rfl,rfl,rfl,rfl,rfl,rfl⟩
theorem aeQ:RF 50 51 SH Tryz.f50 [.cell 2 79]:=ax rfl rfl Tryz.func50 rfl (by kernel_rfl) Tryz.ntmps50 (by rw[Tryz.results50]) rfl rfl
@[simp] theorem E51:EF 51 PG zg zm SI zl zo:=⟨rfl,rfl,rfl,rfl,rfl,rfl⟩
theorem aeR:RF 51 16 SI Tryz.f51 []:=ax rfl rfl Tryz.func51 rfl (by kernel_rfl) Tryz.ntmps51 (by rw[Tryz.results51]) rfl rfl
@[simp] theorem E52:EF 52 PH zg zm SJ zl zo:=⟨rfl,rfl,rfl,rfl,rfl,rfl⟩
theorem Vn:RF 52 16 SJ Tryz.f52 []:=ax rfl rfl Tryz.func52 rfl (by kernel_rfl) Tryz.ntmps52 (by rw[Tryz.results52]) rfl rfl
@[simp] theorem E53:EF 53 PI zg zm SK zl Y4:=⟨rfl,rfl,rfl,rfl,rfl,rfl⟩
theorem Nn:RF 53 43 SK Tryz.f53 [.tmp 6]:=ax rfl rfl Tryz.func53 rfl (by kernel_rfl) Tryz.ntmps53 (by rw[Tryz.results53]) rfl rfl
@[simp] theorem E54:EF 54 PJ zg Y5 SL zl zo:=⟨rfl,rfl,rfl,rfl,rfl,rfl⟩
theorem aeS:RF 54 66 SL Tryz.f54 [.tmp 2]:=ax rfl rfl Tryz.func54 rfl (by kernel_rfl) Tryz.ntmps54 (by rw[Tryz.results54]) rfl rfl
@[simp] theorem E55:EF 55 PK zg Y6 SM zl Za:=⟨rfl,rfl,rfl,rfl,rfl,rfl⟩
theorem aeT:RF 55 63 SM Tryz.f55 [.tmp 2]:=ax rfl rfl Tryz.func55 rfl (by kernel_rfl) Tryz.ntmps55 (by rw[Tryz.results55]) rfl rfl
@[simp] theorem E56:EF 56 PL zg zm SN zl zo:=⟨rfl,rfl,rfl,rfl,rfl,rfl⟩
theorem aeU:RF 56 26 SN Tryz.f56 [.tmp 2]:=ax rfl rfl Tryz.func56 rfl (by kernel_rfl) Tryz.ntmps56 (by rw[Tryz.results56]) rfl rfl
@[simp] theorem E73:EF 73 PN zg zm SO zl zo:=⟨rfl,rfl,rfl,rfl,rfl,rfl⟩
theorem aeV:RF 73 77 SO Tryz.f73 [.tmp 2]:=ax rfl rfl Tryz.func73 rfl (by kernel_rfl) Tryz.ntmps73 (by rw[Tryz.results73]) rfl rfl
@[simp] theorem E75:EF 75 PO zg zm SP zl Zb:=⟨rfl,rfl,rfl,rfl,rfl,rfl⟩
theorem Vo:RF 75 30 SP Tryz.f75 [.tmp 2]:=ax rfl rfl Tryz.func75 rfl (by kernel_rfl) Tryz.ntmps75 (by rw[Tryz.results75]) rfl rfl
@[simp] theorem E81:EF 81 PQ Zd zm SQ zl Zc:=⟨rfl,rfl,rfl,rfl,rfl,rfl⟩
theorem aeW:RF 81 48 SQ Tryz.f81 [.tmp 2]:=ax rfl rfl Tryz.func81 rfl (by kernel_rfl) Tryz.ntmps81 (by rw[Tryz.results81]) rfl rfl
@[simp] theorem E83:EF 83 PT zg zm SR zl zo:=⟨rfl,rfl,rfl,rfl,rfl,rfl⟩
theorem aeX:RF 83 136 SR Tryz.f83 [.tmp 4,.tmp 5]:=ax rfl rfl Tryz.func83 rfl (by kernel_rfl) Tryz.ntmps83 (by rw[Tryz.results83]) rfl rfl
@[simp] theorem E84:EF 84 PU zg zm SU zl zo:=⟨rfl,rfl,rfl,rfl,rfl,rfl⟩
theorem aeY:RF 84 15 SU Tryz.f84 [.tmp 2]:=ax rfl rfl Tryz.func84 rfl (by kernel_rfl) Tryz.ntmps84 (by rw[Tryz.results84]) rfl rfl
@[simp] theorem E85:EF 85 PV zg zm Ze zl zo:=⟨rfl,rfl,rfl,rfl,rfl,rfl⟩
@[simp] theorem E86:EF 86 PW zg zm SV zl zo:=⟨rfl,rfl,rfl,rfl,rfl,rfl⟩
theorem aeZ:RF 86 27 SV Tryz.f86 [.tmp 2,.tmp 3,.tmp 4]:=ax rfl rfl Tryz.func86 rfl (by kernel_rfl) Tryz.ntmps86 (by rw[Tryz.results86]) rfl rfl
@[simp] theorem E87:EF 87 PX zg Zf SW zl zo:=⟨rfl,rfl,rfl,rfl,rfl,rfl⟩
theorem ae0:RF 87 126 SW Tryz.f87 [.tmp 2]:=ax rfl rfl Tryz.func87 rfl (by kernel_rfl) Tryz.ntmps87 (by rw[Tryz.results87]) rfl rfl
@[simp] theorem E88:EF 88 PY zg zm SX zl zo:=⟨rfl,rfl,rfl,rfl,rfl,rfl⟩
theorem ae1:RF 88 25 SX Tryz.f88 [.tmp 2]:=ax rfl rfl Tryz.func88 rfl (by kernel_rfl) Tryz.ntmps88 (by rw[Tryz.results88]) rfl rfl
@[simp] theorem E89:EF 89 PZ zg zm SY zl zo:=⟨rfl,rfl,rfl,rfl,rfl,rfl⟩
theorem ml:RF 89 242 SY Tryz.f89 [.cell 6 29]:=ax rfl rfl Tryz.func89 rfl (by kernel_rfl) Tryz.ntmps89 (by rw[Tryz.results89]) rfl rfl
@[simp] theorem E90:EF 90 P0 zg zm SZ zl zo:=⟨rfl,rfl,rfl,rfl,rfl,rfl⟩
theorem ae2:RF 90 20 SZ Tryz.f90 [.tmp 2]:=ax rfl rfl Tryz.func90 rfl (by kernel_rfl) Tryz.ntmps90 (by rw[Tryz.results90]) rfl rfl
@[simp] theorem E91:EF 91 P1 Zh zm S5 Zi Zg:=⟨rfl,rfl,rfl,rfl,rfl,rfl⟩
theorem sG:RF 91 83 S5 Tryz.f91 []:=ax rfl rfl Tryz.func91 rfl (by kernel_rfl) Tryz.ntmps91 (by rw[Tryz.results91]) rfl rfl
@[simp] theorem E92:EF 92 P2 zg zm S6 Zk Zj:=⟨rfl,rfl,rfl,rfl,rfl,rfl⟩
theorem ae3:RF 92 13 S6 Tryz.f92 []:=ax rfl rfl Tryz.func92 rfl (by kernel_rfl) Tryz.ntmps92 (by rw[Tryz.results92]) rfl rfl
@[simp] theorem E93:EF 93 P3 zg Zl S7 zl zo:=⟨rfl,rfl,rfl,rfl,rfl,rfl⟩
theorem ae4:RF 93 85 S7 Tryz.f93 [.tmp 6]:=ax rfl rfl Tryz.func93 rfl (by kernel_rfl) Tryz.ntmps93 (by rw[Tryz.results93]) rfl rfl
@[simp] theorem E94:EF 94 P4 zg zm S8 zl zo:=⟨rfl,rfl,rfl,rfl,rfl,rfl⟩
theorem ae5:RF 94 9 S8 Tryz.f94 [.tmp 2]:=ax rfl rfl Tryz.func94 rfl (by kernel_rfl) Tryz.ntmps94 (by rw[Tryz.results94]) rfl rfl
@[simp] theorem E95:EF 95 P5 zg Zm S9 zl zo:=⟨rfl,rfl,rfl,rfl,rfl,rfl⟩
theorem ae6:RF 95 92 S9 Tryz.f95 [.tmp 4]:=ax rfl rfl Tryz.func95 rfl (by kernel_rfl) Tryz.ntmps95 (by rw[Tryz.results95]) rfl rfl
@[simp] theorem E96:EF 96 P6 zg Zn Ta zl zo:=⟨rfl,rfl,rfl,rfl,rfl,rfl⟩
theorem ae7:RF 96 67 Ta Tryz.f96 [.tmp 6]:=ax rfl rfl Tryz.func96 rfl (by kernel_rfl) Tryz.ntmps96 (by rw[Tryz.results96]) rfl rfl
@[simp] theorem arZ:EF 114 I1 zg zm Mf zl zo:=⟨rfl,rfl,rfl,rfl,rfl,rfl⟩
theorem P7:RF 114 17 Mf Tryz.f114 [.cell 2 178,.tmp 3]:=ax rfl rfl Tryz.func114 rfl (by kernel_rfl) Tryz.ntmps114 (by rw[Tryz.results114]) rfl rfl
@[simp] theorem ar0:EF 115 I2 zg zm UL zl zo:=⟨rfl,rfl,rfl,rfl,rfl,rfl⟩
@[simp] theorem ar1:EF 124 I3 zg UM Mg zl zo:=⟨rfl,rfl,rfl,rfl,rfl,rfl⟩
theorem Zo:RF 124 105 Mg Tryz.f124 [.cell 2 136]:=ax rfl rfl Tryz.func124 rfl (by kernel_rfl) Tryz.ntmps124 (by rw[Tryz.results124]) rfl rfl
@[simp] theorem ar2:EF 125 I4 zg zm Mh zl zo:=⟨rfl,rfl,rfl,rfl,rfl,rfl⟩
theorem Zp:RF 125 19 Mh Tryz.f125 [.tmp 2]:=ax rfl rfl Tryz.func125 rfl (by kernel_rfl) Tryz.ntmps125 (by rw[Tryz.results125]) rfl rfl
@[simp] theorem ar3:EF 129 I5 zg zm Mi zl zo:=⟨rfl,rfl,rfl,rfl,rfl,rfl⟩
theorem Zq:RF 129 44 Mi Tryz.f129 [.tmp 4,.tmp 5]:=ax rfl rfl Tryz.func129 rfl (by kernel_rfl) Tryz.ntmps129 (by rw[Tryz.results129]) rfl rfl
@[simp] theorem ar4:EF 130 I6 zg zm Mj zl UN:=⟨rfl,rfl,rfl,rfl,rfl,rfl⟩
theorem ew:RF 130 155 Mj Tryz.f130 [.tmp 4,.cell 5 29]:=ax rfl rfl Tryz.func130 rfl (by kernel_rfl) Tryz.ntmps130 (by rw[Tryz.results130]) rfl rfl
@[simp] theorem ar5:EF 131 I7 zg zm Ml zl zo:=⟨rfl,rfl,rfl,rfl,rfl,rfl⟩
theorem Zr:RF 131 27 Ml Tryz.f131 [.cell 6 29]:=ax rfl rfl Tryz.func131 rfl (by kernel_rfl) Tryz.ntmps131 (by rw[Tryz.results131]) rfl rfl
@[simp] theorem ar6:EF 132 I8 zg zm Mm zl UO:=⟨rfl,rfl,rfl,rfl,rfl,rfl⟩
theorem Zs:RF 132 91 Mm Tryz.f132 [.cell 4 29]:=ax rfl rfl Tryz.func132 rfl (by kernel_rfl) Tryz.ntmps132 (by rw[Tryz.results132]) rfl rfl
@[simp] theorem ar7:EF 133 I9 zg zm Mn zl zo:=⟨rfl,rfl,rfl,rfl,rfl,rfl⟩
theorem Zt:RF 133 5 Mn Tryz.f133 []:=ax rfl rfl Tryz.func133 rfl (by kernel_rfl) Tryz.ntmps133 (by rw[Tryz.results133]) rfl rfl
@[simp] theorem ar8:EF 134 Ja zg zm Mo zl UP:=⟨rfl,rfl,rfl,rfl,rfl,rfl⟩
theorem P8:RF 134 49 Mo Tryz.f134 []:=ax rfl rfl Tryz.func134 rfl (by kernel_rfl) Tryz.ntmps134 (by rw[Tryz.results134]) rfl rfl
@[simp] theorem ar9:EF 135 Jb zg zm Mp zl zo:=⟨rfl,rfl,rfl,rfl,rfl,rfl⟩
theorem P9:RF 135 49 Mp Tryz.f135 []:=ax rfl rfl Tryz.func135 rfl (by kernel_rfl) Tryz.ntmps135 (by rw[Tryz.results135]) rfl rfl
@[simp] theorem asa:EF 136 Jc zg zm Mq zl UQ:=⟨rfl,rfl,rfl,rfl,rfl,rfl⟩
theorem Zu:RF 136 11 Mq Tryz.f136 []:=ax rfl rfl Tryz.func136 rfl (by kernel_rfl) Tryz.ntmps136 (by rw[Tryz.results136]) rfl rfl
@[simp] theorem asb:EF 137 Jd zg zm Mr zl UR:=⟨rfl,rfl,rfl,rfl,rfl,rfl⟩
theorem rN:RF 137 141 Mr Tryz.f137 [.tmp 4]:=ax rfl rfl Tryz.func137 rfl (by kernel_rfl) Tryz.ntmps137 (by rw[Tryz.results137]) rfl rfl
@[simp] theorem asc:EF 138 Je zg zm Mt zl zo:=⟨rfl,rfl,rfl,rfl,rfl,rfl⟩
theorem Zv:RF 138 22 Mt Tryz.f138 []:=ax rfl rfl Tryz.func138 rfl (by kernel_rfl) Tryz.ntmps138 (by rw[Tryz.results138]) rfl rfl
@[simp] theorem asd:EF 139 Jg zg zm Mu zl US:=⟨rfl,rfl,rfl,rfl,rfl,rfl⟩
theorem Zw:RF 139 47 Mu Tryz.f139 []:=ax rfl rfl Tryz.func139 rfl (by kernel_rfl) Tryz.ntmps139 (by rw[Tryz.results139]) rfl rfl
@[simp] theorem ase:EF 140 Jh zg zm Mv zl zo:=⟨rfl,rfl,rfl,rfl,rfl,rfl⟩
theorem Qa:RF 140 7 Mv Tryz.f140 []:=ax rfl rfl Tryz.func140 rfl (by kernel_rfl) Tryz.ntmps140 (by rw[Tryz.results140]) rfl rfl
@[simp] theorem asf:EF 141 Ji zg zm Mw zl zo:=⟨rfl,rfl,rfl,rfl,rfl,rfl⟩
theorem Gm:RF 141 9 Mw Tryz.f141 [.tmp 4]:=ax rfl rfl Tryz.func141 rfl (by kernel_rfl) Tryz.ntmps141 (by rw[Tryz.results141]) rfl rfl
@[simp] theorem ash:EF 142 Jj zg zm Mx zl UT:=⟨rfl,rfl,rfl,rfl,rfl,rfl⟩
theorem Zx:RF 142 60 Mx Tryz.f142 []:=ax rfl rfl Tryz.func142 rfl (by kernel_rfl) Tryz.ntmps142 (by rw[Tryz.results142]) rfl rfl
@[simp] theorem asi:EF 143 Jk zg zm My zl zo:=⟨rfl,rfl,rfl,rfl,rfl,rfl⟩
theorem Zy:RF 143 8 My Tryz.f143 [.tmp 2]:=ax rfl rfl Tryz.func143 rfl (by kernel_rfl) Tryz.ntmps143 (by rw[Tryz.results143]) rfl rfl
@[simp] theorem asj:EF 144 Jl zg zm Mz zl zo:=⟨rfl,rfl,rfl,rfl,rfl,rfl⟩
theorem Zz:RF 144 33 Mz Tryz.f144 [.tmp 6]:=ax rfl rfl Tryz.func144 rfl (by kernel_rfl) Tryz.ntmps144 (by rw[Tryz.results144]) rfl rfl
@[simp] theorem asl:EF 145 Jm zg UU MA zl zo:=⟨rfl,rfl,rfl,rfl,rfl,rfl⟩
theorem ZA:RF 145 32 MA Tryz.f145 [.tmp 4]:=ax rfl rfl Tryz.func145 rfl (by kernel_rfl) Tryz.ntmps145 (by rw[Tryz.results145]) rfl rfl
@[simp] theorem asm:EF 146 Jn zg UW MB zl zo:=⟨rfl,rfl,rfl,rfl,rfl,rfl⟩
theorem ZB:RF 146 47 MB Tryz.f146 [.tmp 2]:=ax rfl rfl Tryz.func146 rfl (by kernel_rfl) Tryz.ntmps146 (by rw[Tryz.results146]) rfl rfl
@[simp] theorem asn:EF 147 Jo zg zm MD zl zo:=⟨rfl,rfl,rfl,rfl,rfl,rfl⟩
theorem ZC:RF 147 21 MD Tryz.f147 [.tmp 4]:=ax rfl rfl Tryz.func147 rfl (by kernel_rfl) Tryz.ntmps147 (by rw[Tryz.results147]) rfl rfl
@[simp] theorem aso:EF 148 Jp zg zm ME zl UX:=⟨rfl,rfl,rfl,rfl,rfl,rfl⟩
theorem ZD:RF 148 54 ME Tryz.f148 [.tmp 6]:=ax rfl rfl Tryz.func148 rfl (by kernel_rfl) Tryz.ntmps148 (by rw[Tryz.results148]) rfl rfl
@[simp] theorem asp:EF 149 Jq zg zm MF zl zo:=⟨rfl,rfl,rfl,rfl,rfl,rfl⟩
theorem ZE:RF 149 24 MF Tryz.f149 [.tmp 4]:=ax rfl rfl Tryz.func149 rfl (by kernel_rfl) Tryz.ntmps149 (by rw[Tryz.results149]) rfl rfl
@[simp] theorem asq:EF 152 Jr zg zm MG zl UY:=⟨rfl,rfl,rfl,rfl,rfl,rfl⟩
theorem Qb:RF 152 93 MG Tryz.f152 [.tmp 6,.tmp 7,.tmp 8]:=ax rfl rfl Tryz.func152 rfl (by kernel_rfl) Tryz.ntmps152 (by rw[Tryz.results152]) rfl rfl
@[simp] theorem asr:EF 164 Js zg zm UZ zl zo:=⟨rfl,rfl,rfl,rfl,rfl,rfl⟩
@[simp] theorem ass:EF 165 Jt zg zm MH zl zo:=⟨rfl,rfl,rfl,rfl,rfl,rfl⟩
theorem Qc:RF 165 19 MH Tryz.f165 [.tmp 4]:=ax rfl rfl Tryz.func165 rfl (by kernel_rfl) Tryz.ntmps165 (by rw[Tryz.results165]) rfl rfl
@[simp] theorem ast:EF 166 Ju zg zm MI zl zo:=⟨rfl,rfl,rfl,rfl,rfl,rfl⟩
theorem Qd:RF 166 8 MI Tryz.f166 [.tmp 3]:=ax rfl rfl Tryz.func166 rfl (by kernel_rfl) Tryz.ntmps166 (by rw[Tryz.results166]) rfl rfl
@[simp] theorem asu:EF 167 Jv zg U0 U1 zl zo:=⟨rfl,rfl,rfl,rfl,rfl,rfl⟩
@[simp] theorem asv:EF 168 Jw zg zm U2 zl zo:=⟨rfl,rfl,rfl,rfl,rfl,rfl⟩
@[simp] theorem asw:EF 193 Jx zg U3 MJ zl zo:=⟨rfl,rfl,rfl,rfl,rfl,rfl⟩
theorem ZF:RF 193 41 MJ Tryz.f193 [.tmp 2,.tmp 3,.tmp 4]:=ax rfl rfl Tryz.func193 rfl (by kernel_rfl) Tryz.ntmps193 (by rw[Tryz.results193]) rfl rfl
@[simp] theorem asx:EF 194 Jy zg zm MK zl zo:=⟨rfl,rfl,rfl,rfl,rfl,rfl⟩
theorem ZG:RF 194 4 MK Tryz.f194 [.tmp 2]:=ax rfl rfl Tryz.func194 rfl (by kernel_rfl) Tryz.ntmps194 (by rw[Tryz.results194]) rfl rfl
@[simp] theorem asy:EF 195 Jz zg zm ML zl zo:=⟨rfl,rfl,rfl,rfl,rfl,rfl⟩
theorem ZH:RF 195 25 ML Tryz.f195 [.cell 6 136]:=ax rfl rfl Tryz.func195 rfl (by kernel_rfl) Tryz.ntmps195 (by rw[Tryz.results195]) rfl rfl
@[simp] theorem asz:EF 200 JA zg U4 MM zl zo:=⟨rfl,rfl,rfl,rfl,rfl,rfl⟩
theorem ZI:RF 200 32 MM Tryz.f200 [.cell 4 175,.tmp 5]:=ax rfl rfl Tryz.func200 rfl (by kernel_rfl) Tryz.ntmps200 (by rw[Tryz.results200]) rfl rfl
@[simp] theorem asA:EF 201 JB zg zm MN zl zo:=⟨rfl,rfl,rfl,rfl,rfl,rfl⟩
theorem ZJ:RF 201 24 MN Tryz.f201 [.cell 4 29]:=ax rfl rfl Tryz.func201 rfl (by kernel_rfl) Tryz.ntmps201 (by rw[Tryz.results201]) rfl rfl
@[simp] theorem asB:EF 202 JC zg zm MO zl U5:=⟨rfl,rfl,rfl,rfl,rfl,rfl⟩
theorem ZK:RF 202 29 MO Tryz.f202 [.tmp 4,.cell 5 71,.tmp 6]:=ax rfl rfl Tryz.func202 rfl (by kernel_rfl) Tryz.ntmps202 (by rw[Tryz.results202]) rfl rfl
@[simp] theorem asC:EF 203 JD zg zm MP zl zo:=⟨rfl,rfl,rfl,rfl,rfl,rfl⟩
theorem ZL:RF 203 8 MP Tryz.f203 []:=ax rfl rfl Tryz.func203 rfl (by kernel_rfl) Tryz.ntmps203 (by rw[Tryz.results203]) rfl rfl
@[simp] theorem asD:EF 204 JE zg zm MQ zl zo:=⟨rfl,rfl,rfl,rfl,rfl,rfl⟩
theorem ZM:RF 204 9 MQ Tryz.f204 [.tmp 4]:=ax rfl rfl Tryz.func204 rfl (by kernel_rfl) Tryz.ntmps204 (by rw[Tryz.results204]) rfl rfl
@[simp] theorem asF:EF 205 JF zg zm MR zl zo:=⟨rfl,rfl,rfl,rfl,rfl,rfl⟩
theorem ZN:RF 205 14 MR Tryz.f205 []:=ax rfl rfl Tryz.func205 rfl (by kernel_rfl) Tryz.ntmps205 (by rw[Tryz.results205]) rfl rfl
@[simp] theorem asG:EF 206 JG zg zm MS zl U6:=⟨rfl,rfl,rfl,rfl,rfl,rfl⟩
theorem ZO:RF 206 49 MS Tryz.f206 [.tmp 6,.cell 7 175,.tmp 8]:=ax rfl rfl Tryz.func206 rfl (by kernel_rfl) Tryz.ntmps206 (by rw[Tryz.results206]) rfl rfl
@[simp] theorem asH:EF 207 JH zg zm MT zl zo:=⟨rfl,rfl,rfl,rfl,rfl,rfl⟩
theorem ZP:RF 207 19 MT Tryz.f207 [.tmp 4]:=ax rfl rfl Tryz.func207 rfl (by kernel_rfl) Tryz.ntmps207 (by rw[Tryz.results207]) rfl rfl
@[simp] theorem asI:EF 208 JI zg zm MU zl U7:=⟨rfl,rfl,rfl,rfl,rfl,rfl⟩
theorem ZQ:RF 208 38 MU Tryz.f208 []:=ax rfl rfl Tryz.func208 rfl (by kernel_rfl) Tryz.ntmps208 (by rw[Tryz.results208]) rfl rfl
@[simp] theorem asJ:EF 209 JJ U8 zm MV zl zo:=⟨rfl,rfl,rfl,rfl,rfl,rfl⟩
theorem Qe:RF 209 42 MV Tryz.f209 []:=ax rfl rfl Tryz.func209 rfl (by kernel_rfl) Tryz.ntmps209 (by rw[Tryz.results209]) rfl rfl
@[simp] theorem asK:EF 210 JK zg zm MW zl U9:=⟨rfl,rfl,rfl,rfl,rfl,rfl⟩
theorem ZR:RF 210 42 MW Tryz.f210 []:=ax rfl rfl Tryz.func210 rfl (by kernel_rfl) Tryz.ntmps210 (by rw[Tryz.results210]) rfl rfl
@[simp] theorem asL:EF 211 JL zg zm MX zl Va:=⟨rfl,rfl,rfl,rfl,rfl,rfl⟩
theorem Qf:RF 211 44 MX Tryz.f211 []:=ax rfl rfl Tryz.func211 rfl (by kernel_rfl) Tryz.ntmps211 (by rw[Tryz.results211]) rfl rfl
@[simp] theorem asM:EF 212 JM zg zm MY zl zo:=⟨rfl,rfl,rfl,rfl,rfl,rfl⟩
theorem ZS:RF 212 34 MY Tryz.f212 [.tmp 6,.tmp 7,.tmp 8]:=ax rfl rfl Tryz.func212 rfl (by kernel_rfl) Tryz.ntmps212 (by rw[Tryz.results212]) rfl rfl
@[simp] theorem asN:EF 213 JN zg zm MZ zl zo:=⟨rfl,rfl,rfl,rfl,rfl,rfl⟩
theorem ZT:RF 213 33 MZ Tryz.f213 [.tmp 6,.tmp 7,.tmp 8]:=ax rfl rfl Tryz.func213 rfl (by kernel_rfl) Tryz.ntmps213 (by rw[Tryz.results213]) rfl rfl
@[simp] theorem asO:EF 214 JO zg zm M0 zl zo:=⟨rfl,rfl,rfl,rfl,rfl,rfl⟩
theorem ZU:RF 214 64 M0 Tryz.f214 [.tmp 6,.tmp 7,.tmp 8]:=ax rfl rfl Tryz.func214 rfl (by kernel_rfl) Tryz.ntmps214 (by rw[Tryz.results214]) rfl rfl
@[simp] theorem asP:EF 215 JP zg zm Na zl zo:=⟨rfl,rfl,rfl,rfl,rfl,rfl⟩
theorem ZV:RF 215 43 Na Tryz.f215 [.tmp 6,.tmp 7,.tmp 8]:=ax rfl rfl Tryz.func215 rfl (by kernel_rfl) Tryz.ntmps215 (by rw[Tryz.results215]) rfl rfl
@[simp] theorem asQ:EF 220 JQ zg zm Vb zl zo:=⟨rfl,rfl,rfl,rfl,rfl,rfl⟩
@[simp] theorem asR:EF 221 JR zg zm Vc zl zo:=⟨rfl,rfl,rfl,rfl,rfl,rfl⟩
@[simp] theorem asS:EF 222 JS zg zm Vd zl zo:=⟨rfl,rfl,rfl,rfl,rfl,rfl⟩
@[simp] theorem asT:EF 262 JT zg zm Nb zl zo:=⟨rfl,rfl,rfl,rfl,rfl,rfl⟩
theorem ZW:RF 262 19 Nb Tryz.f262 [.tmp 4]:=ax rfl rfl Tryz.func262 rfl (by kernel_rfl) Tryz.ntmps262 (by rw[Tryz.results262]) rfl rfl
@[simp] theorem asU:EF 263 JU zg zm Nc zl zo:=⟨rfl,rfl,rfl,rfl,rfl,rfl⟩
theorem ZX:RF 263 8 Nc Tryz.f263 [.tmp 3]:=ax rfl rfl Tryz.func263 rfl (by kernel_rfl) Tryz.ntmps263 (by rw[Tryz.results263]) rfl rfl
@[simp] theorem asV:EF 264 JV zg zm Nd zl zo:=⟨rfl,rfl,rfl,rfl,rfl,rfl⟩
theorem ZY:RF 264 23 Nd Tryz.f264 [.tmp 4,.tmp 5]:=ax rfl rfl Tryz.func264 rfl (by kernel_rfl) Tryz.ntmps264 (by rw[Tryz.results264]) rfl rfl
@[simp] theorem asW:EF 265 JW zg zm Nf zl zo:=⟨rfl,rfl,rfl,rfl,rfl,rfl⟩
theorem ZZ:RF 265 23 Nf Tryz.f265 [.tmp 4,.tmp 5]:=ax rfl rfl Tryz.func265 rfl (by kernel_rfl) Tryz.ntmps265 (by rw[Tryz.results265]) rfl rfl
@[simp] theorem asX:EF 266 JX zg zm Ng zl zo:=⟨rfl,rfl,rfl,rfl,rfl,rfl⟩
theorem Z0:RF 266 27 Ng Tryz.f266 [.tmp 4,.tmp 5]:=ax rfl rfl Tryz.func266 rfl (by kernel_rfl) Tryz.ntmps266 (by rw[Tryz.results266]) rfl rfl
@[simp] theorem asY:EF 267 JY zg zm Nh zl zo:=⟨rfl,rfl,rfl,rfl,rfl,rfl⟩
theorem Z1:RF 267 19 Nh Tryz.f267 [.tmp 4,.tmp 5]:=ax rfl rfl Tryz.func267 rfl (by kernel_rfl) Tryz.ntmps267 (by rw[Tryz.results267]) rfl rfl
@[simp] theorem asZ:EF 268 JZ zg zm Ni zl zo:=⟨rfl,rfl,rfl,rfl,rfl,rfl⟩
theorem Z2:RF 268 14 Ni Tryz.f268 [.tmp 4,.tmp 5]:=ax rfl rfl Tryz.func268 rfl (by kernel_rfl) Tryz.ntmps268 (by rw[Tryz.results268]) rfl rfl
@[simp] theorem as0:EF 269 J0 zg Ve Vf zl zo:=⟨rfl,rfl,rfl,rfl,rfl,rfl⟩
@[simp] theorem as1:EF 270 J1 zg Vg Vh zl zo:=⟨rfl,rfl,rfl,rfl,rfl,rfl⟩
@[simp] theorem as2:EF 297 J2 zg zm Nj zl zo:=⟨rfl,rfl,rfl,rfl,rfl,rfl⟩
theorem Z3:RF 297 51 Nj Tryz.f297 [.tmp 4,.tmp 5]:=ax rfl rfl Tryz.func297 rfl (by kernel_rfl) Tryz.ntmps297 (by rw[Tryz.results297]) rfl rfl
@[simp] theorem as3:EF 298 J3 zg zm Nk zl zo:=⟨rfl,rfl,rfl,rfl,rfl,rfl⟩
theorem Z4:RF 298 10 Nk Tryz.f298 [.tmp 2]:=ax rfl rfl Tryz.func298 rfl (by kernel_rfl) Tryz.ntmps298 (by rw[Tryz.results298]) rfl rfl
@[simp] theorem as4:EF 299 J4 zg zm Nl zl zo:=⟨rfl,rfl,rfl,rfl,rfl,rfl⟩
theorem Z5:RF 299 24 Nl Tryz.f299 [.tmp 4,.tmp 5]:=ax rfl rfl Tryz.func299 rfl (by kernel_rfl) Tryz.ntmps299 (by rw[Tryz.results299]) rfl rfl
@[simp] theorem as5:EF 300 J5 zg zm Vj zl Vi:=⟨rfl,rfl,rfl,rfl,rfl,rfl⟩
@[simp] theorem as6:EF 301 J6 zg zm Vm zl Vk:=⟨rfl,rfl,rfl,rfl,rfl,rfl⟩
end Go.Am
end
section
namespace Go.Am
@[simp] def as7 (t:Pf):D:=.agg [.int .i64 t.kind,.str t.text,.int .i64 t.n,.int .i64 t.line,.int .i64 t.col]
end Go.Am
end
section
namespace Go.Am
open Go
def dE (op:Int):Nat:=if op=4∨op=6∨op=7 then 1 else if 7<op then 2 else 0
mutual
def bk:Ex→Bool
 | .mk op n name field sub _=>
  !decide ((op=1∧n<0)∨(op=2∧(n<0∨1<n))∨(2<op∧n≠0)∨op<1∨21<op)&&
  (decide (sub.length=dE op)&&((if op=3∨op=4∨op=5 then cY name else decide (name=[]))&&((if op=5 then cY field else decide (field=[]))&&bA sub)))
def bA:List Ex→Bool
 |[]=>true
 |x::r=>bk x&&bA r
end
theorem iU:∀l:List Ex,bA l=true↔∀x∈l,bk x=true
 |[]=>by simp[bA]
 |x::r=>by simp[bA,iU r]
def dF (x:Ex):Bool:=decide (bO x=0)&&(decide (ia x=0)&&decide ((dB x).length+(fw x).length+(cO x).length=0))
def pf (l:List Int):Bool:=!decide (l.length=0)&&(decide (l.length%2=0)&&l.all fun n=>decide (n≠ -9223372036854775808))
def cm (op:Int) (conds labels fields blocks:Nat):Bool:=
 if op=2 then decide (conds=max 1 conds)&&(decide (labels=0)&&(decide (fields=0)&&(decide (max 1 conds≤blocks)&&decide (blocks≤max 1 conds+1))))
 else if op=3 then decide (conds=0)&&(decide (fields=0)&&(decide (labels≤blocks)&&decide (blocks≤labels+1)))
 else if op=4 then decide (conds=3)&&(decide (labels=0)&&(decide (fields=0)&&decide (blocks=1)))
 else if op=5∨op=6 then decide (conds=0)&&(decide (labels=0)&&(decide (fields=0)&&decide (blocks=1)))
 else if op=9 then decide (conds=fields)&&(decide (labels=0)&&decide (blocks=0))
 else decide (conds=0)&&(decide (labels=0)&&(decide (fields=0)&&decide (blocks=0)))
mutual
def ji:Sm→Bool
 | .mk op name to val conds labels fields blocks _=>
  decide (1≤op∧op≤9)&&((if op=4∨op=9 then cY name else decide (name=[]))&&
  ((if op=1 then decide (bO to=3∨bO to=4)&&bk to else dF to)&&
  ((if op=1∨op=3∨op=5∨op=6 then !dF val&&bk val else dF val)&&
  (bA conds&&(cm op conds.length labels.length fields.length blocks.length&&
  (fields.all cY&&(labels.all pf&&cK blocks)))))))
def en:List Sm→Bool
 |[]=>true
 |x::r=>ji x&&en r
def cK:List (List Sm)→Bool
 |[]=>true
 |b::r=>en b&&cK r
end
def oe (k:Int):Bool:=(bq k).length≠0
def du (v:Vr):Bool:=
 cY v.name&&(decide (0≤v.sec∧v.sec≤2)&&(decide (v.ty=1∨v.ty=2)||oe v.ty)&&
 ((if v.arr=true then decide (v.ty≤2∧0≤v.lo∧v.lo≤v.hi∧v.hi≤255)else decide (v.lo=0∧v.hi=0))&&
 !decide (((v.arr=true∨2<v.ty)∧v.init≠0)∨(v.ty=2∧(v.init<0∨1<v.init))∨v.init= -9223372036854775808)))
def pg (p:Pg):Bool:=cY p.name&&(decide (p.vars.length≤64)&&(p.vars.all du&&en p.body))
abbrev EL:=Int×Int
def eX (a b:EL):EL:=if a.1≠0 then a else b
def DJ (a:Te):EL:=(a.e,a.line)
def BE (vs:List Vr) (to val:Ex) (line:Int):EL:=
 match bf vs (dB to)with
 |none=>(9,jH to)
 |some v=>if v.sec=1 then (1,jH to)else eX (DJ (aC vs to)) (eX (DJ (aC vs val)) (if (aC vs val).t≠(aC vs to).t then (10,line)else (0,0)))
def kp (vs:List Vr) (t:Int):List Ex→EL
 |[]=>(0,0)
 |x::r=>eX (dk vs x t) (kp vs t r)
def iC (vs:List Vr) (k line:Int):List Tx→List Ex→List Tx→EL
 |f::fs,x::xs,p=>match kG k f with
  |none=>(9,line)
  |some q=>if q.I0=false then (9,line)else if f∈p then (11,line)else eX (dk vs x q.ty) (iC vs k line fs xs (p++[f]))
 |_,_,_=>(0,0)
mutual
def jU (vs:List Vr) (loops:Bool):Sm→EL
 | .mk op name to val conds _ fields blocks line=>
  if op=1 then BE vs to val line
  else if op=2 then fB vs loops conds blocks
  else if op=3 then eX (dk vs val 1) (fB vs loops [] blocks)
  else if op=4 then (match bf vs name with
   |none=>(9,line)
   |some v=>if v.sec=1 then (1,line)else if v.arr=true∨v.ty≠1 then (10,line)else eX (kp vs 1 conds) (sH vs blocks))
  else if op=5 then eX (dk vs val 2) (sH vs blocks)
  else if op=6 then eX (sH vs blocks) (dk vs val 2)
  else if op=7 then (if loops=true then (0,0)else (14,line))
  else if op=9 then (match bf vs name with
   |none=>(9,line)
   |some v=>if v.ty≤2 then (10,line)else iC vs v.ty line fields conds [])
  else (0,0)
def eA (vs:List Vr) (loops:Bool):List Sm→EL
 |[]=>(0,0)
 |x::r=>eX (jU vs loops x) (eA vs loops r)
def fB (vs:List Vr) (loops:Bool):List Ex→List (List Sm)→EL
 |_,[]=>(0,0)
 |[],b::r=>eX (eA vs loops b) (fB vs loops [] r)
 |c::cs,b::r=>eX (dk vs c 2) (eX (eA vs loops b) (fB vs loops cs r))
def sH (vs:List Vr):List (List Sm)→EL
 |[]=>(0,0)
 |b::_=>eA vs true b
end
def DK:List Vr→List Vr→Int→EL
 |[],_,_=>(0,0)
 |v::r,p,n=>if (bf p v.name).isSome then (11,v.line)else if 1024<n+bH v then (13,v.line)else DK r (p++[v]) (n+bH v)
def qd (p:Pg):EL:=eX (DK p.vars [] 0) (eA p.vars false p.body)
def og {α:Type} (p:α→Bool):List α→Nat→Int
 |[],_=> -1
 |x::r,i=>if p x=true then i else og p r (i+1)
theorem BF {α:Type} (p:α→Bool):∀(l:List α) (i:Nat),og p l i= -1∨(i≤og p l i∧og p l i<i+l.length)
 |[],i=>.inl rfl
 |x::r,i=>by
  unfold og;split
  ·right;simp;omega
  ·rcases BF p r (i+1)with h|h
   ·exact .inl h
   ·right;simp only[List.length_cons];omega
end Go.Am
end
section
namespace Go.Am
open Go Go.Proofs
variable [Inhabited b6]
set_option maxRecDepth 20000
@[simp] theorem anw (a b:Tx):(a == b)=decide (a=b):=by by_cases h:a=b<;>simp[h]
theorem akA:ai ctx 75 [.d (.int .i64 10)] []=some (.ret (.d (.list ((bq 10).map cS))),[]):=bn 120 (by kernel_rfl)
theorem akB:ai ctx 75 [.d (.int .i64 11)] []=some (.ret (.d (.list ((bq 11).map cS))),[]):=bn 120 (by kernel_rfl)
theorem akC:ai ctx 75 [.d (.int .i64 12)] []=some (.ret (.d (.list ((bq 12).map cS))),[]):=bn 120 (by kernel_rfl)
theorem akD:ai ctx 75 [.d (.int .i64 13)] []=some (.ret (.d (.list ((bq 13).map cS))),[]):=bn 120 (by kernel_rfl)
theorem akE:ai ctx 75 [.d (.int .i64 14)] []=some (.ret (.d (.list ((bq 14).map cS))),[]):=bn 120 (by kernel_rfl)
theorem akF:ai ctx 75 [.d (.int .i64 15)] []=some (.ret (.d (.list ((bq 15).map cS))),[]):=bn 120 (by kernel_rfl)
theorem akG:ai ctx 75 [.d (.int .i64 16)] []=some (.ret (.d (.list ((bq 16).map cS))),[]):=bn 120 (by kernel_rfl)
theorem akH:ai ctx 75 [.d (.int .i64 17)] []=some (.ret (.d (.list ((bq 17).map cS))),[]):=bn 120 (by kernel_rfl)
theorem akI:ai ctx 75 [.d (.int .i64 18)] []=some (.ret (.d (.list ((bq 18).map cS))),[]):=bn 120 (by kernel_rfl)
theorem akJ:ai ctx 75 [.d (.int .i64 20)] []=some (.ret (.d (.list ((bq 20).map cS))),[]):=bn 120 (by kernel_rfl)
theorem akK:ai ctx 75 [.d (.int .i64 21)] []=some (.ret (.d (.list ((bq 21).map cS))),[]):=bn 120 (by kernel_rfl)
theorem akL:ai ctx 75 [.d (.int .i64 22)] []=some (.ret (.d (.list ((bq 22).map cS))),[]):=bn 120 (by kernel_rfl)
theorem akM:ai ctx 75 [.d (.int .i64 23)] []=some (.ret (.d (.list ((bq 23).map cS))),[]):=bn 120 (by kernel_rfl)
theorem akN:ai ctx 75 [.d (.int .i64 24)] []=some (.ret (.d (.list ((bq 24).map cS))),[]):=bn 120 (by kernel_rfl)
theorem akO:ai ctx 75 [.d (.int .i64 25)] []=some (.ret (.d (.list ((bq 25).map cS))),[]):=bn 120 (by kernel_rfl)
theorem akP:ai ctx 75 [.d (.int .i64 26)] []=some (.ret (.d (.list ((bq 26).map cS))),[]):=bn 120 (by kernel_rfl)
theorem akQ:ai ctx 75 [.d (.int .i64 27)] []=some (.ret (.d (.list ((bq 27).map cS))),[]):=bn 120 (by kernel_rfl)
theorem akR:ai ctx 75 [.d (.int .i64 28)] []=some (.ret (.d (.list ((bq 28).map cS))),[]):=bn 120 (by kernel_rfl)
theorem akS:ai ctx 75 [.d (.int .i64 29)] []=some (.ret (.d (.list ((bq 29).map cS))),[]):=bn 120 (by kernel_rfl)
theorem akT:ai ctx 75 [.d (.int .i64 30)] []=some (.ret (.d (.list ((bq 30).map cS))),[]):=bn 120 (by kernel_rfl)
theorem akU:ai ctx 75 [.d (.int .i64 31)] []=some (.ret (.d (.list ((bq 31).map cS))),[]):=bn 120 (by kernel_rfl)
def oh:D→Option Int
 | .agg [.int .i64 k,.str _,.str _,.str _,.int .i64 _]=>some k
 |_=>none
theorem zt {d:D} {k:Int} (h:oh d=some k):∃a b c n,d=.agg [.int .i64 k,.str a,.str b,.str c,.int .i64 n]:=by
 unfold oh at h;split at h
 ·rename_i k' a b c n;cases h;exact⟨a,b,c,n,rfl⟩
 ·cases h
def J7:Option (Out×List (Nat×aD))→Option (List (Option Int))
 |some (.ret (.d (.list l)),[])=>some (l.map oh)
 |_=>none
theorem Z6:J7 (aO ctx 120 164 [] [])=some (gH.map some):=by kernel_rfl
theorem Tc:∃l:List D,ai ctx 164 [] []=some (.ret (.d (.list l)),[])∧l.map oh=gH.map some:=by
 have h:=Z6;generalize hr:aO ctx 120 164 [] []=r at h;unfold J7 at h;split at h
 ·rename_i l;exact⟨l,bn 120 hr,by simpa using h⟩
 ·cases h
theorem Td (d:D) (k b:Int) (hd:oh d=some k):ai ctx 166 [.d d,.ptr 0 0 0] [.box [.d (.int .i64 b)]]=some (.ret (.d (.bool (decide (k=b)))),[(0,.box [.d (.int .i64 b)])]):=by
 obtain⟨a,e,c,n,rfl⟩:=zt hd;rw[Qd (by simp)];simp[Tryz.f166]
theorem zu (b:Int):∀(rest pre:List D),(∀d∈rest,∃k,oh d=some k∧k≠b)→(pre++rest).length<1000→∀k:Kt,
 aG ctx 165 (.loop (Code.at (bh Tryz.f165) [1,0,1,0,0])) ⟨19,aB,[(0,true,.d (.list (pre++rest))),(1,true,.fn 166 [.ptr 0 0 0]),(7,true,.d (.int .i64 (pre++rest).length)),(8,true,.d (.int .i64 pre.length))],[⟨0,0,.box [.d (.int .i64 b)]⟩]⟩ k=
  k (.exit 0) ⟨19,aB,[(0,true,.d (.list (pre++rest))),(1,true,.fn 166 [.ptr 0 0 0]),(7,true,.d (.int .i64 (pre++rest).length)),(8,true,.d (.int .i64 (pre++rest).length)),(9,true,.d (.bool false))],[⟨0,0,.box [.d (.int .i64 b)]⟩]⟩
 |[],pre,h,hl,k=>by
  rw[ah];simp[Tryz.f165]
 |d::rest,pre,h,hl,k=>by
  obtain⟨kd,hk,bE⟩:=h d (by simp);have hs:=Td d kd b hk;obtain⟨a1,a2,a3,a4,rfl⟩:=zt hk;have ih:=zu b rest (pre++[.agg [.int .i64 kd,.str a1,.str a2,.str a3,.int .i64 a4]]) (fun d hd=>h d (by simp[hd])) (by simpa using hl) k;have h1:(pre.length:Int)<pre.length+(rest.length+1):=by omega
  have h2:IntKind.i64.wrap ((pre.length:Int)+1)=pre.length+1:=ay (by unfold aZ;simp at hl;omega);simp[bE]at hs;rw[ah];simp[Tryz.f165]at ih⊢;simp[h1,h2,hs,ih]
theorem No (b:Int) (hb:b∉gH):ai ctx 75 [.d (.int .i64 b)] []=some (.ret (.d (.list [])),[]):=by
 obtain⟨l,hl,hm⟩:=Tc;have hlen:l.length=21:=by have:=congrArg List.length hm;simpa [gH]using this
 have cZ:∀d∈l,∃k,oh d=some k∧k≠b:=by
  intro d hd;have h1:oh d∈l.map oh:=List.mem_map_of_mem hd;rw[hm]at h1;obtain⟨k,hk,he⟩:=List.mem_map.1 h1;exact⟨k,he.symm,fun h=>hb (h▸hk)⟩
 have iO:=zu b l [] cZ (by simp;omega);have Tf:ai ctx 165 [.d (.list l),.fn 166 [.ptr 0 0 0]] [.box [.d (.int .i64 b)]]=some (.ret (.d (.int .i64 (-1))),[(0,.box [.d (.int .i64 b)])]):=by
  rw[Qc (by simp)];simp[Tryz.f165]at iO⊢;simp[iO]
 have Dq:ai ctx 114 [.d (.int .i64 b)] []=some (.ret (.aU [.d (.agg [.int .i64 0,.str [],.str [],.str [],.int .i64 0]),.d (.bool false)]),[]):=by
  rw[P7 (by simp)];simp[Tryz.f114,hl,Tf]
 rw[Vo (by simp)];simp[Tryz.f75,Dq]
theorem J8 (b:Int):ai ctx 75 [.d (.int .i64 b)] []=some (.ret (.d (.list ((bq b).map cS))),[]):=by
 by_cases hb:b∈gH
 ·simp only[gH,List.mem_cons,List.not_mem_nil,or_false]at hb;rcases hb with rfl|rfl|rfl|rfl|rfl|rfl|rfl|rfl|rfl|rfl|rfl|rfl|rfl|rfl|rfl|rfl|rfl|rfl|rfl|rfl|rfl
  ·exact akA
  ·exact akB
  ·exact akC
  ·exact akD
  ·exact akE
  ·exact akF
  ·exact akG
  ·exact akH
  ·exact akI
  ·exact akJ
  ·exact akK
  ·exact akL
  ·exact akM
  ·exact akN
  ·exact akO
  ·exact akP
  ·exact akQ
  ·exact akR
  ·exact akS
  ·exact akT
  ·exact akU
 ·rw[oc hb];exact No b hb
def qE:Vr:=⟨[],0,0,false,0,0,0,0⟩
def fV (vs:List Vr) (s:Tx):Vr:=(bf vs s).getD qE
def sI:Pn:=⟨[],0,false⟩
def fP (k:Int) (s:Tx):Pn:=(kG k s).getD sI
@[simp] def Np (t:Tx):D:=.str t
theorem BG (s:Tx) (l:List Tx) (hl:l.length≤1000) (k:Kt) (R1 R2:bU)
 (h1:k .ret ⟨15,aB,[(2,true,.d (.bool true))],[]⟩=R1)
 (h2:∀Y:Env,k (.exit 0) ⟨15,aB,Y,[]⟩=R2):∀(rest:List Tx) (j:Nat),l.drop j=rest→j+rest.length=l.length→
 aG ctx 84 (.loop (Code.at (bh Tryz.f84) [1,0,1,0,0])) ⟨15,aB,[(0,true,.d (.str s)),(5,true,.d (.list (l.map Np))),(6,true,.d (.int .i64 l.length)),(7,true,.d (.int .i64 j))],[]⟩ k=if s∈rest then R1 else R2
 |[],j,hd,hj=>by
  have hj:j=l.length:=by simpa using hj
  subst hj;rw[ah];simp[Tryz.f84,h2]
 |x::rest,j,hd,hj=>by
  have cg:j<l.length:=by simp at hj;omega
  have hx:l[j]=x:=by
   have:=congrArg (·[0]?) hd;simp at this;simpa [cg]using this
  have ih:=BG s l hl k R1 R2 h1 h2 rest (j+1) (by rw[←List.tail_drop,hd];rfl) (by simp at hj;omega);have w1:IntKind.i64.wrap ((j:Int)+1)=(j:Int)+1:=ay (by unfold aZ;omega);rw[ah];by_cases hs:x=s
  ·simp[Tryz.f84];simp[cg,hx,hs,h1]
  ·have pJ:¬s=x:=fun h=>hs h.symm;simp[Tryz.f84]at ih⊢;simp[cg,hx,hs,pJ,w1,ih]
theorem Qg (s:Tx):ai ctx 84 [.d (.str s)] []=some (.ret (.d (.bool (Eu s))),[]):=by
 have dc:=fun k R1 R2 h1 h2=>BG s lW (by decide) k R1 R2 h1 h2 lW 0 rfl (by decide);have e:List.map Np lW=lW.map Np:=rfl;have hlen:lW.length=36:=rfl;have r36:List.range' 0 36=[0,1,2,3,4,5,6,7,8,9,10,11,12,13,14,15,16,17,18,19,20,21,22,23,24,25,26,27,28,29,30,31,32,33,34,35]:=rfl;rw[aeY (by simp)];unfold Eu;generalize hB:decide (s∈lW)=B;simp[Tryz.f84,lW]at dc;simp[Tryz.f84,r36];rw[dc _ (some (.ret (.d (.bool true)),[])) (some (.ret (.d (.bool false)),[])) (by simp) (by simp)];subst hB;by_cases hm:s∈lW
 ·rw[decide_eq_true hm];simp only[lW,List.mem_cons,List.not_mem_nil,or_false]at hm;rw[if_pos hm]
 ·rw[decide_eq_false hm];simp only[lW,List.mem_cons,List.not_mem_nil,or_false]at hm;rw[if_neg hm]
theorem BH (s:Tx) (hl:s.length≤16) (k:Kt) (R1 R2:bU)
 (h1:k .ret ⟨59,aB,[(2,true,.d (.bool false))],[]⟩=R1)
 (h2:∀Y:Env,k (.exit 0) ⟨59,aB,Y,[]⟩=R2):∀(rest:Tx) (j:Nat),s.drop j=rest→j+rest.length=s.length→
 aG ctx 44 (.loop (Code.at (bh Tryz.f44) [1,1,0,1,0,0])) ⟨59,aB,[(0,true,.d (.str s)),(3,true,.d (.int .i64 j))],[]⟩ k=if sF rest j=true then R2 else R1
 |[],j,hd,hj=>by
  have hj:j=s.length:=by simpa using hj
  subst hj;rw[ah];simp[Tryz.f44,h2,sF]
 |c::rest,j,hd,hj=>by
  have cg:j<s.length:=by simp at hj;omega
  have hx:yd s j=c:=by
   have:=congrArg (·[0]?) hd;simp at this;simp[yd,this]
  have ih:=BH s hl k R1 R2 h1 h2 rest (j+1) (by rw[←List.tail_drop,hd];rfl) (by simp at hj;omega);have w1:IntKind.i64.wrap ((j:Int)+1)=(j:Int)+1:=ay (by unfold aZ;omega);have key:sF (c::rest) j=((Sq c||(!decide (j=0)&&(decide (c=95)||Sr c)))&&sF rest (j+1)):=rfl;have akV:decide (c=95)=decide (c.toNat=95):=by
   rw[decide_eq_decide];exact⟨fun h=>by rw[h];rfl,fun h=>UInt8.toNat_inj.1 (by rw[h];rfl)⟩
  rw[key,akV];generalize sF rest (j+1)=B at*;rw[ah];simp[Tryz.f44]at ih⊢;simp[cg,hx,w1,h1,ih];unfold Sq Sr;grind
theorem eJ (s:Tx):ai ctx 44 [.d (.str s)] []=some (.ret (.d (.bool (cY s))),[]):=by
 have hw:=Qg s;unfold cY;rw[aeK (by simp)];by_cases h1:s.length<1
 ·have h2:¬1≤s.length:=by omega
  have h3:(s.length:Int)<1:=by omega
  simp[Tryz.f44,h2,h3]
 ·by_cases Po:16<s.length
  ·have h2:1≤s.length:=by omega
   have h3:¬(s.length:Int)<1:=by omega
   have h4:¬s.length≤16:=by omega
   have h5:(16:Int)<s.length:=by omega
   simp[Tryz.f44,h2,h3,h4,Po,h5]
  ·have h2:1≤s.length:=by omega
   have h3:¬(s.length:Int)<1:=by omega
   have h4:s.length≤16:=by omega
   have h5:¬(16:Int)<s.length:=by omega
   cases hb:Eu s with
   |true=>
    rw[hb]at hw;simp[Tryz.f44,h2,h3,h4,Po,h5,hw]
   |false=>
    rw[hb]at hw;have dc:=fun k R1 R2 h1 h2=>BH s h4 k R1 R2 h1 h2 s 0 rfl (by simp);simp[Tryz.f44]at dc;simp[Tryz.f44,h2,h3,h4,Po,h5,hw];rw[dc _ (some (.ret (.d (.bool false)),[])) (some (.ret (.d (.bool true)),[])) (by simp) (by simp)];cases sF s 0<;>simp
theorem J9 {x:Ex} (h:(dB x).length<100000000∧(fw x).length<100000000∧(cO x).length<100000000):ai ctx 88 [.d (.agg [.int .i64 (bO x),.int .i64 (ia x),.str (dB x),.str (fw x),.list ((cO x).map bL),.int .i64 (jH x)])] []=some (.ret (.d (.bool (dF x))),[]):=by
 have w1:IntKind.i64.wrap ((dB x).length+(fw x).length:Int)=(dB x).length+(fw x).length:=ay (by unfold aZ;omega);have w2:IntKind.i64.wrap ((dB x).length+(fw x).length+(cO x).length:Int)=(dB x).length+(fw x).length+(cO x).length:=ay (by unfold aZ;omega);unfold dF;generalize hB:decide ((dB x).length+(fw x).length+(cO x).length=0)=B;rw[ae1 (by simp)];by_cases h0:bO x=0
 ·by_cases h1:ia x=0
  ·simp[Tryz.f88,h0,h1];rw[w1,w2,←hB,decide_eq_decide];omega
  ·simp[Tryz.f88,h0,h1]
 ·simp[Tryz.f88,h0]
theorem Tg (op:Int):ai ctx 86 [.d (.int .i64 op)] []=some (.ret (.aU [.d (.bool (decide (op=4∨op=9))),.d (.bool (decide (op=1))),.d (.bool (decide (op=1∨op=3∨op=5∨op=6)))]),[]):=by
 rw[aeZ (by simp)];simp[Tryz.f86];grind
theorem om (x:Ex):bk x=(!decide ((bO x=1∧ia x<0)∨(bO x=2∧(ia x<0∨1<ia x))∨(2<bO x∧ia x≠0)∨bO x<1∨21<bO x)&&
 (decide ((cO x).length=dE (bO x))&&((if bO x=3∨bO x=4∨bO x=5 then cY (dB x)else decide (dB x=[]))&&((if bO x=5 then cY (fw x)else decide (fw x=[]))&&bA (cO x))))):=by
 cases x;rw[bk];rfl
def KF (l:List Ex):Prop:=ai ctx 87 [.d (.list (l.map bL))] []=some (.ret (.d (.bool (bA l))),[])
theorem Z7 {l:List Ex} (bm:l.length<100000000) {i:Nat} {x:Ex} (aV:i<l.length) (aS:l[i]=x) (hk:KF (cO x)) (lz:(cO x).length<100000000) (k:Kt) (R1 R2:bU) (B:Bool)
 (h1:∀v X,k .ret ⟨126,aB,[(2,true,.d (.bool false))],[⟨300,v,X⟩]⟩=R1)
 (ih:∀v X,aG ctx 87 (.loop (Code.at (bh Tryz.f87) [1,0,1,0,0])) ⟨126,aB,[(0,true,.d (.list (l.map bL))),(3,true,.d (.int .i64 (i+1)))],[⟨300,v,X⟩]⟩ k=if B=true then R2 else R1) (h:bO x<1) (v:Nat) (X:aD):
 aG ctx 87 (.loop (Code.at (bh Tryz.f87) [1,0,1,0,0])) ⟨126,aB,[(0,true,.d (.list (l.map bL))),(3,true,.d (.int .i64 i))],[⟨300,v,X⟩]⟩ k=if (bk x&&B)=true then R2 else R1:=by
 have w1:IntKind.i64.wrap ((i:Int)+1)=i+1:=ay (by unfold aZ;omega);have hn:=eJ (dB x);have hf:=eJ (fw x);unfold KF at hk;rw[om];generalize bA (cO x)=S at*;generalize cY (dB x)=N at*;generalize cY (fw x)=F at*;have c1:¬bO x=1:=by omega
 have c2:¬bO x=2:=by omega
 have c3:¬bO x=3:=by omega
 have c4:¬bO x=4:=by omega
 have c5:¬bO x=5:=by omega
 have c6:¬bO x=6:=by omega
 have c7:¬bO x=7:=by omega
 have d1:¬2<bO x:=by omega
 rw[ah];simp[Tryz.f87]at ih⊢;simp[aV,aS,w1,aA,h,hk,hn,hf,ih,h1,c1,c2,d1];intros;omega
theorem Z8 {l:List Ex} (bm:l.length<100000000) {i:Nat} {x:Ex} (aV:i<l.length) (aS:l[i]=x) (hk:KF (cO x)) (lz:(cO x).length<100000000) (k:Kt) (R1 R2:bU) (B:Bool)
 (h1:∀v X,k .ret ⟨126,aB,[(2,true,.d (.bool false))],[⟨300,v,X⟩]⟩=R1)
 (ih:∀v X,aG ctx 87 (.loop (Code.at (bh Tryz.f87) [1,0,1,0,0])) ⟨126,aB,[(0,true,.d (.list (l.map bL))),(3,true,.d (.int .i64 (i+1)))],[⟨300,v,X⟩]⟩ k=if B=true then R2 else R1) (h:bO x=1) (v:Nat) (X:aD):
 aG ctx 87 (.loop (Code.at (bh Tryz.f87) [1,0,1,0,0])) ⟨126,aB,[(0,true,.d (.list (l.map bL))),(3,true,.d (.int .i64 i))],[⟨300,v,X⟩]⟩ k=if (bk x&&B)=true then R2 else R1:=by
 have w1:IntKind.i64.wrap ((i:Int)+1)=i+1:=ay (by unfold aZ;omega);have hn:=eJ (dB x);have hf:=eJ (fw x);unfold KF at hk;rw[om];generalize bA (cO x)=S at*;generalize cY (dB x)=N at*;generalize cY (fw x)=F at*;rw[ah];simp[Tryz.f87]at ih⊢;have e0:dE 1=0:=rfl;by_cases eL:ia x<0
 ·simp[aV,aS,w1,aA,h,hk,hn,hf,ih,h1,eL];intros;omega
 ·by_cases dW:1<ia x
  ·simp[aV,aS,w1,aA,h,hk,hn,hf,ih,h1,eL,dW,e0];grind
  ·simp[aV,aS,w1,aA,h,hk,hn,hf,ih,h1,eL,dW,e0];grind
theorem Z9 {l:List Ex} (bm:l.length<100000000) {i:Nat} {x:Ex} (aV:i<l.length) (aS:l[i]=x) (hk:KF (cO x)) (lz:(cO x).length<100000000) (k:Kt) (R1 R2:bU) (B:Bool)
 (h1:∀v X,k .ret ⟨126,aB,[(2,true,.d (.bool false))],[⟨300,v,X⟩]⟩=R1)
 (ih:∀v X,aG ctx 87 (.loop (Code.at (bh Tryz.f87) [1,0,1,0,0])) ⟨126,aB,[(0,true,.d (.list (l.map bL))),(3,true,.d (.int .i64 (i+1)))],[⟨300,v,X⟩]⟩ k=if B=true then R2 else R1) (h:bO x=2) (v:Nat) (X:aD):
 aG ctx 87 (.loop (Code.at (bh Tryz.f87) [1,0,1,0,0])) ⟨126,aB,[(0,true,.d (.list (l.map bL))),(3,true,.d (.int .i64 i))],[⟨300,v,X⟩]⟩ k=if (bk x&&B)=true then R2 else R1:=by
 have w1:IntKind.i64.wrap ((i:Int)+1)=i+1:=ay (by unfold aZ;omega);have hn:=eJ (dB x);have hf:=eJ (fw x);unfold KF at hk;rw[om];generalize bA (cO x)=S at*;generalize cY (dB x)=N at*;generalize cY (fw x)=F at*;rw[ah];simp[Tryz.f87]at ih⊢;have e0:dE 2=0:=rfl;by_cases eL:ia x<0
 ·simp[aV,aS,w1,aA,h,hk,hn,hf,ih,h1,eL];intros;omega
 ·by_cases dW:1<ia x
  ·simp[aV,aS,w1,aA,h,hk,hn,hf,ih,h1,eL,dW,e0];intros;omega
  ·simp[aV,aS,w1,aA,h,hk,hn,hf,ih,h1,eL,dW,e0];grind
theorem aaa {l:List Ex} (bm:l.length<100000000) {i:Nat} {x:Ex} (aV:i<l.length) (aS:l[i]=x) (hk:KF (cO x)) (lz:(cO x).length<100000000) (k:Kt) (R1 R2:bU) (B:Bool)
 (h1:∀v X,k .ret ⟨126,aB,[(2,true,.d (.bool false))],[⟨300,v,X⟩]⟩=R1)
 (ih:∀v X,aG ctx 87 (.loop (Code.at (bh Tryz.f87) [1,0,1,0,0])) ⟨126,aB,[(0,true,.d (.list (l.map bL))),(3,true,.d (.int .i64 (i+1)))],[⟨300,v,X⟩]⟩ k=if B=true then R2 else R1) (h:bO x=3) (v:Nat) (X:aD):
 aG ctx 87 (.loop (Code.at (bh Tryz.f87) [1,0,1,0,0])) ⟨126,aB,[(0,true,.d (.list (l.map bL))),(3,true,.d (.int .i64 i))],[⟨300,v,X⟩]⟩ k=if (bk x&&B)=true then R2 else R1:=by
 have w1:IntKind.i64.wrap ((i:Int)+1)=i+1:=ay (by unfold aZ;omega);have hn:=eJ (dB x);have hf:=eJ (fw x);unfold KF at hk;rw[om];generalize bA (cO x)=S at*;generalize cY (dB x)=N at*;generalize cY (fw x)=F at*;rw[ah];simp[Tryz.f87]at ih⊢;have e0:dE 3=0:=rfl;by_cases eL:ia x=0
 ·simp[aV,aS,w1,aA,h,hk,hn,hf,ih,h1,eL,e0];grind
 ·simp[aV,aS,w1,aA,h,hk,hn,hf,ih,h1,eL]
theorem aab {l:List Ex} (bm:l.length<100000000) {i:Nat} {x:Ex} (aV:i<l.length) (aS:l[i]=x) (hk:KF (cO x)) (lz:(cO x).length<100000000) (k:Kt) (R1 R2:bU) (B:Bool)
 (h1:∀v X,k .ret ⟨126,aB,[(2,true,.d (.bool false))],[⟨300,v,X⟩]⟩=R1)
 (ih:∀v X,aG ctx 87 (.loop (Code.at (bh Tryz.f87) [1,0,1,0,0])) ⟨126,aB,[(0,true,.d (.list (l.map bL))),(3,true,.d (.int .i64 (i+1)))],[⟨300,v,X⟩]⟩ k=if B=true then R2 else R1) (h:bO x=4) (v:Nat) (X:aD):
 aG ctx 87 (.loop (Code.at (bh Tryz.f87) [1,0,1,0,0])) ⟨126,aB,[(0,true,.d (.list (l.map bL))),(3,true,.d (.int .i64 i))],[⟨300,v,X⟩]⟩ k=if (bk x&&B)=true then R2 else R1:=by
 have w1:IntKind.i64.wrap ((i:Int)+1)=i+1:=ay (by unfold aZ;omega);have hn:=eJ (dB x);have hf:=eJ (fw x);unfold KF at hk;rw[om];generalize bA (cO x)=S at*;generalize cY (dB x)=N at*;generalize cY (fw x)=F at*;rw[ah];simp[Tryz.f87]at ih⊢;have e0:dE 4=1:=rfl;by_cases eL:ia x=0
 ·simp[aV,aS,w1,aA,h,hk,hn,hf,ih,h1,eL,e0];grind
 ·simp[aV,aS,w1,aA,h,hk,hn,hf,ih,h1,eL]
theorem aac {l:List Ex} (bm:l.length<100000000) {i:Nat} {x:Ex} (aV:i<l.length) (aS:l[i]=x) (hk:KF (cO x)) (lz:(cO x).length<100000000) (k:Kt) (R1 R2:bU) (B:Bool)
 (h1:∀v X,k .ret ⟨126,aB,[(2,true,.d (.bool false))],[⟨300,v,X⟩]⟩=R1)
 (ih:∀v X,aG ctx 87 (.loop (Code.at (bh Tryz.f87) [1,0,1,0,0])) ⟨126,aB,[(0,true,.d (.list (l.map bL))),(3,true,.d (.int .i64 (i+1)))],[⟨300,v,X⟩]⟩ k=if B=true then R2 else R1) (h:bO x=5) (v:Nat) (X:aD):
 aG ctx 87 (.loop (Code.at (bh Tryz.f87) [1,0,1,0,0])) ⟨126,aB,[(0,true,.d (.list (l.map bL))),(3,true,.d (.int .i64 i))],[⟨300,v,X⟩]⟩ k=if (bk x&&B)=true then R2 else R1:=by
 have w1:IntKind.i64.wrap ((i:Int)+1)=i+1:=ay (by unfold aZ;omega);have hn:=eJ (dB x);have hf:=eJ (fw x);unfold KF at hk;rw[om];generalize bA (cO x)=S at*;generalize cY (dB x)=N at*;generalize cY (fw x)=F at*;rw[ah];simp[Tryz.f87]at ih⊢;have e0:dE 5=0:=rfl;by_cases eL:ia x=0
 ·simp[aV,aS,w1,aA,h,hk,hn,hf,ih,h1,eL,e0];grind
 ·simp[aV,aS,w1,aA,h,hk,hn,hf,ih,h1,eL]
theorem aad {l:List Ex} (bm:l.length<100000000) {i:Nat} {x:Ex} (aV:i<l.length) (aS:l[i]=x) (hk:KF (cO x)) (lz:(cO x).length<100000000) (k:Kt) (R1 R2:bU) (B:Bool)
 (h1:∀v X,k .ret ⟨126,aB,[(2,true,.d (.bool false))],[⟨300,v,X⟩]⟩=R1)
 (ih:∀v X,aG ctx 87 (.loop (Code.at (bh Tryz.f87) [1,0,1,0,0])) ⟨126,aB,[(0,true,.d (.list (l.map bL))),(3,true,.d (.int .i64 (i+1)))],[⟨300,v,X⟩]⟩ k=if B=true then R2 else R1) (h:bO x=6) (v:Nat) (X:aD):
 aG ctx 87 (.loop (Code.at (bh Tryz.f87) [1,0,1,0,0])) ⟨126,aB,[(0,true,.d (.list (l.map bL))),(3,true,.d (.int .i64 i))],[⟨300,v,X⟩]⟩ k=if (bk x&&B)=true then R2 else R1:=by
 have w1:IntKind.i64.wrap ((i:Int)+1)=i+1:=ay (by unfold aZ;omega);have hn:=eJ (dB x);have hf:=eJ (fw x);unfold KF at hk;rw[om];generalize bA (cO x)=S at*;generalize cY (dB x)=N at*;generalize cY (fw x)=F at*;rw[ah];simp[Tryz.f87]at ih⊢;have e0:dE 6=1:=rfl;by_cases eL:ia x=0
 ·simp[aV,aS,w1,aA,h,hk,hn,hf,ih,h1,eL,e0];grind
 ·simp[aV,aS,w1,aA,h,hk,hn,hf,ih,h1,eL]
theorem aae {l:List Ex} (bm:l.length<100000000) {i:Nat} {x:Ex} (aV:i<l.length) (aS:l[i]=x) (hk:KF (cO x)) (lz:(cO x).length<100000000) (k:Kt) (R1 R2:bU) (B:Bool)
 (h1:∀v X,k .ret ⟨126,aB,[(2,true,.d (.bool false))],[⟨300,v,X⟩]⟩=R1)
 (ih:∀v X,aG ctx 87 (.loop (Code.at (bh Tryz.f87) [1,0,1,0,0])) ⟨126,aB,[(0,true,.d (.list (l.map bL))),(3,true,.d (.int .i64 (i+1)))],[⟨300,v,X⟩]⟩ k=if B=true then R2 else R1) (h:bO x=7) (v:Nat) (X:aD):
 aG ctx 87 (.loop (Code.at (bh Tryz.f87) [1,0,1,0,0])) ⟨126,aB,[(0,true,.d (.list (l.map bL))),(3,true,.d (.int .i64 i))],[⟨300,v,X⟩]⟩ k=if (bk x&&B)=true then R2 else R1:=by
 have w1:IntKind.i64.wrap ((i:Int)+1)=i+1:=ay (by unfold aZ;omega);have hn:=eJ (dB x);have hf:=eJ (fw x);unfold KF at hk;rw[om];generalize bA (cO x)=S at*;generalize cY (dB x)=N at*;generalize cY (fw x)=F at*;rw[ah];simp[Tryz.f87]at ih⊢;have e0:dE 7=1:=rfl;by_cases eL:ia x=0
 ·simp[aV,aS,w1,aA,h,hk,hn,hf,ih,h1,eL,e0];grind
 ·simp[aV,aS,w1,aA,h,hk,hn,hf,ih,h1,eL]
theorem aaf {l:List Ex} (bm:l.length<100000000) {i:Nat} {x:Ex} (aV:i<l.length) (aS:l[i]=x) (hk:KF (cO x)) (lz:(cO x).length<100000000) (k:Kt) (R1 R2:bU) (B:Bool)
 (h1:∀v X,k .ret ⟨126,aB,[(2,true,.d (.bool false))],[⟨300,v,X⟩]⟩=R1)
 (ih:∀v X,aG ctx 87 (.loop (Code.at (bh Tryz.f87) [1,0,1,0,0])) ⟨126,aB,[(0,true,.d (.list (l.map bL))),(3,true,.d (.int .i64 (i+1)))],[⟨300,v,X⟩]⟩ k=if B=true then R2 else R1) (h:7<bO x) (v:Nat) (X:aD):
 aG ctx 87 (.loop (Code.at (bh Tryz.f87) [1,0,1,0,0])) ⟨126,aB,[(0,true,.d (.list (l.map bL))),(3,true,.d (.int .i64 i))],[⟨300,v,X⟩]⟩ k=if (bk x&&B)=true then R2 else R1:=by
 have w1:IntKind.i64.wrap ((i:Int)+1)=i+1:=ay (by unfold aZ;omega);have hn:=eJ (dB x);have hf:=eJ (fw x);unfold KF at hk;rw[om];generalize bA (cO x)=S at*;generalize cY (dB x)=N at*;generalize cY (fw x)=F at*;have c1:¬bO x=1:=by omega
 have c2:¬bO x=2:=by omega
 have c3:¬bO x=3:=by omega
 have c4:¬bO x=4:=by omega
 have c5:¬bO x=5:=by omega
 have c6:¬bO x=6:=by omega
 have c7:¬bO x=7:=by omega
 have d1:2<bO x:=by omega
 have d2:¬bO x<1:=by omega
 have e0:dE (bO x)=2:=by unfold dE;rw[if_neg (by omega),if_pos h]
 rw[ah];simp[Tryz.f87]at ih⊢;by_cases eL:ia x=0
 ·by_cases Pp:21<bO x
  ·simp[aV,aS,w1,aA,h,hk,hn,hf,ih,h1,eL,Pp,c1,c2,c3,c4,c5,c6,c7,d1,d2];intros;omega
  ·simp[aV,aS,w1,aA,h,hk,hn,hf,ih,h1,eL,Pp,e0,c1,c2,c3,c4,c5,c6,c7,d1,d2];grind
 ·simp[aV,aS,w1,aA,h,hk,hn,hf,ih,h1,eL,c1,c2,d1];intros;omega
theorem DL (l:List Ex) (bm:l.length<100000000) (hK:∀x∈l,KF (cO x)) (hs:∀x∈l,(cO x).length<100000000) (k:Kt) (R1 R2:bU)
 (h1:∀v X,k .ret ⟨126,aB,[(2,true,.d (.bool false))],[⟨300,v,X⟩]⟩=R1)
 (h2:∀(Y:Env) v X,k (.exit 0) ⟨126,aB,Y,[⟨300,v,X⟩]⟩=R2):∀(rest pre:List Ex) (v:Nat) (X:aD),l=pre++rest→
 aG ctx 87 (.loop (Code.at (bh Tryz.f87) [1,0,1,0,0])) ⟨126,aB,[(0,true,.d (.list (l.map bL))),(3,true,.d (.int .i64 pre.length))],[⟨300,v,X⟩]⟩ k=if bA rest=true then R2 else R1
 |[],pre,v,X,hd=>by
  have cw:pre.length=l.length:=by rw[hd];simp
  rw[cw,ah];simp[Tryz.f87,h2,bA]
 |x::rest,pre,v,X,hd=>by
  have aV:pre.length<l.length:=by rw[hd];simp
  have aS:l[pre.length]=x:=by simp[hd]
  have hk:=hK x (by rw[hd];simp);have lz:=hs x (by rw[hd];simp);have ih:∀v X,aG ctx 87 (.loop (Code.at (bh Tryz.f87) [1,0,1,0,0])) ⟨126,aB,[(0,true,.d (.list (l.map bL))),(3,true,.d (.int .i64 (pre.length+1)))],[⟨300,v,X⟩]⟩ k=if bA rest=true then R2 else R1:=fun v X=>by
   have:=DL l bm hK hs k R1 R2 h1 h2 rest (pre++[x]) v X (by simp[hd]);simpa using this
  have key:bA (x::rest)=(bk x&&bA rest):=by rw[bA]
  rw[key];have hc:bO x<1∨bO x=1∨bO x=2∨bO x=3∨bO x=4∨bO x=5∨bO x=6∨bO x=7∨7<bO x:=by omega
  rcases hc with h|h|h|h|h|h|h|h|h
  ·exact Z7 bm aV aS hk lz k R1 R2 _ h1 ih h v X
  ·exact Z8 bm aV aS hk lz k R1 R2 _ h1 ih h v X
  ·exact Z9 bm aV aS hk lz k R1 R2 _ h1 ih h v X
  ·exact aaa bm aV aS hk lz k R1 R2 _ h1 ih h v X
  ·exact aab bm aV aS hk lz k R1 R2 _ h1 ih h v X
  ·exact aac bm aV aS hk lz k R1 R2 _ h1 ih h v X
  ·exact aad bm aV aS hk lz k R1 R2 _ h1 ih h v X
  ·exact aae bm aV aS hk lz k R1 R2 _ h1 ih h v X
  ·exact aaf bm aV aS hk lz k R1 R2 _ h1 ih h v X
theorem Qi {l:List Ex} (bm:l.length<100000000) (hK:∀x∈l,KF (cO x)) (hs:∀x∈l,(cO x).length<100000000):KF l:=by
 have h:=fun k R1 R2 h1 h2 v X=>DL l bm hK hs k R1 R2 h1 h2 l [] v X rfl;unfold KF;rw[ae0 (by simp)];simp[Tryz.f87]at h⊢;rw[h _ (some (.ret (.d (.bool false)),[])) (some (.ret (.d (.bool true)),[]))]
 ·cases bA l<;>simp
 ·intro v X;simp
 ·intro Y v X;simp
mutual
def uh:Ex→Prop
 | .mk _ _ name field sub _=>(name.length<100000000∧field.length<100000000∧sub.length<100000000)∧oo sub
def oo:List Ex→Prop
 |[]=>True
 |x::r=>uh x∧oo r
end
mutual
theorem aag:∀x:Ex,uh x→KF (cO x)∧(cO x).length<100000000
 | .mk op nn name field sub line,h=>by
  simp only[uh]at h;have hs:=yw sub h.2;exact⟨Qi h.1.2.2 (fun x hx=>(hs x hx).1) (fun x hx=>(hs x hx).2),h.1.2.2⟩
theorem yw:∀l:List Ex,oo l→∀x∈l,KF (cO x)∧(cO x).length<100000000
 |[],_,x,hx=>by simp at hx
 |y::r,h,x,hx=>by
  simp only[oo]at h;have h1:=aag y h.1;have h2:=yw r h.2;rcases List.mem_cons.1 hx with e|hx
  ·rw[e];exact h1
  ·exact h2 x hx
end
theorem Ah {l:List Ex} (bm:l.length<100000000) (h:oo l):KF l:=
 Qi bm (fun x hx=>(yw l h x hx).1) (fun x hx=>(yw l h x hx).2)
end Go.Am
end
section
namespace Go.Am
open Go
theorem Ka {k:Int} (h:oe k=true):10≤k∧k≤31:=by
 unfold oe bq at h;by_cases hk:10≤k∧k≤31
 ·exact hk
 ·exfalso;have:qW Gl k=[]:=by
   unfold Gl;simp only[qW];repeat rw[if_neg (by omega)]
  rw[this]at h;simp at h
theorem Kb {v:Vr} (h:du v=true):(v.ty=1∨v.ty=2)∨(10≤v.ty∧v.ty≤31∧oe v.ty=true):=by
 simp only[du,Bool.and_eq_true,Bool.or_eq_true,decide_eq_true_eq]at h;rcases h.2.1.2 with h|h
 ·exact .inl h
 ·exact .inr ⟨(Ka h).1,(Ka h).2,h⟩
theorem sJ {s:Tx} {v:Vr}:∀{l:List Vr},bf l s=some v→v∈l∧v.name=s
 |x::r,h=>by
  unfold bf at h;split at h
  ·rename_i e;cases h;exact⟨by simp,e⟩
  ·have:=sJ h;exact⟨by simp[this.1],this.2⟩
end Go.Am
end
section
namespace Go.Am
open Go Go.Proofs
variable [Inhabited b6]
set_option maxRecDepth 20000
@[simp] def smL (x:Sm):List D:=[.int .i64 (bu x),.str (gV x),
 .int .i64 (bO (eF x)),.int .i64 (ia (eF x)),.str (dB (eF x)),.str (fw (eF x)),.list ((cO (eF x)).map bL),.int .i64 (jH (eF x)),
 .int .i64 (bO (dH x)),.int .i64 (ia (dH x)),.str (dB (dH x)),.str (fw (dH x)),.list ((cO (dH x)).map bL),.int .i64 (jH (dH x)),
 .list ((cu x).map bL),.list ((ea x).map mA),.list ((dO x).map .str),.list ((bx x).map df),.int .i64 (ko x)]
section
variable {vs:List Vr} {n:Int} (hl:vs.length<1000000) (eh:∀v∈vs,du v=true)
include hl eh
end
@[simp] def bg (x:Sm):aD:=.box [.d (.int .i64 (bu x)),.d (.str (gV x)),.d (.int .i64 (bO (eF x))),.d (.int .i64 (ia (eF x))),.d (.str (dB (eF x))),.d (.str (fw (eF x))),.d (.list ((cO (eF x)).map bL)),.d (.int .i64 (jH (eF x))),
 .d (.int .i64 (bO (dH x))),.d (.int .i64 (ia (dH x))),.d (.str (dB (dH x))),.d (.str (fw (dH x))),.d (.list ((cO (dH x)).map bL)),.d (.int .i64 (jH (dH x))),.d (.list ((cu x).map bL)),.d (.list ((ea x).map mA)),.d (.list ((dO x).map .str)),.d (.list ((bx x).map df)),.d (.int .i64 (ko x))]
@[simp] def ib (v:Vr):aD:=.box [.d (.str v.name),.d (.int .i64 v.ty),.d (.int .i64 v.sec),.d (.bool v.arr),.d (.int .i64 v.lo),.d (.int .i64 v.hi),.d (.int .i64 v.init),.d (.int .i64 v.line)]
theorem Gn {v:Vr} (hf:du v=true):ai ctx 90 [.d (bG v)] []=some (.ret (.d (.int .i64 (bH v))),[]):=by
 have hs:=J8 v.ty;rw[ae2 (by simp)];unfold bH;cases ha:v.arr with
 |true=>
  simp only[du,Bool.and_eq_true,ha,if_true,decide_eq_true_eq]at hf;have w1:IntKind.i64.wrap (v.hi-v.lo)=v.hi-v.lo:=ay (by unfold aZ;omega);have w2:IntKind.i64.wrap (v.hi-v.lo+1)=v.hi-v.lo+1:=ay (by unfold aZ;omega);simp[Tryz.f90,bG,eu,ha,w1,w2]
 |false=>
  by_cases h2:2<v.ty
  ·simp[Tryz.f90,bG,eu,ha,h2,hs]
  ·simp[Tryz.f90,bG,eu,ha,h2]
theorem pG {v:Vr} (hf:du v=true):0≤bH v∧bH v≤256:=by
 have:=xF v.ty;unfold bH;cases ha:v.arr with
 |true=>
  simp only[du,Bool.and_eq_true,ha,if_true,decide_eq_true_eq]at hf;simp only[if_true];omega
 |false=>
  simp only[Bool.false_eq_true,if_false];split<;>omega
@[reducible] noncomputable def bP (p:List Nat):Code:=Code.at (bh Tryz.f46) p
section
variable {x:Sm} {v:Nat} {k:Kt} {R1:bU} {a b:AV} (hr:k .ret ⟨258,aB,[(2,true,.d (.bool false))],[⟨300,v,bg x⟩]⟩=R1)
def Gp (x:Sm):Bool:=decide (1≤bu x∧bu x≤9)&&(if bu x=4∨bu x=9 then cY (gV x)else decide (gV x=[]))
def Gq (x:Sm):Bool:=if bu x=1 then decide (bO (eF x)=3∨bO (eF x)=4)&&bk (eF x)else dF (eF x)
def Cx (x:Sm):Bool:=(if bu x=1∨bu x=3∨bu x=5∨bu x=6 then !dF (dH x)&&bk (dH x)else dF (dH x))&&bA (cu x)
include hr
theorem akW {d6 d7:AV}:aG ctx 46 (bP [1,0,1,0,0,1,0,0,1,1,0]) ⟨258,aB,[(0,true,a),(3,true,b),(4,true,.ptr 300 v 0),(5,true,.d (.bool (decide (bu x=4∨bu x=9)))),(6,true,d6),(7,true,d7)],[⟨300,v,bg x⟩]⟩ k=
 if Gp x=true then k .normal ⟨258,aB,[(0,true,a),(3,true,b),(4,true,.ptr 300 v 0),(6,true,d6),(7,true,d7),(59,true,.d (.bool false))],[⟨300,v,bg x⟩]⟩else R1:=by
 have hn:=eJ (gV x);unfold Gp;simp only[bg]at hr;generalize cY (gV x)=N at*;by_cases h1:bu x<1
 ·have h2:¬1≤bu x:=by omega
  simp[bP,Tryz.f46];simp[h1,h2,hr]
 ·have h2:1≤bu x:=by omega
  by_cases h9:9<bu x
  ·have h3:¬bu x≤9:=by omega
   simp[bP,Tryz.f46];simp[h1,h2,h9,h3,hr]
  ·have h3:bu x≤9:=by omega
   by_cases h4:bu x=4
   ·simp only[h4]at hr⊢;cases N<;>(simp[bP,Tryz.f46];simp[h4,hn,hr])
   ·by_cases h5:bu x=9
    ·simp only[h5]at hr⊢;cases N<;>(simp[bP,Tryz.f46];simp[h5,hn,hr])
    ·by_cases he:gV x=[]
     ·simp only[he]at hr⊢;simp[bP,Tryz.f46];simp[h1,h2,h9,h3,h4,h5,he,hr]
     ·simp[bP,Tryz.f46];simp[h1,h2,h9,h3,h4,h5,he,hr]
theorem akX {d7:AV} (hl:(dB (eF x)).length<100000000∧(fw (eF x)).length<100000000∧(cO (eF x)).length<100000000) (hk:KF [eF x]):aG ctx 46 (bP [1,0,1,0,0,1,0,0,1,1,1,0]) ⟨258,aB,[(0,true,a),(3,true,b),(4,true,.ptr 300 v 0),(6,true,.d (.bool (decide (bu x=1)))),(7,true,d7),(59,true,.d (.bool false))],[⟨300,v,bg x⟩]⟩ k=
 if Gq x=true then k .normal ⟨258,aB,[(0,true,a),(3,true,b),(4,true,.ptr 300 v 0),(7,true,d7),(89,true,.d (.bool false))],[⟨300,v,bg x⟩]⟩else R1:=by
 have hn:=J9 hl;unfold KF at hk;simp[aA,bA]at hk;unfold Gq;simp only[bg]at hr;generalize dF (eF x)=N at*;generalize bk (eF x)=T at*;by_cases h1:bu x=1
 ·simp only[h1]at hr;by_cases h3:bO (eF x)=3
  ·simp only[h3]at hr hk;cases T<;>(simp[bP,Tryz.f46];simp[h1,h3,hk,hr])
  ·by_cases h4:bO (eF x)=4
   ·simp only[h4]at hr hk;cases T<;>(simp[bP,Tryz.f46];simp[h1,h4,hk,hr])
   ·simp[bP,Tryz.f46];simp[h1,h3,h4,hr]
 ·cases N<;>(simp[bP,Tryz.f46];simp[h1,hn,hr])
end
section
variable {x:Sm} {v:Nat} {k:Kt} {R1:bU} {a b:AV}
theorem akY (hr:k .ret ⟨258,aB,[(2,true,.d (.bool false))],[⟨300,v,bg x⟩]⟩=R1) {V:Bool} (hV:V=decide (bu x=1∨bu x=3∨bu x=5∨bu x=6)) (hl:(dB (dH x)).length<100000000∧(fw (dH x)).length<100000000∧(cO (dH x)).length<100000000) (hk:KF [dH x]) (hc:KF (cu x)):aG ctx 46 (bP [1,0,1,0,0,1,0,0,1,1,1,1,0]) ⟨258,aB,[(0,true,a),(3,true,b),(4,true,.ptr 300 v 0),(7,true,.d (.bool V)),(89,true,.d (.bool false))],[⟨300,v,bg x⟩]⟩ k=
 if Cx x=true then k .normal ⟨258,aB,[(0,true,a),(3,true,b),(4,true,.ptr 300 v 0),(118,true,.d (.bool false))],[⟨300,v,bg x⟩]⟩else R1:=by
 have hn:=J9 hl;unfold KF at hk hc;simp[aA,bA]at hk;have e:Cx x=((if V=true then !dF (dH x)&&bk (dH x)else dF (dH x))&&bA (cu x)):=by
  unfold Cx;rw[hV];by_cases h:bu x=1∨bu x=3∨bu x=5∨bu x=6
  ·rw[if_pos h,if_pos (by simpa using h)]
  ·rw[if_neg h,if_neg (by simpa using h)]
 rw[e];simp only[bg]at hr;generalize dF (dH x)=N at*;generalize bk (dH x)=T at*;generalize bA (cu x)=W at*;clear hV e;cases V with
 |true=>
  cases N with
  |true=>(simp[bP,Tryz.f46];simp[hn,hr])
  |false=>cases T<;>cases W<;>(simp[bP,Tryz.f46];simp[hn,hk,hc,hr])
 |false=>cases N<;>cases W<;>(simp[bP,Tryz.f46];simp[hn,hc,hr])
theorem akZ {X:Env}:aG ctx 46 (bP [1,0,1,0,0,1,0,0,1,1,1,1,1,0]) ⟨258,aB,[(0,true,a),(3,true,b),(4,true,.ptr 300 v 0),(118,true,.d (.bool false))],[⟨300,v,bg x⟩]⟩ k=
 k .normal ⟨258,aB,[(0,true,a),(3,true,b),(4,true,.ptr 300 v 0),(8,true,.d (.int .i64 0)),(9,true,.d (.int .i64 0)),(10,true,.d (.int .i64 0)),(11,true,.d (.int .i64 0)),(12,true,.d (.int .i64 0))],[⟨300,v,bg x⟩]⟩:=by
 simp[bP,Tryz.f46]
def xG (n:Int):Int:=if 1<n then n else 1
def oO (x:Sm):Int:=if bu x=2 then xG (cu x).length else if bu x=4 then 3 else if bu x=9 then (dO x).length else 0
def oP (x:Sm):Int:=if bu x=3 then (ea x).length else 0
def lg (x:Sm):Int:=if bu x=9 then (dO x).length else 0
def iP (x:Sm):Int:=if bu x=2 then xG (cu x).length else if bu x=3 then (ea x).length else if bu x=4∨bu x=5∨bu x=6 then 1 else 0
def jj (x:Sm):Int:=if bu x=2∨bu x=3 then 1 else 0
def cX (x:Sm):Env:=if bu x=2∨bu x=3∨bu x=4∨bu x=5∨bu x=6∨bu x=9 then []else [(144,true,.d (.bool false))]
theorem aai (h2:bu x=2):aG ctx 46 (bP [1,0,1,0,0,1,0,0,1,1,1,1,1,1,0]) ⟨258,aB,[(0,true,a),(3,true,b),(4,true,.ptr 300 v 0),(8,true,.d (.int .i64 0)),(9,true,.d (.int .i64 0)),(10,true,.d (.int .i64 0)),(11,true,.d (.int .i64 0)),(12,true,.d (.int .i64 0))],[⟨300,v,bg x⟩]⟩ k=
 k .normal ⟨258,aB,[(0,true,a),(3,true,b),(4,true,.ptr 300 v 0),(8,true,.d (.int .i64 (oO x))),(9,true,.d (.int .i64 (oP x))),(10,true,.d (.int .i64 (lg x))),(11,true,.d (.int .i64 (iP x))),(12,true,.d (.int .i64 (jj x)))]++cX x,[⟨300,v,bg x⟩]⟩:=by
 unfold oO oP lg iP jj cX;simp[bP,Tryz.f46];simp[h2,aI,xG]
theorem aaj (h3:bu x=3):aG ctx 46 (bP [1,0,1,0,0,1,0,0,1,1,1,1,1,1,0]) ⟨258,aB,[(0,true,a),(3,true,b),(4,true,.ptr 300 v 0),(8,true,.d (.int .i64 0)),(9,true,.d (.int .i64 0)),(10,true,.d (.int .i64 0)),(11,true,.d (.int .i64 0)),(12,true,.d (.int .i64 0))],[⟨300,v,bg x⟩]⟩ k=
 k .normal ⟨258,aB,[(0,true,a),(3,true,b),(4,true,.ptr 300 v 0),(8,true,.d (.int .i64 (oO x))),(9,true,.d (.int .i64 (oP x))),(10,true,.d (.int .i64 (lg x))),(11,true,.d (.int .i64 (iP x))),(12,true,.d (.int .i64 (jj x)))]++cX x,[⟨300,v,bg x⟩]⟩:=by
 unfold oO oP lg iP jj cX;simp[bP,Tryz.f46];simp[h3,aI,xG]
theorem aak (h4:bu x=4):aG ctx 46 (bP [1,0,1,0,0,1,0,0,1,1,1,1,1,1,0]) ⟨258,aB,[(0,true,a),(3,true,b),(4,true,.ptr 300 v 0),(8,true,.d (.int .i64 0)),(9,true,.d (.int .i64 0)),(10,true,.d (.int .i64 0)),(11,true,.d (.int .i64 0)),(12,true,.d (.int .i64 0))],[⟨300,v,bg x⟩]⟩ k=
 k .normal ⟨258,aB,[(0,true,a),(3,true,b),(4,true,.ptr 300 v 0),(8,true,.d (.int .i64 (oO x))),(9,true,.d (.int .i64 (oP x))),(10,true,.d (.int .i64 (lg x))),(11,true,.d (.int .i64 (iP x))),(12,true,.d (.int .i64 (jj x)))]++cX x,[⟨300,v,bg x⟩]⟩:=by
 unfold oO oP lg iP jj cX;simp[bP,Tryz.f46];simp[h4,aI,xG]
theorem aal (h5:bu x=5):aG ctx 46 (bP [1,0,1,0,0,1,0,0,1,1,1,1,1,1,0]) ⟨258,aB,[(0,true,a),(3,true,b),(4,true,.ptr 300 v 0),(8,true,.d (.int .i64 0)),(9,true,.d (.int .i64 0)),(10,true,.d (.int .i64 0)),(11,true,.d (.int .i64 0)),(12,true,.d (.int .i64 0))],[⟨300,v,bg x⟩]⟩ k=
 k .normal ⟨258,aB,[(0,true,a),(3,true,b),(4,true,.ptr 300 v 0),(8,true,.d (.int .i64 (oO x))),(9,true,.d (.int .i64 (oP x))),(10,true,.d (.int .i64 (lg x))),(11,true,.d (.int .i64 (iP x))),(12,true,.d (.int .i64 (jj x)))]++cX x,[⟨300,v,bg x⟩]⟩:=by
 unfold oO oP lg iP jj cX;simp[bP,Tryz.f46];simp[h5,aI,xG]
theorem aam (h6:bu x=6):aG ctx 46 (bP [1,0,1,0,0,1,0,0,1,1,1,1,1,1,0]) ⟨258,aB,[(0,true,a),(3,true,b),(4,true,.ptr 300 v 0),(8,true,.d (.int .i64 0)),(9,true,.d (.int .i64 0)),(10,true,.d (.int .i64 0)),(11,true,.d (.int .i64 0)),(12,true,.d (.int .i64 0))],[⟨300,v,bg x⟩]⟩ k=
 k .normal ⟨258,aB,[(0,true,a),(3,true,b),(4,true,.ptr 300 v 0),(8,true,.d (.int .i64 (oO x))),(9,true,.d (.int .i64 (oP x))),(10,true,.d (.int .i64 (lg x))),(11,true,.d (.int .i64 (iP x))),(12,true,.d (.int .i64 (jj x)))]++cX x,[⟨300,v,bg x⟩]⟩:=by
 unfold oO oP lg iP jj cX;simp[bP,Tryz.f46];simp[h6,aI,xG]
theorem aan (h9:bu x=9):aG ctx 46 (bP [1,0,1,0,0,1,0,0,1,1,1,1,1,1,0]) ⟨258,aB,[(0,true,a),(3,true,b),(4,true,.ptr 300 v 0),(8,true,.d (.int .i64 0)),(9,true,.d (.int .i64 0)),(10,true,.d (.int .i64 0)),(11,true,.d (.int .i64 0)),(12,true,.d (.int .i64 0))],[⟨300,v,bg x⟩]⟩ k=
 k .normal ⟨258,aB,[(0,true,a),(3,true,b),(4,true,.ptr 300 v 0),(8,true,.d (.int .i64 (oO x))),(9,true,.d (.int .i64 (oP x))),(10,true,.d (.int .i64 (lg x))),(11,true,.d (.int .i64 (iP x))),(12,true,.d (.int .i64 (jj x)))]++cX x,[⟨300,v,bg x⟩]⟩:=by
 unfold oO oP lg iP jj cX;simp[bP,Tryz.f46];simp[h9,aI,xG]
theorem aao (h2:¬bu x=2) (h3:¬bu x=3) (h4:¬bu x=4) (h5:¬bu x=5) (h6:¬bu x=6) (h9:¬bu x=9):aG ctx 46 (bP [1,0,1,0,0,1,0,0,1,1,1,1,1,1,0]) ⟨258,aB,[(0,true,a),(3,true,b),(4,true,.ptr 300 v 0),(8,true,.d (.int .i64 0)),(9,true,.d (.int .i64 0)),(10,true,.d (.int .i64 0)),(11,true,.d (.int .i64 0)),(12,true,.d (.int .i64 0))],[⟨300,v,bg x⟩]⟩ k=
 k .normal ⟨258,aB,[(0,true,a),(3,true,b),(4,true,.ptr 300 v 0),(8,true,.d (.int .i64 (oO x))),(9,true,.d (.int .i64 (oP x))),(10,true,.d (.int .i64 (lg x))),(11,true,.d (.int .i64 (iP x))),(12,true,.d (.int .i64 (jj x)))]++cX x,[⟨300,v,bg x⟩]⟩:=by
 unfold oO oP lg iP jj cX;simp[bP,Tryz.f46];simp[h2,h3,h4,h5,h6,h9,aI,xG]
theorem ak0:aG ctx 46 (bP [1,0,1,0,0,1,0,0,1,1,1,1,1,1,0]) ⟨258,aB,[(0,true,a),(3,true,b),(4,true,.ptr 300 v 0),(8,true,.d (.int .i64 0)),(9,true,.d (.int .i64 0)),(10,true,.d (.int .i64 0)),(11,true,.d (.int .i64 0)),(12,true,.d (.int .i64 0))],[⟨300,v,bg x⟩]⟩ k=
 k .normal ⟨258,aB,[(0,true,a),(3,true,b),(4,true,.ptr 300 v 0),(8,true,.d (.int .i64 (oO x))),(9,true,.d (.int .i64 (oP x))),(10,true,.d (.int .i64 (lg x))),(11,true,.d (.int .i64 (iP x))),(12,true,.d (.int .i64 (jj x)))]++cX x,[⟨300,v,bg x⟩]⟩:=by
 by_cases h2:bu x=2
 ·exact aai h2
 ·by_cases h3:bu x=3
  ·exact aaj h3
  ·by_cases h4:bu x=4
   ·exact aak h4
   ·by_cases h5:bu x=5
    ·exact aal h5
    ·by_cases h6:bu x=6
     ·exact aam h6
     ·by_cases h9:bu x=9
      ·exact aan h9
      ·exact aao h2 h3 h4 h5 h6 h9
theorem ae8 (hr:k .ret ⟨258,aB,[(2,true,.d (.bool false))],[⟨300,v,bg x⟩]⟩=R1) {c8 c9 Gr rO xH:Int} (hw:IntKind.i64.wrap (rO+xH)=rO+xH):aG ctx 46 (bP [1,0,1,0,0,1,0,0,1,1,1,1,1,1,1,0]) ⟨258,aB,[(0,true,a),(3,true,b),(4,true,.ptr 300 v 0),(8,true,.d (.int .i64 c8)),(9,true,.d (.int .i64 c9)),(10,true,.d (.int .i64 Gr)),(11,true,.d (.int .i64 rO)),(12,true,.d (.int .i64 xH))],[⟨300,v,bg x⟩]⟩ k=
 if (((cu x).length:Int)=c8∧((ea x).length:Int)=c9∧((dO x).length:Int)=Gr∧¬((bx x).length:Int)<rO∧¬rO+xH<((bx x).length:Int))then k .normal ⟨258,aB,[(0,true,a),(3,true,b),(4,true,.ptr 300 v 0),(186,true,.d (.bool false))],[⟨300,v,bg x⟩]⟩else R1:=by
 simp only[bg]at hr;by_cases h8:((cu x).length:Int)=c8
 ·by_cases h9:((ea x).length:Int)=c9
  ·by_cases nB:((dO x).length:Int)=Gr
   ·by_cases BD:((bx x).length:Int)<rO
    ·(simp[bP,Tryz.f46];simp[h8,h9,nB,BD,hr];intros;exfalso;omega)
    ·by_cases kP:rO+xH<((bx x).length:Int)
     ·(simp[bP,Tryz.f46];simp[h8,h9,nB,BD,hw,kP,hr];intros;exfalso;omega)
     ·(simp[bP,Tryz.f46];simp[h8,h9,nB,BD,hw,kP,hr])
   ·(simp[bP,Tryz.f46];simp[h8,h9,nB,hr])
  ·(simp[bP,Tryz.f46];simp[h8,h9,hr])
 ·(simp[bP,Tryz.f46];simp[h8,hr])
theorem ae9 (hr:k .ret ⟨258,aB,[(2,true,.d (.bool false))],[⟨300,v,bg x⟩]⟩=R1) {c8 c9 Gr rO xH:Int} (hw:IntKind.i64.wrap (rO+xH)=rO+xH):aG ctx 46 (bP [1,0,1,0,0,1,0,0,1,1,1,1,1,1,1,0]) ⟨258,aB,[(0,true,a),(3,true,b),(4,true,.ptr 300 v 0),(8,true,.d (.int .i64 c8)),(9,true,.d (.int .i64 c9)),(10,true,.d (.int .i64 Gr)),(11,true,.d (.int .i64 rO)),(12,true,.d (.int .i64 xH)),(144,true,.d (.bool false))],[⟨300,v,bg x⟩]⟩ k=
 if (((cu x).length:Int)=c8∧((ea x).length:Int)=c9∧((dO x).length:Int)=Gr∧¬((bx x).length:Int)<rO∧¬rO+xH<((bx x).length:Int))then k .normal ⟨258,aB,[(0,true,a),(3,true,b),(4,true,.ptr 300 v 0),(186,true,.d (.bool false))],[⟨300,v,bg x⟩]⟩else R1:=by
 simp only[bg]at hr;by_cases h8:((cu x).length:Int)=c8
 ·by_cases h9:((ea x).length:Int)=c9
  ·by_cases nB:((dO x).length:Int)=Gr
   ·by_cases BD:((bx x).length:Int)<rO
    ·(simp[bP,Tryz.f46];simp[h8,h9,nB,BD,hr];intros;exfalso;omega)
    ·by_cases kP:rO+xH<((bx x).length:Int)
     ·(simp[bP,Tryz.f46];simp[h8,h9,nB,BD,hw,kP,hr];intros;exfalso;omega)
     ·(simp[bP,Tryz.f46];simp[h8,h9,nB,BD,hw,kP,hr])
   ·(simp[bP,Tryz.f46];simp[h8,h9,nB,hr])
  ·(simp[bP,Tryz.f46];simp[h8,h9,hr])
 ·(simp[bP,Tryz.f46];simp[h8,hr])
end
def KS (b:List Sm):Prop:=ai ctx 46 [.d (.list (b.map cC))] []=some (.ret (.d (.bool (en b))),[])
section
variable {x:Sm} {v:Nat} {k:Kt} {R1 R2:bU} {a b:AV}
theorem Gs (hl:(dO x).length<100000000) (h1:k .ret ⟨258,aB,[(2,true,.d (.bool false))],[⟨300,v,bg x⟩]⟩=R1)
 (h2:k (.exit 3) ⟨258,aB,[(0,true,a),(3,true,b),(4,true,.ptr 300 v 0),(13,true,.d (.int .i64 (dO x).length)),(191,true,.d (.bool false))],[⟨300,v,bg x⟩]⟩=R2):∀(rest pre:List Tx),dO x=pre++rest→
 aG ctx 46 (.loop (bP [1,0,1,0,0,1,0,0,1,1,1,1,1,1,1,1,0,1,0,0])) ⟨258,aB,[(0,true,a),(3,true,b),(4,true,.ptr 300 v 0),(13,true,.d (.int .i64 pre.length))],[⟨300,v,bg x⟩]⟩ k=if rest.all cY=true then R2 else R1
 |[],pre,hd=>by
  have cw:pre.length=(dO x).length:=by rw[hd];simp
  simp only[bg]at h2;rw[cw,ah];simp[bP,Tryz.f46,h2]
 |c::rest,pre,hd=>by
  have aV:pre.length<(dO x).length:=by rw[hd];simp
  have aS:(dO x)[pre.length]=c:=by simp[hd]
  have ih:=Gs hl h1 h2 rest (pre++[c]) (by simp[hd]);have hn:=eJ c;have w1:IntKind.i64.wrap ((pre.length:Int)+1)=(pre.length:Int)+1:=ay (by unfold aZ;omega);simp only[bg]at h1;rw[List.all_cons];generalize cY c=N at*;rw[ah];cases N with
  |true=>
   simp[bP,Tryz.f46]at ih⊢;simp[aV,aS,hn,w1,ih]
  |false=>
   simp[bP,Tryz.f46];simp[aV,aS,hn,h1]
theorem Gt {l:List Int} {i:Nat} (hi:i<(ea x).length) (hx:(ea x)[i]=l) (hl:l.length<100000000) (h1:k .ret ⟨258,aB,[(2,true,.d (.bool false))],[⟨300,v,bg x⟩]⟩=R1)
 (h2:k (.exit 7) ⟨258,aB,[(0,true,a),(3,true,b),(4,true,.ptr 300 v 0),(14,true,.d (.int .i64 i)),(15,true,.d (.int .i64 l.length)),(232,true,.d (.bool false))],[⟨300,v,bg x⟩]⟩=R2):∀(rest pre:List Int),l=pre++rest→
 aG ctx 46 (.loop (bP [1,0,1,0,0,1,0,0,1,1,1,1,1,1,1,1,1,0,1,0,0,1,0,0,1,1,0,0])) ⟨258,aB,[(0,true,a),(3,true,b),(4,true,.ptr 300 v 0),(14,true,.d (.int .i64 i)),(15,true,.d (.int .i64 pre.length))],[⟨300,v,bg x⟩]⟩ k=if rest.all (fun n=>decide (n≠ -9223372036854775808))=true then R2 else R1
 |[],pre,hd=>by
  have cw:pre.length=l.length:=by rw[hd];simp
  simp only[bg]at h2;rw[cw,ah];simp[bP,Tryz.f46];simp[hi,hx,mA,h2]
 |c::rest,pre,hd=>by
  have aV:pre.length<l.length:=by rw[hd];simp
  have aS:l[pre.length]=c:=by simp[hd]
  have ih:=Gt hi hx hl h1 h2 rest (pre++[c]) (by simp[hd]);have w1:IntKind.i64.wrap ((pre.length:Int)+1)=(pre.length:Int)+1:=ay (by unfold aZ;omega);simp only[bg]at h1;rw[List.all_cons];rw[ah];by_cases hc:c= -9223372036854775808
  ·simp[bP,Tryz.f46];simp[hi,hx,mA,aV,aS,hc,h1]
  ·simp[bP,Tryz.f46]at ih⊢;simp[hi,hx,mA,aV,aS,hc,w1,ih]
theorem Gu (hl:(bx x).length<100000000) (hK:∀c∈bx x,KS c) (h1:k .ret ⟨258,aB,[(2,true,.d (.bool false))],[⟨300,v,bg x⟩]⟩=R1)
 (h2:k (.exit 9) ⟨258,aB,[(0,true,a),(3,true,b),(4,true,.ptr 300 v 0),(16,true,.d (.int .i64 (bx x).length)),(248,true,.d (.bool false))],[⟨300,v,bg x⟩]⟩=R2):∀(rest pre:List (List Sm)),bx x=pre++rest→
 aG ctx 46 (.loop (bP [1,0,1,0,0,1,0,0,1,1,1,1,1,1,1,1,1,1,1,0,0])) ⟨258,aB,[(0,true,a),(3,true,b),(4,true,.ptr 300 v 0),(16,true,.d (.int .i64 pre.length))],[⟨300,v,bg x⟩]⟩ k=if cK rest=true then R2 else R1
 |[],pre,hd=>by
  have cw:pre.length=(bx x).length:=by rw[hd];simp
  simp only[bg]at h2;rw[cw,ah];simp[bP,Tryz.f46,h2,cK]
 |c::rest,pre,hd=>by
  have aV:pre.length<(bx x).length:=by rw[hd];simp
  have aS:(bx x)[pre.length]=c:=by simp[hd]
  have ih:=Gu hl hK h1 h2 rest (pre++[c]) (by simp[hd]);have hn:=hK c (by rw[hd];simp);have w1:IntKind.i64.wrap ((pre.length:Int)+1)=(pre.length:Int)+1:=ay (by unfold aZ;omega);simp only[bg]at h1;unfold KS at hn;have key:cK (c::rest)=(en c&&cK rest):=by rw[cK]
  rw[key];generalize en c=N at*;rw[ah];cases N with
  |true=>
   simp[bP,Tryz.f46]at ih⊢;simp[aV,aS,hn,df,w1,ih]
  |false=>
   simp[bP,Tryz.f46];simp[aV,aS,hn,df,h1]
end
section
variable {x:Sm} {v:Nat} {k:Kt} {R1 R2:bU} {a b:AV}
theorem Gv (hl:(ea x).length<100000000) (jI:∀l∈ea x,l.length<100000000) (h1:k .ret ⟨258,aB,[(2,true,.d (.bool false))],[⟨300,v,bg x⟩]⟩=R1)
 (h2:k (.exit 5) ⟨258,aB,[(0,true,a),(3,true,b),(4,true,.ptr 300 v 0),(14,true,.d (.int .i64 (ea x).length)),(205,true,.d (.bool false))],[⟨300,v,bg x⟩]⟩=R2):∀(rest pre:List (List Int)),ea x=pre++rest→
 aG ctx 46 (.loop (bP [1,0,1,0,0,1,0,0,1,1,1,1,1,1,1,1,1,0,1,0,0])) ⟨258,aB,[(0,true,a),(3,true,b),(4,true,.ptr 300 v 0),(14,true,.d (.int .i64 pre.length))],[⟨300,v,bg x⟩]⟩ k=if rest.all pf=true then R2 else R1
 |[],pre,hd=>by
  have cw:pre.length=(ea x).length:=by rw[hd];simp
  simp only[bg]at h2;rw[cw,ah];simp[bP,Tryz.f46,h2]
 |c::rest,pre,hd=>by
  have aV:pre.length<(ea x).length:=by rw[hd];simp
  have aS:(ea x)[pre.length]=c:=by simp[hd]
  have aP:=jI c (by rw[hd];simp);have ih:=Gv hl jI h1 h2 rest (pre++[c]) (by simp[hd]);have w1:IntKind.i64.wrap ((pre.length:Int)+1)=(pre.length:Int)+1:=ay (by unfold aZ;omega);have de:=fun k R1 R2 h1 h2=>Gt (a:=a) (b:=b) (v:=v) (k:=k) (R1:=R1) (R2:=R2) aV aS aP h1 h2 c [] rfl;simp only[bg]at h1;rw[List.all_cons];have key:pf c=(!decide (c.length=0)&&(decide (c.length%2=0)&&c.all fun n=>decide (n≠ -9223372036854775808))):=rfl;rw[key];generalize (c.all fun n=>decide (n≠ -9223372036854775808))=B at*;rw[ah];have ht:((c.length:Int)).tmod 2=((c.length%2:Nat):Int):=(Int.ofNat_tmod c.length 2).symm;by_cases h0:c.length=0
  ·have gQ:c=[]:=List.eq_nil_of_length_eq_zero h0;simp[bP,Tryz.f46];simp[aV,aS,mA,h0,gQ,h1]
  ·have gQ:¬c=[]:=fun h=>h0 (by rw[h];rfl);by_cases hp:c.length%2=1
   ·have Fv:¬c.length%2=0:=by omega
    rw[hp]at ht;simp[bP,Tryz.f46];simp[aV,aS,mA,h0,gQ,hp,Fv,ht,h1]
   ·have Fv:c.length%2=0:=by omega
    rw[Fv]at ht;simp[bP,Tryz.f46]at ih de⊢;simp[aV,aS,mA,h0,gQ,hp,Fv,ht];rw[de];cases B<;>simp[h1,w1,ih]
end
section
variable {x:Sm} {v:Nat} {k:Kt} {R1 R2:bU} {a b:AV}
theorem ak1 (hl:(dO x).length<100000000) (h1:k .ret ⟨258,aB,[(2,true,.d (.bool false))],[⟨300,v,bg x⟩]⟩=R1):
 aG ctx 46 (bP [1,0,1,0,0,1,0,0,1,1,1,1,1,1,1,1,0]) ⟨258,aB,[(0,true,a),(3,true,b),(4,true,.ptr 300 v 0),(186,true,.d (.bool false))],[⟨300,v,bg x⟩]⟩ k=
 if (dO x).all cY=true then k .normal ⟨258,aB,[(0,true,a),(3,true,b),(4,true,.ptr 300 v 0),(13,true,.d (.int .i64 (dO x).length)),(191,true,.d (.bool false))],[⟨300,v,bg x⟩]⟩else R1:=by
 have de:=fun k R1 R2 h1 h2=>Gs (a:=a) (b:=b) (v:=v) (k:=k) (R1:=R1) (R2:=R2) hl h1 h2 (dO x) [] rfl;simp only[bg]at h1;generalize (dO x).all cY=B at*;simp[bP,Tryz.f46]at de⊢;rw[de];cases B<;>simp[h1]
theorem ak2 (hl:(ea x).length<100000000) (jI:∀l∈ea x,l.length<100000000) (h1:k .ret ⟨258,aB,[(2,true,.d (.bool false))],[⟨300,v,bg x⟩]⟩=R1) {d1 d2:AV}:
 aG ctx 46 (bP [1,0,1,0,0,1,0,0,1,1,1,1,1,1,1,1,1,0]) ⟨258,aB,[(0,true,a),(3,true,b),(4,true,.ptr 300 v 0),(13,true,d1),(191,true,d2)],[⟨300,v,bg x⟩]⟩ k=
 if (ea x).all pf=true then k .normal ⟨258,aB,[(0,true,a),(3,true,b),(4,true,.ptr 300 v 0),(14,true,.d (.int .i64 (ea x).length)),(205,true,.d (.bool false))],[⟨300,v,bg x⟩]⟩else R1:=by
 have de:=fun k R1 R2 h1 h2=>Gv (a:=a) (b:=b) (v:=v) (k:=k) (R1:=R1) (R2:=R2) hl jI h1 h2 (ea x) [] rfl;simp only[bg]at h1;generalize (ea x).all pf=B at*;simp[bP,Tryz.f46]at de⊢;rw[de];cases B<;>simp[h1]
theorem ak3 (hl:(bx x).length<100000000) (hK:∀c∈bx x,KS c) (h1:k .ret ⟨258,aB,[(2,true,.d (.bool false))],[⟨300,v,bg x⟩]⟩=R1) {d1 d2:AV}:
 aG ctx 46 (bP [1,0,1,0,0,1,0,0,1,1,1,1,1,1,1,1,1,1]) ⟨258,aB,[(0,true,a),(3,true,b),(4,true,.ptr 300 v 0),(14,true,d1),(205,true,d2)],[⟨300,v,bg x⟩]⟩ k=
 if cK (bx x)=true then k .normal ⟨258,aB,[(0,true,a),(3,true,b),(4,true,.ptr 300 v 0),(16,true,.d (.int .i64 (bx x).length)),(248,true,.d (.bool false))],[⟨300,v,bg x⟩]⟩else R1:=by
 have de:=fun k R1 R2 h1 h2=>Gu (a:=a) (b:=b) (v:=v) (k:=k) (R1:=R1) (R2:=R2) hl hK h1 h2 (bx x) [] rfl;simp only[bg]at h1;generalize cK (bx x)=B at*;simp[bP,Tryz.f46]at de⊢;rw[de];cases B<;>simp[h1]
theorem ak4:aG ctx 46 (bP [1,0,1,0,0,1,0,0,1,0]) ⟨258,aB,[(0,true,a),(3,true,b),(4,true,.ptr 300 v 0)],[⟨300,v,bg x⟩]⟩ k=
 k .normal ⟨258,aB,[(0,true,a),(3,true,b),(4,true,.ptr 300 v 0),(5,true,.d (.bool (decide (bu x=4∨bu x=9)))),(6,true,.d (.bool (decide (bu x=1)))),(7,true,.d (.bool (decide (bu x=1∨bu x=3∨bu x=5∨bu x=6))))],[⟨300,v,bg x⟩]⟩:=by
 have hs:=Tg (bu x);simp[bP,Tryz.f46];simp[hs]
end
def Cy (x:Sm):Bool:=decide (((cu x).length:Int)=oO x∧((ea x).length:Int)=oP x∧((dO x).length:Int)=lg x∧¬((bx x).length:Int)<iP x∧¬iP x+jj x<((bx x).length:Int))
theorem Nq (x:Sm):Cy x=cm (bu x) (cu x).length (ea x).length (dO x).length (bx x).length:=by
 unfold Cy cm oO oP lg iP jj xG;generalize bu x=o;generalize (cu x).length=n1;generalize (ea x).length=n2;generalize (dO x).length=n3;generalize (bx x).length=n4;rw[Bool.eq_iff_iff];by_cases h2:o=2
 ·subst h2;by_cases h:(1:Int)<n1
  ·simp[h];omega
  ·simp[h];omega
 ·by_cases h3:o=3
  ·subst h3;simp;omega
  ·by_cases h4:o=4
   ·subst h4;simp;omega
   ·by_cases h5:o=5
    ·subst h5;simp;omega
    ·by_cases h6:o=6
     ·subst h6;simp;omega
     ·by_cases h9:o=9
      ·subst h9;simp;omega
      ·simp[h2,h3,h4,h5,h6,h9]
theorem aap (x:Sm):ji x=(Gp x&&(Gq x&&(Cx x&&(Cy x&&((dO x).all cY&&((ea x).all pf&&cK (bx x))))))):=by
 rw[Nq];obtain⟨op,name,to,val,conds,labels,fields,blocks,line⟩:=x;unfold ji Gp Gq Cx;simp only[Bool.and_assoc];rfl
theorem Vp (x:Ex):uh x↔((dB x).length<100000000∧(fw x).length<100000000∧(cO x).length<100000000)∧oo (cO x):=by
 obtain⟨op,nn,name,field,sub,line⟩:=x;simp only[uh,xE,Gk,ob]
mutual
def xI:Sm→Prop
 | .mk _ _ to val conds labels fields blocks _=>(uh to∧uh val∧(conds.length<100000000∧oo conds)∧(labels.length<100000000∧∀l∈labels,l.length<100000000)∧fields.length<100000000∧blocks.length<100000000)∧nb blocks
def lh:List Sm→Prop
 |[]=>True
 |x::r=>xI x∧lh r
def nb:List (List Sm)→Prop
 |[]=>True
 |b::r=>(b.length<100000000∧lh b)∧nb r
end
def ui (x:Sm):Prop:=uh (eF x)∧uh (dH x)∧((cu x).length<100000000∧oo (cu x))∧((ea x).length<100000000∧∀l∈ea x,l.length<100000000)∧(dO x).length<100000000∧(bx x).length<100000000
theorem Vq (x:Sm):xI x↔ui x∧nb (bx x):=by
 obtain⟨op,name,to,val,conds,labels,fields,blocks,line⟩:=x;unfold xI ui;rfl
theorem Th (x:Sm):cX x=[]∨cX x=[(144,true,.d (.bool false))]:=by
 unfold cX;split
 ·exact .inl rfl
 ·exact .inr rfl
theorem afa {x:Sm} (h:ui x):IntKind.i64.wrap (iP x+jj x)=iP x+jj x:=by
 obtain⟨_,_,⟨h1,_⟩,⟨h2,_⟩,_,_⟩:=h;apply ay;have a1:0≤iP x∧iP x<200000000:=by
  unfold iP xG;split
  ·split<;>omega
  ·split
   ·omega
   ·split<;>omega
 have a2:0≤jj x∧jj x≤1:=by
  unfold jj;split<;>omega
 unfold aZ;omega
section
variable {x:Sm} {v:Nat} {k:Kt} {R1:bU} {a b:AV}
theorem aaq (hx:ui x) (hK:∀c∈bx x,KS c) (h1:k .ret ⟨258,aB,[(2,true,.d (.bool false))],[⟨300,v,bg x⟩]⟩=R1):
 aG ctx 46 (bP [1,0,1,0,0,1,0,0,1]) ⟨258,aB,[(0,true,a),(3,true,b),(4,true,.ptr 300 v 0)],[⟨300,v,bg x⟩]⟩ k=
 if ji x=true then k .normal ⟨258,aB,[(0,true,a),(3,true,b),(4,true,.ptr 300 v 0),(16,true,.d (.int .i64 (bx x).length)),(248,true,.d (.bool false))],[⟨300,v,bg x⟩]⟩else R1:=by
 have e1:bP [1,0,1,0,0,1,0,0,1]=Code.seq (bP [1,0,1,0,0,1,0,0,1,0]) (bP [1,0,1,0,0,1,0,0,1,1]):=rfl;have e2:bP [1,0,1,0,0,1,0,0,1,1]=Code.seq (bP [1,0,1,0,0,1,0,0,1,1,0]) (bP [1,0,1,0,0,1,0,0,1,1,1]):=rfl;have e3:bP [1,0,1,0,0,1,0,0,1,1,1]=Code.seq (bP [1,0,1,0,0,1,0,0,1,1,1,0]) (bP [1,0,1,0,0,1,0,0,1,1,1,1]):=rfl;have e4:bP [1,0,1,0,0,1,0,0,1,1,1,1]=Code.seq (bP [1,0,1,0,0,1,0,0,1,1,1,1,0]) (bP [1,0,1,0,0,1,0,0,1,1,1,1,1]):=rfl;have e5:bP [1,0,1,0,0,1,0,0,1,1,1,1,1]=Code.seq (bP [1,0,1,0,0,1,0,0,1,1,1,1,1,0]) (bP [1,0,1,0,0,1,0,0,1,1,1,1,1,1]):=rfl;have e6:bP [1,0,1,0,0,1,0,0,1,1,1,1,1,1]=Code.seq (bP [1,0,1,0,0,1,0,0,1,1,1,1,1,1,0]) (bP [1,0,1,0,0,1,0,0,1,1,1,1,1,1,1]):=rfl;have e7:bP [1,0,1,0,0,1,0,0,1,1,1,1,1,1,1]=Code.seq (bP [1,0,1,0,0,1,0,0,1,1,1,1,1,1,1,0]) (bP [1,0,1,0,0,1,0,0,1,1,1,1,1,1,1,1]):=rfl;have e8:bP [1,0,1,0,0,1,0,0,1,1,1,1,1,1,1,1]=Code.seq (bP [1,0,1,0,0,1,0,0,1,1,1,1,1,1,1,1,0]) (bP [1,0,1,0,0,1,0,0,1,1,1,1,1,1,1,1,1]):=rfl;have e9:bP [1,0,1,0,0,1,0,0,1,1,1,1,1,1,1,1,1]=Code.seq (bP [1,0,1,0,0,1,0,0,1,1,1,1,1,1,1,1,1,0]) (bP [1,0,1,0,0,1,0,0,1,1,1,1,1,1,1,1,1,1]):=rfl;have hq:∀c,xz ctx 46 c k .ret ⟨258,aB,[(2,true,.d (.bool false))],[⟨300,v,bg x⟩]⟩=R1:=fun _=>h1;have hw:=afa hx;obtain⟨ht,hv,⟨hc,oF⟩,⟨zv,aar⟩,hf,gA⟩:=hx;have kt:KF [eF x]:=Ah (l:=[eF x]) (by simp) ⟨ht,trivial⟩;have kv:KF [dH x]:=Ah (l:=[dH x]) (by simp) ⟨hv,trivial⟩;have kc:KF (cu x):=Ah hc oF;rw[aap];rw[e1,denK_seq,ak4,seqK_n,e2,denK_seq,akW (hq _)];cases Gp x
 ·rw[Bool.false_and,if_neg Bool.false_ne_true,if_neg Bool.false_ne_true]
 rw[if_pos rfl,Bool.true_and,seqK_n,e3,denK_seq,akX (hq _) ((Vp _).1 ht).1 kt];cases Gq x
 ·rw[Bool.false_and,if_neg Bool.false_ne_true,if_neg Bool.false_ne_true]
 rw[if_pos rfl,Bool.true_and,seqK_n,e4,denK_seq,akY (hq _) rfl ((Vp _).1 hv).1 kv kc];cases Cx x
 ·rw[Bool.false_and,if_neg Bool.false_ne_true,if_neg Bool.false_ne_true]
 rw[if_pos rfl,Bool.true_and,seqK_n,e5,denK_seq,akZ (X:=[]),seqK_n,e6,denK_seq,ak0,seqK_n,e7,denK_seq];have h6:∀kk:Kt,kk .ret ⟨258,aB,[(2,true,.d (.bool false))],[⟨300,v,bg x⟩]⟩=R1→aG ctx 46 (bP [1,0,1,0,0,1,0,0,1,1,1,1,1,1,1,0]) ⟨258,aB,[(0,true,a),(3,true,b),(4,true,.ptr 300 v 0),(8,true,.d (.int .i64 (oO x))),(9,true,.d (.int .i64 (oP x))),(10,true,.d (.int .i64 (lg x))),(11,true,.d (.int .i64 (iP x))),(12,true,.d (.int .i64 (jj x)))]++cX x,[⟨300,v,bg x⟩]⟩ kk=
  if Cy x=true then kk .normal ⟨258,aB,[(0,true,a),(3,true,b),(4,true,.ptr 300 v 0),(186,true,.d (.bool false))],[⟨300,v,bg x⟩]⟩else R1:=by
  intro kk hk;unfold Cy;rcases Th x with hX|hX
  ·rw[hX,List.append_nil,ae8 hk hw];simp only[decide_eq_true_eq]
  ·rw[hX];simp only[List.cons_append,List.nil_append];rw[ae9 hk hw];simp only[decide_eq_true_eq]
 rw[h6 _ (hq _)];cases Cy x
 ·rw[Bool.false_and,if_neg Bool.false_ne_true,if_neg Bool.false_ne_true]
 rw[if_pos rfl,Bool.true_and,seqK_n,e8,denK_seq,ak1 hf (hq _)];cases (dO x).all cY
 ·rw[Bool.false_and,if_neg Bool.false_ne_true,if_neg Bool.false_ne_true]
 rw[if_pos rfl,Bool.true_and,seqK_n,e9,denK_seq,ak2 zv aar (hq _)];cases (ea x).all pf
 ·rw[Bool.false_and,if_neg Bool.false_ne_true,if_neg Bool.false_ne_true]
 rw[if_pos rfl,Bool.true_and,seqK_n,ak3 gA hK h1]
end
theorem Gw (l:List Sm) (bm:l.length<100000000) (hS:∀x∈l,ui x) (hK:∀x∈l,∀c∈bx x,KS c) (k:Kt) (R1 R2:bU)
 (h1:∀v X,k .ret ⟨258,aB,[(2,true,.d (.bool false))],[⟨300,v,X⟩]⟩=R1)
 (h2:∀(Y:Env) v X,k (.exit 0) ⟨258,aB,Y,[⟨300,v,X⟩]⟩=R2):∀(rest pre:List Sm) (v:Nat) (X:aD),l=pre++rest→
 aG ctx 46 (.loop (bP [1,0,1,0,0])) ⟨258,aB,[(0,true,.d (.list (l.map cC))),(3,true,.d (.int .i64 pre.length))],[⟨300,v,X⟩]⟩ k=if en rest=true then R2 else R1
 |[],pre,v,X,hd=>by
  have cw:pre.length=l.length:=by rw[hd];simp
  rw[cw,ah];simp[bP,Tryz.f46,h2,en]
 |x::rest,pre,v,X,hd=>by
  have aV:pre.length<l.length:=by rw[hd];simp
  have aS:l[pre.length]=x:=by simp[hd]
  have hm:x∈l:=by rw[hd];simp
  have hb:=fun (v:Nat) (a b:AV) (k:Kt)=>aaq (v:=v) (a:=a) (b:=b) (k:=k) (hS x hm) (hK x hm) rfl;have ih:∀v X,aG ctx 46 (.loop (bP [1,0,1,0,0])) ⟨258,aB,[(0,true,.d (.list (l.map cC))),(3,true,.d (.int .i64 (pre.length+1)))],[⟨300,v,X⟩]⟩ k=if en rest=true then R2 else R1:=fun v X=>by
   have:=Gw l bm hS hK k R1 R2 h1 h2 rest (pre++[x]) v X (by simp[hd]);simpa using this
  have w1:IntKind.i64.wrap ((pre.length:Int)+1)=(pre.length:Int)+1:=ay (by unfold aZ;omega);have key:en (x::rest)=(ji x&&en rest):=by rw[en]
  rw[key];generalize ji x=N at*;generalize en rest=M at*;rw[ah];simp[bP,Tryz.f46]at hb ih⊢;simp[aV,aS,eK];simp[hb];cases N<;>simp[h1,w1,ih]
theorem Qj {l:List Sm} (bm:l.length<100000000) (hS:∀x∈l,ui x) (hK:∀x∈l,∀c∈bx x,KS c):KS l:=by
 have h:=fun k R1 R2 h1 h2 v X=>Gw l bm hS hK k R1 R2 h1 h2 l [] v X rfl;unfold KS;rw[aeM (by simp)];simp[bP,Tryz.f46]at h⊢;rw[h _ (some (.ret (.d (.bool false)),[])) (some (.ret (.d (.bool true)),[]))]
 ·cases en l<;>simp
 ·intro v X;simp
 ·intro Y v X;simp
mutual
theorem aas:∀x:Sm,xI x→ui x∧∀c∈bx x,KS c
 | .mk op name to val conds labels fields blocks line,h=>by
  have h:=(Vq _).1 h;exact⟨h.1,Kc blocks h.2⟩
theorem yx:∀l:List Sm,lh l→∀x∈l,ui x∧∀c∈bx x,KS c
 |[],_,x,hx=>by simp at hx
 |y::r,h,x,hx=>by
  simp only[lh]at h;have h1:=aas y h.1;have h2:=yx r h.2;rcases List.mem_cons.1 hx with e|hx
  ·rw[e];exact h1
  ·exact h2 x hx
theorem Kc:∀l:List (List Sm),nb l→∀c∈l,KS c
 |[],_,c,hc=>by simp at hc
 |b::r,h,c,hc=>by
  simp only[nb]at h;have h1:=yx b h.1.2;have h2:=Kc r h.2;rcases List.mem_cons.1 hc with e|hc
  ·rw[e];exact Qj h.1.1 (fun x hx=>(h1 x hx).1) (fun x hx=>(h1 x hx).2)
  ·exact h2 c hc
end
theorem Ti {l:List Sm} (bm:l.length<100000000) (h:lh l):KS l:=
 Qj bm (fun x hx=>(yx l h x hx).1) (fun x hx=>(yx l h x hx).2)
theorem ak5:ai ctx 73 [.d (.int .i64 10)] []=some (.ret (.d (.list ((bq 10).map cS))),[]):=bn 120 (by kernel_rfl)
theorem ak6:ai ctx 73 [.d (.int .i64 11)] []=some (.ret (.d (.list ((bq 11).map cS))),[]):=bn 120 (by kernel_rfl)
theorem ak7:ai ctx 73 [.d (.int .i64 12)] []=some (.ret (.d (.list ((bq 12).map cS))),[]):=bn 120 (by kernel_rfl)
theorem ak8:ai ctx 73 [.d (.int .i64 13)] []=some (.ret (.d (.list ((bq 13).map cS))),[]):=bn 120 (by kernel_rfl)
theorem ak9:ai ctx 73 [.d (.int .i64 14)] []=some (.ret (.d (.list ((bq 14).map cS))),[]):=bn 120 (by kernel_rfl)
theorem ala:ai ctx 73 [.d (.int .i64 15)] []=some (.ret (.d (.list ((bq 15).map cS))),[]):=bn 120 (by kernel_rfl)
theorem alb:ai ctx 73 [.d (.int .i64 16)] []=some (.ret (.d (.list ((bq 16).map cS))),[]):=bn 120 (by kernel_rfl)
theorem alc:ai ctx 73 [.d (.int .i64 17)] []=some (.ret (.d (.list ((bq 17).map cS))),[]):=bn 120 (by kernel_rfl)
theorem ald:ai ctx 73 [.d (.int .i64 18)] []=some (.ret (.d (.list ((bq 18).map cS))),[]):=bn 120 (by kernel_rfl)
theorem ale:ai ctx 73 [.d (.int .i64 19)] []=some (.ret (.d (.list ((bq 19).map cS))),[]):=bn 120 (by kernel_rfl)
theorem alf:ai ctx 73 [.d (.int .i64 20)] []=some (.ret (.d (.list ((bq 20).map cS))),[]):=bn 120 (by kernel_rfl)
theorem alg:ai ctx 73 [.d (.int .i64 21)] []=some (.ret (.d (.list ((bq 21).map cS))),[]):=bn 120 (by kernel_rfl)
theorem alh:ai ctx 73 [.d (.int .i64 22)] []=some (.ret (.d (.list ((bq 22).map cS))),[]):=bn 120 (by kernel_rfl)
theorem ali:ai ctx 73 [.d (.int .i64 23)] []=some (.ret (.d (.list ((bq 23).map cS))),[]):=bn 120 (by kernel_rfl)
theorem alj:ai ctx 73 [.d (.int .i64 24)] []=some (.ret (.d (.list ((bq 24).map cS))),[]):=bn 120 (by kernel_rfl)
theorem alk:ai ctx 73 [.d (.int .i64 25)] []=some (.ret (.d (.list ((bq 25).map cS))),[]):=bn 120 (by kernel_rfl)
theorem alm:ai ctx 73 [.d (.int .i64 26)] []=some (.ret (.d (.list ((bq 26).map cS))),[]):=bn 120 (by kernel_rfl)
theorem aln:ai ctx 73 [.d (.int .i64 27)] []=some (.ret (.d (.list ((bq 27).map cS))),[]):=bn 120 (by kernel_rfl)
theorem alo:ai ctx 73 [.d (.int .i64 28)] []=some (.ret (.d (.list ((bq 28).map cS))),[]):=bn 120 (by kernel_rfl)
theorem alp:ai ctx 73 [.d (.int .i64 29)] []=some (.ret (.d (.list ((bq 29).map cS))),[]):=bn 120 (by kernel_rfl)
theorem alq:ai ctx 73 [.d (.int .i64 30)] []=some (.ret (.d (.list ((bq 30).map cS))),[]):=bn 120 (by kernel_rfl)
theorem alr:ai ctx 73 [.d (.int .i64 31)] []=some (.ret (.d (.list ((bq 31).map cS))),[]):=bn 120 (by kernel_rfl)
abbrev Rw:=Int×Tx×Tx×List Tx
def BI:List Rw:=[
 (10,[84,79,78],[105,73,111,79],[[73,78],[80,84],[81],[69,84]]),
 (11,[84,79,70],[105,73,111,79],[[73,78],[80,84],[81],[69,84]]),
 (12,[84,80],[105,73,111,79,46,46],[[73,78],[80,84],[81],[69,84]]),
 (13,[67,84,85],[105,105,73,111,79,46],[[67,85],[82],[80,86],[81],[67,86]]),
 (14,[67,84,68],[105,105,73,111,79,46],[[67,68],[76,68],[80,86],[81],[67,86]]),
 (15,[82,95,84,82,73,71],[105,111,46],[[67,76,75],[81]]),
 (16,[70,95,84,82,73,71],[105,111,46],[[67,76,75],[81]]),
 (17,[83,82],[105,105,111],[[83,49],[82],[81,49]]),
 (18,[82,83],[105,105,111],[[83],[82,49],[81,49]]),
 (20,[77,67,95,80,111,119,101,114],[73,105,111,111],[[65,120,105,115],[69,110,97,98,108,101],[83,116,97,116,117,115],[69,114,114,111,114]]),
 (21,[77,67,95,72,111,109,101],[73,105,111,111,111,111,111,46,46],[[65,120,105,115],[69,120,101,99,117,116,101],[68,111,110,101],[66,117,115,121],[65,99,116,105,118,101],[67,111,109,109,97,110,100,65,98,111,114,116,101,100],[69,114,114,111,114]]),
 (22,[77,67,95,83,116,111,112],[73,105,111,111,111,111,111,46,46],[[65,120,105,115],[69,120,101,99,117,116,101],[68,111,110,101],[66,117,115,121],[65,99,116,105,118,101],[67,111,109,109,97,110,100,65,98,111,114,116,101,100],[69,114,114,111,114]]),
 (23,[77,67,95,72,97,108,116],[73,105,111,111,111,111,111,46,46],[[65,120,105,115],[69,120,101,99,117,116,101],[68,111,110,101],[66,117,115,121],[65,99,116,105,118,101],[67,111,109,109,97,110,100,65,98,111,114,116,101,100],[69,114,114,111,114]]),
 (24,[77,67,95,77,111,118,101,65,98,115,111,108,117,116,101],[73,105,73,73,73,111,111,111,111,111,46,46],[[65,120,105,115],[69,120,101,99,117,116,101],[80,111,115,105,116,105,111,110],[86,101,108,111,99,105,116,121],[66,117,102,102,101,114,77,111,100,101],[68,111,110,101],[66,117,115,121],[65,99,116,105,118,101],[67,111,109,109,97,110,100,65,98,111,114,116,101,100],[69,114,114,111,114]]),
 (25,[77,67,95,77,111,118,101,82,101,108,97,116,105,118,101],[73,105,73,73,73,111,111,111,111,111,46,46],[[65,120,105,115],[69,120,101,99,117,116,101],[68,105,115,116,97,110,99,101],[86,101,108,111,99,105,116,121],[66,117,102,102,101,114,77,111,100,101],[68,111,110,101],[66,117,115,121],[65,99,116,105,118,101],[67,111,109,109,97,110,100,65,98,111,114,116,101,100],[69,114,114,111,114]]),
 (26,[77,67,95,77,111,118,101,65,100,100,105,116,105,118,101],[73,105,73,73,73,111,111,111,111,111,46,46],[[65,120,105,115],[69,120,101,99,117,116,101],[68,105,115,116,97,110,99,101],[86,101,108,111,99,105,116,121],[66,117,102,102,101,114,77,111,100,101],[68,111,110,101],[66,117,115,121],[65,99,116,105,118,101],[67,111,109,109,97,110,100,65,98,111,114,116,101,100],[69,114,114,111,114]]),
 (27,[77,67,95,77,111,118,101,86,101,108,111,99,105,116,121],[73,105,73,111,111,111,111,111,46,46],[[65,120,105,115],[69,120,101,99,117,116,101],[86,101,108,111,99,105,116,121],[73,110,86,101,108,111,99,105,116,121],[66,117,115,121],[65,99,116,105,118,101],[67,111,109,109,97,110,100,65,98,111,114,116,101,100],[69,114,114,111,114]]),
 (28,[77,67,95,71,101,97,114,73,110],[73,105,73,73,73,111,111,111,111,111,46,46],[[65,120,105,115],[69,120,101,99,117,116,101],[77,97,115,116,101,114],[78,117,109,101,114,97,116,111,114],[68,101,110,111,109,105,110,97,116,111,114],[73,110,71,101,97,114],[66,117,115,121],[65,99,116,105,118,101],[67,111,109,109,97,110,100,65,98,111,114,116,101,100],[69,114,114,111,114]]),
 (29,[77,67,95,82,101,115,101,116],[73,105,111,111,46],[[65,120,105,115],[69,120,101,99,117,116,101],[68,111,110,101],[69,114,114,111,114]]),
 (30,[77,67,95,83,101,116,80,111,115,105,116,105,111,110],[73,105,73,111,111,46],[[65,120,105,115],[69,120,101,99,117,116,101],[80,111,115,105,116,105,111,110],[68,111,110,101],[69,114,114,111,114]]),
 (31,[77,67,95,83,101,116,79,118,101,114,114,105,100,101],[73,105,73,111],[[65,120,105,115],[69,110,97,98,108,101],[80,101,114,99,101,110,116],[69,110,97,98,108,101,100]])]
def Vs (r:Rw):D:=.agg [.int .i64 r.1,.str r.2.1,.str r.2.2.1,.list (r.2.2.2.map .str)]
theorem aat:ai ctx 85 [] []=some (.ret (.d (.list (BI.map Vs))),[]):=bn 120 (by kernel_rfl)
def tG (k:Int):List Rw→Tx
 |[]=>[]
 |r::l=>if r.1=k then r.2.1 else tG k l
theorem Ke (q:Int) (l:List Rw) (hl:l.length<1000) (k:Kt) (RF:Tx→bU)
 (h1:∀t,k .ret ⟨24,aB,[(2,true,.d (.str t))],[]⟩=RF t)
 (h2:∀Y:Env,k (.exit 0) ⟨24,aB,Y,[]⟩=RF []):∀(rest pre:List Rw),l=pre++rest→
 aG ctx 45 (.loop (Code.at (bh Tryz.f45) [1,1,0,1,0,0])) ⟨24,aB,[(0,true,.d (.int .i64 q)),(3,true,.d (.list (l.map Vs))),(4,true,.d (.int .i64 pre.length))],[]⟩ k=RF (tG q rest)
 |[],pre,hd=>by
  have cw:pre.length=l.length:=by rw[hd];simp
  rw[cw,ah];simp[Tryz.f45,h2,tG]
 |x::rest,pre,hd=>by
  have aV:pre.length<l.length:=by rw[hd];simp
  have aS:l[pre.length]=x:=by simp[hd]
  have ih:=Ke q l hl k RF h1 h2 rest (pre++[x]) (by simp[hd]);have w1:IntKind.i64.wrap ((pre.length:Int)+1)=(pre.length:Int)+1:=ay (by unfold aZ;omega);rw[ah];by_cases hq:x.1=q
  ·simp[Tryz.f45];simp[aV,aS,Vs,hq,h1,tG]
  ·simp[Tryz.f45]at ih⊢;simp[aV,aS,Vs,hq,w1,ih,tG]
theorem als (q:Int):ai ctx 45 [.d (.int .i64 q)] []=some (.ret (.d (.str (tG q BI))),[]):=by
 have h:=fun k RF h1 h2=>Ke q BI (by decide) k RF h1 h2 BI [] rfl;have hr:=aat;rw[aeL (by simp)];generalize BI=l at*;simp[Tryz.f45]at h⊢;simp[hr];rw[h _ (fun t=>some (.ret (.d (.str t)),[])) (by simp) (by simp)]
theorem Wj (q:Int):(tG q BI=[])↔oe q=false:=by
 by_cases h:10≤q∧q≤31
 ·have:q=10∨q=11∨q=12∨q=13∨q=14∨q=15∨q=16∨q=17∨q=18∨q=19∨q=20∨q=21∨q=22∨q=23∨q=24∨q=25∨q=26∨q=27∨q=28∨q=29∨q=30∨q=31:=by omega
  rcases this with h|h|h|h|h|h|h|h|h|h|h|h|h|h|h|h|h|h|h|h|h|h<;>subst h<;>decide
 ·have e:∀n:Int,10≤n→n≤31→¬n=q:=fun n a b c=>h (by omega);have e1:bq q=[]:=by
   unfold bq Gl;simp only[qW];rw[if_neg (e _ (by decide) (by decide)),if_neg (e _ (by decide) (by decide)),if_neg (e _ (by decide) (by decide)),if_neg (e _ (by decide) (by decide)),if_neg (e _ (by decide) (by decide)),if_neg (e _ (by decide) (by decide)),if_neg (e _ (by decide) (by decide)),if_neg (e _ (by decide) (by decide)),if_neg (e _ (by decide) (by decide)),if_neg (e _ (by decide) (by decide)),if_neg (e _ (by decide) (by decide)),if_neg (e _ (by decide) (by decide)),if_neg (e _ (by decide) (by decide)),if_neg (e _ (by decide) (by decide)),if_neg (e _ (by decide) (by decide)),if_neg (e _ (by decide) (by decide)),if_neg (e _ (by decide) (by decide)),if_neg (e _ (by decide) (by decide)),if_neg (e _ (by decide) (by decide)),if_neg (e _ (by decide) (by decide)),if_neg (e _ (by decide) (by decide))]
  have e2:tG q BI=[]:=by
   unfold BI;simp only[tG];rw[if_neg (e _ (by decide) (by decide)),if_neg (e _ (by decide) (by decide)),if_neg (e _ (by decide) (by decide)),if_neg (e _ (by decide) (by decide)),if_neg (e _ (by decide) (by decide)),if_neg (e _ (by decide) (by decide)),if_neg (e _ (by decide) (by decide)),if_neg (e _ (by decide) (by decide)),if_neg (e _ (by decide) (by decide)),if_neg (e _ (by decide) (by decide)),if_neg (e _ (by decide) (by decide)),if_neg (e _ (by decide) (by decide)),if_neg (e _ (by decide) (by decide)),if_neg (e _ (by decide) (by decide)),if_neg (e _ (by decide) (by decide)),if_neg (e _ (by decide) (by decide)),if_neg (e _ (by decide) (by decide)),if_neg (e _ (by decide) (by decide)),if_neg (e _ (by decide) (by decide)),if_neg (e _ (by decide) (by decide)),if_neg (e _ (by decide) (by decide))]
  rw[e2];unfold oe;rw[e1];simp
section
variable {vs:List Vr} {n:Int} (hl:vs.length<1000000) (eh:∀v∈vs,du v=true)
def Qk (vs:List Vr) (x:Sm):EL:=match bf vs (gV x)with
 |none=>(9,ko x)
 |some v=>if v.ty≤2 then (10,ko x)else iC vs v.ty (ko x) (dO x) (cu x) []
def coE (vs:List Vr) (x:Sm):EL:=match bf vs (gV x)with
 |none=>(9,ko x)
 |some v=>if v.sec=1 then (1,ko x)else if v.arr=true∨v.ty≠1 then (10,ko x)else eX (kp vs 1 (cu x)) (sH vs (bx x))
include hl eh
end
theorem qY (vs:List Vr) (lp:Bool) (x:Sm):jU vs lp x=
 if bu x=1 then BE vs (eF x) (dH x) (ko x)
 else if bu x=2 then fB vs lp (cu x) (bx x)
 else if bu x=3 then eX (dk vs (dH x) 1) (fB vs lp [] (bx x))
 else if bu x=4 then coE vs x
 else if bu x=5 then eX (dk vs (dH x) 2) (sH vs (bx x))
 else if bu x=6 then eX (sH vs (bx x)) (dk vs (dH x) 2)
 else if bu x=7 then (if lp=true then (0,0)else (14,ko x))
 else if bu x=9 then Qk vs x
 else (0,0):=by
 obtain⟨op,name,to,val,conds,labels,fields,blocks,line⟩:=x;unfold jU coE Qk;rfl
mutual
def Kf:Sm→Nat
 | .mk _ _ _ _ conds labels fields blocks _=>1+conds.length+labels.length+fields.length+tH blocks
def qq:List Sm→Nat
 |[]=>0
 |x::r=>Kf x+qq r
def tH:List (List Sm)→Nat
 |[]=>0
 |b::r=>qq b+1+tH r
end
theorem Ai:∀l:List Sm,l.length≤qq l
 |[]=>by simp[qq]
 | .mk _ _ _ _ c lb f bl _::r=>by have:=Ai r;simp only[qq,Kf,List.length_cons];omega
theorem Gx:∀l:List (List Sm),l.length≤tH l
 |[]=>by simp[tH]
 |b::r=>by have:=Gx r;simp only[tH,List.length_cons];omega
section
variable {vs:List Vr} {n:Int} (hl:vs.length<1000000) (eh:∀v∈vs,du v=true)
end
section
variable {vs:List Vr} {n:Int} (hl:vs.length<1000000) (eh:∀v∈vs,du v=true)
theorem kH {a b:EL} (h:a.1=0):eX a b=b:=by unfold eX;rw[if_neg (by simp[h])]
theorem oq {a b:EL} (h:¬a.1=0):eX a b=a:=by unfold eX;rw[if_pos h]
include hl eh
end
def dC (e:EL):EL:=if e.1=0 then (0,0)else e
@[reducible] noncomputable def fI (p:List Nat):Code:=Code.at (bh Tryz.f18) p
def Ql (w:Vr):Bool:=cY w.name&&decide (0≤w.sec∧w.sec≤2)
def Qm (w:Vr):Bool:=decide (w.ty=1∨w.ty=2)||oe w.ty
def Qn (w:Vr):Bool:=if w.arr=true then decide (w.ty≤2∧0≤w.lo∧w.lo≤w.hi∧w.hi≤255)else decide (w.lo=0∧w.hi=0)
def Vt (w:Vr):Bool:=!decide (((w.arr=true∨2<w.ty)∧w.init≠0)∨(w.ty=2∧(w.init<0∨1<w.init))∨w.init= -9223372036854775808)
theorem aav (w:Vr):du w=(Ql w&&(Qm w&&(Qn w&&Vt w))):=by
 unfold du Ql Qm Qn Vt;simp only[Bool.and_assoc]
section
variable {w:Vr} {v:Nat} {k:Kt} {R1:bU} {a b:AV} {B:aD} (hr:k .ret ⟨129,aB,[(2,true,.d (.bool false))],[⟨150,1,B⟩,⟨300,v,ib w⟩]⟩=R1)
include hr
theorem afb:aG ctx 18 (fI [1,1,0,1,0,0,1,0,0,1,0]) ⟨129,aB,[(1,true,a),(3,true,b),(4,true,.ptr 300 v 0)],[⟨150,1,B⟩,⟨300,v,ib w⟩]⟩ k=
 if Ql w=true then k .normal ⟨129,aB,[(1,true,a),(3,true,b),(4,true,.ptr 300 v 0),(40,true,.d (.bool false))],[⟨150,1,B⟩,⟨300,v,ib w⟩]⟩else R1:=by
 have hn:=eJ w.name;unfold Ql;simp only[ib]at hr;generalize cY w.name=N at*;cases N with
 |false=>(simp[fI,Tryz.f18];simp[hn,hr])
 |true=>
  by_cases h1:w.sec<0
  ·have h2:¬0≤w.sec:=by omega
   (simp[fI,Tryz.f18];simp[hn,h1,h2,hr])
  ·have h2:0≤w.sec:=by omega
   by_cases h3:2<w.sec
   ·have h4:¬w.sec≤2:=by omega
    (simp[fI,Tryz.f18];simp[hn,h1,h2,h3,h4,hr])
   ·have h4:w.sec≤2:=by omega
    (simp[fI,Tryz.f18];simp[hn,h1,h2,h3,h4,hr])
theorem afc {d:AV}:aG ctx 18 (fI [1,1,0,1,0,0,1,0,0,1,1,0]) ⟨129,aB,[(1,true,a),(3,true,b),(4,true,.ptr 300 v 0),(40,true,d)],[⟨150,1,B⟩,⟨300,v,ib w⟩]⟩ k=
 if Qm w=true then k .normal ⟨129,aB,[(1,true,a),(3,true,b),(4,true,.ptr 300 v 0),(54,true,.d (.bool false))],[⟨150,1,B⟩,⟨300,v,ib w⟩]⟩else R1:=by
 have hn:=als w.ty;have hq:=Wj w.ty;unfold Qm;simp only[ib]at hr;generalize tG w.ty BI=T at*;generalize oe w.ty=Q at*;by_cases h1:w.ty=1
 ·(simp only[h1]at hr⊢;simp[fI,Tryz.f18];simp[h1])
 ·by_cases h2:w.ty=2
  ·(simp only[h2]at hr⊢;simp[fI,Tryz.f18];simp[h2])
  ·by_cases hT:T=[]
   ·have hQ:=hq.1 hT
    (simp[fI,Tryz.f18];simp[hn,h1,h2,hT,hQ,hr])
   ·have hQ:Q=true:=by cases Q with|true=>rfl|false=>exact absurd (hq.2 rfl) hT
    (simp[fI,Tryz.f18];simp[hn,h1,h2,hT,hQ,hr])
theorem afd {d:AV}:aG ctx 18 (fI [1,1,0,1,0,0,1,0,0,1,1,1,0]) ⟨129,aB,[(1,true,a),(3,true,b),(4,true,.ptr 300 v 0),(54,true,d)],[⟨150,1,B⟩,⟨300,v,ib w⟩]⟩ k=
 if Qn w=true then k .normal ⟨129,aB,[(1,true,a),(3,true,b),(4,true,.ptr 300 v 0),(93,true,.d (.bool false))],[⟨150,1,B⟩,⟨300,v,ib w⟩]⟩else R1:=by
 unfold Qn;simp only[ib]at hr;obtain⟨name,ty,sec,arr,lo,hi,init,line⟩:=w;simp only at hr⊢;cases arr with
 |false=>
  by_cases h1:lo=0
  ·by_cases h2:hi=0
   ·(simp[fI,Tryz.f18];simp[h1,h2,hr])
   ·(simp only[h1]at hr;simp[fI,Tryz.f18];simp[h1,h2,hr])
  ·(simp[fI,Tryz.f18];simp[h1,hr])
 |true=>
  by_cases h1:2<ty
  ·have ly:¬ty≤2:=by omega
   (simp[fI,Tryz.f18];simp[h1,ly,hr])
  ·have ly:ty≤2:=by omega
   by_cases h2:lo<0
   ·have sK:¬0≤lo:=by omega
    (simp[fI,Tryz.f18];simp[h1,ly,h2,sK,hr])
   ·have sK:0≤lo:=by omega
    by_cases h3:hi<lo
    ·have oQ:¬lo≤hi:=by omega
     (simp[fI,Tryz.f18];simp[h1,ly,h2,sK,h3,oQ,hr])
    ·have oQ:lo≤hi:=by omega
     by_cases h4:255<hi
     ·have DM:¬hi≤255:=by omega
      (simp[fI,Tryz.f18];simp[h1,ly,h2,sK,h3,oQ,h4,DM,hr])
     ·have DM:hi≤255:=by omega
      (simp[fI,Tryz.f18];simp[h1,ly,h2,sK,h3,oQ,h4,DM,hr])
theorem afe {d:AV}:aG ctx 18 (fI [1,1,0,1,0,0,1,0,0,1,1,1,1]) ⟨129,aB,[(1,true,a),(3,true,b),(4,true,.ptr 300 v 0),(93,true,d)],[⟨150,1,B⟩,⟨300,v,ib w⟩]⟩ k=
 if Vt w=true then k .normal ⟨129,aB,[(1,true,a),(3,true,b),(125,true,.d (.bool false))],[⟨150,1,B⟩,⟨300,v,ib w⟩]⟩else R1:=by
 unfold Vt;simp only[ib]at hr;obtain⟨name,ty,sec,arr,lo,hi,init,line⟩:=w;simp only at hr⊢;cases arr with
 |true=>
  by_cases h2:init=0
  ·subst h2;by_cases h3:ty=2
   ·subst h3;(simp[fI,Tryz.f18];all_goals simp[hr])
   ·(simp[fI,Tryz.f18];all_goals simp[h3,hr])
  ·(simp[fI,Tryz.f18];all_goals simp[h2,hr])
 |false=>
  by_cases h1:2<ty
  ·have h3:¬ty=2:=by omega
   have ly:¬ty≤2:=by omega
   by_cases h2:init=0
   ·subst h2;(simp[fI,Tryz.f18];all_goals simp[h1,ly,h3,hr])
   ·(simp[fI,Tryz.f18];all_goals simp[h1,ly,h2,h3,hr])
  ·have ly:ty≤2:=by omega
   by_cases h3:ty=2
   ·subst h3;by_cases h4:init<0
    ·have DM:¬0≤init:=by omega
     (simp[fI,Tryz.f18];all_goals simp[h4,DM,hr])
    ·have DM:0≤init:=by omega
     by_cases h5:1<init
     ·have h5':¬init≤1:=by omega
      (simp[fI,Tryz.f18];all_goals simp[h4,DM,h5,h5',hr])
     ·have h6:¬init= -9223372036854775808:=by omega
      have h5':init≤1:=by omega
      (simp[fI,Tryz.f18];all_goals simp[h4,DM,h5,h5',h6,hr])
   ·by_cases h6:init= -9223372036854775808
    ·subst h6;(simp[fI,Tryz.f18];all_goals simp[h1,ly,h3,hr])
    ·(simp[fI,Tryz.f18];all_goals simp[h1,ly,h3,h6,hr])
end
section
variable {w:Vr} {v:Nat} {k:Kt} {R1:bU} {a b:AV} {B:aD}
theorem aax (hr:k .ret ⟨129,aB,[(2,true,.d (.bool false))],[⟨150,1,B⟩,⟨300,v,ib w⟩]⟩=R1):
 aG ctx 18 (fI [1,1,0,1,0,0,1,0,0,1]) ⟨129,aB,[(1,true,a),(3,true,b),(4,true,.ptr 300 v 0)],[⟨150,1,B⟩,⟨300,v,ib w⟩]⟩ k=
 if du w=true then k .normal ⟨129,aB,[(1,true,a),(3,true,b),(125,true,.d (.bool false))],[⟨150,1,B⟩,⟨300,v,ib w⟩]⟩else R1:=by
 have e1:fI [1,1,0,1,0,0,1,0,0,1]=Code.seq (fI [1,1,0,1,0,0,1,0,0,1,0]) (fI [1,1,0,1,0,0,1,0,0,1,1]):=rfl;have e2:fI [1,1,0,1,0,0,1,0,0,1,1]=Code.seq (fI [1,1,0,1,0,0,1,0,0,1,1,0]) (fI [1,1,0,1,0,0,1,0,0,1,1,1]):=rfl;have e3:fI [1,1,0,1,0,0,1,0,0,1,1,1]=Code.seq (fI [1,1,0,1,0,0,1,0,0,1,1,1,0]) (fI [1,1,0,1,0,0,1,0,0,1,1,1,1]):=rfl;have hq:∀c,xz ctx 18 c k .ret ⟨129,aB,[(2,true,.d (.bool false))],[⟨150,1,B⟩,⟨300,v,ib w⟩]⟩=R1:=fun _=>hr;rw[aav,e1,denK_seq,afb (hq _)];cases Ql w
 ·rw[Bool.false_and,if_neg Bool.false_ne_true,if_neg Bool.false_ne_true]
 rw[if_pos rfl,Bool.true_and,seqK_n,e2,denK_seq,afc (hq _)];cases Qm w
 ·rw[Bool.false_and,if_neg Bool.false_ne_true,if_neg Bool.false_ne_true]
 rw[if_pos rfl,Bool.true_and,seqK_n,e3,denK_seq,afd (hq _)];cases Qn w
 ·rw[Bool.false_and,if_neg Bool.false_ne_true,if_neg Bool.false_ne_true]
 rw[if_pos rfl,Bool.true_and,seqK_n,afe hr]
end
theorem Kg (l:List Vr) (bm:l.length≤64) (D1 D2:AV) (k:Kt) (R1 R2:bU)
 (h1:∀v X,k .ret ⟨129,aB,[(2,true,.d (.bool false))],[⟨150,1,.box [D1,.d (.list (l.map bG)),D2]⟩,⟨300,v,X⟩]⟩=R1)
 (h2:∀(b c:AV) v X,k (.exit 0) ⟨129,aB,[(1,true,.ptr 150 1 0),(3,true,b),(19,true,c)],[⟨150,1,.box [D1,.d (.list (l.map bG)),D2]⟩,⟨300,v,X⟩]⟩=R2):∀(rest pre:List Vr) (v:Nat) (X:aD),l=pre++rest→
 aG ctx 18 (.loop (fI [1,1,0,1,0,0])) ⟨129,aB,[(1,true,.ptr 150 1 0),(3,true,.d (.int .i64 pre.length))],[⟨150,1,.box [D1,.d (.list (l.map bG)),D2]⟩,⟨300,v,X⟩]⟩ k=if rest.all du=true then R2 else R1
 |[],pre,v,X,hd=>by
  have cw:pre.length=l.length:=by rw[hd];simp
  rw[cw,ah];simp[fI,Tryz.f18,h2]
 |x::rest,pre,v,X,hd=>by
  have aV:pre.length<l.length:=by rw[hd];simp
  have aS:l[pre.length]=x:=by simp[hd]
  have hb:=fun (v:Nat) (a b:AV) (k:Kt)=>aax (w:=x) (v:=v) (a:=a) (b:=b) (k:=k) (B:=.box [D1,.d (.list (l.map bG)),D2]) rfl;have ih:∀v X,aG ctx 18 (.loop (fI [1,1,0,1,0,0])) ⟨129,aB,[(1,true,.ptr 150 1 0),(3,true,.d (.int .i64 (pre.length+1)))],[⟨150,1,.box [D1,.d (.list (l.map bG)),D2]⟩,⟨300,v,X⟩]⟩ k=if rest.all du=true then R2 else R1:=fun v X=>by
   have:=Kg l bm D1 D2 k R1 R2 h1 h2 rest (pre++[x]) v X (by simp[hd]);simpa using this
  have w1:IntKind.i64.wrap ((pre.length:Int)+1)=(pre.length:Int)+1:=ay (by unfold aZ;omega);rw[List.all_cons];generalize du x=N at*;generalize rest.all du=M at*;rw[ah];simp[fI,Tryz.f18]at hb ih⊢;simp[aV,aS,bG,eu];simp[hb];cases N<;>simp[h1,w1,ih]
theorem aay {p:Pg} (hb:p.body.length<100000000) (hl:lh p.body):ai ctx 18 [.d (.agg [.str p.name,.list (p.vars.map bG),.list (p.body.map cC)])] []=some (.ret (.d (.bool (pg p))),[]):=by
 have hn:=eJ p.name;have hs:=Ti hb hl;unfold KS at hs;rw[aeE (by simp)];unfold pg;generalize cY p.name=N at*;generalize en p.body=M at*;cases N with
 |false=>simp[Tryz.f18,hn]
 |true=>
  by_cases h6:64<p.vars.length
  ·have h6':(64:Int)<p.vars.length:=by omega
   have h7:¬p.vars.length≤64:=by omega
   simp[Tryz.f18,hn,h6,h6',h7]
  ·have h6':¬(64:Int)<p.vars.length:=by omega
   have h7:p.vars.length≤64:=by omega
   have dc:=fun D1 D2 k R1 R2 h1 h2 v X=>Kg p.vars h7 D1 D2 k R1 R2 h1 h2 p.vars [] v X rfl;generalize p.vars.all du=Q at*;simp[fI,Tryz.f18]at dc;simp[Tryz.f18,hn,h6,h6',h7];rw[dc _ _ _ (some (.ret (.d (.bool false)),[])) (some (.ret (.d (.bool M)),[]))]
   ·cases Q<;>simp
   ·intro v X;simp
   ·intro b c v X;simp[hs]
def SE (l:List Ex):Prop:=∀most:Int,∃n d:Int,ai ctx 129 [.d (.list (l.map bL)),.d (.int .i64 most)] []=some (.ret (.aU [.d (.int .i64 n),.d (.int .i64 d)]),[])
theorem Kh (l:List Ex) (bm:l.length<100000000) (hK:∀x∈l,SE (cO x)) (most:Int) (k:Kt) (Q:bU→Prop)
 (h2:∀(n d:Int) (b c:AV),Q (k (.exit 0) ⟨44,aB,[(0,true,.d (.list (l.map bL))),(1,true,.d (.int .i64 most)),(6,true,.d (.int .i64 n)),(7,true,.d (.int .i64 d)),(8,true,b),(19,true,c)],[]⟩)):∀(rest pre:List Ex) (n d:Int),l=pre++rest→
 Q (aG ctx 129 (.loop (Code.at (bh Tryz.f129) [1,1,0,1,0,0])) ⟨44,aB,[(0,true,.d (.list (l.map bL))),(1,true,.d (.int .i64 most)),(6,true,.d (.int .i64 n)),(7,true,.d (.int .i64 d)),(8,true,.d (.int .i64 pre.length))],[]⟩ k)
 |[],pre,n,d,hd=>by
  have cw:pre.length=l.length:=by rw[hd];simp
  rw[cw,ah];simp[Tryz.f129,h2]
 |x::rest,pre,n,d,hd=>by
  have aV:pre.length<l.length:=by rw[hd];simp
  have aS:l[pre.length]=x:=by simp[hd]
  obtain⟨m,d',hm⟩:=hK x (by rw[hd];simp) (IntKind.i64.wrap (most-n));have ih:∀n d,Q (aG ctx 129 (.loop (Code.at (bh Tryz.f129) [1,1,0,1,0,0])) ⟨44,aB,[(0,true,.d (.list (l.map bL))),(1,true,.d (.int .i64 most)),(6,true,.d (.int .i64 n)),(7,true,.d (.int .i64 d)),(8,true,.d (.int .i64 (pre.length+1)))],[]⟩ k):=fun n d=>by
   have:=Kh l bm hK most k Q h2 rest (pre++[x]) n d (by simp[hd]);simpa using this
  have w1:IntKind.i64.wrap ((pre.length:Int)+1)=(pre.length:Int)+1:=ay (by unfold aZ;omega);rw[ah];by_cases hn:n≤most
  ·simp[Tryz.f129]at ih⊢;simp[aV,aS,hn,aA,hm,w1,ih]
  ·simp[Tryz.f129];simp[aV,hn,h2]
theorem aaA {l:List Ex} (bm:l.length<100000000) (hK:∀x∈l,SE (cO x)):SE l:=by
 intro most;have h:=fun k Q h2=>Kh l bm hK most k Q h2 l [] 0 0 rfl;rw[Zq (by simp)];simp[Tryz.f129]at h⊢;apply h _ (fun A=>∃n d:Int,A=some (.ret (.aU [.d (.int .i64 n),.d (.int .i64 d)]),[]));intro n d b c;simp
mutual
theorem alu:∀x:Ex,uh x→SE (cO x)
 | .mk op nn name field sub line,h=>by
  simp only[uh]at h;exact aaA h.1.2.2 (Nr sub h.2)
theorem Nr:∀l:List Ex,oo l→∀x∈l,SE (cO x)
 |[],_,x,hx=>by simp at hx
 |y::r,h,x,hx=>by
  simp only[oo]at h;rcases List.mem_cons.1 hx with e|hx
  ·rw[e];exact alu y h.1
  ·exact Nr r h.2 x hx
end
theorem Qo {l:List Ex} (bm:l.length<100000000) (h:oo l):SE l:=aaA bm (Nr l h)
@[reducible] noncomputable def ky (p:List Nat):Code:=Code.at (bh Tryz.f83) p
def SS (l:List Sm):Prop:=∀most:Int,∃n d:Int,ai ctx 83 [.d (.list (l.map cC)),.d (.int .i64 most)] []=some (.ret (.aU [.d (.int .i64 n),.d (.int .i64 d)]),[])
section
variable {x:Sm} {v:Nat} {k:Kt} {Q:bU→Prop} {a b:AV} {most:Int}
theorem ssA (h1:SE [eF x,dH x]) (hc:SE (cu x)) (n d:Int)
 (hQ:∀(n d:Int) (c1 c2 c3 c4:AV),Q (k .normal ⟨136,aB,[(0,true,a),(1,true,.d (.int .i64 most)),(6,true,.d (.int .i64 n)),(7,true,.d (.int .i64 d)),(8,true,b),(9,true,.ptr 550 v 0),(42,true,c1),(43,true,c2),(44,true,c3),(45,true,c4)],[⟨550,v,bg x⟩]⟩)):
 Q (aG ctx 83 (ky [1,1,0,1,0,0,1,0,0,1,1,0]) ⟨136,aB,[(0,true,a),(1,true,.d (.int .i64 most)),(6,true,.d (.int .i64 n)),(7,true,.d (.int .i64 d)),(8,true,b),(9,true,.ptr 550 v 0)],[⟨550,v,bg x⟩]⟩ k):=by
 unfold SE at h1 hc;simp[aA]at h1;have oR:IntKind.i64.wrap 1=1:=by decide
 have w12:IntKind.i64.wrap 2=2:=by decide
 have r2:List.range' 0 2=[0,1]:=rfl;simp only[bg]at hQ;obtain⟨m,d',hm⟩:=h1 (IntKind.i64.wrap (most-n));simp[ky,Tryz.f83,r2];rw[ah];simp[hm,oR];generalize IntKind.i64.wrap (n+m)=n2;obtain⟨m2,d2,jT⟩:=hc (IntKind.i64.wrap (most-n2));rw[ah];simp[jT,oR,w12];rw[ah];simp[hQ]
end
section
variable {x:Sm} {v:Nat} {k:Kt} {Q:bU→Prop} {a b:AV} {most:Int}
theorem ssB (n d:Int) (c1 c2 c3 c4:AV)
 (hQ:∀(n:Int),Q (k .normal ⟨136,aB,[(0,true,a),(1,true,.d (.int .i64 most)),(6,true,.d (.int .i64 n)),(7,true,.d (.int .i64 d)),(8,true,b),(9,true,.ptr 550 v 0)],[⟨550,v,bg x⟩]⟩)):
 Q (aG ctx 83 (ky [1,1,0,1,0,0,1,0,0,1,1,1,0]) ⟨136,aB,[(0,true,a),(1,true,.d (.int .i64 most)),(6,true,.d (.int .i64 n)),(7,true,.d (.int .i64 d)),(8,true,b),(9,true,.ptr 550 v 0),(42,true,c1),(43,true,c2),(44,true,c3),(45,true,c4)],[⟨550,v,bg x⟩]⟩ k):=by
 simp only[bg]at hQ;simp[ky,Tryz.f83];apply hQ
theorem Gy (hl:(ea x).length<100000000) (d:Int)
 (hQ:∀(n:Int) (c1 c2:AV),Q (k (.exit 4) ⟨136,aB,[(0,true,a),(1,true,.d (.int .i64 most)),(6,true,.d (.int .i64 n)),(7,true,.d (.int .i64 d)),(8,true,b),(9,true,.ptr 550 v 0),(14,true,c1),(88,true,c2)],[⟨550,v,bg x⟩]⟩)):∀(rest pre:List (List Int)) (n:Int),ea x=pre++rest→
 Q (aG ctx 83 (.loop (ky [1,1,0,1,0,0,1,0,0,1,1,1,1,0,1,0,0])) ⟨136,aB,[(0,true,a),(1,true,.d (.int .i64 most)),(6,true,.d (.int .i64 n)),(7,true,.d (.int .i64 d)),(8,true,b),(9,true,.ptr 550 v 0),(14,true,.d (.int .i64 pre.length))],[⟨550,v,bg x⟩]⟩ k)
 |[],pre,n,hd=>by
  have cw:pre.length=(ea x).length:=by rw[hd];simp
  simp only[bg]at hQ;rw[cw,ah];simp[ky,Tryz.f83,hQ]
 |c::rest,pre,n,hd=>by
  have aV:pre.length<(ea x).length:=by rw[hd];simp
  have aS:(ea x)[pre.length]=c:=by simp[hd]
  have ih:=fun n=>Gy hl d hQ rest (pre++[c]) n (by simp[hd]);have w1:IntKind.i64.wrap ((pre.length:Int)+1)=(pre.length:Int)+1:=ay (by unfold aZ;omega);simp only[bg]at hQ;rw[ah];by_cases hn:n≤most
  ·simp[ky,Tryz.f83]at ih⊢;simp[aV,aS,hn,mA,w1];apply ih
  ·simp[ky,Tryz.f83];simp[aV,hn,hQ]
theorem Gz (hl:(bx x).length<100000000) (hK:∀c∈bx x,SS c)
 (hQ:∀(n d:Int) (c1 c2:AV),Q (k (.exit 6) ⟨136,aB,[(0,true,a),(1,true,.d (.int .i64 most)),(6,true,.d (.int .i64 n)),(7,true,.d (.int .i64 d)),(8,true,b),(9,true,.ptr 550 v 0),(15,true,c1),(111,true,c2)],[⟨550,v,bg x⟩]⟩)):∀(rest pre:List (List Sm)) (n d:Int),bx x=pre++rest→
 Q (aG ctx 83 (.loop (ky [1,1,0,1,0,0,1,0,0,1,1,1,1,1,1,0,0])) ⟨136,aB,[(0,true,a),(1,true,.d (.int .i64 most)),(6,true,.d (.int .i64 n)),(7,true,.d (.int .i64 d)),(8,true,b),(9,true,.ptr 550 v 0),(15,true,.d (.int .i64 pre.length))],[⟨550,v,bg x⟩]⟩ k)
 |[],pre,n,d,hd=>by
  have cw:pre.length=(bx x).length:=by rw[hd];simp
  simp only[bg]at hQ;rw[cw,ah];simp[ky,Tryz.f83,hQ]
 |c::rest,pre,n,d,hd=>by
  have aV:pre.length<(bx x).length:=by rw[hd];simp
  have aS:(bx x)[pre.length]=c:=by simp[hd]
  have ih:=fun n d=>Gz hl hK hQ rest (pre++[c]) n d (by simp[hd]);obtain⟨m,d',hm⟩:=hK c (by rw[hd];simp) (IntKind.i64.wrap (most-n));have w1:IntKind.i64.wrap ((pre.length:Int)+1)=(pre.length:Int)+1:=ay (by unfold aZ;omega);simp only[bg]at hQ;rw[ah];by_cases hn:n≤most
  ·simp[ky,Tryz.f83]at ih⊢;simp[aV,aS,hn,df,hm,w1];apply ih
  ·simp[ky,Tryz.f83];simp[aV,hn,hQ]
theorem aaB (hx:ui x) (hK:∀c∈bx x,SS c) (n d:Int)
 (hQ:∀(n d:Int) (c1 c2:AV),Q (k .normal ⟨136,aB,[(0,true,a),(1,true,.d (.int .i64 most)),(6,true,.d (.int .i64 n)),(7,true,.d (.int .i64 d)),(8,true,b),(9,true,.ptr 550 v 0),(15,true,c1),(111,true,c2)],[⟨550,v,bg x⟩]⟩)):
 Q (aG ctx 83 (ky [1,1,0,1,0,0,1,0,0,1,1]) ⟨136,aB,[(0,true,a),(1,true,.d (.int .i64 most)),(6,true,.d (.int .i64 n)),(7,true,.d (.int .i64 d)),(8,true,b),(9,true,.ptr 550 v 0)],[⟨550,v,bg x⟩]⟩ k):=by
 obtain⟨ht,hv,⟨hc,oF⟩,⟨zv,aar⟩,hf,gA⟩:=hx;have e1:ky [1,1,0,1,0,0,1,0,0,1,1]=Code.seq (ky [1,1,0,1,0,0,1,0,0,1,1,0]) (ky [1,1,0,1,0,0,1,0,0,1,1,1]):=rfl;have e2:ky [1,1,0,1,0,0,1,0,0,1,1,1]=Code.seq (ky [1,1,0,1,0,0,1,0,0,1,1,1,0]) (ky [1,1,0,1,0,0,1,0,0,1,1,1,1]):=rfl;rw[e1,denK_seq];apply ssA (Qo (l:=[eF x,dH x]) (by simp) ⟨ht,hv,trivial⟩) (Qo hc oF);intro n d c1 c2 c3 c4;rw[seqK_n,e2,denK_seq];apply ssB;intro n;rw[seqK_n];have hL:=fun k Q hQ=>Gy (a:=a) (b:=b) (v:=v) (most:=most) (k:=k) (Q:=Q) zv d hQ (ea x) [] n rfl;simp[ky,Tryz.f83]at hL⊢;apply hL;intro n c1 c2;have hB:=fun k Q hQ=>Gz (a:=a) (b:=b) (v:=v) (most:=most) (k:=k) (Q:=Q) gA hK hQ (bx x) [] n d rfl;simp[ky,Tryz.f83]at hB⊢;apply hB;intro n d c1 c2;simp only[bg]at hQ;simp[hQ]
end
theorem Ki (l:List Sm) (bm:l.length<100000000) (hS:∀x∈l,ui x) (hK:∀x∈l,∀c∈bx x,SS c) (most:Int) (k:Kt) (Q:bU→Prop)
 (h2:∀(n d:Int) (b c:AV) v X,Q (k (.exit 0) ⟨136,aB,[(0,true,.d (.list (l.map cC))),(1,true,.d (.int .i64 most)),(6,true,.d (.int .i64 n)),(7,true,.d (.int .i64 d)),(8,true,b),(26,true,c)],[⟨550,v,X⟩]⟩)):∀(rest pre:List Sm) (n d:Int) (v:Nat) (X:aD),l=pre++rest→
 Q (aG ctx 83 (.loop (ky [1,1,0,1,0,0])) ⟨136,aB,[(0,true,.d (.list (l.map cC))),(1,true,.d (.int .i64 most)),(6,true,.d (.int .i64 n)),(7,true,.d (.int .i64 d)),(8,true,.d (.int .i64 pre.length))],[⟨550,v,X⟩]⟩ k)
 |[],pre,n,d,v,X,hd=>by
  have cw:pre.length=l.length:=by rw[hd];simp
  rw[cw,ah];simp[ky,Tryz.f83,h2]
 |x::rest,pre,n,d,v,X,hd=>by
  have aV:pre.length<l.length:=by rw[hd];simp
  have aS:l[pre.length]=x:=by simp[hd]
  have hm:x∈l:=by rw[hd];simp
  have hb:=fun (v:Nat) (a b:AV) (k:Kt) (Q:bU→Prop) (n d:Int)=>aaB (v:=v) (a:=a) (b:=b) (most:=most) (k:=k) (Q:=Q) (hS x hm) (hK x hm) n d;have ih:=fun n d v X=>Ki l bm hS hK most k Q h2 rest (pre++[x]) n d v X (by simp[hd]);have w1:IntKind.i64.wrap ((pre.length:Int)+1)=(pre.length:Int)+1:=ay (by unfold aZ;omega);rw[ah];by_cases hn:n≤most
  ·simp[ky,Tryz.f83]at hb ih⊢;simp[aV,aS,hn,eK];apply hb;intro n d c1 c2;simp[w1,ih]
  ·simp[ky,Tryz.f83];simp[aV,hn,h2]
theorem aaC {l:List Sm} (bm:l.length<100000000) (hS:∀x∈l,ui x) (hK:∀x∈l,∀c∈bx x,SS c):SS l:=by
 intro most;have h:=fun k Q h2 v X=>Ki l bm hS hK most k Q h2 l [] 0 0 v X rfl;rw[aeX (by simp)];simp[ky,Tryz.f83]at h⊢;apply h _ (fun A=>∃n d:Int,A=some (.ret (.aU [.d (.int .i64 n),.d (.int .i64 d)]),[]));intro n d b c v X;simp
mutual
theorem alv:∀x:Sm,xI x→ui x∧∀c∈bx x,SS c
 | .mk op name to val conds labels fields blocks line,h=>by
  have h:=(Vq _).1 h;exact⟨h.1,Vu blocks h.2⟩
theorem Ez:∀l:List Sm,lh l→∀x∈l,ui x∧∀c∈bx x,SS c
 |[],_,x,hx=>by simp at hx
 |y::r,h,x,hx=>by
  simp only[lh]at h;have h1:=alv y h.1;have h2:=Ez r h.2;rcases List.mem_cons.1 hx with e|hx
  ·rw[e];exact h1
  ·exact h2 x hx
theorem Vu:∀l:List (List Sm),nb l→∀c∈l,SS c
 |[],_,c,hc=>by simp at hc
 |b::r,h,c,hc=>by
  simp only[nb]at h;have h1:=Ez b h.1.2;have h2:=Vu r h.2;rcases List.mem_cons.1 hc with e|hc
  ·rw[e];exact aaC h.1.1 (fun x hx=>(h1 x hx).1) (fun x hx=>(h1 x hx).2)
  ·exact h2 c hc
end
theorem aaD {l:List Sm} (bm:l.length<100000000) (h:lh l):SS l:=
 aaC bm (fun x hx=>(Ez l h x hx).1) (fun x hx=>(Ez l h x hx).2)
theorem aaE {p:Pg} (hb:p.body.length<100000000) (hl:lh p.body) (most:Int):∃n d:Int,ai ctx 43 [.d (.agg [.str p.name,.list (p.vars.map bG),.list (p.body.map cC)]),.d (.int .i64 most)] []=some (.ret (.aU [.d (.int .i64 n),.d (.int .i64 d)]),[]):=by
 obtain⟨n,d,h⟩:=aaD hb hl most;rw[aeJ (by simp)];simp[Tryz.f43,h]
theorem Wk {p:Pg} (hb:p.body.length<100000000) (hl:lh p.body):∃B:Bool,ai ctx 17 [.d (.agg [.str p.name,.list (p.vars.map bG),.list (p.body.map cC)])] []=some (.ret (.d (.bool B)),[]):=by
 obtain⟨n,d,h⟩:=aaE hb hl 2000;rw[aeD (by simp)];simp[Tryz.f17,h]
end Go.Am
end
section
namespace Go.Am
open Go Go.ChangeShapes Go.WideShapes Go.RowKit
def yy (P:Program) (ok:TypeId→Bool):List Field→Nat→Nat→Bool
 |[],o,tot=>o == tot
 |f::r,o,tot=>f.offset == o&&ok f.type&&yy P ok r (o+P.cellsOf f.type) tot
def typed (P:Program):Nat→TypeId→D→Prop
 |0,_,_=>False
 |n+1,t,d=>match P.underlying t with
  |some .bool=>∃b,d=.bool b
  |some (.int k)=>∃z,d=.int k z∧(Lit.int k z).wf=true
  |some .string=>∃s,d=.str s∧s.length≤maxLen
  |some (.slice e)=>∃xs,d=.list xs∧xs.length≤maxLen∧∀x∈xs,typed P n e x
  |some (.struct fs)=>∃ys:List D,d=.agg (ys.flatMap D.cells)∧ys.length=fs.size∧∀(i:Nat) (f:Field) (y:D),fs[i]?=some f→ys[i]?=some y→typed P n f.type y
  |_=>False
def Reads (w:World) (F:Nat→Prop) (d:D) (cs:List Value):Prop:=
 d.cells.length=cs.length∧(∀u∈cs,cn u=true)∧∀(i:Nat) c u,d.cells[i]?=some c→cs[i]?=some u→aH w F c u∧c.flat=true
theorem Reads.one {w F d v} (h:aH w F d v) (hf:d.flat=true) (hc:d.cells=[d]):Reads w F d [v]:=by
 refine⟨by rw[hc];rfl,fun u hu=>?_,fun i c u h1 h2=>?_⟩
 ·simp at hu;subst hu;exact h.one hf
 ·rw[hc]at h1;cases i with
  |zero=>simp at h1 h2;subst h1;subst h2;exact⟨h,hf⟩
  |succ i=>simp at h1
def shaped (d:D) (cs:List Value):Value:=
 match d with
 | .agg _=>.agg cs.toArray
 |_=>cs.headD undef
theorem Reads.rel {w F d cs} (h:Reads w F d cs):aH w F d (shaped d cs):=by
 obtain⟨h1,h2,h3⟩:=h;have key:d.flat=true→d.cells=[d]→aH w F d (cs.headD undef):=by
  intro hf hc;rw[hc]at h1 h3;match cs,h1 with
  |[u],_=>exact (h3 0 d u rfl rfl).1
 cases d with
 |agg ds=>exact aH.ni h1 h2 (fun i c v hc hv=>(h3 i c v hc hv).1)
 |_=>exact key rfl rfl
theorem Reads.GA {w F d cs} (h:Reads w F d cs):(shaped d cs).cells.toList=cs:=by
 obtain⟨h1,h2,h3⟩:=h;have key:d.cells=[d]→(cs.headD undef).cells.toList=cs:=by
  intro hc;rw[hc]at h1;match cs,h1,h2 with
  |[u],_,h2=>simp only[List.headD];rw[dQ (h2 u (by simp))]
 cases d with
 |agg ds=>simp[shaped,Value.cells]
 |_=>exact key rfl
theorem BJ {w:World} {base:Nat} {a:Addr} {n:Nat} {cs:List Value} (h:w.cells? base a n=some cs):cs.length=n∧∀j,j<n→w.cell? (a.add j)=cs[j]?:=by
 unfold World.cells? at h;split at h
 ·exact⟨by simpa using mapM_some_length h,fun j hj=>mapM_some_get h j j (by simp[hj])⟩
 ·cases h
theorem add_add {b off n j:Nat}:(Addr.add (Addr.add ⟨b,off,none⟩ n) j)=⟨b,off+n+j,none⟩:=by
 unfold Addr.add;split<;>split<;>simp_all
theorem Aj {w:World} {a:Addr} {c:Value} (h:w.cell? a=some c):a.block<w.heap.size∧a.spot=none:=by
 unfold World.cell? at h;split at h
 ·rename_i hh;refine⟨(Array.getElem?_eq_some_iff.1 hh).1,?_⟩;split at h
  ·cases h
  ·rename_i hs;simpa using hs
 ·cases h
section
variable {H:Type} {enc:TypeId×Value→H} {P:Program} {w:World} {base:Nat} {sp:Nat→Bool} {held:Bool}
end
section
variable {H:Type} {enc:TypeId×Value→H} {P:Program} {w:World} {base:Nat} {sp:Nat→Bool} {held:Bool}
theorem vX (hl:laidOutB P=true) {W W':World} (hb:Below W.heap.size W W'):∀{ts:List TypeId} {vs:List Value} {ds:List (DataW H)} {ps:List MemPlace},DataW.TrodAll enc P W 0 (fun _=>true) true ts vs ds ps→
 (∀t∈ts,P.readableRec t=true∧t<P.types.size)→(∀x∈ps,x.block<W.heap.size)→DataW.TrodAll enc P W' 0 (fun b=>decide (b<W.heap.size)) true ts vs ds ps
 |[],[],[],_,h,_,_=>h
 |t::ts,v::vs,d::ds,ps,h,hp,cg=>by
  obtain⟨p,q,h1,h2,rfl⟩:=h;exact⟨p,q,Below.trod hl (hp t (by simp)).1 (hp t (by simp)).2 h1 hb (fun x hx=>cg x (by simp[hx])),vX hl hb h2 (fun t ht=>hp t (by simp[ht])) (fun x hx=>cg x (by simp[hx])),rfl⟩
 |[],_::_,_,_,h,_,_=>by cases h
 |[],[],_::_,_,h,_,_=>by cases h
 |_::_,[],_,_,h,_,_=>by cases h
 |_::_,_::_,[],_,h,_,_=>by cases h
end
section
variable {P:Program} {n:Nat} {t:TypeId} {d:D}
def yz (P:Program) (n:Nat):List Field→List D→Prop
 |[],ds=>ds=[]
 |f::r,ds=>∃y je,typed P n f.type y∧yz P n r je∧ds=y.cells++je
theorem BK:∀{fs:List Field} {ys:List D},ys.length=fs.length→(∀(i:Nat) (f:Field) (y:D),fs[i]?=some f→ys[i]?=some y→typed P n f.type y)→yz P n fs (ys.flatMap D.cells)
 |[],[],_,_=>rfl
 |f::fs,y::ys,h,hf=>⟨y,ys.flatMap D.cells,hf 0 f y rfl rfl,BK (by simpa using h) (fun i f y h1 h2=>hf (i+1) f y (by simpa using h1) (by simpa using h2)),by simp⟩
theorem Qp {k:IntKind} (ht:P.underlying t=some (.int k)) (h:typed P (n+1) t d):∃z,d=.int k z∧(Lit.int k z).wf=true:=by simpa only[typed,ht]using h
theorem Ns (ht:P.underlying t=some .bool) (h:typed P (n+1) t d):∃b,d=.bool b:=by simpa only[typed,ht]using h
theorem GB (ht:P.underlying t=some .string) (h:typed P (n+1) t d):∃s,d=.str s∧s.length≤maxLen:=by simpa only[typed,ht]using h
theorem Iq {e:TypeId} (ht:P.underlying t=some (.slice e)) (h:typed P (n+1) t d):∃xs,d=.list xs∧xs.length≤maxLen∧∀x∈xs,typed P n e x:=by simpa only[typed,ht]using h
theorem GC {fs:Array Field} (ht:P.underlying t=some (.struct fs)) (h:typed P (n+1) t d):∃ds,d=.agg ds∧yz P n fs.toList ds:=by
 simp only[typed,ht]at h;obtain⟨ys,rfl,h1,h2⟩:=h;exact⟨_,rfl,BK (by simpa using h1) (fun i f y h3 h4=>h2 i f y (by simpa using h3) h4)⟩
end
def aaG (X:Ctx):Bool:=
 (List.range X.P.funcs.size).all (fun g=>match X.P.funcs[g]? with|some fn=>fn.name != "runtime.NumGoroutine" &&(match fn.body with|some c=>er X g fn.ntmps c|none=>true)|none=>true)&&X.P.follows .mixedOrders&&X.ov.isNone
def pH (X:Ctx) (g:FuncId) (h:List AV→Option AV):Prop:=gE X.P g=true∧∀(Br:List AV) (a:AV),h Br=some a→∀(φ:bI) (F:Nat→Prop) (w:World) (vs:Array Value),eI w F X.gl→(∀b,F b→b<w.heap.size)→Br.length=vs.size→
 (∀(i:Nat) x v,Br[i]?=some x→vs[i]?=some v→az φ w F x v)→Calls X.P g vs w fun e w'=>∃v,e=.returned v∧Below w.heap.size w w'∧az φ w' F a v
theorem pH.lift {X:Ctx} {g:FuncId} {h:List D→Option D} (hh:gE X.P g=true∧∀(ds:List D) (d:D),h ds=some d→∀(F:Nat→Prop) (w:World) (vs:Array Value),eI w F X.gl→(∀b,F b→b<w.heap.size)→ds.length=vs.size→
 (∀(i:Nat) x v,ds[i]?=some x→vs[i]?=some v→aH w F x v)→Calls X.P g vs w fun e w'=>∃v,e=.returned v∧Below w.heap.size w w'∧aH w' F d v):pH X g (liftO h):=by
 refine⟨hh.1,fun Br a ha φ F w vs cq mq hl hr=>?_⟩;unfold liftO at ha;cases ll:gp Br with
 |none=>rw[ll]at ha;cases ha
 |some ds=>
  rw[ll]at ha;obtain⟨d,hd,rfl⟩:=Option.map_eq_some_iff.1 ha;have he:=IT ll;subst he;refine (hh.2 ds d hd F w vs cq mq (by simpa using hl) (fun i x v hx hv=>?_)).mono ?_
  ·have:=hr i (.d x) v (by simp[hx]) hv;cases this with|d _ _ h=>exact h
  ·rintro e w' ⟨v,rfl,hb,hv⟩;exact⟨v,rfl,hb,.d _ _ hv⟩
theorem jF.of {X:Ctx} (h:aaG X=true) (ho:∀g h,X.zi g=some h→pH X g h):jF X:=by
 simp only[aaG,Bool.and_eq_true,List.all_eq_true,List.mem_range]at h;have key:∀(g:FuncId) (fn:Func),X.P.funcs[g]?=some fn→fn.name≠ "runtime.NumGoroutine" ∧(match fn.body with|some c=>er X g fn.ntmps c|none=>true)=true:=by
  intro g fn hg;have h1:=h.1.1 g (Array.getElem?_eq_some_iff.1 hg).1;rw[hg]at h1;simpa using h1
 refine⟨by simpa using h.2,fun g fn hg=>(key g fn hg).1,fun g fn c hg hb=>?_,h.1.2,ho⟩;have:=(key g fn hg).2;rw[hb]at this;exact this
theorem tI {α:Type} {f:α→D}:∀{xs:List D},(∀x∈xs,∃r,x=f r)→∃rs:List α,xs=rs.map f
 |[],_=>⟨[],rfl⟩
 |x::xs,h=>by
  obtain⟨r,rfl⟩:=h x (by simp);obtain⟨rs,rfl⟩:=tI (xs:=xs) (fun y hy=>h y (by simp[hy]));exact⟨r::rs,rfl⟩
def fr0:Fr:=⟨fun _=>False,[]⟩
theorem Qq {X:Ctx} (hX:jF X) {f:FuncId} {b:Bool} {xs:List D} (hc:ai X f (xs.map .d) []=some (.ret (.d (.bool b)),[])) {W:World} {args:Array Value} (hl:xs.length=args.size)
 (hr:∀(i:Nat) x v,xs[i]?=some x→args[i]?=some v→aH W (fun _=>False) x v) (hg:eI W (fun _=>False) X.gl):
 Calls X.P f args W fun e W'=>e=.returned (.bool b)∧Below W.heap.size W W':=by
 have h:=(Sh hX f _ _ _ _ hc).2;have hF:∀b,Fo fr0 (fun _=>none) (inM 0 []) b→False:=by
  intro b hb;rcases hb with hb|⟨e,he,_⟩
  ·exact hb
  ·simp[inM]at he
 refine (h (fun _=>none) fr0 W args ⟨by simp[inM],fun k L hL=>by simp at hL,fun e he=>by simp[inM]at he,fun e he=>by simp[inM]at he,fun b ⟨e,he,_⟩=>by simp[inM]at he,fun b hb=>hb.elim⟩
  (hg.mono (fun _ _ _=>rfl) (Nat.le_refl _) (fun b _ hb=>hF b hb)) (by simpa using hl) (fun i x v hx hv=>?_)).mono ?_
 ·simp only[List.getElem?_map,Option.map_eq_some_iff]at hx;obtain⟨d,hd,rfl⟩:=hx;exact .d d v ((hr i d v hd hv).mono (fun _ _ _=>rfl) (Nat.le_refl _) (fun b _ hb=>hF b hb))
 ·rintro e W' ⟨φ',m',out,⟨rfl,rfl⟩,hm,hk,ho⟩;refine⟨?_,hk.os,hk.tape,hk.output,hk.size,fun k aN=>hk.wa k aN (fun ⟨e,he,_⟩=>by simp[inM]at he)⟩;cases e with
  |returned v=>
   simp only[mM]at ho;cases ho with
   |d x v h=>cases h;rfl
  |_=>exact ho.elim
section
variable {H:Type} {enc:TypeId×Value→H}
end
def xJ (P:Program) (L:List TypeId):Bool:=L.all fun t=>match P.underlying t with
 |some .bool|some (.int _)|some .string=>P.cellsOf t == 1
 |some (.slice e)=>P.cellsOf t == 1&&L.contains e&&decide (1≤P.cellsOf e)
 |some (.struct fs)=>yy P (fun t=>L.contains t) fs.toList 0 (P.cellsOf t)
 |_=>false
theorem DN {P:Program} {L:List TypeId} {t:TypeId} (h:xJ P L=true) (ht:L.contains t=true):(match P.underlying t with
 |some .bool|some (.int _)|some .string=>P.cellsOf t == 1
 |some (.slice e)=>P.cellsOf t == 1&&L.contains e&&decide (1≤P.cellsOf e)
 |some (.struct fs)=>yy P (fun t=>L.contains t) fs.toList 0 (P.cellsOf t)
 |_=>false)=true:=List.all_eq_true.1 h t (by simpa using ht)
section
variable {H:Type} {enc:TypeId×Value→H} {P:Program} {w:World} {base:Nat} {sp:Nat→Bool} {held:Bool}
end
section
variable {H:Type} {enc:TypeId×Value→H}
end
mutual
def dP:D→Nat
 | .str s=>s.length+1
 | .list xs=>bC xs+1
 | .agg cs=>bC cs+1
 |_=>1
def bC:List D→Nat
 |[]=>0
 |x::r=>dP x+bC r
end
mutual
def ig {H:Type}:DataW H→Nat
 | .lit (.string bytes)=>bytes.length+1
 | .slice elems _=>gk elems+1
 | .agg parts=>gk parts+1
 |_=>1
def gk {H:Type}:List (DataW H)→Nat
 |[]=>0
 |d::r=>ig d+gk r
end
theorem ph:∀l r:List D,bC (l++r)=bC l+bC r
 |[],r=>by simp[bC]
 |x::l,r=>by simp[bC,ph l r,Nat.add_assoc]
theorem Nt (x:D):bC x.cells≤dP x:=by
 cases x<;>simp[D.cells,bC,dP]
theorem aaH (x:D):1≤dP x:=by cases x<;>simp[dP]
theorem lX:∀l:List D,l.length≤bC l
 |[]=>by simp
 |x::r=>by have:=lX r;have:=aaH x;simp only[bC,List.length_cons];omega
theorem GD:∀{l:List D} {x:D},x∈l→dP x≤bC l
 |y::r,x,h=>by
  rcases List.mem_cons.1 h with rfl|h
  ·simp only[bC];omega
  ·have:=GD h;simp only[bC];omega
theorem Kj {H:Type}:∀(l:List D) (ds:List (DataW H)),l.length=ds.length→(∀(i:Nat) x d,l[i]?=some x→ds[i]?=some d→dP x≤ig d)→bC l≤gk ds
 |[],[],_,_=>Nat.le_refl _
 |x::l,d::ds,h,hi=>by
  have h1:=hi 0 x d rfl rfl;have h2:=Kj l ds (by simpa using h) (fun i y e hy he=>hi (i+1) y e (by simpa using hy) (by simpa using he));simp only[bC,gk];omega
 |[],_::_,h,_=>by simp at h
 |_::_,[],h,_=>by simp at h
theorem vY {H:Type} {P:Program} {w:World} {F:Nat→Prop} {n:Nat} {cs:List Value} {ok:TypeId→Bool}:∀(fs:List Field) (ws:List (DataW H)) (o:Nat),yy P ok fs o cs.length=true→ws.length=fs.length→
 (∀(i:Nat) f e,fs[i]?=some f→ws[i]?=some e→ok f.type=true→∃d,typed P n f.type d∧Reads w F d ((cs.drop f.offset).take (P.cellsOf f.type))∧d.cells.length=P.cellsOf f.type∧dP d≤ig e)→
 ∃ys:List D,ys.length=fs.length∧(∀(i:Nat) (f:Field) (y:D),fs[i]?=some f→ys[i]?=some y→typed P n f.type y)∧o≤cs.length∧Reads w F (.agg (ys.flatMap D.cells)) (cs.drop o)∧bC (ys.flatMap D.cells)≤gk ws
 |[],[],o,ht,_,_=>by
  simp only[yy,beq_iff_eq]at ht;subst ht;exact⟨[],rfl,fun i f y hf=>by simp at hf,Nat.le_refl _,⟨by simp[D.cells],by simp,fun i c u h1=>by simp[D.cells]at h1⟩,by simp[bC,gk]⟩
 |f::r,e::ws,o,ht,hw,hf=>by
  simp only[yy,Bool.and_eq_true,beq_iff_eq]at ht;obtain⟨⟨rfl,dt⟩,hr⟩:=ht;obtain⟨ys,h1,h2,h3,h4,h5⟩:=vY r ws _ hr (by simpa using hw) (fun i f' e' hi he=>hf (i+1) f' e' (by simpa using hi) (by simpa using he));obtain⟨d,hd,hR,hl,GF⟩:=hf 0 f e rfl rfl dt;refine⟨d::ys,by simp[h1],fun i f' y hi hy=>?_,by omega,?_,?_⟩
  ·cases i with
   |zero=>simp at hi hy;subst hi;subst hy;exact hd
   |succ i=>simp at hi hy;exact h2 i f' y hi hy
  ·have EY:cs.drop f.offset=(cs.drop f.offset).take (P.cellsOf f.type)++cs.drop (f.offset+P.cellsOf f.type):=by
    rw[←List.drop_drop,List.take_append_drop]
   obtain⟨a1,a2,a3⟩:=hR;obtain⟨b1,b2,b3⟩:=h4;have aaI:(D.agg ((d::ys).flatMap D.cells)).cells=d.cells++(D.agg (ys.flatMap D.cells)).cells:=by simp[D.cells]
   rw[EY];unfold Reads;rw[aaI];refine⟨by simp only[List.length_append,a1,b1],fun u hu=>?_,fun i c u hc hu=>?_⟩
   ·rcases List.mem_append.1 hu with hu|hu
    ·exact a2 u hu
    ·exact b2 u hu
   ·by_cases hi:i<d.cells.length
    ·rw[List.getElem?_append_left hi]at hc;rw[List.getElem?_append_left (by omega)]at hu;exact a3 i c u hc hu
    ·rw[List.getElem?_append_right (by omega)]at hc;rw[List.getElem?_append_right (by omega)]at hu;rw[←a1]at hu;exact b3 _ c u hc hu
  ·have hc:=Nt d;simp only[List.flatMap_cons,ph,gk];omega
 |[],_::_,_,_,h,_=>by simp at h
 |_::_,[],_,_,h,_=>by simp at h
section
variable {H:Type} {enc:TypeId×Value→H} {P:Program} {w:World} {base:Nat} {sp:Nat→Bool} {held:Bool}
theorem vp {L:List TypeId} (hL:xJ P L=true):∀(m:Nat) (t:TypeId) (cs:List Value) (x:DataW H×List MemPlace),L.contains t=true→DataW.trod enc P w base sp held m t cs=some x→
 ∃d,typed P (m+1) t d∧Reads w (fun _=>False) d cs∧d.cells.length=P.cellsOf t∧dP d≤ig x.1
 |m,t,cs,x,hp,hx=>by
  have hp:=DN hL hp;simp only[typed];cases ht:P.underlying t with
  |none=>rw[ht]at hp;cases hp
  |some u=>
   rw[ht]at hp;cases u with
   |bool=>
    obtain⟨b,rfl,rfl⟩:=DataW.trod_bool ht hx;exact⟨.bool b,⟨b,rfl⟩,Reads.one (.bool b) rfl rfl,by simp at hp;simp[D.cells,hp],by simp[dP,ig]⟩
   |int k=>
    obtain⟨z,rfl,rfl,hw⟩:=DataW.trod_int ht hx;exact⟨.int k z,⟨z,rfl,hw⟩,Reads.one (.int k z) rfl rfl,by simp at hp;simp[D.cells,hp],by simp[dP,ig]⟩
   |string=>
    obtain⟨s,rfl,rfl,hw⟩:=DataW.trod_string ht hx;exact⟨.str s.data.toList,⟨_,rfl,by simpa using hw⟩,Reads.one (.str s _ rfl) rfl rfl,by simp at hp;simp[D.cells,hp],by simp[dP,ig]⟩
   |slice e=>
    simp only[Bool.and_eq_true,beq_iff_eq,decide_eq_true_eq]at hp;obtain⟨⟨h1,h2⟩,h3⟩:=hp;rcases DataW.trod_slice ht hx with ⟨rfl,rfl⟩|⟨a,len,cap,elems,rest,m',rfl,rfl,rfl,hb,fX,sL,hel,gW,_⟩
    ·exact⟨.list [],⟨[],rfl,by simp,by simp⟩,Reads.one (.nil none 0 (fun _=>rfl)) rfl rfl,by simp[D.cells,h1],by simp[dP,bC,ig]⟩
    ·have hq:∀i,∃p:D×Value,i<len→typed P (m'+1) e p.1∧aH w (fun _=>False) p.1 p.2∧p.1.size=P.cellsOf e∧a.block<w.heap.size∧a.spot=none∧
      (∀j c,p.2.cells[j]?=some c→w.cell? ⟨a.block,a.off+i*P.cellsOf e+j,none⟩=some c)∧∀q,elems[i]?=some q→dP p.1≤ig q.1:=by
      intro i;by_cases hi:i<len
      ·have h4:=gW i hi;have h5:∃y,elems[i]?=some y:=⟨elems[i]'(by omega),by simp[show i<elems.length by omega]⟩
       obtain⟨y,hy⟩:=h5;rw[hy]at h4;simp only[Option.bind_eq_some_iff]at h4;obtain⟨lq,kM,mH⟩:=h4;obtain⟨d,hd,hR,hl,GF⟩:=vp hL m' e lq y h2 mH;obtain⟨g1,g2⟩:=BJ kM;have g3:a.block<w.heap.size∧a.spot=none:=by
        have h0:∃i0,i0<len∧i0=0:=⟨0,by omega,rfl⟩;have h40:=gW 0 (by omega);have Vv:∃y,elems[0]?=some y:=⟨elems[0]'(by omega),by simp[show 0<elems.length by omega]⟩
        obtain⟨y0,ID⟩:=Vv;rw[ID]at h40;simp only[Option.bind_eq_some_iff]at h40;obtain⟨iJ,alw,_⟩:=h40;obtain⟨g01,g02⟩:=BJ alw;have h6:=g02 0 (by omega);have h7:∃c,iJ[0]?=some c:=⟨iJ[0]'(by omega),by simp[show 0<iJ.length by omega]⟩
        obtain⟨c,hc⟩:=h7;rw[hc]at h6;have h8:=Aj h6;simpa [Addr.add]using h8
       refine⟨⟨d,shaped d lq⟩,fun _=>⟨hd,hR.rel,by rw[←D.fU];exact hl,g3.1,g3.2,fun j c hj=>?_,fun q hq=>by rw[hy]at hq;cases hq;exact GF⟩⟩;have h6:=hR.GA;have h7:lq[j]?=some c:=by rw[←h6];simpa using hj
       have im:j<P.cellsOf e:=by
        have:=(List.getElem?_eq_some_iff.1 h7).1;omega
       have h8:=g2 j im;obtain⟨ab,ao,ae⟩:=a;obtain rfl:ae=none:=g3.2;rw[add_add]at h8;rw[h8];exact h7
      ·exact⟨⟨.bool false,undef⟩,fun h=>absurd h hi⟩
     obtain⟨f,hf⟩:=Classical.axiomOfChoice hq;refine⟨.list ((List.range len).map fun i=>(f i).1),⟨_,rfl,by simp;omega,fun x hx=>?_⟩,Reads.one ?_ rfl rfl,by simp[D.cells,h1],?_⟩
     ·simp only[List.mem_map,List.mem_range]at hx;obtain⟨i,hi,rfl⟩:=hx;exact (hf i hi).1
     ·by_cases hl:len=0
      ·subst hl;exact .nil (some a) cap (fun h=>by cases h)
      ·have h0:=hf 0 (by omega);obtain⟨ab,ao,ae⟩:=a;obtain rfl:ae=none:=h0.2.2.2.2.1;have hlen:((List.range len).map fun i=>(f i).1).length=len:=by simp
       have:=aH.list (w:=w) (F:=fun _=>False) ((List.range len).map fun i=>(f i).1) ab ao cap (P.cellsOf e) (fun i=>(f i).2) (by rw[hlen];exact fX) h0.2.2.2.1 (fun h=>h)
        (fun d hd=>by
         simp only[List.mem_map,List.mem_range]at hd;obtain⟨i,hi,rfl⟩:=hd;exact (hf i hi).2.2.1)
        (fun i d hd=>by
         simp only[List.getElem?_map,Option.map_eq_some_iff]at hd;obtain⟨i',lG,rfl⟩:=hd;have:=List.getElem?_eq_some_iff.1 lG;obtain⟨Fc,hi3⟩:=this;simp at Fc hi3;subst hi3;exact (hf _ Fc).2.1)
        (fun i j c hi hj=>by
         rw[hlen]at hi;exact (hf i hi).2.2.2.2.2.1 j c hj)
       rw[hlen]at this;exact this
     ·simp only[dP,ig];refine Nat.succ_le_succ (Kj _ _ (by simp;omega) fun i x d hx hd=>?_);simp only[List.getElem?_map,Option.map_eq_some_iff]at hx hd;obtain⟨j,hj,rfl⟩:=hx;obtain⟨q,hq,rfl⟩:=hd;obtain⟨zh,hj3⟩:=List.getElem?_eq_some_iff.1 hj;simp at zh hj3;subst hj3;exact (hf i zh).2.2.2.2.2.2 q hq
   |struct fs=>
    obtain⟨xs,m',rfl,rfl,hl,mO,gW⟩:=DataW.trod_struct ht hx;simp only at hp;rw[←hl]at hp;obtain⟨ys,h1,h2,_,h4,h5⟩:=vY (n:=m'+1) (w:=w) (F:=fun _=>False) fs.toList (xs.map (·.1)) 0 hp (by simpa using mO) (fun i f e hi he dt=>by
     simp only[List.getElem?_map,Option.map_eq_some_iff]at he;obtain⟨y,hy,rfl⟩:=he;have h5:=gW i f (by simpa using hi);rw[hy]at h5;exact vp hL m' f.type _ y dt h5)
    refine⟨.agg (ys.flatMap D.cells),⟨ys,rfl,by simpa using h1,fun i f y hi hy=>h2 i f y (by simpa using hi) hy⟩,by simpa using h4,?_,?_⟩
    ·have:=h4.1;rw[this];simpa using hl
    ·simp only[dP,ig];omega
   |_=>cases hp
theorem Tj {L:List TypeId} (hL:xJ P L=true) {t:TypeId} {v:Value} {d:DataW H} {ps:List MemPlace} {b0:Nat} (hp:L.contains t=true) (hv:Value.okWide P w .any b0 t v) (h:DataW.Trod enc P w base sp held t v d ps):
 ∃n x,typed P n t x∧aH w (fun _=>False) x v∧dP x≤ig d:=by
 obtain⟨m,hm⟩:=h;obtain⟨x,hx,hR,_,GF⟩:=vp hL m t _ _ hp hm;refine⟨m+1,x,hx,?_,GF⟩;have h1:=hR.rel
 ·have hp:=DN hL hp;simp only[typed]at hx;cases ht:P.underlying t with
  |none=>rw[ht]at hp;cases hp
  |some u=>
   rw[ht]at hp hx;cases u with
   |bool=>obtain⟨b,rfl⟩:=okWide_bool ht hv;obtain⟨y,rfl⟩:=hx;exact h1
   |int k=>obtain⟨b,rfl⟩:=okWide_int ht hv;obtain⟨y,rfl,_⟩:=hx;exact h1
   |string=>obtain⟨b,rfl⟩:=okWide_string ht hv;obtain⟨y,rfl,_⟩:=hx;exact h1
   |slice e=>obtain⟨a,len,cap,rfl⟩:=okWide_slice ht hv;obtain⟨y,rfl,_⟩:=hx;exact h1
   |struct fs=>
    simp only[Value.okWide,ht]at hv;obtain⟨cs,rfl,_⟩:=hv;obtain⟨ys,rfl,_⟩:=hx;simpa [shaped,Value.cells]using h1
   |_=>cases hp
theorem DO {L:List TypeId} (hL:xJ P L=true) {b0:Nat}:∀{ts:List TypeId} {vs:List Value} {ds:List (DataW H)} {ps:List MemPlace},DataW.TrodAll enc P w base sp held ts vs ds ps→(∀t∈ts,L.contains t=true)→
 (∀(j:Nat) t v,ts[j]?=some t→vs[j]?=some v→Value.okWide P w .any b0 t v)→
 ∃xs:List D,xs.length=vs.length∧xs.length=ts.length∧(∀(i:Nat) t x,ts[i]?=some t→xs[i]?=some x→∃n,typed P n t x)∧(∀(i:Nat) x v,xs[i]?=some x→vs[i]?=some v→aH w (fun _=>False) x v)∧bC xs≤gk ds
 |[],[],[],_,_,_,_=>⟨[],rfl,rfl,fun i t x h=>by simp at h,fun i x v h=>by simp at h,by simp[bC,gk]⟩
 |t::ts,v::vs,d::ds,ps,h,hp,hv=>by
  obtain⟨p,q,h1,h2,_⟩:=h;obtain⟨n,x,hx,hr,GF⟩:=Tj hL (hp t (by simp)) (hv 0 t v rfl rfl) h1;obtain⟨xs,g1,g2,g3,g4,g5⟩:=DO hL h2 (fun t ht=>hp t (by simp[ht])) (fun j t v h3 h4=>hv (j+1) t v (by simpa using h3) (by simpa using h4));refine⟨x::xs,by simp[g1],by simp[g2],fun i t' x' h3 h4=>?_,fun i x' v' h3 h4=>?_,by simp only[bC,gk];omega⟩
  ·cases i with
   |zero=>simp at h3 h4;subst h3;subst h4;exact⟨n,hx⟩
   |succ i=>simp at h3 h4;exact g3 i t' x' h3 h4
  ·cases i with
   |zero=>simp at h3 h4;subst h3;subst h4;exact hr
   |succ i=>simp at h3 h4;exact g4 i x' v' h3 h4
 |[],_::_,_,_,h,_,_=>by cases h
 |[],[],_::_,_,h,_,_=>by cases h
 |_::_,[],_,_,h,_,_=>by cases h
 |_::_,_::_,[],_,h,_,_=>by cases h
end
section
variable {H:Type} {enc:TypeId×Value→H}
theorem Ei {X:Ctx} (hX:jF X) {f:FuncId} {fn:Func} {s:ChangeSpec} {apart fresh handsOn:Bool} {L:List TypeId} {tb:TypeId} (hL:xJ X.P L=true)
 (aff:laidOutB X.P=true) (jw:(fn.params.toList.all fun t=>X.P.readableRec t&&decide (t<X.P.types.size)&&L.contains t)=true)
 (F7:fn.resultTypes=#[tb]) (htb:X.P.underlying tb=some .bool) (Vw:s.vars=[])
 (afg:∀ds:List (DataW H),ds.length=fn.params.size→s.fn H ds={results:=[.lit (.bool true)],args:=ds})
 {W:World} {base:Nat} {args:Array Value} {ds gs:List (DataW H)} {before:List MemPlace}
 (cB:∀(j:Nat) t v,fn.params[j]?=some t→args[j]?=some v→Value.okWide X.P W .any base t v)
 (hW:DataW.Whole enc X.P fn.params.toList s.vars apart W args.toList ds gs before) (hg:eI W (fun _=>False) X.gl)
 (bB:∀xs:List D,xs.length=fn.params.size→(∀(i:Nat) t x,fn.params[i]?=some t→xs[i]?=some x→∃n,typed X.P n t x)→bC xs≤gk ds→ai X f (xs.map .d) []=some (.ret (.d (.bool true)),[])):
 Calls X.P f args W fun e W'=>∃v,e=.returned v∧s.post enc X.P fn apart fresh handsOn false W args v W':=by
 have hW':=hW;obtain⟨p,q,hA,hV,rfl,AL,wT⟩:=hW;rw[Vw]at hV;obtain⟨rfl,rfl⟩:gs=[]∧q=[]:=by
  cases gs with
  |nil=>exact⟨rfl,hV⟩
  |cons g r=>exact absurd hV (by intro h;cases h)
 simp only[List.all_eq_true,Bool.and_eq_true,decide_eq_true_eq]at jw;obtain⟨xs,h1,h2,h3,h4,h5⟩:=DO hL (b0:=base) hA (fun t ht=>(jw t ht).2) (fun j t v ht hv=>cB j t v (by simpa using ht) (by simpa using hv));have hlen:=trodAll_length hA;refine (Qq hX (bB xs (by simpa using h2) (fun i t x ht hx=>h3 i t x (by simpa using ht) hx) h5) (by simpa using h1) (fun i x v hx hv=>h4 i x v hx (by simpa using hv)) hg).mono ?_;rintro e W' ⟨rfl,hb⟩;have cg:∀x∈p,x.block<W.heap.size:=fun x hx=>by simpa using hW'.lt x (by simpa using hx)
 have hs:s.fn H (ds++[])={results:=[.lit (.bool true)],args:=ds}:=by
  rw[List.append_nil];exact afg ds (by simpa using hlen.2)
 refine⟨_,rfl,ds,[],p++[],[],p,[],hW',?_,?_,?_,hb.frame _,fun h=>by cases h⟩
 ·rw[hs,F7];exact trodAll_mk1 (shut_bool htb true)
 ·rw[hs];exact vX aff hb hA (fun t ht=>(jw t ht).1) cg
 ·rw[hs,Vw];rfl
end
end Go.Am
end
section
namespace Go.Am
open Go
theorem GG (l:List Ex):(ga l).length=l.length:=by rw[q9];simp
theorem uj (x:Ex):dP (bL x)=bC (ud x)+1:=by rw[Ew];rfl
mutual
theorem GH:∀x:Ex,dP (bL x)<100000000→uh x
 | .mk op n name field sub line,h=>by
  simp only[bL,dP,bC]at h;have h2:=lX (ga sub);rw[GG]at h2;simp only[uh];exact⟨⟨by omega,by omega,by omega⟩,Cz sub (by omega)⟩
theorem Cz:∀l:List Ex,bC (ga l)<100000000→oo l
 |[],_=>by simp only[oo]
 |x::r,h=>by
  simp only[ga,bC]at h;simp only[oo];exact⟨GH x (by omega),Cz r (by omega)⟩
end
theorem vq {α:Type} (f:α→D) (l:List α):l.length≤bC (l.map f):=by
 have:=lX (l.map f);simpa using this
theorem Vx (l:List Int):l.length≤dP (mA l):=by
 have:=vq (fun n=>D.int .i64 n) l;simp only[mA,dP];omega
theorem Tk (l:List (List Sm)):(ld l).length=l.length:=by rw[yt];simp
theorem Ak (l:List Sm):(lf l).length=l.length:=by rw[ue];simp
mutual
theorem aaK:∀x:Sm,dP (cC x)<100000000→xI x∧Kf x≤dP (cC x)
 | .mk op name to val conds labels fields blocks line,h=>by
  simp only[cC,dP,bC,ph]at h⊢;have e1:=uj to;have e2:=uj val;have h2:=lX (ga conds);rw[GG]at h2;have h3:=vq mA labels;have h4:=vq D.str fields;have h5:=lX (ld blocks);rw[Tk]at h5;have hb:=Kk blocks (by omega);simp only[xI,Kf];refine⟨⟨⟨GH to (by omega),GH val (by omega),⟨by omega,Cz conds (by omega)⟩,⟨by omega,fun l hl=>?_⟩,by omega,by omega⟩,hb.1⟩,by omega⟩;have h6:=GD (List.mem_map_of_mem (f:=mA) hl);have h7:=Vx l;omega
theorem CA:∀l:List Sm,bC (lf l)<100000000→lh l∧qq l≤bC (lf l)
 |[],_=>by simp only[lh,qq];exact⟨trivial,Nat.zero_le _⟩
 |x::r,h=>by
  simp only[lf,bC]at h⊢;have h1:=aaK x (by omega);have h2:=CA r (by omega);simp only[lh,qq];exact⟨⟨h1.1,h2.1⟩,by omega⟩
theorem Kk:∀l:List (List Sm),bC (ld l)<100000000→nb l∧tH l≤bC (ld l)
 |[],_=>by simp only[nb,tH];exact⟨trivial,Nat.zero_le _⟩
 |b::r,h=>by
  simp only[ld,bC,dP]at h⊢;have h0:=lX (lf b);rw[Ak]at h0;have h1:=CA b (by omega);have h2:=Kk r (by omega);simp only[nb,tH];exact⟨⟨⟨by omega,h1.1⟩,h2.1⟩,by omega⟩
end
theorem GI {p:Pg} (h:dP (.agg [.str p.name,.list (p.vars.map bG),.list (p.body.map cC)])<50000000):p.body.length<100000000∧lh p.body∧qq p.body<50000000:=by
 simp only[dP,bC]at h;rw[←ue]at h;have h0:=lX (lf p.body);rw[Ak]at h0;have h1:=CA p.body (by omega);exact⟨by omega,h1.1,by omega⟩
mutual
def eG:Ex→Bool
 | .mk _ n _ _ sub _=>decide (-9223372036854775808≤n∧n≤9223372036854775807)&&ef sub
def ef:List Ex→Bool
 |[]=>true
 |x::r=>eG x&&ef r
end
def CB (n:Int):Bool:=decide (-9223372036854775808≤n∧n≤9223372036854775807)
mutual
def ot:Sm→Bool
 | .mk _ _ to val conds labels _ blocks _=>eG to&&(eG val&&(ef conds&&(labels.all (fun l=>l.all CB)&&ij blocks)))
def iQ:List Sm→Bool
 |[]=>true
 |x::r=>ot x&&iQ r
def ij:List (List Sm)→Bool
 |[]=>true
 |b::r=>iQ b&&ij r
end
end Go.Am
end
section
namespace Go.Am
open Go Go.Proofs
variable [Inhabited b6]
set_option maxRecDepth 20000
theorem qe {P:Program} {n:Nat} {t:TypeId} {d:D} (h:typed P n t d):∃m,n=m+1:=by
 cases n with
 |zero=>exact h.elim
 |succ m=>exact⟨m,rfl⟩
theorem kQ {P:Program} {n:Nat} {t:TypeId} {d:D} (ht:P.underlying t=some (.int .i64)) (h:typed P n t d):∃z,d=.int .i64 z∧CB z=true:=by
 obtain⟨m,rfl⟩:=qe h;obtain⟨z,rfl,hw⟩:=Qp ht h;refine⟨z,rfl,?_⟩;have h2:aZ z:=by
  simp[Lit.wf]at hw;unfold aZ;have e1:IntKind.i64.min= -9223372036854775808:=by decide
  have e2:IntKind.i64.max=9223372036854775807:=by decide
  simp only[e1,e2]at hw;omega
 unfold aZ at h2;unfold CB;simp only[decide_eq_true_eq];exact h2
theorem Wl {P:Program} {n:Nat} {t:TypeId} {d:D} (ht:P.underlying t=some .bool) (h:typed P n t d):∃b,d=.bool b:=by
 obtain⟨m,rfl⟩:=qe h;exact Ns ht h
theorem nC {P:Program} {n:Nat} {t:TypeId} {d:D} (ht:P.underlying t=some .string) (h:typed P n t d):∃s,d=.str s:=by
 obtain⟨m,rfl⟩:=qe h;obtain⟨s,rfl,_⟩:=GB ht h;exact⟨s,rfl⟩
theorem kJ {P:Program} {n:Nat} {t e:TypeId} {d:D} (ht:P.underlying t=some (.slice e)) (h:typed P n t d):∃xs m,m<n∧d=.list xs∧∀x∈xs,typed P m e x:=by
 obtain⟨m,rfl⟩:=qe h;obtain⟨xs,rfl,_,hx⟩:=Iq ht h;exact⟨xs,m,by omega,rfl,hx⟩
theorem sM {P:Program} {n:Nat} {t:TypeId} {d:D} {fs:Array Field} (ht:P.underlying t=some (.struct fs)) (h:typed P n t d):∃ds m,m<n∧d=.agg ds∧yz P m fs.toList ds:=by
 obtain⟨m,rfl⟩:=qe h;obtain⟨ds,rfl,hf⟩:=GC ht h;exact⟨ds,m,by omega,rfl,hf⟩
theorem iq {α:Type} {f:α→D} {Q:α→Prop}:∀{xs:List D},(∀x∈xs,∃r,x=f r∧Q r)→∃rs:List α,xs=rs.map f∧∀r∈rs,Q r
 |[],_=>⟨[],rfl,fun r h=>by cases h⟩
 |x::xs,h=>by
  obtain⟨r,rfl,hr⟩:=h x (by simp);obtain⟨rs,rfl,nM⟩:=iq (xs:=xs) (fun y hy=>h y (by simp[hy]));exact⟨r::rs,rfl,fun y hy=>by
   rcases List.mem_cons.1 hy with rfl|hy
   ·exact hr
   ·exact nM y hy⟩
theorem Al:∀{l:List Ex},(∀x∈l,eG x=true)→ef l=true
 |[],_=>by simp[ef]
 |x::r,h=>by simp only[ef,Bool.and_eq_true];exact⟨h x (by simp),Al fun y hy=>h y (by simp[hy])⟩
theorem An:∀{l:List Sm},(∀x∈l,ot x=true)→iQ l=true
 |[],_=>by simp[iQ]
 |x::r,h=>by simp only[iQ,Bool.and_eq_true];exact⟨h x (by simp),An fun y hy=>h y (by simp[hy])⟩
theorem GJ:∀{l:List (List Sm)},(∀x∈l,iQ x=true)→ij l=true
 |[],_=>by simp[ij]
 |x::r,h=>by simp only[ij,Bool.and_eq_true];exact⟨h x (by simp),GJ fun y hy=>h y (by simp[hy])⟩
theorem Ao:∀(n:Nat) (x:D),typed Tryz.prog n 136 x→∃e:Ex,x=bL e∧eG e=true:=by
 intro n;induction n using Nat.strongRecOn with
 |ind n ih=>
 intro x h;obtain⟨ds,m,hm,rfl,y0,d0,h0,⟨y1,d1,h1,⟨y2,d2,h2,⟨y3,d3,h3,⟨y4,d4,h4,⟨y5,d5,h5,rfl,rfl⟩,rfl⟩,rfl⟩,rfl⟩,rfl⟩,rfl⟩:=sM Tryz.underlying136 h;obtain⟨op,rfl,_⟩:=kQ Tryz.underlying3 h0;obtain⟨k,rfl,hk⟩:=kQ Tryz.underlying2 h1;obtain⟨name,rfl⟩:=nC Tryz.underlying9 h2;obtain⟨field,rfl⟩:=nC Tryz.underlying9 h3;obtain⟨xs,q,hq,rfl,mO⟩:=kJ Tryz.underlying134 h4;obtain⟨line,rfl,_⟩:=kQ Tryz.underlying3 h5;obtain⟨l,rfl,hl⟩:=iq (f:=bL) (Q:=fun e=>eG e=true) (fun x hx=>ih q (by omega) x (mO x hx));exact⟨.mk op k name field l line,by rw[Ew];simp[ud,q9,D.cells],by
  simp only[eG,Bool.and_eq_true];exact⟨hk,Al hl⟩⟩
theorem Nu {n:Nat} {x:D} (h:typed Tryz.prog n 45 x):∃l:List Int,x=mA l∧l.all CB=true:=by
 obtain⟨xs,q,hq,rfl,mO⟩:=kJ Tryz.underlying45 h;obtain⟨l,rfl,hl⟩:=iq (f:=fun n=>D.int .i64 n) (Q:=fun e=>CB e=true) (fun x hx=>kQ Tryz.underlying2 (mO x hx));exact⟨l,rfl,List.all_eq_true.2 hl⟩
theorem Tl:∀(n:Nat) (x:D),typed Tryz.prog n 141 x→∃e:Sm,x=cC e∧ot e=true:=by
 intro n;induction n using Nat.strongRecOn with
 |ind n ih=>
 intro x h;obtain⟨ds,m,hm,rfl,y0,d0,h0,⟨y1,d1,h1,⟨y2,d2,h2,⟨y3,d3,h3,⟨y4,d4,h4,⟨y5,d5,h5,⟨y6,d6,h6,⟨y7,d7,h7,⟨y8,d8,h8,rfl,rfl⟩,rfl⟩,rfl⟩,rfl⟩,rfl⟩,rfl⟩,rfl⟩,rfl⟩,rfl⟩:=sM Tryz.underlying141 h;obtain⟨op,rfl,_⟩:=kQ Tryz.underlying3 h0;obtain⟨name,rfl⟩:=nC Tryz.underlying9 h1;obtain⟨to,rfl,cF⟩:=Ao _ _ h2;obtain⟨val,rfl,cB⟩:=Ao _ _ h3;obtain⟨x4,q4,hq4,rfl,hx4⟩:=kJ Tryz.underlying134 h4;obtain⟨x5,q5,hq5,rfl,hx5⟩:=kJ Tryz.underlying137 h5;obtain⟨x6,q6,hq6,rfl,hx6⟩:=kJ Tryz.underlying138 h6;obtain⟨x7,q7,hq7,rfl,hx7⟩:=kJ Tryz.underlying139 h7;obtain⟨line,rfl,_⟩:=kQ Tryz.underlying3 h8;obtain⟨conds,rfl,eP⟩:=iq (f:=bL) (Q:=fun e=>eG e=true) (fun x hx=>Ao _ _ (hx4 x hx));obtain⟨labels,rfl,Ap⟩:=iq (f:=mA) (Q:=fun l=>l.all CB=true) (fun x hx=>Nu (hx5 x hx));obtain⟨fields,rfl⟩:=tI (f:=D.str) (fun x hx=>nC Tryz.underlying9 (hx6 x hx));obtain⟨blocks,rfl,gA⟩:=iq (f:=fun b:List Sm=>D.list (b.map cC)) (Q:=fun b=>iQ b=true) (fun x hx=>by
  obtain⟨xs,q,hq,rfl,mO⟩:=kJ Tryz.underlying23 (hx7 x hx);obtain⟨l,rfl,hl⟩:=iq (f:=cC) (Q:=fun e=>ot e=true) (fun x hx=>ih q (by omega) x (mO x hx));exact⟨l,rfl,An hl⟩)
 refine⟨.mk op name to val conds labels fields blocks line,?_,?_⟩
 ·simp[cC,q9,yt,D.cells,Ew]
 ·simp only[ot,Bool.and_eq_true];exact⟨cF,cB,Al eP,List.all_eq_true.2 Ap,GJ gA⟩
theorem Tm {n:Nat} {x:D} (h:typed Tryz.prog n 71 x):∃v:Vr,x=bG v:=by
 obtain⟨ds,m,hm,rfl,y0,d0,h0,⟨y1,d1,h1,⟨y2,d2,h2,⟨y3,d3,h3,⟨y4,d4,h4,⟨y5,d5,h5,⟨y6,d6,h6,⟨y7,d7,h7,rfl,rfl⟩,rfl⟩,rfl⟩,rfl⟩,rfl⟩,rfl⟩,rfl⟩,rfl⟩:=sM Tryz.underlying71 h;obtain⟨name,rfl⟩:=nC Tryz.underlying9 h0;obtain⟨ty,rfl,_⟩:=kQ Tryz.underlying3 h1;obtain⟨sec,rfl,_⟩:=kQ Tryz.underlying3 h2;obtain⟨arr,rfl⟩:=Wl Tryz.underlying4 h3;obtain⟨lo,rfl,_⟩:=kQ Tryz.underlying2 h4;obtain⟨hi,rfl,_⟩:=kQ Tryz.underlying2 h5;obtain⟨init,rfl,_⟩:=kQ Tryz.underlying2 h6;obtain⟨line,rfl,_⟩:=kQ Tryz.underlying3 h7;exact⟨⟨name,ty,sec,arr,lo,hi,init,line⟩,rfl⟩
theorem Tn {n:Nat} {x:D} (h:typed Tryz.prog n 25 x):∃p:Pg,x=.agg [.str p.name,.list (p.vars.map bG),.list (p.body.map cC)]∧iQ p.body=true:=by
 obtain⟨ds,m,hm,rfl,y0,d0,h0,⟨y1,d1,h1,⟨y2,d2,h2,rfl,rfl⟩,rfl⟩,rfl⟩:=sM Tryz.underlying25 h;obtain⟨name,rfl⟩:=nC Tryz.underlying9 h0;obtain⟨x1,q1,hq1,rfl,E9⟩:=kJ Tryz.underlying22 h1;obtain⟨x2,q2,hq2,rfl,X1⟩:=kJ Tryz.underlying23 h2;obtain⟨vars,rfl⟩:=tI (f:=bG) (fun x hx=>Tm (E9 x hx));obtain⟨body,rfl,afh⟩:=iq (f:=cC) (Q:=fun e=>ot e=true) (fun x hx=>Tl _ _ (X1 x hx));exact⟨⟨name,vars,body⟩,rfl,An afh⟩
end Go.Am
end
section
namespace Go.Am
open Go
def Kl (n:Int):Int:=IntKind.i64.wrap (-n)
def jt (x:Ex):Option (Int×Bool):=
 if bO x=1 then some (ia x,false)
 else if bO x=2 then some (ia x,true)
 else if bO x=6 then (match cO x with
  |[y]=>if bO y=1 then some (Kl (ia y),false)else none
  |_=>none)
 else none
def m6:List Ex→Option (List (Int×Bool))
 |[]=>some []
 |x::r=>match jt x with
  |some p=>(match m6 r with
   |some l=>some (p::l)
   |none=>none)
  |none=>none
def lE (n:Int) (t:Bool) (line:Int):Ex:=
 if t=true then .mk 2 n [] [] [] line
 else if 0≤n then .mk 1 n [] [] [] line
 else .mk 6 0 [] [] [.mk 1 (Kl n) [] [] [] line] line
def GK (op:Int):List (Int×Bool)→Option (Int×Bool×Int)
 |[a]=>some (qC op a.1 a.2)
 |[a,b]=>if a.2=b.2 then some (ub op a.1 b.1 a.2)else none
 |_=>none
def kz (x:Ex):Ex:=
 if bO x<6∨(jt x).isSome then x
 else match m6 (cO x)with
  |none=>x
  |some l=>match GK (bO x) l with
   |none=>x
   |some r=>if r.2.2≠0∨(r.2.1=false∧r.1= -9223372036854775808)then x else lE r.1 r.2.1 (jH x)
mutual
def cU:Ex→Ex
 | .mk op n name field sub line=>kz (.mk op n name field (cP sub) line)
def cP:List Ex→List Ex
 |[]=>[]
 |x::r=>cU x::cP r
end
theorem lY:∀l:List Ex,cP l=l.map cU
 |[]=>rfl
 |x::r=>by simp[cP,lY r]
mutual
def qF:Sm→Sm
 | .mk op name to val conds labels fields blocks line=>.mk op name (cU to) (cU val) (cP conds) labels fields (ir blocks) line
def dD:List Sm→List Sm
 |[]=>[]
 |x::r=>qF x::dD r
def ir:List (List Sm)→List (List Sm)
 |[]=>[]
 |b::r=>dD b::ir r
end
def Qr (p:Pg):Pg:=⟨p.name,p.vars,dD p.body⟩
def zw:Vr:=⟨[],0,0,false,0,0,0,0⟩
def oS:List Vr→Tx→Int→Int×Vr
 |[],_,_=>(0,zw)
 |v::r,s,n=>if v.name=s then (n,v)else oS r s (n+bH v)
def cd (vs:List Vr) (s:Tx):Int×Vr:=oS vs s 0
def cf:List Vr→Int
 |[]=>0
 |v::r=>bH v+cf r
def xK:List Pn→Tx→Nat→Option (Nat×Pn)
 |[],_,_=>none
 |p::r,s,i=>if p.name=s then some (i,p)else xK r s (i+1)
def CC:Pn:=⟨[],0,false⟩
def iu (vs:List Vr) (s f:Tx):Int×Pn:=
 if (bf vs s).isSome=true∧2<(cd vs s).2.ty∧f≠[]then
  (match xK (bq (cd vs s).2.ty) f 0 with
   |some (i,p)=>((cd vs s).1+i,p)
   |none=>(0,CC))
 else (0,CC)
def kR (k:Nat) (x:aq):aq:=if (x.op=9∨x.op=10)∧0≤x.a then {x with a:=x.a+k} else x
def ic (k:Nat) (l:List aq):List aq:=l.map (kR k)
def jn (a b:List aq):List aq:=a++ic a.length b
def oT (to:Int) (x:aq):aq:=if x.op=9∧x.a= -1 then {x with a:=to} else x
def mV (to:Int) (x:aq):aq:=if x.op=9∧x.a= -2 then {x with a:=to} else x
def ins (op a b n m:Int):aq:=⟨op,a,b,n,m⟩
mutual
def ak (vs:List Vr):Ex→List aq×Bool
 | .mk op n name field sub _=>
  if op=1∨op=2 then ([ins 1 0 0 n 0],decide (op=2))
  else if op=3 then ([ins (1+(cd vs name).2.ty) (cd vs name).1 0 0 0],decide ((cd vs name).2.ty=2))
  else if op=5 then ([ins (1+(iu vs name field).2.ty) (iu vs name field).1 0 0 0],decide ((iu vs name field).2.ty=2))
  else if op=4 then (ou vs sub++[ins (3+(cd vs name).2.ty) (cd vs name).1 0 (cd vs name).2.lo (cd vs name).2.hi],decide ((cd vs name).2.ty=2))
  else ((ik vs sub).1++[ins 8 (if (ik vs sub).2=true then 1 else 0) op 0 0],decide (op=7∨12<op))
def ik (vs:List Vr):List Ex→List aq×Bool
 |[]=>([],false)
 |[x]=>ak vs x
 |x::r=>((ak vs x).1++(ik vs r).1,(ik vs r).2)
def ou (vs:List Vr):List Ex→List aq
 |[]=>[]
 |x::_=>(ak vs x).1
end
mutual
def aJ (h:Int):Ex→Int
 | .mk op _ _ _ sub _=>if op=1∨op=2∨op=3∨op=5 then h+1 else max (h+1) (fF h sub)
def fF (h:Int):List Ex→Int
 |[]=>0
 |x::r=>max (aJ h x) (fF (h+1) r)
end
def cy:List (List aq)→List (List aq)→List aq
 |_,[]=>[]
 |[],b::r=>if r=[]then b else jn (b++[ins 9 (b.length+1+(cy [] r).length) 0 0 0]) (cy [] r)
 |t::ts,b::r=>
  let out:=cy ts r
  let part:=if r=[]then b else b++[ins 9 (b.length+1+out.length) 0 0 0]
  jn (t++[ins 10 (t.length+1+part.length) 0 0 0]++ic (t.length+1) part) out
def ee (cell:Int):List Int→List aq
 |a::b::r=>ins 14 cell 0 a b::ins 8 1 21 0 0::ee cell r
 |_=>[]
def dM (vs:List Vr) (name:Tx):List Tx→List Ex→List aq
 |f::fs,x::xs=>(ak vs x).1++ins 6 (iu vs name f).1 0 0 0::dM vs name fs xs
 |_,_=>[]
def nc (l:List aq):List aq:=l.map (oT l.length)
def iv (t b:List aq):List aq:=nc (ins 11 0 0 0 0::t++[ins 10 (t.length+3+b.length) 0 0 0]++ic (t.length+2) b++[ins 9 0 0 0 0])
def lZ (t b:List aq):List aq:=nc (b++ins 11 0 0 0 0::t++[ins 10 0 0 0 0])
def kK (at_ cell:Int) (b:List aq):List aq:=
 nc ([ins 11 0 0 0 0,ins 13 at_ cell 0 0,ins 10 (b.length+8) 0 0 0]++ic 3 b++[ins 2 at_ 0 0 0,ins 2 (cell+1) 0 0 0,ins 8 0 8 0 0,ins 6 at_ 0 0 0,ins 9 0 0 0 0])
mutual
def cV (vs:List Vr):Sm→Int→List aq×Int
 | .mk op name to val conds labels fields blocks _,c=>
  if op=1 then
   (if bO to=3 then (ak vs val).1++[ins 6 (cd vs (dB to)).1 0 0 0]
    else ou vs (cO to)++((ak vs val).1++[ins 7 (cd vs (dB to)).1 0 (cd vs (dB to)).2.lo (cd vs (dB to)).2.hi]),c)
  else if op=2 then (cy (conds.map fun x=>(ak vs x).1) (ar vs blocks c).1,(ar vs blocks c).2)
  else if op=3 then (jn ((ak vs val).1++[ins 6 c 0 0 0]) (cy (labels.map fun l=>ins 1 0 0 0 0::ee c l) (ar vs blocks (c+1)).1),(ar vs blocks (c+1)).2)
  else if op=4 then (jn ((ik vs conds).1++[ins 6 (c+1) 0 0 0,ins 6 c 0 0 0,ins 6 (cd vs name).1 0 0 0]) (kK (cd vs name).1 c (lj vs blocks (c+2)).1),(lj vs blocks (c+2)).2)
  else if op=5 then (iv (ak vs val).1 (lj vs blocks c).1,(lj vs blocks c).2)
  else if op=6 then (lZ (ak vs val).1 (lj vs blocks c).1,(lj vs blocks c).2)
  else if op=7 then ([ins 9 (-1) 0 0 0],c)
  else if op=8 then ([ins 9 (-2) 0 0 0],c)
  else (dM vs name fields conds++[ins 12 (cd vs name).1 (cd vs name).2.ty 0 0],c)
def ag (vs:List Vr):List Sm→Int→List aq×Int
 |[],c=>([],c)
 |x::r,c=>(jn (jn [ins 11 0 0 0 0] (cV vs x c).1) (ag vs r (cV vs x c).2).1,(ag vs r (cV vs x c).2).2)
def ar (vs:List Vr):List (List Sm)→Int→List (List aq)×Int
 |[],c=>([],c)
 |b::r,c=>((ag vs b c).1::(ar vs r (ag vs b c).2).1,(ar vs r (ag vs b c).2).2)
def lj (vs:List Vr):List (List Sm)→Int→List aq×Int
 |[],c=>([],c)
 |b::_,c=>ag vs b c
end
def jQ:List Ex→Int
 |[]=>0
 |x::r=>max (aJ 0 x) (jQ r)
mutual
def gq:Sm→Int
 | .mk op _ to val conds labels _ blocks _=>
  if op=1 then (if bO to=3 then aJ 0 val else max (fF 0 (cO to)) (aJ 1 val))
  else if op=2 then max (jQ conds) (bV blocks)
  else if op=3 then max (aJ 0 val) (max (if labels=[]then 0 else 2) (bV blocks))
  else if op=4 then max (max (fF 0 conds) 3) (bV blocks)
  else if op=5∨op=6 then max (aJ 0 val) (bV blocks)
  else if op=7∨op=8 then 0
  else jQ conds
def aY:List Sm→Int
 |[]=>0
 |x::r=>max (gq x) (aY r)
def bV:List (List Sm)→Int
 |[]=>0
 |b::r=>max (aY b) (bV r)
end
def vr (p:Pg):Option (List aq×Int×Int):=
 let g:=ag p.vars (dD p.body) (cf p.vars)
 if 4096<g.1.length+1∨64<aY (dD p.body)then none
 else some (g.1.map (mV g.1.length)++[ins 15 0 0 0 0],cf p.vars,g.2)
@[simp] theorem kV (k:Nat) (l:List aq):(ic k l).length=l.length:=by simp[ic]
@[simp] theorem nf (l:List aq):(nc l).length=l.length:=by simp[nc]
theorem dL (a b:List aq):(jn a b).length=a.length+b.length:=by simp[jn]
theorem GL (k:Nat) (x:aq):(kR k x).op=x.op:=by unfold kR;split<;>rfl
theorem Qs (k:Int) (x:aq):(oT k x).op=x.op:=by unfold oT;split<;>rfl
theorem Qt (k:Int) (x:aq):(mV k x).op=x.op:=by unfold mV;split<;>rfl
def qt (vs:List Vr) (x:Sm) (c:Int):List aq:=jn [ins 11 0 0 0 0] (cV vs x c).1
theorem To (vs:List Vr) (x:Sm) (c:Int):(qt vs x c).length=(cV vs x c).1.length+1:=by unfold qt;rw[dL];simp;omega
theorem Qu {n:Int} (h: -9223372036854775808<n∧n≤9223372036854775807):Kl n= -n:=by
 unfold Kl;simp only[IntKind.wrap,IntKind.bits,IntKind.signed];simp;omega
theorem aaM (b:Bool):dJ b=0∨dJ b=1:=by cases b<;>simp[dJ]
def Km (r:Int×Bool×Int) (t:Bool):Prop:=r.2.2=0→r.2.1=t∧(t=true→r.1=0∨r.1=1)∧(-9223372036854775808≤r.1∧r.1≤9223372036854775807)
theorem uk (t:Bool):Km kZ t:=fun h=>by simp[kZ]at h
theorem kq (b:Bool):Km (dJ b,true,0) true:=fun _=>by rcases aaM b with h|h<;>simp[h]
theorem yA (z:Int):Km (tE (kF z)) false:=by
 intro h;unfold tE kF at h⊢;split<;>simp_all;all_goals omega
theorem aaN {a b:Int} (ha: -9223372036854775808≤a∧a≤9223372036854775807) (h:¬(a= -9223372036854775808∧b= -1)): -9223372036854775808≤a.tdiv b∧a.tdiv b≤9223372036854775807:=by
 have h1:(a.tdiv b).natAbs≤a.natAbs:=by rw[Int.natAbs_tdiv];exact Nat.div_le_self _ _
 by_cases hm:a= -9223372036854775808
 ·by_cases hb:b=1
  ·subst hb;simp only[Int.tdiv_one];omega
  ·by_cases Qv:b=0
   ·subst Qv;simp
   ·have h2:2≤b.natAbs:=by omega
    have h3:(a.tdiv b).natAbs≤a.natAbs/2:=by rw[Int.natAbs_tdiv];exact Nat.div_le_div_left h2 (by omega)
    omega
 ·omega
theorem aaO {a b:Int} (ha: -9223372036854775808≤a∧a≤9223372036854775807): -9223372036854775808≤a.tmod b∧a.tmod b≤9223372036854775807:=by
 have h1:(a.tmod b).natAbs≤a.natAbs:=by rw[Int.natAbs_tmod];exact Nat.mod_le _ _
 have h2:0≤a→0≤a.tmod b:=fun h=>Int.tmod_nonneg _ h;have h3:a≤0→a.tmod b≤0:=fun h=>by
  have:=Int.tmod_nonneg (a:= -a) b (by omega);rw[Int.neg_tmod]at this;omega
 omega
theorem Wm {a b:Int} (ha: -9223372036854775808≤a∧a≤9223372036854775807):Km (pe (xB a b)) false:=by
 intro h;by_cases hb:b=0
 ·simp[pe,xB,hb]at h
 ·by_cases hm:a= -9223372036854775808∧b= -1
  ·simp[pe,xB,hm]at h
  ·have:=aaN ha hm;simp[pe,xB,hb,hm,this]
theorem Wn {a b:Int} (ha: -9223372036854775808≤a∧a≤9223372036854775807):Km (pe (Af a b)) false:=by
 intro h;by_cases hb:b=0
 ·simp[pe,Af,hb]at h
 ·have:=aaO (b:=b) ha;simp[pe,Af,hb,this]
def aaP (op:Int):Prop:=op=6∨(8≤op∧op≤12)∨(15≤op∧op≤18)
instance (op:Int):Decidable (aaP op):=inferInstanceAs (Decidable (_∨_))
theorem aaQ {op:Int} {l:List (Int×Bool)} {r:Int×Bool×Int} (h:GK op l=some r) (hl:∀p∈l, -9223372036854775808≤p.1∧p.1≤9223372036854775807):
 Km r (!decide (op=6∨(8≤op∧op≤12))):=by
 unfold GK at h;split at h
 ·rename_i a;cases h;have ha:=hl a (by simp);unfold qC;split
  ·split
   ·exact uk _
   ·split
    ·rename_i h7;subst h7;exact kq _
    ·exact uk _
  ·split
   ·rename_i h6;subst h6;exact yA _
   ·exact uk _
 ·rename_i a b;have ha:=hl a (by simp);have hb:=hl b (by simp);split at h
  ·cases h;unfold ub;split
   ·split
    ·exact uk _
    ·unfold Gi;split
     ·rename_i e;subst e;exact kq _
     ·split
      ·rename_i e;have:(!decide (op=6∨(8≤op∧op≤12)))=true:=by simp;omega
       rw[this];exact kq _
      ·split
       ·rename_i e;subst e;exact kq _
       ·split
        ·rename_i e;subst e;exact kq _
        ·exact uk _
   ·unfold BB;split
    ·rename_i e;subst e;exact yA _
    ·split
     ·rename_i e;subst e;exact yA _
     ·split
      ·rename_i e;subst e;exact yA _
      ·split
       ·rename_i e;subst e;exact Wm ha
       ·split
        ·rename_i e;subst e;exact Wn ha
        ·split
         ·rename_i e;subst e;exact kq _
         ·split
          ·rename_i e;subst e;exact kq _
          ·split
           ·rename_i e;subst e;exact kq _
           ·split
            ·rename_i e;subst e;exact kq _
            ·split
             ·rename_i e;subst e;exact kq _
             ·split
              ·rename_i e;subst e;exact kq _
              ·exact uk _
  ·cases h
 ·cases h
def Kp (vs:List Vr) (x y:Ex):Prop:=bk y=true∧eG y=true∧aC vs y=aC vs x∧jH y=jH x
theorem Qw {vs:List Vr} {y:Ex} {p:Int×Bool} (h:jt y=some p) (hf:bk y=true) (hl:eG y=true) (he:(aC vs y).e=0):
 aC vs y=eN (if p.2=true then 2 else 1)∧(-9223372036854775808≤p.1∧p.1≤9223372036854775807):=by
 obtain⟨op,n,name,field,sub,line⟩:=y;simp only[eG,Bool.and_eq_true,decide_eq_true_eq]at hl;by_cases h1:op=1
 ·simp only[jt,mU,uf,h1,if_true,Option.some.injEq]at h;subst h;simp[aC,h1,hl.1]
 ·by_cases h2:op=2
  ·simp only[jt,mU,uf,h1,h2,if_false,if_true,Option.some.injEq,Int.reduceEq]at h;subst h;simp[aC,h2,hl.1]
  ·by_cases h6:op=6
   ·simp only[jt,mU,uf,ob,h6,if_false,if_true,Int.reduceEq]at h;split at h
    ·rename_i z;split at h
     ·rename_i hz;cases h;obtain⟨op',n',arC,ap6,xL,arD⟩:=z;simp only[mU]at hz;subst hz h6;simp only[ef,eG,Bool.and_true,Bool.and_eq_true,decide_eq_true_eq]at hl;have hn:0≤n':=by
       simp[bk,bA,dE]at hf;omega
      have hg:=Qu (n:=n') ⟨by omega,by omega⟩;refine⟨?_,?_⟩
      ·simp[aC,qD,b9,eN,gd,gG]
      ·simp only[uf,hg];omega
     ·cases h
    ·cases h
   ·simp only[jt,mU,h1,h2,h6,if_false]at h;cases h
theorem Kn:∀{l:List Ex} {ps:List (Int×Bool)},m6 l=some ps→ps.length=l.length∧∀(i:Nat) y p,l[i]?=some y→ps[i]?=some p→jt y=some p
 |[],ps,h=>by simp only[m6]at h;cases h;exact⟨rfl,fun i y p h=>by simp at h⟩
 |x::r,ps,h=>by
  simp only[m6]at h;split at h
  ·rename_i p hp;split at h
   ·rename_i l hl;cases h;obtain⟨i1,i2⟩:=Kn hl;refine⟨by simp[i1],fun i y q hy hq=>?_⟩;cases i with
    |zero=>simp at hy hq;subst hy hq;exact hp
    |succ i=>simp at hy hq;exact i2 i y q hy hq
   ·cases h
  ·cases h
theorem Wo (vs:List Vr) {n:Int} {t:Bool} {line:Int} (h:t=true→n=0∨n=1) (hi: -9223372036854775808≤n∧n≤9223372036854775807) (hm:¬(t=false∧n= -9223372036854775808)):
 bk (lE n t line)=true∧eG (lE n t line)=true∧aC vs (lE n t line)=eN (if t=true then 2 else 1)∧jH (lE n t line)=line:=by
 unfold lE;cases t with
 |true=>
  have:=h rfl;refine⟨?_,?_,?_,?_⟩
  ·simp[bk,bA,dE];omega
  ·simp[eG,ef];omega
  ·simp[aC]
  ·simp
 |false=>
  simp only[Bool.false_eq_true,if_false];split
  ·rename_i h0;refine⟨?_,?_,?_,?_⟩
   ·simp[bk,bA,dE];omega
   ·simp[eG,ef];omega
   ·simp[aC]
   ·simp
  ·rename_i h0;have hn:n≠ -9223372036854775808:=fun e=>hm ⟨rfl,e⟩;have hg:=Qu (n:=n) ⟨by omega,by omega⟩;refine⟨?_,?_,?_,?_⟩
   ·simp[bk,bA,dE,hg];omega
   ·simp[eG,ef,hg];omega
   ·simp[aC,qD,b9,eN,gd,gG]
   ·simp
theorem aaR {vs:List Vr} {x:Ex} (hf:bk x=true) (hl:eG x=true) (he:(aC vs x).e=0):Kp vs x (kz x):=by
 have self:Kp vs x x:=⟨hf,hl,rfl,rfl⟩;unfold kz;split
 ·exact self
 ·rename_i hc;split
  ·exact self
  ·rename_i l aP;split
   ·exact self
   ·rename_i r cR;split
    ·exact self
    ·rename_i hr;simp only[not_or,Int.not_lt]at hc hr;obtain⟨op,n,name,field,sub,line⟩:=x;simp only[mU,ob,Ph]at hc aP cR⊢;obtain⟨k1,k2⟩:=Kn aP;have UF:=hf;simp only[bk,Bool.and_eq_true,decide_eq_true_eq]at UF;obtain⟨_,hlen,_,_,fq⟩:=UF;have CT:=hl;simp only[eG,Bool.and_eq_true]at CT;have Tp:∀y∈sub,eG y=true:=by
      have:∀l:List Ex,ef l=true→∀y∈l,eG y=true:=by
       intro l;induction l with
       |nil=>intro _ y hy;simp at hy
       |cons z l ih=>
        intro h y hy;simp only[ef,Bool.and_eq_true]at h;rcases List.mem_cons.1 hy with rfl|hy
        ·exact h.1
        ·exact ih h.2 y hy
      exact this sub CT.2
     have mu:aC vs (.mk op n name field sub line)=qD vs op line sub:=by
      unfold aC;rw[if_neg (by omega),if_neg (by omega)]
     have m8:∀y∈sub,bk y=true:=(iU sub).1 fq;have Ko:∀y∈sub,(aC vs y).e=0:=by
      rw[mu]at he;intro y hy;match sub,hy,he,hlen with
      |[a],hy,he,_=>
       simp at hy;subst hy;exact (gY he).1
      |[a,b],hy,he,_=>
       simp at hy;rcases hy with rfl|rfl
       ·exact (gY he).1
       ·exact (gY he).2.1
      |a::b::c::d,hy,he,hlen=>
       exfalso;simp only[dE]at hlen;split at hlen
       ·simp at hlen
       ·split at hlen<;>simp at hlen
     have jS:∀p∈l, -9223372036854775808≤p.1∧p.1≤9223372036854775807:=by
      intro p hp;obtain⟨i,hi⟩:=List.getElem?_of_mem hp;have cg:=(List.getElem?_eq_some_iff.1 hi).1;have hy:∃y,sub[i]?=some y:=⟨sub[i]'(by omega),by simp[show i<sub.length by omega]⟩
      obtain⟨y,hy⟩:=hy;have hm:=List.mem_of_getElem? hy;exact (Qw (k2 i y p hy hi) (m8 y hm) (Tp y hm) (Ko y hm)).2
     obtain⟨q1,q2,q3⟩:=aaQ cR jS (by simpa using hr.1);have Vy:=Wo vs (n:=r.1) (t:=r.2.1) (line:=line) (by rw[q1];exact q2) q3 (fun h=>hr.2 h);refine⟨Vy.1,Vy.2.1,?_,by rw[Vy.2.2.2];rfl⟩;rw[Vy.2.2.1,q1,mu];rw[mu]at he;have key:qD vs op line sub=eN (gG op):=by
      match sub,he,hlen with
      |[a],he,_=>exact (gY he).2.2.2.2
      |[a,b],he,_=>exact (gY he).2.2.2.2
      |[],he,hlen=>
       exfalso;simp only[dE,List.length_nil]at hlen;split at hlen
       ·simp at hlen
       ·split at hlen
        ·simp at hlen
        ·omega
      |a::b::c::d,he,hlen=>
       exfalso;simp only[dE]at hlen;split at hlen
       ·simp at hlen
       ·split at hlen<;>simp at hlen
     rw[key];unfold gG;by_cases h:op=6∨(8≤op∧op≤12)<;>simp[h]
theorem yB {op n:Int} {name field:Tx} {sub:List Ex} {line:Int} (h:bk (.mk op n name field sub line)=true):sub.length=dE op∧bA sub=true:=by
 simp only[bk,Bool.and_eq_true,decide_eq_true_eq]at h;exact⟨h.2.1,h.2.2.2.2⟩
theorem CD {vs:List Vr} {op n:Int} {name field:Tx} {sub:List Ex} {line:Int} (hf:bk (.mk op n name field sub line)=true) (he:(aC vs (.mk op n name field sub line)).e=0):∀y∈sub,(aC vs y).e=0:=by
 obtain⟨hlen,_⟩:=yB hf;intro y hy;unfold aC at he;by_cases kP:op=1∨op=2
 ·have hs:sub=[]:=List.eq_nil_of_length_eq_zero (by rw[hlen];unfold dE;rcases kP with h|h<;>subst h<;>decide);subst hs;simp at hy
 ·rw[if_neg kP]at he;by_cases rP:op=3∨op=4∨op=5
  ·rw[if_pos rP]at he;by_cases h4:op=4
   ·subst h4;obtain⟨z,rfl⟩:∃z,sub=[z]:=by
     match sub,hlen with
     |[z],_=>exact⟨z,rfl⟩
     |[],h=>simp[dE]at h
     |_::_::_,h=>simp[dE]at h
    simp at hy;subst hy;split at he
    ·simp[cA]at he
    ·rw[if_neg (by decide)]at he;split at he
     ·simp[cA]at he
     ·rw[if_pos rfl]at he;simp only[ug]at he;by_cases hz:(aC vs y).e=0
      ·exact hz
      ·rw[if_pos hz]at he;exact absurd he hz
   ·have hs:sub=[]:=List.eq_nil_of_length_eq_zero (by rw[hlen];unfold dE;rw[if_neg (by omega),if_neg (by omega)]);subst hs;simp at hy
  ·rw[if_neg rP]at he;match sub,hy,he,hlen with
   |[a],hy,he,_=>
    simp at hy;subst hy;exact (gY he).1
   |[a,b],hy,he,_=>
    simp at hy;rcases hy with rfl|rfl
    ·exact (gY he).1
    ·exact (gY he).2.1
   |a::b::c::d,hy,he,hlen=>
    exfalso;simp only[dE]at hlen;split at hlen
    ·simp at hlen
    ·split at hlen<;>simp at hlen
theorem Wp {op n:Int} {name field:Tx} {sub:List Ex} {line:Int} (h:eG (.mk op n name field sub line)=true):(-9223372036854775808≤n∧n≤9223372036854775807)∧ef sub=true:=by
 simp only[eG,Bool.and_eq_true,decide_eq_true_eq]at h;exact h
theorem sN:∀l:List Ex,ef l=true↔∀x∈l,eG x=true
 |[]=>by simp[ef]
 |x::r=>by simp[ef,sN r]
section
variable {vs:List Vr}
theorem Wq {op n:Int} {name field:Tx} {sub xL:List Ex} {line:Int} (hl:xL.length=sub.length) (h:∀(i:Nat) x y,sub[i]?=some x→xL[i]?=some y→aC vs y=aC vs x∧jH y=jH x):
 aC vs (.mk op n name field xL line)=aC vs (.mk op n name field sub line):=by
 unfold aC;have hI:∀t,ug vs t xL=ug vs t sub:=by
  intro t;match sub,xL,hl,h with
  |[],[],_,_=>rfl
  |x::r,y::q,_,h=>
   obtain⟨h1,h2⟩:=h 0 x y rfl rfl;simp only[ug,h1,h2]
 have hO:qD vs op line xL=qD vs op line sub:=by
  match sub,xL,hl,h with
  |[],[],_,_=>rfl
  |[x],[y],_,h=>
   obtain⟨h1,h2⟩:=h 0 x y rfl rfl;simp only[qD,h1]
  |x::x'::r,y::y'::q,_,h=>
   obtain⟨h1,_⟩:=h 0 x y rfl rfl;obtain⟨h2,_⟩:=h 1 x' y' rfl rfl;simp only[qD,h1,h2]
 rw[hO];simp only[hI]
theorem BL:∀x:Ex,bk x=true→eG x=true→(aC vs x).e=0→Kp vs x (cU x)
 | .mk op n name field sub line,hf,hl,he=>by
  obtain⟨f1,f2⟩:=yB hf;obtain⟨l1,l2⟩:=Wp hl;have hs:=CD hf he;have ih:∀y∈sub,Kp vs y (cU y):=fun y hy=>BL y ((iU sub).1 f2 y hy) ((sN sub).1 l2 y hy) (hs y hy);have hlen:(cP sub).length=sub.length:=by rw[lY];simp
  have m8:bk (.mk op n name field (cP sub) line)=true:=by
   have fq:bA (cP sub)=true:=by
    rw[iU,lY];intro y hy;obtain⟨z,hz,rfl⟩:=List.mem_map.1 hy;exact (ih z hz).1
   simp only[bk,Bool.and_eq_true]at hf⊢;refine⟨hf.1,?_,hf.2.2.1,hf.2.2.2.1,fq⟩;rw[hlen];exact hf.2.1
  have Tp:eG (.mk op n name field (cP sub) line)=true:=by
   simp only[eG,Bool.and_eq_true,decide_eq_true_eq];refine⟨l1,?_⟩;rw[sN,lY];intro y hy;obtain⟨z,hz,rfl⟩:=List.mem_map.1 hy;exact (ih z hz).2.1
  have mu:aC vs (.mk op n name field (cP sub) line)=aC vs (.mk op n name field sub line):=by
   refine Wq hlen fun i x y hx hy=>?_;rw[lY,List.getElem?_map,hx]at hy;cases hy;have:=ih x (List.mem_of_getElem? hx);exact this.2.2
  have:=aaR (vs:=vs) m8 Tp (by rw[mu];exact he);obtain⟨k1,k2,k3,k4⟩:=this;exact⟨k1,k2,k3.trans mu,k4⟩
termination_by x=>SizeOf.sizeOf x
decreasing_by all_goals (simp_wf;have:=List.sizeOf_lt_of_mem hy;omega)
end
theorem b5 {a b:EL}:(eX a b).1=0↔a.1=0∧b.1=0:=by
 unfold eX;by_cases h:a.1=0
 ·rw[if_neg (fun h'=>h' h)];simp[h]
 ·rw[if_pos h];simp[h]
theorem nD {vs:List Vr} {x:Ex} {t:Int}:(dk vs x t).1=0↔(aC vs x).e=0∧(aC vs x).t=t:=by
 unfold dk;by_cases h:(aC vs x).e=0
 ·rw[if_neg (fun h'=>h' h)];by_cases h2:(aC vs x).t=t
  ·rw[if_neg (fun h'=>h' h2)];simp[h,h2]
  ·rw[if_pos h2];simp[h2]
 ·rw[if_pos h];simp[h]
theorem Kq {x:Ex} (h:dF x=true):cU x=x:=by
 obtain⟨op,n,name,field,sub,line⟩:=x;simp only[dF,mU,uf,xE,Gk,ob,Bool.and_eq_true]at h;obtain⟨h1,h2,h3⟩:=h;have h1:op=0:=of_decide_eq_true h1;have h3:=of_decide_eq_true h3;have hs:sub=[]:=List.eq_nil_of_length_eq_zero (by omega);subst h1 hs;simp[cU,cP,kz]
theorem aaS {op n:Int} {name field:Tx} {sub:List Ex} {line:Int} (h:op<6):cU (.mk op n name field sub line)=.mk op n name field (cP sub) line:=by
 show kz _=_;unfold kz;rw[if_pos (.inl (by simpa using h))]
section
variable {vs:List Vr}
theorem rb {x:Ex} {t:Int} (hf:bk x=true) (hl:eG x=true) (h:(dk vs x t).1=0):bk (cU x)=true∧eG (cU x)=true∧(dk vs (cU x) t).1=0:=by
 obtain⟨h1,h2⟩:=nD.1 h;obtain⟨k1,k2,k3,_⟩:=BL x hf hl h1;exact⟨k1,k2,nD.2 (by rw[k3];exact⟨h1,h2⟩)⟩
theorem GM {t:Int}:∀l:List Ex,bA l=true→ef l=true→(kp vs t l).1=0→bA (cP l)=true∧ef (cP l)=true∧(kp vs t (cP l)).1=0
 |[],_,_,_=>⟨rfl,rfl,rfl⟩
 |x::r,hf,hl,h=>by
  simp only[bA,ef,Bool.and_eq_true]at hf hl;obtain⟨h1,h2⟩:=b5.1 h;obtain⟨a1,a2,a3⟩:=rb hf.1 hl.1 h1;obtain⟨b1,b2,b3⟩:=GM r hf.2 hl.2 h2;simp only[cP,bA,ef,Bool.and_eq_true];exact⟨⟨a1,b1⟩,⟨a2,b2⟩,b5.2 ⟨a3,b3⟩⟩
theorem Kr {k line:Int}:∀(fs:List Tx) (xs:List Ex) (p:List Tx),xs.length=fs.length→bA xs=true→ef xs=true→(iC vs k line fs xs p).1=0→bA (cP xs)=true∧ef (cP xs)=true∧(iC vs k line fs (cP xs) p).1=0
 |[],[],p,_,_,_,_=>⟨rfl,rfl,rfl⟩
 |f::fs,x::xs,p,hlen,hf,hl,h=>by
  simp only[bA,ef,Bool.and_eq_true]at hf hl;unfold iC at h;simp only[cP,bA,ef,Bool.and_eq_true];unfold iC;cases hp:kG k f with
  |none=>rw[hp]at h;simp at h
  |some q=>
   rw[hp]at h;simp only at h⊢;split at h
   ·simp at h
   ·rename_i h1;split at h
    ·simp at h
    ·rename_i h2;obtain⟨h3,h4⟩:=b5.1 h;obtain⟨a1,a2,a3⟩:=rb hf.1 hl.1 h3;obtain⟨b1,b2,b3⟩:=Kr fs xs (p++[f]) (by simpa using hlen) hf.2 hl.2 h4;rw[if_neg h1,if_neg h2];exact⟨⟨a1,b1⟩,⟨a2,b2⟩,b5.2 ⟨a3,b3⟩⟩
 |[],_::_,_,hl,_,_,_=>by simp at hl
 |_::_,[],_,hl,_,_,_=>by simp at hl
theorem GN:∀l:List (List Sm),(ir l).length=l.length
 |[]=>rfl
 |b::r=>by simp[ir,GN r]
theorem Tq (l:List Ex):(cP l).length=l.length:=by rw[lY];simp
theorem Tr {x:Ex} (h:bk x=true):dF x=false:=by
 obtain⟨op,n,name,field,sub,line⟩:=x;simp only[bk,Bool.and_eq_true,Bool.not_eq_true',decide_eq_false_iff_not]at h;have:op≠0:=by
  intro e;apply h.1;omega
 simp[dF,this]
theorem afi {to val:Ex} {line:Int} (h3:bO to=3∨bO to=4) (f1:bk to=true) (f2:bk val=true) (l1:eG to=true) (l2:eG val=true) (h:(BE vs to val line).1=0):
 (bk (cU to)=true∧bk (cU val)=true)∧(eG (cU to)=true∧eG (cU val)=true)∧(BE vs (cU to) (cU val) line).1=0∧bO (cU to)=bO to:=by
 have cF:cU to=.mk (bO to) (ia to) (dB to) (fw to) (cP (cO to)) (jH to):=by
  obtain⟨op,n,name,field,sub,l⟩:=to;simp only[mU]at h3;exact aaS (by omega)
 have ha:dB (cU to)=dB to:=by rw[cF];rfl
 have ho:bO (cU to)=bO to:=by rw[cF];rfl
 unfold BE at h⊢;rw[ha];cases hv:bf vs (dB to)with
 |none=>rw[hv]at h;simp at h
 |some v=>
  rw[hv]at h;simp only at h⊢;split at h
  ·simp at h
  ·rename_i hs;rw[if_neg hs];obtain⟨q1,q2⟩:=b5.1 h;obtain⟨q2,q3⟩:=b5.1 q2;obtain⟨a1,a2,a3,_⟩:=BL to f1 l1 q1;obtain⟨b1,b2,b3,_⟩:=BL val f2 l2 q2;refine⟨⟨a1,b1⟩,⟨a2,b2⟩,?_,ho⟩;rw[a3,b3];exact h
end
section
variable {vs:List Vr}
mutual
theorem aaT (loops:Bool):∀s:Sm,ji s=true→ot s=true→(jU vs loops s).1=0→ji (qF s)=true∧ot (qF s)=true∧(jU vs loops (qF s)).1=0
 | .mk op name to val conds labels fields blocks line,hf,hl,h=>by
  simp only[ji,Bool.and_eq_true,decide_eq_true_eq]at hf;obtain⟨cR,eT,cF,cB,eP,bY,um,uo,eU⟩:=hf;simp only[ot,Bool.and_eq_true]at hl;obtain⟨lto,GO,GP,Wr,uq⟩:=hl
  --ahT anx to be shown,from its parts
  have fin:(if op=1 then decide (bO (cU to)=3∨bO (cU to)=4)&&bk (cU to)else dF (cU to))=true→
   (if op=1∨op=3∨op=5∨op=6 then !dF (cU val)&&bk (cU val)else dF (cU val))=true→bA (cP conds)=true→cK (ir blocks)=true→
   eG (cU to)=true→eG (cU val)=true→ef (cP conds)=true→ij (ir blocks)=true→
   (jU vs loops (.mk op name (cU to) (cU val) (cP conds) labels fields (ir blocks) line)).1=0→
   ji (qF (.mk op name to val conds labels fields blocks line))=true∧ot (qF (.mk op name to val conds labels fields blocks line))=true∧(jU vs loops (qF (.mk op name to val conds labels fields blocks line))).1=0:=by
   intro a1 a2 a3 a4 a5 a6 a7 a8 a9;simp only[qF,ji,ot,Bool.and_eq_true,decide_eq_true_eq,Tq,GN];exact⟨⟨cR,eT,a1,a2,a3,bY,um,uo,a4⟩,⟨a5,a6,a7,Wr,a8⟩,a9⟩
  have tn:¬op=1→(if op=1 then decide (bO (cU to)=3∨bO (cU to)=4)&&bk (cU to)else dF (cU to))=true∧eG (cU to)=true:=by
   intro h1;rw[if_neg h1]at cF⊢;rw[Kq cF];exact⟨cF,lto⟩
  have vn:¬(op=1∨op=3∨op=5∨op=6)→(if op=1∨op=3∨op=5∨op=6 then !dF (cU val)&&bk (cU val)else dF (cU val))=true∧eG (cU val)=true:=by
   intro h1;rw[if_neg h1]at cB⊢;rw[Kq cB];exact⟨cB,GO⟩
  have vv:(op=1∨op=3∨op=5∨op=6)→bk (cU val)=true→(if op=1∨op=3∨op=5∨op=6 then !dF (cU val)&&bk (cU val)else dF (cU val))=true:=by
   intro h1 h2;rw[if_pos h1,Tr h2,h2];rfl
  have vf:(op=1∨op=3∨op=5∨op=6)→bk val=true:=by
   intro h1;rw[if_pos h1]at cB;simp only[Bool.and_eq_true]at cB;exact cB.2
  unfold jU at h;by_cases h1:op=1
  ·subst h1;rw[if_pos rfl]at h;have hs:cm 1 conds.length labels.length fields.length blocks.length=true:=bY;simp[cm]at hs;obtain⟨rfl,_,_,rfl⟩:=hs;rw[if_pos rfl]at cF;simp only[Bool.and_eq_true,decide_eq_true_eq]at cF;obtain⟨⟨k1,k2⟩,⟨k3,k4⟩,k5,k6⟩:=afi cF.1 cF.2 (vf (.inl rfl)) lto GO h;refine fin (by rw[if_pos rfl,k6,k1];simp[cF.1]) (vv (.inl rfl) k2) rfl rfl k3 k4 rfl rfl ?_;unfold jU;rw[if_pos rfl];exact k5
  ·rw[if_neg h1]at h;obtain⟨t1,t2⟩:=tn h1;by_cases h2:op=2
   ·subst h2;rw[if_pos rfl]at h;have hs:cm 2 conds.length labels.length fields.length blocks.length=true:=bY;simp[cm]at hs;obtain⟨v1,v2⟩:=vn (by decide);obtain⟨c1,c2,b1,b2,cb⟩:=BM loops conds blocks eP GP eU uq (by omega) h;refine fin t1 v1 c1 b1 t2 v2 c2 b2 ?_;unfold jU;rw[if_neg h1,if_pos rfl];exact cb
   ·rw[if_neg h2]at h;by_cases h3:op=3
    ·subst h3;rw[if_pos rfl]at h;have hs:cm 3 conds.length labels.length fields.length blocks.length=true:=bY;simp[cm]at hs;obtain⟨rfl,_⟩:=hs;obtain⟨q1,q2⟩:=b5.1 h;obtain⟨v1,v2,v3⟩:=rb (vf (.inr (.inl rfl))) GO q1;obtain⟨c1,c2,b1,b2,cb⟩:=BM loops [] blocks rfl rfl eU uq (by simp) q2;refine fin t1 (vv (.inr (.inl rfl)) v1) rfl b1 t2 v2 rfl b2 ?_;unfold jU;rw[if_neg h1,if_neg h2,if_pos rfl];exact b5.2 ⟨v3,cb⟩
    ·rw[if_neg h3]at h;by_cases h4:op=4
     ·subst h4;rw[if_pos rfl]at h;have hs:cm 4 conds.length labels.length fields.length blocks.length=true:=bY;simp[cm]at hs;obtain⟨_,_,_,gA⟩:=hs;obtain⟨v1,v2⟩:=vn (by decide);cases hv:bf vs name with
      |none=>rw[hv]at h;simp at h
      |some v=>
       rw[hv]at h;simp only at h;split at h
       ·simp at h
       ·rename_i g1;split at h
        ·simp at h
        ·rename_i g2;obtain⟨q1,q2⟩:=b5.1 h;obtain⟨c1,c2,c3⟩:=GM conds eP GP q1;obtain⟨b1,b2,b3⟩:=GQ blocks eU uq gA q2;refine fin t1 v1 c1 b1 t2 v2 c2 b2 ?_;unfold jU;rw[if_neg h1,if_neg h2,if_neg h3,if_pos rfl,hv];simp only
         rw[if_neg g1,if_neg g2];exact b5.2 ⟨c3,b3⟩
     ·rw[if_neg h4]at h;by_cases h5:op=5
      ·subst h5;rw[if_pos rfl]at h;have hs:cm 5 conds.length labels.length fields.length blocks.length=true:=bY;simp[cm]at hs;obtain⟨rfl,_,_,gA⟩:=hs;obtain⟨q1,q2⟩:=b5.1 h;obtain⟨v1,v2,v3⟩:=rb (vf (.inr (.inr (.inl rfl)))) GO q1;obtain⟨b1,b2,b3⟩:=GQ blocks eU uq gA q2;refine fin t1 (vv (.inr (.inr (.inl rfl))) v1) rfl b1 t2 v2 rfl b2 ?_;unfold jU;rw[if_neg h1,if_neg h2,if_neg h3,if_neg h4,if_pos rfl];exact b5.2 ⟨v3,b3⟩
      ·rw[if_neg h5]at h;by_cases h6:op=6
       ·subst h6;rw[if_pos rfl]at h;have hs:cm 6 conds.length labels.length fields.length blocks.length=true:=bY;simp[cm]at hs;obtain⟨rfl,_,_,gA⟩:=hs;obtain⟨q1,q2⟩:=b5.1 h;obtain⟨v1,v2,v3⟩:=rb (vf (.inr (.inr (.inr rfl)))) GO q2;obtain⟨b1,b2,b3⟩:=GQ blocks eU uq gA q1;refine fin t1 (vv (.inr (.inr (.inr rfl))) v1) rfl b1 t2 v2 rfl b2 ?_;unfold jU;rw[if_neg h1,if_neg h2,if_neg h3,if_neg h4,if_neg h5,if_pos rfl];exact b5.2 ⟨b3,v3⟩
       ·rw[if_neg h6]at h;obtain⟨v1,v2⟩:=vn (by omega);by_cases h7:op=7
        ·subst h7;rw[if_pos rfl]at h;have hs:cm 7 conds.length labels.length fields.length blocks.length=true:=bY;simp[cm]at hs;obtain⟨rfl,_,_,rfl⟩:=hs;refine fin t1 v1 rfl rfl t2 v2 rfl rfl ?_;unfold jU;rw[if_neg h1,if_neg h2,if_neg h3,if_neg h4,if_neg h5,if_neg h6,if_pos rfl];exact h
        ·rw[if_neg h7]at h;by_cases h9:op=9
         ·subst h9;rw[if_pos rfl]at h;have hs:cm 9 conds.length labels.length fields.length blocks.length=true:=bY;simp[cm]at hs;obtain⟨hcf,_,rfl⟩:=hs;cases hv:bf vs name with
          |none=>rw[hv]at h;simp at h
          |some v=>
           rw[hv]at h;simp only at h;split at h
           ·simp at h
           ·rename_i g1;obtain⟨c1,c2,c3⟩:=Kr fields conds [] hcf eP GP h;refine fin t1 v1 c1 rfl t2 v2 c2 rfl ?_;unfold jU;rw[if_neg h1,if_neg h2,if_neg h3,if_neg h4,if_neg h5,if_neg h6,if_neg h7,if_pos rfl,hv];simp only
            rw[if_neg g1];exact c3
         ·have h8:op=8:=by omega
          subst h8;have hs:cm 8 conds.length labels.length fields.length blocks.length=true:=bY;simp[cm]at hs;obtain⟨rfl,_,_,rfl⟩:=hs;refine fin t1 v1 rfl rfl t2 v2 rfl rfl ?_;unfold jU;simp
theorem rf (loops:Bool):∀l:List Sm,en l=true→iQ l=true→(eA vs loops l).1=0→en (dD l)=true∧iQ (dD l)=true∧(eA vs loops (dD l)).1=0
 |[],_,_,_=>⟨rfl,rfl,rfl⟩
 |x::r,hf,hl,h=>by
  simp only[en,iQ,Bool.and_eq_true]at hf hl;obtain⟨h1,h2⟩:=b5.1 h;obtain⟨a1,a2,a3⟩:=aaT loops x hf.1 hl.1 h1;obtain⟨b1,b2,b3⟩:=rf loops r hf.2 hl.2 h2;simp only[dD,en,iQ,Bool.and_eq_true];exact⟨⟨a1,b1⟩,⟨a2,b2⟩,b5.2 ⟨a3,b3⟩⟩
theorem BM (loops:Bool):∀(cs:List Ex) (l:List (List Sm)),bA cs=true→ef cs=true→cK l=true→ij l=true→cs.length≤l.length→(fB vs loops cs l).1=0→
 bA (cP cs)=true∧ef (cP cs)=true∧cK (ir l)=true∧ij (ir l)=true∧(fB vs loops (cP cs) (ir l)).1=0
 |[],[],_,_,_,_,_,_=>⟨rfl,rfl,rfl,rfl,rfl⟩
 |[],b::r,c1,c2,hf,hl,_,h=>by
  simp only[cK,ij,Bool.and_eq_true]at hf hl;obtain⟨h1,h2⟩:=b5.1 h;obtain⟨a1,a2,a3⟩:=rf loops b hf.1 hl.1 h1;obtain⟨_,_,b1,b2,b3⟩:=BM loops [] r rfl rfl hf.2 hl.2 (by simp) h2;simp only[cP,ir,bA,ef,cK,ij,Bool.and_eq_true];exact⟨trivial,trivial,⟨a1,b1⟩,⟨a2,b2⟩,b5.2 ⟨a3,b3⟩⟩
 |c::cs,b::r,c1,c2,hf,hl,hlen,h=>by
  simp only[cK,ij,Bool.and_eq_true]at hf hl;simp only[bA,ef,Bool.and_eq_true]at c1 c2;obtain⟨h0,h3⟩:=b5.1 h;obtain⟨h1,h2⟩:=b5.1 h3;obtain⟨q1,q2,q3⟩:=rb c1.1 c2.1 h0;obtain⟨a1,a2,a3⟩:=rf loops b hf.1 hl.1 h1;obtain⟨d1,d2,b1,b2,b3⟩:=BM loops cs r c1.2 c2.2 hf.2 hl.2 (by simpa using hlen) h2;simp only[cP,ir,bA,ef,cK,ij,Bool.and_eq_true];exact⟨⟨q1,d1⟩,⟨q2,d2⟩,⟨a1,b1⟩,⟨a2,b2⟩,b5.2 ⟨q3,b5.2 ⟨a3,b3⟩⟩⟩
 |_::_,[],_,_,_,_,hlen,_=>by simp at hlen
theorem GQ:∀(l:List (List Sm)),cK l=true→ij l=true→l.length=1→(sH vs l).1=0→cK (ir l)=true∧ij (ir l)=true∧(sH vs (ir l)).1=0
 |[b],hf,hl,_,h=>by
  simp only[cK,ij,Bool.and_true]at hf hl;obtain⟨a1,a2,a3⟩:=rf true b hf hl h;simp only[ir,cK,ij,Bool.and_true];exact⟨a1,a2,a3⟩
 |[],_,_,hl,_=>by simp at hl
 |_::_::_,_,_,hl,_=>by simp at hl
end
end
inductive MC (vs:List Vr) (lp:Bool):Sm→Prop
 |asg {to val:Ex} {line:Int} {v:Vr} (cF:bO to=3∨bO to=4) (hv:bf vs (dB to)=some v) (hs:¬v.sec=1) (ft:bk to=true) (et:(aC vs to).e=0) (fv:bk val=true) (ev:(aC vs val).e=0) (h:(aC vs val).t=(aC vs to).t):MC vs lp (.mk 1 [] to val [] [] [] [] line)
 |cnd {to val:Ex} {conds:List Ex} {blocks:List (List Sm)} {line:Int} (cF:dF to=true) (cB:dF val=true) (fc:bA conds=true) (h1:1≤conds.length) (h2:conds.length≤blocks.length) (h3:blocks.length≤conds.length+1) (fb:cK blocks=true) (h:(fB vs lp conds blocks).1=0):MC vs lp (.mk 2 [] to val conds [] [] blocks line)
 |cas {to val:Ex} {labels:List (List Int)} {blocks:List (List Sm)} {line:Int} (cF:dF to=true) (fv:bk val=true) (wv:(dk vs val 1).1=0) (h2:labels.length≤blocks.length) (h3:blocks.length≤labels.length+1) (Ap:labels.all pf=true) (fb:cK blocks=true) (h:(fB vs lp [] blocks).1=0):MC vs lp (.mk 3 [] to val [] labels [] blocks line)
 |cnt {name:Tx} {to val x y z:Ex} {b:List Sm} {line:Int} {v:Vr} (hn:cY name=true) (cF:dF to=true) (cB:dF val=true) (hv:bf vs name=some v) (hs:¬v.sec=1) (ha:v.arr=false) (ht:v.ty=1) (fx:bk x=true) (wx:(dk vs x 1).1=0) (fy:bk y=true) (wy:(dk vs y 1).1=0) (fz:bk z=true) (wz:(dk vs z 1).1=0) (fb:en b=true) (h:(eA vs true b).1=0):MC vs lp (.mk 4 name to val [x,y,z] [] [] [b] line)
 |whl {to val:Ex} {b:List Sm} {line:Int} (cF:dF to=true) (fv:bk val=true) (wv:(dk vs val 2).1=0) (fb:en b=true) (h:(eA vs true b).1=0):MC vs lp (.mk 5 [] to val [] [] [] [b] line)
 |rep {to val:Ex} {b:List Sm} {line:Int} (cF:dF to=true) (fv:bk val=true) (wv:(dk vs val 2).1=0) (fb:en b=true) (h:(eA vs true b).1=0):MC vs lp (.mk 6 [] to val [] [] [] [b] line)
 |ext {to val:Ex} {line:Int} (cF:dF to=true) (cB:dF val=true) (h:lp=true):MC vs lp (.mk 7 [] to val [] [] [] [] line)
 |ret {to val:Ex} {line:Int} (cF:dF to=true) (cB:dF val=true):MC vs lp (.mk 8 [] to val [] [] [] [] line)
 |cal {name:Tx} {to val:Ex} {conds:List Ex} {fields:List Tx} {line:Int} {v:Vr} (hn:cY name=true) (cF:dF to=true) (cB:dF val=true) (hv:bf vs name=some v) (ht:2<v.ty) (fc:bA conds=true) (hl:conds.length=fields.length) (hf:fields.all cY=true) (h:(iC vs v.ty line fields conds []).1=0):MC vs lp (.mk 9 name to val conds [] fields [] line)
theorem rQ {α:Type} {l:List α} (h:l.length=0):l=[]:=List.eq_nil_of_length_eq_zero h
theorem CE {α:Type} {l:List α} (h:l.length=1):∃a,l=[a]:=by
 match l,h with
 |[a],_=>exact⟨a,rfl⟩
theorem alx {α:Type} {l:List α} (h:l.length=3):∃a b c,l=[a,b,c]:=by
 match l,h with
 |[a,b,c],_=>exact⟨a,b,c,rfl⟩
theorem Nv {vs:List Vr} {b:List Sm} (h:(sH vs [b]).1=0):(eA vs true b).1=0:=by simpa [sH]using h
theorem Ks {vs:List Vr} {lp:Bool} {x:Sm} (hf:ji x=true) (h:(jU vs lp x).1=0):MC vs lp x:=by
 obtain⟨op,name,to,val,conds,labels,fields,blocks,line⟩:=x;simp only[ji,Bool.and_eq_true]at hf;obtain⟨cR,eT,cF,cB,eP,bY,um,uo,eU⟩:=hf;simp only[decide_eq_true_eq]at cR;unfold jU at h;have hc:op=1∨op=2∨op=3∨op=4∨op=5∨op=6∨op=7∨op=8∨op=9:=by omega
 rcases hc with rfl|rfl|rfl|rfl|rfl|rfl|rfl|rfl|rfl
 ·simp[cm]at eT cF cB bY h;obtain⟨rfl,rfl,rfl,rfl⟩:=bY;subst eT;unfold BE at h;cases hv:bf vs (dB to)with
  |none=>rw[hv]at h;simp at h
  |some v=>
   rw[hv]at h;simp only at h;by_cases hs:v.sec=1
   ·simp[hs]at h
   ·rw[if_neg hs]at h;obtain⟨h1,h2⟩:=b5.1 h;obtain⟨h2,h3⟩:=b5.1 h2;refine .asg cF.1 hv hs cF.2 h1 cB.2 h2 ?_;apply Classical.byContradiction;intro hh;rw[if_pos hh]at h3;simp at h3
 ·simp[cm]at eT cF cB bY h;obtain⟨h1,h2,h3,h4,h5⟩:=bY;subst eT h2 h3;exact .cnd cF cB eP (by omega) (by omega) (by omega) eU h
 ·simp[cm]at eT cF cB bY h;obtain⟨h1,h3,h4,h5⟩:=bY;subst eT h1 h3;obtain⟨g1,g2⟩:=b5.1 h;exact .cas cF cB.2 g1 (by omega) (by omega) uo eU g2
 ·simp[cm]at eT cF cB bY h;obtain⟨h1,h2,h3,h4⟩:=bY;obtain⟨x,y,z,rfl⟩:=alx h1;obtain⟨b,rfl⟩:=CE h4;subst h2 h3;cases hv:bf vs name with
  |none=>rw[hv]at h;simp at h
  |some v=>
   rw[hv]at h;simp only at h;by_cases hs:v.sec=1
   ·simp[hs]at h
   ·rw[if_neg hs]at h;by_cases ha:v.arr=true∨¬v.ty=1
    ·rw[if_pos ha]at h;simp at h
    ·rw[if_neg ha]at h;simp only[not_or,Bool.not_eq_true,Classical.not_not]at ha;obtain⟨g1,g2⟩:=b5.1 h;simp only[kp]at g1;obtain⟨w1,g1⟩:=b5.1 g1;obtain⟨w2,g1⟩:=b5.1 g1;obtain⟨w3,g1⟩:=b5.1 g1;simp only[bA,Bool.and_eq_true]at eP;simp only[cK,Bool.and_eq_true]at eU;exact .cnt eT cF cB hv hs ha.1 ha.2 eP.1 w1 eP.2.1 w2 eP.2.2.1 w3 eU.1 (Nv g2)
 ·simp[cm]at eT cF cB bY h;obtain⟨h1,h2,h3,h4⟩:=bY;obtain⟨b,rfl⟩:=CE h4;subst eT h1 h2 h3;obtain⟨g1,g2⟩:=b5.1 h;simp only[cK,Bool.and_eq_true]at eU;exact .whl cF cB.2 g1 eU.1 (Nv g2)
 ·simp[cm]at eT cF cB bY h;obtain⟨h1,h2,h3,h4⟩:=bY;obtain⟨b,rfl⟩:=CE h4;subst eT h1 h2 h3;obtain⟨g1,g2⟩:=b5.1 h;simp only[cK,Bool.and_eq_true]at eU;exact .rep cF cB.2 g2 eU.1 (Nv g1)
 ·simp[cm]at eT cF cB bY h;obtain⟨h1,h2,h3,h4⟩:=bY;subst eT h1 h2 h3 h4;refine .ext cF cB ?_;cases lp with
  |true=>rfl
  |false=>simp at h
 ·simp[cm]at eT cF cB bY h;obtain⟨h1,h2,h3,h4⟩:=bY;subst eT h1 h2 h3 h4;exact .ret cF cB
 ·simp[cm]at eT cF cB bY h;obtain⟨h1,h2,h3⟩:=bY;subst h2 h3;cases hv:bf vs name with
  |none=>rw[hv]at h;simp at h
  |some v=>
   rw[hv]at h;simp only at h;by_cases ht:v.ty≤2
   ·rw[if_pos ht]at h;simp at h
   ·rw[if_neg ht]at h;exact .cal eT cF cB hv (by omega) eP h1 (List.all_eq_true.2 (by simpa using um)) h
end Go.Am
end
section
namespace Go.Am
theorem DP {pins:Int→Nat} {cells last:Int}:∀{ins:List aq} {i0:Nat},lS pins cells last i0 ins=true↔∀i x,ins[i]?=some x→cQ pins cells last ((i0+i:Nat):Int) x=true
 |[],i0=>by simp[lS]
 |y::r,i0=>by
  constructor
  ·intro h i x hx;exact sE h i x hx
  ·intro h;simp only[lS,Bool.and_eq_true];refine⟨by simpa using h 0 y rfl,DP.2 (fun i x hx=>?_)⟩;have:=h (i+1) x (by simpa using hx);rw[show i0+1+i=i0+(i+1) by omega];exact this
def ur (i:Nat) (x:aq):Bool:=decide (x.op=9∨x.op=10)&&decide (x.a.toNat=i)
theorem CF (i:Nat):∀(l:List aq) (T:List Bool),i<T.length→
 (l.foldl (fun l x=>if x.op=9∨x.op=10 then l.set x.a.toNat true else l) T).getD i false=(T.getD i false||l.any (ur i))
 |[],T,h=>by simp
 |x::r,T,h=>by
  simp only[List.foldl_cons,List.any_cons];by_cases e:x.op=9∨x.op=10
  ·rw[if_pos e,CF i r _ (by simpa using h)];have:(T.set x.a.toNat true).getD i false=(T.getD i false||ur i x):=by
    simp only[List.getD_eq_getElem?_getD,List.getElem?_set,ur,e,decide_true,Bool.true_and];by_cases h2:x.a.toNat=i
    ·subst h2;simp[h]
    ·simp[h2]
   rw[this,Bool.or_assoc]
  ·rw[if_neg e,CF i r _ h];simp[ur,e]
theorem Qx {ins:List aq} {i:Nat} (h:i<ins.length):(lC ins).getD i false=ins.any (ur i):=by
 unfold lC;rw[CF i ins _ (by simpa using h)];simp[List.getD_eq_getElem?_getD,h]
def Bd (succ:Nat→List Nat):Nat→Nat→Prop
 |0,i=>succ i=[]
 |h+1,i=>∀j∈succ i,Bd succ h j
theorem Bd.succ {succ:Nat→List Nat}:∀{h i:Nat},Bd succ h i→Bd succ (h+1) i
 |0,i,hb=>fun j hj=>by rw[show succ i=[]from hb]at hj;simp at hj
 |h+1,i,hb=>fun j hj=>(hb j hj).succ
theorem Bd.le {succ:Nat→List Nat} {h h' i:Nat} (hb:Bd succ h i) (hl:h≤h'):Bd succ h' i:=by
 induction hl with
 |refl=>exact hb
 |step _ ih=>exact ih.succ
theorem GR {succ:Nat→List Nat} {N:Nat} {r:Nat→Nat} (h:∀i<N,∀j∈succ i,j<N∧r j<r i):∀i<N,Ends succ i:=by
 have key:∀(m i:Nat),r i<m→i<N→Ends succ i:=by
  intro m;induction m with
  |zero=>intro i hi;omega
  |succ m ih=>
   intro i hi hN;exact .mk i (fun j hj=>ih j (by have:=(h i hN j hj).2;omega) (h i hN j hj).1)
 exact fun i hi=>key _ i (Nat.lt_succ_self _) hi
def eQ (x:aq):Prop:=x.op=9∨x.op=10
instance (x:aq):Decidable (eQ x):=inferInstanceAs (Decidable (_∨_))
structure Good (pins:Int→Nat) (cells:Int) (l:List aq) (r:Nat→Nat) (st:Nat→List Bool):Prop where
 len:1≤l.length∧l.length≤4096
 last:∀x,l[l.length-1]?=some x→x.op=15
 form:∀(i:Nat) x,l[i]?=some x→cQ pins cells ((l.length:Int)-1) i x=true
 st0:st 0=[]
 mv:∀(i:Nat) x,l[i]?=some x→bZ x (st i)=some (st (i+1))
 DI:∀(i:Nat) x,l[i]?=some x→eQ x→st x.a.toNat=[]
 aly:∀(i:Nat) x,l[i]?=some x→x.op≠11→∀j∈vk l i,r j<r i
theorem Good.tgt {pins cells l r st} (h:Good pins cells l r st) {i:Nat} {x:aq} (hx:l[i]?=some x) (hj:eQ x):0≤x.a∧x.a.toNat<l.length:=by
 have:=h.form i x hx;unfold cQ at this;have h1:=h.len.1;rcases hj with e|e
 ·simp[e]at this;omega
 ·simp[e]at this;omega
theorem Good.Ws {pins cells l r st} (h:Good pins cells l r st) {i:Nat} {x:aq} (hx:l[i]?=some x):x.op=15↔i+1=l.length:=by
 constructor
 ·intro e;have:=h.form i x hx;unfold cQ at this;simp[e]at this;have:=h.len.1;omega
 ·intro e;exact h.last x (by rw[show l.length-1=i by omega];exact hx)
theorem GS (DI:List Bool) (st:Nat→List Bool):∀(l:List aq) (i:Nat),(∀k x,l[k]?=some x→(DI.getD (i+k) false=true→st (i+k)=[])∧bZ x (st (i+k))=some (st (i+k+1)))→fH DI i l (st i)=true
 |[],i,_=>rfl
 |x::r,i,h=>by
  have h0:=h 0 x rfl;simp only[Nat.add_zero]at h0;unfold fH;rw[if_neg,h0.2]
  ·exact GS DI st r (i+1) (fun k y hy=>by
    have:=h (k+1) y (by simpa using hy);rw[show i+(k+1)=i+1+k by omega]at this;exact this)
  ·intro hc;simp only[Bool.and_eq_true,Bool.not_eq_true',List.isEmpty_eq_false_iff]at hc;exact hc.2 (h0.1 hc.1)
theorem Ts {pins cells l r st} (h:Good pins cells l r st) {i j:Nat} (hi:i<l.length) (hj:j∈vk l i):j<l.length:=by
 have hx:l[i]?=some l[i]:=by simp[hi]
 unfold vk at hj;rw[hx]at hj;simp only at hj;have uc:=h.Ws hx;by_cases e9:l[i].op=9
 ·have:=h.tgt hx (.inl e9);simp[e9]at hj;omega
 ·by_cases ma:l[i].op=10
  ·have:=h.tgt hx (.inr ma);simp[ma]at hj;omega
  ·by_cases BN:l[i].op=15
   ·simp[BN]at hj
   ·simp[e9,ma,BN]at hj;have:¬(i+1=l.length):=fun h=>BN (uc.2 h);omega
theorem afj {pins:Int→Nat} {l:List aq} {vars cells:Int} {r:Nat→Nat} {st:Nat→List Bool} (hv:0≤cells∧cells≤8192∧0≤vars∧vars≤cells) (h:Good pins cells l r st):xC pins l vars cells=true:=by
 have hf:km pins l vars cells=true:=by
  simp only[km,BC,Bool.and_eq_true,decide_eq_true_eq];have h1:=h.len;refine⟨⟨⟨⟨⟨⟨⟨by omega,by omega⟩,by omega⟩,by omega⟩,by omega⟩,by omega⟩,?_⟩,DP.2 (fun i x hx=>by simpa using h.form i x hx)⟩;unfold qc;rw[List.getLast?_eq_getElem?,List.getElem?_eq_getElem (by omega)];have:=h.last l[l.length-1] (by rw[List.getElem?_eq_getElem (by omega)]);simpa using this
 have hs:fH (lC l) 0 l []=true:=by
  have:=GS (lC l) st l 0 (fun k x hx=>by
   refine⟨fun Tt=>?_,by simpa using h.mv k x hx⟩;simp only[Nat.zero_add]at Tt⊢;have hk:=(List.getElem?_eq_some_iff.1 hx).1;rw[Qx hk,List.any_eq_true]at Tt;obtain⟨y,hy,Vz⟩:=Tt;unfold ur at Vz;simp only[Bool.and_eq_true,decide_eq_true_eq]at Vz;obtain⟨i,hi,rfl⟩:=List.getElem_of_mem hy;have:=h.DI i l[i] (by simp[hi]) Vz.1;rw[Vz.2]at this;exact this)
  rw[h.st0]at this;exact this
 have hr:rounds (fi l) (l.length+1) (List.range l.length) (List.replicate l.length 0)=false:=by
  cases hq:rounds (fi l) (l.length+1) (List.range l.length) (List.replicate l.length 0)with
  |false=>rfl
  |true=>
   obtain⟨i,hi,hn⟩:=(Pc hf).1 hq;refine absurd (GR (N:=l.length) (r:=r) (fun i hi j hj=>?_) i hi) hn;unfold sD at hj;split at hj
   ·simp at hj
   ·rename_i ht;refine⟨Ts h hi hj,h.aly i l[i] (by simp[hi]) (fun e=>ht ?_) j hj⟩;unfold gU;rw[List.getElem?_eq_getElem hi];simpa using e
 unfold xC;rw[hf,hs,hr];rfl
end Go.Am
end
section
namespace Go.Am
open Go
theorem GU {s:Tx} {v:Vr}:∀{l:List Vr} {n:Int},bf l s=some v→(oS l s n).2=v
 |x::r,n,h=>by
  unfold bf at h;unfold oS;split at h
  ·rename_i e;cases h;rw[if_pos e]
  ·rename_i e;rw[if_neg e];exact GU h
theorem iG {vs:List Vr} {s:Tx} {v:Vr} (h:bf vs s=some v):(cd vs s).2=v:=GU h
theorem DQ {s:Tx} {v:Vr}:∀{l:List Vr} {n:Int},(∀v∈l,0≤bH v)→bf l s=some v→n≤(oS l s n).1∧(oS l s n).1+bH v≤n+cf l
 |x::r,n,hc,h=>by
  have hx:=hc x (by simp);have hr:0≤cf r:=by
   have:∀l:List Vr,(∀v∈l,0≤bH v)→0≤cf l:=by
    intro l;induction l with
    |nil=>intro _;simp[cf]
    |cons y l ih=>intro h;have:=ih (fun v hv=>h v (by simp[hv]));have:=h y (by simp);simp only[cf];omega
   exact this r (fun v hv=>hc v (by simp[hv]))
  unfold bf at h;unfold oS;simp only[cf];split at h
  ·rename_i e;cases h;rw[if_pos e];simp only;omega
  ·rename_i e;rw[if_neg e];have:=DQ (n:=n+bH x) (fun v hv=>hc v (by simp[hv])) h;omega
theorem sO {vs:List Vr} {s:Tx} {v:Vr} (hc:∀v∈vs,0≤bH v) (h:bf vs s=some v):0≤(cd vs s).1∧(cd vs s).1+bH v≤cf vs:=by
 have:=DQ (n:=0) hc h;simp only[Int.zero_add]at this;exact this
theorem Wt:∀x∈Gl,∀p∈x.2,p.ty=1∨p.ty=2:=by decide
theorem DR {k:Int} {p:Pn}:∀{l:List (Int×List Pn)},p∈qW l k→∃x∈l,p∈x.2
 |(a,q)::r,h=>by
  unfold qW at h;split at h
  ·exact⟨(a,q),by simp,h⟩
  ·obtain⟨x,h1,h2⟩:=DR h;exact⟨x,by simp[h1],h2⟩
theorem Qy {k:Int} {p:Pn} (h:p∈bq k):p.ty=1∨p.ty=2:=by
 obtain⟨x,h1,h2⟩:=DR h;exact Wt x h1 p h2
theorem GW {f:Tx} {p:Pn}:∀{l:List Pn} {i:Nat},vo l f=some p→f≠[]∧p∈l∧∃j,xK l f i=some (j,p)∧i≤j∧j<i+l.length
 |q::r,i,h=>by
  unfold vo at h;unfold xK;split at h
  ·rename_i e;cases h;exact⟨e.2,by simp,i,by rw[if_pos e.1],by omega,by simp⟩
  ·rename_i e;obtain⟨h1,h2,j,h3,h4,h5⟩:=GW (i:=i+1) h;exact⟨h1,by simp[h2],j,by rw[if_neg (fun e'=>e ⟨e',h1⟩)];exact h3,by omega,by simp;omega⟩
theorem uu {vs:List Vr} {s f:Tx} {v:Vr} {p:Pn} (hv:bf vs s=some v) (ht:2<v.ty) (hp:kG v.ty f=some p):
 (iu vs s f).2=p∧p∈bq v.ty∧∃j:Nat,(iu vs s f).1=(cd vs s).1+j∧j<(bq v.ty).length:=by
 obtain⟨h1,h2,j,h3,_,h5⟩:=GW (i:=0) hp;have ha:=iG hv;unfold iu;rw[hv,ha,if_pos ⟨rfl,ht,h1⟩,h3];exact⟨rfl,h2,j,rfl,by omega⟩
def bW:List aq→List Bool→Option (List Bool)
 |[],S=>some S
 |x::r,S=>(bZ x S).bind (bW r)
theorem db:∀(a b:List aq) (S:List Bool),bW (a++b) S=(bW a S).bind (bW b)
 |[],b,S=>rfl
 |x::a,b,S=>by
  simp only[List.cons_append,bW];cases bZ x S with
  |none=>rfl
  |some S'=>exact db a b S'
theorem Qz {f:aq→aq} (h:∀x,f x=x∨((x.op=9∨x.op=10)∧(f x).op=x.op)) (x:aq) (S:List Bool):bZ (f x) S=bZ x S:=by
 rcases h x with e|⟨h1,h2⟩
 ·rw[e]
 ·rcases h1 with e|e
  ·have h2:(f x).op=9:=by rw[h2,e]
   simp[bZ,h2,e]
  ·have h2:(f x).op=10:=by rw[h2,e]
   simp[bZ,h2,e]
theorem pk {f:aq→aq} (h:∀x,f x=x∨((x.op=9∨x.op=10)∧(f x).op=x.op)):∀(l:List aq) (S:List Bool),bW (l.map f) S=bW l S
 |[],S=>rfl
 |x::r,S=>by
  simp only[List.map_cons,bW,Qz h];cases bZ x S with
  |none=>rfl
  |some S'=>exact pk h r S'
theorem QA (k:Nat) (x:aq):kR k x=x∨((x.op=9∨x.op=10)∧(kR k x).op=x.op):=by
 unfold kR;split
 ·rename_i h;exact .inr ⟨h.1,rfl⟩
 ·exact .inl rfl
theorem GX (k:Int) (x:aq):oT k x=x∨((x.op=9∨x.op=10)∧(oT k x).op=x.op):=by
 unfold oT;split
 ·rename_i h;exact .inr ⟨.inl h.1,rfl⟩
 ·exact .inl rfl
theorem GY (k:Int) (x:aq):mV k x=x∨((x.op=9∨x.op=10)∧(mV k x).op=x.op):=by
 unfold mV;split
 ·rename_i h;exact .inr ⟨.inl h.1,rfl⟩
 ·exact .inl rfl
theorem CG (k:Nat) (l:List aq) (S:List Bool):bW (ic k l) S=bW l S:=pk (QA k) l S
theorem kr {t:Bool} {S:List Bool} (h:S.length<64):dZ t S=some (S++[t]):=by unfold dZ;rw[if_pos h]
theorem xM (S:List Bool) (f:Bool):gX 1 false (S++[f])=some S:=by
 unfold gX;rw[if_neg (by simp)];simp
theorem BO (S:List Bool):gX 1 true (S++[true])=some S:=by
 unfold gX;rw[if_neg (by simp)];simp
theorem Tu (S:List Bool) (f g:Bool):gX 2 false (S++[f]++[g])=some S:=by
 unfold gX;rw[if_neg (by simp)];simp
theorem VA (S:List Bool):gX 2 true (S++[true]++[true])=some S:=by
 unfold gX;rw[if_neg (by simp)];simp
inductive XC (vs:List Vr):Ex→Prop
 |num {n:Int} {line:Int} (h:0≤n):XC vs (.mk 1 n [] [] [] line)
 |qA {n:Int} {line:Int} (h:n=0∨n=1):XC vs (.mk 2 n [] [] [] line)
 |var {name:Tx} {line:Int} {v:Vr} (hv:bf vs name=some v) (ha:v.arr=false) (ht:v.ty≤2):XC vs (.mk 3 0 name [] [] line)
 |idx {name:Tx} {line:Int} {v:Vr} {y:Ex} (hv:bf vs name=some v) (ha:v.arr=true) (ht:v.ty≤2) (fy:bk y=true) (ey:(aC vs y).e=0) (ty:(aC vs y).t=1):XC vs (.mk 4 0 name [] [y] line)
 |VB {name field:Tx} {line:Int} {v:Vr} {q:Pn} (hv:bf vs name=some v) (ht:2<v.ty) (hq:kG v.ty field=some q) (hf:cY field=true):XC vs (.mk 5 0 name field [] line)
 |one {op line:Int} {y:Ex} (ho:op=6∨op=7) (fy:bk y=true) (ey:(aC vs y).e=0) (ty:(aC vs y).t=gd op (aC vs y).t):XC vs (.mk op 0 [] [] [y] line)
 |two {op line:Int} {y z:Ex} (ho:8≤op∧op≤21) (fy:bk y=true) (ey:(aC vs y).e=0) (fz:bk z=true) (ez:(aC vs z).e=0) (ty:(aC vs y).t=gd op (aC vs y).t) (tz:(aC vs z).t=gd op (aC vs y).t):XC vs (.mk op 0 [] [] [y,z] line)
theorem CH {vs:List Vr} {x:Ex} (hf:bk x=true) (he:(aC vs x).e=0):XC vs x:=by
 obtain⟨op,n,name,field,sub,line⟩:=x;simp only[bk,Bool.and_eq_true,decide_eq_true_eq,Bool.not_eq_true',decide_eq_false_iff_not]at hf;obtain⟨h0,hlen,eT,mb,fq⟩:=hf;simp only[not_or,not_and]at h0;obtain⟨n1,n2,n3,n4,n5⟩:=h0;unfold aC at he;by_cases o12:op=1∨op=2
 ·rw[if_neg (by omega)]at eT mb;simp only[decide_eq_true_eq]at eT mb;subst eT mb;have hs:sub=[]:=rQ (by rw[hlen];unfold dE;rcases o12 with h|h<;>subst h<;>decide);subst hs;rcases o12 with h|h
  ·subst h;exact .num (by have:=n1 rfl;omega)
  ·subst h;have:=n2 rfl;exact .qA (by omega)
 ·rw[if_neg o12]at he;have hn:n=0:=by
   have:=n3 (by omega);simpa using this
  subst hn;by_cases Tv:op=3∨op=4∨op=5
  ·rw[if_pos Tv]at he;rw[if_pos Tv]at eT;cases hv:bf vs name with
   |none=>rw[hv]at he;simp[cA]at he
   |some v=>
    rw[hv]at he;simp only at he;by_cases o5:op=5
    ·subst o5;rw[if_pos rfl]at he mb;by_cases ht:v.ty≤2
     ·rw[if_pos ht]at he;simp[cA]at he
     ·rw[if_neg ht]at he;have hs:sub=[]:=rQ (by rw[hlen];decide);subst hs;cases hq:kG v.ty field with
      |none=>rw[hq]at he;simp[cA]at he
      |some q=>exact .VB hv (by omega) hq mb
    ·rw[if_neg o5]at he mb;simp only[decide_eq_true_eq]at mb;subst mb;by_cases hc:v.arr≠decide (op=4)∨2<v.ty
     ·rw[if_pos hc]at he;simp[cA]at he
     ·rw[if_neg hc]at he;simp only[not_or,ne_eq,Classical.not_not]at hc;by_cases o4:op=4
      ·subst o4;rw[if_pos rfl]at he;obtain⟨y,rfl⟩:=CE (l:=sub) (by rw[hlen];decide);simp only[bA,Bool.and_eq_true]at fq;simp only[ug]at he;by_cases hy:(aC vs y).e=0
       ·rw[if_neg (by simpa using hy)]at he;by_cases hy2:(aC vs y).t=1
        ·exact .idx hv (by simpa using hc.1) (by omega) fq.1 hy hy2
        ·rw[if_pos hy2]at he;simp[cA]at he
       ·rw[if_pos hy]at he;exact absurd he hy
      ·have o3:op=3:=by omega
       subst o3;have hs:sub=[]:=rQ (by rw[hlen];decide);subst hs;exact .var hv (by simpa using hc.1) (by omega)
  ·rw[if_neg Tv]at he eT;rw[if_neg (by omega)]at mb;simp only[decide_eq_true_eq]at eT mb;subst eT mb;by_cases o67:op=6∨op=7
   ·obtain⟨y,rfl⟩:=CE (l:=sub) (by rw[hlen];unfold dE;rcases o67 with h|h<;>subst h<;>decide);simp only[bA,Bool.and_eq_true]at fq;simp only[qD]at he;obtain⟨g1,g2,g3,g4,g5⟩:=gY he;exact .one o67 fq.1 g1 g3
   ·have LK:sub.length=2:=by rw[hlen];unfold dE;rw[if_neg (by omega),if_pos (by omega)]
    match sub,LK with
    |[y,z],_=>
     simp only[bA,Bool.and_eq_true]at fq;simp only[qD]at he;obtain⟨g1,g2,g3,g4,g5⟩:=gY he;exact .two (by omega) fq.1 g1 fq.2.1 g2 g3 g4
theorem jR (vs:List Vr) (x:Ex):1≤(ak vs x).1.length:=by
 obtain⟨op,n,name,field,sub,line⟩:=x;unfold ak;split
 ·simp
 ·split
  ·simp
  ·split
   ·simp
   ·split
    ·simp
    ·simp
end Go.Am
end
