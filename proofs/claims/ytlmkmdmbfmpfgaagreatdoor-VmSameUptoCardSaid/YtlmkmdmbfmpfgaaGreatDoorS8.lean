/-
  The contracts of the functions of Go's library that are had from the shelf.
-/
import Derived.Test.YtlmkmdmbfmpfgaaGreatDoorS7
import Derived.Shelf.Strings.Search3
import Derived.Shelf.Strings.Prefix
set_option linter.all false
namespace Go.Am
open Go Go.Proofs
variable [Inhabited bO]
set_option maxRecDepth 20000
def Bc{P:Program}{g:FuncId}{fn:Func}(Z:P.funcs[g]?=some fn)(A':fn.body.isSome=true)(A0:(fn.name == "runtime.NumGoroutine")=false):jM P g=true:=by
 unfold jM;rw[Z];simp only[A',A0];rfl
def Cd{w F s v}(h:aR w F (.str s) v):∃b:ByteArray,v=.string b/\b.data.toList=s:=by
 cases h with
 |str b s h=>exact⟨b,rfl,h⟩
def UB{w F k n v}(h:aR w F (.int k n) v):v=.int k n:=by cases h;rfl
def Ip{U:List D}{a b:D}{w F}{vs:Array Value}(H:U=[a,b])(M:U.length=vs.size)(I:∀(i:Nat) x v,U[i]?=some x->vs[i]?=some v->aR w F x v):
 ∃x y,vs=#[x,y]/\aR w F a x/\aR w F b y:=by
 subst H;obtain⟨l⟩:=vs;match l,M with
 |[x,y],_=>exact⟨x,y,rfl,I 0 a x rfl rfl,I 1 b y rfl rfl⟩
def agE{w:World}{F}(O:gr w F aB):∃m,w.cell? ⟨2,0,none⟩=some (.int .i64 m):=by
 obtain⟨_,_,A2,J,T⟩:=O (2,.int .i64 (id (α:=Int) (default:bO))) (by simp[aB]);generalize id (α:=Int) (default:bO)=z at J;obtain rfl:=UB J;exact⟨z,T 0 _ (by simp[Value.cells])⟩
def apJ:vD ctx 198 (FN hpO):=by
 refine vD.lift ⟨Bc Tryz.func198 (by kernel_rfl) (by kernel_rfl),λU d H F w vs O Y M I=>?_⟩;unfold hpO at H;split at H
 .rename_i s p;obtain⟨x,y,rfl,J,T⟩:=Ip rfl M I;obtain⟨a,rfl,rfl⟩:=Cd J;obtain⟨b,rfl,rfl⟩:=Cd T;refine (Any.strings_HasPrefix amU a b w).mono ?_;rintro e w' ⟨rfl,rfl⟩;cases H;exact⟨_,rfl,Go.RowKit.Below.refl _ _,.bool _⟩
 .cases H
def apK:vD ctx 245 (FN ibO):=by
 refine vD.lift ⟨Bc Tryz.func245 (by kernel_rfl) (by kernel_rfl),λU d H F w vs O Y M I=>?_⟩;unfold ibO at H;split at H
 .rename_i s p;obtain⟨x,y,rfl,J,T⟩:=Ip rfl M I;obtain⟨a,rfl,rfl⟩:=Cd J;obtain rfl:=UB T;refine (Any.stringslite_IndexByte agD a _ w).mono ?_;rintro e w' ⟨rfl,rfl⟩;cases H;exact⟨_,rfl,Go.RowKit.Below.refl _ _,.int _ _⟩
 .cases H
def amV:vD ctx 200 (FN abv):=by
 refine vD.lift ⟨Bc Tryz.func200 (by kernel_rfl) (by kernel_rfl),λU d H F w vs O Y M I=>?_⟩;unfold abv at H;split at H
 .rename_i s p;split at H
  .rename_i A1;obtain⟨x,y,rfl,J,T⟩:=Ip rfl M I;obtain⟨a,rfl,rfl⟩:=Cd J;obtain⟨b,rfl,rfl⟩:=Cd T;obtain⟨m,hm⟩:=agE O;refine (Any.strings_Index agC a b m w (by simpa using A1) hm).mono ?_;rintro e w' ⟨rfl,rfl⟩;cases H;exact⟨_,rfl,Go.RowKit.Below.refl _ _,.int _ _⟩
  .cases H
 .cases H
def agF:∀g h,ctx.Bu g=some h->vD ctx g h:=by
 intro g h O;have V:abW g=some h:=O;unfold abW at V;split at V;all_goals first|(cases V;first|exact apJ|exact apK|exact amV)|cases V
end Go.Am
