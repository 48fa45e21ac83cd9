/- From a contract of the abstract run to a call from plain data. -/
import Derived.Test.YtolmjhgondilhaaGreatNAbsN
import Derived.Below
import Derived.Carry
import Derived.ChangeOld
import Derived.OpenShut
import Derived.LaidMore
set_option linter.unusedSimpArgs false
set_option linter.unusedVariables false
namespace Go.Abs
open Go Go.RowKit Go.WideElems

def noObj:AHeap:=⟨fun _=>none,0⟩
def phi0:Phi:=⟨fun _=>none,noObj,fun _=>False⟩
theorem own_noObj (C:Phi0)(b:Nat):¬own0 C noObj b:=by
 rintro⟨o,ob,sz,h,_⟩
 cases h
theorem R_noObj {G:Globs}{w:World}(hg:∀g cs,G g=some cs->VRel (fun _=>none) (own0 (fun _=>none) noObj) w (.fptr cs 0) (.pointer (some ⟨g,0,none⟩))):R G phi0 noObj w:=
 ⟨⟨fun _ _=>⟨rfl,rfl⟩,fun _ _ h=>by(cases h),fun _ _ _ _ _ _ _ h=>by(cases h),hg⟩,rfl,fun _=>none,⟨fun _ _ h=>by(cases h),fun _ _ h=>by(cases h),fun _ h=>by(cases h)⟩⟩

theorem pure_calls {P:Program}{G:Globs}{f:FuncId}{args:List AV}{r:AV}(h:APure P G f args r){w:World}(hR:R G phi0 noObj w){vs:Array Value}(ha:ArgsRel (fun _=>none) (own0 (fun _=>none) noObj) w args vs):
  Calls P f vs w fun e w'=>(∃v,∃(C:Phi) (J:AHeap),e=.returned v/\VRel C.nm (own C J) w' r v)/\Go.RowKit.Below w.heap.size w w':=by
 refine((h noObj).2 _ w vs hR ha).mono ?_
 rintro e w' ⟨v,r',C',J',rfl,⟨rfl,rfl⟩,hR',hE,hV⟩
 exact⟨⟨v,C',_,rfl,hV⟩,hE.base.fr.os,hE.base.fr.tape,hE.base.fr.output,hE.base.fr.size,fun k hk=>hE.base.fr.blk k hk (own_noObj _ _)⟩
theorem pure_true {P:Program}{G:Globs}{f:FuncId}{args:List AV}(h:APure P G f args (.bool true)){w:World}(hR:R G phi0 noObj w){vs:Array Value}(ha:ArgsRel (fun _=>none) (own0 (fun _=>none) noObj) w args vs):
  Calls P f vs w fun e w'=>e=.returned (.bool true)/\Go.RowKit.Below w.heap.size w w':=by
 refine(pure_calls h hR ha).mono ?_
 rintro e w' ⟨⟨v,C,J,rfl,hV⟩,hb⟩
 cases hV
 exact⟨rfl,hb⟩
end Go.Abs
