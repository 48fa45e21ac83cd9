/- The head line of the program's dump: the cut's words. No conditions. -/
import Derived.Test.YtolmjhgondilhaaGreatRows
import Derived.JoinedOf
import Derived.KernelRfl
namespace Go.Proofs.YtolmjhgondilhaaGreat
open Go

theorem wordsA (c:Char):∀(w r:List Char),(∀x∈w,(x==c)=false)->c=Char.ofNat 32->wordsSigns (w++c::r)=w::wordsSigns r
 |[],r,_,h=>by subst h;rfl
 |x::w,r,h,hc=>by
  have h1:=h x (.head _)
  have ih:=wordsA c w r (fun y hy=>h y (.tail _ hy)) hc
  rw[List.cons_append,wordsSigns]
  .rw[ih]
  .intro hx
   subst hc
   rw[hx] at h1
   exact absurd h1 (by decide)
def hA:List Char:=([104,97,114,110,101,115,115]:List Nat).map Char.ofNat
def hS:List Char:=([98,51,98,54,50,98,102,51,102,52,56,97,101,98,51,102,50,56,54,100,101,51,50,57,102,100,51,56,53,52,55,97,55,49,97,51,100,49,100,100,57,53,52,97,53,50,57,51,100,54,97,55,48,102,101,54,56,50,53,52,98,53,57,100]:List Nat).map Char.ofNat
def hC:List Char:=([99,117,116]:List Nat).map Char.ofNat
def hR:List Char:=([97,116,32,108,111,111,112,46,101,120,97,109,112,108,101,47,99,111,116,104,114,101,97,100,115,47,108,97,119,115,46,70,110,67,114,101,119,83,97,109,101,32,108,111,111,112,46,101,120,97,109,112,108,101,47,99,111,116,104,114,101,97,100,115,47,108,97,119,115,46,70,110,82,101,97,99,104,82,117,110,32,108,111,111,112,46,101,120,97,109,112,108,101,47,99,111,116,104,114,101,97,100,115,47,108,97,119,115,46,70,110,76,105,118,101,67,104,97,110,103,101,32,108,111,111,112,46,101,120,97,109,112,108,101,47,99,111,116,104,114,101,97,100,115,47,108,97,119,115,46,70,110,68,101,97,100,82,117,110,32,108,111,111,112,46,101,120,97,109,112,108,101,47,99,111,116,104,114,101,97,100,115,47,108,97,119,115,46,70,110,74,117,109,112,82,117,110,32,108,111,111,112,46,101,120,97,109,112,108,101,47,99,111,116,104,114,101,97,100,115,47,108,97,119,115,46,70,110,67,114,101,119,82,117,110,32,108,111,111,112,46,101,120,97,109,112,108,101,47,99,111,116,104,114,101,97,100,115,47,108,97,119,115,46,70,110,67,114,101,119,82,117,110,79,110,101,32,108,111,111,112,46,101,120,97,109,112,108,101,47,99,111,116,104,114,101,97,100,115,47,108,97,119,115,46,70,110,67,114,101,119,83,116,101,112,32,108,111,111,112,46,101,120,97,109,112,108,101,47,99,111,116,104,114,101,97,100,115,47,108,97,119,115,46,70,110,67,114,101,119,83,116,101,112,84,104,114,101,97,100]:List Nat).map Char.ofNat
theorem hdr:Tryz.prog.initOrder=String.ofList (hA++Char.ofNat 32::(hS++Char.ofNat 32::(hC++Char.ofNat 32::hR))):=by kernel_rfl
theorem hdw:∃rest,behindMainWord (wordsSigns Tryz.prog.initOrder.toList)= "cut".toList::rest:=by
 rw[hdr,String.toList_ofList,wordsA _ _ _ (by decide+kernel) rfl,wordsA _ _ _ (by decide+kernel) rfl,wordsA _ _ _ (by decide+kernel) rfl]
 refine⟨wordsSigns hR,?_⟩
 have h1:(hA== "harness".toList)=true:=by decide+kernel
 have h2:isSumSigns hS=true:=by decide+kernel
 have h3:hC= "cut".toList:=by decide+kernel
 simp only[behindMainWord,h1,h2,h3,Bool.true_or,Bool.true_and,if_true]
theorem strip_cut (rest:List (List Char)):stripLifts liftWords ("cut".toList::rest)=([], "cut".toList::rest):=by kernel_rfl
section
variable {P:Program} {rest:List (List Char)} (h:behindMainWord (wordsSigns P.initOrder.toList)= "cut".toList::rest)
include h
theorem enter_of (h1:P.laysLater=false)(h2:P.bearsReflect=false)(h3:P.doorFits []=true):P.mayEnter=true:=by
 unfold Program.mayEnter
 rw[h]
 simp only[strip_cut,h1,h2,h3,List.head?_cons,beq_self_eq_true,Bool.not_false,Bool.or_true,Bool.and_true,List.contains_nil]
theorem lifts_of:P.headLifts=[]:=by
 unfold Program.headLifts
 rw[h,strip_cut]
 rfl
theorem final_of:P.liftsFinal=false:=by
 have h0:=lifts_of h
 unfold Program.liftsFinal
 rw[h0,h]
 rfl
theorem make_of:P.make=some .cut:=by
 unfold Program.make
 rw[h]
 rfl
end
theorem hdEnter:Tryz.prog.mayEnter=true:=by
 obtain⟨rest,h⟩:=hdw
 exact enter_of h (by kernel_rfl) (by kernel_rfl) (by kernel_rfl)
theorem hdFinal:Tryz.prog.liftsFinal=false:=by
 obtain⟨rest,h⟩:=hdw
 exact final_of h
theorem hdMake:Tryz.prog.make=some .cut:=by
 obtain⟨rest,h⟩:=hdw
 exact make_of h
end Go.Proofs.YtolmjhgondilhaaGreat
