/- laws.FnSqueezeAhead's mirror: true for each code. -/
import Derived.Test.YtnaikeccpnadgaaGreatNLSq
import Derived.Test.YtnaikeccpnadgaaGreatNBNSqueezeAhead
import Derived.Test.YtnaikeccpnadgaaGreatNLFst
set_option linter.unusedSimpArgs false
set_option linter.unusedVariables false
set_option maxHeartbeats 8000000
namespace Go.Abs
open Go

theorem dT (l m:List Int)(hb:Bytes l)(hl:l.length<=maxLen):wE l m=some true:=by
 unfold wE
 refine headC hb hl fun r z1 z2 z3 hC h0 hm=>?_
 rw[yD,zB] at hm
 have hcode:=codes_ok hC
 rw[pass_loop r.2 kP sqG (by have:=z2.1;omega) (fun x hx=>(sqG_val (hcode x hx)).1) (fun i o=>rfl),bS']
 obtain⟨hD,hS⟩:=SR.start hC
 have e1:remx (ilen m) 151=some ((m.length:Int) % 151):=by rw[zB,dM _ _ (by omega) (by omega)]
 dsimp only
 rw[e1,bS',run_val (by omega) z3 hC (by omega),bS',run_val (by omega) z3 hD (by omega)]
 obtain⟨k,hk,hR⟩:=lagN (R:=SR) (fun c d h=>h.step) hS ((m.length:Int) % 151).toNat
 have hx:=hC.steps ((m.length:Int) % 151).toNat
 obtain⟨o,ho⟩:=outs_grow (hD.steps k) (((m.length:Int) % 151).toNat-k)
 rw[<- crewN_add,show k+(((m.length:Int) % 151).toNat-k)=((m.length:Int) % 151).toNat by omega,hR.out] at ho
 have hout:=crewN_out hD ((m.length:Int) % 151).toNat
 rw[if_pos,bS',ho,firstInts_val (by rw[<- ho];simp only[crew0,List.length_nil] at hout ⊢;omega)]
 .rfl
 .rw[zM,zB,zB,hx.same,pD]
  rfl
end Go.Abs
