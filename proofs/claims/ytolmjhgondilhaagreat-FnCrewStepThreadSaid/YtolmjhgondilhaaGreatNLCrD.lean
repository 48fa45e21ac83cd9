/- What is drawn as a crew. -/
import Derived.Test.YtolmjhgondilhaaGreatNLCHd
set_option linter.unusedSimpArgs false
set_option linter.unusedVariables false
set_option maxHeartbeats 8000000
namespace Go.Abs
open Go

theorem talks_of {l:List gQuad}(h:kH true l):kH false l/\Talks l 2:=by
 refine⟨⟨h.1,fun q hq=>(h.2.1 q hq).any,h.2.2⟩,fun q hq ho=>?_⟩
 have hb:bxm true=1:=rfl
 rcases h.2.1 q hq with k|k|k|k|k|k|k|k|k|k<;>have k1:=k.1
 case inr.inr.inr.inr.inr.inl=>have:=k.2.2.2.2.2;omega
 case inr.inr.inr.inr.inr.inr.inl=>have:=k.2.2.2.2.2;omega
 all_goals omega
theorem crew0_ok {a b:Int}{codes:List (List gQuad)}(ha:1<=a/\a<=4)(hb:1<=b/\b<=4)(hc:1<=codes.length/\codes.length<=3)(h:∀x∈codes,kH true x):CrewOk (crew0 [a,b] codes):=by
 refine⟨hc,by simp[crew0],?_,by simp only[crew0];omega,by simp only[crew0];omega,by simp[crew0],fun k l t h1 h2=>?_⟩
 .rw[isBoxes_iff]
  refine⟨fun x hx=>?_,by simp[crew0,newB]⟩
  simp only[crew0,newB,List.map_cons,List.map_nil,List.mem_cons,List.not_mem_nil,or_false] at hx
  rw[tY]
  rcases hx with rfl|rfl
  .exact⟨ha,by simp;omega,rfl⟩
  .exact⟨hb,by simp;omega,rfl⟩
 .simp only[crew0] at h1 h2 ⊢
  have ht:t=thr0:=(List.mem_replicate.1 (List.mem_of_getElem? h2)).2
  obtain⟨c1,c2⟩:=talks_of (h l (List.mem_of_getElem? h1))
  refine⟨c1,?_,by simpa [newB] using c2⟩
  rw[ht]
  exact⟨by simp[thr0],fun x hx=>by simp[thr0] at hx;rw[hx];decide,by simp[thr0],by have:=c1.1;simp only[thr0];omega⟩
theorem crewS_rooms {c:gCrew}(h:CrewOk c):(crewS c).Boxes.length=c.Boxes.length:=by
 by_cases hi:c.Idle<c.Codes.length
 .obtain⟨l,t,q,h1,h2,h3,h4,h5⟩:=h.now
  rw[uF hi h1 h2 h3]
  have:=congrArg List.length h4.keeps.2.2
  simpa [crewG] using this
 .rw[vI hi]
theorem crewN_rooms {c:gCrew}(h:CrewOk c)(n:Nat):(crewN n c).Boxes.length=c.Boxes.length:=by
 induction n generalizing c with
 |zero=>rfl
 |succ n ih=>exact(ih h.step).trans (crewS_rooms h)
section
variable {b:List Int} (hb:Bytes b) (hl:b.length<=1048576)
include hb hl
theorem Ok.crew {k:Int}{r:gL6Rd}(hr:Rd b k r)(hk:k<=10000):Ok (oH r) (fun q=>Rd b 300000 q.2/\SmallCr q.1/\q.1.Out.length<=1000):=by
 unfold oH
 refine Ok.bind (Ok.pick hb hl hr (by decide) (by omega)) fun r1 h1=>Ok.bind (Ok.pick hb hl h1.1 (by decide) (by omega)) fun r2 h2=>?_
 refine Ok.bind (show Ok (hJ r2.2) _ from Ok.codes hb hl h2.1 (by omega)) fun r3 h3=>?_
 rw[zS _ _ (by omega),zS _ _ (by omega)]
 have hC:=crew0_ok (a:=1+r1.1) (b:=1+r2.1) (by omega) (by omega) h3.2.1 h3.2.2
 have hs:SmallC r3.1:=⟨by have:=h3.2.1;omega,fun x hx=>cJ (h3.2.2 x hx)⟩
 have h0:=small0 (rooms:=[1+r1.1,1+r2.1]) (codes:=r3.1) (by simp) hs
 have hB:=(fZ h0).2 hC
 have hro:dU [1+r1.1,1+r2.1]=true:=by simp[dU];omega
 rw[sNew_val (by simp) hs,bS',if_pos ⟨hro,hB⟩]
 refine Ok.bind (Ok.pick hb hl h3.1 (by decide) (by omega)) fun r5 h5=>?_
 have e:nP (crew0 [1+r1.1,1+r2.1] r3.1) r5.1=some (crewN r5.1.toNat (crew0 [1+r1.1,1+r2.1] r3.1),true):=by
  have:=sRun_val h0 r5.1 (by simp[crew0])
  rw[if_pos ⟨hB,by omega⟩] at this
  exact this
 have hx:=hC.steps r5.1.toNat
 have hout:(crewN r5.1.toNat (crew0 [1+r1.1,1+r2.1] r3.1)).Out.length<=40:=by
  have:=crewN_out hC r5.1.toNat
  simp only[crew0,List.length_nil] at this ⊢
  omega
 have hbx:(crewN r5.1.toNat (crew0 [1+r1.1,1+r2.1] r3.1)).Boxes.length<=3:=box_len hx.box
 have hbx2:(crewN r5.1.toNat (crew0 [1+r1.1,1+r2.1] r3.1)).Boxes.length=2:=by rw[crewN_rooms hC];rfl
 rw[e,bS']
 dsimp only
 generalize crewN r5.1.toNat (crew0 [1+r1.1,1+r2.1] r3.1)=x at*
 have hsm:=hx.small (by omega)
 obtain⟨z1,z2,z3,z4,z5,z6⟩:=hsm
 refine Ok.bind (Ok.pick hb hl h5.1 (by decide) (by omega)) fun r7 h7=>?_
 refine Ok.ite (fun _=>Ok.pure ⟨h7.1.le (by omega),⟨z1,z2,z3,z4,z5,z6⟩,by simp only;omega⟩) fun _=>Ok.ite (fun _=>?_) fun _=>Ok.ite (fun _=>?_) fun _=>Ok.pure ⟨h7.1.le (by omega),⟨z1,z2,z3,z4,z5,z6⟩,by simp only;omega⟩
 .have:cutx x.Boxes 0 1=some (x.Boxes.take 1):=by
   rw[cutx_iff]
   exact⟨⟨by omega,by omega,by omega⟩,by simp⟩
  rw[this,bS']
  exact Ok.pure ⟨h7.1.le (by omega),⟨z1,z2,z3,by simp;omega,fun y hy=>z5 y (List.mem_of_mem_take hy),z6⟩,by simp only;omega⟩
 .have hm:=hx.many
  have hsa:=hx.same
  have h0t:0<x.Threads.length:=by omega
  have g:=List.getElem?_eq_getElem h0t
  have gi:Go.Abs.idx x.Threads 0=some x.Threads[0]:=zV (k:=0) g
  rw[gi,bS',pY _ gi,bS']
  refine Ok.pure ⟨h7.1.le (by omega),⟨z1,by simp;exact z2,fun t ht=>?_,z4,z5,z6⟩,by simp only;omega⟩
  rcases List.mem_or_eq_of_mem_set ht with ht|rfl
  .exact z3 t ht
  .exact z3 x.Threads[0] (List.getElem_mem h0t)
end
theorem zero_refl:yY zeroC zeroC=some true:=nA _ small_zero
theorem headR {c:gCrew}{n:Int}{rest:gCrew×Bool->Option Bool}(h:SmallCr c)(ho:c.Out.length<=1000)(hn:n<=1000\/100000<n)
  (h1:CrewOk c->0<=n/\n<=1000->SmallCr (crewN n.toNat c)->rest (crewN n.toNat c,true)=some true):
  ((sD c n).bind fun r3=>(tT c n).bind fun r4=>
   (if bneb r3.2 r4.2=true then some true else(yY r3.1 r4.1).bind fun r5=>some (bnot r5)).bind fun g6=>
   (if g6=true then some true else some (bnot r3.2)).bind fun g7=>
   if g7=true then(if beqb r3.2 r4.2=true then(yY r3.1 r4.1).bind fun r8=>some r8 else some false).bind fun g9=>some g9
   else rest r3)=some true:=by
 rw[iRun_val h n (by omega),sRun_val h n (by omega),bS',bS']
 by_cases hg:crewB c=true/\0<=n/\n<=100000
 .have hc:=(fZ h).1 hg.1
  have hx:=(hc.steps n.toNat).small (by have:=crewN_out hc n.toNat;omega)
  rw[if_pos hg,if_neg (by simp[bneb]),nA _ hx,bS',bS',if_neg (by simp[bnot]),bS',if_neg (by simp[bnot])]
  exact h1 hc ⟨hg.2.1,by omega⟩ hx
 .rw[if_neg hg,if_neg (by simp[bneb]),zero_refl,bS',bS',if_neg (by simp[bnot]),bS',if_pos (by rfl)]
  rfl
theorem Ok.drawCSt {l:List Int}(hb:Bytes l)(hl:l.length<=1048576):Ok (jW l) (fun r=>SmallCr r/\r.Out.length<=1000):=by
 unfold jW
 refine Ok.bind (Ok.open hb hl) fun r1 h1=>?_
 obtain⟨b,hb,hl,hr⟩:=h1
 exact Ok.bind (Ok.crew hb hl hr (by omega)) fun r2 h2=>Ok.pure h2.2
end Go.Abs
