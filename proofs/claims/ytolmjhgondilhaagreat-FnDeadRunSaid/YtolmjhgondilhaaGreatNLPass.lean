/- Laws on a new crew whose codes are written anew: what is alike for all of them. -/
import Derived.Test.YtolmjhgondilhaaGreatNLCHd
set_option linter.unusedSimpArgs false
set_option linter.unusedVariables false
set_option maxHeartbeats 8000000
namespace Go.Abs
open Go

theorem pass_loop {step:Int×List (List gQuad)->Option (Flow (Int×List (List gQuad)) (Sum (List (List gQuad)) Bool))}(l:List (List gQuad))(f:List gQuad->Option (List gQuad×Bool))(g:List gQuad->List gQuad)(hl:l.length<=1000)(hf:∀x∈l,f x=some (g x,true))
  (hs:∀i o,step (i,o)=if ilt i (ilen l)=true then(idx l i).bind fun v=>(f v).bind fun r=>if bnot r.2=true then some (.done (.inr false)) else(appx 24 o ([r.1]:List (List gQuad))).bind fun l'=>some (.next (iadd .i64 i 1,l')) else some (.done (.inl o))):
  loopM step (0,[])=some (.inl (l.map g)):=by
 refine kW l.length (fun k=>((k:Int),(l.take k).map g)) _ (by simp) (fun k hk=>?_) ?_
 .rw[hs,if_pos (by rw[zE,zC];omega),zU (List.getElem?_eq_getElem hk),bS',hf _ (List.getElem_mem hk),bS',if_neg (by simp[bnot]),kV 24 _ _ (by simp;unfold maxLen;omega),bS',iadd1 (by omega),oC l g k hk]
 .rw[hs,if_neg (by rw[zE,zC];omega),List.take_length]
theorem crew0_map {rooms:List Int}{codes:List (List gQuad)}(h:CrewOk (crew0 rooms codes))(g:List gQuad->List gQuad)(hg:∀x∈codes,zX false x->zX false (g x)/\∀m,Talks x m->Talks (g x) m):CrewOk (crew0 rooms (codes.map g)):=by
 refine⟨by have:=h.many;simp only[crew0,List.length_map] at this ⊢;exact this,by simp[crew0],h.box,?_,?_,by simp[crew0],fun k l t h1 h2=>?_⟩
 .have:=h.turn;simp only[crew0,List.length_map] at this ⊢;exact this
 .have:=h.idle;simp only[crew0,List.length_map] at this ⊢;exact this
 .simp only[crew0,List.length_map] at h1 h2
  rw[List.getElem?_map] at h1
  cases hk:codes[k]? with
  |none=>rw[hk] at h1;cases h1
  |some x=>
   rw[hk] at h1
   cases h1
   obtain⟨a1,a2,a3⟩:=h.thr k x t hk h2
   obtain⟨b1,b2⟩:=hg x (List.mem_of_getElem? hk) a1
   refine⟨b1,?_,b2 _ a3⟩
   have ht:t=thr0:=(List.mem_replicate.1 (List.mem_of_getElem? h2)).2
   rw[ht]
   exact⟨by simp[thr0],fun x hx=>by simp[thr0] at hx;rw[hx];decide,by simp[thr0],by have:=b1.1;simp only[thr0];omega⟩
theorem smallC_of {rooms:List Int}{codes:List (List gQuad)}(h:CrewOk (crew0 rooms codes)):nE codes:=by
 refine⟨by have:=h.many;simp only[crew0] at this;omega,fun x hx=>?_⟩
 obtain⟨k,hk,rfl⟩:=List.getElem_of_mem hx
 have h2:k<(List.replicate codes.length thr0).length:=by simpa using hk
 exact nN (h.thr k _ _ (List.getElem?_eq_getElem hk) (List.getElem?_eq_getElem h2)).1
theorem run_val {rooms:List Int}{codes:List (List gQuad)}(hr:rooms.length<=1000)(h1:yZ rooms=true)(h2:CrewOk (crew0 rooms codes)){n:Int}(hn:0<=n/\n<=100000):uJ rooms codes n=some (crewN n.toNat (crew0 rooms codes)):=crewOf_val hr (smallC_of h2) h1 h2 hn
theorem lagN {R:gCrew->gCrew->Prop}(hR:∀c d,R c d->R (crewS c) d\/R (crewS c) (crewS d)){c d:gCrew}(h:R c d)(n:Nat):∃m,m<=n/\R (crewN n c) (crewN m d):=by
 induction n with
 |zero=>exact⟨0,by omega,h⟩
 |succ n ih=>
  obtain⟨m,hm,hr⟩:=ih
  rw[crewN_succ]
  rcases hR _ _ hr with h1|h1
  .exact⟨m,by omega,h1⟩
  .exact⟨m+1,by omega,by rw[crewN_succ];exact h1⟩
end Go.Abs
