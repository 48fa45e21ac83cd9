/- laws.FnCrewSame's mirror: true for each code. -/
import Derived.Test.YtolmjhgondilhaaGreatNLState
import Derived.Test.YtolmjhgondilhaaGreatNCNCrewSame
set_option linter.unusedSimpArgs false
set_option linter.unusedVariables false
set_option maxHeartbeats 8000000
namespace Go.Abs
open Go

def longF (l:List gQuad):List gQuad:=if l.length<600 then l++[⟨10,0,0,0,0⟩] else l
theorem longF_at {l:List gQuad}{k:Nat}(hk:k<l.length):(longF l)[k]? =l[k]? :=by
 unfold longF
 split
 .rw[List.getElem?_append_left hk]
 .rfl
theorem longF_ok {l:List gQuad}(hc:kG false l):kG false (longF l)/\∀m,Talks l m->Talks (longF l) m:=by
 have hl:=hc.1
 unfold longF
 split
 .refine⟨⟨by simp;omega,fun q hq=>?_,fun q hq=>?_⟩,fun m ht q hq ho=>?_⟩
  .rcases List.mem_append.1 hq with hq|hq
   .exact(hc.2.1 q hq).le (by rw[List.length_append];omega)
   .simp at hq
    subst hq
    unfold QV
    simp
  .simp at hq
   subst hq
   exact .inl rfl
  .rcases List.mem_append.1 hq with hq|hq
   .exact ht q hq ho
   .simp at hq
    subst hq
    simp at ho
 .exact⟨hc,fun m h=>h⟩
theorem long_loop (r:List Int×List (List gQuad))(hs:qT r.2)(hc:∀x∈r.2,kG false x):loopM (yS r) (0,[])=some (r.2.map longF):=by
 have hl:=hs.1
 refine nT (step:=yS r) r.2 longF (fun k hk=>?_) ?_
 .unfold yS
  dsimp only
  have hx:=hc _ (List.getElem_mem hk)
  have hx2:=hx.1
  rw[if_pos (by rw[zF,zD];omega),zY (List.getElem?_eq_getElem hk),bS',kU 40 [] _ (by simp;unfold maxLen;omega),bS',List.nil_append]
  have e:(if ilt (ilen r.2[k]) 600=true then(appx 40 r.2[k] ([(⟨10,0,0,0,0⟩:gQuad)]:List gQuad)).bind fun l17=>some l17 else some r.2[k])=some (longF r.2[k]):=by
   unfold longF
   by_cases h:r.2[k].length<600
   .rw[if_pos (by rw[zF,zD];omega),if_pos h,app1 _ _ (by omega)];rfl
   .rw[if_neg (by rw[zF,zD];omega),if_neg h]
  rw[e,bS',kU 24 _ _ (by simp;unfold maxLen;omega),bS',iadd1 (by omega),pI r.2 longF k hk]
 .unfold yS
  dsimp only
  rw[if_neg (by rw[zF,zD];omega)]
theorem fnCrewSame_true (l m:List Int)(hb:Bytes l)(hl:l.length<=maxLen):qR l m=some true:=by
 unfold qR
 refine headC hb hl fun r z1 z2 z3 hC h0 hm=>?_
 rw[yE,zD] at hm
 have hcode:∀x∈r.2,kG false x:=fun x hx=>by
  obtain⟨k,hk,rfl⟩:=List.getElem_of_mem hx
  have h2:k<(List.replicate r.2.length thr0).length:=by simpa using hk
  exact(hC.thr k _ _ (List.getElem?_eq_getElem hk) (List.getElem?_eq_getElem h2)).1
 rw[long_loop r z2 hcode,bS']
 have e1:remx (ilen m) 201=some ((m.length:Int) % 201):=by rw[zD,hJ _ _ (by omega) (by omega)]
 have hD:=crew0_map hC longF fun x _ hx=>longF_ok hx
 dsimp only
 rw[e1,bS',run_val (by omega) z3 hD (by omega),bS',run_val (by omega) z3 hC (by omega),bS']
 have hS:Sim (fun _ t u=>u=t) (crew0 r.1 r.2) (crew0 r.1 (r.2.map longF)):=sim0 hC hD (by simp) fun _ _=>rfl
 have hN:=hS.steps (fun k l m t u q p bx a1 a2 e h h'=>by
  subst e
  simp only[crew0] at a1 a2
  rw[List.getElem?_map,a1] at a2
  cases a2
  have hp:=h'.at'
  rw[longF_at (by obtain⟨_,_,p1,p2⟩:=h.fit;omega),h.at'] at hp
  cases hp
  exact⟨rfl,rfl⟩) ((m.length:Int) % 201).toNat
 have hx:=hD.steps ((m.length:Int) % 201).toNat
 have hout:=crewN_out hD ((m.length:Int) % 201).toNat
 have hs:=hx.small (by simp only[crew0,List.length_nil] at hout ⊢;omega)
 have hy:=hC.steps ((m.length:Int) % 201).toNat
 rw[sameState_of hs hN.threads.symm hN.turn.symm hN.idle.symm hN.box.symm hN.out.symm,bS',if_pos rfl,zD,zD,hy.same,fW]
 simp[crew0,ieq]
end Go.Abs
