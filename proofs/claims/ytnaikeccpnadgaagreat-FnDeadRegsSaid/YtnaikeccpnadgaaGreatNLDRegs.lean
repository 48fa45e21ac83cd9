/- laws.FnDeadRegs' mirror: true for each code. -/
import Derived.Test.YtnaikeccpnadgaaGreatNLDead
import Derived.Test.YtnaikeccpnadgaaGreatNBNDeadRegs
import Derived.Test.YtnaikeccpnadgaaGreatNLLOf
set_option linter.unusedSimpArgs false
set_option linter.unusedVariables false
set_option maxHeartbeats 8000000
namespace Go.Abs
open Go

theorem dead_post {l:List gQuad}(hc:zU false l){live:List (List Bool)}(hf:FixL l live){m:List gQuad}(hm:DOf l live m):Post m live:=by
 intro k p hp r hr hb
 obtain⟨q,hq,e⟩:=hm.at hp
 rw[fix_lv hf hq rfl hr]
 have hk:=(List.getElem?_eq_some_iff.1 hq).1
 by_cases hd:deadB l live k=true
 .rw[if_pos hd] at e
  subst e
  obtain⟨ho,ha⟩:=dead_op hq hd
  have hn1:nxt l k=[((k:Int)+1)]:=by
   unfold nxt
   rw[hq]
   simp only
   rw[if_neg (by omega),if_neg (by omega),if_neg (by omega),if_neg (by omega)]
  have hn2:nxt m k=[((k:Int)+1)]:=by
   unfold nxt
   rw[hp]
   simp
  have haft:aft m live k=aft l live k:=by funext x;unfold aft;rw[hn1,hn2]
  rw[haft] at hb
  have hal:aft l live k r=true:=by
   unfold bef usesQ setsQ at hb
   simpa using hb
  unfold bef
  rw[Bool.or_eq_true,Bool.and_eq_true]
  refine .inr ⟨?_,hal⟩
  rw[bne_iff_ne]
  unfold setsQ
  rw[if_pos (by omega)]
  intro e
  rw[e,Int.toNat_natCast] at ha
  rw[ha] at hal;cases hal
 .rw[if_neg hd] at e
  subst e
  have haft:aft m live k=aft l live k:=by
   funext x
   unfold aft nxt
   rw[hp,hq]
  rw[haft] at hb
  exact hb
theorem regs_loop {c d:gCrew}{k:Nat}{t u:gThread}(h1:c.Threads[k]? =some t)(h2:d.Threads[k]? =some u){n:Nat}(ht:Fit t n){n':Nat}(hu:Fit u n'){row:List Bool}(hrow:row.length=12)(h:∀r:Nat,r<12->row[r]? =some true->rgv u r=rgv t r):
  loopM (jU (k:Int) row) (0,c,d)=some (.inl (c,d)):=by
 refine kQ 12 (fun j=>((j:Int),c,d)) _ rfl (fun j hj=>?_) ?_
 .unfold jU
  dsimp only
  have g:=List.getElem?_eq_getElem (show j<row.length by omega)
  have hR:Rg (j:Int):=by unfold Rg;omega
  rw[if_pos (by rw[zC];omega),zQ g,bS',zQ h1,bS',(xK ht hR).2.2,bS',zQ h2,bS',(xK hu hR).2.2,bS',iadd1 (by omega)]
  have hg:(if row[j]=true then some (ine (rgv t j) (rgv u j)) else some false)=some false:=by
   cases hb:row[j] with
   |true=>rw[if_pos rfl,h j hj (by rw[g,hb])];simp[ine]
   |false=>rfl
  rw[hg,bS',if_neg (by simp)]
 .unfold jU
  dsimp only
  rw[if_neg (by rw[zC];omega)]
theorem fnDeadRegs_true (l m:List Int)(hb:Bytes l)(hl:l.length<=maxLen):pM l m=some true:=by
 unfold pM
 refine headC hb hl fun r z1 z2 z3 hC h0 hm=>?_
 rw[yD,zB] at hm
 have hcode:=codes_ok hC
 rw[pass_loop r.2 wN deadG (by have:=z2.1;omega) (fun x hx=>(deadG_val (hcode x hx)).1) (fun i o=>rfl),bS']
 have e1:remx (ilen m) 151=some ((m.length:Int) % 151):=by rw[zB,dM _ _ (by omega) (by omega)]
 dsimp only
 obtain⟨hD,hS⟩:=dead_sim hC ((m.length:Int) % 151).toNat
 have hx:=hC.steps ((m.length:Int) % 151).toNat
 have hy:=hD.steps ((m.length:Int) % 151).toNat
 have hout:=crewN_out hC ((m.length:Int) % 151).toNat
 have hs:=hx.small (by simp only[crew0,List.length_nil] at hout ⊢;omega)
 have hpc:∀(k:Nat) t u,(crewN ((m.length:Int) % 151).toNat (crew0 r.1 r.2)).Threads[k]? =some t->(crewN ((m.length:Int) % 151).toNat (crew0 r.1 (r.2.map deadG))).Threads[k]? =some u->DeadR r.2 k t u->u.Pc=t.Pc:=by
  intro k t u a _ hr
  have hk:=(List.getElem?_eq_some_iff.1 a).1
  rw[hS.ok.same,pD] at hk
  exact(hr _ (List.getElem?_eq_getElem hk)).1
 have hT:=hS.talk hs hpc
 rw[e1,bS',run_val (by omega) z3 hC (by omega),bS',run_val (by omega) z3 hD (by omega),bS']
 have hthr:=hS.thr
 have hsx:=hx.same
 have hsy:=hy.same
 have hcx:(crewN ((m.length:Int) % 151).toNat (crew0 r.1 r.2)).Codes=r.2:=pD _
 have hcy:(crewN ((m.length:Int) % 151).toNat (crew0 r.1 (r.2.map deadG))).Codes=r.2.map deadG:=pD _
 generalize crewN ((m.length:Int) % 151).toNat (crew0 r.1 r.2)=x at*
 generalize crewN ((m.length:Int) % 151).toNat (crew0 r.1 (r.2.map deadG))=y at*
 rw[hcx] at hsx
 rw[hcy,List.length_map] at hsy
 have hmany:=hx.many
 rw[hcx] at hmany
 rw[if_neg (by rw[jW,zB,zB];omega),hT,bS',bS',if_neg (by simp[bnot])]
 rw[kQ (step:=jV r (r.2.map deadG)) (s0:=((0:Int),x,y)) r.2.length (fun k=>((k:Int),x,y)) (.inl ()) rfl (fun k hk=>?_) ?_,bS']
 .unfold jV
  dsimp only
  rw[if_neg (by rw[zC,zB];omega)]
 .unfold jV
  dsimp only
  have a1:=List.getElem?_eq_getElem hk
  have a2:=List.getElem?_eq_getElem (show k<x.Threads.length by omega)
  have a3:=List.getElem?_eq_getElem (show k<y.Threads.length by omega)
  have a4:(r.2.map deadG)[k]? =some (deadG r.2[k]):=by rw[List.getElem?_map,a1];rfl
  have b1:x.Codes[k]? =some r.2[k]:=by rw[hcx];exact a1
  have b2:y.Codes[k]? =some (deadG r.2[k]):=by rw[hcy];exact a4
  obtain⟨c1,c2,_⟩:=hx.thr k _ _ b1 a2
  obtain⟨d1,d2,_⟩:=hy.thr k _ _ b2 a3
  obtain⟨v1,v2,v3,v4⟩:=liveOf_val d1
  obtain⟨_,w2,w3,_⟩:=deadG_val c1
  have hr:=hthr k _ _ a2 a3 _ a1
  rw[if_pos (by rw[zC,zB];omega),zQ a4,bS',v1,bS',zQ a2,bS']
  have hpl:(x.Threads[k]'(by omega)).Pc.toNat<(liveG (deadG r.2[k])).length:=by
   rw[v2.1,w2.1]
   have:=c2.2.2
   omega
  have a5:=List.getElem?_eq_getElem hpl
  have hrow:=v2.2 _ (List.getElem_mem hpl)
  rw[fJ c2.2.2.1 a5,bS',regs_loop a2 a3 c2 d2 hrow fun j hj hb=>?_,bS',iadd1 (by omega)]
  refine hr.2 j hj (v4 _ (dead_post c1 w3 w2) _ ⟨c2.2.2.1,?_⟩ j hj ?_)
  .rw[w2.1];exact c2.2.2.2
  .unfold lv
   simp only[List.getD_eq_getElem?_getD,a5,Option.getD_some]
   rw[hb]
   rfl
end Go.Abs
