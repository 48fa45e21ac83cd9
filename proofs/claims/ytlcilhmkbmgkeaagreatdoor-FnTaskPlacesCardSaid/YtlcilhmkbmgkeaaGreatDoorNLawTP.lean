/- laws.FnTaskPlaces' mirror: true for each code. -/
import Derived.Test.YtlcilhmkbmgkeaaGreatDoorNQuadEq
import Derived.Test.YtlcilhmkbmgkeaaGreatDoorNOpJ
set_option linter.unusedSimpArgs false
set_option linter.unusedVariables false
set_option maxHeartbeats 8000000
namespace Go.Abs
open Go

theorem codeValid_eq (l:List gQuad):i_CodeValid l=s_CodeValid l:=by
 have hL:i_CodeValid_L1 l=s_CodeValid_L1 l:=by
  funext s
  unfold i_CodeValid_L1 s_CodeValid_L1
  simp only[quadValid_eq]
 unfold i_CodeValid s_CodeValid
 simp only[hL,s_l6In,bind_id,if_and,if_or,bind_some']
 have e:(ilt (ilen l) 1||igt (ilen l) 600)=bnot (ige (ilen l) 1&&ile (ilen l) 600):=by
  rw[Bool.eq_iff_iff];simp[ilt,igt,ige,ile,bnot]
 rw[e]

theorem quad0 (q:gQuad) (c n:Int) (hc:1≤c∧c≤8) (hn:0≤n∧n≤600) (h:s_QuadValid q n=some true):∃l,i_quadInstrs q c 0=some l∧s_l43Quad q c 0=some l∧l.length≤5:=by
 obtain⟨v,hv,hv1⟩:=quadValid_ok q n
 rw[h] at hv
 cases hv
 obtain⟨m1,m2,m3,m4,m5,m6,m7,m8,m9,m10⟩:=hv1 rfl
 obtain⟨l,k1,k2,k3⟩:=quad_eq q c 0 hc (by omega) ⟨m1,m2⟩ m3 m5 m7 m9 m10
 exact⟨l,k1,k2,k3.2.1⟩

theorem sq_val {q:gQuad} {m:Int} (h:QV q m):s_QuadValid q m=some true:=by rw[quadValid_val,decide_eq_true h]
noncomputable def qi (q:gQuad) (c:Int):List gInstr:=(s_l43Quad q c 0).getD []
theorem qi_val {l:List gQuad} (hcl:CodeOk l) {c:Int} (hc:1≤c∧c≤8) {q:gQuad} (hq:q∈l):i_quadInstrs q c 0=some (qi q c)∧s_l43Quad q c 0=some (qi q c)∧(qi q c).length≤5:=by
 have hl:=hcl.1
 obtain⟨x,h1,h2,h3⟩:=quad0 q c l.length hc (by omega) (sq_val (hcl.2.1 q hq))
 have e:qi q c=x:=by unfold qi;rw[h2];rfl
 rw[e];exact⟨h1,h2,h3⟩
noncomputable def pl (l:List gQuad) (c:Int):Nat→Int
 |0=>0
 |k+1=>pl l c k+(match l[k]? with|some q=>((qi q c).length:Int)|none=>0)
theorem pl_in {l:List gQuad} (hcl:CodeOk l) {c:Int} (hc:1≤c∧c≤8):∀k,k≤l.length→0≤pl l c k∧pl l c k≤5*(k:Int):=by
 intro k
 induction k with
 |zero=>intro _;simp[pl]
 |succ k ih=>
  intro h
  have:=ih (by omega)
  have hk:k<l.length:=by omega
  have h5:=(qi_val hcl hc (List.getElem_mem hk)).2.2
  simp only[pl,List.getElem?_eq_getElem hk]
  omega
theorem places_val {l:List gQuad} (hcl:CodeOk l) {c:Int} (hc:1≤c∧c≤8) {step:Int×Int×List Int→Option (Flow (Int×Int×List Int) (List Int))}
  (hs:∀s,step s=match s with|(s1,s2,s3)=>if ilt s2 (ilen l)=true then(appx 8 s3 ([s1]:List Int)).bind fun l5=>(idx l s2).bind fun v6=>(s_l43Quad v6 c 0).bind fun r7=>some (.next (iadd .i64 s1 (ilen r7),iadd .i64 s2 1,l5)) else some (.done s3)):
  loopM step (0,0,([]:List Int))=some ((List.range l.length).map (pl l c)):=by
 have hl:=hcl.1
 refine up_loop l.length (fun k=>(pl l c k,(k:Int),(List.range k).map (pl l c))) _ rfl (fun k hk=>?_) ?_
 ·rw[hs]
  dsimp only
  obtain⟨_,h2,h3⟩:=qi_val hcl hc (List.getElem_mem hk)
  have:=pl_in hcl hc k (by omega)
  rw[if_pos (by rw[ilt_iff,ilen_def];omega),appx_ok 8 _ _ (by simp;unfold maxLen;omega),bind_some',idx_at (List.getElem?_eq_getElem hk),bind_some',h2,bind_some',iadd1 (by omega),ilen_def,iadd_eq _ _ (by omega)]
  simp[pl,List.getElem?_eq_getElem hk,List.range_succ]
 ·rw[hs]
  dsimp only
  rw[if_neg (by rw[ilt_iff,ilen_def];omega)]
theorem places_step {l:List gQuad} (hcl:CodeOk l) {c:Int} (hc:1≤c∧c≤8):i_TaskPlaces_L1 l c=s_l43Places_L1 l c:=by
 funext s
 obtain⟨a,k,o⟩:=s
 unfold i_TaskPlaces_L1 s_l43Places_L1
 dsimp only
 split
 ·cases hi:idx l k with
  |none=>cases appx 8 o [a]<;>rfl
  |some q=>
   have hq:q∈l:=List.mem_of_getElem? (idx_lt3 hi).2.2
   obtain⟨h1,h2,_⟩:=qi_val hcl hc hq
   simp only[bind_some',h1,h2]
 ·rfl
theorem taskPlaces_val (l:List gQuad) (hl:l.length≤2000) (c:Int):∃r,i_TaskPlaces l c=some r∧s_TaskPlaces l c=some r∧(r=[]∨CodeOk l∧(1≤c∧c≤8)∧r=(List.range l.length).map (pl l c)):=by
 obtain⟨v,hv,hv1⟩:=codeValid_any l (by omega)
 unfold i_TaskPlaces s_TaskPlaces
 rw[codeValid_eq,hv]
 simp only[s_l6In,bind_id,if_and,if_or,bind_some']
 by_cases hg:v=true∧1≤c∧c≤8
 ·obtain⟨rfl,g1,g2⟩:=hg
  have hcl:=hv1 rfl
  have e1:(bnot true||ilt c 1||igt c 8)=false:=by rw[Bool.eq_false_iff];simp[bnot,ilt,igt];omega
  have e2:(bnot true||bnot (ige c 1&&ile c 8))=false:=by rw[Bool.eq_false_iff];simp[bnot,ige,ile];omega
  have hr:=places_val hcl ⟨g1,g2⟩ (step:=s_l43Places_L1 l c) (fun s=>rfl)
  rw[e1,e2]
  simp only[Bool.false_eq_true,if_false,s_l43Places,places_step hcl ⟨g1,g2⟩,hr,bind_some']
  exact⟨_,rfl,rfl,.inr ⟨hcl,⟨g1,g2⟩,rfl⟩⟩
 ·have e1:(bnot v||ilt c 1||igt c 8)=true:=by
   cases v
   ·simp[bnot]
   ·simp[bnot,ilt,igt];simp at hg;omega
  have e2:(bnot v||bnot (ige c 1&&ile c 8))=true:=by
   cases v
   ·simp[bnot]
   ·simp[bnot,ige,ile];simp at hg;omega
  rw[e1,e2]
  exact⟨[],rfl,rfl,.inl rfl⟩
theorem sameInts_refl (l:List Int) (hl:l.length≤2000000):l_sameInts l l=some true:=by
 unfold l_sameInts
 rw[if_neg (by simp[ine])]
 have:=up_loop (step:=l_sameInts_L1 l l) (s0:=(0:Int)) l.length (fun k=>(k:Int)) (.inl ()) rfl (fun k hk=>?_) ?_
 ·rw[this];rfl
 ·unfold l_sameInts_L1
  dsimp only
  rw[if_pos (by rw[ilt_iff];unfold ilen;omega),idx_at (List.getElem?_eq_getElem hk)]
  simp only[bind_some']
  rw[if_neg (by simp[ine]),iadd_eq _ _ (by omega)]
  rfl
 ·unfold l_sameInts_L1
  dsimp only
  rw[if_neg (by rw[ilt_iff];unfold ilen;omega)]
theorem Ok.drawTP {l:List Int} (hb:Bytes l) (hl:l.length≤1048576):Ok (s_DrawTaskPlaces l) (fun r=>r.1.length≤601):=by
 unfold s_DrawTaskPlaces s_DrawTaskInstrs
 refine Ok.bind (P:=fun r=>r.1.length≤601) ?_ fun r hr=>Ok.pure hr
 refine Ok.bind (Ok.open hb hl) fun r1 h1=>?_
 obtain⟨b,hb,hl,hr⟩:=h1
 refine Ok.bind (Ok.code hb hl hr (by omega)) fun r2 h2=>?_
 refine Ok.bind (Ok.pick hb hl h2.1 (by decide) (by omega)) fun r3 h3=>?_
 refine Ok.ite (fun _=>?_) fun _=>?_
 ·refine Ok.bind (Ok.pick hb hl h3.1 (by decide) (by omega)) fun r4 h4=>?_
  exact Ok.bind (Ok.idx (by simp;omega)) fun v _=>Ok.pure h2.2
 ·exact Ok.bind (Ok.pick hb hl h3.1 (by decide) (by omega)) fun r4 h4=>Ok.pure h2.2
theorem fnTaskPlaces_true (l:List Int) (hb:Bytes l) (hl:l.length≤maxLen):l_FnTaskPlaces l=some true:=by
 unfold l_FnTaskPlaces
 by_cases hg:igt (ilen l) 1048576=true
 ·rw[if_pos hg]
 rw[if_neg hg]
 rw[igt_iff,ilen_def] at hg
 obtain⟨⟨code,c⟩,h1,h2⟩:=Ok.drawTP hb (by omega)
 simp only at h2
 obtain⟨r,h3,h4,h5⟩:=taskPlaces_val code (by omega) c
 rw[h1,bind_some',h3,bind_some',h4,bind_some']
 rcases h5 with rfl|⟨hcl,hc,rfl⟩
 ·rw[sameInts_refl _ (by simp)]
  rfl
 ·have hlc:=hcl.1
  rw[sameInts_refl _ (by simp;omega),bind_some',if_neg (by simp[bnot]),bind_some']
  have hlen:ilen ((List.range code.length).map (pl code c))=(code.length:Int):=by simp[ilen]
  rw[if_neg (by rw[ieq_iff,hlen];omega)]
  have get:∀k,k<code.length→idx ((List.range code.length).map (pl code c)) (k:Int)=some (pl code c k):=fun k hk=>idx_at (by simp[hk])
  rw[up_loop (step:=l_FnTaskPlaces_L1 (code,c) ((List.range code.length).map (pl code c))) (s0:=(0:Int)) (code.length-1) (fun k=>(k:Int)) (.inl ()) rfl (fun k hk=>?_) ?_,bind_some']
  ·have g0:=get 0 (by omega)
   simp only[show((0:Nat):Int)=0 from rfl] at g0
   simp only[g0,bind_some',hlen,if_and]
   simp[ieq,ilen,pl]
  ·unfold l_FnTaskPlaces_L1
   dsimp only
   rw[iadd1 (by omega),if_neg (by rw[ilt_iff,hlen];omega)]
  ·unfold l_FnTaskPlaces_L1
   dsimp only
   have hk':k<code.length:=by omega
   have hm:=List.getElem_mem hk'
   obtain⟨q1,q2,q3⟩:=qi_val hcl hc hm
   have hv:=(hcl.2.1 _ hm).le (show(code.length:Int)≤600 by omega)
   have hQ:i_QuadInstrs code[k] c 0=some (qi code[k] c,true):=by
    unfold i_QuadInstrs
    rw[quadValid_eq,sq_val hv,remx_eq 0 4 (by omega) (by omega)]
    simp only[bind_some',if_or,q1]
    rw[if_neg]
    simp[bnot,ilt,igt,ine]
    omega
   have hp:=pl_in hcl hc k (by omega)
   rw[iadd1 (by omega),if_pos (by rw[ilt_iff,hlen];omega),idx_at (List.getElem?_eq_getElem hk'),bind_some',hQ,bind_some',if_neg (by simp[bnot]),get (k+1) (by omega),bind_some',get k hk',bind_some',bind_some',ilen_def,iadd_eq _ _ (by dsimp only;omega)]
   have e:pl code c (k+1)=pl code c k+((qi code[k] c).length:Int):=by simp[pl,List.getElem?_eq_getElem hk']
   rw[e,if_neg (by simp[ine])]
end Go.Abs
