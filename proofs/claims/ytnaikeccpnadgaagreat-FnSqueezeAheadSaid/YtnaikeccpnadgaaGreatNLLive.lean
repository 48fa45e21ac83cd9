/- Live registers as the program finds them: sets of bits. -/
import Derived.Test.YtnaikeccpnadgaaGreatNLCHd
import Derived.Laws.BitsAllLaws
set_option linter.unusedSimpArgs false
set_option linter.unusedVariables false
set_option maxHeartbeats 8000000
namespace Go.Abs
open Go

def bt (s:Int)(r:Nat):Bool:=s.toNat.testBit r
def S12 (s:Int):Prop:=0<=s/\s<4096
theorem bv16 {a:Int}(h:S12 a):(BitVec.ofInt 16 a).toNat=a.toNat:=by
 unfold S12 at h
 rw[BitVec.toNat_ofInt];simp;omega
theorem bt_bv {a:Int}(h:S12 a)(r:Nat):(BitVec.ofInt 16 a).getLsbD r=bt a r:=by
 unfold bt BitVec.getLsbD
 rw[bv16 h]
theorem ofBv {x:BitVec 16}{f:Nat->Bool}(h:x.toNat<4096)(hf:∀r,r<12->x.getLsbD r=f r):S12 (IntKind.u16.wrap (x.toNat:Int))/\∀r,r<12->bt (IntKind.u16.wrap (x.toNat:Int)) r=f r:=by
 have e:IntKind.u16.wrap (x.toNat:Int)=(x.toNat:Int):=by rw[IntKind.wrap_u16];omega
 rw[e]
 exact⟨by unfold S12;omega,fun r hr=>by rw[<- hf r hr];rfl⟩
theorem ior12 {a b:Int}(ha:S12 a)(hb:S12 b):S12 (ior .u16 a b)/\∀r,r<12->bt (ior .u16 a b) r=(bt a r||bt b r):=by
 refine ofBv (x:=BitVec.ofInt 16 a|||BitVec.ofInt 16 b) ?_ fun r _=>?_
 .rw[BitVec.toNat_or,bv16 ha,bv16 hb]
  unfold S12 at ha hb
  exact Nat.or_lt_two_pow (n:=12) (by omega) (by omega)
 .rw[BitVec.getLsbD_or,bt_bv ha,bt_bv hb]
theorem inot12 {a b:Int}(ha:S12 a)(hb:S12 b):S12 (iandNot .u16 a b)/\∀r,r<12->bt (iandNot .u16 a b) r=(bt a r&& !bt b r):=by
 refine ofBv (x:=BitVec.ofInt 16 a&&& ~~~(BitVec.ofInt 16 b)) ?_ fun r hr=>?_
 .rw[BitVec.toNat_and,bv16 ha]
  unfold S12 at ha
  exact Nat.lt_of_le_of_lt Nat.and_le_left (by omega)
 .rw[BitVec.getLsbD_and,BitVec.getLsbD_not,bt_bv ha,bt_bv hb,decide_eq_true (show r<16 by omega),Bool.true_and]
theorem shl12 {x:Int}(h:Rg x):∃v,shlx .u16 1 x=some v/\S12 v/\∀r,bt v r=decide ((r:Int)=x):=by
 obtain⟨j,hj,rfl⟩:=rg_nat h
 have e:(2:Nat) ^ j<4096:=by
  have:(2:Nat) ^ j<2 ^ 12:=Nat.pow_lt_pow_right (by omega) hj
  omega
 have hv:S12 ((2 ^ j:Nat):Int):=by
  generalize (2:Nat) ^ j=v at e
  unfold S12;omega
 refine⟨((2 ^ j:Nat):Int),?_,hv,fun r=>?_⟩
 .unfold shlx
  rw[if_neg (by omega),show(j:Int).toNat=j from rfl,show min j IntKind.u16.bits=j from Nat.min_eq_left (by show j<=16;omega),IntKind.wrap_u16]
  congr 1
  have c:(1:Int)*2 ^ j=((2 ^ j:Nat):Int):=by simp
  rw[c]
  unfold S12 at hv
  generalize ((2 ^ j:Nat):Int)=v at hv
  omega
 .unfold bt
  rw[Int.toNat_natCast,Nat.testBit_two_pow]
  rw[decide_eq_decide];omega
theorem has12 {s x:Int}(hs:S12 s)(h:Rg x):jY s x=some (bt s x.toNat):=by
 obtain⟨j,hj,rfl⟩:=rg_nat h
 unfold jY shrx
 rw[if_neg (by omega),bS',show(j:Int).toNat=j from rfl,show min j IntKind.u16.bits=j from Nat.min_eq_left (by show j<=16;omega)]
 have e:s.fdiv (2 ^ j)=((s.toNat / 2 ^ j:Nat):Int):=by
  have h0:=hs.1
  rw[Int.fdiv_eq_ediv_of_nonneg _ (by exact Int.pow_nonneg (by omega))]
  rw[show s=((s.toNat:Nat):Int) from(Int.toNat_of_nonneg h0).symm]
  push_cast
  rfl
 have h1:s.toNat / 2 ^ j<4096:=Nat.lt_of_le_of_lt (Nat.div_le_self _ _) (by unfold S12 at hs;omega)
 rw[e]
 refine congrArg some ?_
 have hw:S12 ((s.toNat / 2 ^ j:Nat):Int):=by
  generalize s.toNat / 2 ^ j=w at h1
  unfold S12;omega
 unfold iand
 rw[show IntKind.u16.bits=16 from rfl,BitVec.toNat_and,bv16 hw,bv16 (a:=1) (by unfold S12;omega),Int.toNat_natCast,IntKind.wrap_u16]
 unfold bt
 rw[Nat.testBit_eq_decide_div_mod_eq,show(1:Int).toNat=1 from rfl,Nat.and_one_is_mod,ieq_d,decide_eq_decide]
 omega
theorem usesI {q:gQuad}{m:Int}(hq:QV false q m):∃u,cL q=some u/\S12 u/\∀r,r<12->bt u r=(usesQ q).contains (r:Int):=by
 have hu:=uses_in hq
 unfold cL usesQ at*
 have e:(if ieq q.Op 2=true then some (ieq q.Op 2) else if ieq q.Op 5=true then some (ieq q.Op 5) else if ieq q.Op 6=true then some (ieq q.Op 6) else some (ieq q.Op 9))=some (decide (q.Op=2\/q.Op=5\/q.Op=6\/q.Op=9)):=by
  simp only[ieq_d,decide_eq_true_iff]
  by_cases h2:q.Op=2
  .simp[h2]
  by_cases h5:q.Op=5
  .simp[h5]
  by_cases h6:q.Op=6
  .simp[h6]
  simp[h2,h5,h6]
 rw[e,bS']
 by_cases h:q.Op=2\/q.Op=5\/q.Op=6\/q.Op=9
 .rw[if_pos h] at hu ⊢
  rw[decide_eq_true h,if_pos rfl]
  obtain⟨v,e1,e2,e3⟩:=shl12 (hu q.A (by simp))
  rw[e1]
  exact⟨v,rfl,e2,fun r hr=>by rw[e3];simp⟩
 .rw[if_neg h] at hu ⊢
  rw[decide_eq_false h,if_neg (by simp)]
  by_cases h3:q.Op=3
  .rw[if_pos h3] at hu ⊢
   rw[if_pos (by rw[zM];exact h3)]
   have hAB:Rg q.A/\Rg q.B:=by
    rcases hq with k|k|k|k|k|k|k|k|k|k
    case inr.inr.inl=>exact⟨k.2.2.1,k.2.2.2.1⟩
    all_goals (have:=k.1;omega)
   obtain⟨v,e1,e2,e3⟩:=shl12 hAB.1
   obtain⟨w,f1,f2,f3⟩:=shl12 hAB.2
   rw[e1,bS',f1,bS']
   obtain⟨g1,g2⟩:=ior12 e2 f2
   refine⟨_,rfl,g1,fun r hr=>?_⟩
   rw[g2 r hr,e3,f3,Bool.eq_iff_iff]
   by_cases he:q.A=q.B
   .rw[if_pos he,he];simp
   .rw[if_neg he]
    unfold imin imax
    simp only[Bool.or_eq_true,decide_eq_true_iff,List.contains_cons,List.contains_nil,Bool.or_false,beq_iff_eq]
    split<;>split<;>omega
  .rw[if_neg h3,if_neg (by rw[zM];exact h3)]
   exact⟨0,rfl,by unfold S12;omega,fun r _=>by simp[bt]⟩
theorem setsI (q:gQuad):fU q=some (setsQ q):=by
 unfold fU setsQ
 simp only[ieq_d,decide_eq_true_iff]
 by_cases h1:q.Op=1
 .simp[h1]
 by_cases h2:q.Op=2
 .simp[h2]
 by_cases h3:q.Op=3
 .simp[h3]
 by_cases h7:q.Op=7
 .simp[h7]
 simp[h1,h2,h3,h7]
theorem nextI {l:List gQuad}{k:Nat}(hk:k<l.length)(h1:l.length<=1000000):vS l[k] (k:Int)=some (nxt l k):=by
 unfold vS nxt
 rw[List.getElem?_eq_getElem hk,iadd1 (by omega)]
 simp only[yR,bS']
 by_cases h10:l[k].Op=10
 .rw[if_pos ((zM _ _).2 h10),if_pos h10]
 rw[if_neg (by rw[zM];exact h10),if_neg h10]
 by_cases h4:l[k].Op=4
 .rw[if_pos ((zM _ _).2 h4),if_pos h4]
 rw[if_neg (by rw[zM];exact h4),if_neg h4]
 by_cases h5:l[k].Op=5/\l[k].N<(k:Int)+1
 .rw[if_pos (by rw[Bool.and_eq_true,zM,zC];exact h5),if_pos h5];rfl
 rw[if_neg (by rw[Bool.and_eq_true,zM,zC];exact h5),if_neg h5]
 by_cases h6:l[k].Op=5/\l[k].N>(k:Int)+1
 .rw[if_pos (by rw[Bool.and_eq_true,zM,yD];exact h6),if_pos h6];rfl
 rw[if_neg (by rw[Bool.and_eq_true,zM,yD];exact h6),if_neg h6];rfl
def rowsI (S:List Int):List (List Bool):=S.map fun s=>F12 (bt s)
def dE (n:Nat)(S:List Int):Prop:=S.length=n/\∀s∈S,S12 s
theorem rowsI_12 {n:Nat}{S:List Int}(h:dE n S):pG n (rowsI S):=by
 refine⟨by simp[rowsI,h.1],fun row hr=>?_⟩
 simp only[rowsI,List.mem_map] at hr
 obtain⟨s,_,rfl⟩:=hr
 exact uB _
theorem rowsI_lv {S:List Int}{x:Int}{s:Int}(h:S[x.toNat]? =some s){r:Nat}(hr:r<12):lv (rowsI S) x r=bt s r:=by
 unfold lv rowsI
 simp[List.getD_eq_getElem?_getD,h,mK _ hr]
theorem behindI {l:List gQuad}(hc:zU false l){S:List Int}(hS:dE l.length S){k:Nat}(hk:k<l.length):∃a,wM l S (k:Int)=some a/\S12 a/\∀r,r<12->bt a r=aft l (rowsI S) k r:=by
 have hl:=hc.1
 unfold wM
 rw[zQ (List.getElem?_eq_getElem hk),bS',nextI hk (by omega),bS']
 obtain⟨n2,nin⟩:=nY hc hk
 have key:Ok (loopM (vT S (nxt l k)) (0,0)) (fun a=>S12 a/\∀r,r<12->bt a r=(nxt l k).any fun x=>lv (rowsI S) x r):=by
  refine Ok.loop (fun s:Int×Int=>∃i:Nat,s.2=(i:Int)/\i<=(nxt l k).length/\S12 s.1/\∀r,r<12->bt s.1 r=((nxt l k).take i).any fun x=>lv (rowsI S) x r) (fun s=>(nxt l k).length-s.2.toNat) _ ⟨0,rfl,by omega,by unfold S12;omega,fun r _=>by simp[bt]⟩ ?_
  rintro⟨a,_⟩ ⟨i,rfl,h1,h2,h3⟩
  simp only at h2 h3
  unfold vT
  dsimp only
  rw[iadd1 (by omega)]
  refine Ok.ite (fun hi=>?_) fun hi=>?_
  .rw[zC,zB] at hi
   have hi':i<(nxt l k).length:=by omega
   have hx:=nin _ (List.getElem_mem hi')
   have hs:((nxt l k)[i]).toNat<S.length:=by rw[hS.1];omega
   have g:=List.getElem?_eq_getElem hs
   rw[zQ (List.getElem?_eq_getElem hi'),bS',fJ hx.1 g,bS']
   obtain⟨g1,g2⟩:=ior12 h2 (hS.2 _ (List.getElem_mem hs))
   refine Ok.pure ⟨⟨i+1,rfl,by omega,g1,fun r hr=>?_⟩,by simp only;omega⟩
   rw[g2 r hr,h3 r hr,List.take_add_one,List.getElem?_eq_getElem hi',<- rowsI_lv g hr,List.any_append]
   simp only[Option.toList_some,List.any_cons,List.any_nil,Bool.or_false]
  .rw[zC,zB] at hi
   have:i=(nxt l k).length:=by omega
   subst this
   rw[List.take_length] at h3
   exact Ok.pure ⟨h2,h3⟩
 obtain⟨a,e,ha⟩:=key
 rw[e]
 exact⟨a,rfl,ha⟩
def Post (l:List gQuad)(P:List (List Bool)):Prop:=∀(k:Nat) (q:gQuad),l[k]? =some q->∀r,r<12->bef q (aft l P k) r=true->lv P (k:Int) r=true
def Least (l:List gQuad)(cur:List (List Bool)):Prop:=∀P,Post l P->∀x:Int,(0<=x/\x<l.length)->∀r,r<12->lv cur x r=true->lv P x r=true
theorem rowsI_set (S:List Int)(k:Nat)(s:Int):rowsI (S.set k s)=(rowsI S).set k (F12 (bt s)):=by unfold rowsI;rw[List.map_set]
theorem roundI {l:List gQuad}(hc:zU false l){S:List Int}(h:dE l.length S)(hm:MonoL l (rowsI S))(hp:Least l (rowsI S)):
  Ok (loopM (vU l) (false,(l.length:Int)-1,S)) (fun e=>dE l.length e.2/\MonoL l (rowsI e.2)/\Least l (rowsI e.2)/\(e.1=true->wsum wB (rowsI e.2)<wsum wB (rowsI S))/\(e.1=false->FixL l (rowsI e.2)/\e.2=S)):=by
 have hl:=hc.1
 refine Ok.loop (fun s:Bool×Int×List Int=>∃k:Nat,s.2.1=(k:Int)-1/\k<=l.length/\dE l.length s.2.2/\MonoL l (rowsI s.2.2)/\Least l (rowsI s.2.2)/\(s.1=true->wsum wB (rowsI s.2.2)<wsum wB (rowsI S))/\(s.1=false->s.2.2=S/\∀j,k<=j->j<l.length->(rowsI S)[j]? =some (LB (rowsI S) l j))) (fun s=>(s.2.1+1).toNat) _ ⟨l.length,rfl,by omega,h,hm,hp,by simp,fun _=>⟨rfl,fun j h1 h2=>by omega⟩⟩ ?_
 rintro⟨fr,at',cur⟩ ⟨k,h1,h2,h3,h4,h7,h5,h6⟩
 simp only at h1 h2 h3 h4 h5 h6 h7
 subst h1
 unfold vU
 dsimp only
 refine Ok.ite (fun hi=>?_) fun hi=>?_
 .rw[uK] at hi
  obtain⟨i,rfl⟩:∃i,k=i+1:=⟨k-1,by omega⟩
  have ei:((i+1:Nat):Int)-1=(i:Int):=by omega
  have ed:isub .i64 (i:Int) 1=(i:Int)-1:=yG _ _ (by omega)
  have hil:i<l.length:=by omega
  have hic:i<cur.length:=by rw[h3.1];exact hil
  have g:=List.getElem?_eq_getElem hil
  have gc:=List.getElem?_eq_getElem hic
  have hq:=hc.2.1 _ (List.getElem_mem hil)
  have hR:=rowsI_12 h3
  obtain⟨a,a1,a2,a3⟩:=behindI hc h3 hil
  obtain⟨u,u1,u2,u3⟩:=usesI hq
  rw[ei,a1,bS']
  simp only[zQ g,bS',setsI,u1,zQ gc]
  have e1:∃b,((if ige (setsQ l[i]) 0=true then(shlx .u16 1 (setsQ l[i])).bind fun v18=>some (iandNot .u16 a v18) else some a):Option Int)=some b/\S12 b/\∀r,r<12->bt b r=((setsQ l[i] !=(r:Int))&&aft l (rowsI cur) i r):=by
   rcases sets_in hq with hx|hx
   .rw[hx,if_neg (by decide)]
    refine⟨a,rfl,a2,fun r hr=>?_⟩
    have:((-1:Int) !=(r:Int))=true:=by simp
    rw[this,Bool.true_and,a3 r hr]
   .obtain⟨v,v1,v2,v3⟩:=shl12 hx
    rw[if_pos (by rw[uK];exact hx.1),v1,bS']
    obtain⟨w1,w2⟩:=inot12 a2 v2
    refine⟨_,rfl,w1,fun r hr=>?_⟩
    rw[w2 r hr,v3,a3 r hr,Bool.and_comm]
    congr 1
    rw[Bool.eq_iff_iff]
    simp only[Bool.not_eq_true',decide_eq_false_iff_not,bne_iff_ne,ne_eq]
    exact⟨fun x y=>x y.symm,fun x y=>x y.symm⟩
  obtain⟨b,b1,b2,b3⟩:=e1
  rw[b1,bS']
  obtain⟨o1,o2⟩:=ior12 b2 u2
  have hbits:F12 (bt (ior .u16 b u))=F12 (bef l[i] (aft l (rowsI cur) i)):=by
   refine dU fun r hr=>?_
   rw[o2 r hr,b3 r hr,u3 r hr,Bool.or_comm]
   rfl
  have eLB:LB (rowsI cur) l i=F12 (bef l[i] (aft l (rowsI cur) i)):=by unfold LB;rw[g]
  have hrow:(rowsI cur)[i]? =some (F12 (bt cur[i])):=by unfold rowsI;rw[List.getElem?_map,gc];rfl
  rw[ed]
  have ml:∀j:Nat,(F12 (bt cur[i]))[j]? =some true->(F12 (bef l[i] (aft l (rowsI cur) i)))[j]? =some true:=by
   intro j hj
   have hj12:j<12:=by
    rcases Nat.lt_or_ge j 12 with h|h
    .exact h
    .rw[List.getElem?_eq_none (by rw[uB];exact h)] at hj;cases hj
   rw[mK _ hj12] at hj ⊢
   refine congrArg some (h4 i _ g j hj12 ?_)
   rw[rowsI_lv (x:=(i:Int)) (s:=cur[i]) gc hj12]
   exact Option.some.inj hj
  have hw:=wB_lt _ _ (by rw[uB,uB]) ml
  refine Ok.ite (fun hb=>?_) fun hb=>?_
  .rw[pP _ (zQ gc),bS',Int.toNat_natCast]
   have hne:F12 (bef l[i] (aft l (rowsI cur) i))≠F12 (bt cur[i]):=by
    rw[<- hbits]
    intro e
    rw[jW] at hb
    apply hb
    have hcs:=h3.2 _ (List.getElem_mem hic)
    have:(ior .u16 b u).toNat=(cur[i]).toNat:=by
     refine Nat.eq_of_testBit_eq fun r=>?_
     rcases Nat.lt_or_ge r 12 with hr|hr
     .exact F12_inj e hr
     .rw[Nat.testBit_lt_two_pow,Nat.testBit_lt_two_pow]
      .have:(2:Nat) ^ 12<=2 ^ r:=Nat.pow_le_pow_right (by omega) hr
       unfold S12 at hcs;omega
      .have:(2:Nat) ^ 12<=2 ^ r:=Nat.pow_le_pow_right (by omega) hr
       unfold S12 at o1;omega
    have q1:=o1.1
    have q2:=hcs.1
    omega
   have hset:rowsI (cur.set i (ior .u16 b u))=(rowsI cur).set i (F12 (bef l[i] (aft l (rowsI cur) i))):=by rw[rowsI_set,hbits]
   refine Ok.pure ⟨⟨i,rfl,by omega,⟨by simp[h3.1],fun s hs=>?_⟩,?_⟩,by simp only;omega⟩
   .rcases List.mem_or_eq_of_mem_set hs with hs|rfl
    .exact h3.2 s hs
    .exact o1
   simp only
   rw[hset]
   have mono:∀(x:Int),0<=x->∀r,r<12->lv (rowsI cur) x r=true->lv ((rowsI cur).set i (F12 (bef l[i] (aft l (rowsI cur) i)))) x r=true:=by
    intro x hx r hr hv
    rw[lv_set hR hil _ x hx hr]
    split
    .rename_i e;subst e;exact h4 i _ g r hr hv
    .exact hv
   have amono:∀k,k<l.length->∀r,r<12->aft l (rowsI cur) k r=true->aft l ((rowsI cur).set i (F12 (bef l[i] (aft l (rowsI cur) i)))) k r=true:=by
    intro k hk r hr hv
    unfold aft at*
    rw[List.any_eq_true] at*
    obtain⟨x,hx,hx2⟩:=hv
    exact⟨x,hx,mono x ((nY hc hk).2 x hx).1 r hr hx2⟩
   refine⟨?_,?_,fun _=>?_,fun h=>by cases h⟩
   .intro k q hkq r hr hv
    have hkl:k<l.length:=(List.getElem?_eq_some_iff.1 hkq).1
    refine bef_mono (amono k hkl r hr) ?_
    rw[lv_set hR hil _ _ (by omega) hr] at hv
    split at hv
    .rename_i e
     have:k=i:=by omega
     subst this
     rw[g] at hkq
     cases hkq
     exact hv
    .exact h4 k q hkq r hr hv
   .intro P hP x hx r hr hv
    rw[lv_set hR hil _ x hx.1 hr] at hv
    split at hv
    .rename_i e
     rw[e]
     refine hP i _ g r hr (bef_mono (fun ha=>?_) hv)
     unfold aft at ha ⊢
     rw[List.any_eq_true] at ha ⊢
     obtain⟨y,hy,hy2⟩:=ha
     exact⟨y,hy,h7 P hP y ((nY hc hil).2 y hy) r hr hy2⟩
    .exact h7 P hP x hx r hr hv
   .have hs:=fI wB (y:=F12 (bef l[i] (aft l (rowsI cur) i))) (rowsI cur) i hrow
    have:=hw.2 fun e=>hne e.symm
    have hcl:wsum wB (rowsI cur)<=wsum wB (rowsI S):=by
     cases fr with
     |true=>exact Nat.le_of_lt (h5 rfl)
     |false=>rw[(h6 rfl).1];exact Nat.le_refl _
    omega
  .have heq:ior .u16 b u=cur[i]:=by rw[jW] at hb;exact Classical.not_not.1 hb
   refine Ok.pure ⟨⟨i,rfl,by omega,h3,h4,h7,h5,fun hf=>⟨(h6 hf).1,fun j hj1 hj2=>?_⟩⟩,by simp only;omega⟩
   rcases Nat.eq_or_lt_of_le hj1 with rfl|hlt
   .have:=(h6 hf).1
    subst this
    rw[hrow,eLB,<- hbits,heq]
   .exact(h6 hf).2 j (by omega) hj2
 .rw[uK] at hi
  have:k=0:=by omega
  subst this
  refine Ok.pure ⟨h3,h4,h7,h5,fun hf=>?_⟩
  have:=h6 hf
  simp only at this ⊢
  rw[this.1]
  exact⟨fun j hj=>this.2 j (by omega) hj,rfl⟩
theorem Ok.liveI {l:List gQuad}(hc:zU false l):Ok (yP l) (fun S=>dE l.length S/\FixL l (rowsI S)/\Least l (rowsI S)):=by
 unfold yP
 have hl:=hc.1
 have hm:makex 2 (ilen l) (0:Int)=some (List.replicate l.length 0):=by
  unfold makex ilen
  rw[if_pos (by unfold maxLen;omega)]
  simp
 have hz:∀(x:Int) (r:Nat),r<12->lv (rowsI (List.replicate l.length 0)) x r=false:=by
  intro x r hr
  unfold lv rowsI
  simp only[List.map_replicate,List.getD_eq_getElem?_getD,List.getElem?_replicate]
  split<;>simp[mK _ hr,bt]
 have hM0:MonoL l (rowsI (List.replicate l.length 0)):=fun k q hk r hr hv=>by rw[hz _ r hr] at hv;cases hv
 have hP0:Least l (rowsI (List.replicate l.length 0)):=fun P _ x _ r hr hv=>by rw[hz _ r hr] at hv;cases hv
 rw[hm,bS']
 refine Ok.bind (P:=fun S=>dE l.length S/\FixL l (rowsI S)/\Least l (rowsI S)) ?_ fun S hS=>Ok.pure hS
 refine Ok.loop (fun s:Bool×List Int=>dE l.length s.2/\MonoL l (rowsI s.2)/\Least l (rowsI s.2)/\(s.1=false->FixL l (rowsI s.2))) (fun s=>2*wsum wB (rowsI s.2)+(if s.1=true then 1 else 0)) _ ⟨⟨by simp,fun s hs=>by rw[List.eq_of_mem_replicate hs];unfold S12;omega⟩,hM0,hP0,fun h=>by cases h⟩ ?_
 rintro⟨fl,S⟩ ⟨h1,h2,h3,h4⟩
 simp only at h1 h2 h3 h4
 unfold qX
 dsimp only
 refine Ok.ite (fun hf=>?_) fun hf=>Ok.pure ⟨h1,h4 (by simpa using hf),h3⟩
 rw[zB,yG _ _ (by omega)]
 refine Ok.bind (roundI hc h1 h2 h3) fun e he=>?_
 obtain⟨b,S'⟩:=e
 obtain⟨g1,g2,g3,g4,g5⟩:=he
 simp only at g1 g2 g3 g4 g5
 refine Ok.pure ⟨⟨g1,g2,g3,fun h=>(g5 h).1⟩,?_⟩
 simp only[hf,if_true]
 cases b with
 |true=>have:=g4 rfl;simp only[if_true];omega
 |false=>rw[(g5 rfl).2];simp
end Go.Abs

/- Threads that agree on what is live. -/
set_option linter.unusedSimpArgs false
set_option linter.unusedVariables false
set_option maxHeartbeats 8000000
namespace Go.Abs
open Go

theorem fix_lv {l:List gQuad}{live:List (List Bool)}(hf:FixL l live){k:Nat}{q:gQuad}(hq:l[k]? =some q){x:Int}(hx:x=(k:Int)){r:Nat}(hr:r<12):lv live x r=bef q (aft l live k) r:=by
 have hk:=(List.getElem?_eq_some_iff.1 hq).1
 have:=hf k hk
 unfold LB at this
 rw[hq] at this
 subst hx
 unfold lv
 simp[List.getD_eq_getElem?_getD,this,mK _ hr]
def LvR (l:List gQuad)(live:List (List Bool))(t u:gThread):Prop:=u.Pc=t.Pc/\∀r:Nat,r<12->lv live t.Pc r=true->rgv u r=rgv t r
theorem aft_of {l:List gQuad}{live:List (List Bool)}{k r:Nat}{x:Int}(h:x∈nxt l k)(hv:lv live x r=true):aft l live k r=true:=by
 unfold aft
 rw[List.any_eq_true]
 exact⟨x,h,hv⟩
theorem LvR.same {l m:List gQuad}{live:List (List Bool)}(hf:FixL l live){t u:gThread}{bx:List gBox}{q:gQuad}(h:Can l t bx q)(h':Can m u bx q)(hr:LvR l live t u):(thrP q u bx).2=(thrP q t bx).2/\LvR l live (thrP q t bx).1 (thrP q u bx).1:=by
 obtain⟨e,hv⟩:=hr
 have hpc:t.Pc=((t.Pc.toNat:Nat):Int):=(Int.toNat_of_nonneg h.fit.2.2.1).symm
 have hu:∀x∈usesQ q,rgv u x=rgv t x:=by
  intro x hx
  obtain⟨j,hj,rfl⟩:=rg_nat (uses_in h.qv x hx)
  refine hv j hj ?_
  rw[fix_lv hf h.at' hpc hj]
  unfold bef
  rw[Bool.or_eq_true]
  exact .inl (by simpa using hx)
 obtain⟨a1,a2,a3⟩:=same_step h h' e hu
 refine⟨a1,a2,fun r hr hl=>?_⟩
 rcases a3 with⟨b1,b2⟩|b
 .rw[b1] at hl ⊢
  rw[b2];exact hv r hr hl
 .obtain⟨c1,c2⟩:=b r hr
  by_cases hs:(r:Int)=setsQ q
  .exact c1 hs
  .obtain⟨d1,d2⟩:=c2 hs
   rw[d1,d2]
   rcases h.pcs with hp|hp
   .refine hv r hr ?_
    rw[fix_lv hf h.at' hpc hr]
    unfold bef
    rw[Bool.or_eq_true,Bool.and_eq_true]
    refine .inr ⟨?_,aft_of hp hl⟩
    rw[bne_iff_ne]
    exact fun e=>hs e.symm
   .rw[hp] at hl
    exact hv r hr hl
noncomputable def liveG (l:List gQuad):List (List Bool):=match yP l with|some S=>rowsI S|none=>[]
def DeadR (codes:List (List gQuad))(k:Nat)(t u:gThread):Prop:=∀l,codes[k]? =some l->LvR l (liveG l) t u
end Go.Abs
