/- A crew: valid, one step, many steps; two crews in step. -/
import Derived.Test.YtolmjhgondilhaaGreatNThA
set_option linter.unusedSimpArgs false
set_option linter.unusedVariables false
set_option maxHeartbeats 8000000
namespace Go.Abs
open Go

def Talks (l:List gQuad)(m:Nat):Prop:=∀q∈l,q.Op=6\/q.Op=7->q.N<m
structure CrewOk (c:gCrew):Prop where
 many:1<=c.Codes.length/\c.Codes.length<=3
 same:c.Threads.length=c.Codes.length
 box:jC c.Boxes=true
 turn:0<=c.Turn/\c.Turn<c.Codes.length
 idle:0<=c.Idle/\c.Idle<=c.Codes.length
 out:∀x∈c.Out,Wd x
 thr:∀(k:Nat) l t,c.Codes[k]? =some l->c.Threads[k]? =some t->zX false l/\Fit t l.length/\Talks l c.Boxes.length
def nextT (many turn idle k:Int):Int×Int:=if k=1 then(turn,0) else if k=2 then((turn+1) % many,0) else((turn+1) % many,idle+1)
noncomputable def crewG (c:gCrew)(r:gThread×List gBox×List Int×Int):gCrew:=
 ⟨c.Codes,c.Threads.set c.Turn.toNat r.1,r.2.1,(nextT c.Codes.length c.Turn c.Idle r.2.2.2).1,(nextT c.Codes.length c.Turn c.Idle r.2.2.2).2,c.Out++r.2.2.1⟩
noncomputable def crewS (c:gCrew):gCrew:=
 if c.Idle<c.Codes.length then
  match c.Codes[c.Turn.toNat]?,c.Threads[c.Turn.toNat]? with
  |some l,some t=>match l[t.Pc.toNat]? with
   |some q=>crewG c (thrP q t c.Boxes)
   |none=>c
  |_,_=>c
 else c
noncomputable def crewN:Nat->gCrew->gCrew
 |0,c=>c
 |n+1,c=>crewN n (crewS c)
theorem crewN_add (m n:Nat)(c:gCrew):crewN (m+n) c=crewN n (crewN m c):=by
 induction m generalizing c with
 |zero=>rw[Nat.zero_add];rfl
 |succ m ih=>rw[Nat.succ_add];exact ih (crewS c)
theorem crewN_succ (n:Nat)(c:gCrew):crewN (n+1) c=crewS (crewN n c):=crewN_add n 1 c
section
variable {c:gCrew}
theorem CrewOk.now (h:CrewOk c):∃l t q,c.Codes[c.Turn.toNat]? =some l/\c.Threads[c.Turn.toNat]? =some t/\l[t.Pc.toNat]? =some q/\Can l t c.Boxes q/\Talks l c.Boxes.length:=by
 have h1:=h.turn
 have h2:=h.same
 have e1:c.Turn.toNat<c.Codes.length:=by omega
 have e2:c.Turn.toNat<c.Threads.length:=by omega
 have g1:=List.getElem?_eq_getElem e1
 have g2:=List.getElem?_eq_getElem e2
 obtain⟨a1,a2,a3⟩:=h.thr _ _ _ g1 g2
 have e3:(c.Threads[c.Turn.toNat]).Pc.toNat<(c.Codes[c.Turn.toNat]).length:=by
  obtain⟨_,_,p1,p2⟩:=a2;omega
 have g3:=List.getElem?_eq_getElem e3
 exact⟨_,_,_,g1,g2,g3,⟨a1,a2,h.box,g3,fun hq=>a3 _ (List.getElem_mem e3) hq⟩,a3⟩
theorem wQ {l:List gQuad}{t:gThread}{q:gQuad}(hi:c.Idle<c.Codes.length)(h1:c.Codes[c.Turn.toNat]? =some l)(h2:c.Threads[c.Turn.toNat]? =some t)(h3:l[t.Pc.toNat]? =some q):crewS c=crewG c (thrP q t c.Boxes):=by
 unfold crewS
 rw[if_pos hi,h1,h2]
 simp only[h3]
theorem vH (hi:¬c.Idle<c.Codes.length):crewS c=c:=by unfold crewS;rw[if_neg hi]
theorem nextT_in {many turn idle k:Int}(h1:1<=many)(h2:0<=turn/\turn<many)(h3:0<=idle/\idle<many):(0<=(nextT many turn idle k).1/\(nextT many turn idle k).1<many)/\0<=(nextT many turn idle k).2/\(nextT many turn idle k).2<=many:=by
 have m0:=Int.emod_nonneg (turn+1) (show many≠0 by omega)
 have m1:=Int.emod_lt_of_pos (turn+1) (show 0<many by omega)
 unfold nextT
 split
 .exact⟨h2,by simp only;omega⟩
 split
 .exact⟨⟨m0,m1⟩,by simp only;omega⟩
 .exact⟨⟨m0,m1⟩,by simp only;omega⟩
theorem thrP_out {l:List gQuad}{t:gThread}{bx:List gBox}{q:gQuad}(h:Can l t bx q):∀x∈(thrP q t bx).2.2.1,Wd x:=by
 have hf:=h.fit
 refine h.cases (P:=fun r=>∀x∈r.2.2.1,Wd x) ?_ ?_ ?_ ?_ ?_ ?_ ?_ ?_ ?_ ?_ ?_<;>intros<;>first|(simp at*;done)|skip
 .split at* <;>simp at*
 .rename_i k1 k2 x hx
  simp at hx
  rw[hx];exact(yW hf k2).2.1
theorem CrewOk.step (h:CrewOk c):CrewOk (crewS c):=by
 by_cases hi:c.Idle<c.Codes.length
 .obtain⟨l,t,q,h1,h2,h3,h4,h5⟩:=h.now
  rw[wQ hi h1 h2 h3]
  obtain⟨k1,k2,k3⟩:=h4.keeps
  have hlen:(thrP q t c.Boxes).2.1.length=c.Boxes.length:=by have:=congrArg List.length k3;simpa using this
  have hn:=nextT_in (k:=(thrP q t c.Boxes).2.2.2) (show(1:Int)<=c.Codes.length by have:=h.many;omega) h.turn ⟨h.idle.1,hi⟩
  refine⟨h.many,by simp[crewG,h.same],k2,hn.1,hn.2,fun x hx=>?_,fun k l' t' e1 e2=>?_⟩
  .simp only[crewG,List.mem_append] at hx
   rcases hx with hx|hx
   .exact h.out x hx
   .exact thrP_out h4 x hx
  .simp only[crewG] at e1 e2 ⊢
   rw[hlen]
   by_cases hk:c.Turn.toNat=k
   .subst hk
    rw[h1] at e1
    cases e1
    have:c.Turn.toNat<c.Threads.length:=(List.getElem?_eq_some_iff.1 h2).1
    rw[List.getElem?_set_self this] at e2
    cases e2
    exact⟨h4.code,k1,h5⟩
   .rw[List.getElem?_set_ne hk] at e2
    exact h.thr k l' t' e1 e2
 .rw[vH hi];exact h
theorem CrewOk.steps (h:CrewOk c)(n:Nat):CrewOk (crewN n c):=by
 induction n generalizing c with
 |zero=>exact h
 |succ n ih=>exact ih h.step
theorem gE:(crewS c).Codes=c.Codes:=by
 unfold crewS
 split
 .split
  .split<;>rfl
  .rfl
 .rfl
theorem gF (n:Nat):(crewN n c).Codes=c.Codes:=by
 induction n generalizing c with
 |zero=>rfl
 |succ n ih=>exact ih.trans gE
structure Sim (R:Nat->gThread->gThread->Prop) (c d:gCrew):Prop where
 ok:CrewOk c
 ok':CrewOk d
 many:d.Codes.length=c.Codes.length
 box:d.Boxes=c.Boxes
 turn:d.Turn=c.Turn
 idle:d.Idle=c.Idle
 out:d.Out=c.Out
 thr:∀(k:Nat) t u,c.Threads[k]? =some t->d.Threads[k]? =some u->R k t u
theorem Sim.step {R:Nat->gThread->gThread->Prop}{d:gCrew}(h:Sim R c d)
  (hR:∀(k:Nat) l m t u q p bx,c.Codes[k]? =some l->d.Codes[k]? =some m->R k t u->Can l t bx q->Can m u bx p->(thrP p u bx).2=(thrP q t bx).2/\R k (thrP q t bx).1 (thrP p u bx).1):Sim R (crewS c) (crewS d):=by
 by_cases hi:c.Idle<c.Codes.length
 .obtain⟨l,t,q,h1,h2,h3,h4,h5⟩:=h.ok.now
  obtain⟨m,u,p,g1,g2,g3,g4,g5⟩:=h.ok'.now
  have k1:=h.ok.step
  have k2:=h.ok'.step
  rw[wQ hi h1 h2 h3] at k1 ⊢
  rw[wQ (by rw[h.idle,h.many];exact hi) g1 g2 g3] at k2 ⊢
  rw[h.turn] at g1 g2
  rw[h.box] at g4 k2 ⊢
  obtain⟨e,r⟩:=hR _ l m t u q p c.Boxes h1 g1 (h.thr _ t u h2 g2) h4 g4
  refine⟨k1,k2,h.many,?_,?_,?_,?_,fun k t' u' e1 e2=>?_⟩
  .simp only[crewG,e]
  .simp only[crewG,e,h.many,h.turn,h.idle]
  .simp only[crewG,e,h.many,h.turn,h.idle]
  .simp only[crewG,e,h.out]
  .simp only[crewG,h.turn] at e1 e2
   by_cases hk:c.Turn.toNat=k
   .subst hk
    rw[List.getElem?_set_self (List.getElem?_eq_some_iff.1 h2).1] at e1
    rw[List.getElem?_set_self (List.getElem?_eq_some_iff.1 g2).1] at e2
    cases e1;cases e2
    exact r
   .rw[List.getElem?_set_ne hk] at e1 e2
    exact h.thr k t' u' e1 e2
 .rw[vH hi,vH (by rw[h.idle,h.many];exact hi)]
  exact h
theorem Sim.steps {R:Nat->gThread->gThread->Prop}{d:gCrew}(h:Sim R c d)
  (hR:∀(k:Nat) l m t u q p bx,c.Codes[k]? =some l->d.Codes[k]? =some m->R k t u->Can l t bx q->Can m u bx p->(thrP p u bx).2=(thrP q t bx).2/\R k (thrP q t bx).1 (thrP p u bx).1) (n:Nat):Sim R (crewN n c) (crewN n d):=by
 induction n generalizing c d with
 |zero=>exact h
 |succ n ih=>
  refine ih (h.step hR) fun k l m t u q p bx h1 h2=>hR k l m t u q p bx ?_ ?_
  .rwa [gE] at h1
  .rwa [gE] at h2
end
end Go.Abs
