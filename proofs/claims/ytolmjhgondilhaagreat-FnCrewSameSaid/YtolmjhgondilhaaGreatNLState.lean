/- Crews with the same threads are told to be alike. -/
import Derived.Test.YtolmjhgondilhaaGreatNLCHd
import Derived.Test.YtolmjhgondilhaaGreatNCNCrewSame
set_option linter.unusedSimpArgs false
set_option linter.unusedVariables false
set_option maxHeartbeats 8000000
namespace Go.Abs
open Go

theorem sameState_of {c d:gCrew}(hs:SmallCr c)(hl:d.Threads=c.Threads)(ht:d.Turn=c.Turn)(hi:d.Idle=c.Idle)(hb:d.Boxes=c.Boxes)(ho:d.Out=c.Out):jC c d=some true:=by
 have hth:=hs.thr
 have hT:=sameTalk_of hs (by rw[hl]) ht hi hb ho fun k t u a b=>by rw[hl,a] at b;cases b;rfl
 unfold jC
 rw[hl,if_neg (by simp[ine])]
 have:=kX (step:=yG c d) (s0:=(0:Int)) c.Threads.length (fun k=>(k:Int)) (.inl ()) rfl (fun k hk=>?_) ?_
 .rw[this,bS']
  dsimp only
  rw[hT]
  rfl
 .unfold yG
  dsimp only
  have g:=List.getElem?_eq_getElem hk
  rw[hl,if_pos (by rw[zF];unfold ilen;omega),zY g]
  simp only[bS',mA c.Threads[k] (by have:=hs.regs _ (List.getElem_mem hk);omega)]
  rw[show bnot true=false from rfl,if_neg (by decide),iadd1 (by omega)]
 .unfold yG
  dsimp only
  rw[if_neg (by rw[zF];unfold ilen;omega)]
theorem Sim.threads {c d:gCrew}(h:Sim (fun _ t u=>u=t) c d):d.Threads=c.Threads:=by
 have hl:d.Threads.length=c.Threads.length:=by rw[h.ok'.same,h.ok.same,h.many]
 refine List.ext_getElem hl fun k h1 h2=>?_
 exact h.thr k _ _ (List.getElem?_eq_getElem h2) (List.getElem?_eq_getElem h1)
theorem Sim.state {c d:gCrew}(h:Sim (fun _ t u=>u=t) c d)(hs:SmallCr c):jC c d=some true:=sameState_of hs h.threads h.turn h.idle h.box h.out
end Go.Abs
