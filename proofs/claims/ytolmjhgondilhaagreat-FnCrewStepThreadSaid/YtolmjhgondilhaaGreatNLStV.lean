/- The program's ThreadStep where a step may be done. -/
import Derived.Test.YtolmjhgondilhaaGreatNLCHd
set_option linter.unusedSimpArgs false
set_option linter.unusedVariables false
set_option maxHeartbeats 8000000
namespace Go.Abs
open Go

theorem iStep_val {l:List gQuad}{t:gThread}{bx:List gBox}{q:gQuad}(h:Can l t bx q):uD l t bx=some (thrP q t bx):=by
 have hb3:=box_len h.box
 have hbi:=dC h.box
 have hf:=h.fit
 have hl:=h.len
 unfold uD
 rw[(tv_val (by have:=hf.1;omega) (by omega)).1,((tv_val (by have:=hf.1;omega) (by omega)).2.2).2 ⟨h.code,hf⟩,oC bx (by omega) (fun b hb=>by have:=hbi b hb;omega),h.box]
 simp only[if_or,bS']
 rw[if_neg (by simp[bnot]),h.idx,bS',zF,(there_val _ _).1,decide_eq_true h.talk,bS',bS',if_neg (by simp[bnot]),dY,gN,clone_id _ (by have:=hf.1;omega),gL bx (by omega) (fun b hb=>by have:=hbi b hb;omega),bS',bS',thread_step h (o:=[]) (by simp),bS']
 rfl
end Go.Abs
