/- laws.FnSqueezeRun's mirror: true for each code. -/
import Derived.Test.YtnaikeccpnadgaaGreatNLSq
import Derived.Test.YtnaikeccpnadgaaGreatNBNSqueezeRun
import Derived.Test.YtnaikeccpnadgaaGreatNLRest
set_option linter.unusedSimpArgs false
set_option linter.unusedVariables false
set_option maxHeartbeats 8000000
namespace Go.Abs
open Go

theorem SR.rest {c d:gCrew}(h:SR c d)(hc:CrewOk c)(hi:¬c.Idle<c.Codes.length):¬d.Idle<d.Codes.length/\outc d=outc c:=by
 have hcl:=hc.idle
 have hdl:=h.ok'.idle
 have hm:=h.many
 have hnd:¬d.Idle<d.Codes.length:=fun hd=>by have:=(h.turn hd).2;omega
 refine⟨hnd,?_⟩
 have hlen:d.Threads.length=c.Threads.length:=by rw[h.ok'.same,h.ok.same,h.many]
 have hsame:=hc.same
 unfold outc
 rw[h.out,h.box,hlen,show d.Idle=c.Idle by omega]
 congr 1
 refine List.map_congr_left fun k hk=>?_
 have hk1:k<c.Threads.length:=List.mem_range.1 hk
 have hk2:k<c.Codes.length:=by omega
 have a1:=List.getElem?_eq_getElem hk2
 have a2:=List.getElem?_eq_getElem hk1
 have b1:=List.getElem?_eq_getElem (show k<d.Codes.length by omega)
 have b2:=List.getElem?_eq_getElem (show k<d.Threads.length by omega)
 obtain⟨r1,r2,r3⟩:=h.thr k _ _ _ a1 a2 b2
 obtain⟨z1,z2⟩:=h.codes k _ _ a1 b1
 obtain⟨c1,c2,c3⟩:=hc.thr k _ _ a1 a2
 have hp:c.Threads[k].Pc.toNat<c.Codes[k].length:=by obtain⟨_,_,p1,p2⟩:=c2;omega
 have a3:=List.getElem?_eq_getElem hp
 have hCan:Can c.Codes[k] c.Threads[k] c.Boxes _:=⟨c1,c2,hc.box,a3,fun hq=>c3 _ (List.getElem_mem hp) hq⟩
 have hkind:=h.rc.all hc hi a1 a2 a3
 have he:effB (c.Codes[k][c.Threads[k].Pc.toNat]) c.Threads[k].Pc.toNat=true:=by
  cases he:effB (c.Codes[k][c.Threads[k].Pc.toNat]) c.Threads[k].Pc.toNat with
  |true=>rfl
  |false=>
   rw[idle_step hCan he] at hkind
   simp at hkind
 have hkeep:keepB c.Codes[k] (tV c.Codes[k]) c.Threads[k].Pc.toNat=true:=by
  unfold keepB;rw[a3]
  simp[he,r2.2]
 have hpu:=z2.2 _ _ a3 hkeep
 have hop:∀q:gQuad,(sqQ c.Codes[k] (tV c.Codes[k]) q).Op=q.Op:=by intro q;unfold sqQ;split<;>rfl
 simp only[a1,a2,b1,b2,a3,r3,Int.toNat_natCast,hpu,hop]
theorem fnSqueezeRun_true (l:List Int)(hb:Bytes l)(hl:l.length<=maxLen):uP l=some true:=by
 unfold uP
 refine headC1 hb hl fun r z1 z2 z3 hC h0=>?_
 have hcode:=codes_ok hC
 rw[pass_loop r.2 kP sqG (by have:=z2.1;omega) (fun x hx=>(sqG_val (hcode x hx)).1) (fun i o=>rfl),bS']
 obtain⟨hD,hS⟩:=SR.start hC
 dsimp only
 rw[restsAs_true (R:=SR) (fun c d h=>h.step) (fun c d h=>h.rest) (by omega) z3 hC hD hS (by decide)]
 rfl
end Go.Abs
