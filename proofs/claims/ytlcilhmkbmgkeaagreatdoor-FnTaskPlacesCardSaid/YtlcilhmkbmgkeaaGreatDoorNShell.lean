/- From a contract of the abstract run to a call from plain data. -/
import Derived.Test.YtlcilhmkbmgkeaaGreatDoorNAbsN
import Derived.Below
import Derived.Carry
import Derived.ChangeOld
import Derived.OpenShut
import Derived.LaidMore
set_option linter.unusedSimpArgs false
set_option linter.unusedVariables false
namespace Go.Abs
open Go Go.RowKit Go.WideElems

def noObj:AHeap:=⟨fun _=>none,0⟩
def phi0:Phi:=⟨fun _=>none,noObj,fun _=>False⟩
theorem own_noObj (φ:Phi0) (b:Nat):¬own0 φ noObj b:=by
 rintro⟨o,ob,sz,h,_⟩
 cases h
theorem R_noObj {G:Globs} {w:World} (hg:∀g cs,G g=some cs→VRel (fun _=>none) (own0 (fun _=>none) noObj) w (.fptr cs 0) (.pointer (some ⟨g,0,none⟩))):R G phi0 noObj w:=
 ⟨⟨fun _ _=>⟨rfl,rfl⟩,fun _ _ h=>by(cases h),fun _ _ _ _ _ _ _ h=>by(cases h),hg⟩,rfl,fun _=>none,⟨fun _ _ h=>by(cases h),fun _ _ h=>by(cases h),fun _ h=>by(cases h)⟩⟩

theorem pure_calls {P:Program} {G:Globs} {f:FuncId} {args:List AV} {r:AV} (h:APure P G f args r) {w:World} (hR:R G phi0 noObj w) {vs:Array Value} (ha:ArgsRel (fun _=>none) (own0 (fun _=>none) noObj) w args vs):
  Calls P f vs w fun e w'=>(∃v,∃(φ:Phi) (σ:AHeap),e=.returned v∧VRel φ.nm (own φ σ) w' r v)∧Go.RowKit.Below w.heap.size w w':=by
 refine((h noObj).2 _ w vs hR ha).mono ?_
 rintro e w' ⟨v,r',φ',σ',rfl,⟨rfl,rfl⟩,hR',hE,hV⟩
 exact⟨⟨v,φ',_,rfl,hV⟩,hE.base.fr.os,hE.base.fr.tape,hE.base.fr.output,hE.base.fr.size,fun k hk=>hE.base.fr.blk k hk (own_noObj _ _)⟩
theorem pure_true {P:Program} {G:Globs} {f:FuncId} {args:List AV} (h:APure P G f args (.bool true)) {w:World} (hR:R G phi0 noObj w) {vs:Array Value} (ha:ArgsRel (fun _=>none) (own0 (fun _=>none) noObj) w args vs):
  Calls P f vs w fun e w'=>e=.returned (.bool true)∧Go.RowKit.Below w.heap.size w w':=by
 refine(pure_calls h hR ha).mono ?_
 rintro e w' ⟨⟨v,φ,σ,rfl,hV⟩,hb⟩
 cases hV
 exact⟨rfl,hb⟩
theorem tab_rel {w:World} {φ:Phi0} {ow:Nat→Prop} (how:∀b,¬ow b) {g:Nat} {l:List Int} (h:∀(j:Nat) (n:Int),l[j]? =some n→w.cell? ⟨g,j,none⟩=some (.int .i64 n)) (hg:g<w.heap.size):
  VRel φ ow w (.fptr (l.map (AV.int .i64)) 0) (.pointer (some ⟨g,0,none⟩)):=by
 have:=VRel.fptr (φ:=φ) (ow:=ow) (w:=w) (cs:=l.map (AV.int .i64)) (i:=0) (b:=g) (off:=0) (fun j=>.int .i64 (l.getD j 0)) (by intro x hx;obtain⟨n,_,rfl⟩:=List.mem_map.1 hx;rfl) hg (how _) ?_ ?_
 ·exact this
 ·intro j x hx
  rw[List.getElem?_map] at hx
  cases hn:l[j]? with
  |none=>rw[hn] at hx;cases hx
  |some n=>
   rw[List.getD_eq_getElem?_getD,hn,Nat.zero_add]
   exact h j n hn
 ·intro j x hx
  rw[List.getElem?_map] at hx
  cases hn:l[j]? with
  |none=>rw[hn] at hx;cases hx
  |some n=>rw[hn] at hx;cases hx;rw[List.getD_eq_getElem?_getD,hn];exact .int

theorem var_stays {H:Type} {enc:TypeId×Value→H} {P:Program} (hl:laidOutB P=true) {W W':World} (hb:Go.RowKit.Below W.heap.size W W') {n:String} {ns:List String} {gs:List (DataW H)} {ps:List MemPlace}
  (hv:∀g t,P.globalNamed n=some g→(P.globals[g]?).map (·.type)=some t→P.readableRec t=true∧t<P.types.size)
  (rest:∀{gs:List (DataW H)} {ps:List MemPlace},DataW.TrodVars enc P W (fun _=>true) ns gs ps→DataW.TrodVars enc P W' (fun b=>decide (b<W.heap.size)) ns gs ps)
  (h:DataW.TrodVars enc P W (fun _=>true) (n::ns) gs ps):DataW.TrodVars enc P W' (fun b=>decide (b<W.heap.size)) (n::ns) gs ps:=by
 cases gs with
 |nil=>exact h.elim
 |cons d ds=>
  have old:=h.lt
  obtain⟨g,t,cs,fuel,p,q,a1,a2,a3,a4,a5,a6⟩:=h
  obtain⟨r1,r2⟩:=hv g t a1 a2
  have hp:∀x∈p,x.block<W.heap.size:=fun x hx=>old x (by rw[a6];simp[hx])
  refine⟨g,t,cs,fuel,p,q,a1,a2,?_,DataW.trod_stays (kids_book hl r1) (book_sized r1) (fun h=>by cases h) ⟨r2,book_self t⟩ a4 (fun x hx=>hb.same (hp x hx)) (fun x hx=>by simpa using hp x hx),rest a5,a6⟩
  unfold World.var? at a3 ⊢
  rw[a1] at a3 ⊢
  simp only[Option.bind_some] at a3 ⊢
  cases hh:W.heap[g]? with
  |none=>rw[hh] at a3;cases a3
  |some o=>rw[hb.block g (Array.getElem?_eq_some_iff.1 hh).1];exact a3
theorem tab_cells {P:Program} {W:World} {name:String} {g:Nat} {t e:TypeId} {n:Nat} {cs:Array Value} {fuel:Nat} {l:List Int} {p:List MemPlace} (hg:P.globalNamed name=some g) (hv:W.var? P name=some cs)
  (ht:P.underlying t=some (.array n e)) (he:P.underlying e=some (.int .i64)) (hc:P.cellsOf e=1) {sp:Nat→Bool} {held:Bool} {H:Type} {enc:TypeId×Value→H}
  (hd:DataW.trod enc P W 0 sp held fuel t cs.toList=some (.agg (l.map fun n=>.lit (.int .i64 n)),p)):
  (∀(j:Nat) (n:Int),l[j]? =some n→W.cell? ⟨g,j,none⟩=some (.int .i64 n))∧g<W.heap.size:=by
 constructor
 ·intro j v hj
  obtain⟨xs,m1,rfl,hx1,hlen,hn3,hel⟩:=DataW.trod_array ht hd
  simp only[Prod.mk.injEq,DataW.agg.injEq] at hx1
  have hl:l.length=n:=by rw[← hn3];have:=congrArg List.length hx1.1;simpa using this
  have hjl:=(List.getElem?_eq_some_iff.1 hj).1
  have h0:=hel j (by omega)
  have hxj:∃x,xs[j]? =some x:=⟨_,List.getElem?_eq_getElem (by omega)⟩
  obtain⟨x,hxj⟩:=hxj
  rw[hxj] at h0
  obtain⟨k,e1,e2,_⟩:=DataW.trod_int he h0
  have hk:k=v:=by
   have h5:(l.map fun n=>(DataW.lit (.int .i64 n):DataW H))[j]? =(xs.map (·.1))[j]? :=by rw[hx1.1]
   rw[List.getElem?_map,List.getElem?_map,hj,hxj,e2] at h5
   simpa using h5.symm
  subst hk
  rw[World.var?_cell hg hv j]
  rw[hc] at e1
  have h6:(List.take 1 (List.drop (j*1) cs.toList))[0]? =some (.int .i64 k):=by rw[e1];rfl
  rw[List.getElem?_take_of_lt (by omega),List.getElem?_drop] at h6
  simpa using h6
 ·unfold World.var? at hv
  rw[hg] at hv
  simp only[Option.bind_some] at hv
  cases hh:W.heap[g]? with
  |none=>rw[hh] at hv;cases hv
  |some o=>exact(Array.getElem?_eq_some_iff.1 hh).1
end Go.Abs
