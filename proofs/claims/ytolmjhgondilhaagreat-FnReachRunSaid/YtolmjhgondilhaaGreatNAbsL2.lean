/- What the lower heap needs: more names, objects let go, cells read otherwise. -/
import Derived.Test.YtolmjhgondilhaaGreatNAbsL1
set_option linter.unusedSimpArgs false
set_option linter.unusedVariables false
namespace Go.Abs
open Go Go.RowKit

def AHeap.bump (σ:AHeap)(k:Nat):AHeap:={σ with next:=σ.next+k}

theorem R0.bump {G φ σ w}(hR:R0 G φ σ w)(k:Nat)(K:Nat→Prop):R0 G φ (σ.bump k) w∧Ext0 K φ σ w φ (σ.bump k) w∧(∀j,j<k→(σ.bump k).objs (σ.next+j)=none∧φ (σ.next+j)=none):=by
 have he:Ext0 K φ σ w φ (σ.bump k) w:=⟨fun o _=>⟨rfl,id⟩,fun o x hx=>hx,Fr.refl _ _,fun b hb=>.inl hb,by simp[AHeap.bump]⟩
 refine⟨hR.next he (fun o ho=>hR.ids o (Nat.le_trans (by simp[AHeap.bump]) ho)) hR.inj fun o ob h=>.inr ⟨h,rfl,fun _ _ _ _=>rfl⟩,he,fun j hj=>hR.ids _ (by omega)⟩

inductive Below (N:Nat):AV→Prop where
 |int {k:IntKind} {n:Int}:Below N (.int k n)
 |bool {b:Bool}:Below N (.bool b)
 |str {s:ByteArray}:Below N (.str s)
 |nilp:Below N .nilp
 |nilsl:Below N .nilsl
 |esl:Below N .esl
 |nilf:Below N .nilf
 |any:Below N .any
 |any1:Below N .any1
 |ptr {o r i:Nat} (h:o<N):Below N (.ptr o r i)
 |sl {o r n:Nat} (h:o<N):Below N (.sl o r n)
 |fptr {cs:List AV} {i:Nat} (h:∀x∈cs,Below N x):Below N (.fptr cs i)
 |fsl {es:List (List AV)} (h:∀e∈es,∀x∈e,Below N x):Below N (.fsl es)
 |agg {cs:List AV} (h:∀x∈cs,Below N x):Below N (.agg cs)
 |tup {cs:List AV} (h:∀x∈cs,Below N x):Below N (.tup cs)
 |clo {f:FuncId} {fs cs:List AV} (h:∀x∈fs,Below N x) (h':∀x∈cs,Below N x):Below N (.clo f fs cs)

theorem mJ {N:Nat}{cs:List AV}{vs:Array Value}(hl:cs.length=vs.size)(h:∀(i:Nat) (x:AV) (u:Value),cs[i]? =some x→vs[i]? =some u→Below N x):∀x∈cs,Below N x:=by
 intro x hx
 obtain⟨i,hi,rfl⟩:=List.getElem_of_mem hx
 have hi':i<vs.size:=by omega
 exact h i _ vs[i] (List.getElem?_eq_getElem hi) (Array.getElem?_eq_getElem hi')

theorem VRel.isBelow {φ ow}{w:World}{N:Nat}(hN:∀o y,φ o=some y→o<N){x:AV}{v:Value}(h:VRel φ ow w x v):Below N x:=by
 induction h with
 |int=>exact .int
 |bool=>exact .bool
 |str=>exact .str
 |nilp=>exact .nilp
 |nilsl=>exact .nilsl
 |esl=>exact .esl
 |nilf=>exact .nilf
 |any=>exact .any
 |any1 _=>exact .any1
 |ptr h=>exact .ptr (hN _ _ h)
 |sl h _ _ _ _ _=>exact .sl (hN _ _ h)
 |sl0 h=>exact .sl (hN _ _ h)
 |sl1 h=>exact .sl (hN _ _ h)
 |fptr vs hone hb hno hcell hv ih=>
  refine .fptr fun x hx=>?_
  obtain⟨i,hi,rfl⟩:=List.getElem_of_mem hx
  exact ih i _ (List.getElem?_eq_getElem hi)
 |fsl0=>exact .fsl (by simp)
 |fsl vs hone hn hb hno h0 hcap hm hlen hcell hv ih=>
  refine .fsl fun e he x hx=>?_
  obtain⟨j,hj,rfl⟩:=List.getElem_of_mem he
  obtain⟨i,hi,rfl⟩:=List.getElem_of_mem hx
  exact ih j _ (List.getElem?_eq_getElem hj) i _ (List.getElem?_eq_getElem hi)
 |agg hl _ ih=>exact .agg (mJ hl ih)
 |tup hl _ ih=>exact .tup (mJ hl ih)
 |clo hl _ hl' _ ih ih'=>exact .clo (mJ hl ih) (mJ hl' ih')

theorem VRel.cut {φ φ':Phi0}{ow ow':Nat→Prop}{w:World}{N:Nat}(hφ:∀o,o<N→φ' o=φ o)(how:∀b,ow' b→ow b){x:AV}{v:Value}(h:VRel φ ow w x v):Below N x→VRel φ' ow' w x v:=by
 induction h with
 |int=>intro _;exact .int
 |bool=>intro _;exact .bool
 |str=>intro _;exact .str
 |nilp=>intro _;exact .nilp
 |nilsl=>intro _;exact .nilsl
 |esl=>intro _;exact .esl
 |nilf=>intro _;exact .nilf
 |any=>intro _;exact .any
 |any1 h=>intro _;exact .any1 h
 |ptr h=>intro hb;cases hb with|ptr hlt=>exact .ptr ((hφ _ hlt).trans h)
 |sl h h1 h2 h3 h4 h5=>
  intro hb
  cases hb with
  |sl hlt=>exact .sl ((hφ _ hlt).trans h) h1 h2 h3 h4 h5
 |sl0 h=>intro hb;cases hb with|sl hlt=>exact .sl0 ((hφ _ hlt).trans h)
 |sl1 h=>intro hb;cases hb with|sl hlt=>exact .sl1 ((hφ _ hlt).trans h)
 |fptr vs hone hb hno hcell hv ih=>intro hB;cases hB with|fptr hB=>exact .fptr vs hone hb (fun h=>hno (how _ h)) hcell fun j x hj=>ih j x hj (hB x (List.mem_of_getElem? hj))
 |fsl0=>intro _;exact .fsl0
 |fsl vs hone hn hb hno h0 hcap hm hlen hcell hv ih=>
  intro hB
  cases hB with
  |fsl hB=>exact .fsl vs hone hn hb (fun h=>hno (how _ h)) h0 hcap hm hlen hcell fun j e hj i x hx=>ih j e hj i x hx (hB e (List.mem_of_getElem? hj) x (List.mem_of_getElem? hx))
 |agg hl _ ih=>intro hB;cases hB with|agg hB=>exact .agg hl fun i x u hx hu=>ih i x u hx hu (hB x (List.mem_of_getElem? hx))
 |tup hl _ ih=>intro hB;cases hB with|tup hB=>exact .tup hl fun i x u hx hu=>ih i x u hx hu (hB x (List.mem_of_getElem? hx))
 |clo hl _ hl' _ ih ih'=>
  intro hB
  cases hB with
  |clo hB hB'=>exact .clo hl (fun i x u hx hu=>ih i x u hx hu (hB x (List.mem_of_getElem? hx))) hl' fun i x u hx hu=>ih' i x u hx hu (hB' x (List.mem_of_getElem? hx))

theorem reset0 {G φ σ w φ' σ' w'}(hR:R0 G φ σ w)(hR':R0 G φ' σ' w')(he:Ext0 (·<σ.next) φ σ w φ' σ' w')(hobj:∀o,o<σ.next→σ'.objs o=σ.objs o){x:AV}{v:Value}(hx:VRel φ' (own0 φ' σ') w' x v)(hb:Below σ.next x):
  ∃φ'',R0 G φ'' σ w'∧Ext0 (·<σ.next) φ σ w φ'' σ w'∧VRel φ'' (own0 φ'' σ) w' x v:=by
 have hlt:∀o y,φ o=some y→o<σ.next:=by
  intro o y h
  rcases Nat.lt_or_ge o σ.next with h1|h1
  ·exact h1
  ·rw[(hR.ids o h1).2] at h;cases h
 let φ'':Phi0:=fun o=>if o<σ.next then φ' o else none
 have hφ:∀o,o<σ.next→φ'' o=φ' o:=fun o h=>by simp[φ'',h]
 have hsome:∀o y,φ'' o=some y→o<σ.next∧φ' o=some y:=by
  intro o y h
  by_cases h1:o<σ.next
  ·exact⟨h1,by simpa [φ'',h1] using h⟩
  ·simp[φ'',h1] at h
 have hlive:∀o ob,σ.objs o=some ob→o<σ.next:=by
  intro o ob h
  rcases Nat.lt_or_ge o σ.next with h1|h1
  ·exact h1
  ·rw[(hR.ids o h1).1] at h;cases h
 have how:∀b,own0 φ'' σ b→own0 φ' σ' b:=by
  rintro b ⟨o,ob,sz,h1,h2,h3⟩
  exact⟨o,ob,sz,by rw[hobj o (hlive o ob h1)];exact h1,(hsome _ _ h2).2,h3⟩
 have cutx:∀{y:AV} {u:Value},VRel φ' (own0 φ' σ') w' y u→Below σ.next y→VRel φ'' (own0 φ'' σ) w' y u:=fun h1 h2=>h1.cut hφ how h2
 have hExt:Ext0 (·<σ.next) φ σ w φ'' σ w':=by
  refine⟨fun o ho=>⟨(hφ o ho).trans (he.keep o ho).1,fun h=>h⟩,fun o y h=>?_,he.fr,fun b hb=>he.new b (how b hb),Nat.le_refl _⟩
  rw[hφ o (hlt o y h)]
  exact he.sub o y h
 refine⟨φ'',⟨fun o ho=>⟨(hR.ids o ho).1,by simp[φ''];intro h;have:σ.next≤o:=ho;omega⟩,fun o ob h=>?_,fun o o' b s s' ob ob' h1 h2 h3 h4 p1 p2=>?_,fun g cs hg=>?_⟩,hExt,cutx hx hb⟩
 ·have h1:=hR'.obj o ob (by rw[hobj o (hlive o ob h)];exact h)
  obtain⟨b,sz,e1,e2,e3⟩:=h1
  refine⟨b,sz,by rw[hφ o (hlive o ob h)];exact e1,e2,fun h0=>?_⟩
  obtain⟨c1,c2,arr,c3,c4,c5⟩:=e3 h0
  refine⟨c1,c2,arr,c3,c4,fun r e hr=>⟨(c5 r e hr).1,fun i y hy=>?_⟩⟩
  obtain⟨d1,u,d2,d3⟩:=(c5 r e hr).2 i y hy
  refine⟨d1,u,d2,cutx d3 ?_⟩
  have hold:=hR.obj o ob h
  obtain⟨b0,sz0,f1,f2,f3⟩:=hold
  have hsz0:0<sz0:=by
   rcases Nat.eq_zero_or_pos sz0 with e|e
   ·rw[f2 e] at hr;simp at hr
   ·exact e
  obtain⟨_,_,_,_,_,g5⟩:=f3 hsz0
  obtain⟨_,u0,_,g6⟩:=(g5 r e hr).2 i y hy
  exact g6.isBelow hlt
 ·exact hR'.inj o o' b s s' ob ob' (by rw[hobj o (hlive o ob h1)];exact h1) (by rw[hobj o' (hlive o' ob' h2)];exact h2) (hsome _ _ h3).2 (hsome _ _ h4).2 p1 p2
 ·exact(hR.glob g cs hg).mono hExt

theorem Below.le {x:AV}{N:Nat}(h:Below 0 x):Below N x:=by
 induction h with
 |int=>exact .int
 |bool=>exact .bool
 |str=>exact .str
 |nilp=>exact .nilp
 |nilsl=>exact .nilsl
 |esl=>exact .esl
 |nilf=>exact .nilf
 |any=>exact .any
 |any1=>exact .any1
 |ptr h=>omega
 |sl h=>omega
 |fptr _ ih=>exact .fptr ih
 |fsl _ ih=>exact .fsl ih
 |agg _ ih=>exact .agg ih
 |tup _ ih=>exact .tup ih
 |clo _ _ ih ih'=>exact .clo ih ih'

def AHeap.cut (σ:AHeap)(D:Nat→Bool):AHeap:={σ with objs:=fun o=>if D o then none else σ.objs o}

theorem R0.cut {G φ σ w}(hR:R0 G φ σ w)(D:Nat→Bool)(N:Nat→Prop):R0 G φ (σ.cut D) w∧Ext0 N φ σ w φ (σ.cut D) w:=by
 have he:Ext0 N φ σ w φ (σ.cut D) w:=by
  refine⟨fun o _=>⟨rfl,fun h=>by simp only[AHeap.cut];split<;>simp_all⟩,fun o x hx=>hx,Fr.refl _ _,fun b hb=>?_,Nat.le_refl _⟩
  obtain⟨o,ob,s,h1,h2,h3⟩:=hb
  simp only[AHeap.cut] at h1
  split at h1
  ·cases h1
  ·exact .inl ⟨o,ob,s,h1,h2,h3⟩
 have hold:∀o ob,(σ.cut D).objs o=some ob→σ.objs o=some ob:=by
  intro o ob h
  simp only[AHeap.cut] at h
  split at h
  ·cases h
  ·exact h
 refine⟨hR.next he (fun o hle=>⟨?_,(hR.ids o hle).2⟩) (fun o o' b s s' ob ob' h1 h2 h3 h4 p1 p2=>hR.inj o o' b s s' ob ob' (hold _ _ h1) (hold _ _ h2) h3 h4 p1 p2) (fun o ob h=>.inr ⟨hold _ _ h,rfl,fun _ _ _ _=>rfl⟩),he⟩
 have:=(hR.ids o hle).1
 simp only[AHeap.cut]
 split<;>simp_all

theorem R0.recell {G φ σ w o ob r row i x y}(N:Nat→Prop)(hR:R0 G φ σ w)(ho:σ.objs o=some ob)(hr:ob.rows[r]? =some row)(hi:row[i]? =some x)(hy:y.one=true)
  (hxy:∀v,VRel φ (own0 φ σ) w x v→VRel φ (own0 φ σ) w y v):R0 G φ (σ.put o ⟨ob.ty,ob.sz,ob.rows.set r (row.set i y)⟩) w∧Ext0 N φ σ w φ (σ.put o ⟨ob.ty,ob.sz,ob.rows.set r (row.set i y)⟩) w:=by
 have howns:∀k,own0 φ (σ.put o ⟨ob.ty,ob.sz,ob.rows.set r (row.set i y)⟩) k↔own0 φ σ k:=by
  intro k
  constructor
  ·rintro⟨o',ob',s,h1,h2,h3⟩
   by_cases e:o'=o
   ·subst e;exact⟨o',ob,s,ho,h2,h3⟩
   ·exact⟨o',ob',s,by simpa [AHeap.put,e] using h1,h2,h3⟩
  ·rintro⟨o',ob',s,h1,h2,h3⟩
   by_cases e:o'=o
   ·subst e;exact⟨o',_,s,by simp[AHeap.put];rfl,h2,h3⟩
   ·exact⟨o',ob',s,by simpa [AHeap.put,e] using h1,h2,h3⟩
 have he:Ext0 N φ σ w φ (σ.put o ⟨ob.ty,ob.sz,ob.rows.set r (row.set i y)⟩) w:=by
  refine⟨fun k _=>⟨rfl,fun h=>?_⟩,fun k x hx=>hx,Fr.refl _ _,fun k hk=>.inl ((howns k).1 hk),Nat.le_refl _⟩
  have:k≠o:=by rintro rfl;rw[ho] at h;cases h
  simp[AHeap.put,this,h]
 refine⟨hR.next he (fun k hle=>?_) (fun k k' b s s' ob1 ob2 h1 h2 h3 h4 p1 p2=>?_) (fun k ob' h=>?_),he⟩
 ·have:k≠o:=by rintro rfl;rw[(hR.ids k hle).1] at ho;cases ho
  exact⟨by simp[AHeap.put,this,(hR.ids k hle).1],(hR.ids k hle).2⟩
 ·have f:∀k ob1,(σ.put o ⟨ob.ty,ob.sz,ob.rows.set r (row.set i y)⟩).objs k=some ob1→∃x,σ.objs k=some x:=by
   intro k ob1 h
   by_cases e:k=o
   ·subst e;exact⟨ob,ho⟩
   ·exact⟨ob1,by simpa [AHeap.put,e] using h⟩
  obtain⟨x1,hx1⟩:=f k _ h1
  obtain⟨y1,hy1⟩:=f k' _ h2
  exact hR.inj k k' b s s' x1 y1 hx1 hy1 h3 h4 p1 p2
 ·by_cases e:k=o
  ·subst e
   left
   simp[AHeap.put] at h
   subst h
   obtain⟨b,sz,g1,g2,g3⟩:=hR.obj k ob ho
   refine⟨b,sz,g1,fun e=>by have:=g2 e;rw[this] at hr;simp at hr,fun h0=>?_⟩
   obtain⟨c1,c2,arr,c3,c4,c5⟩:=g3 h0
   refine⟨c1,c2,arr,c3,by simpa using c4,fun r' e' hr'=>?_⟩
   rw[List.getElem?_set] at hr'
   split at hr'
   ·rename_i hrr
    subst hrr
    split at hr'
    ·cases hr'
     obtain⟨d1,d2⟩:=c5 r row hr
     refine⟨by simpa using d1,fun i' z hz=>?_⟩
     rw[List.getElem?_set] at hz
     split at hz
     ·rename_i hii
      subst hii
      split at hz
      ·cases hz
       obtain⟨d3,v,d4,d5⟩:=d2 i x hi
       exact⟨hy,v,d4,(hxy v d5).mono he⟩
      ·cases hz
     ·obtain⟨d3,v,d4,d5⟩:=d2 i' z hz
      exact⟨d3,v,d4,d5.mono he⟩
    ·cases hr'
   ·obtain⟨d1,d2⟩:=c5 r' e' hr'
    refine⟨d1,fun i' z hz=>?_⟩
    obtain⟨d3,v,d4,d5⟩:=d2 i' z hz
    exact⟨d3,v,d4,d5.mono he⟩
  ·right
   exact⟨by simpa [AHeap.put,e] using h,rfl,fun _ _ _ _=>rfl⟩

theorem vnil_sl {φ ow w x g}(hx:x=.nilsl∨x=.esl)(hg:φ g=some (0,0)){v:Value}(h:VRel φ ow w x v):VRel φ ow w (.sl g 0 0) v:=by
 rcases hx with rfl|rfl<;>cases h<;>exact .sl0 hg
theorem vsl_ren {φ ow w d g n}(hg:φ g=φ d){v:Value}(h:VRel φ ow w (.sl d 0 n) v):VRel φ ow w (.sl g 0 n) v:=by
 cases h with
 |sl h1 h2 h3 h4 h5 h6=>exact .sl (hg.trans h1) h2 h3 h4 h5 h6
 |sl0 h1=>exact .sl0 (hg.trans h1)

end Go.Abs

/- The state that a walk speaks of: the upper heap; what stands below it goes with the names. -/
set_option linter.unusedSimpArgs false
set_option linter.unusedVariables false
namespace Go.Abs
open Go Go.RowKit

structure Phi where
 nm:Phi0
 fl:AHeap
 fr:Nat→Prop
instance:Coe Phi Phi0:=⟨Phi.nm⟩

def own (φ:Phi)(_:AHeap):Nat→Prop:=own0 φ.nm φ.fl

structure R (G:Globs) (φ:Phi) (σ:AHeap) (w:World):Prop where
 base:R0 G φ.nm φ.fl w
 lift:Lift σ φ.fl φ.fr

structure Ext (N:Nat→Prop) (φ:Phi) (σ:AHeap) (w:World) (φ':Phi) (σ':AHeap) (w':World):Prop where
 base:Ext0 N φ.nm φ.fl w φ'.nm φ'.fl w'
 frk:∀d,φ.fr d→φ'.fr d∧φ'.fl.objs d=φ.fl.objs d
 nx:σ.next≤σ'.next

theorem R.nxt {G φ σ w}(hR:R G φ σ w):φ.fl.next=σ.next:=hR.lift.1
theorem R.ids {G φ σ w}(hR:R G φ σ w):∀o,σ.next≤o→σ.objs o=none∧φ.nm o=none:=fun o h=>by
 have:=hR.base.ids o (by rw[hR.nxt];exact h)
 exact⟨hR.lift.gone this.1,this.2⟩
theorem R.drew {G φ σ w}(hR:R G φ σ w)(N:Nat→Prop)(k:Nat):R G φ σ {w with drawn:=k}∧Ext N φ σ w φ σ {w with drawn:=k}:=by
 obtain⟨h1,h2⟩:=hR.base.drew N k
 exact⟨⟨h1,hR.lift⟩,⟨h2,fun d hd=>⟨hd,rfl⟩,Nat.le_refl _⟩⟩
theorem R.glob {G φ σ w}(hR:R G φ σ w):∀g cs,G g=some cs→VRel φ (own φ σ) w (.fptr cs 0) (.pointer (some ⟨g,0,none⟩)):=hR.base.glob

theorem Ext.fr {N φ σ w φ' σ' w'}(h:Ext N φ σ w φ' σ' w'):Fr (own φ σ) w w':=h.base.fr
theorem Ext.refl (N:Nat→Prop)(φ:Phi)(σ:AHeap)(w:World):Ext N φ σ w φ σ w:=⟨Ext0.refl _ _ _ _,fun _ h=>⟨h,rfl⟩,Nat.le_refl _⟩
theorem Ext.le {N M φ σ w φ1 σ1 w1}(h:Ext N φ σ w φ1 σ1 w1)(hM:∀o,M o→N o):Ext M φ σ w φ1 σ1 w1:=⟨h.base.le hM,h.frk,h.nx⟩
theorem Ext.trans {N φ σ w φ1 σ1 w1 φ2 σ2 w2}(h:Ext N φ σ w φ1 σ1 w1)(k:Ext N φ1 σ1 w1 φ2 σ2 w2):Ext N φ σ w φ2 σ2 w2:=
 ⟨h.base.trans k.base,fun d hd=>⟨(k.frk d (h.frk d hd).1).1,(k.frk d (h.frk d hd).1).2.trans (h.frk d hd).2⟩,Nat.le_trans h.nx k.nx⟩
structure ARel (φ:Phi) (σ:AHeap) (w:World) (n:Nat) (a:AAct) (ca:Act):Prop where
 size:ca.tmps.size=n
 defers:ca.defers=[]
 rel:∀t,VRel φ (own φ σ) w (a.get t) (ca.tmps.getD t undef)
theorem ARel.base {φ σ w n a ca}(h:ARel φ σ w n a ca):ARel0 φ.nm φ.fl w n a ca:=⟨h.size,h.defers,h.rel⟩
theorem ARel.of {φ:Phi}{σ w n a ca}(h:ARel0 φ.nm φ.fl w n a ca):ARel φ σ w n a ca:=⟨h.size,h.defers,h.rel⟩
theorem ARel.mono {φ φ':Phi}{N:Nat→Prop}{σ σ':AHeap}{w w':World}{n a ca}(he:Ext N φ σ w φ' σ' w')(h:ARel φ σ w n a ca):ARel φ' σ' w' n a ca:=.of (h.base.mono he.base)
theorem ARel.put {φ:Phi}{σ:AHeap}{w:World}{n a ca}(h:ARel φ σ w n a ca){d:Option Nat}(hd:∀x,d=some x→x<n){v:AV}{cv:Value}
  (hv:VRel φ (own φ σ) w v cv):ARel φ σ w n (a.put d v) (ca.put d cv):=.of (h.base.put hd hv)
theorem ARel.keep {φ:Phi}{σ:AHeap}{w:World}{n a ca}(h:ARel φ σ w n a ca)(l:List Nat):ARel φ σ w n (a.keep l) ca:=.of (h.base.keep l)

theorem ev_rel {G φ σ w n a ca}(hR:R G φ σ w)(hA:ARel φ σ w n a ca)(x:Operand)(h:ev G a x≠.bad):VRel φ (own φ σ) w (ev G a x) (ca.eval x):=ev_rel0 hR.base hA.base x h
theorem evs_rel {G φ σ w n a ca}(hR:R G φ σ w)(hA:ARel φ σ w n a ca)(xs:Array Operand)(h:(xs.toList.map (ev G a)).all AV.good=true):ArgsRel φ (own φ σ) w (xs.toList.map (ev G a)) (xs.map ca.eval):=evs_rel0 hR.base hA.base xs h

def HPost (G:Globs)(id:Nat)(φ:Phi)(σ:AHeap)(w:World)(v:AV)(σ':AHeap)(cv:Value)(w':World):Prop:=
 ∃φ',R G φ' σ' w'∧Ext (·≠id) φ σ w φ' σ' w'∧VRel φ' (own φ' σ') w' v cv

theorem stepO_next {T G alt id o a σ v σ'}(h:stepO T G alt id o a σ=.val v σ'):σ'.next=σ.next:=by
 have ofO:∀{x:Option (AV×AHeap)},St.ofO x=.val v σ'→(∀v σ',x=some (v,σ')→σ'.next=σ.next)→σ'.next=σ.next:=by
  intro x h1 h2
  cases x with
  |none=>cases h1
  |some p=>obtain⟨v',σ1⟩:=p;cases h1;exact h2 _ _ rfl
 have ofV:∀{x:Option AV},St.ofV x σ=.val v σ'→σ'.next=σ.next:=by
  intro x h1
  cases x with
  |none=>cases h1
  |some p=>cases h1;rfl
 have new:∀(ty:TypeId) (cs:List AV) (v:AV) (σ':AHeap),newA ty alt id cs σ=(v,σ')→σ'.next=σ.next:=by
  intro ty cs v σ' hq
  unfold newA at hq
  cases alt<;>(cases hq;rfl)
 unfold stepO at h
 split at h
 ·refine ofO h fun v σ' hq=>?_
  unfold oV at hq
  split at hq
  ·split at hq
   ·exact new _ _ _ _ (Option.some.inj hq)
   ·cases hq
  ·cases hq
 ·refine ofO h fun v σ' hq=>?_
  unfold boxA at hq
  split at hq
  ·exact new _ _ _ _ (Option.some.inj hq)
  ·cases hq
 ·exact ofV h
 ·refine ofO h fun v σ' hq=>?_
  split at hq
  ·unfold bsA at hq
   split at hq
   ·rename_i e hk
    cases he:T e with
    |none=>simp[he] at hq
    |some ti=>
    simp only[he,Option.bind_some] at hq
    split at hq
    ·cases alt
     ·simp only[Bool.false_eq_true,if_false] at hq;cases hq;rfl
     ·simp only[if_true] at hq;cases hq;rfl
    ·cases hq
   ·cases hq
  ·cases hq
 ·split at h
  ·rename_i σ1 hs
   cases h
   split at hs
   ·unfold sV at hs
    split at hs
    ·rename_i ti o' r i _ _
     cases ho:σ.objs o' with
     |none=>simp[ho] at hs
     |some ob=>
     simp only[ho,Option.bind_some] at hs
     cases hr:ob.rows[r]? with
     |none=>simp[hr] at hs
     |some row=>
     simp only[hr,Option.bind_some] at hs
     split at hs
     ·cases hs;rfl
     ·cases hs
    ·cases hs
   ·cases hs
  ·cases h
 ·refine ofO h fun v σ' hq=>?_
  unfold makeA at hq
  split at hq
  ·rename_i e k n k' m hk _ _
   cases he:T e with
   |none=>simp[he] at hq
   |some ti=>
   simp only[he,Option.bind_some] at hq
   split at hq
   ·cases alt
    ·simp only[Bool.false_eq_true,if_false] at hq;cases hq;rfl
    ·simp only[if_true] at hq;cases hq;rfl
   ·cases hq
  ·cases hq
 ·exact ofV h
 ·split at h
  ·split at h
   ·refine ofO h fun v σ' hq=>?_
    cases alt
    ·simp only[Bool.false_eq_true,if_false] at hq
     unfold kD at hq
     split at hq
     case h_2=>cases hq
     rename_i e hk
     cases he:T e with
     |none=>simp[he] at hq
     |some ti=>
     rename_i s x _ _ _ _ _ _
     simp only[he,Option.bind_some] at hq
     cases hE:srcA ti σ (ev G a x) with
     |none=>simp[hE] at hq
     |some E=>
     simp only[hE,Option.bind_some] at hq
     split at hq
     ·rename_i o n _
      cases ho:σ.objs o with
      |none=>simp[ho] at hq
      |some ob=>
      simp only[ho,Option.bind_some] at hq
      split at hq
      ·cases hq;rfl
      ·cases hq
     ·split at hq
      ·cases hq;rfl
      ·cases hq
     ·split at hq
      ·cases hq;rfl
      ·cases hq
     ·cases hq
    ·simp only[if_true] at hq
     have:∀{s x v σ'} {t:TypeId},jL T t s x σ=some (v,σ')→σ'.next=σ.next:=by
      intro s x v σ' t hq
      unfold jL at hq
      split at hq
      case h_2=>cases hq
      rename_i e hk
      cases he:T e with
      |none=>simp[he] at hq
      |some ti=>
      simp only[he,Option.bind_some] at hq
      cases hE:srcA ti σ x with
      |none=>simp[hE] at hq
      |some E=>
      simp only[hE,Option.bind_some] at hq
      split at hq
      ·cases hq;rfl
      ·cases hq
     exact this hq
   ·split at h
    ·cases h
    ·refine ofO h fun v σ' hq=>?_
     unfold wL at hq
     split at hq
     case h_2=>cases hq
     rename_i e ku kx m hk hku _
     cases he:T e with
     |none=>simp[he] at hq
     |some ti=>
     simp only[he,Option.bind_some] at hq
     split at hq
     case isFalse=>cases hq
     split at hq
     ·rename_i o n _
      cases ho:σ.objs o with
      |none=>simp[ho] at hq
      |some ob=>
      simp only[ho,Option.bind_some] at hq
      split at hq
      ·cases hq;rfl
      ·cases hq
     ·split at hq
      ·cases hq;rfl
      ·cases hq
     ·split at hq
      ·cases hq;rfl
      ·cases hq
     ·cases hq
  ·cases h
 ·unfold callA at h
  split at h
  ·split at h<;>cases h
  ·cases h
 ·cases alt
  ·simp only[Bool.false_eq_true,if_false] at h;exact ofV h
  ·simp only[if_true] at h
   refine ofO h fun v σ' hq=>?_
   unfold nilA at hq
   split at hq
   ·rename_i e _ _
    cases he:T e with
    |none=>simp[he] at hq
    |some ti=>
    simp only[he,Option.map_some] at hq
    cases hq;rfl
   ·cases hq
 ·exact ofV h

theorem dN {P T G φ σ w n a ca alt id o v σ'}(hT:TOk P T)(hR:R G φ σ w)(hA:ARel φ σ w n a ca)(hid:id<σ.next)(ho:φ.fl.objs id=none)(hφ:φ.nm id=none)
  (h:stepO T G alt id o a σ=.val v σ'):
  ∃cv w',((execOp ca.eval o).run P w=.ok (.value cv) w'∨((execOp ca.eval o).run P w=.ok .skip w'∧cv=undef))∧HPost G id φ σ w v σ' cv w':=by
 obtain⟨σ0',g1,g2,g3⟩:=stepO_lift hR.lift ho h
 obtain⟨cv,w',k1,φ',k2,k3,k4⟩:=stepO_val0 (P:=P) hT hR.base hA.base (by rw[hR.nxt];exact hid) ho hφ g1
 exact⟨cv,w',k1,⟨φ',σ0',φ.fr⟩,⟨k2,g2⟩,⟨k3,fun d hd=>⟨hd,g3 d hd⟩,Nat.le_of_eq (stepO_next h).symm⟩,k4⟩

def oX (P:Program)(f:FuncId):Prop:=∃fn,P.funcs[f]? =some fn∧(fn.name== "runtime.NumGoroutine")=false∧fn.body.isNone=false

def RetPost (G:Globs)(φ:Phi)(σ:AHeap)(w:World)(Q:AV→AHeap→Prop)(e:Ending)(w':World):Prop:=
 ∃v r φ' σ',e=.returned v∧Q r σ'∧R G φ' σ' w'∧Ext (·<σ.next) φ σ w φ' σ' w'∧VRel φ' (own φ' σ') w' r v

def ACalls (P:Program)(G:Globs)(f:FuncId)(args:List AV)(σ:AHeap)(Q:AV→AHeap→Prop):Prop:=
 oX P f∧∀φ w vs,R G φ σ w→ArgsRel φ (own φ σ) w args vs→Calls P f vs w (RetPost G φ σ w Q)

theorem ACalls.mono {P G f args σ Q Q'}(h:ACalls P G f args σ Q)(hq:∀r σ',Q r σ'→Q' r σ'):ACalls P G f args σ Q':=
 ⟨h.1,fun φ w vs h1 h2=>(h.2 φ w vs h1 h2).mono fun e w' ⟨v,r,φ',σ',a1,a2,a3⟩=>⟨v,r,φ',σ',a1,hq _ _ a2,a3⟩⟩

def dstOk (n:Nat):Option Nat→Bool
 |some d=>decide (d<n)
 |none=>true

def AOps (P:Program)(T:Types)(G:Globs)(n:Nat)(alts:List Nat)(ds:List (Option Nat))(base:Nat)(Q:AAct→AHeap→Prop):Nat→List Oper→AAct→AHeap→Prop
 |_,[],a,σ=>Q a σ
 |i,o::l,a,σ=>
  dstOk n o.dst=true∧
  match o.guard with
  |none=>
   (match stepO T G (alts.contains i) (base+i) o a σ with
    |.val v σ'=>AOps P T G n alts ds base Q (i+1) l (a.put o.dst v) σ'
    |.call f args=>ACalls P G f args σ fun r σ'=>AOps P T G n alts ds base Q (i+1) l (a.put o.dst r) σ'
    |.bad=>False)
  |some (j,want)=>
   match ds[j]? with
   |some (some t)=>(match a.get t with
    |.bool b=>
     (b=want→match stepO T G (alts.contains i) (base+i) o ((t,.bool want)::a) σ with
      |.val v σ'=>AOps P T G n alts ds base Q (i+1) l (AAct.put ((t,.bool want)::a) o.dst v) σ'
      |.call f args=>ACalls P G f args σ fun r σ'=>AOps P T G n alts ds base Q (i+1) l (AAct.put ((t,.bool want)::a) o.dst r) σ'
      |.bad=>False)∧
     (b= !want→AOps P T G n alts ds base Q (i+1) l (AAct.put ((t,.bool (!want))::a) o.dst (.tup [])) σ)
    |.tup []=>AOps P T G n alts ds base Q (i+1) l (a.put o.dst (.tup [])) σ
    |_=>False)
   |_=>False

def RegPost (G:Globs)(n:Nat)(K:Nat→Prop)(φ:Phi)(σ:AHeap)(w:World)(Q:AAct→AHeap→Prop)(e:Exit)(ca':Act)(w':World):Prop:=
 e=.normal∧∃φ' a' σ',Q a' σ'∧R G φ' σ' w'∧ARel φ' σ' w' n a' ca'∧Ext K φ σ w φ' σ' w'

end Go.Abs
