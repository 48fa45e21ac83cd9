/- States that may stand for one another: the steps a walk takes between two operations. -/
import Derived.Test.YtolmjhgondilhaaGreatNAbsG
set_option linter.unusedSimpArgs false
set_option linter.unusedVariables false
namespace Go.Abs
open Go

def Ref (G:Globs)(n N:Nat)(a:AAct)(σ:AHeap)(a':AAct)(σ':AHeap):Prop:=
 N≤σ.next→∀φ w ca,R G φ σ w→ARel φ σ w n a ca→∃φ',R G φ' σ' w∧ARel φ' σ' w n a' ca∧Ext (·<N) φ σ w φ' σ' w

theorem Ref.refl {G n N a σ}:Ref G n N a σ a σ:=fun _ φ w ca hR hA=>⟨φ,hR,hA,Ext.refl _ _ _ _⟩
theorem Ref.trans {G n N a σ a1 σ1 a2 σ2}(h:Ref G n N a σ a1 σ1)(k:Ref G n N a1 σ1 a2 σ2):Ref G n N a σ a2 σ2:=by
 intro hN φ w ca hR hA
 obtain⟨φ1,h1,h2,h3⟩:=h hN φ w ca hR hA
 obtain⟨φ2,k1,k2,k3⟩:=k (Nat.le_trans hN h3.nx) φ1 w ca h1 h2
 exact⟨φ2,k1,k2,h3.trans k3⟩
theorem Ref.keep {G n N a σ}(l:List Nat):Ref G n N a σ (a.keep l) σ:=fun _ φ w ca hR hA=>⟨φ,hR,hA.keep l,Ext.refl _ _ _ _⟩
theorem Ref.sub {G n N a σ τ}(h:AHeap.Sub τ σ):Ref G n N a σ a τ:=by
 obtain⟨D,rfl⟩:=h.cut
 intro _ φ w ca hR hA
 obtain⟨φ',k1,k2,_⟩:=hR.cut D (·<N)
 exact⟨φ',k1,hA.mono k2,k2⟩

theorem Wre {P:Program}{G:Globs}{n N:Nat}{Q:Ex→AAct→AHeap→Prop}{c:Code}{a a':AAct}{σ σ':AHeap}(h:Ref G n N a σ a' σ')(k:AWP P G n N c Q a' σ'):AWP P G n N c Q a σ:=by
 intro hN φ w ca hR hA
 obtain⟨φ',h1,h2,h3⟩:=h hN φ w ca hR hA
 exact wp_mono (k (Nat.le_trans hN h3.nx) φ' w ca h1 h2) fun e ca' w' hq=>hq.le h3

def Rc (G:Globs)(n N:Nat)(I:AAct→AHeap→Prop)(a:AAct)(σ:AHeap):Prop:=∃b τ,Ref G n N a σ b τ∧I b τ
theorem zK {G:Globs}{n N:Nat}{I:AAct→AHeap→Prop}{a a':AAct}{σ σ':AHeap}(h:Ref G n N a σ a' σ')(k:Rc G n N I a' σ'):Rc G n N I a σ:=by
 obtain⟨b,τ,h1,h2⟩:=k
 exact⟨b,τ,h.trans h1,h2⟩
theorem Rc.mk {G:Globs}{n N:Nat}{I:AAct→AHeap→Prop}{a:AAct}{σ:AHeap}(h:I a σ):Rc G n N I a σ:=⟨a,σ,.refl,h⟩

theorem ARel.reslot {φ:Phi}{σ w n a ca t y}(hA:ARel φ σ w n a ca)(hxy:∀v,VRel φ (own φ σ) w (a.get t) v→VRel φ (own φ σ) w y v):ARel φ σ w n ((t,y)::a) ca:=by
 refine⟨hA.size,hA.defers,fun k=>?_⟩
 simp only[AAct.get]
 split
 ·rename_i e;subst e;exact hxy _ (hA.rel k)
 ·exact hA.rel k

section
variable {G:Globs} {n N:Nat} {a:AAct} {σ:AHeap}

theorem Ref.nilS (t ty sz:Nat)(hx:a.get t=.nilsl∨a.get t=.esl):Ref G n N a σ ((t,.sl σ.next 0 0)::a) ((σ.bump 1).put σ.next ⟨ty,sz,[]⟩):=by
 intro hN φ w ca hR hA
 obtain⟨h1,h2,h3,h4,h5⟩:=gJ hR
 obtain⟨φ',g1,g2,g3⟩:=h1.newv (ty:=ty) (sz:=sz) h5 h3 h4
 have he:=h2.trans (g2.le fun o ho=>by have:o<σ.next:=ho;show o≠σ.next;omega)
 exact⟨_,g1,(hA.mono he).reslot fun v hv=>vnil_sl hx g3 hv,he.le fun o ho=>Nat.lt_of_lt_of_le ho hN⟩

theorem vnil_fsl {φ ow}{w:World}{x:AV}(hx:x=.nilsl∨x=.esl){v:Value}(h:VRel φ ow w x v):VRel φ ow w (.fsl []) v:=by
 rcases hx with rfl|rfl<;>(cases h;exact .fsl0)
theorem Ref.wkC {o r i:Nat}{ob:AObj}{row:List AV}{x:AV}(ho:σ.objs o=some ob)(hr:ob.rows[r]? =some row)(hi:row[i]? =some x)(hx:x=.nilsl∨x=.esl):
  Ref G n N a σ a (σ.put o ⟨ob.ty,ob.sz,ob.rows.set r (row.set i (.fsl []))⟩):=by
 intro hN φ w ca hR hA
 obtain⟨φ2,k1,k2,k3⟩:=hR.recell (·<N) (y:=.fsl []) ho hr hi (by rcases hx with rfl|rfl<;>rfl) rfl (fun v hv=>vnil_fsl hx hv)
 exact⟨_,k1,hA.mono k2,k2⟩
theorem Ref.nilA (t i ty sz:Nat){cs:List AV}{x:AV}(hc:a.get t=.agg cs)(hi:cs[i]? =some x)(hx:x=.nilsl∨x=.esl):Ref G n N a σ ((t,.agg (cs.set i (.sl σ.next 0 0)))::a) ((σ.bump 1).put σ.next ⟨ty,sz,[]⟩):=by
 intro hN φ w ca hR hA
 obtain⟨h1,h2,h3,h4,h5⟩:=gJ hR
 obtain⟨φ',g1,g2,g3⟩:=h1.newv (ty:=ty) (sz:=sz) h5 h3 h4
 have he:=h2.trans (g2.le fun o ho=>by have:o<σ.next:=ho;show o≠σ.next;omega)
 refine⟨_,g1,(hA.mono he).reslot fun v hv=>?_,he.le fun o ho=>Nat.lt_of_lt_of_le ho hN⟩
 rw[hc] at hv
 cases hv with
 |agg hl hv=>
  refine .agg (by simpa using hl) fun j y u hy hu=>?_
  rw[List.getElem?_set] at hy
  split at hy
  ·rename_i e
   subst e
   split at hy
   ·cases hy
    exact vnil_sl hx g3 (hv i x u hi hu)
   ·cases hy
  ·exact hv j y u hy hu

theorem Ref.unp {o r i ty sz:Nat}{es:List (List AV)}{ob:AObj}{row:List AV}(ho:σ.objs o=some ob)(hr:ob.rows[r]? =some row)(hi:row[i]? =some (.osl ty sz es)):
  Ref G n N a σ a (((σ.bump 1).put σ.next ⟨ty,sz,es⟩).put o ⟨ob.ty,ob.sz,ob.rows.set r (row.set i (.sl σ.next 0 es.length))⟩):=by
 intro hN φ w ca hR hA
 obtain⟨φ',h1,h2⟩:=hR.unp ho hr hi
 exact⟨φ',h1,hA.mono h2,h2.le fun o ho=>Nat.lt_of_lt_of_le ho hN⟩

theorem Ref.pk {o r i d k:Nat}{ob obd:AObj}{row:List AV}(ho:σ.objs o=some ob)(hr:ob.rows[r]? =some row)(hi:row[i]? =some (.sl d 0 k))(hd:σ.objs d=some obd)(hn:k≤obd.rows.length)(hod:o≠d):
  Ref G n N a σ a ((σ.kill d).put o ⟨ob.ty,ob.sz,ob.rows.set r (row.set i (.osl obd.ty obd.sz (obd.rows.take k)))⟩):=by
 intro hN φ w ca hR hA
 exact⟨φ,hR.pk ho hr hi hd hn hod,⟨hA.size,hA.defers,hA.rel⟩,⟨Ext0.refl _ _ _ _,fun _ h=>⟨h,rfl⟩,Nat.le_refl _⟩⟩
theorem Ref.pk0 {o r i:Nat}{ob:AObj}{row:List AV}{x:AV}(ty sz:Nat)(ho:σ.objs o=some ob)(hr:ob.rows[r]? =some row)(hi:row[i]? =some x)(hx:x=.nilsl∨x=.esl):
  Ref G n N a σ a (σ.put o ⟨ob.ty,ob.sz,ob.rows.set r (row.set i (.osl ty sz []))⟩):=by
 intro hN φ w ca hR hA
 exact⟨φ,hR.pk0 ty sz ho hr hi hx,⟨hA.size,hA.defers,hA.rel⟩,⟨Ext0.refl _ _ _ _,fun _ h=>⟨h,rfl⟩,Nat.le_refl _⟩⟩
theorem Ref.trunc {o:Nat}{ob:AObj}(k:Nat)(ho:σ.objs o=some ob):Ref G n N a σ a (σ.put o ⟨ob.ty,ob.sz,ob.rows.take k⟩):=by
 intro hN φ w ca hR hA
 exact⟨φ,hR.trunc k ho,⟨hA.size,hA.defers,hA.rel⟩,⟨Ext0.refl _ _ _ _,fun _ h=>⟨h,rfl⟩,Nat.le_refl _⟩⟩

theorem Ref.frz (d:Nat)(D:Nat→Bool):Ref G n N a σ (a.map fun p=>(p.1,thawA D σ d p.2)) (σ.cut D):=by
 intro hN φ w ca hR hA
 obtain⟨φ',k1,k2,_,k3⟩:=hR.cut D (·<N)
 refine⟨φ',k1,⟨hA.size,hA.defers,fun t=>?_⟩,k2⟩
 have key:∀(a:AAct),AAct.get (a.map fun p=>(p.1,thawA D σ d p.2)) t=.any∨AAct.get (a.map fun p=>(p.1,thawA D σ d p.2)) t=thawA D σ d (a.get t):=by
  intro a
  induction a with
  |nil=>exact .inl rfl
  |cons p a ih=>
   obtain⟨q,v⟩:=p
   simp only[List.map_cons,AAct.get]
   split
   ·exact .inr rfl
   ·exact ih
 rcases key a with h|h
 ·rw[h];exact .any
 ·rw[h];exact k3 d _ _ (hA.rel t)
end

end Go.Abs
