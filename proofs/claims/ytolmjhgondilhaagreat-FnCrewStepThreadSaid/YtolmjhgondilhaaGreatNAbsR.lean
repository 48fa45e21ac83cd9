/- States that may stand for one another: the steps a walk takes between two operations. -/
import Derived.Test.YtolmjhgondilhaaGreatNAbsG
set_option linter.unusedSimpArgs false
set_option linter.unusedVariables false
namespace Go.Abs
open Go

def Ref (G:Globs)(n N:Nat)(a:AAct)(J:AHeap)(a':AAct)(J':AHeap):Prop:=
 N<=J.next->∀C w ca,R G C J w->ARel C J w n a ca->∃C',R G C' J' w/\ARel C' J' w n a' ca/\Ext (·<N) C J w C' J' w

theorem Ref.refl {G n N a J}:Ref G n N a J a J:=fun _ C w ca hR hA=>⟨C,hR,hA,Ext.refl _ _ _ _⟩
theorem Ref.trans {G n N a J a1 J1 a2 J2}(h:Ref G n N a J a1 J1)(k:Ref G n N a1 J1 a2 J2):Ref G n N a J a2 J2:=by
 intro hN C w ca hR hA
 obtain⟨C1,h1,h2,h3⟩:=h hN C w ca hR hA
 obtain⟨C2,k1,k2,k3⟩:=k (Nat.le_trans hN h3.nx) C1 w ca h1 h2
 exact⟨C2,k1,k2,h3.trans k3⟩
theorem Ref.keep {G n N a J}(l:List Nat):Ref G n N a J (a.keep l) J:=fun _ C w ca hR hA=>⟨C,hR,hA.keep l,Ext.refl _ _ _ _⟩
theorem Ref.sub {G n N a J U}(h:AHeap.Sub U J):Ref G n N a J a U:=by
 obtain⟨D,rfl⟩:=h.cut
 intro _ C w ca hR hA
 obtain⟨C',k1,k2,_⟩:=hR.cut D (·<N)
 exact⟨C',k1,hA.mono k2,k2⟩

theorem Wre {P:Program}{G:Globs}{n N:Nat}{Q:Ex->AAct->AHeap->Prop}{c:Code}{a a':AAct}{J J':AHeap}(h:Ref G n N a J a' J')(k:AWP P G n N c Q a' J'):AWP P G n N c Q a J:=by
 intro hN C w ca hR hA
 obtain⟨C',h1,h2,h3⟩:=h hN C w ca hR hA
 exact wp_mono (k (Nat.le_trans hN h3.nx) C' w ca h1 h2) fun e ca' w' hq=>hq.le h3

def Rc (G:Globs)(n N:Nat)(I:AAct->AHeap->Prop)(a:AAct)(J:AHeap):Prop:=∃b U,Ref G n N a J b U/\I b U
theorem zH {G:Globs}{n N:Nat}{I:AAct->AHeap->Prop}{a a':AAct}{J J':AHeap}(h:Ref G n N a J a' J')(k:Rc G n N I a' J'):Rc G n N I a J:=by
 obtain⟨b,U,h1,h2⟩:=k
 exact⟨b,U,h.trans h1,h2⟩
theorem Rc.mk {G:Globs}{n N:Nat}{I:AAct->AHeap->Prop}{a:AAct}{J:AHeap}(h:I a J):Rc G n N I a J:=⟨a,J,.refl,h⟩

theorem ARel.reslot {C:Phi}{J w n a ca t y}(hA:ARel C J w n a ca)(hxy:∀v,VRel C (own C J) w (a.get t) v->VRel C (own C J) w y v):ARel C J w n ((t,y)::a) ca:=by
 refine⟨hA.size,hA.defers,fun k=>?_⟩
 simp only[AAct.get]
 split
 .rename_i e;subst e;exact hxy _ (hA.rel k)
 .exact hA.rel k

section
variable {G:Globs} {n N:Nat} {a:AAct} {J:AHeap}

theorem Ref.nilS (t ty sz:Nat)(hx:a.get t=.nilsl\/a.get t=.esl):Ref G n N a J ((t,.sl J.next 0 0)::a) ((J.bump 1).put J.next ⟨ty,sz,[]⟩):=by
 intro hN C w ca hR hA
 obtain⟨h1,h2,h3,h4,h5⟩:=fX hR
 obtain⟨C',g1,g2,g3⟩:=h1.newv (ty:=ty) (sz:=sz) h5 h3 h4
 have he:=h2.trans (g2.le fun o ho=>by have:o<J.next:=ho;show o≠J.next;omega)
 exact⟨_,g1,(hA.mono he).reslot fun v hv=>vnil_sl hx g3 hv,he.le fun o ho=>Nat.lt_of_lt_of_le ho hN⟩

theorem vnil_fsl {C ow}{w:World}{x:AV}(hx:x=.nilsl\/x=.esl){v:Value}(h:VRel C ow w x v):VRel C ow w (.fsl []) v:=by
 rcases hx with rfl|rfl<;>(cases h;exact .fsl0)
theorem Ref.wkC {o r i:Nat}{ob:AObj}{row:List AV}{x:AV}(ho:J.objs o=some ob)(hr:ob.rows[r]? =some row)(hi:row[i]? =some x)(hx:x=.nilsl\/x=.esl):
  Ref G n N a J a (J.put o ⟨ob.ty,ob.sz,ob.rows.set r (row.set i (.fsl []))⟩):=by
 intro hN C w ca hR hA
 obtain⟨C2,k1,k2,k3⟩:=hR.recell (·<N) (y:=.fsl []) ho hr hi (by rcases hx with rfl|rfl<;>rfl) rfl (fun v hv=>vnil_fsl hx hv)
 exact⟨_,k1,hA.mono k2,k2⟩
theorem Ref.nilA (t i ty sz:Nat){cs:List AV}{x:AV}(hc:a.get t=.agg cs)(hi:cs[i]? =some x)(hx:x=.nilsl\/x=.esl):Ref G n N a J ((t,.agg (cs.set i (.sl J.next 0 0)))::a) ((J.bump 1).put J.next ⟨ty,sz,[]⟩):=by
 intro hN C w ca hR hA
 obtain⟨h1,h2,h3,h4,h5⟩:=fX hR
 obtain⟨C',g1,g2,g3⟩:=h1.newv (ty:=ty) (sz:=sz) h5 h3 h4
 have he:=h2.trans (g2.le fun o ho=>by have:o<J.next:=ho;show o≠J.next;omega)
 refine⟨_,g1,(hA.mono he).reslot fun v hv=>?_,he.le fun o ho=>Nat.lt_of_lt_of_le ho hN⟩
 rw[hc] at hv
 cases hv with
 |agg hl hv=>
  refine .agg (by simpa using hl) fun j y u hy hu=>?_
  rw[List.getElem?_set] at hy
  split at hy
  .rename_i e
   subst e
   split at hy
   .cases hy
    exact vnil_sl hx g3 (hv i x u hi hu)
   .cases hy
  .exact hv j y u hy hu

theorem Ref.unp {o r i ty sz:Nat}{es:List (List AV)}{ob:AObj}{row:List AV}(ho:J.objs o=some ob)(hr:ob.rows[r]? =some row)(hi:row[i]? =some (.osl ty sz es)):
  Ref G n N a J a (((J.bump 1).put J.next ⟨ty,sz,es⟩).put o ⟨ob.ty,ob.sz,ob.rows.set r (row.set i (.sl J.next 0 es.length))⟩):=by
 intro hN C w ca hR hA
 obtain⟨C',h1,h2⟩:=hR.unp ho hr hi
 exact⟨C',h1,hA.mono h2,h2.le fun o ho=>Nat.lt_of_lt_of_le ho hN⟩

theorem Ref.pk {o r i d k:Nat}{ob obd:AObj}{row:List AV}(ho:J.objs o=some ob)(hr:ob.rows[r]? =some row)(hi:row[i]? =some (.sl d 0 k))(hd:J.objs d=some obd)(hn:k<=obd.rows.length)(hod:o≠d):
  Ref G n N a J a ((J.kill d).put o ⟨ob.ty,ob.sz,ob.rows.set r (row.set i (.osl obd.ty obd.sz (obd.rows.take k)))⟩):=by
 intro hN C w ca hR hA
 exact⟨C,hR.pk ho hr hi hd hn hod,⟨hA.size,hA.defers,hA.rel⟩,⟨Ext0.refl _ _ _ _,fun _ h=>⟨h,rfl⟩,Nat.le_refl _⟩⟩
theorem Ref.pk0 {o r i:Nat}{ob:AObj}{row:List AV}{x:AV}(ty sz:Nat)(ho:J.objs o=some ob)(hr:ob.rows[r]? =some row)(hi:row[i]? =some x)(hx:x=.nilsl\/x=.esl):
  Ref G n N a J a (J.put o ⟨ob.ty,ob.sz,ob.rows.set r (row.set i (.osl ty sz []))⟩):=by
 intro hN C w ca hR hA
 exact⟨C,hR.pk0 ty sz ho hr hi hx,⟨hA.size,hA.defers,hA.rel⟩,⟨Ext0.refl _ _ _ _,fun _ h=>⟨h,rfl⟩,Nat.le_refl _⟩⟩
theorem Ref.frz (d:Nat)(D:Nat->Bool):Ref G n N a J (a.map fun p=>(p.1,thawA D J d p.2)) (J.cut D):=by
 intro hN C w ca hR hA
 obtain⟨C',k1,k2,_,k3⟩:=hR.cut D (·<N)
 refine⟨C',k1,⟨hA.size,hA.defers,fun t=>?_⟩,k2⟩
 have key:∀(a:AAct),AAct.get (a.map fun p=>(p.1,thawA D J d p.2)) t=.any\/AAct.get (a.map fun p=>(p.1,thawA D J d p.2)) t=thawA D J d (a.get t):=by
  intro a
  induction a with
  |nil=>exact .inl rfl
  |cons p a ih=>
   obtain⟨q,v⟩:=p
   simp only[List.map_cons,AAct.get]
   split
   .exact .inr rfl
   .exact ih
 rcases key a with h|h
 .rw[h];exact .any
 .rw[h];exact k3 d _ _ (hA.rel t)
end

end Go.Abs
