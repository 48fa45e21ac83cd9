/- Plain data as an argument: whatever it is, its words in the walks. -/
import Derived.Test.YtolmjhgondilhaaGreatNShell
set_option linter.unusedSimpArgs false
set_option linter.unusedVariables false
namespace Go.Abs
open Go Go.RowKit Go.WideElems

def CellsRel (C:Phi0)(ow:Nat->Prop)(w:World)(as:List AV)(cs:List Value):Prop:=
 as.length=cs.length/\∀(i:Nat) (x:AV) (u:Value),as[i]? =some x->cs[i]? =some u->VRel C ow w x u

def Opens (P:Program)(t:TypeId)(L:Type)(f:L->List AV)(good:L->Prop):Prop:=
 ∀(H:Type) (enc:TypeId×Value->H) (w:World) (sp:Nat->Bool) (C:Phi0) (ow:Nat->Prop),(∀b,¬ow b)->∀(fuel:Nat) (cs:List Value) (x:DataW H×List MemPlace),
  DataW.trod enc P w 0 sp true fuel t cs=some x->∃a:L,CellsRel C ow w (f a) cs/\good a

theorem opens_int {P:Program}{t:TypeId}{k:IntKind}(ht:P.underlying t=some (.int k)):Opens P t Int (fun n=>[.int k n]) (fun n=>k.min<=n/\n<=k.max):=by
 intro H enc w sp C ow how fuel cs x h
 obtain⟨n,rfl,_,hw⟩:=DataW.trod_int ht h
 refine⟨n,⟨rfl,fun i x u hx hu=>?_⟩,?_⟩
 .cases i with
  |zero=>simp at hx hu;subst hx;subst hu;exact .int
  |succ i=>simp at hx
 .simpa [Lit.wf] using hw
theorem CellsRel.append {C:Phi0}{ow:Nat->Prop}{w:World}{as bs:List AV}{cs ds:List Value}(h:CellsRel C ow w as cs)(k:CellsRel C ow w bs ds):CellsRel C ow w (as++bs) (cs++ds):=by
 refine⟨by simp[h.1,k.1],fun i x u hx hu=>?_⟩
 rw[List.getElem?_append] at hx hu
 by_cases hi:i<as.length
 .rw[if_pos hi] at hx;rw[if_pos (by rw[<- h.1];exact hi)] at hu;exact h.2 i x u hx hu
 .rw[if_neg hi] at hx;rw[if_neg (by rw[<- h.1];exact hi),<- h.1] at hu;exact k.2 _ x u hx hu

inductive OpenF (P:Program):List Field->Nat->(L:Type)->(L->List AV)->(L->Prop)->Prop
 |nil (off:Nat):OpenF P [] off Unit (fun _=>[]) (fun _=>True)
 | cons {f:Field} {fs:List Field} {off:Nat} {A B:Type} {fa:A->List AV} {ga:A->Prop} {fb:B->List AV} {gb:B->Prop} (ho:f.offset=off) (h:Opens P f.type A fa ga) (k:OpenF P fs (off+P.cellsOf f.type) B fb gb):
   OpenF P (f::fs) off (A×B) (fun x=>fa x.1++fb x.2) (fun x=>ga x.1/\gb x.2)

theorem cells_at {w:World}{b:Nat}{a:Addr}{n:Nat}{cs:List Value}(h:w.cells? b a n=some cs):cs.length=n/\∀i u,cs[i]? =some u->w.cell? (a.add i)=some u:=by
 unfold World.cells? at h
 split at h
 .refine⟨by have:=mapM_some_length h;simpa using this,fun i u hu=>?_⟩
  have hi:i<n:=by have:=mapM_some_length h;have:=(List.getElem?_eq_some_iff.1 hu).1;simp at*;omega
  have:=mapM_some_get h i i (by simp[hi])
  rw[this,hu]
 .cases h
theorem spot_none {w:World}{a:Addr}{u:Value}(h:w.cell? a=some u):a.spot=none/\a.block<w.heap.size:=by
 unfold World.cell? at h
 split at h
 .rename_i c t z hh
  refine⟨?_,(Array.getElem?_eq_some_iff.1 hh).1⟩
  cases hs:a.spot with
  |none=>rfl
  |some s=>rw[hs] at h;simp at h
 .cases h
theorem add_flat (b o i j:Nat):(Addr.add ⟨b,o,none⟩ i).add j=⟨b,o+(i+j),none⟩:=by
 unfold Addr.add
 by_cases hi:i=0
 .subst hi;rw[if_pos rfl];by_cases hj:j=0
  .subst hj;rw[if_pos rfl];simp
  .rw[if_neg hj];simp
 .rw[if_neg hi];by_cases hj:j=0
  .subst hj;rw[if_pos rfl];simp
  .rw[if_neg hj];simp[Nat.add_assoc]

theorem opens_slice {P:Program}{t e:TypeId}{L:Type}{f:L->List AV}{good:L->Prop}(ht:P.underlying t=some (.slice e))(hpos:0<P.cellsOf e)(hone:∀x,∀y∈f x,AV.one y=true)(h:Opens P e L f good):
  Opens P t (List L) (fun l=>[.fsl (eL f l)]) (fun l=>l.length<=maxLen/\∀x∈l,good x):=by
 intro H enc w sp C ow how fuel cs x hx
 have one:∀(a:AV) (v:Value),VRel C ow w a v->CellsRel C ow w [a] [v]:=fun a v h=>⟨rfl,fun i x u hx hu=>by
  cases i with
  |zero=>simp at hx hu;subst hx;subst hu;exact h
  |succ i=>simp at hx⟩
 rcases DataW.trod_slice ht hx with⟨rfl,_⟩|⟨a,len,cap,elems,rest,n,_,rfl,_,hb,hl,hm,hlen,hel,_,_⟩
 .exact⟨[],one _ _ .fsl0,by simp,by simp⟩
 .rcases Nat.eq_zero_or_pos len with h0|h0
  .subst h0;exact⟨[],one _ _ .fsl0,by simp,by simp⟩
  have each:∀i,∃c:L×List Value,i<len->w.cells? 0 (a.add (i*P.cellsOf e)) (P.cellsOf e)=some c.2/\CellsRel C ow w (f c.1) c.2/\good c.1:=by
   intro i
   by_cases hi:i<len
   .have h1:=hel i hi
    rw[List.getElem?_eq_getElem (by omega),Option.bind_eq_some_iff] at h1
    obtain⟨c,h2,h3⟩:=h1
    obtain⟨y,hy,gy⟩:=h H enc w sp C ow how n c _ h3
    exact⟨(y,c),fun _=>⟨h2,hy,gy⟩⟩
   .have h1:=hel 0 h0
    rw[List.getElem?_eq_getElem (by omega),Option.bind_eq_some_iff] at h1
    obtain⟨c,h2,h3⟩:=h1
    obtain⟨y,hy,gy⟩:=h H enc w sp C ow how n c _ h3
    exact⟨(y,c),fun k=>absurd k hi⟩
  obtain⟨g,hg⟩:∃g:Nat->L×List Value,∀i,i<len->w.cells? 0 (a.add (i*P.cellsOf e)) (P.cellsOf e)=some (g i).2/\CellsRel C ow w (f (g i).1) (g i).2/\good (g i).1:=⟨fun i=>(each i).choose,fun i=>(each i).choose_spec⟩
  refine⟨(List.range len).map fun i=>(g i).1,one _ _ ?_,by simp;omega,?_⟩
  .have q0:=(hg 0 h0).1
   have c0:=cells_at q0
   have hx0:∃u,(g 0).2[0]? =some u:=⟨(g 0).2[0],List.getElem?_eq_getElem (by omega)⟩
   obtain⟨u,hu⟩:=hx0
   have hsp:a.spot=none/\a.block<w.heap.size:=by
    have e0:(a.add (0*P.cellsOf e)).add 0=a:=by simp[Addr.add]
    have:=c0.2 0 u hu
    rw[e0] at this
    exact spot_none this
   obtain⟨ab,ao,as⟩:=a
   simp only at hsp
   obtain⟨rfl,hab⟩:=hsp
   have row:∀(j:Nat) (y:List AV),(eL f ((List.range len).map fun i=>(g i).1))[j]? =some y->j<len/\y=f (g j).1:=by
    intro j y hj
    have hjl:j<len:=by have:=(List.getElem?_eq_some_iff.1 hj).1;simpa using this
    rw[encL_get,List.getElem?_map,List.getElem?_range hjl] at hj
    simp at hj
    exact⟨hjl,hj.symm⟩
   refine .fsl (sz:=P.cellsOf e) (fun j i=>(g j).2.getD i undef) ?_ (by simp) hab (how _) hpos hl hm ?_ ?_ ?_
   .intro y hy z hz
    obtain⟨x,_,rfl⟩:=List.mem_map.1 hy
    exact hone x z hz
   .intro j y hj
    obtain⟨k1,rfl⟩:=row j y hj
    obtain⟨k2,k3,_⟩:=hg j k1
    rw[k3.1];exact(cells_at k2).1
   .intro j y hj i x hi
    obtain⟨k1,rfl⟩:=row j y hj
    obtain⟨k2,k3,_⟩:=hg j k1
    have hil:i<(g j).2.length:=by rw[<- k3.1];exact(List.getElem?_eq_some_iff.1 hi).1
    have:=(cells_at k2).2 i _ (List.getElem?_eq_getElem hil)
    rw[add_flat] at this
    rw[this,List.getD_eq_getElem?_getD,List.getElem?_eq_getElem hil];rfl
   .intro j y hj i x hi
    obtain⟨k1,rfl⟩:=row j y hj
    obtain⟨k2,k3,_⟩:=hg j k1
    have hil:i<(g j).2.length:=by rw[<- k3.1];exact(List.getElem?_eq_some_iff.1 hi).1
    have:=k3.2 i x _ hi (List.getElem?_eq_getElem hil)
    rw[List.getD_eq_getElem?_getD,List.getElem?_eq_getElem hil];exact this
  .intro x hx
   obtain⟨i,hi,rfl⟩:=List.mem_map.1 hx
   exact(hg i (by simpa using hi)).2.2
theorem open_one {P:Program}{t:TypeId}{L:Type}{g:L->AV}{good:L->Prop}(h:Opens P t L (fun a=>[g a]) good){H:Type}{enc:TypeId×Value->H}{w:World}{sp:Nat->Bool}{v:Value}{d:DataW H}{p:List MemPlace}{C:Phi0}{ow:Nat->Prop}(how:∀b,¬ow b)
  (hT:DataW.Trod enc P w 0 sp true t v d p) (hv:v.cells= #[v]):∃a,VRel C ow w (g a) v/\good a:=by
 obtain⟨fuel,hf⟩:=hT
 rw[hv] at hf
 obtain⟨a,ha,ga⟩:=h H enc w sp C ow how fuel [v] _ hf
 exact⟨a,ha.2 0 _ _ rfl rfl,ga⟩
theorem args_nil {C:Phi0}{ow:Nat->Prop}{w:World}:ArgsRel C ow w [] #[]:=⟨rfl,fun i y u hy=>by simp at hy⟩
theorem args_cons {C:Phi0}{ow:Nat->Prop}{w:World}{x:AV}{xs:List AV}{v:Value}{vs:Array Value}{us:List Value}(h:VRel C ow w x v)(hu:vs=⟨v::us⟩)(k:ArgsRel C ow w xs ⟨us⟩):ArgsRel C ow w (x::xs) vs:=by
 subst hu
 refine⟨by have:=k.1;simp at this ⊢;exact this,fun i y u hy hu=>?_⟩
 cases i with
 |zero=>simp at hy hu;subst hy;subst hu;exact h
 |succ i=>exact k.2 i y u (by simpa using hy) (by simpa using hu)
def I64 (n:Int):Prop:=IntKind.i64.min<=n/\n<=IntKind.i64.max
theorem I64.num {n:Int}(h:I64 n): -9223372036854775808<=n/\n<=9223372036854775807:=h
end Go.Abs
