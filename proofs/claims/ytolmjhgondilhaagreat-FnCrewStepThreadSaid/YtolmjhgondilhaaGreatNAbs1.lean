/- The abstract values, the abstract heap and how they stand to the machine's world. -/
import Derived.Laws.AppendOwn
import Derived.Laws.Cells
import Derived.Below
import Derived.Laws.StructEq
set_option linter.unusedSimpArgs false
set_option linter.unusedVariables false
namespace Go.Abs
open Go Go.RowKit

inductive AV where
 |int (k:IntKind) (n:Int)
 |bool (b:Bool)
 |str (s:ByteArray)
 |nilp
 |nilsl
 |esl
 |nilf
 |ptr (o r i:Nat)
 |sl (o r n:Nat)
 |fptr (cs:List AV) (i:Nat)
 |fsl (es:List (List AV))
 |agg (cs:List AV)
 |tup (vs:List AV)
 |clo (f:FuncId) (first cap:List AV)
 |osl (ty sz:Nat) (es:List (List AV))
 |any1
 |any
 |bad
 deriving Inhabited

def AV.one:AV->Bool
 |.agg _|.tup _|.any|.bad=>false
 |_=>true

def AV.lin1:AV->Bool
 |.osl _ _ _=>false
 |_=>true
def AV.lin:AV->Bool
 |.agg cs=>cs.all AV.lin1
 |x=>x.lin1

def AV.cells:AV->List AV
 |.agg cs=>cs
 |v=>[v]

structure AObj where
 ty:TypeId
 sz:Nat
 rows:List (List AV)

structure AHeap where
 objs:Nat->Option AObj
 next:Nat

abbrev Phi0:=Nat->Option (Nat×Nat)

def own0 (C:Phi0)(J:AHeap)(b:Nat):Prop:=∃o ob sz,J.objs o=some ob/\C o=some (b,sz)/\0<sz

inductive VRel (C:Phi0) (ow:Nat->Prop) (w:World):AV->Value->Prop where
 |int {k:IntKind} {n:Int}:VRel C ow w (.int k n) (.int k n)
 |bool {b:Bool}:VRel C ow w (.bool b) (.bool b)
 |str {s:ByteArray}:VRel C ow w (.str s) (.string s)
 |nilp:VRel C ow w .nilp (.pointer none)
 |nilsl:VRel C ow w .nilsl (.slice none 0 0)
 |esl {a:Option Addr}:VRel C ow w .esl (.slice a 0 0)
 |nilf:VRel C ow w .nilf .nilFunc
 |any {v:Value}:VRel C ow w .any v
 |any1 {v:Value} (h:v.oneCell'=true):VRel C ow w .any1 v
 |ptr {o r i b sz:Nat} (h:C o=some (b,sz)):VRel C ow w (.ptr o r i) (.pointer (some ⟨b,r*sz+i,none⟩))
 | sl {o r n b sz cap:Nat} {T:TypeId} {arr:Array Value} (h:C o=some (b,sz)) (hsz:0<sz) (hn:n<=cap) (hc:cap<=maxLen)
   (hw:w.heap[b]? =some (.cells arr T (0,0))) (he:(r+cap)*sz=arr.size):VRel C ow w (.sl o r n) (.slice (some ⟨b,r*sz,none⟩) n cap)
 |sl0 {o b sz:Nat} {a:Option Addr} (h:C o=some (b,sz)):VRel C ow w (.sl o 0 0) (.slice a 0 0)
 |sl1 {o r b sz cap:Nat} {a:Option Addr} (h:C o=some (b,sz)):VRel C ow w (.sl o (r+1) 0) (.slice a 0 cap)
 | fptr {cs:List AV} {i b off:Nat} (vs:Nat->Value) (hone:∀x∈cs,x.one=true) (hb:b<w.heap.size) (hno:¬ow b)
   (hcell:∀(j:Nat) (x:AV),cs[j]? =some x->w.cell? ⟨b,off+j,none⟩=some (vs j))
   (hv:∀(j:Nat) (x:AV),cs[j]? =some x->VRel C ow w x (vs j)):VRel C ow w (.fptr cs i) (.pointer (some ⟨b,off+i,none⟩))
 |fsl0 {a:Option Addr} {cap:Nat}:VRel C ow w (.fsl []) (.slice a 0 cap)
 | fsl {es:List (List AV)} {n b off cap sz:Nat} (vs:Nat->Nat->Value) (hone:∀e∈es,∀x∈e,AV.one x=true) (hn:es.length=n) (hb:b<w.heap.size) (hno:¬ow b) (hsz:0<sz) (hcap:n<=cap) (hm:cap<=maxLen)
   (hlen:∀(j:Nat) (e:List AV),es[j]? =some e->e.length=sz)
   (hcell:∀(j:Nat) (e:List AV),es[j]? =some e->∀(i:Nat) (x:AV),e[i]? =some x->w.cell? ⟨b,off+(j*sz+i),none⟩=some (vs j i))
   (hv:∀(j:Nat) (e:List AV),es[j]? =some e->∀(i:Nat) (x:AV),e[i]? =some x->VRel C ow w x (vs j i)):VRel C ow w (.fsl es) (.slice (some ⟨b,off,none⟩) n cap)
 |agg {cs:List AV} {vs:Array Value} (hl:cs.length=vs.size) (hv:∀(i:Nat) (x:AV) (u:Value),cs[i]? =some x->vs[i]? =some u->VRel C ow w x u):VRel C ow w (.agg cs) (.agg vs)
 |tup {cs:List AV} {vs:Array Value} (hl:cs.length=vs.size) (hv:∀(i:Nat) (x:AV) (u:Value),cs[i]? =some x->vs[i]? =some u->VRel C ow w x u):VRel C ow w (.tup cs) (.tuple vs)
 | clo {f:FuncId} {fs cs:List AV} {vfs vcs:Array Value} (hl:fs.length=vfs.size) (hv:∀(i:Nat) (x:AV) (u:Value),fs[i]? =some x->vfs[i]? =some u->VRel C ow w x u)
   (hl':cs.length=vcs.size) (hv':∀(i:Nat) (x:AV) (u:Value),cs[i]? =some x->vcs[i]? =some u->VRel C ow w x u):VRel C ow w (.clo f fs cs) (.func (.func f) vfs vcs)

def ORel (C:Phi0)(ow:Nat->Prop)(w:World)(x:Option (Nat×Nat))(ob:AObj):Prop:=
 ∃ b sz,x=some (b,sz)/\(sz=0->ob.rows=[])/\(0<sz->sz=ob.sz/\0<sz/\∃arr,w.heap[b]? =some (.cells arr ob.ty (0,0))/\ob.rows.length*sz<=arr.size/\
   ∀(r:Nat) (e:List AV),ob.rows[r]? =some e->e.length=sz/\∀(i:Nat) (x:AV),e[i]? =some x->x.one=true/\∃v,arr[r*sz+i]? =some v/\VRel C ow w x v)

theorem ORel.get {C ow w b sz ob}(h:ORel C ow w (some (b,sz)) ob)(h0:0<sz):sz=ob.sz/\0<sz/\∃arr,w.heap[b]? =some (.cells arr ob.ty (0,0))/\ob.rows.length*sz<=arr.size/\
   ∀(r:Nat) (e:List AV),ob.rows[r]? =some e->e.length=sz/\∀(i:Nat) (x:AV),e[i]? =some x->x.one=true/\∃v,arr[r*sz+i]? =some v/\VRel C ow w x v:=by
 obtain⟨b',sz',e,_,h2⟩:=h
 cases e
 exact h2 h0

abbrev Globs:=Nat->Option (List AV)

structure R0 (G:Globs) (C:Phi0) (J:AHeap) (w:World):Prop where
 ids:∀o,J.next<=o->J.objs o=none/\C o=none
 obj:∀o ob,J.objs o=some ob->ORel C (own0 C J) w (C o) ob
 inj:∀o o' b s s' ob ob',J.objs o=some ob->J.objs o'=some ob'->C o=some (b,s)->C o'=some (b,s')->0<s->0<s'->o=o'
 glob:∀g cs,G g=some cs->VRel C (own0 C J) w (.fptr cs 0) (.pointer (some ⟨g,0,none⟩))

structure Fr (ow:Nat->Prop) (w w':World):Prop where
 os:w'.os=w.os
 tape:w'.tape=w.tape
 output:w'.output=w.output
 size:w.heap.size<=w'.heap.size
 blk:∀b,b<w.heap.size->¬ow b->w'.heap[b]? =w.heap[b]?
 shp:∀(b:Nat) (arr:Array Value) (T:TypeId),w.heap[b]? =some (.cells arr T (0,0))->∃arr':Array Value,w'.heap[b]? =some (.cells arr' T (0,0))/\arr'.size=arr.size

structure Ext0 (N:Nat->Prop) (C:Phi0) (J:AHeap) (w:World) (C':Phi0) (J':AHeap) (w':World):Prop where
 keep:∀o,N o->C' o=C o/\(J.objs o=none->J'.objs o=none)
 sub:∀o x,C o=some x->C' o=some x
 fr:Fr (own0 C J) w w'
 new:∀b,own0 C' J' b->own0 C J b\/w.heap.size<=b
 nx:J.next<=J'.next

theorem Fr.refl (ow:Nat->Prop)(w:World):Fr ow w w:=⟨rfl,rfl,rfl,Nat.le_refl _,fun _ _ _=>rfl,fun b arr T h=>⟨arr,h,rfl⟩⟩

theorem Ext0.refl (N:Nat->Prop)(C:Phi0)(J:AHeap)(w:World):Ext0 N C J w C J w:=⟨fun _ _=>⟨rfl,id⟩,fun _ _ h=>h,Fr.refl _ _,fun _ h=>.inl h,Nat.le_refl _⟩

theorem Ext0.le {N M C J w C1 J1 w1}(h:Ext0 N C J w C1 J1 w1)(hM:∀o,M o->N o):Ext0 M C J w C1 J1 w1:=
 ⟨fun o ho=>h.keep o (hM o ho),h.sub,h.fr,h.new,h.nx⟩

theorem Ext0.trans {N C J w C1 J1 w1 C2 J2 w2}(h:Ext0 N C J w C1 J1 w1)(k:Ext0 N C1 J1 w1 C2 J2 w2):Ext0 N C J w C2 J2 w2:=by
 refine⟨fun o ho=>⟨(k.keep o ho).1.trans (h.keep o ho).1,fun hn=>(k.keep o ho).2 ((h.keep o ho).2 hn)⟩,fun o x hx=>k.sub o x (h.sub o x hx),⟨k.fr.os.trans h.fr.os,k.fr.tape.trans h.fr.tape,k.fr.output.trans h.fr.output,Nat.le_trans h.fr.size k.fr.size,?_,?_⟩,?_,Nat.le_trans h.nx k.nx⟩
 .intro b hb hno
  rw[k.fr.blk b (Nat.lt_of_lt_of_le hb h.fr.size) (fun ho=>(h.new b ho).elim hno (fun hle=>by omega)),h.fr.blk b hb hno]
 .intro b arr T hw
  obtain⟨a1,h1,e1⟩:=h.fr.shp b arr T hw
  obtain⟨a2,h2,e2⟩:=k.fr.shp b a1 T h1
  exact⟨a2,h2,e2.trans e1⟩
 .intro b hb
  rcases k.new b hb with h1|h1
  .exact h.new b h1
  .exact .inr (Nat.le_trans h.fr.size h1)

theorem yL {w:World}{b:Nat}{x:Obj}(h:w.heap[b]? =some x):b<w.heap.size:=(Array.getElem?_eq_some_iff.1 h).1

theorem VRel.mono' {C C':Phi0}{ow ow':Nat->Prop}{w w':World}(hsub:∀o x,C o=some x->C' o=some x)
  (hblk:∀b,b<w.heap.size->¬ow b->w'.heap[b]? =w.heap[b]?) (hsz:w.heap.size<=w'.heap.size)
  (hshp:∀(b:Nat) (arr:Array Value) (T:TypeId),w.heap[b]? =some (.cells arr T (0,0))->∃arr':Array Value,w'.heap[b]? =some (.cells arr' T (0,0))/\arr'.size=arr.size)
  (hnew:∀b,b<w.heap.size->ow' b->ow b) {a:AV} {v:Value} (h:VRel C ow w a v):VRel C' ow' w' a v:=by
 induction h with
 |int=>exact .int
 |bool=>exact .bool
 |str=>exact .str
 |nilp=>exact .nilp
 |nilsl=>exact .nilsl
 |esl=>exact .esl
 |nilf=>exact .nilf
 |any=>exact .any
 |any1 h=>exact .any1 h
 |ptr h=>exact .ptr (hsub _ _ h)
 |sl h h0 hn hc hw he=>
  obtain⟨arr',h1,h2⟩:=hshp _ _ _ hw
  exact .sl (hsub _ _ h) h0 hn hc h1 (he.trans h2.symm)
 |sl0 h=>exact .sl0 (hsub _ _ h)
 |sl1 h=>exact .sl1 (hsub _ _ h)
 |fptr vs hone hb hno hcell hv ih=>
  refine .fptr vs hone (Nat.lt_of_lt_of_le hb hsz) (fun ho=>hno (hnew _ hb ho)) (fun j x hj=>?_) ih
  rw[World.cell?_of_block (hblk _ hb hno)]
  exact hcell j x hj
 |fsl0=>exact .fsl0
 |fsl vs hone hn hb hno h0 hcap hm hlen hcell hv ih=>
  refine .fsl vs hone hn (Nat.lt_of_lt_of_le hb hsz) (fun ho=>hno (hnew _ hb ho)) h0 hcap hm hlen (fun j e hj i x hi=>?_) ih
  rw[World.cell?_of_block (hblk _ hb hno)]
  exact hcell j e hj i x hi
 |agg hl _ ih=>exact .agg hl ih
 |tup hl _ ih=>exact .tup hl ih
 |clo hl _ hl' _ ih ih'=>exact .clo hl ih hl' ih'

theorem VRel.mono {C C':Phi0}{N:Nat->Prop}{J J':AHeap}{w w':World}(he:Ext0 N C J w C' J' w'){a:AV}{v:Value}(h:VRel C (own0 C J) w a v):VRel C' (own0 C' J') w' a v:=
 h.mono' he.sub he.fr.blk he.fr.size he.fr.shp fun b hb ho=>(he.new b ho).resolve_right (by omega)

abbrev AAct:=List (Nat×AV)
def AAct.get:AAct->Nat->AV
 |[],_=>.any
 |(d,v)::l,t=>if t=d then v else AAct.get l t
def AAct.put (a:AAct)(d:Option Nat)(v:AV):AAct:=
 match d with
 |some d=>(d,v)::a
 |none=>a
def AAct.keep (a:AAct)(l:List Nat):AAct:=l.map fun t=>(t,a.get t)

structure ARel0 (C:Phi0) (J:AHeap) (w:World) (n:Nat) (a:AAct) (ca:Act):Prop where
 size:ca.tmps.size=n
 defers:ca.defers=[]
 rel:∀t,VRel C (own0 C J) w (a.get t) (ca.tmps.getD t undef)

theorem ARel0.mono {C C':Phi0}{N:Nat->Prop}{J J':AHeap}{w w':World}{n a ca}(he:Ext0 N C J w C' J' w')(h:ARel0 C J w n a ca):ARel0 C' J' w' n a ca:=
 ⟨h.size,h.defers,fun t=>(h.rel t).mono he⟩

theorem ARel0.put {C:Phi0}{J:AHeap}{w:World}{n a ca}(h:ARel0 C J w n a ca){d:Option Nat}(hd:∀x,d=some x->x<n){v:AV}{cv:Value}
  (hv:VRel C (own0 C J) w v cv):ARel0 C J w n (a.put d v) (ca.put d cv):=by
 cases d with
 |none=>exact h
 |some d=>
  have hd':=hd d rfl
  refine⟨by simp[Act.put,h.size],by simp[Act.put,h.defers],fun t=>?_⟩
  simp only[AAct.put,Act.put,AAct.get]
  by_cases ht:t=d
  .subst ht
   rw[if_pos rfl,Array.getD_eq_getD_getElem?,Array.getElem?_setIfInBounds]
   simp[h.size,hd']
   exact hv
  .rw[if_neg ht,Array.getD_eq_getD_getElem?,Array.getElem?_setIfInBounds,if_neg (Ne.symm ht),<- Array.getD_eq_getD_getElem?]
   exact h.rel t

theorem AAct.get_keep (a:AAct)(l:List Nat)(t:Nat):(a.keep l).get t=a.get t\/(a.keep l).get t=.any:=by
 induction l with
 |nil=>exact .inr rfl
 |cons d l ih=>
  simp only[AAct.keep,List.map_cons,AAct.get]
  by_cases h:t=d
  .subst h;left;simp
  .rw[if_neg h];exact ih

theorem ARel0.keep {C:Phi0}{J:AHeap}{w:World}{n a ca}(h:ARel0 C J w n a ca)(l:List Nat):ARel0 C J w n (a.keep l) ca:=by
 refine⟨h.size,h.defers,fun t=>?_⟩
 rcases a.get_keep l t with e|e
 .rw[e];exact h.rel t
 .rw[e];exact .any

def AV.weak1:AV->AV
 |.nilsl=>.fsl []
 |.esl=>.fsl []
 |x=>x
def AV.weak:AV->AV
 |.agg cs=>.agg (cs.map AV.weak1)
 |x=>x.weak1
theorem VRel.weak1 {C:Phi0}{ow:Nat->Prop}{w:World}{x:AV}{v:Value}(h:VRel C ow w x v):VRel C ow w x.weak1 v:=by
 cases x with
 |nilsl=>cases h;exact .fsl0
 |esl=>cases h;exact .fsl0
 |_=>exact h
theorem VRel.weak {C:Phi0}{ow:Nat->Prop}{w:World}{x:AV}{v:Value}(h:VRel C ow w x v):VRel C ow w x.weak v:=by
 cases x with
 |agg cs=>
  cases h with
  |agg hl hv=>
   refine .agg (by rw[List.length_map];exact hl) fun i y u hy hu=>?_
   rw[List.getElem?_map] at hy
   cases h':cs[i]? with
   |none=>simp[h'] at hy
   |some z=>simp[h'] at hy;subst hy;exact(hv i z u h' hu).weak1
 |nilsl=>exact h.weak1
 |esl=>exact h.weak1
 |_=>exact h
theorem AV.weak1_one {x:AV}(h:x.one=true):x.weak1.one=true:=by cases x<;>first|rfl|exact h
theorem VRel.und {C:Phi0}{ow:Nat->Prop}{w:World}:VRel C ow w (.tup []) undef:=.tup rfl (by intro i x u h;simp at h)
theorem VRel.und_eq {C:Phi0}{ow:Nat->Prop}{w:World}{v:Value}(h:VRel C ow w (.tup []) v):v=undef:=by
 cases h with
 |@tup _ vs hl _=>
  have:vs= #[]:=Array.eq_empty_of_size_eq_zero hl.symm
  subst this;rfl

end Go.Abs

/- Types as a table, operands, and the operations that only read: what they give, and that the machine gives the same. -/
set_option linter.unusedSimpArgs false
set_option linter.unusedVariables false
namespace Go.Abs
open Go Go.RowKit

inductive TK where
 |int (k:IntKind)|bool|str|ptr|slice (e:TypeId)|struct (fs:List (Nat×TypeId))|array (n:Nat) (e:TypeId)|other
 deriving DecidableEq

structure TI where
 sz:Nat
 bytes:Nat
 zero:List AV
 k:TK

def TK.agg:TK->Bool
 |.struct _|.array _ _=>true
 |_=>false

def tkOf:TypeDesc->TK
 |.int k=>.int k
 |.bool=>.bool
 |.string=>.str
 |.pointer _=>.ptr
 |.slice e=>.slice e
 |.struct fs=>.struct (fs.toList.map fun f=>(f.offset,f.type))
 |.array n e=>.array n e
 |_=>.other

def AV.toC:AV->Value
 |.int k n=>.int k n
 |.bool b=>.bool b
 |.str s=>.string s
 |.nilp=>.pointer none
 |.nilsl=>.slice none 0 0
 |.nilf=>.nilFunc
 |_=>undef

def AV.gr:AV->Bool
 |.int _ _|.bool _|.str _|.nilp|.nilsl|.nilf=>true
 |_=>false

abbrev Types:=TypeId->Option TI

def flatT (T:Types)(k:TK):Bool:=
 match k with
 |.struct fs=>fs.all fun p=>match(T p.2).map TI.k with
  |some (.int _)=>true
  |_=>false
 |_=>false
def eqBad (P:Program)(t:TypeId):Bool:=P.stoodInHeld t||P.eqGuardType P.depth t||(P.fieldsOf t).toList.any fun f=>f.name== "_"

def TOk (P:Program)(T:Types):Prop:=∀t i,T t=some i->
 (P.info? t).map (fun x=>(x.size,x.bytes,x.zero.map (·.cells.toList)))=some (i.sz,i.bytes,some (i.zero.map AV.toC))/\i.zero.all AV.gr=true/\
 (P.underlying t).map tkOf=some i.k/\i.zero.length=i.sz/\(flatT T i.k&&eqBad P t)=false

def AV.ofC:Value->AV
 |.int k n=>.int k n
 |.bool b=>.bool b
 |.string s=>.str s
 |.pointer none=>.nilp
 |.slice none 0 0=>.nilsl
 |.nilFunc=>.nilf
 |_=>.bad

def ev (G:Globs)(a:AAct):Operand->AV
 |.tmp t=>a.get t
 |.const v=>.ofC v
 |.global g=>match G g with|some cs=>.fptr cs 0|none=>.bad
 |.func f=>.clo f [] []

theorem ofC_rel {C ow w}(v:Value)(h:AV.ofC v≠.bad):VRel C ow w (.ofC v) v:=by
 unfold AV.ofC at h ⊢
 split at h<;>first|constructor|exact absurd rfl h

theorem gr_rel {C ow w}(v:AV)(h:v.gr=true):VRel C ow w v v.toC:=by
 cases v<;>simp[AV.gr] at h<;>constructor

theorem ev_rel0 {G C J w n a ca}(hR:R0 G C J w)(hA:ARel0 C J w n a ca)(x:Operand)(h:ev G a x≠.bad):VRel C (own0 C J) w (ev G a x) (ca.eval x):=by
 cases x with
 |tmp t=>exact hA.rel t
 |const v=>exact ofC_rel v h
 |global g=>
  simp only[ev] at h ⊢
  cases hg:G g with
  |none=>simp[hg] at h
  |some cs=>simpa [Act.eval] using hR.glob g cs hg
 |func f=>exact .clo rfl (by simp) rfl (by simp)

def part (ti:TI)(row:List AV)(i:Nat):Option AV:=
 if ti.k.agg then(if i+ti.sz<=row.length then some (.agg ((row.drop i).take ti.sz)) else none) else row[i]?

def ibin (op:BinOp)(k:IntKind)(a b:Int):Option AV:=
 match op with
 |.add=>some (.int k (k.wrap (a+b)))
 |.sub=>some (.int k (k.wrap (a-b)))
 |.mul=>some (.int k (k.wrap (a*b)))
 |.quo=>if b=0 then none else some (.int k (k.wrap (a.tdiv b)))
 |.rem=>if b=0 then none else some (.int k (a.tmod b))
 |.and=>some (.int k (k.wrap (BitVec.ofInt k.bits a&&&BitVec.ofInt k.bits b).toNat))
 |.or=>some (.int k (k.wrap (BitVec.ofInt k.bits a|||BitVec.ofInt k.bits b).toNat))
 |.xor=>some (.int k (k.wrap (BitVec.ofInt k.bits a ^^^ BitVec.ofInt k.bits b).toNat))
 |.andNot=>some (.int k (k.wrap (BitVec.ofInt k.bits a&&& ~~~(BitVec.ofInt k.bits b)).toNat))
 |.eql=>some (.bool (a==b))
 |.neq=>some (.bool (a !=b))
 |.lss=>some (.bool (a<b))
 |.leq=>some (.bool (a<=b))
 |.gtr=>some (.bool (a>b))
 |.geq=>some (.bool (a>=b))
 |.shl=>if b<0 then none else some (.int k (k.wrap (a*2 ^ (min b.toNat k.bits))))
 |.shr=>if b<0 then none else some (.int k (a.fdiv (2 ^ (min b.toNat k.bits))))

abbrev Types.kind (T:Types)(t:TypeId):Option TK:=(T t).map TI.k

def qL:List (Nat×TypeId)->List AV->List AV->Option Bool
 |[],_,_=>some true
 |p::ps,xs,ys=>match xs[p.1]?,ys[p.1]? with
  |some (.int k a),some (.int k' b)=>if k=k' then(qL ps xs ys).map fun r=>(a==b)&&r else none
  |_,_=>none
def eqAgg (T:Types)(t:TypeId)(xs ys:List AV):Option Bool:=
 match T t with
 |some ti=>if flatT T ti.k=true then(match ti.k with
  |.struct fs=>qL fs xs ys
  |_=>none) else none
 |none=>none
def ptrNil:AV->Option Bool
 |.nilp=>some true
 |.ptr _ _ _=>some false
 |.fptr _ _=>some false
 |_=>none
def bin (T:Types)(op:BinOp)(t:TypeId)(x y:AV):Option AV:=
 match x,y with
 |.int k a,.int k' b=>if k=k'\/op=.shl\/op=.shr then ibin op k a b else none
 |.bool a,.bool b=>match T.kind t,op with
  |some .bool,.eql=>some (.bool (a==b))
  |some .bool,.neq=>some (.bool (!(a==b)))
  |_,_=>none
 |.agg xs,.agg ys=>match op with
  |.eql=>(eqAgg T t xs ys).map fun b=>.bool b
  |.neq=>(eqAgg T t xs ys).map fun b=>.bool !b
  |_=>none
 |x,.nilp=>match T.kind t,op with
  |some .ptr,.eql=>(ptrNil x).map fun b=>.bool b
  |some .ptr,.neq=>(ptrNil x).map fun b=>.bool !b
  |_,_=>none
 |_,_=>none

def loadA (T:Types)(J:AHeap)(t:TypeId)(x:AV):Option AV:=
 match T t,x with
 |some ti,.ptr o r i=>(J.objs o).bind fun ob=>(ob.rows[r]?).bind fun row=>(part ti row i).bind fun v=>if v.lin=true then some v else none
 |some ti,.fptr cs i=>part ti cs i
 |_,_=>none

def pO:AV->Option AV
 |.ptr o r i=>some (.ptr o r i)
 |.fptr cs i=>some (.fptr cs i)
 |_=>none

def unA (op:UnOp)(x:AV):Option AV:=
 match op,x with
 |.not,.bool b=>some (.bool !b)
 |.neg,.int k n=>some (.int k (k.wrap (0-n)))
 |_,_=>none

def convA (T:Types)(src dst:TypeId)(x:AV):Option AV:=
 match T.kind src,T.kind dst,x with
 |some _,some (.int k),.int _ n=>some (.int k (k.wrap n))
 |_,_,_=>none

def fY (T:Types)(s:TypeId)(f:Nat):Option (Nat×TI):=
 match T.kind s with
 |some (.struct fs)=>(fs[f]?).bind fun p=>(T p.2).bind fun ti=>if ti.sz=0 then none else some (p.1,ti)
 |_=>none

def tE (T:Types)(s:TypeId)(x:AV)(f:Nat):Option AV:=
 match fY T s f,x with
 |some (off,_),.ptr o r i=>some (.ptr o r (i+off))
 |some (off,_),.fptr cs i=>some (.fptr cs (i+off))
 |_,_=>none

def fieldA (T:Types)(s:TypeId)(x:AV)(f:Nat):Option AV:=
 match fY T s f,x with
 |some (off,ti),.agg cs=>part ti cs off
 |_,_=>none

def zQ (T:Types)(J:AHeap)(t:TypeId)(x ix:AV):Option AV:=
 match T.kind t,x,ix with
 |some (.slice e),.sl o r n,.int _ i=>(J.objs o).bind fun ob=>(T e).bind fun ti=>if ob.sz=ti.sz/\0<=i/\i<n then some (.ptr o (r+i.toNat) 0) else none
 |some (.slice e),.fsl es,.int _ i=>(T e).bind fun ti=>(es[i.toNat]?).bind fun row=>if row.length=ti.sz/\0<=i then some (.fptr row 0) else none
 |some (.array n e),.ptr o r i0,.int _ i=>(T e).bind fun ti=>if 0<=i/\i<n then some (.ptr o r (i0+i.toNat*ti.sz)) else none
 |some (.array n e),.fptr cs i0,.int _ i=>(T e).bind fun ti=>if 0<=i/\i<n then some (.fptr ((cs.drop (i0+i.toNat*ti.sz)).take ti.sz) 0) else none
 |_,_,_=>none

def indexA (T:Types)(t:TypeId)(x ix:AV):Option AV:=
 match T.kind t,x,ix with
 |some (.array n e),.agg cs,.int _ i=>(T e).bind fun ti=>if 0<=i/\i<n then part ti cs (i.toNat*ti.sz) else none
 |_,_,_=>none

def gC (x:AV)(i:Nat):Option AV:=
 match x with
 |.tup vs=>vs[i]?
 |_=>none

def lenA (T:Types)(t:TypeId)(x:AV):Option AV:=
 match T.kind t,x with
 |some (.slice _),.sl _ _ n=>some (.int .i64 n)
 |some (.slice _),.fsl es=>some (.int .i64 es.length)
 |some (.slice _),.nilsl=>some (.int .i64 0)
 |some (.slice _),.esl=>some (.int .i64 0)
 |some .str,.str s=>some (.int .i64 s.size)
 |_,_=>none

def maxA (x y:AV):Option AV:=
 match x,y with|.int k p,.int _ q=>some (.int k (if q>p then q else p))|_,_=>none
def minA (x y:AV):Option AV:=
 match x,y with|.int k p,.int _ q=>some (.int k (if q<p then q else p))|_,_=>none

def AV.ok:AV->Option AV
 |.bad=>none
 |v=>some v

def stepP (T:Types)(G:Globs)(op:Op)(a:AAct)(J:AHeap):Option AV:=
 match op with
 |.move x|.assign x=>(ev G a x).ok
 |.pick c x y=>match ev G a c with
  |.bool b=>(if b then ev G a x else ev G a y).ok
  |_=>none
 |.load t x=>loadA T J t (ev G a x)
 |.nilCheck x=>pO (ev G a x)
 |.binOp op t x y _=>bin T op t (ev G a x) (ev G a y)
 |.unOp op _ x=>unA op (ev G a x)
 |.convert src dst x=>convA T src dst (ev G a x)
 |.fieldAddr s x f=>tE T s (ev G a x) f
 |.field s x f=>fieldA T s (ev G a x) f
 |.indexAddr t x ix=>zQ T J t (ev G a x) (ev G a ix)
 |.index t x ix=>indexA T t (ev G a x) (ev G a ix)
 |.extract x i=>gC (ev G a x) i
 |.makeFunc (.func f) first cap=>
  if(first.toList.map (ev G a)).all AV.one&&(cap.toList.map (ev G a)).all AV.one then some (.clo f (first.toList.map (ev G a)) (cap.toList.map (ev G a))) else none
 |.call {callee:=.builtin .len,args,argTypes}=>match args.toList,argTypes.toList with
  |[x],[t]=>lenA T t (ev G a x)
  |_,_=>none
 |.call {callee:=.builtin .max,args,.. }=>match args.toList with
  |[x,y]=>maxA (ev G a x) (ev G a y)
  |_=>none
 |.call {callee:=.builtin .min,args,.. }=>match args.toList with
  |[x,y]=>minA (ev G a x) (ev G a y)
  |_=>none
 |_=>none

theorem TOk.info {P T}(h:TOk P T){t:TypeId}{i:TI}(hi:T t=some i):
  ∃x,P.info? t=some x/\x.size=i.sz/\x.bytes=i.bytes/\∃z,x.zero=some z/\z.cells.toList=i.zero.map AV.toC:=by
 obtain⟨h1,h2,h3,_⟩:=h t i hi
 cases hx:P.info? t with
 |none=>simp[hx] at h1
 |some x=>
  simp[hx] at h1
  obtain⟨a,b,z,hz,hc⟩:=h1
  exact⟨x,rfl,a,b,z,hz,hc⟩

theorem TOk.under {P T}(h:TOk P T){t:TypeId}{k:TK}(hi:T.kind t=some k):∃d,P.underlying t=some d/\tkOf d=k:=by
 cases hx:T t with
 |none=>simp[Types.kind,hx] at hi
 |some i=>
  obtain⟨h1,h2,h3,_⟩:=h t i hx
  simp[Types.kind,hx] at hi
  subst hi
  cases hu:P.underlying t with
  |none=>simp[hu] at h3
  |some d=>simp[hu] at h3;exact⟨d,rfl,h3⟩

theorem TOk.size {P T}(h:TOk P T){t:TypeId}{i:TI}(hi:T t=some i)(w:World):(sizeOf t).run P w=.ok i.sz w:=by
 obtain⟨x,hx,hs,_⟩:=h.info hi
 simp[sizeOf,typeInfo,hx,hs]

theorem TOk.isAgg {P T}(h:TOk P T){t:TypeId}{i:TI}(hi:T t=some i)(w:World):(isAgg t).run P w=.ok i.k.agg w:=by
 obtain⟨d,hd,hk⟩:=h.under (t:=t) (k:=i.k) (by simp[Types.kind,hi])
 rw[<- hk]
 simp only[_root_.Go.isAgg,Sem.run_bind,run_underlying hd,Result.andThen_ok]
 cases d<;>rfl

theorem dR {P T C ow w}(hT:TOk P T){t:TypeId}{ti:TI}(ht:T t=some ti){cs:List AV}{vs:Array Value}(hl:cs.length=vs.size)
  (hv:∀(i:Nat) (x:AV) (u:Value),cs[i]? =some x->vs[i]? =some u->VRel C ow w x u) {i:Nat} {v:AV} (hp:part ti cs i=some v) (w1:World):
  ∃cv,(Go.part t vs i).run P w1=.ok cv w1/\VRel C ow w v cv:=by
 unfold part at hp
 unfold Go.part
 simp only[Sem.run_bind,hT.isAgg ht,Result.andThen_ok]
 cases hk:ti.k.agg with
 |true=>
  simp only[hk,if_true] at hp ⊢
  split at hp
  .rename_i hle
   cases hp
   simp only[Sem.run_bind,hT.size ht,Result.andThen_ok,Sem.run_pure]
   refine⟨_,rfl,.agg (by simp;omega) fun j x u hx hu=>?_⟩
   have hx':=hx
   simp only[List.getElem?_take,List.getElem?_drop] at hx
   split at hx
   .refine hv _ x u hx ?_
    rw[Array.getElem?_extract] at hu
    split at hu<;>simp_all
   .cases hx
  .cases hp
 |false=>
  simp only[hk,if_false,Bool.false_eq_true] at hp ⊢
  have hi:i<cs.length:=(List.getElem?_eq_some_iff.1 hp).1
  have hi':i<vs.size:=by omega
  have e:vs[i]? =some vs[i]:=by simp[hi']
  simp only[e,Sem.run_pure]
  exact⟨_,rfl,hv i v _ hp e⟩

end Go.Abs
