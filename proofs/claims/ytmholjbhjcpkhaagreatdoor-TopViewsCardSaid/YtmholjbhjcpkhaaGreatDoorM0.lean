/- Part 0 of the proof. -/
import Derived.Deep.Quiet
import Derived.Ground.SlgmProg
import Derived.KernelRfl
import Derived.Laws.BytesArg
import Derived.Laws.Concat
import Derived.Laws.IdiomRangeMap
import Derived.Laws.MakeOwn
import Derived.Laws.Slices
import Derived.Laws.Strings3
import Derived.Laws.StructEq
import Derived.Lib.ConvBytes
import Derived.Lib.MakeNoZero
import Derived.MapKept
import Derived.Maps.RangeRun
import Derived.OrdersIn
import Derived.RangeFuncLeaves
import Derived.RangeFuncSeq
import Derived.Shelf.SlGeneric
import Derived.Shelf.SortM.Plain
import Derived.Shelf.SortM.SortNone
import Derived.Sort.OwnSortedInts
import Derived.Stop.BytesEq
import Derived.Test.YtmholjbhjcpkhaaGreatDoorProg
import Derived.Test.YtmholjbhjcpkhaaGreatDoorSy
import Derived.WalkKit
set_option linter.defProp false
set_option linter.unusedVariables false
set_option linter.unusedSimpArgs false
set_option linter.unusedSectionVars false
set_option maxRecDepth 20000
set_option maxHeartbeats 4000000
namespace Go.Proofs.YtmholjbhjcpkhaaGreatDoor.R
open Go.Proofs.Tryz Go Go.RowKit
def aR:=@if_pos
def az:=@if_neg
def gq:=@Array.getElem?_eq_some_iff
def hn:=@Option.some.inj
def li:=@Go.CallsIn.mono
def pk:=@Go.RoundIn.mono
def kn:=@Go.wpIn_mono
def ib:=@if_true
def nh:=@Go.Oper.semAt_eq
def tw:=@Array.toArray_toList
def lh:=@List.getElem?_eq_none
def cF:=@Nat.le_refl
def jZ:=@List.flatten_cons
def fL:=@List.mem_append
def iB:=@List.map_append
def iX:=@List.nodup_append
def ee:=@List.mem_map
def gS:=@List.flatten_append
def ej:=@Nat.le_trans
def tp:=@Nat.lt_of_lt_of_le
def q2:=@Array.getElem?_modify
def lP:=@List.eq_nil_of_length_eq_zero
def kJ:=@List.getElem?_take
def cp:=@Nat.zero_le
def cj:=@List.length_append
def j1:=@Nat.mul_le_mul_right
def tq:=@Array.toList_append
def dS:=@List.append_assoc
def lQ:=@List.take_left
def q3:=@Nat.eq_zero_or_pos
def d9:=@Go.run_underlying
def fe:=@Nat.zero_add
def kl:=@List.nil_append
def mG:=@Nat.add_mul
def hl:=@List.size_toArray
def dW:=@Go.Sem.run_bind
def dZ:=@Go.Result.andThen_ok
def ew:=@Go.Sem.run_pure
def ph:=@Go.run_loadCells_list
def lR:=@Go.run_program
def fz:=@Array.ext'
def g9:=@Array.toList_map
def mH:=@List.map_map
def pi:=@Array.empty_append
def ex:=@List.length_cons
def tr:=@List.zip_cons_cons
def cr:=@List.getElem?_eq_getElem
def km:=@if_false
def gA:=@List.append_nil
def fW:=@List.length_nil
def nd:=@Nat.add_zero
def ne:=@List.take_append_drop
def d8:=@Bool.and_eq_true
def j2:=@List.any_eq_true
def ea:=@beq_iff_eq
def ji:=@List.all_eq_true
def q4:=@List.mem_range
def nZ:=@Go.mem_ready
def n0:=@Decidable.em
def pj:=@Array.getD_eq_getD_getElem?
def ts:=@Array.getElem?_setIfInBounds_self_of_lt
def pl:=@Array.getElem?_setIfInBounds_ne
def n1:=@Bool.or_eq_true
def hO:=@List.mem_singleton
def lS:=@Go.IntKind.wrap_u8
def n2:=@BitVec.ofInt_natCast
def jE:=@Nat.mod_lt
def pm:=@UInt8.toNat_ofNat'
def tt:=@Int.fdiv_eq_ediv_of_nonneg
def pn:=@Go.IntKind.wrap_u64
def j3:=@Go.IntKind.wrap_i64
def aK:=@congrArg
def nf:=@BitVec.toNat_ofNat
def jj:=@List.flatMap_cons
def jF:=@List.drop_eq_getElem_cons
def mI:=@List.getElem?_drop
def q5:=@Nat.add_assoc
def gK:=@Nat.mul_one
def iC:=@List.length_drop
def lj:=@Int.toNat_natCast
def q6:=@Nat.mul_le_mul
def po:=@Nat.mod_eq_of_lt
def q7:=@Go.beq_toListBytes
def q8:=@Nat.lt_trichotomy
def ng:=@List.getElem?_cons_succ
def q9:=@Array.ext_getElem?
def tu:=@Array.getElem?_eq_none
def lk:=@Bool.eq_iff_iff
def tv:=@List.map_congr_left
def hD:=@List.mem_cons
def mJ:=@List.getElem?_toArray
def ko:=@List.getElem?_append_right
def jG:=@List.getElem?_append_left
def mK:=@dif_pos
def ic:=@List.take_of_length_le
def e8:=@List.getElem?_eq_some_iff
def n3:=@List.Perm.append_right
def ll:=@List.perm_append_comm
def ra:=@Go.World.putObj_heap_other
def lT:=@List.nodup_cons
def gR:=@List.getElem?_map
def ia:=@List.mem_of_getElem?
def nL:=@List.getElem?_of_mem
def nM:=@List.pairwise_iff_getElem
def mC:=@Go.MapKept.run_getObj_map
def qP:=@Go.MapKept.run_setObj_map
def nN:=@List.ext_getElem?
def o2:=@Array.getElem?_toList
def o3:=@Go.MapKept.heap_set
def qQ:=@Option.getD_none
def qR:=@Option.isSome_none
def lO:=@Option.getD_some
def nO:=@Option.isSome_some
def kI:=@List.mem_filter
def h5:=@List.foldl_cons
def nP:=@Nat.zero_mul
def nQ:=@List.Perm.refl
def qS:=@List.mem_cons_self
def nR:=@List.mem_cons_of_mem
def jY:=@Bool.not_eq_true'
def dV:=@of_decide_eq_true
def nS:=@Nat.le_of_ble_eq_true
def dY:=@of_decide_eq_false
def m9:=@List.range_succ
def fa:=@List.length_map
def mD:=@Nat.min_eq_left
def fK:=@List.take_succ_eq_append_getElem
def gm:=@List.take_length
def e7:=@decide_eq_false
def hC:=@List.length_take
def nT:=@decide_eq_decide
def qT:=@decide_eq_false_iff_not
def qU:=@List.all_cons
def td:=@List.drop_of_length_le
def o4:=@List.flatMap_append
def eB:=@List.getElem_mem
def jh:=@List.map_cons
def o5:=@List.map_nil
def hM:=@decide_eq_true
def na:=@Bool.true_and
def nU:=@Bool.false_and
def hN:=@List.length_mergeSort
def te:=@List.pairwise_mergeSort
def o6:=@List.mergeSort_perm
def tf:=@List.map_mergeSort
def g7:=@List.mem_mergeSort
def fp:=@beq_eq_false_iff_ne
def mE:=@List.filter_append
def nV:=@List.length_filter_le
def o7:=@List.mem_flatMap
def g8:=@Option.isSome_iff_exists
def o8:=@List.Perm.append_left
def o9:=@List.take_append
def mF:=@List.flatten_nil
def ev:=@Nat.le_succ
def pa:=@Nat.succ_le_succ
def pb:=@List.filter_cons
def qV:=@Bool.and_true
def gn:=@decide_eq_true_eq
def tg:=@List.exists_of_findSome?_eq_some
def pc:=@Int.toNat_of_nonneg
def qW:=@List.set_cons_zero
def pd:=@List.mem_or_eq_of_mem_set
def gJ:=@List.length_set
def th:=@List.findSome?_cons
def qX:=@List.any_append
def nb:=@List.foldl_append
def pe:=@List.mem_of_mem_take
def gp:=@Nat.le_add_right
def j0:=@Int.le_refl
def nW:=@List.length_zip
def ti:=@List.dropWhile_cons
def nX:=@List.length_eq_zero_iff
def nc:=@Bool.and_false
def tj:=@List.set_append_right
def tk:=@List.mem_iff_getElem
def pf:=@List.findIdx?_eq_some_iff_getElem
def qY:=@List.getElem_map
def qZ:=@Go.Value.slice.injEq
def q0:=@List.getElem?_set_self
def tl:=@List.getElem?_set_ne
def pg:=@List.getD_eq_getElem?_getD
def nY:=@List.length_replicate
def tm:=@List.setIfInBounds_toArray
def tn:=@List.getElem_append_right
def q1:=@Int.ofNat.inj
def j:=@rfl
def bb:=True.intro
abbrev Env:=List (Nat×Value)
def look:Env->Nat->Option Value
 |[],_=>none
 |(k,v)::r,t=>match Nat.beq k t with
  |true=>some v
  |false=>look r t
def bt(Z:Env):Operand->Option Value
 | .tmp t=>look Z t
 | .const v=>some v
 | .func f=>some (.func (.func f) #[] #[])
 | .global g=>some (.pointer (some ⟨g,0,none⟩))
def fl(Z:Env):List Operand->Option (List Value)
 |[]=>some []
 |x::r=>match bt Z x with
  |some v=>match fl Z r with
   |some U=>some (v::U)
   |none=>none
  |none=>none
structure cN(Z:Env)(n:Nat)(a:Act):Prop where
 size:a.tmps.size=n
 get:∀t v,look Z t=some v->a.tmps[t]? =some v
theorem cN.eval{Z:Env}{n:Nat}{a:Act}(h:cN Z n a){x:Operand}{v:Value}(b:bt Z x=some v):a.eval x=v:=by
 cases x with
 |tmp t=>
  have:=h.get t v b;simp [Act.eval,this]
 |const u=>simpa [bt,Act.eval] using b
 |global g=>simpa [bt,Act.eval] using b
 |func f=>simpa [bt,Act.eval] using b
theorem cN.hf{Z:Env}{n:Nat}{a:Act}(h:cN Z n a):∀{xs:List Operand}{U:List Value},fl Z xs=some U->xs.map a.eval=U:=by
 intro xs;induction xs with
 |nil=>intro U b;simp [fl] at b;simp [b]
 |cons x r e=>
  intro U b;simp only [fl] at b;split at b
  .rename_i v d;split at b
   .rename_i us c;cases b;simp [h.eval d,e c]
   .cases b
  .cases b
theorem iA{k t:Nat}(h:Nat.beq k t=true):k=t:=Nat.eq_of_beq_eq_true h
theorem vK{k t:Nat}(h:Nat.beq k t=false):k≠t:=Nat.ne_of_beq_eq_false h
theorem cN.put{Z:Env}{n:Nat}{a:Act}(h:cN Z n a){d:Nat}(c:Nat.blt d n=true)(v:Value):cN ((d,v)::Z) n (a.put (some d) v):=by
 have e:d<n:=by simpa [Nat.blt_eq] using c
 refine⟨by simp [Act.put,h.size],λt u hu=>?_⟩;simp only [look] at hu;simp only [Act.put,Array.getElem?_setIfInBounds];split at hu
 .rename_i b;cases hu;rw [aR (iA b)];have:=iA b;subst this;simp [h.size,e]
 .rename_i b;rw [az (vK b)];exact h.get t u hu
theorem cN.tell{Z:Env}{n:Nat}{a:Act}(h:cN Z n a){d:Nat}{v:Value}(c:look Z d=some v):cN ((d,v)::Z) n a:=by
 refine⟨h.size,λt u hu=>?_⟩;simp only [look] at hu;split at hu
 .rename_i b;cases hu;rw [<-iA b];exact h.get _ _ c
 .exact h.get _ _ hu
def sub(Z:Env):Env->Prop
 |[]=>True
 |(t,v)::r=>look Z t=some v/\sub Z r
theorem sub.look{Z:Env}:∀{a:Env},sub Z a->∀t v,look a t=some v->R.look Z t=some v:=by
 intro a;induction a with
 |nil=>intro _ t v h;simp [R.look] at h
 |cons c r d=>
  intro aF t v h;obtain⟨k,u⟩:=c;simp only [R.look] at h;split at h
  .rename_i b;cases h;rw [<-iA b];exact aF.1
  .exact d aF.2 t v h
theorem cN.vC{Z b:Env}{n:Nat}{a:Act}(h:cN Z n a)(aF:sub Z b):cN b n a:=
 ⟨h.size,λt v c=>h.get t v (aF.look t v c)⟩
abbrev d7:=Exit->Env->World->Prop
structure Fr where
 n:Nat
 r:Option Nat:=none
 m:Bool:=false
 b:Nat:=0
abbrev jC(r:Option Nat):Fence:={Fence.wide with round:=r}
def oa(D:Nat):Deferred:={target:=.collected D,args:= #[]}
def cV(w aJ:World):Prop:=∀D:Nat,w.heap[D]? =some (.deferred (some []))->aJ.heap[D]? =some (.deferred (some []))
theorem cV.refl(w:World):cV w w:=λ_ h=>h
theorem cV.trans{w a b:World}(h:cV w a)(k:cV a b):cV w b:=λD c=>k D (h D c)
theorem cV.drew(w:World):cV w w.drew:=λ_ h=>h
theorem pN(w:World)(I:Obj){k:Nat}(h:k<w.heap.size):(w.alloc I).heap[k]? =w.heap[k]? :=by
 show(w.heap.push I)[k]? =_;rw [Array.getElem?_push,az (by omega)]
theorem cV.alloc(w:World)(I:Obj):cV w (w.alloc I):=λD a=>by
 rw [pN w I (gq.1 a).1];exact a
theorem cV.k9{w aJ:World}{b:Nat}{I:Obj}(c:w.heap[b]? =some I)(d:I≠.deferred (some []))(ad:∀k,k≠b->aJ.heap[k]? =w.heap[k]?):cV w aJ:=λD a=>by
 rw [ad D (λe=>d (by subst e;rw [c] at a;exact hn a))];exact a
theorem cV.cells{w aJ:World}{b:Nat}{c:Array Value}{e:TypeId}{f:Nat×Nat}(a:w.heap[b]? =some (.cells c e f))(ad:∀k,k≠b->aJ.heap[k]? =w.heap[k]?):cV w aJ:=cV.k9 a (by simp) ad
theorem cV.grown{w aJ:World}{b:Nat}{c:Array Value}{e:TypeId}{f:Nat×Nat}(d:w.heap[b]? =some (.cells c e f))(g:∀k,k<w.heap.size->k≠b->aJ.heap[k]? =w.heap[k]?):cV w aJ:=λD a=>by
 rw [g D (gq.1 a).1 (λh=>by subst h;rw [d] at a;cases a)];exact a
def Marks(F:Fr)(w:World)(c:List Deferred):Prop:=∃a:List Nat,c=a.map oa/\(F.m=false->a=[])/\a.Nodup/\∀D∈a,F.b<=D/\w.heap[D]? =some (.deferred (some []))
theorem Marks.fT{F:Fr}{w aJ:World}{a:List Deferred}(h:Marks F w a)(k:cV w aJ):Marks F aJ a:=by
 obtain⟨d,e,f,g,b⟩:=h;exact⟨d,e,f,g,λD c=>⟨(b D c).1,k D (b D c).2⟩⟩
theorem Marks.nil(F:Fr)(w:World):Marks F w []:=⟨[],j,λ_=>rfl,List.nodup_nil,by simp⟩
def lift(F:Fr)(o:World)(Q:d7):Exit->Act->World->Prop:=λe a w=>cV o w/\Marks F w a.defers/\∃Z,cN Z F.n a/\Q e Z w
theorem lift.from{F:Fr}{o b:World}{Q:d7}(k:cV o b){e:Exit}{a:Act}{w:World}(h:lift F b Q e a w):lift F o Q e a w:=⟨k.trans h.1,h.2⟩
def W(P:Program)(F:Fr)(c:Code)(Z:Env)(w:World)(Q:d7):Prop:=∀a,cN Z F.n a->Marks F w a.defers->c.wpIn (jC F.r) 0 P (lift F w Q) a w
def O(P:Program)(F:Fr)(ops:Array Oper)(todo:List Oper)(Z:Env)(w:World)(Q:d7):Prop:=
 ∀a,cN Z F.n a->Marks F w a.defers->wpListIn (jC F.r) 0 P ops (lift F w Q) todo a w
theorem kE{F:Fence}{m:Nat}{P:Program}{ops:Array Oper}{Q hz:Exit->Act->World->Prop}(c:∀e a w,Q e a w->hz e a w):∀(l:List Oper)(a:Act)(w:World),wpListIn F m P ops Q l a w->wpListIn F m P ops hz l a w
 |[],a,w,h=>c _ _ _ h
 |I::l,a,w,h=>by
  unfold wpListIn at h⊢;split
  .rename_i hw;rw [aR hw] at h;refine⟨h.1,?_⟩;have b:=h.2;cases d:(I.semAt F.round a.eval).run P w with
   |ok g i=>
    rw [d] at b
    cases g<;>first
     |exact kE c l _ _ b
     |exact b
     |exact⟨b.1,li b.2 λe f he=>by
      cases e<;>first|exact kE c l _ _ he|exact c _ _ _ he|exact(let⟨a,w,h⟩:=he;⟨a,w,c _ _ _ h⟩)⟩
     |exact⟨b.1,RowsIn.mono b.2 λu f he=>kE c l _ _ he⟩
     |exact⟨b.1,pk b.2 λe f he=>by
      cases e<;>first|exact kE c l _ _ he|exact c _ _ _ he|exact(let⟨a,w,h⟩:=he;⟨a,w,c _ _ _ h⟩)⟩
   |halt j i=>rw [d] at b;cases j<;>first|exact b|exact c _ _ _ b
  .rename_i hw;rw [az hw] at h;exact⟨h.1,kE c l _ _ h.2⟩
section
variable {P:Program} {n:Fr} {Z:Env} {w:World} {Q:d7}
theorem v6{c:Code}{hz:d7}(h:W P n c Z w hz)(d:∀e Z w,hz e Z w->Q e Z w):W P n c Z w Q:=
 λa b hm=>kn (h a b hm) λ_ _ _⟨k,m,i,g,f⟩=>⟨k,m,i,g,d _ _ _ f⟩
theorem lf{ops:Array Oper}{todo:List Oper}(b:Env)(aF:sub Z b)(h:O P n ops todo b w Q):O P n ops todo Z w Q:=λa c hm=>h a (c.vC aF) hm
abbrev zP(P:Program)(n:Fr)(y:Code)(Q:d7):d7:=λe Z w=>match e with
 | .normal=>W P n y Z w Q
 |e=>Q e Z w
theorem v7{x y:Code}(h:W P n x Z w (zP P n y Q)):W P n (.seq x y) Z w Q:=λa d hm=>
 wpIn_seq (kn (h a d hm) λe a i⟨k,m,g,c,b⟩=>by
  cases e<;>first|exact kn (b _ c m) (λ_ _ _ f=>lift.from k f)|exact⟨k,m,g,c,b⟩)
theorem A2{x y:Code}(M:Env->World->Prop)
 (h:W P n x Z w (λe Z w=>match e with| .normal=>M Z w|e=>Q e Z w)) (k:∀Z w,M Z w->W P n y Z w Q):W P n (.seq x y) Z w Q:=
 v7 (v6 h λe Z w a=>by cases e<;>first|exact k _ _ a|exact a)
abbrev uz(id:Nat)(Q:d7):d7:=λe Z w=>match e with
 | .exit i=>match Nat.beq i id with
  |true=>Q .normal Z w
  |false=>Q (.exit i) Z w
 |e=>Q e Z w
theorem A1{id:Nat}{c:Code}(h:W P n c Z w (uz id Q)):W P n (.block id c) Z w Q:=λa j hm=>
 wpIn_block (kn (h a j hm) λe a w⟨k,m,g,f,b⟩=>by
  cases e<;>try exact⟨k,m,g,f,b⟩
  rename_i i;simp only [uz] at b;simp only [Exit.inBlock];split at b
  ·rename_i d;rw [aR (iA d)];exact⟨k,m,g,f,b⟩
  ·rename_i d;rw [az (vK d)];exact⟨k,m,g,f,b⟩)
theorem A8(h:Q .ret Z w):W P n .ret Z w Q:=λ_ a hm=>wpIn_ret ⟨cV.refl _,hm,Z,a,h⟩
theorem A4{id:Nat}(h:Q (.exit id) Z w):W P n (.exit id) Z w Q:=λ_ a hm=>wpIn_exit ⟨cV.refl _,hm,Z,a,h⟩
theorem tc{c:Operand}{x y:Code}{b:Bool}(e:bt Z c=some (.bool b))(g:b=true->W P n x Z w Q)(f:b=false->W P n y Z w Q):
 W P n (.cond c x y) Z w Q:=λa d hm=>
 wpIn_cond_split (d.eval e) (λh=>g h a d hm) (λh=>f h a d hm)
theorem v5{c:Operand}{x y:Code}{b:Bool}(d:bt Z c=some (.bool b))(a:b=true)(e:W P n x Z w Q):
 W P n (.cond c x y) Z w Q:=tc d (λ_=>e) (λh=>by simp [a] at h)
theorem v4{c:Operand}{x y:Code}{b:Bool}(d:bt Z c=some (.bool b))(a:b=false)(e:W P n y Z w Q):
 W P n (.cond c x y) Z w Q:=tc d (λh=>by simp [a] at h) (λ_=>e)
theorem HM{F:Fence}{m:Nat}{P:Program}{cU:Type}{c:Code}{Q:Exit->Act->World->Prop}{a:Act}{w:World}(g:cU->Act->World->Prop)(h:cU->Nat)(i:cU)(p:g i a w)
 (round:∀i a w,g i a w->c.wpIn F m P (Exit.then (λa w=>∃R,g R a w/\h R<h i) Q) a w):(Code.loop c).wpIn F m P Q a w:=by
 intro b k cs r n o
 have key:∀m i,h i=m->∀a w,g i a w->∃e eK aJ,Q e eK aJ/\ArrivesIn (Machine.fenced P F) P (lone (b.atR a (.code c:: .inLoop c::k)) cs w) b k cs e eK aJ:=by
  intro m;induction m using Nat.strongRecOn with
  |_ m s=>
   intro i hm a w a2;obtain⟨e,a₁,w₁,f,d⟩:=round i a w a2 b (.inLoop c::k) cs r n o;cases e with
   |normal=>
    obtain⟨R,hI₁,q⟩:=f;obtain⟨e₂,a₂,w₂,hq₂,harr₂⟩:=s (h R) (hm▸q) R j a₁ w₁ hI₁;exact⟨e₂,a₂,w₂,hq₂,.of_steps (StepsIn.trans d (.one (fenced_calm n o j) stepR_inLoop)) harr₂⟩
   |exit id=>exact⟨_,a₁,w₁,f,.pass (x:=.inLoop c) j (λ_ _=>.inl (by simp)) d⟩
   |goto l=>exact⟨_,a₁,w₁,f,.pass (x:=.inLoop c) j (λ_ _=>.inl (by simp)) d⟩
   |ret=>exact⟨_,a₁,w₁,f,.pass (x:=.inLoop c) j (λ_ _=>.inl (by simp)) d⟩
   |panic gu=>exact⟨_,a₁,w₁,f,.pass (x:=.inLoop c) j (λ_ _=>.inl (by simp)) d⟩
   |outgrown=>exact⟨_,a₁,w₁,f,.pass (x:=.inLoop c) j (λ_ _=>.inl (by simp)) d⟩
 obtain⟨e,eK,aJ,f,d⟩:=key _ i j a w p;exact⟨e,eK,aJ,f,.of_steps (.one (fenced_calm n o j) stepR_loop) d⟩
theorem A5{cU:Type}{c:Code}(S:cU->Env)(b:cU->World->Prop)(d:cU->Nat)(i:cU)(aF:sub Z (S i))(h:b i w)
 (round:∀i w,b i w->W P n c (S i) w (λe Z w=>match e with
  | .normal=>∃R,sub Z (S R)/\b R w/\d R<d i
  |e=>Q e Z w)):W P n (.loop c) Z w Q:=λa l hm=>by
 refine HM (λR a aJ=>cV w aJ/\Marks n aJ a.defers/\cN (S R) n.n a/\b R aJ) d i ⟨cV.refl _,hm,l.vC aF,h⟩ ?_;intro R a s ⟨ad,hm,o,a2⟩;refine kn (round R s a2 a o hm) λe a u⟨k,m,t,g,f⟩=>?_
 cases e<;>first
  |exact(let⟨r,p,j,q⟩:=f;⟨r,⟨ad.trans k,m,g.vC p,j⟩,q⟩)
  |exact⟨ad.trans k,m,t,g,f⟩
theorem A7{id:Nat}{l:List Oper}(h:O P n l.toArray l Z w Q):W P n (.region id l.toArray false) Z w Q:=λa b hm=>
 wpIn_region_lit (h a b hm)
theorem ao{ops:Array Oper}(h:Q .normal Z w):O P n ops [] Z w Q:=λ_ a hm=>wpListIn_nil ⟨cV.refl _,hm,Z,a,h⟩
def c0(ops:Array Oper)(Z:Env):Option (Nat×Bool)->Option Bool
 |none=>some true
 |some (R,want)=>match ops[R]? with
  |some I=>match I.dst with
   |some d=>match look Z d with
    |some (.bool b)=>some (b==want)
    |some (.tuple _)=>some false
    |_=>none
   |none=>none
  |none=>none
theorem nm{ops:Array Oper}{I:Oper}{a:Act}{b:Bool}{n:Nat}(i:cN Z n a)(e:c0 ops Z I.guard=some b):Region.wanted I (yielded ops a.tmps)=b:=by
 unfold c0 at e;unfold Region.wanted;split at e
 .rename_i h;rw [h];simpa using e
 .rename_i R want h;rw [h];dsimp only;split at e
  .rename_i fk k;split at e
   .rename_i d j;split at e
    .rename_i c f;have g:=i.get _ _ f;simp only [yielded,k,Option.bind_some,j,g];simpa using e
    .rename_i c f;have g:=i.get _ _ f;simp only [yielded,k,Option.bind_some,j,g];simpa using e
    .cases e
   .cases e
  .cases e
def cK(Z:Env):Option Nat->Value->Env
 |some d,v=>(d,v)::Z
 |none,_=>Z
def da(n:Fr):Option Nat->Bool
 |some d=>Nat.blt d n.n
 |none=>true
theorem cN.cK{a:Act}(h:cN Z n.n a){d:Option Nat}(b:da n d=true)(v:Value):cN (R.cK Z d v) n.n (a.put d v):=by
 cases d with
 |none=>exact h
 |some d=>exact h.put b v
variable {ops:Array Oper} {rest:List Oper} {I:Oper}
theorem put_defers(a:Act)(d:Option Nat)(v:Value):(a.put d v).defers=a.defers:=by cases d<;>rfl
theorem Marks.put{n:Fr}{w:World}{a:Act}(h:Marks n w a.defers)(d:Option Nat)(v:Value):Marks n w (a.put d v).defers:=by rw [put_defers];exact h
theorem AR(d:c0 ops Z I.guard=some false)(c:da n I.dst=true)(h:O P n ops rest (cK Z I.dst undef) w Q):O P n ops (I::rest) Z w Q:=λa b hm=>by
 unfold wpListIn;rw [nm b d];exact⟨λ_ _=>trivial,h _ (b.cK c undef) (hm.put _ _)⟩
theorem dR{v:Value}{aJ:World}(f:c0 ops Z I.guard=some true)(e:da n I.dst=true)
 (i:∀a,cN Z n.n a->(execOp a.eval I).run P w= .ok (.value v) aJ) (h:O P n ops rest (cK Z I.dst v) aJ Q) (ad:cV w aJ:=by exact cV.refl _) (aT:∀c,I.op≠.defer c:=by intro c d;cases d):O P n ops (I::rest) Z w Q:=λa b hm=>by
 unfold wpListIn;rw [nm b f];simp only [ib];refine⟨λ_ _=>trivial,?_⟩;rw [nh _ _ _ aT,i a b];exact kE (λ_ _ _ g=>lift.from ad g) _ _ _ (h _ (b.cK e v) ((hm.fT ad).put _ _))
theorem s9{aJ:World}(f:c0 ops Z I.guard=some true)(e:I.dst=none)
 (i:∀a,cN Z n.n a->(execOp a.eval I).run P w= .ok .skip aJ) (h:O P n ops rest Z aJ Q) (ad:cV w aJ) (aT:∀c,I.op≠.defer c:=by intro c d;cases d):O P n ops (I::rest) Z w Q:=λa b hm=>by
 unfold wpListIn;rw [nm b f];simp only [ib];refine⟨λ_ _=>trivial,?_⟩;rw [nh _ _ _ aT,i a b];simp only [Oper.uponIn,e,Act.put];exact kE (λ_ _ _ g=>lift.from ad g) _ _ _ (h _ b (hm.fT ad))
def Calls(P:Program)(f:FuncId)(args:Array Value)(w:World)(ak:Value->World->Prop):Prop:=CallsIn Fence.wide 0 P f args w (λe aJ=>cV w aJ/\∃v,e= .returned v/\ak v aJ)
abbrev m7(ak:Value->World->Prop):Value->World->Prop:=ak
theorem Calls.mono{f:FuncId}{args:Array Value}{ak a:Value->World->Prop}(h:Calls P f args w ak)(b:∀v aJ,ak v aJ->a v aJ):Calls P f args w a:=
 li h λ_ _⟨k,v,he,h⟩=>⟨k,v,he,b _ _ h⟩
theorem Calls.plain{f:FuncId}{args:Array Value}{ak:Value->World->Prop}(h:Calls P f args w ak):Go.Calls P f args w (λe aJ=>∃v,e= .returned v/\ak v aJ):=
 callsIn_wide.1 (li h λ_ _⟨_,v,he,h⟩=>⟨v,he,h⟩)
theorem vT{f:FuncId}{U:Array Value}{aJ:World}{ak:Value->World->Prop}(i:c0 ops Z I.guard=some true)(g:da n I.dst=true)
 (o:∀a,cN Z n.n a->(execOp a.eval I).run P w= .ok (.enter f U) aJ) (d:Calls P f U aJ ak)
 (h:∀v aJ,ak v aJ->O P n ops rest (cK Z I.dst v) aJ Q) (ad:cV w aJ:=by exact cV.refl _) (aT:∀c,I.op≠.defer c:=by intro c d;cases d):O P n ops (I::rest) Z w Q:=λa b hm=>by
 unfold wpListIn;rw [nm b i];simp only [ib];refine⟨λ_ _=>trivial,?_⟩;rw [nh _ _ _ aT,o a b];rw [Oper.uponIn_enter];refine⟨(λj=>(by cases j)),?_⟩;refine li (show CallsIn (jC n.r) 0 P f U aJ _ from d) λe p⟨k,v,he,m⟩=>?_
 subst he;exact kE (λ_ _ _ l=>lift.from (ad.trans k) l) _ _ _ (h v p m _ (b.cK g v) ((hm.fT (ad.trans k)).put _ _))
theorem c9(d:Nat){b:Bool}(e:look Z d=some (.bool b))(g:b=true->O P n ops rest ((d,.bool true)::Z) w Q)(f:b=false->O P n ops rest ((d,.bool false)::Z) w Q):
 O P n ops rest Z w Q:=λa c hm=>by
 cases b with
 |true=>exact g j a (c.tell e) hm
 |false=>exact f j a (c.tell e) hm
theorem bY(d:Nat){u:Value}(v:Value)(c:look Z d=some u)(e:u=v)(h:O P n ops rest ((d,v)::Z) w Q):O P n ops rest Z w Q:=λa b hm=>
 h a (b.tell (e▸c)) hm
end
def qc(Z:Env)(rs:Array ResultVar):Option Value:=match rs.toList with
 |[]=>some (.tuple #[])
 |[.tmp t]=>look Z t
 |[.tmp t,.tmp u]=>match look Z t,look Z u with
  |some x,some y=>some (.tuple #[x,y])
  |_,_=>none
 |[.tmp t,.tmp u,.tmp s]=>match look Z t,look Z u,look Z s with
  |some x,some y,some z=>some (.tuple #[x,y,z])
  |_,_,_=>none
 |_=>none
theorem iP{Z:Env}{n:Nat}{a:Act}(c:cN Z n a){fn:Func}{v:Value}(h:qc Z fn.results=some v)(P:Program)(w:World):(results fn a.tmps).run P w= .ok v w:=by
 have d:∀l,fn.results.toList=l->fn.results=l.toArray:=λl h=>by rw [<-h,tw]
 unfold qc at h;split at h
 .rename_i b;have:=d _ b;cases h;simp [results,this]
 .rename_i t b;have g:=c.get _ _ h;have:=d _ b;simp [results,this,g]
 .rename_i t u b;have:=d _ b;split at h
  .rename_i x y e f;cases h;simp [results,this,c.get _ _ e,c.get _ _ f]
  .cases h
 .rename_i t u s b;have:=d _ b;split at h
  .rename_i x y z e f i;cases h;simp [results,this,c.get _ _ e,c.get _ _ f,c.get _ _ i]
  .cases h
 .cases h
abbrev Leaves(rs:Array ResultVar)(ak:Value->World->Prop):d7:=λe Z w=>match e with
 | .normal=>∃v,qc Z rs=some v/\ak v w
 | .ret=>∃v,qc Z rs=some v/\ak v w
 |_=>False
def jp:Nat->List Value->Env
 |_,[]=>[]
 |i,v::r=>(i,v)::jp (i+1) r
theorem C4:∀(U:List Value)(i t:Nat)(v:Value),look (jp i U) t=some v->i<=t/\U[t-i]? =some v:=by
 intro U;induction U with
 |nil=>intro i t v h;simp [jp,look] at h
 |cons x r c=>
  intro i t v h;simp only [jp,look] at h;split at h
  .rename_i b;have:=iA b;subst this;cases h;simp
  .obtain⟨d,a⟩:=c (i+1) t v h;refine⟨by omega,?_⟩;rw [show t-i=(t-(i+1))+1 by omega];simpa using a
theorem ub{fn:Func}{l:List Value}{n:Nat}(aT:fn.ntmps=n)(d:l.length<=n):cN (jp 0 l) n {tmps:=l.toArray++Array.replicate (fn.ntmps-l.toArray.size) undef,defers:=[]}:=by
 refine⟨by simp [aT];omega,λt v c=>?_⟩;obtain⟨_,a⟩:=C4 l 0 t v c
 have b:t<l.length:=by
  rcases Nat.lt_or_ge t l.length with h|h
  .exact h
  .simp [lh h] at a
 rw [Array.getElem?_append_left (by simpa using b)];simpa using a
theorem Ca{P:Program}{f:FuncId}{fn:Func}{c:Code}{l:List Value}{w:World}{ak:Value->World->Prop}{n:Nat}{rs:Array ResultVar}
 (q:P.funcs[f]? =some fn) (p:fn.body=some c) (aT:fn.ntmps=n) (m:fn.results=rs) (r:l.length<=n)
 (h:W P {n:=n} c (jp 0 l) w (Leaves rs ak)):Calls P f l.toArray w (m7 ak):=by
 refine callsIn_of_wp (F:=Fence.wide) q p bb ?_;refine kn (h _ (ub aT r) (Marks.nil _ _)) ?_;rintro e a aJ ⟨ad,⟨u,s,t,_,_⟩,x,o,b⟩;have k:a.defers=[]:=by rw [s,t j];rfl
 cases e with
 |normal=>obtain⟨v,g,d⟩:=b;exact⟨k,v,iP o (m▸g) P aJ,ad,v,j,d⟩
 |ret=>obtain⟨v,g,d⟩:=b;exact⟨k,v,iP o (m▸g) P aJ,ad,v,j,d⟩
 |exit i=>exact b.elim
 |goto l=>exact b.elim
 |panic gu=>exact b.elim
 |outgrown=>exact b.elim
abbrev Chunk:=Nat×Obj
def au(ae:List (List Chunk)):List Nat:=ae.flatten.map (·.1)
structure C(o:World)(F:List Nat)(ae:List (List Chunk))(w:World):Prop where
 os:w.os=o.os
 tape:w.tape=o.tape
 output:w.output=o.output
 size:o.heap.size<=w.heap.size
 fT:∀k,k<o.heap.size->k∉F->w.heap[k]? =o.heap[k]?
 here:∀c∈ae.flatten,w.heap[c.1]? =some c.2
 nodup:(au ae).Nodup
 own:∀b∈au ae,b∈F\/o.heap.size<=b
 plain:∀c∈ae.flatten,c.2≠Obj.deferred (some [])
theorem C.start(w:World):C w [] [] w:=⟨j,j,j,cF _,λ_ _ _=>rfl,by simp,by simp [au],by simp [au],by simp⟩
abbrev Own(ae:List (List Chunk))(w:World):Prop:=C w (au ae) ae w
section
variable {o w aJ:World} {F:List Nat} {A B a7 ae:List (List Chunk)} {G af aB bn cw cb bX:List Chunk}
theorem C.perm(h:C o F A w)(a:A.flatten.Perm B.flatten):C o F B w:=
 ⟨h.os,h.tape,h.output,h.size,h.fT,λc d=>h.here c (a.mem_iff.2 d),(List.Perm.nodup_iff (List.Perm.map (λc:Chunk=>c.1) a)).1 h.nodup,λb e=>h.own b ((List.Perm.mem_iff (List.Perm.map (λc:Chunk=>c.1) a)).2 e),λc d=>h.plain c (a.mem_iff.2 d)⟩
theorem C.i6(h:C o F A w)(a:A.Perm B):C o F B w:=h.perm a.flatten
theorem C.f1(h:C o F (af::aB::ae) w):C o F (aB::af::ae) w:=h.i6 (.swap ..)
theorem C.f2(h:C o F (af::aB::bn::ae) w):C o F (bn::af::aB::ae) w:=
 h.i6 (((List.Perm.swap bn aB ae).cons af).trans (.swap ..))
theorem C.f3(h:C o F (af::aB::bn::cw::ae) w):C o F (cw::af::aB::bn::ae) w:=
 h.i6 (((((List.Perm.swap cw bn ae).cons aB).trans (.swap ..)).cons af).trans (.swap ..))
theorem C.f4(h:C o F (af::aB::bn::cw::cb::ae) w):C o F (cb::af::aB::bn::cw::ae) w:=
 h.i6 (((((((List.Perm.swap cb cw ae).cons bn).trans (.swap ..)).cons aB).trans (.swap ..)).cons af).trans (.swap ..))
theorem C.f5(h:C o F (af::aB::bn::cw::cb::bX::ae) w):C o F (bX::af::aB::bn::cw::cb::ae) w:=
 h.i6 (((((((((List.Perm.swap bX cb ae).cons cw).trans (.swap ..)).cons bn).trans (.swap ..)).cons aB).trans (.swap ..)).cons af).trans (.swap ..))
theorem C.split(h:C o F ((af++aB)::ae) w):C o F (af::aB::ae) w:=h.perm (by simp)
theorem C.join(h:C o F (af::aB::ae) w):C o F ((af++aB)::ae) w:=h.perm (by simp)
theorem C.empty(h:C o F ae w):C o F ([]::ae) w:=h.perm (by simp)
theorem C.drop(h:C o F (G::ae) w):C o F ae w:=by
 refine⟨h.os,h.tape,h.output,h.size,h.fT,λc a=>h.here c (by simp only [jZ,fL];exact .inr a),?_,λb d=>h.own b (by simp only [au,List.flatten_cons,List.map_append,List.mem_append];exact .inr d),λc a=>h.plain c (by simp only [List.flatten_cons,List.mem_append];exact .inr a)⟩;have:=h.nodup;simp only [au,jZ,iB] at this;exact(iX.1 this).2.1
theorem C.below(h:C o [] ae w):Below o.heap.size o w:=⟨h.os,h.tape,h.output,h.size,λk ad=>h.fT k ad (by simp)⟩
theorem C.n7{c:Chunk}(h:C o F ae w)(a:c∈ae.flatten):c.1<w.heap.size:=by
 have:=h.here c a;exact(gq.1 this).1
theorem nv{b:Nat}:b∈au ae↔∃I,(b,I)∈ae.flatten:=by
 simp only [au,ee];constructor
 .rintro⟨⟨a,I⟩,hm,rfl⟩;exact⟨I,hm⟩
 .rintro⟨I,hm⟩;exact⟨(b,I),hm,j⟩
theorem C.sub(h:C o F (A++B) w):Own A w:=by
 refine⟨j,j,j,cF _,λ_ _ _=>rfl,λc a=>h.here c (by simp only [gS,List.mem_append];exact .inl a),?_,λb d=>.inl d,λc a=>h.plain c (by simp only [List.flatten_append,List.mem_append];exact .inl a)⟩;have:=h.nodup;simp only [au,gS,List.map_append] at this;exact(iX.1 this).1
theorem C.h7(h:C o F (af::ae) w):Own [af] w:=C.sub (A:=[af]) (B:=ae) h
theorem C.cH(h:C o F (af::aB::ae) w):Own [af,aB] w:=C.sub (A:=[af,aB]) (B:=ae) h
theorem C.after(h:C o F (A++B) w)(k:C w (au A) a7 aJ):C o F (a7++B) aJ:=by
 have n:=h.nodup;simp only [au,gS,List.map_append] at n;have f:=iX.1 n
 have p:∀c∈B.flatten,aJ.heap[c.1]? =some c.2:=by
  intro c a;have m:c∈(A++B).flatten:=by simp only [gS,List.mem_append];exact .inr a
  rw [k.fT c.1 (h.n7 m) (λd=>f.2.2 c.1 d c.1 (ee.2 ⟨c,a,j⟩) j)];exact h.here c m
 have g:∀b∈au a7,b∈au A\/w.heap.size<=b:=k.own;refine⟨k.os.trans h.os,k.tape.trans h.tape,k.output.trans h.output,ej h.size k.size,?_,?_,?_,?_,?_⟩
 .intro b d i;rw [k.fT b (tp d h.size) ?_]
  .exact h.fT b d i
  .intro q;have r:b∈au (A++B):=by simp only [au,gS,List.map_append,List.mem_append];exact .inl q
   rcases h.own b r with e|e
   .exact i e
   .omega
 .intro c a;simp only [gS,List.mem_append] at a;rcases a with a|a
  .exact k.here c a
  .exact p c a
 .simp only [au,gS,List.map_append];refine iX.2 ⟨k.nodup,f.2.1,?_⟩;rintro b d s l rfl;rcases g b d with e|e
  .exact f.2.2 b e b l j
  .obtain⟨c,a,rfl⟩:=ee.1 l;have:=h.n7 (c:=c) (by simp only [gS,List.mem_append];exact .inr a);omega
 .intro b d;simp only [au,gS,List.map_append,List.mem_append] at d;rcases d with d|d
  .rcases g b d with e|e
   .exact h.own b (by simp only [au,gS,List.map_append,List.mem_append];exact .inl e)
   .have:=h.size;exact .inr (by omega)
  .exact h.own b (by simp only [au,gS,List.map_append,List.mem_append];exact .inr d)
 .intro c a;simp only [gS,List.mem_append] at a;rcases a with a|a
  .exact k.plain c a
  .exact h.plain c (by simp only [gS,List.mem_append];exact .inr a)
theorem C.aO(h:C o F ae w)(k:C w [] a7 aJ):C o F (a7++ae) aJ:=C.after (A:=[]) h k
theorem C.gT(h:C o F (af::ae) w)(k:C w (au [af]) a7 aJ):C o F (a7++ae) aJ:=C.after (A:=[af]) h k
theorem C.cG(h:C o F (af::aB::ae) w)(k:C w (au [af,aB]) a7 aJ):C o F (a7++ae) aJ:=C.after (A:=[af,aB]) h k
def Rd(w:World)(A:Option Addr)(U:List Value):Prop:=∀i v,U[i]? =some v->∃a,A=some a/\w.cell? (a.add i)=some v
def cc(A:Option Addr)(U:List Value)(F:List Nat):Prop:=U≠[]->∀a,A=some a->a.block∉F
@[simp] theorem wb(a:Addr)(i:Nat):(a.add i).block=a.block:=by unfold Addr.add;split<;>rfl
theorem Rd.cell{w:World}{b:Addr}{U:List Value}{R:Nat}{v:Value}(h:Rd w (some b) U)(e:U[R]? =some v):w.cell? (b.add R)=some v:=by
 obtain⟨a,c,d⟩:=h R v e;cases c;exact d
theorem Rd.nil(w:World)(A:Option Addr):Rd w A []:=λi v h=>by simp at h
theorem Rd.lt{A:Option Addr}{U:List Value}(h:Rd w A U)(f:U≠[]){a:Addr}(d:A=some a):a.block<w.heap.size:=by
 cases U with
 |nil=>exact(f j).elim
 |cons v r=>
  obtain⟨b,c,e⟩:=h 0 v (by simp);rw [d] at c;cases c;have:=World.block_lt_of_cell? w _ e;simpa using this
theorem C.rd{A:Option Addr}{U:List Value}(h:C o F ae w)(f:Rd o A U)(d:cc A U F):Rd w A U:=λi v c=>by
 obtain⟨a,rfl,b⟩:=f i v c;have e:U≠[]:=by rintro rfl;simp at c
 refine⟨a,j,?_⟩;rw [World.cell?_of_block (w:=o) (h.fT _ (by have:=World.block_lt_of_cell? o _ b;simpa using this) (by simpa using d e a j))];exact b
theorem cc.of_nil(A:Option Addr)(U:List Value):cc A U []:=λ_ _ _=>by simp
theorem C.apart{A:Option Addr}{U:List Value}(h:C o F ae w)(g:Rd o A U)(e:cc A U F):cc A U (au ae):=λd a c f=>by
 have i:=g.lt d c;rcases h.own _ f with b|b
 .exact e d a c b
 .omega
theorem cc.sub{A:Option Addr}{U:List Value}{eJ:List Nat}(h:cc A U F)(aF:∀b∈eJ,b∈F):cc A U eJ:=λe a c d=>h e a c (aF _ d)
theorem cc.kC{A:Option Addr}{U f:List Value}{eJ:List Nat}(h:cc A U F)(e:U≠[])(aF:∀b∈eJ,b∈F):cc A f eJ:=λ_ a c d=>h e a c (aF _ d)
theorem of:au (G::ae)=au [G]++au ae:=by simp [au]
theorem C.iE{b:Nat}{I:Obj}{off:Nat}{sp:Option Nat}{U:List Value}(h:C o F ([(b,I)]::ae) w):cc (some ⟨b,off,sp⟩) U (au ae):=λ_ a c d=>by
 cases c;have:=h.nodup;rw [of] at this;exact(iX.1 this).2.2 b (by simp [au]) b d j
theorem C.first{b:Nat}{I:Obj}(h:C o F ([(b,I)]::ae) w):w.heap[b]? =some I:=h.here (b,I) (by simp)
theorem C.cell{b:Nat}{c:Array Value}{e:TypeId}{e0:Nat×Nat}{off:Nat}{v:Value}(h:C o F ([(b,.cells c e e0)]::ae) w)(a:c[off]? =some v):w.cell? ⟨b,off,none⟩=some v:=by
 simp [World.cell?,h.first,a]
theorem add_lit(b off i:Nat):(⟨b,off,none⟩:Addr).add i=⟨b,off+i,none⟩:=by unfold Addr.add;split<;>simp_all
theorem C.i9{b:Nat}{c:Array Value}{e:TypeId}{e0:Nat×Nat}{off:Nat}{U:List Value}(h:C o F ([(b,.cells c e e0)]::ae) w)
 (a:∀i v,U[i]? =some v->c[off+i]? =some v):Rd w (some ⟨b,off,none⟩) U:=λi v d=>⟨_,j,by rw [add_lit];exact h.cell (a i v d)⟩
theorem C.bQ{b:Nat}{c:Array Value}{e:TypeId}{e0:Nat×Nat}(h:C o F ([(b,.cells c e e0)]::ae) w):Rd w (some ⟨b,0,none⟩) c.toList:=
 h.i9 (λi v a=>by simpa using a)
theorem DC{b:Nat}{c:Array Value}{e:TypeId}{e0:Nat×Nat}(a:w.heap[b]? =some (.cells c e e0))(off:Nat)(v:Value):
 (w.setCell ⟨b,off,none⟩ v).heap[b]? =some (.cells (c.setIfInBounds off v) e e0):=by
 simp [World.setCell,q2,a]
theorem uu(a:Addr)(v:Value){k:Nat}(ad:k≠a.block):(w.setCell a v).heap[k]? =w.heap[k]? :=by
 simp only [World.setCell,q2];rw [az (by omega)]
theorem C.k9{b:Nat}{I fk:Obj}(h:C o F ([(b,I)]::ae) w)(g:aJ.os=w.os)(j:aJ.tape=w.tape)(i:aJ.output=w.output)(aF:aJ.heap.size=w.heap.size)
 (d:aJ.heap[b]? =some fk) (ad:∀k,k≠b->aJ.heap[k]? =w.heap[k]?) (f:fk≠Obj.deferred (some []):=by simp):C o F ([(b,fk)]::ae) aJ:=by
 refine C.gT (a7:=[[(b,fk)]]) h ⟨g,j,i,by omega,λk _ e=>ad k (by simpa [au] using e),?_,by simp [au],λk ad=>.inl (by simpa [au] using ad),by intro c a;simp at a;subst a;exact f⟩;intro c a;simp at a;subst a;exact d
theorem C.setCell{b:Nat}{c:Array Value}{e:TypeId}{e0:Nat×Nat}(h:C o F ([(b,.cells c e e0)]::ae) w)(off:Nat)(v:Value):
 C o F ([(b,.cells (c.setIfInBounds off v) e e0)]::ae) (w.setCell ⟨b,off,none⟩ v):=
 h.k9 j j j (by simp [World.setCell]) (DC h.first off v) (λ_ ad=>uu _ v ad)
theorem fE{ae fs:List (List Chunk)}(h:∀G∈fs,G∈ae):∀b∈au fs,b∈au ae:=λb c=>by
 obtain⟨I,e⟩:=nv.1 c;obtain⟨G,a,d⟩:=List.mem_flatten.1 e;exact nv.2 ⟨I,List.mem_flatten.2 ⟨G,h G a,d⟩⟩
theorem C.alloc(h:C o F ae w)(I:Obj)(b:I≠Obj.deferred (some []):=by simp):C o F ([(w.heap.size,I)]::ae) (w.alloc I):=by
 refine C.aO (a7:=[[(w.heap.size,I)]]) h ⟨j,j,j,by simp,λk ad _=>pN w I ad,?_,by simp [au],λk ad=>.inr (by simp [au] at ad;omega),by intro c a;simp at a;subst a;exact b⟩;intro c a;simp at a;subst a;exact heap_alloc_new w I
theorem C.drew(h:C o F ae w):C o F ae w.drew:=⟨h.os,h.tape,h.output,h.size,h.fT,h.here,h.nodup,h.own,h.plain⟩
theorem C.grown{b:Nat}{I fk:Obj}(h:C o F ([(b,I)]::ae) w)(d:w.grownBy aJ (some b))(f:aJ.heap[b]? =some fk)(g:fk≠Obj.deferred (some []):=by simp):C o F ([(b,fk)]::ae) aJ:=by
 refine C.gT (a7:=[[(b,fk)]]) h ⟨d.os,d.tape,d.output,d.size,λk ad e=>d.block k ad (by simp [au] at e;simpa using e),?_,by simp [au],λk ad=>.inl (by simpa [au] using ad),by intro c a;simp at a;subst a;exact g⟩;intro c a;simp at a;subst a;exact f
end
def Row(e:TypeId)(size:Nat)(v:Value)(n:Nat)(xs:List Value)(G:List Chunk):Prop:=
 xs.length=n*size/\
 ((v= .slice none 0 0/\n=0/\G=[])\/
  ∃g cap cur,v= .slice (some ⟨g,0,none⟩) n cap/\G=[(g,.cells cur e (0,0))]/\n<=cap/\cap<=maxLen/\cap*size<=cur.size/\cur.toList.take (n*size)=xs)
theorem Row.nil(e:TypeId)(size:Nat):Row e size (.slice none 0 0) 0 [] []:=⟨by simp,.inl ⟨j,j,j⟩⟩
section
variable {o w aJ:World} {F:List Nat} {ae:List (List Chunk)} {G:List Chunk} {e:TypeId} {size:Nat} {v:Value} {n:Nat} {xs:List Value}
theorem Row.form(h:Row e size v n xs G):∃A c,v= .slice A n c/\n<=c/\c<=maxLen:=by
 rcases h.2 with⟨rfl,rfl,_⟩|⟨g,cap,cur,rfl,_,a,b,_⟩
 .exact⟨none,0,j,cF _,by simp [maxLen]⟩
 .exact⟨_,_,j,a,b⟩
theorem Row.one(h:Row e size v n xs G):v.oneCell'=true:=by
 obtain⟨A,c,rfl,_⟩:=h.form;rfl
theorem Row.rd(h:Row e size v n xs G)(a:C o F (G::ae) w):∃A c,v= .slice A n c/\n<=c/\c<=maxLen/\Rd w A xs/\cc A xs (au ae):=by
 rcases h.2 with⟨rfl,rfl,rfl⟩|⟨g,cap,cur,rfl,rfl,b,d,_,f⟩
 .have:xs=[]:=lP (by simpa using h.1);subst this;exact⟨none,0,j,cF _,by simp [maxLen],Rd.nil _ _,λk=>(k j).elim⟩
 .refine⟨_,_,j,b,d,a.i9 (λi u hu=>?_),a.iE⟩;rw [<-f,kJ] at hu;split at hu
  .simpa using hu
  .cases hu
theorem Row.made{b cap:Nat}{cur:Array Value}(hm:cap<=maxLen)(aF:cap*size<=cur.size):Row e size (.slice (some ⟨b,0,none⟩) 0 cap) 0 [] [(b,.cells cur e (0,0))]:=
 ⟨by simp,.inr ⟨b,cap,cur,j,j,cp _,hm,aF,by simp⟩⟩
theorem Row.full{b n:Nat}{cur:Array Value}(hm:n<=maxLen)(aF:cur.size=n*size):Row e size (.slice (some ⟨b,0,none⟩) n n) n cur.toList [(b,.cells cur e (0,0))]:=
 ⟨by simpa using aF,.inr ⟨b,n,cur,j,j,Nat.le_refl _,hm,Nat.le_of_eq aF.symm,by rw [List.take_of_length_le (by simp [aF])]⟩⟩
theorem C.setRow{b:Nat}{c a:Array Value}{t:TypeId}{e0:Nat×Nat}(h:C o F ([(b,.cells c t e0)]::ae) w):C o F ([(b,.cells a t e0)]::ae) (w.setRow b a):=
 h.k9 j j j (by simp [World.setRow]) (setRow_heap w b c a t e0 h.first) (λk ad=>setRow_other w b k a ad)
theorem su(z:Array Value)(n:Nat):(Builtin.zeroCells z n).size=n*z.size:=by simp [Builtin.zeroCells]
theorem Row.append{P:Program}(t ty:TypeId)(i:TypeInfo)(z:Value)(bytes:Nat)(s:P.underlying t=some (.slice e))(p:P.info? e=some i)(M:i.zero=some z)
 (Z:i.size=size) (U:i.bytes=bytes) (af:z.cells.size=size) (aa:0<size)
 (f:C o F (G::ae) w) (h:Row e size v n xs G) {A:Option Addr} {m c:Nat} {news:List Value} (d:news.length=m*size) (L:Rd w A news) (Q:∀u∈news,u.oneCell'=true)
 (J:n+m<=maxLen) (K:(n+m)*bytes<=140737488355328):
 ∃N aJ I,(Builtin.append_ #[t,t] ty #[v,.slice A m c]).run P w= .ok N aJ/\Row e size N (n+m) (xs++news) I/\C o F (I::ae) aJ/\cV w aJ:=by
 subst Z;subst U;have ai:n+m<=9223372036854775807:=by simp only [maxLen] at J;omega
 have hlen:(xs++news).length=(n+m)*i.size:=by rw [cj,h.1,d,Nat.add_mul]
 have new:∀b8,C o F ([(w.heap.size,.cells (xs.toArray++news.toArray++Builtin.zeroCells z.cells (grownCap w (n+m) b8 e-(n+m))) e (0,0))]::ae)
  (w.drew.alloc (.cells (xs.toArray++news.toArray++Builtin.zeroCells z.cells (grownCap w (n+m) b8 e-(n+m))) e))/\
  Row e i.size (.slice (some ⟨w.heap.size,0,none⟩) (n+m) (grownCap w (n+m) b8 e)) (n+m) (xs++news) [(w.heap.size,.cells (xs.toArray++news.toArray++Builtin.zeroCells z.cells (grownCap w (n+m) b8 e-(n+m))) e (0,0))]:=by
  intro b8;have X:=grownCap_ge w (n+m) b8 e;have D:grownCap w (n+m) b8 e<=maxLen:=grownCap_le_maxLen w (n+m) b8 e J;refine⟨f.drop.drew.alloc _,hlen,.inr ⟨_,_,_,j,j,X,D,?_,?_⟩⟩
  .simp only [Array.size_append,List.size_toArray,su,af,h.1,d,<-Nat.add_mul];exact j1 _ (by omega)
  .simp only [tq,List.append_assoc];rw [<-dS,<-hlen];exact lQ
 cases A with
 |none=>
  have aT:news=[]:=by
   cases news with
   |nil=>rfl
   |cons u r=>obtain⟨a,T,_⟩:=L 0 u (by simp);cases T
  subst aT
  have hm:m=0:=by
   rcases q3 m with h|h
   .exact h
   .have:=Nat.mul_pos h aa;simp at d;omega
  subst hm;refine⟨v,w,G,?_,by simpa using h,f,cV.refl _⟩;obtain⟨gP,O,rfl,V,_⟩:=h.form;cases gP<;>simp [Builtin.append_,d9 s,sizeOf,typeInfo,p,Builtin.lenOf,Builtin.firstCells,V,storeCells]
 |some a=>
  have E:∀R u,news[R]? =some u->w.cell? (a.add R)=some u:=λR u hu=>by
   obtain⟨b,l,B⟩:=L R u hu;cases l;exact B
  rcases h.2 with⟨rfl,rfl,rfl⟩|⟨g,cap,cur,rfl,rfl,ah,D,ag,ab⟩
  .have ac:xs=[]:=lP (by simpa using h.1);subst ac;by_cases hm:m=0
   .subst hm;have aT:news=[]:=lP (by simpa using d);subst aT;refine⟨.slice none 0 0,w,[],?_,Row.nil e i.size,f,cV.refl _⟩;simp [Builtin.append_,d9 s,sizeOf,typeInfo,p,Builtin.lenOf,Builtin.firstCells,loadCells,loadCellsFrom]
   .have q:=run_append_nil (P:=P) w t ty e i z s p M a m c news d E (by omega) (by omega) (by have l:=K;simp only [fe] at l;omega);obtain⟨x,y⟩:=new 0;simp only [fe,kl,Array.empty_append] at x y⊢;exact⟨_,_,_,q,y,x,cV.alloc _ _⟩
  .by_cases H:n+m<=cap
   .have W:n*i.size+news.length<=cur.size:=by
     have:=j1 i.size H;rw [d,<-mG];omega
    have q:=run_append_room (P:=P) w t ty e i s p g n cap cur f.first a m c news d E Q H W;refine⟨_,_,_,q,⟨hlen,.inr ⟨g,cap,_,j,j,H,D,?_,?_⟩⟩,f.setRow,cV.cells f.first (λk ad=>setRow_other w g k _ ad)⟩
    .simp only [hl,cj,List.length_take,List.length_drop,Array.length_toList];omega
    .rw [ab,<-hlen];exact lQ
   .obtain⟨gP,O,S,_,_,Y,_⟩:=h.rd f;cases S
    have holds:∀R u,xs[R]? =some u->w.cell? ((⟨g,0,none⟩:Addr).add R)=some u:=λR u hu=>by
     obtain⟨b,l,B⟩:=Y R u hu;cases l;exact B
    have q:=run_append_grow (P:=P) w t ty e i z s p M ⟨g,0,none⟩ n cap xs h.1 holds a m c news d E (by omega) (by omega) (growslice_fits (by omega) K);obtain⟨x,y⟩:=new cap;exact⟨_,_,_,q,y,x,cV.alloc _ _⟩
end
def AZ(w:World)(A:Option Addr)(rows:List (List Value))(F:List Nat):Prop:=
 ∃U:List Value,U.length=rows.length/\Rd w A U/\cc A U F/\∀(i:Nat)(xs:List Value),rows[i]? =some xs->∃(a:Option Addr)(ci:Nat),U[i]? =some (Value.slice a xs.length ci)/\Rd w a xs/\cc a xs F
theorem Row.set{e:TypeId}{g n cap:Nat}{cur:Array Value}{xs:List Value}(h:Row e 1 (.slice (some ⟨g,0,none⟩) n cap) n xs [(g,.cells cur e (0,0))])(R:Nat)(u:Value):
 Row e 1 (.slice (some ⟨g,0,none⟩) n cap) n (xs.set R u) [(g,.cells (cur.setIfInBounds R u) e (0,0))]:=by
 obtain⟨b,c⟩:=h;refine⟨by simpa using b,?_⟩;rcases c with⟨a,_,_⟩|⟨p,m,o,a,l,d,f,i,k⟩
 .cases a
 .cases a;cases l;refine .inr ⟨g,cap,_,j,j,d,f,by simpa using i,?_⟩;rw [<-k];simp [List.take_set]
class bC(P:Program)(t:TypeId)(d:outParam TypeDesc):Prop where
 h:P.underlying t=some d
class cq(P:Program)(t:TypeId)(z:outParam Value)(size bytes:outParam Nat):Prop where
 h:(P.info? t).map (λi=>(i.zero,i.size,i.bytes))=some (some z,size,bytes)
class Entry(P:Program)(f:FuncId):Prop where
 h:∃fn,P.funcs[f]? =some fn/\(fn.name== "runtime.NumGoroutine")=false/\fn.body.isNone=false
class oO(P:Program)(s:TypeId)(f:Nat)(off:outParam Nat):Prop where
 h:∃gw kS,P.underlying s=some (.struct gw)/\gw[f]? =some kS/\kS.offset=off/\((P.info? kS.type).map (·.size)).any (·!=0)=true
theorem cq.parts{P:Program}{t:TypeId}{z:Value}{size bytes:Nat}(h:cq P t z size bytes):∃i,P.info? t=some i/\i.zero=some z/\i.size=size/\i.bytes=bytes:=by
 have:=h.h;cases a:P.info? t with
 |none=>simp [a] at this
 |some i=>simp [a] at this;exact⟨i,j,this⟩
theorem Gk{P:Program}{t e:TypeId}(hu:P.underlying t=some (.pointer e))(p:Option Addr)(w:World)(d:Nat):(Op.equalIn (d+1) t (.pointer p) (.pointer none)).run P w= .ok p.isNone w:=by
 cases p<;>(simp only [Op.equalIn,dW,d9 hu,dZ];rfl)
theorem zn{P:Program}{t e:TypeId}(hu:P.underlying t=some (.pointer e))(p:Option Addr)(w:World):(Op.equal t (.pointer p) (.pointer none)).run P w= .ok p.isNone w:=
 Gk hu p w 9999
theorem Gl{P:Program}{t e:TypeId}(hu:P.underlying t=some (.slice e))(p:Option Addr)(l c bZ a:Nat)(w:World)(d:Nat):(Op.equalIn (d+1) t (.slice p l c) (.slice none bZ a)).run P w= .ok p.isNone w:=by
 cases p<;>(simp only [Op.equalIn,dW,d9 hu,dZ];rfl)
theorem Gn{P:Program}{t e:TypeId}(hu:P.underlying t=some (.slice e))(p:Option Addr)(l c bZ a:Nat)(w:World):(Op.equal t (.slice p l c) (.slice none bZ a)).run P w= .ok p.isNone w:=
 Gl hu p l c bZ a w 9999
theorem eval_const(a:Act)(v:Value):a.eval (.const v)=v:=rfl
theorem BZ(t:TypeId)(x y:Operand)(p q:Option Addr):(do eqGuard .eql t x y (.pointer p) (.pointer q);binOp .eql t (.pointer p) (.pointer q))=(do pure (.bool (<-Op.equal t (.pointer p) (.pointer q))):Sem Value):=by
 cases p<;>cases q<;>rfl
theorem B1(t:TypeId)(x y:Operand)(p q:Option Addr):(do eqGuard .neq t x y (.pointer p) (.pointer q);binOp .neq t (.pointer p) (.pointer q))=(do pure (.bool (!(<-Op.equal t (.pointer p) (.pointer q)))):Sem Value):=by
 cases p<;>cases q<;>rfl
theorem B0(t:TypeId)(x y:Operand)(p q:Option Addr)(l c bZ a:Nat):(do eqGuard .eql t x y (.slice p l c) (.slice q bZ a);binOp .eql t (.slice p l c) (.slice q bZ a))=(do pure (.bool (<-Op.equal t (.slice p l c) (.slice q bZ a))):Sem Value):=rfl
section
variable {P:Program} {n:Fr} {Z:Env} {w:World} {Q:d7} {ops:Array Oper} {rest:List Oper}
 {dst:Option Nat} {ty:TypeId} {pos:String} {after:Array Edge} {g:Option (Nat×Bool)}
theorem vO{x:Operand}{v:Value}(d:c0 ops Z g=some true)(c:da n dst=true)(e:bt Z x=some v)
 (h:O P n ops rest (cK Z dst v) w Q):O P n ops (⟨dst,.assign x,ty,pos,after,g⟩::rest) Z w Q:=
 dR d c (λa b=>by simp [execOp,b.eval e]) h
def evalBin(op:BinOp)(k:IntKind)(x y:Int):Option Value:=
 match op with
 | .add=>some (.int k (k.wrap (x+y)))
 | .sub=>some (.int k (k.wrap (x-y)))
 | .mul=>some (.int k (k.wrap (x*y)))
 | .and=>some (.int k (k.wrap (BitVec.ofInt k.bits x&&&BitVec.ofInt k.bits y).toNat))
 | .or=>some (.int k (k.wrap (BitVec.ofInt k.bits x|||BitVec.ofInt k.bits y).toNat))
 | .xor=>some (.int k (k.wrap (BitVec.ofInt k.bits x^^^BitVec.ofInt k.bits y).toNat))
 | .andNot=>some (.int k (k.wrap (BitVec.ofInt k.bits x&&& ~~~BitVec.ofInt k.bits y).toNat))
 | .eql=>some (.bool (x==y))
 | .neq=>some (.bool (x !=y))
 | .lss=>some (.bool (decide (x<y)))
 | .leq=>some (.bool (decide (x<=y)))
 | .gtr=>some (.bool (decide (x>y)))
 | .geq=>some (.bool (decide (x>=y)))
 |_=>none
theorem AO{op:BinOp}{t l:TypeId}{x y:Operand}{k:IntKind}{i R:Int}{v:Value}(e:c0 ops Z g=some true)(d:da n dst=true)
 (f:bt Z x=some (.int k i)) (j:bt Z y=some (.int k R)) (c:evalBin op k i R=some v)
 (h:O P n ops rest (cK Z dst v) w Q):O P n ops (⟨dst,.binOp op t x y l,ty,pos,after,g⟩::rest) Z w Q:=
 dR e d (λa b=>by
  cases op<;>simp [evalBin] at c<;>subst c<;>simp [execOp,b.eval f,b.eval j,eqGuard,binOp,Op.intArith,Op.intBits,Op.intCmp]) h
def evalShift(op:BinOp)(k:IntKind)(x y:Int):Option Value:=
 match op with
 | .shl=>some (.int k (k.wrap (x*2^(min y.toNat k.bits))))
 | .shr=>some (.int k (x.fdiv (2^(min y.toNat k.bits))))
 |_=>none
theorem kj{op:BinOp}{t m:TypeId}{x y:Operand}{k dk:IntKind}{i R:Int}{v:Value}(f:c0 ops Z g=some true)(e:da n dst=true)
 (j:bt Z x=some (.int k i)) (l:bt Z y=some (.int dk R)) (o:0<=R) (c:evalShift op k i R=some v)
 (h:O P n ops rest (cK Z dst v) w Q):O P n ops (⟨dst,.binOp op t x y m,ty,pos,after,g⟩::rest) Z w Q:=
 dR f e (λa b=>by
  have d:¬R<0:=by omega
  cases op<;>simp [evalShift] at c<;>subst c<;>simp [execOp,b.eval j,b.eval l,eqGuard,binOp,Op.shift,d]) h
theorem vV{t k e:TypeId}{x:Operand}{p:Option Addr}{l c bZ b:Nat}[hu:bC P t (.slice e)](i:c0 ops Z g=some true)(f:da n dst=true)
 (j:bt Z x=some (.slice p l c))
 (h:O P n ops rest (cK Z dst (.bool p.isNone)) w Q):O P n ops (⟨dst,.binOp .eql t x (.const (.slice none bZ b)) k,ty,pos,after,g⟩::rest) Z w Q:=
 dR i f (λa d=>by
  simp only [execOp,d.eval j,eval_const,B0,dW,Gn hu.h,dZ,ew]) h
theorem run_equalIn_bool{P:Program}{t:TypeId}(hu:P.underlying t=some .bool)(a b:Bool)(w:World)(d:Nat):(Op.equalIn (d+1) t (.bool a) (.bool b)).run P w= .ok (a==b) w:=by
 simp only [Op.equalIn,dW,d9 hu,dZ];rfl
def ug(op:UnOp)(k:IntKind)(x:Int):Option Value:=
 match op with
 | .neg=>some (.int k (k.wrap (0-x)))
 | .xor=>some (.int k (k.wrap (BitVec.ofInt k.bits (if k.signed then -1 else k.max)^^^BitVec.ofInt k.bits x).toNat))
 |_=>none
theorem AY{op:UnOp}{t:TypeId}{x:Operand}{k:IntKind}{i:Int}{v:Value}(e:c0 ops Z g=some true)(d:da n dst=true)(f:bt Z x=some (.int k i))(b:ug op k i=some v)
 (h:O P n ops rest (cK Z dst v) w Q):O P n ops (⟨dst,.unOp op t x,ty,pos,after,g⟩::rest) Z w Q:=
 dR e d (λa c=>by
  cases op<;>simp [ug] at b<;>subst b<;>simp [execOp,c.eval f,Op.unary,Op.intArith,Op.intBits]) h
theorem iU{s t:TypeId}{d:TypeDesc}{x:Operand}{k dk:IntKind}{i:Int}[aF:bC P s d][j:bC P t (.int dk)](e:c0 ops Z g=some true)(c:da n dst=true)
 (l:bt Z x=some (.int k i)) {R:Int} (f:dk.wrap i=R)
 (h:O P n ops rest (cK Z dst (.int dk R)) w Q):O P n ops (⟨dst,.convert s t x,ty,pos,after,g⟩::rest) Z w Q:=
 dR e c (λa b=>by
  subst f;simp [execOp,b.eval l,convert,d9 aF.h,d9 j.h,Conv.intToInt]) h
theorem qI{s:TypeId}{f off b I:Nat}{x:Operand}[o:oO P s f off](p:c0 ops Z g=some true)(m:da n dst=true)
 (r:bt Z x=some (.pointer (some ⟨b,I,none⟩)))
 (h:O P n ops rest (cK Z dst (.pointer (some ⟨b,I+off,none⟩))) w Q):O P n ops (⟨dst,.fieldAddr s x f,ty,pos,after,g⟩::rest) Z w Q:=
 dR p m (λa l=>by
  obtain⟨gw,kS,e,j,k,d⟩:=o.h;cases c:P.info? kS.type with
  |none=>simp [c] at d
  |some i=>
   have q:i.size≠0:=by simpa [c] using d
   subst k;simp [execOp,l.eval r,Instr.fieldAt,d9 e,j,Instr.sureAddr,fieldPlace,sizeOf,typeInfo,c,q,add_lit]) h
def hR:TypeDesc->Bool
 | .struct _| .array _ _=>true
 |_=>false
theorem kd{t:TypeId}{d:TypeDesc}(hu:P.underlying t=some d)(w:World):(isAgg t).run P w= .ok (hR d) w:=by
 unfold isAgg;rw [dW,d9 hu w];cases d<;>simp [hR]
theorem nI{t:TypeId}{d:TypeDesc}{x:Operand}{A:Addr}{v:Value}[hu:bC P t d](i:c0 ops Z g=some true)(e:da n dst=true)
 (j:bt Z x=some (.pointer (some A))) (b:hR d=false) (c:w.cell? A=some v)
 (h:O P n ops rest (cK Z dst v) w Q):O P n ops (⟨dst,.load t x,ty,pos,after,g⟩::rest) Z w Q:=
 dR i e (λa f=>by
  simp [execOp,f.eval j,Instr.loadAt,Instr.sureAddr,loadVar,kd hu.h,b,c]) h
theorem lM{t:TypeId}{d:TypeDesc}{x:Operand}{A:Addr}{U:List Value}{z:Value}{size bytes:Nat}[hu:bC P t d][p:cq P t z size bytes]
 (o:c0 ops Z g=some true) (l:da n dst=true)
 (y:bt Z x=some (.pointer (some A))) (e:hR d=true) (s:U.length=size) (j:Rd w (some A) U)
 (h:O P n ops rest (cK Z dst (.agg U.toArray)) w Q):O P n ops (⟨dst,.load t x,ty,pos,after,g⟩::rest) Z w Q:=
 dR o l (λa m=>by
  obtain⟨i,q,_,r,_⟩:=p.parts;have c:=ph (P:=P) w A U (λR v u=>by obtain⟨b,f,k⟩:=j R v u;cases f;exact k);rw [s] at c;simp [execOp,m.eval y,Instr.loadAt,Instr.sureAddr,loadVar,kd hu.h,e,sizeOf,typeInfo,q,r,c]) h
theorem cO{t:TypeId}{x y:Operand}{z:Value}{bytes:Nat}{o:World}{F:List Nat}{ae:List (List Chunk)}{b off:Nat}{c:Array Value}{e:TypeId}{v:Value}[r:cq P t z 1 bytes]
 (d:C o F ([(b,.cells c e (0,0))]::ae) w) (q:c0 ops Z g=some true)
 (A:bt Z x=some (.pointer (some ⟨b,off,none⟩))) (B:bt Z y=some v) (l:v.oneCell'=true) (D:off<c.size)
 (h:∀aJ,C o F ([(b,.cells (c.setIfInBounds off v) e (0,0))]::ae) aJ->O P n ops rest Z aJ Q):O P n ops (⟨none,.store t x y,ty,pos,after,g⟩::rest) Z w Q:=
 s9 q j (λa k=>by
  obtain⟨i,s,_,u,_⟩:=r.parts;have ih:w.cell? ⟨b,off,none⟩=some c[off]:=d.cell (by simp);have E:w.cell? ((⟨b,off,none⟩:Addr).add 0)=some c[off]:=by simpa [Addr.add] using ih
  have p:w.frozen? ⟨b,off,none⟩=false:=by simp [World.frozen?,d.first]
  have m:v.cells= #[v]:=by cases v<;>first|rfl|simp [Value.oneCell'] at l
  have f:=run_store P w ⟨b,off,none⟩ v .plain l;rw [ih] at f;simp only [p] at f;simp only [execOp,k.eval A,k.eval B,Instr.storeAt,Instr.sureAddr,storeVar,m,sizeOf,typeInfo,dW,ew,dZ,lR,s,u];simp [storeCells,Addr.add,f]) (h _ (d.setCell off v)) (cV.cells d.first (λ_ ad=>uu _ v ad))
theorem ld{t:TypeId}{x:Operand}{v:Value}{o:World}{F:List Nat}{ae:List (List Chunk)}(c:C o F ae w)(f:c0 ops Z g=some true)(e:da n dst=true)
 (i:bt Z x=some v)
 (h:∀b aJ,C o F ([(b,.cells v.cells t (0,0))]::ae) aJ->O P n ops rest (cK Z dst (.pointer (some ⟨b,0,none⟩))) aJ Q):O P n ops (⟨dst,.box t x,ty,pos,after,g⟩::rest) Z w Q:=
 dR f e (λa d=>by simp [execOp,d.eval i,Instr.box,newVar,newRow]) (h _ _ (c.alloc _)) (ad:=cV.alloc _ _)
theorem eu{t:TypeId}{z:Value}{size bytes:Nat}[f:cq P t z size bytes]{o:World}{F:List Nat}{ae:List (List Chunk)}(c:C o F ae w)(e:c0 ops Z g=some true)(d:da n dst=true)
 (h:∀b aJ,C o F ([(b,.cells z.cells t (0,0))]::ae) aJ->O P n ops rest (cK Z dst (.pointer (some ⟨b,0,none⟩))) aJ Q):O P n ops (⟨dst,.alloc t,ty,pos,after,g⟩::rest) Z w Q:=
 dR e d (λa l=>by
  obtain⟨i,j,k,_⟩:=f.parts;simp [execOp,Instr.alloc,zeroValue,typeInfo,j,k,newVar,newRow]) (h _ _ (c.alloc _)) (ad:=cV.alloc _ _)
theorem cP{t:TypeId}{parts:Array (Nat×Operand)}{U:List Value}{c:Array Value}(e:c0 ops Z g=some true)(d:da n dst=true)
 (j:fl Z (parts.toList.map (·.2))=some U) (f:∀w,(Instr.build t ((parts.toList.map (·.1)).zip U).toArray).run P w= .ok (.agg c) w)
 (h:O P n ops rest (cK Z dst (.agg c)) w Q):O P n ops (⟨dst,.build t parts,ty,pos,after,g⟩::rest) Z w Q:=
 dR e d (λa b=>by
  have:parts.map (λ(i,x)=>(i,a.eval x))=((parts.toList.map (·.1)).zip U).toArray:=by
   apply fz;rw [<-b.hf j];simp only [g9,mH];rw [List.zip_map'];rfl
  simp only [execOp,this,dW,f,dZ,ew]) h
theorem oR{t e:TypeId}{len:Nat}{parts:Array (Nat×Operand)}{U:List Value}{c:Array Value}{o:World}{F:List Nat}{ae:List (List Chunk)}(d:C o F ae w)
 (k:c0 ops Z g=some true) (j:da n dst=true)
 (m:fl Z (parts.toList.map (·.2))=some U)
 (l:∀w,(Instr.buildSlice t len ((parts.toList.map (·.1)).zip U).toArray).run P w= .ok (.slice (some ⟨w.heap.size,0,none⟩) len len) {w with heap:=w.heap.push (.cells c e)})
 (h:∀b aJ,C o F ([(b,.cells c e (0,0))]::ae) aJ->O P n ops rest (cK Z dst (.slice (some ⟨b,0,none⟩) len len)) aJ Q):O P n ops (⟨dst,.buildSlice t len parts,ty,pos,after,g⟩::rest) Z w Q:=
 dR k j (λa f=>by
  have:parts.map (λ(i,x)=>(i,a.eval x))=((parts.toList.map (·.1)).zip U).toArray:=by
   apply fz;rw [<-f.hf m];simp only [g9,mH];rw [List.zip_map'];rfl
  simp only [execOp,this,dW,l,dZ,ew];rfl) (h _ _ (d.alloc _)) (ad:=cV.alloc _ _)
theorem oU{t e:TypeId}{x y:Operand}{A:Addr}{l c:Nat}{k:IntKind}{i:Int}{z:Value}{size bytes:Nat}[hu:bC P t (.slice e)][o:cq P e z size bytes]
 (m:c0 ops Z g=some true) (j:da n dst=true)
 (r:bt Z x=some (.slice (some A) l c)) (s:bt Z y=some (.int k i)) (d:0<=i) (f:i<l)
 (h:O P n ops rest (cK Z dst (.pointer (some (A.add (i.toNat*size))))) w Q):O P n ops (⟨dst,.indexAddr t x y,ty,pos,after,g⟩::rest) Z w Q:=
 dR m j (λa b=>by
  obtain⟨R,p,_,q,_⟩:=o.parts;simp [execOp,b.eval r,b.eval s,Instr.indexAt,asIntOf,d9 hu.h,sizeOf,typeInfo,p,q,d,f]) h
theorem qM{t e:TypeId}{x y:Operand}{A:Option Addr}{l c:Nat}{k:IntKind}{i:Nat}{z:Value}{size bytes:Nat}[hu:bC P t (.slice e)][p:cq P e z size bytes]
 (m:c0 ops Z g=some true) (j:da n dst=true)
 (r:bt Z x=some (.slice A l c)) (s:bt Z y=some (.int k i)) (u:i<=c)
 (h:O P n ops rest (cK Z dst (.slice A i c)) w Q):O P n ops (⟨dst,.slice t x none (some y) none,ty,pos,after,g⟩::rest) Z w Q:=
 dR m j (λa b=>by
  obtain⟨R,q,_,v,_⟩:=p.parts;have d:¬c<i:=by omega
  have f:A.map (λx=>x.add 0)=A:=by cases A<;>simp [Addr.add]
  simp [execOp,b.eval r,b.eval s,Instr.sliceAt,Instr.slice,Instr.sliceBounds,Instr.sliceBound,asIntOf,d9 hu.h,sizeOf,typeInfo,q,f];exact λo=>(d o).elim) h
theorem nK{t e:TypeId}{x y:Operand}{A:Option Addr}{l c:Nat}{k:IntKind}{i:Nat}{z:Value}{size bytes:Nat}[hu:bC P t (.slice e)][o:cq P e z size bytes]
 (j:c0 ops Z g=some true) (f:da n dst=true)
 (r:bt Z x=some (.slice A l c)) (s:bt Z y=some (.int k i)) (u:i<=l)
 (h:O P n ops rest (cK Z dst (.slice (if c=i then A else A.map (·.add (i*size))) (l-i) (c-i))) w Q):O P n ops (⟨dst,.slice t x (some y) none none,ty,pos,after,g⟩::rest) Z w Q:=
 dR j f (λa b=>by
  obtain⟨R,p,_,q,_⟩:=o.parts;have d:¬l<i:=by omega
  simp [execOp,b.eval r,b.eval s,Instr.sliceAt,Instr.slice,Instr.sliceBounds,Instr.sliceBound,asIntOf,d9 hu.h,sizeOf,typeInfo,p,q];exact λm=>(d m).elim) h
theorem mx{t e:TypeId}{x:Operand}{A:Addr}{m:Nat}{z:Value}{size bytes:Nat}[hu:bC P t (.array m e)][j:cq P e z size bytes]
 (f:c0 ops Z g=some true) (d:da n dst=true) (l:bt Z x=some (.pointer (some A)))
 (h:O P n ops rest (cK Z dst (.slice (some A) m m)) w Q):O P n ops (⟨dst,.slice t x none none none,ty,pos,after,g⟩::rest) Z w Q:=
 dR f d (λa c=>by
  obtain⟨i,k,_,o,_⟩:=j.parts;have b:A.add 0=A:=by simp [Addr.add]
  simp [execOp,c.eval l,Instr.sliceAt,Instr.sureAddr,Instr.sliceBounds,d9 hu.h,sizeOf,typeInfo,k,b]) h
theorem qL{f:Array TypeId}{args:Array Operand}{k:IntKind}{i R:Int}(d:c0 ops Z g=some true)(c:da n dst=true)
 (e:fl Z args.toList=some [.int k i,.int k R])
 (h:O P n ops rest (cK Z dst (.int k (min i R))) w Q):O P n ops (⟨dst,.call ⟨.builtin .min,args,f⟩,ty,pos,after,g⟩::rest) Z w Q:=
 dR d c (λa b=>by
  have:args.map a.eval= #[.int k i,.int k R]:=by apply fz;rw [g9,b.hf e]
  have hm:(if R<i then R else i)=min i R:=by split<;>omega
  simp [execOp,resolve,this,invoke,builtin,Builtin.min_,Builtin.min2,hm]) h
theorem s8{f:Array TypeId}{args:Array Operand}{k:IntKind}{i R:Int}(d:c0 ops Z g=some true)(c:da n dst=true)
 (e:fl Z args.toList=some [.int k i,.int k R])
 (h:O P n ops rest (cK Z dst (.int k (max i R))) w Q):O P n ops (⟨dst,.call ⟨.builtin .max,args,f⟩,ty,pos,after,g⟩::rest) Z w Q:=
 dR d c (λa b=>by
  have:args.map a.eval= #[.int k i,.int k R]:=by apply fz;rw [g9,b.hf e]
  have hm:(if R>i then R else i)=max i R:=by split<;>omega
  simp [execOp,resolve,this,invoke,builtin,Builtin.max_,Builtin.max2,hm]) h
theorem e6{t e:TypeId}{f:Array TypeId}{args:Array Operand}{z:Value}{size bytes:Nat}{o:World}{F:List Nat}{G:List Chunk}{ae:List (List Chunk)}{v:Value}{k m c:Nat}{A:Option Addr}{xs news:List Value}
 [hu:bC P t (.slice e)] [E:cq P e z size bytes] (r:C o F (G::ae) w) (p:Row e size v k xs G) (T:f= #[t,t]) (V:z.cells.size=size) (S:0<size)
 (D:c0 ops Z g=some true) (B:da n dst=true)
 (U:fl Z args.toList=some [v,.slice A m c]) (M:news.length=m*size) (N:Rd w A news) (j:∀u∈news,u.oneCell'=true) (y:(k+m)*bytes<=140737488355328) (l:k+m<=maxLen)
 (h:∀d b aJ,Row e size d (k+m) (xs++news) b->C o F (b::ae) aJ->O P n ops rest (cK Z dst d) aJ Q):O P n ops (⟨dst,.call ⟨.builtin .append,args,f⟩,ty,pos,after,g⟩::rest) Z w Q:=by
 obtain⟨i,H,I,J,K⟩:=E.parts;obtain⟨d,aJ,b,R,q,s,L⟩:=Row.append (P:=P) (c:=c) t ty i z bytes hu.h H I J K V S r p M N j l y;refine dR D B (λa x=>?_) (h d b aJ q s) (ad:=L);subst T;have:args.map a.eval= #[v,.slice A m c]:=by apply fz;rw [g9,x.hf U]
 simp only [execOp,resolve,invoke,builtin,dW,ew,dZ,this,R]
theorem vP{f:FuncId}{p:Array TypeId}{args:Array Operand}{U:List Value}{ak:Value->World->Prop}[l:Entry P f](m:c0 ops Z g=some true)(k:da n dst=true)
 (o:fl Z args.toList=some U) (j:Calls P f U.toArray w ak)
 (h:∀v aJ,ak v aJ->O P n ops rest (cK Z dst v) aJ Q):O P n ops (⟨dst,.call ⟨.value (.func f),args,p⟩,ty,pos,after,g⟩::rest) Z w Q:=by
 obtain⟨fn,b,c,d⟩:=l.h;refine vT (f:=f) (U:=U.toArray) (aJ:=w) m k (λa i=>?_) j h;have:args.map a.eval=U.toArray:=by apply fz;rw [g9,i.hf o]
 have e:fn.body.isNone=false:=d;simp only [execOp,resolve,this,Act.eval,Deferred.ofValue,invoke,callFunc,b,c,e,dW,ew,dZ,lR,pi,Array.append_empty,if_false,Bool.false_eq_true]
end
theorem Dh:∀(U:List Value)(k:Nat)(cells:Array Value),(∀v∈U,v.oneCell'=true)->k+U.length<=cells.size->
 ∃r,Instr.fill (λi=>some (i*1,1)) cells ((List.range' k U.length).zip U)=some r/\r.size=cells.size/\∀i,r[i]? =if k<=i/\i<k+U.length then U[i-k]? else cells[i]? :=by
 intro U;induction U with
 |nil=>intro k cells _ _;exact⟨cells,j,j,λi=>by rw [az (by simp)]⟩
 |cons v U g=>
  intro k cells a ad;have f:v.cells= #[v]:=by have:=a v (by simp);cases v<;>first|rfl|simp [Value.oneCell'] at this
  simp only [ex] at ad;obtain⟨r,e,aF,d⟩:=g (k+1) (cells.setIfInBounds k v) (λu hu=>a u (by simp [hu])) (by simp;omega);refine⟨r,?_,by simpa using aF,λi=>?_⟩
  .simp only [ex,List.range'_succ,tr,Instr.fill,f];rw [az (by simp;omega)];simpa using e
  .rw [d i];by_cases c:i=k
   .subst c;rw [az (by omega),aR (by simp)];have:i<cells.size:=by omega
    simp [this]
   .by_cases b:k+1<=i/\i<k+1+U.length
    .rw [aR b,aR (by simp;omega)];rw [show i-k=(i-(k+1))+1 by omega];simp
    .rw [az b,az (by simp;omega)];simp [Ne.symm c]
theorem Gp{P:Program}{t e:TypeId}{z:Value}{bytes:Nat}(hu:P.underlying t=some (.slice e))(j:cq P e z 1 bytes)(U:List Value)(f:∀v∈U,v.oneCell'=true)(p:U.length<=16777216)(w:World):
 (Instr.buildSlice t U.length ((List.range U.length).zip U).toArray).run P w= .ok (.slice (some ⟨w.heap.size,0,none⟩) U.length U.length) {w with heap:=w.heap.push (.cells U.toArray e)}:=by
 obtain⟨i,a,k,l,_⟩:=j.parts
 have key:∀cells:Array Value,cells.size=U.length->Instr.fill (λi=>some (i*1,1)) cells ((List.range U.length).zip U)=some U.toArray:=by
  intro cells g;obtain⟨r,o,aF,h⟩:=Dh U 0 cells f (by omega);rw [List.range_eq_range',o]
  congr 1
  apply Array.ext (by simp [aF,g]);intro R m b;have:=h R;rw [aR (by omega)] at this;simp only [Nat.sub_zero] at this;simp at b;rw [Array.getElem?_eq_getElem m,cr b] at this;simpa using this
 unfold Instr.buildSlice;have n:¬U.length*1>2^24:=by omega
 by_cases c:U.length=0
 .have:U=[]:=lP c;subst this;simp [d9 hu,sizeOf,typeInfo,a,Instr.fill,newRow,show Array.range 0= #[] from by simp [Array.range]]
 .have d:¬U.length*1=0:=by omega
  simp only [dW,d9 hu,dZ,sizeOf,typeInfo,lR,a,ew,l,n,d,km,zeroValue,k];rw [key _ (by simp)];simp [newRow]
section
variable {P:Program} {n:Fr} {Z:Env} {w:World} {Q:d7} {ops:Array Oper} {rest:List Oper}
 {dst:Option Nat} {ty:TypeId} {pos:String} {after:Array Edge} {g:Option (Nat×Bool)}
theorem fx{t e:TypeId}{len:Nat}{parts:Array (Nat×Operand)}{U:List Value}{z:Value}{bytes:Nat}{o:World}{F:List Nat}{ae:List (List Chunk)}[hu:bC P t (.slice e)][i:cq P e z 1 bytes](c:C o F ae w)
 (f:c0 ops Z g=some true) (d:da n dst=true)
 (l:fl Z (parts.toList.map (·.2))=some U) (k:U.length=len) (j:parts.toList.map (·.1)=List.range len) (a:U.all (·.oneCell')=true) (hlen:len<=16777216)
 (h:∀b aJ,C o F ([(b,.cells U.toArray e (0,0))]::ae) aJ->O P n ops rest (cK Z dst (.slice (some ⟨b,0,none⟩) len len)) aJ Q):O P n ops (⟨dst,.buildSlice t len parts,ty,pos,after,g⟩::rest) Z w Q:=by
 subst k;exact oR c f d l (λw=>by rw [j];exact Gp hu.h i U (by simpa using a) hlen w) h
theorem fJ{t e:TypeId}{x y:Operand}{A:Option Addr}{l c R:Nat}{k:IntKind}{U:List Value}{v z:Value}{size bytes:Nat}[hu:bC P t (.slice e)][r:cq P e z size bytes]
 (f:c0 ops Z g=some true) (d:da n dst=true)
 (o:bt Z x=some (.slice A l c)) (p:bt Z y=some (.int k R)) (i:Rd w A U) (m:U[R*size]? =some v) (q:R<l)
 (h:∀a,A=some a->w.cell? (a.add (R*size))=some v->O P n ops rest (cK Z dst (.pointer (some (a.add (R*size))))) w Q):O P n ops (⟨dst,.indexAddr t x y,ty,pos,after,g⟩::rest) Z w Q:=by
 obtain⟨a,rfl,b⟩:=i _ _ m;exact oU f d o p (by omega) (by omega) (by simpa using h a j b)
end
section
variable {P:Program} {n:Fr} {Z:Env} {w:World} {Q:d7} {ops:Array Oper} {rest:List Oper}
 {dst:Option Nat} {ty:TypeId} {pos:String} {after:Array Edge} {g:Option (Nat×Bool)}
theorem vR{f x e:TypeId}{B:Array TypeId}{args:Array Operand}{z:Value}{bytes:Nat}{o:World}{F:List Nat}{ae:List (List Chunk)}{b off dl j m l:Nat}{c:Array Value}{hc:TypeId}{D A:Option Addr}{news:List Value}
 [hu:bC P f (.slice e)] [K:cq P e z 1 bytes] (d:C o F ([(b,.cells c hc (0,0))]::ae) w) (M:B= #[f,x]) (J:c0 ops Z g=some true) (H:da n dst=true)
 (S:fl Z args.toList=some [.slice D dl j,.slice A m l]) (s:news.length=Nat.min m dl) (G:news=[]\/D=some ⟨b,off,none⟩) (y:Rd w A news) (E:∀v∈news,v.oneCell'=true) (I:off+news.length<=c.size)
 (h:∀aJ,C o F ([(b,.cells (c.toList.take off++news++c.toList.drop (off+news.length)).toArray hc (0,0))]::ae) aJ->O P n ops rest (cK Z dst (.int .i64 news.length)) aJ Q):O P n ops (⟨dst,.call ⟨.builtin .copy,args,B⟩,ty,pos,after,g⟩::rest) Z w Q:=by
 obtain⟨i,q,_,L,_⟩:=K.parts;subst M
 have key:(Builtin.copy_ #[f,x] ty #[.slice D dl j,.slice A m l]).run P w= .ok (goInt news.length) (w.setRow b (c.toList.take off++news++c.toList.drop (off+news.length)).toArray):=by
  rcases G with rfl|rfl
  .have u:Nat.min m dl=0:=by simpa using s.symm
   have t:w.setRow b (c.toList.take off++([]:List Value)++c.toList.drop (off+([]:List Value).length)).toArray=w:=by
    simp only [gA,fW,nd,ne,tw];exact setRow_self w b c hc (0,0) d.first
   rw [t];cases D<;>cases A<;>simp [Builtin.copy_,d9 hu.h,Builtin.lenOf,Builtin.firstCells,sizeOf,typeInfo,q,u,storeCells,loadCells,loadCellsFrom]
  .cases A with
   |none=>
    have aT:news=[]:=by
     cases news with
     |nil=>rfl
     |cons v r=>obtain⟨a,p,_⟩:=y 0 v (by simp);cases p
    subst aT;have u:Nat.min m dl=0:=by simpa using s.symm
    have t:w.setRow b (c.toList.take off++([]:List Value)++c.toList.drop (off+([]:List Value).length)).toArray=w:=by
     simp only [gA,fW,nd,ne,tw];exact setRow_self w b c hc (0,0) d.first
    rw [t];simp [Builtin.copy_,d9 hu.h,Builtin.lenOf,Builtin.firstCells,sizeOf,typeInfo,q,u,storeCells]
   |some a=>exact run_copy_row P w f x ty e b off dl j a m l c hc news hu.h (by simp [q,L]) d.first s (λR v N=>y.cell N) I E
 refine dR J H (λa p=>?_) (h _ d.setRow) (ad:=cV.cells d.first (λk ad=>setRow_other w b k _ ad));have:args.map a.eval= #[.slice D dl j,.slice A m l]:=by apply fz;rw [g9,p.hf S]
 simp only [execOp,resolve,invoke,builtin,dW,ew,dZ,this,key];rfl
end
section
variable {P:Program} {n:Nat} {Z:Env} {w:World} {dst:Option Nat} {ty:TypeId} {pos:String} {after:Array Edge} {g:Option (Nat×Bool)}
theorem Ay{x:Operand}{v:Value}(c:bt Z x=some v):∀a,cN Z n a->(execOp a.eval ⟨dst,.move x,ty,pos,after,g⟩).run P w= .ok (.value v) w:=
 λa b=>by simp [execOp,b.eval c]
theorem An{x:Operand}{v:Value}(c:bt Z x=some v):∀a,cN Z n a->(execOp a.eval ⟨dst,.assign x,ty,pos,after,g⟩).run P w= .ok (.value v) w:=
 λa b=>by simp [execOp,b.eval c]
theorem AA{x:Operand}{A:Addr}(c:bt Z x=some (.pointer (some A))):∀a,cN Z n a->(execOp a.eval ⟨dst,.nilCheck x,ty,pos,after,g⟩).run P w= .ok (.value (.pointer (some A))) w:=
 λa b=>by simp [execOp,b.eval c]
theorem AE{c x y:Operand}{v:Value}(d:bt Z c=some (.bool true))(e:bt Z x=some v):∀a,cN Z n a->(execOp a.eval ⟨dst,.pick c x y,ty,pos,after,g⟩).run P w= .ok (.value v) w:=
 λa b=>by simp [execOp,b.eval d,b.eval e,asBool]
theorem AD{c x y:Operand}{v:Value}(d:bt Z c=some (.bool false))(e:bt Z y=some v):∀a,cN Z n a->(execOp a.eval ⟨dst,.pick c x y,ty,pos,after,g⟩).run P w= .ok (.value v) w:=
 λa b=>by simp [execOp,b.eval d,b.eval e,asBool]
theorem fr{op:BinOp}{t f:TypeId}{x y:Operand}{k:IntKind}{i R:Int}{v:Value}(d:bt Z x=some (.int k i))(e:bt Z y=some (.int k R))(c:evalBin op k i R=some v):
 ∀a,cN Z n a->(execOp a.eval ⟨dst,.binOp op t x y f,ty,pos,after,g⟩).run P w= .ok (.value v) w:=
 λa b=>by
  cases op<;>simp [evalBin] at c<;>subst c<;>simp [execOp,b.eval d,b.eval e,eqGuard,binOp,Op.intArith,Op.intBits,Op.intCmp]
theorem mq{s t:TypeId}{d:TypeDesc}{x:Operand}{k dk:IntKind}{i:Int}[aF:bC P s d][e:bC P t (.int dk)](f:bt Z x=some (.int k i)){R:Int}(c:dk.wrap i=R):
 ∀a,cN Z n a->(execOp a.eval ⟨dst,.convert s t x,ty,pos,after,g⟩).run P w= .ok (.value (.int dk R)) w:=
 λa b=>by
  subst c;simp [execOp,b.eval f,convert,d9 aF.h,d9 e.h,Conv.intToInt]
theorem Ar{s:TypeId}{f off b I:Nat}{x:Operand}[m:oO P s f off](p:bt Z x=some (.pointer (some ⟨b,I,none⟩))):
 ∀a,cN Z n a->(execOp a.eval ⟨dst,.fieldAddr s x f,ty,pos,after,g⟩).run P w= .ok (.value (.pointer (some ⟨b,I+off,none⟩))) w:=
 λa l=>by
  obtain⟨gw,kS,e,j,k,d⟩:=m.h;cases c:P.info? kS.type with
  |none=>simp [c] at d
  |some i=>
   have o:i.size≠0:=by simpa [c] using d
   subst k;simp [execOp,l.eval p,Instr.fieldAt,d9 e,j,Instr.sureAddr,fieldPlace,sizeOf,typeInfo,c,o,add_lit]
theorem hv{t:TypeId}{d:TypeDesc}{x:Operand}{A:Addr}{v:Value}[hu:bC P t d](f:bt Z x=some (.pointer (some A)))(b:hR d=false)(c:w.cell? A=some v):
 ∀a,cN Z n a->(execOp a.eval ⟨dst,.load t x,ty,pos,after,g⟩).run P w= .ok (.value v) w:=
 λa e=>by
  simp [execOp,e.eval f,Instr.loadAt,Instr.sureAddr,loadVar,kd hu.h,b,c]
theorem As{t e:TypeId}{x y:Operand}{A:Addr}{l c:Nat}{k:IntKind}{i:Int}{z:Value}{size bytes:Nat}[hu:bC P t (.slice e)][j:cq P e z size bytes]
 (p:bt Z x=some (.slice (some A) l c)) (q:bt Z y=some (.int k i)) (d:0<=i) (f:i<l):
 ∀a,cN Z n a->(execOp a.eval ⟨dst,.indexAddr t x y,ty,pos,after,g⟩).run P w= .ok (.value (.pointer (some (A.add (i.toNat*size))))) w:=
 λa b=>by
  obtain⟨R,m,_,o,_⟩:=j.parts;simp [execOp,b.eval p,b.eval q,Instr.indexAt,asIntOf,d9 hu.h,sizeOf,typeInfo,m,o,d,f]
theorem Av{t e:TypeId}{b:Array TypeId}{args:Array Operand}{A:Option Addr}{l c:Nat}[hu:bC P t (.slice e)](f:b= #[t])(i:fl Z args.toList=some [.slice A l c]):
 ∀a,cN Z n a->(execOp a.eval ⟨dst,.call ⟨.builtin .len,args,b⟩,ty,pos,after,g⟩).run P w= .ok (.value (.int .i64 l)) w:=
 λa d=>by
  subst f;have:args.map a.eval= #[.slice A l c]:=by apply fz;rw [g9,d.hf i]
  simp [execOp,resolve,this,invoke,builtin,Builtin.len_,d9 hu.h,goInt]
theorem vJ{d:Array TypeId}{args:Array Operand}{k:IntKind}{i R:Int}(c:fl Z args.toList=some [.int k i,.int k R]):
 ∀a,cN Z n a->(execOp a.eval ⟨dst,.call ⟨.builtin .max,args,d⟩,ty,pos,after,g⟩).run P w= .ok (.value (.int k (max i R))) w:=
 λa b=>by
  have:args.map a.eval= #[.int k i,.int k R]:=by apply fz;rw [g9,b.hf c]
  have hm:(if R>i then R else i)=max i R:=by split<;>omega
  simp [execOp,resolve,this,invoke,builtin,Builtin.max_,Builtin.max2,hm]
theorem AB{t:TypeId}{x:Operand}{b:Bool}(d:bt Z x=some (.bool b)):∀a,cN Z n a->(execOp a.eval ⟨dst,.unOp .not t x,ty,pos,after,g⟩).run P w= .ok (.value (.bool (!b))) w:=
 λa c=>by simp [execOp,c.eval d,Op.unary]
theorem qD{t e:TypeId}{x y:Operand}{b:Addr}{l c R:Nat}{k:IntKind}{z:Value}{size bytes:Nat}[hu:bC P t (.slice e)][i:cq P e z size bytes]
 (d:bt Z x=some (.slice (some b) l c)) (f:bt Z y=some (.int k R)) (h:R<l):
 ∀a,cN Z n a->(execOp a.eval ⟨dst,.indexAddr t x y,ty,pos,after,g⟩).run P w= .ok (.value (.pointer (some (b.add (R*size))))) w:=by
 have:=As (P:=P) (n:=n) (w:=w) (dst:=dst) (ty:=ty) (pos:=pos) (after:=after) (g:=g) (Z:=Z) (t:=t) (e:=e) (z:=z) (size:=size) (bytes:=bytes) d f (by omega) (by omega);simpa using this
end
class qF(P:Program):Prop where
 h:P.follows .mixedOrders=true
def Fd(ops:Array Oper):Bool:=ops.all λI=>match I.op with| .defer _=>false|_=>true
def calm(ops:Array Oper):Bool:=Region.noSelect ops&&Fd ops
theorem calm.zu{ops:Array Oper}(h:calm ops=true):Region.noSelect ops=true:=by unfold calm at h;simp only [Bool.and_eq_true] at h;exact h.1
theorem calm.def{ops:Array Oper}(h:calm ops=true){R:Nat}{I:Oper}(a:ops[R]? =some I)(c:Call):I.op≠.defer c:=by
 unfold calm at h;simp only [d8] at h;intro he;have b:=Array.all_eq_true.1 h.2 R (gq.1 a).1;have d:ops[R]'((gq.1 a).1)=I:=(gq.1 a).2;rw [d,he] at b;cases b
section
variable {P:Program} {F:Fence} {ops:Array Oper} {a7:World->Prop} {Q:Exit->Act->World->Prop}
def waits(ops:Array Oper)(R i:Nat):Bool:=match ops[R]? with
 |some y=>y.after.toList.any λe=>Region.binds .any e&&e.on==i
 |none=>false
def m0(ops:Array Oper):Nat->Nat->Nat->Bool
 |0,_,_=>false
 |d+1,R,i=>waits ops R i||(List.range ops.size).any λm=>waits ops R m&&m0 ops d m i
def nE(ops:Array Oper)(R i:Nat):Bool:=m0 ops 7 R i
def lx(ops:Array Oper)(R:Nat):Bool:=(List.range ops.size).all λi=>i==R||nE ops R i||nE ops i R
theorem waits.on{ops:Array Oper}{i R:Nat}(h:waits ops R i=true):∃y,ops[R]? =some y/\∃e∈y.after,Region.binds .any e=true/\e.on=i:=by
 unfold waits at h;split at h
 .rename_i y c;simp only [j2,d8,ea] at h;obtain⟨e,he,a,b⟩:=h;exact⟨y,c,e,by simpa using he,a,b⟩
 .cases h
def lI(ops:Array Oper)(l:Array Bool):Prop:=∀(R:Nat)(y:Oper),ops[R]? =some y->l.getD R false=true->∀e∈y.after,Region.binds .any e=true->l.getD e.on false=true
def pz(ops:Array Oper)(l:Array Bool):Bool:=(List.range ops.size).all λR=> !(l.getD R false)||(match ops[R]? with|some y=>y.after.toList.all λe=> !Region.binds .any e||l.getD e.on false|none=>true)
theorem pz.spec{ops:Array Oper}{l:Array Bool}(h:pz ops l=true):lI ops l:=λR y c f e he d=>by
 unfold pz at h;simp only [ji,q4] at h;have a:=h R (gq.1 c).1;rw [c,f] at a;simp only [Bool.not_true,Bool.false_or,ji] at a;have b:=a e (by simpa using he);rw [d] at b;simpa using b
theorem lI.set{ops:Array Oper}{l:Array Bool}{R:Nat}(h:lI ops l)(k:R∈Region.ready .any ops l):lI ops (l.setIfInBounds R true):=λm z d hm e he f=>by
 obtain⟨o,y,n,j⟩:=nZ.1 k
 have mono:∀i,l.getD i false=true->(l.setIfInBounds R true).getD i false=true:=λi a=>by
  rcases n0 (R=i) with rfl|c
  .rw [pj] at a⊢;cases g:l[R]? with
   |none=>rw [g] at a;cases a
   |some b=>rw [ts (gq.1 g).1];rfl
  .rw [pj] at a⊢;rw [pl c];exact a
 rcases n0 (R=m) with rfl|c
 .rw [n] at d;cases d;exact mono _ (j e he f)
 .refine mono _ (h m z d ?_ e he f);rw [pj] at hm⊢;rw [pl c] at hm;exact hm
theorem m0.done{ops:Array Oper}{i:Nat}{l:Array Bool}(c:lI ops l):∀(d:Nat){R:Nat},m0 ops d R i=true->l.getD R false=true->l.getD i false=true
 |0,_,h,_=>by cases h
 |d+1,R,h,j=>by
  rw [m0] at h;simp only [n1,j2,d8] at h;rcases h with a|⟨m,_,a,k⟩
  .obtain⟨y,g,e,he,b,f⟩:=waits.on a;rw [<-f];exact c R y g j e he b
  .obtain⟨y,g,e,he,b,f⟩:=waits.on a;exact m0.done c d k (by rw [<-f];exact c R y g j e he b)
theorem nE.done{ops:Array Oper}{i R:Nat}{l:Array Bool}(h:nE ops R i=true)(n:R∈Region.ready .any ops l)(k:lI ops l):l.getD i false=true:=by
 obtain⟨p,y,g,f⟩:=nZ.1 n;unfold nE at h;rw [m0] at h;simp only [n1,j2,d8] at h;rcases h with b|⟨m,_,b,j⟩
 .obtain⟨o,a,e,he,c,d⟩:=waits.on b;rw [g] at a;cases a;rw [<-d];exact f e he c
 .obtain⟨o,a,e,he,c,d⟩:=waits.on b;rw [g] at a;cases a;exact m0.done k 6 j (by rw [<-d];exact f e he c)
theorem yz{l:Array Bool}{i:Nat}(a:l.getD i false=true)(c:l.getD i true=false):False:=by
 rw [pj] at a c;cases d:l[i]? with
 |none=>rw [d] at a;exact absurd a (by decide)
 |some b=>rw [d] at a c;exact absurd (a.symm.trans c) (by decide)
theorem lx.no{ops:Array Oper}{i R:Nat}{x:Oper}{l:Array Bool}(h:lx ops R=true)(e:ops[i]? =some x)(d:i∈Region.ready .any ops l)(c:R∈Region.ready .any ops l)(f:R≠i)(b:lI ops l):False:=by
 unfold lx at h;simp only [ji,q4] at h;have a:=h i (gq.1 e).1;simp only [n1,ea] at a;rcases a with(a|a)|a
 .exact absurd a.symm f
 .exact yz (nE.done a c b) (nZ.1 d).1
 .exact yz (nE.done a d b) (nZ.1 c).1
def g3(P:Program)(F:Fence)(ops:Array Oper)(a7:World->Prop)(Q:Exit->Act->World->Prop):Nat->Array Bool->Act->World->Prop
 |0,l,a,w=>Region.ready .any ops l=[]/\Q .normal a w
 |k+1,l,a,w=>(Region.ready .any ops l=[]->Q .normal a w)/\
  ∀i∈Region.ready .any ops l,wpOpIn F 0 P ops Q i (λa w=>(lx ops i=true\/a7 w)/\g3 P F ops a7 Q k (l.setIfInBounds i true) a w) a w
theorem g3.any:∀(k:Nat)(l:Array Bool)(a:Act)(w:World),g3 P F ops a7 Q k l a w->wpAnyIn F 0 P .any ops Q k l a w
 |0,_,_,_,h=>h
 |k+1,_,_,_,h=>⟨h.1,λi b=>wpOpIn_mono (λa w h=>g3.any k _ a w h.2) (h.2 i b)⟩
theorem HN{i:Nat}{K:Act->World->Prop}{hz:Exit->Act->World->Prop}{a:Act}{w:World}(c:∀e a w,Q e a w->hz e a w)(h:wpOpIn F 0 P ops Q i K a w):wpOpIn F 0 P ops hz i K a w:=by
 unfold wpOpIn at*;split
 .rename_i aT;simp only [aT] at h;exact h
 .rename_i I f;simp only [f] at h;split
  .rename_i hw;rw [aR hw] at h;refine⟨h.1,?_⟩;have b:=h.2;cases d:(I.semAt F.round a.eval).run P w with
   |ok g j=>
    rw [d] at b
    cases g<;>first
     |exact b
     |exact⟨b.1,li b.2 λe k he=>by
      cases e<;>first|exact he|exact c _ _ _ he|exact(let⟨a,w,h⟩:=he;⟨a,w,c _ _ _ h⟩)⟩
     |exact⟨b.1,pk b.2 λe k he=>by
      cases e<;>first|exact he|exact c _ _ _ he|exact(let⟨a,w,h⟩:=he;⟨a,w,c _ _ _ h⟩)⟩
   |halt l j=>rw [d] at b;cases l<;>first|exact b|exact c _ _ _ b
  .rename_i hw;rw [az hw] at h;exact h
theorem g3.post{hz:Exit->Act->World->Prop}(b:∀e a w,Q e a w->hz e a w):∀(k:Nat)(l:Array Bool)(a:Act)(w:World),g3 P F ops a7 Q k l a w->g3 P F ops a7 hz k l a w
 |0,_,_,_,h=>⟨h.1,b _ _ _ h.2⟩
 |k+1,_,_,_,h=>⟨λc=>b _ _ _ (h.1 c),λi d=>HN b (wpOpIn_mono (λa w h=>⟨h.1,g3.post b k _ a w h.2⟩) (h.2 i d))⟩
def jc(P:Program)(ops:Array Oper)(a7:World->Prop)(I:Oper)(v:Value)(a:Act):Prop:=
 if Region.wanted I (yielded ops a.tmps)=true then∀w,a7 w->(execOp a.eval I).run P w= .ok (.value v) w else v=undef
theorem rb{r:Option Nat}(f:FuncId):(jC r).fn f:=trivial
theorem jc.op{r:Option Nat}{i:Nat}{I:Oper}{v:Value}{a:Act}{w:World}{K:Act->World->Prop}(d:ops[i]? =some I)(aT:∀c,I.op≠.defer c)(h:jc P ops a7 I v a)(hw:a7 w)(k:K (a.put I.dst v) w):wpOpIn (jC r) 0 P ops Q i K a w:=by
 unfold jc at h;unfold wpOpIn;rw [d];dsimp only;by_cases b:Region.wanted I (yielded ops a.tmps)=true
 .rw [aR b] at h⊢;refine⟨λf _=>rb f,?_⟩;rw [nh _ _ _ aT,h w hw];exact k
 .rw [az b] at h⊢;rw [<-h];exact⟨λf _=>rb f,k⟩
theorem jc.fT{I:Oper}{v:Value}{a eK:Act}(h:jc P ops a7 I v a)(he:execOp eK.eval I=execOp a.eval I)(hw:Region.wanted I (yielded ops eK.tmps)=Region.wanted I (yielded ops a.tmps)):jc P ops a7 I v eK:=by
 unfold jc at*;rw [he,hw];exact h
theorem Ft{r:Option Nat}{R:Nat}{x y:Oper}{v:Value}{a:Act}{w:World}{K:Act->World->Prop}(z:ops[R]? =some y)(s:x.apart ops y=true)(o:∀cs b,x.op≠.select cs b)(B:∀cs b,y.op≠.select cs b)(k:∀c,y.op≠.defer c)
 (j:∀c a w,Q (.panic c) (a.put x.dst v) w->Q (.panic c) a w) (g:jc P ops a7 x v a) (h:wpOpIn (jC r) 0 P ops Q R K (a.put x.dst v) w):
 wpOpIn (jC r) 0 P ops Q R (λa w=>jc P ops a7 x v a/\K (a.put x.dst v) w) a w:=by
 obtain⟨l,q,i⟩:=Oper.apart_spec s;have still:∀b:Act,jc P ops a7 x v b->∀u,jc P ops a7 x v (b.put y.dst u):=λb t u=>t.fT (execOp_put x o b y.dst u i) (wanted_put x b y.dst u i)
 have swap:∀(b:Act)(u:Value),K ((b.put x.dst v).put y.dst u)=K ((b.put y.dst u).put x.dst v):=λb u=>by rw [Act.put_comm b v u q]
 have same:execOp (a.put x.dst v).eval y=execOp a.eval y:=execOp_put y B a x.dst v l;unfold wpOpIn at h⊢;rw [z] at h⊢;dsimp only at h⊢;rw [wanted_put y a x.dst v l] at h;by_cases n:Region.wanted y (yielded ops a.tmps)=true
 .rw [aR n] at h⊢;refine⟨λf _=>rb f,?_⟩;have d:=h.2;rw [nh _ _ _ k,same] at d;rw [nh _ _ _ k];cases m:(execOp a.eval y).run P w with
  |ok A C=>
   rw [m] at d
   cases A<;>dsimp only [Oper.uponIn] at d⊢<;>first
    |exact d.elim
    |exact⟨still a g _,by rw [<-swap];exact d⟩
    |(refine⟨d.1,li d.2 λe p he=>?_⟩
      cases e with
      |returned u=>exact⟨still a g u,by rw [<-swap];exact he⟩
      |panicked c=>exact j _ _ _ he
      |outgrown=>exact he)
    |(refine⟨d.1,pk d.2 λe p he=>?_⟩
      cases e with
      |returned u=>exact⟨still a g u,by rw [<-swap];exact he⟩
      |panicked c=>exact j _ _ _ he
      |outgrown=>exact he)
    |exact⟨d.1,RowsIn.mono d.2 λu p he=>⟨still a g u,by rw [<-swap];exact he⟩⟩
    |(refine⟨jc.fT g (execOp_put x o {a with defers:=_} y.dst undef i) (wanted_put x {a with defers:=_} y.dst undef i),?_⟩
      rw [<-swap,<-Act.put_defers];exact d)
  |halt D C=>
   rw [m] at d
   cases D<;>dsimp only [Oper.uponIn] at d⊢<;>first
    |exact d.elim
    |exact j _ _ _ d
 .rw [az n] at h⊢;exact⟨λf _=>rb f,still a g _,by rw [<-swap];exact h.2⟩
theorem g3.first{r:Option Nat}{i:Nat}{x:Oper}{v:Value}(f:ops[i]? =some x)(aF:∀(R:Nat)(I:Oper)cs b,ops[R]? =some I->I.op≠.select cs b)(u:∀(R:Nat)(I:Oper)c,ops[R]? =some I->I.op≠.defer c)(V:∀c a w,Q (.panic c) (a.put x.dst v) w->Q (.panic c) a w):
 ∀(k:Nat)(l:Array Bool)(a:Act)(w:World),a7 w->lI ops l->
  (∀R y,ops[R]? =some y->R≠i->l.getD R true=false->(∀e∈y.after,Region.binds .any e=true->e.on≠i)->x.apart ops y=true)->
  i∈Region.ready .any ops l->jc P ops a7 x v a->g3 P (jC r) ops a7 Q k (l.setIfInBounds i true) (a.put x.dst v) w->g3 P (jC r) ops a7 Q (k+1) l a w:=by
 intro k;induction k with
 |zero=>
  intro l a w o _ _ j q h;refine⟨λt=>absurd (t▸j) (by simp),λR g=>?_⟩;rcases n0 (R=i) with rfl|d
  .exact q.op f (λc=>u _ _ c f) o ⟨.inr o,h⟩
  .have D:=ready_mono g d;rw [h.1] at D;simp at D
 |succ k X=>
  intro l a w o B C j q h;refine⟨λt=>absurd (t▸j) (by simp),λR g=>?_⟩;rcases n0 (R=i) with rfl|d
  .exact q.op f (λc=>u _ _ c f) o ⟨.inr o,h⟩
  .obtain⟨G,y,s,J⟩:=nZ.1 g;have A:=(nZ.1 j).1
   have U:∀e∈y.after,Region.binds .any e=true->e.on≠i:=λe he K L=>by
    have n:=J e he K;subst L;rw [pj] at n A;cases F:l[e.on]? with
    |none=>rw [F] at n;exact absurd n (by decide)
    |some b=>rw [F] at n A;exact absurd (n.symm.trans A) (by decide)
   have H:=Ft s (C R y s d G U) (λcs b=>aF i x cs b f) (λcs b=>aF R y cs b s) (λc=>u R y c s) V q (h.2 R (ready_mono g d))
   have T:¬lx ops R=true:=λN=>by
    exact lx.no N f j g d B
   refine wpOpIn_mono (λeK aJ p=>⟨p.2.1,X (l.setIfInBounds R true) eK aJ (p.2.1.resolve_left T) (B.set g) ?_ (ready_mono j (Ne.symm d)) p.1 ?_⟩) H
   .intro m z W O E S;refine C m z W O ?_ S;rcases n0 (R=m) with rfl|M
    .exact G
    .rw [getD_set_ne true M] at E;exact E
   .rw [Array.setIfInBounds_comm _ _ d];exact p.2.2
end
def eM(P:Program)(n:Fr)(ops:Array Oper)(a7:World->Prop)(k:Nat)(l:Array Bool)(Z:Env)(w:World)(Q:d7):Prop:=
 ∀a,cN Z n.n a->Marks n w a.defers->g3 P (jC n.r) ops a7 (lift n w Q) k l a w
section
variable {P:Program} {n:Fr} {Z:Env} {w:World} {Q:d7} {ops:Array Oper} {a7:World->Prop} {k:Nat} {l:Array Bool}
abbrev hJ(Q:d7):d7:=λe Z w=>match e with
 | .panic _=>False
 |e=>Q e Z w
theorem A3 [hm:qF P]{id:Nat}{ops:Array Oper}(a7:World->Prop)(h:eM P n ops a7 ops.size (Array.replicate ops.size false) Z w.drew (hJ Q)):W P n (.region id ops true) Z w Q:=λa c f=>by
 refine kn (wpIn_region_any (Q:=lift n w.drew (hJ Q)) hm.h ?_) λe a j⟨ad,d,i,g,b⟩=>⟨(cV.drew w).trans ad,d,i,g,?_⟩
 .exact g3.any _ _ _ _ (h a c (f.fT (cV.drew w)))
 .cases e<;>first|exact b|exact False.elim b
def jK(ops:Array Oper)(l:Array Bool)(i:Nat):Bool:=Region.free .any ops l i&&pz ops l
theorem jK.free{ops:Array Oper}{l:Array Bool}{i:Nat}(h:jK ops l i=true):Region.free .any ops l i=true:=by unfold jK at h;simp only [Bool.and_eq_true] at h;exact h.1
theorem jK.closed{ops:Array Oper}{l:Array Bool}{i:Nat}(h:jK ops l i=true):lI ops l:=by unfold jK at h;simp only [Bool.and_eq_true] at h;exact pz.spec h.2
theorem vN(i:Nat){I:Oper}{v:Value}(f:ops[i]? =some I)(aF:calm ops=true)(e:jK ops l i=true)(p:(Region.ready .any ops l).contains i=true)
 (m:c0 ops Z I.guard=some true) (j:da n I.dst=true) (g:a7 w)
 (q:∀w,a7 w->∀a,cN Z n.n a->(execOp a.eval I).run P w= .ok (.value v) w) (h:eM P n ops a7 k (l.setIfInBounds i true) (cK Z I.dst v) w (hJ Q)):eM P n ops a7 (k+1) l Z w (hJ Q):=λa b hm=>by
 refine g3.first (v:=v) f (Region.noSelect_spec (calm.zu aF)) (λR I c o=>calm.def aF o c) (λc a w d=>?_) k l a w g (jK.closed e) (Region.free_spec f (jK.free e)) (by simpa using p) ?_ (h _ (b.cK j v) (hm.put _ _))
 .obtain⟨_,_,r,_,d⟩:=d;exact d.elim
 .unfold jc;rw [aR (nm b m)];exact λw hw=>q w hw a b
theorem AL(i:Nat){I:Oper}(f:ops[i]? =some I)(aF:calm ops=true)(e:jK ops l i=true)(p:(Region.ready .any ops l).contains i=true)
 (m:c0 ops Z I.guard=some false) (j:da n I.dst=true) (g:a7 w) (h:eM P n ops a7 k (l.setIfInBounds i true) (cK Z I.dst undef) w (hJ Q)):eM P n ops a7 (k+1) l Z w (hJ Q):=λa d hm=>by
 refine g3.first (v:=undef) f (Region.noSelect_spec (calm.zu aF)) (λR I c o=>calm.def aF o c) (λc a w b=>?_) k l a w g (jK.closed e) (Region.free_spec f (jK.free e)) (by simpa using p) ?_ (h _ (d.cK j undef) (hm.put _ _))
 .obtain⟨_,_,q,_,b⟩:=b;exact b.elim
 .unfold jc;rw [az (by rw [nm d m];decide)]
theorem Ag{F:Fence}{i:Nat}{I:Oper}{a:Act}{K:Act->World->Prop}{Q:Exit->Act->World->Prop}(d:ops[i]? =some I)
 (h:wpListIn F 0 P ops (λe a w=>match e with| .normal=>K a w|e=>Q e a w) [I] a w):wpOpIn F 0 P ops Q i K a w:=by
 unfold wpOpIn;rw [d];dsimp only;unfold wpListIn at h;split
 .rename_i hw;rw [aR hw] at h;refine⟨h.1,?_⟩;have b:=h.2;cases c:(I.semAt F.round a.eval).run P w with
  |ok f g=>
   rw [c] at b
   cases f<;>first
    |exact b
    |exact⟨b.1,li b.2 λe j he=>by cases e<;>exact he⟩
    |exact⟨b.1,pk b.2 λe j he=>by cases e<;>exact he⟩
  |halt k g=>rw [c] at b;cases k<;>exact b
 .rename_i hw;rw [az hw] at h;exact h
theorem s6{i:Nat}{I:Oper}(d:ops[i]? =some I)
 (h:O P n ops [I] Z w (λe Z w=>match e with| .normal=>a7 w/\eM P n ops a7 k (l.setIfInBounds i true) Z w Q|_=>False)) {a:Act} (c:cN Z n.n a) (hm:Marks n w a.defers):
 wpOpIn (jC n.r) 0 P ops (lift n w Q) i (λa aJ=>(lx ops i=true\/a7 aJ)/\g3 P (jC n.r) ops a7 (lift n w Q) k (l.setIfInBounds i true) a aJ) a w:=
 Ag d (kE (λe a aJ⟨ad,g,m,j,b⟩=>by
  cases e<;>first|exact⟨.inr b.1,g3.post (λ_ _ _ f=>lift.from ad f) _ _ _ _ (b.2 _ j g)⟩|exact False.elim b) _ _ _ (h a c hm))
theorem vM(i:Nat){I:Oper}(g:ops[i]? =some I)(c:Region.ready .any ops l=[i])
 (h:O P n ops [I] Z w (λe Z w=>match e with| .normal=>a7 w/\eM P n ops a7 k (l.setIfInBounds i true) Z w Q|_=>False)):eM P n ops a7 (k+1) l Z w Q:=λa f hm=>by
 refine⟨λd=>absurd (c▸d) (by simp),λR b=>?_⟩;rw [c] at b;obtain rfl:=hO.1 b;exact s6 g h f hm
theorem vL(i:Nat){I:Oper}(m:ops[i]? =some I)(f:Region.ready .any ops l=[i])(b:lx ops i=true)
 (h:O P n ops [I] Z w (λe Z w=>match e with| .normal=>eM P n ops a7 k (l.setIfInBounds i true) Z w Q|_=>False)):eM P n ops a7 (k+1) l Z w Q:=λa j hm=>by
 refine⟨λg=>absurd (f▸g) (by simp),λR c=>?_⟩;rw [f] at c;obtain rfl:=hO.1 c
 exact Ag m (kE (λe a aJ⟨ad,o,q,p,d⟩=>by
  cases e<;>first|exact⟨.inl b,g3.post (λ_ _ _ b=>lift.from ad b) _ _ _ _ (d _ p o)⟩|exact False.elim d) _ _ _ (h a j hm))
end
section
variable {P:Program} {n:Fr} {Z:Env} {w:World} {Q:d7} {ops:Array Oper} {a7:World->Prop} {rest:List Oper} {I:Oper}
end
end Go.Proofs.YtmholjbhjcpkhaaGreatDoor.R
namespace Go.Proofs.YtmholjbhjcpkhaaGreatDoor.R
open Go.Proofs.Tryz Go
def bv(x:UInt8):Value:=.int .u8 x.toNat
def aP(l:List UInt8):List Value:=l.map bv
def ab(n:Int):Value:=.int .i64 n
theorem B2(a b:List UInt8):aP (a++b)=aP a++aP b:=by simp [aP]
@[simp] theorem dx(a:List UInt8):(aP a).length=a.length:=by simp [aP]
theorem gC(l:List UInt8):∀u∈aP l,u.oneCell'=true:=by
 intro u hu;obtain⟨x,_,rfl⟩:=ee.1 hu;rfl
theorem wL{l:List UInt8}{i:Nat}{x:UInt8}(h:l[i]? =some x):(aP l)[i]? =some (bv x):=by simp [aP,h]
def enc(u:Nat):List UInt8:=if u<128 then [UInt8.ofNat u] else UInt8.ofNat (u%128+128)::enc (u/128)
termination_by u
decreasing_by omega
theorem pD{u:Nat}(h:u<128):enc u=[UInt8.ofNat u]:=by rw [enc,aR h]
theorem t4{u:Nat}(h:¬u<128):enc u=UInt8.ofNat (u%128+128)::enc (u/128):=by rw [enc,az h]
def hE(n:Int):Nat:=(max 0 (min n 4611686018427387904)).toNat
theorem wS(n:Int):hE n<=4611686018427387904:=by unfold hE;omega
def ep(eR:List Int):List UInt8:=eR.flatMap λn=>enc (hE n)
theorem rD:∀(k u:Nat),u<128^(k+1)->(enc u).length<=k+1:=by
 intro k;induction k with
 |zero=>intro u h;rw [pD (by omega)];simp
 |succ k a=>
  intro u h;by_cases hu:u<128
  .rw [pD hu];simp
  .rw [t4 hu,ex];have:u/128<128^(k+1):=by rw [Nat.pow_succ] at h;omega
   have:=a _ this;omega
theorem t5(u:Nat)(h:u<=4611686018427387904):(enc u).length<=9:=rD 8 u (by rw [show(128:Nat)^(8+1)=9223372036854775808 from by decide];omega)
theorem CU(u:Nat):0<(enc u).length:=by
 by_cases hu:u<128
 .rw [pD hu];simp
 .rw [t4 hu];simp
theorem CW(n:Int)(eR:List Int):ep (n::eR)=enc (hE n)++ep eR:=rfl
theorem CV(a b:List Int):ep (a++b)=ep a++ep b:=by simp [ep]
theorem gb(eR:List Int):(ep eR).length<=9*eR.length:=by
 induction eR with
 |nil=>simp [ep]
 |cons n eR a=>
  rw [CW,cj,List.length_cons];have:=t5 (hE n) (wS n);omega
theorem FB:∀x:Fin 256,(BitVec.ofNat 8 x.val|||128#8).toNat=x.val%128+128:=by decide+kernel
theorem EX(u:Nat):IntKind.u8.wrap ((BitVec.ofInt IntKind.u8.bits (IntKind.u8.wrap (u:Int))|||BitVec.ofInt IntKind.u8.bits 128).toNat:Int)=((UInt8.ofNat (u%128+128)).toNat:Int):=by
 have a:IntKind.u8.wrap (u:Int)=((u%256:Nat):Int):=by rw [lS];omega
 have b:BitVec.ofInt IntKind.u8.bits (IntKind.u8.wrap (u:Int))=BitVec.ofNat 8 (u%256):=by rw [a];exact n2 ..
 have c:BitVec.ofInt IntKind.u8.bits 128=(128#8:BitVec 8):=rfl;have d:=FB ⟨u%256,jE _ (by decide)⟩;rw [b,c];have e:(BitVec.ofNat 8 (u%256)|||128#8).toNat=u%128+128:=by rw [d];simp
 have f:(UInt8.ofNat (u%128+128)).toNat=u%128+128:=by rw [pm];omega
 rw [f];show IntKind.u8.wrap (((BitVec.ofNat 8 (u%256)|||128#8:BitVec 8).toNat:Nat):Int)=_;rw [e,lS];omega
theorem EG(u:Nat):IntKind.u8.wrap (u:Int)=((UInt8.ofNat u).toNat:Int):=by
 rw [lS];simp [pm]
theorem GK(u:Nat):(u:Int).fdiv (2^(min (7:Int).toNat IntKind.u64.bits))=((u/128:Nat):Int):=by
 have:(2:Int)^(min (7:Int).toNat IntKind.u64.bits)=128:=by decide
 rw [this,tt _ (by decide)];omega
theorem Ch(n:Int):IntKind.u64.wrap (max 0 (min n 4611686018427387904))=((hE n:Nat):Int):=by
 rw [pn];unfold hE;omega
theorem dn(k:Nat)(h:k<9223372036854775807):evalBin .add .i64 (k:Int) 1=some (.int .i64 ((k+1:Nat):Int)):=by
 have:IntKind.i64.wrap ((k:Int)+1)=((k+1:Nat):Int):=by rw [j3];omega
 show some (Value.int .i64 (IntKind.i64.wrap ((k:Int)+1)))=_;rw [this]
theorem wK{e:TypeId}{v:Value}{d:List UInt8}{x:UInt8}{ak:List Chunk}(h:Row e 1 v (d.length+1) (aP d++[bv x]) ak):Row e 1 v (d++[x]).length (aP (d++[x])) ak:=by
 simpa [aP] using h
theorem tO{e:TypeId}{v:Value}{d y:List UInt8}{m:Nat}{ak:List Chunk}(h:Row e 1 v (d.length+m) (aP d++aP y) ak)(hm:m=y.length):Row e 1 v (d++y).length (aP (d++y)) ak:=by
 subst hm;simpa [aP] using h
theorem B7{x y:UInt8}(h:(x.toNat:Int)=y.toNat):x=y:=UInt8.toNat_inj.1 (by omega)
def e5(c:BitVec 32):Value:=.int .u32 c.toNat
theorem ofInt_u32(v:BitVec 32):BitVec.ofInt IntKind.u32.bits (v.toNat:Int)=v:=by
 show BitVec.ofInt 32 (v.toNat:Int)=v;rw [n2,BitVec.ofNat_toNat];simp
theorem sO(v:BitVec 32):IntKind.u32.wrap (v.toNat:Int)=v.toNat:=by
 rw [IntKind.wrap_u32];have:=v.isLt;omega
theorem kQ(x y:BitVec 32):evalBin .xor .u32 (x.toNat:Int) (y.toNat:Int)=some (e5 (x^^^y)):=by
 show some (Value.int .u32 (IntKind.u32.wrap ((BitVec.ofInt IntKind.u32.bits (x.toNat:Int)^^^BitVec.ofInt IntKind.u32.bits (y.toNat:Int)).toNat:Int)))=_;rw [ofInt_u32,ofInt_u32];exact aK (λz=>some (Value.int .u32 z)) (sO _)
theorem pH(x y:BitVec 32):evalBin .and .u32 (x.toNat:Int) (y.toNat:Int)=some (e5 (x&&&y)):=by
 show some (Value.int .u32 (IntKind.u32.wrap ((BitVec.ofInt IntKind.u32.bits (x.toNat:Int)&&&BitVec.ofInt IntKind.u32.bits (y.toNat:Int)).toNat:Int)))=_;rw [ofInt_u32,ofInt_u32];exact aK (λz=>some (Value.int .u32 z)) (sO _)
theorem Db(x:BitVec 32):ug .xor .u32 (x.toNat:Int)=some (e5 (~~~x)):=by
 have hm:(if IntKind.u32.signed=true then(-1:Int) else IntKind.u32.max)=((0xffffffff#32:BitVec 32).toNat:Int):=by decide
 show some (Value.int .u32 (IntKind.u32.wrap ((BitVec.ofInt IntKind.u32.bits (if IntKind.u32.signed=true then(-1:Int) else IntKind.u32.max)^^^BitVec.ofInt IntKind.u32.bits (x.toNat:Int)).toNat:Int)))=_;rw [hm,ofInt_u32,ofInt_u32];have:(0xffffffff#32^^^x:BitVec 32)= ~~~x:=by rw [show(0xffffffff#32:BitVec 32)=BitVec.allOnes 32 from by decide,BitVec.allOnes_xor]
 show some (Value.int .u32 (IntKind.u32.wrap ((0xffffffff#32^^^x:BitVec 32).toNat:Int)))=_;rw [this];exact aK (λz=>some (Value.int .u32 z)) (sO _)
theorem rq(b:UInt8):IntKind.u32.wrap (b.toNat:Int)=((BitVec.ofNat 32 b.toNat).toNat:Int):=by
 rw [IntKind.wrap_u32,nf];have:=b.toNat_lt;omega
def kG(w:World)(A:Option Addr)(rows:List (List UInt8))(F:List Nat):Prop:=AZ w A (rows.map aP) F
theorem kG.at{w:World}{F:List Nat}{A:Option Addr}{rows:List (List UInt8)}(h:kG w A rows F)(R:Nat)(i:R<rows.length):
 ∃(U:List Value)(a:Option Addr)(ci:Nat),Rd w A U/\cc A U F/\U[R]? =some (Value.slice a rows[R].length ci)/\Rd w a (aP rows[R])/\cc a (aP rows[R]) F:=by
 obtain⟨U,j,b,c,d⟩:=h;obtain⟨a,ci,e,f,g⟩:=d R (aP rows[R]) (by simp [i]);exact⟨U,a,ci,b,c,by simpa using e,f,g⟩
def hd(x:List UInt8):List UInt8:=enc x.length++x
def jo(rows:List (List UInt8)):List UInt8:=rows.flatMap hd
def iR(rows:List (List UInt8)):Nat:=(rows.map λr=>r.length+10).sum
theorem jn(x:List UInt8)(h:x.length<=4611686018427387904):(hd x).length<=x.length+9:=by
 have:=t5 _ h;simp only [hd,cj];omega
theorem vE(x:List UInt8)(r:List (List UInt8)):iR (x::r)=x.length+10+iR r:=rfl
theorem HO(a b:List (List UInt8)):iR (a++b)=iR a+iR b:=by simp [iR]
theorem CS:∀(rows:List (List UInt8)),iR rows<=4611686018427387904->(jo rows).length+rows.length<=iR rows:=by
 intro rows;induction rows with
 |nil=>intro _;simp [jo,iR]
 |cons x r b=>
  intro h;rw [vE] at h⊢;have a:=b (by omega);have c:=jn x (by omega);simp only [jo,jj,cj,List.length_cons] at a⊢;omega
theorem HP(rows:List (List UInt8)):rows.length<=iR rows:=by
 induction rows with
 |nil=>simp
 |cons x r a=>rw [vE,ex];omega
theorem HQ(rows:List (List UInt8))(R:Nat)(c:R<rows.length):iR (rows.take R)+rows[R].length+10<=iR rows:=by
 have a:rows=rows.take R++(rows[R]::rows.drop (R+1)):=by rw [<-jF c,ne]
 have b:=aK iR a;rw [HO,vE] at b;omega
theorem wT(k:Nat)(h:k<=4611686018427387904):hE (k:Int)=k:=by unfold hE;omega
theorem CT(rows:List (List UInt8))(R:Nat)(a:R<rows.length):jo (rows.take (R+1))=jo (rows.take R)++hd rows[R]:=by
 unfold jo;rw [List.take_succ_eq_append_getElem a,List.flatMap_append];simp only [List.flatMap_cons,List.flatMap_nil,List.append_nil]
theorem kG.one{w:World}{F:List Nat}{A a:Option Addr}{x:List UInt8}{ci n:Nat}(c:Rd w A [.slice a n ci])(aT:n=x.length)(d:cc A [.slice a n ci] F)(e:Rd w a (aP x))(f:cc a (aP x) F):kG w A [x] F:=by
 subst aT;refine⟨[.slice a x.length ci],j,c,d,λi xs b=>?_⟩;cases i with
 |zero=>simp at b;subst b;exact⟨a,ci,by simp,e,f⟩
 |succ i=>simp at b
def View(v:Value)(aG:List UInt8)(G:List Chunk):Prop:=
 ∃(A:Option Addr)(c:Nat),v=Value.slice A aG.length c/\aG.length<=c/\c<=maxLen/\∀(o w:World)(F:List Nat)(ae:List (List Chunk)),C o F (G::ae) w->Rd w A (aP aG)/\cc A (aP aG) (au ae)
theorem View.nil(G:List Chunk):View (.slice none 0 0) [] G:=⟨none,0,j,cF _,cp _,λ_ _ _ _ _=>⟨Rd.nil _ _,λh=>(h j).elim⟩⟩
theorem View.ofRow{e:TypeId}{v:Value}{aG:List UInt8}{G:List Chunk}(h:Row e 1 v aG.length (aP aG) G):View v aG G:=by
 obtain⟨A,c,a,d,f⟩:=h.form;refine⟨A,c,a,d,f,λo w F ae j=>?_⟩;obtain⟨gP,k,b,_,_,g,i⟩:=h.rd j;rw [a] at b;cases b;exact⟨g,i⟩
theorem Rd.drop{w:World}{A:Option Addr}{U:List Value}(h:Rd w A U)(k:Nat):Rd w (A.map (·.add k)) (U.drop k):=λi v d=>by
 rw [mI] at d;obtain⟨a,rfl,e⟩:=h _ _ d;refine⟨_,j,?_⟩;rw [show(a.add k).add i=a.add (k+i) from ?_]
 .exact e
 .unfold Addr.add;by_cases b:k=0
  .subst b;simp
  .by_cases c:i=0
   .subst c;simp [b]
   .rw [az b,az c,az (by omega)];simp [q5]
theorem Rd.take{w:World}{A:Option Addr}{U:List Value}(h:Rd w A U)(k:Nat):Rd w A (U.take k):=λi v a=>by
 rw [kJ] at a;split at a
 .exact h i v a
 .cases a
theorem wM(l:List UInt8)(k:Nat):aP (l.drop k)=(aP l).drop k:=by simp [aP,List.map_drop]
theorem B4(l:List UInt8)(k:Nat):aP (l.take k)=(aP l).take k:=by simp [aP,List.map_take]
theorem View.drop{A:Option Addr}{aG:List UInt8}{c k:Nat}{G:List Chunk}(h:View (.slice A aG.length c) aG G)(ad:k<=aG.length):
 View (.slice (if c=k then A else A.map (·.add (k*1))) (aG.length-k) (c-k)) (aG.drop k) G:=by
 obtain⟨gP,n,m,p,q,e⟩:=h;cases m;by_cases d:c=k
 .rw [aR d];have:aG.drop k=[]:=List.drop_eq_nil_of_le (by omega);rw [this];refine⟨A,c-k,by simp;omega,by simp,by omega,λ_ _ _ _ _=>⟨Rd.nil _ _,λh=>(h j).elim⟩⟩
 .rw [az d,gK];refine⟨_,c-k,by rw [iC],by rw [iC];omega,by omega,λo w F ae i=>?_⟩;obtain⟨f,g⟩:=e o w F ae i;refine⟨by rw [wM];exact f.drop k,λl a b=>?_⟩;cases A with
  |none=>cases b
  |some eK=>
   cases b;rw [wb];refine g (λhe=>l ?_) eK j;rw [wM,he,List.drop_nil]
abbrev ed:=Option (List UInt8)
def ed.left(s:ed):List UInt8:=s.getD []
def hA(v:Value)(b:Bool)(s:ed)(G:List Chunk):Prop:=b=s.isNone/\View v s.left G
theorem hA.bad(G:List Chunk):hA (.slice none 0 0) true none G:=⟨j,View.nil G⟩
def lr(i u:Nat):List UInt8->Option (Nat×List UInt8)
 |[]=>none
 |c::r=>if 9<=i\/(0<i/\c=0) then none else
  if c.toNat<128 then(if u+c.toNat%128*128^i>4611686018427387904 then none else some (u+c.toNat%128*128^i,r))
  else lr (i+1) (u+c.toNat%128*128^i) r
def dec(l:List UInt8):Option (Nat×List UInt8):=lr 0 0 l
def eb(s:ed):Nat×ed:=match s with
 |none=>(0,none)
 |some aG=>match dec aG with
  |some (u,r)=>(u,some r)
  |none=>(0,none)
def ix(s:ed)(n:Int):List UInt8×ed:=match s with
 |none=>([],none)
 |some aG=>if n<0\/n>aG.length then([],none) else(aG.take n.toNat,some (aG.drop n.toNat))
def k3(s:ed):List UInt8×ed:=ix (eb s).2 (eb s).1
theorem qe{s:ed}(h:dec s.left=none):eb s=(0,none):=by
 cases s with
 |none=>rfl
 |some l=>unfold eb;dsimp only;rw [show dec l=none from h]
theorem zk{s:ed}{u:Nat}{r:List UInt8}(h:dec s.left=some (u,r)):eb s=(u,some r):=by
 cases s with
 |none=>rw [show ed.left none=[] from j] at h;simp [dec,lr] at h
 |some l=>unfold eb;dsimp only;rw [show dec l=some (u,r) from h]
theorem ls(i u:Nat)(c:UInt8)(r:List UInt8):lr i u (c::r)=if 9<=i\/(0<i/\c=0) then none else
 if c.toNat<128 then(if u+c.toNat%128*128^i>4611686018427387904 then none else some (u+c.toNat%128*128^i,r))
 else lr (i+1) (u+c.toNat%128*128^i) r:=rfl
theorem Bo:∀x:Fin 256,(BitVec.ofNat 8 x.val&&&127#8).toNat=x.val%128:=by decide+kernel
theorem xf(c:UInt8):evalBin .and .u8 (c.toNat:Int) 127=some (.int .u8 ((c.toNat%128:Nat):Int)):=by
 show some (Value.int .u8 (IntKind.u8.wrap ((BitVec.ofInt IntKind.u8.bits (c.toNat:Int)&&&BitVec.ofInt IntKind.u8.bits 127).toNat:Int)))=_;have a:BitVec.ofInt IntKind.u8.bits (c.toNat:Int)=BitVec.ofNat 8 c.toNat:=n2 ..;have b:BitVec.ofInt IntKind.u8.bits 127=(127#8:BitVec 8):=rfl;have d:=Bo ⟨c.toNat,c.toNat_lt⟩;rw [a,b];show some (Value.int .u8 (IntKind.u8.wrap (((BitVec.ofNat 8 c.toNat&&&127#8:BitVec 8)).toNat:Int)))=_;rw [d,lS]
 congr 2
 show((c.toNat%128:Nat):Int)%256=_;omega
theorem pA(x:Nat)(h:x<18446744073709551616):IntKind.u64.wrap (x:Int)=(x:Int):=by rw [pn];omega
theorem wX(x:Nat)(h:x<9223372036854775808):IntKind.i64.wrap (x:Int)=(x:Int):=by rw [j3];omega
theorem yr(i:Nat)(h:i<=9):evalBin .mul .i64 7 (i:Int)=some (.int .i64 ((7*i:Nat):Int)):=by
 have a:IntKind.i64.wrap (7*(i:Int))=((7*i:Nat):Int):=by rw [j3];omega
 show some (Value.int .i64 (IntKind.i64.wrap (7*(i:Int))))=_;rw [a]
theorem yY{i:Nat}(h:i<=8):128^i<=72057594037927936:=by
 have:=Nat.pow_le_pow_right (show 0<128 by decide) h;rw [show(128:Nat)^8=72057594037927936 from by decide] at this;exact this
theorem vz(i:Nat):2^(7*i)=128^i:=by rw [Nat.pow_mul]
theorem zA(x i:Nat)(f:x<128)(d:i<=8):evalShift .shl .u64 (x:Int) ((7*i:Nat):Int)=some (.int .u64 ((x*128^i:Nat):Int)):=by
 show some (Value.int .u64 (IntKind.u64.wrap ((x:Int)*2^(min ((7*i:Nat):Int).toNat IntKind.u64.bits))))=_
 have a:min ((7*i:Nat):Int).toNat IntKind.u64.bits=7*i:=by
  rw [lj,show IntKind.u64.bits=64 from j];omega
 have b:(x:Int)*2^(7*i)=((x*128^i:Nat):Int):=by rw [<-vz];push_cast;rfl
 have c:=yY d;have e:x*128^i<=127*72057594037927936:=q6 (by omega) c;rw [a,b,pA _ (by omega)]
theorem yO(u x i:Nat)(hu:u<128^i)(g:x<128)(e:i<=8):evalBin .or .u64 (u:Int) ((x*128^i:Nat):Int)=some (.int .u64 ((u+x*128^i:Nat):Int)):=by
 show some (Value.int .u64 (IntKind.u64.wrap ((BitVec.ofInt IntKind.u64.bits (u:Int)|||BitVec.ofInt IntKind.u64.bits ((x*128^i:Nat):Int)).toNat:Int)))=_;have c:=yY e;have f:x*128^i<=127*72057594037927936:=q6 (by omega) c;have a:BitVec.ofInt IntKind.u64.bits (u:Int)=BitVec.ofNat 64 u:=n2 ..;have b:BitVec.ofInt IntKind.u64.bits ((x*128^i:Nat):Int)=BitVec.ofNat 64 (x*128^i):=n2 ..
 have d:(BitVec.ofNat 64 u|||BitVec.ofNat 64 (x*128^i)).toNat=u+x*128^i:=by
  rw [BitVec.toNat_or,nf,nf,po (by omega),po (by omega),<-vz];have:=Nat.shiftLeft_add_eq_or_of_lt (show u<2^(7*i) by rw [vz];exact hu) x;rw [Nat.shiftLeft_eq] at this;rw [Nat.or_comm,<-this,Nat.add_comm]
 rw [a,b];show some (Value.int .u64 (IntKind.u64.wrap ((BitVec.ofNat 64 u|||BitVec.ofNat 64 (x*128^i)).toNat:Int)))=_;rw [d,pA _ (by omega)]
theorem Dg(x y:UInt8):evalBin .xor .u8 (x.toNat:Int) (y.toNat:Int)=some (bv (x^^^y)):=by
 have a:∀c:UInt8,BitVec.ofInt IntKind.u8.bits (c.toNat:Int)=BitVec.ofNat 8 c.toNat:=λc=>n2 ..
 show some (Value.int .u8 (IntKind.u8.wrap ((BitVec.ofInt IntKind.u8.bits (x.toNat:Int)^^^BitVec.ofInt IntKind.u8.bits (y.toNat:Int)).toNat:Int)))=_;rw [a,a]
 have b:(BitVec.ofNat 8 x.toNat^^^BitVec.ofNat 8 y.toNat).toNat=(x^^^y).toNat:=by
  rw [BitVec.toNat_xor,UInt8.toNat_xor,nf,nf,po x.toNat_lt,po y.toNat_lt]
 show some (Value.int .u8 (IntKind.u8.wrap (((BitVec.ofNat 8 x.toNat^^^BitVec.ofNat 8 y.toNat:BitVec 8)).toNat:Int)))=_;rw [b,lS];have:=(x^^^y).toNat_lt;show some (Value.int .u8 _)=some (Value.int .u8 _)
 congr 2
 omega
end Go.Proofs.YtmholjbhjcpkhaaGreatDoor.R
namespace Go.Proofs.YtmholjbhjcpkhaaGreatDoor.R
open Go.Proofs.Tryz Go Go.RowKit
section
variable {P:Program} {n:Fr} {Z:Env} {w:World} {Q:d7} {ops:Array Oper} {rest:List Oper}
 {dst:Option Nat} {ty:TypeId} {pos:String} {after:Array Edge} {g:Option (Nat×Bool)}
theorem nH{t j:TypeId}{x y:Operand}{a b:ByteArray}(e:c0 ops Z g=some true)(d:da n dst=true)
 (f:bt Z x=some (.string a)) (i:bt Z y=some (.string b))
 (h:O P n ops rest (cK Z dst (.bool (a==b))) w Q):O P n ops (⟨dst,.binOp .eql t x y j,ty,pos,after,g⟩::rest) Z w Q:=
 dR e d (λac c=>by
  simp only [execOp,c.eval f,c.eval i,dW,eqGuard_at_string,binOp_string_eql,dZ,ew,<-q7]) h
theorem hx{f:FuncId}{x:Operand}{q:Array TypeId}{args:Array Operand}{U:List Value}{ga be:Array Value}{ak:Value->World->Prop}[l:Entry P f](m:c0 ops Z g=some true)(k:da n dst=true)
 (p:bt Z x=some (.func (.func f) ga be)) (o:fl Z args.toList=some U) (j:Calls P f (ga++U.toArray++be) w ak)
 (h:∀v aJ,ak v aJ->O P n ops rest (cK Z dst v) aJ Q):O P n ops (⟨dst,.call ⟨.value x,args,q⟩,ty,pos,after,g⟩::rest) Z w Q:=by
 obtain⟨fn,c,d,e⟩:=l.h;refine vT (f:=f) (U:=ga++U.toArray++be) (aJ:=w) m k (λa b=>?_) j h;have:args.map a.eval=U.toArray:=by apply fz;rw [g9,b.hf o]
 have i:fn.body.isNone=false:=e;simp only [execOp,resolve,this,b.eval p,Deferred.ofValue,invoke,callFunc,c,d,i,dW,ew,dZ,lR,pi,Array.append_empty,if_false,Bool.false_eq_true]
theorem vU{t j:TypeId}{x y:Operand}{xs dh:Array Value}{b:Bool}(d:c0 ops Z g=some true)(c:da n dst=true)
 (f:bt Z x=some (.agg xs)) (i:bt Z y=some (.agg dh)) (hm:P.eqGuardType P.depth t=false) (e:∀w,(Op.equalIn 10000 t (.agg xs) (.agg dh)).run P w= .ok b w)
 (h:O P n ops rest (cK Z dst (.bool b)) w Q):O P n ops (⟨dst,.binOp .eql t x y j,ty,pos,after,g⟩::rest) Z w Q:=
 dR d c (λac a=>by
  simp only [execOp,a.eval f,a.eval i,dW,run_eqGuard_agg w .eql t x y xs dh hm,dZ,run_eql_struct,e,ew]) h
def setCells(c:Array Value)(off:Nat):List Value->Array Value
 |[]=>c
 |v::r=>setCells (c.setIfInBounds off v) (off+1) r
theorem sq:∀(U:List Value)(c:Array Value)(off:Nat),(setCells c off U).size=c.size
 |[],_,_=>rfl
 |v::r,c,off=>by rw [setCells,sq r];simp
theorem ov:∀(U:List Value)(c:Array Value)(off:Nat),off+U.length<=c.size->∀i,(setCells c off U)[i]? =if off<=i/\i<off+U.length then U[i-off]? else c[i]?
 |[],c,off,_,i=>by rw [az (by simp)];rfl
 |v::r,c,off,h,i=>by
  simp only [ex] at h⊢;rw [setCells,ov r _ _ (by simp;omega) i];rcases q8 i off with a|a|a
  .rw [az (by omega),az (by omega),pl (by omega)]
  .subst a;rw [az (by omega),aR (by omega),ts (by omega)];simp
  .by_cases b:i<off+1+r.length
   .rw [aR (by omega),aR (by omega),show i-off=(i-(off+1))+1 by omega,ng]
   .rw [az (by omega),az (by omega),pl (by omega)]
theorem zw(U:List Value)(c:Array Value)(h:c.size=U.length):setCells c 0 U=U.toArray:=by
 apply q9;intro i;rw [ov U c 0 (by omega) i];split
 .simp
 .rename_i aT;rw [tu (by omega)];simp;omega
theorem C.whole{o w:World}{F:List Nat}{ae:List (List Chunk)}{b:Nat}{e:TypeId}{c:Array Value}{U:List Value}(h:C o F ([(b,.cells (setCells c 0 U) e (0,0))]::ae) w)(a:c.size=U.length):C o F ([(b,.cells U.toArray e (0,0))]::ae) w:=by
 rw [zw U c a] at h;exact h
theorem C.storeCells{P:Program}{o:World}{F:List Nat}{ae:List (List Chunk)}{b:Nat}{e:TypeId}{off:Nat}:∀(U:List Value)(i:Nat)(c:Array Value)(w:World),
 C o F ([(b,.cells c e (0,0))]::ae) w->off+i+U.length<=c.size->(∀v∈U,v.oneCell'=true)->
 ∃aJ,(Go.storeCells ⟨b,off,none⟩ U i).run P w= .ok () aJ/\C o F ([(b,.cells (setCells c (off+i) U) e (0,0))]::ae) aJ/\cV w aJ
 |[],i,c,w,a,_,_=>⟨w,j,a,cV.refl _⟩
 |v::r,i,c,w,a,m,f=>by
  simp only [ex] at m;have l:w.frozen? ⟨b,off+i,none⟩=false:=by simp [World.frozen?,a.first]
  have ih:w.cell? ⟨b,off+i,none⟩=some (c[off+i]'(by omega)):=a.cell (by simp);have d:=run_store P w ⟨b,off+i,none⟩ v .plain (f v (by simp));rw [ih] at d;simp only [l] at d;obtain⟨aJ,g,h,k⟩:=C.storeCells (off:=off) r (i+1) (c.setIfInBounds (off+i) v) _ (a.setCell (off+i) v) (by simp;omega) (λx n=>f x (by simp [n]));refine⟨aJ,?_,?_,(cV.cells a.first (λ_ ad=>uu _ v ad)).trans k⟩
  .simp only [Go.storeCells,dW,add_lit];rw [show(Go.store ⟨b,off+i,none⟩ v).run P w= .ok () (w.setCell ⟨b,off+i,none⟩ v) from by simpa using d];exact g
  .exact h
theorem c6{t:TypeId}{x y:Operand}{z:Value}{size bytes:Nat}{o:World}{F:List Nat}{ae:List (List Chunk)}{b off:Nat}{c:Array Value}{e:TypeId}{U:Array Value}[r:cq P t z size bytes]
 (m:C o F ([(b,.cells c e (0,0))]::ae) w) (q:c0 ops Z g=some true)
 (E:bt Z x=some (.pointer (some ⟨b,off,none⟩))) (G:bt Z y=some (.agg U)) (B:U.toList.all (·.oneCell')=true) (A:U.size=size) (H:off+size<=c.size)
 (h:∀aJ,C o F ([(b,.cells (setCells c off U.toList) e (0,0))]::ae) aJ->O P n ops rest Z aJ Q):O P n ops (⟨none,.store t x y,ty,pos,after,g⟩::rest) Z w Q:=by
 obtain⟨aJ,f,k,l⟩:=C.storeCells (P:=P) (off:=off) U.toList 0 c w m (by simp;omega) (λv D=>ji.1 B v D);refine s9 (aJ:=aJ) q j (λa d=>?_) (h aJ k) l;obtain⟨i,s,_,u,_⟩:=r.parts;have p:(Value.agg U).cells=U:=rfl;simp only [execOp,d.eval E,d.eval G,Instr.storeAt,Instr.sureAddr,storeVar,p,sizeOf,typeInfo,dW,ew,dZ,lR,s,u];simp [A,f]
def cQ(aG:List UInt8):ByteArray:=⟨aG.toArray⟩
theorem mY(x y:List UInt8):(cQ x==cQ y)=decide (x=y):=by
 rw [q7,ByteArray.toList_eq,ByteArray.toList_eq];show(x==y)=_;rw [lk];simp
theorem nG{s t e:TypeId}{x:Operand}{A:Option Addr}{c:Nat}{aG:List UInt8}[aF:bC P s (.slice e)][he:bC P e (.int .u8)][l:bC P t .string]
 (m:bt Z x=some (.slice A aG.length c)) (k:Rd w A (aP aG)):
 ∀a,cN Z n.n a->(execOp a.eval ⟨dst,.convert s t x,ty,pos,after,g⟩).run P w= .ok (.value (.string (cQ aG))) w:=
 λac i=>by
  cases A with
  |none=>
   have:aG=[]:=by
    cases aG with
    |nil=>rfl
    |cons x r=>obtain⟨a,p,_⟩:=k 0 (bv x) j;cases p
   subst this;have o:=run_convert_bytes_nil (P:=P) w s e aF.h he.h 0 c t l.h;simp only [execOp,i.eval m,fW,o,dW,dZ,ew];rfl
  |some a=>
   have f:=ph (P:=P) w a (aP aG) (λR v B=>by obtain⟨b,q,u⟩:=k R v B;cases q;exact u);rw [show(aP aG).length=aG.length by simp] at f;have hm:aP aG=(aG.map λx=>(x.toNat:Int)).map (Value.int .u8):=by simp [aP,bv]
   rw [hm] at f;have d:=run_convert_bytes_string (P:=P) w s t e (some a) aG.length c aF.h he.h l.h;rw [run_bytesToString w _ aG.length c _ f,foldl_push_bytes] at d
   have z:(aG.map λx=>(x.toNat:Int)).map (λn=>UInt8.ofNat n.toNat)=aG:=by
    rw [mH]
    conv=>rhs;rw [<-List.map_id aG]
    apply tv;intro x _;simp
   have y:(⟨ByteArray.empty.data++aG.toArray⟩:ByteArray)=cQ aG:=by
    apply ByteArray.ext;apply Array.toList_inj.1;rw [tq];rfl
   rw [z,y] at d;simp only [execOp,i.eval m,d,dW,dZ,ew]
theorem vZ{s t e:TypeId}{x:Operand}{A:Option Addr}{c:Nat}{aG:List UInt8}[aF:bC P s (.slice e)][he:bC P e (.int .u8)][i:bC P t .string](b:c0 ops Z g=some true)(a:da n dst=true)
 (f:bt Z x=some (.slice A aG.length c)) (d:Rd w A (aP aG))
 (h:O P n ops rest (cK Z dst (.string (cQ aG))) w Q):O P n ops (⟨dst,.convert s t x,ty,pos,after,g⟩::rest) Z w Q:=
 dR b a (nG f d) h
theorem Ap{P:Program}{n:Nat}{Z:Env}{w:World}{dst:Option Nat}{ty:TypeId}{pos:String}{after:Array Edge}{g:Option (Nat×Bool)}{t i:TypeId}{x y:Operand}{a b:ByteArray}{c:Bool}(f:bt Z x=some (.string a))(h:bt Z y=some (.string b))(e:(a==b)=c):
 ∀ac,cN Z n ac->(execOp ac.eval ⟨dst,.binOp .eql t x y i,ty,pos,after,g⟩).run P w= .ok (.value (.bool c)) w:=λac d=>by
 subst e;simp only [execOp,d.eval f,d.eval h,dW,eqGuard_at_string,binOp_string_eql,dZ,ew,<-q7]
theorem qC{P:Program}{n:Nat}{Z:Env}{w:World}{dst:Option Nat}{ty:TypeId}{pos:String}{after:Array Edge}{g:Option (Nat×Bool)}{t f:TypeId}{x y:Operand}{xs dh:Array Value}{b:Bool}(d:bt Z x=some (.agg xs))(e:bt Z y=some (.agg dh))(hm:P.eqGuardType P.depth t=false)(c:∀w,(Op.equalIn 10000 t (.agg xs) (.agg dh)).run P w= .ok b w):
 ∀ac,cN Z n ac->(execOp ac.eval ⟨dst,.binOp .eql t x y f,ty,pos,after,g⟩).run P w= .ok (.value (.bool b)) w:=λac a=>by
 simp only [execOp,a.eval d,a.eval e,dW,run_eqGuard_agg w .eql t x y xs dh hm,dZ,run_eql_struct,c,ew]
theorem dd{P:Program}{n:Nat}{Z:Env}{w:World}{dst:Option Nat}{ty:TypeId}{pos:String}{after:Array Edge}{g:Option (Nat×Bool)}{t:TypeId}{d:TypeDesc}{x:Operand}{A:Addr}{U:List Value}{z:Value}{size bytes:Nat}[hu:bC P t d][m:cq P t z size bytes]
 (s:bt Z x=some (.pointer (some A))) (e:hR d=true) (q:U.length=size) (j:Rd w (some A) U):∀a,cN Z n a->(execOp a.eval ⟨dst,.load t x,ty,pos,after,g⟩).run P w= .ok (.value (.agg U.toArray)) w:=
 λa l=>by
  obtain⟨i,o,_,p,_⟩:=m.parts;have c:=ph (P:=P) w A U (λR v r=>by obtain⟨b,f,k⟩:=j R v r;cases f;exact k);rw [q] at c;simp [execOp,l.eval s,Instr.loadAt,Instr.sureAddr,loadVar,kd hu.h,e,sizeOf,typeInfo,o,p,c]
theorem g3.narrow{P:Program}{F:Fence}{ops:Array Oper}{a7 b:World->Prop}{Q:Exit->Act->World->Prop}(c:∀w,b w->a7 w):∀(k:Nat)(l:Array Bool)(a:Act)(w:World),g3 P F ops b Q k l a w->g3 P F ops a7 Q k l a w
 |0,_,_,_,h=>h
 |k+1,_,_,_,h=>⟨h.1,λi d=>wpOpIn_mono (λa w h=>⟨h.1.imp id (c w),g3.narrow c k _ a w h.2⟩) (h.2 i d)⟩
theorem oP{P:Program}{n:Fr}{Z:Env}{w:World}{Q:d7}{ops:Array Oper}{a7:World->Prop}{k:Nat}{l:Array Bool}(b:World->Prop)(c:∀w,b w->a7 w)(h:eM P n ops b k l Z w Q):eM P n ops a7 k l Z w Q:=λa d hm=>g3.narrow c _ _ _ _ (h a d hm)
theorem s5{P:Program}{n:Fr}{Z:Env}{w:World}{Q:d7}{ops:Array Oper}{a7:World->Prop}{k:Nat}{l:Array Bool}(d:Nat){b:Bool}(e:look Z d=some (.bool b))(g:b=true->eM P n ops a7 k l ((d,.bool true)::Z) w Q)(f:b=false->eM P n ops a7 k l ((d,.bool false)::Z) w Q):eM P n ops a7 k l Z w Q:=λa c hm=>by
 cases b with
 |true=>exact g j a (c.tell e) hm
 |false=>exact f j a (c.tell e) hm
theorem qG{P:Program}{n:Fr}{Z:Env}{w:World}{Q:d7}{ops:Array Oper}{a7:World->Prop}{k:Nat}{l:Array Bool}(d:Nat){u:Value}(v:Value)(c:look Z d=some u)(e:u=v)(h:eM P n ops a7 k l ((d,v)::Z) w Q):eM P n ops a7 k l Z w Q:=λa b hm=>
 h a (b.tell (e▸c)) hm
theorem lc{P:Program}{n:Fr}{Z:Env}{w:World}{Q:d7}{ops:Array Oper}{a7:World->Prop}{k:Nat}{l:Array Bool}(i R:Nat){f g:Oper}(p:ops[i]? =some f)(q:ops[R]? =some g)(d:Region.ready .any ops l=[i,R])
 (j:O P n ops [f] Z w (λe Z w=>match e with| .normal=>a7 w/\eM P n ops a7 k (l.setIfInBounds i true) Z w Q|_=>False))
 (o:O P n ops [g] Z w (λe Z w=>match e with| .normal=>a7 w/\eM P n ops a7 k (l.setIfInBounds R true) Z w Q|_=>False)):eM P n ops a7 (k+1) l Z w Q:=λa b c=>by
 refine⟨λh=>absurd (d▸h) (by simp),λm hm=>?_⟩;rw [d] at hm;rcases hD.1 hm with rfl|hm
 .exact s6 p j b c
 .obtain rfl:=hO.1 hm;exact s6 q o b c
theorem Gx(p q r:List Value)(h:r.length=q.length):setCells (p++q).toArray p.length r=(p++r).toArray:=by
 apply q9;intro i;rw [ov r _ _ (by simp;omega) i];simp only [mJ];split
 .rename_i b;rw [ko b.1]
 .rename_i b;by_cases a:i<p.length
  .rw [jG a,jG a]
  .rw [lh (by simp;omega),lh (by simp;omega)]
theorem AF{P:Program}{n:Nat}{Z:Env}{w:World}{dst:Option Nat}{ty:TypeId}{pos:String}{after:Array Edge}{g:Option (Nat×Bool)}{t e:TypeId}{x:Operand}{A:Addr}{m:Nat}{z:Value}{size bytes:Nat}[hu:bC P t (.array m e)][d:cq P e z size bytes]
 (j:bt Z x=some (.pointer (some A))):∀a,cN Z n a->(execOp a.eval ⟨dst,.slice t x none none none,ty,pos,after,g⟩).run P w= .ok (.value (.slice (some A) m m)) w:=
 λa c=>by
  obtain⟨i,f,_,k,_⟩:=d.parts;have b:A.add 0=A:=by simp [Addr.add]
  simp [execOp,c.eval j,Instr.sliceAt,Instr.sureAddr,Instr.sliceBounds,d9 hu.h,sizeOf,typeInfo,f,b]
theorem mW{P:Program}{w:World}{t:TypeId}{d:TypeDesc}{cs:Array Value}{off:Nat}{v:Value}(hu:P.underlying t=some d)(a:hR d=false)(b:cs[off]? =some v):(part t cs off).run P w= .ok v w:=by
 simp [part,kd hu,a,b]
theorem uc{P:Program}{w:World}{d:Nat}{xs dh:Array Value}:(Op.eqFields d xs dh []).run P w= .ok true w:=by simp [Op.eqFields]
theorem ud{P:Program}{w:World}{d:Nat}{xs dh:Array Value}{f:Field}{gw:List Field}{x y:Value}{b r:Bool}(aT:(f.name != "_")=true)(c:(part f.type xs f.offset).run P w= .ok x w)(e:(part f.type dh f.offset).run P w= .ok y w)
 (he:(Op.equalIn d f.type x y).run P w= .ok b w) (h:(Op.eqFields d xs dh gw).run P w= .ok r w):(Op.eqFields d xs dh (f::gw)).run P w= .ok (b&&r) w:=by
 have a:f.name≠ "_" :=by simpa using aT
 simp only [Op.eqFields,a,ne_eq,not_false_eq_true,ib,dW,c,e,he,dZ];cases b
 .simp
 .simpa using h
theorem j5{P:Program}{w:World}{d:Nat}{xs dh:Array Value}{f:Field}{gw:List Field}{k:IntKind}{a b:Int}{r:Bool}(aT:(f.name != "_")=true)(hu:P.underlying f.type=some (.int k))(c:xs[f.offset]? =some (.int k a))(e:dh[f.offset]? =some (.int k b))
 (h:(Op.eqFields (d+1) xs dh gw).run P w= .ok r w):(Op.eqFields (d+1) xs dh (f::gw)).run P w= .ok ((a==b)&&r) w:=
 ud aT (mW hu j c) (mW hu j e) (run_equalIn_int w d f.type k k a b hu) h
theorem C.bare{o w:World}{F:List Nat}:∀{ae:List (List Chunk)},C o F ae w->C o F [] w
 |[],h=>h
 |_::_,h=>(C.drop h).bare
theorem C.rM{o w:World}{F:List Nat}{A B:List (List Chunk)}(h:C o F (A++B) w):C o F A w:=by
 have a:C o F (B.flatten::A) w:=h.perm (by rw [gS,List.flatten_cons];exact List.perm_append_comm);exact a.drop
theorem C.f6{o w:World}{F:List Nat}{G a b c d e f:List Chunk}{ae:List (List Chunk)}(h:C o F (a::b::c::d::e::f::G::ae) w):C o F (G::a::b::c::d::e::f::ae) w:=
 h.i6 (List.perm_middle (l₁:=[a,b,c,d,e,f]))
theorem C.hS{o w:World}{F:List Nat}{A:List Chunk}{B:List (List Chunk)}(h:C o F (A::B) w):C o F [A] w:=C.rM (A:=[A]) h
theorem C.ks{o w:World}{F:List Nat}{A gP:List Chunk}{B:List (List Chunk)}(h:C o F (A::gP::B) w):C o F [A,gP] w:=C.rM (A:=[A,gP]) h
abbrev s3(P:Program)(n:Nat)(fn:Func)(ak:Value->World->Prop):d7:=λe Z w=>match e with
 | .normal=>∃v,(∀a,cN Z n a->(results fn a.tmps).run P w= .ok v w)/\ak v w
 | .ret=>∃v,(∀a,cN Z n a->(results fn a.tmps).run P w= .ok v w)/\ak v w
 |_=>False
theorem Cb{P:Program}{f:FuncId}{fn:Func}{c:Code}{l:List Value}{w:World}{ak:Value->World->Prop}{n:Nat}
 (p:P.funcs[f]? =some fn) (o:fn.body=some c) (aT:fn.ntmps=n) (q:l.length<=n)
 (h:W P {n:=n} c (jp 0 l) w (s3 P n fn ak)):Calls P f l.toArray w (m7 ak):=by
 refine callsIn_of_wp (F:=Fence.wide) p o bb ?_;refine kn (h _ (ub aT q) (Marks.nil _ _)) ?_;rintro e a aJ ⟨ad,⟨t,r,s,_,_⟩,u,m,b⟩;have k:a.defers=[]:=by rw [r,s j];rfl
 cases e with
 |normal=>obtain⟨v,g,d⟩:=b;exact⟨k,v,g _ m,ad,v,j,d⟩
 |ret=>obtain⟨v,g,d⟩:=b;exact⟨k,v,g _ m,ad,v,j,d⟩
 |exit i=>exact b.elim
 |goto l=>exact b.elim
 |panic gu=>exact b.elim
 |outgrown=>exact b.elim
theorem ds{P:Program}{n:Nat}{Z:Env}{w:World}{fn:Func}{t u ty:Nat}{A:Addr}{U:List Value}{y z:Value}{d:TypeDesc}{size bytes:Nat}[hu:bC P ty d][l:cq P ty z size bytes]
 (q:fn.results= #[.cell t ty,.tmp u]) (r:look Z t=some (.pointer (some A))) (x:look Z u=some y) (f:hR d=true) (p:U.length=size) (j:Rd w (some A) U):
 ∀a,cN Z n a->(results fn a.tmps).run P w= .ok (.tuple #[.agg U.toArray,y]) w:=λa c=>by
 obtain⟨i,m,_,o,_⟩:=l.parts;have e:=ph (P:=P) w A U (λR v s=>by obtain⟨b,g,k⟩:=j R v s;cases g;exact k);rw [p] at e;simp [results,q,c.get _ _ r,c.get _ _ x,asAddr,loadVar,kd hu.h,f,sizeOf,typeInfo,m,o,e]
end
section
variable {P:Program} {n:Fr} {Z:Env} {w:World} {Q:d7} {ops:Array Oper} {rest:List Oper}
 {dst:Option Nat} {ty:TypeId} {pos:String} {after:Array Edge} {g:Option (Nat×Bool)}
theorem oA(aG:List UInt8):(cQ aG).size=aG.length:=by simp [cQ,ByteArray.size]
theorem GX(aG:List UInt8)(i:Nat):(cQ aG)[i]? =aG[i]? :=by
 show(if h:i<(cQ aG).size then some _ else none)=_;by_cases h:i<aG.length
 .rw [mK (by rw [oA];exact h),cr h];rfl
 .rw [dif_neg (by rw [oA];exact h),lh (by omega)]
theorem Au{t:TypeId}{x y:Operand}{aG:List UInt8}{k:IntKind}{R:Nat}[e:bC P t .string](f:bt Z x=some (.string (cQ aG)))(i:bt Z y=some (.int k R))(c:R<aG.length):
 ∀a,cN Z n.n a->(execOp a.eval ⟨dst,.index t x y,ty,pos,after,g⟩).run P w= .ok (.value (bv aG[R])) w:=λa b=>by
 have d:(cQ aG)[R]? =some aG[R]:=by rw [GX,cr c]
 simp [execOp,b.eval f,b.eval i,Instr.index,asIntOf,d9 e.h,d,bv]
theorem qK{t:TypeId}{x y:Operand}{aG:List UInt8}{k:IntKind}{R:Nat}[f:bC P t .string](c:c0 ops Z g=some true)(b:da n dst=true)(d:bt Z x=some (.string (cQ aG)))(e:bt Z y=some (.int k R))(a:R<aG.length)
 (h:O P n ops rest (cK Z dst (bv aG[R])) w Q):O P n ops (⟨dst,.index t x y,ty,pos,after,g⟩::rest) Z w Q:=dR c b (Au d e a) h
theorem mv{t:TypeId}{b:Array TypeId}{args:Array Operand}{aG:List UInt8}[i:bC P t .string](f:c0 ops Z g=some true)(e:da n dst=true)(j:b= #[t])(k:fl Z args.toList=some [.string (cQ aG)])
 (h:O P n ops rest (cK Z dst (.int .i64 (aG.length:Nat))) w Q):O P n ops (⟨dst,.call ⟨.builtin .len,args,b⟩,ty,pos,after,g⟩::rest) Z w Q:=
 dR f e (λa d=>by
  subst j;have c:args.map a.eval= #[.string (cQ aG)]:=by apply fz;rw [g9,d.hf k]
  simp [execOp,resolve,invoke,builtin,c,Builtin.len_,d9 i.h,oA,goInt]) h
theorem zF(aG:List UInt8)(i R:Nat):(cQ aG).extract i R=cQ ((aG.drop i).take (R-i)):=by
 apply ByteArray.ext;apply Array.toList_inj.1;simp [cQ,ByteArray.data_extract,List.extract]
theorem AV{t:TypeId}{x y:Operand}{aG:List UInt8}{k:IntKind}{R:Nat}[c:bC P t .string](i:c0 ops Z g=some true)(f:da n dst=true)(j:bt Z x=some (.string (cQ aG)))(l:bt Z y=some (.int k R))(d:R<=aG.length)
 (h:O P n ops rest (cK Z dst (.string (cQ (aG.drop R)))) w Q):O P n ops (⟨dst,.slice t x (some y) none none,ty,pos,after,g⟩::rest) Z w Q:=
 dR i f (λa b=>by
  have e:=run_slice_string_from_if (P:=P) (w:=w) t (cQ aG) k (R:Int) c.h;simp [execOp,b.eval j,b.eval l,Instr.sliceAt,d9 c.h,e,oA,d,zF];rw [ic (by simp)]) h
theorem AW{t:TypeId}{x y:Operand}{aG:List UInt8}{k:IntKind}{R:Nat}[c:bC P t .string](i:c0 ops Z g=some true)(f:da n dst=true)(j:bt Z x=some (.string (cQ aG)))(l:bt Z y=some (.int k R))(d:R<=aG.length)
 (h:O P n ops rest (cK Z dst (.string (cQ (aG.take R)))) w Q):O P n ops (⟨dst,.slice t x none (some y) none,ty,pos,after,g⟩::rest) Z w Q:=
 dR i f (λa b=>by
  have e:=run_slice_string_to_if (P:=P) (w:=w) t (cQ aG) k (R:Int) c.h;simp [execOp,b.eval j,b.eval l,Instr.sliceAt,d9 c.h,e,oA,d,zF]) h
theorem qJ{t e:TypeId}{x y:Operand}{m:Nat}{b off R:Nat}{k:IntKind}{z:Value}{size bytes:Nat}[hu:bC P t (.array m e)][l:cq P e z size bytes](j:c0 ops Z g=some true)(f:da n dst=true)
 (q:bt Z x=some (.pointer (some ⟨b,off,none⟩))) (r:bt Z y=some (.int k R)) (d:R<m)
 (h:O P n ops rest (cK Z dst (.pointer (some ⟨b,off+R*size,none⟩))) w Q):O P n ops (⟨dst,.indexAddr t x y,ty,pos,after,g⟩::rest) Z w Q:=
 dR j f (λa c=>by
  obtain⟨i,o,_,p,_⟩:=l.parts;simp [execOp,c.eval q,c.eval r,Instr.indexAt,Instr.sureAddr,asIntOf,d9 hu.h,sizeOf,typeInfo,o,p,d,add_lit]) h
end
section
theorem hW{P:Program}{n:Nat}{Z:Env}{w:World}{fn:Func}{t ty:Nat}{A:Addr}{U:List Value}{z:Value}{d:TypeDesc}{size bytes:Nat}[hu:bC P ty d][l:cq P ty z size bytes]
 (q:fn.results= #[.cell t ty]) (r:look Z t=some (.pointer (some A))) (e:hR d=true) (p:U.length=size) (g:Rd w (some A) U):
 ∀a,cN Z n a->(results fn a.tmps).run P w= .ok (.agg U.toArray) w:=λa k=>by
 obtain⟨i,m,_,o,_⟩:=l.parts;have c:=ph (P:=P) w A U (λR v s=>by obtain⟨b,f,j⟩:=g R v s;cases f;exact j);rw [p] at c;simp [results,q,k.get _ _ r,asAddr,loadVar,kd hu.h,e,sizeOf,typeInfo,m,o,c]
variable {P:Program} {n:Fr} {Z:Env} {w:World} {Q:d7} {ops:Array Oper} {rest:List Oper}
 {dst:Option Nat} {ty:TypeId} {pos:String} {after:Array Edge} {g:Option (Nat×Bool)}
theorem Az{t i:TypeId}{x y:Operand}{a b:ByteArray}{c:Bool}(f:bt Z x=some (.string a))(h:bt Z y=some (.string b))(e:(a==b)=c):
 ∀ac,cN Z n.n ac->(execOp ac.eval ⟨dst,.binOp .neq t x y i,ty,pos,after,g⟩).run P w= .ok (.value (.bool (!c))) w:=λac d=>by
 subst e;simp only [execOp,d.eval f,d.eval h,dW,eqGuard_at_string,binOp_string_neq,dZ,ew,<-q7]
theorem vX{t k:TypeId}{x y:Operand}{a b:ByteArray}{c:Bool}(f:c0 ops Z g=some true)(e:da n dst=true)
 (i:bt Z x=some (.string a)) (j:bt Z y=some (.string b)) (d:(a==b)=c)
 (h:O P n ops rest (cK Z dst (.bool (!c))) w Q):O P n ops (⟨dst,.binOp .neq t x y k,ty,pos,after,g⟩::rest) Z w Q:=
 dR f e (Az i j d) h
theorem eX{t:TypeId}{parts:Array (Nat×Operand)}{U:List Value}{c:Array Value}
 (e:fl Z (parts.toList.map (·.2))=some U) (d:∀w,(Instr.build t ((parts.toList.map (·.1)).zip U).toArray).run P w= .ok (.agg c) w):
 ∀a,cN Z n.n a->(execOp a.eval ⟨dst,.build t parts,ty,pos,after,g⟩).run P w= .ok (.value (.agg c)) w:=λa b=>by
 have:parts.map (λ(i,x)=>(i,a.eval x))=((parts.toList.map (·.1)).zip U).toArray:=by
  apply fz;rw [<-b.hf e];simp only [g9,mH];rw [List.zip_map'];rfl
 simp only [execOp,this,dW,d,dZ,ew]
theorem C6{P:Program}{w:World}{d:Nat}{xs dh:Array Value}{f:Field}{gw:List Field}{a b:Bool}{r:Bool}(aT:(f.name != "_")=true)(hu:P.underlying f.type=some .bool)(c:xs[f.offset]? =some (.bool a))(e:dh[f.offset]? =some (.bool b))
 (h:(Op.eqFields (d+1) xs dh gw).run P w= .ok r w):(Op.eqFields (d+1) xs dh (f::gw)).run P w= .ok ((a==b)&&r) w:=
 ud aT (mW hu j c) (mW hu j e) (run_equalIn_bool hu a b w d) h
theorem Gm{P:Program}{t:TypeId}(hu:P.underlying t=some .string)(a b:ByteArray)(w:World)(d:Nat):(Op.equalIn (d+1) t (.string a) (.string b)).run P w= .ok (a==b) w:=by
 simp only [Op.equalIn,dW,d9 hu,dZ];rfl
theorem C7{P:Program}{w:World}{d:Nat}{xs dh:Array Value}{f:Field}{gw:List Field}{a b:List UInt8}{r:Bool}(aT:(f.name != "_")=true)(hu:P.underlying f.type=some .string)(c:xs[f.offset]? =some (.string (cQ a)))(e:dh[f.offset]? =some (.string (cQ b)))
 (h:(Op.eqFields (d+1) xs dh gw).run P w= .ok r w):(Op.eqFields (d+1) xs dh (f::gw)).run P w= .ok (decide (a=b)&&r) w:=by
 have he:=Gm hu (cQ a) (cQ b) w d;rw [mY] at he;exact ud aT (mW hu j c) (mW hu j e) he h
theorem AP{s t e:TypeId}{x:Operand}{aG:List UInt8}{o:World}{F:List Nat}{ae:List (List Chunk)}[aF:bC P s .string][G:bC P t (.slice e)][he:bC P e (.int .u8)](y:C o F ae w)
 (D:c0 ops Z g=some true) (B:da n dst=true) (H:bt Z x=some (.string (cQ aG)))
 (h:∀b cs c aJ,(∀i v,(aP aG)[i]? =some v->cs[0+i]? =some v)->C o F ([(b,.cells cs e (cs.size,cs.size+1))]::ae) aJ->O P n ops rest (cK Z dst (.slice (some ⟨b,0,none⟩) aG.length c)) aJ Q):O P n ops (⟨dst,.convert s t x,ty,pos,after,g⟩::rest) Z w Q:=by
 have p:=Go.Lib.run_convert_string_bytes (P:=P) w s t e (cQ aG) aF.h G.h he.h;rw [oA] at p;have l:=y.drew.alloc (.cells (Go.Lib.bytesCells w e (cQ aG)) e)
 have m:∀k:Nat,k≠w.drew.heap.size->(Go.Lib.bytesWorld w e (cQ aG)).heap[k]? =(w.drew.alloc (.cells (Go.Lib.bytesCells w e (cQ aG)) e)).heap[k]? :=λk ad=>by
  have E:¬w.heap.size=k:=λh=>ad (h▸rfl)
  simp only [Go.Lib.bytesWorld,World.freeze,Nat.succ_ne_zero,km,q2];rw [az E]
 have z:C o F ([(w.heap.size,.cells (Go.Lib.bytesCells w e (cQ aG)) e ((Go.Lib.bytesCells w e (cQ aG)).size,(Go.Lib.bytesCells w e (cQ aG)).size+1))]::ae) (Go.Lib.bytesWorld w e (cQ aG)):=
  C.k9 l j j j (by simp [Go.Lib.bytesWorld,World.freeze]) (Go.Lib.bytesWorld_at_new w e (cQ aG)) m
 refine dR D B (λa A=>?_) (h w.heap.size _ (grownCap w aG.length 0 e) _ (λi v f=>?_) z) (ad:=(cV.alloc w.drew _).trans (cV.cells l.first m))
 .simp only [execOp,A.eval H,p,dW,dZ,ew]
 .rw [fe]
  have d:i<aG.length:=by
   have:=(e8.1 f).1;simpa using this
  have q:(aP aG)[i]? =some (bv aG[i]):=wL (by simp [d]);rw [q] at f;cases f;have r:i<((cQ aG).data.map λb=>Value.int .u8 b.toNat).size:=by rw [Array.size_map];exact d
  unfold Go.Lib.bytesCells;rw [Array.getElem?_append_left r,Array.getElem?_map]
  have u:(cQ aG).data[i]? =some aG[i]:=by
   show aG.toArray[i]? =_;simp [d]
  rw [u];rfl
end
def Yields(P:Program)(l:Nat)(args:Array Value)(w:World)(ak:Bool->World->Prop):Prop:=
 ∃fn tmps assign body,(Instr.yield l args).run P w= .ok (.round l fn tmps assign body) w/\
  RoundIn Fence.wide 0 P l fn tmps assign body w (λe aJ=>cV w aJ/\∃b,e= .returned (.bool b)/\ak b aJ)
abbrev fC(l:Nat):Value:=.func (.yield l) #[] #[]
section
variable {P:Program} {n:Fr} {Z:Env} {w:World} {Q:d7} {ops:Array Oper} {rest:List Oper}
 {dst:Option Nat} {ty:TypeId} {pos:String} {after:Array Edge} {g:Option (Nat×Bool)}
theorem jD{l:Nat}{x:Operand}{m:Array TypeId}{args:Array Operand}{U:List Value}{ak:Bool->World->Prop}(s:c0 ops Z g=some true)(q:da n dst=true)
 (B:bt Z x=some (fC l)) (A:fl Z args.toList=some U) (f:Yields P l U.toArray w ak)
 (h:∀b aJ,ak b aJ->O P n ops rest (cK Z dst (.bool b)) aJ Q):O P n ops (⟨dst,.call ⟨.value x,args,m⟩,ty,pos,after,g⟩::rest) Z w Q:=λa d hm=>by
 obtain⟨fn,t,i,j,o,p⟩:=f;unfold wpListIn;rw [nm d s];simp only [ib];refine⟨λ_ _=>trivial,?_⟩;have this:args.map a.eval=U.toArray:=by apply fz;rw [g9,d.hf A]
 have z:(execOp a.eval ⟨dst,.call ⟨.value x,args,m⟩,ty,pos,after,g⟩).run P w= .ok (.round l fn t i j) w:=by
  simp only [execOp,resolve,this,d.eval B,Deferred.ofValue,invoke,dW,ew,dZ,pi,Array.append_empty,o]
 rw [nh _ _ _ (by intro c f;cases f),z,Oper.uponIn_round];refine⟨(λu=>(by cases u)),?_⟩;refine pk (show RoundIn (jC n.r) 0 P l fn t i j w _ from p) λe C⟨k,b,he,y⟩=>?_
 subst he;exact kE (λ_ _ _ v=>lift.from k v) _ _ _ (h b C y _ (d.cK q _) ((hm.fT k).put _ _))
end
def Iter{α:Type}(P:Program)(i:FuncId)(be:Array Value)(H:List (List Chunk))(h:List (List Chunk)->World->Prop)(T:List (List Chunk)->Prop)(enc:α->Array Value)(A:List α->α->Prop)(S:List α->Prop):Prop:=
 ∀(l:Nat)(e:List α->List (List Chunk)->World->Prop)(f:List (List Chunk)->World->Prop)(ae:List (List Chunk))(w:World),
  Own (H++ae) w->e [] ae w->h ae w->(∀pre ae w,e pre ae w->T ae)->
  (∀pre a c d(B:List Nat),e pre a c->C c B [] d->(∀b∈B,w.heap.size<=b/\b∉au a)->e pre a d)->
  (∀a c d(B:List Nat),f a c->C c B [] d->(∀b∈B,w.heap.size<=b/\b∉au a)->f a d)->
  (∀pre x a c,A pre x->e pre a c->Own a c->Yields P l (enc x) c (λb d=>∃g,C c (au a) g d/\(if b=true then e (pre++[x]) g d else f g d)))->
  Calls P i (#[fC l]++be) w (λ_ aJ=>∃fs,C w (au (H++ae)) (H++fs) aJ/\((∃xs,S xs/\e xs fs aJ)\/f fs aJ))
theorem cN.f0{n:Nat}:∀(l:List (Nat×Value)){Z:Env}{a:Act},cN Z n a->(∀x∈l,Nat.blt x.1 n=true)->cN (l.reverse++Z) n {tmps:=l.foldl (λt(p,v)=>t.setIfInBounds p v) a.tmps,defers:=[]}
 |[],Z,a,h,_=>⟨h.size,h.get⟩
 |(p,v)::r,Z,a,h,b=>by
  have c:cN ((p,v)::Z) n {tmps:=a.tmps.setIfInBounds p v,defers:=a.defers}:=h.put (b (p,v) (by simp)) v;have d:=cN.f0 r c (λx e=>b x (by simp [e]));simpa using d
abbrev oj(l:Nat)(rec:Loop):List Chunk:=[(l,.loop rec)]
theorem C.gg{o w:World}{F:List Nat}{H ae L:List (List Chunk)}(h:C o F (H++(ae++L)) w):Own ae w:=by
 have a:C o F (ae++(H++L)) w:=h.perm (by
  simp only [gS];rw [<-dS,<-dS];exact n3 _ ll)
 exact a.sub
theorem C.i8{o w:World}{F:List Nat}{H ae:List (List Chunk)}(h:C o F (H++ae) w):Own ae w:=by
 have a:C o F (ae++H) w:=h.perm (by simp only [gS];exact List.perm_append_comm);exact a.sub
theorem C.kC{o w:World}{F:List Nat}{ae:List (List Chunk)}(h:C o F ae w):Own ae w:=C.sub (A:=ae) (B:=[]) (by simpa using h)
theorem C.swap{o w:World}{F:List Nat}{A B:List (List Chunk)}(h:C o F (A++B) w):C o F (B++A) w:=h.perm (by simp only [gS];exact List.perm_append_comm)
theorem C.aside{o w aJ:World}{F:List Nat}{ae:List (List Chunk)}{B:List Nat}(h:C o F ae w)(k:C w B [] aJ)(e:∀b∈B,o.heap.size<=b/\b∉au ae):C o F ae aJ:=by
 refine⟨k.os.trans h.os,k.tape.trans h.tape,k.output.trans h.output,ej h.size k.size,λb f g=>?_,λc a=>?_,h.nodup,h.own,h.plain⟩
 .rw [k.fT b (tp f h.size) (λd=>by have:=(e b d).1;omega)];exact h.fT b f g
 .rw [k.fT c.1 (h.n7 a) (λd=>(e _ d).2 (nv.2 ⟨c.2,a⟩))];exact h.here c a
theorem C.putObj{o w:World}{F:List Nat}{ae:List (List Chunk)}{l:Nat}{rec nA:Loop}(h:C o F (ae++[oj l rec]) w):C o F (ae++[oj l nA]) (w.putObj l (.loop nA)):=by
 have a:C o F ([(l,.loop rec)]::ae) w:=h.i6 ll;have d:l<w.heap.size:=a.n7 (c:=(l,.loop rec)) (by simp);have b:=a.k9 (aJ:=w.putObj l (.loop nA)) (fk:=.loop nA) j j j (by simp) (World.putObj_heap_same d) (λk ad=>ra ad);exact b.i6 (ll (l₁:=[oj l nA]))
theorem C.re{o w aJ:World}{F:List Nat}{H A a7 L:List (List Chunk)}(h:C o F (H++(A++L)) w)(k:C w (au A) a7 aJ):C o F (H++(a7++L)) aJ:=by
 have p:∀X:List (List Chunk),(H++(X++L)).flatten.Perm (X++(H++L)).flatten:=λX=>by
  simp only [gS];rw [<-dS,<-dS];exact n3 _ ll
 exact((h.perm (p A)).after k).perm (p a7).symm
theorem C.xy{o w:World}{F:List Nat}{H A L:List (List Chunk)}(h:C o F (H++(A++L)) w):C o F (H++A) w:=by
 rw [<-dS] at h;have a:C o F (L.flatten::(H++A)) w:=h.perm (by rw [gS,List.flatten_cons];exact List.perm_append_comm);exact a.drop
theorem cV.loop{w:World}{l:Nat}{rec:Loop}(h:w.heap[l]? =some (.loop rec))(I:Obj):cV w (w.putObj l I):=cV.k9 h (by simp) (λk ad=>ra ad)
def l4:Exit->Option Code
 | .ret=>some .ret
 | .exit id=>some (.exit id)
 |_=>none
theorem A6{P:Program}{n:Fr}{Z:Env}{w:World}{Q:d7}{α:Type}{g:Operand}{cE:Array Tmp}{assign body:Code}{V:FuncId}{be:Array Value}[bl:Entry P V]
 {H ae:List (List Chunk)} {aD:List (List Chunk)->World->Prop} {T:List (List Chunk)->Prop} {enc:α->Array Value} {A:List α->α->Prop} {S:List α->Prop} {o:World} {F:List Nat}
 (bo:Iter P V be H aD T enc A S) (aT:n={n:=n.n,r:=none,m:=true,b:=n.b}) (bu:n.b<=w.heap.size) (ba:C o F (H++ae) w)
 (bm:bt Z g=some (.func (.func V) #[] be)) (bA:∀x,(enc x).size=cE.size) (bz:∀p∈cE,Nat.blt p n.n=true)
 (R:List α->List (List Chunk)->Prop) (X:Exit->List (List Chunk)->Prop) (a5:R [] ae) (bf:∀L aJ,C w [] [L] aJ->aD (ae++[L]) aJ) (bd:∀pre ae L,R pre ae->T (ae++[L]))
 (round:∀(l:Nat)(pre:List α)(x:α)(d:List (List Chunk))(L:List Chunk)(z:World),A pre x->R pre d->C o F (H++(d++[L])) z->
  W P {n:=n.n,r:=some l} assign ((cE.toList.zip (enc x).toList).reverse++Z) z (λe aV i=>e= .normal/\∃u,C z (au d) u i/\
   ∀(L:List Chunk)(aC:World),C o F (H++(u++[L])) aC->W P {n:=n.n,r:=some l} body aV aC (λe _ O=>∃N,C aC (au u) N O/\
    (match e with
     | .normal=>R (pre++[x]) N
     | .ret=>X .ret N
     | .exit id=>X (.exit id) N
     |_=>False))))
 (done:∀xs fs aJ,S xs->R xs fs->C o F (H++fs) aJ->Q .normal Z aJ)
 (jump:∀e fs aJ,(e= .ret\/∃id,e= .exit id)->X e fs->C o F (H++fs) aJ->Q e Z aJ):
 W P n (.rangeFunc g cE assign body) Z w Q:=λa ai bs=>by
 have bw:n.r=none:=by rw [aT]
 have bv:n.m=true:=by rw [aT]
 obtain⟨a3,aY,aZ,a0⟩:=bl.h;have a1:a3.body.isNone=false:=a0;refine wpIn_rangeFunc ?_;intro fn bF;obtain⟨rec,G⟩:∃rec:LoopState->Option Code->Loop,rec=λst f=>{state:=st,pending:=f,fn,tmps:=a.tmps,params:=cE,assign,body,defers:=w.heap.size}:=⟨_,j⟩
 have ao:C o F (H++(ae++[oj (w.heap.size+1) (rec .ready none)])) ((w.alloc (.deferred (some []))).alloc (.loop (rec .ready none))):=by
  have av:C w [] [] (w.alloc (.deferred (some []))):=⟨j,j,j,by simp,λk ad _=>pN w _ ad,by simp,by simp [au],by simp [au],by simp⟩;have q:=(ba.aO av).alloc (.loop (rec .ready none));have al:(w.alloc (.deferred (some []))).heap.size=w.heap.size+1:=by simp
  rw [al] at q;have am:C o F ([oj (w.heap.size+1) (rec .ready none)]++(H++ae)) _:=q;rw [<-dS];exact am.swap
 obtain⟨s,af⟩:∃s,(w.alloc (.deferred (some []))).alloc (.loop (rec .ready none))=s:=⟨_,j⟩;rw [af] at ao;have aL:cV w s:=by rw [<-af];exact(cV.alloc _ _).trans (cV.alloc _ _)
 have bD:o.heap.size<=s.heap.size:=ao.size
 have aE:s.heap[w.heap.size]? =some (.deferred (some [])):=by
  rw [<-af];exact(pN _ _ (by simp)).trans (heap_alloc_new w _)
 refine⟨w.heap.size+1,[oa w.heap.size],s,{target:=.fn (.func V) be,args:= #[fC (w.heap.size+1)]},s,V,#[fC (w.heap.size+1)]++be,s,?_,?_,λ_ _=>trivial,?_,(λbn=>(by cases bn)),?_⟩
 .rw [<-af,G];show(Instr.enterLoop fn a.tmps cE assign body n.r).run P w=_;rw [bw];exact run_enterLoop_outer _ _ _ _ _
 .simp only [resolve,ai.eval bm];simp [go_sem]
 .simp only [invoke,callFunc,aY,aZ,a1,dW,ew,dZ,lR,pi,Array.append_empty,if_false,Bool.false_eq_true]
 .obtain⟨L,K⟩:∃L:LoopState->Option Code->List Chunk,L=λst f=>oj (w.heap.size+1) (rec st f):=⟨_,j⟩
  have hmarks:∀aJ,aJ.heap[w.heap.size]? =some (.deferred (some []))->cV w aJ->Marks n aJ ([oa w.heap.size]++a.defers):=λaJ bi ad=>by
   obtain⟨aW,q,_,a6,an⟩:=bs;refine⟨w.heap.size::aW,by rw [q];rfl,(λh=>(by rw [bv] at h;cases h)),lT.2 ⟨λM=>?_,a6⟩,λD ah=>?_⟩
   .have:=(gq.1 (an _ M).2).1;omega
   rcases hD.1 ah with rfl|ah
   .exact⟨bu,bi⟩
   .exact⟨(an D ah).1,ad D (an D ah).2⟩
  have ap:C o F (H++(ae++[L .ready none])) s:=by rw [K];exact ao
  have a9:C w [] [L .ready none] s:=by
   have av:C w [] [] (w.alloc (.deferred (some []))):=⟨j,j,j,by simp,λk ad _=>pN w _ ad,by simp,by simp [au],by simp [au],by simp⟩;have q:=av.alloc (.loop (rec .ready none));have al:(w.alloc (.deferred (some []))).heap.size=w.heap.size+1:=by simp
   rw [al,af] at q;rw [K];exact q
  have a8:∀b∈au H,b<s.heap.size:=λb ar=>by
   obtain⟨I,bx⟩:=nv.1 ar;exact ap.n7 (c:=(b,I)) (by simp only [gS,List.mem_append];exact .inl bx)
  have aN:∀{d:List (List Chunk)}{B:List Nat},(∀b∈B,s.heap.size<=b/\b∉au d)->∀b∈B,o.heap.size<=b/\b∉au (H++d):=λac b ar=>by
   obtain⟨q,am⟩:=ac b ar;refine⟨ej bD q,λM=>?_⟩;simp only [au,gS,List.map_append,List.mem_append] at M;rcases M with M|M
   .have:=a8 b M;omega
   .exact am M
  refine li (show CallsIn (jC n.r) 0 P V _ s _ from bo (w.heap.size+1)
   (λpre fs aJ=>∃d,fs=d++[L .ready none]/\R pre d/\C o F (H++fs) aJ)
   (λfs aJ=>∃d e,fs=d++[L .done (l4 e)]/\(e= .ret\/∃id,e= .exit id)/\X e d/\C o F (H++fs) aJ)
   (ae++[L .ready none]) s ap.kC ⟨ae,j,a5,ap⟩ (bf _ _ a9) (λpre fs aJ⟨d,he,a2,_⟩=>by subst he;exact bd _ _ _ a2) ?_ ?_ ?_) ?_
  .rintro pre d z i B ⟨u,rfl,a2,aF⟩ k ac;exact⟨u,j,a2,aF.aside k (aN ac)⟩
  .rintro d z i B ⟨u,e,rfl,he,aq,aF⟩ k ac;exact⟨u,e,j,he,aq,aF.aside k (aN ac)⟩
  .rintro pre x d z a7 ⟨u,rfl,a2,aF⟩ aP
   have ax:∀{v0:World}{eJ:List Nat}{gP:List (List Chunk)}{aJ:World}{st:LoopState}{f:Option Code},C v0 eJ (gP++[L st f]) aJ->aJ.heap[w.heap.size+1]? =some (.loop (rec st f)):=λh=>by
    rw [K] at h;exact h.here (w.heap.size+1,.loop _) (by simp)
   have bq:=ax aP;have aj:=run_yield (P:=P) (args:=enc x) bq (by rw [G];exact bA x);rw [G] at aj;refine⟨fn,_,assign,body,aj,roundIn_of_wpIn (F:=Fence.wide) bb ?_⟩
   have bE:(cE.zip (enc x)).foldl (λt(p,v)=>t.setIfInBounds p v) a.tmps=(cE.toList.zip (enc x).toList).foldl (λt(p,v)=>t.setIfInBounds p v) a.tmps:=by
    rw [<-Array.foldl_toList,Array.toList_zip]
   have bj:=cN.f0 (cE.toList.zip (enc x).toList) ai (λy aj=>bz _ (by have:=(List.of_mem_zip (a:=y.1) (b:=y.2) aj).1;simpa using this));have aQ:=round (w.heap.size+1) pre x u (L .ready none) z a7 a2 aF _ bj (Marks.nil _ _);rw [<-bE] at aQ;refine kn aQ ?_;rintro e aX i ⟨Y,br,aV,bk,rfl,N,bC,bg⟩;have ak:∀{v0:World}{eJ:List Nat}{J:List (List Chunk)},C v0 eJ (J++(u++[L .ready none])) z->C v0 eJ (J++(N++[L .ready none])) i:=λh=>h.re bC
   have E:i.heap[w.heap.size+1]? =some (.loop (rec .ready none)):=ax (gP:=H++N) (by rw [dS];exact ak aF)
   have put:∀{v0:World}{eJ:List Nat}{J gP:List (List Chunk)}{aJ:World}{st sv:LoopState}{f sc:Option Code},C v0 eJ (J++(gP++[L st f])) aJ->C v0 eJ (J++(gP++[L sv sc])) (aJ.putObj (w.heap.size+1) (.loop (rec sv sc))):=λh=>by
    rw [K] at h⊢;rw [<-dS] at h⊢;exact h.putObj
   have aG:=run_beginRound (P:=P) E (by rw [G]);have bB:({rec .ready none with state:=.busy}:Loop)=rec .busy none:=by rw [G]
   rw [bB] at aG;refine⟨_,aG,?_⟩;have aS:=put (sv:=.busy) (sc:=none) (ak aF);have aK:cV i (i.putObj (w.heap.size+1) (.loop (rec .busy none))):=cV.loop E _;refine kn (bg (L .busy none) _ aS aX bk (br.fT aK)) ?_;rintro e a4 O ⟨bp,bG,bI,_,ab,aU,aa⟩
   have U:∀{v0:World}{eJ:List Nat}{J:List (List Chunk)}(st:LoopState)(f:Option Code),C v0 eJ (J++(u++[L .ready none])) z->C v0 eJ (J++(ab++[L st f])) (O.putObj (w.heap.size+1) (.loop (rec st f))):=
    λst f h=>put ((put (sv:=.busy) (sc:=none) (ak h)).re aU)
   have aM:O.heap[w.heap.size+1]? =some (.loop (rec .busy none)):=ax (gP:=H++ab) (by rw [dS];exact aS.re aU)
   have fin:∀(f:Option Code),(Instr.endRound (w.heap.size+1) f).run P O= .ok (.bool f.isNone) (O.putObj (w.heap.size+1) (.loop (rec (if f.isNone then .ready else .done) f))):=λf=>by
    have:=run_endRound (P:=P) f aM;rw [this];rw [G]
   have pR:∀st f,cV z (O.putObj (w.heap.size+1) (.loop (rec st f))):=λst f=>((Y.trans aK).trans bp).trans (cV.loop aM _)
   have ay:C z (au (u++[L .ready none])) ([]++(u++[L .ready none])) z:=aP;cases e with
   |normal=>exact⟨_,_,fin none,pR _ _,true,j,_,U .ready none ay,by rw [aR j];exact⟨ab,j,aa,U .ready none aF⟩⟩
   |ret=>exact⟨_,_,fin (some .ret),pR _ _,false,j,_,U .done (some .ret) ay,by rw [az (by decide)];exact⟨ab,.ret,j,.inl j,aa,U .done (some .ret) aF⟩⟩
   |exit id=>exact⟨_,_,fin (some (.exit id)),pR _ _,false,j,_,U .done (some (.exit id)) ay,by rw [az (by decide)];exact⟨ab,.exit id,j,.inr ⟨id,j⟩,aa,U .done (some (.exit id)) aF⟩⟩
   |goto t=>exact aa.elim
   |panic gu=>exact aa.elim
   |outgrown=>exact aa.elim
  .rintro e i ⟨Y,v,rfl,fs,bH,bh⟩;have aI:cN Z n.n ({a with defers:=[oa w.heap.size]++a.defers}:Act):=⟨ai.size,ai.get⟩;rcases bh with⟨xs,bc,d,rfl,a2,aF⟩|⟨d,e,rfl,he,aq,aF⟩
   .have E:i.heap[w.heap.size+1]? =some (.loop (rec .ready none)):=by
     rw [K] at aF;exact aF.here (w.heap.size+1,.loop _) (by simp)
    have aw:=run_endLoop (P:=P) E (by rw [G];simp)
    have aB:C o F (H++d) (i.putObj (w.heap.size+1) (.loop {rec .ready none with state:=.exhausted})):=by
     rw [K,<-dS] at aF;have q:=aF.putObj (nA:={rec .ready none with state:=.exhausted});rw [dS] at q;exact q.xy
    have ag:cV w (i.putObj (w.heap.size+1) (.loop {rec .ready none with state:=.exhausted})):=(aL.trans Y).trans (cV.loop E _);have aA:(rec .ready none).pending=none:=by rw [G]
    refine⟨none,_,aw.trans (congrArg (λp=>Result.ok p _) aA),?_⟩;exact⟨ag,hmarks _ (((Y.trans (cV.loop E _))) _ aE) ag,Z,aI,done xs d _ bc a2 aB⟩
   .have E:i.heap[w.heap.size+1]? =some (.loop (rec .done (l4 e))):=by
     rw [K] at aF;exact aF.here (w.heap.size+1,.loop _) (by simp)
    have aw:=run_endLoop (P:=P) E (by rw [G];simp)
    have aB:C o F (H++d) (i.putObj (w.heap.size+1) (.loop {rec .done (l4 e) with state:=.exhausted})):=by
     rw [K,<-dS] at aF;have q:=aF.putObj (nA:={rec .done (l4 e) with state:=.exhausted});rw [dS] at q;exact q.xy
    have ag:cV w (i.putObj (w.heap.size+1) (.loop {rec .done (l4 e) with state:=.exhausted})):=(aL.trans Y).trans (cV.loop E _)
    have aH:(lift n w Q) e {a with defers:=[oa w.heap.size]++a.defers} (i.putObj (w.heap.size+1) (.loop {rec .done (l4 e) with state:=.exhausted})):=
     ⟨ag,hmarks _ (((Y.trans (cV.loop E _))) _ aE) ag,Z,aI,jump e d _ he aq aB⟩
    have aA:(rec .done (l4 e)).pending=l4 e:=by rw [G]
    refine⟨l4 e,_,aw.trans (congrArg (λp=>Result.ok p _) aA),?_⟩;rcases he with rfl|⟨id,rfl⟩
    .exact wpIn_ret aH
    .exact wpIn_exit aH
def jf(B:Nat)(w aJ:World):Prop:=aJ.os=w.os/\aJ.tape=w.tape/\aJ.output=w.output/\aJ.heap.size=w.heap.size/\∀k:Nat,aJ.heap[k]? =w.heap[k]?\/(B<=k/\w.heap[k]? =some (.deferred (some [])))
theorem jf.refl(B:Nat)(w:World):jf B w w:=⟨j,j,j,j,λ_=>.inl j⟩
theorem jf.step{B:Nat}{w aJ:World}{D:Nat}(h:jf B w aJ)(g:B<=D)(i:aJ.heap[D]? =some (.deferred (some []))):jf B w (aJ.putObj D (.deferred none)):=by
 obtain⟨c,d,e,f,b⟩:=h;refine⟨c,d,e,by simpa using f,λk=>?_⟩;by_cases ad:k=D
 .subst ad;rcases b k with a|a
  .exact .inr ⟨g,a▸i⟩
  .exact .inr a
 .rw [ra ad];exact b k
theorem jf.st{o w aJ:World}{F:List Nat}{ae:List (List Chunk)}{B:Nat}(s:jf B w aJ)(h:C o F ae w)(l:o.heap.size<=B):C o F ae aJ:=by
 obtain⟨e,f,g,i,d⟩:=s;refine⟨e.trans h.os,f.trans h.tape,g.trans h.output,by rw [i];exact h.size,λk ad j=>?_,λc b=>?_,h.nodup,h.own,h.plain⟩
 .rcases d k with a|⟨a,_⟩
  .rw [a];exact h.fT k ad j
  .omega
 .rcases d c.1 with a|⟨_,a⟩
  .rw [a];exact h.here c b
  .rw [h.here c b] at a;exact absurd (hn a) (h.plain c b)
theorem jf.pR{o w aJ:World}(s:jf o.heap.size w aJ)(h:cV o w):cV o aJ:=λD b=>by
 rcases s.2.2.2.2 D with a|⟨a,_⟩
 .rw [a];exact h D b
 .have:=(gq.1 b).1;omega
abbrev s4(P:Program)(n:Nat)(fn:Func)(B:Nat)(ak:Value->World->Prop):d7:=λe Z w=>match e with
 | .normal=>∃v,∀aJ,jf B w aJ->(∀a,cN Z n a->(results fn a.tmps).run P aJ= .ok v aJ)/\ak v aJ
 | .ret=>∃v,∀aJ,jf B w aJ->(∀a,cN Z n a->(results fn a.tmps).run P aJ= .ok v aJ)/\ak v aJ
 |_=>False
theorem x3{P:Program}{fn:Func}{tmps:Array Value}{ak:Ending->World->Prop}{B:Nat}{w:World}{v:Value}:∀(a:List Nat)(b:World),jf B w b->(∀D∈a,B<=D)->a.Nodup->(∀D∈a,b.heap[D]? =some (.deferred (some [])))->
 (∀aJ,jf B w aJ->(results fn tmps).run P aJ= .ok v aJ/\ak (.returned v) aJ)->LeavesInM Fence.wide 0 P fn tmps ak (a.map oa) .returning b
 |[],b,s,_,_,_,h=>⟨v,h b s⟩
 |D::a,b,s,e,g,d,h=>by
  refine⟨by simp,.inl ⟨D,_,j,run_takeDeferred (d D (by simp)),?_⟩⟩;have f:=lT.1 g;exact x3 a _ (s.step (e D (by simp)) (d D (by simp))) (λE c=>e E (by simp [c])) f.2 (λE c=>by rw [ra (λhe=>by subst he;exact f.1 c)];exact d E (by simp [c])) h
theorem Cc{P:Program}{f:FuncId}{fn:Func}{c:Code}{l:List Value}{w:World}{ak:Value->World->Prop}{n:Nat}
 (t:P.funcs[f]? =some fn) (r:fn.body=some c) (aT:fn.ntmps=n) (u:l.length<=n)
 (h:W P {n:=n,m:=true,b:=w.heap.size} c (jp 0 l) w (s4 P n fn w.heap.size ak)):Calls P f l.toArray w ak:=by
 refine callsIn_of_wp_marks (F:=Fence.wide) t r bb ?_;refine kn (h _ (ub aT u) (Marks.nil _ _)) ?_;rintro e a aJ ⟨ad,⟨q,x,_,y,o⟩,A,z,g⟩
 have key:(∃v,∀d,jf w.heap.size aJ d->(∀a,cN A n a->(results fn a.tmps).run P d= .ok v d)/\ak v d)->LeavesInM Fence.wide 0 P fn a.tmps (λe aJ=>cV w aJ/\∃v,e= .returned v/\ak v aJ) a.defers .returning aJ:=λ⟨v,p⟩=>by
  rw [x];exact x3 (B:=w.heap.size) (w:=aJ) (v:=v) q aJ (jf.refl _ _) (λD k=>(o D k).1) y (λD k=>(o D k).2) (λd s=>⟨(p d s).1 a z,s.pR ad,v,j,(p d s).2⟩)
 cases e with
 |normal=>exact key g
 |ret=>exact key g
 |exit i=>exact g.elim
 |goto l=>exact g.elim
 |panic gu=>exact g.elim
 |outgrown=>exact g.elim
end Go.Proofs.YtmholjbhjcpkhaaGreatDoor.R
namespace Go.Proofs.YtmholjbhjcpkhaaGreatDoor.R
open Go.Proofs.Tryz Go Go.RowKit
open Go.MapKept (Stamped)
class Keys{cz:Type}(P:Program)(cX:TypeId)(key:cz->Value):Prop where
 inj:∀a b,key a=key b->a=b
 check:∀(w:World)(em:Bool)k,(Instr.checkKey em 10000 cX (key k)).run P w= .ok () w
 find:∀(w:World)k(es:List MapEntry),(∀e∈es,∃R,e.key=key R)->
  ((Instr.findKey cX (key k) es).run P w= .ok none w/\∀e∈es,e.key≠key k)\/∃(R:Nat)(e:MapEntry),(Instr.findKey cX (key k) es).run P w= .ok (some (R,e.val)) w/\es[R]? =some e/\e.key=key k
 stays:∀(w:World)k,(Instr.keyThatStays (key k) (key k)).run P w= .ok (key k) w
abbrev bG(n:Int):Value:=.int .i64 n
instance {P:Program}{cX:TypeId}[hu:bC P cX (.int .i64)]:Keys P cX bG where
 inj:=λa b h=>by cases h;rfl
 check:=λw em k=>MapKept.run_checkKey hu.h (show MapKept.IsKey (.int .i64) (bG k) from j) em 9999
 find:=λw k es h=>by
  have ad:MapKept.IsKey (.int .i64) (bG k):=rfl;rcases MapKept.findNow_spec ad es 0 (λx i=>by obtain⟨R,g⟩:=h x i;rw [g];rfl) with⟨c,d⟩|⟨R,e,c,d,f⟩
  .exact .inl ⟨MapKept.run_findKey hu.h c,d⟩
  .exact .inr ⟨R,e,by rw [fe] at c;exact MapKept.run_findKey hu.h c,d,f⟩
 stays:=λw k=>by
  have ad:MapKept.IsKey (.int .i64) (bG k):=rfl;simp [Instr.keyThatStays,MapKept.sameBits_self ad]
section
variable {cz:Type} [DecidableEq cz]
def aV{β:Type}:List (cz×β)->cz->Option β
 |[],_=>none
 |(R,v)::r,k=>if R=k then some v else aV r k
def bV{β:Type}:List (cz×β)->cz->β->List (cz×β)
 |[],k,v=>[(k,v)]
 |(R,u)::r,k,v=>if R=k then(k,v)::r else(R,u)::bV r k v
def fU{β:Type}:List (cz×β)->cz->List (cz×β)
 |[],_=>[]
 |(R,u)::r,k=>if R=k then r else(R,u)::fU r k
end
def cf{cz:Type}(key:cz->Value)(I:Obj)(m:List (cz×Value)):Prop:=
 ∃es clock,I= .map es clock/\Stamped es clock/\es.toList.map (λe=>(e.key,e.val))=m.map λp=>(key p.1,p.2)
section
variable {cz:Type} [DecidableEq cz] {key:cz->Value} {P:Program} {cX:TypeId}
theorem cf.new:cf key (.map #[] 0) ([]:List (cz×Value)):=⟨#[],0,j,MapKept.stamped_empty 0,j⟩
theorem cf.uZ{I:Obj}{m:List (cz×Value)}(h:cf key I m):I≠Obj.deferred (some []):=by obtain⟨es,c,rfl,_⟩:=h;simp
theorem cf.nodup [ad:Keys P cX key]{I:Obj}{m:List (cz×Value)}(h:cf key I m):(m.map (·.1)).Nodup:=by
 obtain⟨es,clock,rfl,⟨_,_,c⟩,d⟩:=h
 have e:es.toList.map (·.key)=(m.map (·.1)).map key:=by
  have:=aK (List.map Prod.fst) d;simpa [mH,Function.comp_def] using this
 rw [e] at c;exact List.Pairwise.of_map key (λa b f he=>f (he▸rfl)) c
theorem nw{β:Type}:∀(m:List (cz×β))(k:cz),(aV m k=none/\∀p∈m,p.1≠k)\/∃(R:Nat)(v:β),aV m k=some v/\m[R]? =some (k,v)/\∀(i:Nat)p,i<R->m[i]? =some p->p.1≠k
 |[],k=>.inl ⟨j,by simp⟩
 |(R,v)::r,k=>by
  by_cases h:R=k
  .subst h;exact .inr ⟨0,v,by simp [aV],j,by intro i p g;omega⟩
  .rcases nw r k with⟨c,d⟩|⟨i,u,c,d,e⟩
   .exact .inl ⟨by simp [aV,h,c],by intro p b;cases b with|head=>exact h|tail _ b=>exact d p b⟩
   .refine .inr ⟨i+1,u,by simp [aV,h,c],by simpa using d,λa p f b=>?_⟩;cases a with
    |zero=>simp at b;subst b;exact h
    |succ a=>exact e a p (by omega) (by simpa using b)
theorem cf.find [ad:Keys P cX key]{es:Array MapEntry}{clock:Nat}{m:List (cz×Value)}(h:cf key (.map es clock) m)(k:cz)(w:World):
 ((Instr.findKey cX (key k) es.toList).run P w= .ok none w/\aV m k=none/\(∀e∈es.toList,e.key≠key k)/\∀p∈m,p.1≠k)\/
 ∃(R:Nat)(e:MapEntry),(Instr.findKey cX (key k) es.toList).run P w= .ok (some (R,e.val)) w/\aV m k=some e.val/\es[R]? =some e/\e.key=key k/\m[R]? =some (k,e.val):=by
 obtain⟨J,H,he,aF,hm⟩:=h;cases he
 have D:∀e∈es.toList,∃R,e.key=key R:=λe he=>by
  have:(e.key,e.val)∈es.toList.map (λe=>(e.key,e.val)):=ee.2 ⟨e,he,j⟩;rw [hm] at this;obtain⟨p,_,b⟩:=ee.1 this;exact⟨p.1,by simpa using(congrArg Prod.fst b).symm⟩
 have x:∀(R:Nat)(e:MapEntry),es.toList[R]? =some e->∃p,m[R]? =some p/\e.key=key p.1/\e.val=p.2:=λR e he=>by
  have a:(es.toList.map (λe=>(e.key,e.val)))[R]? =some (e.key,e.val):=by simp only [gR,he,Option.map_some]
  rw [hm,gR] at a;cases b:m[R]? with
  |none=>simp [b] at a
  |some p=>simp [b] at a;exact⟨p,j,a.1.symm,a.2.symm⟩
 have s:∀(R:Nat)p,m[R]? =some p->∃e,es.toList[R]? =some e/\e.key=key p.1/\e.val=p.2:=λR p b=>by
  have a:(m.map (λp=>(key p.1,p.2)))[R]? =some (key p.1,p.2):=by simp only [gR,b,Option.map_some]
  rw [<-hm,gR] at a;cases he:es.toList[R]? with
  |none=>simp [he] at a
  |some e=>simp [he] at a;exact⟨e,j,a.1,a.2⟩
 rcases ad.find w k es.toList D with⟨a,d⟩|⟨R,e,a,d,o⟩
 .refine .inl ⟨a,?_,d,?_⟩
  .rcases nw m k with⟨l,_⟩|⟨i,v,_,c,_⟩
   .exact l
   .obtain⟨e,he,n,_⟩:=s i _ c;exact absurd n (d e (ia he))
  .intro p b f;obtain⟨i,z⟩:=nL b;obtain⟨e,he,n,_⟩:=s i p z;exact d e (ia he) (f▸n)
 .obtain⟨p,g,G,t⟩:=x R e d;have f:p.1=k:=ad.inj _ _ (G.symm.trans o);refine .inr ⟨R,e,a,?_,by simpa using d,o,by rw [g,<-f,t]⟩;have F:(m.map (·.1)).Nodup:=cf.nodup (P:=P) (cX:=cX) (key:=key) (I:=.map es clock) ⟨es,clock,j,aF,hm⟩;rcases nw m k with⟨_,c⟩|⟨i,v,l,c,u⟩
  .exact absurd f (c p (ia g))
  .have A:i=R:=by
    rcases q8 i R with E|heq|y
    .exfalso;have q:(m.map (·.1))[i]? =some k:=by rw [gR,c];rfl
     have r:(m.map (·.1))[R]? =some k:=by rw [gR,g,<-f];rfl
     have B:i<(m.map (·.1)).length:=(e8.1 q).1;have C:R<(m.map (·.1)).length:=(e8.1 r).1;have:=(nM.1 F) i R B C E;rw [(e8.1 q).2,(e8.1 r).2] at this;exact this j
    .exact heq
    .exact absurd f (u R p y g)
   subst A;rw [g] at c;cases c;rw [l,t]
theorem uR{β:Type}:∀(m:List (cz×β))(k:cz)(v:β),(∀p∈m,p.1≠k)->bV m k v=m++[(k,v)]
 |[],_,_,_=>rfl
 |(R,u)::r,k,v,h=>by
  have a:R≠k:=h (R,u) (by simp);simp [bV,a,uR r k v (λp b=>h p (by simp [b]))]
theorem yo{β:Type}:∀(m:List (cz×β))(k:cz)(v:β)(R:Nat)(u:β),(m.map (·.1)).Nodup->m[R]? =some (k,u)->bV m k v=m.set R (k,v)
 |[],_,_,R,_,_,h=>by simp at h
 |(i,x)::r,k,v,0,u,_,h=>by simp at h;simp [bV,h.1]
 |(i,x)::r,k,v,R+1,u,aT,h=>by
  have b:=lT.1 (by simpa using aT:(i::r.map (·.1)).Nodup);have a:r[R]? =some (k,u):=by simpa using h
  have c:i≠k:=λe=>b.1 (by rw [e];exact ee.2 ⟨_,ia a,j⟩)
  simp [bV,c,yo r k v R u b.2 a]
theorem uJ{β:Type}:∀(m:List (cz×β))(k:cz),(∀p∈m,p.1≠k)->fU m k=m
 |[],_,_=>rfl
 |(R,u)::r,k,h=>by
  have a:R≠k:=h (R,u) (by simp);simp [fU,a,uJ r k (λp b=>h p (by simp [b]))]
theorem yg{β:Type}:∀(m:List (cz×β))(k:cz)(R:Nat)(u:β),(m.map (·.1)).Nodup->m[R]? =some (k,u)->fU m k=m.eraseIdx R
 |[],_,R,_,_,h=>by simp at h
 |(i,x)::r,k,0,u,_,h=>by simp at h;simp [fU,h.1]
 |(i,x)::r,k,R+1,u,aT,h=>by
  have b:=lT.1 (by simpa using aT:(i::r.map (·.1)).Nodup);have a:r[R]? =some (k,u):=by simpa using h
  have c:i≠k:=λe=>b.1 (by rw [e];exact ee.2 ⟨_,ia a,j⟩)
  simp [fU,c,yg r k R u b.2 a]
theorem cf.update [ad:Keys P cX key]{es:Array MapEntry}{clock:Nat}{m:List (cz×Value)}(h:cf key (.map es clock) m)(k:cz)(v:Value)(w:World){b:Nat}{mt eH:TypeId}(hu:P.underlying mt=some (.map cX eH))(d:w.heap[b]? =some (.map es clock)):
 ∃fk,(Instr.mapUpdate mt (.map (some b)) (key k) v).run P w= .ok () {w with heap:=w.heap.setIfInBounds b fk}/\cf key fk (bV m k v):=by
 rcases h.find (P:=P) (cX:=cX) k w with⟨f,_,a,c⟩|⟨R,e,f,_,a,c,g⟩
 .obtain⟨r,q,he,aF,hm⟩:=h;cases he;refine⟨_,?_,es.push {key:=key k,val:=v,born:=clock},clock+1,j,MapKept.stamped_push aF a,?_⟩
  .simp only [Instr.mapUpdate,dW,d9 hu,mC d,ad.check,f,dZ,qP _ d]
  .rw [uR m k v c];simp [hm]
 .have u:=cf.nodup (P:=P) (cX:=cX) h;obtain⟨r,q,he,aF,hm⟩:=h;cases he;have s:((es[R]?).map (·.key)).getD (key k)=key k:=by simp [a,c]
  refine⟨_,?_,es.modify R (λe=>{e with key:=key k,val:=v}),clock,j,MapKept.stamped_modify aF _ _ (λ_ _=>rfl) (λhc _ n=>by rw [a] at n;cases n;exact c.symm),?_⟩
  .simp only [Instr.mapUpdate,dW,d9 hu,mC d,ad.check,f,dZ,s,ad.stays,qP _ d]
  .rw [yo m k v R e.val u g];apply nN;intro i;have p:=aK (λl=>l[i]?) hm;simp only [gR,o2,q2,List.getElem?_set] at p⊢;by_cases o:R=i
   .subst o;have t:R<m.length:=(e8.1 g).1;simp [a,t]
   .simp [o,p]
theorem cf.erase [ad:Keys P cX key]{es:Array MapEntry}{clock:Nat}{m:List (cz×Value)}(h:cf key (.map es clock) m)(k:cz)(w:World){b:Nat}{mt eH:TypeId}{tK:Array TypeId}{ty:TypeId}(i:tK[0]? =some mt)(hu:P.underlying mt=some (.map cX eH))(a:w.heap[b]? =some (.map es clock)):
 ∃fk,(Builtin.delete_ tK ty #[.map (some b),key k]).run P w= .ok (.tuple #[]) {w with heap:=w.heap.setIfInBounds b fk}/\cf key fk (fU m k):=by
 rcases h.find (P:=P) (cX:=cX) k w with⟨c,_,d,g⟩|⟨R,e,c,_,d,g,q⟩
 .obtain⟨o,n,he,aF,hm⟩:=h;cases he;refine⟨_,?_,es,clock,j,aF,by rw [uJ m k g];exact hm⟩;simp [Builtin.delete_,i,d9 hu,mC a,ad.check,c,qP _ a,Result.andThen]
 .have t:=cf.nodup (P:=P) (cX:=cX) h;obtain⟨o,n,he,aF,hm⟩:=h;cases he;refine⟨_,?_,es.eraseIdxIfInBounds R,clock,j,MapKept.stamped_erase aF R,?_⟩
  .simp [Builtin.delete_,i,d9 hu,mC a,ad.check,c,qP _ a,Result.andThen]
  .have s:R<es.size:=(gq.1 d).1;rw [yg m k R e.val t q,Array.eraseIdxIfInBounds,mK s,Array.toList_eraseIdx,List.v hm]
where
 List.v {es:List MapEntry} {m:List (cz×Value)} {R:Nat} (hm:es.map (λe=>(e.key,e.val))=m.map λp=>(key p.1,p.2)):(es.eraseIdx R).map (λe=>(e.key,e.val))=(m.eraseIdx R).map λp=>(key p.1,p.2):=by
  have e:∀{α β:Type}(f:α->β)(l:List α)(R:Nat),(l.eraseIdx R).map f=(l.map f).eraseIdx R:=by
   intro α β f l;induction l with
   |nil=>intro R;rfl
   |cons x r u=>intro R;cases R with|zero=>rfl|succ R=>simp [List.eraseIdx,u]
  rw [e,hm,e]
end
theorem C.map{o w:World}{F:List Nat}{ae:List (List Chunk)}{b:Nat}{I fk:Obj}(h:C o F ([(b,I)]::ae) w)(a:fk≠Obj.deferred (some [])):C o F ([(b,fk)]::ae) {w with heap:=w.heap.setIfInBounds b fk}:=
 h.k9 j j j (by simp) (o3 h.first).1 (o3 h.first).2 a
section
variable {P:Program} {n:Fr} {Z:Env} {w:World} {Q:d7} {ops:Array Oper} {rest:List Oper}
 {dst:Option Nat} {ty:TypeId} {pos:String} {after:Array Edge} {g:Option (Nat×Bool)}
variable {cz:Type} [DecidableEq cz] {key:cz->Value} {o:World} {F:List Nat} {ae:List (List Chunk)} {b:Nat} {I:Obj} {m:List (cz×Value)}
theorem jd{t:TypeId}{c:Option Operand}(i:c=none)(d:C o F ae w)(f:c0 ops Z g=some true)(e:da n dst=true)
 (h:∀b aJ,C o F ([(b,.map #[] 0)]::ae) aJ->O P n ops rest (cK Z dst (.map (some b))) aJ Q):O P n ops (⟨dst,.makeMap t c,ty,pos,after,g⟩::rest) Z w Q:=by
 subst i;refine dR f e (λa j=>?_) (h w.heap.size _ (d.alloc _)) (ad:=cV.alloc _ _);simp [execOp,Instr.makeMap,Result.andThen]
theorem Gr{P:Program}{t cX eH:TypeId}{z:Value}{size bytes:Nat}[hu:bC P t (.map cX eH)][ad:Keys P cX key][g:cq P eH z size bytes](hm:cf key I m)(f:w.heap[b]? =some I)(k:cz)(c:Bool):
 (Instr.lookup t (.map (some b)) (key k) c).run P w= .ok (if c then .tuple #[(aV m k).getD z,.bool (aV m k).isSome] else(aV m k).getD z) w:=by
 obtain⟨es,clock,rfl,aF,o⟩:=hm;obtain⟨i,l,n,_⟩:=g.parts;rcases(show cf key (.map es clock) m from⟨es,clock,j,aF,o⟩).find (P:=P) (cX:=cX) k w with⟨a,d,_,_⟩|⟨R,e,a,d,_⟩
 .simp only [Instr.lookup,dW,d9 hu.h,dZ,mC f,ew,ad.check,a,d,zeroValue,typeInfo,lR,l,n,qQ,qR]
 .simp only [Instr.lookup,dW,d9 hu.h,dZ,mC f,ew,ad.check,a,d,lO,nO]
theorem vI{t cX eH:TypeId}{x y:Operand}{z:Value}{size bytes:Nat}[hu:bC P t (.map cX eH)][ad:Keys P cX key][i:cq P eH z size bytes](hm:cf key I m)(e:w.heap[b]? =some I){k:cz}{c:Bool}(f:bt Z x=some (.map (some b)))(h:bt Z y=some (key k)):
 ∀a,cN Z n.n a->(execOp a.eval ⟨dst,.lookup t x y c,ty,pos,after,g⟩).run P w= .ok (.value (if c then .tuple #[(aV m k).getD z,.bool (aV m k).isSome] else(aV m k).getD z)) w:=λa d=>by
 simp only [execOp,d.eval f,d.eval h,dW,Gr hm e k c,dZ,ew]
theorem je{t cX eH:TypeId}{x y u:Operand}{v:Value}[hu:bC P t (.map cX eH)][ad:Keys P cX key](hm:cf key I m)(c:C o F ([(b,I)]::ae) w){k:cz}
 (l:c0 ops Z g=some true) (q:bt Z x=some (.map (some b))) (r:bt Z y=some (key k)) (p:bt Z u=some v)
 (h:∀fk aJ,cf key fk (bV m k v)->C o F ([(b,fk)]::ae) aJ->O P n ops rest Z aJ Q):O P n ops (⟨none,.mapUpdate t x y u,ty,pos,after,g⟩::rest) Z w Q:=by
 obtain⟨es,clock,rfl,aF⟩:=hm;obtain⟨fk,f,e⟩:=(show cf key (.map es clock) m from⟨es,clock,j,aF⟩).update k v w hu.h c.first;have i:=c.map e.uZ;refine s9 (aJ:=_) l j (λa d=>?_) (h fk _ e i) (cV.k9 c.first (by simp) (o3 c.first).2);simp only [execOp,d.eval q,d.eval r,d.eval p,dW,f,dZ,ew]
theorem vS{cX eH t:TypeId}{d:Array TypeId}{args:Array Operand}[hu:bC P t (.map cX eH)][ad:Keys P cX key](hm:cf key I m)(c:C o F ([(b,I)]::ae) w){k:cz}(r:d[0]? =some t)
 (q:c0 ops Z g=some true) (p:da n dst=true) (s:fl Z args.toList=some [.map (some b),key k])
 (h:∀fk aJ,cf key fk (fU m k)->C o F ([(b,fk)]::ae) aJ->O P n ops rest (cK Z dst (.tuple #[])) aJ Q):O P n ops (⟨dst,.call ⟨.builtin .delete,args,d⟩,ty,pos,after,g⟩::rest) Z w Q:=by
 obtain⟨es,clock,rfl,aF⟩:=hm;obtain⟨fk,f,e⟩:=(show cf key (.map es clock) m from⟨es,clock,j,aF⟩).erase (tK:=d) (ty:=ty) k w r hu.h c.first;have i:=c.map e.uZ;refine dR q p (λa l=>?_) (h fk _ e i) (ad:=cV.k9 c.first (by simp) (o3 c.first).2);have:args.map a.eval= #[.map (some b),key k]:=by apply fz;rw [g9,l.hf s]
 simp only [execOp,resolve,invoke,builtin,dW,ew,dZ,this,f]
theorem Aw{cX eH t:TypeId}{c:Array TypeId}{args:Array Operand}[hu:bC P t (.map cX eH)](hm:cf key I m)(f:w.heap[b]? =some I)(j:c= #[t])
 (k:fl Z args.toList=some [.map (some b)]):∀a,cN Z n.n a->(execOp a.eval ⟨dst,.call ⟨.builtin .len,args,c⟩,ty,pos,after,g⟩).run P w= .ok (.value (.int .i64 m.length)) w:=λa d=>by
 subst j;obtain⟨es,clock,rfl,aF,i⟩:=hm;have e:es.size=m.length:=by have:=aK List.length i;simpa using this
 have:args.map a.eval= #[.map (some b)]:=by apply fz;rw [g9,d.hf k]
 simp only [execOp,resolve,invoke,builtin,dW,ew,dZ,this];simp [Builtin.len_,d9 hu.h,mC f,Result.andThen,e,goInt]
theorem s7{cX eH t:TypeId}{a:Array TypeId}{args:Array Operand}[hu:bC P t (.map cX eH)](hm:cf key I m)(c:w.heap[b]? =some I)(f:a= #[t])(e:c0 ops Z g=some true)(d:da n dst=true)
 (i:fl Z args.toList=some [.map (some b)]) (h:O P n ops rest (cK Z dst (.int .i64 m.length)) w Q):O P n ops (⟨dst,.call ⟨.builtin .len,args,a⟩,ty,pos,after,g⟩::rest) Z w Q:=
 dR e d (Aw hm c f i) h
theorem gI{f:FuncId}{aG cs:Array Operand}{xs dh:List Value}(i:c0 ops Z g=some true)(e:da n dst=true)(j:fl Z aG.toList=some xs)(k:fl Z cs.toList=some dh)
 (h:O P n ops rest (cK Z dst (.func (.func f) xs.toArray dh.toArray)) w Q):O P n ops (⟨dst,.makeFunc (.func f) aG cs,ty,pos,after,g⟩::rest) Z w Q:=
 dR i e (λa b=>by
  have c:aG.map a.eval=xs.toArray:=by apply fz;rw [g9,b.hf j]
  have d:cs.map a.eval=dh.toArray:=by apply fz;rw [g9,b.hf k]
  simp [execOp,c,d,Instr.makeFunc,Act.eval,Result.andThen]) h
end
def lL{cz:Type}(key:cz->Value)(b:Nat)(I:Obj)(m:List (cz×Value))(pre:List cz)(it:Obj):Prop:=
 ∃es clock since seen,I= .map es clock/\it= .mapIter (some b) since seen clock/\(∀x∈es.toList,x.born<since)/\since<=clock/\(es.toList.map (·.born)).Nodup/\
  es.toList.map (λe=>(e.key,e.val))=(m.map λp=>(key p.1,p.2))/\(m.map (·.1)).Nodup/\
  ∃L:List MapEntry,seen.toList=L.map (·.born)/\(∀e∈L,e∈es.toList)/\L.map (·.key)=pre.map key
section
variable {cz:Type} [DecidableEq cz] {key:cz->Value} {P:Program} {cX:TypeId}
theorem p5:∀{l pre:List cz},l.Nodup->pre.Nodup->(∀k∈pre,k∈l)->(∀k∈l,k∈pre)->pre.Perm l:=λb c d e=>
 (List.perm_ext_iff_of_nodup c b).2 λa=>⟨d a,e a⟩
end
section
variable {P:Program} {n:Fr} {Z:Env} {w:World} {Q:d7} {ops:Array Oper} {rest:List Oper}
 {dst:Option Nat} {ty:TypeId} {pos:String} {after:Array Edge} {g:Option (Nat×Bool)}
variable {cz:Type} [DecidableEq cz] {key:cz->Value} {o:World} {F:List Nat} {ae:List (List Chunk)} {b r:Nat} {I it:Obj} {m:List (cz×Value)} {pre:List cz}
theorem oZ{t cX eH:TypeId}{x:Operand}[hu:bC P t (.map cX eH)][ad:Keys P cX key](hm:cf key I m)(e:w.heap[b]? =some I)(c:C o F ae w)(i:c0 ops Z g=some true)(f:da n dst=true)(p:bt Z x=some (.map (some b)))
 (h:∀r it aJ,lL key b I m [] it->C o F ([(r,it)]::ae) aJ->O P n ops rest (cK Z dst (.pointer (some ⟨r,0,none⟩))) aJ Q):O P n ops (⟨dst,.range t x,ty,pos,after,g⟩::rest) Z w Q:=by
 have l:=hm.nodup (P:=P) (cX:=cX);obtain⟨es,clock,rfl,aF,k⟩:=hm;refine dR i f (λa d=>?_) (h w.heap.size (.mapIter (some b) clock #[] clock) _ ⟨es,clock,clock,#[],j,j,aF.1,cF _,aF.2.1,k,l,[],j,by simp,j⟩ (c.alloc _)) (ad:=cV.alloc _ _);simp only [execOp,d.eval p,dW,run_range_map w t cX eH b es clock hu.h e,dZ,ew]
theorem oY{x:Operand}(az:lL key b I m pre it)(ak:∀a c:cz,key a=key c->a=c)(av:w.heap[b]? =some I)(H:C o F ([(r,it)]::ae) w)(ai:c0 ops Z g=some true)(ah:da n dst=true)(d:bt Z x=some (.pointer (some ⟨r,0,none⟩)))
 (ax:(∀p∈m,p.1∈pre)->O P n ops rest (cK Z dst (.tuple #[.bool false])) w Q)
 (aF:∀k v ap aJ,(k,v)∈m->k∉pre->lL key b I m (pre++[k]) ap->C o F ([(r,ap)]::ae) aJ->O P n ops rest (cK Z dst (.tuple #[.bool true,key k,v])) aJ Q):
 O P n ops (⟨dst,.next x false,ty,pos,after,g⟩::rest) Z w Q:=by
 obtain⟨es,clock,since,seen,rfl,rfl,aa,ab,B,y,ac,L,D,E,G⟩:=az;have aL:Obj.mapIter (some b) since seen clock≠Obj.deferred (some []):=by simp
 rcases run_next_at (P:=P) w ty r b since clock seen es clock H.first av aa ab with⟨aD,Y⟩|⟨e,he,A,ao,Y⟩
 .refine dR ai ah (λa K=>?_) (ax λp W=>?_)
  .simp only [execOp,K.eval d,dW,Y,dZ,ew]
  .have T:(key p.1,p.2)∈es.toList.map (λe=>(e.key,e.val)):=by rw [y];exact ee.2 ⟨p,W,j⟩
   obtain⟨e,he,ay⟩:=ee.1 T
   have aI:seen.contains e.born=true:=by
    rcases aw:seen.contains e.born with _|_
    .have:e∈(leftOf es seen).toList:=by
      unfold leftOf;simp only [Array.toList_filter,kI];exact⟨he,by simp only [aw];rfl⟩
     have aE:(leftOf es seen).toList=[]:=lP (by simpa using aD);rw [aE] at this;simp at this
    .rfl
   have af:e.born∈seen.toList:=by simpa using aI
   rw [D] at af;obtain⟨hc,q,ag⟩:=ee.1 af
   have M:hc=e:=by
    have:=(List.pairwise_map.1 B);rcases nL (E hc q) with⟨i,s⟩;rcases nL he with⟨R,h⟩;have am:=B;have f:(es.toList.map (·.born))[i]? =some hc.born:=by rw [gR,s];rfl
    have l:(es.toList.map (·.born))[R]? =some e.born:=by rw [gR,h];rfl
    have S:i=R:=by
     have t:=(e8.1 f).1;have u:=(e8.1 l).1;rcases q8 i R with V|heq|N
     .have:=(nM.1 am) i R t u V;rw [(e8.1 f).2,(e8.1 l).2] at this;exact absurd ag this
     .exact heq
     .have:=(nM.1 am) R i u t N;rw [(e8.1 f).2,(e8.1 l).2] at this;exact absurd ag.symm this
    subst S;rw [s] at h;exact hn h
   subst M;have ad:hc.key∈pre.map key:=by rw [<-G];exact ee.2 ⟨hc,q,j⟩
   obtain⟨k,U,aA⟩:=ee.1 ad;have:key k=key p.1:=aA.trans (aK Prod.fst ay);rw [<-ak _ _ this];exact U
 .have z:e∈es.toList/\e.born∉seen.toList:=by
   unfold leftOf at he;simp only [Array.toList_filter,kI] at he;refine⟨he.1,?_⟩;have:=he.2;simpa using this
  have T:(e.key,e.val)∈m.map λp=>(key p.1,p.2):=by rw [<-y];exact ee.2 ⟨e,z.1,j⟩
  obtain⟨p,W,an⟩:=ee.1 T;have X:key p.1=e.key:=aK Prod.fst an;have aH:p.2=e.val:=aK Prod.snd an;have J:C o F ([(r,Obj.mapIter (some b) since seen clock)]::ae) A:=by rcases ao with rfl|rfl<;>first|exact H|exact H.drew
  have ar:C o F ([(r,Obj.mapIter (some b) since (seen.push e.born) clock)]::ae) (ChangeMaps.setBlock A r (.mapIter (some b) since (seen.push e.born) clock)):=J.map (by simp)
  have aB:cV w (ChangeMaps.setBlock A r (.mapIter (some b) since (seen.push e.born) clock)):=by
   have U:cV w A:=by rcases ao with rfl|rfl<;>first|exact cV.refl _|exact cV.drew _
   exact U.trans (cV.k9 J.first (by simp) (o3 J.first).2)
  refine dR ai ah (λa K=>?_) (aF p.1 p.2 _ _ W ?_ ⟨es,clock,since,seen.push e.born,j,j,aa,ab,B,y,ac,L++[e],?_,?_,?_⟩ ar) (ad:=aB)
  .simp only [execOp,K.eval d,dW,Y,dZ,ew,X,aH]
  .intro aG;have:key p.1∈L.map (·.key):=by rw [G];exact ee.2 ⟨p.1,aG,j⟩
   obtain⟨hc,q,aC⟩:=ee.1 this;have aj:hc.key=e.key:=aC.trans X
   have al:(es.toList.map (·.key)).Nodup:=by
    have aq:es.toList.map (·.key)=(m.map (·.1)).map key:=by
     have:=aK (List.map Prod.fst) y;simpa [mH,Function.comp_def] using this
    rw [aq];exact List.Pairwise.map key (λa c au heq=>au (ak _ _ heq)) ac
   rcases nL (E hc q) with⟨i,s⟩;rcases nL z.1 with⟨R,h⟩;have f:(es.toList.map (·.key))[i]? =some hc.key:=by rw [gR,s];rfl
   have l:(es.toList.map (·.key))[R]? =some e.key:=by rw [gR,h];rfl
   have t:=(e8.1 f).1;have u:=(e8.1 l).1
   have S:i=R:=by
    rcases q8 i R with V|heq|N
    .have:=(nM.1 al) i R t u V;rw [(e8.1 f).2,(e8.1 l).2] at this;exact absurd aj this
    .exact heq
    .have:=(nM.1 al) R i u t N;rw [(e8.1 f).2,(e8.1 l).2] at this;exact absurd aj.symm this
   subst S;rw [s] at h;have M:=hn h;subst M;exact z.2 (by rw [D];exact ee.2 ⟨hc,q,j⟩)
  .simp [D]
  .intro x d;rcases fL.1 d with d|d
   .exact E x d
   .simp at d;subst d;exact z.1
  .simp [G,X]
theorem oS{x:Operand}{k:cz}(E:lL key b I m (pre++[k]) it)(G:∀a c:cz,key a=key c->a=c)(A:w.heap[b]? =some I)(y:C o F ([(r,it)]::ae) w)(D:c0 ops Z g=some true)(B:da n dst=true)(S:bt Z x=some (.pointer (some ⟨r,0,none⟩)))
 (h:∀v,(k,v)∈m->O P n ops rest (cK Z dst (.tuple #[key k,v])) w Q):
 O P n ops (⟨dst,.entry x,ty,pos,after,g⟩::rest) Z w Q:=by
 obtain⟨es,clock,since,seen,rfl,rfl,T,U,q,s,V,L,t,u,d⟩:=E;have hlen:L.length=pre.length+1:=by have:=aK List.length d;simpa using this
 obtain⟨kg,e,rfl⟩:∃kg e,L=kg++[e]:=by
  rcases List.eq_nil_or_concat L with h|⟨kg,e,h⟩
  .subst h;simp at hlen
  .exact⟨kg,e,by simpa using h⟩
 have i:e.key=key k:=by
  simp only [iB,List.map_cons,List.map_nil] at d;exact(List.append_inj' d j).2|>λh=>by simpa using h
 have R:seen=(kg.map (·.born)).toArray.push e.born:=by
  apply fz;simp [t]
 subst R;have f:e∈es.toList:=u e (by simp);have N:=run_entry_at (P:=P) w r b since _ es clock e y.first A f q;have H:(e.key,e.val)∈m.map λp=>(key p.1,p.2):=by rw [<-s];exact ee.2 ⟨e,f,j⟩
 obtain⟨p,J,l⟩:=ee.1 H;have K:p.1=k:=G _ _ ((aK Prod.fst l).trans i);have M:p.2=e.val:=aK Prod.snd l;have:=h e.val (by rw [<-K,<-M];exact J);refine dR D B (λa z=>?_) this;simp only [execOp,z.eval S,dW,N,dZ,ew,i]
theorem oW{t:TypeId}{x:Operand}{v:Value}{d:TypeDesc}[hu:bC P t d](j:∀ms,d≠.interface ms)(e:c0 ops Z g=some true)(c:da n dst=true)(i:bt Z x=some v)
 (h:O P n ops rest (cK Z dst (.iface t v)) w Q):O P n ops (⟨dst,.makeInterface t x,ty,pos,after,g⟩::rest) Z w Q:=
 dR e c (λa b=>by
  have f:=hu.h;simp only [execOp,b.eval i,Instr.makeInterface,dW,d9 f,dZ,ew]) h
theorem oQ{t l:TypeId}{x:Operand}{v:Value}{d:TypeDesc}[hu:bC P t d](e:∀ms,d≠.interface ms)(f:c0 ops Z g=some true)(c:da n dst=true)(k:bt Z x=some (.iface t v))
 (h:O P n ops rest (cK Z dst v) w Q):O P n ops (⟨dst,.typeAssert x l t false,ty,pos,after,g⟩::rest) Z w Q:=
 dR f c (λa b=>by
  have i:=hu.h;simp only [execOp,b.eval k,Instr.typeAssert,dW,d9 i,dZ,ew];cases d<;>first|exact absurd j (e _)|simp [Result.andThen]) h
theorem Gj{P:Program}{t cX eH:TypeId}(hu:P.underlying t=some (.map cX eH))(b:Nat)(w:World)(d:Nat):(Op.equalIn (d+1) t (.map (some b)) (.map none)).run P w= .ok false w:=by
 simp only [Op.equalIn,dW,d9 hu,dZ];rfl
theorem BY(t:TypeId)(x y:Operand)(p q:Option Nat):(do eqGuard .eql t x y (.map p) (.map q);binOp .eql t (.map p) (.map q))=(do pure (.bool (<-Op.equal t (.map p) (.map q))):Sem Value):=rfl
theorem Ao{t i cX eH:TypeId}{x y:Operand}{b:Nat}[hu:bC P t (.map cX eH)](e:bt Z x=some (.map (some b)))(f:bt Z y=some (.map none)):
 ∀a,cN Z n.n a->(execOp a.eval ⟨dst,.binOp .eql t x y i,ty,pos,after,g⟩).run P w= .ok (.value (.bool false)) w:=λa c=>by
 have d:(Op.equal t (.map (some b)) (.map none)).run P w= .ok false w:=by
  exact Gj hu.h b w 9999
 simp only [execOp,c.eval e,c.eval f,BY,dW,d,dZ,ew]
theorem oT{t f cX eH:TypeId}{x y:Operand}{b:Nat}[hu:bC P t (.map cX eH)](c:c0 ops Z g=some true)(a:da n dst=true)(d:bt Z x=some (.map (some b)))(e:bt Z y=some (.map none))
 (h:O P n ops rest (cK Z dst (.bool false)) w Q):O P n ops (⟨dst,.binOp .eql t x y f,ty,pos,after,g⟩::rest) Z w Q:=
 dR c a (Ao d e) h
theorem sX{t cX eH:TypeId}{x y:Operand}{z:Value}{size bytes:Nat}[hu:bC P t (.map cX eH)][ad:Keys P cX key][f:cq P eH z size bytes](hm:cf key I m)(c:w.heap[b]? =some I){k:cz}(d:bt Z x=some (.map (some b)))(e:bt Z y=some (key k)):
 ∀a,cN Z n.n a->(execOp a.eval ⟨dst,.lookup t x y true,ty,pos,after,g⟩).run P w= .ok (.value (.tuple #[(aV m k).getD z,.bool (aV m k).isSome])) w:=vI hm c d e
theorem sW{t cX eH:TypeId}{x y:Operand}{z:Value}{size bytes:Nat}[hu:bC P t (.map cX eH)][ad:Keys P cX key][f:cq P eH z size bytes](hm:cf key I m)(c:w.heap[b]? =some I){k:cz}(d:bt Z x=some (.map (some b)))(e:bt Z y=some (key k)):
 ∀a,cN Z n.n a->(execOp a.eval ⟨dst,.lookup t x y false,ty,pos,after,g⟩).run P w= .ok (.value ((aV m k).getD z)) w:=vI hm c d e
theorem mw{t cX eH:TypeId}{x y:Operand}{z:Value}{size bytes:Nat}[hu:bC P t (.map cX eH)][ad:Keys P cX key][i:cq P eH z size bytes](hm:cf key I m)(a:w.heap[b]? =some I){k:cz}
 (d:c0 ops Z g=some true) (c:da n dst=true) (e:bt Z x=some (.map (some b))) (f:bt Z y=some (key k))
 (h:O P n ops rest (cK Z dst (.tuple #[(aV m k).getD z,.bool (aV m k).isSome])) w Q):O P n ops (⟨dst,.lookup t x y true,ty,pos,after,g⟩::rest) Z w Q:=dR d c (sX hm a e f) h
theorem oV{t cX eH:TypeId}{x y:Operand}{z:Value}{size bytes:Nat}[hu:bC P t (.map cX eH)][ad:Keys P cX key][i:cq P eH z size bytes](hm:cf key I m)(a:w.heap[b]? =some I){k:cz}
 (d:c0 ops Z g=some true) (c:da n dst=true) (e:bt Z x=some (.map (some b))) (f:bt Z y=some (key k))
 (h:O P n ops rest (cK Z dst ((aV m k).getD z)) w Q):O P n ops (⟨dst,.lookup t x y false,ty,pos,after,g⟩::rest) Z w Q:=dR d c (sW hm a e f) h
class MapsClone(P:Program)(f:FuncId):Prop where
 h:∃fn,P.funcs[f]? =some fn/\(fn.name== "runtime.NumGoroutine")=false/\fn.body.isNone=true/\Extern.findNext fn=none/\Extern.find fn=some Extern.MapsClone.clone
theorem oX{f:FuncId}{A:Array TypeId}{args:Array Operand}{t:TypeId}[u:MapsClone P f](hm:cf key I m)(r:w.heap[b]? =some I)(p:C o F ae w)
 (v:c0 ops Z g=some true) (s:da n dst=true) (z:fl Z args.toList=some [.iface t (.map (some b))])
 (h:∀c aJ,C o F ([(c,I)]::ae) aJ->O P n ops rest (cK Z dst (.iface t (.map (some c)))) aJ Q):O P n ops (⟨dst,.call ⟨.value (.func f),args,A⟩,ty,pos,after,g⟩::rest) Z w Q:=by
 have x:=hm.uZ;obtain⟨es,clock,rfl,_⟩:=hm;obtain⟨fn,d,i,j,k,l⟩:=u.h;refine dR v s (λa q=>?_) (h w.heap.size _ (p.alloc _ x)) (ad:=cV.alloc _ _);have:args.map a.eval= #[.iface t (.map (some b))]:=by apply fz;rw [g9,q.hf z]
 have y:(Extern.MapsClone.clone #[.iface t (.map (some b))]).run P w= .ok (.iface t (.map (some w.heap.size))) (w.alloc (.map es clock)):=by
  have e:Extern.MapsClone.clone #[.iface t (.map (some b))]=(getObj b>>=λI=>match I with
   | .map entries clock=>(newObj (.map entries clock)>>=λn=>pure (.iface t (.map (some n))))
   |_=>stuck "maps.clone: a map expected"):=rfl
  rw [e];simp [mC r,Result.andThen]
 simp only [execOp,resolve,this,Act.eval,Deferred.ofValue,invoke,callFunc,d,i,j,k,l,dW,ew,dZ,lR,run_mark,pi,Array.append_empty,if_false,if_true,Bool.false_eq_true,y]
end
end Go.Proofs.YtmholjbhjcpkhaaGreatDoor.R
namespace Go.Proofs.YtmholjbhjcpkhaaGreatDoor.R
open Go.Proofs.Tryz Go Go.RowKit
section
variable {P:Program} {n:Nat} {Z:Env} {w:World} {dst:Option Nat} {ty:TypeId} {pos:String} {after:Array Edge} {g:Option (Nat×Bool)}
theorem vH{t e:TypeId}{x y:Operand}{m:Nat}{b off R:Nat}{k:IntKind}{z:Value}{size bytes:Nat}[hu:bC P t (.array m e)][f:cq P e z size bytes]
 (o:bt Z x=some (.pointer (some ⟨b,off,none⟩))) (p:bt Z y=some (.int k R)) (d:R<m):
 ∀a,cN Z n a->(execOp a.eval ⟨dst,.indexAddr t x y,ty,pos,after,g⟩).run P w= .ok (.value (.pointer (some ⟨b,off+R*size,none⟩))) w:=λa c=>by
 obtain⟨i,j,_,l,_⟩:=f.parts;simp [execOp,c.eval o,c.eval p,Instr.indexAt,Instr.sureAddr,asIntOf,d9 hu.h,sizeOf,typeInfo,j,l,d,add_lit]
theorem sY{op:BinOp}{t h:TypeId}{x y:Operand}{k dk:IntKind}{i R:Int}{v:Value}
 (e:bt Z x=some (.int k i)) (f:bt Z y=some (.int dk R)) (j:0<=R) (c:evalShift op k i R=some v):
 ∀a,cN Z n a->(execOp a.eval ⟨dst,.binOp op t x y h,ty,pos,after,g⟩).run P w= .ok (.value v) w:=λa b=>by
 have d:¬R<0:=by omega
 cases op<;>simp [evalShift] at c<;>subst c<;>simp [execOp,b.eval e,b.eval f,eqGuard,binOp,Op.shift,d]
theorem ht{t e:TypeId}{x y:Operand}{m:Nat}{b R:Nat}{k:IntKind}{z:Value}{bytes:Nat}[hu:bC P t (.array m e)][h:cq P e z 1 bytes]
 (d:bt Z x=some (.pointer (some ⟨b,0,none⟩))) (f:bt Z y=some (.int k R)) (c:R<m):
 ∀a,cN Z n a->(execOp a.eval ⟨dst,.indexAddr t x y,ty,pos,after,g⟩).run P w= .ok (.value (.pointer (some ⟨b,R,none⟩))) w:=by
 have:=vH (P:=P) (n:=n) (w:=w) (dst:=dst) (ty:=ty) (pos:=pos) (after:=after) (g:=g) (Z:=Z) (t:=t) (e:=e) (z:=z) (size:=1) (bytes:=bytes) d f c;simpa using this
theorem qE{t e:TypeId}{x y:Operand}{b:Addr}{l c R:Nat}{k:IntKind}{z:Value}{bytes:Nat}[hu:bC P t (.slice e)][i:cq P e z 1 bytes]
 (f:bt Z x=some (.slice (some b) l c)) (h:bt Z y=some (.int k R)) (d:R<l):
 ∀a,cN Z n a->(execOp a.eval ⟨dst,.indexAddr t x y,ty,pos,after,g⟩).run P w= .ok (.value (.pointer (some (b.add R)))) w:=by
 have:=qD (P:=P) (n:=n) (w:=w) (dst:=dst) (ty:=ty) (pos:=pos) (after:=after) (g:=g) (Z:=Z) (t:=t) (e:=e) (z:=z) (size:=1) (bytes:=bytes) f h d;simpa using this
end
section
variable {P:Program} {n:Fr} {Z:Env} {w:World} {Q:d7} {ops:Array Oper} {rest:List Oper} {dst:Option Nat} {ty:TypeId} {pos:String} {after:Array Edge} {g:Option (Nat×Bool)}
theorem jU{t e:TypeId}{x y:Operand}{m:Nat}{b R:Nat}{k:IntKind}{z:Value}{bytes:Nat}[hu:bC P t (.array m e)][j:cq P e z 1 bytes](d:c0 ops Z g=some true)(c:da n dst=true)
 (f:bt Z x=some (.pointer (some ⟨b,0,none⟩))) (i:bt Z y=some (.int k R)) (a:R<m)
 (h:O P n ops rest (cK Z dst (.pointer (some ⟨b,R,none⟩))) w Q):O P n ops (⟨dst,.indexAddr t x y,ty,pos,after,g⟩::rest) Z w Q:=dR d c (ht f i a) h
theorem AS{t e:TypeId}{x y:Operand}{b m i:Nat}{k:IntKind}{z:Value}{bytes:Nat}[hu:bC P t (.array m e)][o:cq P e z 1 bytes]
 (l:c0 ops Z g=some true) (j:da n dst=true) (r:bt Z x=some (.pointer (some ⟨b,0,none⟩))) (s:bt Z y=some (.int k i)) (u:i<m)
 (h:O P n ops rest (cK Z dst (.slice (some ⟨b,i,none⟩) (m-i) (m-i))) w Q):O P n ops (⟨dst,.slice t x (some y) none none,ty,pos,after,g⟩::rest) Z w Q:=
 dR l j (λa c=>by
  obtain⟨R,p,_,q,_⟩:=o.parts;have d:i<=m:=by omega
  have f:m≠i:=by omega
  simp [execOp,c.eval r,c.eval s,Instr.sliceAt,Instr.sureAddr,Instr.sliceBounds,Instr.sliceBound,asIntOf,d9 hu.h,sizeOf,typeInfo,p,q,add_lit,d,f]) h
theorem At{P:Program}{n:Nat}{Z:Env}{w:World}{dst:Option Nat}{ty:TypeId}{pos:String}{after:Array Edge}{g:Option (Nat×Bool)}{t e:TypeId}{x y:Operand}{m R:Nat}{k:IntKind}{cs:Array Value}{v z:Value}{bytes:Nat}{d:TypeDesc}[hu:bC P t (.array m e)][he:bC P e d][j:cq P e z 1 bytes]
 (r:bt Z x=some (.agg cs)) (s:bt Z y=some (.int k R)) (c:R<m) (i:hR d=false) (f:cs[R]? =some v):
 ∀a,cN Z n a->(execOp a.eval ⟨dst,.index t x y,ty,pos,after,g⟩).run P w= .ok (.value v) w:=λa b=>by
 obtain⟨q,l,_,o,_⟩:=j.parts;have p:=mW (P:=P) (w:=w) (t:=e) (d:=d) (cs:=cs) (off:=R) (v:=v) he.h i f;simp [execOp,b.eval r,b.eval s,Instr.index,asIntOf,d9 hu.h,sizeOf,typeInfo,l,o,c,p]
theorem vW{t e:TypeId}{x y:Operand}{m R:Nat}{k:IntKind}{cs:Array Value}{v z:Value}{bytes:Nat}{d:TypeDesc}[hu:bC P t (.array m e)][he:bC P e d][o:cq P e z 1 bytes]
 (i:c0 ops Z g=some true) (c:da n dst=true) (j:bt Z x=some (.agg cs)) (l:bt Z y=some (.int k R)) (a:R<m) (f:hR d=false) (b:cs[R]? =some v)
 (h:O P n ops rest (cK Z dst v) w Q):O P n ops (⟨dst,.index t x y,ty,pos,after,g⟩::rest) Z w Q:=dR i c (At j l a f b) h
end
section
variable {P:Program} {n:Fr} {Z:Env} {w:World} {Q:d7} {ops:Array Oper} {rest:List Oper} {dst:Option Nat} {ty:TypeId} {pos:String} {after:Array Edge} {g:Option (Nat×Bool)}
theorem nJ{t e:TypeId}{x y:Operand}{z:Value}{size bytes:Nat}{m k:IntKind}{l c:Nat}{o:World}{F:List Nat}{ae:List (List Chunk)}[hu:bC P t (.slice e)][s:cq P e z size bytes](p:C o F ae w)
 (r:c0 ops Z g=some true) (q:da n dst=true) (D:bt Z x=some (.int m l)) (E:bt Z y=some (.int k c)) (H:l<=c) (G:bytes*c<=281474976710656) (hm:c<=maxLen)
 (h:∀b cs aJ,cs.size=c*size->cs=madeCells z.cells (c*size)->C o F ([(b,.cells cs e (0,0))]::ae) aJ->O P n ops rest (cK Z dst (.slice (some ⟨b,0,none⟩) l c)) aJ Q):O P n ops (⟨dst,.makeSlice t x y,ty,pos,after,g⟩::rest) Z w Q:=by
 obtain⟨i,u,v,A,B⟩:=s.parts;have f:=run_make (P:=P) w t e i z hu.h u v m k (l:Int) (c:Int) (by omega) (by omega) (by rw [B,<-Int.natCast_mul];omega) (by simp only [maxLen] at hm;omega);simp only [lj,A] at f;refine dR r q (λa d=>?_) (h w.heap.size _ _ (size_madeCells _ _) j (p.alloc _)) (ad:=cV.alloc _ _);simp only [execOp,d.eval D,d.eval E,dW,f,dZ,ew]
theorem vY{t p:TypeId}{x y:Operand}{i R:Nat}(l:c0 ops Z g=some true)(k:da n dst=true)
 (m:bt Z x=some (.int .i64 i)) (o:bt Z y=some (.int .i64 R)) (r:0<R) (s:i<9223372036854775808)
 (h:O P n ops rest (cK Z dst (.int .i64 ((i/R:Nat):Int))) w Q):O P n ops (⟨dst,.binOp .quo t x y p,ty,pos,after,g⟩::rest) Z w Q:=
 dR l k (λa b=>by
  have c:¬(R:Int)=0:=by omega
  have d:(i:Int).tdiv (R:Int)=((i/R:Nat):Int):=rfl
  have e:IntKind.i64.wrap ((i/R:Nat):Int)=((i/R:Nat):Int):=by
   have:i/R<=i:=Nat.div_le_self i R;rw [j3];generalize i/R=q at*;omega
  simp only [execOp,b.eval m,b.eval o];have f:eqGuard .quo t x y (.int .i64 (i:Int)) (.int .i64 (R:Int))=pure ():=rfl
  have j:(binOp .quo t (.int .i64 (i:Int)) (.int .i64 (R:Int))).run P w= .ok (.int .i64 ((i/R:Nat):Int)) w:=by
   show(Op.intDiv .quo .i64 (i:Int) (R:Int)).run P w=_;unfold Op.intDiv;simp only [d,az c,ew,e]
  simp only [f,dW,ew,dZ,j]) h
end
theorem Ak:∀(U:List Value)(k:Nat)(cells:Array Value),(U.zipIdx k).foldl (λcs(p:Value×Nat)=>cs.setIfInBounds (0+p.2) p.1) cells=setCells cells k U
 |[],_,_=>rfl
 |v::r,k,cells=>by
  rw [List.zipIdx_cons,h5,Ak r (k+1),setCells,fe]
theorem Gq{P:Program}{t e:TypeId}{z:Value}{size bytes:Nat}(hu:P.underlying t=some (.slice e))(f:cq P e z size bytes)(U:List Value)(k:U.length=size)(m:0<size)(aF:size<=16777216)(w:World):
 (Instr.buildSlice t 1 #[(0,.agg U.toArray)]).run P w= .ok (.slice (some ⟨w.heap.size,0,none⟩) 1 1) {w with heap:=w.heap.push (.cells U.toArray e)}:=by
 obtain⟨i,g,h,j,_⟩:=f.parts
 have key:∀cells:Array Value,cells.size=size->Instr.fill (λi=>some (i*size,size)) cells [(0,.agg U.toArray)]=some U.toArray:=by
  intro cells c;have d:(Value.agg U.toArray).cells=U.toArray:=rfl;unfold Instr.fill;simp only [d,hl,k,nP,fe,ne_eq,not_true,decide_false,Bool.false_or,c,Nat.lt_irrefl,Instr.fill];simp only [gt_iff_lt,Nat.lt_irrefl,decide_false,Bool.false_eq_true,km]
  congr 1
  rw [<-Array.foldl_toList,Array.toList_zipIdx];have a:=Ak U 0 cells;simp only [fe] at a;exact a.trans (zw U cells (by omega))
 unfold Instr.buildSlice;have l:¬1*size>2^24:=by omega
 have b:¬1*size=0:=by omega
 simp only [dW,d9 hu,dZ,sizeOf,typeInfo,lR,g,ew,j,l,b,km,zeroValue,h];rw [key _ (by simp)];simp [newRow]
section
variable {P:Program} {n:Fr} {Z:Env} {w:World} {Q:d7} {ops:Array Oper} {rest:List Oper} {dst:Option Nat} {ty:TypeId} {pos:String} {after:Array Edge} {g:Option (Nat×Bool)}
theorem gj{t e:TypeId}{x:Operand}{U:List Value}{z:Value}{size bytes:Nat}{o:World}{F:List Nat}{ae:List (List Chunk)}[hu:bC P t (.slice e)][j:cq P e z size bytes](d:C o F ae w)
 (i:c0 ops Z g=some true) (f:da n dst=true) (l:bt Z x=some (.agg U.toArray)) (k:U.length=size) (a:0<size) (aF:size<=16777216)
 (h:∀b aJ,C o F ([(b,.cells U.toArray e (0,0))]::ae) aJ->O P n ops rest (cK Z dst (.slice (some ⟨b,0,none⟩) 1 1)) aJ Q):O P n ops (⟨dst,.buildSlice t 1 #[(0,x)],ty,pos,after,g⟩::rest) Z w Q:=
 oR (c:=U.toArray) (e:=e) (U:=[.agg U.toArray]) d i f (by simp [fl,l]) (λw=>by simpa using Gq hu.h j U k a aF w) h
theorem AM{t e:TypeId}{I:Array TypeId}{args:Array Operand}{z:Value}{size bytes:Nat}{o:World}{F:List Nat}{ae:List (List Chunk)}{k m c:Nat}{B A:Option Addr}{xs news:List Value}
 [hu:bC P t (.slice e)] [T:cq P e z size bytes] (K:C o F ae w) (ac:I= #[t,t]) (ah:z.cells.size=size) (H:0<size) (S:c0 ops Z g=some true) (N:da n dst=true)
 (af:fl Z args.toList=some [.slice B k k,.slice A m c]) (p:xs.length=k*size) (E:Rd w B xs) (ad:0<k) (hm:0<m) (l:news.length=m*size) (G:Rd w A news) (L:(k+m)*bytes<=140737488355328) (y:k+m<=maxLen)
 (h:∀J x aJ,Row e size J (k+m) (xs++news) x->C o F (x::ae) aJ->O P n ops rest (cK Z dst J) aJ Q):O P n ops (⟨dst,.call ⟨.builtin .append,args,I⟩,ty,pos,after,g⟩::rest) Z w Q:=by
 subst ac;obtain⟨i,U,V,D,W⟩:=T.parts;have ag:xs≠[]:=by intro q;subst q;have:=Nat.mul_pos ad H;simp only [fW] at p;omega
 have Y:news≠[]:=by intro q;subst q;have:=Nat.mul_pos hm H;simp only [fW] at l;omega
 obtain⟨f,rfl⟩:∃f,B=some f:=by
  cases xs with
  |nil=>exact absurd j ag
  |cons u r=>obtain⟨a,b,_⟩:=E 0 u j;exact⟨a,b⟩
 obtain⟨d,rfl⟩:∃d,A=some d:=by
  cases news with
  |nil=>exact absurd j Y
  |cons u r=>obtain⟨a,b,_⟩:=G 0 u j;exact⟨a,b⟩
 have ai:k+m<=9223372036854775807:=by simp only [maxLen] at y;omega
 have ab:=run_append_grow (P:=P) w t ty e i z hu.h U V f k k xs (by rw [D];exact p) (λR v s=>E.cell s) d m c news (by rw [D];exact l) (λR v s=>G.cell s) (by omega) (by omega) (by rw [W];exact growslice_fits (by omega) L);have M:=grownCap_ge w (k+m) k e;have X:=grownCap_le_maxLen w (k+m) k e y
 have aa:Row e size (.slice (some ⟨w.heap.size,0,none⟩) (k+m) (grownCap w (k+m) k e)) (k+m) (xs++news) [(w.heap.size,.cells (xs.toArray++news.toArray++Builtin.zeroCells z.cells (grownCap w (k+m) k e-(k+m))) e (0,0))]:=by
  have hlen:(xs++news).length=(k+m)*size:=by rw [cj,p,l,Nat.add_mul]
  refine⟨hlen,.inr ⟨_,_,_,j,j,M,X,?_,?_⟩⟩
  .simp only [Array.size_append,List.size_toArray,su,ah,p,l,<-Nat.add_mul];exact j1 _ (by omega)
  .simp only [tq,List.append_assoc];rw [<-dS,<-hlen];exact lQ
 refine dR S N (λa b=>?_) (h _ _ _ aa (K.drew.alloc _)) (ad:=cV.alloc _ _);have:args.map a.eval= #[.slice (some f) k k,.slice (some d) m c]:=by apply fz;rw [g9,b.hf af]
 simp only [execOp,resolve,invoke,builtin,dW,ew,dZ,this,ab]
end
section
variable {P:Program} {n:Fr} {Z:Env} {w:World} {Q:d7} {ops:Array Oper} {rest:List Oper}
 {dst:Option Nat} {ty:TypeId} {pos:String} {after:Array Edge} {g:Option (Nat×Bool)}
theorem Gy(U:List Value)(c:Array Value)(off:Nat)(h:off+U.length<=c.size):(setCells c off U).toList.take off=c.toList.take off:=by
 apply nN;intro i;rw [kJ,kJ];split
 .rw [o2,o2,ov U c off h i,az (by omega)]
 .rfl
theorem vQ{t e eH:TypeId}{A:Array TypeId}{args:Array Operand}{z:Value}{size bytes:Nat}{o:World}{F:List Nat}{ae:List (List Chunk)}{b off m c:Nat}{gW:Array Value}
 [hu:bC P t (.slice e)] [G:cq P e z size bytes] (r:C o F ([(b,.cells gW eH (0,0))]::ae) w) (M:A= #[t]) (T:z.cells.size=size) (S:∀u∈z.cells.toList,u.oneCell'=true)
 (x:c0 ops Z g=some true) (s:da n dst=true)
 (N:fl Z args.toList=some [.slice (some ⟨b,off,none⟩) m c]) (U:off+m*size<=gW.size)
 (h:∀l aJ,l.size=gW.size->l.toList.take off=gW.toList.take off->C o F ([(b,.cells l eH (0,0))]::ae) aJ->O P n ops rest (cK Z dst (.tuple #[])) aJ Q):
 O P n ops (⟨dst,.call ⟨.builtin .clear,args,A⟩,ty,pos,after,g⟩::rest) Z w Q:=by
 obtain⟨i,H,I,V,W⟩:=G.parts;subst M;have d:∀a,cN Z n.n a->args.map a.eval= #[.slice (some ⟨b,off,none⟩) m c]:=λa d=>by apply fz;rw [g9,d.hf N]
 cases m with
 |zero=>
  refine dR x s (λa q=>?_) (h gW w j j r);simp [execOp,resolve,d a q,invoke,builtin,Builtin.clear_,d9 hu.h]
 |succ k=>
  have hlen:(Builtin.zeroCells z.cells (k+1)).toList.length=(k+1)*size:=by
   rw [Array.length_toList,su,T]
  have K:∀v∈(Builtin.zeroCells z.cells (k+1)).toList,v.oneCell'=true:=λv f=>by
   obtain⟨R,y,f⟩:=List.getElem_of_mem f;simp only [Builtin.zeroCells,Array.toList_ofFn,List.getElem_ofFn] at f
   have L:0<z.cells.size:=by
    rcases q3 z.cells.size with p|p
    .rw [Array.length_toList,su,p] at y;simp at y
    .exact p
   have J:R%z.cells.size<z.cells.size:=jE _ L
   have hm:v∈z.cells.toList:=by
    rw [<-f];simp [getElem!_pos,J]
   exact S v hm
  obtain⟨aJ,B,D,E⟩:=C.storeCells (P:=P) (off:=off) (Builtin.zeroCells z.cells (k+1)).toList 0 gW w r (by rw [hlen];omega) K;refine dR (aJ:=aJ) x s (λa q=>?_) (h _ aJ (sq _ _ _) (by rw [nd];exact Gy _ _ _ (by rw [hlen];omega)) D) (ad:=E);simp [execOp,resolve,d a q,invoke,builtin,Builtin.clear_,d9 hu.h,zeroValue,typeInfo,H,I,B]
theorem AN{t e:TypeId}{E:Array TypeId}{args:Array Operand}{z:Value}{size bytes:Nat}{o:World}{F:List Nat}{ae:List (List Chunk)}{b k cap m c:Nat}{A:Option Addr}{cur:Array Value}{news:List Value}
 [hu:bC P t (.slice e)] [L:cq P e z size bytes] (f:C o F ([(b,.cells cur e (0,0))]::ae) w) (W:E= #[t,t]) (V:0<size)
 (v:c0 ops Z g=some true) (s:da n dst=true)
 (X:fl Z args.toList=some [.slice (some ⟨b,0,none⟩) k cap,.slice A m c]) (l:news.length=m*size) (B:Rd w A news) (G:∀u∈news,u.oneCell'=true) (D:k+m<=cap) (J:cap*size<=cur.size)
 (h:∀p aJ,p.size=cur.size->p.toList.take ((k+m)*size)=cur.toList.take (k*size)++news->C o F ([(b,.cells p e (0,0))]::ae) aJ->O P n ops rest (cK Z dst (.slice (some ⟨b,0,none⟩) (k+m) cap)) aJ Q):
 O P n ops (⟨dst,.call ⟨.builtin .append,args,E⟩,ty,pos,after,g⟩::rest) Z w Q:=by
 obtain⟨i,x,aa,M,ab⟩:=L.parts;subst M;subst W;have d:∀a,cN Z n.n a->args.map a.eval= #[.slice (some ⟨b,0,none⟩) k cap,.slice A m c]:=λa d=>by apply fz;rw [g9,d.hf X]
 have y:k<=cap:=by omega
 have ac:k*i.size<=cur.size:=ej (j1 _ y) J
 have K:k*i.size+news.length<=cur.size:=by
  have:=j1 i.size D;rw [l,<-mG];omega
 cases A with
 |none=>
  have aT:news=[]:=by
   cases news with
   |nil=>rfl
   |cons u r=>obtain⟨a,d,_⟩:=B 0 u (by simp);cases d
  subst aT
  have hm:m=0:=by
   rcases q3 m with h|h
   .exact h
   .have:=Nat.mul_pos h V;simp at l;omega
  subst hm;refine dR v s (λa q=>?_) (h cur w j (by simp) f);simp [execOp,resolve,d a q,invoke,builtin,Builtin.append_,d9 hu.h,sizeOf,typeInfo,x,Builtin.lenOf,Builtin.firstCells,y,Go.storeCells]
 |some a0=>
  have T:∀R u,news[R]? =some u->w.cell? (a0.add R)=some u:=λR u hu=>by
   obtain⟨Y,H,I⟩:=B R u hu;cases H;exact I
  have U:=run_append_room (P:=P) w t ty e i hu.h x b k cap cur f.first a0 m c news l T G D K;refine dR (aJ:=w.setRow b (cur.toList.take (k*i.size)++news++cur.toList.drop (k*i.size+news.length)).toArray) v s (λa q=>?_) (h _ _ ?_ ?_ (f.setRow)) (ad:=cV.cells f.first (λdk N=>setRow_other w b dk _ N))
  .simp only [execOp,resolve,invoke,builtin,dW,ew,dZ,d a q,U]
  .simp only [hl,cj,List.length_take,List.length_drop,Array.length_toList];omega
  .have S:(cur.toList.take (k*i.size)++news).length=(k+m)*i.size:=by
    rw [cj,List.length_take,Array.length_toList,l,Nat.add_mul];omega
   simp only [dS];rw [<-dS,<-S];exact lQ
theorem AH{t e:TypeId}{x y:Operand}{A:Option Addr}{l c:Nat}{k:IntKind}{i:Nat}{z:Value}{size bytes:Nat}[hu:bC P t (.slice e)][m:cq P e z size bytes]
 (p:bt Z x=some (.slice A l c)) (q:bt Z y=some (.int k i)) (r:i<=c):
 ∀a,cN Z n.n a->(execOp a.eval ⟨dst,.slice t x none (some y) none,ty,pos,after,g⟩).run P w= .ok (.value (.slice A i c)) w:=λa b=>by
 obtain⟨R,o,_,s,_⟩:=m.parts;have d:¬c<i:=by omega
 have f:A.map (λx=>x.add 0)=A:=by cases A<;>simp [Addr.add]
 simp [execOp,b.eval p,b.eval q,Instr.sliceAt,Instr.slice,Instr.sliceBounds,Instr.sliceBound,asIntOf,d9 hu.h,sizeOf,typeInfo,o,f];exact λj=>(d j).elim
theorem AG{t e:TypeId}{x y:Operand}{A:Option Addr}{l c:Nat}{k:IntKind}{i:Nat}{z:Value}{size bytes:Nat}[hu:bC P t (.slice e)][j:cq P e z size bytes]
 (p:bt Z x=some (.slice A l c)) (q:bt Z y=some (.int k i)) (r:i<=l):
 ∀a,cN Z n.n a->(execOp a.eval ⟨dst,.slice t x (some y) none none,ty,pos,after,g⟩).run P w= .ok (.value (.slice (if c=i then A else A.map (·.add (i*size))) (l-i) (c-i))) w:=λa b=>by
 obtain⟨R,m,_,o,_⟩:=j.parts;have d:¬l<i:=by omega
 simp [execOp,b.eval p,b.eval q,Instr.sliceAt,Instr.slice,Instr.sliceBounds,Instr.sliceBound,asIntOf,d9 hu.h,sizeOf,typeInfo,m,o];exact λf=>(d f).elim
theorem AT{t e:TypeId}{x y f:Operand}{b I l c:Nat}{k dk:IntKind}{i R:Nat}{z:Value}{size bytes:Nat}[hu:bC P t (.slice e)][v:cq P e z size bytes]
 (u:c0 ops Z g=some true) (s:da n dst=true)
 (C:bt Z x=some (.slice (some ⟨b,I,none⟩) l c)) (D:bt Z y=some (.int k i)) (E:bt Z f=some (.int dk R)) (m:i<=R) (o:R<=c) (F:i<c)
 (h:O P n ops rest (cK Z dst (.slice (some ⟨b,I+i*size,none⟩) (R-i) (c-i))) w Q):O P n ops (⟨dst,.slice t x (some y) (some f) none,ty,pos,after,g⟩::rest) Z w Q:=
 dR u s (λa d=>by
  obtain⟨inf,A,_,B,_⟩:=v.parts;have p:¬c<R:=by omega
  have q:¬R<i:=by omega
  have r:¬c=i:=by omega
  have j:((⟨b,I,none⟩:Addr).add (i*size))=⟨b,I+i*size,none⟩:=add_lit _ _ _;simp [execOp,d.eval C,d.eval D,d.eval E,Instr.sliceAt,Instr.slice,Instr.sliceBounds,Instr.sliceBound,asIntOf,d9 hu.h,sizeOf,typeInfo,A,B,p,q,r,j];rw [aR o,aR m]) h
theorem AU{t e:TypeId}{x y f j:Operand}{b I l c:Nat}{k dk L:IntKind}{i R m:Nat}{z:Value}{size bytes:Nat}[hu:bC P t (.slice e)][D:cq P e z size bytes]
 (C:c0 ops Z g=some true) (B:da n dst=true)
 (G:bt Z x=some (.slice (some ⟨b,I,none⟩) l c)) (H:bt Z y=some (.int k i)) (J:bt Z f=some (.int dk R)) (K:bt Z j=some (.int L m)) (p:i<=R) (q:R<=m) (v:m<=c) (M:i<m)
 (h:O P n ops rest (cK Z dst (.slice (some ⟨b,I+i*size,none⟩) (R-i) (m-i))) w Q):O P n ops (⟨dst,.slice t x (some y) (some f) (some j),ty,pos,after,g⟩::rest) Z w Q:=
 dR C B (λa d=>by
  obtain⟨inf,E,_,F,_⟩:=D.parts;have r:¬m<R:=by omega
  have s:¬R<i:=by omega
  have u:¬m=i:=by omega
  have A:¬c<m:=by omega
  have o:((⟨b,I,none⟩:Addr).add (i*size))=⟨b,I+i*size,none⟩:=add_lit _ _ _;simp [execOp,d.eval G,d.eval H,d.eval J,d.eval K,Instr.sliceAt,Instr.slice,Instr.sliceBounds,Instr.sliceBound,asIntOf,d9 hu.h,sizeOf,typeInfo,E,F,r,s,u,A,o];rw [aR v,aR q,aR p]) h
end
class h2(G:List Chunk)(ae:List (List Chunk))(ak:outParam (List (List Chunk))):Prop where
 perm:ae.Perm (G::ak)
instance (priority:=1100)h2.here(G:List Chunk)(ae:List (List Chunk)):h2 G (G::ae) ae:=⟨nQ _⟩
instance h2.there(G H:List Chunk)(ae ak:List (List Chunk))[h:h2 G ae ak]:h2 G (H::ae) (H::ak):=⟨(h.perm.cons H).trans (.swap ..)⟩
instance h2.app(G H:List Chunk)(A B ak:List (List Chunk))[h:h2 G (H::(A++B)) ak]:h2 G ((H::A)++B) ak:=⟨h.perm⟩
instance h2.wn(G:List Chunk)(B ak:List (List Chunk))[h:h2 G B ak]:h2 G ([]++B) ak:=⟨h.perm⟩
instance h2.wo(G:List Chunk)(B ak:List (List Chunk))[h:h2 G B ak]:h2 G (List.append [] B) ak:=⟨h.perm⟩
instance h2.assoc(G:List Chunk)(A B a7 ak:List (List Chunk))[h:h2 G (A++(B++a7)) ak]:h2 G ((A++B)++a7) ak:=⟨by rw [dS];exact h.perm⟩
class kk(ae cM:List (List Chunk))(ak:outParam (List (List Chunk))):Prop where
 perm:ae.Perm (cM++ak)
instance kk.nil(ae:List (List Chunk)):kk ae [] ae:=⟨nQ _⟩
instance kk.cons(G:List Chunk)(ae cM a ak:List (List Chunk))[b:h2 G ae a][c:kk a cM ak]:kk ae (G::cM) ak:=⟨b.perm.trans (c.perm.cons G)⟩
class Has(b:Nat)(ae:List (List Chunk))(I:outParam Obj):Prop where
 mem:(b,I)∈ae.flatten
class s0(b:Nat)(G:List Chunk)(I:outParam Obj):Prop where
 mem:(b,I)∈G
instance (priority:=1100)s0.here(b:Nat)(I:Obj)(G:List Chunk):s0 b ((b,I)::G) I:=⟨by simp⟩
instance (priority:=1100)Has.here(b:Nat)(I:Obj)(G:List Chunk)(ae:List (List Chunk))[h:s0 b G I]:Has b (G::ae) I:=⟨by rw [jZ];exact fL.2 (.inl h.mem)⟩
instance Has.there(b:Nat)(I:Obj)(G:List Chunk)(ae:List (List Chunk))[h:Has b ae I]:Has b (G::ae) I:=⟨by rw [jZ];exact fL.2 (.inr h.mem)⟩
instance Has.app(b:Nat)(I:Obj)(G:List Chunk)(A B:List (List Chunk))[h:Has b (G::(A++B)) I]:Has b ((G::A)++B) I:=⟨h.mem⟩
instance Has.wn(b:Nat)(I:Obj)(B:List (List Chunk))[h:Has b B I]:Has b ([]++B) I:=⟨h.mem⟩
instance Has.wo(b:Nat)(I:Obj)(B:List (List Chunk))[h:Has b B I]:Has b (List.append [] B) I:=⟨h.mem⟩
class jg(b:Nat)(ae:List (List Chunk))(I:outParam Obj)(ak:outParam (List (List Chunk))):Prop where
 perm:ae.Perm ([(b,I)]::ak)
instance (priority:=1100)jg.here(b:Nat)(I:Obj)(ae:List (List Chunk)):jg b ([(b,I)]::ae) I ae:=⟨nQ _⟩
instance jg.there(b:Nat)(I:Obj)(H:List Chunk)(ae ak:List (List Chunk))[h:jg b ae I ak]:jg b (H::ae) I (H::ak):=⟨(h.perm.cons H).trans (.swap ..)⟩
instance jg.app(b:Nat)(I:Obj)(H:List Chunk)(A B ak:List (List Chunk))[h:jg b (H::(A++B)) I ak]:jg b ((H::A)++B) I ak:=⟨h.perm⟩
instance jg.wn(b:Nat)(I:Obj)(B ak:List (List Chunk))[h:jg b B I ak]:jg b ([]++B) I ak:=⟨h.perm⟩
instance jg.wo(b:Nat)(I:Obj)(B ak:List (List Chunk))[h:jg b B I ak]:jg b (List.append [] B) I ak:=⟨h.perm⟩
section
variable {o w aJ:World} {F:List Nat} {ae cM ak a7:List (List Chunk)} {G:List Chunk} {b:Nat} {I:Obj}
theorem C.to(G:List Chunk)[h:h2 G ae ak](a:C o F ae w):C o F (G::ak) w:=a.i6 h.perm
theorem C.xa:∀{A:List (List Chunk)},C o F (A++ak) w->C o F ak w
 |[],h=>h
 |G::A,h=>C.xa (A:=A) (C.drop (G:=G) h)
theorem C.dropEnd{A:List (List Chunk)}(h:C o F (A++ak) w):C o F A w:=C.xa (A:=ak) (h.i6 ll)
theorem C.as [h:kk ae cM ak](a:C o F ae w):C o F cM w:=(a.i6 h.perm).dropEnd
theorem C.front [h:kk ae cM ak](a:C o F ae w):C o F (cM++ak) w:=a.i6 h.perm
theorem C.ours [h:kk ae cM ak](a:C o F ae w):Own cM w:=(a.i6 h.perm).sub
theorem C.b1 [h:kk ae cM ak](a:C o F ae w)(k:C w (au cM) a7 aJ):C o F (a7++ak) aJ:=C.after (a.i6 h.perm) k
theorem C.aj [h:Has b ae I](a:C o F ae w):w.heap[b]? =some I:=a.here (b,I) h.mem
theorem C.bc(b:Nat)[h:jg b ae I ak](a:C o F ae w):C o F ([(b,I)]::ak) w:=a.i6 h.perm
theorem ax{off:Nat}{c:Array Value}{e:TypeId}{e0:Nat×Nat}{v:Value}(h:w.heap[b]? =some (.cells c e e0))(a:c[off]? =some v):w.cell? ⟨b,off,none⟩=some v:=by simp [World.cell?,h,a]
theorem bq{c:Array Value}{e:TypeId}{e0:Nat×Nat}(h:w.heap[b]? =some (.cells c e e0)):Rd w (some ⟨b,0,none⟩) c.toList:=λi v a=>⟨_,j,by rw [add_lit];exact ax h (by simpa using a)⟩
end
theorem Aq{P:Program}{n:Nat}{Z:Env}{w:World}{dst:Option Nat}{ty:TypeId}{pos:String}{after:Array Edge}{g:Option (Nat×Bool)}{x:Operand}{U:Array Value}{i:Nat}{v:Value}
 (d:bt Z x=some (.tuple U)) (c:U[i]? =some v):∀a,cN Z n a->(execOp a.eval ⟨dst,.extract x i,ty,pos,after,g⟩).run P w= .ok (.value v) w:=λa b=>by simp [execOp,b.eval d,Instr.extract,c]
theorem sn{P:Program}{n:Nat}{Z:Env}{w:World}{fn:Func}{t0 c:Nat}{b:Addr}{v0:Value}{d0:TypeDesc}[j:bC P c d0]
 (g:fn.results= #[.cell t0 c]) (i:look Z t0=some (.pointer (some b))) (d:hR d0=false) (e:w.cell? b=some v0):
 ∀a,cN Z n a->(results fn a.tmps).run P w= .ok (v0) w:=λa f=>by
 simp [results,g,asAddr,loadVar,f.get _ _ i,kd j.h,d,e]
theorem zh{P:Program}{n:Nat}{Z:Env}{w:World}{fn:Func}{t0 e:Nat}{b:Addr}{v0:Value}{d0:TypeDesc}[p:bC P e d0]{t1 f:Nat}{c:Addr}{v1:Value}{d1:TypeDesc}[q:bC P f d1]
 (l:fn.results= #[.cell t0 e,.cell t1 f]) (m:look Z t0=some (.pointer (some b))) (g:hR d0=false) (j:w.cell? b=some v0) (o:look Z t1=some (.pointer (some c))) (i:hR d1=false) (k:w.cell? c=some v1):
 ∀a,cN Z n a->(results fn a.tmps).run P w= .ok (.tuple #[v0,v1]) w:=λa d=>by
 simp [results,l,asAddr,loadVar,d.get _ _ m,kd p.h,g,d.get _ _ o,kd q.h,i,j,k]
theorem vn{P:Program}{n:Nat}{Z:Env}{w:World}{fn:Func}{t0 f:Nat}{c:Addr}{v0:Value}{d0:TypeDesc}[u:bC P f d0]{t1 g:Nat}{d:Addr}{v1:Value}{d1:TypeDesc}[v:bC P g d1]{t2 i:Nat}{e:Addr}{v2:Value}{d2:TypeDesc}[x:bC P i d2]
 (q:fn.results= #[.cell t0 f,.cell t1 g,.cell t2 i]) (r:look Z t0=some (.pointer (some c))) (j:hR d0=false) (m:w.cell? c=some v0) (s:look Z t1=some (.pointer (some d))) (k:hR d1=false) (o:w.cell? d=some v1) (t:look Z t2=some (.pointer (some e))) (l:hR d2=false) (p:w.cell? e=some v2):
 ∀a,cN Z n a->(results fn a.tmps).run P w= .ok (.tuple #[v0,v1,v2]) w:=λa b=>by
 simp [results,q,asAddr,loadVar,b.get _ _ r,kd u.h,j,b.get _ _ s,kd v.h,k,b.get _ _ t,kd x.h,l,m,o,p]
class fi(P:Program)where
 kS:TypeId->Nat->Option Nat
 nq:TypeId->Nat
 xu:∀s f off,kS s f=some off->oO P s f off
 ptr:∀t,nq t=1->∃e,P.underlying t=some (.pointer e)
 k7:∀t,nq t=2->∃e,P.underlying t=some (.slice e)
 a8:∀t,nq t=3->P.underlying t=some .bool
 one:TypeId->Bool
 u5:∀t,one t=true->∃d,P.underlying t=some d/\hR d=false
 pE:FuncId->Bool
 ua:∀f,pE f=true->Entry P f
def kX{α:Type}:List (Nat×α)->Nat->Option α
 |[],_=>none
 |(k,v)::r,t=>match Nat.beq k t with
  |true=>some v
  |false=>kX r t
theorem kX.mem{α:Type}:∀{l:List (Nat×α)}{t:Nat}{v:α},kX l t=some v->(t,v)∈l
 |[],_,_,h=>by cases h
 |(k,u)::r,t,v,h=>by
  simp only [kX] at h;split at h
  .rename_i a;cases h;rw [<-iA a];exact qS
  .exact nR _ (kX.mem h)
def uk(P:Program)(s f off:Nat):Bool:=match P.underlying s with
 |some (.struct gw)=>match gw[f]? with
  |some x=>Nat.beq x.offset off&&((P.info? x.type).map (·.size)).any (·!=0)
  |none=>false
 |_=>false
theorem Dn{P:Program}{s f off:Nat}(h:uk P s f off=true):oO P s f off:=by
 unfold uk at h;split at h
 .rename_i gw hu;split at h
  .rename_i x a;simp only [d8] at h;exact⟨gw,x,hu,a,iA h.1,h.2⟩
  .cases h
 .cases h
def pT(P:Program)(t k:Nat):Bool:=match P.underlying t with
 |some (.pointer _)=>Nat.beq k 1
 |some (.slice _)=>Nat.beq k 2
 |some .bool=>Nat.beq k 3
 |_=>false
theorem uC{P:Program}{t k:Nat}(h:pT P t k=true):(k=1/\∃e,P.underlying t=some (.pointer e))\/(k=2/\∃e,P.underlying t=some (.slice e))\/(k=3/\P.underlying t=some .bool):=by
 unfold pT at h;split at h
 .rename_i e he;exact .inl ⟨iA h,e,he⟩
 .rename_i e he;exact .inr (.inl ⟨iA h,e,he⟩)
 .rename_i he;exact .inr (.inr ⟨iA h,he⟩)
 .cases h
def uD(K:List (Nat×Nat))(t:Nat):Nat:=match kX K t with
 |some k=>k
 |none=>0
theorem uE{P:Program}{K:List (Nat×Nat)}(h:(K.all λe=>pT P e.1 e.2)=true){t k:Nat}(a:uD K t=k)(ad:k≠0):pT P t k=true:=by
 unfold uD at a;split at a
 .rename_i u hu;subst a;exact ji.1 h _ (kX.mem hu)
 .exact absurd a.symm ad
def yK(P:Program)(t:Nat):Bool:=match P.underlying t with
 |some d=> !hR d
 |none=>false
def l0:List Nat->Nat->Bool
 |[],_=>false
 |k::r,t=>match Nat.beq k t with
  |true=>true
  |false=>l0 r t
theorem l0.mem:∀{l:List Nat}{t:Nat},l0 l t=true->t∈l
 |[],_,h=>by cases h
 |k::r,t,h=>by
  simp only [l0] at h;split at h
  .rename_i a;rw [<-iA a];exact qS
  .exact nR _ (l0.mem h)
def t9(P:Program)(f:Nat):Bool:=match P.funcs[f]? with
 |some fn=> !(fn.name== "runtime.NumGoroutine")&& !fn.body.isNone
 |none=>false
theorem C3{P:Program}{f:Nat}(h:t9 P f=true):Entry P f:=by
 unfold t9 at h;split at h
 .rename_i fn a;simp only [d8,jY] at h;exact⟨fn,a,h.1,h.2⟩
 .cases h
@[reducible] def fi.make(P:Program)(F:List (Nat×List (Nat×Nat)))(K:List (Nat×Nat))(O:List Nat)(B:Nat)(X:List Nat)(h:((F.all λe=>e.2.all λp=>uk P e.1 p.1 p.2)&&(K.all λe=>pT P e.1 e.2))=true)(j:(O.all λt=>yK P t)=true)(he:((List.range B).all λf=>l0 X f||t9 P f)=true):fi P where
 pE f:=Nat.blt f B&& !l0 X f
 ua f b:=by
  simp only [d8,jY] at b;have g:=ji.1 he f (q4.2 (by simpa [Nat.blt_eq] using b.1));rw [b.2,Bool.false_or] at g;exact C3 g
 one:=l0 O
 u5 t a:=by
  have:=ji.1 j _ (l0.mem a);unfold yK at this;split at this
  .rename_i d i;exact⟨d,i,by simpa using this⟩
  .cases this
 kS s f:=match kX F s with
  |some l=>kX l f
  |none=>none
 nq t:=uD K t
 xu s f off c:=by
  simp only [d8] at h;split at c
  .rename_i l aF;exact Dn (ji.1 (ji.1 h.1 _ (kX.mem aF)) _ (kX.mem c))
  .cases c
 ptr t a:=by
  simp only [d8] at h;rcases uC (uE h.2 a (by decide)) with⟨_,h⟩|⟨h,_⟩|⟨h,_⟩
  .exact h
  .exact absurd h (by decide)
  .exact absurd h (by decide)
 k7 t a:=by
  simp only [d8] at h;rcases uC (uE h.2 a (by decide)) with⟨h,_⟩|⟨_,h⟩|⟨h,_⟩
  .exact absurd h (by decide)
  .exact h
  .exact absurd h (by decide)
 a8 t a:=by
  simp only [d8] at h;rcases uC (uE h.2 a (by decide)) with⟨h,_⟩|⟨h,_⟩|⟨_,h⟩
  .exact absurd h (by decide)
  .exact absurd h (by decide)
  .exact h
def wJ(P:Program)[fi P](op:BinOp)(t:TypeId)(y:Operand):Value->Value->Option Value
 | .int k i,.int dk R=>match decide (k=dk) with
  |true=>evalBin op k i R
  |false=>none
 | .pointer p,.pointer none=>match Nat.beq (fi.nq P t) 1 with
  |true=>match y with
   | .const (.pointer none)=>match op with
    | .eql=>some (.bool p.isNone)
    | .neq=>some (.bool p.isSome)
    |_=>none
   |_=>none
  |false=>none
 | .bool a,.bool b=>match Nat.beq (fi.nq P t) 3 with
  |true=>match op with
   | .eql=>some (.bool (a==b))
   |_=>none
  |false=>none
 |_,_=>none
def vi(P:Program)[fi P](Z:Env):Op->Option Value
 | .move x=>bt Z x
 | .assign x=>bt Z x
 | .nilCheck x=>match bt Z x with
  |some (.pointer (some A))=>some (.pointer (some A))
  |_=>none
 | .fieldAddr s x f=>match fi.kS P s f with
  |some off=>match bt Z x with
   |some (.pointer (some ⟨b,I,none⟩))=>some (.pointer (some ⟨b,I+off,none⟩))
   |_=>none
  |none=>none
 | .pick c x y=>match bt Z c with
  |some (.bool true)=>bt Z x
  |some (.bool false)=>bt Z y
  |_=>none
 | .extract x i=>match bt Z x with
  |some (.tuple U)=>U[i]?
  |_=>none
 | .unOp .not _ x=>match bt Z x with
  |some (.bool b)=>some (.bool (!b))
  |_=>none
 | .binOp op t x y _=>match bt Z x with
  |some u=>match bt Z y with
   |some v=>wJ P op t y u v
   |none=>none
  |none=>none
 | .call ⟨.builtin .len,args,a⟩=>match a.toList with
  |[t]=>match Nat.beq (fi.nq P t) 2 with
   |true=>match fl Z args.toList with
    |some [.slice _ l _]=>some (.int .i64 l)
    |_=>none
   |false=>none
  |_=>none
 |_=>none
theorem y6{P:Program}[j:fi P]{n:Nat}{Z:Env}{op:Op}{v:Value}(h:vi P Z op=some v):(∀c,op≠.defer c)/\∀(dst:Option Nat)(ty:TypeId)(pos:String)(after:Array Edge)(g:Option (Nat×Bool))(w:World)(a:Act),cN Z n a->(execOp a.eval ⟨dst,op,ty,pos,after,g⟩).run P w= .ok (.value v) w:=by
 unfold vi at h;split at h
 .exact⟨(by intro c f;cases f),λ_ _ _ _ _ w a d=>Ay h a d⟩
 .exact⟨(by intro c f;cases f),λ_ _ _ _ _ w a d=>An h a d⟩
 .split at h
  .rename_i i;cases h;exact⟨(by intro c f;cases f),λ_ _ _ _ _ w a d=>AA i a d⟩
  .cases h
 .split at h
  .rename_i o;split at h
   .rename_i i;cases h;have:=fi.xu _ _ _ o;exact⟨(by intro c f;cases f),λ_ _ _ _ _ w a d=>Ar i a d⟩
   .cases h
  .cases h
 .split at h
  .rename_i f;exact⟨(by intro c f;cases f),λ_ _ _ _ _ w a d=>AE f h a d⟩
  .rename_i f;exact⟨(by intro c f;cases f),λ_ _ _ _ _ w a d=>AD f h a d⟩
  .cases h
 .split at h
  .rename_i i;exact⟨(by intro c f;cases f),λ_ _ _ _ _ w a d=>Aq i h a d⟩
  .cases h
 .split at h
  .rename_i i;cases h;exact⟨(by intro c f;cases f),λ_ _ _ _ _ w a d=>AB i a d⟩
  .cases h
 .split at h
  .rename_i u i;split at h
   .rename_i v2 k;refine⟨(by intro c f;cases f),λdst ty pos after g w a d=>?_⟩;unfold wJ at h;split at h
    .split at h
     .rename_i ad;have ad:=dV ad;subst ad;exact fr i k h a d
     .cases h
    .rename_i p;split at h
     .rename_i ad;obtain⟨e,he⟩:=j.ptr _ (iA ad);split at h
      .split at h
       .cases h;simp only [execOp,d.eval i,eval_const,BZ,dW,zn he,dZ,ew]
       .cases h;cases p<;>simp only [execOp,d.eval i,eval_const,B1,dW,zn he,dZ,ew]<;>rfl
       .cases h
      .cases h
     .cases h
    .rename_i aC aS;split at h
     .rename_i ad;have hu:=j.a8 _ (iA ad);split at h
      .cases h;have l:∀t x y a b,(do eqGuard .eql t x y (.bool a) (.bool b);binOp .eql t (.bool a) (.bool b))=(do pure (.bool (<-Op.equal t (.bool a) (.bool b))):Sem Value):=λ_ _ _ _ _=>rfl
       have m:(Op.equal _ (.bool aC) (.bool aS)).run P w= .ok (aC==aS) w:=run_equalIn_bool hu aC aS w 9999;simp only [execOp,d.eval i,d.eval k,l,dW,m,dZ,ew]
      .cases h
     .cases h
    .cases h
   .cases h
  .cases h
 .split at h
  .rename_i t q;split at h
   .rename_i ad;obtain⟨e,he⟩:=j.k7 _ (iA ad);have hu:bC P t (.slice e):=⟨he⟩;split at h
    .rename_i i;cases h;refine⟨(by intro c f;cases f),λdst ty pos after g w a d=>Av (e:=e) (t:=t) ?_ i a d⟩;exact fz q
    .cases h
   .cases h
  .cases h
 .cases h
def sg(n:Fr)(Z:Env):Option Nat->Value->Option Env
 |some d,v=>match Nat.blt d n.n with
  |true=>some ((d,v)::Z)
  |false=>none
 |none,_=>some Z
theorem sh{n:Fr}{Z di:Env}{d:Option Nat}{v:Value}(h:sg n Z d v=some di):da n d=true/\cK Z d v=di:=by
 cases d with
 |none=>cases h;exact⟨j,j⟩
 |some d=>
  simp only [sg] at h;split at h
  .rename_i a;cases h;exact⟨a,j⟩
  .cases h
def oz(P:Program)[fi P](n:Fr)(ops:Array Oper)(Z:Env)(I:Oper):Option Env:=match c0 ops Z I.guard with
 |some true=>match vi P Z I.op with
  |some v=>sg n Z I.dst v
  |none=>none
 |some false=>sg n Z I.dst undef
 |none=>none
section
variable {P:Program} [fi P] {n:Fr} {Z di:Env} {w:World} {Q:d7} {ops:Array Oper} {rest HX:List Oper}
theorem GS{I:Oper}(h:oz P n ops Z I=some di)(ad:O P n ops rest di w Q):O P n ops (I::rest) Z w Q:=by
 unfold oz at h;split at h
 .rename_i d;split at h
  .rename_i v i;obtain⟨b,c⟩:=sh h;obtain⟨e,f⟩:=y6 (n:=n.n) i;rw [<-c] at ad;exact dR d b (λa g=>f I.dst I.type I.pos I.after I.guard w a g) ad (aT:=e)
  .cases h
 .rename_i d;obtain⟨b,c⟩:=sh h;rw [<-c] at ad;exact AR d b ad
 .cases h
def k1(ops:Array Oper):Array Bool->List Nat->Bool
 |_,[]=>true
 |l,i::r=>jK ops l i&&(Region.ready .any ops l).contains i&&k1 ops (l.setIfInBounds i true) r
def qh(l:Array Bool):List Nat->Array Bool
 |[]=>l
 |i::r=>qh (l.setIfInBounds i true) r
def ot(P:Program)[fi P](n:Fr)(ops:Array Oper):List Nat->Env->Option Env
 |[],Z=>some Z
 |i::r,Z=>match ops[i]? with
  |some I=>match oz P n ops Z I with
   |some di=>ot P n ops r di
   |none=>none
  |none=>none
theorem GT{a7:World->Prop}{k:Nat}{l:Array Bool}{i:Nat}{I:Oper}(g:ops[i]? =some I)(aF:calm ops=true)(f:jK ops l i=true)(j:(Region.ready .any ops l).contains i=true)(h:oz P n ops Z I=some di)(e:a7 w)(ad:eM P n ops a7 k (l.setIfInBounds i true) di w (hJ Q)):eM P n ops a7 (k+1) l Z w (hJ Q):=by
 unfold oz at h;split at h
 .rename_i d;split at h
  .rename_i v p;obtain⟨b,c⟩:=sh h;obtain⟨q,m⟩:=y6 (n:=n.n) p;rw [<-c] at ad;exact vN i g aF f j d b e (λw _ a o=>m I.dst I.type I.pos I.after I.guard w a o) ad
  .cases h
 .rename_i d;obtain⟨b,c⟩:=sh h;rw [<-c] at ad;exact AL i g aF f j d b e ad
 .cases h
theorem sU{a7:World->Prop}(aF:calm ops=true)(b:a7 w):∀(is:List Nat){m k:Nat}{l:Array Bool}{Z:Env},Nat.beq is.length m=true->k1 ops l is=true->ot P n ops is Z=some di->eM P n ops a7 k (qh l is) di w (hJ Q)->eM P n ops a7 (k+m) l Z w (hJ Q)
 |[],m,k,l,Z,hm,_,h,ad=>by
  have:m=0:=(iA hm).symm;subst this;cases h;exact ad
 |i::r,m,k,l,Z,hm,a,h,ad=>by
  have hm:=iA hm;simp only [ex] at hm;subst hm;simp only [k1,d8] at a;simp only [ot] at h;split at h
  .rename_i I d;split at h
   .rename_i s1 e;have c:=sU aF b r (m:=r.length) (k:=k) (Nat.beq_refl _) a.2 h ad;exact GT d aF a.1.1 a.1.2 e b c
   .cases h
  .cases h
theorem fM(m:Nat)(is:List Nat){a7:World->Prop}{k:Nat}{l:Array Bool}(c:ot P n ops is Z=some di)(b:a7 w)(h:eM P n ops a7 k (qh l is) di w (hJ Q))(a:(calm ops&&Nat.beq is.length m&&k1 ops l is)=true:=by kernel_rfl):eM P n ops a7 (k+m) l Z w (hJ Q):=by
 simp only [d8] at a;exact sU a.1.1 b is a.1.2 a.2 c h
theorem eL(i:Nat){I:Oper}{v:Value}{a7:World->Prop}{k:Nat}{l:Array Bool}(f:ops[i]? =some I)(c:a7 w)
 (g:∀w,a7 w->∀a,cN Z n.n a->(execOp a.eval I).run P w= .ok (.value v) w) (h:eM P n ops a7 k (l.setIfInBounds i true) (cK Z I.dst v) w (hJ Q)) (e:c0 ops Z I.guard=some true:=by rfl) (d:da n I.dst=true:=by rfl) (b:(calm ops&&k1 ops l [i])=true:=by kernel_rfl):eM P n ops a7 (k+1) l Z w (hJ Q):=by
 simp only [k1,d8] at b;exact vN i f b.1 b.2.1.1 b.2.1.2 e d c g h
theorem d5(i:Nat){I:Oper}{a7:World->Prop}{k:Nat}{l:Array Bool}(a:ops[i]? =some I)
 (h:O P n ops [I] Z w (λe Z w=>match e with| .normal=>a7 w/\eM P n ops a7 k (l.setIfInBounds i true) Z w Q|_=>False)) (b:Region.ready .any ops l=[i]:=by kernel_rfl):eM P n ops a7 (k+1) l Z w Q:=vM i a b h
theorem jN(i:Nat){I:Oper}{a7:World->Prop}{k:Nat}{l:Array Bool}(a:ops[i]? =some I)
 (h:O P n ops [I] Z w (λe Z w=>match e with| .normal=>eM P n ops a7 k (l.setIfInBounds i true) Z w Q|_=>False)) (c:Region.ready .any ops l=[i]:=by kernel_rfl) (b:lx ops i=true:=by kernel_rfl):eM P n ops a7 (k+1) l Z w Q:=vL i a c b h
end
theorem bO{a b:Nat}(h:Nat.ble a b=true:=by rfl):a<=b:=nS h
theorem B9{P:Program}{f:FuncId}{fn:Func}{c:Code}(l:List Value){w:World}{ak:Value->World->Prop}{n:Nat}{rs:Array ResultVar}
 (b:P.funcs[f]? =some fn) (aT:fn.ntmps=n) (e:fn.results=rs)
 (h:W P {n:=n} c (jp 0 l) w (Leaves rs ak)) (a:fn.body=some c:=by rfl) (d:Nat.ble l.length n=true:=by rfl):Calls P f l.toArray w (m7 ak):=Ca b a aT e (nS d) h
abbrev aa(b:Nat):Value:=.pointer (some ⟨b,0,none⟩)
abbrev J(b:Nat)(c:Array Value)(t:TypeId):List Chunk:=[(b,.cells c t (0,0))]
inductive K where
 |base (Q:d7)
 |s (c:Code) (k:K)
 |b (id:Nat) (k:K)
 |l (N:Env->World->Prop) (k:K)
abbrev EH(N:Env->World->Prop)(Q:d7):d7:=λe Z w=>match e with
 | .normal=>N Z w
 |e=>Q e Z w
def den(P:Program)(F:Fr):K->d7
 | .base Q=>Q
 | .s y k=>zP P F y (den P F k)
 | .b i k=>uz i (den P F k)
 | .l N k=>EH N (den P F k)
structure h0 where
 ops:Array Oper
 todo:List Oper
 k:K
 Z:Env
abbrev G(P:Program)(F:Fr)(c:h0)(w:World):Prop:=O P F c.ops c.todo c.Z w (den P F c.k)
def ny:K->K
 | .b _ k=>ny k
 |k=>k
def la(i:Nat):K->Option K
 | .s _ k=>la i k
 | .l _ k=>la i k
 | .b id k=>match Nat.beq i id with
  |true=>some k
  |false=>la i k
 | .base _=>none
def bot:K->d7
 | .base Q=>Q
 | .s _ k=>bot k
 | .l _ k=>bot k
 | .b _ k=>bot k
def ip(P:Program)[fi P](F:Fr):h0->Option h0
 |⟨ops,I::r,k,Z⟩=>match oz P F ops Z I with
  |some di=>some ⟨ops,r,k,di⟩
  |none=>none
 |⟨_,[],k,Z⟩=>match ny k with
  | .s (.seq a b) k=>some ⟨#[],[],.s a (.s b k),Z⟩
  | .s (.block i a) k=>some ⟨#[],[],.s a (.b i k),Z⟩
  | .s .skip k=>some ⟨#[],[],k,Z⟩
  | .s (.exit i) k=>match la i k with
   |some k=>some ⟨#[],[],k,Z⟩
   |none=>none
  | .s (.region _ l false) k=>some ⟨l,l.toList,k,Z⟩
  | .s (.cond x a b) k=>match bt Z x with
   |some (.bool true)=>some ⟨#[],[],.s a k,Z⟩
   |some (.bool false)=>some ⟨#[],[],.s b k,Z⟩
   |_=>none
  |_=>none
def run(P:Program)[fi P](F:Fr):Nat->h0->Option h0
 |0,c=>some c
 |n+1,c=>match ip P F c with
  |some c=>run P F n c
  |none=>none
section
variable {P:Program} {n:Fr} {Z di:Env} {w:World} {Q:d7} {ops hq:Array Oper} {todo hF:List Oper} {k dk:K}
theorem rW{Q hz:d7}{e hc:Exit}{a:Act}{o:World}(h:∀Z,Q e Z w->hz hc Z w)(b:lift n o Q e a w):lift n o hz hc a w:=
 let⟨k,m,Z,d,c⟩:=b
 ⟨k,m,Z,d,h Z c⟩
theorem i5{c:Code}(h:O P n ops [] Z w (den P n (.s c k))):W P n c Z w (den P n k):=λa b hm=>
 let⟨_,m,_,d,hw⟩:=h a b hm
 hw a d m
theorem Hq{c:Code}(h:W P n c Z w (den P n k)):O P n ops [] Z w (den P n (.s c k)):=ao h
theorem AX{Q hz:d7}(c:∀Z,Q .normal Z w->hz .normal Z w)(h:O P n hq [] Z w Q):O P n ops [] Z w hz:=λa b hm=>rW c (h a b hm)
theorem sd:∀(k:K){Z:Env}{w:World},den P n (ny k) .normal Z w->den P n k .normal Z w
 | .b _ k,_,_,h=>sd k h
 | .base _,_,_,h=>h
 | .s _ _,_,_,h=>h
 | .l _ _,_,_,h=>h
theorem qu{i:Nat}:∀(k:K){dk:K},la i k=some dk->∀{Z:Env}{w:World},den P n dk .normal Z w->den P n k (.exit i) Z w
 | .s _ k,_,h,_,_,ad=>qu k h ad
 | .l _ k,_,h,_,_,ad=>qu k h ad
 | .b id k,dk,h,Z,w,ad=>by
  show(match Nat.beq i id with|true=>den P n k .normal Z w|false=>den P n k (.exit i) Z w);simp only [la] at h;split at h
  .cases h;exact ad
  .exact qu k h ad
 | .base _,_,h,_,_,_=>by cases h
theorem pw:∀(k:K){Z:Env}{w:World},bot k .ret Z w->den P n k .ret Z w
 | .s _ k,_,_,h=>pw k h
 | .l _ k,_,_,h=>pw k h
 | .b _ k,_,_,h=>pw k h
 | .base _,_,_,h=>h
theorem sa{i:Nat}:∀(k:K),la i k=none->∀{Z:Env}{w:World},bot k (.exit i) Z w->den P n k (.exit i) Z w
 | .s _ k,h,_,_,ad=>sa k h ad
 | .l _ k,h,_,_,ad=>sa k h ad
 | .b id k,h,Z,w,ad=>by
  show(match Nat.beq i id with|true=>den P n k .normal Z w|false=>den P n k (.exit i) Z w);simp only [la] at h;split at h
  .cases h
  .exact sa k h ad
 | .base _,_,_,_,h=>h
theorem lm{c:Code}{a:K}(b:ny k= .s c a)(h:W P n c Z w (den P n a)):O P n ops [] Z w (den P n k):=
 AX (λ_ d=>sd k (by rw [b];exact d)) (Hq (ops:= #[]) h)
variable [fi P]
theorem E0{c g:h0}(h:ip P n c=some g)(d:G P n g w):G P n c w:=by
 obtain⟨ops,todo,k,Z⟩:=c;cases todo with
 |cons I r=>
  simp only [ip] at h;split at h
  .rename_i s1 aF;cases h;exact GS aF d
  .cases h
 |nil=>
  simp only [ip] at h;split at h
  .rename_i b;cases h;exact lm b (v7 (i5 d))
  .rename_i b;cases h;exact lm b (A1 (i5 d))
  .rename_i b;cases h;exact lm b (λa e hm=>wpIn_skip (d a e hm))
  .rename_i b;split at h
   .rename_i hu;cases h;exact lm b (λa e hm=>wpIn_exit (rW (λ_ i=>qu _ hu i) (d a e hm)))
   .cases h
  .rename_i id l m b;cases h;have:=A7 (id:=id) (l:=l.toList) (P:=P) (n:=n) (Z:=Z) (w:=w) (Q:=den P n m) (by simpa [G] using d);exact lm b (by simpa using this)
  .rename_i b;split at h
   .rename_i f;cases h;exact lm b (v5 f j (i5 d))
   .rename_i f;cases h;exact lm b (v4 f j (i5 d))
   .cases h
  .cases h
theorem mV:∀(m:Nat){c a:h0},run P n m c=some a->G P n a w->G P n c w
 |0,_,_,h,b=>by cases h;exact b
 |m+1,c,a,h,b=>by
  simp only [run] at h;split at h
  .rename_i hm;exact E0 hm (mV m h b)
  .cases h
theorem aq(m:Nat)(h:run P n m ⟨ops,todo,k,Z⟩=some ⟨hq,hF,dk,di⟩)(ad:O P n hq hF di w (den P n dk)):O P n ops todo Z w (den P n k):=mV m h ad
def next(P:Program)[fi P](F:Fr)(m:Nat)(c:h0):Option (Code×K×Env):=match run P F m c with
 |some ⟨_,[],k,Z⟩=>match ny k with
  | .s c k=>some (c,k,Z)
  |_=>none
 |_=>none
theorem ka{m:Nat}{c:h0}{x:Code}(h:next P n m c=some (x,k,Z))(a:W P n x Z w (den P n k)):G P n c w:=by
 unfold next at h;split at h
 .rename_i d;split at h
  .rename_i b;cases h;exact mV m d (lm b a)
  .cases h
 .cases h
theorem bo(m:Nat){x y:Code}{c:Operand}{b:Bool}(h:next P n m ⟨ops,todo,k,Z⟩=some (.cond c x y,dk,di))(a:bt di c=some (.bool b))
 (f:b=true->O P n #[] [] di w (den P n (.s x dk))) (d:b=false->O P n #[] [] di w (den P n (.s y dk))):O P n ops todo Z w (den P n k):=
 ka h (tc a (λe=>i5 (f e)) (λe=>i5 (d e)))
theorem l3(m:Nat){x y:Code}{c:Operand}{b:Bool}(h:next P n m ⟨ops,todo,k,Z⟩=some (.cond c x y,dk,di))(d:bt di c=some (.bool b))(a:b=true)
 (e:O P n #[] [] di w (den P n (.s x dk))):O P n ops todo Z w (den P n k):=ka h (v5 d a (i5 e))
theorem ij(m:Nat){x y:Code}{c:Operand}{b:Bool}(h:next P n m ⟨ops,todo,k,Z⟩=some (.cond c x y,dk,di))(d:bt di c=some (.bool b))(a:b=false)
 (e:O P n #[] [] di w (den P n (.s y dk))):O P n ops todo Z w (den P n k):=ka h (v4 d a (i5 e))
theorem cy(m:Nat){x y:Code}{c:Operand}{p:Prop}[Decidable p](h:next P n m ⟨ops,todo,k,Z⟩=some (.cond c x y,dk,di))(a:bt di c=some (.bool (decide p)))
 (d:p->O P n #[] [] di w (den P n (.s x dk))) (b:¬p->O P n #[] [] di w (den P n (.s y dk))):O P n ops todo Z w (den P n k):=bo m h a (λe=>d (dV e)) (λe=>b (dY e))
theorem dj(m:Nat){cU:Type}{c:Code}(h:next P n m ⟨ops,todo,k,Z⟩=some (.loop c,dk,di))(S:cU->Env)(a:cU->World->Prop)(b:cU->Nat)(i:cU)(aF:sub di (S i))(d:a i w)
 (round:∀i w,a i w->O P n #[] [] (S i) w (den P n (.s c (.l (λZ w=>∃R,sub Z (S R)/\a R w/\b R<b i) dk)))):O P n ops todo Z w (den P n k):=
 ka h (A5 S a b i aF d λi w e=>i5 (k:=.l _ _) (round i w e))
theorem l2 [qF P](m:Nat){id:Nat}{os:Array Oper}(h:next P n m ⟨ops,todo,k,Z⟩=some (.region id os true,dk,di))(a7:World->Prop)
 (a:eM P n os a7 os.size (Array.replicate os.size false) di w.drew (hJ (den P n dk))):O P n ops todo Z w (den P n k):=ka h (A3 a7 a)
theorem lv(m:Nat){x y:Code}(h:next P n m ⟨ops,todo,k,Z⟩=some (.seq x y,dk,di))(M:Env->World->Prop)
 (a:O P n #[] [] di w (den P n (.s x (.l M dk)))) (b:∀Z w,M Z w->O P n #[] [] Z w (den P n (.s y dk))):O P n ops todo Z w (den P n k):=
 ka h (A2 M (i5 (k:=.l _ _) a) λZ w hm=>i5 (b Z w hm))
def wy(P:Program)[fi P](F:Fr)(m:Nat)(c:h0):Option ((Env->World->Prop)×Env):=match run P F m c with
 |some ⟨_,[],k,Z⟩=>match ny k with
  | .l N _=>some (N,Z)
  |_=>none
 |_=>none
theorem bW(m:Nat){N:Env->World->Prop}(h:wy P n m ⟨ops,todo,k,Z⟩=some (N,di))(aT:N di w):O P n ops todo Z w (den P n k):=by
 unfold wy at h;split at h
 .rename_i b;split at h
  .rename_i a;cases h;exact mV m b (ao (sd _ (by rw [a];exact aT)))
  .cases h
 .cases h
def tJ(P:Program)[fi P](F:Fr)(m:Nat)(c:h0):Option (Exit×d7×Env):=match run P F m c with
 |some ⟨_,[],k,Z⟩=>match ny k with
  | .base Q=>some (.normal,Q,Z)
  | .s .ret k=>some (.ret,bot k,Z)
  | .s (.exit i) k=>match la i k with
   |none=>some (.exit i,bot k,Z)
   |some _=>none
  |_=>none
 |_=>none
theorem bH(m:Nat){e:Exit}(h:tJ P n m ⟨ops,todo,k,Z⟩=some (e,Q,di))(b:Q e di w):O P n ops todo Z w (den P n k):=by
 unfold tJ at h;split at h
 .rename_i c;split at h
  .rename_i a;cases h;exact mV m c (ao (sd _ (by rw [a];exact b)))
  .rename_i a;cases h;exact mV m c (lm a (A8 (pw _ b)))
  .rename_i a;split at h
   .rename_i hu;cases h;exact mV m c (lm a (A4 (sa _ hu b)))
   .cases h
  .cases h
 .cases h
theorem an(m:Nat){e:Exit}{rs:Array ResultVar}{ak:Value->World->Prop}{v:Value}(h:tJ P n m ⟨ops,todo,k,Z⟩=some (e,Leaves rs ak,di))(b:qc di rs=some v)(a:ak v w)
 (he:(match e with| .normal| .ret=>true|_=>false)=true:=by rfl):O P n ops todo Z w (den P n k):=
 bH m h (by cases e<;>first|exact⟨v,b,a⟩|cases he)
theorem vq{m:Nat}{c:h0}{I:Oper}{r:List Oper}(h:run P n m c=some ⟨ops,I::r,k,Z⟩)(a:O P n ops (I::r) Z w (den P n k)):G P n c w:=mV m h a
def wx(P:Program)[fi P](F:Fr)(m:Nat)(c:h0):Option (Addr×Option Nat×h0):=match run P F m c with
 |some ⟨ops,⟨dst,.load t x,_,_,_,g⟩::r,k,Z⟩=>match fi.one P t with
  |true=>match c0 ops Z g with
   |some true=>match da F dst with
    |true=>match bt Z x with
     |some (.pointer (some A))=>some (A,dst,⟨ops,r,k,Z⟩)
     |_=>none
    |false=>none
   |_=>none
  |false=>none
 |_=>none
theorem ar(m:Nat){A:Addr}{dst:Option Nat}{v:Value}(h:wx P n m ⟨ops,todo,k,Z⟩=some (A,dst,⟨hq,hF,dk,di⟩))(g:w.cell? A=some v)
 (ad:O P n hq hF (cK di dst v) w (den P n dk)):O P n ops todo Z w (den P n k):=by
 unfold wx at h;split at h
 .rename_i j;split at h
  .rename_i a;split at h
   .rename_i b;split at h
    .rename_i c;split at h
     .rename_i e;cases h;obtain⟨d,i,f⟩:=fi.u5 _ a;have:bC P _ d:=⟨i⟩;exact vq j (nI b c e f g ad)
     .cases h
    .cases h
   .cases h
  .cases h
 .cases h
def tH(P:Program)[fi P](F:Fr)(m:Nat)(c:h0):Option (FuncId×List Value×Option Nat×h0):=match run P F m c with
 |some ⟨ops,⟨dst,.call ⟨.value (.func f),args,_⟩,_,_,_,g⟩::r,k,Z⟩=>match c0 ops Z g with
  |some true=>match da F dst with
   |true=>match fi.pE P f with
    |true=>match fl Z args.toList with
     |some U=>some (f,U,dst,⟨ops,r,k,Z⟩)
     |_=>none
    |false=>none
   |false=>none
  |_=>none
 |_=>none
theorem bk(m:Nat){f:FuncId}{dst:Option Nat}{U:List Value}{ak:Value->World->Prop}(e:Calls P f U.toArray w ak)(h:tH P n m ⟨ops,todo,k,Z⟩=some (f,U,dst,⟨hq,hF,dk,di⟩))
 (ad:∀v aJ,ak v aJ->O P n hq hF (cK di dst v) aJ (den P n dk)):O P n ops todo Z w (den P n k):=by
 unfold tH at h;split at h
 .rename_i g;split at h
  .rename_i b;split at h
   .rename_i c;split at h
    .rename_i a;split at h
     .rename_i d;cases h;have:=fi.ua _ a;exact vq g (vP b c d e ad)
     .cases h
    .cases h
   .cases h
  .cases h
 .cases h
def mL(P:Program)[fi P](F:Fr)(m:Nat)(c:h0):Option (Op×Option Nat×h0):=match run P F m c with
 |some ⟨ops,⟨dst,I,_,_,_,g⟩::r,k,Z⟩=>match c0 ops Z g with
  |some true=>match da F dst with
   |true=>some (I,dst,⟨ops,r,k,Z⟩)
   |false=>none
  |_=>none
 |_=>none
theorem n4{m:Nat}{c:h0}{I:Op}{dst:Option Nat}(h:mL P n m c=some (I,dst,⟨ops,todo,k,Z⟩))(ad:∀ty pos after g,c0 ops Z g=some true->da n dst=true->O P n ops (⟨dst,I,ty,pos,after,g⟩::todo) Z w (den P n k)):G P n c w:=by
 unfold mL at h;split at h
 .rename_i d;split at h
  .rename_i a;split at h
   .rename_i b;cases h;exact vq d (ad _ _ _ _ a b)
   .cases h
  .cases h
 .cases h
variable {o:World} {F:List Nat} {ae:List (List Chunk)} {dst:Option Nat} {v:Value}
theorem bJ(m:Nat){t:TypeId}{x:Operand}(a:C o F ae w)(h:mL P n m ⟨ops,todo,k,Z⟩=some (.box t x,dst,⟨hq,hF,dk,di⟩))(e:bt di x=some v)
 (ad:∀b aJ,C o F ([(b,.cells v.cells t (0,0))]::ae) aJ->O P n hq hF (cK di dst (.pointer (some ⟨b,0,none⟩))) aJ (den P n dk)):O P n ops todo Z w (den P n k):=
 n4 h λ_ _ _ _ d c=>ld a d c e ad
theorem cx(m:Nat){t:TypeId}{z:Value}{size bytes:Nat}[e:cq P t z size bytes](a:C o F ae w)(h:mL P n m ⟨ops,todo,k,Z⟩=some (.alloc t,dst,⟨hq,hF,dk,di⟩))
 (ad:∀b aJ,C o F ([(b,.cells z.cells t (0,0))]::ae) aJ->O P n hq hF (cK di dst (.pointer (some ⟨b,0,none⟩))) aJ (den P n dk)):O P n ops todo Z w (den P n k):=
 n4 h λ_ _ _ _ d c=>eu a d c ad
theorem dE(m:Nat){t:TypeId}{x y:Operand}{z:Value}{bytes:Nat}{b off:Nat}{c:Array Value}{e:TypeId}[l:cq P t z 1 bytes](a:C o F ([(b,.cells c e (0,0))]::ae) w)
 (h:mL P n m ⟨ops,todo,k,Z⟩=some (.store t x y,none,⟨hq,hF,dk,di⟩)) (i:bt di x=some (.pointer (some ⟨b,off,none⟩))) (j:bt di y=some v) (g:v.oneCell'=true)
 (ad:∀aJ,C o F ([(b,.cells (c.setIfInBounds off v) e (0,0))]::ae) aJ->O P n hq hF di aJ (den P n dk)) (d:Nat.ble (off+1) c.size=true:=by rfl):O P n ops todo Z w (den P n k):=
 n4 h λ_ _ _ _ f _=>cO a f i j g (nS d) ad
theorem cv(m:Nat){t:TypeId}{x y:Operand}{z:Value}{size bytes:Nat}{b off:Nat}{c:Array Value}{e:TypeId}{U:Array Value}[p:cq P t z size bytes](a:C o F ([(b,.cells c e (0,0))]::ae) w)
 (h:mL P n m ⟨ops,todo,k,Z⟩=some (.store t x y,none,⟨hq,hF,dk,di⟩)) (j:bt di x=some (.pointer (some ⟨b,off,none⟩))) (l:bt di y=some (.agg U)) (i:U.toList.all (·.oneCell')=true) (g:U.size=size)
 (ad:∀aJ,C o F ([(b,.cells (setCells c off U.toList) e (0,0))]::ae) aJ->O P n hq hF di aJ (den P n dk)) (d:Nat.ble (off+size) c.size=true:=by rfl):O P n ops todo Z w (den P n k):=
 n4 h λ_ _ _ _ f _=>c6 a f j l i g (nS d) ad
theorem bP(m:Nat){t:TypeId}{d:TypeDesc}{x:Operand}{A:Addr}{U:List Value}{z:Value}{size bytes:Nat}[hu:bC P t d][i:cq P t z size bytes]
 (h:mL P n m ⟨ops,todo,k,Z⟩=some (.load t x,dst,⟨hq,hF,dk,di⟩)) (g:bt di x=some (.pointer (some A))) (f:U.length=size) (b:Rd w (some A) U)
 (ad:O P n hq hF (cK di dst (.agg U.toArray)) w (den P n dk)) (a:hR d=true:=by rfl):O P n ops todo Z w (den P n k):=
 n4 h λ_ _ _ _ e c=>lM e c g a f b ad
theorem bE(m:Nat){op:BinOp}{t f:TypeId}{x y:Operand}{cz:IntKind}{i R:Int}(h:mL P n m ⟨ops,todo,k,Z⟩=some (.binOp op t x y f,dst,⟨hq,hF,dk,di⟩))(d:bt di x=some (.int cz i))(e:bt di y=some (.int cz R))(c:evalBin op cz i R=some v)
 (ad:O P n hq hF (cK di dst v) w (den P n dk)):O P n ops todo Z w (den P n k):=
 n4 h λ_ _ _ _ b a=>AO b a d e c ad
theorem cS{Q:d7}{rest:List Oper}{ty:TypeId}{pos:String}{after:Array Edge}{g:Option (Nat×Bool)}{f:FuncId}{e:Array TypeId}{args:Array Operand}{U:List Value}{ak:Value->World->Prop}(c:c0 ops Z g=some true)(b:da n dst=true)
 (d:fl Z args.toList=some U) (a:Calls P f U.toArray w ak)
 (h:∀v aJ,ak v aJ->O P n ops rest (cK Z dst v) aJ Q) (he:fi.pE P f=true:=by rfl):O P n ops (⟨dst,.call ⟨.value (.func f),args,e⟩,ty,pos,after,g⟩::rest) Z w Q:=
 have:=fi.ua _ he
 vP c b d a h
end
theorem gV{P:Program}{f:FuncId}{fn:Func}{c:Code}(l:List Value){w:World}{ak:Value->World->Prop}{n:Nat}{rs:Array ResultVar}
 (b:P.funcs[f]? =some fn) (aT:fn.ntmps=n) (e:fn.results=rs)
 (h:O P {n:=n} #[] [] (jp 0 l) w (den P {n:=n} (.s c (.base (Leaves rs ak))))) (a:fn.body=some c:=by rfl) (d:Nat.ble l.length n=true:=by rfl):Calls P f l.toArray w (m7 ak):=B9 l b aT e (i5 (k:=.base _) h) a d
theorem B8{P:Program}{f:FuncId}{fn:Func}{c:Code}(l:List Value){w:World}{ak:Value->World->Prop}{n:Nat}
 (b:P.funcs[f]? =some fn) (aT:fn.ntmps=n)
 (h:O P {n:=n} #[] [] (jp 0 l) w (den P {n:=n} (.s c (.base (s3 P n fn ak))))) (a:fn.body=some c:=by rfl) (d:Nat.ble l.length n=true:=by rfl):Calls P f l.toArray w (m7 ak):=
 Cb b a aT (nS d) (i5 (k:=.base _) h)
theorem n8{P:Program}{f:FuncId}{fn:Func}{c:Code}(l:List Value){w:World}{ak:Value->World->Prop}{n:Nat}
 (d:P.funcs[f]? =some fn) (aT:fn.ntmps=n)
 (h:O P {n:=n,m:=true,b:=w.heap.size} #[] [] (jp 0 l) w (den P {n:=n,m:=true,b:=w.heap.size} (.s c (.base (s4 P n fn w.heap.size ak))))) (a:fn.body=some c:=by rfl) (e:Nat.ble l.length n=true:=by rfl):Calls P f l.toArray w ak:=
 Cc d a aT (nS e) (i5 (k:=.base _) h)
theorem a6{P:Program}{f:FuncId}{fn:Func}{c:Code}{l:List Value}{w:World}{ak:Value->World->Prop}(b:P.funcs[f]? =some fn)
 (h:O P {n:=fn.ntmps} #[] [] (jp 0 l) w (den P {n:=fn.ntmps} (.s c (.base (Leaves fn.results ak))))) (a:fn.body=some c:=by rfl) (d:Nat.ble l.length fn.ntmps=true:=by rfl):Calls P f l.toArray w (m7 ak):=gV l b j j h a d
theorem fj{P:Program}{f:FuncId}{fn:Func}{c:Code}{l:List Value}{w:World}{ak:Value->World->Prop}(b:P.funcs[f]? =some fn)
 (h:O P {n:=fn.ntmps} #[] [] (jp 0 l) w (den P {n:=fn.ntmps} (.s c (.base (s3 P fn.ntmps fn ak))))) (a:fn.body=some c:=by rfl) (d:Nat.ble l.length fn.ntmps=true:=by rfl):Calls P f l.toArray w (m7 ak):=B8 l b j h a d
theorem jH{P:Program}{f:FuncId}{fn:Func}{c:Code}{l:List Value}{w:World}{ak:Value->World->Prop}(d:P.funcs[f]? =some fn)
 (h:O P {n:=fn.ntmps,m:=true,b:=w.heap.size} #[] [] (jp 0 l) w (den P {n:=fn.ntmps,m:=true,b:=w.heap.size} (.s c (.base (s4 P fn.ntmps fn w.heap.size ak))))) (a:fn.body=some c:=by rfl) (e:Nat.ble l.length fn.ntmps=true:=by rfl):Calls P f l.toArray w ak:=n8 l d j h a e
theorem c5{P:Program}{n:Fr}{Z:Env}{w:World}{ops:Array Oper}{b:K}{a7:World->Prop}{k:Nat}{l:Array Bool}(h:O P n #[] [] Z w (den P n b))(d:Region.ready .any ops l=[]:=by kernel_rfl):eM P n ops a7 k l Z w (hJ (den P n b)):=λa e hm=>by
 have c:=rW (hz:=hJ (den P n b)) (hc:=.normal) (λ_ h=>h) (h a e hm);cases k with
 |zero=>exact⟨d,c⟩
 |succ k=>exact⟨λ_=>c,by rw [d];simp⟩
theorem jM{P:Program}[fi P](m:Nat){ops:Array Oper}{todo:List Oper}{k dk:K}{Q:Env}{n:Fr}{Z:Env}{w:World}{α:Type}{g:Operand}{cE:Array Tmp}{assign body:Code}(ab:next P n m ⟨ops,todo,k,Q⟩=some (.rangeFunc g cE assign body,dk,Z)){z:FuncId}{be:Array Value}[av:Entry P z]
 {H ae:List (List Chunk)} {J:List (List Chunk)->World->Prop} {T:List (List Chunk)->Prop} {enc:α->Array Value} {A:List α->α->Prop} {S:List α->Prop} {o:World} {F:List Nat}
 (ak:Iter P z be H J T enc A S) (aT:n={n:=n.n,r:=none,m:=true,b:=n.b}) (al:n.b<=w.heap.size) (ac:C o F (H++ae) w)
 (aj:bt Z g=some (.func (.func z) #[] be)) (an:∀x,(enc x).size=cE.size) (am:∀p∈cE,Nat.blt p n.n=true)
 (f:List α->List (List Chunk)->Prop) (X:Exit->List (List Chunk)->Prop) (U:f [] ae) (ah:∀L aJ,C w [] [L] aJ->J (ae++[L]) aJ) (ag:∀pre ae L,f pre ae->T (ae++[L]))
 (round:∀(l:Nat)(pre:List α)(x:α)(t:List (List Chunk))(L:List Chunk)(c:World),A pre x->f pre t->C o F (H++(t++[L])) c->
  O P {n:=n.n,r:=some l} #[] [] ((cE.toList.zip (enc x).toList).reverse++Z) c (den P {n:=n.n,r:=some l} (.s assign (.base (λe R N=>e= .normal/\∃u,C c (au t) u N/\
   ∀(L:List Chunk)(v:World),C o F (H++(u++[L])) v->O P {n:=n.n,r:=some l} #[] [] R v (den P {n:=n.n,r:=some l} (.s body (.base (λe _ ar=>∃y,C v (au u) y ar/\
    (match e with
     | .normal=>f (pre++[x]) y
     | .ret=>X .ret y
     | .exit id=>X (.exit id) y
     |_=>False))))))))))
 (done:∀xs fs aJ,S xs->f xs fs->C o F (H++fs) aJ->O P n #[] [] Z aJ (den P n dk))
 (aq:∀fs aJ,X .ret fs->C o F (H++fs) aJ->bot dk .ret Z aJ)
 (ap:∀id fs aJ,X (.exit id) fs->C o F (H++fs) aJ->∃q,la id dk=some q/\O P n #[] [] Z aJ (den P n q)):O P n ops todo Q w (den P n k):=by
 refine ka ab ?_
 have key:W P n (.rangeFunc g cE assign body) Z w (λe I aJ=>I=Z/\(match e with| .normal=>O P n #[] [] Z aJ (den P n dk)| .ret=>bot dk .ret Z aJ| .exit id=>∃q,la id dk=some q/\O P n #[] [] Z aJ (den P n q)|_=>False)):=by
  refine A6 ak aT al ac aj an am f X U ah ag (λl pre x t L c B D i=>?_) (λxs af c B D i=>⟨j,done xs af c B D i⟩) (λe af c he M i=>?_)
  .refine v6 (i5 (k:=.base _) (round l pre x t L c B D i)) ?_;rintro e R N ⟨he,u,V,Y⟩;exact⟨he,u,V,λL v aa=>i5 (k:=.base _) (Y L v aa)⟩
  .rcases he with rfl|⟨id,rfl⟩
   .exact⟨j,aq af c M i⟩
   .exact⟨j,ap id af c M i⟩
 intro a ai hm;refine kn (key a ai hm) λe cl c⟨ad,G,I,E,ao,d⟩=>?_
 subst ao;cases e with
 |normal=>exact lift.from ad (d cl E G)
 |ret=>exact⟨ad,G,I,E,pw _ d⟩
 |exit id=>
  obtain⟨q,hu,d⟩:=d;exact lift.from ad (rW (λ_ h=>qu _ hu h) (d cl E G))
 |goto l=>exact d.elim
 |panic gu=>exact d.elim
 |outgrown=>exact d.elim
end Go.Proofs.YtmholjbhjcpkhaaGreatDoor.R
