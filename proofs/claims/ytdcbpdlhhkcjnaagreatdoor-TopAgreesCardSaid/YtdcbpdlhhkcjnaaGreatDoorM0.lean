/- Part 0 of the proof. -/
import Derived.Deep.Matrix
import Derived.Deep.Quiet
import Derived.Ground.SlgmProg
import Derived.KernelRfl
import Derived.Laws.BytesArg
import Derived.Laws.Concat
import Derived.Laws.IdiomRangeMap
import Derived.Laws.MakeOwn
import Derived.Laws.Slices
import Derived.Laws.Strings3
import Derived.Laws.StructEq
import Derived.Lib.ConvBytes
import Derived.Lib.MakeNoZero
import Derived.MapKept
import Derived.Maps.RangeRun
import Derived.OpenShut
import Derived.OrdersIn
import Derived.ProofKit
import Derived.RangeFuncLeaves
import Derived.RangeFuncSeq
import Derived.Shelf.SlGeneric
import Derived.Shelf.SortM.Plain
import Derived.Shelf.SortM.SortNone
import Derived.SizedLaws
import Derived.Sort.OwnSortedInts
import Derived.Stop.BytesEq
import Derived.Test.YtdcbpdlhhkcjnaaGreatDoorProg
import Derived.Test.YtdcbpdlhhkcjnaaGreatDoorSy
import Derived.WalkKit
import Derived.WideShapes
set_option linter.defProp false
set_option linter.unusedVariables false
set_option linter.unusedSimpArgs false
set_option linter.unusedSectionVars false
set_option maxRecDepth 20000
set_option maxHeartbeats 4000000
namespace Go.Proofs.YtdcbpdlhhkcjnaaGreatDoor.R
open Go.Proofs.Tryz Go Go.RowKit
def a6:=@if_pos
def aF:=@if_neg
def gp:=@Array.getElem?_eq_some_iff
def hr:=@Option.some.inj
def lw:=@Go.CallsIn.mono
def pT:=@Go.RoundIn.mono
def kC:=@Go.wpIn_mono
def kh:=@if_true
def nG:=@Go.Oper.semAt_eq
def tO:=@Array.toArray_toList
def kA:=@List.getElem?_eq_none
def cB:=@Nat.le_refl
def kd:=@List.flatten_cons
def dA:=@List.mem_append
def jP:=@List.map_append
def iy:=@List.nodup_append
def dT:=@List.mem_map
def g5:=@List.flatten_append
def ed:=@Nat.le_trans
def tI:=@Nat.lt_of_lt_of_le
def rr:=@Array.getElem?_modify
def lu:=@List.eq_nil_of_length_eq_zero
def jw:=@List.getElem?_take
def ch:=@Nat.zero_le
def ca:=@List.length_append
def ke:=@Nat.mul_le_mul_right
def tJ:=@Array.toList_append
def dH:=@List.append_assoc
def l2:=@List.take_left
def rt:=@Nat.eq_zero_or_pos
def d6:=@Go.run_underlying
def fk:=@Nat.zero_add
def kB:=@List.nil_append
def mT:=@Nat.add_mul
def hq:=@List.size_toArray
def dR:=@Go.Sem.run_bind
def dU:=@Go.Result.andThen_ok
def ee:=@Go.Sem.run_pure
def pQ:=@Go.run_loadCells_list
def l3:=@Go.run_program
def fu:=@Array.ext'
def hj:=@Array.toList_map
def ou:=@List.map_map
def pR:=@Array.empty_append
def ep:=@List.length_cons
def tK:=@List.zip_cons_cons
def ck:=@List.getElem?_eq_getElem
def lv:=@if_false
def g6:=@List.append_nil
def ga:=@List.length_nil
def ov:=@Nat.add_zero
def mU:=@List.take_append_drop
def d8:=@Bool.and_eq_true
def kf:=@List.any_eq_true
def dX:=@beq_iff_eq
def jQ:=@List.all_eq_true
def mV:=@List.mem_range
def ow:=@Go.mem_ready
def ox:=@Decidable.em
def pS:=@Array.getD_eq_getD_getElem?
def tL:=@Array.getElem?_setIfInBounds_self_of_lt
def pU:=@Array.getElem?_setIfInBounds_ne
def mW:=@Bool.or_eq_true
def gb:=@List.mem_singleton
def l4:=@Go.IntKind.wrap_u8
def oy:=@BitVec.ofInt_natCast
def jx:=@Nat.mod_lt
def oz:=@UInt8.toNat_ofNat'
def tM:=@Int.fdiv_eq_ediv_of_nonneg
def oA:=@Go.IntKind.wrap_u64
def jR:=@Go.IntKind.wrap_i64
def aL:=@congrArg
def nE:=@BitVec.toNat_ofNat
def jS:=@List.flatMap_cons
def kg:=@List.drop_eq_getElem_cons
def lx:=@List.getElem?_drop
def ru:=@Nat.add_assoc
def gT:=@Nat.mul_one
def iP:=@List.length_drop
def l5:=@Int.toNat_natCast
def rv:=@Nat.mul_le_mul
def ry:=@Nat.mod_eq_of_lt
def rz:=@Go.beq_toListBytes
def rA:=@Nat.lt_trichotomy
def nF:=@List.getElem?_cons_succ
def rB:=@Array.ext_getElem?
def tN:=@Array.getElem?_eq_none
def mX:=@Bool.eq_iff_iff
def oB:=@List.map_congr_left
def gd:=@List.mem_cons
def mY:=@List.getElem?_toArray
def jy:=@List.getElem?_append_right
def iz:=@List.getElem?_append_left
def mZ:=@dif_pos
def il:=@List.take_of_length_le
def fa:=@List.getElem?_eq_some_iff
def oC:=@List.Perm.append_right
def ly:=@List.perm_append_comm
def rC:=@Go.World.putObj_heap_other
def l6:=@List.nodup_cons
def gn:=@List.getElem?_map
def hZ:=@List.mem_of_getElem?
def oa:=@List.getElem?_of_mem
def ob:=@List.pairwise_iff_getElem
def mN:=@Go.MapKept.run_getObj_map
def rf:=@Go.MapKept.run_setObj_map
def ny:=@List.ext_getElem?
def pE:=@Array.getElem?_toList
def tv:=@List.getElem?_set
def pF:=@Go.MapKept.heap_set
def rg:=@Option.getD_none
def rh:=@Option.isSome_none
def l1:=@Option.getD_some
def oc:=@Option.isSome_some
def hL:=@List.mem_filter
def tw:=@List.pairwise_map
def ix:=@List.foldl_cons
def od:=@Nat.zero_mul
def oe:=@List.Perm.refl
def of:=@List.mem_cons_self
def lr:=@List.mem_cons_of_mem
def kc:=@Bool.not_eq_true'
def br:=@of_decide_eq_true
def og:=@Nat.le_of_ble_eq_true
def nz:=@List.range_succ
def tx:=@List.replicate_succ
def bw:=@of_decide_eq_false
def fy:=@List.length_map
def ri:=@List.drop_drop
def mO:=@Nat.min_eq_left
def fF:=@List.take_succ_eq_append_getElem
def gy:=@List.take_length
def ff:=@decide_eq_false
def hi:=@List.length_take
def oh:=@decide_eq_decide
def rj:=@decide_eq_false_iff_not
def tz:=@List.drop_of_length_le
def nA:=@List.flatMap_append
def ek:=@List.getElem_mem
def jO:=@List.map_cons
def rk:=@List.map_nil
def jb:=@decide_eq_true
def oi:=@Bool.false_and
def hM:=@List.length_mergeSort
def tA:=@List.pairwise_mergeSort
def oj:=@List.mergeSort_perm
def tB:=@List.map_mergeSort
def gS:=@List.mem_mergeSort
def fq:=@beq_eq_false_iff_ne
def mP:=@List.filter_append
def ol:=@List.length_filter_le
def nB:=@List.mem_flatMap
def g4:=@Option.isSome_iff_exists
def pG:=@List.Perm.append_left
def pH:=@List.take_append
def tC:=@List.mem_of_mem_eraseIdx
def mQ:=@List.flatten_nil
def eo:=@Nat.le_succ
def pI:=@Nat.succ_le_succ
def om:=@List.filter_cons
def gL:=@decide_eq_true_eq
def pJ:=@List.exists_of_findSome?_eq_some
def pK:=@Int.toNat_of_nonneg
def rl:=@List.set_cons_zero
def pL:=@List.mem_or_eq_of_mem_set
def hp:=@List.length_set
def rm:=@Int.le_trans
def rn:=@List.any_append
def nC:=@List.foldl_append
def mR:=@List.mem_of_mem_take
def gz:=@Nat.le_add_right
def ik:=@Int.le_refl
def oo:=@List.length_zip
def tD:=@List.dropWhile_cons
def pM:=@List.length_eq_zero_iff
def nD:=@Bool.and_false
def oq:=@List.prefix_refl
def tE:=@List.set_append_right
def tF:=@List.mem_iff_getElem
def pN:=@List.findIdx?_eq_some_iff_getElem
def rp:=@List.getElem_map
def rq:=@Go.Value.slice.injEq
def pO:=@List.getElem?_set_self
def pP:=@List.getElem?_set_ne
def iO:=@List.getD_eq_getElem?_getD
def ot:=@List.length_replicate
def tG:=@List.setIfInBounds_toArray
def tH:=@List.getElem_append_right
def mS:=@Go.DataW.trod_int
def j:=@rfl
def ba:=True.intro
abbrev Env:=List (Nat×Value)
def look:Env->Nat->Option Value
 |[],_=>none
 |(k,v)::r,t=>match Nat.beq k t with
  |true=>some v
  |false=>look r t
def bs(aa:Env):Operand->Option Value
 | .tmp t=>look aa t
 | .const v=>some v
 | .func f=>some (.func (.func f) #[] #[])
 | .global g=>some (.pointer (some ⟨g,0,none⟩))
def fo(aa:Env):List Operand->Option (List Value)
 |[]=>some []
 |x::r=>match bs aa x with
  |some v=>match fo aa r with
   |some U=>some (v::U)
   |none=>none
  |none=>none
structure cG(aa:Env)(n:Nat)(a:Act):Prop where
 size:a.tmps.size=n
 get:∀t v,look aa t=some v->a.tmps[t]? =some v
theorem cG.eval{aa:Env}{n:Nat}{a:Act}(h:cG aa n a){x:Operand}{v:Value}(b:bs aa x=some v):a.eval x=v:=by
 cases x with
 |tmp t=>
  have:=h.get t v b
  simp [Act.eval,this]
 |const u=>simpa [bs,Act.eval] using b
 |global g=>simpa [bs,Act.eval] using b
 |func f=>simpa [bs,Act.eval] using b
theorem cG.hl{aa:Env}{n:Nat}{a:Act}(h:cG aa n a):∀{xs:List Operand}{U:List Value},fo aa xs=some U->xs.map a.eval=U:=by
 intro xs
 induction xs with
 |nil=>intro U b;simp [fo] at b;simp [b]
 |cons x r e=>
  intro U b
  simp only [fo] at b
  split at b
  .rename_i v d
   split at b
   .rename_i us c
    cases b
    simp [h.eval d,e c]
   .cases b
  .cases b
theorem iM{k t:Nat}(h:Nat.beq k t=true):k=t:=Nat.eq_of_beq_eq_true h
theorem wc{k t:Nat}(h:Nat.beq k t=false):k≠t:=Nat.ne_of_beq_eq_false h
theorem cG.put{aa:Env}{n:Nat}{a:Act}(h:cG aa n a){d:Nat}(c:Nat.blt d n=true)(v:Value):cG ((d,v)::aa) n (a.put (some d) v):=by
 have e:d<n:=by simpa [Nat.blt_eq] using c
 refine⟨by simp [Act.put,h.size],λt u hu=>?_⟩
 simp only [look] at hu
 simp only [Act.put,Array.getElem?_setIfInBounds]
 split at hu
 .rename_i b
  cases hu
  rw [a6 (iM b)]
  have:=iM b
  subst this
  simp [h.size,e]
 .rename_i b
  rw [aF (wc b)]
  exact h.get t u hu
theorem cG.tell{aa:Env}{n:Nat}{a:Act}(h:cG aa n a){d:Nat}{v:Value}(c:look aa d=some v):cG ((d,v)::aa) n a:=by
 refine⟨h.size,λt u hu=>?_⟩
 simp only [look] at hu
 split at hu
 .rename_i b
  cases hu
  rw [<-iM b]
  exact h.get _ _ c
 .exact h.get _ _ hu
def sub(aa:Env):Env->Prop
 |[]=>True
 |(t,v)::r=>look aa t=some v/\sub aa r
theorem sub.look{aa:Env}:∀{a:Env},sub aa a->∀t v,look a t=some v->R.look aa t=some v:=by
 intro a
 induction a with
 |nil=>intro _ t v h;simp [R.look] at h
 |cons c r d=>
  intro aM t v h
  obtain⟨k,u⟩:=c
  simp only [R.look] at h
  split at h
  .rename_i b
   cases h
   rw [<-iM b]
   exact aM.1
  .exact d aM.2 t v h
theorem cG.vW{aa b:Env}{n:Nat}{a:Act}(h:cG aa n a)(aM:sub aa b):cG b n a:=
 ⟨h.size,λt v c=>h.get t v (aM.look t v c)⟩
abbrev d5:=Exit->Env->World->Prop
structure Fr where
 n:Nat
 r:Option Nat:=none
 m:Bool:=false
 b:Nat:=0
abbrev jM(r:Option Nat):Fence:={Fence.wide with round:=r}
def oI(D:Nat):Deferred:={target:=.collected D,args:= #[]}
def cS(w aI:World):Prop:=∀D:Nat,w.heap[D]? =some (.deferred (some []))->aI.heap[D]? =some (.deferred (some []))
theorem cS.refl(w:World):cS w w:=λ_ h=>h
theorem cS.trans{w a b:World}(h:cS w a)(k:cS a b):cS w b:=λD c=>k D (h D c)
theorem cS.drew(w:World):cS w w.drew:=λ_ h=>h
theorem qj(w:World)(I:Obj){k:Nat}(h:k<w.heap.size):(w.alloc I).heap[k]? =w.heap[k]? :=by
 show(w.heap.push I)[k]? =_
 rw [Array.getElem?_push,aF (by omega)]
theorem cS.alloc(w:World)(I:Obj):cS w (w.alloc I):=λD a=>by
 rw [qj w I (gp.1 a).1];exact a
theorem cS.lk{w aI:World}{b:Nat}{I:Obj}(c:w.heap[b]? =some I)(d:I≠.deferred (some []))(ad:∀k,k≠b->aI.heap[k]? =w.heap[k]?):cS w aI:=λD a=>by
 rw [ad D (λe=>d (by subst e;rw [c] at a;exact hr a))];exact a
theorem cS.cells{w aI:World}{b:Nat}{c:Array Value}{e:TypeId}{f:Nat×Nat}(a:w.heap[b]? =some (.cells c e f))(ad:∀k,k≠b->aI.heap[k]? =w.heap[k]?):cS w aI:=cS.lk a (by simp) ad
theorem cS.grown{w aI:World}{b:Nat}{c:Array Value}{e:TypeId}{f:Nat×Nat}(d:w.heap[b]? =some (.cells c e f))(g:∀k,k<w.heap.size->k≠b->aI.heap[k]? =w.heap[k]?):cS w aI:=λD a=>by
 rw [g D (gp.1 a).1 (λh=>by subst h;rw [d] at a;cases a)];exact a
def Marks(F:Fr)(w:World)(c:List Deferred):Prop:=∃a:List Nat,c=a.map oI/\(F.m=false->a=[])/\a.Nodup/\∀D∈a,F.b<=D/\w.heap[D]? =some (.deferred (some []))
theorem Marks.fP{F:Fr}{w aI:World}{a:List Deferred}(h:Marks F w a)(k:cS w aI):Marks F aI a:=by
 obtain⟨d,e,f,g,b⟩:=h
 exact⟨d,e,f,g,λD c=>⟨(b D c).1,k D (b D c).2⟩⟩
theorem Marks.nil(F:Fr)(w:World):Marks F w []:=⟨[],j,λ_=>rfl,List.nodup_nil,by simp⟩
def lift(F:Fr)(o:World)(Q:d5):Exit->Act->World->Prop:=λe a w=>cS o w/\Marks F w a.defers/\∃aa,cG aa F.n a/\Q e aa w
theorem lift.from{F:Fr}{o b:World}{Q:d5}(k:cS o b){e:Exit}{a:Act}{w:World}(h:lift F b Q e a w):lift F o Q e a w:=⟨k.trans h.1,h.2⟩
def W(P:Program)(F:Fr)(c:Code)(aa:Env)(w:World)(Q:d5):Prop:=∀a,cG aa F.n a->Marks F w a.defers->c.wpIn (jM F.r) 0 P (lift F w Q) a w
def O(P:Program)(F:Fr)(ops:Array Oper)(todo:List Oper)(aa:Env)(w:World)(Q:d5):Prop:=
 ∀a,cG aa F.n a->Marks F w a.defers->wpListIn (jM F.r) 0 P ops (lift F w Q) todo a w
theorem kT{F:Fence}{m:Nat}{P:Program}{ops:Array Oper}{Q hH:Exit->Act->World->Prop}(c:∀e a w,Q e a w->hH e a w):∀(l:List Oper)(a:Act)(w:World),wpListIn F m P ops Q l a w->wpListIn F m P ops hH l a w
 |[],a,w,h=>c _ _ _ h
 |I::l,a,w,h=>by
  unfold wpListIn at h⊢
  split
  .rename_i hw
   rw [a6 hw] at h
   refine⟨h.1,?_⟩
   have b:=h.2
   cases d:(I.semAt F.round a.eval).run P w with
   |ok g i=>
    rw [d] at b
    cases g<;>first
     |exact kT c l _ _ b
     |exact b
     |exact⟨b.1,lw b.2 λe f he=>by
      cases e<;>first|exact kT c l _ _ he|exact c _ _ _ he|exact(let⟨a,w,h⟩:=he;⟨a,w,c _ _ _ h⟩)⟩
     |exact⟨b.1,RowsIn.mono b.2 λu f he=>kT c l _ _ he⟩
     |exact⟨b.1,pT b.2 λe f he=>by
      cases e<;>first|exact kT c l _ _ he|exact c _ _ _ he|exact(let⟨a,w,h⟩:=he;⟨a,w,c _ _ _ h⟩)⟩
   |halt j i=>rw [d] at b;cases j<;>first|exact b|exact c _ _ _ b
  .rename_i hw
   rw [aF hw] at h
   exact⟨h.1,kT c l _ _ h.2⟩
section
variable {P:Program} {n:Fr} {aa:Env} {w:World} {Q:d5}
theorem ww{c:Code}{hH:d5}(h:W P n c aa w hH)(d:∀e aa w,hH e aa w->Q e aa w):W P n c aa w Q:=
 λa b hm=>kC (h a b hm) λ_ _ _⟨k,m,i,g,f⟩=>⟨k,m,i,g,d _ _ _ f⟩
theorem mJ{ops:Array Oper}{todo:List Oper}(b:Env)(aM:sub aa b)(h:O P n ops todo b w Q):O P n ops todo aa w Q:=λa c hm=>h a (c.vW aM) hm
abbrev As(P:Program)(n:Fr)(y:Code)(Q:d5):d5:=λe aa w=>match e with
 | .normal=>W P n y aa w Q
 |e=>Q e aa w
theorem wx{x y:Code}(h:W P n x aa w (As P n y Q)):W P n (.seq x y) aa w Q:=λa d hm=>
 wpIn_seq (kC (h a d hm) λe a i⟨k,m,g,c,b⟩=>by
  cases e<;>first|exact kC (b _ c m) (λ_ _ _ f=>lift.from k f)|exact⟨k,m,g,c,b⟩)
theorem BB{x y:Code}(M:Env->World->Prop)
 (h:W P n x aa w (λe aa w=>match e with| .normal=>M aa w|e=>Q e aa w)) (k:∀aa w,M aa w->W P n y aa w Q):W P n (.seq x y) aa w Q:=
 wx (ww h λe aa w a=>by cases e<;>first|exact k _ _ a|exact a)
abbrev uU(id:Nat)(Q:d5):d5:=λe aa w=>match e with
 | .exit i=>match Nat.beq i id with
  |true=>Q .normal aa w
  |false=>Q (.exit i) aa w
 |e=>Q e aa w
theorem BA{id:Nat}{c:Code}(h:W P n c aa w (uU id Q)):W P n (.block id c) aa w Q:=λa j hm=>
 wpIn_block (kC (h a j hm) λe a w⟨k,m,g,f,b⟩=>by
  cases e<;>try exact⟨k,m,g,f,b⟩
  rename_i i
  simp only [uU] at b
  simp only [Exit.inBlock]
  split at b
  ·rename_i d
   rw [a6 (iM d)]
   exact⟨k,m,g,f,b⟩
  ·rename_i d
   rw [aF (wc d)]
   exact⟨k,m,g,f,b⟩)
theorem BH(h:Q .ret aa w):W P n .ret aa w Q:=λ_ a hm=>wpIn_ret ⟨cS.refl _,hm,aa,a,h⟩
theorem BD{id:Nat}(h:Q (.exit id) aa w):W P n (.exit id) aa w Q:=λ_ a hm=>wpIn_exit ⟨cS.refl _,hm,aa,a,h⟩
theorem tu{c:Operand}{x y:Code}{b:Bool}(e:bs aa c=some (.bool b))(f:b=true->W P n x aa w Q)(bx:b=false->W P n y aa w Q):
 W P n (.cond c x y) aa w Q:=λa d hm=>
 wpIn_cond_split (d.eval e) (λh=>f h a d hm) (λh=>bx h a d hm)
theorem wv{c:Operand}{x y:Code}{b:Bool}(d:bs aa c=some (.bool b))(a:b=true)(e:W P n x aa w Q):
 W P n (.cond c x y) aa w Q:=tu d (λ_=>e) (λh=>by simp [a] at h)
theorem wu{c:Operand}{x y:Code}{b:Bool}(d:bs aa c=some (.bool b))(a:b=false)(bx:W P n y aa w Q):
 W P n (.cond c x y) aa w Q:=tu d (λh=>by simp [a] at h) (λ_=>bx)
theorem Io{F:Fence}{m:Nat}{P:Program}{cA:Type}{c:Code}{Q:Exit->Act->World->Prop}{a:Act}{w:World}(g:cA->Act->World->Prop)(n:cA->Nat)(i:cA)(q:g i a w)
 (round:∀i a w,g i a w->c.wpIn F m P (Exit.then (λa w=>∃J,g J a w/\n J<n i) Q) a w):(Code.loop c).wpIn F m P Q a w:=by
 intro b k cs s o p
 have key:∀m i,n i=m->∀a w,g i a w->∃e h aI,Q e h aI/\ArrivesIn (Machine.fenced P F) P (lone (b.atR a (.code c:: .inLoop c::k)) cs w) b k cs e h aI:=by
  intro m
  induction m using Nat.strongRecOn with
  |_ m t=>
   intro i hm a w a7
   obtain⟨e,a₁,w₁,f,d⟩:=round i a w a7 b (.inLoop c::k) cs s o p
   cases e with
   |normal=>
    obtain⟨J,hI₁,r⟩:=f
    obtain⟨e₂,a₂,w₂,hq₂,harr₂⟩:=t (n J) (hm▸r) J j a₁ w₁ hI₁
    exact⟨e₂,a₂,w₂,hq₂,.of_steps (StepsIn.trans d (.one (fenced_calm o p j) stepR_inLoop)) harr₂⟩
   |exit id=>exact⟨_,a₁,w₁,f,.pass (x:=.inLoop c) j (λ_ _=>.inl (by simp)) d⟩
   |goto l=>exact⟨_,a₁,w₁,f,.pass (x:=.inLoop c) j (λ_ _=>.inl (by simp)) d⟩
   |ret=>exact⟨_,a₁,w₁,f,.pass (x:=.inLoop c) j (λ_ _=>.inl (by simp)) d⟩
   |panic gf=>exact⟨_,a₁,w₁,f,.pass (x:=.inLoop c) j (λ_ _=>.inl (by simp)) d⟩
   |outgrown=>exact⟨_,a₁,w₁,f,.pass (x:=.inLoop c) j (λ_ _=>.inl (by simp)) d⟩
 obtain⟨e,h,aI,f,d⟩:=key _ i j a w q
 exact⟨e,h,aI,f,.of_steps (.one (fenced_calm o p j) stepR_loop) d⟩
theorem BE{cA:Type}{c:Code}(S:cA->Env)(b:cA->World->Prop)(d:cA->Nat)(i:cA)(aM:sub aa (S i))(h:b i w)
 (round:∀i w,b i w->W P n c (S i) w (λe aa w=>match e with
  | .normal=>∃J,sub aa (S J)/\b J w/\d J<d i
  |e=>Q e aa w)):W P n (.loop c) aa w Q:=λa l hm=>by
 refine Io (λJ a aI=>cS w aI/\Marks n aI a.defers/\cG (S J) n.n a/\b J aI) d i ⟨cS.refl _,hm,l.vW aM,h⟩ ?_
 intro J a s ⟨ad,hm,o,a7⟩
 refine kC (round J s a7 a o hm) λe a u⟨k,m,t,g,f⟩=>?_
 cases e<;>first
  |exact(let⟨r,p,j,q⟩:=f;⟨r,⟨ad.trans k,m,g.vW p,j⟩,q⟩)
  |exact⟨ad.trans k,m,t,g,f⟩
theorem BG{id:Nat}{l:List Oper}(h:O P n l.toArray l aa w Q):W P n (.region id l.toArray false) aa w Q:=λa b hm=>
 wpIn_region_lit (h a b hm)
theorem an{ops:Array Oper}(h:Q .normal aa w):O P n ops [] aa w Q:=λ_ a hm=>wpListIn_nil ⟨cS.refl _,hm,aa,a,h⟩
def cW(ops:Array Oper)(aa:Env):Option (Nat×Bool)->Option Bool
 |none=>some true
 |some (J,want)=>match ops[J]? with
  |some I=>match I.dst with
   |some d=>match look aa d with
    |some (.bool b)=>some (b==want)
    |some (.tuple _)=>some false
    |_=>none
   |none=>none
  |none=>none
theorem nK{ops:Array Oper}{I:Oper}{a:Act}{b:Bool}{n:Nat}(i:cG aa n a)(e:cW ops aa I.guard=some b):Region.wanted I (yielded ops a.tmps)=b:=by
 unfold cW at e
 unfold Region.wanted
 split at e
 .rename_i h;rw [h];simpa using e
 .rename_i J want h
  rw [h]
  dsimp only
  split at e
  .rename_i fU k
   split at e
   .rename_i d j
    split at e
    .rename_i c f
     have g:=i.get _ _ f
     simp only [yielded,k,Option.bind_some,j,g]
     simpa using e
    .rename_i c f
     have g:=i.get _ _ f
     simp only [yielded,k,Option.bind_some,j,g]
     simpa using e
    .cases e
   .cases e
  .cases e
def cF(aa:Env):Option Nat->Value->Env
 |some d,v=>(d,v)::aa
 |none,_=>aa
def c8(n:Fr):Option Nat->Bool
 |some d=>Nat.blt d n.n
 |none=>true
theorem cG.cF{a:Act}(h:cG aa n.n a){d:Option Nat}(b:c8 n d=true)(v:Value):cG (R.cF aa d v) n.n (a.put d v):=by
 cases d with
 |none=>exact h
 |some d=>exact h.put b v
variable {ops:Array Oper} {rest:List Oper} {I:Oper}
theorem put_defers(a:Act)(d:Option Nat)(v:Value):(a.put d v).defers=a.defers:=by cases d<;>rfl
theorem Marks.put{n:Fr}{w:World}{a:Act}(h:Marks n w a.defers)(d:Option Nat)(v:Value):Marks n w (a.put d v).defers:=by rw [put_defers];exact h
theorem Bq(d:cW ops aa I.guard=some false)(c:c8 n I.dst=true)(h:O P n ops rest (cF aa I.dst undef) w Q):O P n ops (I::rest) aa w Q:=λa b hm=>by
 unfold wpListIn
 rw [nK b d]
 exact⟨λ_ _=>trivial,h _ (b.cF c undef) (hm.put _ _)⟩
theorem dO{v:Value}{aI:World}(f:cW ops aa I.guard=some true)(e:c8 n I.dst=true)
 (i:∀a,cG aa n.n a->(execOp a.eval I).run P w= .ok (.value v) aI) (h:O P n ops rest (cF aa I.dst v) aI Q) (ad:cS w aI:=by exact cS.refl _) (aP:∀c,I.op≠.defer c:=by intro c d;cases d):O P n ops (I::rest) aa w Q:=λa b hm=>by
 unfold wpListIn
 rw [nK b f]
 simp only [kh]
 refine⟨λ_ _=>trivial,?_⟩
 rw [nG _ _ _ aP,i a b]
 exact kT (λ_ _ _ g=>lift.from ad g) _ _ _ (h _ (b.cF e v) ((hm.fP ad).put _ _))
theorem tq{aI:World}(f:cW ops aa I.guard=some true)(e:I.dst=none)
 (i:∀a,cG aa n.n a->(execOp a.eval I).run P w= .ok .skip aI) (h:O P n ops rest aa aI Q) (ad:cS w aI) (aP:∀c,I.op≠.defer c:=by intro c d;cases d):O P n ops (I::rest) aa w Q:=λa b hm=>by
 unfold wpListIn
 rw [nK b f]
 simp only [kh]
 refine⟨λ_ _=>trivial,?_⟩
 rw [nG _ _ _ aP,i a b]
 simp only [Oper.uponIn,e,Act.put]
 exact kT (λ_ _ _ g=>lift.from ad g) _ _ _ (h _ b (hm.fP ad))
def Calls(P:Program)(f:FuncId)(args:Array Value)(w:World)(ak:Value->World->Prop):Prop:=CallsIn Fence.wide 0 P f args w (λe aI=>cS w aI/\∃v,e= .returned v/\ak v aI)
abbrev aS(ak:Value->World->Prop):Value->World->Prop:=ak
theorem Calls.mono{f:FuncId}{args:Array Value}{ak a:Value->World->Prop}(h:Calls P f args w ak)(b:∀v aI,ak v aI->a v aI):Calls P f args w a:=
 lw h λ_ _⟨k,v,he,h⟩=>⟨k,v,he,b _ _ h⟩
theorem Calls.plain{f:FuncId}{args:Array Value}{ak:Value->World->Prop}(h:Calls P f args w ak):Go.Calls P f args w (λe aI=>∃v,e= .returned v/\ak v aI):=
 callsIn_wide.1 (lw h λ_ _⟨_,v,he,h⟩=>⟨v,he,h⟩)
theorem wm{f:FuncId}{U:Array Value}{aI:World}{ak:Value->World->Prop}(i:cW ops aa I.guard=some true)(g:c8 n I.dst=true)
 (o:∀a,cG aa n.n a->(execOp a.eval I).run P w= .ok (.enter f U) aI) (d:Calls P f U aI ak)
 (h:∀v aI,ak v aI->O P n ops rest (cF aa I.dst v) aI Q) (ad:cS w aI:=by exact cS.refl _) (aP:∀c,I.op≠.defer c:=by intro c d;cases d):O P n ops (I::rest) aa w Q:=λa b hm=>by
 unfold wpListIn
 rw [nK b i]
 simp only [kh]
 refine⟨λ_ _=>trivial,?_⟩
 rw [nG _ _ _ aP,o a b]
 rw [Oper.uponIn_enter]
 refine⟨(λj=>(by cases j)),?_⟩
 refine lw (show CallsIn (jM n.r) 0 P f U aI _ from d) λe p⟨k,v,he,m⟩=>?_
 subst he
 exact kT (λ_ _ _ l=>lift.from (ad.trans k) l) _ _ _ (h v p m _ (b.cF g v) ((hm.fP (ad.trans k)).put _ _))
theorem c7(d:Nat){b:Bool}(e:look aa d=some (.bool b))(f:b=true->O P n ops rest ((d,.bool true)::aa) w Q)(bx:b=false->O P n ops rest ((d,.bool false)::aa) w Q):
 O P n ops rest aa w Q:=λa c hm=>by
 cases b with
 |true=>exact f j a (c.tell e) hm
 |false=>exact bx j a (c.tell e) hm
theorem b2(d:Nat){u:Value}(v:Value)(c:look aa d=some u)(e:u=v)(h:O P n ops rest ((d,v)::aa) w Q):O P n ops rest aa w Q:=λa b hm=>
 h a (b.tell (e▸c)) hm
end
def qE(aa:Env)(rs:Array ResultVar):Option Value:=match rs.toList with
 |[]=>some (.tuple #[])
 |[.tmp t]=>look aa t
 |[.tmp t,.tmp u]=>match look aa t,look aa u with
  |some x,some y=>some (.tuple #[x,y])
  |_,_=>none
 |[.tmp t,.tmp u,.tmp s]=>match look aa t,look aa u,look aa s with
  |some x,some y,some z=>some (.tuple #[x,y,z])
  |_,_,_=>none
 |_=>none
theorem i4{aa:Env}{n:Nat}{a:Act}(c:cG aa n a){fn:Func}{v:Value}(h:qE aa fn.results=some v)(P:Program)(w:World):(results fn a.tmps).run P w= .ok v w:=by
 have d:∀l,fn.results.toList=l->fn.results=l.toArray:=λl h=>by rw [<-h,tO]
 unfold qE at h
 split at h
 .rename_i b
  have:=d _ b
  cases h
  simp [results,this]
 .rename_i t b
  have g:=c.get _ _ h
  have:=d _ b
  simp [results,this,g]
 .rename_i t u b
  have:=d _ b
  split at h
  .rename_i x y e f
   cases h
   simp [results,this,c.get _ _ e,c.get _ _ f]
  .cases h
 .rename_i t u s b
  have:=d _ b
  split at h
  .rename_i x y z e f i
   cases h
   simp [results,this,c.get _ _ e,c.get _ _ f,c.get _ _ i]
  .cases h
 .cases h
abbrev Leaves(rs:Array ResultVar)(ak:Value->World->Prop):d5:=λe aa w=>match e with
 | .normal=>∃v,qE aa rs=some v/\ak v w
 | .ret=>∃v,qE aa rs=some v/\ak v w
 |_=>False
def kE:Nat->List Value->Env
 |_,[]=>[]
 |i,v::r=>(i,v)::kE (i+1) r
theorem DB:∀(U:List Value)(i t:Nat)(v:Value),look (kE i U) t=some v->i<=t/\U[t-i]? =some v:=by
 intro U
 induction U with
 |nil=>intro i t v h;simp [kE,look] at h
 |cons x r c=>
  intro i t v h
  simp only [kE,look] at h
  split at h
  .rename_i b
   have:=iM b
   subst this
   cases h
   simp
  .obtain⟨d,a⟩:=c (i+1) t v h
   refine⟨by omega,?_⟩
   rw [show t-i=(t-(i+1))+1 by omega]
   simpa using a
theorem uw{fn:Func}{l:List Value}{n:Nat}(aP:fn.ntmps=n)(d:l.length<=n):cG (kE 0 l) n {tmps:=l.toArray++Array.replicate (fn.ntmps-l.toArray.size) undef,defers:=[]}:=by
 refine⟨by simp [aP];omega,λt v c=>?_⟩
 obtain⟨_,a⟩:=DB l 0 t v c
 have b:t<l.length:=by
  rcases Nat.lt_or_ge t l.length with h|h
  .exact h
  .simp [kA h] at a
 rw [Array.getElem?_append_left (by simpa using b)]
 simpa using a
theorem CJ{P:Program}{f:FuncId}{fn:Func}{c:Code}{l:List Value}{w:World}{ak:Value->World->Prop}{n:Nat}{rs:Array ResultVar}
 (bx:P.funcs[f]? =some fn) (p:fn.body=some c) (aP:fn.ntmps=n) (m:fn.results=rs) (q:l.length<=n)
 (h:W P {n:=n} c (kE 0 l) w (Leaves rs ak)):Calls P f l.toArray w (aS ak):=by
 refine callsIn_of_wp (F:=Fence.wide) bx p ba ?_
 refine kC (h _ (uw aP q) (Marks.nil _ _)) ?_
 rintro e a aI ⟨ad,⟨t,r,s,_,_⟩,u,o,b⟩
 have k:a.defers=[]:=by rw [r,s j];rfl
 cases e with
 |normal=>obtain⟨v,g,d⟩:=b;exact⟨k,v,i4 o (m▸g) P aI,ad,v,j,d⟩
 |ret=>obtain⟨v,g,d⟩:=b;exact⟨k,v,i4 o (m▸g) P aI,ad,v,j,d⟩
 |exit i=>exact b.elim
 |goto l=>exact b.elim
 |panic gf=>exact b.elim
 |outgrown=>exact b.elim
abbrev Chunk:=Nat×Obj
def av(ae:List (List Chunk)):List Nat:=ae.flatten.map (·.1)
structure C(o:World)(F:List Nat)(ae:List (List Chunk))(w:World):Prop where
 os:w.os=o.os
 tape:w.tape=o.tape
 output:w.output=o.output
 size:o.heap.size<=w.heap.size
 fP:∀k,k<o.heap.size->k∉F->w.heap[k]? =o.heap[k]?
 here:∀c∈ae.flatten,w.heap[c.1]? =some c.2
 nodup:(av ae).Nodup
 own:∀b∈av ae,b∈F\/o.heap.size<=b
 plain:∀c∈ae.flatten,c.2≠Obj.deferred (some [])
theorem C.start(w:World):C w [] [] w:=⟨j,j,j,cB _,λ_ _ _=>rfl,by simp,by simp [av],by simp [av],by simp⟩
abbrev Own(ae:List (List Chunk))(w:World):Prop:=C w (av ae) ae w
section
variable {o w aI:World} {F:List Nat} {A B a8 ae:List (List Chunk)} {G ah aA bn cv cb bZ:List Chunk}
theorem C.perm(h:C o F A w)(a:A.flatten.Perm B.flatten):C o F B w:=
 ⟨h.os,h.tape,h.output,h.size,h.fP,λc d=>h.here c (a.mem_iff.2 d),(List.Perm.nodup_iff (List.Perm.map (λc:Chunk=>c.1) a)).1 h.nodup,λb e=>h.own b ((List.Perm.mem_iff (List.Perm.map (λc:Chunk=>c.1) a)).2 e),λc d=>h.plain c (a.mem_iff.2 d)⟩
theorem C.ji(h:C o F A w)(a:A.Perm B):C o F B w:=h.perm a.flatten
theorem C.f1(h:C o F (ah::aA::ae) w):C o F (aA::ah::ae) w:=h.ji (.swap ..)
theorem C.f2(h:C o F (ah::aA::bn::ae) w):C o F (bn::ah::aA::ae) w:=
 h.ji (((List.Perm.swap bn aA ae).cons ah).trans (.swap ..))
theorem C.f3(h:C o F (ah::aA::bn::cv::ae) w):C o F (cv::ah::aA::bn::ae) w:=
 h.ji (((((List.Perm.swap cv bn ae).cons aA).trans (.swap ..)).cons ah).trans (.swap ..))
theorem C.f4(h:C o F (ah::aA::bn::cv::cb::ae) w):C o F (cb::ah::aA::bn::cv::ae) w:=
 h.ji (((((((List.Perm.swap cb cv ae).cons bn).trans (.swap ..)).cons aA).trans (.swap ..)).cons ah).trans (.swap ..))
theorem C.f5(h:C o F (ah::aA::bn::cv::cb::bZ::ae) w):C o F (bZ::ah::aA::bn::cv::cb::ae) w:=
 h.ji (((((((((List.Perm.swap bZ cb ae).cons cv).trans (.swap ..)).cons bn).trans (.swap ..)).cons aA).trans (.swap ..)).cons ah).trans (.swap ..))
theorem C.split(h:C o F ((ah++aA)::ae) w):C o F (ah::aA::ae) w:=h.perm (by simp)
theorem C.join(h:C o F (ah::aA::ae) w):C o F ((ah++aA)::ae) w:=h.perm (by simp)
theorem C.empty(h:C o F ae w):C o F ([]::ae) w:=h.perm (by simp)
theorem C.drop(h:C o F (G::ae) w):C o F ae w:=by
 refine⟨h.os,h.tape,h.output,h.size,h.fP,λc a=>h.here c (by simp only [kd,dA];exact .inr a),?_,λb d=>h.own b (by simp only [av,List.flatten_cons,List.map_append,List.mem_append];exact .inr d),λc a=>h.plain c (by simp only [List.flatten_cons,List.mem_append];exact .inr a)⟩
 have:=h.nodup
 simp only [av,kd,jP] at this
 exact(iy.1 this).2.1
theorem C.below(h:C o [] ae w):Below o.heap.size o w:=⟨h.os,h.tape,h.output,h.size,λk ad=>h.fP k ad (by simp)⟩
theorem C.oG{c:Chunk}(h:C o F ae w)(a:c∈ae.flatten):c.1<w.heap.size:=by
 have:=h.here c a
 exact(gp.1 this).1
theorem nS{b:Nat}:b∈av ae↔∃I,(b,I)∈ae.flatten:=by
 simp only [av,dT]
 constructor
 .rintro⟨⟨a,I⟩,hm,rfl⟩;exact⟨I,hm⟩
 .rintro⟨I,hm⟩;exact⟨(b,I),hm,j⟩
theorem C.sub(h:C o F (A++B) w):Own A w:=by
 refine⟨j,j,j,cB _,λ_ _ _=>rfl,λc a=>h.here c (by simp only [g5,List.mem_append];exact .inl a),?_,λb d=>.inl d,λc a=>h.plain c (by simp only [List.flatten_append,List.mem_append];exact .inl a)⟩
 have:=h.nodup
 simp only [av,g5,List.map_append] at this
 exact(iy.1 this).1
theorem C.j1(h:C o F (ah::ae) w):Own [ah] w:=C.sub (A:=[ah]) (B:=ae) h
theorem C.cE(h:C o F (ah::aA::ae) w):Own [ah,aA] w:=C.sub (A:=[ah,aA]) (B:=ae) h
theorem C.after(h:C o F (A++B) w)(k:C w (av A) a8 aI):C o F (a8++B) aI:=by
 have n:=h.nodup
 simp only [av,g5,List.map_append] at n
 have f:=iy.1 n
 have p:∀c∈B.flatten,aI.heap[c.1]? =some c.2:=by
  intro c a
  have m:c∈(A++B).flatten:=by simp only [g5,List.mem_append];exact .inr a
  rw [k.fP c.1 (h.oG m) (λd=>f.2.2 c.1 d c.1 (dT.2 ⟨c,a,j⟩) j)]
  exact h.here c m
 have g:∀b∈av a8,b∈av A\/w.heap.size<=b:=k.own
 refine⟨k.os.trans h.os,k.tape.trans h.tape,k.output.trans h.output,ed h.size k.size,?_,?_,?_,?_,?_⟩
 .intro b d i
  rw [k.fP b (tI d h.size) ?_]
  .exact h.fP b d i
  .intro q
   have r:b∈av (A++B):=by simp only [av,g5,List.map_append,List.mem_append];exact .inl q
   rcases h.own b r with e|e
   .exact i e
   .omega
 .intro c a
  simp only [g5,List.mem_append] at a
  rcases a with a|a
  .exact k.here c a
  .exact p c a
 .simp only [av,g5,List.map_append]
  refine iy.2 ⟨k.nodup,f.2.1,?_⟩
  rintro b d s l rfl
  rcases g b d with e|e
  .exact f.2.2 b e b l j
  .obtain⟨c,a,rfl⟩:=dT.1 l
   have:=h.oG (c:=c) (by simp only [g5,List.mem_append];exact .inr a)
   omega
 .intro b d
  simp only [av,g5,List.map_append,List.mem_append] at d
  rcases d with d|d
  .rcases g b d with e|e
   .exact h.own b (by simp only [av,g5,List.map_append,List.mem_append];exact .inl e)
   .have:=h.size;exact .inr (by omega)
  .exact h.own b (by simp only [av,g5,List.map_append,List.mem_append];exact .inr d)
 .intro c a
  simp only [g5,List.mem_append] at a
  rcases a with a|a
  .exact k.plain c a
  .exact h.plain c (by simp only [g5,List.mem_append];exact .inr a)
theorem C.aN(h:C o F ae w)(k:C w [] a8 aI):C o F (a8++ae) aI:=C.after (A:=[]) h k
theorem C.im(h:C o F (ah::ae) w)(k:C w (av [ah]) a8 aI):C o F (a8++ae) aI:=C.after (A:=[ah]) h k
theorem C.cD(h:C o F (ah::aA::ae) w)(k:C w (av [ah,aA]) a8 aI):C o F (a8++ae) aI:=C.after (A:=[ah,aA]) h k
def Rd(w:World)(A:Option Addr)(U:List Value):Prop:=∀i v,U[i]? =some v->∃a,A=some a/\w.cell? (a.add i)=some v
def bU(A:Option Addr)(U:List Value)(F:List Nat):Prop:=U≠[]->∀a,A=some a->a.block∉F
@[simp] theorem wB(a:Addr)(i:Nat):(a.add i).block=a.block:=by unfold Addr.add;split<;>rfl
theorem Rd.cell{w:World}{b:Addr}{U:List Value}{J:Nat}{v:Value}(h:Rd w (some b) U)(e:U[J]? =some v):w.cell? (b.add J)=some v:=by
 obtain⟨a,c,d⟩:=h J v e
 cases c
 exact d
theorem Rd.nil(w:World)(A:Option Addr):Rd w A []:=λi v h=>by simp at h
theorem Rd.lt{A:Option Addr}{U:List Value}(h:Rd w A U)(f:U≠[]){a:Addr}(d:A=some a):a.block<w.heap.size:=by
 cases U with
 |nil=>exact(f j).elim
 |cons v r=>
  obtain⟨b,c,e⟩:=h 0 v (by simp)
  rw [d] at c
  cases c
  have:=World.block_lt_of_cell? w _ e
  simpa using this
theorem C.rd{A:Option Addr}{U:List Value}(h:C o F ae w)(f:Rd o A U)(d:bU A U F):Rd w A U:=λi v c=>by
 obtain⟨a,rfl,b⟩:=f i v c
 have e:U≠[]:=by rintro rfl;simp at c
 refine⟨a,j,?_⟩
 rw [World.cell?_of_block (w:=o) (h.fP _ (by have:=World.block_lt_of_cell? o _ b;simpa using this) (by simpa using d e a j))]
 exact b
theorem bU.of_nil(A:Option Addr)(U:List Value):bU A U []:=λ_ _ _=>by simp
theorem C.apart{A:Option Addr}{U:List Value}(h:C o F ae w)(g:Rd o A U)(e:bU A U F):bU A U (av ae):=λd a c f=>by
 have i:=g.lt d c
 rcases h.own _ f with b|b
 .exact e d a c b
 .omega
theorem bU.sub{A:Option Addr}{U:List Value}{eD:List Nat}(h:bU A U F)(aM:∀b∈eD,b∈F):bU A U eD:=λe a c d=>h e a c (aM _ d)
theorem bU.kR{A:Option Addr}{U f:List Value}{eD:List Nat}(h:bU A U F)(e:U≠[])(aM:∀b∈eD,b∈F):bU A f eD:=λ_ a c d=>h e a c (aM _ d)
theorem oP:av (G::ae)=av [G]++av ae:=by simp [av]
theorem C.iS{b:Nat}{I:Obj}{off:Nat}{sp:Option Nat}{U:List Value}(h:C o F ([(b,I)]::ae) w):bU (some ⟨b,off,sp⟩) U (av ae):=λ_ a c d=>by
 cases c
 have:=h.nodup
 rw [oP] at this
 exact(iy.1 this).2.2 b (by simp [av]) b d j
theorem C.first{b:Nat}{I:Obj}(h:C o F ([(b,I)]::ae) w):w.heap[b]? =some I:=h.here (b,I) (by simp)
theorem C.cell{b:Nat}{c:Array Value}{e:TypeId}{e2:Nat×Nat}{off:Nat}{v:Value}(h:C o F ([(b,.cells c e e2)]::ae) w)(a:c[off]? =some v):w.cell? ⟨b,off,none⟩=some v:=by
 simp [World.cell?,h.first,a]
theorem add_lit(b off i:Nat):(⟨b,off,none⟩:Addr).add i=⟨b,off+i,none⟩:=by unfold Addr.add;split<;>simp_all
theorem C.i3{b:Nat}{c:Array Value}{e:TypeId}{e2:Nat×Nat}{off:Nat}{U:List Value}(h:C o F ([(b,.cells c e e2)]::ae) w)
 (a:∀i v,U[i]? =some v->c[off+i]? =some v):Rd w (some ⟨b,off,none⟩) U:=λi v d=>⟨_,j,by rw [add_lit];exact h.cell (a i v d)⟩
theorem C.bN{b:Nat}{c:Array Value}{e:TypeId}{e2:Nat×Nat}(h:C o F ([(b,.cells c e e2)]::ae) w):Rd w (some ⟨b,0,none⟩) c.toList:=
 h.i3 (λi v a=>by simpa using a)
theorem D3{b:Nat}{c:Array Value}{e:TypeId}{e2:Nat×Nat}(a:w.heap[b]? =some (.cells c e e2))(off:Nat)(v:Value):
 (w.setCell ⟨b,off,none⟩ v).heap[b]? =some (.cells (c.setIfInBounds off v) e e2):=by
 simp [World.setCell,rr,a]
theorem uO(a:Addr)(v:Value){k:Nat}(ad:k≠a.block):(w.setCell a v).heap[k]? =w.heap[k]? :=by
 simp only [World.setCell,rr]
 rw [aF (by omega)]
theorem C.lk{b:Nat}{I fU:Obj}(h:C o F ([(b,I)]::ae) w)(g:aI.os=w.os)(j:aI.tape=w.tape)(i:aI.output=w.output)(aM:aI.heap.size=w.heap.size)
 (d:aI.heap[b]? =some fU) (ad:∀k,k≠b->aI.heap[k]? =w.heap[k]?) (f:fU≠Obj.deferred (some []):=by simp):C o F ([(b,fU)]::ae) aI:=by
 refine C.im (a8:=[[(b,fU)]]) h ⟨g,j,i,by omega,λk _ e=>ad k (by simpa [av] using e),?_,by simp [av],λk ad=>.inl (by simpa [av] using ad),by intro c a;simp at a;subst a;exact f⟩
 intro c a
 simp at a
 subst a
 exact d
theorem C.setCell{b:Nat}{c:Array Value}{e:TypeId}{e2:Nat×Nat}(h:C o F ([(b,.cells c e e2)]::ae) w)(off:Nat)(v:Value):
 C o F ([(b,.cells (c.setIfInBounds off v) e e2)]::ae) (w.setCell ⟨b,off,none⟩ v):=
 h.lk j j j (by simp [World.setCell]) (D3 h.first off v) (λ_ ad=>uO _ v ad)
theorem fB{ae fs:List (List Chunk)}(h:∀G∈fs,G∈ae):∀b∈av fs,b∈av ae:=λb c=>by
 obtain⟨I,e⟩:=nS.1 c
 obtain⟨G,a,d⟩:=List.mem_flatten.1 e
 exact nS.2 ⟨I,List.mem_flatten.2 ⟨G,h G a,d⟩⟩
theorem C.alloc(h:C o F ae w)(I:Obj)(b:I≠Obj.deferred (some []):=by simp):C o F ([(w.heap.size,I)]::ae) (w.alloc I):=by
 refine C.aN (a8:=[[(w.heap.size,I)]]) h ⟨j,j,j,by simp,λk ad _=>qj w I ad,?_,by simp [av],λk ad=>.inr (by simp [av] at ad;omega),by intro c a;simp at a;subst a;exact b⟩
 intro c a
 simp at a
 subst a
 exact heap_alloc_new w I
theorem C.drew(h:C o F ae w):C o F ae w.drew:=⟨h.os,h.tape,h.output,h.size,h.fP,h.here,h.nodup,h.own,h.plain⟩
theorem C.grown{b:Nat}{I fU:Obj}(h:C o F ([(b,I)]::ae) w)(d:w.grownBy aI (some b))(f:aI.heap[b]? =some fU)(g:fU≠Obj.deferred (some []):=by simp):C o F ([(b,fU)]::ae) aI:=by
 refine C.im (a8:=[[(b,fU)]]) h ⟨d.os,d.tape,d.output,d.size,λk ad e=>d.block k ad (by simp [av] at e;simpa using e),?_,by simp [av],λk ad=>.inl (by simpa [av] using ad),by intro c a;simp at a;subst a;exact g⟩
 intro c a
 simp at a
 subst a
 exact f
end
def Row(e:TypeId)(size:Nat)(v:Value)(n:Nat)(xs:List Value)(G:List Chunk):Prop:=
 xs.length=n*size/\
 ((v= .slice none 0 0/\n=0/\G=[])\/
  ∃g cap cur,v= .slice (some ⟨g,0,none⟩) n cap/\G=[(g,.cells cur e (0,0))]/\n<=cap/\cap<=maxLen/\cap*size<=cur.size/\cur.toList.take (n*size)=xs)
theorem Row.nil(e:TypeId)(size:Nat):Row e size (.slice none 0 0) 0 [] []:=⟨by simp,.inl ⟨j,j,j⟩⟩
section
variable {o w aI:World} {F:List Nat} {ae:List (List Chunk)} {G:List Chunk} {e:TypeId} {size:Nat} {v:Value} {n:Nat} {xs:List Value}
theorem Row.form(h:Row e size v n xs G):∃A c,v= .slice A n c/\n<=c/\c<=maxLen:=by
 rcases h.2 with⟨rfl,rfl,_⟩|⟨g,cap,cur,rfl,_,a,b,_⟩
 .exact⟨none,0,j,cB _,by simp [maxLen]⟩
 .exact⟨_,_,j,a,b⟩
theorem Row.one(h:Row e size v n xs G):v.oneCell'=true:=by
 obtain⟨A,c,rfl,_⟩:=h.form
 rfl
theorem Row.rd(h:Row e size v n xs G)(a:C o F (G::ae) w):∃A c,v= .slice A n c/\n<=c/\c<=maxLen/\Rd w A xs/\bU A xs (av ae):=by
 rcases h.2 with⟨rfl,rfl,rfl⟩|⟨g,cap,cur,rfl,rfl,b,d,_,f⟩
 .have:xs=[]:=lu (by simpa using h.1)
  subst this
  exact⟨none,0,j,cB _,by simp [maxLen],Rd.nil _ _,λk=>(k j).elim⟩
 .refine⟨_,_,j,b,d,a.i3 (λi u hu=>?_),a.iS⟩
  rw [<-f,jw] at hu
  split at hu
  .simpa using hu
  .cases hu
theorem Row.made{b cap:Nat}{cur:Array Value}(hm:cap<=maxLen)(aM:cap*size<=cur.size):Row e size (.slice (some ⟨b,0,none⟩) 0 cap) 0 [] [(b,.cells cur e (0,0))]:=
 ⟨by simp,.inr ⟨b,cap,cur,j,j,ch _,hm,aM,by simp⟩⟩
theorem Row.full{b n:Nat}{cur:Array Value}(hm:n<=maxLen)(aM:cur.size=n*size):Row e size (.slice (some ⟨b,0,none⟩) n n) n cur.toList [(b,.cells cur e (0,0))]:=
 ⟨by simpa using aM,.inr ⟨b,n,cur,j,j,Nat.le_refl _,hm,Nat.le_of_eq aM.symm,by rw [List.take_of_length_le (by simp [aM])]⟩⟩
theorem C.setRow{b:Nat}{c a:Array Value}{t:TypeId}{e2:Nat×Nat}(h:C o F ([(b,.cells c t e2)]::ae) w):C o F ([(b,.cells a t e2)]::ae) (w.setRow b a):=
 h.lk j j j (by simp [World.setRow]) (setRow_heap w b c a t e2 h.first) (λk ad=>setRow_other w b k a ad)
theorem sJ(z:Array Value)(n:Nat):(Builtin.zeroCells z n).size=n*z.size:=by simp [Builtin.zeroCells]
theorem Row.append{P:Program}(t ty:TypeId)(i:TypeInfo)(z:Value)(bytes:Nat)(s:P.underlying t=some (.slice e))(p:P.info? e=some i)(N:i.zero=some z)
 (Z:i.size=size) (U:i.bytes=bytes) (af:z.cells.size=size) (aa:0<size)
 (f:C o F (G::ae) w) (h:Row e size v n xs G) {A:Option Addr} {m c:Nat} {news:List Value} (d:news.length=m*size) (M:Rd w A news) (R:∀u∈news,u.oneCell'=true)
 (K:n+m<=maxLen) (L:(n+m)*bytes<=140737488355328):
 ∃O aI I,(Builtin.append_ #[t,t] ty #[v,.slice A m c]).run P w= .ok O aI/\Row e size O (n+m) (xs++news) I/\C o F (I::ae) aI/\cS w aI:=by
 subst Z
 subst U
 have ai:n+m<=9223372036854775807:=by simp only [maxLen] at K;omega
 have hlen:(xs++news).length=(n+m)*i.size:=by rw [ca,h.1,d,Nat.add_mul]
 have new:∀cd,C o F ([(w.heap.size,.cells (xs.toArray++news.toArray++Builtin.zeroCells z.cells (grownCap w (n+m) cd e-(n+m))) e (0,0))]::ae)
  (w.drew.alloc (.cells (xs.toArray++news.toArray++Builtin.zeroCells z.cells (grownCap w (n+m) cd e-(n+m))) e))/\
  Row e i.size (.slice (some ⟨w.heap.size,0,none⟩) (n+m) (grownCap w (n+m) cd e)) (n+m) (xs++news) [(w.heap.size,.cells (xs.toArray++news.toArray++Builtin.zeroCells z.cells (grownCap w (n+m) cd e-(n+m))) e (0,0))]:=by
  intro cd
  have X:=grownCap_ge w (n+m) cd e
  have D:grownCap w (n+m) cd e<=maxLen:=grownCap_le_maxLen w (n+m) cd e K
  refine⟨f.drop.drew.alloc _,hlen,.inr ⟨_,_,_,j,j,X,D,?_,?_⟩⟩
  .simp only [Array.size_append,List.size_toArray,sJ,af,h.1,d,<-Nat.add_mul]
   exact ke _ (by omega)
  .simp only [tJ,List.append_assoc]
   rw [<-dH,<-hlen]
   exact l2
 cases A with
 |none=>
  have aP:news=[]:=by
   cases news with
   |nil=>rfl
   |cons u r=>obtain⟨a,T,_⟩:=M 0 u (by simp);cases T
  subst aP
  have hm:m=0:=by
   rcases rt m with h|h
   .exact h
   .have:=Nat.mul_pos h aa;simp at d;omega
  subst hm
  refine⟨v,w,G,?_,by simpa using h,f,cS.refl _⟩
  obtain⟨g1,Q,rfl,V,_⟩:=h.form
  cases g1<;>simp [Builtin.append_,d6 s,sizeOf,typeInfo,p,Builtin.lenOf,Builtin.firstCells,V,storeCells]
 |some a=>
  have E:∀J u,news[J]? =some u->w.cell? (a.add J)=some u:=λJ u hu=>by
   obtain⟨b,l,B⟩:=M J u hu
   cases l
   exact B
  rcases h.2 with⟨rfl,rfl,rfl⟩|⟨g,cap,cur,rfl,rfl,ah,D,ag,ab⟩
  .have ac:xs=[]:=lu (by simpa using h.1)
   subst ac
   by_cases hm:m=0
   .subst hm
    have aP:news=[]:=lu (by simpa using d)
    subst aP
    refine⟨.slice none 0 0,w,[],?_,Row.nil e i.size,f,cS.refl _⟩
    simp [Builtin.append_,d6 s,sizeOf,typeInfo,p,Builtin.lenOf,Builtin.firstCells,loadCells,loadCellsFrom]
   .have q:=run_append_nil (P:=P) w t ty e i z s p N a m c news d E (by omega) (by omega) (by have l:=L;simp only [fk] at l;omega)
    obtain⟨x,y⟩:=new 0
    simp only [fk,kB,Array.empty_append] at x y⊢
    exact⟨_,_,_,q,y,x,cS.alloc _ _⟩
  .by_cases H:n+m<=cap
   .have W:n*i.size+news.length<=cur.size:=by
     have:=ke i.size H
     rw [d,<-mT]
     omega
    have q:=run_append_room (P:=P) w t ty e i s p g n cap cur f.first a m c news d E R H W
    refine⟨_,_,_,q,⟨hlen,.inr ⟨g,cap,_,j,j,H,D,?_,?_⟩⟩,f.setRow,cS.cells f.first (λk ad=>setRow_other w g k _ ad)⟩
    .simp only [hq,ca,List.length_take,List.length_drop,Array.length_toList]
     omega
    .rw [ab,<-hlen]
     exact l2
   .obtain⟨g1,Q,S,_,_,Y,_⟩:=h.rd f
    cases S
    have holds:∀J u,xs[J]? =some u->w.cell? ((⟨g,0,none⟩:Addr).add J)=some u:=λJ u hu=>by
     obtain⟨b,l,B⟩:=Y J u hu
     cases l
     exact B
    have q:=run_append_grow (P:=P) w t ty e i z s p N ⟨g,0,none⟩ n cap xs h.1 holds a m c news d E (by omega) (by omega) (growslice_fits (by omega) L)
    obtain⟨x,y⟩:=new cap
    exact⟨_,_,_,q,y,x,cS.alloc _ _⟩
end
def By(w:World)(A:Option Addr)(rows:List (List Value))(F:List Nat):Prop:=
 ∃U:List Value,U.length=rows.length/\Rd w A U/\bU A U F/\∀(i:Nat)(xs:List Value),rows[i]? =some xs->∃(a:Option Addr)(ci:Nat),U[i]? =some (Value.slice a xs.length ci)/\Rd w a xs/\bU a xs F
theorem Row.set{e:TypeId}{g n cap:Nat}{cur:Array Value}{xs:List Value}(h:Row e 1 (.slice (some ⟨g,0,none⟩) n cap) n xs [(g,.cells cur e (0,0))])(J:Nat)(u:Value):
 Row e 1 (.slice (some ⟨g,0,none⟩) n cap) n (xs.set J u) [(g,.cells (cur.setIfInBounds J u) e (0,0))]:=by
 obtain⟨b,c⟩:=h
 refine⟨by simpa using b,?_⟩
 rcases c with⟨a,_,_⟩|⟨p,m,o,a,l,d,f,i,k⟩
 .cases a
 .cases a
  cases l
  refine .inr ⟨g,cap,_,j,j,d,f,by simpa using i,?_⟩
  rw [<-k]
  simp [List.take_set]
class bC(P:Program)(t:TypeId)(d:outParam TypeDesc):Prop where
 h:P.underlying t=some d
class cq(P:Program)(t:TypeId)(z:outParam Value)(size bytes:outParam Nat):Prop where
 h:(P.info? t).map (λi=>(i.zero,i.size,i.bytes))=some (some z,size,bytes)
class Entry(P:Program)(f:FuncId):Prop where
 h:∃fn,P.funcs[f]? =some fn/\(fn.name== "runtime.NumGoroutine")=false/\fn.body.isNone=false
class po(P:Program)(s:TypeId)(f:Nat)(off:outParam Nat):Prop where
 h:∃gD k3,P.underlying s=some (.struct gD)/\gD[f]? =some k3/\k3.offset=off/\((P.info? k3.type).map (·.size)).any (·!=0)=true
theorem cq.parts{P:Program}{t:TypeId}{z:Value}{size bytes:Nat}(h:cq P t z size bytes):∃i,P.info? t=some i/\i.zero=some z/\i.size=size/\i.bytes=bytes:=by
 have:=h.h
 cases a:P.info? t with
 |none=>simp [a] at this
 |some i=>simp [a] at this;exact⟨i,j,this⟩
theorem GR{P:Program}{t e:TypeId}(hu:P.underlying t=some (.pointer e))(p:Option Addr)(w:World)(d:Nat):(Op.equalIn (d+1) t (.pointer p) (.pointer none)).run P w= .ok p.isNone w:=by
 cases p<;>(simp only [Op.equalIn,dR,d6 hu,dU];rfl)
theorem zW{P:Program}{t e:TypeId}(hu:P.underlying t=some (.pointer e))(p:Option Addr)(w:World):(Op.equal t (.pointer p) (.pointer none)).run P w= .ok p.isNone w:=
 GR hu p w 9999
theorem GS{P:Program}{t e:TypeId}(hu:P.underlying t=some (.slice e))(p:Option Addr)(l c b0 a:Nat)(w:World)(d:Nat):(Op.equalIn (d+1) t (.slice p l c) (.slice none b0 a)).run P w= .ok p.isNone w:=by
 cases p<;>(simp only [Op.equalIn,dR,d6 hu,dU];rfl)
theorem GU{P:Program}{t e:TypeId}(hu:P.underlying t=some (.slice e))(p:Option Addr)(l c b0 a:Nat)(w:World):(Op.equal t (.slice p l c) (.slice none b0 a)).run P w= .ok p.isNone w:=
 GS hu p l c b0 a w 9999
theorem eval_const(a:Act)(v:Value):a.eval (.const v)=v:=rfl
theorem Cz(t:TypeId)(x y:Operand)(p q:Option Addr):(do eqGuard .eql t x y (.pointer p) (.pointer q);binOp .eql t (.pointer p) (.pointer q))=(do pure (.bool (<-Op.equal t (.pointer p) (.pointer q))):Sem Value):=by
 cases p<;>cases q<;>rfl
theorem CB(t:TypeId)(x y:Operand)(p q:Option Addr):(do eqGuard .neq t x y (.pointer p) (.pointer q);binOp .neq t (.pointer p) (.pointer q))=(do pure (.bool (!(<-Op.equal t (.pointer p) (.pointer q)))):Sem Value):=by
 cases p<;>cases q<;>rfl
theorem CA(t:TypeId)(x y:Operand)(p q:Option Addr)(l c b0 a:Nat):(do eqGuard .eql t x y (.slice p l c) (.slice q b0 a);binOp .eql t (.slice p l c) (.slice q b0 a))=(do pure (.bool (<-Op.equal t (.slice p l c) (.slice q b0 a))):Sem Value):=rfl
section
variable {P:Program} {n:Fr} {aa:Env} {w:World} {Q:d5} {ops:Array Oper} {rest:List Oper}
 {dst:Option Nat} {ty:TypeId} {pos:String} {after:Array Edge} {g:Option (Nat×Bool)}
theorem wh{x:Operand}{v:Value}(d:cW ops aa g=some true)(c:c8 n dst=true)(e:bs aa x=some v)
 (h:O P n ops rest (cF aa dst v) w Q):O P n ops (⟨dst,.assign x,ty,pos,after,g⟩::rest) aa w Q:=
 dO d c (λa b=>by simp [execOp,b.eval e]) h
def evalBin(op:BinOp)(k:IntKind)(x y:Int):Option Value:=
 match op with
 | .add=>some (.int k (k.wrap (x+y)))
 | .sub=>some (.int k (k.wrap (x-y)))
 | .mul=>some (.int k (k.wrap (x*y)))
 | .and=>some (.int k (k.wrap (BitVec.ofInt k.bits x&&&BitVec.ofInt k.bits y).toNat))
 | .or=>some (.int k (k.wrap (BitVec.ofInt k.bits x|||BitVec.ofInt k.bits y).toNat))
 | .xor=>some (.int k (k.wrap (BitVec.ofInt k.bits x^^^BitVec.ofInt k.bits y).toNat))
 | .andNot=>some (.int k (k.wrap (BitVec.ofInt k.bits x&&& ~~~BitVec.ofInt k.bits y).toNat))
 | .eql=>some (.bool (x==y))
 | .neq=>some (.bool (x !=y))
 | .lss=>some (.bool (decide (x<y)))
 | .leq=>some (.bool (decide (x<=y)))
 | .gtr=>some (.bool (decide (x>y)))
 | .geq=>some (.bool (decide (x>=y)))
 |_=>none
theorem Bn{op:BinOp}{t l:TypeId}{x y:Operand}{k:IntKind}{i J:Int}{v:Value}(e:cW ops aa g=some true)(d:c8 n dst=true)
 (f:bs aa x=some (.int k i)) (j:bs aa y=some (.int k J)) (c:evalBin op k i J=some v)
 (h:O P n ops rest (cF aa dst v) w Q):O P n ops (⟨dst,.binOp op t x y l,ty,pos,after,g⟩::rest) aa w Q:=
 dO e d (λa b=>by
  cases op<;>simp [evalBin] at c<;>subst c<;>simp [execOp,b.eval f,b.eval j,eqGuard,binOp,Op.intArith,Op.intBits,Op.intCmp]) h
def evalShift(op:BinOp)(k:IntKind)(x y:Int):Option Value:=
 match op with
 | .shl=>some (.int k (k.wrap (x*2^(min y.toNat k.bits))))
 | .shr=>some (.int k (x.fdiv (2^(min y.toNat k.bits))))
 |_=>none
theorem i9{op:BinOp}{t m:TypeId}{x y:Operand}{k dj:IntKind}{i J:Int}{v:Value}(f:cW ops aa g=some true)(e:c8 n dst=true)
 (j:bs aa x=some (.int k i)) (l:bs aa y=some (.int dj J)) (o:0<=J) (c:evalShift op k i J=some v)
 (h:O P n ops rest (cF aa dst v) w Q):O P n ops (⟨dst,.binOp op t x y m,ty,pos,after,g⟩::rest) aa w Q:=
 dO f e (λa b=>by
  have d:¬J<0:=by omega
  cases op<;>simp [evalShift] at c<;>subst c<;>simp [execOp,b.eval j,b.eval l,eqGuard,binOp,Op.shift,d]) h
theorem wo{t k e:TypeId}{x:Operand}{p:Option Addr}{l c b0 b:Nat}[hu:bC P t (.slice e)](i:cW ops aa g=some true)(f:c8 n dst=true)
 (j:bs aa x=some (.slice p l c))
 (h:O P n ops rest (cF aa dst (.bool p.isNone)) w Q):O P n ops (⟨dst,.binOp .eql t x (.const (.slice none b0 b)) k,ty,pos,after,g⟩::rest) aa w Q:=
 dO i f (λa d=>by
  simp only [execOp,d.eval j,eval_const,CA,dR,GU hu.h,dU,ee]) h
theorem run_equalIn_bool{P:Program}{t:TypeId}(hu:P.underlying t=some .bool)(a b:Bool)(w:World)(d:Nat):(Op.equalIn (d+1) t (.bool a) (.bool b)).run P w= .ok (a==b) w:=by
 simp only [Op.equalIn,dR,d6 hu,dU];rfl
def qc(op:UnOp)(k:IntKind)(x:Int):Option Value:=
 match op with
 | .neg=>some (.int k (k.wrap (0-x)))
 | .xor=>some (.int k (k.wrap (BitVec.ofInt k.bits (if k.signed then -1 else k.max)^^^BitVec.ofInt k.bits x).toNat))
 |_=>none
theorem Bx{op:UnOp}{t:TypeId}{x:Operand}{k:IntKind}{i:Int}{v:Value}(e:cW ops aa g=some true)(d:c8 n dst=true)(f:bs aa x=some (.int k i))(b:qc op k i=some v)
 (h:O P n ops rest (cF aa dst v) w Q):O P n ops (⟨dst,.unOp op t x,ty,pos,after,g⟩::rest) aa w Q:=
 dO e d (λa c=>by
  cases op<;>simp [qc] at b<;>subst b<;>simp [execOp,c.eval f,Op.unary,Op.intArith,Op.intBits]) h
theorem hF{s t:TypeId}{d:TypeDesc}{x:Operand}{k dj:IntKind}{i:Int}[aM:bC P s d][j:bC P t (.int dj)](e:cW ops aa g=some true)(c:c8 n dst=true)
 (l:bs aa x=some (.int k i)) {J:Int} (f:dj.wrap i=J)
 (h:O P n ops rest (cF aa dst (.int dj J)) w Q):O P n ops (⟨dst,.convert s t x,ty,pos,after,g⟩::rest) aa w Q:=
 dO e c (λa b=>by
  subst f
  simp [execOp,b.eval l,convert,d6 aM.h,d6 j.h,Conv.intToInt]) h
theorem q8{s:TypeId}{f off b I:Nat}{x:Operand}[bx:po P s f off](o:cW ops aa g=some true)(m:c8 n dst=true)
 (q:bs aa x=some (.pointer (some ⟨b,I,none⟩)))
 (h:O P n ops rest (cF aa dst (.pointer (some ⟨b,I+off,none⟩))) w Q):O P n ops (⟨dst,.fieldAddr s x f,ty,pos,after,g⟩::rest) aa w Q:=
 dO o m (λa l=>by
  obtain⟨gD,k3,e,j,k,d⟩:=bx.h
  cases c:P.info? k3.type with
  |none=>simp [c] at d
  |some i=>
   have p:i.size≠0:=by simpa [c] using d
   subst k
   simp [execOp,l.eval q,Instr.fieldAt,d6 e,j,Instr.sureAddr,fieldPlace,sizeOf,typeInfo,c,p,add_lit]) h
def h2:TypeDesc->Bool
 | .struct _| .array _ _=>true
 |_=>false
theorem kr{t:TypeId}{d:TypeDesc}(hu:P.underlying t=some d)(w:World):(isAgg t).run P w= .ok (h2 d) w:=by
 unfold isAgg
 rw [dR,d6 hu w]
 cases d<;>simp [h2]
theorem n7{t:TypeId}{d:TypeDesc}{x:Operand}{A:Addr}{v:Value}[hu:bC P t d](i:cW ops aa g=some true)(e:c8 n dst=true)
 (j:bs aa x=some (.pointer (some A))) (b:h2 d=false) (c:w.cell? A=some v)
 (h:O P n ops rest (cF aa dst v) w Q):O P n ops (⟨dst,.load t x,ty,pos,after,g⟩::rest) aa w Q:=
 dO i e (λa f=>by
  simp [execOp,f.eval j,Instr.loadAt,Instr.sureAddr,loadVar,kr hu.h,b,c]) h
theorem lZ{t:TypeId}{d:TypeDesc}{x:Operand}{A:Addr}{U:List Value}{z:Value}{size bytes:Nat}[hu:bC P t d][p:cq P t z size bytes]
 (o:cW ops aa g=some true) (l:c8 n dst=true)
 (y:bs aa x=some (.pointer (some A))) (e:h2 d=true) (s:U.length=size) (j:Rd w (some A) U)
 (h:O P n ops rest (cF aa dst (.agg U.toArray)) w Q):O P n ops (⟨dst,.load t x,ty,pos,after,g⟩::rest) aa w Q:=
 dO o l (λa m=>by
  obtain⟨i,q,_,r,_⟩:=p.parts
  have c:=pQ (P:=P) w A U (λJ v u=>by obtain⟨b,f,k⟩:=j J v u;cases f;exact k)
  rw [s] at c
  simp [execOp,m.eval y,Instr.loadAt,Instr.sureAddr,loadVar,kr hu.h,e,sizeOf,typeInfo,q,r,c]) h
theorem cC{t:TypeId}{x y:Operand}{z:Value}{bytes:Nat}{o:World}{F:List Nat}{ae:List (List Chunk)}{b off:Nat}{c:Array Value}{e:TypeId}{v:Value}[r:cq P t z 1 bytes]
 (d:C o F ([(b,.cells c e (0,0))]::ae) w) (q:cW ops aa g=some true)
 (A:bs aa x=some (.pointer (some ⟨b,off,none⟩))) (B:bs aa y=some v) (l:v.oneCell'=true) (D:off<c.size)
 (h:∀aI,C o F ([(b,.cells (c.setIfInBounds off v) e (0,0))]::ae) aI->O P n ops rest aa aI Q):O P n ops (⟨none,.store t x y,ty,pos,after,g⟩::rest) aa w Q:=
 tq q j (λa k=>by
  obtain⟨i,s,_,u,_⟩:=r.parts
  have h1:w.cell? ⟨b,off,none⟩=some c[off]:=d.cell (by simp)
  have E:w.cell? ((⟨b,off,none⟩:Addr).add 0)=some c[off]:=by simpa [Addr.add] using h1
  have p:w.frozen? ⟨b,off,none⟩=false:=by simp [World.frozen?,d.first]
  have m:v.cells= #[v]:=by cases v<;>first|rfl|simp [Value.oneCell'] at l
  have f:=run_store P w ⟨b,off,none⟩ v .plain l
  rw [h1] at f
  simp only [p] at f
  simp only [execOp,k.eval A,k.eval B,Instr.storeAt,Instr.sureAddr,storeVar,m,sizeOf,typeInfo,dR,ee,dU,l3,s,u]
  simp [storeCells,Addr.add,f]) (h _ (d.setCell off v)) (cS.cells d.first (λ_ ad=>uO _ v ad))
theorem lp{t:TypeId}{x:Operand}{v:Value}{o:World}{F:List Nat}{ae:List (List Chunk)}(c:C o F ae w)(f:cW ops aa g=some true)(e:c8 n dst=true)
 (i:bs aa x=some v)
 (h:∀b aI,C o F ([(b,.cells v.cells t (0,0))]::ae) aI->O P n ops rest (cF aa dst (.pointer (some ⟨b,0,none⟩))) aI Q):O P n ops (⟨dst,.box t x,ty,pos,after,g⟩::rest) aa w Q:=
 dO f e (λa d=>by simp [execOp,d.eval i,Instr.box,newVar,newRow]) (h _ _ (c.alloc _)) (ad:=cS.alloc _ _)
theorem en{t:TypeId}{z:Value}{size bytes:Nat}[f:cq P t z size bytes]{o:World}{F:List Nat}{ae:List (List Chunk)}(c:C o F ae w)(e:cW ops aa g=some true)(d:c8 n dst=true)
 (h:∀b aI,C o F ([(b,.cells z.cells t (0,0))]::ae) aI->O P n ops rest (cF aa dst (.pointer (some ⟨b,0,none⟩))) aI Q):O P n ops (⟨dst,.alloc t,ty,pos,after,g⟩::rest) aa w Q:=
 dO e d (λa l=>by
  obtain⟨i,j,k,_⟩:=f.parts
  simp [execOp,Instr.alloc,zeroValue,typeInfo,j,k,newVar,newRow]) (h _ _ (c.alloc _)) (ad:=cS.alloc _ _)
theorem cO{t:TypeId}{parts:Array (Nat×Operand)}{U:List Value}{c:Array Value}(e:cW ops aa g=some true)(d:c8 n dst=true)
 (j:fo aa (parts.toList.map (·.2))=some U) (f:∀w,(Instr.build t ((parts.toList.map (·.1)).zip U).toArray).run P w= .ok (.agg c) w)
 (h:O P n ops rest (cF aa dst (.agg c)) w Q):O P n ops (⟨dst,.build t parts,ty,pos,after,g⟩::rest) aa w Q:=
 dO e d (λa b=>by
  have:parts.map (λ(i,x)=>(i,a.eval x))=((parts.toList.map (·.1)).zip U).toArray:=by
   apply fu
   rw [<-b.hl j]
   simp only [hj,ou]
   rw [List.zip_map']
   rfl
  simp only [execOp,this,dR,f,dU,ee]) h
theorem ps{t e:TypeId}{len:Nat}{parts:Array (Nat×Operand)}{U:List Value}{c:Array Value}{o:World}{F:List Nat}{ae:List (List Chunk)}(d:C o F ae w)
 (k:cW ops aa g=some true) (j:c8 n dst=true)
 (m:fo aa (parts.toList.map (·.2))=some U)
 (l:∀w,(Instr.buildSlice t len ((parts.toList.map (·.1)).zip U).toArray).run P w= .ok (.slice (some ⟨w.heap.size,0,none⟩) len len) {w with heap:=w.heap.push (.cells c e)})
 (h:∀b aI,C o F ([(b,.cells c e (0,0))]::ae) aI->O P n ops rest (cF aa dst (.slice (some ⟨b,0,none⟩) len len)) aI Q):O P n ops (⟨dst,.buildSlice t len parts,ty,pos,after,g⟩::rest) aa w Q:=
 dO k j (λa f=>by
  have:parts.map (λ(i,x)=>(i,a.eval x))=((parts.toList.map (·.1)).zip U).toArray:=by
   apply fu
   rw [<-f.hl m]
   simp only [hj,ou]
   rw [List.zip_map']
   rfl
  simp only [execOp,this,dR,l,dU,ee];rfl) (h _ _ (d.alloc _)) (ad:=cS.alloc _ _)
theorem pw{t e:TypeId}{x y:Operand}{A:Addr}{l c:Nat}{k:IntKind}{i:Int}{z:Value}{size bytes:Nat}[hu:bC P t (.slice e)][o:cq P e z size bytes]
 (m:cW ops aa g=some true) (j:c8 n dst=true)
 (r:bs aa x=some (.slice (some A) l c)) (s:bs aa y=some (.int k i)) (d:0<=i) (f:i<l)
 (h:O P n ops rest (cF aa dst (.pointer (some (A.add (i.toNat*size))))) w Q):O P n ops (⟨dst,.indexAddr t x y,ty,pos,after,g⟩::rest) aa w Q:=
 dO m j (λa b=>by
  obtain⟨J,p,_,q,_⟩:=o.parts
  simp [execOp,b.eval r,b.eval s,Instr.indexAt,asIntOf,d6 hu.h,sizeOf,typeInfo,p,q,d,f]) h
theorem rc{t e:TypeId}{x y:Operand}{A:Option Addr}{l c:Nat}{k:IntKind}{i:Nat}{z:Value}{size bytes:Nat}[hu:bC P t (.slice e)][p:cq P e z size bytes]
 (m:cW ops aa g=some true) (j:c8 n dst=true)
 (r:bs aa x=some (.slice A l c)) (s:bs aa y=some (.int k i)) (u:i<=c)
 (h:O P n ops rest (cF aa dst (.slice A i c)) w Q):O P n ops (⟨dst,.slice t x none (some y) none,ty,pos,after,g⟩::rest) aa w Q:=
 dO m j (λa b=>by
  obtain⟨J,q,_,v,_⟩:=p.parts
  have d:¬c<i:=by omega
  have f:A.map (λx=>x.add 0)=A:=by cases A<;>simp [Addr.add]
  simp [execOp,b.eval r,b.eval s,Instr.sliceAt,Instr.slice,Instr.sliceBounds,Instr.sliceBound,asIntOf,d6 hu.h,sizeOf,typeInfo,q,f];exact λo=>(d o).elim) h
theorem n9{t e:TypeId}{x y:Operand}{A:Option Addr}{l c:Nat}{k:IntKind}{i:Nat}{z:Value}{size bytes:Nat}[hu:bC P t (.slice e)][o:cq P e z size bytes]
 (j:cW ops aa g=some true) (f:c8 n dst=true)
 (r:bs aa x=some (.slice A l c)) (s:bs aa y=some (.int k i)) (u:i<=l)
 (h:O P n ops rest (cF aa dst (.slice (if c=i then A else A.map (·.add (i*size))) (l-i) (c-i))) w Q):O P n ops (⟨dst,.slice t x (some y) none none,ty,pos,after,g⟩::rest) aa w Q:=
 dO j f (λa b=>by
  obtain⟨J,p,_,q,_⟩:=o.parts
  have d:¬l<i:=by omega
  simp [execOp,b.eval r,b.eval s,Instr.sliceAt,Instr.slice,Instr.sliceBounds,Instr.sliceBound,asIntOf,d6 hu.h,sizeOf,typeInfo,p,q];exact λm=>(d m).elim) h
theorem mI{t e:TypeId}{x:Operand}{A:Addr}{m:Nat}{z:Value}{size bytes:Nat}[hu:bC P t (.array m e)][j:cq P e z size bytes]
 (f:cW ops aa g=some true) (d:c8 n dst=true) (l:bs aa x=some (.pointer (some A)))
 (h:O P n ops rest (cF aa dst (.slice (some A) m m)) w Q):O P n ops (⟨dst,.slice t x none none none,ty,pos,after,g⟩::rest) aa w Q:=
 dO f d (λa c=>by
  obtain⟨i,k,_,o,_⟩:=j.parts
  have b:A.add 0=A:=by simp [Addr.add]
  simp [execOp,c.eval l,Instr.sliceAt,Instr.sureAddr,Instr.sliceBounds,d6 hu.h,sizeOf,typeInfo,k,b]) h
theorem wr{t o:TypeId}{x y:Operand}{i J:Nat}(k:cW ops aa g=some true)(j:c8 n dst=true)
 (l:bs aa x=some (.int .i64 i)) (m:bs aa y=some (.int .i64 J)) (p:0<J)
 (h:O P n ops rest (cF aa dst (.int .i64 ((i%J:Nat):Int))) w Q):O P n ops (⟨dst,.binOp .rem t x y o,ty,pos,after,g⟩::rest) aa w Q:=
 dO k j (λa b=>by
  have c:¬(J:Int)=0:=by omega
  have d:(i:Int).tmod (J:Int)=((i%J:Nat):Int):=rfl
  simp only [execOp,b.eval l,b.eval m]
  have e:eqGuard .rem t x y (.int .i64 (i:Int)) (.int .i64 (J:Int))=pure ():=rfl
  have f:(binOp .rem t (.int .i64 (i:Int)) (.int .i64 (J:Int))).run P w= .ok (.int .i64 ((i%J:Nat):Int)) w:=by
   show(Op.intDiv .rem .i64 (i:Int) (J:Int)).run P w=_
   unfold Op.intDiv
   simp only [d,aF c,ee]
  simp only [e,dR,ee,dU,f]) h
theorem rb{f:Array TypeId}{args:Array Operand}{k:IntKind}{i J:Int}(d:cW ops aa g=some true)(c:c8 n dst=true)
 (e:fo aa args.toList=some [.int k i,.int k J])
 (h:O P n ops rest (cF aa dst (.int k (min i J))) w Q):O P n ops (⟨dst,.call ⟨.builtin .min,args,f⟩,ty,pos,after,g⟩::rest) aa w Q:=
 dO d c (λa b=>by
  have:args.map a.eval= #[.int k i,.int k J]:=by apply fu;rw [hj,b.hl e]
  have hm:(if J<i then J else i)=min i J:=by split<;>omega
  simp [execOp,resolve,this,invoke,builtin,Builtin.min_,Builtin.min2,hm]) h
theorem tp{f:Array TypeId}{args:Array Operand}{k:IntKind}{i J:Int}(d:cW ops aa g=some true)(c:c8 n dst=true)
 (e:fo aa args.toList=some [.int k i,.int k J])
 (h:O P n ops rest (cF aa dst (.int k (max i J))) w Q):O P n ops (⟨dst,.call ⟨.builtin .max,args,f⟩,ty,pos,after,g⟩::rest) aa w Q:=
 dO d c (λa b=>by
  have:args.map a.eval= #[.int k i,.int k J]:=by apply fu;rw [hj,b.hl e]
  have hm:(if J>i then J else i)=max i J:=by split<;>omega
  simp [execOp,resolve,this,invoke,builtin,Builtin.max_,Builtin.max2,hm]) h
theorem eK{t e:TypeId}{f:Array TypeId}{args:Array Operand}{z:Value}{size bytes:Nat}{o:World}{F:List Nat}{G:List Chunk}{ae:List (List Chunk)}{v:Value}{k m c:Nat}{A:Option Addr}{xs news:List Value}
 [hu:bC P t (.slice e)] [E:cq P e z size bytes] (r:C o F (G::ae) w) (p:Row e size v k xs G) (T:f= #[t,t]) (V:z.cells.size=size) (S:0<size)
 (D:cW ops aa g=some true) (B:c8 n dst=true)
 (U:fo aa args.toList=some [v,.slice A m c]) (M:news.length=m*size) (N:Rd w A news) (j:∀u∈news,u.oneCell'=true) (y:(k+m)*bytes<=140737488355328) (l:k+m<=maxLen)
 (h:∀d b aI,Row e size d (k+m) (xs++news) b->C o F (b::ae) aI->O P n ops rest (cF aa dst d) aI Q):O P n ops (⟨dst,.call ⟨.builtin .append,args,f⟩,ty,pos,after,g⟩::rest) aa w Q:=by
 obtain⟨i,H,I,J,K⟩:=E.parts
 obtain⟨d,aI,b,R,q,s,L⟩:=Row.append (P:=P) (c:=c) t ty i z bytes hu.h H I J K V S r p M N j l y
 refine dO D B (λa x=>?_) (h d b aI q s) (ad:=L)
 subst T
 have:args.map a.eval= #[v,.slice A m c]:=by apply fu;rw [hj,x.hl U]
 simp only [execOp,resolve,invoke,builtin,dR,ee,dU,this,R]
theorem wi{f:FuncId}{o:Array TypeId}{args:Array Operand}{U:List Value}{ak:Value->World->Prop}[bx:Entry P f](l:cW ops aa g=some true)(k:c8 n dst=true)
 (m:fo aa args.toList=some U) (j:Calls P f U.toArray w ak)
 (h:∀v aI,ak v aI->O P n ops rest (cF aa dst v) aI Q):O P n ops (⟨dst,.call ⟨.value (.func f),args,o⟩,ty,pos,after,g⟩::rest) aa w Q:=by
 obtain⟨fn,b,c,d⟩:=bx.h
 refine wm (f:=f) (U:=U.toArray) (aI:=w) l k (λa i=>?_) j h
 have:args.map a.eval=U.toArray:=by apply fu;rw [hj,i.hl m]
 have e:fn.body.isNone=false:=d
 simp only [execOp,resolve,this,Act.eval,Deferred.ofValue,invoke,callFunc,b,c,e,dR,ee,dU,l3,pR,Array.append_empty,if_false,Bool.false_eq_true]
end
theorem DL:∀(U:List Value)(k:Nat)(cells:Array Value),(∀v∈U,v.oneCell'=true)->k+U.length<=cells.size->
 ∃r,Instr.fill (λi=>some (i*1,1)) cells ((List.range' k U.length).zip U)=some r/\r.size=cells.size/\∀i,r[i]? =if k<=i/\i<k+U.length then U[i-k]? else cells[i]? :=by
 intro U
 induction U with
 |nil=>intro k cells _ _;exact⟨cells,j,j,λi=>by rw [aF (by simp)]⟩
 |cons v U g=>
  intro k cells a ad
  have f:v.cells= #[v]:=by have:=a v (by simp);cases v<;>first|rfl|simp [Value.oneCell'] at this
  simp only [ep] at ad
  obtain⟨r,e,aM,d⟩:=g (k+1) (cells.setIfInBounds k v) (λu hu=>a u (by simp [hu])) (by simp;omega)
  refine⟨r,?_,by simpa using aM,λi=>?_⟩
  .simp only [ep,List.range'_succ,tK,Instr.fill,f]
   rw [aF (by simp;omega)]
   simpa using e
  .rw [d i]
   by_cases c:i=k
   .subst c
    rw [aF (by omega),a6 (by simp)]
    have:i<cells.size:=by omega
    simp [this]
   .by_cases b:k+1<=i/\i<k+1+U.length
    .rw [a6 b,a6 (by simp;omega)]
     rw [show i-k=(i-(k+1))+1 by omega]
     simp
    .rw [aF b,aF (by simp;omega)]
     simp [Ne.symm c]
theorem GV{P:Program}{t e:TypeId}{z:Value}{bytes:Nat}(hu:P.underlying t=some (.slice e))(j:cq P e z 1 bytes)(U:List Value)(f:∀v∈U,v.oneCell'=true)(p:U.length<=16777216)(w:World):
 (Instr.buildSlice t U.length ((List.range U.length).zip U).toArray).run P w= .ok (.slice (some ⟨w.heap.size,0,none⟩) U.length U.length) {w with heap:=w.heap.push (.cells U.toArray e)}:=by
 obtain⟨i,a,k,l,_⟩:=j.parts
 have key:∀cells:Array Value,cells.size=U.length->Instr.fill (λi=>some (i*1,1)) cells ((List.range U.length).zip U)=some U.toArray:=by
  intro cells g
  obtain⟨r,o,aM,h⟩:=DL U 0 cells f (by omega)
  rw [List.range_eq_range',o]
  congr 1
  apply Array.ext (by simp [aM,g])
  intro J m b
  have:=h J
  rw [a6 (by omega)] at this
  simp only [Nat.sub_zero] at this
  simp at b
  rw [Array.getElem?_eq_getElem m,ck b] at this
  simpa using this
 unfold Instr.buildSlice
 have n:¬U.length*1>2^24:=by omega
 by_cases c:U.length=0
 .have:U=[]:=lu c
  subst this
  simp [d6 hu,sizeOf,typeInfo,a,Instr.fill,newRow,show Array.range 0= #[] from by simp [Array.range]]
 .have d:¬U.length*1=0:=by omega
  simp only [dR,d6 hu,dU,sizeOf,typeInfo,l3,a,ee,l,n,d,lv,zeroValue,k]
  rw [key _ (by simp)]
  simp [newRow]
section
variable {P:Program} {n:Fr} {aa:Env} {w:World} {Q:d5} {ops:Array Oper} {rest:List Oper}
 {dst:Option Nat} {ty:TypeId} {pos:String} {after:Array Edge} {g:Option (Nat×Bool)}
theorem fe{t e:TypeId}{len:Nat}{parts:Array (Nat×Operand)}{U:List Value}{z:Value}{bytes:Nat}{o:World}{F:List Nat}{ae:List (List Chunk)}[hu:bC P t (.slice e)][i:cq P e z 1 bytes](c:C o F ae w)
 (f:cW ops aa g=some true) (d:c8 n dst=true)
 (l:fo aa (parts.toList.map (·.2))=some U) (k:U.length=len) (j:parts.toList.map (·.1)=List.range len) (a:U.all (·.oneCell')=true) (hlen:len<=16777216)
 (h:∀b aI,C o F ([(b,.cells U.toArray e (0,0))]::ae) aI->O P n ops rest (cF aa dst (.slice (some ⟨b,0,none⟩) len len)) aI Q):O P n ops (⟨dst,.buildSlice t len parts,ty,pos,after,g⟩::rest) aa w Q:=by
 subst k
 exact ps c f d l (λw=>by rw [j];exact GV hu.h i U (by simpa using a) hlen w) h
theorem fL{t e:TypeId}{x y:Operand}{A:Option Addr}{l c J:Nat}{k:IntKind}{U:List Value}{v z:Value}{size bytes:Nat}[hu:bC P t (.slice e)][r:cq P e z size bytes]
 (f:cW ops aa g=some true) (d:c8 n dst=true)
 (o:bs aa x=some (.slice A l c)) (p:bs aa y=some (.int k J)) (i:Rd w A U) (m:U[J*size]? =some v) (q:J<l)
 (h:∀a,A=some a->w.cell? (a.add (J*size))=some v->O P n ops rest (cF aa dst (.pointer (some (a.add (J*size))))) w Q):O P n ops (⟨dst,.indexAddr t x y,ty,pos,after,g⟩::rest) aa w Q:=by
 obtain⟨a,rfl,b⟩:=i _ _ m
 exact pw f d o p (by omega) (by omega) (by simpa using h a j b)
end
section
variable {P:Program} {n:Fr} {aa:Env} {w:World} {Q:d5} {ops:Array Oper} {rest:List Oper}
 {dst:Option Nat} {ty:TypeId} {pos:String} {after:Array Edge} {g:Option (Nat×Bool)}
theorem wk{f x e:TypeId}{B:Array TypeId}{args:Array Operand}{z:Value}{bytes:Nat}{o:World}{F:List Nat}{ae:List (List Chunk)}{b off dl j m l:Nat}{c:Array Value}{gY:TypeId}{D A:Option Addr}{news:List Value}
 [hu:bC P f (.slice e)] [L:cq P e z 1 bytes] (d:C o F ([(b,.cells c gY (0,0))]::ae) w) (N:B= #[f,x]) (K:cW ops aa g=some true) (H:c8 n dst=true)
 (S:fo aa args.toList=some [.slice D dl j,.slice A m l]) (s:news.length=Nat.min m dl) (G:news=[]\/D=some ⟨b,off,none⟩) (y:Rd w A news) (E:∀v∈news,v.oneCell'=true) (I:off+news.length<=c.size)
 (h:∀aI,C o F ([(b,.cells (c.toList.take off++news++c.toList.drop (off+news.length)).toArray gY (0,0))]::ae) aI->O P n ops rest (cF aa dst (.int .i64 news.length)) aI Q):O P n ops (⟨dst,.call ⟨.builtin .copy,args,B⟩,ty,pos,after,g⟩::rest) aa w Q:=by
 obtain⟨i,q,_,M,_⟩:=L.parts
 subst N
 have key:(Builtin.copy_ #[f,x] ty #[.slice D dl j,.slice A m l]).run P w= .ok (goInt news.length) (w.setRow b (c.toList.take off++news++c.toList.drop (off+news.length)).toArray):=by
  rcases G with rfl|rfl
  .have u:Nat.min m dl=0:=by simpa using s.symm
   have t:w.setRow b (c.toList.take off++([]:List Value)++c.toList.drop (off+([]:List Value).length)).toArray=w:=by
    simp only [g6,ga,ov,mU,tO]
    exact setRow_self w b c gY (0,0) d.first
   rw [t]
   cases D<;>cases A<;>simp [Builtin.copy_,d6 hu.h,Builtin.lenOf,Builtin.firstCells,sizeOf,typeInfo,q,u,storeCells,loadCells,loadCellsFrom]
  .cases A with
   |none=>
    have aP:news=[]:=by
     cases news with
     |nil=>rfl
     |cons v r=>obtain⟨a,p,_⟩:=y 0 v (by simp);cases p
    subst aP
    have u:Nat.min m dl=0:=by simpa using s.symm
    have t:w.setRow b (c.toList.take off++([]:List Value)++c.toList.drop (off+([]:List Value).length)).toArray=w:=by
     simp only [g6,ga,ov,mU,tO]
     exact setRow_self w b c gY (0,0) d.first
    rw [t]
    simp [Builtin.copy_,d6 hu.h,Builtin.lenOf,Builtin.firstCells,sizeOf,typeInfo,q,u,storeCells]
   |some a=>exact run_copy_row P w f x ty e b off dl j a m l c gY news hu.h (by simp [q,M]) d.first s (λJ v R=>y.cell R) I E
 refine dO K H (λa p=>?_) (h _ d.setRow) (ad:=cS.cells d.first (λk ad=>setRow_other w b k _ ad))
 have:args.map a.eval= #[.slice D dl j,.slice A m l]:=by apply fu;rw [hj,p.hl S]
 simp only [execOp,resolve,invoke,builtin,dR,ee,dU,this,key]
 rfl
end
section
variable {P:Program} {n:Nat} {aa:Env} {w:World} {dst:Option Nat} {ty:TypeId} {pos:String} {after:Array Edge} {g:Option (Nat×Bool)}
theorem A6{x:Operand}{v:Value}(c:bs aa x=some v):∀a,cG aa n a->(execOp a.eval ⟨dst,.move x,ty,pos,after,g⟩).run P w= .ok (.value v) w:=
 λa b=>by simp [execOp,b.eval c]
theorem AV{x:Operand}{v:Value}(c:bs aa x=some v):∀a,cG aa n a->(execOp a.eval ⟨dst,.assign x,ty,pos,after,g⟩).run P w= .ok (.value v) w:=
 λa b=>by simp [execOp,b.eval c]
theorem A8{x:Operand}{A:Addr}(c:bs aa x=some (.pointer (some A))):∀a,cG aa n a->(execOp a.eval ⟨dst,.nilCheck x,ty,pos,after,g⟩).run P w= .ok (.value (.pointer (some A))) w:=
 λa b=>by simp [execOp,b.eval c]
theorem Bc{c x y:Operand}{v:Value}(d:bs aa c=some (.bool true))(e:bs aa x=some v):∀a,cG aa n a->(execOp a.eval ⟨dst,.pick c x y,ty,pos,after,g⟩).run P w= .ok (.value v) w:=
 λa b=>by simp [execOp,b.eval d,b.eval e,asBool]
theorem Bb{c x y:Operand}{v:Value}(d:bs aa c=some (.bool false))(e:bs aa y=some v):∀a,cG aa n a->(execOp a.eval ⟨dst,.pick c x y,ty,pos,after,g⟩).run P w= .ok (.value v) w:=
 λa b=>by simp [execOp,b.eval d,b.eval e,asBool]
theorem dr{op:BinOp}{t f:TypeId}{x y:Operand}{k:IntKind}{i J:Int}{v:Value}(d:bs aa x=some (.int k i))(e:bs aa y=some (.int k J))(c:evalBin op k i J=some v):
 ∀a,cG aa n a->(execOp a.eval ⟨dst,.binOp op t x y f,ty,pos,after,g⟩).run P w= .ok (.value v) w:=
 λa b=>by
  cases op<;>simp [evalBin] at c<;>subst c<;>simp [execOp,b.eval d,b.eval e,eqGuard,binOp,Op.intArith,Op.intBits,Op.intCmp]
theorem ku{s t:TypeId}{d:TypeDesc}{x:Operand}{k dj:IntKind}{i:Int}[aM:bC P s d][e:bC P t (.int dj)](f:bs aa x=some (.int k i)){J:Int}(c:dj.wrap i=J):
 ∀a,cG aa n a->(execOp a.eval ⟨dst,.convert s t x,ty,pos,after,g⟩).run P w= .ok (.value (.int dj J)) w:=
 λa b=>by
  subst c
  simp [execOp,b.eval f,convert,d6 aM.h,d6 e.h,Conv.intToInt]
theorem AZ{s:TypeId}{f off b I:Nat}{x:Operand}[bx:po P s f off](o:bs aa x=some (.pointer (some ⟨b,I,none⟩))):
 ∀a,cG aa n a->(execOp a.eval ⟨dst,.fieldAddr s x f,ty,pos,after,g⟩).run P w= .ok (.value (.pointer (some ⟨b,I+off,none⟩))) w:=
 λa l=>by
  obtain⟨gD,k3,e,j,k,d⟩:=bx.h
  cases c:P.info? k3.type with
  |none=>simp [c] at d
  |some i=>
   have m:i.size≠0:=by simpa [c] using d
   subst k
   simp [execOp,l.eval o,Instr.fieldAt,d6 e,j,Instr.sureAddr,fieldPlace,sizeOf,typeInfo,c,m,add_lit]
theorem hD{t:TypeId}{d:TypeDesc}{x:Operand}{A:Addr}{v:Value}[hu:bC P t d](f:bs aa x=some (.pointer (some A)))(b:h2 d=false)(c:w.cell? A=some v):
 ∀a,cG aa n a->(execOp a.eval ⟨dst,.load t x,ty,pos,after,g⟩).run P w= .ok (.value v) w:=
 λa e=>by
  simp [execOp,e.eval f,Instr.loadAt,Instr.sureAddr,loadVar,kr hu.h,b,c]
theorem A0{t e:TypeId}{x y:Operand}{A:Addr}{l c:Nat}{k:IntKind}{i:Int}{z:Value}{size bytes:Nat}[hu:bC P t (.slice e)][j:cq P e z size bytes]
 (p:bs aa x=some (.slice (some A) l c)) (q:bs aa y=some (.int k i)) (d:0<=i) (f:i<l):
 ∀a,cG aa n a->(execOp a.eval ⟨dst,.indexAddr t x y,ty,pos,after,g⟩).run P w= .ok (.value (.pointer (some (A.add (i.toNat*size))))) w:=
 λa b=>by
  obtain⟨J,m,_,o,_⟩:=j.parts
  simp [execOp,b.eval p,b.eval q,Instr.indexAt,asIntOf,d6 hu.h,sizeOf,typeInfo,m,o,d,f]
theorem A3{t e:TypeId}{b:Array TypeId}{args:Array Operand}{A:Option Addr}{l c:Nat}[hu:bC P t (.slice e)](f:b= #[t])(i:fo aa args.toList=some [.slice A l c]):
 ∀a,cG aa n a->(execOp a.eval ⟨dst,.call ⟨.builtin .len,args,b⟩,ty,pos,after,g⟩).run P w= .ok (.value (.int .i64 l)) w:=
 λa d=>by
  subst f
  have:args.map a.eval= #[.slice A l c]:=by apply fu;rw [hj,d.hl i]
  simp [execOp,resolve,this,invoke,builtin,Builtin.len_,d6 hu.h,goInt]
theorem v6{d:Array TypeId}{args:Array Operand}{k:IntKind}{i J:Int}(c:fo aa args.toList=some [.int k i,.int k J]):
 ∀a,cG aa n a->(execOp a.eval ⟨dst,.call ⟨.builtin .max,args,d⟩,ty,pos,after,g⟩).run P w= .ok (.value (.int k (max i J))) w:=
 λa b=>by
  have:args.map a.eval= #[.int k i,.int k J]:=by apply fu;rw [hj,b.hl c]
  have hm:(if J>i then J else i)=max i J:=by split<;>omega
  simp [execOp,resolve,this,invoke,builtin,Builtin.max_,Builtin.max2,hm]
theorem A9{t:TypeId}{x:Operand}{b:Bool}(d:bs aa x=some (.bool b)):∀a,cG aa n a->(execOp a.eval ⟨dst,.unOp .not t x,ty,pos,after,g⟩).run P w= .ok (.value (.bool (!b))) w:=
 λa c=>by simp [execOp,c.eval d,Op.unary]
theorem q3{t e:TypeId}{x y:Operand}{b:Addr}{l c J:Nat}{k:IntKind}{z:Value}{size bytes:Nat}[hu:bC P t (.slice e)][i:cq P e z size bytes]
 (d:bs aa x=some (.slice (some b) l c)) (f:bs aa y=some (.int k J)) (h:J<l):
 ∀a,cG aa n a->(execOp a.eval ⟨dst,.indexAddr t x y,ty,pos,after,g⟩).run P w= .ok (.value (.pointer (some (b.add (J*size))))) w:=by
 have:=A0 (P:=P) (n:=n) (w:=w) (dst:=dst) (ty:=ty) (pos:=pos) (after:=after) (g:=g) (aa:=aa) (t:=t) (e:=e) (z:=z) (size:=size) (bytes:=bytes) d f (by omega) (by omega)
 simpa using this
end
class q5(P:Program):Prop where
 h:P.follows .mixedOrders=true
def FG(ops:Array Oper):Bool:=ops.all λI=>match I.op with| .defer _=>false|_=>true
def calm(ops:Array Oper):Bool:=Region.noSelect ops&&FG ops
theorem calm.z4{ops:Array Oper}(h:calm ops=true):Region.noSelect ops=true:=by unfold calm at h;simp only [Bool.and_eq_true] at h;exact h.1
theorem calm.def{ops:Array Oper}(h:calm ops=true){J:Nat}{I:Oper}(a:ops[J]? =some I)(c:Call):I.op≠.defer c:=by
 unfold calm at h
 simp only [d8] at h
 intro he
 have b:=Array.all_eq_true.1 h.2 J (gp.1 a).1
 have d:ops[J]'((gp.1 a).1)=I:=(gp.1 a).2
 rw [d,he] at b
 cases b
section
variable {P:Program} {F:Fence} {ops:Array Oper} {a8:World->Prop} {Q:Exit->Act->World->Prop}
def waits(ops:Array Oper)(J i:Nat):Bool:=match ops[J]? with
 |some y=>y.after.toList.any λe=>Region.binds .any e&&e.on==i
 |none=>false
def nq(ops:Array Oper):Nat->Nat->Nat->Bool
 |0,_,_=>false
 |d+1,J,i=>waits ops J i||(List.range ops.size).any λm=>waits ops J m&&nq ops d m i
def n2(ops:Array Oper)(J i:Nat):Bool:=nq ops 7 J i
def lI(ops:Array Oper)(J:Nat):Bool:=(List.range ops.size).all λi=>i==J||n2 ops J i||n2 ops i J
theorem waits.on{ops:Array Oper}{i J:Nat}(h:waits ops J i=true):∃y,ops[J]? =some y/\∃e∈y.after,Region.binds .any e=true/\e.on=i:=by
 unfold waits at h
 split at h
 .rename_i y c
  simp only [kf,d8,dX] at h
  obtain⟨e,he,a,b⟩:=h
  exact⟨y,c,e,by simpa using he,a,b⟩
 .cases h
def lV(ops:Array Oper)(l:Array Bool):Prop:=∀(J:Nat)(y:Oper),ops[J]? =some y->l.getD J false=true->∀e∈y.after,Region.binds .any e=true->l.getD e.on false=true
def p5(ops:Array Oper)(l:Array Bool):Bool:=(List.range ops.size).all λJ=> !(l.getD J false)||(match ops[J]? with|some y=>y.after.toList.all λe=> !Region.binds .any e||l.getD e.on false|none=>true)
theorem p5.spec{ops:Array Oper}{l:Array Bool}(h:p5 ops l=true):lV ops l:=λJ y c f e he d=>by
 unfold p5 at h
 simp only [jQ,mV] at h
 have a:=h J (gp.1 c).1
 rw [c,f] at a
 simp only [Bool.not_true,Bool.false_or,jQ] at a
 have b:=a e (by simpa using he)
 rw [d] at b
 simpa using b
theorem lV.set{ops:Array Oper}{l:Array Bool}{J:Nat}(h:lV ops l)(k:J∈Region.ready .any ops l):lV ops (l.setIfInBounds J true):=λm z d hm e he f=>by
 obtain⟨o,y,n,j⟩:=ow.1 k
 have mono:∀i,l.getD i false=true->(l.setIfInBounds J true).getD i false=true:=λi a=>by
  rcases ox (J=i) with rfl|c
  .rw [pS] at a⊢
   cases g:l[J]? with
   |none=>rw [g] at a;cases a
   |some b=>rw [tL (gp.1 g).1];rfl
  .rw [pS] at a⊢
   rw [pU c];exact a
 rcases ox (J=m) with rfl|c
 .rw [n] at d
  cases d
  exact mono _ (j e he f)
 .refine mono _ (h m z d ?_ e he f)
  rw [pS] at hm⊢
  rw [pU c] at hm
  exact hm
theorem nq.done{ops:Array Oper}{i:Nat}{l:Array Bool}(c:lV ops l):∀(d:Nat){J:Nat},nq ops d J i=true->l.getD J false=true->l.getD i false=true
 |0,_,h,_=>by cases h
 |d+1,J,h,j=>by
  rw [nq] at h
  simp only [mW,kf,d8] at h
  rcases h with a|⟨m,_,a,k⟩
  .obtain⟨y,g,e,he,b,f⟩:=waits.on a
   rw [<-f]
   exact c J y g j e he b
  .obtain⟨y,g,e,he,b,f⟩:=waits.on a
   exact nq.done c d k (by rw [<-f];exact c J y g j e he b)
theorem n2.done{ops:Array Oper}{i J:Nat}{l:Array Bool}(h:n2 ops J i=true)(n:J∈Region.ready .any ops l)(k:lV ops l):l.getD i false=true:=by
 obtain⟨p,y,g,f⟩:=ow.1 n
 unfold n2 at h
 rw [nq] at h
 simp only [mW,kf,d8] at h
 rcases h with b|⟨m,_,b,j⟩
 .obtain⟨o,a,e,he,c,d⟩:=waits.on b
  rw [g] at a
  cases a
  rw [<-d]
  exact f e he c
 .obtain⟨o,a,e,he,c,d⟩:=waits.on b
  rw [g] at a
  cases a
  exact nq.done k 6 j (by rw [<-d];exact f e he c)
theorem y5{l:Array Bool}{i:Nat}(a:l.getD i false=true)(c:l.getD i true=false):False:=by
 rw [pS] at a c
 cases d:l[i]? with
 |none=>rw [d] at a;exact absurd a (by decide)
 |some b=>rw [d] at a c;exact absurd (a.symm.trans c) (by decide)
theorem lI.no{ops:Array Oper}{i J:Nat}{x:Oper}{l:Array Bool}(h:lI ops J=true)(e:ops[i]? =some x)(d:i∈Region.ready .any ops l)(c:J∈Region.ready .any ops l)(f:J≠i)(b:lV ops l):False:=by
 unfold lI at h
 simp only [jQ,mV] at h
 have a:=h i (gp.1 e).1
 simp only [mW,dX] at a
 rcases a with(a|a)|a
 .exact absurd a.symm f
 .exact y5 (n2.done a c b) (ow.1 d).1
 .exact y5 (n2.done a d b) (ow.1 c).1
def hd(P:Program)(F:Fence)(ops:Array Oper)(a8:World->Prop)(Q:Exit->Act->World->Prop):Nat->Array Bool->Act->World->Prop
 |0,l,a,w=>Region.ready .any ops l=[]/\Q .normal a w
 |k+1,l,a,w=>(Region.ready .any ops l=[]->Q .normal a w)/\
  ∀i∈Region.ready .any ops l,wpOpIn F 0 P ops Q i (λa w=>(lI ops i=true\/a8 w)/\hd P F ops a8 Q k (l.setIfInBounds i true) a w) a w
theorem hd.any:∀(k:Nat)(l:Array Bool)(a:Act)(w:World),hd P F ops a8 Q k l a w->wpAnyIn F 0 P .any ops Q k l a w
 |0,_,_,_,h=>h
 |k+1,_,_,_,h=>⟨h.1,λi b=>wpOpIn_mono (λa w h=>hd.any k _ a w h.2) (h.2 i b)⟩
theorem Ip{i:Nat}{K:Act->World->Prop}{hH:Exit->Act->World->Prop}{a:Act}{w:World}(c:∀e a w,Q e a w->hH e a w)(h:wpOpIn F 0 P ops Q i K a w):wpOpIn F 0 P ops hH i K a w:=by
 unfold wpOpIn at*
 split
 .rename_i aP;simp only [aP] at h;exact h
 .rename_i I f
  simp only [f] at h
  split
  .rename_i hw
   rw [a6 hw] at h
   refine⟨h.1,?_⟩
   have b:=h.2
   cases d:(I.semAt F.round a.eval).run P w with
   |ok g j=>
    rw [d] at b
    cases g<;>first
     |exact b
     |exact⟨b.1,lw b.2 λe k he=>by
      cases e<;>first|exact he|exact c _ _ _ he|exact(let⟨a,w,h⟩:=he;⟨a,w,c _ _ _ h⟩)⟩
     |exact⟨b.1,pT b.2 λe k he=>by
      cases e<;>first|exact he|exact c _ _ _ he|exact(let⟨a,w,h⟩:=he;⟨a,w,c _ _ _ h⟩)⟩
   |halt l j=>rw [d] at b;cases l<;>first|exact b|exact c _ _ _ b
  .rename_i hw
   rw [aF hw] at h
   exact h
theorem hd.post{hH:Exit->Act->World->Prop}(b:∀e a w,Q e a w->hH e a w):∀(k:Nat)(l:Array Bool)(a:Act)(w:World),hd P F ops a8 Q k l a w->hd P F ops a8 hH k l a w
 |0,_,_,_,h=>⟨h.1,b _ _ _ h.2⟩
 |k+1,_,_,_,h=>⟨λc=>b _ _ _ (h.1 c),λi d=>Ip b (wpOpIn_mono (λa w h=>⟨h.1,hd.post b k _ a w h.2⟩) (h.2 i d))⟩
def jr(P:Program)(ops:Array Oper)(a8:World->Prop)(I:Oper)(v:Value)(a:Act):Prop:=
 if Region.wanted I (yielded ops a.tmps)=true then∀w,a8 w->(execOp a.eval I).run P w= .ok (.value v) w else v=undef
theorem rD{r:Option Nat}(f:FuncId):(jM r).fn f:=trivial
theorem jr.op{r:Option Nat}{i:Nat}{I:Oper}{v:Value}{a:Act}{w:World}{K:Act->World->Prop}(d:ops[i]? =some I)(aP:∀c,I.op≠.defer c)(h:jr P ops a8 I v a)(hw:a8 w)(k:K (a.put I.dst v) w):wpOpIn (jM r) 0 P ops Q i K a w:=by
 unfold jr at h
 unfold wpOpIn
 rw [d]
 dsimp only
 by_cases b:Region.wanted I (yielded ops a.tmps)=true
 .rw [a6 b] at h⊢
  refine⟨λf _=>rD f,?_⟩
  rw [nG _ _ _ aP,h w hw]
  exact k
 .rw [aF b] at h⊢
  rw [<-h]
  exact⟨λf _=>rD f,k⟩
theorem jr.fP{I:Oper}{v:Value}{a b:Act}(h:jr P ops a8 I v a)(he:execOp b.eval I=execOp a.eval I)(hw:Region.wanted I (yielded ops b.tmps)=Region.wanted I (yielded ops a.tmps)):jr P ops a8 I v b:=by
 unfold jr at*
 rw [he,hw]
 exact h
theorem FW{r:Option Nat}{J:Nat}{x y:Oper}{v:Value}{a:Act}{w:World}{K:Act->World->Prop}(z:ops[J]? =some y)(s:x.apart ops y=true)(o:∀cs b,x.op≠.select cs b)(B:∀cs b,y.op≠.select cs b)(k:∀c,y.op≠.defer c)
 (j:∀c a w,Q (.panic c) (a.put x.dst v) w->Q (.panic c) a w) (g:jr P ops a8 x v a) (h:wpOpIn (jM r) 0 P ops Q J K (a.put x.dst v) w):
 wpOpIn (jM r) 0 P ops Q J (λa w=>jr P ops a8 x v a/\K (a.put x.dst v) w) a w:=by
 obtain⟨l,q,i⟩:=Oper.apart_spec s
 have still:∀b:Act,jr P ops a8 x v b->∀u,jr P ops a8 x v (b.put y.dst u):=λb t u=>t.fP (execOp_put x o b y.dst u i) (wanted_put x b y.dst u i)
 have swap:∀(b:Act)(u:Value),K ((b.put x.dst v).put y.dst u)=K ((b.put y.dst u).put x.dst v):=λb u=>by rw [Act.put_comm b v u q]
 have same:execOp (a.put x.dst v).eval y=execOp a.eval y:=execOp_put y B a x.dst v l
 unfold wpOpIn at h⊢
 rw [z] at h⊢
 dsimp only at h⊢
 rw [wanted_put y a x.dst v l] at h
 by_cases n:Region.wanted y (yielded ops a.tmps)=true
 .rw [a6 n] at h⊢
  refine⟨λf _=>rD f,?_⟩
  have d:=h.2
  rw [nG _ _ _ k,same] at d
  rw [nG _ _ _ k]
  cases m:(execOp a.eval y).run P w with
  |ok A C=>
   rw [m] at d
   cases A<;>dsimp only [Oper.uponIn] at d⊢<;>first
    |exact d.elim
    |exact⟨still a g _,by rw [<-swap];exact d⟩
    |(refine⟨d.1,lw d.2 λe p he=>?_⟩
      cases e with
      |returned u=>exact⟨still a g u,by rw [<-swap];exact he⟩
      |panicked c=>exact j _ _ _ he
      |outgrown=>exact he)
    |(refine⟨d.1,pT d.2 λe p he=>?_⟩
      cases e with
      |returned u=>exact⟨still a g u,by rw [<-swap];exact he⟩
      |panicked c=>exact j _ _ _ he
      |outgrown=>exact he)
    |exact⟨d.1,RowsIn.mono d.2 λu p he=>⟨still a g u,by rw [<-swap];exact he⟩⟩
    |(refine⟨jr.fP g (execOp_put x o {a with defers:=_} y.dst undef i) (wanted_put x {a with defers:=_} y.dst undef i),?_⟩
      rw [<-swap,<-Act.put_defers]
      exact d)
  |halt D C=>
   rw [m] at d
   cases D<;>dsimp only [Oper.uponIn] at d⊢<;>first
    |exact d.elim
    |exact j _ _ _ d
 .rw [aF n] at h⊢
  exact⟨λf _=>rD f,still a g _,by rw [<-swap];exact h.2⟩
theorem hd.first{r:Option Nat}{i:Nat}{x:Oper}{v:Value}(f:ops[i]? =some x)(aM:∀(J:Nat)(I:Oper)cs b,ops[J]? =some I->I.op≠.select cs b)(u:∀(J:Nat)(I:Oper)c,ops[J]? =some I->I.op≠.defer c)(V:∀c a w,Q (.panic c) (a.put x.dst v) w->Q (.panic c) a w):
 ∀(k:Nat)(l:Array Bool)(a:Act)(w:World),a8 w->lV ops l->
  (∀J y,ops[J]? =some y->J≠i->l.getD J true=false->(∀e∈y.after,Region.binds .any e=true->e.on≠i)->x.apart ops y=true)->
  i∈Region.ready .any ops l->jr P ops a8 x v a->hd P (jM r) ops a8 Q k (l.setIfInBounds i true) (a.put x.dst v) w->hd P (jM r) ops a8 Q (k+1) l a w:=by
 intro k
 induction k with
 |zero=>
  intro l a w o _ _ j q h
  refine⟨λt=>absurd (t▸j) (by simp),λJ g=>?_⟩
  rcases ox (J=i) with rfl|d
  .exact q.op f (λc=>u _ _ c f) o ⟨.inr o,h⟩
  .have C:=ready_mono g d
   rw [h.1] at C
   simp at C
 |succ k X=>
  intro l a w o B bx j q h
  refine⟨λt=>absurd (t▸j) (by simp),λJ g=>?_⟩
  rcases ox (J=i) with rfl|d
  .exact q.op f (λc=>u _ _ c f) o ⟨.inr o,h⟩
  .obtain⟨F,y,s,K⟩:=ow.1 g
   have A:=(ow.1 j).1
   have U:∀e∈y.after,Region.binds .any e=true->e.on≠i:=λe he L M=>by
    have n:=K e he L
    subst M
    rw [pS] at n A
    cases E:l[e.on]? with
    |none=>rw [E] at n;exact absurd n (by decide)
    |some b=>rw [E] at n A;exact absurd (n.symm.trans A) (by decide)
   have H:=FW s (bx J y s d F U) (λcs b=>aM i x cs b f) (λcs b=>aM J y cs b s) (λc=>u J y c s) V q (h.2 J (ready_mono g d))
   have T:¬lI ops J=true:=λO=>by
    exact lI.no O f j g d B
   refine wpOpIn_mono (λG aI p=>⟨p.2.1,X (l.setIfInBounds J true) G aI (p.2.1.resolve_left T) (B.set g) ?_ (ready_mono j (Ne.symm d)) p.1 ?_⟩) H
   .intro m z W R D S
    refine bx m z W R ?_ S
    rcases ox (J=m) with rfl|N
    .exact F
    .rw [getD_set_ne true N] at D;exact D
   .rw [Array.setIfInBounds_comm _ _ d]
    exact p.2.2
end
def eJ(P:Program)(n:Fr)(ops:Array Oper)(a8:World->Prop)(k:Nat)(l:Array Bool)(aa:Env)(w:World)(Q:d5):Prop:=
 ∀a,cG aa n.n a->Marks n w a.defers->hd P (jM n.r) ops a8 (lift n w Q) k l a w
section
variable {P:Program} {n:Fr} {aa:Env} {w:World} {Q:d5} {ops:Array Oper} {a8:World->Prop} {k:Nat} {l:Array Bool}
abbrev hV(Q:d5):d5:=λe aa w=>match e with
 | .panic _=>False
 |e=>Q e aa w
theorem BC [hm:q5 P]{id:Nat}{ops:Array Oper}(a8:World->Prop)(h:eJ P n ops a8 ops.size (Array.replicate ops.size false) aa w.drew (hV Q)):W P n (.region id ops true) aa w Q:=λa c f=>by
 refine kC (wpIn_region_any (Q:=lift n w.drew (hV Q)) hm.h ?_) λe a j⟨ad,d,i,g,b⟩=>⟨(cS.drew w).trans ad,d,i,g,?_⟩
 .exact hd.any _ _ _ _ (h a c (f.fP (cS.drew w)))
 .cases e<;>first|exact b|exact False.elim b
def jW(ops:Array Oper)(l:Array Bool)(i:Nat):Bool:=Region.free .any ops l i&&p5 ops l
theorem jW.free{ops:Array Oper}{l:Array Bool}{i:Nat}(h:jW ops l i=true):Region.free .any ops l i=true:=by unfold jW at h;simp only [Bool.and_eq_true] at h;exact h.1
theorem jW.closed{ops:Array Oper}{l:Array Bool}{i:Nat}(h:jW ops l i=true):lV ops l:=by unfold jW at h;simp only [Bool.and_eq_true] at h;exact p5.spec h.2
theorem wg(i:Nat){I:Oper}{v:Value}(e:ops[i]? =some I)(aM:calm ops=true)(bx:jW ops l i=true)(o:(Region.ready .any ops l).contains i=true)
 (j:cW ops aa I.guard=some true) (g:c8 n I.dst=true) (f:a8 w)
 (p:∀w,a8 w->∀a,cG aa n.n a->(execOp a.eval I).run P w= .ok (.value v) w) (h:eJ P n ops a8 k (l.setIfInBounds i true) (cF aa I.dst v) w (hV Q)):eJ P n ops a8 (k+1) l aa w (hV Q):=λa b hm=>by
 refine hd.first (v:=v) e (Region.noSelect_spec (calm.z4 aM)) (λJ I c m=>calm.def aM m c) (λc a w d=>?_) k l a w f (jW.closed bx) (Region.free_spec e (jW.free bx)) (by simpa using o) ?_ (h _ (b.cF g v) (hm.put _ _))
 .obtain⟨_,_,q,_,d⟩:=d;exact d.elim
 .unfold jr
  rw [a6 (nK b j)]
  exact λw hw=>p w hw a b
theorem Bk(i:Nat){I:Oper}(e:ops[i]? =some I)(aM:calm ops=true)(bx:jW ops l i=true)(o:(Region.ready .any ops l).contains i=true)
 (j:cW ops aa I.guard=some false) (g:c8 n I.dst=true) (f:a8 w) (h:eJ P n ops a8 k (l.setIfInBounds i true) (cF aa I.dst undef) w (hV Q)):eJ P n ops a8 (k+1) l aa w (hV Q):=λa d hm=>by
 refine hd.first (v:=undef) e (Region.noSelect_spec (calm.z4 aM)) (λJ I c m=>calm.def aM m c) (λc a w b=>?_) k l a w f (jW.closed bx) (Region.free_spec e (jW.free bx)) (by simpa using o) ?_ (h _ (d.cF g undef) (hm.put _ _))
 .obtain⟨_,_,p,_,b⟩:=b;exact b.elim
 .unfold jr
  rw [aF (by rw [nK d j];decide)]
theorem AO{F:Fence}{i:Nat}{I:Oper}{a:Act}{K:Act->World->Prop}{Q:Exit->Act->World->Prop}(d:ops[i]? =some I)
 (h:wpListIn F 0 P ops (λe a w=>match e with| .normal=>K a w|e=>Q e a w) [I] a w):wpOpIn F 0 P ops Q i K a w:=by
 unfold wpOpIn
 rw [d]
 dsimp only
 unfold wpListIn at h
 split
 .rename_i hw
  rw [a6 hw] at h
  refine⟨h.1,?_⟩
  have b:=h.2
  cases c:(I.semAt F.round a.eval).run P w with
  |ok f g=>
   rw [c] at b
   cases f<;>first
    |exact b
    |exact⟨b.1,lw b.2 λe j he=>by cases e<;>exact he⟩
    |exact⟨b.1,pT b.2 λe j he=>by cases e<;>exact he⟩
  |halt k g=>rw [c] at b;cases k<;>exact b
 .rename_i hw
  rw [aF hw] at h
  exact h
theorem tm{i:Nat}{I:Oper}(d:ops[i]? =some I)
 (h:O P n ops [I] aa w (λe aa w=>match e with| .normal=>a8 w/\eJ P n ops a8 k (l.setIfInBounds i true) aa w Q|_=>False)) {a:Act} (c:cG aa n.n a) (hm:Marks n w a.defers):
 wpOpIn (jM n.r) 0 P ops (lift n w Q) i (λa aI=>(lI ops i=true\/a8 aI)/\hd P (jM n.r) ops a8 (lift n w Q) k (l.setIfInBounds i true) a aI) a w:=
 AO d (kT (λe a aI⟨ad,g,m,j,b⟩=>by
  cases e<;>first|exact⟨.inr b.1,hd.post (λ_ _ _ f=>lift.from ad f) _ _ _ _ (b.2 _ j g)⟩|exact False.elim b) _ _ _ (h a c hm))
theorem we(i:Nat){I:Oper}(g:ops[i]? =some I)(c:Region.ready .any ops l=[i])
 (h:O P n ops [I] aa w (λe aa w=>match e with| .normal=>a8 w/\eJ P n ops a8 k (l.setIfInBounds i true) aa w Q|_=>False)):eJ P n ops a8 (k+1) l aa w Q:=λa f hm=>by
 refine⟨λd=>absurd (c▸d) (by simp),λJ b=>?_⟩
 rw [c] at b
 obtain rfl:=gb.1 b
 exact tm g h f hm
theorem wd(i:Nat){I:Oper}(m:ops[i]? =some I)(f:Region.ready .any ops l=[i])(b:lI ops i=true)
 (h:O P n ops [I] aa w (λe aa w=>match e with| .normal=>eJ P n ops a8 k (l.setIfInBounds i true) aa w Q|_=>False)):eJ P n ops a8 (k+1) l aa w Q:=λa j hm=>by
 refine⟨λg=>absurd (f▸g) (by simp),λJ c=>?_⟩
 rw [f] at c
 obtain rfl:=gb.1 c
 exact AO m (kT (λe a aI⟨ad,o,q,p,d⟩=>by
  cases e<;>first|exact⟨.inl b,hd.post (λ_ _ _ b=>lift.from ad b) _ _ _ _ (d _ p o)⟩|exact False.elim d) _ _ _ (h a j hm))
end
section
variable {P:Program} {n:Fr} {aa:Env} {w:World} {Q:d5} {ops:Array Oper} {a8:World->Prop} {rest:List Oper} {I:Oper}
end
end Go.Proofs.YtdcbpdlhhkcjnaaGreatDoor.R
namespace Go.Proofs.YtdcbpdlhhkcjnaaGreatDoor.R
open Go.Proofs.Tryz Go
def bv(x:UInt8):Value:=.int .u8 x.toNat
def aE(l:List UInt8):List Value:=l.map bv
def ab(n:Int):Value:=.int .i64 n
theorem t9(a b:List UInt8):aE (a++b)=aE a++aE b:=by simp [aE]
@[simp] theorem ds(a:List UInt8):(aE a).length=a.length:=by simp [aE]
theorem fH(l:List UInt8):∀u∈aE l,u.oneCell'=true:=by
 intro u hu
 obtain⟨x,_,rfl⟩:=dT.1 hu
 rfl
theorem w9{l:List UInt8}{i:Nat}{x:UInt8}(h:l[i]? =some x):(aE l)[i]? =some (bv x):=by simp [aE,h]
def enc(u:Nat):List UInt8:=if u<128 then [UInt8.ofNat u] else UInt8.ofNat (u%128+128)::enc (u/128)
termination_by u
decreasing_by omega
theorem rV{u:Nat}(h:u<128):enc u=[UInt8.ofNat u]:=by rw [enc,a6 h]
theorem up{u:Nat}(h:¬u<128):enc u=UInt8.ofNat (u%128+128)::enc (u/128):=by rw [enc,aF h]
def kD(n:Int):Nat:=(max 0 (min n 4611686018427387904)).toNat
theorem xh(n:Int):kD n<=4611686018427387904:=by unfold kD;omega
def et(dB:List Int):List UInt8:=dB.flatMap λn=>enc (kD n)
theorem rU:∀(k u:Nat),u<128^(k+1)->(enc u).length<=k+1:=by
 intro k
 induction k with
 |zero=>intro u h;rw [rV (by omega)];simp
 |succ k a=>
  intro u h
  by_cases hu:u<128
  .rw [rV hu];simp
  .rw [up hu,ep]
   have:u/128<128^(k+1):=by rw [Nat.pow_succ] at h;omega
   have:=a _ this
   omega
theorem uq(u:Nat)(h:u<=4611686018427387904):(enc u).length<=9:=rU 8 u (by rw [show(128:Nat)^(8+1)=9223372036854775808 from by decide];omega)
theorem Dt(u:Nat):0<(enc u).length:=by
 by_cases hu:u<128
 .rw [rV hu];simp
 .rw [up hu];simp
theorem Dv(n:Int)(dB:List Int):et (n::dB)=enc (kD n)++et dB:=rfl
theorem Du(a b:List Int):et (a++b)=et a++et b:=by simp [et]
theorem gq(dB:List Int):(et dB).length<=9*dB.length:=by
 induction dB with
 |nil=>simp [et]
 |cons n dB a=>
  rw [Dv,ca,List.length_cons]
  have:=uq (kD n) (xh n)
  omega
theorem F6:∀x:Fin 256,(BitVec.ofNat 8 x.val|||128#8).toNat=x.val%128+128:=by decide+kernel
theorem Fo(u:Nat):IntKind.u8.wrap ((BitVec.ofInt IntKind.u8.bits (IntKind.u8.wrap (u:Int))|||BitVec.ofInt IntKind.u8.bits 128).toNat:Int)=((UInt8.ofNat (u%128+128)).toNat:Int):=by
 have a:IntKind.u8.wrap (u:Int)=((u%256:Nat):Int):=by rw [l4];omega
 have b:BitVec.ofInt IntKind.u8.bits (IntKind.u8.wrap (u:Int))=BitVec.ofNat 8 (u%256):=by rw [a];exact oy ..
 have c:BitVec.ofInt IntKind.u8.bits 128=(128#8:BitVec 8):=rfl
 have d:=F6 ⟨u%256,jx _ (by decide)⟩
 rw [b,c]
 have e:(BitVec.ofNat 8 (u%256)|||128#8).toNat=u%128+128:=by rw [d];simp
 have f:(UInt8.ofNat (u%128+128)).toNat=u%128+128:=by rw [oz];omega
 rw [f]
 show IntKind.u8.wrap (((BitVec.ofNat 8 (u%256)|||128#8:BitVec 8).toNat:Nat):Int)=_
 rw [e,l4]
 omega
theorem Fa(u:Nat):IntKind.u8.wrap (u:Int)=((UInt8.ofNat u).toNat:Int):=by
 rw [l4];simp [oz]
theorem Hd(u:Nat):(u:Int).fdiv (2^(min (7:Int).toNat IntKind.u64.bits))=((u/128:Nat):Int):=by
 have:(2:Int)^(min (7:Int).toNat IntKind.u64.bits)=128:=by decide
 rw [this,tM _ (by decide)]
 omega
theorem CS(n:Int):IntKind.u64.wrap (max 0 (min n 4611686018427387904))=((kD n:Nat):Int):=by
 rw [oA];unfold kD;omega
theorem c2(k:Nat)(h:k<9223372036854775807):evalBin .add .i64 (k:Int) 1=some (.int .i64 ((k+1:Nat):Int)):=by
 have:IntKind.i64.wrap ((k:Int)+1)=((k+1:Nat):Int):=by rw [jR];omega
 show some (Value.int .i64 (IntKind.i64.wrap ((k:Int)+1)))=_
 rw [this]
theorem w8{e:TypeId}{v:Value}{d:List UInt8}{x:UInt8}{ak:List Chunk}(h:Row e 1 v (d.length+1) (aE d++[bv x]) ak):Row e 1 v (d++[x]).length (aE (d++[x])) ak:=by
 simpa [aE] using h
theorem t8{e:TypeId}{v:Value}{d y:List UInt8}{m:Nat}{ak:List Chunk}(h:Row e 1 v (d.length+m) (aE d++aE y) ak)(hm:m=y.length):Row e 1 v (d++y).length (aE (d++y)) ak:=by
 subst hm
 simpa [aE] using h
theorem CG{x y:UInt8}(h:(x.toNat:Int)=y.toNat):x=y:=UInt8.toNat_inj.1 (by omega)
def d7(c:BitVec 32):Value:=.int .u32 c.toNat
theorem ofInt_u32(v:BitVec 32):BitVec.ofInt IntKind.u32.bits (v.toNat:Int)=v:=by
 show BitVec.ofInt 32 (v.toNat:Int)=v
 rw [oy,BitVec.ofNat_toNat]
 simp
theorem s9(v:BitVec 32):IntKind.u32.wrap (v.toNat:Int)=v.toNat:=by
 rw [IntKind.wrap_u32];have:=v.isLt;omega
theorem hx(x y:BitVec 32):evalBin .xor .u32 (x.toNat:Int) (y.toNat:Int)=some (d7 (x^^^y)):=by
 show some (Value.int .u32 (IntKind.u32.wrap ((BitVec.ofInt IntKind.u32.bits (x.toNat:Int)^^^BitVec.ofInt IntKind.u32.bits (y.toNat:Int)).toNat:Int)))=_
 rw [ofInt_u32,ofInt_u32]
 exact aL (λz=>some (Value.int .u32 z)) (s9 _)
theorem lG(x y:BitVec 32):evalBin .and .u32 (x.toNat:Int) (y.toNat:Int)=some (d7 (x&&&y)):=by
 show some (Value.int .u32 (IntKind.u32.wrap ((BitVec.ofInt IntKind.u32.bits (x.toNat:Int)&&&BitVec.ofInt IntKind.u32.bits (y.toNat:Int)).toNat:Int)))=_
 rw [ofInt_u32,ofInt_u32]
 exact aL (λz=>some (Value.int .u32 z)) (s9 _)
theorem xI(x:BitVec 32):qc .xor .u32 (x.toNat:Int)=some (d7 (~~~x)):=by
 have hm:(if IntKind.u32.signed=true then(-1:Int) else IntKind.u32.max)=((0xffffffff#32:BitVec 32).toNat:Int):=by decide
 show some (Value.int .u32 (IntKind.u32.wrap ((BitVec.ofInt IntKind.u32.bits (if IntKind.u32.signed=true then(-1:Int) else IntKind.u32.max)^^^BitVec.ofInt IntKind.u32.bits (x.toNat:Int)).toNat:Int)))=_
 rw [hm,ofInt_u32,ofInt_u32]
 have:(0xffffffff#32^^^x:BitVec 32)= ~~~x:=by rw [show(0xffffffff#32:BitVec 32)=BitVec.allOnes 32 from by decide,BitVec.allOnes_xor]
 show some (Value.int .u32 (IntKind.u32.wrap ((0xffffffff#32^^^x:BitVec 32).toNat:Int)))=_
 rw [this]
 exact aL (λz=>some (Value.int .u32 z)) (s9 _)
theorem m4(b:UInt8):IntKind.u32.wrap (b.toNat:Int)=((BitVec.ofNat 32 b.toNat).toNat:Int):=by
 rw [IntKind.wrap_u32,nE]
 have:=b.toNat_lt
 omega
def kV(w:World)(A:Option Addr)(rows:List (List UInt8))(F:List Nat):Prop:=By w A (rows.map aE) F
theorem kV.at{w:World}{F:List Nat}{A:Option Addr}{rows:List (List UInt8)}(h:kV w A rows F)(J:Nat)(i:J<rows.length):
 ∃(U:List Value)(a:Option Addr)(ci:Nat),Rd w A U/\bU A U F/\U[J]? =some (Value.slice a rows[J].length ci)/\Rd w a (aE rows[J])/\bU a (aE rows[J]) F:=by
 obtain⟨U,j,b,c,d⟩:=h
 obtain⟨a,ci,e,f,g⟩:=d J (aE rows[J]) (by simp [i])
 exact⟨U,a,ci,b,c,by simpa using e,f,g⟩
def hs(x:List UInt8):List UInt8:=enc x.length++x
def jC(rows:List (List UInt8)):List UInt8:=rows.flatMap hs
def i6(rows:List (List UInt8)):Nat:=(rows.map λr=>r.length+10).sum
theorem jB(x:List UInt8)(h:x.length<=4611686018427387904):(hs x).length<=x.length+9:=by
 have:=uq _ h
 simp only [hs,ca]
 omega
theorem vY(x:List UInt8)(r:List (List UInt8)):i6 (x::r)=x.length+10+i6 r:=rfl
theorem Iq(a b:List (List UInt8)):i6 (a++b)=i6 a+i6 b:=by simp [i6]
theorem Dr:∀(rows:List (List UInt8)),i6 rows<=4611686018427387904->(jC rows).length+rows.length<=i6 rows:=by
 intro rows
 induction rows with
 |nil=>intro _;simp [jC,i6]
 |cons x r b=>
  intro h
  rw [vY] at h⊢
  have a:=b (by omega)
  have c:=jB x (by omega)
  simp only [jC,jS,ca,List.length_cons] at a⊢
  omega
theorem Ir(rows:List (List UInt8)):rows.length<=i6 rows:=by
 induction rows with
 |nil=>simp
 |cons x r a=>rw [vY,ep];omega
theorem Is(rows:List (List UInt8))(J:Nat)(c:J<rows.length):i6 (rows.take J)+rows[J].length+10<=i6 rows:=by
 have a:rows=rows.take J++(rows[J]::rows.drop (J+1)):=by rw [<-kg c,mU]
 have b:=aL i6 a
 rw [Iq,vY] at b
 omega
theorem xi(k:Nat)(h:k<=4611686018427387904):kD (k:Int)=k:=by unfold kD;omega
theorem Ds(rows:List (List UInt8))(J:Nat)(a:J<rows.length):jC (rows.take (J+1))=jC (rows.take J)++hs rows[J]:=by
 unfold jC;rw [List.take_succ_eq_append_getElem a,List.flatMap_append];simp only [List.flatMap_cons,List.flatMap_nil,List.append_nil]
theorem kV.one{w:World}{F:List Nat}{A a:Option Addr}{x:List UInt8}{ci n:Nat}(c:Rd w A [.slice a n ci])(aP:n=x.length)(d:bU A [.slice a n ci] F)(e:Rd w a (aE x))(f:bU a (aE x) F):kV w A [x] F:=by
 subst aP
 refine⟨[.slice a x.length ci],j,c,d,λi xs b=>?_⟩
 cases i with
 |zero=>simp at b;subst b;exact⟨a,ci,by simp,e,f⟩
 |succ i=>simp at b
def View(v:Value)(aD:List UInt8)(G:List Chunk):Prop:=
 ∃(A:Option Addr)(c:Nat),v=Value.slice A aD.length c/\aD.length<=c/\c<=maxLen/\∀(o w:World)(F:List Nat)(ae:List (List Chunk)),C o F (G::ae) w->Rd w A (aE aD)/\bU A (aE aD) (av ae)
theorem View.nil(G:List Chunk):View (.slice none 0 0) [] G:=⟨none,0,j,cB _,ch _,λ_ _ _ _ _=>⟨Rd.nil _ _,λh=>(h j).elim⟩⟩
theorem View.ofRow{e:TypeId}{v:Value}{aD:List UInt8}{G:List Chunk}(h:Row e 1 v aD.length (aE aD) G):View v aD G:=by
 obtain⟨A,c,a,d,f⟩:=h.form
 refine⟨A,c,a,d,f,λo w F ae j=>?_⟩
 obtain⟨g1,k,b,_,_,g,i⟩:=h.rd j
 rw [a] at b
 cases b
 exact⟨g,i⟩
theorem Rd.drop{w:World}{A:Option Addr}{U:List Value}(h:Rd w A U)(k:Nat):Rd w (A.map (·.add k)) (U.drop k):=λi v d=>by
 rw [lx] at d
 obtain⟨a,rfl,e⟩:=h _ _ d
 refine⟨_,j,?_⟩
 rw [show(a.add k).add i=a.add (k+i) from ?_]
 .exact e
 .unfold Addr.add
  by_cases b:k=0
  .subst b;simp
  .by_cases c:i=0
   .subst c;simp [b]
   .rw [aF b,aF c,aF (by omega)]
    simp [ru]
theorem Rd.take{w:World}{A:Option Addr}{U:List Value}(h:Rd w A U)(k:Nat):Rd w A (U.take k):=λi v a=>by
 rw [jw] at a
 split at a
 .exact h i v a
 .cases a
theorem ua(l:List UInt8)(k:Nat):aE (l.drop k)=(aE l).drop k:=by simp [aE,List.map_drop]
theorem xa(l:List UInt8)(k:Nat):aE (l.take k)=(aE l).take k:=by simp [aE,List.map_take]
theorem View.drop{A:Option Addr}{aD:List UInt8}{c k:Nat}{G:List Chunk}(h:View (.slice A aD.length c) aD G)(ad:k<=aD.length):
 View (.slice (if c=k then A else A.map (·.add (k*1))) (aD.length-k) (c-k)) (aD.drop k) G:=by
 obtain⟨g1,p,n,q,r,f⟩:=h
 cases n
 by_cases d:c=k
 .rw [a6 d]
  have:aD.drop k=[]:=List.drop_eq_nil_of_le (by omega)
  rw [this]
  refine⟨A,c-k,by simp;omega,by simp,by omega,λ_ _ _ _ _=>⟨Rd.nil _ _,λh=>(h j).elim⟩⟩
 .rw [aF d,gT]
  refine⟨_,c-k,by rw [iP],by rw [iP];omega,by omega,λo w F ae l=>?_⟩
  obtain⟨g,i⟩:=f o w F ae l
  refine⟨by rw [ua];exact g.drop k,λm a b=>?_⟩
  cases A with
  |none=>cases b
  |some e=>
   cases b
   rw [wB]
   refine i (λhe=>m ?_) e j
   rw [ua,he,List.drop_nil]
abbrev eb:=Option (List UInt8)
def eb.left(s:eb):List UInt8:=s.getD []
def hI(v:Value)(b:Bool)(s:eb)(G:List Chunk):Prop:=b=s.isNone/\View v s.left G
theorem hI.bad(G:List Chunk):hI (.slice none 0 0) true none G:=⟨j,View.nil G⟩
def lE(i u:Nat):List UInt8->Option (Nat×List UInt8)
 |[]=>none
 |c::r=>if 9<=i\/(0<i/\c=0) then none else
  if c.toNat<128 then(if u+c.toNat%128*128^i>4611686018427387904 then none else some (u+c.toNat%128*128^i,r))
  else lE (i+1) (u+c.toNat%128*128^i) r
def dec(l:List UInt8):Option (Nat×List UInt8):=lE 0 0 l
def d9(s:eb):Nat×eb:=match s with
 |none=>(0,none)
 |some aD=>match dec aD with
  |some (u,r)=>(u,some r)
  |none=>(0,none)
def iI(s:eb)(n:Int):List UInt8×eb:=match s with
 |none=>([],none)
 |some aD=>if n<0\/n>aD.length then([],none) else(aD.take n.toNat,some (aD.drop n.toNat))
def lh(s:eb):List UInt8×eb:=iI (d9 s).2 (d9 s).1
theorem qG{s:eb}(h:dec s.left=none):d9 s=(0,none):=by
 cases s with
 |none=>rfl
 |some l=>unfold d9;dsimp only;rw [show dec l=none from h]
theorem zT{s:eb}{u:Nat}{r:List UInt8}(h:dec s.left=some (u,r)):d9 s=(u,some r):=by
 cases s with
 |none=>rw [show eb.left none=[] from j] at h;simp [dec,lE] at h
 |some l=>unfold d9;dsimp only;rw [show dec l=some (u,r) from h]
theorem lF(i u:Nat)(c:UInt8)(r:List UInt8):lE i u (c::r)=if 9<=i\/(0<i/\c=0) then none else
 if c.toNat<128 then(if u+c.toNat%128*128^i>4611686018427387904 then none else some (u+c.toNat%128*128^i,r))
 else lE (i+1) (u+c.toNat%128*128^i) r:=rfl
theorem BY:∀x:Fin 256,(BitVec.ofNat 8 x.val&&&127#8).toNat=x.val%128:=by decide+kernel
theorem xH(c:UInt8):evalBin .and .u8 (c.toNat:Int) 127=some (.int .u8 ((c.toNat%128:Nat):Int)):=by
 show some (Value.int .u8 (IntKind.u8.wrap ((BitVec.ofInt IntKind.u8.bits (c.toNat:Int)&&&BitVec.ofInt IntKind.u8.bits 127).toNat:Int)))=_
 have a:BitVec.ofInt IntKind.u8.bits (c.toNat:Int)=BitVec.ofNat 8 c.toNat:=oy ..
 have b:BitVec.ofInt IntKind.u8.bits 127=(127#8:BitVec 8):=rfl
 have d:=BY ⟨c.toNat,c.toNat_lt⟩
 rw [a,b]
 show some (Value.int .u8 (IntKind.u8.wrap (((BitVec.ofNat 8 c.toNat&&&127#8:BitVec 8)).toNat:Int)))=_
 rw [d,l4]
 congr 2
 show((c.toNat%128:Nat):Int)%256=_
 omega
theorem m3(x:Nat)(h:x<18446744073709551616):IntKind.u64.wrap (x:Int)=(x:Int):=by rw [oA];omega
theorem xm(x:Nat)(h:x<9223372036854775808):IntKind.i64.wrap (x:Int)=(x:Int):=by rw [jR];omega
theorem yX(i:Nat)(h:i<=9):evalBin .mul .i64 7 (i:Int)=some (.int .i64 ((7*i:Nat):Int)):=by
 have a:IntKind.i64.wrap (7*(i:Int))=((7*i:Nat):Int):=by rw [jR];omega
 show some (Value.int .i64 (IntKind.i64.wrap (7*(i:Int))))=_
 rw [a]
theorem zv{i:Nat}(h:i<=8):128^i<=72057594037927936:=by
 have:=Nat.pow_le_pow_right (show 0<128 by decide) h
 rw [show(128:Nat)^8=72057594037927936 from by decide] at this
 exact this
theorem vT(i:Nat):2^(7*i)=128^i:=by rw [Nat.pow_mul]
theorem Aa(x i:Nat)(f:x<128)(d:i<=8):evalShift .shl .u64 (x:Int) ((7*i:Nat):Int)=some (.int .u64 ((x*128^i:Nat):Int)):=by
 show some (Value.int .u64 (IntKind.u64.wrap ((x:Int)*2^(min ((7*i:Nat):Int).toNat IntKind.u64.bits))))=_
 have a:min ((7*i:Nat):Int).toNat IntKind.u64.bits=7*i:=by
  rw [l5,show IntKind.u64.bits=64 from j];omega
 have b:(x:Int)*2^(7*i)=((x*128^i:Nat):Int):=by rw [<-vT];push_cast;rfl
 have c:=zv d
 have e:x*128^i<=127*72057594037927936:=rv (by omega) c
 rw [a,b,m3 _ (by omega)]
theorem zj(u x i:Nat)(hu:u<128^i)(g:x<128)(e:i<=8):evalBin .or .u64 (u:Int) ((x*128^i:Nat):Int)=some (.int .u64 ((u+x*128^i:Nat):Int)):=by
 show some (Value.int .u64 (IntKind.u64.wrap ((BitVec.ofInt IntKind.u64.bits (u:Int)|||BitVec.ofInt IntKind.u64.bits ((x*128^i:Nat):Int)).toNat:Int)))=_
 have c:=zv e
 have f:x*128^i<=127*72057594037927936:=rv (by omega) c
 have a:BitVec.ofInt IntKind.u64.bits (u:Int)=BitVec.ofNat 64 u:=oy ..
 have b:BitVec.ofInt IntKind.u64.bits ((x*128^i:Nat):Int)=BitVec.ofNat 64 (x*128^i):=oy ..
 have d:(BitVec.ofNat 64 u|||BitVec.ofNat 64 (x*128^i)).toNat=u+x*128^i:=by
  rw [BitVec.toNat_or,nE,nE,ry (by omega),ry (by omega),<-vT]
  have:=Nat.shiftLeft_add_eq_or_of_lt (show u<2^(7*i) by rw [vT];exact hu) x
  rw [Nat.shiftLeft_eq] at this
  rw [Nat.or_comm,<-this,Nat.add_comm]
 rw [a,b]
 show some (Value.int .u64 (IntKind.u64.wrap ((BitVec.ofNat 64 u|||BitVec.ofNat 64 (x*128^i)).toNat:Int)))=_
 rw [d,m3 _ (by omega)]
theorem DK(x y:UInt8):evalBin .xor .u8 (x.toNat:Int) (y.toNat:Int)=some (bv (x^^^y)):=by
 have a:∀c:UInt8,BitVec.ofInt IntKind.u8.bits (c.toNat:Int)=BitVec.ofNat 8 c.toNat:=λc=>oy ..
 show some (Value.int .u8 (IntKind.u8.wrap ((BitVec.ofInt IntKind.u8.bits (x.toNat:Int)^^^BitVec.ofInt IntKind.u8.bits (y.toNat:Int)).toNat:Int)))=_
 rw [a,a]
 have b:(BitVec.ofNat 8 x.toNat^^^BitVec.ofNat 8 y.toNat).toNat=(x^^^y).toNat:=by
  rw [BitVec.toNat_xor,UInt8.toNat_xor,nE,nE,ry x.toNat_lt,ry y.toNat_lt]
 show some (Value.int .u8 (IntKind.u8.wrap (((BitVec.ofNat 8 x.toNat^^^BitVec.ofNat 8 y.toNat:BitVec 8)).toNat:Int)))=_
 rw [b,l4]
 have:=(x^^^y).toNat_lt
 show some (Value.int .u8 _)=some (Value.int .u8 _)
 congr 2
 omega
end Go.Proofs.YtdcbpdlhhkcjnaaGreatDoor.R
namespace Go.Proofs.YtdcbpdlhhkcjnaaGreatDoor.R
open Go.Proofs.Tryz Go Go.RowKit
section
variable {P:Program} {n:Fr} {aa:Env} {w:World} {Q:d5} {ops:Array Oper} {rest:List Oper}
 {dst:Option Nat} {ty:TypeId} {pos:String} {after:Array Edge} {g:Option (Nat×Bool)}
theorem n6{t j:TypeId}{x y:Operand}{a b:ByteArray}(e:cW ops aa g=some true)(d:c8 n dst=true)
 (f:bs aa x=some (.string a)) (i:bs aa y=some (.string b))
 (h:O P n ops rest (cF aa dst (.bool (a==b))) w Q):O P n ops (⟨dst,.binOp .eql t x y j,ty,pos,after,g⟩::rest) aa w Q:=
 dO e d (λac c=>by
  simp only [execOp,c.eval f,c.eval i,dR,eqGuard_at_string,binOp_string_eql,dU,ee,<-rz]) h
theorem hE{f:FuncId}{x:Operand}{p:Array TypeId}{args:Array Operand}{U:List Value}{fz bc:Array Value}{ak:Value->World->Prop}[bx:Entry P f](l:cW ops aa g=some true)(k:c8 n dst=true)
 (o:bs aa x=some (.func (.func f) fz bc)) (m:fo aa args.toList=some U) (j:Calls P f (fz++U.toArray++bc) w ak)
 (h:∀v aI,ak v aI->O P n ops rest (cF aa dst v) aI Q):O P n ops (⟨dst,.call ⟨.value x,args,p⟩,ty,pos,after,g⟩::rest) aa w Q:=by
 obtain⟨fn,c,d,e⟩:=bx.h
 refine wm (f:=f) (U:=fz++U.toArray++bc) (aI:=w) l k (λa b=>?_) j h
 have:args.map a.eval=U.toArray:=by apply fu;rw [hj,b.hl m]
 have i:fn.body.isNone=false:=e
 simp only [execOp,resolve,this,b.eval o,Deferred.ofValue,invoke,callFunc,c,d,i,dR,ee,dU,l3,pR,Array.append_empty,if_false,Bool.false_eq_true]
theorem wn{t j:TypeId}{x y:Operand}{xs cR:Array Value}{b:Bool}(d:cW ops aa g=some true)(c:c8 n dst=true)
 (f:bs aa x=some (.agg xs)) (i:bs aa y=some (.agg cR)) (hm:P.eqGuardType P.depth t=false) (e:∀w,(Op.equalIn 10000 t (.agg xs) (.agg cR)).run P w= .ok b w)
 (h:O P n ops rest (cF aa dst (.bool b)) w Q):O P n ops (⟨dst,.binOp .eql t x y j,ty,pos,after,g⟩::rest) aa w Q:=
 dO d c (λac a=>by
  simp only [execOp,a.eval f,a.eval i,dR,run_eqGuard_agg w .eql t x y xs cR hm,dU,run_eql_struct,e,ee]) h
def setCells(c:Array Value)(off:Nat):List Value->Array Value
 |[]=>c
 |v::r=>setCells (c.setIfInBounds off v) (off+1) r
theorem sI:∀(U:List Value)(c:Array Value)(off:Nat),(setCells c off U).size=c.size
 |[],_,_=>rfl
 |v::r,c,off=>by rw [setCells,sI r];simp
theorem o3:∀(U:List Value)(c:Array Value)(off:Nat),off+U.length<=c.size->∀i,(setCells c off U)[i]? =if off<=i/\i<off+U.length then U[i-off]? else c[i]?
 |[],c,off,_,i=>by rw [aF (by simp)];rfl
 |v::r,c,off,h,i=>by
  simp only [ep] at h⊢
  rw [setCells,o3 r _ _ (by simp;omega) i]
  rcases rA i off with a|a|a
  .rw [aF (by omega),aF (by omega),pU (by omega)]
  .subst a
   rw [aF (by omega),a6 (by omega),tL (by omega)]
   simp
  .by_cases b:i<off+1+r.length
   .rw [a6 (by omega),a6 (by omega),show i-off=(i-(off+1))+1 by omega,nF]
   .rw [aF (by omega),aF (by omega),pU (by omega)]
theorem z6(U:List Value)(c:Array Value)(h:c.size=U.length):setCells c 0 U=U.toArray:=by
 apply rB
 intro i
 rw [o3 U c 0 (by omega) i]
 split
 .simp
 .rename_i aP
  rw [tN (by omega)]
  simp
  omega
theorem C.whole{o w:World}{F:List Nat}{ae:List (List Chunk)}{b:Nat}{e:TypeId}{c:Array Value}{U:List Value}(h:C o F ([(b,.cells (setCells c 0 U) e (0,0))]::ae) w)(a:c.size=U.length):C o F ([(b,.cells U.toArray e (0,0))]::ae) w:=by
 rw [z6 U c a] at h
 exact h
theorem C.storeCells{P:Program}{o:World}{F:List Nat}{ae:List (List Chunk)}{b:Nat}{e:TypeId}{off:Nat}:∀(U:List Value)(i:Nat)(c:Array Value)(w:World),
 C o F ([(b,.cells c e (0,0))]::ae) w->off+i+U.length<=c.size->(∀v∈U,v.oneCell'=true)->
 ∃aI,(Go.storeCells ⟨b,off,none⟩ U i).run P w= .ok () aI/\C o F ([(b,.cells (setCells c (off+i) U) e (0,0))]::ae) aI/\cS w aI
 |[],i,c,w,a,_,_=>⟨w,j,a,cS.refl _⟩
 |v::r,i,c,w,a,m,f=>by
  simp only [ep] at m
  have l:w.frozen? ⟨b,off+i,none⟩=false:=by simp [World.frozen?,a.first]
  have h1:w.cell? ⟨b,off+i,none⟩=some (c[off+i]'(by omega)):=a.cell (by simp)
  have d:=run_store P w ⟨b,off+i,none⟩ v .plain (f v (by simp))
  rw [h1] at d
  simp only [l] at d
  obtain⟨aI,g,h,k⟩:=C.storeCells (off:=off) r (i+1) (c.setIfInBounds (off+i) v) _ (a.setCell (off+i) v) (by simp;omega) (λx n=>f x (by simp [n]))
  refine⟨aI,?_,?_,(cS.cells a.first (λ_ ad=>uO _ v ad)).trans k⟩
  .simp only [Go.storeCells,dR,add_lit]
   rw [show(Go.store ⟨b,off+i,none⟩ v).run P w= .ok () (w.setCell ⟨b,off+i,none⟩ v) from by simpa using d]
   exact g
  .exact h
theorem c5{t:TypeId}{x y:Operand}{z:Value}{size bytes:Nat}{o:World}{F:List Nat}{ae:List (List Chunk)}{b off:Nat}{c:Array Value}{e:TypeId}{U:Array Value}[r:cq P t z size bytes]
 (m:C o F ([(b,.cells c e (0,0))]::ae) w) (q:cW ops aa g=some true)
 (E:bs aa x=some (.pointer (some ⟨b,off,none⟩))) (G:bs aa y=some (.agg U)) (B:U.toList.all (·.oneCell')=true) (A:U.size=size) (H:off+size<=c.size)
 (h:∀aI,C o F ([(b,.cells (setCells c off U.toList) e (0,0))]::ae) aI->O P n ops rest aa aI Q):O P n ops (⟨none,.store t x y,ty,pos,after,g⟩::rest) aa w Q:=by
 obtain⟨aI,f,k,l⟩:=C.storeCells (P:=P) (off:=off) U.toList 0 c w m (by simp;omega) (λv D=>jQ.1 B v D)
 refine tq (aI:=aI) q j (λa d=>?_) (h aI k) l
 obtain⟨i,s,_,u,_⟩:=r.parts
 have p:(Value.agg U).cells=U:=rfl
 simp only [execOp,d.eval E,d.eval G,Instr.storeAt,Instr.sureAddr,storeVar,p,sizeOf,typeInfo,dR,ee,dU,l3,s,u]
 simp [A,f]
def strOf(aD:List UInt8):ByteArray:=⟨aD.toArray⟩
theorem my(x y:List UInt8):(strOf x==strOf y)=decide (x=y):=by
 rw [rz,ByteArray.toList_eq,ByteArray.toList_eq]
 show(x==y)=_
 rw [mX]
 simp
theorem mD{s t e:TypeId}{x:Operand}{A:Option Addr}{c:Nat}{aD:List UInt8}[aM:bC P s (.slice e)][he:bC P e (.int .u8)][l:bC P t .string]
 (m:bs aa x=some (.slice A aD.length c)) (k:Rd w A (aE aD)):
 ∀a,cG aa n.n a->(execOp a.eval ⟨dst,.convert s t x,ty,pos,after,g⟩).run P w= .ok (.value (.string (strOf aD))) w:=
 λac i=>by
  cases A with
  |none=>
   have:aD=[]:=by
    cases aD with
    |nil=>rfl
    |cons x r=>obtain⟨a,p,_⟩:=k 0 (bv x) j;cases p
   subst this
   have o:=run_convert_bytes_nil (P:=P) w s e aM.h he.h 0 c t l.h
   simp only [execOp,i.eval m,ga,o,dR,dU,ee]
   rfl
  |some a=>
   have f:=pQ (P:=P) w a (aE aD) (λJ v B=>by obtain⟨b,q,u⟩:=k J v B;cases q;exact u)
   rw [show(aE aD).length=aD.length by simp] at f
   have hm:aE aD=(aD.map λx=>(x.toNat:Int)).map (Value.int .u8):=by simp [aE,bv]
   rw [hm] at f
   have d:=run_convert_bytes_string (P:=P) w s t e (some a) aD.length c aM.h he.h l.h
   rw [run_bytesToString w _ aD.length c _ f,foldl_push_bytes] at d
   have z:(aD.map λx=>(x.toNat:Int)).map (λn=>UInt8.ofNat n.toNat)=aD:=by
    rw [ou]
    conv=>rhs;rw [<-List.map_id aD]
    apply oB
    intro x _
    simp
   have y:(⟨ByteArray.empty.data++aD.toArray⟩:ByteArray)=strOf aD:=by
    apply ByteArray.ext
    apply Array.toList_inj.1
    rw [tJ]
    rfl
   rw [z,y] at d
   simp only [execOp,i.eval m,d,dR,dU,ee]
theorem wt{s t e:TypeId}{x:Operand}{A:Option Addr}{c:Nat}{aD:List UInt8}[aM:bC P s (.slice e)][he:bC P e (.int .u8)][i:bC P t .string](b:cW ops aa g=some true)(a:c8 n dst=true)
 (f:bs aa x=some (.slice A aD.length c)) (d:Rd w A (aE aD))
 (h:O P n ops rest (cF aa dst (.string (strOf aD))) w Q):O P n ops (⟨dst,.convert s t x,ty,pos,after,g⟩::rest) aa w Q:=
 dO b a (mD f d) h
theorem AX{P:Program}{n:Nat}{aa:Env}{w:World}{dst:Option Nat}{ty:TypeId}{pos:String}{after:Array Edge}{g:Option (Nat×Bool)}{t i:TypeId}{x y:Operand}{a b:ByteArray}{c:Bool}(f:bs aa x=some (.string a))(h:bs aa y=some (.string b))(e:(a==b)=c):
 ∀ac,cG aa n ac->(execOp ac.eval ⟨dst,.binOp .eql t x y i,ty,pos,after,g⟩).run P w= .ok (.value (.bool c)) w:=λac d=>by
 subst e
 simp only [execOp,d.eval f,d.eval h,dR,eqGuard_at_string,binOp_string_eql,dU,ee,<-rz]
theorem q2{P:Program}{n:Nat}{aa:Env}{w:World}{dst:Option Nat}{ty:TypeId}{pos:String}{after:Array Edge}{g:Option (Nat×Bool)}{t f:TypeId}{x y:Operand}{xs cR:Array Value}{b:Bool}(d:bs aa x=some (.agg xs))(e:bs aa y=some (.agg cR))(hm:P.eqGuardType P.depth t=false)(c:∀w,(Op.equalIn 10000 t (.agg xs) (.agg cR)).run P w= .ok b w):
 ∀ac,cG aa n ac->(execOp ac.eval ⟨dst,.binOp .eql t x y f,ty,pos,after,g⟩).run P w= .ok (.value (.bool b)) w:=λac a=>by
 simp only [execOp,a.eval d,a.eval e,dR,run_eqGuard_agg w .eql t x y xs cR hm,dU,run_eql_struct,c,ee]
theorem dc{P:Program}{n:Nat}{aa:Env}{w:World}{dst:Option Nat}{ty:TypeId}{pos:String}{after:Array Edge}{g:Option (Nat×Bool)}{t:TypeId}{d:TypeDesc}{x:Operand}{A:Addr}{U:List Value}{z:Value}{size bytes:Nat}[hu:bC P t d][m:cq P t z size bytes]
 (s:bs aa x=some (.pointer (some A))) (e:h2 d=true) (q:U.length=size) (j:Rd w (some A) U):∀a,cG aa n a->(execOp a.eval ⟨dst,.load t x,ty,pos,after,g⟩).run P w= .ok (.value (.agg U.toArray)) w:=
 λa l=>by
  obtain⟨i,o,_,p,_⟩:=m.parts
  have c:=pQ (P:=P) w A U (λJ v r=>by obtain⟨b,f,k⟩:=j J v r;cases f;exact k)
  rw [q] at c
  simp [execOp,l.eval s,Instr.loadAt,Instr.sureAddr,loadVar,kr hu.h,e,sizeOf,typeInfo,o,p,c]
theorem hd.narrow{P:Program}{F:Fence}{ops:Array Oper}{a8 b:World->Prop}{Q:Exit->Act->World->Prop}(c:∀w,b w->a8 w):∀(k:Nat)(l:Array Bool)(a:Act)(w:World),hd P F ops b Q k l a w->hd P F ops a8 Q k l a w
 |0,_,_,_,h=>h
 |k+1,_,_,_,h=>⟨h.1,λi d=>wpOpIn_mono (λa w h=>⟨h.1.imp id (c w),hd.narrow c k _ a w h.2⟩) (h.2 i d)⟩
theorem pq{P:Program}{n:Fr}{aa:Env}{w:World}{Q:d5}{ops:Array Oper}{a8:World->Prop}{k:Nat}{l:Array Bool}(b:World->Prop)(c:∀w,b w->a8 w)(h:eJ P n ops b k l aa w Q):eJ P n ops a8 k l aa w Q:=λa d hm=>hd.narrow c _ _ _ _ (h a d hm)
theorem tl{P:Program}{n:Fr}{aa:Env}{w:World}{Q:d5}{ops:Array Oper}{a8:World->Prop}{k:Nat}{l:Array Bool}(d:Nat){b:Bool}(e:look aa d=some (.bool b))(f:b=true->eJ P n ops a8 k l ((d,.bool true)::aa) w Q)(bx:b=false->eJ P n ops a8 k l ((d,.bool false)::aa) w Q):eJ P n ops a8 k l aa w Q:=λa c hm=>by
 cases b with
 |true=>exact f j a (c.tell e) hm
 |false=>exact bx j a (c.tell e) hm
theorem q6{P:Program}{n:Fr}{aa:Env}{w:World}{Q:d5}{ops:Array Oper}{a8:World->Prop}{k:Nat}{l:Array Bool}(d:Nat){u:Value}(v:Value)(c:look aa d=some u)(e:u=v)(h:eJ P n ops a8 k l ((d,v)::aa) w Q):eJ P n ops a8 k l aa w Q:=λa b hm=>
 h a (b.tell (e▸c)) hm
theorem lo{P:Program}{n:Fr}{aa:Env}{w:World}{Q:d5}{ops:Array Oper}{a8:World->Prop}{k:Nat}{l:Array Bool}(i J:Nat){f g:Oper}(p:ops[i]? =some f)(q:ops[J]? =some g)(d:Region.ready .any ops l=[i,J])
 (j:O P n ops [f] aa w (λe aa w=>match e with| .normal=>a8 w/\eJ P n ops a8 k (l.setIfInBounds i true) aa w Q|_=>False))
 (o:O P n ops [g] aa w (λe aa w=>match e with| .normal=>a8 w/\eJ P n ops a8 k (l.setIfInBounds J true) aa w Q|_=>False)):eJ P n ops a8 (k+1) l aa w Q:=λa b c=>by
 refine⟨λh=>absurd (d▸h) (by simp),λm hm=>?_⟩
 rw [d] at hm
 rcases gd.1 hm with rfl|hm
 .exact tm p j b c
 .obtain rfl:=gb.1 hm
  exact tm q o b c
theorem G1(p q r:List Value)(h:r.length=q.length):setCells (p++q).toArray p.length r=(p++r).toArray:=by
 apply rB
 intro i
 rw [o3 r _ _ (by simp;omega) i]
 simp only [mY]
 split
 .rename_i b
  rw [jy b.1]
 .rename_i b
  by_cases a:i<p.length
  .rw [iz a,iz a]
  .rw [kA (by simp;omega),kA (by simp;omega)]
theorem Be{P:Program}{n:Nat}{aa:Env}{w:World}{dst:Option Nat}{ty:TypeId}{pos:String}{after:Array Edge}{g:Option (Nat×Bool)}{t e:TypeId}{x:Operand}{A:Addr}{m:Nat}{z:Value}{size bytes:Nat}[hu:bC P t (.array m e)][d:cq P e z size bytes]
 (j:bs aa x=some (.pointer (some A))):∀a,cG aa n a->(execOp a.eval ⟨dst,.slice t x none none none,ty,pos,after,g⟩).run P w= .ok (.value (.slice (some A) m m)) w:=
 λa c=>by
  obtain⟨i,f,_,k,_⟩:=d.parts
  have b:A.add 0=A:=by simp [Addr.add]
  simp [execOp,c.eval j,Instr.sliceAt,Instr.sureAddr,Instr.sliceBounds,d6 hu.h,sizeOf,typeInfo,f,b]
theorem nk{P:Program}{w:World}{t:TypeId}{d:TypeDesc}{cs:Array Value}{off:Nat}{v:Value}(hu:P.underlying t=some d)(a:h2 d=false)(b:cs[off]? =some v):(part t cs off).run P w= .ok v w:=by
 simp [part,kr hu,a,b]
theorem ux{P:Program}{w:World}{d:Nat}{xs cR:Array Value}:(Op.eqFields d xs cR []).run P w= .ok true w:=by simp [Op.eqFields]
theorem uy{P:Program}{w:World}{d:Nat}{xs cR:Array Value}{f:Field}{gD:List Field}{x y:Value}{b r:Bool}(aP:(f.name != "_")=true)(c:(part f.type xs f.offset).run P w= .ok x w)(e:(part f.type cR f.offset).run P w= .ok y w)
 (he:(Op.equalIn d f.type x y).run P w= .ok b w) (h:(Op.eqFields d xs cR gD).run P w= .ok r w):(Op.eqFields d xs cR (f::gD)).run P w= .ok (b&&r) w:=by
 have a:f.name≠ "_" :=by simpa using aP
 simp only [Op.eqFields,a,ne_eq,not_false_eq_true,kh,dR,c,e,he,dU]
 cases b
 .simp
 .simpa using h
theorem kl{P:Program}{w:World}{d:Nat}{xs cR:Array Value}{f:Field}{gD:List Field}{k:IntKind}{a b:Int}{r:Bool}(aP:(f.name != "_")=true)(hu:P.underlying f.type=some (.int k))(c:xs[f.offset]? =some (.int k a))(e:cR[f.offset]? =some (.int k b))
 (h:(Op.eqFields (d+1) xs cR gD).run P w= .ok r w):(Op.eqFields (d+1) xs cR (f::gD)).run P w= .ok ((a==b)&&r) w:=
 uy aP (nk hu j c) (nk hu j e) (run_equalIn_int w d f.type k k a b hu) h
theorem C.bare{o w:World}{F:List Nat}:∀{ae:List (List Chunk)},C o F ae w->C o F [] w
 |[],h=>h
 |_::_,h=>(C.drop h).bare
theorem C.r0{o w:World}{F:List Nat}{A B:List (List Chunk)}(h:C o F (A++B) w):C o F A w:=by
 have a:C o F (B.flatten::A) w:=h.perm (by rw [g5,List.flatten_cons];exact List.perm_append_comm)
 exact a.drop
theorem C.f6{o w:World}{F:List Nat}{G a b c d e f:List Chunk}{ae:List (List Chunk)}(h:C o F (a::b::c::d::e::f::G::ae) w):C o F (G::a::b::c::d::e::f::ae) w:=
 h.ji (List.perm_middle (l₁:=[a,b,c,d,e,f]))
theorem C.h3{o w:World}{F:List Nat}{A:List Chunk}{B:List (List Chunk)}(h:C o F (A::B) w):C o F [A] w:=C.r0 (A:=[A]) h
theorem C.kH{o w:World}{F:List Nat}{A g1:List Chunk}{B:List (List Chunk)}(h:C o F (A::g1::B) w):C o F [A,g1] w:=C.r0 (A:=[A,g1]) h
abbrev wa(P:Program)(n:Nat)(fn:Func)(ak:Value->World->Prop):d5:=λe aa w=>match e with
 | .normal=>∃v,(∀a,cG aa n a->(results fn a.tmps).run P w= .ok v w)/\ak v w
 | .ret=>∃v,(∀a,cG aa n a->(results fn a.tmps).run P w= .ok v w)/\ak v w
 |_=>False
theorem CK{P:Program}{f:FuncId}{fn:Func}{c:Code}{l:List Value}{w:World}{ak:Value->World->Prop}{n:Nat}
 (bx:P.funcs[f]? =some fn) (o:fn.body=some c) (aP:fn.ntmps=n) (p:l.length<=n)
 (h:W P {n:=n} c (kE 0 l) w (wa P n fn ak)):Calls P f l.toArray w (aS ak):=by
 refine callsIn_of_wp (F:=Fence.wide) bx o ba ?_
 refine kC (h _ (uw aP p) (Marks.nil _ _)) ?_
 rintro e a aI ⟨ad,⟨s,q,r,_,_⟩,t,m,b⟩
 have k:a.defers=[]:=by rw [q,r j];rfl
 cases e with
 |normal=>obtain⟨v,g,d⟩:=b;exact⟨k,v,g _ m,ad,v,j,d⟩
 |ret=>obtain⟨v,g,d⟩:=b;exact⟨k,v,g _ m,ad,v,j,d⟩
 |exit i=>exact b.elim
 |goto l=>exact b.elim
 |panic gf=>exact b.elim
 |outgrown=>exact b.elim
theorem dp{P:Program}{n:Nat}{aa:Env}{w:World}{fn:Func}{t u ty:Nat}{A:Addr}{U:List Value}{y z:Value}{d:TypeDesc}{size bytes:Nat}[hu:bC P ty d][l:cq P ty z size bytes]
 (q:fn.results= #[.cell t ty,.tmp u]) (r:look aa t=some (.pointer (some A))) (x:look aa u=some y) (f:h2 d=true) (p:U.length=size) (j:Rd w (some A) U):
 ∀a,cG aa n a->(results fn a.tmps).run P w= .ok (.tuple #[.agg U.toArray,y]) w:=λa c=>by
 obtain⟨i,m,_,o,_⟩:=l.parts
 have e:=pQ (P:=P) w A U (λJ v s=>by obtain⟨b,g,k⟩:=j J v s;cases g;exact k)
 rw [p] at e
 simp [results,q,c.get _ _ r,c.get _ _ x,asAddr,loadVar,kr hu.h,f,sizeOf,typeInfo,m,o,e]
end
section
variable {P:Program} {n:Fr} {aa:Env} {w:World} {Q:d5} {ops:Array Oper} {rest:List Oper}
 {dst:Option Nat} {ty:TypeId} {pos:String} {after:Array Edge} {g:Option (Nat×Bool)}
theorem pa(aD:List UInt8):(strOf aD).size=aD.length:=by simp [strOf,ByteArray.size]
theorem Hs(aD:List UInt8)(i:Nat):(strOf aD)[i]? =aD[i]? :=by
 show(if h:i<(strOf aD).size then some _ else none)=_
 by_cases h:i<aD.length
 .rw [mZ (by rw [pa];exact h),ck h]
  rfl
 .rw [dif_neg (by rw [pa];exact h),kA (by omega)]
theorem A2{t:TypeId}{x y:Operand}{aD:List UInt8}{k:IntKind}{J:Nat}[e:bC P t .string](f:bs aa x=some (.string (strOf aD)))(i:bs aa y=some (.int k J))(c:J<aD.length):
 ∀a,cG aa n.n a->(execOp a.eval ⟨dst,.index t x y,ty,pos,after,g⟩).run P w= .ok (.value (bv aD[J])) w:=λa b=>by
 have d:(strOf aD)[J]? =some aD[J]:=by rw [Hs,ck c]
 simp [execOp,b.eval f,b.eval i,Instr.index,asIntOf,d6 e.h,d,bv]
theorem ra{t:TypeId}{x y:Operand}{aD:List UInt8}{k:IntKind}{J:Nat}[f:bC P t .string](c:cW ops aa g=some true)(b:c8 n dst=true)(d:bs aa x=some (.string (strOf aD)))(e:bs aa y=some (.int k J))(a:J<aD.length)
 (h:O P n ops rest (cF aa dst (bv aD[J])) w Q):O P n ops (⟨dst,.index t x y,ty,pos,after,g⟩::rest) aa w Q:=dO c b (A2 d e a) h
theorem mG{t:TypeId}{b:Array TypeId}{args:Array Operand}{aD:List UInt8}[i:bC P t .string](f:cW ops aa g=some true)(e:c8 n dst=true)(j:b= #[t])(k:fo aa args.toList=some [.string (strOf aD)])
 (h:O P n ops rest (cF aa dst (.int .i64 (aD.length:Nat))) w Q):O P n ops (⟨dst,.call ⟨.builtin .len,args,b⟩,ty,pos,after,g⟩::rest) aa w Q:=
 dO f e (λa d=>by
  subst j
  have c:args.map a.eval= #[.string (strOf aD)]:=by apply fu;rw [hj,d.hl k]
  simp [execOp,resolve,invoke,builtin,c,Builtin.len_,d6 i.h,pa,goInt]) h
theorem Ag(aD:List UInt8)(i J:Nat):(strOf aD).extract i J=strOf ((aD.drop i).take (J-i)):=by
 apply ByteArray.ext
 apply Array.toList_inj.1
 simp [strOf,ByteArray.data_extract,List.extract]
theorem Bu{t:TypeId}{x y:Operand}{aD:List UInt8}{k:IntKind}{J:Nat}[c:bC P t .string](i:cW ops aa g=some true)(f:c8 n dst=true)(j:bs aa x=some (.string (strOf aD)))(l:bs aa y=some (.int k J))(d:J<=aD.length)
 (h:O P n ops rest (cF aa dst (.string (strOf (aD.drop J)))) w Q):O P n ops (⟨dst,.slice t x (some y) none none,ty,pos,after,g⟩::rest) aa w Q:=
 dO i f (λa b=>by
  have e:=run_slice_string_from_if (P:=P) (w:=w) t (strOf aD) k (J:Int) c.h
  simp [execOp,b.eval j,b.eval l,Instr.sliceAt,d6 c.h,e,pa,d,Ag]
  rw [il (by simp)]) h
theorem Bv{t:TypeId}{x y:Operand}{aD:List UInt8}{k:IntKind}{J:Nat}[c:bC P t .string](i:cW ops aa g=some true)(f:c8 n dst=true)(j:bs aa x=some (.string (strOf aD)))(l:bs aa y=some (.int k J))(d:J<=aD.length)
 (h:O P n ops rest (cF aa dst (.string (strOf (aD.take J)))) w Q):O P n ops (⟨dst,.slice t x none (some y) none,ty,pos,after,g⟩::rest) aa w Q:=
 dO i f (λa b=>by
  have e:=run_slice_string_to_if (P:=P) (w:=w) t (strOf aD) k (J:Int) c.h
  simp [execOp,b.eval j,b.eval l,Instr.sliceAt,d6 c.h,e,pa,d,Ag]) h
theorem q9{t e:TypeId}{x y:Operand}{m:Nat}{b off J:Nat}{k:IntKind}{z:Value}{size bytes:Nat}[hu:bC P t (.array m e)][l:cq P e z size bytes](j:cW ops aa g=some true)(f:c8 n dst=true)
 (q:bs aa x=some (.pointer (some ⟨b,off,none⟩))) (r:bs aa y=some (.int k J)) (d:J<m)
 (h:O P n ops rest (cF aa dst (.pointer (some ⟨b,off+J*size,none⟩))) w Q):O P n ops (⟨dst,.indexAddr t x y,ty,pos,after,g⟩::rest) aa w Q:=
 dO j f (λa c=>by
  obtain⟨i,o,_,p,_⟩:=l.parts
  simp [execOp,c.eval q,c.eval r,Instr.indexAt,Instr.sureAddr,asIntOf,d6 hu.h,sizeOf,typeInfo,o,p,d,add_lit]) h
end
section
theorem hb{P:Program}{n:Nat}{aa:Env}{w:World}{fn:Func}{t ty:Nat}{A:Addr}{U:List Value}{z:Value}{d:TypeDesc}{size bytes:Nat}[hu:bC P ty d][l:cq P ty z size bytes]
 (q:fn.results= #[.cell t ty]) (r:look aa t=some (.pointer (some A))) (e:h2 d=true) (p:U.length=size) (g:Rd w (some A) U):
 ∀a,cG aa n a->(results fn a.tmps).run P w= .ok (.agg U.toArray) w:=λa k=>by
 obtain⟨i,m,_,o,_⟩:=l.parts
 have c:=pQ (P:=P) w A U (λJ v s=>by obtain⟨b,f,j⟩:=g J v s;cases f;exact j)
 rw [p] at c
 simp [results,q,k.get _ _ r,asAddr,loadVar,kr hu.h,e,sizeOf,typeInfo,m,o,c]
variable {P:Program} {n:Fr} {aa:Env} {w:World} {Q:d5} {ops:Array Oper} {rest:List Oper}
 {dst:Option Nat} {ty:TypeId} {pos:String} {after:Array Edge} {g:Option (Nat×Bool)}
theorem v7{t i:TypeId}{x y:Operand}{a b:ByteArray}{c:Bool}(f:bs aa x=some (.string a))(h:bs aa y=some (.string b))(e:(a==b)=c):
 ∀ac,cG aa n.n ac->(execOp ac.eval ⟨dst,.binOp .neq t x y i,ty,pos,after,g⟩).run P w= .ok (.value (.bool (!c))) w:=λac d=>by
 subst e
 simp only [execOp,d.eval f,d.eval h,dR,eqGuard_at_string,binOp_string_neq,dU,ee,<-rz]
theorem wq{t k:TypeId}{x y:Operand}{a b:ByteArray}{c:Bool}(f:cW ops aa g=some true)(e:c8 n dst=true)
 (i:bs aa x=some (.string a)) (j:bs aa y=some (.string b)) (d:(a==b)=c)
 (h:O P n ops rest (cF aa dst (.bool (!c))) w Q):O P n ops (⟨dst,.binOp .neq t x y k,ty,pos,after,g⟩::rest) aa w Q:=
 dO f e (v7 i j d) h
theorem e0{t:TypeId}{parts:Array (Nat×Operand)}{U:List Value}{c:Array Value}
 (e:fo aa (parts.toList.map (·.2))=some U) (d:∀w,(Instr.build t ((parts.toList.map (·.1)).zip U).toArray).run P w= .ok (.agg c) w):
 ∀a,cG aa n.n a->(execOp a.eval ⟨dst,.build t parts,ty,pos,after,g⟩).run P w= .ok (.value (.agg c)) w:=λa b=>by
 have:parts.map (λ(i,x)=>(i,a.eval x))=((parts.toList.map (·.1)).zip U).toArray:=by
  apply fu
  rw [<-b.hl e]
  simp only [hj,ou]
  rw [List.zip_map']
  rfl
 simp only [execOp,this,dR,d,dU,ee]
theorem DC{P:Program}{w:World}{d:Nat}{xs cR:Array Value}{f:Field}{gD:List Field}{a b:Bool}{r:Bool}(aP:(f.name != "_")=true)(hu:P.underlying f.type=some .bool)(c:xs[f.offset]? =some (.bool a))(e:cR[f.offset]? =some (.bool b))
 (h:(Op.eqFields (d+1) xs cR gD).run P w= .ok r w):(Op.eqFields (d+1) xs cR (f::gD)).run P w= .ok ((a==b)&&r) w:=
 uy aP (nk hu j c) (nk hu j e) (run_equalIn_bool hu a b w d) h
theorem GT{P:Program}{t:TypeId}(hu:P.underlying t=some .string)(a b:ByteArray)(w:World)(d:Nat):(Op.equalIn (d+1) t (.string a) (.string b)).run P w= .ok (a==b) w:=by
 simp only [Op.equalIn,dR,d6 hu,dU];rfl
theorem DD{P:Program}{w:World}{d:Nat}{xs cR:Array Value}{f:Field}{gD:List Field}{a b:List UInt8}{r:Bool}(aP:(f.name != "_")=true)(hu:P.underlying f.type=some .string)(c:xs[f.offset]? =some (.string (strOf a)))(e:cR[f.offset]? =some (.string (strOf b)))
 (h:(Op.eqFields (d+1) xs cR gD).run P w= .ok r w):(Op.eqFields (d+1) xs cR (f::gD)).run P w= .ok (decide (a=b)&&r) w:=by
 have he:=GT hu (strOf a) (strOf b) w d
 rw [my] at he
 exact uy aP (nk hu j c) (nk hu j e) he h
theorem Bo{s t e:TypeId}{x:Operand}{aD:List UInt8}{o:World}{F:List Nat}{ae:List (List Chunk)}[aM:bC P s .string][G:bC P t (.slice e)][he:bC P e (.int .u8)](y:C o F ae w)
 (D:cW ops aa g=some true) (B:c8 n dst=true) (H:bs aa x=some (.string (strOf aD)))
 (h:∀b cs c aI,(∀i v,(aE aD)[i]? =some v->cs[0+i]? =some v)->C o F ([(b,.cells cs e (cs.size,cs.size+1))]::ae) aI->O P n ops rest (cF aa dst (.slice (some ⟨b,0,none⟩) aD.length c)) aI Q):O P n ops (⟨dst,.convert s t x,ty,pos,after,g⟩::rest) aa w Q:=by
 have p:=Go.Lib.run_convert_string_bytes (P:=P) w s t e (strOf aD) aM.h G.h he.h
 rw [pa] at p
 have l:=y.drew.alloc (.cells (Go.Lib.bytesCells w e (strOf aD)) e)
 have m:∀k:Nat,k≠w.drew.heap.size->(Go.Lib.bytesWorld w e (strOf aD)).heap[k]? =(w.drew.alloc (.cells (Go.Lib.bytesCells w e (strOf aD)) e)).heap[k]? :=λk ad=>by
  have E:¬w.heap.size=k:=λh=>ad (h▸rfl)
  simp only [Go.Lib.bytesWorld,World.freeze,Nat.succ_ne_zero,lv,rr]
  rw [aF E]
 have z:C o F ([(w.heap.size,.cells (Go.Lib.bytesCells w e (strOf aD)) e ((Go.Lib.bytesCells w e (strOf aD)).size,(Go.Lib.bytesCells w e (strOf aD)).size+1))]::ae) (Go.Lib.bytesWorld w e (strOf aD)):=
  C.lk l j j j (by simp [Go.Lib.bytesWorld,World.freeze]) (Go.Lib.bytesWorld_at_new w e (strOf aD)) m
 refine dO D B (λa A=>?_) (h w.heap.size _ (grownCap w aD.length 0 e) _ (λi v f=>?_) z) (ad:=(cS.alloc w.drew _).trans (cS.cells l.first m))
 .simp only [execOp,A.eval H,p,dR,dU,ee]
 .rw [fk]
  have d:i<aD.length:=by
   have:=(fa.1 f).1
   simpa using this
  have q:(aE aD)[i]? =some (bv aD[i]):=w9 (by simp [d])
  rw [q] at f
  cases f
  have r:i<((strOf aD).data.map λb=>Value.int .u8 b.toNat).size:=by rw [Array.size_map];exact d
  unfold Go.Lib.bytesCells
  rw [Array.getElem?_append_left r,Array.getElem?_map]
  have u:(strOf aD).data[i]? =some aD[i]:=by
   show aD.toArray[i]? =_
   simp [d]
  rw [u]
  rfl
end
def Yields(P:Program)(l:Nat)(args:Array Value)(w:World)(ak:Bool->World->Prop):Prop:=
 ∃fn tmps assign body,(Instr.yield l args).run P w= .ok (.round l fn tmps assign body) w/\
  RoundIn Fence.wide 0 P l fn tmps assign body w (λe aI=>cS w aI/\∃b,e= .returned (.bool b)/\ak b aI)
abbrev ey(l:Nat):Value:=.func (.yield l) #[] #[]
section
variable {P:Program} {n:Fr} {aa:Env} {w:World} {Q:d5} {ops:Array Oper} {rest:List Oper}
 {dst:Option Nat} {ty:TypeId} {pos:String} {after:Array Edge} {g:Option (Nat×Bool)}
theorem jN{l:Nat}{x:Operand}{m:Array TypeId}{args:Array Operand}{U:List Value}{ak:Bool->World->Prop}(s:cW ops aa g=some true)(q:c8 n dst=true)
 (B:bs aa x=some (ey l)) (A:fo aa args.toList=some U) (f:Yields P l U.toArray w ak)
 (h:∀b aI,ak b aI->O P n ops rest (cF aa dst (.bool b)) aI Q):O P n ops (⟨dst,.call ⟨.value x,args,m⟩,ty,pos,after,g⟩::rest) aa w Q:=λa d hm=>by
 obtain⟨fn,t,i,j,o,p⟩:=f
 unfold wpListIn
 rw [nK d s]
 simp only [kh]
 refine⟨λ_ _=>trivial,?_⟩
 have this:args.map a.eval=U.toArray:=by apply fu;rw [hj,d.hl A]
 have z:(execOp a.eval ⟨dst,.call ⟨.value x,args,m⟩,ty,pos,after,g⟩).run P w= .ok (.round l fn t i j) w:=by
  simp only [execOp,resolve,this,d.eval B,Deferred.ofValue,invoke,dR,ee,dU,pR,Array.append_empty,o]
 rw [nG _ _ _ (by intro c f;cases f),z,Oper.uponIn_round]
 refine⟨(λu=>(by cases u)),?_⟩
 refine pT (show RoundIn (jM n.r) 0 P l fn t i j w _ from p) λe C⟨k,b,he,y⟩=>?_
 subst he
 exact kT (λ_ _ _ v=>lift.from k v) _ _ _ (h b C y _ (d.cF q _) ((hm.fP k).put _ _))
end
def Iter{α:Type}(P:Program)(i:FuncId)(bc:Array Value)(H:List (List Chunk))(h:List (List Chunk)->World->Prop)(T:List (List Chunk)->Prop)(enc:α->Array Value)(A:List α->α->Prop)(S:List α->Prop):Prop:=
 ∀(l:Nat)(e:List α->List (List Chunk)->World->Prop)(f:List (List Chunk)->World->Prop)(ae:List (List Chunk))(w:World),
  Own (H++ae) w->e [] ae w->h ae w->(∀pre ae w,e pre ae w->T ae)->
  (∀pre a c d(B:List Nat),e pre a c->C c B [] d->(∀b∈B,w.heap.size<=b/\b∉av a)->e pre a d)->
  (∀a c d(B:List Nat),f a c->C c B [] d->(∀b∈B,w.heap.size<=b/\b∉av a)->f a d)->
  (∀pre x a c,A pre x->e pre a c->Own a c->Yields P l (enc x) c (λb d=>∃g,C c (av a) g d/\(if b=true then e (pre++[x]) g d else f g d)))->
  Calls P i (#[ey l]++bc) w (λ_ aI=>∃fs,C w (av (H++ae)) (H++fs) aI/\((∃xs,S xs/\e xs fs aI)\/f fs aI))
theorem cG.g0{n:Nat}:∀(l:List (Nat×Value)){aa:Env}{a:Act},cG aa n a->(∀x∈l,Nat.blt x.1 n=true)->cG (l.reverse++aa) n {tmps:=l.foldl (λt(p,v)=>t.setIfInBounds p v) a.tmps,defers:=[]}
 |[],aa,a,h,_=>⟨h.size,h.get⟩
 |(p,v)::r,aa,a,h,b=>by
  have c:cG ((p,v)::aa) n {tmps:=a.tmps.setIfInBounds p v,defers:=a.defers}:=h.put (b (p,v) (by simp)) v
  have d:=cG.g0 r c (λx e=>b x (by simp [e]))
  simpa using d
abbrev oT(l:Nat)(rec:Loop):List Chunk:=[(l,.loop rec)]
theorem C.gs{o w:World}{F:List Nat}{H ae L:List (List Chunk)}(h:C o F (H++(ae++L)) w):Own ae w:=by
 have a:C o F (ae++(H++L)) w:=h.perm (by
  simp only [g5]
  rw [<-dH,<-dH]
  exact oC _ ly)
 exact a.sub
theorem C.jl{o w:World}{F:List Nat}{H ae:List (List Chunk)}(h:C o F (H++ae) w):Own ae w:=by
 have a:C o F (ae++H) w:=h.perm (by simp only [g5];exact List.perm_append_comm)
 exact a.sub
theorem C.kR{o w:World}{F:List Nat}{ae:List (List Chunk)}(h:C o F ae w):Own ae w:=C.sub (A:=ae) (B:=[]) (by simpa using h)
theorem C.swap{o w:World}{F:List Nat}{A B:List (List Chunk)}(h:C o F (A++B) w):C o F (B++A) w:=h.perm (by simp only [g5];exact List.perm_append_comm)
theorem C.aside{o w aI:World}{F:List Nat}{ae:List (List Chunk)}{B:List Nat}(h:C o F ae w)(k:C w B [] aI)(e:∀b∈B,o.heap.size<=b/\b∉av ae):C o F ae aI:=by
 refine⟨k.os.trans h.os,k.tape.trans h.tape,k.output.trans h.output,ed h.size k.size,λb f g=>?_,λc a=>?_,h.nodup,h.own,h.plain⟩
 .rw [k.fP b (tI f h.size) (λd=>by have:=(e b d).1;omega)]
  exact h.fP b f g
 .rw [k.fP c.1 (h.oG a) (λd=>(e _ d).2 (nS.2 ⟨c.2,a⟩))]
  exact h.here c a
theorem C.putObj{o w:World}{F:List Nat}{ae:List (List Chunk)}{l:Nat}{rec nX:Loop}(h:C o F (ae++[oT l rec]) w):C o F (ae++[oT l nX]) (w.putObj l (.loop nX)):=by
 have a:C o F ([(l,.loop rec)]::ae) w:=h.ji ly
 have d:l<w.heap.size:=a.oG (c:=(l,.loop rec)) (by simp)
 have b:=a.lk (aI:=w.putObj l (.loop nX)) (fU:=.loop nX) j j j (by simp) (World.putObj_heap_same d) (λk ad=>rC ad)
 exact b.ji (ly (l₁:=[oT l nX]))
theorem C.rF{o w aI:World}{F:List Nat}{H A a8 L:List (List Chunk)}(h:C o F (H++(A++L)) w)(k:C w (av A) a8 aI):C o F (H++(a8++L)) aI:=by
 have p:∀X:List (List Chunk),(H++(X++L)).flatten.Perm (X++(H++L)).flatten:=λX=>by
  simp only [g5]
  rw [<-dH,<-dH]
  exact oC _ ly
 exact((h.perm (p A)).after k).perm (p a8).symm
theorem C.x2{o w:World}{F:List Nat}{H A L:List (List Chunk)}(h:C o F (H++(A++L)) w):C o F (H++A) w:=by
 rw [<-dH] at h
 have a:C o F (L.flatten::(H++A)) w:=h.perm (by rw [g5,List.flatten_cons];exact List.perm_append_comm)
 exact a.drop
theorem cS.loop{w:World}{l:Nat}{rec:Loop}(h:w.heap[l]? =some (.loop rec))(I:Obj):cS w (w.putObj l I):=cS.lk h (by simp) (λk ad=>rC ad)
def me:Exit->Option Code
 | .ret=>some .ret
 | .exit id=>some (.exit id)
 |_=>none
theorem BF{P:Program}{n:Fr}{aa:Env}{w:World}{Q:d5}{α:Type}{g:Operand}{J:Array Tmp}{assign body:Code}{Y:FuncId}{bc:Array Value}[bx:Entry P Y]
 {H ae:List (List Chunk)} {aD:List (List Chunk)->World->Prop} {T:List (List Chunk)->Prop} {enc:α->Array Value} {A:List α->α->Prop} {S:List α->Prop} {o:World} {F:List Nat}
 (bo:Iter P Y bc H aD T enc A S) (aP:n={n:=n.n,r:=none,m:=true,b:=n.b}) (bu:n.b<=w.heap.size) (bd:C o F (H++ae) w)
 (bm:bs aa g=some (.func (.func Y) #[] bc)) (bB:∀x,(enc x).size=J.size) (bA:∀p∈J,Nat.blt p n.n=true)
 (U:List α->List (List Chunk)->Prop) (X:Exit->List (List Chunk)->Prop) (a3:U [] ae) (bg:∀L aI,C w [] [L] aI->aD (ae++[L]) aI) (bf:∀pre ae L,U pre ae->T (ae++[L]))
 (round:∀(l:Nat)(pre:List α)(x:α)(d:List (List Chunk))(L:List Chunk)(z:World),A pre x->U pre d->C o F (H++(d++[L])) z->
  W P {n:=n.n,r:=some l} assign ((J.toList.zip (enc x).toList).reverse++aa) z (λe aV i=>e= .normal/\∃u,C z (av d) u i/\
   ∀(L:List Chunk)(aC:World),C o F (H++(u++[L])) aC->W P {n:=n.n,r:=some l} body aV aC (λe _ R=>∃O,C aC (av u) O R/\
    (match e with
     | .normal=>U (pre++[x]) O
     | .ret=>X .ret O
     | .exit id=>X (.exit id) O
     |_=>False))))
 (done:∀xs fs aI,S xs->U xs fs->C o F (H++fs) aI->Q .normal aa aI)
 (jump:∀e fs aI,(e= .ret\/∃id,e= .exit id)->X e fs->C o F (H++fs) aI->Q e aa aI):
 W P n (.rangeFunc g J assign body) aa w Q:=λa aj bt=>by
 have bw:n.r=none:=by rw [aP]
 have bv:n.m=true:=by rw [aP]
 obtain⟨a2,aY,aZ,a0⟩:=bx.h
 have a1:a2.body.isNone=false:=a0
 refine wpIn_rangeFunc ?_
 intro fn bG
 obtain⟨rec,G⟩:∃rec:LoopState->Option Code->Loop,rec=λst f=>{state:=st,pending:=f,fn,tmps:=a.tmps,params:=J,assign,body,defers:=w.heap.size}:=⟨_,j⟩
 have ap:C o F (H++(ae++[oT (w.heap.size+1) (rec .ready none)])) ((w.alloc (.deferred (some []))).alloc (.loop (rec .ready none))):=by
  have aw:C w [] [] (w.alloc (.deferred (some []))):=⟨j,j,j,by simp,λk ad _=>qj w _ ad,by simp,by simp [av],by simp [av],by simp⟩
  have q:=(bd.aN aw).alloc (.loop (rec .ready none))
  have am:(w.alloc (.deferred (some []))).heap.size=w.heap.size+1:=by simp
  rw [am] at q
  have an:C o F ([oT (w.heap.size+1) (rec .ready none)]++(H++ae)) _:=q
  rw [<-dH]
  exact an.swap
 obtain⟨s,ag⟩:∃s,(w.alloc (.deferred (some []))).alloc (.loop (rec .ready none))=s:=⟨_,j⟩
 rw [ag] at ap
 have aL:cS w s:=by rw [<-ag];exact(cS.alloc _ _).trans (cS.alloc _ _)
 have bE:o.heap.size<=s.heap.size:=ap.size
 have aE:s.heap[w.heap.size]? =some (.deferred (some [])):=by
  rw [<-ag]
  exact(qj _ _ (by simp)).trans (heap_alloc_new w _)
 refine⟨w.heap.size+1,[oI w.heap.size],s,{target:=.fn (.func Y) bc,args:= #[ey (w.heap.size+1)]},s,Y,#[ey (w.heap.size+1)]++bc,s,?_,?_,λ_ _=>trivial,?_,(λbn=>(by cases bn)),?_⟩
 .rw [<-ag,G]
  show(Instr.enterLoop fn a.tmps J assign body n.r).run P w=_
  rw [bw]
  exact run_enterLoop_outer _ _ _ _ _
 .simp only [resolve,aj.eval bm]
  simp [go_sem]
 .simp only [invoke,callFunc,aY,aZ,a1,dR,ee,dU,l3,pR,Array.append_empty,if_false,Bool.false_eq_true]
 .obtain⟨L,M⟩:∃L:LoopState->Option Code->List Chunk,L=λst f=>oT (w.heap.size+1) (rec st f):=⟨_,j⟩
  have hmarks:∀aI,aI.heap[w.heap.size]? =some (.deferred (some []))->cS w aI->Marks n aI ([oI w.heap.size]++a.defers):=λaI bj ad=>by
   obtain⟨aW,q,_,a5,ao⟩:=bt
   refine⟨w.heap.size::aW,by rw [q];rfl,(λh=>(by rw [bv] at h;cases h)),l6.2 ⟨λN=>?_,a5⟩,λD ai=>?_⟩
   .have:=(gp.1 (ao _ N).2).1
    omega
   rcases gd.1 ai with rfl|ai
   .exact⟨bu,bj⟩
   .exact⟨(ao D ai).1,ad D (ao D ai).2⟩
  have aq:C o F (H++(ae++[L .ready none])) s:=by rw [M];exact ap
  have bb:C w [] [L .ready none] s:=by
   have aw:C w [] [] (w.alloc (.deferred (some []))):=⟨j,j,j,by simp,λk ad _=>qj w _ ad,by simp,by simp [av],by simp [av],by simp⟩
   have q:=aw.alloc (.loop (rec .ready none))
   have am:(w.alloc (.deferred (some []))).heap.size=w.heap.size+1:=by simp
   rw [am,ag] at q
   rw [M]
   exact q
  have a9:∀b∈av H,b<s.heap.size:=λb au=>by
   obtain⟨I,bz⟩:=nS.1 au
   exact aq.oG (c:=(b,I)) (by simp only [g5,List.mem_append];exact .inl bz)
  have aQ:∀{d:List (List Chunk)}{B:List Nat},(∀b∈B,s.heap.size<=b/\b∉av d)->∀b∈B,o.heap.size<=b/\b∉av (H++d):=λaf b au=>by
   obtain⟨q,an⟩:=af b au
   refine⟨ed bE q,λN=>?_⟩
   simp only [av,g5,List.map_append,List.mem_append] at N
   rcases N with N|N
   .have:=a9 b N;omega
   .exact an N
  refine lw (show CallsIn (jM n.r) 0 P Y _ s _ from bo (w.heap.size+1)
   (λpre fs aI=>∃d,fs=d++[L .ready none]/\U pre d/\C o F (H++fs) aI)
   (λfs aI=>∃d e,fs=d++[L .done (me e)]/\(e= .ret\/∃id,e= .exit id)/\X e d/\C o F (H++fs) aI)
   (ae++[L .ready none]) s aq.kR ⟨ae,j,a3,aq⟩ (bg _ _ bb) (λpre fs aI⟨d,he,a7,_⟩=>by subst he;exact bf _ _ _ a7) ?_ ?_ ?_) ?_
  .rintro pre d z i B ⟨u,rfl,a7,aM⟩ k af
   exact⟨u,j,a7,aM.aside k (aQ af)⟩
  .rintro d z i B ⟨u,e,rfl,he,ar,aM⟩ k af
   exact⟨u,e,j,he,ar,aM.aside k (aQ af)⟩
  .rintro pre x d z a8 ⟨u,rfl,a7,aM⟩ aR
   have ay:∀{v0:World}{eD:List Nat}{g1:List (List Chunk)}{aI:World}{st:LoopState}{f:Option Code},C v0 eD (g1++[L st f]) aI->aI.heap[w.heap.size+1]? =some (.loop (rec st f)):=λh=>by
    rw [M] at h
    exact h.here (w.heap.size+1,.loop _) (by simp)
   have bq:=ay aR
   have ak:=run_yield (P:=P) (args:=enc x) bq (by rw [G];exact bB x)
   rw [G] at ak
   refine⟨fn,_,assign,body,ak,roundIn_of_wpIn (F:=Fence.wide) ba ?_⟩
   have bF:(J.zip (enc x)).foldl (λt(p,v)=>t.setIfInBounds p v) a.tmps=(J.toList.zip (enc x).toList).foldl (λt(p,v)=>t.setIfInBounds p v) a.tmps:=by
    rw [<-Array.foldl_toList,Array.toList_zip]
   have bk:=cG.g0 (J.toList.zip (enc x).toList) aj (λy ak=>bA _ (by have:=(List.of_mem_zip (a:=y.1) (b:=y.2) ak).1;simpa using this))
   have aS:=round (w.heap.size+1) pre x u (L .ready none) z a8 a7 aM _ bk (Marks.nil _ _)
   rw [<-bF] at aS
   refine kC aS ?_
   rintro e aX i ⟨Z,br,aV,bl,rfl,O,bD,bh⟩
   have al:∀{v0:World}{eD:List Nat}{K:List (List Chunk)},C v0 eD (K++(u++[L .ready none])) z->C v0 eD (K++(O++[L .ready none])) i:=λh=>h.rF bD
   have E:i.heap[w.heap.size+1]? =some (.loop (rec .ready none)):=ay (g1:=H++O) (by rw [dH];exact al aM)
   have put:∀{v0:World}{eD:List Nat}{K g1:List (List Chunk)}{aI:World}{st sK:LoopState}{f sw:Option Code},C v0 eD (K++(g1++[L st f])) aI->C v0 eD (K++(g1++[L sK sw])) (aI.putObj (w.heap.size+1) (.loop (rec sK sw))):=λh=>by
    rw [M] at h⊢
    rw [<-dH] at h⊢
    exact h.putObj
   have aG:=run_beginRound (P:=P) E (by rw [G])
   have bC:({rec .ready none with state:=.busy}:Loop)=rec .busy none:=by rw [G]
   rw [bC] at aG
   refine⟨_,aG,?_⟩
   have aT:=put (sK:=.busy) (sw:=none) (al aM)
   have aK:cS i (i.putObj (w.heap.size+1) (.loop (rec .busy none))):=cS.loop E _
   refine kC (bh (L .busy none) _ aT aX bl (br.fP aK)) ?_
   rintro e a4 R ⟨bp,bH,bJ,_,ac,aU,ab⟩
   have V:∀{v0:World}{eD:List Nat}{K:List (List Chunk)}(st:LoopState)(f:Option Code),C v0 eD (K++(u++[L .ready none])) z->C v0 eD (K++(ac++[L st f])) (R.putObj (w.heap.size+1) (.loop (rec st f))):=
    λst f h=>put ((put (sK:=.busy) (sw:=none) (al h)).rF aU)
   have aO:R.heap[w.heap.size+1]? =some (.loop (rec .busy none)):=ay (g1:=H++ac) (by rw [dH];exact aT.rF aU)
   have fin:∀(f:Option Code),(Instr.endRound (w.heap.size+1) f).run P R= .ok (.bool f.isNone) (R.putObj (w.heap.size+1) (.loop (rec (if f.isNone then .ready else .done) f))):=λf=>by
    have:=run_endRound (P:=P) f aO
    rw [this]
    rw [G]
   have ql:∀st f,cS z (R.putObj (w.heap.size+1) (.loop (rec st f))):=λst f=>((Z.trans aK).trans bp).trans (cS.loop aO _)
   have az:C z (av (u++[L .ready none])) ([]++(u++[L .ready none])) z:=aR
   cases e with
   |normal=>exact⟨_,_,fin none,ql _ _,true,j,_,V .ready none az,by rw [a6 j];exact⟨ac,j,ab,V .ready none aM⟩⟩
   |ret=>exact⟨_,_,fin (some .ret),ql _ _,false,j,_,V .done (some .ret) az,by rw [aF (by decide)];exact⟨ac,.ret,j,.inl j,ab,V .done (some .ret) aM⟩⟩
   |exit id=>exact⟨_,_,fin (some (.exit id)),ql _ _,false,j,_,V .done (some (.exit id)) az,by rw [aF (by decide)];exact⟨ac,.exit id,j,.inr ⟨id,j⟩,ab,V .done (some (.exit id)) aM⟩⟩
   |goto t=>exact ab.elim
   |panic gf=>exact ab.elim
   |outgrown=>exact ab.elim
  .rintro e i ⟨Z,v,rfl,fs,bI,bi⟩
   have aJ:cG aa n.n ({a with defers:=[oI w.heap.size]++a.defers}:Act):=⟨aj.size,aj.get⟩
   rcases bi with⟨xs,be,d,rfl,a7,aM⟩|⟨d,e,rfl,he,ar,aM⟩
   .have E:i.heap[w.heap.size+1]? =some (.loop (rec .ready none)):=by
     rw [M] at aM
     exact aM.here (w.heap.size+1,.loop _) (by simp)
    have ax:=run_endLoop (P:=P) E (by rw [G];simp)
    have aB:C o F (H++d) (i.putObj (w.heap.size+1) (.loop {rec .ready none with state:=.exhausted})):=by
     rw [M,<-dH] at aM
     have q:=aM.putObj (nX:={rec .ready none with state:=.exhausted})
     rw [dH] at q
     exact q.x2
    have ah:cS w (i.putObj (w.heap.size+1) (.loop {rec .ready none with state:=.exhausted})):=(aL.trans Z).trans (cS.loop E _)
    have aA:(rec .ready none).pending=none:=by rw [G]
    refine⟨none,_,ax.trans (congrArg (λp=>Result.ok p _) aA),?_⟩
    exact⟨ah,hmarks _ (((Z.trans (cS.loop E _))) _ aE) ah,aa,aJ,done xs d _ be a7 aB⟩
   .have E:i.heap[w.heap.size+1]? =some (.loop (rec .done (me e))):=by
     rw [M] at aM
     exact aM.here (w.heap.size+1,.loop _) (by simp)
    have ax:=run_endLoop (P:=P) E (by rw [G];simp)
    have aB:C o F (H++d) (i.putObj (w.heap.size+1) (.loop {rec .done (me e) with state:=.exhausted})):=by
     rw [M,<-dH] at aM
     have q:=aM.putObj (nX:={rec .done (me e) with state:=.exhausted})
     rw [dH] at q
     exact q.x2
    have ah:cS w (i.putObj (w.heap.size+1) (.loop {rec .done (me e) with state:=.exhausted})):=(aL.trans Z).trans (cS.loop E _)
    have aH:(lift n w Q) e {a with defers:=[oI w.heap.size]++a.defers} (i.putObj (w.heap.size+1) (.loop {rec .done (me e) with state:=.exhausted})):=
     ⟨ah,hmarks _ (((Z.trans (cS.loop E _))) _ aE) ah,aa,aJ,jump e d _ he ar aB⟩
    have aA:(rec .done (me e)).pending=me e:=by rw [G]
    refine⟨me e,_,ax.trans (congrArg (λp=>Result.ok p _) aA),?_⟩
    rcases he with rfl|⟨id,rfl⟩
    .exact wpIn_ret aH
    .exact wpIn_exit aH
def ju(B:Nat)(w aI:World):Prop:=aI.os=w.os/\aI.tape=w.tape/\aI.output=w.output/\aI.heap.size=w.heap.size/\∀k:Nat,aI.heap[k]? =w.heap[k]?\/(B<=k/\w.heap[k]? =some (.deferred (some [])))
theorem ju.refl(B:Nat)(w:World):ju B w w:=⟨j,j,j,j,λ_=>.inl j⟩
theorem ju.step{B:Nat}{w aI:World}{D:Nat}(h:ju B w aI)(g:B<=D)(i:aI.heap[D]? =some (.deferred (some []))):ju B w (aI.putObj D (.deferred none)):=by
 obtain⟨c,d,e,f,b⟩:=h
 refine⟨c,d,e,by simpa using f,λk=>?_⟩
 by_cases ad:k=D
 .subst ad
  rcases b k with a|a
  .exact .inr ⟨g,a▸i⟩
  .exact .inr a
 .rw [rC ad]
  exact b k
theorem ju.st{o w aI:World}{F:List Nat}{ae:List (List Chunk)}{B:Nat}(s:ju B w aI)(h:C o F ae w)(l:o.heap.size<=B):C o F ae aI:=by
 obtain⟨e,f,g,i,d⟩:=s
 refine⟨e.trans h.os,f.trans h.tape,g.trans h.output,by rw [i];exact h.size,λk ad j=>?_,λc b=>?_,h.nodup,h.own,h.plain⟩
 .rcases d k with a|⟨a,_⟩
  .rw [a];exact h.fP k ad j
  .omega
 .rcases d c.1 with a|⟨_,a⟩
  .rw [a];exact h.here c b
  .rw [h.here c b] at a
   exact absurd (hr a) (h.plain c b)
theorem ju.ql{o w aI:World}(s:ju o.heap.size w aI)(h:cS o w):cS o aI:=λD b=>by
 rcases s.2.2.2.2 D with a|⟨a,_⟩
 .rw [a];exact h D b
 .have:=(gp.1 b).1
  omega
abbrev wb(P:Program)(n:Nat)(fn:Func)(B:Nat)(ak:Value->World->Prop):d5:=λe aa w=>match e with
 | .normal=>∃v,∀aI,ju B w aI->(∀a,cG aa n a->(results fn a.tmps).run P aI= .ok v aI)/\ak v aI
 | .ret=>∃v,∀aI,ju B w aI->(∀a,cG aa n a->(results fn a.tmps).run P aI= .ok v aI)/\ak v aI
 |_=>False
theorem yx{P:Program}{fn:Func}{tmps:Array Value}{ak:Ending->World->Prop}{B:Nat}{w:World}{v:Value}:∀(a:List Nat)(b:World),ju B w b->(∀D∈a,B<=D)->a.Nodup->(∀D∈a,b.heap[D]? =some (.deferred (some [])))->
 (∀aI,ju B w aI->(results fn tmps).run P aI= .ok v aI/\ak (.returned v) aI)->LeavesInM Fence.wide 0 P fn tmps ak (a.map oI) .returning b
 |[],b,s,_,_,_,h=>⟨v,h b s⟩
 |D::a,b,s,e,g,d,h=>by
  refine⟨by simp,.inl ⟨D,_,j,run_takeDeferred (d D (by simp)),?_⟩⟩
  have f:=l6.1 g
  exact yx a _ (s.step (e D (by simp)) (d D (by simp))) (λE c=>e E (by simp [c])) f.2 (λE c=>by rw [rC (λhe=>by subst he;exact f.1 c)];exact d E (by simp [c])) h
theorem CL{P:Program}{f:FuncId}{fn:Func}{c:Code}{l:List Value}{w:World}{ak:Value->World->Prop}{n:Nat}
 (bx:P.funcs[f]? =some fn) (r:fn.body=some c) (aP:fn.ntmps=n) (t:l.length<=n)
 (h:W P {n:=n,m:=true,b:=w.heap.size} c (kE 0 l) w (wb P n fn w.heap.size ak)):Calls P f l.toArray w ak:=by
 refine callsIn_of_wp_marks (F:=Fence.wide) bx r ba ?_
 refine kC (h _ (uw aP t) (Marks.nil _ _)) ?_
 rintro e a aI ⟨ad,⟨q,u,_,x,o⟩,z,y,g⟩
 have key:(∃v,∀d,ju w.heap.size aI d->(∀a,cG z n a->(results fn a.tmps).run P d= .ok v d)/\ak v d)->LeavesInM Fence.wide 0 P fn a.tmps (λe aI=>cS w aI/\∃v,e= .returned v/\ak v aI) a.defers .returning aI:=λ⟨v,p⟩=>by
  rw [u]
  exact yx (B:=w.heap.size) (w:=aI) (v:=v) q aI (ju.refl _ _) (λD k=>(o D k).1) x (λD k=>(o D k).2) (λd s=>⟨(p d s).1 a y,s.ql ad,v,j,(p d s).2⟩)
 cases e with
 |normal=>exact key g
 |ret=>exact key g
 |exit i=>exact g.elim
 |goto l=>exact g.elim
 |panic gf=>exact g.elim
 |outgrown=>exact g.elim
end Go.Proofs.YtdcbpdlhhkcjnaaGreatDoor.R
namespace Go.Proofs.YtdcbpdlhhkcjnaaGreatDoor.R
open Go.Proofs.Tryz Go Go.RowKit
open Go.MapKept (Stamped)
class Keys{cw:Type}(P:Program)(cZ:TypeId)(key:cw->Value):Prop where
 inj:∀a b,key a=key b->a=b
 check:∀(w:World)(em:Bool)k,(Instr.checkKey em 10000 cZ (key k)).run P w= .ok () w
 find:∀(w:World)k(es:List MapEntry),(∀e∈es,∃J,e.key=key J)->
  ((Instr.findKey cZ (key k) es).run P w= .ok none w/\∀e∈es,e.key≠key k)\/∃(J:Nat)(e:MapEntry),(Instr.findKey cZ (key k) es).run P w= .ok (some (J,e.val)) w/\es[J]? =some e/\e.key=key k
 stays:∀(w:World)k,(Instr.keyThatStays (key k) (key k)).run P w= .ok (key k) w
abbrev bu(n:Int):Value:=.int .i64 n
instance {P:Program}{cZ:TypeId}[hu:bC P cZ (.int .i64)]:Keys P cZ bu where
 inj:=λa b h=>by cases h;rfl
 check:=λw em k=>MapKept.run_checkKey hu.h (show MapKept.IsKey (.int .i64) (bu k) from j) em 9999
 find:=λw k es h=>by
  have ad:MapKept.IsKey (.int .i64) (bu k):=rfl
  rcases MapKept.findNow_spec ad es 0 (λx i=>by obtain⟨J,g⟩:=h x i;rw [g];rfl) with⟨c,d⟩|⟨J,e,c,d,f⟩
  .exact .inl ⟨MapKept.run_findKey hu.h c,d⟩
  .exact .inr ⟨J,e,by rw [fk] at c;exact MapKept.run_findKey hu.h c,d,f⟩
 stays:=λw k=>by
  have ad:MapKept.IsKey (.int .i64) (bu k):=rfl
  simp [Instr.keyThatStays,MapKept.sameBits_self ad]
section
variable {cw:Type} [DecidableEq cw]
def a2{β:Type}:List (cw×β)->cw->Option β
 |[],_=>none
 |(J,v)::r,k=>if J=k then some v else a2 r k
def cj{β:Type}:List (cw×β)->cw->β->List (cw×β)
 |[],k,v=>[(k,v)]
 |(J,u)::r,k,v=>if J=k then(k,v)::r else(J,u)::cj r k v
def fS{β:Type}:List (cw×β)->cw->List (cw×β)
 |[],_=>[]
 |(J,u)::r,k=>if J=k then r else(J,u)::fS r k
end
def cf{cw:Type}(key:cw->Value)(I:Obj)(m:List (cw×Value)):Prop:=
 ∃es clock,I= .map es clock/\Stamped es clock/\es.toList.map (λe=>(e.key,e.val))=m.map λp=>(key p.1,p.2)
section
variable {cw:Type} [DecidableEq cw] {key:cw->Value} {P:Program} {cZ:TypeId}
theorem cf.new:cf key (.map #[] 0) ([]:List (cw×Value)):=⟨#[],0,j,MapKept.stamped_empty 0,j⟩
theorem cf.vk{I:Obj}{m:List (cw×Value)}(h:cf key I m):I≠Obj.deferred (some []):=by obtain⟨es,c,rfl,_⟩:=h;simp
theorem cf.nodup [ad:Keys P cZ key]{I:Obj}{m:List (cw×Value)}(h:cf key I m):(m.map (·.1)).Nodup:=by
 obtain⟨es,clock,rfl,⟨_,_,c⟩,d⟩:=h
 have e:es.toList.map (·.key)=(m.map (·.1)).map key:=by
  have:=aL (List.map Prod.fst) d
  simpa [ou,Function.comp_def] using this
 rw [e] at c
 exact List.Pairwise.of_map key (λa b f he=>f (he▸rfl)) c
theorem nT{β:Type}:∀(m:List (cw×β))(k:cw),(a2 m k=none/\∀p∈m,p.1≠k)\/∃(J:Nat)(v:β),a2 m k=some v/\m[J]? =some (k,v)/\∀(i:Nat)p,i<J->m[i]? =some p->p.1≠k
 |[],k=>.inl ⟨j,by simp⟩
 |(J,v)::r,k=>by
  by_cases h:J=k
  .subst h
   exact .inr ⟨0,v,by simp [a2],j,by intro i p g;omega⟩
  .rcases nT r k with⟨c,d⟩|⟨i,u,c,d,e⟩
   .exact .inl ⟨by simp [a2,h,c],by intro p b;cases b with|head=>exact h|tail _ b=>exact d p b⟩
   .refine .inr ⟨i+1,u,by simp [a2,h,c],by simpa using d,λa p f b=>?_⟩
    cases a with
    |zero=>simp at b;subst b;exact h
    |succ a=>exact e a p (by omega) (by simpa using b)
theorem cf.find [ad:Keys P cZ key]{es:Array MapEntry}{clock:Nat}{m:List (cw×Value)}(h:cf key (.map es clock) m)(k:cw)(w:World):
 ((Instr.findKey cZ (key k) es.toList).run P w= .ok none w/\a2 m k=none/\(∀e∈es.toList,e.key≠key k)/\∀p∈m,p.1≠k)\/
 ∃(J:Nat)(e:MapEntry),(Instr.findKey cZ (key k) es.toList).run P w= .ok (some (J,e.val)) w/\a2 m k=some e.val/\es[J]? =some e/\e.key=key k/\m[J]? =some (k,e.val):=by
 obtain⟨K,H,he,aM,hm⟩:=h
 cases he
 have D:∀e∈es.toList,∃J,e.key=key J:=λe he=>by
  have:(e.key,e.val)∈es.toList.map (λe=>(e.key,e.val)):=dT.2 ⟨e,he,j⟩
  rw [hm] at this
  obtain⟨p,_,b⟩:=dT.1 this
  exact⟨p.1,by simpa using(congrArg Prod.fst b).symm⟩
 have x:∀(J:Nat)(e:MapEntry),es.toList[J]? =some e->∃p,m[J]? =some p/\e.key=key p.1/\e.val=p.2:=λJ e he=>by
  have a:(es.toList.map (λe=>(e.key,e.val)))[J]? =some (e.key,e.val):=by simp only [gn,he,Option.map_some]
  rw [hm,gn] at a
  cases b:m[J]? with
  |none=>simp [b] at a
  |some p=>simp [b] at a;exact⟨p,j,a.1.symm,a.2.symm⟩
 have s:∀(J:Nat)p,m[J]? =some p->∃e,es.toList[J]? =some e/\e.key=key p.1/\e.val=p.2:=λJ p b=>by
  have a:(m.map (λp=>(key p.1,p.2)))[J]? =some (key p.1,p.2):=by simp only [gn,b,Option.map_some]
  rw [<-hm,gn] at a
  cases he:es.toList[J]? with
  |none=>simp [he] at a
  |some e=>simp [he] at a;exact⟨e,j,a.1,a.2⟩
 rcases ad.find w k es.toList D with⟨a,d⟩|⟨J,e,a,d,o⟩
 .refine .inl ⟨a,?_,d,?_⟩
  .rcases nT m k with⟨l,_⟩|⟨i,v,_,c,_⟩
   .exact l
   .obtain⟨e,he,n,_⟩:=s i _ c
    exact absurd n (d e (hZ he))
  .intro p b f
   obtain⟨i,z⟩:=oa b
   obtain⟨e,he,n,_⟩:=s i p z
   exact d e (hZ he) (f▸n)
 .obtain⟨p,g,G,t⟩:=x J e d
  have f:p.1=k:=ad.inj _ _ (G.symm.trans o)
  refine .inr ⟨J,e,a,?_,by simpa using d,o,by rw [g,<-f,t]⟩
  have F:(m.map (·.1)).Nodup:=cf.nodup (P:=P) (cZ:=cZ) (key:=key) (I:=.map es clock) ⟨es,clock,j,aM,hm⟩
  rcases nT m k with⟨_,c⟩|⟨i,v,l,c,u⟩
  .exact absurd f (c p (hZ g))
  .have A:i=J:=by
    rcases rA i J with E|heq|y
    .exfalso
     have q:(m.map (·.1))[i]? =some k:=by rw [gn,c];rfl
     have r:(m.map (·.1))[J]? =some k:=by rw [gn,g,<-f];rfl
     have B:i<(m.map (·.1)).length:=(fa.1 q).1
     have C:J<(m.map (·.1)).length:=(fa.1 r).1
     have:=(ob.1 F) i J B C E
     rw [(fa.1 q).2,(fa.1 r).2] at this
     exact this j
    .exact heq
    .exact absurd f (u J p y g)
   subst A
   rw [g] at c
   cases c
   rw [l,t]
theorem vc{β:Type}:∀(m:List (cw×β))(k:cw)(v:β),(∀p∈m,p.1≠k)->cj m k v=m++[(k,v)]
 |[],_,_,_=>rfl
 |(J,u)::r,k,v,h=>by
  have a:J≠k:=h (J,u) (by simp)
  simp [cj,a,vc r k v (λp b=>h p (by simp [b]))]
theorem yV{β:Type}:∀(m:List (cw×β))(k:cw)(v:β)(J:Nat)(u:β),(m.map (·.1)).Nodup->m[J]? =some (k,u)->cj m k v=m.set J (k,v)
 |[],_,_,J,_,_,h=>by simp at h
 |(i,x)::r,k,v,0,u,_,h=>by simp at h;simp [cj,h.1]
 |(i,x)::r,k,v,J+1,u,aP,h=>by
  have b:=l6.1 (by simpa using aP:(i::r.map (·.1)).Nodup)
  have a:r[J]? =some (k,u):=by simpa using h
  have c:i≠k:=λe=>b.1 (by rw [e];exact dT.2 ⟨_,hZ a,j⟩)
  simp [cj,c,yV r k v J u b.2 a]
theorem u4{β:Type}:∀(m:List (cw×β))(k:cw),(∀p∈m,p.1≠k)->fS m k=m
 |[],_,_=>rfl
 |(J,u)::r,k,h=>by
  have a:J≠k:=h (J,u) (by simp)
  simp [fS,a,u4 r k (λp b=>h p (by simp [b]))]
theorem yK{β:Type}:∀(m:List (cw×β))(k:cw)(J:Nat)(u:β),(m.map (·.1)).Nodup->m[J]? =some (k,u)->fS m k=m.eraseIdx J
 |[],_,J,_,_,h=>by simp at h
 |(i,x)::r,k,0,u,_,h=>by simp at h;simp [fS,h.1]
 |(i,x)::r,k,J+1,u,aP,h=>by
  have b:=l6.1 (by simpa using aP:(i::r.map (·.1)).Nodup)
  have a:r[J]? =some (k,u):=by simpa using h
  have c:i≠k:=λe=>b.1 (by rw [e];exact dT.2 ⟨_,hZ a,j⟩)
  simp [fS,c,yK r k J u b.2 a]
theorem cf.update [ad:Keys P cZ key]{es:Array MapEntry}{clock:Nat}{m:List (cw×Value)}(h:cf key (.map es clock) m)(k:cw)(v:Value)(w:World){b:Nat}{mt eB:TypeId}(hu:P.underlying mt=some (.map cZ eB))(d:w.heap[b]? =some (.map es clock)):
 ∃fU,(Instr.mapUpdate mt (.map (some b)) (key k) v).run P w= .ok () {w with heap:=w.heap.setIfInBounds b fU}/\cf key fU (cj m k v):=by
 rcases h.find (P:=P) (cZ:=cZ) k w with⟨f,_,a,c⟩|⟨J,e,f,_,a,c,g⟩
 .obtain⟨r,q,he,aM,hm⟩:=h
  cases he
  refine⟨_,?_,es.push {key:=key k,val:=v,born:=clock},clock+1,j,MapKept.stamped_push aM a,?_⟩
  .simp only [Instr.mapUpdate,dR,d6 hu,mN d,ad.check,f,dU,rf _ d]
  .rw [vc m k v c];simp [hm]
 .have u:=cf.nodup (P:=P) (cZ:=cZ) h
  obtain⟨r,q,he,aM,hm⟩:=h
  cases he
  have s:((es[J]?).map (·.key)).getD (key k)=key k:=by simp [a,c]
  refine⟨_,?_,es.modify J (λe=>{e with key:=key k,val:=v}),clock,j,MapKept.stamped_modify aM _ _ (λ_ _=>rfl) (λgY _ n=>by rw [a] at n;cases n;exact c.symm),?_⟩
  .simp only [Instr.mapUpdate,dR,d6 hu,mN d,ad.check,f,dU,s,ad.stays,rf _ d]
  .rw [yV m k v J e.val u g]
   apply ny
   intro i
   have p:=aL (λl=>l[i]?) hm
   simp only [gn,pE,rr,tv] at p⊢
   by_cases o:J=i
   .subst o
    have t:J<m.length:=(fa.1 g).1
    simp [a,t]
   .simp [o,p]
theorem cf.erase [ad:Keys P cZ key]{es:Array MapEntry}{clock:Nat}{m:List (cw×Value)}(h:cf key (.map es clock) m)(k:cw)(w:World){b:Nat}{mt eB:TypeId}{t4:Array TypeId}{ty:TypeId}(i:t4[0]? =some mt)(hu:P.underlying mt=some (.map cZ eB))(a:w.heap[b]? =some (.map es clock)):
 ∃fU,(Builtin.delete_ t4 ty #[.map (some b),key k]).run P w= .ok (.tuple #[]) {w with heap:=w.heap.setIfInBounds b fU}/\cf key fU (fS m k):=by
 rcases h.find (P:=P) (cZ:=cZ) k w with⟨c,_,d,g⟩|⟨J,e,c,_,d,g,q⟩
 .obtain⟨o,n,he,aM,hm⟩:=h
  cases he
  refine⟨_,?_,es,clock,j,aM,by rw [u4 m k g];exact hm⟩
  simp [Builtin.delete_,i,d6 hu,mN a,ad.check,c,rf _ a,Result.andThen]
 .have t:=cf.nodup (P:=P) (cZ:=cZ) h
  obtain⟨o,n,he,aM,hm⟩:=h
  cases he
  refine⟨_,?_,es.eraseIdxIfInBounds J,clock,j,MapKept.stamped_erase aM J,?_⟩
  .simp [Builtin.delete_,i,d6 hu,mN a,ad.check,c,rf _ a,Result.andThen]
  .have s:J<es.size:=(gp.1 d).1
   rw [yK m k J e.val t q,Array.eraseIdxIfInBounds,mZ s,Array.toList_eraseIdx,List.v hm]
where
 List.v {es:List MapEntry} {m:List (cw×Value)} {J:Nat} (hm:es.map (λe=>(e.key,e.val))=m.map λp=>(key p.1,p.2)):(es.eraseIdx J).map (λe=>(e.key,e.val))=(m.eraseIdx J).map λp=>(key p.1,p.2):=by
  have e:∀{α β:Type}(f:α->β)(l:List α)(J:Nat),(l.eraseIdx J).map f=(l.map f).eraseIdx J:=by
   intro α β f l
   induction l with
   |nil=>intro J;rfl
   |cons x r u=>intro J;cases J with|zero=>rfl|succ J=>simp [List.eraseIdx,u]
  rw [e,hm,e]
end
theorem C.map{o w:World}{F:List Nat}{ae:List (List Chunk)}{b:Nat}{I fU:Obj}(h:C o F ([(b,I)]::ae) w)(a:fU≠Obj.deferred (some [])):C o F ([(b,fU)]::ae) {w with heap:=w.heap.setIfInBounds b fU}:=
 h.lk j j j (by simp) (pF h.first).1 (pF h.first).2 a
section
variable {P:Program} {n:Fr} {aa:Env} {w:World} {Q:d5} {ops:Array Oper} {rest:List Oper}
 {dst:Option Nat} {ty:TypeId} {pos:String} {after:Array Edge} {g:Option (Nat×Bool)}
variable {cw:Type} [DecidableEq cw] {key:cw->Value} {o:World} {F:List Nat} {ae:List (List Chunk)} {b:Nat} {I:Obj} {m:List (cw×Value)}
theorem js{t:TypeId}{c:Option Operand}(i:c=none)(d:C o F ae w)(f:cW ops aa g=some true)(e:c8 n dst=true)
 (h:∀b aI,C o F ([(b,.map #[] 0)]::ae) aI->O P n ops rest (cF aa dst (.map (some b))) aI Q):O P n ops (⟨dst,.makeMap t c,ty,pos,after,g⟩::rest) aa w Q:=by
 subst i
 refine dO f e (λa j=>?_) (h w.heap.size _ (d.alloc _)) (ad:=cS.alloc _ _)
 simp [execOp,Instr.makeMap,Result.andThen]
theorem GX{P:Program}{t cZ eB:TypeId}{z:Value}{size bytes:Nat}[hu:bC P t (.map cZ eB)][ad:Keys P cZ key][g:cq P eB z size bytes](hm:cf key I m)(f:w.heap[b]? =some I)(k:cw)(c:Bool):
 (Instr.lookup t (.map (some b)) (key k) c).run P w= .ok (if c then .tuple #[(a2 m k).getD z,.bool (a2 m k).isSome] else(a2 m k).getD z) w:=by
 obtain⟨es,clock,rfl,aM,o⟩:=hm
 obtain⟨i,l,n,_⟩:=g.parts
 rcases(show cf key (.map es clock) m from⟨es,clock,j,aM,o⟩).find (P:=P) (cZ:=cZ) k w with⟨a,d,_,_⟩|⟨J,e,a,d,_⟩
 .simp only [Instr.lookup,dR,d6 hu.h,dU,mN f,ee,ad.check,a,d,zeroValue,typeInfo,l3,l,n,rg,rh]
 .simp only [Instr.lookup,dR,d6 hu.h,dU,mN f,ee,ad.check,a,d,l1,oc]
theorem v5{t cZ eB:TypeId}{x y:Operand}{z:Value}{size bytes:Nat}[hu:bC P t (.map cZ eB)][ad:Keys P cZ key][i:cq P eB z size bytes](hm:cf key I m)(e:w.heap[b]? =some I){k:cw}{c:Bool}(f:bs aa x=some (.map (some b)))(h:bs aa y=some (key k)):
 ∀a,cG aa n.n a->(execOp a.eval ⟨dst,.lookup t x y c,ty,pos,after,g⟩).run P w= .ok (.value (if c then .tuple #[(a2 m k).getD z,.bool (a2 m k).isSome] else(a2 m k).getD z)) w:=λa d=>by
 simp only [execOp,d.eval f,d.eval h,dR,GX hm e k c,dU,ee]
theorem jt{t cZ eB:TypeId}{x y u:Operand}{v:Value}[hu:bC P t (.map cZ eB)][ad:Keys P cZ key](hm:cf key I m)(c:C o F ([(b,I)]::ae) w){k:cw}
 (l:cW ops aa g=some true) (q:bs aa x=some (.map (some b))) (r:bs aa y=some (key k)) (p:bs aa u=some v)
 (h:∀fU aI,cf key fU (cj m k v)->C o F ([(b,fU)]::ae) aI->O P n ops rest aa aI Q):O P n ops (⟨none,.mapUpdate t x y u,ty,pos,after,g⟩::rest) aa w Q:=by
 obtain⟨es,clock,rfl,aM⟩:=hm
 obtain⟨fU,f,e⟩:=(show cf key (.map es clock) m from⟨es,clock,j,aM⟩).update k v w hu.h c.first
 have i:=c.map e.vk
 refine tq (aI:=_) l j (λa d=>?_) (h fU _ e i) (cS.lk c.first (by simp) (pF c.first).2)
 simp only [execOp,d.eval q,d.eval r,d.eval p,dR,f,dU,ee]
theorem wl{cZ eB t:TypeId}{d:Array TypeId}{args:Array Operand}[hu:bC P t (.map cZ eB)][ad:Keys P cZ key](hm:cf key I m)(c:C o F ([(b,I)]::ae) w){k:cw}(r:d[0]? =some t)
 (q:cW ops aa g=some true) (p:c8 n dst=true) (s:fo aa args.toList=some [.map (some b),key k])
 (h:∀fU aI,cf key fU (fS m k)->C o F ([(b,fU)]::ae) aI->O P n ops rest (cF aa dst (.tuple #[])) aI Q):O P n ops (⟨dst,.call ⟨.builtin .delete,args,d⟩,ty,pos,after,g⟩::rest) aa w Q:=by
 obtain⟨es,clock,rfl,aM⟩:=hm
 obtain⟨fU,f,e⟩:=(show cf key (.map es clock) m from⟨es,clock,j,aM⟩).erase (t4:=d) (ty:=ty) k w r hu.h c.first
 have i:=c.map e.vk
 refine dO q p (λa l=>?_) (h fU _ e i) (ad:=cS.lk c.first (by simp) (pF c.first).2)
 have:args.map a.eval= #[.map (some b),key k]:=by apply fu;rw [hj,l.hl s]
 simp only [execOp,resolve,invoke,builtin,dR,ee,dU,this,f]
theorem A4{cZ eB t:TypeId}{c:Array TypeId}{args:Array Operand}[hu:bC P t (.map cZ eB)](hm:cf key I m)(f:w.heap[b]? =some I)(j:c= #[t])
 (k:fo aa args.toList=some [.map (some b)]):∀a,cG aa n.n a->(execOp a.eval ⟨dst,.call ⟨.builtin .len,args,c⟩,ty,pos,after,g⟩).run P w= .ok (.value (.int .i64 m.length)) w:=λa d=>by
 subst j
 obtain⟨es,clock,rfl,aM,i⟩:=hm
 have e:es.size=m.length:=by have:=aL List.length i;simpa using this
 have:args.map a.eval= #[.map (some b)]:=by apply fu;rw [hj,d.hl k]
 simp only [execOp,resolve,invoke,builtin,dR,ee,dU,this]
 simp [Builtin.len_,d6 hu.h,mN f,Result.andThen,e,goInt]
theorem tn{cZ eB t:TypeId}{a:Array TypeId}{args:Array Operand}[hu:bC P t (.map cZ eB)](hm:cf key I m)(c:w.heap[b]? =some I)(f:a= #[t])(e:cW ops aa g=some true)(d:c8 n dst=true)
 (i:fo aa args.toList=some [.map (some b)]) (h:O P n ops rest (cF aa dst (.int .i64 m.length)) w Q):O P n ops (⟨dst,.call ⟨.builtin .len,args,a⟩,ty,pos,after,g⟩::rest) aa w Q:=
 dO e d (A4 hm c f i) h
theorem gR{f:FuncId}{aD cs:Array Operand}{xs cR:List Value}(i:cW ops aa g=some true)(e:c8 n dst=true)(j:fo aa aD.toList=some xs)(k:fo aa cs.toList=some cR)
 (h:O P n ops rest (cF aa dst (.func (.func f) xs.toArray cR.toArray)) w Q):O P n ops (⟨dst,.makeFunc (.func f) aD cs,ty,pos,after,g⟩::rest) aa w Q:=
 dO i e (λa b=>by
  have c:aD.map a.eval=xs.toArray:=by apply fu;rw [hj,b.hl j]
  have d:cs.map a.eval=cR.toArray:=by apply fu;rw [hj,b.hl k]
  simp [execOp,c,d,Instr.makeFunc,Act.eval,Result.andThen]) h
end
def lY{cw:Type}(key:cw->Value)(b:Nat)(I:Obj)(m:List (cw×Value))(pre:List cw)(it:Obj):Prop:=
 ∃es clock since seen,I= .map es clock/\it= .mapIter (some b) since seen clock/\(∀x∈es.toList,x.born<since)/\since<=clock/\(es.toList.map (·.born)).Nodup/\
  es.toList.map (λe=>(e.key,e.val))=(m.map λp=>(key p.1,p.2))/\(m.map (·.1)).Nodup/\
  ∃L:List MapEntry,seen.toList=L.map (·.born)/\(∀e∈L,e∈es.toList)/\L.map (·.key)=pre.map key
section
variable {cw:Type} [DecidableEq cw] {key:cw->Value} {P:Program} {cZ:TypeId}
theorem qy:∀{l pre:List cw},l.Nodup->pre.Nodup->(∀k∈pre,k∈l)->(∀k∈l,k∈pre)->pre.Perm l:=λb c d e=>
 (List.perm_ext_iff_of_nodup c b).2 λa=>⟨d a,e a⟩
end
section
variable {P:Program} {n:Fr} {aa:Env} {w:World} {Q:d5} {ops:Array Oper} {rest:List Oper}
 {dst:Option Nat} {ty:TypeId} {pos:String} {after:Array Edge} {g:Option (Nat×Bool)}
variable {cw:Type} [DecidableEq cw] {key:cw->Value} {o:World} {F:List Nat} {ae:List (List Chunk)} {b r:Nat} {I it:Obj} {m:List (cw×Value)} {pre:List cw}
theorem pB{t cZ eB:TypeId}{x:Operand}[hu:bC P t (.map cZ eB)][ad:Keys P cZ key](hm:cf key I m)(e:w.heap[b]? =some I)(c:C o F ae w)(i:cW ops aa g=some true)(f:c8 n dst=true)(p:bs aa x=some (.map (some b)))
 (h:∀r it aI,lY key b I m [] it->C o F ([(r,it)]::ae) aI->O P n ops rest (cF aa dst (.pointer (some ⟨r,0,none⟩))) aI Q):O P n ops (⟨dst,.range t x,ty,pos,after,g⟩::rest) aa w Q:=by
 have l:=hm.nodup (P:=P) (cZ:=cZ)
 obtain⟨es,clock,rfl,aM,k⟩:=hm
 refine dO i f (λa d=>?_) (h w.heap.size (.mapIter (some b) clock #[] clock) _ ⟨es,clock,clock,#[],j,j,aM.1,cB _,aM.2.1,k,l,[],j,by simp,j⟩ (c.alloc _)) (ad:=cS.alloc _ _)
 simp only [execOp,d.eval p,dR,run_range_map w t cZ eB b es clock hu.h e,dU,ee]
theorem pA{x:Operand}(az:lY key b I m pre it)(ak:∀a c:cw,key a=key c->a=c)(av:w.heap[b]? =some I)(H:C o F ([(r,it)]::ae) w)(ai:cW ops aa g=some true)(ah:c8 n dst=true)(d:bs aa x=some (.pointer (some ⟨r,0,none⟩)))
 (ax:(∀p∈m,p.1∈pre)->O P n ops rest (cF aa dst (.tuple #[.bool false])) w Q)
 (aF:∀k v ap aI,(k,v)∈m->k∉pre->lY key b I m (pre++[k]) ap->C o F ([(r,ap)]::ae) aI->O P n ops rest (cF aa dst (.tuple #[.bool true,key k,v])) aI Q):
 O P n ops (⟨dst,.next x false,ty,pos,after,g⟩::rest) aa w Q:=by
 obtain⟨es,clock,since,seen,rfl,rfl,Z,ab,B,y,ac,L,D,E,G⟩:=az
 have aK:Obj.mapIter (some b) since seen clock≠Obj.deferred (some []):=by simp
 rcases run_next_at (P:=P) w ty r b since clock seen es clock H.first av Z ab with⟨aD,Y⟩|⟨e,he,A,ao,Y⟩
 .refine dO ai ah (λa M=>?_) (ax λp W=>?_)
  .simp only [execOp,M.eval d,dR,Y,dU,ee]
  .have T:(key p.1,p.2)∈es.toList.map (λe=>(e.key,e.val)):=by rw [y];exact dT.2 ⟨p,W,j⟩
   obtain⟨e,he,ay⟩:=dT.1 T
   have aJ:seen.contains e.born=true:=by
    rcases aw:seen.contains e.born with _|_
    .have:e∈(leftOf es seen).toList:=by
      unfold leftOf
      simp only [Array.toList_filter,hL]
      exact⟨he,by simp only [aw];rfl⟩
     have aE:(leftOf es seen).toList=[]:=lu (by simpa using aD)
     rw [aE] at this
     simp at this
    .rfl
   have af:e.born∈seen.toList:=by simpa using aJ
   rw [D] at af
   obtain⟨gY,q,ag⟩:=dT.1 af
   have N:gY=e:=by
    have:=(tw.1 B)
    rcases oa (E gY q) with⟨i,s⟩
    rcases oa he with⟨J,h⟩
    have am:=B
    have f:(es.toList.map (·.born))[i]? =some gY.born:=by rw [gn,s];rfl
    have l:(es.toList.map (·.born))[J]? =some e.born:=by rw [gn,h];rfl
    have S:i=J:=by
     have t:=(fa.1 f).1
     have u:=(fa.1 l).1
     rcases rA i J with V|heq|R
     .have:=(ob.1 am) i J t u V
      rw [(fa.1 f).2,(fa.1 l).2] at this
      exact absurd ag this
     .exact heq
     .have:=(ob.1 am) J i u t R
      rw [(fa.1 f).2,(fa.1 l).2] at this
      exact absurd ag.symm this
    subst S
    rw [s] at h
    exact hr h
   subst N
   have ad:gY.key∈pre.map key:=by rw [<-G];exact dT.2 ⟨gY,q,j⟩
   obtain⟨k,U,aA⟩:=dT.1 ad
   have:key k=key p.1:=aA.trans (aL Prod.fst ay)
   rw [<-ak _ _ this]
   exact U
 .have z:e∈es.toList/\e.born∉seen.toList:=by
   unfold leftOf at he
   simp only [Array.toList_filter,hL] at he
   refine⟨he.1,?_⟩
   have:=he.2
   simpa using this
  have T:(e.key,e.val)∈m.map λp=>(key p.1,p.2):=by rw [<-y];exact dT.2 ⟨e,z.1,j⟩
  obtain⟨p,W,an⟩:=dT.1 T
  have X:key p.1=e.key:=aL Prod.fst an
  have aH:p.2=e.val:=aL Prod.snd an
  have K:C o F ([(r,Obj.mapIter (some b) since seen clock)]::ae) A:=by rcases ao with rfl|rfl<;>first|exact H|exact H.drew
  have ar:C o F ([(r,Obj.mapIter (some b) since (seen.push e.born) clock)]::ae) (ChangeMaps.setBlock A r (.mapIter (some b) since (seen.push e.born) clock)):=K.map (by simp)
  have aB:cS w (ChangeMaps.setBlock A r (.mapIter (some b) since (seen.push e.born) clock)):=by
   have U:cS w A:=by rcases ao with rfl|rfl<;>first|exact cS.refl _|exact cS.drew _
   exact U.trans (cS.lk K.first (by simp) (pF K.first).2)
  refine dO ai ah (λa M=>?_) (aF p.1 p.2 _ _ W ?_ ⟨es,clock,since,seen.push e.born,j,j,Z,ab,B,y,ac,L++[e],?_,?_,?_⟩ ar) (ad:=aB)
  .simp only [execOp,M.eval d,dR,Y,dU,ee,X,aH]
  .intro aG
   have:key p.1∈L.map (·.key):=by rw [G];exact dT.2 ⟨p.1,aG,j⟩
   obtain⟨gY,q,aC⟩:=dT.1 this
   have aj:gY.key=e.key:=aC.trans X
   have al:(es.toList.map (·.key)).Nodup:=by
    have aq:es.toList.map (·.key)=(m.map (·.1)).map key:=by
     have:=aL (List.map Prod.fst) y
     simpa [ou,Function.comp_def] using this
    rw [aq]
    exact List.Pairwise.map key (λa c au heq=>au (ak _ _ heq)) ac
   rcases oa (E gY q) with⟨i,s⟩
   rcases oa z.1 with⟨J,h⟩
   have f:(es.toList.map (·.key))[i]? =some gY.key:=by rw [gn,s];rfl
   have l:(es.toList.map (·.key))[J]? =some e.key:=by rw [gn,h];rfl
   have t:=(fa.1 f).1
   have u:=(fa.1 l).1
   have S:i=J:=by
    rcases rA i J with V|heq|R
    .have:=(ob.1 al) i J t u V
     rw [(fa.1 f).2,(fa.1 l).2] at this
     exact absurd aj this
    .exact heq
    .have:=(ob.1 al) J i u t R
     rw [(fa.1 f).2,(fa.1 l).2] at this
     exact absurd aj.symm this
   subst S
   rw [s] at h
   have N:=hr h
   subst N
   exact z.2 (by rw [D];exact dT.2 ⟨gY,q,j⟩)
  .simp [D]
  .intro x d
   rcases dA.1 d with d|d
   .exact E x d
   .simp at d;subst d;exact z.1
  .simp [G,X]
theorem pt{x:Operand}{k:cw}(E:lY key b I m (pre++[k]) it)(G:∀a c:cw,key a=key c->a=c)(A:w.heap[b]? =some I)(y:C o F ([(r,it)]::ae) w)(D:cW ops aa g=some true)(B:c8 n dst=true)(S:bs aa x=some (.pointer (some ⟨r,0,none⟩)))
 (h:∀v,(k,v)∈m->O P n ops rest (cF aa dst (.tuple #[key k,v])) w Q):
 O P n ops (⟨dst,.entry x,ty,pos,after,g⟩::rest) aa w Q:=by
 obtain⟨es,clock,since,seen,rfl,rfl,T,U,q,s,V,L,t,u,d⟩:=E
 have hlen:L.length=pre.length+1:=by have:=aL List.length d;simpa using this
 obtain⟨kx,e,rfl⟩:∃kx e,L=kx++[e]:=by
  rcases List.eq_nil_or_concat L with h|⟨kx,e,h⟩
  .subst h;simp at hlen
  .exact⟨kx,e,by simpa using h⟩
 have i:e.key=key k:=by
  simp only [jP,List.map_cons,List.map_nil] at d
  exact(List.append_inj' d j).2|>λh=>by simpa using h
 have R:seen=(kx.map (·.born)).toArray.push e.born:=by
  apply fu
  simp [t]
 subst R
 have f:e∈es.toList:=u e (by simp)
 have N:=run_entry_at (P:=P) w r b since _ es clock e y.first A f q
 have H:(e.key,e.val)∈m.map λp=>(key p.1,p.2):=by rw [<-s];exact dT.2 ⟨e,f,j⟩
 obtain⟨p,J,l⟩:=dT.1 H
 have K:p.1=k:=G _ _ ((aL Prod.fst l).trans i)
 have M:p.2=e.val:=aL Prod.snd l
 have:=h e.val (by rw [<-K,<-M];exact J)
 refine dO D B (λa z=>?_) this
 simp only [execOp,z.eval S,dR,N,dU,ee,i]
theorem py{t:TypeId}{x:Operand}{v:Value}{d:TypeDesc}[hu:bC P t d](j:∀ms,d≠.interface ms)(e:cW ops aa g=some true)(c:c8 n dst=true)(i:bs aa x=some v)
 (h:O P n ops rest (cF aa dst (.iface t v)) w Q):O P n ops (⟨dst,.makeInterface t x,ty,pos,after,g⟩::rest) aa w Q:=
 dO e c (λa b=>by
  have f:=hu.h
  simp only [execOp,b.eval i,Instr.makeInterface,dR,d6 f,dU,ee]) h
theorem pr{t l:TypeId}{x:Operand}{v:Value}{d:TypeDesc}[hu:bC P t d](e:∀ms,d≠.interface ms)(f:cW ops aa g=some true)(c:c8 n dst=true)(k:bs aa x=some (.iface t v))
 (h:O P n ops rest (cF aa dst v) w Q):O P n ops (⟨dst,.typeAssert x l t false,ty,pos,after,g⟩::rest) aa w Q:=
 dO f c (λa b=>by
  have i:=hu.h
  simp only [execOp,b.eval k,Instr.typeAssert,dR,d6 i,dU,ee]
  cases d<;>first|exact absurd j (e _)|simp [Result.andThen]) h
theorem GQ{P:Program}{t cZ eB:TypeId}(hu:P.underlying t=some (.map cZ eB))(b:Nat)(w:World)(d:Nat):(Op.equalIn (d+1) t (.map (some b)) (.map none)).run P w= .ok false w:=by
 simp only [Op.equalIn,dR,d6 hu,dU];rfl
theorem Cy(t:TypeId)(x y:Operand)(p q:Option Nat):(do eqGuard .eql t x y (.map p) (.map q);binOp .eql t (.map p) (.map q))=(do pure (.bool (<-Op.equal t (.map p) (.map q))):Sem Value):=rfl
theorem AW{t i cZ eB:TypeId}{x y:Operand}{b:Nat}[hu:bC P t (.map cZ eB)](e:bs aa x=some (.map (some b)))(f:bs aa y=some (.map none)):
 ∀a,cG aa n.n a->(execOp a.eval ⟨dst,.binOp .eql t x y i,ty,pos,after,g⟩).run P w= .ok (.value (.bool false)) w:=λa c=>by
 have d:(Op.equal t (.map (some b)) (.map none)).run P w= .ok false w:=by
  exact GQ hu.h b w 9999
 simp only [execOp,c.eval e,c.eval f,Cy,dR,d,dU,ee]
theorem pv{t f cZ eB:TypeId}{x y:Operand}{b:Nat}[hu:bC P t (.map cZ eB)](c:cW ops aa g=some true)(a:c8 n dst=true)(d:bs aa x=some (.map (some b)))(e:bs aa y=some (.map none))
 (h:O P n ops rest (cF aa dst (.bool false)) w Q):O P n ops (⟨dst,.binOp .eql t x y f,ty,pos,after,g⟩::rest) aa w Q:=
 dO c a (AW d e) h
theorem ti{t cZ eB:TypeId}{x y:Operand}{z:Value}{size bytes:Nat}[hu:bC P t (.map cZ eB)][ad:Keys P cZ key][f:cq P eB z size bytes](hm:cf key I m)(c:w.heap[b]? =some I){k:cw}(d:bs aa x=some (.map (some b)))(e:bs aa y=some (key k)):
 ∀a,cG aa n.n a->(execOp a.eval ⟨dst,.lookup t x y true,ty,pos,after,g⟩).run P w= .ok (.value (.tuple #[(a2 m k).getD z,.bool (a2 m k).isSome])) w:=v5 hm c d e
theorem th{t cZ eB:TypeId}{x y:Operand}{z:Value}{size bytes:Nat}[hu:bC P t (.map cZ eB)][ad:Keys P cZ key][f:cq P eB z size bytes](hm:cf key I m)(c:w.heap[b]? =some I){k:cw}(d:bs aa x=some (.map (some b)))(e:bs aa y=some (key k)):
 ∀a,cG aa n.n a->(execOp a.eval ⟨dst,.lookup t x y false,ty,pos,after,g⟩).run P w= .ok (.value ((a2 m k).getD z)) w:=v5 hm c d e
theorem mH{t cZ eB:TypeId}{x y:Operand}{z:Value}{size bytes:Nat}[hu:bC P t (.map cZ eB)][ad:Keys P cZ key][i:cq P eB z size bytes](hm:cf key I m)(a:w.heap[b]? =some I){k:cw}
 (d:cW ops aa g=some true) (c:c8 n dst=true) (e:bs aa x=some (.map (some b))) (f:bs aa y=some (key k))
 (h:O P n ops rest (cF aa dst (.tuple #[(a2 m k).getD z,.bool (a2 m k).isSome])) w Q):O P n ops (⟨dst,.lookup t x y true,ty,pos,after,g⟩::rest) aa w Q:=dO d c (ti hm a e f) h
theorem px{t cZ eB:TypeId}{x y:Operand}{z:Value}{size bytes:Nat}[hu:bC P t (.map cZ eB)][ad:Keys P cZ key][i:cq P eB z size bytes](hm:cf key I m)(a:w.heap[b]? =some I){k:cw}
 (d:cW ops aa g=some true) (c:c8 n dst=true) (e:bs aa x=some (.map (some b))) (f:bs aa y=some (key k))
 (h:O P n ops rest (cF aa dst ((a2 m k).getD z)) w Q):O P n ops (⟨dst,.lookup t x y false,ty,pos,after,g⟩::rest) aa w Q:=dO d c (th hm a e f) h
class MapsClone(P:Program)(f:FuncId):Prop where
 h:∃fn,P.funcs[f]? =some fn/\(fn.name== "runtime.NumGoroutine")=false/\fn.body.isNone=true/\Extern.findNext fn=none/\Extern.find fn=some Extern.MapsClone.clone
theorem pz{f:FuncId}{z:Array TypeId}{args:Array Operand}{t:TypeId}[bx:MapsClone P f](hm:cf key I m)(r:w.heap[b]? =some I)(p:C o F ae w)
 (u:cW ops aa g=some true) (s:c8 n dst=true) (y:fo aa args.toList=some [.iface t (.map (some b))])
 (h:∀c aI,C o F ([(c,I)]::ae) aI->O P n ops rest (cF aa dst (.iface t (.map (some c)))) aI Q):O P n ops (⟨dst,.call ⟨.value (.func f),args,z⟩,ty,pos,after,g⟩::rest) aa w Q:=by
 have v:=hm.vk
 obtain⟨es,clock,rfl,_⟩:=hm
 obtain⟨fn,d,i,j,k,l⟩:=bx.h
 refine dO u s (λa q=>?_) (h w.heap.size _ (p.alloc _ v)) (ad:=cS.alloc _ _)
 have:args.map a.eval= #[.iface t (.map (some b))]:=by apply fu;rw [hj,q.hl y]
 have x:(Extern.MapsClone.clone #[.iface t (.map (some b))]).run P w= .ok (.iface t (.map (some w.heap.size))) (w.alloc (.map es clock)):=by
  have e:Extern.MapsClone.clone #[.iface t (.map (some b))]=(getObj b>>=λI=>match I with
   | .map entries clock=>(newObj (.map entries clock)>>=λn=>pure (.iface t (.map (some n))))
   |_=>stuck "maps.clone: a map expected"):=rfl
  rw [e]
  simp [mN r,Result.andThen]
 simp only [execOp,resolve,this,Act.eval,Deferred.ofValue,invoke,callFunc,d,i,j,k,l,dR,ee,dU,l3,run_mark,pR,Array.append_empty,if_false,if_true,Bool.false_eq_true,x]
end
end Go.Proofs.YtdcbpdlhhkcjnaaGreatDoor.R
namespace Go.Proofs.YtdcbpdlhhkcjnaaGreatDoor.R
open Go.Proofs.Tryz Go Go.RowKit
section
variable {P:Program} {n:Nat} {aa:Env} {w:World} {dst:Option Nat} {ty:TypeId} {pos:String} {after:Array Edge} {g:Option (Nat×Bool)}
theorem v4{t e:TypeId}{x y:Operand}{m:Nat}{b off J:Nat}{k:IntKind}{z:Value}{size bytes:Nat}[hu:bC P t (.array m e)][f:cq P e z size bytes]
 (o:bs aa x=some (.pointer (some ⟨b,off,none⟩))) (p:bs aa y=some (.int k J)) (d:J<m):
 ∀a,cG aa n a->(execOp a.eval ⟨dst,.indexAddr t x y,ty,pos,after,g⟩).run P w= .ok (.value (.pointer (some ⟨b,off+J*size,none⟩))) w:=λa c=>by
 obtain⟨i,j,_,l,_⟩:=f.parts
 simp [execOp,c.eval o,c.eval p,Instr.indexAt,Instr.sureAddr,asIntOf,d6 hu.h,sizeOf,typeInfo,j,l,d,add_lit]
theorem mC{op:BinOp}{t h:TypeId}{x y:Operand}{k dj:IntKind}{i J:Int}{v:Value}
 (e:bs aa x=some (.int k i)) (f:bs aa y=some (.int dj J)) (j:0<=J) (c:evalShift op k i J=some v):
 ∀a,cG aa n a->(execOp a.eval ⟨dst,.binOp op t x y h,ty,pos,after,g⟩).run P w= .ok (.value v) w:=λa b=>by
 have d:¬J<0:=by omega
 cases op<;>simp [evalShift] at c<;>subst c<;>simp [execOp,b.eval e,b.eval f,eqGuard,binOp,Op.shift,d]
theorem Bh{op:UnOp}{t:TypeId}{x:Operand}{k:IntKind}{i:Int}{v:Value}(d:bs aa x=some (.int k i))(b:qc op k i=some v):
 ∀a,cG aa n a->(execOp a.eval ⟨dst,.unOp op t x,ty,pos,after,g⟩).run P w= .ok (.value v) w:=λa c=>by
 cases op<;>simp [qc] at b<;>subst b<;>simp [execOp,c.eval d,Op.unary,Op.intArith,Op.intBits]
theorem e9{t e:TypeId}{x y:Operand}{m:Nat}{b J:Nat}{k:IntKind}{z:Value}{bytes:Nat}[hu:bC P t (.array m e)][h:cq P e z 1 bytes]
 (d:bs aa x=some (.pointer (some ⟨b,0,none⟩))) (f:bs aa y=some (.int k J)) (c:J<m):
 ∀a,cG aa n a->(execOp a.eval ⟨dst,.indexAddr t x y,ty,pos,after,g⟩).run P w= .ok (.value (.pointer (some ⟨b,J,none⟩))) w:=by
 have:=v4 (P:=P) (n:=n) (w:=w) (dst:=dst) (ty:=ty) (pos:=pos) (after:=after) (g:=g) (aa:=aa) (t:=t) (e:=e) (z:=z) (size:=1) (bytes:=bytes) d f c
 simpa using this
theorem kv{t e:TypeId}{x y:Operand}{b:Addr}{l c J:Nat}{k:IntKind}{z:Value}{bytes:Nat}[hu:bC P t (.slice e)][i:cq P e z 1 bytes]
 (f:bs aa x=some (.slice (some b) l c)) (h:bs aa y=some (.int k J)) (d:J<l):
 ∀a,cG aa n a->(execOp a.eval ⟨dst,.indexAddr t x y,ty,pos,after,g⟩).run P w= .ok (.value (.pointer (some (b.add J)))) w:=by
 have:=q3 (P:=P) (n:=n) (w:=w) (dst:=dst) (ty:=ty) (pos:=pos) (after:=after) (g:=g) (aa:=aa) (t:=t) (e:=e) (z:=z) (size:=1) (bytes:=bytes) f h d
 simpa using this
end
section
variable {P:Program} {n:Fr} {aa:Env} {w:World} {Q:d5} {ops:Array Oper} {rest:List Oper} {dst:Option Nat} {ty:TypeId} {pos:String} {after:Array Edge} {g:Option (Nat×Bool)}
theorem gJ{t e:TypeId}{x y:Operand}{m:Nat}{b J:Nat}{k:IntKind}{z:Value}{bytes:Nat}[hu:bC P t (.array m e)][j:cq P e z 1 bytes](d:cW ops aa g=some true)(c:c8 n dst=true)
 (f:bs aa x=some (.pointer (some ⟨b,0,none⟩))) (i:bs aa y=some (.int k J)) (a:J<m)
 (h:O P n ops rest (cF aa dst (.pointer (some ⟨b,J,none⟩))) w Q):O P n ops (⟨dst,.indexAddr t x y,ty,pos,after,g⟩::rest) aa w Q:=dO d c (e9 f i a) h
theorem Br{t e:TypeId}{x y:Operand}{b m i:Nat}{k:IntKind}{z:Value}{bytes:Nat}[hu:bC P t (.array m e)][o:cq P e z 1 bytes]
 (l:cW ops aa g=some true) (j:c8 n dst=true) (r:bs aa x=some (.pointer (some ⟨b,0,none⟩))) (s:bs aa y=some (.int k i)) (u:i<m)
 (h:O P n ops rest (cF aa dst (.slice (some ⟨b,i,none⟩) (m-i) (m-i))) w Q):O P n ops (⟨dst,.slice t x (some y) none none,ty,pos,after,g⟩::rest) aa w Q:=
 dO l j (λa c=>by
  obtain⟨J,p,_,q,_⟩:=o.parts
  have d:i<=m:=by omega
  have f:m≠i:=by omega
  simp [execOp,c.eval r,c.eval s,Instr.sliceAt,Instr.sureAddr,Instr.sliceBounds,Instr.sliceBound,asIntOf,d6 hu.h,sizeOf,typeInfo,p,q,add_lit,d,f]) h
theorem A1{P:Program}{n:Nat}{aa:Env}{w:World}{dst:Option Nat}{ty:TypeId}{pos:String}{after:Array Edge}{g:Option (Nat×Bool)}{t e:TypeId}{x y:Operand}{m J:Nat}{k:IntKind}{cs:Array Value}{v z:Value}{bytes:Nat}{d:TypeDesc}[hu:bC P t (.array m e)][he:bC P e d][j:cq P e z 1 bytes]
 (r:bs aa x=some (.agg cs)) (s:bs aa y=some (.int k J)) (c:J<m) (i:h2 d=false) (f:cs[J]? =some v):
 ∀a,cG aa n a->(execOp a.eval ⟨dst,.index t x y,ty,pos,after,g⟩).run P w= .ok (.value v) w:=λa b=>by
 obtain⟨q,l,_,o,_⟩:=j.parts
 have p:=nk (P:=P) (w:=w) (t:=e) (d:=d) (cs:=cs) (off:=J) (v:=v) he.h i f
 simp [execOp,b.eval r,b.eval s,Instr.index,asIntOf,d6 hu.h,sizeOf,typeInfo,l,o,c,p]
theorem wp{t e:TypeId}{x y:Operand}{m J:Nat}{k:IntKind}{cs:Array Value}{v z:Value}{bytes:Nat}{d:TypeDesc}[hu:bC P t (.array m e)][he:bC P e d][o:cq P e z 1 bytes]
 (i:cW ops aa g=some true) (c:c8 n dst=true) (j:bs aa x=some (.agg cs)) (l:bs aa y=some (.int k J)) (a:J<m) (f:h2 d=false) (b:cs[J]? =some v)
 (h:O P n ops rest (cF aa dst v) w Q):O P n ops (⟨dst,.index t x y,ty,pos,after,g⟩::rest) aa w Q:=dO i c (A1 j l a f b) h
end
section
variable {P:Program} {n:Fr} {aa:Env} {w:World} {Q:d5} {ops:Array Oper} {rest:List Oper} {dst:Option Nat} {ty:TypeId} {pos:String} {after:Array Edge} {g:Option (Nat×Bool)}
theorem n8{t e:TypeId}{x y:Operand}{z:Value}{size bytes:Nat}{m k:IntKind}{l c:Nat}{o:World}{F:List Nat}{ae:List (List Chunk)}[hu:bC P t (.slice e)][s:cq P e z size bytes](p:C o F ae w)
 (r:cW ops aa g=some true) (q:c8 n dst=true) (D:bs aa x=some (.int m l)) (E:bs aa y=some (.int k c)) (H:l<=c) (G:bytes*c<=281474976710656) (hm:c<=maxLen)
 (h:∀b cs aI,cs.size=c*size->cs=madeCells z.cells (c*size)->C o F ([(b,.cells cs e (0,0))]::ae) aI->O P n ops rest (cF aa dst (.slice (some ⟨b,0,none⟩) l c)) aI Q):O P n ops (⟨dst,.makeSlice t x y,ty,pos,after,g⟩::rest) aa w Q:=by
 obtain⟨i,u,v,A,B⟩:=s.parts
 have f:=run_make (P:=P) w t e i z hu.h u v m k (l:Int) (c:Int) (by omega) (by omega) (by rw [B,<-Int.natCast_mul];omega) (by simp only [maxLen] at hm;omega)
 simp only [l5,A] at f
 refine dO r q (λa d=>?_) (h w.heap.size _ _ (size_madeCells _ _) j (p.alloc _)) (ad:=cS.alloc _ _)
 simp only [execOp,d.eval D,d.eval E,dR,f,dU,ee]
theorem tr{t p:TypeId}{x y:Operand}{i J:Nat}(l:cW ops aa g=some true)(k:c8 n dst=true)
 (m:bs aa x=some (.int .i64 i)) (o:bs aa y=some (.int .i64 J)) (r:0<J) (s:i<9223372036854775808)
 (h:O P n ops rest (cF aa dst (.int .i64 ((i/J:Nat):Int))) w Q):O P n ops (⟨dst,.binOp .quo t x y p,ty,pos,after,g⟩::rest) aa w Q:=
 dO l k (λa b=>by
  have c:¬(J:Int)=0:=by omega
  have d:(i:Int).tdiv (J:Int)=((i/J:Nat):Int):=rfl
  have e:IntKind.i64.wrap ((i/J:Nat):Int)=((i/J:Nat):Int):=by
   have:i/J<=i:=Nat.div_le_self i J
   rw [jR]
   generalize i/J=q at*
   omega
  simp only [execOp,b.eval m,b.eval o]
  have f:eqGuard .quo t x y (.int .i64 (i:Int)) (.int .i64 (J:Int))=pure ():=rfl
  have j:(binOp .quo t (.int .i64 (i:Int)) (.int .i64 (J:Int))).run P w= .ok (.int .i64 ((i/J:Nat):Int)) w:=by
   show(Op.intDiv .quo .i64 (i:Int) (J:Int)).run P w=_
   unfold Op.intDiv
   simp only [d,aF c,ee,e]
  simp only [f,dR,ee,dU,j]) h
end
theorem AS:∀(U:List Value)(k:Nat)(cells:Array Value),(U.zipIdx k).foldl (λcs(p:Value×Nat)=>cs.setIfInBounds (0+p.2) p.1) cells=setCells cells k U
 |[],_,_=>rfl
 |v::r,k,cells=>by
  rw [List.zipIdx_cons,ix,AS r (k+1),setCells,fk]
theorem GW{P:Program}{t e:TypeId}{z:Value}{size bytes:Nat}(hu:P.underlying t=some (.slice e))(f:cq P e z size bytes)(U:List Value)(k:U.length=size)(m:0<size)(aM:size<=16777216)(w:World):
 (Instr.buildSlice t 1 #[(0,.agg U.toArray)]).run P w= .ok (.slice (some ⟨w.heap.size,0,none⟩) 1 1) {w with heap:=w.heap.push (.cells U.toArray e)}:=by
 obtain⟨i,g,h,j,_⟩:=f.parts
 have key:∀cells:Array Value,cells.size=size->Instr.fill (λi=>some (i*size,size)) cells [(0,.agg U.toArray)]=some U.toArray:=by
  intro cells c
  have d:(Value.agg U.toArray).cells=U.toArray:=rfl
  unfold Instr.fill
  simp only [d,hq,k,od,fk,ne_eq,not_true,decide_false,Bool.false_or,c,Nat.lt_irrefl,Instr.fill]
  simp only [gt_iff_lt,Nat.lt_irrefl,decide_false,Bool.false_eq_true,lv]
  congr 1
  rw [<-Array.foldl_toList,Array.toList_zipIdx]
  have a:=AS U 0 cells
  simp only [fk] at a
  exact a.trans (z6 U cells (by omega))
 unfold Instr.buildSlice
 have l:¬1*size>2^24:=by omega
 have b:¬1*size=0:=by omega
 simp only [dR,d6 hu,dU,sizeOf,typeInfo,l3,g,ee,j,l,b,lv,zeroValue,h]
 rw [key _ (by simp)]
 simp [newRow]
section
variable {P:Program} {n:Fr} {aa:Env} {w:World} {Q:d5} {ops:Array Oper} {rest:List Oper} {dst:Option Nat} {ty:TypeId} {pos:String} {after:Array Edge} {g:Option (Nat×Bool)}
theorem gv{t e:TypeId}{x:Operand}{U:List Value}{z:Value}{size bytes:Nat}{o:World}{F:List Nat}{ae:List (List Chunk)}[hu:bC P t (.slice e)][j:cq P e z size bytes](d:C o F ae w)
 (i:cW ops aa g=some true) (f:c8 n dst=true) (l:bs aa x=some (.agg U.toArray)) (k:U.length=size) (a:0<size) (aM:size<=16777216)
 (h:∀b aI,C o F ([(b,.cells U.toArray e (0,0))]::ae) aI->O P n ops rest (cF aa dst (.slice (some ⟨b,0,none⟩) 1 1)) aI Q):O P n ops (⟨dst,.buildSlice t 1 #[(0,x)],ty,pos,after,g⟩::rest) aa w Q:=
 ps (c:=U.toArray) (e:=e) (U:=[.agg U.toArray]) d i f (by simp [fo,l]) (λw=>by simpa using GW hu.h j U k a aM w) h
theorem Bl{t e:TypeId}{I:Array TypeId}{args:Array Operand}{z:Value}{size bytes:Nat}{o:World}{F:List Nat}{ae:List (List Chunk)}{k m c:Nat}{B A:Option Addr}{xs news:List Value}
 [hu:bC P t (.slice e)] [T:cq P e z size bytes] (L:C o F ae w) (ac:I= #[t,t]) (ah:z.cells.size=size) (H:0<size) (S:cW ops aa g=some true) (R:c8 n dst=true)
 (af:fo aa args.toList=some [.slice B k k,.slice A m c]) (p:xs.length=k*size) (E:Rd w B xs) (ad:0<k) (hm:0<m) (l:news.length=m*size) (G:Rd w A news) (M:(k+m)*bytes<=140737488355328) (y:k+m<=maxLen)
 (h:∀K x aI,Row e size K (k+m) (xs++news) x->C o F (x::ae) aI->O P n ops rest (cF aa dst K) aI Q):O P n ops (⟨dst,.call ⟨.builtin .append,args,I⟩,ty,pos,after,g⟩::rest) aa w Q:=by
 subst ac
 obtain⟨i,U,V,D,W⟩:=T.parts
 have ag:xs≠[]:=by intro q;subst q;have:=Nat.mul_pos ad H;simp only [ga] at p;omega
 have Y:news≠[]:=by intro q;subst q;have:=Nat.mul_pos hm H;simp only [ga] at l;omega
 obtain⟨f,rfl⟩:∃f,B=some f:=by
  cases xs with
  |nil=>exact absurd j ag
  |cons u r=>obtain⟨a,b,_⟩:=E 0 u j;exact⟨a,b⟩
 obtain⟨d,rfl⟩:∃d,A=some d:=by
  cases news with
  |nil=>exact absurd j Y
  |cons u r=>obtain⟨a,b,_⟩:=G 0 u j;exact⟨a,b⟩
 have ai:k+m<=9223372036854775807:=by simp only [maxLen] at y;omega
 have ab:=run_append_grow (P:=P) w t ty e i z hu.h U V f k k xs (by rw [D];exact p) (λJ v s=>E.cell s) d m c news (by rw [D];exact l) (λJ v s=>G.cell s) (by omega) (by omega) (by rw [W];exact growslice_fits (by omega) M)
 have N:=grownCap_ge w (k+m) k e
 have X:=grownCap_le_maxLen w (k+m) k e y
 have Z:Row e size (.slice (some ⟨w.heap.size,0,none⟩) (k+m) (grownCap w (k+m) k e)) (k+m) (xs++news) [(w.heap.size,.cells (xs.toArray++news.toArray++Builtin.zeroCells z.cells (grownCap w (k+m) k e-(k+m))) e (0,0))]:=by
  have hlen:(xs++news).length=(k+m)*size:=by rw [ca,p,l,Nat.add_mul]
  refine⟨hlen,.inr ⟨_,_,_,j,j,N,X,?_,?_⟩⟩
  .simp only [Array.size_append,List.size_toArray,sJ,ah,p,l,<-Nat.add_mul]
   exact ke _ (by omega)
  .simp only [tJ,List.append_assoc]
   rw [<-dH,<-hlen]
   exact l2
 refine dO S R (λa b=>?_) (h _ _ _ Z (L.drew.alloc _)) (ad:=cS.alloc _ _)
 have:args.map a.eval= #[.slice (some f) k k,.slice (some d) m c]:=by apply fu;rw [hj,b.hl af]
 simp only [execOp,resolve,invoke,builtin,dR,ee,dU,this,ab]
end
section
variable {P:Program} {n:Fr} {aa:Env} {w:World} {Q:d5} {ops:Array Oper} {rest:List Oper}
 {dst:Option Nat} {ty:TypeId} {pos:String} {after:Array Edge} {g:Option (Nat×Bool)}
theorem G2(U:List Value)(c:Array Value)(off:Nat)(h:off+U.length<=c.size):(setCells c off U).toList.take off=c.toList.take off:=by
 apply ny
 intro i
 rw [jw,jw]
 split
 .rw [pE,pE,o3 U c off h i,aF (by omega)]
 .rfl
theorem wj{t e eB:TypeId}{A:Array TypeId}{args:Array Operand}{z:Value}{size bytes:Nat}{o:World}{F:List Nat}{ae:List (List Chunk)}{b off m c:Nat}{gV:Array Value}
 [hu:bC P t (.slice e)] [G:cq P e z size bytes] (r:C o F ([(b,.cells gV eB (0,0))]::ae) w) (N:A= #[t]) (T:z.cells.size=size) (S:∀u∈z.cells.toList,u.oneCell'=true)
 (x:cW ops aa g=some true) (s:c8 n dst=true)
 (R:fo aa args.toList=some [.slice (some ⟨b,off,none⟩) m c]) (U:off+m*size<=gV.size)
 (h:∀l aI,l.size=gV.size->l.toList.take off=gV.toList.take off->C o F ([(b,.cells l eB (0,0))]::ae) aI->O P n ops rest (cF aa dst (.tuple #[])) aI Q):
 O P n ops (⟨dst,.call ⟨.builtin .clear,args,A⟩,ty,pos,after,g⟩::rest) aa w Q:=by
 obtain⟨i,H,I,V,W⟩:=G.parts
 subst N
 have d:∀a,cG aa n.n a->args.map a.eval= #[.slice (some ⟨b,off,none⟩) m c]:=λa d=>by apply fu;rw [hj,d.hl R]
 cases m with
 |zero=>
  refine dO x s (λa q=>?_) (h gV w j j r)
  simp [execOp,resolve,d a q,invoke,builtin,Builtin.clear_,d6 hu.h]
 |succ k=>
  have hlen:(Builtin.zeroCells z.cells (k+1)).toList.length=(k+1)*size:=by
   rw [Array.length_toList,sJ,T]
  have L:∀v∈(Builtin.zeroCells z.cells (k+1)).toList,v.oneCell'=true:=λv f=>by
   obtain⟨J,y,f⟩:=List.getElem_of_mem f
   simp only [Builtin.zeroCells,Array.toList_ofFn,List.getElem_ofFn] at f
   have M:0<z.cells.size:=by
    rcases rt z.cells.size with p|p
    .rw [Array.length_toList,sJ,p] at y;simp at y
    .exact p
   have K:J%z.cells.size<z.cells.size:=jx _ M
   have hm:v∈z.cells.toList:=by
    rw [<-f]
    simp [getElem!_pos,K]
   exact S v hm
  obtain⟨aI,B,D,E⟩:=C.storeCells (P:=P) (off:=off) (Builtin.zeroCells z.cells (k+1)).toList 0 gV w r (by rw [hlen];omega) L
  refine dO (aI:=aI) x s (λa q=>?_) (h _ aI (sI _ _ _) (by rw [ov];exact G2 _ _ _ (by rw [hlen];omega)) D) (ad:=E)
  simp [execOp,resolve,d a q,invoke,builtin,Builtin.clear_,d6 hu.h,zeroValue,typeInfo,H,I,B]
theorem Bm{t e:TypeId}{E:Array TypeId}{args:Array Operand}{z:Value}{size bytes:Nat}{o:World}{F:List Nat}{ae:List (List Chunk)}{b k cap m c:Nat}{A:Option Addr}{cur:Array Value}{news:List Value}
 [hu:bC P t (.slice e)] [M:cq P e z size bytes] (f:C o F ([(b,.cells cur e (0,0))]::ae) w) (W:E= #[t,t]) (V:0<size)
 (v:cW ops aa g=some true) (s:c8 n dst=true)
 (X:fo aa args.toList=some [.slice (some ⟨b,0,none⟩) k cap,.slice A m c]) (l:news.length=m*size) (B:Rd w A news) (G:∀u∈news,u.oneCell'=true) (D:k+m<=cap) (K:cap*size<=cur.size)
 (h:∀p aI,p.size=cur.size->p.toList.take ((k+m)*size)=cur.toList.take (k*size)++news->C o F ([(b,.cells p e (0,0))]::ae) aI->O P n ops rest (cF aa dst (.slice (some ⟨b,0,none⟩) (k+m) cap)) aI Q):
 O P n ops (⟨dst,.call ⟨.builtin .append,args,E⟩,ty,pos,after,g⟩::rest) aa w Q:=by
 obtain⟨i,x,Z,N,ab⟩:=M.parts
 subst N
 subst W
 have d:∀a,cG aa n.n a->args.map a.eval= #[.slice (some ⟨b,0,none⟩) k cap,.slice A m c]:=λa d=>by apply fu;rw [hj,d.hl X]
 have y:k<=cap:=by omega
 have ac:k*i.size<=cur.size:=ed (ke _ y) K
 have L:k*i.size+news.length<=cur.size:=by
  have:=ke i.size D
  rw [l,<-mT]
  omega
 cases A with
 |none=>
  have aP:news=[]:=by
   cases news with
   |nil=>rfl
   |cons u r=>obtain⟨a,d,_⟩:=B 0 u (by simp);cases d
  subst aP
  have hm:m=0:=by
   rcases rt m with h|h
   .exact h
   .have:=Nat.mul_pos h V;simp at l;omega
  subst hm
  refine dO v s (λa q=>?_) (h cur w j (by simp) f)
  simp [execOp,resolve,d a q,invoke,builtin,Builtin.append_,d6 hu.h,sizeOf,typeInfo,x,Builtin.lenOf,Builtin.firstCells,y,Go.storeCells]
 |some a0=>
  have T:∀J u,news[J]? =some u->w.cell? (a0.add J)=some u:=λJ u hu=>by
   obtain⟨Y,H,I⟩:=B J u hu
   cases H
   exact I
  have U:=run_append_room (P:=P) w t ty e i hu.h x b k cap cur f.first a0 m c news l T G D L
  refine dO (aI:=w.setRow b (cur.toList.take (k*i.size)++news++cur.toList.drop (k*i.size+news.length)).toArray) v s (λa q=>?_) (h _ _ ?_ ?_ (f.setRow)) (ad:=cS.cells f.first (λdj R=>setRow_other w b dj _ R))
  .simp only [execOp,resolve,invoke,builtin,dR,ee,dU,d a q,U]
  .simp only [hq,ca,List.length_take,List.length_drop,Array.length_toList]
   omega
  .have S:(cur.toList.take (k*i.size)++news).length=(k+m)*i.size:=by
    rw [ca,List.length_take,Array.length_toList,l,Nat.add_mul];omega
   simp only [dH]
   rw [<-dH,<-S]
   exact l2
theorem Bg{t e:TypeId}{x y:Operand}{A:Option Addr}{l c:Nat}{k:IntKind}{i:Nat}{z:Value}{size bytes:Nat}[hu:bC P t (.slice e)][m:cq P e z size bytes]
 (p:bs aa x=some (.slice A l c)) (q:bs aa y=some (.int k i)) (r:i<=c):
 ∀a,cG aa n.n a->(execOp a.eval ⟨dst,.slice t x none (some y) none,ty,pos,after,g⟩).run P w= .ok (.value (.slice A i c)) w:=λa b=>by
 obtain⟨J,o,_,s,_⟩:=m.parts
 have d:¬c<i:=by omega
 have f:A.map (λx=>x.add 0)=A:=by cases A<;>simp [Addr.add]
 simp [execOp,b.eval p,b.eval q,Instr.sliceAt,Instr.slice,Instr.sliceBounds,Instr.sliceBound,asIntOf,d6 hu.h,sizeOf,typeInfo,o,f];exact λj=>(d j).elim
theorem Bf{t e:TypeId}{x y:Operand}{A:Option Addr}{l c:Nat}{k:IntKind}{i:Nat}{z:Value}{size bytes:Nat}[hu:bC P t (.slice e)][j:cq P e z size bytes]
 (p:bs aa x=some (.slice A l c)) (q:bs aa y=some (.int k i)) (r:i<=l):
 ∀a,cG aa n.n a->(execOp a.eval ⟨dst,.slice t x (some y) none none,ty,pos,after,g⟩).run P w= .ok (.value (.slice (if c=i then A else A.map (·.add (i*size))) (l-i) (c-i))) w:=λa b=>by
 obtain⟨J,m,_,o,_⟩:=j.parts
 have d:¬l<i:=by omega
 simp [execOp,b.eval p,b.eval q,Instr.sliceAt,Instr.slice,Instr.sliceBounds,Instr.sliceBound,asIntOf,d6 hu.h,sizeOf,typeInfo,m,o];exact λf=>(d f).elim
theorem Bs{t e:TypeId}{x y f:Operand}{b I l c:Nat}{k dj:IntKind}{i J:Nat}{z:Value}{size bytes:Nat}[hu:bC P t (.slice e)][v:cq P e z size bytes]
 (u:cW ops aa g=some true) (s:c8 n dst=true)
 (C:bs aa x=some (.slice (some ⟨b,I,none⟩) l c)) (D:bs aa y=some (.int k i)) (E:bs aa f=some (.int dj J)) (m:i<=J) (o:J<=c) (F:i<c)
 (h:O P n ops rest (cF aa dst (.slice (some ⟨b,I+i*size,none⟩) (J-i) (c-i))) w Q):O P n ops (⟨dst,.slice t x (some y) (some f) none,ty,pos,after,g⟩::rest) aa w Q:=
 dO u s (λa d=>by
  obtain⟨inf,A,_,B,_⟩:=v.parts
  have p:¬c<J:=by omega
  have q:¬J<i:=by omega
  have r:¬c=i:=by omega
  have j:((⟨b,I,none⟩:Addr).add (i*size))=⟨b,I+i*size,none⟩:=add_lit _ _ _
  simp [execOp,d.eval C,d.eval D,d.eval E,Instr.sliceAt,Instr.slice,Instr.sliceBounds,Instr.sliceBound,asIntOf,d6 hu.h,sizeOf,typeInfo,A,B,p,q,r,j]
  rw [a6 o,a6 m]) h
theorem Bt{t e:TypeId}{x y f j:Operand}{b I l c:Nat}{k dj M:IntKind}{i J m:Nat}{z:Value}{size bytes:Nat}[hu:bC P t (.slice e)][D:cq P e z size bytes]
 (C:cW ops aa g=some true) (B:c8 n dst=true)
 (G:bs aa x=some (.slice (some ⟨b,I,none⟩) l c)) (H:bs aa y=some (.int k i)) (K:bs aa f=some (.int dj J)) (L:bs aa j=some (.int M m)) (p:i<=J) (q:J<=m) (v:m<=c) (N:i<m)
 (h:O P n ops rest (cF aa dst (.slice (some ⟨b,I+i*size,none⟩) (J-i) (m-i))) w Q):O P n ops (⟨dst,.slice t x (some y) (some f) (some j),ty,pos,after,g⟩::rest) aa w Q:=
 dO C B (λa d=>by
  obtain⟨inf,E,_,F,_⟩:=D.parts
  have r:¬m<J:=by omega
  have s:¬J<i:=by omega
  have u:¬m=i:=by omega
  have A:¬c<m:=by omega
  have o:((⟨b,I,none⟩:Addr).add (i*size))=⟨b,I+i*size,none⟩:=add_lit _ _ _
  simp [execOp,d.eval G,d.eval H,d.eval K,d.eval L,Instr.sliceAt,Instr.slice,Instr.sliceBounds,Instr.sliceBound,asIntOf,d6 hu.h,sizeOf,typeInfo,E,F,r,s,u,A,o]
  rw [a6 v,a6 q,a6 p]) h
end
class ii(G:List Chunk)(ae:List (List Chunk))(ak:outParam (List (List Chunk))):Prop where
 perm:ae.Perm (G::ak)
instance (priority:=1100)ii.here(G:List Chunk)(ae:List (List Chunk)):ii G (G::ae) ae:=⟨oe _⟩
instance ii.there(G H:List Chunk)(ae ak:List (List Chunk))[h:ii G ae ak]:ii G (H::ae) (H::ak):=⟨(h.perm.cons H).trans (.swap ..)⟩
instance ii.app(G H:List Chunk)(A B ak:List (List Chunk))[h:ii G (H::(A++B)) ak]:ii G ((H::A)++B) ak:=⟨h.perm⟩
instance ii.wM(G:List Chunk)(B ak:List (List Chunk))[h:ii G B ak]:ii G ([]++B) ak:=⟨h.perm⟩
instance ii.wN(G:List Chunk)(B ak:List (List Chunk))[h:ii G B ak]:ii G (List.append [] B) ak:=⟨h.perm⟩
instance ii.assoc(G:List Chunk)(A B a8 ak:List (List Chunk))[h:ii G (A++(B++a8)) ak]:ii G ((A++B)++a8) ak:=⟨by rw [dH];exact h.perm⟩
class kz(ae cI:List (List Chunk))(ak:outParam (List (List Chunk))):Prop where
 perm:ae.Perm (cI++ak)
instance kz.nil(ae:List (List Chunk)):kz ae [] ae:=⟨oe _⟩
instance kz.cons(G:List Chunk)(ae cI a ak:List (List Chunk))[b:ii G ae a][c:kz a cI ak]:kz ae (G::cI) ak:=⟨b.perm.trans (c.perm.cons G)⟩
class Has(b:Nat)(ae:List (List Chunk))(I:outParam Obj):Prop where
 mem:(b,I)∈ae.flatten
class tk(b:Nat)(G:List Chunk)(I:outParam Obj):Prop where
 mem:(b,I)∈G
instance (priority:=1100)tk.here(b:Nat)(I:Obj)(G:List Chunk):tk b ((b,I)::G) I:=⟨by simp⟩
instance (priority:=1100)Has.here(b:Nat)(I:Obj)(G:List Chunk)(ae:List (List Chunk))[h:tk b G I]:Has b (G::ae) I:=⟨by rw [kd];exact dA.2 (.inl h.mem)⟩
instance Has.there(b:Nat)(I:Obj)(G:List Chunk)(ae:List (List Chunk))[h:Has b ae I]:Has b (G::ae) I:=⟨by rw [kd];exact dA.2 (.inr h.mem)⟩
instance Has.app(b:Nat)(I:Obj)(G:List Chunk)(A B:List (List Chunk))[h:Has b (G::(A++B)) I]:Has b ((G::A)++B) I:=⟨h.mem⟩
instance Has.wM(b:Nat)(I:Obj)(B:List (List Chunk))[h:Has b B I]:Has b ([]++B) I:=⟨h.mem⟩
instance Has.wN(b:Nat)(I:Obj)(B:List (List Chunk))[h:Has b B I]:Has b (List.append [] B) I:=⟨h.mem⟩
class jv(b:Nat)(ae:List (List Chunk))(I:outParam Obj)(ak:outParam (List (List Chunk))):Prop where
 perm:ae.Perm ([(b,I)]::ak)
instance (priority:=1100)jv.here(b:Nat)(I:Obj)(ae:List (List Chunk)):jv b ([(b,I)]::ae) I ae:=⟨oe _⟩
instance jv.there(b:Nat)(I:Obj)(H:List Chunk)(ae ak:List (List Chunk))[h:jv b ae I ak]:jv b (H::ae) I (H::ak):=⟨(h.perm.cons H).trans (.swap ..)⟩
instance jv.app(b:Nat)(I:Obj)(H:List Chunk)(A B ak:List (List Chunk))[h:jv b (H::(A++B)) I ak]:jv b ((H::A)++B) I ak:=⟨h.perm⟩
instance jv.wM(b:Nat)(I:Obj)(B ak:List (List Chunk))[h:jv b B I ak]:jv b ([]++B) I ak:=⟨h.perm⟩
instance jv.wN(b:Nat)(I:Obj)(B ak:List (List Chunk))[h:jv b B I ak]:jv b (List.append [] B) I ak:=⟨h.perm⟩
section
variable {o w aI:World} {F:List Nat} {ae cI ak a8:List (List Chunk)} {G:List Chunk} {b:Nat} {I:Obj}
theorem C.to(G:List Chunk)[h:ii G ae ak](a:C o F ae w):C o F (G::ak) w:=a.ji h.perm
theorem C.xA:∀{A:List (List Chunk)},C o F (A++ak) w->C o F ak w
 |[],h=>h
 |G::A,h=>C.xA (A:=A) (C.drop (G:=G) h)
theorem C.dropEnd{A:List (List Chunk)}(h:C o F (A++ak) w):C o F A w:=C.xA (A:=ak) (h.ji ly)
theorem C.as [h:kz ae cI ak](a:C o F ae w):C o F cI w:=(a.ji h.perm).dropEnd
theorem C.front [h:kz ae cI ak](a:C o F ae w):C o F (cI++ak) w:=a.ji h.perm
theorem C.ours [h:kz ae cI ak](a:C o F ae w):Own cI w:=(a.ji h.perm).sub
theorem C.b4 [h:kz ae cI ak](a:C o F ae w)(k:C w (av cI) a8 aI):C o F (a8++ak) aI:=C.after (a.ji h.perm) k
theorem C.aj [h:Has b ae I](a:C o F ae w):w.heap[b]? =some I:=a.here (b,I) h.mem
theorem C.bf(b:Nat)[h:jv b ae I ak](a:C o F ae w):C o F ([(b,I)]::ak) w:=a.ji h.perm
theorem aw{off:Nat}{c:Array Value}{e:TypeId}{e2:Nat×Nat}{v:Value}(h:w.heap[b]? =some (.cells c e e2))(a:c[off]? =some v):w.cell? ⟨b,off,none⟩=some v:=by simp [World.cell?,h,a]
theorem bq{c:Array Value}{e:TypeId}{e2:Nat×Nat}(h:w.heap[b]? =some (.cells c e e2)):Rd w (some ⟨b,0,none⟩) c.toList:=λi v a=>⟨_,j,by rw [add_lit];exact aw h (by simpa using a)⟩
end
theorem AY{P:Program}{n:Nat}{aa:Env}{w:World}{dst:Option Nat}{ty:TypeId}{pos:String}{after:Array Edge}{g:Option (Nat×Bool)}{x:Operand}{U:Array Value}{i:Nat}{v:Value}
 (d:bs aa x=some (.tuple U)) (c:U[i]? =some v):∀a,cG aa n a->(execOp a.eval ⟨dst,.extract x i,ty,pos,after,g⟩).run P w= .ok (.value v) w:=λa b=>by simp [execOp,b.eval d,Instr.extract,c]
theorem sG{P:Program}{n:Nat}{aa:Env}{w:World}{fn:Func}{t0 c:Nat}{b:Addr}{v0:Value}{d0:TypeDesc}[j:bC P c d0]
 (g:fn.results= #[.cell t0 c]) (i:look aa t0=some (.pointer (some b))) (d:h2 d0=false) (e:w.cell? b=some v0):
 ∀a,cG aa n a->(results fn a.tmps).run P w= .ok (v0) w:=λa f=>by
 simp [results,g,asAddr,loadVar,f.get _ _ i,kr j.h,d,e]
theorem zQ{P:Program}{n:Nat}{aa:Env}{w:World}{fn:Func}{t0 e:Nat}{b:Addr}{v0:Value}{d0:TypeDesc}[p:bC P e d0]{t1 f:Nat}{c:Addr}{v1:Value}{d1:TypeDesc}[q:bC P f d1]
 (l:fn.results= #[.cell t0 e,.cell t1 f]) (m:look aa t0=some (.pointer (some b))) (g:h2 d0=false) (j:w.cell? b=some v0) (o:look aa t1=some (.pointer (some c))) (i:h2 d1=false) (k:w.cell? c=some v1):
 ∀a,cG aa n a->(results fn a.tmps).run P w= .ok (.tuple #[v0,v1]) w:=λa d=>by
 simp [results,l,asAddr,loadVar,d.get _ _ m,kr p.h,g,d.get _ _ o,kr q.h,i,j,k]
theorem vG{P:Program}{n:Nat}{aa:Env}{w:World}{fn:Func}{t0 f:Nat}{c:Addr}{v0:Value}{d0:TypeDesc}[u:bC P f d0]{t1 g:Nat}{d:Addr}{v1:Value}{d1:TypeDesc}[v:bC P g d1]{t2 i:Nat}{e:Addr}{v2:Value}{d2:TypeDesc}[x:bC P i d2]
 (q:fn.results= #[.cell t0 f,.cell t1 g,.cell t2 i]) (r:look aa t0=some (.pointer (some c))) (j:h2 d0=false) (m:w.cell? c=some v0) (s:look aa t1=some (.pointer (some d))) (k:h2 d1=false) (o:w.cell? d=some v1) (t:look aa t2=some (.pointer (some e))) (l:h2 d2=false) (p:w.cell? e=some v2):
 ∀a,cG aa n a->(results fn a.tmps).run P w= .ok (.tuple #[v0,v1,v2]) w:=λa b=>by
 simp [results,q,asAddr,loadVar,b.get _ _ r,kr u.h,j,b.get _ _ s,kr v.h,k,b.get _ _ t,kr x.h,l,m,o,p]
class fj(P:Program)where
 k3:TypeId->Nat->Option Nat
 nN:TypeId->Nat
 xX:∀s f off,k3 s f=some off->po P s f off
 ptr:∀t,nN t=1->∃e,P.underlying t=some (.pointer e)
 vM:∀t,nN t=2->∃e,P.underlying t=some (.slice e)
 be:∀t,nN t=3->P.underlying t=some .bool
 one:TypeId->Bool
 vr:∀t,one t=true->∃d,P.underlying t=some d/\h2 d=false
 p8:FuncId->Bool
 uv:∀f,p8 f=true->Entry P f
def la{α:Type}:List (Nat×α)->Nat->Option α
 |[],_=>none
 |(k,v)::r,t=>match Nat.beq k t with
  |true=>some v
  |false=>la r t
theorem la.mem{α:Type}:∀{l:List (Nat×α)}{t:Nat}{v:α},la l t=some v->(t,v)∈l
 |[],_,_,h=>by cases h
 |(k,u)::r,t,v,h=>by
  simp only [la] at h
  split at h
  .rename_i a
   cases h
   rw [<-iM a]
   exact of
  .exact lr _ (la.mem h)
def uF(P:Program)(s f off:Nat):Bool:=match P.underlying s with
 |some (.struct gD)=>match gD[f]? with
  |some x=>Nat.beq x.offset off&&((P.info? x.type).map (·.size)).any (·!=0)
  |none=>false
 |_=>false
theorem DR{P:Program}{s f off:Nat}(h:uF P s f off=true):po P s f off:=by
 unfold uF at h
 split at h
 .rename_i gD hu
  split at h
  .rename_i x a
   simp only [d8] at h
   exact⟨gD,x,hu,a,iM h.1,h.2⟩
  .cases h
 .cases h
def qn(P:Program)(t k:Nat):Bool:=match P.underlying t with
 |some (.pointer _)=>Nat.beq k 1
 |some (.slice _)=>Nat.beq k 2
 |some .bool=>Nat.beq k 3
 |_=>false
theorem uW{P:Program}{t k:Nat}(h:qn P t k=true):(k=1/\∃e,P.underlying t=some (.pointer e))\/(k=2/\∃e,P.underlying t=some (.slice e))\/(k=3/\P.underlying t=some .bool):=by
 unfold qn at h
 split at h
 .rename_i e he;exact .inl ⟨iM h,e,he⟩
 .rename_i e he;exact .inr (.inl ⟨iM h,e,he⟩)
 .rename_i he;exact .inr (.inr ⟨iM h,he⟩)
 .cases h
def uX(K:List (Nat×Nat))(t:Nat):Nat:=match la K t with
 |some k=>k
 |none=>0
theorem uY{P:Program}{K:List (Nat×Nat)}(h:(K.all λe=>qn P e.1 e.2)=true){t k:Nat}(a:uX K t=k)(ad:k≠0):qn P t k=true:=by
 unfold uX at a
 split at a
 .rename_i u hu
  subst a
  exact jQ.1 h _ (la.mem hu)
 .exact absurd a.symm ad
def zf(P:Program)(t:Nat):Bool:=match P.underlying t with
 |some d=> !h2 d
 |none=>false
def l9:List Nat->Nat->Bool
 |[],_=>false
 |k::r,t=>match Nat.beq k t with
  |true=>true
  |false=>l9 r t
theorem l9.mem:∀{l:List Nat}{t:Nat},l9 l t=true->t∈l
 |[],_,h=>by cases h
 |k::r,t,h=>by
  simp only [l9] at h
  split at h
  .rename_i a;rw [<-iM a];exact of
  .exact lr _ (l9.mem h)
def uu(P:Program)(f:Nat):Bool:=match P.funcs[f]? with
 |some fn=> !(fn.name== "runtime.NumGoroutine")&& !fn.body.isNone
 |none=>false
theorem DA{P:Program}{f:Nat}(h:uu P f=true):Entry P f:=by
 unfold uu at h
 split at h
 .rename_i fn bx
  simp only [d8,kc] at h
  exact⟨fn,bx,h.1,h.2⟩
 .cases h
@[reducible] def fj.make(P:Program)(F:List (Nat×List (Nat×Nat)))(K:List (Nat×Nat))(O:List Nat)(B:Nat)(X:List Nat)(h:((F.all λe=>e.2.all λp=>uF P e.1 p.1 p.2)&&(K.all λe=>qn P e.1 e.2))=true)(i:(O.all λt=>zf P t)=true)(he:((List.range B).all λf=>l9 X f||uu P f)=true):fj P where
 p8 f:=Nat.blt f B&& !l9 X f
 uv f bx:=by
  simp only [d8,kc] at bx
  have c:=jQ.1 he f (mV.2 (by simpa [Nat.blt_eq] using bx.1))
  rw [bx.2,Bool.false_or] at c
  exact DA c
 one:=l9 O
 vr t a:=by
  have:=jQ.1 i _ (l9.mem a)
  unfold zf at this
  split at this
  .rename_i d g;exact⟨d,g,by simpa using this⟩
  .cases this
 k3 s f:=match la F s with
  |some l=>la l f
  |none=>none
 nN t:=uX K t
 xX s f off b:=by
  simp only [d8] at h
  split at b
  .rename_i l aM
   exact DR (jQ.1 (jQ.1 h.1 _ (la.mem aM)) _ (la.mem b))
  .cases b
 ptr t a:=by
  simp only [d8] at h
  rcases uW (uY h.2 a (by decide)) with⟨_,h⟩|⟨h,_⟩|⟨h,_⟩
  .exact h
  .exact absurd h (by decide)
  .exact absurd h (by decide)
 vM t a:=by
  simp only [d8] at h
  rcases uW (uY h.2 a (by decide)) with⟨h,_⟩|⟨_,h⟩|⟨h,_⟩
  .exact absurd h (by decide)
  .exact h
  .exact absurd h (by decide)
 be t a:=by
  simp only [d8] at h
  rcases uW (uY h.2 a (by decide)) with⟨h,_⟩|⟨h,_⟩|⟨_,h⟩
  .exact absurd h (by decide)
  .exact absurd h (by decide)
  .exact h
def w7(P:Program)[fj P](op:BinOp)(t:TypeId)(y:Operand):Value->Value->Option Value
 | .int k i,.int dj J=>match decide (k=dj) with
  |true=>evalBin op k i J
  |false=>none
 | .pointer p,.pointer none=>match Nat.beq (fj.nN P t) 1 with
  |true=>match y with
   | .const (.pointer none)=>match op with
    | .eql=>some (.bool p.isNone)
    | .neq=>some (.bool p.isSome)
    |_=>none
   |_=>none
  |false=>none
 | .bool a,.bool b=>match Nat.beq (fj.nN P t) 3 with
  |true=>match op with
   | .eql=>some (.bool (a==b))
   |_=>none
  |false=>none
 |_,_=>none
def vB(P:Program)[fj P](aa:Env):Op->Option Value
 | .move x=>bs aa x
 | .assign x=>bs aa x
 | .nilCheck x=>match bs aa x with
  |some (.pointer (some A))=>some (.pointer (some A))
  |_=>none
 | .fieldAddr s x f=>match fj.k3 P s f with
  |some off=>match bs aa x with
   |some (.pointer (some ⟨b,I,none⟩))=>some (.pointer (some ⟨b,I+off,none⟩))
   |_=>none
  |none=>none
 | .pick c x y=>match bs aa c with
  |some (.bool true)=>bs aa x
  |some (.bool false)=>bs aa y
  |_=>none
 | .extract x i=>match bs aa x with
  |some (.tuple U)=>U[i]?
  |_=>none
 | .unOp .not _ x=>match bs aa x with
  |some (.bool b)=>some (.bool (!b))
  |_=>none
 | .binOp op t x y _=>match bs aa x with
  |some u=>match bs aa y with
   |some v=>w7 P op t y u v
   |none=>none
  |none=>none
 | .call ⟨.builtin .len,args,a⟩=>match a.toList with
  |[t]=>match Nat.beq (fj.nN P t) 2 with
   |true=>match fo aa args.toList with
    |some [.slice _ l _]=>some (.int .i64 l)
    |_=>none
   |false=>none
  |_=>none
 |_=>none
theorem zB{P:Program}[j:fj P]{n:Nat}{aa:Env}{op:Op}{v:Value}(h:vB P aa op=some v):(∀c,op≠.defer c)/\∀(dst:Option Nat)(ty:TypeId)(pos:String)(after:Array Edge)(g:Option (Nat×Bool))(w:World)(a:Act),cG aa n a->(execOp a.eval ⟨dst,op,ty,pos,after,g⟩).run P w= .ok (.value v) w:=by
 unfold vB at h
 split at h
 .exact⟨(by intro c f;cases f),λ_ _ _ _ _ w a d=>A6 h a d⟩
 .exact⟨(by intro c f;cases f),λ_ _ _ _ _ w a d=>AV h a d⟩
 .split at h
  .rename_i i;cases h
   exact⟨(by intro c f;cases f),λ_ _ _ _ _ w a d=>A8 i a d⟩
  .cases h
 .split at h
  .rename_i bx
   split at h
   .rename_i i;cases h
    have:=fj.xX _ _ _ bx
    exact⟨(by intro c f;cases f),λ_ _ _ _ _ w a d=>AZ i a d⟩
   .cases h
  .cases h
 .split at h
  .rename_i f
   exact⟨(by intro c f;cases f),λ_ _ _ _ _ w a d=>Bc f h a d⟩
  .rename_i f
   exact⟨(by intro c f;cases f),λ_ _ _ _ _ w a d=>Bb f h a d⟩
  .cases h
 .split at h
  .rename_i i
   exact⟨(by intro c f;cases f),λ_ _ _ _ _ w a d=>AY i h a d⟩
  .cases h
 .split at h
  .rename_i i;cases h
   exact⟨(by intro c f;cases f),λ_ _ _ _ _ w a d=>A9 i a d⟩
  .cases h
 .split at h
  .rename_i u i
   split at h
   .rename_i v2 k
    refine⟨(by intro c f;cases f),λdst ty pos after g w a d=>?_⟩
    unfold w7 at h
    split at h
    .split at h
     .rename_i ad
      have ad:=br ad
      subst ad
      exact dr i k h a d
     .cases h
    .rename_i p
     split at h
     .rename_i ad
      obtain⟨e,he⟩:=j.ptr _ (iM ad)
      split at h
      .split at h
       .cases h
        simp only [execOp,d.eval i,eval_const,Cz,dR,zW he,dU,ee]
       .cases h
        cases p<;>simp only [execOp,d.eval i,eval_const,CB,dR,zW he,dU,ee]<;>rfl
       .cases h
      .cases h
     .cases h
    .rename_i ax aJ
     split at h
     .rename_i ad
      have hu:=j.be _ (iM ad)
      split at h
      .cases h
       have l:∀t x y a b,(do eqGuard .eql t x y (.bool a) (.bool b);binOp .eql t (.bool a) (.bool b))=(do pure (.bool (<-Op.equal t (.bool a) (.bool b))):Sem Value):=λ_ _ _ _ _=>rfl
       have m:(Op.equal _ (.bool ax) (.bool aJ)).run P w= .ok (ax==aJ) w:=run_equalIn_bool hu ax aJ w 9999
       simp only [execOp,d.eval i,d.eval k,l,dR,m,dU,ee]
      .cases h
     .cases h
    .cases h
   .cases h
  .cases h
 .split at h
  .rename_i t o
   split at h
   .rename_i ad
    obtain⟨e,he⟩:=j.vM _ (iM ad)
    have hu:bC P t (.slice e):=⟨he⟩
    split at h
    .rename_i i;cases h
     refine⟨(by intro c f;cases f),λdst ty pos after g w a d=>A3 (e:=e) (t:=t) ?_ i a d⟩
     exact fu o
    .cases h
   .cases h
  .cases h
 .cases h
def sA(n:Fr)(aa:Env):Option Nat->Value->Option Env
 |some d,v=>match Nat.blt d n.n with
  |true=>some ((d,v)::aa)
  |false=>none
 |none,_=>some aa
theorem sB{n:Fr}{aa dq:Env}{d:Option Nat}{v:Value}(h:sA n aa d v=some dq):c8 n d=true/\cF aa d v=dq:=by
 cases d with
 |none=>cases h;exact⟨j,j⟩
 |some d=>
  simp only [sA] at h
  split at h
  .rename_i a;cases h;exact⟨a,j⟩
  .cases h
def o9(P:Program)[fj P](n:Fr)(ops:Array Oper)(aa:Env)(I:Oper):Option Env:=match cW ops aa I.guard with
 |some true=>match vB P aa I.op with
  |some v=>sA n aa I.dst v
  |none=>none
 |some false=>sA n aa I.dst undef
 |none=>none
section
variable {P:Program} [fj P] {n:Fr} {aa dq:Env} {w:World} {Q:d5} {ops:Array Oper} {rest Iw:List Oper}
theorem Hm{I:Oper}(h:o9 P n ops aa I=some dq)(ad:O P n ops rest dq w Q):O P n ops (I::rest) aa w Q:=by
 unfold o9 at h
 split at h
 .rename_i d
  split at h
  .rename_i v i
   obtain⟨b,c⟩:=sB h
   obtain⟨e,f⟩:=zB (n:=n.n) i
   rw [<-c] at ad
   exact dO d b (λa g=>f I.dst I.type I.pos I.after I.guard w a g) ad (aP:=e)
  .cases h
 .rename_i d
  obtain⟨b,c⟩:=sB h
  rw [<-c] at ad
  exact Bq d b ad
 .cases h
def lf(ops:Array Oper):Array Bool->List Nat->Bool
 |_,[]=>true
 |l,i::r=>jW ops l i&&(Region.ready .any ops l).contains i&&lf ops (l.setIfInBounds i true) r
def qH(l:Array Bool):List Nat->Array Bool
 |[]=>l
 |i::r=>qH (l.setIfInBounds i true) r
def o2(P:Program)[fj P](n:Fr)(ops:Array Oper):List Nat->Env->Option Env
 |[],aa=>some aa
 |i::r,aa=>match ops[i]? with
  |some I=>match o9 P n ops aa I with
   |some dq=>o2 P n ops r dq
   |none=>none
  |none=>none
theorem Hn{a8:World->Prop}{k:Nat}{l:Array Bool}{i:Nat}{I:Oper}(f:ops[i]? =some I)(aM:calm ops=true)(bx:jW ops l i=true)(g:(Region.ready .any ops l).contains i=true)(h:o9 P n ops aa I=some dq)(e:a8 w)(ad:eJ P n ops a8 k (l.setIfInBounds i true) dq w (hV Q)):eJ P n ops a8 (k+1) l aa w (hV Q):=by
 unfold o9 at h
 split at h
 .rename_i d
  split at h
  .rename_i v o
   obtain⟨b,c⟩:=sB h
   obtain⟨p,j⟩:=zB (n:=n.n) o
   rw [<-c] at ad
   exact wg i f aM bx g d b e (λw _ a m=>j I.dst I.type I.pos I.after I.guard w a m) ad
  .cases h
 .rename_i d
  obtain⟨b,c⟩:=sB h
  rw [<-c] at ad
  exact Bk i f aM bx g d b e ad
 .cases h
theorem tf{a8:World->Prop}(aM:calm ops=true)(b:a8 w):∀(is:List Nat){m k:Nat}{l:Array Bool}{aa:Env},Nat.beq is.length m=true->lf ops l is=true->o2 P n ops is aa=some dq->eJ P n ops a8 k (qH l is) dq w (hV Q)->eJ P n ops a8 (k+m) l aa w (hV Q)
 |[],m,k,l,aa,hm,_,h,ad=>by
  have:m=0:=(iM hm).symm
  subst this
  cases h
  exact ad
 |i::r,m,k,l,aa,hm,a,h,ad=>by
  have hm:=iM hm
  simp only [ep] at hm
  subst hm
  simp only [lf,d8] at a
  simp only [o2] at h
  split at h
  .rename_i I d
   split at h
   .rename_i s1 e
    have c:=tf aM b r (m:=r.length) (k:=k) (Nat.beq_refl _) a.2 h ad
    exact Hn d aM a.1.1 a.1.2 e b c
   .cases h
  .cases h
theorem fM(m:Nat)(is:List Nat){a8:World->Prop}{k:Nat}{l:Array Bool}(c:o2 P n ops is aa=some dq)(b:a8 w)(h:eJ P n ops a8 k (qH l is) dq w (hV Q))(a:(calm ops&&Nat.beq is.length m&&lf ops l is)=true:=by kernel_rfl):eJ P n ops a8 (k+m) l aa w (hV Q):=by
 simp only [d8] at a
 exact tf a.1.1 b is a.1.2 a.2 c h
theorem eI(i:Nat){I:Oper}{v:Value}{a8:World->Prop}{k:Nat}{l:Array Bool}(f:ops[i]? =some I)(c:a8 w)
 (g:∀w,a8 w->∀a,cG aa n.n a->(execOp a.eval I).run P w= .ok (.value v) w) (h:eJ P n ops a8 k (l.setIfInBounds i true) (cF aa I.dst v) w (hV Q)) (e:cW ops aa I.guard=some true:=by rfl) (d:c8 n I.dst=true:=by rfl) (b:(calm ops&&lf ops l [i])=true:=by kernel_rfl):eJ P n ops a8 (k+1) l aa w (hV Q):=by
 simp only [lf,d8] at b
 exact wg i f b.1 b.2.1.1 b.2.1.2 e d c g h
theorem dZ(i:Nat){I:Oper}{a8:World->Prop}{k:Nat}{l:Array Bool}(a:ops[i]? =some I)
 (h:O P n ops [I] aa w (λe aa w=>match e with| .normal=>a8 w/\eJ P n ops a8 k (l.setIfInBounds i true) aa w Q|_=>False)) (b:Region.ready .any ops l=[i]:=by kernel_rfl):eJ P n ops a8 (k+1) l aa w Q:=we i a b h
theorem jZ(i:Nat){I:Oper}{a8:World->Prop}{k:Nat}{l:Array Bool}(a:ops[i]? =some I)
 (h:O P n ops [I] aa w (λe aa w=>match e with| .normal=>eJ P n ops a8 k (l.setIfInBounds i true) aa w Q|_=>False)) (c:Region.ready .any ops l=[i]:=by kernel_rfl) (b:lI ops i=true:=by kernel_rfl):eJ P n ops a8 (k+1) l aa w Q:=wd i a c b h
end
theorem bR{a b:Nat}(h:Nat.ble a b=true:=by rfl):a<=b:=og h
theorem CI{P:Program}{f:FuncId}{fn:Func}{c:Code}(l:List Value){w:World}{ak:Value->World->Prop}{n:Nat}{rs:Array ResultVar}
 (bx:P.funcs[f]? =some fn) (aP:fn.ntmps=n) (d:fn.results=rs)
 (h:W P {n:=n} c (kE 0 l) w (Leaves rs ak)) (a:fn.body=some c:=by rfl) (b:Nat.ble l.length n=true:=by rfl):Calls P f l.toArray w (aS ak):=CJ bx a aP d (og b) h
abbrev Z(b:Nat):Value:=.pointer (some ⟨b,0,none⟩)
abbrev R(b:Nat)(c:Array Value)(t:TypeId):List Chunk:=[(b,.cells c t (0,0))]
inductive K where
 |base (Q:d5)
 |s (c:Code) (k:K)
 |b (id:Nat) (k:K)
 |l (N:Env->World->Prop) (k:K)
abbrev Fb(N:Env->World->Prop)(Q:d5):d5:=λe aa w=>match e with
 | .normal=>N aa w
 |e=>Q e aa w
def den(P:Program)(F:Fr):K->d5
 | .base Q=>Q
 | .s y k=>As P F y (den P F k)
 | .b i k=>uU i (den P F k)
 | .l N k=>Fb N (den P F k)
structure ig where
 ops:Array Oper
 todo:List Oper
 k:K
 aa:Env
abbrev G(P:Program)(F:Fr)(c:ig)(w:World):Prop:=O P F c.ops c.todo c.aa w (den P F c.k)
def nV:K->K
 | .b _ k=>nV k
 |k=>k
def ll(i:Nat):K->Option K
 | .s _ k=>ll i k
 | .l _ k=>ll i k
 | .b id k=>match Nat.beq i id with
  |true=>some k
  |false=>ll i k
 | .base _=>none
def bot:K->d5
 | .base Q=>Q
 | .s _ k=>bot k
 | .l _ k=>bot k
 | .b _ k=>bot k
def iG(P:Program)[fj P](F:Fr):ig->Option ig
 |⟨ops,I::r,k,aa⟩=>match o9 P F ops aa I with
  |some dq=>some ⟨ops,r,k,dq⟩
  |none=>none
 |⟨_,[],k,aa⟩=>match nV k with
  | .s (.seq a b) k=>some ⟨#[],[],.s a (.s b k),aa⟩
  | .s (.block i a) k=>some ⟨#[],[],.s a (.b i k),aa⟩
  | .s .skip k=>some ⟨#[],[],k,aa⟩
  | .s (.exit i) k=>match ll i k with
   |some k=>some ⟨#[],[],k,aa⟩
   |none=>none
  | .s (.region _ l false) k=>some ⟨l,l.toList,k,aa⟩
  | .s (.cond x a b) k=>match bs aa x with
   |some (.bool true)=>some ⟨#[],[],.s a k,aa⟩
   |some (.bool false)=>some ⟨#[],[],.s b k,aa⟩
   |_=>none
  |_=>none
def run(P:Program)[fj P](F:Fr):Nat->ig->Option ig
 |0,c=>some c
 |n+1,c=>match iG P F c with
  |some c=>run P F n c
  |none=>none
section
variable {P:Program} {n:Fr} {aa dq:Env} {w:World} {Q:d5} {ops hA:Array Oper} {todo hQ:List Oper} {k dj:K}
theorem sc{Q hH:d5}{e gY:Exit}{a:Act}{o:World}(h:∀aa,Q e aa w->hH gY aa w)(b:lift n o Q e a w):lift n o hH gY a w:=
 let⟨k,m,aa,d,c⟩:=b
 ⟨k,m,aa,d,h aa c⟩
theorem jh{c:Code}(h:O P n ops [] aa w (den P n (.s c k))):W P n c aa w (den P n k):=λa b hm=>
 let⟨_,m,_,d,hw⟩:=h a b hm
 hw a d m
theorem HV{c:Code}(h:W P n c aa w (den P n k)):O P n ops [] aa w (den P n (.s c k)):=an h
theorem Bw{Q hH:d5}(c:∀aa,Q .normal aa w->hH .normal aa w)(h:O P n hA [] aa w Q):O P n ops [] aa w hH:=λa b hm=>sc c (h a b hm)
theorem sx:∀(k:K){aa:Env}{w:World},den P n (nV k) .normal aa w->den P n k .normal aa w
 | .b _ k,_,_,h=>sx k h
 | .base _,_,_,h=>h
 | .s _ _,_,_,h=>h
 | .l _ _,_,_,h=>h
theorem qU{i:Nat}:∀(k:K){dj:K},ll i k=some dj->∀{aa:Env}{w:World},den P n dj .normal aa w->den P n k (.exit i) aa w
 | .s _ k,_,h,_,_,ad=>qU k h ad
 | .l _ k,_,h,_,_,ad=>qU k h ad
 | .b id k,dj,h,aa,w,ad=>by
  show(match Nat.beq i id with|true=>den P n k .normal aa w|false=>den P n k (.exit i) aa w)
  simp only [ll] at h
  split at h
  .cases h;exact ad
  .exact qU k h ad
 | .base _,_,h,_,_,_=>by cases h
theorem p3:∀(k:K){aa:Env}{w:World},bot k .ret aa w->den P n k .ret aa w
 | .s _ k,_,_,h=>p3 k h
 | .l _ k,_,_,h=>p3 k h
 | .b _ k,_,_,h=>p3 k h
 | .base _,_,_,h=>h
theorem su{i:Nat}:∀(k:K),ll i k=none->∀{aa:Env}{w:World},bot k (.exit i) aa w->den P n k (.exit i) aa w
 | .s _ k,h,_,_,ad=>su k h ad
 | .l _ k,h,_,_,ad=>su k h ad
 | .b id k,h,aa,w,ad=>by
  show(match Nat.beq i id with|true=>den P n k .normal aa w|false=>den P n k (.exit i) aa w)
  simp only [ll] at h
  split at h
  .cases h
  .exact su k h ad
 | .base _,_,_,_,h=>h
theorem lz{c:Code}{a:K}(b:nV k= .s c a)(h:W P n c aa w (den P n a)):O P n ops [] aa w (den P n k):=
 Bw (λ_ d=>sx k (by rw [b];exact d)) (HV (ops:= #[]) h)
variable [fj P]
theorem Fs{c g:ig}(h:iG P n c=some g)(d:G P n g w):G P n c w:=by
 obtain⟨ops,todo,k,aa⟩:=c
 cases todo with
 |cons I r=>
  simp only [iG] at h
  split at h
  .rename_i s1 aM
   cases h
   exact Hm aM d
  .cases h
 |nil=>
  simp only [iG] at h
  split at h
  .rename_i b;cases h
   exact lz b (wx (jh d))
  .rename_i b;cases h
   exact lz b (BA (jh d))
  .rename_i b;cases h
   exact lz b (λa e hm=>wpIn_skip (d a e hm))
  .rename_i b
   split at h
   .rename_i hu;cases h
    exact lz b (λa e hm=>wpIn_exit (sc (λ_ i=>qU _ hu i) (d a e hm)))
   .cases h
  .rename_i id l m b;cases h
   have:=BG (id:=id) (l:=l.toList) (P:=P) (n:=n) (aa:=aa) (w:=w) (Q:=den P n m) (by simpa [G] using d)
   exact lz b (by simpa using this)
  .rename_i b
   split at h
   .rename_i f;cases h
    exact lz b (wv f j (jh d))
   .rename_i f;cases h
    exact lz b (wu f j (jh d))
   .cases h
  .cases h
theorem nj:∀(m:Nat){c a:ig},run P n m c=some a->G P n a w->G P n c w
 |0,_,_,h,b=>by cases h;exact b
 |m+1,c,a,h,b=>by
  simp only [run] at h
  split at h
  .rename_i hm;exact Fs hm (nj m h b)
  .cases h
theorem ar(m:Nat)(h:run P n m ⟨ops,todo,k,aa⟩=some ⟨hA,hQ,dj,dq⟩)(ad:O P n hA hQ dq w (den P n dj)):O P n ops todo aa w (den P n k):=nj m h ad
def next(P:Program)[fj P](F:Fr)(m:Nat)(c:ig):Option (Code×K×Env):=match run P F m c with
 |some ⟨_,[],k,aa⟩=>match nV k with
  | .s c k=>some (c,k,aa)
  |_=>none
 |_=>none
theorem ko{m:Nat}{c:ig}{x:Code}(h:next P n m c=some (x,k,aa))(a:W P n x aa w (den P n k)):G P n c w:=by
 unfold next at h
 split at h
 .rename_i d
  split at h
  .rename_i b;cases h
   exact nj m d (lz b a)
  .cases h
 .cases h
theorem aT(m:Nat){x y:Code}{c:Operand}{b:Bool}(h:next P n m ⟨ops,todo,k,aa⟩=some (.cond c x y,dj,dq))(a:bs dq c=some (.bool b))
 (d:b=true->O P n #[] [] dq w (den P n (.s x dj))) (bx:b=false->O P n #[] [] dq w (den P n (.s y dj))):O P n ops todo aa w (den P n k):=
 ko h (tu a (λe=>jh (d e)) (λe=>jh (bx e)))
theorem md(m:Nat){x y:Code}{c:Operand}{b:Bool}(h:next P n m ⟨ops,todo,k,aa⟩=some (.cond c x y,dj,dq))(d:bs dq c=some (.bool b))(a:b=true)
 (e:O P n #[] [] dq w (den P n (.s x dj))):O P n ops todo aa w (den P n k):=ko h (wv d a (jh e))
theorem iW(m:Nat){x y:Code}{c:Operand}{b:Bool}(h:next P n m ⟨ops,todo,k,aa⟩=some (.cond c x y,dj,dq))(d:bs dq c=some (.bool b))(a:b=false)
 (bx:O P n #[] [] dq w (den P n (.s y dj))):O P n ops todo aa w (den P n k):=ko h (wu d a (jh bx))
theorem cY(m:Nat){cA:Type}{c:Code}(h:next P n m ⟨ops,todo,k,aa⟩=some (.loop c,dj,dq))(S:cA->Env)(a:cA->World->Prop)(b:cA->Nat)(i:cA)(aM:sub dq (S i))(d:a i w)
 (round:∀i w,a i w->O P n #[] [] (S i) w (den P n (.s c (.l (λaa w=>∃J,sub aa (S J)/\a J w/\b J<b i) dj)))):O P n ops todo aa w (den P n k):=
 ko h (BE S a b i aM d λi w e=>jh (k:=.l _ _) (round i w e))
theorem mc [q5 P](m:Nat){id:Nat}{os:Array Oper}(h:next P n m ⟨ops,todo,k,aa⟩=some (.region id os true,dj,dq))(a8:World->Prop)
 (a:eJ P n os a8 os.size (Array.replicate os.size false) dq w.drew (hV (den P n dj))):O P n ops todo aa w (den P n k):=ko h (BC a8 a)
theorem nb(m:Nat){x y:Code}(h:next P n m ⟨ops,todo,k,aa⟩=some (.seq x y,dj,dq))(M:Env->World->Prop)
 (a:O P n #[] [] dq w (den P n (.s x (.l M dj)))) (b:∀aa w,M aa w->O P n #[] [] aa w (den P n (.s y dj))):O P n ops todo aa w (den P n k):=
 ko h (BB M (jh (k:=.l _ _) a) λaa w hm=>jh (b aa w hm))
def wV(P:Program)[fj P](F:Fr)(m:Nat)(c:ig):Option ((Env->World->Prop)×Env):=match run P F m c with
 |some ⟨_,[],k,aa⟩=>match nV k with
  | .l N _=>some (N,aa)
  |_=>none
 |_=>none
theorem bX(m:Nat){N:Env->World->Prop}(h:wV P n m ⟨ops,todo,k,aa⟩=some (N,dq))(aP:N dq w):O P n ops todo aa w (den P n k):=by
 unfold wV at h
 split at h
 .rename_i b
  split at h
  .rename_i a;cases h
   exact nj m b (an (sx _ (by rw [a];exact aP)))
  .cases h
 .cases h
def t3(P:Program)[fj P](F:Fr)(m:Nat)(c:ig):Option (Exit×d5×Env):=match run P F m c with
 |some ⟨_,[],k,aa⟩=>match nV k with
  | .base Q=>some (.normal,Q,aa)
  | .s .ret k=>some (.ret,bot k,aa)
  | .s (.exit i) k=>match ll i k with
   |none=>some (.exit i,bot k,aa)
   |some _=>none
  |_=>none
 |_=>none
theorem bJ(m:Nat){e:Exit}(h:t3 P n m ⟨ops,todo,k,aa⟩=some (e,Q,dq))(b:Q e dq w):O P n ops todo aa w (den P n k):=by
 unfold t3 at h
 split at h
 .rename_i c
  split at h
  .rename_i a;cases h
   exact nj m c (an (sx _ (by rw [a];exact b)))
  .rename_i a;cases h
   exact nj m c (lz a (BH (p3 _ b)))
  .rename_i a
   split at h
   .rename_i hu;cases h
    exact nj m c (lz a (BD (su _ hu b)))
   .cases h
  .cases h
 .cases h
theorem ao(m:Nat){e:Exit}{rs:Array ResultVar}{ak:Value->World->Prop}{v:Value}(h:t3 P n m ⟨ops,todo,k,aa⟩=some (e,Leaves rs ak,dq))(b:qE dq rs=some v)(a:ak v w)
 (he:(match e with| .normal| .ret=>true|_=>false)=true:=by rfl):O P n ops todo aa w (den P n k):=
 bJ m h (by cases e<;>first|exact⟨v,b,a⟩|cases he)
theorem vJ{m:Nat}{c:ig}{I:Oper}{r:List Oper}(h:run P n m c=some ⟨ops,I::r,k,aa⟩)(a:O P n ops (I::r) aa w (den P n k)):G P n c w:=nj m h a
def wU(P:Program)[fj P](F:Fr)(m:Nat)(c:ig):Option (Addr×Option Nat×ig):=match run P F m c with
 |some ⟨ops,⟨dst,.load t x,_,_,_,g⟩::r,k,aa⟩=>match fj.one P t with
  |true=>match cW ops aa g with
   |some true=>match c8 F dst with
    |true=>match bs aa x with
     |some (.pointer (some A))=>some (A,dst,⟨ops,r,k,aa⟩)
     |_=>none
    |false=>none
   |_=>none
  |false=>none
 |_=>none
theorem au(m:Nat){A:Addr}{dst:Option Nat}{v:Value}(h:wU P n m ⟨ops,todo,k,aa⟩=some (A,dst,⟨hA,hQ,dj,dq⟩))(g:w.cell? A=some v)
 (ad:O P n hA hQ (cF dq dst v) w (den P n dj)):O P n ops todo aa w (den P n k):=by
 unfold wU at h
 split at h
 .rename_i j
  split at h
  .rename_i a
   split at h
   .rename_i b
    split at h
    .rename_i c
     split at h
     .rename_i e
      cases h
      obtain⟨d,i,f⟩:=fj.vr _ a
      have:bC P _ d:=⟨i⟩
      exact vJ j (n7 b c e f g ad)
     .cases h
    .cases h
   .cases h
  .cases h
 .cases h
def tY(P:Program)[fj P](F:Fr)(m:Nat)(c:ig):Option (FuncId×List Value×Option Nat×ig):=match run P F m c with
 |some ⟨ops,⟨dst,.call ⟨.value (.func f),args,_⟩,_,_,_,g⟩::r,k,aa⟩=>match cW ops aa g with
  |some true=>match c8 F dst with
   |true=>match fj.p8 P f with
    |true=>match fo aa args.toList with
     |some U=>some (f,U,dst,⟨ops,r,k,aa⟩)
     |_=>none
    |false=>none
   |false=>none
  |_=>none
 |_=>none
theorem bm(m:Nat){f:FuncId}{dst:Option Nat}{U:List Value}{ak:Value->World->Prop}(e:Calls P f U.toArray w ak)(h:tY P n m ⟨ops,todo,k,aa⟩=some (f,U,dst,⟨hA,hQ,dj,dq⟩))
 (ad:∀v aI,ak v aI->O P n hA hQ (cF dq dst v) aI (den P n dj)):O P n ops todo aa w (den P n k):=by
 unfold tY at h
 split at h
 .rename_i g
  split at h
  .rename_i b
   split at h
   .rename_i c
    split at h
    .rename_i a
     split at h
     .rename_i d
      cases h
      have:=fj.uv _ a
      exact vJ g (wi b c d e ad)
     .cases h
    .cases h
   .cases h
  .cases h
 .cases h
def m0(P:Program)[fj P](F:Fr)(m:Nat)(c:ig):Option (Op×Option Nat×ig):=match run P F m c with
 |some ⟨ops,⟨dst,I,_,_,_,g⟩::r,k,aa⟩=>match cW ops aa g with
  |some true=>match c8 F dst with
   |true=>some (I,dst,⟨ops,r,k,aa⟩)
   |false=>none
  |_=>none
 |_=>none
theorem oD{m:Nat}{c:ig}{I:Op}{dst:Option Nat}(h:m0 P n m c=some (I,dst,⟨ops,todo,k,aa⟩))(ad:∀ty pos after g,cW ops aa g=some true->c8 n dst=true->O P n ops (⟨dst,I,ty,pos,after,g⟩::todo) aa w (den P n k)):G P n c w:=by
 unfold m0 at h
 split at h
 .rename_i d
  split at h
  .rename_i a
   split at h
   .rename_i b
    cases h
    exact vJ d (ad _ _ _ _ a b)
   .cases h
  .cases h
 .cases h
variable {o:World} {F:List Nat} {ae:List (List Chunk)} {dst:Option Nat} {v:Value}
theorem bP(m:Nat){t:TypeId}{x:Operand}(a:C o F ae w)(h:m0 P n m ⟨ops,todo,k,aa⟩=some (.box t x,dst,⟨hA,hQ,dj,dq⟩))(e:bs dq x=some v)
 (ad:∀b aI,C o F ([(b,.cells v.cells t (0,0))]::ae) aI->O P n hA hQ (cF dq dst (.pointer (some ⟨b,0,none⟩))) aI (den P n dj)):O P n ops todo aa w (den P n k):=
 oD h λ_ _ _ _ d c=>lp a d c e ad
theorem cn(m:Nat){t:TypeId}{z:Value}{size bytes:Nat}[e:cq P t z size bytes](a:C o F ae w)(h:m0 P n m ⟨ops,todo,k,aa⟩=some (.alloc t,dst,⟨hA,hQ,dj,dq⟩))
 (ad:∀b aI,C o F ([(b,.cells z.cells t (0,0))]::ae) aI->O P n hA hQ (cF dq dst (.pointer (some ⟨b,0,none⟩))) aI (den P n dj)):O P n ops todo aa w (den P n k):=
 oD h λ_ _ _ _ d c=>en a d c ad
theorem dD(m:Nat){t:TypeId}{x y:Operand}{z:Value}{bytes:Nat}{b off:Nat}{c:Array Value}{e:TypeId}[l:cq P t z 1 bytes](a:C o F ([(b,.cells c e (0,0))]::ae) w)
 (h:m0 P n m ⟨ops,todo,k,aa⟩=some (.store t x y,none,⟨hA,hQ,dj,dq⟩)) (i:bs dq x=some (.pointer (some ⟨b,off,none⟩))) (j:bs dq y=some v) (g:v.oneCell'=true)
 (ad:∀aI,C o F ([(b,.cells (c.setIfInBounds off v) e (0,0))]::ae) aI->O P n hA hQ dq aI (den P n dj)) (d:Nat.ble (off+1) c.size=true:=by rfl):O P n ops todo aa w (den P n k):=
 oD h λ_ _ _ _ f _=>cC a f i j g (og d) ad
theorem cp(m:Nat){t:TypeId}{x y:Operand}{z:Value}{size bytes:Nat}{b off:Nat}{c:Array Value}{e:TypeId}{U:Array Value}[p:cq P t z size bytes](a:C o F ([(b,.cells c e (0,0))]::ae) w)
 (h:m0 P n m ⟨ops,todo,k,aa⟩=some (.store t x y,none,⟨hA,hQ,dj,dq⟩)) (j:bs dq x=some (.pointer (some ⟨b,off,none⟩))) (l:bs dq y=some (.agg U)) (i:U.toList.all (·.oneCell')=true) (g:U.size=size)
 (ad:∀aI,C o F ([(b,.cells (setCells c off U.toList) e (0,0))]::ae) aI->O P n hA hQ dq aI (den P n dj)) (d:Nat.ble (off+size) c.size=true:=by rfl):O P n ops todo aa w (den P n k):=
 oD h λ_ _ _ _ f _=>c5 a f j l i g (og d) ad
theorem bS(m:Nat){t:TypeId}{d:TypeDesc}{x:Operand}{A:Addr}{U:List Value}{z:Value}{size bytes:Nat}[hu:bC P t d][i:cq P t z size bytes]
 (h:m0 P n m ⟨ops,todo,k,aa⟩=some (.load t x,dst,⟨hA,hQ,dj,dq⟩)) (g:bs dq x=some (.pointer (some A))) (f:U.length=size) (b:Rd w (some A) U)
 (ad:O P n hA hQ (cF dq dst (.agg U.toArray)) w (den P n dj)) (a:h2 d=true:=by rfl):O P n ops todo aa w (den P n k):=
 oD h λ_ _ _ _ e c=>lZ e c g a f b ad
theorem bt(m:Nat){op:BinOp}{t f:TypeId}{x y:Operand}{cw:IntKind}{i J:Int}(h:m0 P n m ⟨ops,todo,k,aa⟩=some (.binOp op t x y f,dst,⟨hA,hQ,dj,dq⟩))(d:bs dq x=some (.int cw i))(e:bs dq y=some (.int cw J))(c:evalBin op cw i J=some v)
 (ad:O P n hA hQ (cF dq dst v) w (den P n dj)):O P n ops todo aa w (den P n k):=
 oD h λ_ _ _ _ b a=>Bn b a d e c ad
theorem cN{Q:d5}{rest:List Oper}{ty:TypeId}{pos:String}{after:Array Edge}{g:Option (Nat×Bool)}{f:FuncId}{e:Array TypeId}{args:Array Operand}{U:List Value}{ak:Value->World->Prop}(c:cW ops aa g=some true)(b:c8 n dst=true)
 (d:fo aa args.toList=some U) (a:Calls P f U.toArray w ak)
 (h:∀v aI,ak v aI->O P n ops rest (cF aa dst v) aI Q) (he:fj.p8 P f=true:=by rfl):O P n ops (⟨dst,.call ⟨.value (.func f),args,e⟩,ty,pos,after,g⟩::rest) aa w Q:=
 have:=fj.uv _ he
 wi c b d a h
end
theorem a1{P:Program}{f:FuncId}{fn:Func}{c:Code}(l:List Value){w:World}{ak:Value->World->Prop}{n:Nat}{rs:Array ResultVar}
 (bx:P.funcs[f]? =some fn) (aP:fn.ntmps=n) (d:fn.results=rs)
 (h:O P {n:=n} #[] [] (kE 0 l) w (den P {n:=n} (.s c (.base (Leaves rs ak))))) (a:fn.body=some c:=by rfl) (b:Nat.ble l.length n=true:=by rfl):Calls P f l.toArray w (aS ak):=CI l bx aP d (jh (k:=.base _) h) a b
theorem e7{P:Program}{f:FuncId}{fn:Func}{c:Code}(l:List Value){w:World}{ak:Value->World->Prop}{n:Nat}
 (bx:P.funcs[f]? =some fn) (aP:fn.ntmps=n)
 (h:O P {n:=n} #[] [] (kE 0 l) w (den P {n:=n} (.s c (.base (wa P n fn ak))))) (a:fn.body=some c:=by rfl) (b:Nat.ble l.length n=true:=by rfl):Calls P f l.toArray w (aS ak):=
 CK bx a aP (og b) (jh (k:=.base _) h)
theorem iq{P:Program}{f:FuncId}{fn:Func}{c:Code}(l:List Value){w:World}{ak:Value->World->Prop}{n:Nat}
 (bx:P.funcs[f]? =some fn) (aP:fn.ntmps=n)
 (h:O P {n:=n,m:=true,b:=w.heap.size} #[] [] (kE 0 l) w (den P {n:=n,m:=true,b:=w.heap.size} (.s c (.base (wb P n fn w.heap.size ak))))) (a:fn.body=some c:=by rfl) (d:Nat.ble l.length n=true:=by rfl):Calls P f l.toArray w ak:=
 CL bx a aP (og d) (jh (k:=.base _) h)
theorem cX{P:Program}{n:Fr}{aa:Env}{w:World}{ops:Array Oper}{b:K}{a8:World->Prop}{k:Nat}{l:Array Bool}(h:O P n #[] [] aa w (den P n b))(d:Region.ready .any ops l=[]:=by kernel_rfl):eJ P n ops a8 k l aa w (hV (den P n b)):=λa e hm=>by
 have c:=sc (hH:=hV (den P n b)) (gY:=.normal) (λ_ h=>h) (h a e hm)
 cases k with
 |zero=>exact⟨d,c⟩
 |succ k=>exact⟨λ_=>c,by rw [d];simp⟩
theorem jY{P:Program}[fj P](m:Nat){ops:Array Oper}{todo:List Oper}{k dj:K}{U:Env}{n:Fr}{aa:Env}{w:World}{α:Type}{g:Operand}{v:Array Tmp}{assign body:Code}(af:next P n m ⟨ops,todo,k,U⟩=some (.rangeFunc g v assign body,dj,aa)){B:FuncId}{bc:Array Value}[bx:Entry P B]
 {H ae:List (List Chunk)} {M:List (List Chunk)->World->Prop} {T:List (List Chunk)->Prop} {enc:α->Array Value} {A:List α->α->Prop} {S:List α->Prop} {o:World} {F:List Nat}
 (am:Iter P B bc H M T enc A S) (aP:n={n:=n.n,r:=none,m:=true,b:=n.b}) (an:n.b<=w.heap.size) (ag:C o F (H++ae) w)
 (al:bs aa g=some (.func (.func B) #[] bc)) (ap:∀x,(enc x).size=v.size) (ao:∀p∈v,Nat.blt p n.n=true)
 (f:List α->List (List Chunk)->Prop) (X:Exit->List (List Chunk)->Prop) (Y:f [] ae) (aj:∀L aI,C w [] [L] aI->M (ae++[L]) aI) (ai:∀pre ae L,f pre ae->T (ae++[L]))
 (round:∀(l:Nat)(pre:List α)(x:α)(t:List (List Chunk))(L:List Chunk)(c:World),A pre x->f pre t->C o F (H++(t++[L])) c->
  O P {n:=n.n,r:=some l} #[] [] ((v.toList.zip (enc x).toList).reverse++aa) c (den P {n:=n.n,r:=some l} (.s assign (.base (λe V R=>e= .normal/\∃u,C c (av t) u R/\
   ∀(L:List Chunk)(y:World),C o F (H++(u++[L])) y->O P {n:=n.n,r:=some l} #[] [] V y (den P {n:=n.n,r:=some l} (.s body (.base (λe _ aw=>∃z,C y (av u) z aw/\
    (match e with
     | .normal=>f (pre++[x]) z
     | .ret=>X .ret z
     | .exit id=>X (.exit id) z
     |_=>False))))))))))
 (done:∀xs fs aI,S xs->f xs fs->C o F (H++fs) aI->O P n #[] [] aa aI (den P n dj))
 (au:∀fs aI,X .ret fs->C o F (H++fs) aI->bot dj .ret aa aI)
 (ar:∀id fs aI,X (.exit id) fs->C o F (H++fs) aI->∃q,ll id dj=some q/\O P n #[] [] aa aI (den P n q)):O P n ops todo U w (den P n k):=by
 refine ko af ?_
 have key:W P n (.rangeFunc g v assign body) aa w (λe J aI=>J=aa/\(match e with| .normal=>O P n #[] [] aa aI (den P n dj)| .ret=>bot dj .ret aa aI| .exit id=>∃q,ll id dj=some q/\O P n #[] [] aa aI (den P n q)|_=>False)):=by
  refine BF am aP an ag al ap ao f X Y aj ai (λl pre x t L c D E i=>?_) (λxs ah c D E i=>⟨j,done xs ah c D E i⟩) (λe ah c he Q i=>?_)
  .refine ww (jh (k:=.base _) (round l pre x t L c D E i)) ?_
   rintro e V R ⟨he,u,Z,ab⟩
   exact⟨he,u,Z,λL y ac=>jh (k:=.base _) (ab L y ac)⟩
  .rcases he with rfl|⟨id,rfl⟩
   .exact⟨j,au ah c Q i⟩
   .exact⟨j,ar id ah c Q i⟩
 intro a ak hm
 refine kC (key a ak hm) λe N c⟨ad,I,J,G,aq,d⟩=>?_
 subst aq
 cases e with
 |normal=>exact lift.from ad (d N G I)
 |ret=>exact⟨ad,I,J,G,p3 _ d⟩
 |exit id=>
  obtain⟨q,hu,d⟩:=d
  exact lift.from ad (sc (λ_ h=>qU _ hu h) (d N G I))
 |goto l=>exact d.elim
 |panic gf=>exact d.elim
 |outgrown=>exact d.elim
end Go.Proofs.YtdcbpdlhhkcjnaaGreatDoor.R
