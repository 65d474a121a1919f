/- Part 0 of the proof. -/
import Derived.Deep.Matrix
import Derived.Deep.Quiet
import Derived.Ground.SlgmProg
import Derived.KernelRfl
import Derived.Laws.BytesArg
import Derived.Laws.Concat
import Derived.Laws.IdiomRangeMap
import Derived.Laws.MakeOwn
import Derived.Laws.Slices
import Derived.Laws.Strings3
import Derived.Laws.StructEq
import Derived.Lib.ConvBytes
import Derived.Lib.MakeNoZero
import Derived.MapKept
import Derived.Maps.RangeRun
import Derived.OpenShut
import Derived.OrdersIn
import Derived.ProofKit
import Derived.RangeFuncLeaves
import Derived.RangeFuncSeq
import Derived.Shelf.SlGeneric
import Derived.Shelf.SortM.Plain
import Derived.Shelf.SortM.SortNone
import Derived.SizedLaws
import Derived.Sort.OwnSortedInts
import Derived.Stop.BytesEq
import Derived.Test.YtdomoelfhjdioaaGreatDoorProg
import Derived.Test.YtdomoelfhjdioaaGreatDoorSy
import Derived.WalkKit
import Derived.WideShapes
set_option linter.defProp false
set_option linter.unusedVariables false
set_option linter.unusedSimpArgs false
set_option linter.unusedSectionVars false
set_option maxRecDepth 20000
set_option maxHeartbeats 4000000
namespace Go.Proofs.YtdomoelfhjdioaaGreatDoor.R
open Go.Proofs.Tryz Go Go.RowKit
def a6:=@if_pos
def aI:=@if_neg
def gv:=@Array.getElem?_eq_some_iff
def hz:=@Option.some.inj
def ly:=@Go.CallsIn.mono
def qa:=@Go.RoundIn.mono
def kH:=@Go.wpIn_mono
def kn:=@if_true
def nZ:=@Go.Oper.semAt_eq
def uc:=@Array.toArray_toList
def oH:=@Nat.lt_or_ge
def lv:=@List.getElem?_eq_none
def cD:=@Nat.le_refl
def kj:=@List.flatten_cons
def dw:=@List.mem_append
def jU:=@List.map_append
def iR:=@List.nodup_append
def dO:=@List.mem_map
def g9:=@List.flatten_append
def eh:=@Nat.le_trans
def t5:=@Nat.lt_of_lt_of_le
def rL:=@Array.getElem?_modify
def mc:=@List.eq_nil_of_length_eq_zero
def jD:=@List.getElem?_take
def b6:=@Nat.zero_le
def b4:=@List.length_append
def kk:=@Nat.mul_le_mul_right
def t6:=@Array.toList_append
def dF:=@List.append_assoc
def md:=@List.take_left
def rM:=@Nat.eq_zero_or_pos
def d7:=@Go.run_underlying
def fg:=@Nat.zero_add
def jV:=@List.nil_append
def m4:=@Nat.add_mul
def hy:=@List.size_toArray
def dQ:=@Go.Sem.run_bind
def dU:=@Go.Result.andThen_ok
def ei:=@Go.Sem.run_pure
def p8:=@Go.run_loadCells_list
def me:=@Go.run_program
def fC:=@Array.ext'
def hn:=@Array.toList_map
def oU:=@List.map_map
def p9:=@Array.empty_append
def ez:=@List.length_cons
def t7:=@List.zip_cons_cons
def cf:=@List.getElem?_eq_getElem
def lx:=@if_false
def gY:=@List.append_nil
def gk:=@List.length_nil
def oV:=@Nat.add_zero
def m5:=@List.take_append_drop
def d8:=@Bool.and_eq_true
def kl:=@List.any_eq_true
def dY:=@beq_iff_eq
def jW:=@List.all_eq_true
def m6:=@List.mem_range
def oW:=@Go.mem_ready
def oX:=@Decidable.em
def qb:=@Array.getD_eq_getD_getElem?
def t8:=@Array.getElem?_setIfInBounds_self_of_lt
def qc:=@Array.getElem?_setIfInBounds_ne
def m7:=@Bool.or_eq_true
def fT:=@List.mem_singleton
def mf:=@Go.IntKind.wrap_u8
def nX:=@BitVec.ofInt_natCast
def jE:=@Nat.mod_lt
def oY:=@UInt8.toNat_ofNat'
def t9:=@Int.fdiv_eq_ediv_of_nonneg
def lz:=@Go.IntKind.wrap_u64
def jX:=@Go.IntKind.wrap_i64
def aH:=@congrArg
def m8:=@BitVec.toNat_ofNat
def je:=@List.flatMap_cons
def km:=@List.drop_eq_getElem_cons
def qd:=@Nat.mod_eq_of_lt
def fu:=@List.take_succ_eq_append_getElem
def lA:=@List.getElem?_drop
def rN:=@Nat.add_assoc
def gZ:=@Nat.mul_one
def iT:=@List.length_drop
def lB:=@Int.toNat_natCast
def rO:=@Nat.mul_le_mul
def rP:=@Go.beq_toListBytes
def rQ:=@Nat.lt_trichotomy
def nY:=@List.getElem?_cons_succ
def rR:=@Array.ext_getElem?
def ua:=@Array.getElem?_eq_none
def m9:=@Bool.eq_iff_iff
def ub:=@List.map_congr_left
def g0:=@List.mem_cons
def na:=@List.getElem?_toArray
def jf:=@List.getElem?_append_right
def iC:=@List.getElem?_append_left
def nb:=@dif_pos
def ir:=@List.take_of_length_le
def eY:=@List.getElem?_eq_some_iff
def oZ:=@List.Perm.append_right
def lC:=@List.perm_append_comm
def rB:=@Go.World.putObj_heap_other
def l6:=@List.nodup_cons
def gN:=@List.getElem?_map
def hk:=@List.mem_of_getElem?
def l7:=@List.getElem?_of_mem
def oF:=@List.pairwise_iff_getElem
def mW:=@Go.MapKept.run_getObj_map
def rC:=@Go.MapKept.run_setObj_map
def oG:=@List.ext_getElem?
def pY:=@Array.getElem?_toList
def pZ:=@Go.MapKept.heap_set
def rD:=@Option.getD_none
def rE:=@Option.isSome_none
def l8:=@Option.getD_some
def oI:=@Option.isSome_some
def jd:=@List.mem_filter
def tR:=@List.pairwise_map
def hQ:=@List.foldl_cons
def oJ:=@Nat.zero_mul
def oK:=@List.Perm.refl
def oL:=@List.mem_cons_self
def lw:=@List.mem_cons_of_mem
def ki:=@Bool.not_eq_true'
def dj:=@of_decide_eq_true
def oM:=@Nat.le_of_ble_eq_true
def dN:=@of_decide_eq_false
def l9:=@List.range_succ
def tS:=@List.replicate_succ
def fB:=@List.length_map
def rF:=@List.drop_drop
def mX:=@Nat.min_eq_left
def gu:=@List.take_length
def fj:=@decide_eq_false
def hl:=@List.length_take
def nS:=@decide_eq_decide
def mY:=@decide_eq_false_iff_not
def gd:=@decide_eq_true_eq
def tT:=@List.drop_of_length_le
def ma:=@List.flatMap_append
def et:=@List.getElem_mem
def jT:=@List.map_cons
def rG:=@List.map_nil
def jC:=@decide_eq_true
def oN:=@Bool.false_and
def hR:=@List.length_mergeSort
def tU:=@List.pairwise_mergeSort
def oO:=@List.mergeSort_perm
def tV:=@List.map_mergeSort
def gO:=@List.mem_mergeSort
def ft:=@beq_eq_false_iff_ne
def mZ:=@List.filter_append
def oP:=@List.length_filter_le
def m0:=@List.mem_flatMap
def gX:=@Option.isSome_iff_exists
def p0:=@List.Perm.append_left
def p1:=@List.take_append
def tW:=@List.mem_of_mem_eraseIdx
def m1:=@List.flatten_nil
def ey:=@Nat.le_succ
def p2:=@Nat.succ_le_succ
def p3:=@List.filter_cons
def p4:=@List.exists_of_findSome?_eq_some
def p5:=@Int.toNat_of_nonneg
def rH:=@List.set_cons_zero
def oQ:=@List.mem_or_eq_of_mem_set
def hx:=@List.length_set
def rI:=@Int.le_trans
def rJ:=@List.any_append
def nT:=@List.foldl_append
def m2:=@List.mem_of_mem_take
def gG:=@Nat.le_add_right
def h6:=@Int.le_refl
def oR:=@List.length_zip
def tX:=@List.dropWhile_cons
def p6:=@List.length_eq_zero_iff
def nU:=@Bool.and_false
def mb:=@List.prefix_refl
def tY:=@List.set_append_right
def tZ:=@List.mem_iff_getElem
def p7:=@List.findIdx?_eq_some_iff_getElem
def rK:=@List.getElem_map
def oS:=@Go.Value.slice.injEq
def nV:=@List.getElem?_set_self
def nW:=@List.getElem?_set_ne
def iS:=@List.getD_eq_getElem?_getD
def oT:=@List.length_replicate
def t3:=@List.setIfInBounds_toArray
def t4:=@List.getElem_append_right
def m3:=@Go.DataW.trod_int
def j:=@rfl
def aY:=True.intro
abbrev Env:=List (Nat×Value)
def look:Env->Nat->Option Value
 |[],_=>none
 |(k,v)::r,t=>match Nat.beq k t with
  |true=>some v
  |false=>look r t
def bs(Z:Env):Operand->Option Value
 | .tmp t=>look Z t
 | .const v=>some v
 | .func f=>some (.func (.func f) #[] #[])
 | .global g=>some (.pointer (some ⟨g,0,none⟩))
def fr(Z:Env):List Operand->Option (List Value)
 |[]=>some []
 |x::r=>match bs Z x with
  |some v=>match fr Z r with
   |some U=>some (v::U)
   |none=>none
  |none=>none
structure cF(Z:Env)(n:Nat)(a:Act):Prop where
 size:a.tmps.size=n
 get:∀t v,look Z t=some v->a.tmps[t]? =some v
theorem cF.eval{Z:Env}{n:Nat}{a:Act}(h:cF Z n a){x:Operand}{v:Value}(b:bs Z x=some v):a.eval x=v:=by
 cases x with
 |tmp t=>
  have:=h.get t v b;simp [Act.eval,this]
 |const u=>simpa [bs,Act.eval] using b
 |global g=>simpa [bs,Act.eval] using b
 |func f=>simpa [bs,Act.eval] using b
theorem cF.hr{Z:Env}{n:Nat}{a:Act}(h:cF Z n a):∀{xs:List Operand}{U:List Value},fr Z xs=some U->xs.map a.eval=U:=by
 intro xs;induction xs with
 |nil=>intro U b;simp [fr] at b;simp [b]
 |cons x r e=>
  intro U b;simp only [fr] at b;split at b
  .rename_i v d;split at b
   .rename_i us c;cases b;simp [h.eval d,e c]
   .cases b
  .cases b
theorem iP{k t:Nat}(h:Nat.beq k t=true):k=t:=Nat.eq_of_beq_eq_true h
theorem wA{k t:Nat}(h:Nat.beq k t=false):k≠t:=Nat.ne_of_beq_eq_false h
theorem cF.put{Z:Env}{n:Nat}{a:Act}(h:cF Z n a){d:Nat}(c:Nat.blt d n=true)(v:Value):cF ((d,v)::Z) n (a.put (some d) v):=by
 have e:d<n:=by simpa [Nat.blt_eq] using c
 refine⟨by simp [Act.put,h.size],λt u hu=>?_⟩;simp only [look] at hu;simp only [Act.put,Array.getElem?_setIfInBounds];split at hu
 .rename_i b;cases hu;rw [a6 (iP b)];have:=iP b;subst this;simp [h.size,e]
 .rename_i b;rw [aI (wA b)];exact h.get t u hu
theorem cF.tell{Z:Env}{n:Nat}{a:Act}(h:cF Z n a){d:Nat}{v:Value}(c:look Z d=some v):cF ((d,v)::Z) n a:=by
 refine⟨h.size,λt u hu=>?_⟩;simp only [look] at hu;split at hu
 .rename_i b;cases hu;rw [<-iP b];exact h.get _ _ c
 .exact h.get _ _ hu
def sub(Z:Env):Env->Prop
 |[]=>True
 |(t,v)::r=>look Z t=some v/\sub Z r
theorem sub.look{Z:Env}:∀{a:Env},sub Z a->∀t v,look a t=some v->R.look Z t=some v:=by
 intro a;induction a with
 |nil=>intro _ t v h;simp [R.look] at h
 |cons c r d=>
  intro aL t v h;obtain⟨k,u⟩:=c;simp only [R.look] at h;split at h
  .rename_i b;cases h;rw [<-iP b];exact aL.1
  .exact d aL.2 t v h
theorem cF.wq{Z b:Env}{n:Nat}{a:Act}(h:cF Z n a)(aL:sub Z b):cF b n a:=
 ⟨h.size,λt v c=>h.get t v (aL.look t v c)⟩
abbrev d6:=Exit->Env->World->Prop
structure Fr where
 n:Nat
 r:Option Nat:=none
 m:Bool:=false
 b:Nat:=0
abbrev jR(r:Option Nat):Fence:={Fence.wide with round:=r}
def o7(D:Nat):Deferred:={target:=.collected D,args:= #[]}
def cT(w aK:World):Prop:=∀D:Nat,w.heap[D]? =some (.deferred (some []))->aK.heap[D]? =some (.deferred (some []))
theorem cT.refl(w:World):cT w w:=λ_ h=>h
theorem cT.trans{w a b:World}(h:cT w a)(k:cT a b):cT w b:=λD c=>k D (h D c)
theorem cT.drew(w:World):cT w w.drew:=λ_ h=>h
theorem qA(w:World)(I:Obj){k:Nat}(h:k<w.heap.size):(w.alloc I).heap[k]? =w.heap[k]? :=by
 show(w.heap.push I)[k]? =_;rw [Array.getElem?_push,aI (by omega)]
theorem cT.alloc(w:World)(I:Obj):cT w (w.alloc I):=λD a=>by
 rw [qA w I (gv.1 a).1];exact a
theorem cT.lm{w aK:World}{b:Nat}{I:Obj}(c:w.heap[b]? =some I)(d:I≠.deferred (some []))(aa:∀k,k≠b->aK.heap[k]? =w.heap[k]?):cT w aK:=λD a=>by
 rw [aa D (λe=>d (by subst e;rw [c] at a;exact hz a))];exact a
theorem cT.cells{w aK:World}{b:Nat}{c:Array Value}{e:TypeId}{f:Nat×Nat}(a:w.heap[b]? =some (.cells c e f))(aa:∀k,k≠b->aK.heap[k]? =w.heap[k]?):cT w aK:=cT.lm a (by simp) aa
theorem cT.grown{w aK:World}{b:Nat}{c:Array Value}{e:TypeId}{f:Nat×Nat}(d:w.heap[b]? =some (.cells c e f))(g:∀k,k<w.heap.size->k≠b->aK.heap[k]? =w.heap[k]?):cT w aK:=λD a=>by
 rw [g D (gv.1 a).1 (λh=>by subst h;rw [d] at a;cases a)];exact a
def Marks(F:Fr)(w:World)(c:List Deferred):Prop:=∃a:List Nat,c=a.map o7/\(F.m=false->a=[])/\a.Nodup/\∀D∈a,F.b<=D/\w.heap[D]? =some (.deferred (some []))
theorem Marks.fX{F:Fr}{w aK:World}{a:List Deferred}(h:Marks F w a)(k:cT w aK):Marks F aK a:=by
 obtain⟨d,e,f,g,b⟩:=h;exact⟨d,e,f,g,λD c=>⟨(b D c).1,k D (b D c).2⟩⟩
theorem Marks.nil(F:Fr)(w:World):Marks F w []:=⟨[],j,λ_=>rfl,List.nodup_nil,by simp⟩
def lift(F:Fr)(o:World)(Q:d6):Exit->Act->World->Prop:=λe a w=>cT o w/\Marks F w a.defers/\∃Z,cF Z F.n a/\Q e Z w
theorem lift.from{F:Fr}{o b:World}{Q:d6}(k:cT o b){e:Exit}{a:Act}{w:World}(h:lift F b Q e a w):lift F o Q e a w:=⟨k.trans h.1,h.2⟩
def W(P:Program)(F:Fr)(c:Code)(Z:Env)(w:World)(Q:d6):Prop:=∀a,cF Z F.n a->Marks F w a.defers->c.wpIn (jR F.r) 0 P (lift F w Q) a w
def O(P:Program)(F:Fr)(ops:Array Oper)(todo:List Oper)(Z:Env)(w:World)(Q:d6):Prop:=
 ∀a,cF Z F.n a->Marks F w a.defers->wpListIn (jR F.r) 0 P ops (lift F w Q) todo a w
theorem kW{F:Fence}{m:Nat}{P:Program}{ops:Array Oper}{Q hN:Exit->Act->World->Prop}(c:∀e a w,Q e a w->hN e a w):∀(l:List Oper)(a:Act)(w:World),wpListIn F m P ops Q l a w->wpListIn F m P ops hN l a w
 |[],a,w,h=>c _ _ _ h
 |I::l,a,w,h=>by
  unfold wpListIn at h⊢;split
  .rename_i hw;rw [a6 hw] at h;refine⟨h.1,?_⟩;have b:=h.2;cases d:(I.semAt F.round a.eval).run P w with
   |ok g i=>
    rw [d] at b
    cases g<;>first
     |exact kW c l _ _ b
     |exact b
     |exact⟨b.1,ly b.2 λe f he=>by
      cases e<;>first|exact kW c l _ _ he|exact c _ _ _ he|exact(let⟨a,w,h⟩:=he;⟨a,w,c _ _ _ h⟩)⟩
     |exact⟨b.1,RowsIn.mono b.2 λu f he=>kW c l _ _ he⟩
     |exact⟨b.1,qa b.2 λe f he=>by
      cases e<;>first|exact kW c l _ _ he|exact c _ _ _ he|exact(let⟨a,w,h⟩:=he;⟨a,w,c _ _ _ h⟩)⟩
   |halt j i=>rw [d] at b;cases j<;>first|exact b|exact c _ _ _ b
  .rename_i hw;rw [aI hw] at h;exact⟨h.1,kW c l _ _ h.2⟩
section
variable {P:Program} {n:Fr} {Z:Env} {w:World} {Q:d6}
theorem wR{c:Code}{hN:d6}(h:W P n c Z w hN)(d:∀e Z w,hN e Z w->Q e Z w):W P n c Z w Q:=
 λa b hm=>kH (h a b hm) λ_ _ _⟨k,m,i,g,f⟩=>⟨k,m,i,g,d _ _ _ f⟩
theorem l4{ops:Array Oper}{todo:List Oper}(b:Env)(aL:sub Z b)(h:O P n ops todo b w Q):O P n ops todo Z w Q:=λa c hm=>h a (c.wq aL) hm
abbrev AR(P:Program)(n:Fr)(y:Code)(Q:d6):d6:=λe Z w=>match e with
 | .normal=>W P n y Z w Q
 |e=>Q e Z w
theorem wS{x y:Code}(h:W P n x Z w (AR P n y Q)):W P n (.seq x y) Z w Q:=λa d hm=>
 wpIn_seq (kH (h a d hm) λe a i⟨k,m,g,c,b⟩=>by
  cases e<;>first|exact kH (b _ c m) (λ_ _ _ f=>lift.from k f)|exact⟨k,m,g,c,b⟩)
theorem B4{x y:Code}(M:Env->World->Prop)
 (h:W P n x Z w (λe Z w=>match e with| .normal=>M Z w|e=>Q e Z w)) (k:∀Z w,M Z w->W P n y Z w Q):W P n (.seq x y) Z w Q:=
 wS (wR h λe Z w a=>by cases e<;>first|exact k _ _ a|exact a)
abbrev vh(id:Nat)(Q:d6):d6:=λe Z w=>match e with
 | .exit i=>match Nat.beq i id with
  |true=>Q .normal Z w
  |false=>Q (.exit i) Z w
 |e=>Q e Z w
theorem B3{id:Nat}{c:Code}(h:W P n c Z w (vh id Q)):W P n (.block id c) Z w Q:=λa j hm=>
 wpIn_block (kH (h a j hm) λe a w⟨k,m,g,f,b⟩=>by
  cases e<;>try exact⟨k,m,g,f,b⟩
  rename_i i;simp only [vh] at b;simp only [Exit.inBlock];split at b
  ·rename_i d;rw [a6 (iP d)];exact⟨k,m,g,f,b⟩
  ·rename_i d;rw [aI (wA d)];exact⟨k,m,g,f,b⟩)
theorem Ca(h:Q .ret Z w):W P n .ret Z w Q:=λ_ a hm=>wpIn_ret ⟨cT.refl _,hm,Z,a,h⟩
theorem B6{id:Nat}(h:Q (.exit id) Z w):W P n (.exit id) Z w Q:=λ_ a hm=>wpIn_exit ⟨cT.refl _,hm,Z,a,h⟩
theorem tQ{c:Operand}{x y:Code}{b:Bool}(e:bs Z c=some (.bool b))(f:b=true->W P n x Z w Q)(br:b=false->W P n y Z w Q):
 W P n (.cond c x y) Z w Q:=λa d hm=>
 wpIn_cond_split (d.eval e) (λh=>f h a d hm) (λh=>br h a d hm)
theorem wQ{c:Operand}{x y:Code}{b:Bool}(d:bs Z c=some (.bool b))(a:b=true)(e:W P n x Z w Q):
 W P n (.cond c x y) Z w Q:=tQ d (λ_=>e) (λh=>by simp [a] at h)
theorem wP{c:Operand}{x y:Code}{b:Bool}(d:bs Z c=some (.bool b))(a:b=false)(br:W P n y Z w Q):
 W P n (.cond c x y) Z w Q:=tQ d (λh=>by simp [a] at h) (λ_=>br)
theorem IX{F:Fence}{m:Nat}{P:Program}{ct:Type}{c:Code}{Q:Exit->Act->World->Prop}{a:Act}{w:World}(g:ct->Act->World->Prop)(n:ct->Nat)(i:ct)(q:g i a w)
 (round:∀i a w,g i a w->c.wpIn F m P (Exit.then (λa w=>∃J,g J a w/\n J<n i) Q) a w):(Code.loop c).wpIn F m P Q a w:=by
 intro b k cs s o p
 have key:∀m i,n i=m->∀a w,g i a w->∃e h aK,Q e h aK/\ArrivesIn (Machine.fenced P F) P (lone (b.atR a (.code c:: .inLoop c::k)) cs w) b k cs e h aK:=by
  intro m;induction m using Nat.strongRecOn with
  |_ m t=>
   intro i hm a w a1;obtain⟨e,a₁,w₁,f,d⟩:=round i a w a1 b (.inLoop c::k) cs s o p;cases e with
   |normal=>
    obtain⟨J,hI₁,r⟩:=f;obtain⟨e₂,a₂,w₂,hq₂,harr₂⟩:=t (n J) (hm▸r) J j a₁ w₁ hI₁;exact⟨e₂,a₂,w₂,hq₂,.of_steps (StepsIn.trans d (.one (fenced_calm o p j) stepR_inLoop)) harr₂⟩
   |exit id=>exact⟨_,a₁,w₁,f,.pass (x:=.inLoop c) j (λ_ _=>.inl (by simp)) d⟩
   |goto l=>exact⟨_,a₁,w₁,f,.pass (x:=.inLoop c) j (λ_ _=>.inl (by simp)) d⟩
   |ret=>exact⟨_,a₁,w₁,f,.pass (x:=.inLoop c) j (λ_ _=>.inl (by simp)) d⟩
   |panic gJ=>exact⟨_,a₁,w₁,f,.pass (x:=.inLoop c) j (λ_ _=>.inl (by simp)) d⟩
   |outgrown=>exact⟨_,a₁,w₁,f,.pass (x:=.inLoop c) j (λ_ _=>.inl (by simp)) d⟩
 obtain⟨e,h,aK,f,d⟩:=key _ i j a w q;exact⟨e,h,aK,f,.of_steps (.one (fenced_calm o p j) stepR_loop) d⟩
theorem B7{ct:Type}{c:Code}(S:ct->Env)(b:ct->World->Prop)(d:ct->Nat)(i:ct)(aL:sub Z (S i))(h:b i w)
 (round:∀i w,b i w->W P n c (S i) w (λe Z w=>match e with
  | .normal=>∃J,sub Z (S J)/\b J w/\d J<d i
  |e=>Q e Z w)):W P n (.loop c) Z w Q:=λa l hm=>by
 refine IX (λJ a aK=>cT w aK/\Marks n aK a.defers/\cF (S J) n.n a/\b J aK) d i ⟨cT.refl _,hm,l.wq aL,h⟩ ?_;intro J a s ⟨aa,hm,o,a1⟩;refine kH (round J s a1 a o hm) λe a u⟨k,m,t,g,f⟩=>?_
 cases e<;>first
  |exact(let⟨r,p,j,q⟩:=f;⟨r,⟨aa.trans k,m,g.wq p,j⟩,q⟩)
  |exact⟨aa.trans k,m,t,g,f⟩
theorem B9{id:Nat}{l:List Oper}(h:O P n l.toArray l Z w Q):W P n (.region id l.toArray false) Z w Q:=λa b hm=>
 wpIn_region_lit (h a b hm)
theorem ar{ops:Array Oper}(h:Q .normal Z w):O P n ops [] Z w Q:=λ_ a hm=>wpListIn_nil ⟨cT.refl _,hm,Z,a,h⟩
def cW(ops:Array Oper)(Z:Env):Option (Nat×Bool)->Option Bool
 |none=>some true
 |some (J,want)=>match ops[J]? with
  |some I=>match I.dst with
   |some d=>match look Z d with
    |some (.bool b)=>some (b==want)
    |some (.tuple _)=>some false
    |_=>none
   |none=>none
  |none=>none
theorem n7{ops:Array Oper}{I:Oper}{a:Act}{b:Bool}{n:Nat}(i:cF Z n a)(e:cW ops Z I.guard=some b):Region.wanted I (yielded ops a.tmps)=b:=by
 unfold cW at e;unfold Region.wanted;split at e
 .rename_i h;rw [h];simpa using e
 .rename_i J want h;rw [h];dsimp only;split at e
  .rename_i fZ k;split at e
   .rename_i d j;split at e
    .rename_i c f;have g:=i.get _ _ f;simp only [yielded,k,Option.bind_some,j,g];simpa using e
    .rename_i c f;have g:=i.get _ _ f;simp only [yielded,k,Option.bind_some,j,g];simpa using e
    .cases e
   .cases e
  .cases e
def cE(Z:Env):Option Nat->Value->Env
 |some d,v=>(d,v)::Z
 |none,_=>Z
def da(n:Fr):Option Nat->Bool
 |some d=>Nat.blt d n.n
 |none=>true
theorem cF.cE{a:Act}(h:cF Z n.n a){d:Option Nat}(b:da n d=true)(v:Value):cF (R.cE Z d v) n.n (a.put d v):=by
 cases d with
 |none=>exact h
 |some d=>exact h.put b v
variable {ops:Array Oper} {rest:List Oper} {I:Oper}
theorem put_defers(a:Act)(d:Option Nat)(v:Value):(a.put d v).defers=a.defers:=by cases d<;>rfl
theorem Marks.put{n:Fr}{w:World}{a:Act}(h:Marks n w a.defers)(d:Option Nat)(v:Value):Marks n w (a.put d v).defers:=by rw [put_defers];exact h
theorem BT(d:cW ops Z I.guard=some false)(c:da n I.dst=true)(h:O P n ops rest (cE Z I.dst undef) w Q):O P n ops (I::rest) Z w Q:=λa b hm=>by
 unfold wpListIn;rw [n7 b d];exact⟨λ_ _=>trivial,h _ (b.cE c undef) (hm.put _ _)⟩
theorem dL{v:Value}{aK:World}(f:cW ops Z I.guard=some true)(e:da n I.dst=true)
 (i:∀a,cF Z n.n a->(execOp a.eval I).run P w= .ok (.value v) aK) (h:O P n ops rest (cE Z I.dst v) aK Q) (aa:cT w aK:=by exact cT.refl _) (aJ:∀c,I.op≠.defer c:=by intro c d;cases d):O P n ops (I::rest) Z w Q:=λa b hm=>by
 unfold wpListIn;rw [n7 b f];simp only [kn];refine⟨λ_ _=>trivial,?_⟩;rw [nZ _ _ _ aJ,i a b];exact kW (λ_ _ _ g=>lift.from aa g) _ _ _ (h _ (b.cE e v) ((hm.fX aa).put _ _))
theorem tM{aK:World}(f:cW ops Z I.guard=some true)(e:I.dst=none)
 (i:∀a,cF Z n.n a->(execOp a.eval I).run P w= .ok .skip aK) (h:O P n ops rest Z aK Q) (aa:cT w aK) (aJ:∀c,I.op≠.defer c:=by intro c d;cases d):O P n ops (I::rest) Z w Q:=λa b hm=>by
 unfold wpListIn;rw [n7 b f];simp only [kn];refine⟨λ_ _=>trivial,?_⟩;rw [nZ _ _ _ aJ,i a b];simp only [Oper.uponIn,e,Act.put];exact kW (λ_ _ _ g=>lift.from aa g) _ _ _ (h _ b (hm.fX aa))
def Calls(P:Program)(f:FuncId)(args:Array Value)(w:World)(ag:Value->World->Prop):Prop:=CallsIn Fence.wide 0 P f args w (λe aK=>cT w aK/\∃v,e= .returned v/\ag v aK)
abbrev nQ(ag:Value->World->Prop):Value->World->Prop:=ag
theorem Calls.mono{f:FuncId}{args:Array Value}{ag a:Value->World->Prop}(h:Calls P f args w ag)(b:∀v aK,ag v aK->a v aK):Calls P f args w a:=
 ly h λ_ _⟨k,v,he,h⟩=>⟨k,v,he,b _ _ h⟩
theorem Calls.plain{f:FuncId}{args:Array Value}{ag:Value->World->Prop}(h:Calls P f args w ag):Go.Calls P f args w (λe aK=>∃v,e= .returned v/\ag v aK):=
 callsIn_wide.1 (ly h λ_ _⟨_,v,he,h⟩=>⟨v,he,h⟩)
theorem wJ{f:FuncId}{U:Array Value}{aK:World}{ag:Value->World->Prop}(i:cW ops Z I.guard=some true)(g:da n I.dst=true)
 (o:∀a,cF Z n.n a->(execOp a.eval I).run P w= .ok (.enter f U) aK) (d:Calls P f U aK ag)
 (h:∀v aK,ag v aK->O P n ops rest (cE Z I.dst v) aK Q) (aa:cT w aK:=by exact cT.refl _) (aJ:∀c,I.op≠.defer c:=by intro c d;cases d):O P n ops (I::rest) Z w Q:=λa b hm=>by
 unfold wpListIn;rw [n7 b i];simp only [kn];refine⟨λ_ _=>trivial,?_⟩;rw [nZ _ _ _ aJ,o a b];rw [Oper.uponIn_enter];refine⟨(λj=>(by cases j)),?_⟩;refine ly (show CallsIn (jR n.r) 0 P f U aK _ from d) λe p⟨k,v,he,m⟩=>?_
 subst he;exact kW (λ_ _ _ l=>lift.from (aa.trans k) l) _ _ _ (h v p m _ (b.cE g v) ((hm.fX (aa.trans k)).put _ _))
theorem cQ(d:Nat){b:Bool}(e:look Z d=some (.bool b))(f:b=true->O P n ops rest ((d,.bool true)::Z) w Q)(br:b=false->O P n ops rest ((d,.bool false)::Z) w Q):
 O P n ops rest Z w Q:=λa c hm=>by
 cases b with
 |true=>exact f j a (c.tell e) hm
 |false=>exact br j a (c.tell e) hm
theorem bS(d:Nat){u:Value}(v:Value)(c:look Z d=some u)(e:u=v)(h:O P n ops rest ((d,v)::Z) w Q):O P n ops rest Z w Q:=λa b hm=>
 h a (b.tell (e▸c)) hm
end
def qV(Z:Env)(rs:Array ResultVar):Option Value:=match rs.toList with
 |[]=>some (.tuple #[])
 |[.tmp t]=>look Z t
 |[.tmp t,.tmp u]=>match look Z t,look Z u with
  |some x,some y=>some (.tuple #[x,y])
  |_,_=>none
 |[.tmp t,.tmp u,.tmp s]=>match look Z t,look Z u,look Z s with
  |some x,some y,some z=>some (.tuple #[x,y,z])
  |_,_,_=>none
 |_=>none
theorem i7{Z:Env}{n:Nat}{a:Act}(c:cF Z n a){fn:Func}{v:Value}(h:qV Z fn.results=some v)(P:Program)(w:World):(results fn a.tmps).run P w= .ok v w:=by
 have d:∀l,fn.results.toList=l->fn.results=l.toArray:=λl h=>by rw [<-h,uc]
 unfold qV at h;split at h
 .rename_i b;have:=d _ b;cases h;simp [results,this]
 .rename_i t b;have g:=c.get _ _ h;have:=d _ b;simp [results,this,g]
 .rename_i t u b;have:=d _ b;split at h
  .rename_i x y e f;cases h;simp [results,this,c.get _ _ e,c.get _ _ f]
  .cases h
 .rename_i t u s b;have:=d _ b;split at h
  .rename_i x y z e f i;cases h;simp [results,this,c.get _ _ e,c.get _ _ f,c.get _ _ i]
  .cases h
 .cases h
abbrev Leaves(rs:Array ResultVar)(ag:Value->World->Prop):d6:=λe Z w=>match e with
 | .normal=>∃v,qV Z rs=some v/\ag v w
 | .ret=>∃v,qV Z rs=some v/\ag v w
 |_=>False
def jJ:Nat->List Value->Env
 |_,[]=>[]
 |i,v::r=>(i,v)::jJ (i+1) r
theorem Ee:∀(U:List Value)(i t:Nat)(v:Value),look (jJ i U) t=some v->i<=t/\U[t-i]? =some v:=by
 intro U;induction U with
 |nil=>intro i t v h;simp [jJ,look] at h
 |cons x r c=>
  intro i t v h;simp only [jJ,look] at h;split at h
  .rename_i b;have:=iP b;subst this;cases h;simp
  .obtain⟨d,a⟩:=c (i+1) t v h;refine⟨by omega,?_⟩;rw [show t-i=(t-(i+1))+1 by omega];simpa using a
theorem uR{fn:Func}{l:List Value}{n:Nat}(aJ:fn.ntmps=n)(d:l.length<=n):cF (jJ 0 l) n {tmps:=l.toArray++Array.replicate (fn.ntmps-l.toArray.size) undef,defers:=[]}:=by
 refine⟨by simp [aJ];omega,λt v c=>?_⟩;obtain⟨_,a⟩:=Ee l 0 t v c
 have b:t<l.length:=by
  rcases oH t l.length with h|h
  .exact h
  .simp [lv h] at a
 rw [Array.getElem?_append_left (by simpa using b)];simpa using a
theorem Dk{P:Program}{f:FuncId}{fn:Func}{c:Code}{l:List Value}{w:World}{ag:Value->World->Prop}{n:Nat}{rs:Array ResultVar}
 (br:P.funcs[f]? =some fn) (p:fn.body=some c) (aJ:fn.ntmps=n) (m:fn.results=rs) (q:l.length<=n)
 (h:W P {n:=n} c (jJ 0 l) w (Leaves rs ag)):Calls P f l.toArray w (nQ ag):=by
 refine callsIn_of_wp (F:=Fence.wide) br p aY ?_;refine kH (h _ (uR aJ q) (Marks.nil _ _)) ?_;rintro e a aK ⟨aa,⟨t,r,s,_,_⟩,u,o,b⟩;have k:a.defers=[]:=by rw [r,s j];rfl
 cases e with
 |normal=>obtain⟨v,g,d⟩:=b;exact⟨k,v,i7 o (m▸g) P aK,aa,v,j,d⟩
 |ret=>obtain⟨v,g,d⟩:=b;exact⟨k,v,i7 o (m▸g) P aK,aa,v,j,d⟩
 |exit i=>exact b.elim
 |goto l=>exact b.elim
 |panic gJ=>exact b.elim
 |outgrown=>exact b.elim
abbrev Chunk:=Nat×Obj
def au(ae:List (List Chunk)):List Nat:=ae.flatten.map (·.1)
structure C(o:World)(F:List Nat)(ae:List (List Chunk))(w:World):Prop where
 os:w.os=o.os
 tape:w.tape=o.tape
 output:w.output=o.output
 size:o.heap.size<=w.heap.size
 fX:∀k,k<o.heap.size->k∉F->w.heap[k]? =o.heap[k]?
 here:∀c∈ae.flatten,w.heap[c.1]? =some c.2
 nodup:(au ae).Nodup
 own:∀b∈au ae,b∈F\/o.heap.size<=b
 plain:∀c∈ae.flatten,c.2≠Obj.deferred (some [])
theorem C.start(w:World):C w [] [] w:=⟨j,j,j,cD _,λ_ _ _=>rfl,by simp,by simp [au],by simp [au],by simp⟩
abbrev Own(ae:List (List Chunk))(w:World):Prop:=C w (au ae) ae w
section
variable {o w aK:World} {F:List Nat} {A B bb ae:List (List Chunk)} {G ai aA bn cu ca bZ:List Chunk}
theorem C.perm(h:C o F A w)(a:A.flatten.Perm B.flatten):C o F B w:=
 ⟨h.os,h.tape,h.output,h.size,h.fX,λc d=>h.here c (a.mem_iff.2 d),(List.Perm.nodup_iff (List.Perm.map (λc:Chunk=>c.1) a)).1 h.nodup,λb e=>h.own b ((List.Perm.mem_iff (List.Perm.map (λc:Chunk=>c.1) a)).2 e),λc d=>h.plain c (a.mem_iff.2 d)⟩
theorem C.jm(h:C o F A w)(a:A.Perm B):C o F B w:=h.perm a.flatten
theorem C.f1(h:C o F (ai::aA::ae) w):C o F (aA::ai::ae) w:=h.jm (.swap ..)
theorem C.f2(h:C o F (ai::aA::bn::ae) w):C o F (bn::ai::aA::ae) w:=
 h.jm (((List.Perm.swap bn aA ae).cons ai).trans (.swap ..))
theorem C.f3(h:C o F (ai::aA::bn::cu::ae) w):C o F (cu::ai::aA::bn::ae) w:=
 h.jm (((((List.Perm.swap cu bn ae).cons aA).trans (.swap ..)).cons ai).trans (.swap ..))
theorem C.f4(h:C o F (ai::aA::bn::cu::ca::ae) w):C o F (ca::ai::aA::bn::cu::ae) w:=
 h.jm (((((((List.Perm.swap ca cu ae).cons bn).trans (.swap ..)).cons aA).trans (.swap ..)).cons ai).trans (.swap ..))
theorem C.f5(h:C o F (ai::aA::bn::cu::ca::bZ::ae) w):C o F (bZ::ai::aA::bn::cu::ca::ae) w:=
 h.jm (((((((((List.Perm.swap bZ ca ae).cons cu).trans (.swap ..)).cons bn).trans (.swap ..)).cons aA).trans (.swap ..)).cons ai).trans (.swap ..))
theorem C.split(h:C o F ((ai++aA)::ae) w):C o F (ai::aA::ae) w:=h.perm (by simp)
theorem C.join(h:C o F (ai::aA::ae) w):C o F ((ai++aA)::ae) w:=h.perm (by simp)
theorem C.empty(h:C o F ae w):C o F ([]::ae) w:=h.perm (by simp)
theorem C.drop(h:C o F (G::ae) w):C o F ae w:=by
 refine⟨h.os,h.tape,h.output,h.size,h.fX,λc a=>h.here c (by simp only [kj,dw];exact .inr a),?_,λb d=>h.own b (by simp only [au,List.flatten_cons,List.map_append,List.mem_append];exact .inr d),λc a=>h.plain c (by simp only [List.flatten_cons,List.mem_append];exact .inr a)⟩;have:=h.nodup;simp only [au,kj,jU] at this;exact(iR.1 this).2.1
theorem C.below(h:C o [] ae w):Below o.heap.size o w:=⟨h.os,h.tape,h.output,h.size,λk aa=>h.fX k aa (by simp)⟩
theorem C.o4{c:Chunk}(h:C o F ae w)(a:c∈ae.flatten):c.1<w.heap.size:=by
 have:=h.here c a;exact(gv.1 this).1
theorem og{b:Nat}:b∈au ae↔∃I,(b,I)∈ae.flatten:=by
 simp only [au,dO];constructor
 .rintro⟨⟨a,I⟩,hm,rfl⟩;exact⟨I,hm⟩
 .rintro⟨I,hm⟩;exact⟨(b,I),hm,j⟩
theorem C.sub(h:C o F (A++B) w):Own A w:=by
 refine⟨j,j,j,cD _,λ_ _ _=>rfl,λc a=>h.here c (by simp only [g9,List.mem_append];exact .inl a),?_,λb d=>.inl d,λc a=>h.plain c (by simp only [List.flatten_append,List.mem_append];exact .inl a)⟩;have:=h.nodup;simp only [au,g9,List.map_append] at this;exact(iR.1 this).1
theorem C.j7(h:C o F (ai::ae) w):Own [ai] w:=C.sub (A:=[ai]) (B:=ae) h
theorem C.cB(h:C o F (ai::aA::ae) w):Own [ai,aA] w:=C.sub (A:=[ai,aA]) (B:=ae) h
theorem C.after(h:C o F (A++B) w)(k:C w (au A) bb aK):C o F (bb++B) aK:=by
 have n:=h.nodup;simp only [au,g9,List.map_append] at n;have f:=iR.1 n
 have p:∀c∈B.flatten,aK.heap[c.1]? =some c.2:=by
  intro c a;have m:c∈(A++B).flatten:=by simp only [g9,List.mem_append];exact .inr a
  rw [k.fX c.1 (h.o4 m) (λd=>f.2.2 c.1 d c.1 (dO.2 ⟨c,a,j⟩) j)];exact h.here c m
 have g:∀b∈au bb,b∈au A\/w.heap.size<=b:=k.own;refine⟨k.os.trans h.os,k.tape.trans h.tape,k.output.trans h.output,eh h.size k.size,?_,?_,?_,?_,?_⟩
 .intro b d i;rw [k.fX b (t5 d h.size) ?_]
  .exact h.fX b d i
  .intro q;have r:b∈au (A++B):=by simp only [au,g9,List.map_append,List.mem_append];exact .inl q
   rcases h.own b r with e|e
   .exact i e
   .omega
 .intro c a;simp only [g9,List.mem_append] at a;rcases a with a|a
  .exact k.here c a
  .exact p c a
 .simp only [au,g9,List.map_append];refine iR.2 ⟨k.nodup,f.2.1,?_⟩;rintro b d s l rfl;rcases g b d with e|e
  .exact f.2.2 b e b l j
  .obtain⟨c,a,rfl⟩:=dO.1 l;have:=h.o4 (c:=c) (by simp only [g9,List.mem_append];exact .inr a);omega
 .intro b d;simp only [au,g9,List.map_append,List.mem_append] at d;rcases d with d|d
  .rcases g b d with e|e
   .exact h.own b (by simp only [au,g9,List.map_append,List.mem_append];exact .inl e)
   .have:=h.size;exact .inr (by omega)
  .exact h.own b (by simp only [au,g9,List.map_append,List.mem_append];exact .inr d)
 .intro c a;simp only [g9,List.mem_append] at a;rcases a with a|a
  .exact k.plain c a
  .exact h.plain c (by simp only [g9,List.mem_append];exact .inr a)
theorem C.aM(h:C o F ae w)(k:C w [] bb aK):C o F (bb++ae) aK:=C.after (A:=[]) h k
theorem C.iu(h:C o F (ai::ae) w)(k:C w (au [ai]) bb aK):C o F (bb++ae) aK:=C.after (A:=[ai]) h k
theorem C.cA(h:C o F (ai::aA::ae) w)(k:C w (au [ai,aA]) bb aK):C o F (bb++ae) aK:=C.after (A:=[ai,aA]) h k
def Rd(w:World)(A:Option Addr)(U:List Value):Prop:=∀i v,U[i]? =some v->∃a,A=some a/\w.cell? (a.add i)=some v
def bX(A:Option Addr)(U:List Value)(F:List Nat):Prop:=U≠[]->∀a,A=some a->a.block∉F
@[simp] theorem wW(a:Addr)(i:Nat):(a.add i).block=a.block:=by unfold Addr.add;split<;>rfl
theorem Rd.cell{w:World}{b:Addr}{U:List Value}{J:Nat}{v:Value}(h:Rd w (some b) U)(e:U[J]? =some v):w.cell? (b.add J)=some v:=by
 obtain⟨a,c,d⟩:=h J v e;cases c;exact d
theorem Rd.nil(w:World)(A:Option Addr):Rd w A []:=λi v h=>by simp at h
theorem Rd.lt{A:Option Addr}{U:List Value}(h:Rd w A U)(f:U≠[]){a:Addr}(d:A=some a):a.block<w.heap.size:=by
 cases U with
 |nil=>exact(f j).elim
 |cons v r=>
  obtain⟨b,c,e⟩:=h 0 v (by simp);rw [d] at c;cases c;have:=World.block_lt_of_cell? w _ e;simpa using this
theorem C.rd{A:Option Addr}{U:List Value}(h:C o F ae w)(f:Rd o A U)(d:bX A U F):Rd w A U:=λi v c=>by
 obtain⟨a,rfl,b⟩:=f i v c;have e:U≠[]:=by rintro rfl;simp at c
 refine⟨a,j,?_⟩;rw [World.cell?_of_block (w:=o) (h.fX _ (by have:=World.block_lt_of_cell? o _ b;simpa using this) (by simpa using d e a j))];exact b
theorem bX.of_nil(A:Option Addr)(U:List Value):bX A U []:=λ_ _ _=>by simp
theorem C.apart{A:Option Addr}{U:List Value}(h:C o F ae w)(g:Rd o A U)(e:bX A U F):bX A U (au ae):=λd a c f=>by
 have i:=g.lt d c;rcases h.own _ f with b|b
 .exact e d a c b
 .omega
theorem bX.sub{A:Option Addr}{U:List Value}{eJ:List Nat}(h:bX A U F)(aL:∀b∈eJ,b∈F):bX A U eJ:=λe a c d=>h e a c (aL _ d)
theorem bX.kU{A:Option Addr}{U f:List Value}{eJ:List Nat}(h:bX A U F)(e:U≠[])(aL:∀b∈eJ,b∈F):bX A f eJ:=λ_ a c d=>h e a c (aL _ d)
theorem pf:au (G::ae)=au [G]++au ae:=by simp [au]
theorem C.iV{b:Nat}{I:Obj}{off:Nat}{sp:Option Nat}{U:List Value}(h:C o F ([(b,I)]::ae) w):bX (some ⟨b,off,sp⟩) U (au ae):=λ_ a c d=>by
 cases c;have:=h.nodup;rw [pf] at this;exact(iR.1 this).2.2 b (by simp [au]) b d j
theorem C.first{b:Nat}{I:Obj}(h:C o F ([(b,I)]::ae) w):w.heap[b]? =some I:=h.here (b,I) (by simp)
theorem C.cell{b:Nat}{c:Array Value}{e:TypeId}{e3:Nat×Nat}{off:Nat}{v:Value}(h:C o F ([(b,.cells c e e3)]::ae) w)(a:c[off]? =some v):w.cell? ⟨b,off,none⟩=some v:=by
 simp [World.cell?,h.first,a]
theorem add_lit(b off i:Nat):(⟨b,off,none⟩:Addr).add i=⟨b,off+i,none⟩:=by unfold Addr.add;split<;>simp_all
theorem C.i6{b:Nat}{c:Array Value}{e:TypeId}{e3:Nat×Nat}{off:Nat}{U:List Value}(h:C o F ([(b,.cells c e e3)]::ae) w)
 (a:∀i v,U[i]? =some v->c[off+i]? =some v):Rd w (some ⟨b,off,none⟩) U:=λi v d=>⟨_,j,by rw [add_lit];exact h.cell (a i v d)⟩
theorem C.bE{b:Nat}{c:Array Value}{e:TypeId}{e3:Nat×Nat}(h:C o F ([(b,.cells c e e3)]::ae) w):Rd w (some ⟨b,0,none⟩) c.toList:=
 h.i6 (λi v a=>by simpa using a)
theorem EG{b:Nat}{c:Array Value}{e:TypeId}{e3:Nat×Nat}(a:w.heap[b]? =some (.cells c e e3))(off:Nat)(v:Value):
 (w.setCell ⟨b,off,none⟩ v).heap[b]? =some (.cells (c.setIfInBounds off v) e e3):=by
 simp [World.setCell,rL,a]
theorem vc(a:Addr)(v:Value){k:Nat}(aa:k≠a.block):(w.setCell a v).heap[k]? =w.heap[k]? :=by
 simp only [World.setCell,rL];rw [aI (by omega)]
theorem C.lm{b:Nat}{I fZ:Obj}(h:C o F ([(b,I)]::ae) w)(g:aK.os=w.os)(j:aK.tape=w.tape)(i:aK.output=w.output)(aL:aK.heap.size=w.heap.size)
 (d:aK.heap[b]? =some fZ) (aa:∀k,k≠b->aK.heap[k]? =w.heap[k]?) (f:fZ≠Obj.deferred (some []):=by simp):C o F ([(b,fZ)]::ae) aK:=by
 refine C.iu (bb:=[[(b,fZ)]]) h ⟨g,j,i,by omega,λk _ e=>aa k (by simpa [au] using e),?_,by simp [au],λk aa=>.inl (by simpa [au] using aa),by intro c a;simp at a;subst a;exact f⟩;intro c a;simp at a;subst a;exact d
theorem C.setCell{b:Nat}{c:Array Value}{e:TypeId}{e3:Nat×Nat}(h:C o F ([(b,.cells c e e3)]::ae) w)(off:Nat)(v:Value):
 C o F ([(b,.cells (c.setIfInBounds off v) e e3)]::ae) (w.setCell ⟨b,off,none⟩ v):=
 h.lm j j j (by simp [World.setCell]) (EG h.first off v) (λ_ aa=>vc _ v aa)
theorem fI{ae fy:List (List Chunk)}(h:∀G∈fy,G∈ae):∀b∈au fy,b∈au ae:=λb c=>by
 obtain⟨I,e⟩:=og.1 c;obtain⟨G,a,d⟩:=List.mem_flatten.1 e;exact og.2 ⟨I,List.mem_flatten.2 ⟨G,h G a,d⟩⟩
theorem C.alloc(h:C o F ae w)(I:Obj)(b:I≠Obj.deferred (some []):=by simp):C o F ([(w.heap.size,I)]::ae) (w.alloc I):=by
 refine C.aM (bb:=[[(w.heap.size,I)]]) h ⟨j,j,j,by simp,λk aa _=>qA w I aa,?_,by simp [au],λk aa=>.inr (by simp [au] at aa;omega),by intro c a;simp at a;subst a;exact b⟩;intro c a;simp at a;subst a;exact heap_alloc_new w I
theorem C.drew(h:C o F ae w):C o F ae w.drew:=⟨h.os,h.tape,h.output,h.size,h.fX,h.here,h.nodup,h.own,h.plain⟩
theorem C.grown{b:Nat}{I fZ:Obj}(h:C o F ([(b,I)]::ae) w)(d:w.grownBy aK (some b))(f:aK.heap[b]? =some fZ)(g:fZ≠Obj.deferred (some []):=by simp):C o F ([(b,fZ)]::ae) aK:=by
 refine C.iu (bb:=[[(b,fZ)]]) h ⟨d.os,d.tape,d.output,d.size,λk aa e=>d.block k aa (by simp [au] at e;simpa using e),?_,by simp [au],λk aa=>.inl (by simpa [au] using aa),by intro c a;simp at a;subst a;exact g⟩;intro c a;simp at a;subst a;exact f
end
def Row(e:TypeId)(size:Nat)(v:Value)(n:Nat)(xs:List Value)(G:List Chunk):Prop:=
 xs.length=n*size/\
 ((v= .slice none 0 0/\n=0/\G=[])\/
  ∃g cap cur,v= .slice (some ⟨g,0,none⟩) n cap/\G=[(g,.cells cur e (0,0))]/\n<=cap/\cap<=maxLen/\cap*size<=cur.size/\cur.toList.take (n*size)=xs)
theorem Row.nil(e:TypeId)(size:Nat):Row e size (.slice none 0 0) 0 [] []:=⟨by simp,.inl ⟨j,j,j⟩⟩
section
variable {o w aK:World} {F:List Nat} {ae:List (List Chunk)} {G:List Chunk} {e:TypeId} {size:Nat} {v:Value} {n:Nat} {xs:List Value}
theorem Row.form(h:Row e size v n xs G):∃A c,v= .slice A n c/\n<=c/\c<=maxLen:=by
 rcases h.2 with⟨rfl,rfl,_⟩|⟨g,cap,cur,rfl,_,a,b,_⟩
 .exact⟨none,0,j,cD _,by simp [maxLen]⟩
 .exact⟨_,_,j,a,b⟩
theorem Row.one(h:Row e size v n xs G):v.oneCell'=true:=by
 obtain⟨A,c,rfl,_⟩:=h.form;rfl
theorem Row.rd(h:Row e size v n xs G)(a:C o F (G::ae) w):∃A c,v= .slice A n c/\n<=c/\c<=maxLen/\Rd w A xs/\bX A xs (au ae):=by
 rcases h.2 with⟨rfl,rfl,rfl⟩|⟨g,cap,cur,rfl,rfl,b,d,_,f⟩
 .have:xs=[]:=mc (by simpa using h.1);subst this;exact⟨none,0,j,cD _,by simp [maxLen],Rd.nil _ _,λk=>(k j).elim⟩
 .refine⟨_,_,j,b,d,a.i6 (λi u hu=>?_),a.iV⟩;rw [<-f,jD] at hu;split at hu
  .simpa using hu
  .cases hu
theorem Row.made{b cap:Nat}{cur:Array Value}(hm:cap<=maxLen)(aL:cap*size<=cur.size):Row e size (.slice (some ⟨b,0,none⟩) 0 cap) 0 [] [(b,.cells cur e (0,0))]:=
 ⟨by simp,.inr ⟨b,cap,cur,j,j,b6 _,hm,aL,by simp⟩⟩
theorem Row.full{b n:Nat}{cur:Array Value}(hm:n<=maxLen)(aL:cur.size=n*size):Row e size (.slice (some ⟨b,0,none⟩) n n) n cur.toList [(b,.cells cur e (0,0))]:=
 ⟨by simpa using aL,.inr ⟨b,n,cur,j,j,Nat.le_refl _,hm,Nat.le_of_eq aL.symm,by rw [List.take_of_length_le (by simp [aL])]⟩⟩
theorem C.setRow{b:Nat}{c a:Array Value}{t:TypeId}{e3:Nat×Nat}(h:C o F ([(b,.cells c t e3)]::ae) w):C o F ([(b,.cells a t e3)]::ae) (w.setRow b a):=
 h.lm j j j (by simp [World.setRow]) (setRow_heap w b c a t e3 h.first) (λk aa=>setRow_other w b k a aa)
theorem s4(z:Array Value)(n:Nat):(Builtin.zeroCells z n).size=n*z.size:=by simp [Builtin.zeroCells]
theorem Row.append{P:Program}(t ty:TypeId)(i:TypeInfo)(z:Value)(bytes:Nat)(s:P.underlying t=some (.slice e))(p:P.info? e=some i)(N:i.zero=some z)
 (Z:i.size=size) (U:i.bytes=bytes) (af:z.cells.size=size) (ab:0<size)
 (f:C o F (G::ae) w) (h:Row e size v n xs G) {A:Option Addr} {m c:Nat} {news:List Value} (d:news.length=m*size) (M:Rd w A news) (R:∀u∈news,u.oneCell'=true)
 (K:n+m<=maxLen) (L:(n+m)*bytes<=140737488355328):
 ∃O aK I,(Builtin.append_ #[t,t] ty #[v,.slice A m c]).run P w= .ok O aK/\Row e size O (n+m) (xs++news) I/\C o F (I::ae) aK/\cT w aK:=by
 subst Z;subst U;have ai:n+m<=9223372036854775807:=by simp only [maxLen] at K;omega
 have hlen:(xs++news).length=(n+m)*i.size:=by rw [b4,h.1,d,Nat.add_mul]
 have new:∀cg,C o F ([(w.heap.size,.cells (xs.toArray++news.toArray++Builtin.zeroCells z.cells (grownCap w (n+m) cg e-(n+m))) e (0,0))]::ae)
  (w.drew.alloc (.cells (xs.toArray++news.toArray++Builtin.zeroCells z.cells (grownCap w (n+m) cg e-(n+m))) e))/\
  Row e i.size (.slice (some ⟨w.heap.size,0,none⟩) (n+m) (grownCap w (n+m) cg e)) (n+m) (xs++news) [(w.heap.size,.cells (xs.toArray++news.toArray++Builtin.zeroCells z.cells (grownCap w (n+m) cg e-(n+m))) e (0,0))]:=by
  intro cg;have X:=grownCap_ge w (n+m) cg e;have D:grownCap w (n+m) cg e<=maxLen:=grownCap_le_maxLen w (n+m) cg e K;refine⟨f.drop.drew.alloc _,hlen,.inr ⟨_,_,_,j,j,X,D,?_,?_⟩⟩
  .simp only [Array.size_append,List.size_toArray,s4,af,h.1,d,<-Nat.add_mul];exact kk _ (by omega)
  .simp only [t6,List.append_assoc];rw [<-dF,<-hlen];exact md
 cases A with
 |none=>
  have aJ:news=[]:=by
   cases news with
   |nil=>rfl
   |cons u r=>obtain⟨a,T,_⟩:=M 0 u (by simp);cases T
  subst aJ
  have hm:m=0:=by
   rcases rM m with h|h
   .exact h
   .have:=Nat.mul_pos h ab;simp at d;omega
  subst hm;refine⟨v,w,G,?_,by simpa using h,f,cT.refl _⟩;obtain⟨gU,Q,rfl,V,_⟩:=h.form;cases gU<;>simp [Builtin.append_,d7 s,sizeOf,typeInfo,p,Builtin.lenOf,Builtin.firstCells,V,storeCells]
 |some a=>
  have E:∀J u,news[J]? =some u->w.cell? (a.add J)=some u:=λJ u hu=>by
   obtain⟨b,l,B⟩:=M J u hu;cases l;exact B
  rcases h.2 with⟨rfl,rfl,rfl⟩|⟨g,cap,cur,rfl,rfl,ah,D,ag,ac⟩
  .have ad:xs=[]:=mc (by simpa using h.1);subst ad;by_cases hm:m=0
   .subst hm;have aJ:news=[]:=mc (by simpa using d);subst aJ;refine⟨.slice none 0 0,w,[],?_,Row.nil e i.size,f,cT.refl _⟩;simp [Builtin.append_,d7 s,sizeOf,typeInfo,p,Builtin.lenOf,Builtin.firstCells,loadCells,loadCellsFrom]
   .have q:=run_append_nil (P:=P) w t ty e i z s p N a m c news d E (by omega) (by omega) (by have l:=L;simp only [fg] at l;omega);obtain⟨x,y⟩:=new 0;simp only [fg,jV,Array.empty_append] at x y⊢;exact⟨_,_,_,q,y,x,cT.alloc _ _⟩
  .by_cases H:n+m<=cap
   .have W:n*i.size+news.length<=cur.size:=by
     have:=kk i.size H;rw [d,<-m4];omega
    have q:=run_append_room (P:=P) w t ty e i s p g n cap cur f.first a m c news d E R H W;refine⟨_,_,_,q,⟨hlen,.inr ⟨g,cap,_,j,j,H,D,?_,?_⟩⟩,f.setRow,cT.cells f.first (λk aa=>setRow_other w g k _ aa)⟩
    .simp only [hy,b4,List.length_take,List.length_drop,Array.length_toList];omega
    .rw [ac,<-hlen];exact md
   .obtain⟨gU,Q,S,_,_,Y,_⟩:=h.rd f;cases S
    have holds:∀J u,xs[J]? =some u->w.cell? ((⟨g,0,none⟩:Addr).add J)=some u:=λJ u hu=>by
     obtain⟨b,l,B⟩:=Y J u hu;cases l;exact B
    have q:=run_append_grow (P:=P) w t ty e i z s p N ⟨g,0,none⟩ n cap xs h.1 holds a m c news d E (by omega) (by omega) (growslice_fits (by omega) L);obtain⟨x,y⟩:=new cap;exact⟨_,_,_,q,y,x,cT.alloc _ _⟩
end
def B1(w:World)(A:Option Addr)(rows:List (List Value))(F:List Nat):Prop:=
 ∃U:List Value,U.length=rows.length/\Rd w A U/\bX A U F/\∀(i:Nat)(xs:List Value),rows[i]? =some xs->∃(a:Option Addr)(ci:Nat),U[i]? =some (Value.slice a xs.length ci)/\Rd w a xs/\bX a xs F
theorem Row.set{e:TypeId}{g n cap:Nat}{cur:Array Value}{xs:List Value}(h:Row e 1 (.slice (some ⟨g,0,none⟩) n cap) n xs [(g,.cells cur e (0,0))])(J:Nat)(u:Value):
 Row e 1 (.slice (some ⟨g,0,none⟩) n cap) n (xs.set J u) [(g,.cells (cur.setIfInBounds J u) e (0,0))]:=by
 obtain⟨b,c⟩:=h;refine⟨by simpa using b,?_⟩;rcases c with⟨a,_,_⟩|⟨p,m,o,a,l,d,f,i,k⟩
 .cases a
 .cases a;cases l;refine .inr ⟨g,cap,_,j,j,d,f,by simpa using i,?_⟩;rw [<-k];simp [List.take_set]
class bB(P:Program)(t:TypeId)(d:outParam TypeDesc):Prop where
 h:P.underlying t=some d
class cn(P:Program)(t:TypeId)(z:outParam Value)(size bytes:outParam Nat):Prop where
 h:(P.info? t).map (λi=>(i.zero,i.size,i.bytes))=some (some z,size,bytes)
class Entry(P:Program)(f:FuncId):Prop where
 h:∃fn,P.funcs[f]? =some fn/\(fn.name== "runtime.NumGoroutine")=false/\fn.body.isNone=false
class pL(P:Program)(s:TypeId)(f:Nat)(off:outParam Nat):Prop where
 h:∃gK k5,P.underlying s=some (.struct gK)/\gK[f]? =some k5/\k5.offset=off/\((P.info? k5.type).map (·.size)).any (·!=0)=true
theorem cn.parts{P:Program}{t:TypeId}{z:Value}{size bytes:Nat}(h:cn P t z size bytes):∃i,P.info? t=some i/\i.zero=some z/\i.size=size/\i.bytes=bytes:=by
 have:=h.h;cases a:P.info? t with
 |none=>simp [a] at this
 |some i=>simp [a] at this;exact⟨i,j,this⟩
theorem Hu{P:Program}{t e:TypeId}(hu:P.underlying t=some (.pointer e))(p:Option Addr)(w:World)(d:Nat):(Op.equalIn (d+1) t (.pointer p) (.pointer none)).run P w= .ok p.isNone w:=by
 cases p<;>(simp only [Op.equalIn,dQ,d7 hu,dU];rfl)
theorem Am{P:Program}{t e:TypeId}(hu:P.underlying t=some (.pointer e))(p:Option Addr)(w:World):(Op.equal t (.pointer p) (.pointer none)).run P w= .ok p.isNone w:=
 Hu hu p w 9999
theorem Hv{P:Program}{t e:TypeId}(hu:P.underlying t=some (.slice e))(p:Option Addr)(l c b0 a:Nat)(w:World)(d:Nat):(Op.equalIn (d+1) t (.slice p l c) (.slice none b0 a)).run P w= .ok p.isNone w:=by
 cases p<;>(simp only [Op.equalIn,dQ,d7 hu,dU];rfl)
theorem Hx{P:Program}{t e:TypeId}(hu:P.underlying t=some (.slice e))(p:Option Addr)(l c b0 a:Nat)(w:World):(Op.equal t (.slice p l c) (.slice none b0 a)).run P w= .ok p.isNone w:=
 Hv hu p l c b0 a w 9999
theorem eval_const(a:Act)(v:Value):a.eval (.const v)=v:=rfl
theorem C9(t:TypeId)(x y:Operand)(p q:Option Addr):(do eqGuard .eql t x y (.pointer p) (.pointer q);binOp .eql t (.pointer p) (.pointer q))=(do pure (.bool (<-Op.equal t (.pointer p) (.pointer q))):Sem Value):=by
 cases p<;>cases q<;>rfl
theorem Db(t:TypeId)(x y:Operand)(p q:Option Addr):(do eqGuard .neq t x y (.pointer p) (.pointer q);binOp .neq t (.pointer p) (.pointer q))=(do pure (.bool (!(<-Op.equal t (.pointer p) (.pointer q)))):Sem Value):=by
 cases p<;>cases q<;>rfl
theorem Da(t:TypeId)(x y:Operand)(p q:Option Addr)(l c b0 a:Nat):(do eqGuard .eql t x y (.slice p l c) (.slice q b0 a);binOp .eql t (.slice p l c) (.slice q b0 a))=(do pure (.bool (<-Op.equal t (.slice p l c) (.slice q b0 a))):Sem Value):=rfl
section
variable {P:Program} {n:Fr} {Z:Env} {w:World} {Q:d6} {ops:Array Oper} {rest:List Oper}
 {dst:Option Nat} {ty:TypeId} {pos:String} {after:Array Edge} {g:Option (Nat×Bool)}
theorem wE{x:Operand}{v:Value}(d:cW ops Z g=some true)(c:da n dst=true)(e:bs Z x=some v)
 (h:O P n ops rest (cE Z dst v) w Q):O P n ops (⟨dst,.assign x,ty,pos,after,g⟩::rest) Z w Q:=
 dL d c (λa b=>by simp [execOp,b.eval e]) h
def evalBin(op:BinOp)(k:IntKind)(x y:Int):Option Value:=
 match op with
 | .add=>some (.int k (k.wrap (x+y)))
 | .sub=>some (.int k (k.wrap (x-y)))
 | .mul=>some (.int k (k.wrap (x*y)))
 | .and=>some (.int k (k.wrap (BitVec.ofInt k.bits x&&&BitVec.ofInt k.bits y).toNat))
 | .or=>some (.int k (k.wrap (BitVec.ofInt k.bits x|||BitVec.ofInt k.bits y).toNat))
 | .xor=>some (.int k (k.wrap (BitVec.ofInt k.bits x^^^BitVec.ofInt k.bits y).toNat))
 | .andNot=>some (.int k (k.wrap (BitVec.ofInt k.bits x&&& ~~~BitVec.ofInt k.bits y).toNat))
 | .eql=>some (.bool (x==y))
 | .neq=>some (.bool (x !=y))
 | .lss=>some (.bool (decide (x<y)))
 | .leq=>some (.bool (decide (x<=y)))
 | .gtr=>some (.bool (decide (x>y)))
 | .geq=>some (.bool (decide (x>=y)))
 |_=>none
theorem BQ{op:BinOp}{t l:TypeId}{x y:Operand}{k:IntKind}{i J:Int}{v:Value}(e:cW ops Z g=some true)(d:da n dst=true)
 (f:bs Z x=some (.int k i)) (j:bs Z y=some (.int k J)) (c:evalBin op k i J=some v)
 (h:O P n ops rest (cE Z dst v) w Q):O P n ops (⟨dst,.binOp op t x y l,ty,pos,after,g⟩::rest) Z w Q:=
 dL e d (λa b=>by
  cases op<;>simp [evalBin] at c<;>subst c<;>simp [execOp,b.eval f,b.eval j,eqGuard,binOp,Op.intArith,Op.intBits,Op.intCmp]) h
def evalShift(op:BinOp)(k:IntKind)(x y:Int):Option Value:=
 match op with
 | .shl=>some (.int k (k.wrap (x*2^(min y.toNat k.bits))))
 | .shr=>some (.int k (x.fdiv (2^(min y.toNat k.bits))))
 |_=>none
theorem io{op:BinOp}{t m:TypeId}{x y:Operand}{k db:IntKind}{i J:Int}{v:Value}(f:cW ops Z g=some true)(e:da n dst=true)
 (j:bs Z x=some (.int k i)) (l:bs Z y=some (.int db J)) (o:0<=J) (c:evalShift op k i J=some v)
 (h:O P n ops rest (cE Z dst v) w Q):O P n ops (⟨dst,.binOp op t x y m,ty,pos,after,g⟩::rest) Z w Q:=
 dL f e (λa b=>by
  have d:¬J<0:=by omega
  cases op<;>simp [evalShift] at c<;>subst c<;>simp [execOp,b.eval j,b.eval l,eqGuard,binOp,Op.shift,d]) h
theorem tJ{t k e:TypeId}{x:Operand}{p:Option Addr}{l c b0 b:Nat}[hu:bB P t (.slice e)](i:cW ops Z g=some true)(f:da n dst=true)
 (j:bs Z x=some (.slice p l c))
 (h:O P n ops rest (cE Z dst (.bool p.isNone)) w Q):O P n ops (⟨dst,.binOp .eql t x (.const (.slice none b0 b)) k,ty,pos,after,g⟩::rest) Z w Q:=
 dL i f (λa d=>by
  simp only [execOp,d.eval j,eval_const,Da,dQ,Hx hu.h,dU,ei]) h
theorem run_equalIn_bool{P:Program}{t:TypeId}(hu:P.underlying t=some .bool)(a b:Bool)(w:World)(d:Nat):(Op.equalIn (d+1) t (.bool a) (.bool b)).run P w= .ok (a==b) w:=by
 simp only [Op.equalIn,dQ,d7 hu,dU];rfl
def qt(op:UnOp)(k:IntKind)(x:Int):Option Value:=
 match op with
 | .neg=>some (.int k (k.wrap (0-x)))
 | .xor=>some (.int k (k.wrap (BitVec.ofInt k.bits (if k.signed then -1 else k.max)^^^BitVec.ofInt k.bits x).toNat))
 |_=>none
theorem B0{op:UnOp}{t:TypeId}{x:Operand}{k:IntKind}{i:Int}{v:Value}(e:cW ops Z g=some true)(d:da n dst=true)(f:bs Z x=some (.int k i))(b:qt op k i=some v)
 (h:O P n ops rest (cE Z dst v) w Q):O P n ops (⟨dst,.unOp op t x,ty,pos,after,g⟩::rest) Z w Q:=
 dL e d (λa c=>by
  cases op<;>simp [qt] at b<;>subst b<;>simp [execOp,c.eval f,Op.unary,Op.intArith,Op.intBits]) h
theorem gt{s t:TypeId}{d:TypeDesc}{x:Operand}{k db:IntKind}{i:Int}[aL:bB P s d][j:bB P t (.int db)](e:cW ops Z g=some true)(c:da n dst=true)
 (l:bs Z x=some (.int k i)) {J:Int} (f:db.wrap i=J)
 (h:O P n ops rest (cE Z dst (.int db J)) w Q):O P n ops (⟨dst,.convert s t x,ty,pos,after,g⟩::rest) Z w Q:=
 dL e c (λa b=>by
  subst f;simp [execOp,b.eval l,convert,d7 aL.h,d7 j.h,Conv.intToInt]) h
theorem rq{s:TypeId}{f off b I:Nat}{x:Operand}[br:pL P s f off](o:cW ops Z g=some true)(m:da n dst=true)
 (q:bs Z x=some (.pointer (some ⟨b,I,none⟩)))
 (h:O P n ops rest (cE Z dst (.pointer (some ⟨b,I+off,none⟩))) w Q):O P n ops (⟨dst,.fieldAddr s x f,ty,pos,after,g⟩::rest) Z w Q:=
 dL o m (λa l=>by
  obtain⟨gK,k5,e,j,k,d⟩:=br.h;cases c:P.info? k5.type with
  |none=>simp [c] at d
  |some i=>
   have p:i.size≠0:=by simpa [c] using d
   subst k;simp [execOp,l.eval q,Instr.fieldAt,d7 e,j,Instr.sureAddr,fieldPlace,sizeOf,typeInfo,c,p,add_lit]) h
def ia:TypeDesc->Bool
 | .struct _| .array _ _=>true
 |_=>false
theorem ky{t:TypeId}{d:TypeDesc}(hu:P.underlying t=some d)(w:World):(isAgg t).run P w= .ok (ia d) w:=by
 unfold isAgg;rw [dQ,d7 hu w];cases d<;>simp [ia]
theorem oB{t:TypeId}{d:TypeDesc}{x:Operand}{A:Addr}{v:Value}[hu:bB P t d](i:cW ops Z g=some true)(e:da n dst=true)
 (j:bs Z x=some (.pointer (some A))) (b:ia d=false) (c:w.cell? A=some v)
 (h:O P n ops rest (cE Z dst v) w Q):O P n ops (⟨dst,.load t x,ty,pos,after,g⟩::rest) Z w Q:=
 dL i e (λa f=>by
  simp [execOp,f.eval j,Instr.loadAt,Instr.sureAddr,loadVar,ky hu.h,b,c]) h
theorem l3{t:TypeId}{d:TypeDesc}{x:Operand}{A:Addr}{U:List Value}{z:Value}{size bytes:Nat}[hu:bB P t d][p:cn P t z size bytes]
 (o:cW ops Z g=some true) (l:da n dst=true)
 (y:bs Z x=some (.pointer (some A))) (e:ia d=true) (s:U.length=size) (j:Rd w (some A) U)
 (h:O P n ops rest (cE Z dst (.agg U.toArray)) w Q):O P n ops (⟨dst,.load t x,ty,pos,after,g⟩::rest) Z w Q:=
 dL o l (λa m=>by
  obtain⟨i,q,_,r,_⟩:=p.parts;have c:=p8 (P:=P) w A U (λJ v u=>by obtain⟨b,f,k⟩:=j J v u;cases f;exact k);rw [s] at c;simp [execOp,m.eval y,Instr.loadAt,Instr.sureAddr,loadVar,ky hu.h,e,sizeOf,typeInfo,q,r,c]) h
theorem cC{t:TypeId}{x y:Operand}{z:Value}{bytes:Nat}{o:World}{F:List Nat}{ae:List (List Chunk)}{b off:Nat}{c:Array Value}{e:TypeId}{v:Value}[r:cn P t z 1 bytes]
 (d:C o F ([(b,.cells c e (0,0))]::ae) w) (q:cW ops Z g=some true)
 (A:bs Z x=some (.pointer (some ⟨b,off,none⟩))) (B:bs Z y=some v) (l:v.oneCell'=true) (D:off<c.size)
 (h:∀aK,C o F ([(b,.cells (c.setIfInBounds off v) e (0,0))]::ae) aK->O P n ops rest Z aK Q):O P n ops (⟨none,.store t x y,ty,pos,after,g⟩::rest) Z w Q:=
 tM q j (λa k=>by
  obtain⟨i,s,_,u,_⟩:=r.parts;have h9:w.cell? ⟨b,off,none⟩=some c[off]:=d.cell (by simp);have E:w.cell? ((⟨b,off,none⟩:Addr).add 0)=some c[off]:=by simpa [Addr.add] using h9
  have p:w.frozen? ⟨b,off,none⟩=false:=by simp [World.frozen?,d.first]
  have m:v.cells= #[v]:=by cases v<;>first|rfl|simp [Value.oneCell'] at l
  have f:=run_store P w ⟨b,off,none⟩ v .plain l;rw [h9] at f;simp only [p] at f;simp only [execOp,k.eval A,k.eval B,Instr.storeAt,Instr.sureAddr,storeVar,m,sizeOf,typeInfo,dQ,ei,dU,me,s,u];simp [storeCells,Addr.add,f]) (h _ (d.setCell off v)) (cT.cells d.first (λ_ aa=>vc _ v aa))
theorem lr{t:TypeId}{x:Operand}{v:Value}{o:World}{F:List Nat}{ae:List (List Chunk)}(c:C o F ae w)(f:cW ops Z g=some true)(e:da n dst=true)
 (i:bs Z x=some v)
 (h:∀b aK,C o F ([(b,.cells v.cells t (0,0))]::ae) aK->O P n ops rest (cE Z dst (.pointer (some ⟨b,0,none⟩))) aK Q):O P n ops (⟨dst,.box t x,ty,pos,after,g⟩::rest) Z w Q:=
 dL f e (λa d=>by simp [execOp,d.eval i,Instr.box,newVar,newRow]) (h _ _ (c.alloc _)) (aa:=cT.alloc _ _)
theorem ex{t:TypeId}{z:Value}{size bytes:Nat}[f:cn P t z size bytes]{o:World}{F:List Nat}{ae:List (List Chunk)}(c:C o F ae w)(e:cW ops Z g=some true)(d:da n dst=true)
 (h:∀b aK,C o F ([(b,.cells z.cells t (0,0))]::ae) aK->O P n ops rest (cE Z dst (.pointer (some ⟨b,0,none⟩))) aK Q):O P n ops (⟨dst,.alloc t,ty,pos,after,g⟩::rest) Z w Q:=
 dL e d (λa l=>by
  obtain⟨i,j,k,_⟩:=f.parts;simp [execOp,Instr.alloc,zeroValue,typeInfo,j,k,newVar,newRow]) (h _ _ (c.alloc _)) (aa:=cT.alloc _ _)
theorem cP{t:TypeId}{parts:Array (Nat×Operand)}{U:List Value}{c:Array Value}(e:cW ops Z g=some true)(d:da n dst=true)
 (j:fr Z (parts.toList.map (·.2))=some U) (f:∀w,(Instr.build t ((parts.toList.map (·.1)).zip U).toArray).run P w= .ok (.agg c) w)
 (h:O P n ops rest (cE Z dst (.agg c)) w Q):O P n ops (⟨dst,.build t parts,ty,pos,after,g⟩::rest) Z w Q:=
 dL e d (λa b=>by
  have:parts.map (λ(i,x)=>(i,a.eval x))=((parts.toList.map (·.1)).zip U).toArray:=by
   apply fC;rw [<-b.hr j];simp only [hn,oU];rw [List.zip_map'];rfl
  simp only [execOp,this,dQ,f,dU,ei]) h
theorem nO{t e:TypeId}{len:Nat}{parts:Array (Nat×Operand)}{U:List Value}{c:Array Value}{o:World}{F:List Nat}{ae:List (List Chunk)}(d:C o F ae w)
 (k:cW ops Z g=some true) (j:da n dst=true)
 (m:fr Z (parts.toList.map (·.2))=some U)
 (l:∀w,(Instr.buildSlice t len ((parts.toList.map (·.1)).zip U).toArray).run P w= .ok (.slice (some ⟨w.heap.size,0,none⟩) len len) {w with heap:=w.heap.push (.cells c e)})
 (h:∀b aK,C o F ([(b,.cells c e (0,0))]::ae) aK->O P n ops rest (cE Z dst (.slice (some ⟨b,0,none⟩) len len)) aK Q):O P n ops (⟨dst,.buildSlice t len parts,ty,pos,after,g⟩::rest) Z w Q:=
 dL k j (λa f=>by
  have:parts.map (λ(i,x)=>(i,a.eval x))=((parts.toList.map (·.1)).zip U).toArray:=by
   apply fC;rw [<-f.hr m];simp only [hn,oU];rw [List.zip_map'];rfl
  simp only [execOp,this,dQ,l,dU,ei];rfl) (h _ _ (d.alloc _)) (aa:=cT.alloc _ _)
theorem pQ{t e:TypeId}{x y:Operand}{A:Addr}{l c:Nat}{k:IntKind}{i:Int}{z:Value}{size bytes:Nat}[hu:bB P t (.slice e)][o:cn P e z size bytes]
 (m:cW ops Z g=some true) (j:da n dst=true)
 (r:bs Z x=some (.slice (some A) l c)) (s:bs Z y=some (.int k i)) (d:0<=i) (f:i<l)
 (h:O P n ops rest (cE Z dst (.pointer (some (A.add (i.toNat*size))))) w Q):O P n ops (⟨dst,.indexAddr t x y,ty,pos,after,g⟩::rest) Z w Q:=
 dL m j (λa b=>by
  obtain⟨J,p,_,q,_⟩:=o.parts;simp [execOp,b.eval r,b.eval s,Instr.indexAt,asIntOf,d7 hu.h,sizeOf,typeInfo,p,q,d,f]) h
theorem rv{t e:TypeId}{x y:Operand}{A:Option Addr}{l c:Nat}{k:IntKind}{i:Nat}{z:Value}{size bytes:Nat}[hu:bB P t (.slice e)][p:cn P e z size bytes]
 (m:cW ops Z g=some true) (j:da n dst=true)
 (r:bs Z x=some (.slice A l c)) (s:bs Z y=some (.int k i)) (u:i<=c)
 (h:O P n ops rest (cE Z dst (.slice A i c)) w Q):O P n ops (⟨dst,.slice t x none (some y) none,ty,pos,after,g⟩::rest) Z w Q:=
 dL m j (λa b=>by
  obtain⟨J,q,_,v,_⟩:=p.parts;have d:¬c<i:=by omega
  have f:A.map (λx=>x.add 0)=A:=by cases A<;>simp [Addr.add]
  simp [execOp,b.eval r,b.eval s,Instr.sliceAt,Instr.slice,Instr.sliceBounds,Instr.sliceBound,asIntOf,d7 hu.h,sizeOf,typeInfo,q,f];exact λo=>(d o).elim) h
theorem oD{t e:TypeId}{x y:Operand}{A:Option Addr}{l c:Nat}{k:IntKind}{i:Nat}{z:Value}{size bytes:Nat}[hu:bB P t (.slice e)][o:cn P e z size bytes]
 (j:cW ops Z g=some true) (f:da n dst=true)
 (r:bs Z x=some (.slice A l c)) (s:bs Z y=some (.int k i)) (u:i<=l)
 (h:O P n ops rest (cE Z dst (.slice (if c=i then A else A.map (·.add (i*size))) (l-i) (c-i))) w Q):O P n ops (⟨dst,.slice t x (some y) none none,ty,pos,after,g⟩::rest) Z w Q:=
 dL j f (λa b=>by
  obtain⟨J,p,_,q,_⟩:=o.parts;have d:¬l<i:=by omega
  simp [execOp,b.eval r,b.eval s,Instr.sliceAt,Instr.slice,Instr.sliceBounds,Instr.sliceBound,asIntOf,d7 hu.h,sizeOf,typeInfo,p,q];exact λm=>(d m).elim) h
theorem mS{t e:TypeId}{x:Operand}{A:Addr}{m:Nat}{z:Value}{size bytes:Nat}[hu:bB P t (.array m e)][j:cn P e z size bytes]
 (f:cW ops Z g=some true) (d:da n dst=true) (l:bs Z x=some (.pointer (some A)))
 (h:O P n ops rest (cE Z dst (.slice (some A) m m)) w Q):O P n ops (⟨dst,.slice t x none none none,ty,pos,after,g⟩::rest) Z w Q:=
 dL f d (λa c=>by
  obtain⟨i,k,_,o,_⟩:=j.parts;have b:A.add 0=A:=by simp [Addr.add]
  simp [execOp,c.eval l,Instr.sliceAt,Instr.sureAddr,Instr.sliceBounds,d7 hu.h,sizeOf,typeInfo,k,b]) h
theorem wN{t o:TypeId}{x y:Operand}{i J:Nat}(k:cW ops Z g=some true)(j:da n dst=true)
 (l:bs Z x=some (.int .i64 i)) (m:bs Z y=some (.int .i64 J)) (p:0<J)
 (h:O P n ops rest (cE Z dst (.int .i64 ((i%J:Nat):Int))) w Q):O P n ops (⟨dst,.binOp .rem t x y o,ty,pos,after,g⟩::rest) Z w Q:=
 dL k j (λa b=>by
  have c:¬(J:Int)=0:=by omega
  have d:(i:Int).tmod (J:Int)=((i%J:Nat):Int):=rfl;simp only [execOp,b.eval l,b.eval m];have e:eqGuard .rem t x y (.int .i64 (i:Int)) (.int .i64 (J:Int))=pure ():=rfl
  have f:(binOp .rem t (.int .i64 (i:Int)) (.int .i64 (J:Int))).run P w= .ok (.int .i64 ((i%J:Nat):Int)) w:=by
   show(Op.intDiv .rem .i64 (i:Int) (J:Int)).run P w=_;unfold Op.intDiv;simp only [d,aI c,ei]
  simp only [e,dQ,ei,dU,f]) h
theorem ru{f:Array TypeId}{args:Array Operand}{k:IntKind}{i J:Int}(d:cW ops Z g=some true)(c:da n dst=true)
 (e:fr Z args.toList=some [.int k i,.int k J])
 (h:O P n ops rest (cE Z dst (.int k (min i J))) w Q):O P n ops (⟨dst,.call ⟨.builtin .min,args,f⟩,ty,pos,after,g⟩::rest) Z w Q:=
 dL d c (λa b=>by
  have:args.map a.eval= #[.int k i,.int k J]:=by apply fC;rw [hn,b.hr e]
  have hm:(if J<i then J else i)=min i J:=by split<;>omega
  simp [execOp,resolve,this,invoke,builtin,Builtin.min_,Builtin.min2,hm]) h
theorem tL{f:Array TypeId}{args:Array Operand}{k:IntKind}{i J:Int}(d:cW ops Z g=some true)(c:da n dst=true)
 (e:fr Z args.toList=some [.int k i,.int k J])
 (h:O P n ops rest (cE Z dst (.int k (max i J))) w Q):O P n ops (⟨dst,.call ⟨.builtin .max,args,f⟩,ty,pos,after,g⟩::rest) Z w Q:=
 dL d c (λa b=>by
  have:args.map a.eval= #[.int k i,.int k J]:=by apply fC;rw [hn,b.hr e]
  have hm:(if J>i then J else i)=max i J:=by split<;>omega
  simp [execOp,resolve,this,invoke,builtin,Builtin.max_,Builtin.max2,hm]) h
theorem d9{t e:TypeId}{f:Array TypeId}{args:Array Operand}{z:Value}{size bytes:Nat}{o:World}{F:List Nat}{G:List Chunk}{ae:List (List Chunk)}{v:Value}{k m c:Nat}{A:Option Addr}{xs news:List Value}
 [hu:bB P t (.slice e)] [E:cn P e z size bytes] (r:C o F (G::ae) w) (p:Row e size v k xs G) (T:f= #[t,t]) (V:z.cells.size=size) (S:0<size)
 (D:cW ops Z g=some true) (B:da n dst=true)
 (U:fr Z args.toList=some [v,.slice A m c]) (M:news.length=m*size) (N:Rd w A news) (j:∀u∈news,u.oneCell'=true) (y:(k+m)*bytes<=140737488355328) (l:k+m<=maxLen)
 (h:∀d b aK,Row e size d (k+m) (xs++news) b->C o F (b::ae) aK->O P n ops rest (cE Z dst d) aK Q):O P n ops (⟨dst,.call ⟨.builtin .append,args,f⟩,ty,pos,after,g⟩::rest) Z w Q:=by
 obtain⟨i,H,I,J,K⟩:=E.parts;obtain⟨d,aK,b,R,q,s,L⟩:=Row.append (P:=P) (c:=c) t ty i z bytes hu.h H I J K V S r p M N j l y;refine dL D B (λa x=>?_) (h d b aK q s) (aa:=L);subst T;have:args.map a.eval= #[v,.slice A m c]:=by apply fC;rw [hn,x.hr U]
 simp only [execOp,resolve,invoke,builtin,dQ,ei,dU,this,R]
theorem wF{f:FuncId}{o:Array TypeId}{args:Array Operand}{U:List Value}{ag:Value->World->Prop}[br:Entry P f](l:cW ops Z g=some true)(k:da n dst=true)
 (m:fr Z args.toList=some U) (j:Calls P f U.toArray w ag)
 (h:∀v aK,ag v aK->O P n ops rest (cE Z dst v) aK Q):O P n ops (⟨dst,.call ⟨.value (.func f),args,o⟩,ty,pos,after,g⟩::rest) Z w Q:=by
 obtain⟨fn,b,c,d⟩:=br.h;refine wJ (f:=f) (U:=U.toArray) (aK:=w) l k (λa i=>?_) j h;have:args.map a.eval=U.toArray:=by apply fC;rw [hn,i.hr m]
 have e:fn.body.isNone=false:=d;simp only [execOp,resolve,this,Act.eval,Deferred.ofValue,invoke,callFunc,b,c,e,dQ,ei,dU,me,p9,Array.append_empty,if_false,Bool.false_eq_true]
end
theorem En:∀(U:List Value)(k:Nat)(cells:Array Value),(∀v∈U,v.oneCell'=true)->k+U.length<=cells.size->
 ∃r,Instr.fill (λi=>some (i*1,1)) cells ((List.range' k U.length).zip U)=some r/\r.size=cells.size/\∀i,r[i]? =if k<=i/\i<k+U.length then U[i-k]? else cells[i]? :=by
 intro U;induction U with
 |nil=>intro k cells _ _;exact⟨cells,j,j,λi=>by rw [aI (by simp)]⟩
 |cons v U g=>
  intro k cells a aa;have f:v.cells= #[v]:=by have:=a v (by simp);cases v<;>first|rfl|simp [Value.oneCell'] at this
  simp only [ez] at aa;obtain⟨r,e,aL,d⟩:=g (k+1) (cells.setIfInBounds k v) (λu hu=>a u (by simp [hu])) (by simp;omega);refine⟨r,?_,by simpa using aL,λi=>?_⟩
  .simp only [ez,List.range'_succ,t7,Instr.fill,f];rw [aI (by simp;omega)];simpa using e
  .rw [d i];by_cases c:i=k
   .subst c;rw [aI (by omega),a6 (by simp)];have:i<cells.size:=by omega
    simp [this]
   .by_cases b:k+1<=i/\i<k+1+U.length
    .rw [a6 b,a6 (by simp;omega)];rw [show i-k=(i-(k+1))+1 by omega];simp
    .rw [aI b,aI (by simp;omega)];simp [Ne.symm c]
theorem Hy{P:Program}{t e:TypeId}{z:Value}{bytes:Nat}(hu:P.underlying t=some (.slice e))(j:cn P e z 1 bytes)(U:List Value)(f:∀v∈U,v.oneCell'=true)(p:U.length<=16777216)(w:World):
 (Instr.buildSlice t U.length ((List.range U.length).zip U).toArray).run P w= .ok (.slice (some ⟨w.heap.size,0,none⟩) U.length U.length) {w with heap:=w.heap.push (.cells U.toArray e)}:=by
 obtain⟨i,a,k,l,_⟩:=j.parts
 have key:∀cells:Array Value,cells.size=U.length->Instr.fill (λi=>some (i*1,1)) cells ((List.range U.length).zip U)=some U.toArray:=by
  intro cells g;obtain⟨r,o,aL,h⟩:=En U 0 cells f (by omega);rw [List.range_eq_range',o]
  congr 1
  apply Array.ext (by simp [aL,g]);intro J m b;have:=h J;rw [a6 (by omega)] at this;simp only [Nat.sub_zero] at this;simp at b;rw [Array.getElem?_eq_getElem m,cf b] at this;simpa using this
 unfold Instr.buildSlice;have n:¬U.length*1>2^24:=by omega
 by_cases c:U.length=0
 .have:U=[]:=mc c;subst this;simp [d7 hu,sizeOf,typeInfo,a,Instr.fill,newRow,show Array.range 0= #[] from by simp [Array.range]]
 .have d:¬U.length*1=0:=by omega
  simp only [dQ,d7 hu,dU,sizeOf,typeInfo,me,a,ei,l,n,d,lx,zeroValue,k];rw [key _ (by simp)];simp [newRow]
section
variable {P:Program} {n:Fr} {Z:Env} {w:World} {Q:d6} {ops:Array Oper} {rest:List Oper}
 {dst:Option Nat} {ty:TypeId} {pos:String} {after:Array Edge} {g:Option (Nat×Bool)}
theorem eO{t e:TypeId}{len:Nat}{parts:Array (Nat×Operand)}{U:List Value}{z:Value}{bytes:Nat}{o:World}{F:List Nat}{ae:List (List Chunk)}[hu:bB P t (.slice e)][i:cn P e z 1 bytes](c:C o F ae w)
 (f:cW ops Z g=some true) (d:da n dst=true)
 (l:fr Z (parts.toList.map (·.2))=some U) (k:U.length=len) (j:parts.toList.map (·.1)=List.range len) (a:U.all (·.oneCell')=true) (hlen:len<=16777216)
 (h:∀b aK,C o F ([(b,.cells U.toArray e (0,0))]::ae) aK->O P n ops rest (cE Z dst (.slice (some ⟨b,0,none⟩) len len)) aK Q):O P n ops (⟨dst,.buildSlice t len parts,ty,pos,after,g⟩::rest) Z w Q:=by
 subst k;exact nO c f d l (λw=>by rw [j];exact Hy hu.h i U (by simpa using a) hlen w) h
theorem fz{t e:TypeId}{x y:Operand}{A:Option Addr}{l c J:Nat}{k:IntKind}{U:List Value}{v z:Value}{size bytes:Nat}[hu:bB P t (.slice e)][r:cn P e z size bytes]
 (f:cW ops Z g=some true) (d:da n dst=true)
 (o:bs Z x=some (.slice A l c)) (p:bs Z y=some (.int k J)) (i:Rd w A U) (m:U[J*size]? =some v) (q:J<l)
 (h:∀a,A=some a->w.cell? (a.add (J*size))=some v->O P n ops rest (cE Z dst (.pointer (some (a.add (J*size))))) w Q):O P n ops (⟨dst,.indexAddr t x y,ty,pos,after,g⟩::rest) Z w Q:=by
 obtain⟨a,rfl,b⟩:=i _ _ m;exact pQ f d o p (by omega) (by omega) (by simpa using h a j b)
end
section
variable {P:Program} {n:Fr} {Z:Env} {w:World} {Q:d6} {ops:Array Oper} {rest:List Oper}
 {dst:Option Nat} {ty:TypeId} {pos:String} {after:Array Edge} {g:Option (Nat×Bool)}
theorem wH{f x e:TypeId}{B:Array TypeId}{args:Array Operand}{z:Value}{bytes:Nat}{o:World}{F:List Nat}{ae:List (List Chunk)}{b off dl j m l:Nat}{c:Array Value}{hq:TypeId}{D A:Option Addr}{news:List Value}
 [hu:bB P f (.slice e)] [L:cn P e z 1 bytes] (d:C o F ([(b,.cells c hq (0,0))]::ae) w) (N:B= #[f,x]) (K:cW ops Z g=some true) (H:da n dst=true)
 (S:fr Z args.toList=some [.slice D dl j,.slice A m l]) (s:news.length=Nat.min m dl) (G:news=[]\/D=some ⟨b,off,none⟩) (y:Rd w A news) (E:∀v∈news,v.oneCell'=true) (I:off+news.length<=c.size)
 (h:∀aK,C o F ([(b,.cells (c.toList.take off++news++c.toList.drop (off+news.length)).toArray hq (0,0))]::ae) aK->O P n ops rest (cE Z dst (.int .i64 news.length)) aK Q):O P n ops (⟨dst,.call ⟨.builtin .copy,args,B⟩,ty,pos,after,g⟩::rest) Z w Q:=by
 obtain⟨i,q,_,M,_⟩:=L.parts;subst N
 have key:(Builtin.copy_ #[f,x] ty #[.slice D dl j,.slice A m l]).run P w= .ok (goInt news.length) (w.setRow b (c.toList.take off++news++c.toList.drop (off+news.length)).toArray):=by
  rcases G with rfl|rfl
  .have u:Nat.min m dl=0:=by simpa using s.symm
   have t:w.setRow b (c.toList.take off++([]:List Value)++c.toList.drop (off+([]:List Value).length)).toArray=w:=by
    simp only [gY,gk,oV,m5,uc];exact setRow_self w b c hq (0,0) d.first
   rw [t];cases D<;>cases A<;>simp [Builtin.copy_,d7 hu.h,Builtin.lenOf,Builtin.firstCells,sizeOf,typeInfo,q,u,storeCells,loadCells,loadCellsFrom]
  .cases A with
   |none=>
    have aJ:news=[]:=by
     cases news with
     |nil=>rfl
     |cons v r=>obtain⟨a,p,_⟩:=y 0 v (by simp);cases p
    subst aJ;have u:Nat.min m dl=0:=by simpa using s.symm
    have t:w.setRow b (c.toList.take off++([]:List Value)++c.toList.drop (off+([]:List Value).length)).toArray=w:=by
     simp only [gY,gk,oV,m5,uc];exact setRow_self w b c hq (0,0) d.first
    rw [t];simp [Builtin.copy_,d7 hu.h,Builtin.lenOf,Builtin.firstCells,sizeOf,typeInfo,q,u,storeCells]
   |some a=>exact run_copy_row P w f x ty e b off dl j a m l c hq news hu.h (by simp [q,M]) d.first s (λJ v R=>y.cell R) I E
 refine dL K H (λa p=>?_) (h _ d.setRow) (aa:=cT.cells d.first (λk aa=>setRow_other w b k _ aa));have:args.map a.eval= #[.slice D dl j,.slice A m l]:=by apply fC;rw [hn,p.hr S]
 simp only [execOp,resolve,invoke,builtin,dQ,ei,dU,this,key];rfl
end
section
variable {P:Program} {n:Nat} {Z:Env} {w:World} {dst:Option Nat} {ty:TypeId} {pos:String} {after:Array Edge} {g:Option (Nat×Bool)}
theorem Bx{x:Operand}{v:Value}(c:bs Z x=some v):∀a,cF Z n a->(execOp a.eval ⟨dst,.move x,ty,pos,after,g⟩).run P w= .ok (.value v) w:=
 λa b=>by simp [execOp,b.eval c]
theorem Bm{x:Operand}{v:Value}(c:bs Z x=some v):∀a,cF Z n a->(execOp a.eval ⟨dst,.assign x,ty,pos,after,g⟩).run P w= .ok (.value v) w:=
 λa b=>by simp [execOp,b.eval c]
theorem BA{x:Operand}{A:Addr}(c:bs Z x=some (.pointer (some A))):∀a,cF Z n a->(execOp a.eval ⟨dst,.nilCheck x,ty,pos,after,g⟩).run P w= .ok (.value (.pointer (some A))) w:=
 λa b=>by simp [execOp,b.eval c]
theorem BE{c x y:Operand}{v:Value}(d:bs Z c=some (.bool true))(e:bs Z x=some v):∀a,cF Z n a->(execOp a.eval ⟨dst,.pick c x y,ty,pos,after,g⟩).run P w= .ok (.value v) w:=
 λa b=>by simp [execOp,b.eval d,b.eval e,asBool]
theorem BD{c x y:Operand}{v:Value}(d:bs Z c=some (.bool false))(e:bs Z y=some v):∀a,cF Z n a->(execOp a.eval ⟨dst,.pick c x y,ty,pos,after,g⟩).run P w= .ok (.value v) w:=
 λa b=>by simp [execOp,b.eval d,b.eval e,asBool]
theorem dq{op:BinOp}{t f:TypeId}{x y:Operand}{k:IntKind}{i J:Int}{v:Value}(d:bs Z x=some (.int k i))(e:bs Z y=some (.int k J))(c:evalBin op k i J=some v):
 ∀a,cF Z n a->(execOp a.eval ⟨dst,.binOp op t x y f,ty,pos,after,g⟩).run P w= .ok (.value v) w:=
 λa b=>by
  cases op<;>simp [evalBin] at c<;>subst c<;>simp [execOp,b.eval d,b.eval e,eqGuard,binOp,Op.intArith,Op.intBits,Op.intCmp]
theorem kC{s t:TypeId}{d:TypeDesc}{x:Operand}{k db:IntKind}{i:Int}[aL:bB P s d][e:bB P t (.int db)](f:bs Z x=some (.int k i)){J:Int}(c:db.wrap i=J):
 ∀a,cF Z n a->(execOp a.eval ⟨dst,.convert s t x,ty,pos,after,g⟩).run P w= .ok (.value (.int db J)) w:=
 λa b=>by
  subst c;simp [execOp,b.eval f,convert,d7 aL.h,d7 e.h,Conv.intToInt]
theorem Bq{s:TypeId}{f off b I:Nat}{x:Operand}[br:pL P s f off](o:bs Z x=some (.pointer (some ⟨b,I,none⟩))):
 ∀a,cF Z n a->(execOp a.eval ⟨dst,.fieldAddr s x f,ty,pos,after,g⟩).run P w= .ok (.value (.pointer (some ⟨b,I+off,none⟩))) w:=
 λa l=>by
  obtain⟨gK,k5,e,j,k,d⟩:=br.h;cases c:P.info? k5.type with
  |none=>simp [c] at d
  |some i=>
   have m:i.size≠0:=by simpa [c] using d
   subst k;simp [execOp,l.eval o,Instr.fieldAt,d7 e,j,Instr.sureAddr,fieldPlace,sizeOf,typeInfo,c,m,add_lit]
theorem hK{t:TypeId}{d:TypeDesc}{x:Operand}{A:Addr}{v:Value}[hu:bB P t d](f:bs Z x=some (.pointer (some A)))(b:ia d=false)(c:w.cell? A=some v):
 ∀a,cF Z n a->(execOp a.eval ⟨dst,.load t x,ty,pos,after,g⟩).run P w= .ok (.value v) w:=
 λa e=>by
  simp [execOp,e.eval f,Instr.loadAt,Instr.sureAddr,loadVar,ky hu.h,b,c]
theorem Br{t e:TypeId}{x y:Operand}{A:Addr}{l c:Nat}{k:IntKind}{i:Int}{z:Value}{size bytes:Nat}[hu:bB P t (.slice e)][j:cn P e z size bytes]
 (p:bs Z x=some (.slice (some A) l c)) (q:bs Z y=some (.int k i)) (d:0<=i) (f:i<l):
 ∀a,cF Z n a->(execOp a.eval ⟨dst,.indexAddr t x y,ty,pos,after,g⟩).run P w= .ok (.value (.pointer (some (A.add (i.toNat*size))))) w:=
 λa b=>by
  obtain⟨J,m,_,o,_⟩:=j.parts;simp [execOp,b.eval p,b.eval q,Instr.indexAt,asIntOf,d7 hu.h,sizeOf,typeInfo,m,o,d,f]
theorem Bu{t e:TypeId}{b:Array TypeId}{args:Array Operand}{A:Option Addr}{l c:Nat}[hu:bB P t (.slice e)](f:b= #[t])(i:fr Z args.toList=some [.slice A l c]):
 ∀a,cF Z n a->(execOp a.eval ⟨dst,.call ⟨.builtin .len,args,b⟩,ty,pos,after,g⟩).run P w= .ok (.value (.int .i64 l)) w:=
 λa d=>by
  subst f;have:args.map a.eval= #[.slice A l c]:=by apply fC;rw [hn,d.hr i]
  simp [execOp,resolve,this,invoke,builtin,Builtin.len_,d7 hu.h,goInt]
theorem wx{d:Array TypeId}{args:Array Operand}{k:IntKind}{i J:Int}(c:fr Z args.toList=some [.int k i,.int k J]):
 ∀a,cF Z n a->(execOp a.eval ⟨dst,.call ⟨.builtin .max,args,d⟩,ty,pos,after,g⟩).run P w= .ok (.value (.int k (max i J))) w:=
 λa b=>by
  have:args.map a.eval= #[.int k i,.int k J]:=by apply fC;rw [hn,b.hr c]
  have hm:(if J>i then J else i)=max i J:=by split<;>omega
  simp [execOp,resolve,this,invoke,builtin,Builtin.max_,Builtin.max2,hm]
theorem BB{t:TypeId}{x:Operand}{b:Bool}(d:bs Z x=some (.bool b)):∀a,cF Z n a->(execOp a.eval ⟨dst,.unOp .not t x,ty,pos,after,g⟩).run P w= .ok (.value (.bool (!b))) w:=
 λa c=>by simp [execOp,c.eval d,Op.unary]
theorem rl{t e:TypeId}{x y:Operand}{b:Addr}{l c J:Nat}{k:IntKind}{z:Value}{size bytes:Nat}[hu:bB P t (.slice e)][i:cn P e z size bytes]
 (d:bs Z x=some (.slice (some b) l c)) (f:bs Z y=some (.int k J)) (h:J<l):
 ∀a,cF Z n a->(execOp a.eval ⟨dst,.indexAddr t x y,ty,pos,after,g⟩).run P w= .ok (.value (.pointer (some (b.add (J*size))))) w:=by
 have:=Br (P:=P) (n:=n) (w:=w) (dst:=dst) (ty:=ty) (pos:=pos) (after:=after) (g:=g) (Z:=Z) (t:=t) (e:=e) (z:=z) (size:=size) (bytes:=bytes) d f (by omega) (by omega);simpa using this
end
class rm(P:Program):Prop where
 h:P.follows .mixedOrders=true
def Gg(ops:Array Oper):Bool:=ops.all λI=>match I.op with| .defer _=>false|_=>true
def calm(ops:Array Oper):Bool:=Region.noSelect ops&&Gg ops
theorem calm.At{ops:Array Oper}(h:calm ops=true):Region.noSelect ops=true:=by unfold calm at h;simp only [Bool.and_eq_true] at h;exact h.1
theorem calm.def{ops:Array Oper}(h:calm ops=true){J:Nat}{I:Oper}(a:ops[J]? =some I)(c:Call):I.op≠.defer c:=by
 unfold calm at h;simp only [d8] at h;intro he;have b:=Array.all_eq_true.1 h.2 J (gv.1 a).1;have d:ops[J]'((gv.1 a).1)=I:=(gv.1 a).2;rw [d,he] at b;cases b
section
variable {P:Program} {F:Fence} {ops:Array Oper} {bb:World->Prop} {Q:Exit->Act->World->Prop}
def waits(ops:Array Oper)(J i:Nat):Bool:=match ops[J]? with
 |some y=>y.after.toList.any λe=>Region.binds .any e&&e.on==i
 |none=>false
def nI(ops:Array Oper):Nat->Nat->Nat->Bool
 |0,_,_=>false
 |d+1,J,i=>waits ops J i||(List.range ops.size).any λm=>waits ops J m&&nI ops d m i
def ov(ops:Array Oper)(J i:Nat):Bool:=nI ops 7 J i
def lM(ops:Array Oper)(J:Nat):Bool:=(List.range ops.size).all λi=>i==J||ov ops J i||ov ops i J
theorem waits.on{ops:Array Oper}{i J:Nat}(h:waits ops J i=true):∃y,ops[J]? =some y/\∃e∈y.after,Region.binds .any e=true/\e.on=i:=by
 unfold waits at h;split at h
 .rename_i y c;simp only [kl,d8,dY] at h;obtain⟨e,he,a,b⟩:=h;exact⟨y,c,e,by simpa using he,a,b⟩
 .cases h
def lZ(ops:Array Oper)(l:Array Bool):Prop:=∀(J:Nat)(y:Oper),ops[J]? =some y->l.getD J false=true->∀e∈y.after,Region.binds .any e=true->l.getD e.on false=true
def ql(ops:Array Oper)(l:Array Bool):Bool:=(List.range ops.size).all λJ=> !(l.getD J false)||(match ops[J]? with|some y=>y.after.toList.all λe=> !Region.binds .any e||l.getD e.on false|none=>true)
theorem ql.spec{ops:Array Oper}{l:Array Bool}(h:ql ops l=true):lZ ops l:=λJ y c f e he d=>by
 unfold ql at h;simp only [jW,m6] at h;have a:=h J (gv.1 c).1;rw [c,f] at a;simp only [Bool.not_true,Bool.false_or,jW] at a;have b:=a e (by simpa using he);rw [d] at b;simpa using b
theorem lZ.set{ops:Array Oper}{l:Array Bool}{J:Nat}(h:lZ ops l)(k:J∈Region.ready .any ops l):lZ ops (l.setIfInBounds J true):=λm z d hm e he f=>by
 obtain⟨o,y,n,j⟩:=oW.1 k
 have mono:∀i,l.getD i false=true->(l.setIfInBounds J true).getD i false=true:=λi a=>by
  rcases oX (J=i) with rfl|c
  .rw [qb] at a⊢;cases g:l[J]? with
   |none=>rw [g] at a;cases a
   |some b=>rw [t8 (gv.1 g).1];rfl
  .rw [qb] at a⊢;rw [qc c];exact a
 rcases oX (J=m) with rfl|c
 .rw [n] at d;cases d;exact mono _ (j e he f)
 .refine mono _ (h m z d ?_ e he f);rw [qb] at hm⊢;rw [qc c] at hm;exact hm
theorem nI.done{ops:Array Oper}{i:Nat}{l:Array Bool}(c:lZ ops l):∀(d:Nat){J:Nat},nI ops d J i=true->l.getD J false=true->l.getD i false=true
 |0,_,h,_=>by cases h
 |d+1,J,h,j=>by
  rw [nI] at h;simp only [m7,kl,d8] at h;rcases h with a|⟨m,_,a,k⟩
  .obtain⟨y,g,e,he,b,f⟩:=waits.on a;rw [<-f];exact c J y g j e he b
  .obtain⟨y,g,e,he,b,f⟩:=waits.on a;exact nI.done c d k (by rw [<-f];exact c J y g j e he b)
theorem ov.done{ops:Array Oper}{i J:Nat}{l:Array Bool}(h:ov ops J i=true)(n:J∈Region.ready .any ops l)(k:lZ ops l):l.getD i false=true:=by
 obtain⟨p,y,g,f⟩:=oW.1 n;unfold ov at h;rw [nI] at h;simp only [m7,kl,d8] at h;rcases h with b|⟨m,_,b,j⟩
 .obtain⟨o,a,e,he,c,d⟩:=waits.on b;rw [g] at a;cases a;rw [<-d];exact f e he c
 .obtain⟨o,a,e,he,c,d⟩:=waits.on b;rw [g] at a;cases a;exact nI.done k 6 j (by rw [<-d];exact f e he c)
theorem zv{l:Array Bool}{i:Nat}(a:l.getD i false=true)(c:l.getD i true=false):False:=by
 rw [qb] at a c;cases d:l[i]? with
 |none=>rw [d] at a;exact absurd a (by decide)
 |some b=>rw [d] at a c;exact absurd (a.symm.trans c) (by decide)
theorem lM.no{ops:Array Oper}{i J:Nat}{x:Oper}{l:Array Bool}(h:lM ops J=true)(e:ops[i]? =some x)(d:i∈Region.ready .any ops l)(c:J∈Region.ready .any ops l)(f:J≠i)(b:lZ ops l):False:=by
 unfold lM at h;simp only [jW,m6] at h;have a:=h i (gv.1 e).1;simp only [m7,dY] at a;rcases a with(a|a)|a
 .exact absurd a.symm f
 .exact zv (ov.done a c b) (oW.1 d).1
 .exact zv (ov.done a d b) (oW.1 c).1
def hg(P:Program)(F:Fence)(ops:Array Oper)(bb:World->Prop)(Q:Exit->Act->World->Prop):Nat->Array Bool->Act->World->Prop
 |0,l,a,w=>Region.ready .any ops l=[]/\Q .normal a w
 |k+1,l,a,w=>(Region.ready .any ops l=[]->Q .normal a w)/\
  ∀i∈Region.ready .any ops l,wpOpIn F 0 P ops Q i (λa w=>(lM ops i=true\/bb w)/\hg P F ops bb Q k (l.setIfInBounds i true) a w) a w
theorem hg.any:∀(k:Nat)(l:Array Bool)(a:Act)(w:World),hg P F ops bb Q k l a w->wpAnyIn F 0 P .any ops Q k l a w
 |0,_,_,_,h=>h
 |k+1,_,_,_,h=>⟨h.1,λi b=>wpOpIn_mono (λa w h=>hg.any k _ a w h.2) (h.2 i b)⟩
theorem IY{i:Nat}{K:Act->World->Prop}{hN:Exit->Act->World->Prop}{a:Act}{w:World}(c:∀e a w,Q e a w->hN e a w)(h:wpOpIn F 0 P ops Q i K a w):wpOpIn F 0 P ops hN i K a w:=by
 unfold wpOpIn at*;split
 .rename_i aJ;simp only [aJ] at h;exact h
 .rename_i I f;simp only [f] at h;split
  .rename_i hw;rw [a6 hw] at h;refine⟨h.1,?_⟩;have b:=h.2;cases d:(I.semAt F.round a.eval).run P w with
   |ok g j=>
    rw [d] at b
    cases g<;>first
     |exact b
     |exact⟨b.1,ly b.2 λe k he=>by
      cases e<;>first|exact he|exact c _ _ _ he|exact(let⟨a,w,h⟩:=he;⟨a,w,c _ _ _ h⟩)⟩
     |exact⟨b.1,qa b.2 λe k he=>by
      cases e<;>first|exact he|exact c _ _ _ he|exact(let⟨a,w,h⟩:=he;⟨a,w,c _ _ _ h⟩)⟩
   |halt l j=>rw [d] at b;cases l<;>first|exact b|exact c _ _ _ b
  .rename_i hw;rw [aI hw] at h;exact h
theorem hg.post{hN:Exit->Act->World->Prop}(b:∀e a w,Q e a w->hN e a w):∀(k:Nat)(l:Array Bool)(a:Act)(w:World),hg P F ops bb Q k l a w->hg P F ops bb hN k l a w
 |0,_,_,_,h=>⟨h.1,b _ _ _ h.2⟩
 |k+1,_,_,_,h=>⟨λc=>b _ _ _ (h.1 c),λi d=>IY b (wpOpIn_mono (λa w h=>⟨h.1,hg.post b k _ a w h.2⟩) (h.2 i d))⟩
def jw(P:Program)(ops:Array Oper)(bb:World->Prop)(I:Oper)(v:Value)(a:Act):Prop:=
 if Region.wanted I (yielded ops a.tmps)=true then∀w,bb w->(execOp a.eval I).run P w= .ok (.value v) w else v=undef
theorem rS{r:Option Nat}(f:FuncId):(jR r).fn f:=trivial
theorem jw.op{r:Option Nat}{i:Nat}{I:Oper}{v:Value}{a:Act}{w:World}{K:Act->World->Prop}(d:ops[i]? =some I)(aJ:∀c,I.op≠.defer c)(h:jw P ops bb I v a)(hw:bb w)(k:K (a.put I.dst v) w):wpOpIn (jR r) 0 P ops Q i K a w:=by
 unfold jw at h;unfold wpOpIn;rw [d];dsimp only;by_cases b:Region.wanted I (yielded ops a.tmps)=true
 .rw [a6 b] at h⊢;refine⟨λf _=>rS f,?_⟩;rw [nZ _ _ _ aJ,h w hw];exact k
 .rw [aI b] at h⊢;rw [<-h];exact⟨λf _=>rS f,k⟩
theorem jw.fX{I:Oper}{v:Value}{a b:Act}(h:jw P ops bb I v a)(he:execOp b.eval I=execOp a.eval I)(hw:Region.wanted I (yielded ops b.tmps)=Region.wanted I (yielded ops a.tmps)):jw P ops bb I v b:=by
 unfold jw at*;rw [he,hw];exact h
theorem Gy{r:Option Nat}{J:Nat}{x y:Oper}{v:Value}{a:Act}{w:World}{K:Act->World->Prop}(z:ops[J]? =some y)(s:x.apart ops y=true)(o:∀cs b,x.op≠.select cs b)(B:∀cs b,y.op≠.select cs b)(k:∀c,y.op≠.defer c)
 (j:∀c a w,Q (.panic c) (a.put x.dst v) w->Q (.panic c) a w) (g:jw P ops bb x v a) (h:wpOpIn (jR r) 0 P ops Q J K (a.put x.dst v) w):
 wpOpIn (jR r) 0 P ops Q J (λa w=>jw P ops bb x v a/\K (a.put x.dst v) w) a w:=by
 obtain⟨l,q,i⟩:=Oper.apart_spec s;have still:∀b:Act,jw P ops bb x v b->∀u,jw P ops bb x v (b.put y.dst u):=λb t u=>t.fX (execOp_put x o b y.dst u i) (wanted_put x b y.dst u i)
 have swap:∀(b:Act)(u:Value),K ((b.put x.dst v).put y.dst u)=K ((b.put y.dst u).put x.dst v):=λb u=>by rw [Act.put_comm b v u q]
 have same:execOp (a.put x.dst v).eval y=execOp a.eval y:=execOp_put y B a x.dst v l;unfold wpOpIn at h⊢;rw [z] at h⊢;dsimp only at h⊢;rw [wanted_put y a x.dst v l] at h;by_cases n:Region.wanted y (yielded ops a.tmps)=true
 .rw [a6 n] at h⊢;refine⟨λf _=>rS f,?_⟩;have d:=h.2;rw [nZ _ _ _ k,same] at d;rw [nZ _ _ _ k];cases m:(execOp a.eval y).run P w with
  |ok A C=>
   rw [m] at d
   cases A<;>dsimp only [Oper.uponIn] at d⊢<;>first
    |exact d.elim
    |exact⟨still a g _,by rw [<-swap];exact d⟩
    |(refine⟨d.1,ly d.2 λe p he=>?_⟩
      cases e with
      |returned u=>exact⟨still a g u,by rw [<-swap];exact he⟩
      |panicked c=>exact j _ _ _ he
      |outgrown=>exact he)
    |(refine⟨d.1,qa d.2 λe p he=>?_⟩
      cases e with
      |returned u=>exact⟨still a g u,by rw [<-swap];exact he⟩
      |panicked c=>exact j _ _ _ he
      |outgrown=>exact he)
    |exact⟨d.1,RowsIn.mono d.2 λu p he=>⟨still a g u,by rw [<-swap];exact he⟩⟩
    |(refine⟨jw.fX g (execOp_put x o {a with defers:=_} y.dst undef i) (wanted_put x {a with defers:=_} y.dst undef i),?_⟩
      rw [<-swap,<-Act.put_defers];exact d)
  |halt D C=>
   rw [m] at d
   cases D<;>dsimp only [Oper.uponIn] at d⊢<;>first
    |exact d.elim
    |exact j _ _ _ d
 .rw [aI n] at h⊢;exact⟨λf _=>rS f,still a g _,by rw [<-swap];exact h.2⟩
theorem hg.first{r:Option Nat}{i:Nat}{x:Oper}{v:Value}(f:ops[i]? =some x)(aL:∀(J:Nat)(I:Oper)cs b,ops[J]? =some I->I.op≠.select cs b)(u:∀(J:Nat)(I:Oper)c,ops[J]? =some I->I.op≠.defer c)(V:∀c a w,Q (.panic c) (a.put x.dst v) w->Q (.panic c) a w):
 ∀(k:Nat)(l:Array Bool)(a:Act)(w:World),bb w->lZ ops l->
  (∀J y,ops[J]? =some y->J≠i->l.getD J true=false->(∀e∈y.after,Region.binds .any e=true->e.on≠i)->x.apart ops y=true)->
  i∈Region.ready .any ops l->jw P ops bb x v a->hg P (jR r) ops bb Q k (l.setIfInBounds i true) (a.put x.dst v) w->hg P (jR r) ops bb Q (k+1) l a w:=by
 intro k;induction k with
 |zero=>
  intro l a w o _ _ j q h;refine⟨λt=>absurd (t▸j) (by simp),λJ g=>?_⟩;rcases oX (J=i) with rfl|d
  .exact q.op f (λc=>u _ _ c f) o ⟨.inr o,h⟩
  .have C:=ready_mono g d;rw [h.1] at C;simp at C
 |succ k X=>
  intro l a w o B br j q h;refine⟨λt=>absurd (t▸j) (by simp),λJ g=>?_⟩;rcases oX (J=i) with rfl|d
  .exact q.op f (λc=>u _ _ c f) o ⟨.inr o,h⟩
  .obtain⟨F,y,s,K⟩:=oW.1 g;have A:=(oW.1 j).1
   have U:∀e∈y.after,Region.binds .any e=true->e.on≠i:=λe he L M=>by
    have n:=K e he L;subst M;rw [qb] at n A;cases E:l[e.on]? with
    |none=>rw [E] at n;exact absurd n (by decide)
    |some b=>rw [E] at n A;exact absurd (n.symm.trans A) (by decide)
   have H:=Gy s (br J y s d F U) (λcs b=>aL i x cs b f) (λcs b=>aL J y cs b s) (λc=>u J y c s) V q (h.2 J (ready_mono g d))
   have T:¬lM ops J=true:=λO=>by
    exact lM.no O f j g d B
   refine wpOpIn_mono (λG aK p=>⟨p.2.1,X (l.setIfInBounds J true) G aK (p.2.1.resolve_left T) (B.set g) ?_ (ready_mono j (Ne.symm d)) p.1 ?_⟩) H
   .intro m z W R D S;refine br m z W R ?_ S;rcases oX (J=m) with rfl|N
    .exact F
    .rw [getD_set_ne true N] at D;exact D
   .rw [Array.setIfInBounds_comm _ _ d];exact p.2.2
end
def eN(P:Program)(n:Fr)(ops:Array Oper)(bb:World->Prop)(k:Nat)(l:Array Bool)(Z:Env)(w:World)(Q:d6):Prop:=
 ∀a,cF Z n.n a->Marks n w a.defers->hg P (jR n.r) ops bb (lift n w Q) k l a w
section
variable {P:Program} {n:Fr} {Z:Env} {w:World} {Q:d6} {ops:Array Oper} {bb:World->Prop} {k:Nat} {l:Array Bool}
abbrev h2(Q:d6):d6:=λe Z w=>match e with
 | .panic _=>False
 |e=>Q e Z w
theorem B5 [hm:rm P]{id:Nat}{ops:Array Oper}(bb:World->Prop)(h:eN P n ops bb ops.size (Array.replicate ops.size false) Z w.drew (h2 Q)):W P n (.region id ops true) Z w Q:=λa c f=>by
 refine kH (wpIn_region_any (Q:=lift n w.drew (h2 Q)) hm.h ?_) λe a j⟨aa,d,i,g,b⟩=>⟨(cT.drew w).trans aa,d,i,g,?_⟩
 .exact hg.any _ _ _ _ (h a c (f.fX (cT.drew w)))
 .cases e<;>first|exact b|exact False.elim b
def j2(ops:Array Oper)(l:Array Bool)(i:Nat):Bool:=Region.free .any ops l i&&ql ops l
theorem j2.free{ops:Array Oper}{l:Array Bool}{i:Nat}(h:j2 ops l i=true):Region.free .any ops l i=true:=by unfold j2 at h;simp only [Bool.and_eq_true] at h;exact h.1
theorem j2.closed{ops:Array Oper}{l:Array Bool}{i:Nat}(h:j2 ops l i=true):lZ ops l:=by unfold j2 at h;simp only [Bool.and_eq_true] at h;exact ql.spec h.2
theorem wD(i:Nat){I:Oper}{v:Value}(e:ops[i]? =some I)(aL:calm ops=true)(br:j2 ops l i=true)(o:(Region.ready .any ops l).contains i=true)
 (j:cW ops Z I.guard=some true) (g:da n I.dst=true) (f:bb w)
 (p:∀w,bb w->∀a,cF Z n.n a->(execOp a.eval I).run P w= .ok (.value v) w) (h:eN P n ops bb k (l.setIfInBounds i true) (cE Z I.dst v) w (h2 Q)):eN P n ops bb (k+1) l Z w (h2 Q):=λa b hm=>by
 refine hg.first (v:=v) e (Region.noSelect_spec (calm.At aL)) (λJ I c m=>calm.def aL m c) (λc a w d=>?_) k l a w f (j2.closed br) (Region.free_spec e (j2.free br)) (by simpa using o) ?_ (h _ (b.cE g v) (hm.put _ _))
 .obtain⟨_,_,q,_,d⟩:=d;exact d.elim
 .unfold jw;rw [a6 (n7 b j)];exact λw hw=>p w hw a b
theorem BN(i:Nat){I:Oper}(e:ops[i]? =some I)(aL:calm ops=true)(br:j2 ops l i=true)(o:(Region.ready .any ops l).contains i=true)
 (j:cW ops Z I.guard=some false) (g:da n I.dst=true) (f:bb w) (h:eN P n ops bb k (l.setIfInBounds i true) (cE Z I.dst undef) w (h2 Q)):eN P n ops bb (k+1) l Z w (h2 Q):=λa d hm=>by
 refine hg.first (v:=undef) e (Region.noSelect_spec (calm.At aL)) (λJ I c m=>calm.def aL m c) (λc a w b=>?_) k l a w f (j2.closed br) (Region.free_spec e (j2.free br)) (by simpa using o) ?_ (h _ (d.cE g undef) (hm.put _ _))
 .obtain⟨_,_,p,_,b⟩:=b;exact b.elim
 .unfold jw;rw [aI (by rw [n7 d j];decide)]
theorem Bf{F:Fence}{i:Nat}{I:Oper}{a:Act}{K:Act->World->Prop}{Q:Exit->Act->World->Prop}(d:ops[i]? =some I)
 (h:wpListIn F 0 P ops (λe a w=>match e with| .normal=>K a w|e=>Q e a w) [I] a w):wpOpIn F 0 P ops Q i K a w:=by
 unfold wpOpIn;rw [d];dsimp only;unfold wpListIn at h;split
 .rename_i hw;rw [a6 hw] at h;refine⟨h.1,?_⟩;have b:=h.2;cases c:(I.semAt F.round a.eval).run P w with
  |ok f g=>
   rw [c] at b
   cases f<;>first
    |exact b
    |exact⟨b.1,ly b.2 λe j he=>by cases e<;>exact he⟩
    |exact⟨b.1,qa b.2 λe j he=>by cases e<;>exact he⟩
  |halt k g=>rw [c] at b;cases k<;>exact b
 .rename_i hw;rw [aI hw] at h;exact h
theorem tI{i:Nat}{I:Oper}(d:ops[i]? =some I)
 (h:O P n ops [I] Z w (λe Z w=>match e with| .normal=>bb w/\eN P n ops bb k (l.setIfInBounds i true) Z w Q|_=>False)) {a:Act} (c:cF Z n.n a) (hm:Marks n w a.defers):
 wpOpIn (jR n.r) 0 P ops (lift n w Q) i (λa aK=>(lM ops i=true\/bb aK)/\hg P (jR n.r) ops bb (lift n w Q) k (l.setIfInBounds i true) a aK) a w:=
 Bf d (kW (λe a aK⟨aa,g,m,j,b⟩=>by
  cases e<;>first|exact⟨.inr b.1,hg.post (λ_ _ _ f=>lift.from aa f) _ _ _ _ (b.2 _ j g)⟩|exact False.elim b) _ _ _ (h a c hm))
theorem wC(i:Nat){I:Oper}(g:ops[i]? =some I)(c:Region.ready .any ops l=[i])
 (h:O P n ops [I] Z w (λe Z w=>match e with| .normal=>bb w/\eN P n ops bb k (l.setIfInBounds i true) Z w Q|_=>False)):eN P n ops bb (k+1) l Z w Q:=λa f hm=>by
 refine⟨λd=>absurd (c▸d) (by simp),λJ b=>?_⟩;rw [c] at b;obtain rfl:=fT.1 b;exact tI g h f hm
theorem wB(i:Nat){I:Oper}(m:ops[i]? =some I)(f:Region.ready .any ops l=[i])(b:lM ops i=true)
 (h:O P n ops [I] Z w (λe Z w=>match e with| .normal=>eN P n ops bb k (l.setIfInBounds i true) Z w Q|_=>False)):eN P n ops bb (k+1) l Z w Q:=λa j hm=>by
 refine⟨λg=>absurd (f▸g) (by simp),λJ c=>?_⟩;rw [f] at c;obtain rfl:=fT.1 c
 exact Bf m (kW (λe a aK⟨aa,o,q,p,d⟩=>by
  cases e<;>first|exact⟨.inl b,hg.post (λ_ _ _ b=>lift.from aa b) _ _ _ _ (d _ p o)⟩|exact False.elim d) _ _ _ (h a j hm))
end
section
variable {P:Program} {n:Fr} {Z:Env} {w:World} {Q:d6} {ops:Array Oper} {bb:World->Prop} {rest:List Oper} {I:Oper}
end
end Go.Proofs.YtdomoelfhjdioaaGreatDoor.R
namespace Go.Proofs.YtdomoelfhjdioaaGreatDoor.R
open Go.Proofs.Tryz Go
def bv(x:UInt8):Value:=.int .u8 x.toNat
def aG(l:List UInt8):List Value:=l.map bv
def ad(n:Int):Value:=.int .i64 n
theorem uv(a b:List UInt8):aG (a++b)=aG a++aG b:=by simp [aG]
@[simp] theorem ds(a:List UInt8):(aG a).length=a.length:=by simp [aG]
theorem fc(l:List UInt8):∀u∈aG l,u.oneCell'=true:=by
 intro u hu;obtain⟨x,_,rfl⟩:=dO.1 hu;rfl
theorem xx{l:List UInt8}{i:Nat}{x:UInt8}(h:l[i]? =some x):(aG l)[i]? =some (bv x):=by simp [aG,h]
def enc(u:Nat):List UInt8:=if u<128 then [UInt8.ofNat u] else UInt8.ofNat (u%128+128)::enc (u/128)
termination_by u
decreasing_by omega
theorem n4{u:Nat}(h:u<128):enc u=[UInt8.ofNat u]:=by rw [enc,a6 h]
theorem o9{u:Nat}(h:¬u<128):enc u=UInt8.ofNat (u%128+128)::enc (u/128):=by rw [enc,aI h]
def ge(n:Int):Nat:=(max 0 (min n 4611686018427387904)).toNat
theorem n2(n:Int):ge n<=4611686018427387904:=by unfold ge;omega
def ea(cO:List Int):List UInt8:=cO.flatMap λn=>enc (ge n)
theorem qo:∀(k u:Nat),u<128^(k+1)->(enc u).length<=k+1:=by
 intro k;induction k with
 |zero=>intro u h;rw [n4 (by omega)];simp
 |succ k a=>
  intro u h;by_cases hu:u<128
  .rw [n4 hu];simp
  .rw [o9 hu,ez];have:u/128<128^(k+1):=by rw [Nat.pow_succ] at h;omega
   have:=a _ this;omega
theorem nj(u:Nat)(h:u<=4611686018427387904):(enc u).length<=9:=qo 8 u (by rw [show(128:Nat)^(8+1)=9223372036854775808 from by decide];omega)
theorem sb(u:Nat):0<(enc u).length:=by
 by_cases hu:u<128
 .rw [n4 hu];simp
 .rw [o9 hu];simp
theorem D6:ea []=[]:=rfl
theorem x4(n:Int)(cO:List Int):ea (n::cO)=enc (ge n)++ea cO:=rfl
theorem x3(a b:List Int):ea (a++b)=ea a++ea b:=by simp [ea]
theorem gg(cO:List Int):(ea cO).length<=9*cO.length:=by
 induction cO with
 |nil=>simp [ea]
 |cons n cO a=>
  rw [x4,b4,List.length_cons];have:=nj (ge n) (n2 n);omega
theorem GJ:∀x:Fin 256,(BitVec.ofNat 8 x.val|||128#8).toNat=x.val%128+128:=by decide+kernel
theorem zk(u:Nat):IntKind.u8.wrap ((BitVec.ofInt IntKind.u8.bits (IntKind.u8.wrap (u:Int))|||BitVec.ofInt IntKind.u8.bits 128).toNat:Int)=((UInt8.ofNat (u%128+128)).toNat:Int):=by
 have a:IntKind.u8.wrap (u:Int)=((u%256:Nat):Int):=by rw [mf];omega
 have b:BitVec.ofInt IntKind.u8.bits (IntKind.u8.wrap (u:Int))=BitVec.ofNat 8 (u%256):=by rw [a];exact nX ..
 have c:BitVec.ofInt IntKind.u8.bits 128=(128#8:BitVec 8):=rfl;have d:=GJ ⟨u%256,jE _ (by decide)⟩;rw [b,c];have e:(BitVec.ofNat 8 (u%256)|||128#8).toNat=u%128+128:=by rw [d];simp
 have f:(UInt8.ofNat (u%128+128)).toNat=u%128+128:=by rw [oY];omega
 rw [f];show IntKind.u8.wrap (((BitVec.ofNat 8 (u%256)|||128#8:BitVec 8).toNat:Nat):Int)=_;rw [e,mf];omega
theorem sx(u:Nat):IntKind.u8.wrap (u:Int)=((UInt8.ofNat u).toNat:Int):=by
 rw [mf];simp [oY]
theorem s3(u:Nat):(u:Int).fdiv (2^(min (7:Int).toNat IntKind.u64.bits))=((u/128:Nat):Int):=by
 have:(2:Int)^(min (7:Int).toNat IntKind.u64.bits)=128:=by decide
 rw [this,t9 _ (by decide)];omega
theorem Dt(n:Int):IntKind.u64.wrap (max 0 (min n 4611686018427387904))=((ge n:Nat):Int):=by
 rw [lz];unfold ge;omega
theorem cM(k:Nat)(h:k<9223372036854775807):evalBin .add .i64 (k:Int) 1=some (.int .i64 ((k+1:Nat):Int)):=by
 have:IntKind.i64.wrap ((k:Int)+1)=((k+1:Nat):Int):=by rw [jX];omega
 show some (Value.int .i64 (IntKind.i64.wrap ((k:Int)+1)))=_;rw [this]
theorem nf{e:TypeId}{v:Value}{d:List UInt8}{x:UInt8}{ag:List Chunk}(h:Row e 1 v (d.length+1) (aG d++[bv x]) ag):Row e 1 v (d++[x]).length (aG (d++[x])) ag:=by
 simpa [aG] using h
theorem rZ{e:TypeId}{v:Value}{d y:List UInt8}{m:Nat}{ag:List Chunk}(h:Row e 1 v (d.length+m) (aG d++aG y) ag)(hm:m=y.length):Row e 1 v (d++y).length (aG (d++y)) ag:=by
 subst hm;simpa [aG] using h
theorem Dg{x y:UInt8}(h:(x.toNat:Int)=y.toNat):x=y:=UInt8.toNat_inj.1 (by omega)
def eW(c:BitVec 32):Value:=.int .u32 c.toNat
theorem ofInt_u32(v:BitVec 32):BitVec.ofInt IntKind.u32.bits (v.toNat:Int)=v:=by
 show BitVec.ofInt 32 (v.toNat:Int)=v;rw [nX,BitVec.ofNat_toNat];simp
theorem tr(v:BitVec 32):IntKind.u32.wrap (v.toNat:Int)=v.toNat:=by
 rw [IntKind.wrap_u32];have:=v.isLt;omega
theorem hD(x y:BitVec 32):evalBin .xor .u32 (x.toNat:Int) (y.toNat:Int)=some (eW (x^^^y)):=by
 show some (Value.int .u32 (IntKind.u32.wrap ((BitVec.ofInt IntKind.u32.bits (x.toNat:Int)^^^BitVec.ofInt IntKind.u32.bits (y.toNat:Int)).toNat:Int)))=_;rw [ofInt_u32,ofInt_u32];exact aH (λz=>some (Value.int .u32 z)) (tr _)
theorem lK(x y:BitVec 32):evalBin .and .u32 (x.toNat:Int) (y.toNat:Int)=some (eW (x&&&y)):=by
 show some (Value.int .u32 (IntKind.u32.wrap ((BitVec.ofInt IntKind.u32.bits (x.toNat:Int)&&&BitVec.ofInt IntKind.u32.bits (y.toNat:Int)).toNat:Int)))=_;rw [ofInt_u32,ofInt_u32];exact aH (λz=>some (Value.int .u32 z)) (tr _)
theorem ya(x:BitVec 32):qt .xor .u32 (x.toNat:Int)=some (eW (~~~x)):=by
 have hm:(if IntKind.u32.signed=true then(-1:Int) else IntKind.u32.max)=((0xffffffff#32:BitVec 32).toNat:Int):=by decide
 show some (Value.int .u32 (IntKind.u32.wrap ((BitVec.ofInt IntKind.u32.bits (if IntKind.u32.signed=true then(-1:Int) else IntKind.u32.max)^^^BitVec.ofInt IntKind.u32.bits (x.toNat:Int)).toNat:Int)))=_;rw [hm,ofInt_u32,ofInt_u32];have:(0xffffffff#32^^^x:BitVec 32)= ~~~x:=by rw [show(0xffffffff#32:BitVec 32)=BitVec.allOnes 32 from by decide,BitVec.allOnes_xor]
 show some (Value.int .u32 (IntKind.u32.wrap ((0xffffffff#32^^^x:BitVec 32).toNat:Int)))=_;rw [this];exact aH (λz=>some (Value.int .u32 z)) (tr _)
theorem ni(b:UInt8):IntKind.u32.wrap (b.toNat:Int)=((BitVec.ofNat 32 b.toNat).toNat:Int):=by
 rw [IntKind.wrap_u32,m8];have:=b.toNat_lt;omega
def kX(w:World)(A:Option Addr)(rows:List (List UInt8))(F:List Nat):Prop:=B1 w A (rows.map aG) F
theorem kX.at{w:World}{F:List Nat}{A:Option Addr}{rows:List (List UInt8)}(h:kX w A rows F)(J:Nat)(i:J<rows.length):
 ∃(U:List Value)(a:Option Addr)(ci:Nat),Rd w A U/\bX A U F/\U[J]? =some (Value.slice a rows[J].length ci)/\Rd w a (aG rows[J])/\bX a (aG rows[J]) F:=by
 obtain⟨U,j,b,c,d⟩:=h;obtain⟨a,ci,e,f,g⟩:=d J (aG rows[J]) (by simp [i]);exact⟨U,a,ci,b,c,by simpa using e,f,g⟩
def hA(x:List UInt8):List UInt8:=enc x.length++x
def jI(rows:List (List UInt8)):List UInt8:=rows.flatMap hA
def i9(rows:List (List UInt8)):Nat:=(rows.map λr=>r.length+10).sum
theorem jH(x:List UInt8)(h:x.length<=4611686018427387904):(hA x).length<=x.length+9:=by
 have:=nj _ h;simp only [hA,b4];omega
theorem wt(x:List UInt8)(r:List (List UInt8)):i9 (x::r)=x.length+10+i9 r:=rfl
theorem IZ(a b:List (List UInt8)):i9 (a++b)=i9 a+i9 b:=by simp [i9]
theorem D4:∀(rows:List (List UInt8)),i9 rows<=4611686018427387904->(jI rows).length+rows.length<=i9 rows:=by
 intro rows;induction rows with
 |nil=>intro _;simp [jI,i9]
 |cons x r b=>
  intro h;rw [wt] at h⊢;have a:=b (by omega);have c:=jH x (by omega);simp only [jI,je,b4,List.length_cons] at a⊢;omega
theorem I0(rows:List (List UInt8)):rows.length<=i9 rows:=by
 induction rows with
 |nil=>simp
 |cons x r a=>rw [wt,ez];omega
theorem I1(rows:List (List UInt8))(J:Nat)(c:J<rows.length):i9 (rows.take J)+rows[J].length+10<=i9 rows:=by
 have a:rows=rows.take J++(rows[J]::rows.drop (J+1)):=by rw [<-km c,m5]
 have b:=aH i9 a;rw [IZ,wt] at b;omega
theorem xF(k:Nat)(h:k<=4611686018427387904):ge (k:Int)=k:=by unfold ge;omega
theorem D5(rows:List (List UInt8))(J:Nat)(a:J<rows.length):jI (rows.take (J+1))=jI (rows.take J)++hA rows[J]:=by
 unfold jI;rw [List.take_succ_eq_append_getElem a,List.flatMap_append];simp only [List.flatMap_cons,List.flatMap_nil,List.append_nil]
theorem uW(u:Nat)(h:u<=4611686018427387904):evalBin .and .u64 (u:Int) 127=some (.int .u64 ((u%128:Nat):Int)):=by
 show some (Value.int .u64 (IntKind.u64.wrap ((BitVec.ofInt IntKind.u64.bits (u:Int)&&&BitVec.ofInt IntKind.u64.bits 127).toNat:Int)))=_;have a:BitVec.ofInt IntKind.u64.bits (u:Int)=BitVec.ofNat 64 u:=nX ..;have b:BitVec.ofInt IntKind.u64.bits 127=(127#64:BitVec 64):=rfl
 have c:((BitVec.ofNat 64 u&&&127#64:BitVec 64)).toNat=u%128:=by
  rw [BitVec.toNat_and,m8,qd (by omega),show(127#64:BitVec 64).toNat=2^7-1 from by decide,Nat.and_two_pow_sub_one_eq_mod]
 rw [a,b];show some (Value.int .u64 (IntKind.u64.wrap (((BitVec.ofNat 64 u&&&127#64:BitVec 64)).toNat:Int)))=_;rw [c,lz]
 congr 2
 omega
theorem vw(u:Nat):IntKind.u8.wrap ((BitVec.ofInt IntKind.u8.bits (IntKind.u8.wrap ((u%128:Nat):Int))|||BitVec.ofInt IntKind.u8.bits 128).toNat:Int)=((UInt8.ofNat (u%128+128)).toNat:Int):=by
 rw [zk,Nat.mod_mod]
theorem D7(cO:List Int)(J:Nat)(a:J<cO.length):ea (cO.take (J+1))=ea (cO.take J)++enc (ge cO[J]):=by
 rw [fu a,x3];simp only [x4,D6,List.append_nil]
theorem kX.one{w:World}{F:List Nat}{A a:Option Addr}{x:List UInt8}{ci n:Nat}(c:Rd w A [.slice a n ci])(aJ:n=x.length)(d:bX A [.slice a n ci] F)(e:Rd w a (aG x))(f:bX a (aG x) F):kX w A [x] F:=by
 subst aJ;refine⟨[.slice a x.length ci],j,c,d,λi xs b=>?_⟩;cases i with
 |zero=>simp at b;subst b;exact⟨a,ci,by simp,e,f⟩
 |succ i=>simp at b
def View(v:Value)(aD:List UInt8)(G:List Chunk):Prop:=
 ∃(A:Option Addr)(c:Nat),v=Value.slice A aD.length c/\aD.length<=c/\c<=maxLen/\∀(o w:World)(F:List Nat)(ae:List (List Chunk)),C o F (G::ae) w->Rd w A (aG aD)/\bX A (aG aD) (au ae)
theorem View.nil(G:List Chunk):View (.slice none 0 0) [] G:=⟨none,0,j,cD _,b6 _,λ_ _ _ _ _=>⟨Rd.nil _ _,λh=>(h j).elim⟩⟩
theorem View.ofRow{e:TypeId}{v:Value}{aD:List UInt8}{G:List Chunk}(h:Row e 1 v aD.length (aG aD) G):View v aD G:=by
 obtain⟨A,c,a,d,f⟩:=h.form;refine⟨A,c,a,d,f,λo w F ae j=>?_⟩;obtain⟨gU,k,b,_,_,g,i⟩:=h.rd j;rw [a] at b;cases b;exact⟨g,i⟩
theorem Rd.drop{w:World}{A:Option Addr}{U:List Value}(h:Rd w A U)(k:Nat):Rd w (A.map (·.add k)) (U.drop k):=λi v d=>by
 rw [lA] at d;obtain⟨a,rfl,e⟩:=h _ _ d;refine⟨_,j,?_⟩;rw [show(a.add k).add i=a.add (k+i) from ?_]
 .exact e
 .unfold Addr.add;by_cases b:k=0
  .subst b;simp
  .by_cases c:i=0
   .subst c;simp [b]
   .rw [aI b,aI c,aI (by omega)];simp [rN]
theorem Rd.take{w:World}{A:Option Addr}{U:List Value}(h:Rd w A U)(k:Nat):Rd w A (U.take k):=λi v a=>by
 rw [jD] at a;split at a
 .exact h i v a
 .cases a
theorem uw(l:List UInt8)(k:Nat):aG (l.drop k)=(aG l).drop k:=by simp [aG,List.map_drop]
theorem xy(l:List UInt8)(k:Nat):aG (l.take k)=(aG l).take k:=by simp [aG,List.map_take]
theorem View.drop{A:Option Addr}{aD:List UInt8}{c k:Nat}{G:List Chunk}(h:View (.slice A aD.length c) aD G)(aa:k<=aD.length):
 View (.slice (if c=k then A else A.map (·.add (k*1))) (aD.length-k) (c-k)) (aD.drop k) G:=by
 obtain⟨gU,p,n,q,r,f⟩:=h;cases n;by_cases d:c=k
 .rw [a6 d];have:aD.drop k=[]:=List.drop_eq_nil_of_le (by omega);rw [this];refine⟨A,c-k,by simp;omega,by simp,by omega,λ_ _ _ _ _=>⟨Rd.nil _ _,λh=>(h j).elim⟩⟩
 .rw [aI d,gZ];refine⟨_,c-k,by rw [iT],by rw [iT];omega,by omega,λo w F ae l=>?_⟩;obtain⟨g,i⟩:=f o w F ae l;refine⟨by rw [uw];exact g.drop k,λm a b=>?_⟩;cases A with
  |none=>cases b
  |some e=>
   cases b;rw [wW];refine i (λhe=>m ?_) e j;rw [uw,he,List.drop_nil]
abbrev ee:=Option (List UInt8)
def ee.left(s:ee):List UInt8:=s.getD []
def hO(v:Value)(b:Bool)(s:ee)(G:List Chunk):Prop:=b=s.isNone/\View v s.left G
theorem hO.bad(G:List Chunk):hO (.slice none 0 0) true none G:=⟨j,View.nil G⟩
def lI(i u:Nat):List UInt8->Option (Nat×List UInt8)
 |[]=>none
 |c::r=>if 9<=i\/(0<i/\c=0) then none else
  if c.toNat<128 then(if u+c.toNat%128*128^i>4611686018427387904 then none else some (u+c.toNat%128*128^i,r))
  else lI (i+1) (u+c.toNat%128*128^i) r
def dec(l:List UInt8):Option (Nat×List UInt8):=lI 0 0 l
def eb(s:ee):Nat×ee:=match s with
 |none=>(0,none)
 |some aD=>match dec aD with
  |some (u,r)=>(u,some r)
  |none=>(0,none)
def iM(s:ee)(n:Int):List UInt8×ee:=match s with
 |none=>([],none)
 |some aD=>if n<0\/n>aD.length then([],none) else(aD.take n.toNat,some (aD.drop n.toNat))
def lj(s:ee):List UInt8×ee:=iM (eb s).2 (eb s).1
theorem qX{s:ee}(h:dec s.left=none):eb s=(0,none):=by
 cases s with
 |none=>rfl
 |some l=>unfold eb;dsimp only;rw [show dec l=none from h]
theorem Aj{s:ee}{u:Nat}{r:List UInt8}(h:dec s.left=some (u,r)):eb s=(u,some r):=by
 cases s with
 |none=>rw [show ee.left none=[] from j] at h;simp [dec,lI] at h
 |some l=>unfold eb;dsimp only;rw [show dec l=some (u,r) from h]
theorem lJ(i u:Nat)(c:UInt8)(r:List UInt8):lI i u (c::r)=if 9<=i\/(0<i/\c=0) then none else
 if c.toNat<128 then(if u+c.toNat%128*128^i>4611686018427387904 then none else some (u+c.toNat%128*128^i,r))
 else lI (i+1) (u+c.toNat%128*128^i) r:=rfl
theorem Ct:∀x:Fin 256,(BitVec.ofNat 8 x.val&&&127#8).toNat=x.val%128:=by decide+kernel
theorem x9(c:UInt8):evalBin .and .u8 (c.toNat:Int) 127=some (.int .u8 ((c.toNat%128:Nat):Int)):=by
 show some (Value.int .u8 (IntKind.u8.wrap ((BitVec.ofInt IntKind.u8.bits (c.toNat:Int)&&&BitVec.ofInt IntKind.u8.bits 127).toNat:Int)))=_;have a:BitVec.ofInt IntKind.u8.bits (c.toNat:Int)=BitVec.ofNat 8 c.toNat:=nX ..;have b:BitVec.ofInt IntKind.u8.bits 127=(127#8:BitVec 8):=rfl;have d:=Ct ⟨c.toNat,c.toNat_lt⟩;rw [a,b];show some (Value.int .u8 (IntKind.u8.wrap (((BitVec.ofNat 8 c.toNat&&&127#8:BitVec 8)).toNat:Int)))=_;rw [d,mf]
 congr 2
 show((c.toNat%128:Nat):Int)%256=_;omega
theorem nh(x:Nat)(h:x<18446744073709551616):IntKind.u64.wrap (x:Int)=(x:Int):=by rw [lz];omega
theorem xN(x:Nat)(h:x<9223372036854775808):IntKind.i64.wrap (x:Int)=(x:Int):=by rw [jX];omega
theorem zo(i:Nat)(h:i<=9):evalBin .mul .i64 7 (i:Int)=some (.int .i64 ((7*i:Nat):Int)):=by
 have a:IntKind.i64.wrap (7*(i:Int))=((7*i:Nat):Int):=by rw [jX];omega
 show some (Value.int .i64 (IntKind.i64.wrap (7*(i:Int))))=_;rw [a]
theorem zV{i:Nat}(h:i<=8):128^i<=72057594037927936:=by
 have:=Nat.pow_le_pow_right (show 0<128 by decide) h;rw [show(128:Nat)^8=72057594037927936 from by decide] at this;exact this
theorem wn(i:Nat):2^(7*i)=128^i:=by rw [Nat.pow_mul]
theorem Az(x i:Nat)(f:x<128)(d:i<=8):evalShift .shl .u64 (x:Int) ((7*i:Nat):Int)=some (.int .u64 ((x*128^i:Nat):Int)):=by
 show some (Value.int .u64 (IntKind.u64.wrap ((x:Int)*2^(min ((7*i:Nat):Int).toNat IntKind.u64.bits))))=_
 have a:min ((7*i:Nat):Int).toNat IntKind.u64.bits=7*i:=by
  rw [lB,show IntKind.u64.bits=64 from j];omega
 have b:(x:Int)*2^(7*i)=((x*128^i:Nat):Int):=by rw [<-wn];push_cast;rfl
 have c:=zV d;have e:x*128^i<=127*72057594037927936:=rO (by omega) c;rw [a,b,nh _ (by omega)]
theorem zJ(u x i:Nat)(hu:u<128^i)(g:x<128)(e:i<=8):evalBin .or .u64 (u:Int) ((x*128^i:Nat):Int)=some (.int .u64 ((u+x*128^i:Nat):Int)):=by
 show some (Value.int .u64 (IntKind.u64.wrap ((BitVec.ofInt IntKind.u64.bits (u:Int)|||BitVec.ofInt IntKind.u64.bits ((x*128^i:Nat):Int)).toNat:Int)))=_;have c:=zV e;have f:x*128^i<=127*72057594037927936:=rO (by omega) c;have a:BitVec.ofInt IntKind.u64.bits (u:Int)=BitVec.ofNat 64 u:=nX ..;have b:BitVec.ofInt IntKind.u64.bits ((x*128^i:Nat):Int)=BitVec.ofNat 64 (x*128^i):=nX ..
 have d:(BitVec.ofNat 64 u|||BitVec.ofNat 64 (x*128^i)).toNat=u+x*128^i:=by
  rw [BitVec.toNat_or,m8,m8,qd (by omega),qd (by omega),<-wn];have:=Nat.shiftLeft_add_eq_or_of_lt (show u<2^(7*i) by rw [wn];exact hu) x;rw [Nat.shiftLeft_eq] at this;rw [Nat.or_comm,<-this,Nat.add_comm]
 rw [a,b];show some (Value.int .u64 (IntKind.u64.wrap ((BitVec.ofNat 64 u|||BitVec.ofNat 64 (x*128^i)).toNat:Int)))=_;rw [d,nh _ (by omega)]
theorem Em(x y:UInt8):evalBin .xor .u8 (x.toNat:Int) (y.toNat:Int)=some (bv (x^^^y)):=by
 have a:∀c:UInt8,BitVec.ofInt IntKind.u8.bits (c.toNat:Int)=BitVec.ofNat 8 c.toNat:=λc=>nX ..
 show some (Value.int .u8 (IntKind.u8.wrap ((BitVec.ofInt IntKind.u8.bits (x.toNat:Int)^^^BitVec.ofInt IntKind.u8.bits (y.toNat:Int)).toNat:Int)))=_;rw [a,a]
 have b:(BitVec.ofNat 8 x.toNat^^^BitVec.ofNat 8 y.toNat).toNat=(x^^^y).toNat:=by
  rw [BitVec.toNat_xor,UInt8.toNat_xor,m8,m8,qd x.toNat_lt,qd y.toNat_lt]
 show some (Value.int .u8 (IntKind.u8.wrap (((BitVec.ofNat 8 x.toNat^^^BitVec.ofNat 8 y.toNat:BitVec 8)).toNat:Int)))=_;rw [b,mf];have:=(x^^^y).toNat_lt;show some (Value.int .u8 _)=some (Value.int .u8 _)
 congr 2
 omega
end Go.Proofs.YtdomoelfhjdioaaGreatDoor.R
namespace Go.Proofs.YtdomoelfhjdioaaGreatDoor.R
open Go.Proofs.Tryz Go Go.RowKit
section
variable {P:Program} {n:Fr} {Z:Env} {w:World} {Q:d6} {ops:Array Oper} {rest:List Oper}
 {dst:Option Nat} {ty:TypeId} {pos:String} {after:Array Edge} {g:Option (Nat×Bool)}
theorem oA{t j:TypeId}{x y:Operand}{a b:ByteArray}(e:cW ops Z g=some true)(d:da n dst=true)
 (f:bs Z x=some (.string a)) (i:bs Z y=some (.string b))
 (h:O P n ops rest (cE Z dst (.bool (a==b))) w Q):O P n ops (⟨dst,.binOp .eql t x y j,ty,pos,after,g⟩::rest) Z w Q:=
 dL e d (λac c=>by
  simp only [execOp,c.eval f,c.eval i,dQ,eqGuard_at_string,binOp_string_eql,dU,ei,<-rP]) h
theorem hL{f:FuncId}{x:Operand}{p:Array TypeId}{args:Array Operand}{U:List Value}{fH bf:Array Value}{ag:Value->World->Prop}[br:Entry P f](l:cW ops Z g=some true)(k:da n dst=true)
 (o:bs Z x=some (.func (.func f) fH bf)) (m:fr Z args.toList=some U) (j:Calls P f (fH++U.toArray++bf) w ag)
 (h:∀v aK,ag v aK->O P n ops rest (cE Z dst v) aK Q):O P n ops (⟨dst,.call ⟨.value x,args,p⟩,ty,pos,after,g⟩::rest) Z w Q:=by
 obtain⟨fn,c,d,e⟩:=br.h;refine wJ (f:=f) (U:=fH++U.toArray++bf) (aK:=w) l k (λa b=>?_) j h;have:args.map a.eval=U.toArray:=by apply fC;rw [hn,b.hr m]
 have i:fn.body.isNone=false:=e;simp only [execOp,resolve,this,b.eval o,Deferred.ofValue,invoke,callFunc,c,d,i,dQ,ei,dU,me,p9,Array.append_empty,if_false,Bool.false_eq_true]
theorem wK{t j:TypeId}{x y:Operand}{xs c0:Array Value}{b:Bool}(d:cW ops Z g=some true)(c:da n dst=true)
 (f:bs Z x=some (.agg xs)) (i:bs Z y=some (.agg c0)) (hm:P.eqGuardType P.depth t=false) (e:∀w,(Op.equalIn 10000 t (.agg xs) (.agg c0)).run P w= .ok b w)
 (h:O P n ops rest (cE Z dst (.bool b)) w Q):O P n ops (⟨dst,.binOp .eql t x y j,ty,pos,after,g⟩::rest) Z w Q:=
 dL d c (λac a=>by
  simp only [execOp,a.eval f,a.eval i,dQ,run_eqGuard_agg w .eql t x y xs c0 hm,dU,run_eql_struct,e,ei]) h
def setCells(c:Array Value)(off:Nat):List Value->Array Value
 |[]=>c
 |v::r=>setCells (c.setIfInBounds off v) (off+1) r
theorem s0:∀(U:List Value)(c:Array Value)(off:Nat),(setCells c off U).size=c.size
 |[],_,_=>rfl
 |v::r,c,off=>by rw [setCells,s0 r];simp
theorem pr:∀(U:List Value)(c:Array Value)(off:Nat),off+U.length<=c.size->∀i,(setCells c off U)[i]? =if off<=i/\i<off+U.length then U[i-off]? else c[i]?
 |[],c,off,_,i=>by rw [aI (by simp)];rfl
 |v::r,c,off,h,i=>by
  simp only [ez] at h⊢;rw [setCells,pr r _ _ (by simp;omega) i];rcases rQ i off with a|a|a
  .rw [aI (by omega),aI (by omega),qc (by omega)]
  .subst a;rw [aI (by omega),a6 (by omega),t8 (by omega)];simp
  .by_cases b:i<off+1+r.length
   .rw [a6 (by omega),a6 (by omega),show i-off=(i-(off+1))+1 by omega,nY]
   .rw [aI (by omega),aI (by omega),qc (by omega)]
theorem Av(U:List Value)(c:Array Value)(h:c.size=U.length):setCells c 0 U=U.toArray:=by
 apply rR;intro i;rw [pr U c 0 (by omega) i];split
 .simp
 .rename_i aJ;rw [ua (by omega)];simp;omega
theorem C.whole{o w:World}{F:List Nat}{ae:List (List Chunk)}{b:Nat}{e:TypeId}{c:Array Value}{U:List Value}(h:C o F ([(b,.cells (setCells c 0 U) e (0,0))]::ae) w)(a:c.size=U.length):C o F ([(b,.cells U.toArray e (0,0))]::ae) w:=by
 rw [Av U c a] at h;exact h
theorem C.storeCells{P:Program}{o:World}{F:List Nat}{ae:List (List Chunk)}{b:Nat}{e:TypeId}{off:Nat}:∀(U:List Value)(i:Nat)(c:Array Value)(w:World),
 C o F ([(b,.cells c e (0,0))]::ae) w->off+i+U.length<=c.size->(∀v∈U,v.oneCell'=true)->
 ∃aK,(Go.storeCells ⟨b,off,none⟩ U i).run P w= .ok () aK/\C o F ([(b,.cells (setCells c (off+i) U) e (0,0))]::ae) aK/\cT w aK
 |[],i,c,w,a,_,_=>⟨w,j,a,cT.refl _⟩
 |v::r,i,c,w,a,m,f=>by
  simp only [ez] at m;have l:w.frozen? ⟨b,off+i,none⟩=false:=by simp [World.frozen?,a.first]
  have h9:w.cell? ⟨b,off+i,none⟩=some (c[off+i]'(by omega)):=a.cell (by simp);have d:=run_store P w ⟨b,off+i,none⟩ v .plain (f v (by simp));rw [h9] at d;simp only [l] at d;obtain⟨aK,g,h,k⟩:=C.storeCells (off:=off) r (i+1) (c.setIfInBounds (off+i) v) _ (a.setCell (off+i) v) (by simp;omega) (λx n=>f x (by simp [n]));refine⟨aK,?_,?_,(cT.cells a.first (λ_ aa=>vc _ v aa)).trans k⟩
  .simp only [Go.storeCells,dQ,add_lit];rw [show(Go.store ⟨b,off+i,none⟩ v).run P w= .ok () (w.setCell ⟨b,off+i,none⟩ v) from by simpa using d];exact g
  .exact h
theorem c4{t:TypeId}{x y:Operand}{z:Value}{size bytes:Nat}{o:World}{F:List Nat}{ae:List (List Chunk)}{b off:Nat}{c:Array Value}{e:TypeId}{U:Array Value}[r:cn P t z size bytes]
 (m:C o F ([(b,.cells c e (0,0))]::ae) w) (q:cW ops Z g=some true)
 (E:bs Z x=some (.pointer (some ⟨b,off,none⟩))) (G:bs Z y=some (.agg U)) (B:U.toList.all (·.oneCell')=true) (A:U.size=size) (H:off+size<=c.size)
 (h:∀aK,C o F ([(b,.cells (setCells c off U.toList) e (0,0))]::ae) aK->O P n ops rest Z aK Q):O P n ops (⟨none,.store t x y,ty,pos,after,g⟩::rest) Z w Q:=by
 obtain⟨aK,f,k,l⟩:=C.storeCells (P:=P) (off:=off) U.toList 0 c w m (by simp;omega) (λv D=>jW.1 B v D);refine tM (aK:=aK) q j (λa d=>?_) (h aK k) l;obtain⟨i,s,_,u,_⟩:=r.parts;have p:(Value.agg U).cells=U:=rfl;simp only [execOp,d.eval E,d.eval G,Instr.storeAt,Instr.sureAddr,storeVar,p,sizeOf,typeInfo,dQ,ei,dU,me,s,u];simp [A,f]
def strOf(aD:List UInt8):ByteArray:=⟨aD.toArray⟩
theorem nG(x y:List UInt8):(strOf x==strOf y)=decide (x=y):=by
 rw [rP,ByteArray.toList_eq,ByteArray.toList_eq];show(x==y)=_;rw [m9];simp
theorem oz{s t e:TypeId}{x:Operand}{A:Option Addr}{c:Nat}{aD:List UInt8}[aL:bB P s (.slice e)][he:bB P e (.int .u8)][l:bB P t .string]
 (m:bs Z x=some (.slice A aD.length c)) (k:Rd w A (aG aD)):
 ∀a,cF Z n.n a->(execOp a.eval ⟨dst,.convert s t x,ty,pos,after,g⟩).run P w= .ok (.value (.string (strOf aD))) w:=
 λac i=>by
  cases A with
  |none=>
   have:aD=[]:=by
    cases aD with
    |nil=>rfl
    |cons x r=>obtain⟨a,p,_⟩:=k 0 (bv x) j;cases p
   subst this;have o:=run_convert_bytes_nil (P:=P) w s e aL.h he.h 0 c t l.h;simp only [execOp,i.eval m,gk,o,dQ,dU,ei];rfl
  |some a=>
   have f:=p8 (P:=P) w a (aG aD) (λJ v B=>by obtain⟨b,q,u⟩:=k J v B;cases q;exact u);rw [show(aG aD).length=aD.length by simp] at f;have hm:aG aD=(aD.map λx=>(x.toNat:Int)).map (Value.int .u8):=by simp [aG,bv]
   rw [hm] at f;have d:=run_convert_bytes_string (P:=P) w s t e (some a) aD.length c aL.h he.h l.h;rw [run_bytesToString w _ aD.length c _ f,foldl_push_bytes] at d
   have z:(aD.map λx=>(x.toNat:Int)).map (λn=>UInt8.ofNat n.toNat)=aD:=by
    rw [oU]
    conv=>rhs;rw [<-List.map_id aD]
    apply ub;intro x _;simp
   have y:(⟨ByteArray.empty.data++aD.toArray⟩:ByteArray)=strOf aD:=by
    apply ByteArray.ext;apply Array.toList_inj.1;rw [t6];rfl
   rw [z,y] at d;simp only [execOp,i.eval m,d,dQ,dU,ei]
theorem wO{s t e:TypeId}{x:Operand}{A:Option Addr}{c:Nat}{aD:List UInt8}[aL:bB P s (.slice e)][he:bB P e (.int .u8)][i:bB P t .string](b:cW ops Z g=some true)(a:da n dst=true)
 (f:bs Z x=some (.slice A aD.length c)) (d:Rd w A (aG aD))
 (h:O P n ops rest (cE Z dst (.string (strOf aD))) w Q):O P n ops (⟨dst,.convert s t x,ty,pos,after,g⟩::rest) Z w Q:=
 dL b a (oz f d) h
theorem Bo{P:Program}{n:Nat}{Z:Env}{w:World}{dst:Option Nat}{ty:TypeId}{pos:String}{after:Array Edge}{g:Option (Nat×Bool)}{t i:TypeId}{x y:Operand}{a b:ByteArray}{c:Bool}(f:bs Z x=some (.string a))(h:bs Z y=some (.string b))(e:(a==b)=c):
 ∀ac,cF Z n ac->(execOp ac.eval ⟨dst,.binOp .eql t x y i,ty,pos,after,g⟩).run P w= .ok (.value (.bool c)) w:=λac d=>by
 subst e;simp only [execOp,d.eval f,d.eval h,dQ,eqGuard_at_string,binOp_string_eql,dU,ei,<-rP]
theorem oy{P:Program}{n:Nat}{Z:Env}{w:World}{dst:Option Nat}{ty:TypeId}{pos:String}{after:Array Edge}{g:Option (Nat×Bool)}{t f:TypeId}{x y:Operand}{xs c0:Array Value}{b:Bool}(d:bs Z x=some (.agg xs))(e:bs Z y=some (.agg c0))(hm:P.eqGuardType P.depth t=false)(c:∀w,(Op.equalIn 10000 t (.agg xs) (.agg c0)).run P w= .ok b w):
 ∀ac,cF Z n ac->(execOp ac.eval ⟨dst,.binOp .eql t x y f,ty,pos,after,g⟩).run P w= .ok (.value (.bool b)) w:=λac a=>by
 simp only [execOp,a.eval d,a.eval e,dQ,run_eqGuard_agg w .eql t x y xs c0 hm,dU,run_eql_struct,c,ei]
theorem c3{P:Program}{n:Nat}{Z:Env}{w:World}{dst:Option Nat}{ty:TypeId}{pos:String}{after:Array Edge}{g:Option (Nat×Bool)}{t:TypeId}{d:TypeDesc}{x:Operand}{A:Addr}{U:List Value}{z:Value}{size bytes:Nat}[hu:bB P t d][m:cn P t z size bytes]
 (s:bs Z x=some (.pointer (some A))) (e:ia d=true) (q:U.length=size) (j:Rd w (some A) U):∀a,cF Z n a->(execOp a.eval ⟨dst,.load t x,ty,pos,after,g⟩).run P w= .ok (.value (.agg U.toArray)) w:=
 λa l=>by
  obtain⟨i,o,_,p,_⟩:=m.parts;have c:=p8 (P:=P) w A U (λJ v r=>by obtain⟨b,f,k⟩:=j J v r;cases f;exact k);rw [q] at c;simp [execOp,l.eval s,Instr.loadAt,Instr.sureAddr,loadVar,ky hu.h,e,sizeOf,typeInfo,o,p,c]
theorem hg.narrow{P:Program}{F:Fence}{ops:Array Oper}{bb b:World->Prop}{Q:Exit->Act->World->Prop}(c:∀w,b w->bb w):∀(k:Nat)(l:Array Bool)(a:Act)(w:World),hg P F ops b Q k l a w->hg P F ops bb Q k l a w
 |0,_,_,_,h=>h
 |k+1,_,_,_,h=>⟨h.1,λi d=>wpOpIn_mono (λa w h=>⟨h.1.imp id (c w),hg.narrow c k _ a w h.2⟩) (h.2 i d)⟩
theorem pM{P:Program}{n:Fr}{Z:Env}{w:World}{Q:d6}{ops:Array Oper}{bb:World->Prop}{k:Nat}{l:Array Bool}(b:World->Prop)(c:∀w,b w->bb w)(h:eN P n ops b k l Z w Q):eN P n ops bb k l Z w Q:=λa d hm=>hg.narrow c _ _ _ _ (h a d hm)
theorem tH{P:Program}{n:Fr}{Z:Env}{w:World}{Q:d6}{ops:Array Oper}{bb:World->Prop}{k:Nat}{l:Array Bool}(d:Nat){b:Bool}(e:look Z d=some (.bool b))(f:b=true->eN P n ops bb k l ((d,.bool true)::Z) w Q)(br:b=false->eN P n ops bb k l ((d,.bool false)::Z) w Q):eN P n ops bb k l Z w Q:=λa c hm=>by
 cases b with
 |true=>exact f j a (c.tell e) hm
 |false=>exact br j a (c.tell e) hm
theorem rn{P:Program}{n:Fr}{Z:Env}{w:World}{Q:d6}{ops:Array Oper}{bb:World->Prop}{k:Nat}{l:Array Bool}(d:Nat){u:Value}(v:Value)(c:look Z d=some u)(e:u=v)(h:eN P n ops bb k l ((d,v)::Z) w Q):eN P n ops bb k l Z w Q:=λa b hm=>
 h a (b.tell (e▸c)) hm
theorem lq{P:Program}{n:Fr}{Z:Env}{w:World}{Q:d6}{ops:Array Oper}{bb:World->Prop}{k:Nat}{l:Array Bool}(i J:Nat){f g:Oper}(p:ops[i]? =some f)(q:ops[J]? =some g)(d:Region.ready .any ops l=[i,J])
 (j:O P n ops [f] Z w (λe Z w=>match e with| .normal=>bb w/\eN P n ops bb k (l.setIfInBounds i true) Z w Q|_=>False))
 (o:O P n ops [g] Z w (λe Z w=>match e with| .normal=>bb w/\eN P n ops bb k (l.setIfInBounds J true) Z w Q|_=>False)):eN P n ops bb (k+1) l Z w Q:=λa b c=>by
 refine⟨λh=>absurd (d▸h) (by simp),λm hm=>?_⟩;rw [d] at hm;rcases g0.1 hm with rfl|hm
 .exact tI p j b c
 .obtain rfl:=fT.1 hm;exact tI q o b c
theorem HE(p q r:List Value)(h:r.length=q.length):setCells (p++q).toArray p.length r=(p++r).toArray:=by
 apply rR;intro i;rw [pr r _ _ (by simp;omega) i];simp only [na];split
 .rename_i b;rw [jf b.1]
 .rename_i b;by_cases a:i<p.length
  .rw [iC a,iC a]
  .rw [lv (by simp;omega),lv (by simp;omega)]
theorem BG{P:Program}{n:Nat}{Z:Env}{w:World}{dst:Option Nat}{ty:TypeId}{pos:String}{after:Array Edge}{g:Option (Nat×Bool)}{t e:TypeId}{x:Operand}{A:Addr}{m:Nat}{z:Value}{size bytes:Nat}[hu:bB P t (.array m e)][d:cn P e z size bytes]
 (j:bs Z x=some (.pointer (some A))):∀a,cF Z n a->(execOp a.eval ⟨dst,.slice t x none none none,ty,pos,after,g⟩).run P w= .ok (.value (.slice (some A) m m)) w:=
 λa c=>by
  obtain⟨i,f,_,k,_⟩:=d.parts;have b:A.add 0=A:=by simp [Addr.add]
  simp [execOp,c.eval j,Instr.sliceAt,Instr.sureAddr,Instr.sliceBounds,d7 hu.h,sizeOf,typeInfo,f,b]
theorem nB{P:Program}{w:World}{t:TypeId}{d:TypeDesc}{cs:Array Value}{off:Nat}{v:Value}(hu:P.underlying t=some d)(a:ia d=false)(b:cs[off]? =some v):(part t cs off).run P w= .ok v w:=by
 simp [part,ky hu,a,b]
theorem uS{P:Program}{w:World}{d:Nat}{xs c0:Array Value}:(Op.eqFields d xs c0 []).run P w= .ok true w:=by simp [Op.eqFields]
theorem uT{P:Program}{w:World}{d:Nat}{xs c0:Array Value}{f:Field}{gK:List Field}{x y:Value}{b r:Bool}(aJ:(f.name != "_")=true)(c:(part f.type xs f.offset).run P w= .ok x w)(e:(part f.type c0 f.offset).run P w= .ok y w)
 (he:(Op.equalIn d f.type x y).run P w= .ok b w) (h:(Op.eqFields d xs c0 gK).run P w= .ok r w):(Op.eqFields d xs c0 (f::gK)).run P w= .ok (b&&r) w:=by
 have a:f.name≠ "_" :=by simpa using aJ
 simp only [Op.eqFields,a,ne_eq,not_false_eq_true,kn,dQ,c,e,he,dU];cases b
 .simp
 .simpa using h
theorem kr{P:Program}{w:World}{d:Nat}{xs c0:Array Value}{f:Field}{gK:List Field}{k:IntKind}{a b:Int}{r:Bool}(aJ:(f.name != "_")=true)(hu:P.underlying f.type=some (.int k))(c:xs[f.offset]? =some (.int k a))(e:c0[f.offset]? =some (.int k b))
 (h:(Op.eqFields (d+1) xs c0 gK).run P w= .ok r w):(Op.eqFields (d+1) xs c0 (f::gK)).run P w= .ok ((a==b)&&r) w:=
 uT aJ (nB hu j c) (nB hu j e) (run_equalIn_int w d f.type k k a b hu) h
theorem C.bare{o w:World}{F:List Nat}:∀{ae:List (List Chunk)},C o F ae w->C o F [] w
 |[],h=>h
 |_::_,h=>(C.drop h).bare
theorem C.sg{o w:World}{F:List Nat}{A B:List (List Chunk)}(h:C o F (A++B) w):C o F A w:=by
 have a:C o F (B.flatten::A) w:=h.perm (by rw [g9,List.flatten_cons];exact List.perm_append_comm);exact a.drop
theorem C.f6{o w:World}{F:List Nat}{G a b c d e f:List Chunk}{ae:List (List Chunk)}(h:C o F (a::b::c::d::e::f::G::ae) w):C o F (G::a::b::c::d::e::f::ae) w:=
 h.jm (List.perm_middle (l₁:=[a,b,c,d,e,f]))
theorem C.hT{o w:World}{F:List Nat}{A:List Chunk}{B:List (List Chunk)}(h:C o F (A::B) w):C o F [A] w:=C.sg (A:=[A]) h
theorem C.kK{o w:World}{F:List Nat}{A gU:List Chunk}{B:List (List Chunk)}(h:C o F (A::gU::B) w):C o F [A,gU] w:=C.sg (A:=[A,gU]) h
abbrev tF(P:Program)(n:Nat)(fn:Func)(ag:Value->World->Prop):d6:=λe Z w=>match e with
 | .normal=>∃v,(∀a,cF Z n a->(results fn a.tmps).run P w= .ok v w)/\ag v w
 | .ret=>∃v,(∀a,cF Z n a->(results fn a.tmps).run P w= .ok v w)/\ag v w
 |_=>False
theorem Dl{P:Program}{f:FuncId}{fn:Func}{c:Code}{l:List Value}{w:World}{ag:Value->World->Prop}{n:Nat}
 (br:P.funcs[f]? =some fn) (o:fn.body=some c) (aJ:fn.ntmps=n) (p:l.length<=n)
 (h:W P {n:=n} c (jJ 0 l) w (tF P n fn ag)):Calls P f l.toArray w (nQ ag):=by
 refine callsIn_of_wp (F:=Fence.wide) br o aY ?_;refine kH (h _ (uR aJ p) (Marks.nil _ _)) ?_;rintro e a aK ⟨aa,⟨s,q,r,_,_⟩,t,m,b⟩;have k:a.defers=[]:=by rw [q,r j];rfl
 cases e with
 |normal=>obtain⟨v,g,d⟩:=b;exact⟨k,v,g _ m,aa,v,j,d⟩
 |ret=>obtain⟨v,g,d⟩:=b;exact⟨k,v,g _ m,aa,v,j,d⟩
 |exit i=>exact b.elim
 |goto l=>exact b.elim
 |panic gJ=>exact b.elim
 |outgrown=>exact b.elim
theorem dp{P:Program}{n:Nat}{Z:Env}{w:World}{fn:Func}{t u ty:Nat}{A:Addr}{U:List Value}{y z:Value}{d:TypeDesc}{size bytes:Nat}[hu:bB P ty d][l:cn P ty z size bytes]
 (q:fn.results= #[.cell t ty,.tmp u]) (r:look Z t=some (.pointer (some A))) (x:look Z u=some y) (f:ia d=true) (p:U.length=size) (j:Rd w (some A) U):
 ∀a,cF Z n a->(results fn a.tmps).run P w= .ok (.tuple #[.agg U.toArray,y]) w:=λa c=>by
 obtain⟨i,m,_,o,_⟩:=l.parts;have e:=p8 (P:=P) w A U (λJ v s=>by obtain⟨b,g,k⟩:=j J v s;cases g;exact k);rw [p] at e;simp [results,q,c.get _ _ r,c.get _ _ x,asAddr,loadVar,ky hu.h,f,sizeOf,typeInfo,m,o,e]
end
section
variable {P:Program} {n:Fr} {Z:Env} {w:World} {Q:d6} {ops:Array Oper} {rest:List Oper}
 {dst:Option Nat} {ty:TypeId} {pos:String} {after:Array Edge} {g:Option (Nat×Bool)}
theorem pz(aD:List UInt8):(strOf aD).size=aD.length:=by simp [strOf,ByteArray.size]
theorem H5(aD:List UInt8)(i:Nat):(strOf aD)[i]? =aD[i]? :=by
 show(if h:i<(strOf aD).size then some _ else none)=_;by_cases h:i<aD.length
 .rw [nb (by rw [pz];exact h),cf h];rfl
 .rw [dif_neg (by rw [pz];exact h),lv (by omega)]
theorem Bt{t:TypeId}{x y:Operand}{aD:List UInt8}{k:IntKind}{J:Nat}[e:bB P t .string](f:bs Z x=some (.string (strOf aD)))(i:bs Z y=some (.int k J))(c:J<aD.length):
 ∀a,cF Z n.n a->(execOp a.eval ⟨dst,.index t x y,ty,pos,after,g⟩).run P w= .ok (.value (bv aD[J])) w:=λa b=>by
 have d:(strOf aD)[J]? =some aD[J]:=by rw [H5,cf c]
 simp [execOp,b.eval f,b.eval i,Instr.index,asIntOf,d7 e.h,d,bv]
theorem rt{t:TypeId}{x y:Operand}{aD:List UInt8}{k:IntKind}{J:Nat}[f:bB P t .string](c:cW ops Z g=some true)(b:da n dst=true)(d:bs Z x=some (.string (strOf aD)))(e:bs Z y=some (.int k J))(a:J<aD.length)
 (h:O P n ops rest (cE Z dst (bv aD[J])) w Q):O P n ops (⟨dst,.index t x y,ty,pos,after,g⟩::rest) Z w Q:=dL c b (Bt d e a) h
theorem mQ{t:TypeId}{b:Array TypeId}{args:Array Operand}{aD:List UInt8}[i:bB P t .string](f:cW ops Z g=some true)(e:da n dst=true)(j:b= #[t])(k:fr Z args.toList=some [.string (strOf aD)])
 (h:O P n ops rest (cE Z dst (.int .i64 (aD.length:Nat))) w Q):O P n ops (⟨dst,.call ⟨.builtin .len,args,b⟩,ty,pos,after,g⟩::rest) Z w Q:=
 dL f e (λa d=>by
  subst j;have c:args.map a.eval= #[.string (strOf aD)]:=by apply fC;rw [hn,d.hr k]
  simp [execOp,resolve,invoke,builtin,c,Builtin.len_,d7 i.h,pz,goInt]) h
theorem AF(aD:List UInt8)(i J:Nat):(strOf aD).extract i J=strOf ((aD.drop i).take (J-i)):=by
 apply ByteArray.ext;apply Array.toList_inj.1;simp [strOf,ByteArray.data_extract,List.extract]
theorem BX{t:TypeId}{x y:Operand}{aD:List UInt8}{k:IntKind}{J:Nat}[c:bB P t .string](i:cW ops Z g=some true)(f:da n dst=true)(j:bs Z x=some (.string (strOf aD)))(l:bs Z y=some (.int k J))(d:J<=aD.length)
 (h:O P n ops rest (cE Z dst (.string (strOf (aD.drop J)))) w Q):O P n ops (⟨dst,.slice t x (some y) none none,ty,pos,after,g⟩::rest) Z w Q:=
 dL i f (λa b=>by
  have e:=run_slice_string_from_if (P:=P) (w:=w) t (strOf aD) k (J:Int) c.h;simp [execOp,b.eval j,b.eval l,Instr.sliceAt,d7 c.h,e,pz,d,AF];rw [ir (by simp)]) h
theorem BY{t:TypeId}{x y:Operand}{aD:List UInt8}{k:IntKind}{J:Nat}[c:bB P t .string](i:cW ops Z g=some true)(f:da n dst=true)(j:bs Z x=some (.string (strOf aD)))(l:bs Z y=some (.int k J))(d:J<=aD.length)
 (h:O P n ops rest (cE Z dst (.string (strOf (aD.take J)))) w Q):O P n ops (⟨dst,.slice t x none (some y) none,ty,pos,after,g⟩::rest) Z w Q:=
 dL i f (λa b=>by
  have e:=run_slice_string_to_if (P:=P) (w:=w) t (strOf aD) k (J:Int) c.h;simp [execOp,b.eval j,b.eval l,Instr.sliceAt,d7 c.h,e,pz,d,AF]) h
theorem rr{t e:TypeId}{x y:Operand}{m:Nat}{b off J:Nat}{k:IntKind}{z:Value}{size bytes:Nat}[hu:bB P t (.array m e)][l:cn P e z size bytes](j:cW ops Z g=some true)(f:da n dst=true)
 (q:bs Z x=some (.pointer (some ⟨b,off,none⟩))) (r:bs Z y=some (.int k J)) (d:J<m)
 (h:O P n ops rest (cE Z dst (.pointer (some ⟨b,off+J*size,none⟩))) w Q):O P n ops (⟨dst,.indexAddr t x y,ty,pos,after,g⟩::rest) Z w Q:=
 dL j f (λa c=>by
  obtain⟨i,o,_,p,_⟩:=l.parts;simp [execOp,c.eval q,c.eval r,Instr.indexAt,Instr.sureAddr,asIntOf,d7 hu.h,sizeOf,typeInfo,o,p,d,add_lit]) h
end
section
theorem hf{P:Program}{n:Nat}{Z:Env}{w:World}{fn:Func}{t ty:Nat}{A:Addr}{U:List Value}{z:Value}{d:TypeDesc}{size bytes:Nat}[hu:bB P ty d][l:cn P ty z size bytes]
 (q:fn.results= #[.cell t ty]) (r:look Z t=some (.pointer (some A))) (e:ia d=true) (p:U.length=size) (g:Rd w (some A) U):
 ∀a,cF Z n a->(results fn a.tmps).run P w= .ok (.agg U.toArray) w:=λa k=>by
 obtain⟨i,m,_,o,_⟩:=l.parts;have c:=p8 (P:=P) w A U (λJ v s=>by obtain⟨b,f,j⟩:=g J v s;cases f;exact j);rw [p] at c;simp [results,q,k.get _ _ r,asAddr,loadVar,ky hu.h,e,sizeOf,typeInfo,m,o,c]
variable {P:Program} {n:Fr} {Z:Env} {w:World} {Q:d6} {ops:Array Oper} {rest:List Oper}
 {dst:Option Nat} {ty:TypeId} {pos:String} {after:Array Edge} {g:Option (Nat×Bool)}
theorem Bz{t i:TypeId}{x y:Operand}{a b:ByteArray}{c:Bool}(f:bs Z x=some (.string a))(h:bs Z y=some (.string b))(e:(a==b)=c):
 ∀ac,cF Z n.n ac->(execOp ac.eval ⟨dst,.binOp .neq t x y i,ty,pos,after,g⟩).run P w= .ok (.value (.bool (!c))) w:=λac d=>by
 subst e;simp only [execOp,d.eval f,d.eval h,dQ,eqGuard_at_string,binOp_string_neq,dU,ei,<-rP]
theorem wM{t k:TypeId}{x y:Operand}{a b:ByteArray}{c:Bool}(f:cW ops Z g=some true)(e:da n dst=true)
 (i:bs Z x=some (.string a)) (j:bs Z y=some (.string b)) (d:(a==b)=c)
 (h:O P n ops rest (cE Z dst (.bool (!c))) w Q):O P n ops (⟨dst,.binOp .neq t x y k,ty,pos,after,g⟩::rest) Z w Q:=
 dL f e (Bz i j d) h
theorem e1{t:TypeId}{parts:Array (Nat×Operand)}{U:List Value}{c:Array Value}
 (e:fr Z (parts.toList.map (·.2))=some U) (d:∀w,(Instr.build t ((parts.toList.map (·.1)).zip U).toArray).run P w= .ok (.agg c) w):
 ∀a,cF Z n.n a->(execOp a.eval ⟨dst,.build t parts,ty,pos,after,g⟩).run P w= .ok (.value (.agg c)) w:=λa b=>by
 have:parts.map (λ(i,x)=>(i,a.eval x))=((parts.toList.map (·.1)).zip U).toArray:=by
  apply fC;rw [<-b.hr e];simp only [hn,oU];rw [List.zip_map'];rfl
 simp only [execOp,this,dQ,d,dU,ei]
theorem Ef{P:Program}{w:World}{d:Nat}{xs c0:Array Value}{f:Field}{gK:List Field}{a b:Bool}{r:Bool}(aJ:(f.name != "_")=true)(hu:P.underlying f.type=some .bool)(c:xs[f.offset]? =some (.bool a))(e:c0[f.offset]? =some (.bool b))
 (h:(Op.eqFields (d+1) xs c0 gK).run P w= .ok r w):(Op.eqFields (d+1) xs c0 (f::gK)).run P w= .ok ((a==b)&&r) w:=
 uT aJ (nB hu j c) (nB hu j e) (run_equalIn_bool hu a b w d) h
theorem Hw{P:Program}{t:TypeId}(hu:P.underlying t=some .string)(a b:ByteArray)(w:World)(d:Nat):(Op.equalIn (d+1) t (.string a) (.string b)).run P w= .ok (a==b) w:=by
 simp only [Op.equalIn,dQ,d7 hu,dU];rfl
theorem Eg{P:Program}{w:World}{d:Nat}{xs c0:Array Value}{f:Field}{gK:List Field}{a b:List UInt8}{r:Bool}(aJ:(f.name != "_")=true)(hu:P.underlying f.type=some .string)(c:xs[f.offset]? =some (.string (strOf a)))(e:c0[f.offset]? =some (.string (strOf b)))
 (h:(Op.eqFields (d+1) xs c0 gK).run P w= .ok r w):(Op.eqFields (d+1) xs c0 (f::gK)).run P w= .ok (decide (a=b)&&r) w:=by
 have he:=Hw hu (strOf a) (strOf b) w d;rw [nG] at he;exact uT aJ (nB hu j c) (nB hu j e) he h
theorem BR{s t e:TypeId}{x:Operand}{aD:List UInt8}{o:World}{F:List Nat}{ae:List (List Chunk)}[aL:bB P s .string][G:bB P t (.slice e)][he:bB P e (.int .u8)](y:C o F ae w)
 (D:cW ops Z g=some true) (B:da n dst=true) (H:bs Z x=some (.string (strOf aD)))
 (h:∀b cs c aK,(∀i v,(aG aD)[i]? =some v->cs[0+i]? =some v)->C o F ([(b,.cells cs e (cs.size,cs.size+1))]::ae) aK->O P n ops rest (cE Z dst (.slice (some ⟨b,0,none⟩) aD.length c)) aK Q):O P n ops (⟨dst,.convert s t x,ty,pos,after,g⟩::rest) Z w Q:=by
 have p:=Go.Lib.run_convert_string_bytes (P:=P) w s t e (strOf aD) aL.h G.h he.h;rw [pz] at p;have l:=y.drew.alloc (.cells (Go.Lib.bytesCells w e (strOf aD)) e)
 have m:∀k:Nat,k≠w.drew.heap.size->(Go.Lib.bytesWorld w e (strOf aD)).heap[k]? =(w.drew.alloc (.cells (Go.Lib.bytesCells w e (strOf aD)) e)).heap[k]? :=λk aa=>by
  have E:¬w.heap.size=k:=λh=>aa (h▸rfl)
  simp only [Go.Lib.bytesWorld,World.freeze,Nat.succ_ne_zero,lx,rL];rw [aI E]
 have z:C o F ([(w.heap.size,.cells (Go.Lib.bytesCells w e (strOf aD)) e ((Go.Lib.bytesCells w e (strOf aD)).size,(Go.Lib.bytesCells w e (strOf aD)).size+1))]::ae) (Go.Lib.bytesWorld w e (strOf aD)):=
  C.lm l j j j (by simp [Go.Lib.bytesWorld,World.freeze]) (Go.Lib.bytesWorld_at_new w e (strOf aD)) m
 refine dL D B (λa A=>?_) (h w.heap.size _ (grownCap w aD.length 0 e) _ (λi v f=>?_) z) (aa:=(cT.alloc w.drew _).trans (cT.cells l.first m))
 .simp only [execOp,A.eval H,p,dQ,dU,ei]
 .rw [fg]
  have d:i<aD.length:=by
   have:=(eY.1 f).1;simpa using this
  have q:(aG aD)[i]? =some (bv aD[i]):=xx (by simp [d]);rw [q] at f;cases f;have r:i<((strOf aD).data.map λb=>Value.int .u8 b.toNat).size:=by rw [Array.size_map];exact d
  unfold Go.Lib.bytesCells;rw [Array.getElem?_append_left r,Array.getElem?_map]
  have u:(strOf aD).data[i]? =some aD[i]:=by
   show aD.toArray[i]? =_;simp [d]
  rw [u];rfl
end
def Yields(P:Program)(l:Nat)(args:Array Value)(w:World)(ag:Bool->World->Prop):Prop:=
 ∃fn tmps assign body,(Instr.yield l args).run P w= .ok (.round l fn tmps assign body) w/\
  RoundIn Fence.wide 0 P l fn tmps assign body w (λe aK=>cT w aK/\∃b,e= .returned (.bool b)/\ag b aK)
abbrev fN(l:Nat):Value:=.func (.yield l) #[] #[]
section
variable {P:Program} {n:Fr} {Z:Env} {w:World} {Q:d6} {ops:Array Oper} {rest:List Oper}
 {dst:Option Nat} {ty:TypeId} {pos:String} {after:Array Edge} {g:Option (Nat×Bool)}
theorem jS{l:Nat}{x:Operand}{m:Array TypeId}{args:Array Operand}{U:List Value}{ag:Bool->World->Prop}(s:cW ops Z g=some true)(q:da n dst=true)
 (B:bs Z x=some (fN l)) (A:fr Z args.toList=some U) (f:Yields P l U.toArray w ag)
 (h:∀b aK,ag b aK->O P n ops rest (cE Z dst (.bool b)) aK Q):O P n ops (⟨dst,.call ⟨.value x,args,m⟩,ty,pos,after,g⟩::rest) Z w Q:=λa d hm=>by
 obtain⟨fn,t,i,j,o,p⟩:=f;unfold wpListIn;rw [n7 d s];simp only [kn];refine⟨λ_ _=>trivial,?_⟩;have this:args.map a.eval=U.toArray:=by apply fC;rw [hn,d.hr A]
 have z:(execOp a.eval ⟨dst,.call ⟨.value x,args,m⟩,ty,pos,after,g⟩).run P w= .ok (.round l fn t i j) w:=by
  simp only [execOp,resolve,this,d.eval B,Deferred.ofValue,invoke,dQ,ei,dU,p9,Array.append_empty,o]
 rw [nZ _ _ _ (by intro c f;cases f),z,Oper.uponIn_round];refine⟨(λu=>(by cases u)),?_⟩;refine qa (show RoundIn (jR n.r) 0 P l fn t i j w _ from p) λe C⟨k,b,he,y⟩=>?_
 subst he;exact kW (λ_ _ _ v=>lift.from k v) _ _ _ (h b C y _ (d.cE q _) ((hm.fX k).put _ _))
end
def Iter{α:Type}(P:Program)(i:FuncId)(bf:Array Value)(H:List (List Chunk))(h:List (List Chunk)->World->Prop)(T:List (List Chunk)->Prop)(enc:α->Array Value)(A:List α->α->Prop)(S:List α->Prop):Prop:=
 ∀(l:Nat)(e:List α->List (List Chunk)->World->Prop)(f:List (List Chunk)->World->Prop)(ae:List (List Chunk))(w:World),
  Own (H++ae) w->e [] ae w->h ae w->(∀pre ae w,e pre ae w->T ae)->
  (∀pre a c d(B:List Nat),e pre a c->C c B [] d->(∀b∈B,w.heap.size<=b/\b∉au a)->e pre a d)->
  (∀a c d(B:List Nat),f a c->C c B [] d->(∀b∈B,w.heap.size<=b/\b∉au a)->f a d)->
  (∀pre x a c,A pre x->e pre a c->Own a c->Yields P l (enc x) c (λb d=>∃g,C c (au a) g d/\(if b=true then e (pre++[x]) g d else f g d)))->
  Calls P i (#[fN l]++bf) w (λ_ aK=>∃fy,C w (au (H++ae)) (H++fy) aK/\((∃xs,S xs/\e xs fy aK)\/f fy aK))
theorem cF.g6{n:Nat}:∀(l:List (Nat×Value)){Z:Env}{a:Act},cF Z n a->(∀x∈l,Nat.blt x.1 n=true)->cF (l.reverse++Z) n {tmps:=l.foldl (λt(p,v)=>t.setIfInBounds p v) a.tmps,defers:=[]}
 |[],Z,a,h,_=>⟨h.size,h.get⟩
 |(p,v)::r,Z,a,h,b=>by
  have c:cF ((p,v)::Z) n {tmps:=a.tmps.setIfInBounds p v,defers:=a.defers}:=h.put (b (p,v) (by simp)) v;have d:=cF.g6 r c (λx e=>b x (by simp [e]));simpa using d
abbrev pj(l:Nat)(rec:Loop):List Chunk:=[(l,.loop rec)]
theorem C.gy{o w:World}{F:List Nat}{H ae L:List (List Chunk)}(h:C o F (H++(ae++L)) w):Own ae w:=by
 have a:C o F (ae++(H++L)) w:=h.perm (by
  simp only [g9];rw [<-dF,<-dF];exact oZ _ lC)
 exact a.sub
theorem C.jo{o w:World}{F:List Nat}{H ae:List (List Chunk)}(h:C o F (H++ae) w):Own ae w:=by
 have a:C o F (ae++H) w:=h.perm (by simp only [g9];exact List.perm_append_comm);exact a.sub
theorem C.kU{o w:World}{F:List Nat}{ae:List (List Chunk)}(h:C o F ae w):Own ae w:=C.sub (A:=ae) (B:=[]) (by simpa using h)
theorem C.swap{o w:World}{F:List Nat}{A B:List (List Chunk)}(h:C o F (A++B) w):C o F (B++A) w:=h.perm (by simp only [g9];exact List.perm_append_comm)
theorem C.aside{o w aK:World}{F:List Nat}{ae:List (List Chunk)}{B:List Nat}(h:C o F ae w)(k:C w B [] aK)(e:∀b∈B,o.heap.size<=b/\b∉au ae):C o F ae aK:=by
 refine⟨k.os.trans h.os,k.tape.trans h.tape,k.output.trans h.output,eh h.size k.size,λb f g=>?_,λc a=>?_,h.nodup,h.own,h.plain⟩
 .rw [k.fX b (t5 f h.size) (λd=>by have:=(e b d).1;omega)];exact h.fX b f g
 .rw [k.fX c.1 (h.o4 a) (λd=>(e _ d).2 (og.2 ⟨c.2,a⟩))];exact h.here c a
theorem C.putObj{o w:World}{F:List Nat}{ae:List (List Chunk)}{l:Nat}{rec oo:Loop}(h:C o F (ae++[pj l rec]) w):C o F (ae++[pj l oo]) (w.putObj l (.loop oo)):=by
 have a:C o F ([(l,.loop rec)]::ae) w:=h.jm lC;have d:l<w.heap.size:=a.o4 (c:=(l,.loop rec)) (by simp);have b:=a.lm (aK:=w.putObj l (.loop oo)) (fZ:=.loop oo) j j j (by simp) (World.putObj_heap_same d) (λk aa=>rB aa);exact b.jm (lC (l₁:=[pj l oo]))
theorem C.rU{o w aK:World}{F:List Nat}{H A bb L:List (List Chunk)}(h:C o F (H++(A++L)) w)(k:C w (au A) bb aK):C o F (H++(bb++L)) aK:=by
 have p:∀X:List (List Chunk),(H++(X++L)).flatten.Perm (X++(H++L)).flatten:=λX=>by
  simp only [g9];rw [<-dF,<-dF];exact oZ _ lC
 exact((h.perm (p A)).after k).perm (p bb).symm
theorem C.yu{o w:World}{F:List Nat}{H A L:List (List Chunk)}(h:C o F (H++(A++L)) w):C o F (H++A) w:=by
 rw [<-dF] at h;have a:C o F (L.flatten::(H++A)) w:=h.perm (by rw [g9,List.flatten_cons];exact List.perm_append_comm);exact a.drop
theorem cT.loop{w:World}{l:Nat}{rec:Loop}(h:w.heap[l]? =some (.loop rec))(I:Obj):cT w (w.putObj l I):=cT.lm h (by simp) (λk aa=>rB aa)
def mp:Exit->Option Code
 | .ret=>some .ret
 | .exit id=>some (.exit id)
 |_=>none
theorem B8{P:Program}{n:Fr}{Z:Env}{w:World}{Q:d6}{α:Type}{g:Operand}{J:Array Tmp}{assign body:Code}{Y:FuncId}{bf:Array Value}[br:Entry P Y]
 {H ae:List (List Chunk)} {aD:List (List Chunk)->World->Prop} {T:List (List Chunk)->Prop} {enc:α->Array Value} {A:List α->α->Prop} {S:List α->Prop} {o:World} {F:List Nat}
 (bo:Iter P Y bf H aD T enc A S) (aJ:n={n:=n.n,r:=none,m:=true,b:=n.b}) (bv:n.b<=w.heap.size) (bc:C o F (H++ae) w)
 (bm:bs Z g=some (.func (.func Y) #[] bf)) (bB:∀x,(enc x).size=J.size) (bA:∀p∈J,Nat.blt p n.n=true)
 (U:List α->List (List Chunk)->Prop) (X:Exit->List (List Chunk)->Prop) (a7:U [] ae) (bg:∀L aK,C w [] [L] aK->aD (ae++[L]) aK) (be:∀pre ae L,U pre ae->T (ae++[L]))
 (round:∀(l:Nat)(pre:List α)(x:α)(d:List (List Chunk))(L:List Chunk)(z:World),A pre x->U pre d->C o F (H++(d++[L])) z->
  W P {n:=n.n,r:=some l} assign ((J.toList.zip (enc x).toList).reverse++Z) z (λe aV i=>e= .normal/\∃u,C z (au d) u i/\
   ∀(L:List Chunk)(aC:World),C o F (H++(u++[L])) aC->W P {n:=n.n,r:=some l} body aV aC (λe _ R=>∃O,C aC (au u) O R/\
    (match e with
     | .normal=>U (pre++[x]) O
     | .ret=>X .ret O
     | .exit id=>X (.exit id) O
     |_=>False))))
 (done:∀xs fy aK,S xs->U xs fy->C o F (H++fy) aK->Q .normal Z aK)
 (jump:∀e fy aK,(e= .ret\/∃id,e= .exit id)->X e fy->C o F (H++fy) aK->Q e Z aK):
 W P n (.rangeFunc g J assign body) Z w Q:=λa aj bu=>by
 have bx:n.r=none:=by rw [aJ]
 have bw:n.m=true:=by rw [aJ]
 obtain⟨a5,aZ,a0,a2⟩:=br.h;have a3:a5.body.isNone=false:=a2;refine wpIn_rangeFunc ?_;intro fn bG;obtain⟨rec,G⟩:∃rec:LoopState->Option Code->Loop,rec=λst f=>{state:=st,pending:=f,fn,tmps:=a.tmps,params:=J,assign,body,defers:=w.heap.size}:=⟨_,j⟩
 have ap:C o F (H++(ae++[pj (w.heap.size+1) (rec .ready none)])) ((w.alloc (.deferred (some []))).alloc (.loop (rec .ready none))):=by
  have aw:C w [] [] (w.alloc (.deferred (some []))):=⟨j,j,j,by simp,λk aa _=>qA w _ aa,by simp,by simp [au],by simp [au],by simp⟩;have q:=(bc.aM aw).alloc (.loop (rec .ready none));have am:(w.alloc (.deferred (some []))).heap.size=w.heap.size+1:=by simp
  rw [am] at q;have an:C o F ([pj (w.heap.size+1) (rec .ready none)]++(H++ae)) _:=q;rw [<-dF];exact an.swap
 obtain⟨s,ag⟩:∃s,(w.alloc (.deferred (some []))).alloc (.loop (rec .ready none))=s:=⟨_,j⟩;rw [ag] at ap;have aO:cT w s:=by rw [<-ag];exact(cT.alloc _ _).trans (cT.alloc _ _)
 have bE:o.heap.size<=s.heap.size:=ap.size
 have aE:s.heap[w.heap.size]? =some (.deferred (some [])):=by
  rw [<-ag];exact(qA _ _ (by simp)).trans (heap_alloc_new w _)
 refine⟨w.heap.size+1,[o7 w.heap.size],s,{target:=.fn (.func Y) bf,args:= #[fN (w.heap.size+1)]},s,Y,#[fN (w.heap.size+1)]++bf,s,?_,?_,λ_ _=>trivial,?_,(λbn=>(by cases bn)),?_⟩
 .rw [<-ag,G];show(Instr.enterLoop fn a.tmps J assign body n.r).run P w=_;rw [bx];exact run_enterLoop_outer _ _ _ _ _
 .simp only [resolve,aj.eval bm];simp [go_sem]
 .simp only [invoke,callFunc,aZ,a0,a3,dQ,ei,dU,me,p9,Array.append_empty,if_false,Bool.false_eq_true]
 .obtain⟨L,M⟩:∃L:LoopState->Option Code->List Chunk,L=λst f=>pj (w.heap.size+1) (rec st f):=⟨_,j⟩
  have hmarks:∀aK,aK.heap[w.heap.size]? =some (.deferred (some []))->cT w aK->Marks n aK ([o7 w.heap.size]++a.defers):=λaK bj aa=>by
   obtain⟨aW,q,_,a8,ao⟩:=bu;refine⟨w.heap.size::aW,by rw [q];rfl,(λh=>(by rw [bw] at h;cases h)),l6.2 ⟨λN=>?_,a8⟩,λD ai=>?_⟩
   .have:=(gv.1 (ao _ N).2).1;omega
   rcases g0.1 ai with rfl|ai
   .exact⟨bv,bj⟩
   .exact⟨(ao D ai).1,aa D (ao D ai).2⟩
  have aq:C o F (H++(ae++[L .ready none])) s:=by rw [M];exact ap
  have bb:C w [] [L .ready none] s:=by
   have aw:C w [] [] (w.alloc (.deferred (some []))):=⟨j,j,j,by simp,λk aa _=>qA w _ aa,by simp,by simp [au],by simp [au],by simp⟩;have q:=aw.alloc (.loop (rec .ready none));have am:(w.alloc (.deferred (some []))).heap.size=w.heap.size+1:=by simp
   rw [am,ag] at q;rw [M];exact q
  have ba:∀b∈au H,b<s.heap.size:=λb av=>by
   obtain⟨I,bz⟩:=og.1 av;exact aq.o4 (c:=(b,I)) (by simp only [g9,List.mem_append];exact .inl bz)
  have aQ:∀{d:List (List Chunk)}{B:List Nat},(∀b∈B,s.heap.size<=b/\b∉au d)->∀b∈B,o.heap.size<=b/\b∉au (H++d):=λaf b av=>by
   obtain⟨q,an⟩:=af b av;refine⟨eh bE q,λN=>?_⟩;simp only [au,g9,List.map_append,List.mem_append] at N;rcases N with N|N
   .have:=ba b N;omega
   .exact an N
  refine ly (show CallsIn (jR n.r) 0 P Y _ s _ from bo (w.heap.size+1)
   (λpre fy aK=>∃d,fy=d++[L .ready none]/\U pre d/\C o F (H++fy) aK)
   (λfy aK=>∃d e,fy=d++[L .done (mp e)]/\(e= .ret\/∃id,e= .exit id)/\X e d/\C o F (H++fy) aK)
   (ae++[L .ready none]) s aq.kU ⟨ae,j,a7,aq⟩ (bg _ _ bb) (λpre fy aK⟨d,he,a1,_⟩=>by subst he;exact be _ _ _ a1) ?_ ?_ ?_) ?_
  .rintro pre d z i B ⟨u,rfl,a1,aL⟩ k af;exact⟨u,j,a1,aL.aside k (aQ af)⟩
  .rintro d z i B ⟨u,e,rfl,he,ar,aL⟩ k af;exact⟨u,e,j,he,ar,aL.aside k (aQ af)⟩
  .rintro pre x d z a9 ⟨u,rfl,a1,aL⟩ aR
   have ay:∀{v0:World}{eJ:List Nat}{gU:List (List Chunk)}{aK:World}{st:LoopState}{f:Option Code},C v0 eJ (gU++[L st f]) aK->aK.heap[w.heap.size+1]? =some (.loop (rec st f)):=λh=>by
    rw [M] at h;exact h.here (w.heap.size+1,.loop _) (by simp)
   have bq:=ay aR;have ak:=run_yield (P:=P) (args:=enc x) bq (by rw [G];exact bB x);rw [G] at ak;refine⟨fn,_,assign,body,ak,roundIn_of_wpIn (F:=Fence.wide) aY ?_⟩
   have bF:(J.zip (enc x)).foldl (λt(p,v)=>t.setIfInBounds p v) a.tmps=(J.toList.zip (enc x).toList).foldl (λt(p,v)=>t.setIfInBounds p v) a.tmps:=by
    rw [<-Array.foldl_toList,Array.toList_zip]
   have bk:=cF.g6 (J.toList.zip (enc x).toList) aj (λy ak=>bA _ (by have:=(List.of_mem_zip (a:=y.1) (b:=y.2) ak).1;simpa using this));have aS:=round (w.heap.size+1) pre x u (L .ready none) z a9 a1 aL _ bk (Marks.nil _ _);rw [<-bF] at aS;refine kH aS ?_;rintro e aX i ⟨ab,bt,aV,bl,rfl,O,bD,bh⟩;have al:∀{v0:World}{eJ:List Nat}{K:List (List Chunk)},C v0 eJ (K++(u++[L .ready none])) z->C v0 eJ (K++(O++[L .ready none])) i:=λh=>h.rU bD
   have E:i.heap[w.heap.size+1]? =some (.loop (rec .ready none)):=ay (gU:=H++O) (by rw [dF];exact al aL)
   have put:∀{v0:World}{eJ:List Nat}{K gU:List (List Chunk)}{aK:World}{st s5:LoopState}{f sO:Option Code},C v0 eJ (K++(gU++[L st f])) aK->C v0 eJ (K++(gU++[L s5 sO])) (aK.putObj (w.heap.size+1) (.loop (rec s5 sO))):=λh=>by
    rw [M] at h⊢;rw [<-dF] at h⊢;exact h.putObj
   have aF:=run_beginRound (P:=P) E (by rw [G]);have bC:({rec .ready none with state:=.busy}:Loop)=rec .busy none:=by rw [G]
   rw [bC] at aF;refine⟨_,aF,?_⟩;have aT:=put (s5:=.busy) (sO:=none) (al aL);have aN:cT i (i.putObj (w.heap.size+1) (.loop (rec .busy none))):=cT.loop E _;refine kH (bh (L .busy none) _ aT aX bl (bt.fX aN)) ?_;rintro e a4 R ⟨bp,bH,bJ,_,ad,aU,ac⟩
   have V:∀{v0:World}{eJ:List Nat}{K:List (List Chunk)}(st:LoopState)(f:Option Code),C v0 eJ (K++(u++[L .ready none])) z->C v0 eJ (K++(ad++[L st f])) (R.putObj (w.heap.size+1) (.loop (rec st f))):=
    λst f h=>put ((put (s5:=.busy) (sO:=none) (al h)).rU aU)
   have aP:R.heap[w.heap.size+1]? =some (.loop (rec .busy none)):=ay (gU:=H++ad) (by rw [dF];exact aT.rU aU)
   have fin:∀(f:Option Code),(Instr.endRound (w.heap.size+1) f).run P R= .ok (.bool f.isNone) (R.putObj (w.heap.size+1) (.loop (rec (if f.isNone then .ready else .done) f))):=λf=>by
    have:=run_endRound (P:=P) f aP;rw [this];rw [G]
   have qC:∀st f,cT z (R.putObj (w.heap.size+1) (.loop (rec st f))):=λst f=>((ab.trans aN).trans bp).trans (cT.loop aP _)
   have az:C z (au (u++[L .ready none])) ([]++(u++[L .ready none])) z:=aR;cases e with
   |normal=>exact⟨_,_,fin none,qC _ _,true,j,_,V .ready none az,by rw [a6 j];exact⟨ad,j,ac,V .ready none aL⟩⟩
   |ret=>exact⟨_,_,fin (some .ret),qC _ _,false,j,_,V .done (some .ret) az,by rw [aI (by decide)];exact⟨ad,.ret,j,.inl j,ac,V .done (some .ret) aL⟩⟩
   |exit id=>exact⟨_,_,fin (some (.exit id)),qC _ _,false,j,_,V .done (some (.exit id)) az,by rw [aI (by decide)];exact⟨ad,.exit id,j,.inr ⟨id,j⟩,ac,V .done (some (.exit id)) aL⟩⟩
   |goto t=>exact ac.elim
   |panic gJ=>exact ac.elim
   |outgrown=>exact ac.elim
  .rintro e i ⟨ab,v,rfl,fy,bI,bi⟩;have aH:cF Z n.n ({a with defers:=[o7 w.heap.size]++a.defers}:Act):=⟨aj.size,aj.get⟩;rcases bi with⟨xs,bd,d,rfl,a1,aL⟩|⟨d,e,rfl,he,ar,aL⟩
   .have E:i.heap[w.heap.size+1]? =some (.loop (rec .ready none)):=by
     rw [M] at aL;exact aL.here (w.heap.size+1,.loop _) (by simp)
    have ax:=run_endLoop (P:=P) E (by rw [G];simp)
    have aB:C o F (H++d) (i.putObj (w.heap.size+1) (.loop {rec .ready none with state:=.exhausted})):=by
     rw [M,<-dF] at aL;have q:=aL.putObj (oo:={rec .ready none with state:=.exhausted});rw [dF] at q;exact q.yu
    have ah:cT w (i.putObj (w.heap.size+1) (.loop {rec .ready none with state:=.exhausted})):=(aO.trans ab).trans (cT.loop E _);have aA:(rec .ready none).pending=none:=by rw [G]
    refine⟨none,_,ax.trans (congrArg (λp=>Result.ok p _) aA),?_⟩;exact⟨ah,hmarks _ (((ab.trans (cT.loop E _))) _ aE) ah,Z,aH,done xs d _ bd a1 aB⟩
   .have E:i.heap[w.heap.size+1]? =some (.loop (rec .done (mp e))):=by
     rw [M] at aL;exact aL.here (w.heap.size+1,.loop _) (by simp)
    have ax:=run_endLoop (P:=P) E (by rw [G];simp)
    have aB:C o F (H++d) (i.putObj (w.heap.size+1) (.loop {rec .done (mp e) with state:=.exhausted})):=by
     rw [M,<-dF] at aL;have q:=aL.putObj (oo:={rec .done (mp e) with state:=.exhausted});rw [dF] at q;exact q.yu
    have ah:cT w (i.putObj (w.heap.size+1) (.loop {rec .done (mp e) with state:=.exhausted})):=(aO.trans ab).trans (cT.loop E _)
    have aG:(lift n w Q) e {a with defers:=[o7 w.heap.size]++a.defers} (i.putObj (w.heap.size+1) (.loop {rec .done (mp e) with state:=.exhausted})):=
     ⟨ah,hmarks _ (((ab.trans (cT.loop E _))) _ aE) ah,Z,aH,jump e d _ he ar aB⟩
    have aA:(rec .done (mp e)).pending=mp e:=by rw [G]
    refine⟨mp e,_,ax.trans (congrArg (λp=>Result.ok p _) aA),?_⟩;rcases he with rfl|⟨id,rfl⟩
    .exact wpIn_ret aG
    .exact wpIn_exit aG
def jz(B:Nat)(w aK:World):Prop:=aK.os=w.os/\aK.tape=w.tape/\aK.output=w.output/\aK.heap.size=w.heap.size/\∀k:Nat,aK.heap[k]? =w.heap[k]?\/(B<=k/\w.heap[k]? =some (.deferred (some [])))
theorem jz.refl(B:Nat)(w:World):jz B w w:=⟨j,j,j,j,λ_=>.inl j⟩
theorem jz.step{B:Nat}{w aK:World}{D:Nat}(h:jz B w aK)(g:B<=D)(i:aK.heap[D]? =some (.deferred (some []))):jz B w (aK.putObj D (.deferred none)):=by
 obtain⟨c,d,e,f,b⟩:=h;refine⟨c,d,e,by simpa using f,λk=>?_⟩;by_cases aa:k=D
 .subst aa;rcases b k with a|a
  .exact .inr ⟨g,a▸i⟩
  .exact .inr a
 .rw [rB aa];exact b k
theorem jz.st{o w aK:World}{F:List Nat}{ae:List (List Chunk)}{B:Nat}(s:jz B w aK)(h:C o F ae w)(l:o.heap.size<=B):C o F ae aK:=by
 obtain⟨e,f,g,i,d⟩:=s;refine⟨e.trans h.os,f.trans h.tape,g.trans h.output,by rw [i];exact h.size,λk aa j=>?_,λc b=>?_,h.nodup,h.own,h.plain⟩
 .rcases d k with a|⟨a,_⟩
  .rw [a];exact h.fX k aa j
  .omega
 .rcases d c.1 with a|⟨_,a⟩
  .rw [a];exact h.here c b
  .rw [h.here c b] at a;exact absurd (hz a) (h.plain c b)
theorem jz.qC{o w aK:World}(s:jz o.heap.size w aK)(h:cT o w):cT o aK:=λD b=>by
 rcases s.2.2.2.2 D with a|⟨a,_⟩
 .rw [a];exact h D b
 .have:=(gv.1 b).1;omega
abbrev tG(P:Program)(n:Nat)(fn:Func)(B:Nat)(ag:Value->World->Prop):d6:=λe Z w=>match e with
 | .normal=>∃v,∀aK,jz B w aK->(∀a,cF Z n a->(results fn a.tmps).run P aK= .ok v aK)/\ag v aK
 | .ret=>∃v,∀aK,jz B w aK->(∀a,cF Z n a->(results fn a.tmps).run P aK= .ok v aK)/\ag v aK
 |_=>False
theorem yZ{P:Program}{fn:Func}{tmps:Array Value}{ag:Ending->World->Prop}{B:Nat}{w:World}{v:Value}:∀(a:List Nat)(b:World),jz B w b->(∀D∈a,B<=D)->a.Nodup->(∀D∈a,b.heap[D]? =some (.deferred (some [])))->
 (∀aK,jz B w aK->(results fn tmps).run P aK= .ok v aK/\ag (.returned v) aK)->LeavesInM Fence.wide 0 P fn tmps ag (a.map o7) .returning b
 |[],b,s,_,_,_,h=>⟨v,h b s⟩
 |D::a,b,s,e,g,d,h=>by
  refine⟨by simp,.inl ⟨D,_,j,run_takeDeferred (d D (by simp)),?_⟩⟩;have f:=l6.1 g;exact yZ a _ (s.step (e D (by simp)) (d D (by simp))) (λE c=>e E (by simp [c])) f.2 (λE c=>by rw [rB (λhe=>by subst he;exact f.1 c)];exact d E (by simp [c])) h
theorem Dm{P:Program}{f:FuncId}{fn:Func}{c:Code}{l:List Value}{w:World}{ag:Value->World->Prop}{n:Nat}
 (br:P.funcs[f]? =some fn) (r:fn.body=some c) (aJ:fn.ntmps=n) (t:l.length<=n)
 (h:W P {n:=n,m:=true,b:=w.heap.size} c (jJ 0 l) w (tG P n fn w.heap.size ag)):Calls P f l.toArray w ag:=by
 refine callsIn_of_wp_marks (F:=Fence.wide) br r aY ?_;refine kH (h _ (uR aJ t) (Marks.nil _ _)) ?_;rintro e a aK ⟨aa,⟨q,u,_,x,o⟩,z,y,g⟩
 have key:(∃v,∀d,jz w.heap.size aK d->(∀a,cF z n a->(results fn a.tmps).run P d= .ok v d)/\ag v d)->LeavesInM Fence.wide 0 P fn a.tmps (λe aK=>cT w aK/\∃v,e= .returned v/\ag v aK) a.defers .returning aK:=λ⟨v,p⟩=>by
  rw [u];exact yZ (B:=w.heap.size) (w:=aK) (v:=v) q aK (jz.refl _ _) (λD k=>(o D k).1) x (λD k=>(o D k).2) (λd s=>⟨(p d s).1 a y,s.qC aa,v,j,(p d s).2⟩)
 cases e with
 |normal=>exact key g
 |ret=>exact key g
 |exit i=>exact g.elim
 |goto l=>exact g.elim
 |panic gJ=>exact g.elim
 |outgrown=>exact g.elim
end Go.Proofs.YtdomoelfhjdioaaGreatDoor.R
namespace Go.Proofs.YtdomoelfhjdioaaGreatDoor.R
open Go.Proofs.Tryz Go Go.RowKit
open Go.MapKept (Stamped)
class Keys{cv:Type}(P:Program)(cY:TypeId)(key:cv->Value):Prop where
 inj:∀a b,key a=key b->a=b
 check:∀(w:World)(em:Bool)k,(Instr.checkKey em 10000 cY (key k)).run P w= .ok () w
 find:∀(w:World)k(es:List MapEntry),(∀e∈es,∃J,e.key=key J)->
  ((Instr.findKey cY (key k) es).run P w= .ok none w/\∀e∈es,e.key≠key k)\/∃(J:Nat)(e:MapEntry),(Instr.findKey cY (key k) es).run P w= .ok (some (J,e.val)) w/\es[J]? =some e/\e.key=key k
 stays:∀(w:World)k,(Instr.keyThatStays (key k) (key k)).run P w= .ok (key k) w
abbrev bL(n:Int):Value:=.int .i64 n
instance {P:Program}{cY:TypeId}[hu:bB P cY (.int .i64)]:Keys P cY bL where
 inj:=λa b h=>by cases h;rfl
 check:=λw em k=>MapKept.run_checkKey hu.h (show MapKept.IsKey (.int .i64) (bL k) from j) em 9999
 find:=λw k es h=>by
  have aa:MapKept.IsKey (.int .i64) (bL k):=rfl;rcases MapKept.findNow_spec aa es 0 (λx i=>by obtain⟨J,g⟩:=h x i;rw [g];rfl) with⟨c,d⟩|⟨J,e,c,d,f⟩
  .exact .inl ⟨MapKept.run_findKey hu.h c,d⟩
  .exact .inr ⟨J,e,by rw [fg] at c;exact MapKept.run_findKey hu.h c,d,f⟩
 stays:=λw k=>by
  have aa:MapKept.IsKey (.int .i64) (bL k):=rfl;simp [Instr.keyThatStays,MapKept.sameBits_self aa]
section
variable {cv:Type} [DecidableEq cv]
def aZ{β:Type}:List (cv×β)->cv->Option β
 |[],_=>none
 |(J,v)::r,k=>if J=k then some v else aZ r k
def b9{β:Type}:List (cv×β)->cv->β->List (cv×β)
 |[],k,v=>[(k,v)]
 |(J,u)::r,k,v=>if J=k then(k,v)::r else(J,u)::b9 r k v
def fK{β:Type}:List (cv×β)->cv->List (cv×β)
 |[],_=>[]
 |(J,u)::r,k=>if J=k then r else(J,u)::fK r k
end
def cc{cv:Type}(key:cv->Value)(I:Obj)(m:List (cv×Value)):Prop:=
 ∃es clock,I= .map es clock/\Stamped es clock/\es.toList.map (λe=>(e.key,e.val))=m.map λp=>(key p.1,p.2)
section
variable {cv:Type} [DecidableEq cv] {key:cv->Value} {P:Program} {cY:TypeId}
theorem cc.new:cc key (.map #[] 0) ([]:List (cv×Value)):=⟨#[],0,j,MapKept.stamped_empty 0,j⟩
theorem cc.vJ{I:Obj}{m:List (cv×Value)}(h:cc key I m):I≠Obj.deferred (some []):=by obtain⟨es,c,rfl,_⟩:=h;simp
theorem cc.nodup [aa:Keys P cY key]{I:Obj}{m:List (cv×Value)}(h:cc key I m):(m.map (·.1)).Nodup:=by
 obtain⟨es,clock,rfl,⟨_,_,c⟩,d⟩:=h
 have e:es.toList.map (·.key)=(m.map (·.1)).map key:=by
  have:=aH (List.map Prod.fst) d;simpa [oU,Function.comp_def] using this
 rw [e] at c;exact List.Pairwise.of_map key (λa b f he=>f (he▸rfl)) c
theorem oh{β:Type}:∀(m:List (cv×β))(k:cv),(aZ m k=none/\∀p∈m,p.1≠k)\/∃(J:Nat)(v:β),aZ m k=some v/\m[J]? =some (k,v)/\∀(i:Nat)p,i<J->m[i]? =some p->p.1≠k
 |[],k=>.inl ⟨j,by simp⟩
 |(J,v)::r,k=>by
  by_cases h:J=k
  .subst h;exact .inr ⟨0,v,by simp [aZ],j,by intro i p g;omega⟩
  .rcases oh r k with⟨c,d⟩|⟨i,u,c,d,e⟩
   .exact .inl ⟨by simp [aZ,h,c],by intro p b;cases b with|head=>exact h|tail _ b=>exact d p b⟩
   .refine .inr ⟨i+1,u,by simp [aZ,h,c],by simpa using d,λa p f b=>?_⟩;cases a with
    |zero=>simp at b;subst b;exact h
    |succ a=>exact e a p (by omega) (by simpa using b)
theorem cc.find [aa:Keys P cY key]{es:Array MapEntry}{clock:Nat}{m:List (cv×Value)}(h:cc key (.map es clock) m)(k:cv)(w:World):
 ((Instr.findKey cY (key k) es.toList).run P w= .ok none w/\aZ m k=none/\(∀e∈es.toList,e.key≠key k)/\∀p∈m,p.1≠k)\/
 ∃(J:Nat)(e:MapEntry),(Instr.findKey cY (key k) es.toList).run P w= .ok (some (J,e.val)) w/\aZ m k=some e.val/\es[J]? =some e/\e.key=key k/\m[J]? =some (k,e.val):=by
 obtain⟨K,H,he,aL,hm⟩:=h;cases he
 have D:∀e∈es.toList,∃J,e.key=key J:=λe he=>by
  have:(e.key,e.val)∈es.toList.map (λe=>(e.key,e.val)):=dO.2 ⟨e,he,j⟩;rw [hm] at this;obtain⟨p,_,b⟩:=dO.1 this;exact⟨p.1,by simpa using(congrArg Prod.fst b).symm⟩
 have x:∀(J:Nat)(e:MapEntry),es.toList[J]? =some e->∃p,m[J]? =some p/\e.key=key p.1/\e.val=p.2:=λJ e he=>by
  have a:(es.toList.map (λe=>(e.key,e.val)))[J]? =some (e.key,e.val):=by simp only [gN,he,Option.map_some]
  rw [hm,gN] at a;cases b:m[J]? with
  |none=>simp [b] at a
  |some p=>simp [b] at a;exact⟨p,j,a.1.symm,a.2.symm⟩
 have s:∀(J:Nat)p,m[J]? =some p->∃e,es.toList[J]? =some e/\e.key=key p.1/\e.val=p.2:=λJ p b=>by
  have a:(m.map (λp=>(key p.1,p.2)))[J]? =some (key p.1,p.2):=by simp only [gN,b,Option.map_some]
  rw [<-hm,gN] at a;cases he:es.toList[J]? with
  |none=>simp [he] at a
  |some e=>simp [he] at a;exact⟨e,j,a.1,a.2⟩
 rcases aa.find w k es.toList D with⟨a,d⟩|⟨J,e,a,d,o⟩
 .refine .inl ⟨a,?_,d,?_⟩
  .rcases oh m k with⟨l,_⟩|⟨i,v,_,c,_⟩
   .exact l
   .obtain⟨e,he,n,_⟩:=s i _ c;exact absurd n (d e (hk he))
  .intro p b f;obtain⟨i,z⟩:=l7 b;obtain⟨e,he,n,_⟩:=s i p z;exact d e (hk he) (f▸n)
 .obtain⟨p,g,G,t⟩:=x J e d;have f:p.1=k:=aa.inj _ _ (G.symm.trans o);refine .inr ⟨J,e,a,?_,by simpa using d,o,by rw [g,<-f,t]⟩;have F:(m.map (·.1)).Nodup:=cc.nodup (P:=P) (cY:=cY) (key:=key) (I:=.map es clock) ⟨es,clock,j,aL,hm⟩;rcases oh m k with⟨_,c⟩|⟨i,v,l,c,u⟩
  .exact absurd f (c p (hk g))
  .have A:i=J:=by
    rcases rQ i J with E|heq|y
    .exfalso;have q:(m.map (·.1))[i]? =some k:=by rw [gN,c];rfl
     have r:(m.map (·.1))[J]? =some k:=by rw [gN,g,<-f];rfl
     have B:i<(m.map (·.1)).length:=(eY.1 q).1;have C:J<(m.map (·.1)).length:=(eY.1 r).1;have:=(oF.1 F) i J B C E;rw [(eY.1 q).2,(eY.1 r).2] at this;exact this j
    .exact heq
    .exact absurd f (u J p y g)
   subst A;rw [g] at c;cases c;rw [l,t]
theorem vB{β:Type}:∀(m:List (cv×β))(k:cv)(v:β),(∀p∈m,p.1≠k)->b9 m k v=m++[(k,v)]
 |[],_,_,_=>rfl
 |(J,u)::r,k,v,h=>by
  have a:J≠k:=h (J,u) (by simp);simp [b9,a,vB r k v (λp b=>h p (by simp [b]))]
theorem zm{β:Type}:∀(m:List (cv×β))(k:cv)(v:β)(J:Nat)(u:β),(m.map (·.1)).Nodup->m[J]? =some (k,u)->b9 m k v=m.set J (k,v)
 |[],_,_,J,_,_,h=>by simp at h
 |(i,x)::r,k,v,0,u,_,h=>by simp at h;simp [b9,h.1]
 |(i,x)::r,k,v,J+1,u,aJ,h=>by
  have b:=l6.1 (by simpa using aJ:(i::r.map (·.1)).Nodup);have a:r[J]? =some (k,u):=by simpa using h
  have c:i≠k:=λe=>b.1 (by rw [e];exact dO.2 ⟨_,hk a,j⟩)
  simp [b9,c,zm r k v J u b.2 a]
theorem vr{β:Type}:∀(m:List (cv×β))(k:cv),(∀p∈m,p.1≠k)->fK m k=m
 |[],_,_=>rfl
 |(J,u)::r,k,h=>by
  have a:J≠k:=h (J,u) (by simp);simp [fK,a,vr r k (λp b=>h p (by simp [b]))]
theorem zb{β:Type}:∀(m:List (cv×β))(k:cv)(J:Nat)(u:β),(m.map (·.1)).Nodup->m[J]? =some (k,u)->fK m k=m.eraseIdx J
 |[],_,J,_,_,h=>by simp at h
 |(i,x)::r,k,0,u,_,h=>by simp at h;simp [fK,h.1]
 |(i,x)::r,k,J+1,u,aJ,h=>by
  have b:=l6.1 (by simpa using aJ:(i::r.map (·.1)).Nodup);have a:r[J]? =some (k,u):=by simpa using h
  have c:i≠k:=λe=>b.1 (by rw [e];exact dO.2 ⟨_,hk a,j⟩)
  simp [fK,c,zb r k J u b.2 a]
theorem cc.update [aa:Keys P cY key]{es:Array MapEntry}{clock:Nat}{m:List (cv×Value)}(h:cc key (.map es clock) m)(k:cv)(v:Value)(w:World){b:Nat}{mt eG:TypeId}(hu:P.underlying mt=some (.map cY eG))(d:w.heap[b]? =some (.map es clock)):
 ∃fZ,(Instr.mapUpdate mt (.map (some b)) (key k) v).run P w= .ok () {w with heap:=w.heap.setIfInBounds b fZ}/\cc key fZ (b9 m k v):=by
 rcases h.find (P:=P) (cY:=cY) k w with⟨f,_,a,c⟩|⟨J,e,f,_,a,c,g⟩
 .obtain⟨r,q,he,aL,hm⟩:=h;cases he;refine⟨_,?_,es.push {key:=key k,val:=v,born:=clock},clock+1,j,MapKept.stamped_push aL a,?_⟩
  .simp only [Instr.mapUpdate,dQ,d7 hu,mW d,aa.check,f,dU,rC _ d]
  .rw [vB m k v c];simp [hm]
 .have u:=cc.nodup (P:=P) (cY:=cY) h;obtain⟨r,q,he,aL,hm⟩:=h;cases he;have s:((es[J]?).map (·.key)).getD (key k)=key k:=by simp [a,c]
  refine⟨_,?_,es.modify J (λe=>{e with key:=key k,val:=v}),clock,j,MapKept.stamped_modify aL _ _ (λ_ _=>rfl) (λhq _ n=>by rw [a] at n;cases n;exact c.symm),?_⟩
  .simp only [Instr.mapUpdate,dQ,d7 hu,mW d,aa.check,f,dU,s,aa.stays,rC _ d]
  .rw [zm m k v J e.val u g];apply oG;intro i;have p:=aH (λl=>l[i]?) hm;simp only [gN,pY,rL,List.getElem?_set] at p⊢;by_cases o:J=i
   .subst o;have t:J<m.length:=(eY.1 g).1;simp [a,t]
   .simp [o,p]
theorem cc.erase [aa:Keys P cY key]{es:Array MapEntry}{clock:Nat}{m:List (cv×Value)}(h:cc key (.map es clock) m)(k:cv)(w:World){b:Nat}{mt eG:TypeId}{uq:Array TypeId}{ty:TypeId}(i:uq[0]? =some mt)(hu:P.underlying mt=some (.map cY eG))(a:w.heap[b]? =some (.map es clock)):
 ∃fZ,(Builtin.delete_ uq ty #[.map (some b),key k]).run P w= .ok (.tuple #[]) {w with heap:=w.heap.setIfInBounds b fZ}/\cc key fZ (fK m k):=by
 rcases h.find (P:=P) (cY:=cY) k w with⟨c,_,d,g⟩|⟨J,e,c,_,d,g,q⟩
 .obtain⟨o,n,he,aL,hm⟩:=h;cases he;refine⟨_,?_,es,clock,j,aL,by rw [vr m k g];exact hm⟩;simp [Builtin.delete_,i,d7 hu,mW a,aa.check,c,rC _ a,Result.andThen]
 .have t:=cc.nodup (P:=P) (cY:=cY) h;obtain⟨o,n,he,aL,hm⟩:=h;cases he;refine⟨_,?_,es.eraseIdxIfInBounds J,clock,j,MapKept.stamped_erase aL J,?_⟩
  .simp [Builtin.delete_,i,d7 hu,mW a,aa.check,c,rC _ a,Result.andThen]
  .have s:J<es.size:=(gv.1 d).1;rw [zb m k J e.val t q,Array.eraseIdxIfInBounds,nb s,Array.toList_eraseIdx,List.v hm]
where
 List.v {es:List MapEntry} {m:List (cv×Value)} {J:Nat} (hm:es.map (λe=>(e.key,e.val))=m.map λp=>(key p.1,p.2)):(es.eraseIdx J).map (λe=>(e.key,e.val))=(m.eraseIdx J).map λp=>(key p.1,p.2):=by
  have e:∀{α β:Type}(f:α->β)(l:List α)(J:Nat),(l.eraseIdx J).map f=(l.map f).eraseIdx J:=by
   intro α β f l;induction l with
   |nil=>intro J;rfl
   |cons x r u=>intro J;cases J with|zero=>rfl|succ J=>simp [List.eraseIdx,u]
  rw [e,hm,e]
end
theorem C.map{o w:World}{F:List Nat}{ae:List (List Chunk)}{b:Nat}{I fZ:Obj}(h:C o F ([(b,I)]::ae) w)(a:fZ≠Obj.deferred (some [])):C o F ([(b,fZ)]::ae) {w with heap:=w.heap.setIfInBounds b fZ}:=
 h.lm j j j (by simp) (pZ h.first).1 (pZ h.first).2 a
section
variable {P:Program} {n:Fr} {Z:Env} {w:World} {Q:d6} {ops:Array Oper} {rest:List Oper}
 {dst:Option Nat} {ty:TypeId} {pos:String} {after:Array Edge} {g:Option (Nat×Bool)}
variable {cv:Type} [DecidableEq cv] {key:cv->Value} {o:World} {F:List Nat} {ae:List (List Chunk)} {b:Nat} {I:Obj} {m:List (cv×Value)}
theorem jx{t:TypeId}{c:Option Operand}(i:c=none)(d:C o F ae w)(f:cW ops Z g=some true)(e:da n dst=true)
 (h:∀b aK,C o F ([(b,.map #[] 0)]::ae) aK->O P n ops rest (cE Z dst (.map (some b))) aK Q):O P n ops (⟨dst,.makeMap t c,ty,pos,after,g⟩::rest) Z w Q:=by
 subst i;refine dL f e (λa j=>?_) (h w.heap.size _ (d.alloc _)) (aa:=cT.alloc _ _);simp [execOp,Instr.makeMap,Result.andThen]
theorem HA{P:Program}{t cY eG:TypeId}{z:Value}{size bytes:Nat}[hu:bB P t (.map cY eG)][aa:Keys P cY key][g:cn P eG z size bytes](hm:cc key I m)(f:w.heap[b]? =some I)(k:cv)(c:Bool):
 (Instr.lookup t (.map (some b)) (key k) c).run P w= .ok (if c then .tuple #[(aZ m k).getD z,.bool (aZ m k).isSome] else(aZ m k).getD z) w:=by
 obtain⟨es,clock,rfl,aL,o⟩:=hm;obtain⟨i,l,n,_⟩:=g.parts;rcases(show cc key (.map es clock) m from⟨es,clock,j,aL,o⟩).find (P:=P) (cY:=cY) k w with⟨a,d,_,_⟩|⟨J,e,a,d,_⟩
 .simp only [Instr.lookup,dQ,d7 hu.h,dU,mW f,ei,aa.check,a,d,zeroValue,typeInfo,me,l,n,rD,rE]
 .simp only [Instr.lookup,dQ,d7 hu.h,dU,mW f,ei,aa.check,a,d,l8,oI]
theorem ww{t cY eG:TypeId}{x y:Operand}{z:Value}{size bytes:Nat}[hu:bB P t (.map cY eG)][aa:Keys P cY key][i:cn P eG z size bytes](hm:cc key I m)(e:w.heap[b]? =some I){k:cv}{c:Bool}(f:bs Z x=some (.map (some b)))(h:bs Z y=some (key k)):
 ∀a,cF Z n.n a->(execOp a.eval ⟨dst,.lookup t x y c,ty,pos,after,g⟩).run P w= .ok (.value (if c then .tuple #[(aZ m k).getD z,.bool (aZ m k).isSome] else(aZ m k).getD z)) w:=λa d=>by
 simp only [execOp,d.eval f,d.eval h,dQ,HA hm e k c,dU,ei]
theorem jy{t cY eG:TypeId}{x y u:Operand}{v:Value}[hu:bB P t (.map cY eG)][aa:Keys P cY key](hm:cc key I m)(c:C o F ([(b,I)]::ae) w){k:cv}
 (l:cW ops Z g=some true) (q:bs Z x=some (.map (some b))) (r:bs Z y=some (key k)) (p:bs Z u=some v)
 (h:∀fZ aK,cc key fZ (b9 m k v)->C o F ([(b,fZ)]::ae) aK->O P n ops rest Z aK Q):O P n ops (⟨none,.mapUpdate t x y u,ty,pos,after,g⟩::rest) Z w Q:=by
 obtain⟨es,clock,rfl,aL⟩:=hm;obtain⟨fZ,f,e⟩:=(show cc key (.map es clock) m from⟨es,clock,j,aL⟩).update k v w hu.h c.first;have i:=c.map e.vJ;refine tM (aK:=_) l j (λa d=>?_) (h fZ _ e i) (cT.lm c.first (by simp) (pZ c.first).2);simp only [execOp,d.eval q,d.eval r,d.eval p,dQ,f,dU,ei]
theorem wI{cY eG t:TypeId}{d:Array TypeId}{args:Array Operand}[hu:bB P t (.map cY eG)][aa:Keys P cY key](hm:cc key I m)(c:C o F ([(b,I)]::ae) w){k:cv}(r:d[0]? =some t)
 (q:cW ops Z g=some true) (p:da n dst=true) (s:fr Z args.toList=some [.map (some b),key k])
 (h:∀fZ aK,cc key fZ (fK m k)->C o F ([(b,fZ)]::ae) aK->O P n ops rest (cE Z dst (.tuple #[])) aK Q):O P n ops (⟨dst,.call ⟨.builtin .delete,args,d⟩,ty,pos,after,g⟩::rest) Z w Q:=by
 obtain⟨es,clock,rfl,aL⟩:=hm;obtain⟨fZ,f,e⟩:=(show cc key (.map es clock) m from⟨es,clock,j,aL⟩).erase (uq:=d) (ty:=ty) k w r hu.h c.first;have i:=c.map e.vJ;refine dL q p (λa l=>?_) (h fZ _ e i) (aa:=cT.lm c.first (by simp) (pZ c.first).2);have:args.map a.eval= #[.map (some b),key k]:=by apply fC;rw [hn,l.hr s]
 simp only [execOp,resolve,invoke,builtin,dQ,ei,dU,this,f]
theorem Bv{cY eG t:TypeId}{c:Array TypeId}{args:Array Operand}[hu:bB P t (.map cY eG)](hm:cc key I m)(f:w.heap[b]? =some I)(j:c= #[t])
 (k:fr Z args.toList=some [.map (some b)]):∀a,cF Z n.n a->(execOp a.eval ⟨dst,.call ⟨.builtin .len,args,c⟩,ty,pos,after,g⟩).run P w= .ok (.value (.int .i64 m.length)) w:=λa d=>by
 subst j;obtain⟨es,clock,rfl,aL,i⟩:=hm;have e:es.size=m.length:=by have:=aH List.length i;simpa using this
 have:args.map a.eval= #[.map (some b)]:=by apply fC;rw [hn,d.hr k]
 simp only [execOp,resolve,invoke,builtin,dQ,ei,dU,this];simp [Builtin.len_,d7 hu.h,mW f,Result.andThen,e,goInt]
theorem tK{cY eG t:TypeId}{a:Array TypeId}{args:Array Operand}[hu:bB P t (.map cY eG)](hm:cc key I m)(c:w.heap[b]? =some I)(f:a= #[t])(e:cW ops Z g=some true)(d:da n dst=true)
 (i:fr Z args.toList=some [.map (some b)]) (h:O P n ops rest (cE Z dst (.int .i64 m.length)) w Q):O P n ops (⟨dst,.call ⟨.builtin .len,args,a⟩,ty,pos,after,g⟩::rest) Z w Q:=
 dL e d (Bv hm c f i) h
theorem gV{f:FuncId}{aD cs:Array Operand}{xs c0:List Value}(i:cW ops Z g=some true)(e:da n dst=true)(j:fr Z aD.toList=some xs)(k:fr Z cs.toList=some c0)
 (h:O P n ops rest (cE Z dst (.func (.func f) xs.toArray c0.toArray)) w Q):O P n ops (⟨dst,.makeFunc (.func f) aD cs,ty,pos,after,g⟩::rest) Z w Q:=
 dL i e (λa b=>by
  have c:aD.map a.eval=xs.toArray:=by apply fC;rw [hn,b.hr j]
  have d:cs.map a.eval=c0.toArray:=by apply fC;rw [hn,b.hr k]
  simp [execOp,c,d,Instr.makeFunc,Act.eval,Result.andThen]) h
end
def l2{cv:Type}(key:cv->Value)(b:Nat)(I:Obj)(m:List (cv×Value))(pre:List cv)(it:Obj):Prop:=
 ∃es clock since seen,I= .map es clock/\it= .mapIter (some b) since seen clock/\(∀x∈es.toList,x.born<since)/\since<=clock/\(es.toList.map (·.born)).Nodup/\
  es.toList.map (λe=>(e.key,e.val))=(m.map λp=>(key p.1,p.2))/\(m.map (·.1)).Nodup/\
  ∃L:List MapEntry,seen.toList=L.map (·.born)/\(∀e∈L,e∈es.toList)/\L.map (·.key)=pre.map key
section
variable {cv:Type} [DecidableEq cv] {key:cv->Value} {P:Program} {cY:TypeId}
theorem qO:∀{l pre:List cv},l.Nodup->pre.Nodup->(∀k∈pre,k∈l)->(∀k∈l,k∈pre)->pre.Perm l:=λb c d e=>
 (List.perm_ext_iff_of_nodup c b).2 λa=>⟨d a,e a⟩
end
section
variable {P:Program} {n:Fr} {Z:Env} {w:World} {Q:d6} {ops:Array Oper} {rest:List Oper}
 {dst:Option Nat} {ty:TypeId} {pos:String} {after:Array Edge} {g:Option (Nat×Bool)}
variable {cv:Type} [DecidableEq cv] {key:cv->Value} {o:World} {F:List Nat} {ae:List (List Chunk)} {b r:Nat} {I it:Obj} {m:List (cv×Value)} {pre:List cv}
theorem pV{t cY eG:TypeId}{x:Operand}[hu:bB P t (.map cY eG)][aa:Keys P cY key](hm:cc key I m)(e:w.heap[b]? =some I)(c:C o F ae w)(i:cW ops Z g=some true)(f:da n dst=true)(p:bs Z x=some (.map (some b)))
 (h:∀r it aK,l2 key b I m [] it->C o F ([(r,it)]::ae) aK->O P n ops rest (cE Z dst (.pointer (some ⟨r,0,none⟩))) aK Q):O P n ops (⟨dst,.range t x,ty,pos,after,g⟩::rest) Z w Q:=by
 have l:=hm.nodup (P:=P) (cY:=cY);obtain⟨es,clock,rfl,aL,k⟩:=hm;refine dL i f (λa d=>?_) (h w.heap.size (.mapIter (some b) clock #[] clock) _ ⟨es,clock,clock,#[],j,j,aL.1,cD _,aL.2.1,k,l,[],j,by simp,j⟩ (c.alloc _)) (aa:=cT.alloc _ _);simp only [execOp,d.eval p,dQ,run_range_map w t cY eG b es clock hu.h e,dU,ei]
theorem pU{x:Operand}(az:l2 key b I m pre it)(ak:∀a c:cv,key a=key c->a=c)(av:w.heap[b]? =some I)(H:C o F ([(r,it)]::ae) w)(ai:cW ops Z g=some true)(ah:da n dst=true)(d:bs Z x=some (.pointer (some ⟨r,0,none⟩)))
 (ax:(∀p∈m,p.1∈pre)->O P n ops rest (cE Z dst (.tuple #[.bool false])) w Q)
 (aF:∀k v ap aK,(k,v)∈m->k∉pre->l2 key b I m (pre++[k]) ap->C o F ([(r,ap)]::ae) aK->O P n ops rest (cE Z dst (.tuple #[.bool true,key k,v])) aK Q):
 O P n ops (⟨dst,.next x false,ty,pos,after,g⟩::rest) Z w Q:=by
 obtain⟨es,clock,since,seen,rfl,rfl,ab,ac,B,y,ad,L,D,E,G⟩:=az;have aL:Obj.mapIter (some b) since seen clock≠Obj.deferred (some []):=by simp
 rcases run_next_at (P:=P) w ty r b since clock seen es clock H.first av ab ac with⟨aD,Y⟩|⟨e,he,A,ao,Y⟩
 .refine dL ai ah (λa M=>?_) (ax λp W=>?_)
  .simp only [execOp,M.eval d,dQ,Y,dU,ei]
  .have T:(key p.1,p.2)∈es.toList.map (λe=>(e.key,e.val)):=by rw [y];exact dO.2 ⟨p,W,j⟩
   obtain⟨e,he,ay⟩:=dO.1 T
   have aJ:seen.contains e.born=true:=by
    rcases aw:seen.contains e.born with _|_
    .have:e∈(leftOf es seen).toList:=by
      unfold leftOf;simp only [Array.toList_filter,jd];exact⟨he,by simp only [aw];rfl⟩
     have aE:(leftOf es seen).toList=[]:=mc (by simpa using aD);rw [aE] at this;simp at this
    .rfl
   have af:e.born∈seen.toList:=by simpa using aJ
   rw [D] at af;obtain⟨hq,q,ag⟩:=dO.1 af
   have N:hq=e:=by
    have:=(tR.1 B);rcases l7 (E hq q) with⟨i,s⟩;rcases l7 he with⟨J,h⟩;have am:=B;have f:(es.toList.map (·.born))[i]? =some hq.born:=by rw [gN,s];rfl
    have l:(es.toList.map (·.born))[J]? =some e.born:=by rw [gN,h];rfl
    have S:i=J:=by
     have t:=(eY.1 f).1;have u:=(eY.1 l).1;rcases rQ i J with V|heq|R
     .have:=(oF.1 am) i J t u V;rw [(eY.1 f).2,(eY.1 l).2] at this;exact absurd ag this
     .exact heq
     .have:=(oF.1 am) J i u t R;rw [(eY.1 f).2,(eY.1 l).2] at this;exact absurd ag.symm this
    subst S;rw [s] at h;exact hz h
   subst N;have aa:hq.key∈pre.map key:=by rw [<-G];exact dO.2 ⟨hq,q,j⟩
   obtain⟨k,U,aA⟩:=dO.1 aa;have:key k=key p.1:=aA.trans (aH Prod.fst ay);rw [<-ak _ _ this];exact U
 .have z:e∈es.toList/\e.born∉seen.toList:=by
   unfold leftOf at he;simp only [Array.toList_filter,jd] at he;refine⟨he.1,?_⟩;have:=he.2;simpa using this
  have T:(e.key,e.val)∈m.map λp=>(key p.1,p.2):=by rw [<-y];exact dO.2 ⟨e,z.1,j⟩
  obtain⟨p,W,an⟩:=dO.1 T;have X:key p.1=e.key:=aH Prod.fst an;have aI:p.2=e.val:=aH Prod.snd an;have K:C o F ([(r,Obj.mapIter (some b) since seen clock)]::ae) A:=by rcases ao with rfl|rfl<;>first|exact H|exact H.drew
  have ar:C o F ([(r,Obj.mapIter (some b) since (seen.push e.born) clock)]::ae) (ChangeMaps.setBlock A r (.mapIter (some b) since (seen.push e.born) clock)):=K.map (by simp)
  have aB:cT w (ChangeMaps.setBlock A r (.mapIter (some b) since (seen.push e.born) clock)):=by
   have U:cT w A:=by rcases ao with rfl|rfl<;>first|exact cT.refl _|exact cT.drew _
   exact U.trans (cT.lm K.first (by simp) (pZ K.first).2)
  refine dL ai ah (λa M=>?_) (aF p.1 p.2 _ _ W ?_ ⟨es,clock,since,seen.push e.born,j,j,ab,ac,B,y,ad,L++[e],?_,?_,?_⟩ ar) (aa:=aB)
  .simp only [execOp,M.eval d,dQ,Y,dU,ei,X,aI]
  .intro aG;have:key p.1∈L.map (·.key):=by rw [G];exact dO.2 ⟨p.1,aG,j⟩
   obtain⟨hq,q,aC⟩:=dO.1 this;have aj:hq.key=e.key:=aC.trans X
   have al:(es.toList.map (·.key)).Nodup:=by
    have aq:es.toList.map (·.key)=(m.map (·.1)).map key:=by
     have:=aH (List.map Prod.fst) y;simpa [oU,Function.comp_def] using this
    rw [aq];exact List.Pairwise.map key (λa c au heq=>au (ak _ _ heq)) ad
   rcases l7 (E hq q) with⟨i,s⟩;rcases l7 z.1 with⟨J,h⟩;have f:(es.toList.map (·.key))[i]? =some hq.key:=by rw [gN,s];rfl
   have l:(es.toList.map (·.key))[J]? =some e.key:=by rw [gN,h];rfl
   have t:=(eY.1 f).1;have u:=(eY.1 l).1
   have S:i=J:=by
    rcases rQ i J with V|heq|R
    .have:=(oF.1 al) i J t u V;rw [(eY.1 f).2,(eY.1 l).2] at this;exact absurd aj this
    .exact heq
    .have:=(oF.1 al) J i u t R;rw [(eY.1 f).2,(eY.1 l).2] at this;exact absurd aj.symm this
   subst S;rw [s] at h;have N:=hz h;subst N;exact z.2 (by rw [D];exact dO.2 ⟨hq,q,j⟩)
  .simp [D]
  .intro x d;rcases dw.1 d with d|d
   .exact E x d
   .simp at d;subst d;exact z.1
  .simp [G,X]
theorem pO{x:Operand}{k:cv}(E:l2 key b I m (pre++[k]) it)(G:∀a c:cv,key a=key c->a=c)(A:w.heap[b]? =some I)(y:C o F ([(r,it)]::ae) w)(D:cW ops Z g=some true)(B:da n dst=true)(S:bs Z x=some (.pointer (some ⟨r,0,none⟩)))
 (h:∀v,(k,v)∈m->O P n ops rest (cE Z dst (.tuple #[key k,v])) w Q):
 O P n ops (⟨dst,.entry x,ty,pos,after,g⟩::rest) Z w Q:=by
 obtain⟨es,clock,since,seen,rfl,rfl,T,U,q,s,V,L,t,u,d⟩:=E;have hlen:L.length=pre.length+1:=by have:=aH List.length d;simpa using this
 obtain⟨kE,e,rfl⟩:∃kE e,L=kE++[e]:=by
  rcases List.eq_nil_or_concat L with h|⟨kE,e,h⟩
  .subst h;simp at hlen
  .exact⟨kE,e,by simpa using h⟩
 have i:e.key=key k:=by
  simp only [jU,List.map_cons,List.map_nil] at d;exact(List.append_inj' d j).2|>λh=>by simpa using h
 have R:seen=(kE.map (·.born)).toArray.push e.born:=by
  apply fC;simp [t]
 subst R;have f:e∈es.toList:=u e (by simp);have N:=run_entry_at (P:=P) w r b since _ es clock e y.first A f q;have H:(e.key,e.val)∈m.map λp=>(key p.1,p.2):=by rw [<-s];exact dO.2 ⟨e,f,j⟩
 obtain⟨p,J,l⟩:=dO.1 H;have K:p.1=k:=G _ _ ((aH Prod.fst l).trans i);have M:p.2=e.val:=aH Prod.snd l;have:=h e.val (by rw [<-K,<-M];exact J);refine dL D B (λa z=>?_) this;simp only [execOp,z.eval S,dQ,N,dU,ei,i]
theorem pS{t:TypeId}{x:Operand}{v:Value}{d:TypeDesc}[hu:bB P t d](j:∀ms,d≠.interface ms)(e:cW ops Z g=some true)(c:da n dst=true)(i:bs Z x=some v)
 (h:O P n ops rest (cE Z dst (.iface t v)) w Q):O P n ops (⟨dst,.makeInterface t x,ty,pos,after,g⟩::rest) Z w Q:=
 dL e c (λa b=>by
  have f:=hu.h;simp only [execOp,b.eval i,Instr.makeInterface,dQ,d7 f,dU,ei]) h
theorem pN{t l:TypeId}{x:Operand}{v:Value}{d:TypeDesc}[hu:bB P t d](e:∀ms,d≠.interface ms)(f:cW ops Z g=some true)(c:da n dst=true)(k:bs Z x=some (.iface t v))
 (h:O P n ops rest (cE Z dst v) w Q):O P n ops (⟨dst,.typeAssert x l t false,ty,pos,after,g⟩::rest) Z w Q:=
 dL f c (λa b=>by
  have i:=hu.h;simp only [execOp,b.eval k,Instr.typeAssert,dQ,d7 i,dU,ei];cases d<;>first|exact absurd j (e _)|simp [Result.andThen]) h
theorem Ht{P:Program}{t cY eG:TypeId}(hu:P.underlying t=some (.map cY eG))(b:Nat)(w:World)(d:Nat):(Op.equalIn (d+1) t (.map (some b)) (.map none)).run P w= .ok false w:=by
 simp only [Op.equalIn,dQ,d7 hu,dU];rfl
theorem C8(t:TypeId)(x y:Operand)(p q:Option Nat):(do eqGuard .eql t x y (.map p) (.map q);binOp .eql t (.map p) (.map q))=(do pure (.bool (<-Op.equal t (.map p) (.map q))):Sem Value):=rfl
theorem Bn{t i cY eG:TypeId}{x y:Operand}{b:Nat}[hu:bB P t (.map cY eG)](e:bs Z x=some (.map (some b)))(f:bs Z y=some (.map none)):
 ∀a,cF Z n.n a->(execOp a.eval ⟨dst,.binOp .eql t x y i,ty,pos,after,g⟩).run P w= .ok (.value (.bool false)) w:=λa c=>by
 have d:(Op.equal t (.map (some b)) (.map none)).run P w= .ok false w:=by
  exact Ht hu.h b w 9999
 simp only [execOp,c.eval e,c.eval f,C8,dQ,d,dU,ei]
theorem pP{t f cY eG:TypeId}{x y:Operand}{b:Nat}[hu:bB P t (.map cY eG)](c:cW ops Z g=some true)(a:da n dst=true)(d:bs Z x=some (.map (some b)))(e:bs Z y=some (.map none))
 (h:O P n ops rest (cE Z dst (.bool false)) w Q):O P n ops (⟨dst,.binOp .eql t x y f,ty,pos,after,g⟩::rest) Z w Q:=
 dL c a (Bn d e) h
theorem tC{t cY eG:TypeId}{x y:Operand}{z:Value}{size bytes:Nat}[hu:bB P t (.map cY eG)][aa:Keys P cY key][f:cn P eG z size bytes](hm:cc key I m)(c:w.heap[b]? =some I){k:cv}(d:bs Z x=some (.map (some b)))(e:bs Z y=some (key k)):
 ∀a,cF Z n.n a->(execOp a.eval ⟨dst,.lookup t x y true,ty,pos,after,g⟩).run P w= .ok (.value (.tuple #[(aZ m k).getD z,.bool (aZ m k).isSome])) w:=ww hm c d e
theorem tB{t cY eG:TypeId}{x y:Operand}{z:Value}{size bytes:Nat}[hu:bB P t (.map cY eG)][aa:Keys P cY key][f:cn P eG z size bytes](hm:cc key I m)(c:w.heap[b]? =some I){k:cv}(d:bs Z x=some (.map (some b)))(e:bs Z y=some (key k)):
 ∀a,cF Z n.n a->(execOp a.eval ⟨dst,.lookup t x y false,ty,pos,after,g⟩).run P w= .ok (.value ((aZ m k).getD z)) w:=ww hm c d e
theorem mR{t cY eG:TypeId}{x y:Operand}{z:Value}{size bytes:Nat}[hu:bB P t (.map cY eG)][aa:Keys P cY key][i:cn P eG z size bytes](hm:cc key I m)(a:w.heap[b]? =some I){k:cv}
 (d:cW ops Z g=some true) (c:da n dst=true) (e:bs Z x=some (.map (some b))) (f:bs Z y=some (key k))
 (h:O P n ops rest (cE Z dst (.tuple #[(aZ m k).getD z,.bool (aZ m k).isSome])) w Q):O P n ops (⟨dst,.lookup t x y true,ty,pos,after,g⟩::rest) Z w Q:=dL d c (tC hm a e f) h
theorem pR{t cY eG:TypeId}{x y:Operand}{z:Value}{size bytes:Nat}[hu:bB P t (.map cY eG)][aa:Keys P cY key][i:cn P eG z size bytes](hm:cc key I m)(a:w.heap[b]? =some I){k:cv}
 (d:cW ops Z g=some true) (c:da n dst=true) (e:bs Z x=some (.map (some b))) (f:bs Z y=some (key k))
 (h:O P n ops rest (cE Z dst ((aZ m k).getD z)) w Q):O P n ops (⟨dst,.lookup t x y false,ty,pos,after,g⟩::rest) Z w Q:=dL d c (tB hm a e f) h
class MapsClone(P:Program)(f:FuncId):Prop where
 h:∃fn,P.funcs[f]? =some fn/\(fn.name== "runtime.NumGoroutine")=false/\fn.body.isNone=true/\Extern.findNext fn=none/\Extern.find fn=some Extern.MapsClone.clone
theorem pT{f:FuncId}{z:Array TypeId}{args:Array Operand}{t:TypeId}[br:MapsClone P f](hm:cc key I m)(r:w.heap[b]? =some I)(p:C o F ae w)
 (u:cW ops Z g=some true) (s:da n dst=true) (y:fr Z args.toList=some [.iface t (.map (some b))])
 (h:∀c aK,C o F ([(c,I)]::ae) aK->O P n ops rest (cE Z dst (.iface t (.map (some c)))) aK Q):O P n ops (⟨dst,.call ⟨.value (.func f),args,z⟩,ty,pos,after,g⟩::rest) Z w Q:=by
 have v:=hm.vJ;obtain⟨es,clock,rfl,_⟩:=hm;obtain⟨fn,d,i,j,k,l⟩:=br.h;refine dL u s (λa q=>?_) (h w.heap.size _ (p.alloc _ v)) (aa:=cT.alloc _ _);have:args.map a.eval= #[.iface t (.map (some b))]:=by apply fC;rw [hn,q.hr y]
 have x:(Extern.MapsClone.clone #[.iface t (.map (some b))]).run P w= .ok (.iface t (.map (some w.heap.size))) (w.alloc (.map es clock)):=by
  have e:Extern.MapsClone.clone #[.iface t (.map (some b))]=(getObj b>>=λI=>match I with
   | .map entries clock=>(newObj (.map entries clock)>>=λn=>pure (.iface t (.map (some n))))
   |_=>stuck "maps.clone: a map expected"):=rfl
  rw [e];simp [mW r,Result.andThen]
 simp only [execOp,resolve,this,Act.eval,Deferred.ofValue,invoke,callFunc,d,i,j,k,l,dQ,ei,dU,me,run_mark,p9,Array.append_empty,if_false,if_true,Bool.false_eq_true,x]
end
end Go.Proofs.YtdomoelfhjdioaaGreatDoor.R
namespace Go.Proofs.YtdomoelfhjdioaaGreatDoor.R
open Go.Proofs.Tryz Go Go.RowKit
section
variable {P:Program} {n:Nat} {Z:Env} {w:World} {dst:Option Nat} {ty:TypeId} {pos:String} {after:Array Edge} {g:Option (Nat×Bool)}
theorem wv{t e:TypeId}{x y:Operand}{m:Nat}{b off J:Nat}{k:IntKind}{z:Value}{size bytes:Nat}[hu:bB P t (.array m e)][f:cn P e z size bytes]
 (o:bs Z x=some (.pointer (some ⟨b,off,none⟩))) (p:bs Z y=some (.int k J)) (d:J<m):
 ∀a,cF Z n a->(execOp a.eval ⟨dst,.indexAddr t x y,ty,pos,after,g⟩).run P w= .ok (.value (.pointer (some ⟨b,off+J*size,none⟩))) w:=λa c=>by
 obtain⟨i,j,_,l,_⟩:=f.parts;simp [execOp,c.eval o,c.eval p,Instr.indexAt,Instr.sureAddr,asIntOf,d7 hu.h,sizeOf,typeInfo,j,l,d,add_lit]
theorem mM{op:BinOp}{t h:TypeId}{x y:Operand}{k db:IntKind}{i J:Int}{v:Value}
 (e:bs Z x=some (.int k i)) (f:bs Z y=some (.int db J)) (j:0<=J) (c:evalShift op k i J=some v):
 ∀a,cF Z n a->(execOp a.eval ⟨dst,.binOp op t x y h,ty,pos,after,g⟩).run P w= .ok (.value v) w:=λa b=>by
 have d:¬J<0:=by omega
 cases op<;>simp [evalShift] at c<;>subst c<;>simp [execOp,b.eval e,b.eval f,eqGuard,binOp,Op.shift,d]
theorem BJ{op:UnOp}{t:TypeId}{x:Operand}{k:IntKind}{i:Int}{v:Value}(d:bs Z x=some (.int k i))(b:qt op k i=some v):
 ∀a,cF Z n a->(execOp a.eval ⟨dst,.unOp op t x,ty,pos,after,g⟩).run P w= .ok (.value v) w:=λa c=>by
 cases op<;>simp [qt] at b<;>subst b<;>simp [execOp,c.eval d,Op.unary,Op.intArith,Op.intBits]
theorem fb{t e:TypeId}{x y:Operand}{m:Nat}{b J:Nat}{k:IntKind}{z:Value}{bytes:Nat}[hu:bB P t (.array m e)][h:cn P e z 1 bytes]
 (d:bs Z x=some (.pointer (some ⟨b,0,none⟩))) (f:bs Z y=some (.int k J)) (c:J<m):
 ∀a,cF Z n a->(execOp a.eval ⟨dst,.indexAddr t x y,ty,pos,after,g⟩).run P w= .ok (.value (.pointer (some ⟨b,J,none⟩))) w:=by
 have:=wv (P:=P) (n:=n) (w:=w) (dst:=dst) (ty:=ty) (pos:=pos) (after:=after) (g:=g) (Z:=Z) (t:=t) (e:=e) (z:=z) (size:=1) (bytes:=bytes) d f c;simpa using this
theorem mL{t e:TypeId}{x y:Operand}{b:Addr}{l c J:Nat}{k:IntKind}{z:Value}{bytes:Nat}[hu:bB P t (.slice e)][i:cn P e z 1 bytes]
 (f:bs Z x=some (.slice (some b) l c)) (h:bs Z y=some (.int k J)) (d:J<l):
 ∀a,cF Z n a->(execOp a.eval ⟨dst,.indexAddr t x y,ty,pos,after,g⟩).run P w= .ok (.value (.pointer (some (b.add J)))) w:=by
 have:=rl (P:=P) (n:=n) (w:=w) (dst:=dst) (ty:=ty) (pos:=pos) (after:=after) (g:=g) (Z:=Z) (t:=t) (e:=e) (z:=z) (size:=1) (bytes:=bytes) f h d;simpa using this
end
section
variable {P:Program} {n:Fr} {Z:Env} {w:World} {Q:d6} {ops:Array Oper} {rest:List Oper} {dst:Option Nat} {ty:TypeId} {pos:String} {after:Array Edge} {g:Option (Nat×Bool)}
theorem hv{t e:TypeId}{x y:Operand}{m:Nat}{b J:Nat}{k:IntKind}{z:Value}{bytes:Nat}[hu:bB P t (.array m e)][j:cn P e z 1 bytes](d:cW ops Z g=some true)(c:da n dst=true)
 (f:bs Z x=some (.pointer (some ⟨b,0,none⟩))) (i:bs Z y=some (.int k J)) (a:J<m)
 (h:O P n ops rest (cE Z dst (.pointer (some ⟨b,J,none⟩))) w Q):O P n ops (⟨dst,.indexAddr t x y,ty,pos,after,g⟩::rest) Z w Q:=dL d c (fb f i a) h
theorem BU{t e:TypeId}{x y:Operand}{b m i:Nat}{k:IntKind}{z:Value}{bytes:Nat}[hu:bB P t (.array m e)][o:cn P e z 1 bytes]
 (l:cW ops Z g=some true) (j:da n dst=true) (r:bs Z x=some (.pointer (some ⟨b,0,none⟩))) (s:bs Z y=some (.int k i)) (u:i<m)
 (h:O P n ops rest (cE Z dst (.slice (some ⟨b,i,none⟩) (m-i) (m-i))) w Q):O P n ops (⟨dst,.slice t x (some y) none none,ty,pos,after,g⟩::rest) Z w Q:=
 dL l j (λa c=>by
  obtain⟨J,p,_,q,_⟩:=o.parts;have d:i<=m:=by omega
  have f:m≠i:=by omega
  simp [execOp,c.eval r,c.eval s,Instr.sliceAt,Instr.sureAddr,Instr.sliceBounds,Instr.sliceBound,asIntOf,d7 hu.h,sizeOf,typeInfo,p,q,add_lit,d,f]) h
theorem Bs{P:Program}{n:Nat}{Z:Env}{w:World}{dst:Option Nat}{ty:TypeId}{pos:String}{after:Array Edge}{g:Option (Nat×Bool)}{t e:TypeId}{x y:Operand}{m J:Nat}{k:IntKind}{cs:Array Value}{v z:Value}{bytes:Nat}{d:TypeDesc}[hu:bB P t (.array m e)][he:bB P e d][j:cn P e z 1 bytes]
 (r:bs Z x=some (.agg cs)) (s:bs Z y=some (.int k J)) (c:J<m) (i:ia d=false) (f:cs[J]? =some v):
 ∀a,cF Z n a->(execOp a.eval ⟨dst,.index t x y,ty,pos,after,g⟩).run P w= .ok (.value v) w:=λa b=>by
 obtain⟨q,l,_,o,_⟩:=j.parts;have p:=nB (P:=P) (w:=w) (t:=e) (d:=d) (cs:=cs) (off:=J) (v:=v) he.h i f;simp [execOp,b.eval r,b.eval s,Instr.index,asIntOf,d7 hu.h,sizeOf,typeInfo,l,o,c,p]
theorem wL{t e:TypeId}{x y:Operand}{m J:Nat}{k:IntKind}{cs:Array Value}{v z:Value}{bytes:Nat}{d:TypeDesc}[hu:bB P t (.array m e)][he:bB P e d][o:cn P e z 1 bytes]
 (i:cW ops Z g=some true) (c:da n dst=true) (j:bs Z x=some (.agg cs)) (l:bs Z y=some (.int k J)) (a:J<m) (f:ia d=false) (b:cs[J]? =some v)
 (h:O P n ops rest (cE Z dst v) w Q):O P n ops (⟨dst,.index t x y,ty,pos,after,g⟩::rest) Z w Q:=dL i c (Bs j l a f b) h
end
section
variable {P:Program} {n:Fr} {Z:Env} {w:World} {Q:d6} {ops:Array Oper} {rest:List Oper} {dst:Option Nat} {ty:TypeId} {pos:String} {after:Array Edge} {g:Option (Nat×Bool)}
theorem oC{t e:TypeId}{x y:Operand}{z:Value}{size bytes:Nat}{m k:IntKind}{l c:Nat}{o:World}{F:List Nat}{ae:List (List Chunk)}[hu:bB P t (.slice e)][s:cn P e z size bytes](p:C o F ae w)
 (r:cW ops Z g=some true) (q:da n dst=true) (D:bs Z x=some (.int m l)) (E:bs Z y=some (.int k c)) (H:l<=c) (G:bytes*c<=281474976710656) (hm:c<=maxLen)
 (h:∀b cs aK,cs.size=c*size->cs=madeCells z.cells (c*size)->C o F ([(b,.cells cs e (0,0))]::ae) aK->O P n ops rest (cE Z dst (.slice (some ⟨b,0,none⟩) l c)) aK Q):O P n ops (⟨dst,.makeSlice t x y,ty,pos,after,g⟩::rest) Z w Q:=by
 obtain⟨i,u,v,A,B⟩:=s.parts;have f:=run_make (P:=P) w t e i z hu.h u v m k (l:Int) (c:Int) (by omega) (by omega) (by rw [B,<-Int.natCast_mul];omega) (by simp only [maxLen] at hm;omega);simp only [lB,A] at f;refine dL r q (λa d=>?_) (h w.heap.size _ _ (size_madeCells _ _) j (p.alloc _)) (aa:=cT.alloc _ _);simp only [execOp,d.eval D,d.eval E,dQ,f,dU,ei]
theorem tN{t p:TypeId}{x y:Operand}{i J:Nat}(l:cW ops Z g=some true)(k:da n dst=true)
 (m:bs Z x=some (.int .i64 i)) (o:bs Z y=some (.int .i64 J)) (r:0<J) (s:i<9223372036854775808)
 (h:O P n ops rest (cE Z dst (.int .i64 ((i/J:Nat):Int))) w Q):O P n ops (⟨dst,.binOp .quo t x y p,ty,pos,after,g⟩::rest) Z w Q:=
 dL l k (λa b=>by
  have c:¬(J:Int)=0:=by omega
  have d:(i:Int).tdiv (J:Int)=((i/J:Nat):Int):=rfl
  have e:IntKind.i64.wrap ((i/J:Nat):Int)=((i/J:Nat):Int):=by
   have:i/J<=i:=Nat.div_le_self i J;rw [jX];generalize i/J=q at*;omega
  simp only [execOp,b.eval m,b.eval o];have f:eqGuard .quo t x y (.int .i64 (i:Int)) (.int .i64 (J:Int))=pure ():=rfl
  have j:(binOp .quo t (.int .i64 (i:Int)) (.int .i64 (J:Int))).run P w= .ok (.int .i64 ((i/J:Nat):Int)) w:=by
   show(Op.intDiv .quo .i64 (i:Int) (J:Int)).run P w=_;unfold Op.intDiv;simp only [d,aI c,ei,e]
  simp only [f,dQ,ei,dU,j]) h
end
theorem Bj:∀(U:List Value)(k:Nat)(cells:Array Value),(U.zipIdx k).foldl (λcs(p:Value×Nat)=>cs.setIfInBounds (0+p.2) p.1) cells=setCells cells k U
 |[],_,_=>rfl
 |v::r,k,cells=>by
  rw [List.zipIdx_cons,hQ,Bj r (k+1),setCells,fg]
theorem Hz{P:Program}{t e:TypeId}{z:Value}{size bytes:Nat}(hu:P.underlying t=some (.slice e))(f:cn P e z size bytes)(U:List Value)(k:U.length=size)(m:0<size)(aL:size<=16777216)(w:World):
 (Instr.buildSlice t 1 #[(0,.agg U.toArray)]).run P w= .ok (.slice (some ⟨w.heap.size,0,none⟩) 1 1) {w with heap:=w.heap.push (.cells U.toArray e)}:=by
 obtain⟨i,g,h,j,_⟩:=f.parts
 have key:∀cells:Array Value,cells.size=size->Instr.fill (λi=>some (i*size,size)) cells [(0,.agg U.toArray)]=some U.toArray:=by
  intro cells c;have d:(Value.agg U.toArray).cells=U.toArray:=rfl;unfold Instr.fill;simp only [d,hy,k,oJ,fg,ne_eq,not_true,decide_false,Bool.false_or,c,Nat.lt_irrefl,Instr.fill];simp only [gt_iff_lt,Nat.lt_irrefl,decide_false,Bool.false_eq_true,lx]
  congr 1
  rw [<-Array.foldl_toList,Array.toList_zipIdx];have a:=Bj U 0 cells;simp only [fg] at a;exact a.trans (Av U cells (by omega))
 unfold Instr.buildSlice;have l:¬1*size>2^24:=by omega
 have b:¬1*size=0:=by omega
 simp only [dQ,d7 hu,dU,sizeOf,typeInfo,me,g,ei,j,l,b,lx,zeroValue,h];rw [key _ (by simp)];simp [newRow]
section
variable {P:Program} {n:Fr} {Z:Env} {w:World} {Q:d6} {ops:Array Oper} {rest:List Oper} {dst:Option Nat} {ty:TypeId} {pos:String} {after:Array Edge} {g:Option (Nat×Bool)}
theorem gC{t e:TypeId}{x:Operand}{U:List Value}{z:Value}{size bytes:Nat}{o:World}{F:List Nat}{ae:List (List Chunk)}[hu:bB P t (.slice e)][j:cn P e z size bytes](d:C o F ae w)
 (i:cW ops Z g=some true) (f:da n dst=true) (l:bs Z x=some (.agg U.toArray)) (k:U.length=size) (a:0<size) (aL:size<=16777216)
 (h:∀b aK,C o F ([(b,.cells U.toArray e (0,0))]::ae) aK->O P n ops rest (cE Z dst (.slice (some ⟨b,0,none⟩) 1 1)) aK Q):O P n ops (⟨dst,.buildSlice t 1 #[(0,x)],ty,pos,after,g⟩::rest) Z w Q:=
 nO (c:=U.toArray) (e:=e) (U:=[.agg U.toArray]) d i f (by simp [fr,l]) (λw=>by simpa using Hz hu.h j U k a aL w) h
theorem BO{t e:TypeId}{I:Array TypeId}{args:Array Operand}{z:Value}{size bytes:Nat}{o:World}{F:List Nat}{ae:List (List Chunk)}{k m c:Nat}{B A:Option Addr}{xs news:List Value}
 [hu:bB P t (.slice e)] [T:cn P e z size bytes] (L:C o F ae w) (ad:I= #[t,t]) (ah:z.cells.size=size) (H:0<size) (S:cW ops Z g=some true) (R:da n dst=true)
 (af:fr Z args.toList=some [.slice B k k,.slice A m c]) (p:xs.length=k*size) (E:Rd w B xs) (aa:0<k) (hm:0<m) (l:news.length=m*size) (G:Rd w A news) (M:(k+m)*bytes<=140737488355328) (y:k+m<=maxLen)
 (h:∀K x aK,Row e size K (k+m) (xs++news) x->C o F (x::ae) aK->O P n ops rest (cE Z dst K) aK Q):O P n ops (⟨dst,.call ⟨.builtin .append,args,I⟩,ty,pos,after,g⟩::rest) Z w Q:=by
 subst ad;obtain⟨i,U,V,D,W⟩:=T.parts;have ag:xs≠[]:=by intro q;subst q;have:=Nat.mul_pos aa H;simp only [gk] at p;omega
 have Y:news≠[]:=by intro q;subst q;have:=Nat.mul_pos hm H;simp only [gk] at l;omega
 obtain⟨f,rfl⟩:∃f,B=some f:=by
  cases xs with
  |nil=>exact absurd j ag
  |cons u r=>obtain⟨a,b,_⟩:=E 0 u j;exact⟨a,b⟩
 obtain⟨d,rfl⟩:∃d,A=some d:=by
  cases news with
  |nil=>exact absurd j Y
  |cons u r=>obtain⟨a,b,_⟩:=G 0 u j;exact⟨a,b⟩
 have ai:k+m<=9223372036854775807:=by simp only [maxLen] at y;omega
 have ac:=run_append_grow (P:=P) w t ty e i z hu.h U V f k k xs (by rw [D];exact p) (λJ v s=>E.cell s) d m c news (by rw [D];exact l) (λJ v s=>G.cell s) (by omega) (by omega) (by rw [W];exact growslice_fits (by omega) M);have N:=grownCap_ge w (k+m) k e;have X:=grownCap_le_maxLen w (k+m) k e y
 have ab:Row e size (.slice (some ⟨w.heap.size,0,none⟩) (k+m) (grownCap w (k+m) k e)) (k+m) (xs++news) [(w.heap.size,.cells (xs.toArray++news.toArray++Builtin.zeroCells z.cells (grownCap w (k+m) k e-(k+m))) e (0,0))]:=by
  have hlen:(xs++news).length=(k+m)*size:=by rw [b4,p,l,Nat.add_mul]
  refine⟨hlen,.inr ⟨_,_,_,j,j,N,X,?_,?_⟩⟩
  .simp only [Array.size_append,List.size_toArray,s4,ah,p,l,<-Nat.add_mul];exact kk _ (by omega)
  .simp only [t6,List.append_assoc];rw [<-dF,<-hlen];exact md
 refine dL S R (λa b=>?_) (h _ _ _ ab (L.drew.alloc _)) (aa:=cT.alloc _ _);have:args.map a.eval= #[.slice (some f) k k,.slice (some d) m c]:=by apply fC;rw [hn,b.hr af]
 simp only [execOp,resolve,invoke,builtin,dQ,ei,dU,this,ac]
end
section
variable {P:Program} {n:Fr} {Z:Env} {w:World} {Q:d6} {ops:Array Oper} {rest:List Oper}
 {dst:Option Nat} {ty:TypeId} {pos:String} {after:Array Edge} {g:Option (Nat×Bool)}
theorem HF(U:List Value)(c:Array Value)(off:Nat)(h:off+U.length<=c.size):(setCells c off U).toList.take off=c.toList.take off:=by
 apply oG;intro i;rw [jD,jD];split
 .rw [pY,pY,pr U c off h i,aI (by omega)]
 .rfl
theorem wG{t e eG:TypeId}{A:Array TypeId}{args:Array Operand}{z:Value}{size bytes:Nat}{o:World}{F:List Nat}{ae:List (List Chunk)}{b off m c:Nat}{hb:Array Value}
 [hu:bB P t (.slice e)] [G:cn P e z size bytes] (r:C o F ([(b,.cells hb eG (0,0))]::ae) w) (N:A= #[t]) (T:z.cells.size=size) (S:∀u∈z.cells.toList,u.oneCell'=true)
 (x:cW ops Z g=some true) (s:da n dst=true)
 (R:fr Z args.toList=some [.slice (some ⟨b,off,none⟩) m c]) (U:off+m*size<=hb.size)
 (h:∀l aK,l.size=hb.size->l.toList.take off=hb.toList.take off->C o F ([(b,.cells l eG (0,0))]::ae) aK->O P n ops rest (cE Z dst (.tuple #[])) aK Q):
 O P n ops (⟨dst,.call ⟨.builtin .clear,args,A⟩,ty,pos,after,g⟩::rest) Z w Q:=by
 obtain⟨i,H,I,V,W⟩:=G.parts;subst N;have d:∀a,cF Z n.n a->args.map a.eval= #[.slice (some ⟨b,off,none⟩) m c]:=λa d=>by apply fC;rw [hn,d.hr R]
 cases m with
 |zero=>
  refine dL x s (λa q=>?_) (h hb w j j r);simp [execOp,resolve,d a q,invoke,builtin,Builtin.clear_,d7 hu.h]
 |succ k=>
  have hlen:(Builtin.zeroCells z.cells (k+1)).toList.length=(k+1)*size:=by
   rw [Array.length_toList,s4,T]
  have L:∀v∈(Builtin.zeroCells z.cells (k+1)).toList,v.oneCell'=true:=λv f=>by
   obtain⟨J,y,f⟩:=List.getElem_of_mem f;simp only [Builtin.zeroCells,Array.toList_ofFn,List.getElem_ofFn] at f
   have M:0<z.cells.size:=by
    rcases rM z.cells.size with p|p
    .rw [Array.length_toList,s4,p] at y;simp at y
    .exact p
   have K:J%z.cells.size<z.cells.size:=jE _ M
   have hm:v∈z.cells.toList:=by
    rw [<-f];simp [getElem!_pos,K]
   exact S v hm
  obtain⟨aK,B,D,E⟩:=C.storeCells (P:=P) (off:=off) (Builtin.zeroCells z.cells (k+1)).toList 0 hb w r (by rw [hlen];omega) L;refine dL (aK:=aK) x s (λa q=>?_) (h _ aK (s0 _ _ _) (by rw [oV];exact HF _ _ _ (by rw [hlen];omega)) D) (aa:=E);simp [execOp,resolve,d a q,invoke,builtin,Builtin.clear_,d7 hu.h,zeroValue,typeInfo,H,I,B]
theorem BP{t e:TypeId}{E:Array TypeId}{args:Array Operand}{z:Value}{size bytes:Nat}{o:World}{F:List Nat}{ae:List (List Chunk)}{b k cap m c:Nat}{A:Option Addr}{cur:Array Value}{news:List Value}
 [hu:bB P t (.slice e)] [M:cn P e z size bytes] (f:C o F ([(b,.cells cur e (0,0))]::ae) w) (W:E= #[t,t]) (V:0<size)
 (v:cW ops Z g=some true) (s:da n dst=true)
 (X:fr Z args.toList=some [.slice (some ⟨b,0,none⟩) k cap,.slice A m c]) (l:news.length=m*size) (B:Rd w A news) (G:∀u∈news,u.oneCell'=true) (D:k+m<=cap) (K:cap*size<=cur.size)
 (h:∀p aK,p.size=cur.size->p.toList.take ((k+m)*size)=cur.toList.take (k*size)++news->C o F ([(b,.cells p e (0,0))]::ae) aK->O P n ops rest (cE Z dst (.slice (some ⟨b,0,none⟩) (k+m) cap)) aK Q):
 O P n ops (⟨dst,.call ⟨.builtin .append,args,E⟩,ty,pos,after,g⟩::rest) Z w Q:=by
 obtain⟨i,x,ab,N,ac⟩:=M.parts;subst N;subst W;have d:∀a,cF Z n.n a->args.map a.eval= #[.slice (some ⟨b,0,none⟩) k cap,.slice A m c]:=λa d=>by apply fC;rw [hn,d.hr X]
 have y:k<=cap:=by omega
 have ad:k*i.size<=cur.size:=eh (kk _ y) K
 have L:k*i.size+news.length<=cur.size:=by
  have:=kk i.size D;rw [l,<-m4];omega
 cases A with
 |none=>
  have aJ:news=[]:=by
   cases news with
   |nil=>rfl
   |cons u r=>obtain⟨a,d,_⟩:=B 0 u (by simp);cases d
  subst aJ
  have hm:m=0:=by
   rcases rM m with h|h
   .exact h
   .have:=Nat.mul_pos h V;simp at l;omega
  subst hm;refine dL v s (λa q=>?_) (h cur w j (by simp) f);simp [execOp,resolve,d a q,invoke,builtin,Builtin.append_,d7 hu.h,sizeOf,typeInfo,x,Builtin.lenOf,Builtin.firstCells,y,Go.storeCells]
 |some a0=>
  have T:∀J u,news[J]? =some u->w.cell? (a0.add J)=some u:=λJ u hu=>by
   obtain⟨Y,H,I⟩:=B J u hu;cases H;exact I
  have U:=run_append_room (P:=P) w t ty e i hu.h x b k cap cur f.first a0 m c news l T G D L;refine dL (aK:=w.setRow b (cur.toList.take (k*i.size)++news++cur.toList.drop (k*i.size+news.length)).toArray) v s (λa q=>?_) (h _ _ ?_ ?_ (f.setRow)) (aa:=cT.cells f.first (λdb R=>setRow_other w b db _ R))
  .simp only [execOp,resolve,invoke,builtin,dQ,ei,dU,d a q,U]
  .simp only [hy,b4,List.length_take,List.length_drop,Array.length_toList];omega
  .have S:(cur.toList.take (k*i.size)++news).length=(k+m)*i.size:=by
    rw [b4,List.length_take,Array.length_toList,l,Nat.add_mul];omega
   simp only [dF];rw [<-dF,<-S];exact md
theorem BI{t e:TypeId}{x y:Operand}{A:Option Addr}{l c:Nat}{k:IntKind}{i:Nat}{z:Value}{size bytes:Nat}[hu:bB P t (.slice e)][m:cn P e z size bytes]
 (p:bs Z x=some (.slice A l c)) (q:bs Z y=some (.int k i)) (r:i<=c):
 ∀a,cF Z n.n a->(execOp a.eval ⟨dst,.slice t x none (some y) none,ty,pos,after,g⟩).run P w= .ok (.value (.slice A i c)) w:=λa b=>by
 obtain⟨J,o,_,s,_⟩:=m.parts;have d:¬c<i:=by omega
 have f:A.map (λx=>x.add 0)=A:=by cases A<;>simp [Addr.add]
 simp [execOp,b.eval p,b.eval q,Instr.sliceAt,Instr.slice,Instr.sliceBounds,Instr.sliceBound,asIntOf,d7 hu.h,sizeOf,typeInfo,o,f];exact λj=>(d j).elim
theorem BH{t e:TypeId}{x y:Operand}{A:Option Addr}{l c:Nat}{k:IntKind}{i:Nat}{z:Value}{size bytes:Nat}[hu:bB P t (.slice e)][j:cn P e z size bytes]
 (p:bs Z x=some (.slice A l c)) (q:bs Z y=some (.int k i)) (r:i<=l):
 ∀a,cF Z n.n a->(execOp a.eval ⟨dst,.slice t x (some y) none none,ty,pos,after,g⟩).run P w= .ok (.value (.slice (if c=i then A else A.map (·.add (i*size))) (l-i) (c-i))) w:=λa b=>by
 obtain⟨J,m,_,o,_⟩:=j.parts;have d:¬l<i:=by omega
 simp [execOp,b.eval p,b.eval q,Instr.sliceAt,Instr.slice,Instr.sliceBounds,Instr.sliceBound,asIntOf,d7 hu.h,sizeOf,typeInfo,m,o];exact λf=>(d f).elim
theorem BV{t e:TypeId}{x y f:Operand}{b I l c:Nat}{k db:IntKind}{i J:Nat}{z:Value}{size bytes:Nat}[hu:bB P t (.slice e)][v:cn P e z size bytes]
 (u:cW ops Z g=some true) (s:da n dst=true)
 (C:bs Z x=some (.slice (some ⟨b,I,none⟩) l c)) (D:bs Z y=some (.int k i)) (E:bs Z f=some (.int db J)) (m:i<=J) (o:J<=c) (F:i<c)
 (h:O P n ops rest (cE Z dst (.slice (some ⟨b,I+i*size,none⟩) (J-i) (c-i))) w Q):O P n ops (⟨dst,.slice t x (some y) (some f) none,ty,pos,after,g⟩::rest) Z w Q:=
 dL u s (λa d=>by
  obtain⟨inf,A,_,B,_⟩:=v.parts;have p:¬c<J:=by omega
  have q:¬J<i:=by omega
  have r:¬c=i:=by omega
  have j:((⟨b,I,none⟩:Addr).add (i*size))=⟨b,I+i*size,none⟩:=add_lit _ _ _;simp [execOp,d.eval C,d.eval D,d.eval E,Instr.sliceAt,Instr.slice,Instr.sliceBounds,Instr.sliceBound,asIntOf,d7 hu.h,sizeOf,typeInfo,A,B,p,q,r,j];rw [a6 o,a6 m]) h
theorem BW{t e:TypeId}{x y f j:Operand}{b I l c:Nat}{k db M:IntKind}{i J m:Nat}{z:Value}{size bytes:Nat}[hu:bB P t (.slice e)][D:cn P e z size bytes]
 (C:cW ops Z g=some true) (B:da n dst=true)
 (G:bs Z x=some (.slice (some ⟨b,I,none⟩) l c)) (H:bs Z y=some (.int k i)) (K:bs Z f=some (.int db J)) (L:bs Z j=some (.int M m)) (p:i<=J) (q:J<=m) (v:m<=c) (N:i<m)
 (h:O P n ops rest (cE Z dst (.slice (some ⟨b,I+i*size,none⟩) (J-i) (m-i))) w Q):O P n ops (⟨dst,.slice t x (some y) (some f) (some j),ty,pos,after,g⟩::rest) Z w Q:=
 dL C B (λa d=>by
  obtain⟨inf,E,_,F,_⟩:=D.parts;have r:¬m<J:=by omega
  have s:¬J<i:=by omega
  have u:¬m=i:=by omega
  have A:¬c<m:=by omega
  have o:((⟨b,I,none⟩:Addr).add (i*size))=⟨b,I+i*size,none⟩:=add_lit _ _ _;simp [execOp,d.eval G,d.eval H,d.eval K,d.eval L,Instr.sliceAt,Instr.slice,Instr.sliceBounds,Instr.sliceBound,asIntOf,d7 hu.h,sizeOf,typeInfo,E,F,r,s,u,A,o];rw [a6 v,a6 q,a6 p]) h
end
class ip(G:List Chunk)(ae:List (List Chunk))(ag:outParam (List (List Chunk))):Prop where
 perm:ae.Perm (G::ag)
instance (priority:=1100)ip.here(G:List Chunk)(ae:List (List Chunk)):ip G (G::ae) ae:=⟨oK _⟩
instance ip.there(G H:List Chunk)(ae ag:List (List Chunk))[h:ip G ae ag]:ip G (H::ae) (H::ag):=⟨(h.perm.cons H).trans (.swap ..)⟩
instance ip.app(G H:List Chunk)(A B ag:List (List Chunk))[h:ip G (H::(A++B)) ag]:ip G ((H::A)++B) ag:=⟨h.perm⟩
instance ip.w8(G:List Chunk)(B ag:List (List Chunk))[h:ip G B ag]:ip G ([]++B) ag:=⟨h.perm⟩
instance ip.w9(G:List Chunk)(B ag:List (List Chunk))[h:ip G B ag]:ip G (List.append [] B) ag:=⟨h.perm⟩
instance ip.assoc(G:List Chunk)(A B bb ag:List (List Chunk))[h:ip G (A++(B++bb)) ag]:ip G ((A++B)++bb) ag:=⟨by rw [dF];exact h.perm⟩
class kG(ae cI:List (List Chunk))(ag:outParam (List (List Chunk))):Prop where
 perm:ae.Perm (cI++ag)
instance kG.nil(ae:List (List Chunk)):kG ae [] ae:=⟨oK _⟩
instance kG.cons(G:List Chunk)(ae cI a ag:List (List Chunk))[b:ip G ae a][c:kG a cI ag]:kG ae (G::cI) ag:=⟨b.perm.trans (c.perm.cons G)⟩
class Has(b:Nat)(ae:List (List Chunk))(I:outParam Obj):Prop where
 mem:(b,I)∈ae.flatten
class tE(b:Nat)(G:List Chunk)(I:outParam Obj):Prop where
 mem:(b,I)∈G
instance (priority:=1100)tE.here(b:Nat)(I:Obj)(G:List Chunk):tE b ((b,I)::G) I:=⟨by simp⟩
instance (priority:=1100)Has.here(b:Nat)(I:Obj)(G:List Chunk)(ae:List (List Chunk))[h:tE b G I]:Has b (G::ae) I:=⟨by rw [kj];exact dw.2 (.inl h.mem)⟩
instance Has.there(b:Nat)(I:Obj)(G:List Chunk)(ae:List (List Chunk))[h:Has b ae I]:Has b (G::ae) I:=⟨by rw [kj];exact dw.2 (.inr h.mem)⟩
instance Has.app(b:Nat)(I:Obj)(G:List Chunk)(A B:List (List Chunk))[h:Has b (G::(A++B)) I]:Has b ((G::A)++B) I:=⟨h.mem⟩
instance Has.w8(b:Nat)(I:Obj)(B:List (List Chunk))[h:Has b B I]:Has b ([]++B) I:=⟨h.mem⟩
instance Has.w9(b:Nat)(I:Obj)(B:List (List Chunk))[h:Has b B I]:Has b (List.append [] B) I:=⟨h.mem⟩
class jA(b:Nat)(ae:List (List Chunk))(I:outParam Obj)(ag:outParam (List (List Chunk))):Prop where
 perm:ae.Perm ([(b,I)]::ag)
instance (priority:=1100)jA.here(b:Nat)(I:Obj)(ae:List (List Chunk)):jA b ([(b,I)]::ae) I ae:=⟨oK _⟩
instance jA.there(b:Nat)(I:Obj)(H:List Chunk)(ae ag:List (List Chunk))[h:jA b ae I ag]:jA b (H::ae) I (H::ag):=⟨(h.perm.cons H).trans (.swap ..)⟩
instance jA.app(b:Nat)(I:Obj)(H:List Chunk)(A B ag:List (List Chunk))[h:jA b (H::(A++B)) I ag]:jA b ((H::A)++B) I ag:=⟨h.perm⟩
instance jA.w8(b:Nat)(I:Obj)(B ag:List (List Chunk))[h:jA b B I ag]:jA b ([]++B) I ag:=⟨h.perm⟩
instance jA.w9(b:Nat)(I:Obj)(B ag:List (List Chunk))[h:jA b B I ag]:jA b (List.append [] B) I ag:=⟨h.perm⟩
section
variable {o w aK:World} {F:List Nat} {ae cI ag bb:List (List Chunk)} {G:List Chunk} {b:Nat} {I:Obj}
theorem C.to(G:List Chunk)[h:ip G ae ag](a:C o F ae w):C o F (G::ag) w:=a.jm h.perm
theorem C.xZ:∀{A:List (List Chunk)},C o F (A++ag) w->C o F ag w
 |[],h=>h
 |G::A,h=>C.xZ (A:=A) (C.drop (G:=G) h)
theorem C.dropEnd{A:List (List Chunk)}(h:C o F (A++ag) w):C o F A w:=C.xZ (A:=ag) (h.jm lC)
theorem C.as [h:kG ae cI ag](a:C o F ae w):C o F cI w:=(a.jm h.perm).dropEnd
theorem C.front [h:kG ae cI ag](a:C o F ae w):C o F (cI++ag) w:=a.jm h.perm
theorem C.ours [h:kG ae cI ag](a:C o F ae w):Own cI w:=(a.jm h.perm).sub
theorem C.b3 [h:kG ae cI ag](a:C o F ae w)(k:C w (au cI) bb aK):C o F (bb++ag) aK:=C.after (a.jm h.perm) k
theorem C.ak [h:Has b ae I](a:C o F ae w):w.heap[b]? =some I:=a.here (b,I) h.mem
theorem C.bc(b:Nat)[h:jA b ae I ag](a:C o F ae w):C o F ([(b,I)]::ag) w:=a.jm h.perm
theorem aw{off:Nat}{c:Array Value}{e:TypeId}{e3:Nat×Nat}{v:Value}(h:w.heap[b]? =some (.cells c e e3))(a:c[off]? =some v):w.cell? ⟨b,off,none⟩=some v:=by simp [World.cell?,h,a]
theorem bp{c:Array Value}{e:TypeId}{e3:Nat×Nat}(h:w.heap[b]? =some (.cells c e e3)):Rd w (some ⟨b,0,none⟩) c.toList:=λi v a=>⟨_,j,by rw [add_lit];exact aw h (by simpa using a)⟩
end
theorem Bp{P:Program}{n:Nat}{Z:Env}{w:World}{dst:Option Nat}{ty:TypeId}{pos:String}{after:Array Edge}{g:Option (Nat×Bool)}{x:Operand}{U:Array Value}{i:Nat}{v:Value}
 (d:bs Z x=some (.tuple U)) (c:U[i]? =some v):∀a,cF Z n a->(execOp a.eval ⟨dst,.extract x i,ty,pos,after,g⟩).run P w= .ok (.value v) w:=λa b=>by simp [execOp,b.eval d,Instr.extract,c]
theorem sY{P:Program}{n:Nat}{Z:Env}{w:World}{fn:Func}{t0 c:Nat}{b:Addr}{v0:Value}{d0:TypeDesc}[j:bB P c d0]
 (g:fn.results= #[.cell t0 c]) (i:look Z t0=some (.pointer (some b))) (d:ia d0=false) (e:w.cell? b=some v0):
 ∀a,cF Z n a->(results fn a.tmps).run P w= .ok (v0) w:=λa f=>by
 simp [results,g,asAddr,loadVar,f.get _ _ i,ky j.h,d,e]
theorem Ag{P:Program}{n:Nat}{Z:Env}{w:World}{fn:Func}{t0 e:Nat}{b:Addr}{v0:Value}{d0:TypeDesc}[p:bB P e d0]{t1 f:Nat}{c:Addr}{v1:Value}{d1:TypeDesc}[q:bB P f d1]
 (l:fn.results= #[.cell t0 e,.cell t1 f]) (m:look Z t0=some (.pointer (some b))) (g:ia d0=false) (j:w.cell? b=some v0) (o:look Z t1=some (.pointer (some c))) (i:ia d1=false) (k:w.cell? c=some v1):
 ∀a,cF Z n a->(results fn a.tmps).run P w= .ok (.tuple #[v0,v1]) w:=λa d=>by
 simp [results,l,asAddr,loadVar,d.get _ _ m,ky p.h,g,d.get _ _ o,ky q.h,i,j,k]
theorem wa{P:Program}{n:Nat}{Z:Env}{w:World}{fn:Func}{t0 f:Nat}{c:Addr}{v0:Value}{d0:TypeDesc}[u:bB P f d0]{t1 g:Nat}{d:Addr}{v1:Value}{d1:TypeDesc}[v:bB P g d1]{t2 i:Nat}{e:Addr}{v2:Value}{d2:TypeDesc}[x:bB P i d2]
 (q:fn.results= #[.cell t0 f,.cell t1 g,.cell t2 i]) (r:look Z t0=some (.pointer (some c))) (j:ia d0=false) (m:w.cell? c=some v0) (s:look Z t1=some (.pointer (some d))) (k:ia d1=false) (o:w.cell? d=some v1) (t:look Z t2=some (.pointer (some e))) (l:ia d2=false) (p:w.cell? e=some v2):
 ∀a,cF Z n a->(results fn a.tmps).run P w= .ok (.tuple #[v0,v1,v2]) w:=λa b=>by
 simp [results,q,asAddr,loadVar,b.get _ _ r,ky u.h,j,b.get _ _ s,ky v.h,k,b.get _ _ t,ky x.h,l,m,o,p]
class fp(P:Program)where
 k5:TypeId->Nat->Option Nat
 ob:TypeId->Nat
 yp:∀s f off,k5 s f=some off->pL P s f off
 ptr:∀t,ob t=1->∃e,P.underlying t=some (.pointer e)
 AA:∀t,ob t=2->∃e,P.underlying t=some (.slice e)
 a8:∀t,ob t=3->P.underlying t=some .bool
 one:TypeId->Bool
 vQ:∀t,one t=true->∃d,P.underlying t=some d/\ia d=false
 qp:FuncId->Bool
 uQ:∀f,qp f=true->Entry P f
def lc{α:Type}:List (Nat×α)->Nat->Option α
 |[],_=>none
 |(k,v)::r,t=>match Nat.beq k t with
  |true=>some v
  |false=>lc r t
theorem lc.mem{α:Type}:∀{l:List (Nat×α)}{t:Nat}{v:α},lc l t=some v->(t,v)∈l
 |[],_,_,h=>by cases h
 |(k,u)::r,t,v,h=>by
  simp only [lc] at h;split at h
  .rename_i a;cases h;rw [<-iP a];exact oL
  .exact lw _ (lc.mem h)
def u2(P:Program)(s f off:Nat):Bool:=match P.underlying s with
 |some (.struct gK)=>match gK[f]? with
  |some x=>Nat.beq x.offset off&&((P.info? x.type).map (·.size)).any (·!=0)
  |none=>false
 |_=>false
theorem Eu{P:Program}{s f off:Nat}(h:u2 P s f off=true):pL P s f off:=by
 unfold u2 at h;split at h
 .rename_i gK hu;split at h
  .rename_i x a;simp only [d8] at h;exact⟨gK,x,hu,a,iP h.1,h.2⟩
  .cases h
 .cases h
def qE(P:Program)(t k:Nat):Bool:=match P.underlying t with
 |some (.pointer _)=>Nat.beq k 1
 |some (.slice _)=>Nat.beq k 2
 |some .bool=>Nat.beq k 3
 |_=>false
theorem vj{P:Program}{t k:Nat}(h:qE P t k=true):(k=1/\∃e,P.underlying t=some (.pointer e))\/(k=2/\∃e,P.underlying t=some (.slice e))\/(k=3/\P.underlying t=some .bool):=by
 unfold qE at h;split at h
 .rename_i e he;exact .inl ⟨iP h,e,he⟩
 .rename_i e he;exact .inr (.inl ⟨iP h,e,he⟩)
 .rename_i he;exact .inr (.inr ⟨iP h,he⟩)
 .cases h
def vk(K:List (Nat×Nat))(t:Nat):Nat:=match lc K t with
 |some k=>k
 |none=>0
theorem vl{P:Program}{K:List (Nat×Nat)}(h:(K.all λe=>qE P e.1 e.2)=true){t k:Nat}(a:vk K t=k)(aa:k≠0):qE P t k=true:=by
 unfold vk at a;split at a
 .rename_i u hu;subst a;exact jW.1 h _ (lc.mem hu)
 .exact absurd a.symm aa
def zF(P:Program)(t:Nat):Bool:=match P.underlying t with
 |some d=> !ia d
 |none=>false
def mi:List Nat->Nat->Bool
 |[],_=>false
 |k::r,t=>match Nat.beq k t with
  |true=>true
  |false=>mi r t
theorem mi.mem:∀{l:List Nat}{t:Nat},mi l t=true->t∈l
 |[],_,h=>by cases h
 |k::r,t,h=>by
  simp only [mi] at h;split at h
  .rename_i a;rw [<-iP a];exact oL
  .exact lw _ (mi.mem h)
def uP(P:Program)(f:Nat):Bool:=match P.funcs[f]? with
 |some fn=> !(fn.name== "runtime.NumGoroutine")&& !fn.body.isNone
 |none=>false
theorem Ed{P:Program}{f:Nat}(h:uP P f=true):Entry P f:=by
 unfold uP at h;split at h
 .rename_i fn br;simp only [d8,ki] at h;exact⟨fn,br,h.1,h.2⟩
 .cases h
@[reducible] def fp.make(P:Program)(F:List (Nat×List (Nat×Nat)))(K:List (Nat×Nat))(O:List Nat)(B:Nat)(X:List Nat)(h:((F.all λe=>e.2.all λp=>u2 P e.1 p.1 p.2)&&(K.all λe=>qE P e.1 e.2))=true)(i:(O.all λt=>zF P t)=true)(he:((List.range B).all λf=>mi X f||uP P f)=true):fp P where
 qp f:=Nat.blt f B&& !mi X f
 uQ f br:=by
  simp only [d8,ki] at br;have c:=jW.1 he f (m6.2 (by simpa [Nat.blt_eq] using br.1));rw [br.2,Bool.false_or] at c;exact Ed c
 one:=mi O
 vQ t a:=by
  have:=jW.1 i _ (mi.mem a);unfold zF at this;split at this
  .rename_i d g;exact⟨d,g,by simpa using this⟩
  .cases this
 k5 s f:=match lc F s with
  |some l=>lc l f
  |none=>none
 ob t:=vk K t
 yp s f off b:=by
  simp only [d8] at h;split at b
  .rename_i l aL;exact Eu (jW.1 (jW.1 h.1 _ (lc.mem aL)) _ (lc.mem b))
  .cases b
 ptr t a:=by
  simp only [d8] at h;rcases vj (vl h.2 a (by decide)) with⟨_,h⟩|⟨h,_⟩|⟨h,_⟩
  .exact h
  .exact absurd h (by decide)
  .exact absurd h (by decide)
 AA t a:=by
  simp only [d8] at h;rcases vj (vl h.2 a (by decide)) with⟨h,_⟩|⟨_,h⟩|⟨h,_⟩
  .exact absurd h (by decide)
  .exact h
  .exact absurd h (by decide)
 a8 t a:=by
  simp only [d8] at h;rcases vj (vl h.2 a (by decide)) with⟨h,_⟩|⟨h,_⟩|⟨_,h⟩
  .exact absurd h (by decide)
  .exact absurd h (by decide)
  .exact h
def xv(P:Program)[fp P](op:BinOp)(t:TypeId)(y:Operand):Value->Value->Option Value
 | .int k i,.int db J=>match decide (k=db) with
  |true=>evalBin op k i J
  |false=>none
 | .pointer p,.pointer none=>match Nat.beq (fp.ob P t) 1 with
  |true=>match y with
   | .const (.pointer none)=>match op with
    | .eql=>some (.bool p.isNone)
    | .neq=>some (.bool p.isSome)
    |_=>none
   |_=>none
  |false=>none
 | .bool a,.bool b=>match Nat.beq (fp.ob P t) 3 with
  |true=>match op with
   | .eql=>some (.bool (a==b))
   |_=>none
  |false=>none
 |_,_=>none
def v4(P:Program)[fp P](Z:Env):Op->Option Value
 | .move x=>bs Z x
 | .assign x=>bs Z x
 | .nilCheck x=>match bs Z x with
  |some (.pointer (some A))=>some (.pointer (some A))
  |_=>none
 | .fieldAddr s x f=>match fp.k5 P s f with
  |some off=>match bs Z x with
   |some (.pointer (some ⟨b,I,none⟩))=>some (.pointer (some ⟨b,I+off,none⟩))
   |_=>none
  |none=>none
 | .pick c x y=>match bs Z c with
  |some (.bool true)=>bs Z x
  |some (.bool false)=>bs Z y
  |_=>none
 | .extract x i=>match bs Z x with
  |some (.tuple U)=>U[i]?
  |_=>none
 | .unOp .not _ x=>match bs Z x with
  |some (.bool b)=>some (.bool (!b))
  |_=>none
 | .binOp op t x y _=>match bs Z x with
  |some u=>match bs Z y with
   |some v=>xv P op t y u v
   |none=>none
  |none=>none
 | .call ⟨.builtin .len,args,a⟩=>match a.toList with
  |[t]=>match Nat.beq (fp.ob P t) 2 with
   |true=>match fr Z args.toList with
    |some [.slice _ l _]=>some (.int .i64 l)
    |_=>none
   |false=>none
  |_=>none
 |_=>none
theorem z1{P:Program}[j:fp P]{n:Nat}{Z:Env}{op:Op}{v:Value}(h:v4 P Z op=some v):(∀c,op≠.defer c)/\∀(dst:Option Nat)(ty:TypeId)(pos:String)(after:Array Edge)(g:Option (Nat×Bool))(w:World)(a:Act),cF Z n a->(execOp a.eval ⟨dst,op,ty,pos,after,g⟩).run P w= .ok (.value v) w:=by
 unfold v4 at h;split at h
 .exact⟨(by intro c f;cases f),λ_ _ _ _ _ w a d=>Bx h a d⟩
 .exact⟨(by intro c f;cases f),λ_ _ _ _ _ w a d=>Bm h a d⟩
 .split at h
  .rename_i i;cases h;exact⟨(by intro c f;cases f),λ_ _ _ _ _ w a d=>BA i a d⟩
  .cases h
 .split at h
  .rename_i br;split at h
   .rename_i i;cases h;have:=fp.yp _ _ _ br;exact⟨(by intro c f;cases f),λ_ _ _ _ _ w a d=>Bq i a d⟩
   .cases h
  .cases h
 .split at h
  .rename_i f;exact⟨(by intro c f;cases f),λ_ _ _ _ _ w a d=>BE f h a d⟩
  .rename_i f;exact⟨(by intro c f;cases f),λ_ _ _ _ _ w a d=>BD f h a d⟩
  .cases h
 .split at h
  .rename_i i;exact⟨(by intro c f;cases f),λ_ _ _ _ _ w a d=>Bp i h a d⟩
  .cases h
 .split at h
  .rename_i i;cases h;exact⟨(by intro c f;cases f),λ_ _ _ _ _ w a d=>BB i a d⟩
  .cases h
 .split at h
  .rename_i u i;split at h
   .rename_i v2 k;refine⟨(by intro c f;cases f),λdst ty pos after g w a d=>?_⟩;unfold xv at h;split at h
    .split at h
     .rename_i aa;have aa:=dj aa;subst aa;exact dq i k h a d
     .cases h
    .rename_i p;split at h
     .rename_i aa;obtain⟨e,he⟩:=j.ptr _ (iP aa);split at h
      .split at h
       .cases h;simp only [execOp,d.eval i,eval_const,C9,dQ,Am he,dU,ei]
       .cases h;cases p<;>simp only [execOp,d.eval i,eval_const,Db,dQ,Am he,dU,ei]<;>rfl
       .cases h
      .cases h
     .cases h
    .rename_i ay aO;split at h
     .rename_i aa;have hu:=j.a8 _ (iP aa);split at h
      .cases h;have l:∀t x y a b,(do eqGuard .eql t x y (.bool a) (.bool b);binOp .eql t (.bool a) (.bool b))=(do pure (.bool (<-Op.equal t (.bool a) (.bool b))):Sem Value):=λ_ _ _ _ _=>rfl
       have m:(Op.equal _ (.bool ay) (.bool aO)).run P w= .ok (ay==aO) w:=run_equalIn_bool hu ay aO w 9999;simp only [execOp,d.eval i,d.eval k,l,dQ,m,dU,ei]
      .cases h
     .cases h
    .cases h
   .cases h
  .cases h
 .split at h
  .rename_i t o;split at h
   .rename_i aa;obtain⟨e,he⟩:=j.AA _ (iP aa);have hu:bB P t (.slice e):=⟨he⟩;split at h
    .rename_i i;cases h;refine⟨(by intro c f;cases f),λdst ty pos after g w a d=>Bu (e:=e) (t:=t) ?_ i a d⟩;exact fC o
    .cases h
   .cases h
  .cases h
 .cases h
def sS(n:Fr)(Z:Env):Option Nat->Value->Option Env
 |some d,v=>match Nat.blt d n.n with
  |true=>some ((d,v)::Z)
  |false=>none
 |none,_=>some Z
theorem sT{n:Fr}{Z di:Env}{d:Option Nat}{v:Value}(h:sS n Z d v=some di):da n d=true/\cE Z d v=di:=by
 cases d with
 |none=>cases h;exact⟨j,j⟩
 |some d=>
  simp only [sS] at h;split at h
  .rename_i a;cases h;exact⟨a,j⟩
  .cases h
def py(P:Program)[fp P](n:Fr)(ops:Array Oper)(Z:Env)(I:Oper):Option Env:=match cW ops Z I.guard with
 |some true=>match v4 P Z I.op with
  |some v=>sS n Z I.dst v
  |none=>none
 |some false=>sS n Z I.dst undef
 |none=>none
section
variable {P:Program} [fp P] {n:Fr} {Z di:Env} {w:World} {Q:d6} {ops:Array Oper} {rest I5:List Oper}
theorem HY{I:Oper}(h:py P n ops Z I=some di)(aa:O P n ops rest di w Q):O P n ops (I::rest) Z w Q:=by
 unfold py at h;split at h
 .rename_i d;split at h
  .rename_i v i;obtain⟨b,c⟩:=sT h;obtain⟨e,f⟩:=z1 (n:=n.n) i;rw [<-c] at aa;exact dL d b (λa g=>f I.dst I.type I.pos I.after I.guard w a g) aa (aJ:=e)
  .cases h
 .rename_i d;obtain⟨b,c⟩:=sT h;rw [<-c] at aa;exact BT d b aa
 .cases h
def lh(ops:Array Oper):Array Bool->List Nat->Bool
 |_,[]=>true
 |l,i::r=>j2 ops l i&&(Region.ready .any ops l).contains i&&lh ops (l.setIfInBounds i true) r
def qY(l:Array Bool):List Nat->Array Bool
 |[]=>l
 |i::r=>qY (l.setIfInBounds i true) r
def pq(P:Program)[fp P](n:Fr)(ops:Array Oper):List Nat->Env->Option Env
 |[],Z=>some Z
 |i::r,Z=>match ops[i]? with
  |some I=>match py P n ops Z I with
   |some di=>pq P n ops r di
   |none=>none
  |none=>none
theorem HZ{bb:World->Prop}{k:Nat}{l:Array Bool}{i:Nat}{I:Oper}(f:ops[i]? =some I)(aL:calm ops=true)(br:j2 ops l i=true)(g:(Region.ready .any ops l).contains i=true)(h:py P n ops Z I=some di)(e:bb w)(aa:eN P n ops bb k (l.setIfInBounds i true) di w (h2 Q)):eN P n ops bb (k+1) l Z w (h2 Q):=by
 unfold py at h;split at h
 .rename_i d;split at h
  .rename_i v o;obtain⟨b,c⟩:=sT h;obtain⟨p,j⟩:=z1 (n:=n.n) o;rw [<-c] at aa;exact wD i f aL br g d b e (λw _ a m=>j I.dst I.type I.pos I.after I.guard w a m) aa
  .cases h
 .rename_i d;obtain⟨b,c⟩:=sT h;rw [<-c] at aa;exact BN i f aL br g d b e aa
 .cases h
theorem tz{bb:World->Prop}(aL:calm ops=true)(b:bb w):∀(is:List Nat){m k:Nat}{l:Array Bool}{Z:Env},Nat.beq is.length m=true->lh ops l is=true->pq P n ops is Z=some di->eN P n ops bb k (qY l is) di w (h2 Q)->eN P n ops bb (k+m) l Z w (h2 Q)
 |[],m,k,l,Z,hm,_,h,aa=>by
  have:m=0:=(iP hm).symm;subst this;cases h;exact aa
 |i::r,m,k,l,Z,hm,a,h,aa=>by
  have hm:=iP hm;simp only [ez] at hm;subst hm;simp only [lh,d8] at a;simp only [pq] at h;split at h
  .rename_i I d;split at h
   .rename_i s1 e;have c:=tz aL b r (m:=r.length) (k:=k) (Nat.beq_refl _) a.2 h aa;exact HZ d aL a.1.1 a.1.2 e b c
   .cases h
  .cases h
theorem fV(m:Nat)(is:List Nat){bb:World->Prop}{k:Nat}{l:Array Bool}(c:pq P n ops is Z=some di)(b:bb w)(h:eN P n ops bb k (qY l is) di w (h2 Q))(a:(calm ops&&Nat.beq is.length m&&lh ops l is)=true:=by kernel_rfl):eN P n ops bb (k+m) l Z w (h2 Q):=by
 simp only [d8] at a;exact tz a.1.1 b is a.1.2 a.2 c h
theorem eM(i:Nat){I:Oper}{v:Value}{bb:World->Prop}{k:Nat}{l:Array Bool}(f:ops[i]? =some I)(c:bb w)
 (g:∀w,bb w->∀a,cF Z n.n a->(execOp a.eval I).run P w= .ok (.value v) w) (h:eN P n ops bb k (l.setIfInBounds i true) (cE Z I.dst v) w (h2 Q)) (e:cW ops Z I.guard=some true:=by rfl) (d:da n I.dst=true:=by rfl) (b:(calm ops&&lh ops l [i])=true:=by kernel_rfl):eN P n ops bb (k+1) l Z w (h2 Q):=by
 simp only [lh,d8] at b;exact wD i f b.1 b.2.1.1 b.2.1.2 e d c g h
theorem dZ(i:Nat){I:Oper}{bb:World->Prop}{k:Nat}{l:Array Bool}(a:ops[i]? =some I)
 (h:O P n ops [I] Z w (λe Z w=>match e with| .normal=>bb w/\eN P n ops bb k (l.setIfInBounds i true) Z w Q|_=>False)) (b:Region.ready .any ops l=[i]:=by kernel_rfl):eN P n ops bb (k+1) l Z w Q:=wC i a b h
theorem j5(i:Nat){I:Oper}{bb:World->Prop}{k:Nat}{l:Array Bool}(a:ops[i]? =some I)
 (h:O P n ops [I] Z w (λe Z w=>match e with| .normal=>eN P n ops bb k (l.setIfInBounds i true) Z w Q|_=>False)) (c:Region.ready .any ops l=[i]:=by kernel_rfl) (b:lM ops i=true:=by kernel_rfl):eN P n ops bb (k+1) l Z w Q:=wB i a c b h
end
theorem bJ{a b:Nat}(h:Nat.ble a b=true:=by rfl):a<=b:=oM h
theorem Dj{P:Program}{f:FuncId}{fn:Func}{c:Code}(l:List Value){w:World}{ag:Value->World->Prop}{n:Nat}{rs:Array ResultVar}
 (br:P.funcs[f]? =some fn) (aJ:fn.ntmps=n) (d:fn.results=rs)
 (h:W P {n:=n} c (jJ 0 l) w (Leaves rs ag)) (a:fn.body=some c:=by rfl) (b:Nat.ble l.length n=true:=by rfl):Calls P f l.toArray w (nQ ag):=Dk br a aJ d (oM b) h
abbrev ab(b:Nat):Value:=.pointer (some ⟨b,0,none⟩)
abbrev R(b:Nat)(c:Array Value)(t:TypeId):List Chunk:=[(b,.cells c t (0,0))]
end Go.Proofs.YtdomoelfhjdioaaGreatDoor.R
