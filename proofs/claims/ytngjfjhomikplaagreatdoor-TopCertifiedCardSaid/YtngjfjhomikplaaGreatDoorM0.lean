/- Part 0 of the proof. -/
import Derived.Deep.Matrix
import Derived.Deep.Quiet
import Derived.Ground.SlgmProg
import Derived.KernelRfl
import Derived.Laws.BytesArg
import Derived.Laws.Concat
import Derived.Laws.IdiomRangeMap
import Derived.Laws.MakeOwn
import Derived.Laws.Slices
import Derived.Laws.Strings3
import Derived.Laws.StructEq
import Derived.Lib.ConvBytes
import Derived.Lib.MakeNoZero
import Derived.MapKept
import Derived.Maps.RangeRun
import Derived.OpenShut
import Derived.OrdersIn
import Derived.ProofKit
import Derived.RangeFuncLeaves
import Derived.RangeFuncSeq
import Derived.Shelf.SlGeneric
import Derived.Shelf.SortM.Plain
import Derived.Shelf.SortM.SortNone
import Derived.SizedLaws
import Derived.Sort.OwnSortedInts
import Derived.Stop.BytesEq
import Derived.Test.YtngjfjhomikplaaGreatDoorProg
import Derived.Test.YtngjfjhomikplaaGreatDoorSy
import Derived.WalkKit
import Derived.WideShapes
set_option linter.defProp false
set_option linter.unusedVariables false
set_option linter.unusedSimpArgs false
set_option linter.unusedSectionVars false
set_option maxRecDepth 20000
set_option maxHeartbeats 4000000
namespace Go.Proofs.YtngjfjhomikplaaGreatDoor.R
open Go.Proofs.Tryz Go Go.RowKit
def a6:=@if_pos
def aI:=@if_neg
def gv:=@Array.getElem?_eq_some_iff
def hB:=@Option.some.inj
def rS:=@List.nodup_nil
def lJ:=@Go.CallsIn.mono
def qg:=@Go.RoundIn.mono
def kJ:=@Go.wpIn_mono
def kq:=@if_true
def nW:=@Go.Oper.semAt_eq
def tV:=@Array.toArray_toList
def rG:=@Nat.lt_or_ge
def lH:=@List.getElem?_eq_none
def cI:=@Nat.le_refl
def km:=@List.flatten_cons
def dv:=@List.mem_append
def jD:=@List.map_append
def iE:=@List.nodup_append
def dV:=@List.mem_map
def hb:=@List.flatten_append
def ek:=@Nat.le_trans
def t8:=@Nat.lt_of_lt_of_le
def rQ:=@Array.getElem?_modify
def mf:=@List.eq_nil_of_length_eq_zero
def jE:=@List.getElem?_take
def b4:=@Nat.zero_le
def b0:=@List.length_append
def kn:=@Nat.mul_le_mul_right
def t9:=@Array.toList_append
def dJ:=@List.append_assoc
def mg:=@List.take_left
def rR:=@Nat.eq_zero_or_pos
def d8:=@Go.run_underlying
def fj:=@Nat.zero_add
def kI:=@List.nil_append
def m5:=@Nat.add_mul
def hA:=@List.size_toArray
def dS:=@Go.Sem.run_bind
def dZ:=@Go.Result.andThen_ok
def en:=@Go.Sem.run_pure
def qc:=@Go.run_loadCells_list
def mh:=@Go.run_program
def fx:=@Array.ext'
def hq:=@Array.toList_map
def oN:=@List.map_map
def qd:=@Array.empty_append
def eu:=@List.length_cons
def ua:=@List.zip_cons_cons
def cn:=@List.getElem?_eq_getElem
def lI:=@if_false
def hc:=@List.append_nil
def ge:=@List.length_nil
def oO:=@Nat.add_zero
def m6:=@List.take_append_drop
def ea:=@Bool.and_eq_true
def ko:=@List.any_eq_true
def d5:=@beq_iff_eq
def jX:=@List.all_eq_true
def nT:=@List.mem_range
def oP:=@Go.mem_ready
def oQ:=@Decidable.em
def qe:=@Array.getD_eq_getD_getElem?
def ub:=@Array.getElem?_setIfInBounds_self_of_lt
def qf:=@Array.getElem?_setIfInBounds_ne
def m7:=@Bool.or_eq_true
def fT:=@List.mem_singleton
def mi:=@Go.IntKind.wrap_u8
def nU:=@BitVec.ofInt_natCast
def jF:=@Nat.mod_lt
def oR:=@UInt8.toNat_ofNat'
def uc:=@Int.fdiv_eq_ediv_of_nonneg
def lK:=@Go.IntKind.wrap_u64
def jY:=@Go.IntKind.wrap_i64
def aG:=@congrArg
def m8:=@BitVec.toNat_ofNat
def jZ:=@List.flatMap_cons
def kp:=@List.drop_eq_getElem_cons
def qh:=@Nat.mod_eq_of_lt
def fr:=@List.take_succ_eq_append_getElem
def lL:=@List.getElem?_drop
def rT:=@Nat.add_assoc
def gG:=@Nat.mul_one
def iT:=@List.length_drop
def m9:=@Int.toNat_natCast
def rU:=@Nat.mul_le_mul
def rV:=@Go.beq_toListBytes
def rW:=@Nat.lt_trichotomy
def nV:=@List.getElem?_cons_succ
def rX:=@Array.ext_getElem?
def ud:=@Array.getElem?_eq_none
def na:=@Bool.eq_iff_iff
def ue:=@List.map_congr_left
def g1:=@List.mem_cons
def nb:=@List.getElem?_toArray
def jf:=@List.getElem?_append_right
def iU:=@List.getElem?_append_left
def nc:=@dif_pos
def h7:=@List.take_of_length_le
def fk:=@List.getElem?_eq_some_iff
def oS:=@List.Perm.append_right
def lF:=@List.perm_append_comm
def rC:=@Go.World.putObj_heap_other
def k6:=@List.nodup_cons
def gE:=@List.getElem?_map
def h5:=@List.mem_of_getElem?
def oz:=@List.getElem?_of_mem
def oA:=@List.pairwise_iff_getElem
def mX:=@Go.MapKept.run_getObj_map
def rD:=@Go.MapKept.run_setObj_map
def oB:=@List.ext_getElem?
def pX:=@Array.getElem?_toList
def pY:=@List.getElem?_set
def pZ:=@Go.MapKept.heap_set
def rE:=@Option.getD_none
def rF:=@Option.isSome_none
def me:=@Option.getD_some
def oC:=@Option.isSome_some
def jC:=@List.mem_filter
def iC:=@List.foldl_cons
def oD:=@Nat.zero_mul
def oE:=@List.Perm.refl
def oF:=@List.mem_cons_self
def lG:=@List.mem_cons_of_mem
def kl:=@Bool.not_eq_true'
def dz:=@of_decide_eq_true
def oG:=@Nat.le_of_ble_eq_true
def dM:=@of_decide_eq_false
def nO:=@List.range_succ
def rH:=@List.replicate_succ
def ff:=@List.length_map
def rI:=@List.drop_drop
def mY:=@Nat.min_eq_left
def gj:=@List.take_length
def e4:=@decide_eq_false
def g9:=@List.length_take
def oH:=@decide_eq_decide
def nP:=@decide_eq_false_iff_not
def gd:=@decide_eq_true_eq
def tW:=@List.drop_of_length_le
def mZ:=@List.flatMap_append
def d9:=@List.getElem_mem
def jW:=@List.map_cons
def rJ:=@List.map_nil
def je:=@decide_eq_true
def rK:=@Bool.true_and
def m0:=@Bool.false_and
def iD:=@List.getD_eq_getElem?_getD
def oI:=@List.length_replicate
def rL:=@List.getElem?_replicate
def hQ:=@List.length_mergeSort
def tX:=@List.pairwise_mergeSort
def oJ:=@List.mergeSort_perm
def tY:=@List.map_mergeSort
def g0:=@List.mem_mergeSort
def fw:=@beq_eq_false_iff_ne
def m1:=@List.filter_append
def oK:=@List.length_filter_le
def nQ:=@List.mem_flatMap
def ha:=@Option.isSome_iff_exists
def p0:=@List.Perm.append_left
def p1:=@List.take_append
def tZ:=@List.mem_of_mem_eraseIdx
def m2:=@List.flatten_nil
def ex:=@Nat.le_succ
def p2:=@Nat.succ_le_succ
def p3:=@List.filter_cons
def p4:=@List.exists_of_findSome?_eq_some
def p5:=@Int.toNat_of_nonneg
def rM:=@List.set_cons_zero
def p6:=@List.mem_or_eq_of_mem_set
def hp:=@List.length_set
def rN:=@Int.le_trans
def rO:=@List.any_append
def nR:=@List.foldl_append
def m3:=@List.mem_of_mem_take
def gF:=@Nat.le_add_right
def h6:=@Int.le_refl
def oL:=@List.length_zip
def t3:=@List.dropWhile_cons
def p7:=@List.length_eq_zero_iff
def nS:=@Bool.and_false
def oM:=@List.prefix_refl
def t4:=@List.set_append_right
def t5:=@List.mem_iff_getElem
def p8:=@List.findIdx?_eq_some_iff_getElem
def rP:=@List.getElem_map
def p9:=@Go.Value.slice.injEq
def qa:=@List.getElem?_set_self
def qb:=@List.getElem?_set_ne
def t6:=@List.setIfInBounds_toArray
def t7:=@List.getElem_append_right
def m4:=@Go.DataW.trod_int
def j:=@rfl
def aX:=True.intro
abbrev Env:=List (Nat×Value)
def look:Env->Nat->Option Value
 |[],_=>none
 |(k,v)::r,t=>match Nat.beq k t with
  |true=>some v
  |false=>look r t
def bs(Z:Env):Operand->Option Value
 | .tmp t=>look Z t
 | .const v=>some v
 | .func f=>some (.func (.func f) #[] #[])
 | .global g=>some (.pointer (some ⟨g,0,none⟩))
def fu(Z:Env):List Operand->Option (List Value)
 |[]=>some []
 |x::r=>match bs Z x with
  |some v=>match fu Z r with
   |some U=>some (v::U)
   |none=>none
  |none=>none
structure cK(Z:Env)(n:Nat)(a:Act):Prop where
 size:a.tmps.size=n
 get:∀t v,look Z t=some v->a.tmps[t]? =some v
theorem cK.eval{Z:Env}{n:Nat}{a:Act}(h:cK Z n a){x:Operand}{v:Value}(b:bs Z x=some v):a.eval x=v:=by
 cases x with
 |tmp t=>
  have:=h.get t v b;simp [Act.eval,this]
 |const u=>simpa [bs,Act.eval] using b
 |global g=>simpa [bs,Act.eval] using b
 |func f=>simpa [bs,Act.eval] using b
theorem cK.hv{Z:Env}{n:Nat}{a:Act}(h:cK Z n a):∀{xs:List Operand}{U:List Value},fu Z xs=some U->xs.map a.eval=U:=by
 intro xs;induction xs with
 |nil=>intro U b;simp [fu] at b;simp [b]
 |cons x r e=>
  intro U b;simp only [fu] at b;split at b
  .rename_i v d;split at b
   .rename_i us c;cases b;simp [h.eval d,e c]
   .cases b
  .cases b
theorem iR{k t:Nat}(h:Nat.beq k t=true):k=t:=Nat.eq_of_beq_eq_true h
theorem wB{k t:Nat}(h:Nat.beq k t=false):k≠t:=Nat.ne_of_beq_eq_false h
theorem cK.put{Z:Env}{n:Nat}{a:Act}(h:cK Z n a){d:Nat}(c:Nat.blt d n=true)(v:Value):cK ((d,v)::Z) n (a.put (some d) v):=by
 have e:d<n:=by simpa [Nat.blt_eq] using c
 refine⟨by simp [Act.put,h.size],λt u hu=>?_⟩;simp only [look] at hu;simp only [Act.put,Array.getElem?_setIfInBounds];split at hu
 .rename_i b;cases hu;rw [a6 (iR b)];have:=iR b;subst this;simp [h.size,e]
 .rename_i b;rw [aI (wB b)];exact h.get t u hu
theorem cK.tell{Z:Env}{n:Nat}{a:Act}(h:cK Z n a){d:Nat}{v:Value}(c:look Z d=some v):cK ((d,v)::Z) n a:=by
 refine⟨h.size,λt u hu=>?_⟩;simp only [look] at hu;split at hu
 .rename_i b;cases hu;rw [<-iR b];exact h.get _ _ c
 .exact h.get _ _ hu
def sub(Z:Env):Env->Prop
 |[]=>True
 |(t,v)::r=>look Z t=some v/\sub Z r
theorem sub.look{Z:Env}:∀{a:Env},sub Z a->∀t v,look a t=some v->R.look Z t=some v:=by
 intro a;induction a with
 |nil=>intro _ t v h;simp [R.look] at h
 |cons c r d=>
  intro aM t v h;obtain⟨k,u⟩:=c;simp only [R.look] at h;split at h
  .rename_i b;cases h;rw [<-iR b];exact aM.1
  .exact d aM.2 t v h
theorem cK.wq{Z b:Env}{n:Nat}{a:Act}(h:cK Z n a)(aM:sub Z b):cK b n a:=
 ⟨h.size,λt v c=>h.get t v (aM.look t v c)⟩
abbrev d6:=Exit->Env->World->Prop
structure Fr where
 n:Nat
 r:Option Nat:=none
 m:Bool:=false
 b:Nat:=0
abbrev jU(r:Option Nat):Fence:={Fence.wide with round:=r}
def o0(D:Nat):Deferred:={target:=.collected D,args:= #[]}
def cV(w aK:World):Prop:=∀D:Nat,w.heap[D]? =some (.deferred (some []))->aK.heap[D]? =some (.deferred (some []))
theorem cV.refl(w:World):cV w w:=λ_ h=>h
theorem cV.trans{w a b:World}(h:cV w a)(k:cV a b):cV w b:=λD c=>k D (h D c)
theorem cV.drew(w:World):cV w w.drew:=λ_ h=>h
theorem qH(w:World)(I:Obj){k:Nat}(h:k<w.heap.size):(w.alloc I).heap[k]? =w.heap[k]? :=by
 show(w.heap.push I)[k]? =_;rw [Array.getElem?_push,aI (by omega)]
theorem cV.alloc(w:World)(I:Obj):cV w (w.alloc I):=λD a=>by
 rw [qH w I (gv.1 a).1];exact a
theorem cV.lx{w aK:World}{b:Nat}{I:Obj}(c:w.heap[b]? =some I)(d:I≠.deferred (some []))(aa:∀k,k≠b->aK.heap[k]? =w.heap[k]?):cV w aK:=λD a=>by
 rw [aa D (λe=>d (by subst e;rw [c] at a;exact hB a))];exact a
theorem cV.cells{w aK:World}{b:Nat}{c:Array Value}{e:TypeId}{f:Nat×Nat}(a:w.heap[b]? =some (.cells c e f))(aa:∀k,k≠b->aK.heap[k]? =w.heap[k]?):cV w aK:=cV.lx a (by simp) aa
theorem cV.grown{w aK:World}{b:Nat}{c:Array Value}{e:TypeId}{f:Nat×Nat}(d:w.heap[b]? =some (.cells c e f))(g:∀k,k<w.heap.size->k≠b->aK.heap[k]? =w.heap[k]?):cV w aK:=λD a=>by
 rw [g D (gv.1 a).1 (λh=>by subst h;rw [d] at a;cases a)];exact a
def Marks(F:Fr)(w:World)(c:List Deferred):Prop:=∃a:List Nat,c=a.map o0/\(F.m=false->a=[])/\a.Nodup/\∀D∈a,F.b<=D/\w.heap[D]? =some (.deferred (some []))
theorem Marks.fW{F:Fr}{w aK:World}{a:List Deferred}(h:Marks F w a)(k:cV w aK):Marks F aK a:=by
 obtain⟨d,e,f,g,b⟩:=h;exact⟨d,e,f,g,λD c=>⟨(b D c).1,k D (b D c).2⟩⟩
theorem Marks.nil(F:Fr)(w:World):Marks F w []:=⟨[],j,λ_=>rfl,rS,by simp⟩
def lift(F:Fr)(o:World)(Q:d6):Exit->Act->World->Prop:=λe a w=>cV o w/\Marks F w a.defers/\∃Z,cK Z F.n a/\Q e Z w
theorem lift.from{F:Fr}{o b:World}{Q:d6}(k:cV o b){e:Exit}{a:Act}{w:World}(h:lift F b Q e a w):lift F o Q e a w:=⟨k.trans h.1,h.2⟩
def W(P:Program)(F:Fr)(c:Code)(Z:Env)(w:World)(Q:d6):Prop:=∀a,cK Z F.n a->Marks F w a.defers->c.wpIn (jU F.r) 0 P (lift F w Q) a w
def O(P:Program)(F:Fr)(ops:Array Oper)(todo:List Oper)(Z:Env)(w:World)(Q:d6):Prop:=
 ∀a,cK Z F.n a->Marks F w a.defers->wpListIn (jU F.r) 0 P ops (lift F w Q) todo a w
theorem kZ{F:Fence}{m:Nat}{P:Program}{ops:Array Oper}{Q hM:Exit->Act->World->Prop}(c:∀e a w,Q e a w->hM e a w):∀(l:List Oper)(a:Act)(w:World),wpListIn F m P ops Q l a w->wpListIn F m P ops hM l a w
 |[],a,w,h=>c _ _ _ h
 |I::l,a,w,h=>by
  unfold wpListIn at h⊢;split
  .rename_i hw;rw [a6 hw] at h;refine⟨h.1,?_⟩;have b:=h.2;cases d:(I.semAt F.round a.eval).run P w with
   |ok g i=>
    rw [d] at b
    cases g<;>first
     |exact kZ c l _ _ b
     |exact b
     |exact⟨b.1,lJ b.2 λe f he=>by
      cases e<;>first|exact kZ c l _ _ he|exact c _ _ _ he|exact(let⟨a,w,h⟩:=he;⟨a,w,c _ _ _ h⟩)⟩
     |exact⟨b.1,RowsIn.mono b.2 λu f he=>kZ c l _ _ he⟩
     |exact⟨b.1,qg b.2 λe f he=>by
      cases e<;>first|exact kZ c l _ _ he|exact c _ _ _ he|exact(let⟨a,w,h⟩:=he;⟨a,w,c _ _ _ h⟩)⟩
   |halt j i=>rw [d] at b;cases j<;>first|exact b|exact c _ _ _ b
  .rename_i hw;rw [aI hw] at h;exact⟨h.1,kZ c l _ _ h.2⟩
section
variable {P:Program} {n:Fr} {Z:Env} {w:World} {Q:d6}
theorem wT{c:Code}{hM:d6}(h:W P n c Z w hM)(d:∀e Z w,hM e Z w->Q e Z w):W P n c Z w Q:=
 λa b hm=>kJ (h a b hm) λ_ _ _⟨k,m,i,g,f⟩=>⟨k,m,i,g,d _ _ _ f⟩
theorem lD{ops:Array Oper}{todo:List Oper}(b:Env)(aM:sub Z b)(h:O P n ops todo b w Q):O P n ops todo Z w Q:=λa c hm=>h a (c.wq aM) hm
abbrev AV(P:Program)(n:Fr)(y:Code)(Q:d6):d6:=λe Z w=>match e with
 | .normal=>W P n y Z w Q
 |e=>Q e Z w
theorem wU{x y:Code}(h:W P n x Z w (AV P n y Q)):W P n (.seq x y) Z w Q:=λa d hm=>
 wpIn_seq (kJ (h a d hm) λe a i⟨k,m,g,c,b⟩=>by
  cases e<;>first|exact kJ (b _ c m) (λ_ _ _ f=>lift.from k f)|exact⟨k,m,g,c,b⟩)
theorem B4{x y:Code}(M:Env->World->Prop)
 (h:W P n x Z w (λe Z w=>match e with| .normal=>M Z w|e=>Q e Z w)) (k:∀Z w,M Z w->W P n y Z w Q):W P n (.seq x y) Z w Q:=
 wU (wT h λe Z w a=>by cases e<;>first|exact k _ _ a|exact a)
abbrev vg(id:Nat)(Q:d6):d6:=λe Z w=>match e with
 | .exit i=>match Nat.beq i id with
  |true=>Q .normal Z w
  |false=>Q (.exit i) Z w
 |e=>Q e Z w
theorem B3{id:Nat}{c:Code}(h:W P n c Z w (vg id Q)):W P n (.block id c) Z w Q:=λa j hm=>
 wpIn_block (kJ (h a j hm) λe a w⟨k,m,g,f,b⟩=>by
  cases e<;>try exact⟨k,m,g,f,b⟩
  rename_i i;simp only [vg] at b;simp only [Exit.inBlock];split at b
  ·rename_i d;rw [a6 (iR d)];exact⟨k,m,g,f,b⟩
  ·rename_i d;rw [aI (wB d)];exact⟨k,m,g,f,b⟩)
theorem Ca(h:Q .ret Z w):W P n .ret Z w Q:=λ_ a hm=>wpIn_ret ⟨cV.refl _,hm,Z,a,h⟩
theorem B6{id:Nat}(h:Q (.exit id) Z w):W P n (.exit id) Z w Q:=λ_ a hm=>wpIn_exit ⟨cV.refl _,hm,Z,a,h⟩
theorem tU{c:Operand}{x y:Code}{b:Bool}(e:bs Z c=some (.bool b))(f:b=true->W P n x Z w Q)(bw:b=false->W P n y Z w Q):
 W P n (.cond c x y) Z w Q:=λa d hm=>
 wpIn_cond_split (d.eval e) (λh=>f h a d hm) (λh=>bw h a d hm)
theorem wS{c:Operand}{x y:Code}{b:Bool}(d:bs Z c=some (.bool b))(a:b=true)(e:W P n x Z w Q):
 W P n (.cond c x y) Z w Q:=tU d (λ_=>e) (λh=>by simp [a] at h)
theorem wR{c:Operand}{x y:Code}{b:Bool}(d:bs Z c=some (.bool b))(a:b=false)(bw:W P n y Z w Q):
 W P n (.cond c x y) Z w Q:=tU d (λh=>by simp [a] at h) (λ_=>bw)
theorem IV{F:Fence}{m:Nat}{P:Program}{ct:Type}{c:Code}{Q:Exit->Act->World->Prop}{a:Act}{w:World}(g:ct->Act->World->Prop)(n:ct->Nat)(i:ct)(q:g i a w)
 (round:∀i a w,g i a w->c.wpIn F m P (Exit.then (λa w=>∃J,g J a w/\n J<n i) Q) a w):(Code.loop c).wpIn F m P Q a w:=by
 intro b k cs s o p
 have key:∀m i,n i=m->∀a w,g i a w->∃e h aK,Q e h aK/\ArrivesIn (Machine.fenced P F) P (lone (b.atR a (.code c:: .inLoop c::k)) cs w) b k cs e h aK:=by
  intro m;induction m using Nat.strongRecOn with
  |_ m t=>
   intro i hm a w a1;obtain⟨e,a₁,w₁,f,d⟩:=round i a w a1 b (.inLoop c::k) cs s o p;cases e with
   |normal=>
    obtain⟨J,hI₁,r⟩:=f;obtain⟨e₂,a₂,w₂,hq₂,harr₂⟩:=t (n J) (hm▸r) J j a₁ w₁ hI₁;exact⟨e₂,a₂,w₂,hq₂,.of_steps (StepsIn.trans d (.one (fenced_calm o p j) stepR_inLoop)) harr₂⟩
   |exit id=>exact⟨_,a₁,w₁,f,.pass (x:=.inLoop c) j (λ_ _=>.inl (by simp)) d⟩
   |goto l=>exact⟨_,a₁,w₁,f,.pass (x:=.inLoop c) j (λ_ _=>.inl (by simp)) d⟩
   |ret=>exact⟨_,a₁,w₁,f,.pass (x:=.inLoop c) j (λ_ _=>.inl (by simp)) d⟩
   |panic gM=>exact⟨_,a₁,w₁,f,.pass (x:=.inLoop c) j (λ_ _=>.inl (by simp)) d⟩
   |outgrown=>exact⟨_,a₁,w₁,f,.pass (x:=.inLoop c) j (λ_ _=>.inl (by simp)) d⟩
 obtain⟨e,h,aK,f,d⟩:=key _ i j a w q;exact⟨e,h,aK,f,.of_steps (.one (fenced_calm o p j) stepR_loop) d⟩
theorem B7{ct:Type}{c:Code}(S:ct->Env)(b:ct->World->Prop)(d:ct->Nat)(i:ct)(aM:sub Z (S i))(h:b i w)
 (round:∀i w,b i w->W P n c (S i) w (λe Z w=>match e with
  | .normal=>∃J,sub Z (S J)/\b J w/\d J<d i
  |e=>Q e Z w)):W P n (.loop c) Z w Q:=λa l hm=>by
 refine IV (λJ a aK=>cV w aK/\Marks n aK a.defers/\cK (S J) n.n a/\b J aK) d i ⟨cV.refl _,hm,l.wq aM,h⟩ ?_;intro J a s ⟨aa,hm,o,a1⟩;refine kJ (round J s a1 a o hm) λe a u⟨k,m,t,g,f⟩=>?_
 cases e<;>first
  |exact(let⟨r,p,j,q⟩:=f;⟨r,⟨aa.trans k,m,g.wq p,j⟩,q⟩)
  |exact⟨aa.trans k,m,t,g,f⟩
theorem B9{id:Nat}{l:List Oper}(h:O P n l.toArray l Z w Q):W P n (.region id l.toArray false) Z w Q:=λa b hm=>
 wpIn_region_lit (h a b hm)
theorem an{ops:Array Oper}(h:Q .normal Z w):O P n ops [] Z w Q:=λ_ a hm=>wpListIn_nil ⟨cV.refl _,hm,Z,a,h⟩
def cY(ops:Array Oper)(Z:Env):Option (Nat×Bool)->Option Bool
 |none=>some true
 |some (J,want)=>match ops[J]? with
  |some I=>match I.dst with
   |some d=>match look Z d with
    |some (.bool b)=>some (b==want)
    |some (.tuple _)=>some false
    |_=>none
   |none=>none
  |none=>none
theorem n2{ops:Array Oper}{I:Oper}{a:Act}{b:Bool}{n:Nat}(i:cK Z n a)(e:cY ops Z I.guard=some b):Region.wanted I (yielded ops a.tmps)=b:=by
 unfold cY at e;unfold Region.wanted;split at e
 .rename_i h;rw [h];simpa using e
 .rename_i J want h;rw [h];dsimp only;split at e
  .rename_i fZ k;split at e
   .rename_i d j;split at e
    .rename_i c f;have g:=i.get _ _ f;simp only [yielded,k,Option.bind_some,j,g];simpa using e
    .rename_i c f;have g:=i.get _ _ f;simp only [yielded,k,Option.bind_some,j,g];simpa using e
    .cases e
   .cases e
  .cases e
def cG(Z:Env):Option Nat->Value->Env
 |some d,v=>(d,v)::Z
 |none,_=>Z
def c8(n:Fr):Option Nat->Bool
 |some d=>Nat.blt d n.n
 |none=>true
theorem cK.cG{a:Act}(h:cK Z n.n a){d:Option Nat}(b:c8 n d=true)(v:Value):cK (R.cG Z d v) n.n (a.put d v):=by
 cases d with
 |none=>exact h
 |some d=>exact h.put b v
variable {ops:Array Oper} {rest:List Oper} {I:Oper}
theorem put_defers(a:Act)(d:Option Nat)(v:Value):(a.put d v).defers=a.defers:=by cases d<;>rfl
theorem Marks.put{n:Fr}{w:World}{a:Act}(h:Marks n w a.defers)(d:Option Nat)(v:Value):Marks n w (a.put d v).defers:=by rw [put_defers];exact h
theorem BT(d:cY ops Z I.guard=some false)(c:c8 n I.dst=true)(h:O P n ops rest (cG Z I.dst undef) w Q):O P n ops (I::rest) Z w Q:=λa b hm=>by
 unfold wpListIn;rw [n2 b d];exact⟨λ_ _=>trivial,h _ (b.cG c undef) (hm.put _ _)⟩
theorem dN{v:Value}{aK:World}(f:cY ops Z I.guard=some true)(e:c8 n I.dst=true)
 (i:∀a,cK Z n.n a->(execOp a.eval I).run P w= .ok (.value v) aK) (h:O P n ops rest (cG Z I.dst v) aK Q) (aa:cV w aK:=by exact cV.refl _) (aJ:∀c,I.op≠.defer c:=by intro c d;cases d):O P n ops (I::rest) Z w Q:=λa b hm=>by
 unfold wpListIn;rw [n2 b f];simp only [kq];refine⟨λ_ _=>trivial,?_⟩;rw [nW _ _ _ aJ,i a b];exact kZ (λ_ _ _ g=>lift.from aa g) _ _ _ (h _ (b.cG e v) ((hm.fW aa).put _ _))
theorem tQ{aK:World}(f:cY ops Z I.guard=some true)(e:I.dst=none)
 (i:∀a,cK Z n.n a->(execOp a.eval I).run P w= .ok .skip aK) (h:O P n ops rest Z aK Q) (aa:cV w aK) (aJ:∀c,I.op≠.defer c:=by intro c d;cases d):O P n ops (I::rest) Z w Q:=λa b hm=>by
 unfold wpListIn;rw [n2 b f];simp only [kq];refine⟨λ_ _=>trivial,?_⟩;rw [nW _ _ _ aJ,i a b];simp only [Oper.uponIn,e,Act.put];exact kZ (λ_ _ _ g=>lift.from aa g) _ _ _ (h _ b (hm.fW aa))
def Calls(P:Program)(f:FuncId)(args:Array Value)(w:World)(ag:Value->World->Prop):Prop:=CallsIn Fence.wide 0 P f args w (λe aK=>cV w aK/\∃v,e= .returned v/\ag v aK)
abbrev nM(ag:Value->World->Prop):Value->World->Prop:=ag
theorem Calls.mono{f:FuncId}{args:Array Value}{ag a:Value->World->Prop}(h:Calls P f args w ag)(b:∀v aK,ag v aK->a v aK):Calls P f args w a:=
 lJ h λ_ _⟨k,v,he,h⟩=>⟨k,v,he,b _ _ h⟩
theorem Calls.plain{f:FuncId}{args:Array Value}{ag:Value->World->Prop}(h:Calls P f args w ag):Go.Calls P f args w (λe aK=>∃v,e= .returned v/\ag v aK):=
 callsIn_wide.1 (lJ h λ_ _⟨_,v,he,h⟩=>⟨v,he,h⟩)
theorem wK{f:FuncId}{U:Array Value}{aK:World}{ag:Value->World->Prop}(i:cY ops Z I.guard=some true)(g:c8 n I.dst=true)
 (m:∀a,cK Z n.n a->(execOp a.eval I).run P w= .ok (.enter f U) aK) (d:Calls P f U aK ag)
 (h:∀v aK,ag v aK->O P n ops rest (cG Z I.dst v) aK Q) (aa:cV w aK:=by exact cV.refl _) (aJ:∀c,I.op≠.defer c:=by intro c d;cases d):O P n ops (I::rest) Z w Q:=λa b hm=>by
 unfold wpListIn;rw [n2 b i];simp only [kq];refine⟨λ_ _=>trivial,?_⟩;rw [nW _ _ _ aJ,m a b];rw [Oper.uponIn_enter];refine⟨(λdt=>(by cases dt)),?_⟩;refine lJ (show CallsIn (jU n.r) 0 P f U aK _ from d) λe o⟨k,v,he,l⟩=>?_
 subst he;exact kZ (λ_ _ _ j=>lift.from (aa.trans k) j) _ _ _ (h v o l _ (b.cG g v) ((hm.fW (aa.trans k)).put _ _))
theorem cT(d:Nat){b:Bool}(e:look Z d=some (.bool b))(f:b=true->O P n ops rest ((d,.bool true)::Z) w Q)(bw:b=false->O P n ops rest ((d,.bool false)::Z) w Q):
 O P n ops rest Z w Q:=λa c hm=>by
 cases b with
 |true=>exact f j a (c.tell e) hm
 |false=>exact bw j a (c.tell e) hm
theorem bS(d:Nat){u:Value}(v:Value)(c:look Z d=some u)(e:u=v)(h:O P n ops rest ((d,v)::Z) w Q):O P n ops rest Z w Q:=λa b hm=>
 h a (b.tell (e▸c)) hm
end
def q1(Z:Env)(rs:Array ResultVar):Option Value:=match rs.toList with
 |[]=>some (.tuple #[])
 |[.tmp t]=>look Z t
 |[.tmp t,.tmp u]=>match look Z t,look Z u with
  |some x,some y=>some (.tuple #[x,y])
  |_,_=>none
 |[.tmp t,.tmp u,.tmp s]=>match look Z t,look Z u,look Z s with
  |some x,some y,some z=>some (.tuple #[x,y,z])
  |_,_,_=>none
 |_=>none
theorem i8{Z:Env}{n:Nat}{a:Act}(c:cK Z n a){fn:Func}{v:Value}(h:q1 Z fn.results=some v)(P:Program)(w:World):(results fn a.tmps).run P w= .ok v w:=by
 have d:∀l,fn.results.toList=l->fn.results=l.toArray:=λl h=>by rw [<-h,tV]
 unfold q1 at h;split at h
 .rename_i b;have:=d _ b;cases h;simp [results,this]
 .rename_i t b;have g:=c.get _ _ h;have:=d _ b;simp [results,this,g]
 .rename_i t u b;have:=d _ b;split at h
  .rename_i x y e f;cases h;simp [results,this,c.get _ _ e,c.get _ _ f]
  .cases h
 .rename_i t u s b;have:=d _ b;split at h
  .rename_i x y z e f i;cases h;simp [results,this,c.get _ _ e,c.get _ _ f,c.get _ _ i]
  .cases h
 .cases h
abbrev Leaves(rs:Array ResultVar)(ag:Value->World->Prop):d6:=λe Z w=>match e with
 | .normal=>∃v,q1 Z rs=some v/\ag v w
 | .ret=>∃v,q1 Z rs=some v/\ag v w
 |_=>False
def jK:Nat->List Value->Env
 |_,[]=>[]
 |i,v::r=>(i,v)::jK (i+1) r
theorem D6:∀(U:List Value)(i t:Nat)(v:Value),look (jK i U) t=some v->i<=t/\U[t-i]? =some v:=by
 intro U;induction U with
 |nil=>intro i t v h;simp [jK,look] at h
 |cons x r c=>
  intro i t v h;simp only [jK,look] at h;split at h
  .rename_i b;have:=iR b;subst this;cases h;simp
  .obtain⟨d,a⟩:=c (i+1) t v h;refine⟨by omega,?_⟩;rw [show t-i=(t-(i+1))+1 by omega];simpa using a
theorem uQ{fn:Func}{l:List Value}{n:Nat}(aJ:fn.ntmps=n)(d:l.length<=n):cK (jK 0 l) n {tmps:=l.toArray++Array.replicate (fn.ntmps-l.toArray.size) undef,defers:=[]}:=by
 refine⟨by simp [aJ];omega,λt v c=>?_⟩;obtain⟨_,a⟩:=D6 l 0 t v c
 have b:t<l.length:=by
  rcases rG t l.length with h|h
  .exact h
  .simp [lH h] at a
 rw [Array.getElem?_append_left (by simpa using b)];simpa using a
theorem De{P:Program}{f:FuncId}{fn:Func}{c:Code}{l:List Value}{w:World}{ag:Value->World->Prop}{n:Nat}{rs:Array ResultVar}
 (bw:P.funcs[f]? =some fn) (p:fn.body=some c) (aJ:fn.ntmps=n) (m:fn.results=rs) (q:l.length<=n)
 (h:W P {n:=n} c (jK 0 l) w (Leaves rs ag)):Calls P f l.toArray w (nM ag):=by
 refine callsIn_of_wp (F:=Fence.wide) bw p aX ?_;refine kJ (h _ (uQ aJ q) (Marks.nil _ _)) ?_;rintro e a aK ⟨aa,⟨t,r,s,_,_⟩,u,o,b⟩;have k:a.defers=[]:=by rw [r,s j];rfl
 cases e with
 |normal=>obtain⟨v,g,d⟩:=b;exact⟨k,v,i8 o (m▸g) P aK,aa,v,j,d⟩
 |ret=>obtain⟨v,g,d⟩:=b;exact⟨k,v,i8 o (m▸g) P aK,aa,v,j,d⟩
 |exit i=>exact b.elim
 |goto l=>exact b.elim
 |panic gM=>exact b.elim
 |outgrown=>exact b.elim
abbrev Chunk:=Nat×Obj
def av(ad:List (List Chunk)):List Nat:=ad.flatten.map (·.1)
structure C(o:World)(F:List Nat)(ad:List (List Chunk))(w:World):Prop where
 os:w.os=o.os
 tape:w.tape=o.tape
 output:w.output=o.output
 size:o.heap.size<=w.heap.size
 fW:∀k,k<o.heap.size->k∉F->w.heap[k]? =o.heap[k]?
 here:∀c∈ad.flatten,w.heap[c.1]? =some c.2
 nodup:(av ad).Nodup
 own:∀b∈av ad,b∈F\/o.heap.size<=b
 plain:∀c∈ad.flatten,c.2≠Obj.deferred (some [])
theorem C.start(w:World):C w [] [] w:=⟨j,j,j,cI _,λ_ _ _=>rfl,by simp,by simp [av],by simp [av],by simp⟩
abbrev Own(ad:List (List Chunk))(w:World):Prop:=C w (av ad) ad w
section
variable {o w aK:World} {F:List Nat} {A B bb ad:List (List Chunk)} {G ai aA bl cv cd bX:List Chunk}
theorem C.perm(h:C o F A w)(a:A.flatten.Perm B.flatten):C o F B w:=
 ⟨h.os,h.tape,h.output,h.size,h.fW,λc d=>h.here c (a.mem_iff.2 d),(List.Perm.nodup_iff (List.Perm.map (λc:Chunk=>c.1) a)).1 h.nodup,λb e=>h.own b ((List.Perm.mem_iff (List.Perm.map (λc:Chunk=>c.1) a)).2 e),λc d=>h.plain c (a.mem_iff.2 d)⟩
theorem C.jm(h:C o F A w)(a:A.Perm B):C o F B w:=h.perm a.flatten
theorem C.f1(h:C o F (ai::aA::ad) w):C o F (aA::ai::ad) w:=h.jm (.swap ..)
theorem C.f2(h:C o F (ai::aA::bl::ad) w):C o F (bl::ai::aA::ad) w:=
 h.jm (((List.Perm.swap bl aA ad).cons ai).trans (.swap ..))
theorem C.f3(h:C o F (ai::aA::bl::cv::ad) w):C o F (cv::ai::aA::bl::ad) w:=
 h.jm (((((List.Perm.swap cv bl ad).cons aA).trans (.swap ..)).cons ai).trans (.swap ..))
theorem C.f4(h:C o F (ai::aA::bl::cv::cd::ad) w):C o F (cd::ai::aA::bl::cv::ad) w:=
 h.jm (((((((List.Perm.swap cd cv ad).cons bl).trans (.swap ..)).cons aA).trans (.swap ..)).cons ai).trans (.swap ..))
theorem C.f5(h:C o F (ai::aA::bl::cv::cd::bX::ad) w):C o F (bX::ai::aA::bl::cv::cd::ad) w:=
 h.jm (((((((((List.Perm.swap bX cd ad).cons cv).trans (.swap ..)).cons bl).trans (.swap ..)).cons aA).trans (.swap ..)).cons ai).trans (.swap ..))
theorem C.split(h:C o F ((ai++aA)::ad) w):C o F (ai::aA::ad) w:=h.perm (by simp)
theorem C.join(h:C o F (ai::aA::ad) w):C o F ((ai++aA)::ad) w:=h.perm (by simp)
theorem C.empty(h:C o F ad w):C o F ([]::ad) w:=h.perm (by simp)
theorem C.drop(h:C o F (G::ad) w):C o F ad w:=by
 refine⟨h.os,h.tape,h.output,h.size,h.fW,λc a=>h.here c (by simp only [km,dv];exact .inr a),?_,λb d=>h.own b (by simp only [av,List.flatten_cons,List.map_append,List.mem_append];exact .inr d),λc a=>h.plain c (by simp only [List.flatten_cons,List.mem_append];exact .inr a)⟩;have:=h.nodup;simp only [av,km,jD] at this;exact(iE.1 this).2.1
theorem C.below(h:C o [] ad w):Below o.heap.size o w:=⟨h.os,h.tape,h.output,h.size,λk aa=>h.fW k aa (by simp)⟩
theorem C.oW{c:Chunk}(h:C o F ad w)(a:c∈ad.flatten):c.1<w.heap.size:=by
 have:=h.here c a;exact(gv.1 this).1
theorem n8{b:Nat}:b∈av ad↔∃I,(b,I)∈ad.flatten:=by
 simp only [av,dV];constructor
 .rintro⟨⟨a,I⟩,hm,rfl⟩;exact⟨I,hm⟩
 .rintro⟨I,hm⟩;exact⟨(b,I),hm,j⟩
theorem C.sub(h:C o F (A++B) w):Own A w:=by
 refine⟨j,j,j,cI _,λ_ _ _=>rfl,λc a=>h.here c (by simp only [hb,List.mem_append];exact .inl a),?_,λb d=>.inl d,λc a=>h.plain c (by simp only [List.flatten_append,List.mem_append];exact .inl a)⟩;have:=h.nodup;simp only [av,hb,List.map_append] at this;exact(iE.1 this).1
theorem C.j9(h:C o F (ai::ad) w):Own [ai] w:=C.sub (A:=[ai]) (B:=ad) h
theorem C.cF(h:C o F (ai::aA::ad) w):Own [ai,aA] w:=C.sub (A:=[ai,aA]) (B:=ad) h
theorem C.after(h:C o F (A++B) w)(k:C w (av A) bb aK):C o F (bb++B) aK:=by
 have n:=h.nodup;simp only [av,hb,List.map_append] at n;have f:=iE.1 n
 have p:∀c∈B.flatten,aK.heap[c.1]? =some c.2:=by
  intro c a;have m:c∈(A++B).flatten:=by simp only [hb,List.mem_append];exact .inr a
  rw [k.fW c.1 (h.oW m) (λd=>f.2.2 c.1 d c.1 (dV.2 ⟨c,a,j⟩) j)];exact h.here c m
 have g:∀b∈av bb,b∈av A\/w.heap.size<=b:=k.own;refine⟨k.os.trans h.os,k.tape.trans h.tape,k.output.trans h.output,ek h.size k.size,?_,?_,?_,?_,?_⟩
 .intro b d i;rw [k.fW b (t8 d h.size) ?_]
  .exact h.fW b d i
  .intro q;have r:b∈av (A++B):=by simp only [av,hb,List.map_append,List.mem_append];exact .inl q
   rcases h.own b r with e|e
   .exact i e
   .omega
 .intro c a;simp only [hb,List.mem_append] at a;rcases a with a|a
  .exact k.here c a
  .exact p c a
 .simp only [av,hb,List.map_append];refine iE.2 ⟨k.nodup,f.2.1,?_⟩;rintro b d s l rfl;rcases g b d with e|e
  .exact f.2.2 b e b l j
  .obtain⟨c,a,rfl⟩:=dV.1 l;have:=h.oW (c:=c) (by simp only [hb,List.mem_append];exact .inr a);omega
 .intro b d;simp only [av,hb,List.map_append,List.mem_append] at d;rcases d with d|d
  .rcases g b d with e|e
   .exact h.own b (by simp only [av,hb,List.map_append,List.mem_append];exact .inl e)
   .have:=h.size;exact .inr (by omega)
  .exact h.own b (by simp only [av,hb,List.map_append,List.mem_append];exact .inr d)
 .intro c a;simp only [hb,List.mem_append] at a;rcases a with a|a
  .exact k.plain c a
  .exact h.plain c (by simp only [hb,List.mem_append];exact .inr a)
theorem C.aL(h:C o F ad w)(k:C w [] bb aK):C o F (bb++ad) aK:=C.after (A:=[]) h k
theorem C.iw(h:C o F (ai::ad) w)(k:C w (av [ai]) bb aK):C o F (bb++ad) aK:=C.after (A:=[ai]) h k
theorem C.cD(h:C o F (ai::aA::ad) w)(k:C w (av [ai,aA]) bb aK):C o F (bb++ad) aK:=C.after (A:=[ai,aA]) h k
def Rd(w:World)(A:Option Addr)(U:List Value):Prop:=∀i v,U[i]? =some v->∃a,A=some a/\w.cell? (a.add i)=some v
def bT(A:Option Addr)(U:List Value)(F:List Nat):Prop:=U≠[]->∀a,A=some a->a.block∉F
@[simp] theorem wY(a:Addr)(i:Nat):(a.add i).block=a.block:=by unfold Addr.add;split<;>rfl
theorem Rd.cell{w:World}{b:Addr}{U:List Value}{J:Nat}{v:Value}(h:Rd w (some b) U)(e:U[J]? =some v):w.cell? (b.add J)=some v:=by
 obtain⟨a,c,d⟩:=h J v e;cases c;exact d
theorem Rd.nil(w:World)(A:Option Addr):Rd w A []:=λi v h=>by simp at h
theorem Rd.lt{A:Option Addr}{U:List Value}(h:Rd w A U)(f:U≠[]){a:Addr}(d:A=some a):a.block<w.heap.size:=by
 cases U with
 |nil=>exact(f j).elim
 |cons v r=>
  obtain⟨b,c,e⟩:=h 0 v (by simp);rw [d] at c;cases c;have:=World.block_lt_of_cell? w _ e;simpa using this
theorem C.rd{A:Option Addr}{U:List Value}(h:C o F ad w)(f:Rd o A U)(d:bT A U F):Rd w A U:=λi v c=>by
 obtain⟨a,rfl,b⟩:=f i v c;have e:U≠[]:=by rintro rfl;simp at c
 refine⟨a,j,?_⟩;rw [World.cell?_of_block (w:=o) (h.fW _ (by have:=World.block_lt_of_cell? o _ b;simpa using this) (by simpa using d e a j))];exact b
theorem bT.of_nil(A:Option Addr)(U:List Value):bT A U []:=λ_ _ _=>by simp
theorem C.apart{A:Option Addr}{U:List Value}(h:C o F ad w)(g:Rd o A U)(e:bT A U F):bT A U (av ad):=λd a c f=>by
 have i:=g.lt d c;rcases h.own _ f with b|b
 .exact e d a c b
 .omega
theorem bT.sub{A:Option Addr}{U:List Value}{eL:List Nat}(h:bT A U F)(aM:∀b∈eL,b∈F):bT A U eL:=λe a c d=>h e a c (aM _ d)
theorem bT.kX{A:Option Addr}{U f:List Value}{eL:List Nat}(h:bT A U F)(e:U≠[])(aM:∀b∈eL,b∈F):bT A f eL:=λ_ a c d=>h e a c (aM _ d)
theorem o9:av (G::ad)=av [G]++av ad:=by simp [av]
theorem C.iX{b:Nat}{I:Obj}{off:Nat}{sp:Option Nat}{U:List Value}(h:C o F ([(b,I)]::ad) w):bT (some ⟨b,off,sp⟩) U (av ad):=λ_ a c d=>by
 cases c;have:=h.nodup;rw [o9] at this;exact(iE.1 this).2.2 b (by simp [av]) b d j
theorem C.first{b:Nat}{I:Obj}(h:C o F ([(b,I)]::ad) w):w.heap[b]? =some I:=h.here (b,I) (by simp)
theorem C.cell{b:Nat}{c:Array Value}{e:TypeId}{e6:Nat×Nat}{off:Nat}{v:Value}(h:C o F ([(b,.cells c e e6)]::ad) w)(a:c[off]? =some v):w.cell? ⟨b,off,none⟩=some v:=by
 simp [World.cell?,h.first,a]
theorem add_lit(b off i:Nat):(⟨b,off,none⟩:Addr).add i=⟨b,off+i,none⟩:=by unfold Addr.add;split<;>simp_all
theorem C.ij{b:Nat}{c:Array Value}{e:TypeId}{e6:Nat×Nat}{off:Nat}{U:List Value}(h:C o F ([(b,.cells c e e6)]::ad) w)
 (a:∀i v,U[i]? =some v->c[off+i]? =some v):Rd w (some ⟨b,off,none⟩) U:=λi v d=>⟨_,j,by rw [add_lit];exact h.cell (a i v d)⟩
theorem C.bz{b:Nat}{c:Array Value}{e:TypeId}{e6:Nat×Nat}(h:C o F ([(b,.cells c e e6)]::ad) w):Rd w (some ⟨b,0,none⟩) c.toList:=
 h.ij (λi v a=>by simpa using a)
theorem Ez{b:Nat}{c:Array Value}{e:TypeId}{e6:Nat×Nat}(a:w.heap[b]? =some (.cells c e e6))(off:Nat)(v:Value):
 (w.setCell ⟨b,off,none⟩ v).heap[b]? =some (.cells (c.setIfInBounds off v) e e6):=by
 simp [World.setCell,rQ,a]
theorem va(a:Addr)(v:Value){k:Nat}(aa:k≠a.block):(w.setCell a v).heap[k]? =w.heap[k]? :=by
 simp only [World.setCell,rQ];rw [aI (by omega)]
theorem C.lx{b:Nat}{I fZ:Obj}(h:C o F ([(b,I)]::ad) w)(g:aK.os=w.os)(j:aK.tape=w.tape)(i:aK.output=w.output)(aM:aK.heap.size=w.heap.size)
 (d:aK.heap[b]? =some fZ) (aa:∀k,k≠b->aK.heap[k]? =w.heap[k]?) (f:fZ≠Obj.deferred (some []):=by simp):C o F ([(b,fZ)]::ad) aK:=by
 refine C.iw (bb:=[[(b,fZ)]]) h ⟨g,j,i,by omega,λk _ e=>aa k (by simpa [av] using e),?_,by simp [av],λk aa=>.inl (by simpa [av] using aa),by intro c a;simp at a;subst a;exact f⟩;intro c a;simp at a;subst a;exact d
theorem C.setCell{b:Nat}{c:Array Value}{e:TypeId}{e6:Nat×Nat}(h:C o F ([(b,.cells c e e6)]::ad) w)(off:Nat)(v:Value):
 C o F ([(b,.cells (c.setIfInBounds off v) e e6)]::ad) (w.setCell ⟨b,off,none⟩ v):=
 h.lx j j j (by simp [World.setCell]) (Ez h.first off v) (λ_ aa=>va _ v aa)
theorem fI{ad fz:List (List Chunk)}(h:∀G∈fz,G∈ad):∀b∈av fz,b∈av ad:=λb c=>by
 obtain⟨I,e⟩:=n8.1 c;obtain⟨G,a,d⟩:=List.mem_flatten.1 e;exact n8.2 ⟨I,List.mem_flatten.2 ⟨G,h G a,d⟩⟩
theorem C.alloc(h:C o F ad w)(I:Obj)(b:I≠Obj.deferred (some []):=by simp):C o F ([(w.heap.size,I)]::ad) (w.alloc I):=by
 refine C.aL (bb:=[[(w.heap.size,I)]]) h ⟨j,j,j,by simp,λk aa _=>qH w I aa,?_,by simp [av],λk aa=>.inr (by simp [av] at aa;omega),by intro c a;simp at a;subst a;exact b⟩;intro c a;simp at a;subst a;exact heap_alloc_new w I
theorem C.drew(h:C o F ad w):C o F ad w.drew:=⟨h.os,h.tape,h.output,h.size,h.fW,h.here,h.nodup,h.own,h.plain⟩
theorem C.grown{b:Nat}{I fZ:Obj}(h:C o F ([(b,I)]::ad) w)(d:w.grownBy aK (some b))(f:aK.heap[b]? =some fZ)(g:fZ≠Obj.deferred (some []):=by simp):C o F ([(b,fZ)]::ad) aK:=by
 refine C.iw (bb:=[[(b,fZ)]]) h ⟨d.os,d.tape,d.output,d.size,λk aa e=>d.block k aa (by simp [av] at e;simpa using e),?_,by simp [av],λk aa=>.inl (by simpa [av] using aa),by intro c a;simp at a;subst a;exact g⟩;intro c a;simp at a;subst a;exact f
end
def Row(e:TypeId)(size:Nat)(v:Value)(n:Nat)(xs:List Value)(G:List Chunk):Prop:=
 xs.length=n*size/\
 ((v= .slice none 0 0/\n=0/\G=[])\/
  ∃g cap cur,v= .slice (some ⟨g,0,none⟩) n cap/\G=[(g,.cells cur e (0,0))]/\n<=cap/\cap<=maxLen/\cap*size<=cur.size/\cur.toList.take (n*size)=xs)
theorem Row.nil(e:TypeId)(size:Nat):Row e size (.slice none 0 0) 0 [] []:=⟨by simp,.inl ⟨j,j,j⟩⟩
section
variable {o w aK:World} {F:List Nat} {ad:List (List Chunk)} {G:List Chunk} {e:TypeId} {size:Nat} {v:Value} {n:Nat} {xs:List Value}
theorem Row.form(h:Row e size v n xs G):∃A c,v= .slice A n c/\n<=c/\c<=maxLen:=by
 rcases h.2 with⟨rfl,rfl,_⟩|⟨g,cap,cur,rfl,_,a,b,_⟩
 .exact⟨none,0,j,cI _,by simp [maxLen]⟩
 .exact⟨_,_,j,a,b⟩
theorem Row.one(h:Row e size v n xs G):v.oneCell'=true:=by
 obtain⟨A,c,rfl,_⟩:=h.form;rfl
theorem Row.rd(h:Row e size v n xs G)(a:C o F (G::ad) w):∃A c,v= .slice A n c/\n<=c/\c<=maxLen/\Rd w A xs/\bT A xs (av ad):=by
 rcases h.2 with⟨rfl,rfl,rfl⟩|⟨g,cap,cur,rfl,rfl,b,d,_,f⟩
 .have:xs=[]:=mf (by simpa using h.1);subst this;exact⟨none,0,j,cI _,by simp [maxLen],Rd.nil _ _,λk=>(k j).elim⟩
 .refine⟨_,_,j,b,d,a.ij (λi u hu=>?_),a.iX⟩;rw [<-f,jE] at hu;split at hu
  .simpa using hu
  .cases hu
theorem Row.made{b cap:Nat}{cur:Array Value}(hm:cap<=maxLen)(aM:cap*size<=cur.size):Row e size (.slice (some ⟨b,0,none⟩) 0 cap) 0 [] [(b,.cells cur e (0,0))]:=
 ⟨by simp,.inr ⟨b,cap,cur,j,j,b4 _,hm,aM,by simp⟩⟩
theorem Row.full{b n:Nat}{cur:Array Value}(hm:n<=maxLen)(aM:cur.size=n*size):Row e size (.slice (some ⟨b,0,none⟩) n n) n cur.toList [(b,.cells cur e (0,0))]:=
 ⟨by simpa using aM,.inr ⟨b,n,cur,j,j,Nat.le_refl _,hm,Nat.le_of_eq aM.symm,by rw [List.take_of_length_le (by simp [aM])]⟩⟩
theorem C.setRow{b:Nat}{c a:Array Value}{t:TypeId}{e6:Nat×Nat}(h:C o F ([(b,.cells c t e6)]::ad) w):C o F ([(b,.cells a t e6)]::ad) (w.setRow b a):=
 h.lx j j j (by simp [World.setRow]) (setRow_heap w b c a t e6 h.first) (λk aa=>setRow_other w b k a aa)
theorem s9(z:Array Value)(n:Nat):(Builtin.zeroCells z n).size=n*z.size:=by simp [Builtin.zeroCells]
theorem Row.append{P:Program}(t ty:TypeId)(i:TypeInfo)(z:Value)(bytes:Nat)(s:P.underlying t=some (.slice e))(p:P.info? e=some i)(N:i.zero=some z)
 (Z:i.size=size) (U:i.bytes=bytes) (af:z.cells.size=size) (ab:0<size)
 (f:C o F (G::ad) w) (h:Row e size v n xs G) {A:Option Addr} {m c:Nat} {news:List Value} (d:news.length=m*size) (M:Rd w A news) (R:∀u∈news,u.oneCell'=true)
 (K:n+m<=maxLen) (L:(n+m)*bytes<=140737488355328):
 ∃O aK I,(Builtin.append_ #[t,t] ty #[v,.slice A m c]).run P w= .ok O aK/\Row e size O (n+m) (xs++news) I/\C o F (I::ad) aK/\cV w aK:=by
 subst Z;subst U;have ai:n+m<=9223372036854775807:=by simp only [maxLen] at K;omega
 have hlen:(xs++news).length=(n+m)*i.size:=by rw [b0,h.1,d,Nat.add_mul]
 have new:∀cc,C o F ([(w.heap.size,.cells (xs.toArray++news.toArray++Builtin.zeroCells z.cells (grownCap w (n+m) cc e-(n+m))) e (0,0))]::ad)
  (w.drew.alloc (.cells (xs.toArray++news.toArray++Builtin.zeroCells z.cells (grownCap w (n+m) cc e-(n+m))) e))/\
  Row e i.size (.slice (some ⟨w.heap.size,0,none⟩) (n+m) (grownCap w (n+m) cc e)) (n+m) (xs++news) [(w.heap.size,.cells (xs.toArray++news.toArray++Builtin.zeroCells z.cells (grownCap w (n+m) cc e-(n+m))) e (0,0))]:=by
  intro cc;have X:=grownCap_ge w (n+m) cc e;have D:grownCap w (n+m) cc e<=maxLen:=grownCap_le_maxLen w (n+m) cc e K;refine⟨f.drop.drew.alloc _,hlen,.inr ⟨_,_,_,j,j,X,D,?_,?_⟩⟩
  .simp only [Array.size_append,List.size_toArray,s9,af,h.1,d,<-Nat.add_mul];exact kn _ (by omega)
  .simp only [t9,List.append_assoc];rw [<-dJ,<-hlen];exact mg
 cases A with
 |none=>
  have aJ:news=[]:=by
   cases news with
   |nil=>rfl
   |cons u r=>obtain⟨a,T,_⟩:=M 0 u (by simp);cases T
  subst aJ
  have hm:m=0:=by
   rcases rR m with h|h
   .exact h
   .have:=Nat.mul_pos h ab;simp at d;omega
  subst hm;refine⟨v,w,G,?_,by simpa using h,f,cV.refl _⟩;obtain⟨gY,Q,rfl,V,_⟩:=h.form;cases gY<;>simp [Builtin.append_,d8 s,sizeOf,typeInfo,p,Builtin.lenOf,Builtin.firstCells,V,storeCells]
 |some a=>
  have E:∀J u,news[J]? =some u->w.cell? (a.add J)=some u:=λJ u hu=>by
   obtain⟨b,l,B⟩:=M J u hu;cases l;exact B
  rcases h.2 with⟨rfl,rfl,rfl⟩|⟨g,cap,cur,rfl,rfl,ah,D,ag,ac⟩
  .have ae:xs=[]:=mf (by simpa using h.1);subst ae;by_cases hm:m=0
   .subst hm;have aJ:news=[]:=mf (by simpa using d);subst aJ;refine⟨.slice none 0 0,w,[],?_,Row.nil e i.size,f,cV.refl _⟩;simp [Builtin.append_,d8 s,sizeOf,typeInfo,p,Builtin.lenOf,Builtin.firstCells,loadCells,loadCellsFrom]
   .have q:=run_append_nil (P:=P) w t ty e i z s p N a m c news d E (by omega) (by omega) (by have l:=L;simp only [fj] at l;omega);obtain⟨x,y⟩:=new 0;simp only [fj,kI,Array.empty_append] at x y⊢;exact⟨_,_,_,q,y,x,cV.alloc _ _⟩
  .by_cases H:n+m<=cap
   .have W:n*i.size+news.length<=cur.size:=by
     have:=kn i.size H;rw [d,<-m5];omega
    have q:=run_append_room (P:=P) w t ty e i s p g n cap cur f.first a m c news d E R H W;refine⟨_,_,_,q,⟨hlen,.inr ⟨g,cap,_,j,j,H,D,?_,?_⟩⟩,f.setRow,cV.cells f.first (λk aa=>setRow_other w g k _ aa)⟩
    .simp only [hA,b0,List.length_take,List.length_drop,Array.length_toList];omega
    .rw [ac,<-hlen];exact mg
   .obtain⟨gY,Q,S,_,_,Y,_⟩:=h.rd f;cases S
    have holds:∀J u,xs[J]? =some u->w.cell? ((⟨g,0,none⟩:Addr).add J)=some u:=λJ u hu=>by
     obtain⟨b,l,B⟩:=Y J u hu;cases l;exact B
    have q:=run_append_grow (P:=P) w t ty e i z s p N ⟨g,0,none⟩ n cap xs h.1 holds a m c news d E (by omega) (by omega) (growslice_fits (by omega) L);obtain⟨x,y⟩:=new cap;exact⟨_,_,_,q,y,x,cV.alloc _ _⟩
end
def B1(w:World)(A:Option Addr)(rows:List (List Value))(F:List Nat):Prop:=
 ∃U:List Value,U.length=rows.length/\Rd w A U/\bT A U F/\∀(i:Nat)(xs:List Value),rows[i]? =some xs->∃(a:Option Addr)(ci:Nat),U[i]? =some (Value.slice a xs.length ci)/\Rd w a xs/\bT a xs F
theorem Row.set{e:TypeId}{g n cap:Nat}{cur:Array Value}{xs:List Value}(h:Row e 1 (.slice (some ⟨g,0,none⟩) n cap) n xs [(g,.cells cur e (0,0))])(J:Nat)(u:Value):
 Row e 1 (.slice (some ⟨g,0,none⟩) n cap) n (xs.set J u) [(g,.cells (cur.setIfInBounds J u) e (0,0))]:=by
 obtain⟨b,c⟩:=h;refine⟨by simpa using b,?_⟩;rcases c with⟨a,_,_⟩|⟨p,m,o,a,l,d,f,i,k⟩
 .cases a
 .cases a;cases l;refine .inr ⟨g,cap,_,j,j,d,f,by simpa using i,?_⟩;rw [<-k];simp [List.take_set]
class bA(P:Program)(t:TypeId)(d:outParam TypeDesc):Prop where
 h:P.underlying t=some d
class cm(P:Program)(t:TypeId)(z:outParam Value)(size bytes:outParam Nat):Prop where
 h:(P.info? t).map (λi=>(i.zero,i.size,i.bytes))=some (some z,size,bytes)
class Entry(P:Program)(f:FuncId):Prop where
 h:∃fn,P.funcs[f]? =some fn/\(fn.name== "runtime.NumGoroutine")=false/\fn.body.isNone=false
class pI(P:Program)(s:TypeId)(f:Nat)(off:outParam Nat):Prop where
 h:∃gN ld,P.underlying s=some (.struct gN)/\gN[f]? =some ld/\ld.offset=off/\((P.info? ld.type).map (·.size)).any (·!=0)=true
theorem cm.parts{P:Program}{t:TypeId}{z:Value}{size bytes:Nat}(h:cm P t z size bytes):∃i,P.info? t=some i/\i.zero=some z/\i.size=size/\i.bytes=bytes:=by
 have:=h.h;cases a:P.info? t with
 |none=>simp [a] at this
 |some i=>simp [a] at this;exact⟨i,j,this⟩
theorem Hp{P:Program}{t e:TypeId}(hu:P.underlying t=some (.pointer e))(p:Option Addr)(w:World)(d:Nat):(Op.equalIn (d+1) t (.pointer p) (.pointer none)).run P w= .ok p.isNone w:=by
 cases p<;>(simp only [Op.equalIn,dS,d8 hu,dZ];rfl)
theorem Ar{P:Program}{t e:TypeId}(hu:P.underlying t=some (.pointer e))(p:Option Addr)(w:World):(Op.equal t (.pointer p) (.pointer none)).run P w= .ok p.isNone w:=
 Hp hu p w 9999
theorem Hq{P:Program}{t e:TypeId}(hu:P.underlying t=some (.slice e))(p:Option Addr)(l c bY a:Nat)(w:World)(d:Nat):(Op.equalIn (d+1) t (.slice p l c) (.slice none bY a)).run P w= .ok p.isNone w:=by
 cases p<;>(simp only [Op.equalIn,dS,d8 hu,dZ];rfl)
theorem Hs{P:Program}{t e:TypeId}(hu:P.underlying t=some (.slice e))(p:Option Addr)(l c bY a:Nat)(w:World):(Op.equal t (.slice p l c) (.slice none bY a)).run P w= .ok p.isNone w:=
 Hq hu p l c bY a w 9999
theorem eval_const(a:Act)(v:Value):a.eval (.const v)=v:=rfl
theorem C3(t:TypeId)(x y:Operand)(p q:Option Addr):(do eqGuard .eql t x y (.pointer p) (.pointer q);binOp .eql t (.pointer p) (.pointer q))=(do pure (.bool (<-Op.equal t (.pointer p) (.pointer q))):Sem Value):=by
 cases p<;>cases q<;>rfl
theorem C5(t:TypeId)(x y:Operand)(p q:Option Addr):(do eqGuard .neq t x y (.pointer p) (.pointer q);binOp .neq t (.pointer p) (.pointer q))=(do pure (.bool (!(<-Op.equal t (.pointer p) (.pointer q)))):Sem Value):=by
 cases p<;>cases q<;>rfl
theorem C4(t:TypeId)(x y:Operand)(p q:Option Addr)(l c bY a:Nat):(do eqGuard .eql t x y (.slice p l c) (.slice q bY a);binOp .eql t (.slice p l c) (.slice q bY a))=(do pure (.bool (<-Op.equal t (.slice p l c) (.slice q bY a))):Sem Value):=rfl
section
variable {P:Program} {n:Fr} {Z:Env} {w:World} {Q:d6} {ops:Array Oper} {rest:List Oper}
 {dst:Option Nat} {ty:TypeId} {pos:String} {after:Array Edge} {g:Option (Nat×Bool)}
theorem wF{x:Operand}{v:Value}(d:cY ops Z g=some true)(c:c8 n dst=true)(e:bs Z x=some v)
 (h:O P n ops rest (cG Z dst v) w Q):O P n ops (⟨dst,.assign x,ty,pos,after,g⟩::rest) Z w Q:=
 dN d c (λa b=>by simp [execOp,b.eval e]) h
def evalBin(op:BinOp)(k:IntKind)(x y:Int):Option Value:=
 match op with
 | .add=>some (.int k (k.wrap (x+y)))
 | .sub=>some (.int k (k.wrap (x-y)))
 | .mul=>some (.int k (k.wrap (x*y)))
 | .and=>some (.int k (k.wrap (BitVec.ofInt k.bits x&&&BitVec.ofInt k.bits y).toNat))
 | .or=>some (.int k (k.wrap (BitVec.ofInt k.bits x|||BitVec.ofInt k.bits y).toNat))
 | .xor=>some (.int k (k.wrap (BitVec.ofInt k.bits x^^^BitVec.ofInt k.bits y).toNat))
 | .andNot=>some (.int k (k.wrap (BitVec.ofInt k.bits x&&& ~~~BitVec.ofInt k.bits y).toNat))
 | .eql=>some (.bool (x==y))
 | .neq=>some (.bool (x !=y))
 | .lss=>some (.bool (decide (x<y)))
 | .leq=>some (.bool (decide (x<=y)))
 | .gtr=>some (.bool (decide (x>y)))
 | .geq=>some (.bool (decide (x>=y)))
 |_=>none
theorem BQ{op:BinOp}{t l:TypeId}{x y:Operand}{k:IntKind}{i J:Int}{v:Value}(e:cY ops Z g=some true)(d:c8 n dst=true)
 (f:bs Z x=some (.int k i)) (j:bs Z y=some (.int k J)) (c:evalBin op k i J=some v)
 (h:O P n ops rest (cG Z dst v) w Q):O P n ops (⟨dst,.binOp op t x y l,ty,pos,after,g⟩::rest) Z w Q:=
 dN e d (λa b=>by
  cases op<;>simp [evalBin] at c<;>subst c<;>simp [execOp,b.eval f,b.eval j,eqGuard,binOp,Op.intArith,Op.intBits,Op.intCmp]) h
def evalShift(op:BinOp)(k:IntKind)(x y:Int):Option Value:=
 match op with
 | .shl=>some (.int k (k.wrap (x*2^(min y.toNat k.bits))))
 | .shr=>some (.int k (x.fdiv (2^(min y.toNat k.bits))))
 |_=>none
theorem iu{op:BinOp}{t m:TypeId}{x y:Operand}{k dm:IntKind}{i J:Int}{v:Value}(f:cY ops Z g=some true)(e:c8 n dst=true)
 (j:bs Z x=some (.int k i)) (l:bs Z y=some (.int dm J)) (o:0<=J) (c:evalShift op k i J=some v)
 (h:O P n ops rest (cG Z dst v) w Q):O P n ops (⟨dst,.binOp op t x y m,ty,pos,after,g⟩::rest) Z w Q:=
 dN f e (λa b=>by
  have d:¬J<0:=by omega
  cases op<;>simp [evalShift] at c<;>subst c<;>simp [execOp,b.eval j,b.eval l,eqGuard,binOp,Op.shift,d]) h
theorem wL{t k e:TypeId}{x:Operand}{p:Option Addr}{l c bY b:Nat}[hu:bA P t (.slice e)](i:cY ops Z g=some true)(f:c8 n dst=true)
 (j:bs Z x=some (.slice p l c))
 (h:O P n ops rest (cG Z dst (.bool p.isNone)) w Q):O P n ops (⟨dst,.binOp .eql t x (.const (.slice none bY b)) k,ty,pos,after,g⟩::rest) Z w Q:=
 dN i f (λa d=>by
  simp only [execOp,d.eval j,eval_const,C4,dS,Hs hu.h,dZ,en]) h
theorem run_equalIn_bool{P:Program}{t:TypeId}(hu:P.underlying t=some .bool)(a b:Bool)(w:World)(d:Nat):(Op.equalIn (d+1) t (.bool a) (.bool b)).run P w= .ok (a==b) w:=by
 simp only [Op.equalIn,dS,d8 hu,dZ];rfl
def qz(op:UnOp)(k:IntKind)(x:Int):Option Value:=
 match op with
 | .neg=>some (.int k (k.wrap (0-x)))
 | .xor=>some (.int k (k.wrap (BitVec.ofInt k.bits (if k.signed then -1 else k.max)^^^BitVec.ofInt k.bits x).toNat))
 |_=>none
theorem B0{op:UnOp}{t:TypeId}{x:Operand}{k:IntKind}{i:Int}{v:Value}(e:cY ops Z g=some true)(d:c8 n dst=true)(f:bs Z x=some (.int k i))(b:qz op k i=some v)
 (h:O P n ops rest (cG Z dst v) w Q):O P n ops (⟨dst,.unOp op t x,ty,pos,after,g⟩::rest) Z w Q:=
 dN e d (λa c=>by
  cases op<;>simp [qz] at b<;>subst b<;>simp [execOp,c.eval f,Op.unary,Op.intArith,Op.intBits]) h
theorem gt{s t:TypeId}{d:TypeDesc}{x:Operand}{k dm:IntKind}{i:Int}[aM:bA P s d][j:bA P t (.int dm)](e:cY ops Z g=some true)(c:c8 n dst=true)
 (l:bs Z x=some (.int k i)) {J:Int} (f:dm.wrap i=J)
 (h:O P n ops rest (cG Z dst (.int dm J)) w Q):O P n ops (⟨dst,.convert s t x,ty,pos,after,g⟩::rest) Z w Q:=
 dN e c (λa b=>by
  subst f;simp [execOp,b.eval l,convert,d8 aM.h,d8 j.h,Conv.intToInt]) h
theorem ru{s:TypeId}{f off b I:Nat}{x:Operand}[bw:pI P s f off](o:cY ops Z g=some true)(m:c8 n dst=true)
 (q:bs Z x=some (.pointer (some ⟨b,I,none⟩)))
 (h:O P n ops rest (cG Z dst (.pointer (some ⟨b,I+off,none⟩))) w Q):O P n ops (⟨dst,.fieldAddr s x f,ty,pos,after,g⟩::rest) Z w Q:=
 dN o m (λa l=>by
  obtain⟨gN,ld,e,j,k,d⟩:=bw.h;cases c:P.info? ld.type with
  |none=>simp [c] at d
  |some i=>
   have p:i.size≠0:=by simpa [c] using d
   subst k;simp [execOp,l.eval q,Instr.fieldAt,d8 e,j,Instr.sureAddr,fieldPlace,sizeOf,typeInfo,c,p,add_lit]) h
def ib:TypeDesc->Bool
 | .struct _| .array _ _=>true
 |_=>false
theorem kA{t:TypeId}{d:TypeDesc}(hu:P.underlying t=some d)(w:World):(isAgg t).run P w= .ok (ib d) w:=by
 unfold isAgg;rw [dS,d8 hu w];cases d<;>simp [ib]
theorem ox{t:TypeId}{d:TypeDesc}{x:Operand}{A:Addr}{v:Value}[hu:bA P t d](i:cY ops Z g=some true)(e:c8 n dst=true)
 (j:bs Z x=some (.pointer (some A))) (b:ib d=false) (c:w.cell? A=some v)
 (h:O P n ops rest (cG Z dst v) w Q):O P n ops (⟨dst,.load t x,ty,pos,after,g⟩::rest) Z w Q:=
 dN i e (λa f=>by
  simp [execOp,f.eval j,Instr.loadAt,Instr.sureAddr,loadVar,kA hu.h,b,c]) h
theorem mc{t:TypeId}{d:TypeDesc}{x:Operand}{A:Addr}{U:List Value}{z:Value}{size bytes:Nat}[hu:bA P t d][p:cm P t z size bytes]
 (o:cY ops Z g=some true) (l:c8 n dst=true)
 (y:bs Z x=some (.pointer (some A))) (e:ib d=true) (s:U.length=size) (j:Rd w (some A) U)
 (h:O P n ops rest (cG Z dst (.agg U.toArray)) w Q):O P n ops (⟨dst,.load t x,ty,pos,after,g⟩::rest) Z w Q:=
 dN o l (λa m=>by
  obtain⟨i,q,_,r,_⟩:=p.parts;have c:=qc (P:=P) w A U (λJ v u=>by obtain⟨b,f,k⟩:=j J v u;cases f;exact k);rw [s] at c;simp [execOp,m.eval y,Instr.loadAt,Instr.sureAddr,loadVar,kA hu.h,e,sizeOf,typeInfo,q,r,c]) h
theorem cB{t:TypeId}{x y:Operand}{z:Value}{bytes:Nat}{o:World}{F:List Nat}{ad:List (List Chunk)}{b off:Nat}{c:Array Value}{e:TypeId}{v:Value}[r:cm P t z 1 bytes]
 (d:C o F ([(b,.cells c e (0,0))]::ad) w) (q:cY ops Z g=some true)
 (A:bs Z x=some (.pointer (some ⟨b,off,none⟩))) (B:bs Z y=some v) (l:v.oneCell'=true) (D:off<c.size)
 (h:∀aK,C o F ([(b,.cells (c.setIfInBounds off v) e (0,0))]::ad) aK->O P n ops rest Z aK Q):O P n ops (⟨none,.store t x y,ty,pos,after,g⟩::rest) Z w Q:=
 tQ q j (λa k=>by
  obtain⟨i,s,_,u,_⟩:=r.parts;have ia:w.cell? ⟨b,off,none⟩=some c[off]:=d.cell (by simp);have E:w.cell? ((⟨b,off,none⟩:Addr).add 0)=some c[off]:=by simpa [Addr.add] using ia
  have p:w.frozen? ⟨b,off,none⟩=false:=by simp [World.frozen?,d.first]
  have m:v.cells= #[v]:=by cases v<;>first|rfl|simp [Value.oneCell'] at l
  have f:=run_store P w ⟨b,off,none⟩ v .plain l;rw [ia] at f;simp only [p] at f;simp only [execOp,k.eval A,k.eval B,Instr.storeAt,Instr.sureAddr,storeVar,m,sizeOf,typeInfo,dS,en,dZ,mh,s,u];simp [storeCells,Addr.add,f]) (h _ (d.setCell off v)) (cV.cells d.first (λ_ aa=>va _ v aa))
theorem lB{t:TypeId}{x:Operand}{v:Value}{o:World}{F:List Nat}{ad:List (List Chunk)}(c:C o F ad w)(f:cY ops Z g=some true)(e:c8 n dst=true)
 (i:bs Z x=some v)
 (h:∀b aK,C o F ([(b,.cells v.cells t (0,0))]::ad) aK->O P n ops rest (cG Z dst (.pointer (some ⟨b,0,none⟩))) aK Q):O P n ops (⟨dst,.box t x,ty,pos,after,g⟩::rest) Z w Q:=
 dN f e (λa d=>by simp [execOp,d.eval i,Instr.box,newVar,newRow]) (h _ _ (c.alloc _)) (aa:=cV.alloc _ _)
theorem ew{t:TypeId}{z:Value}{size bytes:Nat}[f:cm P t z size bytes]{o:World}{F:List Nat}{ad:List (List Chunk)}(c:C o F ad w)(e:cY ops Z g=some true)(d:c8 n dst=true)
 (h:∀b aK,C o F ([(b,.cells z.cells t (0,0))]::ad) aK->O P n ops rest (cG Z dst (.pointer (some ⟨b,0,none⟩))) aK Q):O P n ops (⟨dst,.alloc t,ty,pos,after,g⟩::rest) Z w Q:=
 dN e d (λa l=>by
  obtain⟨i,j,k,_⟩:=f.parts;simp [execOp,Instr.alloc,zeroValue,typeInfo,j,k,newVar,newRow]) (h _ _ (c.alloc _)) (aa:=cV.alloc _ _)
theorem cN{t:TypeId}{parts:Array (Nat×Operand)}{U:List Value}{c:Array Value}(e:cY ops Z g=some true)(d:c8 n dst=true)
 (j:fu Z (parts.toList.map (·.2))=some U) (f:∀w,(Instr.build t ((parts.toList.map (·.1)).zip U).toArray).run P w= .ok (.agg c) w)
 (h:O P n ops rest (cG Z dst (.agg c)) w Q):O P n ops (⟨dst,.build t parts,ty,pos,after,g⟩::rest) Z w Q:=
 dN e d (λa b=>by
  have:parts.map (λ(i,x)=>(i,a.eval x))=((parts.toList.map (·.1)).zip U).toArray:=by
   apply fx;rw [<-b.hv j];simp only [hq,oN];rw [List.zip_map'];rfl
  simp only [execOp,this,dS,f,dZ,en]) h
theorem pL{t e:TypeId}{len:Nat}{parts:Array (Nat×Operand)}{U:List Value}{c:Array Value}{o:World}{F:List Nat}{ad:List (List Chunk)}(d:C o F ad w)
 (k:cY ops Z g=some true) (j:c8 n dst=true)
 (m:fu Z (parts.toList.map (·.2))=some U)
 (l:∀w,(Instr.buildSlice t len ((parts.toList.map (·.1)).zip U).toArray).run P w= .ok (.slice (some ⟨w.heap.size,0,none⟩) len len) {w with heap:=w.heap.push (.cells c e)})
 (h:∀b aK,C o F ([(b,.cells c e (0,0))]::ad) aK->O P n ops rest (cG Z dst (.slice (some ⟨b,0,none⟩) len len)) aK Q):O P n ops (⟨dst,.buildSlice t len parts,ty,pos,after,g⟩::rest) Z w Q:=
 dN k j (λa f=>by
  have:parts.map (λ(i,x)=>(i,a.eval x))=((parts.toList.map (·.1)).zip U).toArray:=by
   apply fx;rw [<-f.hv m];simp only [hq,oN];rw [List.zip_map'];rfl
  simp only [execOp,this,dS,l,dZ,en];rfl) (h _ _ (d.alloc _)) (aa:=cV.alloc _ _)
theorem ow{t e:TypeId}{x y:Operand}{A:Addr}{l c:Nat}{k:IntKind}{i:Int}{z:Value}{size bytes:Nat}[hu:bA P t (.slice e)][o:cm P e z size bytes]
 (m:cY ops Z g=some true) (j:c8 n dst=true)
 (r:bs Z x=some (.slice (some A) l c)) (s:bs Z y=some (.int k i)) (d:0<=i) (f:i<l)
 (h:O P n ops rest (cG Z dst (.pointer (some (A.add (i.toNat*size))))) w Q):O P n ops (⟨dst,.indexAddr t x y,ty,pos,after,g⟩::rest) Z w Q:=
 dN m j (λa b=>by
  obtain⟨J,p,_,q,_⟩:=o.parts;simp [execOp,b.eval r,b.eval s,Instr.indexAt,asIntOf,d8 hu.h,sizeOf,typeInfo,p,q,d,f]) h
theorem rz{t e:TypeId}{x y:Operand}{A:Option Addr}{l c:Nat}{k:IntKind}{i:Nat}{z:Value}{size bytes:Nat}[hu:bA P t (.slice e)][o:cm P e z size bytes]
 (m:cY ops Z g=some true) (j:c8 n dst=true)
 (q:bs Z x=some (.slice A l c)) (r:bs Z y=some (.int k i)) (s:i<=c)
 (h:O P n ops rest (cG Z dst (.slice A i c)) w Q):O P n ops (⟨dst,.slice t x none (some y) none,ty,pos,after,g⟩::rest) Z w Q:=
 dN m j (λa b=>by
  obtain⟨J,p,_,u,_⟩:=o.parts;have d:¬c<i:=by omega
  have f:A.map (λx=>x.add 0)=A:=by cases A<;>simp [Addr.add]
  simp [execOp,b.eval q,b.eval r,Instr.sliceAt,Instr.slice,Instr.sliceBounds,Instr.sliceBound,asIntOf,d8 hu.h,sizeOf,typeInfo,p,f];exact λdt=>(d dt).elim) h
theorem oy{t e:TypeId}{x y:Operand}{A:Option Addr}{l c:Nat}{k:IntKind}{i:Nat}{z:Value}{size bytes:Nat}[hu:bA P t (.slice e)][m:cm P e z size bytes]
 (j:cY ops Z g=some true) (f:c8 n dst=true)
 (q:bs Z x=some (.slice A l c)) (r:bs Z y=some (.int k i)) (s:i<=l)
 (h:O P n ops rest (cG Z dst (.slice (if c=i then A else A.map (·.add (i*size))) (l-i) (c-i))) w Q):O P n ops (⟨dst,.slice t x (some y) none none,ty,pos,after,g⟩::rest) Z w Q:=
 dN j f (λa b=>by
  obtain⟨J,o,_,p,_⟩:=m.parts;have d:¬l<i:=by omega
  simp [execOp,b.eval q,b.eval r,Instr.sliceAt,Instr.slice,Instr.sliceBounds,Instr.sliceBound,asIntOf,d8 hu.h,sizeOf,typeInfo,o,p];exact λdt=>(d dt).elim) h
theorem k3{t e:TypeId}{x:Operand}{A:Addr}{m:Nat}{z:Value}{size bytes:Nat}[hu:bA P t (.array m e)][j:cm P e z size bytes]
 (f:cY ops Z g=some true) (d:c8 n dst=true) (l:bs Z x=some (.pointer (some A)))
 (h:O P n ops rest (cG Z dst (.slice (some A) m m)) w Q):O P n ops (⟨dst,.slice t x none none none,ty,pos,after,g⟩::rest) Z w Q:=
 dN f d (λa c=>by
  obtain⟨i,k,_,o,_⟩:=j.parts;have b:A.add 0=A:=by simp [Addr.add]
  simp [execOp,c.eval l,Instr.sliceAt,Instr.sureAddr,Instr.sliceBounds,d8 hu.h,sizeOf,typeInfo,k,b]) h
theorem wP{t o:TypeId}{x y:Operand}{i J:Nat}(k:cY ops Z g=some true)(j:c8 n dst=true)
 (l:bs Z x=some (.int .i64 i)) (m:bs Z y=some (.int .i64 J)) (p:0<J)
 (h:O P n ops rest (cG Z dst (.int .i64 ((i%J:Nat):Int))) w Q):O P n ops (⟨dst,.binOp .rem t x y o,ty,pos,after,g⟩::rest) Z w Q:=
 dN k j (λa b=>by
  have c:¬(J:Int)=0:=by omega
  have d:(i:Int).tmod (J:Int)=((i%J:Nat):Int):=rfl;simp only [execOp,b.eval l,b.eval m];have e:eqGuard .rem t x y (.int .i64 (i:Int)) (.int .i64 (J:Int))=pure ():=rfl
  have f:(binOp .rem t (.int .i64 (i:Int)) (.int .i64 (J:Int))).run P w= .ok (.int .i64 ((i%J:Nat):Int)) w:=by
   show(Op.intDiv .rem .i64 (i:Int) (J:Int)).run P w=_;unfold Op.intDiv;simp only [d,aI c,en]
  simp only [e,dS,en,dZ,f]) h
theorem pS{f:Array TypeId}{args:Array Operand}{k:IntKind}{i J:Int}(d:cY ops Z g=some true)(c:c8 n dst=true)
 (e:fu Z args.toList=some [.int k i,.int k J])
 (h:O P n ops rest (cG Z dst (.int k (min i J))) w Q):O P n ops (⟨dst,.call ⟨.builtin .min,args,f⟩,ty,pos,after,g⟩::rest) Z w Q:=
 dN d c (λa b=>by
  have:args.map a.eval= #[.int k i,.int k J]:=by apply fx;rw [hq,b.hv e]
  have hm:(if J<i then J else i)=min i J:=by split<;>omega
  simp [execOp,resolve,this,invoke,builtin,Builtin.min_,Builtin.min2,hm]) h
theorem pR{f:Array TypeId}{args:Array Operand}{k:IntKind}{i J:Int}(d:cY ops Z g=some true)(c:c8 n dst=true)
 (e:fu Z args.toList=some [.int k i,.int k J])
 (h:O P n ops rest (cG Z dst (.int k (max i J))) w Q):O P n ops (⟨dst,.call ⟨.builtin .max,args,f⟩,ty,pos,after,g⟩::rest) Z w Q:=
 dN d c (λa b=>by
  have:args.map a.eval= #[.int k i,.int k J]:=by apply fx;rw [hq,b.hv e]
  have hm:(if J>i then J else i)=max i J:=by split<;>omega
  simp [execOp,resolve,this,invoke,builtin,Builtin.max_,Builtin.max2,hm]) h
theorem dR{t e:TypeId}{f:Array TypeId}{args:Array Operand}{z:Value}{size bytes:Nat}{o:World}{F:List Nat}{G:List Chunk}{ad:List (List Chunk)}{v:Value}{k m c:Nat}{A:Option Addr}{xs news:List Value}
 [hu:bA P t (.slice e)] [E:cm P e z size bytes] (r:C o F (G::ad) w) (p:Row e size v k xs G) (T:f= #[t,t]) (V:z.cells.size=size) (S:0<size)
 (D:cY ops Z g=some true) (B:c8 n dst=true)
 (U:fu Z args.toList=some [v,.slice A m c]) (M:news.length=m*size) (N:Rd w A news) (j:∀u∈news,u.oneCell'=true) (y:(k+m)*bytes<=140737488355328) (l:k+m<=maxLen)
 (h:∀d b aK,Row e size d (k+m) (xs++news) b->C o F (b::ad) aK->O P n ops rest (cG Z dst d) aK Q):O P n ops (⟨dst,.call ⟨.builtin .append,args,f⟩,ty,pos,after,g⟩::rest) Z w Q:=by
 obtain⟨i,H,I,J,K⟩:=E.parts;obtain⟨d,aK,b,R,q,s,L⟩:=Row.append (P:=P) (c:=c) t ty i z bytes hu.h H I J K V S r p M N j l y;refine dN D B (λa x=>?_) (h d b aK q s) (aa:=L);subst T;have:args.map a.eval= #[v,.slice A m c]:=by apply fx;rw [hq,x.hv U]
 simp only [execOp,resolve,invoke,builtin,dS,en,dZ,this,R]
theorem wG{f:FuncId}{o:Array TypeId}{args:Array Operand}{U:List Value}{ag:Value->World->Prop}[bw:Entry P f](l:cY ops Z g=some true)(k:c8 n dst=true)
 (m:fu Z args.toList=some U) (j:Calls P f U.toArray w ag)
 (h:∀v aK,ag v aK->O P n ops rest (cG Z dst v) aK Q):O P n ops (⟨dst,.call ⟨.value (.func f),args,o⟩,ty,pos,after,g⟩::rest) Z w Q:=by
 obtain⟨fn,b,c,d⟩:=bw.h;refine wK (f:=f) (U:=U.toArray) (aK:=w) l k (λa i=>?_) j h;have:args.map a.eval=U.toArray:=by apply fx;rw [hq,i.hv m]
 have e:fn.body.isNone=false:=d;simp only [execOp,resolve,this,Act.eval,Deferred.ofValue,invoke,callFunc,b,c,e,dS,en,dZ,mh,qd,Array.append_empty,if_false,Bool.false_eq_true]
end
theorem Ef:∀(U:List Value)(k:Nat)(cells:Array Value),(∀v∈U,v.oneCell'=true)->k+U.length<=cells.size->
 ∃r,Instr.fill (λi=>some (i*1,1)) cells ((List.range' k U.length).zip U)=some r/\r.size=cells.size/\∀i,r[i]? =if k<=i/\i<k+U.length then U[i-k]? else cells[i]? :=by
 intro U;induction U with
 |nil=>intro k cells _ _;exact⟨cells,j,j,λi=>by rw [aI (by simp)]⟩
 |cons v U g=>
  intro k cells a aa;have f:v.cells= #[v]:=by have:=a v (by simp);cases v<;>first|rfl|simp [Value.oneCell'] at this
  simp only [eu] at aa;obtain⟨r,e,aM,d⟩:=g (k+1) (cells.setIfInBounds k v) (λu hu=>a u (by simp [hu])) (by simp;omega);refine⟨r,?_,by simpa using aM,λi=>?_⟩
  .simp only [eu,List.range'_succ,ua,Instr.fill,f];rw [aI (by simp;omega)];simpa using e
  .rw [d i];by_cases c:i=k
   .subst c;rw [aI (by omega),a6 (by simp)];have:i<cells.size:=by omega
    simp [this]
   .by_cases b:k+1<=i/\i<k+1+U.length
    .rw [a6 b,a6 (by simp;omega)];rw [show i-k=(i-(k+1))+1 by omega];simp
    .rw [aI b,aI (by simp;omega)];simp [Ne.symm c]
theorem Ht{P:Program}{t e:TypeId}{z:Value}{bytes:Nat}(hu:P.underlying t=some (.slice e))(j:cm P e z 1 bytes)(U:List Value)(f:∀v∈U,v.oneCell'=true)(p:U.length<=16777216)(w:World):
 (Instr.buildSlice t U.length ((List.range U.length).zip U).toArray).run P w= .ok (.slice (some ⟨w.heap.size,0,none⟩) U.length U.length) {w with heap:=w.heap.push (.cells U.toArray e)}:=by
 obtain⟨i,a,k,l,_⟩:=j.parts
 have key:∀cells:Array Value,cells.size=U.length->Instr.fill (λi=>some (i*1,1)) cells ((List.range U.length).zip U)=some U.toArray:=by
  intro cells g;obtain⟨r,o,aM,h⟩:=Ef U 0 cells f (by omega);rw [List.range_eq_range',o]
  congr 1
  apply Array.ext (by simp [aM,g]);intro J m b;have:=h J;rw [a6 (by omega)] at this;simp only [Nat.sub_zero] at this;simp at b;rw [Array.getElem?_eq_getElem m,cn b] at this;simpa using this
 unfold Instr.buildSlice;have n:¬U.length*1>2^24:=by omega
 by_cases c:U.length=0
 .have:U=[]:=mf c;subst this;simp [d8 hu,sizeOf,typeInfo,a,Instr.fill,newRow,show Array.range 0= #[] from by simp [Array.range]]
 .have d:¬U.length*1=0:=by omega
  simp only [dS,d8 hu,dZ,sizeOf,typeInfo,mh,a,en,l,n,d,lI,zeroValue,k];rw [key _ (by simp)];simp [newRow]
section
variable {P:Program} {n:Fr} {Z:Env} {w:World} {Q:d6} {ops:Array Oper} {rest:List Oper}
 {dst:Option Nat} {ty:TypeId} {pos:String} {after:Array Edge} {g:Option (Nat×Bool)}
theorem eC{t e:TypeId}{len:Nat}{parts:Array (Nat×Operand)}{U:List Value}{z:Value}{bytes:Nat}{o:World}{F:List Nat}{ad:List (List Chunk)}[hu:bA P t (.slice e)][i:cm P e z 1 bytes](c:C o F ad w)
 (f:cY ops Z g=some true) (d:c8 n dst=true)
 (l:fu Z (parts.toList.map (·.2))=some U) (k:U.length=len) (j:parts.toList.map (·.1)=List.range len) (a:U.all (·.oneCell')=true) (hlen:len<=16777216)
 (h:∀b aK,C o F ([(b,.cells U.toArray e (0,0))]::ad) aK->O P n ops rest (cG Z dst (.slice (some ⟨b,0,none⟩) len len)) aK Q):O P n ops (⟨dst,.buildSlice t len parts,ty,pos,after,g⟩::rest) Z w Q:=by
 subst k;exact pL c f d l (λw=>by rw [j];exact Ht hu.h i U (by simpa using a) hlen w) h
theorem fp{t e:TypeId}{x y:Operand}{A:Option Addr}{l c J:Nat}{k:IntKind}{U:List Value}{v z:Value}{size bytes:Nat}[hu:bA P t (.slice e)][r:cm P e z size bytes]
 (f:cY ops Z g=some true) (d:c8 n dst=true)
 (o:bs Z x=some (.slice A l c)) (p:bs Z y=some (.int k J)) (i:Rd w A U) (m:U[J*size]? =some v) (q:J<l)
 (h:∀a,A=some a->w.cell? (a.add (J*size))=some v->O P n ops rest (cG Z dst (.pointer (some (a.add (J*size))))) w Q):O P n ops (⟨dst,.indexAddr t x y,ty,pos,after,g⟩::rest) Z w Q:=by
 obtain⟨a,rfl,b⟩:=i _ _ m;exact ow f d o p (by omega) (by omega) (by simpa using h a j b)
end
section
variable {P:Program} {n:Fr} {Z:Env} {w:World} {Q:d6} {ops:Array Oper} {rest:List Oper}
 {dst:Option Nat} {ty:TypeId} {pos:String} {after:Array Edge} {g:Option (Nat×Bool)}
theorem wI{f x e:TypeId}{B:Array TypeId}{args:Array Operand}{z:Value}{bytes:Nat}{o:World}{F:List Nat}{ad:List (List Chunk)}{b off dl j m l:Nat}{c:Array Value}{ht:TypeId}{D A:Option Addr}{news:List Value}
 [hu:bA P f (.slice e)] [L:cm P e z 1 bytes] (d:C o F ([(b,.cells c ht (0,0))]::ad) w) (N:B= #[f,x]) (K:cY ops Z g=some true) (H:c8 n dst=true)
 (S:fu Z args.toList=some [.slice D dl j,.slice A m l]) (s:news.length=Nat.min m dl) (G:news=[]\/D=some ⟨b,off,none⟩) (y:Rd w A news) (E:∀v∈news,v.oneCell'=true) (I:off+news.length<=c.size)
 (h:∀aK,C o F ([(b,.cells (c.toList.take off++news++c.toList.drop (off+news.length)).toArray ht (0,0))]::ad) aK->O P n ops rest (cG Z dst (.int .i64 news.length)) aK Q):O P n ops (⟨dst,.call ⟨.builtin .copy,args,B⟩,ty,pos,after,g⟩::rest) Z w Q:=by
 obtain⟨i,q,_,M,_⟩:=L.parts;subst N
 have key:(Builtin.copy_ #[f,x] ty #[.slice D dl j,.slice A m l]).run P w= .ok (goInt news.length) (w.setRow b (c.toList.take off++news++c.toList.drop (off+news.length)).toArray):=by
  rcases G with rfl|rfl
  .have u:Nat.min m dl=0:=by simpa using s.symm
   have t:w.setRow b (c.toList.take off++([]:List Value)++c.toList.drop (off+([]:List Value).length)).toArray=w:=by
    simp only [hc,ge,oO,m6,tV];exact setRow_self w b c ht (0,0) d.first
   rw [t];cases D<;>cases A<;>simp [Builtin.copy_,d8 hu.h,Builtin.lenOf,Builtin.firstCells,sizeOf,typeInfo,q,u,storeCells,loadCells,loadCellsFrom]
  .cases A with
   |none=>
    have aJ:news=[]:=by
     cases news with
     |nil=>rfl
     |cons v r=>obtain⟨a,p,_⟩:=y 0 v (by simp);cases p
    subst aJ;have u:Nat.min m dl=0:=by simpa using s.symm
    have t:w.setRow b (c.toList.take off++([]:List Value)++c.toList.drop (off+([]:List Value).length)).toArray=w:=by
     simp only [hc,ge,oO,m6,tV];exact setRow_self w b c ht (0,0) d.first
    rw [t];simp [Builtin.copy_,d8 hu.h,Builtin.lenOf,Builtin.firstCells,sizeOf,typeInfo,q,u,storeCells]
   |some a=>exact run_copy_row P w f x ty e b off dl j a m l c ht news hu.h (by simp [q,M]) d.first s (λJ v R=>y.cell R) I E
 refine dN K H (λa p=>?_) (h _ d.setRow) (aa:=cV.cells d.first (λk aa=>setRow_other w b k _ aa));have:args.map a.eval= #[.slice D dl j,.slice A m l]:=by apply fx;rw [hq,p.hv S]
 simp only [execOp,resolve,invoke,builtin,dS,en,dZ,this,key];rfl
end
section
variable {P:Program} {n:Nat} {Z:Env} {w:World} {dst:Option Nat} {ty:TypeId} {pos:String} {after:Array Edge} {g:Option (Nat×Bool)}
theorem BA{x:Operand}{v:Value}(c:bs Z x=some v):∀a,cK Z n a->(execOp a.eval ⟨dst,.move x,ty,pos,after,g⟩).run P w= .ok (.value v) w:=
 λa b=>by simp [execOp,b.eval c]
theorem Bp{x:Operand}{v:Value}(c:bs Z x=some v):∀a,cK Z n a->(execOp a.eval ⟨dst,.assign x,ty,pos,after,g⟩).run P w= .ok (.value v) w:=
 λa b=>by simp [execOp,b.eval c]
theorem BC{x:Operand}{A:Addr}(c:bs Z x=some (.pointer (some A))):∀a,cK Z n a->(execOp a.eval ⟨dst,.nilCheck x,ty,pos,after,g⟩).run P w= .ok (.value (.pointer (some A))) w:=
 λa b=>by simp [execOp,b.eval c]
theorem BG{c x y:Operand}{v:Value}(d:bs Z c=some (.bool true))(e:bs Z x=some v):∀a,cK Z n a->(execOp a.eval ⟨dst,.pick c x y,ty,pos,after,g⟩).run P w= .ok (.value v) w:=
 λa b=>by simp [execOp,b.eval d,b.eval e,asBool]
theorem BF{c x y:Operand}{v:Value}(d:bs Z c=some (.bool false))(e:bs Z y=some v):∀a,cK Z n a->(execOp a.eval ⟨dst,.pick c x y,ty,pos,after,g⟩).run P w= .ok (.value v) w:=
 λa b=>by simp [execOp,b.eval d,b.eval e,asBool]
theorem ds{op:BinOp}{t f:TypeId}{x y:Operand}{k:IntKind}{i J:Int}{v:Value}(d:bs Z x=some (.int k i))(e:bs Z y=some (.int k J))(c:evalBin op k i J=some v):
 ∀a,cK Z n a->(execOp a.eval ⟨dst,.binOp op t x y f,ty,pos,after,g⟩).run P w= .ok (.value v) w:=
 λa b=>by
  cases op<;>simp [evalBin] at c<;>subst c<;>simp [execOp,b.eval d,b.eval e,eqGuard,binOp,Op.intArith,Op.intBits,Op.intCmp]
theorem kg{s t:TypeId}{d:TypeDesc}{x:Operand}{k dm:IntKind}{i:Int}[aM:bA P s d][e:bA P t (.int dm)](f:bs Z x=some (.int k i)){J:Int}(c:dm.wrap i=J):
 ∀a,cK Z n a->(execOp a.eval ⟨dst,.convert s t x,ty,pos,after,g⟩).run P w= .ok (.value (.int dm J)) w:=
 λa b=>by
  subst c;simp [execOp,b.eval f,convert,d8 aM.h,d8 e.h,Conv.intToInt]
theorem Bt{s:TypeId}{f off b I:Nat}{x:Operand}[bw:pI P s f off](o:bs Z x=some (.pointer (some ⟨b,I,none⟩))):
 ∀a,cK Z n a->(execOp a.eval ⟨dst,.fieldAddr s x f,ty,pos,after,g⟩).run P w= .ok (.value (.pointer (some ⟨b,I+off,none⟩))) w:=
 λa l=>by
  obtain⟨gN,ld,e,j,k,d⟩:=bw.h;cases c:P.info? ld.type with
  |none=>simp [c] at d
  |some i=>
   have m:i.size≠0:=by simpa [c] using d
   subst k;simp [execOp,l.eval o,Instr.fieldAt,d8 e,j,Instr.sureAddr,fieldPlace,sizeOf,typeInfo,c,m,add_lit]
theorem hK{t:TypeId}{d:TypeDesc}{x:Operand}{A:Addr}{v:Value}[hu:bA P t d](f:bs Z x=some (.pointer (some A)))(b:ib d=false)(c:w.cell? A=some v):
 ∀a,cK Z n a->(execOp a.eval ⟨dst,.load t x,ty,pos,after,g⟩).run P w= .ok (.value v) w:=
 λa e=>by
  simp [execOp,e.eval f,Instr.loadAt,Instr.sureAddr,loadVar,kA hu.h,b,c]
theorem Bu{t e:TypeId}{x y:Operand}{A:Addr}{l c:Nat}{k:IntKind}{i:Int}{z:Value}{size bytes:Nat}[hu:bA P t (.slice e)][j:cm P e z size bytes]
 (p:bs Z x=some (.slice (some A) l c)) (q:bs Z y=some (.int k i)) (d:0<=i) (f:i<l):
 ∀a,cK Z n a->(execOp a.eval ⟨dst,.indexAddr t x y,ty,pos,after,g⟩).run P w= .ok (.value (.pointer (some (A.add (i.toNat*size))))) w:=
 λa b=>by
  obtain⟨J,m,_,o,_⟩:=j.parts;simp [execOp,b.eval p,b.eval q,Instr.indexAt,asIntOf,d8 hu.h,sizeOf,typeInfo,m,o,d,f]
theorem Bx{t e:TypeId}{b:Array TypeId}{args:Array Operand}{A:Option Addr}{l c:Nat}[hu:bA P t (.slice e)](f:b= #[t])(i:fu Z args.toList=some [.slice A l c]):
 ∀a,cK Z n a->(execOp a.eval ⟨dst,.call ⟨.builtin .len,args,b⟩,ty,pos,after,g⟩).run P w= .ok (.value (.int .i64 l)) w:=
 λa d=>by
  subst f;have:args.map a.eval= #[.slice A l c]:=by apply fx;rw [hq,d.hv i]
  simp [execOp,resolve,this,invoke,builtin,Builtin.len_,d8 hu.h,goInt]
theorem wx{d:Array TypeId}{args:Array Operand}{k:IntKind}{i J:Int}(c:fu Z args.toList=some [.int k i,.int k J]):
 ∀a,cK Z n a->(execOp a.eval ⟨dst,.call ⟨.builtin .max,args,d⟩,ty,pos,after,g⟩).run P w= .ok (.value (.int k (max i J))) w:=
 λa b=>by
  have:args.map a.eval= #[.int k i,.int k J]:=by apply fx;rw [hq,b.hv c]
  have hm:(if J>i then J else i)=max i J:=by split<;>omega
  simp [execOp,resolve,this,invoke,builtin,Builtin.max_,Builtin.max2,hm]
theorem BD{t:TypeId}{x:Operand}{b:Bool}(d:bs Z x=some (.bool b)):∀a,cK Z n a->(execOp a.eval ⟨dst,.unOp .not t x,ty,pos,after,g⟩).run P w= .ok (.value (.bool (!b))) w:=
 λa c=>by simp [execOp,c.eval d,Op.unary]
theorem rp{t e:TypeId}{x y:Operand}{b:Addr}{l c J:Nat}{k:IntKind}{z:Value}{size bytes:Nat}[hu:bA P t (.slice e)][i:cm P e z size bytes]
 (d:bs Z x=some (.slice (some b) l c)) (f:bs Z y=some (.int k J)) (h:J<l):
 ∀a,cK Z n a->(execOp a.eval ⟨dst,.indexAddr t x y,ty,pos,after,g⟩).run P w= .ok (.value (.pointer (some (b.add (J*size))))) w:=by
 have:=Bu (P:=P) (n:=n) (w:=w) (dst:=dst) (ty:=ty) (pos:=pos) (after:=after) (g:=g) (Z:=Z) (t:=t) (e:=e) (z:=z) (size:=size) (bytes:=bytes) d f (by omega) (by omega);simpa using this
end
class rq(P:Program):Prop where
 h:P.follows .mixedOrders=true
def F8(ops:Array Oper):Bool:=ops.all λI=>match I.op with| .defer _=>false|_=>true
def calm(ops:Array Oper):Bool:=Region.noSelect ops&&F8 ops
theorem calm.Ax{ops:Array Oper}(h:calm ops=true):Region.noSelect ops=true:=by unfold calm at h;simp only [Bool.and_eq_true] at h;exact h.1
theorem calm.def{ops:Array Oper}(h:calm ops=true){J:Nat}{I:Oper}(a:ops[J]? =some I)(c:Call):I.op≠.defer c:=by
 unfold calm at h;simp only [ea] at h;intro he;have b:=Array.all_eq_true.1 h.2 J (gv.1 a).1;have d:ops[J]'((gv.1 a).1)=I:=(gv.1 a).2;rw [d,he] at b;cases b
section
variable {P:Program} {F:Fence} {ops:Array Oper} {bb:World->Prop} {Q:Exit->Act->World->Prop}
def waits(ops:Array Oper)(J i:Nat):Bool:=match ops[J]? with
 |some y=>y.after.toList.any λe=>Region.binds .any e&&e.on==i
 |none=>false
def nF(ops:Array Oper):Nat->Nat->Nat->Bool
 |0,_,_=>false
 |d+1,J,i=>waits ops J i||(List.range ops.size).any λm=>waits ops J m&&nF ops d m i
def oo(ops:Array Oper)(J i:Nat):Bool:=nF ops 7 J i
def lX(ops:Array Oper)(J:Nat):Bool:=(List.range ops.size).all λi=>i==J||oo ops J i||oo ops i J
theorem waits.on{ops:Array Oper}{i J:Nat}(h:waits ops J i=true):∃y,ops[J]? =some y/\∃e∈y.after,Region.binds .any e=true/\e.on=i:=by
 unfold waits at h;split at h
 .rename_i y c;simp only [ko,ea,d5] at h;obtain⟨e,he,a,b⟩:=h;exact⟨y,c,e,by simpa using he,a,b⟩
 .cases h
def l9(ops:Array Oper)(l:Array Bool):Prop:=∀(J:Nat)(y:Oper),ops[J]? =some y->l.getD J false=true->∀e∈y.after,Region.binds .any e=true->l.getD e.on false=true
def qs(ops:Array Oper)(l:Array Bool):Bool:=(List.range ops.size).all λJ=> !(l.getD J false)||(match ops[J]? with|some y=>y.after.toList.all λe=> !Region.binds .any e||l.getD e.on false|none=>true)
theorem qs.spec{ops:Array Oper}{l:Array Bool}(h:qs ops l=true):l9 ops l:=λJ y c f e he d=>by
 unfold qs at h;simp only [jX,nT] at h;have a:=h J (gv.1 c).1;rw [c,f] at a;simp only [Bool.not_true,Bool.false_or,jX] at a;have b:=a e (by simpa using he);rw [d] at b;simpa using b
theorem l9.set{ops:Array Oper}{l:Array Bool}{J:Nat}(h:l9 ops l)(k:J∈Region.ready .any ops l):l9 ops (l.setIfInBounds J true):=λm z d hm e he f=>by
 obtain⟨o,y,n,j⟩:=oP.1 k
 have mono:∀i,l.getD i false=true->(l.setIfInBounds J true).getD i false=true:=λi a=>by
  rcases oQ (J=i) with rfl|c
  .rw [qe] at a⊢;cases g:l[J]? with
   |none=>rw [g] at a;cases a
   |some b=>rw [ub (gv.1 g).1];rfl
  .rw [qe] at a⊢;rw [qf c];exact a
 rcases oQ (J=m) with rfl|c
 .rw [n] at d;cases d;exact mono _ (j e he f)
 .refine mono _ (h m z d ?_ e he f);rw [qe] at hm⊢;rw [qf c] at hm;exact hm
theorem nF.done{ops:Array Oper}{i:Nat}{l:Array Bool}(c:l9 ops l):∀(d:Nat){J:Nat},nF ops d J i=true->l.getD J false=true->l.getD i false=true
 |0,_,h,_=>by cases h
 |d+1,J,h,j=>by
  rw [nF] at h;simp only [m7,ko,ea] at h;rcases h with a|⟨m,_,a,k⟩
  .obtain⟨y,g,e,he,b,f⟩:=waits.on a;rw [<-f];exact c J y g j e he b
  .obtain⟨y,g,e,he,b,f⟩:=waits.on a;exact nF.done c d k (by rw [<-f];exact c J y g j e he b)
theorem oo.done{ops:Array Oper}{i J:Nat}{l:Array Bool}(h:oo ops J i=true)(n:J∈Region.ready .any ops l)(k:l9 ops l):l.getD i false=true:=by
 obtain⟨p,y,g,f⟩:=oP.1 n;unfold oo at h;rw [nF] at h;simp only [m7,ko,ea] at h;rcases h with b|⟨m,_,b,j⟩
 .obtain⟨o,a,e,he,c,d⟩:=waits.on b;rw [g] at a;cases a;rw [<-d];exact f e he c
 .obtain⟨o,a,e,he,c,d⟩:=waits.on b;rw [g] at a;cases a;exact nF.done k 6 j (by rw [<-d];exact f e he c)
theorem zv{l:Array Bool}{i:Nat}(a:l.getD i false=true)(c:l.getD i true=false):False:=by
 rw [qe] at a c;cases d:l[i]? with
 |none=>rw [d] at a;exact absurd a (by decide)
 |some b=>rw [d] at a c;exact absurd (a.symm.trans c) (by decide)
theorem lX.no{ops:Array Oper}{i J:Nat}{x:Oper}{l:Array Bool}(h:lX ops J=true)(e:ops[i]? =some x)(d:i∈Region.ready .any ops l)(c:J∈Region.ready .any ops l)(f:J≠i)(b:l9 ops l):False:=by
 unfold lX at h;simp only [jX,nT] at h;have a:=h i (gv.1 e).1;simp only [m7,d5] at a;rcases a with(a|a)|a
 .exact absurd a.symm f
 .exact zv (oo.done a c b) (oP.1 d).1
 .exact zv (oo.done a d b) (oP.1 c).1
def hj(P:Program)(F:Fence)(ops:Array Oper)(bb:World->Prop)(Q:Exit->Act->World->Prop):Nat->Array Bool->Act->World->Prop
 |0,l,a,w=>Region.ready .any ops l=[]/\Q .normal a w
 |k+1,l,a,w=>(Region.ready .any ops l=[]->Q .normal a w)/\
  ∀i∈Region.ready .any ops l,wpOpIn F 0 P ops Q i (λa w=>(lX ops i=true\/bb w)/\hj P F ops bb Q k (l.setIfInBounds i true) a w) a w
theorem hj.any:∀(k:Nat)(l:Array Bool)(a:Act)(w:World),hj P F ops bb Q k l a w->wpAnyIn F 0 P .any ops Q k l a w
 |0,_,_,_,h=>h
 |k+1,_,_,_,h=>⟨h.1,λi b=>wpOpIn_mono (λa w h=>hj.any k _ a w h.2) (h.2 i b)⟩
theorem IW{i:Nat}{K:Act->World->Prop}{hM:Exit->Act->World->Prop}{a:Act}{w:World}(c:∀e a w,Q e a w->hM e a w)(h:wpOpIn F 0 P ops Q i K a w):wpOpIn F 0 P ops hM i K a w:=by
 unfold wpOpIn at*;split
 .rename_i aJ;simp only [aJ] at h;exact h
 .rename_i I f;simp only [f] at h;split
  .rename_i hw;rw [a6 hw] at h;refine⟨h.1,?_⟩;have b:=h.2;cases d:(I.semAt F.round a.eval).run P w with
   |ok g j=>
    rw [d] at b
    cases g<;>first
     |exact b
     |exact⟨b.1,lJ b.2 λe k he=>by
      cases e<;>first|exact he|exact c _ _ _ he|exact(let⟨a,w,h⟩:=he;⟨a,w,c _ _ _ h⟩)⟩
     |exact⟨b.1,qg b.2 λe k he=>by
      cases e<;>first|exact he|exact c _ _ _ he|exact(let⟨a,w,h⟩:=he;⟨a,w,c _ _ _ h⟩)⟩
   |halt l j=>rw [d] at b;cases l<;>first|exact b|exact c _ _ _ b
  .rename_i hw;rw [aI hw] at h;exact h
theorem hj.post{hM:Exit->Act->World->Prop}(b:∀e a w,Q e a w->hM e a w):∀(k:Nat)(l:Array Bool)(a:Act)(w:World),hj P F ops bb Q k l a w->hj P F ops bb hM k l a w
 |0,_,_,_,h=>⟨h.1,b _ _ _ h.2⟩
 |k+1,_,_,_,h=>⟨λc=>b _ _ _ (h.1 c),λi d=>IW b (wpOpIn_mono (λa w h=>⟨h.1,hj.post b k _ a w h.2⟩) (h.2 i d))⟩
def jw(P:Program)(ops:Array Oper)(bb:World->Prop)(I:Oper)(v:Value)(a:Act):Prop:=
 if Region.wanted I (yielded ops a.tmps)=true then∀w,bb w->(execOp a.eval I).run P w= .ok (.value v) w else v=undef
theorem rY{r:Option Nat}(f:FuncId):(jU r).fn f:=trivial
theorem jw.op{r:Option Nat}{i:Nat}{I:Oper}{v:Value}{a:Act}{w:World}{K:Act->World->Prop}(d:ops[i]? =some I)(aJ:∀c,I.op≠.defer c)(h:jw P ops bb I v a)(hw:bb w)(k:K (a.put I.dst v) w):wpOpIn (jU r) 0 P ops Q i K a w:=by
 unfold jw at h;unfold wpOpIn;rw [d];dsimp only;by_cases b:Region.wanted I (yielded ops a.tmps)=true
 .rw [a6 b] at h⊢;refine⟨λf _=>rY f,?_⟩;rw [nW _ _ _ aJ,h w hw];exact k
 .rw [aI b] at h⊢;rw [<-h];exact⟨λf _=>rY f,k⟩
theorem jw.fW{I:Oper}{v:Value}{a b:Act}(h:jw P ops bb I v a)(he:execOp b.eval I=execOp a.eval I)(hw:Region.wanted I (yielded ops b.tmps)=Region.wanted I (yielded ops a.tmps)):jw P ops bb I v b:=by
 unfold jw at*;rw [he,hw];exact h
theorem Gp{r:Option Nat}{J:Nat}{x y:Oper}{v:Value}{a:Act}{w:World}{K:Act->World->Prop}(z:ops[J]? =some y)(s:x.apart ops y=true)(o:∀cs b,x.op≠.select cs b)(B:∀cs b,y.op≠.select cs b)(k:∀c,y.op≠.defer c)
 (j:∀c a w,Q (.panic c) (a.put x.dst v) w->Q (.panic c) a w) (g:jw P ops bb x v a) (h:wpOpIn (jU r) 0 P ops Q J K (a.put x.dst v) w):
 wpOpIn (jU r) 0 P ops Q J (λa w=>jw P ops bb x v a/\K (a.put x.dst v) w) a w:=by
 obtain⟨l,q,i⟩:=Oper.apart_spec s;have still:∀b:Act,jw P ops bb x v b->∀u,jw P ops bb x v (b.put y.dst u):=λb t u=>t.fW (execOp_put x o b y.dst u i) (wanted_put x b y.dst u i)
 have swap:∀(b:Act)(u:Value),K ((b.put x.dst v).put y.dst u)=K ((b.put y.dst u).put x.dst v):=λb u=>by rw [Act.put_comm b v u q]
 have same:execOp (a.put x.dst v).eval y=execOp a.eval y:=execOp_put y B a x.dst v l;unfold wpOpIn at h⊢;rw [z] at h⊢;dsimp only at h⊢;rw [wanted_put y a x.dst v l] at h;by_cases n:Region.wanted y (yielded ops a.tmps)=true
 .rw [a6 n] at h⊢;refine⟨λf _=>rY f,?_⟩;have d:=h.2;rw [nW _ _ _ k,same] at d;rw [nW _ _ _ k];cases m:(execOp a.eval y).run P w with
  |ok A C=>
   rw [m] at d
   cases A<;>dsimp only [Oper.uponIn] at d⊢<;>first
    |exact d.elim
    |exact⟨still a g _,by rw [<-swap];exact d⟩
    |(refine⟨d.1,lJ d.2 λe p he=>?_⟩
      cases e with
      |returned u=>exact⟨still a g u,by rw [<-swap];exact he⟩
      |panicked c=>exact j _ _ _ he
      |outgrown=>exact he)
    |(refine⟨d.1,qg d.2 λe p he=>?_⟩
      cases e with
      |returned u=>exact⟨still a g u,by rw [<-swap];exact he⟩
      |panicked c=>exact j _ _ _ he
      |outgrown=>exact he)
    |exact⟨d.1,RowsIn.mono d.2 λu p he=>⟨still a g u,by rw [<-swap];exact he⟩⟩
    |(refine⟨jw.fW g (execOp_put x o {a with defers:=_} y.dst undef i) (wanted_put x {a with defers:=_} y.dst undef i),?_⟩
      rw [<-swap,<-Act.put_defers];exact d)
  |halt D C=>
   rw [m] at d
   cases D<;>dsimp only [Oper.uponIn] at d⊢<;>first
    |exact d.elim
    |exact j _ _ _ d
 .rw [aI n] at h⊢;exact⟨λf _=>rY f,still a g _,by rw [<-swap];exact h.2⟩
theorem hj.first{r:Option Nat}{i:Nat}{x:Oper}{v:Value}(f:ops[i]? =some x)(aM:∀(J:Nat)(I:Oper)cs b,ops[J]? =some I->I.op≠.select cs b)(u:∀(J:Nat)(I:Oper)c,ops[J]? =some I->I.op≠.defer c)(V:∀c a w,Q (.panic c) (a.put x.dst v) w->Q (.panic c) a w):
 ∀(k:Nat)(l:Array Bool)(a:Act)(w:World),bb w->l9 ops l->
  (∀J y,ops[J]? =some y->J≠i->l.getD J true=false->(∀e∈y.after,Region.binds .any e=true->e.on≠i)->x.apart ops y=true)->
  i∈Region.ready .any ops l->jw P ops bb x v a->hj P (jU r) ops bb Q k (l.setIfInBounds i true) (a.put x.dst v) w->hj P (jU r) ops bb Q (k+1) l a w:=by
 intro k;induction k with
 |zero=>
  intro l a w o _ _ j q h;refine⟨λt=>absurd (t▸j) (by simp),λJ g=>?_⟩;rcases oQ (J=i) with rfl|d
  .exact q.op f (λc=>u _ _ c f) o ⟨.inr o,h⟩
  .have C:=ready_mono g d;rw [h.1] at C;simp at C
 |succ k X=>
  intro l a w o B bw j q h;refine⟨λt=>absurd (t▸j) (by simp),λJ g=>?_⟩;rcases oQ (J=i) with rfl|d
  .exact q.op f (λc=>u _ _ c f) o ⟨.inr o,h⟩
  .obtain⟨F,y,s,K⟩:=oP.1 g;have A:=(oP.1 j).1
   have U:∀e∈y.after,Region.binds .any e=true->e.on≠i:=λe he L M=>by
    have n:=K e he L;subst M;rw [qe] at n A;cases E:l[e.on]? with
    |none=>rw [E] at n;exact absurd n (by decide)
    |some b=>rw [E] at n A;exact absurd (n.symm.trans A) (by decide)
   have H:=Gp s (bw J y s d F U) (λcs b=>aM i x cs b f) (λcs b=>aM J y cs b s) (λc=>u J y c s) V q (h.2 J (ready_mono g d))
   have T:¬lX ops J=true:=λO=>by
    exact lX.no O f j g d B
   refine wpOpIn_mono (λG aK p=>⟨p.2.1,X (l.setIfInBounds J true) G aK (p.2.1.resolve_left T) (B.set g) ?_ (ready_mono j (Ne.symm d)) p.1 ?_⟩) H
   .intro m z W R D S;refine bw m z W R ?_ S;rcases oQ (J=m) with rfl|N
    .exact F
    .rw [getD_set_ne true N] at D;exact D
   .rw [Array.setIfInBounds_comm _ _ d];exact p.2.2
end
def eS(P:Program)(n:Fr)(ops:Array Oper)(bb:World->Prop)(k:Nat)(l:Array Bool)(Z:Env)(w:World)(Q:d6):Prop:=
 ∀a,cK Z n.n a->Marks n w a.defers->hj P (jU n.r) ops bb (lift n w Q) k l a w
section
variable {P:Program} {n:Fr} {Z:Env} {w:World} {Q:d6} {ops:Array Oper} {bb:World->Prop} {k:Nat} {l:Array Bool}
abbrev h1(Q:d6):d6:=λe Z w=>match e with
 | .panic _=>False
 |e=>Q e Z w
theorem B5 [hm:rq P]{id:Nat}{ops:Array Oper}(bb:World->Prop)(h:eS P n ops bb ops.size (Array.replicate ops.size false) Z w.drew (h1 Q)):W P n (.region id ops true) Z w Q:=λa c f=>by
 refine kJ (wpIn_region_any (Q:=lift n w.drew (h1 Q)) hm.h ?_) λe a j⟨aa,d,i,g,b⟩=>⟨(cV.drew w).trans aa,d,i,g,?_⟩
 .exact hj.any _ _ _ _ (h a c (f.fW (cV.drew w)))
 .cases e<;>first|exact b|exact False.elim b
def j4(ops:Array Oper)(l:Array Bool)(i:Nat):Bool:=Region.free .any ops l i&&qs ops l
theorem j4.free{ops:Array Oper}{l:Array Bool}{i:Nat}(h:j4 ops l i=true):Region.free .any ops l i=true:=by unfold j4 at h;simp only [Bool.and_eq_true] at h;exact h.1
theorem j4.closed{ops:Array Oper}{l:Array Bool}{i:Nat}(h:j4 ops l i=true):l9 ops l:=by unfold j4 at h;simp only [Bool.and_eq_true] at h;exact qs.spec h.2
theorem wE(i:Nat){I:Oper}{v:Value}(e:ops[i]? =some I)(aM:calm ops=true)(bw:j4 ops l i=true)(o:(Region.ready .any ops l).contains i=true)
 (j:cY ops Z I.guard=some true) (g:c8 n I.dst=true) (f:bb w)
 (p:∀w,bb w->∀a,cK Z n.n a->(execOp a.eval I).run P w= .ok (.value v) w) (h:eS P n ops bb k (l.setIfInBounds i true) (cG Z I.dst v) w (h1 Q)):eS P n ops bb (k+1) l Z w (h1 Q):=λa b hm=>by
 refine hj.first (v:=v) e (Region.noSelect_spec (calm.Ax aM)) (λJ I c m=>calm.def aM m c) (λc a w d=>?_) k l a w f (j4.closed bw) (Region.free_spec e (j4.free bw)) (by simpa using o) ?_ (h _ (b.cG g v) (hm.put _ _))
 .obtain⟨_,_,q,_,d⟩:=d;exact d.elim
 .unfold jw;rw [a6 (n2 b j)];exact λw hw=>p w hw a b
theorem BN(i:Nat){I:Oper}(e:ops[i]? =some I)(aM:calm ops=true)(bw:j4 ops l i=true)(o:(Region.ready .any ops l).contains i=true)
 (j:cY ops Z I.guard=some false) (g:c8 n I.dst=true) (f:bb w) (h:eS P n ops bb k (l.setIfInBounds i true) (cG Z I.dst undef) w (h1 Q)):eS P n ops bb (k+1) l Z w (h1 Q):=λa d hm=>by
 refine hj.first (v:=undef) e (Region.noSelect_spec (calm.Ax aM)) (λJ I c m=>calm.def aM m c) (λc a w b=>?_) k l a w f (j4.closed bw) (Region.free_spec e (j4.free bw)) (by simpa using o) ?_ (h _ (d.cG g undef) (hm.put _ _))
 .obtain⟨_,_,p,_,b⟩:=b;exact b.elim
 .unfold jw;rw [aI (by rw [n2 d j];decide)]
theorem Bh{F:Fence}{i:Nat}{I:Oper}{a:Act}{K:Act->World->Prop}{Q:Exit->Act->World->Prop}(d:ops[i]? =some I)
 (h:wpListIn F 0 P ops (λe a w=>match e with| .normal=>K a w|e=>Q e a w) [I] a w):wpOpIn F 0 P ops Q i K a w:=by
 unfold wpOpIn;rw [d];dsimp only;unfold wpListIn at h;split
 .rename_i hw;rw [a6 hw] at h;refine⟨h.1,?_⟩;have b:=h.2;cases c:(I.semAt F.round a.eval).run P w with
  |ok f g=>
   rw [c] at b
   cases f<;>first
    |exact b
    |exact⟨b.1,lJ b.2 λe j he=>by cases e<;>exact he⟩
    |exact⟨b.1,qg b.2 λe j he=>by cases e<;>exact he⟩
  |halt k g=>rw [c] at b;cases k<;>exact b
 .rename_i hw;rw [aI hw] at h;exact h
theorem tN{i:Nat}{I:Oper}(d:ops[i]? =some I)
 (h:O P n ops [I] Z w (λe Z w=>match e with| .normal=>bb w/\eS P n ops bb k (l.setIfInBounds i true) Z w Q|_=>False)) {a:Act} (c:cK Z n.n a) (hm:Marks n w a.defers):
 wpOpIn (jU n.r) 0 P ops (lift n w Q) i (λa aK=>(lX ops i=true\/bb aK)/\hj P (jU n.r) ops bb (lift n w Q) k (l.setIfInBounds i true) a aK) a w:=
 Bh d (kZ (λe a aK⟨aa,g,m,j,b⟩=>by
  cases e<;>first|exact⟨.inr b.1,hj.post (λ_ _ _ f=>lift.from aa f) _ _ _ _ (b.2 _ j g)⟩|exact False.elim b) _ _ _ (h a c hm))
theorem wD(i:Nat){I:Oper}(g:ops[i]? =some I)(c:Region.ready .any ops l=[i])
 (h:O P n ops [I] Z w (λe Z w=>match e with| .normal=>bb w/\eS P n ops bb k (l.setIfInBounds i true) Z w Q|_=>False)):eS P n ops bb (k+1) l Z w Q:=λa f hm=>by
 refine⟨λd=>absurd (c▸d) (by simp),λJ b=>?_⟩;rw [c] at b;obtain rfl:=fT.1 b;exact tN g h f hm
theorem wC(i:Nat){I:Oper}(m:ops[i]? =some I)(f:Region.ready .any ops l=[i])(b:lX ops i=true)
 (h:O P n ops [I] Z w (λe Z w=>match e with| .normal=>eS P n ops bb k (l.setIfInBounds i true) Z w Q|_=>False)):eS P n ops bb (k+1) l Z w Q:=λa j hm=>by
 refine⟨λg=>absurd (f▸g) (by simp),λJ c=>?_⟩;rw [f] at c;obtain rfl:=fT.1 c
 exact Bh m (kZ (λe a aK⟨aa,o,q,p,d⟩=>by
  cases e<;>first|exact⟨.inl b,hj.post (λ_ _ _ b=>lift.from aa b) _ _ _ _ (d _ p o)⟩|exact False.elim d) _ _ _ (h a j hm))
end
section
variable {P:Program} {n:Fr} {Z:Env} {w:World} {Q:d6} {ops:Array Oper} {bb:World->Prop} {rest:List Oper} {I:Oper}
end
end Go.Proofs.YtngjfjhomikplaaGreatDoor.R
namespace Go.Proofs.YtngjfjhomikplaaGreatDoor.R
open Go.Proofs.Tryz Go
def bv(x:UInt8):Value:=.int .u8 x.toNat
def au(l:List UInt8):List Value:=l.map bv
def ae(n:Int):Value:=.int .i64 n
theorem uw(a b:List UInt8):au (a++b)=au a++au b:=by simp [au]
@[simp] theorem cL(a:List UInt8):(au a).length=a.length:=by simp [au]
theorem eg(l:List UInt8):∀u∈au l,u.oneCell'=true:=by
 intro u hu;obtain⟨x,_,rfl⟩:=dV.1 hu;rfl
theorem xw{l:List UInt8}{i:Nat}{x:UInt8}(h:l[i]? =some x):(au l)[i]? =some (bv x):=by simp [au,h]
def enc(u:Nat):List UInt8:=if u<128 then [UInt8.ofNat u] else UInt8.ofNat (u%128+128)::enc (u/128)
termination_by u
decreasing_by omega
theorem n0{u:Nat}(h:u<128):enc u=[UInt8.ofNat u]:=by rw [enc,a6 h]
theorem o2{u:Nat}(h:¬u<128):enc u=UInt8.ofNat (u%128+128)::enc (u/128):=by rw [enc,aI h]
def fH(n:Int):Nat:=(max 0 (min n 4611686018427387904)).toNat
theorem ng(n:Int):fH n<=4611686018427387904:=by unfold fH;omega
def d7(cS:List Int):List UInt8:=cS.flatMap λn=>enc (fH n)
theorem sd:∀(k u:Nat),u<128^(k+1)->(enc u).length<=k+1:=by
 intro k;induction k with
 |zero=>intro u h;rw [n0 (by omega)];simp
 |succ k a=>
  intro u h;by_cases hu:u<128
  .rw [n0 hu];simp
  .rw [o2 hu,eu];have:u/128<128^(k+1):=by rw [Nat.pow_succ] at h;omega
   have:=a _ this;omega
theorem ml(u:Nat)(h:u<=4611686018427387904):(enc u).length<=9:=sd 8 u (by rw [show(128:Nat)^(8+1)=9223372036854775808 from by decide];omega)
theorem se(u:Nat):0<(enc u).length:=by
 by_cases hu:u<128
 .rw [n0 hu];simp
 .rw [o2 hu];simp
theorem DZ:d7 []=[]:=rfl
theorem x2(n:Int)(cS:List Int):d7 (n::cS)=enc (fH n)++d7 cS:=rfl
theorem x1(a b:List Int):d7 (a++b)=d7 a++d7 b:=by simp [d7]
theorem fU(cS:List Int):(d7 cS).length<=9*cS.length:=by
 induction cS with
 |nil=>simp [d7]
 |cons n cS a=>
  rw [x2,b0,List.length_cons];have:=ml (fH n) (ng n);omega
theorem Gz:∀x:Fin 256,(BitVec.ofNat 8 x.val|||128#8).toNat=x.val%128+128:=by decide+kernel
theorem zk(u:Nat):IntKind.u8.wrap ((BitVec.ofInt IntKind.u8.bits (IntKind.u8.wrap (u:Int))|||BitVec.ofInt IntKind.u8.bits 128).toNat:Int)=((UInt8.ofNat (u%128+128)).toNat:Int):=by
 have a:IntKind.u8.wrap (u:Int)=((u%256:Nat):Int):=by rw [mi];omega
 have b:BitVec.ofInt IntKind.u8.bits (IntKind.u8.wrap (u:Int))=BitVec.ofNat 8 (u%256):=by rw [a];exact nU ..
 have c:BitVec.ofInt IntKind.u8.bits 128=(128#8:BitVec 8):=rfl;have d:=Gz ⟨u%256,jF _ (by decide)⟩;rw [b,c];have e:(BitVec.ofNat 8 (u%256)|||128#8).toNat=u%128+128:=by rw [d];simp
 have f:(UInt8.ofNat (u%128+128)).toNat=u%128+128:=by rw [oR];omega
 rw [f];show IntKind.u8.wrap (((BitVec.ofNat 8 (u%256)|||128#8:BitVec 8).toNat:Nat):Int)=_;rw [e,mi];omega
theorem sA(u:Nat):IntKind.u8.wrap (u:Int)=((UInt8.ofNat u).toNat:Int):=by
 rw [mi];simp [oR]
theorem s8(u:Nat):(u:Int).fdiv (2^(min (7:Int).toNat IntKind.u64.bits))=((u/128:Nat):Int):=by
 have:(2:Int)^(min (7:Int).toNat IntKind.u64.bits)=128:=by decide
 rw [this,uc _ (by decide)];omega
theorem Dp(n:Int):IntKind.u64.wrap (max 0 (min n 4611686018427387904))=((fH n:Nat):Int):=by
 rw [lK];unfold fH;omega
theorem cE(k:Nat)(h:k<9223372036854775807):evalBin .add .i64 (k:Int) 1=some (.int .i64 ((k+1:Nat):Int)):=by
 have:IntKind.i64.wrap ((k:Int)+1)=((k+1:Nat):Int):=by rw [jY];omega
 show some (Value.int .i64 (IntKind.i64.wrap ((k:Int)+1)))=_;rw [this]
theorem nf{e:TypeId}{v:Value}{d:List UInt8}{x:UInt8}{ag:List Chunk}(h:Row e 1 v (d.length+1) (au d++[bv x]) ag):Row e 1 v (d++[x]).length (au (d++[x])) ag:=by
 simpa [au] using h
theorem oX{e:TypeId}{v:Value}{d y:List UInt8}{m:Nat}{ag:List Chunk}(h:Row e 1 v (d.length+m) (au d++au y) ag)(hm:m=y.length):Row e 1 v (d++y).length (au (d++y)) ag:=by
 subst hm;simpa [au] using h
theorem Da{x y:UInt8}(h:(x.toNat:Int)=y.toNat):x=y:=UInt8.toNat_inj.1 (by omega)
def eY(c:BitVec 32):Value:=.int .u32 c.toNat
theorem ofInt_u32(v:BitVec 32):BitVec.ofInt IntKind.u32.bits (v.toNat:Int)=v:=by
 show BitVec.ofInt 32 (v.toNat:Int)=v;rw [nU,BitVec.ofNat_toNat];simp
theorem tx(v:BitVec 32):IntKind.u32.wrap (v.toNat:Int)=v.toNat:=by
 rw [IntKind.wrap_u32];have:=v.isLt;omega
theorem hF(x y:BitVec 32):evalBin .xor .u32 (x.toNat:Int) (y.toNat:Int)=some (eY (x^^^y)):=by
 show some (Value.int .u32 (IntKind.u32.wrap ((BitVec.ofInt IntKind.u32.bits (x.toNat:Int)^^^BitVec.ofInt IntKind.u32.bits (y.toNat:Int)).toNat:Int)))=_;rw [ofInt_u32,ofInt_u32];exact aG (λz=>some (Value.int .u32 z)) (tx _)
theorem lT(x y:BitVec 32):evalBin .and .u32 (x.toNat:Int) (y.toNat:Int)=some (eY (x&&&y)):=by
 show some (Value.int .u32 (IntKind.u32.wrap ((BitVec.ofInt IntKind.u32.bits (x.toNat:Int)&&&BitVec.ofInt IntKind.u32.bits (y.toNat:Int)).toNat:Int)))=_;rw [ofInt_u32,ofInt_u32];exact aG (λz=>some (Value.int .u32 z)) (tx _)
theorem x8(x:BitVec 32):qz .xor .u32 (x.toNat:Int)=some (eY (~~~x)):=by
 have hm:(if IntKind.u32.signed=true then(-1:Int) else IntKind.u32.max)=((0xffffffff#32:BitVec 32).toNat:Int):=by decide
 show some (Value.int .u32 (IntKind.u32.wrap ((BitVec.ofInt IntKind.u32.bits (if IntKind.u32.signed=true then(-1:Int) else IntKind.u32.max)^^^BitVec.ofInt IntKind.u32.bits (x.toNat:Int)).toNat:Int)))=_;rw [hm,ofInt_u32,ofInt_u32];have:(0xffffffff#32^^^x:BitVec 32)= ~~~x:=by rw [show(0xffffffff#32:BitVec 32)=BitVec.allOnes 32 from by decide,BitVec.allOnes_xor]
 show some (Value.int .u32 (IntKind.u32.wrap ((0xffffffff#32^^^x:BitVec 32).toNat:Int)))=_;rw [this];exact aG (λz=>some (Value.int .u32 z)) (tx _)
theorem nj(b:UInt8):IntKind.u32.wrap (b.toNat:Int)=((BitVec.ofNat 32 b.toNat).toNat:Int):=by
 rw [IntKind.wrap_u32,m8];have:=b.toNat_lt;omega
def k4(w:World)(A:Option Addr)(rows:List (List UInt8))(F:List Nat):Prop:=B1 w A (rows.map au) F
theorem k4.at{w:World}{F:List Nat}{A:Option Addr}{rows:List (List UInt8)}(h:k4 w A rows F)(J:Nat)(i:J<rows.length):
 ∃(U:List Value)(a:Option Addr)(ci:Nat),Rd w A U/\bT A U F/\U[J]? =some (Value.slice a rows[J].length ci)/\Rd w a (au rows[J])/\bT a (au rows[J]) F:=by
 obtain⟨U,j,b,c,d⟩:=h;obtain⟨a,ci,e,f,g⟩:=d J (au rows[J]) (by simp [i]);exact⟨U,a,ci,b,c,by simpa using e,f,g⟩
def hC(x:List UInt8):List UInt8:=enc x.length++x
def jJ(rows:List (List UInt8)):List UInt8:=rows.flatMap hC
def ja(rows:List (List UInt8)):Nat:=(rows.map λr=>r.length+10).sum
theorem jI(x:List UInt8)(h:x.length<=4611686018427387904):(hC x).length<=x.length+9:=by
 have:=ml _ h;simp only [hC,b0];omega
theorem wt(x:List UInt8)(r:List (List UInt8)):ja (x::r)=x.length+10+ja r:=rfl
theorem IX(a b:List (List UInt8)):ja (a++b)=ja a+ja b:=by simp [ja]
theorem DW:∀(rows:List (List UInt8)),ja rows<=4611686018427387904->(jJ rows).length+rows.length<=ja rows:=by
 intro rows;induction rows with
 |nil=>intro _;simp [jJ,ja]
 |cons x r b=>
  intro h;rw [wt] at h⊢;have a:=b (by omega);have c:=jI x (by omega);simp only [jJ,jZ,b0,List.length_cons] at a⊢;omega
theorem IY(rows:List (List UInt8)):rows.length<=ja rows:=by
 induction rows with
 |nil=>simp
 |cons x r a=>rw [wt,eu];omega
theorem IZ(rows:List (List UInt8))(J:Nat)(c:J<rows.length):ja (rows.take J)+rows[J].length+10<=ja rows:=by
 have a:rows=rows.take J++(rows[J]::rows.drop (J+1)):=by rw [<-kp c,m6]
 have b:=aG ja a;rw [IX,wt] at b;omega
theorem xE(k:Nat)(h:k<=4611686018427387904):fH (k:Int)=k:=by unfold fH;omega
theorem DX(rows:List (List UInt8))(J:Nat)(a:J<rows.length):jJ (rows.take (J+1))=jJ (rows.take J)++hC rows[J]:=by
 unfold jJ;rw [List.take_succ_eq_append_getElem a,List.flatMap_append];simp only [List.flatMap_cons,List.flatMap_nil,List.append_nil]
theorem uU(u:Nat)(h:u<=4611686018427387904):evalBin .and .u64 (u:Int) 127=some (.int .u64 ((u%128:Nat):Int)):=by
 show some (Value.int .u64 (IntKind.u64.wrap ((BitVec.ofInt IntKind.u64.bits (u:Int)&&&BitVec.ofInt IntKind.u64.bits 127).toNat:Int)))=_;have a:BitVec.ofInt IntKind.u64.bits (u:Int)=BitVec.ofNat 64 u:=nU ..;have b:BitVec.ofInt IntKind.u64.bits 127=(127#64:BitVec 64):=rfl
 have c:((BitVec.ofNat 64 u&&&127#64:BitVec 64)).toNat=u%128:=by
  rw [BitVec.toNat_and,m8,qh (by omega),show(127#64:BitVec 64).toNat=2^7-1 from by decide,Nat.and_two_pow_sub_one_eq_mod]
 rw [a,b];show some (Value.int .u64 (IntKind.u64.wrap (((BitVec.ofNat 64 u&&&127#64:BitVec 64)).toNat:Int)))=_;rw [c,lK]
 congr 2
 omega
theorem vu(u:Nat):IntKind.u8.wrap ((BitVec.ofInt IntKind.u8.bits (IntKind.u8.wrap ((u%128:Nat):Int))|||BitVec.ofInt IntKind.u8.bits 128).toNat:Int)=((UInt8.ofNat (u%128+128)).toNat:Int):=by
 rw [zk,Nat.mod_mod]
theorem D0(cS:List Int)(J:Nat)(a:J<cS.length):d7 (cS.take (J+1))=d7 (cS.take J)++enc (fH cS[J]):=by
 rw [fr a,x1];simp only [x2,DZ,List.append_nil]
theorem k4.one{w:World}{F:List Nat}{A a:Option Addr}{x:List UInt8}{ci n:Nat}(c:Rd w A [.slice a n ci])(aJ:n=x.length)(d:bT A [.slice a n ci] F)(e:Rd w a (au x))(f:bT a (au x) F):k4 w A [x] F:=by
 subst aJ;refine⟨[.slice a x.length ci],j,c,d,λi xs b=>?_⟩;cases i with
 |zero=>simp at b;subst b;exact⟨a,ci,by simp,e,f⟩
 |succ i=>simp at b
def View(v:Value)(aD:List UInt8)(G:List Chunk):Prop:=
 ∃(A:Option Addr)(c:Nat),v=Value.slice A aD.length c/\aD.length<=c/\c<=maxLen/\∀(o w:World)(F:List Nat)(ad:List (List Chunk)),C o F (G::ad) w->Rd w A (au aD)/\bT A (au aD) (av ad)
theorem View.nil(G:List Chunk):View (.slice none 0 0) [] G:=⟨none,0,j,cI _,b4 _,λ_ _ _ _ _=>⟨Rd.nil _ _,λh=>(h j).elim⟩⟩
theorem View.ofRow{e:TypeId}{v:Value}{aD:List UInt8}{G:List Chunk}(h:Row e 1 v aD.length (au aD) G):View v aD G:=by
 obtain⟨A,c,a,d,f⟩:=h.form;refine⟨A,c,a,d,f,λo w F ad j=>?_⟩;obtain⟨gY,k,b,_,_,g,i⟩:=h.rd j;rw [a] at b;cases b;exact⟨g,i⟩
theorem Rd.drop{w:World}{A:Option Addr}{U:List Value}(h:Rd w A U)(k:Nat):Rd w (A.map (·.add k)) (U.drop k):=λi v d=>by
 rw [lL] at d;obtain⟨a,rfl,e⟩:=h _ _ d;refine⟨_,j,?_⟩;rw [show(a.add k).add i=a.add (k+i) from ?_]
 .exact e
 .unfold Addr.add;by_cases b:k=0
  .subst b;simp
  .by_cases c:i=0
   .subst c;simp [b]
   .rw [aI b,aI c,aI (by omega)];simp [rT]
theorem Rd.take{w:World}{A:Option Addr}{U:List Value}(h:Rd w A U)(k:Nat):Rd w A (U.take k):=λi v a=>by
 rw [jE] at a;split at a
 .exact h i v a
 .cases a
theorem ux(l:List UInt8)(k:Nat):au (l.drop k)=(au l).drop k:=by simp [au,List.map_drop]
theorem xx(l:List UInt8)(k:Nat):au (l.take k)=(au l).take k:=by simp [au,List.map_take]
theorem View.drop{A:Option Addr}{aD:List UInt8}{c k:Nat}{G:List Chunk}(h:View (.slice A aD.length c) aD G)(aa:k<=aD.length):
 View (.slice (if c=k then A else A.map (·.add (k*1))) (aD.length-k) (c-k)) (aD.drop k) G:=by
 obtain⟨gY,p,n,q,r,f⟩:=h;cases n;by_cases d:c=k
 .rw [a6 d];have:aD.drop k=[]:=List.drop_eq_nil_of_le (by omega);rw [this];refine⟨A,c-k,by simp;omega,by simp,by omega,λ_ _ _ _ _=>⟨Rd.nil _ _,λh=>(h j).elim⟩⟩
 .rw [aI d,gG];refine⟨_,c-k,by rw [iT],by rw [iT];omega,by omega,λo w F ad l=>?_⟩;obtain⟨g,i⟩:=f o w F ad l;refine⟨by rw [ux];exact g.drop k,λm a b=>?_⟩;cases A with
  |none=>cases b
  |some e=>
   cases b;rw [wY];refine i (λhe=>m ?_) e j;rw [ux,he,List.drop_nil]
abbrev ee:=Option (List UInt8)
def ee.left(s:ee):List UInt8:=s.getD []
def hN(v:Value)(b:Bool)(s:ee)(G:List Chunk):Prop:=b=s.isNone/\View v s.left G
theorem hN.bad(G:List Chunk):hN (.slice none 0 0) true none G:=⟨j,View.nil G⟩
def lR(i u:Nat):List UInt8->Option (Nat×List UInt8)
 |[]=>none
 |c::r=>if 9<=i\/(0<i/\c=0) then none else
  if c.toNat<128 then(if u+c.toNat%128*128^i>4611686018427387904 then none else some (u+c.toNat%128*128^i,r))
  else lR (i+1) (u+c.toNat%128*128^i) r
def dec(l:List UInt8):Option (Nat×List UInt8):=lR 0 0 l
def eb(s:ee):Nat×ee:=match s with
 |none=>(0,none)
 |some aD=>match dec aD with
  |some (u,r)=>(u,some r)
  |none=>(0,none)
def iO(s:ee)(n:Int):List UInt8×ee:=match s with
 |none=>([],none)
 |some aD=>if n<0\/n>aD.length then([],none) else(aD.take n.toNat,some (aD.drop n.toNat))
def lu(s:ee):List UInt8×ee:=iO (eb s).2 (eb s).1
theorem q2{s:ee}(h:dec s.left=none):eb s=(0,none):=by
 cases s with
 |none=>rfl
 |some l=>unfold eb;dsimp only;rw [show dec l=none from h]
theorem Ao{s:ee}{u:Nat}{r:List UInt8}(h:dec s.left=some (u,r)):eb s=(u,some r):=by
 cases s with
 |none=>rw [show ee.left none=[] from j] at h;simp [dec,lR] at h
 |some l=>unfold eb;dsimp only;rw [show dec l=some (u,r) from h]
theorem lS(i u:Nat)(c:UInt8)(r:List UInt8):lR i u (c::r)=if 9<=i\/(0<i/\c=0) then none else
 if c.toNat<128 then(if u+c.toNat%128*128^i>4611686018427387904 then none else some (u+c.toNat%128*128^i,r))
 else lR (i+1) (u+c.toNat%128*128^i) r:=rfl
theorem Cq:∀x:Fin 256,(BitVec.ofNat 8 x.val&&&127#8).toNat=x.val%128:=by decide+kernel
theorem x7(c:UInt8):evalBin .and .u8 (c.toNat:Int) 127=some (.int .u8 ((c.toNat%128:Nat):Int)):=by
 show some (Value.int .u8 (IntKind.u8.wrap ((BitVec.ofInt IntKind.u8.bits (c.toNat:Int)&&&BitVec.ofInt IntKind.u8.bits 127).toNat:Int)))=_;have a:BitVec.ofInt IntKind.u8.bits (c.toNat:Int)=BitVec.ofNat 8 c.toNat:=nU ..;have b:BitVec.ofInt IntKind.u8.bits 127=(127#8:BitVec 8):=rfl;have d:=Cq ⟨c.toNat,c.toNat_lt⟩;rw [a,b];show some (Value.int .u8 (IntKind.u8.wrap (((BitVec.ofNat 8 c.toNat&&&127#8:BitVec 8)).toNat:Int)))=_;rw [d,mi]
 congr 2
 show((c.toNat%128:Nat):Int)%256=_;omega
theorem ni(x:Nat)(h:x<18446744073709551616):IntKind.u64.wrap (x:Int)=(x:Int):=by rw [lK];omega
theorem xJ(x:Nat)(h:x<9223372036854775808):IntKind.i64.wrap (x:Int)=(x:Int):=by rw [jY];omega
theorem zo(i:Nat)(h:i<=9):evalBin .mul .i64 7 (i:Int)=some (.int .i64 ((7*i:Nat):Int)):=by
 have a:IntKind.i64.wrap (7*(i:Int))=((7*i:Nat):Int):=by rw [jY];omega
 show some (Value.int .i64 (IntKind.i64.wrap (7*(i:Int))))=_;rw [a]
theorem zX{i:Nat}(h:i<=8):128^i<=72057594037927936:=by
 have:=Nat.pow_le_pow_right (show 0<128 by decide) h;rw [show(128:Nat)^8=72057594037927936 from by decide] at this;exact this
theorem wn(i:Nat):2^(7*i)=128^i:=by rw [Nat.pow_mul]
theorem AD(x i:Nat)(f:x<128)(d:i<=8):evalShift .shl .u64 (x:Int) ((7*i:Nat):Int)=some (.int .u64 ((x*128^i:Nat):Int)):=by
 show some (Value.int .u64 (IntKind.u64.wrap ((x:Int)*2^(min ((7*i:Nat):Int).toNat IntKind.u64.bits))))=_
 have a:min ((7*i:Nat):Int).toNat IntKind.u64.bits=7*i:=by
  rw [m9,show IntKind.u64.bits=64 from j];omega
 have b:(x:Int)*2^(7*i)=((x*128^i:Nat):Int):=by rw [<-wn];push_cast;rfl
 have c:=zX d;have e:x*128^i<=127*72057594037927936:=rU (by omega) c;rw [a,b,ni _ (by omega)]
theorem zJ(u x i:Nat)(hu:u<128^i)(g:x<128)(e:i<=8):evalBin .or .u64 (u:Int) ((x*128^i:Nat):Int)=some (.int .u64 ((u+x*128^i:Nat):Int)):=by
 show some (Value.int .u64 (IntKind.u64.wrap ((BitVec.ofInt IntKind.u64.bits (u:Int)|||BitVec.ofInt IntKind.u64.bits ((x*128^i:Nat):Int)).toNat:Int)))=_;have c:=zX e;have f:x*128^i<=127*72057594037927936:=rU (by omega) c;have a:BitVec.ofInt IntKind.u64.bits (u:Int)=BitVec.ofNat 64 u:=nU ..;have b:BitVec.ofInt IntKind.u64.bits ((x*128^i:Nat):Int)=BitVec.ofNat 64 (x*128^i):=nU ..
 have d:(BitVec.ofNat 64 u|||BitVec.ofNat 64 (x*128^i)).toNat=u+x*128^i:=by
  rw [BitVec.toNat_or,m8,m8,qh (by omega),qh (by omega),<-wn];have:=Nat.shiftLeft_add_eq_or_of_lt (show u<2^(7*i) by rw [wn];exact hu) x;rw [Nat.shiftLeft_eq] at this;rw [Nat.or_comm,<-this,Nat.add_comm]
 rw [a,b];show some (Value.int .u64 (IntKind.u64.wrap ((BitVec.ofNat 64 u|||BitVec.ofNat 64 (x*128^i)).toNat:Int)))=_;rw [d,ni _ (by omega)]
theorem uW(x y:UInt8):evalBin .xor .u8 (x.toNat:Int) (y.toNat:Int)=some (bv (x^^^y)):=by
 have a:∀c:UInt8,BitVec.ofInt IntKind.u8.bits (c.toNat:Int)=BitVec.ofNat 8 c.toNat:=λc=>nU ..
 show some (Value.int .u8 (IntKind.u8.wrap ((BitVec.ofInt IntKind.u8.bits (x.toNat:Int)^^^BitVec.ofInt IntKind.u8.bits (y.toNat:Int)).toNat:Int)))=_;rw [a,a]
 have b:(BitVec.ofNat 8 x.toNat^^^BitVec.ofNat 8 y.toNat).toNat=(x^^^y).toNat:=by
  rw [BitVec.toNat_xor,UInt8.toNat_xor,m8,m8,qh x.toNat_lt,qh y.toNat_lt]
 show some (Value.int .u8 (IntKind.u8.wrap (((BitVec.ofNat 8 x.toNat^^^BitVec.ofNat 8 y.toNat:BitVec 8)).toNat:Int)))=_;rw [b,mi];have:=(x^^^y).toNat_lt;show some (Value.int .u8 _)=some (Value.int .u8 _)
 congr 2
 omega
end Go.Proofs.YtngjfjhomikplaaGreatDoor.R
namespace Go.Proofs.YtngjfjhomikplaaGreatDoor.R
open Go.Proofs.Tryz Go Go.RowKit
section
variable {P:Program} {n:Fr} {Z:Env} {w:World} {Q:d6} {ops:Array Oper} {rest:List Oper}
 {dst:Option Nat} {ty:TypeId} {pos:String} {after:Array Edge} {g:Option (Nat×Bool)}
theorem ov{t j:TypeId}{x y:Operand}{a b:ByteArray}(e:cY ops Z g=some true)(d:c8 n dst=true)
 (f:bs Z x=some (.string a)) (i:bs Z y=some (.string b))
 (h:O P n ops rest (cG Z dst (.bool (a==b))) w Q):O P n ops (⟨dst,.binOp .eql t x y j,ty,pos,after,g⟩::rest) Z w Q:=
 dN e d (λac c=>by
  simp only [execOp,c.eval f,c.eval i,dS,eqGuard_at_string,binOp_string_eql,dZ,en,<-rV]) h
theorem hL{f:FuncId}{x:Operand}{p:Array TypeId}{args:Array Operand}{U:List Value}{fC be:Array Value}{ag:Value->World->Prop}[bw:Entry P f](l:cY ops Z g=some true)(k:c8 n dst=true)
 (o:bs Z x=some (.func (.func f) fC be)) (m:fu Z args.toList=some U) (j:Calls P f (fC++U.toArray++be) w ag)
 (h:∀v aK,ag v aK->O P n ops rest (cG Z dst v) aK Q):O P n ops (⟨dst,.call ⟨.value x,args,p⟩,ty,pos,after,g⟩::rest) Z w Q:=by
 obtain⟨fn,c,d,e⟩:=bw.h;refine wK (f:=f) (U:=fC++U.toArray++be) (aK:=w) l k (λa b=>?_) j h;have:args.map a.eval=U.toArray:=by apply fx;rw [hq,b.hv m]
 have i:fn.body.isNone=false:=e;simp only [execOp,resolve,this,b.eval o,Deferred.ofValue,invoke,callFunc,c,d,i,dS,en,dZ,mh,qd,Array.append_empty,if_false,Bool.false_eq_true]
theorem tO{t j:TypeId}{x y:Operand}{xs da:Array Value}{b:Bool}(d:cY ops Z g=some true)(c:c8 n dst=true)
 (f:bs Z x=some (.agg xs)) (i:bs Z y=some (.agg da)) (hm:P.eqGuardType P.depth t=false) (e:∀w,(Op.equalIn 10000 t (.agg xs) (.agg da)).run P w= .ok b w)
 (h:O P n ops rest (cG Z dst (.bool b)) w Q):O P n ops (⟨dst,.binOp .eql t x y j,ty,pos,after,g⟩::rest) Z w Q:=
 dN d c (λac a=>by
  simp only [execOp,a.eval f,a.eval i,dS,run_eqGuard_agg w .eql t x y xs da hm,dZ,run_eql_struct,e,en]) h
def setCells(c:Array Value)(off:Nat):List Value->Array Value
 |[]=>c
 |v::r=>setCells (c.setIfInBounds off v) (off+1) r
theorem s6:∀(U:List Value)(c:Array Value)(off:Nat),(setCells c off U).size=c.size
 |[],_,_=>rfl
 |v::r,c,off=>by rw [setCells,s6 r];simp
theorem pm:∀(U:List Value)(c:Array Value)(off:Nat),off+U.length<=c.size->∀i,(setCells c off U)[i]? =if off<=i/\i<off+U.length then U[i-off]? else c[i]?
 |[],c,off,_,i=>by rw [aI (by simp)];rfl
 |v::r,c,off,h,i=>by
  simp only [eu] at h⊢;rw [setCells,pm r _ _ (by simp;omega) i];rcases rW i off with a|a|a
  .rw [aI (by omega),aI (by omega),qf (by omega)]
  .subst a;rw [aI (by omega),a6 (by omega),ub (by omega)];simp
  .by_cases b:i<off+1+r.length
   .rw [a6 (by omega),a6 (by omega),show i-off=(i-(off+1))+1 by omega,nV]
   .rw [aI (by omega),aI (by omega),qf (by omega)]
theorem Az(U:List Value)(c:Array Value)(h:c.size=U.length):setCells c 0 U=U.toArray:=by
 apply rX;intro i;rw [pm U c 0 (by omega) i];split
 .simp
 .rename_i aJ;rw [ud (by omega)];simp;omega
theorem C.whole{o w:World}{F:List Nat}{ad:List (List Chunk)}{b:Nat}{e:TypeId}{c:Array Value}{U:List Value}(h:C o F ([(b,.cells (setCells c 0 U) e (0,0))]::ad) w)(a:c.size=U.length):C o F ([(b,.cells U.toArray e (0,0))]::ad) w:=by
 rw [Az U c a] at h;exact h
theorem C.storeCells{P:Program}{o:World}{F:List Nat}{ad:List (List Chunk)}{b:Nat}{e:TypeId}{off:Nat}:∀(U:List Value)(i:Nat)(c:Array Value)(w:World),
 C o F ([(b,.cells c e (0,0))]::ad) w->off+i+U.length<=c.size->(∀v∈U,v.oneCell'=true)->
 ∃aK,(Go.storeCells ⟨b,off,none⟩ U i).run P w= .ok () aK/\C o F ([(b,.cells (setCells c (off+i) U) e (0,0))]::ad) aK/\cV w aK
 |[],i,c,w,a,_,_=>⟨w,j,a,cV.refl _⟩
 |v::r,i,c,w,a,m,f=>by
  simp only [eu] at m;have l:w.frozen? ⟨b,off+i,none⟩=false:=by simp [World.frozen?,a.first]
  have ia:w.cell? ⟨b,off+i,none⟩=some (c[off+i]'(by omega)):=a.cell (by simp);have d:=run_store P w ⟨b,off+i,none⟩ v .plain (f v (by simp));rw [ia] at d;simp only [l] at d;obtain⟨aK,g,h,k⟩:=C.storeCells (off:=off) r (i+1) (c.setIfInBounds (off+i) v) _ (a.setCell (off+i) v) (by simp;omega) (λx n=>f x (by simp [n]));refine⟨aK,?_,?_,(cV.cells a.first (λ_ aa=>va _ v aa)).trans k⟩
  .simp only [Go.storeCells,dS,add_lit];rw [show(Go.store ⟨b,off+i,none⟩ v).run P w= .ok () (w.setCell ⟨b,off+i,none⟩ v) from by simpa using d];exact g
  .exact h
theorem c2{t:TypeId}{x y:Operand}{z:Value}{size bytes:Nat}{o:World}{F:List Nat}{ad:List (List Chunk)}{b off:Nat}{c:Array Value}{e:TypeId}{U:Array Value}[r:cm P t z size bytes]
 (m:C o F ([(b,.cells c e (0,0))]::ad) w) (q:cY ops Z g=some true)
 (E:bs Z x=some (.pointer (some ⟨b,off,none⟩))) (G:bs Z y=some (.agg U)) (B:U.toList.all (·.oneCell')=true) (A:U.size=size) (H:off+size<=c.size)
 (h:∀aK,C o F ([(b,.cells (setCells c off U.toList) e (0,0))]::ad) aK->O P n ops rest Z aK Q):O P n ops (⟨none,.store t x y,ty,pos,after,g⟩::rest) Z w Q:=by
 obtain⟨aK,f,k,l⟩:=C.storeCells (P:=P) (off:=off) U.toList 0 c w m (by simp;omega) (λv D=>jX.1 B v D);refine tQ (aK:=aK) q j (λa d=>?_) (h aK k) l;obtain⟨i,s,_,u,_⟩:=r.parts;have p:(Value.agg U).cells=U:=rfl;simp only [execOp,d.eval E,d.eval G,Instr.storeAt,Instr.sureAddr,storeVar,p,sizeOf,typeInfo,dS,en,dZ,mh,s,u];simp [A,f]
def strOf(aD:List UInt8):ByteArray:=⟨aD.toArray⟩
theorem nD(x y:List UInt8):(strOf x==strOf y)=decide (x=y):=by
 rw [rV,ByteArray.toList_eq,ByteArray.toList_eq];show(x==y)=_;rw [na];simp
theorem ou{s t e:TypeId}{x:Operand}{A:Option Addr}{c:Nat}{aD:List UInt8}[aM:bA P s (.slice e)][he:bA P e (.int .u8)][l:bA P t .string]
 (m:bs Z x=some (.slice A aD.length c)) (k:Rd w A (au aD)):
 ∀a,cK Z n.n a->(execOp a.eval ⟨dst,.convert s t x,ty,pos,after,g⟩).run P w= .ok (.value (.string (strOf aD))) w:=
 λac i=>by
  cases A with
  |none=>
   have:aD=[]:=by
    cases aD with
    |nil=>rfl
    |cons x r=>obtain⟨a,p,_⟩:=k 0 (bv x) j;cases p
   subst this;have o:=run_convert_bytes_nil (P:=P) w s e aM.h he.h 0 c t l.h;simp only [execOp,i.eval m,ge,o,dS,dZ,en];rfl
  |some a=>
   have f:=qc (P:=P) w a (au aD) (λJ v B=>by obtain⟨b,q,u⟩:=k J v B;cases q;exact u);rw [show(au aD).length=aD.length by simp] at f;have hm:au aD=(aD.map λx=>(x.toNat:Int)).map (Value.int .u8):=by simp [au,bv]
   rw [hm] at f;have d:=run_convert_bytes_string (P:=P) w s t e (some a) aD.length c aM.h he.h l.h;rw [run_bytesToString w _ aD.length c _ f,foldl_push_bytes] at d
   have z:(aD.map λx=>(x.toNat:Int)).map (λn=>UInt8.ofNat n.toNat)=aD:=by
    rw [oN]
    conv=>rhs;rw [<-List.map_id aD]
    apply ue;intro x _;simp
   have y:(⟨ByteArray.empty.data++aD.toArray⟩:ByteArray)=strOf aD:=by
    apply ByteArray.ext;apply Array.toList_inj.1;rw [t9];rfl
   rw [z,y] at d;simp only [execOp,i.eval m,d,dS,dZ,en]
theorem wQ{s t e:TypeId}{x:Operand}{A:Option Addr}{c:Nat}{aD:List UInt8}[aM:bA P s (.slice e)][he:bA P e (.int .u8)][i:bA P t .string](b:cY ops Z g=some true)(a:c8 n dst=true)
 (f:bs Z x=some (.slice A aD.length c)) (d:Rd w A (au aD))
 (h:O P n ops rest (cG Z dst (.string (strOf aD))) w Q):O P n ops (⟨dst,.convert s t x,ty,pos,after,g⟩::rest) Z w Q:=
 dN b a (ou f d) h
theorem Br{P:Program}{n:Nat}{Z:Env}{w:World}{dst:Option Nat}{ty:TypeId}{pos:String}{after:Array Edge}{g:Option (Nat×Bool)}{t i:TypeId}{x y:Operand}{a b:ByteArray}{c:Bool}(f:bs Z x=some (.string a))(h:bs Z y=some (.string b))(e:(a==b)=c):
 ∀ac,cK Z n ac->(execOp ac.eval ⟨dst,.binOp .eql t x y i,ty,pos,after,g⟩).run P w= .ok (.value (.bool c)) w:=λac d=>by
 subst e;simp only [execOp,d.eval f,d.eval h,dS,eqGuard_at_string,binOp_string_eql,dZ,en,<-rV]
theorem pG{P:Program}{n:Nat}{Z:Env}{w:World}{dst:Option Nat}{ty:TypeId}{pos:String}{after:Array Edge}{g:Option (Nat×Bool)}{t f:TypeId}{x y:Operand}{xs da:Array Value}{b:Bool}(d:bs Z x=some (.agg xs))(e:bs Z y=some (.agg da))(hm:P.eqGuardType P.depth t=false)(c:∀w,(Op.equalIn 10000 t (.agg xs) (.agg da)).run P w= .ok b w):
 ∀ac,cK Z n ac->(execOp ac.eval ⟨dst,.binOp .eql t x y f,ty,pos,after,g⟩).run P w= .ok (.value (.bool b)) w:=λac a=>by
 simp only [execOp,a.eval d,a.eval e,dS,run_eqGuard_agg w .eql t x y xs da hm,dZ,run_eql_struct,c,en]
theorem c4{P:Program}{n:Nat}{Z:Env}{w:World}{dst:Option Nat}{ty:TypeId}{pos:String}{after:Array Edge}{g:Option (Nat×Bool)}{t:TypeId}{d:TypeDesc}{x:Operand}{A:Addr}{U:List Value}{z:Value}{size bytes:Nat}[hu:bA P t d][m:cm P t z size bytes]
 (s:bs Z x=some (.pointer (some A))) (e:ib d=true) (q:U.length=size) (j:Rd w (some A) U):∀a,cK Z n a->(execOp a.eval ⟨dst,.load t x,ty,pos,after,g⟩).run P w= .ok (.value (.agg U.toArray)) w:=
 λa l=>by
  obtain⟨i,o,_,p,_⟩:=m.parts;have c:=qc (P:=P) w A U (λJ v r=>by obtain⟨b,f,k⟩:=j J v r;cases f;exact k);rw [q] at c;simp [execOp,l.eval s,Instr.loadAt,Instr.sureAddr,loadVar,kA hu.h,e,sizeOf,typeInfo,o,p,c]
theorem hj.narrow{P:Program}{F:Fence}{ops:Array Oper}{bb b:World->Prop}{Q:Exit->Act->World->Prop}(c:∀w,b w->bb w):∀(k:Nat)(l:Array Bool)(a:Act)(w:World),hj P F ops b Q k l a w->hj P F ops bb Q k l a w
 |0,_,_,_,h=>h
 |k+1,_,_,_,h=>⟨h.1,λi d=>wpOpIn_mono (λa w h=>⟨h.1.imp id (c w),hj.narrow c k _ a w h.2⟩) (h.2 i d)⟩
theorem pJ{P:Program}{n:Fr}{Z:Env}{w:World}{Q:d6}{ops:Array Oper}{bb:World->Prop}{k:Nat}{l:Array Bool}(b:World->Prop)(c:∀w,b w->bb w)(h:eS P n ops b k l Z w Q):eS P n ops bb k l Z w Q:=λa d hm=>hj.narrow c _ _ _ _ (h a d hm)
theorem tM{P:Program}{n:Fr}{Z:Env}{w:World}{Q:d6}{ops:Array Oper}{bb:World->Prop}{k:Nat}{l:Array Bool}(d:Nat){b:Bool}(e:look Z d=some (.bool b))(f:b=true->eS P n ops bb k l ((d,.bool true)::Z) w Q)(bw:b=false->eS P n ops bb k l ((d,.bool false)::Z) w Q):eS P n ops bb k l Z w Q:=λa c hm=>by
 cases b with
 |true=>exact f j a (c.tell e) hm
 |false=>exact bw j a (c.tell e) hm
theorem rr{P:Program}{n:Fr}{Z:Env}{w:World}{Q:d6}{ops:Array Oper}{bb:World->Prop}{k:Nat}{l:Array Bool}(d:Nat){u:Value}(v:Value)(c:look Z d=some u)(e:u=v)(h:eS P n ops bb k l ((d,v)::Z) w Q):eS P n ops bb k l Z w Q:=λa b hm=>
 h a (b.tell (e▸c)) hm
theorem k2{P:Program}{n:Fr}{Z:Env}{w:World}{Q:d6}{ops:Array Oper}{bb:World->Prop}{k:Nat}{l:Array Bool}(i J:Nat){f g:Oper}(p:ops[i]? =some f)(q:ops[J]? =some g)(d:Region.ready .any ops l=[i,J])
 (j:O P n ops [f] Z w (λe Z w=>match e with| .normal=>bb w/\eS P n ops bb k (l.setIfInBounds i true) Z w Q|_=>False))
 (o:O P n ops [g] Z w (λe Z w=>match e with| .normal=>bb w/\eS P n ops bb k (l.setIfInBounds J true) Z w Q|_=>False)):eS P n ops bb (k+1) l Z w Q:=λa b c=>by
 refine⟨λh=>absurd (d▸h) (by simp),λm hm=>?_⟩;rw [d] at hm;rcases g1.1 hm with rfl|hm
 .exact tN p j b c
 .obtain rfl:=fT.1 hm;exact tN q o b c
theorem HA(p q r:List Value)(h:r.length=q.length):setCells (p++q).toArray p.length r=(p++r).toArray:=by
 apply rX;intro i;rw [pm r _ _ (by simp;omega) i];simp only [nb];split
 .rename_i b;rw [jf b.1]
 .rename_i b;by_cases a:i<p.length
  .rw [iU a,iU a]
  .rw [lH (by simp;omega),lH (by simp;omega)]
theorem wy{P:Program}{n:Nat}{Z:Env}{w:World}{dst:Option Nat}{ty:TypeId}{pos:String}{after:Array Edge}{g:Option (Nat×Bool)}{t e:TypeId}{x:Operand}{A:Addr}{m:Nat}{z:Value}{size bytes:Nat}[hu:bA P t (.array m e)][d:cm P e z size bytes]
 (j:bs Z x=some (.pointer (some A))):∀a,cK Z n a->(execOp a.eval ⟨dst,.slice t x none none none,ty,pos,after,g⟩).run P w= .ok (.value (.slice (some A) m m)) w:=
 λa c=>by
  obtain⟨i,f,_,k,_⟩:=d.parts;have b:A.add 0=A:=by simp [Addr.add]
  simp [execOp,c.eval j,Instr.sliceAt,Instr.sureAddr,Instr.sliceBounds,d8 hu.h,sizeOf,typeInfo,f,b]
theorem nz{P:Program}{w:World}{t:TypeId}{d:TypeDesc}{cs:Array Value}{off:Nat}{v:Value}(hu:P.underlying t=some d)(a:ib d=false)(b:cs[off]? =some v):(part t cs off).run P w= .ok v w:=by
 simp [part,kA hu,a,b]
theorem uR{P:Program}{w:World}{d:Nat}{xs da:Array Value}:(Op.eqFields d xs da []).run P w= .ok true w:=by simp [Op.eqFields]
theorem uS{P:Program}{w:World}{d:Nat}{xs da:Array Value}{f:Field}{gN:List Field}{x y:Value}{b r:Bool}(aJ:(f.name != "_")=true)(c:(part f.type xs f.offset).run P w= .ok x w)(e:(part f.type da f.offset).run P w= .ok y w)
 (he:(Op.equalIn d f.type x y).run P w= .ok b w) (h:(Op.eqFields d xs da gN).run P w= .ok r w):(Op.eqFields d xs da (f::gN)).run P w= .ok (b&&r) w:=by
 have a:f.name≠ "_" :=by simpa using aJ
 simp only [Op.eqFields,a,ne_eq,not_false_eq_true,kq,dS,c,e,he,dZ];cases b
 .simp
 .simpa using h
theorem ku{P:Program}{w:World}{d:Nat}{xs da:Array Value}{f:Field}{gN:List Field}{k:IntKind}{a b:Int}{r:Bool}(aJ:(f.name != "_")=true)(hu:P.underlying f.type=some (.int k))(c:xs[f.offset]? =some (.int k a))(e:da[f.offset]? =some (.int k b))
 (h:(Op.eqFields (d+1) xs da gN).run P w= .ok r w):(Op.eqFields (d+1) xs da (f::gN)).run P w= .ok ((a==b)&&r) w:=
 uS aJ (nz hu j c) (nz hu j e) (run_equalIn_int w d f.type k k a b hu) h
theorem C.bare{o w:World}{F:List Nat}:∀{ad:List (List Chunk)},C o F ad w->C o F [] w
 |[],h=>h
 |_::_,h=>(C.drop h).bare
theorem C.sj{o w:World}{F:List Nat}{A B:List (List Chunk)}(h:C o F (A++B) w):C o F A w:=by
 have a:C o F (B.flatten::A) w:=h.perm (by rw [hb,List.flatten_cons];exact List.perm_append_comm);exact a.drop
theorem C.f6{o w:World}{F:List Nat}{G a b c d e f:List Chunk}{ad:List (List Chunk)}(h:C o F (a::b::c::d::e::f::G::ad) w):C o F (G::a::b::c::d::e::f::ad) w:=
 h.jm (List.perm_middle (l₁:=[a,b,c,d,e,f]))
theorem C.hR{o w:World}{F:List Nat}{A:List Chunk}{B:List (List Chunk)}(h:C o F (A::B) w):C o F [A] w:=C.sj (A:=[A]) h
theorem C.kM{o w:World}{F:List Nat}{A gY:List Chunk}{B:List (List Chunk)}(h:C o F (A::gY::B) w):C o F [A,gY] w:=C.sj (A:=[A,gY]) h
abbrev tK(P:Program)(n:Nat)(fn:Func)(ag:Value->World->Prop):d6:=λe Z w=>match e with
 | .normal=>∃v,(∀a,cK Z n a->(results fn a.tmps).run P w= .ok v w)/\ag v w
 | .ret=>∃v,(∀a,cK Z n a->(results fn a.tmps).run P w= .ok v w)/\ag v w
 |_=>False
theorem Df{P:Program}{f:FuncId}{fn:Func}{c:Code}{l:List Value}{w:World}{ag:Value->World->Prop}{n:Nat}
 (bw:P.funcs[f]? =some fn) (o:fn.body=some c) (aJ:fn.ntmps=n) (p:l.length<=n)
 (h:W P {n:=n} c (jK 0 l) w (tK P n fn ag)):Calls P f l.toArray w (nM ag):=by
 refine callsIn_of_wp (F:=Fence.wide) bw o aX ?_;refine kJ (h _ (uQ aJ p) (Marks.nil _ _)) ?_;rintro e a aK ⟨aa,⟨s,q,r,_,_⟩,t,m,b⟩;have k:a.defers=[]:=by rw [q,r j];rfl
 cases e with
 |normal=>obtain⟨v,g,d⟩:=b;exact⟨k,v,g _ m,aa,v,j,d⟩
 |ret=>obtain⟨v,g,d⟩:=b;exact⟨k,v,g _ m,aa,v,j,d⟩
 |exit i=>exact b.elim
 |goto l=>exact b.elim
 |panic gM=>exact b.elim
 |outgrown=>exact b.elim
theorem dr{P:Program}{n:Nat}{Z:Env}{w:World}{fn:Func}{t u ty:Nat}{A:Addr}{U:List Value}{y z:Value}{d:TypeDesc}{size bytes:Nat}[hu:bA P ty d][l:cm P ty z size bytes]
 (q:fn.results= #[.cell t ty,.tmp u]) (r:look Z t=some (.pointer (some A))) (x:look Z u=some y) (f:ib d=true) (p:U.length=size) (j:Rd w (some A) U):
 ∀a,cK Z n a->(results fn a.tmps).run P w= .ok (.tuple #[.agg U.toArray,y]) w:=λa c=>by
 obtain⟨i,m,_,o,_⟩:=l.parts;have e:=qc (P:=P) w A U (λJ v s=>by obtain⟨b,g,k⟩:=j J v s;cases g;exact k);rw [p] at e;simp [results,q,c.get _ _ r,c.get _ _ x,asAddr,loadVar,kA hu.h,f,sizeOf,typeInfo,m,o,e]
end
section
variable {P:Program} {n:Fr} {Z:Env} {w:World} {Q:d6} {ops:Array Oper} {rest:List Oper}
 {dst:Option Nat} {ty:TypeId} {pos:String} {after:Array Edge} {g:Option (Nat×Bool)}
theorem pv(aD:List UInt8):(strOf aD).size=aD.length:=by simp [strOf,ByteArray.size]
theorem H0(aD:List UInt8)(i:Nat):(strOf aD)[i]? =aD[i]? :=by
 show(if h:i<(strOf aD).size then some _ else none)=_;by_cases h:i<aD.length
 .rw [nc (by rw [pv];exact h),cn h];rfl
 .rw [dif_neg (by rw [pv];exact h),lH (by omega)]
theorem Bw{t:TypeId}{x y:Operand}{aD:List UInt8}{k:IntKind}{J:Nat}[e:bA P t .string](f:bs Z x=some (.string (strOf aD)))(i:bs Z y=some (.int k J))(c:J<aD.length):
 ∀a,cK Z n.n a->(execOp a.eval ⟨dst,.index t x y,ty,pos,after,g⟩).run P w= .ok (.value (bv aD[J])) w:=λa b=>by
 have d:(strOf aD)[J]? =some aD[J]:=by rw [H0,cn c]
 simp [execOp,b.eval f,b.eval i,Instr.index,asIntOf,d8 e.h,d,bv]
theorem ry{t:TypeId}{x y:Operand}{aD:List UInt8}{k:IntKind}{J:Nat}[f:bA P t .string](c:cY ops Z g=some true)(b:c8 n dst=true)(d:bs Z x=some (.string (strOf aD)))(e:bs Z y=some (.int k J))(a:J<aD.length)
 (h:O P n ops rest (cG Z dst (bv aD[J])) w Q):O P n ops (⟨dst,.index t x y,ty,pos,after,g⟩::rest) Z w Q:=dN c b (Bw d e a) h
theorem mS{t:TypeId}{b:Array TypeId}{args:Array Operand}{aD:List UInt8}[i:bA P t .string](f:cY ops Z g=some true)(e:c8 n dst=true)(j:b= #[t])(k:fu Z args.toList=some [.string (strOf aD)])
 (h:O P n ops rest (cG Z dst (.int .i64 (aD.length:Nat))) w Q):O P n ops (⟨dst,.call ⟨.builtin .len,args,b⟩,ty,pos,after,g⟩::rest) Z w Q:=
 dN f e (λa d=>by
  subst j;have c:args.map a.eval= #[.string (strOf aD)]:=by apply fx;rw [hq,d.hv k]
  simp [execOp,resolve,invoke,builtin,c,Builtin.len_,d8 i.h,pv,goInt]) h
theorem AJ(aD:List UInt8)(i J:Nat):(strOf aD).extract i J=strOf ((aD.drop i).take (J-i)):=by
 apply ByteArray.ext;apply Array.toList_inj.1;simp [strOf,ByteArray.data_extract,List.extract]
theorem BX{t:TypeId}{x y:Operand}{aD:List UInt8}{k:IntKind}{J:Nat}[c:bA P t .string](i:cY ops Z g=some true)(f:c8 n dst=true)(j:bs Z x=some (.string (strOf aD)))(l:bs Z y=some (.int k J))(d:J<=aD.length)
 (h:O P n ops rest (cG Z dst (.string (strOf (aD.drop J)))) w Q):O P n ops (⟨dst,.slice t x (some y) none none,ty,pos,after,g⟩::rest) Z w Q:=
 dN i f (λa b=>by
  have e:=run_slice_string_from_if (P:=P) (w:=w) t (strOf aD) k (J:Int) c.h;simp [execOp,b.eval j,b.eval l,Instr.sliceAt,d8 c.h,e,pv,d,AJ];rw [h7 (by simp)]) h
theorem BY{t:TypeId}{x y:Operand}{aD:List UInt8}{k:IntKind}{J:Nat}[c:bA P t .string](i:cY ops Z g=some true)(f:c8 n dst=true)(j:bs Z x=some (.string (strOf aD)))(l:bs Z y=some (.int k J))(d:J<=aD.length)
 (h:O P n ops rest (cG Z dst (.string (strOf (aD.take J)))) w Q):O P n ops (⟨dst,.slice t x none (some y) none,ty,pos,after,g⟩::rest) Z w Q:=
 dN i f (λa b=>by
  have e:=run_slice_string_to_if (P:=P) (w:=w) t (strOf aD) k (J:Int) c.h;simp [execOp,b.eval j,b.eval l,Instr.sliceAt,d8 c.h,e,pv,d,AJ]) h
theorem rv{t e:TypeId}{x y:Operand}{m:Nat}{b off J:Nat}{k:IntKind}{z:Value}{size bytes:Nat}[hu:bA P t (.array m e)][l:cm P e z size bytes](j:cY ops Z g=some true)(f:c8 n dst=true)
 (q:bs Z x=some (.pointer (some ⟨b,off,none⟩))) (r:bs Z y=some (.int k J)) (d:J<m)
 (h:O P n ops rest (cG Z dst (.pointer (some ⟨b,off+J*size,none⟩))) w Q):O P n ops (⟨dst,.indexAddr t x y,ty,pos,after,g⟩::rest) Z w Q:=
 dN j f (λa c=>by
  obtain⟨i,o,_,p,_⟩:=l.parts;simp [execOp,c.eval q,c.eval r,Instr.indexAt,Instr.sureAddr,asIntOf,d8 hu.h,sizeOf,typeInfo,o,p,d,add_lit]) h
end
section
theorem gr{P:Program}{n:Nat}{Z:Env}{w:World}{fn:Func}{t ty:Nat}{A:Addr}{U:List Value}{z:Value}{d:TypeDesc}{size bytes:Nat}[hu:bA P ty d][l:cm P ty z size bytes]
 (q:fn.results= #[.cell t ty]) (r:look Z t=some (.pointer (some A))) (e:ib d=true) (p:U.length=size) (g:Rd w (some A) U):
 ∀a,cK Z n a->(results fn a.tmps).run P w= .ok (.agg U.toArray) w:=λa k=>by
 obtain⟨i,m,_,o,_⟩:=l.parts;have c:=qc (P:=P) w A U (λJ v s=>by obtain⟨b,f,j⟩:=g J v s;cases f;exact j);rw [p] at c;simp [results,q,k.get _ _ r,asAddr,loadVar,kA hu.h,e,sizeOf,typeInfo,m,o,c]
variable {P:Program} {n:Fr} {Z:Env} {w:World} {Q:d6} {ops:Array Oper} {rest:List Oper}
 {dst:Option Nat} {ty:TypeId} {pos:String} {after:Array Edge} {g:Option (Nat×Bool)}
theorem BB{t i:TypeId}{x y:Operand}{a b:ByteArray}{c:Bool}(f:bs Z x=some (.string a))(h:bs Z y=some (.string b))(e:(a==b)=c):
 ∀ac,cK Z n.n ac->(execOp ac.eval ⟨dst,.binOp .neq t x y i,ty,pos,after,g⟩).run P w= .ok (.value (.bool (!c))) w:=λac d=>by
 subst e;simp only [execOp,d.eval f,d.eval h,dS,eqGuard_at_string,binOp_string_neq,dZ,en,<-rV]
theorem wO{t k:TypeId}{x y:Operand}{a b:ByteArray}{c:Bool}(f:cY ops Z g=some true)(e:c8 n dst=true)
 (i:bs Z x=some (.string a)) (j:bs Z y=some (.string b)) (d:(a==b)=c)
 (h:O P n ops rest (cG Z dst (.bool (!c))) w Q):O P n ops (⟨dst,.binOp .neq t x y k,ty,pos,after,g⟩::rest) Z w Q:=
 dN f e (BB i j d) h
theorem e3{t:TypeId}{parts:Array (Nat×Operand)}{U:List Value}{c:Array Value}
 (e:fu Z (parts.toList.map (·.2))=some U) (d:∀w,(Instr.build t ((parts.toList.map (·.1)).zip U).toArray).run P w= .ok (.agg c) w):
 ∀a,cK Z n.n a->(execOp a.eval ⟨dst,.build t parts,ty,pos,after,g⟩).run P w= .ok (.value (.agg c)) w:=λa b=>by
 have:parts.map (λ(i,x)=>(i,a.eval x))=((parts.toList.map (·.1)).zip U).toArray:=by
  apply fx;rw [<-b.hv e];simp only [hq,oN];rw [List.zip_map'];rfl
 simp only [execOp,this,dS,d,dZ,en]
theorem D7{P:Program}{w:World}{d:Nat}{xs da:Array Value}{f:Field}{gN:List Field}{a b:Bool}{r:Bool}(aJ:(f.name != "_")=true)(hu:P.underlying f.type=some .bool)(c:xs[f.offset]? =some (.bool a))(e:da[f.offset]? =some (.bool b))
 (h:(Op.eqFields (d+1) xs da gN).run P w= .ok r w):(Op.eqFields (d+1) xs da (f::gN)).run P w= .ok ((a==b)&&r) w:=
 uS aJ (nz hu j c) (nz hu j e) (run_equalIn_bool hu a b w d) h
theorem Hr{P:Program}{t:TypeId}(hu:P.underlying t=some .string)(a b:ByteArray)(w:World)(d:Nat):(Op.equalIn (d+1) t (.string a) (.string b)).run P w= .ok (a==b) w:=by
 simp only [Op.equalIn,dS,d8 hu,dZ];rfl
theorem D8{P:Program}{w:World}{d:Nat}{xs da:Array Value}{f:Field}{gN:List Field}{a b:List UInt8}{r:Bool}(aJ:(f.name != "_")=true)(hu:P.underlying f.type=some .string)(c:xs[f.offset]? =some (.string (strOf a)))(e:da[f.offset]? =some (.string (strOf b)))
 (h:(Op.eqFields (d+1) xs da gN).run P w= .ok r w):(Op.eqFields (d+1) xs da (f::gN)).run P w= .ok (decide (a=b)&&r) w:=by
 have he:=Hr hu (strOf a) (strOf b) w d;rw [nD] at he;exact uS aJ (nz hu j c) (nz hu j e) he h
theorem BR{s t e:TypeId}{x:Operand}{aD:List UInt8}{o:World}{F:List Nat}{ad:List (List Chunk)}[aM:bA P s .string][G:bA P t (.slice e)][he:bA P e (.int .u8)](y:C o F ad w)
 (D:cY ops Z g=some true) (B:c8 n dst=true) (H:bs Z x=some (.string (strOf aD)))
 (h:∀b cs c aK,(∀i v,(au aD)[i]? =some v->cs[0+i]? =some v)->C o F ([(b,.cells cs e (cs.size,cs.size+1))]::ad) aK->O P n ops rest (cG Z dst (.slice (some ⟨b,0,none⟩) aD.length c)) aK Q):O P n ops (⟨dst,.convert s t x,ty,pos,after,g⟩::rest) Z w Q:=by
 have p:=Go.Lib.run_convert_string_bytes (P:=P) w s t e (strOf aD) aM.h G.h he.h;rw [pv] at p;have l:=y.drew.alloc (.cells (Go.Lib.bytesCells w e (strOf aD)) e)
 have m:∀k:Nat,k≠w.drew.heap.size->(Go.Lib.bytesWorld w e (strOf aD)).heap[k]? =(w.drew.alloc (.cells (Go.Lib.bytesCells w e (strOf aD)) e)).heap[k]? :=λk aa=>by
  have E:¬w.heap.size=k:=λh=>aa (h▸rfl)
  simp only [Go.Lib.bytesWorld,World.freeze,Nat.succ_ne_zero,lI,rQ];rw [aI E]
 have z:C o F ([(w.heap.size,.cells (Go.Lib.bytesCells w e (strOf aD)) e ((Go.Lib.bytesCells w e (strOf aD)).size,(Go.Lib.bytesCells w e (strOf aD)).size+1))]::ad) (Go.Lib.bytesWorld w e (strOf aD)):=
  C.lx l j j j (by simp [Go.Lib.bytesWorld,World.freeze]) (Go.Lib.bytesWorld_at_new w e (strOf aD)) m
 refine dN D B (λa A=>?_) (h w.heap.size _ (grownCap w aD.length 0 e) _ (λi v f=>?_) z) (aa:=(cV.alloc w.drew _).trans (cV.cells l.first m))
 .simp only [execOp,A.eval H,p,dS,dZ,en]
 .rw [fj]
  have d:i<aD.length:=by
   have:=(fk.1 f).1;simpa using this
  have q:(au aD)[i]? =some (bv aD[i]):=xw (by simp [d]);rw [q] at f;cases f;have r:i<((strOf aD).data.map λb=>Value.int .u8 b.toNat).size:=by rw [Array.size_map];exact d
  unfold Go.Lib.bytesCells;rw [Array.getElem?_append_left r,Array.getElem?_map]
  have u:(strOf aD).data[i]? =some aD[i]:=by
   show aD.toArray[i]? =_;simp [d]
  rw [u];rfl
end
def Yields(P:Program)(l:Nat)(args:Array Value)(w:World)(ag:Bool->World->Prop):Prop:=
 ∃fn tmps assign body,(Instr.yield l args).run P w= .ok (.round l fn tmps assign body) w/\
  RoundIn Fence.wide 0 P l fn tmps assign body w (λe aK=>cV w aK/\∃b,e= .returned (.bool b)/\ag b aK)
abbrev fL(l:Nat):Value:=.func (.yield l) #[] #[]
section
variable {P:Program} {n:Fr} {Z:Env} {w:World} {Q:d6} {ops:Array Oper} {rest:List Oper}
 {dst:Option Nat} {ty:TypeId} {pos:String} {after:Array Edge} {g:Option (Nat×Bool)}
theorem jV{l:Nat}{x:Operand}{m:Array TypeId}{args:Array Operand}{U:List Value}{ag:Bool->World->Prop}(s:cY ops Z g=some true)(q:c8 n dst=true)
 (A:bs Z x=some (fL l)) (z:fu Z args.toList=some U) (f:Yields P l U.toArray w ag)
 (h:∀b aK,ag b aK->O P n ops rest (cG Z dst (.bool b)) aK Q):O P n ops (⟨dst,.call ⟨.value x,args,m⟩,ty,pos,after,g⟩::rest) Z w Q:=λa d hm=>by
 obtain⟨fn,t,i,j,o,p⟩:=f;unfold wpListIn;rw [n2 d s];simp only [kq];refine⟨λ_ _=>trivial,?_⟩;have this:args.map a.eval=U.toArray:=by apply fx;rw [hq,d.hv z]
 have y:(execOp a.eval ⟨dst,.call ⟨.value x,args,m⟩,ty,pos,after,g⟩).run P w= .ok (.round l fn t i j) w:=by
  simp only [execOp,resolve,this,d.eval A,Deferred.ofValue,invoke,dS,en,dZ,qd,Array.append_empty,o]
 rw [nW _ _ _ (by intro c f;cases f),y,Oper.uponIn_round];refine⟨(λdt=>(by cases dt)),?_⟩;refine qg (show RoundIn (jU n.r) 0 P l fn t i j w _ from p) λe B⟨k,b,he,v⟩=>?_
 subst he;exact kZ (λ_ _ _ u=>lift.from k u) _ _ _ (h b B v _ (d.cG q _) ((hm.fW k).put _ _))
end
def Iter{α:Type}(P:Program)(i:FuncId)(be:Array Value)(H:List (List Chunk))(h:List (List Chunk)->World->Prop)(T:List (List Chunk)->Prop)(enc:α->Array Value)(A:List α->α->Prop)(S:List α->Prop):Prop:=
 ∀(l:Nat)(e:List α->List (List Chunk)->World->Prop)(f:List (List Chunk)->World->Prop)(ad:List (List Chunk))(w:World),
  Own (H++ad) w->e [] ad w->h ad w->(∀pre ad w,e pre ad w->T ad)->
  (∀pre a c d(B:List Nat),e pre a c->C c B [] d->(∀b∈B,w.heap.size<=b/\b∉av a)->e pre a d)->
  (∀a c d(B:List Nat),f a c->C c B [] d->(∀b∈B,w.heap.size<=b/\b∉av a)->f a d)->
  (∀pre x a c,A pre x->e pre a c->Own a c->Yields P l (enc x) c (λb d=>∃g,C c (av a) g d/\(if b=true then e (pre++[x]) g d else f g d)))->
  Calls P i (#[fL l]++be) w (λ_ aK=>∃fz,C w (av (H++ad)) (H++fz) aK/\((∃xs,S xs/\e xs fz aK)\/f fz aK))
theorem cK.g6{n:Nat}:∀(l:List (Nat×Value)){Z:Env}{a:Act},cK Z n a->(∀x∈l,Nat.blt x.1 n=true)->cK (l.reverse++Z) n {tmps:=l.foldl (λt(p,v)=>t.setIfInBounds p v) a.tmps,defers:=[]}
 |[],Z,a,h,_=>⟨h.size,h.get⟩
 |(p,v)::r,Z,a,h,b=>by
  have c:cK ((p,v)::Z) n {tmps:=a.tmps.setIfInBounds p v,defers:=a.defers}:=h.put (b (p,v) (by simp)) v;have d:=cK.g6 r c (λx e=>b x (by simp [e]));simpa using d
abbrev pd(l:Nat)(rec:Loop):List Chunk:=[(l,.loop rec)]
theorem C.gy{o w:World}{F:List Nat}{H ad L:List (List Chunk)}(h:C o F (H++(ad++L)) w):Own ad w:=by
 have a:C o F (ad++(H++L)) w:=h.perm (by
  simp only [hb];rw [<-dJ,<-dJ];exact oS _ lF)
 exact a.sub
theorem C.jp{o w:World}{F:List Nat}{H ad:List (List Chunk)}(h:C o F (H++ad) w):Own ad w:=by
 have a:C o F (ad++H) w:=h.perm (by simp only [hb];exact List.perm_append_comm);exact a.sub
theorem C.kX{o w:World}{F:List Nat}{ad:List (List Chunk)}(h:C o F ad w):Own ad w:=C.sub (A:=ad) (B:=[]) (by simpa using h)
theorem C.swap{o w:World}{F:List Nat}{A B:List (List Chunk)}(h:C o F (A++B) w):C o F (B++A) w:=h.perm (by simp only [hb];exact List.perm_append_comm)
theorem C.aside{o w aK:World}{F:List Nat}{ad:List (List Chunk)}{B:List Nat}(h:C o F ad w)(k:C w B [] aK)(e:∀b∈B,o.heap.size<=b/\b∉av ad):C o F ad aK:=by
 refine⟨k.os.trans h.os,k.tape.trans h.tape,k.output.trans h.output,ek h.size k.size,λb f g=>?_,λc a=>?_,h.nodup,h.own,h.plain⟩
 .rw [k.fW b (t8 f h.size) (λd=>by have:=(e b d).1;omega)];exact h.fW b f g
 .rw [k.fW c.1 (h.oW a) (λd=>(e _ d).2 (n8.2 ⟨c.2,a⟩))];exact h.here c a
theorem C.putObj{o w:World}{F:List Nat}{ad:List (List Chunk)}{l:Nat}{rec od:Loop}(h:C o F (ad++[pd l rec]) w):C o F (ad++[pd l od]) (w.putObj l (.loop od)):=by
 have a:C o F ([(l,.loop rec)]::ad) w:=h.jm lF;have d:l<w.heap.size:=a.oW (c:=(l,.loop rec)) (by simp);have b:=a.lx (aK:=w.putObj l (.loop od)) (fZ:=.loop od) j j j (by simp) (World.putObj_heap_same d) (λk aa=>rC aa);exact b.jm (lF (l₁:=[pd l od]))
theorem C.r0{o w aK:World}{F:List Nat}{H A bb L:List (List Chunk)}(h:C o F (H++(A++L)) w)(k:C w (av A) bb aK):C o F (H++(bb++L)) aK:=by
 have p:∀X:List (List Chunk),(H++(X++L)).flatten.Perm (X++(H++L)).flatten:=λX=>by
  simp only [hb];rw [<-dJ,<-dJ];exact oS _ lF
 exact((h.perm (p A)).after k).perm (p bb).symm
theorem C.ys{o w:World}{F:List Nat}{H A L:List (List Chunk)}(h:C o F (H++(A++L)) w):C o F (H++A) w:=by
 rw [<-dJ] at h;have a:C o F (L.flatten::(H++A)) w:=h.perm (by rw [hb,List.flatten_cons];exact List.perm_append_comm);exact a.drop
theorem cV.loop{w:World}{l:Nat}{rec:Loop}(h:w.heap[l]? =some (.loop rec))(I:Obj):cV w (w.putObj l I):=cV.lx h (by simp) (λk aa=>rC aa)
def mr:Exit->Option Code
 | .ret=>some .ret
 | .exit id=>some (.exit id)
 |_=>none
theorem B8{P:Program}{n:Fr}{Z:Env}{w:World}{Q:d6}{α:Type}{g:Operand}{J:Array Tmp}{assign body:Code}{Y:FuncId}{be:Array Value}[bw:Entry P Y]
 {H ad:List (List Chunk)} {aD:List (List Chunk)->World->Prop} {T:List (List Chunk)->Prop} {enc:α->Array Value} {A:List α->α->Prop} {S:List α->Prop} {o:World} {F:List Nat}
 (bn:Iter P Y be H aD T enc A S) (aJ:n={n:=n.n,r:=none,m:=true,b:=n.b}) (bt:n.b<=w.heap.size) (bc:C o F (H++ad) w)
 (bm:bs Z g=some (.func (.func Y) #[] be)) (bA:∀x,(enc x).size=J.size) (bz:∀p∈J,Nat.blt p n.n=true)
 (U:List α->List (List Chunk)->Prop) (X:Exit->List (List Chunk)->Prop) (a7:U [] ad) (bg:∀L aK,C w [] [L] aK->aD (ad++[L]) aK) (bf:∀pre ad L,U pre ad->T (ad++[L]))
 (round:∀(l:Nat)(pre:List α)(x:α)(d:List (List Chunk))(L:List Chunk)(z:World),A pre x->U pre d->C o F (H++(d++[L])) z->
  W P {n:=n.n,r:=some l} assign ((J.toList.zip (enc x).toList).reverse++Z) z (λe aV i=>e= .normal/\∃u,C z (av d) u i/\
   ∀(L:List Chunk)(aC:World),C o F (H++(u++[L])) aC->W P {n:=n.n,r:=some l} body aV aC (λe _ R=>∃O,C aC (av u) O R/\
    (match e with
     | .normal=>U (pre++[x]) O
     | .ret=>X .ret O
     | .exit id=>X (.exit id) O
     |_=>False))))
 (done:∀xs fz aK,S xs->U xs fz->C o F (H++fz) aK->Q .normal Z aK)
 (jump:∀e fz aK,(e= .ret\/∃id,e= .exit id)->X e fz->C o F (H++fz) aK->Q e Z aK):
 W P n (.rangeFunc g J assign body) Z w Q:=λa aj br=>by
 have bv:n.r=none:=by rw [aJ]
 have bu:n.m=true:=by rw [aJ]
 obtain⟨a5,aZ,a0,a2⟩:=bw.h;have a3:a5.body.isNone=false:=a2;refine wpIn_rangeFunc ?_;intro fn bF;obtain⟨rec,G⟩:∃rec:LoopState->Option Code->Loop,rec=λst f=>{state:=st,pending:=f,fn,tmps:=a.tmps,params:=J,assign,body,defers:=w.heap.size}:=⟨_,j⟩
 have ap:C o F (H++(ad++[pd (w.heap.size+1) (rec .ready none)])) ((w.alloc (.deferred (some []))).alloc (.loop (rec .ready none))):=by
  have aw:C w [] [] (w.alloc (.deferred (some []))):=⟨j,j,j,by simp,λk aa _=>qH w _ aa,by simp,by simp [av],by simp [av],by simp⟩;have q:=(bc.aL aw).alloc (.loop (rec .ready none));have am:(w.alloc (.deferred (some []))).heap.size=w.heap.size+1:=by simp
  rw [am] at q;have an:C o F ([pd (w.heap.size+1) (rec .ready none)]++(H++ad)) _:=q;rw [<-dJ];exact an.swap
 obtain⟨s,ag⟩:∃s,(w.alloc (.deferred (some []))).alloc (.loop (rec .ready none))=s:=⟨_,j⟩;rw [ag] at ap;have aO:cV w s:=by rw [<-ag];exact(cV.alloc _ _).trans (cV.alloc _ _)
 have bD:o.heap.size<=s.heap.size:=ap.size
 have aE:s.heap[w.heap.size]? =some (.deferred (some [])):=by
  rw [<-ag];exact(qH _ _ (by simp)).trans (heap_alloc_new w _)
 refine⟨w.heap.size+1,[o0 w.heap.size],s,{target:=.fn (.func Y) be,args:= #[fL (w.heap.size+1)]},s,Y,#[fL (w.heap.size+1)]++be,s,?_,?_,λ_ _=>trivial,?_,(λdt=>(by cases dt)),?_⟩
 .rw [<-ag,G];show(Instr.enterLoop fn a.tmps J assign body n.r).run P w=_;rw [bv];exact run_enterLoop_outer _ _ _ _ _
 .simp only [resolve,aj.eval bm];simp [go_sem]
 .simp only [invoke,callFunc,aZ,a0,a3,dS,en,dZ,mh,qd,Array.append_empty,if_false,Bool.false_eq_true]
 .obtain⟨L,M⟩:∃L:LoopState->Option Code->List Chunk,L=λst f=>pd (w.heap.size+1) (rec st f):=⟨_,j⟩
  have hmarks:∀aK,aK.heap[w.heap.size]? =some (.deferred (some []))->cV w aK->Marks n aK ([o0 w.heap.size]++a.defers):=λaK bj aa=>by
   obtain⟨aW,q,_,a8,ao⟩:=br;refine⟨w.heap.size::aW,by rw [q];rfl,(λh=>(by rw [bu] at h;cases h)),k6.2 ⟨λN=>?_,a8⟩,λD ai=>?_⟩
   .have:=(gv.1 (ao _ N).2).1;omega
   rcases g1.1 ai with rfl|ai
   .exact⟨bt,bj⟩
   .exact⟨(ao D ai).1,aa D (ao D ai).2⟩
  have aq:C o F (H++(ad++[L .ready none])) s:=by rw [M];exact ap
  have bb:C w [] [L .ready none] s:=by
   have aw:C w [] [] (w.alloc (.deferred (some []))):=⟨j,j,j,by simp,λk aa _=>qH w _ aa,by simp,by simp [av],by simp [av],by simp⟩;have q:=aw.alloc (.loop (rec .ready none));have am:(w.alloc (.deferred (some []))).heap.size=w.heap.size+1:=by simp
   rw [am,ag] at q;rw [M];exact q
  have ba:∀b∈av H,b<s.heap.size:=λb au=>by
   obtain⟨I,bx⟩:=n8.1 au;exact aq.oW (c:=(b,I)) (by simp only [hb,List.mem_append];exact .inl bx)
  have aQ:∀{d:List (List Chunk)}{B:List Nat},(∀b∈B,s.heap.size<=b/\b∉av d)->∀b∈B,o.heap.size<=b/\b∉av (H++d):=λaf b au=>by
   obtain⟨q,an⟩:=af b au;refine⟨ek bD q,λN=>?_⟩;simp only [av,hb,List.map_append,List.mem_append] at N;rcases N with N|N
   .have:=ba b N;omega
   .exact an N
  refine lJ (show CallsIn (jU n.r) 0 P Y _ s _ from bn (w.heap.size+1)
   (λpre fz aK=>∃d,fz=d++[L .ready none]/\U pre d/\C o F (H++fz) aK)
   (λfz aK=>∃d e,fz=d++[L .done (mr e)]/\(e= .ret\/∃id,e= .exit id)/\X e d/\C o F (H++fz) aK)
   (ad++[L .ready none]) s aq.kX ⟨ad,j,a7,aq⟩ (bg _ _ bb) (λpre fz aK⟨d,he,a1,_⟩=>by subst he;exact bf _ _ _ a1) ?_ ?_ ?_) ?_
  .rintro pre d z i B ⟨u,rfl,a1,aM⟩ k af;exact⟨u,j,a1,aM.aside k (aQ af)⟩
  .rintro d z i B ⟨u,e,rfl,he,ar,aM⟩ k af;exact⟨u,e,j,he,ar,aM.aside k (aQ af)⟩
  .rintro pre x d z a9 ⟨u,rfl,a1,aM⟩ aR
   have ay:∀{v0:World}{eL:List Nat}{gY:List (List Chunk)}{aK:World}{st:LoopState}{f:Option Code},C v0 eL (gY++[L st f]) aK->aK.heap[w.heap.size+1]? =some (.loop (rec st f)):=λh=>by
    rw [M] at h;exact h.here (w.heap.size+1,.loop _) (by simp)
   have bp:=ay aR;have ak:=run_yield (P:=P) (args:=enc x) bp (by rw [G];exact bA x);rw [G] at ak;refine⟨fn,_,assign,body,ak,roundIn_of_wpIn (F:=Fence.wide) aX ?_⟩
   have bE:(J.zip (enc x)).foldl (λt(p,v)=>t.setIfInBounds p v) a.tmps=(J.toList.zip (enc x).toList).foldl (λt(p,v)=>t.setIfInBounds p v) a.tmps:=by
    rw [<-Array.foldl_toList,Array.toList_zip]
   have bk:=cK.g6 (J.toList.zip (enc x).toList) aj (λy ak=>bz _ (by have:=(List.of_mem_zip (a:=y.1) (b:=y.2) ak).1;simpa using this));have aS:=round (w.heap.size+1) pre x u (L .ready none) z a9 a1 aM _ bk (Marks.nil _ _);rw [<-bE] at aS;refine kJ aS ?_;rintro e aY i ⟨ab,bq,aV,bl,rfl,O,bC,bh⟩;have al:∀{v0:World}{eL:List Nat}{K:List (List Chunk)},C v0 eL (K++(u++[L .ready none])) z->C v0 eL (K++(O++[L .ready none])) i:=λh=>h.r0 bC
   have E:i.heap[w.heap.size+1]? =some (.loop (rec .ready none)):=ay (gY:=H++O) (by rw [dJ];exact al aM)
   have put:∀{v0:World}{eL:List Nat}{K gY:List (List Chunk)}{aK:World}{st ta:LoopState}{f sQ:Option Code},C v0 eL (K++(gY++[L st f])) aK->C v0 eL (K++(gY++[L ta sQ])) (aK.putObj (w.heap.size+1) (.loop (rec ta sQ))):=λh=>by
    rw [M] at h⊢;rw [<-dJ] at h⊢;exact h.putObj
   have aF:=run_beginRound (P:=P) E (by rw [G]);have bB:({rec .ready none with state:=.busy}:Loop)=rec .busy none:=by rw [G]
   rw [bB] at aF;refine⟨_,aF,?_⟩;have aT:=put (ta:=.busy) (sQ:=none) (al aM);have aN:cV i (i.putObj (w.heap.size+1) (.loop (rec .busy none))):=cV.loop E _;refine kJ (bh (L .busy none) _ aT aY bl (bq.fW aN)) ?_;rintro e a4 R ⟨bo,bG,bI,_,ae,aU,ac⟩
   have V:∀{v0:World}{eL:List Nat}{K:List (List Chunk)}(st:LoopState)(f:Option Code),C v0 eL (K++(u++[L .ready none])) z->C v0 eL (K++(ae++[L st f])) (R.putObj (w.heap.size+1) (.loop (rec st f))):=
    λst f h=>put ((put (ta:=.busy) (sQ:=none) (al h)).r0 aU)
   have aP:R.heap[w.heap.size+1]? =some (.loop (rec .busy none)):=ay (gY:=H++ae) (by rw [dJ];exact aT.r0 aU)
   have fin:∀(f:Option Code),(Instr.endRound (w.heap.size+1) f).run P R= .ok (.bool f.isNone) (R.putObj (w.heap.size+1) (.loop (rec (if f.isNone then .ready else .done) f))):=λf=>by
    have:=run_endRound (P:=P) f aP;rw [this];rw [G]
   have qJ:∀st f,cV z (R.putObj (w.heap.size+1) (.loop (rec st f))):=λst f=>((ab.trans aN).trans bo).trans (cV.loop aP _)
   have az:C z (av (u++[L .ready none])) ([]++(u++[L .ready none])) z:=aR;cases e with
   |normal=>exact⟨_,_,fin none,qJ _ _,true,j,_,V .ready none az,by rw [a6 j];exact⟨ae,j,ac,V .ready none aM⟩⟩
   |ret=>exact⟨_,_,fin (some .ret),qJ _ _,false,j,_,V .done (some .ret) az,by rw [aI (by decide)];exact⟨ae,.ret,j,.inl j,ac,V .done (some .ret) aM⟩⟩
   |exit id=>exact⟨_,_,fin (some (.exit id)),qJ _ _,false,j,_,V .done (some (.exit id)) az,by rw [aI (by decide)];exact⟨ae,.exit id,j,.inr ⟨id,j⟩,ac,V .done (some (.exit id)) aM⟩⟩
   |goto t=>exact ac.elim
   |panic gM=>exact ac.elim
   |outgrown=>exact ac.elim
  .rintro e i ⟨ab,v,rfl,fz,bH,bi⟩;have aH:cK Z n.n ({a with defers:=[o0 w.heap.size]++a.defers}:Act):=⟨aj.size,aj.get⟩;rcases bi with⟨xs,bd,d,rfl,a1,aM⟩|⟨d,e,rfl,he,ar,aM⟩
   .have E:i.heap[w.heap.size+1]? =some (.loop (rec .ready none)):=by
     rw [M] at aM;exact aM.here (w.heap.size+1,.loop _) (by simp)
    have ax:=run_endLoop (P:=P) E (by rw [G];simp)
    have aB:C o F (H++d) (i.putObj (w.heap.size+1) (.loop {rec .ready none with state:=.exhausted})):=by
     rw [M,<-dJ] at aM;have q:=aM.putObj (od:={rec .ready none with state:=.exhausted});rw [dJ] at q;exact q.ys
    have ah:cV w (i.putObj (w.heap.size+1) (.loop {rec .ready none with state:=.exhausted})):=(aO.trans ab).trans (cV.loop E _);have aA:(rec .ready none).pending=none:=by rw [G]
    refine⟨none,_,ax.trans (congrArg (λp=>Result.ok p _) aA),?_⟩;exact⟨ah,hmarks _ (((ab.trans (cV.loop E _))) _ aE) ah,Z,aH,done xs d _ bd a1 aB⟩
   .have E:i.heap[w.heap.size+1]? =some (.loop (rec .done (mr e))):=by
     rw [M] at aM;exact aM.here (w.heap.size+1,.loop _) (by simp)
    have ax:=run_endLoop (P:=P) E (by rw [G];simp)
    have aB:C o F (H++d) (i.putObj (w.heap.size+1) (.loop {rec .done (mr e) with state:=.exhausted})):=by
     rw [M,<-dJ] at aM;have q:=aM.putObj (od:={rec .done (mr e) with state:=.exhausted});rw [dJ] at q;exact q.ys
    have ah:cV w (i.putObj (w.heap.size+1) (.loop {rec .done (mr e) with state:=.exhausted})):=(aO.trans ab).trans (cV.loop E _)
    have aG:(lift n w Q) e {a with defers:=[o0 w.heap.size]++a.defers} (i.putObj (w.heap.size+1) (.loop {rec .done (mr e) with state:=.exhausted})):=
     ⟨ah,hmarks _ (((ab.trans (cV.loop E _))) _ aE) ah,Z,aH,jump e d _ he ar aB⟩
    have aA:(rec .done (mr e)).pending=mr e:=by rw [G]
    refine⟨mr e,_,ax.trans (congrArg (λp=>Result.ok p _) aA),?_⟩;rcases he with rfl|⟨id,rfl⟩
    .exact wpIn_ret aG
    .exact wpIn_exit aG
def jz(B:Nat)(w aK:World):Prop:=aK.os=w.os/\aK.tape=w.tape/\aK.output=w.output/\aK.heap.size=w.heap.size/\∀k:Nat,aK.heap[k]? =w.heap[k]?\/(B<=k/\w.heap[k]? =some (.deferred (some [])))
theorem jz.refl(B:Nat)(w:World):jz B w w:=⟨j,j,j,j,λ_=>.inl j⟩
theorem jz.step{B:Nat}{w aK:World}{D:Nat}(h:jz B w aK)(g:B<=D)(i:aK.heap[D]? =some (.deferred (some []))):jz B w (aK.putObj D (.deferred none)):=by
 obtain⟨c,d,e,f,b⟩:=h;refine⟨c,d,e,by simpa using f,λk=>?_⟩;by_cases aa:k=D
 .subst aa;rcases b k with a|a
  .exact .inr ⟨g,a▸i⟩
  .exact .inr a
 .rw [rC aa];exact b k
theorem jz.st{o w aK:World}{F:List Nat}{ad:List (List Chunk)}{B:Nat}(s:jz B w aK)(h:C o F ad w)(l:o.heap.size<=B):C o F ad aK:=by
 obtain⟨e,f,g,i,d⟩:=s;refine⟨e.trans h.os,f.trans h.tape,g.trans h.output,by rw [i];exact h.size,λk aa j=>?_,λc b=>?_,h.nodup,h.own,h.plain⟩
 .rcases d k with a|⟨a,_⟩
  .rw [a];exact h.fW k aa j
  .omega
 .rcases d c.1 with a|⟨_,a⟩
  .rw [a];exact h.here c b
  .rw [h.here c b] at a;exact absurd (hB a) (h.plain c b)
theorem jz.qJ{o w aK:World}(s:jz o.heap.size w aK)(h:cV o w):cV o aK:=λD b=>by
 rcases s.2.2.2.2 D with a|⟨a,_⟩
 .rw [a];exact h D b
 .have:=(gv.1 b).1;omega
abbrev tL(P:Program)(n:Nat)(fn:Func)(B:Nat)(ag:Value->World->Prop):d6:=λe Z w=>match e with
 | .normal=>∃v,∀aK,jz B w aK->(∀a,cK Z n a->(results fn a.tmps).run P aK= .ok v aK)/\ag v aK
 | .ret=>∃v,∀aK,jz B w aK->(∀a,cK Z n a->(results fn a.tmps).run P aK= .ok v aK)/\ag v aK
 |_=>False
theorem yW{P:Program}{fn:Func}{tmps:Array Value}{ag:Ending->World->Prop}{B:Nat}{w:World}{v:Value}:∀(a:List Nat)(b:World),jz B w b->(∀D∈a,B<=D)->a.Nodup->(∀D∈a,b.heap[D]? =some (.deferred (some [])))->
 (∀aK,jz B w aK->(results fn tmps).run P aK= .ok v aK/\ag (.returned v) aK)->LeavesInM Fence.wide 0 P fn tmps ag (a.map o0) .returning b
 |[],b,s,_,_,_,h=>⟨v,h b s⟩
 |D::a,b,s,e,g,d,h=>by
  refine⟨by simp,.inl ⟨D,_,j,run_takeDeferred (d D (by simp)),?_⟩⟩;have f:=k6.1 g;exact yW a _ (s.step (e D (by simp)) (d D (by simp))) (λE c=>e E (by simp [c])) f.2 (λE c=>by rw [rC (λhe=>by subst he;exact f.1 c)];exact d E (by simp [c])) h
theorem Dg{P:Program}{f:FuncId}{fn:Func}{c:Code}{l:List Value}{w:World}{ag:Value->World->Prop}{n:Nat}
 (bw:P.funcs[f]? =some fn) (r:fn.body=some c) (aJ:fn.ntmps=n) (t:l.length<=n)
 (h:W P {n:=n,m:=true,b:=w.heap.size} c (jK 0 l) w (tL P n fn w.heap.size ag)):Calls P f l.toArray w ag:=by
 refine callsIn_of_wp_marks (F:=Fence.wide) bw r aX ?_;refine kJ (h _ (uQ aJ t) (Marks.nil _ _)) ?_;rintro e a aK ⟨aa,⟨q,u,_,x,o⟩,z,y,g⟩
 have key:(∃v,∀d,jz w.heap.size aK d->(∀a,cK z n a->(results fn a.tmps).run P d= .ok v d)/\ag v d)->LeavesInM Fence.wide 0 P fn a.tmps (λe aK=>cV w aK/\∃v,e= .returned v/\ag v aK) a.defers .returning aK:=λ⟨v,p⟩=>by
  rw [u];exact yW (B:=w.heap.size) (w:=aK) (v:=v) q aK (jz.refl _ _) (λD k=>(o D k).1) x (λD k=>(o D k).2) (λd s=>⟨(p d s).1 a y,s.qJ aa,v,j,(p d s).2⟩)
 cases e with
 |normal=>exact key g
 |ret=>exact key g
 |exit i=>exact g.elim
 |goto l=>exact g.elim
 |panic gM=>exact g.elim
 |outgrown=>exact g.elim
end Go.Proofs.YtngjfjhomikplaaGreatDoor.R
namespace Go.Proofs.YtngjfjhomikplaaGreatDoor.R
open Go.Proofs.Tryz Go Go.RowKit
open Go.MapKept (Stamped)
class Keys{cx:Type}(P:Program)(cZ:TypeId)(key:cx->Value):Prop where
 inj:∀a b,key a=key b->a=b
 check:∀(w:World)(em:Bool)k,(Instr.checkKey em 10000 cZ (key k)).run P w= .ok () w
 find:∀(w:World)k(es:List MapEntry),(∀e∈es,∃J,e.key=key J)->
  ((Instr.findKey cZ (key k) es).run P w= .ok none w/\∀e∈es,e.key≠key k)\/∃(J:Nat)(e:MapEntry),(Instr.findKey cZ (key k) es).run P w= .ok (some (J,e.val)) w/\es[J]? =some e/\e.key=key k
 stays:∀(w:World)k,(Instr.keyThatStays (key k) (key k)).run P w= .ok (key k) w
abbrev bN(n:Int):Value:=.int .i64 n
instance {P:Program}{cZ:TypeId}[hu:bA P cZ (.int .i64)]:Keys P cZ bN where
 inj:=λa b h=>by cases h;rfl
 check:=λw em k=>MapKept.run_checkKey hu.h (show MapKept.IsKey (.int .i64) (bN k) from j) em 9999
 find:=λw k es h=>by
  have aa:MapKept.IsKey (.int .i64) (bN k):=rfl;rcases MapKept.findNow_spec aa es 0 (λx i=>by obtain⟨J,g⟩:=h x i;rw [g];rfl) with⟨c,d⟩|⟨J,e,c,d,f⟩
  .exact .inl ⟨MapKept.run_findKey hu.h c,d⟩
  .exact .inr ⟨J,e,by rw [fj] at c;exact MapKept.run_findKey hu.h c,d,f⟩
 stays:=λw k=>by
  have aa:MapKept.IsKey (.int .i64) (bN k):=rfl;simp [Instr.keyThatStays,MapKept.sameBits_self aa]
section
variable {cx:Type} [DecidableEq cx]
def aZ{β:Type}:List (cx×β)->cx->Option β
 |[],_=>none
 |(J,v)::r,k=>if J=k then some v else aZ r k
def cj{β:Type}:List (cx×β)->cx->β->List (cx×β)
 |[],k,v=>[(k,v)]
 |(J,u)::r,k,v=>if J=k then(k,v)::r else(J,u)::cj r k v
def fY{β:Type}:List (cx×β)->cx->List (cx×β)
 |[],_=>[]
 |(J,u)::r,k=>if J=k then r else(J,u)::fY r k
end
def cg{cx:Type}(key:cx->Value)(I:Obj)(m:List (cx×Value)):Prop:=
 ∃es clock,I= .map es clock/\Stamped es clock/\es.toList.map (λe=>(e.key,e.val))=m.map λp=>(key p.1,p.2)
section
variable {cx:Type} [DecidableEq cx] {key:cx->Value} {P:Program} {cZ:TypeId}
theorem cg.new:cg key (.map #[] 0) ([]:List (cx×Value)):=⟨#[],0,j,MapKept.stamped_empty 0,j⟩
theorem cg.vI{I:Obj}{m:List (cx×Value)}(h:cg key I m):I≠Obj.deferred (some []):=by obtain⟨es,c,rfl,_⟩:=h;simp
theorem cg.nodup [aa:Keys P cZ key]{I:Obj}{m:List (cx×Value)}(h:cg key I m):(m.map (·.1)).Nodup:=by
 obtain⟨es,clock,rfl,⟨_,_,c⟩,d⟩:=h
 have e:es.toList.map (·.key)=(m.map (·.1)).map key:=by
  have:=aG (List.map Prod.fst) d;simpa [oN,Function.comp_def] using this
 rw [e] at c;exact List.Pairwise.of_map key (λa b f he=>f (he▸rfl)) c
theorem n9{β:Type}:∀(m:List (cx×β))(k:cx),(aZ m k=none/\∀p∈m,p.1≠k)\/∃(J:Nat)(v:β),aZ m k=some v/\m[J]? =some (k,v)/\∀(i:Nat)p,i<J->m[i]? =some p->p.1≠k
 |[],k=>.inl ⟨j,by simp⟩
 |(J,v)::r,k=>by
  by_cases h:J=k
  .subst h;exact .inr ⟨0,v,by simp [aZ],j,by intro i p g;omega⟩
  .rcases n9 r k with⟨c,d⟩|⟨i,u,c,d,e⟩
   .exact .inl ⟨by simp [aZ,h,c],by intro p b;cases b with|head=>exact h|tail _ b=>exact d p b⟩
   .refine .inr ⟨i+1,u,by simp [aZ,h,c],by simpa using d,λa p f b=>?_⟩;cases a with
    |zero=>simp at b;subst b;exact h
    |succ a=>exact e a p (by omega) (by simpa using b)
theorem cg.find [aa:Keys P cZ key]{es:Array MapEntry}{clock:Nat}{m:List (cx×Value)}(h:cg key (.map es clock) m)(k:cx)(w:World):
 ((Instr.findKey cZ (key k) es.toList).run P w= .ok none w/\aZ m k=none/\(∀e∈es.toList,e.key≠key k)/\∀p∈m,p.1≠k)\/
 ∃(J:Nat)(e:MapEntry),(Instr.findKey cZ (key k) es.toList).run P w= .ok (some (J,e.val)) w/\aZ m k=some e.val/\es[J]? =some e/\e.key=key k/\m[J]? =some (k,e.val):=by
 obtain⟨K,H,he,aM,hm⟩:=h;cases he
 have D:∀e∈es.toList,∃J,e.key=key J:=λe he=>by
  have:(e.key,e.val)∈es.toList.map (λe=>(e.key,e.val)):=dV.2 ⟨e,he,j⟩;rw [hm] at this;obtain⟨p,_,b⟩:=dV.1 this;exact⟨p.1,by simpa using(congrArg Prod.fst b).symm⟩
 have x:∀(J:Nat)(e:MapEntry),es.toList[J]? =some e->∃p,m[J]? =some p/\e.key=key p.1/\e.val=p.2:=λJ e he=>by
  have a:(es.toList.map (λe=>(e.key,e.val)))[J]? =some (e.key,e.val):=by simp only [gE,he,Option.map_some]
  rw [hm,gE] at a;cases b:m[J]? with
  |none=>simp [b] at a
  |some p=>simp [b] at a;exact⟨p,j,a.1.symm,a.2.symm⟩
 have s:∀(J:Nat)p,m[J]? =some p->∃e,es.toList[J]? =some e/\e.key=key p.1/\e.val=p.2:=λJ p b=>by
  have a:(m.map (λp=>(key p.1,p.2)))[J]? =some (key p.1,p.2):=by simp only [gE,b,Option.map_some]
  rw [<-hm,gE] at a;cases he:es.toList[J]? with
  |none=>simp [he] at a
  |some e=>simp [he] at a;exact⟨e,j,a.1,a.2⟩
 rcases aa.find w k es.toList D with⟨a,d⟩|⟨J,e,a,d,o⟩
 .refine .inl ⟨a,?_,d,?_⟩
  .rcases n9 m k with⟨l,_⟩|⟨i,v,_,c,_⟩
   .exact l
   .obtain⟨e,he,n,_⟩:=s i _ c;exact absurd n (d e (h5 he))
  .intro p b f;obtain⟨i,z⟩:=oz b;obtain⟨e,he,n,_⟩:=s i p z;exact d e (h5 he) (f▸n)
 .obtain⟨p,g,G,t⟩:=x J e d;have f:p.1=k:=aa.inj _ _ (G.symm.trans o);refine .inr ⟨J,e,a,?_,by simpa using d,o,by rw [g,<-f,t]⟩;have F:(m.map (·.1)).Nodup:=cg.nodup (P:=P) (cZ:=cZ) (key:=key) (I:=.map es clock) ⟨es,clock,j,aM,hm⟩;rcases n9 m k with⟨_,c⟩|⟨i,v,l,c,u⟩
  .exact absurd f (c p (h5 g))
  .have A:i=J:=by
    rcases rW i J with E|heq|y
    .exfalso;have q:(m.map (·.1))[i]? =some k:=by rw [gE,c];rfl
     have r:(m.map (·.1))[J]? =some k:=by rw [gE,g,<-f];rfl
     have B:i<(m.map (·.1)).length:=(fk.1 q).1;have C:J<(m.map (·.1)).length:=(fk.1 r).1;have:=(oA.1 F) i J B C E;rw [(fk.1 q).2,(fk.1 r).2] at this;exact this j
    .exact heq
    .exact absurd f (u J p y g)
   subst A;rw [g] at c;cases c;rw [l,t]
theorem vz{β:Type}:∀(m:List (cx×β))(k:cx)(v:β),(∀p∈m,p.1≠k)->cj m k v=m++[(k,v)]
 |[],_,_,_=>rfl
 |(J,u)::r,k,v,h=>by
  have a:J≠k:=h (J,u) (by simp);simp [cj,a,vz r k v (λp b=>h p (by simp [b]))]
theorem zm{β:Type}:∀(m:List (cx×β))(k:cx)(v:β)(J:Nat)(u:β),(m.map (·.1)).Nodup->m[J]? =some (k,u)->cj m k v=m.set J (k,v)
 |[],_,_,J,_,_,h=>by simp at h
 |(i,x)::r,k,v,0,u,_,h=>by simp at h;simp [cj,h.1]
 |(i,x)::r,k,v,J+1,u,aJ,h=>by
  have b:=k6.1 (by simpa using aJ:(i::r.map (·.1)).Nodup);have a:r[J]? =some (k,u):=by simpa using h
  have c:i≠k:=λe=>b.1 (by rw [e];exact dV.2 ⟨_,h5 a,j⟩)
  simp [cj,c,zm r k v J u b.2 a]
theorem vr{β:Type}:∀(m:List (cx×β))(k:cx),(∀p∈m,p.1≠k)->fY m k=m
 |[],_,_=>rfl
 |(J,u)::r,k,h=>by
  have a:J≠k:=h (J,u) (by simp);simp [fY,a,vr r k (λp b=>h p (by simp [b]))]
theorem y9{β:Type}:∀(m:List (cx×β))(k:cx)(J:Nat)(u:β),(m.map (·.1)).Nodup->m[J]? =some (k,u)->fY m k=m.eraseIdx J
 |[],_,J,_,_,h=>by simp at h
 |(i,x)::r,k,0,u,_,h=>by simp at h;simp [fY,h.1]
 |(i,x)::r,k,J+1,u,aJ,h=>by
  have b:=k6.1 (by simpa using aJ:(i::r.map (·.1)).Nodup);have a:r[J]? =some (k,u):=by simpa using h
  have c:i≠k:=λe=>b.1 (by rw [e];exact dV.2 ⟨_,h5 a,j⟩)
  simp [fY,c,y9 r k J u b.2 a]
theorem cg.update [aa:Keys P cZ key]{es:Array MapEntry}{clock:Nat}{m:List (cx×Value)}(h:cg key (.map es clock) m)(k:cx)(v:Value)(w:World){b:Nat}{mt eI:TypeId}(hu:P.underlying mt=some (.map cZ eI))(d:w.heap[b]? =some (.map es clock)):
 ∃fZ,(Instr.mapUpdate mt (.map (some b)) (key k) v).run P w= .ok () {w with heap:=w.heap.setIfInBounds b fZ}/\cg key fZ (cj m k v):=by
 rcases h.find (P:=P) (cZ:=cZ) k w with⟨f,_,a,c⟩|⟨J,e,f,_,a,c,g⟩
 .obtain⟨r,q,he,aM,hm⟩:=h;cases he;refine⟨_,?_,es.push {key:=key k,val:=v,born:=clock},clock+1,j,MapKept.stamped_push aM a,?_⟩
  .simp only [Instr.mapUpdate,dS,d8 hu,mX d,aa.check,f,dZ,rD _ d]
  .rw [vz m k v c];simp [hm]
 .have u:=cg.nodup (P:=P) (cZ:=cZ) h;obtain⟨r,q,he,aM,hm⟩:=h;cases he;have s:((es[J]?).map (·.key)).getD (key k)=key k:=by simp [a,c]
  refine⟨_,?_,es.modify J (λe=>{e with key:=key k,val:=v}),clock,j,MapKept.stamped_modify aM _ _ (λ_ _=>rfl) (λht _ n=>by rw [a] at n;cases n;exact c.symm),?_⟩
  .simp only [Instr.mapUpdate,dS,d8 hu,mX d,aa.check,f,dZ,s,aa.stays,rD _ d]
  .rw [zm m k v J e.val u g];apply oB;intro i;have p:=aG (λl=>l[i]?) hm;simp only [gE,pX,rQ,pY] at p⊢;by_cases o:J=i
   .subst o;have t:J<m.length:=(fk.1 g).1;simp [a,t]
   .simp [o,p]
theorem cg.erase [aa:Keys P cZ key]{es:Array MapEntry}{clock:Nat}{m:List (cx×Value)}(h:cg key (.map es clock) m)(k:cx)(w:World){b:Nat}{mt eI:TypeId}{ur:Array TypeId}{ty:TypeId}(i:ur[0]? =some mt)(hu:P.underlying mt=some (.map cZ eI))(a:w.heap[b]? =some (.map es clock)):
 ∃fZ,(Builtin.delete_ ur ty #[.map (some b),key k]).run P w= .ok (.tuple #[]) {w with heap:=w.heap.setIfInBounds b fZ}/\cg key fZ (fY m k):=by
 rcases h.find (P:=P) (cZ:=cZ) k w with⟨c,_,d,g⟩|⟨J,e,c,_,d,g,q⟩
 .obtain⟨o,n,he,aM,hm⟩:=h;cases he;refine⟨_,?_,es,clock,j,aM,by rw [vr m k g];exact hm⟩;simp [Builtin.delete_,i,d8 hu,mX a,aa.check,c,rD _ a,Result.andThen]
 .have t:=cg.nodup (P:=P) (cZ:=cZ) h;obtain⟨o,n,he,aM,hm⟩:=h;cases he;refine⟨_,?_,es.eraseIdxIfInBounds J,clock,j,MapKept.stamped_erase aM J,?_⟩
  .simp [Builtin.delete_,i,d8 hu,mX a,aa.check,c,rD _ a,Result.andThen]
  .have s:J<es.size:=(gv.1 d).1;rw [y9 m k J e.val t q,Array.eraseIdxIfInBounds,nc s,Array.toList_eraseIdx,List.v hm]
where
 List.v {es:List MapEntry} {m:List (cx×Value)} {J:Nat} (hm:es.map (λe=>(e.key,e.val))=m.map λp=>(key p.1,p.2)):(es.eraseIdx J).map (λe=>(e.key,e.val))=(m.eraseIdx J).map λp=>(key p.1,p.2):=by
  have e:∀{α β:Type}(f:α->β)(l:List α)(J:Nat),(l.eraseIdx J).map f=(l.map f).eraseIdx J:=by
   intro α β f l;induction l with
   |nil=>intro J;rfl
   |cons x r u=>intro J;cases J with|zero=>rfl|succ J=>simp [List.eraseIdx,u]
  rw [e,hm,e]
end
theorem C.map{o w:World}{F:List Nat}{ad:List (List Chunk)}{b:Nat}{I fZ:Obj}(h:C o F ([(b,I)]::ad) w)(a:fZ≠Obj.deferred (some [])):C o F ([(b,fZ)]::ad) {w with heap:=w.heap.setIfInBounds b fZ}:=
 h.lx j j j (by simp) (pZ h.first).1 (pZ h.first).2 a
section
variable {P:Program} {n:Fr} {Z:Env} {w:World} {Q:d6} {ops:Array Oper} {rest:List Oper}
 {dst:Option Nat} {ty:TypeId} {pos:String} {after:Array Edge} {g:Option (Nat×Bool)}
variable {cx:Type} [DecidableEq cx] {key:cx->Value} {o:World} {F:List Nat} {ad:List (List Chunk)} {b:Nat} {I:Obj} {m:List (cx×Value)}
theorem jx{t:TypeId}{c:Option Operand}(dt:c=none)(d:C o F ad w)(f:cY ops Z g=some true)(e:c8 n dst=true)
 (h:∀b aK,C o F ([(b,.map #[] 0)]::ad) aK->O P n ops rest (cG Z dst (.map (some b))) aK Q):O P n ops (⟨dst,.makeMap t c,ty,pos,after,g⟩::rest) Z w Q:=by
 subst dt;refine dN f e (λa i=>?_) (h w.heap.size _ (d.alloc _)) (aa:=cV.alloc _ _);simp [execOp,Instr.makeMap,Result.andThen]
theorem Hv{P:Program}{t cZ eI:TypeId}{z:Value}{size bytes:Nat}[hu:bA P t (.map cZ eI)][aa:Keys P cZ key][g:cm P eI z size bytes](hm:cg key I m)(f:w.heap[b]? =some I)(k:cx)(c:Bool):
 (Instr.lookup t (.map (some b)) (key k) c).run P w= .ok (if c then .tuple #[(aZ m k).getD z,.bool (aZ m k).isSome] else(aZ m k).getD z) w:=by
 obtain⟨es,clock,rfl,aM,o⟩:=hm;obtain⟨i,l,n,_⟩:=g.parts;rcases(show cg key (.map es clock) m from⟨es,clock,j,aM,o⟩).find (P:=P) (cZ:=cZ) k w with⟨a,d,_,_⟩|⟨J,e,a,d,_⟩
 .simp only [Instr.lookup,dS,d8 hu.h,dZ,mX f,en,aa.check,a,d,zeroValue,typeInfo,mh,l,n,rE,rF]
 .simp only [Instr.lookup,dS,d8 hu.h,dZ,mX f,en,aa.check,a,d,me,oC]
theorem ww{t cZ eI:TypeId}{x y:Operand}{z:Value}{size bytes:Nat}[hu:bA P t (.map cZ eI)][aa:Keys P cZ key][i:cm P eI z size bytes](hm:cg key I m)(e:w.heap[b]? =some I){k:cx}{c:Bool}(f:bs Z x=some (.map (some b)))(h:bs Z y=some (key k)):
 ∀a,cK Z n.n a->(execOp a.eval ⟨dst,.lookup t x y c,ty,pos,after,g⟩).run P w= .ok (.value (if c then .tuple #[(aZ m k).getD z,.bool (aZ m k).isSome] else(aZ m k).getD z)) w:=λa d=>by
 simp only [execOp,d.eval f,d.eval h,dS,Hv hm e k c,dZ,en]
theorem jy{t cZ eI:TypeId}{x y u:Operand}{v:Value}[hu:bA P t (.map cZ eI)][aa:Keys P cZ key](hm:cg key I m)(c:C o F ([(b,I)]::ad) w){k:cx}
 (l:cY ops Z g=some true) (q:bs Z x=some (.map (some b))) (r:bs Z y=some (key k)) (p:bs Z u=some v)
 (h:∀fZ aK,cg key fZ (cj m k v)->C o F ([(b,fZ)]::ad) aK->O P n ops rest Z aK Q):O P n ops (⟨none,.mapUpdate t x y u,ty,pos,after,g⟩::rest) Z w Q:=by
 obtain⟨es,clock,rfl,aM⟩:=hm;obtain⟨fZ,f,e⟩:=(show cg key (.map es clock) m from⟨es,clock,j,aM⟩).update k v w hu.h c.first;have i:=c.map e.vI;refine tQ (aK:=_) l j (λa d=>?_) (h fZ _ e i) (cV.lx c.first (by simp) (pZ c.first).2);simp only [execOp,d.eval q,d.eval r,d.eval p,dS,f,dZ,en]
theorem wJ{cZ eI t:TypeId}{d:Array TypeId}{args:Array Operand}[hu:bA P t (.map cZ eI)][aa:Keys P cZ key](hm:cg key I m)(c:C o F ([(b,I)]::ad) w){k:cx}(r:d[0]? =some t)
 (q:cY ops Z g=some true) (p:c8 n dst=true) (s:fu Z args.toList=some [.map (some b),key k])
 (h:∀fZ aK,cg key fZ (fY m k)->C o F ([(b,fZ)]::ad) aK->O P n ops rest (cG Z dst (.tuple #[])) aK Q):O P n ops (⟨dst,.call ⟨.builtin .delete,args,d⟩,ty,pos,after,g⟩::rest) Z w Q:=by
 obtain⟨es,clock,rfl,aM⟩:=hm;obtain⟨fZ,f,e⟩:=(show cg key (.map es clock) m from⟨es,clock,j,aM⟩).erase (ur:=d) (ty:=ty) k w r hu.h c.first;have i:=c.map e.vI;refine dN q p (λa l=>?_) (h fZ _ e i) (aa:=cV.lx c.first (by simp) (pZ c.first).2);have:args.map a.eval= #[.map (some b),key k]:=by apply fx;rw [hq,l.hv s]
 simp only [execOp,resolve,invoke,builtin,dS,en,dZ,this,f]
theorem By{cZ eI t:TypeId}{c:Array TypeId}{args:Array Operand}[hu:bA P t (.map cZ eI)](hm:cg key I m)(f:w.heap[b]? =some I)(j:c= #[t])
 (k:fu Z args.toList=some [.map (some b)]):∀a,cK Z n.n a->(execOp a.eval ⟨dst,.call ⟨.builtin .len,args,c⟩,ty,pos,after,g⟩).run P w= .ok (.value (.int .i64 m.length)) w:=λa d=>by
 subst j;obtain⟨es,clock,rfl,aM,i⟩:=hm;have e:es.size=m.length:=by have:=aG List.length i;simpa using this
 have:args.map a.eval= #[.map (some b)]:=by apply fx;rw [hq,d.hv k]
 simp only [execOp,resolve,invoke,builtin,dS,en,dZ,this];simp [Builtin.len_,d8 hu.h,mX f,Result.andThen,e,goInt]
theorem tP{cZ eI t:TypeId}{a:Array TypeId}{args:Array Operand}[hu:bA P t (.map cZ eI)](hm:cg key I m)(c:w.heap[b]? =some I)(f:a= #[t])(e:cY ops Z g=some true)(d:c8 n dst=true)
 (i:fu Z args.toList=some [.map (some b)]) (h:O P n ops rest (cG Z dst (.int .i64 m.length)) w Q):O P n ops (⟨dst,.call ⟨.builtin .len,args,a⟩,ty,pos,after,g⟩::rest) Z w Q:=
 dN e d (By hm c f i) h
theorem gZ{f:FuncId}{aD cs:Array Operand}{xs da:List Value}(i:cY ops Z g=some true)(e:c8 n dst=true)(j:fu Z aD.toList=some xs)(k:fu Z cs.toList=some da)
 (h:O P n ops rest (cG Z dst (.func (.func f) xs.toArray da.toArray)) w Q):O P n ops (⟨dst,.makeFunc (.func f) aD cs,ty,pos,after,g⟩::rest) Z w Q:=
 dN i e (λa b=>by
  have c:aD.map a.eval=xs.toArray:=by apply fx;rw [hq,b.hv j]
  have d:cs.map a.eval=da.toArray:=by apply fx;rw [hq,b.hv k]
  simp [execOp,c,d,Instr.makeFunc,Act.eval,Result.andThen]) h
end
def mb{cx:Type}(key:cx->Value)(b:Nat)(I:Obj)(m:List (cx×Value))(pre:List cx)(it:Obj):Prop:=
 ∃es clock since seen,I= .map es clock/\it= .mapIter (some b) since seen clock/\(∀x∈es.toList,x.born<since)/\since<=clock/\(es.toList.map (·.born)).Nodup/\
  es.toList.map (λe=>(e.key,e.val))=(m.map λp=>(key p.1,p.2))/\(m.map (·.1)).Nodup/\
  ∃L:List MapEntry,seen.toList=L.map (·.born)/\(∀e∈L,e∈es.toList)/\L.map (·.key)=pre.map key
section
variable {cx:Type} [DecidableEq cx] {key:cx->Value} {P:Program} {cZ:TypeId}
theorem qV:∀{l pre:List cx},l.Nodup->pre.Nodup->(∀k∈pre,k∈l)->(∀k∈l,k∈pre)->pre.Perm l:=λb c d e=>
 (List.perm_ext_iff_of_nodup c b).2 λa=>⟨d a,e a⟩
end
section
variable {P:Program} {n:Fr} {Z:Env} {w:World} {Q:d6} {ops:Array Oper} {rest:List Oper}
 {dst:Option Nat} {ty:TypeId} {pos:String} {after:Array Edge} {g:Option (Nat×Bool)}
variable {cx:Type} [DecidableEq cx] {key:cx->Value} {o:World} {F:List Nat} {ad:List (List Chunk)} {b r:Nat} {I it:Obj} {m:List (cx×Value)} {pre:List cx}
theorem pU{t cZ eI:TypeId}{x:Operand}[hu:bA P t (.map cZ eI)][aa:Keys P cZ key](hm:cg key I m)(e:w.heap[b]? =some I)(c:C o F ad w)(i:cY ops Z g=some true)(f:c8 n dst=true)(p:bs Z x=some (.map (some b)))
 (h:∀r it aK,mb key b I m [] it->C o F ([(r,it)]::ad) aK->O P n ops rest (cG Z dst (.pointer (some ⟨r,0,none⟩))) aK Q):O P n ops (⟨dst,.range t x,ty,pos,after,g⟩::rest) Z w Q:=by
 have l:=hm.nodup (P:=P) (cZ:=cZ);obtain⟨es,clock,rfl,aM,k⟩:=hm;refine dN i f (λa d=>?_) (h w.heap.size (.mapIter (some b) clock #[] clock) _ ⟨es,clock,clock,#[],j,j,aM.1,cI _,aM.2.1,k,l,[],j,by simp,j⟩ (c.alloc _)) (aa:=cV.alloc _ _);simp only [execOp,d.eval p,dS,run_range_map w t cZ eI b es clock hu.h e,dZ,en]
theorem pT{x:Operand}(az:mb key b I m pre it)(ak:∀a c:cx,key a=key c->a=c)(av:w.heap[b]? =some I)(H:C o F ([(r,it)]::ad) w)(ai:cY ops Z g=some true)(ah:c8 n dst=true)(d:bs Z x=some (.pointer (some ⟨r,0,none⟩)))
 (ax:(∀p∈m,p.1∈pre)->O P n ops rest (cG Z dst (.tuple #[.bool false])) w Q)
 (aF:∀k v ap aK,(k,v)∈m->k∉pre->mb key b I m (pre++[k]) ap->C o F ([(r,ap)]::ad) aK->O P n ops rest (cG Z dst (.tuple #[.bool true,key k,v])) aK Q):
 O P n ops (⟨dst,.next x false,ty,pos,after,g⟩::rest) Z w Q:=by
 obtain⟨es,clock,since,seen,rfl,rfl,ab,ac,B,y,ae,L,D,E,G⟩:=az;have aL:Obj.mapIter (some b) since seen clock≠Obj.deferred (some []):=by simp
 rcases run_next_at (P:=P) w ty r b since clock seen es clock H.first av ab ac with⟨aD,Y⟩|⟨e,he,A,ao,Y⟩
 .refine dN ai ah (λa M=>?_) (ax λp W=>?_)
  .simp only [execOp,M.eval d,dS,Y,dZ,en]
  .have T:(key p.1,p.2)∈es.toList.map (λe=>(e.key,e.val)):=by rw [y];exact dV.2 ⟨p,W,j⟩
   obtain⟨e,he,ay⟩:=dV.1 T
   have aJ:seen.contains e.born=true:=by
    rcases aw:seen.contains e.born with _|_
    .have:e∈(leftOf es seen).toList:=by
      unfold leftOf;simp only [Array.toList_filter,jC];exact⟨he,by simp only [aw];rfl⟩
     have aE:(leftOf es seen).toList=[]:=mf (by simpa using aD);rw [aE] at this;simp at this
    .rfl
   have af:e.born∈seen.toList:=by simpa using aJ
   rw [D] at af;obtain⟨ht,q,ag⟩:=dV.1 af
   have N:ht=e:=by
    have:=(List.pairwise_map.1 B);rcases oz (E ht q) with⟨i,s⟩;rcases oz he with⟨J,h⟩;have am:=B;have f:(es.toList.map (·.born))[i]? =some ht.born:=by rw [gE,s];rfl
    have l:(es.toList.map (·.born))[J]? =some e.born:=by rw [gE,h];rfl
    have S:i=J:=by
     have t:=(fk.1 f).1;have u:=(fk.1 l).1;rcases rW i J with V|heq|R
     .have:=(oA.1 am) i J t u V;rw [(fk.1 f).2,(fk.1 l).2] at this;exact absurd ag this
     .exact heq
     .have:=(oA.1 am) J i u t R;rw [(fk.1 f).2,(fk.1 l).2] at this;exact absurd ag.symm this
    subst S;rw [s] at h;exact hB h
   subst N;have aa:ht.key∈pre.map key:=by rw [<-G];exact dV.2 ⟨ht,q,j⟩
   obtain⟨k,U,aA⟩:=dV.1 aa;have:key k=key p.1:=aA.trans (aG Prod.fst ay);rw [<-ak _ _ this];exact U
 .have z:e∈es.toList/\e.born∉seen.toList:=by
   unfold leftOf at he;simp only [Array.toList_filter,jC] at he;refine⟨he.1,?_⟩;have:=he.2;simpa using this
  have T:(e.key,e.val)∈m.map λp=>(key p.1,p.2):=by rw [<-y];exact dV.2 ⟨e,z.1,j⟩
  obtain⟨p,W,an⟩:=dV.1 T;have X:key p.1=e.key:=aG Prod.fst an;have aI:p.2=e.val:=aG Prod.snd an;have K:C o F ([(r,Obj.mapIter (some b) since seen clock)]::ad) A:=by rcases ao with rfl|rfl<;>first|exact H|exact H.drew
  have ar:C o F ([(r,Obj.mapIter (some b) since (seen.push e.born) clock)]::ad) (ChangeMaps.setBlock A r (.mapIter (some b) since (seen.push e.born) clock)):=K.map (by simp)
  have aB:cV w (ChangeMaps.setBlock A r (.mapIter (some b) since (seen.push e.born) clock)):=by
   have U:cV w A:=by rcases ao with rfl|rfl<;>first|exact cV.refl _|exact cV.drew _
   exact U.trans (cV.lx K.first (by simp) (pZ K.first).2)
  refine dN ai ah (λa M=>?_) (aF p.1 p.2 _ _ W ?_ ⟨es,clock,since,seen.push e.born,j,j,ab,ac,B,y,ae,L++[e],?_,?_,?_⟩ ar) (aa:=aB)
  .simp only [execOp,M.eval d,dS,Y,dZ,en,X,aI]
  .intro aH;have:key p.1∈L.map (·.key):=by rw [G];exact dV.2 ⟨p.1,aH,j⟩
   obtain⟨ht,q,aC⟩:=dV.1 this;have aj:ht.key=e.key:=aC.trans X
   have al:(es.toList.map (·.key)).Nodup:=by
    have aq:es.toList.map (·.key)=(m.map (·.1)).map key:=by
     have:=aG (List.map Prod.fst) y;simpa [oN,Function.comp_def] using this
    rw [aq];exact List.Pairwise.map key (λa c au heq=>au (ak _ _ heq)) ae
   rcases oz (E ht q) with⟨i,s⟩;rcases oz z.1 with⟨J,h⟩;have f:(es.toList.map (·.key))[i]? =some ht.key:=by rw [gE,s];rfl
   have l:(es.toList.map (·.key))[J]? =some e.key:=by rw [gE,h];rfl
   have t:=(fk.1 f).1;have u:=(fk.1 l).1
   have S:i=J:=by
    rcases rW i J with V|heq|R
    .have:=(oA.1 al) i J t u V;rw [(fk.1 f).2,(fk.1 l).2] at this;exact absurd aj this
    .exact heq
    .have:=(oA.1 al) J i u t R;rw [(fk.1 f).2,(fk.1 l).2] at this;exact absurd aj.symm this
   subst S;rw [s] at h;have N:=hB h;subst N;exact z.2 (by rw [D];exact dV.2 ⟨ht,q,j⟩)
  .simp [D]
  .intro x d;rcases dv.1 d with d|d
   .exact E x d
   .simp at d;subst d;exact z.1
  .simp [G,X]
theorem pM{x:Operand}{k:cx}(E:mb key b I m (pre++[k]) it)(G:∀a c:cx,key a=key c->a=c)(A:w.heap[b]? =some I)(y:C o F ([(r,it)]::ad) w)(D:cY ops Z g=some true)(B:c8 n dst=true)(S:bs Z x=some (.pointer (some ⟨r,0,none⟩)))
 (h:∀v,(k,v)∈m->O P n ops rest (cG Z dst (.tuple #[key k,v])) w Q):
 O P n ops (⟨dst,.entry x,ty,pos,after,g⟩::rest) Z w Q:=by
 obtain⟨es,clock,since,seen,rfl,rfl,T,U,q,s,V,L,t,u,d⟩:=E;have hlen:L.length=pre.length+1:=by have:=aG List.length d;simpa using this
 obtain⟨kF,e,rfl⟩:∃kF e,L=kF++[e]:=by
  rcases List.eq_nil_or_concat L with h|⟨kF,e,h⟩
  .subst h;simp at hlen
  .exact⟨kF,e,by simpa using h⟩
 have i:e.key=key k:=by
  simp only [jD,List.map_cons,List.map_nil] at d;exact(List.append_inj' d j).2|>λh=>by simpa using h
 have R:seen=(kF.map (·.born)).toArray.push e.born:=by
  apply fx;simp [t]
 subst R;have f:e∈es.toList:=u e (by simp);have N:=run_entry_at (P:=P) w r b since _ es clock e y.first A f q;have H:(e.key,e.val)∈m.map λp=>(key p.1,p.2):=by rw [<-s];exact dV.2 ⟨e,f,j⟩
 obtain⟨p,J,l⟩:=dV.1 H;have K:p.1=k:=G _ _ ((aG Prod.fst l).trans i);have M:p.2=e.val:=aG Prod.snd l;have:=h e.val (by rw [<-K,<-M];exact J);refine dN D B (λa z=>?_) this;simp only [execOp,z.eval S,dS,N,dZ,en,i]
theorem pP{t:TypeId}{x:Operand}{v:Value}{d:TypeDesc}[hu:bA P t d](j:∀ms,d≠.interface ms)(e:cY ops Z g=some true)(c:c8 n dst=true)(i:bs Z x=some v)
 (h:O P n ops rest (cG Z dst (.iface t v)) w Q):O P n ops (⟨dst,.makeInterface t x,ty,pos,after,g⟩::rest) Z w Q:=
 dN e c (λa b=>by
  have f:=hu.h;simp only [execOp,b.eval i,Instr.makeInterface,dS,d8 f,dZ,en]) h
theorem pK{t l:TypeId}{x:Operand}{v:Value}{d:TypeDesc}[hu:bA P t d](e:∀ms,d≠.interface ms)(f:cY ops Z g=some true)(c:c8 n dst=true)(k:bs Z x=some (.iface t v))
 (h:O P n ops rest (cG Z dst v) w Q):O P n ops (⟨dst,.typeAssert x l t false,ty,pos,after,g⟩::rest) Z w Q:=
 dN f c (λa b=>by
  have i:=hu.h;simp only [execOp,b.eval k,Instr.typeAssert,dS,d8 i,dZ,en];cases d<;>first|exact absurd j (e _)|simp [Result.andThen]) h
theorem Ho{P:Program}{t cZ eI:TypeId}(hu:P.underlying t=some (.map cZ eI))(b:Nat)(w:World)(d:Nat):(Op.equalIn (d+1) t (.map (some b)) (.map none)).run P w= .ok false w:=by
 simp only [Op.equalIn,dS,d8 hu,dZ];rfl
theorem C2(t:TypeId)(x y:Operand)(p q:Option Nat):(do eqGuard .eql t x y (.map p) (.map q);binOp .eql t (.map p) (.map q))=(do pure (.bool (<-Op.equal t (.map p) (.map q))):Sem Value):=rfl
theorem Bq{t i cZ eI:TypeId}{x y:Operand}{b:Nat}[hu:bA P t (.map cZ eI)](e:bs Z x=some (.map (some b)))(f:bs Z y=some (.map none)):
 ∀a,cK Z n.n a->(execOp a.eval ⟨dst,.binOp .eql t x y i,ty,pos,after,g⟩).run P w= .ok (.value (.bool false)) w:=λa c=>by
 have d:(Op.equal t (.map (some b)) (.map none)).run P w= .ok false w:=by
  exact Ho hu.h b w 9999
 simp only [execOp,c.eval e,c.eval f,C2,dS,d,dZ,en]
theorem pN{t f cZ eI:TypeId}{x y:Operand}{b:Nat}[hu:bA P t (.map cZ eI)](c:cY ops Z g=some true)(a:c8 n dst=true)(d:bs Z x=some (.map (some b)))(e:bs Z y=some (.map none))
 (h:O P n ops rest (cG Z dst (.bool false)) w Q):O P n ops (⟨dst,.binOp .eql t x y f,ty,pos,after,g⟩::rest) Z w Q:=
 dN c a (Bq d e) h
theorem tH{t cZ eI:TypeId}{x y:Operand}{z:Value}{size bytes:Nat}[hu:bA P t (.map cZ eI)][aa:Keys P cZ key][f:cm P eI z size bytes](hm:cg key I m)(c:w.heap[b]? =some I){k:cx}(d:bs Z x=some (.map (some b)))(e:bs Z y=some (key k)):
 ∀a,cK Z n.n a->(execOp a.eval ⟨dst,.lookup t x y true,ty,pos,after,g⟩).run P w= .ok (.value (.tuple #[(aZ m k).getD z,.bool (aZ m k).isSome])) w:=ww hm c d e
theorem tG{t cZ eI:TypeId}{x y:Operand}{z:Value}{size bytes:Nat}[hu:bA P t (.map cZ eI)][aa:Keys P cZ key][f:cm P eI z size bytes](hm:cg key I m)(c:w.heap[b]? =some I){k:cx}(d:bs Z x=some (.map (some b)))(e:bs Z y=some (key k)):
 ∀a,cK Z n.n a->(execOp a.eval ⟨dst,.lookup t x y false,ty,pos,after,g⟩).run P w= .ok (.value ((aZ m k).getD z)) w:=ww hm c d e
theorem mT{t cZ eI:TypeId}{x y:Operand}{z:Value}{size bytes:Nat}[hu:bA P t (.map cZ eI)][aa:Keys P cZ key][i:cm P eI z size bytes](hm:cg key I m)(a:w.heap[b]? =some I){k:cx}
 (d:cY ops Z g=some true) (c:c8 n dst=true) (e:bs Z x=some (.map (some b))) (f:bs Z y=some (key k))
 (h:O P n ops rest (cG Z dst (.tuple #[(aZ m k).getD z,.bool (aZ m k).isSome])) w Q):O P n ops (⟨dst,.lookup t x y true,ty,pos,after,g⟩::rest) Z w Q:=dN d c (tH hm a e f) h
theorem pO{t cZ eI:TypeId}{x y:Operand}{z:Value}{size bytes:Nat}[hu:bA P t (.map cZ eI)][aa:Keys P cZ key][i:cm P eI z size bytes](hm:cg key I m)(a:w.heap[b]? =some I){k:cx}
 (d:cY ops Z g=some true) (c:c8 n dst=true) (e:bs Z x=some (.map (some b))) (f:bs Z y=some (key k))
 (h:O P n ops rest (cG Z dst ((aZ m k).getD z)) w Q):O P n ops (⟨dst,.lookup t x y false,ty,pos,after,g⟩::rest) Z w Q:=dN d c (tG hm a e f) h
class MapsClone(P:Program)(f:FuncId):Prop where
 h:∃fn,P.funcs[f]? =some fn/\(fn.name== "runtime.NumGoroutine")=false/\fn.body.isNone=true/\Extern.findNext fn=none/\Extern.find fn=some Extern.MapsClone.clone
theorem pQ{f:FuncId}{z:Array TypeId}{args:Array Operand}{t:TypeId}[bw:MapsClone P f](hm:cg key I m)(r:w.heap[b]? =some I)(p:C o F ad w)
 (u:cY ops Z g=some true) (s:c8 n dst=true) (y:fu Z args.toList=some [.iface t (.map (some b))])
 (h:∀c aK,C o F ([(c,I)]::ad) aK->O P n ops rest (cG Z dst (.iface t (.map (some c)))) aK Q):O P n ops (⟨dst,.call ⟨.value (.func f),args,z⟩,ty,pos,after,g⟩::rest) Z w Q:=by
 have v:=hm.vI;obtain⟨es,clock,rfl,_⟩:=hm;obtain⟨fn,d,i,j,k,l⟩:=bw.h;refine dN u s (λa q=>?_) (h w.heap.size _ (p.alloc _ v)) (aa:=cV.alloc _ _);have:args.map a.eval= #[.iface t (.map (some b))]:=by apply fx;rw [hq,q.hv y]
 have x:(Extern.MapsClone.clone #[.iface t (.map (some b))]).run P w= .ok (.iface t (.map (some w.heap.size))) (w.alloc (.map es clock)):=by
  have e:Extern.MapsClone.clone #[.iface t (.map (some b))]=(getObj b>>=λI=>match I with
   | .map entries clock=>(newObj (.map entries clock)>>=λn=>pure (.iface t (.map (some n))))
   |_=>stuck "maps.clone: a map expected"):=rfl
  rw [e];simp [mX r,Result.andThen]
 simp only [execOp,resolve,this,Act.eval,Deferred.ofValue,invoke,callFunc,d,i,j,k,l,dS,en,dZ,mh,run_mark,qd,Array.append_empty,if_false,if_true,Bool.false_eq_true,x]
end
end Go.Proofs.YtngjfjhomikplaaGreatDoor.R
namespace Go.Proofs.YtngjfjhomikplaaGreatDoor.R
open Go.Proofs.Tryz Go Go.RowKit
section
variable {P:Program} {n:Nat} {Z:Env} {w:World} {dst:Option Nat} {ty:TypeId} {pos:String} {after:Array Edge} {g:Option (Nat×Bool)}
theorem wv{t e:TypeId}{x y:Operand}{m:Nat}{b off J:Nat}{k:IntKind}{z:Value}{size bytes:Nat}[hu:bA P t (.array m e)][f:cm P e z size bytes]
 (o:bs Z x=some (.pointer (some ⟨b,off,none⟩))) (p:bs Z y=some (.int k J)) (d:J<m):
 ∀a,cK Z n a->(execOp a.eval ⟨dst,.indexAddr t x y,ty,pos,after,g⟩).run P w= .ok (.value (.pointer (some ⟨b,off+J*size,none⟩))) w:=λa c=>by
 obtain⟨i,j,_,l,_⟩:=f.parts;simp [execOp,c.eval o,c.eval p,Instr.indexAt,Instr.sureAddr,asIntOf,d8 hu.h,sizeOf,typeInfo,j,l,d,add_lit]
theorem mO{op:BinOp}{t h:TypeId}{x y:Operand}{k dm:IntKind}{i J:Int}{v:Value}
 (e:bs Z x=some (.int k i)) (f:bs Z y=some (.int dm J)) (j:0<=J) (c:evalShift op k i J=some v):
 ∀a,cK Z n a->(execOp a.eval ⟨dst,.binOp op t x y h,ty,pos,after,g⟩).run P w= .ok (.value v) w:=λa b=>by
 have d:¬J<0:=by omega
 cases op<;>simp [evalShift] at c<;>subst c<;>simp [execOp,b.eval e,b.eval f,eqGuard,binOp,Op.shift,d]
theorem BK{op:UnOp}{t:TypeId}{x:Operand}{k:IntKind}{i:Int}{v:Value}(d:bs Z x=some (.int k i))(b:qz op k i=some v):
 ∀a,cK Z n a->(execOp a.eval ⟨dst,.unOp op t x,ty,pos,after,g⟩).run P w= .ok (.value v) w:=λa c=>by
 cases op<;>simp [qz] at b<;>subst b<;>simp [execOp,c.eval d,Op.unary,Op.intArith,Op.intBits]
theorem fe{t e:TypeId}{x y:Operand}{m:Nat}{b J:Nat}{k:IntKind}{z:Value}{bytes:Nat}[hu:bA P t (.array m e)][h:cm P e z 1 bytes]
 (d:bs Z x=some (.pointer (some ⟨b,0,none⟩))) (f:bs Z y=some (.int k J)) (c:J<m):
 ∀a,cK Z n a->(execOp a.eval ⟨dst,.indexAddr t x y,ty,pos,after,g⟩).run P w= .ok (.value (.pointer (some ⟨b,J,none⟩))) w:=by
 have:=wv (P:=P) (n:=n) (w:=w) (dst:=dst) (ty:=ty) (pos:=pos) (after:=after) (g:=g) (Z:=Z) (t:=t) (e:=e) (z:=z) (size:=1) (bytes:=bytes) d f c;simpa using this
theorem mN{t e:TypeId}{x y:Operand}{b:Addr}{l c J:Nat}{k:IntKind}{z:Value}{bytes:Nat}[hu:bA P t (.slice e)][i:cm P e z 1 bytes]
 (f:bs Z x=some (.slice (some b) l c)) (h:bs Z y=some (.int k J)) (d:J<l):
 ∀a,cK Z n a->(execOp a.eval ⟨dst,.indexAddr t x y,ty,pos,after,g⟩).run P w= .ok (.value (.pointer (some (b.add J)))) w:=by
 have:=rp (P:=P) (n:=n) (w:=w) (dst:=dst) (ty:=ty) (pos:=pos) (after:=after) (g:=g) (Z:=Z) (t:=t) (e:=e) (z:=z) (size:=1) (bytes:=bytes) f h d;simpa using this
end
section
variable {P:Program} {n:Fr} {Z:Env} {w:World} {Q:d6} {ops:Array Oper} {rest:List Oper} {dst:Option Nat} {ty:TypeId} {pos:String} {after:Array Edge} {g:Option (Nat×Bool)}
theorem g7{t e:TypeId}{x y:Operand}{m:Nat}{b J:Nat}{k:IntKind}{z:Value}{bytes:Nat}[hu:bA P t (.array m e)][j:cm P e z 1 bytes](d:cY ops Z g=some true)(c:c8 n dst=true)
 (f:bs Z x=some (.pointer (some ⟨b,0,none⟩))) (i:bs Z y=some (.int k J)) (a:J<m)
 (h:O P n ops rest (cG Z dst (.pointer (some ⟨b,J,none⟩))) w Q):O P n ops (⟨dst,.indexAddr t x y,ty,pos,after,g⟩::rest) Z w Q:=dN d c (fe f i a) h
theorem BU{t e:TypeId}{x y:Operand}{b m i:Nat}{k:IntKind}{z:Value}{bytes:Nat}[hu:bA P t (.array m e)][o:cm P e z 1 bytes]
 (l:cY ops Z g=some true) (j:c8 n dst=true) (r:bs Z x=some (.pointer (some ⟨b,0,none⟩))) (s:bs Z y=some (.int k i)) (u:i<m)
 (h:O P n ops rest (cG Z dst (.slice (some ⟨b,i,none⟩) (m-i) (m-i))) w Q):O P n ops (⟨dst,.slice t x (some y) none none,ty,pos,after,g⟩::rest) Z w Q:=
 dN l j (λa c=>by
  obtain⟨J,p,_,q,_⟩:=o.parts;have d:i<=m:=by omega
  have f:m≠i:=by omega
  simp [execOp,c.eval r,c.eval s,Instr.sliceAt,Instr.sureAddr,Instr.sliceBounds,Instr.sliceBound,asIntOf,d8 hu.h,sizeOf,typeInfo,p,q,add_lit,d,f]) h
theorem Bv{P:Program}{n:Nat}{Z:Env}{w:World}{dst:Option Nat}{ty:TypeId}{pos:String}{after:Array Edge}{g:Option (Nat×Bool)}{t e:TypeId}{x y:Operand}{m J:Nat}{k:IntKind}{cs:Array Value}{v z:Value}{bytes:Nat}{d:TypeDesc}[hu:bA P t (.array m e)][he:bA P e d][j:cm P e z 1 bytes]
 (r:bs Z x=some (.agg cs)) (s:bs Z y=some (.int k J)) (c:J<m) (i:ib d=false) (f:cs[J]? =some v):
 ∀a,cK Z n a->(execOp a.eval ⟨dst,.index t x y,ty,pos,after,g⟩).run P w= .ok (.value v) w:=λa b=>by
 obtain⟨q,l,_,o,_⟩:=j.parts;have p:=nz (P:=P) (w:=w) (t:=e) (d:=d) (cs:=cs) (off:=J) (v:=v) he.h i f;simp [execOp,b.eval r,b.eval s,Instr.index,asIntOf,d8 hu.h,sizeOf,typeInfo,l,o,c,p]
theorem wN{t e:TypeId}{x y:Operand}{m J:Nat}{k:IntKind}{cs:Array Value}{v z:Value}{bytes:Nat}{d:TypeDesc}[hu:bA P t (.array m e)][he:bA P e d][o:cm P e z 1 bytes]
 (i:cY ops Z g=some true) (c:c8 n dst=true) (j:bs Z x=some (.agg cs)) (l:bs Z y=some (.int k J)) (a:J<m) (f:ib d=false) (b:cs[J]? =some v)
 (h:O P n ops rest (cG Z dst v) w Q):O P n ops (⟨dst,.index t x y,ty,pos,after,g⟩::rest) Z w Q:=dN i c (Bv j l a f b) h
end
section
variable {P:Program} {n:Fr} {Z:Env} {w:World} {Q:d6} {ops:Array Oper} {rest:List Oper} {dst:Option Nat} {ty:TypeId} {pos:String} {after:Array Edge} {g:Option (Nat×Bool)}
theorem lC{t e:TypeId}{x y:Operand}{z:Value}{size bytes:Nat}{m k:IntKind}{l c:Nat}{o:World}{F:List Nat}{ad:List (List Chunk)}[hu:bA P t (.slice e)][s:cm P e z size bytes](p:C o F ad w)
 (r:cY ops Z g=some true) (q:c8 n dst=true) (D:bs Z x=some (.int m l)) (E:bs Z y=some (.int k c)) (H:l<=c) (G:bytes*c<=281474976710656) (hm:c<=maxLen)
 (h:∀b cs aK,cs.size=c*size->cs=madeCells z.cells (c*size)->C o F ([(b,.cells cs e (0,0))]::ad) aK->O P n ops rest (cG Z dst (.slice (some ⟨b,0,none⟩) l c)) aK Q):O P n ops (⟨dst,.makeSlice t x y,ty,pos,after,g⟩::rest) Z w Q:=by
 obtain⟨i,u,v,A,B⟩:=s.parts;have f:=run_make (P:=P) w t e i z hu.h u v m k (l:Int) (c:Int) (by omega) (by omega) (by rw [B,<-Int.natCast_mul];omega) (by simp only [maxLen] at hm;omega);simp only [m9,A] at f;refine dN r q (λa d=>?_) (h w.heap.size _ _ (size_madeCells _ _) j (p.alloc _)) (aa:=cV.alloc _ _);simp only [execOp,d.eval D,d.eval E,dS,f,dZ,en]
theorem tR{t p:TypeId}{x y:Operand}{i J:Nat}(l:cY ops Z g=some true)(k:c8 n dst=true)
 (m:bs Z x=some (.int .i64 i)) (o:bs Z y=some (.int .i64 J)) (r:0<J) (s:i<9223372036854775808)
 (h:O P n ops rest (cG Z dst (.int .i64 ((i/J:Nat):Int))) w Q):O P n ops (⟨dst,.binOp .quo t x y p,ty,pos,after,g⟩::rest) Z w Q:=
 dN l k (λa b=>by
  have c:¬(J:Int)=0:=by omega
  have d:(i:Int).tdiv (J:Int)=((i/J:Nat):Int):=rfl
  have e:IntKind.i64.wrap ((i/J:Nat):Int)=((i/J:Nat):Int):=by
   have:i/J<=i:=Nat.div_le_self i J;rw [jY];generalize i/J=q at*;omega
  simp only [execOp,b.eval m,b.eval o];have f:eqGuard .quo t x y (.int .i64 (i:Int)) (.int .i64 (J:Int))=pure ():=rfl
  have j:(binOp .quo t (.int .i64 (i:Int)) (.int .i64 (J:Int))).run P w= .ok (.int .i64 ((i/J:Nat):Int)) w:=by
   show(Op.intDiv .quo .i64 (i:Int) (J:Int)).run P w=_;unfold Op.intDiv;simp only [d,aI c,en,e]
  simp only [f,dS,en,dZ,j]) h
end
theorem Bm:∀(U:List Value)(k:Nat)(cells:Array Value),(U.zipIdx k).foldl (λcs(p:Value×Nat)=>cs.setIfInBounds (0+p.2) p.1) cells=setCells cells k U
 |[],_,_=>rfl
 |v::r,k,cells=>by
  rw [List.zipIdx_cons,iC,Bm r (k+1),setCells,fj]
theorem Hu{P:Program}{t e:TypeId}{z:Value}{size bytes:Nat}(hu:P.underlying t=some (.slice e))(f:cm P e z size bytes)(U:List Value)(k:U.length=size)(m:0<size)(aM:size<=16777216)(w:World):
 (Instr.buildSlice t 1 #[(0,.agg U.toArray)]).run P w= .ok (.slice (some ⟨w.heap.size,0,none⟩) 1 1) {w with heap:=w.heap.push (.cells U.toArray e)}:=by
 obtain⟨i,g,h,j,_⟩:=f.parts
 have key:∀cells:Array Value,cells.size=size->Instr.fill (λi=>some (i*size,size)) cells [(0,.agg U.toArray)]=some U.toArray:=by
  intro cells c;have d:(Value.agg U.toArray).cells=U.toArray:=rfl;unfold Instr.fill;simp only [d,hA,k,oD,fj,ne_eq,not_true,decide_false,Bool.false_or,c,Nat.lt_irrefl,Instr.fill];simp only [gt_iff_lt,Nat.lt_irrefl,decide_false,Bool.false_eq_true,lI]
  congr 1
  rw [<-Array.foldl_toList,Array.toList_zipIdx];have a:=Bm U 0 cells;simp only [fj] at a;exact a.trans (Az U cells (by omega))
 unfold Instr.buildSlice;have l:¬1*size>2^24:=by omega
 have b:¬1*size=0:=by omega
 simp only [dS,d8 hu,dZ,sizeOf,typeInfo,mh,g,en,j,l,b,lI,zeroValue,h];rw [key _ (by simp)];simp [newRow]
section
variable {P:Program} {n:Fr} {Z:Env} {w:World} {Q:d6} {ops:Array Oper} {rest:List Oper} {dst:Option Nat} {ty:TypeId} {pos:String} {after:Array Edge} {g:Option (Nat×Bool)}
theorem gi{t e:TypeId}{x:Operand}{U:List Value}{z:Value}{size bytes:Nat}{o:World}{F:List Nat}{ad:List (List Chunk)}[hu:bA P t (.slice e)][j:cm P e z size bytes](d:C o F ad w)
 (i:cY ops Z g=some true) (f:c8 n dst=true) (l:bs Z x=some (.agg U.toArray)) (k:U.length=size) (a:0<size) (aM:size<=16777216)
 (h:∀b aK,C o F ([(b,.cells U.toArray e (0,0))]::ad) aK->O P n ops rest (cG Z dst (.slice (some ⟨b,0,none⟩) 1 1)) aK Q):O P n ops (⟨dst,.buildSlice t 1 #[(0,x)],ty,pos,after,g⟩::rest) Z w Q:=
 pL (c:=U.toArray) (e:=e) (U:=[.agg U.toArray]) d i f (by simp [fu,l]) (λw=>by simpa using Hu hu.h j U k a aM w) h
theorem BO{t e:TypeId}{H:Array TypeId}{args:Array Operand}{z:Value}{size bytes:Nat}{o:World}{F:List Nat}{ad:List (List Chunk)}{k m c:Nat}{B A:Option Addr}{xs news:List Value}
 [hu:bA P t (.slice e)] [S:cm P e z size bytes] (K:C o F ad w) (ac:H= #[t,t]) (ag:z.cells.size=size) (G:0<size) (R:cY ops Z g=some true) (N:c8 n dst=true)
 (ae:fu Z args.toList=some [.slice B k k,.slice A m c]) (p:xs.length=k*size) (D:Rd w B xs) (aa:0<k) (hm:0<m) (l:news.length=m*size) (E:Rd w A news) (L:(k+m)*bytes<=140737488355328) (x:k+m<=maxLen)
 (h:∀I s aK,Row e size I (k+m) (xs++news) s->C o F (s::ad) aK->O P n ops rest (cG Z dst I) aK Q):O P n ops (⟨dst,.call ⟨.builtin .append,args,H⟩,ty,pos,after,g⟩::rest) Z w Q:=by
 subst ac;obtain⟨i,T,U,y,V⟩:=S.parts;have af:xs≠[]:=by intro dt;subst dt;have:=Nat.mul_pos aa G;simp only [ge] at p;omega
 have X:news≠[]:=by intro dt;subst dt;have:=Nat.mul_pos hm G;simp only [ge] at l;omega
 obtain⟨f,rfl⟩:∃f,B=some f:=by
  cases xs with
  |nil=>exact absurd j af
  |cons u r=>obtain⟨a,b,_⟩:=D 0 u j;exact⟨a,b⟩
 obtain⟨d,rfl⟩:∃d,A=some d:=by
  cases news with
  |nil=>exact absurd j X
  |cons u r=>obtain⟨a,b,_⟩:=E 0 u j;exact⟨a,b⟩
 have ah:k+m<=9223372036854775807:=by simp only [maxLen] at x;omega
 have ab:=run_append_grow (P:=P) w t ty e i z hu.h T U f k k xs (by rw [y];exact p) (λJ v q=>D.cell q) d m c news (by rw [y];exact l) (λJ v q=>E.cell q) (by omega) (by omega) (by rw [V];exact growslice_fits (by omega) L);have M:=grownCap_ge w (k+m) k e;have W:=grownCap_le_maxLen w (k+m) k e x
 have Y:Row e size (.slice (some ⟨w.heap.size,0,none⟩) (k+m) (grownCap w (k+m) k e)) (k+m) (xs++news) [(w.heap.size,.cells (xs.toArray++news.toArray++Builtin.zeroCells z.cells (grownCap w (k+m) k e-(k+m))) e (0,0))]:=by
  have hlen:(xs++news).length=(k+m)*size:=by rw [b0,p,l,Nat.add_mul]
  refine⟨hlen,.inr ⟨_,_,_,j,j,M,W,?_,?_⟩⟩
  .simp only [Array.size_append,List.size_toArray,s9,ag,p,l,<-Nat.add_mul];exact kn _ (by omega)
  .simp only [t9,List.append_assoc];rw [<-dJ,<-hlen];exact mg
 refine dN R N (λa b=>?_) (h _ _ _ Y (K.drew.alloc _)) (aa:=cV.alloc _ _);have:args.map a.eval= #[.slice (some f) k k,.slice (some d) m c]:=by apply fx;rw [hq,b.hv ae]
 simp only [execOp,resolve,invoke,builtin,dS,en,dZ,this,ab]
end
section
variable {P:Program} {n:Fr} {Z:Env} {w:World} {Q:d6} {ops:Array Oper} {rest:List Oper}
 {dst:Option Nat} {ty:TypeId} {pos:String} {after:Array Edge} {g:Option (Nat×Bool)}
theorem HB(U:List Value)(c:Array Value)(off:Nat)(h:off+U.length<=c.size):(setCells c off U).toList.take off=c.toList.take off:=by
 apply oB;intro i;rw [jE,jE];split
 .rw [pX,pX,pm U c off h i,aI (by omega)]
 .rfl
theorem wH{t e eI:TypeId}{A:Array TypeId}{args:Array Operand}{z:Value}{size bytes:Nat}{o:World}{F:List Nat}{ad:List (List Chunk)}{b off m c:Nat}{hd:Array Value}
 [hu:bA P t (.slice e)] [G:cm P e z size bytes] (r:C o F ([(b,.cells hd eI (0,0))]::ad) w) (N:A= #[t]) (T:z.cells.size=size) (S:∀u∈z.cells.toList,u.oneCell'=true)
 (x:cY ops Z g=some true) (s:c8 n dst=true)
 (R:fu Z args.toList=some [.slice (some ⟨b,off,none⟩) m c]) (U:off+m*size<=hd.size)
 (h:∀l aK,l.size=hd.size->l.toList.take off=hd.toList.take off->C o F ([(b,.cells l eI (0,0))]::ad) aK->O P n ops rest (cG Z dst (.tuple #[])) aK Q):
 O P n ops (⟨dst,.call ⟨.builtin .clear,args,A⟩,ty,pos,after,g⟩::rest) Z w Q:=by
 obtain⟨i,H,I,V,W⟩:=G.parts;subst N;have d:∀a,cK Z n.n a->args.map a.eval= #[.slice (some ⟨b,off,none⟩) m c]:=λa d=>by apply fx;rw [hq,d.hv R]
 cases m with
 |zero=>
  refine dN x s (λa q=>?_) (h hd w j j r);simp [execOp,resolve,d a q,invoke,builtin,Builtin.clear_,d8 hu.h]
 |succ k=>
  have hlen:(Builtin.zeroCells z.cells (k+1)).toList.length=(k+1)*size:=by
   rw [Array.length_toList,s9,T]
  have L:∀v∈(Builtin.zeroCells z.cells (k+1)).toList,v.oneCell'=true:=λv f=>by
   obtain⟨J,y,f⟩:=List.getElem_of_mem f;simp only [Builtin.zeroCells,Array.toList_ofFn,List.getElem_ofFn] at f
   have M:0<z.cells.size:=by
    rcases rR z.cells.size with p|p
    .rw [Array.length_toList,s9,p] at y;simp at y
    .exact p
   have K:J%z.cells.size<z.cells.size:=jF _ M
   have hm:v∈z.cells.toList:=by
    rw [<-f];simp [getElem!_pos,K]
   exact S v hm
  obtain⟨aK,B,D,E⟩:=C.storeCells (P:=P) (off:=off) (Builtin.zeroCells z.cells (k+1)).toList 0 hd w r (by rw [hlen];omega) L;refine dN (aK:=aK) x s (λa q=>?_) (h _ aK (s6 _ _ _) (by rw [oO];exact HB _ _ _ (by rw [hlen];omega)) D) (aa:=E);simp [execOp,resolve,d a q,invoke,builtin,Builtin.clear_,d8 hu.h,zeroValue,typeInfo,H,I,B]
theorem BP{t e:TypeId}{E:Array TypeId}{args:Array Operand}{z:Value}{size bytes:Nat}{o:World}{F:List Nat}{ad:List (List Chunk)}{b k cap m c:Nat}{A:Option Addr}{cur:Array Value}{news:List Value}
 [hu:bA P t (.slice e)] [M:cm P e z size bytes] (f:C o F ([(b,.cells cur e (0,0))]::ad) w) (W:E= #[t,t]) (V:0<size)
 (v:cY ops Z g=some true) (s:c8 n dst=true)
 (X:fu Z args.toList=some [.slice (some ⟨b,0,none⟩) k cap,.slice A m c]) (l:news.length=m*size) (B:Rd w A news) (G:∀u∈news,u.oneCell'=true) (D:k+m<=cap) (K:cap*size<=cur.size)
 (h:∀p aK,p.size=cur.size->p.toList.take ((k+m)*size)=cur.toList.take (k*size)++news->C o F ([(b,.cells p e (0,0))]::ad) aK->O P n ops rest (cG Z dst (.slice (some ⟨b,0,none⟩) (k+m) cap)) aK Q):
 O P n ops (⟨dst,.call ⟨.builtin .append,args,E⟩,ty,pos,after,g⟩::rest) Z w Q:=by
 obtain⟨i,x,ab,N,ac⟩:=M.parts;subst N;subst W;have d:∀a,cK Z n.n a->args.map a.eval= #[.slice (some ⟨b,0,none⟩) k cap,.slice A m c]:=λa d=>by apply fx;rw [hq,d.hv X]
 have y:k<=cap:=by omega
 have ae:k*i.size<=cur.size:=ek (kn _ y) K
 have L:k*i.size+news.length<=cur.size:=by
  have:=kn i.size D;rw [l,<-m5];omega
 cases A with
 |none=>
  have aJ:news=[]:=by
   cases news with
   |nil=>rfl
   |cons u r=>obtain⟨a,d,_⟩:=B 0 u (by simp);cases d
  subst aJ
  have hm:m=0:=by
   rcases rR m with h|h
   .exact h
   .have:=Nat.mul_pos h V;simp at l;omega
  subst hm;refine dN v s (λa q=>?_) (h cur w j (by simp) f);simp [execOp,resolve,d a q,invoke,builtin,Builtin.append_,d8 hu.h,sizeOf,typeInfo,x,Builtin.lenOf,Builtin.firstCells,y,Go.storeCells]
 |some a0=>
  have T:∀J u,news[J]? =some u->w.cell? (a0.add J)=some u:=λJ u hu=>by
   obtain⟨Y,H,I⟩:=B J u hu;cases H;exact I
  have U:=run_append_room (P:=P) w t ty e i hu.h x b k cap cur f.first a0 m c news l T G D L;refine dN (aK:=w.setRow b (cur.toList.take (k*i.size)++news++cur.toList.drop (k*i.size+news.length)).toArray) v s (λa q=>?_) (h _ _ ?_ ?_ (f.setRow)) (aa:=cV.cells f.first (λdm R=>setRow_other w b dm _ R))
  .simp only [execOp,resolve,invoke,builtin,dS,en,dZ,d a q,U]
  .simp only [hA,b0,List.length_take,List.length_drop,Array.length_toList];omega
  .have S:(cur.toList.take (k*i.size)++news).length=(k+m)*i.size:=by
    rw [b0,List.length_take,Array.length_toList,l,Nat.add_mul];omega
   simp only [dJ];rw [<-dJ,<-S];exact mg
theorem BJ{t e:TypeId}{x y:Operand}{A:Option Addr}{l c:Nat}{k:IntKind}{i:Nat}{z:Value}{size bytes:Nat}[hu:bA P t (.slice e)][j:cm P e z size bytes]
 (o:bs Z x=some (.slice A l c)) (p:bs Z y=some (.int k i)) (q:i<=c):
 ∀a,cK Z n.n a->(execOp a.eval ⟨dst,.slice t x none (some y) none,ty,pos,after,g⟩).run P w= .ok (.value (.slice A i c)) w:=λa b=>by
 obtain⟨J,m,_,r,_⟩:=j.parts;have d:¬c<i:=by omega
 have f:A.map (λx=>x.add 0)=A:=by cases A<;>simp [Addr.add]
 simp [execOp,b.eval o,b.eval p,Instr.sliceAt,Instr.slice,Instr.sliceBounds,Instr.sliceBound,asIntOf,d8 hu.h,sizeOf,typeInfo,m,f];exact λdt=>(d dt).elim
theorem BI{t e:TypeId}{x y:Operand}{A:Option Addr}{l c:Nat}{k:IntKind}{i:Nat}{z:Value}{size bytes:Nat}[hu:bA P t (.slice e)][f:cm P e z size bytes]
 (o:bs Z x=some (.slice A l c)) (p:bs Z y=some (.int k i)) (q:i<=l):
 ∀a,cK Z n.n a->(execOp a.eval ⟨dst,.slice t x (some y) none none,ty,pos,after,g⟩).run P w= .ok (.value (.slice (if c=i then A else A.map (·.add (i*size))) (l-i) (c-i))) w:=λa b=>by
 obtain⟨J,j,_,m,_⟩:=f.parts;have d:¬l<i:=by omega
 simp [execOp,b.eval o,b.eval p,Instr.sliceAt,Instr.slice,Instr.sliceBounds,Instr.sliceBound,asIntOf,d8 hu.h,sizeOf,typeInfo,j,m];exact λdt=>(d dt).elim
theorem BV{t e:TypeId}{x y f:Operand}{b I l c:Nat}{k dm:IntKind}{i J:Nat}{z:Value}{size bytes:Nat}[hu:bA P t (.slice e)][v:cm P e z size bytes]
 (u:cY ops Z g=some true) (s:c8 n dst=true)
 (C:bs Z x=some (.slice (some ⟨b,I,none⟩) l c)) (D:bs Z y=some (.int k i)) (E:bs Z f=some (.int dm J)) (m:i<=J) (o:J<=c) (F:i<c)
 (h:O P n ops rest (cG Z dst (.slice (some ⟨b,I+i*size,none⟩) (J-i) (c-i))) w Q):O P n ops (⟨dst,.slice t x (some y) (some f) none,ty,pos,after,g⟩::rest) Z w Q:=
 dN u s (λa d=>by
  obtain⟨inf,A,_,B,_⟩:=v.parts;have p:¬c<J:=by omega
  have q:¬J<i:=by omega
  have r:¬c=i:=by omega
  have j:((⟨b,I,none⟩:Addr).add (i*size))=⟨b,I+i*size,none⟩:=add_lit _ _ _;simp [execOp,d.eval C,d.eval D,d.eval E,Instr.sliceAt,Instr.slice,Instr.sliceBounds,Instr.sliceBound,asIntOf,d8 hu.h,sizeOf,typeInfo,A,B,p,q,r,j];rw [a6 o,a6 m]) h
theorem BW{t e:TypeId}{x y f j:Operand}{b I l c:Nat}{k dm M:IntKind}{i J m:Nat}{z:Value}{size bytes:Nat}[hu:bA P t (.slice e)][D:cm P e z size bytes]
 (C:cY ops Z g=some true) (B:c8 n dst=true)
 (G:bs Z x=some (.slice (some ⟨b,I,none⟩) l c)) (H:bs Z y=some (.int k i)) (K:bs Z f=some (.int dm J)) (L:bs Z j=some (.int M m)) (p:i<=J) (q:J<=m) (v:m<=c) (N:i<m)
 (h:O P n ops rest (cG Z dst (.slice (some ⟨b,I+i*size,none⟩) (J-i) (m-i))) w Q):O P n ops (⟨dst,.slice t x (some y) (some f) (some j),ty,pos,after,g⟩::rest) Z w Q:=
 dN C B (λa d=>by
  obtain⟨inf,E,_,F,_⟩:=D.parts;have r:¬m<J:=by omega
  have s:¬J<i:=by omega
  have u:¬m=i:=by omega
  have A:¬c<m:=by omega
  have o:((⟨b,I,none⟩:Addr).add (i*size))=⟨b,I+i*size,none⟩:=add_lit _ _ _;simp [execOp,d.eval G,d.eval H,d.eval K,d.eval L,Instr.sliceAt,Instr.slice,Instr.sliceBounds,Instr.sliceBound,asIntOf,d8 hu.h,sizeOf,typeInfo,E,F,r,s,u,A,o];rw [a6 v,a6 q,a6 p]) h
end
class hz(G:List Chunk)(ad:List (List Chunk))(ag:outParam (List (List Chunk))):Prop where
 perm:ad.Perm (G::ag)
instance (priority:=1100)hz.here(G:List Chunk)(ad:List (List Chunk)):hz G (G::ad) ad:=⟨oE _⟩
instance hz.there(G H:List Chunk)(ad ag:List (List Chunk))[h:hz G ad ag]:hz G (H::ad) (H::ag):=⟨(h.perm.cons H).trans (.swap ..)⟩
instance hz.app(G H:List Chunk)(A B ag:List (List Chunk))[h:hz G (H::(A++B)) ag]:hz G ((H::A)++B) ag:=⟨h.perm⟩
instance hz.w9(G:List Chunk)(B ag:List (List Chunk))[h:hz G B ag]:hz G ([]++B) ag:=⟨h.perm⟩
instance hz.I3(G H:List Chunk)(A B ag:List (List Chunk))[h:hz G (H::(A++B)) ag]:hz G (List.append (H::A) B) ag:=⟨h.perm⟩
instance hz.xa(G:List Chunk)(B ag:List (List Chunk))[h:hz G B ag]:hz G (List.append [] B) ag:=⟨h.perm⟩
instance hz.assoc(G:List Chunk)(A B bb ag:List (List Chunk))[h:hz G (A++(B++bb)) ag]:hz G ((A++B)++bb) ag:=⟨by rw [dJ];exact h.perm⟩
class kH(ad cC:List (List Chunk))(ag:outParam (List (List Chunk))):Prop where
 perm:ad.Perm (cC++ag)
instance kH.nil(ad:List (List Chunk)):kH ad [] ad:=⟨oE _⟩
instance kH.cons(G:List Chunk)(ad cC a ag:List (List Chunk))[b:hz G ad a][c:kH a cC ag]:kH ad (G::cC) ag:=⟨b.perm.trans (c.perm.cons G)⟩
class Has(b:Nat)(ad:List (List Chunk))(I:outParam Obj):Prop where
 mem:(b,I)∈ad.flatten
class tJ(b:Nat)(G:List Chunk)(I:outParam Obj):Prop where
 mem:(b,I)∈G
instance (priority:=1100)tJ.here(b:Nat)(I:Obj)(G:List Chunk):tJ b ((b,I)::G) I:=⟨by simp⟩
instance (priority:=1100)Has.here(b:Nat)(I:Obj)(G:List Chunk)(ad:List (List Chunk))[h:tJ b G I]:Has b (G::ad) I:=⟨by rw [km];exact dv.2 (.inl h.mem)⟩
instance Has.there(b:Nat)(I:Obj)(G:List Chunk)(ad:List (List Chunk))[h:Has b ad I]:Has b (G::ad) I:=⟨by rw [km];exact dv.2 (.inr h.mem)⟩
instance Has.app(b:Nat)(I:Obj)(G:List Chunk)(A B:List (List Chunk))[h:Has b (G::(A++B)) I]:Has b ((G::A)++B) I:=⟨h.mem⟩
instance Has.w9(b:Nat)(I:Obj)(B:List (List Chunk))[h:Has b B I]:Has b ([]++B) I:=⟨h.mem⟩
instance Has.xa(b:Nat)(I:Obj)(B:List (List Chunk))[h:Has b B I]:Has b (List.append [] B) I:=⟨h.mem⟩
class jA(b:Nat)(ad:List (List Chunk))(I:outParam Obj)(ag:outParam (List (List Chunk))):Prop where
 perm:ad.Perm ([(b,I)]::ag)
instance (priority:=1100)jA.here(b:Nat)(I:Obj)(ad:List (List Chunk)):jA b ([(b,I)]::ad) I ad:=⟨oE _⟩
instance jA.there(b:Nat)(I:Obj)(H:List Chunk)(ad ag:List (List Chunk))[h:jA b ad I ag]:jA b (H::ad) I (H::ag):=⟨(h.perm.cons H).trans (.swap ..)⟩
instance jA.app(b:Nat)(I:Obj)(H:List Chunk)(A B ag:List (List Chunk))[h:jA b (H::(A++B)) I ag]:jA b ((H::A)++B) I ag:=⟨h.perm⟩
instance jA.w9(b:Nat)(I:Obj)(B ag:List (List Chunk))[h:jA b B I ag]:jA b ([]++B) I ag:=⟨h.perm⟩
instance jA.xa(b:Nat)(I:Obj)(B ag:List (List Chunk))[h:jA b B I ag]:jA b (List.append [] B) I ag:=⟨h.perm⟩
section
variable {o w aK:World} {F:List Nat} {ad cC ag bb:List (List Chunk)} {G:List Chunk} {b:Nat} {I:Obj}
theorem C.to(G:List Chunk)[h:hz G ad ag](a:C o F ad w):C o F (G::ag) w:=a.jm h.perm
theorem C.xY:∀{A:List (List Chunk)},C o F (A++ag) w->C o F ag w
 |[],h=>h
 |G::A,h=>C.xY (A:=A) (C.drop (G:=G) h)
theorem C.dropEnd{A:List (List Chunk)}(h:C o F (A++ag) w):C o F A w:=C.xY (A:=ag) (h.jm lF)
theorem C.as [h:kH ad cC ag](a:C o F ad w):C o F cC w:=(a.jm h.perm).dropEnd
theorem C.front [h:kH ad cC ag](a:C o F ad w):C o F (cC++ag) w:=a.jm h.perm
theorem C.ours [h:kH ad cC ag](a:C o F ad w):Own cC w:=(a.jm h.perm).sub
theorem C.b2 [h:kH ad cC ag](a:C o F ad w)(k:C w (av cC) bb aK):C o F (bb++ag) aK:=C.after (a.jm h.perm) k
theorem C.aj [h:Has b ad I](a:C o F ad w):w.heap[b]? =some I:=a.here (b,I) h.mem
theorem C.bc(b:Nat)[h:jA b ad I ag](a:C o F ad w):C o F ([(b,I)]::ag) w:=a.jm h.perm
theorem ax{off:Nat}{c:Array Value}{e:TypeId}{e6:Nat×Nat}{v:Value}(h:w.heap[b]? =some (.cells c e e6))(a:c[off]? =some v):w.cell? ⟨b,off,none⟩=some v:=by simp [World.cell?,h,a]
theorem bn{c:Array Value}{e:TypeId}{e6:Nat×Nat}(h:w.heap[b]? =some (.cells c e e6)):Rd w (some ⟨b,0,none⟩) c.toList:=λi v a=>⟨_,j,by rw [add_lit];exact ax h (by simpa using a)⟩
end
theorem Bs{P:Program}{n:Nat}{Z:Env}{w:World}{dst:Option Nat}{ty:TypeId}{pos:String}{after:Array Edge}{g:Option (Nat×Bool)}{x:Operand}{U:Array Value}{i:Nat}{v:Value}
 (d:bs Z x=some (.tuple U)) (c:U[i]? =some v):∀a,cK Z n a->(execOp a.eval ⟨dst,.extract x i,ty,pos,after,g⟩).run P w= .ok (.value v) w:=λa b=>by simp [execOp,b.eval d,Instr.extract,c]
theorem s3{P:Program}{n:Nat}{Z:Env}{w:World}{fn:Func}{t0 c:Nat}{b:Addr}{v0:Value}{d0:TypeDesc}[j:bA P c d0]
 (g:fn.results= #[.cell t0 c]) (i:look Z t0=some (.pointer (some b))) (d:ib d0=false) (e:w.cell? b=some v0):
 ∀a,cK Z n a->(results fn a.tmps).run P w= .ok (v0) w:=λa f=>by
 simp [results,g,asAddr,loadVar,f.get _ _ i,kA j.h,d,e]
theorem Ak{P:Program}{n:Nat}{Z:Env}{w:World}{fn:Func}{t0 e:Nat}{b:Addr}{v0:Value}{d0:TypeDesc}[p:bA P e d0]{t1 f:Nat}{c:Addr}{v1:Value}{d1:TypeDesc}[q:bA P f d1]
 (l:fn.results= #[.cell t0 e,.cell t1 f]) (m:look Z t0=some (.pointer (some b))) (g:ib d0=false) (j:w.cell? b=some v0) (o:look Z t1=some (.pointer (some c))) (i:ib d1=false) (k:w.cell? c=some v1):
 ∀a,cK Z n a->(results fn a.tmps).run P w= .ok (.tuple #[v0,v1]) w:=λa d=>by
 simp [results,l,asAddr,loadVar,d.get _ _ m,kA p.h,g,d.get _ _ o,kA q.h,i,j,k]
theorem v8{P:Program}{n:Nat}{Z:Env}{w:World}{fn:Func}{t0 f:Nat}{c:Addr}{v0:Value}{d0:TypeDesc}[u:bA P f d0]{t1 g:Nat}{d:Addr}{v1:Value}{d1:TypeDesc}[v:bA P g d1]{t2 i:Nat}{e:Addr}{v2:Value}{d2:TypeDesc}[x:bA P i d2]
 (q:fn.results= #[.cell t0 f,.cell t1 g,.cell t2 i]) (r:look Z t0=some (.pointer (some c))) (j:ib d0=false) (m:w.cell? c=some v0) (s:look Z t1=some (.pointer (some d))) (k:ib d1=false) (o:w.cell? d=some v1) (t:look Z t2=some (.pointer (some e))) (l:ib d2=false) (p:w.cell? e=some v2):
 ∀a,cK Z n a->(results fn a.tmps).run P w= .ok (.tuple #[v0,v1,v2]) w:=λa b=>by
 simp [results,q,asAddr,loadVar,b.get _ _ r,kA u.h,j,b.get _ _ s,kA v.h,k,b.get _ _ t,kA x.h,l,m,o,p]
class fq(P:Program)where
 ld:TypeId->Nat->Option Nat
 n6:TypeId->Nat
 yn:∀s f off,ld s f=some off->pI P s f off
 ptr:∀t,n6 t=1->∃e,P.underlying t=some (.pointer e)
 AE:∀t,n6 t=2->∃e,P.underlying t=some (.slice e)
 a8:∀t,n6 t=3->P.underlying t=some .bool
 one:TypeId->Bool
 vP:∀t,one t=true->∃d,P.underlying t=some d/\ib d=false
 qw:FuncId->Bool
 uP:∀f,qw f=true->Entry P f
def lm{α:Type}:List (Nat×α)->Nat->Option α
 |[],_=>none
 |(k,v)::r,t=>match Nat.beq k t with
  |true=>some v
  |false=>lm r t
theorem lm.mem{α:Type}:∀{l:List (Nat×α)}{t:Nat}{v:α},lm l t=some v->(t,v)∈l
 |[],_,_,h=>by cases h
 |(k,u)::r,t,v,h=>by
  simp only [lm] at h;split at h
  .rename_i a;cases h;rw [<-iR a];exact oF
  .exact lG _ (lm.mem h)
def u1(P:Program)(s f off:Nat):Bool:=match P.underlying s with
 |some (.struct gN)=>match gN[f]? with
  |some x=>Nat.beq x.offset off&&((P.info? x.type).map (·.size)).any (·!=0)
  |none=>false
 |_=>false
theorem El{P:Program}{s f off:Nat}(h:u1 P s f off=true):pI P s f off:=by
 unfold u1 at h;split at h
 .rename_i gN hu;split at h
  .rename_i x a;simp only [ea] at h;exact⟨gN,x,hu,a,iR h.1,h.2⟩
  .cases h
 .cases h
def qL(P:Program)(t k:Nat):Bool:=match P.underlying t with
 |some (.pointer _)=>Nat.beq k 1
 |some (.slice _)=>Nat.beq k 2
 |some .bool=>Nat.beq k 3
 |_=>false
theorem vi{P:Program}{t k:Nat}(h:qL P t k=true):(k=1/\∃e,P.underlying t=some (.pointer e))\/(k=2/\∃e,P.underlying t=some (.slice e))\/(k=3/\P.underlying t=some .bool):=by
 unfold qL at h;split at h
 .rename_i e he;exact .inl ⟨iR h,e,he⟩
 .rename_i e he;exact .inr (.inl ⟨iR h,e,he⟩)
 .rename_i he;exact .inr (.inr ⟨iR h,he⟩)
 .cases h
def vj(K:List (Nat×Nat))(t:Nat):Nat:=match lm K t with
 |some k=>k
 |none=>0
theorem vk{P:Program}{K:List (Nat×Nat)}(h:(K.all λe=>qL P e.1 e.2)=true){t k:Nat}(a:vj K t=k)(aa:k≠0):qL P t k=true:=by
 unfold vj at a;split at a
 .rename_i u hu;subst a;exact jX.1 h _ (lm.mem hu)
 .exact absurd a.symm aa
def zF(P:Program)(t:Nat):Bool:=match P.underlying t with
 |some d=> !ib d
 |none=>false
def mn:List Nat->Nat->Bool
 |[],_=>false
 |k::r,t=>match Nat.beq k t with
  |true=>true
  |false=>mn r t
theorem mn.mem:∀{l:List Nat}{t:Nat},mn l t=true->t∈l
 |[],_,h=>by cases h
 |k::r,t,h=>by
  simp only [mn] at h;split at h
  .rename_i a;rw [<-iR a];exact oF
  .exact lG _ (mn.mem h)
def uO(P:Program)(f:Nat):Bool:=match P.funcs[f]? with
 |some fn=> !(fn.name== "runtime.NumGoroutine")&& !fn.body.isNone
 |none=>false
theorem D5{P:Program}{f:Nat}(h:uO P f=true):Entry P f:=by
 unfold uO at h;split at h
 .rename_i fn bw;simp only [ea,kl] at h;exact⟨fn,bw,h.1,h.2⟩
 .cases h
@[reducible] def fq.make(P:Program)(F:List (Nat×List (Nat×Nat)))(K:List (Nat×Nat))(O:List Nat)(B:Nat)(X:List Nat)(h:((F.all λe=>e.2.all λp=>u1 P e.1 p.1 p.2)&&(K.all λe=>qL P e.1 e.2))=true)(i:(O.all λt=>zF P t)=true)(he:((List.range B).all λf=>mn X f||uO P f)=true):fq P where
 qw f:=Nat.blt f B&& !mn X f
 uP f bw:=by
  simp only [ea,kl] at bw;have c:=jX.1 he f (nT.2 (by simpa [Nat.blt_eq] using bw.1));rw [bw.2,Bool.false_or] at c;exact D5 c
 one:=mn O
 vP t a:=by
  have:=jX.1 i _ (mn.mem a);unfold zF at this;split at this
  .rename_i d g;exact⟨d,g,by simpa using this⟩
  .cases this
 ld s f:=match lm F s with
  |some l=>lm l f
  |none=>none
 n6 t:=vj K t
 yn s f off b:=by
  simp only [ea] at h;split at b
  .rename_i l aM;exact El (jX.1 (jX.1 h.1 _ (lm.mem aM)) _ (lm.mem b))
  .cases b
 ptr t a:=by
  simp only [ea] at h;rcases vi (vk h.2 a (by decide)) with⟨_,h⟩|⟨h,_⟩|⟨h,_⟩
  .exact h
  .exact absurd h (by decide)
  .exact absurd h (by decide)
 AE t a:=by
  simp only [ea] at h;rcases vi (vk h.2 a (by decide)) with⟨h,_⟩|⟨_,h⟩|⟨h,_⟩
  .exact absurd h (by decide)
  .exact h
  .exact absurd h (by decide)
 a8 t a:=by
  simp only [ea] at h;rcases vi (vk h.2 a (by decide)) with⟨h,_⟩|⟨h,_⟩|⟨_,h⟩
  .exact absurd h (by decide)
  .exact absurd h (by decide)
  .exact h
def xv(P:Program)[fq P](op:BinOp)(t:TypeId)(y:Operand):Value->Value->Option Value
 | .int k i,.int dm J=>match decide (k=dm) with
  |true=>evalBin op k i J
  |false=>none
 | .pointer p,.pointer none=>match Nat.beq (fq.n6 P t) 1 with
  |true=>match y with
   | .const (.pointer none)=>match op with
    | .eql=>some (.bool p.isNone)
    | .neq=>some (.bool p.isSome)
    |_=>none
   |_=>none
  |false=>none
 | .bool a,.bool b=>match Nat.beq (fq.n6 P t) 3 with
  |true=>match op with
   | .eql=>some (.bool (a==b))
   |_=>none
  |false=>none
 |_,_=>none
def vZ(P:Program)[fq P](Z:Env):Op->Option Value
 | .move x=>bs Z x
 | .assign x=>bs Z x
 | .nilCheck x=>match bs Z x with
  |some (.pointer (some A))=>some (.pointer (some A))
  |_=>none
 | .fieldAddr s x f=>match fq.ld P s f with
  |some off=>match bs Z x with
   |some (.pointer (some ⟨b,I,none⟩))=>some (.pointer (some ⟨b,I+off,none⟩))
   |_=>none
  |none=>none
 | .pick c x y=>match bs Z c with
  |some (.bool true)=>bs Z x
  |some (.bool false)=>bs Z y
  |_=>none
 | .extract x i=>match bs Z x with
  |some (.tuple U)=>U[i]?
  |_=>none
 | .unOp .not _ x=>match bs Z x with
  |some (.bool b)=>some (.bool (!b))
  |_=>none
 | .binOp op t x y _=>match bs Z x with
  |some u=>match bs Z y with
   |some v=>xv P op t y u v
   |none=>none
  |none=>none
 | .call ⟨.builtin .len,args,a⟩=>match a.toList with
  |[t]=>match Nat.beq (fq.n6 P t) 2 with
   |true=>match fu Z args.toList with
    |some [.slice _ l _]=>some (.int .i64 l)
    |_=>none
   |false=>none
  |_=>none
 |_=>none
theorem z3{P:Program}[j:fq P]{n:Nat}{Z:Env}{op:Op}{v:Value}(h:vZ P Z op=some v):(∀c,op≠.defer c)/\∀(dst:Option Nat)(ty:TypeId)(pos:String)(after:Array Edge)(g:Option (Nat×Bool))(w:World)(a:Act),cK Z n a->(execOp a.eval ⟨dst,op,ty,pos,after,g⟩).run P w= .ok (.value v) w:=by
 unfold vZ at h;split at h
 .exact⟨(by intro c f;cases f),λ_ _ _ _ _ w a d=>BA h a d⟩
 .exact⟨(by intro c f;cases f),λ_ _ _ _ _ w a d=>Bp h a d⟩
 .split at h
  .rename_i i;cases h;exact⟨(by intro c f;cases f),λ_ _ _ _ _ w a d=>BC i a d⟩
  .cases h
 .split at h
  .rename_i bw;split at h
   .rename_i i;cases h;have:=fq.yn _ _ _ bw;exact⟨(by intro c f;cases f),λ_ _ _ _ _ w a d=>Bt i a d⟩
   .cases h
  .cases h
 .split at h
  .rename_i f;exact⟨(by intro c f;cases f),λ_ _ _ _ _ w a d=>BG f h a d⟩
  .rename_i f;exact⟨(by intro c f;cases f),λ_ _ _ _ _ w a d=>BF f h a d⟩
  .cases h
 .split at h
  .rename_i i;exact⟨(by intro c f;cases f),λ_ _ _ _ _ w a d=>Bs i h a d⟩
  .cases h
 .split at h
  .rename_i i;cases h;exact⟨(by intro c f;cases f),λ_ _ _ _ _ w a d=>BD i a d⟩
  .cases h
 .split at h
  .rename_i u i;split at h
   .rename_i v2 k;refine⟨(by intro c f;cases f),λdst ty pos after g w a d=>?_⟩;unfold xv at h;split at h
    .split at h
     .rename_i aa;have aa:=dz aa;subst aa;exact ds i k h a d
     .cases h
    .rename_i p;split at h
     .rename_i aa;obtain⟨e,he⟩:=j.ptr _ (iR aa);split at h
      .split at h
       .cases h;simp only [execOp,d.eval i,eval_const,C3,dS,Ar he,dZ,en]
       .cases h;cases p<;>simp only [execOp,d.eval i,eval_const,C5,dS,Ar he,dZ,en]<;>rfl
       .cases h
      .cases h
     .cases h
    .rename_i az aO;split at h
     .rename_i aa;have hu:=j.a8 _ (iR aa);split at h
      .cases h;have l:∀t x y a b,(do eqGuard .eql t x y (.bool a) (.bool b);binOp .eql t (.bool a) (.bool b))=(do pure (.bool (<-Op.equal t (.bool a) (.bool b))):Sem Value):=λ_ _ _ _ _=>rfl
       have m:(Op.equal _ (.bool az) (.bool aO)).run P w= .ok (az==aO) w:=run_equalIn_bool hu az aO w 9999;simp only [execOp,d.eval i,d.eval k,l,dS,m,dZ,en]
      .cases h
     .cases h
    .cases h
   .cases h
  .cases h
 .split at h
  .rename_i t o;split at h
   .rename_i aa;obtain⟨e,he⟩:=j.AE _ (iR aa);have hu:bA P t (.slice e):=⟨he⟩;split at h
    .rename_i i;cases h;refine⟨(by intro c f;cases f),λdst ty pos after g w a d=>Bx (e:=e) (t:=t) ?_ i a d⟩;exact fx o
    .cases h
   .cases h
  .cases h
 .cases h
def sU(n:Fr)(Z:Env):Option Nat->Value->Option Env
 |some d,v=>match Nat.blt d n.n with
  |true=>some ((d,v)::Z)
  |false=>none
 |none,_=>some Z
theorem sV{n:Fr}{Z di:Env}{d:Option Nat}{v:Value}(h:sU n Z d v=some di):c8 n d=true/\cG Z d v=di:=by
 cases d with
 |none=>cases h;exact⟨j,j⟩
 |some d=>
  simp only [sU] at h;split at h
  .rename_i a;cases h;exact⟨a,j⟩
  .cases h
def pt(P:Program)[fq P](n:Fr)(ops:Array Oper)(Z:Env)(I:Oper):Option Env:=match cY ops Z I.guard with
 |some true=>match vZ P Z I.op with
  |some v=>sU n Z I.dst v
  |none=>none
 |some false=>sU n Z I.dst undef
 |none=>none
section
variable {P:Program} [fq P] {n:Fr} {Z di:Env} {w:World} {Q:d6} {ops:Array Oper} {rest I4:List Oper}
theorem HU{I:Oper}(h:pt P n ops Z I=some di)(aa:O P n ops rest di w Q):O P n ops (I::rest) Z w Q:=by
 unfold pt at h;split at h
 .rename_i d;split at h
  .rename_i v i;obtain⟨b,c⟩:=sV h;obtain⟨e,f⟩:=z3 (n:=n.n) i;rw [<-c] at aa;exact dN d b (λa g=>f I.dst I.type I.pos I.after I.guard w a g) aa (aJ:=e)
  .cases h
 .rename_i d;obtain⟨b,c⟩:=sV h;rw [<-c] at aa;exact BT d b aa
 .cases h
def lq(ops:Array Oper):Array Bool->List Nat->Bool
 |_,[]=>true
 |l,i::r=>j4 ops l i&&(Region.ready .any ops l).contains i&&lq ops (l.setIfInBounds i true) r
def q3(l:Array Bool):List Nat->Array Bool
 |[]=>l
 |i::r=>q3 (l.setIfInBounds i true) r
def pl(P:Program)[fq P](n:Fr)(ops:Array Oper):List Nat->Env->Option Env
 |[],Z=>some Z
 |i::r,Z=>match ops[i]? with
  |some I=>match pt P n ops Z I with
   |some di=>pl P n ops r di
   |none=>none
  |none=>none
theorem HV{bb:World->Prop}{k:Nat}{l:Array Bool}{i:Nat}{I:Oper}(f:ops[i]? =some I)(aM:calm ops=true)(bw:j4 ops l i=true)(g:(Region.ready .any ops l).contains i=true)(h:pt P n ops Z I=some di)(e:bb w)(aa:eS P n ops bb k (l.setIfInBounds i true) di w (h1 Q)):eS P n ops bb (k+1) l Z w (h1 Q):=by
 unfold pt at h;split at h
 .rename_i d;split at h
  .rename_i v o;obtain⟨b,c⟩:=sV h;obtain⟨p,j⟩:=z3 (n:=n.n) o;rw [<-c] at aa;exact wE i f aM bw g d b e (λw _ a m=>j I.dst I.type I.pos I.after I.guard w a m) aa
  .cases h
 .rename_i d;obtain⟨b,c⟩:=sV h;rw [<-c] at aa;exact BN i f aM bw g d b e aa
 .cases h
theorem tE{bb:World->Prop}(aM:calm ops=true)(b:bb w):∀(is:List Nat){m k:Nat}{l:Array Bool}{Z:Env},Nat.beq is.length m=true->lq ops l is=true->pl P n ops is Z=some di->eS P n ops bb k (q3 l is) di w (h1 Q)->eS P n ops bb (k+m) l Z w (h1 Q)
 |[],m,k,l,Z,hm,_,h,aa=>by
  have:m=0:=(iR hm).symm;subst this;cases h;exact aa
 |i::r,m,k,l,Z,hm,a,h,aa=>by
  have hm:=iR hm;simp only [eu] at hm;subst hm;simp only [lq,ea] at a;simp only [pl] at h;split at h
  .rename_i I d;split at h
   .rename_i s1 e;have c:=tE aM b r (m:=r.length) (k:=k) (Nat.beq_refl _) a.2 h aa;exact HV d aM a.1.1 a.1.2 e b c
   .cases h
  .cases h
theorem fD(m:Nat)(is:List Nat){bb:World->Prop}{k:Nat}{l:Array Bool}(c:pl P n ops is Z=some di)(b:bb w)(h:eS P n ops bb k (q3 l is) di w (h1 Q))(a:(calm ops&&Nat.beq is.length m&&lq ops l is)=true:=by kernel_rfl):eS P n ops bb (k+m) l Z w (h1 Q):=by
 simp only [ea] at a;exact tE a.1.1 b is a.1.2 a.2 c h
theorem eR(i:Nat){I:Oper}{v:Value}{bb:World->Prop}{k:Nat}{l:Array Bool}(f:ops[i]? =some I)(c:bb w)
 (g:∀w,bb w->∀a,cK Z n.n a->(execOp a.eval I).run P w= .ok (.value v) w) (h:eS P n ops bb k (l.setIfInBounds i true) (cG Z I.dst v) w (h1 Q)) (e:cY ops Z I.guard=some true:=by rfl) (d:c8 n I.dst=true:=by rfl) (b:(calm ops&&lq ops l [i])=true:=by kernel_rfl):eS P n ops bb (k+1) l Z w (h1 Q):=by
 simp only [lq,ea] at b;exact wE i f b.1 b.2.1.1 b.2.1.2 e d c g h
theorem dW(i:Nat){I:Oper}{bb:World->Prop}{k:Nat}{l:Array Bool}(a:ops[i]? =some I)
 (h:O P n ops [I] Z w (λe Z w=>match e with| .normal=>bb w/\eS P n ops bb k (l.setIfInBounds i true) Z w Q|_=>False)) (b:Region.ready .any ops l=[i]:=by kernel_rfl):eS P n ops bb (k+1) l Z w Q:=wD i a b h
theorem j7(i:Nat){I:Oper}{bb:World->Prop}{k:Nat}{l:Array Bool}(a:ops[i]? =some I)
 (h:O P n ops [I] Z w (λe Z w=>match e with| .normal=>eS P n ops bb k (l.setIfInBounds i true) Z w Q|_=>False)) (c:Region.ready .any ops l=[i]:=by kernel_rfl) (b:lX ops i=true:=by kernel_rfl):eS P n ops bb (k+1) l Z w Q:=wC i a c b h
end
theorem bG{a b:Nat}(h:Nat.ble a b=true:=by rfl):a<=b:=oG h
theorem Dd{P:Program}{f:FuncId}{fn:Func}{c:Code}(l:List Value){w:World}{ag:Value->World->Prop}{n:Nat}{rs:Array ResultVar}
 (bw:P.funcs[f]? =some fn) (aJ:fn.ntmps=n) (d:fn.results=rs)
 (h:W P {n:=n} c (jK 0 l) w (Leaves rs ag)) (a:fn.body=some c:=by rfl) (b:Nat.ble l.length n=true:=by rfl):Calls P f l.toArray w (nM ag):=De bw a aJ d (oG b) h
abbrev ab(b:Nat):Value:=.pointer (some ⟨b,0,none⟩)
abbrev R(b:Nat)(c:Array Value)(t:TypeId):List Chunk:=[(b,.cells c t (0,0))]
end Go.Proofs.YtngjfjhomikplaaGreatDoor.R
