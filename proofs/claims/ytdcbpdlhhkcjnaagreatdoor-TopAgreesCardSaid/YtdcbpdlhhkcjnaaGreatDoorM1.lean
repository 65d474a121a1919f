/- Part 1 of the proof. -/
import Derived.Test.YtdcbpdlhhkcjnaaGreatDoorM0
set_option linter.unusedVariables false
set_option linter.unusedSimpArgs false
set_option linter.unusedSectionVars false
set_option maxRecDepth 20000
set_option maxHeartbeats 4000000
namespace Go.Proofs.YtdcbpdlhhkcjnaaGreatDoor.R
open Go.Proofs.Tryz Go Go.RowKit
abbrev fK(P:Program)(n:Fr)(ops:Array Oper)(a8:World->Prop)(k:Nat)(l:Array Bool)(aa:Env)(w:World)(Q:d5):Prop:=a8 w->eJ P n ops a8 k l aa w (hV Q)
theorem Bp{P:Program}{n:Fr}{ops:Array Oper}{todo:List Oper}{aa:Env}{w:World}{Q hH:d5}(h:O P n ops todo aa w Q)(c:∀e aa w,Q e aa w->hH e aa w):O P n ops todo aa w hH:=λa b hm=>
 kT (λ_ _ _⟨k,m,f,d,h⟩=>⟨k,m,f,d,c _ _ _ h⟩) _ _ _ (h a b hm)
abbrev okB(a8:World->Prop)(T:Env->World->Prop):d5:=λe aa w=>match e with
 | .normal=>a8 w/\T aa w
 |_=>False
section
variable {P:Program} {n:Fr} {aa dq:Env} {w:World} {Q:d5} {ops:Array Oper} {a8:World->Prop} {k:Nat} {l:Array Bool} {I:Oper}
theorem vl{todo:List Oper}{l:Array Bool}(h:O P n ops todo aa w (okB a8 λaa w=>fK P n ops a8 k l aa w Q)):O P n ops todo aa w (λe aa w=>match e with| .normal=>a8 w/\eJ P n ops a8 k l aa w (hV Q)|_=>False):=
 Bp h λe _ _ a=>by cases e<;>first|exact⟨a.1,a.2 a.1⟩|exact a
theorem aW(i:Nat)(a:ops[i]? =some I)(h:O P n ops [I] aa w (okB a8 λaa w=>fK P n ops a8 k (l.setIfInBounds i true) aa w Q))(b:Region.ready .any ops l=[i]:=by kernel_rfl):fK P n ops a8 (k+1) l aa w Q:=λ_=>we i a b (vl h)
theorem aJ(i J:Nat){a b:Oper}(e:ops[i]? =some a)(f:ops[J]? =some b)
 (c:O P n ops [a] aa w (okB a8 λaa w=>fK P n ops a8 k (l.setIfInBounds i true) aa w Q)) (d:O P n ops [b] aa w (okB a8 λaa w=>fK P n ops a8 k (l.setIfInBounds J true) aa w Q)) (g:Region.ready .any ops l=[i,J]:=by kernel_rfl):fK P n ops a8 (k+1) l aa w Q:=
 λ_=>lo i J e f g (vl c) (vl d)
theorem ef(d:Nat){b:Bool}(c:look aa d=some (.bool b))(f:b=true->fK P n ops a8 k l ((d,.bool true)::aa) w Q)(bx:b=false->fK P n ops a8 k l ((d,.bool false)::aa) w Q):fK P n ops a8 k l aa w Q:=
 λa=>tl d c (λe=>f e a) (λe=>bx e a)
theorem iT(d:Nat){u:Value}(v:Value)(b:look aa d=some u)(c:u=v)(h:fK P n ops a8 k l ((d,v)::aa) w Q):fK P n ops a8 k l aa w Q:=λa=>q6 d v b c (h a)
theorem dy(i:Nat)(a:ops[i]? =some I)(h:O P n ops [I] aa w (λe aa w=>match e with| .normal=>eJ P n ops a8 k (l.setIfInBounds i true) aa w (hV Q)|_=>False))(c:Region.ready .any ops l=[i]:=by kernel_rfl)(b:lI ops i=true:=by kernel_rfl):fK P n ops a8 (k+1) l aa w Q:=λ_=>wd i a c b h
theorem bO{a:K}(h:O P n #[] [] aa w (den P n a))(b:Region.ready .any ops l=[]:=by kernel_rfl):fK P n ops a8 k l aa w (den P n a):=λ_=>cX h b
variable [fj P]
theorem bz [q5 P]{todo:List Oper}{k dj:K}(m:Nat){id:Nat}{os:Array Oper}(h:next P n m ⟨ops,todo,k,aa⟩=some (.region id os true,dj,dq))(a8:World->Prop)(a:a8 w.drew)
 (b:fK P n os a8 os.size (Array.replicate os.size false) dq w.drew (den P n dj)):O P n ops todo aa w (den P n k):=mc m h a8 (b a)
theorem af(a m:Nat)(d:o2 P n ops (List.range' a m) aa=some dq)(h:fK P n ops a8 k (qH l (List.range' a m)) dq w Q)(b:(calm ops&&lf ops l (List.range' a m))=true:=by kernel_rfl):fK P n ops a8 (k+m) l aa w Q:=λc=>by
 simp only [d8] at b
 exact tf b.1 c (List.range' a m) (by rw [List.length_range'];exact Nat.beq_refl _) b.2 d (h c)
theorem fz(m:Nat)(is:List Nat)(c:o2 P n ops is aa=some dq)(h:fK P n ops a8 k (qH l is) dq w Q)(b:(calm ops&&Nat.beq is.length m&&lf ops l is)=true:=by kernel_rfl):fK P n ops a8 (k+m) l aa w Q:=λa=>fM m is c a (h a) b
theorem aV(i:Nat){v:Value}(f:ops[i]? =some I)(g:∀w,a8 w->∀a,cG aa n.n a->(execOp a.eval I).run P w= .ok (.value v) w)(h:fK P n ops a8 k (l.setIfInBounds i true) (cF aa I.dst v) w Q)
 (e:cW ops aa I.guard=some true:=by rfl) (d:c8 n I.dst=true:=by rfl) (c:(calm ops&&lf ops l [i])=true:=by kernel_rfl):fK P n ops a8 (k+1) l aa w Q:=λb=>eI i f b g (h b) e d c
def tZ(P:Program)[fj P](F:Fr)(ops:Array Oper)(i:Nat)(aa:Env):Option (Addr×Option Nat):=match ops[i]? with
 |some ⟨dst,.load t x,_,_,_,g⟩=>match fj.one P t with
  |true=>match cW ops aa g with
   |some true=>match c8 F dst with
    |true=>match bs aa x with
     |some (.pointer (some A))=>some (A,dst)
     |_=>none
    |false=>none
   |_=>none
  |false=>none
 |_=>none
theorem bT(i:Nat){A:Addr}{dst:Option Nat}{v:Value}(h:tZ P n ops i aa=some (A,dst))(p:∀w,a8 w->w.cell? A=some v)(ad:fK P n ops a8 k (l.setIfInBounds i true) (cF aa dst v) w Q)
 (j:(calm ops&&lf ops l [i])=true:=by kernel_rfl):fK P n ops a8 (k+1) l aa w Q:=λa=>by
 unfold tZ at h
 split at h
 .rename_i o
  split at h
  .rename_i b
   split at h
   .rename_i c
    split at h
    .rename_i e
     split at h
     .rename_i f
      cases h
      obtain⟨d,m,g⟩:=fj.vr _ b
      have:bC P _ d:=⟨m⟩
      exact eI i o a (λw hw=>hD f g (p w hw)) (ad a) c e j
     .cases h
    .cases h
   .cases h
  .cases h
 .cases h
theorem a7{b:Nat}{ae:List (List Chunk)}{I:Obj}[h:Has b ae I]:Has b ae I:=h
theorem be(i:Nat){o:World}{F:List Nat}{K:List (List Chunk)}{b off:Nat}{c:Array Value}{e:TypeId}{e2:Nat×Nat}{dst:Option Nat}{v:Value}(h:tZ P n ops i aa=some (⟨b,off,none⟩,dst))(f:Has b K (.cells c e e2))(g:c[off]? =some v)
 (ad:fK P n ops (λw=>∃ae,C o F (K++ae) w) k (l.setIfInBounds i true) (cF aa dst v) w Q) (d:(calm ops&&lf ops l [i])=true:=by kernel_rfl):fK P n ops (λw=>∃ae,C o F (K++ae) w) (k+1) l aa w Q:=
 bT i h (λ_⟨_,a⟩=>aw (a.here (b,_) (by rw [g5];exact List.mem_append_left _ f.mem)) g) ad d
theorem bp{todo hQ:List Oper}{hA:Array Oper}{k dj:K}(m:Nat){f:FuncId}{dst:Option Nat}{U:List Value}{v:Value}{S:World->Prop}(a:Calls P f U.toArray w (aS λr aI=>r=v/\S aI))(h:tY P n m ⟨ops,todo,k,aa⟩=some (f,U,dst,⟨hA,hQ,dj,dq⟩))
 (ad:∀aI,S aI->O P n hA hQ (cF dq dst v) aI (den P n dj)):O P n ops todo aa w (den P n k):=bm m a h λ_ aI⟨b,aM⟩=>by subst b;exact ad aI aM
theorem bF{dst:Option Nat}{rest:List Oper}{ty:TypeId}{pos:String}{after:Array Edge}{g:Option (Nat×Bool)}{f:FuncId}{i:Array TypeId}{args:Array Operand}{U:List Value}{v:Value}{S:World->Prop}(c:cW ops aa g=some true)(b:c8 n dst=true)
 (e:fo aa args.toList=some U) (a:Calls P f U.toArray w (aS λr aI=>r=v/\S aI))
 (h:∀aI,S aI->O P n ops rest (cF aa dst v) aI Q) (he:fj.p8 P f=true:=by rfl):O P n ops (⟨dst,.call ⟨.value (.func f),args,i⟩,ty,pos,after,g⟩::rest) aa w Q:=
 cN c b e a (λ_ aI⟨d,aM⟩=>by subst d;exact h aI aM) he
end
end Go.Proofs.YtdcbpdlhhkcjnaaGreatDoor.R
namespace Go.Proofs.YtdcbpdlhhkcjnaaGreatDoor.R
open Go.Proofs.Tryz Go Go.Proofs
instance:bC prog 3 (.int .i64):=⟨underlying3⟩
instance:cq prog 3 (.int .i64 0) 1 8:=⟨by kernel_rfl⟩
instance:bC prog 4 .bool:=⟨underlying4⟩
instance:cq prog 4 (.bool false) 1 1:=⟨by kernel_rfl⟩
instance:bC prog 5 (.int .u8):=⟨underlying5⟩
instance:cq prog 5 (.int .u8 0) 1 1:=⟨by kernel_rfl⟩
instance:bC prog 9 .string:=⟨underlying9⟩
instance:cq prog 9 (.string ⟨#[]⟩) 1 16:=⟨by kernel_rfl⟩
instance:bC prog 21 (.int .i32):=⟨underlying21⟩
instance:bC prog 22 (.slice 35):=⟨underlying22⟩
instance:bC prog 26 (.slice 30):=⟨underlying26⟩
instance:cq prog 26 (.slice none 0 0) 1 24:=⟨by kernel_rfl⟩
instance:bC prog 27 (.array 7 26):=⟨underlying27⟩
instance:cq prog 27 (.agg #[(.slice none 0 0),(.slice none 0 0),(.slice none 0 0),(.slice none 0 0),(.slice none 0 0),(.slice none 0 0),(.slice none 0 0)]) 7 168:=⟨by kernel_rfl⟩
instance:bC prog 30 (.slice 5):=⟨underlying30⟩
instance:cq prog 30 (.slice none 0 0) 1 24:=⟨by kernel_rfl⟩
instance:bC prog 31 (.slice 3):=⟨underlying31⟩
instance:cq prog 31 (.slice none 0 0) 1 24:=⟨by kernel_rfl⟩
instance:bC prog 33 t32.desc:=⟨underlying33⟩
instance:cq prog 33 (.agg #[(.int .i64 0),(.int .i64 0),(.int .i64 0),(.int .i64 0),(.slice none 0 0),(.int .i64 0),(.slice none 0 0)]) 7 88:=⟨by kernel_rfl⟩
instance:bC prog 35 t34.desc:=⟨underlying35⟩
instance:cq prog 35 (.agg #[(.int .i64 0),(.int .i64 0),(.int .i64 0),(.slice none 0 0),(.int .i64 0),(.int .i64 0),(.int .i64 0),(.int .i64 0),(.slice none 0 0),(.int .i64 0),(.slice none 0 0)]) 11 136:=⟨by kernel_rfl⟩
instance:cq prog 37 (.pointer none) 1 8:=⟨by kernel_rfl⟩
instance:bC prog 47 (.pointer 81):=⟨underlying47⟩
instance:cq prog 47 (.pointer none) 1 8:=⟨by kernel_rfl⟩
instance:bC prog 52 (.pointer 135):=⟨underlying52⟩
instance:bC prog 53 (.slice 37):=⟨underlying53⟩
instance:bC prog 54 (.slice 47):=⟨underlying54⟩
instance:cq prog 54 (.slice none 0 0) 1 24:=⟨by kernel_rfl⟩
instance:bC prog 55 (.slice 73):=⟨underlying55⟩
instance:cq prog 55 (.slice none 0 0) 1 24:=⟨by kernel_rfl⟩
instance:bC prog 56 (.slice 94):=⟨underlying56⟩
instance:cq prog 56 (.slice none 0 0) 1 24:=⟨by kernel_rfl⟩
instance:bC prog 59 (.pointer 124):=⟨underlying59⟩
instance:bC prog 61 (.slice 114):=⟨underlying61⟩
instance:cq prog 61 (.slice none 0 0) 1 24:=⟨by kernel_rfl⟩
instance:bC prog 66 (.array 32 5):=⟨underlying66⟩
instance:cq prog 66 (.agg #[(.int .u8 0),(.int .u8 0),(.int .u8 0),(.int .u8 0),(.int .u8 0),(.int .u8 0),(.int .u8 0),(.int .u8 0),(.int .u8 0),(.int .u8 0),(.int .u8 0),(.int .u8 0),(.int .u8 0),(.int .u8 0),(.int .u8 0),(.int .u8 0),(.int .u8 0),(.int .u8 0),(.int .u8 0),(.int .u8 0),(.int .u8 0),(.int .u8 0),(.int .u8 0),(.int .u8 0),(.int .u8 0),(.int .u8 0),(.int .u8 0),(.int .u8 0),(.int .u8 0),(.int .u8 0),(.int .u8 0),(.int .u8 0)]) 32 32:=⟨by kernel_rfl⟩
instance:cq prog 73 (.pointer none) 1 8:=⟨by kernel_rfl⟩
instance:bC prog 78 (.slice 103):=⟨underlying78⟩
instance:cq prog 78 (.slice none 0 0) 1 24:=⟨by kernel_rfl⟩
instance:bC prog 85 t84.desc:=⟨underlying85⟩
instance:cq prog 85 (.agg #[(.int .i64 0),(.int .i64 0),(.int .i64 0),(.string ⟨#[]⟩),(.int .i64 0),(.int .i64 0),(.int .i64 0),(.int .i64 0),(.bool false)]) 9 80:=⟨by kernel_rfl⟩
instance:bC prog 92 (.slice 108):=⟨underlying92⟩
instance:cq prog 92 (.slice none 0 0) 1 24:=⟨by kernel_rfl⟩
instance:bC prog 94 t93.desc:=⟨underlying94⟩
instance:cq prog 94 (.agg #[(.int .i64 0),(.int .i64 0),(.int .i64 0),(.int .i64 0),(.int .i64 0),(.slice none 0 0),(.slice none 0 0),(.int .u8 0),(.int .u8 0),(.int .u8 0),(.int .u8 0),(.int .u8 0),(.int .u8 0),(.int .u8 0),(.int .u8 0),(.int .u8 0),(.int .u8 0),(.int .u8 0),(.int .u8 0),(.int .u8 0),(.int .u8 0),(.int .u8 0),(.int .u8 0),(.int .u8 0),(.int .u8 0),(.int .u8 0),(.int .u8 0),(.int .u8 0),(.int .u8 0),(.int .u8 0),(.int .u8 0),(.int .u8 0),(.int .u8 0),(.int .u8 0),(.int .u8 0),(.int .u8 0),(.int .u8 0),(.int .u8 0),(.int .u8 0)]) 39 120:=⟨by kernel_rfl⟩
instance:po prog 94 6 6:=⟨_,_,underlying94,j,j,by kernel_rfl⟩
instance:bC prog 103 t102.desc:=⟨underlying103⟩
instance:cq prog 103 (.agg #[(.int .i64 0),(.int .i64 0),(.int .i64 0),(.int .i64 0)]) 4 32:=⟨by kernel_rfl⟩
instance:bC prog 108 t107.desc:=⟨underlying108⟩
instance:cq prog 108 (.agg #[(.int .i64 0),(.int .i64 0),(.int .i64 0),(.int .u8 0),(.int .u8 0),(.int .u8 0),(.int .u8 0),(.int .u8 0),(.int .u8 0),(.int .u8 0),(.int .u8 0),(.int .u8 0),(.int .u8 0),(.int .u8 0),(.int .u8 0),(.int .u8 0),(.int .u8 0),(.int .u8 0),(.int .u8 0),(.int .u8 0),(.int .u8 0),(.int .u8 0),(.int .u8 0),(.int .u8 0),(.int .u8 0),(.int .u8 0),(.int .u8 0),(.int .u8 0),(.int .u8 0),(.int .u8 0),(.int .u8 0),(.int .u8 0),(.int .u8 0),(.int .u8 0),(.int .u8 0),(.int .i64 0),(.int .u8 0),(.int .u8 0),(.int .u8 0),(.int .u8 0),(.int .u8 0),(.int .u8 0),(.int .u8 0),(.int .u8 0),(.int .u8 0),(.int .u8 0),(.int .u8 0),(.int .u8 0),(.int .u8 0),(.int .u8 0),(.int .u8 0),(.int .u8 0),(.int .u8 0),(.int .u8 0),(.int .u8 0),(.int .u8 0),(.int .u8 0),(.int .u8 0),(.int .u8 0),(.int .u8 0),(.int .u8 0),(.int .u8 0),(.int .u8 0),(.int .u8 0),(.int .u8 0),(.int .u8 0),(.int .u8 0),(.int .u8 0)]) 68 96:=⟨by kernel_rfl⟩
instance:bC prog 114 t113.desc:=⟨underlying114⟩
instance:cq prog 114 (.agg #[(.int .i64 0),(.int .i64 0),(.int .i64 0),(.int .i64 0),(.slice none 0 0)]) 5 56:=⟨by kernel_rfl⟩
instance:bC prog 116 t115.desc:=⟨underlying116⟩
instance:cq prog 116 (.agg #[(.int .i64 0),(.int .i64 0),(.int .i64 0)]) 3 24:=⟨by kernel_rfl⟩
instance:bC prog 120 (.slice 126):=⟨underlying120⟩
instance:cq prog 120 (.slice none 0 0) 1 24:=⟨by kernel_rfl⟩
instance:bC prog 121 (.pointer 285):=⟨underlying121⟩
instance:cq prog 121 (.pointer none) 1 8:=⟨by kernel_rfl⟩
instance:cq prog 122 (.pointer none) 1 8:=⟨by kernel_rfl⟩
instance:bC prog 126 t125.desc:=⟨underlying126⟩
instance:cq prog 126 (.agg #[(.slice none 0 0),(.slice none 0 0)]) 2 48:=⟨by kernel_rfl⟩
instance:bC prog 128 (.slice 169):=⟨underlying128⟩
instance:cq prog 128 (.slice none 0 0) 1 24:=⟨by kernel_rfl⟩
instance:bC prog 129 (.slice 308):=⟨underlying129⟩
instance:cq prog 129 (.slice none 0 0) 1 24:=⟨by kernel_rfl⟩
instance:bC prog 130 (.map 3 3):=⟨underlying130⟩
instance:bC prog 133 (.slice 66):=⟨underlying133⟩
instance:cq prog 133 (.slice none 0 0) 1 24:=⟨by kernel_rfl⟩
instance:bC prog 136 (.int .u32):=⟨underlying136⟩
instance:cq prog 136 (.int .u32 0) 1 4:=⟨by kernel_rfl⟩
instance:bC prog 137 (.array 8 136):=⟨underlying137⟩
instance:cq prog 137 (.agg #[(.int .u32 0),(.int .u32 0),(.int .u32 0),(.int .u32 0),(.int .u32 0),(.int .u32 0),(.int .u32 0),(.int .u32 0)]) 8 32:=⟨by kernel_rfl⟩
instance:bC prog 138 (.array 8 136):=⟨underlying138⟩
instance:cq prog 138 (.agg #[(.int .u32 0),(.int .u32 0),(.int .u32 0),(.int .u32 0),(.int .u32 0),(.int .u32 0),(.int .u32 0),(.int .u32 0)]) 8 32:=⟨by kernel_rfl⟩
instance:bC prog 139 (.array 64 136):=⟨underlying139⟩
instance:cq prog 139 (.agg #[(.int .u32 0),(.int .u32 0),(.int .u32 0),(.int .u32 0),(.int .u32 0),(.int .u32 0),(.int .u32 0),(.int .u32 0),(.int .u32 0),(.int .u32 0),(.int .u32 0),(.int .u32 0),(.int .u32 0),(.int .u32 0),(.int .u32 0),(.int .u32 0),(.int .u32 0),(.int .u32 0),(.int .u32 0),(.int .u32 0),(.int .u32 0),(.int .u32 0),(.int .u32 0),(.int .u32 0),(.int .u32 0),(.int .u32 0),(.int .u32 0),(.int .u32 0),(.int .u32 0),(.int .u32 0),(.int .u32 0),(.int .u32 0),(.int .u32 0),(.int .u32 0),(.int .u32 0),(.int .u32 0),(.int .u32 0),(.int .u32 0),(.int .u32 0),(.int .u32 0),(.int .u32 0),(.int .u32 0),(.int .u32 0),(.int .u32 0),(.int .u32 0),(.int .u32 0),(.int .u32 0),(.int .u32 0),(.int .u32 0),(.int .u32 0),(.int .u32 0),(.int .u32 0),(.int .u32 0),(.int .u32 0),(.int .u32 0),(.int .u32 0),(.int .u32 0),(.int .u32 0),(.int .u32 0),(.int .u32 0),(.int .u32 0),(.int .u32 0),(.int .u32 0),(.int .u32 0)]) 64 256:=⟨by kernel_rfl⟩
instance:bC prog 143 (.array 128 5):=⟨underlying143⟩
instance:cq prog 143 (.agg #[(.int .u8 0),(.int .u8 0),(.int .u8 0),(.int .u8 0),(.int .u8 0),(.int .u8 0),(.int .u8 0),(.int .u8 0),(.int .u8 0),(.int .u8 0),(.int .u8 0),(.int .u8 0),(.int .u8 0),(.int .u8 0),(.int .u8 0),(.int .u8 0),(.int .u8 0),(.int .u8 0),(.int .u8 0),(.int .u8 0),(.int .u8 0),(.int .u8 0),(.int .u8 0),(.int .u8 0),(.int .u8 0),(.int .u8 0),(.int .u8 0),(.int .u8 0),(.int .u8 0),(.int .u8 0),(.int .u8 0),(.int .u8 0),(.int .u8 0),(.int .u8 0),(.int .u8 0),(.int .u8 0),(.int .u8 0),(.int .u8 0),(.int .u8 0),(.int .u8 0),(.int .u8 0),(.int .u8 0),(.int .u8 0),(.int .u8 0),(.int .u8 0),(.int .u8 0),(.int .u8 0),(.int .u8 0),(.int .u8 0),(.int .u8 0),(.int .u8 0),(.int .u8 0),(.int .u8 0),(.int .u8 0),(.int .u8 0),(.int .u8 0),(.int .u8 0),(.int .u8 0),(.int .u8 0),(.int .u8 0),(.int .u8 0),(.int .u8 0),(.int .u8 0),(.int .u8 0),(.int .u8 0),(.int .u8 0),(.int .u8 0),(.int .u8 0),(.int .u8 0),(.int .u8 0),(.int .u8 0),(.int .u8 0),(.int .u8 0),(.int .u8 0),(.int .u8 0),(.int .u8 0),(.int .u8 0),(.int .u8 0),(.int .u8 0),(.int .u8 0),(.int .u8 0),(.int .u8 0),(.int .u8 0),(.int .u8 0),(.int .u8 0),(.int .u8 0),(.int .u8 0),(.int .u8 0),(.int .u8 0),(.int .u8 0),(.int .u8 0),(.int .u8 0),(.int .u8 0),(.int .u8 0),(.int .u8 0),(.int .u8 0),(.int .u8 0),(.int .u8 0),(.int .u8 0),(.int .u8 0),(.int .u8 0),(.int .u8 0),(.int .u8 0),(.int .u8 0),(.int .u8 0),(.int .u8 0),(.int .u8 0),(.int .u8 0),(.int .u8 0),(.int .u8 0),(.int .u8 0),(.int .u8 0),(.int .u8 0),(.int .u8 0),(.int .u8 0),(.int .u8 0),(.int .u8 0),(.int .u8 0),(.int .u8 0),(.int .u8 0),(.int .u8 0),(.int .u8 0),(.int .u8 0),(.int .u8 0),(.int .u8 0),(.int .u8 0),(.int .u8 0),(.int .u8 0)]) 128 128:=⟨by kernel_rfl⟩
instance:bC prog 144 (.int .u64):=⟨underlying144⟩
instance:bC prog 145 (.int .u64):=⟨underlying145⟩
instance:cq prog 154 (.pointer none) 1 8:=⟨by kernel_rfl⟩
instance:cq prog 155 (.pointer none) 1 8:=⟨by kernel_rfl⟩
instance:cq prog 161 (.pointer none) 1 8:=⟨by kernel_rfl⟩
instance:cq prog 165 (.pointer none) 1 8:=⟨by kernel_rfl⟩
instance:bC prog 169 t168.desc:=⟨underlying169⟩
instance:cq prog 169 (.agg #[(.int .i64 0),(.int .i64 0),(.int .i64 0),(.int .i64 0),(.slice none 0 0)]) 5 56:=⟨by kernel_rfl⟩
instance:cq prog 177 (.agg #[(.slice none 0 0)]) 1 24:=⟨by kernel_rfl⟩
instance:bC prog 219 (.pointer 367):=⟨underlying219⟩
instance:cq prog 219 (.pointer none) 1 8:=⟨by kernel_rfl⟩
instance:bC prog 220 (.map 103 4):=⟨underlying220⟩
instance:bC prog 221 (.map 316 116):=⟨underlying221⟩
instance:bC prog 224 (.map 3 116):=⟨underlying224⟩
instance:bC prog 227 (.map 3 154):=⟨underlying227⟩
instance:bC prog 234 (.map 3 161):=⟨underlying234⟩
instance:bC prog 266 (.map 3 108):=⟨underlying266⟩
instance:bC prog 276 t275.desc:=⟨underlying276⟩
instance:cq prog 276 (.agg #[(.int .i64 0),(.slice none 0 0),(.slice none 0 0)]) 3 56:=⟨by kernel_rfl⟩
instance:cq prog 280 (.pointer none) 1 8:=⟨by kernel_rfl⟩
instance:cq prog 282 (.pointer none) 1 8:=⟨by kernel_rfl⟩
instance:bC prog 283 (.array 2 280):=⟨underlying283⟩
instance:bC prog 286 (.map 3 94):=⟨underlying286⟩
instance:bC prog 289 (.map 3 219):=⟨underlying289⟩
instance:bC prog 294 (.array 256 4):=⟨underlying294⟩
instance:cq prog 294 (.agg #[(.bool false),(.bool false),(.bool false),(.bool false),(.bool false),(.bool false),(.bool false),(.bool false),(.bool false),(.bool false),(.bool false),(.bool false),(.bool false),(.bool false),(.bool false),(.bool false),(.bool false),(.bool false),(.bool false),(.bool false),(.bool false),(.bool false),(.bool false),(.bool false),(.bool false),(.bool false),(.bool false),(.bool false),(.bool false),(.bool false),(.bool false),(.bool false),(.bool false),(.bool false),(.bool false),(.bool false),(.bool false),(.bool false),(.bool false),(.bool false),(.bool false),(.bool false),(.bool false),(.bool false),(.bool false),(.bool false),(.bool false),(.bool false),(.bool false),(.bool false),(.bool false),(.bool false),(.bool false),(.bool false),(.bool false),(.bool false),(.bool false),(.bool false),(.bool false),(.bool false),(.bool false),(.bool false),(.bool false),(.bool false),(.bool false),(.bool false),(.bool false),(.bool false),(.bool false),(.bool false),(.bool false),(.bool false),(.bool false),(.bool false),(.bool false),(.bool false),(.bool false),(.bool false),(.bool false),(.bool false),(.bool false),(.bool false),(.bool false),(.bool false),(.bool false),(.bool false),(.bool false),(.bool false),(.bool false),(.bool false),(.bool false),(.bool false),(.bool false),(.bool false),(.bool false),(.bool false),(.bool false),(.bool false),(.bool false),(.bool false),(.bool false),(.bool false),(.bool false),(.bool false),(.bool false),(.bool false),(.bool false),(.bool false),(.bool false),(.bool false),(.bool false),(.bool false),(.bool false),(.bool false),(.bool false),(.bool false),(.bool false),(.bool false),(.bool false),(.bool false),(.bool false),(.bool false),(.bool false),(.bool false),(.bool false),(.bool false),(.bool false),(.bool false),(.bool false),(.bool false),(.bool false),(.bool false),(.bool false),(.bool false),(.bool false),(.bool false),(.bool false),(.bool false),(.bool false),(.bool false),(.bool false),(.bool false),(.bool false),(.bool false),(.bool false),(.bool false),(.bool false),(.bool false),(.bool false),(.bool false),(.bool false),(.bool false),(.bool false),(.bool false),(.bool false),(.bool false),(.bool false),(.bool false),(.bool false),(.bool false),(.bool false),(.bool false),(.bool false),(.bool false),(.bool false),(.bool false),(.bool false),(.bool false),(.bool false),(.bool false),(.bool false),(.bool false),(.bool false),(.bool false),(.bool false),(.bool false),(.bool false),(.bool false),(.bool false),(.bool false),(.bool false),(.bool false),(.bool false),(.bool false),(.bool false),(.bool false),(.bool false),(.bool false),(.bool false),(.bool false),(.bool false),(.bool false),(.bool false),(.bool false),(.bool false),(.bool false),(.bool false),(.bool false),(.bool false),(.bool false),(.bool false),(.bool false),(.bool false),(.bool false),(.bool false),(.bool false),(.bool false),(.bool false),(.bool false),(.bool false),(.bool false),(.bool false),(.bool false),(.bool false),(.bool false),(.bool false),(.bool false),(.bool false),(.bool false),(.bool false),(.bool false),(.bool false),(.bool false),(.bool false),(.bool false),(.bool false),(.bool false),(.bool false),(.bool false),(.bool false),(.bool false),(.bool false),(.bool false),(.bool false),(.bool false),(.bool false),(.bool false),(.bool false),(.bool false),(.bool false),(.bool false),(.bool false),(.bool false),(.bool false),(.bool false),(.bool false),(.bool false),(.bool false),(.bool false),(.bool false),(.bool false),(.bool false),(.bool false),(.bool false),(.bool false),(.bool false)]) 256 256:=⟨by kernel_rfl⟩
instance:cq prog 299 .nilFunc 1 8:=⟨by kernel_rfl⟩
instance:bC prog 308 t307.desc:=⟨underlying308⟩
instance:cq prog 308 (.agg #[(.int .i64 0),(.int .i64 0),(.int .i64 0),(.int .i64 0),(.int .i64 0)]) 5 40:=⟨by kernel_rfl⟩
instance:bC prog 316 t315.desc:=⟨underlying316⟩
instance:cq prog 316 (.agg #[(.int .i64 0),(.int .i64 0)]) 2 16:=⟨by kernel_rfl⟩
instance:bC prog 318 (.array 64 5):=⟨underlying318⟩
instance:cq prog 318 (.agg #[(.int .u8 0),(.int .u8 0),(.int .u8 0),(.int .u8 0),(.int .u8 0),(.int .u8 0),(.int .u8 0),(.int .u8 0),(.int .u8 0),(.int .u8 0),(.int .u8 0),(.int .u8 0),(.int .u8 0),(.int .u8 0),(.int .u8 0),(.int .u8 0),(.int .u8 0),(.int .u8 0),(.int .u8 0),(.int .u8 0),(.int .u8 0),(.int .u8 0),(.int .u8 0),(.int .u8 0),(.int .u8 0),(.int .u8 0),(.int .u8 0),(.int .u8 0),(.int .u8 0),(.int .u8 0),(.int .u8 0),(.int .u8 0),(.int .u8 0),(.int .u8 0),(.int .u8 0),(.int .u8 0),(.int .u8 0),(.int .u8 0),(.int .u8 0),(.int .u8 0),(.int .u8 0),(.int .u8 0),(.int .u8 0),(.int .u8 0),(.int .u8 0),(.int .u8 0),(.int .u8 0),(.int .u8 0),(.int .u8 0),(.int .u8 0),(.int .u8 0),(.int .u8 0),(.int .u8 0),(.int .u8 0),(.int .u8 0),(.int .u8 0),(.int .u8 0),(.int .u8 0),(.int .u8 0),(.int .u8 0),(.int .u8 0),(.int .u8 0),(.int .u8 0),(.int .u8 0)]) 64 64:=⟨by kernel_rfl⟩
instance:bC prog 324 (.map 3 122):=⟨underlying324⟩
instance:bC prog 327 (.map 3 282):=⟨underlying327⟩
instance:cq prog 358 .nilFunc 1 8:=⟨by kernel_rfl⟩
instance:bC prog 359 (.slice 358):=⟨underlying359⟩
instance:bC prog 365 (.map 3 4):=⟨underlying365⟩
instance:cq prog 365 (.map none) 1 8:=⟨by kernel_rfl⟩
instance:q5 prog:=⟨by kernel_rfl⟩
instance:Entry prog 105:=⟨_,func105,by kernel_rfl,by kernel_rfl⟩
instance:Entry prog 147:=⟨_,func147,by kernel_rfl,by kernel_rfl⟩
instance:Entry prog 150:=⟨_,func150,by kernel_rfl,by kernel_rfl⟩
instance:Entry prog 180:=⟨_,func180,by kernel_rfl,by kernel_rfl⟩
instance:Entry prog 184:=⟨_,func184,by kernel_rfl,by kernel_rfl⟩
instance:Entry prog 198:=⟨_,func198,by kernel_rfl,by kernel_rfl⟩
instance:Entry prog 200:=⟨_,func200,by kernel_rfl,by kernel_rfl⟩
instance:Entry prog 209:=⟨_,func209,by kernel_rfl,by kernel_rfl⟩
instance:Entry prog 212:=⟨_,func212,by kernel_rfl,by kernel_rfl⟩
instance:Entry prog 216:=⟨_,func216,by kernel_rfl,by kernel_rfl⟩
instance:Entry prog 218:=⟨_,func218,by kernel_rfl,by kernel_rfl⟩
instance:Entry prog 221:=⟨_,func221,by kernel_rfl,by kernel_rfl⟩
instance:Entry prog 222:=⟨_,func222,by kernel_rfl,by kernel_rfl⟩
instance:Entry prog 236:=⟨_,func236,by kernel_rfl,by kernel_rfl⟩
instance:Entry prog 237:=⟨_,func237,by kernel_rfl,by kernel_rfl⟩
instance:Entry prog 238:=⟨_,func238,by kernel_rfl,by kernel_rfl⟩
instance:Entry prog 239:=⟨_,func239,by kernel_rfl,by kernel_rfl⟩
instance:Entry prog 247:=⟨_,func247,by kernel_rfl,by kernel_rfl⟩
instance:Entry prog 249:=⟨_,func249,by kernel_rfl,by kernel_rfl⟩
instance:Entry prog 261:=⟨_,func261,by kernel_rfl,by kernel_rfl⟩
instance:Entry prog 263:=⟨_,func263,by kernel_rfl,by kernel_rfl⟩
instance:Entry prog 264:=⟨_,func264,by kernel_rfl,by kernel_rfl⟩
instance:Entry prog 280:=⟨_,func280,by kernel_rfl,by kernel_rfl⟩
instance:Entry prog 281:=⟨_,func281,by kernel_rfl,by kernel_rfl⟩
instance:Entry prog 290:=⟨_,func290,by kernel_rfl,by kernel_rfl⟩
instance:Entry prog 296:=⟨_,func296,by kernel_rfl,by kernel_rfl⟩
instance:Entry prog 298:=⟨_,func298,by kernel_rfl,by kernel_rfl⟩
instance:Entry prog 304:=⟨_,func304,by kernel_rfl,by kernel_rfl⟩
instance:Entry prog 317:=⟨_,func317,by kernel_rfl,by kernel_rfl⟩
instance:Entry prog 318:=⟨_,func318,by kernel_rfl,by kernel_rfl⟩
instance:Entry prog 319:=⟨_,func319,by kernel_rfl,by kernel_rfl⟩
instance:Entry prog 325:=⟨_,func325,by kernel_rfl,by kernel_rfl⟩
instance:Entry prog 335:=⟨_,func335,by kernel_rfl,by kernel_rfl⟩
instance:Entry prog 338:=⟨_,func338,by kernel_rfl,by kernel_rfl⟩
instance:fj prog:=fj.make prog
 [(7,[(0,0),(1,1),(2,2),(3,3)]),(8,[(0,0),(1,1),(2,2),(3,3)]),(13,[(0,0),(1,1)]),(14,[(0,0),(1,1)]),(18,[(0,0)]),(19,[(0,0)]),(32,[(0,0),(1,1),(2,2),(3,3),(4,4),(5,5),(6,6)]),(33,[(0,0),(1,1),(2,2),(3,3),(4,4),(5,5),(6,6)]),(34,[(0,0),(1,1),(2,2),(3,3),(4,4)]),(35,[(0,0),(1,1),(2,2),(3,3),(4,4)]),(57,[(0,0),(1,1),(2,2),(3,3),(4,4),(5,5)]),(58,[(0,0),(1,1),(2,2),(3,3),(4,4),(5,5)]),(63,[(0,0),(1,1),(2,2),(3,3),(4,4),(5,5),(6,6)]),(64,[(0,0),(1,1),(2,2),(3,3),(4,4),(5,5),(6,6)]),(76,[(0,0),(1,1)]),(77,[(0,0),(1,1)]),(80,[(0,0),(1,1),(2,2),(3,3)]),(81,[(0,0),(1,1),(2,2),(3,3)]),(84,[(0,0),(1,1),(2,2),(3,3),(4,4),(5,5),(6,6),(7,7),(8,8)]),(85,[(0,0),(1,1),(2,2),(3,3),(4,4),(5,5),(6,6),(7,7),(8,8)]),(93,[(0,0),(1,1),(2,2),(3,3),(4,4),(5,5),(6,6),(7,7)]),(94,[(0,0),(1,1),(2,2),(3,3),(4,4),(5,5),(6,6),(7,7)]),(102,[(0,0),(1,1),(2,2),(3,3)]),(103,[(0,0),(1,1),(2,2),(3,3)]),(107,[(0,0),(1,1),(2,2),(3,3),(4,35),(5,36)]),(108,[(0,0),(1,1),(2,2),(3,3),(4,35),(5,36)]),(113,[(0,0),(1,4)]),(114,[(0,0),(1,4)]),(115,[(0,0),(1,1),(2,2)]),(116,[(0,0),(1,1),(2,2)]),(123,[(0,0),(1,1),(2,2),(3,3),(4,4),(5,5),(6,6)]),(124,[(0,0),(1,1),(2,2),(3,3),(4,4),(5,5),(6,6)]),(125,[(0,0),(1,1)]),(126,[(0,0),(1,1)]),(131,[(0,0),(1,1),(2,2)]),(132,[(0,0),(1,1),(2,2)]),(134,[(0,0)]),(135,[(0,0)]),(146,[(0,0),(1,1)]),(147,[(0,0),(1,1)]),(148,[(0,0),(1,2)]),(149,[(0,0),(1,2)]),(156,[(0,0),(1,1),(2,2),(3,3),(4,4),(5,5),(6,6),(7,7),(8,8),(9,9)]),(157,[(0,0),(1,1),(2,2),(3,3),(4,4),(5,5),(6,6),(7,7),(8,8),(9,9)]),(166,[(0,0),(1,1),(2,2)]),(167,[(0,0),(1,1),(2,2)]),(168,[(0,0),(1,1),(2,2),(3,3),(4,4)]),(169,[(0,0),(1,1),(2,2),(3,3),(4,4)]),(176,[(0,0)]),(177,[(0,0)]),(222,[(0,0),(1,1),(2,2),(3,3),(4,4)]),(223,[(0,0),(1,1),(2,2),(3,3),(4,4)]),(225,[(0,0)]),(226,[(0,0)]),(228,[(0,0)]),(229,[(0,0)]),(235,[(0,0)]),(236,[(0,0)]),(261,[(0,0),(1,1)]),(262,[(0,0),(1,1)]),(267,[(0,0)]),(268,[(0,0)]),(275,[(0,0),(1,1),(2,2)]),(276,[(0,0),(1,1),(2,2)]),(284,[(0,0),(1,1),(2,2),(3,3),(4,4),(5,7),(6,8),(7,9),(8,10),(9,12),(10,13),(11,14),(12,15),(13,16),(14,17),(15,18)]),(285,[(0,0),(1,1),(2,2),(3,3),(4,4),(5,7),(6,8),(7,9),(8,10),(9,12),(10,13),(11,14),(12,15),(13,16),(14,17),(15,18)]),(287,[(0,0)]),(288,[(0,0)]),(290,[(0,0)]),(291,[(0,0)]),(307,[(0,0),(1,1),(2,2),(3,3),(4,4)]),(308,[(0,0),(1,1),(2,2),(3,3),(4,4)]),(315,[(0,0),(1,1)]),(316,[(0,0),(1,1)]),(325,[(0,0)]),(326,[(0,0)]),(328,[(0,0)]),(329,[(0,0)]),(366,[(0,0),(1,1),(2,2),(3,3),(4,4),(5,5)]),(367,[(0,0),(1,1),(2,2),(3,3),(4,4),(5,5)]),(383,[(0,0)]),(384,[(0,0)]),(406,[(0,0),(1,1)]),(407,[(0,0),(1,1)]),(463,[(0,0),(1,1),(2,2),(3,3)]),(464,[(0,0),(1,1),(2,2),(3,3)]),(474,[(0,0),(1,1),(2,2),(3,3),(4,4),(5,5),(6,6),(7,7),(8,8),(9,9),(10,10)]),(475,[(0,0),(1,1),(2,2),(3,3),(4,4),(5,5),(6,6),(7,7),(8,8),(9,9),(10,10)])]
 [(4,3),(15,1),(16,1),(17,1),(22,2),(24,1),(26,2),(30,2),(31,2),(37,1),(45,1),(47,1),(49,1),(52,1),(53,2),(54,2),(55,2),(56,2),(59,1),(60,1),(61,2),(62,1),(73,1),(74,1),(78,2),(79,1),(92,2),(120,2),(121,1),(122,1),(128,2),(129,2),(133,2),(142,1),(154,1),(155,1),(161,1),(165,1),(191,1),(212,1),(217,1),(219,1),(243,1),(245,1),(278,1),(280,1),(282,1),(298,1),(359,2),(447,1),(451,1),(471,1)]
 [0,1,2,3,4,5,6,9,10,11,12,15,16,17,20,21,22,23,24,25,26,28,29,30,31,36,37,38,39,40,41,42,43,44,45,46,47,48,49,50,51,52,53,54,55,56,59,60,61,62,67,68,69,70,71,72,73,74,75,78,79,82,83,86,87,88,89,90,91,92,95,96,97,98,99,100,101,104,105,106,109,110,111,112,117,118,119,120,121,122,127,128,129,130,133,136,140,141,142,144,145,150,151,152,153,154,155,158,159,160,161,162,163,164,165,170,171,172,173,174,175,178,179,180,181,182,183,184,185,186,187,188,189,190,191,192,193,194,195,196,197,198,199,200,201,202,203,204,205,206,207,208,209,210,211,212,213,214,215,216,217,218,219,220,221,224,227,230,231,232,233,234,237,238,239,240,241,242,243,244,245,246,247,248,249,250,251,252,253,254,255,256,257,258,259,260,263,264,265,266,269,270,271,272,273,274,277,278,279,280,281,282,286,289,292,295,296,297,298,299,300,301,302,303,304,305,306,309,310,311,312,313,314,317,319,320,321,322,323,324,327,330,331,332,333,334,335,336,337,338,339,340,341,342,343,344,345,346,347,348,349,350,351,352,353,354,355,356,357,358,359,360,361,362,363,364,365,368,369,370,371,372,373,374,375,376,377,378,379,380,381,382,385,386,387,388,389,390,391,392,393,394,395,396,397,398,399,400,401,402,403,404,409,410,411,412,413,414,415,416,417,418,419,420,421,422,423,424,425,426,427,428,429,430,431,432,433,434,435,436,437,438,439,440,441,442,443,444,445,446,447,448,449,450,451,452,453,454,455,456,457,458,459,460,461,462,468,469,470,471,472,473,476,477,478,479,480,481,482,483,484,485,486,487,488,489,490,491]
 395 [0,1,259,288,334,352,353,354,355,356,357,358,359,360,361,362,363,364,365,366,367,368,369,370,371,372,373,374,375,376,377,378,379,380,381,382,383,384,385,386,387,388,389,390,391,392,393]
 (by kernel_rfl) (by kernel_rfl) (by kernel_rfl)
end Go.Proofs.YtdcbpdlhhkcjnaaGreatDoor.R
namespace Go.Proofs.YtdcbpdlhhkcjnaaGreatDoor.R
open Go.Proofs.Tryz Go Go.RowKit Go.Proofs
theorem y0(x:Nat):IntKind.u32.wrap (x:Int)=((BitVec.ofNat 32 x).toNat:Int):=by rw [IntKind.wrap_u32,nE];omega
theorem m5(x y:BitVec 32):evalBin .or .u32 (x.toNat:Int) (y.toNat:Int)=some (d7 (x|||y)):=by
 show some (Value.int .u32 (IntKind.u32.wrap ((BitVec.ofInt IntKind.u32.bits (x.toNat:Int)|||BitVec.ofInt IntKind.u32.bits (y.toNat:Int)).toNat:Int)))=_
 rw [ofInt_u32,ofInt_u32]
 exact aL (λz=>some (Value.int .u32 z)) (s9 _)
theorem ht(x y:BitVec 32):evalBin .add .u32 (x.toNat:Int) (y.toNat:Int)=some (d7 (x+y)):=by
 show some (Value.int .u32 (IntKind.u32.wrap ((x.toNat:Int)+(y.toNat:Int))))=_
 rw [<-Int.natCast_add,y0]
 congr 3
theorem m6(x:BitVec 32)(n:Nat)(h:n<=32):evalShift .shl .u32 (x.toNat:Int) (n:Int)=some (d7 (x<<<n)):=by
 show some (Value.int .u32 (IntKind.u32.wrap ((x.toNat:Int)*2^(min ((n:Int).toNat) IntKind.u32.bits))))=_
 have a:min ((n:Int).toNat) IntKind.u32.bits=n:=by show min ((n:Int).toNat) 32=n;rw [l5];omega
 rw [a,show(x.toNat:Int)*2^n=((x.toNat*2^n:Nat):Int) by simp,y0]
 congr 3
 rw [nE,BitVec.toNat_shiftLeft,Nat.shiftLeft_eq]
theorem lH(x:BitVec 32)(n:Nat)(h:n<=32):evalShift .shr .u32 (x.toNat:Int) (n:Int)=some (d7 (x>>>n)):=by
 show some (Value.int .u32 ((x.toNat:Int).fdiv (2^(min ((n:Int).toNat) IntKind.u32.bits))))=_
 have a:min ((n:Int).toNat) IntKind.u32.bits=n:=by show min ((n:Int).toNat) 32=n;rw [l5];omega
 rw [a,tM _ (by exact Int.le_of_lt (Int.pow_pos (by decide))),show(2:Int)^n=((2^n:Nat):Int) by simp,<-Int.natCast_ediv]
 congr 3
 rw [BitVec.toNat_ushiftRight,Nat.shiftRight_eq_div_pow]
theorem xK(a b:Nat)(h:b<=a)(c:a<18446744073709551616):evalBin .sub .u64 (a:Int) (b:Int)=some (.int .u64 ((a-b:Nat):Int)):=by
 show some (Value.int .u64 (IntKind.u64.wrap ((a:Int)-(b:Int))))=_
 rw [oA]
 congr 2
 omega
def kN(x:BitVec 32)(n:Nat):BitVec 32:=(x>>>n)|||(x<<<(32-n))
def o5(x:BitVec 32):BitVec 32:=kN x 7^^^kN x 18^^^(x>>>3)
def o6(x:BitVec 32):BitVec 32:=kN x 17^^^kN x 19^^^(x>>>10)
def w6(x:BitVec 32):BitVec 32:=kN x 2^^^kN x 13^^^kN x 22
def t7(x:BitVec 32):BitVec 32:=kN x 6^^^kN x 11^^^kN x 25
def uf(x y z:BitVec 32):BitVec 32:=(x&&&y)^^^(~~~x&&&z)
def yW(x y z:BitVec 32):BitVec 32:=(x&&&y)^^^(x&&&z)^^^(y&&&z)
theorem lR{o:World}{x:BitVec 32}{n:Nat}(aP:n<=32):Calls prog 161 #[d7 x,.int .u64 n] o (aS λr w=>r=d7 (kN x n)/\w=o):=by
 refine a1 [d7 x,.int .u64 n] func161 ntmps161 results161 (ar 7 j (i9 j j j j (by omega) (lH x n aP) ?_))
 refine bt 2 j j j (xK 32 n aP (by decide)) (i9 j j j j (by omega) (m6 x (32-n) (by omega)) (bt 0 j j j (m5 _ _) (ao 1 j j ?_)))
 exact⟨j,j⟩
theorem GY{o:World}{x:BitVec 32}:Calls prog 111 #[d7 x] o (aS λr w=>r=d7 (o5 x)/\w=o):=by
 refine a1 [d7 x] func111 ntmps111 results111 ?_
 have a:=lR (o:=o) (x:=x) (n:=7) (by decide)
 refine bp 6 a j (λw hw=>?_)
 subst hw
 have a:=lR (o:=w) (x:=x) (n:=18) (by decide)
 refine bp 1 a j (λw hw=>?_)
 subst hw
 refine bt 0 j j j (hx _ _) (ar 1 j (i9 j j j j (by omega) (lH x 3 (by decide)) ?_))
 refine bt 0 j j j (hx _ _) (ao 1 j j ?_)
 exact⟨j,j⟩
theorem GZ{o:World}{x:BitVec 32}:Calls prog 112 #[d7 x] o (aS λr w=>r=d7 (o6 x)/\w=o):=by
 refine a1 [d7 x] func112 ntmps112 results112 ?_
 have a:=lR (o:=o) (x:=x) (n:=17) (by decide)
 refine bp 6 a j (λw hw=>?_)
 subst hw
 have a:=lR (o:=w) (x:=x) (n:=19) (by decide)
 refine bp 1 a j (λw hw=>?_)
 subst hw
 refine bt 0 j j j (hx _ _) (ar 1 j (i9 j j j j (by omega) (lH x 10 (by decide)) ?_))
 refine bt 0 j j j (hx _ _) (ao 1 j j ?_)
 exact⟨j,j⟩
theorem Cj{o:World}{x:BitVec 32}:Calls prog 115 #[d7 x] o (aS λr w=>r=d7 (w6 x)/\w=o):=by
 refine a1 [d7 x] func115 ntmps115 results115 ?_
 have a:=lR (o:=o) (x:=x) (n:=2) (by decide)
 refine bp 6 a j (λw hw=>?_)
 subst hw
 have a:=lR (o:=w) (x:=x) (n:=13) (by decide)
 refine bp 1 a j (λw hw=>?_)
 subst hw
 refine bt 0 j j j (hx _ _) ?_
 have a:=lR (o:=w) (x:=x) (n:=22) (by decide)
 refine bp 1 a j (λw hw=>?_)
 subst hw
 refine bt 0 j j j (hx _ _) (ao 1 j j ?_)
 exact⟨j,j⟩
theorem Ck{o:World}{x:BitVec 32}:Calls prog 113 #[d7 x] o (aS λr w=>r=d7 (t7 x)/\w=o):=by
 refine a1 [d7 x] func113 ntmps113 results113 ?_
 have a:=lR (o:=o) (x:=x) (n:=6) (by decide)
 refine bp 6 a j (λw hw=>?_)
 subst hw
 have a:=lR (o:=w) (x:=x) (n:=11) (by decide)
 refine bp 1 a j (λw hw=>?_)
 subst hw
 refine bt 0 j j j (hx _ _) ?_
 have a:=lR (o:=w) (x:=x) (n:=25) (by decide)
 refine bp 1 a j (λw hw=>?_)
 subst hw
 refine bt 0 j j j (hx _ _) (ao 1 j j ?_)
 exact⟨j,j⟩
theorem choose_spec{o:World}{x y z:BitVec 32}:Calls prog 114 #[d7 x,d7 y,d7 z] o (aS λr w=>r=d7 (uf x y z)/\w=o):=by
 refine a1 [d7 x,d7 y,d7 z] func114 ntmps114 results114 (bt 7 j j j (lG _ _) (ar 1 j (Bx j j j (xI _) ?_)))
 refine bt 1 j j j (lG _ _) (bt 0 j j j (hx _ _) (ao 1 j j ?_))
 exact⟨j,j⟩
theorem Fp{o:World}{x y z:BitVec 32}:Calls prog 116 #[d7 x,d7 y,d7 z] o (aS λr w=>r=d7 (yW x y z)/\w=o):=by
 refine a1 [d7 x,d7 y,d7 z] func116 ntmps116 results116 ?_
 refine bt 7 j j j (lG _ _) ?_
 refine bt 2 j j j (lG _ _) ?_
 refine bt 0 j j j (hx _ _) ?_
 refine bt 2 j j j (lG _ _) ?_
 refine bt 0 j j j (hx _ _) ?_
 refine ao 1 j j ?_
 exact⟨j,j⟩
structure eL where
 a:BitVec 32
 b:BitVec 32
 c:BitVec 32
 d:BitVec 32
 e:BitVec 32
 f:BitVec 32
 g:BitVec 32
 h:BitVec 32
def eL.ws(s:eL):List (BitVec 32):=[s.a,s.b,s.c,s.d,s.e,s.f,s.g,s.h]
abbrev fY(l:List (BitVec 32)):List Value:=l.map d7
abbrev eL.cs(s:eL):List Value:=[d7 s.a,d7 s.b,d7 s.c,d7 s.d,d7 s.e,d7 s.f,d7 s.g,d7 s.h]
def oE(c:UInt8):BitVec 32:=BitVec.ofNat 32 c.toNat
def word(p:List UInt8)(i:Nat):BitVec 32:=(oE (p.getD (4*i) 0)<<<24)|||(oE (p.getD (4*i+1) 0)<<<16)|||(oE (p.getD (4*i+2) 0)<<<8)|||oE (p.getD (4*i+3) 0)
def words(p:List UInt8)(n:Nat):List (BitVec 32):=(List.range n).map (word p)
def nl(l:List (BitVec 32)):List (BitVec 32):=l++[l.getD (l.length-16) 0+o5 (l.getD (l.length-15) 0)+l.getD (l.length-7) 0+o6 (l.getD (l.length-2) 0)]
def dW(p:List UInt8):Nat->List (BitVec 32)
 |0=>words p 16
 |J+1=>nl (dW p J)
def fE:List (BitVec 32):=[1116352408#32,1899447441#32,3049323471#32,3921009573#32,961987163#32,1508970993#32,2453635748#32,2870763221#32,3624381080#32,310598401#32,607225278#32,1426881987#32,1925078388#32,2162078206#32,2614888103#32,3248222580#32,3835390401#32,4022224774#32,264347078#32,604807628#32,770255983#32,1249150122#32,1555081692#32,1996064986#32,2554220882#32,2821834349#32,2952996808#32,3210313671#32,3336571891#32,3584528711#32,113926993#32,338241895#32,666307205#32,773529912#32,1294757372#32,1396182291#32,1695183700#32,1986661051#32,2177026350#32,2456956037#32,2730485921#32,2820302411#32,3259730800#32,3345764771#32,3516065817#32,3600352804#32,4094571909#32,275423344#32,430227734#32,506948616#32,659060556#32,883997877#32,958139571#32,1322822218#32,1537002063#32,1747873779#32,1955562222#32,2024104815#32,2227730452#32,2361852424#32,2428436474#32,2756734187#32,3204031479#32,3329325298#32]
def GN(k w:BitVec 32)(v:eL):eL:=
 ⟨v.h+t7 v.e+uf v.e v.f v.g+k+w+(w6 v.a+yW v.a v.b v.c),v.a,v.b,v.c,v.d+(v.h+t7 v.e+uf v.e v.f v.g+k+w),v.e,v.f,v.g⟩
def rounds(p:List UInt8)(s:eL):Nat->eL
 |0=>s
 |i+1=>GN (fE.getD i 0) ((dW p 48).getD i 0) (rounds p s i)
def eL.add(s v:eL):eL:=⟨s.a+v.a,s.b+v.b,s.c+v.c,s.d+v.d,s.e+v.e,s.f+v.f,s.g+v.g,s.h+v.h⟩
def jo(p:List UInt8)(s:eL):eL:=s.add (rounds p s 64)
theorem n3(p:List UInt8)(n:Nat):(words p n).length=n:=by simp [words]
theorem AN(p:List UInt8)(n:Nat):words p (n+1)=words p n++[word p n]:=by simp [words,nz]
theorem hP(p:List UInt8):∀J,(dW p J).length=16+J
 |0=>n3 p 16
 |J+1=>by show(nl (dW p J)).length=_;simp only [nl,ca,hP p J,List.length_cons,List.length_nil];omega
theorem Bi:fE.length=64:=by decide
def fi(l:List (BitVec 32)):Array Value:=(fY l++List.replicate (64-l.length) (d7 0)).toArray
theorem lS{l:List (BitVec 32)}{J:Nat}(h:J<l.length):(fi l)[J]? =some (d7 (l.getD J 0)):=by
 simp [fi,iz,h,List.getD]
theorem s6{l:List (BitVec 32)}(h:l.length<64)(x:BitVec 32):(fi l).setIfInBounds l.length (d7 x)=fi (l++[x]):=by
 unfold fi
 apply fu
 simp only [Array.toList_setIfInBounds,ca,List.length_cons,List.length_nil,fY,List.map_append,List.map_cons,List.map_nil]
 rw [show 64-l.length=(64-(l.length+1))+1 by omega,tx]
 simp [List.set_append]
theorem s7{l:List (BitVec 32)}(h:l.length<=64):(fi l).size=64:=by simp [fi];omega
theorem jD(a b:Nat)(h:a*b<9223372036854775808):evalBin .mul .i64 (a:Int) (b:Int)=some (.int .i64 ((a*b:Nat):Int)):=by
 show some (Value.int .i64 (IntKind.i64.wrap ((a:Int)*(b:Int))))=_
 rw [<-Int.natCast_mul,jR]
 generalize a*b=c at*
 exact aL (λz=>some (Value.int .i64 z)) (by omega)
theorem gh(a b:Nat)(h:a+b<9223372036854775808):evalBin .add .i64 (a:Int) (b:Int)=some (.int .i64 ((a+b:Nat):Int)):=by
 show some (Value.int .i64 (IntKind.i64.wrap ((a:Int)+(b:Int))))=_
 rw [jR]
 exact aL (λz=>some (Value.int .i64 z)) (by omega)
theorem hv(a b:Nat)(h:b<=a)(c:a<9223372036854775808):evalBin .sub .i64 (a:Int) (b:Int)=some (.int .i64 ((a-b:Nat):Int)):=by
 show some (Value.int .i64 (IntKind.i64.wrap ((a:Int)-(b:Int))))=_
 rw [jR]
 exact aL (λz=>some (Value.int .i64 z)) (by omega)
theorem lC{p:List UInt8}{J:Nat}(h:J<p.length):(aE p)[J]? =some (bv (p.getD J 0)):=by simp [aE,h,List.getD]
theorem FH{o:World}:Calls prog 53 #[] o (aS λr w=>r= .agg (fY fE).toArray/\C o [] [] w):=by
 have a:Own [] o:=C.start o
 refine e7 [] (fn:=f53) func53 ntmps53 (cn 2 a j (λcT w a=>ar 2 j (cO (c:=(fY fE).toArray) j j j (λ_=>by kernel_rfl) ?_)))
 refine cp 0 a j j j (by decide) (by decide) (λw a=>?_)
 have a:=C.whole (U:=fY fE) a j
 refine bJ 0 j ⟨_,hb (U:=fY fE) results53 j j j a.bN,?_⟩
 exact⟨j,a.bare⟩
def mixed(s v:eL)(J:Nat):List Value:=(s.add v).cs.take J++s.cs.drop J
theorem oU{J:Nat}(h:J<8):J=0\/J=1\/J=2\/J=3\/J=4\/J=5\/J=6\/J=7:=by omega
theorem yS(s v:eL){J:Nat}(h:J<8):(mixed s v J).toArray.setIfInBounds J (d7 (s.ws.getD J 0+v.ws.getD J 0))=(mixed s v (J+1)).toArray:=by
 rcases oU h with rfl|rfl|rfl|rfl|rfl|rfl|rfl|rfl<;>rfl
theorem yR(s v:eL){J:Nat}(h:J<8):(mixed s v J).toArray.size=8:=by
 rcases oU h with rfl|rfl|rfl|rfl|rfl|rfl|rfl|rfl<;>rfl
theorem yQ(s v:eL){J:Nat}(h:J<8):(mixed s v J).toArray[J]? =some (d7 (s.ws.getD J 0)):=by
 rcases oU h with rfl|rfl|rfl|rfl|rfl|rfl|rfl|rfl<;>rfl
theorem rN(v:eL){J:Nat}(h:J<8):v.cs.toArray[J]? =some (d7 (v.ws.getD J 0)):=by
 rcases oU h with rfl|rfl|rfl|rfl|rfl|rfl|rfl|rfl<;>rfl
theorem v8{i:Nat}(h:i<64):(fY fE).toArray[i]? =some (d7 (fE.getD i 0)):=by
 have:i<fE.length:=by rw [Bi];exact h
 simp [fY,this,List.getD]
theorem oR{w:World}{b off:Nat}{c:Array Value}{e:TypeId}{e2:Nat×Nat}{v:Value}(h:w.heap[b]? =some (.cells c e e2))(a:c[off]? =some v):w.cell? ⟨b,off,none⟩=some v:=by simp [World.cell?,h,a]
theorem Aq{o:World}{bb eQ:Nat}{s:eL}{A:Option Addr}{p:List UInt8}{c:Nat}(d:Own [R bb s.cs.toArray 138] o)(t:Rd o A (aE p))(v:bU A (aE p) (av [R bb s.cs.toArray 138]))(ad:o.heap[eQ]? =some (.cells (fY fE).toArray 139 (0,0)))(O:eQ≠bb)(S:64<=p.length):Calls prog 54 #[Z bb,.slice A p.length c,Z eQ] o (aS λr w=>r= .tuple #[]/\C o (av [R bb s.cs.toArray 138]) [R bb (jo p s).cs.toArray 138] w):=by
 obtain⟨q,rfl,_⟩:=t 0 (bv (p.getD 0 0)) (lC (by omega))
 have P:eQ<o.heap.size:=(gp.1 ad).1
 have Q:eQ∉(av [R bb s.cs.toArray 138]):=by simpa [av] using O
 refine a1 [Z bb,.slice (some q) p.length c,Z eQ] func54 ntmps54 results54 (cn 2 d j (λm w d=>?_))
 have d:C o (av [R bb s.cs.toArray 138]) (R m (fi (words p 0)) 139::_) w:=d
 refine cY 5 j (cA:=Nat) (λi=>[(0,Z bb),(1,.slice (some q) p.length c),(2,Z eQ),(6,Z m),(14,.int .i64 (i:Nat))]) (λi w=>i<=16/\C o (av [R bb s.cs.toArray 138]) [R m (fi (words p i)) 139,R bb s.cs.toArray 138] w) (λi=>16-i) 0 ⟨j,j,j,j,j,ba⟩ ⟨ch _,d⟩ ?_
 rintro i w ⟨H,d⟩
 refine aT 4 j j (λD=>?_) (λD=>?_)
 .have k:i<16:=by have:=br D;omega
  have d:=d.drew
  refine bz 7 j (λw=>C o (av [R bb s.cs.toArray 138]) [R m (fi (words p i)) 139,R bb s.cs.toArray 138] w) d ?_
  refine af 0 3 j (aV 3 j (λw _=>dr j j (jD 4 i (by omega))) (aV 4 j (λw _=>kv (J:=4*i) j j (by omega)) (bT 5 j (λw h=>Rd.cell (h.rd t v) (lC (J:=4*i) (by omega))) (aV 6 j (λw _=>ku j (m4 _)) (aV 7 j (λw _=>mC j j (by omega) (m6 _ 24 (by decide))) (af 8 2 j (aV 10 j (λw _=>dr j j (jD 4 i (by omega))) (aV 11 j (λw _=>dr j j (gh (4*i) 1 (by omega))) (aV 12 j (λw _=>kv (J:=4*i+1) j j (by omega)) (bT 13 j (λw h=>Rd.cell (h.rd t v) (lC (J:=4*i+1) (by omega))) ?_))))))))))
  refine aV 14 j (λw _=>ku j (m4 _)) (aV 15 j (λw _=>mC j j (by omega) (m6 _ 16 (by decide))) (aV 16 j (λw _=>dr j j (m5 _ _)) (af 17 2 j (aV 19 j (λw _=>dr j j (jD 4 i (by omega))) (aV 20 j (λw _=>dr j j (gh (4*i) 2 (by omega))) (aV 21 j (λw _=>kv (J:=4*i+2) j j (by omega)) (bT 22 j (λw h=>Rd.cell (h.rd t v) (lC (J:=4*i+2) (by omega))) (aV 23 j (λw _=>ku j (m4 _)) (aV 24 j (λw _=>mC j j (by omega) (m6 _ 8 (by decide))) ?_)))))))))
  refine aV 25 j (λw _=>dr j j (m5 _ _)) (af 26 2 j (aV 28 j (λw _=>dr j j (jD 4 i (by omega))) (aV 29 j (λw _=>dr j j (gh (4*i) 3 (by omega))) (aV 30 j (λw _=>kv (J:=4*i+3) j j (by omega)) (bT 31 j (λw h=>Rd.cell (h.rd t v) (lC (J:=4*i+3) (by omega))) (aV 32 j (λw _=>ku j (m4 _)) (aV 33 j (λw _=>dr j j (m5 _ _)) (aV 34 j (λw _=>e9 (J:=i) j j (by omega)) (dy 35 j (cC d j j j j (by rw [s7 (by rw [n3];omega)];omega) (λw d=>?_)))))))))))
  have d:C o (av [R bb s.cs.toArray 138]) [[(m,.cells (fi (words p (i+1))) 139 (0,0))],R bb s.cs.toArray 138] w:=by
   have e:=s6 (l:=words p i) (by rw [n3];omega) (word p i)
   rw [n3,<-AN] at e
   rw [<-e]
   exact d
  refine an (cX (bt 1 j j j (c2 i (by omega)) (bX 1 j ?_)))
  exact⟨i+1,⟨j,j,j,j,j,ba⟩,⟨k,d⟩,by omega⟩
 have I:i=16:=by have:=bw D;omega
 subst I
 refine cY 6 j (cA:=Nat) (λJ=>[(0,Z bb),(1,.slice (some q) p.length c),(2,Z eQ),(6,Z m),(8,.int .i64 (16+J:Nat))]) (λJ w=>J<=48/\C o (av [R bb s.cs.toArray 138]) [R m (fi (dW p J)) 139,R bb s.cs.toArray 138] w) (λJ=>48-J) 0 ⟨j,j,j,j,j,ba⟩ ⟨ch _,d⟩ ?_
 rintro J w ⟨L,d⟩
 refine aT 5 j j (λE=>?_) (λE=>?_)
 .have k:J<48:=by have:=br E;omega
  have T:=hP p J
  have d:=d.drew
  refine bz 3 j (λw=>C o (av [R bb s.cs.toArray 138]) [R m (fi (dW p J)) 139,R bb s.cs.toArray 138] w) d (af 0 2 j (aV 2 j (λw _=>dr j j (hv (16+J) 16 (by omega) (by omega))) (aV 3 j (λw _=>e9 (J:=16+J-16) j j (by omega)) (bT 4 j (λw h=>h.cell (lS (by rw [hP];omega))) (af 5 1 j (aV 6 j (λw _=>dr j j (hv (16+J) 15 (by omega) (by omega))) (aV 7 j (λw _=>e9 (J:=16+J-15) j j (by omega)) ?_)))))))
  refine bT 8 j (λw h=>h.cell (lS (by rw [hP];omega))) (af 11 1 j (aV 12 j (λw _=>dr j j (hv (16+J) 7 (by omega) (by omega))) (aV 13 j (λw _=>e9 (J:=16+J-7) j j (by omega)) (bT 14 j (λw h=>h.cell (lS (by rw [hP];omega))) (af 16 1 j (aV 17 j (λw _=>dr j j (hv (16+J) 2 (by omega) (by omega))) (aV 18 j (λw _=>e9 (J:=16+J-2) j j (by omega)) (bT 19 j (λw h=>h.cell (lS (by rw [hP];omega))) (aW 9 j (bF j j j (GY (o:=_) (x:=(dW p J).getD (16+J-15) 0)) (λu hw=>?_)))))))))))
  subst hw
  refine an ⟨d,?_⟩
  refine aV 10 j (λw _=>dr j j (ht _ _)) (aV 15 j (λw _=>dr j j (ht _ _)) (aW 20 j (bF j j j (GZ (o:=_) (x:=(dW p J).getD (16+J-2) 0)) (λu hw=>?_))))
  subst hw
  refine an ⟨d,?_⟩
  refine aV 21 j (λw _=>dr j j (ht _ _)) (aV 22 j (λw _=>e9 (J:=16+J) j j (by omega)) (dy 23 j (cC d j j j j (by rw [s7 (by rw [hP];omega)];omega) (λw d=>?_))))
  have d:C o (av [R bb s.cs.toArray 138]) [[(m,.cells (fi (dW p (J+1))) 139 (0,0))],R bb s.cs.toArray 138] w:=by
   have G:dW p (J+1)=dW p J++[(dW p J).getD (16+J-16) 0+o5 ((dW p J).getD (16+J-15) 0)+(dW p J).getD (16+J-7) 0+o6 ((dW p J).getD (16+J-2) 0)]:=by
    show nl (dW p J)=_
    unfold nl
    rw [hP]
   have e:=s6 (l:=dW p J) (by rw [hP];omega) ((dW p J).getD (16+J-16) 0+o5 ((dW p J).getD (16+J-15) 0)+(dW p J).getD (16+J-7) 0+o6 ((dW p J).getD (16+J-2) 0))
   rw [hP] at e
   rw [G,<-e]
   exact d
  refine an (cX (bt 2 j j j (c2 (16+J) (by omega)) (bX 1 j ?_)))
  exact⟨J+1,⟨j,j,j,j,j,ba⟩,⟨k,d⟩,by omega⟩
 have M:J=48:=by have:=bw E;omega
 subst M
 refine bS 5 (U:=s.cs) j j j d.f1.bN (cn 0 d j (λn w d=>cp 0 d j j j j j (λw d=>?_)))
 have d:C o (av [R bb s.cs.toArray 138]) (R n (rounds p s 0).cs.toArray 138::_) w:=C.whole (U:=s.cs) d j
 refine cY 5 j (cA:=Nat) (λi=>[(0,Z bb),(1,.slice (some q) p.length c),(2,Z eQ),(6,Z m),(9,Z n),(83,.int .i64 (i:Nat))]) (λi w=>i<=64/\C o (av [R bb s.cs.toArray 138]) [R n (rounds p s i).cs.toArray 138,R m (fi (dW p 48)) 139,R bb s.cs.toArray 138] w) (λi=>64-i) 0 ⟨j,j,j,j,j,j,ba⟩ ⟨ch _,d⟩ ?_
 rintro i w ⟨H,d⟩
 refine aT 4 j j (λF=>?_) (λF=>?_)
 .have k:i<64:=by have:=br F;omega
  have d:=d.drew
  refine bz 8 j (λw=>C o (av [R bb s.cs.toArray 138]) [R n (rounds p s i).cs.toArray 138,R m (fi (dW p 48)) 139,R bb s.cs.toArray 138] w) d (aV 0 j (λw _=>e9 (J:=7) j j (by decide)) (bT 1 j (λw h=>h.cell j) (aV 2 j (λw _=>e9 (J:=4) j j (by decide)) (bT 3 j (λw h=>h.cell j) (aV 6 j (λw _=>e9 (J:=4) j j (by decide)) ?_)))))
  refine bT 7 j (λw h=>h.cell j) (aV 8 j (λw _=>e9 (J:=5) j j (by decide)) (bT 9 j (λw h=>h.cell j) (aV 10 j (λw _=>e9 (J:=6) j j (by decide)) (bT 11 j (λw h=>h.cell j) (af 14 3 j (aV 17 j (λw _=>e9 (J:=i) j j k) (bT 18 j (λw h=>oR ((h.fP eQ P Q).trans ad) (v8 k)) (af 20 1 j (aV 21 j (λw _=>e9 (J:=i) j j k) (bT 22 j (λw h=>h.f1.cell (lS (by rw [hP];omega))) (aW 4 j (bF j j j (Ck (o:=_) (x:=(rounds p s i).e)) (λu hw=>?_)))))))))))))
  subst hw
  refine an ⟨d,?_⟩
  refine aV 5 j (λw _=>dr j j (ht _ _)) (aW 12 j (bF j j j (choose_spec (o:=_) (x:=(rounds p s i).e) (y:=(rounds p s i).f) (z:=(rounds p s i).g)) (λu hw=>?_)))
  subst hw
  refine an ⟨d,?_⟩
  refine aV 13 j (λw _=>dr j j (ht _ _)) (aV 19 j (λw _=>dr j j (ht _ _)) (aV 23 j (λw _=>dr j j (ht _ _)) (af 24 1 j (bO ?_))))
  have d:=d.drew
  refine bz 1 j (λw=>C o (av [R bb s.cs.toArray 138]) [R n (rounds p s i).cs.toArray 138,R m (fi (dW p 48)) 139,R bb s.cs.toArray 138] w) d (aV 0 j (λw _=>e9 (J:=0) j j (by decide)) (bT 1 j (λw h=>h.cell j) (aV 3 j (λw _=>e9 (J:=0) j j (by decide)) (bT 4 j (λw h=>h.cell j) (aV 5 j (λw _=>e9 (J:=1) j j (by decide)) (bT 6 j (λw h=>h.cell j) (aV 7 j (λw _=>e9 (J:=2) j j (by decide)) (bT 8 j (λw h=>h.cell j) (aW 2 j (bF j j j (Cj (o:=_) (x:=(rounds p s i).a)) (λu hw=>?_)))))))))))
  subst hw
  refine an ⟨d,?_⟩
  refine aW 9 j (bF j j j (Fp (o:=_) (x:=(rounds p s i).a) (y:=(rounds p s i).b) (z:=(rounds p s i).c)) (λu hw=>?_))
  subst hw
  refine an ⟨d,?_⟩
  refine aV 10 j (λw _=>dr j j (ht _ _)) (af 11 1 j (bO (bt 3 j j j (ht _ _) (gJ (J:=0) j j j j (by decide) (au 0 j (aw (C.aj d) j) (gJ (J:=1) j j j j (by decide) ?_))))))
  refine au 0 j (aw (C.aj d) j) (gJ (J:=2) j j j j (by decide) (au 0 j (aw (C.aj d) j) (gJ (J:=3) j j j j (by decide) (au 0 j (aw (C.aj d) j) (bt 1 j j j (ht _ _) (gJ (J:=4) j j j j (by decide) (au 0 j (aw (C.aj d) j) (gJ (J:=5) j j j j (by decide) (au 0 j (aw (C.aj d) j) (gJ (J:=6) j j j j (by decide) (au 0 j (aw (C.aj d) j) (cO (c:=(rounds p s (i+1)).cs.toArray) j j j (λ_=>by kernel_rfl) (cp 0 d j j j j j (λw d=>?_))))))))))))))
  have d:C o (av [R bb s.cs.toArray 138]) (R n (rounds p s (i+1)).cs.toArray 138::_) w:=C.whole (U:=(rounds p s (i+1)).cs) d (Eq.refl 8)
  refine bt 1 j j j (c2 i (by omega)) (bX 1 j ?_)
  exact⟨i+1,⟨j,j,j,j,j,j,ba⟩,⟨k,d⟩,by omega⟩
 have K:i=64:=by have:=bw F;omega
 subst K
 have d:=d.f2
 refine cY 5 j (cA:=Nat) (λJ=>[(0,Z bb),(1,.slice (some q) p.length c),(2,Z eQ),(6,Z m),(9,Z n),(142,.int .i64 (J:Nat))]) (λJ w=>J<=8/\C o (av [R bb s.cs.toArray 138]) [R bb (mixed s (rounds p s 64) J).toArray 138,R n (rounds p s 64).cs.toArray 138,R m (fi (dW p 48)) 139] w) (λJ=>8-J) 0 ⟨j,j,j,j,j,j,ba⟩ ⟨ch _,d⟩ ?_
 rintro J w ⟨L,d⟩
 refine aT 4 j j (λB=>?_) (λB=>?_)
 .have k:J<8:=by have:=br B;omega
  have d:=d.drew
  refine bz 7 j (λw=>C o (av [R bb s.cs.toArray 138]) [R bb (mixed s (rounds p s 64) J).toArray 138,R n (rounds p s 64).cs.toArray 138,R m (fi (dW p 48)) 139] w) d (af 0 3 j (aV 3 j (λw _=>e9 (J:=J) j j k) (bT 4 j (λw h=>h.cell (yQ s (rounds p s 64) k)) (af 5 1 j (aV 6 j (λw _=>e9 (J:=J) j j k) (bT 7 j (λw h=>h.f1.cell (rN _ k)) (aV 8 j (λw _=>dr j j (ht _ _)) (af 9 1 j (aV 10 j (λw _=>e9 (J:=J) j j k) (dy 11 j (cC d j j j j (by rw [yR _ _ k];exact k) (λw d=>?_))))))))))))
  have d:C o (av [R bb s.cs.toArray 138]) [R bb (mixed s (rounds p s 64) (J+1)).toArray 138,R n (rounds p s 64).cs.toArray 138,R m (fi (dW p 48)) 139] w:=by rw [<-yS s (rounds p s 64) k];exact d
  refine an (cX (bt 1 j j j (c2 J (by omega)) (bX 1 j ?_)))
  exact⟨J+1,⟨j,j,j,j,j,j,ba⟩,⟨k,d⟩,by omega⟩
 refine ao 1 j j ?_
 have N:J=8:=by have:=bw B;omega
 subst N
 exact⟨j,d.h3⟩
def gH:eL:=⟨0x6a09e667#32,0xbb67ae85#32,0x3c6ef372#32,0xa54ff53a#32,0x510e527f#32,0x9b05688c#32,0x1f83d9ab#32,0x5be0cd19#32⟩
def ki(p:List UInt8):Nat->eL
 |0=>gH
 |k+1=>jo (p.drop (64*k)) (ki p k)
def lP(p:List UInt8):List UInt8:=p.drop (64*(p.length/64))
def eg(p:List UInt8):Nat:=if 56<=p.length%64 then 128 else 64
def hn(g:Nat->UInt8):List UInt8:=(List.range 128).map g
def kI(p:List UInt8)(J i:Nat):UInt8:=if i<p.length%64 then(lP p).getD i 0 else if i=p.length%64 then 128 else if eg p-J<=i/\i<eg p then UInt8.ofNat ((8*p.length)>>>(8*(eg p-1-i))) else 0
def mf(p:List UInt8):List UInt8:=hn (kI p 8)
def kX(p:List UInt8):Nat->eL
 |0=>ki p (p.length/64)
 |m+1=>jo ((mf p).drop (64*m)) (kX p m)
def b1(x:BitVec 32):UInt8:=UInt8.ofNat x.toNat
def vu(x:BitVec 32):List UInt8:=[b1 (x>>>24),b1 (x>>>16),b1 (x>>>8),b1 x]
def eL.out(s:eL):List UInt8:=s.ws.flatMap vu
def bL(p:List UInt8):List UInt8:=(kX p (eg p/64)).out
theorem C.y4{o w:World}{F:List Nat}{ae:List (List Chunk)}{b:Nat}{I:Obj}(h:C o F ([(b,I)]::ae) w):b∉av ae:=λa=>by
 have:=h.nodup
 rw [oP] at this
 exact(iy.1 this).2.2 b (by simp [av]) b a j
theorem GB{w:World}{A:Option Addr}{U:List Value}(h:U=[]):Rd w A U:=by subst h;exact Rd.nil _ _
theorem oL(g:Nat->UInt8):(hn g).length=128:=by simp [hn]
theorem qd(g:Nat->UInt8){i:Nat}(h:i<128):(hn g)[i]? =some (g i):=by simp [hn,h]
theorem xT{g a:Nat->UInt8}(h:∀k,k<128->g k=a k):hn g=hn a:=oB (λk ad=>h k (mV.1 ad))
theorem xU(g:Nat->UInt8){i:Nat}(h:i<128)(v:UInt8):(aE (hn g)).toArray.setIfInBounds i (bv v)=(aE (hn λk=>if k=i then v else g k)).toArray:=by
 apply fu
 simp only [Array.toList_setIfInBounds,aE]
 apply ny
 intro k
 rw [tv]
 simp only [fy,oL,gn]
 by_cases ad:k<128
 .by_cases a:i=k
  .subst a;simp [h,qd _ h]
  .rw [aF a,qd _ ad,qd _ ad,aF (λe=>a e.symm)]
 .have e:∀g,(hn g)[k]? =none:=λg=>kA (by rw [oL];omega)
  rw [e,e,aF (by omega)]
theorem DQ(r:List UInt8)(h:r.length<=128):aE r++(List.replicate 128 (bv 0)).drop (0+(aE r).length)=aE (hn λk=>if k<r.length then r.getD k 0 else 0):=by
 apply ny
 intro k
 simp only [aE,List.drop_replicate,fy]
 by_cases ad:k<128
 .rw [gn,qd _ ad]
  by_cases a:k<r.length
  .rw [iz (by simpa using a)];simp [a,List.getD]
  .rw [jy (by simpa using Nat.le_of_not_lt a),List.getElem?_replicate,List.length_map,if_pos (by omega),if_neg a];rfl
 .rw [kA (by simp only [ca,List.length_map,List.length_replicate];omega),List.getElem?_eq_none (by rw [List.length_map,oL];omega)]
theorem qK(p:List UInt8):(lP p).length=p.length%64:=by simp only [lP,iP];omega
theorem ia(p:List UInt8):(eg p=128/\56<=p.length%64)\/(eg p=64/\p.length%64<56):=by unfold eg;split<;>omega
theorem EJ(p:List UInt8):(hn λk=>if k=p.length%64 then(128:UInt8) else if k<(lP p).length then(lP p).getD k 0 else 0)=hn (kI p 0):=xT λk ad=>by
 rw [qK]
 unfold kI
 by_cases a:k=p.length%64
 .subst a;simp
 .by_cases b:k<p.length%64
  .simp [a,b]
  .have:¬(eg p-0<=k/\k<eg p):=by omega
   rw [aF a,aF b,aF b,aF a,aF this]
theorem EK(p:List UInt8){J:Nat}(f:J<8):(hn λk=>if k=eg p-1-J then UInt8.ofNat ((8*p.length)>>>(8*J)) else kI p J k)=hn (kI p (J+1)):=xT λk ad=>by
 unfold kI
 have aP:p.length%64<64:=jx _ (by decide)
 by_cases b:k=eg p-1-J
 .have c:¬k<p.length%64:=by rcases ia p with h|h<;>omega
  have d:k≠p.length%64:=by rcases ia p with h|h<;>omega
  have a:eg p-(J+1)<=k/\k<eg p:=by rcases ia p with h|h<;>omega
  have e:eg p-1-k=J:=by rcases ia p with h|h<;>omega
  rw [a6 b,aF c,aF d,a6 a,e]
 .rw [aF b]
  have a:(eg p-(J+1)<=k/\k<eg p)↔(eg p-J<=k/\k<eg p):=by rcases ia p with h|h<;>omega
  simp only [a]
theorem p6(x:BitVec 32):IntKind.u8.wrap (x.toNat:Int)=((b1 x).toNat:Int):=by
 rw [l4]
 unfold b1
 rw [oz]
 omega
theorem xn(x:Nat):IntKind.u8.wrap (x:Int)=((UInt8.ofNat x).toNat:Int):=by
 rw [l4,oz]
 omega
theorem DI(n:Nat)(h:n<=1000000000):evalShift .shl .u64 (n:Int) 3=some (.int .u64 ((8*n:Nat):Int)):=by
 show some (Value.int .u64 (IntKind.u64.wrap ((n:Int)*2^(min (3:Int).toNat IntKind.u64.bits))))=_
 rw [show(2:Int)^(min (3:Int).toNat IntKind.u64.bits)=8 by decide,oA]
 exact aL (λz=>some (Value.int .u64 z)) (by omega)
theorem xJ(x n:Nat)(h:n<=64):evalShift .shr .u64 (x:Int) (n:Int)=some (.int .u64 ((x>>>n:Nat):Int)):=by
 show some (Value.int .u64 ((x:Int).fdiv (2^(min ((n:Int).toNat) IntKind.u64.bits))))=_
 have a:min ((n:Int).toNat) IntKind.u64.bits=n:=by show min ((n:Int).toNat) 64=n;rw [l5];omega
 rw [a,tM _ (by exact Int.le_of_lt (Int.pow_pos (by decide))),show(2:Int)^n=((2^n:Nat):Int) by simp,<-Int.natCast_ediv,Nat.shiftRight_eq_div_pow]
def gF(s:eL)(J:Nat):List UInt8:=((s.ws.take J).flatMap vu)++List.replicate (32-4*J) 0
theorem Gb(s:eL){J:Nat}(h:J<8):((((aE (gF s J)).toArray.setIfInBounds (4*J) (bv (b1 (s.ws.getD J 0>>>24)))).setIfInBounds (4*J+1) (bv (b1 (s.ws.getD J 0>>>16)))).setIfInBounds (4*J+2) (bv (b1 (s.ws.getD J 0>>>8)))).setIfInBounds (4*J+3) (bv (b1 (s.ws.getD J 0)))=(aE (gF s (J+1))).toArray:=by
 obtain⟨a,s1,s2,b,c,d,e,f⟩:=s
 rcases oU h with rfl|rfl|rfl|rfl|rfl|rfl|rfl|rfl<;>simp [gF,eL.ws,vu,aE,List.replicate]
theorem oZ(s:eL){J:Nat}(h:J<=8):(gF s J).length=32:=by
 have:J=0\/J=1\/J=2\/J=3\/J=4\/J=5\/J=6\/J=7\/J=8:=by omega
 rcases this with rfl|rfl|rfl|rfl|rfl|rfl|rfl|rfl|rfl<;>rfl
theorem eL.CD(s:eL):(aE s.out).length=32:=by rw [ds];rfl
theorem eL.vv(s:eL):s.out.length=32:=rfl
theorem e4(p:List UInt8):(bL p).length=32:=eL.vv _
theorem qL(p:List UInt8):(aE (bL p)).length=32:=eL.CD _
theorem pb{o:World}{A:Option Addr}{p:List UInt8}{c:Nat}(Q:Rd o A (aE p))(K:p.length<=1000000000)(H:p.length<=c):Calls prog 27 #[.slice A p.length c] o (aS λr w=>r= .agg (aE (bL p)).toArray/\C o [] [] w):=by
 have a:Own [] o:=C.start o
 refine e7 [.slice A p.length c] (fn:=f27) func27 ntmps27 (cn 2 a j (λaJ w a=>?_))
 have a:C o [] [R aJ (aE (gF gH 0)).toArray 66] w:=a
 refine ar 2 j (cO (c:=gH.cs.toArray) j j j (λ_=>by kernel_rfl) ?_)
 refine cn 0 a j (λb w a=>cp 0 a j j j j j (λw a=>?_))
 have a:C o [] [R b (ki p 0).cs.toArray 138,R aJ (aE (gF gH 0)).toArray 66] w:=C.whole (U:=gH.cs) a j
 have l:=FH (o:=w)
 refine bp 2 l j (λw ad=>?_)
 have a:=a.aN ad
 refine cn 0 a j (λd w a=>cp 0 a j j j (by decide) (by decide) (λw a=>?_))
 have a:=C.whole (U:=fY fE) a j
 refine cY 6 j (cA:=Nat×Option Addr×Nat) (λi=>[(0,.slice A p.length c),(2,Z aJ),(3,Z b),(4,Z d),(5,.slice i.2.1 (p.drop (64*i.1)).length i.2.2)]) (λi w=>64*i.1<=p.length/\(p.drop (64*i.1)).length<=i.2.2/\Rd o i.2.1 (aE (p.drop (64*i.1)))/\C o [] [R d (fY fE).toArray 139,R b (ki p i.1).cs.toArray 138,R aJ (aE (gF gH 0)).toArray 66] w) (λi=>p.length-64*i.1) (0,A,c) ⟨j,j,j,j,j,ba⟩ ⟨by omega,by simpa using H,by simpa using Q,a⟩ ?_
 rintro⟨k,G,aZ⟩ w ⟨M,L,t,a⟩
 dsimp only at M L t a⊢
 have hlen:(p.drop (64*k)).length=p.length-64*k:=iP
 refine aT 6 j j (λn=>?_) (λn=>?_)
 .have T:=br n
  have F:d≠b:=λe=>C.y4 a (by subst e;simp [av])
  have l:=Aq (s:=ki p k) (p:=p.drop (64*k)) (c:=aZ) a.f1.j1 (a.rd t (bU.of_nil _ _)) ((a.apart t (bU.of_nil _ _)).sub (fB (by simp))) a.first F (br n|>λh=>by omega)
  refine bm 5 l j (λr w⟨_,ad⟩=>?_)
  have a:C o [] (R b (ki p (k+1)).cs.toArray 138::_) w:=a.f1.im ad
  have a:=a.f1
  refine ar 2 j (n9 (i:=64) j j j j (by have:=br n;omega) ?_)
  refine bX 1 j ?_
  have D:p.drop (64*(k+1))=(p.drop (64*k)).drop 64:=by rw [ri];congr 1
  refine⟨(k+1,(if aZ=64 then G else G.map (·.add (64*1))),aZ-64),⟨j,j,j,j,?_,ba⟩,⟨by dsimp only;omega,by dsimp only;rw [D,iP (i:=64)];omega,?_,a⟩,by dsimp only;omega⟩
  .show some (Value.slice _ ((p.drop (64*k)).length-64) _)=some (Value.slice _ (p.drop (64*(k+1))).length _)
   rw [D,iP (i:=64)]
  dsimp only
  rw [D,show aE ((p.drop (64*k)).drop 64)=(aE (p.drop (64*k))).drop 64 by simp [aE]]
  split
  .rename_i H
   exact GB (by simp [aE];omega)
  exact t.drop 64
 have ad:k=p.length/64:=by have:=bw n;omega
 subst ad
 have W:p.length%64<64:=jx _ (by decide)
 refine cn 3 a j (λf w a=>ar 2 j (mI j j j ?_))
 refine ar 1 j (wk (off:=0) (news:=aE (lP p)) a j j j j (by rw [ds];exact(mO (by rw [qK];omega)).symm) (.inr j) (a.rd t (bU.of_nil _ _)) (fH _) (by rw [ds,qK];show 0+_<=128;omega) (λw a=>?_))
 refine b2 26 (.int .i64 (p.length%64:Nat)) j (by rw [ds,qK]) ?_
 have a:C o [] [[(f,.cells (aE (hn λk=>if k<(lP p).length then(lP p).getD k 0 else 0)).toArray 143 (0,0))],R d (fY fE).toArray 139,R b (ki p (p.length/64)).cs.toArray 138,R aJ (aE (gF gH 0)).toArray 66] w:=by
  rw [<-DQ (lP p) (by rw [qK];omega)]
  exact a
 refine ar 4 j (gJ (J:=p.length%64) j j j j (by omega) ?_)
 refine cC a j j j j (by simp [ds,oL];omega) (λw a=>?_)
 have a:C o [] [[(f,.cells (aE (hn (kI p 0))).toArray 143 (0,0))],R d (fY fE).toArray 139,R b (ki p (p.length/64)).cs.toArray 138,R aJ (aE (gF gH 0)).toArray 66] w:=by
  rw [<-EJ,<-xU _ (by omega)]
  exact a
 refine nb 3 j (λaa w=>sub aa [(0,.slice A p.length c),(2,Z aJ),(3,Z b),(4,Z d),(6,Z f),(8,.int .i64 (eg p:Nat))]/\C o [] [[(f,.cells (aE (hn (kI p 0))).toArray 143 (0,0))],R d (fY fE).toArray 139,R b (ki p (p.length/64)).cs.toArray 138,R aJ (aE (gF gH 0)).toArray 66] w) ?_ ?_
 .refine aT 4 j j (λu=>?_) (λu=>?_)
  refine bX 2 j ?_
  rotate_left
  refine bX 1 j ?_
  rotate_left
  all_goals
   refine⟨⟨j,j,j,j,j,?_,ba⟩,a⟩
   first
    |exact aL (λx:Nat=>some (Value.int .i64 (x:Int))) (show 128=eg p by unfold eg;rw [if_pos (by have:=of_decide_eq_true u;omega)])
    |exact aL (λx:Nat=>some (Value.int .i64 (x:Int))) (show 64=eg p by unfold eg;rw [if_neg (by have:=of_decide_eq_false u;omega)])
 rintro aa w ⟨aM,a⟩
 refine mJ [(0,.slice A p.length c),(2,Z aJ),(3,Z b),(4,Z d),(6,Z f),(8,.int .i64 (eg p:Nat))] aM (ar 4 j (hF j j j (m3 _ (by omega)) ?_))
 refine i9 j j j j (by omega) (DI p.length K) (cY 6 j (cA:=Nat) (λJ=>[(0,.slice A p.length c),(2,Z aJ),(3,Z b),(4,Z d),(6,Z f),(8,.int .i64 (eg p:Nat)),(9,.int .u64 (8*p.length:Nat)),(35,.int .i64 (J:Nat))]) (λJ w=>J<=8/\C o [] [[(f,.cells (aE (hn (kI p J))).toArray 143 (0,0))],R d (fY fE).toArray 139,R b (ki p (p.length/64)).cs.toArray 138,R aJ (aE (gF gH 0)).toArray 66] w) (λJ=>8-J) 0 ⟨j,j,j,j,j,j,j,j,ba⟩ ⟨ch _,a⟩ ?_)
 rintro J w ⟨q,a⟩
 refine aT 4 j j (λy=>?_) (λy=>?_)
 .have g:J<8:=by have:=br y;omega
  refine bt 9 j j j (hv (eg p) 1 (by rcases ia p with h|h<;>omega) (by rcases ia p with h|h<;>omega)) (bt 1 j j j (hv (eg p-1) J (by rcases ia p with h|h<;>omega) (by rcases ia p with h|h<;>omega)) (bt 2 j j j (jD 8 J (by omega)) (i9 j j j j (by omega) (xJ (8*p.length) (8*J) (by omega)) (hF j j j (xn _) (gJ (J:=eg p-1-J) j j j j (by rcases ia p with h|h<;>omega) (cC a j j j j (by simp [ds,oL];rcases ia p with h|h<;>omega) (λw a=>?_)))))))
  have a:C o [] [[(f,.cells (aE (hn (kI p (J+1)))).toArray 143 (0,0))],R d (fY fE).toArray 139,R b (ki p (p.length/64)).cs.toArray 138,R aJ (aE (gF gH 0)).toArray 66] w:=by
   rw [<-EK p g,<-xU _ (by rcases ia p with h|h<;>omega)]
   exact a
  refine bt 1 j j j (c2 J (by omega)) (bX 1 j ?_)
  exact⟨J+1,⟨j,j,j,j,j,j,j,j,ba⟩,⟨g,a⟩,by omega⟩
 have E:J=8:=by have:=bw y;omega
 subst E
 refine cY 6 j (cA:=Nat) (λm=>[(0,.slice A p.length c),(2,Z aJ),(3,Z b),(4,Z d),(6,Z f),(8,.int .i64 (eg p:Nat)),(11,.int .i64 (64*m:Nat))]) (λm w=>64*m<=eg p/\C o [] [R f (aE (mf p)).toArray 143,R d (fY fE).toArray 139,R b (kX p m).cs.toArray 138,R aJ (aE (gF gH 0)).toArray 66] w) (λm=>eg p-64*m) 0 ⟨j,j,j,j,j,j,j,ba⟩ ⟨by omega,a⟩ ?_
 rintro m w ⟨hm,a⟩
 refine aT 6 j j (λz=>?_) (λz=>?_)
 .have g:64*m<eg p:=by have:=br z;omega
  have V:64*m+64<=128:=by rcases ia p with h|h<;>omega
  refine ar 5 j (Br (i:=64*m) j j j j (by omega) ?_)
  have F:d≠b:=λe=>C.y4 a.f1 (by subst e;simp [av])
  have N:(mf p).length=128:=oL _
  have S:Rd w (some ⟨f,64*m,none⟩) (aE ((mf p).drop (64*m))):=a.i3 (λi v I=>by
   rw [show aE ((mf p).drop (64*m))=(aE (mf p)).drop (64*m) by simp [aE],lx] at I
   simpa using I)
  have O:((mf p).drop (64*m)).length=128-64*m:=by rw [iP,N]
  have l:=Aq (s:=kX p m) (p:=(mf p).drop (64*m)) (c:=128-64*m) a.f2.j1 S ((a.iS).sub (fB (by simp))) a.f1.first F (by omega)
  rw [O] at l
  refine bm 0 l j (λr w⟨_,ad⟩=>?_)
  have a:C o [] (R b (kX p (m+1)).cs.toArray 138::_) w:=a.f2.im ad
  have a:=a.f2.f2
  refine bt 2 j j j (gh (64*m) 64 (by omega)) (bX 1 j ?_)
  exact⟨m+1,⟨j,j,j,j,j,j,j,ba⟩,⟨by rcases ia p with h|h<;>omega,a⟩,by omega⟩
 have P:m=eg p/64:=by have:=bw z;rcases ia p with h|h<;>omega
 subst P
 refine bS 4 (U:=(kX p (eg p/64)).cs) j j j a.f2.bN (cY 2 j (cA:=Nat) (λJ=>[(2,Z aJ),(57,.agg (kX p (eg p/64)).cs.toArray),(58,.int .i64 (J:Nat))]) (λJ w=>J<=8/\C o [] [[(aJ,.cells (aE (gF (kX p (eg p/64)) J)).toArray 66 (0,0))]] w) (λJ=>8-J) 0 ⟨j,j,j,ba⟩ ⟨ch _,a.f3.h3⟩ ?_)
 rintro J w ⟨q,a⟩
 refine aT 4 j j (λB=>?_) (λB=>?_)
 .have g:J<8:=by have:=br B;omega
  refine ar 6 j (wp (J:=J) j j j j g j (rN _ g) ?_)
  refine bt 4 j j j (jD 4 J (by omega)) (bt 1 j j j (jD 4 J (by omega)) (bt 0 j j j (gh (4*J) 1 (by omega)) (bt 1 j j j (jD 4 J (by omega)) (bt 0 j j j (gh (4*J) 2 (by omega)) (bt 1 j j j (jD 4 J (by omega)) (bt 0 j j j (gh (4*J) 3 (by omega)) (ar 1 j (i9 j j j j (by omega) (lH _ 24 (by decide)) ?_))))))))
  refine hF j j j (p6 _) (ar 1 j (i9 j j j j (by omega) (lH _ 16 (by decide)) ?_))
  refine hF j j j (p6 _) (ar 1 j (i9 j j j j (by omega) (lH _ 8 (by decide)) ?_))
  refine hF j j j (p6 _) (ar 1 j (hF j j j (p6 _) ?_))
  refine gJ (J:=4*J) j j j j (by omega) (cC a j j j j (by simp [ds,oZ _ q];omega) (λw a=>gJ (J:=4*J+1) j j j j (by omega) (cC a j j j j (by simp [ds,oZ _ q];omega) (λw a=>gJ (J:=4*J+2) j j j j (by omega) (cC a j j j j (by simp [ds,oZ _ q];omega) (λw a=>gJ (J:=4*J+3) j j j j (by omega) (cC a j j j j (by simp [ds,oZ _ q];omega) (λw a=>?_))))))))
  have a:C o [] [[(aJ,.cells (aE (gF (kX p (eg p/64)) (J+1))).toArray 66 (0,0))]] w:=by rw [<-Gb _ g];exact a
  refine bt 1 j j j (c2 J (by omega)) (bX 1 j ?_)
  exact⟨J+1,⟨j,j,j,ba⟩,⟨g,a⟩,by omega⟩
 have E:J=8:=by have:=bw B;omega
 subst E
 refine bS 3 (U:=aE (bL p)) j j (qL p) a.bN (c5 a j j j (by simpa using fH (bL p)) (qL p) (by simp [ds,oZ _ (Nat.le_refl 8)]) (λw a=>?_))
 have a:=C.whole (U:=aE (bL p)) a j
 refine bJ 0 j ⟨_,hb (U:=aE (bL p)) results27 j j j a.bN,?_⟩
 exact⟨j,a.bare⟩
abbrev eZ(a:Nat)(v:Value):List Chunk:=R a #[v] 177
abbrev dN(v:Value)(aD:List UInt8)(ak:List Chunk):Prop:=Row 5 1 v aD.length (aE aD) ak
theorem ld{o:World}{a:Nat}{v0:Value}{f:List Chunk}{aD:List UInt8}{A:Option Addr}{dB:List Int}{c:Nat}
 (b:Own [eZ a v0,f] o) (e:dN v0 aD f) (B:Rd o A (dB.map ab)) (t:bU A (dB.map ab) (av [eZ a v0,f])) (G:aD.length+10*dB.length<=1000000000):
 Calls prog 70 #[Z a,.slice A dB.length c] o (aS λr w=>r= .tuple #[]/\∃v ak,dN v (aD++et dB) ak/\C o (av [eZ a v0,f]) [eZ a v,ak] w):=by
 refine a1 [Z a,.slice A dB.length c] func70 ntmps70 results70 ?_
 refine cY 13 j (cA:=Nat×Value×List Chunk)
  (λi=>[(0,Z a),(9,.slice A dB.length c),(10,.int .i64 (dB.length:Nat)),(11,.int .i64 (i.1:Nat))])
  (λi w=>i.1<=dB.length/\dN i.2.1 (aD++et (dB.take i.1)) i.2.2/\C o (av [eZ a v0,f]) [eZ a i.2.1,i.2.2] w)
  (λi=>dB.length-i.1) (0,v0,f) ⟨j,j,j,j,ba⟩ ⟨ch _,by simpa [et] using e,b⟩ ?_
 rintro⟨J,v,ak⟩ w ⟨y,e,b⟩
 dsimp only at y e b⊢
 refine aT 4 j j (λk=>?_) (λk=>?_)
 .have h:=k
  have h:J<dB.length:=by simpa using k
  refine ar 5 j (fL j j j j (b.rd B t) (v:=ab dB[J]) (by simp [h]) h (λD F x=>?_))
  refine au 0 j x (ar 4 j (rb j j j ?_))
  refine tp j j j (hF j j j (CS _) ?_)
  refine cY 3 j (cA:=Nat×Value×List Chunk×List UInt8)
   (λi=>[(0,Z a),(9,.slice A dB.length c),(10,.int .i64 (dB.length:Nat)),(11,.int .i64 (J:Nat)),(6,.int .u64 (i.1:Nat))])
   (λi w=>i.2.2.2++enc i.1=(aD++et (dB.take J))++enc (kD dB[J])/\dN i.2.1 i.2.2.2 i.2.2.1/\C o (av [eZ a v0,f]) [eZ a i.2.1,i.2.2.1] w)
   (λi=>i.1) (kD dB[J],v,ak,aD++et (dB.take J)) ⟨j,j,j,j,j,ba⟩ ⟨j,e,b⟩ ?_
  rintro⟨u,v,ak,d⟩ w ⟨g,e,b⟩
  dsimp only at g e b⊢
  have hlen:d.length+(enc u).length<=aD.length+9*J+9:=by
   have q:=aL List.length g
   have E:=uq (kD dB[J]) (xh _)
   have s:=gq (dB.take J)
   simp only [ca,List.length_take] at q s
   omega
  have H:=Dt u
  refine aT 5 j j (λl=>?_) (λl=>?_)
  .skip
   refine au 8 j (aw (C.aj b) j) (ar 1 j (hF j j j j ?_))
   refine ar 1 j (b2 30 (bv (UInt8.ofNat (u%128+128))) j (aL (Value.int .u8) (Fo u)) ?_)
   refine fe b j j j j j j bR (λn w b=>?_)
   have aP:Rd w (some ⟨n,0,none⟩) [bv (UInt8.ofNat (u%128+128))]:=b.bN
   have b:=b.f2
   refine eK b e j j (by decide) j j j (m:=1) (news:=[bv (UInt8.ofNat (u%128+128))]) j aP (fH [(UInt8.ofNat (u%128+128))]) (by omega) (by unfold maxLen;omega) (λv ak w e b=>?_)
   have b:=b.f2
   refine dD 2 b j j j e.one (λw b=>?_)
   have b:=b.f2.drop
   refine ar 2 j (i9 j j j j (by omega) j ?_)
   refine b2 22 (.int .u64 ((u/128:Nat):Int)) j (aL (Value.int .u64) (Hd u)) (bX 1 j ?_)
   have hu:¬u<128:=by have:=br l;omega
   refine⟨(u/128,v,ak,d++[(UInt8.ofNat (u%128+128))]),⟨j,j,j,j,j,ba⟩,⟨?_,w8 e,b⟩,by dsimp only;omega⟩
   rw [up hu] at g
   simpa using g
  .skip
   refine au 6 j (aw (C.aj b) j) (ar 1 j (hF j j j j ?_))
   refine b2 41 (bv (UInt8.ofNat u)) j (aL (Value.int .u8) (Fa u)) (fe b j j j j j j bR (λp w b=>?_))
   have aP:Rd w (some ⟨p,0,none⟩) [bv (UInt8.ofNat u)]:=b.bN
   have b:=b.f2
   refine eK b e j j (by decide) j j j (m:=1) (news:=[bv (UInt8.ofNat u)]) j aP (fH [(UInt8.ofNat u)]) (by omega) (by unfold maxLen;omega) (λv ak w e b=>?_)
   have b:=b.f2
   refine dD 2 b j j j e.one (λw b=>?_)
   have b:=b.f2.drop
   refine bt 1 j j j (c2 J (by omega)) (bX 1 j (⟨(J+1,v,ak),⟨j,j,j,j,ba⟩,⟨h,?_,b⟩,by dsimp only;omega⟩))
   have hu:u<128:=by have:=bw l;omega
   rw [rV hu] at g
   have he:aD++et (dB.take (J+1))=d++[UInt8.ofNat u]:=by
    rw [fF h,Du,<-List.append_assoc,g]
    simp [et]
   rw [he]
   exact w8 e
 .have h:=k
  refine ao 1 j j (⟨j,v,ak,?_,b⟩)
  have z:J=dB.length:=by have:=bw k;omega
  subst z
  simpa using e
theorem gW{o:World}{A:Option Addr}{aD:List UInt8}{c:Nat}(d:Rd o A (aE aD))(i:aD.length<=1000000000):
 Calls prog 51 #[.slice A aD.length c] o (aS λr w=>∃G,dN r aD G/\C o [] [G] w):=by
 have b:Own [] o:=C.start o
 refine a1 [.slice A aD.length c] func51 ntmps51 results51 (ar 7 j (wo j j j ?_))
 refine aT 0 j j (λfA=>?_) (λfA=>?_)
 .skip
  refine ao 3 j j ?_
  have e:A=none:=by simpa using fA
  subst e
  have:aD=[]:=by
   cases aD with
   |nil=>rfl
   |cons x r=>obtain⟨a,g,_⟩:=d 0 (bv x) j;cases g
  subst this
  exact⟨[],Row.nil _ _,b.empty⟩
 .skip
  refine ar 3 j (fe b j j j j j j bR (λh w b=>?_))
  refine ar 1 j (eK b (Row.made (size:=1) (by simp [maxLen]) (Nat.zero_le _)) j j (by decide) j j j (news:=aE aD) (by simp) (b.rd d (bU.of_nil _ _)) (fH aD) (by omega) (by unfold maxLen;omega) (λv G w f b=>?_))
  refine ao 1 j j ?_
  exact⟨G,by simpa [dN] using f,b⟩
theorem qw{o:World}{a:Nat}{v0:Value}{d:List Chunk}{aD:List UInt8}(b:Own [eZ a v0,d] o)(f:dN v0 aD d)(g:aD.length<=1000000000):
 Calls prog 72 #[Z a] o (aS λr w=>∃G,dN r aD G/\C o (av [eZ a v0,d]) [G,eZ a v0,d] w):=by
 refine a1 [Z a] func72 ntmps72 results72 (au 15 j (aw (C.aj b) j) ?_)
 obtain⟨A,c,rfl,k,l,h,i⟩:=f.rd b.f1
 refine bm 0 (gW h g) j (λr w⟨G,e,ad⟩=>?_)
 have b:=b.aN ad
 refine ao 1 j j ?_
 exact⟨G,e,b⟩
theorem qB{o:World}{a:Nat}{v0:Value}{e:List Chunk}{aD cR:List UInt8}{A:Option Addr}{c:Nat}
 (b:Own [eZ a v0,e] o) (d:dN v0 aD e) (f:Rd o A (aE cR)) (g:aD.length+cR.length<=1000000000):
 Calls prog 130 #[Z a,.slice A cR.length c] o (aS λr w=>r= .tuple #[]/\∃v ak,dN v (aD++cR) ak/\C o (av [eZ a v0,e]) [eZ a v,ak] w):=by
 refine a1 [Z a,.slice A cR.length c] func130 ntmps130 results130 (au 10 j (aw (C.aj b) j) ?_)
 have b:=b.f1
 refine ar 1 j (eK b d j j (by decide) j j j (news:=aE cR) (by simp) f (fH cR) (by omega) (by unfold maxLen;omega) (λv ak w d b=>?_))
 have b:=b.f1
 refine dD 2 b j j j d.one (λw b=>ao 0 j j ?_)
 exact⟨j,v,ak,t8 d j,b⟩
theorem C.FM{o w:World}{ae:List (List Chunk)}{b:Nat}{I:Obj}(a:C o [] ae w)(h:o.heap[b]? =some I):w.heap[b]? =some I:=by
 rw [a.fP b (gp.1 h).1 (by simp)];exact h
def mp(k:List UInt8):List UInt8:=k++List.replicate (64-k.length) 0
def nR(k p:List UInt8):List UInt8:=bL ((mp k).map (·^^^92)++bL ((mp k).map (·^^^54)++p))
theorem qp(k p:List UInt8):(nR k p).length=32:=e4 _
theorem zm(k:List UInt8)(h:k.length<=64):(mp k).length=64:=by simp [mp];omega
theorem Fg{l:List UInt8}{g:UInt8->UInt8}{i:Nat}(h:i<l.length):(l.take (i+1)).map g=(l.take i).map g++[g l[i]]:=by
 rw [fF h,jP];rfl
theorem AM{o:World}{eQ:Nat}{K p:List UInt8}{m:UInt8}{B:Option Addr}{d:Nat}(ad:o.heap[eQ]? =some (.cells (aE K).toArray 318 (0,0)))(s:K.length=64)(A:Rd o B (aE p))(I:p.length<=1000000):Calls prog 198 #[bv m,.slice B p.length d,Z eQ] o (aS λr w=>r= .agg (aE (bL (K.map (·^^^m)++p))).toArray/\C o [] [] w):=by
 have a:Own [] o:=C.start o
 have z:(aE K).length=64:=by rw [ds,s]
 refine e7 [bv m,.slice B p.length d,Z eQ] (fn:=f198) func198 ntmps198 ?_
 refine cn 2 a j (λn w a=>?_)
 refine bt 4 j j j (gh 64 p.length (by omega)) ?_
 refine n8 (l:=0) (c:=64+p.length) a j j j j (by omega) (by omega) (by unfold maxLen;omega) (λk cs w H _ a=>?_)
 have e:dN (.slice (some ⟨k,0,none⟩) 0 (64+p.length)) [] (R k cs 5):=Row.made (by unfold maxLen;omega) (by omega)
 refine bS 4 (U:=aE K) j j z (λi v E=>⟨_,j,by rw [add_lit];exact oR (C.FM a ad) (by rw [fk];simpa using E)⟩) ?_
 refine cY 2 j (cA:=Nat×Value×List Chunk) (λi=>[(0,bv m),(1,.slice B p.length d),(5,Z n),(6,i.2.1),(13,.agg (aE K).toArray),(14,.int .i64 (i.1:Nat))])
  (λi w=>i.1<=K.length/\dN i.2.1 ((K.take i.1).map (·^^^m)) i.2.2/\C o [] [i.2.2,R n (Array.replicate 32 (bv 0)) 66] w) (λi=>64-i.1) (0,_,_) ⟨j,j,j,j,j,j,ba⟩ ⟨ch _,e,a⟩ ?_
 rintro⟨i,v,ak⟩ w ⟨x,e,a⟩
 dsimp only at x e a⊢
 refine aT 4 j j (λf=>?_) (λf=>?_)
 .have g:i<K.length:=by have:=br f;omega
  refine ar 5 j (wp (J:=i) (v:=bv K[i]) j j j j (by omega) j (by simp [aE,g]) ?_)
  refine bt 5 j j j (DK _ _) ?_
  refine fe a j j j j j j bR (λG w a=>?_)
  have aP:=a.bN
  refine eK a.f1 e j j (by decide) j j j (news:=aE [K[i]^^^m]) j aP (fH _) (by(try simp only [List.length_map,List.length_take]);omega) (by(try simp only [List.length_map,List.length_take]);unfold maxLen;omega) (λv1 h w b a=>?_)
  have b:=t8 b j
  refine bt 2 j j j (c2 i (by omega)) ?_
  refine bX 1 j ?_
  have q:i+1<=64:=by omega
  refine⟨(i+1,v1,h),⟨j,j,j,j,j,j,ba⟩,⟨g,?_,a.f1.drop⟩,by dsimp only;omega⟩
  dsimp only
  rw [Fg g]
  exact b
 have q:i=K.length:=by have:=bw f;omega
 subst q
 rw [gy] at e
 refine ar 5 j (eK a e j j (by decide) j j j (news:=aE p) (by simp) (a.rd A (bU.of_nil _ _)) (fH _) (by simp only [List.length_map];omega) (by simp only [List.length_map];unfold maxLen;omega) (λv1 h w b a=>?_))
 have b:=t8 b j
 obtain⟨F,aZ,rfl,t,_,D,_⟩:=b.rd a
 have u:=pb D (by simp only [ca,List.length_map];omega) t
 refine bp 0 u j (λw y=>?_)
 have a:=(a.aN y).f1
 refine cp 0 a j j j (by simpa using fH (bL (K.map (·^^^m)++p))) (by rw [List.size_toArray,ds,e4]) (λw a=>?_)
 have a:=C.whole (U:=aE (bL (K.map (·^^^m)++p))) a (by rw [ds,e4];rfl)
 refine bJ 0 j ⟨_,hb (U:=aE (bL (K.map (·^^^m)++p))) results198 j j (by rw [ds,e4]) a.bN,?_⟩
 exact⟨j,a.bare⟩
theorem Gf(k:List UInt8)(h:k.length<=64):(Array.replicate 64 (bv 0)).toList.take 0++aE k++(Array.replicate 64 (bv 0)).toList.drop (0+(aE k).length)=aE (mp k):=by
 rw [Array.toList_replicate,List.take_zero,kB,List.drop_replicate,ds,Nat.zero_add]
 simp only [mp,aE,jP,List.map_replicate]
def pm(k p:List UInt8):List UInt8:=bL ((mp k).map (·^^^54)++p)
theorem qY(k p:List UInt8):(pm k p).length=32:=e4 _
theorem Fc{o:World}{A:Option Addr}{key:List UInt8}{c:Nat}{B:Option Addr}{p:List UInt8}{d:Nat}(q:Rd o A (aE key))(f:key.length<=64)(n:Rd o B (aE p))(l:p.length<=1000000):Calls prog 148 #[.slice A key.length c,.slice B p.length d] o (aS λr w=>r= .agg (aE (nR key p)).toArray/\C o [] [] w):=by
 have a:Own [] o:=C.start o
 refine e7 [.slice A key.length c,.slice B p.length d] (fn:=f148) func148 ntmps148 (cn 2 a j (λg w a=>?_))
 have a:C o [] [R g (Array.replicate 32 (bv 0)) 66] w:=a
 refine cn 2 a j (λh w a=>?_)
 have a:C o [] [R h (Array.replicate 64 (bv 0)) 318,_] w:=a
 refine iW 6 j j (ff (by omega)) (ar 3 j (mI j j j ?_))
 refine ar 1 j (wk (off:=0) (news:=aE key) a j j j j (by rw [ds];exact(mO f).symm) (.inr j) (a.rd q (bU.of_nil _ _)) (fH _) (by simp only [ds,Array.size_replicate];omega) (λw a=>?_))
 have a:C o [] [R h (aE (mp key)).toArray 318,R g (Array.replicate 32 (bv 0)) 66] w:=by rw [<-Gf key f];exact a
 refine ar 2 j (gR j j j j ?_)
 have e:=AM (m:=54) a.first (zm key f) (a.rd n (bU.of_nil _ _)) l (d:=d)
 refine ar 5 j (hE j j j j e (λr w⟨b,i⟩=>?_))
 have b:r= .agg (aE (pm key p)).toArray:=b
 subst b
 have a:=a.aN i
 refine cn 0 a j (λk w a=>?_)
 have a:C o [] [R k (Array.replicate 32 (bv 0)) 66,R h (aE (mp key)).toArray 318,R g (Array.replicate 32 (bv 0)) 66] w:=a
 refine c5 a j j j (by simpa using fH (pm key p)) (by rw [List.size_toArray,ds,qY]) (by simp only [List.size_toArray,Array.size_replicate,ds,qY];try decide) (λw a=>?_)
 have a:=C.whole (U:=aE (pm key p)) a (by rw [ds,qY];rfl)
 refine ar 3 j (mI j j j ?_)
 have s:Rd w (some ⟨k,0,none⟩) (aE (pm key p)):=a.bN
 have e:=AM (m:=92) (p:=pm key p) a.f1.first (zm key f) s (by rw [qY];decide) (d:=32)
 rw [qY] at e
 refine hE j j j j e (λr w⟨b,i⟩=>?_)
 have b:r= .agg (aE (nR key p)).toArray:=b
 subst b
 have a:=(a.aN i).f2
 refine c5 a j j j (by simpa using fH (nR key p)) (by rw [List.size_toArray,ds,qp]) (by simp only [List.size_toArray,Array.size_replicate,ds,qp];try decide) (λw a=>?_)
 have a:=C.whole (U:=aE (nR key p)) a (by rw [ds,qp];rfl)
 refine bJ 0 j ⟨_,hb (U:=aE (nR key p)) results148 j j (by rw [ds,qp]) a.bN,?_⟩
 exact⟨j,a.bare⟩
theorem np{o:World}{A:Option Addr}{p:List UInt8}{c:Nat}(f:Rd o A (aE p))(g:p.length<=1000000)(b:p.length<=c):Calls prog 82 #[.slice A p.length c] o (aS λr w=>r= .agg (aE (bL p)).toArray/\C o [] [] w):=by
 have a:Own [] o:=C.start o
 refine e7 [.slice A p.length c] (fn:=f82) func82 ntmps82 (cn 2 a j (λaJ w a=>?_))
 have a:C o [] [R aJ (Array.replicate 32 (bv 0)) 66] w:=a
 have d:=pb (a.rd f (bU.of_nil _ _)) (by omega) b
 refine bp 3 d j (λw e=>?_)
 have a:=a.aN e
 refine c5 a j j j (by simpa using fH (bL p)) (by rw [List.size_toArray,ds,e4]) (by simp only [List.size_toArray,Array.size_replicate,ds,e4];try decide) (λw a=>?_)
 have a:=C.whole (U:=aE (bL p)) a (by rw [ds,e4];rfl)
 refine bJ 0 j ⟨_,hb (U:=aE (bL p)) results82 j j (by rw [ds,e4]) a.bN,?_⟩
 exact⟨j,a.bare⟩
def hy(n:Nat):Nat:=(max n 1-1)/3
def h8(n:Nat):Nat:=n-hy n
theorem Fh(n:Nat):max (n:Int) 1=((max n 1:Nat):Int):=by omega
theorem xL{o:World}{n:Nat}(aP:n<=1000):Calls prog 25 #[.int .i64 n] o (aS λr w=>r= .int .i64 (hy n)/\w=o):=by
 refine a1 [.int .i64 n] func25 ntmps25 results25 (ar 6 j (tp j j j ?_))
 refine b2 4 (.int .i64 (max n 1:Nat)) j (aL (Value.int .i64) (Fh n)) (bt 0 j j j (hv (max n 1) 1 (by omega) (by omega)) (tr (J:=3) j j j j (by decide) (by omega) (ao 1 j j ?_)))
 exact⟨j,j⟩
theorem zE{o:World}{n:Nat}(aP:n<=1000):Calls prog 202 #[.int .i64 n] o (aS λr w=>r= .int .i64 (h8 n)/\w=o):=by
 refine a1 [.int .i64 n] func202 ntmps202 results202 (bp 7 (xL aP) j (λa hw=>?_))
 subst hw
 refine bt 0 j j j (hv n (hy n) (by unfold hy;omega) (by omega)) (ao 1 j j ?_)
 exact⟨j,j⟩
abbrev ha(r:Nat)(v:Value)(b:Bool):List Chunk:=R r #[v,.bool b] 262
theorem Fy{o:World}{A:Option Addr}{aD:List UInt8}{c:Nat}(g:Rd o A (aE aD))(f:aD.length<=1000000000):
 Calls prog 151 #[.slice A aD.length c] o (aS λx w=>∃r v G,x=Z r/\hI v false (some aD) G/\C o [] [ha r v false,G] w):=by
 have a:Own [] o:=C.start o
 refine a1 [.slice A aD.length c] func151 ntmps151 results151 (bm 6 (gW g f) j (λr w⟨G,b,ad⟩=>?_))
 have a:=a.aN ad
 have e:=View.ofRow b
 obtain⟨g1,d,rfl,_⟩:=b.form
 refine cO (c:= #[.slice g1 aD.length d,.bool false]) j j j (λ_=>by kernel_rfl) (bP 0 a j j (λh w a=>ao 1 j j ?_))
 exact⟨_,_,G,j,⟨j,e⟩,a⟩
theorem m1{o:World}{r:Nat}{v0:Value}{cT:Bool}{G:List Chunk}(a:Own [ha r v0 cT,G] o):
 Calls prog 152 #[Z r] o (aS λx w=>x= .tuple #[]/\C o (av [ha r v0 cT,G]) [ha r (.slice none 0 0) true,G] w):=by
 refine a1 [Z r] func152 ntmps152 results152 ?_
 refine dD 10 a j j j j (λw a=>?_)
 refine dD 2 a j j j j (λw a=>?_)
 refine ao 0 j j ?_
 exact⟨j,a⟩
theorem D1{o:World}{r:Nat}{v0:Value}{cT:Bool}{G:List Chunk}(a:Own [ha r v0 cT,G] o):
 Calls prog 153 #[Z r] o (aS λx w=>x= .bool (!cT)/\C o (av [ha r v0 cT,G]) [ha r v0 cT,G] w):=by
 refine a1 [Z r] func153 ntmps153 results153 (ar 8 j (b2 5 (.bool true) j (aL Value.bool (j)) ?_))
 refine au 3 j (aw (C.aj a) j) (ao 3 j j ?_)
 exact⟨j,a⟩
theorem AL{o:World}{r:Nat}{v0:Value}{cT:Bool}{G:List Chunk}{s:eb}(a:Own [ha r v0 cT,G] o)(b:hI v0 cT s G):
 Calls prog 89 #[Z r] o (aS λx w=>x= .bool (decide (s=some []))/\C o (av [ha r v0 cT,G]) [ha r v0 cT,G] w):=by
 obtain⟨A,c,rfl,e⟩:=b.2
 have d:=b.1
 refine a1 [Z r] func89 ntmps89 results89 (bp 6 (D1 a.cE) j (λw ad=>?_))
 have a:=a.cD ad
 refine ar 1 j (c7 5 j (λge=>?_) (λge=>?_))
 .skip
  refine au 3 j (aw (C.aj a) j) (ao 4 j j (⟨aL Value.bool ?_,a⟩))
  cases s with
  |none=>simp [d] at ge
  |some l=>
   cases l<;>simp [eb.left]
   omega
 .skip
  refine ao 8 j j (⟨aL Value.bool ?_,a⟩)
  cases s with
  |none=>simp
  |some l=>simp [d] at ge
theorem GP{o:World}{r:Nat}{v0:Value}{cT:Bool}{G:List Chunk}{s:eb}{n:Int}(a:Own [ha r v0 cT,G] o)(g:hI v0 cT s G)(H:s.left.length<=1000000000):
 Calls prog 240 #[Z r,.int .i64 n] o (aS λx w=>∃v b d,dN x (iI s n).1 d/\hI v b (iI s n).2 G/\C o (av [ha r v0 cT,G]) [d,ha r v b,G] w):=by
 obtain⟨A,c,rfl,p⟩:=g.2
 have q:=g.1
 refine a1 [Z r,.int .i64 n] func240 ntmps240 results240 (ar 9 j (b2 8 (.bool false) j (aL Value.bool (j)) ?_))
 refine ar 4 j (c7 12 j (λe=>?_) (λe=>?_))
 .skip
  refine bm 12 (m1 a.cE) j (λx w⟨D,ad⟩=>?_)
  have a:=a.cD ad
  refine ao 3 j j ?_
  have a:=a.empty
  have he:iI s n=([],none):=by
   cases s with
   |none=>rfl
   |some l=>
    unfold iI
    dsimp only
    rw [a6]
    first
     |exact .inl (br e)
     |exact .inr (br f)
  rw [he]
  exact⟨_,_,[],Row.nil _ _,hI.bad G,a⟩
 .skip
  refine au 4 j (aw (C.aj a) j) (aT 3 j j (λf=>?_) (λf=>?_))
  .skip
   refine bm 3 (m1 a.cE) j (λx w⟨D,ad⟩=>?_)
   have a:=a.cD ad
   refine ao 3 j j ?_
   have a:=a.empty
   have he:iI s n=([],none):=by
    cases s with
    |none=>rfl
    |some l=>
     unfold iI
     dsimp only
     rw [a6]
     first
      |exact .inl (br e)
      |exact .inr (br f)
   rw [he]
   exact⟨_,_,[],Row.nil _ _,hI.bad G,a⟩
  .skip
   have I:0<=n:=by have:=bw e;omega
   have i:n<=s.left.length:=by have:=bw f;omega
   refine au 6 j (aw (C.aj a) j) ?_
   obtain⟨E,F,B⟩:=p
   obtain⟨k,rfl⟩:∃k:Nat,n=k:=⟨n.toNat,by omega⟩
   have u:k<=s.left.length:=by omega
   refine ar 1 j (rc j j j j (by omega) ?_)
   obtain⟨y,J⟩:=B _ _ _ _ a.f1
   have z:Rd o A (aE (s.left.take k)):=by rw [xa];exact y.take k
   have hlen:(s.left.take k).length=k:=by rw [hi];omega
   have h:=gW (c:=c) z (by omega)
   rw [hlen] at h
   refine bm 0 h j (λx w⟨d,m,ad⟩=>?_)
   have a:=(a.aN ad).f1
   refine au 7 j (aw (C.aj a) j) (ar 1 j (n9 j j j j (by omega) ?_))
   refine dD 2 a j j j j (λw a=>ao 4 j j (⟨_,_,d,?_,?_,a.f1⟩))
   .have he:(iI s k).1=s.left.take k:=by
     cases s with
     |none=>rw [show eb.left none=[] from j];simp [iI]
     |some l=>unfold iI;dsimp only;rw [if_neg (by simp only [eb.left,Option.getD_some] at i;omega)];simp [eb.left]
    rw [he]
    exact m
   .have he:(iI s k).2=s.map (·.drop k):=by
     cases s with
     |none=>rfl
     |some l=>unfold iI;dsimp only;rw [if_neg (by simp only [eb.left,Option.getD_some] at i;omega)];simp
    have t:(iI s k).2.left=s.left.drop k:=by
     rw [he];cases s<;>simp [eb.left]
    refine⟨by rw [q,he];cases s<;>rfl,?_⟩
    rw [t]
    exact g.2.drop u
theorem eC{o:World}{r:Nat}{v0:Value}{cT:Bool}{G:List Chunk}{s:eb}(a:Own [ha r v0 cT,G] o)(t:hI v0 cT s G)(T:s.left.length<=1000000000):
 Calls prog 88 #[Z r] o (aS λx w=>x= .int .i64 ((d9 s).1:Nat)/\∃v b,hI v b (d9 s).2 G/\C o (av [ha r v0 cT,G]) [ha r v b,G] w):=by
 obtain⟨A,c,rfl,I⟩:=t.2
 have H:=t.1
 refine a1 [Z r] func88 ntmps88 results88 (au 19 j (aw (C.aj a) j) ?_)
 refine cY 3 j (cA:=Nat×Nat) (λi=>[(0,Z r),(11,.slice A s.left.length c),(12,.int .i64 (s.left.length:Nat)),(13,.int .i64 (i.1:Nat)),(3,.int .u64 (i.2:Nat))])
  (λi w=>i.1<=s.left.length/\i.1<=9/\i.2<128^i.1/\dec s.left=lE i.1 i.2 (s.left.drop i.1)/\C o (av [ha r (.slice A s.left.length c) cT,G]) [ha r (.slice A s.left.length c) cT,G] w) (λi=>s.left.length-i.1) (0,0)
  ⟨j,j,j,j,j,ba⟩ ⟨ch _,ch _,by simp,j,a⟩ ?_
 rintro⟨i,u⟩ w ⟨K,M,hu,d,a⟩
 dsimp only at K M hu d a⊢
 refine aT 4 j j (λB=>?_) (λB=>?_)
 .skip
  have e:i<s.left.length:=by have:=br B;omega
  obtain⟨R,S,O⟩:=I
  obtain⟨N,U⟩:=O _ _ _ _ a.f1
  refine ar 6 j (fL j j j j N (v:=bv s.left[i]) (w9 (by simp [e])) e (λP Q J=>?_))
  refine au 0 j J (ar 8 j (c7 20 j (λq=>?_) (λq=>?_)))
  .skip
   have n:s.left.drop i=s.left[i]::s.left.drop (i+1):=kg e
   rw [n,lF] at d
   have g:dec s.left=none:=by rw [d,a6 (.inl (by have:=br q;omega))]
   refine bm 12 (m1 a.cE) j (λx w⟨z,ad⟩=>?_)
   have a:=a.cD ad
   refine ao 3 j j ?_
   rw [qG g]
   exact⟨j,_,_,hI.bad G,a⟩
  .skip
   refine ar 3 j (c7 23 j (λp=>?_) (λp=>?_))
   .skip
    refine aT 4 j j (λk=>?_) (λk=>?_)
    .skip
     have n:s.left.drop i=s.left[i]::s.left.drop (i+1):=kg e
     rw [n,lF] at d
     have g:dec s.left=none:=by
      rw [d,a6 (.inr ⟨by have:=br p;omega,CG (x:=s.left[i]) (y:=0) (by simpa using k)⟩)]
     refine bm 4 (m1 a.cE) j (λx w⟨z,ad⟩=>?_)
     have a:=a.cD ad
     refine ao 3 j j ?_
     rw [qG g]
     exact⟨j,_,_,hI.bad G,a⟩
    .skip
     have L:i<=8:=by have:=bw q;omega
     refine bt 5 j j j (xH _) (hF j j j (m3 _ (by omega)) (bt 1 j j j (yX i (by omega)) (i9 j j j j (by omega) (Aa _ i (jx _ (by decide)) (by omega)) (bt 0 j j j (zj u _ i hu (jx _ (by decide)) (by omega)) (aT 5 j j (λf=>?_) (λf=>?_))))))
     .skip
      refine aT 5 j j (λm=>?_) (λm=>?_)
      .skip
       have n:s.left.drop i=s.left[i]::s.left.drop (i+1):=kg e
       rw [n,lF] at d
       have g:dec s.left=none:=by
        rw [d]
        split
        .rfl
        .rw [a6 (by have:=br f;omega),a6 (by have:=br m;omega)]
       refine bm 4 (m1 a.cE) j (λx w⟨z,ad⟩=>?_)
       have a:=a.cD ad
       refine ao 3 j j ?_
       rw [qG g]
       exact⟨j,_,_,hI.bad G,a⟩
      .skip
       have hle:=bw m
       refine au 7 j (aw (C.aj a) j) (bt 1 j j j (c2 i (by omega)) (n9 j j j j (by omega) (dD 2 a j j j j (λw a=>ar 3 j (hF j j j (xm _ (by omega)) ?_)))))
       refine ao 1 j j ?_
       have F:dec s.left=some (u+s.left[i].toNat%128*128^i,s.left.drop (i+1)):=by
        rw [d,kg e,lF,aF,a6 (by have:=br f;omega),aF (by omega)]
        rintro(h|⟨D,E⟩)
        .omega
        .first
          |(have:=bw p;omega)
          |(rw [E] at k;exact absurd k (by decide))
       rw [zT F]
       refine⟨j,_,_,⟨?_,t.2.drop e⟩,a⟩
       rw [H]
       cases s with
       |none=>simp [eb.left] at e
       |some l=>rfl
     .skip
      refine bt 2 j j j (c2 i (by omega)) (bX 1 j (⟨(i+1,u+s.left[i].toNat%128*128^i),⟨j,j,j,j,j,ba⟩,⟨e,by dsimp only;omega,?_,?_,a⟩,by dsimp only;omega⟩))
      .dsimp only
       rw [Nat.pow_succ]
       have D:s.left[i].toNat%128*128^i<=127*128^i:=ke _ (by omega)
       omega
      .rw [kg e,lF,aF,aF (by have:=bw f;omega)] at d
       .exact d
       .rintro(h|⟨_,h⟩)
        .omega
        .rw [h] at k;exact absurd k (by decide)
   .skip
    have L:i<=8:=by have:=bw q;omega
    refine bt 10 j j j (xH _) (hF j j j (m3 _ (by omega)) (bt 1 j j j (yX i (by omega)) (i9 j j j j (by omega) (Aa _ i (jx _ (by decide)) (by omega)) (bt 0 j j j (zj u _ i hu (jx _ (by decide)) (by omega)) (aT 5 j j (λf=>?_) (λf=>?_))))))
    .skip
     refine aT 5 j j (λm=>?_) (λm=>?_)
     .skip
      have n:s.left.drop i=s.left[i]::s.left.drop (i+1):=kg e
      rw [n,lF] at d
      have g:dec s.left=none:=by
       rw [d]
       split
       .rfl
       .rw [a6 (by have:=br f;omega),a6 (by have:=br m;omega)]
      refine bm 4 (m1 a.cE) j (λx w⟨z,ad⟩=>?_)
      have a:=a.cD ad
      refine ao 3 j j ?_
      rw [qG g]
      exact⟨j,_,_,hI.bad G,a⟩
     .skip
      have hle:=bw m
      refine au 7 j (aw (C.aj a) j) (bt 1 j j j (c2 i (by omega)) (n9 j j j j (by omega) (dD 2 a j j j j (λw a=>ar 3 j (hF j j j (xm _ (by omega)) ?_)))))
      refine ao 1 j j ?_
      have F:dec s.left=some (u+s.left[i].toNat%128*128^i,s.left.drop (i+1)):=by
       rw [d,kg e,lF,aF,a6 (by have:=br f;omega),aF (by omega)]
       rintro(h|⟨D,E⟩)
       .omega
       .first
         |(have:=bw p;omega)
         |(rw [E] at k;exact absurd k (by decide))
      rw [zT F]
      refine⟨j,_,_,⟨?_,t.2.drop e⟩,a⟩
      rw [H]
      cases s with
      |none=>simp [eb.left] at e
      |some l=>rfl
    .skip
     refine bt 2 j j j (c2 i (by omega)) (bX 1 j (⟨(i+1,u+s.left[i].toNat%128*128^i),⟨j,j,j,j,j,ba⟩,⟨e,by dsimp only;omega,?_,?_,a⟩,by dsimp only;omega⟩))
     .dsimp only
      rw [Nat.pow_succ]
      have D:s.left[i].toNat%128*128^i<=127*128^i:=ke _ (by omega)
      omega
     .rw [kg e,lF,aF,aF (by have:=bw f;omega)] at d
      .exact d
      .rintro(h|⟨h,_⟩)
       .omega
       .have:=bw p;omega
 .skip
  have g:dec s.left=none:=by
   rw [d,List.drop_eq_nil_of_le (by have:=bw B;omega)];rfl
  refine bm 4 (m1 a.cE) j (λx w⟨z,ad⟩=>?_)
  have a:=a.cD ad
  refine ao 3 j j ?_
  rw [qG g]
  exact⟨j,_,_,hI.bad G,a⟩
def fO(n a b:Int):Bool:=decide (a<=n/\n<=b)
def j2(p e t:Int):Bool:=fO p 0 7&&fO e 0 100&&fO t 0 100
def iZ(k p e t:Int):Bool:=fO k 1 3&&j2 p e t&&(k !=1||t==0)
abbrev sf(k p e t:Int):Value:=.agg #[ab k,ab p,ab e,ab t]
theorem iV{o:World}{n a b:Int}:Calls prog 127 #[.int .i64 n,.int .i64 a,.int .i64 b] o (aS λr w=>r= .bool (fO n a b)/\C o [] [] w):=by
 have d:Own [] o:=C.start o
 refine a1 [.int .i64 n,.int .i64 a,.int .i64 b] func127 ntmps127 results127 (ar 9 j (c7 10 j (λc=>?_) (λc=>?_)))
 .refine ao 5 j j (⟨aL Value.bool ?_,d⟩)
  have h:=br c
  unfold fO
  rw [oh]
  omega
 refine ao 5 j j (⟨aL Value.bool ?_,d⟩)
 have h:=bw c
 unfold fO
 symm
 rw [rj]
 omega
theorem yn{o:World}{p e t:Int}:Calls prog 128 #[.int .i64 p,.int .i64 e,.int .i64 t] o (aS λr w=>r= .bool (j2 p e t)/\C o [] [] w):=by
 have c:Own [] o:=C.start o
 refine a1 [.int .i64 p,.int .i64 e,.int .i64 t] func128 ntmps128 results128 ?_
 have d:=iV (o:=o) (n:=p) (a:=0) (b:=7)
 refine bp 6 d j (λw ad=>?_)
 have c:=c.aN ad
 refine ar 1 j (c7 9 j (λg=>?_) (λg=>?_))
 .have d:=iV (o:=w) (n:=e) (a:=0) (b:=100)
  refine bp 1 d j (λw ad=>?_)
  have c:=c.aN ad
  refine ar 2 j (c7 13 j (λf=>?_) (λf=>?_))
  .have d:=iV (o:=w) (n:=t) (a:=0) (b:=100)
   refine bp 1 d j (λw ad=>?_)
   have c:=c.aN ad
   refine ao 2 j j (⟨aL Value.bool ?_,c⟩)
   unfold j2
   simp_all
  refine ao 4 j j (⟨aL Value.bool ?_,c⟩)
  unfold j2
  simp_all
 refine ar 4 j (b2 13 (.bool false) j (aL Value.bool (j)) ?_)
 refine ao 4 j j (⟨aL Value.bool ?_,c⟩)
 unfold j2
 simp_all
theorem yl{o:World}{k p e t:Int}:Calls prog 90 #[sf k p e t] o (aS λr w=>r= .bool (iZ k p e t)/\C o [] [] w):=by
 have c:Own [] o:=C.start o
 refine a1 [sf k p e t] func90 ntmps90 results90 (bP 2 c j j (λax w c=>au 4 j (aw (C.aj c) j) ?_))
 have d:=iV (o:=w) (n:=k) (a:=1) (b:=3)
 refine bp 0 d j (λw ad=>?_)
 have c:=c.aN ad
 refine ar 1 j (c7 6 j (λeV=>?_) (λeV=>?_))
 refine au 1 j (aw (C.aj c) j) (au 1 j (aw (C.aj c) j) (au 1 j (aw (C.aj c) j) ?_))
 have d:=yn (o:=w) (p:=p) (e:=e) (t:=t)
 refine bp 0 d j (λw ad=>?_)
 have c:=c.aN ad
 refine ar 2 j (c7 15 j (λf=>?_) (λf=>?_))
 .refine au 1 j (aw (C.aj c) j) (ar 2 j (c7 19 j (λg=>?_) (λg=>?_)))
  .refine ao 6 j j (⟨aL Value.bool ?_,c.bare⟩)
   unfold iZ
   simp_all
  refine au 1 j (aw (C.aj c) j) (ao 4 j j (⟨aL Value.bool ?_,c.bare⟩))
  unfold iZ
  simp_all
 rotate_left
 refine ar 9 j (b2 15 (.bool false) j (aL Value.bool (j)) ?_)
 rotate_left
 all_goals
  refine ao 10 j j (⟨aL Value.bool ?_,c.bare⟩)
  unfold iZ
  simp_all
theorem ur{o:World}{k p e t:Int}:Calls prog 154 #[sf k p e t] o (aS λr w=>∃v G,r= .tuple #[v,.int .i64 (if iZ k p e t then 0 else 1)]/\dN v (if iZ k p e t then et [3,k,p,e,t] else []) G/\C o [] [G] w):=by
 have a:Own [] o:=C.start o
 refine a1 [sf k p e t] func154 ntmps154 results154 ?_
 refine bP 2 a j j (λax w a=>?_)
 refine bS 5 j j j a.bN ?_
 have d:=yl (o:=w) (k:=k) (p:=p) (e:=e) (t:=t)
 refine bp 0 d j (λw ad=>?_)
 have a:=a.aN ad
 refine aT 1 j j (λdw=>?_) (λdw=>?_)
 .refine ao 4 j j ?_
  have hm:iZ k p e t=false:=by simpa using dw
  rw [hm]
  exact⟨_,[],j,Row.nil _ _,a.bare.empty⟩
 refine cn 3 a j (λf w a=>?_)
 have a:=a.f1
 refine au 3 j (aw (C.aj a) j) ?_
 refine au 1 j (aw (C.aj a) j) ?_
 refine au 1 j (aw (C.aj a) j) ?_
 refine au 1 j (aw (C.aj a) j) ?_
 refine fe a j j j j j j bR (λh w a=>?_)
 have a:C o [] [[(h,_)],_,eZ f (.slice none 0 0)] w:=a
 have aP:=a.bN
 have l:=a.iS (off:=0) (sp:=none) (U:=[3,k,p,e,t].map ab)
 have a:=a.f2.empty.f1
 have d:=ld (aD:=[]) (dB:=[3,k,p,e,t]) (c:=5) a.cE (Row.nil _ _) aP (l.kR (by simp) (λb m=>fB (fs:=[eZ f (.slice none 0 0)]) (by simp) b (by simpa [av] using m))) (by simp)
 refine bp 0 d j (λw⟨v,ak,g,ad⟩=>?_)
 have a:=a.cD ad
 rw [kB] at g
 have d:=qw a.cE g (by have:=gq [3,k,p,e,t];simp only [ep,ga] at this;omega)
 refine bm 2 d j (λr w⟨G,i,ad⟩=>?_)
 have a:=(a.cD ad).h3
 refine ao 2 j j ?_
 have hm:iZ k p e t=true:=by simpa using dw
 rw [hm]
 exact⟨_,G,j,i,a⟩
theorem vI(s:eb)(a:s.left.length<=1000000000):(d9 s).2.left.length<=1000000000:=by
 have key:∀(l:List UInt8)(i u:Nat)(x:Nat×List UInt8),lE i u l=some x->x.2.length<=l.length:=by
  intro l
  induction l with
  |nil=>intro i u x h;simp [lE] at h
  |cons c r d=>
   intro i u x h
   rw [lF] at h
   split at h
   .cases h
   .split at h
    .split at h
     .cases h
     .cases h;simp
    .have:=d _ _ _ h;simp only [ep];omega
 cases s with
 |none=>exact a
 |some l=>
  unfold d9
  dsimp only
  cases b:dec l with
  |none=>simp [eb.left]
  |some x=>
   obtain⟨u,r⟩:=x
   have:=key l 0 0 (u,r) b
   dsimp only at this
   simp only [eb.left,l1] at a⊢
   omega
def b3(aD:List UInt8)(k:Int):eb:=if((d9 (some aD)).1:Int)=k then(d9 (some aD)).2 else none
def e3(s:eb):Nat->eb
 |0=>s
 |n+1=>(d9 (e3 s n)).2
theorem eS(s:eb)(a:s.left.length<=1000000000):∀n,(e3 s n).left.length<=1000000000
 |0=>a
 |n+1=>vI _ (eS s a n)
theorem w5{o:World}{A:Option Addr}{aD:List UInt8}{c:Nat}{k:Int}(l:Rd o A (aE aD))(f:aD.length<=1000000000):
 Calls prog 87 #[.slice A aD.length c,.int .i64 k] o (aS λx w=>∃r v b G,x=Z r/\hI v b (b3 aD k) G/\C o [] [ha r v b,G] w):=by
 have a:Own [] o:=C.start o
 refine a1 [.slice A aD.length c,.int .i64 k] func87 ntmps87 results87 ?_
 have d:=Fy (c:=c) l f
 refine bm 6 d j (λr w⟨r,v,G,m,g,ad⟩=>?_)
 subst m
 have a:=a.aN ad
 have d:=eC a.cE g (show(eb.left (some aD)).length<=1000000000 from f)
 refine bp 5 d j (λw⟨v1,ax,h,ad⟩=>?_)
 have a:=a.cD ad
 refine aT 2 j j (λe=>?_) (λe=>?_)
 .skip
  have d:=m1 a.cE
  refine bp 2 d j (λw ad=>?_)
  have a:=a.cD ad
  refine ao 4 j j ?_
  have i:¬((d9 (some aD)).1:Int)=k:=by simpa using e
  refine⟨_,_,_,G,j,?_,a⟩
  unfold b3
  rw [aF i]
  exact hI.bad G
 .skip
  refine ao 5 j j ?_
  have he:((d9 (some aD)).1:Int)=k:=by simpa using e
  refine⟨_,_,_,G,j,?_,a⟩
  unfold b3
  rw [a6 he]
  exact h
theorem uc{o:World}{a:Nat}{v0:Value}{e:List Chunk}{aD:List UInt8}{A:Option Addr}{rows:List (List UInt8)}{c:Nat}
 (b:Own [eZ a v0,e] o) (d:dN v0 aD e) (n:kV o A rows (av [eZ a v0,e])) (D:aD.length+i6 rows<=100000000):
 Calls prog 71 #[Z a,.slice A rows.length c] o (aS λr w=>r= .tuple #[]/\∃v ak,dN v (aD++jC rows) ak/\C o (av [eZ a v0,e]) [eZ a v,ak] w):=by
 refine a1 [Z a,.slice A rows.length c] func71 ntmps71 results71 ?_
 refine cY 6 j (cA:=Nat×Value×List Chunk)
  (λi=>[(0,Z a),(6,.slice A rows.length c),(7,.int .i64 (rows.length:Nat)),(8,.int .i64 (i.1:Nat))])
  (λi w=>i.1<=rows.length/\dN i.2.1 (aD++jC (rows.take i.1)) i.2.2/\C o (av [eZ a v0,e]) [eZ a i.2.1,i.2.2] w)
  (λi=>rows.length-i.1) (0,v0,e) ⟨j,j,j,j,ba⟩ ⟨ch _,by simpa [jC] using d,b⟩ ?_
 rintro⟨J,v,ak⟩ w ⟨k,d,b⟩
 dsimp only at k d b⊢
 refine aT 4 j j (λg=>?_) (λg=>?_)
 .skip
  have f:J<rows.length:=by have:=br g;omega
  obtain⟨U,x,ci,p,q,s,t,u⟩:=n.at J f
  have F:=Is rows J f
  have E:=Ir rows
  have G:=Dr (rows.take J) (by omega)
  refine ar 5 j (fL j j j j (b.rd p q) (by simpa using s) f (λy B h=>?_))
  refine au 0 j h ?_
  refine ar 6 j (fe b j j j j j j bR (λz w b=>?_))
  have aP:=b.bN
  have m:=b.iS (off:=0) (sp:=none) (U:=[ab ((rows[J].length:Nat):Int)])
  have b:=b.f2.f2
  refine bm 0 (ld (dB:=[((rows[J].length:Nat):Int)]) b.cE d aP m (by simp only [ca,List.length_cons,List.length_nil];omega)) j (λr w⟨_,v,ak,d,ad⟩=>?_)
  have b:=(b.cD ad).f2.drop
  refine bm 3 (qB (cR:=rows[J]) b.cE d (b.rd t u) (by have:=jB rows[J] (by omega);simp only [hs,et,jS,List.flatMap_nil,g6,xi _ (show rows[J].length<=4611686018427387904 by omega),ca] at*;omega)) j (λr w⟨_,v,ak,d,ad⟩=>?_)
  have b:=b.cD ad
  refine bt 1 j j j (c2 J (by omega)) ?_
  refine bX 1 j ?_
  refine⟨(J+1,v,ak),⟨j,j,j,j,ba⟩,⟨f,?_,b⟩,by dsimp only;omega⟩
  rw [Ds rows J f]
  simpa [hs,et,xi _ (show rows[J].length<=4611686018427387904 by omega)] using d
 .skip
  refine ao 1 j j ?_
  refine⟨j,v,ak,?_,b⟩
  have l:J=rows.length:=by have:=bw g;omega
  subst l
  simpa using d
structure aG where
 k:Int
 s:Int
 v:Int
 sum:List UInt8
 f:Int
 tag:List UInt8
def aG.ok(x:aG):Prop:=x.sum.length=32/\x.tag.length=32
def aG.cs(x:aG):List Value:=ab x.k::ab x.s::ab x.v::(aE x.sum++ab x.f::aE x.tag)
def aG.kJ(x:aG):List UInt8:=et [x.k,x.s,x.v]++(x.sum++(et [x.f]++x.tag))
def aG.lN(x:aG):List UInt8:=et [5,x.k,x.s,x.v]++(x.sum++et [x.f])
def jp(l:List aG):List UInt8:=et [(l.length:Int)]++l.flatMap aG.kJ
theorem aG.gU(x:aG):x.cs.toArray[0]? =some (ab x.k):=by simp [aG.cs]
theorem aG.aZ(x:aG):x.cs.toArray[1]? =some (ab x.s):=by simp [aG.cs]
theorem aG.dn(x:aG):x.cs.toArray[2]? =some (ab x.v):=by simp [aG.cs]
theorem aG.eM(x:aG)(h:x.ok):x.cs.toArray[35]? =some (ab x.f):=by
 have a:=h.1
 simp only [aG.cs,mY,nF]
 rw [jy (by simp [a])]
 simp [a]
theorem aG.len(x:aG)(h:x.ok):x.cs.length=68:=by simp [aG.cs,h.1,h.2]
theorem aG.p7(x:aG)(h:x.ok):∀i v,(aE x.sum)[i]? =some v->x.cs.toArray[0+3+i]? =some v:=λi v a=>by
 have b:i<(aE x.sum).length:=(fa.1 a).1
 rw [show 0+3+i=i+1+1+1 by omega]
 simp only [aG.cs,mY,nF]
 rw [iz b]
 exact a
theorem aG.rP(x:aG)(h:x.ok):∀i v,(aE x.tag)[i]? =some v->x.cs.toArray[0+36+i]? =some v:=λi v b=>by
 have a:=h.1
 rw [show 0+36+i=(i+33)+1+1+1 by omega]
 simp only [aG.cs,mY,nF]
 rw [jy (by simp [a])]
 simp only [ds,a]
 rw [show i+33-32=i+1 by omega,nF]
 exact b
theorem aG.one(x:aG):x.cs.all (·.oneCell')=true:=by
 simp only [aG.cs,List.all_cons,List.all_append,Bool.and_eq_true,List.all_eq_true]
 exact⟨j,j,j,λv a=>fH _ v a,j,λv a=>fH _ v a⟩
theorem EM(x:aG)(h:x.ok):x.kJ.length<=200:=by
 have a:=gq [x.k,x.s,x.v]
 have b:=gq [x.f]
 simp only [ep,ga] at a b
 simp only [aG.kJ,ca,h.1,h.2]
 omega
theorem EL{o:World}{a:Nat}{v0:Value}{l:List Chunk}{aD:List UInt8}{x:aG}(b:Own [eZ a v0,l] o)(d:dN v0 aD l)(h:x.ok)(z:aD.length<=100000000):
 Calls prog 150 #[Z a,.agg x.cs.toArray] o (aS λr w=>r= .tuple #[]/\∃v ak,dN v (aD++x.kJ) ak/\C o (av [eZ a v0,l]) [eZ a v,ak] w):=by
 refine a1 [Z a,.agg x.cs.toArray] func150 ntmps150 results150 ?_
 refine bP 2 b j j (λy w b=>?_)
 refine au 4 j (b.cell x.gU) ?_
 refine au 1 j (b.cell x.aZ) ?_
 refine au 1 j (b.cell x.dn) ?_
 refine fe b j j j j j j bR (λt w b=>?_)
 have aP:=b.bN
 have m:=b.iS (off:=0) (sp:=none) (U:=[x.k,x.s,x.v].map ab)
 have b:=b.f2.f3.f1
 have g:=ld (dB:=[x.k,x.s,x.v]) (c:=3) b.cE d aP (m.kR (by simp) (fB (by simp))) (by simp;omega)
 refine bp 0 g j (λw⟨v1,i,d,ad⟩=>?_)
 have b:=b.cD ad
 have q:=gq [x.k,x.s,x.v]
 have p:=gq [x.f]
 simp only [ep,ga] at q p
 refine ar 4 j (mI j j j ?_)
 have n:=b.f3.i3 (off:=0+3) (U:=aE x.sum) (x.p7 h)
 have g:=qB (c:=32) b.cE d n (by rw [ca,h.1];omega)
 rw [h.1] at g
 refine bp 0 g j (λw⟨v1,i,d,ad⟩=>?_)
 have b:=b.cD ad
 refine au 4 j (b.f3.cell (x.eM h)) ?_
 refine fe b j j j j j j bR (λu w b=>?_)
 have aP:=b.bN
 have m:=b.iS (off:=0) (sp:=none) (U:=[x.f].map ab)
 have b:=b.f1.f2.f1
 have g:=ld (dB:=[x.f]) (c:=1) b.cE d aP (m.kR (by simp) (fB (by simp))) (by simp [h.1];omega)
 refine bp 0 g j (λw⟨v1,i,d,ad⟩=>?_)
 have b:=b.cD ad
 refine ar 3 j (mI j j j ?_)
 have n:=b.f4.i3 (off:=0+36) (U:=aE x.tag) (x.rP h)
 have g:=qB (c:=32) b.cE d n (by simp only [ca,h.1,h.2];omega)
 rw [h.2] at g
 refine bp 0 g j (λw⟨v1,i,d,ad⟩=>?_)
 have b:=b.cD ad
 refine ao 0 j j ?_
 refine⟨j,v1,i,?_,b.kH⟩
 have e:aD++x.kJ=aD++et [x.k,x.s,x.v]++x.sum++et [x.f]++x.tag:=by simp [aG.kJ,dH]
 rw [e]
 exact d
theorem vV:∀(l:List aG),(∀x∈l,x.ok)->∀(i:Nat)(a:i<l.length),((l.flatMap aG.cs).drop (i*68)).take 68=l[i].cs
 |[],_,i,a=>by simp at a
 |x::r,h,0,_=>by
  have b:=x.len (h x (by simp))
  rw [od,List.drop_zero,jS,List.take_append_of_le_length (by omega),il (by omega)]
  rfl
 |x::r,h,i+1,a=>by
  have b:=x.len (h x (by simp))
  have d:=vV r (λy c=>h y (by simp [c])) i (by simpa using a)
  rw [jS,show(i+1)*68=x.cs.length+i*68 by rw [b];omega,List.drop_append]
  rw [tz (by omega),kB,show x.cs.length+i*68-x.cs.length=i*68 by omega]
  exact d
theorem pf(l:List aG)(h:∀x∈l,x.ok)(i:Nat)(c:i<l.length):(l.flatMap aG.cs)[i*68]? =some (ab l[i].k):=by
 have b:=vV l h i c
 have a:=aL (λz=>z[0]?) b
 simp only [jw,lx] at a
 simpa [aG.cs] using a
theorem pg{w:World}{a:Addr}{l:List aG}(d:Rd w (some a) (l.flatMap aG.cs))(h:∀x∈l,x.ok)(i:Nat)(c:i<l.length):Rd w (some (a.add (i*68))) l[i].cs:=by
 have b:=(d.drop (i*68)).take 68
 rw [vV l h i c] at b
 exact b
theorem yu(l:List aG)(h:∀x∈l,x.ok)(i:Nat):((l.take i).flatMap aG.kJ).length<=200*i:=by
 induction i with
 |zero=>simp
 |succ i b=>
  by_cases a:i<l.length
  .rw [fF a,nA,List.length_append]
   have:=EM l[i] (h _ (ek a))
   simp only [jS,List.flatMap_nil,g6]
   omega
  .rw [il (by omega)] at b⊢
   omega
theorem zU{o:World}{a:Nat}{v0:Value}{h:List Chunk}{aD:List UInt8}{B:Option Addr}{l:List aG}{d:Nat}(b:Own [eZ a v0,h] o)(f:dN v0 aD h)(F:Rd o B (l.flatMap aG.cs))(y:bU B (l.flatMap aG.cs) (av [eZ a v0,h]))(p:∀x∈l,x.ok)(M:l.length<=1000)(K:aD.length<=1000000):
 Calls prog 149 #[Z a,.func (.func 150) #[] #[],.slice B l.length d] o (aS λr w=>r= .tuple #[]/\∃v ak,dN v (aD++jp l) ak/\C o (av [eZ a v0,h]) [eZ a v,ak] w):=by
 refine a1 [Z a,.func (.func 150) #[] #[],.slice B l.length d] func149 ntmps149 results149 ?_
 refine ar 5 j (fe b j j j j j j bR (λI w b=>?_))
 have aP:=b.bN
 have z:=b.iS (off:=0) (sp:=none) (U:=[(l.length:Int)].map ab)
 have b:=b.f1.f2.f1
 have s:=ld (dB:=[(l.length:Int)]) (c:=1) b.cE f aP (z.kR (by simp) (fB (by simp))) (by simp;omega)
 refine bp 0 s j (λw⟨v1,m,f,ad⟩=>?_)
 have b:=(b.cD ad).kH
 have E:=gq [(l.length:Int)]
 simp only [ep,ga] at E
 refine cY 6 j (cA:=Nat×Value×List Chunk) (λi=>[(0,Z a),(1,.func (.func 150) #[] #[]),(13,.slice B l.length d),(14,.int .i64 (l.length:Nat)),(15,.int .i64 (i.1:Nat))])
  (λi w=>i.1<=l.length/\dN i.2.1 (aD++et [(l.length:Int)]++(l.take i.1).flatMap aG.kJ) i.2.2/\C o (av [eZ a v0,h]) [eZ a i.2.1,i.2.2] w) (λi=>l.length-i.1) (0,v1,m) ⟨j,j,j,j,j,ba⟩ ⟨ch _,by simpa using f,b⟩ ?_
 rintro⟨i,v1,m⟩ w ⟨A,f,b⟩
 dsimp only at A f b⊢
 refine aT 4 j j (λq=>?_) (λq=>?_)
 .skip
  have g:i<l.length:=by have:=br q;omega
  have n:=p l[i] (ek g)
  have t:=b.rd F y
  have N:=yu l p i
  refine ar 5 j (fL j j j j t (v:=ab l[i].k) (pf l p i g) g (λH u L=>?_))
  subst u
  refine bS 0 j j (l[i].len n) (pg t p i g) ?_
  refine cn 0 b j (λJ w b=>?_)
  refine cp 0 b j j j l[i].one (l[i].len n) (λw b=>?_)
  have b:=C.whole (U:=l[i].cs) b (by rw [l[i].len n];rfl)
  refine bS 3 (U:=l[i].cs) j j (l[i].len n) b.bN ?_
  have b:=b.f1.f2.f1
  have s:=EL b.cE f n (by simp only [ca];omega)
  refine hE j j j j s (λr w⟨G,v1,m,f,ad⟩=>?_)
  subst G
  have b:=(b.cD ad).kH
  refine bt 1 j j j (c2 i (by omega)) ?_
  refine bX 1 j ?_
  refine⟨(i+1,v1,m),⟨j,j,j,j,j,ba⟩,⟨g,?_,b⟩,by dsimp only;omega⟩
  dsimp only
  have e:aD++et [(l.length:Int)]++(l.take (i+1)).flatMap aG.kJ=aD++et [(l.length:Int)]++(l.take i).flatMap aG.kJ++l[i].kJ:=by
   rw [fF g,nA]
   simp [dH]
  rw [e]
  exact f
 .skip
  refine ao 1 j j ?_
  have D:i=l.length:=by have:=bw q;omega
  rw [D,gy] at f
  refine⟨j,v1,m,?_,b⟩
  have e:aD++jp l=aD++et [(l.length:Int)]++l.flatMap aG.kJ:=by simp [jp,dH]
  rw [e]
  exact f
theorem AB{o:World}{x:aG}(h:x.ok):Calls prog 146 #[.agg x.cs.toArray] o (aS λr w=>∃G,dN r x.lN G/\C o [] [G] w):=by
 have a:Own [] o:=C.start o
 refine a1 [.agg x.cs.toArray] func146 ntmps146 results146 ?_
 refine bP 2 a j j (λax w a=>?_)
 refine cn 3 a j (λm w a=>?_)
 have a:C o [] (eZ m (.slice none 0 0)::_) w:=a
 refine au 3 j (a.f1.cell x.gU) ?_
 refine au 1 j (a.f1.cell x.aZ) ?_
 refine au 1 j (a.f1.cell x.dn) ?_
 refine fe a j j j j j j bR (λy w a=>?_)
 have aP:=a.bN
 have i:=a.iS (off:=0) (sp:=none) (U:=[5,x.k,x.s,x.v].map ab)
 have a:=a.f1.empty.f1
 have d:=ld (aD:=[]) (dB:=[5,x.k,x.s,x.v]) (c:=4) a.cE (Row.nil _ _) aP (i.kR (by simp) (λb p=>fB (fs:=[eZ m (.slice none 0 0)]) (by simp) b (by simpa [av] using p))) (by simp)
 refine bp 0 d j (λw⟨v1,l,g,ad⟩=>?_)
 have a:=a.cD ad
 rw [kB] at g
 have t:=gq [5,x.k,x.s,x.v]
 simp only [ep,ga] at t
 have q:=gq [x.f]
 simp only [ep,ga] at q
 refine ar 3 j (mI j j j ?_)
 have u:=a.f3.i3 (off:=0+3) (U:=aE x.sum) (x.p7 h)
 have d:=qB (c:=32) a.cE g u (by rw [h.1];omega)
 rw [h.1] at d
 refine bp 0 d j (λw⟨v1,l,g,ad⟩=>?_)
 have a:=a.cD ad
 refine au 3 j (a.f3.cell (x.eM h)) ?_
 refine fe a j j j j j j bR (λz w a=>?_)
 have aP:=a.bN
 have i:=a.iS (off:=0) (sp:=none) (U:=[x.f].map ab)
 have a:=a.f1.f2.f1
 have d:=ld (dB:=[x.f]) (c:=1) a.cE g aP (i.kR (by simp) (fB (by simp))) (by simp [h.1];omega)
 refine bp 0 d j (λw⟨v1,l,g,ad⟩=>?_)
 have a:=a.cD ad
 have d:=qw a.cE g (by simp only [ca,h.1];omega)
 refine bm 2 d j (λr w⟨G,n,ad⟩=>?_)
 have a:=(a.cD ad).h3
 refine ao 1 j j ?_
 refine⟨G,?_,a⟩
 have e:x.lN=et [5,x.k,x.s,x.v]++x.sum++et [x.f]:=by simp [aG.lN,dH]
 rw [e]
 exact n
structure aB where
 k:Int
 f:Int
 to:Int
 s:Int
 v:Int
 A:Option Addr
 x:List UInt8
 c:Nat
 B:Option Addr
 l:List aG
 d:Nat
 tag:List UInt8
def aB.cs(m:aB):List Value:=ab m.k::ab m.f::ab m.to::ab m.s::ab m.v:: .slice m.A m.x.length m.c:: .slice m.B m.l.length m.d::aE m.tag
structure aB.ok(m:aB)(w:World):Prop where
 x:Rd w m.A (aE m.x)
 l:Rd w m.B (m.l.flatMap aG.cs)
 aH:∀x∈m.l,x.ok
 tag:m.tag.length=32
def aB.body(m:aB):List UInt8:=et [4,m.k,m.f,m.s,m.v]++(hs m.x++jp m.l)
theorem aB.gU(m:aB):m.cs.toArray[0]? =some (ab m.k):=by simp [aB.cs]
theorem aB.aZ(m:aB):m.cs.toArray[1]? =some (ab m.f):=by simp [aB.cs]
theorem aB.dn(m:aB):m.cs.toArray[2]? =some (ab m.to):=by simp [aB.cs]
theorem aB.gC(m:aB):m.cs.toArray[3]? =some (ab m.s):=by simp [aB.cs]
theorem aB.fA(m:aB):m.cs.toArray[4]? =some (ab m.v):=by simp [aB.cs]
theorem aB.ge(m:aB):m.cs.toArray[5]? =some (.slice m.A m.x.length m.c):=by simp [aB.cs]
theorem aB.eV(m:aB):m.cs.toArray[6]? =some (.slice m.B m.l.length m.d):=by simp [aB.cs]
theorem aB.len(m:aB){w:World}(h:m.ok w):m.cs.length=39:=by simp [aB.cs,h.tag]
theorem aB.one(m:aB):m.cs.all (·.oneCell')=true:=by
 simp only [aB.cs,List.all_cons,d8,jQ]
 exact⟨j,j,j,j,j,j,j,λv a=>fH _ v a⟩
theorem aB.ok.st{m:aB}{o w:World}{ae:List (List Chunk)}(h:m.ok o)(a:C o [] ae w):m.ok w:=⟨a.rd h.x (bU.of_nil _ _),a.rd h.l (bU.of_nil _ _),h.aH,h.tag⟩
theorem lm(l:List aG)(h:∀x∈l,x.ok):(jp l).length<=9+200*l.length:=by
 have a:=gq [(l.length:Int)]
 have b:=yu l h l.length
 rw [gy] at b
 simp only [ep,ga] at a
 simp only [jp,ca]
 omega
theorem l7{o:World}{m:aB}(hm:m.ok o)(L:m.x.length<=10000)(E:m.l.length<=1000):Calls prog 86 #[.agg m.cs.toArray] o (aS λr w=>∃G,dN r m.body G/\C o [] [G] w):=by
 have a:Own [] o:=C.start o
 refine a1 [.agg m.cs.toArray] func86 ntmps86 results86 ?_
 refine bP 2 a j j (λax w a=>?_)
 refine cn 3 a j (λn w a=>?_)
 have a:C o [] (eZ n (.slice none 0 0)::_) w:=a
 refine au 3 j (a.f1.cell m.gU) ?_
 refine au 1 j (a.f1.cell m.aZ) ?_
 refine au 1 j (a.f1.cell m.gC) ?_
 refine au 1 j (a.f1.cell m.fA) ?_
 refine fe a j j j j j j bR (λI w a=>?_)
 have aP:=a.bN
 have t:=a.iS (off:=0) (sp:=none) (U:=[4,m.k,m.f,m.s,m.v].map ab)
 have a:=a.f1.empty.f1
 have h:=ld (aD:=[]) (dB:=[4,m.k,m.f,m.s,m.v]) (c:=5) a.cE (Row.nil _ _) aP (t.kR (by simp) (λb B=>fB (fs:=[eZ n (.slice none 0 0)]) (by simp) b (by simpa [av] using B))) (by simp)
 refine bp 0 h j (λw⟨v1,i,g,ad⟩=>?_)
 have a:=a.cD ad
 rw [kB] at g
 have F:=gq [4,m.k,m.f,m.s,m.v]
 simp only [ep,ga] at F
 refine au 3 j (a.f3.cell m.ge) ?_
 refine fe a j j j j j j bR (λp w a=>?_)
 have H:=a.bN
 have u:=a.iS (off:=0) (sp:=none) (U:=[.slice m.A m.x.length m.c])
 have a:=a.f1.f2.f1
 have z:=a.apart hm.x (bU.of_nil _ _)
 have D:kV w (some ⟨p,0,none⟩) [m.x] (av [eZ n v1,i]):=kV.one H j (u.sub (fB (by simp))) (a.rd hm.x (bU.of_nil _ _)) (z.sub (fB (by simp)))
 have h:=uc (c:=1) a.cE g D (by simp only [i6,jO,rk,List.sum_cons,List.sum_nil];omega)
 refine bp 0 h j (λw⟨v1,i,g,ad⟩=>?_)
 have a:=a.cD ad
 rw [show jC [m.x]=hs m.x from by simp [jC]] at g
 have J:=jB m.x (by omega)
 refine au 3 j (a.f4.cell m.eV) ?_
 have y:=a.apart hm.l (bU.of_nil _ _)
 have h:=zU (d:=m.d) a.cE g (a.rd hm.l (bU.of_nil _ _)) (y.sub (fB (by simp))) hm.aH E (by simp only [ca];omega)
 refine bp 0 h j (λw⟨v1,i,g,ad⟩=>?_)
 have a:=a.cD ad
 have K:=lm m.l hm.aH
 have h:=qw a.cE g (by simp only [ca];omega)
 refine bm 2 h j (λr w⟨G,q,ad⟩=>?_)
 have a:=(a.cD ad).h3
 refine ao 1 j j ?_
 refine⟨G,?_,a⟩
 have e:m.body=et [4,m.k,m.f,m.s,m.v]++hs m.x++jp m.l:=by simp [aB.body,dH]
 rw [e]
 exact q
abbrev h1(b:Nat)(g:List UInt8):List Chunk:=R b (aE g).toArray 66
theorem zI{o w:World}{F:List Nat}{ae:List (List Chunk)}{b:Nat}{U:List Value}{e:TypeId}(h:C o F ([(b,.cells U.toArray e (0,0))]::ae) w):Rd w (some ⟨b,0,none⟩) U:=h.bN
def i5(x:aG):Bool:=fO x.k 1 3&&fO x.s 0 63&&fO x.v 0 8&&fO x.f 0 9
def i1(m:aB):Bool:=fO m.k 1 6&&fO m.f 0 9&&fO m.to 0 9&&fO m.s 0 63&&fO m.v 0 8&&decide (m.x.length<=200)&&decide (m.l.length<=10)&&m.l.all i5
theorem BW(l:List aG)(i:Nat)(a:i<l.length):(l.take (i+1)).all i5=((l.take i).all i5&&i5 l[i]):=by
 rw [fF a,List.all_append]
 simp
theorem BX(l:List aG)(i:Nat)(b:i<l.length)(h:i5 l[i]=false):l.all i5=false:=by
 rw [<-Bool.not_eq_true,jQ]
 intro a
 rw [a _ (ek b)] at h
 cases h
theorem Es{o:World}{x:aG}(h:x.ok):Calls prog 248 #[.agg x.cs.toArray] o (aS λr w=>r= .bool (i5 x)/\C o [] [] w):=by
 have c:Own [] o:=C.start o
 refine a1 [.agg x.cs.toArray] func248 ntmps248 results248 (bP 2 c j j (λax w c=>au 4 j (c.cell x.gU) ?_))
 have d:=iV (o:=w) (n:=x.k) (a:=1) (b:=3)
 refine bp 0 d j (λw ad=>?_)
 have c:=c.aN ad
 refine ar 1 j (c7 6 j (λeV=>?_) (λeV=>?_))
 .refine au 1 j (c.cell x.aZ) ?_
  have d:=iV (o:=w) (n:=x.s) (a:=0) (b:=63)
  refine bp 0 d j (λw ad=>?_)
  have c:=c.aN ad
  refine ar 2 j (c7 11 j (λe=>?_) (λe=>?_))
  refine au 1 j (c.cell x.dn) ?_
  have d:=iV (o:=w) (n:=x.v) (a:=0) (b:=8)
  refine bp 0 d j (λw ad=>?_)
  have c:=c.aN ad
  refine ar 2 j (c7 16 j (λg=>?_) (λg=>?_))
  .refine au 1 j (c.cell (x.eM h)) ?_
   have d:=iV (o:=w) (n:=x.f) (a:=0) (b:=9)
   refine bp 0 d j (λw ad=>?_)
   have c:=c.aN ad
   refine ao 2 j j (⟨aL Value.bool ?_,c.bare⟩)
   unfold i5
   simp_all
  rotate_left
  refine ar 5 j (b2 16 (.bool false) j (aL Value.bool (j)) ?_)
  rotate_left
  all_goals
   refine ao 5 j j (⟨aL Value.bool ?_,c.bare⟩)
   unfold i5
   simp_all
 refine ar 5 j (b2 11 (.bool false) j (aL Value.bool (j)) ?_)
 refine ar 5 j (b2 16 (.bool false) j (aL Value.bool (j)) ?_)
 refine ao 5 j j (⟨aL Value.bool ?_,c.bare⟩)
 unfold i5
 simp_all
theorem Cl{o:World}{x:aG}(b:x.ok):Calls prog 247 #[.agg x.cs.toArray] o (aS λr w=>r= .bool (!i5 x)/\C o [] [] w):=by
 have a:Own [] o:=C.start o
 refine a1 [.agg x.cs.toArray] func247 ntmps247 results247 ?_
 refine bP 2 a j j (λax w a=>?_)
 refine bS 3 (U:=x.cs) j j (x.len b) (zI a) ?_
 have c:=Es (o:=w) b
 refine bp 0 c j (λw ad=>?_)
 have a:=a.aN ad
 refine ao 2 j j ?_
 exact⟨j,a.bare⟩
theorem Ed{o:World}{B:Option Addr}{l:List aG}{d:Nat}(t:Rd o B (l.flatMap aG.cs))(h:∀x∈l,x.ok)(E:l.length<=1000000):
 Calls prog 279 #[.slice B l.length d,.func (.func 247) #[] #[]] o (aS λr w=>(∃z:Int,r= .int .i64 z/\decide (z>=0)= !l.all i5)/\C o [] [] w):=by
 have a:Own [] o:=C.start o
 refine a1 [.slice B l.length d,.func (.func 247) #[] #[]] func279 ntmps279 results279 ?_
 refine cY 10 j (cA:=Nat) (λi=>[(0,.slice B l.length d),(1,.func (.func 247) #[] #[]),(7,.int .i64 (l.length:Nat)),(8,.int .i64 (i:Nat))])
  (λi w=>i<=l.length/\(l.take i).all i5=true/\C o [] [] w) (λi=>l.length-i) 0 ⟨j,j,j,j,ba⟩ ⟨ch _,j,a⟩ ?_
 rintro i w ⟨D,g,a⟩
 refine aT 4 j j (λe=>?_) (λe=>?_)
 .skip
  have b:i<l.length:=by have:=br e;omega
  have n:=h l[i] (ek b)
  have m:=a.rd t (bU.of_nil _ _)
  refine ar 12 j (fL j j j j m (v:=ab l[i].k) (pf l h i b) b (λy p A=>?_))
  subst p
  refine bS 0 j j (l[i].len n) (pg m h i b) ?_
  have q:=Cl (o:=w) n
  refine hE j j j j q (λr w⟨u,ad⟩=>?_)
  subst u
  have a:=a.aN ad
  refine aT 0 j j (λc=>?_) (λc=>?_)
  .skip
   refine ao 4 j j ?_
   have f:i5 l[i]=false:=by simpa using c
   refine⟨⟨_,j,?_⟩,a⟩
   rw [BX l i b f]
   simp
  .skip
   refine bt 2 j j j (c2 i (by omega)) (bX 1 j (⟨i+1,⟨j,j,j,j,ba⟩,⟨b,?_,a⟩,by omega⟩))
   have f:i5 l[i]=true:=by simpa using c
   rw [BW l i b,g,f]
   rfl
 .skip
  refine ao 4 j j ?_
  have s:i=l.length:=by have:=bw e;omega
  rw [s,gy] at g
  refine⟨⟨_,j,?_⟩,a⟩
  rw [g]
  rfl
theorem C5{o:World}{B:Option Addr}{l:List aG}{d:Nat}(e:Rd o B (l.flatMap aG.cs))(f:∀x∈l,x.ok)(c:l.length<=1000000):
 Calls prog 246 #[.slice B l.length d,.func (.func 247) #[] #[]] o (aS λr w=>r= .bool (!l.all i5)/\C o [] [] w):=by
 have a:Own [] o:=C.start o
 refine a1 [.slice B l.length d,.func (.func 247) #[] #[]] func246 ntmps246 results246 ?_
 have b:=Ed (d:=d) e f c
 refine bm 7 b j (λr w⟨⟨z,g,h⟩,ad⟩=>?_)
 subst g
 have a:=a.aN ad
 refine ao 2 j j ?_
 exact⟨aL Value.bool h,a⟩
theorem Em{o:World}{m:aB}(hm:m.ok o):Calls prog 197 #[.agg m.cs.toArray] o (aS λr w=>r= .bool (i1 m)/\C o [] [] w):=by
 have c:Own [] o:=C.start o
 refine a1 [.agg m.cs.toArray] func197 ntmps197 results197 (bP 2 c j j (λax w c=>au 4 j (c.cell m.gU) ?_))
 have e:=iV (o:=w) (n:=m.k) (a:=1) (b:=6)
 refine bp 0 e j (λw ad=>?_)
 have c:=c.aN ad
 refine ar 1 j (c7 6 j (λeV=>?_) (λeV=>?_))
 .refine au 1 j (c.cell m.aZ) ?_
  have e:=iV (o:=w) (n:=m.f) (a:=0) (b:=9)
  refine bp 0 e j (λw ad=>?_)
  have c:=c.aN ad
  refine ar 2 j (c7 11 j (λh=>?_) (λh=>?_))
  refine au 1 j (c.cell m.dn) ?_
  have e:=iV (o:=w) (n:=m.to) (a:=0) (b:=9)
  refine bp 0 e j (λw ad=>?_)
  have c:=c.aN ad
  refine ar 2 j (c7 16 j (λi=>?_) (λi=>?_))
  .refine au 1 j (c.cell m.gC) ?_
   have e:=iV (o:=w) (n:=m.s) (a:=0) (b:=63)
   refine bp 0 e j (λw ad=>?_)
   have c:=c.aN ad
   refine ar 2 j (c7 21 j (λp=>?_) (λp=>?_))
   refine au 1 j (c.cell m.fA) ?_
   have e:=iV (o:=w) (n:=m.v) (a:=0) (b:=8)
   refine bp 0 e j (λw ad=>?_)
   have c:=c.aN ad
   refine ar 2 j (c7 26 j (λq=>?_) (λq=>?_))
   .refine au 1 j (c.cell m.ge) (ar 4 j (c7 32 j (λt=>?_) (λt=>?_)))
    refine au 1 j (c.cell m.eV) (ar 4 j (c7 38 j (λg=>?_) (λg=>?_)))
    .refine au 1 j (c.cell m.eV) ?_
     have u:=br g
     have e:=C5 (d:=m.d) (hm.st c).l hm.aH (by omega)
     refine bp 0 e j (λw ad=>?_)
     have c:=c.aN ad
     refine ao 3 j j (⟨aL Value.bool ?_,c.bare⟩)
     unfold i1
     simp_all<;>omega
    rotate_left
    refine ar 6 j (b2 38 (.bool false) j (aL Value.bool (j)) ?_)
    rotate_left
    all_goals
     refine ao 6 j j (⟨aL Value.bool ?_,c.bare⟩)
     unfold i1
     simp_all<;>omega
   rotate_left
   refine ar 5 j (b2 26 (.bool false) j (aL Value.bool (j)) ?_)
   rotate_left
   all_goals
    refine ar 6 j (b2 32 (.bool false) j (aL Value.bool (j)) ?_)
    refine ar 6 j (b2 38 (.bool false) j (aL Value.bool (j)) ?_)
    refine ao 6 j j (⟨aL Value.bool ?_,c.bare⟩)
    unfold i1
    simp_all<;>omega
  rotate_left
  refine ar 5 j (b2 16 (.bool false) j (aL Value.bool (j)) ?_)
  rotate_left
  all_goals
   refine ar 5 j (b2 21 (.bool false) j (aL Value.bool (j)) ?_)
   refine ar 5 j (b2 26 (.bool false) j (aL Value.bool (j)) ?_)
   refine ar 6 j (b2 32 (.bool false) j (aL Value.bool (j)) ?_)
   refine ar 6 j (b2 38 (.bool false) j (aL Value.bool (j)) ?_)
   refine ao 6 j j (⟨aL Value.bool ?_,c.bare⟩)
   unfold i1
   simp_all<;>omega
 refine ar 5 j (b2 11 (.bool false) j (aL Value.bool (j)) ?_)
 refine ar 5 j (b2 16 (.bool false) j (aL Value.bool (j)) ?_)
 refine ar 5 j (b2 21 (.bool false) j (aL Value.bool (j)) ?_)
 refine ar 5 j (b2 26 (.bool false) j (aL Value.bool (j)) ?_)
 refine ar 6 j (b2 32 (.bool false) j (aL Value.bool (j)) ?_)
 refine ar 6 j (b2 38 (.bool false) j (aL Value.bool (j)) ?_)
 refine ao 6 j j (⟨aL Value.bool ?_,c.bare⟩)
 unfold i1
 simp_all<;>omega
theorem p9(g a:List UInt8)(e:g.length=32)(f:a.length=32)(d:Nat)(w:World):(Op.equalIn (d+2) 66 (.agg (aE g).toArray) (.agg (aE a).toArray)).run prog w= .ok (g==a) w:=
 run_equalIn_bytes w d 66 5 32 underlying66 underlying5 (λw=>by
  obtain⟨i,b,_,c,_⟩:=cq.parts (inferInstance:cq prog 5 (.int .u8 0) 1 1)
  simp [sizeOf,typeInfo,b,c]) g a e f
structure al where
 aq:Nat
 eQ:Nat
 cap:Nat
 cur:Array Value
 keys:List (List UInt8)
structure al.at(g:al)(w:World):Prop where
 ring:w.heap[g.aq]? =some (.cells #[.slice (some ⟨g.eQ,0,none⟩) g.keys.length g.cap] 135 (0,0))
 keys:w.heap[g.eQ]? =some (.cells g.cur 66 (0,0))
structure al.ok(g:al):Prop where
 len:∀k∈g.keys,k.length=32
 h4:1<=g.keys.length
 n10:g.keys.length<=10
 rd:∀(i:Nat)(h:i<g.keys.length)(J:Nat)(v:Value),(aE g.keys[i])[J]? =some v->g.cur[32*i+J]? =some v
structure al.off(g:al)(F:List Nat):Prop where
 r:g.aq∉F
 k:g.eQ∉F
abbrev al.p(g:al):Value:=.pointer (some ⟨g.aq,0,none⟩)
theorem al.at.st{g:al}{o w:World}{F:List Nat}{ae:List (List Chunk)}(h:g.at o)(a:C o F ae w)(b:g.off F):g.at w:=
 ⟨by rw [a.fP _ (gp.1 h.ring).1 b.r];exact h.ring,by rw [a.fP _ (gp.1 h.keys).1 b.k];exact h.keys⟩
theorem al.off.nil(g:al):g.off []:=⟨by simp,by simp⟩
theorem al.at.apart{g:al}{o w:World}{F:List Nat}{ae:List (List Chunk)}(h:g.at o)(b:C o F ae w)(c:g.off F):g.off (av ae):=
 ⟨λa=>(b.own _ a).elim c.r (λd=>by have:=(gp.1 h.ring).1;omega),λa=>(b.own _ a).elim c.k (λd=>by have:=(gp.1 h.keys).1;omega)⟩
theorem al.off.sub{g:al}{F eD:List Nat}(h:g.off F)(aM:∀b∈eD,b∈F):g.off eD:=⟨λa=>h.r (aM _ a),λa=>h.k (aM _ a)⟩
def cK:List UInt8:=List.replicate 32 0
def al.ma(g:al)(i:Int):Prop:=0<=i/\i<g.keys.length
instance (g:al)(i:Int):Decidable (g.ma i):=inferInstanceAs (Decidable (_/\_))
def al.cu(g:al)(i:Int)(b:List UInt8):List UInt8:=if g.ma i then nR (g.keys.getD i.toNat []) b else cK
theorem al.ea(g:al)(i:Int)(b:List UInt8):(g.cu i b).length=32:=by unfold al.cu;split;exact qp _ _;rfl
def al.check(g:al)(i:Int)(b tag:List UInt8):Bool:=decide (g.ma i)&&(g.cu i b==tag)
theorem ml{o:World}{g:al}(a:g.at o):Calls prog 145 #[g.p] o (aS λr w=>r= .int .i64 g.keys.length/\w=o):=by
 refine a1 [g.p] func145 ntmps145 results145 ?_
 refine au 15 j (oR a.ring j) ?_
 refine ao 2 j j ?_
 exact⟨j,j⟩
theorem nm{o:World}{g:al}(l:g.at o)(s:g.ok){i:Int}{B:Option Addr}{p:List UInt8}{d:Nat}(z:Rd o B (aE p))(y:p.length<=1000000):Calls prog 85 #[g.p,ab i,.slice B p.length d] o (aS λr w=>r= .agg (aE (g.cu i p)).toArray/\C o [] [] w):=by
 have a:Own [] o:=C.start o
 refine e7 [g.p,ab i,.slice B p.length d] (fn:=f85) func85 ntmps85 (cn 2 a j (λt w a=>?_))
 have a:C o [] [R t (Array.replicate 32 (bv 0)) 66] w:=a
 refine ar 6 j (c7 9 j (λk=>?_) (λk=>?_))
 .have n:¬g.ma i:=λh=>by have:=br k;have:=h.1;omega
  refine ar 8 j (cO (c:=(aE cK).toArray) j j j (λ_=>by kernel_rfl) ?_)
  refine c5 a j j j (by decide) (by decide) (by decide) (λw a=>?_)
  have a:=C.whole (U:=aE cK) a j
  refine bJ 0 j ⟨_,hb (U:=aE cK) results85 j j j a.bN,?_⟩
  refine⟨?_,a.bare⟩
  unfold al.cu
  rw [aF n]
 have e:=ml (l.st a (al.off.nil g))
 refine bp 2 e j (λw hw=>?_)
 subst hw
 refine aT 2 j j (λf=>?_) (λf=>?_)
 .have n:¬g.ma i:=λh=>by have:=br f;have:=h.2;omega
  refine ar 2 j (cO (c:=(aE cK).toArray) j j j (λ_=>by kernel_rfl) ?_)
  refine c5 a j j j (by decide) (by decide) (by decide) (λw a=>?_)
  have a:=C.whole (U:=aE cK) a j
  refine bJ 0 j ⟨_,hb (U:=aE cK) results85 j j j a.bN,?_⟩
  refine⟨?_,a.bare⟩
  unfold al.cu
  rw [aF n]
 have b:0<=i/\i<g.keys.length:=by have:=bw k;have:=bw f;omega
 refine au 6 j (oR (l.st a (al.off.nil g)).ring j) (ar 1 j (pw j j j j b.1 b.2 ?_))
 refine mI j j j ?_
 have m:i.toNat<g.keys.length:=by have:=b.1;have:=b.2;omega
 have x:g.keys[i.toNat].length=32:=s.len _ (ek m)
 have A:Rd w (some ((⟨g.eQ,0,none⟩:Addr).add (i.toNat*32))) (aE g.keys[i.toNat]):=λJ v D=>⟨_,j,by
  rw [add_lit,add_lit]
  exact oR (l.st a (al.off.nil g)).keys (by rw [fk,Nat.mul_comm];exact s.rd _ m J v D)⟩
 have e:=Fc (key:=g.keys[i.toNat]) (c:=32) A (by omega) (a.rd z (bU.of_nil _ _)) y (d:=d)
 rw [x] at e
 refine bm 1 e j (λr w⟨q,u⟩=>?_)
 have q:r= .agg (aE (g.cu i p)).toArray:=by rw [q];unfold al.cu;rw [if_pos (show g.ma i from b)];simp [List.getD,m]
 subst q
 have a:=a.aN u
 refine c5 a j j j (by simpa using fH (g.cu i p)) (by rw [List.size_toArray,ds,al.ea]) (by decide) (λw a=>?_)
 have a:=C.whole (U:=aE (g.cu i p)) a (by rw [ds,al.ea];rfl)
 refine bJ 0 j ⟨_,hb (U:=aE (g.cu i p)) results85 j j (by rw [ds,al.ea]) a.bN,?_⟩
 exact⟨j,a.bare⟩
theorem rK{o:World}{g:al}(f:g.at o)(q:g.ok){i:Int}{B:Option Addr}{p tag:List UInt8}{d:Nat}(t:Rd o B (aE p))(s:p.length<=1000000)(k:tag.length=32):Calls prog 181 #[g.p,ab i,.slice B p.length d,.agg (aE tag).toArray] o (aS λr w=>r= .bool (g.check i p tag)/\C o [] [] w):=by
 have a:Own [] o:=C.start o
 refine a1 [g.p,ab i,.slice B p.length d,.agg (aE tag).toArray] func181 ntmps181 results181 (bP 2 a j j (λl w a=>?_))
 have a:=a.drew
 refine bz 2 j (λw=>∃ae,C o [] (R l (aE tag).toArray 66::ae) w) ⟨_,a⟩ (af 0 3 j (ef 11 j (λc=>?_) (λc=>?_)))
 .refine af 3 2 j (aW 5 j (bF j j j (ml (f.st a (al.off.nil g))) (λw hw=>?_)))
  subst hw
  refine an ⟨⟨_,a⟩,?_⟩
  refine af 6 3 j (ef 17 j (λe=>?_) (λe=>?_))
  .refine af 9 3 j (aV 13 j (λw⟨_,a⟩=>dc (U:=aE tag) j j (by rw [ds,k]) a.bN) (aW 12 j (bF j j j (nm (f.st a (al.off.nil g)) q (a.rd t (bU.of_nil _ _)) s) (λw n=>?_))))
   have a:=(a.aN n)
   refine an ⟨⟨_,a⟩,?_⟩
   refine aV 14 j (λw _=>q2 j j (by kernel_rfl) (λw=>p9 _ _ (al.ea g i p) k 9998 w)) (af 15 2 j (bO (ao 0 j j (⟨aL Value.bool ?_,a.bare⟩))))
   have m:=br c
   have b:=br e
   unfold al.check
   rw [jb (show g.ma i from⟨m,b⟩),Bool.true_and]
  refine fz 8 [9,10,11,13,12,14,15,16] j (bO (ao 0 j j (⟨aL Value.bool ?_,a.bare⟩)))
  have b:=bw e
  unfold al.check
  rw [ff (show¬g.ma i from λh=>b h.2),oi]
 refine fz 14 [3,4,5,6,7,8,9,10,11,13,12,14,15,16] j (bO (ao 0 j j (⟨aL Value.bool ?_,a.bare⟩)))
 have b:=bw c
 unfold al.check
 rw [ff (show¬g.ma i from λh=>b h.1),oi]
def qF(n:Nat)(eY:List UInt8):List (List UInt8):=(List.range (min (max n 1) 10)).map λi=>bL (eY++[UInt8.ofNat i])
abbrev nO(l:List (List UInt8)):List Value:=l.flatMap aE
abbrev dC(g:al):List Chunk:=[(g.aq,.cells #[.slice (some ⟨g.eQ,0,none⟩) g.keys.length g.cap] 135 (0,0)),(g.eQ,.cells g.cur 66 (0,0))]
theorem ys:forall (l:List (List UInt8)) (a:∀k∈l,k.length=32) (i:Nat) (h:i<l.length) (J:Nat) (v:Value),(aE l[i])[J]? =some v->(nO l)[32*i+J]? =some v
 |k::r,a,0,_,J,v,b=>by
  have c:J<(aE k).length:=(fa.1 b).1
  show(aE k++nO r)[32*0+J]? =_
  rw [Nat.mul_zero,fk,iz c]
  exact b
 |k::r,a,i+1,h,J,v,b=>by
  have ad:(aE k).length=32:=by rw [ds];exact a k (by simp)
  show(aE k++nO r)[32*(i+1)+J]? =_
  rw [jy (by omega),ad,show 32*(i+1)+J-32=32*i+J by omega]
  exact ys r (λx d=>a x (by simp [d])) i (by simpa using h) J v b
theorem GL(n:Nat)(eY:List UInt8):(qF n eY).length=min (max n 1) 10:=by simp [qF]
def kM(eY:List UInt8)(i:Nat):List (List UInt8):=(List.range i).map λi=>bL (eY++[UInt8.ofNat i])
theorem vH(eY:List UInt8)(i:Nat):(kM eY i).length=i:=by simp [kM]
theorem zR(eY:List UInt8)(i:Nat):∀k∈kM eY i,k.length=32:=by
 intro k ad
 obtain⟨i,_,rfl⟩:=dT.1 ad
 exact e4 _
theorem GM(eY:List UInt8)(i:Nat):kM eY (i+1)=kM eY i++[bL (eY++[UInt8.ofNat i])]:=by simp [kM,nz]
theorem Fn(n:Nat):min (max (n:Int) 1) 10=((min (max n 1) 10:Nat):Int):=by omega
theorem C8(x:Nat):IntKind.u8.wrap (x:Int)=((UInt8.ofNat x).toNat:Int):=by
 rw [l4,oz]
 omega
theorem vh{o:World}{n:Nat}{eY:List UInt8}(aP:n<=1000)(aM:eY.length=32):Calls prog 26 #[.int .i64 n,.agg (aE eY).toArray] o (aS λr w=>∃g:al,r=g.p/\g.ok/\g.keys=qF n eY/\C o [] [dC g] w):=by
 have a:Own [] o:=C.start o
 refine a1 [.int .i64 n,.agg (aE eY).toArray] func26 ntmps26 results26 (bP 2 a j j (λb w a=>?_))
 have a:C o [] [R b (aE eY).toArray 66] w:=a
 refine ar 3 j (cO (c:= #[.slice none 0 0]) j j j (λ_=>by kernel_rfl) ?_)
 refine bP 0 a j j (λd w a=>?_)
 have a:C o [] [R d #[.slice none 0 0] 135,R b (aE eY).toArray 66] w:=a
 skip
 refine ar 5 j (tp j j j ?_)
 refine rb j j j (b2 11 (.int .i64 (min (max n 1) 10:Nat)) j (aL (Value.int .i64) (Fn n)) ?_)
 refine cY 2 j (cA:=Nat×Value×List Chunk) (λi=>[(3,Z b),(5,Z d),(11,.int .i64 (min (max n 1) 10:Nat)),(12,.int .i64 (i.1:Nat))])
  (λi w=>i.1<=min (max n 1) 10/\Row 66 32 i.2.1 i.1 (nO (kM eY i.1)) i.2.2/\C o [] [R d #[i.2.1] 135,R b (aE eY).toArray 66,i.2.2] w) (λi=>10-i.1) (0,.slice none 0 0,[]) ⟨j,j,j,j,ba⟩ ⟨ch _,Row.nil 66 32,a.empty.f2.f2⟩ ?_
 rintro⟨i,v,ak⟩ w ⟨F,s,a⟩
 dsimp only at F s a⊢
 refine aT 4 j j (λl=>?_) (λl=>?_)
 .have I:i<min (max n 1) 10:=by have:=br l;omega
  have a:=a.drew
  refine bz 7 j (λw=>∃ae,C o [] ([R d #[v] 135,R b (aE eY).toArray 66]++ae) w) ⟨_,a⟩ (af 0 4 j (bT 4 j (λw⟨_,a⟩=>a.cell j) (aV 5 j (λw _=>Be j) (af 6 1 j (aV 7 j (λw _=>ku j (C8 i)) (aW 8 j (fe a j j j j j j bR (λV w a=>?_))))))))
  have K:=a.bN
  have a:=a.f1.f2.f1
  refine an ⟨⟨_,a⟩,?_⟩
  refine aW 9 j ?_
  have O:Rd w (some ⟨b,0,none⟩) (aE eY):=a.f1.bN
  refine Bl (size:=1) (k:=32) (m:=1) (xs:=aE eY) (news:=aE [UInt8.ofNat i]) a j j (by decide) j j j (by rw [ds,aM]) O (by decide) (by decide) j K (by decide) (by decide) (λS u w h a=>?_)
  have h:dN S (eY++[UInt8.ofNat i]) u:=by
   have e:32+1=(eY++[UInt8.ofNat i]).length:=by rw [ca,aM];rfl
   rw [e,<-t9] at h
   exact h
  obtain⟨T,X,rfl,D,_,N,_⟩:=h.rd a
  have aa:(eY++[UInt8.ofNat i]).length=33:=by rw [ca,aM];rfl
  have a:=a.f1.f2.f1
  refine an ⟨⟨_,a⟩,?_⟩
  refine aW 10 j ?_
  have E:=pb N (by omega) D
  refine bF j j j E (λw H=>?_)
  have a:=a.aN H
  refine an ⟨⟨_,a⟩,?_⟩
  refine aW 11 j (gv (U:=aE (bL (eY++[UInt8.ofNat i]))) a j j j (by rw [ds,e4]) (by decide) (by decide) (λW w a=>?_))
  have L:=a.bN
  have a:=a.f1.f2.f1
  refine an ⟨⟨_,a⟩,?_⟩
  refine aW 12 j (eK a.f5 s j j (by decide) j j j (news:=aE (bL (eY++[UInt8.ofNat i]))) (m:=1) (by rw [ds,e4]) L (fH _) (by omega) (by unfold maxLen;omega) (λv1 x w t a=>?_))
  have a:=a.f1.f2.f1
  refine an ⟨⟨_,a⟩,?_⟩
  refine af 13 2 j (dy 15 j (cC a j j j t.one (by simp) (λw a=>?_)))
  have a:C o [] (R d #[v1] 135::_) w:=a
  refine an (cX (bt 1 j j j (c2 i (by omega)) (bX 1 j (⟨(i+1,v1,x),⟨j,j,j,j,ba⟩,⟨I,?_,C.r0 (A:=[_,_,_]) a⟩,by dsimp only;omega⟩))))
  dsimp only
  have e:nO (kM eY (i+1))=nO (kM eY i)++aE (bL (eY++[UInt8.ofNat i])):=by rw [GM];simp [nO]
  rw [e]
  exact t
 refine ao 5 j j ?_
 have G:i=min (max n 1) 10:=by have:=bw l;omega
 obtain⟨_,z⟩:=s
 rcases z with⟨_,Y,_⟩|⟨y,cap,cur,rfl,rfl,_,_,_,P⟩
 .omega
 refine⟨⟨d,y,cap,cur,kM eY i⟩,j,⟨zR eY i,by rw [vH];omega,by rw [vH];omega,λq M J v Q=>?_⟩,by subst G;rfl,?_⟩
 .have f:=ys (kM eY i) (zR eY i) q M J v Q
  rw [<-P,jw] at f
  split at f
  .simpa using f
  cases f
 have B:=C.join (a.f1.drop)
 have e:(kM eY i).length=i:=vH eY i
 dsimp only [dC]
 rw [e]
 exact B
def dG(T:TypeId)(w:World)(p:Option Addr)(m:List (Int×Value)):Prop:=
 (p=none/\m=[])\/∃b ag I,p=some ⟨b,0,none⟩/\w.heap[b]? =some (.cells #[.map (some ag)] T (0,0))/\w.heap[ag]? =some I/\cf bu I m
abbrev ay(T:TypeId)(b ag:Nat)(I:Obj):List Chunk:=[(b,.cells #[.map (some ag)] T (0,0)),(ag,I)]
theorem dG.own{T:TypeId}{o w:World}{F:List Nat}{ae:List (List Chunk)}{b ag:Nat}{I:Obj}{m:List (Int×Value)}(a:C o F (ay T b ag I::ae) w)(hm:cf bu I m):dG T w (some ⟨b,0,none⟩) m:=
 .inr ⟨b,ag,I,j,a.here (b,_) (by simp),a.here (ag,I) (by simp),hm⟩
theorem ib{T:TypeId}{o w:World}{F:List Nat}{ae:List (List Chunk)}{b ag:Nat}{I:Obj}(a:C o F (ay T b ag I::ae) w):C o F ([(b,.cells #[.map (some ag)] T (0,0))]::[(ag,I)]::ae) w:=C.split (ah:=[(b,.cells #[.map (some ag)] T (0,0))]) (aA:=[(ag,I)]) a
theorem iJ{T:TypeId}{o w:World}{F:List Nat}{ae:List (List Chunk)}{b ag:Nat}{I:Obj}(a:C o F ([(b,.cells #[.map (some ag)] T (0,0))]::[(ag,I)]::ae) w):C o F (ay T b ag I::ae) w:=C.join (ah:=[(b,.cells #[.map (some ag)] T (0,0))]) (aA:=[(ag,I)]) a
def gx(n:Nat)(v:Value):Prop:=∃l:List Value,v= .agg l.toArray/\l.length=n/\l.all (·.oneCell')=true
theorem Fm{m:List (Int×Value)}{k:Int}{v:Value}(h:a2 m k=some v):(k,v)∈m:=by
 rcases nT m k with⟨a,_⟩|⟨J,u,a,b,_⟩
 .rw [a] at h;cases h
 .rw [a] at h;cases h;exact hZ b
theorem gx.get{n:Nat}{m:List (Int×Value)}{z:Value}(b:gx n z)(h:∀p∈m,gx n p.2)(k:Int):gx n ((a2 m k).getD z):=by
 cases a:a2 m k with
 |none=>exact b
 |some v=>exact h _ (Fm a)
theorem dG.jg{T:TypeId}{w:World}{p:Option Addr}{m:List (Int×Value)}(h:dG T w p m)(a:p.isNone=true):p=none/\m=[]:=by
 rcases h with h|⟨b,ag,I,rfl,_⟩
 .exact h
 .cases a
theorem dG.jj{T:TypeId}{w:World}{p:Option Addr}{m:List (Int×Value)}(h:dG T w p m)(a:p.isNone=false):∃b ag I,p=some ⟨b,0,none⟩/\w.heap[b]? =some (.cells #[.map (some ag)] T (0,0))/\w.heap[ag]? =some I/\cf bu I m:=by
 rcases h with⟨rfl,_⟩|h
 .cases a
 .exact h
theorem C.cd{o w:World}{ae:List (List Chunk)}{b:Nat}{I:Obj}(a:C o [] ae w)(h:o.heap[b]? =some I):w.heap[b]? =some I:=by
 rw [a.fP b (gp.1 h).1 (by simp)];exact h
theorem xy{I:Obj}{m:List (Int×Value)}{k:Int}(hm:cf bu I m)(h:(a2 m k).isSome=false):cf bu I (fS m k):=by
 rcases nT m k with⟨_,b⟩|⟨J,u,a,_⟩
 .rw [u4 m k b];exact hm
 .rw [a] at h;cases h
theorem cell_of{w:World}{b off:Nat}{c:Array Value}{e:TypeId}{e2:Nat×Nat}{v:Value}(h:w.heap[b]? =some (.cells c e e2))(a:c[off]? =some v):w.cell? ⟨b,off,none⟩=some v:=by simp [World.cell?,h,a]
abbrev q1:Value:=.agg #[.int .i64 0,.int .i64 0,.int .i64 0]
theorem Fz{o:World}:Calls prog 57 #[] o (aS λr w=>∃b ag,r=Z b/\cf bu (.map #[] 0) []/\C o [] [ay 226 b ag (.map #[] 0)] w):=by
 have a:Own [] o:=C.start o
 refine a1 [] func57 ntmps57 results57 (ar 5 j (js j a j j (λax w a=>?_)))
 refine cO (c:= #[.map (some ax)]) j j j (λ_=>by kernel_rfl) (bP 0 a j j (λd w a=>ao 1 j j ?_))
 exact⟨d,ax,j,cf.new,iJ (T:=226) a⟩
theorem G5{o:World}{b ag:Nat}{I:Obj}{m:List (Int×Value)}{k:Int}{l:List Value}(e:l.length=3)(g:l.all (·.oneCell')=true)(a:Own [ay 226 b ag I] o)(hm:cf bu I m):Calls prog 141 #[Z b,bu k,.agg l.toArray] o (aS λr w=>r= .tuple #[]/\∃c,cf bu c (cj m k (.agg l.toArray))/\C o (av [ay 226 b ag I]) [ay 226 b ag c] w):=by
 refine a1 [Z b,bu k,.agg l.toArray] func141 ntmps141 results141 (bP 2 a j j (λd w a=>?_))
 have a:=a.drew
 refine bz 5 j (λw=>∃c,C o (av [ay 226 b ag I]) ([R d l.toArray 116,ay 226 b ag c]) w) ⟨_,a⟩ (af 0 3 j (bT 3 j (λw⟨_,a⟩=>(ib a.f1).cell j) (af 4 1 j (aV 5 j (λw⟨_,a⟩=>dc j j e a.bN) (aW 6 j (jt hm (ib a.f1).f1 j j j j (λc w f a=>?_)))))))
 have a:C o _ (ay 226 b ag c::_) w:=iJ a.f1
 have a:=a.f1
 refine an ⟨⟨_,a⟩,?_⟩
 refine bO (ao 0 j j ?_)
 exact⟨j,_,f,a.f1.h3⟩
theorem Im:gx 3 q1:=⟨q1.cells.toList,j,j,j⟩
theorem DV{o:World}{p:Option Addr}{m:List (Int×Value)}{k:Int}(hw:∀q∈m,gx 3 q.2)(d:dG 226 o p m):Calls prog 107 #[.pointer p,bu k] o (aS λr w=>r= .tuple #[(a2 m k).getD q1,.bool (a2 m k).isSome]/\C o [] [] w):=by
 have a:Own [] o:=C.start o
 obtain⟨l,e,c,f⟩:=gx.get Im hw k
 refine e7 [.pointer p,bu k] (fn:=f107) func107 ntmps107 (cn 2 a j (λi w a=>aT 6 j j (λdw=>?_) (λdw=>?_)))
 .obtain⟨rfl,rfl⟩:=d.jg dw
  refine bS 2 j j j a.bN (cp 0 a j j j j j (λw a=>?_))
  have a:=C.whole (U:=q1.cells.toList) a j
  refine bJ 1 j ⟨_,dp results107 j j j j a.bN,?_⟩
  exact⟨j,a.bare⟩
 obtain⟨b,ag,I,rfl,g,h,hm⟩:=d.jj dw
 refine au 6 j (cell_of (a.cd g) j) (ar 1 j (mH hm (a.cd h) j j j j ?_))
 refine ar 2 j (b2 16 (.agg l.toArray) j e ?_)
 refine cp 1 a j j j f c (λw a=>?_)
 have a:=C.whole (U:=l) a (by rw [c];rfl)
 refine bS 3 (U:=l) j j c a.bN (ar 1 j (c5 a j j j f c (by simp [c]) (λw a=>?_)))
 have a:=C.whole (U:=l) a j
 refine bJ 1 j ⟨_,dp (U:=l) results107 j j j c a.bN,?_⟩
 exact⟨by rw [e];rfl,a.bare⟩
abbrev Iu:Value:=.pointer none
theorem Fx{o:World}:Calls prog 120 #[] o (aS λr w=>∃b ag,r=Z b/\cf bu (.map #[] 0) []/\C o [] [ay 236 b ag (.map #[] 0)] w):=by
 have a:Own [] o:=C.start o
 refine a1 [] func120 ntmps120 results120 (ar 5 j (js j a j j (λax w a=>?_)))
 refine cO (c:= #[.map (some ax)]) j j j (λ_=>by kernel_rfl) (bP 0 a j j (λd w a=>ao 1 j j ?_))
 exact⟨d,ax,j,cf.new,iJ (T:=236) a⟩
theorem G4{o:World}{b ag:Nat}{I:Obj}{m:List (Int×Value)}{k:Int}{v:Value}(a:Own [ay 236 b ag I] o)(hm:cf bu I m):Calls prog 121 #[Z b,bu k,v] o (aS λr w=>r= .tuple #[]/\∃c,cf bu c (cj m k (v))/\C o (av [ay 236 b ag I]) [ay 236 b ag c] w):=by
 refine a1 [Z b,bu k,v] func121 ntmps121 results121 (au 9 j ((ib a).cell j) (ar 2 j (jt hm (ib a).f1 j j j j (λc w d a=>?_))))
 have a:C o _ (ay 236 b ag c::_) w:=iJ a.f1
 refine ao 0 j j ?_
 exact⟨j,_,d,a.h3⟩
theorem m7{o:World}{p:Option Addr}{m:List (Int×Value)}{k:Int}(c:dG 236 o p m):Calls prog 63 #[.pointer p,bu k] o (aS λr w=>r= .tuple #[(a2 m k).getD Iu,.bool (a2 m k).isSome]/\C o [] [] w):=by
 have a:Own [] o:=C.start o
 refine a1 [.pointer p,bu k] func63 ntmps63 results63 (aT 9 j j (λdw=>?_) (λdw=>?_))
 .obtain⟨rfl,rfl⟩:=c.jg dw
  refine ao 5 j j ?_
  exact⟨j,a.bare⟩
 obtain⟨b,ag,I,rfl,d,e,hm⟩:=c.jj dw
 refine au 6 j (cell_of (a.cd d) j) (ar 1 j (mH hm (a.cd e) j j j j ?_))
 refine ao 11 j j ?_
 exact⟨j,a.bare⟩
abbrev AP:Value:=.pointer none
theorem FC{o:World}:Calls prog 59 #[] o (aS λr w=>∃b ag,r=Z b/\cf bu (.map #[] 0) []/\C o [] [ay 229 b ag (.map #[] 0)] w):=by
 have a:Own [] o:=C.start o
 refine a1 [] func59 ntmps59 results59 (ar 5 j (js j a j j (λax w a=>?_)))
 refine cO (c:= #[.map (some ax)]) j j j (λ_=>by kernel_rfl) (bP 0 a j j (λd w a=>ao 1 j j ?_))
 exact⟨d,ax,j,cf.new,iJ (T:=229) a⟩
theorem G7{o:World}{b ag:Nat}{I:Obj}{m:List (Int×Value)}{k:Int}{v:Value}(a:Own [ay 229 b ag I] o)(hm:cf bu I m):Calls prog 98 #[Z b,bu k,v] o (aS λr w=>r= .tuple #[]/\∃c,cf bu c (cj m k (v))/\C o (av [ay 229 b ag I]) [ay 229 b ag c] w):=by
 refine a1 [Z b,bu k,v] func98 ntmps98 results98 (au 9 j ((ib a).cell j) (ar 2 j (jt hm (ib a).f1 j j j j (λc w d a=>?_))))
 have a:C o _ (ay 229 b ag c::_) w:=iJ a.f1
 refine ao 0 j j ?_
 exact⟨j,_,d,a.h3⟩
theorem x5{o:World}{p:Option Addr}{m:List (Int×Value)}{k:Int}(c:dG 229 o p m):Calls prog 94 #[.pointer p,bu k] o (aS λr w=>r= .tuple #[(a2 m k).getD AP,.bool (a2 m k).isSome]/\C o [] [] w):=by
 have a:Own [] o:=C.start o
 refine a1 [.pointer p,bu k] func94 ntmps94 results94 (aT 9 j j (λdw=>?_) (λdw=>?_))
 .obtain⟨rfl,rfl⟩:=c.jg dw
  refine ao 5 j j ?_
  exact⟨j,a.bare⟩
 obtain⟨b,ag,I,rfl,d,e,hm⟩:=c.jj dw
 refine au 6 j (cell_of (a.cd d) j) (ar 1 j (mH hm (a.cd e) j j j j ?_))
 refine ao 11 j j ?_
 exact⟨j,a.bare⟩
theorem EU{o:World}{p:Option Addr}{m:List (Int×Value)}(c:dG 229 o p m):Calls prog 96 #[.pointer p] o (aS λr w=>r= .int .i64 m.length/\C o [] [] w):=by
 have a:Own [] o:=C.start o
 refine a1 [.pointer p] func96 ntmps96 results96 (aT 8 j j (λfA=>?_) (λfA=>?_))
 .obtain⟨rfl,rfl⟩:=c.jg fA
  refine ao 3 j j ?_
  exact⟨j,a.bare⟩
 obtain⟨b,ag,I,rfl,d,e,hm⟩:=c.jj fA
 refine au 6 j (cell_of (a.cd d) j) (tn hm (a.cd e) j j j j (ao 1 j j ?_))
 exact⟨j,a.bare⟩
theorem um{o:World}{b ag:Nat}{I:Obj}{m:List (Int×Value)}{k:Int}(a:Own [ay 229 b ag I] o)(hm:cf bu I m):Calls prog 103 #[Z b,bu k] o (aS λr w=>r= .bool (a2 m k).isSome/\∃c,cf bu c (fS m k)/\C o (av [ay 229 b ag I]) [ay 229 b ag c] w):=by
 refine a1 [Z b,bu k] func103 ntmps103 results103 ?_
 have e:=x5 (k:=k) (dG.own a hm)
 refine bp 7 e j (λw ad=>?_)
 have a:=a.aN ad
 refine aT 9 j j (λd=>?_) (λd=>?_)
 .refine au 4 j ((ib a).cell j) (ar 1 j (wl (t:=227) hm (ib a).f1 j j j j (λc w f a=>?_)))
  have a:C o _ (ay 229 b ag c::_) w:=iJ a.f1
  refine ao 4 j j ?_
  exact⟨j,_,f,a.h3⟩
 refine ao 5 j j ?_
 exact⟨j,_,xy hm d,a.h3⟩
abbrev td:Value:=.agg #[.int .i64 0,.int .i64 0,.int .i64 0,.int .u8 0,.int .u8 0,.int .u8 0,.int .u8 0,.int .u8 0,.int .u8 0,.int .u8 0,.int .u8 0,.int .u8 0,.int .u8 0,.int .u8 0,.int .u8 0,.int .u8 0,.int .u8 0,.int .u8 0,.int .u8 0,.int .u8 0,.int .u8 0,.int .u8 0,.int .u8 0,.int .u8 0,.int .u8 0,.int .u8 0,.int .u8 0,.int .u8 0,.int .u8 0,.int .u8 0,.int .u8 0,.int .u8 0,.int .u8 0,.int .u8 0,.int .u8 0,.int .i64 0,.int .u8 0,.int .u8 0,.int .u8 0,.int .u8 0,.int .u8 0,.int .u8 0,.int .u8 0,.int .u8 0,.int .u8 0,.int .u8 0,.int .u8 0,.int .u8 0,.int .u8 0,.int .u8 0,.int .u8 0,.int .u8 0,.int .u8 0,.int .u8 0,.int .u8 0,.int .u8 0,.int .u8 0,.int .u8 0,.int .u8 0,.int .u8 0,.int .u8 0,.int .u8 0,.int .u8 0,.int .u8 0,.int .u8 0,.int .u8 0,.int .u8 0,.int .u8 0]
theorem FD{o:World}:Calls prog 97 #[] o (aS λr w=>∃b ag,r=Z b/\cf bu (.map #[] 0) []/\C o [] [ay 268 b ag (.map #[] 0)] w):=by
 have a:Own [] o:=C.start o
 refine a1 [] func97 ntmps97 results97 (ar 5 j (js j a j j (λax w a=>?_)))
 refine cO (c:= #[.map (some ax)]) j j j (λ_=>by kernel_rfl) (bP 0 a j j (λd w a=>ao 1 j j ?_))
 exact⟨d,ax,j,cf.new,iJ (T:=268) a⟩
theorem z7{o:World}{b ag:Nat}{I:Obj}{m:List (Int×Value)}{k:Int}{l:List Value}(e:l.length=68)(g:l.all (·.oneCell')=true)(a:Own [ay 268 b ag I] o)(hm:cf bu I m):Calls prog 100 #[Z b,bu k,.agg l.toArray] o (aS λr w=>r= .tuple #[]/\∃c,cf bu c (cj m k (.agg l.toArray))/\C o (av [ay 268 b ag I]) [ay 268 b ag c] w):=by
 refine a1 [Z b,bu k,.agg l.toArray] func100 ntmps100 results100 (bP 2 a j j (λd w a=>?_))
 have a:=a.drew
 refine bz 5 j (λw=>∃c,C o (av [ay 268 b ag I]) ([R d l.toArray 108,ay 268 b ag c]) w) ⟨_,a⟩ (af 0 3 j (bT 3 j (λw⟨_,a⟩=>(ib a.f1).cell j) (af 4 1 j (aV 5 j (λw⟨_,a⟩=>dc j j e a.bN) (aW 6 j (jt hm (ib a.f1).f1 j j j j (λc w f a=>?_)))))))
 have a:C o _ (ay 268 b ag c::_) w:=iJ a.f1
 have a:=a.f1
 refine an ⟨⟨_,a⟩,?_⟩
 refine bO (ao 0 j j ?_)
 exact⟨j,_,f,a.f1.h3⟩
theorem vX:gx 68 td:=⟨td.cells.toList,j,j,j⟩
theorem x6{o:World}{p:Option Addr}{m:List (Int×Value)}{k:Int}(hw:∀q∈m,gx 68 q.2)(d:dG 268 o p m):Calls prog 99 #[.pointer p,bu k] o (aS λr w=>r= .tuple #[(a2 m k).getD td,.bool (a2 m k).isSome]/\C o [] [] w):=by
 have a:Own [] o:=C.start o
 obtain⟨l,e,c,f⟩:=gx.get vX hw k
 refine e7 [.pointer p,bu k] (fn:=f99) func99 ntmps99 (cn 2 a j (λi w a=>aT 6 j j (λdw=>?_) (λdw=>?_)))
 .obtain⟨rfl,rfl⟩:=d.jg dw
  refine bS 2 j j j a.bN (cp 0 a j j j j j (λw a=>?_))
  have a:=C.whole (U:=td.cells.toList) a j
  refine bJ 1 j ⟨_,dp results99 j j j j a.bN,?_⟩
  exact⟨j,a.bare⟩
 obtain⟨b,ag,I,rfl,g,h,hm⟩:=d.jj dw
 refine au 6 j (cell_of (a.cd g) j) (ar 1 j (mH hm (a.cd h) j j j j ?_))
 refine ar 2 j (b2 16 (.agg l.toArray) j e ?_)
 refine cp 1 a j j j f c (λw a=>?_)
 have a:=C.whole (U:=l) a (by rw [c];rfl)
 refine bS 3 (U:=l) j j c a.bN (ar 1 j (c5 a j j j f c (by simp [c]) (λw a=>?_)))
 have a:=C.whole (U:=l) a j
 refine bJ 1 j ⟨_,dp (U:=l) results99 j j j c a.bN,?_⟩
 exact⟨by rw [e];rfl,a.bare⟩
abbrev tc:Value:=.agg #[.int .i64 0,.int .i64 0,.int .i64 0,.int .i64 0,.int .i64 0,.slice none 0 0,.slice none 0 0,.int .u8 0,.int .u8 0,.int .u8 0,.int .u8 0,.int .u8 0,.int .u8 0,.int .u8 0,.int .u8 0,.int .u8 0,.int .u8 0,.int .u8 0,.int .u8 0,.int .u8 0,.int .u8 0,.int .u8 0,.int .u8 0,.int .u8 0,.int .u8 0,.int .u8 0,.int .u8 0,.int .u8 0,.int .u8 0,.int .u8 0,.int .u8 0,.int .u8 0,.int .u8 0,.int .u8 0,.int .u8 0,.int .u8 0,.int .u8 0,.int .u8 0,.int .u8 0]
theorem vg{o:World}:Calls prog 118 #[] o (aS λr w=>∃b ag,r=Z b/\cf bu (.map #[] 0) []/\C o [] [ay 288 b ag (.map #[] 0)] w):=by
 have a:Own [] o:=C.start o
 refine a1 [] func118 ntmps118 results118 (ar 5 j (js j a j j (λax w a=>?_)))
 refine cO (c:= #[.map (some ax)]) j j j (λ_=>by kernel_rfl) (bP 0 a j j (λd w a=>ao 1 j j ?_))
 exact⟨d,ax,j,cf.new,iJ (T:=288) a⟩
theorem vL{o:World}{b ag:Nat}{I:Obj}{m:List (Int×Value)}{k:Int}{l:List Value}(e:l.length=39)(g:l.all (·.oneCell')=true)(a:Own [ay 288 b ag I] o)(hm:cf bu I m):Calls prog 138 #[Z b,bu k,.agg l.toArray] o (aS λr w=>r= .tuple #[]/\∃c,cf bu c (cj m k (.agg l.toArray))/\C o (av [ay 288 b ag I]) [ay 288 b ag c] w):=by
 refine a1 [Z b,bu k,.agg l.toArray] func138 ntmps138 results138 (bP 2 a j j (λd w a=>?_))
 have a:=a.drew
 refine bz 5 j (λw=>∃c,C o (av [ay 288 b ag I]) ([R d l.toArray 94,ay 288 b ag c]) w) ⟨_,a⟩ (af 0 3 j (bT 3 j (λw⟨_,a⟩=>(ib a.f1).cell j) (af 4 1 j (aV 5 j (λw⟨_,a⟩=>dc j j e a.bN) (aW 6 j (jt hm (ib a.f1).f1 j j j j (λc w f a=>?_)))))))
 have a:C o _ (ay 288 b ag c::_) w:=iJ a.f1
 have a:=a.f1
 refine an ⟨⟨_,a⟩,?_⟩
 refine bO (ao 0 j j ?_)
 exact⟨j,_,f,a.f1.h3⟩
theorem pj:gx 39 tc:=⟨tc.cells.toList,j,j,j⟩
theorem nJ{o:World}{p:Option Addr}{m:List (Int×Value)}{k:Int}(hw:∀q∈m,gx 39 q.2)(d:dG 288 o p m):Calls prog 229 #[.pointer p,bu k] o (aS λr w=>r= .tuple #[(a2 m k).getD tc,.bool (a2 m k).isSome]/\C o [] [] w):=by
 have a:Own [] o:=C.start o
 obtain⟨l,e,c,f⟩:=gx.get pj hw k
 refine e7 [.pointer p,bu k] (fn:=f229) func229 ntmps229 (cn 2 a j (λi w a=>aT 6 j j (λdw=>?_) (λdw=>?_)))
 .obtain⟨rfl,rfl⟩:=d.jg dw
  refine bS 2 j j j a.bN (cp 0 a j j j j j (λw a=>?_))
  have a:=C.whole (U:=tc.cells.toList) a j
  refine bJ 1 j ⟨_,dp results229 j j j j a.bN,?_⟩
  exact⟨j,a.bare⟩
 obtain⟨b,ag,I,rfl,g,h,hm⟩:=d.jj dw
 refine au 6 j (cell_of (a.cd g) j) (ar 1 j (mH hm (a.cd h) j j j j ?_))
 refine ar 2 j (b2 16 (.agg l.toArray) j e ?_)
 refine cp 1 a j j j f c (λw a=>?_)
 have a:=C.whole (U:=l) a (by rw [c];rfl)
 refine bS 3 (U:=l) j j c a.bN (ar 1 j (c5 a j j j f c (by simp [c]) (λw a=>?_)))
 have a:=C.whole (U:=l) a j
 refine bJ 1 j ⟨_,dp (U:=l) results229 j j j c a.bN,?_⟩
 exact⟨by rw [e];rfl,a.bare⟩
theorem yy{o:World}{p:Option Addr}{m:List (Int×Value)}(c:dG 288 o p m):Calls prog 137 #[.pointer p] o (aS λr w=>r= .int .i64 m.length/\C o [] [] w):=by
 have a:Own [] o:=C.start o
 refine a1 [.pointer p] func137 ntmps137 results137 (aT 8 j j (λfA=>?_) (λfA=>?_))
 .obtain⟨rfl,rfl⟩:=c.jg fA
  refine ao 3 j j ?_
  exact⟨j,a.bare⟩
 obtain⟨b,ag,I,rfl,d,e,hm⟩:=c.jj fA
 refine au 6 j (cell_of (a.cd d) j) (tn hm (a.cd e) j j j j (ao 1 j j ?_))
 exact⟨j,a.bare⟩
theorem Dj{o:World}{b ag:Nat}{I:Obj}{m:List (Int×Value)}{k:Int}(hw:∀q∈m,gx 39 q.2)(a:Own [ay 288 b ag I] o)(hm:cf bu I m):Calls prog 228 #[Z b,bu k] o (aS λr w=>r= .bool (a2 m k).isSome/\∃c,cf bu c (fS m k)/\C o (av [ay 288 b ag I]) [ay 288 b ag c] w):=by
 obtain⟨l,f,g,h⟩:=gx.get pj hw k
 refine a1 [Z b,bu k] func228 ntmps228 results228 ?_
 have e:=nJ (k:=k) hw (dG.own a hm)
 refine bp 7 e j (λw ad=>?_)
 have a:=a.aN ad
 refine ar 2 j (b2 11 (.agg l.toArray) j f ?_)
 refine cn 1 a j (λn w a=>cp 0 a j j j h g (λw a=>aT 5 j j (λd=>?_) (λd=>?_)))
 .have a:=a.f1
  refine au 4 j ((ib a).cell j) (ar 1 j (wl (t:=286) hm (ib a).f1 j j j j (λc w i a=>?_)))
  have a:C o _ (ay 288 b ag c::_) w:=iJ a.f1
  refine ao 4 j j ?_
  exact⟨j,_,i,a.h3⟩
 refine ao 5 j j ?_
 exact⟨j,_,xy hm d,(a.f1).h3⟩
abbrev vZ:Value:=.pointer none
theorem FB{o:World}:Calls prog 163 #[] o (aS λr w=>∃b ag,r=Z b/\cf bu (.map #[] 0) []/\C o [] [ay 326 b ag (.map #[] 0)] w):=by
 have a:Own [] o:=C.start o
 refine a1 [] func163 ntmps163 results163 (ar 5 j (js j a j j (λax w a=>?_)))
 refine cO (c:= #[.map (some ax)]) j j j (λ_=>by kernel_rfl) (bP 0 a j j (λd w a=>ao 1 j j ?_))
 exact⟨d,ax,j,cf.new,iJ (T:=326) a⟩
theorem G6{o:World}{b ag:Nat}{I:Obj}{m:List (Int×Value)}{k:Int}{v:Value}(a:Own [ay 326 b ag I] o)(hm:cf bu I m):Calls prog 234 #[Z b,bu k,v] o (aS λr w=>r= .tuple #[]/\∃c,cf bu c (cj m k (v))/\C o (av [ay 326 b ag I]) [ay 326 b ag c] w):=by
 refine a1 [Z b,bu k,v] func234 ntmps234 results234 (au 9 j ((ib a).cell j) (ar 2 j (jt hm (ib a).f1 j j j j (λc w d a=>?_))))
 have a:C o _ (ay 326 b ag c::_) w:=iJ a.f1
 refine ao 0 j j ?_
 exact⟨j,_,d,a.h3⟩
theorem x4{o:World}{p:Option Addr}{m:List (Int×Value)}{k:Int}(c:dG 326 o p m):Calls prog 233 #[.pointer p,bu k] o (aS λr w=>r= .tuple #[(a2 m k).getD vZ,.bool (a2 m k).isSome]/\C o [] [] w):=by
 have a:Own [] o:=C.start o
 refine a1 [.pointer p,bu k] func233 ntmps233 results233 (aT 9 j j (λdw=>?_) (λdw=>?_))
 .obtain⟨rfl,rfl⟩:=c.jg dw
  refine ao 5 j j ?_
  exact⟨j,a.bare⟩
 obtain⟨b,ag,I,rfl,d,e,hm⟩:=c.jj dw
 refine au 6 j (cell_of (a.cd d) j) (ar 1 j (mH hm (a.cd e) j j j j ?_))
 refine ao 11 j j ?_
 exact⟨j,a.bare⟩
abbrev tb:Value:=.pointer none
theorem y1{o:World}:Calls prog 164 #[] o (aS λr w=>∃b ag,r=Z b/\cf bu (.map #[] 0) []/\C o [] [ay 329 b ag (.map #[] 0)] w):=by
 have a:Own [] o:=C.start o
 refine a1 [] func164 ntmps164 results164 (ar 5 j (js j a j j (λax w a=>?_)))
 refine cO (c:= #[.map (some ax)]) j j j (λ_=>by kernel_rfl) (bP 0 a j j (λd w a=>ao 1 j j ?_))
 exact⟨d,ax,j,cf.new,iJ (T:=329) a⟩
theorem G0{o:World}{b ag:Nat}{I:Obj}{m:List (Int×Value)}{k:Int}{v:Value}(a:Own [ay 329 b ag I] o)(hm:cf bu I m):Calls prog 266 #[Z b,bu k,v] o (aS λr w=>r= .tuple #[]/\∃c,cf bu c (cj m k (v))/\C o (av [ay 329 b ag I]) [ay 329 b ag c] w):=by
 refine a1 [Z b,bu k,v] func266 ntmps266 results266 (au 9 j ((ib a).cell j) (ar 2 j (jt hm (ib a).f1 j j j j (λc w d a=>?_))))
 have a:C o _ (ay 329 b ag c::_) w:=iJ a.f1
 refine ao 0 j j ?_
 exact⟨j,_,d,a.h3⟩
theorem DT{o:World}{p:Option Addr}{m:List (Int×Value)}{k:Int}(c:dG 329 o p m):Calls prog 293 #[.pointer p,bu k] o (aS λr w=>r= .tuple #[(a2 m k).getD tb,.bool (a2 m k).isSome]/\C o [] [] w):=by
 have a:Own [] o:=C.start o
 refine a1 [.pointer p,bu k] func293 ntmps293 results293 (aT 9 j j (λdw=>?_) (λdw=>?_))
 .obtain⟨rfl,rfl⟩:=c.jg dw
  refine ao 5 j j ?_
  exact⟨j,a.bare⟩
 obtain⟨b,ag,I,rfl,d,e,hm⟩:=c.jj dw
 refine au 6 j (cell_of (a.cd d) j) (ar 1 j (mH hm (a.cd e) j j j j ?_))
 refine ao 11 j j ?_
 exact⟨j,a.bare⟩
abbrev It:Value:=.pointer none
theorem Fw{o:World}:Calls prog 119 #[] o (aS λr w=>∃b ag,r=Z b/\cf bu (.map #[] 0) []/\C o [] [ay 291 b ag (.map #[] 0)] w):=by
 have a:Own [] o:=C.start o
 refine a1 [] func119 ntmps119 results119 (ar 5 j (js j a j j (λax w a=>?_)))
 refine cO (c:= #[.map (some ax)]) j j j (λ_=>by kernel_rfl) (bP 0 a j j (λd w a=>ao 1 j j ?_))
 exact⟨d,ax,j,cf.new,iJ (T:=291) a⟩
theorem G3{o:World}{b ag:Nat}{I:Obj}{m:List (Int×Value)}{k:Int}{v:Value}(a:Own [ay 291 b ag I] o)(hm:cf bu I m):Calls prog 275 #[Z b,bu k,v] o (aS λr w=>r= .tuple #[]/\∃c,cf bu c (cj m k (v))/\C o (av [ay 291 b ag I]) [ay 291 b ag c] w):=by
 refine a1 [Z b,bu k,v] func275 ntmps275 results275 (au 9 j ((ib a).cell j) (ar 2 j (jt hm (ib a).f1 j j j j (λc w d a=>?_))))
 have a:C o _ (ay 291 b ag c::_) w:=iJ a.f1
 refine ao 0 j j ?_
 exact⟨j,_,d,a.h3⟩
theorem DU{o:World}{p:Option Addr}{m:List (Int×Value)}{k:Int}(c:dG 291 o p m):Calls prog 243 #[.pointer p,bu k] o (aS λr w=>r= .tuple #[(a2 m k).getD It,.bool (a2 m k).isSome]/\C o [] [] w):=by
 have a:Own [] o:=C.start o
 refine a1 [.pointer p,bu k] func243 ntmps243 results243 (aT 9 j j (λdw=>?_) (λdw=>?_))
 .obtain⟨rfl,rfl⟩:=c.jg dw
  refine ao 5 j j ?_
  exact⟨j,a.bare⟩
 obtain⟨b,ag,I,rfl,d,e,hm⟩:=c.jj dw
 refine au 6 j (cell_of (a.cd d) j) (ar 1 j (mH hm (a.cd e) j j j j ?_))
 refine ao 11 j j ?_
 exact⟨j,a.bare⟩
theorem yz{o:World}{p:Option Addr}{m:List (Int×Value)}(c:dG 291 o p m):Calls prog 302 #[.pointer p] o (aS λr w=>r= .int .i64 m.length/\C o [] [] w):=by
 have a:Own [] o:=C.start o
 refine a1 [.pointer p] func302 ntmps302 results302 (aT 8 j j (λfA=>?_) (λfA=>?_))
 .obtain⟨rfl,rfl⟩:=c.jg fA
  refine ao 3 j j ?_
  exact⟨j,a.bare⟩
 obtain⟨b,ag,I,rfl,d,e,hm⟩:=c.jj fA
 refine au 6 j (cell_of (a.cd d) j) (tn hm (a.cd e) j j j j (ao 1 j j ?_))
 exact⟨j,a.bare⟩
theorem C.jd{o w aI:World}{F:List Nat}{H A a8:List (List Chunk)}(h:C o F (H++A) w)(k:C w (av A) a8 aI):C o F (H++a8) aI:=by
 have a:=C.rF (H:=H) (A:=A) (L:=[]) (by simpa using h) k
 simpa using a
theorem C.jf{o w:World}{F:List Nat}{ae:List (List Chunk)}{b:Nat}{I:Obj}(h:C o F ([(b,I)]::ae) w):b∉av ae:=λa=>by
 have:=h.nodup
 rw [oP] at this
 exact(iy.1 this).2.2 b (by simp [av]) b a j
theorem m9{A B:List (List Chunk)}{b:Nat}:b∈av (A++B)↔b∈av A\/b∈av B:=by simp [av]
theorem fr{A:List Chunk}{B:List (List Chunk)}{b:Nat}(h:b∉av (A::B)):b∉av B:=λa=>h (by rw [oP];exact dA.2 (.inr a))
theorem Aj:∀{pre l:List Int},pre.Nodup->(∀k∈pre,k∈l)->pre.length<=l.length
 |[],l,_,_=>ch _
 |k::r,l,c,a=>by
  have aP:=l6.1 c
  have ad:k∈l:=a k (by simp)
  have:=Aj (pre:=r) (l:=l.erase k) aP.2 (λx b=>(List.mem_erase_of_ne (λe=>aP.1 (by rw [<-e];exact b))).2 (a x (by simp [b])))
  rw [List.length_erase_of_mem ad] at this
  have:=List.length_pos_of_mem ad
  simp only [ep]
  omega
theorem sub_lt{pre l:List Int}{k:Int}(b:pre.Nodup)(c:∀k∈pre,k∈l)(ad:k∈l)(aP:k∉pre):pre.length<l.length:=by
 have:=Aj (pre:=k::pre) (l:=l) (l6.2 ⟨aP,b⟩) (by intro x a;rcases gd.1 a with rfl|a<;>first|exact ad|exact c x a)
 simp only [ep] at this
 omega
abbrev oS(m:List (Int×Value))(pre:List Int)(k:Int):Prop:=k∈m.map Prod.fst/\k∉pre/\pre.length<m.length
instance:MapsClone prog 259:=⟨_,func259,by kernel_rfl,by kernel_rfl,by kernel_rfl,by kernel_rfl⟩
theorem CX{o:World}{ag:Nat}{I:Obj}{m:List (Int×Value)}(hm:cf bu I m)(c:o.heap[ag]? =some I):Calls prog 223 #[.map (some ag)] o (aS λr w=>∃b,r= .map (some b)/\C o [] [[(b,I)]] w):=by
 have a:Own [] o:=C.start o
 refine a1 [.map (some ag)] func223 ntmps223 results223 (ar 7 j (pv j j j j ?_))
 refine ar 5 j (py (by intro ms h;cases h) j j j ?_)
 refine pz hm c a j j j (λb w a=>pr (by intro ms h;cases h) j j j (ao 1 j j ?_))
 exact⟨b,j,a⟩
theorem ED{o:World}{ag:Nat}:Calls prog 225 #[.map (some ag)] o (aS λr w=>∃b,r= .func (.func 261) #[] #[Z b]/\C o [] [R b #[.map (some ag)] 234] w):=by
 have a:Own [] o:=C.start o
 refine a1 [.map (some ag)] func225 ntmps225 results225 (bP 2 a j j (λax w a=>ar 3 j (gR j j j j ?_)))
 refine ao 1 j j ?_
 exact⟨ax,j,a⟩
theorem Ez{ax ag:Nat}{I:Obj}{m:List (Int×Value)}(hm:cf bu I m):Iter prog 261 #[Z ax] [R ax #[.map (some ag)] 234,[(ag,I)]] (λ_ _=>True) (λ_=>True) (λk:Int=> #[bu k]) (oS m) (λxs=>xs.Perm (m.map Prod.fst)):=by
 intro l X ac ae o d f _ _ E aa U
 show Calls _ _ #[ey l,Z ax] o _
 obtain⟨q,B⟩:∃q,q=av ([[(ax,Obj.cells #[.map (some ag)] 234 (0,0))],[(ag,I)]]++ae):=⟨_,j⟩
 have d:C o q (R ax #[.map (some ag)] 234::[(ag,I)]::ae) o:=B▸d
 rw [<-B]
 have Q:(m.map Prod.fst).Nodup:=hm.nodup (P:=prog) (cZ:=3)
 refine a1 [ey l,Z ax] func261 ntmps261 results261 (au 2 j (aw (C.aj d) j) (pB hm (d.here (ag,I) (by simp)) (C.start _) j j j (λr it w s k=>?_)))
 have T:o.heap.size<=r:=by have K:=k.own r (by simp [av]);have Y:=d.size;simp at K;omega
 have f:=E _ _ _ _ [] f k.bare (by simp)
 have d:=d.aN k
 refine cY 1 j (cA:=List Int×List (List Chunk)×Obj) (λi=>[(0,ey l),(1,Z ax),(5,Z r)])
  (λi w=>lY bu ag I m i.1 i.2.2/\i.1.Nodup/\(∀k∈i.1,k∈m.map Prod.fst)/\X i.1 i.2.1 w/\C o q ([(r,i.2.2)]::R ax #[.map (some ag)] 234::[(ag,I)]::i.2.1) w) (λi=>m.length-i.1.length) ([],ae,it) ⟨j,j,j,ba⟩ ⟨s,by simp,by simp,f,d⟩ ?_
 rintro⟨pre,ah,it⟩ w ⟨s,t,u,f,d⟩
 dsimp only at s t u f d⊢
 refine ar 2 j (pA s (λa c h=>by cases h;rfl) (d.here (ag,I) (by simp)) d.j1 j j j (λL=>?_) (λk v A w M z F G=>?_))
 .refine ao 4 j j ?_
  exact⟨ah,d.drop,.inl ⟨pre,qy Q t u (λk ad=>by obtain⟨p,S,rfl⟩:=dT.1 ad;exact L p S),f⟩⟩
 have O:r∉av ah:=fr (fr d.jf)
 have f:=E _ _ _ _ [r] f G.bare (by intro b n;simp at n;subst n;exact⟨T,O⟩)
 have d:=d.im G
 refine ar 7 j (pt F (λa c h=>by cases h;rfl) (d.here (ag,I) (by simp)) (C.f1 (C.f1 d)) j j j (λv2 ab=>?_))
 have y:k∈m.map Prod.fst:=dT.2 ⟨_,M,j⟩
 have N:pre.length<m.length:=by have:=sub_lt t u y z;simpa using this
 have V:=U pre k ah _ ⟨y,z,N⟩ f (C.jl (H:=[[(r,A)],R ax #[.map (some ag)] 234,[(ag,I)]]) d)
 refine ar 6 j (jN j j j j V (λb w⟨aA,W,n⟩=>?_))
 have d:=C.jd (H:=[[(r,A)],R ax #[.map (some ag)] 234,[(ag,I)]]) d W
 refine aT 1 j j (λJ=>?_) (λJ=>?_)
 .refine ao 0 j j ?_
  have x:b=false:=by cases b<;>simp_all
  subst x
  exact⟨aA,d.drop,.inr (by simpa using n)⟩
 refine bX 1 j ?_
 have x:b=true:=by cases b<;>simp_all
 subst x
 refine⟨(pre++[k],aA,A),⟨j,j,j,ba⟩,⟨F,?_,?_,by simpa using n,d⟩,by dsimp only;simp only [List.length_append,List.length_cons,List.length_nil];omega⟩
 .exact iy.2 ⟨t,by simp,by intro a g c D;simp at D;subst D;exact λe=>z (e▸g)⟩
 intro a g
 rcases dA.1 g with g|g
 .exact u a g
 simp at g;subst g;exact y
theorem CY{o:World}{ag:Nat}{I:Obj}{m:List (Int×Value)}(hm:cf bu I m)(c:o.heap[ag]? =some I):Calls prog 250 #[.map (some ag)] o (aS λr w=>∃b,r= .map (some b)/\C o [] [[(b,I)]] w):=by
 have a:Own [] o:=C.start o
 refine a1 [.map (some ag)] func250 ntmps250 results250 (ar 7 j (pv j j j j ?_))
 refine ar 5 j (py (by intro ms h;cases h) j j j ?_)
 refine pz hm c a j j j (λb w a=>pr (by intro ms h;cases h) j j j (ao 1 j j ?_))
 exact⟨b,j,a⟩
theorem EE{o:World}{ag:Nat}:Calls prog 251 #[.map (some ag)] o (aS λr w=>∃b,r= .func (.func 280) #[] #[Z b]/\C o [] [R b #[.map (some ag)] 266] w):=by
 have a:Own [] o:=C.start o
 refine a1 [.map (some ag)] func251 ntmps251 results251 (bP 2 a j j (λax w a=>ar 3 j (gR j j j j ?_)))
 refine ao 1 j j ?_
 exact⟨ax,j,a⟩
theorem EA{ax ag:Nat}{I:Obj}{m:List (Int×Value)}(hm:cf bu I m):Iter prog 280 #[Z ax] [R ax #[.map (some ag)] 266,[(ag,I)]] (λ_ _=>True) (λ_=>True) (λk:Int=> #[bu k]) (oS m) (λxs=>xs.Perm (m.map Prod.fst)):=by
 intro l X ac ae o d f _ _ E aa U
 show Calls _ _ #[ey l,Z ax] o _
 obtain⟨q,B⟩:∃q,q=av ([[(ax,Obj.cells #[.map (some ag)] 266 (0,0))],[(ag,I)]]++ae):=⟨_,j⟩
 have d:C o q (R ax #[.map (some ag)] 266::[(ag,I)]::ae) o:=B▸d
 rw [<-B]
 have Q:(m.map Prod.fst).Nodup:=hm.nodup (P:=prog) (cZ:=3)
 refine a1 [ey l,Z ax] func280 ntmps280 results280 (au 2 j (aw (C.aj d) j) (pB hm (d.here (ag,I) (by simp)) (C.start _) j j j (λr it w s k=>?_)))
 have T:o.heap.size<=r:=by have K:=k.own r (by simp [av]);have Y:=d.size;simp at K;omega
 have f:=E _ _ _ _ [] f k.bare (by simp)
 have d:=d.aN k
 refine cY 1 j (cA:=List Int×List (List Chunk)×Obj) (λi=>[(0,ey l),(1,Z ax),(5,Z r)])
  (λi w=>lY bu ag I m i.1 i.2.2/\i.1.Nodup/\(∀k∈i.1,k∈m.map Prod.fst)/\X i.1 i.2.1 w/\C o q ([(r,i.2.2)]::R ax #[.map (some ag)] 266::[(ag,I)]::i.2.1) w) (λi=>m.length-i.1.length) ([],ae,it) ⟨j,j,j,ba⟩ ⟨s,by simp,by simp,f,d⟩ ?_
 rintro⟨pre,ah,it⟩ w ⟨s,t,u,f,d⟩
 dsimp only at s t u f d⊢
 refine ar 2 j (pA s (λa c h=>by cases h;rfl) (d.here (ag,I) (by simp)) d.j1 j j j (λL=>?_) (λk v A w M z F G=>?_))
 .refine ao 4 j j ?_
  exact⟨ah,d.drop,.inl ⟨pre,qy Q t u (λk ad=>by obtain⟨p,S,rfl⟩:=dT.1 ad;exact L p S),f⟩⟩
 have O:r∉av ah:=fr (fr d.jf)
 have f:=E _ _ _ _ [r] f G.bare (by intro b n;simp at n;subst n;exact⟨T,O⟩)
 have d:=d.im G
 refine ar 7 j (pt F (λa c h=>by cases h;rfl) (d.here (ag,I) (by simp)) (C.f1 (C.f1 d)) j j j (λv2 ab=>?_))
 have y:k∈m.map Prod.fst:=dT.2 ⟨_,M,j⟩
 have N:pre.length<m.length:=by have:=sub_lt t u y z;simpa using this
 have V:=U pre k ah _ ⟨y,z,N⟩ f (C.jl (H:=[[(r,A)],R ax #[.map (some ag)] 266,[(ag,I)]]) d)
 refine ar 6 j (jN j j j j V (λb w⟨aA,W,n⟩=>?_))
 have d:=C.jd (H:=[[(r,A)],R ax #[.map (some ag)] 266,[(ag,I)]]) d W
 refine aT 1 j j (λJ=>?_) (λJ=>?_)
 .refine ao 0 j j ?_
  have x:b=false:=by cases b<;>simp_all
  subst x
  exact⟨aA,d.drop,.inr (by simpa using n)⟩
 refine bX 1 j ?_
 have x:b=true:=by cases b<;>simp_all
 subst x
 refine⟨(pre++[k],aA,A),⟨j,j,j,ba⟩,⟨F,?_,?_,by simpa using n,d⟩,by dsimp only;simp only [List.length_append,List.length_cons,List.length_nil];omega⟩
 .exact iy.2 ⟨t,by simp,by intro a g c D;simp at D;subst D;exact λe=>z (e▸g)⟩
 intro a g
 rcases dA.1 g with g|g
 .exact u a g
 simp at g;subst g;exact y
theorem CV{o:World}{ag:Nat}{I:Obj}{m:List (Int×Value)}(hm:cf bu I m)(c:o.heap[ag]? =some I):Calls prog 291 #[.map (some ag)] o (aS λr w=>∃b,r= .map (some b)/\C o [] [[(b,I)]] w):=by
 have a:Own [] o:=C.start o
 refine a1 [.map (some ag)] func291 ntmps291 results291 (ar 7 j (pv j j j j ?_))
 refine ar 5 j (py (by intro ms h;cases h) j j j ?_)
 refine pz hm c a j j j (λb w a=>pr (by intro ms h;cases h) j j j (ao 1 j j ?_))
 exact⟨b,j,a⟩
theorem EB{o:World}{ag:Nat}:Calls prog 292 #[.map (some ag)] o (aS λr w=>∃b,r= .func (.func 317) #[] #[Z b]/\C o [] [R b #[.map (some ag)] 286] w):=by
 have a:Own [] o:=C.start o
 refine a1 [.map (some ag)] func292 ntmps292 results292 (bP 2 a j j (λax w a=>ar 3 j (gR j j j j ?_)))
 refine ao 1 j j ?_
 exact⟨ax,j,a⟩
theorem Ex{ax ag:Nat}{I:Obj}{m:List (Int×Value)}(hm:cf bu I m):Iter prog 317 #[Z ax] [R ax #[.map (some ag)] 286,[(ag,I)]] (λ_ _=>True) (λ_=>True) (λk:Int=> #[bu k]) (oS m) (λxs=>xs.Perm (m.map Prod.fst)):=by
 intro l X ac ae o d f _ _ E aa U
 show Calls _ _ #[ey l,Z ax] o _
 obtain⟨q,B⟩:∃q,q=av ([[(ax,Obj.cells #[.map (some ag)] 286 (0,0))],[(ag,I)]]++ae):=⟨_,j⟩
 have d:C o q (R ax #[.map (some ag)] 286::[(ag,I)]::ae) o:=B▸d
 rw [<-B]
 have Q:(m.map Prod.fst).Nodup:=hm.nodup (P:=prog) (cZ:=3)
 refine a1 [ey l,Z ax] func317 ntmps317 results317 (au 2 j (aw (C.aj d) j) (pB hm (d.here (ag,I) (by simp)) (C.start _) j j j (λr it w s k=>?_)))
 have T:o.heap.size<=r:=by have K:=k.own r (by simp [av]);have Y:=d.size;simp at K;omega
 have f:=E _ _ _ _ [] f k.bare (by simp)
 have d:=d.aN k
 refine cY 1 j (cA:=List Int×List (List Chunk)×Obj) (λi=>[(0,ey l),(1,Z ax),(5,Z r)])
  (λi w=>lY bu ag I m i.1 i.2.2/\i.1.Nodup/\(∀k∈i.1,k∈m.map Prod.fst)/\X i.1 i.2.1 w/\C o q ([(r,i.2.2)]::R ax #[.map (some ag)] 286::[(ag,I)]::i.2.1) w) (λi=>m.length-i.1.length) ([],ae,it) ⟨j,j,j,ba⟩ ⟨s,by simp,by simp,f,d⟩ ?_
 rintro⟨pre,ah,it⟩ w ⟨s,t,u,f,d⟩
 dsimp only at s t u f d⊢
 refine ar 2 j (pA s (λa c h=>by cases h;rfl) (d.here (ag,I) (by simp)) d.j1 j j j (λL=>?_) (λk v A w M z F G=>?_))
 .refine ao 4 j j ?_
  exact⟨ah,d.drop,.inl ⟨pre,qy Q t u (λk ad=>by obtain⟨p,S,rfl⟩:=dT.1 ad;exact L p S),f⟩⟩
 have O:r∉av ah:=fr (fr d.jf)
 have f:=E _ _ _ _ [r] f G.bare (by intro b n;simp at n;subst n;exact⟨T,O⟩)
 have d:=d.im G
 refine ar 7 j (pt F (λa c h=>by cases h;rfl) (d.here (ag,I) (by simp)) (C.f1 (C.f1 d)) j j j (λv2 ab=>?_))
 have y:k∈m.map Prod.fst:=dT.2 ⟨_,M,j⟩
 have N:pre.length<m.length:=by have:=sub_lt t u y z;simpa using this
 have V:=U pre k ah _ ⟨y,z,N⟩ f (C.jl (H:=[[(r,A)],R ax #[.map (some ag)] 286,[(ag,I)]]) d)
 refine ar 6 j (jN j j j j V (λb w⟨aA,W,n⟩=>?_))
 have d:=C.jd (H:=[[(r,A)],R ax #[.map (some ag)] 286,[(ag,I)]]) d W
 refine aT 1 j j (λJ=>?_) (λJ=>?_)
 .refine ao 0 j j ?_
  have x:b=false:=by cases b<;>simp_all
  subst x
  exact⟨aA,d.drop,.inr (by simpa using n)⟩
 refine bX 1 j ?_
 have x:b=true:=by cases b<;>simp_all
 subst x
 refine⟨(pre++[k],aA,A),⟨j,j,j,ba⟩,⟨F,?_,?_,by simpa using n,d⟩,by dsimp only;simp only [List.length_append,List.length_cons,List.length_nil];omega⟩
 .exact iy.2 ⟨t,by simp,by intro a g c D;simp at D;subst D;exact λe=>z (e▸g)⟩
 intro a g
 rcases dA.1 g with g|g
 .exact u a g
 simp at g;subst g;exact y
theorem CU{o:World}{ag:Nat}{I:Obj}{m:List (Int×Value)}(hm:cf bu I m)(c:o.heap[ag]? =some I):Calls prog 320 #[.map (some ag)] o (aS λr w=>∃b,r= .map (some b)/\C o [] [[(b,I)]] w):=by
 have a:Own [] o:=C.start o
 refine a1 [.map (some ag)] func320 ntmps320 results320 (ar 7 j (pv j j j j ?_))
 refine ar 5 j (py (by intro ms h;cases h) j j j ?_)
 refine pz hm c a j j j (λb w a=>pr (by intro ms h;cases h) j j j (ao 1 j j ?_))
 exact⟨b,j,a⟩
theorem Ev{o:World}{ag:Nat}:Calls prog 321 #[.map (some ag)] o (aS λr w=>∃b,r= .func (.func 335) #[] #[Z b]/\C o [] [R b #[.map (some ag)] 327] w):=by
 have a:Own [] o:=C.start o
 refine a1 [.map (some ag)] func321 ntmps321 results321 (bP 2 a j j (λax w a=>ar 3 j (gR j j j j ?_)))
 refine ao 1 j j ?_
 exact⟨ax,j,a⟩
theorem Ew{ax ag:Nat}{I:Obj}{m:List (Int×Value)}(hm:cf bu I m):Iter prog 335 #[Z ax] [R ax #[.map (some ag)] 327,[(ag,I)]] (λ_ _=>True) (λ_=>True) (λk:Int=> #[bu k]) (oS m) (λxs=>xs.Perm (m.map Prod.fst)):=by
 intro l X ac ae o d f _ _ E aa U
 show Calls _ _ #[ey l,Z ax] o _
 obtain⟨q,B⟩:∃q,q=av ([[(ax,Obj.cells #[.map (some ag)] 327 (0,0))],[(ag,I)]]++ae):=⟨_,j⟩
 have d:C o q (R ax #[.map (some ag)] 327::[(ag,I)]::ae) o:=B▸d
 rw [<-B]
 have Q:(m.map Prod.fst).Nodup:=hm.nodup (P:=prog) (cZ:=3)
 refine a1 [ey l,Z ax] func335 ntmps335 results335 (au 2 j (aw (C.aj d) j) (pB hm (d.here (ag,I) (by simp)) (C.start _) j j j (λr it w s k=>?_)))
 have T:o.heap.size<=r:=by have K:=k.own r (by simp [av]);have Y:=d.size;simp at K;omega
 have f:=E _ _ _ _ [] f k.bare (by simp)
 have d:=d.aN k
 refine cY 1 j (cA:=List Int×List (List Chunk)×Obj) (λi=>[(0,ey l),(1,Z ax),(5,Z r)])
  (λi w=>lY bu ag I m i.1 i.2.2/\i.1.Nodup/\(∀k∈i.1,k∈m.map Prod.fst)/\X i.1 i.2.1 w/\C o q ([(r,i.2.2)]::R ax #[.map (some ag)] 327::[(ag,I)]::i.2.1) w) (λi=>m.length-i.1.length) ([],ae,it) ⟨j,j,j,ba⟩ ⟨s,by simp,by simp,f,d⟩ ?_
 rintro⟨pre,ah,it⟩ w ⟨s,t,u,f,d⟩
 dsimp only at s t u f d⊢
 refine ar 2 j (pA s (λa c h=>by cases h;rfl) (d.here (ag,I) (by simp)) d.j1 j j j (λL=>?_) (λk v A w M z F G=>?_))
 .refine ao 4 j j ?_
  exact⟨ah,d.drop,.inl ⟨pre,qy Q t u (λk ad=>by obtain⟨p,S,rfl⟩:=dT.1 ad;exact L p S),f⟩⟩
 have O:r∉av ah:=fr (fr d.jf)
 have f:=E _ _ _ _ [r] f G.bare (by intro b n;simp at n;subst n;exact⟨T,O⟩)
 have d:=d.im G
 refine ar 7 j (pt F (λa c h=>by cases h;rfl) (d.here (ag,I) (by simp)) (C.f1 (C.f1 d)) j j j (λv2 ab=>?_))
 have y:k∈m.map Prod.fst:=dT.2 ⟨_,M,j⟩
 have N:pre.length<m.length:=by have:=sub_lt t u y z;simpa using this
 have V:=U pre k ah _ ⟨y,z,N⟩ f (C.jl (H:=[[(r,A)],R ax #[.map (some ag)] 327,[(ag,I)]]) d)
 refine ar 6 j (jN j j j j V (λb w⟨aA,W,n⟩=>?_))
 have d:=C.jd (H:=[[(r,A)],R ax #[.map (some ag)] 327,[(ag,I)]]) d W
 refine aT 1 j j (λJ=>?_) (λJ=>?_)
 .refine ao 0 j j ?_
  have x:b=false:=by cases b<;>simp_all
  subst x
  exact⟨aA,d.drop,.inr (by simpa using n)⟩
 refine bX 1 j ?_
 have x:b=true:=by cases b<;>simp_all
 subst x
 refine⟨(pre++[k],aA,A),⟨j,j,j,ba⟩,⟨F,?_,?_,by simpa using n,d⟩,by dsimp only;simp only [List.length_append,List.length_cons,List.length_nil];omega⟩
 .exact iy.2 ⟨t,by simp,by intro a g c D;simp at D;subst D;exact λe=>z (e▸g)⟩
 intro a g
 rcases dA.1 g with g|g
 .exact u a g
 simp at g;subst g;exact y
theorem CW{o:World}{ag:Nat}{I:Obj}{m:List (Int×Value)}(hm:cf bu I m)(c:o.heap[ag]? =some I):Calls prog 326 #[.map (some ag)] o (aS λr w=>∃b,r= .map (some b)/\C o [] [[(b,I)]] w):=by
 have a:Own [] o:=C.start o
 refine a1 [.map (some ag)] func326 ntmps326 results326 (ar 7 j (pv j j j j ?_))
 refine ar 5 j (py (by intro ms h;cases h) j j j ?_)
 refine pz hm c a j j j (λb w a=>pr (by intro ms h;cases h) j j j (ao 1 j j ?_))
 exact⟨b,j,a⟩
theorem EC{o:World}{ag:Nat}:Calls prog 327 #[.map (some ag)] o (aS λr w=>∃b,r= .func (.func 338) #[] #[Z b]/\C o [] [R b #[.map (some ag)] 289] w):=by
 have a:Own [] o:=C.start o
 refine a1 [.map (some ag)] func327 ntmps327 results327 (bP 2 a j j (λax w a=>ar 3 j (gR j j j j ?_)))
 refine ao 1 j j ?_
 exact⟨ax,j,a⟩
theorem Ey{ax ag:Nat}{I:Obj}{m:List (Int×Value)}(hm:cf bu I m):Iter prog 338 #[Z ax] [R ax #[.map (some ag)] 289,[(ag,I)]] (λ_ _=>True) (λ_=>True) (λk:Int=> #[bu k]) (oS m) (λxs=>xs.Perm (m.map Prod.fst)):=by
 intro l X ac ae o d f _ _ E aa U
 show Calls _ _ #[ey l,Z ax] o _
 obtain⟨q,B⟩:∃q,q=av ([[(ax,Obj.cells #[.map (some ag)] 289 (0,0))],[(ag,I)]]++ae):=⟨_,j⟩
 have d:C o q (R ax #[.map (some ag)] 289::[(ag,I)]::ae) o:=B▸d
 rw [<-B]
 have Q:(m.map Prod.fst).Nodup:=hm.nodup (P:=prog) (cZ:=3)
 refine a1 [ey l,Z ax] func338 ntmps338 results338 (au 2 j (aw (C.aj d) j) (pB hm (d.here (ag,I) (by simp)) (C.start _) j j j (λr it w s k=>?_)))
 have T:o.heap.size<=r:=by have K:=k.own r (by simp [av]);have Y:=d.size;simp at K;omega
 have f:=E _ _ _ _ [] f k.bare (by simp)
 have d:=d.aN k
 refine cY 1 j (cA:=List Int×List (List Chunk)×Obj) (λi=>[(0,ey l),(1,Z ax),(5,Z r)])
  (λi w=>lY bu ag I m i.1 i.2.2/\i.1.Nodup/\(∀k∈i.1,k∈m.map Prod.fst)/\X i.1 i.2.1 w/\C o q ([(r,i.2.2)]::R ax #[.map (some ag)] 289::[(ag,I)]::i.2.1) w) (λi=>m.length-i.1.length) ([],ae,it) ⟨j,j,j,ba⟩ ⟨s,by simp,by simp,f,d⟩ ?_
 rintro⟨pre,ah,it⟩ w ⟨s,t,u,f,d⟩
 dsimp only at s t u f d⊢
 refine ar 2 j (pA s (λa c h=>by cases h;rfl) (d.here (ag,I) (by simp)) d.j1 j j j (λL=>?_) (λk v A w M z F G=>?_))
 .refine ao 4 j j ?_
  exact⟨ah,d.drop,.inl ⟨pre,qy Q t u (λk ad=>by obtain⟨p,S,rfl⟩:=dT.1 ad;exact L p S),f⟩⟩
 have O:r∉av ah:=fr (fr d.jf)
 have f:=E _ _ _ _ [r] f G.bare (by intro b n;simp at n;subst n;exact⟨T,O⟩)
 have d:=d.im G
 refine ar 7 j (pt F (λa c h=>by cases h;rfl) (d.here (ag,I) (by simp)) (C.f1 (C.f1 d)) j j j (λv2 ab=>?_))
 have y:k∈m.map Prod.fst:=dT.2 ⟨_,M,j⟩
 have N:pre.length<m.length:=by have:=sub_lt t u y z;simpa using this
 have V:=U pre k ah _ ⟨y,z,N⟩ f (C.jl (H:=[[(r,A)],R ax #[.map (some ag)] 289,[(ag,I)]]) d)
 refine ar 6 j (jN j j j j V (λb w⟨aA,W,n⟩=>?_))
 have d:=C.jd (H:=[[(r,A)],R ax #[.map (some ag)] 289,[(ag,I)]]) d W
 refine aT 1 j j (λJ=>?_) (λJ=>?_)
 .refine ao 0 j j ?_
  have x:b=false:=by cases b<;>simp_all
  subst x
  exact⟨aA,d.drop,.inr (by simpa using n)⟩
 refine bX 1 j ?_
 have x:b=true:=by cases b<;>simp_all
 subst x
 refine⟨(pre++[k],aA,A),⟨j,j,j,ba⟩,⟨F,?_,?_,by simpa using n,d⟩,by dsimp only;simp only [List.length_append,List.length_cons,List.length_nil];omega⟩
 .exact iy.2 ⟨t,by simp,by intro a g c D;simp at D;subst D;exact λe=>z (e▸g)⟩
 intro a g
 rcases dA.1 g with g|g
 .exact u a g
 simp at g;subst g;exact y
end Go.Proofs.YtdcbpdlhhkcjnaaGreatDoor.R
namespace Go.Proofs.YtdcbpdlhhkcjnaaGreatDoor.R
open Go.Proofs.Tryz Go Go.RowKit Go.Proofs
open Go.Sort
abbrev jI(ic:List Int):List Int:=ic.mergeSort λx y=>decide (x<=y)
theorem Eu{w:World}{g n:Nat}{os:Array Obj}{cur:Array Value}{e:TypeId}{a:Nat×Nat}(d:Array Int)(b:w.heap[g]? =some (.cells cur e a)):cS w (grow (putRow (Value.int .i64) (Sort.ahead w n) g 0 d) os):=
 cS.grown b λk ad c=>(grownBy_sortedI (w:=w) (n:=n) (os:=os) (g:=g) d).block k ad (by simpa using λh=>c h)
theorem Ab{o:World}{v:Value}{ic:List Int}{ak:List Chunk}(a:Own [ak] o)(k:Row 3 1 v ic.length (ic.map bu) ak)(t:ic.length<=1000000000):Calls prog 254 #[v] o (aS λr w=>r= .tuple #[]/\∃f,Row 3 1 v ic.length ((jI ic).map bu) f/\C o (av [ak]) [f] w):=by
 obtain⟨s,h⟩:=k
 rcases h with⟨rfl,aP,rfl⟩|⟨g,cap,cur,rfl,rfl,l,hm,m,p⟩
 .have q:ic=[]:=lu aP
  subst q
  have d:=AnyM.slices_Sort_int_none sm none 0 o
  refine lw (callsIn_wide.2 d) λe aI⟨he,hw⟩=>?_
  subst hw
  exact⟨cS.refl _,_,he,j,[],⟨by simp,.inl ⟨j,j,j⟩⟩,a⟩
 .have b:=a.first
  have i:Holds (Value.int .i64) o g 0 ic.toArray:=holds_of_blockI b (by simpa using p)
  have d:=AnyM.slices_Sort_int sm g 0 cap ic o i (a.oG (c:=(g,.cells cur 3 (0,0))) (by simp)) (by omega)
  refine lw (callsIn_wide.2 d) λe aI⟨he,n,os,hw⟩=>?_
  subst hw
  have hlen:(jI ic).length=ic.length:=hM _
  refine⟨Eu _ b,_,he,j,R g (putCells (Value.int .i64) 0 (jI ic).toArray cur) 3,⟨by simp [hlen],.inr ⟨g,cap,_,j,j,l,hm,by simpa [putCells] using m,?_⟩⟩,?_⟩
  .have:=take_putCellsI cur (jI ic) (by omega)
   rw [hlen] at this
   simpa using this
  .exact a.grown (grownBy_sortedI _) (heap_sortedI _ b)
end Go.Proofs.YtdcbpdlhhkcjnaaGreatDoor.R
namespace Go.Proofs.YtdcbpdlhhkcjnaaGreatDoor.R
open Go.Proofs.Tryz Go Go.RowKit Go.Proofs
theorem Hg{xs cR:List Int}(h:xs.Perm cR):jI xs=jI cR:=by
 have le:∀a b:Int,decide (a<=b)=true↔a<=b:=λa b=>decide_eq_true_iff
 have d:=tA (le:=λx y:Int=>decide (x<=y)) (by intro a b c;simp only [le];omega) (by intro a b;simp only [mW,le];omega) xs
 have e:=tA (le:=λx y:Int=>decide (x<=y)) (by intro a b c;simp only [le];omega) (by intro a b;simp only [mW,le];omega) cR
 exact List.Perm.eq_of_pairwise (λa b _ _ d e=>by simp only [le] at d e;omega) d e (((oj xs _).trans h).trans (oj cR _).symm)
abbrev dk(m:List (Int×Value)):List (Int×Value):=m.mergeSort λa b=>decide (a.1<=b.1)
theorem qQ(m:List (Int×Value)):(dk m).map Prod.fst=jI (m.map Prod.fst):=tB (λ_ _ _ _=>rfl)
theorem iv(m:List (Int×Value)):(dk m).length=m.length:=hM _
theorem n1{m:List (Int×Value)}{q:Int×Value}:q∈dk m↔q∈m:=gS
theorem nf:∀{m:List (Int×Value)}{q:Int×Value},(m.map Prod.fst).Nodup->q∈m->a2 m q.1=some q.2
 |(J,v)::r,q,aP,a=>by
  have b:=l6.1 (by simpa using aP:(J::r.map Prod.fst).Nodup)
  rcases gd.1 a with rfl|a
  .simp [a2]
  .have:J≠q.1:=λe=>b.1 (by rw [e];exact dT.2 ⟨q,a,j⟩)
   simp only [a2,this,lv]
   exact nf b.2 a
theorem qP{α:Type}{l:List α}{i:Nat}(h:i<l.length):l.take (i+1)=l.take i++[l[i]]:=by rw [List.take_add_one];simp [h]
theorem qN{α:Type}{l:List α}{i:Nat}(h:i<l.length):∃r,l=l.take i++l[i]::r:=⟨l.drop (i+1),by rw [<-kg h,mU]⟩
abbrev pc(m:List (Int×Value))(pre:List (Int×Value))(q:Int×Value):Prop:=∃r,dk m=pre++q::r
theorem B7{c:FuncId}{bc:Array Value}[Entry prog c]{H:List (List Chunk)}{A:List Int->Int->Prop}{S:List Int->Prop}{o:World}(s:Iter prog c bc H (λ_ _=>True) (λ_=>True) (λk:Int=> #[bu k]) A S)(i:∀pre x,A pre x->pre.length<1000000)(b:Own H o):Calls prog 289 #[.slice none 0 0,.func (.func c) #[] bc] o (aS λr w=>∃xs ak,S xs/\Row 3 1 r xs.length (xs.map bu) ak/\C o (av H) (H++[ak]) w):=by
 refine iq [.slice none 0 0,.func (.func c) #[] bc] (fn:=f289) func289 ntmps289 ?_
 refine bP 2 b j j (λaJ w b=>?_)
 have b:C o (av H) (H++[R aJ #[.slice none 0 0] 31,[]]) w:=(b.empty.f1).swap (A:=[_,_])
 refine jY 6 j s j (by have:=b.size;simpa using this) b j (λ_=>rfl) (by intro p f;simp at f;subst f;rfl)
  (λpre ae=>∃v ak,ae=[R aJ #[v] 31,ak]/\Row 3 1 v pre.length (pre.map bu) ak) (λ_ _=>False) ⟨_,_,j,Row.nil 3 1⟩ (λ_ _ _=>trivial) (λ_ _ _ _=>trivial) ?_ ?_ (λ_ _ h=>h.elim) (λ_ _ _ h=>h.elim)
 .rintro l pre x u L B m ⟨v,ak,rfl,d⟩ b
  have hlen:=i pre x m
  refine bJ 2 j ?_
  refine⟨j,_,C.gs b,λL w b=>?_⟩
  have b:=C.gs b
  refine au 2 j (aw (C.aj b) j) ?_
  refine ar 1 j (fe b j j j j j j bR (λz w b=>?_))
  have aP:=b.bN
  refine eK b.f2 d j j (by decide) j j j (news:=[bu x]) j aP (by simp [Value.oneCell']) (by omega) (by unfold maxLen;omega) (λv1 g w e b=>?_)
  have b:=b.f2
  refine cC b j j j e.one (by simp) (λw b=>?_)
  have b:C _ _ (R aJ #[v1] 31::_) w:=b
  refine bJ 0 j ?_
  refine⟨_,b.kH,v1,g,j,?_⟩
  simpa using e
 rintro xs y w n ⟨v,ak,rfl,d⟩ b
 have b:=b.swap
 refine au 2 j (aw (C.aj b) j) ?_
 refine bJ 1 j ⟨v,λw t=>?_⟩
 have b:=t.st b (cB _)
 refine⟨λa q=>i4 (fn:=f289) q j _ _,?_⟩
 exact⟨xs,ak,n,d,b.drop.swap (A:=[ak])⟩
theorem C0{a:FuncId}{bc:Array Value}[Entry prog a]{H:List (List Chunk)}{A:List Int->Int->Prop}{S:List Int->Prop}{o:World}(e:Iter prog a bc H (λ_ _=>True) (λ_=>True) (λk:Int=> #[bu k]) A S)(b:∀pre x,A pre x->pre.length<1000000)(c:Own H o):Calls prog 260 #[.func (.func a) #[] bc] o (aS λr w=>∃xs ak,S xs/\Row 3 1 r xs.length (xs.map bu) ak/\C o (av H) (H++[ak]) w):=by
 refine a1 [.func (.func a) #[] bc] func260 ntmps260 results260 ?_
 have d:=B7 e b c
 refine bm 6 d j (λr w f=>ao 1 j j ?_)
 exact f
theorem qM{b:FuncId}{bc:Array Value}[Entry prog b]{H:List (List Chunk)}{o:World}{m:List (Int×Value)}(i:Iter prog b bc H (λ_ _=>True) (λ_=>True) (λk:Int=> #[bu k]) (oS m) (λxs=>xs.Perm (m.map Prod.fst)))(n:m.length<=1000000)(a:Own H o):Calls prog 224 #[.func (.func b) #[] bc] o (aS λr w=>∃ak,Row 3 1 r m.length ((jI (m.map Prod.fst)).map bu) ak/\C o (av H) (H++[ak]) w):=by
 refine a1 [.func (.func b) #[] bc] func224 ntmps224 results224 ?_
 have c:=C0 i (λpre x h=>by have:=h.2.2;omega) a
 refine bm 6 c j (λr w⟨xs,ak,d,f,a⟩=>?_)
 have l:xs.length=m.length:=by have:=d.length_eq;simpa using this
 have c:=Ab (C.jl a) f (by omega)
 refine bm 4 c j (λp w⟨_,e,g,ad⟩=>?_)
 have a:=C.jd a ad
 refine ao 4 j j (⟨e,?_,a⟩)
 rw [<-l,<-Hg d]
 exact g
theorem BR{o:World}{k:Value}:Calls prog 180 #[k] o (aS λr w=>r= .bool true/\w=o):=by
 refine a1 [k] func180 ntmps180 results180 ?_
 refine ao 6 j j ?_
 exact⟨j,j⟩
theorem Gx{o:World}{p:Option Addr}{u:Value}(c:u.cells= #[u]):Calls prog 179 #[.pointer p,u] o (aS λr w=>∃ax aJ,r= .func (.func 222) #[] #[Z ax,Z aJ]/\C o [] [R ax #[.pointer p] 155,R aJ #[u] 36] w):=by
 have a:Own [] o:=C.start o
 refine a1 [.pointer p,u] func179 ntmps179 results179 (bP 2 a j j (λaJ w a=>bP 0 a j j (λb w a=>ar 3 j (gR j j j j ?_))))
 refine ao 1 j j (⟨aJ,b,j,?_⟩)
 rw [c] at a
 exact a.f1
theorem BU{o:World}{p:Option Addr}:Calls prog 126 #[.pointer p] o (aS λr w=>∃ax aJ,r= .func (.func 222) #[] #[Z ax,Z aJ]/\C o [] [R ax #[.pointer p] 155,[(aJ,.cells #[.func (.func 180) #[] #[]] 36 (0,0))]] w):=by
 refine a1 [.pointer p] func126 ntmps126 results126 ?_
 have a:=Gx (o:=o) (p:=p) (u:=.func (.func 180) #[] #[]) j
 refine bm 6 a j (λr w b=>ao 1 j j ?_)
 exact b
theorem Gt{ax aJ:Nat}{p:Option Addr}{m:List (Int×Value)}(V:m.length<=1000000):Iter prog 222 #[Z ax,Z aJ] [R ax #[.pointer p] 155,[(aJ,.cells #[.func (.func 180) #[] #[]] 36 (0,0))]] (λ_ w=>dG 236 w p m) (λ_=>True) (λq:Int×Value=> #[bu q.1,q.2]) (pc m) (λxs=>xs=dk m):=by
 intro l an aC ae o a c Q _ A az af
 show Calls _ _ #[ey l,Z ax,Z aJ] o _
 obtain⟨h,D⟩:∃h,h=av ([R ax #[.pointer p] 155,[(aJ,.cells #[.func (.func 180) #[] #[]] 36 (0,0))]]++ae):=⟨_,j⟩
 have a:C o h (R ax #[.pointer p] 155::[(aJ,.cells #[.func (.func 180) #[] #[]] 36 (0,0))]::ae) o:=D▸a
 rw [<-D]
 have F:=Q
 refine a1 [ey l,Z ax,Z aJ] func222 ntmps222 results222 (au 3 j (aw (C.aj a) j) (aT 1 j j (λeP=>?_) (λeP=>?_)))
 .refine ao 0 j j ?_
  obtain⟨rfl,rfl⟩:=F.jg eP
  exact⟨ae,a,.inl ⟨[],(by show []=dk [];simp),c⟩⟩
 obtain⟨u,ag,I,rfl,f,Y,hm⟩:=F.jj eP
 have X:(m.map Prod.fst).Nodup:=hm.nodup (P:=prog) (cZ:=3)
 refine au 3 j (aw (C.aj a) j) (au 2 j (cell_of f j) ?_)
 have g:=CX hm Y
 refine bm 0 g j (λr w⟨d,s,ad⟩=>?_)
 subst s
 have c:=A _ _ _ _ [] c ad.bare (by simp)
 have a:=a.aN ad
 have J:=ad
 have g:=ED (o:=w) (ag:=d)
 refine bm 4 g j (λr w⟨n,s,ad⟩=>?_)
 subst s
 have c:=A _ _ _ _ [] c ad.bare (by simp)
 have a:=a.aN ad
 have G:o.heap.size<=n/\o.heap.size<=d:=by
  have M:=ad.own n (by simp [av])
  have N:=J.own d (by simp [av])
  have aq:=J.size
  simp at M N
  omega
 have g:=qM (Ez (ax:=n) (ag:=d) hm) V a.cE
 refine bm 0 g j (λr w⟨ak,E,ad⟩=>?_)
 have K:n∉av ae/\d∉av ae:=⟨fr (fr (fr a.jf)),fr (fr a.drop.jf)⟩
 have c:=A _ _ _ _ [n,d] c ad.bare (by intro b f;simp at f;rcases f with rfl|rfl<;>first|exact⟨G.1,K.1⟩|exact⟨G.2,K.2⟩)
 have a:=a.cD ad
 have a:C o h (R ax #[Z u] 155::[(aJ,.cells #[.func (.func 180) #[] #[]] 36 (0,0))]::[(d,I)]::ak::ae) w:=a.drop.f2.f3.f1
 obtain⟨L,gV,rfl,_,_,_,_⟩:=E.rd a.f3
 refine cY 3 j (cA:=Nat×List (List Chunk)) (λi=>[(0,ey l),(2,Z aJ),(4,.map (some d)),(16,.slice L m.length gV),(17,.int .i64 (m.length:Nat)),(18,.int .i64 (i.1:Nat))])
  (λi w=>i.1<=m.length/\an ((dk m).take i.1) i.2 w/\C o h (R ax #[Z u] 155::[(aJ,.cells #[.func (.func 180) #[] #[]] 36 (0,0))]::[(d,I)]::ak::i.2) w) (λi=>m.length-i.1) (0,ae) ⟨j,j,j,j,j,j,ba⟩ ⟨ch _,by simpa using c,a⟩ ?_
 rintro⟨i,ah⟩ w ⟨S,c,a⟩
 dsimp only at S c a⊢
 refine aT 4 j j (λx=>?_) (λx=>?_)
 .have B:i<m.length:=by have:=br x;omega
  have t:i<(dk m).length:=by rw [iv];exact B
  obtain⟨_,_,e,_,_,aa,_⟩:=E.rd a.f3
  cases e
  have U:((jI (m.map Prod.fst)).map bu)[i]? =some (bu (dk m)[i].1):=by
   rw [<-qQ,gn,gn,ck t];rfl
  refine ar 5 j (fL j j j j aa (v:=bu (dk m)[i].1) (by simpa using U) B (λap O ay=>?_))
  subst O
  refine au 0 j (by assumption) (au 3 j (a.f1.cell j) ?_)
  have g:=BR (o:=w) (k:=bu (dk m)[i].1)
  refine ar 1 j (hE j j j j g (λr aB⟨s,hw⟩=>?_))
  subst s
  subst hw
  refine ar 1 j (b2 25 (.bool true) j (aL Value.bool (j)) ?_)
  have W:a2 m (dk m)[i].1=some (dk m)[i].2:=nf X (n1.1 (ek t))
  refine ar 4 j (px hm (a.f2.first) j j j j ?_)
  refine b2 30 ((dk m)[i].2) j (by rw [W];rfl) ?_
  obtain⟨am,ab⟩:=qN t
  have ai:=af ((dk m).take i) (dk m)[i] ah _ ⟨am,ab⟩ c (C.jl (H:=[R ax #[Z u] 155,[(aJ,.cells #[.func (.func 180) #[] #[]] 36 (0,0))],[(d,I)],ak]) a)
  refine jN j j j j ai (λb w⟨aA,al,f⟩=>?_)
  have a:=C.jd (H:=[R ax #[Z u] 155,[(aJ,.cells #[.func (.func 180) #[] #[]] 36 (0,0))],[(d,I)],ak]) a al
  refine aT 2 j j (λy=>?_) (λy=>?_)
  .refine ao 0 j j ?_
   have z:b=false:=by cases b<;>first|rfl|exact absurd y (by decide)
   subst z
   exact⟨aA,a.f3.drop.f2.drop,.inr (by simpa using f)⟩
  refine bt 2 j j j (c2 i (by omega)) (bX 1 j ?_)
  have z:b=true:=by cases b<;>first|rfl|exact absurd y (by decide)
  subst z
  refine⟨(i+1,aA),⟨j,j,j,j,j,j,ba⟩,⟨B,?_,a⟩,by dsimp only;omega⟩
  dsimp only
  rw [qP t]
  simpa using f
 refine ao 1 j j ?_
 have T:i=m.length:=by have:=bw x;omega
 subst T
 have ac:(dk m).take m.length=dk m:=by rw [<-iv m,gy]
 rw [ac] at c
 exact⟨ah,a.f3.drop.f2.drop,.inl ⟨_,j,c⟩⟩
theorem BS{o:World}{k:Value}:Calls prog 200 #[k] o (aS λr w=>r= .bool true/\w=o):=by
 refine a1 [k] func200 ntmps200 results200 ?_
 refine ao 6 j j ?_
 exact⟨j,j⟩
theorem Gy{o:World}{p:Option Addr}{u:Value}(c:u.cells= #[u]):Calls prog 199 #[.pointer p,u] o (aS λr w=>∃ax aJ,r= .func (.func 249) #[] #[Z ax,Z aJ]/\C o [] [R ax #[.pointer p] 154,R aJ #[u] 36] w):=by
 have a:Own [] o:=C.start o
 refine a1 [.pointer p,u] func199 ntmps199 results199 (bP 2 a j j (λaJ w a=>bP 0 a j j (λb w a=>ar 3 j (gR j j j j ?_))))
 refine ao 1 j j (⟨aJ,b,j,?_⟩)
 rw [c] at a
 exact a.f1
theorem BV{o:World}{p:Option Addr}:Calls prog 157 #[.pointer p] o (aS λr w=>∃ax aJ,r= .func (.func 249) #[] #[Z ax,Z aJ]/\C o [] [R ax #[.pointer p] 154,[(aJ,.cells #[.func (.func 200) #[] #[]] 36 (0,0))]] w):=by
 refine a1 [.pointer p] func157 ntmps157 results157 ?_
 have a:=Gy (o:=o) (p:=p) (u:=.func (.func 200) #[] #[]) j
 refine bm 6 a j (λr w b=>ao 1 j j ?_)
 exact b
theorem Gu{ax aJ:Nat}{p:Option Addr}{m:List (Int×Value)}(V:m.length<=1000000):Iter prog 249 #[Z ax,Z aJ] [R ax #[.pointer p] 154,[(aJ,.cells #[.func (.func 200) #[] #[]] 36 (0,0))]] (λ_ w=>dG 268 w p m) (λ_=>True) (λq:Int×Value=> #[bu q.1,q.2]) (pc m) (λxs=>xs=dk m):=by
 intro l an aC ae o a c Q _ A az af
 show Calls _ _ #[ey l,Z ax,Z aJ] o _
 obtain⟨h,D⟩:∃h,h=av ([R ax #[.pointer p] 154,[(aJ,.cells #[.func (.func 200) #[] #[]] 36 (0,0))]]++ae):=⟨_,j⟩
 have a:C o h (R ax #[.pointer p] 154::[(aJ,.cells #[.func (.func 200) #[] #[]] 36 (0,0))]::ae) o:=D▸a
 rw [<-D]
 have F:=Q
 refine a1 [ey l,Z ax,Z aJ] func249 ntmps249 results249 (au 3 j (aw (C.aj a) j) (aT 1 j j (λeP=>?_) (λeP=>?_)))
 .refine ao 0 j j ?_
  obtain⟨rfl,rfl⟩:=F.jg eP
  exact⟨ae,a,.inl ⟨[],(by show []=dk [];simp),c⟩⟩
 obtain⟨u,ag,I,rfl,f,Y,hm⟩:=F.jj eP
 have X:(m.map Prod.fst).Nodup:=hm.nodup (P:=prog) (cZ:=3)
 refine au 3 j (aw (C.aj a) j) (au 2 j (cell_of f j) ?_)
 have g:=CY hm Y
 refine bm 0 g j (λr w⟨d,s,ad⟩=>?_)
 subst s
 have c:=A _ _ _ _ [] c ad.bare (by simp)
 have a:=a.aN ad
 have J:=ad
 have g:=EE (o:=w) (ag:=d)
 refine bm 4 g j (λr w⟨n,s,ad⟩=>?_)
 subst s
 have c:=A _ _ _ _ [] c ad.bare (by simp)
 have a:=a.aN ad
 have G:o.heap.size<=n/\o.heap.size<=d:=by
  have M:=ad.own n (by simp [av])
  have N:=J.own d (by simp [av])
  have aq:=J.size
  simp at M N
  omega
 have g:=qM (EA (ax:=n) (ag:=d) hm) V a.cE
 refine bm 0 g j (λr w⟨ak,E,ad⟩=>?_)
 have K:n∉av ae/\d∉av ae:=⟨fr (fr (fr a.jf)),fr (fr a.drop.jf)⟩
 have c:=A _ _ _ _ [n,d] c ad.bare (by intro b f;simp at f;rcases f with rfl|rfl<;>first|exact⟨G.1,K.1⟩|exact⟨G.2,K.2⟩)
 have a:=a.cD ad
 have a:C o h (R ax #[Z u] 154::[(aJ,.cells #[.func (.func 200) #[] #[]] 36 (0,0))]::[(d,I)]::ak::ae) w:=a.drop.f2.f3.f1
 obtain⟨L,gV,rfl,_,_,_,_⟩:=E.rd a.f3
 refine cY 3 j (cA:=Nat×List (List Chunk)) (λi=>[(0,ey l),(2,Z aJ),(4,.map (some d)),(16,.slice L m.length gV),(17,.int .i64 (m.length:Nat)),(18,.int .i64 (i.1:Nat))])
  (λi w=>i.1<=m.length/\an ((dk m).take i.1) i.2 w/\C o h (R ax #[Z u] 154::[(aJ,.cells #[.func (.func 200) #[] #[]] 36 (0,0))]::[(d,I)]::ak::i.2) w) (λi=>m.length-i.1) (0,ae) ⟨j,j,j,j,j,j,ba⟩ ⟨ch _,by simpa using c,a⟩ ?_
 rintro⟨i,ah⟩ w ⟨S,c,a⟩
 dsimp only at S c a⊢
 refine aT 4 j j (λx=>?_) (λx=>?_)
 .have B:i<m.length:=by have:=br x;omega
  have t:i<(dk m).length:=by rw [iv];exact B
  obtain⟨_,_,e,_,_,aa,_⟩:=E.rd a.f3
  cases e
  have U:((jI (m.map Prod.fst)).map bu)[i]? =some (bu (dk m)[i].1):=by
   rw [<-qQ,gn,gn,ck t];rfl
  refine ar 5 j (fL j j j j aa (v:=bu (dk m)[i].1) (by simpa using U) B (λap O ay=>?_))
  subst O
  refine au 0 j (by assumption) (au 3 j (a.f1.cell j) ?_)
  have g:=BS (o:=w) (k:=bu (dk m)[i].1)
  refine ar 1 j (hE j j j j g (λr aB⟨s,hw⟩=>?_))
  subst s
  subst hw
  refine ar 1 j (b2 25 (.bool true) j (aL Value.bool (j)) ?_)
  have W:a2 m (dk m)[i].1=some (dk m)[i].2:=nf X (n1.1 (ek t))
  refine ar 4 j (px hm (a.f2.first) j j j j ?_)
  refine b2 30 ((dk m)[i].2) j (by rw [W];rfl) ?_
  obtain⟨am,ab⟩:=qN t
  have ai:=af ((dk m).take i) (dk m)[i] ah _ ⟨am,ab⟩ c (C.jl (H:=[R ax #[Z u] 154,[(aJ,.cells #[.func (.func 200) #[] #[]] 36 (0,0))],[(d,I)],ak]) a)
  refine jN j j j j ai (λb w⟨aA,al,f⟩=>?_)
  have a:=C.jd (H:=[R ax #[Z u] 154,[(aJ,.cells #[.func (.func 200) #[] #[]] 36 (0,0))],[(d,I)],ak]) a al
  refine aT 2 j j (λy=>?_) (λy=>?_)
  .refine ao 0 j j ?_
   have z:b=false:=by cases b<;>first|rfl|exact absurd y (by decide)
   subst z
   exact⟨aA,a.f3.drop.f2.drop,.inr (by simpa using f)⟩
  refine bt 2 j j j (c2 i (by omega)) (bX 1 j ?_)
  have z:b=true:=by cases b<;>first|rfl|exact absurd y (by decide)
  subst z
  refine⟨(i+1,aA),⟨j,j,j,j,j,j,ba⟩,⟨B,?_,a⟩,by dsimp only;omega⟩
  dsimp only
  rw [qP t]
  simpa using f
 refine ao 1 j j ?_
 have T:i=m.length:=by have:=bw x;omega
 subst T
 have ac:(dk m).take m.length=dk m:=by rw [<-iv m,gy]
 rw [ac] at c
 exact⟨ah,a.f3.drop.f2.drop,.inl ⟨_,j,c⟩⟩
theorem BP{o:World}{k:Value}:Calls prog 263 #[k] o (aS λr w=>r= .bool true/\w=o):=by
 refine a1 [k] func263 ntmps263 results263 ?_
 refine ao 6 j j ?_
 exact⟨j,j⟩
theorem Gv{o:World}{p:Option Addr}{u:Value}(c:u.cells= #[u]):Calls prog 262 #[.pointer p,u] o (aS λr w=>∃ax aJ,r= .func (.func 290) #[] #[Z ax,Z aJ]/\C o [] [R ax #[.pointer p] 122,R aJ #[u] 36] w):=by
 have a:Own [] o:=C.start o
 refine a1 [.pointer p,u] func262 ntmps262 results262 (bP 2 a j j (λaJ w a=>bP 0 a j j (λb w a=>ar 3 j (gR j j j j ?_))))
 refine ao 1 j j (⟨aJ,b,j,?_⟩)
 rw [c] at a
 exact a.f1
theorem wF{o:World}{p:Option Addr}:Calls prog 227 #[.pointer p] o (aS λr w=>∃ax aJ,r= .func (.func 290) #[] #[Z ax,Z aJ]/\C o [] [R ax #[.pointer p] 122,[(aJ,.cells #[.func (.func 263) #[] #[]] 36 (0,0))]] w):=by
 refine a1 [.pointer p] func227 ntmps227 results227 ?_
 have a:=Gv (o:=o) (p:=p) (u:=.func (.func 263) #[] #[]) j
 refine bm 6 a j (λr w b=>ao 1 j j ?_)
 exact b
theorem zF{ax aJ:Nat}{p:Option Addr}{m:List (Int×Value)}(V:m.length<=1000000):Iter prog 290 #[Z ax,Z aJ] [R ax #[.pointer p] 122,[(aJ,.cells #[.func (.func 263) #[] #[]] 36 (0,0))]] (λ_ w=>dG 288 w p m) (λ_=>True) (λq:Int×Value=> #[bu q.1,q.2]) (pc m) (λxs=>xs=dk m):=by
 intro l an aC ae o a c Q _ A az af
 show Calls _ _ #[ey l,Z ax,Z aJ] o _
 obtain⟨h,D⟩:∃h,h=av ([R ax #[.pointer p] 122,[(aJ,.cells #[.func (.func 263) #[] #[]] 36 (0,0))]]++ae):=⟨_,j⟩
 have a:C o h (R ax #[.pointer p] 122::[(aJ,.cells #[.func (.func 263) #[] #[]] 36 (0,0))]::ae) o:=D▸a
 rw [<-D]
 have F:=Q
 refine a1 [ey l,Z ax,Z aJ] func290 ntmps290 results290 (au 3 j (aw (C.aj a) j) (aT 1 j j (λeP=>?_) (λeP=>?_)))
 .refine ao 0 j j ?_
  obtain⟨rfl,rfl⟩:=F.jg eP
  exact⟨ae,a,.inl ⟨[],(by show []=dk [];simp),c⟩⟩
 obtain⟨u,ag,I,rfl,f,Y,hm⟩:=F.jj eP
 have X:(m.map Prod.fst).Nodup:=hm.nodup (P:=prog) (cZ:=3)
 refine au 3 j (aw (C.aj a) j) (au 2 j (cell_of f j) ?_)
 have g:=CV hm Y
 refine bm 0 g j (λr w⟨d,s,ad⟩=>?_)
 subst s
 have c:=A _ _ _ _ [] c ad.bare (by simp)
 have a:=a.aN ad
 have J:=ad
 have g:=EB (o:=w) (ag:=d)
 refine bm 4 g j (λr w⟨n,s,ad⟩=>?_)
 subst s
 have c:=A _ _ _ _ [] c ad.bare (by simp)
 have a:=a.aN ad
 have G:o.heap.size<=n/\o.heap.size<=d:=by
  have M:=ad.own n (by simp [av])
  have N:=J.own d (by simp [av])
  have aq:=J.size
  simp at M N
  omega
 have g:=qM (Ex (ax:=n) (ag:=d) hm) V a.cE
 refine bm 0 g j (λr w⟨ak,E,ad⟩=>?_)
 have K:n∉av ae/\d∉av ae:=⟨fr (fr (fr a.jf)),fr (fr a.drop.jf)⟩
 have c:=A _ _ _ _ [n,d] c ad.bare (by intro b f;simp at f;rcases f with rfl|rfl<;>first|exact⟨G.1,K.1⟩|exact⟨G.2,K.2⟩)
 have a:=a.cD ad
 have a:C o h (R ax #[Z u] 122::[(aJ,.cells #[.func (.func 263) #[] #[]] 36 (0,0))]::[(d,I)]::ak::ae) w:=a.drop.f2.f3.f1
 obtain⟨L,gV,rfl,_,_,_,_⟩:=E.rd a.f3
 refine cY 3 j (cA:=Nat×List (List Chunk)) (λi=>[(0,ey l),(2,Z aJ),(4,.map (some d)),(16,.slice L m.length gV),(17,.int .i64 (m.length:Nat)),(18,.int .i64 (i.1:Nat))])
  (λi w=>i.1<=m.length/\an ((dk m).take i.1) i.2 w/\C o h (R ax #[Z u] 122::[(aJ,.cells #[.func (.func 263) #[] #[]] 36 (0,0))]::[(d,I)]::ak::i.2) w) (λi=>m.length-i.1) (0,ae) ⟨j,j,j,j,j,j,ba⟩ ⟨ch _,by simpa using c,a⟩ ?_
 rintro⟨i,ah⟩ w ⟨S,c,a⟩
 dsimp only at S c a⊢
 refine aT 4 j j (λx=>?_) (λx=>?_)
 .have B:i<m.length:=by have:=br x;omega
  have t:i<(dk m).length:=by rw [iv];exact B
  obtain⟨_,_,e,_,_,aa,_⟩:=E.rd a.f3
  cases e
  have U:((jI (m.map Prod.fst)).map bu)[i]? =some (bu (dk m)[i].1):=by
   rw [<-qQ,gn,gn,ck t];rfl
  refine ar 5 j (fL j j j j aa (v:=bu (dk m)[i].1) (by simpa using U) B (λap O ay=>?_))
  subst O
  refine au 0 j (by assumption) (au 3 j (a.f1.cell j) ?_)
  have g:=BP (o:=w) (k:=bu (dk m)[i].1)
  refine ar 1 j (hE j j j j g (λr aB⟨s,hw⟩=>?_))
  subst s
  subst hw
  refine ar 1 j (b2 25 (.bool true) j (aL Value.bool (j)) ?_)
  have W:a2 m (dk m)[i].1=some (dk m)[i].2:=nf X (n1.1 (ek t))
  refine ar 4 j (px hm (a.f2.first) j j j j ?_)
  refine b2 30 ((dk m)[i].2) j (by rw [W];rfl) ?_
  obtain⟨am,ab⟩:=qN t
  have ai:=af ((dk m).take i) (dk m)[i] ah _ ⟨am,ab⟩ c (C.jl (H:=[R ax #[Z u] 122,[(aJ,.cells #[.func (.func 263) #[] #[]] 36 (0,0))],[(d,I)],ak]) a)
  refine jN j j j j ai (λb w⟨aA,al,f⟩=>?_)
  have a:=C.jd (H:=[R ax #[Z u] 122,[(aJ,.cells #[.func (.func 263) #[] #[]] 36 (0,0))],[(d,I)],ak]) a al
  refine aT 2 j j (λy=>?_) (λy=>?_)
  .refine ao 0 j j ?_
   have z:b=false:=by cases b<;>first|rfl|exact absurd y (by decide)
   subst z
   exact⟨aA,a.f3.drop.f2.drop,.inr (by simpa using f)⟩
  refine bt 2 j j j (c2 i (by omega)) (bX 1 j ?_)
  have z:b=true:=by cases b<;>first|rfl|exact absurd y (by decide)
  subst z
  refine⟨(i+1,aA),⟨j,j,j,j,j,j,ba⟩,⟨B,?_,a⟩,by dsimp only;omega⟩
  dsimp only
  rw [qP t]
  simpa using f
 refine ao 1 j j ?_
 have T:i=m.length:=by have:=bw x;omega
 subst T
 have ac:(dk m).take m.length=dk m:=by rw [<-iv m,gy]
 rw [ac] at c
 exact⟨ah,a.f3.drop.f2.drop,.inl ⟨_,j,c⟩⟩
theorem BO{o:World}{k:Value}:Calls prog 296 #[k] o (aS λr w=>r= .bool true/\w=o):=by
 refine a1 [k] func296 ntmps296 results296 ?_
 refine ao 6 j j ?_
 exact⟨j,j⟩
theorem Gr{o:World}{p:Option Addr}{u:Value}(c:u.cells= #[u]):Calls prog 295 #[.pointer p,u] o (aS λr w=>∃ax aJ,r= .func (.func 319) #[] #[Z ax,Z aJ]/\C o [] [R ax #[.pointer p] 280,R aJ #[u] 36] w):=by
 have a:Own [] o:=C.start o
 refine a1 [.pointer p,u] func295 ntmps295 results295 (bP 2 a j j (λaJ w a=>bP 0 a j j (λb w a=>ar 3 j (gR j j j j ?_))))
 refine ao 1 j j (⟨aJ,b,j,?_⟩)
 rw [c] at a
 exact a.f1
theorem BT{o:World}{p:Option Addr}:Calls prog 268 #[.pointer p] o (aS λr w=>∃ax aJ,r= .func (.func 319) #[] #[Z ax,Z aJ]/\C o [] [R ax #[.pointer p] 280,[(aJ,.cells #[.func (.func 296) #[] #[]] 36 (0,0))]] w):=by
 refine a1 [.pointer p] func268 ntmps268 results268 ?_
 have a:=Gr (o:=o) (p:=p) (u:=.func (.func 296) #[] #[]) j
 refine bm 6 a j (λr w b=>ao 1 j j ?_)
 exact b
theorem Gs{ax aJ:Nat}{p:Option Addr}{m:List (Int×Value)}(V:m.length<=1000000):Iter prog 319 #[Z ax,Z aJ] [R ax #[.pointer p] 280,[(aJ,.cells #[.func (.func 296) #[] #[]] 36 (0,0))]] (λ_ w=>dG 329 w p m) (λ_=>True) (λq:Int×Value=> #[bu q.1,q.2]) (pc m) (λxs=>xs=dk m):=by
 intro l an aC ae o a c Q _ A az af
 show Calls _ _ #[ey l,Z ax,Z aJ] o _
 obtain⟨h,D⟩:∃h,h=av ([R ax #[.pointer p] 280,[(aJ,.cells #[.func (.func 296) #[] #[]] 36 (0,0))]]++ae):=⟨_,j⟩
 have a:C o h (R ax #[.pointer p] 280::[(aJ,.cells #[.func (.func 296) #[] #[]] 36 (0,0))]::ae) o:=D▸a
 rw [<-D]
 have F:=Q
 refine a1 [ey l,Z ax,Z aJ] func319 ntmps319 results319 (au 3 j (aw (C.aj a) j) (aT 1 j j (λeP=>?_) (λeP=>?_)))
 .refine ao 0 j j ?_
  obtain⟨rfl,rfl⟩:=F.jg eP
  exact⟨ae,a,.inl ⟨[],(by show []=dk [];simp),c⟩⟩
 obtain⟨u,ag,I,rfl,f,Y,hm⟩:=F.jj eP
 have X:(m.map Prod.fst).Nodup:=hm.nodup (P:=prog) (cZ:=3)
 refine au 3 j (aw (C.aj a) j) (au 2 j (cell_of f j) ?_)
 have g:=CU hm Y
 refine bm 0 g j (λr w⟨d,s,ad⟩=>?_)
 subst s
 have c:=A _ _ _ _ [] c ad.bare (by simp)
 have a:=a.aN ad
 have J:=ad
 have g:=Ev (o:=w) (ag:=d)
 refine bm 4 g j (λr w⟨n,s,ad⟩=>?_)
 subst s
 have c:=A _ _ _ _ [] c ad.bare (by simp)
 have a:=a.aN ad
 have G:o.heap.size<=n/\o.heap.size<=d:=by
  have M:=ad.own n (by simp [av])
  have N:=J.own d (by simp [av])
  have aq:=J.size
  simp at M N
  omega
 have g:=qM (Ew (ax:=n) (ag:=d) hm) V a.cE
 refine bm 0 g j (λr w⟨ak,E,ad⟩=>?_)
 have K:n∉av ae/\d∉av ae:=⟨fr (fr (fr a.jf)),fr (fr a.drop.jf)⟩
 have c:=A _ _ _ _ [n,d] c ad.bare (by intro b f;simp at f;rcases f with rfl|rfl<;>first|exact⟨G.1,K.1⟩|exact⟨G.2,K.2⟩)
 have a:=a.cD ad
 have a:C o h (R ax #[Z u] 280::[(aJ,.cells #[.func (.func 296) #[] #[]] 36 (0,0))]::[(d,I)]::ak::ae) w:=a.drop.f2.f3.f1
 obtain⟨L,gV,rfl,_,_,_,_⟩:=E.rd a.f3
 refine cY 3 j (cA:=Nat×List (List Chunk)) (λi=>[(0,ey l),(2,Z aJ),(4,.map (some d)),(16,.slice L m.length gV),(17,.int .i64 (m.length:Nat)),(18,.int .i64 (i.1:Nat))])
  (λi w=>i.1<=m.length/\an ((dk m).take i.1) i.2 w/\C o h (R ax #[Z u] 280::[(aJ,.cells #[.func (.func 296) #[] #[]] 36 (0,0))]::[(d,I)]::ak::i.2) w) (λi=>m.length-i.1) (0,ae) ⟨j,j,j,j,j,j,ba⟩ ⟨ch _,by simpa using c,a⟩ ?_
 rintro⟨i,ah⟩ w ⟨S,c,a⟩
 dsimp only at S c a⊢
 refine aT 4 j j (λx=>?_) (λx=>?_)
 .have B:i<m.length:=by have:=br x;omega
  have t:i<(dk m).length:=by rw [iv];exact B
  obtain⟨_,_,e,_,_,aa,_⟩:=E.rd a.f3
  cases e
  have U:((jI (m.map Prod.fst)).map bu)[i]? =some (bu (dk m)[i].1):=by
   rw [<-qQ,gn,gn,ck t];rfl
  refine ar 5 j (fL j j j j aa (v:=bu (dk m)[i].1) (by simpa using U) B (λap O ay=>?_))
  subst O
  refine au 0 j (by assumption) (au 3 j (a.f1.cell j) ?_)
  have g:=BO (o:=w) (k:=bu (dk m)[i].1)
  refine ar 1 j (hE j j j j g (λr aB⟨s,hw⟩=>?_))
  subst s
  subst hw
  refine ar 1 j (b2 25 (.bool true) j (aL Value.bool (j)) ?_)
  have W:a2 m (dk m)[i].1=some (dk m)[i].2:=nf X (n1.1 (ek t))
  refine ar 4 j (px hm (a.f2.first) j j j j ?_)
  refine b2 30 ((dk m)[i].2) j (by rw [W];rfl) ?_
  obtain⟨am,ab⟩:=qN t
  have ai:=af ((dk m).take i) (dk m)[i] ah _ ⟨am,ab⟩ c (C.jl (H:=[R ax #[Z u] 280,[(aJ,.cells #[.func (.func 296) #[] #[]] 36 (0,0))],[(d,I)],ak]) a)
  refine jN j j j j ai (λb w⟨aA,al,f⟩=>?_)
  have a:=C.jd (H:=[R ax #[Z u] 280,[(aJ,.cells #[.func (.func 296) #[] #[]] 36 (0,0))],[(d,I)],ak]) a al
  refine aT 2 j j (λy=>?_) (λy=>?_)
  .refine ao 0 j j ?_
   have z:b=false:=by cases b<;>first|rfl|exact absurd y (by decide)
   subst z
   exact⟨aA,a.f3.drop.f2.drop,.inr (by simpa using f)⟩
  refine bt 2 j j j (c2 i (by omega)) (bX 1 j ?_)
  have z:b=true:=by cases b<;>first|rfl|exact absurd y (by decide)
  subst z
  refine⟨(i+1,aA),⟨j,j,j,j,j,j,ba⟩,⟨B,?_,a⟩,by dsimp only;omega⟩
  dsimp only
  rw [qP t]
  simpa using f
 refine ao 1 j j ?_
 have T:i=m.length:=by have:=bw x;omega
 subst T
 have ac:(dk m).take m.length=dk m:=by rw [<-iv m,gy]
 rw [ac] at c
 exact⟨ah,a.f3.drop.f2.drop,.inl ⟨_,j,c⟩⟩
theorem BQ{o:World}{k:Value}:Calls prog 304 #[k] o (aS λr w=>r= .bool true/\w=o):=by
 refine a1 [k] func304 ntmps304 results304 ?_
 refine ao 6 j j ?_
 exact⟨j,j⟩
theorem Gw{o:World}{p:Option Addr}{u:Value}(c:u.cells= #[u]):Calls prog 303 #[.pointer p,u] o (aS λr w=>∃ax aJ,r= .func (.func 325) #[] #[Z ax,Z aJ]/\C o [] [R ax #[.pointer p] 217,R aJ #[u] 36] w):=by
 have a:Own [] o:=C.start o
 refine a1 [.pointer p,u] func303 ntmps303 results303 (bP 2 a j j (λaJ w a=>bP 0 a j j (λb w a=>ar 3 j (gR j j j j ?_))))
 refine ao 1 j j (⟨aJ,b,j,?_⟩)
 rw [c] at a
 exact a.f1
theorem wG{o:World}{p:Option Addr}:Calls prog 278 #[.pointer p] o (aS λr w=>∃ax aJ,r= .func (.func 325) #[] #[Z ax,Z aJ]/\C o [] [R ax #[.pointer p] 217,[(aJ,.cells #[.func (.func 304) #[] #[]] 36 (0,0))]] w):=by
 refine a1 [.pointer p] func278 ntmps278 results278 ?_
 have a:=Gw (o:=o) (p:=p) (u:=.func (.func 304) #[] #[]) j
 refine bm 6 a j (λr w b=>ao 1 j j ?_)
 exact b
theorem zG{ax aJ:Nat}{p:Option Addr}{m:List (Int×Value)}(V:m.length<=1000000):Iter prog 325 #[Z ax,Z aJ] [R ax #[.pointer p] 217,[(aJ,.cells #[.func (.func 304) #[] #[]] 36 (0,0))]] (λ_ w=>dG 291 w p m) (λ_=>True) (λq:Int×Value=> #[bu q.1,q.2]) (pc m) (λxs=>xs=dk m):=by
 intro l an aC ae o a c Q _ A az af
 show Calls _ _ #[ey l,Z ax,Z aJ] o _
 obtain⟨h,D⟩:∃h,h=av ([R ax #[.pointer p] 217,[(aJ,.cells #[.func (.func 304) #[] #[]] 36 (0,0))]]++ae):=⟨_,j⟩
 have a:C o h (R ax #[.pointer p] 217::[(aJ,.cells #[.func (.func 304) #[] #[]] 36 (0,0))]::ae) o:=D▸a
 rw [<-D]
 have F:=Q
 refine a1 [ey l,Z ax,Z aJ] func325 ntmps325 results325 (au 3 j (aw (C.aj a) j) (aT 1 j j (λeP=>?_) (λeP=>?_)))
 .refine ao 0 j j ?_
  obtain⟨rfl,rfl⟩:=F.jg eP
  exact⟨ae,a,.inl ⟨[],(by show []=dk [];simp),c⟩⟩
 obtain⟨u,ag,I,rfl,f,Y,hm⟩:=F.jj eP
 have X:(m.map Prod.fst).Nodup:=hm.nodup (P:=prog) (cZ:=3)
 refine au 3 j (aw (C.aj a) j) (au 2 j (cell_of f j) ?_)
 have g:=CW hm Y
 refine bm 0 g j (λr w⟨d,s,ad⟩=>?_)
 subst s
 have c:=A _ _ _ _ [] c ad.bare (by simp)
 have a:=a.aN ad
 have J:=ad
 have g:=EC (o:=w) (ag:=d)
 refine bm 4 g j (λr w⟨n,s,ad⟩=>?_)
 subst s
 have c:=A _ _ _ _ [] c ad.bare (by simp)
 have a:=a.aN ad
 have G:o.heap.size<=n/\o.heap.size<=d:=by
  have M:=ad.own n (by simp [av])
  have N:=J.own d (by simp [av])
  have aq:=J.size
  simp at M N
  omega
 have g:=qM (Ey (ax:=n) (ag:=d) hm) V a.cE
 refine bm 0 g j (λr w⟨ak,E,ad⟩=>?_)
 have K:n∉av ae/\d∉av ae:=⟨fr (fr (fr a.jf)),fr (fr a.drop.jf)⟩
 have c:=A _ _ _ _ [n,d] c ad.bare (by intro b f;simp at f;rcases f with rfl|rfl<;>first|exact⟨G.1,K.1⟩|exact⟨G.2,K.2⟩)
 have a:=a.cD ad
 have a:C o h (R ax #[Z u] 217::[(aJ,.cells #[.func (.func 304) #[] #[]] 36 (0,0))]::[(d,I)]::ak::ae) w:=a.drop.f2.f3.f1
 obtain⟨L,gV,rfl,_,_,_,_⟩:=E.rd a.f3
 refine cY 3 j (cA:=Nat×List (List Chunk)) (λi=>[(0,ey l),(2,Z aJ),(4,.map (some d)),(16,.slice L m.length gV),(17,.int .i64 (m.length:Nat)),(18,.int .i64 (i.1:Nat))])
  (λi w=>i.1<=m.length/\an ((dk m).take i.1) i.2 w/\C o h (R ax #[Z u] 217::[(aJ,.cells #[.func (.func 304) #[] #[]] 36 (0,0))]::[(d,I)]::ak::i.2) w) (λi=>m.length-i.1) (0,ae) ⟨j,j,j,j,j,j,ba⟩ ⟨ch _,by simpa using c,a⟩ ?_
 rintro⟨i,ah⟩ w ⟨S,c,a⟩
 dsimp only at S c a⊢
 refine aT 4 j j (λx=>?_) (λx=>?_)
 .have B:i<m.length:=by have:=br x;omega
  have t:i<(dk m).length:=by rw [iv];exact B
  obtain⟨_,_,e,_,_,aa,_⟩:=E.rd a.f3
  cases e
  have U:((jI (m.map Prod.fst)).map bu)[i]? =some (bu (dk m)[i].1):=by
   rw [<-qQ,gn,gn,ck t];rfl
  refine ar 5 j (fL j j j j aa (v:=bu (dk m)[i].1) (by simpa using U) B (λap O ay=>?_))
  subst O
  refine au 0 j (by assumption) (au 3 j (a.f1.cell j) ?_)
  have g:=BQ (o:=w) (k:=bu (dk m)[i].1)
  refine ar 1 j (hE j j j j g (λr aB⟨s,hw⟩=>?_))
  subst s
  subst hw
  refine ar 1 j (b2 25 (.bool true) j (aL Value.bool (j)) ?_)
  have W:a2 m (dk m)[i].1=some (dk m)[i].2:=nf X (n1.1 (ek t))
  refine ar 4 j (px hm (a.f2.first) j j j j ?_)
  refine b2 30 ((dk m)[i].2) j (by rw [W];rfl) ?_
  obtain⟨am,ab⟩:=qN t
  have ai:=af ((dk m).take i) (dk m)[i] ah _ ⟨am,ab⟩ c (C.jl (H:=[R ax #[Z u] 217,[(aJ,.cells #[.func (.func 304) #[] #[]] 36 (0,0))],[(d,I)],ak]) a)
  refine jN j j j j ai (λb w⟨aA,al,f⟩=>?_)
  have a:=C.jd (H:=[R ax #[Z u] 217,[(aJ,.cells #[.func (.func 304) #[] #[]] 36 (0,0))],[(d,I)],ak]) a al
  refine aT 2 j j (λy=>?_) (λy=>?_)
  .refine ao 0 j j ?_
   have z:b=false:=by cases b<;>first|rfl|exact absurd y (by decide)
   subst z
   exact⟨aA,a.f3.drop.f2.drop,.inr (by simpa using f)⟩
  refine bt 2 j j j (c2 i (by omega)) (bX 1 j ?_)
  have z:b=true:=by cases b<;>first|rfl|exact absurd y (by decide)
  subst z
  refine⟨(i+1,aA),⟨j,j,j,j,j,j,ba⟩,⟨B,?_,a⟩,by dsimp only;omega⟩
  dsimp only
  rw [qP t]
  simpa using f
 refine ao 1 j j ?_
 have T:i=m.length:=by have:=bw x;omega
 subst T
 have ac:(dk m).take m.length=dk m:=by rw [<-iv m,gy]
 rw [ac] at c
 exact⟨ah,a.f3.drop.f2.drop,.inl ⟨_,j,c⟩⟩
theorem EQ{l:List UInt8}(h:l.length=32):l=[l.getD 0 0,l.getD 1 0,l.getD 2 0,l.getD 3 0,l.getD 4 0,l.getD 5 0,l.getD 6 0,l.getD 7 0,l.getD 8 0,l.getD 9 0,l.getD 10 0,l.getD 11 0,l.getD 12 0,l.getD 13 0,l.getD 14 0,l.getD 15 0,l.getD 16 0,l.getD 17 0,l.getD 18 0,l.getD 19 0,l.getD 20 0,l.getD 21 0,l.getD 22 0,l.getD 23 0,l.getD 24 0,l.getD 25 0,l.getD 26 0,l.getD 27 0,l.getD 28 0,l.getD 29 0,l.getD 30 0,l.getD 31 0]:=by
 apply ny
 intro i
 match i with
 |0=>rw [ck (show 0<l.length by omega)];simp [List.getD,ck (show 0<l.length by omega)]
 |1=>rw [ck (show 1<l.length by omega)];simp [List.getD,ck (show 1<l.length by omega)]
 |2=>rw [ck (show 2<l.length by omega)];simp [List.getD,ck (show 2<l.length by omega)]
 |3=>rw [ck (show 3<l.length by omega)];simp [List.getD,ck (show 3<l.length by omega)]
 |4=>rw [ck (show 4<l.length by omega)];simp [List.getD,ck (show 4<l.length by omega)]
 |5=>rw [ck (show 5<l.length by omega)];simp [List.getD,ck (show 5<l.length by omega)]
 |6=>rw [ck (show 6<l.length by omega)];simp [List.getD,ck (show 6<l.length by omega)]
 |7=>rw [ck (show 7<l.length by omega)];simp [List.getD,ck (show 7<l.length by omega)]
 |8=>rw [ck (show 8<l.length by omega)];simp [List.getD,ck (show 8<l.length by omega)]
 |9=>rw [ck (show 9<l.length by omega)];simp [List.getD,ck (show 9<l.length by omega)]
 |10=>rw [ck (show 10<l.length by omega)];simp [List.getD,ck (show 10<l.length by omega)]
 |11=>rw [ck (show 11<l.length by omega)];simp [List.getD,ck (show 11<l.length by omega)]
 |12=>rw [ck (show 12<l.length by omega)];simp [List.getD,ck (show 12<l.length by omega)]
 |13=>rw [ck (show 13<l.length by omega)];simp [List.getD,ck (show 13<l.length by omega)]
 |14=>rw [ck (show 14<l.length by omega)];simp [List.getD,ck (show 14<l.length by omega)]
 |15=>rw [ck (show 15<l.length by omega)];simp [List.getD,ck (show 15<l.length by omega)]
 |16=>rw [ck (show 16<l.length by omega)];simp [List.getD,ck (show 16<l.length by omega)]
 |17=>rw [ck (show 17<l.length by omega)];simp [List.getD,ck (show 17<l.length by omega)]
 |18=>rw [ck (show 18<l.length by omega)];simp [List.getD,ck (show 18<l.length by omega)]
 |19=>rw [ck (show 19<l.length by omega)];simp [List.getD,ck (show 19<l.length by omega)]
 |20=>rw [ck (show 20<l.length by omega)];simp [List.getD,ck (show 20<l.length by omega)]
 |21=>rw [ck (show 21<l.length by omega)];simp [List.getD,ck (show 21<l.length by omega)]
 |22=>rw [ck (show 22<l.length by omega)];simp [List.getD,ck (show 22<l.length by omega)]
 |23=>rw [ck (show 23<l.length by omega)];simp [List.getD,ck (show 23<l.length by omega)]
 |24=>rw [ck (show 24<l.length by omega)];simp [List.getD,ck (show 24<l.length by omega)]
 |25=>rw [ck (show 25<l.length by omega)];simp [List.getD,ck (show 25<l.length by omega)]
 |26=>rw [ck (show 26<l.length by omega)];simp [List.getD,ck (show 26<l.length by omega)]
 |27=>rw [ck (show 27<l.length by omega)];simp [List.getD,ck (show 27<l.length by omega)]
 |28=>rw [ck (show 28<l.length by omega)];simp [List.getD,ck (show 28<l.length by omega)]
 |29=>rw [ck (show 29<l.length by omega)];simp [List.getD,ck (show 29<l.length by omega)]
 |30=>rw [ck (show 30<l.length by omega)];simp [List.getD,ck (show 30<l.length by omega)]
 |31=>rw [ck (show 31<l.length by omega)];simp [List.getD,ck (show 31<l.length by omega)]
 |i+32=>rw [kA (by omega),kA (by simp)]
theorem C.gk{o w:World}{F:List Nat}{ae:List (List Chunk)}{b:Nat}{c a:Array Value}{e:TypeId}{e2:Nat×Nat}(h:C o F ([(b,.cells c e e2)]::ae) w)(d:c=a):C o F ([(b,.cells a e e2)]::ae) w:=d▸h
def cU(g:al)(k s v:Int)(sum:List UInt8)(f:Int):aG:=⟨k,s,v,sum,f,g.cu f (aG.lN ⟨k,s,v,sum,f,cK⟩)⟩
theorem iU(g:al)(k s v:Int)(sum:List UInt8)(f:Int)(h:sum.length=32):(cU g k s v sum f).ok:=⟨h,al.ea _ _ _⟩
def cP(g:al)(x:aG):Bool:=g.check x.f x.lN x.tag
theorem z2(x:aG)(h:x.ok):x.lN.length<=100:=by
 have a:=gq [5,x.k,x.s,x.v]
 have b:=gq [x.f]
 simp only [aG.lN,ca,h.1]
 simp only [ep,ga] at a b
 omega
theorem aG.HW(x:aG)(d:x.ok)(t:List UInt8)(c:t.length=32):setCells x.cs.toArray 36 (aE t)=({x with tag:=t}:aG).cs.toArray:=by
 apply rB
 intro i
 have g:x.cs.length=68:=x.len d
 have j:x.cs=(ab x.k::ab x.s::ab x.v::(aE x.sum++[ab x.f]))++aE x.tag:=by simp [aG.cs]
 have h:({x with tag:=t}:aG).cs=(ab x.k::ab x.s::ab x.v::(aE x.sum++[ab x.f]))++aE t:=by simp [aG.cs]
 have a:(ab x.k::ab x.s::ab x.v::(aE x.sum++[ab x.f])).length=36:=by simp [ds,d.1]
 rw [o3 _ _ _ (by rw [ds,c,hq,g];decide)]
 simp only [mY]
 rw [j,h,ds,c]
 by_cases b:36<=i/\i<36+32
 .rw [a6 b,jy (by rw [a];exact b.1),a]
 .rw [aF b]
  by_cases e:i<36
  .rw [iz (by rw [a];exact e),iz (by rw [a];exact e)]
  .rw [kA (by rw [ca,a,ds,d.2];omega),List.getElem?_eq_none (by rw [List.length_append,a,ds,c];omega)]
theorem oH{o:World}{g:al}(n:g.at o)(t:g.ok){k s v f:Int}{sum:List UInt8}(aM:sum.length=32):Calls prog 83 #[g.p,ab k,ab s,ab v,.agg (aE sum).toArray,ab f] o (aS λr w=>r= .agg (cU g k s v sum f).cs.toArray/\C o [] [] w):=by
 have a:Own [] o:=C.start o
 have b:(⟨k,s,v,sum,f,cK⟩:aG).ok:=⟨aM,j⟩
 have x:(aE sum).length=32:=by rw [ds,aM]
 refine e7 [g.p,ab k,ab s,ab v,.agg (aE sum).toArray,ab f] (fn:=f83) func83 ntmps83 ?_
 refine bP 2 a j j (λz w a=>?_)
 refine cn 0 a j (λA w a=>?_)
 refine bS 5 (U:=aE sum) j j x a.f1.bN ?_
 refine ar 1 j (cO (c:=(⟨k,s,v,sum,f,cK⟩:aG).cs.toArray) j j j (λ_=>by rw [EQ aM];kernel_rfl) ?_)
 refine cn 0 a j (λl w a=>?_)
 refine cp 0 a j j j (by simpa using(⟨k,s,v,sum,f,cK⟩:aG).one) (by rw [List.size_toArray];exact(⟨k,s,v,sum,f,cK⟩:aG).len b) (λw a=>?_)
 have a:=C.whole (U:=(⟨k,s,v,sum,f,cK⟩:aG).cs) a (by rw [(⟨k,s,v,sum,f,cK⟩:aG).len b];rfl)
 refine bS 4 (U:=(⟨k,s,v,sum,f,cK⟩:aG).cs) j j ((⟨k,s,v,sum,f,cK⟩:aG).len b) a.bN ?_
 have e:=AB (o:=w) b
 refine bm 0 e j (λr w⟨G,m,ad⟩=>?_)
 have a:=a.aN ad
 obtain⟨y,a1,rfl,B,_,u,_⟩:=m.rd a
 have e:=nm (n.st a (al.off.nil g)) t (i:=f) u (by have:=z2 _ b;omega) (d:=a1)
 refine bm 0 e j (λr w⟨h,q⟩=>?_)
 have h:r= .agg (aE (cU g k s v sum f).tag).toArray:=h
 subst h
 have a:=(a.aN q).f1
 refine ar 1 j (c5 a j j j (by simpa using fH (cU g k s v sum f).tag) (by rw [List.size_toArray,ds];exact(iU g k s v sum f aM).2) (by rw [List.size_toArray,(⟨k,s,v,sum,f,cK⟩:aG).len b];decide) (λw a=>?_))
 have a:=C.gk a ((⟨k,s,v,sum,f,cK⟩:aG).HW b (cU g k s v sum f).tag (iU g k s v sum f aM).2)
 have a:C o [] (R l (cU g k s v sum f).cs.toArray 108::_) w:=a
 refine bS 2 (U:=(cU g k s v sum f).cs) j j ((cU g k s v sum f).len (iU g k s v sum f aM)) a.bN ?_
 have a:=a.f2
 refine cp 0 a j j j (by simpa using(cU g k s v sum f).one) (by rw [List.size_toArray];exact(cU g k s v sum f).len (iU g k s v sum f aM)) (λw a=>?_)
 have a:=C.whole (U:=(cU g k s v sum f).cs) a (by rw [(cU g k s v sum f).len (iU g k s v sum f aM)];rfl)
 refine bJ 0 j ⟨_,hb (U:=(cU g k s v sum f).cs) results83 j j ((cU g k s v sum f).len (iU g k s v sum f aM)) a.bN,?_⟩
 exact⟨j,a.bare⟩
theorem r3{o:World}{g:al}(e:g.at o)(h:g.ok){x:aG}(b:x.ok):Calls prog 155 #[g.p,.agg x.cs.toArray] o (aS λr w=>r= .bool (cP g x)/\C o [] [] w):=by
 have a:Own [] o:=C.start o
 refine a1 [g.p,.agg x.cs.toArray] func155 ntmps155 results155 (bP 2 a j j (λc w a=>?_))
 have a:=a.drew
 refine bz 2 j (λw=>∃ae,C o [] ([R c (x).cs.toArray 108]++ae) w) ⟨_,a⟩ (af 0 2 j (bT 2 j (λw⟨_,a⟩=>a.cell (x.eM b)) (aV 3 j (λw⟨_,a⟩=>dc (U:=x.cs) j j (x.len b) a.bN) (af 5 1 j (aV 6 j (λw⟨_,a⟩=>dc (U:=aE x.tag) j j (by rw [ds];exact b.2) (a.i3 (off:=0+36) (U:=aE x.tag) (x.rP b))) (aW 4 j (cN j j j (AB b) (λr w⟨G,d,ad⟩=>?_))))))))
 have a:=a.aN ad
 obtain⟨k,a1,rfl,l,_,i,_⟩:=d.rd a
 have a:=a.f1
 refine an ⟨⟨_,a⟩,?_⟩
 refine aW 7 j (bF j j j (rK (e.st a (al.off.nil g)) h i (by have:=z2 _ b;omega) b.2) (λw f=>?_))
 have a:=(a.aN f)
 refine an ⟨⟨_,a⟩,?_⟩
 refine af 8 1 j (bO (ao 0 j j ?_))
 exact⟨j,a.bare⟩
theorem D8{l:List Int}{k:Int}{i:Nat}(h:i=l.length)(aP:k∉l.take i):k∉l:=by subst h;rwa [gy] at aP
theorem Ee{o:World}{B:Option Addr}{l:List Int}{c:Nat}{k:Int}(m:Rd o B (l.map bu))(s:l.length<=1000000):Calls prog 282 #[.slice B l.length c,bu k] o (aS λr w=>(∃J:Int,r= .int .i64 J/\(0<=J↔k∈l))/\w=o):=by
 refine a1 [.slice B l.length c,bu k] func282 ntmps282 results282 (cY 10 j (cA:=Nat) (λi=>[(0,.slice B l.length c),(1,bu k),(7,.int .i64 (l.length:Nat)),(8,.int .i64 (i:Nat))]) (λi w=>i<=l.length/\k∉l.take i/\w=o) (λi=>l.length-i) 0 ⟨j,j,j,j,ba⟩ ⟨ch _,by simp,j⟩ ?_)
 rintro i w ⟨q,aP,rfl⟩
 refine aT 4 j j (λd=>?_) (λd=>?_)
 .have a:i<l.length:=by have:=br d;omega
  refine ar 12 j (fL j j j j m (v:=bu l[i]) (by simp [a]) a (λn e p=>?_))
  subst e
  refine au 0 j (by assumption) (aT 1 j j (λb=>?_) (λb=>?_))
  .refine ao 4 j j ?_
   have he:k=l[i]:=dX.1 b
   exact⟨⟨_,j,⟨λ_=>by rw [he];exact ek a,λ_=>by omega⟩⟩,j⟩
  refine bt 2 j j j (c2 i (by omega)) (bX 1 j (⟨i+1,⟨j,j,j,j,ba⟩,⟨a,?_,j⟩,by omega⟩))
  rw [fF a,dA]
  have g:k≠l[i]:=by have:=fq.1 b;exact this
  simp [aP,g]
 refine ao 4 j j ?_
 have f:i=l.length:=by have:=bw d;omega
 exact⟨⟨-1,j,⟨λh=>by omega,λh=>absurd h (D8 f aP)⟩⟩,j⟩
theorem C6{o:World}{B:Option Addr}{l:List Int}{c:Nat}{k:Int}(g:Rd o B (l.map bu))(f:l.length<=1000000):Calls prog 253 #[.slice B l.length c,bu k] o (aS λr w=>r= .bool (decide (k∈l))/\w=o):=by
 refine a1 [.slice B l.length c,bu k] func253 ntmps253 results253 ?_
 have d:=Ee (c:=c) (k:=k) g f
 refine bm 7 d j (λr w⟨⟨J,e,a⟩,hw⟩=>?_)
 subst e
 subst hw
 refine ao 2 j j (⟨aL Value.bool ?_,j⟩)
 by_cases h:k∈l
 .rw [jb h];exact jb (a.2 h)
 rw [ff h];exact ff (λb=>h (a.1 b))
end Go.Proofs.YtdcbpdlhhkcjnaaGreatDoor.R
