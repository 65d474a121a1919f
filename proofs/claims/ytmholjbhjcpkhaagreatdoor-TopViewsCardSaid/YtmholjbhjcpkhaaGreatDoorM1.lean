/- Part 1 of the proof. -/
import Derived.Test.YtmholjbhjcpkhaaGreatDoorM0
set_option linter.unusedVariables false
set_option linter.unusedSimpArgs false
set_option linter.unusedSectionVars false
set_option maxRecDepth 20000
set_option maxHeartbeats 4000000
namespace Go.Proofs.YtmholjbhjcpkhaaGreatDoor.R
open Go.Proofs.Tryz Go Go.RowKit
abbrev fI(P:Program)(n:Fr)(ops:Array Oper)(a7:World->Prop)(k:Nat)(l:Array Bool)(Z:Env)(w:World)(Q:d7):Prop:=a7 w->eM P n ops a7 k l Z w (hJ Q)
theorem AQ{P:Program}{n:Fr}{ops:Array Oper}{todo:List Oper}{Z:Env}{w:World}{Q hz:d7}(h:O P n ops todo Z w Q)(c:∀e Z w,Q e Z w->hz e Z w):O P n ops todo Z w hz:=λa b hm=>
 kE (λ_ _ _⟨k,m,f,d,h⟩=>⟨k,m,f,d,c _ _ _ h⟩) _ _ _ (h a b hm)
abbrev okB(a7:World->Prop)(T:Env->World->Prop):d7:=λe Z w=>match e with
 | .normal=>a7 w/\T Z w
 |_=>False
section
variable {P:Program} {n:Fr} {Z di:Env} {w:World} {Q:d7} {ops:Array Oper} {a7:World->Prop} {k:Nat} {l:Array Bool} {I:Oper}
theorem u0{todo:List Oper}{l:Array Bool}(h:O P n ops todo Z w (okB a7 λZ w=>fI P n ops a7 k l Z w Q)):O P n ops todo Z w (λe Z w=>match e with| .normal=>a7 w/\eM P n ops a7 k l Z w (hJ Q)|_=>False):=
 AQ h λe _ _ a=>by cases e<;>first|exact⟨a.1,a.2 a.1⟩|exact a
theorem aX(i:Nat)(a:ops[i]? =some I)(h:O P n ops [I] Z w (okB a7 λZ w=>fI P n ops a7 k (l.setIfInBounds i true) Z w Q))(b:Region.ready .any ops l=[i]:=by kernel_rfl):fI P n ops a7 (k+1) l Z w Q:=λ_=>vM i a b (u0 h)
theorem aS(i R:Nat){a b:Oper}(e:ops[i]? =some a)(f:ops[R]? =some b)
 (c:O P n ops [a] Z w (okB a7 λZ w=>fI P n ops a7 k (l.setIfInBounds i true) Z w Q)) (d:O P n ops [b] Z w (okB a7 λZ w=>fI P n ops a7 k (l.setIfInBounds R true) Z w Q)) (g:Region.ready .any ops l=[i,R]:=by kernel_rfl):fI P n ops a7 (k+1) l Z w Q:=
 λ_=>lc i R e f g (u0 c) (u0 d)
theorem ek(d:Nat){b:Bool}(c:look Z d=some (.bool b))(g:b=true->fI P n ops a7 k l ((d,.bool true)::Z) w Q)(f:b=false->fI P n ops a7 k l ((d,.bool false)::Z) w Q):fI P n ops a7 k l Z w Q:=
 λa=>s5 d c (λe=>g e a) (λe=>f e a)
theorem iF(d:Nat){u:Value}(v:Value)(b:look Z d=some u)(c:u=v)(h:fI P n ops a7 k l ((d,v)::Z) w Q):fI P n ops a7 k l Z w Q:=λa=>qG d v b c (h a)
theorem dK(i:Nat)(a:ops[i]? =some I)(h:O P n ops [I] Z w (λe Z w=>match e with| .normal=>eM P n ops a7 k (l.setIfInBounds i true) Z w (hJ Q)|_=>False))(c:Region.ready .any ops l=[i]:=by kernel_rfl)(b:lx ops i=true:=by kernel_rfl):fI P n ops a7 (k+1) l Z w Q:=λ_=>vL i a c b h
theorem bL{a:K}(h:O P n #[] [] Z w (den P n a))(b:Region.ready .any ops l=[]:=by kernel_rfl):fI P n ops a7 k l Z w (den P n a):=λ_=>c5 h b
variable [fi P]
theorem bx [qF P]{todo:List Oper}{k dk:K}(m:Nat){id:Nat}{os:Array Oper}(h:next P n m ⟨ops,todo,k,Z⟩=some (.region id os true,dk,di))(a7:World->Prop)(a:a7 w.drew)
 (b:fI P n os a7 os.size (Array.replicate os.size false) di w.drew (den P n dk)):O P n ops todo Z w (den P n k):=l2 m h a7 (b a)
theorem ag(a m:Nat)(d:ot P n ops (List.range' a m) Z=some di)(h:fI P n ops a7 k (qh l (List.range' a m)) di w Q)(b:(calm ops&&k1 ops l (List.range' a m))=true:=by kernel_rfl):fI P n ops a7 (k+m) l Z w Q:=λc=>by
 simp only [d8] at b;exact sU b.1 c (List.range' a m) (by rw [List.length_range'];exact Nat.beq_refl _) b.2 d (h c)
theorem ga(m:Nat)(is:List Nat)(c:ot P n ops is Z=some di)(h:fI P n ops a7 k (qh l is) di w Q)(b:(calm ops&&Nat.beq is.length m&&k1 ops l is)=true:=by kernel_rfl):fI P n ops a7 (k+m) l Z w Q:=λa=>fM m is c a (h a) b
theorem bl(i:Nat){v:Value}(f:ops[i]? =some I)(g:∀w,a7 w->∀a,cN Z n.n a->(execOp a.eval I).run P w= .ok (.value v) w)(h:fI P n ops a7 k (l.setIfInBounds i true) (cK Z I.dst v) w Q)
 (e:c0 ops Z I.guard=some true:=by rfl) (d:da n I.dst=true:=by rfl) (c:(calm ops&&k1 ops l [i])=true:=by kernel_rfl):fI P n ops a7 (k+1) l Z w Q:=λb=>eL i f b g (h b) e d c
def tI(P:Program)[fi P](F:Fr)(ops:Array Oper)(i:Nat)(Z:Env):Option (Addr×Option Nat):=match ops[i]? with
 |some ⟨dst,.load t x,_,_,_,g⟩=>match fi.one P t with
  |true=>match c0 ops Z g with
   |some true=>match da F dst with
    |true=>match bt Z x with
     |some (.pointer (some A))=>some (A,dst)
     |_=>none
    |false=>none
   |_=>none
  |false=>none
 |_=>none
theorem b4(i:Nat){A:Addr}{dst:Option Nat}{v:Value}(h:tI P n ops i Z=some (A,dst))(p:∀w,a7 w->w.cell? A=some v)(ad:fI P n ops a7 k (l.setIfInBounds i true) (cK Z dst v) w Q)
 (j:(calm ops&&k1 ops l [i])=true:=by kernel_rfl):fI P n ops a7 (k+1) l Z w Q:=λa=>by
 unfold tI at h;split at h
 .rename_i o;split at h
  .rename_i b;split at h
   .rename_i c;split at h
    .rename_i e;split at h
     .rename_i f;cases h;obtain⟨d,m,g⟩:=fi.u5 _ b;have:bC P _ d:=⟨m⟩;exact eL i o a (λw hw=>hv f g (p w hw)) (ad a) c e j
     .cases h
    .cases h
   .cases h
  .cases h
 .cases h
theorem a2{b:Nat}{ae:List (List Chunk)}{I:Obj}[h:Has b ae I]:Has b ae I:=h
theorem a8(i:Nat){o:World}{F:List Nat}{K:List (List Chunk)}{b off:Nat}{c:Array Value}{e:TypeId}{e0:Nat×Nat}{dst:Option Nat}{v:Value}(h:tI P n ops i Z=some (⟨b,off,none⟩,dst))(f:Has b K (.cells c e e0))(g:c[off]? =some v)
 (ad:fI P n ops (λw=>∃ae,C o F (K++ae) w) k (l.setIfInBounds i true) (cK Z dst v) w Q) (d:(calm ops&&k1 ops l [i])=true:=by kernel_rfl):fI P n ops (λw=>∃ae,C o F (K++ae) w) (k+1) l Z w Q:=
 b4 i h (λ_⟨_,a⟩=>ax (a.here (b,_) (by rw [gS];exact List.mem_append_left _ f.mem)) g) ad d
theorem br{todo hF:List Oper}{hq:Array Oper}{k dk:K}(m:Nat){f:FuncId}{dst:Option Nat}{U:List Value}{v:Value}{S:World->Prop}(a:Calls P f U.toArray w (λr aJ=>r=v/\S aJ))(h:tH P n m ⟨ops,todo,k,Z⟩=some (f,U,dst,⟨hq,hF,dk,di⟩))
 (ad:∀aJ,S aJ->O P n hq hF (cK di dst v) aJ (den P n dk)):O P n ops todo Z w (den P n k):=bk m a h λ_ aJ⟨b,aF⟩=>by subst b;exact ad aJ aF
theorem bK{dst:Option Nat}{rest:List Oper}{ty:TypeId}{pos:String}{after:Array Edge}{g:Option (Nat×Bool)}{f:FuncId}{i:Array TypeId}{args:Array Operand}{U:List Value}{v:Value}{S:World->Prop}(c:c0 ops Z g=some true)(b:da n dst=true)
 (e:fl Z args.toList=some U) (a:Calls P f U.toArray w (λr aJ=>r=v/\S aJ))
 (h:∀aJ,S aJ->O P n ops rest (cK Z dst v) aJ Q) (he:fi.pE P f=true:=by rfl):O P n ops (⟨dst,.call ⟨.value (.func f),args,i⟩,ty,pos,after,g⟩::rest) Z w Q:=
 cS c b e a (λ_ aJ⟨d,aF⟩=>by subst d;exact h aJ aF) he
end
end Go.Proofs.YtmholjbhjcpkhaaGreatDoor.R
namespace Go.Proofs.YtmholjbhjcpkhaaGreatDoor.R
open Go.Proofs.Tryz Go Go.Proofs
instance:bC prog 3 (.int .i64):=⟨underlying3⟩
instance:cq prog 3 (.int .i64 0) 1 8:=⟨by kernel_rfl⟩
instance:bC prog 4 .bool:=⟨underlying4⟩
instance:cq prog 4 (.bool false) 1 1:=⟨by kernel_rfl⟩
instance:bC prog 5 (.int .u8):=⟨underlying5⟩
instance:cq prog 5 (.int .u8 0) 1 1:=⟨by kernel_rfl⟩
instance:bC prog 9 .string:=⟨underlying9⟩
instance:cq prog 9 (.string ⟨#[]⟩) 1 16:=⟨by kernel_rfl⟩
instance:bC prog 21 (.int .i32):=⟨underlying21⟩
instance:bC prog 26 (.slice 5):=⟨underlying26⟩
instance:cq prog 26 (.slice none 0 0) 1 24:=⟨by kernel_rfl⟩
instance:bC prog 27 (.slice 3):=⟨underlying27⟩
instance:cq prog 27 (.slice none 0 0) 1 24:=⟨by kernel_rfl⟩
instance:bC prog 29 t28.desc:=⟨underlying29⟩
instance:cq prog 29 (.agg #[(.int .i64 0),(.int .i64 0),(.int .i64 0),(.int .i64 0),(.slice none 0 0),(.int .i64 0),(.slice none 0 0)]) 7 88:=⟨by kernel_rfl⟩
instance:bC prog 31 t30.desc:=⟨underlying31⟩
instance:cq prog 31 (.agg #[(.int .i64 0),(.int .i64 0),(.int .i64 0),(.slice none 0 0),(.int .i64 0),(.int .i64 0),(.int .i64 0),(.int .i64 0),(.slice none 0 0),(.int .i64 0),(.slice none 0 0)]) 11 136:=⟨by kernel_rfl⟩
instance:bC prog 36 (.slice 26):=⟨underlying36⟩
instance:cq prog 36 (.slice none 0 0) 1 24:=⟨by kernel_rfl⟩
instance:cq prog 37 (.pointer none) 1 8:=⟨by kernel_rfl⟩
instance:bC prog 48 (.pointer 88):=⟨underlying48⟩
instance:cq prog 48 (.pointer none) 1 8:=⟨by kernel_rfl⟩
instance:bC prog 54 (.pointer 142):=⟨underlying54⟩
instance:bC prog 55 (.slice 37):=⟨underlying55⟩
instance:bC prog 56 (.slice 48):=⟨underlying56⟩
instance:cq prog 56 (.slice none 0 0) 1 24:=⟨by kernel_rfl⟩
instance:bC prog 57 (.slice 73):=⟨underlying57⟩
instance:cq prog 57 (.slice none 0 0) 1 24:=⟨by kernel_rfl⟩
instance:bC prog 58 (.slice 101):=⟨underlying58⟩
instance:cq prog 58 (.slice none 0 0) 1 24:=⟨by kernel_rfl⟩
instance:bC prog 65 (.pointer 131):=⟨underlying65⟩
instance:bC prog 67 (.slice 121):=⟨underlying67⟩
instance:cq prog 67 (.slice none 0 0) 1 24:=⟨by kernel_rfl⟩
instance:cq prog 73 (.pointer none) 1 8:=⟨by kernel_rfl⟩
instance:cq prog 74 (.pointer none) 1 8:=⟨by kernel_rfl⟩
instance:bC prog 80 (.array 32 5):=⟨underlying80⟩
instance:cq prog 80 (.agg #[(.int .u8 0),(.int .u8 0),(.int .u8 0),(.int .u8 0),(.int .u8 0),(.int .u8 0),(.int .u8 0),(.int .u8 0),(.int .u8 0),(.int .u8 0),(.int .u8 0),(.int .u8 0),(.int .u8 0),(.int .u8 0),(.int .u8 0),(.int .u8 0),(.int .u8 0),(.int .u8 0),(.int .u8 0),(.int .u8 0),(.int .u8 0),(.int .u8 0),(.int .u8 0),(.int .u8 0),(.int .u8 0),(.int .u8 0),(.int .u8 0),(.int .u8 0),(.int .u8 0),(.int .u8 0),(.int .u8 0),(.int .u8 0)]) 32 32:=⟨by kernel_rfl⟩
instance:bC prog 85 (.slice 110):=⟨underlying85⟩
instance:cq prog 85 (.slice none 0 0) 1 24:=⟨by kernel_rfl⟩
instance:bC prog 92 t91.desc:=⟨underlying92⟩
instance:cq prog 92 (.agg #[(.int .i64 0),(.int .i64 0),(.int .i64 0),(.string ⟨#[]⟩),(.int .i64 0),(.int .i64 0),(.int .i64 0),(.int .i64 0),(.bool false)]) 9 80:=⟨by kernel_rfl⟩
instance:bC prog 99 (.slice 115):=⟨underlying99⟩
instance:cq prog 99 (.slice none 0 0) 1 24:=⟨by kernel_rfl⟩
instance:bC prog 101 t100.desc:=⟨underlying101⟩
instance:cq prog 101 (.agg #[(.int .i64 0),(.int .i64 0),(.int .i64 0),(.int .i64 0),(.int .i64 0),(.slice none 0 0),(.slice none 0 0),(.int .u8 0),(.int .u8 0),(.int .u8 0),(.int .u8 0),(.int .u8 0),(.int .u8 0),(.int .u8 0),(.int .u8 0),(.int .u8 0),(.int .u8 0),(.int .u8 0),(.int .u8 0),(.int .u8 0),(.int .u8 0),(.int .u8 0),(.int .u8 0),(.int .u8 0),(.int .u8 0),(.int .u8 0),(.int .u8 0),(.int .u8 0),(.int .u8 0),(.int .u8 0),(.int .u8 0),(.int .u8 0),(.int .u8 0),(.int .u8 0),(.int .u8 0),(.int .u8 0),(.int .u8 0),(.int .u8 0),(.int .u8 0)]) 39 120:=⟨by kernel_rfl⟩
instance:oO prog 101 6 6:=⟨_,_,underlying101,j,j,by kernel_rfl⟩
instance:bC prog 110 t109.desc:=⟨underlying110⟩
instance:cq prog 110 (.agg #[(.int .i64 0),(.int .i64 0),(.int .i64 0),(.int .i64 0)]) 4 32:=⟨by kernel_rfl⟩
instance:bC prog 115 t114.desc:=⟨underlying115⟩
instance:cq prog 115 (.agg #[(.int .i64 0),(.int .i64 0),(.int .i64 0),(.int .u8 0),(.int .u8 0),(.int .u8 0),(.int .u8 0),(.int .u8 0),(.int .u8 0),(.int .u8 0),(.int .u8 0),(.int .u8 0),(.int .u8 0),(.int .u8 0),(.int .u8 0),(.int .u8 0),(.int .u8 0),(.int .u8 0),(.int .u8 0),(.int .u8 0),(.int .u8 0),(.int .u8 0),(.int .u8 0),(.int .u8 0),(.int .u8 0),(.int .u8 0),(.int .u8 0),(.int .u8 0),(.int .u8 0),(.int .u8 0),(.int .u8 0),(.int .u8 0),(.int .u8 0),(.int .u8 0),(.int .u8 0),(.int .i64 0),(.int .u8 0),(.int .u8 0),(.int .u8 0),(.int .u8 0),(.int .u8 0),(.int .u8 0),(.int .u8 0),(.int .u8 0),(.int .u8 0),(.int .u8 0),(.int .u8 0),(.int .u8 0),(.int .u8 0),(.int .u8 0),(.int .u8 0),(.int .u8 0),(.int .u8 0),(.int .u8 0),(.int .u8 0),(.int .u8 0),(.int .u8 0),(.int .u8 0),(.int .u8 0),(.int .u8 0),(.int .u8 0),(.int .u8 0),(.int .u8 0),(.int .u8 0),(.int .u8 0),(.int .u8 0),(.int .u8 0),(.int .u8 0)]) 68 96:=⟨by kernel_rfl⟩
instance:bC prog 121 t120.desc:=⟨underlying121⟩
instance:cq prog 121 (.agg #[(.int .i64 0),(.int .i64 0),(.int .i64 0),(.int .i64 0),(.slice none 0 0)]) 5 56:=⟨by kernel_rfl⟩
instance:bC prog 123 t122.desc:=⟨underlying123⟩
instance:cq prog 123 (.agg #[(.int .i64 0),(.int .i64 0),(.int .i64 0)]) 3 24:=⟨by kernel_rfl⟩
instance:bC prog 127 (.slice 133):=⟨underlying127⟩
instance:cq prog 127 (.slice none 0 0) 1 24:=⟨by kernel_rfl⟩
instance:bC prog 128 (.pointer 284):=⟨underlying128⟩
instance:cq prog 128 (.pointer none) 1 8:=⟨by kernel_rfl⟩
instance:cq prog 129 (.pointer none) 1 8:=⟨by kernel_rfl⟩
instance:bC prog 133 t132.desc:=⟨underlying133⟩
instance:cq prog 133 (.agg #[(.slice none 0 0),(.slice none 0 0)]) 2 48:=⟨by kernel_rfl⟩
instance:bC prog 135 (.slice 169):=⟨underlying135⟩
instance:cq prog 135 (.slice none 0 0) 1 24:=⟨by kernel_rfl⟩
instance:bC prog 136 (.slice 307):=⟨underlying136⟩
instance:cq prog 136 (.slice none 0 0) 1 24:=⟨by kernel_rfl⟩
instance:bC prog 137 (.map 3 3):=⟨underlying137⟩
instance:bC prog 140 (.slice 80):=⟨underlying140⟩
instance:cq prog 140 (.slice none 0 0) 1 24:=⟨by kernel_rfl⟩
instance:bC prog 143 (.int .u32):=⟨underlying143⟩
instance:cq prog 143 (.int .u32 0) 1 4:=⟨by kernel_rfl⟩
instance:bC prog 145 (.array 8 143):=⟨underlying145⟩
instance:cq prog 145 (.agg #[(.int .u32 0),(.int .u32 0),(.int .u32 0),(.int .u32 0),(.int .u32 0),(.int .u32 0),(.int .u32 0),(.int .u32 0)]) 8 32:=⟨by kernel_rfl⟩
instance:bC prog 146 (.array 64 143):=⟨underlying146⟩
instance:cq prog 146 (.agg #[(.int .u32 0),(.int .u32 0),(.int .u32 0),(.int .u32 0),(.int .u32 0),(.int .u32 0),(.int .u32 0),(.int .u32 0),(.int .u32 0),(.int .u32 0),(.int .u32 0),(.int .u32 0),(.int .u32 0),(.int .u32 0),(.int .u32 0),(.int .u32 0),(.int .u32 0),(.int .u32 0),(.int .u32 0),(.int .u32 0),(.int .u32 0),(.int .u32 0),(.int .u32 0),(.int .u32 0),(.int .u32 0),(.int .u32 0),(.int .u32 0),(.int .u32 0),(.int .u32 0),(.int .u32 0),(.int .u32 0),(.int .u32 0),(.int .u32 0),(.int .u32 0),(.int .u32 0),(.int .u32 0),(.int .u32 0),(.int .u32 0),(.int .u32 0),(.int .u32 0),(.int .u32 0),(.int .u32 0),(.int .u32 0),(.int .u32 0),(.int .u32 0),(.int .u32 0),(.int .u32 0),(.int .u32 0),(.int .u32 0),(.int .u32 0),(.int .u32 0),(.int .u32 0),(.int .u32 0),(.int .u32 0),(.int .u32 0),(.int .u32 0),(.int .u32 0),(.int .u32 0),(.int .u32 0),(.int .u32 0),(.int .u32 0),(.int .u32 0),(.int .u32 0),(.int .u32 0)]) 64 256:=⟨by kernel_rfl⟩
instance:bC prog 150 (.array 128 5):=⟨underlying150⟩
instance:cq prog 150 (.agg #[(.int .u8 0),(.int .u8 0),(.int .u8 0),(.int .u8 0),(.int .u8 0),(.int .u8 0),(.int .u8 0),(.int .u8 0),(.int .u8 0),(.int .u8 0),(.int .u8 0),(.int .u8 0),(.int .u8 0),(.int .u8 0),(.int .u8 0),(.int .u8 0),(.int .u8 0),(.int .u8 0),(.int .u8 0),(.int .u8 0),(.int .u8 0),(.int .u8 0),(.int .u8 0),(.int .u8 0),(.int .u8 0),(.int .u8 0),(.int .u8 0),(.int .u8 0),(.int .u8 0),(.int .u8 0),(.int .u8 0),(.int .u8 0),(.int .u8 0),(.int .u8 0),(.int .u8 0),(.int .u8 0),(.int .u8 0),(.int .u8 0),(.int .u8 0),(.int .u8 0),(.int .u8 0),(.int .u8 0),(.int .u8 0),(.int .u8 0),(.int .u8 0),(.int .u8 0),(.int .u8 0),(.int .u8 0),(.int .u8 0),(.int .u8 0),(.int .u8 0),(.int .u8 0),(.int .u8 0),(.int .u8 0),(.int .u8 0),(.int .u8 0),(.int .u8 0),(.int .u8 0),(.int .u8 0),(.int .u8 0),(.int .u8 0),(.int .u8 0),(.int .u8 0),(.int .u8 0),(.int .u8 0),(.int .u8 0),(.int .u8 0),(.int .u8 0),(.int .u8 0),(.int .u8 0),(.int .u8 0),(.int .u8 0),(.int .u8 0),(.int .u8 0),(.int .u8 0),(.int .u8 0),(.int .u8 0),(.int .u8 0),(.int .u8 0),(.int .u8 0),(.int .u8 0),(.int .u8 0),(.int .u8 0),(.int .u8 0),(.int .u8 0),(.int .u8 0),(.int .u8 0),(.int .u8 0),(.int .u8 0),(.int .u8 0),(.int .u8 0),(.int .u8 0),(.int .u8 0),(.int .u8 0),(.int .u8 0),(.int .u8 0),(.int .u8 0),(.int .u8 0),(.int .u8 0),(.int .u8 0),(.int .u8 0),(.int .u8 0),(.int .u8 0),(.int .u8 0),(.int .u8 0),(.int .u8 0),(.int .u8 0),(.int .u8 0),(.int .u8 0),(.int .u8 0),(.int .u8 0),(.int .u8 0),(.int .u8 0),(.int .u8 0),(.int .u8 0),(.int .u8 0),(.int .u8 0),(.int .u8 0),(.int .u8 0),(.int .u8 0),(.int .u8 0),(.int .u8 0),(.int .u8 0),(.int .u8 0),(.int .u8 0),(.int .u8 0),(.int .u8 0),(.int .u8 0)]) 128 128:=⟨by kernel_rfl⟩
instance:bC prog 151 (.int .u64):=⟨underlying151⟩
instance:bC prog 152 (.int .u64):=⟨underlying152⟩
instance:cq prog 157 (.pointer none) 1 8:=⟨by kernel_rfl⟩
instance:cq prog 161 (.pointer none) 1 8:=⟨by kernel_rfl⟩
instance:cq prog 165 (.pointer none) 1 8:=⟨by kernel_rfl⟩
instance:bC prog 169 t168.desc:=⟨underlying169⟩
instance:cq prog 169 (.agg #[(.int .i64 0),(.int .i64 0),(.int .i64 0),(.int .i64 0),(.slice none 0 0)]) 5 56:=⟨by kernel_rfl⟩
instance:cq prog 177 (.agg #[(.slice none 0 0)]) 1 24:=⟨by kernel_rfl⟩
instance:bC prog 218 (.pointer 366):=⟨underlying218⟩
instance:cq prog 218 (.pointer none) 1 8:=⟨by kernel_rfl⟩
instance:bC prog 219 (.map 110 4):=⟨underlying219⟩
instance:bC prog 220 (.map 315 123):=⟨underlying220⟩
instance:bC prog 223 (.map 3 123):=⟨underlying223⟩
instance:bC prog 226 (.map 3 157):=⟨underlying226⟩
instance:bC prog 233 (.map 3 161):=⟨underlying233⟩
instance:bC prog 265 (.map 3 115):=⟨underlying265⟩
instance:bC prog 275 t274.desc:=⟨underlying275⟩
instance:cq prog 275 (.agg #[(.int .i64 0),(.slice none 0 0),(.slice none 0 0)]) 3 56:=⟨by kernel_rfl⟩
instance:cq prog 279 (.pointer none) 1 8:=⟨by kernel_rfl⟩
instance:cq prog 281 (.pointer none) 1 8:=⟨by kernel_rfl⟩
instance:bC prog 282 (.array 2 279):=⟨underlying282⟩
instance:bC prog 285 (.map 3 101):=⟨underlying285⟩
instance:bC prog 288 (.map 3 218):=⟨underlying288⟩
instance:bC prog 293 (.array 256 4):=⟨underlying293⟩
instance:cq prog 293 (.agg #[(.bool false),(.bool false),(.bool false),(.bool false),(.bool false),(.bool false),(.bool false),(.bool false),(.bool false),(.bool false),(.bool false),(.bool false),(.bool false),(.bool false),(.bool false),(.bool false),(.bool false),(.bool false),(.bool false),(.bool false),(.bool false),(.bool false),(.bool false),(.bool false),(.bool false),(.bool false),(.bool false),(.bool false),(.bool false),(.bool false),(.bool false),(.bool false),(.bool false),(.bool false),(.bool false),(.bool false),(.bool false),(.bool false),(.bool false),(.bool false),(.bool false),(.bool false),(.bool false),(.bool false),(.bool false),(.bool false),(.bool false),(.bool false),(.bool false),(.bool false),(.bool false),(.bool false),(.bool false),(.bool false),(.bool false),(.bool false),(.bool false),(.bool false),(.bool false),(.bool false),(.bool false),(.bool false),(.bool false),(.bool false),(.bool false),(.bool false),(.bool false),(.bool false),(.bool false),(.bool false),(.bool false),(.bool false),(.bool false),(.bool false),(.bool false),(.bool false),(.bool false),(.bool false),(.bool false),(.bool false),(.bool false),(.bool false),(.bool false),(.bool false),(.bool false),(.bool false),(.bool false),(.bool false),(.bool false),(.bool false),(.bool false),(.bool false),(.bool false),(.bool false),(.bool false),(.bool false),(.bool false),(.bool false),(.bool false),(.bool false),(.bool false),(.bool false),(.bool false),(.bool false),(.bool false),(.bool false),(.bool false),(.bool false),(.bool false),(.bool false),(.bool false),(.bool false),(.bool false),(.bool false),(.bool false),(.bool false),(.bool false),(.bool false),(.bool false),(.bool false),(.bool false),(.bool false),(.bool false),(.bool false),(.bool false),(.bool false),(.bool false),(.bool false),(.bool false),(.bool false),(.bool false),(.bool false),(.bool false),(.bool false),(.bool false),(.bool false),(.bool false),(.bool false),(.bool false),(.bool false),(.bool false),(.bool false),(.bool false),(.bool false),(.bool false),(.bool false),(.bool false),(.bool false),(.bool false),(.bool false),(.bool false),(.bool false),(.bool false),(.bool false),(.bool false),(.bool false),(.bool false),(.bool false),(.bool false),(.bool false),(.bool false),(.bool false),(.bool false),(.bool false),(.bool false),(.bool false),(.bool false),(.bool false),(.bool false),(.bool false),(.bool false),(.bool false),(.bool false),(.bool false),(.bool false),(.bool false),(.bool false),(.bool false),(.bool false),(.bool false),(.bool false),(.bool false),(.bool false),(.bool false),(.bool false),(.bool false),(.bool false),(.bool false),(.bool false),(.bool false),(.bool false),(.bool false),(.bool false),(.bool false),(.bool false),(.bool false),(.bool false),(.bool false),(.bool false),(.bool false),(.bool false),(.bool false),(.bool false),(.bool false),(.bool false),(.bool false),(.bool false),(.bool false),(.bool false),(.bool false),(.bool false),(.bool false),(.bool false),(.bool false),(.bool false),(.bool false),(.bool false),(.bool false),(.bool false),(.bool false),(.bool false),(.bool false),(.bool false),(.bool false),(.bool false),(.bool false),(.bool false),(.bool false),(.bool false),(.bool false),(.bool false),(.bool false),(.bool false),(.bool false),(.bool false),(.bool false),(.bool false),(.bool false),(.bool false),(.bool false),(.bool false),(.bool false),(.bool false),(.bool false),(.bool false),(.bool false),(.bool false),(.bool false),(.bool false),(.bool false),(.bool false),(.bool false),(.bool false),(.bool false),(.bool false),(.bool false)]) 256 256:=⟨by kernel_rfl⟩
instance:cq prog 298 .nilFunc 1 8:=⟨by kernel_rfl⟩
instance:bC prog 307 t306.desc:=⟨underlying307⟩
instance:cq prog 307 (.agg #[(.int .i64 0),(.int .i64 0),(.int .i64 0),(.int .i64 0),(.int .i64 0)]) 5 40:=⟨by kernel_rfl⟩
instance:bC prog 315 t314.desc:=⟨underlying315⟩
instance:cq prog 315 (.agg #[(.int .i64 0),(.int .i64 0)]) 2 16:=⟨by kernel_rfl⟩
instance:bC prog 317 (.array 64 5):=⟨underlying317⟩
instance:cq prog 317 (.agg #[(.int .u8 0),(.int .u8 0),(.int .u8 0),(.int .u8 0),(.int .u8 0),(.int .u8 0),(.int .u8 0),(.int .u8 0),(.int .u8 0),(.int .u8 0),(.int .u8 0),(.int .u8 0),(.int .u8 0),(.int .u8 0),(.int .u8 0),(.int .u8 0),(.int .u8 0),(.int .u8 0),(.int .u8 0),(.int .u8 0),(.int .u8 0),(.int .u8 0),(.int .u8 0),(.int .u8 0),(.int .u8 0),(.int .u8 0),(.int .u8 0),(.int .u8 0),(.int .u8 0),(.int .u8 0),(.int .u8 0),(.int .u8 0),(.int .u8 0),(.int .u8 0),(.int .u8 0),(.int .u8 0),(.int .u8 0),(.int .u8 0),(.int .u8 0),(.int .u8 0),(.int .u8 0),(.int .u8 0),(.int .u8 0),(.int .u8 0),(.int .u8 0),(.int .u8 0),(.int .u8 0),(.int .u8 0),(.int .u8 0),(.int .u8 0),(.int .u8 0),(.int .u8 0),(.int .u8 0),(.int .u8 0),(.int .u8 0),(.int .u8 0),(.int .u8 0),(.int .u8 0),(.int .u8 0),(.int .u8 0),(.int .u8 0),(.int .u8 0),(.int .u8 0),(.int .u8 0)]) 64 64:=⟨by kernel_rfl⟩
instance:bC prog 323 (.map 3 129):=⟨underlying323⟩
instance:bC prog 326 (.map 3 281):=⟨underlying326⟩
instance:cq prog 357 .nilFunc 1 8:=⟨by kernel_rfl⟩
instance:bC prog 358 (.slice 357):=⟨underlying358⟩
instance:bC prog 364 (.map 3 4):=⟨underlying364⟩
instance:cq prog 364 (.map none) 1 8:=⟨by kernel_rfl⟩
instance:qF prog:=⟨by kernel_rfl⟩
instance:Entry prog 104:=⟨_,func104,by kernel_rfl,by kernel_rfl⟩
instance:Entry prog 144:=⟨_,func144,by kernel_rfl,by kernel_rfl⟩
instance:Entry prog 147:=⟨_,func147,by kernel_rfl,by kernel_rfl⟩
instance:Entry prog 176:=⟨_,func176,by kernel_rfl,by kernel_rfl⟩
instance:Entry prog 180:=⟨_,func180,by kernel_rfl,by kernel_rfl⟩
instance:Entry prog 194:=⟨_,func194,by kernel_rfl,by kernel_rfl⟩
instance:Entry prog 196:=⟨_,func196,by kernel_rfl,by kernel_rfl⟩
instance:Entry prog 205:=⟨_,func205,by kernel_rfl,by kernel_rfl⟩
instance:Entry prog 208:=⟨_,func208,by kernel_rfl,by kernel_rfl⟩
instance:Entry prog 212:=⟨_,func212,by kernel_rfl,by kernel_rfl⟩
instance:Entry prog 214:=⟨_,func214,by kernel_rfl,by kernel_rfl⟩
instance:Entry prog 217:=⟨_,func217,by kernel_rfl,by kernel_rfl⟩
instance:Entry prog 218:=⟨_,func218,by kernel_rfl,by kernel_rfl⟩
instance:Entry prog 232:=⟨_,func232,by kernel_rfl,by kernel_rfl⟩
instance:Entry prog 233:=⟨_,func233,by kernel_rfl,by kernel_rfl⟩
instance:Entry prog 234:=⟨_,func234,by kernel_rfl,by kernel_rfl⟩
instance:Entry prog 235:=⟨_,func235,by kernel_rfl,by kernel_rfl⟩
instance:Entry prog 243:=⟨_,func243,by kernel_rfl,by kernel_rfl⟩
instance:Entry prog 245:=⟨_,func245,by kernel_rfl,by kernel_rfl⟩
instance:Entry prog 257:=⟨_,func257,by kernel_rfl,by kernel_rfl⟩
instance:Entry prog 259:=⟨_,func259,by kernel_rfl,by kernel_rfl⟩
instance:Entry prog 260:=⟨_,func260,by kernel_rfl,by kernel_rfl⟩
instance:Entry prog 276:=⟨_,func276,by kernel_rfl,by kernel_rfl⟩
instance:Entry prog 277:=⟨_,func277,by kernel_rfl,by kernel_rfl⟩
instance:Entry prog 286:=⟨_,func286,by kernel_rfl,by kernel_rfl⟩
instance:Entry prog 292:=⟨_,func292,by kernel_rfl,by kernel_rfl⟩
instance:Entry prog 294:=⟨_,func294,by kernel_rfl,by kernel_rfl⟩
instance:Entry prog 300:=⟨_,func300,by kernel_rfl,by kernel_rfl⟩
instance:Entry prog 313:=⟨_,func313,by kernel_rfl,by kernel_rfl⟩
instance:Entry prog 314:=⟨_,func314,by kernel_rfl,by kernel_rfl⟩
instance:Entry prog 315:=⟨_,func315,by kernel_rfl,by kernel_rfl⟩
instance:Entry prog 321:=⟨_,func321,by kernel_rfl,by kernel_rfl⟩
instance:Entry prog 331:=⟨_,func331,by kernel_rfl,by kernel_rfl⟩
instance:Entry prog 334:=⟨_,func334,by kernel_rfl,by kernel_rfl⟩
instance:fi prog:=fi.make prog
 [(7,[(0,0),(1,1),(2,2),(3,3)]),(8,[(0,0),(1,1),(2,2),(3,3)]),(13,[(0,0),(1,1)]),(14,[(0,0),(1,1)]),(18,[(0,0)]),(19,[(0,0)]),(28,[(0,0),(1,1),(2,2),(3,3),(4,4),(5,5),(6,6)]),(29,[(0,0),(1,1),(2,2),(3,3),(4,4),(5,5),(6,6)]),(30,[(0,0),(1,1),(2,2),(3,3),(4,4)]),(31,[(0,0),(1,1),(2,2),(3,3),(4,4)]),(59,[(0,0),(1,1),(2,2),(3,3),(4,4),(5,5)]),(60,[(0,0),(1,1),(2,2),(3,3),(4,4),(5,5)]),(61,[(0,0),(1,1)]),(62,[(0,0),(1,1)]),(63,[(0,0),(1,2)]),(64,[(0,0),(1,2)]),(69,[(0,0),(1,1),(2,2),(3,3),(4,4),(5,5),(6,6)]),(70,[(0,0),(1,1),(2,2),(3,3),(4,4),(5,5),(6,6)]),(71,[(0,0),(1,1)]),(72,[(0,0),(1,1)]),(75,[(0,0),(1,1),(2,2),(3,3),(4,4),(5,5),(6,6),(7,7),(8,8),(9,9)]),(76,[(0,0),(1,1),(2,2),(3,3),(4,4),(5,5),(6,6),(7,7),(8,8),(9,9)]),(87,[(0,0),(1,1),(2,2),(3,3)]),(88,[(0,0),(1,1),(2,2),(3,3)]),(91,[(0,0),(1,1),(2,2),(3,3),(4,4),(5,5),(6,6),(7,7),(8,8)]),(92,[(0,0),(1,1),(2,2),(3,3),(4,4),(5,5),(6,6),(7,7),(8,8)]),(100,[(0,0),(1,1),(2,2),(3,3),(4,4),(5,5),(6,6),(7,7)]),(101,[(0,0),(1,1),(2,2),(3,3),(4,4),(5,5),(6,6),(7,7)]),(109,[(0,0),(1,1),(2,2),(3,3)]),(110,[(0,0),(1,1),(2,2),(3,3)]),(114,[(0,0),(1,1),(2,2),(3,3),(4,35),(5,36)]),(115,[(0,0),(1,1),(2,2),(3,3),(4,35),(5,36)]),(120,[(0,0),(1,4)]),(121,[(0,0),(1,4)]),(122,[(0,0),(1,1),(2,2)]),(123,[(0,0),(1,1),(2,2)]),(130,[(0,0),(1,1),(2,2),(3,3),(4,4),(5,5),(6,6)]),(131,[(0,0),(1,1),(2,2),(3,3),(4,4),(5,5),(6,6)]),(132,[(0,0),(1,1)]),(133,[(0,0),(1,1)]),(138,[(0,0),(1,1),(2,2)]),(139,[(0,0),(1,1),(2,2)]),(141,[(0,0)]),(142,[(0,0)]),(166,[(0,0),(1,1),(2,2)]),(167,[(0,0),(1,1),(2,2)]),(168,[(0,0),(1,1),(2,2),(3,3),(4,4)]),(169,[(0,0),(1,1),(2,2),(3,3),(4,4)]),(176,[(0,0)]),(177,[(0,0)]),(221,[(0,0),(1,1),(2,2),(3,3),(4,4)]),(222,[(0,0),(1,1),(2,2),(3,3),(4,4)]),(224,[(0,0)]),(225,[(0,0)]),(227,[(0,0)]),(228,[(0,0)]),(234,[(0,0)]),(235,[(0,0)]),(260,[(0,0),(1,1)]),(261,[(0,0),(1,1)]),(266,[(0,0)]),(267,[(0,0)]),(274,[(0,0),(1,1),(2,2)]),(275,[(0,0),(1,1),(2,2)]),(283,[(0,0),(1,1),(2,2),(3,3),(4,4),(5,7),(6,8),(7,9),(8,10),(9,12),(10,13),(11,14),(12,15),(13,16),(14,17),(15,18)]),(284,[(0,0),(1,1),(2,2),(3,3),(4,4),(5,7),(6,8),(7,9),(8,10),(9,12),(10,13),(11,14),(12,15),(13,16),(14,17),(15,18)]),(286,[(0,0)]),(287,[(0,0)]),(289,[(0,0)]),(290,[(0,0)]),(306,[(0,0),(1,1),(2,2),(3,3),(4,4)]),(307,[(0,0),(1,1),(2,2),(3,3),(4,4)]),(314,[(0,0),(1,1)]),(315,[(0,0),(1,1)]),(324,[(0,0)]),(325,[(0,0)]),(327,[(0,0)]),(328,[(0,0)]),(365,[(0,0),(1,1),(2,2),(3,3),(4,4),(5,5)]),(366,[(0,0),(1,1),(2,2),(3,3),(4,4),(5,5)]),(382,[(0,0)]),(383,[(0,0)]),(405,[(0,0),(1,1)]),(406,[(0,0),(1,1)]),(462,[(0,0),(1,1),(2,2),(3,3)]),(463,[(0,0),(1,1),(2,2),(3,3)]),(473,[(0,0),(1,1),(2,2),(3,3),(4,4),(5,5),(6,6),(7,7),(8,8),(9,9),(10,10)]),(474,[(0,0),(1,1),(2,2),(3,3),(4,4),(5,5),(6,6),(7,7),(8,8),(9,9),(10,10)])]
 [(4,3),(15,1),(16,1),(17,1),(22,1),(26,2),(27,2),(32,1),(36,2),(37,1),(41,1),(48,1),(50,1),(54,1),(55,2),(56,2),(57,2),(58,2),(65,1),(66,1),(67,2),(68,1),(73,1),(74,1),(85,2),(86,1),(99,2),(127,2),(128,1),(129,1),(135,2),(136,2),(140,2),(149,1),(157,1),(161,1),(165,1),(191,1),(211,1),(216,1),(218,1),(242,1),(244,1),(277,1),(279,1),(281,1),(297,1),(358,2),(446,1),(450,1),(470,1)]
 [0,1,2,3,4,5,6,9,10,11,12,15,16,17,20,21,22,23,24,25,26,27,32,33,34,35,36,37,38,39,40,41,42,43,44,45,46,47,48,49,50,51,52,53,54,55,56,57,58,65,66,67,68,73,74,77,78,81,82,83,84,85,86,89,90,93,94,95,96,97,98,99,102,103,104,105,106,107,108,111,112,113,116,117,118,119,124,125,126,127,128,129,134,135,136,137,140,143,147,148,149,151,152,153,154,155,156,157,158,159,160,161,162,163,164,165,170,171,172,173,174,175,178,179,180,181,182,183,184,185,186,187,188,189,190,191,192,193,194,195,196,197,198,199,200,201,202,203,204,205,206,207,208,209,210,211,212,213,214,215,216,217,218,219,220,223,226,229,230,231,232,233,236,237,238,239,240,241,242,243,244,245,246,247,248,249,250,251,252,253,254,255,256,257,258,259,262,263,264,265,268,269,270,271,272,273,276,277,278,279,280,281,285,288,291,294,295,296,297,298,299,300,301,302,303,304,305,308,309,310,311,312,313,316,318,319,320,321,322,323,326,329,330,331,332,333,334,335,336,337,338,339,340,341,342,343,344,345,346,347,348,349,350,351,352,353,354,355,356,357,358,359,360,361,362,363,364,367,368,369,370,371,372,373,374,375,376,377,378,379,380,381,384,385,386,387,388,389,390,391,392,393,394,395,396,397,398,399,400,401,402,403,408,409,410,411,412,413,414,415,416,417,418,419,420,421,422,423,424,425,426,427,428,429,430,431,432,433,434,435,436,437,438,439,440,441,442,443,444,445,446,447,448,449,450,451,452,453,454,455,456,457,458,459,460,461,467,468,469,470,471,472,475,476,477,478,479,480,481,482,483,484,485,486,487,488,489,490]
 391 [0,1,255,284,330,348,349,350,351,352,353,354,355,356,357,358,359,360,361,362,363,364,365,366,367,368,369,370,371,372,373,374,375,376,377,378,379,380,381,382,383,384,385,386,387,388,389]
 (by kernel_rfl) (by kernel_rfl) (by kernel_rfl)
end Go.Proofs.YtmholjbhjcpkhaaGreatDoor.R
namespace Go.Proofs.YtmholjbhjcpkhaaGreatDoor.R
open Go.Proofs.Tryz Go Go.RowKit Go.Proofs
theorem yu(x:Nat):IntKind.u32.wrap (x:Int)=((BitVec.ofNat 32 x).toNat:Int):=by rw [IntKind.wrap_u32,nf];omega
theorem rG(x y:BitVec 32):evalBin .or .u32 (x.toNat:Int) (y.toNat:Int)=some (e5 (x|||y)):=by
 show some (Value.int .u32 (IntKind.u32.wrap ((BitVec.ofInt IntKind.u32.bits (x.toNat:Int)|||BitVec.ofInt IntKind.u32.bits (y.toNat:Int)).toNat:Int)))=_;rw [ofInt_u32,ofInt_u32];exact aK (λz=>some (Value.int .u32 z)) (sO _)
theorem kP(x y:BitVec 32):evalBin .add .u32 (x.toNat:Int) (y.toNat:Int)=some (e5 (x+y)):=by
 show some (Value.int .u32 (IntKind.u32.wrap ((x.toNat:Int)+(y.toNat:Int))))=_;rw [<-Int.natCast_add,yu]
 congr 3
theorem rH(x:BitVec 32)(n:Nat)(h:n<=32):evalShift .shl .u32 (x.toNat:Int) (n:Int)=some (e5 (x<<<n)):=by
 show some (Value.int .u32 (IntKind.u32.wrap ((x.toNat:Int)*2^(min ((n:Int).toNat) IntKind.u32.bits))))=_;have a:min ((n:Int).toNat) IntKind.u32.bits=n:=by show min ((n:Int).toNat) 32=n;rw [lj];omega
 rw [a,show(x.toNat:Int)*2^n=((x.toNat*2^n:Nat):Int) by simp,yu]
 congr 3
 rw [nf,BitVec.toNat_shiftLeft,Nat.shiftLeft_eq]
theorem od(x:BitVec 32)(n:Nat)(h:n<=32):evalShift .shr .u32 (x.toNat:Int) (n:Int)=some (e5 (x>>>n)):=by
 show some (Value.int .u32 ((x.toNat:Int).fdiv (2^(min ((n:Int).toNat) IntKind.u32.bits))))=_;have a:min ((n:Int).toNat) IntKind.u32.bits=n:=by show min ((n:Int).toNat) 32=n;rw [lj];omega
 rw [a,tt _ (by exact Int.le_of_lt (Int.pow_pos (by decide))),show(2:Int)^n=((2^n:Nat):Int) by simp,<-Int.natCast_ediv]
 congr 3
 rw [BitVec.toNat_ushiftRight,Nat.shiftRight_eq_div_pow]
theorem De(a b:Nat)(h:b<=a)(c:a<18446744073709551616):evalBin .sub .u64 (a:Int) (b:Int)=some (.int .u64 ((a-b:Nat):Int)):=by
 show some (Value.int .u64 (IntKind.u64.wrap ((a:Int)-(b:Int))))=_;rw [pn]
 congr 2
 omega
def k4(x:BitVec 32)(n:Nat):BitVec 32:=(x>>>n)|||(x<<<(32-n))
def sr(x:BitVec 32):BitVec 32:=k4 x 7^^^k4 x 18^^^(x>>>3)
def ss(x:BitVec 32):BitVec 32:=k4 x 17^^^k4 x 19^^^(x>>>10)
def wI(x:BitVec 32):BitVec 32:=k4 x 2^^^k4 x 13^^^k4 x 22
def tN(x:BitVec 32):BitVec 32:=k4 x 6^^^k4 x 11^^^k4 x 25
def tS(x y z:BitVec 32):BitVec 32:=(x&&&y)^^^(~~~x&&&z)
def yq(x y z:BitVec 32):BitVec 32:=(x&&&y)^^^(x&&&z)^^^(y&&&z)
theorem lE{o:World}{x:BitVec 32}{n:Nat}(aT:n<=32):Calls prog 157 #[e5 x,.int .u64 n] o λr w=>r=e5 (k4 x n)/\w=o:=by
 refine a6 func157 (aq 7 j (kj j j j j (by omega) (od x n aT) ?_));exact bE 2 j j j (De 32 n aT (by decide)) (kj j j j j (by omega) (rH x (32-n) (by omega)) (bE 0 j j j (rG _ _) (an 1 j j ⟨j,j⟩)))
theorem Gu{o:World}{x:BitVec 32}:Calls prog 108 #[e5 x] o λr w=>r=e5 (sr x)/\w=o:=by
 refine a6 func108 ?_;have a:=lE (o:=o) (x:=x) (n:=7) (by decide);refine br 6 a j (λw hw=>?_);subst hw;have a:=lE (o:=w) (x:=x) (n:=18) (by decide);refine br 1 a j (λw hw=>?_);subst hw;refine bE 0 j j j (kQ _ _) (aq 1 j (kj j j j j (by omega) (od x 3 (by decide)) ?_));exact bE 0 j j j (kQ _ _) (an 1 j j ⟨j,j⟩)
theorem Gv{o:World}{x:BitVec 32}:Calls prog 109 #[e5 x] o λr w=>r=e5 (ss x)/\w=o:=by
 refine a6 func109 ?_;have a:=lE (o:=o) (x:=x) (n:=17) (by decide);refine br 6 a j (λw hw=>?_);subst hw;have a:=lE (o:=w) (x:=x) (n:=19) (by decide);refine br 1 a j (λw hw=>?_);subst hw;refine bE 0 j j j (kQ _ _) (aq 1 j (kj j j j j (by omega) (od x 10 (by decide)) ?_));exact bE 0 j j j (kQ _ _) (an 1 j j ⟨j,j⟩)
theorem BJ{o:World}{x:BitVec 32}:Calls prog 112 #[e5 x] o λr w=>r=e5 (wI x)/\w=o:=by
 refine a6 func112 ?_;have a:=lE (o:=o) (x:=x) (n:=2) (by decide);refine br 6 a j (λw hw=>?_);subst hw;have a:=lE (o:=w) (x:=x) (n:=13) (by decide);refine br 1 a j (λw hw=>?_);subst hw;refine bE 0 j j j (kQ _ _) ?_;have a:=lE (o:=w) (x:=x) (n:=22) (by decide);refine br 1 a j (λw hw=>?_);subst hw;exact bE 0 j j j (kQ _ _) (an 1 j j ⟨j,j⟩)
theorem BK{o:World}{x:BitVec 32}:Calls prog 110 #[e5 x] o λr w=>r=e5 (tN x)/\w=o:=by
 refine a6 func110 ?_;have a:=lE (o:=o) (x:=x) (n:=6) (by decide);refine br 6 a j (λw hw=>?_);subst hw;have a:=lE (o:=w) (x:=x) (n:=11) (by decide);refine br 1 a j (λw hw=>?_);subst hw;refine bE 0 j j j (kQ _ _) ?_;have a:=lE (o:=w) (x:=x) (n:=25) (by decide);refine br 1 a j (λw hw=>?_);subst hw;exact bE 0 j j j (kQ _ _) (an 1 j j ⟨j,j⟩)
theorem choose_spec{o:World}{x y z:BitVec 32}:Calls prog 111 #[e5 x,e5 y,e5 z] o λr w=>r=e5 (tS x y z)/\w=o:=by
 refine a6 func111 (bE 7 j j j (pH _ _) (aq 1 j (AY j j j (Db _) ?_)));exact bE 1 j j j (pH _ _) (bE 0 j j j (kQ _ _) (an 1 j j ⟨j,j⟩))
theorem EY{o:World}{x y z:BitVec 32}:Calls prog 113 #[e5 x,e5 y,e5 z] o λr w=>r=e5 (yq x y z)/\w=o:=by
 refine a6 func113 ?_;refine bE 7 j j j (pH _ _) ?_;refine bE 2 j j j (pH _ _) ?_;refine bE 0 j j j (kQ _ _) ?_;refine bE 2 j j j (pH _ _) ?_;refine bE 0 j j j (kQ _ _) ?_;refine an 1 j j ?_;exact⟨j,j⟩
structure fu where
 a:BitVec 32
 b:BitVec 32
 c:BitVec 32
 d:BitVec 32
 e:BitVec 32
 f:BitVec 32
 g:BitVec 32
 h:BitVec 32
def fu.ws(s:fu):List (BitVec 32):=[s.a,s.b,s.c,s.d,s.e,s.f,s.g,s.h]
abbrev iQ(l:List (BitVec 32)):List Value:=l.map e5
abbrev fu.cs(s:fu):List Value:=[e5 s.a,e5 s.b,e5 s.c,e5 s.d,e5 s.e,e5 s.f,e5 s.g,e5 s.h]
def n5(c:UInt8):BitVec 32:=BitVec.ofNat 32 c.toNat
def word(p:List UInt8)(i:Nat):BitVec 32:=(n5 (p.getD (4*i) 0)<<<24)|||(n5 (p.getD (4*i+1) 0)<<<16)|||(n5 (p.getD (4*i+2) 0)<<<8)|||n5 (p.getD (4*i+3) 0)
def words(p:List UInt8)(n:Nat):List (BitVec 32):=(List.range n).map (word p)
def qf(l:List (BitVec 32)):List (BitVec 32):=l++[l.getD (l.length-16) 0+sr (l.getD (l.length-15) 0)+l.getD (l.length-7) 0+ss (l.getD (l.length-2) 0)]
def gx(p:List UInt8):Nat->List (BitVec 32)
 |0=>words p 16
 |R+1=>qf (gx p R)
def h9:List (BitVec 32):=[1116352408#32,1899447441#32,3049323471#32,3921009573#32,961987163#32,1508970993#32,2453635748#32,2870763221#32,3624381080#32,310598401#32,607225278#32,1426881987#32,1925078388#32,2162078206#32,2614888103#32,3248222580#32,3835390401#32,4022224774#32,264347078#32,604807628#32,770255983#32,1249150122#32,1555081692#32,1996064986#32,2554220882#32,2821834349#32,2952996808#32,3210313671#32,3336571891#32,3584528711#32,113926993#32,338241895#32,666307205#32,773529912#32,1294757372#32,1396182291#32,1695183700#32,1986661051#32,2177026350#32,2456956037#32,2730485921#32,2820302411#32,3259730800#32,3345764771#32,3516065817#32,3600352804#32,4094571909#32,275423344#32,430227734#32,506948616#32,659060556#32,883997877#32,958139571#32,1322822218#32,1537002063#32,1747873779#32,1955562222#32,2024104815#32,2227730452#32,2361852424#32,2428436474#32,2756734187#32,3204031479#32,3329325298#32]
def Ga(k w:BitVec 32)(v:fu):fu:=
 ⟨v.h+tN v.e+tS v.e v.f v.g+k+w+(wI v.a+yq v.a v.b v.c),v.a,v.b,v.c,v.d+(v.h+tN v.e+tS v.e v.f v.g+k+w),v.e,v.f,v.g⟩
def rounds(p:List UInt8)(s:fu):Nat->fu
 |0=>s
 |i+1=>Ga (h9.getD i 0) ((gx p 48).getD i 0) (rounds p s i)
def fu.add(s v:fu):fu:=⟨s.a+v.a,s.b+v.b,s.c+v.c,s.d+v.d,s.e+v.e,s.f+v.f,s.g+v.g,s.h+v.h⟩
def vw(p:List UInt8)(s:fu):fu:=s.add (rounds p s 64)
theorem sN(p:List UInt8)(n:Nat):(words p n).length=n:=by simp [words]
theorem HL(p:List UInt8)(n:Nat):words p (n+1)=words p n++[word p n]:=by simp [words,m9]
theorem k6(p:List UInt8):∀R,(gx p R).length=16+R
 |0=>sN p 16
 |R+1=>by show(qf (gx p R)).length=_;simp only [qf,cj,k6 p R,List.length_cons,List.length_nil];omega
theorem AJ:h9.length=64:=by decide
def hY(l:List (BitVec 32)):Array Value:=(iQ l++List.replicate (64-l.length) (e5 0)).toArray
theorem qw{l:List (BitVec 32)}{R:Nat}(h:R<l.length):(hY l)[R]? =some (e5 (l.getD R 0)):=by
 simp [hY,jG,h,List.getD]
theorem Ac{l:List (BitVec 32)}(h:l.length<64)(x:BitVec 32):(hY l).setIfInBounds l.length (e5 x)=hY (l++[x]):=by
 unfold hY;apply fz;simp only [Array.toList_setIfInBounds,cj,List.length_cons,List.length_nil,iQ,List.map_append,List.map_cons,List.map_nil];rw [show 64-l.length=(64-(l.length+1))+1 by omega,List.replicate_succ];simp [List.set_append]
theorem Ad{l:List (BitVec 32)}(h:l.length<=64):(hY l).size=64:=by simp [hY];omega
theorem lZ(a b:Nat)(h:a*b<9223372036854775808):evalBin .mul .i64 (a:Int) (b:Int)=some (.int .i64 ((a*b:Nat):Int)):=by
 show some (Value.int .i64 (IntKind.i64.wrap ((a:Int)*(b:Int))))=_;rw [<-Int.natCast_mul,j3];generalize a*b=c at*;exact aK (λz=>some (Value.int .i64 z)) (by omega)
theorem gX(a b:Nat)(h:a+b<9223372036854775808):evalBin .add .i64 (a:Int) (b:Int)=some (.int .i64 ((a+b:Nat):Int)):=by
 show some (Value.int .i64 (IntKind.i64.wrap ((a:Int)+(b:Int))))=_;rw [j3];exact aK (λz=>some (Value.int .i64 z)) (by omega)
theorem iH(a b:Nat)(h:b<=a)(c:a<9223372036854775808):evalBin .sub .i64 (a:Int) (b:Int)=some (.int .i64 ((a-b:Nat):Int)):=by
 show some (Value.int .i64 (IntKind.i64.wrap ((a:Int)-(b:Int))))=_;rw [j3];exact aK (λz=>some (Value.int .i64 z)) (by omega)
theorem px{p:List UInt8}{R:Nat}(h:R<p.length):(aP p)[R]? =some (bv (p.getD R 0)):=by simp [aP,h,List.getD]
theorem Fe{o:World}:Calls prog 52 #[] o λr w=>r= .agg (iQ h9).toArray/\C o [] [] w:=by
 have a:Own [] o:=C.start o;refine fj func52 (cx 2 a j (λdw w a=>aq 2 j (cP (c:=(iQ h9).toArray) j j j (λ_=>by kernel_rfl) ?_)));refine cv 0 a j j j (by decide) (by decide) (λw a=>?_);have a:=C.whole (U:=iQ h9) a j;refine bH 0 j ⟨_,hW (U:=iQ h9) results52 j j j a.bQ,?_⟩;exact⟨j,a.bare⟩
def mixed(s v:fu)(R:Nat):List Value:=(s.add v).cs.take R++s.cs.drop R
theorem pV{R:Nat}(h:R<8):R=0\/R=1\/R=2\/R=3\/R=4\/R=5\/R=6\/R=7:=by omega
theorem EW(s v:fu){R:Nat}(h:R<8):(mixed s v R).toArray.setIfInBounds R (e5 (s.ws.getD R 0+v.ws.getD R 0))=(mixed s v (R+1)).toArray:=by
 rcases pV h with rfl|rfl|rfl|rfl|rfl|rfl|rfl|rfl<;>rfl
theorem EV(s v:fu){R:Nat}(h:R<8):(mixed s v R).toArray.size=8:=by
 rcases pV h with rfl|rfl|rfl|rfl|rfl|rfl|rfl|rfl<;>rfl
theorem EU(s v:fu){R:Nat}(h:R<8):(mixed s v R).toArray[R]? =some (e5 (s.ws.getD R 0)):=by
 rcases pV h with rfl|rfl|rfl|rfl|rfl|rfl|rfl|rfl<;>rfl
theorem w3(v:fu){R:Nat}(h:R<8):v.cs.toArray[R]? =some (e5 (v.ws.getD R 0)):=by
 rcases pV h with rfl|rfl|rfl|rfl|rfl|rfl|rfl|rfl<;>rfl
theorem AI{i:Nat}(h:i<64):(iQ h9).toArray[i]? =some (e5 (h9.getD i 0)):=by
 have:i<h9.length:=by rw [AJ];exact h
 simp [iQ,this,List.getD]
theorem pQ{w:World}{b off:Nat}{c:Array Value}{e:TypeId}{e0:Nat×Nat}{v:Value}(h:w.heap[b]? =some (.cells c e e0))(a:c[off]? =some v):w.cell? ⟨b,off,none⟩=some v:=by simp [World.cell?,h,a]
theorem zO{o:World}{ba fO:Nat}{s:fu}{A:Option Addr}{p:List UInt8}{c:Nat}(d:Own [J ba s.cs.toArray 145] o)(q:Rd o A (aP p))(v:cc A (aP p) (au [J ba s.cs.toArray 145]))(ad:o.heap[fO]? =some (.cells (iQ h9).toArray 146 (0,0)))(O:fO≠ba)(S:64<=p.length):Calls prog 53 #[aa ba,.slice A p.length c,aa fO] o λr w=>r= .tuple #[]/\C o (au [J ba s.cs.toArray 145]) [J ba (vw p s).cs.toArray 145] w:=by
 obtain⟨u,rfl,_⟩:=q 0 (bv (p.getD 0 0)) (px (by omega));have P:fO<o.heap.size:=(gq.1 ad).1;have Q:fO∉(au [J ba s.cs.toArray 145]):=by simpa [au] using O
 refine a6 func53 (cx 2 d j (λm w d=>?_));have d:C o (au [J ba s.cs.toArray 145]) (J m (hY (words p 0)) 146::_) w:=d;refine dj 5 j (cU:=Nat) (λi=>[(0,aa ba),(1,.slice (some u) p.length c),(2,aa fO),(6,aa m),(14,.int .i64 (i:Nat))]) (λi w=>i<=16/\C o (au [J ba s.cs.toArray 145]) [J m (hY (words p i)) 146,J ba s.cs.toArray 145] w) (λi=>16-i) 0 ⟨j,j,j,j,j,bb⟩ ⟨cp _,d⟩ ?_;rintro i w ⟨H,d⟩;refine cy 4 j j (λD=>?_) (λD=>?_)
 .have k:i<16:=by omega
  have d:=d.drew;refine bx 7 j (λw=>C o (au [J ba s.cs.toArray 145]) [J m (hY (words p i)) 146,J ba s.cs.toArray 145] w) d ?_;refine ag 0 3 j (bl 3 j (λw _=>fr j j (lZ 4 i (by omega))) (bl 4 j (λw _=>qE (R:=4*i) j j (by omega)) (b4 5 j (λw h=>Rd.cell (h.rd q v) (px (R:=4*i) (by omega))) (bl 6 j (λw _=>mq j (rq _)) (bl 7 j (λw _=>sY j j (by omega) (rH _ 24 (by decide))) (ag 8 2 j (bl 10 j (λw _=>fr j j (lZ 4 i (by omega))) (bl 11 j (λw _=>fr j j (gX (4*i) 1 (by omega))) (bl 12 j (λw _=>qE (R:=4*i+1) j j (by omega)) (b4 13 j (λw h=>Rd.cell (h.rd q v) (px (R:=4*i+1) (by omega))) ?_))))))))));refine bl 14 j (λw _=>mq j (rq _)) (bl 15 j (λw _=>sY j j (by omega) (rH _ 16 (by decide))) (bl 16 j (λw _=>fr j j (rG _ _)) (ag 17 2 j (bl 19 j (λw _=>fr j j (lZ 4 i (by omega))) (bl 20 j (λw _=>fr j j (gX (4*i) 2 (by omega))) (bl 21 j (λw _=>qE (R:=4*i+2) j j (by omega)) (b4 22 j (λw h=>Rd.cell (h.rd q v) (px (R:=4*i+2) (by omega))) (bl 23 j (λw _=>mq j (rq _)) (bl 24 j (λw _=>sY j j (by omega) (rH _ 8 (by decide))) ?_)))))))));refine bl 25 j (λw _=>fr j j (rG _ _)) (ag 26 2 j (bl 28 j (λw _=>fr j j (lZ 4 i (by omega))) (bl 29 j (λw _=>fr j j (gX (4*i) 3 (by omega))) (bl 30 j (λw _=>qE (R:=4*i+3) j j (by omega)) (b4 31 j (λw h=>Rd.cell (h.rd q v) (px (R:=4*i+3) (by omega))) (bl 32 j (λw _=>mq j (rq _)) (bl 33 j (λw _=>fr j j (rG _ _)) (bl 34 j (λw _=>ht (R:=i) j j (by omega)) (dK 35 j (cO d j j j j (by rw [Ad (by rw [sN];omega)];omega) (λw d=>?_)))))))))))
  have d:C o (au [J ba s.cs.toArray 145]) [[(m,.cells (hY (words p (i+1))) 146 (0,0))],J ba s.cs.toArray 145] w:=by
   have e:=Ac (l:=words p i) (by rw [sN];omega) (word p i);rw [sN,<-HL] at e;rw [<-e];exact d
  exact ao (c5 (bE 1 j j j (dn i (by omega)) (bW 1 j ⟨i+1,⟨j,j,j,j,j,bb⟩,⟨k,d⟩,by omega⟩)))
 have I:i=16:=by omega
 subst I;refine dj 6 j (cU:=Nat) (λR=>[(0,aa ba),(1,.slice (some u) p.length c),(2,aa fO),(6,aa m),(8,.int .i64 (16+R:Nat))]) (λR w=>R<=48/\C o (au [J ba s.cs.toArray 145]) [J m (hY (gx p R)) 146,J ba s.cs.toArray 145] w) (λR=>48-R) 0 ⟨j,j,j,j,j,bb⟩ ⟨cp _,d⟩ ?_;rintro R w ⟨L,d⟩;refine cy 5 j j (λE=>?_) (λE=>?_)
 .have k:R<48:=by omega
  have T:=k6 p R;have d:=d.drew;refine bx 3 j (λw=>C o (au [J ba s.cs.toArray 145]) [J m (hY (gx p R)) 146,J ba s.cs.toArray 145] w) d (ag 0 2 j (bl 2 j (λw _=>fr j j (iH (16+R) 16 (by omega) (by omega))) (bl 3 j (λw _=>ht (R:=16+R-16) j j (by omega)) (b4 4 j (λw h=>h.cell (qw (by rw [k6];omega))) (ag 5 1 j (bl 6 j (λw _=>fr j j (iH (16+R) 15 (by omega) (by omega))) (bl 7 j (λw _=>ht (R:=16+R-15) j j (by omega)) ?_)))))));refine b4 8 j (λw h=>h.cell (qw (by rw [k6];omega))) (ag 11 1 j (bl 12 j (λw _=>fr j j (iH (16+R) 7 (by omega) (by omega))) (bl 13 j (λw _=>ht (R:=16+R-7) j j (by omega)) (b4 14 j (λw h=>h.cell (qw (by rw [k6];omega))) (ag 16 1 j (bl 17 j (λw _=>fr j j (iH (16+R) 2 (by omega) (by omega))) (bl 18 j (λw _=>ht (R:=16+R-2) j j (by omega)) (b4 19 j (λw h=>h.cell (qw (by rw [k6];omega))) (aX 9 j (bK j j j (Gu (o:=_) (x:=(gx p R).getD (16+R-15) 0)) (λt hw=>?_)))))))))));subst hw;refine ao ⟨d,?_⟩;refine bl 10 j (λw _=>fr j j (kP _ _)) (bl 15 j (λw _=>fr j j (kP _ _)) (aX 20 j (bK j j j (Gv (o:=_) (x:=(gx p R).getD (16+R-2) 0)) (λt hw=>?_))));subst hw;refine ao ⟨d,?_⟩;refine bl 21 j (λw _=>fr j j (kP _ _)) (bl 22 j (λw _=>ht (R:=16+R) j j (by omega)) (dK 23 j (cO d j j j j (by rw [Ad (by rw [k6];omega)];omega) (λw d=>?_))))
  have d:C o (au [J ba s.cs.toArray 145]) [[(m,.cells (hY (gx p (R+1))) 146 (0,0))],J ba s.cs.toArray 145] w:=by
   have G:gx p (R+1)=gx p R++[(gx p R).getD (16+R-16) 0+sr ((gx p R).getD (16+R-15) 0)+(gx p R).getD (16+R-7) 0+ss ((gx p R).getD (16+R-2) 0)]:=by
    show qf (gx p R)=_;unfold qf;rw [k6]
   have e:=Ac (l:=gx p R) (by rw [k6];omega) ((gx p R).getD (16+R-16) 0+sr ((gx p R).getD (16+R-15) 0)+(gx p R).getD (16+R-7) 0+ss ((gx p R).getD (16+R-2) 0));rw [k6] at e;rw [G,<-e];exact d
  exact ao (c5 (bE 2 j j j (dn (16+R) (by omega)) (bW 1 j ⟨R+1,⟨j,j,j,j,j,bb⟩,⟨k,d⟩,by omega⟩)))
 have M:R=48:=by omega
 subst M;refine bP 5 (U:=s.cs) j j j d.f1.bQ (cx 0 d j (λn w d=>cv 0 d j j j j j (λw d=>?_)));have d:C o (au [J ba s.cs.toArray 145]) (J n (rounds p s 0).cs.toArray 145::_) w:=C.whole (U:=s.cs) d j;refine dj 5 j (cU:=Nat) (λi=>[(0,aa ba),(1,.slice (some u) p.length c),(2,aa fO),(6,aa m),(9,aa n),(83,.int .i64 (i:Nat))]) (λi w=>i<=64/\C o (au [J ba s.cs.toArray 145]) [J n (rounds p s i).cs.toArray 145,J m (hY (gx p 48)) 146,J ba s.cs.toArray 145] w) (λi=>64-i) 0 ⟨j,j,j,j,j,j,bb⟩ ⟨cp _,d⟩ ?_;rintro i w ⟨H,d⟩;refine cy 4 j j (λF=>?_) (λF=>?_)
 .have k:i<64:=by omega
  have d:=d.drew;refine bx 8 j (λw=>C o (au [J ba s.cs.toArray 145]) [J n (rounds p s i).cs.toArray 145,J m (hY (gx p 48)) 146,J ba s.cs.toArray 145] w) d (bl 0 j (λw _=>ht (R:=7) j j (by decide)) (b4 1 j (λw h=>h.cell j) (bl 2 j (λw _=>ht (R:=4) j j (by decide)) (b4 3 j (λw h=>h.cell j) (bl 6 j (λw _=>ht (R:=4) j j (by decide)) ?_)))));refine b4 7 j (λw h=>h.cell j) (bl 8 j (λw _=>ht (R:=5) j j (by decide)) (b4 9 j (λw h=>h.cell j) (bl 10 j (λw _=>ht (R:=6) j j (by decide)) (b4 11 j (λw h=>h.cell j) (ag 14 3 j (bl 17 j (λw _=>ht (R:=i) j j k) (b4 18 j (λw h=>pQ ((h.fT fO P Q).trans ad) (AI k)) (ag 20 1 j (bl 21 j (λw _=>ht (R:=i) j j k) (b4 22 j (λw h=>h.f1.cell (qw (by rw [k6];omega))) (aX 4 j (bK j j j (BK (o:=_) (x:=(rounds p s i).e)) (λt hw=>?_)))))))))))));subst hw;refine ao ⟨d,?_⟩;refine bl 5 j (λw _=>fr j j (kP _ _)) (aX 12 j (bK j j j (choose_spec (o:=_) (x:=(rounds p s i).e) (y:=(rounds p s i).f) (z:=(rounds p s i).g)) (λt hw=>?_)));subst hw;refine ao ⟨d,?_⟩;refine bl 13 j (λw _=>fr j j (kP _ _)) (bl 19 j (λw _=>fr j j (kP _ _)) (bl 23 j (λw _=>fr j j (kP _ _)) (ag 24 1 j (bL ?_))));have d:=d.drew;refine bx 1 j (λw=>C o (au [J ba s.cs.toArray 145]) [J n (rounds p s i).cs.toArray 145,J m (hY (gx p 48)) 146,J ba s.cs.toArray 145] w) d (bl 0 j (λw _=>ht (R:=0) j j (by decide)) (b4 1 j (λw h=>h.cell j) (bl 3 j (λw _=>ht (R:=0) j j (by decide)) (b4 4 j (λw h=>h.cell j) (bl 5 j (λw _=>ht (R:=1) j j (by decide)) (b4 6 j (λw h=>h.cell j) (bl 7 j (λw _=>ht (R:=2) j j (by decide)) (b4 8 j (λw h=>h.cell j) (aX 2 j (bK j j j (BJ (o:=_) (x:=(rounds p s i).a)) (λt hw=>?_)))))))))));subst hw;refine ao ⟨d,?_⟩;refine aX 9 j (bK j j j (EY (o:=_) (x:=(rounds p s i).a) (y:=(rounds p s i).b) (z:=(rounds p s i).c)) (λt hw=>?_));subst hw;refine ao ⟨d,?_⟩;refine bl 10 j (λw _=>fr j j (kP _ _)) (ag 11 1 j (bL (bE 3 j j j (kP _ _) (jU (R:=0) j j j j (by decide) (ar 0 j (ax (C.aj d) j) (jU (R:=1) j j j j (by decide) ?_))))));refine ar 0 j (ax (C.aj d) j) (jU (R:=2) j j j j (by decide) (ar 0 j (ax (C.aj d) j) (jU (R:=3) j j j j (by decide) (ar 0 j (ax (C.aj d) j) (bE 1 j j j (kP _ _) (jU (R:=4) j j j j (by decide) (ar 0 j (ax (C.aj d) j) (jU (R:=5) j j j j (by decide) (ar 0 j (ax (C.aj d) j) (jU (R:=6) j j j j (by decide) (ar 0 j (ax (C.aj d) j) (cP (c:=(rounds p s (i+1)).cs.toArray) j j j (λ_=>by kernel_rfl) (cv 0 d j j j j j (λw d=>?_))))))))))))));have d:C o (au [J ba s.cs.toArray 145]) (J n (rounds p s (i+1)).cs.toArray 145::_) w:=C.whole (U:=(rounds p s (i+1)).cs) d (Eq.refl 8);exact bE 1 j j j (dn i (by omega)) (bW 1 j ⟨i+1,⟨j,j,j,j,j,j,bb⟩,⟨k,d⟩,by omega⟩)
 have K:i=64:=by omega
 subst K;have d:=d.f2;refine dj 5 j (cU:=Nat) (λR=>[(0,aa ba),(1,.slice (some u) p.length c),(2,aa fO),(6,aa m),(9,aa n),(142,.int .i64 (R:Nat))]) (λR w=>R<=8/\C o (au [J ba s.cs.toArray 145]) [J ba (mixed s (rounds p s 64) R).toArray 145,J n (rounds p s 64).cs.toArray 145,J m (hY (gx p 48)) 146] w) (λR=>8-R) 0 ⟨j,j,j,j,j,j,bb⟩ ⟨cp _,d⟩ ?_;rintro R w ⟨L,d⟩;refine cy 4 j j (λB=>?_) (λB=>?_)
 .have k:R<8:=by omega
  have d:=d.drew;refine bx 7 j (λw=>C o (au [J ba s.cs.toArray 145]) [J ba (mixed s (rounds p s 64) R).toArray 145,J n (rounds p s 64).cs.toArray 145,J m (hY (gx p 48)) 146] w) d (ag 0 3 j (bl 3 j (λw _=>ht (R:=R) j j k) (b4 4 j (λw h=>h.cell (EU s (rounds p s 64) k)) (ag 5 1 j (bl 6 j (λw _=>ht (R:=R) j j k) (b4 7 j (λw h=>h.f1.cell (w3 _ k)) (bl 8 j (λw _=>fr j j (kP _ _)) (ag 9 1 j (bl 10 j (λw _=>ht (R:=R) j j k) (dK 11 j (cO d j j j j (by rw [EV _ _ k];exact k) (λw d=>?_))))))))))));have d:C o (au [J ba s.cs.toArray 145]) [J ba (mixed s (rounds p s 64) (R+1)).toArray 145,J n (rounds p s 64).cs.toArray 145,J m (hY (gx p 48)) 146] w:=by rw [<-EW s (rounds p s 64) k];exact d
  exact ao (c5 (bE 1 j j j (dn R (by omega)) (bW 1 j ⟨R+1,⟨j,j,j,j,j,j,bb⟩,⟨k,d⟩,by omega⟩)))
 refine an 1 j j ?_;have N:R=8:=by omega
 subst N;exact⟨j,d.hS⟩
def kA:fu:=⟨0x6a09e667#32,0xbb67ae85#32,0x3c6ef372#32,0xa54ff53a#32,0x510e527f#32,0x9b05688c#32,0x1f83d9ab#32,0x5be0cd19#32⟩
def kK(p:List UInt8):Nat->fu
 |0=>kA
 |k+1=>vw (p.drop (64*k)) (kK p k)
def ml(p:List UInt8):List UInt8:=p.drop (64*(p.length/64))
def fh(p:List UInt8):Nat:=if 56<=p.length%64 then 128 else 64
def hg(g:Nat->UInt8):List UInt8:=(List.range 128).map g
def lw(p:List UInt8)(R i:Nat):UInt8:=if i<p.length%64 then(ml p).getD i 0 else if i=p.length%64 then 128 else if fh p-R<=i/\i<fh p then UInt8.ofNat ((8*p.length)>>>(8*(fh p-1-i))) else 0
def mQ(p:List UInt8):List UInt8:=hg (lw p 8)
def lU(p:List UInt8):Nat->fu
 |0=>kK p (p.length/64)
 |m+1=>vw ((mQ p).drop (64*m)) (lU p m)
def b2(x:BitVec 32):UInt8:=UInt8.ofNat x.toNat
def vc(x:BitVec 32):List UInt8:=[b2 (x>>>24),b2 (x>>>16),b2 (x>>>8),b2 x]
def fu.out(s:fu):List UInt8:=s.ws.flatMap vc
def ca(p:List UInt8):List UInt8:=(lU p (fh p/64)).out
theorem C.yy{o w:World}{F:List Nat}{ae:List (List Chunk)}{b:Nat}{I:Obj}(h:C o F ([(b,I)]::ae) w):b∉au ae:=λa=>by
 have:=h.nodup;rw [of] at this;exact(iX.1 this).2.2 b (by simp [au]) b a j
theorem F1{w:World}{A:Option Addr}{U:List Value}(h:U=[]):Rd w A U:=by subst h;exact Rd.nil _ _
theorem oe(g:Nat->UInt8):(hg g).length=128:=by simp [hg]
theorem rJ(g:Nat->UInt8){i:Nat}(h:i<128):(hg g)[i]? =some (g i):=by simp [hg,h]
theorem xp{g a:Nat->UInt8}(h:∀k,k<128->g k=a k):hg g=hg a:=tv (λk ad=>h k (q4.1 ad))
theorem xq(g:Nat->UInt8){i:Nat}(h:i<128)(v:UInt8):(aP (hg g)).toArray.setIfInBounds i (bv v)=(aP (hg λk=>if k=i then v else g k)).toArray:=by
 apply fz;simp only [Array.toList_setIfInBounds,aP];apply nN;intro k;rw [List.getElem?_set];simp only [fa,oe,gR];by_cases ad:k<128
 .by_cases a:i=k
  .subst a;simp [h,rJ _ h]
  .rw [az a,rJ _ ad,rJ _ ad,az (λe=>a e.symm)]
 .have e:∀g,(hg g)[k]? =none:=λg=>lh (by rw [oe];omega)
  rw [e,e,az (by omega)]
theorem Dm(r:List UInt8)(h:r.length<=128):aP r++(List.replicate 128 (bv 0)).drop (0+(aP r).length)=aP (hg λk=>if k<r.length then r.getD k 0 else 0):=by
 apply nN;intro k;simp only [aP,List.drop_replicate,fa];by_cases ad:k<128
 .rw [gR,rJ _ ad];by_cases a:k<r.length
  .rw [jG (by simpa using a)];simp [a,List.getD]
  .rw [ko (by simpa using Nat.le_of_not_lt a),List.getElem?_replicate,List.length_map,if_pos (by omega),if_neg a];rfl
 .rw [lh (by simp only [cj,List.length_map,List.length_replicate];omega),List.getElem?_eq_none (by rw [List.length_map,oe];omega)]
theorem qk(p:List UInt8):(ml p).length=p.length%64:=by simp only [ml,iC];omega
theorem jw(p:List UInt8):(fh p=128/\56<=p.length%64)\/(fh p=64/\p.length%64<56):=by unfold fh;split<;>omega
theorem Ei(p:List UInt8):(hg λk=>if k=p.length%64 then(128:UInt8) else if k<(ml p).length then(ml p).getD k 0 else 0)=hg (lw p 0):=xp λk ad=>by
 rw [qk];unfold lw;by_cases a:k=p.length%64
 .subst a;simp
 .by_cases b:k<p.length%64
  .simp [a,b]
  .have:¬(fh p-0<=k/\k<fh p):=by omega
   rw [az a,az b,az b,az a,az this]
theorem Ej(p:List UInt8){R:Nat}(f:R<8):(hg λk=>if k=fh p-1-R then UInt8.ofNat ((8*p.length)>>>(8*R)) else lw p R k)=hg (lw p (R+1)):=xp λk ad=>by
 unfold lw;have aT:p.length%64<64:=jE _ (by decide);by_cases b:k=fh p-1-R
 .have c:¬k<p.length%64:=by rcases jw p with h|h<;>omega
  have d:k≠p.length%64:=by rcases jw p with h|h<;>omega
  have a:fh p-(R+1)<=k/\k<fh p:=by rcases jw p with h|h<;>omega
  have e:fh p-1-k=R:=by rcases jw p with h|h<;>omega
  rw [aR b,az c,az d,aR a,e]
 .rw [az b];have a:(fh p-(R+1)<=k/\k<fh p)↔(fh p-R<=k/\k<fh p):=by rcases jw p with h|h<;>omega
  simp only [a]
theorem rp(x:BitVec 32):IntKind.u8.wrap (x.toNat:Int)=((b2 x).toNat:Int):=by
 rw [lS];unfold b2;rw [pm];omega
theorem CA(x:Nat):IntKind.u8.wrap (x:Int)=((UInt8.ofNat x).toNat:Int):=by
 rw [lS,pm];omega
theorem Dc(n:Nat)(h:n<=1000000000):evalShift .shl .u64 (n:Int) 3=some (.int .u64 ((8*n:Nat):Int)):=by
 show some (Value.int .u64 (IntKind.u64.wrap ((n:Int)*2^(min (3:Int).toNat IntKind.u64.bits))))=_;rw [show(2:Int)^(min (3:Int).toNat IntKind.u64.bits)=8 by decide,pn];exact aK (λz=>some (Value.int .u64 z)) (by omega)
theorem Dd(x n:Nat)(h:n<=64):evalShift .shr .u64 (x:Int) (n:Int)=some (.int .u64 ((x>>>n:Nat):Int)):=by
 show some (Value.int .u64 ((x:Int).fdiv (2^(min ((n:Int).toNat) IntKind.u64.bits))))=_;have a:min ((n:Int).toNat) IntKind.u64.bits=n:=by show min ((n:Int).toNat) 64=n;rw [lj];omega
 rw [a,tt _ (by exact Int.le_of_lt (Int.pow_pos (by decide))),show(2:Int)^n=((2^n:Nat):Int) by simp,<-Int.natCast_ediv,Nat.shiftRight_eq_div_pow]
def js(s:fu)(R:Nat):List UInt8:=((s.ws.take R).flatMap vc)++List.replicate (32-4*R) 0
theorem FF(s:fu){R:Nat}(h:R<8):((((aP (js s R)).toArray.setIfInBounds (4*R) (bv (b2 (s.ws.getD R 0>>>24)))).setIfInBounds (4*R+1) (bv (b2 (s.ws.getD R 0>>>16)))).setIfInBounds (4*R+2) (bv (b2 (s.ws.getD R 0>>>8)))).setIfInBounds (4*R+3) (bv (b2 (s.ws.getD R 0)))=(aP (js s (R+1))).toArray:=by
 obtain⟨a,s1,s2,b,c,d,e,f⟩:=s;rcases pV h with rfl|rfl|rfl|rfl|rfl|rfl|rfl|rfl<;>simp [js,fu.ws,vc,aP,List.replicate]
theorem p3(s:fu){R:Nat}(h:R<=8):(js s R).length=32:=by
 have:R=0\/R=1\/R=2\/R=3\/R=4\/R=5\/R=6\/R=7\/R=8:=by omega
 rcases this with rfl|rfl|rfl|rfl|rfl|rfl|rfl|rfl|rfl<;>rfl
theorem fu.B3(s:fu):(aP s.out).length=32:=by rw [dx];rfl
theorem fu.FE(s:fu):s.out.length=32:=rfl
theorem fm(p:List UInt8):(ca p).length=32:=fu.FE _
theorem zz(p:List UInt8):(aP (ca p)).length=32:=fu.B3 _
theorem oB{o:World}{A:Option Addr}{p:List UInt8}{c:Nat}(Q:Rd o A (aP p))(K:p.length<=1000000000)(E:p.length<=c):Calls prog 28 #[.slice A p.length c] o λr w=>r= .agg (aP (ca p)).toArray/\C o [] [] w:=by
 have a:Own [] o:=C.start o;refine fj func28 (cx 2 a j (λaS w a=>?_));have a:C o [] [J aS (aP (js kA 0)).toArray 80] w:=a;refine aq 2 j (cP (c:=kA.cs.toArray) j j j (λ_=>by kernel_rfl) ?_);refine cx 0 a j (λb w a=>cv 0 a j j j j j (λw a=>?_));have a:C o [] [J b (kK p 0).cs.toArray 145,J aS (aP (js kA 0)).toArray 80] w:=C.whole (U:=kA.cs) a j;have l:=Fe (o:=w);refine br 2 l j (λw ad=>?_);have a:=a.aO ad;refine cx 0 a j (λd w a=>cv 0 a j j j (by decide) (by decide) (λw a=>?_));have a:=C.whole (U:=iQ h9) a j;refine dj 6 j (cU:=Nat×Option Addr×Nat) (λi=>[(0,.slice A p.length c),(2,aa aS),(3,aa b),(4,aa d),(5,.slice i.2.1 (p.drop (64*i.1)).length i.2.2)]) (λi w=>64*i.1<=p.length/\(p.drop (64*i.1)).length<=i.2.2/\Rd o i.2.1 (aP (p.drop (64*i.1)))/\C o [] [J d (iQ h9).toArray 146,J b (kK p i.1).cs.toArray 145,J aS (aP (js kA 0)).toArray 80] w) (λi=>p.length-64*i.1) (0,A,c) ⟨j,j,j,j,j,bb⟩ ⟨by omega,by simpa using E,by simpa using Q,a⟩ ?_;rintro⟨k,B,aH⟩ w ⟨M,L,q,a⟩;dsimp only at M L q a⊢;have hlen:(p.drop (64*k)).length=p.length-64*k:=iC;refine cy 6 j j (λt=>?_) (λt=>?_)
 .have T:=t;have z:d≠b:=λe=>C.yy a (by subst e;simp [au])
  have l:=zO (s:=kK p k) (p:=p.drop (64*k)) (c:=aH) a.f1.h7 (a.rd q (cc.of_nil _ _)) ((a.apart q (cc.of_nil _ _)).sub (fE (by simp))) a.first z (t|>λh=>by omega);refine bk 5 l j (λr w⟨_,ad⟩=>?_);have a:C o [] (J b (kK p (k+1)).cs.toArray 145::_) w:=a.f1.gT ad;have a:=a.f1;refine aq 2 j (nK (i:=64) j j j j (by omega) ?_);refine bW 1 j ?_;have u:p.drop (64*(k+1))=(p.drop (64*k)).drop 64:=by rw [List.drop_drop];congr 1
  refine⟨(k+1,(if aH=64 then B else B.map (·.add (64*1))),aH-64),⟨j,j,j,j,?_,bb⟩,⟨by dsimp only;omega,by dsimp only;rw [u,iC (i:=64)];omega,?_,a⟩,by dsimp only;omega⟩
  .show some (Value.slice _ ((p.drop (64*k)).length-64) _)=some (Value.slice _ (p.drop (64*(k+1))).length _);rw [u,iC (i:=64)]
  dsimp only;rw [u,show aP ((p.drop (64*k)).drop 64)=(aP (p.drop (64*k))).drop 64 by simp [aP]];split
  .rename_i E;exact F1 (by simp [aP];omega)
  exact q.drop 64
 have ad:k=p.length/64:=by omega
 subst ad;have W:p.length%64<64:=jE _ (by decide);refine cx 3 a j (λf w a=>aq 2 j (mx j j j ?_));refine aq 1 j (vR (off:=0) (news:=aP (ml p)) a j j j j (by rw [dx];exact(mD (by rw [qk];omega)).symm) (.inr j) (a.rd q (cc.of_nil _ _)) (gC _) (by rw [dx,qk];show 0+_<=128;omega) (λw a=>?_));refine bY 26 (.int .i64 (p.length%64:Nat)) j (by rw [dx,qk]) ?_
 have a:C o [] [[(f,.cells (aP (hg λk=>if k<(ml p).length then(ml p).getD k 0 else 0)).toArray 150 (0,0))],J d (iQ h9).toArray 146,J b (kK p (p.length/64)).cs.toArray 145,J aS (aP (js kA 0)).toArray 80] w:=by
  rw [<-Dm (ml p) (by rw [qk];omega)];exact a
 refine aq 4 j (jU (R:=p.length%64) j j j j (by omega) ?_);refine cO a j j j j (by simp [dx,oe];omega) (λw a=>?_)
 have a:C o [] [[(f,.cells (aP (hg (lw p 0))).toArray 150 (0,0))],J d (iQ h9).toArray 146,J b (kK p (p.length/64)).cs.toArray 145,J aS (aP (js kA 0)).toArray 80] w:=by
  rw [<-Ei,<-xq _ (by omega)];exact a
 refine lv 3 j (λZ w=>sub Z [(0,.slice A p.length c),(2,aa aS),(3,aa b),(4,aa d),(6,aa f),(8,.int .i64 (fh p:Nat))]/\C o [] [[(f,.cells (aP (hg (lw p 0))).toArray 150 (0,0))],J d (iQ h9).toArray 146,J b (kK p (p.length/64)).cs.toArray 145,J aS (aP (js kA 0)).toArray 80] w) ?_ ?_
 .refine cy 4 j j (λG=>?_) (λG=>?_);refine bW 2 j ?_;rotate_left
  refine bW 1 j ?_;rotate_left
  all_goals
   refine⟨⟨j,j,j,j,j,?_,bb⟩,a⟩
   first
    |exact aK (λx:Nat=>some (Value.int .i64 (x:Int))) (show 128=fh p by unfold fh;rw [if_pos (by omega)])
    |exact aK (λx:Nat=>some (Value.int .i64 (x:Int))) (show 64=fh p by unfold fh;rw [if_neg (by omega)])
 rintro Z w ⟨aF,a⟩;refine lf [(0,.slice A p.length c),(2,aa aS),(3,aa b),(4,aa d),(6,aa f),(8,.int .i64 (fh p:Nat))] aF (aq 4 j (iU j j j (pA _ (by omega)) ?_));refine kj j j j j (by omega) (Dc p.length K) (dj 6 j (cU:=Nat) (λR=>[(0,.slice A p.length c),(2,aa aS),(3,aa b),(4,aa d),(6,aa f),(8,.int .i64 (fh p:Nat)),(9,.int .u64 (8*p.length:Nat)),(35,.int .i64 (R:Nat))]) (λR w=>R<=8/\C o [] [[(f,.cells (aP (hg (lw p R))).toArray 150 (0,0))],J d (iQ h9).toArray 146,J b (kK p (p.length/64)).cs.toArray 145,J aS (aP (js kA 0)).toArray 80] w) (λR=>8-R) 0 ⟨j,j,j,j,j,j,j,j,bb⟩ ⟨cp _,a⟩ ?_);rintro R w ⟨n,a⟩;refine cy 4 j j (λH=>?_) (λH=>?_)
 .have g:R<8:=by omega
  refine bE 9 j j j (iH (fh p) 1 (by rcases jw p with h|h<;>omega) (by rcases jw p with h|h<;>omega)) (bE 1 j j j (iH (fh p-1) R (by rcases jw p with h|h<;>omega) (by rcases jw p with h|h<;>omega)) (bE 2 j j j (lZ 8 R (by omega)) (kj j j j j (by omega) (Dd (8*p.length) (8*R) (by omega)) (iU j j j (CA _) (jU (R:=fh p-1-R) j j j j (by rcases jw p with h|h<;>omega) (cO a j j j j (by simp [dx,oe];rcases jw p with h|h<;>omega) (λw a=>?_)))))))
  have a:C o [] [[(f,.cells (aP (hg (lw p (R+1)))).toArray 150 (0,0))],J d (iQ h9).toArray 146,J b (kK p (p.length/64)).cs.toArray 145,J aS (aP (js kA 0)).toArray 80] w:=by
   rw [<-Ej p g,<-xq _ (by rcases jw p with h|h<;>omega)];exact a
  exact bE 1 j j j (dn R (by omega)) (bW 1 j ⟨R+1,⟨j,j,j,j,j,j,j,j,bb⟩,⟨g,a⟩,by omega⟩)
 have y:R=8:=by omega
 subst y;refine dj 6 j (cU:=Nat) (λm=>[(0,.slice A p.length c),(2,aa aS),(3,aa b),(4,aa d),(6,aa f),(8,.int .i64 (fh p:Nat)),(11,.int .i64 (64*m:Nat))]) (λm w=>64*m<=fh p/\C o [] [J f (aP (mQ p)).toArray 150,J d (iQ h9).toArray 146,J b (lU p m).cs.toArray 145,J aS (aP (js kA 0)).toArray 80] w) (λm=>fh p-64*m) 0 ⟨j,j,j,j,j,j,j,bb⟩ ⟨by omega,a⟩ ?_;rintro m w ⟨hm,a⟩;refine cy 6 j j (λD=>?_) (λD=>?_)
 .have g:64*m<fh p:=by omega
  have V:64*m+64<=128:=by rcases jw p with h|h<;>omega
  refine aq 5 j (AS (i:=64*m) j j j j (by omega) ?_);have z:d≠b:=λe=>C.yy a.f1 (by subst e;simp [au])
  have N:(mQ p).length=128:=oe _
  have S:Rd w (some ⟨f,64*m,none⟩) (aP ((mQ p).drop (64*m))):=a.i9 (λi v F=>by
   rw [show aP ((mQ p).drop (64*m))=(aP (mQ p)).drop (64*m) by simp [aP],mI] at F;simpa using F)
  have O:((mQ p).drop (64*m)).length=128-64*m:=by rw [iC,N]
  have l:=zO (s:=lU p m) (p:=(mQ p).drop (64*m)) (c:=128-64*m) a.f2.h7 S ((a.iE).sub (fE (by simp))) a.f1.first z (by omega);rw [O] at l;refine bk 0 l j (λr w⟨_,ad⟩=>?_);have a:C o [] (J b (lU p (m+1)).cs.toArray 145::_) w:=a.f2.gT ad;have a:=a.f2.f2;exact bE 2 j j j (gX (64*m) 64 (by omega)) (bW 1 j ⟨m+1,⟨j,j,j,j,j,j,j,bb⟩,⟨by rcases jw p with h|h<;>omega,a⟩,by omega⟩)
 have P:m=fh p/64:=by have:=D;rcases jw p with h|h<;>omega
 subst P;refine bP 4 (U:=(lU p (fh p/64)).cs) j j j a.f2.bQ (dj 2 j (cU:=Nat) (λR=>[(2,aa aS),(57,.agg (lU p (fh p/64)).cs.toArray),(58,.int .i64 (R:Nat))]) (λR w=>R<=8/\C o [] [[(aS,.cells (aP (js (lU p (fh p/64)) R)).toArray 80 (0,0))]] w) (λR=>8-R) 0 ⟨j,j,j,bb⟩ ⟨cp _,a.f3.hS⟩ ?_);rintro R w ⟨n,a⟩;refine cy 4 j j (λI=>?_) (λI=>?_)
 .have g:R<8:=by omega
  refine aq 6 j (vW (R:=R) j j j j g j (w3 _ g) ?_);refine bE 4 j j j (lZ 4 R (by omega)) (bE 1 j j j (lZ 4 R (by omega)) (bE 0 j j j (gX (4*R) 1 (by omega)) (bE 1 j j j (lZ 4 R (by omega)) (bE 0 j j j (gX (4*R) 2 (by omega)) (bE 1 j j j (lZ 4 R (by omega)) (bE 0 j j j (gX (4*R) 3 (by omega)) (aq 1 j (kj j j j j (by omega) (od _ 24 (by decide)) ?_))))))));refine iU j j j (rp _) (aq 1 j (kj j j j j (by omega) (od _ 16 (by decide)) ?_));refine iU j j j (rp _) (aq 1 j (kj j j j j (by omega) (od _ 8 (by decide)) ?_));refine iU j j j (rp _) (aq 1 j (iU j j j (rp _) ?_));refine jU (R:=4*R) j j j j (by omega) (cO a j j j j (by simp [dx,p3 _ n];omega) (λw a=>jU (R:=4*R+1) j j j j (by omega) (cO a j j j j (by simp [dx,p3 _ n];omega) (λw a=>jU (R:=4*R+2) j j j j (by omega) (cO a j j j j (by simp [dx,p3 _ n];omega) (λw a=>jU (R:=4*R+3) j j j j (by omega) (cO a j j j j (by simp [dx,p3 _ n];omega) (λw a=>?_))))))));have a:C o [] [[(aS,.cells (aP (js (lU p (fh p/64)) (R+1))).toArray 80 (0,0))]] w:=by rw [<-FF _ g];exact a
  exact bE 1 j j j (dn R (by omega)) (bW 1 j ⟨R+1,⟨j,j,j,bb⟩,⟨g,a⟩,by omega⟩)
 have y:R=8:=by omega
 subst y;refine bP 3 (U:=aP (ca p)) j j (zz p) a.bQ (c6 a j j j (by simpa using gC (ca p)) (zz p) (by simp [dx,p3 _ (Nat.le_refl 8)]) (λw a=>?_));have a:=C.whole (U:=aP (ca p)) a j;refine bH 0 j ⟨_,hW (U:=aP (ca p)) results28 j j j a.bQ,?_⟩;exact⟨j,a.bare⟩
abbrev eW(a:Nat)(v:Value):List Chunk:=J a #[v] 177
abbrev d6(v:Value)(aG:List UInt8)(ak:List Chunk):Prop:=Row 5 1 v aG.length (aP aG) ak
theorem k0{o:World}{a:Nat}{v0:Value}{f:List Chunk}{aG:List UInt8}{A:Option Addr}{eR:List Int}{c:Nat}
 (b:Own [eW a v0,f] o) (e:d6 v0 aG f) (B:Rd o A (eR.map ab)) (t:cc A (eR.map ab) (au [eW a v0,f])) (G:aG.length+10*eR.length<=1000000000):
 Calls prog 69 #[aa a,.slice A eR.length c] o λr w=>r= .tuple #[]/\∃v ak,d6 v (aG++ep eR) ak/\C o (au [eW a v0,f]) [eW a v,ak] w:=by
 refine a6 func69 ?_
 refine dj 13 j (cU:=Nat×Value×List Chunk)
  (λi=>[(0,aa a),(9,.slice A eR.length c),(10,.int .i64 (eR.length:Nat)),(11,.int .i64 (i.1:Nat))])
  (λi w=>i.1<=eR.length/\d6 i.2.1 (aG++ep (eR.take i.1)) i.2.2/\C o (au [eW a v0,f]) [eW a i.2.1,i.2.2] w)
  (λi=>eR.length-i.1) (0,v0,f) ⟨j,j,j,j,bb⟩ ⟨cp _,by simpa [ep] using e,b⟩ ?_
 rintro⟨R,v,ak⟩ w ⟨y,e,b⟩;dsimp only at y e b⊢;refine bo 4 j j (λk=>?_) (λk=>?_)
 .have h:=k;have h:R<eR.length:=by simpa using k
  refine aq 5 j (fJ j j j j (b.rd B t) (v:=ab eR[R]) (by simp [h]) h (λD F x=>?_));refine ar 0 j x (aq 4 j (qL j j j ?_));refine s8 j j j (iU j j j (Ch _) ?_)
  refine dj 3 j (cU:=Nat×Value×List Chunk×List UInt8)
   (λi=>[(0,aa a),(9,.slice A eR.length c),(10,.int .i64 (eR.length:Nat)),(11,.int .i64 (R:Nat)),(6,.int .u64 (i.1:Nat))])
   (λi w=>i.2.2.2++enc i.1=(aG++ep (eR.take R))++enc (hE eR[R])/\d6 i.2.1 i.2.2.2 i.2.2.1/\C o (au [eW a v0,f]) [eW a i.2.1,i.2.2.1] w)
   (λi=>i.1) (hE eR[R],v,ak,aG++ep (eR.take R)) ⟨j,j,j,j,j,bb⟩ ⟨j,e,b⟩ ?_
  rintro⟨u,v,ak,d⟩ w ⟨g,e,b⟩;dsimp only at g e b⊢
  have hlen:d.length+(enc u).length<=aG.length+9*R+9:=by
   have q:=aK List.length g;have E:=t5 (hE eR[R]) (wS _);have s:=gb (eR.take R);simp only [cj,List.length_take] at q s;omega
  have H:=CU u;refine cy 5 j j (λp=>?_) (λp=>?_)
  .skip
   refine ar 8 j (ax (C.aj b) j) (aq 1 j (iU j j j j ?_));refine aq 1 j (bY 30 (bv (UInt8.ofNat (u%128+128))) j (aK (Value.int .u8) (EX u)) ?_);refine fx b j j j j j j bO (λl w b=>?_);have aT:Rd w (some ⟨l,0,none⟩) [bv (UInt8.ofNat (u%128+128))]:=b.bQ;have b:=b.f2;refine e6 b e j j (by decide) j j j (m:=1) (news:=[bv (UInt8.ofNat (u%128+128))]) j aT (gC [(UInt8.ofNat (u%128+128))]) (by omega) (by unfold maxLen;omega) (λv ak w e b=>?_);have b:=b.f2;refine dE 2 b j j j e.one (λw b=>?_);have b:=b.f2.drop;refine aq 2 j (kj j j j j (by omega) j ?_);refine bY 22 (.int .u64 ((u/128:Nat):Int)) j (aK (Value.int .u64) (GK u)) (bW 1 j ?_);have hu:¬u<128:=by omega
   refine⟨(u/128,v,ak,d++[(UInt8.ofNat (u%128+128))]),⟨j,j,j,j,j,bb⟩,⟨?_,wK e,b⟩,by dsimp only;omega⟩;rw [t4 hu] at g;simpa using g
  .skip
   refine ar 6 j (ax (C.aj b) j) (aq 1 j (iU j j j j ?_));refine bY 41 (bv (UInt8.ofNat u)) j (aK (Value.int .u8) (EG u)) (fx b j j j j j j bO (λn w b=>?_));have aT:Rd w (some ⟨n,0,none⟩) [bv (UInt8.ofNat u)]:=b.bQ;have b:=b.f2;refine e6 b e j j (by decide) j j j (m:=1) (news:=[bv (UInt8.ofNat u)]) j aT (gC [(UInt8.ofNat u)]) (by omega) (by unfold maxLen;omega) (λv ak w e b=>?_);have b:=b.f2;refine dE 2 b j j j e.one (λw b=>?_);have b:=b.f2.drop;refine bE 1 j j j (dn R (by omega)) (bW 1 j (⟨(R+1,v,ak),⟨j,j,j,j,bb⟩,⟨h,?_,b⟩,by dsimp only;omega⟩));have hu:u<128:=by omega
   rw [pD hu] at g
   have he:aG++ep (eR.take (R+1))=d++[UInt8.ofNat u]:=by
    rw [fK h,CV,<-List.append_assoc,g];simp [ep]
   rw [he];exact wK e
 .have h:=k;refine an 1 j j (⟨j,v,ak,?_,b⟩);have z:R=eR.length:=by have:=dY k;omega
  subst z;simpa using e
theorem gN{o:World}{A:Option Addr}{aG:List UInt8}{c:Nat}(d:Rd o A (aP aG))(i:aG.length<=1000000000):
 Calls prog 51 #[.slice A aG.length c] o λr w=>∃G,d6 r aG G/\C o [] [G] w:=by
 have b:Own [] o:=C.start o;refine a6 func51 (aq 7 j (vV j j j ?_));refine bo 0 j j (λfA=>?_) (λfA=>?_)
 .skip
  refine an 3 j j ?_;have e:A=none:=by simpa using fA
  subst e
  have:aG=[]:=by
   cases aG with
   |nil=>rfl
   |cons x r=>obtain⟨a,g,_⟩:=d 0 (bv x) j;cases g
  subst this;exact⟨[],Row.nil _ _,b.empty⟩
 .skip
  refine aq 3 j (fx b j j j j j j bO (λh w b=>?_));refine aq 1 j (e6 b (Row.made (size:=1) (by simp [maxLen]) (Nat.zero_le _)) j j (by decide) j j j (news:=aP aG) (by simp) (b.rd d (cc.of_nil _ _)) (gC aG) (by omega) (by unfold maxLen;omega) (λv G w f b=>?_));exact an 1 j j ⟨G,by simpa [d6] using f,b⟩
theorem p4{o:World}{a:Nat}{v0:Value}{d:List Chunk}{aG:List UInt8}(b:Own [eW a v0,d] o)(f:d6 v0 aG d)(g:aG.length<=1000000000):
 Calls prog 71 #[aa a] o λr w=>∃G,d6 r aG G/\C o (au [eW a v0,d]) [G,eW a v0,d] w:=by
 refine a6 func71 (ar 15 j (ax (C.aj b) j) ?_);obtain⟨A,c,rfl,k,l,h,i⟩:=f.rd b.f1;refine bk 0 (gN h g) j (λr w⟨G,e,ad⟩=>?_);have b:=b.aO ad;exact an 1 j j ⟨G,e,b⟩
theorem p8{o:World}{a:Nat}{v0:Value}{e:List Chunk}{aG dh:List UInt8}{A:Option Addr}{c:Nat}
 (b:Own [eW a v0,e] o) (d:d6 v0 aG e) (f:Rd o A (aP dh)) (g:aG.length+dh.length<=1000000000):
 Calls prog 127 #[aa a,.slice A dh.length c] o λr w=>r= .tuple #[]/\∃v ak,d6 v (aG++dh) ak/\C o (au [eW a v0,e]) [eW a v,ak] w:=by
 refine a6 func127 (ar 10 j (ax (C.aj b) j) ?_);have b:=b.f1;refine aq 1 j (e6 b d j j (by decide) j j j (news:=aP dh) (by simp) f (gC dh) (by omega) (by unfold maxLen;omega) (λv ak w d b=>?_));have b:=b.f1;exact dE 2 b j j j d.one (λw b=>an 0 j j ⟨j,v,ak,tO d j,b⟩)
theorem C.Fi{o w:World}{ae:List (List Chunk)}{b:Nat}{I:Obj}(a:C o [] ae w)(h:o.heap[b]? =some I):w.heap[b]? =some I:=by
 rw [a.fT b (gq.1 h).1 (by simp)];exact h
def mf(k:List UInt8):List UInt8:=k++List.replicate (64-k.length) 0
def nu(k p:List UInt8):List UInt8:=ca ((mf k).map (·^^^92)++ca ((mf k).map (·^^^54)++p))
theorem pX(k p:List UInt8):(nu k p).length=32:=fm _
theorem yR(k:List UInt8)(h:k.length<=64):(mf k).length=64:=by simp [mf];omega
theorem EM{l:List UInt8}{g:UInt8->UInt8}{i:Nat}(h:i<l.length):(l.take (i+1)).map g=(l.take i).map g++[g l[i]]:=by
 rw [fK h,iB];rfl
theorem Af{o:World}{fO:Nat}{K p:List UInt8}{m:UInt8}{B:Option Addr}{d:Nat}(ad:o.heap[fO]? =some (.cells (aP K).toArray 317 (0,0)))(s:K.length=64)(A:Rd o B (aP p))(I:p.length<=1000000):Calls prog 194 #[bv m,.slice B p.length d,aa fO] o λr w=>r= .agg (aP (ca (K.map (·^^^m)++p))).toArray/\C o [] [] w:=by
 have a:Own [] o:=C.start o;have z:(aP K).length=64:=by rw [dx,s]
 refine fj func194 ?_;refine cx 2 a j (λn w a=>?_);refine bE 4 j j j (gX 64 p.length (by omega)) ?_;refine nJ (l:=0) (c:=64+p.length) a j j j j (by omega) (by omega) (by unfold maxLen;omega) (λk cs w H _ a=>?_);have e:d6 (.slice (some ⟨k,0,none⟩) 0 (64+p.length)) [] (J k cs 5):=Row.made (by unfold maxLen;omega) (by omega);refine bP 4 (U:=aP K) j j z (λi v E=>⟨_,j,by rw [add_lit];exact pQ (C.Fi a ad) (by rw [fe];simpa using E)⟩) ?_
 refine dj 2 j (cU:=Nat×Value×List Chunk) (λi=>[(0,bv m),(1,.slice B p.length d),(5,aa n),(6,i.2.1),(13,.agg (aP K).toArray),(14,.int .i64 (i.1:Nat))])
  (λi w=>i.1<=K.length/\d6 i.2.1 ((K.take i.1).map (·^^^m)) i.2.2/\C o [] [i.2.2,J n (Array.replicate 32 (bv 0)) 80] w) (λi=>64-i.1) (0,_,_) ⟨j,j,j,j,j,j,bb⟩ ⟨cp _,e,a⟩ ?_
 rintro⟨i,v,ak⟩ w ⟨x,e,a⟩;dsimp only at x e a⊢;refine bo 4 j j (λf=>?_) (λf=>?_)
 .have g:i<K.length:=by have:=dV f;omega
  refine aq 5 j (vW (R:=i) (v:=bv K[i]) j j j j (by omega) j (by simp [aP,g]) ?_);refine bE 5 j j j (Dg _ _) ?_;refine fx a j j j j j j bO (λG w a=>?_);have aT:=a.bQ;refine e6 a.f1 e j j (by decide) j j j (news:=aP [K[i]^^^m]) j aT (gC _) (by(try simp only [List.length_map,List.length_take]);omega) (by(try simp only [List.length_map,List.length_take]);unfold maxLen;omega) (λv1 h w b a=>?_);have b:=tO b j;refine bE 2 j j j (dn i (by omega)) ?_;refine bW 1 j ?_;have q:i+1<=64:=by omega
  refine⟨(i+1,v1,h),⟨j,j,j,j,j,j,bb⟩,⟨g,?_,a.f1.drop⟩,by dsimp only;omega⟩;dsimp only;rw [EM g];exact b
 have q:i=K.length:=by have:=dY f;omega
 subst q;rw [gm] at e;refine aq 5 j (e6 a e j j (by decide) j j j (news:=aP p) (by simp) (a.rd A (cc.of_nil _ _)) (gC _) (by simp only [List.length_map];omega) (by simp only [List.length_map];unfold maxLen;omega) (λv1 h w b a=>?_));have b:=tO b j;obtain⟨F,aH,rfl,t,_,D,_⟩:=b.rd a;have u:=oB D (by simp only [cj,List.length_map];omega) t;refine br 0 u j (λw y=>?_);have a:=(a.aO y).f1;refine cv 0 a j j j (by simpa using gC (ca (K.map (·^^^m)++p))) (by rw [List.size_toArray,dx,fm]) (λw a=>?_);have a:=C.whole (U:=aP (ca (K.map (·^^^m)++p))) a (by rw [dx,fm];rfl);refine bH 0 j ⟨_,hW (U:=aP (ca (K.map (·^^^m)++p))) results194 j j (by rw [dx,fm]) a.bQ,?_⟩;exact⟨j,a.bare⟩
theorem FG(k:List UInt8)(h:k.length<=64):(Array.replicate 64 (bv 0)).toList.take 0++aP k++(Array.replicate 64 (bv 0)).toList.drop (0+(aP k).length)=aP (mf k):=by
 rw [Array.toList_replicate,List.take_zero,kl,List.drop_replicate,dx,Nat.zero_add];simp only [mf,aP,iB,List.map_replicate]
def oL(k p:List UInt8):List UInt8:=ca ((mf k).map (·^^^54)++p)
theorem qy(k p:List UInt8):(oL k p).length=32:=fm _
theorem EI{o:World}{A:Option Addr}{key:List UInt8}{c:Nat}{B:Option Addr}{p:List UInt8}{d:Nat}(q:Rd o A (aP key))(f:key.length<=64)(n:Rd o B (aP p))(l:p.length<=1000000):Calls prog 145 #[.slice A key.length c,.slice B p.length d] o λr w=>r= .agg (aP (nu key p)).toArray/\C o [] [] w:=by
 have a:Own [] o:=C.start o;refine fj func145 (cx 2 a j (λg w a=>?_));have a:C o [] [J g (Array.replicate 32 (bv 0)) 80] w:=a;refine cx 2 a j (λh w a=>?_);have a:C o [] [J h (Array.replicate 64 (bv 0)) 317,_] w:=a;refine ij 6 j j (e7 (by omega)) (aq 3 j (mx j j j ?_));refine aq 1 j (vR (off:=0) (news:=aP key) a j j j j (by rw [dx];exact(mD f).symm) (.inr j) (a.rd q (cc.of_nil _ _)) (gC _) (by simp only [dx,Array.size_replicate];omega) (λw a=>?_));have a:C o [] [J h (aP (mf key)).toArray 317,J g (Array.replicate 32 (bv 0)) 80] w:=by rw [<-FG key f];exact a
 refine aq 2 j (gI j j j j ?_);have e:=Af (m:=54) a.first (yR key f) (a.rd n (cc.of_nil _ _)) l (d:=d);refine aq 5 j (hx j j j j e (λr w⟨b,i⟩=>?_));have b:r= .agg (aP (oL key p)).toArray:=b;subst b;have a:=a.aO i;refine cx 0 a j (λk w a=>?_);have a:C o [] [J k (Array.replicate 32 (bv 0)) 80,J h (aP (mf key)).toArray 317,J g (Array.replicate 32 (bv 0)) 80] w:=a;refine c6 a j j j (by simpa using gC (oL key p)) (by rw [List.size_toArray,dx,qy]) (by simp only [List.size_toArray,Array.size_replicate,dx,qy];try decide) (λw a=>?_);have a:=C.whole (U:=aP (oL key p)) a (by rw [dx,qy];rfl);refine aq 3 j (mx j j j ?_);have s:Rd w (some ⟨k,0,none⟩) (aP (oL key p)):=a.bQ;have e:=Af (m:=92) (p:=oL key p) a.f1.first (yR key f) s (by rw [qy];decide) (d:=32);rw [qy] at e;refine hx j j j j e (λr w⟨b,i⟩=>?_);have b:r= .agg (aP (nu key p)).toArray:=b;subst b;have a:=(a.aO i).f2;refine c6 a j j j (by simpa using gC (nu key p)) (by rw [List.size_toArray,dx,pX]) (by simp only [List.size_toArray,Array.size_replicate,dx,pX];try decide) (λw a=>?_);have a:=C.whole (U:=aP (nu key p)) a (by rw [dx,pX];rfl);refine bH 0 j ⟨_,hW (U:=aP (nu key p)) results145 j j (by rw [dx,pX]) a.bQ,?_⟩;exact⟨j,a.bare⟩
theorem mZ{o:World}{A:Option Addr}{p:List UInt8}{c:Nat}(f:Rd o A (aP p))(g:p.length<=1000000)(b:p.length<=c):Calls prog 81 #[.slice A p.length c] o λr w=>r= .agg (aP (ca p)).toArray/\C o [] [] w:=by
 have a:Own [] o:=C.start o;refine fj func81 (cx 2 a j (λaS w a=>?_));have a:C o [] [J aS (Array.replicate 32 (bv 0)) 80] w:=a;have d:=oB (a.rd f (cc.of_nil _ _)) (by omega) b;refine br 3 d j (λw e=>?_);have a:=a.aO e;refine c6 a j j j (by simpa using gC (ca p)) (by rw [List.size_toArray,dx,fm]) (by simp only [List.size_toArray,Array.size_replicate,dx,fm];try decide) (λw a=>?_);have a:=C.whole (U:=aP (ca p)) a (by rw [dx,fm];rfl);refine bH 0 j ⟨_,hW (U:=aP (ca p)) results81 j j (by rw [dx,fm]) a.bQ,?_⟩;exact⟨j,a.bare⟩
def kR(n:Nat):Nat:=(max n 1-1)/3
def dL(n:Nat):Nat:=n-kR n
theorem EN(n:Nat):max (n:Int) 1=((max n 1:Nat):Int):=by omega
theorem xh{o:World}{n:Nat}(aT:n<=1000):Calls prog 26 #[.int .i64 n] o λr w=>r= .int .i64 (kR n)/\w=o:=by
 refine a6 func26 (aq 6 j (s8 j j j ?_));exact bY 4 (.int .i64 (max n 1:Nat)) j (aK (Value.int .i64) (EN n)) (bE 0 j j j (iH (max n 1) 1 (by omega) (by omega)) (vY (R:=3) j j j j (by decide) (by omega) (an 1 j j ⟨j,j⟩)))
theorem y9{o:World}{n:Nat}(aT:n<=1000):Calls prog 198 #[.int .i64 n] o λr w=>r= .int .i64 (dL n)/\w=o:=by
 refine a6 func198 (br 7 (xh aT) j (λa hw=>?_));subst hw;exact bE 0 j j j (iH n (kR n) (by unfold kR;omega) (by omega)) (an 1 j j ⟨j,j⟩)
abbrev g0(r:Nat)(v:Value)(b:Bool):List Chunk:=J r #[v,.bool b] 261
theorem E6{o:World}{A:Option Addr}{aG:List UInt8}{c:Nat}(g:Rd o A (aP aG))(f:aG.length<=1000000000):
 Calls prog 148 #[.slice A aG.length c] o λx w=>∃r v G,x=aa r/\hA v false (some aG) G/\C o [] [g0 r v false,G] w:=by
 have a:Own [] o:=C.start o;refine a6 func148 (bk 6 (gN g f) j (λr w⟨G,b,ad⟩=>?_));have a:=a.aO ad;have e:=View.ofRow b;obtain⟨gP,d,rfl,_⟩:=b.form;exact cP (c:= #[.slice gP aG.length d,.bool false]) j j j (λ_=>by kernel_rfl) (bJ 0 a j j (λh w a=>an 1 j j ⟨_,_,G,j,⟨j,e⟩,a⟩))
theorem mM{o:World}{r:Nat}{v0:Value}{dw:Bool}{G:List Chunk}(a:Own [g0 r v0 dw,G] o):
 Calls prog 149 #[aa r] o λx w=>x= .tuple #[]/\C o (au [g0 r v0 dw,G]) [g0 r (.slice none 0 0) true,G] w:=by
 refine a6 func149 ?_;refine dE 10 a j j j j (λw a=>?_);refine dE 2 a j j j j (λw a=>?_);refine an 0 j j ?_;exact⟨j,a⟩
theorem Dz{o:World}{r:Nat}{v0:Value}{dw:Bool}{G:List Chunk}(a:Own [g0 r v0 dw,G] o):
 Calls prog 150 #[aa r] o λx w=>x= .bool (!dw)/\C o (au [g0 r v0 dw,G]) [g0 r v0 dw,G] w:=by
 refine a6 func150 (aq 8 j (bY 5 (.bool true) j (aK Value.bool (j)) ?_));exact ar 3 j (ax (C.aj a) j) (an 3 j j ⟨j,a⟩)
theorem Ae{o:World}{r:Nat}{v0:Value}{dw:Bool}{G:List Chunk}{s:ed}(a:Own [g0 r v0 dw,G] o)(b:hA v0 dw s G):
 Calls prog 88 #[aa r] o λx w=>x= .bool (decide (s=some []))/\C o (au [g0 r v0 dw,G]) [g0 r v0 dw,G] w:=by
 obtain⟨A,c,rfl,e⟩:=b.2;have d:=b.1;refine a6 func88 (br 6 (Dz a.cH) j (λw ad=>?_));have a:=a.cG ad;refine aq 1 j (c9 5 j (λfY=>?_) (λfY=>?_))
 .skip
  refine ar 3 j (ax (C.aj a) j) (an 4 j j (⟨aK Value.bool ?_,a⟩));cases s with
  |none=>simp [d] at fY
  |some l=>
   cases l<;>simp [ed.left];omega
 .skip
  refine an 8 j j (⟨aK Value.bool ?_,a⟩);cases s with
  |none=>simp
  |some l=>simp [d] at fY
theorem Gc{o:World}{r:Nat}{v0:Value}{dw:Bool}{G:List Chunk}{s:ed}{n:Int}(a:Own [g0 r v0 dw,G] o)(g:hA v0 dw s G)(H:s.left.length<=1000000000):
 Calls prog 236 #[aa r,.int .i64 n] o λx w=>∃v b d,d6 x (ix s n).1 d/\hA v b (ix s n).2 G/\C o (au [g0 r v0 dw,G]) [d,g0 r v b,G] w:=by
 obtain⟨A,c,rfl,p⟩:=g.2;have q:=g.1;refine a6 func236 (aq 9 j (bY 8 (.bool false) j (aK Value.bool (j)) ?_));refine aq 4 j (c9 12 j (λe=>?_) (λe=>?_))
 .skip
  refine bk 12 (mM a.cH) j (λx w⟨D,ad⟩=>?_);have a:=a.cG ad;refine an 3 j j ?_;have a:=a.empty
  have he:ix s n=([],none):=by
   cases s with
   |none=>rfl
   |some l=>
    unfold ix;dsimp only;rw [aR]
    first
     |exact .inl (dV e)
     |exact .inr f
  rw [he];exact⟨_,_,[],Row.nil _ _,hA.bad G,a⟩
 .skip
  refine ar 4 j (ax (C.aj a) j) (cy 3 j j (λf=>?_) (λf=>?_))
  .skip
   refine bk 3 (mM a.cH) j (λx w⟨D,ad⟩=>?_);have a:=a.cG ad;refine an 3 j j ?_;have a:=a.empty
   have he:ix s n=([],none):=by
    cases s with
    |none=>rfl
    |some l=>
     unfold ix;dsimp only;rw [aR]
     first
      |exact .inl (dV e)
      |exact .inr f
   rw [he];exact⟨_,_,[],Row.nil _ _,hA.bad G,a⟩
  .skip
   have I:0<=n:=by have:=dY e;omega
   have i:n<=s.left.length:=by omega
   refine ar 6 j (ax (C.aj a) j) ?_;obtain⟨E,F,B⟩:=p;obtain⟨k,rfl⟩:∃k:Nat,n=k:=⟨n.toNat,by omega⟩;have u:k<=s.left.length:=by omega
   refine aq 1 j (qM j j j j (by omega) ?_);obtain⟨y,J⟩:=B _ _ _ _ a.f1;have z:Rd o A (aP (s.left.take k)):=by rw [B4];exact y.take k
   have hlen:(s.left.take k).length=k:=by rw [hC];omega
   have h:=gN (c:=c) z (by omega);rw [hlen] at h;refine bk 0 h j (λx w⟨d,m,ad⟩=>?_);have a:=(a.aO ad).f1;refine ar 7 j (ax (C.aj a) j) (aq 1 j (nK j j j j (by omega) ?_));refine dE 2 a j j j j (λw a=>an 4 j j (⟨_,_,d,?_,?_,a.f1⟩))
   .have he:(ix s k).1=s.left.take k:=by
     cases s with
     |none=>rw [show ed.left none=[] from j];simp [ix]
     |some l=>unfold ix;dsimp only;rw [if_neg (by simp only [ed.left,Option.getD_some] at i;omega)];simp [ed.left]
    rw [he];exact m
   .have he:(ix s k).2=s.map (·.drop k):=by
     cases s with
     |none=>rfl
     |some l=>unfold ix;dsimp only;rw [if_neg (by simp only [ed.left,Option.getD_some] at i;omega)];simp
    have t:(ix s k).2.left=s.left.drop k:=by
     rw [he];cases s<;>simp [ed.left]
    refine⟨by rw [q,he];cases s<;>rfl,?_⟩;rw [t];exact g.2.drop u
theorem eI{o:World}{r:Nat}{v0:Value}{dw:Bool}{G:List Chunk}{s:ed}(a:Own [g0 r v0 dw,G] o)(q:hA v0 dw s G)(T:s.left.length<=1000000000):
 Calls prog 87 #[aa r] o λx w=>x= .int .i64 ((eb s).1:Nat)/\∃v b,hA v b (eb s).2 G/\C o (au [g0 r v0 dw,G]) [g0 r v b,G] w:=by
 obtain⟨A,c,rfl,I⟩:=q.2;have F:=q.1;refine a6 func87 (ar 19 j (ax (C.aj a) j) ?_)
 refine dj 3 j (cU:=Nat×Nat) (λi=>[(0,aa r),(11,.slice A s.left.length c),(12,.int .i64 (s.left.length:Nat)),(13,.int .i64 (i.1:Nat)),(3,.int .u64 (i.2:Nat))])
  (λi w=>i.1<=s.left.length/\i.1<=9/\i.2<128^i.1/\dec s.left=lr i.1 i.2 (s.left.drop i.1)/\C o (au [g0 r (.slice A s.left.length c) dw,G]) [g0 r (.slice A s.left.length c) dw,G] w) (λi=>s.left.length-i.1) (0,0)
  ⟨j,j,j,j,j,bb⟩ ⟨cp _,cp _,by simp,j,a⟩ ?_
 rintro⟨i,u⟩ w ⟨K,M,hu,d,a⟩;dsimp only at K M hu d a⊢;refine cy 4 j j (λH=>?_) (λH=>?_)
 .skip
  have e:i<s.left.length:=by omega
  obtain⟨R,S,O⟩:=I;obtain⟨N,U⟩:=O _ _ _ _ a.f1;refine aq 6 j (fJ j j j j N (v:=bv s.left[i]) (wL (by simp [e])) e (λP Q J=>?_));refine ar 0 j J (aq 8 j (c9 20 j (λp=>?_) (λp=>?_)))
  .skip
   have k:s.left.drop i=s.left[i]::s.left.drop (i+1):=jF e;rw [k,ls] at d;have f:dec s.left=none:=by rw [d,aR (.inl (by have:=dV p;omega))]
   refine bk 12 (mM a.cH) j (λx w⟨t,ad⟩=>?_);have a:=a.cG ad;refine an 3 j j ?_;rw [qe f];exact⟨j,_,_,hA.bad G,a⟩
  .skip
   refine aq 3 j (c9 23 j (λm=>?_) (λm=>?_))
   .skip
    refine bo 4 j j (λg=>?_) (λg=>?_)
    .skip
     have k:s.left.drop i=s.left[i]::s.left.drop (i+1):=jF e;rw [k,ls] at d
     have f:dec s.left=none:=by
      rw [d,aR (.inr ⟨by have:=dV m;omega,B7 (x:=s.left[i]) (y:=0) (by simpa using g)⟩)]
     refine bk 4 (mM a.cH) j (λx w⟨t,ad⟩=>?_);have a:=a.cG ad;refine an 3 j j ?_;rw [qe f];exact⟨j,_,_,hA.bad G,a⟩
    .skip
     have L:i<=8:=by have:=dY p;omega
     refine bE 5 j j j (xf _) (iU j j j (pA _ (by omega)) (bE 1 j j j (yr i (by omega)) (kj j j j j (by omega) (zA _ i (jE _ (by decide)) (by omega)) (bE 0 j j j (yO u _ i hu (jE _ (by decide)) (by omega)) (cy 5 j j (λz=>?_) (λz=>?_))))))
     .skip
      refine cy 5 j j (λn=>?_) (λn=>?_)
      .skip
       have k:s.left.drop i=s.left[i]::s.left.drop (i+1):=jF e;rw [k,ls] at d
       have f:dec s.left=none:=by
        rw [d];split
        .rfl
        .rw [aR (by omega),aR (by omega)]
       refine bk 4 (mM a.cH) j (λx w⟨t,ad⟩=>?_);have a:=a.cG ad;refine an 3 j j ?_;rw [qe f];exact⟨j,_,_,hA.bad G,a⟩
      .skip
       have hle:=n;refine ar 7 j (ax (C.aj a) j) (bE 1 j j j (dn i (by omega)) (nK j j j j (by omega) (dE 2 a j j j j (λw a=>aq 3 j (iU j j j (wX _ (by omega)) ?_)))));refine an 1 j j ?_
       have E:dec s.left=some (u+s.left[i].toNat%128*128^i,s.left.drop (i+1)):=by
        rw [d,jF e,ls,az,aR (by omega),az (by omega)];rintro(h|⟨B,D⟩)
        .omega
        .first
          |(have:=dY m;omega)
          |(rw [D] at g;exact absurd g (by decide))
       rw [zk E];refine⟨j,_,_,⟨?_,q.2.drop e⟩,a⟩;rw [F];cases s with
       |none=>simp [ed.left] at e
       |some l=>rfl
     .skip
      refine bE 2 j j j (dn i (by omega)) (bW 1 j (⟨(i+1,u+s.left[i].toNat%128*128^i),⟨j,j,j,j,j,bb⟩,⟨e,by dsimp only;omega,?_,?_,a⟩,by dsimp only;omega⟩))
      .dsimp only;rw [Nat.pow_succ];have B:s.left[i].toNat%128*128^i<=127*128^i:=j1 _ (by omega);omega
      .rw [jF e,ls,az,az (by omega)] at d
       .exact d
       .rintro(h|⟨_,h⟩)
        .omega
        .rw [h] at g;exact absurd g (by decide)
   .skip
    have L:i<=8:=by have:=dY p;omega
    refine bE 10 j j j (xf _) (iU j j j (pA _ (by omega)) (bE 1 j j j (yr i (by omega)) (kj j j j j (by omega) (zA _ i (jE _ (by decide)) (by omega)) (bE 0 j j j (yO u _ i hu (jE _ (by decide)) (by omega)) (cy 5 j j (λz=>?_) (λz=>?_))))))
    .skip
     refine cy 5 j j (λn=>?_) (λn=>?_)
     .skip
      have k:s.left.drop i=s.left[i]::s.left.drop (i+1):=jF e;rw [k,ls] at d
      have f:dec s.left=none:=by
       rw [d];split
       .rfl
       .rw [aR (by omega),aR (by omega)]
      refine bk 4 (mM a.cH) j (λx w⟨t,ad⟩=>?_);have a:=a.cG ad;refine an 3 j j ?_;rw [qe f];exact⟨j,_,_,hA.bad G,a⟩
     .skip
      have hle:=n;refine ar 7 j (ax (C.aj a) j) (bE 1 j j j (dn i (by omega)) (nK j j j j (by omega) (dE 2 a j j j j (λw a=>aq 3 j (iU j j j (wX _ (by omega)) ?_)))));refine an 1 j j ?_
      have E:dec s.left=some (u+s.left[i].toNat%128*128^i,s.left.drop (i+1)):=by
       rw [d,jF e,ls,az,aR (by omega),az (by omega)];rintro(h|⟨B,D⟩)
       .omega
       .first
         |(have:=dY m;omega)
         |(rw [D] at g;exact absurd g (by decide))
      rw [zk E];refine⟨j,_,_,⟨?_,q.2.drop e⟩,a⟩;rw [F];cases s with
      |none=>simp [ed.left] at e
      |some l=>rfl
    .skip
     refine bE 2 j j j (dn i (by omega)) (bW 1 j (⟨(i+1,u+s.left[i].toNat%128*128^i),⟨j,j,j,j,j,bb⟩,⟨e,by dsimp only;omega,?_,?_,a⟩,by dsimp only;omega⟩))
     .dsimp only;rw [Nat.pow_succ];have B:s.left[i].toNat%128*128^i<=127*128^i:=j1 _ (by omega);omega
     .rw [jF e,ls,az,az (by omega)] at d
      .exact d
      .rintro(h|⟨h,_⟩)
       .omega
       .have:=dY m;omega
 .skip
  have f:dec s.left=none:=by
   rw [d,List.drop_eq_nil_of_le (by omega)];rfl
  refine bk 4 (mM a.cH) j (λx w⟨t,ad⟩=>?_);have a:=a.cG ad;refine an 3 j j ?_;rw [qe f];exact⟨j,_,_,hA.bad G,a⟩
def eD(n a b:Int):Bool:=decide (a<=n/\n<=b)
def jO(p e t:Int):Bool:=eD p 0 7&&eD e 0 100&&eD t 0 100
def iM(k p e t:Int):Bool:=eD k 1 3&&jO p e t&&(k !=1||t==0)
abbrev yd(k p e t:Int):Value:=.agg #[ab k,ab p,ab e,ab t]
theorem iJ{o:World}{n a b:Int}:Calls prog 124 #[.int .i64 n,.int .i64 a,.int .i64 b] o λr w=>r= .bool (eD n a b)/\C o [] [] w:=by
 have d:Own [] o:=C.start o;refine a6 func124 (aq 9 j (c9 10 j (λc=>?_) (λc=>?_)))
 .refine an 5 j j (⟨aK Value.bool ?_,d⟩);have h:=dV c;unfold eD;rw [nT];omega
 refine an 5 j j (⟨aK Value.bool ?_,d⟩);have h:=dY c;unfold eD
 symm
 rw [qT];omega
theorem xT{o:World}{p e t:Int}:Calls prog 125 #[.int .i64 p,.int .i64 e,.int .i64 t] o λr w=>r= .bool (jO p e t)/\C o [] [] w:=by
 have c:Own [] o:=C.start o;refine a6 func125 ?_;have d:=iJ (o:=o) (n:=p) (a:=0) (b:=7);refine br 6 d j (λw ad=>?_);have c:=c.aO ad;refine aq 1 j (c9 9 j (λg=>?_) (λg=>?_))
 .have d:=iJ (o:=w) (n:=e) (a:=0) (b:=100);refine br 1 d j (λw ad=>?_);have c:=c.aO ad;refine aq 2 j (c9 13 j (λf=>?_) (λf=>?_))
  .have d:=iJ (o:=w) (n:=t) (a:=0) (b:=100);refine br 1 d j (λw ad=>?_);have c:=c.aO ad;refine an 2 j j (⟨aK Value.bool ?_,c⟩);unfold jO
   simp_all
  refine an 4 j j (⟨aK Value.bool ?_,c⟩);unfold jO
  simp_all
 refine aq 4 j (bY 13 (.bool false) j (aK Value.bool (j)) ?_);refine an 4 j j (⟨aK Value.bool ?_,c⟩);unfold jO
 simp_all
theorem xR{o:World}{k p e t:Int}:Calls prog 89 #[yd k p e t] o λr w=>r= .bool (iM k p e t)/\C o [] [] w:=by
 have c:Own [] o:=C.start o;refine a6 func89 (bJ 2 c j j (λaC w c=>ar 4 j (ax (C.aj c) j) ?_));have d:=iJ (o:=w) (n:=k) (a:=1) (b:=3);refine br 0 d j (λw ad=>?_);have c:=c.aO ad;refine aq 1 j (c9 6 j (λeZ=>?_) (λeZ=>?_));refine ar 1 j (ax (C.aj c) j) (ar 1 j (ax (C.aj c) j) (ar 1 j (ax (C.aj c) j) ?_));have d:=xT (o:=w) (p:=p) (e:=e) (t:=t);refine br 0 d j (λw ad=>?_);have c:=c.aO ad;refine aq 2 j (c9 15 j (λf=>?_) (λf=>?_))
 .refine ar 1 j (ax (C.aj c) j) (aq 2 j (c9 19 j (λg=>?_) (λg=>?_)))
  .refine an 6 j j (⟨aK Value.bool ?_,c.bare⟩);unfold iM
   simp_all
  refine ar 1 j (ax (C.aj c) j) (an 4 j j (⟨aK Value.bool ?_,c.bare⟩));unfold iM
  simp_all
 rotate_left
 refine aq 9 j (bY 15 (.bool false) j (aK Value.bool (j)) ?_);rotate_left
 all_goals
  refine an 10 j j (⟨aK Value.bool ?_,c.bare⟩);unfold iM
  simp_all
theorem t6{o:World}{k p e t:Int}:Calls prog 151 #[yd k p e t] o λr w=>∃v G,r= .tuple #[v,.int .i64 (if iM k p e t then 0 else 1)]/\d6 v (if iM k p e t then ep [3,k,p,e,t] else []) G/\C o [] [G] w:=by
 have a:Own [] o:=C.start o;refine a6 func151 ?_;refine bJ 2 a j j (λaC w a=>?_);refine bP 5 j j j a.bQ ?_;have d:=xR (o:=w) (k:=k) (p:=p) (e:=e) (t:=t);refine br 0 d j (λw ad=>?_);have a:=a.aO ad;refine bo 1 j j (λdu=>?_) (λdu=>?_)
 .refine an 4 j j ?_;have hm:iM k p e t=false:=by simpa using du
  rw [hm];exact⟨_,[],j,Row.nil _ _,a.bare.empty⟩
 refine cx 3 a j (λf w a=>?_);have a:=a.f1;refine ar 3 j (ax (C.aj a) j) ?_;refine ar 1 j (ax (C.aj a) j) ?_;refine ar 1 j (ax (C.aj a) j) ?_;refine ar 1 j (ax (C.aj a) j) ?_;refine fx a j j j j j j bO (λh w a=>?_);have a:C o [] [[(h,_)],_,eW f (.slice none 0 0)] w:=a;have aT:=a.bQ;have l:=a.iE (off:=0) (sp:=none) (U:=[3,k,p,e,t].map ab);have a:=a.f2.empty.f1;have d:=k0 (aG:=[]) (eR:=[3,k,p,e,t]) (c:=5) a.cH (Row.nil _ _) aT (l.kC (by simp) (λb m=>fE (fs:=[eW f (.slice none 0 0)]) (by simp) b (by simpa [au] using m))) (by simp);refine br 0 d j (λw⟨v,ak,g,ad⟩=>?_);have a:=a.cG ad;rw [kl] at g;have d:=p4 a.cH g (by have:=gb [3,k,p,e,t];simp only [ex,fW] at this;omega);refine bk 2 d j (λr w⟨G,i,ad⟩=>?_);have a:=(a.cG ad).hS;refine an 2 j j ?_;have hm:iM k p e t=true:=by simpa using du
 rw [hm];exact⟨_,G,j,i,a⟩
theorem vp(s:ed)(a:s.left.length<=1000000000):(eb s).2.left.length<=1000000000:=by
 have key:∀(l:List UInt8)(i u:Nat)(x:Nat×List UInt8),lr i u l=some x->x.2.length<=l.length:=by
  intro l;induction l with
  |nil=>intro i u x h;simp [lr] at h
  |cons c r d=>
   intro i u x h;rw [ls] at h;split at h
   .cases h
   .split at h
    .split at h
     .cases h
     .cases h;simp
    .have:=d _ _ _ h;simp only [ex];omega
 cases s with
 |none=>exact a
 |some l=>
  unfold eb;dsimp only;cases b:dec l with
  |none=>simp [ed.left]
  |some x=>
   obtain⟨u,r⟩:=x;have:=key l 0 0 (u,r) b;dsimp only at this;simp only [ed.left,lO] at a⊢;omega
def b0(aG:List UInt8)(k:Int):ed:=if((eb (some aG)).1:Int)=k then(eb (some aG)).2 else none
def e2(s:ed):Nat->ed
 |0=>s
 |n+1=>(eb (e2 s n)).2
theorem eT(s:ed)(a:s.left.length<=1000000000):∀n,(e2 s n).left.length<=1000000000
 |0=>a
 |n+1=>vp _ (eT s a n)
theorem wH{o:World}{A:Option Addr}{aG:List UInt8}{c:Nat}{k:Int}(l:Rd o A (aP aG))(f:aG.length<=1000000000):
 Calls prog 86 #[.slice A aG.length c,.int .i64 k] o λx w=>∃r v b G,x=aa r/\hA v b (b0 aG k) G/\C o [] [g0 r v b,G] w:=by
 have a:Own [] o:=C.start o;refine a6 func86 ?_;have d:=E6 (c:=c) l f;refine bk 6 d j (λr w⟨r,v,G,m,g,ad⟩=>?_);subst m;have a:=a.aO ad;have d:=eI a.cH g (show(ed.left (some aG)).length<=1000000000 from f);refine br 5 d j (λw⟨v1,aC,h,ad⟩=>?_);have a:=a.cG ad;refine bo 2 j j (λe=>?_) (λe=>?_)
 .skip
  have d:=mM a.cH;refine br 2 d j (λw ad=>?_);have a:=a.cG ad;refine an 4 j j ?_;have i:¬((eb (some aG)).1:Int)=k:=by simpa using e
  refine⟨_,_,_,G,j,?_,a⟩;unfold b0;rw [az i];exact hA.bad G
 .skip
  refine an 5 j j ?_;have he:((eb (some aG)).1:Int)=k:=by simpa using e
  refine⟨_,_,_,G,j,?_,a⟩;unfold b0;rw [aR he];exact h
theorem tP{o:World}{a:Nat}{v0:Value}{e:List Chunk}{aG:List UInt8}{A:Option Addr}{rows:List (List UInt8)}{c:Nat}
 (b:Own [eW a v0,e] o) (d:d6 v0 aG e) (n:kG o A rows (au [eW a v0,e])) (D:aG.length+iR rows<=100000000):
 Calls prog 70 #[aa a,.slice A rows.length c] o λr w=>r= .tuple #[]/\∃v ak,d6 v (aG++jo rows) ak/\C o (au [eW a v0,e]) [eW a v,ak] w:=by
 refine a6 func70 ?_
 refine dj 6 j (cU:=Nat×Value×List Chunk)
  (λi=>[(0,aa a),(6,.slice A rows.length c),(7,.int .i64 (rows.length:Nat)),(8,.int .i64 (i.1:Nat))])
  (λi w=>i.1<=rows.length/\d6 i.2.1 (aG++jo (rows.take i.1)) i.2.2/\C o (au [eW a v0,e]) [eW a i.2.1,i.2.2] w)
  (λi=>rows.length-i.1) (0,v0,e) ⟨j,j,j,j,bb⟩ ⟨cp _,by simpa [jo] using d,b⟩ ?_
 rintro⟨R,v,ak⟩ w ⟨k,d,b⟩;dsimp only at k d b⊢;refine bo 4 j j (λg=>?_) (λg=>?_)
 .skip
  have f:R<rows.length:=by have:=dV g;omega
  obtain⟨U,x,ci,p,q,s,t,u⟩:=n.at R f;have F:=HQ rows R f;have E:=HP rows;have G:=CS (rows.take R) (by omega);refine aq 5 j (fJ j j j j (b.rd p q) (by simpa using s) f (λy B h=>?_));refine ar 0 j h ?_;refine aq 6 j (fx b j j j j j j bO (λz w b=>?_));have aT:=b.bQ;have m:=b.iE (off:=0) (sp:=none) (U:=[ab ((rows[R].length:Nat):Int)]);have b:=b.f2.f2;refine bk 0 (k0 (eR:=[((rows[R].length:Nat):Int)]) b.cH d aT m (by simp only [cj,List.length_cons,List.length_nil];omega)) j (λr w⟨_,v,ak,d,ad⟩=>?_);have b:=(b.cG ad).f2.drop;refine bk 3 (p8 (dh:=rows[R]) b.cH d (b.rd t u) (by have:=jn rows[R] (by omega);simp only [hd,ep,jj,List.flatMap_nil,gA,wT _ (show rows[R].length<=4611686018427387904 by omega),cj] at*;omega)) j (λr w⟨_,v,ak,d,ad⟩=>?_);have b:=b.cG ad;refine bE 1 j j j (dn R (by omega)) ?_;refine bW 1 j ?_;refine⟨(R+1,v,ak),⟨j,j,j,j,bb⟩,⟨f,?_,b⟩,by dsimp only;omega⟩;rw [CT rows R f];simpa [hd,ep,wT _ (show rows[R].length<=4611686018427387904 by omega)] using d
 .skip
  refine an 1 j j ?_;refine⟨j,v,ak,?_,b⟩;have l:R=rows.length:=by have:=dY g;omega
  subst l;simpa using d
structure aN where
 k:Int
 s:Int
 v:Int
 sum:List UInt8
 f:Int
 tag:List UInt8
def aN.ok(x:aN):Prop:=x.sum.length=32/\x.tag.length=32
def aN.cs(x:aN):List Value:=ab x.k::ab x.s::ab x.v::(aP x.sum++ab x.f::aP x.tag)
def aN.kt(x:aN):List UInt8:=ep [x.k,x.s,x.v]++(x.sum++(ep [x.f]++x.tag))
def aN.lC(x:aN):List UInt8:=ep [5,x.k,x.s,x.v]++(x.sum++ep [x.f])
def ja(l:List aN):List UInt8:=ep [(l.length:Int)]++l.flatMap aN.kt
theorem aN.gL(x:aN):x.cs.toArray[0]? =some (ab x.k):=by simp [aN.cs]
theorem aN.aH(x:aN):x.cs.toArray[1]? =some (ab x.s):=by simp [aN.cs]
theorem aN.dy(x:aN):x.cs.toArray[2]? =some (ab x.v):=by simp [aN.cs]
theorem aN.eN(x:aN)(h:x.ok):x.cs.toArray[35]? =some (ab x.f):=by
 have a:=h.1;simp only [aN.cs,mJ,ng];rw [ko (by simp [a])];simp [a]
theorem aN.len(x:aN)(h:x.ok):x.cs.length=68:=by simp [aN.cs,h.1,h.2]
theorem aN.pB(x:aN)(h:x.ok):∀i v,(aP x.sum)[i]? =some v->x.cs.toArray[0+3+i]? =some v:=λi v a=>by
 have b:i<(aP x.sum).length:=(e8.1 a).1;rw [show 0+3+i=i+1+1+1 by omega];simp only [aN.cs,mJ,ng];rw [jG b];exact a
theorem aN.ru(x:aN)(h:x.ok):∀i v,(aP x.tag)[i]? =some v->x.cs.toArray[0+36+i]? =some v:=λi v b=>by
 have a:=h.1;rw [show 0+36+i=(i+33)+1+1+1 by omega];simp only [aN.cs,mJ,ng];rw [ko (by simp [a])];simp only [dx,a];rw [show i+33-32=i+1 by omega,ng];exact b
theorem aN.one(x:aN):x.cs.all (·.oneCell')=true:=by
 simp only [aN.cs,qU,List.all_append,Bool.and_eq_true,List.all_eq_true];exact⟨j,j,j,λv a=>gC _ v a,j,λv a=>gC _ v a⟩
theorem El(x:aN)(h:x.ok):x.kt.length<=200:=by
 have a:=gb [x.k,x.s,x.v];have b:=gb [x.f];simp only [ex,fW] at a b;simp only [aN.kt,cj,h.1,h.2];omega
theorem Ek{o:World}{a:Nat}{v0:Value}{l:List Chunk}{aG:List UInt8}{x:aN}(b:Own [eW a v0,l] o)(d:d6 v0 aG l)(h:x.ok)(z:aG.length<=100000000):
 Calls prog 147 #[aa a,.agg x.cs.toArray] o λr w=>r= .tuple #[]/\∃v ak,d6 v (aG++x.kt) ak/\C o (au [eW a v0,l]) [eW a v,ak] w:=by
 refine a6 func147 ?_;refine bJ 2 b j j (λy w b=>?_);refine ar 4 j (b.cell x.gL) ?_;refine ar 1 j (b.cell x.aH) ?_;refine ar 1 j (b.cell x.dy) ?_;refine fx b j j j j j j bO (λt w b=>?_);have aT:=b.bQ;have m:=b.iE (off:=0) (sp:=none) (U:=[x.k,x.s,x.v].map ab);have b:=b.f2.f3.f1;have g:=k0 (eR:=[x.k,x.s,x.v]) (c:=3) b.cH d aT (m.kC (by simp) (fE (by simp))) (by simp;omega);refine br 0 g j (λw⟨v1,i,d,ad⟩=>?_);have b:=b.cG ad;have q:=gb [x.k,x.s,x.v];have p:=gb [x.f];simp only [ex,fW] at q p;refine aq 4 j (mx j j j ?_);have n:=b.f3.i9 (off:=0+3) (U:=aP x.sum) (x.pB h);have g:=p8 (c:=32) b.cH d n (by rw [cj,h.1];omega);rw [h.1] at g;refine br 0 g j (λw⟨v1,i,d,ad⟩=>?_);have b:=b.cG ad;refine ar 4 j (b.f3.cell (x.eN h)) ?_;refine fx b j j j j j j bO (λu w b=>?_);have aT:=b.bQ;have m:=b.iE (off:=0) (sp:=none) (U:=[x.f].map ab);have b:=b.f1.f2.f1;have g:=k0 (eR:=[x.f]) (c:=1) b.cH d aT (m.kC (by simp) (fE (by simp))) (by simp [h.1];omega);refine br 0 g j (λw⟨v1,i,d,ad⟩=>?_);have b:=b.cG ad;refine aq 3 j (mx j j j ?_);have n:=b.f4.i9 (off:=0+36) (U:=aP x.tag) (x.ru h);have g:=p8 (c:=32) b.cH d n (by simp only [cj,h.1,h.2];omega);rw [h.2] at g;refine br 0 g j (λw⟨v1,i,d,ad⟩=>?_);have b:=b.cG ad;refine an 0 j j ?_;refine⟨j,v1,i,?_,b.ks⟩;have e:aG++x.kt=aG++ep [x.k,x.s,x.v]++x.sum++ep [x.f]++x.tag:=by simp [aN.kt,dS]
 rw [e];exact d
theorem vA:∀(l:List aN),(∀x∈l,x.ok)->∀(i:Nat)(a:i<l.length),((l.flatMap aN.cs).drop (i*68)).take 68=l[i].cs
 |[],_,i,a=>by simp at a
 |x::r,h,0,_=>by
  have b:=x.len (h x (by simp));rw [nP,List.drop_zero,jj,List.take_append_of_le_length (by omega),ic (by omega)];rfl
 |x::r,h,i+1,a=>by
  have b:=x.len (h x (by simp));have d:=vA r (λy c=>h y (by simp [c])) i (by simpa using a);rw [jj,show(i+1)*68=x.cs.length+i*68 by rw [b];omega,List.drop_append];rw [td (by omega),kl,show x.cs.length+i*68-x.cs.length=i*68 by omega];exact d
theorem oF(l:List aN)(h:∀x∈l,x.ok)(i:Nat)(c:i<l.length):(l.flatMap aN.cs)[i*68]? =some (ab l[i].k):=by
 have b:=vA l h i c;have a:=aK (λz=>z[0]?) b;simp only [kJ,mI] at a;simpa [aN.cs] using a
theorem oG{w:World}{a:Addr}{l:List aN}(d:Rd w (some a) (l.flatMap aN.cs))(h:∀x∈l,x.ok)(i:Nat)(c:i<l.length):Rd w (some (a.add (i*68))) l[i].cs:=by
 have b:=(d.drop (i*68)).take 68;rw [vA l h i c] at b;exact b
theorem xZ(l:List aN)(h:∀x∈l,x.ok)(i:Nat):((l.take i).flatMap aN.kt).length<=200*i:=by
 induction i with
 |zero=>simp
 |succ i b=>
  by_cases a:i<l.length
  .rw [fK a,o4,List.length_append];have:=El l[i] (h _ (eB a));simp only [jj,List.flatMap_nil,gA];omega
  .rw [ic (by omega)] at b⊢;omega
theorem zl{o:World}{a:Nat}{v0:Value}{h:List Chunk}{aG:List UInt8}{B:Option Addr}{l:List aN}{d:Nat}(b:Own [eW a v0,h] o)(f:d6 v0 aG h)(F:Rd o B (l.flatMap aN.cs))(y:cc B (l.flatMap aN.cs) (au [eW a v0,h]))(p:∀x∈l,x.ok)(M:l.length<=1000)(K:aG.length<=1000000):
 Calls prog 146 #[aa a,.func (.func 147) #[] #[],.slice B l.length d] o λr w=>r= .tuple #[]/\∃v ak,d6 v (aG++ja l) ak/\C o (au [eW a v0,h]) [eW a v,ak] w:=by
 refine a6 func146 ?_;refine aq 5 j (fx b j j j j j j bO (λI w b=>?_));have aT:=b.bQ;have z:=b.iE (off:=0) (sp:=none) (U:=[(l.length:Int)].map ab);have b:=b.f1.f2.f1;have s:=k0 (eR:=[(l.length:Int)]) (c:=1) b.cH f aT (z.kC (by simp) (fE (by simp))) (by simp;omega);refine br 0 s j (λw⟨v1,m,f,ad⟩=>?_);have b:=(b.cG ad).ks;have E:=gb [(l.length:Int)];simp only [ex,fW] at E
 refine dj 6 j (cU:=Nat×Value×List Chunk) (λi=>[(0,aa a),(1,.func (.func 147) #[] #[]),(13,.slice B l.length d),(14,.int .i64 (l.length:Nat)),(15,.int .i64 (i.1:Nat))])
  (λi w=>i.1<=l.length/\d6 i.2.1 (aG++ep [(l.length:Int)]++(l.take i.1).flatMap aN.kt) i.2.2/\C o (au [eW a v0,h]) [eW a i.2.1,i.2.2] w) (λi=>l.length-i.1) (0,v1,m) ⟨j,j,j,j,j,bb⟩ ⟨cp _,by simpa using f,b⟩ ?_
 rintro⟨i,v1,m⟩ w ⟨A,f,b⟩;dsimp only at A f b⊢;refine bo 4 j j (λq=>?_) (λq=>?_)
 .skip
  have g:i<l.length:=by have:=dV q;omega
  have n:=p l[i] (eB g);have t:=b.rd F y;have N:=xZ l p i;refine aq 5 j (fJ j j j j t (v:=ab l[i].k) (oF l p i g) g (λH u L=>?_));subst u;refine bP 0 j j (l[i].len n) (oG t p i g) ?_;refine cx 0 b j (λJ w b=>?_);refine cv 0 b j j j l[i].one (l[i].len n) (λw b=>?_);have b:=C.whole (U:=l[i].cs) b (by rw [l[i].len n];rfl);refine bP 3 (U:=l[i].cs) j j (l[i].len n) b.bQ ?_;have b:=b.f1.f2.f1;have s:=Ek b.cH f n (by simp only [cj];omega);refine hx j j j j s (λr w⟨G,v1,m,f,ad⟩=>?_);subst G;have b:=(b.cG ad).ks;refine bE 1 j j j (dn i (by omega)) ?_;refine bW 1 j ?_;refine⟨(i+1,v1,m),⟨j,j,j,j,j,bb⟩,⟨g,?_,b⟩,by dsimp only;omega⟩;dsimp only
  have e:aG++ep [(l.length:Int)]++(l.take (i+1)).flatMap aN.kt=aG++ep [(l.length:Int)]++(l.take i).flatMap aN.kt++l[i].kt:=by
   rw [fK g,o4];simp [dS]
  rw [e];exact f
 .skip
  refine an 1 j j ?_;have D:i=l.length:=by have:=dY q;omega
  rw [D,gm] at f;refine⟨j,v1,m,?_,b⟩;have e:aG++ja l=aG++ep [(l.length:Int)]++l.flatMap aN.kt:=by simp [ja,dS]
  rw [e];exact f
theorem z1{o:World}{x:aN}(h:x.ok):Calls prog 143 #[.agg x.cs.toArray] o λr w=>∃G,d6 r x.lC G/\C o [] [G] w:=by
 have a:Own [] o:=C.start o;refine a6 func143 ?_;refine bJ 2 a j j (λaC w a=>?_);refine cx 3 a j (λm w a=>?_);have a:C o [] (eW m (.slice none 0 0)::_) w:=a;refine ar 3 j (a.f1.cell x.gL) ?_;refine ar 1 j (a.f1.cell x.aH) ?_;refine ar 1 j (a.f1.cell x.dy) ?_;refine fx a j j j j j j bO (λy w a=>?_);have aT:=a.bQ;have i:=a.iE (off:=0) (sp:=none) (U:=[5,x.k,x.s,x.v].map ab);have a:=a.f1.empty.f1;have d:=k0 (aG:=[]) (eR:=[5,x.k,x.s,x.v]) (c:=4) a.cH (Row.nil _ _) aT (i.kC (by simp) (λb p=>fE (fs:=[eW m (.slice none 0 0)]) (by simp) b (by simpa [au] using p))) (by simp);refine br 0 d j (λw⟨v1,l,g,ad⟩=>?_);have a:=a.cG ad;rw [kl] at g;have t:=gb [5,x.k,x.s,x.v];simp only [ex,fW] at t;have q:=gb [x.f];simp only [ex,fW] at q;refine aq 3 j (mx j j j ?_);have u:=a.f3.i9 (off:=0+3) (U:=aP x.sum) (x.pB h);have d:=p8 (c:=32) a.cH g u (by rw [h.1];omega);rw [h.1] at d;refine br 0 d j (λw⟨v1,l,g,ad⟩=>?_);have a:=a.cG ad;refine ar 3 j (a.f3.cell (x.eN h)) ?_;refine fx a j j j j j j bO (λz w a=>?_);have aT:=a.bQ;have i:=a.iE (off:=0) (sp:=none) (U:=[x.f].map ab);have a:=a.f1.f2.f1;have d:=k0 (eR:=[x.f]) (c:=1) a.cH g aT (i.kC (by simp) (fE (by simp))) (by simp [h.1];omega);refine br 0 d j (λw⟨v1,l,g,ad⟩=>?_);have a:=a.cG ad;have d:=p4 a.cH g (by simp only [cj,h.1];omega);refine bk 2 d j (λr w⟨G,n,ad⟩=>?_);have a:=(a.cG ad).hS;refine an 1 j j ?_;refine⟨G,?_,a⟩;have e:x.lC=ep [5,x.k,x.s,x.v]++x.sum++ep [x.f]:=by simp [aN.lC,dS]
 rw [e];exact n
structure aD where
 k:Int
 f:Int
 to:Int
 s:Int
 v:Int
 A:Option Addr
 x:List UInt8
 c:Nat
 B:Option Addr
 l:List aN
 d:Nat
 tag:List UInt8
def aD.cs(m:aD):List Value:=ab m.k::ab m.f::ab m.to::ab m.s::ab m.v:: .slice m.A m.x.length m.c:: .slice m.B m.l.length m.d::aP m.tag
structure aD.ok(m:aD)(w:World):Prop where
 x:Rd w m.A (aP m.x)
 l:Rd w m.B (m.l.flatMap aN.cs)
 aI:∀x∈m.l,x.ok
 tag:m.tag.length=32
def aD.body(m:aD):List UInt8:=ep [4,m.k,m.f,m.s,m.v]++(hd m.x++ja m.l)
theorem aD.gL(m:aD):m.cs.toArray[0]? =some (ab m.k):=by simp [aD.cs]
theorem aD.aH(m:aD):m.cs.toArray[1]? =some (ab m.f):=by simp [aD.cs]
theorem aD.dy(m:aD):m.cs.toArray[2]? =some (ab m.to):=by simp [aD.cs]
theorem aD.gt(m:aD):m.cs.toArray[3]? =some (ab m.s):=by simp [aD.cs]
theorem aD.fA(m:aD):m.cs.toArray[4]? =some (ab m.v):=by simp [aD.cs]
theorem aD.fY(m:aD):m.cs.toArray[5]? =some (.slice m.A m.x.length m.c):=by simp [aD.cs]
theorem aD.eZ(m:aD):m.cs.toArray[6]? =some (.slice m.B m.l.length m.d):=by simp [aD.cs]
theorem aD.len(m:aD){w:World}(h:m.ok w):m.cs.length=39:=by simp [aD.cs,h.tag]
theorem aD.one(m:aD):m.cs.all (·.oneCell')=true:=by
 simp only [aD.cs,qU,d8,ji];exact⟨j,j,j,j,j,j,j,λv a=>gC _ v a⟩
theorem aD.ok.st{m:aD}{o w:World}{ae:List (List Chunk)}(h:m.ok o)(a:C o [] ae w):m.ok w:=⟨a.rd h.x (cc.of_nil _ _),a.rd h.l (cc.of_nil _ _),h.aI,h.tag⟩
theorem lb(l:List aN)(h:∀x∈l,x.ok):(ja l).length<=9+200*l.length:=by
 have a:=gb [(l.length:Int)];have b:=xZ l h l.length;rw [gm] at b;simp only [ex,fW] at a;simp only [ja,cj];omega
theorem lW{o:World}{m:aD}(hm:m.ok o)(L:m.x.length<=10000)(E:m.l.length<=1000):Calls prog 85 #[.agg m.cs.toArray] o λr w=>∃G,d6 r m.body G/\C o [] [G] w:=by
 have a:Own [] o:=C.start o;refine a6 func85 ?_;refine bJ 2 a j j (λaC w a=>?_);refine cx 3 a j (λn w a=>?_);have a:C o [] (eW n (.slice none 0 0)::_) w:=a;refine ar 3 j (a.f1.cell m.gL) ?_;refine ar 1 j (a.f1.cell m.aH) ?_;refine ar 1 j (a.f1.cell m.gt) ?_;refine ar 1 j (a.f1.cell m.fA) ?_;refine fx a j j j j j j bO (λI w a=>?_);have aT:=a.bQ;have t:=a.iE (off:=0) (sp:=none) (U:=[4,m.k,m.f,m.s,m.v].map ab);have a:=a.f1.empty.f1;have h:=k0 (aG:=[]) (eR:=[4,m.k,m.f,m.s,m.v]) (c:=5) a.cH (Row.nil _ _) aT (t.kC (by simp) (λb B=>fE (fs:=[eW n (.slice none 0 0)]) (by simp) b (by simpa [au] using B))) (by simp);refine br 0 h j (λw⟨v1,i,g,ad⟩=>?_);have a:=a.cG ad;rw [kl] at g;have F:=gb [4,m.k,m.f,m.s,m.v];simp only [ex,fW] at F;refine ar 3 j (a.f3.cell m.fY) ?_;refine fx a j j j j j j bO (λp w a=>?_);have H:=a.bQ;have u:=a.iE (off:=0) (sp:=none) (U:=[.slice m.A m.x.length m.c]);have a:=a.f1.f2.f1;have z:=a.apart hm.x (cc.of_nil _ _);have D:kG w (some ⟨p,0,none⟩) [m.x] (au [eW n v1,i]):=kG.one H j (u.sub (fE (by simp))) (a.rd hm.x (cc.of_nil _ _)) (z.sub (fE (by simp)));have h:=tP (c:=1) a.cH g D (by simp only [iR,jh,o5,List.sum_cons,List.sum_nil];omega);refine br 0 h j (λw⟨v1,i,g,ad⟩=>?_);have a:=a.cG ad;rw [show jo [m.x]=hd m.x from by simp [jo]] at g;have J:=jn m.x (by omega);refine ar 3 j (a.f4.cell m.eZ) ?_;have y:=a.apart hm.l (cc.of_nil _ _);have h:=zl (d:=m.d) a.cH g (a.rd hm.l (cc.of_nil _ _)) (y.sub (fE (by simp))) hm.aI E (by simp only [cj];omega);refine br 0 h j (λw⟨v1,i,g,ad⟩=>?_);have a:=a.cG ad;have K:=lb m.l hm.aI;have h:=p4 a.cH g (by simp only [cj];omega);refine bk 2 h j (λr w⟨G,q,ad⟩=>?_);have a:=(a.cG ad).hS;refine an 1 j j ?_;refine⟨G,?_,a⟩;have e:m.body=ep [4,m.k,m.f,m.s,m.v]++hd m.x++ja m.l:=by simp [aD.body,dS]
 rw [e];exact q
abbrev ih(b:Nat)(g:List UInt8):List Chunk:=J b (aP g).toArray 80
theorem zd{o w:World}{F:List Nat}{ae:List (List Chunk)}{b:Nat}{U:List Value}{e:TypeId}(h:C o F ([(b,.cells U.toArray e (0,0))]::ae) w):Rd w (some ⟨b,0,none⟩) U:=h.bQ
def hG(x:aN):Bool:=eD x.k 1 3&&eD x.s 0 63&&eD x.v 0 8&&eD x.f 0 9
def iN(m:aD):Bool:=eD m.k 1 6&&eD m.f 0 9&&eD m.to 0 9&&eD m.s 0 63&&eD m.v 0 8&&decide (m.x.length<=200)&&decide (m.l.length<=10)&&m.l.all hG
theorem Bm(l:List aN)(i:Nat)(a:i<l.length):(l.take (i+1)).all hG=((l.take i).all hG&&hG l[i]):=by
 rw [fK a,List.all_append];simp
theorem Bn(l:List aN)(i:Nat)(b:i<l.length)(h:hG l[i]=false):l.all hG=false:=by
 rw [<-Bool.not_eq_true,ji];intro a;rw [a _ (eB b)] at h;cases h
theorem D0{o:World}{x:aN}(h:x.ok):Calls prog 244 #[.agg x.cs.toArray] o λr w=>r= .bool (hG x)/\C o [] [] w:=by
 have c:Own [] o:=C.start o;refine a6 func244 (bJ 2 c j j (λaC w c=>ar 4 j (c.cell x.gL) ?_));have d:=iJ (o:=w) (n:=x.k) (a:=1) (b:=3);refine br 0 d j (λw ad=>?_);have c:=c.aO ad;refine aq 1 j (c9 6 j (λeZ=>?_) (λeZ=>?_))
 .refine ar 1 j (c.cell x.aH) ?_;have d:=iJ (o:=w) (n:=x.s) (a:=0) (b:=63);refine br 0 d j (λw ad=>?_);have c:=c.aO ad;refine aq 2 j (c9 11 j (λe=>?_) (λe=>?_));refine ar 1 j (c.cell x.dy) ?_;have d:=iJ (o:=w) (n:=x.v) (a:=0) (b:=8);refine br 0 d j (λw ad=>?_);have c:=c.aO ad;refine aq 2 j (c9 16 j (λg=>?_) (λg=>?_))
  .refine ar 1 j (c.cell (x.eN h)) ?_;have d:=iJ (o:=w) (n:=x.f) (a:=0) (b:=9);refine br 0 d j (λw ad=>?_);have c:=c.aO ad;refine an 2 j j (⟨aK Value.bool ?_,c.bare⟩);unfold hG
   simp_all
  rotate_left
  refine aq 5 j (bY 16 (.bool false) j (aK Value.bool (j)) ?_);rotate_left
  all_goals
   refine an 5 j j (⟨aK Value.bool ?_,c.bare⟩);unfold hG
   simp_all
 refine aq 5 j (bY 11 (.bool false) j (aK Value.bool (j)) ?_);refine aq 5 j (bY 16 (.bool false) j (aK Value.bool (j)) ?_);refine an 5 j j (⟨aK Value.bool ?_,c.bare⟩);unfold hG
 simp_all
theorem BL{o:World}{x:aN}(b:x.ok):Calls prog 243 #[.agg x.cs.toArray] o λr w=>r= .bool (!hG x)/\C o [] [] w:=by
 have a:Own [] o:=C.start o;refine a6 func243 ?_;refine bJ 2 a j j (λaC w a=>?_);refine bP 3 (U:=x.cs) j j (x.len b) (zd a) ?_;have c:=D0 (o:=w) b;refine br 0 c j (λw ad=>?_);have a:=a.aO ad;refine an 2 j j ?_;exact⟨j,a.bare⟩
theorem DL{o:World}{B:Option Addr}{l:List aN}{d:Nat}(t:Rd o B (l.flatMap aN.cs))(g:∀x∈l,x.ok)(E:l.length<=1000000):
 Calls prog 275 #[.slice B l.length d,.func (.func 243) #[] #[]] o λr w=>(∃z:Int,r= .int .i64 z/\decide (z>=0)= !l.all hG)/\C o [] [] w:=by
 have a:Own [] o:=C.start o;refine a6 func275 ?_
 refine dj 10 j (cU:=Nat) (λi=>[(0,.slice B l.length d),(1,.func (.func 243) #[] #[]),(7,.int .i64 (l.length:Nat)),(8,.int .i64 (i:Nat))])
  (λi w=>i<=l.length/\(l.take i).all hG=true/\C o [] [] w) (λi=>l.length-i) 0 ⟨j,j,j,j,bb⟩ ⟨cp _,j,a⟩ ?_
 rintro i w ⟨D,f,a⟩;refine cy 4 j j (λn=>?_) (λn=>?_)
 .skip
  have b:i<l.length:=by omega
  have m:=g l[i] (eB b);have h:=a.rd t (cc.of_nil _ _);refine aq 12 j (fJ j j j j h (v:=ab l[i].k) (oF l g i b) b (λy p A=>?_));subst p;refine bP 0 j j (l[i].len m) (oG h g i b) ?_;have q:=BL (o:=w) m;refine hx j j j j q (λr w⟨u,ad⟩=>?_);subst u;have a:=a.aO ad;refine bo 0 j j (λc=>?_) (λc=>?_)
  .skip
   refine an 4 j j ?_;have e:hG l[i]=false:=by simpa using c
   refine⟨⟨_,j,?_⟩,a⟩;rw [Bn l i b e];simp
  .skip
   refine bE 2 j j j (dn i (by omega)) (bW 1 j (⟨i+1,⟨j,j,j,j,bb⟩,⟨b,?_,a⟩,by omega⟩));have e:hG l[i]=true:=by simpa using c
   rw [Bm l i b,f,e];rfl
 .skip
  refine an 4 j j ?_;have s:i=l.length:=by omega
  rw [s,gm] at f;refine⟨⟨_,j,?_⟩,a⟩;rw [f];rfl
theorem Cw{o:World}{B:Option Addr}{l:List aN}{d:Nat}(e:Rd o B (l.flatMap aN.cs))(f:∀x∈l,x.ok)(c:l.length<=1000000):
 Calls prog 242 #[.slice B l.length d,.func (.func 243) #[] #[]] o λr w=>r= .bool (!l.all hG)/\C o [] [] w:=by
 have a:Own [] o:=C.start o;refine a6 func242 ?_;have b:=DL (d:=d) e f c;refine bk 7 b j (λr w⟨⟨z,g,h⟩,ad⟩=>?_);subst g;have a:=a.aO ad;exact an 2 j j ⟨aK Value.bool h,a⟩
theorem DV{o:World}{m:aD}(hm:m.ok o):Calls prog 193 #[.agg m.cs.toArray] o λr w=>r= .bool (iN m)/\C o [] [] w:=by
 have c:Own [] o:=C.start o;refine a6 func193 (bJ 2 c j j (λaC w c=>ar 4 j (c.cell m.gL) ?_));have e:=iJ (o:=w) (n:=m.k) (a:=1) (b:=6);refine br 0 e j (λw ad=>?_);have c:=c.aO ad;refine aq 1 j (c9 6 j (λeZ=>?_) (λeZ=>?_))
 .refine ar 1 j (c.cell m.aH) ?_;have e:=iJ (o:=w) (n:=m.f) (a:=0) (b:=9);refine br 0 e j (λw ad=>?_);have c:=c.aO ad;refine aq 2 j (c9 11 j (λh=>?_) (λh=>?_));refine ar 1 j (c.cell m.dy) ?_;have e:=iJ (o:=w) (n:=m.to) (a:=0) (b:=9);refine br 0 e j (λw ad=>?_);have c:=c.aO ad;refine aq 2 j (c9 16 j (λi=>?_) (λi=>?_))
  .refine ar 1 j (c.cell m.gt) ?_;have e:=iJ (o:=w) (n:=m.s) (a:=0) (b:=63);refine br 0 e j (λw ad=>?_);have c:=c.aO ad;refine aq 2 j (c9 21 j (λp=>?_) (λp=>?_));refine ar 1 j (c.cell m.fA) ?_;have e:=iJ (o:=w) (n:=m.v) (a:=0) (b:=8);refine br 0 e j (λw ad=>?_);have c:=c.aO ad;refine aq 2 j (c9 26 j (λq=>?_) (λq=>?_))
   .refine ar 1 j (c.cell m.fY) (aq 4 j (c9 32 j (λt=>?_) (λt=>?_)));refine ar 1 j (c.cell m.eZ) (aq 4 j (c9 38 j (λg=>?_) (λg=>?_)))
    .refine ar 1 j (c.cell m.eZ) ?_;have u:=dV g;have e:=Cw (d:=m.d) (hm.st c).l hm.aI (by omega);refine br 0 e j (λw ad=>?_);have c:=c.aO ad;refine an 3 j j (⟨aK Value.bool ?_,c.bare⟩);unfold iN
     simp_all<;>omega
    rotate_left
    refine aq 6 j (bY 38 (.bool false) j (aK Value.bool (j)) ?_);rotate_left
    all_goals
     refine an 6 j j (⟨aK Value.bool ?_,c.bare⟩);unfold iN
     simp_all<;>omega
   rotate_left
   refine aq 5 j (bY 26 (.bool false) j (aK Value.bool (j)) ?_);rotate_left
   all_goals
    refine aq 6 j (bY 32 (.bool false) j (aK Value.bool (j)) ?_);refine aq 6 j (bY 38 (.bool false) j (aK Value.bool (j)) ?_);refine an 6 j j (⟨aK Value.bool ?_,c.bare⟩);unfold iN
    simp_all<;>omega
  rotate_left
  refine aq 5 j (bY 16 (.bool false) j (aK Value.bool (j)) ?_);rotate_left
  all_goals
   refine aq 5 j (bY 21 (.bool false) j (aK Value.bool (j)) ?_);refine aq 5 j (bY 26 (.bool false) j (aK Value.bool (j)) ?_);refine aq 6 j (bY 32 (.bool false) j (aK Value.bool (j)) ?_);refine aq 6 j (bY 38 (.bool false) j (aK Value.bool (j)) ?_);refine an 6 j j (⟨aK Value.bool ?_,c.bare⟩);unfold iN
   simp_all<;>omega
 refine aq 5 j (bY 11 (.bool false) j (aK Value.bool (j)) ?_);refine aq 5 j (bY 16 (.bool false) j (aK Value.bool (j)) ?_);refine aq 5 j (bY 21 (.bool false) j (aK Value.bool (j)) ?_);refine aq 5 j (bY 26 (.bool false) j (aK Value.bool (j)) ?_);refine aq 6 j (bY 32 (.bool false) j (aK Value.bool (j)) ?_);refine aq 6 j (bY 38 (.bool false) j (aK Value.bool (j)) ?_);refine an 6 j j (⟨aK Value.bool ?_,c.bare⟩);unfold iN
 simp_all<;>omega
theorem rE(g a:List UInt8)(e:g.length=32)(f:a.length=32)(d:Nat)(w:World):(Op.equalIn (d+2) 80 (.agg (aP g).toArray) (.agg (aP a).toArray)).run prog w= .ok (g==a) w:=
 run_equalIn_bytes w d 80 5 32 underlying80 underlying5 (λw=>by
  obtain⟨i,b,_,c,_⟩:=cq.parts (inferInstance:cq prog 5 (.int .u8 0) 1 1);simp [sizeOf,typeInfo,b,c]) g a e f
structure al where
 av:Nat
 fO:Nat
 cap:Nat
 cur:Array Value
 keys:List (List UInt8)
structure al.at(g:al)(w:World):Prop where
 ring:w.heap[g.av]? =some (.cells #[.slice (some ⟨g.fO,0,none⟩) g.keys.length g.cap] 142 (0,0))
 keys:w.heap[g.fO]? =some (.cells g.cur 80 (0,0))
structure al.ok(g:al):Prop where
 len:∀k∈g.keys,k.length=32
 i2:1<=g.keys.length
 n10:g.keys.length<=10
 rd:∀(i:Nat)(h:i<g.keys.length)(R:Nat)(v:Value),(aP g.keys[i])[R]? =some v->g.cur[32*i+R]? =some v
structure al.off(g:al)(F:List Nat):Prop where
 r:g.av∉F
 k:g.fO∉F
abbrev al.p(g:al):Value:=.pointer (some ⟨g.av,0,none⟩)
theorem al.at.st{g:al}{o w:World}{F:List Nat}{ae:List (List Chunk)}(h:g.at o)(a:C o F ae w)(b:g.off F):g.at w:=
 ⟨by rw [a.fT _ (gq.1 h.ring).1 b.r];exact h.ring,by rw [a.fT _ (gq.1 h.keys).1 b.k];exact h.keys⟩
theorem al.off.nil(g:al):g.off []:=⟨by simp,by simp⟩
theorem al.at.apart{g:al}{o w:World}{F:List Nat}{ae:List (List Chunk)}(h:g.at o)(b:C o F ae w)(c:g.off F):g.off (au ae):=
 ⟨λa=>(b.own _ a).elim c.r (λd=>by have:=(gq.1 h.ring).1;omega),λa=>(b.own _ a).elim c.k (λd=>by have:=(gq.1 h.keys).1;omega)⟩
theorem al.off.sub{g:al}{F eJ:List Nat}(h:g.off F)(aF:∀b∈eJ,b∈F):g.off eJ:=⟨λa=>h.r (aF _ a),λa=>h.k (aF _ a)⟩
def cD:List UInt8:=List.replicate 32 0
def al.lu(g:al)(i:Int):Prop:=0<=i/\i<g.keys.length
instance (g:al)(i:Int):Decidable (g.lu i):=inferInstanceAs (Decidable (_/\_))
def al.ct(g:al)(i:Int)(b:List UInt8):List UInt8:=if g.lu i then nu (g.keys.getD i.toNat []) b else cD
theorem al.ei(g:al)(i:Int)(b:List UInt8):(g.ct i b).length=32:=by unfold al.ct;split;exact pX _ _;rfl
def al.check(g:al)(i:Int)(b tag:List UInt8):Bool:=decide (g.lu i)&&(g.ct i b==tag)
theorem mb{o:World}{g:al}(a:g.at o):Calls prog 142 #[g.p] o λr w=>r= .int .i64 g.keys.length/\w=o:=by
 refine a6 func142 ?_;refine ar 15 j (pQ a.ring j) ?_;refine an 2 j j ?_;exact⟨j,j⟩
theorem mX{o:World}{g:al}(l:g.at o)(s:g.ok){i:Int}{B:Option Addr}{p:List UInt8}{d:Nat}(z:Rd o B (aP p))(y:p.length<=1000000):Calls prog 84 #[g.p,ab i,.slice B p.length d] o λr w=>r= .agg (aP (g.ct i p)).toArray/\C o [] [] w:=by
 have a:Own [] o:=C.start o;refine fj func84 (cx 2 a j (λt w a=>?_));have a:C o [] [J t (Array.replicate 32 (bv 0)) 80] w:=a;refine aq 6 j (c9 9 j (λk=>?_) (λk=>?_))
 .have n:¬g.lu i:=λh=>by have:=dV k;have:=h.1;omega
  refine aq 8 j (cP (c:=(aP cD).toArray) j j j (λ_=>by kernel_rfl) ?_);refine c6 a j j j (by decide) (by decide) (by decide) (λw a=>?_);have a:=C.whole (U:=aP cD) a j;refine bH 0 j ⟨_,hW (U:=aP cD) results84 j j j a.bQ,?_⟩;refine⟨?_,a.bare⟩;unfold al.ct;rw [az n]
 have e:=mb (l.st a (al.off.nil g));refine br 2 e j (λw hw=>?_);subst hw;refine cy 2 j j (λf=>?_) (λf=>?_)
 .have n:¬g.lu i:=λh=>by have:=f;have:=h.2;omega
  refine aq 2 j (cP (c:=(aP cD).toArray) j j j (λ_=>by kernel_rfl) ?_);refine c6 a j j j (by decide) (by decide) (by decide) (λw a=>?_);have a:=C.whole (U:=aP cD) a j;refine bH 0 j ⟨_,hW (U:=aP cD) results84 j j j a.bQ,?_⟩;refine⟨?_,a.bare⟩;unfold al.ct;rw [az n]
 have b:0<=i/\i<g.keys.length:=by have:=dY k;have:=f;omega
 refine ar 6 j (pQ (l.st a (al.off.nil g)).ring j) (aq 1 j (oU j j j j b.1 b.2 ?_));refine mx j j j ?_;have m:i.toNat<g.keys.length:=by have:=b.1;have:=b.2;omega
 have x:g.keys[i.toNat].length=32:=s.len _ (eB m)
 have A:Rd w (some ((⟨g.fO,0,none⟩:Addr).add (i.toNat*32))) (aP g.keys[i.toNat]):=λR v D=>⟨_,j,by
  rw [add_lit,add_lit];exact pQ (l.st a (al.off.nil g)).keys (by rw [fe,Nat.mul_comm];exact s.rd _ m R v D)⟩
 have e:=EI (key:=g.keys[i.toNat]) (c:=32) A (by omega) (a.rd z (cc.of_nil _ _)) y (d:=d);rw [x] at e;refine bk 1 e j (λr w⟨q,u⟩=>?_);have q:r= .agg (aP (g.ct i p)).toArray:=by rw [q];unfold al.ct;rw [if_pos (show g.lu i from b)];simp [List.getD,m]
 subst q;have a:=a.aO u;refine c6 a j j j (by simpa using gC (g.ct i p)) (by rw [List.size_toArray,dx,al.ei]) (by decide) (λw a=>?_);have a:=C.whole (U:=aP (g.ct i p)) a (by rw [dx,al.ei];rfl);refine bH 0 j ⟨_,hW (U:=aP (g.ct i p)) results84 j j (by rw [dx,al.ei]) a.bQ,?_⟩;exact⟨j,a.bare⟩
theorem rn{o:World}{g:al}(f:g.at o)(q:g.ok){i:Int}{B:Option Addr}{p tag:List UInt8}{d:Nat}(t:Rd o B (aP p))(s:p.length<=1000000)(k:tag.length=32):Calls prog 177 #[g.p,ab i,.slice B p.length d,.agg (aP tag).toArray] o λr w=>r= .bool (g.check i p tag)/\C o [] [] w:=by
 have a:Own [] o:=C.start o;refine a6 func177 (bJ 2 a j j (λl w a=>?_));have a:=a.drew;refine bx 2 j (λw=>∃ae,C o [] (J l (aP tag).toArray 80::ae) w) ⟨_,a⟩ (ag 0 3 j (ek 11 j (λc=>?_) (λc=>?_)))
 .refine ag 3 2 j (aX 5 j (bK j j j (mb (f.st a (al.off.nil g))) (λw hw=>?_)));subst hw;refine ao ⟨⟨_,a⟩,?_⟩;refine ag 6 3 j (ek 17 j (λe=>?_) (λe=>?_))
  .refine ag 9 3 j (bl 13 j (λw⟨_,a⟩=>dd (U:=aP tag) j j (by rw [dx,k]) a.bQ) (aX 12 j (bK j j j (mX (f.st a (al.off.nil g)) q (a.rd t (cc.of_nil _ _)) s) (λw n=>?_))));have a:=(a.aO n);refine ao ⟨⟨_,a⟩,?_⟩;refine bl 14 j (λw _=>qC j j (by kernel_rfl) (λw=>rE _ _ (al.ei g i p) k 9998 w)) (ag 15 2 j (bL (an 0 j j (⟨aK Value.bool ?_,a.bare⟩))));have m:=dV c;have b:=dV e;unfold al.check;rw [hM (show g.lu i from⟨m,b⟩),na]
  refine ga 8 [9,10,11,13,12,14,15,16] j (bL (an 0 j j (⟨aK Value.bool ?_,a.bare⟩)));have b:=dY e;unfold al.check;rw [e7 (show¬g.lu i from λh=>b h.2),nU]
 refine ga 14 [3,4,5,6,7,8,9,10,11,13,12,14,15,16] j (bL (an 0 j j (⟨aK Value.bool ?_,a.bare⟩)));have b:=dY c;unfold al.check;rw [e7 (show¬g.lu i from λh=>b h.1),nU]
def qd(n:Nat)(e3:List UInt8):List (List UInt8):=(List.range (min (max n 1) 10)).map λi=>ca (e3++[UInt8.ofNat i])
abbrev nr(l:List (List UInt8)):List Value:=l.flatMap aP
abbrev dU(g:al):List Chunk:=[(g.av,.cells #[.slice (some ⟨g.fO,0,none⟩) g.keys.length g.cap] 142 (0,0)),(g.fO,.cells g.cur 80 (0,0))]
theorem xX:forall (l:List (List UInt8)) (a:∀k∈l,k.length=32) (i:Nat) (h:i<l.length) (R:Nat) (v:Value),(aP l[i])[R]? =some v->(nr l)[32*i+R]? =some v
 |k::r,a,0,_,R,v,b=>by
  have c:R<(aP k).length:=(e8.1 b).1;show(aP k++nr r)[32*0+R]? =_;rw [Nat.mul_zero,fe,jG c];exact b
 |k::r,a,i+1,h,R,v,b=>by
  have ad:(aP k).length=32:=by rw [dx];exact a k (by simp)
  show(aP k++nr r)[32*(i+1)+R]? =_;rw [ko (by omega),ad,show 32*(i+1)+R-32=32*i+R by omega];exact xX r (λx d=>a x (by simp [d])) i (by simpa using h) R v b
theorem F8(n:Nat)(e3:List UInt8):(qd n e3).length=min (max n 1) 10:=by simp [qd]
def ky(e3:List UInt8)(i:Nat):List (List UInt8):=(List.range i).map λi=>ca (e3++[UInt8.ofNat i])
theorem vo(e3:List UInt8)(i:Nat):(ky e3 i).length=i:=by simp [ky]
theorem zi(e3:List UInt8)(i:Nat):∀k∈ky e3 i,k.length=32:=by
 intro k ad;obtain⟨i,_,rfl⟩:=ee.1 ad;exact fm _
theorem F9(e3:List UInt8)(i:Nat):ky e3 (i+1)=ky e3 i++[ca (e3++[UInt8.ofNat i])]:=by simp [ky,m9]
theorem ET(n:Nat):min (max (n:Int) 1) 10=((min (max n 1) 10:Nat):Int):=by omega
theorem Cz(x:Nat):IntKind.u8.wrap (x:Int)=((UInt8.ofNat x).toNat:Int):=by
 rw [lS,pm];omega
theorem uW{o:World}{n:Nat}{e3:List UInt8}(aT:n<=1000)(aF:e3.length=32):Calls prog 27 #[.int .i64 n,.agg (aP e3).toArray] o λr w=>∃g:al,r=g.p/\g.ok/\g.keys=qd n e3/\C o [] [dU g] w:=by
 have a:Own [] o:=C.start o;refine a6 func27 (bJ 2 a j j (λb w a=>?_));have a:C o [] [J b (aP e3).toArray 80] w:=a;refine aq 3 j (cP (c:= #[.slice none 0 0]) j j j (λ_=>by kernel_rfl) ?_);refine bJ 0 a j j (λd w a=>?_);have a:C o [] [J d #[.slice none 0 0] 142,J b (aP e3).toArray 80] w:=a;skip
 refine aq 5 j (s8 j j j ?_);refine qL j j j (bY 11 (.int .i64 (min (max n 1) 10:Nat)) j (aK (Value.int .i64) (ET n)) ?_)
 refine dj 2 j (cU:=Nat×Value×List Chunk) (λi=>[(3,aa b),(5,aa d),(11,.int .i64 (min (max n 1) 10:Nat)),(12,.int .i64 (i.1:Nat))])
  (λi w=>i.1<=min (max n 1) 10/\Row 80 32 i.2.1 i.1 (nr (ky e3 i.1)) i.2.2/\C o [] [J d #[i.2.1] 142,J b (aP e3).toArray 80,i.2.2] w) (λi=>10-i.1) (0,.slice none 0 0,[]) ⟨j,j,j,j,bb⟩ ⟨cp _,Row.nil 80 32,a.empty.f2.f2⟩ ?_
 rintro⟨i,v,ak⟩ w ⟨F,l,a⟩;dsimp only at F l a⊢;refine cy 4 j j (λx=>?_) (λx=>?_)
 .have I:i<min (max n 1) 10:=by omega
  have a:=a.drew;refine bx 7 j (λw=>∃ae,C o [] ([J d #[v] 142,J b (aP e3).toArray 80]++ae) w) ⟨_,a⟩ (ag 0 4 j (b4 4 j (λw⟨_,a⟩=>a.cell j) (bl 5 j (λw _=>AF j) (ag 6 1 j (bl 7 j (λw _=>mq j (Cz i)) (aX 8 j (fx a j j j j j j bO (λV w a=>?_))))))));have K:=a.bQ;have a:=a.f1.f2.f1;refine ao ⟨⟨_,a⟩,?_⟩;refine aX 9 j ?_;have O:Rd w (some ⟨b,0,none⟩) (aP e3):=a.f1.bQ;refine AM (size:=1) (k:=32) (m:=1) (xs:=aP e3) (news:=aP [UInt8.ofNat i]) a j j (by decide) j j j (by rw [dx,aF]) O (by decide) (by decide) j K (by decide) (by decide) (λS t w h a=>?_)
  have h:d6 S (e3++[UInt8.ofNat i]) t:=by
   have e:32+1=(e3++[UInt8.ofNat i]).length:=by rw [cj,aF];rfl
   rw [e,<-B2] at h;exact h
  obtain⟨T,X,rfl,D,_,N,_⟩:=h.rd a;have Z:(e3++[UInt8.ofNat i]).length=33:=by rw [cj,aF];rfl
  have a:=a.f1.f2.f1;refine ao ⟨⟨_,a⟩,?_⟩;refine aX 10 j ?_;have E:=oB N (by omega) D;refine bK j j j E (λw H=>?_);have a:=a.aO H;refine ao ⟨⟨_,a⟩,?_⟩;refine aX 11 j (gj (U:=aP (ca (e3++[UInt8.ofNat i]))) a j j j (by rw [dx,fm]) (by decide) (by decide) (λW w a=>?_));have L:=a.bQ;have a:=a.f1.f2.f1;refine ao ⟨⟨_,a⟩,?_⟩;refine aX 12 j (e6 a.f5 l j j (by decide) j j j (news:=aP (ca (e3++[UInt8.ofNat i]))) (m:=1) (by rw [dx,fm]) L (gC _) (by omega) (by unfold maxLen;omega) (λv1 u w s a=>?_));have a:=a.f1.f2.f1;refine ao ⟨⟨_,a⟩,?_⟩;refine ag 13 2 j (dK 15 j (cO a j j j s.one (by simp) (λw a=>?_)));have a:C o [] (J d #[v1] 142::_) w:=a;refine ao (c5 (bE 1 j j j (dn i (by omega)) (bW 1 j (⟨(i+1,v1,u),⟨j,j,j,j,bb⟩,⟨I,?_,C.rM (A:=[_,_,_]) a⟩,by dsimp only;omega⟩))));dsimp only;have e:nr (ky e3 (i+1))=nr (ky e3 i)++aP (ca (e3++[UInt8.ofNat i])):=by rw [F9];simp [nr]
  rw [e];exact s
 refine an 5 j j ?_;have G:i=min (max n 1) 10:=by omega
 obtain⟨_,z⟩:=l;rcases z with⟨_,Y,_⟩|⟨y,cap,cur,rfl,rfl,_,_,_,P⟩
 .omega
 refine⟨⟨d,y,cap,cur,ky e3 i⟩,j,⟨zi e3 i,by rw [vo];omega,by rw [vo];omega,λq M R v Q=>?_⟩,by subst G;rfl,?_⟩
 .have f:=xX (ky e3 i) (zi e3 i) q M R v Q;rw [<-P,kJ] at f;split at f
  .simpa using f
  cases f
 have B:=C.join (a.f1.drop);have e:(ky e3 i).length=i:=vo e3 i;dsimp only [dU];rw [e];exact B
def dI(T:TypeId)(w:World)(p:Option Addr)(m:List (Int×Value)):Prop:=
 (p=none/\m=[])\/∃b ah I,p=some ⟨b,0,none⟩/\w.heap[b]? =some (.cells #[.map (some ah)] T (0,0))/\w.heap[ah]? =some I/\cf bG I m
abbrev ay(T:TypeId)(b ah:Nat)(I:Obj):List Chunk:=[(b,.cells #[.map (some ah)] T (0,0)),(ah,I)]
theorem dI.own{T:TypeId}{o w:World}{F:List Nat}{ae:List (List Chunk)}{b ah:Nat}{I:Obj}{m:List (Int×Value)}(a:C o F (ay T b ah I::ae) w)(hm:cf bG I m):dI T w (some ⟨b,0,none⟩) m:=
 .inr ⟨b,ah,I,j,a.here (b,_) (by simp),a.here (ah,I) (by simp),hm⟩
theorem hX{T:TypeId}{o w:World}{F:List Nat}{ae:List (List Chunk)}{b ah:Nat}{I:Obj}(a:C o F (ay T b ah I::ae) w):C o F ([(b,.cells #[.map (some ah)] T (0,0))]::[(ah,I)]::ae) w:=C.split (af:=[(b,.cells #[.map (some ah)] T (0,0))]) (aB:=[(ah,I)]) a
theorem iy{T:TypeId}{o w:World}{F:List Nat}{ae:List (List Chunk)}{b ah:Nat}{I:Obj}(a:C o F ([(b,.cells #[.map (some ah)] T (0,0))]::[(ah,I)]::ae) w):C o F (ay T b ah I::ae) w:=C.join (af:=[(b,.cells #[.map (some ah)] T (0,0))]) (aB:=[(ah,I)]) a
def gl(n:Nat)(v:Value):Prop:=∃l:List Value,v= .agg l.toArray/\l.length=n/\l.all (·.oneCell')=true
theorem ES{m:List (Int×Value)}{k:Int}{v:Value}(h:aV m k=some v):(k,v)∈m:=by
 rcases nw m k with⟨a,_⟩|⟨R,u,a,b,_⟩
 .rw [a] at h;cases h
 .rw [a] at h;cases h;exact ia b
theorem gl.get{n:Nat}{m:List (Int×Value)}{z:Value}(b:gl n z)(h:∀p∈m,gl n p.2)(k:Int):gl n ((aV m k).getD z):=by
 cases a:aV m k with
 |none=>exact b
 |some v=>exact h _ (ES a)
theorem dI.i4{T:TypeId}{w:World}{p:Option Addr}{m:List (Int×Value)}(h:dI T w p m)(a:p.isNone=true):p=none/\m=[]:=by
 rcases h with h|⟨b,ah,I,rfl,_⟩
 .exact h
 .cases a
theorem dI.i7{T:TypeId}{w:World}{p:Option Addr}{m:List (Int×Value)}(h:dI T w p m)(a:p.isNone=false):∃b ah I,p=some ⟨b,0,none⟩/\w.heap[b]? =some (.cells #[.map (some ah)] T (0,0))/\w.heap[ah]? =some I/\cf bG I m:=by
 rcases h with⟨rfl,_⟩|h
 .cases a
 .exact h
theorem C.b8{o w:World}{ae:List (List Chunk)}{b:Nat}{I:Obj}(a:C o [] ae w)(h:o.heap[b]? =some I):w.heap[b]? =some I:=by
 rw [a.fT b (gq.1 h).1 (by simp)];exact h
theorem w8{I:Obj}{m:List (Int×Value)}{k:Int}(hm:cf bG I m)(h:(aV m k).isSome=false):cf bG I (fU m k):=by
 rcases nw m k with⟨_,b⟩|⟨R,u,a,_⟩
 .rw [uJ m k b];exact hm
 .rw [a] at h;cases h
theorem cell_of{w:World}{b off:Nat}{c:Array Value}{e:TypeId}{e0:Nat×Nat}{v:Value}(h:w.heap[b]? =some (.cells c e e0))(a:c[off]? =some v):w.cell? ⟨b,off,none⟩=some v:=by simp [World.cell?,h,a]
abbrev qB:Value:=.agg #[.int .i64 0,.int .i64 0,.int .i64 0]
theorem E7{o:World}:Calls prog 56 #[] o λr w=>∃b ah,r=aa b/\cf bG (.map #[] 0) []/\C o [] [ay 225 b ah (.map #[] 0)] w:=by
 have a:Own [] o:=C.start o;refine a6 func56 (aq 5 j (jd j a j j (λaC w a=>?_)));exact cP (c:= #[.map (some aC)]) j j j (λ_=>by kernel_rfl) (bJ 0 a j j (λd w a=>an 1 j j ⟨d,aC,j,cf.new,iy (T:=225) a⟩))
theorem GB{o:World}{b ah:Nat}{I:Obj}{m:List (Int×Value)}{k:Int}{l:List Value}(e:l.length=3)(g:l.all (·.oneCell')=true)(a:Own [ay 225 b ah I] o)(hm:cf bG I m):Calls prog 138 #[aa b,bG k,.agg l.toArray] o λr w=>r= .tuple #[]/\∃c,cf bG c (bV m k (.agg l.toArray))/\C o (au [ay 225 b ah I]) [ay 225 b ah c] w:=by
 refine a6 func138 (bJ 2 a j j (λd w a=>?_));have a:=a.drew;refine bx 5 j (λw=>∃c,C o (au [ay 225 b ah I]) ([J d l.toArray 123,ay 225 b ah c]) w) ⟨_,a⟩ (ag 0 3 j (b4 3 j (λw⟨_,a⟩=>(hX a.f1).cell j) (ag 4 1 j (bl 5 j (λw⟨_,a⟩=>dd j j e a.bQ) (aX 6 j (je hm (hX a.f1).f1 j j j j (λc w f a=>?_)))))));have a:C o _ (ay 225 b ah c::_) w:=iy a.f1;have a:=a.f1;refine ao ⟨⟨_,a⟩,?_⟩;exact bL (an 0 j j ⟨j,_,f,a.f1.hS⟩)
theorem HK:gl 3 qB:=⟨qB.cells.toList,j,j,j⟩
theorem Dr{o:World}{p:Option Addr}{m:List (Int×Value)}{k:Int}(hw:∀q∈m,gl 3 q.2)(d:dI 225 o p m):Calls prog 106 #[.pointer p,bG k] o λr w=>r= .tuple #[(aV m k).getD qB,.bool (aV m k).isSome]/\C o [] [] w:=by
 have a:Own [] o:=C.start o;obtain⟨l,e,c,f⟩:=gl.get HK hw k;refine fj func106 (cx 2 a j (λi w a=>bo 6 j j (λdu=>?_) (λdu=>?_)))
 .obtain⟨rfl,rfl⟩:=d.i4 du;refine bP 2 j j j a.bQ (cv 0 a j j j j j (λw a=>?_));have a:=C.whole (U:=qB.cells.toList) a j;refine bH 1 j ⟨_,ds results106 j j j j a.bQ,?_⟩;exact⟨j,a.bare⟩
 obtain⟨b,ah,I,rfl,g,h,hm⟩:=d.i7 du;refine ar 6 j (cell_of (a.b8 g) j) (aq 1 j (mw hm (a.b8 h) j j j j ?_));refine aq 2 j (bY 16 (.agg l.toArray) j e ?_);refine cv 1 a j j j f c (λw a=>?_);have a:=C.whole (U:=l) a (by rw [c];rfl);refine bP 3 (U:=l) j j c a.bQ (aq 1 j (c6 a j j j f c (by simp [c]) (λw a=>?_)));have a:=C.whole (U:=l) a j;refine bH 1 j ⟨_,ds (U:=l) results106 j j j c a.bQ,?_⟩;exact⟨by rw [e];rfl,a.bare⟩
abbrev HV:Value:=.pointer none
theorem E5{o:World}:Calls prog 117 #[] o λr w=>∃b ah,r=aa b/\cf bG (.map #[] 0) []/\C o [] [ay 235 b ah (.map #[] 0)] w:=by
 have a:Own [] o:=C.start o;refine a6 func117 (aq 5 j (jd j a j j (λaC w a=>?_)));exact cP (c:= #[.map (some aC)]) j j j (λ_=>by kernel_rfl) (bJ 0 a j j (λd w a=>an 1 j j ⟨d,aC,j,cf.new,iy (T:=235) a⟩))
theorem GA{o:World}{b ah:Nat}{I:Obj}{m:List (Int×Value)}{k:Int}{v:Value}(a:Own [ay 235 b ah I] o)(hm:cf bG I m):Calls prog 118 #[aa b,bG k,v] o λr w=>r= .tuple #[]/\∃c,cf bG c (bV m k (v))/\C o (au [ay 235 b ah I]) [ay 235 b ah c] w:=by
 refine a6 func118 (ar 9 j ((hX a).cell j) (aq 2 j (je hm (hX a).f1 j j j j (λc w d a=>?_))));have a:C o _ (ay 235 b ah c::_) w:=iy a.f1;exact an 0 j j ⟨j,_,d,a.hS⟩
theorem mN{o:World}{p:Option Addr}{m:List (Int×Value)}{k:Int}(c:dI 235 o p m):Calls prog 62 #[.pointer p,bG k] o λr w=>r= .tuple #[(aV m k).getD HV,.bool (aV m k).isSome]/\C o [] [] w:=by
 have a:Own [] o:=C.start o;refine a6 func62 (bo 9 j j (λdu=>?_) (λdu=>?_))
 .obtain⟨rfl,rfl⟩:=c.i4 du;exact an 5 j j ⟨j,a.bare⟩
 obtain⟨b,ah,I,rfl,d,e,hm⟩:=c.i7 du;refine ar 6 j (cell_of (a.b8 d) j) (aq 1 j (mw hm (a.b8 e) j j j j ?_));exact an 11 j j ⟨j,a.bare⟩
abbrev Ah:Value:=.pointer none
theorem Fa{o:World}:Calls prog 58 #[] o λr w=>∃b ah,r=aa b/\cf bG (.map #[] 0) []/\C o [] [ay 228 b ah (.map #[] 0)] w:=by
 have a:Own [] o:=C.start o;refine a6 func58 (aq 5 j (jd j a j j (λaC w a=>?_)));exact cP (c:= #[.map (some aC)]) j j j (λ_=>by kernel_rfl) (bJ 0 a j j (λd w a=>an 1 j j ⟨d,aC,j,cf.new,iy (T:=228) a⟩))
theorem GD{o:World}{b ah:Nat}{I:Obj}{m:List (Int×Value)}{k:Int}{v:Value}(a:Own [ay 228 b ah I] o)(hm:cf bG I m):Calls prog 97 #[aa b,bG k,v] o λr w=>r= .tuple #[]/\∃c,cf bG c (bV m k (v))/\C o (au [ay 228 b ah I]) [ay 228 b ah c] w:=by
 refine a6 func97 (ar 9 j ((hX a).cell j) (aq 2 j (je hm (hX a).f1 j j j j (λc w d a=>?_))));have a:C o _ (ay 228 b ah c::_) w:=iy a.f1;exact an 0 j j ⟨j,_,d,a.hS⟩
theorem xB{o:World}{p:Option Addr}{m:List (Int×Value)}{k:Int}(c:dI 228 o p m):Calls prog 93 #[.pointer p,bG k] o λr w=>r= .tuple #[(aV m k).getD Ah,.bool (aV m k).isSome]/\C o [] [] w:=by
 have a:Own [] o:=C.start o;refine a6 func93 (bo 9 j j (λdu=>?_) (λdu=>?_))
 .obtain⟨rfl,rfl⟩:=c.i4 du;exact an 5 j j ⟨j,a.bare⟩
 obtain⟨b,ah,I,rfl,d,e,hm⟩:=c.i7 du;refine ar 6 j (cell_of (a.b8 d) j) (aq 1 j (mw hm (a.b8 e) j j j j ?_));exact an 11 j j ⟨j,a.bare⟩
theorem Eu{o:World}{p:Option Addr}{m:List (Int×Value)}(c:dI 228 o p m):Calls prog 95 #[.pointer p] o λr w=>r= .int .i64 m.length/\C o [] [] w:=by
 have a:Own [] o:=C.start o;refine a6 func95 (bo 8 j j (λfA=>?_) (λfA=>?_))
 .obtain⟨rfl,rfl⟩:=c.i4 fA;exact an 3 j j ⟨j,a.bare⟩
 obtain⟨b,ah,I,rfl,d,e,hm⟩:=c.i7 fA;exact ar 6 j (cell_of (a.b8 d) j) (s7 hm (a.b8 e) j j j j (an 1 j j ⟨j,a.bare⟩))
theorem tZ{o:World}{b ah:Nat}{I:Obj}{m:List (Int×Value)}{k:Int}(a:Own [ay 228 b ah I] o)(hm:cf bG I m):Calls prog 102 #[aa b,bG k] o λr w=>r= .bool (aV m k).isSome/\∃c,cf bG c (fU m k)/\C o (au [ay 228 b ah I]) [ay 228 b ah c] w:=by
 refine a6 func102 ?_;have e:=xB (k:=k) (dI.own a hm);refine br 7 e j (λw ad=>?_);have a:=a.aO ad;refine bo 9 j j (λd=>?_) (λd=>?_)
 .refine ar 4 j ((hX a).cell j) (aq 1 j (vS (t:=226) hm (hX a).f1 j j j j (λc w f a=>?_)));have a:C o _ (ay 228 b ah c::_) w:=iy a.f1;exact an 4 j j ⟨j,_,f,a.hS⟩
 exact an 5 j j ⟨j,_,w8 hm d,a.hS⟩
abbrev sS:Value:=.agg #[.int .i64 0,.int .i64 0,.int .i64 0,.int .u8 0,.int .u8 0,.int .u8 0,.int .u8 0,.int .u8 0,.int .u8 0,.int .u8 0,.int .u8 0,.int .u8 0,.int .u8 0,.int .u8 0,.int .u8 0,.int .u8 0,.int .u8 0,.int .u8 0,.int .u8 0,.int .u8 0,.int .u8 0,.int .u8 0,.int .u8 0,.int .u8 0,.int .u8 0,.int .u8 0,.int .u8 0,.int .u8 0,.int .u8 0,.int .u8 0,.int .u8 0,.int .u8 0,.int .u8 0,.int .u8 0,.int .u8 0,.int .i64 0,.int .u8 0,.int .u8 0,.int .u8 0,.int .u8 0,.int .u8 0,.int .u8 0,.int .u8 0,.int .u8 0,.int .u8 0,.int .u8 0,.int .u8 0,.int .u8 0,.int .u8 0,.int .u8 0,.int .u8 0,.int .u8 0,.int .u8 0,.int .u8 0,.int .u8 0,.int .u8 0,.int .u8 0,.int .u8 0,.int .u8 0,.int .u8 0,.int .u8 0,.int .u8 0,.int .u8 0,.int .u8 0,.int .u8 0,.int .u8 0,.int .u8 0,.int .u8 0]
theorem Fb{o:World}:Calls prog 96 #[] o λr w=>∃b ah,r=aa b/\cf bG (.map #[] 0) []/\C o [] [ay 267 b ah (.map #[] 0)] w:=by
 have a:Own [] o:=C.start o;refine a6 func96 (aq 5 j (jd j a j j (λaC w a=>?_)));exact cP (c:= #[.map (some aC)]) j j j (λ_=>by kernel_rfl) (bJ 0 a j j (λd w a=>an 1 j j ⟨d,aC,j,cf.new,iy (T:=267) a⟩))
theorem zx{o:World}{b ah:Nat}{I:Obj}{m:List (Int×Value)}{k:Int}{l:List Value}(e:l.length=68)(g:l.all (·.oneCell')=true)(a:Own [ay 267 b ah I] o)(hm:cf bG I m):Calls prog 99 #[aa b,bG k,.agg l.toArray] o λr w=>r= .tuple #[]/\∃c,cf bG c (bV m k (.agg l.toArray))/\C o (au [ay 267 b ah I]) [ay 267 b ah c] w:=by
 refine a6 func99 (bJ 2 a j j (λd w a=>?_));have a:=a.drew;refine bx 5 j (λw=>∃c,C o (au [ay 267 b ah I]) ([J d l.toArray 115,ay 267 b ah c]) w) ⟨_,a⟩ (ag 0 3 j (b4 3 j (λw⟨_,a⟩=>(hX a.f1).cell j) (ag 4 1 j (bl 5 j (λw⟨_,a⟩=>dd j j e a.bQ) (aX 6 j (je hm (hX a.f1).f1 j j j j (λc w f a=>?_)))))));have a:C o _ (ay 267 b ah c::_) w:=iy a.f1;have a:=a.f1;refine ao ⟨⟨_,a⟩,?_⟩;exact bL (an 0 j j ⟨j,_,f,a.f1.hS⟩)
theorem vD:gl 68 sS:=⟨sS.cells.toList,j,j,j⟩
theorem xC{o:World}{p:Option Addr}{m:List (Int×Value)}{k:Int}(hw:∀q∈m,gl 68 q.2)(d:dI 267 o p m):Calls prog 98 #[.pointer p,bG k] o λr w=>r= .tuple #[(aV m k).getD sS,.bool (aV m k).isSome]/\C o [] [] w:=by
 have a:Own [] o:=C.start o;obtain⟨l,e,c,f⟩:=gl.get vD hw k;refine fj func98 (cx 2 a j (λi w a=>bo 6 j j (λdu=>?_) (λdu=>?_)))
 .obtain⟨rfl,rfl⟩:=d.i4 du;refine bP 2 j j j a.bQ (cv 0 a j j j j j (λw a=>?_));have a:=C.whole (U:=sS.cells.toList) a j;refine bH 1 j ⟨_,ds results98 j j j j a.bQ,?_⟩;exact⟨j,a.bare⟩
 obtain⟨b,ah,I,rfl,g,h,hm⟩:=d.i7 du;refine ar 6 j (cell_of (a.b8 g) j) (aq 1 j (mw hm (a.b8 h) j j j j ?_));refine aq 2 j (bY 16 (.agg l.toArray) j e ?_);refine cv 1 a j j j f c (λw a=>?_);have a:=C.whole (U:=l) a (by rw [c];rfl);refine bP 3 (U:=l) j j c a.bQ (aq 1 j (c6 a j j j f c (by simp [c]) (λw a=>?_)));have a:=C.whole (U:=l) a j;refine bH 1 j ⟨_,ds (U:=l) results98 j j j c a.bQ,?_⟩;exact⟨by rw [e];rfl,a.bare⟩
abbrev sR:Value:=.agg #[.int .i64 0,.int .i64 0,.int .i64 0,.int .i64 0,.int .i64 0,.slice none 0 0,.slice none 0 0,.int .u8 0,.int .u8 0,.int .u8 0,.int .u8 0,.int .u8 0,.int .u8 0,.int .u8 0,.int .u8 0,.int .u8 0,.int .u8 0,.int .u8 0,.int .u8 0,.int .u8 0,.int .u8 0,.int .u8 0,.int .u8 0,.int .u8 0,.int .u8 0,.int .u8 0,.int .u8 0,.int .u8 0,.int .u8 0,.int .u8 0,.int .u8 0,.int .u8 0,.int .u8 0,.int .u8 0,.int .u8 0,.int .u8 0,.int .u8 0,.int .u8 0,.int .u8 0]
theorem uV{o:World}:Calls prog 115 #[] o λr w=>∃b ah,r=aa b/\cf bG (.map #[] 0) []/\C o [] [ay 287 b ah (.map #[] 0)] w:=by
 have a:Own [] o:=C.start o;refine a6 func115 (aq 5 j (jd j a j j (λaC w a=>?_)));exact cP (c:= #[.map (some aC)]) j j j (λ_=>by kernel_rfl) (bJ 0 a j j (λd w a=>an 1 j j ⟨d,aC,j,cf.new,iy (T:=287) a⟩))
theorem vr{o:World}{b ah:Nat}{I:Obj}{m:List (Int×Value)}{k:Int}{l:List Value}(e:l.length=39)(g:l.all (·.oneCell')=true)(a:Own [ay 287 b ah I] o)(hm:cf bG I m):Calls prog 135 #[aa b,bG k,.agg l.toArray] o λr w=>r= .tuple #[]/\∃c,cf bG c (bV m k (.agg l.toArray))/\C o (au [ay 287 b ah I]) [ay 287 b ah c] w:=by
 refine a6 func135 (bJ 2 a j j (λd w a=>?_));have a:=a.drew;refine bx 5 j (λw=>∃c,C o (au [ay 287 b ah I]) ([J d l.toArray 101,ay 287 b ah c]) w) ⟨_,a⟩ (ag 0 3 j (b4 3 j (λw⟨_,a⟩=>(hX a.f1).cell j) (ag 4 1 j (bl 5 j (λw⟨_,a⟩=>dd j j e a.bQ) (aX 6 j (je hm (hX a.f1).f1 j j j j (λc w f a=>?_)))))));have a:C o _ (ay 287 b ah c::_) w:=iy a.f1;have a:=a.f1;refine ao ⟨⟨_,a⟩,?_⟩;exact bL (an 0 j j ⟨j,_,f,a.f1.hS⟩)
theorem oI:gl 39 sR:=⟨sR.cells.toList,j,j,j⟩
theorem nl{o:World}{p:Option Addr}{m:List (Int×Value)}{k:Int}(hw:∀q∈m,gl 39 q.2)(d:dI 287 o p m):Calls prog 225 #[.pointer p,bG k] o λr w=>r= .tuple #[(aV m k).getD sR,.bool (aV m k).isSome]/\C o [] [] w:=by
 have a:Own [] o:=C.start o;obtain⟨l,e,c,f⟩:=gl.get oI hw k;refine fj func225 (cx 2 a j (λi w a=>bo 6 j j (λdu=>?_) (λdu=>?_)))
 .obtain⟨rfl,rfl⟩:=d.i4 du;refine bP 2 j j j a.bQ (cv 0 a j j j j j (λw a=>?_));have a:=C.whole (U:=sR.cells.toList) a j;refine bH 1 j ⟨_,ds results225 j j j j a.bQ,?_⟩;exact⟨j,a.bare⟩
 obtain⟨b,ah,I,rfl,g,h,hm⟩:=d.i7 du;refine ar 6 j (cell_of (a.b8 g) j) (aq 1 j (mw hm (a.b8 h) j j j j ?_));refine aq 2 j (bY 16 (.agg l.toArray) j e ?_);refine cv 1 a j j j f c (λw a=>?_);have a:=C.whole (U:=l) a (by rw [c];rfl);refine bP 3 (U:=l) j j c a.bQ (aq 1 j (c6 a j j j f c (by simp [c]) (λw a=>?_)));have a:=C.whole (U:=l) a j;refine bH 1 j ⟨_,ds (U:=l) results225 j j j c a.bQ,?_⟩;exact⟨by rw [e];rfl,a.bare⟩
theorem x4{o:World}{p:Option Addr}{m:List (Int×Value)}(c:dI 287 o p m):Calls prog 134 #[.pointer p] o λr w=>r= .int .i64 m.length/\C o [] [] w:=by
 have a:Own [] o:=C.start o;refine a6 func134 (bo 8 j j (λfA=>?_) (λfA=>?_))
 .obtain⟨rfl,rfl⟩:=c.i4 fA;exact an 3 j j ⟨j,a.bare⟩
 obtain⟨b,ah,I,rfl,d,e,hm⟩:=c.i7 fA;exact ar 6 j (cell_of (a.b8 d) j) (s7 hm (a.b8 e) j j j j (an 1 j j ⟨j,a.bare⟩))
theorem CJ{o:World}{b ah:Nat}{I:Obj}{m:List (Int×Value)}{k:Int}(hw:∀q∈m,gl 39 q.2)(a:Own [ay 287 b ah I] o)(hm:cf bG I m):Calls prog 224 #[aa b,bG k] o λr w=>r= .bool (aV m k).isSome/\∃c,cf bG c (fU m k)/\C o (au [ay 287 b ah I]) [ay 287 b ah c] w:=by
 obtain⟨l,f,g,h⟩:=gl.get oI hw k;refine a6 func224 ?_;have e:=nl (k:=k) hw (dI.own a hm);refine br 7 e j (λw ad=>?_);have a:=a.aO ad;refine aq 2 j (bY 11 (.agg l.toArray) j f ?_);refine cx 1 a j (λn w a=>cv 0 a j j j h g (λw a=>bo 5 j j (λd=>?_) (λd=>?_)))
 .have a:=a.f1;refine ar 4 j ((hX a).cell j) (aq 1 j (vS (t:=285) hm (hX a).f1 j j j j (λc w i a=>?_)));have a:C o _ (ay 287 b ah c::_) w:=iy a.f1;exact an 4 j j ⟨j,_,i,a.hS⟩
 exact an 5 j j ⟨j,_,w8 hm d,(a.f1).hS⟩
abbrev vF:Value:=.pointer none
theorem E9{o:World}:Calls prog 159 #[] o λr w=>∃b ah,r=aa b/\cf bG (.map #[] 0) []/\C o [] [ay 325 b ah (.map #[] 0)] w:=by
 have a:Own [] o:=C.start o;refine a6 func159 (aq 5 j (jd j a j j (λaC w a=>?_)));exact cP (c:= #[.map (some aC)]) j j j (λ_=>by kernel_rfl) (bJ 0 a j j (λd w a=>an 1 j j ⟨d,aC,j,cf.new,iy (T:=325) a⟩))
theorem GC{o:World}{b ah:Nat}{I:Obj}{m:List (Int×Value)}{k:Int}{v:Value}(a:Own [ay 325 b ah I] o)(hm:cf bG I m):Calls prog 230 #[aa b,bG k,v] o λr w=>r= .tuple #[]/\∃c,cf bG c (bV m k (v))/\C o (au [ay 325 b ah I]) [ay 325 b ah c] w:=by
 refine a6 func230 (ar 9 j ((hX a).cell j) (aq 2 j (je hm (hX a).f1 j j j j (λc w d a=>?_))));have a:C o _ (ay 325 b ah c::_) w:=iy a.f1;exact an 0 j j ⟨j,_,d,a.hS⟩
theorem xA{o:World}{p:Option Addr}{m:List (Int×Value)}{k:Int}(c:dI 325 o p m):Calls prog 229 #[.pointer p,bG k] o λr w=>r= .tuple #[(aV m k).getD vF,.bool (aV m k).isSome]/\C o [] [] w:=by
 have a:Own [] o:=C.start o;refine a6 func229 (bo 9 j j (λdu=>?_) (λdu=>?_))
 .obtain⟨rfl,rfl⟩:=c.i4 du;exact an 5 j j ⟨j,a.bare⟩
 obtain⟨b,ah,I,rfl,d,e,hm⟩:=c.i7 du;refine ar 6 j (cell_of (a.b8 d) j) (aq 1 j (mw hm (a.b8 e) j j j j ?_));exact an 11 j j ⟨j,a.bare⟩
abbrev sQ:Value:=.pointer none
theorem yw{o:World}:Calls prog 160 #[] o λr w=>∃b ah,r=aa b/\cf bG (.map #[] 0) []/\C o [] [ay 328 b ah (.map #[] 0)] w:=by
 have a:Own [] o:=C.start o;refine a6 func160 (aq 5 j (jd j a j j (λaC w a=>?_)));exact cP (c:= #[.map (some aC)]) j j j (λ_=>by kernel_rfl) (bJ 0 a j j (λd w a=>an 1 j j ⟨d,aC,j,cf.new,iy (T:=328) a⟩))
theorem Gw{o:World}{b ah:Nat}{I:Obj}{m:List (Int×Value)}{k:Int}{v:Value}(a:Own [ay 328 b ah I] o)(hm:cf bG I m):Calls prog 262 #[aa b,bG k,v] o λr w=>r= .tuple #[]/\∃c,cf bG c (bV m k (v))/\C o (au [ay 328 b ah I]) [ay 328 b ah c] w:=by
 refine a6 func262 (ar 9 j ((hX a).cell j) (aq 2 j (je hm (hX a).f1 j j j j (λc w d a=>?_))));have a:C o _ (ay 328 b ah c::_) w:=iy a.f1;exact an 0 j j ⟨j,_,d,a.hS⟩
theorem Dp{o:World}{p:Option Addr}{m:List (Int×Value)}{k:Int}(c:dI 328 o p m):Calls prog 289 #[.pointer p,bG k] o λr w=>r= .tuple #[(aV m k).getD sQ,.bool (aV m k).isSome]/\C o [] [] w:=by
 have a:Own [] o:=C.start o;refine a6 func289 (bo 9 j j (λdu=>?_) (λdu=>?_))
 .obtain⟨rfl,rfl⟩:=c.i4 du;exact an 5 j j ⟨j,a.bare⟩
 obtain⟨b,ah,I,rfl,d,e,hm⟩:=c.i7 du;refine ar 6 j (cell_of (a.b8 d) j) (aq 1 j (mw hm (a.b8 e) j j j j ?_));exact an 11 j j ⟨j,a.bare⟩
abbrev HU:Value:=.pointer none
theorem E4{o:World}:Calls prog 116 #[] o λr w=>∃b ah,r=aa b/\cf bG (.map #[] 0) []/\C o [] [ay 290 b ah (.map #[] 0)] w:=by
 have a:Own [] o:=C.start o;refine a6 func116 (aq 5 j (jd j a j j (λaC w a=>?_)));exact cP (c:= #[.map (some aC)]) j j j (λ_=>by kernel_rfl) (bJ 0 a j j (λd w a=>an 1 j j ⟨d,aC,j,cf.new,iy (T:=290) a⟩))
theorem Gz{o:World}{b ah:Nat}{I:Obj}{m:List (Int×Value)}{k:Int}{v:Value}(a:Own [ay 290 b ah I] o)(hm:cf bG I m):Calls prog 271 #[aa b,bG k,v] o λr w=>r= .tuple #[]/\∃c,cf bG c (bV m k (v))/\C o (au [ay 290 b ah I]) [ay 290 b ah c] w:=by
 refine a6 func271 (ar 9 j ((hX a).cell j) (aq 2 j (je hm (hX a).f1 j j j j (λc w d a=>?_))));have a:C o _ (ay 290 b ah c::_) w:=iy a.f1;exact an 0 j j ⟨j,_,d,a.hS⟩
theorem Dq{o:World}{p:Option Addr}{m:List (Int×Value)}{k:Int}(c:dI 290 o p m):Calls prog 239 #[.pointer p,bG k] o λr w=>r= .tuple #[(aV m k).getD HU,.bool (aV m k).isSome]/\C o [] [] w:=by
 have a:Own [] o:=C.start o;refine a6 func239 (bo 9 j j (λdu=>?_) (λdu=>?_))
 .obtain⟨rfl,rfl⟩:=c.i4 du;exact an 5 j j ⟨j,a.bare⟩
 obtain⟨b,ah,I,rfl,d,e,hm⟩:=c.i7 du;refine ar 6 j (cell_of (a.b8 d) j) (aq 1 j (mw hm (a.b8 e) j j j j ?_));exact an 11 j j ⟨j,a.bare⟩
theorem x5{o:World}{p:Option Addr}{m:List (Int×Value)}(c:dI 290 o p m):Calls prog 298 #[.pointer p] o λr w=>r= .int .i64 m.length/\C o [] [] w:=by
 have a:Own [] o:=C.start o;refine a6 func298 (bo 8 j j (λfA=>?_) (λfA=>?_))
 .obtain⟨rfl,rfl⟩:=c.i4 fA;exact an 3 j j ⟨j,a.bare⟩
 obtain⟨b,ah,I,rfl,d,e,hm⟩:=c.i7 fA;exact ar 6 j (cell_of (a.b8 d) j) (s7 hm (a.b8 e) j j j j (an 1 j j ⟨j,a.bare⟩))
theorem C.iZ{o w aJ:World}{F:List Nat}{H A a7:List (List Chunk)}(h:C o F (H++A) w)(k:C w (au A) a7 aJ):C o F (H++a7) aJ:=by
 have a:=C.re (H:=H) (A:=A) (L:=[]) (by simpa using h) k;simpa using a
theorem C.i3{o w:World}{F:List Nat}{ae:List (List Chunk)}{b:Nat}{I:Obj}(h:C o F ([(b,I)]::ae) w):b∉au ae:=λa=>by
 have:=h.nodup;rw [of] at this;exact(iX.1 this).2.2 b (by simp [au]) b a j
theorem mO{A B:List (List Chunk)}{b:Nat}:b∈au (A++B)↔b∈au A\/b∈au B:=by simp [au]
theorem fq{A:List Chunk}{B:List (List Chunk)}{b:Nat}(h:b∉au (A::B)):b∉au B:=λa=>h (by rw [of];exact fL.2 (.inr a))
theorem zI:∀{pre l:List Int},pre.Nodup->(∀k∈pre,k∈l)->pre.length<=l.length
 |[],l,_,_=>cp _
 |k::r,l,c,a=>by
  have aT:=lT.1 c;have ad:k∈l:=a k (by simp);have:=zI (pre:=r) (l:=l.erase k) aT.2 (λx b=>(List.mem_erase_of_ne (λe=>aT.1 (by rw [<-e];exact b))).2 (a x (by simp [b])));rw [List.length_erase_of_mem ad] at this;have:=List.length_pos_of_mem ad;simp only [ex];omega
theorem sub_lt{pre l:List Int}{k:Int}(b:pre.Nodup)(c:∀k∈pre,k∈l)(ad:k∈l)(aT:k∉pre):pre.length<l.length:=by
 have:=zI (pre:=k::pre) (l:=l) (lT.2 ⟨aT,b⟩) (by intro x a;rcases hD.1 a with rfl|a<;>first|exact ad|exact c x a);simp only [ex] at this;omega
abbrev oh(m:List (Int×Value))(pre:List Int)(k:Int):Prop:=k∈m.map Prod.fst/\k∉pre/\pre.length<m.length
instance:MapsClone prog 255:=⟨_,func255,by kernel_rfl,by kernel_rfl,by kernel_rfl,by kernel_rfl⟩
theorem Cn{o:World}{ah:Nat}{I:Obj}{m:List (Int×Value)}(hm:cf bG I m)(c:o.heap[ah]? =some I):Calls prog 219 #[.map (some ah)] o λr w=>∃b,r= .map (some b)/\C o [] [[(b,I)]] w:=by
 have a:Own [] o:=C.start o;refine a6 func219 (aq 7 j (oT j j j j ?_));refine aq 5 j (oW (by intro ms h;cases h) j j j ?_);exact oX hm c a j j j (λb w a=>oQ (by intro ms h;cases h) j j j (an 1 j j ⟨b,j,a⟩))
theorem Eb{o:World}{ah:Nat}:Calls prog 221 #[.map (some ah)] o λr w=>∃b,r= .func (.func 257) #[] #[aa b]/\C o [] [J b #[.map (some ah)] 233] w:=by
 have a:Own [] o:=C.start o;refine a6 func221 (bJ 2 a j j (λaC w a=>aq 3 j (gI j j j j ?_)));exact an 1 j j ⟨aC,j,a⟩
theorem D7{aC ah:Nat}{I:Obj}{m:List (Int×Value)}(hm:cf bG I m):Iter prog 257 #[aa aC] [J aC #[.map (some ah)] 233,[(ah,I)]] (λ_ _=>True) (λ_=>True) (λk:Int=> #[bG k]) (oh m) (λxs=>xs.Perm (m.map Prod.fst)):=by
 intro l X ac ae o d f _ _ E Z U;show Calls _ _ #[fC l,aa aC] o _;obtain⟨q,B⟩:∃q,q=au ([[(aC,Obj.cells #[.map (some ah)] 233 (0,0))],[(ah,I)]]++ae):=⟨_,j⟩;have d:C o q (J aC #[.map (some ah)] 233::[(ah,I)]::ae) o:=B▸d;rw [<-B];have R:(m.map Prod.fst).Nodup:=hm.nodup (P:=prog) (cX:=3);refine a6 func257 (ar 2 j (ax (C.aj d) j) (oZ hm (d.here (ah,I) (by simp)) (C.start _) j j j (λr it w s k=>?_)));have T:o.heap.size<=r:=by have L:=k.own r (by simp [au]);have Y:=d.size;simp at L;omega
 have f:=E _ _ _ _ [] f k.bare (by simp);have d:=d.aO k
 refine dj 1 j (cU:=List Int×List (List Chunk)×Obj) (λi=>[(0,fC l),(1,aa aC),(5,aa r)])
  (λi w=>lL bG ah I m i.1 i.2.2/\i.1.Nodup/\(∀k∈i.1,k∈m.map Prod.fst)/\X i.1 i.2.1 w/\C o q ([(r,i.2.2)]::J aC #[.map (some ah)] 233::[(ah,I)]::i.2.1) w) (λi=>m.length-i.1.length) ([],ae,it) ⟨j,j,j,bb⟩ ⟨s,by simp,by simp,f,d⟩ ?_
 rintro⟨pre,af,it⟩ w ⟨s,t,u,f,d⟩;dsimp only at s t u f d⊢;refine aq 2 j (oY s (λa c h=>by cases h;rfl) (d.here (ah,I) (by simp)) d.h7 j j j (λM=>?_) (λk v A w N z F G=>?_))
 .exact an 4 j j ⟨af,d.drop,.inl ⟨pre,p5 R t u (λk ad=>by obtain⟨p,S,rfl⟩:=ee.1 ad;exact M p S),f⟩⟩
 have Q:r∉au af:=fq (fq d.i3);have f:=E _ _ _ _ [r] f G.bare (by intro b n;simp at n;subst n;exact⟨T,Q⟩);have d:=d.gT G;refine aq 7 j (oS F (λa c h=>by cases h;rfl) (d.here (ah,I) (by simp)) (C.f1 (C.f1 d)) j j j (λv2 ab=>?_));have y:k∈m.map Prod.fst:=ee.2 ⟨_,N,j⟩;have O:pre.length<m.length:=by have:=sub_lt t u y z;simpa using this
 have V:=U pre k af _ ⟨y,z,O⟩ f (C.i8 (H:=[[(r,A)],J aC #[.map (some ah)] 233,[(ah,I)]]) d);refine aq 6 j (jD j j j j V (λb w⟨aB,W,n⟩=>?_));have d:=C.iZ (H:=[[(r,A)],J aC #[.map (some ah)] 233,[(ah,I)]]) d W;refine bo 1 j j (λK=>?_) (λK=>?_)
 .refine an 0 j j ?_;have x:b=false:=by cases b<;>simp_all
  subst x;exact⟨aB,d.drop,.inr (by simpa using n)⟩
 refine bW 1 j ?_;have x:b=true:=by cases b<;>simp_all
 subst x;refine⟨(pre++[k],aB,A),⟨j,j,j,bb⟩,⟨F,?_,?_,by simpa using n,d⟩,by dsimp only;simp only [List.length_append,List.length_cons,List.length_nil];omega⟩
 .exact iX.2 ⟨t,by simp,by intro a g c D;simp at D;subst D;exact λe=>z (e▸g)⟩
 intro a g;rcases fL.1 g with g|g
 .exact u a g
 simp at g;subst g;exact y
theorem Co{o:World}{ah:Nat}{I:Obj}{m:List (Int×Value)}(hm:cf bG I m)(c:o.heap[ah]? =some I):Calls prog 246 #[.map (some ah)] o λr w=>∃b,r= .map (some b)/\C o [] [[(b,I)]] w:=by
 have a:Own [] o:=C.start o;refine a6 func246 (aq 7 j (oT j j j j ?_));refine aq 5 j (oW (by intro ms h;cases h) j j j ?_);exact oX hm c a j j j (λb w a=>oQ (by intro ms h;cases h) j j j (an 1 j j ⟨b,j,a⟩))
theorem Ec{o:World}{ah:Nat}:Calls prog 247 #[.map (some ah)] o λr w=>∃b,r= .func (.func 276) #[] #[aa b]/\C o [] [J b #[.map (some ah)] 265] w:=by
 have a:Own [] o:=C.start o;refine a6 func247 (bJ 2 a j j (λaC w a=>aq 3 j (gI j j j j ?_)));exact an 1 j j ⟨aC,j,a⟩
theorem D8{aC ah:Nat}{I:Obj}{m:List (Int×Value)}(hm:cf bG I m):Iter prog 276 #[aa aC] [J aC #[.map (some ah)] 265,[(ah,I)]] (λ_ _=>True) (λ_=>True) (λk:Int=> #[bG k]) (oh m) (λxs=>xs.Perm (m.map Prod.fst)):=by
 intro l X ac ae o d f _ _ E Z U;show Calls _ _ #[fC l,aa aC] o _;obtain⟨q,B⟩:∃q,q=au ([[(aC,Obj.cells #[.map (some ah)] 265 (0,0))],[(ah,I)]]++ae):=⟨_,j⟩;have d:C o q (J aC #[.map (some ah)] 265::[(ah,I)]::ae) o:=B▸d;rw [<-B];have R:(m.map Prod.fst).Nodup:=hm.nodup (P:=prog) (cX:=3);refine a6 func276 (ar 2 j (ax (C.aj d) j) (oZ hm (d.here (ah,I) (by simp)) (C.start _) j j j (λr it w s k=>?_)));have T:o.heap.size<=r:=by have L:=k.own r (by simp [au]);have Y:=d.size;simp at L;omega
 have f:=E _ _ _ _ [] f k.bare (by simp);have d:=d.aO k
 refine dj 1 j (cU:=List Int×List (List Chunk)×Obj) (λi=>[(0,fC l),(1,aa aC),(5,aa r)])
  (λi w=>lL bG ah I m i.1 i.2.2/\i.1.Nodup/\(∀k∈i.1,k∈m.map Prod.fst)/\X i.1 i.2.1 w/\C o q ([(r,i.2.2)]::J aC #[.map (some ah)] 265::[(ah,I)]::i.2.1) w) (λi=>m.length-i.1.length) ([],ae,it) ⟨j,j,j,bb⟩ ⟨s,by simp,by simp,f,d⟩ ?_
 rintro⟨pre,af,it⟩ w ⟨s,t,u,f,d⟩;dsimp only at s t u f d⊢;refine aq 2 j (oY s (λa c h=>by cases h;rfl) (d.here (ah,I) (by simp)) d.h7 j j j (λM=>?_) (λk v A w N z F G=>?_))
 .exact an 4 j j ⟨af,d.drop,.inl ⟨pre,p5 R t u (λk ad=>by obtain⟨p,S,rfl⟩:=ee.1 ad;exact M p S),f⟩⟩
 have Q:r∉au af:=fq (fq d.i3);have f:=E _ _ _ _ [r] f G.bare (by intro b n;simp at n;subst n;exact⟨T,Q⟩);have d:=d.gT G;refine aq 7 j (oS F (λa c h=>by cases h;rfl) (d.here (ah,I) (by simp)) (C.f1 (C.f1 d)) j j j (λv2 ab=>?_));have y:k∈m.map Prod.fst:=ee.2 ⟨_,N,j⟩;have O:pre.length<m.length:=by have:=sub_lt t u y z;simpa using this
 have V:=U pre k af _ ⟨y,z,O⟩ f (C.i8 (H:=[[(r,A)],J aC #[.map (some ah)] 265,[(ah,I)]]) d);refine aq 6 j (jD j j j j V (λb w⟨aB,W,n⟩=>?_));have d:=C.iZ (H:=[[(r,A)],J aC #[.map (some ah)] 265,[(ah,I)]]) d W;refine bo 1 j j (λK=>?_) (λK=>?_)
 .refine an 0 j j ?_;have x:b=false:=by cases b<;>simp_all
  subst x;exact⟨aB,d.drop,.inr (by simpa using n)⟩
 refine bW 1 j ?_;have x:b=true:=by cases b<;>simp_all
 subst x;refine⟨(pre++[k],aB,A),⟨j,j,j,bb⟩,⟨F,?_,?_,by simpa using n,d⟩,by dsimp only;simp only [List.length_append,List.length_cons,List.length_nil];omega⟩
 .exact iX.2 ⟨t,by simp,by intro a g c D;simp at D;subst D;exact λe=>z (e▸g)⟩
 intro a g;rcases fL.1 g with g|g
 .exact u a g
 simp at g;subst g;exact y
theorem Cl{o:World}{ah:Nat}{I:Obj}{m:List (Int×Value)}(hm:cf bG I m)(c:o.heap[ah]? =some I):Calls prog 287 #[.map (some ah)] o λr w=>∃b,r= .map (some b)/\C o [] [[(b,I)]] w:=by
 have a:Own [] o:=C.start o;refine a6 func287 (aq 7 j (oT j j j j ?_));refine aq 5 j (oW (by intro ms h;cases h) j j j ?_);exact oX hm c a j j j (λb w a=>oQ (by intro ms h;cases h) j j j (an 1 j j ⟨b,j,a⟩))
theorem D9{o:World}{ah:Nat}:Calls prog 288 #[.map (some ah)] o λr w=>∃b,r= .func (.func 313) #[] #[aa b]/\C o [] [J b #[.map (some ah)] 285] w:=by
 have a:Own [] o:=C.start o;refine a6 func288 (bJ 2 a j j (λaC w a=>aq 3 j (gI j j j j ?_)));exact an 1 j j ⟨aC,j,a⟩
theorem D5{aC ah:Nat}{I:Obj}{m:List (Int×Value)}(hm:cf bG I m):Iter prog 313 #[aa aC] [J aC #[.map (some ah)] 285,[(ah,I)]] (λ_ _=>True) (λ_=>True) (λk:Int=> #[bG k]) (oh m) (λxs=>xs.Perm (m.map Prod.fst)):=by
 intro l X ac ae o d f _ _ E Z U;show Calls _ _ #[fC l,aa aC] o _;obtain⟨q,B⟩:∃q,q=au ([[(aC,Obj.cells #[.map (some ah)] 285 (0,0))],[(ah,I)]]++ae):=⟨_,j⟩;have d:C o q (J aC #[.map (some ah)] 285::[(ah,I)]::ae) o:=B▸d;rw [<-B];have R:(m.map Prod.fst).Nodup:=hm.nodup (P:=prog) (cX:=3);refine a6 func313 (ar 2 j (ax (C.aj d) j) (oZ hm (d.here (ah,I) (by simp)) (C.start _) j j j (λr it w s k=>?_)));have T:o.heap.size<=r:=by have L:=k.own r (by simp [au]);have Y:=d.size;simp at L;omega
 have f:=E _ _ _ _ [] f k.bare (by simp);have d:=d.aO k
 refine dj 1 j (cU:=List Int×List (List Chunk)×Obj) (λi=>[(0,fC l),(1,aa aC),(5,aa r)])
  (λi w=>lL bG ah I m i.1 i.2.2/\i.1.Nodup/\(∀k∈i.1,k∈m.map Prod.fst)/\X i.1 i.2.1 w/\C o q ([(r,i.2.2)]::J aC #[.map (some ah)] 285::[(ah,I)]::i.2.1) w) (λi=>m.length-i.1.length) ([],ae,it) ⟨j,j,j,bb⟩ ⟨s,by simp,by simp,f,d⟩ ?_
 rintro⟨pre,af,it⟩ w ⟨s,t,u,f,d⟩;dsimp only at s t u f d⊢;refine aq 2 j (oY s (λa c h=>by cases h;rfl) (d.here (ah,I) (by simp)) d.h7 j j j (λM=>?_) (λk v A w N z F G=>?_))
 .exact an 4 j j ⟨af,d.drop,.inl ⟨pre,p5 R t u (λk ad=>by obtain⟨p,S,rfl⟩:=ee.1 ad;exact M p S),f⟩⟩
 have Q:r∉au af:=fq (fq d.i3);have f:=E _ _ _ _ [r] f G.bare (by intro b n;simp at n;subst n;exact⟨T,Q⟩);have d:=d.gT G;refine aq 7 j (oS F (λa c h=>by cases h;rfl) (d.here (ah,I) (by simp)) (C.f1 (C.f1 d)) j j j (λv2 ab=>?_));have y:k∈m.map Prod.fst:=ee.2 ⟨_,N,j⟩;have O:pre.length<m.length:=by have:=sub_lt t u y z;simpa using this
 have V:=U pre k af _ ⟨y,z,O⟩ f (C.i8 (H:=[[(r,A)],J aC #[.map (some ah)] 285,[(ah,I)]]) d);refine aq 6 j (jD j j j j V (λb w⟨aB,W,n⟩=>?_));have d:=C.iZ (H:=[[(r,A)],J aC #[.map (some ah)] 285,[(ah,I)]]) d W;refine bo 1 j j (λK=>?_) (λK=>?_)
 .refine an 0 j j ?_;have x:b=false:=by cases b<;>simp_all
  subst x;exact⟨aB,d.drop,.inr (by simpa using n)⟩
 refine bW 1 j ?_;have x:b=true:=by cases b<;>simp_all
 subst x;refine⟨(pre++[k],aB,A),⟨j,j,j,bb⟩,⟨F,?_,?_,by simpa using n,d⟩,by dsimp only;simp only [List.length_append,List.length_cons,List.length_nil];omega⟩
 .exact iX.2 ⟨t,by simp,by intro a g c D;simp at D;subst D;exact λe=>z (e▸g)⟩
 intro a g;rcases fL.1 g with g|g
 .exact u a g
 simp at g;subst g;exact y
theorem Ck{o:World}{ah:Nat}{I:Obj}{m:List (Int×Value)}(hm:cf bG I m)(c:o.heap[ah]? =some I):Calls prog 316 #[.map (some ah)] o λr w=>∃b,r= .map (some b)/\C o [] [[(b,I)]] w:=by
 have a:Own [] o:=C.start o;refine a6 func316 (aq 7 j (oT j j j j ?_));refine aq 5 j (oW (by intro ms h;cases h) j j j ?_);exact oX hm c a j j j (λb w a=>oQ (by intro ms h;cases h) j j j (an 1 j j ⟨b,j,a⟩))
theorem D3{o:World}{ah:Nat}:Calls prog 317 #[.map (some ah)] o λr w=>∃b,r= .func (.func 331) #[] #[aa b]/\C o [] [J b #[.map (some ah)] 326] w:=by
 have a:Own [] o:=C.start o;refine a6 func317 (bJ 2 a j j (λaC w a=>aq 3 j (gI j j j j ?_)));exact an 1 j j ⟨aC,j,a⟩
theorem D4{aC ah:Nat}{I:Obj}{m:List (Int×Value)}(hm:cf bG I m):Iter prog 331 #[aa aC] [J aC #[.map (some ah)] 326,[(ah,I)]] (λ_ _=>True) (λ_=>True) (λk:Int=> #[bG k]) (oh m) (λxs=>xs.Perm (m.map Prod.fst)):=by
 intro l X ac ae o d f _ _ E Z U;show Calls _ _ #[fC l,aa aC] o _;obtain⟨q,B⟩:∃q,q=au ([[(aC,Obj.cells #[.map (some ah)] 326 (0,0))],[(ah,I)]]++ae):=⟨_,j⟩;have d:C o q (J aC #[.map (some ah)] 326::[(ah,I)]::ae) o:=B▸d;rw [<-B];have R:(m.map Prod.fst).Nodup:=hm.nodup (P:=prog) (cX:=3);refine a6 func331 (ar 2 j (ax (C.aj d) j) (oZ hm (d.here (ah,I) (by simp)) (C.start _) j j j (λr it w s k=>?_)));have T:o.heap.size<=r:=by have L:=k.own r (by simp [au]);have Y:=d.size;simp at L;omega
 have f:=E _ _ _ _ [] f k.bare (by simp);have d:=d.aO k
 refine dj 1 j (cU:=List Int×List (List Chunk)×Obj) (λi=>[(0,fC l),(1,aa aC),(5,aa r)])
  (λi w=>lL bG ah I m i.1 i.2.2/\i.1.Nodup/\(∀k∈i.1,k∈m.map Prod.fst)/\X i.1 i.2.1 w/\C o q ([(r,i.2.2)]::J aC #[.map (some ah)] 326::[(ah,I)]::i.2.1) w) (λi=>m.length-i.1.length) ([],ae,it) ⟨j,j,j,bb⟩ ⟨s,by simp,by simp,f,d⟩ ?_
 rintro⟨pre,af,it⟩ w ⟨s,t,u,f,d⟩;dsimp only at s t u f d⊢;refine aq 2 j (oY s (λa c h=>by cases h;rfl) (d.here (ah,I) (by simp)) d.h7 j j j (λM=>?_) (λk v A w N z F G=>?_))
 .exact an 4 j j ⟨af,d.drop,.inl ⟨pre,p5 R t u (λk ad=>by obtain⟨p,S,rfl⟩:=ee.1 ad;exact M p S),f⟩⟩
 have Q:r∉au af:=fq (fq d.i3);have f:=E _ _ _ _ [r] f G.bare (by intro b n;simp at n;subst n;exact⟨T,Q⟩);have d:=d.gT G;refine aq 7 j (oS F (λa c h=>by cases h;rfl) (d.here (ah,I) (by simp)) (C.f1 (C.f1 d)) j j j (λv2 ab=>?_));have y:k∈m.map Prod.fst:=ee.2 ⟨_,N,j⟩;have O:pre.length<m.length:=by have:=sub_lt t u y z;simpa using this
 have V:=U pre k af _ ⟨y,z,O⟩ f (C.i8 (H:=[[(r,A)],J aC #[.map (some ah)] 326,[(ah,I)]]) d);refine aq 6 j (jD j j j j V (λb w⟨aB,W,n⟩=>?_));have d:=C.iZ (H:=[[(r,A)],J aC #[.map (some ah)] 326,[(ah,I)]]) d W;refine bo 1 j j (λK=>?_) (λK=>?_)
 .refine an 0 j j ?_;have x:b=false:=by cases b<;>simp_all
  subst x;exact⟨aB,d.drop,.inr (by simpa using n)⟩
 refine bW 1 j ?_;have x:b=true:=by cases b<;>simp_all
 subst x;refine⟨(pre++[k],aB,A),⟨j,j,j,bb⟩,⟨F,?_,?_,by simpa using n,d⟩,by dsimp only;simp only [List.length_append,List.length_cons,List.length_nil];omega⟩
 .exact iX.2 ⟨t,by simp,by intro a g c D;simp at D;subst D;exact λe=>z (e▸g)⟩
 intro a g;rcases fL.1 g with g|g
 .exact u a g
 simp at g;subst g;exact y
theorem Cm{o:World}{ah:Nat}{I:Obj}{m:List (Int×Value)}(hm:cf bG I m)(c:o.heap[ah]? =some I):Calls prog 322 #[.map (some ah)] o λr w=>∃b,r= .map (some b)/\C o [] [[(b,I)]] w:=by
 have a:Own [] o:=C.start o;refine a6 func322 (aq 7 j (oT j j j j ?_));refine aq 5 j (oW (by intro ms h;cases h) j j j ?_);exact oX hm c a j j j (λb w a=>oQ (by intro ms h;cases h) j j j (an 1 j j ⟨b,j,a⟩))
theorem Ea{o:World}{ah:Nat}:Calls prog 323 #[.map (some ah)] o λr w=>∃b,r= .func (.func 334) #[] #[aa b]/\C o [] [J b #[.map (some ah)] 288] w:=by
 have a:Own [] o:=C.start o;refine a6 func323 (bJ 2 a j j (λaC w a=>aq 3 j (gI j j j j ?_)));exact an 1 j j ⟨aC,j,a⟩
theorem D6{aC ah:Nat}{I:Obj}{m:List (Int×Value)}(hm:cf bG I m):Iter prog 334 #[aa aC] [J aC #[.map (some ah)] 288,[(ah,I)]] (λ_ _=>True) (λ_=>True) (λk:Int=> #[bG k]) (oh m) (λxs=>xs.Perm (m.map Prod.fst)):=by
 intro l X ac ae o d f _ _ E Z U;show Calls _ _ #[fC l,aa aC] o _;obtain⟨q,B⟩:∃q,q=au ([[(aC,Obj.cells #[.map (some ah)] 288 (0,0))],[(ah,I)]]++ae):=⟨_,j⟩;have d:C o q (J aC #[.map (some ah)] 288::[(ah,I)]::ae) o:=B▸d;rw [<-B];have R:(m.map Prod.fst).Nodup:=hm.nodup (P:=prog) (cX:=3);refine a6 func334 (ar 2 j (ax (C.aj d) j) (oZ hm (d.here (ah,I) (by simp)) (C.start _) j j j (λr it w s k=>?_)));have T:o.heap.size<=r:=by have L:=k.own r (by simp [au]);have Y:=d.size;simp at L;omega
 have f:=E _ _ _ _ [] f k.bare (by simp);have d:=d.aO k
 refine dj 1 j (cU:=List Int×List (List Chunk)×Obj) (λi=>[(0,fC l),(1,aa aC),(5,aa r)])
  (λi w=>lL bG ah I m i.1 i.2.2/\i.1.Nodup/\(∀k∈i.1,k∈m.map Prod.fst)/\X i.1 i.2.1 w/\C o q ([(r,i.2.2)]::J aC #[.map (some ah)] 288::[(ah,I)]::i.2.1) w) (λi=>m.length-i.1.length) ([],ae,it) ⟨j,j,j,bb⟩ ⟨s,by simp,by simp,f,d⟩ ?_
 rintro⟨pre,af,it⟩ w ⟨s,t,u,f,d⟩;dsimp only at s t u f d⊢;refine aq 2 j (oY s (λa c h=>by cases h;rfl) (d.here (ah,I) (by simp)) d.h7 j j j (λM=>?_) (λk v A w N z F G=>?_))
 .exact an 4 j j ⟨af,d.drop,.inl ⟨pre,p5 R t u (λk ad=>by obtain⟨p,S,rfl⟩:=ee.1 ad;exact M p S),f⟩⟩
 have Q:r∉au af:=fq (fq d.i3);have f:=E _ _ _ _ [r] f G.bare (by intro b n;simp at n;subst n;exact⟨T,Q⟩);have d:=d.gT G;refine aq 7 j (oS F (λa c h=>by cases h;rfl) (d.here (ah,I) (by simp)) (C.f1 (C.f1 d)) j j j (λv2 ab=>?_));have y:k∈m.map Prod.fst:=ee.2 ⟨_,N,j⟩;have O:pre.length<m.length:=by have:=sub_lt t u y z;simpa using this
 have V:=U pre k af _ ⟨y,z,O⟩ f (C.i8 (H:=[[(r,A)],J aC #[.map (some ah)] 288,[(ah,I)]]) d);refine aq 6 j (jD j j j j V (λb w⟨aB,W,n⟩=>?_));have d:=C.iZ (H:=[[(r,A)],J aC #[.map (some ah)] 288,[(ah,I)]]) d W;refine bo 1 j j (λK=>?_) (λK=>?_)
 .refine an 0 j j ?_;have x:b=false:=by cases b<;>simp_all
  subst x;exact⟨aB,d.drop,.inr (by simpa using n)⟩
 refine bW 1 j ?_;have x:b=true:=by cases b<;>simp_all
 subst x;refine⟨(pre++[k],aB,A),⟨j,j,j,bb⟩,⟨F,?_,?_,by simpa using n,d⟩,by dsimp only;simp only [List.length_append,List.length_cons,List.length_nil];omega⟩
 .exact iX.2 ⟨t,by simp,by intro a g c D;simp at D;subst D;exact λe=>z (e▸g)⟩
 intro a g;rcases fL.1 g with g|g
 .exact u a g
 simp at g;subst g;exact y
end Go.Proofs.YtmholjbhjcpkhaaGreatDoor.R
namespace Go.Proofs.YtmholjbhjcpkhaaGreatDoor.R
open Go.Proofs.Tryz Go Go.RowKit Go.Proofs
open Go.Sort
abbrev jx(jz:List Int):List Int:=jz.mergeSort λx y=>decide (x<=y)
theorem D2{w:World}{g n:Nat}{os:Array Obj}{cur:Array Value}{e:TypeId}{a:Nat×Nat}(d:Array Int)(b:w.heap[g]? =some (.cells cur e a)):cV w (grow (putRow (Value.int .i64) (Sort.ahead w n) g 0 d) os):=
 cV.grown b λk ad c=>(grownBy_sortedI (w:=w) (n:=n) (os:=os) (g:=g) d).block k ad (by simpa using λh=>c h)
theorem zB{o:World}{v:Value}{jz:List Int}{ak:List Chunk}(a:Own [ak] o)(k:Row 3 1 v jz.length (jz.map bG) ak)(t:jz.length<=1000000000):Calls prog 250 #[v] o λr w=>r= .tuple #[]/\∃f,Row 3 1 v jz.length ((jx jz).map bG) f/\C o (au [ak]) [f] w:=by
 obtain⟨s,h⟩:=k;rcases h with⟨rfl,aT,rfl⟩|⟨g,cap,cur,rfl,rfl,l,hm,m,p⟩
 .have q:jz=[]:=lP aT;subst q;have d:=AnyM.slices_Sort_int_none sm none 0 o;refine li (callsIn_wide.2 d) λe aJ⟨he,hw⟩=>?_
  subst hw;exact⟨cV.refl _,_,he,j,[],⟨by simp,.inl ⟨j,j,j⟩⟩,a⟩
 .have b:=a.first;have i:Holds (Value.int .i64) o g 0 jz.toArray:=holds_of_blockI b (by simpa using p);have d:=AnyM.slices_Sort_int sm g 0 cap jz o i (a.n7 (c:=(g,.cells cur 3 (0,0))) (by simp)) (by omega);refine li (callsIn_wide.2 d) λe aJ⟨he,n,os,hw⟩=>?_
  subst hw;have hlen:(jx jz).length=jz.length:=hN _;refine⟨D2 _ b,_,he,j,J g (putCells (Value.int .i64) 0 (jx jz).toArray cur) 3,⟨by simp [hlen],.inr ⟨g,cap,_,j,j,l,hm,by simpa [putCells] using m,?_⟩⟩,?_⟩
  .have:=take_putCellsI cur (jx jz) (by omega);rw [hlen] at this;simpa using this
  .exact a.grown (grownBy_sortedI _) (heap_sortedI _ b)
end Go.Proofs.YtmholjbhjcpkhaaGreatDoor.R
namespace Go.Proofs.YtmholjbhjcpkhaaGreatDoor.R
open Go.Proofs.Tryz Go Go.RowKit Go.Proofs
theorem GN{xs dh:List Int}(h:xs.Perm dh):jx xs=jx dh:=by
 have le:∀a b:Int,decide (a<=b)=true↔a<=b:=λa b=>decide_eq_true_iff
 have d:=te (le:=λx y:Int=>decide (x<=y)) (by intro a b c;simp only [le];omega) (by intro a b;simp only [n1,le];omega) xs;have e:=te (le:=λx y:Int=>decide (x<=y)) (by intro a b c;simp only [le];omega) (by intro a b;simp only [n1,le];omega) dh;exact List.Perm.eq_of_pairwise (λa b _ _ d e=>by simp only [le] at d e;omega) d e (((o6 xs _).trans h).trans (o6 dh _).symm)
abbrev dp(m:List (Int×Value)):List (Int×Value):=m.mergeSort λa b=>decide (a.1<=b.1)
theorem qq(m:List (Int×Value)):(dp m).map Prod.fst=jx (m.map Prod.fst):=tf (λ_ _ _ _=>rfl)
theorem h8(m:List (Int×Value)):(dp m).length=m.length:=hN _
theorem nD{m:List (Int×Value)}{q:Int×Value}:q∈dp m↔q∈m:=g7
theorem mS:∀{m:List (Int×Value)}{q:Int×Value},(m.map Prod.fst).Nodup->q∈m->aV m q.1=some q.2
 |(R,v)::r,q,aT,a=>by
  have b:=lT.1 (by simpa using aT:(R::r.map Prod.fst).Nodup);rcases hD.1 a with rfl|a
  .simp [aV]
  .have:R≠q.1:=λe=>b.1 (by rw [e];exact ee.2 ⟨q,a,j⟩)
   simp only [aV,this,km];exact mS b.2 a
theorem qp{α:Type}{l:List α}{i:Nat}(h:i<l.length):l.take (i+1)=l.take i++[l[i]]:=by rw [List.take_add_one];simp [h]
theorem qn{α:Type}{l:List α}{i:Nat}(h:i<l.length):∃r,l=l.take i++l[i]::r:=⟨l.drop (i+1),by rw [<-jF h,ne]⟩
abbrev oC(m:List (Int×Value))(pre:List (Int×Value))(q:Int×Value):Prop:=∃r,dp m=pre++q::r
theorem Bx{c:FuncId}{be:Array Value}[Entry prog c]{H:List (List Chunk)}{A:List Int->Int->Prop}{S:List Int->Prop}{o:World}(s:Iter prog c be H (λ_ _=>True) (λ_=>True) (λk:Int=> #[bG k]) A S)(i:∀pre x,A pre x->pre.length<1000000)(b:Own H o):Calls prog 285 #[.slice none 0 0,.func (.func c) #[] be] o λr w=>∃xs ak,S xs/\Row 3 1 r xs.length (xs.map bG) ak/\C o (au H) (H++[ak]) w:=by
 refine jH func285 ?_;refine bJ 2 b j j (λaS w b=>?_);have b:C o (au H) (H++[J aS #[.slice none 0 0] 27,[]]) w:=(b.empty.f1).swap (A:=[_,_])
 refine jM 6 j s j (by have:=b.size;simpa using this) b j (λ_=>rfl) (by intro p f;simp at f;subst f;rfl)
  (λpre ae=>∃v ak,ae=[J aS #[v] 27,ak]/\Row 3 1 v pre.length (pre.map bG) ak) (λ_ _=>False) ⟨_,_,j,Row.nil 3 1⟩ (λ_ _ _=>trivial) (λ_ _ _ _=>trivial) ?_ ?_ (λ_ _ h=>h.elim) (λ_ _ _ h=>h.elim)
 .rintro l pre x u L B m ⟨v,ak,rfl,d⟩ b;have hlen:=i pre x m;refine bH 2 j ?_;refine⟨j,_,C.gg b,λL w b=>?_⟩;have b:=C.gg b;refine ar 2 j (ax (C.aj b) j) ?_;refine aq 1 j (fx b j j j j j j bO (λz w b=>?_));have aT:=b.bQ;refine e6 b.f2 d j j (by decide) j j j (news:=[bG x]) j aT (by simp [Value.oneCell']) (by omega) (by unfold maxLen;omega) (λv1 g w e b=>?_);have b:=b.f2;refine cO b j j j e.one (by simp) (λw b=>?_);have b:C _ _ (J aS #[v1] 27::_) w:=b;refine bH 0 j ?_;refine⟨_,b.ks,v1,g,j,?_⟩;simpa using e
 rintro xs y w n ⟨v,ak,rfl,d⟩ b;have b:=b.swap;refine ar 2 j (ax (C.aj b) j) ?_;refine bH 1 j ⟨v,λw t=>?_⟩;have b:=t.st b (cF _);refine⟨λa q=>iP (fn:=f285) q j _ _,?_⟩;exact⟨xs,ak,n,d,b.drop.swap (A:=[ak])⟩
theorem Cq{a:FuncId}{be:Array Value}[Entry prog a]{H:List (List Chunk)}{A:List Int->Int->Prop}{S:List Int->Prop}{o:World}(e:Iter prog a be H (λ_ _=>True) (λ_=>True) (λk:Int=> #[bG k]) A S)(b:∀pre x,A pre x->pre.length<1000000)(c:Own H o):Calls prog 256 #[.func (.func a) #[] be] o λr w=>∃xs ak,S xs/\Row 3 1 r xs.length (xs.map bG) ak/\C o (au H) (H++[ak]) w:=by
 refine a6 func256 ?_;have d:=Bx e b c;exact bk 6 d j (λr w f=>an 1 j j f)
theorem qm{b:FuncId}{be:Array Value}[Entry prog b]{H:List (List Chunk)}{o:World}{m:List (Int×Value)}(i:Iter prog b be H (λ_ _=>True) (λ_=>True) (λk:Int=> #[bG k]) (oh m) (λxs=>xs.Perm (m.map Prod.fst)))(n:m.length<=1000000)(a:Own H o):Calls prog 220 #[.func (.func b) #[] be] o λr w=>∃ak,Row 3 1 r m.length ((jx (m.map Prod.fst)).map bG) ak/\C o (au H) (H++[ak]) w:=by
 refine a6 func220 ?_;have c:=Cq i (λpre x h=>by have:=h.2.2;omega) a;refine bk 6 c j (λr w⟨xs,ak,d,f,a⟩=>?_);have l:xs.length=m.length:=by have:=d.length_eq;simpa using this
 have c:=zB (C.i8 a) f (by omega);refine bk 4 c j (λp w⟨_,e,g,ad⟩=>?_);have a:=C.iZ a ad;refine an 4 j j (⟨e,?_,a⟩);rw [<-l,<-GN d];exact g
theorem Bh{o:World}{k:Value}:Calls prog 176 #[k] o λr w=>r= .bool true/\w=o:=by
 refine a6 func176 ?_;refine an 6 j j ?_;exact⟨j,j⟩
theorem FX{o:World}{p:Option Addr}{u:Value}(c:u.cells= #[u]):Calls prog 175 #[.pointer p,u] o λr w=>∃aC aS,r= .func (.func 218) #[] #[aa aC,aa aS]/\C o [] [J aC #[.pointer p] 74,J aS #[u] 52] w:=by
 have a:Own [] o:=C.start o;refine a6 func175 (bJ 2 a j j (λaS w a=>bJ 0 a j j (λb w a=>aq 3 j (gI j j j j ?_))));refine an 1 j j (⟨aS,b,j,?_⟩);rw [c] at a;exact a.f1
theorem Bk{o:World}{p:Option Addr}:Calls prog 123 #[.pointer p] o λr w=>∃aC aS,r= .func (.func 218) #[] #[aa aC,aa aS]/\C o [] [J aC #[.pointer p] 74,[(aS,.cells #[.func (.func 176) #[] #[]] 52 (0,0))]] w:=by
 refine a6 func123 ?_;have a:=FX (o:=o) (p:=p) (u:=.func (.func 176) #[] #[]) j;exact bk 6 a j (λr w b=>an 1 j j b)
theorem FT{aC aS:Nat}{p:Option Addr}{m:List (Int×Value)}(U:m.length<=1000000):Iter prog 218 #[aa aC,aa aS] [J aC #[.pointer p] 74,[(aS,.cells #[.func (.func 176) #[] #[]] 52 (0,0))]] (λ_ w=>dI 235 w p m) (λ_=>True) (λq:Int×Value=> #[bG q.1,q.2]) (oC m) (λxs=>xs=dp m):=by
 intro l ao aA ae o a c Q _ y ay ac;show Calls _ _ #[fC l,aa aC,aa aS] o _;obtain⟨h,A⟩:∃h,h=au ([J aC #[.pointer p] 74,[(aS,.cells #[.func (.func 176) #[] #[]] 52 (0,0))]]++ae):=⟨_,j⟩;have a:C o h (J aC #[.pointer p] 74::[(aS,.cells #[.func (.func 176) #[] #[]] 52 (0,0))]::ae) o:=A▸a;rw [<-A];have D:=Q;refine a6 func218 (ar 3 j (ax (C.aj a) j) (bo 1 j j (λeQ=>?_) (λeQ=>?_)))
 .refine an 0 j j ?_;obtain⟨rfl,rfl⟩:=D.i4 eQ;exact⟨ae,a,.inl ⟨[],(by show []=dp [];simp),c⟩⟩
 obtain⟨am,ah,I,rfl,f,X,hm⟩:=D.i7 eQ;have W:(m.map Prod.fst).Nodup:=hm.nodup (P:=prog) (cX:=3);refine ar 3 j (ax (C.aj a) j) (ar 2 j (cell_of f j) ?_);have g:=Cn hm X;refine bk 0 g j (λr w⟨d,s,ad⟩=>?_);subst s;have c:=y _ _ _ _ [] c ad.bare (by simp);have a:=a.aO ad;have F:=ad;have g:=Eb (o:=w) (ah:=d);refine bk 4 g j (λr w⟨n,s,ad⟩=>?_);subst s;have c:=y _ _ _ _ [] c ad.bare (by simp);have a:=a.aO ad
 have E:o.heap.size<=n/\o.heap.size<=d:=by
  have M:=ad.own n (by simp [au]);have N:=F.own d (by simp [au]);have av:=F.size;simp at M N;omega
 have g:=qm (D7 (aC:=n) (ah:=d) hm) U a.cH;refine bk 0 g j (λr w⟨ak,B,ad⟩=>?_);have G:n∉au ae/\d∉au ae:=⟨fq (fq (fq a.i3)),fq (fq a.drop.i3)⟩;have c:=y _ _ _ _ [n,d] c ad.bare (by intro b f;simp at f;rcases f with rfl|rfl<;>first|exact⟨E.1,G.1⟩|exact⟨E.2,G.2⟩);have a:=a.cG ad;have a:C o h (J aC #[aa am] 74::[(aS,.cells #[.func (.func 176) #[] #[]] 52 (0,0))]::[(d,I)]::ak::ae) w:=a.drop.f2.f3.f1;obtain⟨K,gW,rfl,_,_,_,_⟩:=B.rd a.f3
 refine dj 3 j (cU:=Nat×List (List Chunk)) (λi=>[(0,fC l),(2,aa aS),(4,.map (some d)),(16,.slice K m.length gW),(17,.int .i64 (m.length:Nat)),(18,.int .i64 (i.1:Nat))])
  (λi w=>i.1<=m.length/\ao ((dp m).take i.1) i.2 w/\C o h (J aC #[aa am] 74::[(aS,.cells #[.func (.func 176) #[] #[]] 52 (0,0))]::[(d,I)]::ak::i.2) w) (λi=>m.length-i.1) (0,ae) ⟨j,j,j,j,j,j,bb⟩ ⟨cp _,by simpa using c,a⟩ ?_
 rintro⟨i,af⟩ w ⟨R,c,a⟩;dsimp only at R c a⊢;refine cy 4 j j (λL=>?_) (λL=>?_)
 .have z:i<m.length:=by omega
  have t:i<(dp m).length:=by rw [h8];exact z
  obtain⟨_,_,e,_,_,Y,_⟩:=B.rd a.f3;cases e
  have T:((jx (m.map Prod.fst)).map bG)[i]? =some (bG (dp m)[i].1):=by
   rw [<-qq,gR,gR,cr t];rfl
  refine aq 5 j (fJ j j j j Y (v:=bG (dp m)[i].1) (by simpa using T) z (λap O aw=>?_));subst O;refine ar 0 j (by assumption) (ar 3 j (a.f1.cell j) ?_);have g:=Bh (o:=w) (k:=bG (dp m)[i].1);refine aq 1 j (hx j j j j g (λr az⟨s,hw⟩=>?_));subst s;subst hw;refine aq 1 j (bY 25 (.bool true) j (aK Value.bool (j)) ?_);have V:aV m (dp m)[i].1=some (dp m)[i].2:=mS W (nD.1 (eB t));refine aq 4 j (oV hm (a.f2.first) j j j j ?_);refine bY 30 ((dp m)[i].2) j (by rw [V];rfl) ?_;obtain⟨al,Z⟩:=qn t;have ag:=ac ((dp m).take i) (dp m)[i] af _ ⟨al,Z⟩ c (C.i8 (H:=[J aC #[aa am] 74,[(aS,.cells #[.func (.func 176) #[] #[]] 52 (0,0))],[(d,I)],ak]) a);refine jD j j j j ag (λb w⟨aB,ai,f⟩=>?_);have a:=C.iZ (H:=[J aC #[aa am] 74,[(aS,.cells #[.func (.func 176) #[] #[]] 52 (0,0))],[(d,I)],ak]) a ai;refine bo 2 j j (λu=>?_) (λu=>?_)
  .refine an 0 j j ?_;have x:b=false:=by cases b<;>first|rfl|exact absurd u (by decide)
   subst x;exact⟨aB,a.f3.drop.f2.drop,.inr (by simpa using f)⟩
  refine bE 2 j j j (dn i (by omega)) (bW 1 j ?_);have x:b=true:=by cases b<;>first|rfl|exact absurd u (by decide)
  subst x;refine⟨(i+1,aB),⟨j,j,j,j,j,j,bb⟩,⟨z,?_,a⟩,by dsimp only;omega⟩;dsimp only;rw [qp t];simpa using f
 refine an 1 j j ?_;have S:i=m.length:=by omega
 subst S;have ab:(dp m).take m.length=dp m:=by rw [<-h8 m,gm]
 rw [ab] at c;exact⟨af,a.f3.drop.f2.drop,.inl ⟨_,j,c⟩⟩
theorem Bi{o:World}{k:Value}:Calls prog 196 #[k] o λr w=>r= .bool true/\w=o:=by
 refine a6 func196 ?_;refine an 6 j j ?_;exact⟨j,j⟩
theorem FY{o:World}{p:Option Addr}{u:Value}(c:u.cells= #[u]):Calls prog 195 #[.pointer p,u] o λr w=>∃aC aS,r= .func (.func 245) #[] #[aa aC,aa aS]/\C o [] [J aC #[.pointer p] 157,J aS #[u] 52] w:=by
 have a:Own [] o:=C.start o;refine a6 func195 (bJ 2 a j j (λaS w a=>bJ 0 a j j (λb w a=>aq 3 j (gI j j j j ?_))));refine an 1 j j (⟨aS,b,j,?_⟩);rw [c] at a;exact a.f1
theorem Bl{o:World}{p:Option Addr}:Calls prog 154 #[.pointer p] o λr w=>∃aC aS,r= .func (.func 245) #[] #[aa aC,aa aS]/\C o [] [J aC #[.pointer p] 157,[(aS,.cells #[.func (.func 196) #[] #[]] 52 (0,0))]] w:=by
 refine a6 func154 ?_;have a:=FY (o:=o) (p:=p) (u:=.func (.func 196) #[] #[]) j;exact bk 6 a j (λr w b=>an 1 j j b)
theorem FU{aC aS:Nat}{p:Option Addr}{m:List (Int×Value)}(U:m.length<=1000000):Iter prog 245 #[aa aC,aa aS] [J aC #[.pointer p] 157,[(aS,.cells #[.func (.func 196) #[] #[]] 52 (0,0))]] (λ_ w=>dI 267 w p m) (λ_=>True) (λq:Int×Value=> #[bG q.1,q.2]) (oC m) (λxs=>xs=dp m):=by
 intro l ao aA ae o a c Q _ y ay ac;show Calls _ _ #[fC l,aa aC,aa aS] o _;obtain⟨h,A⟩:∃h,h=au ([J aC #[.pointer p] 157,[(aS,.cells #[.func (.func 196) #[] #[]] 52 (0,0))]]++ae):=⟨_,j⟩;have a:C o h (J aC #[.pointer p] 157::[(aS,.cells #[.func (.func 196) #[] #[]] 52 (0,0))]::ae) o:=A▸a;rw [<-A];have D:=Q;refine a6 func245 (ar 3 j (ax (C.aj a) j) (bo 1 j j (λeQ=>?_) (λeQ=>?_)))
 .refine an 0 j j ?_;obtain⟨rfl,rfl⟩:=D.i4 eQ;exact⟨ae,a,.inl ⟨[],(by show []=dp [];simp),c⟩⟩
 obtain⟨am,ah,I,rfl,f,X,hm⟩:=D.i7 eQ;have W:(m.map Prod.fst).Nodup:=hm.nodup (P:=prog) (cX:=3);refine ar 3 j (ax (C.aj a) j) (ar 2 j (cell_of f j) ?_);have g:=Co hm X;refine bk 0 g j (λr w⟨d,s,ad⟩=>?_);subst s;have c:=y _ _ _ _ [] c ad.bare (by simp);have a:=a.aO ad;have F:=ad;have g:=Ec (o:=w) (ah:=d);refine bk 4 g j (λr w⟨n,s,ad⟩=>?_);subst s;have c:=y _ _ _ _ [] c ad.bare (by simp);have a:=a.aO ad
 have E:o.heap.size<=n/\o.heap.size<=d:=by
  have M:=ad.own n (by simp [au]);have N:=F.own d (by simp [au]);have av:=F.size;simp at M N;omega
 have g:=qm (D8 (aC:=n) (ah:=d) hm) U a.cH;refine bk 0 g j (λr w⟨ak,B,ad⟩=>?_);have G:n∉au ae/\d∉au ae:=⟨fq (fq (fq a.i3)),fq (fq a.drop.i3)⟩;have c:=y _ _ _ _ [n,d] c ad.bare (by intro b f;simp at f;rcases f with rfl|rfl<;>first|exact⟨E.1,G.1⟩|exact⟨E.2,G.2⟩);have a:=a.cG ad;have a:C o h (J aC #[aa am] 157::[(aS,.cells #[.func (.func 196) #[] #[]] 52 (0,0))]::[(d,I)]::ak::ae) w:=a.drop.f2.f3.f1;obtain⟨K,gW,rfl,_,_,_,_⟩:=B.rd a.f3
 refine dj 3 j (cU:=Nat×List (List Chunk)) (λi=>[(0,fC l),(2,aa aS),(4,.map (some d)),(16,.slice K m.length gW),(17,.int .i64 (m.length:Nat)),(18,.int .i64 (i.1:Nat))])
  (λi w=>i.1<=m.length/\ao ((dp m).take i.1) i.2 w/\C o h (J aC #[aa am] 157::[(aS,.cells #[.func (.func 196) #[] #[]] 52 (0,0))]::[(d,I)]::ak::i.2) w) (λi=>m.length-i.1) (0,ae) ⟨j,j,j,j,j,j,bb⟩ ⟨cp _,by simpa using c,a⟩ ?_
 rintro⟨i,af⟩ w ⟨R,c,a⟩;dsimp only at R c a⊢;refine cy 4 j j (λL=>?_) (λL=>?_)
 .have z:i<m.length:=by omega
  have t:i<(dp m).length:=by rw [h8];exact z
  obtain⟨_,_,e,_,_,Y,_⟩:=B.rd a.f3;cases e
  have T:((jx (m.map Prod.fst)).map bG)[i]? =some (bG (dp m)[i].1):=by
   rw [<-qq,gR,gR,cr t];rfl
  refine aq 5 j (fJ j j j j Y (v:=bG (dp m)[i].1) (by simpa using T) z (λap O aw=>?_));subst O;refine ar 0 j (by assumption) (ar 3 j (a.f1.cell j) ?_);have g:=Bi (o:=w) (k:=bG (dp m)[i].1);refine aq 1 j (hx j j j j g (λr az⟨s,hw⟩=>?_));subst s;subst hw;refine aq 1 j (bY 25 (.bool true) j (aK Value.bool (j)) ?_);have V:aV m (dp m)[i].1=some (dp m)[i].2:=mS W (nD.1 (eB t));refine aq 4 j (oV hm (a.f2.first) j j j j ?_);refine bY 30 ((dp m)[i].2) j (by rw [V];rfl) ?_;obtain⟨al,Z⟩:=qn t;have ag:=ac ((dp m).take i) (dp m)[i] af _ ⟨al,Z⟩ c (C.i8 (H:=[J aC #[aa am] 157,[(aS,.cells #[.func (.func 196) #[] #[]] 52 (0,0))],[(d,I)],ak]) a);refine jD j j j j ag (λb w⟨aB,ai,f⟩=>?_);have a:=C.iZ (H:=[J aC #[aa am] 157,[(aS,.cells #[.func (.func 196) #[] #[]] 52 (0,0))],[(d,I)],ak]) a ai;refine bo 2 j j (λu=>?_) (λu=>?_)
  .refine an 0 j j ?_;have x:b=false:=by cases b<;>first|rfl|exact absurd u (by decide)
   subst x;exact⟨aB,a.f3.drop.f2.drop,.inr (by simpa using f)⟩
  refine bE 2 j j j (dn i (by omega)) (bW 1 j ?_);have x:b=true:=by cases b<;>first|rfl|exact absurd u (by decide)
  subst x;refine⟨(i+1,aB),⟨j,j,j,j,j,j,bb⟩,⟨z,?_,a⟩,by dsimp only;omega⟩;dsimp only;rw [qp t];simpa using f
 refine an 1 j j ?_;have S:i=m.length:=by omega
 subst S;have ab:(dp m).take m.length=dp m:=by rw [<-h8 m,gm]
 rw [ab] at c;exact⟨af,a.f3.drop.f2.drop,.inl ⟨_,j,c⟩⟩
theorem Bf{o:World}{k:Value}:Calls prog 259 #[k] o λr w=>r= .bool true/\w=o:=by
 refine a6 func259 ?_;refine an 6 j j ?_;exact⟨j,j⟩
theorem FV{o:World}{p:Option Addr}{u:Value}(c:u.cells= #[u]):Calls prog 258 #[.pointer p,u] o λr w=>∃aC aS,r= .func (.func 286) #[] #[aa aC,aa aS]/\C o [] [J aC #[.pointer p] 129,J aS #[u] 52] w:=by
 have a:Own [] o:=C.start o;refine a6 func258 (bJ 2 a j j (λaS w a=>bJ 0 a j j (λb w a=>aq 3 j (gI j j j j ?_))));refine an 1 j j (⟨aS,b,j,?_⟩);rw [c] at a;exact a.f1
theorem wf{o:World}{p:Option Addr}:Calls prog 223 #[.pointer p] o λr w=>∃aC aS,r= .func (.func 286) #[] #[aa aC,aa aS]/\C o [] [J aC #[.pointer p] 129,[(aS,.cells #[.func (.func 259) #[] #[]] 52 (0,0))]] w:=by
 refine a6 func223 ?_;have a:=FV (o:=o) (p:=p) (u:=.func (.func 259) #[] #[]) j;exact bk 6 a j (λr w b=>an 1 j j b)
theorem za{aC aS:Nat}{p:Option Addr}{m:List (Int×Value)}(U:m.length<=1000000):Iter prog 286 #[aa aC,aa aS] [J aC #[.pointer p] 129,[(aS,.cells #[.func (.func 259) #[] #[]] 52 (0,0))]] (λ_ w=>dI 287 w p m) (λ_=>True) (λq:Int×Value=> #[bG q.1,q.2]) (oC m) (λxs=>xs=dp m):=by
 intro l ao aA ae o a c Q _ y ay ac;show Calls _ _ #[fC l,aa aC,aa aS] o _;obtain⟨h,A⟩:∃h,h=au ([J aC #[.pointer p] 129,[(aS,.cells #[.func (.func 259) #[] #[]] 52 (0,0))]]++ae):=⟨_,j⟩;have a:C o h (J aC #[.pointer p] 129::[(aS,.cells #[.func (.func 259) #[] #[]] 52 (0,0))]::ae) o:=A▸a;rw [<-A];have D:=Q;refine a6 func286 (ar 3 j (ax (C.aj a) j) (bo 1 j j (λeQ=>?_) (λeQ=>?_)))
 .refine an 0 j j ?_;obtain⟨rfl,rfl⟩:=D.i4 eQ;exact⟨ae,a,.inl ⟨[],(by show []=dp [];simp),c⟩⟩
 obtain⟨am,ah,I,rfl,f,X,hm⟩:=D.i7 eQ;have W:(m.map Prod.fst).Nodup:=hm.nodup (P:=prog) (cX:=3);refine ar 3 j (ax (C.aj a) j) (ar 2 j (cell_of f j) ?_);have g:=Cl hm X;refine bk 0 g j (λr w⟨d,s,ad⟩=>?_);subst s;have c:=y _ _ _ _ [] c ad.bare (by simp);have a:=a.aO ad;have F:=ad;have g:=D9 (o:=w) (ah:=d);refine bk 4 g j (λr w⟨n,s,ad⟩=>?_);subst s;have c:=y _ _ _ _ [] c ad.bare (by simp);have a:=a.aO ad
 have E:o.heap.size<=n/\o.heap.size<=d:=by
  have M:=ad.own n (by simp [au]);have N:=F.own d (by simp [au]);have av:=F.size;simp at M N;omega
 have g:=qm (D5 (aC:=n) (ah:=d) hm) U a.cH;refine bk 0 g j (λr w⟨ak,B,ad⟩=>?_);have G:n∉au ae/\d∉au ae:=⟨fq (fq (fq a.i3)),fq (fq a.drop.i3)⟩;have c:=y _ _ _ _ [n,d] c ad.bare (by intro b f;simp at f;rcases f with rfl|rfl<;>first|exact⟨E.1,G.1⟩|exact⟨E.2,G.2⟩);have a:=a.cG ad;have a:C o h (J aC #[aa am] 129::[(aS,.cells #[.func (.func 259) #[] #[]] 52 (0,0))]::[(d,I)]::ak::ae) w:=a.drop.f2.f3.f1;obtain⟨K,gW,rfl,_,_,_,_⟩:=B.rd a.f3
 refine dj 3 j (cU:=Nat×List (List Chunk)) (λi=>[(0,fC l),(2,aa aS),(4,.map (some d)),(16,.slice K m.length gW),(17,.int .i64 (m.length:Nat)),(18,.int .i64 (i.1:Nat))])
  (λi w=>i.1<=m.length/\ao ((dp m).take i.1) i.2 w/\C o h (J aC #[aa am] 129::[(aS,.cells #[.func (.func 259) #[] #[]] 52 (0,0))]::[(d,I)]::ak::i.2) w) (λi=>m.length-i.1) (0,ae) ⟨j,j,j,j,j,j,bb⟩ ⟨cp _,by simpa using c,a⟩ ?_
 rintro⟨i,af⟩ w ⟨R,c,a⟩;dsimp only at R c a⊢;refine cy 4 j j (λL=>?_) (λL=>?_)
 .have z:i<m.length:=by omega
  have t:i<(dp m).length:=by rw [h8];exact z
  obtain⟨_,_,e,_,_,Y,_⟩:=B.rd a.f3;cases e
  have T:((jx (m.map Prod.fst)).map bG)[i]? =some (bG (dp m)[i].1):=by
   rw [<-qq,gR,gR,cr t];rfl
  refine aq 5 j (fJ j j j j Y (v:=bG (dp m)[i].1) (by simpa using T) z (λap O aw=>?_));subst O;refine ar 0 j (by assumption) (ar 3 j (a.f1.cell j) ?_);have g:=Bf (o:=w) (k:=bG (dp m)[i].1);refine aq 1 j (hx j j j j g (λr az⟨s,hw⟩=>?_));subst s;subst hw;refine aq 1 j (bY 25 (.bool true) j (aK Value.bool (j)) ?_);have V:aV m (dp m)[i].1=some (dp m)[i].2:=mS W (nD.1 (eB t));refine aq 4 j (oV hm (a.f2.first) j j j j ?_);refine bY 30 ((dp m)[i].2) j (by rw [V];rfl) ?_;obtain⟨al,Z⟩:=qn t;have ag:=ac ((dp m).take i) (dp m)[i] af _ ⟨al,Z⟩ c (C.i8 (H:=[J aC #[aa am] 129,[(aS,.cells #[.func (.func 259) #[] #[]] 52 (0,0))],[(d,I)],ak]) a);refine jD j j j j ag (λb w⟨aB,ai,f⟩=>?_);have a:=C.iZ (H:=[J aC #[aa am] 129,[(aS,.cells #[.func (.func 259) #[] #[]] 52 (0,0))],[(d,I)],ak]) a ai;refine bo 2 j j (λu=>?_) (λu=>?_)
  .refine an 0 j j ?_;have x:b=false:=by cases b<;>first|rfl|exact absurd u (by decide)
   subst x;exact⟨aB,a.f3.drop.f2.drop,.inr (by simpa using f)⟩
  refine bE 2 j j j (dn i (by omega)) (bW 1 j ?_);have x:b=true:=by cases b<;>first|rfl|exact absurd u (by decide)
  subst x;refine⟨(i+1,aB),⟨j,j,j,j,j,j,bb⟩,⟨z,?_,a⟩,by dsimp only;omega⟩;dsimp only;rw [qp t];simpa using f
 refine an 1 j j ?_;have S:i=m.length:=by omega
 subst S;have ab:(dp m).take m.length=dp m:=by rw [<-h8 m,gm]
 rw [ab] at c;exact⟨af,a.f3.drop.f2.drop,.inl ⟨_,j,c⟩⟩
theorem Be{o:World}{k:Value}:Calls prog 292 #[k] o λr w=>r= .bool true/\w=o:=by
 refine a6 func292 ?_;refine an 6 j j ?_;exact⟨j,j⟩
theorem FR{o:World}{p:Option Addr}{u:Value}(c:u.cells= #[u]):Calls prog 291 #[.pointer p,u] o λr w=>∃aC aS,r= .func (.func 315) #[] #[aa aC,aa aS]/\C o [] [J aC #[.pointer p] 279,J aS #[u] 52] w:=by
 have a:Own [] o:=C.start o;refine a6 func291 (bJ 2 a j j (λaS w a=>bJ 0 a j j (λb w a=>aq 3 j (gI j j j j ?_))));refine an 1 j j (⟨aS,b,j,?_⟩);rw [c] at a;exact a.f1
theorem Bj{o:World}{p:Option Addr}:Calls prog 264 #[.pointer p] o λr w=>∃aC aS,r= .func (.func 315) #[] #[aa aC,aa aS]/\C o [] [J aC #[.pointer p] 279,[(aS,.cells #[.func (.func 292) #[] #[]] 52 (0,0))]] w:=by
 refine a6 func264 ?_;have a:=FR (o:=o) (p:=p) (u:=.func (.func 292) #[] #[]) j;exact bk 6 a j (λr w b=>an 1 j j b)
theorem FS{aC aS:Nat}{p:Option Addr}{m:List (Int×Value)}(U:m.length<=1000000):Iter prog 315 #[aa aC,aa aS] [J aC #[.pointer p] 279,[(aS,.cells #[.func (.func 292) #[] #[]] 52 (0,0))]] (λ_ w=>dI 328 w p m) (λ_=>True) (λq:Int×Value=> #[bG q.1,q.2]) (oC m) (λxs=>xs=dp m):=by
 intro l ao aA ae o a c Q _ y ay ac;show Calls _ _ #[fC l,aa aC,aa aS] o _;obtain⟨h,A⟩:∃h,h=au ([J aC #[.pointer p] 279,[(aS,.cells #[.func (.func 292) #[] #[]] 52 (0,0))]]++ae):=⟨_,j⟩;have a:C o h (J aC #[.pointer p] 279::[(aS,.cells #[.func (.func 292) #[] #[]] 52 (0,0))]::ae) o:=A▸a;rw [<-A];have D:=Q;refine a6 func315 (ar 3 j (ax (C.aj a) j) (bo 1 j j (λeQ=>?_) (λeQ=>?_)))
 .refine an 0 j j ?_;obtain⟨rfl,rfl⟩:=D.i4 eQ;exact⟨ae,a,.inl ⟨[],(by show []=dp [];simp),c⟩⟩
 obtain⟨am,ah,I,rfl,f,X,hm⟩:=D.i7 eQ;have W:(m.map Prod.fst).Nodup:=hm.nodup (P:=prog) (cX:=3);refine ar 3 j (ax (C.aj a) j) (ar 2 j (cell_of f j) ?_);have g:=Ck hm X;refine bk 0 g j (λr w⟨d,s,ad⟩=>?_);subst s;have c:=y _ _ _ _ [] c ad.bare (by simp);have a:=a.aO ad;have F:=ad;have g:=D3 (o:=w) (ah:=d);refine bk 4 g j (λr w⟨n,s,ad⟩=>?_);subst s;have c:=y _ _ _ _ [] c ad.bare (by simp);have a:=a.aO ad
 have E:o.heap.size<=n/\o.heap.size<=d:=by
  have M:=ad.own n (by simp [au]);have N:=F.own d (by simp [au]);have av:=F.size;simp at M N;omega
 have g:=qm (D4 (aC:=n) (ah:=d) hm) U a.cH;refine bk 0 g j (λr w⟨ak,B,ad⟩=>?_);have G:n∉au ae/\d∉au ae:=⟨fq (fq (fq a.i3)),fq (fq a.drop.i3)⟩;have c:=y _ _ _ _ [n,d] c ad.bare (by intro b f;simp at f;rcases f with rfl|rfl<;>first|exact⟨E.1,G.1⟩|exact⟨E.2,G.2⟩);have a:=a.cG ad;have a:C o h (J aC #[aa am] 279::[(aS,.cells #[.func (.func 292) #[] #[]] 52 (0,0))]::[(d,I)]::ak::ae) w:=a.drop.f2.f3.f1;obtain⟨K,gW,rfl,_,_,_,_⟩:=B.rd a.f3
 refine dj 3 j (cU:=Nat×List (List Chunk)) (λi=>[(0,fC l),(2,aa aS),(4,.map (some d)),(16,.slice K m.length gW),(17,.int .i64 (m.length:Nat)),(18,.int .i64 (i.1:Nat))])
  (λi w=>i.1<=m.length/\ao ((dp m).take i.1) i.2 w/\C o h (J aC #[aa am] 279::[(aS,.cells #[.func (.func 292) #[] #[]] 52 (0,0))]::[(d,I)]::ak::i.2) w) (λi=>m.length-i.1) (0,ae) ⟨j,j,j,j,j,j,bb⟩ ⟨cp _,by simpa using c,a⟩ ?_
 rintro⟨i,af⟩ w ⟨R,c,a⟩;dsimp only at R c a⊢;refine cy 4 j j (λL=>?_) (λL=>?_)
 .have z:i<m.length:=by omega
  have t:i<(dp m).length:=by rw [h8];exact z
  obtain⟨_,_,e,_,_,Y,_⟩:=B.rd a.f3;cases e
  have T:((jx (m.map Prod.fst)).map bG)[i]? =some (bG (dp m)[i].1):=by
   rw [<-qq,gR,gR,cr t];rfl
  refine aq 5 j (fJ j j j j Y (v:=bG (dp m)[i].1) (by simpa using T) z (λap O aw=>?_));subst O;refine ar 0 j (by assumption) (ar 3 j (a.f1.cell j) ?_);have g:=Be (o:=w) (k:=bG (dp m)[i].1);refine aq 1 j (hx j j j j g (λr az⟨s,hw⟩=>?_));subst s;subst hw;refine aq 1 j (bY 25 (.bool true) j (aK Value.bool (j)) ?_);have V:aV m (dp m)[i].1=some (dp m)[i].2:=mS W (nD.1 (eB t));refine aq 4 j (oV hm (a.f2.first) j j j j ?_);refine bY 30 ((dp m)[i].2) j (by rw [V];rfl) ?_;obtain⟨al,Z⟩:=qn t;have ag:=ac ((dp m).take i) (dp m)[i] af _ ⟨al,Z⟩ c (C.i8 (H:=[J aC #[aa am] 279,[(aS,.cells #[.func (.func 292) #[] #[]] 52 (0,0))],[(d,I)],ak]) a);refine jD j j j j ag (λb w⟨aB,ai,f⟩=>?_);have a:=C.iZ (H:=[J aC #[aa am] 279,[(aS,.cells #[.func (.func 292) #[] #[]] 52 (0,0))],[(d,I)],ak]) a ai;refine bo 2 j j (λu=>?_) (λu=>?_)
  .refine an 0 j j ?_;have x:b=false:=by cases b<;>first|rfl|exact absurd u (by decide)
   subst x;exact⟨aB,a.f3.drop.f2.drop,.inr (by simpa using f)⟩
  refine bE 2 j j j (dn i (by omega)) (bW 1 j ?_);have x:b=true:=by cases b<;>first|rfl|exact absurd u (by decide)
  subst x;refine⟨(i+1,aB),⟨j,j,j,j,j,j,bb⟩,⟨z,?_,a⟩,by dsimp only;omega⟩;dsimp only;rw [qp t];simpa using f
 refine an 1 j j ?_;have S:i=m.length:=by omega
 subst S;have ab:(dp m).take m.length=dp m:=by rw [<-h8 m,gm]
 rw [ab] at c;exact⟨af,a.f3.drop.f2.drop,.inl ⟨_,j,c⟩⟩
theorem Bg{o:World}{k:Value}:Calls prog 300 #[k] o λr w=>r= .bool true/\w=o:=by
 refine a6 func300 ?_;refine an 6 j j ?_;exact⟨j,j⟩
theorem FW{o:World}{p:Option Addr}{u:Value}(c:u.cells= #[u]):Calls prog 299 #[.pointer p,u] o λr w=>∃aC aS,r= .func (.func 321) #[] #[aa aC,aa aS]/\C o [] [J aC #[.pointer p] 216,J aS #[u] 52] w:=by
 have a:Own [] o:=C.start o;refine a6 func299 (bJ 2 a j j (λaS w a=>bJ 0 a j j (λb w a=>aq 3 j (gI j j j j ?_))));refine an 1 j j (⟨aS,b,j,?_⟩);rw [c] at a;exact a.f1
theorem wg{o:World}{p:Option Addr}:Calls prog 274 #[.pointer p] o λr w=>∃aC aS,r= .func (.func 321) #[] #[aa aC,aa aS]/\C o [] [J aC #[.pointer p] 216,[(aS,.cells #[.func (.func 300) #[] #[]] 52 (0,0))]] w:=by
 refine a6 func274 ?_;have a:=FW (o:=o) (p:=p) (u:=.func (.func 300) #[] #[]) j;exact bk 6 a j (λr w b=>an 1 j j b)
theorem zb{aC aS:Nat}{p:Option Addr}{m:List (Int×Value)}(U:m.length<=1000000):Iter prog 321 #[aa aC,aa aS] [J aC #[.pointer p] 216,[(aS,.cells #[.func (.func 300) #[] #[]] 52 (0,0))]] (λ_ w=>dI 290 w p m) (λ_=>True) (λq:Int×Value=> #[bG q.1,q.2]) (oC m) (λxs=>xs=dp m):=by
 intro l ao aA ae o a c Q _ y ay ac;show Calls _ _ #[fC l,aa aC,aa aS] o _;obtain⟨h,A⟩:∃h,h=au ([J aC #[.pointer p] 216,[(aS,.cells #[.func (.func 300) #[] #[]] 52 (0,0))]]++ae):=⟨_,j⟩;have a:C o h (J aC #[.pointer p] 216::[(aS,.cells #[.func (.func 300) #[] #[]] 52 (0,0))]::ae) o:=A▸a;rw [<-A];have D:=Q;refine a6 func321 (ar 3 j (ax (C.aj a) j) (bo 1 j j (λeQ=>?_) (λeQ=>?_)))
 .refine an 0 j j ?_;obtain⟨rfl,rfl⟩:=D.i4 eQ;exact⟨ae,a,.inl ⟨[],(by show []=dp [];simp),c⟩⟩
 obtain⟨am,ah,I,rfl,f,X,hm⟩:=D.i7 eQ;have W:(m.map Prod.fst).Nodup:=hm.nodup (P:=prog) (cX:=3);refine ar 3 j (ax (C.aj a) j) (ar 2 j (cell_of f j) ?_);have g:=Cm hm X;refine bk 0 g j (λr w⟨d,s,ad⟩=>?_);subst s;have c:=y _ _ _ _ [] c ad.bare (by simp);have a:=a.aO ad;have F:=ad;have g:=Ea (o:=w) (ah:=d);refine bk 4 g j (λr w⟨n,s,ad⟩=>?_);subst s;have c:=y _ _ _ _ [] c ad.bare (by simp);have a:=a.aO ad
 have E:o.heap.size<=n/\o.heap.size<=d:=by
  have M:=ad.own n (by simp [au]);have N:=F.own d (by simp [au]);have av:=F.size;simp at M N;omega
 have g:=qm (D6 (aC:=n) (ah:=d) hm) U a.cH;refine bk 0 g j (λr w⟨ak,B,ad⟩=>?_);have G:n∉au ae/\d∉au ae:=⟨fq (fq (fq a.i3)),fq (fq a.drop.i3)⟩;have c:=y _ _ _ _ [n,d] c ad.bare (by intro b f;simp at f;rcases f with rfl|rfl<;>first|exact⟨E.1,G.1⟩|exact⟨E.2,G.2⟩);have a:=a.cG ad;have a:C o h (J aC #[aa am] 216::[(aS,.cells #[.func (.func 300) #[] #[]] 52 (0,0))]::[(d,I)]::ak::ae) w:=a.drop.f2.f3.f1;obtain⟨K,gW,rfl,_,_,_,_⟩:=B.rd a.f3
 refine dj 3 j (cU:=Nat×List (List Chunk)) (λi=>[(0,fC l),(2,aa aS),(4,.map (some d)),(16,.slice K m.length gW),(17,.int .i64 (m.length:Nat)),(18,.int .i64 (i.1:Nat))])
  (λi w=>i.1<=m.length/\ao ((dp m).take i.1) i.2 w/\C o h (J aC #[aa am] 216::[(aS,.cells #[.func (.func 300) #[] #[]] 52 (0,0))]::[(d,I)]::ak::i.2) w) (λi=>m.length-i.1) (0,ae) ⟨j,j,j,j,j,j,bb⟩ ⟨cp _,by simpa using c,a⟩ ?_
 rintro⟨i,af⟩ w ⟨R,c,a⟩;dsimp only at R c a⊢;refine cy 4 j j (λL=>?_) (λL=>?_)
 .have z:i<m.length:=by omega
  have t:i<(dp m).length:=by rw [h8];exact z
  obtain⟨_,_,e,_,_,Y,_⟩:=B.rd a.f3;cases e
  have T:((jx (m.map Prod.fst)).map bG)[i]? =some (bG (dp m)[i].1):=by
   rw [<-qq,gR,gR,cr t];rfl
  refine aq 5 j (fJ j j j j Y (v:=bG (dp m)[i].1) (by simpa using T) z (λap O aw=>?_));subst O;refine ar 0 j (by assumption) (ar 3 j (a.f1.cell j) ?_);have g:=Bg (o:=w) (k:=bG (dp m)[i].1);refine aq 1 j (hx j j j j g (λr az⟨s,hw⟩=>?_));subst s;subst hw;refine aq 1 j (bY 25 (.bool true) j (aK Value.bool (j)) ?_);have V:aV m (dp m)[i].1=some (dp m)[i].2:=mS W (nD.1 (eB t));refine aq 4 j (oV hm (a.f2.first) j j j j ?_);refine bY 30 ((dp m)[i].2) j (by rw [V];rfl) ?_;obtain⟨al,Z⟩:=qn t;have ag:=ac ((dp m).take i) (dp m)[i] af _ ⟨al,Z⟩ c (C.i8 (H:=[J aC #[aa am] 216,[(aS,.cells #[.func (.func 300) #[] #[]] 52 (0,0))],[(d,I)],ak]) a);refine jD j j j j ag (λb w⟨aB,ai,f⟩=>?_);have a:=C.iZ (H:=[J aC #[aa am] 216,[(aS,.cells #[.func (.func 300) #[] #[]] 52 (0,0))],[(d,I)],ak]) a ai;refine bo 2 j j (λu=>?_) (λu=>?_)
  .refine an 0 j j ?_;have x:b=false:=by cases b<;>first|rfl|exact absurd u (by decide)
   subst x;exact⟨aB,a.f3.drop.f2.drop,.inr (by simpa using f)⟩
  refine bE 2 j j j (dn i (by omega)) (bW 1 j ?_);have x:b=true:=by cases b<;>first|rfl|exact absurd u (by decide)
  subst x;refine⟨(i+1,aB),⟨j,j,j,j,j,j,bb⟩,⟨z,?_,a⟩,by dsimp only;omega⟩;dsimp only;rw [qp t];simpa using f
 refine an 1 j j ?_;have S:i=m.length:=by omega
 subst S;have ab:(dp m).take m.length=dp m:=by rw [<-h8 m,gm]
 rw [ab] at c;exact⟨af,a.f3.drop.f2.drop,.inl ⟨_,j,c⟩⟩
theorem Ep{l:List UInt8}(h:l.length=32):l=[l.getD 0 0,l.getD 1 0,l.getD 2 0,l.getD 3 0,l.getD 4 0,l.getD 5 0,l.getD 6 0,l.getD 7 0,l.getD 8 0,l.getD 9 0,l.getD 10 0,l.getD 11 0,l.getD 12 0,l.getD 13 0,l.getD 14 0,l.getD 15 0,l.getD 16 0,l.getD 17 0,l.getD 18 0,l.getD 19 0,l.getD 20 0,l.getD 21 0,l.getD 22 0,l.getD 23 0,l.getD 24 0,l.getD 25 0,l.getD 26 0,l.getD 27 0,l.getD 28 0,l.getD 29 0,l.getD 30 0,l.getD 31 0]:=by
 apply nN;intro i
 match i with
 |0=>rw [cr (show 0<l.length by omega)];simp [List.getD,cr (show 0<l.length by omega)]
 |1=>rw [cr (show 1<l.length by omega)];simp [List.getD,cr (show 1<l.length by omega)]
 |2=>rw [cr (show 2<l.length by omega)];simp [List.getD,cr (show 2<l.length by omega)]
 |3=>rw [cr (show 3<l.length by omega)];simp [List.getD,cr (show 3<l.length by omega)]
 |4=>rw [cr (show 4<l.length by omega)];simp [List.getD,cr (show 4<l.length by omega)]
 |5=>rw [cr (show 5<l.length by omega)];simp [List.getD,cr (show 5<l.length by omega)]
 |6=>rw [cr (show 6<l.length by omega)];simp [List.getD,cr (show 6<l.length by omega)]
 |7=>rw [cr (show 7<l.length by omega)];simp [List.getD,cr (show 7<l.length by omega)]
 |8=>rw [cr (show 8<l.length by omega)];simp [List.getD,cr (show 8<l.length by omega)]
 |9=>rw [cr (show 9<l.length by omega)];simp [List.getD,cr (show 9<l.length by omega)]
 |10=>rw [cr (show 10<l.length by omega)];simp [List.getD,cr (show 10<l.length by omega)]
 |11=>rw [cr (show 11<l.length by omega)];simp [List.getD,cr (show 11<l.length by omega)]
 |12=>rw [cr (show 12<l.length by omega)];simp [List.getD,cr (show 12<l.length by omega)]
 |13=>rw [cr (show 13<l.length by omega)];simp [List.getD,cr (show 13<l.length by omega)]
 |14=>rw [cr (show 14<l.length by omega)];simp [List.getD,cr (show 14<l.length by omega)]
 |15=>rw [cr (show 15<l.length by omega)];simp [List.getD,cr (show 15<l.length by omega)]
 |16=>rw [cr (show 16<l.length by omega)];simp [List.getD,cr (show 16<l.length by omega)]
 |17=>rw [cr (show 17<l.length by omega)];simp [List.getD,cr (show 17<l.length by omega)]
 |18=>rw [cr (show 18<l.length by omega)];simp [List.getD,cr (show 18<l.length by omega)]
 |19=>rw [cr (show 19<l.length by omega)];simp [List.getD,cr (show 19<l.length by omega)]
 |20=>rw [cr (show 20<l.length by omega)];simp [List.getD,cr (show 20<l.length by omega)]
 |21=>rw [cr (show 21<l.length by omega)];simp [List.getD,cr (show 21<l.length by omega)]
 |22=>rw [cr (show 22<l.length by omega)];simp [List.getD,cr (show 22<l.length by omega)]
 |23=>rw [cr (show 23<l.length by omega)];simp [List.getD,cr (show 23<l.length by omega)]
 |24=>rw [cr (show 24<l.length by omega)];simp [List.getD,cr (show 24<l.length by omega)]
 |25=>rw [cr (show 25<l.length by omega)];simp [List.getD,cr (show 25<l.length by omega)]
 |26=>rw [cr (show 26<l.length by omega)];simp [List.getD,cr (show 26<l.length by omega)]
 |27=>rw [cr (show 27<l.length by omega)];simp [List.getD,cr (show 27<l.length by omega)]
 |28=>rw [cr (show 28<l.length by omega)];simp [List.getD,cr (show 28<l.length by omega)]
 |29=>rw [cr (show 29<l.length by omega)];simp [List.getD,cr (show 29<l.length by omega)]
 |30=>rw [cr (show 30<l.length by omega)];simp [List.getD,cr (show 30<l.length by omega)]
 |31=>rw [cr (show 31<l.length by omega)];simp [List.getD,cr (show 31<l.length by omega)]
 |i+32=>rw [lh (by omega),lh (by simp)]
theorem C.f9{o w:World}{F:List Nat}{ae:List (List Chunk)}{b:Nat}{c a:Array Value}{e:TypeId}{e0:Nat×Nat}(h:C o F ([(b,.cells c e e0)]::ae) w)(d:c=a):C o F ([(b,.cells a e e0)]::ae) w:=d▸h
def cT(g:al)(k s v:Int)(sum:List UInt8)(f:Int):aN:=⟨k,s,v,sum,f,g.ct f (aN.lC ⟨k,s,v,sum,f,cD⟩)⟩
theorem jm(g:al)(k s v:Int)(sum:List UInt8)(f:Int)(h:sum.length=32):(cT g k s v sum f).ok:=⟨h,al.ei _ _ _⟩
def dF(g:al)(x:aN):Bool:=g.check x.f x.lC x.tag
theorem zs(x:aN)(h:x.ok):x.lC.length<=100:=by
 have a:=gb [5,x.k,x.s,x.v];have b:=gb [x.f];simp only [aN.lC,cj,h.1];simp only [ex,fW] at a b;omega
theorem aN.Hr(x:aN)(d:x.ok)(t:List UInt8)(c:t.length=32):setCells x.cs.toArray 36 (aP t)=({x with tag:=t}:aN).cs.toArray:=by
 apply q9;intro i;have g:x.cs.length=68:=x.len d;have j:x.cs=(ab x.k::ab x.s::ab x.v::(aP x.sum++[ab x.f]))++aP x.tag:=by simp [aN.cs]
 have h:({x with tag:=t}:aN).cs=(ab x.k::ab x.s::ab x.v::(aP x.sum++[ab x.f]))++aP t:=by simp [aN.cs]
 have a:(ab x.k::ab x.s::ab x.v::(aP x.sum++[ab x.f])).length=36:=by simp [dx,d.1]
 rw [ov _ _ _ (by rw [dx,c,hl,g];decide)];simp only [mJ];rw [j,h,dx,c];by_cases b:36<=i/\i<36+32
 .rw [aR b,ko (by rw [a];exact b.1),a]
 .rw [az b];by_cases e:i<36
  .rw [jG (by rw [a];exact e),jG (by rw [a];exact e)]
  .rw [lh (by rw [cj,a,dx,d.2];omega),List.getElem?_eq_none (by rw [List.length_append,a,dx,c];omega)]
theorem n9{o:World}{g:al}(n:g.at o)(t:g.ok){k s v f:Int}{sum:List UInt8}(aF:sum.length=32):Calls prog 82 #[g.p,ab k,ab s,ab v,.agg (aP sum).toArray,ab f] o λr w=>r= .agg (cT g k s v sum f).cs.toArray/\C o [] [] w:=by
 have a:Own [] o:=C.start o;have b:(⟨k,s,v,sum,f,cD⟩:aN).ok:=⟨aF,j⟩;have x:(aP sum).length=32:=by rw [dx,aF]
 refine fj func82 ?_;refine bJ 2 a j j (λz w a=>?_);refine cx 0 a j (λA w a=>?_);refine bP 5 (U:=aP sum) j j x a.f1.bQ ?_;refine aq 1 j (cP (c:=(⟨k,s,v,sum,f,cD⟩:aN).cs.toArray) j j j (λ_=>by rw [Ep aF];kernel_rfl) ?_);refine cx 0 a j (λl w a=>?_);refine cv 0 a j j j (by simpa using(⟨k,s,v,sum,f,cD⟩:aN).one) (by rw [List.size_toArray];exact(⟨k,s,v,sum,f,cD⟩:aN).len b) (λw a=>?_);have a:=C.whole (U:=(⟨k,s,v,sum,f,cD⟩:aN).cs) a (by rw [(⟨k,s,v,sum,f,cD⟩:aN).len b];rfl);refine bP 4 (U:=(⟨k,s,v,sum,f,cD⟩:aN).cs) j j ((⟨k,s,v,sum,f,cD⟩:aN).len b) a.bQ ?_;have e:=z1 (o:=w) b;refine bk 0 e j (λr w⟨G,m,ad⟩=>?_);have a:=a.aO ad;obtain⟨y,gV,rfl,B,_,u,_⟩:=m.rd a;have e:=mX (n.st a (al.off.nil g)) t (i:=f) u (by have:=zs _ b;omega) (d:=gV);refine bk 0 e j (λr w⟨h,q⟩=>?_);have h:r= .agg (aP (cT g k s v sum f).tag).toArray:=h;subst h;have a:=(a.aO q).f1;refine aq 1 j (c6 a j j j (by simpa using gC (cT g k s v sum f).tag) (by rw [List.size_toArray,dx];exact(jm g k s v sum f aF).2) (by rw [List.size_toArray,(⟨k,s,v,sum,f,cD⟩:aN).len b];decide) (λw a=>?_));have a:=C.f9 a ((⟨k,s,v,sum,f,cD⟩:aN).Hr b (cT g k s v sum f).tag (jm g k s v sum f aF).2);have a:C o [] (J l (cT g k s v sum f).cs.toArray 115::_) w:=a;refine bP 2 (U:=(cT g k s v sum f).cs) j j ((cT g k s v sum f).len (jm g k s v sum f aF)) a.bQ ?_;have a:=a.f2;refine cv 0 a j j j (by simpa using(cT g k s v sum f).one) (by rw [List.size_toArray];exact(cT g k s v sum f).len (jm g k s v sum f aF)) (λw a=>?_);have a:=C.whole (U:=(cT g k s v sum f).cs) a (by rw [(cT g k s v sum f).len (jm g k s v sum f aF)];rfl);refine bH 0 j ⟨_,hW (U:=(cT g k s v sum f).cs) results82 j j ((cT g k s v sum f).len (jm g k s v sum f aF)) a.bQ,?_⟩;exact⟨j,a.bare⟩
theorem rO{o:World}{g:al}(e:g.at o)(h:g.ok){x:aN}(b:x.ok):Calls prog 152 #[g.p,.agg x.cs.toArray] o λr w=>r= .bool (dF g x)/\C o [] [] w:=by
 have a:Own [] o:=C.start o;refine a6 func152 (bJ 2 a j j (λc w a=>?_));have a:=a.drew;refine bx 2 j (λw=>∃ae,C o [] ([J c (x).cs.toArray 115]++ae) w) ⟨_,a⟩ (ag 0 2 j (b4 2 j (λw⟨_,a⟩=>a.cell (x.eN b)) (bl 3 j (λw⟨_,a⟩=>dd (U:=x.cs) j j (x.len b) a.bQ) (ag 5 1 j (bl 6 j (λw⟨_,a⟩=>dd (U:=aP x.tag) j j (by rw [dx];exact b.2) (a.i9 (off:=0+36) (U:=aP x.tag) (x.ru b))) (aX 4 j (cS j j j (z1 b) (λr w⟨G,d,ad⟩=>?_))))))));have a:=a.aO ad;obtain⟨k,gV,rfl,l,_,i,_⟩:=d.rd a;have a:=a.f1;refine ao ⟨⟨_,a⟩,?_⟩;refine aX 7 j (bK j j j (rn (e.st a (al.off.nil g)) h i (by have:=zs _ b;omega) b.2) (λw f=>?_));have a:=(a.aO f);refine ao ⟨⟨_,a⟩,?_⟩;exact ag 8 1 j (bL (an 0 j j ⟨j,a.bare⟩))
theorem DG{l:List Int}{k:Int}{i:Nat}(h:i=l.length)(aT:k∉l.take i):k∉l:=by subst h;rwa [gm] at aT
theorem DM{o:World}{B:Option Addr}{l:List Int}{c:Nat}{k:Int}(m:Rd o B (l.map bG))(s:l.length<=1000000):Calls prog 278 #[.slice B l.length c,bG k] o λr w=>(∃R:Int,r= .int .i64 R/\(0<=R↔k∈l))/\w=o:=by
 refine a6 func278 (dj 10 j (cU:=Nat) (λi=>[(0,.slice B l.length c),(1,bG k),(7,.int .i64 (l.length:Nat)),(8,.int .i64 (i:Nat))]) (λi w=>i<=l.length/\k∉l.take i/\w=o) (λi=>l.length-i) 0 ⟨j,j,j,j,bb⟩ ⟨cp _,by simp,j⟩ ?_);rintro i w ⟨q,aT,rfl⟩;refine cy 4 j j (λd=>?_) (λd=>?_)
 .have a:i<l.length:=by omega
  refine aq 12 j (fJ j j j j m (v:=bG l[i]) (by simp [a]) a (λn e p=>?_));subst e;refine ar 0 j (by assumption) (bo 1 j j (λb=>?_) (λb=>?_))
  .refine an 4 j j ?_;have he:k=l[i]:=ea.1 b;exact⟨⟨_,j,⟨λ_=>by rw [he];exact eB a,λ_=>by omega⟩⟩,j⟩
  refine bE 2 j j j (dn i (by omega)) (bW 1 j (⟨i+1,⟨j,j,j,j,bb⟩,⟨a,?_,j⟩,by omega⟩));rw [fK a,fL];have g:k≠l[i]:=by have:=fp.1 b;exact this
  simp [aT,g]
 refine an 4 j j ?_;have f:i=l.length:=by omega
 exact⟨⟨-1,j,⟨λh=>by omega,λh=>absurd h (DG f aT)⟩⟩,j⟩
theorem Cx{o:World}{B:Option Addr}{l:List Int}{c:Nat}{k:Int}(g:Rd o B (l.map bG))(f:l.length<=1000000):Calls prog 249 #[.slice B l.length c,bG k] o λr w=>r= .bool (decide (k∈l))/\w=o:=by
 refine a6 func249 ?_;have d:=DM (c:=c) (k:=k) g f;refine bk 7 d j (λr w⟨⟨R,e,a⟩,hw⟩=>?_);subst e;subst hw;refine an 2 j j (⟨aK Value.bool ?_,j⟩);by_cases h:k∈l
 .rw [hM h];exact hM (a.2 h)
 rw [e7 h];exact e7 (λb=>h (a.1 b))
structure Ext(g:al)(B:Option Addr)(U:List Value)(F:List Nat)(w:World):Prop where
 ring:g.at w
 rd:Rd w B U
 off:g.off F
 ap:cc B U F
theorem Ext.st{g:al}{B:Option Addr}{U:List Value}{F eJ:List Nat}{ae:List (List Chunk)}{w aJ:World}(h:Ext g B U F w)(c:C w eJ ae aJ)(a:∀b∈eJ,b∈F):Ext g B U F aJ:=
 ⟨h.ring.st c (h.off.sub a),c.rd h.rd (h.ap.sub a),h.off,h.ap⟩
theorem Ext.grow{g:al}{B:Option Addr}{U:List Value}{F eJ:List Nat}{w:World}(h:Ext g B U F w)(d:∀b∈eJ,b∈F\/w.heap.size<=b):Ext g B U eJ w:=by
 refine⟨h.ring,h.rd,⟨λc=>(d _ c).elim h.off.r (λf=>?_),λc=>(d _ c).elim h.off.k (λf=>?_)⟩,λi a e c=>(d _ c).elim (h.ap i a e) (λf=>?_)⟩
 .have:=(gq.1 h.ring.ring).1;omega
 .have:=(gq.1 h.ring.keys).1;omega
 .have:=h.rd.lt i e;omega
def iu(g:al)(kind slot view:Int)(sum:List UInt8)(x:aN):Bool:=x.k==kind&&(x.s==slot&&(x.v==view&&(x.sum==sum&&dF g x)))
def ir(g:al)(kind slot view:Int)(sum:List UInt8)(l:List aN)(i:Nat):List Int:=((l.take i).filter (iu g kind slot view sum)).map aN.f
theorem yH{g:al}{kind slot view:Int}{sum:List UInt8}{l:List aN}{i:Nat}(h:i<l.length)(a:iu g kind slot view sum l[i]=true):ir g kind slot view sum l (i+1)=ir g kind slot view sum l i++[l[i].f]:=by
 unfold ir;rw [fK h,mE,List.map_append];simp [a]
theorem u4{g:al}{kind slot view:Int}{sum:List UInt8}{l:List aN}{i:Nat}(h:i<l.length)(a:iu g kind slot view sum l[i]=false):ir g kind slot view sum l (i+1)=ir g kind slot view sum l i:=by
 unfold ir;rw [fK h,mE,List.map_append];simp [a]
theorem Fm{g:al}{kind slot view:Int}{sum:List UInt8}{l:List aN}{i n:Nat}(h:i<l.length)(aT:i<n)(d:iu g kind slot view sum l[i]=true):∃r,ir g kind slot view sum l n=ir g kind slot view sum l i++l[i].f::r:=by
 refine⟨(((l.take n).drop (i+1)).filter (iu g kind slot view sum)).map aN.f,?_⟩
 have e:l.take n=l.take (i+1)++(l.take n).drop (i+1):=by
  have b:(l.take n).take (i+1)=l.take (i+1):=by rw [List.take_take,mD (by omega)]
  rw [<-b,ne]
 have a:ir g kind slot view sum l n=ir g kind slot view sum l (i+1)++(((l.take n).drop (i+1)).filter (iu g kind slot view sum)).map aN.f:=by
  unfold ir;rw [e,mE,List.map_append];have c:(l.take (i+1)++(l.take n).drop (i+1)).drop (i+1)=(l.take n).drop (i+1):=by rw [<-e]
  rw [c]
 rw [a,yH h d,dS];rfl
theorem Fn{o:World}{g:al}{B:Option Addr}{l:List aN}{d:Nat}{kind slot view:Int}{sum:List UInt8}:Calls prog 248 #[g.p,.slice B l.length d,ab kind,ab slot,ab view,.agg (aP sum).toArray] o λr w=>∃e f h i b c,r= .func (.func 277) #[] #[aa f,aa h,aa i,aa b,aa c,aa e]/\C o [] [J f #[.slice B l.length d] 99,J h #[ab kind] 3,J i #[ab slot] 3,J b #[ab view] 3,J c (aP sum).toArray 80,J e #[g.p] 54] w:=by
 have a:Own [] o:=C.start o;refine a6 func248 (bJ 2 a j j (λe w a=>bJ 0 a j j (λf w a=>bJ 0 a j j (λh w a=>bJ 0 a j j (λi w a=>bJ 0 a j j (λb w a=>bJ 0 a j j (λc w a=>aq 3 j (gI j j j j ?_))))))));exact an 1 j j ⟨e,f,h,i,b,c,j,a.f1.f2.f3.f4⟩
theorem Fl{q s t u h m:Nat}{g:al}{B:Option Addr}{l:List aN}{d:Nat}{kind slot view:Int}{sum:List UInt8}(aj:g.ok)(R:∀x∈l,x.ok)(X:sum.length=32)(az:l.length<=d)(aC:l.length<=1000):Iter prog 277 #[aa s,aa t,aa u,aa h,aa m,aa q] [J s #[.slice B l.length d] 99,J t #[ab kind] 3,J u #[ab slot] 3,J h #[ab view] 3,J m (aP sum).toArray 80,J q #[g.p] 54] (λae w=>Ext g B (l.flatMap aN.cs) (au ([J s #[.slice B l.length d] 99,J t #[ab kind] 3,J u #[ab slot] 3,J h #[ab view] 3,J m (aP sum).toArray 80,J q #[g.p] 54]++ae)) w) (λ_=>True) (λk:Int=> #[bG k]) (λpre k=>∃r,ir g kind slot view sum l (min l.length 10)=pre++k::r) (λxs=>xs=ir g kind slot view sum l (min l.length 10)):=by
 intro y aw aD ae o a c P _ T aA am;show Calls _ _ #[fC y,aa s,aa t,aa u,aa h,aa m,aa q] o _;obtain⟨L,S⟩:∃L,L=au ([J s #[.slice B l.length d] 99,J t #[ab kind] 3,J u #[ab slot] 3,J h #[ab view] 3,J m (aP sum).toArray 80,J q #[g.p] 54]++ae):=⟨_,j⟩;rw [<-S] at P⊢;have a:C o L (J s #[.slice B l.length d] 99::J t #[ab kind] 3::J u #[ab slot] 3::J h #[ab view] 3::J m (aP sum).toArray 80::J q #[g.p] 54::ae) o:=S▸a;refine a6 func277 (ar 2 j (a.cell j) (ar 0 j (a.cell j) (aq 1 j (qL j j j ?_))));refine bY 13 (.int .i64 ((min l.length 10):Nat)) j (aK (Value.int .i64) (by show min (l.length:Int) 10=_;omega)) (qM (i:=(min l.length 10)) j j j j (by omega) ?_)
 refine dj 3 j (cU:=Nat×List (List Chunk)) (λi=>[(0,fC y),(1,aa s),(2,aa t),(3,aa u),(4,aa h),(5,aa m),(6,aa q),(14,.slice B (min l.length 10) d),(15,.int .i64 ((min l.length 10):Nat)),(16,.int .i64 (i.1:Nat))])
  (λi w=>i.1<=(min l.length 10)/\aw (ir g kind slot view sum l i.1) i.2 w/\C o L (J s #[.slice B l.length d] 99::J t #[ab kind] 3::J u #[ab slot] 3::J h #[ab view] 3::J m (aP sum).toArray 80::J q #[g.p] 54::i.2) w) (λi=>(min l.length 10)-i.1) (0,ae) ⟨j,j,j,j,j,j,j,j,j,j,bb⟩ ⟨cp _,c,a⟩ ?_
 rintro⟨i,af⟩ w ⟨ah,c,a⟩;dsimp only at ah c a⊢;refine cy 4 j j (λZ=>?_) (λZ=>?_)
 .have I:i<(min l.length 10):=by omega
  have z:i<l.length:=by omega
  have e:=R l[i] (eB z);have ad:=P.st a (λb G=>G);have W:=ad.rd;refine aq 5 j (fJ j j j j W (v:=ab l[i].k) (oF l R i z) I (λax ac ay=>?_));subst ac;refine bP 0 j j (l[i].len e) (oG W R i z) (cx 0 (C.start _) j (λbv w F=>cv 0 F j j j l[i].one (l[i].len e) (λw F=>?_)));have F:=C.whole (U:=l[i].cs) F (by rw [l[i].len e];rfl);have c:=T _ _ _ _ [] c F.bare (by simp);have a:=a.aO F;refine ar 3 j (a.cell l[i].gL) (ar 0 j (a.f2.cell j) (aq 2 j (c9 24 j (λA=>?_) (λA=>?_))))
  .refine ar 1 j (a.cell l[i].aH) (ar 0 j (a.f3.cell j) (aq 3 j (c9 30 j (λE=>?_) (λE=>?_))));refine ar 1 j (a.cell l[i].dy) (ar 0 j (a.f4.cell j) (aq 3 j (c9 36 j (λK=>?_) (λK=>?_))))
   .refine bP 1 (U:=aP l[i].sum) j j (by rw [dx];exact e.1) (a.i9 (off:=0+3) (U:=aP l[i].sum) (l[i].pB e)) (bP 0 (U:=aP sum) j j (by rw [dx];exact X) a.f5.bQ (vU j j j j (by kernel_rfl) (λw=>rE _ _ e.1 X 9998 w) (aq 2 j (c9 42 j (λM=>?_) (λM=>?_)))));refine ar 0 j (a.f6.cell j) (bP 0 (U:=l[i].cs) j j (l[i].len e) a.bQ ?_);have ag:=rO ((P.st a (λb G=>G)).ring) aj e;refine br 0 ag j (λw V=>?_);have c:=T _ _ _ _ [] c V (by simp);have a:=a.aO V;refine aq 2 j (c9 47 j (λN=>?_) (λN=>?_))
    .refine ar 2 j (a.cell (l[i].eN e)) ?_;have Y:iu g kind slot view sum l[i]=true:=by unfold iu;rw [A,E,K,M,N];rfl
     obtain⟨av,ak⟩:=Fm (n:=(min l.length 10)) z I Y;have ao:=am (ir g kind slot view sum l i) l[i].f af _ ⟨av,ak⟩ c (C.i8 (H:=[_,_,_,_,_,_,_]) a);refine jD j j j j ao (λb w⟨aB,ap,G⟩=>?_);have a:=C.iZ (H:=[_,_,_,_,_,_,_]) a ap;refine bo 2 j j (λO=>?_) (λO=>?_)
     .refine an 0 j j ?_;have Q:b=false:=by cases b<;>first|rfl|exact absurd O (by decide)
      subst Q;exact⟨aB,a.drop,.inr (by simpa using G)⟩
     refine bE 2 j j j (dn i (by omega)) (bW 1 j ?_);have Q:b=true:=by cases b<;>first|rfl|exact absurd O (by decide)
     subst Q;refine⟨(i+1,aB),⟨j,j,j,j,j,j,j,j,j,j,bb⟩,⟨I,?_,a.drop⟩,by dsimp only;omega⟩;dsimp only;rw [yH z Y];simpa using G
    refine bE 9 j j j (dn i (by omega)) (bW 1 j ?_);have D:iu g kind slot view sum l[i]=false:=by unfold iu;rw [A,E,K,M,N];rfl
    rotate_left
    refine bE 14 j j j (dn i (by omega)) (bW 1 j ?_);have D:iu g kind slot view sum l[i]=false:=by unfold iu;rw [A,E,K,M];rfl
    rotate_left
    all_goals
     refine⟨(i+1,af),⟨j,j,j,j,j,j,j,j,j,j,bb⟩,⟨I,?_,a.drop⟩,by dsimp only;omega⟩;dsimp only;rw [u4 z D];exact c
   refine bE 20 j j j (dn i (by omega)) (bW 1 j ?_);have D:iu g kind slot view sum l[i]=false:=by unfold iu;rw [A,E,K];rfl
   rotate_left
   refine bE 26 j j j (dn i (by omega)) (bW 1 j ?_);have D:iu g kind slot view sum l[i]=false:=by unfold iu;rw [A,E];rfl
   rotate_left
   all_goals
    refine⟨(i+1,af),⟨j,j,j,j,j,j,j,j,j,j,bb⟩,⟨I,?_,a.drop⟩,by dsimp only;omega⟩;dsimp only;rw [u4 z D];exact c
  refine bE 32 j j j (dn i (by omega)) (bW 1 j ?_);have D:iu g kind slot view sum l[i]=false:=by unfold iu;rw [A];rfl
  refine⟨(i+1,af),⟨j,j,j,j,j,j,j,j,j,j,bb⟩,⟨I,?_,a.drop⟩,by dsimp only;omega⟩;dsimp only;rw [u4 z D];exact c
 refine an 1 j j ?_;have ai:i=(min l.length 10):=by omega
 subst ai;exact⟨af,a,.inl ⟨_,j,c⟩⟩
theorem Ext.range{g:al}{B:Option Addr}{U:List Value}{H ae:List (List Chunk)}{L:List Chunk}{w aJ:World}(h:Ext g B U (au (H++ae)) w)(c:C w [] [L] aJ):Ext g B U (au (H++(ae++[L]))) aJ:=by
 have d:Ext g B U (au (H++(ae++[L]))) w:=h.grow (λb a=>by
  rw [<-dS] at a;rcases mO.1 a with a|a
  ·exact .inl a
  ·have:=c.own b a;exact .inr (by simpa using this))
 exact d.st c (by simp)
theorem Ext.here{g:al}{B:Option Addr}{U:List Value}{ae:List (List Chunk)}{o w:World}(h:Ext g B U [] o)(a:C o [] ae w):Ext g B U (au ae) w:=
 (h.grow (λb c=>(a.own b c).elim (λh=>.inl h) .inr)).st a (by simp)
def uniq(xs:List Int):List Int:=xs.foldl (λacc k=>if k∈acc then acc else acc++[k]) []
theorem zZ(xs:List Int)(k:Int):uniq (xs++[k])=if k∈uniq xs then uniq xs else uniq xs++[k]:=by unfold uniq;rw [List.foldl_append];rfl
theorem sE(xs:List Int):(uniq xs).length<=xs.length:=by
 have:∀(dh acc:List Int),(dh.foldl (λacc k=>if k∈acc then acc else acc++[k]) acc).length<=acc.length+dh.length:=by
  intro dh;induction dh with
  |nil=>intro acc;simp
  |cons y r a=>
   intro acc;rw [h5];refine ej (a _) ?_;split<;>simp<;>omega
 have h:=this xs [];simp only [fW,fe] at h;exact h
def sK(g:al)(l:List aN)(kind slot view:Int)(sum:List UInt8):List Int:=jx (uniq (ir g kind slot view sum l (min l.length 10)))
def meets(g:al)(l:List aN)(kind slot view:Int)(sum:List UInt8):Bool:=decide (dL g.keys.length<=(sK g l kind slot view sum).length)
theorem yG(g:al)(l:List aN)(kind slot view:Int)(sum:List UInt8):(ir g kind slot view sum l (min l.length 10)).length<=10:=by
 unfold ir;rw [fa];refine ej (nV _ _) ?_;rw [hC];omega
theorem HJ{o:World}{g:al}{B:Option Addr}{l:List aN}{d:Nat}{kind slot view:Int}{sum:List UInt8}(X:g.ok)(af:∀x∈l,x.ok)(I:sum.length=32)(S:l.length<=d)(V:l.length<=1000)(N:Ext g B (l.flatMap aN.cs) [] o):Calls prog 197 #[g.p,.slice B l.length d,ab kind,ab slot,ab view,.agg (aP sum).toArray] o λr w=>∃ak,Row 3 1 r (sK g l kind slot view sum).length ((sK g l kind slot view sum).map bG) ak/\C o [] [ak] w:=by
 have b:Own [] o:=C.start o;refine jH func197 ?_;refine bJ 2 b j j (λq w b=>?_);refine cx 3 b j (λn w b=>?_);have b:C o [] (J n #[.slice none 0 0] 27::_) w:=b;refine bP 8 (U:=aP sum) j j (by rw [dx];exact I) b.f1.bQ ?_;have m:=Fn (o:=w) (g:=g) (B:=B) (l:=l) (d:=d) (kind:=kind) (slot:=slot) (view:=view) (sum:=sum);refine bk 0 m j (λr w⟨t,u,z,D,s,q,Y,ad⟩=>?_);subst Y;have b:=b.aO ad;have b:C o [] ([J u #[.slice B l.length d] 99,J z #[ab kind] 3,J D #[ab slot] 3,J s #[ab view] 3,J q (aP sum).toArray 80,J t #[g.p] 54]++[J n #[.slice none 0 0] 27,[]]) w:=(C.rM (A:=[J u #[.slice B l.length d] 99,J z #[ab kind] 3,J D #[ab slot] 3,J s #[ab view] 3,J q (aP sum).toArray 80,J t #[g.p] 54]++[J n #[.slice none 0 0] 27]) b).empty.swap (A:=[[]])|>.perm (by simp)
 have O:=N.here b
 refine jM 1 j (Fl X af I S V) j (by have:=b.size;simpa using this) b j (λ_=>rfl) (by intro p H;simp at H;subst H;rfl)
  (λpre ae=>∃v ak,ae=[J n #[v] 27,ak]/\Row 3 1 v (uniq pre).length ((uniq pre).map bG) ak) (λ_ _=>False) ⟨_,_,j,Row.nil 3 1⟩ (λL aJ P=>O.range P) (λ_ _ _ _=>trivial) ?_ ?_ (λ_ _ h=>h.elim) (λ_ _ _ h=>h.elim)
 .rintro y pre x ah L ap ⟨ao,aa⟩ ⟨v,ak,rfl,i⟩ b;have hlen:pre.length<10:=by have E:=yG g l kind slot view sum;rw [aa] at E;simp only [cj,List.length_cons] at E;omega
  refine bH 2 j ?_;refine⟨j,_,C.gg b,λL w b=>?_⟩;have b:=C.gg b;refine ar 3 j (ax (C.aj b) j) ?_;obtain⟨ag,aH,rfl,_,_,Z,_⟩:=i.rd b.f1;have m:=Cx (c:=aH) (k:=x) Z (by have:=sE pre;omega);refine br 1 m j (λw hw=>?_);subst hw;refine bo 1 j j (λf=>?_) (λf=>?_)
  .refine ar 1 j (ax (C.aj b) j) ?_;refine aq 1 j (fx b j j j j j j bO (λam w b=>?_));have aT:=b.bQ;refine e6 b.f2 i j j (by decide) j j j (news:=[bG x]) j aT (by simp [Value.oneCell']) (by have:=sE pre;omega) (by have:=sE pre;unfold maxLen;omega) (λv1 K w F b=>?_);have b:=b.f2;refine cO b j j j F.one (by simp) (λw b=>?_);refine bH 0 j ?_;refine⟨_,b.ks,v1,K,j,?_⟩;have W:x∉uniq pre:=by intro h;rw [hM h] at f;cases f
   rw [zZ,az W];simpa using F
  refine bH 1 j ?_;refine⟨_,b,_,ak,j,?_⟩
  have T:x∈uniq pre:=by
   rcases n0 (x∈uniq pre) with h|h
   .exact h
   .rw [e7 h] at f;cases f
  rw [zZ,aR T];exact i
 rintro xs ai w G ⟨v,ak,rfl,i⟩ b;have an:xs.length<=10:=by rw [G];exact yG g l kind slot view sum
 have b:=b.swap;refine ar 2 j (ax (C.aj b) j) ?_;have b:=b.f1;have m:=zB (jz:=uniq xs) b.h7 i (by have:=sE xs;omega);refine bk 0 m j (λr w⟨_,M,Q,ad⟩=>?_);have b:=(b.gT ad).f1;refine ar 2 j (ax (C.aj b) j) ?_;refine bH 1 j ⟨v,λw ac=>?_⟩;have b:=ac.st b (cF _);refine⟨λa R=>iP (fn:=f197) R j _ _,?_⟩;refine⟨M,?_,b.f1.hS⟩;have e:sK g l kind slot view sum=jx (uniq xs):=by rw [G];rfl
 rw [e,hN];exact Q
theorem uK{o:World}{g:al}{B:Option Addr}{l:List aN}{d:Nat}{kind slot view:Int}{sum:List UInt8}(c:g.ok)(m:∀x∈l,x.ok)(e:sum.length=32)(i:l.length<=d)(k:l.length<=1000)(b:Ext g B (l.flatMap aN.cs) [] o):Calls prog 155 #[g.p,.slice B l.length d,ab kind,ab slot,ab view,.agg (aP sum).toArray] o λr w=>r= .bool (meets g l kind slot view sum)/\C o [] [] w:=by
 have a:Own [] o:=C.start o;refine a6 func155 (bJ 2 a j j (λq w a=>aq 6 j (bY 15 (.bool true) j (aK Value.bool (j)) ?_)));refine bP 5 (U:=aP sum) j j (by rw [dx];exact e) a.bQ ?_;have h:=HJ c m e i k (b.st a (by simp [au])) (kind:=kind) (slot:=slot) (view:=view);refine bk 0 h j (λr w⟨ak,f,ad⟩=>?_);have a:=a.aO ad;obtain⟨n,aH,rfl,_⟩:=f.rd a;refine br 2 (mb (b.ring.st a (al.off.nil g))) j (λw hw=>?_);subst hw;refine br 0 (y9 (by have:=c.n10;omega)) j (λw hw=>?_);subst hw;refine an 3 j j (⟨aK Value.bool ?_,a.bare⟩);unfold meets;exact nT.2 (by omega)
end Go.Proofs.YtmholjbhjcpkhaaGreatDoor.R
