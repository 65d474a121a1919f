/- Part 1 of the proof. -/
import Derived.Test.YtngjfjhomikplaaGreatDoorM0
set_option linter.unusedVariables false
set_option linter.unusedSimpArgs false
set_option linter.unusedSectionVars false
set_option maxRecDepth 20000
set_option maxHeartbeats 4000000
namespace Go.Proofs.YtngjfjhomikplaaGreatDoor.R
open Go.Proofs.Tryz Go Go.RowKit
inductive K where
 |base (Q:d6)
 |s (c:Code) (k:K)
 |b (id:Nat) (k:K)
 |l (N:Env->World->Prop) (k:K)
abbrev FG(N:Env->World->Prop)(Q:d6):d6:=λe Z w=>match e with
 | .normal=>N Z w
 |e=>Q e Z w
def den(P:Program)(F:Fr):K->d6
 | .base Q=>Q
 | .s y k=>AV P F y (den P F k)
 | .b i k=>vg i (den P F k)
 | .l N k=>FG N (den P F k)
structure iq where
 ops:Array Oper
 todo:List Oper
 k:K
 Z:Env
abbrev G(P:Program)(F:Fr)(c:iq)(w:World):Prop:=O P F c.ops c.todo c.Z w (den P F c.k)
def ob:K->K
 | .b _ k=>ob k
 |k=>k
def ly(i:Nat):K->Option K
 | .s _ k=>ly i k
 | .l _ k=>ly i k
 | .b id k=>match Nat.beq i id with
  |true=>some k
  |false=>ly i k
 | .base _=>none
def bot:K->d6
 | .base Q=>Q
 | .s _ k=>bot k
 | .l _ k=>bot k
 | .b _ k=>bot k
def iL(P:Program)[fq P](F:Fr):iq->Option iq
 |⟨ops,I::r,k,Z⟩=>match pt P F ops Z I with
  |some di=>some ⟨ops,r,k,di⟩
  |none=>none
 |⟨_,[],k,Z⟩=>match ob k with
  | .s (.seq a b) k=>some ⟨#[],[],.s a (.s b k),Z⟩
  | .s (.block i a) k=>some ⟨#[],[],.s a (.b i k),Z⟩
  | .s .skip k=>some ⟨#[],[],k,Z⟩
  | .s (.exit i) k=>match ly i k with
   |some k=>some ⟨#[],[],k,Z⟩
   |none=>none
  | .s (.region _ l false) k=>some ⟨l,l.toList,k,Z⟩
  | .s (.cond x a b) k=>match bs Z x with
   |some (.bool true)=>some ⟨#[],[],.s a k,Z⟩
   |some (.bool false)=>some ⟨#[],[],.s b k,Z⟩
   |_=>none
  |_=>none
def run(P:Program)[fq P](F:Fr):Nat->iq->Option iq
 |0,c=>some c
 |n+1,c=>match iL P F c with
  |some c=>run P F n c
  |none=>none
section
variable {P:Program} {n:Fr} {Z di:Env} {w:World} {Q:d6} {ops hH:Array Oper} {todo hV:List Oper} {k dm:K}
theorem sy{Q hM:d6}{e ht:Exit}{a:Act}{o:World}(h:∀Z,Q e Z w->hM ht Z w)(b:lift n o Q e a w):lift n o hM ht a w:=
 let⟨k,m,Z,d,c⟩:=b
 ⟨k,m,Z,d,h Z c⟩
theorem jl{c:Code}(h:O P n ops [] Z w (den P n (.s c k))):W P n c Z w (den P n k):=λa b hm=>
 let⟨_,m,_,d,hw⟩:=h a b hm
 hw a d m
theorem Iu{c:Code}(h:W P n c Z w (den P n k)):O P n ops [] Z w (den P n (.s c k)):=an h
theorem BZ{Q hM:d6}(c:∀Z,Q .normal Z w->hM .normal Z w)(h:O P n hH [] Z w Q):O P n ops [] Z w hM:=λa b hm=>sy c (h a b hm)
theorem sR:∀(k:K){Z:Env}{w:World},den P n (ob k) .normal Z w->den P n k .normal Z w
 | .b _ k,_,_,h=>sR k h
 | .base _,_,_,h=>h
 | .s _ _,_,_,h=>h
 | .l _ _,_,_,h=>h
theorem rg{i:Nat}:∀(k:K){dm:K},ly i k=some dm->∀{Z:Env}{w:World},den P n dm .normal Z w->den P n k (.exit i) Z w
 | .s _ k,_,h,_,_,aa=>rg k h aa
 | .l _ k,_,h,_,_,aa=>rg k h aa
 | .b id k,dm,h,Z,w,aa=>by
  show(match Nat.beq i id with|true=>den P n k .normal Z w|false=>den P n k (.exit i) Z w);simp only [ly] at h;split at h
  .cases h;exact aa
  .exact rg k h aa
 | .base _,_,h,_,_,_=>by cases h
theorem qq:∀(k:K){Z:Env}{w:World},bot k .ret Z w->den P n k .ret Z w
 | .s _ k,_,_,h=>qq k h
 | .l _ k,_,_,h=>qq k h
 | .b _ k,_,_,h=>qq k h
 | .base _,_,_,h=>h
theorem sN{i:Nat}:∀(k:K),ly i k=none->∀{Z:Env}{w:World},bot k (.exit i) Z w->den P n k (.exit i) Z w
 | .s _ k,h,_,_,aa=>sN k h aa
 | .l _ k,h,_,_,aa=>sN k h aa
 | .b id k,h,Z,w,aa=>by
  show(match Nat.beq i id with|true=>den P n k .normal Z w|false=>den P n k (.exit i) Z w);simp only [ly] at h;split at h
  .cases h
  .exact sN k h aa
 | .base _,_,_,_,h=>h
theorem lM{c:Code}{a:K}(b:ob k= .s c a)(h:W P n c Z w (den P n a)):O P n ops [] Z w (den P n k):=
 BZ (λ_ d=>sR k (by rw [b];exact d)) (Iu (ops:= #[]) h)
variable [fq P]
theorem FU{c g:iq}(h:iL P n c=some g)(d:G P n g w):G P n c w:=by
 obtain⟨ops,todo,k,Z⟩:=c;cases todo with
 |cons I r=>
  simp only [iL] at h;split at h
  .rename_i s1 aM;cases h;exact HU aM d
  .cases h
 |nil=>
  simp only [iL] at h;split at h
  .rename_i b;cases h;exact lM b (wU (jl d))
  .rename_i b;cases h;exact lM b (B3 (jl d))
  .rename_i b;cases h;exact lM b (λa e hm=>wpIn_skip (d a e hm))
  .rename_i b;split at h
   .rename_i hu;cases h;exact lM b (λa e hm=>wpIn_exit (sy (λ_ i=>rg _ hu i) (d a e hm)))
   .cases h
  .rename_i id l m b;cases h;have:=B9 (id:=id) (l:=l.toList) (P:=P) (n:=n) (Z:=Z) (w:=w) (Q:=den P n m) (by simpa [G] using d);exact lM b (by simpa using this)
  .rename_i b;split at h
   .rename_i f;cases h;exact lM b (wS f j (jl d))
   .rename_i f;cases h;exact lM b (wR f j (jl d))
   .cases h
  .cases h
theorem ny:∀(m:Nat){c a:iq},run P n m c=some a->G P n a w->G P n c w
 |0,_,_,h,b=>by cases h;exact b
 |m+1,c,a,h,b=>by
  simp only [run] at h;split at h
  .rename_i hm;exact FU hm (ny m h b)
  .cases h
theorem am(m:Nat)(h:run P n m ⟨ops,todo,k,Z⟩=some ⟨hH,hV,dm,di⟩)(aa:O P n hH hV di w (den P n dm)):O P n ops todo Z w (den P n k):=ny m h aa
def next(P:Program)[fq P](F:Fr)(m:Nat)(c:iq):Option (Code×K×Env):=match run P F m c with
 |some ⟨_,[],k,Z⟩=>match ob k with
  | .s c k=>some (c,k,Z)
  |_=>none
 |_=>none
theorem kw{m:Nat}{c:iq}{x:Code}(h:next P n m c=some (x,k,Z))(a:W P n x Z w (den P n k)):G P n c w:=by
 unfold next at h;split at h
 .rename_i d;split at h
  .rename_i b;cases h;exact ny m d (lM b a)
  .cases h
 .cases h
theorem bm(m:Nat){x y:Code}{c:Operand}{b:Bool}(h:next P n m ⟨ops,todo,k,Z⟩=some (.cond c x y,dm,di))(a:bs di c=some (.bool b))
 (d:b=true->O P n #[] [] di w (den P n (.s x dm))) (bw:b=false->O P n #[] [] di w (den P n (.s y dm))):O P n ops todo Z w (den P n k):=
 kw h (tU a (λe=>jl (d e)) (λe=>jl (bw e)))
theorem mq(m:Nat){x y:Code}{c:Operand}{b:Bool}(h:next P n m ⟨ops,todo,k,Z⟩=some (.cond c x y,dm,di))(d:bs di c=some (.bool b))(a:b=true)
 (e:O P n #[] [] di w (den P n (.s x dm))):O P n ops todo Z w (den P n k):=kw h (wS d a (jl e))
theorem iI(m:Nat){x y:Code}{c:Operand}{b:Bool}(h:next P n m ⟨ops,todo,k,Z⟩=some (.cond c x y,dm,di))(d:bs di c=some (.bool b))(a:b=false)
 (bw:O P n #[] [] di w (den P n (.s y dm))):O P n ops todo Z w (den P n k):=kw h (wR d a (jl bw))
theorem b8(m:Nat){x y:Code}{c:Operand}{p:Prop}[Decidable p](h:next P n m ⟨ops,todo,k,Z⟩=some (.cond c x y,dm,di))(a:bs di c=some (.bool (decide p)))
 (b:p->O P n #[] [] di w (den P n (.s x dm))) (bw:¬p->O P n #[] [] di w (den P n (.s y dm))):O P n ops todo Z w (den P n k):=bm m h a (λe=>b (dz e)) (λe=>bw (dM e))
theorem cJ(m:Nat){ct:Type}{c:Code}(h:next P n m ⟨ops,todo,k,Z⟩=some (.loop c,dm,di))(S:ct->Env)(a:ct->World->Prop)(b:ct->Nat)(i:ct)(aM:sub di (S i))(d:a i w)
 (round:∀i w,a i w->O P n #[] [] (S i) w (den P n (.s c (.l (λZ w=>∃J,sub Z (S J)/\a J w/\b J<b i) dm)))):O P n ops todo Z w (den P n k):=
 kw h (B7 S a b i aM d λi w e=>jl (k:=.l _ _) (round i w e))
theorem lW [rq P](m:Nat){id:Nat}{os:Array Oper}(h:next P n m ⟨ops,todo,k,Z⟩=some (.region id os true,dm,di))(bb:World->Prop)
 (a:eS P n os bb os.size (Array.replicate os.size false) di w.drew (h1 (den P n dm))):O P n ops todo Z w (den P n k):=kw h (B5 bb a)
theorem lV(m:Nat){x y:Code}(h:next P n m ⟨ops,todo,k,Z⟩=some (.seq x y,dm,di))(M:Env->World->Prop)
 (a:O P n #[] [] di w (den P n (.s x (.l M dm)))) (b:∀Z w,M Z w->O P n #[] [] Z w (den P n (.s y dm))):O P n ops todo Z w (den P n k):=
 kw h (B4 M (jl (k:=.l _ _) a) λZ w hm=>jl (b Z w hm))
def xi(P:Program)[fq P](F:Fr)(m:Nat)(c:iq):Option ((Env->World->Prop)×Env):=match run P F m c with
 |some ⟨_,[],k,Z⟩=>match ob k with
  | .l N _=>some (N,Z)
  |_=>none
 |_=>none
theorem bI(m:Nat){N:Env->World->Prop}(h:xi P n m ⟨ops,todo,k,Z⟩=some (N,di))(aJ:N di w):O P n ops todo Z w (den P n k):=by
 unfold xi at h;split at h
 .rename_i b;split at h
  .rename_i a;cases h;exact ny m b (an (sR _ (by rw [a];exact aJ)))
  .cases h
 .cases h
def uq(P:Program)[fq P](F:Fr)(m:Nat)(c:iq):Option (Exit×d6×Env):=match run P F m c with
 |some ⟨_,[],k,Z⟩=>match ob k with
  | .base Q=>some (.normal,Q,Z)
  | .s .ret k=>some (.ret,bot k,Z)
  | .s (.exit i) k=>match ly i k with
   |none=>some (.exit i,bot k,Z)
   |some _=>none
  |_=>none
 |_=>none
theorem bD(m:Nat){e:Exit}(h:uq P n m ⟨ops,todo,k,Z⟩=some (e,Q,di))(b:Q e di w):O P n ops todo Z w (den P n k):=by
 unfold uq at h;split at h
 .rename_i c;split at h
  .rename_i a;cases h;exact ny m c (an (sR _ (by rw [a];exact b)))
  .rename_i a;cases h;exact ny m c (lM a (Ca (qq _ b)))
  .rename_i a;split at h
   .rename_i hu;cases h;exact ny m c (lM a (B6 (sN _ hu b)))
   .cases h
  .cases h
 .cases h
theorem aq(m:Nat){e:Exit}{rs:Array ResultVar}{ag:Value->World->Prop}{v:Value}(h:uq P n m ⟨ops,todo,k,Z⟩=some (e,Leaves rs ag,di))(b:q1 di rs=some v)(a:ag v w)
 (he:(match e with| .normal| .ret=>true|_=>false)=true:=by rfl):O P n ops todo Z w (den P n k):=
 bD m h (by cases e<;>first|exact⟨v,b,a⟩|cases he)
theorem wb{m:Nat}{c:iq}{I:Oper}{r:List Oper}(h:run P n m c=some ⟨ops,I::r,k,Z⟩)(a:O P n ops (I::r) Z w (den P n k)):G P n c w:=ny m h a
def xh(P:Program)[fq P](F:Fr)(m:Nat)(c:iq):Option (Addr×Option Nat×iq):=match run P F m c with
 |some ⟨ops,⟨dst,.load t x,_,_,_,g⟩::r,k,Z⟩=>match fq.one P t with
  |true=>match cY ops Z g with
   |some true=>match c8 F dst with
    |true=>match bs Z x with
     |some (.pointer (some A))=>some (A,dst,⟨ops,r,k,Z⟩)
     |_=>none
    |false=>none
   |_=>none
  |false=>none
 |_=>none
theorem ar(m:Nat){A:Addr}{dst:Option Nat}{v:Value}(h:xh P n m ⟨ops,todo,k,Z⟩=some (A,dst,⟨hH,hV,dm,di⟩))(g:w.cell? A=some v)
 (aa:O P n hH hV (cG di dst v) w (den P n dm)):O P n ops todo Z w (den P n k):=by
 unfold xh at h;split at h
 .rename_i j;split at h
  .rename_i a;split at h
   .rename_i b;split at h
    .rename_i c;split at h
     .rename_i e;cases h;obtain⟨d,i,f⟩:=fq.vP _ a;have:bA P _ d:=⟨i⟩;exact wb j (ox b c e f g aa)
     .cases h
    .cases h
   .cases h
  .cases h
 .cases h
def uo(P:Program)[fq P](F:Fr)(m:Nat)(c:iq):Option (FuncId×List Value×Option Nat×iq):=match run P F m c with
 |some ⟨ops,⟨dst,.call ⟨.value (.func f),args,_⟩,_,_,_,g⟩::r,k,Z⟩=>match cY ops Z g with
  |some true=>match c8 F dst with
   |true=>match fq.qw P f with
    |true=>match fu Z args.toList with
     |some U=>some (f,U,dst,⟨ops,r,k,Z⟩)
     |_=>none
    |false=>none
   |false=>none
  |_=>none
 |_=>none
theorem bk(m:Nat){f:FuncId}{dst:Option Nat}{U:List Value}{ag:Value->World->Prop}(e:Calls P f U.toArray w ag)(h:uo P n m ⟨ops,todo,k,Z⟩=some (f,U,dst,⟨hH,hV,dm,di⟩))
 (aa:∀v aK,ag v aK->O P n hH hV (cG di dst v) aK (den P n dm)):O P n ops todo Z w (den P n k):=by
 unfold uo at h;split at h
 .rename_i g;split at h
  .rename_i b;split at h
   .rename_i c;split at h
    .rename_i a;split at h
     .rename_i d;cases h;have:=fq.uP _ a;exact wb g (wG b c d e aa)
     .cases h
    .cases h
   .cases h
  .cases h
 .cases h
def nd(P:Program)[fq P](F:Fr)(m:Nat)(c:iq):Option (Op×Option Nat×iq):=match run P F m c with
 |some ⟨ops,⟨dst,I,_,_,_,g⟩::r,k,Z⟩=>match cY ops Z g with
  |some true=>match c8 F dst with
   |true=>some (I,dst,⟨ops,r,k,Z⟩)
   |false=>none
  |_=>none
 |_=>none
theorem oT{m:Nat}{c:iq}{I:Op}{dst:Option Nat}(h:nd P n m c=some (I,dst,⟨ops,todo,k,Z⟩))(aa:∀ty pos after g,cY ops Z g=some true->c8 n dst=true->O P n ops (⟨dst,I,ty,pos,after,g⟩::todo) Z w (den P n k)):G P n c w:=by
 unfold nd at h;split at h
 .rename_i d;split at h
  .rename_i a;split at h
   .rename_i b;cases h;exact wb d (aa _ _ _ _ a b)
   .cases h
  .cases h
 .cases h
variable {o:World} {F:List Nat} {ad:List (List Chunk)} {dst:Option Nat} {v:Value}
theorem bL(m:Nat){t:TypeId}{x:Operand}(a:C o F ad w)(h:nd P n m ⟨ops,todo,k,Z⟩=some (.box t x,dst,⟨hH,hV,dm,di⟩))(e:bs di x=some v)
 (aa:∀b aK,C o F ([(b,.cells v.cells t (0,0))]::ad) aK->O P n hH hV (cG di dst (.pointer (some ⟨b,0,none⟩))) aK (den P n dm)):O P n ops todo Z w (den P n k):=
 oT h λ_ _ _ _ d c=>lB a d c e aa
theorem b7(m:Nat){t:TypeId}{z:Value}{size bytes:Nat}[e:cm P t z size bytes](a:C o F ad w)(h:nd P n m ⟨ops,todo,k,Z⟩=some (.alloc t,dst,⟨hH,hV,dm,di⟩))
 (aa:∀b aK,C o F ([(b,.cells z.cells t (0,0))]::ad) aK->O P n hH hV (cG di dst (.pointer (some ⟨b,0,none⟩))) aK (den P n dm)):O P n ops todo Z w (den P n k):=
 oT h λ_ _ _ _ d c=>ew a d c aa
theorem dF(m:Nat){t:TypeId}{x y:Operand}{z:Value}{bytes:Nat}{b off:Nat}{c:Array Value}{e:TypeId}[l:cm P t z 1 bytes](a:C o F ([(b,.cells c e (0,0))]::ad) w)
 (h:nd P n m ⟨ops,todo,k,Z⟩=some (.store t x y,none,⟨hH,hV,dm,di⟩)) (i:bs di x=some (.pointer (some ⟨b,off,none⟩))) (j:bs di y=some v) (g:v.oneCell'=true)
 (aa:∀aK,C o F ([(b,.cells (c.setIfInBounds off v) e (0,0))]::ad) aK->O P n hH hV di aK (den P n dm)) (d:Nat.ble (off+1) c.size=true:=by rfl):O P n ops todo Z w (den P n k):=
 oT h λ_ _ _ _ f _=>cB a f i j g (oG d) aa
theorem b6(m:Nat){t:TypeId}{x y:Operand}{z:Value}{size bytes:Nat}{b off:Nat}{c:Array Value}{e:TypeId}{U:Array Value}[p:cm P t z size bytes](a:C o F ([(b,.cells c e (0,0))]::ad) w)
 (h:nd P n m ⟨ops,todo,k,Z⟩=some (.store t x y,none,⟨hH,hV,dm,di⟩)) (j:bs di x=some (.pointer (some ⟨b,off,none⟩))) (l:bs di y=some (.agg U)) (i:U.toList.all (·.oneCell')=true) (g:U.size=size)
 (aa:∀aK,C o F ([(b,.cells (setCells c off U.toList) e (0,0))]::ad) aK->O P n hH hV di aK (den P n dm)) (d:Nat.ble (off+size) c.size=true:=by rfl):O P n ops todo Z w (den P n k):=
 oT h λ_ _ _ _ f _=>c2 a f j l i g (oG d) aa
theorem bM(m:Nat){t:TypeId}{d:TypeDesc}{x:Operand}{A:Addr}{U:List Value}{z:Value}{size bytes:Nat}[hu:bA P t d][i:cm P t z size bytes]
 (h:nd P n m ⟨ops,todo,k,Z⟩=some (.load t x,dst,⟨hH,hV,dm,di⟩)) (g:bs di x=some (.pointer (some A))) (f:U.length=size) (b:Rd w (some A) U)
 (aa:O P n hH hV (cG di dst (.agg U.toArray)) w (den P n dm)) (a:ib d=true:=by rfl):O P n ops todo Z w (den P n k):=
 oT h λ_ _ _ _ e c=>mc e c g a f b aa
theorem bq(m:Nat){op:BinOp}{t f:TypeId}{x y:Operand}{cx:IntKind}{i J:Int}(h:nd P n m ⟨ops,todo,k,Z⟩=some (.binOp op t x y f,dst,⟨hH,hV,dm,di⟩))(d:bs di x=some (.int cx i))(e:bs di y=some (.int cx J))(c:evalBin op cx i J=some v)
 (aa:O P n hH hV (cG di dst v) w (den P n dm)):O P n ops todo Z w (den P n k):=
 oT h λ_ _ _ _ b a=>BQ b a d e c aa
theorem cO{Q:d6}{rest:List Oper}{ty:TypeId}{pos:String}{after:Array Edge}{g:Option (Nat×Bool)}{f:FuncId}{e:Array TypeId}{args:Array Operand}{U:List Value}{ag:Value->World->Prop}(c:cY ops Z g=some true)(b:c8 n dst=true)
 (d:fu Z args.toList=some U) (a:Calls P f U.toArray w ag)
 (h:∀v aK,ag v aK->O P n ops rest (cG Z dst v) aK Q) (he:fq.qw P f=true:=by rfl):O P n ops (⟨dst,.call ⟨.value (.func f),args,e⟩,ty,pos,after,g⟩::rest) Z w Q:=
 have:=fq.uP _ he
 wG c b d a h
end
theorem gL{P:Program}{f:FuncId}{fn:Func}{c:Code}(l:List Value){w:World}{ag:Value->World->Prop}{n:Nat}{rs:Array ResultVar}
 (bw:P.funcs[f]? =some fn) (aJ:fn.ntmps=n) (d:fn.results=rs)
 (h:O P {n:=n} #[] [] (jK 0 l) w (den P {n:=n} (.s c (.base (Leaves rs ag))))) (a:fn.body=some c:=by rfl) (b:Nat.ble l.length n=true:=by rfl):Calls P f l.toArray w (nM ag):=Dd l bw aJ d (jl (k:=.base _) h) a b
theorem Dc{P:Program}{f:FuncId}{fn:Func}{c:Code}(l:List Value){w:World}{ag:Value->World->Prop}{n:Nat}
 (bw:P.funcs[f]? =some fn) (aJ:fn.ntmps=n)
 (h:O P {n:=n} #[] [] (jK 0 l) w (den P {n:=n} (.s c (.base (tK P n fn ag))))) (a:fn.body=some c:=by rfl) (b:Nat.ble l.length n=true:=by rfl):Calls P f l.toArray w (nM ag):=
 Df bw a aJ (oG b) (jl (k:=.base _) h)
theorem oY{P:Program}{f:FuncId}{fn:Func}{c:Code}(l:List Value){w:World}{ag:Value->World->Prop}{n:Nat}
 (bw:P.funcs[f]? =some fn) (aJ:fn.ntmps=n)
 (h:O P {n:=n,m:=true,b:=w.heap.size} #[] [] (jK 0 l) w (den P {n:=n,m:=true,b:=w.heap.size} (.s c (.base (tL P n fn w.heap.size ag))))) (a:fn.body=some c:=by rfl) (d:Nat.ble l.length n=true:=by rfl):Calls P f l.toArray w ag:=
 Dg bw a aJ (oG d) (jl (k:=.base _) h)
theorem a2{P:Program}{f:FuncId}{fn:Func}{c:Code}{l:List Value}{w:World}{ag:Value->World->Prop}(bw:P.funcs[f]? =some fn)
 (h:O P {n:=fn.ntmps} #[] [] (jK 0 l) w (den P {n:=fn.ntmps} (.s c (.base (Leaves fn.results ag))))) (a:fn.body=some c:=by rfl) (b:Nat.ble l.length fn.ntmps=true:=by rfl):Calls P f l.toArray w (nM ag):=gL l bw j j h a b
theorem eV{P:Program}{f:FuncId}{fn:Func}{c:Code}{l:List Value}{w:World}{ag:Value->World->Prop}(bw:P.funcs[f]? =some fn)
 (h:O P {n:=fn.ntmps} #[] [] (jK 0 l) w (den P {n:=fn.ntmps} (.s c (.base (tK P fn.ntmps fn ag))))) (a:fn.body=some c:=by rfl) (b:Nat.ble l.length fn.ntmps=true:=by rfl):Calls P f l.toArray w (nM ag):=Dc l bw j h a b
theorem j2{P:Program}{f:FuncId}{fn:Func}{c:Code}{l:List Value}{w:World}{ag:Value->World->Prop}(bw:P.funcs[f]? =some fn)
 (h:O P {n:=fn.ntmps,m:=true,b:=w.heap.size} #[] [] (jK 0 l) w (den P {n:=fn.ntmps,m:=true,b:=w.heap.size} (.s c (.base (tL P fn.ntmps fn w.heap.size ag))))) (a:fn.body=some c:=by rfl) (d:Nat.ble l.length fn.ntmps=true:=by rfl):Calls P f l.toArray w ag:=oY l bw j h a d
theorem cU{P:Program}{n:Fr}{Z:Env}{w:World}{ops:Array Oper}{b:K}{bb:World->Prop}{k:Nat}{l:Array Bool}(h:O P n #[] [] Z w (den P n b))(d:Region.ready .any ops l=[]:=by kernel_rfl):eS P n ops bb k l Z w (h1 (den P n b)):=λa e hm=>by
 have c:=sy (hM:=h1 (den P n b)) (ht:=.normal) (λ_ h=>h) (h a e hm);cases k with
 |zero=>exact⟨d,c⟩
 |succ k=>exact⟨λ_=>c,by rw [d];simp⟩
theorem j6{P:Program}[fq P](m:Nat){ops:Array Oper}{todo:List Oper}{k dm:K}{U:Env}{n:Fr}{Z:Env}{w:World}{α:Type}{g:Operand}{v:Array Tmp}{assign body:Code}(af:next P n m ⟨ops,todo,k,U⟩=some (.rangeFunc g v assign body,dm,Z)){B:FuncId}{be:Array Value}[bw:Entry P B]
 {H ad:List (List Chunk)} {M:List (List Chunk)->World->Prop} {T:List (List Chunk)->Prop} {enc:α->Array Value} {A:List α->α->Prop} {S:List α->Prop} {o:World} {F:List Nat}
 (am:Iter P B be H M T enc A S) (aJ:n={n:=n.n,r:=none,m:=true,b:=n.b}) (an:n.b<=w.heap.size) (ag:C o F (H++ad) w)
 (al:bs Z g=some (.func (.func B) #[] be)) (ap:∀x,(enc x).size=v.size) (ao:∀p∈v,Nat.blt p n.n=true)
 (f:List α->List (List Chunk)->Prop) (X:Exit->List (List Chunk)->Prop) (Y:f [] ad) (aj:∀L aK,C w [] [L] aK->M (ad++[L]) aK) (ah:∀pre ad L,f pre ad->T (ad++[L]))
 (round:∀(l:Nat)(pre:List α)(x:α)(t:List (List Chunk))(L:List Chunk)(c:World),A pre x->f pre t->C o F (H++(t++[L])) c->
  O P {n:=n.n,r:=some l} #[] [] ((v.toList.zip (enc x).toList).reverse++Z) c (den P {n:=n.n,r:=some l} (.s assign (.base (λe V R=>e= .normal/\∃u,C c (av t) u R/\
   ∀(L:List Chunk)(y:World),C o F (H++(u++[L])) y->O P {n:=n.n,r:=some l} #[] [] V y (den P {n:=n.n,r:=some l} (.s body (.base (λe _ aw=>∃z,C y (av u) z aw/\
    (match e with
     | .normal=>f (pre++[x]) z
     | .ret=>X .ret z
     | .exit id=>X (.exit id) z
     |_=>False))))))))))
 (done:∀xs fz aK,S xs->f xs fz->C o F (H++fz) aK->O P n #[] [] Z aK (den P n dm))
 (au:∀fz aK,X .ret fz->C o F (H++fz) aK->bot dm .ret Z aK)
 (ar:∀id fz aK,X (.exit id) fz->C o F (H++fz) aK->∃q,ly id dm=some q/\O P n #[] [] Z aK (den P n q)):O P n ops todo U w (den P n k):=by
 refine kw af ?_
 have key:W P n (.rangeFunc g v assign body) Z w (λe J aK=>J=Z/\(match e with| .normal=>O P n #[] [] Z aK (den P n dm)| .ret=>bot dm .ret Z aK| .exit id=>∃q,ly id dm=some q/\O P n #[] [] Z aK (den P n q)|_=>False)):=by
  refine B8 am aJ an ag al ap ao f X Y aj ah (λl pre x t L c D E i=>?_) (λxs ai c D E i=>⟨j,done xs ai c D E i⟩) (λe ai c he Q i=>?_)
  .refine wT (jl (k:=.base _) (round l pre x t L c D E i)) ?_;rintro e V R ⟨he,u,ab,ac⟩;exact⟨he,u,ab,λL y ae=>jl (k:=.base _) (ac L y ae)⟩
  .rcases he with rfl|⟨id,rfl⟩
   .exact⟨j,au ai c Q i⟩
   .exact⟨j,ar id ai c Q i⟩
 intro a ak hm;refine kJ (key a ak hm) λe N c⟨aa,I,J,G,aq,d⟩=>?_
 subst aq;cases e with
 |normal=>exact lift.from aa (d N G I)
 |ret=>exact⟨aa,I,J,G,qq _ d⟩
 |exit id=>
  obtain⟨q,hu,d⟩:=d;exact lift.from aa (sy (λ_ h=>rg _ hu h) (d N G I))
 |goto l=>exact d.elim
 |panic gM=>exact d.elim
 |outgrown=>exact d.elim
abbrev fS(P:Program)(n:Fr)(ops:Array Oper)(bb:World->Prop)(k:Nat)(l:Array Bool)(Z:Env)(w:World)(Q:d6):Prop:=bb w->eS P n ops bb k l Z w (h1 Q)
theorem BS{P:Program}{n:Fr}{ops:Array Oper}{todo:List Oper}{Z:Env}{w:World}{Q hM:d6}(h:O P n ops todo Z w Q)(c:∀e Z w,Q e Z w->hM e Z w):O P n ops todo Z w hM:=λa b hm=>
 kZ (λ_ _ _⟨k,m,f,d,h⟩=>⟨k,m,f,d,c _ _ _ h⟩) _ _ _ (h a b hm)
abbrev okB(bb:World->Prop)(T:Env->World->Prop):d6:=λe Z w=>match e with
 | .normal=>bb w/\T Z w
 |_=>False
section
variable {P:Program} {n:Fr} {Z di:Env} {w:World} {Q:d6} {ops:Array Oper} {bb:World->Prop} {k:Nat} {l:Array Bool} {I:Oper}
theorem vJ{todo:List Oper}{l:Array Bool}(h:O P n ops todo Z w (okB bb λZ w=>fS P n ops bb k l Z w Q)):O P n ops todo Z w (λe Z w=>match e with| .normal=>bb w/\eS P n ops bb k l Z w (h1 Q)|_=>False):=
 BS h λe _ _ a=>by cases e<;>first|exact⟨a.1,a.2 a.1⟩|exact a
theorem aR(i:Nat)(a:ops[i]? =some I)(h:O P n ops [I] Z w (okB bb λZ w=>fS P n ops bb k (l.setIfInBounds i true) Z w Q))(b:Region.ready .any ops l=[i]:=by kernel_rfl):fS P n ops bb (k+1) l Z w Q:=λ_=>wD i a b (vJ h)
theorem aO(i J:Nat){a b:Oper}(e:ops[i]? =some a)(f:ops[J]? =some b)
 (c:O P n ops [a] Z w (okB bb λZ w=>fS P n ops bb k (l.setIfInBounds i true) Z w Q)) (d:O P n ops [b] Z w (okB bb λZ w=>fS P n ops bb k (l.setIfInBounds J true) Z w Q)) (g:Region.ready .any ops l=[i,J]:=by kernel_rfl):fS P n ops bb (k+1) l Z w Q:=
 λ_=>k2 i J e f g (vJ c) (vJ d)
theorem ef(d:Nat){b:Bool}(c:look Z d=some (.bool b))(f:b=true->fS P n ops bb k l ((d,.bool true)::Z) w Q)(bw:b=false->fS P n ops bb k l ((d,.bool false)::Z) w Q):fS P n ops bb k l Z w Q:=
 λa=>tM d c (λe=>f e a) (λe=>bw e a)
theorem iY(d:Nat){u:Value}(v:Value)(b:look Z d=some u)(c:u=v)(h:fS P n ops bb k l ((d,v)::Z) w Q):fS P n ops bb k l Z w Q:=λa=>rr d v b c (h a)
theorem dA(i:Nat)(a:ops[i]? =some I)(h:O P n ops [I] Z w (λe Z w=>match e with| .normal=>eS P n ops bb k (l.setIfInBounds i true) Z w (h1 Q)|_=>False))(c:Region.ready .any ops l=[i]:=by kernel_rfl)(b:lX ops i=true:=by kernel_rfl):fS P n ops bb (k+1) l Z w Q:=λ_=>wC i a c b h
theorem bK{a:K}(h:O P n #[] [] Z w (den P n a))(b:Region.ready .any ops l=[]:=by kernel_rfl):fS P n ops bb k l Z w (den P n a):=λ_=>cU h b
variable [fq P]
theorem bt [rq P]{todo:List Oper}{k dm:K}(m:Nat){id:Nat}{os:Array Oper}(h:next P n m ⟨ops,todo,k,Z⟩=some (.region id os true,dm,di))(bb:World->Prop)(a:bb w.drew)
 (b:fS P n os bb os.size (Array.replicate os.size false) di w.drew (den P n dm)):O P n ops todo Z w (den P n k):=lW m h bb (b a)
theorem af(a m:Nat)(d:pl P n ops (List.range' a m) Z=some di)(h:fS P n ops bb k (q3 l (List.range' a m)) di w Q)(b:(calm ops&&lq ops l (List.range' a m))=true:=by kernel_rfl):fS P n ops bb (k+m) l Z w Q:=λc=>by
 simp only [ea] at b;exact tE b.1 c (List.range' a m) (by rw [List.length_range'];exact Nat.beq_refl _) b.2 d (h c)
theorem fC(m:Nat)(is:List Nat)(c:pl P n ops is Z=some di)(h:fS P n ops bb k (q3 l is) di w Q)(b:(calm ops&&Nat.beq is.length m&&lq ops l is)=true:=by kernel_rfl):fS P n ops bb (k+m) l Z w Q:=λa=>fD m is c a (h a) b
theorem aT(i:Nat){v:Value}(f:ops[i]? =some I)(g:∀w,bb w->∀a,cK Z n.n a->(execOp a.eval I).run P w= .ok (.value v) w)(h:fS P n ops bb k (l.setIfInBounds i true) (cG Z I.dst v) w Q)
 (e:cY ops Z I.guard=some true:=by rfl) (d:c8 n I.dst=true:=by rfl) (c:(calm ops&&lq ops l [i])=true:=by kernel_rfl):fS P n ops bb (k+1) l Z w Q:=λb=>eR i f b g (h b) e d c
def up(P:Program)[fq P](F:Fr)(ops:Array Oper)(i:Nat)(Z:Env):Option (Addr×Option Nat):=match ops[i]? with
 |some ⟨dst,.load t x,_,_,_,g⟩=>match fq.one P t with
  |true=>match cY ops Z g with
   |some true=>match c8 F dst with
    |true=>match bs Z x with
     |some (.pointer (some A))=>some (A,dst)
     |_=>none
    |false=>none
   |_=>none
  |false=>none
 |_=>none
theorem bR(i:Nat){A:Addr}{dst:Option Nat}{v:Value}(h:up P n ops i Z=some (A,dst))(p:∀w,bb w->w.cell? A=some v)(aa:fS P n ops bb k (l.setIfInBounds i true) (cG Z dst v) w Q)
 (j:(calm ops&&lq ops l [i])=true:=by kernel_rfl):fS P n ops bb (k+1) l Z w Q:=λa=>by
 unfold up at h;split at h
 .rename_i o;split at h
  .rename_i b;split at h
   .rename_i c;split at h
    .rename_i e;split at h
     .rename_i f;cases h;obtain⟨d,m,g⟩:=fq.vP _ b;have:bA P _ d:=⟨m⟩;exact eR i o a (λw hw=>hK f g (p w hw)) (aa a) c e j
     .cases h
    .cases h
   .cases h
  .cases h
 .cases h
theorem a1{b:Nat}{ad:List (List Chunk)}{I:Obj}[h:Has b ad I]:Has b ad I:=h
theorem a8(i:Nat){o:World}{F:List Nat}{K:List (List Chunk)}{b off:Nat}{c:Array Value}{e:TypeId}{e6:Nat×Nat}{dst:Option Nat}{v:Value}(h:up P n ops i Z=some (⟨b,off,none⟩,dst))(dt:Has b K (.cells c e e6))(f:c[off]? =some v)
 (aa:fS P n ops (λw=>∃ad,C o F (K++ad) w) k (l.setIfInBounds i true) (cG Z dst v) w Q) (d:(calm ops&&lq ops l [i])=true:=by kernel_rfl):fS P n ops (λw=>∃ad,C o F (K++ad) w) (k+1) l Z w Q:=
 bR i h (λ_⟨_,a⟩=>ax (a.here (b,_) (by rw [hb];exact List.mem_append_left _ dt.mem)) f) aa d
theorem bp{todo hV:List Oper}{hH:Array Oper}{k dm:K}(m:Nat){f:FuncId}{dst:Option Nat}{U:List Value}{v:Value}{S:World->Prop}(a:Calls P f U.toArray w (λr aK=>r=v/\S aK))(h:uo P n m ⟨ops,todo,k,Z⟩=some (f,U,dst,⟨hH,hV,dm,di⟩))
 (aa:∀aK,S aK->O P n hH hV (cG di dst v) aK (den P n dm)):O P n ops todo Z w (den P n k):=bk m a h λ_ aK⟨b,aM⟩=>by subst b;exact aa aK aM
theorem bB{dst:Option Nat}{rest:List Oper}{ty:TypeId}{pos:String}{after:Array Edge}{g:Option (Nat×Bool)}{f:FuncId}{i:Array TypeId}{args:Array Operand}{U:List Value}{v:Value}{S:World->Prop}(c:cY ops Z g=some true)(b:c8 n dst=true)
 (e:fu Z args.toList=some U) (a:Calls P f U.toArray w (λr aK=>r=v/\S aK))
 (h:∀aK,S aK->O P n ops rest (cG Z dst v) aK Q) (he:fq.qw P f=true:=by rfl):O P n ops (⟨dst,.call ⟨.value (.func f),args,i⟩,ty,pos,after,g⟩::rest) Z w Q:=
 cO c b e a (λ_ aK⟨d,aM⟩=>by subst d;exact h aK aM) he
end
end Go.Proofs.YtngjfjhomikplaaGreatDoor.R
namespace Go.Proofs.YtngjfjhomikplaaGreatDoor.R
open Go.Proofs.Tryz Go Go.Proofs
instance:bA prog 3 (.int .i64):=⟨underlying3⟩
instance:cm prog 3 (.int .i64 0) 1 8:=⟨by kernel_rfl⟩
instance:bA prog 4 .bool:=⟨underlying4⟩
instance:cm prog 4 (.bool false) 1 1:=⟨by kernel_rfl⟩
instance:bA prog 5 (.int .u8):=⟨underlying5⟩
instance:cm prog 5 (.int .u8 0) 1 1:=⟨by kernel_rfl⟩
instance:bA prog 9 .string:=⟨underlying9⟩
instance:cm prog 9 (.string ⟨#[]⟩) 1 16:=⟨by kernel_rfl⟩
instance:bA prog 21 (.int .i32):=⟨underlying21⟩
instance:bA prog 22 (.slice 33):=⟨underlying22⟩
instance:bA prog 28 (.slice 5):=⟨underlying28⟩
instance:cm prog 28 (.slice none 0 0) 1 24:=⟨by kernel_rfl⟩
instance:bA prog 29 (.slice 3):=⟨underlying29⟩
instance:cm prog 29 (.slice none 0 0) 1 24:=⟨by kernel_rfl⟩
instance:bA prog 31 t30.desc:=⟨underlying31⟩
instance:cm prog 31 (.agg #[(.int .i64 0),(.int .i64 0),(.int .i64 0),(.int .i64 0),(.slice none 0 0),(.int .i64 0),(.slice none 0 0)]) 7 88:=⟨by kernel_rfl⟩
instance:bA prog 33 t32.desc:=⟨underlying33⟩
instance:cm prog 33 (.agg #[(.int .i64 0),(.int .i64 0),(.int .i64 0),(.slice none 0 0),(.int .i64 0),(.int .i64 0),(.int .i64 0),(.int .i64 0),(.slice none 0 0),(.int .i64 0),(.slice none 0 0)]) 11 136:=⟨by kernel_rfl⟩
instance:bA prog 37 (.array 32 5):=⟨underlying37⟩
instance:cm prog 37 (.agg #[(.int .u8 0),(.int .u8 0),(.int .u8 0),(.int .u8 0),(.int .u8 0),(.int .u8 0),(.int .u8 0),(.int .u8 0),(.int .u8 0),(.int .u8 0),(.int .u8 0),(.int .u8 0),(.int .u8 0),(.int .u8 0),(.int .u8 0),(.int .u8 0),(.int .u8 0),(.int .u8 0),(.int .u8 0),(.int .u8 0),(.int .u8 0),(.int .u8 0),(.int .u8 0),(.int .u8 0),(.int .u8 0),(.int .u8 0),(.int .u8 0),(.int .u8 0),(.int .u8 0),(.int .u8 0),(.int .u8 0),(.int .u8 0)]) 32 32:=⟨by kernel_rfl⟩
instance:bA prog 39 (.slice 53):=⟨underlying39⟩
instance:cm prog 39 (.slice none 0 0) 1 24:=⟨by kernel_rfl⟩
instance:bA prog 46 (.slice 28):=⟨underlying46⟩
instance:cm prog 46 (.slice none 0 0) 1 24:=⟨by kernel_rfl⟩
instance:cm prog 47 (.pointer none) 1 8:=⟨by kernel_rfl⟩
instance:bA prog 50 (.array 4 4):=⟨underlying50⟩
instance:cm prog 50 (.agg #[(.bool false),(.bool false),(.bool false),(.bool false)]) 4 4:=⟨by kernel_rfl⟩
instance:bA prog 51 (.slice 55):=⟨underlying51⟩
instance:cm prog 51 (.slice none 0 0) 1 24:=⟨by kernel_rfl⟩
instance:bA prog 53 t52.desc:=⟨underlying53⟩
instance:cm prog 53 (.agg #[(.int .i64 0),(.int .i64 0),(.int .i64 0),(.int .i64 0),(.int .i64 0),(.slice none 0 0),(.slice none 0 0),(.int .u8 0),(.int .u8 0),(.int .u8 0),(.int .u8 0),(.int .u8 0),(.int .u8 0),(.int .u8 0),(.int .u8 0),(.int .u8 0),(.int .u8 0),(.int .u8 0),(.int .u8 0),(.int .u8 0),(.int .u8 0),(.int .u8 0),(.int .u8 0),(.int .u8 0),(.int .u8 0),(.int .u8 0),(.int .u8 0),(.int .u8 0),(.int .u8 0),(.int .u8 0),(.int .u8 0),(.int .u8 0),(.int .u8 0),(.int .u8 0),(.int .u8 0),(.int .u8 0),(.int .u8 0),(.int .u8 0),(.int .u8 0)]) 39 120:=⟨by kernel_rfl⟩
instance:pI prog 53 6 6:=⟨_,_,underlying53,j,j,by kernel_rfl⟩
instance:bA prog 55 t54.desc:=⟨underlying55⟩
instance:cm prog 55 (.agg #[(.int .i64 0),(.int .i64 0),(.int .i64 0),(.int .u8 0),(.int .u8 0),(.int .u8 0),(.int .u8 0),(.int .u8 0),(.int .u8 0),(.int .u8 0),(.int .u8 0),(.int .u8 0),(.int .u8 0),(.int .u8 0),(.int .u8 0),(.int .u8 0),(.int .u8 0),(.int .u8 0),(.int .u8 0),(.int .u8 0),(.int .u8 0),(.int .u8 0),(.int .u8 0),(.int .u8 0),(.int .u8 0),(.int .u8 0),(.int .u8 0),(.int .u8 0),(.int .u8 0),(.int .u8 0),(.int .u8 0),(.int .u8 0),(.int .u8 0),(.int .u8 0),(.int .u8 0),(.int .i64 0),(.int .u8 0),(.int .u8 0),(.int .u8 0),(.int .u8 0),(.int .u8 0),(.int .u8 0),(.int .u8 0),(.int .u8 0),(.int .u8 0),(.int .u8 0),(.int .u8 0),(.int .u8 0),(.int .u8 0),(.int .u8 0),(.int .u8 0),(.int .u8 0),(.int .u8 0),(.int .u8 0),(.int .u8 0),(.int .u8 0),(.int .u8 0),(.int .u8 0),(.int .u8 0),(.int .u8 0),(.int .u8 0),(.int .u8 0),(.int .u8 0),(.int .u8 0),(.int .u8 0),(.int .u8 0),(.int .u8 0),(.int .u8 0)]) 68 96:=⟨by kernel_rfl⟩
instance:bA prog 60 (.pointer 100):=⟨underlying60⟩
instance:cm prog 60 (.pointer none) 1 8:=⟨by kernel_rfl⟩
instance:bA prog 65 (.slice 37):=⟨underlying65⟩
instance:cm prog 65 (.slice none 0 0) 1 24:=⟨by kernel_rfl⟩
instance:bA prog 69 (.pointer 159):=⟨underlying69⟩
instance:bA prog 70 (.slice 47):=⟨underlying70⟩
instance:bA prog 71 (.slice 60):=⟨underlying71⟩
instance:cm prog 71 (.slice none 0 0) 1 24:=⟨by kernel_rfl⟩
instance:bA prog 72 (.slice 92):=⟨underlying72⟩
instance:cm prog 72 (.slice none 0 0) 1 24:=⟨by kernel_rfl⟩
instance:bA prog 80 (.pointer 152):=⟨underlying80⟩
instance:bA prog 82 (.slice 127):=⟨underlying82⟩
instance:cm prog 82 (.slice none 0 0) 1 24:=⟨by kernel_rfl⟩
instance:cm prog 92 (.pointer none) 1 8:=⟨by kernel_rfl⟩
instance:bA prog 97 (.slice 118):=⟨underlying97⟩
instance:cm prog 97 (.slice none 0 0) 1 24:=⟨by kernel_rfl⟩
instance:bA prog 104 t103.desc:=⟨underlying104⟩
instance:cm prog 104 (.agg #[(.int .i64 0),(.int .i64 0),(.int .i64 0),(.string ⟨#[]⟩),(.int .i64 0),(.int .i64 0),(.int .i64 0),(.int .i64 0),(.bool false)]) 9 80:=⟨by kernel_rfl⟩
instance:bA prog 118 t117.desc:=⟨underlying118⟩
instance:cm prog 118 (.agg #[(.int .i64 0),(.int .i64 0),(.int .i64 0),(.int .i64 0)]) 4 32:=⟨by kernel_rfl⟩
instance:bA prog 127 t126.desc:=⟨underlying127⟩
instance:cm prog 127 (.agg #[(.int .i64 0),(.int .i64 0),(.int .i64 0),(.int .i64 0),(.slice none 0 0)]) 5 56:=⟨by kernel_rfl⟩
instance:bA prog 129 t128.desc:=⟨underlying129⟩
instance:cm prog 129 (.agg #[(.int .i64 0),(.int .i64 0),(.int .i64 0)]) 3 24:=⟨by kernel_rfl⟩
instance:bA prog 133 (.int .u64):=⟨underlying133⟩
instance:bA prog 134 (.int .u64):=⟨underlying134⟩
instance:bA prog 135 (.int .u32):=⟨underlying135⟩
instance:cm prog 135 (.int .u32 0) 1 4:=⟨by kernel_rfl⟩
instance:bA prog 136 (.array 8 135):=⟨underlying136⟩
instance:cm prog 136 (.agg #[(.int .u32 0),(.int .u32 0),(.int .u32 0),(.int .u32 0),(.int .u32 0),(.int .u32 0),(.int .u32 0),(.int .u32 0)]) 8 32:=⟨by kernel_rfl⟩
instance:bA prog 137 (.array 64 135):=⟨underlying137⟩
instance:cm prog 137 (.agg #[(.int .u32 0),(.int .u32 0),(.int .u32 0),(.int .u32 0),(.int .u32 0),(.int .u32 0),(.int .u32 0),(.int .u32 0),(.int .u32 0),(.int .u32 0),(.int .u32 0),(.int .u32 0),(.int .u32 0),(.int .u32 0),(.int .u32 0),(.int .u32 0),(.int .u32 0),(.int .u32 0),(.int .u32 0),(.int .u32 0),(.int .u32 0),(.int .u32 0),(.int .u32 0),(.int .u32 0),(.int .u32 0),(.int .u32 0),(.int .u32 0),(.int .u32 0),(.int .u32 0),(.int .u32 0),(.int .u32 0),(.int .u32 0),(.int .u32 0),(.int .u32 0),(.int .u32 0),(.int .u32 0),(.int .u32 0),(.int .u32 0),(.int .u32 0),(.int .u32 0),(.int .u32 0),(.int .u32 0),(.int .u32 0),(.int .u32 0),(.int .u32 0),(.int .u32 0),(.int .u32 0),(.int .u32 0),(.int .u32 0),(.int .u32 0),(.int .u32 0),(.int .u32 0),(.int .u32 0),(.int .u32 0),(.int .u32 0),(.int .u32 0),(.int .u32 0),(.int .u32 0),(.int .u32 0),(.int .u32 0),(.int .u32 0),(.int .u32 0),(.int .u32 0),(.int .u32 0)]) 64 256:=⟨by kernel_rfl⟩
instance:bA prog 143 (.slice 182):=⟨underlying143⟩
instance:cm prog 143 (.slice none 0 0) 1 24:=⟨by kernel_rfl⟩
instance:bA prog 144 (.slice 316):=⟨underlying144⟩
instance:cm prog 144 (.slice none 0 0) 1 24:=⟨by kernel_rfl⟩
instance:bA prog 145 (.map 3 3):=⟨underlying145⟩
instance:bA prog 148 (.slice 154):=⟨underlying148⟩
instance:cm prog 148 (.slice none 0 0) 1 24:=⟨by kernel_rfl⟩
instance:bA prog 149 (.pointer 293):=⟨underlying149⟩
instance:cm prog 149 (.pointer none) 1 8:=⟨by kernel_rfl⟩
instance:cm prog 150 (.pointer none) 1 8:=⟨by kernel_rfl⟩
instance:bA prog 154 t153.desc:=⟨underlying154⟩
instance:cm prog 154 (.agg #[(.slice none 0 0),(.slice none 0 0)]) 2 48:=⟨by kernel_rfl⟩
instance:bA prog 160 (.array 8 135):=⟨underlying160⟩
instance:cm prog 160 (.agg #[(.int .u32 0),(.int .u32 0),(.int .u32 0),(.int .u32 0),(.int .u32 0),(.int .u32 0),(.int .u32 0),(.int .u32 0)]) 8 32:=⟨by kernel_rfl⟩
instance:bA prog 162 (.array 128 5):=⟨underlying162⟩
instance:cm prog 162 (.agg #[(.int .u8 0),(.int .u8 0),(.int .u8 0),(.int .u8 0),(.int .u8 0),(.int .u8 0),(.int .u8 0),(.int .u8 0),(.int .u8 0),(.int .u8 0),(.int .u8 0),(.int .u8 0),(.int .u8 0),(.int .u8 0),(.int .u8 0),(.int .u8 0),(.int .u8 0),(.int .u8 0),(.int .u8 0),(.int .u8 0),(.int .u8 0),(.int .u8 0),(.int .u8 0),(.int .u8 0),(.int .u8 0),(.int .u8 0),(.int .u8 0),(.int .u8 0),(.int .u8 0),(.int .u8 0),(.int .u8 0),(.int .u8 0),(.int .u8 0),(.int .u8 0),(.int .u8 0),(.int .u8 0),(.int .u8 0),(.int .u8 0),(.int .u8 0),(.int .u8 0),(.int .u8 0),(.int .u8 0),(.int .u8 0),(.int .u8 0),(.int .u8 0),(.int .u8 0),(.int .u8 0),(.int .u8 0),(.int .u8 0),(.int .u8 0),(.int .u8 0),(.int .u8 0),(.int .u8 0),(.int .u8 0),(.int .u8 0),(.int .u8 0),(.int .u8 0),(.int .u8 0),(.int .u8 0),(.int .u8 0),(.int .u8 0),(.int .u8 0),(.int .u8 0),(.int .u8 0),(.int .u8 0),(.int .u8 0),(.int .u8 0),(.int .u8 0),(.int .u8 0),(.int .u8 0),(.int .u8 0),(.int .u8 0),(.int .u8 0),(.int .u8 0),(.int .u8 0),(.int .u8 0),(.int .u8 0),(.int .u8 0),(.int .u8 0),(.int .u8 0),(.int .u8 0),(.int .u8 0),(.int .u8 0),(.int .u8 0),(.int .u8 0),(.int .u8 0),(.int .u8 0),(.int .u8 0),(.int .u8 0),(.int .u8 0),(.int .u8 0),(.int .u8 0),(.int .u8 0),(.int .u8 0),(.int .u8 0),(.int .u8 0),(.int .u8 0),(.int .u8 0),(.int .u8 0),(.int .u8 0),(.int .u8 0),(.int .u8 0),(.int .u8 0),(.int .u8 0),(.int .u8 0),(.int .u8 0),(.int .u8 0),(.int .u8 0),(.int .u8 0),(.int .u8 0),(.int .u8 0),(.int .u8 0),(.int .u8 0),(.int .u8 0),(.int .u8 0),(.int .u8 0),(.int .u8 0),(.int .u8 0),(.int .u8 0),(.int .u8 0),(.int .u8 0),(.int .u8 0),(.int .u8 0),(.int .u8 0),(.int .u8 0),(.int .u8 0),(.int .u8 0),(.int .u8 0)]) 128 128:=⟨by kernel_rfl⟩
instance:cm prog 167 (.pointer none) 1 8:=⟨by kernel_rfl⟩
instance:cm prog 168 (.pointer none) 1 8:=⟨by kernel_rfl⟩
instance:cm prog 174 (.pointer none) 1 8:=⟨by kernel_rfl⟩
instance:cm prog 178 (.pointer none) 1 8:=⟨by kernel_rfl⟩
instance:bA prog 182 t181.desc:=⟨underlying182⟩
instance:cm prog 182 (.agg #[(.int .i64 0),(.int .i64 0),(.int .i64 0),(.int .i64 0),(.slice none 0 0)]) 5 56:=⟨by kernel_rfl⟩
instance:cm prog 190 (.agg #[(.slice none 0 0)]) 1 24:=⟨by kernel_rfl⟩
instance:bA prog 230 (.pointer 373):=⟨underlying230⟩
instance:cm prog 230 (.pointer none) 1 8:=⟨by kernel_rfl⟩
instance:bA prog 231 (.map 118 4):=⟨underlying231⟩
instance:bA prog 232 (.map 323 129):=⟨underlying232⟩
instance:bA prog 235 (.map 3 129):=⟨underlying235⟩
instance:bA prog 238 (.map 3 167):=⟨underlying238⟩
instance:bA prog 245 (.map 3 174):=⟨underlying245⟩
instance:bA prog 275 (.map 3 55):=⟨underlying275⟩
instance:bA prog 284 t283.desc:=⟨underlying284⟩
instance:cm prog 284 (.agg #[(.int .i64 0),(.slice none 0 0),(.slice none 0 0)]) 3 56:=⟨by kernel_rfl⟩
instance:cm prog 288 (.pointer none) 1 8:=⟨by kernel_rfl⟩
instance:cm prog 290 (.pointer none) 1 8:=⟨by kernel_rfl⟩
instance:bA prog 291 (.array 2 288):=⟨underlying291⟩
instance:bA prog 294 (.map 3 53):=⟨underlying294⟩
instance:bA prog 297 (.map 3 230):=⟨underlying297⟩
instance:bA prog 302 (.array 256 4):=⟨underlying302⟩
instance:cm prog 302 (.agg #[(.bool false),(.bool false),(.bool false),(.bool false),(.bool false),(.bool false),(.bool false),(.bool false),(.bool false),(.bool false),(.bool false),(.bool false),(.bool false),(.bool false),(.bool false),(.bool false),(.bool false),(.bool false),(.bool false),(.bool false),(.bool false),(.bool false),(.bool false),(.bool false),(.bool false),(.bool false),(.bool false),(.bool false),(.bool false),(.bool false),(.bool false),(.bool false),(.bool false),(.bool false),(.bool false),(.bool false),(.bool false),(.bool false),(.bool false),(.bool false),(.bool false),(.bool false),(.bool false),(.bool false),(.bool false),(.bool false),(.bool false),(.bool false),(.bool false),(.bool false),(.bool false),(.bool false),(.bool false),(.bool false),(.bool false),(.bool false),(.bool false),(.bool false),(.bool false),(.bool false),(.bool false),(.bool false),(.bool false),(.bool false),(.bool false),(.bool false),(.bool false),(.bool false),(.bool false),(.bool false),(.bool false),(.bool false),(.bool false),(.bool false),(.bool false),(.bool false),(.bool false),(.bool false),(.bool false),(.bool false),(.bool false),(.bool false),(.bool false),(.bool false),(.bool false),(.bool false),(.bool false),(.bool false),(.bool false),(.bool false),(.bool false),(.bool false),(.bool false),(.bool false),(.bool false),(.bool false),(.bool false),(.bool false),(.bool false),(.bool false),(.bool false),(.bool false),(.bool false),(.bool false),(.bool false),(.bool false),(.bool false),(.bool false),(.bool false),(.bool false),(.bool false),(.bool false),(.bool false),(.bool false),(.bool false),(.bool false),(.bool false),(.bool false),(.bool false),(.bool false),(.bool false),(.bool false),(.bool false),(.bool false),(.bool false),(.bool false),(.bool false),(.bool false),(.bool false),(.bool false),(.bool false),(.bool false),(.bool false),(.bool false),(.bool false),(.bool false),(.bool false),(.bool false),(.bool false),(.bool false),(.bool false),(.bool false),(.bool false),(.bool false),(.bool false),(.bool false),(.bool false),(.bool false),(.bool false),(.bool false),(.bool false),(.bool false),(.bool false),(.bool false),(.bool false),(.bool false),(.bool false),(.bool false),(.bool false),(.bool false),(.bool false),(.bool false),(.bool false),(.bool false),(.bool false),(.bool false),(.bool false),(.bool false),(.bool false),(.bool false),(.bool false),(.bool false),(.bool false),(.bool false),(.bool false),(.bool false),(.bool false),(.bool false),(.bool false),(.bool false),(.bool false),(.bool false),(.bool false),(.bool false),(.bool false),(.bool false),(.bool false),(.bool false),(.bool false),(.bool false),(.bool false),(.bool false),(.bool false),(.bool false),(.bool false),(.bool false),(.bool false),(.bool false),(.bool false),(.bool false),(.bool false),(.bool false),(.bool false),(.bool false),(.bool false),(.bool false),(.bool false),(.bool false),(.bool false),(.bool false),(.bool false),(.bool false),(.bool false),(.bool false),(.bool false),(.bool false),(.bool false),(.bool false),(.bool false),(.bool false),(.bool false),(.bool false),(.bool false),(.bool false),(.bool false),(.bool false),(.bool false),(.bool false),(.bool false),(.bool false),(.bool false),(.bool false),(.bool false),(.bool false),(.bool false),(.bool false),(.bool false),(.bool false),(.bool false),(.bool false),(.bool false),(.bool false),(.bool false),(.bool false),(.bool false),(.bool false),(.bool false),(.bool false),(.bool false),(.bool false),(.bool false),(.bool false),(.bool false),(.bool false),(.bool false),(.bool false)]) 256 256:=⟨by kernel_rfl⟩
instance:cm prog 307 .nilFunc 1 8:=⟨by kernel_rfl⟩
instance:bA prog 316 t315.desc:=⟨underlying316⟩
instance:cm prog 316 (.agg #[(.int .i64 0),(.int .i64 0),(.int .i64 0),(.int .i64 0),(.int .i64 0)]) 5 40:=⟨by kernel_rfl⟩
instance:bA prog 323 t322.desc:=⟨underlying323⟩
instance:cm prog 323 (.agg #[(.int .i64 0),(.int .i64 0)]) 2 16:=⟨by kernel_rfl⟩
instance:bA prog 325 (.array 64 5):=⟨underlying325⟩
instance:cm prog 325 (.agg #[(.int .u8 0),(.int .u8 0),(.int .u8 0),(.int .u8 0),(.int .u8 0),(.int .u8 0),(.int .u8 0),(.int .u8 0),(.int .u8 0),(.int .u8 0),(.int .u8 0),(.int .u8 0),(.int .u8 0),(.int .u8 0),(.int .u8 0),(.int .u8 0),(.int .u8 0),(.int .u8 0),(.int .u8 0),(.int .u8 0),(.int .u8 0),(.int .u8 0),(.int .u8 0),(.int .u8 0),(.int .u8 0),(.int .u8 0),(.int .u8 0),(.int .u8 0),(.int .u8 0),(.int .u8 0),(.int .u8 0),(.int .u8 0),(.int .u8 0),(.int .u8 0),(.int .u8 0),(.int .u8 0),(.int .u8 0),(.int .u8 0),(.int .u8 0),(.int .u8 0),(.int .u8 0),(.int .u8 0),(.int .u8 0),(.int .u8 0),(.int .u8 0),(.int .u8 0),(.int .u8 0),(.int .u8 0),(.int .u8 0),(.int .u8 0),(.int .u8 0),(.int .u8 0),(.int .u8 0),(.int .u8 0),(.int .u8 0),(.int .u8 0),(.int .u8 0),(.int .u8 0),(.int .u8 0),(.int .u8 0),(.int .u8 0),(.int .u8 0),(.int .u8 0),(.int .u8 0)]) 64 64:=⟨by kernel_rfl⟩
instance:bA prog 331 (.map 3 150):=⟨underlying331⟩
instance:bA prog 334 (.map 3 290):=⟨underlying334⟩
instance:cm prog 365 .nilFunc 1 8:=⟨by kernel_rfl⟩
instance:bA prog 366 (.slice 365):=⟨underlying366⟩
instance:bA prog 371 (.map 3 4):=⟨underlying371⟩
instance:cm prog 371 (.map none) 1 8:=⟨by kernel_rfl⟩
instance:rq prog:=⟨by kernel_rfl⟩
instance:Entry prog 117:=⟨_,func117,by kernel_rfl,by kernel_rfl⟩
instance:Entry prog 158:=⟨_,func158,by kernel_rfl,by kernel_rfl⟩
instance:Entry prog 161:=⟨_,func161,by kernel_rfl,by kernel_rfl⟩
instance:Entry prog 190:=⟨_,func190,by kernel_rfl,by kernel_rfl⟩
instance:Entry prog 194:=⟨_,func194,by kernel_rfl,by kernel_rfl⟩
instance:Entry prog 208:=⟨_,func208,by kernel_rfl,by kernel_rfl⟩
instance:Entry prog 210:=⟨_,func210,by kernel_rfl,by kernel_rfl⟩
instance:Entry prog 219:=⟨_,func219,by kernel_rfl,by kernel_rfl⟩
instance:Entry prog 222:=⟨_,func222,by kernel_rfl,by kernel_rfl⟩
instance:Entry prog 226:=⟨_,func226,by kernel_rfl,by kernel_rfl⟩
instance:Entry prog 228:=⟨_,func228,by kernel_rfl,by kernel_rfl⟩
instance:Entry prog 231:=⟨_,func231,by kernel_rfl,by kernel_rfl⟩
instance:Entry prog 232:=⟨_,func232,by kernel_rfl,by kernel_rfl⟩
instance:Entry prog 246:=⟨_,func246,by kernel_rfl,by kernel_rfl⟩
instance:Entry prog 247:=⟨_,func247,by kernel_rfl,by kernel_rfl⟩
instance:Entry prog 248:=⟨_,func248,by kernel_rfl,by kernel_rfl⟩
instance:Entry prog 249:=⟨_,func249,by kernel_rfl,by kernel_rfl⟩
instance:Entry prog 257:=⟨_,func257,by kernel_rfl,by kernel_rfl⟩
instance:Entry prog 259:=⟨_,func259,by kernel_rfl,by kernel_rfl⟩
instance:Entry prog 271:=⟨_,func271,by kernel_rfl,by kernel_rfl⟩
instance:Entry prog 273:=⟨_,func273,by kernel_rfl,by kernel_rfl⟩
instance:Entry prog 274:=⟨_,func274,by kernel_rfl,by kernel_rfl⟩
instance:Entry prog 290:=⟨_,func290,by kernel_rfl,by kernel_rfl⟩
instance:Entry prog 291:=⟨_,func291,by kernel_rfl,by kernel_rfl⟩
instance:Entry prog 300:=⟨_,func300,by kernel_rfl,by kernel_rfl⟩
instance:Entry prog 306:=⟨_,func306,by kernel_rfl,by kernel_rfl⟩
instance:Entry prog 308:=⟨_,func308,by kernel_rfl,by kernel_rfl⟩
instance:Entry prog 314:=⟨_,func314,by kernel_rfl,by kernel_rfl⟩
instance:Entry prog 327:=⟨_,func327,by kernel_rfl,by kernel_rfl⟩
instance:Entry prog 328:=⟨_,func328,by kernel_rfl,by kernel_rfl⟩
instance:Entry prog 329:=⟨_,func329,by kernel_rfl,by kernel_rfl⟩
instance:Entry prog 335:=⟨_,func335,by kernel_rfl,by kernel_rfl⟩
instance:Entry prog 345:=⟨_,func345,by kernel_rfl,by kernel_rfl⟩
instance:Entry prog 348:=⟨_,func348,by kernel_rfl,by kernel_rfl⟩
instance:fq prog:=fq.make prog
 [(7,[(0,0),(1,1),(2,2),(3,3)]),(8,[(0,0),(1,1),(2,2),(3,3)]),(13,[(0,0),(1,1)]),(14,[(0,0),(1,1)]),(18,[(0,0)]),(19,[(0,0)]),(30,[(0,0),(1,1),(2,2),(3,3),(4,4),(5,5),(6,6)]),(31,[(0,0),(1,1),(2,2),(3,3),(4,4),(5,5),(6,6)]),(32,[(0,0),(1,1),(2,2),(3,3),(4,4)]),(33,[(0,0),(1,1),(2,2),(3,3),(4,4)]),(52,[(0,0),(1,1),(2,2),(3,3),(4,4),(5,5),(6,6),(7,7)]),(53,[(0,0),(1,1),(2,2),(3,3),(4,4),(5,5),(6,6),(7,7)]),(54,[(0,0),(1,1),(2,2),(3,3),(4,35),(5,36)]),(55,[(0,0),(1,1),(2,2),(3,3),(4,35),(5,36)]),(66,[(0,0)]),(67,[(0,0)]),(73,[(0,0),(1,1),(2,2),(3,3),(4,4),(5,5)]),(74,[(0,0),(1,1),(2,2),(3,3),(4,4),(5,5)]),(76,[(0,0),(1,1)]),(77,[(0,0),(1,1)]),(78,[(0,0),(1,2)]),(79,[(0,0),(1,2)]),(84,[(0,0),(1,1),(2,2),(3,3),(4,4),(5,5),(6,6)]),(85,[(0,0),(1,1),(2,2),(3,3),(4,4),(5,5),(6,6)]),(95,[(0,0),(1,1)]),(96,[(0,0),(1,1)]),(99,[(0,0),(1,1),(2,2),(3,3)]),(100,[(0,0),(1,1),(2,2),(3,3)]),(103,[(0,0),(1,1),(2,2),(3,3),(4,4),(5,5),(6,6),(7,7),(8,8)]),(104,[(0,0),(1,1),(2,2),(3,3),(4,4),(5,5),(6,6),(7,7),(8,8)]),(117,[(0,0),(1,1),(2,2),(3,3)]),(118,[(0,0),(1,1),(2,2),(3,3)]),(126,[(0,0),(1,4)]),(127,[(0,0),(1,4)]),(128,[(0,0),(1,1),(2,2)]),(129,[(0,0),(1,1),(2,2)]),(146,[(0,0),(1,1),(2,2)]),(147,[(0,0),(1,1),(2,2)]),(151,[(0,0),(1,1),(2,2),(3,3),(4,4),(5,5),(6,6)]),(152,[(0,0),(1,1),(2,2),(3,3),(4,4),(5,5),(6,6)]),(153,[(0,0),(1,1)]),(154,[(0,0),(1,1)]),(158,[(0,0)]),(159,[(0,0)]),(169,[(0,0),(1,1),(2,2),(3,3),(4,4),(5,5),(6,6),(7,7),(8,8),(9,9)]),(170,[(0,0),(1,1),(2,2),(3,3),(4,4),(5,5),(6,6),(7,7),(8,8),(9,9)]),(179,[(0,0),(1,1),(2,2)]),(180,[(0,0),(1,1),(2,2)]),(181,[(0,0),(1,1),(2,2),(3,3),(4,4)]),(182,[(0,0),(1,1),(2,2),(3,3),(4,4)]),(189,[(0,0)]),(190,[(0,0)]),(233,[(0,0),(1,1),(2,2),(3,3),(4,4)]),(234,[(0,0),(1,1),(2,2),(3,3),(4,4)]),(236,[(0,0)]),(237,[(0,0)]),(239,[(0,0)]),(240,[(0,0)]),(246,[(0,0)]),(247,[(0,0)]),(270,[(0,0),(1,1)]),(271,[(0,0),(1,1)]),(276,[(0,0)]),(277,[(0,0)]),(283,[(0,0),(1,1),(2,2)]),(284,[(0,0),(1,1),(2,2)]),(292,[(0,0),(1,1),(2,2),(3,3),(4,4),(5,7),(6,8),(7,9),(8,10),(9,12),(10,13),(11,14),(12,15),(13,16),(14,17),(15,18)]),(293,[(0,0),(1,1),(2,2),(3,3),(4,4),(5,7),(6,8),(7,9),(8,10),(9,12),(10,13),(11,14),(12,15),(13,16),(14,17),(15,18)]),(295,[(0,0)]),(296,[(0,0)]),(298,[(0,0)]),(299,[(0,0)]),(315,[(0,0),(1,1),(2,2),(3,3),(4,4)]),(316,[(0,0),(1,1),(2,2),(3,3),(4,4)]),(322,[(0,0),(1,1)]),(323,[(0,0),(1,1)]),(332,[(0,0)]),(333,[(0,0)]),(335,[(0,0)]),(336,[(0,0)]),(372,[(0,0),(1,1),(2,2),(3,3),(4,4),(5,5)]),(373,[(0,0),(1,1),(2,2),(3,3),(4,4),(5,5)]),(389,[(0,0)]),(390,[(0,0)]),(412,[(0,0),(1,1)]),(413,[(0,0),(1,1)]),(469,[(0,0),(1,1),(2,2),(3,3)]),(470,[(0,0),(1,1),(2,2),(3,3)]),(480,[(0,0),(1,1),(2,2),(3,3),(4,4),(5,5),(6,6),(7,7),(8,8),(9,9),(10,10)]),(481,[(0,0),(1,1),(2,2),(3,3),(4,4),(5,5),(6,6),(7,7),(8,8),(9,9),(10,10)])]
 [(4,3),(15,1),(16,1),(17,1),(22,2),(24,1),(28,2),(29,2),(34,1),(39,2),(41,1),(46,2),(47,1),(51,2),(60,1),(62,1),(65,2),(69,1),(70,2),(71,2),(72,2),(80,1),(81,1),(82,2),(83,1),(92,1),(93,1),(97,2),(98,1),(140,1),(143,2),(144,2),(148,2),(149,1),(150,1),(167,1),(168,1),(174,1),(178,1),(202,1),(223,1),(228,1),(230,1),(254,1),(256,1),(286,1),(288,1),(290,1),(306,1),(366,2),(453,1),(457,1),(477,1)]
 [0,1,2,3,4,5,6,9,10,11,12,15,16,17,20,21,22,23,24,25,26,27,28,29,34,35,38,39,40,41,42,43,44,45,46,47,48,49,51,56,57,58,59,60,61,62,63,64,65,68,69,70,71,72,75,80,81,82,83,86,87,88,89,90,91,92,93,94,97,98,101,102,105,106,107,108,109,110,111,112,113,114,115,116,119,120,121,122,123,124,125,130,131,132,133,134,135,138,139,140,141,142,143,144,145,148,149,150,155,156,157,161,163,164,165,166,167,168,171,172,173,174,175,176,177,178,183,184,185,186,187,188,191,192,193,194,195,196,197,198,199,200,201,202,203,204,205,206,207,208,209,210,211,212,213,214,215,216,217,218,219,220,221,222,223,224,225,226,227,228,229,230,231,232,235,238,241,242,243,244,245,248,249,250,251,252,253,254,255,256,257,258,259,260,261,262,263,264,265,266,267,268,269,272,273,274,275,278,279,280,281,282,285,286,287,288,289,290,294,297,300,303,304,305,306,307,308,309,310,311,312,313,314,317,318,319,320,321,324,326,327,328,329,330,331,334,337,338,339,340,341,342,343,344,345,346,347,348,349,350,351,352,353,354,355,356,357,358,359,360,361,362,363,364,365,366,367,368,369,370,371,374,375,376,377,378,379,380,381,382,383,384,385,386,387,388,391,392,393,394,395,396,397,398,399,400,401,402,403,404,405,406,407,408,409,410,415,416,417,418,419,420,421,422,423,424,425,426,427,428,429,430,431,432,433,434,435,436,437,438,439,440,441,442,443,444,445,446,447,448,449,450,451,452,453,454,455,456,457,458,459,460,461,462,463,464,465,466,467,468,474,475,476,477,478,479,482,483,484,485,486,487,488,489,490,491,492,493,494,495,496,497]
 405 [0,1,269,298,344,362,363,364,365,366,367,368,369,370,371,372,373,374,375,376,377,378,379,380,381,382,383,384,385,386,387,388,389,390,391,392,393,394,395,396,397,398,399,400,401,402,403]
 (by kernel_rfl) (by kernel_rfl) (by kernel_rfl)
end Go.Proofs.YtngjfjhomikplaaGreatDoor.R
namespace Go.Proofs.YtngjfjhomikplaaGreatDoor.R
open Go.Proofs.Tryz Go Go.RowKit Go.Proofs
theorem zr(x:Nat):IntKind.u32.wrap (x:Int)=((BitVec.ofNat 32 x).toNat:Int):=by rw [IntKind.wrap_u32,m8];omega
theorem nk(x y:BitVec 32):evalBin .or .u32 (x.toNat:Int) (y.toNat:Int)=some (eY (x|||y)):=by
 show some (Value.int .u32 (IntKind.u32.wrap ((BitVec.ofInt IntKind.u32.bits (x.toNat:Int)|||BitVec.ofInt IntKind.u32.bits (y.toNat:Int)).toNat:Int)))=_;rw [ofInt_u32,ofInt_u32];exact aG (λz=>some (Value.int .u32 z)) (tx _)
theorem hD(x y:BitVec 32):evalBin .add .u32 (x.toNat:Int) (y.toNat:Int)=some (eY (x+y)):=by
 show some (Value.int .u32 (IntKind.u32.wrap ((x.toNat:Int)+(y.toNat:Int))))=_;rw [<-Int.natCast_add,zr]
 congr 3
theorem nl(x:BitVec 32)(n:Nat)(h:n<=32):evalShift .shl .u32 (x.toNat:Int) (n:Int)=some (eY (x<<<n)):=by
 show some (Value.int .u32 (IntKind.u32.wrap ((x.toNat:Int)*2^(min ((n:Int).toNat) IntKind.u32.bits))))=_;have a:min ((n:Int).toNat) IntKind.u32.bits=n:=by show min ((n:Int).toNat) 32=n;rw [m9];omega
 rw [a,show(x.toNat:Int)*2^n=((x.toNat*2^n:Nat):Int) by simp,zr]
 congr 3
 rw [m8,BitVec.toNat_shiftLeft,Nat.shiftLeft_eq]
theorem lU(x:BitVec 32)(n:Nat)(h:n<=32):evalShift .shr .u32 (x.toNat:Int) (n:Int)=some (eY (x>>>n)):=by
 show some (Value.int .u32 ((x.toNat:Int).fdiv (2^(min ((n:Int).toNat) IntKind.u32.bits))))=_;have a:min ((n:Int).toNat) IntKind.u32.bits=n:=by show min ((n:Int).toNat) 32=n;rw [m9];omega
 rw [a,uc _ (by exact Int.le_of_lt (Int.pow_pos (by decide))),show(2:Int)^n=((2^n:Nat):Int) by simp,<-Int.natCast_ediv]
 congr 3
 rw [BitVec.toNat_ushiftRight,Nat.shiftRight_eq_div_pow]
theorem ya(a b:Nat)(h:b<=a)(c:a<18446744073709551616):evalBin .sub .u64 (a:Int) (b:Int)=some (.int .u64 ((a-b:Nat):Int)):=by
 show some (Value.int .u64 (IntKind.u64.wrap ((a:Int)-(b:Int))))=_;rw [lK]
 congr 2
 omega
def kT(x:BitVec 32)(n:Nat):BitVec 32:=(x>>>n)|||(x<<<(32-n))
def po(x:BitVec 32):BitVec 32:=kT x 7^^^kT x 18^^^(x>>>3)
def pq(x:BitVec 32):BitVec 32:=kT x 17^^^kT x 19^^^(x>>>10)
def xu(x:BitVec 32):BitVec 32:=kT x 2^^^kT x 13^^^kT x 22
def uv(x:BitVec 32):BitVec 32:=kT x 6^^^kT x 11^^^kT x 25
def uC(x y z:BitVec 32):BitVec 32:=(x&&&y)^^^(~~~x&&&z)
def zn(x y z:BitVec 32):BitVec 32:=(x&&&y)^^^(x&&&z)^^^(y&&&z)
theorem l5{o:World}{x:BitVec 32}{n:Nat}(aJ:n<=32):Calls prog 171 #[eY x,.int .u64 n] o λr w=>r=eY (kT x n)/\w=o:=by
 refine a2 func171 (am 7 j (iu j j j j (by omega) (lU x n aJ) ?_));exact bq 2 j j j (ya 32 n aJ (by decide)) (iu j j j j (by omega) (nl x (32-n) (by omega)) (bq 0 j j j (nk _ _) (aq 1 j j ⟨j,j⟩)))
theorem Hw{o:World}{x:BitVec 32}:Calls prog 122 #[eY x] o λr w=>r=eY (po x)/\w=o:=by
 refine a2 func122 ?_;have a:=l5 (o:=o) (x:=x) (n:=7) (by decide);refine bp 6 a j (λw hw=>?_);subst hw;have a:=l5 (o:=w) (x:=x) (n:=18) (by decide);refine bp 1 a j (λw hw=>?_);subst hw;refine bq 0 j j j (hF _ _) (am 1 j (iu j j j j (by omega) (lU x 3 (by decide)) ?_));exact bq 0 j j j (hF _ _) (aq 1 j j ⟨j,j⟩)
theorem Hx{o:World}{x:BitVec 32}:Calls prog 123 #[eY x] o λr w=>r=eY (pq x)/\w=o:=by
 refine a2 func123 ?_;have a:=l5 (o:=o) (x:=x) (n:=17) (by decide);refine bp 6 a j (λw hw=>?_);subst hw;have a:=l5 (o:=w) (x:=x) (n:=19) (by decide);refine bp 1 a j (λw hw=>?_);subst hw;refine bq 0 j j j (hF _ _) (am 1 j (iu j j j j (by omega) (lU x 10 (by decide)) ?_));exact bq 0 j j j (hF _ _) (aq 1 j j ⟨j,j⟩)
theorem CL{o:World}{x:BitVec 32}:Calls prog 126 #[eY x] o λr w=>r=eY (xu x)/\w=o:=by
 refine a2 func126 ?_;have a:=l5 (o:=o) (x:=x) (n:=2) (by decide);refine bp 6 a j (λw hw=>?_);subst hw;have a:=l5 (o:=w) (x:=x) (n:=13) (by decide);refine bp 1 a j (λw hw=>?_);subst hw;refine bq 0 j j j (hF _ _) ?_;have a:=l5 (o:=w) (x:=x) (n:=22) (by decide);refine bp 1 a j (λw hw=>?_);subst hw;exact bq 0 j j j (hF _ _) (aq 1 j j ⟨j,j⟩)
theorem CM{o:World}{x:BitVec 32}:Calls prog 124 #[eY x] o λr w=>r=eY (uv x)/\w=o:=by
 refine a2 func124 ?_;have a:=l5 (o:=o) (x:=x) (n:=6) (by decide);refine bp 6 a j (λw hw=>?_);subst hw;have a:=l5 (o:=w) (x:=x) (n:=11) (by decide);refine bp 1 a j (λw hw=>?_);subst hw;refine bq 0 j j j (hF _ _) ?_;have a:=l5 (o:=w) (x:=x) (n:=25) (by decide);refine bp 1 a j (λw hw=>?_);subst hw;exact bq 0 j j j (hF _ _) (aq 1 j j ⟨j,j⟩)
theorem choose_spec{o:World}{x y z:BitVec 32}:Calls prog 125 #[eY x,eY y,eY z] o λr w=>r=eY (uC x y z)/\w=o:=by
 refine a2 func125 (bq 7 j j j (lT _ _) (am 1 j (B0 j j j (x8 _) ?_)));exact bq 1 j j j (lT _ _) (bq 0 j j j (hF _ _) (aq 1 j j ⟨j,j⟩))
theorem FS{o:World}{x y z:BitVec 32}:Calls prog 127 #[eY x,eY y,eY z] o λr w=>r=eY (zn x y z)/\w=o:=by
 refine a2 func127 ?_;refine bq 7 j j j (lT _ _) ?_;refine bq 2 j j j (lT _ _) ?_;refine bq 0 j j j (hF _ _) ?_;refine bq 2 j j j (lT _ _) ?_;refine bq 0 j j j (hF _ _) ?_;refine aq 1 j j ?_;exact⟨j,j⟩
structure eT where
 a:BitVec 32
 b:BitVec 32
 c:BitVec 32
 d:BitVec 32
 e:BitVec 32
 f:BitVec 32
 g:BitVec 32
 h:BitVec 32
def eT.ws(s:eT):List (BitVec 32):=[s.a,s.b,s.c,s.d,s.e,s.f,s.g,s.h]
abbrev gb(l:List (BitVec 32)):List Value:=l.map eY
abbrev eT.cs(s:eT):List Value:=[eY s.a,eY s.b,eY s.c,eY s.d,eY s.e,eY s.f,eY s.g,eY s.h]
def oU(c:UInt8):BitVec 32:=BitVec.ofNat 32 c.toNat
def word(p:List UInt8)(i:Nat):BitVec 32:=(oU (p.getD (4*i) 0)<<<24)|||(oU (p.getD (4*i+1) 0)<<<16)|||(oU (p.getD (4*i+2) 0)<<<8)|||oU (p.getD (4*i+3) 0)
def words(p:List UInt8)(n:Nat):List (BitVec 32):=(List.range n).map (word p)
def nA(l:List (BitVec 32)):List (BitVec 32):=l++[l.getD (l.length-16) 0+po (l.getD (l.length-15) 0)+l.getD (l.length-7) 0+pq (l.getD (l.length-2) 0)]
def dY(p:List UInt8):Nat->List (BitVec 32)
 |0=>words p 16
 |J+1=>nA (dY p J)
def fN:List (BitVec 32):=[1116352408#32,1899447441#32,3049323471#32,3921009573#32,961987163#32,1508970993#32,2453635748#32,2870763221#32,3624381080#32,310598401#32,607225278#32,1426881987#32,1925078388#32,2162078206#32,2614888103#32,3248222580#32,3835390401#32,4022224774#32,264347078#32,604807628#32,770255983#32,1249150122#32,1555081692#32,1996064986#32,2554220882#32,2821834349#32,2952996808#32,3210313671#32,3336571891#32,3584528711#32,113926993#32,338241895#32,666307205#32,773529912#32,1294757372#32,1396182291#32,1695183700#32,1986661051#32,2177026350#32,2456956037#32,2730485921#32,2820302411#32,3259730800#32,3345764771#32,3516065817#32,3600352804#32,4094571909#32,275423344#32,430227734#32,506948616#32,659060556#32,883997877#32,958139571#32,1322822218#32,1537002063#32,1747873779#32,1955562222#32,2024104815#32,2227730452#32,2361852424#32,2428436474#32,2756734187#32,3204031479#32,3329325298#32]
def Hl(k w:BitVec 32)(v:eT):eT:=
 ⟨v.h+uv v.e+uC v.e v.f v.g+k+w+(xu v.a+zn v.a v.b v.c),v.a,v.b,v.c,v.d+(v.h+uv v.e+uC v.e v.f v.g+k+w),v.e,v.f,v.g⟩
def rounds(p:List UInt8)(s:eT):Nat->eT
 |0=>s
 |i+1=>Hl (fN.getD i 0) ((dY p 48).getD i 0) (rounds p s i)
def eT.add(s v:eT):eT:=⟨s.a+v.a,s.b+v.b,s.c+v.c,s.d+v.d,s.e+v.e,s.f+v.f,s.g+v.g,s.h+v.h⟩
def jt(p:List UInt8)(s:eT):eT:=s.add (rounds p s 64)
theorem oq(p:List UInt8)(n:Nat):(words p n).length=n:=by simp [words]
theorem Bg(p:List UInt8)(n:Nat):words p (n+1)=words p n++[word p n]:=by simp [words,nO]
theorem hU(p:List UInt8):∀J,(dY p J).length=16+J
 |0=>oq p 16
 |J+1=>by show(nA (dY p J)).length=_;simp only [nA,b0,hU p J,List.length_cons,List.length_nil];omega
theorem BL:fN.length=64:=by decide
def fo(l:List (BitVec 32)):Array Value:=(gb l++List.replicate (64-l.length) (eY 0)).toArray
theorem l6{l:List (BitVec 32)}{J:Nat}(h:J<l.length):(fo l)[J]? =some (eY (l.getD J 0)):=by
 simp [fo,iU,h,List.getD]
theorem tu{l:List (BitVec 32)}(h:l.length<64)(x:BitVec 32):(fo l).setIfInBounds l.length (eY x)=fo (l++[x]):=by
 unfold fo;apply fx;simp only [Array.toList_setIfInBounds,b0,List.length_cons,List.length_nil,gb,List.map_append,List.map_cons,List.map_nil];rw [show 64-l.length=(64-(l.length+1))+1 by omega,rH];simp [List.set_append]
theorem tv{l:List (BitVec 32)}(h:l.length<=64):(fo l).size=64:=by simp [fo];omega
theorem jL(a b:Nat)(h:a*b<9223372036854775808):evalBin .mul .i64 (a:Int) (b:Int)=some (.int .i64 ((a*b:Nat):Int)):=by
 show some (Value.int .i64 (IntKind.i64.wrap ((a:Int)*(b:Int))))=_;rw [<-Int.natCast_mul,jY];generalize a*b=c at*;exact aG (λz=>some (Value.int .i64 z)) (by omega)
theorem gm(a b:Nat)(h:a+b<9223372036854775808):evalBin .add .i64 (a:Int) (b:Int)=some (.int .i64 ((a+b:Nat):Int)):=by
 show some (Value.int .i64 (IntKind.i64.wrap ((a:Int)+(b:Int))))=_;rw [jY];exact aG (λz=>some (Value.int .i64 z)) (by omega)
theorem hE(a b:Nat)(h:b<=a)(c:a<9223372036854775808):evalBin .sub .i64 (a:Int) (b:Int)=some (.int .i64 ((a-b:Nat):Int)):=by
 show some (Value.int .i64 (IntKind.i64.wrap ((a:Int)-(b:Int))))=_;rw [jY];exact aG (λz=>some (Value.int .i64 z)) (by omega)
theorem lP{p:List UInt8}{J:Nat}(h:J<p.length):(au p)[J]? =some (bv (p.getD J 0)):=by simp [au,h,List.getD]
theorem F9{o:World}:Calls prog 66 #[] o λr w=>r= .agg (gb fN).toArray/\C o [] [] w:=by
 have a:Own [] o:=C.start o;refine eV func66 (b7 2 a j (λcW w a=>am 2 j (cN (c:=(gb fN).toArray) j j j (λ_=>by kernel_rfl) ?_)));refine b6 0 a j j j (by decide) (by decide) (λw a=>?_);have a:=C.whole (U:=gb fN) a j;refine bD 0 j ⟨_,gr (U:=gb fN) results66 j j j a.bz,?_⟩;exact⟨j,a.bare⟩
def mixed(s v:eT)(J:Nat):List Value:=(s.add v).cs.take J++s.cs.drop J
theorem pe{J:Nat}(h:J<8):J=0\/J=1\/J=2\/J=3\/J=4\/J=5\/J=6\/J=7:=by omega
theorem zi(s v:eT){J:Nat}(h:J<8):(mixed s v J).toArray.setIfInBounds J (eY (s.ws.getD J 0+v.ws.getD J 0))=(mixed s v (J+1)).toArray:=by
 rcases pe h with rfl|rfl|rfl|rfl|rfl|rfl|rfl|rfl<;>rfl
theorem zh(s v:eT){J:Nat}(h:J<8):(mixed s v J).toArray.size=8:=by
 rcases pe h with rfl|rfl|rfl|rfl|rfl|rfl|rfl|rfl<;>rfl
theorem zg(s v:eT){J:Nat}(h:J<8):(mixed s v J).toArray[J]? =some (eY (s.ws.getD J 0)):=by
 rcases pe h with rfl|rfl|rfl|rfl|rfl|rfl|rfl|rfl<;>rfl
theorem r7(v:eT){J:Nat}(h:J<8):v.cs.toArray[J]? =some (eY (v.ws.getD J 0)):=by
 rcases pe h with rfl|rfl|rfl|rfl|rfl|rfl|rfl|rfl<;>rfl
theorem wA{i:Nat}(h:i<64):(gb fN).toArray[i]? =some (eY (fN.getD i 0)):=by
 have:i<fN.length:=by rw [BL];exact h
 simp [gb,this,List.getD]
theorem pb{w:World}{b off:Nat}{c:Array Value}{e:TypeId}{e6:Nat×Nat}{v:Value}(h:w.heap[b]? =some (.cells c e e6))(a:c[off]? =some v):w.cell? ⟨b,off,none⟩=some v:=by simp [World.cell?,h,a]
theorem AT{o:World}{ba fc:Nat}{s:eT}{A:Option Addr}{p:List UInt8}{c:Nat}(d:Own [R ba s.cs.toArray 160] o)(q:Rd o A (au p))(v:bT A (au p) (av [R ba s.cs.toArray 160]))(aa:o.heap[fc]? =some (.cells (gb fN).toArray 137 (0,0)))(O:fc≠ba)(S:64<=p.length):Calls prog 67 #[ab ba,.slice A p.length c,ab fc] o λr w=>r= .tuple #[]/\C o (av [R ba s.cs.toArray 160]) [R ba (jt p s).cs.toArray 160] w:=by
 obtain⟨u,rfl,_⟩:=q 0 (bv (p.getD 0 0)) (lP (by omega));have P:fc<o.heap.size:=(gv.1 aa).1;have Q:fc∉(av [R ba s.cs.toArray 160]):=by simpa [av] using O
 refine a2 func67 (b7 2 d j (λm w d=>?_));have d:C o (av [R ba s.cs.toArray 160]) (R m (fo (words p 0)) 137::_) w:=d;refine cJ 5 j (ct:=Nat) (λi=>[(0,ab ba),(1,.slice (some u) p.length c),(2,ab fc),(6,ab m),(14,.int .i64 (i:Nat))]) (λi w=>i<=16/\C o (av [R ba s.cs.toArray 160]) [R m (fo (words p i)) 137,R ba s.cs.toArray 160] w) (λi=>16-i) 0 ⟨j,j,j,j,j,aX⟩ ⟨b4 _,d⟩ ?_;rintro i w ⟨H,d⟩;refine b8 4 j j (λD=>?_) (λD=>?_)
 .have k:i<16:=by omega
  have d:=d.drew;refine bt 7 j (λw=>C o (av [R ba s.cs.toArray 160]) [R m (fo (words p i)) 137,R ba s.cs.toArray 160] w) d ?_;refine af 0 3 j (aT 3 j (λw _=>ds j j (jL 4 i (by omega))) (aT 4 j (λw _=>mN (J:=4*i) j j (by omega)) (bR 5 j (λw h=>Rd.cell (h.rd q v) (lP (J:=4*i) (by omega))) (aT 6 j (λw _=>kg j (nj _)) (aT 7 j (λw _=>mO j j (by omega) (nl _ 24 (by decide))) (af 8 2 j (aT 10 j (λw _=>ds j j (jL 4 i (by omega))) (aT 11 j (λw _=>ds j j (gm (4*i) 1 (by omega))) (aT 12 j (λw _=>mN (J:=4*i+1) j j (by omega)) (bR 13 j (λw h=>Rd.cell (h.rd q v) (lP (J:=4*i+1) (by omega))) ?_))))))))));refine aT 14 j (λw _=>kg j (nj _)) (aT 15 j (λw _=>mO j j (by omega) (nl _ 16 (by decide))) (aT 16 j (λw _=>ds j j (nk _ _)) (af 17 2 j (aT 19 j (λw _=>ds j j (jL 4 i (by omega))) (aT 20 j (λw _=>ds j j (gm (4*i) 2 (by omega))) (aT 21 j (λw _=>mN (J:=4*i+2) j j (by omega)) (bR 22 j (λw h=>Rd.cell (h.rd q v) (lP (J:=4*i+2) (by omega))) (aT 23 j (λw _=>kg j (nj _)) (aT 24 j (λw _=>mO j j (by omega) (nl _ 8 (by decide))) ?_)))))))));refine aT 25 j (λw _=>ds j j (nk _ _)) (af 26 2 j (aT 28 j (λw _=>ds j j (jL 4 i (by omega))) (aT 29 j (λw _=>ds j j (gm (4*i) 3 (by omega))) (aT 30 j (λw _=>mN (J:=4*i+3) j j (by omega)) (bR 31 j (λw h=>Rd.cell (h.rd q v) (lP (J:=4*i+3) (by omega))) (aT 32 j (λw _=>kg j (nj _)) (aT 33 j (λw _=>ds j j (nk _ _)) (aT 34 j (λw _=>fe (J:=i) j j (by omega)) (dA 35 j (cB d j j j j (by rw [tv (by rw [oq];omega)];omega) (λw d=>?_)))))))))))
  have d:C o (av [R ba s.cs.toArray 160]) [[(m,.cells (fo (words p (i+1))) 137 (0,0))],R ba s.cs.toArray 160] w:=by
   have e:=tu (l:=words p i) (by rw [oq];omega) (word p i);rw [oq,<-Bg] at e;rw [<-e];exact d
  exact an (cU (bq 1 j j j (cE i (by omega)) (bI 1 j ⟨i+1,⟨j,j,j,j,j,aX⟩,⟨k,d⟩,by omega⟩)))
 have I:i=16:=by omega
 subst I;refine cJ 6 j (ct:=Nat) (λJ=>[(0,ab ba),(1,.slice (some u) p.length c),(2,ab fc),(6,ab m),(8,.int .i64 (16+J:Nat))]) (λJ w=>J<=48/\C o (av [R ba s.cs.toArray 160]) [R m (fo (dY p J)) 137,R ba s.cs.toArray 160] w) (λJ=>48-J) 0 ⟨j,j,j,j,j,aX⟩ ⟨b4 _,d⟩ ?_;rintro J w ⟨L,d⟩;refine b8 5 j j (λE=>?_) (λE=>?_)
 .have k:J<48:=by omega
  have T:=hU p J;have d:=d.drew;refine bt 3 j (λw=>C o (av [R ba s.cs.toArray 160]) [R m (fo (dY p J)) 137,R ba s.cs.toArray 160] w) d (af 0 2 j (aT 2 j (λw _=>ds j j (hE (16+J) 16 (by omega) (by omega))) (aT 3 j (λw _=>fe (J:=16+J-16) j j (by omega)) (bR 4 j (λw h=>h.cell (l6 (by rw [hU];omega))) (af 5 1 j (aT 6 j (λw _=>ds j j (hE (16+J) 15 (by omega) (by omega))) (aT 7 j (λw _=>fe (J:=16+J-15) j j (by omega)) ?_)))))));refine bR 8 j (λw h=>h.cell (l6 (by rw [hU];omega))) (af 11 1 j (aT 12 j (λw _=>ds j j (hE (16+J) 7 (by omega) (by omega))) (aT 13 j (λw _=>fe (J:=16+J-7) j j (by omega)) (bR 14 j (λw h=>h.cell (l6 (by rw [hU];omega))) (af 16 1 j (aT 17 j (λw _=>ds j j (hE (16+J) 2 (by omega) (by omega))) (aT 18 j (λw _=>fe (J:=16+J-2) j j (by omega)) (bR 19 j (λw h=>h.cell (l6 (by rw [hU];omega))) (aR 9 j (bB j j j (Hw (o:=_) (x:=(dY p J).getD (16+J-15) 0)) (λt hw=>?_)))))))))));subst hw;refine an ⟨d,?_⟩;refine aT 10 j (λw _=>ds j j (hD _ _)) (aT 15 j (λw _=>ds j j (hD _ _)) (aR 20 j (bB j j j (Hx (o:=_) (x:=(dY p J).getD (16+J-2) 0)) (λt hw=>?_))));subst hw;refine an ⟨d,?_⟩;refine aT 21 j (λw _=>ds j j (hD _ _)) (aT 22 j (λw _=>fe (J:=16+J) j j (by omega)) (dA 23 j (cB d j j j j (by rw [tv (by rw [hU];omega)];omega) (λw d=>?_))))
  have d:C o (av [R ba s.cs.toArray 160]) [[(m,.cells (fo (dY p (J+1))) 137 (0,0))],R ba s.cs.toArray 160] w:=by
   have G:dY p (J+1)=dY p J++[(dY p J).getD (16+J-16) 0+po ((dY p J).getD (16+J-15) 0)+(dY p J).getD (16+J-7) 0+pq ((dY p J).getD (16+J-2) 0)]:=by
    show nA (dY p J)=_;unfold nA;rw [hU]
   have e:=tu (l:=dY p J) (by rw [hU];omega) ((dY p J).getD (16+J-16) 0+po ((dY p J).getD (16+J-15) 0)+(dY p J).getD (16+J-7) 0+pq ((dY p J).getD (16+J-2) 0));rw [hU] at e;rw [G,<-e];exact d
  exact an (cU (bq 2 j j j (cE (16+J) (by omega)) (bI 1 j ⟨J+1,⟨j,j,j,j,j,aX⟩,⟨k,d⟩,by omega⟩)))
 have M:J=48:=by omega
 subst M;refine bM 5 (U:=s.cs) j j j d.f1.bz (b7 0 d j (λn w d=>b6 0 d j j j j j (λw d=>?_)));have d:C o (av [R ba s.cs.toArray 160]) (R n (rounds p s 0).cs.toArray 160::_) w:=C.whole (U:=s.cs) d j;refine cJ 5 j (ct:=Nat) (λi=>[(0,ab ba),(1,.slice (some u) p.length c),(2,ab fc),(6,ab m),(9,ab n),(83,.int .i64 (i:Nat))]) (λi w=>i<=64/\C o (av [R ba s.cs.toArray 160]) [R n (rounds p s i).cs.toArray 160,R m (fo (dY p 48)) 137,R ba s.cs.toArray 160] w) (λi=>64-i) 0 ⟨j,j,j,j,j,j,aX⟩ ⟨b4 _,d⟩ ?_;rintro i w ⟨H,d⟩;refine b8 4 j j (λF=>?_) (λF=>?_)
 .have k:i<64:=by omega
  have d:=d.drew;refine bt 8 j (λw=>C o (av [R ba s.cs.toArray 160]) [R n (rounds p s i).cs.toArray 160,R m (fo (dY p 48)) 137,R ba s.cs.toArray 160] w) d (aT 0 j (λw _=>fe (J:=7) j j (by decide)) (bR 1 j (λw h=>h.cell j) (aT 2 j (λw _=>fe (J:=4) j j (by decide)) (bR 3 j (λw h=>h.cell j) (aT 6 j (λw _=>fe (J:=4) j j (by decide)) ?_)))));refine bR 7 j (λw h=>h.cell j) (aT 8 j (λw _=>fe (J:=5) j j (by decide)) (bR 9 j (λw h=>h.cell j) (aT 10 j (λw _=>fe (J:=6) j j (by decide)) (bR 11 j (λw h=>h.cell j) (af 14 3 j (aT 17 j (λw _=>fe (J:=i) j j k) (bR 18 j (λw h=>pb ((h.fW fc P Q).trans aa) (wA k)) (af 20 1 j (aT 21 j (λw _=>fe (J:=i) j j k) (bR 22 j (λw h=>h.f1.cell (l6 (by rw [hU];omega))) (aR 4 j (bB j j j (CM (o:=_) (x:=(rounds p s i).e)) (λt hw=>?_)))))))))))));subst hw;refine an ⟨d,?_⟩;refine aT 5 j (λw _=>ds j j (hD _ _)) (aR 12 j (bB j j j (choose_spec (o:=_) (x:=(rounds p s i).e) (y:=(rounds p s i).f) (z:=(rounds p s i).g)) (λt hw=>?_)));subst hw;refine an ⟨d,?_⟩;refine aT 13 j (λw _=>ds j j (hD _ _)) (aT 19 j (λw _=>ds j j (hD _ _)) (aT 23 j (λw _=>ds j j (hD _ _)) (af 24 1 j (bK ?_))));have d:=d.drew;refine bt 1 j (λw=>C o (av [R ba s.cs.toArray 160]) [R n (rounds p s i).cs.toArray 160,R m (fo (dY p 48)) 137,R ba s.cs.toArray 160] w) d (aT 0 j (λw _=>fe (J:=0) j j (by decide)) (bR 1 j (λw h=>h.cell j) (aT 3 j (λw _=>fe (J:=0) j j (by decide)) (bR 4 j (λw h=>h.cell j) (aT 5 j (λw _=>fe (J:=1) j j (by decide)) (bR 6 j (λw h=>h.cell j) (aT 7 j (λw _=>fe (J:=2) j j (by decide)) (bR 8 j (λw h=>h.cell j) (aR 2 j (bB j j j (CL (o:=_) (x:=(rounds p s i).a)) (λt hw=>?_)))))))))));subst hw;refine an ⟨d,?_⟩;refine aR 9 j (bB j j j (FS (o:=_) (x:=(rounds p s i).a) (y:=(rounds p s i).b) (z:=(rounds p s i).c)) (λt hw=>?_));subst hw;refine an ⟨d,?_⟩;refine aT 10 j (λw _=>ds j j (hD _ _)) (af 11 1 j (bK (bq 3 j j j (hD _ _) (g7 (J:=0) j j j j (by decide) (ar 0 j (ax (C.aj d) j) (g7 (J:=1) j j j j (by decide) ?_))))));refine ar 0 j (ax (C.aj d) j) (g7 (J:=2) j j j j (by decide) (ar 0 j (ax (C.aj d) j) (g7 (J:=3) j j j j (by decide) (ar 0 j (ax (C.aj d) j) (bq 1 j j j (hD _ _) (g7 (J:=4) j j j j (by decide) (ar 0 j (ax (C.aj d) j) (g7 (J:=5) j j j j (by decide) (ar 0 j (ax (C.aj d) j) (g7 (J:=6) j j j j (by decide) (ar 0 j (ax (C.aj d) j) (cN (c:=(rounds p s (i+1)).cs.toArray) j j j (λ_=>by kernel_rfl) (b6 0 d j j j j j (λw d=>?_))))))))))))));have d:C o (av [R ba s.cs.toArray 160]) (R n (rounds p s (i+1)).cs.toArray 160::_) w:=C.whole (U:=(rounds p s (i+1)).cs) d (Eq.refl 8);exact bq 1 j j j (cE i (by omega)) (bI 1 j ⟨i+1,⟨j,j,j,j,j,j,aX⟩,⟨k,d⟩,by omega⟩)
 have K:i=64:=by omega
 subst K;have d:=d.f2;refine cJ 5 j (ct:=Nat) (λJ=>[(0,ab ba),(1,.slice (some u) p.length c),(2,ab fc),(6,ab m),(9,ab n),(142,.int .i64 (J:Nat))]) (λJ w=>J<=8/\C o (av [R ba s.cs.toArray 160]) [R ba (mixed s (rounds p s 64) J).toArray 160,R n (rounds p s 64).cs.toArray 160,R m (fo (dY p 48)) 137] w) (λJ=>8-J) 0 ⟨j,j,j,j,j,j,aX⟩ ⟨b4 _,d⟩ ?_;rintro J w ⟨L,d⟩;refine b8 4 j j (λB=>?_) (λB=>?_)
 .have k:J<8:=by omega
  have d:=d.drew;refine bt 7 j (λw=>C o (av [R ba s.cs.toArray 160]) [R ba (mixed s (rounds p s 64) J).toArray 160,R n (rounds p s 64).cs.toArray 160,R m (fo (dY p 48)) 137] w) d (af 0 3 j (aT 3 j (λw _=>fe (J:=J) j j k) (bR 4 j (λw h=>h.cell (zg s (rounds p s 64) k)) (af 5 1 j (aT 6 j (λw _=>fe (J:=J) j j k) (bR 7 j (λw h=>h.f1.cell (r7 _ k)) (aT 8 j (λw _=>ds j j (hD _ _)) (af 9 1 j (aT 10 j (λw _=>fe (J:=J) j j k) (dA 11 j (cB d j j j j (by rw [zh _ _ k];exact k) (λw d=>?_))))))))))));have d:C o (av [R ba s.cs.toArray 160]) [R ba (mixed s (rounds p s 64) (J+1)).toArray 160,R n (rounds p s 64).cs.toArray 160,R m (fo (dY p 48)) 137] w:=by rw [<-zi s (rounds p s 64) k];exact d
  exact an (cU (bq 1 j j j (cE J (by omega)) (bI 1 j ⟨J+1,⟨j,j,j,j,j,j,aX⟩,⟨k,d⟩,by omega⟩)))
 refine aq 1 j j ?_;have N:J=8:=by omega
 subst N;exact⟨j,d.hR⟩
def gQ:eT:=⟨0x6a09e667#32,0xbb67ae85#32,0x3c6ef372#32,0xa54ff53a#32,0x510e527f#32,0x9b05688c#32,0x1f83d9ab#32,0x5be0cd19#32⟩
def kr(p:List UInt8):Nat->eT
 |0=>gQ
 |k+1=>jt (p.drop (64*k)) (kr p k)
def l2(p:List UInt8):List UInt8:=p.drop (64*(p.length/64))
def el(p:List UInt8):Nat:=if 56<=p.length%64 then 128 else 64
def hx(g:Nat->UInt8):List UInt8:=(List.range 128).map g
def kO(p:List UInt8)(J i:Nat):UInt8:=if i<p.length%64 then(l2 p).getD i 0 else if i=p.length%64 then 128 else if el p-J<=i/\i<el p then UInt8.ofNat ((8*p.length)>>>(8*(el p-1-i))) else 0
def mu(p:List UInt8):List UInt8:=hx (kO p 8)
def k7(p:List UInt8):Nat->eT
 |0=>kr p (p.length/64)
 |m+1=>jt ((mu p).drop (64*m)) (k7 p m)
def bZ(x:BitVec 32):UInt8:=UInt8.ofNat x.toNat
def vS(x:BitVec 32):List UInt8:=[bZ (x>>>24),bZ (x>>>16),bZ (x>>>8),bZ x]
def eT.out(s:eT):List UInt8:=s.ws.flatMap vS
def br(p:List UInt8):List UInt8:=(k7 p (el p/64)).out
theorem C.zu{o w:World}{F:List Nat}{ad:List (List Chunk)}{b:Nat}{I:Obj}(h:C o F ([(b,I)]::ad) w):b∉av ad:=λa=>by
 have:=h.nodup;rw [o9] at this;exact(iE.1 this).2.2 b (by simp [av]) b a j
theorem G5{w:World}{A:Option Addr}{U:List Value}(h:U=[]):Rd w A U:=by subst h;exact Rd.nil _ _
theorem o5(g:Nat->UInt8):(hx g).length=128:=by simp [hx]
theorem qA(g:Nat->UInt8){i:Nat}(h:i<128):(hx g)[i]? =some (g i):=by simp [hx,h]
theorem yj{g a:Nat->UInt8}(h:∀k,k<128->g k=a k):hx g=hx a:=ue (λk aa=>h k (nT.1 aa))
theorem yk(g:Nat->UInt8){i:Nat}(h:i<128)(v:UInt8):(au (hx g)).toArray.setIfInBounds i (bv v)=(au (hx λk=>if k=i then v else g k)).toArray:=by
 apply fx;simp only [Array.toList_setIfInBounds,au];apply oB;intro k;rw [pY];simp only [ff,o5,gE];by_cases aa:k<128
 .by_cases a:i=k
  .subst a;simp [h,qA _ h]
  .rw [aI a,qA _ aa,qA _ aa,aI (λe=>a e.symm)]
 .have e:∀g,(hx g)[k]? =none:=λg=>lH (by rw [o5];omega)
  rw [e,e,aI (by omega)]
theorem Ek(r:List UInt8)(h:r.length<=128):au r++(List.replicate 128 (bv 0)).drop (0+(au r).length)=au (hx λk=>if k<r.length then r.getD k 0 else 0):=by
 apply oB;intro k;simp only [au,List.drop_replicate,ff];by_cases aa:k<128
 .rw [gE,qA _ aa];by_cases a:k<r.length
  .rw [iU (by simpa using a)];simp [a,List.getD]
  .rw [jf (by simpa using Nat.le_of_not_lt a),List.getElem?_replicate,List.length_map,if_pos (by omega),if_neg a];rfl
 .rw [lH (by simp only [b0,List.length_map,List.length_replicate];omega),List.getElem?_eq_none (by rw [List.length_map,o5];omega)]
theorem q6(p:List UInt8):(l2 p).length=p.length%64:=by simp only [l2,iT];omega
theorem il(p:List UInt8):(el p=128/\56<=p.length%64)\/(el p=64/\p.length%64<56):=by unfold el;split<;>omega
theorem Ff(p:List UInt8):(hx λk=>if k=p.length%64 then(128:UInt8) else if k<(l2 p).length then(l2 p).getD k 0 else 0)=hx (kO p 0):=yj λk aa=>by
 rw [q6];unfold kO;by_cases a:k=p.length%64
 .subst a;simp
 .by_cases b:k<p.length%64
  .simp [a,b]
  .have:¬(el p-0<=k/\k<el p):=by omega
   rw [aI a,aI b,aI b,aI a,aI this]
theorem Fg(p:List UInt8){J:Nat}(f:J<8):(hx λk=>if k=el p-1-J then UInt8.ofNat ((8*p.length)>>>(8*J)) else kO p J k)=hx (kO p (J+1)):=yj λk aa=>by
 unfold kO;have aJ:p.length%64<64:=jF _ (by decide);by_cases b:k=el p-1-J
 .have c:¬k<p.length%64:=by rcases il p with h|h<;>omega
  have d:k≠p.length%64:=by rcases il p with h|h<;>omega
  have a:el p-(J+1)<=k/\k<el p:=by rcases il p with h|h<;>omega
  have e:el p-1-k=J:=by rcases il p with h|h<;>omega
  rw [a6 b,aI c,aI d,a6 a,e]
 .rw [aI b];have a:(el p-(J+1)<=k/\k<el p)↔(el p-J<=k/\k<el p):=by rcases il p with h|h<;>omega
  simp only [a]
theorem qt(x:BitVec 32):IntKind.u8.wrap (x.toNat:Int)=((bZ x).toNat:Int):=by
 rw [mi];unfold bZ;rw [oR];omega
theorem xL(x:Nat):IntKind.u8.wrap (x:Int)=((UInt8.ofNat x).toNat:Int):=by
 rw [mi,oR];omega
theorem Ed(n:Nat)(h:n<=1000000000):evalShift .shl .u64 (n:Int) 3=some (.int .u64 ((8*n:Nat):Int)):=by
 show some (Value.int .u64 (IntKind.u64.wrap ((n:Int)*2^(min (3:Int).toNat IntKind.u64.bits))))=_;rw [show(2:Int)^(min (3:Int).toNat IntKind.u64.bits)=8 by decide,lK];exact aG (λz=>some (Value.int .u64 z)) (by omega)
theorem x9(x n:Nat)(h:n<=64):evalShift .shr .u64 (x:Int) (n:Int)=some (.int .u64 ((x>>>n:Nat):Int)):=by
 show some (Value.int .u64 ((x:Int).fdiv (2^(min ((n:Int).toNat) IntKind.u64.bits))))=_;have a:min ((n:Int).toNat) IntKind.u64.bits=n:=by show min ((n:Int).toNat) 64=n;rw [m9];omega
 rw [a,uc _ (by exact Int.le_of_lt (Int.pow_pos (by decide))),show(2:Int)^n=((2^n:Nat):Int) by simp,<-Int.natCast_ediv,Nat.shiftRight_eq_div_pow]
def gO(s:eT)(J:Nat):List UInt8:=((s.ws.take J).flatMap vS)++List.replicate (32-4*J) 0
theorem GF(s:eT){J:Nat}(h:J<8):((((au (gO s J)).toArray.setIfInBounds (4*J) (bv (bZ (s.ws.getD J 0>>>24)))).setIfInBounds (4*J+1) (bv (bZ (s.ws.getD J 0>>>16)))).setIfInBounds (4*J+2) (bv (bZ (s.ws.getD J 0>>>8)))).setIfInBounds (4*J+3) (bv (bZ (s.ws.getD J 0)))=(au (gO s (J+1))).toArray:=by
 obtain⟨a,s1,s2,b,c,d,e,f⟩:=s;rcases pe h with rfl|rfl|rfl|rfl|rfl|rfl|rfl|rfl<;>simp [gO,eT.ws,vS,au,List.replicate]
theorem pj(s:eT){J:Nat}(h:J<=8):(gO s J).length=32:=by
 have:J=0\/J=1\/J=2\/J=3\/J=4\/J=5\/J=6\/J=7\/J=8:=by omega
 rcases this with rfl|rfl|rfl|rfl|rfl|rfl|rfl|rfl|rfl<;>rfl
theorem eT.C7(s:eT):(au s.out).length=32:=by rw [cL];rfl
theorem eT.vT(s:eT):s.out.length=32:=rfl
theorem eK(p:List UInt8):(br p).length=32:=eT.vT _
theorem l3(p:List UInt8):(au (br p)).length=32:=eT.C7 _
theorem pw{o:World}{A:Option Addr}{p:List UInt8}{c:Nat}(Q:Rd o A (au p))(K:p.length<=1000000000)(E:p.length<=c):Calls prog 35 #[.slice A p.length c] o λr w=>r= .agg (au (br p)).toArray/\C o [] [] w:=by
 have a:Own [] o:=C.start o;refine eV func35 (b7 2 a j (λaO w a=>?_));have a:C o [] [R aO (au (gO gQ 0)).toArray 37] w:=a;refine am 2 j (cN (c:=gQ.cs.toArray) j j j (λ_=>by kernel_rfl) ?_);refine b7 0 a j (λb w a=>b6 0 a j j j j j (λw a=>?_));have a:C o [] [R b (kr p 0).cs.toArray 160,R aO (au (gO gQ 0)).toArray 37] w:=C.whole (U:=gQ.cs) a j;have l:=F9 (o:=w);refine bp 2 l j (λw aa=>?_);have a:=a.aL aa;refine b7 0 a j (λd w a=>b6 0 a j j j (by decide) (by decide) (λw a=>?_));have a:=C.whole (U:=gb fN) a j;refine cJ 6 j (ct:=Nat×Option Addr×Nat) (λi=>[(0,.slice A p.length c),(2,ab aO),(3,ab b),(4,ab d),(5,.slice i.2.1 (p.drop (64*i.1)).length i.2.2)]) (λi w=>64*i.1<=p.length/\(p.drop (64*i.1)).length<=i.2.2/\Rd o i.2.1 (au (p.drop (64*i.1)))/\C o [] [R d (gb fN).toArray 137,R b (kr p i.1).cs.toArray 160,R aO (au (gO gQ 0)).toArray 37] w) (λi=>p.length-64*i.1) (0,A,c) ⟨j,j,j,j,j,aX⟩ ⟨by omega,by simpa using E,by simpa using Q,a⟩ ?_;rintro⟨k,B,aV⟩ w ⟨M,L,q,a⟩;dsimp only at M L q a⊢;have hlen:(p.drop (64*k)).length=p.length-64*k:=iT;refine b8 6 j j (λt=>?_) (λt=>?_)
 .have T:=t;have z:d≠b:=λe=>C.zu a (by subst e;simp [av])
  have l:=AT (s:=kr p k) (p:=p.drop (64*k)) (c:=aV) a.f1.j9 (a.rd q (bT.of_nil _ _)) ((a.apart q (bT.of_nil _ _)).sub (fI (by simp))) a.first z (t|>λh=>by omega);refine bk 5 l j (λr w⟨_,aa⟩=>?_);have a:C o [] (R b (kr p (k+1)).cs.toArray 160::_) w:=a.f1.iw aa;have a:=a.f1;refine am 2 j (oy (i:=64) j j j j (by omega) ?_);refine bI 1 j ?_;have u:p.drop (64*(k+1))=(p.drop (64*k)).drop 64:=by rw [rI];congr 1
  refine⟨(k+1,(if aV=64 then B else B.map (·.add (64*1))),aV-64),⟨j,j,j,j,?_,aX⟩,⟨by dsimp only;omega,by dsimp only;rw [u,iT (i:=64)];omega,?_,a⟩,by dsimp only;omega⟩
  .show some (Value.slice _ ((p.drop (64*k)).length-64) _)=some (Value.slice _ (p.drop (64*(k+1))).length _);rw [u,iT (i:=64)]
  dsimp only;rw [u,show au ((p.drop (64*k)).drop 64)=(au (p.drop (64*k))).drop 64 by simp [au]];split
  .rename_i E;exact G5 (by simp [au];omega)
  exact q.drop 64
 have aa:k=p.length/64:=by omega
 subst aa;have W:p.length%64<64:=jF _ (by decide);refine b7 3 a j (λf w a=>am 2 j (k3 j j j ?_));refine am 1 j (wI (off:=0) (news:=au (l2 p)) a j j j j (by rw [cL];exact(mY (by rw [q6];omega)).symm) (.inr j) (a.rd q (bT.of_nil _ _)) (eg _) (by rw [cL,q6];show 0+_<=128;omega) (λw a=>?_));refine bS 26 (.int .i64 (p.length%64:Nat)) j (by rw [cL,q6]) ?_
 have a:C o [] [[(f,.cells (au (hx λk=>if k<(l2 p).length then(l2 p).getD k 0 else 0)).toArray 162 (0,0))],R d (gb fN).toArray 137,R b (kr p (p.length/64)).cs.toArray 160,R aO (au (gO gQ 0)).toArray 37] w:=by
  rw [<-Ek (l2 p) (by rw [q6];omega)];exact a
 refine am 4 j (g7 (J:=p.length%64) j j j j (by omega) ?_);refine cB a j j j j (by simp [cL,o5];omega) (λw a=>?_)
 have a:C o [] [[(f,.cells (au (hx (kO p 0))).toArray 162 (0,0))],R d (gb fN).toArray 137,R b (kr p (p.length/64)).cs.toArray 160,R aO (au (gO gQ 0)).toArray 37] w:=by
  rw [<-Ff,<-yk _ (by omega)];exact a
 refine lV 3 j (λZ w=>sub Z [(0,.slice A p.length c),(2,ab aO),(3,ab b),(4,ab d),(6,ab f),(8,.int .i64 (el p:Nat))]/\C o [] [[(f,.cells (au (hx (kO p 0))).toArray 162 (0,0))],R d (gb fN).toArray 137,R b (kr p (p.length/64)).cs.toArray 160,R aO (au (gO gQ 0)).toArray 37] w) ?_ ?_
 .refine b8 4 j j (λG=>?_) (λG=>?_);refine bI 2 j ?_;rotate_left
  refine bI 1 j ?_;rotate_left
  all_goals
   refine⟨⟨j,j,j,j,j,?_,aX⟩,a⟩
   first
    |exact aG (λx:Nat=>some (Value.int .i64 (x:Int))) (show 128=el p by unfold el;rw [if_pos (by omega)])
    |exact aG (λx:Nat=>some (Value.int .i64 (x:Int))) (show 64=el p by unfold el;rw [if_neg (by omega)])
 rintro Z w ⟨aM,a⟩;refine lD [(0,.slice A p.length c),(2,ab aO),(3,ab b),(4,ab d),(6,ab f),(8,.int .i64 (el p:Nat))] aM (am 4 j (gt j j j (ni _ (by omega)) ?_));refine iu j j j j (by omega) (Ed p.length K) (cJ 6 j (ct:=Nat) (λJ=>[(0,.slice A p.length c),(2,ab aO),(3,ab b),(4,ab d),(6,ab f),(8,.int .i64 (el p:Nat)),(9,.int .u64 (8*p.length:Nat)),(35,.int .i64 (J:Nat))]) (λJ w=>J<=8/\C o [] [[(f,.cells (au (hx (kO p J))).toArray 162 (0,0))],R d (gb fN).toArray 137,R b (kr p (p.length/64)).cs.toArray 160,R aO (au (gO gQ 0)).toArray 37] w) (λJ=>8-J) 0 ⟨j,j,j,j,j,j,j,j,aX⟩ ⟨b4 _,a⟩ ?_);rintro J w ⟨n,a⟩;refine b8 4 j j (λH=>?_) (λH=>?_)
 .have g:J<8:=by omega
  refine bq 9 j j j (hE (el p) 1 (by rcases il p with h|h<;>omega) (by rcases il p with h|h<;>omega)) (bq 1 j j j (hE (el p-1) J (by rcases il p with h|h<;>omega) (by rcases il p with h|h<;>omega)) (bq 2 j j j (jL 8 J (by omega)) (iu j j j j (by omega) (x9 (8*p.length) (8*J) (by omega)) (gt j j j (xL _) (g7 (J:=el p-1-J) j j j j (by rcases il p with h|h<;>omega) (cB a j j j j (by simp [cL,o5];rcases il p with h|h<;>omega) (λw a=>?_)))))))
  have a:C o [] [[(f,.cells (au (hx (kO p (J+1)))).toArray 162 (0,0))],R d (gb fN).toArray 137,R b (kr p (p.length/64)).cs.toArray 160,R aO (au (gO gQ 0)).toArray 37] w:=by
   rw [<-Fg p g,<-yk _ (by rcases il p with h|h<;>omega)];exact a
  exact bq 1 j j j (cE J (by omega)) (bI 1 j ⟨J+1,⟨j,j,j,j,j,j,j,j,aX⟩,⟨g,a⟩,by omega⟩)
 have y:J=8:=by omega
 subst y;refine cJ 6 j (ct:=Nat) (λm=>[(0,.slice A p.length c),(2,ab aO),(3,ab b),(4,ab d),(6,ab f),(8,.int .i64 (el p:Nat)),(11,.int .i64 (64*m:Nat))]) (λm w=>64*m<=el p/\C o [] [R f (au (mu p)).toArray 162,R d (gb fN).toArray 137,R b (k7 p m).cs.toArray 160,R aO (au (gO gQ 0)).toArray 37] w) (λm=>el p-64*m) 0 ⟨j,j,j,j,j,j,j,aX⟩ ⟨by omega,a⟩ ?_;rintro m w ⟨hm,a⟩;refine b8 6 j j (λD=>?_) (λD=>?_)
 .have g:64*m<el p:=by omega
  have V:64*m+64<=128:=by rcases il p with h|h<;>omega
  refine am 5 j (BU (i:=64*m) j j j j (by omega) ?_);have z:d≠b:=λe=>C.zu a.f1 (by subst e;simp [av])
  have N:(mu p).length=128:=o5 _
  have S:Rd w (some ⟨f,64*m,none⟩) (au ((mu p).drop (64*m))):=a.ij (λi v F=>by
   rw [show au ((mu p).drop (64*m))=(au (mu p)).drop (64*m) by simp [au],lL] at F;simpa using F)
  have O:((mu p).drop (64*m)).length=128-64*m:=by rw [iT,N]
  have l:=AT (s:=k7 p m) (p:=(mu p).drop (64*m)) (c:=128-64*m) a.f2.j9 S ((a.iX).sub (fI (by simp))) a.f1.first z (by omega);rw [O] at l;refine bk 0 l j (λr w⟨_,aa⟩=>?_);have a:C o [] (R b (k7 p (m+1)).cs.toArray 160::_) w:=a.f2.iw aa;have a:=a.f2.f2;exact bq 2 j j j (gm (64*m) 64 (by omega)) (bI 1 j ⟨m+1,⟨j,j,j,j,j,j,j,aX⟩,⟨by rcases il p with h|h<;>omega,a⟩,by omega⟩)
 have P:m=el p/64:=by have:=D;rcases il p with h|h<;>omega
 subst P;refine bM 4 (U:=(k7 p (el p/64)).cs) j j j a.f2.bz (cJ 2 j (ct:=Nat) (λJ=>[(2,ab aO),(57,.agg (k7 p (el p/64)).cs.toArray),(58,.int .i64 (J:Nat))]) (λJ w=>J<=8/\C o [] [[(aO,.cells (au (gO (k7 p (el p/64)) J)).toArray 37 (0,0))]] w) (λJ=>8-J) 0 ⟨j,j,j,aX⟩ ⟨b4 _,a.f3.hR⟩ ?_);rintro J w ⟨n,a⟩;refine b8 4 j j (λI=>?_) (λI=>?_)
 .have g:J<8:=by omega
  refine am 6 j (wN (J:=J) j j j j g j (r7 _ g) ?_);refine bq 4 j j j (jL 4 J (by omega)) (bq 1 j j j (jL 4 J (by omega)) (bq 0 j j j (gm (4*J) 1 (by omega)) (bq 1 j j j (jL 4 J (by omega)) (bq 0 j j j (gm (4*J) 2 (by omega)) (bq 1 j j j (jL 4 J (by omega)) (bq 0 j j j (gm (4*J) 3 (by omega)) (am 1 j (iu j j j j (by omega) (lU _ 24 (by decide)) ?_))))))));refine gt j j j (qt _) (am 1 j (iu j j j j (by omega) (lU _ 16 (by decide)) ?_));refine gt j j j (qt _) (am 1 j (iu j j j j (by omega) (lU _ 8 (by decide)) ?_));refine gt j j j (qt _) (am 1 j (gt j j j (qt _) ?_));refine g7 (J:=4*J) j j j j (by omega) (cB a j j j j (by simp [cL,pj _ n];omega) (λw a=>g7 (J:=4*J+1) j j j j (by omega) (cB a j j j j (by simp [cL,pj _ n];omega) (λw a=>g7 (J:=4*J+2) j j j j (by omega) (cB a j j j j (by simp [cL,pj _ n];omega) (λw a=>g7 (J:=4*J+3) j j j j (by omega) (cB a j j j j (by simp [cL,pj _ n];omega) (λw a=>?_))))))));have a:C o [] [[(aO,.cells (au (gO (k7 p (el p/64)) (J+1))).toArray 37 (0,0))]] w:=by rw [<-GF _ g];exact a
  exact bq 1 j j j (cE J (by omega)) (bI 1 j ⟨J+1,⟨j,j,j,aX⟩,⟨g,a⟩,by omega⟩)
 have y:J=8:=by omega
 subst y;refine bM 3 (U:=au (br p)) j j (l3 p) a.bz (c2 a j j j (by simpa using eg (br p)) (l3 p) (by simp [cL,pj _ (Nat.le_refl 8)]) (λw a=>?_));have a:=C.whole (U:=au (br p)) a j;refine bD 0 j ⟨_,gr (U:=au (br p)) results35 j j j a.bz,?_⟩;exact⟨j,a.bare⟩
abbrev e2(a:Nat)(v:Value):List Chunk:=R a #[v] 190
abbrev du(v:Value)(aD:List UInt8)(ag:List Chunk):Prop:=Row 5 1 v aD.length (au aD) ag
theorem lp{o:World}{a:Nat}{v0:Value}{f:List Chunk}{aD:List UInt8}{A:Option Addr}{cS:List Int}{c:Nat}
 (b:Own [e2 a v0,f] o) (e:du v0 aD f) (B:Rd o A (cS.map ae)) (t:bT A (cS.map ae) (av [e2 a v0,f])) (G:aD.length+10*cS.length<=1000000000):
 Calls prog 83 #[ab a,.slice A cS.length c] o λr w=>r= .tuple #[]/\∃v ag,du v (aD++d7 cS) ag/\C o (av [e2 a v0,f]) [e2 a v,ag] w:=by
 refine a2 func83 ?_
 refine cJ 13 j (ct:=Nat×Value×List Chunk)
  (λi=>[(0,ab a),(9,.slice A cS.length c),(10,.int .i64 (cS.length:Nat)),(11,.int .i64 (i.1:Nat))])
  (λi w=>i.1<=cS.length/\du i.2.1 (aD++d7 (cS.take i.1)) i.2.2/\C o (av [e2 a v0,f]) [e2 a i.2.1,i.2.2] w)
  (λi=>cS.length-i.1) (0,v0,f) ⟨j,j,j,j,aX⟩ ⟨b4 _,by simpa [d7] using e,b⟩ ?_
 rintro⟨J,v,ag⟩ w ⟨y,e,b⟩;dsimp only at y e b⊢;refine bm 4 j j (λk=>?_) (λk=>?_)
 .have h:=k;have h:J<cS.length:=by simpa using k
  refine am 5 j (fp j j j j (b.rd B t) (v:=ae cS[J]) (by simp [h]) h (λD F x=>?_));refine ar 0 j x (am 4 j (pS j j j ?_));refine pR j j j (gt j j j (Dp _) ?_)
  refine cJ 3 j (ct:=Nat×Value×List Chunk×List UInt8)
   (λi=>[(0,ab a),(9,.slice A cS.length c),(10,.int .i64 (cS.length:Nat)),(11,.int .i64 (J:Nat)),(6,.int .u64 (i.1:Nat))])
   (λi w=>i.2.2.2++enc i.1=(aD++d7 (cS.take J))++enc (fH cS[J])/\du i.2.1 i.2.2.2 i.2.2.1/\C o (av [e2 a v0,f]) [e2 a i.2.1,i.2.2.1] w)
   (λi=>i.1) (fH cS[J],v,ag,aD++d7 (cS.take J)) ⟨j,j,j,j,j,aX⟩ ⟨j,e,b⟩ ?_
  rintro⟨u,v,ag,d⟩ w ⟨g,e,b⟩;dsimp only at g e b⊢
  have hlen:d.length+(enc u).length<=aD.length+9*J+9:=by
   have q:=aG List.length g;have E:=ml (fH cS[J]) (ng _);have s:=fU (cS.take J);simp only [b0,List.length_take] at q s;omega
  have H:=se u;refine b8 5 j j (λp=>?_) (λp=>?_)
  .skip
   refine ar 8 j (ax (C.aj b) j) (am 1 j (gt j j j j ?_));refine am 1 j (bS 30 (bv (UInt8.ofNat (u%128+128))) j (aG (Value.int .u8) (zk u)) ?_);refine eC b j j j j j j bG (λl w b=>?_);have aJ:Rd w (some ⟨l,0,none⟩) [bv (UInt8.ofNat (u%128+128))]:=b.bz;have b:=b.f2;refine dR b e j j (by decide) j j j (m:=1) (news:=[bv (UInt8.ofNat (u%128+128))]) j aJ (eg [(UInt8.ofNat (u%128+128))]) (by omega) (by unfold maxLen;omega) (λv ag w e b=>?_);have b:=b.f2;refine dF 2 b j j j e.one (λw b=>?_);have b:=b.f2.drop;refine am 2 j (iu j j j j (by omega) j ?_);refine bS 22 (.int .u64 ((u/128:Nat):Int)) j (aG (Value.int .u64) (s8 u)) (bI 1 j ?_);have hu:¬u<128:=by omega
   refine⟨(u/128,v,ag,d++[(UInt8.ofNat (u%128+128))]),⟨j,j,j,j,j,aX⟩,⟨?_,nf e,b⟩,by dsimp only;omega⟩;rw [o2 hu] at g;simpa using g
  .skip
   refine ar 6 j (ax (C.aj b) j) (am 1 j (gt j j j j ?_));refine bS 41 (bv (UInt8.ofNat u)) j (aG (Value.int .u8) (sA u)) (eC b j j j j j j bG (λn w b=>?_));have aJ:Rd w (some ⟨n,0,none⟩) [bv (UInt8.ofNat u)]:=b.bz;have b:=b.f2;refine dR b e j j (by decide) j j j (m:=1) (news:=[bv (UInt8.ofNat u)]) j aJ (eg [(UInt8.ofNat u)]) (by omega) (by unfold maxLen;omega) (λv ag w e b=>?_);have b:=b.f2;refine dF 2 b j j j e.one (λw b=>?_);have b:=b.f2.drop;refine bq 1 j j j (cE J (by omega)) (bI 1 j (⟨(J+1,v,ag),⟨j,j,j,j,aX⟩,⟨h,?_,b⟩,by dsimp only;omega⟩));have hu:u<128:=by omega
   rw [n0 hu] at g
   have he:aD++d7 (cS.take (J+1))=d++[UInt8.ofNat u]:=by
    rw [fr h,x1,<-List.append_assoc,g];simp [d7]
   rw [he];exact nf e
 .have h:=k;refine aq 1 j j (⟨j,v,ag,?_,b⟩);have z:J=cS.length:=by have:=dM k;omega
  subst z;simpa using e
theorem g2{o:World}{A:Option Addr}{aD:List UInt8}{c:Nat}(d:Rd o A (au aD))(i:aD.length<=1000000000):
 Calls prog 61 #[.slice A aD.length c] o λr w=>∃G,du r aD G/\C o [] [G] w:=by
 have b:Own [] o:=C.start o;refine a2 func61 (am 7 j (wL j j j ?_));refine bm 0 j j (λfG=>?_) (λfG=>?_)
 .skip
  refine aq 3 j j ?_;have e:A=none:=by simpa using fG
  subst e
  have:aD=[]:=by
   cases aD with
   |nil=>rfl
   |cons x r=>obtain⟨a,g,_⟩:=d 0 (bv x) j;cases g
  subst this;exact⟨[],Row.nil _ _,b.empty⟩
 .skip
  refine am 3 j (eC b j j j j j j bG (λh w b=>?_));refine am 1 j (dR b (Row.made (size:=1) (by simp [maxLen]) (Nat.zero_le _)) j j (by decide) j j j (news:=au aD) (by simp) (b.rd d (bT.of_nil _ _)) (eg aD) (by omega) (by unfold maxLen;omega) (λv G w f b=>?_));exact aq 1 j j ⟨G,by simpa [du] using f,b⟩
theorem qT{o:World}{a:Nat}{v0:Value}{d:List Chunk}{aD:List UInt8}(b:Own [e2 a v0,d] o)(f:du v0 aD d)(g:aD.length<=1000000000):
 Calls prog 85 #[ab a] o λr w=>∃G,du r aD G/\C o (av [e2 a v0,d]) [G,e2 a v0,d] w:=by
 refine a2 func85 (ar 15 j (ax (C.aj b) j) ?_);obtain⟨A,c,rfl,k,l,h,i⟩:=f.rd b.f1;refine bk 0 (g2 h g) j (λr w⟨G,e,aa⟩=>?_);have b:=b.aL aa;exact aq 1 j j ⟨G,e,b⟩
theorem qY{o:World}{a:Nat}{v0:Value}{e:List Chunk}{aD da:List UInt8}{A:Option Addr}{c:Nat}
 (b:Own [e2 a v0,e] o) (d:du v0 aD e) (f:Rd o A (au da)) (g:aD.length+da.length<=1000000000):
 Calls prog 141 #[ab a,.slice A da.length c] o λr w=>r= .tuple #[]/\∃v ag,du v (aD++da) ag/\C o (av [e2 a v0,e]) [e2 a v,ag] w:=by
 refine a2 func141 (ar 10 j (ax (C.aj b) j) ?_);have b:=b.f1;refine am 1 j (dR b d j j (by decide) j j j (news:=au da) (by simp) f (eg da) (by omega) (by unfold maxLen;omega) (λv ag w d b=>?_));have b:=b.f1;exact dF 2 b j j j d.one (λw b=>aq 0 j j ⟨j,v,ag,oX d j,b⟩)
theorem C.Ge{o w:World}{ad:List (List Chunk)}{b:Nat}{I:Obj}(a:C o [] ad w)(h:o.heap[b]? =some I):w.heap[b]? =some I:=by
 rw [a.fW b (gv.1 h).1 (by simp)];exact h
def iN(k:List UInt8):List UInt8:=k++List.replicate (64-k.length) 0
def kR(k p:List UInt8):List UInt8:=br ((iN k).map (·^^^92)++br ((iN k).map (·^^^54)++p))
theorem mw(k p:List UInt8):(kR k p).length=32:=eK _
theorem sO(k:List UInt8)(h:k.length<=64):(iN k).length=64:=by simp [iN];omega
theorem FL{l:List UInt8}{g:UInt8->UInt8}{i:Nat}(h:i<l.length):(l.take (i+1)).map g=(l.take i).map g++[g l[i]]:=by
 rw [fr h,jD];rfl
theorem Bf{o:World}{fc:Nat}{K p:List UInt8}{m:UInt8}{B:Option Addr}{d:Nat}(aa:o.heap[fc]? =some (.cells (au K).toArray 325 (0,0)))(s:K.length=64)(A:Rd o B (au p))(I:p.length<=1000000):Calls prog 208 #[bv m,.slice B p.length d,ab fc] o λr w=>r= .agg (au (br (K.map (·^^^m)++p))).toArray/\C o [] [] w:=by
 have a:Own [] o:=C.start o;have z:(au K).length=64:=by rw [cL,s]
 refine eV func208 ?_;refine b7 2 a j (λn w a=>?_);refine bq 4 j j j (gm 64 p.length (by omega)) ?_;refine lC (l:=0) (c:=64+p.length) a j j j j (by omega) (by omega) (by unfold maxLen;omega) (λk cs w H _ a=>?_);have e:du (.slice (some ⟨k,0,none⟩) 0 (64+p.length)) [] (R k cs 5):=Row.made (by unfold maxLen;omega) (by omega);refine bM 4 (U:=au K) j j z (λi v E=>⟨_,j,by rw [add_lit];exact pb (C.Ge a aa) (by rw [fj];simpa using E)⟩) ?_
 refine cJ 2 j (ct:=Nat×Value×List Chunk) (λi=>[(0,bv m),(1,.slice B p.length d),(5,ab n),(6,i.2.1),(13,.agg (au K).toArray),(14,.int .i64 (i.1:Nat))])
  (λi w=>i.1<=K.length/\du i.2.1 ((K.take i.1).map (·^^^m)) i.2.2/\C o [] [i.2.2,R n (Array.replicate 32 (bv 0)) 37] w) (λi=>64-i.1) (0,_,_) ⟨j,j,j,j,j,j,aX⟩ ⟨b4 _,e,a⟩ ?_
 rintro⟨i,v,ag⟩ w ⟨x,e,a⟩;dsimp only at x e a⊢;refine bm 4 j j (λf=>?_) (λf=>?_)
 .have g:i<K.length:=by have:=dz f;omega
  refine am 5 j (wN (J:=i) (v:=bv K[i]) j j j j (by omega) j (by simp [au,g]) ?_);refine bq 5 j j j (uW _ _) ?_;refine eC a j j j j j j bG (λG w a=>?_);have aJ:=a.bz;refine dR a.f1 e j j (by decide) j j j (news:=au [K[i]^^^m]) j aJ (eg _) (by(try simp only [List.length_map,List.length_take]);omega) (by(try simp only [List.length_map,List.length_take]);unfold maxLen;omega) (λv1 h w b a=>?_);have b:=oX b j;refine bq 2 j j j (cE i (by omega)) ?_;refine bI 1 j ?_;have q:i+1<=64:=by omega
  refine⟨(i+1,v1,h),⟨j,j,j,j,j,j,aX⟩,⟨g,?_,a.f1.drop⟩,by dsimp only;omega⟩;dsimp only;rw [FL g];exact b
 have q:i=K.length:=by have:=dM f;omega
 subst q;rw [gj] at e;refine am 5 j (dR a e j j (by decide) j j j (news:=au p) (by simp) (a.rd A (bT.of_nil _ _)) (eg _) (by simp only [List.length_map];omega) (by simp only [List.length_map];unfold maxLen;omega) (λv1 h w b a=>?_));have b:=oX b j;obtain⟨F,aV,rfl,t,_,D,_⟩:=b.rd a;have u:=pw D (by simp only [b0,List.length_map];omega) t;refine bp 0 u j (λw y=>?_);have a:=(a.aL y).f1;refine b6 0 a j j j (by simpa using eg (br (K.map (·^^^m)++p))) (by rw [List.size_toArray,cL,eK]) (λw a=>?_);have a:=C.whole (U:=au (br (K.map (·^^^m)++p))) a (by rw [cL,eK];rfl);refine bD 0 j ⟨_,gr (U:=au (br (K.map (·^^^m)++p))) results208 j j (by rw [cL,eK]) a.bz,?_⟩;exact⟨j,a.bare⟩
theorem GJ(k:List UInt8)(h:k.length<=64):(Array.replicate 64 (bv 0)).toList.take 0++au k++(Array.replicate 64 (bv 0)).toList.drop (0+(au k).length)=au (iN k):=by
 rw [Array.toList_replicate,List.take_zero,kI,List.drop_replicate,cL,Nat.zero_add];simp only [iN,au,jD,List.map_replicate]
def pF(k p:List UInt8):List UInt8:=br ((iN k).map (·^^^54)++p)
theorem rk(k p:List UInt8):(pF k p).length=32:=eK _
theorem FH{o:World}{A:Option Addr}{key:List UInt8}{c:Nat}{B:Option Addr}{p:List UInt8}{d:Nat}(q:Rd o A (au key))(f:key.length<=64)(n:Rd o B (au p))(l:p.length<=1000000):Calls prog 159 #[.slice A key.length c,.slice B p.length d] o λr w=>r= .agg (au (kR key p)).toArray/\C o [] [] w:=by
 have a:Own [] o:=C.start o;refine eV func159 (b7 2 a j (λg w a=>?_));have a:C o [] [R g (Array.replicate 32 (bv 0)) 37] w:=a;refine b7 2 a j (λh w a=>?_);have a:C o [] [R h (Array.replicate 64 (bv 0)) 325,_] w:=a;refine iI 6 j j (e4 (by omega)) (am 3 j (k3 j j j ?_));refine am 1 j (wI (off:=0) (news:=au key) a j j j j (by rw [cL];exact(mY f).symm) (.inr j) (a.rd q (bT.of_nil _ _)) (eg _) (by simp only [cL,Array.size_replicate];omega) (λw a=>?_));have a:C o [] [R h (au (iN key)).toArray 325,R g (Array.replicate 32 (bv 0)) 37] w:=by rw [<-GJ key f];exact a
 refine am 2 j (gZ j j j j ?_);have e:=Bf (m:=54) a.first (sO key f) (a.rd n (bT.of_nil _ _)) l (d:=d);refine am 5 j (hL j j j j e (λr w⟨b,i⟩=>?_));have b:r= .agg (au (pF key p)).toArray:=b;subst b;have a:=a.aL i;refine b7 0 a j (λk w a=>?_);have a:C o [] [R k (Array.replicate 32 (bv 0)) 37,R h (au (iN key)).toArray 325,R g (Array.replicate 32 (bv 0)) 37] w:=a;refine c2 a j j j (by simpa using eg (pF key p)) (by rw [List.size_toArray,cL,rk]) (by simp only [List.size_toArray,Array.size_replicate,cL,rk];try decide) (λw a=>?_);have a:=C.whole (U:=au (pF key p)) a (by rw [cL,rk];rfl);refine am 3 j (k3 j j j ?_);have s:Rd w (some ⟨k,0,none⟩) (au (pF key p)):=a.bz;have e:=Bf (m:=92) (p:=pF key p) a.f1.first (sO key f) s (by rw [rk];decide) (d:=32);rw [rk] at e;refine hL j j j j e (λr w⟨b,i⟩=>?_);have b:r= .agg (au (kR key p)).toArray:=b;subst b;have a:=(a.aL i).f2;refine c2 a j j j (by simpa using eg (kR key p)) (by rw [List.size_toArray,cL,mw]) (by simp only [List.size_toArray,Array.size_replicate,cL,mw];try decide) (λw a=>?_);have a:=C.whole (U:=au (kR key p)) a (by rw [cL,mw];rfl);refine bD 0 j ⟨_,gr (U:=au (kR key p)) results159 j j (by rw [cL,mw]) a.bz,?_⟩;exact⟨j,a.bare⟩
theorem nE{o:World}{A:Option Addr}{p:List UInt8}{c:Nat}(f:Rd o A (au p))(g:p.length<=1000000)(b:p.length<=c):Calls prog 94 #[.slice A p.length c] o λr w=>r= .agg (au (br p)).toArray/\C o [] [] w:=by
 have a:Own [] o:=C.start o;refine eV func94 (b7 2 a j (λaO w a=>?_));have a:C o [] [R aO (Array.replicate 32 (bv 0)) 37] w:=a;have d:=pw (a.rd f (bT.of_nil _ _)) (by omega) b;refine bp 3 d j (λw e=>?_);have a:=a.aL e;refine c2 a j j j (by simpa using eg (br p)) (by rw [List.size_toArray,cL,eK]) (by simp only [List.size_toArray,Array.size_replicate,cL,eK];try decide) (λw a=>?_);have a:=C.whole (U:=au (br p)) a (by rw [cL,eK];rfl);refine bD 0 j ⟨_,gr (U:=au (br p)) results94 j j (by rw [cL,eK]) a.bz,?_⟩;exact⟨j,a.bare⟩
def jM(n:Nat):Nat:=(max n 1-1)/3
def ii(n:Nat):Nat:=n-jM n
theorem FM(n:Nat):max (n:Int) 1=((max n 1:Nat):Int):=by omega
theorem yb{o:World}{n:Nat}(aJ:n<=1000):Calls prog 33 #[.int .i64 n] o λr w=>r= .int .i64 (jM n)/\w=o:=by
 refine a2 func33 (am 6 j (pR j j j ?_));exact bS 4 (.int .i64 (max n 1:Nat)) j (aG (Value.int .i64) (FM n)) (bq 0 j j j (hE (max n 1) 1 (by omega) (by omega)) (tR (J:=3) j j j j (by decide) (by omega) (aq 1 j j ⟨j,j⟩)))
theorem z6{o:World}{n:Nat}(aJ:n<=1000):Calls prog 212 #[.int .i64 n] o λr w=>r= .int .i64 (ii n)/\w=o:=by
 refine a2 func212 (bp 7 (yb aJ) j (λa hw=>?_));subst hw;exact bq 0 j j j (hE n (jM n) (by unfold jM;omega) (by omega)) (aq 1 j j ⟨j,j⟩)
abbrev hh(r:Nat)(v:Value)(b:Bool):List Chunk:=R r #[v,.bool b] 271
theorem F0{o:World}{A:Option Addr}{aD:List UInt8}{c:Nat}(g:Rd o A (au aD))(f:aD.length<=1000000000):
 Calls prog 162 #[.slice A aD.length c] o λx w=>∃r v G,x=ab r/\hN v false (some aD) G/\C o [] [hh r v false,G] w:=by
 have a:Own [] o:=C.start o;refine a2 func162 (bk 6 (g2 g f) j (λr w⟨G,b,aa⟩=>?_));have a:=a.aL aa;have e:=View.ofRow b;obtain⟨gY,d,rfl,_⟩:=b.form;exact cN (c:= #[.slice gY aD.length d,.bool false]) j j j (λ_=>by kernel_rfl) (bL 0 a j j (λh w a=>aq 1 j j ⟨_,_,G,j,⟨j,e⟩,a⟩))
theorem ne{o:World}{r:Nat}{v0:Value}{cW:Bool}{G:List Chunk}(a:Own [hh r v0 cW,G] o):
 Calls prog 163 #[ab r] o λx w=>x= .tuple #[]/\C o (av [hh r v0 cW,G]) [hh r (.slice none 0 0) true,G] w:=by
 refine a2 func163 ?_;refine dF 10 a j j j j (λw a=>?_);refine dF 2 a j j j j (λw a=>?_);refine aq 0 j j ?_;exact⟨j,a⟩
theorem Ew{o:World}{r:Nat}{v0:Value}{cW:Bool}{G:List Chunk}(a:Own [hh r v0 cW,G] o):
 Calls prog 164 #[ab r] o λx w=>x= .bool (!cW)/\C o (av [hh r v0 cW,G]) [hh r v0 cW,G] w:=by
 refine a2 func164 (am 8 j (bS 5 (.bool true) j (aG Value.bool (j)) ?_));exact ar 3 j (ax (C.aj a) j) (aq 3 j j ⟨j,a⟩)
theorem Be{o:World}{r:Nat}{v0:Value}{cW:Bool}{G:List Chunk}{s:ee}(a:Own [hh r v0 cW,G] o)(b:hN v0 cW s G):
 Calls prog 101 #[ab r] o λx w=>x= .bool (decide (s=some []))/\C o (av [hh r v0 cW,G]) [hh r v0 cW,G] w:=by
 obtain⟨A,c,rfl,e⟩:=b.2;have d:=b.1;refine a2 func101 (bp 6 (Ew a.cF) j (λw aa=>?_));have a:=a.cD aa;refine am 1 j (cT 5 j (λgk=>?_) (λgk=>?_))
 .skip
  refine ar 3 j (ax (C.aj a) j) (aq 4 j j (⟨aG Value.bool ?_,a⟩));cases s with
  |none=>simp [d] at gk
  |some l=>
   cases l<;>simp [ee.left];omega
 .skip
  refine aq 8 j j (⟨aG Value.bool ?_,a⟩);cases s with
  |none=>simp
  |some l=>simp [d] at gk
theorem Hn{o:World}{r:Nat}{v0:Value}{cW:Bool}{G:List Chunk}{s:ee}{n:Int}(a:Own [hh r v0 cW,G] o)(g:hN v0 cW s G)(H:s.left.length<=1000000000):
 Calls prog 250 #[ab r,.int .i64 n] o λx w=>∃v b d,du x (iO s n).1 d/\hN v b (iO s n).2 G/\C o (av [hh r v0 cW,G]) [d,hh r v b,G] w:=by
 obtain⟨A,c,rfl,p⟩:=g.2;have q:=g.1;refine a2 func250 (am 9 j (bS 8 (.bool false) j (aG Value.bool (j)) ?_));refine am 4 j (cT 12 j (λe=>?_) (λe=>?_))
 .skip
  refine bk 12 (ne a.cF) j (λx w⟨D,aa⟩=>?_);have a:=a.cD aa;refine aq 3 j j ?_;have a:=a.empty
  have he:iO s n=([],none):=by
   cases s with
   |none=>rfl
   |some l=>
    unfold iO;dsimp only;rw [a6]
    first
     |exact .inl (dz e)
     |exact .inr f
  rw [he];exact⟨_,_,[],Row.nil _ _,hN.bad G,a⟩
 .skip
  refine ar 4 j (ax (C.aj a) j) (b8 3 j j (λf=>?_) (λf=>?_))
  .skip
   refine bk 3 (ne a.cF) j (λx w⟨D,aa⟩=>?_);have a:=a.cD aa;refine aq 3 j j ?_;have a:=a.empty
   have he:iO s n=([],none):=by
    cases s with
    |none=>rfl
    |some l=>
     unfold iO;dsimp only;rw [a6]
     first
      |exact .inl (dz e)
      |exact .inr f
   rw [he];exact⟨_,_,[],Row.nil _ _,hN.bad G,a⟩
  .skip
   have I:0<=n:=by have:=dM e;omega
   have i:n<=s.left.length:=by omega
   refine ar 6 j (ax (C.aj a) j) ?_;obtain⟨E,F,B⟩:=p;obtain⟨k,rfl⟩:∃k:Nat,n=k:=⟨n.toNat,by omega⟩;have u:k<=s.left.length:=by omega
   refine am 1 j (rz j j j j (by omega) ?_);obtain⟨y,J⟩:=B _ _ _ _ a.f1;have z:Rd o A (au (s.left.take k)):=by rw [xx];exact y.take k
   have hlen:(s.left.take k).length=k:=by rw [g9];omega
   have h:=g2 (c:=c) z (by omega);rw [hlen] at h;refine bk 0 h j (λx w⟨d,m,aa⟩=>?_);have a:=(a.aL aa).f1;refine ar 7 j (ax (C.aj a) j) (am 1 j (oy j j j j (by omega) ?_));refine dF 2 a j j j j (λw a=>aq 4 j j (⟨_,_,d,?_,?_,a.f1⟩))
   .have he:(iO s k).1=s.left.take k:=by
     cases s with
     |none=>rw [show ee.left none=[] from j];simp [iO]
     |some l=>unfold iO;dsimp only;rw [if_neg (by simp only [ee.left,Option.getD_some] at i;omega)];simp [ee.left]
    rw [he];exact m
   .have he:(iO s k).2=s.map (·.drop k):=by
     cases s with
     |none=>rfl
     |some l=>unfold iO;dsimp only;rw [if_neg (by simp only [ee.left,Option.getD_some] at i;omega)];simp
    have t:(iO s k).2.left=s.left.drop k:=by
     rw [he];cases s<;>simp [ee.left]
    refine⟨by rw [q,he];cases s<;>rfl,?_⟩;rw [t];exact g.2.drop u
theorem eJ{o:World}{r:Nat}{v0:Value}{cW:Bool}{G:List Chunk}{s:ee}(a:Own [hh r v0 cW,G] o)(q:hN v0 cW s G)(T:s.left.length<=1000000000):
 Calls prog 100 #[ab r] o λx w=>x= .int .i64 ((eb s).1:Nat)/\∃v b,hN v b (eb s).2 G/\C o (av [hh r v0 cW,G]) [hh r v b,G] w:=by
 obtain⟨A,c,rfl,I⟩:=q.2;have F:=q.1;refine a2 func100 (ar 19 j (ax (C.aj a) j) ?_)
 refine cJ 3 j (ct:=Nat×Nat) (λi=>[(0,ab r),(11,.slice A s.left.length c),(12,.int .i64 (s.left.length:Nat)),(13,.int .i64 (i.1:Nat)),(3,.int .u64 (i.2:Nat))])
  (λi w=>i.1<=s.left.length/\i.1<=9/\i.2<128^i.1/\dec s.left=lR i.1 i.2 (s.left.drop i.1)/\C o (av [hh r (.slice A s.left.length c) cW,G]) [hh r (.slice A s.left.length c) cW,G] w) (λi=>s.left.length-i.1) (0,0)
  ⟨j,j,j,j,j,aX⟩ ⟨b4 _,b4 _,by simp,j,a⟩ ?_
 rintro⟨i,u⟩ w ⟨K,M,hu,d,a⟩;dsimp only at K M hu d a⊢;refine b8 4 j j (λH=>?_) (λH=>?_)
 .skip
  have e:i<s.left.length:=by omega
  obtain⟨R,S,O⟩:=I;obtain⟨N,U⟩:=O _ _ _ _ a.f1;refine am 6 j (fp j j j j N (v:=bv s.left[i]) (xw (by simp [e])) e (λP Q J=>?_));refine ar 0 j J (am 8 j (cT 20 j (λp=>?_) (λp=>?_)))
  .skip
   have k:s.left.drop i=s.left[i]::s.left.drop (i+1):=kp e;rw [k,lS] at d;have f:dec s.left=none:=by rw [d,a6 (.inl (by have:=dz p;omega))]
   refine bk 12 (ne a.cF) j (λx w⟨t,aa⟩=>?_);have a:=a.cD aa;refine aq 3 j j ?_;rw [q2 f];exact⟨j,_,_,hN.bad G,a⟩
  .skip
   refine am 3 j (cT 23 j (λm=>?_) (λm=>?_))
   .skip
    refine bm 4 j j (λg=>?_) (λg=>?_)
    .skip
     have k:s.left.drop i=s.left[i]::s.left.drop (i+1):=kp e;rw [k,lS] at d
     have f:dec s.left=none:=by
      rw [d,a6 (.inr ⟨by have:=dz m;omega,Da (x:=s.left[i]) (y:=0) (by simpa using g)⟩)]
     refine bk 4 (ne a.cF) j (λx w⟨t,aa⟩=>?_);have a:=a.cD aa;refine aq 3 j j ?_;rw [q2 f];exact⟨j,_,_,hN.bad G,a⟩
    .skip
     have L:i<=8:=by have:=dM p;omega
     refine bq 5 j j j (x7 _) (gt j j j (ni _ (by omega)) (bq 1 j j j (zo i (by omega)) (iu j j j j (by omega) (AD _ i (jF _ (by decide)) (by omega)) (bq 0 j j j (zJ u _ i hu (jF _ (by decide)) (by omega)) (b8 5 j j (λz=>?_) (λz=>?_))))))
     .skip
      refine b8 5 j j (λn=>?_) (λn=>?_)
      .skip
       have k:s.left.drop i=s.left[i]::s.left.drop (i+1):=kp e;rw [k,lS] at d
       have f:dec s.left=none:=by
        rw [d];split
        .rfl
        .rw [a6 (by omega),a6 (by omega)]
       refine bk 4 (ne a.cF) j (λx w⟨t,aa⟩=>?_);have a:=a.cD aa;refine aq 3 j j ?_;rw [q2 f];exact⟨j,_,_,hN.bad G,a⟩
      .skip
       have hle:=n;refine ar 7 j (ax (C.aj a) j) (bq 1 j j j (cE i (by omega)) (oy j j j j (by omega) (dF 2 a j j j j (λw a=>am 3 j (gt j j j (xJ _ (by omega)) ?_)))));refine aq 1 j j ?_
       have E:dec s.left=some (u+s.left[i].toNat%128*128^i,s.left.drop (i+1)):=by
        rw [d,kp e,lS,aI,a6 (by omega),aI (by omega)];rintro(h|⟨B,D⟩)
        .omega
        .first
          |(have:=dM m;omega)
          |(rw [D] at g;exact absurd g (by decide))
       rw [Ao E];refine⟨j,_,_,⟨?_,q.2.drop e⟩,a⟩;rw [F];cases s with
       |none=>simp [ee.left] at e
       |some l=>rfl
     .skip
      refine bq 2 j j j (cE i (by omega)) (bI 1 j (⟨(i+1,u+s.left[i].toNat%128*128^i),⟨j,j,j,j,j,aX⟩,⟨e,by dsimp only;omega,?_,?_,a⟩,by dsimp only;omega⟩))
      .dsimp only;rw [Nat.pow_succ];have B:s.left[i].toNat%128*128^i<=127*128^i:=kn _ (by omega);omega
      .rw [kp e,lS,aI,aI (by omega)] at d
       .exact d
       .rintro(h|⟨_,h⟩)
        .omega
        .rw [h] at g;exact absurd g (by decide)
   .skip
    have L:i<=8:=by have:=dM p;omega
    refine bq 10 j j j (x7 _) (gt j j j (ni _ (by omega)) (bq 1 j j j (zo i (by omega)) (iu j j j j (by omega) (AD _ i (jF _ (by decide)) (by omega)) (bq 0 j j j (zJ u _ i hu (jF _ (by decide)) (by omega)) (b8 5 j j (λz=>?_) (λz=>?_))))))
    .skip
     refine b8 5 j j (λn=>?_) (λn=>?_)
     .skip
      have k:s.left.drop i=s.left[i]::s.left.drop (i+1):=kp e;rw [k,lS] at d
      have f:dec s.left=none:=by
       rw [d];split
       .rfl
       .rw [a6 (by omega),a6 (by omega)]
      refine bk 4 (ne a.cF) j (λx w⟨t,aa⟩=>?_);have a:=a.cD aa;refine aq 3 j j ?_;rw [q2 f];exact⟨j,_,_,hN.bad G,a⟩
     .skip
      have hle:=n;refine ar 7 j (ax (C.aj a) j) (bq 1 j j j (cE i (by omega)) (oy j j j j (by omega) (dF 2 a j j j j (λw a=>am 3 j (gt j j j (xJ _ (by omega)) ?_)))));refine aq 1 j j ?_
      have E:dec s.left=some (u+s.left[i].toNat%128*128^i,s.left.drop (i+1)):=by
       rw [d,kp e,lS,aI,a6 (by omega),aI (by omega)];rintro(h|⟨B,D⟩)
       .omega
       .first
         |(have:=dM m;omega)
         |(rw [D] at g;exact absurd g (by decide))
      rw [Ao E];refine⟨j,_,_,⟨?_,q.2.drop e⟩,a⟩;rw [F];cases s with
      |none=>simp [ee.left] at e
      |some l=>rfl
    .skip
     refine bq 2 j j j (cE i (by omega)) (bI 1 j (⟨(i+1,u+s.left[i].toNat%128*128^i),⟨j,j,j,j,j,aX⟩,⟨e,by dsimp only;omega,?_,?_,a⟩,by dsimp only;omega⟩))
     .dsimp only;rw [Nat.pow_succ];have B:s.left[i].toNat%128*128^i<=127*128^i:=kn _ (by omega);omega
     .rw [kp e,lS,aI,aI (by omega)] at d
      .exact d
      .rintro(h|⟨h,_⟩)
       .omega
       .have:=dM m;omega
 .skip
  have f:dec s.left=none:=by
   rw [d,List.drop_eq_nil_of_le (by omega)];rfl
  refine bk 4 (ne a.cF) j (λx w⟨t,aa⟩=>?_);have a:=a.cD aa;refine aq 3 j j ?_;rw [q2 f];exact⟨j,_,_,hN.bad G,a⟩
def fJ(n a b:Int):Bool:=decide (a<=n/\n<=b)
def ka(p e t:Int):Bool:=fJ p 0 7&&fJ e 0 100&&fJ t 0 100
def i4(k p e t:Int):Bool:=fJ k 1 3&&ka p e t&&(k !=1||t==0)
abbrev y7(k p e t:Int):Value:=.agg #[ae k,ae p,ae e,ae t]
theorem i1{o:World}{n a b:Int}:Calls prog 138 #[.int .i64 n,.int .i64 a,.int .i64 b] o λr w=>r= .bool (fJ n a b)/\C o [] [] w:=by
 have d:Own [] o:=C.start o;refine a2 func138 (am 9 j (cT 10 j (λc=>?_) (λc=>?_)))
 .refine aq 5 j j (⟨aG Value.bool ?_,d⟩);have h:=dz c;unfold fJ;rw [oH];omega
 refine aq 5 j j (⟨aG Value.bool ?_,d⟩);have h:=dM c;unfold fJ
 symm
 rw [nP];omega
theorem yN{o:World}{p e t:Int}:Calls prog 139 #[.int .i64 p,.int .i64 e,.int .i64 t] o λr w=>r= .bool (ka p e t)/\C o [] [] w:=by
 have c:Own [] o:=C.start o;refine a2 func139 ?_;have d:=i1 (o:=o) (n:=p) (a:=0) (b:=7);refine bp 6 d j (λw aa=>?_);have c:=c.aL aa;refine am 1 j (cT 9 j (λg=>?_) (λg=>?_))
 .have d:=i1 (o:=w) (n:=e) (a:=0) (b:=100);refine bp 1 d j (λw aa=>?_);have c:=c.aL aa;refine am 2 j (cT 13 j (λf=>?_) (λf=>?_))
  .have d:=i1 (o:=w) (n:=t) (a:=0) (b:=100);refine bp 1 d j (λw aa=>?_);have c:=c.aL aa;refine aq 2 j j (⟨aG Value.bool ?_,c⟩);unfold ka
   simp_all
  refine aq 4 j j (⟨aG Value.bool ?_,c⟩);unfold ka
  simp_all
 refine am 4 j (bS 13 (.bool false) j (aG Value.bool (j)) ?_);refine aq 4 j j (⟨aG Value.bool ?_,c⟩);unfold ka
 simp_all
theorem yL{o:World}{k p e t:Int}:Calls prog 102 #[y7 k p e t] o λr w=>r= .bool (i4 k p e t)/\C o [] [] w:=by
 have c:Own [] o:=C.start o;refine a2 func102 (bL 2 c j j (λaz w c=>ar 4 j (ax (C.aj c) j) ?_));have d:=i1 (o:=w) (n:=k) (a:=1) (b:=3);refine bp 0 d j (λw aa=>?_);have c:=c.aL aa;refine am 1 j (cT 6 j (λeU=>?_) (λeU=>?_));refine ar 1 j (ax (C.aj c) j) (ar 1 j (ax (C.aj c) j) (ar 1 j (ax (C.aj c) j) ?_));have d:=yN (o:=w) (p:=p) (e:=e) (t:=t);refine bp 0 d j (λw aa=>?_);have c:=c.aL aa;refine am 2 j (cT 15 j (λf=>?_) (λf=>?_))
 .refine ar 1 j (ax (C.aj c) j) (am 2 j (cT 19 j (λg=>?_) (λg=>?_)))
  .refine aq 6 j j (⟨aG Value.bool ?_,c.bare⟩);unfold i4
   simp_all
  refine ar 1 j (ax (C.aj c) j) (aq 4 j j (⟨aG Value.bool ?_,c.bare⟩));unfold i4
  simp_all
 rotate_left
 refine am 9 j (bS 15 (.bool false) j (aG Value.bool (j)) ?_);rotate_left
 all_goals
  refine aq 10 j j (⟨aG Value.bool ?_,c.bare⟩);unfold i4
  simp_all
theorem uM{o:World}{k p e t:Int}:Calls prog 165 #[y7 k p e t] o λr w=>∃v G,r= .tuple #[v,.int .i64 (if i4 k p e t then 0 else 1)]/\du v (if i4 k p e t then d7 [3,k,p,e,t] else []) G/\C o [] [G] w:=by
 have a:Own [] o:=C.start o;refine a2 func165 ?_;refine bL 2 a j j (λaz w a=>?_);refine bM 5 j j j a.bz ?_;have d:=yL (o:=w) (k:=k) (p:=p) (e:=e) (t:=t);refine bp 0 d j (λw aa=>?_);have a:=a.aL aa;refine bm 1 j j (λdB=>?_) (λdB=>?_)
 .refine aq 4 j j ?_;have hm:i4 k p e t=false:=by simpa using dB
  rw [hm];exact⟨_,[],j,Row.nil _ _,a.bare.empty⟩
 refine b7 3 a j (λf w a=>?_);have a:=a.f1;refine ar 3 j (ax (C.aj a) j) ?_;refine ar 1 j (ax (C.aj a) j) ?_;refine ar 1 j (ax (C.aj a) j) ?_;refine ar 1 j (ax (C.aj a) j) ?_;refine eC a j j j j j j bG (λh w a=>?_);have a:C o [] [[(h,_)],_,e2 f (.slice none 0 0)] w:=a;have aJ:=a.bz;have l:=a.iX (off:=0) (sp:=none) (U:=[3,k,p,e,t].map ae);have a:=a.f2.empty.f1;have d:=lp (aD:=[]) (cS:=[3,k,p,e,t]) (c:=5) a.cF (Row.nil _ _) aJ (l.kX (by simp) (λb m=>fI (fz:=[e2 f (.slice none 0 0)]) (by simp) b (by simpa [av] using m))) (by simp);refine bp 0 d j (λw⟨v,ag,g,aa⟩=>?_);have a:=a.cD aa;rw [kI] at g;have d:=qT a.cF g (by have:=fU [3,k,p,e,t];simp only [eu,ge] at this;omega);refine bk 2 d j (λr w⟨G,i,aa⟩=>?_);have a:=(a.cD aa).hR;refine aq 2 j j ?_;have hm:i4 k p e t=true:=by simpa using dB
 rw [hm];exact⟨_,G,j,i,a⟩
theorem wa(s:ee)(a:s.left.length<=1000000000):(eb s).2.left.length<=1000000000:=by
 have key:∀(l:List UInt8)(i u:Nat)(x:Nat×List UInt8),lR i u l=some x->x.2.length<=l.length:=by
  intro l;induction l with
  |nil=>intro i u x h;simp [lR] at h
  |cons c r d=>
   intro i u x h;rw [lS] at h;split at h
   .cases h
   .split at h
    .split at h
     .cases h
     .cases h;simp
    .have:=d _ _ _ h;simp only [eu];omega
 cases s with
 |none=>exact a
 |some l=>
  unfold eb;dsimp only;cases b:dec l with
  |none=>simp [ee.left]
  |some x=>
   obtain⟨u,r⟩:=x;have:=key l 0 0 (u,r) b;dsimp only at this;simp only [ee.left,me] at a⊢;omega
def b1(aD:List UInt8)(k:Int):ee:=if((eb (some aD)).1:Int)=k then(eb (some aD)).2 else none
def e7(s:ee):Nat->ee
 |0=>s
 |n+1=>(eb (e7 s n)).2
theorem eX(s:ee)(a:s.left.length<=1000000000):∀n,(e7 s n).left.length<=1000000000
 |0=>a
 |n+1=>wa _ (eX s a n)
theorem xt{o:World}{A:Option Addr}{aD:List UInt8}{c:Nat}{k:Int}(l:Rd o A (au aD))(f:aD.length<=1000000000):
 Calls prog 99 #[.slice A aD.length c,.int .i64 k] o λx w=>∃r v b G,x=ab r/\hN v b (b1 aD k) G/\C o [] [hh r v b,G] w:=by
 have a:Own [] o:=C.start o;refine a2 func99 ?_;have d:=F0 (c:=c) l f;refine bk 6 d j (λr w⟨r,v,G,m,g,aa⟩=>?_);subst m;have a:=a.aL aa;have d:=eJ a.cF g (show(ee.left (some aD)).length<=1000000000 from f);refine bp 5 d j (λw⟨v1,az,h,aa⟩=>?_);have a:=a.cD aa;refine bm 2 j j (λe=>?_) (λe=>?_)
 .skip
  have d:=ne a.cF;refine bp 2 d j (λw aa=>?_);have a:=a.cD aa;refine aq 4 j j ?_;have i:¬((eb (some aD)).1:Int)=k:=by simpa using e
  refine⟨_,_,_,G,j,?_,a⟩;unfold b1;rw [aI i];exact hN.bad G
 .skip
  refine aq 5 j j ?_;have he:((eb (some aD)).1:Int)=k:=by simpa using e
  refine⟨_,_,_,G,j,?_,a⟩;unfold b1;rw [a6 he];exact h
theorem uz{o:World}{a:Nat}{v0:Value}{e:List Chunk}{aD:List UInt8}{A:Option Addr}{rows:List (List UInt8)}{c:Nat}
 (b:Own [e2 a v0,e] o) (d:du v0 aD e) (n:k4 o A rows (av [e2 a v0,e])) (D:aD.length+ja rows<=100000000):
 Calls prog 84 #[ab a,.slice A rows.length c] o λr w=>r= .tuple #[]/\∃v ag,du v (aD++jJ rows) ag/\C o (av [e2 a v0,e]) [e2 a v,ag] w:=by
 refine a2 func84 ?_
 refine cJ 6 j (ct:=Nat×Value×List Chunk)
  (λi=>[(0,ab a),(6,.slice A rows.length c),(7,.int .i64 (rows.length:Nat)),(8,.int .i64 (i.1:Nat))])
  (λi w=>i.1<=rows.length/\du i.2.1 (aD++jJ (rows.take i.1)) i.2.2/\C o (av [e2 a v0,e]) [e2 a i.2.1,i.2.2] w)
  (λi=>rows.length-i.1) (0,v0,e) ⟨j,j,j,j,aX⟩ ⟨b4 _,by simpa [jJ] using d,b⟩ ?_
 rintro⟨J,v,ag⟩ w ⟨k,d,b⟩;dsimp only at k d b⊢;refine bm 4 j j (λg=>?_) (λg=>?_)
 .skip
  have f:J<rows.length:=by have:=dz g;omega
  obtain⟨U,x,ci,p,q,s,t,u⟩:=n.at J f;have F:=IZ rows J f;have E:=IY rows;have G:=DW (rows.take J) (by omega);refine am 5 j (fp j j j j (b.rd p q) (by simpa using s) f (λy B h=>?_));refine ar 0 j h ?_;refine am 6 j (eC b j j j j j j bG (λz w b=>?_));have aJ:=b.bz;have m:=b.iX (off:=0) (sp:=none) (U:=[ae ((rows[J].length:Nat):Int)]);have b:=b.f2.f2;refine bk 0 (lp (cS:=[((rows[J].length:Nat):Int)]) b.cF d aJ m (by simp only [b0,List.length_cons,List.length_nil];omega)) j (λr w⟨_,v,ag,d,aa⟩=>?_);have b:=(b.cD aa).f2.drop;refine bk 3 (qY (da:=rows[J]) b.cF d (b.rd t u) (by have:=jI rows[J] (by omega);simp only [hC,d7,jZ,List.flatMap_nil,hc,xE _ (show rows[J].length<=4611686018427387904 by omega),b0] at*;omega)) j (λr w⟨_,v,ag,d,aa⟩=>?_);have b:=b.cD aa;refine bq 1 j j j (cE J (by omega)) ?_;refine bI 1 j ?_;refine⟨(J+1,v,ag),⟨j,j,j,j,aX⟩,⟨f,?_,b⟩,by dsimp only;omega⟩;rw [DX rows J f];simpa [hC,d7,xE _ (show rows[J].length<=4611686018427387904 by omega)] using d
 .skip
  refine aq 1 j j ?_;refine⟨j,v,ag,?_,b⟩;have l:J=rows.length:=by have:=dM g;omega
  subst l;simpa using d
theorem Ag{o:World}{x:Int}:
 Calls prog 65 #[.int .i64 x] o λr w=>∃G,du r (enc (fH x)) G/\C o [] [G] w:=by
 have a:Own [] o:=C.start o;refine a2 func65 (bm 11 j j (λeU=>?_) (λeU=>?_))
 .skip
  refine am 4 j (bS 3 (.int .u64 ((fH x:Nat):Int)) j (aG (Value.int .u64) ((by(try simp only [gd] at*);(try simp only [nP] at*);(try rw [lK]);unfold fH;omega))) ?_);have e:=ng x
  refine cJ 3 j (ct:=Nat×Value×List Chunk×List UInt8) (λi=>[(3,.int .u64 (i.1:Nat)),(4,i.2.1)])
   (λi w=>i.2.2.2++enc i.1=enc (fH x)/\du i.2.1 i.2.2.2 i.2.2.1/\C o [] [i.2.2.1] w/\i.1<=4611686018427387904)
   (λi=>i.1) (fH x,.slice none 0 0,[],[]) ⟨j,j,aX⟩ ⟨j,Row.nil _ _,a.empty,e⟩ ?_
  rintro⟨u,v,ag,d⟩ w ⟨c,b,a,f⟩;dsimp only at c b a f⊢
  have hlen:d.length+(enc u).length<=9:=by
   have l:=aG List.length c;have n:=ml (fH x) e;simp only [b0] at l;omega
  have p:=se u;refine b8 5 j j (λk=>?_) (λk=>?_)
  .skip
   refine bq 6 j j j (uU u f) (gt j j j j (am 1 j (bS 17 (bv (UInt8.ofNat (u%128+128))) j (aG (Value.int .u8) (vu u)) ?_)));refine eC a j j j j j j bG (λg w a=>?_);have aJ:Rd w (some ⟨g,0,none⟩) [bv (UInt8.ofNat (u%128+128))]:=a.bz;have a:=a.f1;refine dR a b j j (by decide) j j j (m:=1) (news:=[bv (UInt8.ofNat (u%128+128))]) j aJ (eg [(UInt8.ofNat (u%128+128))]) (by omega) (by unfold maxLen;omega) (λv ag w b a=>?_);have a:=a.f1.drop;refine am 3 j (iu j j j j (by omega) j ?_);refine bS 21 (.int .u64 ((u/128:Nat):Int)) j (aG (Value.int .u64) (s8 u)) (bI 1 j ?_);have hu:¬u<128:=by omega
   refine⟨(u/128,v,ag,d++[(UInt8.ofNat (u%128+128))]),⟨j,j,aX⟩,⟨?_,nf b,a,by dsimp only;omega⟩,by dsimp only;omega⟩;rw [o2 hu] at c;simpa using c
  .skip
   refine am 5 j (gt j j j j ?_);refine bS 24 (bv (UInt8.ofNat u)) j (aG (Value.int .u8) (sA u)) (eC a j j j j j j bG (λh w a=>?_));have aJ:Rd w (some ⟨h,0,none⟩) [bv (UInt8.ofNat u)]:=a.bz;have a:=a.f1;refine dR a b j j (by decide) j j j (m:=1) (news:=[bv (UInt8.ofNat u)]) j aJ (eg [(UInt8.ofNat u)]) (by omega) (by unfold maxLen;omega) (λv ag w b a=>?_);have a:=a.f1.drop;refine aq 1 j j ?_;have hu:u<128:=by omega
   rw [n0 hu] at c;refine⟨ag,?_,a⟩;rw [<-c];exact nf b
 .skip
  refine bm 4 j j (λeD=>?_) (λeD=>?_)
  .skip
   refine am 2 j (gt j j j j ?_);refine am 3 j (bS 3 (.int .u64 ((fH x:Nat):Int)) j (aG (Value.int .u64) ((by(try simp only [gd] at*);(try simp only [nP] at*);(try rw [lK]);unfold fH;omega))) ?_);have e:=ng x
   refine cJ 3 j (ct:=Nat×Value×List Chunk×List UInt8) (λi=>[(3,.int .u64 (i.1:Nat)),(4,i.2.1)])
    (λi w=>i.2.2.2++enc i.1=enc (fH x)/\du i.2.1 i.2.2.2 i.2.2.1/\C o [] [i.2.2.1] w/\i.1<=4611686018427387904)
    (λi=>i.1) (fH x,.slice none 0 0,[],[]) ⟨j,j,aX⟩ ⟨j,Row.nil _ _,a.empty,e⟩ ?_
   rintro⟨u,v,ag,d⟩ w ⟨c,b,a,f⟩;dsimp only at c b a f⊢
   have hlen:d.length+(enc u).length<=9:=by
    have l:=aG List.length c;have n:=ml (fH x) e;simp only [b0] at l;omega
   have p:=se u;refine b8 5 j j (λk=>?_) (λk=>?_)
   .skip
    refine bq 6 j j j (uU u f) (gt j j j j (am 1 j (bS 17 (bv (UInt8.ofNat (u%128+128))) j (aG (Value.int .u8) (vu u)) ?_)));refine eC a j j j j j j bG (λg w a=>?_);have aJ:Rd w (some ⟨g,0,none⟩) [bv (UInt8.ofNat (u%128+128))]:=a.bz;have a:=a.f1;refine dR a b j j (by decide) j j j (m:=1) (news:=[bv (UInt8.ofNat (u%128+128))]) j aJ (eg [(UInt8.ofNat (u%128+128))]) (by omega) (by unfold maxLen;omega) (λv ag w b a=>?_);have a:=a.f1.drop;refine am 3 j (iu j j j j (by omega) j ?_);refine bS 21 (.int .u64 ((u/128:Nat):Int)) j (aG (Value.int .u64) (s8 u)) (bI 1 j ?_);have hu:¬u<128:=by omega
    refine⟨(u/128,v,ag,d++[(UInt8.ofNat (u%128+128))]),⟨j,j,aX⟩,⟨?_,nf b,a,by dsimp only;omega⟩,by dsimp only;omega⟩;rw [o2 hu] at c;simpa using c
   .skip
    refine am 5 j (gt j j j j ?_);refine bS 24 (bv (UInt8.ofNat u)) j (aG (Value.int .u8) (sA u)) (eC a j j j j j j bG (λh w a=>?_));have aJ:Rd w (some ⟨h,0,none⟩) [bv (UInt8.ofNat u)]:=a.bz;have a:=a.f1;refine dR a b j j (by decide) j j j (m:=1) (news:=[bv (UInt8.ofNat u)]) j aJ (eg [(UInt8.ofNat u)]) (by omega) (by unfold maxLen;omega) (λv ag w b a=>?_);have a:=a.f1.drop;refine aq 1 j j ?_;have hu:u<128:=by omega
    rw [n0 hu] at c;refine⟨ag,?_,a⟩;rw [<-c];exact nf b
  .skip
   refine am 3 j (bS 3 (.int .u64 ((fH x:Nat):Int)) j (aG (Value.int .u64) ((by(try simp only [gd] at*);(try simp only [nP] at*);(try rw [lK]);unfold fH;omega))) ?_);have e:=ng x
   refine cJ 3 j (ct:=Nat×Value×List Chunk×List UInt8) (λi=>[(3,.int .u64 (i.1:Nat)),(4,i.2.1)])
    (λi w=>i.2.2.2++enc i.1=enc (fH x)/\du i.2.1 i.2.2.2 i.2.2.1/\C o [] [i.2.2.1] w/\i.1<=4611686018427387904)
    (λi=>i.1) (fH x,.slice none 0 0,[],[]) ⟨j,j,aX⟩ ⟨j,Row.nil _ _,a.empty,e⟩ ?_
   rintro⟨u,v,ag,d⟩ w ⟨c,b,a,f⟩;dsimp only at c b a f⊢
   have hlen:d.length+(enc u).length<=9:=by
    have l:=aG List.length c;have n:=ml (fH x) e;simp only [b0] at l;omega
   have p:=se u;refine b8 5 j j (λk=>?_) (λk=>?_)
   .skip
    refine bq 6 j j j (uU u f) (gt j j j j (am 1 j (bS 17 (bv (UInt8.ofNat (u%128+128))) j (aG (Value.int .u8) (vu u)) ?_)));refine eC a j j j j j j bG (λg w a=>?_);have aJ:Rd w (some ⟨g,0,none⟩) [bv (UInt8.ofNat (u%128+128))]:=a.bz;have a:=a.f1;refine dR a b j j (by decide) j j j (m:=1) (news:=[bv (UInt8.ofNat (u%128+128))]) j aJ (eg [(UInt8.ofNat (u%128+128))]) (by omega) (by unfold maxLen;omega) (λv ag w b a=>?_);have a:=a.f1.drop;refine am 3 j (iu j j j j (by omega) j ?_);refine bS 21 (.int .u64 ((u/128:Nat):Int)) j (aG (Value.int .u64) (s8 u)) (bI 1 j ?_);have hu:¬u<128:=by omega
    refine⟨(u/128,v,ag,d++[(UInt8.ofNat (u%128+128))]),⟨j,j,aX⟩,⟨?_,nf b,a,by dsimp only;omega⟩,by dsimp only;omega⟩;rw [o2 hu] at c;simpa using c
   .skip
    refine am 5 j (gt j j j j ?_);refine bS 24 (bv (UInt8.ofNat u)) j (aG (Value.int .u8) (sA u)) (eC a j j j j j j bG (λh w a=>?_));have aJ:Rd w (some ⟨h,0,none⟩) [bv (UInt8.ofNat u)]:=a.bz;have a:=a.f1;refine dR a b j j (by decide) j j j (m:=1) (news:=[bv (UInt8.ofNat u)]) j aJ (eg [(UInt8.ofNat u)]) (by omega) (by unfold maxLen;omega) (λv ag w b a=>?_);have a:=a.f1.drop;refine aq 1 j j ?_;have hu:u<128:=by omega
    rw [n0 hu] at c;refine⟨ag,?_,a⟩;rw [<-c];exact nf b
theorem Hh{o:World}{A:Option Addr}{cS:List Int}{c:Nat}(k:Rd o A (cS.map ae))(q:cS.length<=10000000):
 Calls prog 64 #[.slice A cS.length c] o λr w=>∃G,du r (d7 cS) G/\C o [] [G] w:=by
 have a:Own [] o:=C.start o;refine a2 func64 ?_
 refine cJ 11 j (ct:=Nat×Value×List Chunk) (λi=>[(0,.slice A cS.length c),(3,i.2.1),(4,.int .i64 (i.1:Nat))])
  (λi w=>i.1<=cS.length/\du i.2.1 (d7 (cS.take i.1)) i.2.2/\C o [] [i.2.2] w)
  (λi=>cS.length-i.1) (0,.slice none 0 0,[]) ⟨j,j,j,aX⟩ ⟨b4 _,Row.nil _ _,a.empty⟩ ?_
 rintro⟨J,v,ag⟩ w ⟨g,b,a⟩;dsimp only at g b a⊢;refine b8 7 j j (λeD=>?_) (λeD=>?_)
 .skip
  have d:J<cS.length:=by omega
  refine am 7 j (fp j j j j (a.rd k (bT.of_nil _ _)) (v:=ae cS[J]) (by simp [d]) d (λm p f=>?_));refine ar 0 j f (bk 0 Ag j (λr w⟨G,e,aa⟩=>?_));have a:=a.aL aa;obtain⟨gY,n,rfl,_,_,l,_⟩:=e.rd a;have a:=a.f1;refine dR a b j j (by decide) j j j (news:=au (enc (fH cS[J]))) (by simp) l (eg _) (by have:=ml _ (ng cS[J]);have:=fU (cS.take J);rw [List.length_take] at this;omega) (by have:=ml _ (ng cS[J]);have:=fU (cS.take J);rw [List.length_take] at this;unfold maxLen;omega) (λv ag w b a=>?_);have a:=a.f1.drop;refine bq 3 j j j (cE J (by omega)) (bI 1 j (⟨(J+1,v,ag),⟨j,j,j,aX⟩,⟨d,?_,a⟩,by dsimp only;omega⟩));dsimp only;rw [D0 cS J d];exact oX b j
 .skip
  refine aq 5 j j ?_;have h:J=cS.length:=by omega
  subst h;exact⟨ag,by simpa using b,a⟩
structure aE where
 k:Int
 s:Int
 v:Int
 sum:List UInt8
 f:Int
 tag:List UInt8
def aE.ok(x:aE):Prop:=x.sum.length=32/\x.tag.length=32
def aE.cs(x:aE):List Value:=ae x.k::ae x.s::ae x.v::(au x.sum++ae x.f::au x.tag)
def aE.kP(x:aE):List UInt8:=d7 [x.k,x.s,x.v]++(x.sum++(d7 [x.f]++x.tag))
def aE.kd(x:aE):List UInt8:=d7 [5,x.k,x.s,x.v]++(x.sum++d7 [x.f])
def ju(l:List aE):List UInt8:=d7 [(l.length:Int)]++l.flatMap aE.kP
theorem aE.gJ(x:aE):x.cs.toArray[0]? =some (ae x.k):=by simp [aE.cs]
theorem aE.aV(x:aE):x.cs.toArray[1]? =some (ae x.s):=by simp [aE.cs]
theorem aE.dp(x:aE):x.cs.toArray[2]? =some (ae x.v):=by simp [aE.cs]
theorem aE.eo(x:aE)(h:x.ok):x.cs.toArray[35]? =some (ae x.f):=by
 have a:=h.1;simp only [aE.cs,nb,nV];rw [jf (by simp [a])];simp [a]
theorem aE.len(x:aE)(h:x.ok):x.cs.length=68:=by simp [aE.cs,h.1,h.2]
theorem aE.nY(x:aE)(h:x.ok):∀i v,(au x.sum)[i]? =some v->x.cs.toArray[0+3+i]? =some v:=λi v a=>by
 have b:i<(au x.sum).length:=(fk.1 a).1;rw [show 0+3+i=i+1+1+1 by omega];simp only [aE.cs,nb,nV];rw [iU b];exact a
theorem aE.qv(x:aE)(h:x.ok):∀i v,(au x.tag)[i]? =some v->x.cs.toArray[0+36+i]? =some v:=λi v b=>by
 have a:=h.1;rw [show 0+36+i=(i+33)+1+1+1 by omega];simp only [aE.cs,nb,nV];rw [jf (by simp [a])];simp only [cL,a];rw [show i+33-32=i+1 by omega,nV];exact b
theorem aE.one(x:aE):x.cs.all (·.oneCell')=true:=by
 simp only [aE.cs,List.all_cons,List.all_append,Bool.and_eq_true,List.all_eq_true];exact⟨j,j,j,λv a=>eg _ v a,j,λv a=>eg _ v a⟩
theorem Fi(x:aE)(h:x.ok):x.kP.length<=200:=by
 have a:=fU [x.k,x.s,x.v];have b:=fU [x.f];simp only [eu,ge] at a b;simp only [aE.kP,b0,h.1,h.2];omega
theorem Fh{o:World}{a:Nat}{v0:Value}{l:List Chunk}{aD:List UInt8}{x:aE}(b:Own [e2 a v0,l] o)(d:du v0 aD l)(h:x.ok)(z:aD.length<=100000000):
 Calls prog 161 #[ab a,.agg x.cs.toArray] o λr w=>r= .tuple #[]/\∃v ag,du v (aD++x.kP) ag/\C o (av [e2 a v0,l]) [e2 a v,ag] w:=by
 refine a2 func161 ?_;refine bL 2 b j j (λy w b=>?_);refine ar 4 j (b.cell x.gJ) ?_;refine ar 1 j (b.cell x.aV) ?_;refine ar 1 j (b.cell x.dp) ?_;refine eC b j j j j j j bG (λt w b=>?_);have aJ:=b.bz;have m:=b.iX (off:=0) (sp:=none) (U:=[x.k,x.s,x.v].map ae);have b:=b.f2.f3.f1;have g:=lp (cS:=[x.k,x.s,x.v]) (c:=3) b.cF d aJ (m.kX (by simp) (fI (by simp))) (by simp;omega);refine bp 0 g j (λw⟨v1,i,d,aa⟩=>?_);have b:=b.cD aa;have q:=fU [x.k,x.s,x.v];have p:=fU [x.f];simp only [eu,ge] at q p;refine am 4 j (k3 j j j ?_);have n:=b.f3.ij (off:=0+3) (U:=au x.sum) (x.nY h);have g:=qY (c:=32) b.cF d n (by rw [b0,h.1];omega);rw [h.1] at g;refine bp 0 g j (λw⟨v1,i,d,aa⟩=>?_);have b:=b.cD aa;refine ar 4 j (b.f3.cell (x.eo h)) ?_;refine eC b j j j j j j bG (λu w b=>?_);have aJ:=b.bz;have m:=b.iX (off:=0) (sp:=none) (U:=[x.f].map ae);have b:=b.f1.f2.f1;have g:=lp (cS:=[x.f]) (c:=1) b.cF d aJ (m.kX (by simp) (fI (by simp))) (by simp [h.1];omega);refine bp 0 g j (λw⟨v1,i,d,aa⟩=>?_);have b:=b.cD aa;refine am 3 j (k3 j j j ?_);have n:=b.f4.ij (off:=0+36) (U:=au x.tag) (x.qv h);have g:=qY (c:=32) b.cF d n (by simp only [b0,h.1,h.2];omega);rw [h.2] at g;refine bp 0 g j (λw⟨v1,i,d,aa⟩=>?_);have b:=b.cD aa;refine aq 0 j j ?_;refine⟨j,v1,i,?_,b.kM⟩;have e:aD++x.kP=aD++d7 [x.k,x.s,x.v]++x.sum++d7 [x.f]++x.tag:=by simp [aE.kP,dJ]
 rw [e];exact d
theorem wp:∀(l:List aE),(∀x∈l,x.ok)->∀(i:Nat)(a:i<l.length),((l.flatMap aE.cs).drop (i*68)).take 68=l[i].cs
 |[],_,i,a=>by simp at a
 |x::r,h,0,_=>by
  have b:=x.len (h x (by simp));rw [oD,List.drop_zero,jZ,List.take_append_of_le_length (by omega),h7 (by omega)];rfl
 |x::r,h,i+1,a=>by
  have b:=x.len (h x (by simp));have d:=wp r (λy c=>h y (by simp [c])) i (by simpa using a);rw [jZ,show(i+1)*68=x.cs.length+i*68 by rw [b];omega,List.drop_append];rw [tW (by omega),kI,show x.cs.length+i*68-x.cs.length=i*68 by omega];exact d
theorem ol(l:List aE)(h:∀x∈l,x.ok)(i:Nat)(c:i<l.length):(l.flatMap aE.cs)[i*68]? =some (ae l[i].k):=by
 have b:=wp l h i c;have a:=aG (λz=>z[0]?) b;simp only [jE,lL] at a;simpa [aE.cs] using a
theorem om{w:World}{a:Addr}{l:List aE}(d:Rd w (some a) (l.flatMap aE.cs))(h:∀x∈l,x.ok)(i:Nat)(c:i<l.length):Rd w (some (a.add (i*68))) l[i].cs:=by
 have b:=(d.drop (i*68)).take 68;rw [wp l h i c] at b;exact b
theorem yT(l:List aE)(h:∀x∈l,x.ok)(i:Nat):((l.take i).flatMap aE.kP).length<=200*i:=by
 induction i with
 |zero=>simp
 |succ i b=>
  by_cases a:i<l.length
  .rw [fr a,mZ,List.length_append];have:=Fi l[i] (h _ (d9 a));simp only [jZ,List.flatMap_nil,hc];omega
  .rw [h7 (by omega)] at b⊢;omega
theorem Ap{o:World}{a:Nat}{v0:Value}{h:List Chunk}{aD:List UInt8}{B:Option Addr}{l:List aE}{d:Nat}(b:Own [e2 a v0,h] o)(f:du v0 aD h)(F:Rd o B (l.flatMap aE.cs))(y:bT B (l.flatMap aE.cs) (av [e2 a v0,h]))(p:∀x∈l,x.ok)(M:l.length<=1000)(K:aD.length<=1000000):
 Calls prog 160 #[ab a,.func (.func 161) #[] #[],.slice B l.length d] o λr w=>r= .tuple #[]/\∃v ag,du v (aD++ju l) ag/\C o (av [e2 a v0,h]) [e2 a v,ag] w:=by
 refine a2 func160 ?_;refine am 5 j (eC b j j j j j j bG (λI w b=>?_));have aJ:=b.bz;have z:=b.iX (off:=0) (sp:=none) (U:=[(l.length:Int)].map ae);have b:=b.f1.f2.f1;have s:=lp (cS:=[(l.length:Int)]) (c:=1) b.cF f aJ (z.kX (by simp) (fI (by simp))) (by simp;omega);refine bp 0 s j (λw⟨v1,m,f,aa⟩=>?_);have b:=(b.cD aa).kM;have E:=fU [(l.length:Int)];simp only [eu,ge] at E
 refine cJ 6 j (ct:=Nat×Value×List Chunk) (λi=>[(0,ab a),(1,.func (.func 161) #[] #[]),(13,.slice B l.length d),(14,.int .i64 (l.length:Nat)),(15,.int .i64 (i.1:Nat))])
  (λi w=>i.1<=l.length/\du i.2.1 (aD++d7 [(l.length:Int)]++(l.take i.1).flatMap aE.kP) i.2.2/\C o (av [e2 a v0,h]) [e2 a i.2.1,i.2.2] w) (λi=>l.length-i.1) (0,v1,m) ⟨j,j,j,j,j,aX⟩ ⟨b4 _,by simpa using f,b⟩ ?_
 rintro⟨i,v1,m⟩ w ⟨A,f,b⟩;dsimp only at A f b⊢;refine bm 4 j j (λq=>?_) (λq=>?_)
 .skip
  have g:i<l.length:=by have:=dz q;omega
  have n:=p l[i] (d9 g);have t:=b.rd F y;have N:=yT l p i;refine am 5 j (fp j j j j t (v:=ae l[i].k) (ol l p i g) g (λH u L=>?_));subst u;refine bM 0 j j (l[i].len n) (om t p i g) ?_;refine b7 0 b j (λJ w b=>?_);refine b6 0 b j j j l[i].one (l[i].len n) (λw b=>?_);have b:=C.whole (U:=l[i].cs) b (by rw [l[i].len n];rfl);refine bM 3 (U:=l[i].cs) j j (l[i].len n) b.bz ?_;have b:=b.f1.f2.f1;have s:=Fh b.cF f n (by simp only [b0];omega);refine hL j j j j s (λr w⟨G,v1,m,f,aa⟩=>?_);subst G;have b:=(b.cD aa).kM;refine bq 1 j j j (cE i (by omega)) ?_;refine bI 1 j ?_;refine⟨(i+1,v1,m),⟨j,j,j,j,j,aX⟩,⟨g,?_,b⟩,by dsimp only;omega⟩;dsimp only
  have e:aD++d7 [(l.length:Int)]++(l.take (i+1)).flatMap aE.kP=aD++d7 [(l.length:Int)]++(l.take i).flatMap aE.kP++l[i].kP:=by
   rw [fr g,mZ];simp [dJ]
  rw [e];exact f
 .skip
  refine aq 1 j j ?_;have D:i=l.length:=by have:=dM q;omega
  rw [D,gj] at f;refine⟨j,v1,m,?_,b⟩;have e:aD++ju l=aD++d7 [(l.length:Int)]++l.flatMap aE.kP:=by simp [ju,dJ]
  rw [e];exact f
theorem A4{o:World}{x:aE}(h:x.ok):Calls prog 157 #[.agg x.cs.toArray] o λr w=>∃G,du r x.kd G/\C o [] [G] w:=by
 have a:Own [] o:=C.start o;refine a2 func157 ?_;refine bL 2 a j j (λaz w a=>?_);refine b7 3 a j (λm w a=>?_);have a:C o [] (e2 m (.slice none 0 0)::_) w:=a;refine ar 3 j (a.f1.cell x.gJ) ?_;refine ar 1 j (a.f1.cell x.aV) ?_;refine ar 1 j (a.f1.cell x.dp) ?_;refine eC a j j j j j j bG (λy w a=>?_);have aJ:=a.bz;have i:=a.iX (off:=0) (sp:=none) (U:=[5,x.k,x.s,x.v].map ae);have a:=a.f1.empty.f1;have d:=lp (aD:=[]) (cS:=[5,x.k,x.s,x.v]) (c:=4) a.cF (Row.nil _ _) aJ (i.kX (by simp) (λb p=>fI (fz:=[e2 m (.slice none 0 0)]) (by simp) b (by simpa [av] using p))) (by simp);refine bp 0 d j (λw⟨v1,l,g,aa⟩=>?_);have a:=a.cD aa;rw [kI] at g;have t:=fU [5,x.k,x.s,x.v];simp only [eu,ge] at t;have q:=fU [x.f];simp only [eu,ge] at q;refine am 3 j (k3 j j j ?_);have u:=a.f3.ij (off:=0+3) (U:=au x.sum) (x.nY h);have d:=qY (c:=32) a.cF g u (by rw [h.1];omega);rw [h.1] at d;refine bp 0 d j (λw⟨v1,l,g,aa⟩=>?_);have a:=a.cD aa;refine ar 3 j (a.f3.cell (x.eo h)) ?_;refine eC a j j j j j j bG (λz w a=>?_);have aJ:=a.bz;have i:=a.iX (off:=0) (sp:=none) (U:=[x.f].map ae);have a:=a.f1.f2.f1;have d:=lp (cS:=[x.f]) (c:=1) a.cF g aJ (i.kX (by simp) (fI (by simp))) (by simp [h.1];omega);refine bp 0 d j (λw⟨v1,l,g,aa⟩=>?_);have a:=a.cD aa;have d:=qT a.cF g (by simp only [b0,h.1];omega);refine bk 2 d j (λr w⟨G,n,aa⟩=>?_);have a:=(a.cD aa).hR;refine aq 1 j j ?_;refine⟨G,?_,a⟩;have e:x.kd=d7 [5,x.k,x.s,x.v]++x.sum++d7 [x.f]:=by simp [aE.kd,dJ]
 rw [e];exact n
structure aC where
 k:Int
 f:Int
 to:Int
 s:Int
 v:Int
 A:Option Addr
 x:List UInt8
 c:Nat
 B:Option Addr
 l:List aE
 d:Nat
 tag:List UInt8
def aC.cs(m:aC):List Value:=ae m.k::ae m.f::ae m.to::ae m.s::ae m.v:: .slice m.A m.x.length m.c:: .slice m.B m.l.length m.d::au m.tag
structure aC.ok(m:aC)(w:World):Prop where
 x:Rd w m.A (au m.x)
 l:Rd w m.B (m.l.flatMap aE.cs)
 aH:∀x∈m.l,x.ok
 tag:m.tag.length=32
def aC.body(m:aC):List UInt8:=d7 [4,m.k,m.f,m.s,m.v]++(hC m.x++ju m.l)
theorem aC.gJ(m:aC):m.cs.toArray[0]? =some (ae m.k):=by simp [aC.cs]
theorem aC.aV(m:aC):m.cs.toArray[1]? =some (ae m.f):=by simp [aC.cs]
theorem aC.dp(m:aC):m.cs.toArray[2]? =some (ae m.to):=by simp [aC.cs]
theorem aC.gK(m:aC):m.cs.toArray[3]? =some (ae m.s):=by simp [aC.cs]
theorem aC.fG(m:aC):m.cs.toArray[4]? =some (ae m.v):=by simp [aC.cs]
theorem aC.gk(m:aC):m.cs.toArray[5]? =some (.slice m.A m.x.length m.c):=by simp [aC.cs]
theorem aC.eU(m:aC):m.cs.toArray[6]? =some (.slice m.B m.l.length m.d):=by simp [aC.cs]
theorem aC.len(m:aC){w:World}(h:m.ok w):m.cs.length=39:=by simp [aC.cs,h.tag]
theorem aC.one(m:aC):m.cs.all (·.oneCell')=true:=by
 simp only [aC.cs,List.all_cons,ea,jX];exact⟨j,j,j,j,j,j,j,λv a=>eg _ v a⟩
theorem aC.ok.st{m:aC}{o w:World}{ad:List (List Chunk)}(h:m.ok o)(a:C o [] ad w):m.ok w:=⟨a.rd h.x (bT.of_nil _ _),a.rd h.l (bT.of_nil _ _),h.aH,h.tag⟩
theorem lz(l:List aE)(h:∀x∈l,x.ok):(ju l).length<=9+200*l.length:=by
 have a:=fU [(l.length:Int)];have b:=yT l h l.length;rw [gj] at b;simp only [eu,ge] at a;simp only [ju,b0];omega
theorem mj{o:World}{m:aC}(hm:m.ok o)(L:m.x.length<=10000)(E:m.l.length<=1000):Calls prog 98 #[.agg m.cs.toArray] o λr w=>∃G,du r m.body G/\C o [] [G] w:=by
 have a:Own [] o:=C.start o;refine a2 func98 ?_;refine bL 2 a j j (λaz w a=>?_);refine b7 3 a j (λn w a=>?_);have a:C o [] (e2 n (.slice none 0 0)::_) w:=a;refine ar 3 j (a.f1.cell m.gJ) ?_;refine ar 1 j (a.f1.cell m.aV) ?_;refine ar 1 j (a.f1.cell m.gK) ?_;refine ar 1 j (a.f1.cell m.fG) ?_;refine eC a j j j j j j bG (λI w a=>?_);have aJ:=a.bz;have t:=a.iX (off:=0) (sp:=none) (U:=[4,m.k,m.f,m.s,m.v].map ae);have a:=a.f1.empty.f1;have h:=lp (aD:=[]) (cS:=[4,m.k,m.f,m.s,m.v]) (c:=5) a.cF (Row.nil _ _) aJ (t.kX (by simp) (λb B=>fI (fz:=[e2 n (.slice none 0 0)]) (by simp) b (by simpa [av] using B))) (by simp);refine bp 0 h j (λw⟨v1,i,g,aa⟩=>?_);have a:=a.cD aa;rw [kI] at g;have F:=fU [4,m.k,m.f,m.s,m.v];simp only [eu,ge] at F;refine ar 3 j (a.f3.cell m.gk) ?_;refine eC a j j j j j j bG (λp w a=>?_);have H:=a.bz;have u:=a.iX (off:=0) (sp:=none) (U:=[.slice m.A m.x.length m.c]);have a:=a.f1.f2.f1;have z:=a.apart hm.x (bT.of_nil _ _);have D:k4 w (some ⟨p,0,none⟩) [m.x] (av [e2 n v1,i]):=k4.one H j (u.sub (fI (by simp))) (a.rd hm.x (bT.of_nil _ _)) (z.sub (fI (by simp)));have h:=uz (c:=1) a.cF g D (by simp only [ja,jW,rJ,List.sum_cons,List.sum_nil];omega);refine bp 0 h j (λw⟨v1,i,g,aa⟩=>?_);have a:=a.cD aa;rw [show jJ [m.x]=hC m.x from by simp [jJ]] at g;have J:=jI m.x (by omega);refine ar 3 j (a.f4.cell m.eU) ?_;have y:=a.apart hm.l (bT.of_nil _ _);have h:=Ap (d:=m.d) a.cF g (a.rd hm.l (bT.of_nil _ _)) (y.sub (fI (by simp))) hm.aH E (by simp only [b0];omega);refine bp 0 h j (λw⟨v1,i,g,aa⟩=>?_);have a:=a.cD aa;have K:=lz m.l hm.aH;have h:=qT a.cF g (by simp only [b0];omega);refine bk 2 h j (λr w⟨G,q,aa⟩=>?_);have a:=(a.cD aa).hR;refine aq 1 j j ?_;refine⟨G,?_,a⟩;have e:m.body=d7 [4,m.k,m.f,m.s,m.v]++hC m.x++ju m.l:=by simp [aC.body,dJ]
 rw [e];exact q
abbrev tn(b:Nat)(x:aE):List Chunk:=R b x.cs.toArray 55
theorem DY(n:Int):d7 [n]=enc (fH n):=by simp [d7]
theorem IG{o w:World}{b:Nat}{x:aE}(h:∃ad,C o [] ([tn b x]++ad) w):w.cell? ⟨b,0,none⟩=some (ae x.k):=by obtain⟨_,h⟩:=h;exact C.cell h x.gJ
theorem IH{o w:World}{b:Nat}{x:aE}(h:∃ad,C o [] ([tn b x]++ad) w):w.cell? ⟨b,1,none⟩=some (ae x.s):=by obtain⟨_,h⟩:=h;exact C.cell h x.aV
theorem II{o w:World}{b:Nat}{x:aE}(h:∃ad,C o [] ([tn b x]++ad) w):w.cell? ⟨b,2,none⟩=some (ae x.v):=by obtain⟨_,h⟩:=h;exact C.cell h x.dp
theorem Hj{o:World}{x:aE}(d:x.ok):Calls prog 32 #[.agg x.cs.toArray] o λr w=>∃G,du r x.kd G/\C o [] [G] w:=by
 have a:Own [] o:=C.start o;have aM:=d.1;have n:=fU [5,x.k,x.s,x.v];have B:=ml _ (ng x.f);simp only [eu,ge] at n;refine a2 func32 (bL 2 a j j (λaz w a=>?_));have a:=a.drew;refine bt 2 j (λw=>∃ad,C o [] ([tn az x]++ad) w) ⟨_,a⟩ (af 0 1 j (bR 1 j (λw h=>IG h) (af 2 1 j (bR 3 j (λw h=>IH h) (af 4 1 j (bR 5 j (λw h=>II h) (af 8 1 j (aT 9 j (λw _=>wy j) (aR 6 j (eC a j j j j j j bG (λz w a=>?_)))))))))));have a:=a.f1;refine an ⟨⟨_,a⟩,?_⟩;refine aR 7 j ?_;have aJ:=a.f1.bz;have g:=Hh (cS:=[5,x.k,x.s,x.v]) (c:=4) aJ (by simp);refine cO j j j g (λr w⟨G,l,aa⟩=>?_);have a:=a.aL aa;obtain⟨u,gL,rfl,_⟩:=l.form;have b:=l;have a:=a.f1;refine an ⟨⟨_,a⟩,?_⟩;refine aR 10 j ?_;have t:=a.ij (off:=0+3) (U:=au x.sum) (x.nY d);have a:=a.f1;refine dR a b j j (by decide) j j j (news:=au (x.sum)) (by simp [d.1]) t (eg _) (by(try simp only [List.length_append]);omega) (by(try simp only [List.length_append]);unfold maxLen;omega) (λv1 i w b a=>?_);have b:=oX b d.1.symm;have a:=a.f1;refine an ⟨⟨_,a⟩,?_⟩;refine af 11 1 j (bK (ar 4 j (a.cell (x.eo d)) ?_));have g:=Ag (o:=w) (x:=x.f);refine bk 0 g j (λr w⟨aA,m,aa⟩=>?_);have a:=a.aL aa;obtain⟨y,A,rfl,_⟩:=m.form;obtain⟨_,_,q,_,_,p,_⟩:=m.rd a;cases q;have a:=a.f2;refine dR a b j j (by decide) j j j (news:=au (enc (fH x.f))) (by simp) p (eg _) (by(try simp only [List.length_append]);omega) (by(try simp only [List.length_append]);unfold maxLen;omega) (λv1 i w b a=>?_);have b:=oX b j;refine aq 1 j j (⟨i,?_,a.hR⟩);have e:x.kd=d7 [5,x.k,x.s,x.v]++x.sum++enc (fH x.f):=by simp [aE.kd,DY,dJ]
 rw [e];exact b
abbrev ia(b:Nat)(g:List UInt8):List Chunk:=R b (au g).toArray 37
theorem Aa{o w:World}{F:List Nat}{ad:List (List Chunk)}{b:Nat}{U:List Value}{e:TypeId}(h:C o F ([(b,.cells U.toArray e (0,0))]::ad) w):Rd w (some ⟨b,0,none⟩) U:=h.bz
def i9(x:aE):Bool:=fJ x.k 1 3&&fJ x.s 0 63&&fJ x.v 0 8&&fJ x.f 0 9
def i6(m:aC):Bool:=fJ m.k 1 6&&fJ m.f 0 9&&fJ m.to 0 9&&fJ m.s 0 63&&fJ m.v 0 8&&decide (m.x.length<=200)&&decide (m.l.length<=10)&&m.l.all i9
theorem Co(l:List aE)(i:Nat)(a:i<l.length):(l.take (i+1)).all i9=((l.take i).all i9&&i9 l[i]):=by
 rw [fr a,List.all_append];simp
theorem Cp(l:List aE)(i:Nat)(b:i<l.length)(h:i9 l[i]=false):l.all i9=false:=by
 rw [<-Bool.not_eq_true,jX];intro a;rw [a _ (d9 b)] at h;cases h
theorem EY{o:World}{x:aE}(h:x.ok):Calls prog 258 #[.agg x.cs.toArray] o λr w=>r= .bool (i9 x)/\C o [] [] w:=by
 have c:Own [] o:=C.start o;refine a2 func258 (bL 2 c j j (λaz w c=>ar 4 j (c.cell x.gJ) ?_));have d:=i1 (o:=w) (n:=x.k) (a:=1) (b:=3);refine bp 0 d j (λw aa=>?_);have c:=c.aL aa;refine am 1 j (cT 6 j (λeU=>?_) (λeU=>?_))
 .refine ar 1 j (c.cell x.aV) ?_;have d:=i1 (o:=w) (n:=x.s) (a:=0) (b:=63);refine bp 0 d j (λw aa=>?_);have c:=c.aL aa;refine am 2 j (cT 11 j (λe=>?_) (λe=>?_));refine ar 1 j (c.cell x.dp) ?_;have d:=i1 (o:=w) (n:=x.v) (a:=0) (b:=8);refine bp 0 d j (λw aa=>?_);have c:=c.aL aa;refine am 2 j (cT 16 j (λg=>?_) (λg=>?_))
  .refine ar 1 j (c.cell (x.eo h)) ?_;have d:=i1 (o:=w) (n:=x.f) (a:=0) (b:=9);refine bp 0 d j (λw aa=>?_);have c:=c.aL aa;refine aq 2 j j (⟨aG Value.bool ?_,c.bare⟩);unfold i9
   simp_all
  rotate_left
  refine am 5 j (bS 16 (.bool false) j (aG Value.bool (j)) ?_);rotate_left
  all_goals
   refine aq 5 j j (⟨aG Value.bool ?_,c.bare⟩);unfold i9
   simp_all
 refine am 5 j (bS 11 (.bool false) j (aG Value.bool (j)) ?_);refine am 5 j (bS 16 (.bool false) j (aG Value.bool (j)) ?_);refine aq 5 j j (⟨aG Value.bool ?_,c.bare⟩);unfold i9
 simp_all
theorem CN{o:World}{x:aE}(b:x.ok):Calls prog 257 #[.agg x.cs.toArray] o λr w=>r= .bool (!i9 x)/\C o [] [] w:=by
 have a:Own [] o:=C.start o;refine a2 func257 ?_;refine bL 2 a j j (λaz w a=>?_);refine bM 3 (U:=x.cs) j j (x.len b) (Aa a) ?_;have c:=EY (o:=w) b;refine bp 0 c j (λw aa=>?_);have a:=a.aL aa;refine aq 2 j j ?_;exact⟨j,a.bare⟩
theorem EK{o:World}{B:Option Addr}{l:List aE}{d:Nat}(t:Rd o B (l.flatMap aE.cs))(g:∀x∈l,x.ok)(E:l.length<=1000000):
 Calls prog 289 #[.slice B l.length d,.func (.func 257) #[] #[]] o λr w=>(∃z:Int,r= .int .i64 z/\decide (z>=0)= !l.all i9)/\C o [] [] w:=by
 have a:Own [] o:=C.start o;refine a2 func289 ?_
 refine cJ 10 j (ct:=Nat) (λi=>[(0,.slice B l.length d),(1,.func (.func 257) #[] #[]),(7,.int .i64 (l.length:Nat)),(8,.int .i64 (i:Nat))])
  (λi w=>i<=l.length/\(l.take i).all i9=true/\C o [] [] w) (λi=>l.length-i) 0 ⟨j,j,j,j,aX⟩ ⟨b4 _,j,a⟩ ?_
 rintro i w ⟨D,f,a⟩;refine b8 4 j j (λn=>?_) (λn=>?_)
 .skip
  have b:i<l.length:=by omega
  have m:=g l[i] (d9 b);have h:=a.rd t (bT.of_nil _ _);refine am 12 j (fp j j j j h (v:=ae l[i].k) (ol l g i b) b (λy p A=>?_));subst p;refine bM 0 j j (l[i].len m) (om h g i b) ?_;have q:=CN (o:=w) m;refine hL j j j j q (λr w⟨u,aa⟩=>?_);subst u;have a:=a.aL aa;refine bm 0 j j (λc=>?_) (λc=>?_)
  .skip
   refine aq 4 j j ?_;have e:i9 l[i]=false:=by simpa using c
   refine⟨⟨_,j,?_⟩,a⟩;rw [Cp l i b e];simp
  .skip
   refine bq 2 j j j (cE i (by omega)) (bI 1 j (⟨i+1,⟨j,j,j,j,aX⟩,⟨b,?_,a⟩,by omega⟩));have e:i9 l[i]=true:=by simpa using c
   rw [Co l i b,f,e];rfl
 .skip
  refine aq 4 j j ?_;have s:i=l.length:=by omega
  rw [s,gj] at f;refine⟨⟨_,j,?_⟩,a⟩;rw [f];rfl
theorem DC{o:World}{B:Option Addr}{l:List aE}{d:Nat}(e:Rd o B (l.flatMap aE.cs))(f:∀x∈l,x.ok)(c:l.length<=1000000):
 Calls prog 256 #[.slice B l.length d,.func (.func 257) #[] #[]] o λr w=>r= .bool (!l.all i9)/\C o [] [] w:=by
 have a:Own [] o:=C.start o;refine a2 func256 ?_;have b:=EK (d:=d) e f c;refine bk 7 b j (λr w⟨⟨z,g,h⟩,aa⟩=>?_);subst g;have a:=a.aL aa;exact aq 2 j j ⟨aG Value.bool h,a⟩
theorem ET{o:World}{m:aC}(hm:m.ok o):Calls prog 207 #[.agg m.cs.toArray] o λr w=>r= .bool (i6 m)/\C o [] [] w:=by
 have c:Own [] o:=C.start o;refine a2 func207 (bL 2 c j j (λaz w c=>ar 4 j (c.cell m.gJ) ?_));have e:=i1 (o:=w) (n:=m.k) (a:=1) (b:=6);refine bp 0 e j (λw aa=>?_);have c:=c.aL aa;refine am 1 j (cT 6 j (λeU=>?_) (λeU=>?_))
 .refine ar 1 j (c.cell m.aV) ?_;have e:=i1 (o:=w) (n:=m.f) (a:=0) (b:=9);refine bp 0 e j (λw aa=>?_);have c:=c.aL aa;refine am 2 j (cT 11 j (λh=>?_) (λh=>?_));refine ar 1 j (c.cell m.dp) ?_;have e:=i1 (o:=w) (n:=m.to) (a:=0) (b:=9);refine bp 0 e j (λw aa=>?_);have c:=c.aL aa;refine am 2 j (cT 16 j (λi=>?_) (λi=>?_))
  .refine ar 1 j (c.cell m.gK) ?_;have e:=i1 (o:=w) (n:=m.s) (a:=0) (b:=63);refine bp 0 e j (λw aa=>?_);have c:=c.aL aa;refine am 2 j (cT 21 j (λp=>?_) (λp=>?_));refine ar 1 j (c.cell m.fG) ?_;have e:=i1 (o:=w) (n:=m.v) (a:=0) (b:=8);refine bp 0 e j (λw aa=>?_);have c:=c.aL aa;refine am 2 j (cT 26 j (λq=>?_) (λq=>?_))
   .refine ar 1 j (c.cell m.gk) (am 4 j (cT 32 j (λt=>?_) (λt=>?_)));refine ar 1 j (c.cell m.eU) (am 4 j (cT 38 j (λg=>?_) (λg=>?_)))
    .refine ar 1 j (c.cell m.eU) ?_;have u:=dz g;have e:=DC (d:=m.d) (hm.st c).l hm.aH (by omega);refine bp 0 e j (λw aa=>?_);have c:=c.aL aa;refine aq 3 j j (⟨aG Value.bool ?_,c.bare⟩);unfold i6
     simp_all<;>omega
    rotate_left
    refine am 6 j (bS 38 (.bool false) j (aG Value.bool (j)) ?_);rotate_left
    all_goals
     refine aq 6 j j (⟨aG Value.bool ?_,c.bare⟩);unfold i6
     simp_all<;>omega
   rotate_left
   refine am 5 j (bS 26 (.bool false) j (aG Value.bool (j)) ?_);rotate_left
   all_goals
    refine am 6 j (bS 32 (.bool false) j (aG Value.bool (j)) ?_);refine am 6 j (bS 38 (.bool false) j (aG Value.bool (j)) ?_);refine aq 6 j j (⟨aG Value.bool ?_,c.bare⟩);unfold i6
    simp_all<;>omega
  rotate_left
  refine am 5 j (bS 16 (.bool false) j (aG Value.bool (j)) ?_);rotate_left
  all_goals
   refine am 5 j (bS 21 (.bool false) j (aG Value.bool (j)) ?_);refine am 5 j (bS 26 (.bool false) j (aG Value.bool (j)) ?_);refine am 6 j (bS 32 (.bool false) j (aG Value.bool (j)) ?_);refine am 6 j (bS 38 (.bool false) j (aG Value.bool (j)) ?_);refine aq 6 j j (⟨aG Value.bool ?_,c.bare⟩);unfold i6
   simp_all<;>omega
 refine am 5 j (bS 11 (.bool false) j (aG Value.bool (j)) ?_);refine am 5 j (bS 16 (.bool false) j (aG Value.bool (j)) ?_);refine am 5 j (bS 21 (.bool false) j (aG Value.bool (j)) ?_);refine am 5 j (bS 26 (.bool false) j (aG Value.bool (j)) ?_);refine am 6 j (bS 32 (.bool false) j (aG Value.bool (j)) ?_);refine am 6 j (bS 38 (.bool false) j (aG Value.bool (j)) ?_);refine aq 6 j j (⟨aG Value.bool ?_,c.bare⟩);unfold i6
 simp_all<;>omega
theorem o4(g a:List UInt8)(e:g.length=32)(f:a.length=32)(d:Nat)(w:World):(Op.equalIn (d+2) 37 (.agg (au g).toArray) (.agg (au a).toArray)).run prog w= .ok (g==a) w:=
 run_equalIn_bytes w d 37 5 32 underlying37 underlying5 (λw=>by
  obtain⟨i,b,_,c,_⟩:=cm.parts (inferInstance:cm prog 5 (.int .u8 0) 1 1);simp [sizeOf,typeInfo,b,c]) g a e f
structure al where
 aw:Nat
 fc:Nat
 cap:Nat
 cur:Array Value
 keys:List (List UInt8)
structure al.at(g:al)(w:World):Prop where
 ring:w.heap[g.aw]? =some (.cells #[.slice (some ⟨g.fc,0,none⟩) g.keys.length g.cap] 159 (0,0))
 keys:w.heap[g.fc]? =some (.cells g.cur 37 (0,0))
structure al.ok(g:al):Prop where
 len:∀k∈g.keys,k.length=32
 ic:1<=g.keys.length
 n10:g.keys.length<=10
 rd:∀(i:Nat)(h:i<g.keys.length)(J:Nat)(v:Value),(au g.keys[i])[J]? =some v->g.cur[32*i+J]? =some v
structure al.off(g:al)(F:List Nat):Prop where
 r:g.aw∉F
 k:g.fc∉F
abbrev al.p(g:al):Value:=.pointer (some ⟨g.aw,0,none⟩)
theorem al.at.st{g:al}{o w:World}{F:List Nat}{ad:List (List Chunk)}(h:g.at o)(a:C o F ad w)(b:g.off F):g.at w:=
 ⟨by rw [a.fW _ (gv.1 h.ring).1 b.r];exact h.ring,by rw [a.fW _ (gv.1 h.keys).1 b.k];exact h.keys⟩
theorem al.off.nil(g:al):g.off []:=⟨by simp,by simp⟩
theorem al.at.apart{g:al}{o w:World}{F:List Nat}{ad:List (List Chunk)}(h:g.at o)(b:C o F ad w)(c:g.off F):g.off (av ad):=
 ⟨λa=>(b.own _ a).elim c.r (λd=>by have:=(gv.1 h.ring).1;omega),λa=>(b.own _ a).elim c.k (λd=>by have:=(gv.1 h.keys).1;omega)⟩
theorem al.off.sub{g:al}{F eL:List Nat}(h:g.off F)(aM:∀b∈eL,b∈F):g.off eL:=⟨λa=>h.r (aM _ a),λa=>h.k (aM _ a)⟩
def cA:List UInt8:=List.replicate 32 0
def al.mo(g:al)(i:Int):Prop:=0<=i/\i<g.keys.length
instance (g:al)(i:Int):Decidable (g.mo i):=inferInstanceAs (Decidable (_/\_))
def al.cu(g:al)(i:Int)(b:List UInt8):List UInt8:=if g.mo i then kR (g.keys.getD i.toNat []) b else cA
theorem al.ec(g:al)(i:Int)(b:List UInt8):(g.cu i b).length=32:=by unfold al.cu;split;exact mw _ _;rfl
def al.check(g:al)(i:Int)(b tag:List UInt8):Bool:=decide (g.mo i)&&(g.cu i b==tag)
theorem mA{o:World}{g:al}(a:g.at o):Calls prog 156 #[g.p] o λr w=>r= .int .i64 g.keys.length/\w=o:=by
 refine a2 func156 ?_;refine ar 15 j (pb a.ring j) ?_;refine aq 2 j j ?_;exact⟨j,j⟩
theorem nB{o:World}{g:al}(l:g.at o)(s:g.ok){i:Int}{B:Option Addr}{p:List UInt8}{d:Nat}(z:Rd o B (au p))(y:p.length<=1000000):Calls prog 97 #[g.p,ae i,.slice B p.length d] o λr w=>r= .agg (au (g.cu i p)).toArray/\C o [] [] w:=by
 have a:Own [] o:=C.start o;refine eV func97 (b7 2 a j (λt w a=>?_));have a:C o [] [R t (Array.replicate 32 (bv 0)) 37] w:=a;refine am 6 j (cT 9 j (λk=>?_) (λk=>?_))
 .have n:¬g.mo i:=λh=>by have:=dz k;have:=h.1;omega
  refine am 8 j (cN (c:=(au cA).toArray) j j j (λ_=>by kernel_rfl) ?_);refine c2 a j j j (by decide) (by decide) (by decide) (λw a=>?_);have a:=C.whole (U:=au cA) a j;refine bD 0 j ⟨_,gr (U:=au cA) results97 j j j a.bz,?_⟩;refine⟨?_,a.bare⟩;unfold al.cu;rw [aI n]
 have e:=mA (l.st a (al.off.nil g));refine bp 2 e j (λw hw=>?_);subst hw;refine b8 2 j j (λf=>?_) (λf=>?_)
 .have n:¬g.mo i:=λh=>by have:=f;have:=h.2;omega
  refine am 2 j (cN (c:=(au cA).toArray) j j j (λ_=>by kernel_rfl) ?_);refine c2 a j j j (by decide) (by decide) (by decide) (λw a=>?_);have a:=C.whole (U:=au cA) a j;refine bD 0 j ⟨_,gr (U:=au cA) results97 j j j a.bz,?_⟩;refine⟨?_,a.bare⟩;unfold al.cu;rw [aI n]
 have b:0<=i/\i<g.keys.length:=by have:=dM k;have:=f;omega
 refine ar 6 j (pb (l.st a (al.off.nil g)).ring j) (am 1 j (ow j j j j b.1 b.2 ?_));refine k3 j j j ?_;have m:i.toNat<g.keys.length:=by have:=b.1;have:=b.2;omega
 have x:g.keys[i.toNat].length=32:=s.len _ (d9 m)
 have A:Rd w (some ((⟨g.fc,0,none⟩:Addr).add (i.toNat*32))) (au g.keys[i.toNat]):=λJ v D=>⟨_,j,by
  rw [add_lit,add_lit];exact pb (l.st a (al.off.nil g)).keys (by rw [fj,Nat.mul_comm];exact s.rd _ m J v D)⟩
 have e:=FH (key:=g.keys[i.toNat]) (c:=32) A (by omega) (a.rd z (bT.of_nil _ _)) y (d:=d);rw [x] at e;refine bk 1 e j (λr w⟨q,u⟩=>?_);have q:r= .agg (au (g.cu i p)).toArray:=by rw [q];unfold al.cu;rw [if_pos (show g.mo i from b)];simp [List.getD,m]
 subst q;have a:=a.aL u;refine c2 a j j j (by simpa using eg (g.cu i p)) (by rw [List.size_toArray,cL,al.ec]) (by decide) (λw a=>?_);have a:=C.whole (U:=au (g.cu i p)) a (by rw [cL,al.ec];rfl);refine bD 0 j ⟨_,gr (U:=au (g.cu i p)) results97 j j (by rw [cL,al.ec]) a.bz,?_⟩;exact⟨j,a.bare⟩
theorem r5{o:World}{g:al}(f:g.at o)(q:g.ok){i:Int}{B:Option Addr}{p tag:List UInt8}{d:Nat}(t:Rd o B (au p))(s:p.length<=1000000)(k:tag.length=32):Calls prog 191 #[g.p,ae i,.slice B p.length d,.agg (au tag).toArray] o λr w=>r= .bool (g.check i p tag)/\C o [] [] w:=by
 have a:Own [] o:=C.start o;refine a2 func191 (bL 2 a j j (λl w a=>?_));have a:=a.drew;refine bt 2 j (λw=>∃ad,C o [] (R l (au tag).toArray 37::ad) w) ⟨_,a⟩ (af 0 3 j (ef 11 j (λc=>?_) (λc=>?_)))
 .refine af 3 2 j (aR 5 j (bB j j j (mA (f.st a (al.off.nil g))) (λw hw=>?_)));subst hw;refine an ⟨⟨_,a⟩,?_⟩;refine af 6 3 j (ef 17 j (λe=>?_) (λe=>?_))
  .refine af 9 3 j (aT 13 j (λw⟨_,a⟩=>c4 (U:=au tag) j j (by rw [cL,k]) a.bz) (aR 12 j (bB j j j (nB (f.st a (al.off.nil g)) q (a.rd t (bT.of_nil _ _)) s) (λw n=>?_))));have a:=(a.aL n);refine an ⟨⟨_,a⟩,?_⟩;refine aT 14 j (λw _=>pG j j (by kernel_rfl) (λw=>o4 _ _ (al.ec g i p) k 9998 w)) (af 15 2 j (bK (aq 0 j j (⟨aG Value.bool ?_,a.bare⟩))));have m:=dz c;have b:=dz e;unfold al.check;rw [je (show g.mo i from⟨m,b⟩),rK]
  refine fC 8 [9,10,11,13,12,14,15,16] j (bK (aq 0 j j (⟨aG Value.bool ?_,a.bare⟩)));have b:=dM e;unfold al.check;rw [e4 (show¬g.mo i from λh=>b h.2),m0]
 refine fC 14 [3,4,5,6,7,8,9,10,11,13,12,14,15,16] j (bK (aq 0 j j (⟨aG Value.bool ?_,a.bare⟩)));have b:=dM c;unfold al.check;rw [e4 (show¬g.mo i from λh=>b h.1),m0]
def of(n:Nat)(dE:List UInt8):List (List UInt8):=(List.range (min (max n 1) 10)).map λi=>br (dE++[UInt8.ofNat i])
abbrev kN(l:List (List UInt8)):List Value:=l.flatMap au
abbrev dD(g:al):List Chunk:=[(g.aw,.cells #[.slice (some ⟨g.fc,0,none⟩) g.keys.length g.cap] 159 (0,0)),(g.fc,.cells g.cur 37 (0,0))]
theorem yR:forall (l:List (List UInt8)) (a:∀k∈l,k.length=32) (i:Nat) (h:i<l.length) (J:Nat) (v:Value),(au l[i])[J]? =some v->(kN l)[32*i+J]? =some v
 |k::r,a,0,_,J,v,b=>by
  have c:J<(au k).length:=(fk.1 b).1;show(au k++kN r)[32*0+J]? =_;rw [Nat.mul_zero,fj,iU c];exact b
 |k::r,a,i+1,h,J,v,b=>by
  have aa:(au k).length=32:=by rw [cL];exact a k (by simp)
  show(au k++kN r)[32*(i+1)+J]? =_;rw [jf (by omega),aa,show 32*(i+1)+J-32=32*i+J by omega];exact yR r (λx d=>a x (by simp [d])) i (by simpa using h) J v b
theorem Hk(n:Nat)(dE:List UInt8):(of n dE).length=min (max n 1) 10:=by simp [of]
def jr(dE:List UInt8)(i:Nat):List (List UInt8):=(List.range i).map λi=>br (dE++[UInt8.ofNat i])
theorem s4(dE:List UInt8)(i:Nat):(jr dE i).length=i:=by simp [jr]
theorem Al(dE:List UInt8)(i:Nat):∀k∈jr dE i,k.length=32:=by
 intro k aa;obtain⟨i,_,rfl⟩:=dV.1 aa;exact eK _
theorem Am(dE:List UInt8)(i:Nat):jr dE (i+1)=jr dE i++[br (dE++[UInt8.ofNat i])]:=by simp [jr,nO]
theorem zf(n:Nat):min (max (n:Int) 1) 10=((min (max n 1) 10:Nat):Int):=by omega
theorem xK(x:Nat):IntKind.u8.wrap (x:Int)=((UInt8.ofNat x).toNat:Int):=by
 rw [mi,oR];omega
theorem vE{o:World}{n:Nat}{dE:List UInt8}(aJ:n<=1000)(aM:dE.length=32):Calls prog 34 #[.int .i64 n,.agg (au dE).toArray] o λr w=>∃g:al,r=g.p/\g.ok/\g.keys=of n dE/\C o [] [dD g] w:=by
 have a:Own [] o:=C.start o;refine a2 func34 (bL 2 a j j (λb w a=>?_));have a:C o [] [R b (au dE).toArray 37] w:=a;refine am 3 j (cN (c:= #[.slice none 0 0]) j j j (λ_=>by kernel_rfl) ?_);refine bL 0 a j j (λd w a=>?_);have a:C o [] [R d #[.slice none 0 0] 159,R b (au dE).toArray 37] w:=a;skip
 refine am 5 j (pR j j j ?_);refine pS j j j (bS 11 (.int .i64 (min (max n 1) 10:Nat)) j (aG (Value.int .i64) (zf n)) ?_)
 refine cJ 2 j (ct:=Nat×Value×List Chunk) (λi=>[(3,ab b),(5,ab d),(11,.int .i64 (min (max n 1) 10:Nat)),(12,.int .i64 (i.1:Nat))])
  (λi w=>i.1<=min (max n 1) 10/\Row 37 32 i.2.1 i.1 (kN (jr dE i.1)) i.2.2/\C o [] [R d #[i.2.1] 159,R b (au dE).toArray 37,i.2.2] w) (λi=>10-i.1) (0,.slice none 0 0,[]) ⟨j,j,j,j,aX⟩ ⟨b4 _,Row.nil 37 32,a.empty.f2.f2⟩ ?_
 rintro⟨i,v,ag⟩ w ⟨F,l,a⟩;dsimp only at F l a⊢;refine b8 4 j j (λx=>?_) (λx=>?_)
 .have I:i<min (max n 1) 10:=by omega
  have a:=a.drew;refine bt 7 j (λw=>∃ad,C o [] ([R d #[v] 159,R b (au dE).toArray 37]++ad) w) ⟨_,a⟩ (af 0 4 j (bR 4 j (λw⟨_,a⟩=>a.cell j) (aT 5 j (λw _=>wy j) (af 6 1 j (aT 7 j (λw _=>kg j (xK i)) (aR 8 j (eC a j j j j j j bG (λV w a=>?_))))))));have K:=a.bz;have a:=a.f1.f2.f1;refine an ⟨⟨_,a⟩,?_⟩;refine aR 9 j ?_;have O:Rd w (some ⟨b,0,none⟩) (au dE):=a.f1.bz;refine BO (size:=1) (k:=32) (m:=1) (xs:=au dE) (news:=au [UInt8.ofNat i]) a j j (by decide) j j j (by rw [cL,aM]) O (by decide) (by decide) j K (by decide) (by decide) (λS t w h a=>?_)
  have h:du S (dE++[UInt8.ofNat i]) t:=by
   have e:32+1=(dE++[UInt8.ofNat i]).length:=by rw [b0,aM];rfl
   rw [e,<-uw] at h;exact h
  obtain⟨T,X,rfl,D,_,N,_⟩:=h.rd a;have Z:(dE++[UInt8.ofNat i]).length=33:=by rw [b0,aM];rfl
  have a:=a.f1.f2.f1;refine an ⟨⟨_,a⟩,?_⟩;refine aR 10 j ?_;have E:=pw N (by omega) D;refine bB j j j E (λw H=>?_);have a:=a.aL H;refine an ⟨⟨_,a⟩,?_⟩;refine aR 11 j (gi (U:=au (br (dE++[UInt8.ofNat i]))) a j j j (by rw [cL,eK]) (by decide) (by decide) (λW w a=>?_));have L:=a.bz;have a:=a.f1.f2.f1;refine an ⟨⟨_,a⟩,?_⟩;refine aR 12 j (dR a.f5 l j j (by decide) j j j (news:=au (br (dE++[UInt8.ofNat i]))) (m:=1) (by rw [cL,eK]) L (eg _) (by omega) (by unfold maxLen;omega) (λv1 u w s a=>?_));have a:=a.f1.f2.f1;refine an ⟨⟨_,a⟩,?_⟩;refine af 13 2 j (dA 15 j (cB a j j j s.one (by simp) (λw a=>?_)));have a:C o [] (R d #[v1] 159::_) w:=a;refine an (cU (bq 1 j j j (cE i (by omega)) (bI 1 j (⟨(i+1,v1,u),⟨j,j,j,j,aX⟩,⟨I,?_,C.sj (A:=[_,_,_]) a⟩,by dsimp only;omega⟩))));dsimp only;have e:kN (jr dE (i+1))=kN (jr dE i)++au (br (dE++[UInt8.ofNat i])):=by rw [Am];simp [kN]
  rw [e];exact s
 refine aq 5 j j ?_;have G:i=min (max n 1) 10:=by omega
 obtain⟨_,z⟩:=l;rcases z with⟨_,Y,_⟩|⟨y,cap,cur,rfl,rfl,_,_,_,P⟩
 .omega
 refine⟨⟨d,y,cap,cur,jr dE i⟩,j,⟨Al dE i,by rw [s4];omega,by rw [s4];omega,λq M J v Q=>?_⟩,by subst G;rfl,?_⟩
 .have f:=yR (jr dE i) (Al dE i) q M J v Q;rw [<-P,jE] at f;split at f
  .simpa using f
  cases f
 have B:=C.join (a.f1.drop);have e:(jr dE i).length=i:=s4 dE i;dsimp only [dD];rw [e];exact B
theorem IU{p q:List UInt8}(h:∀J,J<64->p.getD J 0=q.getD J 0){i:Nat}(a:i<16):word p i=word q i:=by
 unfold word;rw [h (4*i) (by omega),h (4*i+1) (by omega),h (4*i+2) (by omega),h (4*i+3) (by omega)]
theorem Av{p q:List UInt8}(h:∀J,J<64->p.getD J 0=q.getD J 0):∀n,dY p n=dY q n
 |0=>ue λi a=>IU h (nT.1 a)
 |n+1=>aG nA (Av h n)
theorem AQ{p q:List UInt8}(h:∀J,J<64->p.getD J 0=q.getD J 0)(s:eT):jt p s=jt q s:=by
 have key:∀n,rounds p s n=rounds q s n:=λn=>by
  induction n with
  |zero=>rfl
  |succ n a=>unfold rounds;rw [Av h,a]
 unfold jt;rw [key]
theorem qD(p:List UInt8)(k J:Nat):(p.drop k).getD J 0=p.getD (k+J) 0:=by rw [iD,lL,iD]
theorem getD_take(p:List UInt8){k J:Nat}(h:J<k):(p.take k).getD J 0=p.getD J 0:=by rw [iD,jE,a6 h,iD]
theorem sl(p q:List UInt8){J:Nat}(h:J<p.length):(p++q).getD J 0=p.getD J 0:=by rw [iD,iU h,iD]
theorem u3(p q:List UInt8){J:Nat}(h:p.length<=J):(p++q).getD J 0=q.getD (J-p.length) 0:=by rw [iD,jf h,iD]
def jq(n:Nat):Nat:=if n%64<56 then 55-n%64 else 119-n%64
def l0(n:Nat)(J:Nat):UInt8:=UInt8.ofNat ((8*n)>>>(8*(7-J)))
def eA(p:List UInt8):List UInt8:=(p++[128])++(List.replicate (jq p.length) 0++(List.range 8).map (l0 p.length))
theorem zN(p:List UInt8):p.length+1+jq p.length+8=64*(p.length/64)+el p:=by
 unfold jq;rcases il p with h|h
 .rw [aI (by omega)];omega
 .rw [a6 h.2];omega
theorem Ac(p:List UInt8):(eA p).length=64*(p.length/64)+el p:=by
 rw [<-zN];simp [eA];omega
theorem Ad(p:List UInt8){i:Nat}(h:i<p.length):(eA p).getD i 0=p.getD i 0:=by
 unfold eA;rw [sl _ _ (by simp;omega),sl _ _ h]
theorem Hd(p:List UInt8){i:Nat}(h:i<el p):(eA p).getD (64*(p.length/64)+i) 0=kO p 8 i:=by
 have k:=zN p;have aJ:p.length%64<64:=jF _ (by decide);have j:p.length=64*(p.length/64)+p.length%64:=by omega
 have g:=il p;unfold kO;by_cases a:i<p.length%64
 .rw [a6 a,Ad p (by omega)];unfold l2;rw [qD]
 .rw [aI a];unfold eA;by_cases b:i=p.length%64
  .rw [a6 b,sl _ _ (by simp;omega),u3 _ _ (by omega),show 64*(p.length/64)+i-p.length=0 by omega];rfl
  .rw [aI b,u3 _ _ (by simp;omega)];have e:64*(p.length/64)+i-(p++[(128:UInt8)]).length=i-p.length%64-1:=by simp;omega
   rw [e];by_cases c:el p-8<=i/\i<el p
   .rw [a6 c,u3 _ _ (by simp;omega),oI];have d:i-p.length%64-1-jq p.length=i-(el p-8):=by omega
    have f:i-(el p-8)<8:=by omega
    rw [d,iD,gE,List.getElem?_range f];show l0 p.length (i-(el p-8))=_;unfold l0;rw [show 7-(i-(el p-8))=el p-1-i by omega]
   .rw [aI c,sl _ _ (by simp;omega),iD,rL];split<;>rfl
def hI(m:List UInt8):Nat->eT
 |0=>gQ
 |k+1=>jt ((m.drop (64*k)).take 64) (hI m k)
theorem Af(p:List UInt8):∀k,k<=p.length/64->hI (eA p) k=kr p k
 |0,_=>rfl
 |k+1,h=>by
  show jt _ (hI (eA p) k)=jt _ (kr p k);rw [Af p k (by omega)];refine AQ (λJ a=>?_) _;rw [getD_take _ a,qD,qD,Ad p (by omega)]
theorem Ae(p:List UInt8):∀k,64*k<=el p->hI (eA p) (p.length/64+k)=k7 p k
 |0,_=>Af p _ (cI _)
 |k+1,h=>by
  show jt _ (hI (eA p) (p.length/64+k))=jt _ (k7 p k);rw [Ae p k (by omega)];refine AQ (λJ a=>?_) _;have b:=il p;have e:64*(p.length/64+k)+J=64*(p.length/64)+(64*k+J):=by omega
  rw [getD_take _ a,qD,qD];show(eA p).getD (64*(p.length/64+k)+J) 0=_;rw [e,Hd p (by omega)];unfold mu;rw [iD,qA _ (by omega)];rfl
theorem Hf(p:List UInt8):(hI (eA p) ((eA p).length/64)).out=br p:=by
 rw [Ac];have a:=il p;rw [show(64*(p.length/64)+el p)/64=p.length/64+el p/64 by omega,Ae p (el p/64) (by omega)];rfl
theorem l1{o:World}{x:BitVec 32}{n:Nat}(aJ:n<=32):Calls prog 120 #[eY x,.int .u64 n] o λr w=>r=eY (kT x n)/\w=o:=by
 refine a2 func120 (am 7 j (iu j j j j (by omega) (lU x n aJ) ?_));exact bq 2 j j j (ya 32 n aJ (by decide)) (iu j j j j (by omega) (nl x (32-n) (by omega)) (bq 0 j j j (nk _ _) (aq 1 j j ⟨j,j⟩)))
theorem Hb{o:World}:Calls prog 59 #[] o λr w=>r= .agg (gb fN).toArray/\C o [] [] w:=by
 have a:Own [] o:=C.start o;refine eV func59 (b7 2 a j (λcW w a=>am 2 j (cN (c:=(gb fN).toArray) j j j (λ_=>by kernel_rfl) ?_)));refine b6 0 a j j j (by decide) (by decide) (λw a=>?_);have a:=C.whole (U:=gb fN) a j;refine bD 0 j ⟨_,gr (U:=gb fN) results59 j j j a.bz,?_⟩;exact⟨j,a.bare⟩
def iS:eT:=⟨0#32,0#32,0#32,0#32,0#32,0#32,0#32,0#32⟩
theorem C6{o:World}{fc:Nat}{s:eT}{A:Option Addr}{p:List UInt8}{c:Nat}(t:Rd o A (au p))(aa:o.heap[fc]? =some (.cells (gb fN).toArray 137 (0,0)))(M:64<=p.length):Calls prog 60 #[.agg s.cs.toArray,.slice A p.length c,ab fc] o λr w=>r= .agg (jt p s).cs.toArray/\C o [] [] w:=by
 obtain⟨u,rfl,_⟩:=t 0 (bv (p.getD 0 0)) (lP (by omega));have L:fc<o.heap.size:=(gv.1 aa).1;have b:Own [] o:=C.start o;refine eV func60 (bL 2 b j j (λf w b=>b7 0 b j (λd w b=>b7 2 b j (λg w b=>?_))));have b:C o [] [R g (fo (words p 0)) 137,R d iS.cs.toArray 136,R f s.cs.toArray 136] w:=b;refine cJ 5 j (ct:=Nat) (λi=>[(1,.slice (some u) p.length c),(2,ab fc),(3,ab f),(6,ab d),(7,ab g),(8,.int .i64 (i:Nat))]) (λi w=>i<=16/\C o [] [R g (fo (words p i)) 137,R d iS.cs.toArray 136,R f s.cs.toArray 136] w) (λi=>16-i) 0 ⟨j,j,j,j,j,j,aX⟩ ⟨b4 _,b⟩ ?_;rintro i w ⟨E,b⟩;refine b8 5 j j (λz=>?_) (λz=>?_)
 .have k:i<16:=by omega
  have b:=b.drew;refine bt 3 j (λw=>C o [] [R g (fo (words p i)) 137,R d iS.cs.toArray 136,R f s.cs.toArray 136] w) b (af 0 3 j (aT 3 j (λw _=>ds j j (jL 4 i (by omega))) ?_));refine aT 4 j (λw _=>mN (J:=4*i) j j (by omega)) (bR 5 j (λw h=>Rd.cell (h.rd t (bT.of_nil _ _)) (lP (J:=4*i) (by omega))) (aT 6 j (λw _=>kg j (nj _)) (aT 7 j (λw _=>mO j j (by omega) (nl _ 24 (by decide))) (af 8 2 j (aT 10 j (λw _=>ds j j (jL 4 i (by omega))) (aT 11 j (λw _=>ds j j (gm (4*i) 1 (by omega))) (aT 12 j (λw _=>mN (J:=4*i+1) j j (by omega)) (bR 13 j (λw h=>Rd.cell (h.rd t (bT.of_nil _ _)) (lP (J:=4*i+1) (by omega))) ?_))))))));refine aT 14 j (λw _=>kg j (nj _)) (aT 15 j (λw _=>mO j j (by omega) (nl _ 16 (by decide))) (aT 16 j (λw _=>ds j j (nk _ _)) (af 17 2 j (aT 19 j (λw _=>ds j j (jL 4 i (by omega))) (aT 20 j (λw _=>ds j j (gm (4*i) 2 (by omega))) (aT 21 j (λw _=>mN (J:=4*i+2) j j (by omega)) (bR 22 j (λw h=>Rd.cell (h.rd t (bT.of_nil _ _)) (lP (J:=4*i+2) (by omega))) (aT 23 j (λw _=>kg j (nj _)) (aT 24 j (λw _=>mO j j (by omega) (nl _ 8 (by decide))) ?_)))))))));refine aT 25 j (λw _=>ds j j (nk _ _)) (af 26 2 j (aT 28 j (λw _=>ds j j (jL 4 i (by omega))) (aT 29 j (λw _=>ds j j (gm (4*i) 3 (by omega))) (aT 30 j (λw _=>mN (J:=4*i+3) j j (by omega)) (bR 31 j (λw h=>Rd.cell (h.rd t (bT.of_nil _ _)) (lP (J:=4*i+3) (by omega))) (aT 32 j (λw _=>kg j (nj _)) (aT 33 j (λw _=>ds j j (nk _ _)) (aT 34 j (λw _=>fe (J:=i) j j (by omega)) (dA 35 j (cB b j j j j (by rw [tv (by rw [oq];omega)];omega) (λw b=>?_)))))))))))
  have b:C o [] [[(g,.cells (fo (words p (i+1))) 137 (0,0))],R d iS.cs.toArray 136,R f s.cs.toArray 136] w:=by
   have e:=tu (l:=words p i) (by rw [oq];omega) (word p i);rw [oq,<-Bg] at e;rw [<-e];exact b
  exact an (cU (bq 2 j j j (cE i (by omega)) (bI 1 j ⟨i+1,⟨j,j,j,j,j,j,aX⟩,⟨k,b⟩,by omega⟩)))
 have F:i=16:=by omega
 subst F;refine cJ 6 j (ct:=Nat) (λJ=>[(1,.slice (some u) p.length c),(2,ab fc),(3,ab f),(6,ab d),(7,ab g),(9,.int .i64 (16+J:Nat))]) (λJ w=>J<=48/\C o [] [R g (fo (dY p J)) 137,R d iS.cs.toArray 136,R f s.cs.toArray 136] w) (λJ=>48-J) 0 ⟨j,j,j,j,j,j,aX⟩ ⟨b4 _,b⟩ ?_;rintro J w ⟨H,b⟩;refine b8 5 j j (λB=>?_) (λB=>?_)
 .have k:J<48:=by omega
  have N:=hU p J;refine bq 6 j j j (hE (16+J) 15 (by omega) (by omega)) (g7 (J:=16+J-15) j j j j (by omega) (ar 0 j (b.cell (l6 (by rw [hU];omega))) (bq 4 j j j (hE (16+J) 2 (by omega) (by omega)) (g7 (J:=16+J-2) j j j j (by omega) (ar 0 j (b.cell (l6 (by rw [hU];omega))) ?_)))));have b:=b.drew;refine bt 1 j (λw=>C o [] [R g (fo (dY p J)) 137,R d iS.cs.toArray 136,R f s.cs.toArray 136] w) b (af 0 2 j (aT 2 j (λw _=>ds j j (hE (16+J) 16 (by omega) (by omega))) (aT 3 j (λw _=>fe (J:=16+J-16) j j (by omega)) ?_)));refine bR 4 j (λw h=>h.cell (l6 (by rw [hU];omega))) (fC 3 [5,7,10] j (aT 11 j (λw _=>mO j j (by omega) (lU _ 3 (by decide))) (af 14 1 j (aT 15 j (λw _=>ds j j (hE (16+J) 7 (by omega) (by omega))) (aT 16 j (λw _=>fe (J:=16+J-7) j j (by omega)) (bR 17 j (λw h=>h.cell (l6 (by rw [hU];omega))) (fC 3 [19,21,24] j (aT 25 j (λw _=>mO j j (by omega) (lU _ 10 (by decide))) (aR 6 j (bB j j j (l1 (o:=_) (x:=(dY p J).getD (16+J-15) 0) (n:=7) (by decide)) (λq hw=>?_)))))))))));subst hw;refine an ⟨b,?_⟩;refine aR 8 j (bB j j j (l1 (o:=_) (x:=(dY p J).getD (16+J-15) 0) (n:=18) (by decide)) (λq hw=>?_));subst hw;refine an ⟨b,?_⟩;refine aT 9 j (λw _=>ds j j (hF _ _)) (aT 12 j (λw _=>ds j j (hF _ _)) (aT 13 j (λw _=>ds j j (hD _ _)) (aT 18 j (λw _=>ds j j (hD _ _)) (aR 20 j (bB j j j (l1 (o:=_) (x:=(dY p J).getD (16+J-2) 0) (n:=17) (by decide)) (λq hw=>?_))))));subst hw;refine an ⟨b,?_⟩;refine aR 22 j (bB j j j (l1 (o:=_) (x:=(dY p J).getD (16+J-2) 0) (n:=19) (by decide)) (λq hw=>?_));subst hw;refine an ⟨b,?_⟩;refine aT 23 j (λw _=>ds j j (hF _ _)) (aT 26 j (λw _=>ds j j (hF _ _)) (aT 27 j (λw _=>ds j j (hD _ _)) (aT 28 j (λw _=>fe (J:=16+J) j j (by omega)) (dA 29 j (cB b j j j j (by rw [tv (by rw [hU];omega)];omega) (λw b=>?_))))))
  have b:C o [] [[(g,.cells (fo (dY p (J+1))) 137 (0,0))],R d iS.cs.toArray 136,R f s.cs.toArray 136] w:=by
   have D:dY p (J+1)=dY p J++[(dY p J).getD (16+J-16) 0+po ((dY p J).getD (16+J-15) 0)+(dY p J).getD (16+J-7) 0+pq ((dY p J).getD (16+J-2) 0)]:=by
    show nA (dY p J)=_;unfold nA;rw [hU]
   have e:=tu (l:=dY p J) (by rw [hU];omega) ((dY p J).getD (16+J-16) 0+po ((dY p J).getD (16+J-15) 0)+(dY p J).getD (16+J-7) 0+pq ((dY p J).getD (16+J-2) 0));rw [hU] at e;rw [D,<-e];exact b
  exact an (cU (bq 2 j j j (cE (16+J) (by omega)) (bI 1 j ⟨J+1,⟨j,j,j,j,j,j,aX⟩,⟨k,b⟩,by omega⟩)))
 have I:J=48:=by omega
 subst I;refine bM 3 (U:=s.cs) j j j b.f2.bz (b7 0 b j (λm w b=>b6 0 b j j j j j (λw b=>?_)));have b:C o [] [R m (rounds p s 0).cs.toArray 136,R g (fo (dY p 48)) 137,R d iS.cs.toArray 136,R f s.cs.toArray 136] w:=C.whole (U:=s.cs) b j;refine cJ 5 j (ct:=Nat) (λi=>[(1,.slice (some u) p.length c),(2,ab fc),(3,ab f),(6,ab d),(7,ab g),(12,ab m),(13,.int .i64 (i:Nat))]) (λi w=>i<=64/\C o [] [R m (rounds p s i).cs.toArray 136,R g (fo (dY p 48)) 137,R d iS.cs.toArray 136,R f s.cs.toArray 136] w) (λi=>64-i) 0 ⟨j,j,j,j,j,j,j,aX⟩ ⟨b4 _,b⟩ ?_;rintro i w ⟨E,b⟩;refine b8 5 j j (λv=>?_) (λv=>?_)
 .have k:i<64:=by omega
  have b:=b.drew;refine bt 4 j (λw=>C o [] [R m (rounds p s i).cs.toArray 136,R g (fo (dY p 48)) 137,R d iS.cs.toArray 136,R f s.cs.toArray 136] w) b (aT 0 j (λw _=>fe (J:=0) j j (by decide)) (bR 1 j (λw h=>h.cell j) (aT 2 j (λw _=>fe (J:=4) j j (by decide)) (bR 3 j (λw h=>h.cell j) (af 4 2 j (bK ?_))))));have b:=b.drew;refine bt 1 j (λw=>C o [] [R m (rounds p s i).cs.toArray 136,R g (fo (dY p 48)) 137,R d iS.cs.toArray 136,R f s.cs.toArray 136] w) b (aT 0 j (λw _=>fe (J:=7) j j (by decide)) (bR 1 j (λw h=>h.cell j) (fC 4 [2,4,7,11] j (aT 12 j (λw _=>fe (J:=5) j j (by decide)) (bR 13 j (λw h=>h.cell j) (aT 14 j (λw _=>ds j j (lT _ _)) (af 15 1 j ?_)))))));refine aT 16 j (λw _=>BK j (x8 _)) (aT 17 j (λw _=>fe (J:=6) j j (by decide)) (bR 18 j (λw h=>h.cell j) (aT 19 j (λw _=>ds j j (lT _ _)) (aT 20 j (λw _=>ds j j (hF _ _)) (af 22 3 j (aT 25 j (λw _=>fe (J:=i) j j k) (bR 26 j (λw h=>pb ((h.fW fc L (by simp)).trans aa) (wA k)) (af 28 1 j (aT 29 j (λw _=>fe (J:=i) j j k) (bR 30 j (λw h=>h.f1.cell (l6 (by rw [hU];omega))) (aR 3 j (bB j j j (l1 (o:=_) (x:=(rounds p s i).e) (n:=6) (by decide)) (λq hw=>?_)))))))))))));subst hw;refine an ⟨b,?_⟩;refine aR 5 j (bB j j j (l1 (o:=_) (x:=(rounds p s i).e) (n:=11) (by decide)) (λq hw=>?_));subst hw;refine an ⟨b,?_⟩;refine aT 6 j (λw _=>ds j j (hF _ _)) (aR 8 j (bB j j j (l1 (o:=_) (x:=(rounds p s i).e) (n:=25) (by decide)) (λq hw=>?_)));subst hw;refine an ⟨b,?_⟩;refine aT 9 j (λw _=>ds j j (hF _ _)) (aT 10 j (λw _=>ds j j (hD _ _)) (aT 21 j (λw _=>ds j j (hD _ _)) (aT 27 j (λw _=>ds j j (hD _ _)) (aT 31 j (λw _=>ds j j (hD _ _)) (af 32 1 j (bK ?_))))));have b:=b.drew;refine bt 1 j (λw=>C o [] [R m (rounds p s i).cs.toArray 136,R g (fo (dY p 48)) 137,R d iS.cs.toArray 136,R f s.cs.toArray 136] w) b (fC 4 [0,2,5,8] j (aT 9 j (λw _=>fe (J:=1) j j (by decide)) (bR 10 j (λw h=>h.cell j) (aT 11 j (λw _=>ds j j (lT _ _)) ?_))));refine af 12 1 j (aT 13 j (λw _=>fe (J:=2) j j (by decide)) (bR 14 j (λw h=>h.cell j) (aT 15 j (λw _=>ds j j (lT _ _)) (aT 16 j (λw _=>ds j j (hF _ _)) (aT 17 j (λw _=>fe (J:=1) j j (by decide)) (bR 18 j (λw h=>h.cell j) (aT 19 j (λw _=>fe (J:=2) j j (by decide)) (bR 20 j (λw h=>h.cell j) (aT 21 j (λw _=>ds j j (lT _ _)) (aT 22 j (λw _=>ds j j (hF _ _)) (aR 1 j (bB j j j (l1 (o:=_) (x:=(rounds p s i).a) (n:=2) (by decide)) (λq hw=>?_)))))))))))));subst hw;refine an ⟨b,?_⟩;refine aR 3 j (bB j j j (l1 (o:=_) (x:=(rounds p s i).a) (n:=13) (by decide)) (λq hw=>?_));subst hw;refine an ⟨b,?_⟩;refine aT 4 j (λw _=>ds j j (hF _ _)) (aR 6 j (bB j j j (l1 (o:=_) (x:=(rounds p s i).a) (n:=22) (by decide)) (λq hw=>?_)));subst hw;refine an ⟨b,?_⟩;refine aT 7 j (λw _=>ds j j (hF _ _)) (aT 23 j (λw _=>ds j j (hD _ _)) (af 24 1 j (bK (bq 3 j j j (hD _ _) (am 1 j (g7 (J:=1) j j j j (by decide) ?_))))));refine ar 0 j (ax (C.aj b) j) (g7 (J:=2) j j j j (by decide) (ar 0 j (ax (C.aj b) j) (g7 (J:=3) j j j j (by decide) (ar 0 j (ax (C.aj b) j) (bq 1 j j j (hD _ _) (am 1 j (g7 (J:=5) j j j j (by decide) ?_)))))));refine ar 0 j (ax (C.aj b) j) (g7 (J:=6) j j j j (by decide) (ar 0 j (ax (C.aj b) j) (cN (c:=(rounds p s (i+1)).cs.toArray) j j j (λ_=>by kernel_rfl) (b6 0 b j j j j j (λw b=>?_)))));have b:C o [] [R m (rounds p s (i+1)).cs.toArray 136,R g (fo (dY p 48)) 137,R d iS.cs.toArray 136,R f s.cs.toArray 136] w:=C.whole (U:=(rounds p s (i+1)).cs) b (Eq.refl 8);exact bq 2 j j j (cE i (by omega)) (bI 1 j ⟨i+1,⟨j,j,j,j,j,j,j,aX⟩,⟨k,b⟩,by omega⟩)
 have G:i=64:=by omega
 subst G;have b:C o [] [R f s.cs.toArray 136,R m (rounds p s 64).cs.toArray 136,R g (fo (dY p 48)) 137,R d iS.cs.toArray 136] w:=b.f3;refine cJ 6 j (ct:=Nat) (λJ=>[(1,.slice (some u) p.length c),(2,ab fc),(3,ab f),(6,ab d),(7,ab g),(12,ab m),(18,.int .i64 (J:Nat))]) (λJ w=>J<=8/\C o [] [R f (mixed s (rounds p s 64) J).toArray 136,R m (rounds p s 64).cs.toArray 136,R g (fo (dY p 48)) 137,R d iS.cs.toArray 136] w) (λJ=>8-J) 0 ⟨j,j,j,j,j,j,j,aX⟩ ⟨b4 _,b⟩ ?_;rintro J w ⟨H,b⟩;refine b8 5 j j (λy=>?_) (λy=>?_)
 .have k:J<8:=by omega
  have b:=b.drew;refine bt 3 j (λw=>C o [] [R f (mixed s (rounds p s 64) J).toArray 136,R m (rounds p s 64).cs.toArray 136,R g (fo (dY p 48)) 137,R d iS.cs.toArray 136] w) b (af 0 2 j (aT 2 j (λw _=>fe (J:=J) j j k) (bR 3 j (λw h=>h.cell (zg s (rounds p s 64) k)) (af 4 1 j (aT 5 j (λw _=>fe (J:=J) j j k) (bR 6 j (λw h=>h.f1.cell (r7 _ k)) (aT 7 j (λw _=>ds j j (hD _ _)) (aT 8 j (λw _=>fe (J:=J) j j k) (dA 9 j (cB b j j j j (by rw [zh _ _ k];exact k) (λw b=>?_)))))))))));have b:C o [] [R f (mixed s (rounds p s 64) (J+1)).toArray 136,R m (rounds p s 64).cs.toArray 136,R g (fo (dY p 48)) 137,R d iS.cs.toArray 136] w:=by rw [<-zi s (rounds p s 64) k];exact b
  exact an (cU (bq 2 j j j (cE J (by omega)) (bI 1 j ⟨J+1,⟨j,j,j,j,j,j,j,aX⟩,⟨k,b⟩,by omega⟩)))
 have K:J=8:=by omega
 subst K;have b:=b.f3;refine bM 3 (U:=(jt p s).cs) j j j b.f1.bz (b6 0 b j j j j j (λw b=>?_));have b:C o [] (R d (jt p s).cs.toArray 136::_) w:=C.whole (U:=(jt p s).cs) b (Eq.refl 8);refine bD 0 j ⟨_,gr (U:=(jt p s).cs) results60 j j j b.bz,?_⟩;exact⟨j,b.bare⟩
def ih(p:List UInt8)(J:Nat):List UInt8:=(p++[128])++List.replicate J 0
def kx(p:List UInt8)(J:Nat):List UInt8:=ih p (jq p.length)++(List.range J).map (l0 p.length)
theorem nw(p:List UInt8)(J:Nat):(ih p J).length=p.length+1+J:=by simp [ih];omega
theorem GG(p:List UInt8)(J:Nat):ih p J++[0]=ih p (J+1):=by unfold ih;rw [List.append_assoc,<-List.replicate_succ']
theorem GH(p:List UInt8)(J:Nat):kx p J++[l0 p.length J]=kx p (J+1):=by unfold kx;rw [List.append_assoc,List.range_succ,List.map_append];rfl
theorem qU(p:List UInt8)(J:Nat):(kx p J).length=p.length+1+jq p.length+J:=by unfold kx;rw [List.length_append,nw,List.length_map,List.length_range]
theorem zM(p:List UInt8):kx p 8=eA p:=by unfold kx ih eA;rw [List.append_assoc]
theorem GI(n:Nat):jq n<=63:=by unfold jq;split<;>omega
theorem Ec(n:Nat)(h:n<=1000000000):evalBin .mul .u64 (n:Int) 8=some (.int .u64 ((8*n:Nat):Int)):=by
 show some (Value.int .u64 (IntKind.u64.wrap ((n:Int)*8)))=_;rw [lK];exact aG (λz=>some (Value.int .u64 z)) (by omega)
theorem DU(J:Nat)(h:J<9):evalBin .sub .i64 (7-(J:Int)) 1=some (.int .i64 (7-((J+1:Nat):Int))):=by
 show some (Value.int .i64 (IntKind.i64.wrap ((7-(J:Int))-1)))=_;rw [jY];exact aG (λz=>some (Value.int .i64 z)) (by omega)
theorem BH{P:Program}{n:Fr}{Z:Env}{w:World}{dst:Option Nat}{ty:TypeId}{pos:String}{after:Array Edge}{g:Option (Nat×Bool)}{t e:TypeId}{x y f:Operand}{b l c:Nat}{k dm:IntKind}{i J:Nat}(m:Nat){z:Value}{bytes:Nat}[hu:bA P t (.slice e)][u:cm P e z 1 bytes]
 (B:bs Z x=some (.slice (some ⟨b,0,none⟩) l c)) (C:bs Z y=some (.int k i)) (D:bs Z f=some (.int dm J)) (F:J=i+m) (p:J<=c) (E:i<c):
 ∀a,cK Z n.n a->(execOp a.eval ⟨dst,.slice t x (some y) (some f) none,ty,pos,after,g⟩).run P w= .ok (.value (.slice (some ⟨b,i,none⟩) m (c-i))) w:=λa d=>by
 obtain⟨inf,v,_,A,_⟩:=u.parts;have q:¬c<J:=by omega
 have r:¬J<i:=by omega
 have s:¬c=i:=by omega
 have j:((⟨b,0,none⟩:Addr).add i)=⟨b,i,none⟩:=by rw [add_lit,fj]
 have o:J-i=m:=by omega
 simp [execOp,d.eval B,d.eval C,d.eval D,Instr.sliceAt,Instr.slice,Instr.sliceBounds,Instr.sliceBound,asIntOf,d8 hu.h,sizeOf,typeInfo,v,A,q,r,s,j,o];rw [a6 p,a6 (by omega)]
theorem DI{cur:Array Value}{n:Nat}{M:List UInt8}(h:cur.toList.take n=au M){k i:Nat}{v:Value}(a:(au ((M.drop k).take 64))[i]? =some v):cur[k+i]? =some v:=by
 rw [xx,ux,jE] at a;split at a
 .rw [lL,<-h,jE] at a;split at a
  .simpa using a
  .cases a
 .cases a
def lZ(s:eT)(i:Nat):List UInt8:=s.out.take i++List.replicate (32-i) 0
theorem GD(s:eT){i:Nat}(h:i<32):s.out.getD i 0=bZ (s.ws.getD (i/4) 0>>>(24-8*(i%4))):=by
 obtain⟨q,r,b,c,rfl⟩:∃q r,q<8/\r<4/\i=4*q+r:=⟨i/4,i%4,by omega,by omega,by omega⟩;have a:r=0\/r=1\/r=2\/r=3:=by omega
 rw [show(4*q+r)/4=q by omega,show(4*q+r)%4=r by omega];rcases pe b with rfl|rfl|rfl|rfl|rfl|rfl|rfl|rfl<;>rcases a with rfl|rfl|rfl|rfl<;>rfl
theorem GB(s:eT){i:Nat}(h:i<=32):(lZ s i).length=32:=by
 unfold lZ;rw [b0,List.length_take,List.length_replicate,eT.vT];omega
theorem GC(s:eT){i:Nat}(h:i<32):(au (lZ s i)).toArray.setIfInBounds i (bv (bZ (s.ws.getD (i/4) 0>>>(24-8*(i%4)))))=(au (lZ s (i+1))).toArray:=by
 have a:i<s.out.length:=by rw [eT.vT];exact h
 rw [<-GD s h];apply fx;unfold lZ;rw [show 32-i=(32-(i+1))+1 by omega,rH];simp [au,List.set_append,List.getD,a,Nat.min_eq_left (Nat.le_of_lt a)];rw [fr (by simpa using a)];simp
theorem s0{o:World}{A:Option Addr}{p:List UInt8}{c:Nat}(V:Rd o A (au p))(M:p.length<=1000000000):Calls prog 27 #[.slice A p.length c] o λr w=>r= .agg (au (br p)).toArray/\C o [] [] w:=by
 have a:Own [] o:=C.start o;have aj:=GI p.length;have ai:=Ac p;have y:=qU p 8;rw [zM] at y;refine eV func27 (b7 2 a j (λaO w a=>?_));have a:C o [] [R aO (au (gO gQ 0)).toArray 37] w:=a;refine am 2 j (eC a j j j j j j bG (λY w a=>?_));refine am 1 j (dR a (Row.made (size:=1) (by simp [maxLen]) (Nat.zero_le _)) j j (by decide) j j j (news:=au p) (by simp) (a.rd V (bT.of_nil _ _)) (eg p) (by omega) (by unfold maxLen;omega) (λv ag w b a=>?_));refine eC a j j j j j j bG (λD w a=>?_);have aJ:Rd w (some ⟨D,0,none⟩) [bv 128]:=a.bz;have a:=a.f1;refine dR a b j j (by decide) j j j (m:=1) (news:=[bv 128]) j aJ (eg [128]) (by omega) (by unfold maxLen;omega) (λv ag w b a=>?_);have a:=a.f1.drop
 have b:du v (ih p 0) ag:=by
  have K:au (ih p 0)=[]++au p++[bv 128]:=by simp [ih,au]
  have L:(ih p 0).length=0+p.length+1:=by rw [nw];omega
  show Row 5 1 v (ih p 0).length (au (ih p 0)) ag;rw [K,L];exact b
 refine cJ 3 j (ct:=Nat×Value×List Chunk) (λi=>[(0,.slice A p.length c),(2,ab aO),(3,i.2.1)]) (λi w=>i.1<=jq p.length/\du i.2.1 (ih p i.1) i.2.2/\C o [] [i.2.2,R aO (au (gO gQ 0)).toArray 37] w) (λi=>jq p.length-i.1) (0,v,ag) ⟨j,j,j,aX⟩ ⟨b4 _,b,a⟩ ?_;rintro⟨J,v,ag⟩ w ⟨t,b,a⟩;dsimp only at t b a⊢;obtain⟨B,e5,rfl,ak,al,_,_⟩:=b.rd a;refine am 5 j (wP (J:=64) j j j j (by decide) ?_);refine bm 1 j j (λu=>?_) (λu=>?_)
 .have l:J<jq p.length:=by
   have n:(ih p J).length%64≠56:=by have:=u;simp at this;omega
   rw [nw] at n;have Z:J≠jq p.length:=λe=>by rw [e] at n;unfold jq at n;split at n<;>omega
   omega
  refine am 4 j (eC a j j j j j j bG (λE w a=>?_));have aJ:Rd w (some ⟨E,0,none⟩) [bv (0)]:=a.bz;have a:=a.f1;refine dR a b j j (by decide) j j j (m:=1) (news:=[bv (0)]) j aJ (eg [0]) (by simp only [nw,qU];omega) (by simp only [nw,qU];unfold maxLen;omega) (λv ag w b a=>?_);have a:=a.f1.drop
  have b:du v (ih p (J+1)) ag:=by
   rw [<-GG];show Row 5 1 v (ih p J++[0]).length (au (ih p J++[0])) ag;rw [b0,uw];exact b
  exact bI 1 j ⟨(J+1,v,ag),⟨j,j,j,aX⟩,⟨l,b,a⟩,by dsimp only;omega⟩
 have P:J=jq p.length:=by
  have n:(ih p J).length%64=56:=by have:=u;simp at this;omega
  rw [nw] at n;unfold jq at t⊢;split at t<;>(split<;>omega)
 subst P;have b:du (.slice B (ih p (jq p.length)).length e5) (kx p 0) ag:=by unfold kx;simpa using b
 refine am 5 j (gt j j j (ni p.length (by omega)) ?_);refine bq 0 j j j (Ec p.length M) (cJ 6 j (ct:=Nat×Value×List Chunk) (λi=>[(2,ab aO),(3,i.2.1),(4,.int .u64 ((8*p.length:Nat):Int)),(5,.int .i64 (7-(i.1:Int)))]) (λi w=>i.1<=8/\du i.2.1 (kx p i.1) i.2.2/\C o [] [i.2.2,R aO (au (gO gQ 0)).toArray 37] w) (λi=>8-i.1) (0,_,ag) ⟨j,j,j,j,aX⟩ ⟨b4 _,b,a⟩ ?_);rintro⟨J,v,ag⟩ w ⟨t,b,a⟩;dsimp only at t b a⊢;refine b8 5 j j (λG=>?_) (λG=>?_)
 .have l:J<8:=by omega
  refine am 7 j (bS 33 (.int .i64 ((7-J:Nat):Int)) j (aG (Value.int .i64) (by omega)) ?_);refine bq 0 j j j (jL 8 (7-J) (by omega)) (gt j j j (ni (8*(7-J)) (by omega)) (iu j j j j (by omega) (x9 (8*p.length) (8*(7-J)) (by omega)) (gt j j j (xL _) (eC a j j j j j j bG (λF w a=>?_)))));have aJ:Rd w (some ⟨F,0,none⟩) [bv (l0 p.length J)]:=a.bz;have a:=a.f1;refine dR a b j j (by decide) j j j (m:=1) (news:=[bv (l0 p.length J)]) j aJ (eg [l0 p.length J]) (by simp only [nw,qU];omega) (by simp only [nw,qU];unfold maxLen;omega) (λv ag w b a=>?_);have a:=a.f1.drop
  have b:du v (kx p (J+1)) ag:=by
   rw [<-GH];show Row 5 1 v (kx p J++[l0 p.length J]).length (au (kx p J++[l0 p.length J])) ag;rw [b0,uw];exact b
  exact bq 3 j j j (DU J (by omega)) (bI 1 j ⟨(J+1,v,ag),⟨j,j,j,j,aX⟩,⟨l,b,a⟩,by dsimp only;omega⟩)
 have Q:J=8:=by omega
 subst Q;rw [zM] at b;refine am 3 j (cN (c:=gQ.cs.toArray) j j j (λ_=>by kernel_rfl) ?_);refine b7 0 a j (λd w a=>b6 0 a j j j j j (λw a=>?_));have a:C o [] [R d (hI (eA p) 0).cs.toArray 136,ag,R aO (au (gO gQ 0)).toArray 37] w:=C.whole (U:=gQ.cs) a (Eq.refl 8);refine bp 2 (Hb (o:=w)) j (λw aa=>?_);have a:=a.aL aa;refine b7 0 a j (λg w a=>b6 0 a j j j (by decide) (by decide) (λw a=>?_));have a:=C.whole (U:=gb fN) a j;obtain⟨_,b|⟨f,cap,cur,rfl,rfl,ac,ad,ae,z⟩⟩:=b
 .exact absurd b.2.1 (by rw [y];omega)
 rw [gG] at z;have ah:(eA p).length%64=0:=by rcases il p with h|h<;>omega
 refine cJ 5 j (ct:=Nat) (λk=>[(2,ab aO),(3,.slice (some ⟨f,0,none⟩) (eA p).length cap),(6,ab d),(7,ab g),(8,.int .i64 (64*k:Nat))]) (λk w=>64*k<=(eA p).length/\C o [] [R g (gb fN).toArray 137,R d (hI (eA p) k).cs.toArray 136,R f cur 5,R aO (au (gO gQ 0)).toArray 37] w) (λk=>(eA p).length-64*k) 0 ⟨j,j,j,j,j,aX⟩ ⟨b4 _,a⟩ ?_;rintro k w ⟨aa,a⟩;refine b8 7 j j (λH=>?_) (λH=>?_)
 .have l:64*k<(eA p).length:=by omega
  have a:=a.drew;refine bt 3 j (λw=>C o [] [R g (gb fN).toArray 137,R d (hI (eA p) k).cs.toArray 136,R f cur 5,R aO (au (gO gQ 0)).toArray 37] w) a (aT 0 j (λw h=>c4 (U:=(hI (eA p) k).cs) j j j h.f1.bz) (af 1 3 j (aT 4 j (λw _=>ds j j (gm (64*k) 64 (by omega))) (aT 5 j (λw _=>BH 64 (i:=64*k) (J:=64*k+64) j j j j (by omega) (by omega)) (aR 6 j ?_)))));have W:Rd _ (some ⟨f,64*k,none⟩) (au (((eA p).drop (64*k)).take 64)):=a.f2.ij (λi v X=>DI z X);have T:(((eA p).drop (64*k)).take 64).length=64:=by rw [g9,iT];omega
  have x:=C6 (s:=hI (eA p) k) (p:=((eA p).drop (64*k)).take 64) (c:=cap-64*k) W a.first (by omega);rw [T] at x;refine bB j j j x (λw aa=>?_);have a:=a.aL aa;refine an ⟨a,?_⟩;refine dA 7 j ?_;have a:C o [] [R d (hI (eA p) k).cs.toArray 136,R g (gb fN).toArray 137,R f cur 5,R aO (au (gO gQ 0)).toArray 37] w:=a.f1;refine c2 a j j j j (Eq.refl 8) bG (λw a=>?_);have a:C o [] [R d (hI (eA p) (k+1)).cs.toArray 136,R g (gb fN).toArray 137,R f cur 5,R aO (au (gO gQ 0)).toArray 37] w:=C.whole (U:=(hI (eA p) (k+1)).cs) a (Eq.refl 8);have a:=a.f1;exact an (cU (bq 2 j j j (gm (64*k) 64 (by omega)) (bI 1 j ⟨k+1,⟨j,j,j,j,j,aX⟩,⟨by omega,a⟩,by omega⟩)))
 have S:k=(eA p).length/64:=by omega
 subst S;refine b7 3 a j (λq w a=>?_);have a:C o [] [[(q,.cells (au (lZ ((hI (eA p) ((eA p).length/64))) 0)).toArray 37 (0,0))],R g (gb fN).toArray 137,[(d,.cells (hI (eA p) ((eA p).length/64)).cs.toArray 136 (0,0))],R f cur 5,R aO (au (gO gQ 0)).toArray 37] w:=a;refine cJ 5 j (ct:=Nat) (λi=>[(2,ab aO),(6,ab d),(9,ab q),(10,.int .i64 (i:Nat))]) (λi w=>i<=32/\C o [] [[(q,.cells (au (lZ ((hI (eA p) ((eA p).length/64))) i)).toArray 37 (0,0))],R g (gb fN).toArray 137,[(d,.cells (hI (eA p) ((eA p).length/64)).cs.toArray 136 (0,0))],R f cur 5,R aO (au (gO gQ 0)).toArray 37] w) (λi=>32-i) 0 ⟨j,j,j,j,aX⟩ ⟨b4 _,a⟩ ?_;rintro i w ⟨N,a⟩;refine b8 5 j j (λI=>?_) (λI=>?_)
 .have l:i<32:=by omega
  refine am 6 j (tR (J:=4) j j j j (by decide) (by omega) ?_);refine g7 (J:=i/4) j j j j (by omega) (ar 0 j (a.f2.cell (r7 _ (by omega))) (am 1 j (wP (J:=4) j j j j (by decide) ?_)));refine bq 0 j j j (jL 8 (i%4) (by omega)) (bq 0 j j j (hE 24 (8*(i%4)) (by omega) (by omega)) (gt j j j (ni (24-8*(i%4)) (by omega)) (iu j j j j (by omega) (lU _ (24-8*(i%4)) (by omega)) (gt j j j (qt _) (g7 (J:=i) j j j j (by omega) (cB a j j j j (by simp [cL,GB _ N];omega) (λw a=>?_)))))));have a:C o [] [[(q,.cells (au (lZ ((hI (eA p) ((eA p).length/64))) (i+1))).toArray 37 (0,0))],R g (gb fN).toArray 137,[(d,.cells (hI (eA p) ((eA p).length/64)).cs.toArray 136 (0,0))],R f cur 5,R aO (au (gO gQ 0)).toArray 37] w:=by rw [<-GC _ l];exact a
  exact bq 2 j j j (cE i (by omega)) (bI 1 j ⟨i+1,⟨j,j,j,j,aX⟩,⟨l,a⟩,by omega⟩)
 have O:i=32:=by omega
 subst O
 have a:C o [] [R q (au (br p)).toArray 37,R g (gb fN).toArray 137,[(d,.cells (hI (eA p) ((eA p).length/64)).cs.toArray 136 (0,0))],R f cur 5,R aO (au (gO gQ 0)).toArray 37] w:=by
  have e:lZ (hI (eA p) ((eA p).length/64)) 32=br p:=by
   unfold lZ;rw [Hf,h7 (by rw [eK];omega)];simp
  rw [<-e];exact a
 refine bM 3 (U:=au (br p)) j j (l3 p) a.bz (c2 a.f4 j j j (by simpa using eg (br p)) (l3 p) (by simp [cL,pj _ (Nat.zero_le 8)]) (λw a=>?_));have a:=C.whole (U:=au (br p)) a j;refine bD 0 j ⟨_,gr (U:=au (br p)) results27 j j j a.bz,?_⟩;exact⟨j,a.bare⟩
theorem A2{o:World}{A:Option Addr}{p:List UInt8}{c:Nat}(d:Rd o A (au p))(b:p.length<=1000000000):Calls prog 8 #[.slice A p.length c] o λr w=>r= .agg (au (br p)).toArray/\C o [] [] w:=by
 have a:Own [] o:=C.start o;refine eV func8 (b7 2 a j (λaO w a=>bp 3 (s0 (c:=c) (a.rd d (bT.of_nil _ _)) b) j (λw aa=>?_)));have a:=a.aL aa;refine b6 0 a j j j (by simpa using eg (br p)) (l3 p) (λw a=>?_);have a:=C.whole (U:=au (br p)) a j;refine bD 0 j ⟨_,gr (U:=au (br p)) results8 j j j a.bz,?_⟩;exact⟨j,a.bare⟩
def dI(T:TypeId)(w:World)(p:Option Addr)(m:List (Int×Value)):Prop:=
 (p=none/\m=[])\/∃b ah I,p=some ⟨b,0,none⟩/\w.heap[b]? =some (.cells #[.map (some ah)] T (0,0))/\w.heap[ah]? =some I/\cg bN I m
abbrev ay(T:TypeId)(b ah:Nat)(I:Obj):List Chunk:=[(b,.cells #[.map (some ah)] T (0,0)),(ah,I)]
theorem dI.own{T:TypeId}{o w:World}{F:List Nat}{ad:List (List Chunk)}{b ah:Nat}{I:Obj}{m:List (Int×Value)}(a:C o F (ay T b ah I::ad) w)(hm:cg bN I m):dI T w (some ⟨b,0,none⟩) m:=
 .inr ⟨b,ah,I,j,a.here (b,_) (by simp),a.here (ah,I) (by simp),hm⟩
theorem im{T:TypeId}{o w:World}{F:List Nat}{ad:List (List Chunk)}{b ah:Nat}{I:Obj}(a:C o F (ay T b ah I::ad) w):C o F ([(b,.cells #[.map (some ah)] T (0,0))]::[(ah,I)]::ad) w:=C.split (ai:=[(b,.cells #[.map (some ah)] T (0,0))]) (aA:=[(ah,I)]) a
theorem iP{T:TypeId}{o w:World}{F:List Nat}{ad:List (List Chunk)}{b ah:Nat}{I:Obj}(a:C o F ([(b,.cells #[.map (some ah)] T (0,0))]::[(ah,I)]::ad) w):C o F (ay T b ah I::ad) w:=C.join (ai:=[(b,.cells #[.map (some ah)] T (0,0))]) (aA:=[(ah,I)]) a
def gD(n:Nat)(v:Value):Prop:=∃l:List Value,v= .agg l.toArray/\l.length=n/\l.all (·.oneCell')=true
theorem FR{m:List (Int×Value)}{k:Int}{v:Value}(h:aZ m k=some v):(k,v)∈m:=by
 rcases n9 m k with⟨a,_⟩|⟨J,u,a,b,_⟩
 .rw [a] at h;cases h
 .rw [a] at h;cases h;exact h5 b
theorem gD.get{n:Nat}{m:List (Int×Value)}{z:Value}(b:gD n z)(h:∀p∈m,gD n p.2)(k:Int):gD n ((aZ m k).getD z):=by
 cases a:aZ m k with
 |none=>exact b
 |some v=>exact h _ (FR a)
theorem dI.jk{T:TypeId}{w:World}{p:Option Addr}{m:List (Int×Value)}(h:dI T w p m)(a:p.isNone=true):p=none/\m=[]:=by
 rcases h with h|⟨b,ah,I,rfl,_⟩
 .exact h
 .cases a
theorem dI.jn{T:TypeId}{w:World}{p:Option Addr}{m:List (Int×Value)}(h:dI T w p m)(a:p.isNone=false):∃b ah I,p=some ⟨b,0,none⟩/\w.heap[b]? =some (.cells #[.map (some ah)] T (0,0))/\w.heap[ah]? =some I/\cg bN I m:=by
 rcases h with⟨rfl,_⟩|h
 .cases a
 .exact h
theorem C.cc{o w:World}{ad:List (List Chunk)}{b:Nat}{I:Obj}(a:C o [] ad w)(h:o.heap[b]? =some I):w.heap[b]? =some I:=by
 rw [a.fW b (gv.1 h).1 (by simp)];exact h
theorem xW{I:Obj}{m:List (Int×Value)}{k:Int}(hm:cg bN I m)(h:(aZ m k).isSome=false):cg bN I (fY m k):=by
 rcases n9 m k with⟨_,b⟩|⟨J,u,a,_⟩
 .rw [vr m k b];exact hm
 .rw [a] at h;cases h
theorem cell_of{w:World}{b off:Nat}{c:Array Value}{e:TypeId}{e6:Nat×Nat}{v:Value}(h:w.heap[b]? =some (.cells c e e6))(a:c[off]? =some v):w.cell? ⟨b,off,none⟩=some v:=by simp [World.cell?,h,a]
abbrev rn:Value:=.agg #[.int .i64 0,.int .i64 0,.int .i64 0]
theorem F1{o:World}:Calls prog 70 #[] o λr w=>∃b ah,r=ab b/\cg bN (.map #[] 0) []/\C o [] [ay 237 b ah (.map #[] 0)] w:=by
 have a:Own [] o:=C.start o;refine a2 func70 (am 5 j (jx j a j j (λaz w a=>?_)));exact cN (c:= #[.map (some az)]) j j j (λ_=>by kernel_rfl) (bL 0 a j j (λd w a=>aq 1 j j ⟨d,az,j,cg.new,iP (T:=237) a⟩))
theorem HE{o:World}{b ah:Nat}{I:Obj}{m:List (Int×Value)}{k:Int}{l:List Value}(e:l.length=3)(g:l.all (·.oneCell')=true)(a:Own [ay 237 b ah I] o)(hm:cg bN I m):Calls prog 152 #[ab b,bN k,.agg l.toArray] o λr w=>r= .tuple #[]/\∃c,cg bN c (cj m k (.agg l.toArray))/\C o (av [ay 237 b ah I]) [ay 237 b ah c] w:=by
 refine a2 func152 (bL 2 a j j (λd w a=>?_));have a:=a.drew;refine bt 5 j (λw=>∃c,C o (av [ay 237 b ah I]) ([R d l.toArray 129,ay 237 b ah c]) w) ⟨_,a⟩ (af 0 3 j (bR 3 j (λw⟨_,a⟩=>(im a.f1).cell j) (af 4 1 j (aT 5 j (λw⟨_,a⟩=>c4 j j e a.bz) (aR 6 j (jy hm (im a.f1).f1 j j j j (λc w f a=>?_)))))));have a:C o _ (ay 237 b ah c::_) w:=iP a.f1;have a:=a.f1;refine an ⟨⟨_,a⟩,?_⟩;exact bK (aq 0 j j ⟨j,_,f,a.f1.hR⟩)
theorem IT:gD 3 rn:=⟨rn.cells.toList,j,j,j⟩
theorem Ep{o:World}{p:Option Addr}{m:List (Int×Value)}{k:Int}(hw:∀q∈m,gD 3 q.2)(d:dI 237 o p m):Calls prog 118 #[.pointer p,bN k] o λr w=>r= .tuple #[(aZ m k).getD rn,.bool (aZ m k).isSome]/\C o [] [] w:=by
 have a:Own [] o:=C.start o;obtain⟨l,e,c,f⟩:=gD.get IT hw k;refine eV func118 (b7 2 a j (λi w a=>bm 6 j j (λdB=>?_) (λdB=>?_)))
 .obtain⟨rfl,rfl⟩:=d.jk dB;refine bM 2 j j j a.bz (b6 0 a j j j j j (λw a=>?_));have a:=C.whole (U:=rn.cells.toList) a j;refine bD 1 j ⟨_,dr results118 j j j j a.bz,?_⟩;exact⟨j,a.bare⟩
 obtain⟨b,ah,I,rfl,g,h,hm⟩:=d.jn dB;refine ar 6 j (cell_of (a.cc g) j) (am 1 j (mT hm (a.cc h) j j j j ?_));refine am 2 j (bS 16 (.agg l.toArray) j e ?_);refine b6 1 a j j j f c (λw a=>?_);have a:=C.whole (U:=l) a (by rw [c];rfl);refine bM 3 (U:=l) j j c a.bz (am 1 j (c2 a j j j f c (by simp [c]) (λw a=>?_)));have a:=C.whole (U:=l) a j;refine bD 1 j ⟨_,dr (U:=l) results118 j j j c a.bz,?_⟩;exact⟨by rw [e];rfl,a.bare⟩
abbrev I1:Value:=.pointer none
theorem FZ{o:World}:Calls prog 131 #[] o λr w=>∃b ah,r=ab b/\cg bN (.map #[] 0) []/\C o [] [ay 247 b ah (.map #[] 0)] w:=by
 have a:Own [] o:=C.start o;refine a2 func131 (am 5 j (jx j a j j (λaz w a=>?_)));exact cN (c:= #[.map (some az)]) j j j (λ_=>by kernel_rfl) (bL 0 a j j (λd w a=>aq 1 j j ⟨d,az,j,cg.new,iP (T:=247) a⟩))
theorem HD{o:World}{b ah:Nat}{I:Obj}{m:List (Int×Value)}{k:Int}{v:Value}(a:Own [ay 247 b ah I] o)(hm:cg bN I m):Calls prog 132 #[ab b,bN k,v] o λr w=>r= .tuple #[]/\∃c,cg bN c (cj m k (v))/\C o (av [ay 247 b ah I]) [ay 247 b ah c] w:=by
 refine a2 func132 (ar 9 j ((im a).cell j) (am 2 j (jy hm (im a).f1 j j j j (λc w d a=>?_))));have a:C o _ (ay 247 b ah c::_) w:=iP a.f1;exact aq 0 j j ⟨j,_,d,a.hR⟩
theorem nm{o:World}{p:Option Addr}{m:List (Int×Value)}{k:Int}(c:dI 247 o p m):Calls prog 76 #[.pointer p,bN k] o λr w=>r= .tuple #[(aZ m k).getD I1,.bool (aZ m k).isSome]/\C o [] [] w:=by
 have a:Own [] o:=C.start o;refine a2 func76 (bm 9 j j (λdB=>?_) (λdB=>?_))
 .obtain⟨rfl,rfl⟩:=c.jk dB;exact aq 5 j j ⟨j,a.bare⟩
 obtain⟨b,ah,I,rfl,d,e,hm⟩:=c.jn dB;refine ar 6 j (cell_of (a.cc d) j) (am 1 j (mT hm (a.cc e) j j j j ?_));exact aq 11 j j ⟨j,a.bare⟩
abbrev Bj:Value:=.pointer none
theorem F4{o:World}:Calls prog 72 #[] o λr w=>∃b ah,r=ab b/\cg bN (.map #[] 0) []/\C o [] [ay 240 b ah (.map #[] 0)] w:=by
 have a:Own [] o:=C.start o;refine a2 func72 (am 5 j (jx j a j j (λaz w a=>?_)));exact cN (c:= #[.map (some az)]) j j j (λ_=>by kernel_rfl) (bL 0 a j j (λd w a=>aq 1 j j ⟨d,az,j,cg.new,iP (T:=240) a⟩))
theorem HG{o:World}{b ah:Nat}{I:Obj}{m:List (Int×Value)}{k:Int}{v:Value}(a:Own [ay 240 b ah I] o)(hm:cg bN I m):Calls prog 110 #[ab b,bN k,v] o λr w=>r= .tuple #[]/\∃c,cg bN c (cj m k (v))/\C o (av [ay 240 b ah I]) [ay 240 b ah c] w:=by
 refine a2 func110 (ar 9 j ((im a).cell j) (am 2 j (jy hm (im a).f1 j j j j (λc w d a=>?_))));have a:C o _ (ay 240 b ah c::_) w:=iP a.f1;exact aq 0 j j ⟨j,_,d,a.hR⟩
theorem yv{o:World}{p:Option Addr}{m:List (Int×Value)}{k:Int}(c:dI 240 o p m):Calls prog 106 #[.pointer p,bN k] o λr w=>r= .tuple #[(aZ m k).getD Bj,.bool (aZ m k).isSome]/\C o [] [] w:=by
 have a:Own [] o:=C.start o;refine a2 func106 (bm 9 j j (λdB=>?_) (λdB=>?_))
 .obtain⟨rfl,rfl⟩:=c.jk dB;exact aq 5 j j ⟨j,a.bare⟩
 obtain⟨b,ah,I,rfl,d,e,hm⟩:=c.jn dB;refine ar 6 j (cell_of (a.cc d) j) (am 1 j (mT hm (a.cc e) j j j j ?_));exact aq 11 j j ⟨j,a.bare⟩
theorem Fq{o:World}{p:Option Addr}{m:List (Int×Value)}(c:dI 240 o p m):Calls prog 108 #[.pointer p] o λr w=>r= .int .i64 m.length/\C o [] [] w:=by
 have a:Own [] o:=C.start o;refine a2 func108 (bm 8 j j (λfG=>?_) (λfG=>?_))
 .obtain⟨rfl,rfl⟩:=c.jk fG;exact aq 3 j j ⟨j,a.bare⟩
 obtain⟨b,ah,I,rfl,d,e,hm⟩:=c.jn fG;exact ar 6 j (cell_of (a.cc d) j) (tP hm (a.cc e) j j j j (aq 1 j j ⟨j,a.bare⟩))
theorem uJ{o:World}{b ah:Nat}{I:Obj}{m:List (Int×Value)}{k:Int}(a:Own [ay 240 b ah I] o)(hm:cg bN I m):Calls prog 115 #[ab b,bN k] o λr w=>r= .bool (aZ m k).isSome/\∃c,cg bN c (fY m k)/\C o (av [ay 240 b ah I]) [ay 240 b ah c] w:=by
 refine a2 func115 ?_;have e:=yv (k:=k) (dI.own a hm);refine bp 7 e j (λw aa=>?_);have a:=a.aL aa;refine bm 9 j j (λd=>?_) (λd=>?_)
 .refine ar 4 j ((im a).cell j) (am 1 j (wJ (t:=238) hm (im a).f1 j j j j (λc w f a=>?_)));have a:C o _ (ay 240 b ah c::_) w:=iP a.f1;exact aq 4 j j ⟨j,_,f,a.hR⟩
 exact aq 5 j j ⟨j,_,xW hm d,a.hR⟩
abbrev tC:Value:=.agg #[.int .i64 0,.int .i64 0,.int .i64 0,.int .u8 0,.int .u8 0,.int .u8 0,.int .u8 0,.int .u8 0,.int .u8 0,.int .u8 0,.int .u8 0,.int .u8 0,.int .u8 0,.int .u8 0,.int .u8 0,.int .u8 0,.int .u8 0,.int .u8 0,.int .u8 0,.int .u8 0,.int .u8 0,.int .u8 0,.int .u8 0,.int .u8 0,.int .u8 0,.int .u8 0,.int .u8 0,.int .u8 0,.int .u8 0,.int .u8 0,.int .u8 0,.int .u8 0,.int .u8 0,.int .u8 0,.int .u8 0,.int .i64 0,.int .u8 0,.int .u8 0,.int .u8 0,.int .u8 0,.int .u8 0,.int .u8 0,.int .u8 0,.int .u8 0,.int .u8 0,.int .u8 0,.int .u8 0,.int .u8 0,.int .u8 0,.int .u8 0,.int .u8 0,.int .u8 0,.int .u8 0,.int .u8 0,.int .u8 0,.int .u8 0,.int .u8 0,.int .u8 0,.int .u8 0,.int .u8 0,.int .u8 0,.int .u8 0,.int .u8 0,.int .u8 0,.int .u8 0,.int .u8 0,.int .u8 0,.int .u8 0]
theorem F5{o:World}:Calls prog 109 #[] o λr w=>∃b ah,r=ab b/\cg bN (.map #[] 0) []/\C o [] [ay 277 b ah (.map #[] 0)] w:=by
 have a:Own [] o:=C.start o;refine a2 func109 (am 5 j (jx j a j j (λaz w a=>?_)));exact cN (c:= #[.map (some az)]) j j j (λ_=>by kernel_rfl) (bL 0 a j j (λd w a=>aq 1 j j ⟨d,az,j,cg.new,iP (T:=277) a⟩))
theorem AA{o:World}{b ah:Nat}{I:Obj}{m:List (Int×Value)}{k:Int}{l:List Value}(e:l.length=68)(g:l.all (·.oneCell')=true)(a:Own [ay 277 b ah I] o)(hm:cg bN I m):Calls prog 112 #[ab b,bN k,.agg l.toArray] o λr w=>r= .tuple #[]/\∃c,cg bN c (cj m k (.agg l.toArray))/\C o (av [ay 277 b ah I]) [ay 277 b ah c] w:=by
 refine a2 func112 (bL 2 a j j (λd w a=>?_));have a:=a.drew;refine bt 5 j (λw=>∃c,C o (av [ay 277 b ah I]) ([R d l.toArray 55,ay 277 b ah c]) w) ⟨_,a⟩ (af 0 3 j (bR 3 j (λw⟨_,a⟩=>(im a.f1).cell j) (af 4 1 j (aT 5 j (λw⟨_,a⟩=>c4 j j e a.bz) (aR 6 j (jy hm (im a.f1).f1 j j j j (λc w f a=>?_)))))));have a:C o _ (ay 277 b ah c::_) w:=iP a.f1;have a:=a.f1;refine an ⟨⟨_,a⟩,?_⟩;exact bK (aq 0 j j ⟨j,_,f,a.f1.hR⟩)
theorem wr:gD 68 tC:=⟨tC.cells.toList,j,j,j⟩
theorem yw{o:World}{p:Option Addr}{m:List (Int×Value)}{k:Int}(hw:∀q∈m,gD 68 q.2)(d:dI 277 o p m):Calls prog 111 #[.pointer p,bN k] o λr w=>r= .tuple #[(aZ m k).getD tC,.bool (aZ m k).isSome]/\C o [] [] w:=by
 have a:Own [] o:=C.start o;obtain⟨l,e,c,f⟩:=gD.get wr hw k;refine eV func111 (b7 2 a j (λi w a=>bm 6 j j (λdB=>?_) (λdB=>?_)))
 .obtain⟨rfl,rfl⟩:=d.jk dB;refine bM 2 j j j a.bz (b6 0 a j j j j j (λw a=>?_));have a:=C.whole (U:=tC.cells.toList) a j;refine bD 1 j ⟨_,dr results111 j j j j a.bz,?_⟩;exact⟨j,a.bare⟩
 obtain⟨b,ah,I,rfl,g,h,hm⟩:=d.jn dB;refine ar 6 j (cell_of (a.cc g) j) (am 1 j (mT hm (a.cc h) j j j j ?_));refine am 2 j (bS 16 (.agg l.toArray) j e ?_);refine b6 1 a j j j f c (λw a=>?_);have a:=C.whole (U:=l) a (by rw [c];rfl);refine bM 3 (U:=l) j j c a.bz (am 1 j (c2 a j j j f c (by simp [c]) (λw a=>?_)));have a:=C.whole (U:=l) a j;refine bD 1 j ⟨_,dr (U:=l) results111 j j j c a.bz,?_⟩;exact⟨by rw [e];rfl,a.bare⟩
abbrev tB:Value:=.agg #[.int .i64 0,.int .i64 0,.int .i64 0,.int .i64 0,.int .i64 0,.slice none 0 0,.slice none 0 0,.int .u8 0,.int .u8 0,.int .u8 0,.int .u8 0,.int .u8 0,.int .u8 0,.int .u8 0,.int .u8 0,.int .u8 0,.int .u8 0,.int .u8 0,.int .u8 0,.int .u8 0,.int .u8 0,.int .u8 0,.int .u8 0,.int .u8 0,.int .u8 0,.int .u8 0,.int .u8 0,.int .u8 0,.int .u8 0,.int .u8 0,.int .u8 0,.int .u8 0,.int .u8 0,.int .u8 0,.int .u8 0,.int .u8 0,.int .u8 0,.int .u8 0,.int .u8 0]
theorem vD{o:World}:Calls prog 129 #[] o λr w=>∃b ah,r=ab b/\cg bN (.map #[] 0) []/\C o [] [ay 296 b ah (.map #[] 0)] w:=by
 have a:Own [] o:=C.start o;refine a2 func129 (am 5 j (jx j a j j (λaz w a=>?_)));exact cN (c:= #[.map (some az)]) j j j (λ_=>by kernel_rfl) (bL 0 a j j (λd w a=>aq 1 j j ⟨d,az,j,cg.new,iP (T:=296) a⟩))
theorem we{o:World}{b ah:Nat}{I:Obj}{m:List (Int×Value)}{k:Int}{l:List Value}(e:l.length=39)(g:l.all (·.oneCell')=true)(a:Own [ay 296 b ah I] o)(hm:cg bN I m):Calls prog 149 #[ab b,bN k,.agg l.toArray] o λr w=>r= .tuple #[]/\∃c,cg bN c (cj m k (.agg l.toArray))/\C o (av [ay 296 b ah I]) [ay 296 b ah c] w:=by
 refine a2 func149 (bL 2 a j j (λd w a=>?_));have a:=a.drew;refine bt 5 j (λw=>∃c,C o (av [ay 296 b ah I]) ([R d l.toArray 53,ay 296 b ah c]) w) ⟨_,a⟩ (af 0 3 j (bR 3 j (λw⟨_,a⟩=>(im a.f1).cell j) (af 4 1 j (aT 5 j (λw⟨_,a⟩=>c4 j j e a.bz) (aR 6 j (jy hm (im a.f1).f1 j j j j (λc w f a=>?_)))))));have a:C o _ (ay 296 b ah c::_) w:=iP a.f1;have a:=a.f1;refine an ⟨⟨_,a⟩,?_⟩;exact bK (aq 0 j j ⟨j,_,f,a.f1.hR⟩)
theorem pC:gD 39 tB:=⟨tB.cells.toList,j,j,j⟩
theorem n1{o:World}{p:Option Addr}{m:List (Int×Value)}{k:Int}(hw:∀q∈m,gD 39 q.2)(d:dI 296 o p m):Calls prog 239 #[.pointer p,bN k] o λr w=>r= .tuple #[(aZ m k).getD tB,.bool (aZ m k).isSome]/\C o [] [] w:=by
 have a:Own [] o:=C.start o;obtain⟨l,e,c,f⟩:=gD.get pC hw k;refine eV func239 (b7 2 a j (λi w a=>bm 6 j j (λdB=>?_) (λdB=>?_)))
 .obtain⟨rfl,rfl⟩:=d.jk dB;refine bM 2 j j j a.bz (b6 0 a j j j j j (λw a=>?_));have a:=C.whole (U:=tB.cells.toList) a j;refine bD 1 j ⟨_,dr results239 j j j j a.bz,?_⟩;exact⟨j,a.bare⟩
 obtain⟨b,ah,I,rfl,g,h,hm⟩:=d.jn dB;refine ar 6 j (cell_of (a.cc g) j) (am 1 j (mT hm (a.cc h) j j j j ?_));refine am 2 j (bS 16 (.agg l.toArray) j e ?_);refine b6 1 a j j j f c (λw a=>?_);have a:=C.whole (U:=l) a (by rw [c];rfl);refine bM 3 (U:=l) j j c a.bz (am 1 j (c2 a j j j f c (by simp [c]) (λw a=>?_)));have a:=C.whole (U:=l) a j;refine bD 1 j ⟨_,dr (U:=l) results239 j j j c a.bz,?_⟩;exact⟨by rw [e];rfl,a.bare⟩
theorem yX{o:World}{p:Option Addr}{m:List (Int×Value)}(c:dI 296 o p m):Calls prog 148 #[.pointer p] o λr w=>r= .int .i64 m.length/\C o [] [] w:=by
 have a:Own [] o:=C.start o;refine a2 func148 (bm 8 j j (λfG=>?_) (λfG=>?_))
 .obtain⟨rfl,rfl⟩:=c.jk fG;exact aq 3 j j ⟨j,a.bare⟩
 obtain⟨b,ah,I,rfl,d,e,hm⟩:=c.jn fG;exact ar 6 j (cell_of (a.cc d) j) (tP hm (a.cc e) j j j j (aq 1 j j ⟨j,a.bare⟩))
theorem DO{o:World}{b ah:Nat}{I:Obj}{m:List (Int×Value)}{k:Int}(hw:∀q∈m,gD 39 q.2)(a:Own [ay 296 b ah I] o)(hm:cg bN I m):Calls prog 238 #[ab b,bN k] o λr w=>r= .bool (aZ m k).isSome/\∃c,cg bN c (fY m k)/\C o (av [ay 296 b ah I]) [ay 296 b ah c] w:=by
 obtain⟨l,f,g,h⟩:=gD.get pC hw k;refine a2 func238 ?_;have e:=n1 (k:=k) hw (dI.own a hm);refine bp 7 e j (λw aa=>?_);have a:=a.aL aa;refine am 2 j (bS 11 (.agg l.toArray) j f ?_);refine b7 1 a j (λn w a=>b6 0 a j j j h g (λw a=>bm 5 j j (λd=>?_) (λd=>?_)))
 .have a:=a.f1;refine ar 4 j ((im a).cell j) (am 1 j (wJ (t:=294) hm (im a).f1 j j j j (λc w i a=>?_)));have a:C o _ (ay 296 b ah c::_) w:=iP a.f1;exact aq 4 j j ⟨j,_,i,a.hR⟩
 exact aq 5 j j ⟨j,_,xW hm d,(a.f1).hR⟩
abbrev wu:Value:=.pointer none
theorem F3{o:World}:Calls prog 173 #[] o λr w=>∃b ah,r=ab b/\cg bN (.map #[] 0) []/\C o [] [ay 333 b ah (.map #[] 0)] w:=by
 have a:Own [] o:=C.start o;refine a2 func173 (am 5 j (jx j a j j (λaz w a=>?_)));exact cN (c:= #[.map (some az)]) j j j (λ_=>by kernel_rfl) (bL 0 a j j (λd w a=>aq 1 j j ⟨d,az,j,cg.new,iP (T:=333) a⟩))
theorem HF{o:World}{b ah:Nat}{I:Obj}{m:List (Int×Value)}{k:Int}{v:Value}(a:Own [ay 333 b ah I] o)(hm:cg bN I m):Calls prog 244 #[ab b,bN k,v] o λr w=>r= .tuple #[]/\∃c,cg bN c (cj m k (v))/\C o (av [ay 333 b ah I]) [ay 333 b ah c] w:=by
 refine a2 func244 (ar 9 j ((im a).cell j) (am 2 j (jy hm (im a).f1 j j j j (λc w d a=>?_))));have a:C o _ (ay 333 b ah c::_) w:=iP a.f1;exact aq 0 j j ⟨j,_,d,a.hR⟩
theorem yu{o:World}{p:Option Addr}{m:List (Int×Value)}{k:Int}(c:dI 333 o p m):Calls prog 243 #[.pointer p,bN k] o λr w=>r= .tuple #[(aZ m k).getD wu,.bool (aZ m k).isSome]/\C o [] [] w:=by
 have a:Own [] o:=C.start o;refine a2 func243 (bm 9 j j (λdB=>?_) (λdB=>?_))
 .obtain⟨rfl,rfl⟩:=c.jk dB;exact aq 5 j j ⟨j,a.bare⟩
 obtain⟨b,ah,I,rfl,d,e,hm⟩:=c.jn dB;refine ar 6 j (cell_of (a.cc d) j) (am 1 j (mT hm (a.cc e) j j j j ?_));exact aq 11 j j ⟨j,a.bare⟩
abbrev tA:Value:=.pointer none
theorem zs{o:World}:Calls prog 174 #[] o λr w=>∃b ah,r=ab b/\cg bN (.map #[] 0) []/\C o [] [ay 336 b ah (.map #[] 0)] w:=by
 have a:Own [] o:=C.start o;refine a2 func174 (am 5 j (jx j a j j (λaz w a=>?_)));exact cN (c:= #[.map (some az)]) j j j (λ_=>by kernel_rfl) (bL 0 a j j (λd w a=>aq 1 j j ⟨d,az,j,cg.new,iP (T:=336) a⟩))
theorem Hz{o:World}{b ah:Nat}{I:Obj}{m:List (Int×Value)}{k:Int}{v:Value}(a:Own [ay 336 b ah I] o)(hm:cg bN I m):Calls prog 276 #[ab b,bN k,v] o λr w=>r= .tuple #[]/\∃c,cg bN c (cj m k (v))/\C o (av [ay 336 b ah I]) [ay 336 b ah c] w:=by
 refine a2 func276 (ar 9 j ((im a).cell j) (am 2 j (jy hm (im a).f1 j j j j (λc w d a=>?_))));have a:C o _ (ay 336 b ah c::_) w:=iP a.f1;exact aq 0 j j ⟨j,_,d,a.hR⟩
theorem En{o:World}{p:Option Addr}{m:List (Int×Value)}{k:Int}(c:dI 336 o p m):Calls prog 303 #[.pointer p,bN k] o λr w=>r= .tuple #[(aZ m k).getD tA,.bool (aZ m k).isSome]/\C o [] [] w:=by
 have a:Own [] o:=C.start o;refine a2 func303 (bm 9 j j (λdB=>?_) (λdB=>?_))
 .obtain⟨rfl,rfl⟩:=c.jk dB;exact aq 5 j j ⟨j,a.bare⟩
 obtain⟨b,ah,I,rfl,d,e,hm⟩:=c.jn dB;refine ar 6 j (cell_of (a.cc d) j) (am 1 j (mT hm (a.cc e) j j j j ?_));exact aq 11 j j ⟨j,a.bare⟩
abbrev I0:Value:=.pointer none
theorem FY{o:World}:Calls prog 130 #[] o λr w=>∃b ah,r=ab b/\cg bN (.map #[] 0) []/\C o [] [ay 299 b ah (.map #[] 0)] w:=by
 have a:Own [] o:=C.start o;refine a2 func130 (am 5 j (jx j a j j (λaz w a=>?_)));exact cN (c:= #[.map (some az)]) j j j (λ_=>by kernel_rfl) (bL 0 a j j (λd w a=>aq 1 j j ⟨d,az,j,cg.new,iP (T:=299) a⟩))
theorem HC{o:World}{b ah:Nat}{I:Obj}{m:List (Int×Value)}{k:Int}{v:Value}(a:Own [ay 299 b ah I] o)(hm:cg bN I m):Calls prog 285 #[ab b,bN k,v] o λr w=>r= .tuple #[]/\∃c,cg bN c (cj m k (v))/\C o (av [ay 299 b ah I]) [ay 299 b ah c] w:=by
 refine a2 func285 (ar 9 j ((im a).cell j) (am 2 j (jy hm (im a).f1 j j j j (λc w d a=>?_))));have a:C o _ (ay 299 b ah c::_) w:=iP a.f1;exact aq 0 j j ⟨j,_,d,a.hR⟩
theorem Eo{o:World}{p:Option Addr}{m:List (Int×Value)}{k:Int}(c:dI 299 o p m):Calls prog 253 #[.pointer p,bN k] o λr w=>r= .tuple #[(aZ m k).getD I0,.bool (aZ m k).isSome]/\C o [] [] w:=by
 have a:Own [] o:=C.start o;refine a2 func253 (bm 9 j j (λdB=>?_) (λdB=>?_))
 .obtain⟨rfl,rfl⟩:=c.jk dB;exact aq 5 j j ⟨j,a.bare⟩
 obtain⟨b,ah,I,rfl,d,e,hm⟩:=c.jn dB;refine ar 6 j (cell_of (a.cc d) j) (am 1 j (mT hm (a.cc e) j j j j ?_));exact aq 11 j j ⟨j,a.bare⟩
theorem yY{o:World}{p:Option Addr}{m:List (Int×Value)}(c:dI 299 o p m):Calls prog 312 #[.pointer p] o λr w=>r= .int .i64 m.length/\C o [] [] w:=by
 have a:Own [] o:=C.start o;refine a2 func312 (bm 8 j j (λfG=>?_) (λfG=>?_))
 .obtain⟨rfl,rfl⟩:=c.jk fG;exact aq 3 j j ⟨j,a.bare⟩
 obtain⟨b,ah,I,rfl,d,e,hm⟩:=c.jn fG;exact ar 6 j (cell_of (a.cc d) j) (tP hm (a.cc e) j j j j (aq 1 j j ⟨j,a.bare⟩))
end Go.Proofs.YtngjfjhomikplaaGreatDoor.R
