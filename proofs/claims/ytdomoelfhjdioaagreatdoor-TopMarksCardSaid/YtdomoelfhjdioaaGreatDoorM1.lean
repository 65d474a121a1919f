/- Part 1 of the proof. -/
import Derived.Test.YtdomoelfhjdioaaGreatDoorM0
set_option linter.unusedVariables false
set_option linter.unusedSimpArgs false
set_option linter.unusedSectionVars false
set_option maxRecDepth 20000
set_option maxHeartbeats 4000000
namespace Go.Proofs.YtdomoelfhjdioaaGreatDoor.R
open Go.Proofs.Tryz Go Go.RowKit
inductive K where
 |base (Q:d6)
 |s (c:Code) (k:K)
 |b (id:Nat) (k:K)
 |l (N:Env->World->Prop) (k:K)
abbrev FM(N:Env->World->Prop)(Q:d6):d6:=λe Z w=>match e with
 | .normal=>N Z w
 |e=>Q e Z w
def den(P:Program)(F:Fr):K->d6
 | .base Q=>Q
 | .s y k=>AR P F y (den P F k)
 | .b i k=>vh i (den P F k)
 | .l N k=>FM N (den P F k)
structure im where
 ops:Array Oper
 todo:List Oper
 k:K
 Z:Env
abbrev G(P:Program)(F:Fr)(c:im)(w:World):Prop:=O P F c.ops c.todo c.Z w (den P F c.k)
def ol:K->K
 | .b _ k=>ol k
 |k=>k
def ln(i:Nat):K->Option K
 | .s _ k=>ln i k
 | .l _ k=>ln i k
 | .b id k=>match Nat.beq i id with
  |true=>some k
  |false=>ln i k
 | .base _=>none
def bot:K->d6
 | .base Q=>Q
 | .s _ k=>bot k
 | .l _ k=>bot k
 | .b _ k=>bot k
def iI(P:Program)[fp P](F:Fr):im->Option im
 |⟨ops,I::r,k,Z⟩=>match py P F ops Z I with
  |some di=>some ⟨ops,r,k,di⟩
  |none=>none
 |⟨_,[],k,Z⟩=>match ol k with
  | .s (.seq a b) k=>some ⟨#[],[],.s a (.s b k),Z⟩
  | .s (.block i a) k=>some ⟨#[],[],.s a (.b i k),Z⟩
  | .s .skip k=>some ⟨#[],[],k,Z⟩
  | .s (.exit i) k=>match ln i k with
   |some k=>some ⟨#[],[],k,Z⟩
   |none=>none
  | .s (.region _ l false) k=>some ⟨l,l.toList,k,Z⟩
  | .s (.cond x a b) k=>match bs Z x with
   |some (.bool true)=>some ⟨#[],[],.s a k,Z⟩
   |some (.bool false)=>some ⟨#[],[],.s b k,Z⟩
   |_=>none
  |_=>none
def run(P:Program)[fp P](F:Fr):Nat->im->Option im
 |0,c=>some c
 |n+1,c=>match iI P F c with
  |some c=>run P F n c
  |none=>none
section
variable {P:Program} {n:Fr} {Z di:Env} {w:World} {Q:d6} {ops hH:Array Oper} {todo hW:List Oper} {k db:K}
theorem sw{Q hN:d6}{e hq:Exit}{a:Act}{o:World}(h:∀Z,Q e Z w->hN hq Z w)(b:lift n o Q e a w):lift n o hN hq a w:=
 let⟨k,m,Z,d,c⟩:=b
 ⟨k,m,Z,d,h Z c⟩
theorem jl{c:Code}(h:O P n ops [] Z w (den P n (.s c k))):W P n c Z w (den P n k):=λa b hm=>
 let⟨_,m,_,d,hw⟩:=h a b hm
 hw a d m
theorem Iy{c:Code}(h:W P n c Z w (den P n k)):O P n ops [] Z w (den P n (.s c k)):=ar h
theorem BZ{Q hN:d6}(c:∀Z,Q .normal Z w->hN .normal Z w)(h:O P n hH [] Z w Q):O P n ops [] Z w hN:=λa b hm=>sw c (h a b hm)
theorem sP:∀(k:K){Z:Env}{w:World},den P n (ol k) .normal Z w->den P n k .normal Z w
 | .b _ k,_,_,h=>sP k h
 | .base _,_,_,h=>h
 | .s _ _,_,_,h=>h
 | .l _ _,_,_,h=>h
theorem rb{i:Nat}:∀(k:K){db:K},ln i k=some db->∀{Z:Env}{w:World},den P n db .normal Z w->den P n k (.exit i) Z w
 | .s _ k,_,h,_,_,aa=>rb k h aa
 | .l _ k,_,h,_,_,aa=>rb k h aa
 | .b id k,db,h,Z,w,aa=>by
  show(match Nat.beq i id with|true=>den P n k .normal Z w|false=>den P n k (.exit i) Z w);simp only [ln] at h;split at h
  .cases h;exact aa
  .exact rb k h aa
 | .base _,_,h,_,_,_=>by cases h
theorem qj:∀(k:K){Z:Env}{w:World},bot k .ret Z w->den P n k .ret Z w
 | .s _ k,_,_,h=>qj k h
 | .l _ k,_,_,h=>qj k h
 | .b _ k,_,_,h=>qj k h
 | .base _,_,_,h=>h
theorem sM{i:Nat}:∀(k:K),ln i k=none->∀{Z:Env}{w:World},bot k (.exit i) Z w->den P n k (.exit i) Z w
 | .s _ k,h,_,_,aa=>sM k h aa
 | .l _ k,h,_,_,aa=>sM k h aa
 | .b id k,h,Z,w,aa=>by
  show(match Nat.beq i id with|true=>den P n k .normal Z w|false=>den P n k (.exit i) Z w);simp only [ln] at h;split at h
  .cases h
  .exact sM k h aa
 | .base _,_,_,_,h=>h
theorem lD{c:Code}{a:K}(b:ol k= .s c a)(h:W P n c Z w (den P n a)):O P n ops [] Z w (den P n k):=
 BZ (λ_ d=>sP k (by rw [b];exact d)) (Iy (ops:= #[]) h)
variable [fp P]
theorem F2{c g:im}(h:iI P n c=some g)(d:G P n g w):G P n c w:=by
 obtain⟨ops,todo,k,Z⟩:=c;cases todo with
 |cons I r=>
  simp only [iI] at h;split at h
  .rename_i s1 aL;cases h;exact HY aL d
  .cases h
 |nil=>
  simp only [iI] at h;split at h
  .rename_i b;cases h;exact lD b (wS (jl d))
  .rename_i b;cases h;exact lD b (B3 (jl d))
  .rename_i b;cases h;exact lD b (λa e hm=>wpIn_skip (d a e hm))
  .rename_i b;split at h
   .rename_i hu;cases h;exact lD b (λa e hm=>wpIn_exit (sw (λ_ i=>rb _ hu i) (d a e hm)))
   .cases h
  .rename_i id l m b;cases h;have:=B9 (id:=id) (l:=l.toList) (P:=P) (n:=n) (Z:=Z) (w:=w) (Q:=den P n m) (by simpa [G] using d);exact lD b (by simpa using this)
  .rename_i b;split at h
   .rename_i f;cases h;exact lD b (wQ f j (jl d))
   .rename_i f;cases h;exact lD b (wP f j (jl d))
   .cases h
  .cases h
theorem nA:∀(m:Nat){c a:im},run P n m c=some a->G P n a w->G P n c w
 |0,_,_,h,b=>by cases h;exact b
 |m+1,c,a,h,b=>by
  simp only [run] at h;split at h
  .rename_i hm;exact F2 hm (nA m h b)
  .cases h
theorem aq(m:Nat)(h:run P n m ⟨ops,todo,k,Z⟩=some ⟨hH,hW,db,di⟩)(aa:O P n hH hW di w (den P n db)):O P n ops todo Z w (den P n k):=nA m h aa
def next(P:Program)[fp P](F:Fr)(m:Nat)(c:im):Option (Code×K×Env):=match run P F m c with
 |some ⟨_,[],k,Z⟩=>match ol k with
  | .s c k=>some (c,k,Z)
  |_=>none
 |_=>none
theorem ku{m:Nat}{c:im}{x:Code}(h:next P n m c=some (x,k,Z))(a:W P n x Z w (den P n k)):G P n c w:=by
 unfold next at h;split at h
 .rename_i d;split at h
  .rename_i b;cases h;exact nA m d (lD b a)
  .cases h
 .cases h
theorem bm(m:Nat){x y:Code}{c:Operand}{b:Bool}(h:next P n m ⟨ops,todo,k,Z⟩=some (.cond c x y,db,di))(a:bs di c=some (.bool b))
 (d:b=true->O P n #[] [] di w (den P n (.s x db))) (br:b=false->O P n #[] [] di w (den P n (.s y db))):O P n ops todo Z w (den P n k):=
 ku h (tQ a (λe=>jl (d e)) (λe=>jl (br e)))
theorem mo(m:Nat){x y:Code}{c:Operand}{b:Bool}(h:next P n m ⟨ops,todo,k,Z⟩=some (.cond c x y,db,di))(d:bs di c=some (.bool b))(a:b=true)
 (e:O P n #[] [] di w (den P n (.s x db))):O P n ops todo Z w (den P n k):=ku h (wQ d a (jl e))
theorem i0(m:Nat){x y:Code}{c:Operand}{b:Bool}(h:next P n m ⟨ops,todo,k,Z⟩=some (.cond c x y,db,di))(d:bs di c=some (.bool b))(a:b=false)
 (br:O P n #[] [] di w (den P n (.s y db))):O P n ops todo Z w (den P n k):=ku h (wP d a (jl br))
theorem cm(m:Nat){x y:Code}{c:Operand}{p:Prop}[Decidable p](h:next P n m ⟨ops,todo,k,Z⟩=some (.cond c x y,db,di))(a:bs di c=some (.bool (decide p)))
 (b:p->O P n #[] [] di w (den P n (.s x db))) (br:¬p->O P n #[] [] di w (den P n (.s y db))):O P n ops todo Z w (den P n k):=bm m h a (λe=>b (dj e)) (λe=>br (dN e))
theorem cH(m:Nat){ct:Type}{c:Code}(h:next P n m ⟨ops,todo,k,Z⟩=some (.loop c,db,di))(S:ct->Env)(a:ct->World->Prop)(b:ct->Nat)(i:ct)(aL:sub di (S i))(d:a i w)
 (round:∀i w,a i w->O P n #[] [] (S i) w (den P n (.s c (.l (λZ w=>∃J,sub Z (S J)/\a J w/\b J<b i) db)))):O P n ops todo Z w (den P n k):=
 ku h (B7 S a b i aL d λi w e=>jl (k:=.l _ _) (round i w e))
theorem mn [rm P](m:Nat){id:Nat}{os:Array Oper}(h:next P n m ⟨ops,todo,k,Z⟩=some (.region id os true,db,di))(bb:World->Prop)
 (a:eN P n os bb os.size (Array.replicate os.size false) di w.drew (h2 (den P n db))):O P n ops todo Z w (den P n k):=ku h (B5 bb a)
theorem mm(m:Nat){x y:Code}(h:next P n m ⟨ops,todo,k,Z⟩=some (.seq x y,db,di))(M:Env->World->Prop)
 (a:O P n #[] [] di w (den P n (.s x (.l M db)))) (b:∀Z w,M Z w->O P n #[] [] Z w (den P n (.s y db))):O P n ops todo Z w (den P n k):=
 ku h (B4 M (jl (k:=.l _ _) a) λZ w hm=>jl (b Z w hm))
def xi(P:Program)[fp P](F:Fr)(m:Nat)(c:im):Option ((Env->World->Prop)×Env):=match run P F m c with
 |some ⟨_,[],k,Z⟩=>match ol k with
  | .l N _=>some (N,Z)
  |_=>none
 |_=>none
theorem bP(m:Nat){N:Env->World->Prop}(h:xi P n m ⟨ops,todo,k,Z⟩=some (N,di))(aJ:N di w):O P n ops todo Z w (den P n k):=by
 unfold xi at h;split at h
 .rename_i b;split at h
  .rename_i a;cases h;exact nA m b (ar (sP _ (by rw [a];exact aJ)))
  .cases h
 .cases h
def up(P:Program)[fp P](F:Fr)(m:Nat)(c:im):Option (Exit×d6×Env):=match run P F m c with
 |some ⟨_,[],k,Z⟩=>match ol k with
  | .base Q=>some (.normal,Q,Z)
  | .s .ret k=>some (.ret,bot k,Z)
  | .s (.exit i) k=>match ln i k with
   |none=>some (.exit i,bot k,Z)
   |some _=>none
  |_=>none
 |_=>none
theorem bI(m:Nat){e:Exit}(h:up P n m ⟨ops,todo,k,Z⟩=some (e,Q,di))(b:Q e di w):O P n ops todo Z w (den P n k):=by
 unfold up at h;split at h
 .rename_i c;split at h
  .rename_i a;cases h;exact nA m c (ar (sP _ (by rw [a];exact b)))
  .rename_i a;cases h;exact nA m c (lD a (Ca (qj _ b)))
  .rename_i a;split at h
   .rename_i hu;cases h;exact nA m c (lD a (B6 (sM _ hu b)))
   .cases h
  .cases h
 .cases h
theorem ao(m:Nat){e:Exit}{rs:Array ResultVar}{ag:Value->World->Prop}{v:Value}(h:up P n m ⟨ops,todo,k,Z⟩=some (e,Leaves rs ag,di))(b:qV di rs=some v)(a:ag v w)
 (he:(match e with| .normal| .ret=>true|_=>false)=true:=by rfl):O P n ops todo Z w (den P n k):=
 bI m h (by cases e<;>first|exact⟨v,b,a⟩|cases he)
theorem wd{m:Nat}{c:im}{I:Oper}{r:List Oper}(h:run P n m c=some ⟨ops,I::r,k,Z⟩)(a:O P n ops (I::r) Z w (den P n k)):G P n c w:=nA m h a
def xh(P:Program)[fp P](F:Fr)(m:Nat)(c:im):Option (Addr×Option Nat×im):=match run P F m c with
 |some ⟨ops,⟨dst,.load t x,_,_,_,g⟩::r,k,Z⟩=>match fp.one P t with
  |true=>match cW ops Z g with
   |some true=>match da F dst with
    |true=>match bs Z x with
     |some (.pointer (some A))=>some (A,dst,⟨ops,r,k,Z⟩)
     |_=>none
    |false=>none
   |_=>none
  |false=>none
 |_=>none
theorem al(m:Nat){A:Addr}{dst:Option Nat}{v:Value}(h:xh P n m ⟨ops,todo,k,Z⟩=some (A,dst,⟨hH,hW,db,di⟩))(g:w.cell? A=some v)
 (aa:O P n hH hW (cE di dst v) w (den P n db)):O P n ops todo Z w (den P n k):=by
 unfold xh at h;split at h
 .rename_i j;split at h
  .rename_i a;split at h
   .rename_i b;split at h
    .rename_i c;split at h
     .rename_i e;cases h;obtain⟨d,i,f⟩:=fp.vQ _ a;have:bB P _ d:=⟨i⟩;exact wd j (oB b c e f g aa)
     .cases h
    .cases h
   .cases h
  .cases h
 .cases h
def un(P:Program)[fp P](F:Fr)(m:Nat)(c:im):Option (FuncId×List Value×Option Nat×im):=match run P F m c with
 |some ⟨ops,⟨dst,.call ⟨.value (.func f),args,_⟩,_,_,_,g⟩::r,k,Z⟩=>match cW ops Z g with
  |some true=>match da F dst with
   |true=>match fp.qp P f with
    |true=>match fr Z args.toList with
     |some U=>some (f,U,dst,⟨ops,r,k,Z⟩)
     |_=>none
    |false=>none
   |false=>none
  |_=>none
 |_=>none
theorem bh(m:Nat){f:FuncId}{dst:Option Nat}{U:List Value}{ag:Value->World->Prop}(e:Calls P f U.toArray w ag)(h:un P n m ⟨ops,todo,k,Z⟩=some (f,U,dst,⟨hH,hW,db,di⟩))
 (aa:∀v aK,ag v aK->O P n hH hW (cE di dst v) aK (den P n db)):O P n ops todo Z w (den P n k):=by
 unfold un at h;split at h
 .rename_i g;split at h
  .rename_i b;split at h
   .rename_i c;split at h
    .rename_i a;split at h
     .rename_i d;cases h;have:=fp.uQ _ a;exact wd g (wF b c d e aa)
     .cases h
    .cases h
   .cases h
  .cases h
 .cases h
def nd(P:Program)[fp P](F:Fr)(m:Nat)(c:im):Option (Op×Option Nat×im):=match run P F m c with
 |some ⟨ops,⟨dst,I,_,_,_,g⟩::r,k,Z⟩=>match cW ops Z g with
  |some true=>match da F dst with
   |true=>some (I,dst,⟨ops,r,k,Z⟩)
   |false=>none
  |_=>none
 |_=>none
theorem o1{m:Nat}{c:im}{I:Op}{dst:Option Nat}(h:nd P n m c=some (I,dst,⟨ops,todo,k,Z⟩))(aa:∀ty pos after g,cW ops Z g=some true->da n dst=true->O P n ops (⟨dst,I,ty,pos,after,g⟩::todo) Z w (den P n k)):G P n c w:=by
 unfold nd at h;split at h
 .rename_i d;split at h
  .rename_i a;split at h
   .rename_i b;cases h;exact wd d (aa _ _ _ _ a b)
   .cases h
  .cases h
 .cases h
variable {o:World} {F:List Nat} {ae:List (List Chunk)} {dst:Option Nat} {v:Value}
theorem bM(m:Nat){t:TypeId}{x:Operand}(a:C o F ae w)(h:nd P n m ⟨ops,todo,k,Z⟩=some (.box t x,dst,⟨hH,hW,db,di⟩))(e:bs di x=some v)
 (aa:∀b aK,C o F ([(b,.cells v.cells t (0,0))]::ae) aK->O P n hH hW (cE di dst (.pointer (some ⟨b,0,none⟩))) aK (den P n db)):O P n ops todo Z w (den P n k):=
 o1 h λ_ _ _ _ d c=>lr a d c e aa
theorem cl(m:Nat){t:TypeId}{z:Value}{size bytes:Nat}[e:cn P t z size bytes](a:C o F ae w)(h:nd P n m ⟨ops,todo,k,Z⟩=some (.alloc t,dst,⟨hH,hW,db,di⟩))
 (aa:∀b aK,C o F ([(b,.cells z.cells t (0,0))]::ae) aK->O P n hH hW (cE di dst (.pointer (some ⟨b,0,none⟩))) aK (den P n db)):O P n ops todo Z w (den P n k):=
 o1 h λ_ _ _ _ d c=>ex a d c aa
theorem dB(m:Nat){t:TypeId}{x y:Operand}{z:Value}{bytes:Nat}{b off:Nat}{c:Array Value}{e:TypeId}[l:cn P t z 1 bytes](a:C o F ([(b,.cells c e (0,0))]::ae) w)
 (h:nd P n m ⟨ops,todo,k,Z⟩=some (.store t x y,none,⟨hH,hW,db,di⟩)) (i:bs di x=some (.pointer (some ⟨b,off,none⟩))) (j:bs di y=some v) (g:v.oneCell'=true)
 (aa:∀aK,C o F ([(b,.cells (c.setIfInBounds off v) e (0,0))]::ae) aK->O P n hH hW di aK (den P n db)) (d:Nat.ble (off+1) c.size=true:=by rfl):O P n ops todo Z w (den P n k):=
 o1 h λ_ _ _ _ f _=>cC a f i j g (oM d) aa
theorem ck(m:Nat){t:TypeId}{x y:Operand}{z:Value}{size bytes:Nat}{b off:Nat}{c:Array Value}{e:TypeId}{U:Array Value}[p:cn P t z size bytes](a:C o F ([(b,.cells c e (0,0))]::ae) w)
 (h:nd P n m ⟨ops,todo,k,Z⟩=some (.store t x y,none,⟨hH,hW,db,di⟩)) (j:bs di x=some (.pointer (some ⟨b,off,none⟩))) (l:bs di y=some (.agg U)) (i:U.toList.all (·.oneCell')=true) (g:U.size=size)
 (aa:∀aK,C o F ([(b,.cells (setCells c off U.toList) e (0,0))]::ae) aK->O P n hH hW di aK (den P n db)) (d:Nat.ble (off+size) c.size=true:=by rfl):O P n ops todo Z w (den P n k):=
 o1 h λ_ _ _ _ f _=>c4 a f j l i g (oM d) aa
theorem bN(m:Nat){t:TypeId}{d:TypeDesc}{x:Operand}{A:Addr}{U:List Value}{z:Value}{size bytes:Nat}[hu:bB P t d][i:cn P t z size bytes]
 (h:nd P n m ⟨ops,todo,k,Z⟩=some (.load t x,dst,⟨hH,hW,db,di⟩)) (g:bs di x=some (.pointer (some A))) (f:U.length=size) (b:Rd w (some A) U)
 (aa:O P n hH hW (cE di dst (.agg U.toArray)) w (den P n db)) (a:ia d=true:=by rfl):O P n ops todo Z w (den P n k):=
 o1 h λ_ _ _ _ e c=>l3 e c g a f b aa
theorem bq(m:Nat){op:BinOp}{t f:TypeId}{x y:Operand}{cv:IntKind}{i J:Int}(h:nd P n m ⟨ops,todo,k,Z⟩=some (.binOp op t x y f,dst,⟨hH,hW,db,di⟩))(d:bs di x=some (.int cv i))(e:bs di y=some (.int cv J))(c:evalBin op cv i J=some v)
 (aa:O P n hH hW (cE di dst v) w (den P n db)):O P n ops todo Z w (den P n k):=
 o1 h λ_ _ _ _ b a=>BQ b a d e c aa
theorem cN{Q:d6}{rest:List Oper}{ty:TypeId}{pos:String}{after:Array Edge}{g:Option (Nat×Bool)}{f:FuncId}{e:Array TypeId}{args:Array Operand}{U:List Value}{ag:Value->World->Prop}(c:cW ops Z g=some true)(b:da n dst=true)
 (d:fr Z args.toList=some U) (a:Calls P f U.toArray w ag)
 (h:∀v aK,ag v aK->O P n ops rest (cE Z dst v) aK Q) (he:fp.qp P f=true:=by rfl):O P n ops (⟨dst,.call ⟨.value (.func f),args,e⟩,ty,pos,after,g⟩::rest) Z w Q:=
 have:=fp.uQ _ he
 wF c b d a h
end
theorem g2{P:Program}{f:FuncId}{fn:Func}{c:Code}(l:List Value){w:World}{ag:Value->World->Prop}{n:Nat}{rs:Array ResultVar}
 (br:P.funcs[f]? =some fn) (aJ:fn.ntmps=n) (d:fn.results=rs)
 (h:O P {n:=n} #[] [] (jJ 0 l) w (den P {n:=n} (.s c (.base (Leaves rs ag))))) (a:fn.body=some c:=by rfl) (b:Nat.ble l.length n=true:=by rfl):Calls P f l.toArray w (nQ ag):=Dj l br aJ d (jl (k:=.base _) h) a b
theorem Di{P:Program}{f:FuncId}{fn:Func}{c:Code}(l:List Value){w:World}{ag:Value->World->Prop}{n:Nat}
 (br:P.funcs[f]? =some fn) (aJ:fn.ntmps=n)
 (h:O P {n:=n} #[] [] (jJ 0 l) w (den P {n:=n} (.s c (.base (tF P n fn ag))))) (a:fn.body=some c:=by rfl) (b:Nat.ble l.length n=true:=by rfl):Calls P f l.toArray w (nQ ag):=
 Dl br a aJ (oM b) (jl (k:=.base _) h)
theorem o5{P:Program}{f:FuncId}{fn:Func}{c:Code}(l:List Value){w:World}{ag:Value->World->Prop}{n:Nat}
 (br:P.funcs[f]? =some fn) (aJ:fn.ntmps=n)
 (h:O P {n:=n,m:=true,b:=w.heap.size} #[] [] (jJ 0 l) w (den P {n:=n,m:=true,b:=w.heap.size} (.s c (.base (tG P n fn w.heap.size ag))))) (a:fn.body=some c:=by rfl) (d:Nat.ble l.length n=true:=by rfl):Calls P f l.toArray w ag:=
 Dm br a aJ (oM d) (jl (k:=.base _) h)
theorem a2{P:Program}{f:FuncId}{fn:Func}{c:Code}{l:List Value}{w:World}{ag:Value->World->Prop}(br:P.funcs[f]? =some fn)
 (h:O P {n:=fn.ntmps} #[] [] (jJ 0 l) w (den P {n:=fn.ntmps} (.s c (.base (Leaves fn.results ag))))) (a:fn.body=some c:=by rfl) (b:Nat.ble l.length fn.ntmps=true:=by rfl):Calls P f l.toArray w (nQ ag):=g2 l br j j h a b
theorem e9{P:Program}{f:FuncId}{fn:Func}{c:Code}{l:List Value}{w:World}{ag:Value->World->Prop}(br:P.funcs[f]? =some fn)
 (h:O P {n:=fn.ntmps} #[] [] (jJ 0 l) w (den P {n:=fn.ntmps} (.s c (.base (tF P fn.ntmps fn ag))))) (a:fn.body=some c:=by rfl) (b:Nat.ble l.length fn.ntmps=true:=by rfl):Calls P f l.toArray w (nQ ag):=Di l br j h a b
theorem j0{P:Program}{f:FuncId}{fn:Func}{c:Code}{l:List Value}{w:World}{ag:Value->World->Prop}(br:P.funcs[f]? =some fn)
 (h:O P {n:=fn.ntmps,m:=true,b:=w.heap.size} #[] [] (jJ 0 l) w (den P {n:=fn.ntmps,m:=true,b:=w.heap.size} (.s c (.base (tG P fn.ntmps fn w.heap.size ag))))) (a:fn.body=some c:=by rfl) (d:Nat.ble l.length fn.ntmps=true:=by rfl):Calls P f l.toArray w ag:=o5 l br j h a d
theorem cX{P:Program}{n:Fr}{Z:Env}{w:World}{ops:Array Oper}{b:K}{bb:World->Prop}{k:Nat}{l:Array Bool}(h:O P n #[] [] Z w (den P n b))(d:Region.ready .any ops l=[]:=by kernel_rfl):eN P n ops bb k l Z w (h2 (den P n b)):=λa e hm=>by
 have c:=sw (hN:=h2 (den P n b)) (hq:=.normal) (λ_ h=>h) (h a e hm);cases k with
 |zero=>exact⟨d,c⟩
 |succ k=>exact⟨λ_=>c,by rw [d];simp⟩
theorem j4{P:Program}[fp P](m:Nat){ops:Array Oper}{todo:List Oper}{k db:K}{U:Env}{n:Fr}{Z:Env}{w:World}{α:Type}{g:Operand}{v:Array Tmp}{assign body:Code}(af:next P n m ⟨ops,todo,k,U⟩=some (.rangeFunc g v assign body,db,Z)){B:FuncId}{bf:Array Value}[br:Entry P B]
 {H ae:List (List Chunk)} {M:List (List Chunk)->World->Prop} {T:List (List Chunk)->Prop} {enc:α->Array Value} {A:List α->α->Prop} {S:List α->Prop} {o:World} {F:List Nat}
 (am:Iter P B bf H M T enc A S) (aJ:n={n:=n.n,r:=none,m:=true,b:=n.b}) (an:n.b<=w.heap.size) (ag:C o F (H++ae) w)
 (al:bs Z g=some (.func (.func B) #[] bf)) (ap:∀x,(enc x).size=v.size) (ao:∀p∈v,Nat.blt p n.n=true)
 (f:List α->List (List Chunk)->Prop) (X:Exit->List (List Chunk)->Prop) (Y:f [] ae) (aj:∀L aK,C w [] [L] aK->M (ae++[L]) aK) (ah:∀pre ae L,f pre ae->T (ae++[L]))
 (round:∀(l:Nat)(pre:List α)(x:α)(t:List (List Chunk))(L:List Chunk)(c:World),A pre x->f pre t->C o F (H++(t++[L])) c->
  O P {n:=n.n,r:=some l} #[] [] ((v.toList.zip (enc x).toList).reverse++Z) c (den P {n:=n.n,r:=some l} (.s assign (.base (λe V R=>e= .normal/\∃u,C c (au t) u R/\
   ∀(L:List Chunk)(y:World),C o F (H++(u++[L])) y->O P {n:=n.n,r:=some l} #[] [] V y (den P {n:=n.n,r:=some l} (.s body (.base (λe _ aw=>∃z,C y (au u) z aw/\
    (match e with
     | .normal=>f (pre++[x]) z
     | .ret=>X .ret z
     | .exit id=>X (.exit id) z
     |_=>False))))))))))
 (done:∀xs fy aK,S xs->f xs fy->C o F (H++fy) aK->O P n #[] [] Z aK (den P n db))
 (av:∀fy aK,X .ret fy->C o F (H++fy) aK->bot db .ret Z aK)
 (ar:∀id fy aK,X (.exit id) fy->C o F (H++fy) aK->∃q,ln id db=some q/\O P n #[] [] Z aK (den P n q)):O P n ops todo U w (den P n k):=by
 refine ku af ?_
 have key:W P n (.rangeFunc g v assign body) Z w (λe J aK=>J=Z/\(match e with| .normal=>O P n #[] [] Z aK (den P n db)| .ret=>bot db .ret Z aK| .exit id=>∃q,ln id db=some q/\O P n #[] [] Z aK (den P n q)|_=>False)):=by
  refine B8 am aJ an ag al ap ao f X Y aj ah (λl pre x t L c D E i=>?_) (λxs ai c D E i=>⟨j,done xs ai c D E i⟩) (λe ai c he Q i=>?_)
  .refine wR (jl (k:=.base _) (round l pre x t L c D E i)) ?_;rintro e V R ⟨he,u,ab,ac⟩;exact⟨he,u,ab,λL y ad=>jl (k:=.base _) (ac L y ad)⟩
  .rcases he with rfl|⟨id,rfl⟩
   .exact⟨j,av ai c Q i⟩
   .exact⟨j,ar id ai c Q i⟩
 intro a ak hm;refine kH (key a ak hm) λe N c⟨aa,I,J,G,aq,d⟩=>?_
 subst aq;cases e with
 |normal=>exact lift.from aa (d N G I)
 |ret=>exact⟨aa,I,J,G,qj _ d⟩
 |exit id=>
  obtain⟨q,hu,d⟩:=d;exact lift.from aa (sw (λ_ h=>rb _ hu h) (d N G I))
 |goto l=>exact d.elim
 |panic gJ=>exact d.elim
 |outgrown=>exact d.elim
abbrev fS(P:Program)(n:Fr)(ops:Array Oper)(bb:World->Prop)(k:Nat)(l:Array Bool)(Z:Env)(w:World)(Q:d6):Prop:=bb w->eN P n ops bb k l Z w (h2 Q)
theorem BS{P:Program}{n:Fr}{ops:Array Oper}{todo:List Oper}{Z:Env}{w:World}{Q hN:d6}(h:O P n ops todo Z w Q)(c:∀e Z w,Q e Z w->hN e Z w):O P n ops todo Z w hN:=λa b hm=>
 kW (λ_ _ _⟨k,m,f,d,h⟩=>⟨k,m,f,d,c _ _ _ h⟩) _ _ _ (h a b hm)
abbrev okB(bb:World->Prop)(T:Env->World->Prop):d6:=λe Z w=>match e with
 | .normal=>bb w/\T Z w
 |_=>False
section
variable {P:Program} {n:Fr} {Z di:Env} {w:World} {Q:d6} {ops:Array Oper} {bb:World->Prop} {k:Nat} {l:Array Bool} {I:Oper}
theorem vK{todo:List Oper}{l:Array Bool}(h:O P n ops todo Z w (okB bb λZ w=>fS P n ops bb k l Z w Q)):O P n ops todo Z w (λe Z w=>match e with| .normal=>bb w/\eN P n ops bb k l Z w (h2 Q)|_=>False):=
 BS h λe _ _ a=>by cases e<;>first|exact⟨a.1,a.2 a.1⟩|exact a
theorem aU(i:Nat)(a:ops[i]? =some I)(h:O P n ops [I] Z w (okB bb λZ w=>fS P n ops bb k (l.setIfInBounds i true) Z w Q))(b:Region.ready .any ops l=[i]:=by kernel_rfl):fS P n ops bb (k+1) l Z w Q:=λ_=>wC i a b (vK h)
theorem aO(i J:Nat){a b:Oper}(e:ops[i]? =some a)(f:ops[J]? =some b)
 (c:O P n ops [a] Z w (okB bb λZ w=>fS P n ops bb k (l.setIfInBounds i true) Z w Q)) (d:O P n ops [b] Z w (okB bb λZ w=>fS P n ops bb k (l.setIfInBounds J true) Z w Q)) (g:Region.ready .any ops l=[i,J]:=by kernel_rfl):fS P n ops bb (k+1) l Z w Q:=
 λ_=>lq i J e f g (vK c) (vK d)
theorem ef(d:Nat){b:Bool}(c:look Z d=some (.bool b))(f:b=true->fS P n ops bb k l ((d,.bool true)::Z) w Q)(br:b=false->fS P n ops bb k l ((d,.bool false)::Z) w Q):fS P n ops bb k l Z w Q:=
 λa=>tH d c (λe=>f e a) (λe=>br e a)
theorem iW(d:Nat){u:Value}(v:Value)(b:look Z d=some u)(c:u=v)(h:fS P n ops bb k l ((d,v)::Z) w Q):fS P n ops bb k l Z w Q:=λa=>rn d v b c (h a)
theorem dy(i:Nat)(a:ops[i]? =some I)(h:O P n ops [I] Z w (λe Z w=>match e with| .normal=>eN P n ops bb k (l.setIfInBounds i true) Z w (h2 Q)|_=>False))(c:Region.ready .any ops l=[i]:=by kernel_rfl)(b:lM ops i=true:=by kernel_rfl):fS P n ops bb (k+1) l Z w Q:=λ_=>wB i a c b h
theorem bK{a:K}(h:O P n #[] [] Z w (den P n a))(b:Region.ready .any ops l=[]:=by kernel_rfl):fS P n ops bb k l Z w (den P n a):=λ_=>cX h b
variable [fp P]
theorem bw [rm P]{todo:List Oper}{k db:K}(m:Nat){id:Nat}{os:Array Oper}(h:next P n m ⟨ops,todo,k,Z⟩=some (.region id os true,db,di))(bb:World->Prop)(a:bb w.drew)
 (b:fS P n os bb os.size (Array.replicate os.size false) di w.drew (den P n db)):O P n ops todo Z w (den P n k):=mn m h bb (b a)
theorem af(a m:Nat)(d:pq P n ops (List.range' a m) Z=some di)(h:fS P n ops bb k (qY l (List.range' a m)) di w Q)(b:(calm ops&&lh ops l (List.range' a m))=true:=by kernel_rfl):fS P n ops bb (k+m) l Z w Q:=λc=>by
 simp only [d8] at b;exact tz b.1 c (List.range' a m) (by rw [List.length_range'];exact Nat.beq_refl _) b.2 d (h c)
theorem fH(m:Nat)(is:List Nat)(c:pq P n ops is Z=some di)(h:fS P n ops bb k (qY l is) di w Q)(b:(calm ops&&Nat.beq is.length m&&lh ops l is)=true:=by kernel_rfl):fS P n ops bb (k+m) l Z w Q:=λa=>fV m is c a (h a) b
theorem aT(i:Nat){v:Value}(f:ops[i]? =some I)(g:∀w,bb w->∀a,cF Z n.n a->(execOp a.eval I).run P w= .ok (.value v) w)(h:fS P n ops bb k (l.setIfInBounds i true) (cE Z I.dst v) w Q)
 (e:cW ops Z I.guard=some true:=by rfl) (d:da n I.dst=true:=by rfl) (c:(calm ops&&lh ops l [i])=true:=by kernel_rfl):fS P n ops bb (k+1) l Z w Q:=λb=>eM i f b g (h b) e d c
def uo(P:Program)[fp P](F:Fr)(ops:Array Oper)(i:Nat)(Z:Env):Option (Addr×Option Nat):=match ops[i]? with
 |some ⟨dst,.load t x,_,_,_,g⟩=>match fp.one P t with
  |true=>match cW ops Z g with
   |some true=>match da F dst with
    |true=>match bs Z x with
     |some (.pointer (some A))=>some (A,dst)
     |_=>none
    |false=>none
   |_=>none
  |false=>none
 |_=>none
theorem bT(i:Nat){A:Addr}{dst:Option Nat}{v:Value}(h:uo P n ops i Z=some (A,dst))(p:∀w,bb w->w.cell? A=some v)(aa:fS P n ops bb k (l.setIfInBounds i true) (cE Z dst v) w Q)
 (j:(calm ops&&lh ops l [i])=true:=by kernel_rfl):fS P n ops bb (k+1) l Z w Q:=λa=>by
 unfold uo at h;split at h
 .rename_i o;split at h
  .rename_i b;split at h
   .rename_i c;split at h
    .rename_i e;split at h
     .rename_i f;cases h;obtain⟨d,m,g⟩:=fp.vQ _ b;have:bB P _ d:=⟨m⟩;exact eM i o a (λw hw=>hK f g (p w hw)) (aa a) c e j
     .cases h
    .cases h
   .cases h
  .cases h
 .cases h
theorem a1{b:Nat}{ae:List (List Chunk)}{I:Obj}[h:Has b ae I]:Has b ae I:=h
theorem a8(i:Nat){o:World}{F:List Nat}{K:List (List Chunk)}{b off:Nat}{c:Array Value}{e:TypeId}{e3:Nat×Nat}{dst:Option Nat}{v:Value}(h:uo P n ops i Z=some (⟨b,off,none⟩,dst))(f:Has b K (.cells c e e3))(g:c[off]? =some v)
 (aa:fS P n ops (λw=>∃ae,C o F (K++ae) w) k (l.setIfInBounds i true) (cE Z dst v) w Q) (d:(calm ops&&lh ops l [i])=true:=by kernel_rfl):fS P n ops (λw=>∃ae,C o F (K++ae) w) (k+1) l Z w Q:=
 bT i h (λ_⟨_,a⟩=>aw (a.here (b,_) (by rw [g9];exact List.mem_append_left _ f.mem)) g) aa d
theorem bo{todo hW:List Oper}{hH:Array Oper}{k db:K}(m:Nat){f:FuncId}{dst:Option Nat}{U:List Value}{v:Value}{S:World->Prop}(a:Calls P f U.toArray w (λr aK=>r=v/\S aK))(h:un P n m ⟨ops,todo,k,Z⟩=some (f,U,dst,⟨hH,hW,db,di⟩))
 (aa:∀aK,S aK->O P n hH hW (cE di dst v) aK (den P n db)):O P n ops todo Z w (den P n k):=bh m a h λ_ aK⟨b,aL⟩=>by subst b;exact aa aK aL
theorem bF{dst:Option Nat}{rest:List Oper}{ty:TypeId}{pos:String}{after:Array Edge}{g:Option (Nat×Bool)}{f:FuncId}{i:Array TypeId}{args:Array Operand}{U:List Value}{v:Value}{S:World->Prop}(c:cW ops Z g=some true)(b:da n dst=true)
 (e:fr Z args.toList=some U) (a:Calls P f U.toArray w (λr aK=>r=v/\S aK))
 (h:∀aK,S aK->O P n ops rest (cE Z dst v) aK Q) (he:fp.qp P f=true:=by rfl):O P n ops (⟨dst,.call ⟨.value (.func f),args,i⟩,ty,pos,after,g⟩::rest) Z w Q:=
 cN c b e a (λ_ aK⟨d,aL⟩=>by subst d;exact h aK aL) he
end
end Go.Proofs.YtdomoelfhjdioaaGreatDoor.R
namespace Go.Proofs.YtdomoelfhjdioaaGreatDoor.R
open Go.Proofs.Tryz Go Go.Proofs
instance:bB prog 3 (.int .i64):=⟨underlying3⟩
instance:cn prog 3 (.int .i64 0) 1 8:=⟨by kernel_rfl⟩
instance:bB prog 4 .bool:=⟨underlying4⟩
instance:cn prog 4 (.bool false) 1 1:=⟨by kernel_rfl⟩
instance:bB prog 5 (.int .u8):=⟨underlying5⟩
instance:cn prog 5 (.int .u8 0) 1 1:=⟨by kernel_rfl⟩
instance:bB prog 9 .string:=⟨underlying9⟩
instance:cn prog 9 (.string ⟨#[]⟩) 1 16:=⟨by kernel_rfl⟩
instance:bB prog 21 (.int .i32):=⟨underlying21⟩
instance:bB prog 22 (.slice 33):=⟨underlying22⟩
instance:bB prog 28 (.slice 5):=⟨underlying28⟩
instance:cn prog 28 (.slice none 0 0) 1 24:=⟨by kernel_rfl⟩
instance:bB prog 29 (.slice 3):=⟨underlying29⟩
instance:cn prog 29 (.slice none 0 0) 1 24:=⟨by kernel_rfl⟩
instance:bB prog 31 t30.desc:=⟨underlying31⟩
instance:cn prog 31 (.agg #[(.int .i64 0),(.int .i64 0),(.int .i64 0),(.int .i64 0),(.slice none 0 0),(.int .i64 0),(.slice none 0 0)]) 7 88:=⟨by kernel_rfl⟩
instance:bB prog 33 t32.desc:=⟨underlying33⟩
instance:cn prog 33 (.agg #[(.int .i64 0),(.int .i64 0),(.int .i64 0),(.slice none 0 0),(.int .i64 0),(.int .i64 0),(.int .i64 0),(.int .i64 0),(.slice none 0 0),(.int .i64 0),(.slice none 0 0)]) 11 136:=⟨by kernel_rfl⟩
instance:bB prog 34 (.slice 44):=⟨underlying34⟩
instance:cn prog 34 (.slice none 0 0) 1 24:=⟨by kernel_rfl⟩
instance:bB prog 35 (.pointer 65):=⟨underlying35⟩
instance:cn prog 35 (.pointer none) 1 8:=⟨by kernel_rfl⟩
instance:cn prog 40 (.pointer none) 1 8:=⟨by kernel_rfl⟩
instance:bB prog 44 t43.desc:=⟨underlying44⟩
instance:cn prog 44 (.agg #[(.int .i64 0),(.int .i64 0),(.int .i64 0),(.int .i64 0)]) 4 32:=⟨by kernel_rfl⟩
instance:bB prog 55 (.pointer 136):=⟨underlying55⟩
instance:bB prog 56 (.slice 40):=⟨underlying56⟩
instance:bB prog 57 (.slice 35):=⟨underlying57⟩
instance:cn prog 57 (.slice none 0 0) 1 24:=⟨by kernel_rfl⟩
instance:bB prog 58 (.slice 86):=⟨underlying58⟩
instance:cn prog 58 (.slice none 0 0) 1 24:=⟨by kernel_rfl⟩
instance:bB prog 59 (.slice 103):=⟨underlying59⟩
instance:cn prog 59 (.slice none 0 0) 1 24:=⟨by kernel_rfl⟩
instance:bB prog 66 (.pointer 224):=⟨underlying66⟩
instance:bB prog 67 (.slice 121):=⟨underlying67⟩
instance:cn prog 67 (.slice none 0 0) 1 24:=⟨by kernel_rfl⟩
instance:bB prog 72 (.map 44 4):=⟨underlying72⟩
instance:bB prog 73 (.map 321 123):=⟨underlying73⟩
instance:bB prog 79 (.array 32 5):=⟨underlying79⟩
instance:cn prog 79 (.agg #[(.int .u8 0),(.int .u8 0),(.int .u8 0),(.int .u8 0),(.int .u8 0),(.int .u8 0),(.int .u8 0),(.int .u8 0),(.int .u8 0),(.int .u8 0),(.int .u8 0),(.int .u8 0),(.int .u8 0),(.int .u8 0),(.int .u8 0),(.int .u8 0),(.int .u8 0),(.int .u8 0),(.int .u8 0),(.int .u8 0),(.int .u8 0),(.int .u8 0),(.int .u8 0),(.int .u8 0),(.int .u8 0),(.int .u8 0),(.int .u8 0),(.int .u8 0),(.int .u8 0),(.int .u8 0),(.int .u8 0),(.int .u8 0)]) 32 32:=⟨by kernel_rfl⟩
instance:cn prog 86 (.pointer none) 1 8:=⟨by kernel_rfl⟩
instance:bB prog 94 t93.desc:=⟨underlying94⟩
instance:cn prog 94 (.agg #[(.int .i64 0),(.int .i64 0),(.int .i64 0),(.string ⟨#[]⟩),(.int .i64 0),(.int .i64 0),(.int .i64 0),(.int .i64 0),(.bool false)]) 9 80:=⟨by kernel_rfl⟩
instance:bB prog 101 (.slice 115):=⟨underlying101⟩
instance:cn prog 101 (.slice none 0 0) 1 24:=⟨by kernel_rfl⟩
instance:bB prog 103 t102.desc:=⟨underlying103⟩
instance:cn prog 103 (.agg #[(.int .i64 0),(.int .i64 0),(.int .i64 0),(.int .i64 0),(.int .i64 0),(.slice none 0 0),(.slice none 0 0),(.int .u8 0),(.int .u8 0),(.int .u8 0),(.int .u8 0),(.int .u8 0),(.int .u8 0),(.int .u8 0),(.int .u8 0),(.int .u8 0),(.int .u8 0),(.int .u8 0),(.int .u8 0),(.int .u8 0),(.int .u8 0),(.int .u8 0),(.int .u8 0),(.int .u8 0),(.int .u8 0),(.int .u8 0),(.int .u8 0),(.int .u8 0),(.int .u8 0),(.int .u8 0),(.int .u8 0),(.int .u8 0),(.int .u8 0),(.int .u8 0),(.int .u8 0),(.int .u8 0),(.int .u8 0),(.int .u8 0),(.int .u8 0)]) 39 120:=⟨by kernel_rfl⟩
instance:pL prog 103 6 6:=⟨_,_,underlying103,j,j,by kernel_rfl⟩
instance:bB prog 115 t114.desc:=⟨underlying115⟩
instance:cn prog 115 (.agg #[(.int .i64 0),(.int .i64 0),(.int .i64 0),(.int .u8 0),(.int .u8 0),(.int .u8 0),(.int .u8 0),(.int .u8 0),(.int .u8 0),(.int .u8 0),(.int .u8 0),(.int .u8 0),(.int .u8 0),(.int .u8 0),(.int .u8 0),(.int .u8 0),(.int .u8 0),(.int .u8 0),(.int .u8 0),(.int .u8 0),(.int .u8 0),(.int .u8 0),(.int .u8 0),(.int .u8 0),(.int .u8 0),(.int .u8 0),(.int .u8 0),(.int .u8 0),(.int .u8 0),(.int .u8 0),(.int .u8 0),(.int .u8 0),(.int .u8 0),(.int .u8 0),(.int .u8 0),(.int .i64 0),(.int .u8 0),(.int .u8 0),(.int .u8 0),(.int .u8 0),(.int .u8 0),(.int .u8 0),(.int .u8 0),(.int .u8 0),(.int .u8 0),(.int .u8 0),(.int .u8 0),(.int .u8 0),(.int .u8 0),(.int .u8 0),(.int .u8 0),(.int .u8 0),(.int .u8 0),(.int .u8 0),(.int .u8 0),(.int .u8 0),(.int .u8 0),(.int .u8 0),(.int .u8 0),(.int .u8 0),(.int .u8 0),(.int .u8 0),(.int .u8 0),(.int .u8 0),(.int .u8 0),(.int .u8 0),(.int .u8 0),(.int .u8 0)]) 68 96:=⟨by kernel_rfl⟩
instance:bB prog 121 t120.desc:=⟨underlying121⟩
instance:cn prog 121 (.agg #[(.int .i64 0),(.int .i64 0),(.int .i64 0),(.int .i64 0),(.slice none 0 0)]) 5 56:=⟨by kernel_rfl⟩
instance:bB prog 123 t122.desc:=⟨underlying123⟩
instance:cn prog 123 (.agg #[(.int .i64 0),(.int .i64 0),(.int .i64 0)]) 3 24:=⟨by kernel_rfl⟩
instance:bB prog 129 (.slice 169):=⟨underlying129⟩
instance:cn prog 129 (.slice none 0 0) 1 24:=⟨by kernel_rfl⟩
instance:bB prog 130 (.slice 311):=⟨underlying130⟩
instance:cn prog 130 (.slice none 0 0) 1 24:=⟨by kernel_rfl⟩
instance:bB prog 131 (.map 3 3):=⟨underlying131⟩
instance:bB prog 134 (.slice 79):=⟨underlying134⟩
instance:cn prog 134 (.slice none 0 0) 1 24:=⟨by kernel_rfl⟩
instance:bB prog 137 (.int .u32):=⟨underlying137⟩
instance:cn prog 137 (.int .u32 0) 1 4:=⟨by kernel_rfl⟩
instance:bB prog 138 (.array 8 137):=⟨underlying138⟩
instance:cn prog 138 (.agg #[(.int .u32 0),(.int .u32 0),(.int .u32 0),(.int .u32 0),(.int .u32 0),(.int .u32 0),(.int .u32 0),(.int .u32 0)]) 8 32:=⟨by kernel_rfl⟩
instance:bB prog 139 (.array 8 137):=⟨underlying139⟩
instance:cn prog 139 (.agg #[(.int .u32 0),(.int .u32 0),(.int .u32 0),(.int .u32 0),(.int .u32 0),(.int .u32 0),(.int .u32 0),(.int .u32 0)]) 8 32:=⟨by kernel_rfl⟩
instance:bB prog 140 (.array 64 137):=⟨underlying140⟩
instance:cn prog 140 (.agg #[(.int .u32 0),(.int .u32 0),(.int .u32 0),(.int .u32 0),(.int .u32 0),(.int .u32 0),(.int .u32 0),(.int .u32 0),(.int .u32 0),(.int .u32 0),(.int .u32 0),(.int .u32 0),(.int .u32 0),(.int .u32 0),(.int .u32 0),(.int .u32 0),(.int .u32 0),(.int .u32 0),(.int .u32 0),(.int .u32 0),(.int .u32 0),(.int .u32 0),(.int .u32 0),(.int .u32 0),(.int .u32 0),(.int .u32 0),(.int .u32 0),(.int .u32 0),(.int .u32 0),(.int .u32 0),(.int .u32 0),(.int .u32 0),(.int .u32 0),(.int .u32 0),(.int .u32 0),(.int .u32 0),(.int .u32 0),(.int .u32 0),(.int .u32 0),(.int .u32 0),(.int .u32 0),(.int .u32 0),(.int .u32 0),(.int .u32 0),(.int .u32 0),(.int .u32 0),(.int .u32 0),(.int .u32 0),(.int .u32 0),(.int .u32 0),(.int .u32 0),(.int .u32 0),(.int .u32 0),(.int .u32 0),(.int .u32 0),(.int .u32 0),(.int .u32 0),(.int .u32 0),(.int .u32 0),(.int .u32 0),(.int .u32 0),(.int .u32 0),(.int .u32 0),(.int .u32 0)]) 64 256:=⟨by kernel_rfl⟩
instance:bB prog 144 (.array 128 5):=⟨underlying144⟩
instance:cn prog 144 (.agg #[(.int .u8 0),(.int .u8 0),(.int .u8 0),(.int .u8 0),(.int .u8 0),(.int .u8 0),(.int .u8 0),(.int .u8 0),(.int .u8 0),(.int .u8 0),(.int .u8 0),(.int .u8 0),(.int .u8 0),(.int .u8 0),(.int .u8 0),(.int .u8 0),(.int .u8 0),(.int .u8 0),(.int .u8 0),(.int .u8 0),(.int .u8 0),(.int .u8 0),(.int .u8 0),(.int .u8 0),(.int .u8 0),(.int .u8 0),(.int .u8 0),(.int .u8 0),(.int .u8 0),(.int .u8 0),(.int .u8 0),(.int .u8 0),(.int .u8 0),(.int .u8 0),(.int .u8 0),(.int .u8 0),(.int .u8 0),(.int .u8 0),(.int .u8 0),(.int .u8 0),(.int .u8 0),(.int .u8 0),(.int .u8 0),(.int .u8 0),(.int .u8 0),(.int .u8 0),(.int .u8 0),(.int .u8 0),(.int .u8 0),(.int .u8 0),(.int .u8 0),(.int .u8 0),(.int .u8 0),(.int .u8 0),(.int .u8 0),(.int .u8 0),(.int .u8 0),(.int .u8 0),(.int .u8 0),(.int .u8 0),(.int .u8 0),(.int .u8 0),(.int .u8 0),(.int .u8 0),(.int .u8 0),(.int .u8 0),(.int .u8 0),(.int .u8 0),(.int .u8 0),(.int .u8 0),(.int .u8 0),(.int .u8 0),(.int .u8 0),(.int .u8 0),(.int .u8 0),(.int .u8 0),(.int .u8 0),(.int .u8 0),(.int .u8 0),(.int .u8 0),(.int .u8 0),(.int .u8 0),(.int .u8 0),(.int .u8 0),(.int .u8 0),(.int .u8 0),(.int .u8 0),(.int .u8 0),(.int .u8 0),(.int .u8 0),(.int .u8 0),(.int .u8 0),(.int .u8 0),(.int .u8 0),(.int .u8 0),(.int .u8 0),(.int .u8 0),(.int .u8 0),(.int .u8 0),(.int .u8 0),(.int .u8 0),(.int .u8 0),(.int .u8 0),(.int .u8 0),(.int .u8 0),(.int .u8 0),(.int .u8 0),(.int .u8 0),(.int .u8 0),(.int .u8 0),(.int .u8 0),(.int .u8 0),(.int .u8 0),(.int .u8 0),(.int .u8 0),(.int .u8 0),(.int .u8 0),(.int .u8 0),(.int .u8 0),(.int .u8 0),(.int .u8 0),(.int .u8 0),(.int .u8 0),(.int .u8 0),(.int .u8 0),(.int .u8 0),(.int .u8 0),(.int .u8 0)]) 128 128:=⟨by kernel_rfl⟩
instance:bB prog 145 (.int .u64):=⟨underlying145⟩
instance:bB prog 146 (.int .u64):=⟨underlying146⟩
instance:cn prog 154 (.pointer none) 1 8:=⟨by kernel_rfl⟩
instance:cn prog 155 (.pointer none) 1 8:=⟨by kernel_rfl⟩
instance:cn prog 161 (.pointer none) 1 8:=⟨by kernel_rfl⟩
instance:cn prog 165 (.pointer none) 1 8:=⟨by kernel_rfl⟩
instance:bB prog 169 t168.desc:=⟨underlying169⟩
instance:cn prog 169 (.agg #[(.int .i64 0),(.int .i64 0),(.int .i64 0),(.int .i64 0),(.slice none 0 0)]) 5 56:=⟨by kernel_rfl⟩
instance:cn prog 177 (.agg #[(.slice none 0 0)]) 1 24:=⟨by kernel_rfl⟩
instance:bB prog 217 (.pointer 288):=⟨underlying217⟩
instance:cn prog 217 (.pointer none) 1 8:=⟨by kernel_rfl⟩
instance:cn prog 219 (.pointer none) 1 8:=⟨by kernel_rfl⟩
instance:bB prog 221 (.slice 315):=⟨underlying221⟩
instance:cn prog 221 (.slice none 0 0) 1 24:=⟨by kernel_rfl⟩
instance:bB prog 222 (.slice 28):=⟨underlying222⟩
instance:cn prog 222 (.slice none 0 0) 1 24:=⟨by kernel_rfl⟩
instance:bB prog 226 (.pointer 370):=⟨underlying226⟩
instance:cn prog 226 (.pointer none) 1 8:=⟨by kernel_rfl⟩
instance:bB prog 227 (.map 3 123):=⟨underlying227⟩
instance:bB prog 230 (.map 3 154):=⟨underlying230⟩
instance:bB prog 237 (.map 3 161):=⟨underlying237⟩
instance:bB prog 269 (.map 3 115):=⟨underlying269⟩
instance:bB prog 279 t278.desc:=⟨underlying279⟩
instance:cn prog 279 (.agg #[(.int .i64 0),(.slice none 0 0),(.slice none 0 0)]) 3 56:=⟨by kernel_rfl⟩
instance:cn prog 283 (.pointer none) 1 8:=⟨by kernel_rfl⟩
instance:cn prog 285 (.pointer none) 1 8:=⟨by kernel_rfl⟩
instance:bB prog 286 (.array 2 283):=⟨underlying286⟩
instance:bB prog 289 (.map 3 103):=⟨underlying289⟩
instance:bB prog 292 (.map 3 226):=⟨underlying292⟩
instance:bB prog 297 (.array 256 4):=⟨underlying297⟩
instance:cn prog 297 (.agg #[(.bool false),(.bool false),(.bool false),(.bool false),(.bool false),(.bool false),(.bool false),(.bool false),(.bool false),(.bool false),(.bool false),(.bool false),(.bool false),(.bool false),(.bool false),(.bool false),(.bool false),(.bool false),(.bool false),(.bool false),(.bool false),(.bool false),(.bool false),(.bool false),(.bool false),(.bool false),(.bool false),(.bool false),(.bool false),(.bool false),(.bool false),(.bool false),(.bool false),(.bool false),(.bool false),(.bool false),(.bool false),(.bool false),(.bool false),(.bool false),(.bool false),(.bool false),(.bool false),(.bool false),(.bool false),(.bool false),(.bool false),(.bool false),(.bool false),(.bool false),(.bool false),(.bool false),(.bool false),(.bool false),(.bool false),(.bool false),(.bool false),(.bool false),(.bool false),(.bool false),(.bool false),(.bool false),(.bool false),(.bool false),(.bool false),(.bool false),(.bool false),(.bool false),(.bool false),(.bool false),(.bool false),(.bool false),(.bool false),(.bool false),(.bool false),(.bool false),(.bool false),(.bool false),(.bool false),(.bool false),(.bool false),(.bool false),(.bool false),(.bool false),(.bool false),(.bool false),(.bool false),(.bool false),(.bool false),(.bool false),(.bool false),(.bool false),(.bool false),(.bool false),(.bool false),(.bool false),(.bool false),(.bool false),(.bool false),(.bool false),(.bool false),(.bool false),(.bool false),(.bool false),(.bool false),(.bool false),(.bool false),(.bool false),(.bool false),(.bool false),(.bool false),(.bool false),(.bool false),(.bool false),(.bool false),(.bool false),(.bool false),(.bool false),(.bool false),(.bool false),(.bool false),(.bool false),(.bool false),(.bool false),(.bool false),(.bool false),(.bool false),(.bool false),(.bool false),(.bool false),(.bool false),(.bool false),(.bool false),(.bool false),(.bool false),(.bool false),(.bool false),(.bool false),(.bool false),(.bool false),(.bool false),(.bool false),(.bool false),(.bool false),(.bool false),(.bool false),(.bool false),(.bool false),(.bool false),(.bool false),(.bool false),(.bool false),(.bool false),(.bool false),(.bool false),(.bool false),(.bool false),(.bool false),(.bool false),(.bool false),(.bool false),(.bool false),(.bool false),(.bool false),(.bool false),(.bool false),(.bool false),(.bool false),(.bool false),(.bool false),(.bool false),(.bool false),(.bool false),(.bool false),(.bool false),(.bool false),(.bool false),(.bool false),(.bool false),(.bool false),(.bool false),(.bool false),(.bool false),(.bool false),(.bool false),(.bool false),(.bool false),(.bool false),(.bool false),(.bool false),(.bool false),(.bool false),(.bool false),(.bool false),(.bool false),(.bool false),(.bool false),(.bool false),(.bool false),(.bool false),(.bool false),(.bool false),(.bool false),(.bool false),(.bool false),(.bool false),(.bool false),(.bool false),(.bool false),(.bool false),(.bool false),(.bool false),(.bool false),(.bool false),(.bool false),(.bool false),(.bool false),(.bool false),(.bool false),(.bool false),(.bool false),(.bool false),(.bool false),(.bool false),(.bool false),(.bool false),(.bool false),(.bool false),(.bool false),(.bool false),(.bool false),(.bool false),(.bool false),(.bool false),(.bool false),(.bool false),(.bool false),(.bool false),(.bool false),(.bool false),(.bool false),(.bool false),(.bool false),(.bool false),(.bool false),(.bool false),(.bool false),(.bool false),(.bool false),(.bool false),(.bool false),(.bool false),(.bool false),(.bool false),(.bool false),(.bool false)]) 256 256:=⟨by kernel_rfl⟩
instance:cn prog 302 .nilFunc 1 8:=⟨by kernel_rfl⟩
instance:bB prog 311 t310.desc:=⟨underlying311⟩
instance:cn prog 311 (.agg #[(.int .i64 0),(.int .i64 0),(.int .i64 0),(.int .i64 0),(.int .i64 0)]) 5 40:=⟨by kernel_rfl⟩
instance:bB prog 315 t314.desc:=⟨underlying315⟩
instance:cn prog 315 (.agg #[(.slice none 0 0),(.slice none 0 0)]) 2 48:=⟨by kernel_rfl⟩
instance:bB prog 321 t320.desc:=⟨underlying321⟩
instance:cn prog 321 (.agg #[(.int .i64 0),(.int .i64 0)]) 2 16:=⟨by kernel_rfl⟩
instance:bB prog 323 (.array 64 5):=⟨underlying323⟩
instance:cn prog 323 (.agg #[(.int .u8 0),(.int .u8 0),(.int .u8 0),(.int .u8 0),(.int .u8 0),(.int .u8 0),(.int .u8 0),(.int .u8 0),(.int .u8 0),(.int .u8 0),(.int .u8 0),(.int .u8 0),(.int .u8 0),(.int .u8 0),(.int .u8 0),(.int .u8 0),(.int .u8 0),(.int .u8 0),(.int .u8 0),(.int .u8 0),(.int .u8 0),(.int .u8 0),(.int .u8 0),(.int .u8 0),(.int .u8 0),(.int .u8 0),(.int .u8 0),(.int .u8 0),(.int .u8 0),(.int .u8 0),(.int .u8 0),(.int .u8 0),(.int .u8 0),(.int .u8 0),(.int .u8 0),(.int .u8 0),(.int .u8 0),(.int .u8 0),(.int .u8 0),(.int .u8 0),(.int .u8 0),(.int .u8 0),(.int .u8 0),(.int .u8 0),(.int .u8 0),(.int .u8 0),(.int .u8 0),(.int .u8 0),(.int .u8 0),(.int .u8 0),(.int .u8 0),(.int .u8 0),(.int .u8 0),(.int .u8 0),(.int .u8 0),(.int .u8 0),(.int .u8 0),(.int .u8 0),(.int .u8 0),(.int .u8 0),(.int .u8 0),(.int .u8 0),(.int .u8 0),(.int .u8 0)]) 64 64:=⟨by kernel_rfl⟩
instance:bB prog 329 (.map 3 219):=⟨underlying329⟩
instance:bB prog 332 (.map 3 285):=⟨underlying332⟩
instance:cn prog 363 .nilFunc 1 8:=⟨by kernel_rfl⟩
instance:bB prog 364 (.slice 363):=⟨underlying364⟩
instance:bB prog 368 (.map 3 4):=⟨underlying368⟩
instance:cn prog 368 (.map none) 1 8:=⟨by kernel_rfl⟩
instance:rm prog:=⟨by kernel_rfl⟩
instance:Entry prog 110:=⟨_,func110,by kernel_rfl,by kernel_rfl⟩
instance:Entry prog 155:=⟨_,func155,by kernel_rfl,by kernel_rfl⟩
instance:Entry prog 158:=⟨_,func158,by kernel_rfl,by kernel_rfl⟩
instance:Entry prog 188:=⟨_,func188,by kernel_rfl,by kernel_rfl⟩
instance:Entry prog 192:=⟨_,func192,by kernel_rfl,by kernel_rfl⟩
instance:Entry prog 206:=⟨_,func206,by kernel_rfl,by kernel_rfl⟩
instance:Entry prog 208:=⟨_,func208,by kernel_rfl,by kernel_rfl⟩
instance:Entry prog 217:=⟨_,func217,by kernel_rfl,by kernel_rfl⟩
instance:Entry prog 220:=⟨_,func220,by kernel_rfl,by kernel_rfl⟩
instance:Entry prog 224:=⟨_,func224,by kernel_rfl,by kernel_rfl⟩
instance:Entry prog 226:=⟨_,func226,by kernel_rfl,by kernel_rfl⟩
instance:Entry prog 229:=⟨_,func229,by kernel_rfl,by kernel_rfl⟩
instance:Entry prog 230:=⟨_,func230,by kernel_rfl,by kernel_rfl⟩
instance:Entry prog 244:=⟨_,func244,by kernel_rfl,by kernel_rfl⟩
instance:Entry prog 245:=⟨_,func245,by kernel_rfl,by kernel_rfl⟩
instance:Entry prog 246:=⟨_,func246,by kernel_rfl,by kernel_rfl⟩
instance:Entry prog 247:=⟨_,func247,by kernel_rfl,by kernel_rfl⟩
instance:Entry prog 255:=⟨_,func255,by kernel_rfl,by kernel_rfl⟩
instance:Entry prog 257:=⟨_,func257,by kernel_rfl,by kernel_rfl⟩
instance:Entry prog 269:=⟨_,func269,by kernel_rfl,by kernel_rfl⟩
instance:Entry prog 271:=⟨_,func271,by kernel_rfl,by kernel_rfl⟩
instance:Entry prog 272:=⟨_,func272,by kernel_rfl,by kernel_rfl⟩
instance:Entry prog 288:=⟨_,func288,by kernel_rfl,by kernel_rfl⟩
instance:Entry prog 289:=⟨_,func289,by kernel_rfl,by kernel_rfl⟩
instance:Entry prog 298:=⟨_,func298,by kernel_rfl,by kernel_rfl⟩
instance:Entry prog 304:=⟨_,func304,by kernel_rfl,by kernel_rfl⟩
instance:Entry prog 306:=⟨_,func306,by kernel_rfl,by kernel_rfl⟩
instance:Entry prog 312:=⟨_,func312,by kernel_rfl,by kernel_rfl⟩
instance:Entry prog 325:=⟨_,func325,by kernel_rfl,by kernel_rfl⟩
instance:Entry prog 326:=⟨_,func326,by kernel_rfl,by kernel_rfl⟩
instance:Entry prog 327:=⟨_,func327,by kernel_rfl,by kernel_rfl⟩
instance:Entry prog 333:=⟨_,func333,by kernel_rfl,by kernel_rfl⟩
instance:Entry prog 343:=⟨_,func343,by kernel_rfl,by kernel_rfl⟩
instance:Entry prog 346:=⟨_,func346,by kernel_rfl,by kernel_rfl⟩
instance:fp prog:=fp.make prog
 [(7,[(0,0),(1,1),(2,2),(3,3)]),(8,[(0,0),(1,1),(2,2),(3,3)]),(13,[(0,0),(1,1)]),(14,[(0,0),(1,1)]),(18,[(0,0)]),(19,[(0,0)]),(30,[(0,0),(1,1),(2,2),(3,3),(4,4),(5,5),(6,6)]),(31,[(0,0),(1,1),(2,2),(3,3),(4,4),(5,5),(6,6)]),(32,[(0,0),(1,1),(2,2),(3,3),(4,4)]),(33,[(0,0),(1,1),(2,2),(3,3),(4,4)]),(43,[(0,0),(1,1),(2,2),(3,3)]),(44,[(0,0),(1,1),(2,2),(3,3)]),(60,[(0,0),(1,1),(2,2),(3,3),(4,4),(5,5)]),(61,[(0,0),(1,1),(2,2),(3,3),(4,4),(5,5)]),(64,[(0,0),(1,1),(2,2),(3,3)]),(65,[(0,0),(1,1),(2,2),(3,3)]),(69,[(0,0),(1,1),(2,2),(3,3),(4,4),(5,5),(6,6)]),(70,[(0,0),(1,1),(2,2),(3,3),(4,4),(5,5),(6,6)]),(74,[(0,0),(1,1),(2,2),(3,3),(4,4)]),(75,[(0,0),(1,1),(2,2),(3,3),(4,4)]),(89,[(0,0),(1,1)]),(90,[(0,0),(1,1)]),(93,[(0,0),(1,1),(2,2),(3,3),(4,4),(5,5),(6,6),(7,7),(8,8)]),(94,[(0,0),(1,1),(2,2),(3,3),(4,4),(5,5),(6,6),(7,7),(8,8)]),(102,[(0,0),(1,1),(2,2),(3,3),(4,4),(5,5),(6,6),(7,7)]),(103,[(0,0),(1,1),(2,2),(3,3),(4,4),(5,5),(6,6),(7,7)]),(114,[(0,0),(1,1),(2,2),(3,3),(4,35),(5,36)]),(115,[(0,0),(1,1),(2,2),(3,3),(4,35),(5,36)]),(120,[(0,0),(1,4)]),(121,[(0,0),(1,4)]),(122,[(0,0),(1,1),(2,2)]),(123,[(0,0),(1,1),(2,2)]),(132,[(0,0),(1,1),(2,2)]),(133,[(0,0),(1,1),(2,2)]),(135,[(0,0)]),(136,[(0,0)]),(147,[(0,0),(1,1)]),(148,[(0,0),(1,1)]),(149,[(0,0),(1,2)]),(150,[(0,0),(1,2)]),(156,[(0,0),(1,1),(2,2),(3,3),(4,4),(5,5),(6,6),(7,7),(8,8),(9,9)]),(157,[(0,0),(1,1),(2,2),(3,3),(4,4),(5,5),(6,6),(7,7),(8,8),(9,9)]),(166,[(0,0),(1,1),(2,2)]),(167,[(0,0),(1,1),(2,2)]),(168,[(0,0),(1,1),(2,2),(3,3),(4,4)]),(169,[(0,0),(1,1),(2,2),(3,3),(4,4)]),(176,[(0,0)]),(177,[(0,0)]),(223,[(0,0),(1,1),(2,2),(3,3),(4,4),(5,5),(6,6)]),(224,[(0,0),(1,1),(2,2),(3,3),(4,4),(5,5),(6,6)]),(228,[(0,0)]),(229,[(0,0)]),(231,[(0,0)]),(232,[(0,0)]),(238,[(0,0)]),(239,[(0,0)]),(264,[(0,0),(1,1)]),(265,[(0,0),(1,1)]),(270,[(0,0)]),(271,[(0,0)]),(278,[(0,0),(1,1),(2,2)]),(279,[(0,0),(1,1),(2,2)]),(287,[(0,0),(1,1),(2,2),(3,3),(4,4),(5,7),(6,8),(7,9),(8,10),(9,12),(10,13),(11,14),(12,15),(13,16),(14,17),(15,18)]),(288,[(0,0),(1,1),(2,2),(3,3),(4,4),(5,7),(6,8),(7,9),(8,10),(9,12),(10,13),(11,14),(12,15),(13,16),(14,17),(15,18)]),(290,[(0,0)]),(291,[(0,0)]),(293,[(0,0)]),(294,[(0,0)]),(310,[(0,0),(1,1),(2,2),(3,3),(4,4)]),(311,[(0,0),(1,1),(2,2),(3,3),(4,4)]),(314,[(0,0),(1,1)]),(315,[(0,0),(1,1)]),(320,[(0,0),(1,1)]),(321,[(0,0),(1,1)]),(330,[(0,0)]),(331,[(0,0)]),(333,[(0,0)]),(334,[(0,0)]),(369,[(0,0),(1,1),(2,2),(3,3),(4,4),(5,5)]),(370,[(0,0),(1,1),(2,2),(3,3),(4,4),(5,5)]),(386,[(0,0)]),(387,[(0,0)]),(409,[(0,0),(1,1)]),(410,[(0,0),(1,1)]),(466,[(0,0),(1,1),(2,2),(3,3)]),(467,[(0,0),(1,1),(2,2),(3,3)]),(477,[(0,0),(1,1),(2,2),(3,3),(4,4),(5,5),(6,6),(7,7),(8,8),(9,9),(10,10)]),(478,[(0,0),(1,1),(2,2),(3,3),(4,4),(5,5),(6,6),(7,7),(8,8),(9,9),(10,10)])]
 [(4,3),(15,1),(16,1),(17,1),(22,2),(24,1),(28,2),(29,2),(34,2),(35,1),(39,1),(40,1),(50,1),(52,1),(55,1),(56,2),(57,2),(58,2),(59,2),(63,1),(66,1),(67,2),(68,1),(71,1),(86,1),(87,1),(101,2),(129,2),(130,2),(134,2),(143,1),(154,1),(155,1),(161,1),(165,1),(192,1),(214,1),(217,1),(219,1),(221,2),(222,2),(226,1),(245,1),(247,1),(281,1),(283,1),(285,1),(301,1),(364,2),(450,1),(454,1),(474,1)]
 [0,1,2,3,4,5,6,9,10,11,12,15,16,17,20,21,22,23,24,25,26,27,28,29,34,35,36,37,38,39,40,41,42,45,46,47,48,49,50,51,52,53,54,55,56,57,58,59,62,63,66,67,68,71,72,73,76,77,80,81,82,83,84,85,86,87,88,91,92,95,96,97,98,99,100,101,104,105,106,107,108,109,110,111,112,113,116,117,118,119,124,125,126,127,128,129,130,131,134,137,141,142,143,145,146,151,152,153,154,155,158,159,160,161,162,163,164,165,170,171,172,173,174,175,178,179,180,181,182,183,184,185,186,187,188,189,190,191,192,193,194,195,196,197,198,199,200,201,202,203,204,205,206,207,208,209,210,211,212,213,214,215,216,217,218,219,220,221,222,225,226,227,230,233,234,235,236,237,240,241,242,243,244,245,246,247,248,249,250,251,252,253,254,255,256,257,258,259,260,261,262,263,266,267,268,269,272,273,274,275,276,277,280,281,282,283,284,285,289,292,295,298,299,300,301,302,303,304,305,306,307,308,309,312,313,316,317,318,319,322,324,325,326,327,328,329,332,335,336,337,338,339,340,341,342,343,344,345,346,347,348,349,350,351,352,353,354,355,356,357,358,359,360,361,362,363,364,365,366,367,368,371,372,373,374,375,376,377,378,379,380,381,382,383,384,385,388,389,390,391,392,393,394,395,396,397,398,399,400,401,402,403,404,405,406,407,412,413,414,415,416,417,418,419,420,421,422,423,424,425,426,427,428,429,430,431,432,433,434,435,436,437,438,439,440,441,442,443,444,445,446,447,448,449,450,451,452,453,454,455,456,457,458,459,460,461,462,463,464,465,471,472,473,474,475,476,479,480,481,482,483,484,485,486,487,488,489,490,491,492,493,494]
 403 [0,1,267,296,342,360,361,362,363,364,365,366,367,368,369,370,371,372,373,374,375,376,377,378,379,380,381,382,383,384,385,386,387,388,389,390,391,392,393,394,395,396,397,398,399,400,401]
 (by kernel_rfl) (by kernel_rfl) (by kernel_rfl)
end Go.Proofs.YtdomoelfhjdioaaGreatDoor.R
namespace Go.Proofs.YtdomoelfhjdioaaGreatDoor.R
open Go.Proofs.Tryz Go Go.RowKit Go.Proofs
theorem zr(x:Nat):IntKind.u32.wrap (x:Int)=((BitVec.ofNat 32 x).toNat:Int):=by rw [IntKind.wrap_u32,m8];omega
theorem nk(x y:BitVec 32):evalBin .or .u32 (x.toNat:Int) (y.toNat:Int)=some (eW (x|||y)):=by
 show some (Value.int .u32 (IntKind.u32.wrap ((BitVec.ofInt IntKind.u32.bits (x.toNat:Int)|||BitVec.ofInt IntKind.u32.bits (y.toNat:Int)).toNat:Int)))=_;rw [ofInt_u32,ofInt_u32];exact aH (λz=>some (Value.int .u32 z)) (tr _)
theorem hB(x y:BitVec 32):evalBin .add .u32 (x.toNat:Int) (y.toNat:Int)=some (eW (x+y)):=by
 show some (Value.int .u32 (IntKind.u32.wrap ((x.toNat:Int)+(y.toNat:Int))))=_;rw [<-Int.natCast_add,zr]
 congr 3
theorem nl(x:BitVec 32)(n:Nat)(h:n<=32):evalShift .shl .u32 (x.toNat:Int) (n:Int)=some (eW (x<<<n)):=by
 show some (Value.int .u32 (IntKind.u32.wrap ((x.toNat:Int)*2^(min ((n:Int).toNat) IntKind.u32.bits))))=_;have a:min ((n:Int).toNat) IntKind.u32.bits=n:=by show min ((n:Int).toNat) 32=n;rw [lB];omega
 rw [a,show(x.toNat:Int)*2^n=((x.toNat*2^n:Nat):Int) by simp,zr]
 congr 3
 rw [m8,BitVec.toNat_shiftLeft,Nat.shiftLeft_eq]
theorem lL(x:BitVec 32)(n:Nat)(h:n<=32):evalShift .shr .u32 (x.toNat:Int) (n:Int)=some (eW (x>>>n)):=by
 show some (Value.int .u32 ((x.toNat:Int).fdiv (2^(min ((n:Int).toNat) IntKind.u32.bits))))=_;have a:min ((n:Int).toNat) IntKind.u32.bits=n:=by show min ((n:Int).toNat) 32=n;rw [lB];omega
 rw [a,t9 _ (by exact Int.le_of_lt (Int.pow_pos (by decide))),show(2:Int)^n=((2^n:Nat):Int) by simp,<-Int.natCast_ediv]
 congr 3
 rw [BitVec.toNat_ushiftRight,Nat.shiftRight_eq_div_pow]
theorem yc(a b:Nat)(h:b<=a)(c:a<18446744073709551616):evalBin .sub .u64 (a:Int) (b:Int)=some (.int .u64 ((a-b:Nat):Int)):=by
 show some (Value.int .u64 (IntKind.u64.wrap ((a:Int)-(b:Int))))=_;rw [lz]
 congr 2
 omega
def kQ(x:BitVec 32)(n:Nat):BitVec 32:=(x>>>n)|||(x<<<(32-n))
def pt(x:BitVec 32):BitVec 32:=kQ x 7^^^kQ x 18^^^(x>>>3)
def pv(x:BitVec 32):BitVec 32:=kQ x 17^^^kQ x 19^^^(x>>>10)
def xu(x:BitVec 32):BitVec 32:=kQ x 2^^^kQ x 13^^^kQ x 22
def uu(x:BitVec 32):BitVec 32:=kQ x 6^^^kQ x 11^^^kQ x 25
def uB(x y z:BitVec 32):BitVec 32:=(x&&&y)^^^(~~~x&&&z)
def zn(x y z:BitVec 32):BitVec 32:=(x&&&y)^^^(x&&&z)^^^(y&&&z)
theorem lV{o:World}{x:BitVec 32}{n:Nat}(aJ:n<=32):Calls prog 169 #[eW x,.int .u64 n] o λr w=>r=eW (kQ x n)/\w=o:=by
 refine a2 func169 (aq 7 j (io j j j j (by omega) (lL x n aJ) ?_));exact bq 2 j j j (yc 32 n aJ (by decide)) (io j j j j (by omega) (nl x (32-n) (by omega)) (bq 0 j j j (nk _ _) (ao 1 j j ⟨j,j⟩)))
theorem HB{o:World}{x:BitVec 32}:Calls prog 118 #[eW x] o λr w=>r=eW (pt x)/\w=o:=by
 refine a2 func118 ?_;have a:=lV (o:=o) (x:=x) (n:=7) (by decide);refine bo 6 a j (λw hw=>?_);subst hw;have a:=lV (o:=w) (x:=x) (n:=18) (by decide);refine bo 1 a j (λw hw=>?_);subst hw;refine bq 0 j j j (hD _ _) (aq 1 j (io j j j j (by omega) (lL x 3 (by decide)) ?_));exact bq 0 j j j (hD _ _) (ao 1 j j ⟨j,j⟩)
theorem HC{o:World}{x:BitVec 32}:Calls prog 119 #[eW x] o λr w=>r=eW (pv x)/\w=o:=by
 refine a2 func119 ?_;have a:=lV (o:=o) (x:=x) (n:=17) (by decide);refine bo 6 a j (λw hw=>?_);subst hw;have a:=lV (o:=w) (x:=x) (n:=19) (by decide);refine bo 1 a j (λw hw=>?_);subst hw;refine bq 0 j j j (hD _ _) (aq 1 j (io j j j j (by omega) (lL x 10 (by decide)) ?_));exact bq 0 j j j (hD _ _) (ao 1 j j ⟨j,j⟩)
theorem CR{o:World}{x:BitVec 32}:Calls prog 122 #[eW x] o λr w=>r=eW (xu x)/\w=o:=by
 refine a2 func122 ?_;have a:=lV (o:=o) (x:=x) (n:=2) (by decide);refine bo 6 a j (λw hw=>?_);subst hw;have a:=lV (o:=w) (x:=x) (n:=13) (by decide);refine bo 1 a j (λw hw=>?_);subst hw;refine bq 0 j j j (hD _ _) ?_;have a:=lV (o:=w) (x:=x) (n:=22) (by decide);refine bo 1 a j (λw hw=>?_);subst hw;exact bq 0 j j j (hD _ _) (ao 1 j j ⟨j,j⟩)
theorem CS{o:World}{x:BitVec 32}:Calls prog 120 #[eW x] o λr w=>r=eW (uu x)/\w=o:=by
 refine a2 func120 ?_;have a:=lV (o:=o) (x:=x) (n:=6) (by decide);refine bo 6 a j (λw hw=>?_);subst hw;have a:=lV (o:=w) (x:=x) (n:=11) (by decide);refine bo 1 a j (λw hw=>?_);subst hw;refine bq 0 j j j (hD _ _) ?_;have a:=lV (o:=w) (x:=x) (n:=25) (by decide);refine bo 1 a j (λw hw=>?_);subst hw;exact bq 0 j j j (hD _ _) (ao 1 j j ⟨j,j⟩)
theorem choose_spec{o:World}{x y z:BitVec 32}:Calls prog 121 #[eW x,eW y,eW z] o λr w=>r=eW (uB x y z)/\w=o:=by
 refine a2 func121 (bq 7 j j j (lK _ _) (aq 1 j (B0 j j j (ya _) ?_)));exact bq 1 j j j (lK _ _) (bq 0 j j j (hD _ _) (ao 1 j j ⟨j,j⟩))
theorem F0{o:World}{x y z:BitVec 32}:Calls prog 123 #[eW x,eW y,eW z] o λr w=>r=eW (zn x y z)/\w=o:=by
 refine a2 func123 ?_;refine bq 7 j j j (lK _ _) ?_;refine bq 2 j j j (lK _ _) ?_;refine bq 0 j j j (hD _ _) ?_;refine bq 2 j j j (lK _ _) ?_;refine bq 0 j j j (hD _ _) ?_;refine ao 1 j j ?_;exact⟨j,j⟩
structure eP where
 a:BitVec 32
 b:BitVec 32
 c:BitVec 32
 d:BitVec 32
 e:BitVec 32
 f:BitVec 32
 g:BitVec 32
 h:BitVec 32
def eP.ws(s:eP):List (BitVec 32):=[s.a,s.b,s.c,s.d,s.e,s.f,s.g,s.h]
abbrev ga(l:List (BitVec 32)):List Value:=l.map eW
abbrev eP.cs(s:eP):List Value:=[eW s.a,eW s.b,eW s.c,eW s.d,eW s.e,eW s.f,eW s.g,eW s.h]
def o2(c:UInt8):BitVec 32:=BitVec.ofNat 32 c.toNat
def word(p:List UInt8)(i:Nat):BitVec 32:=(o2 (p.getD (4*i) 0)<<<24)|||(o2 (p.getD (4*i+1) 0)<<<16)|||(o2 (p.getD (4*i+2) 0)<<<8)|||o2 (p.getD (4*i+3) 0)
def words(p:List UInt8)(n:Nat):List (BitVec 32):=(List.range n).map (word p)
def nC(l:List (BitVec 32)):List (BitVec 32):=l++[l.getD (l.length-16) 0+pt (l.getD (l.length-15) 0)+l.getD (l.length-7) 0+pv (l.getD (l.length-2) 0)]
def dW(p:List UInt8):Nat->List (BitVec 32)
 |0=>words p 16
 |J+1=>nC (dW p J)
def fP:List (BitVec 32):=[1116352408#32,1899447441#32,3049323471#32,3921009573#32,961987163#32,1508970993#32,2453635748#32,2870763221#32,3624381080#32,310598401#32,607225278#32,1426881987#32,1925078388#32,2162078206#32,2614888103#32,3248222580#32,3835390401#32,4022224774#32,264347078#32,604807628#32,770255983#32,1249150122#32,1555081692#32,1996064986#32,2554220882#32,2821834349#32,2952996808#32,3210313671#32,3336571891#32,3584528711#32,113926993#32,338241895#32,666307205#32,773529912#32,1294757372#32,1396182291#32,1695183700#32,1986661051#32,2177026350#32,2456956037#32,2730485921#32,2820302411#32,3259730800#32,3345764771#32,3516065817#32,3600352804#32,4094571909#32,275423344#32,430227734#32,506948616#32,659060556#32,883997877#32,958139571#32,1322822218#32,1537002063#32,1747873779#32,1955562222#32,2024104815#32,2227730452#32,2361852424#32,2428436474#32,2756734187#32,3204031479#32,3329325298#32]
def Hq(k w:BitVec 32)(v:eP):eP:=
 ⟨v.h+uu v.e+uB v.e v.f v.g+k+w+(xu v.a+zn v.a v.b v.c),v.a,v.b,v.c,v.d+(v.h+uu v.e+uB v.e v.f v.g+k+w),v.e,v.f,v.g⟩
def rounds(p:List UInt8)(s:eP):Nat->eP
 |0=>s
 |i+1=>Hq (fP.getD i 0) ((dW p 48).getD i 0) (rounds p s i)
def eP.add(s v:eP):eP:=⟨s.a+v.a,s.b+v.b,s.c+v.c,s.d+v.d,s.e+v.e,s.f+v.f,s.g+v.g,s.h+v.h⟩
def js(p:List UInt8)(s:eP):eP:=s.add (rounds p s 64)
theorem ow(p:List UInt8)(n:Nat):(words p n).length=n:=by simp [words]
theorem Be(p:List UInt8)(n:Nat):words p (n+1)=words p n++[word p n]:=by simp [words,l9]
theorem hV(p:List UInt8):∀J,(dW p J).length=16+J
 |0=>ow p 16
 |J+1=>by show(nC (dW p J)).length=_;simp only [nC,b4,hV p J,List.length_cons,List.length_nil];omega
theorem BL:fP.length=64:=by decide
def fo(l:List (BitVec 32)):Array Value:=(ga l++List.replicate (64-l.length) (eW 0)).toArray
theorem lW{l:List (BitVec 32)}{J:Nat}(h:J<l.length):(fo l)[J]? =some (eW (l.getD J 0)):=by
 simp [fo,iC,h,List.getD]
theorem tn{l:List (BitVec 32)}(h:l.length<64)(x:BitVec 32):(fo l).setIfInBounds l.length (eW x)=fo (l++[x]):=by
 unfold fo;apply fC;simp only [Array.toList_setIfInBounds,b4,List.length_cons,List.length_nil,ga,List.map_append,List.map_cons,List.map_nil];rw [show 64-l.length=(64-(l.length+1))+1 by omega,tS];simp [List.set_append]
theorem tp{l:List (BitVec 32)}(h:l.length<=64):(fo l).size=64:=by simp [fo];omega
theorem jK(a b:Nat)(h:a*b<9223372036854775808):evalBin .mul .i64 (a:Int) (b:Int)=some (.int .i64 ((a*b:Nat):Int)):=by
 show some (Value.int .i64 (IntKind.i64.wrap ((a:Int)*(b:Int))))=_;rw [<-Int.natCast_mul,jX];generalize a*b=c at*;exact aH (λz=>some (Value.int .i64 z)) (by omega)
theorem gm(a b:Nat)(h:a+b<9223372036854775808):evalBin .add .i64 (a:Int) (b:Int)=some (.int .i64 ((a+b:Nat):Int)):=by
 show some (Value.int .i64 (IntKind.i64.wrap ((a:Int)+(b:Int))))=_;rw [jX];exact aH (λz=>some (Value.int .i64 z)) (by omega)
theorem hC(a b:Nat)(h:b<=a)(c:a<9223372036854775808):evalBin .sub .i64 (a:Int) (b:Int)=some (.int .i64 ((a-b:Nat):Int)):=by
 show some (Value.int .i64 (IntKind.i64.wrap ((a:Int)-(b:Int))))=_;rw [jX];exact aH (λz=>some (Value.int .i64 z)) (by omega)
theorem lG{p:List UInt8}{J:Nat}(h:J<p.length):(aG p)[J]? =some (bv (p.getD J 0)):=by simp [aG,h,List.getD]
theorem Gi{o:World}:Calls prog 57 #[] o λr w=>r= .agg (ga fP).toArray/\C o [] [] w:=by
 have a:Own [] o:=C.start o;refine e9 func57 (cl 2 a j (λcU w a=>aq 2 j (cP (c:=(ga fP).toArray) j j j (λ_=>by kernel_rfl) ?_)));refine ck 0 a j j j (by decide) (by decide) (λw a=>?_);have a:=C.whole (U:=ga fP) a j;refine bI 0 j ⟨_,hf (U:=ga fP) results57 j j j a.bE,?_⟩;exact⟨j,a.bare⟩
def mixed(s v:eP)(J:Nat):List Value:=(s.add v).cs.take J++s.cs.drop J
theorem pk{J:Nat}(h:J<8):J=0\/J=1\/J=2\/J=3\/J=4\/J=5\/J=6\/J=7:=by omega
theorem zi(s v:eP){J:Nat}(h:J<8):(mixed s v J).toArray.setIfInBounds J (eW (s.ws.getD J 0+v.ws.getD J 0))=(mixed s v (J+1)).toArray:=by
 rcases pk h with rfl|rfl|rfl|rfl|rfl|rfl|rfl|rfl<;>rfl
theorem zh(s v:eP){J:Nat}(h:J<8):(mixed s v J).toArray.size=8:=by
 rcases pk h with rfl|rfl|rfl|rfl|rfl|rfl|rfl|rfl<;>rfl
theorem zg(s v:eP){J:Nat}(h:J<8):(mixed s v J).toArray[J]? =some (eW (s.ws.getD J 0)):=by
 rcases pk h with rfl|rfl|rfl|rfl|rfl|rfl|rfl|rfl<;>rfl
theorem r4(v:eP){J:Nat}(h:J<8):v.cs.toArray[J]? =some (eW (v.ws.getD J 0)):=by
 rcases pk h with rfl|rfl|rfl|rfl|rfl|rfl|rfl|rfl<;>rfl
theorem wz{i:Nat}(h:i<64):(ga fP).toArray[i]? =some (eW (fP.getD i 0)):=by
 have:i<fP.length:=by rw [BL];exact h
 simp [ga,this,List.getD]
theorem ph{w:World}{b off:Nat}{c:Array Value}{e:TypeId}{e3:Nat×Nat}{v:Value}(h:w.heap[b]? =some (.cells c e e3))(a:c[off]? =some v):w.cell? ⟨b,off,none⟩=some v:=by simp [World.cell?,h,a]
theorem AP{o:World}{ba ej:Nat}{s:eP}{A:Option Addr}{p:List UInt8}{c:Nat}(d:Own [R ba s.cs.toArray 139] o)(q:Rd o A (aG p))(v:bX A (aG p) (au [R ba s.cs.toArray 139]))(aa:o.heap[ej]? =some (.cells (ga fP).toArray 140 (0,0)))(O:ej≠ba)(S:64<=p.length):Calls prog 58 #[ab ba,.slice A p.length c,ab ej] o λr w=>r= .tuple #[]/\C o (au [R ba s.cs.toArray 139]) [R ba (js p s).cs.toArray 139] w:=by
 obtain⟨u,rfl,_⟩:=q 0 (bv (p.getD 0 0)) (lG (by omega));have P:ej<o.heap.size:=(gv.1 aa).1;have Q:ej∉(au [R ba s.cs.toArray 139]):=by simpa [au] using O
 refine a2 func58 (cl 2 d j (λm w d=>?_));have d:C o (au [R ba s.cs.toArray 139]) (R m (fo (words p 0)) 140::_) w:=d;refine cH 5 j (ct:=Nat) (λi=>[(0,ab ba),(1,.slice (some u) p.length c),(2,ab ej),(6,ab m),(14,.int .i64 (i:Nat))]) (λi w=>i<=16/\C o (au [R ba s.cs.toArray 139]) [R m (fo (words p i)) 140,R ba s.cs.toArray 139] w) (λi=>16-i) 0 ⟨j,j,j,j,j,aY⟩ ⟨b6 _,d⟩ ?_;rintro i w ⟨H,d⟩;refine cm 4 j j (λD=>?_) (λD=>?_)
 .have k:i<16:=by omega
  have d:=d.drew;refine bw 7 j (λw=>C o (au [R ba s.cs.toArray 139]) [R m (fo (words p i)) 140,R ba s.cs.toArray 139] w) d ?_;refine af 0 3 j (aT 3 j (λw _=>dq j j (jK 4 i (by omega))) (aT 4 j (λw _=>mL (J:=4*i) j j (by omega)) (bT 5 j (λw h=>Rd.cell (h.rd q v) (lG (J:=4*i) (by omega))) (aT 6 j (λw _=>kC j (ni _)) (aT 7 j (λw _=>mM j j (by omega) (nl _ 24 (by decide))) (af 8 2 j (aT 10 j (λw _=>dq j j (jK 4 i (by omega))) (aT 11 j (λw _=>dq j j (gm (4*i) 1 (by omega))) (aT 12 j (λw _=>mL (J:=4*i+1) j j (by omega)) (bT 13 j (λw h=>Rd.cell (h.rd q v) (lG (J:=4*i+1) (by omega))) ?_))))))))));refine aT 14 j (λw _=>kC j (ni _)) (aT 15 j (λw _=>mM j j (by omega) (nl _ 16 (by decide))) (aT 16 j (λw _=>dq j j (nk _ _)) (af 17 2 j (aT 19 j (λw _=>dq j j (jK 4 i (by omega))) (aT 20 j (λw _=>dq j j (gm (4*i) 2 (by omega))) (aT 21 j (λw _=>mL (J:=4*i+2) j j (by omega)) (bT 22 j (λw h=>Rd.cell (h.rd q v) (lG (J:=4*i+2) (by omega))) (aT 23 j (λw _=>kC j (ni _)) (aT 24 j (λw _=>mM j j (by omega) (nl _ 8 (by decide))) ?_)))))))));refine aT 25 j (λw _=>dq j j (nk _ _)) (af 26 2 j (aT 28 j (λw _=>dq j j (jK 4 i (by omega))) (aT 29 j (λw _=>dq j j (gm (4*i) 3 (by omega))) (aT 30 j (λw _=>mL (J:=4*i+3) j j (by omega)) (bT 31 j (λw h=>Rd.cell (h.rd q v) (lG (J:=4*i+3) (by omega))) (aT 32 j (λw _=>kC j (ni _)) (aT 33 j (λw _=>dq j j (nk _ _)) (aT 34 j (λw _=>fb (J:=i) j j (by omega)) (dy 35 j (cC d j j j j (by rw [tp (by rw [ow];omega)];omega) (λw d=>?_)))))))))))
  have d:C o (au [R ba s.cs.toArray 139]) [[(m,.cells (fo (words p (i+1))) 140 (0,0))],R ba s.cs.toArray 139] w:=by
   have e:=tn (l:=words p i) (by rw [ow];omega) (word p i);rw [ow,<-Be] at e;rw [<-e];exact d
  exact ar (cX (bq 1 j j j (cM i (by omega)) (bP 1 j ⟨i+1,⟨j,j,j,j,j,aY⟩,⟨k,d⟩,by omega⟩)))
 have I:i=16:=by omega
 subst I;refine cH 6 j (ct:=Nat) (λJ=>[(0,ab ba),(1,.slice (some u) p.length c),(2,ab ej),(6,ab m),(8,.int .i64 (16+J:Nat))]) (λJ w=>J<=48/\C o (au [R ba s.cs.toArray 139]) [R m (fo (dW p J)) 140,R ba s.cs.toArray 139] w) (λJ=>48-J) 0 ⟨j,j,j,j,j,aY⟩ ⟨b6 _,d⟩ ?_;rintro J w ⟨L,d⟩;refine cm 5 j j (λE=>?_) (λE=>?_)
 .have k:J<48:=by omega
  have T:=hV p J;have d:=d.drew;refine bw 3 j (λw=>C o (au [R ba s.cs.toArray 139]) [R m (fo (dW p J)) 140,R ba s.cs.toArray 139] w) d (af 0 2 j (aT 2 j (λw _=>dq j j (hC (16+J) 16 (by omega) (by omega))) (aT 3 j (λw _=>fb (J:=16+J-16) j j (by omega)) (bT 4 j (λw h=>h.cell (lW (by rw [hV];omega))) (af 5 1 j (aT 6 j (λw _=>dq j j (hC (16+J) 15 (by omega) (by omega))) (aT 7 j (λw _=>fb (J:=16+J-15) j j (by omega)) ?_)))))));refine bT 8 j (λw h=>h.cell (lW (by rw [hV];omega))) (af 11 1 j (aT 12 j (λw _=>dq j j (hC (16+J) 7 (by omega) (by omega))) (aT 13 j (λw _=>fb (J:=16+J-7) j j (by omega)) (bT 14 j (λw h=>h.cell (lW (by rw [hV];omega))) (af 16 1 j (aT 17 j (λw _=>dq j j (hC (16+J) 2 (by omega) (by omega))) (aT 18 j (λw _=>fb (J:=16+J-2) j j (by omega)) (bT 19 j (λw h=>h.cell (lW (by rw [hV];omega))) (aU 9 j (bF j j j (HB (o:=_) (x:=(dW p J).getD (16+J-15) 0)) (λt hw=>?_)))))))))));subst hw;refine ar ⟨d,?_⟩;refine aT 10 j (λw _=>dq j j (hB _ _)) (aT 15 j (λw _=>dq j j (hB _ _)) (aU 20 j (bF j j j (HC (o:=_) (x:=(dW p J).getD (16+J-2) 0)) (λt hw=>?_))));subst hw;refine ar ⟨d,?_⟩;refine aT 21 j (λw _=>dq j j (hB _ _)) (aT 22 j (λw _=>fb (J:=16+J) j j (by omega)) (dy 23 j (cC d j j j j (by rw [tp (by rw [hV];omega)];omega) (λw d=>?_))))
  have d:C o (au [R ba s.cs.toArray 139]) [[(m,.cells (fo (dW p (J+1))) 140 (0,0))],R ba s.cs.toArray 139] w:=by
   have G:dW p (J+1)=dW p J++[(dW p J).getD (16+J-16) 0+pt ((dW p J).getD (16+J-15) 0)+(dW p J).getD (16+J-7) 0+pv ((dW p J).getD (16+J-2) 0)]:=by
    show nC (dW p J)=_;unfold nC;rw [hV]
   have e:=tn (l:=dW p J) (by rw [hV];omega) ((dW p J).getD (16+J-16) 0+pt ((dW p J).getD (16+J-15) 0)+(dW p J).getD (16+J-7) 0+pv ((dW p J).getD (16+J-2) 0));rw [hV] at e;rw [G,<-e];exact d
  exact ar (cX (bq 2 j j j (cM (16+J) (by omega)) (bP 1 j ⟨J+1,⟨j,j,j,j,j,aY⟩,⟨k,d⟩,by omega⟩)))
 have M:J=48:=by omega
 subst M;refine bN 5 (U:=s.cs) j j j d.f1.bE (cl 0 d j (λn w d=>ck 0 d j j j j j (λw d=>?_)));have d:C o (au [R ba s.cs.toArray 139]) (R n (rounds p s 0).cs.toArray 139::_) w:=C.whole (U:=s.cs) d j;refine cH 5 j (ct:=Nat) (λi=>[(0,ab ba),(1,.slice (some u) p.length c),(2,ab ej),(6,ab m),(9,ab n),(83,.int .i64 (i:Nat))]) (λi w=>i<=64/\C o (au [R ba s.cs.toArray 139]) [R n (rounds p s i).cs.toArray 139,R m (fo (dW p 48)) 140,R ba s.cs.toArray 139] w) (λi=>64-i) 0 ⟨j,j,j,j,j,j,aY⟩ ⟨b6 _,d⟩ ?_;rintro i w ⟨H,d⟩;refine cm 4 j j (λF=>?_) (λF=>?_)
 .have k:i<64:=by omega
  have d:=d.drew;refine bw 8 j (λw=>C o (au [R ba s.cs.toArray 139]) [R n (rounds p s i).cs.toArray 139,R m (fo (dW p 48)) 140,R ba s.cs.toArray 139] w) d (aT 0 j (λw _=>fb (J:=7) j j (by decide)) (bT 1 j (λw h=>h.cell j) (aT 2 j (λw _=>fb (J:=4) j j (by decide)) (bT 3 j (λw h=>h.cell j) (aT 6 j (λw _=>fb (J:=4) j j (by decide)) ?_)))));refine bT 7 j (λw h=>h.cell j) (aT 8 j (λw _=>fb (J:=5) j j (by decide)) (bT 9 j (λw h=>h.cell j) (aT 10 j (λw _=>fb (J:=6) j j (by decide)) (bT 11 j (λw h=>h.cell j) (af 14 3 j (aT 17 j (λw _=>fb (J:=i) j j k) (bT 18 j (λw h=>ph ((h.fX ej P Q).trans aa) (wz k)) (af 20 1 j (aT 21 j (λw _=>fb (J:=i) j j k) (bT 22 j (λw h=>h.f1.cell (lW (by rw [hV];omega))) (aU 4 j (bF j j j (CS (o:=_) (x:=(rounds p s i).e)) (λt hw=>?_)))))))))))));subst hw;refine ar ⟨d,?_⟩;refine aT 5 j (λw _=>dq j j (hB _ _)) (aU 12 j (bF j j j (choose_spec (o:=_) (x:=(rounds p s i).e) (y:=(rounds p s i).f) (z:=(rounds p s i).g)) (λt hw=>?_)));subst hw;refine ar ⟨d,?_⟩;refine aT 13 j (λw _=>dq j j (hB _ _)) (aT 19 j (λw _=>dq j j (hB _ _)) (aT 23 j (λw _=>dq j j (hB _ _)) (af 24 1 j (bK ?_))));have d:=d.drew;refine bw 1 j (λw=>C o (au [R ba s.cs.toArray 139]) [R n (rounds p s i).cs.toArray 139,R m (fo (dW p 48)) 140,R ba s.cs.toArray 139] w) d (aT 0 j (λw _=>fb (J:=0) j j (by decide)) (bT 1 j (λw h=>h.cell j) (aT 3 j (λw _=>fb (J:=0) j j (by decide)) (bT 4 j (λw h=>h.cell j) (aT 5 j (λw _=>fb (J:=1) j j (by decide)) (bT 6 j (λw h=>h.cell j) (aT 7 j (λw _=>fb (J:=2) j j (by decide)) (bT 8 j (λw h=>h.cell j) (aU 2 j (bF j j j (CR (o:=_) (x:=(rounds p s i).a)) (λt hw=>?_)))))))))));subst hw;refine ar ⟨d,?_⟩;refine aU 9 j (bF j j j (F0 (o:=_) (x:=(rounds p s i).a) (y:=(rounds p s i).b) (z:=(rounds p s i).c)) (λt hw=>?_));subst hw;refine ar ⟨d,?_⟩;refine aT 10 j (λw _=>dq j j (hB _ _)) (af 11 1 j (bK (bq 3 j j j (hB _ _) (hv (J:=0) j j j j (by decide) (al 0 j (aw (C.ak d) j) (hv (J:=1) j j j j (by decide) ?_))))));refine al 0 j (aw (C.ak d) j) (hv (J:=2) j j j j (by decide) (al 0 j (aw (C.ak d) j) (hv (J:=3) j j j j (by decide) (al 0 j (aw (C.ak d) j) (bq 1 j j j (hB _ _) (hv (J:=4) j j j j (by decide) (al 0 j (aw (C.ak d) j) (hv (J:=5) j j j j (by decide) (al 0 j (aw (C.ak d) j) (hv (J:=6) j j j j (by decide) (al 0 j (aw (C.ak d) j) (cP (c:=(rounds p s (i+1)).cs.toArray) j j j (λ_=>by kernel_rfl) (ck 0 d j j j j j (λw d=>?_))))))))))))));have d:C o (au [R ba s.cs.toArray 139]) (R n (rounds p s (i+1)).cs.toArray 139::_) w:=C.whole (U:=(rounds p s (i+1)).cs) d (Eq.refl 8);exact bq 1 j j j (cM i (by omega)) (bP 1 j ⟨i+1,⟨j,j,j,j,j,j,aY⟩,⟨k,d⟩,by omega⟩)
 have K:i=64:=by omega
 subst K;have d:=d.f2;refine cH 5 j (ct:=Nat) (λJ=>[(0,ab ba),(1,.slice (some u) p.length c),(2,ab ej),(6,ab m),(9,ab n),(142,.int .i64 (J:Nat))]) (λJ w=>J<=8/\C o (au [R ba s.cs.toArray 139]) [R ba (mixed s (rounds p s 64) J).toArray 139,R n (rounds p s 64).cs.toArray 139,R m (fo (dW p 48)) 140] w) (λJ=>8-J) 0 ⟨j,j,j,j,j,j,aY⟩ ⟨b6 _,d⟩ ?_;rintro J w ⟨L,d⟩;refine cm 4 j j (λB=>?_) (λB=>?_)
 .have k:J<8:=by omega
  have d:=d.drew;refine bw 7 j (λw=>C o (au [R ba s.cs.toArray 139]) [R ba (mixed s (rounds p s 64) J).toArray 139,R n (rounds p s 64).cs.toArray 139,R m (fo (dW p 48)) 140] w) d (af 0 3 j (aT 3 j (λw _=>fb (J:=J) j j k) (bT 4 j (λw h=>h.cell (zg s (rounds p s 64) k)) (af 5 1 j (aT 6 j (λw _=>fb (J:=J) j j k) (bT 7 j (λw h=>h.f1.cell (r4 _ k)) (aT 8 j (λw _=>dq j j (hB _ _)) (af 9 1 j (aT 10 j (λw _=>fb (J:=J) j j k) (dy 11 j (cC d j j j j (by rw [zh _ _ k];exact k) (λw d=>?_))))))))))));have d:C o (au [R ba s.cs.toArray 139]) [R ba (mixed s (rounds p s 64) (J+1)).toArray 139,R n (rounds p s 64).cs.toArray 139,R m (fo (dW p 48)) 140] w:=by rw [<-zi s (rounds p s 64) k];exact d
  exact ar (cX (bq 1 j j j (cM J (by omega)) (bP 1 j ⟨J+1,⟨j,j,j,j,j,j,aY⟩,⟨k,d⟩,by omega⟩)))
 refine ao 1 j j ?_;have N:J=8:=by omega
 subst N;exact⟨j,d.hT⟩
def gM:eP:=⟨0x6a09e667#32,0xbb67ae85#32,0x3c6ef372#32,0xa54ff53a#32,0x510e527f#32,0x9b05688c#32,0x1f83d9ab#32,0x5be0cd19#32⟩
def ko(p:List UInt8):Nat->eP
 |0=>gM
 |k+1=>js (p.drop (64*k)) (ko p k)
def lT(p:List UInt8):List UInt8:=p.drop (64*(p.length/64))
def ek(p:List UInt8):Nat:=if 56<=p.length%64 then 128 else 64
def hs(g:Nat->UInt8):List UInt8:=(List.range 128).map g
def kL(p:List UInt8)(J i:Nat):UInt8:=if i<p.length%64 then(lT p).getD i 0 else if i=p.length%64 then 128 else if ek p-J<=i/\i<ek p then UInt8.ofNat ((8*p.length)>>>(8*(ek p-1-i))) else 0
def mq(p:List UInt8):List UInt8:=hs (kL p 8)
def kZ(p:List UInt8):Nat->eP
 |0=>ko p (p.length/64)
 |m+1=>js ((mq p).drop (64*m)) (kZ p m)
def b1(x:BitVec 32):UInt8:=UInt8.ofNat x.toNat
def vT(x:BitVec 32):List UInt8:=[b1 (x>>>24),b1 (x>>>16),b1 (x>>>8),b1 x]
def eP.out(s:eP):List UInt8:=s.ws.flatMap vT
def bO(p:List UInt8):List UInt8:=(kZ p (ek p/64)).out
theorem C.zu{o w:World}{F:List Nat}{ae:List (List Chunk)}{b:Nat}{I:Obj}(h:C o F ([(b,I)]::ae) w):b∉au ae:=λa=>by
 have:=h.nodup;rw [pf] at this;exact(iR.1 this).2.2 b (by simp [au]) b a j
theorem Hc{w:World}{A:Option Addr}{U:List Value}(h:U=[]):Rd w A U:=by subst h;exact Rd.nil _ _
theorem pb(g:Nat->UInt8):(hs g).length=128:=by simp [hs]
theorem qu(g:Nat->UInt8){i:Nat}(h:i<128):(hs g)[i]? =some (g i):=by simp [hs,h]
theorem yl{g a:Nat->UInt8}(h:∀k,k<128->g k=a k):hs g=hs a:=ub (λk aa=>h k (m6.1 aa))
theorem ym(g:Nat->UInt8){i:Nat}(h:i<128)(v:UInt8):(aG (hs g)).toArray.setIfInBounds i (bv v)=(aG (hs λk=>if k=i then v else g k)).toArray:=by
 apply fC;simp only [Array.toList_setIfInBounds,aG];apply oG;intro k;rw [List.getElem?_set];simp only [fB,pb,gN];by_cases aa:k<128
 .by_cases a:i=k
  .subst a;simp [h,qu _ h]
  .rw [aI a,qu _ aa,qu _ aa,aI (λe=>a e.symm)]
 .have e:∀g,(hs g)[k]? =none:=λg=>lv (by rw [pb];omega)
  rw [e,e,aI (by omega)]
theorem Et(r:List UInt8)(h:r.length<=128):aG r++(List.replicate 128 (bv 0)).drop (0+(aG r).length)=aG (hs λk=>if k<r.length then r.getD k 0 else 0):=by
 apply oG;intro k;simp only [aG,List.drop_replicate,fB];by_cases aa:k<128
 .rw [gN,qu _ aa];by_cases a:k<r.length
  .rw [iC (by simpa using a)];simp [a,List.getD]
  .rw [jf (by simpa using Nat.le_of_not_lt a),List.getElem?_replicate,List.length_map,if_pos (by omega),if_neg a];rfl
 .rw [lv (by simp only [b4,List.length_map,List.length_replicate];omega),List.getElem?_eq_none (by rw [List.length_map,pb];omega)]
theorem q1(p:List UInt8):(lT p).length=p.length%64:=by simp only [lT,iT];omega
theorem ii(p:List UInt8):(ek p=128/\56<=p.length%64)\/(ek p=64/\p.length%64<56):=by unfold ek;split<;>omega
theorem Fl(p:List UInt8):(hs λk=>if k=p.length%64 then(128:UInt8) else if k<(lT p).length then(lT p).getD k 0 else 0)=hs (kL p 0):=yl λk aa=>by
 rw [q1];unfold kL;by_cases a:k=p.length%64
 .subst a;simp
 .by_cases b:k<p.length%64
  .simp [a,b]
  .have:¬(ek p-0<=k/\k<ek p):=by omega
   rw [aI a,aI b,aI b,aI a,aI this]
theorem Fm(p:List UInt8){J:Nat}(f:J<8):(hs λk=>if k=ek p-1-J then UInt8.ofNat ((8*p.length)>>>(8*J)) else kL p J k)=hs (kL p (J+1)):=yl λk aa=>by
 unfold kL;have aJ:p.length%64<64:=jE _ (by decide);by_cases b:k=ek p-1-J
 .have c:¬k<p.length%64:=by rcases ii p with h|h<;>omega
  have d:k≠p.length%64:=by rcases ii p with h|h<;>omega
  have a:ek p-(J+1)<=k/\k<ek p:=by rcases ii p with h|h<;>omega
  have e:ek p-1-k=J:=by rcases ii p with h|h<;>omega
  rw [a6 b,aI c,aI d,a6 a,e]
 .rw [aI b];have a:(ek p-(J+1)<=k/\k<ek p)↔(ek p-J<=k/\k<ek p):=by rcases ii p with h|h<;>omega
  simp only [a]
theorem qm(x:BitVec 32):IntKind.u8.wrap (x.toNat:Int)=((b1 x).toNat:Int):=by
 rw [mf];unfold b1;rw [oY];omega
theorem xO(x:Nat):IntKind.u8.wrap (x:Int)=((UInt8.ofNat x).toNat:Int):=by
 rw [mf,oY];omega
theorem Ek(n:Nat)(h:n<=1000000000):evalShift .shl .u64 (n:Int) 3=some (.int .u64 ((8*n:Nat):Int)):=by
 show some (Value.int .u64 (IntKind.u64.wrap ((n:Int)*2^(min (3:Int).toNat IntKind.u64.bits))))=_;rw [show(2:Int)^(min (3:Int).toNat IntKind.u64.bits)=8 by decide,lz];exact aH (λz=>some (Value.int .u64 z)) (by omega)
theorem yb(x n:Nat)(h:n<=64):evalShift .shr .u64 (x:Int) (n:Int)=some (.int .u64 ((x>>>n:Nat):Int)):=by
 show some (Value.int .u64 ((x:Int).fdiv (2^(min ((n:Int).toNat) IntKind.u64.bits))))=_;have a:min ((n:Int).toNat) IntKind.u64.bits=n:=by show min ((n:Int).toNat) 64=n;rw [lB];omega
 rw [a,t9 _ (by exact Int.le_of_lt (Int.pow_pos (by decide))),show(2:Int)^n=((2^n:Nat):Int) by simp,<-Int.natCast_ediv,Nat.shiftRight_eq_div_pow]
def gL(s:eP)(J:Nat):List UInt8:=((s.ws.take J).flatMap vT)++List.replicate (32-4*J) 0
theorem GO(s:eP){J:Nat}(h:J<8):((((aG (gL s J)).toArray.setIfInBounds (4*J) (bv (b1 (s.ws.getD J 0>>>24)))).setIfInBounds (4*J+1) (bv (b1 (s.ws.getD J 0>>>16)))).setIfInBounds (4*J+2) (bv (b1 (s.ws.getD J 0>>>8)))).setIfInBounds (4*J+3) (bv (b1 (s.ws.getD J 0)))=(aG (gL s (J+1))).toArray:=by
 obtain⟨a,s1,s2,b,c,d,e,f⟩:=s;rcases pk h with rfl|rfl|rfl|rfl|rfl|rfl|rfl|rfl<;>simp [gL,eP.ws,vT,aG,List.replicate]
theorem pn(s:eP){J:Nat}(h:J<=8):(gL s J).length=32:=by
 have:J=0\/J=1\/J=2\/J=3\/J=4\/J=5\/J=6\/J=7\/J=8:=by omega
 rcases this with rfl|rfl|rfl|rfl|rfl|rfl|rfl|rfl|rfl<;>rfl
theorem eP.Dd(s:eP):(aG s.out).length=32:=by rw [ds];rfl
theorem eP.vU(s:eP):s.out.length=32:=rfl
theorem e7(p:List UInt8):(bO p).length=32:=eP.vU _
theorem q2(p:List UInt8):(aG (bO p)).length=32:=eP.Dd _
theorem pA{o:World}{A:Option Addr}{p:List UInt8}{c:Nat}(Q:Rd o A (aG p))(K:p.length<=1000000000)(E:p.length<=c):Calls prog 30 #[.slice A p.length c] o λr w=>r= .agg (aG (bO p)).toArray/\C o [] [] w:=by
 have a:Own [] o:=C.start o;refine e9 func30 (cl 2 a j (λaO w a=>?_));have a:C o [] [R aO (aG (gL gM 0)).toArray 79] w:=a;refine aq 2 j (cP (c:=gM.cs.toArray) j j j (λ_=>by kernel_rfl) ?_);refine cl 0 a j (λb w a=>ck 0 a j j j j j (λw a=>?_));have a:C o [] [R b (ko p 0).cs.toArray 139,R aO (aG (gL gM 0)).toArray 79] w:=C.whole (U:=gM.cs) a j;have l:=Gi (o:=w);refine bo 2 l j (λw aa=>?_);have a:=a.aM aa;refine cl 0 a j (λd w a=>ck 0 a j j j (by decide) (by decide) (λw a=>?_));have a:=C.whole (U:=ga fP) a j;refine cH 6 j (ct:=Nat×Option Addr×Nat) (λi=>[(0,.slice A p.length c),(2,ab aO),(3,ab b),(4,ab d),(5,.slice i.2.1 (p.drop (64*i.1)).length i.2.2)]) (λi w=>64*i.1<=p.length/\(p.drop (64*i.1)).length<=i.2.2/\Rd o i.2.1 (aG (p.drop (64*i.1)))/\C o [] [R d (ga fP).toArray 140,R b (ko p i.1).cs.toArray 139,R aO (aG (gL gM 0)).toArray 79] w) (λi=>p.length-64*i.1) (0,A,c) ⟨j,j,j,j,j,aY⟩ ⟨by omega,by simpa using E,by simpa using Q,a⟩ ?_;rintro⟨k,B,aX⟩ w ⟨M,L,q,a⟩;dsimp only at M L q a⊢;have hlen:(p.drop (64*k)).length=p.length-64*k:=iT;refine cm 6 j j (λt=>?_) (λt=>?_)
 .have T:=t;have z:d≠b:=λe=>C.zu a (by subst e;simp [au])
  have l:=AP (s:=ko p k) (p:=p.drop (64*k)) (c:=aX) a.f1.j7 (a.rd q (bX.of_nil _ _)) ((a.apart q (bX.of_nil _ _)).sub (fI (by simp))) a.first z (t|>λh=>by omega);refine bh 5 l j (λr w⟨_,aa⟩=>?_);have a:C o [] (R b (ko p (k+1)).cs.toArray 139::_) w:=a.f1.iu aa;have a:=a.f1;refine aq 2 j (oD (i:=64) j j j j (by omega) ?_);refine bP 1 j ?_;have u:p.drop (64*(k+1))=(p.drop (64*k)).drop 64:=by rw [rF];congr 1
  refine⟨(k+1,(if aX=64 then B else B.map (·.add (64*1))),aX-64),⟨j,j,j,j,?_,aY⟩,⟨by dsimp only;omega,by dsimp only;rw [u,iT (i:=64)];omega,?_,a⟩,by dsimp only;omega⟩
  .show some (Value.slice _ ((p.drop (64*k)).length-64) _)=some (Value.slice _ (p.drop (64*(k+1))).length _);rw [u,iT (i:=64)]
  dsimp only;rw [u,show aG ((p.drop (64*k)).drop 64)=(aG (p.drop (64*k))).drop 64 by simp [aG]];split
  .rename_i E;exact Hc (by simp [aG];omega)
  exact q.drop 64
 have aa:k=p.length/64:=by omega
 subst aa;have W:p.length%64<64:=jE _ (by decide);refine cl 3 a j (λf w a=>aq 2 j (mS j j j ?_));refine aq 1 j (wH (off:=0) (news:=aG (lT p)) a j j j j (by rw [ds];exact(mX (by rw [q1];omega)).symm) (.inr j) (a.rd q (bX.of_nil _ _)) (fc _) (by rw [ds,q1];show 0+_<=128;omega) (λw a=>?_));refine bS 26 (.int .i64 (p.length%64:Nat)) j (by rw [ds,q1]) ?_
 have a:C o [] [[(f,.cells (aG (hs λk=>if k<(lT p).length then(lT p).getD k 0 else 0)).toArray 144 (0,0))],R d (ga fP).toArray 140,R b (ko p (p.length/64)).cs.toArray 139,R aO (aG (gL gM 0)).toArray 79] w:=by
  rw [<-Et (lT p) (by rw [q1];omega)];exact a
 refine aq 4 j (hv (J:=p.length%64) j j j j (by omega) ?_);refine cC a j j j j (by simp [ds,pb];omega) (λw a=>?_)
 have a:C o [] [[(f,.cells (aG (hs (kL p 0))).toArray 144 (0,0))],R d (ga fP).toArray 140,R b (ko p (p.length/64)).cs.toArray 139,R aO (aG (gL gM 0)).toArray 79] w:=by
  rw [<-Fl,<-ym _ (by omega)];exact a
 refine mm 3 j (λZ w=>sub Z [(0,.slice A p.length c),(2,ab aO),(3,ab b),(4,ab d),(6,ab f),(8,.int .i64 (ek p:Nat))]/\C o [] [[(f,.cells (aG (hs (kL p 0))).toArray 144 (0,0))],R d (ga fP).toArray 140,R b (ko p (p.length/64)).cs.toArray 139,R aO (aG (gL gM 0)).toArray 79] w) ?_ ?_
 .refine cm 4 j j (λG=>?_) (λG=>?_);refine bP 2 j ?_;rotate_left
  refine bP 1 j ?_;rotate_left
  all_goals
   refine⟨⟨j,j,j,j,j,?_,aY⟩,a⟩
   first
    |exact aH (λx:Nat=>some (Value.int .i64 (x:Int))) (show 128=ek p by unfold ek;rw [if_pos (by omega)])
    |exact aH (λx:Nat=>some (Value.int .i64 (x:Int))) (show 64=ek p by unfold ek;rw [if_neg (by omega)])
 rintro Z w ⟨aL,a⟩;refine l4 [(0,.slice A p.length c),(2,ab aO),(3,ab b),(4,ab d),(6,ab f),(8,.int .i64 (ek p:Nat))] aL (aq 4 j (gt j j j (nh _ (by omega)) ?_));refine io j j j j (by omega) (Ek p.length K) (cH 6 j (ct:=Nat) (λJ=>[(0,.slice A p.length c),(2,ab aO),(3,ab b),(4,ab d),(6,ab f),(8,.int .i64 (ek p:Nat)),(9,.int .u64 (8*p.length:Nat)),(35,.int .i64 (J:Nat))]) (λJ w=>J<=8/\C o [] [[(f,.cells (aG (hs (kL p J))).toArray 144 (0,0))],R d (ga fP).toArray 140,R b (ko p (p.length/64)).cs.toArray 139,R aO (aG (gL gM 0)).toArray 79] w) (λJ=>8-J) 0 ⟨j,j,j,j,j,j,j,j,aY⟩ ⟨b6 _,a⟩ ?_);rintro J w ⟨n,a⟩;refine cm 4 j j (λH=>?_) (λH=>?_)
 .have g:J<8:=by omega
  refine bq 9 j j j (hC (ek p) 1 (by rcases ii p with h|h<;>omega) (by rcases ii p with h|h<;>omega)) (bq 1 j j j (hC (ek p-1) J (by rcases ii p with h|h<;>omega) (by rcases ii p with h|h<;>omega)) (bq 2 j j j (jK 8 J (by omega)) (io j j j j (by omega) (yb (8*p.length) (8*J) (by omega)) (gt j j j (xO _) (hv (J:=ek p-1-J) j j j j (by rcases ii p with h|h<;>omega) (cC a j j j j (by simp [ds,pb];rcases ii p with h|h<;>omega) (λw a=>?_)))))))
  have a:C o [] [[(f,.cells (aG (hs (kL p (J+1)))).toArray 144 (0,0))],R d (ga fP).toArray 140,R b (ko p (p.length/64)).cs.toArray 139,R aO (aG (gL gM 0)).toArray 79] w:=by
   rw [<-Fm p g,<-ym _ (by rcases ii p with h|h<;>omega)];exact a
  exact bq 1 j j j (cM J (by omega)) (bP 1 j ⟨J+1,⟨j,j,j,j,j,j,j,j,aY⟩,⟨g,a⟩,by omega⟩)
 have y:J=8:=by omega
 subst y;refine cH 6 j (ct:=Nat) (λm=>[(0,.slice A p.length c),(2,ab aO),(3,ab b),(4,ab d),(6,ab f),(8,.int .i64 (ek p:Nat)),(11,.int .i64 (64*m:Nat))]) (λm w=>64*m<=ek p/\C o [] [R f (aG (mq p)).toArray 144,R d (ga fP).toArray 140,R b (kZ p m).cs.toArray 139,R aO (aG (gL gM 0)).toArray 79] w) (λm=>ek p-64*m) 0 ⟨j,j,j,j,j,j,j,aY⟩ ⟨by omega,a⟩ ?_;rintro m w ⟨hm,a⟩;refine cm 6 j j (λD=>?_) (λD=>?_)
 .have g:64*m<ek p:=by omega
  have V:64*m+64<=128:=by rcases ii p with h|h<;>omega
  refine aq 5 j (BU (i:=64*m) j j j j (by omega) ?_);have z:d≠b:=λe=>C.zu a.f1 (by subst e;simp [au])
  have N:(mq p).length=128:=pb _
  have S:Rd w (some ⟨f,64*m,none⟩) (aG ((mq p).drop (64*m))):=a.i6 (λi v F=>by
   rw [show aG ((mq p).drop (64*m))=(aG (mq p)).drop (64*m) by simp [aG],lA] at F;simpa using F)
  have O:((mq p).drop (64*m)).length=128-64*m:=by rw [iT,N]
  have l:=AP (s:=kZ p m) (p:=(mq p).drop (64*m)) (c:=128-64*m) a.f2.j7 S ((a.iV).sub (fI (by simp))) a.f1.first z (by omega);rw [O] at l;refine bh 0 l j (λr w⟨_,aa⟩=>?_);have a:C o [] (R b (kZ p (m+1)).cs.toArray 139::_) w:=a.f2.iu aa;have a:=a.f2.f2;exact bq 2 j j j (gm (64*m) 64 (by omega)) (bP 1 j ⟨m+1,⟨j,j,j,j,j,j,j,aY⟩,⟨by rcases ii p with h|h<;>omega,a⟩,by omega⟩)
 have P:m=ek p/64:=by have:=D;rcases ii p with h|h<;>omega
 subst P;refine bN 4 (U:=(kZ p (ek p/64)).cs) j j j a.f2.bE (cH 2 j (ct:=Nat) (λJ=>[(2,ab aO),(57,.agg (kZ p (ek p/64)).cs.toArray),(58,.int .i64 (J:Nat))]) (λJ w=>J<=8/\C o [] [[(aO,.cells (aG (gL (kZ p (ek p/64)) J)).toArray 79 (0,0))]] w) (λJ=>8-J) 0 ⟨j,j,j,aY⟩ ⟨b6 _,a.f3.hT⟩ ?_);rintro J w ⟨n,a⟩;refine cm 4 j j (λI=>?_) (λI=>?_)
 .have g:J<8:=by omega
  refine aq 6 j (wL (J:=J) j j j j g j (r4 _ g) ?_);refine bq 4 j j j (jK 4 J (by omega)) (bq 1 j j j (jK 4 J (by omega)) (bq 0 j j j (gm (4*J) 1 (by omega)) (bq 1 j j j (jK 4 J (by omega)) (bq 0 j j j (gm (4*J) 2 (by omega)) (bq 1 j j j (jK 4 J (by omega)) (bq 0 j j j (gm (4*J) 3 (by omega)) (aq 1 j (io j j j j (by omega) (lL _ 24 (by decide)) ?_))))))));refine gt j j j (qm _) (aq 1 j (io j j j j (by omega) (lL _ 16 (by decide)) ?_));refine gt j j j (qm _) (aq 1 j (io j j j j (by omega) (lL _ 8 (by decide)) ?_));refine gt j j j (qm _) (aq 1 j (gt j j j (qm _) ?_));refine hv (J:=4*J) j j j j (by omega) (cC a j j j j (by simp [ds,pn _ n];omega) (λw a=>hv (J:=4*J+1) j j j j (by omega) (cC a j j j j (by simp [ds,pn _ n];omega) (λw a=>hv (J:=4*J+2) j j j j (by omega) (cC a j j j j (by simp [ds,pn _ n];omega) (λw a=>hv (J:=4*J+3) j j j j (by omega) (cC a j j j j (by simp [ds,pn _ n];omega) (λw a=>?_))))))));have a:C o [] [[(aO,.cells (aG (gL (kZ p (ek p/64)) (J+1))).toArray 79 (0,0))]] w:=by rw [<-GO _ g];exact a
  exact bq 1 j j j (cM J (by omega)) (bP 1 j ⟨J+1,⟨j,j,j,aY⟩,⟨g,a⟩,by omega⟩)
 have y:J=8:=by omega
 subst y;refine bN 3 (U:=aG (bO p)) j j (q2 p) a.bE (c4 a j j j (by simpa using fc (bO p)) (q2 p) (by simp [ds,pn _ (Nat.le_refl 8)]) (λw a=>?_));have a:=C.whole (U:=aG (bO p)) a j;refine bI 0 j ⟨_,hf (U:=aG (bO p)) results30 j j j a.bE,?_⟩;exact⟨j,a.bare⟩
abbrev e0(a:Nat)(v:Value):List Chunk:=R a #[v] 177
abbrev dt(v:Value)(aD:List UInt8)(ag:List Chunk):Prop:=Row 5 1 v aD.length (aG aD) ag
theorem lg{o:World}{a:Nat}{v0:Value}{f:List Chunk}{aD:List UInt8}{A:Option Addr}{cO:List Int}{c:Nat}
 (b:Own [e0 a v0,f] o) (e:dt v0 aD f) (B:Rd o A (cO.map ad)) (t:bX A (cO.map ad) (au [e0 a v0,f])) (G:aD.length+10*cO.length<=1000000000):
 Calls prog 74 #[ab a,.slice A cO.length c] o λr w=>r= .tuple #[]/\∃v ag,dt v (aD++ea cO) ag/\C o (au [e0 a v0,f]) [e0 a v,ag] w:=by
 refine a2 func74 ?_
 refine cH 13 j (ct:=Nat×Value×List Chunk)
  (λi=>[(0,ab a),(9,.slice A cO.length c),(10,.int .i64 (cO.length:Nat)),(11,.int .i64 (i.1:Nat))])
  (λi w=>i.1<=cO.length/\dt i.2.1 (aD++ea (cO.take i.1)) i.2.2/\C o (au [e0 a v0,f]) [e0 a i.2.1,i.2.2] w)
  (λi=>cO.length-i.1) (0,v0,f) ⟨j,j,j,j,aY⟩ ⟨b6 _,by simpa [ea] using e,b⟩ ?_
 rintro⟨J,v,ag⟩ w ⟨y,e,b⟩;dsimp only at y e b⊢;refine bm 4 j j (λk=>?_) (λk=>?_)
 .have h:=k;have h:J<cO.length:=by simpa using k
  refine aq 5 j (fz j j j j (b.rd B t) (v:=ad cO[J]) (by simp [h]) h (λD F x=>?_));refine al 0 j x (aq 4 j (ru j j j ?_));refine tL j j j (gt j j j (Dt _) ?_)
  refine cH 3 j (ct:=Nat×Value×List Chunk×List UInt8)
   (λi=>[(0,ab a),(9,.slice A cO.length c),(10,.int .i64 (cO.length:Nat)),(11,.int .i64 (J:Nat)),(6,.int .u64 (i.1:Nat))])
   (λi w=>i.2.2.2++enc i.1=(aD++ea (cO.take J))++enc (ge cO[J])/\dt i.2.1 i.2.2.2 i.2.2.1/\C o (au [e0 a v0,f]) [e0 a i.2.1,i.2.2.1] w)
   (λi=>i.1) (ge cO[J],v,ag,aD++ea (cO.take J)) ⟨j,j,j,j,j,aY⟩ ⟨j,e,b⟩ ?_
  rintro⟨u,v,ag,d⟩ w ⟨g,e,b⟩;dsimp only at g e b⊢
  have hlen:d.length+(enc u).length<=aD.length+9*J+9:=by
   have q:=aH List.length g;have E:=nj (ge cO[J]) (n2 _);have s:=gg (cO.take J);simp only [b4,List.length_take] at q s;omega
  have H:=sb u;refine cm 5 j j (λp=>?_) (λp=>?_)
  .skip
   refine al 8 j (aw (C.ak b) j) (aq 1 j (gt j j j j ?_));refine aq 1 j (bS 30 (bv (UInt8.ofNat (u%128+128))) j (aH (Value.int .u8) (zk u)) ?_);refine eO b j j j j j j bJ (λl w b=>?_);have aJ:Rd w (some ⟨l,0,none⟩) [bv (UInt8.ofNat (u%128+128))]:=b.bE;have b:=b.f2;refine d9 b e j j (by decide) j j j (m:=1) (news:=[bv (UInt8.ofNat (u%128+128))]) j aJ (fc [(UInt8.ofNat (u%128+128))]) (by omega) (by unfold maxLen;omega) (λv ag w e b=>?_);have b:=b.f2;refine dB 2 b j j j e.one (λw b=>?_);have b:=b.f2.drop;refine aq 2 j (io j j j j (by omega) j ?_);refine bS 22 (.int .u64 ((u/128:Nat):Int)) j (aH (Value.int .u64) (s3 u)) (bP 1 j ?_);have hu:¬u<128:=by omega
   refine⟨(u/128,v,ag,d++[(UInt8.ofNat (u%128+128))]),⟨j,j,j,j,j,aY⟩,⟨?_,nf e,b⟩,by dsimp only;omega⟩;rw [o9 hu] at g;simpa using g
  .skip
   refine al 6 j (aw (C.ak b) j) (aq 1 j (gt j j j j ?_));refine bS 41 (bv (UInt8.ofNat u)) j (aH (Value.int .u8) (sx u)) (eO b j j j j j j bJ (λn w b=>?_));have aJ:Rd w (some ⟨n,0,none⟩) [bv (UInt8.ofNat u)]:=b.bE;have b:=b.f2;refine d9 b e j j (by decide) j j j (m:=1) (news:=[bv (UInt8.ofNat u)]) j aJ (fc [(UInt8.ofNat u)]) (by omega) (by unfold maxLen;omega) (λv ag w e b=>?_);have b:=b.f2;refine dB 2 b j j j e.one (λw b=>?_);have b:=b.f2.drop;refine bq 1 j j j (cM J (by omega)) (bP 1 j (⟨(J+1,v,ag),⟨j,j,j,j,aY⟩,⟨h,?_,b⟩,by dsimp only;omega⟩));have hu:u<128:=by omega
   rw [n4 hu] at g
   have he:aD++ea (cO.take (J+1))=d++[UInt8.ofNat u]:=by
    rw [fu h,x3,<-List.append_assoc,g];simp [ea]
   rw [he];exact nf e
 .have h:=k;refine ao 1 j j (⟨j,v,ag,?_,b⟩);have z:J=cO.length:=by have:=dN k;omega
  subst z;simpa using e
theorem g3{o:World}{A:Option Addr}{aD:List UInt8}{c:Nat}(d:Rd o A (aG aD))(i:aD.length<=1000000000):
 Calls prog 86 #[.slice A aD.length c] o λr w=>∃G,dt r aD G/\C o [] [G] w:=by
 have b:Own [] o:=C.start o;refine a2 func86 (aq 7 j (tJ j j j ?_));refine bm 0 j j (λfl=>?_) (λfl=>?_)
 .skip
  refine ao 3 j j ?_;have e:A=none:=by simpa using fl
  subst e
  have:aD=[]:=by
   cases aD with
   |nil=>rfl
   |cons x r=>obtain⟨a,g,_⟩:=d 0 (bv x) j;cases g
  subst this;exact⟨[],Row.nil _ _,b.empty⟩
 .skip
  refine aq 3 j (eO b j j j j j j bJ (λh w b=>?_));refine aq 1 j (d9 b (Row.made (size:=1) (by simp [maxLen]) (Nat.zero_le _)) j j (by decide) j j j (news:=aG aD) (by simp) (b.rd d (bX.of_nil _ _)) (fc aD) (by omega) (by unfold maxLen;omega) (λv G w f b=>?_));exact ao 1 j j ⟨G,by simpa [dt] using f,b⟩
theorem qM{o:World}{a:Nat}{v0:Value}{d:List Chunk}{aD:List UInt8}(b:Own [e0 a v0,d] o)(f:dt v0 aD d)(g:aD.length<=1000000000):
 Calls prog 76 #[ab a] o λr w=>∃G,dt r aD G/\C o (au [e0 a v0,d]) [G,e0 a v0,d] w:=by
 refine a2 func76 (al 15 j (aw (C.ak b) j) ?_);obtain⟨A,c,rfl,k,l,h,i⟩:=f.rd b.f1;refine bh 0 (g3 h g) j (λr w⟨G,e,aa⟩=>?_);have b:=b.aM aa;exact ao 1 j j ⟨G,e,b⟩
theorem qR{o:World}{a:Nat}{v0:Value}{e:List Chunk}{aD c0:List UInt8}{A:Option Addr}{c:Nat}
 (b:Own [e0 a v0,e] o) (d:dt v0 aD e) (f:Rd o A (aG c0)) (g:aD.length+c0.length<=1000000000):
 Calls prog 137 #[ab a,.slice A c0.length c] o λr w=>r= .tuple #[]/\∃v ag,dt v (aD++c0) ag/\C o (au [e0 a v0,e]) [e0 a v,ag] w:=by
 refine a2 func137 (al 10 j (aw (C.ak b) j) ?_);have b:=b.f1;refine aq 1 j (d9 b d j j (by decide) j j j (news:=aG c0) (by simp) f (fc c0) (by omega) (by unfold maxLen;omega) (λv ag w d b=>?_));have b:=b.f1;exact dB 2 b j j j d.one (λw b=>ao 0 j j ⟨j,v,ag,rZ d j,b⟩)
theorem C.Gn{o w:World}{ae:List (List Chunk)}{b:Nat}{I:Obj}(a:C o [] ae w)(h:o.heap[b]? =some I):w.heap[b]? =some I:=by
 rw [a.fX b (gv.1 h).1 (by simp)];exact h
def mC(k:List UInt8):List UInt8:=k++List.replicate (64-k.length) 0
def of(k p:List UInt8):List UInt8:=bO ((mC k).map (·^^^92)++bO ((mC k).map (·^^^54)++p))
theorem qG(k p:List UInt8):(of k p).length=32:=e7 _
theorem zM(k:List UInt8)(h:k.length<=64):(mC k).length=64:=by simp [mC];omega
theorem FR{l:List UInt8}{g:UInt8->UInt8}{i:Nat}(h:i<l.length):(l.take (i+1)).map g=(l.take i).map g++[g l[i]]:=by
 rw [fu h,jU];rfl
theorem Bd{o:World}{ej:Nat}{K p:List UInt8}{m:UInt8}{B:Option Addr}{d:Nat}(aa:o.heap[ej]? =some (.cells (aG K).toArray 323 (0,0)))(s:K.length=64)(A:Rd o B (aG p))(I:p.length<=1000000):Calls prog 206 #[bv m,.slice B p.length d,ab ej] o λr w=>r= .agg (aG (bO (K.map (·^^^m)++p))).toArray/\C o [] [] w:=by
 have a:Own [] o:=C.start o;have z:(aG K).length=64:=by rw [ds,s]
 refine e9 func206 ?_;refine cl 2 a j (λn w a=>?_);refine bq 4 j j j (gm 64 p.length (by omega)) ?_;refine oC (l:=0) (c:=64+p.length) a j j j j (by omega) (by omega) (by unfold maxLen;omega) (λk cs w H _ a=>?_);have e:dt (.slice (some ⟨k,0,none⟩) 0 (64+p.length)) [] (R k cs 5):=Row.made (by unfold maxLen;omega) (by omega);refine bN 4 (U:=aG K) j j z (λi v E=>⟨_,j,by rw [add_lit];exact ph (C.Gn a aa) (by rw [fg];simpa using E)⟩) ?_
 refine cH 2 j (ct:=Nat×Value×List Chunk) (λi=>[(0,bv m),(1,.slice B p.length d),(5,ab n),(6,i.2.1),(13,.agg (aG K).toArray),(14,.int .i64 (i.1:Nat))])
  (λi w=>i.1<=K.length/\dt i.2.1 ((K.take i.1).map (·^^^m)) i.2.2/\C o [] [i.2.2,R n (Array.replicate 32 (bv 0)) 79] w) (λi=>64-i.1) (0,_,_) ⟨j,j,j,j,j,j,aY⟩ ⟨b6 _,e,a⟩ ?_
 rintro⟨i,v,ag⟩ w ⟨x,e,a⟩;dsimp only at x e a⊢;refine bm 4 j j (λf=>?_) (λf=>?_)
 .have g:i<K.length:=by have:=dj f;omega
  refine aq 5 j (wL (J:=i) (v:=bv K[i]) j j j j (by omega) j (by simp [aG,g]) ?_);refine bq 5 j j j (Em _ _) ?_;refine eO a j j j j j j bJ (λG w a=>?_);have aJ:=a.bE;refine d9 a.f1 e j j (by decide) j j j (news:=aG [K[i]^^^m]) j aJ (fc _) (by(try simp only [List.length_map,List.length_take]);omega) (by(try simp only [List.length_map,List.length_take]);unfold maxLen;omega) (λv1 h w b a=>?_);have b:=rZ b j;refine bq 2 j j j (cM i (by omega)) ?_;refine bP 1 j ?_;have q:i+1<=64:=by omega
  refine⟨(i+1,v1,h),⟨j,j,j,j,j,j,aY⟩,⟨g,?_,a.f1.drop⟩,by dsimp only;omega⟩;dsimp only;rw [FR g];exact b
 have q:i=K.length:=by have:=dN f;omega
 subst q;rw [gu] at e;refine aq 5 j (d9 a e j j (by decide) j j j (news:=aG p) (by simp) (a.rd A (bX.of_nil _ _)) (fc _) (by simp only [List.length_map];omega) (by simp only [List.length_map];unfold maxLen;omega) (λv1 h w b a=>?_));have b:=rZ b j;obtain⟨F,aX,rfl,t,_,D,_⟩:=b.rd a;have u:=pA D (by simp only [b4,List.length_map];omega) t;refine bo 0 u j (λw y=>?_);have a:=(a.aM y).f1;refine ck 0 a j j j (by simpa using fc (bO (K.map (·^^^m)++p))) (by rw [List.size_toArray,ds,e7]) (λw a=>?_);have a:=C.whole (U:=aG (bO (K.map (·^^^m)++p))) a (by rw [ds,e7];rfl);refine bI 0 j ⟨_,hf (U:=aG (bO (K.map (·^^^m)++p))) results206 j j (by rw [ds,e7]) a.bE,?_⟩;exact⟨j,a.bare⟩
theorem GS(k:List UInt8)(h:k.length<=64):(Array.replicate 64 (bv 0)).toList.take 0++aG k++(Array.replicate 64 (bv 0)).toList.drop (0+(aG k).length)=aG (mC k):=by
 rw [Array.toList_replicate,List.take_zero,jV,List.drop_replicate,ds,Nat.zero_add];simp only [mC,aG,jU,List.map_replicate]
def pJ(k p:List UInt8):List UInt8:=bO ((mC k).map (·^^^54)++p)
theorem rh(k p:List UInt8):(pJ k p).length=32:=e7 _
theorem FN{o:World}{A:Option Addr}{key:List UInt8}{c:Nat}{B:Option Addr}{p:List UInt8}{d:Nat}(q:Rd o A (aG key))(f:key.length<=64)(n:Rd o B (aG p))(l:p.length<=1000000):Calls prog 156 #[.slice A key.length c,.slice B p.length d] o λr w=>r= .agg (aG (of key p)).toArray/\C o [] [] w:=by
 have a:Own [] o:=C.start o;refine e9 func156 (cl 2 a j (λg w a=>?_));have a:C o [] [R g (Array.replicate 32 (bv 0)) 79] w:=a;refine cl 2 a j (λh w a=>?_);have a:C o [] [R h (Array.replicate 64 (bv 0)) 323,_] w:=a;refine i0 6 j j (fj (by omega)) (aq 3 j (mS j j j ?_));refine aq 1 j (wH (off:=0) (news:=aG key) a j j j j (by rw [ds];exact(mX f).symm) (.inr j) (a.rd q (bX.of_nil _ _)) (fc _) (by simp only [ds,Array.size_replicate];omega) (λw a=>?_));have a:C o [] [R h (aG (mC key)).toArray 323,R g (Array.replicate 32 (bv 0)) 79] w:=by rw [<-GS key f];exact a
 refine aq 2 j (gV j j j j ?_);have e:=Bd (m:=54) a.first (zM key f) (a.rd n (bX.of_nil _ _)) l (d:=d);refine aq 5 j (hL j j j j e (λr w⟨b,i⟩=>?_));have b:r= .agg (aG (pJ key p)).toArray:=b;subst b;have a:=a.aM i;refine cl 0 a j (λk w a=>?_);have a:C o [] [R k (Array.replicate 32 (bv 0)) 79,R h (aG (mC key)).toArray 323,R g (Array.replicate 32 (bv 0)) 79] w:=a;refine c4 a j j j (by simpa using fc (pJ key p)) (by rw [List.size_toArray,ds,rh]) (by simp only [List.size_toArray,Array.size_replicate,ds,rh];try decide) (λw a=>?_);have a:=C.whole (U:=aG (pJ key p)) a (by rw [ds,rh];rfl);refine aq 3 j (mS j j j ?_);have s:Rd w (some ⟨k,0,none⟩) (aG (pJ key p)):=a.bE;have e:=Bd (m:=92) (p:=pJ key p) a.f1.first (zM key f) s (by rw [rh];decide) (d:=32);rw [rh] at e;refine hL j j j j e (λr w⟨b,i⟩=>?_);have b:r= .agg (aG (of key p)).toArray:=b;subst b;have a:=(a.aM i).f2;refine c4 a j j j (by simpa using fc (of key p)) (by rw [List.size_toArray,ds,qG]) (by simp only [List.size_toArray,Array.size_replicate,ds,qG];try decide) (λw a=>?_);have a:=C.whole (U:=aG (of key p)) a (by rw [ds,qG];rfl);refine bI 0 j ⟨_,hf (U:=aG (of key p)) results156 j j (by rw [ds,qG]) a.bE,?_⟩;exact⟨j,a.bare⟩
theorem nH{o:World}{A:Option Addr}{p:List UInt8}{c:Nat}(f:Rd o A (aG p))(g:p.length<=1000000)(b:p.length<=c):Calls prog 87 #[.slice A p.length c] o λr w=>r= .agg (aG (bO p)).toArray/\C o [] [] w:=by
 have a:Own [] o:=C.start o;refine e9 func87 (cl 2 a j (λaO w a=>?_));have a:C o [] [R aO (Array.replicate 32 (bv 0)) 79] w:=a;have d:=pA (a.rd f (bX.of_nil _ _)) (by omega) b;refine bo 3 d j (λw e=>?_);have a:=a.aM e;refine c4 a j j j (by simpa using fc (bO p)) (by rw [List.size_toArray,ds,e7]) (by simp only [List.size_toArray,Array.size_replicate,ds,e7];try decide) (λw a=>?_);have a:=C.whole (U:=aG (bO p)) a (by rw [ds,e7];rfl);refine bI 0 j ⟨_,hf (U:=aG (bO p)) results87 j j (by rw [ds,e7]) a.bE,?_⟩;exact⟨j,a.bare⟩
def hE(n:Nat):Nat:=(max n 1-1)/3
def iL(n:Nat):Nat:=n-hE n
theorem FT(n:Nat):max (n:Int) 1=((max n 1:Nat):Int):=by omega
theorem yd{o:World}{n:Nat}(aJ:n<=1000):Calls prog 28 #[.int .i64 n] o λr w=>r= .int .i64 (hE n)/\w=o:=by
 refine a2 func28 (aq 6 j (tL j j j ?_));exact bS 4 (.int .i64 (max n 1:Nat)) j (aH (Value.int .i64) (FT n)) (bq 0 j j j (hC (max n 1) 1 (by omega) (by omega)) (tN (J:=3) j j j j (by decide) (by omega) (ao 1 j j ⟨j,j⟩)))
theorem z4{o:World}{n:Nat}(aJ:n<=1000):Calls prog 210 #[.int .i64 n] o λr w=>r= .int .i64 (iL n)/\w=o:=by
 refine a2 func210 (bo 7 (yd aJ) j (λa hw=>?_));subst hw;exact bq 0 j j j (hC n (hE n) (by unfold hE;omega) (by omega)) (ao 1 j j ⟨j,j⟩)
abbrev hd(r:Nat)(v:Value)(b:Bool):List Chunk:=R r #[v,.bool b] 265
theorem F8{o:World}{A:Option Addr}{aD:List UInt8}{c:Nat}(g:Rd o A (aG aD))(f:aD.length<=1000000000):
 Calls prog 159 #[.slice A aD.length c] o λx w=>∃r v G,x=ab r/\hO v false (some aD) G/\C o [] [hd r v false,G] w:=by
 have a:Own [] o:=C.start o;refine a2 func159 (bh 6 (g3 g f) j (λr w⟨G,b,aa⟩=>?_));have a:=a.aM aa;have e:=View.ofRow b;obtain⟨gU,d,rfl,_⟩:=b.form;exact cP (c:= #[.slice gU aD.length d,.bool false]) j j j (λ_=>by kernel_rfl) (bM 0 a j j (λh w a=>ao 1 j j ⟨_,_,G,j,⟨j,e⟩,a⟩))
theorem ne{o:World}{r:Nat}{v0:Value}{cU:Bool}{G:List Chunk}(a:Own [hd r v0 cU,G] o):
 Calls prog 160 #[ab r] o λx w=>x= .tuple #[]/\C o (au [hd r v0 cU,G]) [hd r (.slice none 0 0) true,G] w:=by
 refine a2 func160 ?_;refine dB 10 a j j j j (λw a=>?_);refine dB 2 a j j j j (λw a=>?_);refine ao 0 j j ?_;exact⟨j,a⟩
theorem EE{o:World}{r:Nat}{v0:Value}{cU:Bool}{G:List Chunk}(a:Own [hd r v0 cU,G] o):
 Calls prog 161 #[ab r] o λx w=>x= .bool (!cU)/\C o (au [hd r v0 cU,G]) [hd r v0 cU,G] w:=by
 refine a2 func161 (aq 8 j (bS 5 (.bool true) j (aH Value.bool (j)) ?_));exact al 3 j (aw (C.ak a) j) (ao 3 j j ⟨j,a⟩)
theorem Bc{o:World}{r:Nat}{v0:Value}{cU:Bool}{G:List Chunk}{s:ee}(a:Own [hd r v0 cU,G] o)(b:hO v0 cU s G):
 Calls prog 94 #[ab r] o λx w=>x= .bool (decide (s=some []))/\C o (au [hd r v0 cU,G]) [hd r v0 cU,G] w:=by
 obtain⟨A,c,rfl,e⟩:=b.2;have d:=b.1;refine a2 func94 (bo 6 (EE a.cB) j (λw aa=>?_));have a:=a.cA aa;refine aq 1 j (cQ 5 j (λgl=>?_) (λgl=>?_))
 .skip
  refine al 3 j (aw (C.ak a) j) (ao 4 j j (⟨aH Value.bool ?_,a⟩));cases s with
  |none=>simp [d] at gl
  |some l=>
   cases l<;>simp [ee.left];omega
 .skip
  refine ao 8 j j (⟨aH Value.bool ?_,a⟩);cases s with
  |none=>simp
  |some l=>simp [d] at gl
theorem Hs{o:World}{r:Nat}{v0:Value}{cU:Bool}{G:List Chunk}{s:ee}{n:Int}(a:Own [hd r v0 cU,G] o)(g:hO v0 cU s G)(H:s.left.length<=1000000000):
 Calls prog 248 #[ab r,.int .i64 n] o λx w=>∃v b d,dt x (iM s n).1 d/\hO v b (iM s n).2 G/\C o (au [hd r v0 cU,G]) [d,hd r v b,G] w:=by
 obtain⟨A,c,rfl,p⟩:=g.2;have q:=g.1;refine a2 func248 (aq 9 j (bS 8 (.bool false) j (aH Value.bool (j)) ?_));refine aq 4 j (cQ 12 j (λe=>?_) (λe=>?_))
 .skip
  refine bh 12 (ne a.cB) j (λx w⟨D,aa⟩=>?_);have a:=a.cA aa;refine ao 3 j j ?_;have a:=a.empty
  have he:iM s n=([],none):=by
   cases s with
   |none=>rfl
   |some l=>
    unfold iM;dsimp only;rw [a6]
    first
     |exact .inl (dj e)
     |exact .inr f
  rw [he];exact⟨_,_,[],Row.nil _ _,hO.bad G,a⟩
 .skip
  refine al 4 j (aw (C.ak a) j) (cm 3 j j (λf=>?_) (λf=>?_))
  .skip
   refine bh 3 (ne a.cB) j (λx w⟨D,aa⟩=>?_);have a:=a.cA aa;refine ao 3 j j ?_;have a:=a.empty
   have he:iM s n=([],none):=by
    cases s with
    |none=>rfl
    |some l=>
     unfold iM;dsimp only;rw [a6]
     first
      |exact .inl (dj e)
      |exact .inr f
   rw [he];exact⟨_,_,[],Row.nil _ _,hO.bad G,a⟩
  .skip
   have I:0<=n:=by have:=dN e;omega
   have i:n<=s.left.length:=by omega
   refine al 6 j (aw (C.ak a) j) ?_;obtain⟨E,F,B⟩:=p;obtain⟨k,rfl⟩:∃k:Nat,n=k:=⟨n.toNat,by omega⟩;have u:k<=s.left.length:=by omega
   refine aq 1 j (rv j j j j (by omega) ?_);obtain⟨y,J⟩:=B _ _ _ _ a.f1;have z:Rd o A (aG (s.left.take k)):=by rw [xy];exact y.take k
   have hlen:(s.left.take k).length=k:=by rw [hl];omega
   have h:=g3 (c:=c) z (by omega);rw [hlen] at h;refine bh 0 h j (λx w⟨d,m,aa⟩=>?_);have a:=(a.aM aa).f1;refine al 7 j (aw (C.ak a) j) (aq 1 j (oD j j j j (by omega) ?_));refine dB 2 a j j j j (λw a=>ao 4 j j (⟨_,_,d,?_,?_,a.f1⟩))
   .have he:(iM s k).1=s.left.take k:=by
     cases s with
     |none=>rw [show ee.left none=[] from j];simp [iM]
     |some l=>unfold iM;dsimp only;rw [if_neg (by simp only [ee.left,Option.getD_some] at i;omega)];simp [ee.left]
    rw [he];exact m
   .have he:(iM s k).2=s.map (·.drop k):=by
     cases s with
     |none=>rfl
     |some l=>unfold iM;dsimp only;rw [if_neg (by simp only [ee.left,Option.getD_some] at i;omega)];simp
    have t:(iM s k).2.left=s.left.drop k:=by
     rw [he];cases s<;>simp [ee.left]
    refine⟨by rw [q,he];cases s<;>rfl,?_⟩;rw [t];exact g.2.drop u
theorem eH{o:World}{r:Nat}{v0:Value}{cU:Bool}{G:List Chunk}{s:ee}(a:Own [hd r v0 cU,G] o)(q:hO v0 cU s G)(T:s.left.length<=1000000000):
 Calls prog 93 #[ab r] o λx w=>x= .int .i64 ((eb s).1:Nat)/\∃v b,hO v b (eb s).2 G/\C o (au [hd r v0 cU,G]) [hd r v b,G] w:=by
 obtain⟨A,c,rfl,I⟩:=q.2;have F:=q.1;refine a2 func93 (al 19 j (aw (C.ak a) j) ?_)
 refine cH 3 j (ct:=Nat×Nat) (λi=>[(0,ab r),(11,.slice A s.left.length c),(12,.int .i64 (s.left.length:Nat)),(13,.int .i64 (i.1:Nat)),(3,.int .u64 (i.2:Nat))])
  (λi w=>i.1<=s.left.length/\i.1<=9/\i.2<128^i.1/\dec s.left=lI i.1 i.2 (s.left.drop i.1)/\C o (au [hd r (.slice A s.left.length c) cU,G]) [hd r (.slice A s.left.length c) cU,G] w) (λi=>s.left.length-i.1) (0,0)
  ⟨j,j,j,j,j,aY⟩ ⟨b6 _,b6 _,by simp,j,a⟩ ?_
 rintro⟨i,u⟩ w ⟨K,M,hu,d,a⟩;dsimp only at K M hu d a⊢;refine cm 4 j j (λH=>?_) (λH=>?_)
 .skip
  have e:i<s.left.length:=by omega
  obtain⟨R,S,O⟩:=I;obtain⟨N,U⟩:=O _ _ _ _ a.f1;refine aq 6 j (fz j j j j N (v:=bv s.left[i]) (xx (by simp [e])) e (λP Q J=>?_));refine al 0 j J (aq 8 j (cQ 20 j (λp=>?_) (λp=>?_)))
  .skip
   have k:s.left.drop i=s.left[i]::s.left.drop (i+1):=km e;rw [k,lJ] at d;have f:dec s.left=none:=by rw [d,a6 (.inl (by have:=dj p;omega))]
   refine bh 12 (ne a.cB) j (λx w⟨t,aa⟩=>?_);have a:=a.cA aa;refine ao 3 j j ?_;rw [qX f];exact⟨j,_,_,hO.bad G,a⟩
  .skip
   refine aq 3 j (cQ 23 j (λm=>?_) (λm=>?_))
   .skip
    refine bm 4 j j (λg=>?_) (λg=>?_)
    .skip
     have k:s.left.drop i=s.left[i]::s.left.drop (i+1):=km e;rw [k,lJ] at d
     have f:dec s.left=none:=by
      rw [d,a6 (.inr ⟨by have:=dj m;omega,Dg (x:=s.left[i]) (y:=0) (by simpa using g)⟩)]
     refine bh 4 (ne a.cB) j (λx w⟨t,aa⟩=>?_);have a:=a.cA aa;refine ao 3 j j ?_;rw [qX f];exact⟨j,_,_,hO.bad G,a⟩
    .skip
     have L:i<=8:=by have:=dN p;omega
     refine bq 5 j j j (x9 _) (gt j j j (nh _ (by omega)) (bq 1 j j j (zo i (by omega)) (io j j j j (by omega) (Az _ i (jE _ (by decide)) (by omega)) (bq 0 j j j (zJ u _ i hu (jE _ (by decide)) (by omega)) (cm 5 j j (λz=>?_) (λz=>?_))))))
     .skip
      refine cm 5 j j (λn=>?_) (λn=>?_)
      .skip
       have k:s.left.drop i=s.left[i]::s.left.drop (i+1):=km e;rw [k,lJ] at d
       have f:dec s.left=none:=by
        rw [d];split
        .rfl
        .rw [a6 (by omega),a6 (by omega)]
       refine bh 4 (ne a.cB) j (λx w⟨t,aa⟩=>?_);have a:=a.cA aa;refine ao 3 j j ?_;rw [qX f];exact⟨j,_,_,hO.bad G,a⟩
      .skip
       have hle:=n;refine al 7 j (aw (C.ak a) j) (bq 1 j j j (cM i (by omega)) (oD j j j j (by omega) (dB 2 a j j j j (λw a=>aq 3 j (gt j j j (xN _ (by omega)) ?_)))));refine ao 1 j j ?_
       have E:dec s.left=some (u+s.left[i].toNat%128*128^i,s.left.drop (i+1)):=by
        rw [d,km e,lJ,aI,a6 (by omega),aI (by omega)];rintro(h|⟨B,D⟩)
        .omega
        .first
          |(have:=dN m;omega)
          |(rw [D] at g;exact absurd g (by decide))
       rw [Aj E];refine⟨j,_,_,⟨?_,q.2.drop e⟩,a⟩;rw [F];cases s with
       |none=>simp [ee.left] at e
       |some l=>rfl
     .skip
      refine bq 2 j j j (cM i (by omega)) (bP 1 j (⟨(i+1,u+s.left[i].toNat%128*128^i),⟨j,j,j,j,j,aY⟩,⟨e,by dsimp only;omega,?_,?_,a⟩,by dsimp only;omega⟩))
      .dsimp only;rw [Nat.pow_succ];have B:s.left[i].toNat%128*128^i<=127*128^i:=kk _ (by omega);omega
      .rw [km e,lJ,aI,aI (by omega)] at d
       .exact d
       .rintro(h|⟨_,h⟩)
        .omega
        .rw [h] at g;exact absurd g (by decide)
   .skip
    have L:i<=8:=by have:=dN p;omega
    refine bq 10 j j j (x9 _) (gt j j j (nh _ (by omega)) (bq 1 j j j (zo i (by omega)) (io j j j j (by omega) (Az _ i (jE _ (by decide)) (by omega)) (bq 0 j j j (zJ u _ i hu (jE _ (by decide)) (by omega)) (cm 5 j j (λz=>?_) (λz=>?_))))))
    .skip
     refine cm 5 j j (λn=>?_) (λn=>?_)
     .skip
      have k:s.left.drop i=s.left[i]::s.left.drop (i+1):=km e;rw [k,lJ] at d
      have f:dec s.left=none:=by
       rw [d];split
       .rfl
       .rw [a6 (by omega),a6 (by omega)]
      refine bh 4 (ne a.cB) j (λx w⟨t,aa⟩=>?_);have a:=a.cA aa;refine ao 3 j j ?_;rw [qX f];exact⟨j,_,_,hO.bad G,a⟩
     .skip
      have hle:=n;refine al 7 j (aw (C.ak a) j) (bq 1 j j j (cM i (by omega)) (oD j j j j (by omega) (dB 2 a j j j j (λw a=>aq 3 j (gt j j j (xN _ (by omega)) ?_)))));refine ao 1 j j ?_
      have E:dec s.left=some (u+s.left[i].toNat%128*128^i,s.left.drop (i+1)):=by
       rw [d,km e,lJ,aI,a6 (by omega),aI (by omega)];rintro(h|⟨B,D⟩)
       .omega
       .first
         |(have:=dN m;omega)
         |(rw [D] at g;exact absurd g (by decide))
      rw [Aj E];refine⟨j,_,_,⟨?_,q.2.drop e⟩,a⟩;rw [F];cases s with
      |none=>simp [ee.left] at e
      |some l=>rfl
    .skip
     refine bq 2 j j j (cM i (by omega)) (bP 1 j (⟨(i+1,u+s.left[i].toNat%128*128^i),⟨j,j,j,j,j,aY⟩,⟨e,by dsimp only;omega,?_,?_,a⟩,by dsimp only;omega⟩))
     .dsimp only;rw [Nat.pow_succ];have B:s.left[i].toNat%128*128^i<=127*128^i:=kk _ (by omega);omega
     .rw [km e,lJ,aI,aI (by omega)] at d
      .exact d
      .rintro(h|⟨h,_⟩)
       .omega
       .have:=dN m;omega
 .skip
  have f:dec s.left=none:=by
   rw [d,List.drop_eq_nil_of_le (by omega)];rfl
  refine bh 4 (ne a.cB) j (λx w⟨t,aa⟩=>?_);have a:=a.cA aa;refine ao 3 j j ?_;rw [qX f];exact⟨j,_,_,hO.bad G,a⟩
def fq(n a b:Int):Bool:=decide (a<=n/\n<=b)
def iK(p e t:Int):Bool:=fq p 0 7&&fq e 0 100&&fq t 0 100
def gQ(k p e t:Int):Bool:=fq k 1 3&&iK p e t&&(k !=1||t==0)
abbrev sz(k p e t:Int):Value:=.agg #[ad k,ad p,ad e,ad t]
theorem iZ{o:World}{n a b:Int}:Calls prog 134 #[.int .i64 n,.int .i64 a,.int .i64 b] o λr w=>r= .bool (fq n a b)/\C o [] [] w:=by
 have d:Own [] o:=C.start o;refine a2 func134 (aq 9 j (cQ 10 j (λc=>?_) (λc=>?_)))
 .refine ao 5 j j (⟨aH Value.bool ?_,d⟩);have h:=dj c;unfold fq;rw [nS];omega
 refine ao 5 j j (⟨aH Value.bool ?_,d⟩);have h:=dN c;unfold fq
 symm
 rw [mY];omega
theorem sn{o:World}{n a b:Int}:Calls prog 114 #[.int .i64 n,.int .i64 a,.int .i64 b] o λr w=>r= .bool (fq n a b)/\C o [] [] w:=by
 have d:Own [] o:=C.start o;refine a2 func114 (aq 9 j (cQ 10 j (λc=>?_) (λc=>?_)))
 .refine ao 5 j j (⟨aH Value.bool ?_,d⟩);have h:=dj c;unfold fq;rw [nS];omega
 refine ao 5 j j (⟨aH Value.bool ?_,d⟩);have h:=dN c;unfold fq
 symm
 rw [mY];omega
theorem yP{o:World}{p e t:Int}:Calls prog 135 #[.int .i64 p,.int .i64 e,.int .i64 t] o λr w=>r= .bool (iK p e t)/\C o [] [] w:=by
 have c:Own [] o:=C.start o;refine a2 func135 ?_;have d:=iZ (o:=o) (n:=p) (a:=0) (b:=7);refine bo 6 d j (λw aa=>?_);have c:=c.aM aa;refine aq 1 j (cQ 9 j (λg=>?_) (λg=>?_))
 .have d:=iZ (o:=w) (n:=e) (a:=0) (b:=100);refine bo 1 d j (λw aa=>?_);have c:=c.aM aa;refine aq 2 j (cQ 13 j (λf=>?_) (λf=>?_))
  .have d:=iZ (o:=w) (n:=t) (a:=0) (b:=100);refine bo 1 d j (λw aa=>?_);have c:=c.aM aa;refine ao 2 j j (⟨aH Value.bool ?_,c⟩);unfold iK
   simp_all
  refine ao 4 j j (⟨aH Value.bool ?_,c⟩);unfold iK
  simp_all
 refine aq 4 j (bS 13 (.bool false) j (aH Value.bool (j)) ?_);refine ao 4 j j (⟨aH Value.bool ?_,c⟩);unfold iK
 simp_all
theorem yN{o:World}{k p e t:Int}:Calls prog 95 #[sz k p e t] o λr w=>r= .bool (gQ k p e t)/\C o [] [] w:=by
 have c:Own [] o:=C.start o;refine a2 func95 (bM 2 c j j (λay w c=>?_));first|refine al 4 j (aw (C.ak c) j) ?_|refine al 4 j (c.cell j) ?_|refine al 4 j (by assumption) ?_|refine al 4 j ((C.f1 c).cell j) ?_|refine al 4 j ((C.f2 c).cell j) ?_|refine al 4 j ((C.f3 c).cell j) ?_|refine al 4 j ((C.f4 c).cell j) ?_|refine al 4 j ((C.f5 c).cell j) ?_
 have d:=iZ (o:=w) (n:=k) (a:=1) (b:=3);refine bo 0 d j (λw aa=>?_);have c:=c.aM aa;refine aq 1 j (cQ 6 j (λeu=>?_) (λeu=>?_));first|refine al 1 j (aw (C.ak c) j) ?_|refine al 1 j (c.cell j) ?_|refine al 1 j (by assumption) ?_|refine al 1 j ((C.f1 c).cell j) ?_|refine al 1 j ((C.f2 c).cell j) ?_|refine al 1 j ((C.f3 c).cell j) ?_|refine al 1 j ((C.f4 c).cell j) ?_|refine al 1 j ((C.f5 c).cell j) ?_
 first|refine al 1 j (aw (C.ak c) j) ?_|refine al 1 j (c.cell j) ?_|refine al 1 j (by assumption) ?_|refine al 1 j ((C.f1 c).cell j) ?_|refine al 1 j ((C.f2 c).cell j) ?_|refine al 1 j ((C.f3 c).cell j) ?_|refine al 1 j ((C.f4 c).cell j) ?_|refine al 1 j ((C.f5 c).cell j) ?_
 first|refine al 1 j (aw (C.ak c) j) ?_|refine al 1 j (c.cell j) ?_|refine al 1 j (by assumption) ?_|refine al 1 j ((C.f1 c).cell j) ?_|refine al 1 j ((C.f2 c).cell j) ?_|refine al 1 j ((C.f3 c).cell j) ?_|refine al 1 j ((C.f4 c).cell j) ?_|refine al 1 j ((C.f5 c).cell j) ?_
 have d:=yP (o:=w) (p:=p) (e:=e) (t:=t);refine bo 0 d j (λw aa=>?_);have c:=c.aM aa;refine aq 2 j (cQ 15 j (λf=>?_) (λf=>?_))
 .first|refine al 1 j (aw (C.ak c) j) ?_|refine al 1 j (c.cell j) ?_|refine al 1 j (by assumption) ?_|refine al 1 j ((C.f1 c).cell j) ?_|refine al 1 j ((C.f2 c).cell j) ?_|refine al 1 j ((C.f3 c).cell j) ?_|refine al 1 j ((C.f4 c).cell j) ?_|refine al 1 j ((C.f5 c).cell j) ?_
  refine aq 2 j (cQ 19 j (λg=>?_) (λg=>?_))
  .refine ao 6 j j (⟨aH Value.bool ?_,c.bare⟩);unfold gQ
   simp_all
  first|refine al 1 j (aw (C.ak c) j) ?_|refine al 1 j (c.cell j) ?_|refine al 1 j (by assumption) ?_|refine al 1 j ((C.f1 c).cell j) ?_|refine al 1 j ((C.f2 c).cell j) ?_|refine al 1 j ((C.f3 c).cell j) ?_|refine al 1 j ((C.f4 c).cell j) ?_|refine al 1 j ((C.f5 c).cell j) ?_
  refine ao 4 j j (⟨aH Value.bool ?_,c.bare⟩);unfold gQ
  simp_all
 rotate_left
 refine aq 9 j (bS 15 (.bool false) j (aH Value.bool (j)) ?_);rotate_left
 all_goals
  refine ao 10 j j (⟨aH Value.bool ?_,c.bare⟩);unfold gQ
  simp_all
theorem BK{o:World}{k p e t:Int}:Calls prog 54 #[sz k p e t] o λr w=>r= .bool (gQ k p e t)/\C o [] [] w:=by
 have c:Own [] o:=C.start o;refine a2 func54 (bM 2 c j j (λay w c=>?_));first|refine al 4 j (aw (C.ak c) j) ?_|refine al 4 j (c.cell j) ?_|refine al 4 j (by assumption) ?_|refine al 4 j ((C.f1 c).cell j) ?_|refine al 4 j ((C.f2 c).cell j) ?_|refine al 4 j ((C.f3 c).cell j) ?_|refine al 4 j ((C.f4 c).cell j) ?_|refine al 4 j ((C.f5 c).cell j) ?_
 have d:=sn (o:=w) (n:=k) (a:=1) (b:=3);refine bo 0 d j (λw aa=>?_);have c:=c.aM aa;refine aq 1 j (cQ 6 j (λeu=>?_) (λeu=>?_));first|refine al 1 j (aw (C.ak c) j) ?_|refine al 1 j (c.cell j) ?_|refine al 1 j (by assumption) ?_|refine al 1 j ((C.f1 c).cell j) ?_|refine al 1 j ((C.f2 c).cell j) ?_|refine al 1 j ((C.f3 c).cell j) ?_|refine al 1 j ((C.f4 c).cell j) ?_|refine al 1 j ((C.f5 c).cell j) ?_
 have d:=sn (o:=w) (n:=p) (a:=0) (b:=7);refine bo 0 d j (λw aa=>?_);have c:=c.aM aa;refine aq 2 j (cQ 11 j (λf=>?_) (λf=>?_))
 .first|refine al 1 j (aw (C.ak c) j) ?_|refine al 1 j (c.cell j) ?_|refine al 1 j (by assumption) ?_|refine al 1 j ((C.f1 c).cell j) ?_|refine al 1 j ((C.f2 c).cell j) ?_|refine al 1 j ((C.f3 c).cell j) ?_|refine al 1 j ((C.f4 c).cell j) ?_|refine al 1 j ((C.f5 c).cell j) ?_
  have d:=sn (o:=w) (n:=e) (a:=0) (b:=100);refine bo 0 d j (λw aa=>?_);have c:=c.aM aa;refine aq 2 j (cQ 16 j (λg=>?_) (λg=>?_));first|refine al 1 j (aw (C.ak c) j) ?_|refine al 1 j (c.cell j) ?_|refine al 1 j (by assumption) ?_|refine al 1 j ((C.f1 c).cell j) ?_|refine al 1 j ((C.f2 c).cell j) ?_|refine al 1 j ((C.f3 c).cell j) ?_|refine al 1 j ((C.f4 c).cell j) ?_|refine al 1 j ((C.f5 c).cell j) ?_
  have d:=sn (o:=w) (n:=t) (a:=0) (b:=100);refine bo 0 d j (λw aa=>?_);have c:=c.aM aa;refine aq 2 j (cQ 21 j (λh=>?_) (λh=>?_))
  .first|refine al 1 j (aw (C.ak c) j) ?_|refine al 1 j (c.cell j) ?_|refine al 1 j (by assumption) ?_|refine al 1 j ((C.f1 c).cell j) ?_|refine al 1 j ((C.f2 c).cell j) ?_|refine al 1 j ((C.f3 c).cell j) ?_|refine al 1 j ((C.f4 c).cell j) ?_|refine al 1 j ((C.f5 c).cell j) ?_
   refine aq 2 j (cQ 25 j (λi=>?_) (λi=>?_))
   .refine ao 6 j j (⟨aH Value.bool ?_,c.bare⟩);unfold gQ iK
    simp_all
   first|refine al 1 j (aw (C.ak c) j) ?_|refine al 1 j (c.cell j) ?_|refine al 1 j (by assumption) ?_|refine al 1 j ((C.f1 c).cell j) ?_|refine al 1 j ((C.f2 c).cell j) ?_|refine al 1 j ((C.f3 c).cell j) ?_|refine al 1 j ((C.f4 c).cell j) ?_|refine al 1 j ((C.f5 c).cell j) ?_
   refine ao 4 j j (⟨aH Value.bool ?_,c.bare⟩);unfold gQ iK
   simp_all
  rotate_left
  refine aq 5 j (bS 21 (.bool false) j (aH Value.bool (j)) ?_);rotate_left
  all_goals
   refine ao 10 j j (⟨aH Value.bool ?_,c.bare⟩);unfold gQ iK
   simp_all
 rotate_left
 refine aq 5 j (bS 11 (.bool false) j (aH Value.bool (j)) ?_);rotate_left
 all_goals
  refine aq 5 j (bS 16 (.bool false) j (aH Value.bool (j)) ?_);refine aq 5 j (bS 21 (.bool false) j (aH Value.bool (j)) ?_);refine ao 10 j j (⟨aH Value.bool ?_,c.bare⟩);unfold gQ iK
  simp_all
theorem uN{o:World}{k p e t:Int}:Calls prog 162 #[sz k p e t] o λr w=>∃v G,r= .tuple #[v,.int .i64 (if gQ k p e t then 0 else 1)]/\dt v (if gQ k p e t then ea [3,k,p,e,t] else []) G/\C o [] [G] w:=by
 have a:Own [] o:=C.start o;refine a2 func162 ?_;refine bM 2 a j j (λay w a=>?_);refine bN 5 j j j a.bE ?_;have d:=yN (o:=w) (k:=k) (p:=p) (e:=e) (t:=t);refine bo 0 d j (λw aa=>?_);have a:=a.aM aa;refine bm 1 j j (λdz=>?_) (λdz=>?_)
 .refine ao 4 j j ?_;have hm:gQ k p e t=false:=by simpa using dz
  rw [hm];exact⟨_,[],j,Row.nil _ _,a.bare.empty⟩
 refine cl 3 a j (λf w a=>?_);have a:=a.f1;first|refine al 3 j (aw (C.ak a) j) ?_|refine al 3 j (a.cell j) ?_|refine al 3 j (by assumption) ?_|refine al 3 j ((C.f1 a).cell j) ?_|refine al 3 j ((C.f2 a).cell j) ?_|refine al 3 j ((C.f3 a).cell j) ?_|refine al 3 j ((C.f4 a).cell j) ?_|refine al 3 j ((C.f5 a).cell j) ?_
 first|refine al 1 j (aw (C.ak a) j) ?_|refine al 1 j (a.cell j) ?_|refine al 1 j (by assumption) ?_|refine al 1 j ((C.f1 a).cell j) ?_|refine al 1 j ((C.f2 a).cell j) ?_|refine al 1 j ((C.f3 a).cell j) ?_|refine al 1 j ((C.f4 a).cell j) ?_|refine al 1 j ((C.f5 a).cell j) ?_
 first|refine al 1 j (aw (C.ak a) j) ?_|refine al 1 j (a.cell j) ?_|refine al 1 j (by assumption) ?_|refine al 1 j ((C.f1 a).cell j) ?_|refine al 1 j ((C.f2 a).cell j) ?_|refine al 1 j ((C.f3 a).cell j) ?_|refine al 1 j ((C.f4 a).cell j) ?_|refine al 1 j ((C.f5 a).cell j) ?_
 first|refine al 1 j (aw (C.ak a) j) ?_|refine al 1 j (a.cell j) ?_|refine al 1 j (by assumption) ?_|refine al 1 j ((C.f1 a).cell j) ?_|refine al 1 j ((C.f2 a).cell j) ?_|refine al 1 j ((C.f3 a).cell j) ?_|refine al 1 j ((C.f4 a).cell j) ?_|refine al 1 j ((C.f5 a).cell j) ?_
 refine eO a j j j j j j bJ (λh w a=>?_);have a:C o [] [[(h,_)],_,e0 f (.slice none 0 0)] w:=a;have aJ:=a.bE;have l:=a.iV (off:=0) (sp:=none) (U:=[3,k,p,e,t].map ad);have a:=a.f2.empty.f1;have d:=lg (aD:=[]) (cO:=[3,k,p,e,t]) (c:=5) a.cB (Row.nil _ _) aJ (l.kU (by simp) (λb m=>fI (fy:=[e0 f (.slice none 0 0)]) (by simp) b (by simpa [au] using m))) (by simp);refine bo 0 d j (λw⟨v,ag,g,aa⟩=>?_);have a:=a.cA aa;rw [jV] at g;have d:=qM a.cB g (by have:=gg [3,k,p,e,t];simp only [ez,gk] at this;omega);refine bh 2 d j (λr w⟨G,i,aa⟩=>?_);have a:=(a.cA aa).hT;refine ao 2 j j ?_;have hm:gQ k p e t=true:=by simpa using dz
 rw [hm];exact⟨_,G,j,i,a⟩
theorem wc(s:ee)(a:s.left.length<=1000000000):(eb s).2.left.length<=1000000000:=by
 have key:∀(l:List UInt8)(i u:Nat)(x:Nat×List UInt8),lI i u l=some x->x.2.length<=l.length:=by
  intro l;induction l with
  |nil=>intro i u x h;simp [lI] at h
  |cons c r d=>
   intro i u x h;rw [lJ] at h;split at h
   .cases h
   .split at h
    .split at h
     .cases h
     .cases h;simp
    .have:=d _ _ _ h;simp only [ez];omega
 cases s with
 |none=>exact a
 |some l=>
  unfold eb;dsimp only;cases b:dec l with
  |none=>simp [ee.left]
  |some x=>
   obtain⟨u,r⟩:=x;have:=key l 0 0 (u,r) b;dsimp only at this;simp only [ee.left,l8] at a⊢;omega
def b2(aD:List UInt8)(k:Int):ee:=if((eb (some aD)).1:Int)=k then(eb (some aD)).2 else none
def e4(s:ee):Nat->ee
 |0=>s
 |n+1=>(eb (e4 s n)).2
theorem eV(s:ee)(a:s.left.length<=1000000000):∀n,(e4 s n).left.length<=1000000000
 |0=>a
 |n+1=>wc _ (eV s a n)
theorem xt{o:World}{A:Option Addr}{aD:List UInt8}{c:Nat}{k:Int}(l:Rd o A (aG aD))(f:aD.length<=1000000000):
 Calls prog 92 #[.slice A aD.length c,.int .i64 k] o λx w=>∃r v b G,x=ab r/\hO v b (b2 aD k) G/\C o [] [hd r v b,G] w:=by
 have a:Own [] o:=C.start o;refine a2 func92 ?_;have d:=F8 (c:=c) l f;refine bh 6 d j (λr w⟨r,v,G,m,g,aa⟩=>?_);subst m;have a:=a.aM aa;have d:=eH a.cB g (show(ee.left (some aD)).length<=1000000000 from f);refine bo 5 d j (λw⟨v1,ay,h,aa⟩=>?_);have a:=a.cA aa;refine bm 2 j j (λe=>?_) (λe=>?_)
 .skip
  have d:=ne a.cB;refine bo 2 d j (λw aa=>?_);have a:=a.cA aa;refine ao 4 j j ?_;have i:¬((eb (some aD)).1:Int)=k:=by simpa using e
  refine⟨_,_,_,G,j,?_,a⟩;unfold b2;rw [aI i];exact hO.bad G
 .skip
  refine ao 5 j j ?_;have he:((eb (some aD)).1:Int)=k:=by simpa using e
  refine⟨_,_,_,G,j,?_,a⟩;unfold b2;rw [a6 he];exact h
theorem uy{o:World}{a:Nat}{v0:Value}{e:List Chunk}{aD:List UInt8}{A:Option Addr}{rows:List (List UInt8)}{c:Nat}
 (b:Own [e0 a v0,e] o) (d:dt v0 aD e) (n:kX o A rows (au [e0 a v0,e])) (D:aD.length+i9 rows<=100000000):
 Calls prog 75 #[ab a,.slice A rows.length c] o λr w=>r= .tuple #[]/\∃v ag,dt v (aD++jI rows) ag/\C o (au [e0 a v0,e]) [e0 a v,ag] w:=by
 refine a2 func75 ?_
 refine cH 6 j (ct:=Nat×Value×List Chunk)
  (λi=>[(0,ab a),(6,.slice A rows.length c),(7,.int .i64 (rows.length:Nat)),(8,.int .i64 (i.1:Nat))])
  (λi w=>i.1<=rows.length/\dt i.2.1 (aD++jI (rows.take i.1)) i.2.2/\C o (au [e0 a v0,e]) [e0 a i.2.1,i.2.2] w)
  (λi=>rows.length-i.1) (0,v0,e) ⟨j,j,j,j,aY⟩ ⟨b6 _,by simpa [jI] using d,b⟩ ?_
 rintro⟨J,v,ag⟩ w ⟨k,d,b⟩;dsimp only at k d b⊢;refine bm 4 j j (λg=>?_) (λg=>?_)
 .skip
  have f:J<rows.length:=by have:=dj g;omega
  obtain⟨U,x,ci,p,q,s,t,u⟩:=n.at J f;have F:=I1 rows J f;have E:=I0 rows;have G:=D4 (rows.take J) (by omega);refine aq 5 j (fz j j j j (b.rd p q) (by simpa using s) f (λy B h=>?_));refine al 0 j h ?_;refine aq 6 j (eO b j j j j j j bJ (λz w b=>?_));have aJ:=b.bE;have m:=b.iV (off:=0) (sp:=none) (U:=[ad ((rows[J].length:Nat):Int)]);have b:=b.f2.f2;refine bh 0 (lg (cO:=[((rows[J].length:Nat):Int)]) b.cB d aJ m (by simp only [b4,List.length_cons,List.length_nil];omega)) j (λr w⟨_,v,ag,d,aa⟩=>?_);have b:=(b.cA aa).f2.drop;refine bh 3 (qR (c0:=rows[J]) b.cB d (b.rd t u) (by have:=jH rows[J] (by omega);simp only [hA,ea,je,List.flatMap_nil,gY,xF _ (show rows[J].length<=4611686018427387904 by omega),b4] at*;omega)) j (λr w⟨_,v,ag,d,aa⟩=>?_);have b:=b.cA aa;refine bq 1 j j j (cM J (by omega)) ?_;refine bP 1 j ?_;refine⟨(J+1,v,ag),⟨j,j,j,j,aY⟩,⟨f,?_,b⟩,by dsimp only;omega⟩;rw [D5 rows J f];simpa [hA,ea,xF _ (show rows[J].length<=4611686018427387904 by omega)] using d
 .skip
  refine ao 1 j j ?_;refine⟨j,v,ag,?_,b⟩;have l:J=rows.length:=by have:=dN g;omega
  subst l;simpa using d
theorem Hj{o:World}{x:Int}:
 Calls prog 115 #[.int .i64 x] o λr w=>∃G,dt r (enc (ge x)) G/\C o [] [G] w:=by
 have a:Own [] o:=C.start o;refine a2 func115 (bm 11 j j (λeu=>?_) (λeu=>?_))
 .skip
  refine aq 4 j (bS 3 (.int .u64 ((ge x:Nat):Int)) j (aH (Value.int .u64) ((by(try simp only [gd] at*);(try simp only [mY] at*);(try rw [lz]);unfold ge;omega))) ?_);have e:=n2 x
  refine cH 3 j (ct:=Nat×Value×List Chunk×List UInt8) (λi=>[(3,.int .u64 (i.1:Nat)),(4,i.2.1)])
   (λi w=>i.2.2.2++enc i.1=enc (ge x)/\dt i.2.1 i.2.2.2 i.2.2.1/\C o [] [i.2.2.1] w/\i.1<=4611686018427387904)
   (λi=>i.1) (ge x,.slice none 0 0,[],[]) ⟨j,j,aY⟩ ⟨j,Row.nil _ _,a.empty,e⟩ ?_
  rintro⟨u,v,ag,d⟩ w ⟨c,b,a,f⟩;dsimp only at c b a f⊢
  have hlen:d.length+(enc u).length<=9:=by
   have l:=aH List.length c;have n:=nj (ge x) e;simp only [b4] at l;omega
  have p:=sb u;refine cm 5 j j (λk=>?_) (λk=>?_)
  .skip
   refine bq 6 j j j (uW u f) (gt j j j j (aq 1 j (bS 17 (bv (UInt8.ofNat (u%128+128))) j (aH (Value.int .u8) (vw u)) ?_)));refine eO a j j j j j j bJ (λg w a=>?_);have aJ:Rd w (some ⟨g,0,none⟩) [bv (UInt8.ofNat (u%128+128))]:=a.bE;have a:=a.f1;refine d9 a b j j (by decide) j j j (m:=1) (news:=[bv (UInt8.ofNat (u%128+128))]) j aJ (fc [(UInt8.ofNat (u%128+128))]) (by omega) (by unfold maxLen;omega) (λv ag w b a=>?_);have a:=a.f1.drop;refine aq 3 j (io j j j j (by omega) j ?_);refine bS 21 (.int .u64 ((u/128:Nat):Int)) j (aH (Value.int .u64) (s3 u)) (bP 1 j ?_);have hu:¬u<128:=by omega
   refine⟨(u/128,v,ag,d++[(UInt8.ofNat (u%128+128))]),⟨j,j,aY⟩,⟨?_,nf b,a,by dsimp only;omega⟩,by dsimp only;omega⟩;rw [o9 hu] at c;simpa using c
  .skip
   refine aq 5 j (gt j j j j ?_);refine bS 24 (bv (UInt8.ofNat u)) j (aH (Value.int .u8) (sx u)) (eO a j j j j j j bJ (λh w a=>?_));have aJ:Rd w (some ⟨h,0,none⟩) [bv (UInt8.ofNat u)]:=a.bE;have a:=a.f1;refine d9 a b j j (by decide) j j j (m:=1) (news:=[bv (UInt8.ofNat u)]) j aJ (fc [(UInt8.ofNat u)]) (by omega) (by unfold maxLen;omega) (λv ag w b a=>?_);have a:=a.f1.drop;refine ao 1 j j ?_;have hu:u<128:=by omega
   rw [n4 hu] at c;refine⟨ag,?_,a⟩;rw [<-c];exact nf b
 .skip
  refine bm 4 j j (λeC=>?_) (λeC=>?_)
  .skip
   refine aq 2 j (gt j j j j ?_);refine aq 3 j (bS 3 (.int .u64 ((ge x:Nat):Int)) j (aH (Value.int .u64) ((by(try simp only [gd] at*);(try simp only [mY] at*);(try rw [lz]);unfold ge;omega))) ?_);have e:=n2 x
   refine cH 3 j (ct:=Nat×Value×List Chunk×List UInt8) (λi=>[(3,.int .u64 (i.1:Nat)),(4,i.2.1)])
    (λi w=>i.2.2.2++enc i.1=enc (ge x)/\dt i.2.1 i.2.2.2 i.2.2.1/\C o [] [i.2.2.1] w/\i.1<=4611686018427387904)
    (λi=>i.1) (ge x,.slice none 0 0,[],[]) ⟨j,j,aY⟩ ⟨j,Row.nil _ _,a.empty,e⟩ ?_
   rintro⟨u,v,ag,d⟩ w ⟨c,b,a,f⟩;dsimp only at c b a f⊢
   have hlen:d.length+(enc u).length<=9:=by
    have l:=aH List.length c;have n:=nj (ge x) e;simp only [b4] at l;omega
   have p:=sb u;refine cm 5 j j (λk=>?_) (λk=>?_)
   .skip
    refine bq 6 j j j (uW u f) (gt j j j j (aq 1 j (bS 17 (bv (UInt8.ofNat (u%128+128))) j (aH (Value.int .u8) (vw u)) ?_)));refine eO a j j j j j j bJ (λg w a=>?_);have aJ:Rd w (some ⟨g,0,none⟩) [bv (UInt8.ofNat (u%128+128))]:=a.bE;have a:=a.f1;refine d9 a b j j (by decide) j j j (m:=1) (news:=[bv (UInt8.ofNat (u%128+128))]) j aJ (fc [(UInt8.ofNat (u%128+128))]) (by omega) (by unfold maxLen;omega) (λv ag w b a=>?_);have a:=a.f1.drop;refine aq 3 j (io j j j j (by omega) j ?_);refine bS 21 (.int .u64 ((u/128:Nat):Int)) j (aH (Value.int .u64) (s3 u)) (bP 1 j ?_);have hu:¬u<128:=by omega
    refine⟨(u/128,v,ag,d++[(UInt8.ofNat (u%128+128))]),⟨j,j,aY⟩,⟨?_,nf b,a,by dsimp only;omega⟩,by dsimp only;omega⟩;rw [o9 hu] at c;simpa using c
   .skip
    refine aq 5 j (gt j j j j ?_);refine bS 24 (bv (UInt8.ofNat u)) j (aH (Value.int .u8) (sx u)) (eO a j j j j j j bJ (λh w a=>?_));have aJ:Rd w (some ⟨h,0,none⟩) [bv (UInt8.ofNat u)]:=a.bE;have a:=a.f1;refine d9 a b j j (by decide) j j j (m:=1) (news:=[bv (UInt8.ofNat u)]) j aJ (fc [(UInt8.ofNat u)]) (by omega) (by unfold maxLen;omega) (λv ag w b a=>?_);have a:=a.f1.drop;refine ao 1 j j ?_;have hu:u<128:=by omega
    rw [n4 hu] at c;refine⟨ag,?_,a⟩;rw [<-c];exact nf b
  .skip
   refine aq 3 j (bS 3 (.int .u64 ((ge x:Nat):Int)) j (aH (Value.int .u64) ((by(try simp only [gd] at*);(try simp only [mY] at*);(try rw [lz]);unfold ge;omega))) ?_);have e:=n2 x
   refine cH 3 j (ct:=Nat×Value×List Chunk×List UInt8) (λi=>[(3,.int .u64 (i.1:Nat)),(4,i.2.1)])
    (λi w=>i.2.2.2++enc i.1=enc (ge x)/\dt i.2.1 i.2.2.2 i.2.2.1/\C o [] [i.2.2.1] w/\i.1<=4611686018427387904)
    (λi=>i.1) (ge x,.slice none 0 0,[],[]) ⟨j,j,aY⟩ ⟨j,Row.nil _ _,a.empty,e⟩ ?_
   rintro⟨u,v,ag,d⟩ w ⟨c,b,a,f⟩;dsimp only at c b a f⊢
   have hlen:d.length+(enc u).length<=9:=by
    have l:=aH List.length c;have n:=nj (ge x) e;simp only [b4] at l;omega
   have p:=sb u;refine cm 5 j j (λk=>?_) (λk=>?_)
   .skip
    refine bq 6 j j j (uW u f) (gt j j j j (aq 1 j (bS 17 (bv (UInt8.ofNat (u%128+128))) j (aH (Value.int .u8) (vw u)) ?_)));refine eO a j j j j j j bJ (λg w a=>?_);have aJ:Rd w (some ⟨g,0,none⟩) [bv (UInt8.ofNat (u%128+128))]:=a.bE;have a:=a.f1;refine d9 a b j j (by decide) j j j (m:=1) (news:=[bv (UInt8.ofNat (u%128+128))]) j aJ (fc [(UInt8.ofNat (u%128+128))]) (by omega) (by unfold maxLen;omega) (λv ag w b a=>?_);have a:=a.f1.drop;refine aq 3 j (io j j j j (by omega) j ?_);refine bS 21 (.int .u64 ((u/128:Nat):Int)) j (aH (Value.int .u64) (s3 u)) (bP 1 j ?_);have hu:¬u<128:=by omega
    refine⟨(u/128,v,ag,d++[(UInt8.ofNat (u%128+128))]),⟨j,j,aY⟩,⟨?_,nf b,a,by dsimp only;omega⟩,by dsimp only;omega⟩;rw [o9 hu] at c;simpa using c
   .skip
    refine aq 5 j (gt j j j j ?_);refine bS 24 (bv (UInt8.ofNat u)) j (aH (Value.int .u8) (sx u)) (eO a j j j j j j bJ (λh w a=>?_));have aJ:Rd w (some ⟨h,0,none⟩) [bv (UInt8.ofNat u)]:=a.bE;have a:=a.f1;refine d9 a b j j (by decide) j j j (m:=1) (news:=[bv (UInt8.ofNat u)]) j aJ (fc [(UInt8.ofNat u)]) (by omega) (by unfold maxLen;omega) (λv ag w b a=>?_);have a:=a.f1.drop;refine ao 1 j j ?_;have hu:u<128:=by omega
    rw [n4 hu] at c;refine⟨ag,?_,a⟩;rw [<-c];exact nf b
theorem Hk{o:World}{A:Option Addr}{cO:List Int}{c:Nat}(k:Rd o A (cO.map ad))(q:cO.length<=10000000):
 Calls prog 55 #[.slice A cO.length c] o λr w=>∃G,dt r (ea cO) G/\C o [] [G] w:=by
 have a:Own [] o:=C.start o;refine a2 func55 ?_
 refine cH 11 j (ct:=Nat×Value×List Chunk) (λi=>[(0,.slice A cO.length c),(3,i.2.1),(4,.int .i64 (i.1:Nat))])
  (λi w=>i.1<=cO.length/\dt i.2.1 (ea (cO.take i.1)) i.2.2/\C o [] [i.2.2] w)
  (λi=>cO.length-i.1) (0,.slice none 0 0,[]) ⟨j,j,j,aY⟩ ⟨b6 _,Row.nil _ _,a.empty⟩ ?_
 rintro⟨J,v,ag⟩ w ⟨g,b,a⟩;dsimp only at g b a⊢;refine cm 7 j j (λeC=>?_) (λeC=>?_)
 .skip
  have d:J<cO.length:=by omega
  refine aq 7 j (fz j j j j (a.rd k (bX.of_nil _ _)) (v:=ad cO[J]) (by simp [d]) d (λm p f=>?_));refine al 0 j f (bh 0 Hj j (λr w⟨G,e,aa⟩=>?_));have a:=a.aM aa;obtain⟨gU,n,rfl,_,_,l,_⟩:=e.rd a;have a:=a.f1;refine d9 a b j j (by decide) j j j (news:=aG (enc (ge cO[J]))) (by simp) l (fc _) (by have:=nj _ (n2 cO[J]);have:=gg (cO.take J);rw [List.length_take] at this;omega) (by have:=nj _ (n2 cO[J]);have:=gg (cO.take J);rw [List.length_take] at this;unfold maxLen;omega) (λv ag w b a=>?_);have a:=a.f1.drop;refine bq 3 j j j (cM J (by omega)) (bP 1 j (⟨(J+1,v,ag),⟨j,j,j,aY⟩,⟨d,?_,a⟩,by dsimp only;omega⟩));dsimp only;rw [D7 cO J d];exact rZ b j
 .skip
  refine ao 5 j j ?_;have h:J=cO.length:=by omega
  subst h;exact⟨ag,by simpa using b,a⟩
structure aF where
 k:Int
 s:Int
 v:Int
 sum:List UInt8
 f:Int
 tag:List UInt8
def aF.ok(x:aF):Prop:=x.sum.length=32/\x.tag.length=32
def aF.cs(x:aF):List Value:=ad x.k::ad x.s::ad x.v::(aG x.sum++ad x.f::aG x.tag)
def aF.kM(x:aF):List UInt8:=ea [x.k,x.s,x.v]++(x.sum++(ea [x.f]++x.tag))
def aF.lR(x:aF):List UInt8:=ea [5,x.k,x.s,x.v]++(x.sum++ea [x.f])
def jt(l:List aF):List UInt8:=ea [(l.length:Int)]++l.flatMap aF.kM
theorem aF.g1(x:aF):x.cs.toArray[0]? =some (ad x.k):=by simp [aF.cs]
theorem aF.aX(x:aF):x.cs.toArray[1]? =some (ad x.s):=by simp [aF.cs]
theorem aF.dv(x:aF):x.cs.toArray[2]? =some (ad x.v):=by simp [aF.cs]
theorem aF.eS(x:aF)(h:x.ok):x.cs.toArray[35]? =some (ad x.f):=by
 have a:=h.1;simp only [aF.cs,na,nY];rw [jf (by simp [a])];simp [a]
theorem aF.len(x:aF)(h:x.ok):x.cs.length=68:=by simp [aF.cs,h.1,h.2]
theorem aF.qn(x:aF)(h:x.ok):∀i v,(aG x.sum)[i]? =some v->x.cs.toArray[0+3+i]? =some v:=λi v a=>by
 have b:i<(aG x.sum).length:=(eY.1 a).1;rw [show 0+3+i=i+1+1+1 by omega];simp only [aF.cs,na,nY];rw [iC b];exact a
theorem aF.r6(x:aF)(h:x.ok):∀i v,(aG x.tag)[i]? =some v->x.cs.toArray[0+36+i]? =some v:=λi v b=>by
 have a:=h.1;rw [show 0+36+i=(i+33)+1+1+1 by omega];simp only [aF.cs,na,nY];rw [jf (by simp [a])];simp only [ds,a];rw [show i+33-32=i+1 by omega,nY];exact b
theorem aF.one(x:aF):x.cs.all (·.oneCell')=true:=by
 simp only [aF.cs,List.all_cons,List.all_append,Bool.and_eq_true,List.all_eq_true];exact⟨j,j,j,λv a=>fc _ v a,j,λv a=>fc _ v a⟩
theorem Fo(x:aF)(h:x.ok):x.kM.length<=200:=by
 have a:=gg [x.k,x.s,x.v];have b:=gg [x.f];simp only [ez,gk] at a b;simp only [aF.kM,b4,h.1,h.2];omega
theorem Fn{o:World}{a:Nat}{v0:Value}{l:List Chunk}{aD:List UInt8}{x:aF}(b:Own [e0 a v0,l] o)(d:dt v0 aD l)(h:x.ok)(z:aD.length<=100000000):
 Calls prog 158 #[ab a,.agg x.cs.toArray] o λr w=>r= .tuple #[]/\∃v ag,dt v (aD++x.kM) ag/\C o (au [e0 a v0,l]) [e0 a v,ag] w:=by
 refine a2 func158 ?_;refine bM 2 b j j (λy w b=>?_);refine al 4 j (b.cell x.g1) ?_;refine al 1 j (b.cell x.aX) ?_;refine al 1 j (b.cell x.dv) ?_;refine eO b j j j j j j bJ (λt w b=>?_);have aJ:=b.bE;have m:=b.iV (off:=0) (sp:=none) (U:=[x.k,x.s,x.v].map ad);have b:=b.f2.f3.f1;have g:=lg (cO:=[x.k,x.s,x.v]) (c:=3) b.cB d aJ (m.kU (by simp) (fI (by simp))) (by simp;omega);refine bo 0 g j (λw⟨v1,i,d,aa⟩=>?_);have b:=b.cA aa;have q:=gg [x.k,x.s,x.v];have p:=gg [x.f];simp only [ez,gk] at q p;refine aq 4 j (mS j j j ?_);have n:=b.f3.i6 (off:=0+3) (U:=aG x.sum) (x.qn h);have g:=qR (c:=32) b.cB d n (by rw [b4,h.1];omega);rw [h.1] at g;refine bo 0 g j (λw⟨v1,i,d,aa⟩=>?_);have b:=b.cA aa;refine al 4 j (b.f3.cell (x.eS h)) ?_;refine eO b j j j j j j bJ (λu w b=>?_);have aJ:=b.bE;have m:=b.iV (off:=0) (sp:=none) (U:=[x.f].map ad);have b:=b.f1.f2.f1;have g:=lg (cO:=[x.f]) (c:=1) b.cB d aJ (m.kU (by simp) (fI (by simp))) (by simp [h.1];omega);refine bo 0 g j (λw⟨v1,i,d,aa⟩=>?_);have b:=b.cA aa;refine aq 3 j (mS j j j ?_);have n:=b.f4.i6 (off:=0+36) (U:=aG x.tag) (x.r6 h);have g:=qR (c:=32) b.cB d n (by simp only [b4,h.1,h.2];omega);rw [h.2] at g;refine bo 0 g j (λw⟨v1,i,d,aa⟩=>?_);have b:=b.cA aa;refine ao 0 j j ?_;refine⟨j,v1,i,?_,b.kK⟩;have e:aD++x.kM=aD++ea [x.k,x.s,x.v]++x.sum++ea [x.f]++x.tag:=by simp [aF.kM,dF]
 rw [e];exact d
theorem wp:∀(l:List aF),(∀x∈l,x.ok)->∀(i:Nat)(a:i<l.length),((l.flatMap aF.cs).drop (i*68)).take 68=l[i].cs
 |[],_,i,a=>by simp at a
 |x::r,h,0,_=>by
  have b:=x.len (h x (by simp));rw [oJ,List.drop_zero,je,List.take_append_of_le_length (by omega),ir (by omega)];rfl
 |x::r,h,i+1,a=>by
  have b:=x.len (h x (by simp));have d:=wp r (λy c=>h y (by simp [c])) i (by simpa using a);rw [je,show(i+1)*68=x.cs.length+i*68 by rw [b];omega,List.drop_append];rw [tT (by omega),jV,show x.cs.length+i*68-x.cs.length=i*68 by omega];exact d
theorem pD(l:List aF)(h:∀x∈l,x.ok)(i:Nat)(c:i<l.length):(l.flatMap aF.cs)[i*68]? =some (ad l[i].k):=by
 have b:=wp l h i c;have a:=aH (λz=>z[0]?) b;simp only [jD,lA] at a;simpa [aF.cs] using a
theorem pE{w:World}{a:Addr}{l:List aF}(d:Rd w (some a) (l.flatMap aF.cs))(h:∀x∈l,x.ok)(i:Nat)(c:i<l.length):Rd w (some (a.add (i*68))) l[i].cs:=by
 have b:=(d.drop (i*68)).take 68;rw [wp l h i c] at b;exact b
theorem yW(l:List aF)(h:∀x∈l,x.ok)(i:Nat):((l.take i).flatMap aF.kM).length<=200*i:=by
 induction i with
 |zero=>simp
 |succ i b=>
  by_cases a:i<l.length
  .rw [fu a,ma,List.length_append];have:=Fo l[i] (h _ (et a));simp only [je,List.flatMap_nil,gY];omega
  .rw [ir (by omega)] at b⊢;omega
theorem Ak{o:World}{a:Nat}{v0:Value}{h:List Chunk}{aD:List UInt8}{B:Option Addr}{l:List aF}{d:Nat}(b:Own [e0 a v0,h] o)(f:dt v0 aD h)(F:Rd o B (l.flatMap aF.cs))(y:bX B (l.flatMap aF.cs) (au [e0 a v0,h]))(p:∀x∈l,x.ok)(M:l.length<=1000)(K:aD.length<=1000000):
 Calls prog 157 #[ab a,.func (.func 158) #[] #[],.slice B l.length d] o λr w=>r= .tuple #[]/\∃v ag,dt v (aD++jt l) ag/\C o (au [e0 a v0,h]) [e0 a v,ag] w:=by
 refine a2 func157 ?_;refine aq 5 j (eO b j j j j j j bJ (λI w b=>?_));have aJ:=b.bE;have z:=b.iV (off:=0) (sp:=none) (U:=[(l.length:Int)].map ad);have b:=b.f1.f2.f1;have s:=lg (cO:=[(l.length:Int)]) (c:=1) b.cB f aJ (z.kU (by simp) (fI (by simp))) (by simp;omega);refine bo 0 s j (λw⟨v1,m,f,aa⟩=>?_);have b:=(b.cA aa).kK;have E:=gg [(l.length:Int)];simp only [ez,gk] at E
 refine cH 6 j (ct:=Nat×Value×List Chunk) (λi=>[(0,ab a),(1,.func (.func 158) #[] #[]),(13,.slice B l.length d),(14,.int .i64 (l.length:Nat)),(15,.int .i64 (i.1:Nat))])
  (λi w=>i.1<=l.length/\dt i.2.1 (aD++ea [(l.length:Int)]++(l.take i.1).flatMap aF.kM) i.2.2/\C o (au [e0 a v0,h]) [e0 a i.2.1,i.2.2] w) (λi=>l.length-i.1) (0,v1,m) ⟨j,j,j,j,j,aY⟩ ⟨b6 _,by simpa using f,b⟩ ?_
 rintro⟨i,v1,m⟩ w ⟨A,f,b⟩;dsimp only at A f b⊢;refine bm 4 j j (λq=>?_) (λq=>?_)
 .skip
  have g:i<l.length:=by have:=dj q;omega
  have n:=p l[i] (et g);have t:=b.rd F y;have N:=yW l p i;refine aq 5 j (fz j j j j t (v:=ad l[i].k) (pD l p i g) g (λH u L=>?_));subst u;refine bN 0 j j (l[i].len n) (pE t p i g) ?_;refine cl 0 b j (λJ w b=>?_);refine ck 0 b j j j l[i].one (l[i].len n) (λw b=>?_);have b:=C.whole (U:=l[i].cs) b (by rw [l[i].len n];rfl);refine bN 3 (U:=l[i].cs) j j (l[i].len n) b.bE ?_;have b:=b.f1.f2.f1;have s:=Fn b.cB f n (by simp only [b4];omega);refine hL j j j j s (λr w⟨G,v1,m,f,aa⟩=>?_);subst G;have b:=(b.cA aa).kK;refine bq 1 j j j (cM i (by omega)) ?_;refine bP 1 j ?_;refine⟨(i+1,v1,m),⟨j,j,j,j,j,aY⟩,⟨g,?_,b⟩,by dsimp only;omega⟩;dsimp only
  have e:aD++ea [(l.length:Int)]++(l.take (i+1)).flatMap aF.kM=aD++ea [(l.length:Int)]++(l.take i).flatMap aF.kM++l[i].kM:=by
   rw [fu g,ma];simp [dF]
  rw [e];exact f
 .skip
  refine ao 1 j j ?_;have D:i=l.length:=by have:=dN q;omega
  rw [D,gu] at f;refine⟨j,v1,m,?_,b⟩;have e:aD++jt l=aD++ea [(l.length:Int)]++l.flatMap aF.kM:=by simp [jt,dF]
  rw [e];exact f
theorem A2{o:World}{x:aF}(h:x.ok):Calls prog 154 #[.agg x.cs.toArray] o λr w=>∃G,dt r x.lR G/\C o [] [G] w:=by
 have a:Own [] o:=C.start o;refine a2 func154 ?_;refine bM 2 a j j (λay w a=>?_);refine cl 3 a j (λm w a=>?_);have a:C o [] (e0 m (.slice none 0 0)::_) w:=a;refine al 3 j (a.f1.cell x.g1) ?_;refine al 1 j (a.f1.cell x.aX) ?_;refine al 1 j (a.f1.cell x.dv) ?_;refine eO a j j j j j j bJ (λy w a=>?_);have aJ:=a.bE;have i:=a.iV (off:=0) (sp:=none) (U:=[5,x.k,x.s,x.v].map ad);have a:=a.f1.empty.f1;have d:=lg (aD:=[]) (cO:=[5,x.k,x.s,x.v]) (c:=4) a.cB (Row.nil _ _) aJ (i.kU (by simp) (λb p=>fI (fy:=[e0 m (.slice none 0 0)]) (by simp) b (by simpa [au] using p))) (by simp);refine bo 0 d j (λw⟨v1,l,g,aa⟩=>?_);have a:=a.cA aa;rw [jV] at g;have t:=gg [5,x.k,x.s,x.v];simp only [ez,gk] at t;have q:=gg [x.f];simp only [ez,gk] at q;refine aq 3 j (mS j j j ?_);have u:=a.f3.i6 (off:=0+3) (U:=aG x.sum) (x.qn h);have d:=qR (c:=32) a.cB g u (by rw [h.1];omega);rw [h.1] at d;refine bo 0 d j (λw⟨v1,l,g,aa⟩=>?_);have a:=a.cA aa;refine al 3 j (a.f3.cell (x.eS h)) ?_;refine eO a j j j j j j bJ (λz w a=>?_);have aJ:=a.bE;have i:=a.iV (off:=0) (sp:=none) (U:=[x.f].map ad);have a:=a.f1.f2.f1;have d:=lg (cO:=[x.f]) (c:=1) a.cB g aJ (i.kU (by simp) (fI (by simp))) (by simp [h.1];omega);refine bo 0 d j (λw⟨v1,l,g,aa⟩=>?_);have a:=a.cA aa;have d:=qM a.cB g (by simp only [b4,h.1];omega);refine bh 2 d j (λr w⟨G,n,aa⟩=>?_);have a:=(a.cA aa).hT;refine ao 1 j j ?_;refine⟨G,?_,a⟩;have e:x.lR=ea [5,x.k,x.s,x.v]++x.sum++ea [x.f]:=by simp [aF.lR,dF]
 rw [e];exact n
structure aB where
 k:Int
 f:Int
 to:Int
 s:Int
 v:Int
 A:Option Addr
 x:List UInt8
 c:Nat
 B:Option Addr
 l:List aF
 d:Nat
 tag:List UInt8
def aB.cs(m:aB):List Value:=ad m.k::ad m.f::ad m.to::ad m.s::ad m.v:: .slice m.A m.x.length m.c:: .slice m.B m.l.length m.d::aG m.tag
structure aB.ok(m:aB)(w:World):Prop where
 x:Rd w m.A (aG m.x)
 l:Rd w m.B (m.l.flatMap aF.cs)
 aE:∀x∈m.l,x.ok
 tag:m.tag.length=32
def aB.body(m:aB):List UInt8:=ea [4,m.k,m.f,m.s,m.v]++(hA m.x++jt m.l)
theorem aB.g1(m:aB):m.cs.toArray[0]? =some (ad m.k):=by simp [aB.cs]
theorem aB.aX(m:aB):m.cs.toArray[1]? =some (ad m.f):=by simp [aB.cs]
theorem aB.dv(m:aB):m.cs.toArray[2]? =some (ad m.to):=by simp [aB.cs]
theorem aB.gI(m:aB):m.cs.toArray[3]? =some (ad m.s):=by simp [aB.cs]
theorem aB.fl(m:aB):m.cs.toArray[4]? =some (ad m.v):=by simp [aB.cs]
theorem aB.gl(m:aB):m.cs.toArray[5]? =some (.slice m.A m.x.length m.c):=by simp [aB.cs]
theorem aB.eu(m:aB):m.cs.toArray[6]? =some (.slice m.B m.l.length m.d):=by simp [aB.cs]
theorem aB.len(m:aB){w:World}(h:m.ok w):m.cs.length=39:=by simp [aB.cs,h.tag]
theorem aB.one(m:aB):m.cs.all (·.oneCell')=true:=by
 simp only [aB.cs,List.all_cons,d8,jW];exact⟨j,j,j,j,j,j,j,λv a=>fc _ v a⟩
theorem aB.ok.st{m:aB}{o w:World}{ae:List (List Chunk)}(h:m.ok o)(a:C o [] ae w):m.ok w:=⟨a.rd h.x (bX.of_nil _ _),a.rd h.l (bX.of_nil _ _),h.aE,h.tag⟩
theorem lo(l:List aF)(h:∀x∈l,x.ok):(jt l).length<=9+200*l.length:=by
 have a:=gg [(l.length:Int)];have b:=yW l h l.length;rw [gu] at b;simp only [ez,gk] at a;simp only [jt,b4];omega
theorem mg{o:World}{m:aB}(hm:m.ok o)(L:m.x.length<=10000)(E:m.l.length<=1000):Calls prog 91 #[.agg m.cs.toArray] o λr w=>∃G,dt r m.body G/\C o [] [G] w:=by
 have a:Own [] o:=C.start o;refine a2 func91 ?_;refine bM 2 a j j (λay w a=>?_);refine cl 3 a j (λn w a=>?_);have a:C o [] (e0 n (.slice none 0 0)::_) w:=a;refine al 3 j (a.f1.cell m.g1) ?_;refine al 1 j (a.f1.cell m.aX) ?_;refine al 1 j (a.f1.cell m.gI) ?_;refine al 1 j (a.f1.cell m.fl) ?_;refine eO a j j j j j j bJ (λI w a=>?_);have aJ:=a.bE;have t:=a.iV (off:=0) (sp:=none) (U:=[4,m.k,m.f,m.s,m.v].map ad);have a:=a.f1.empty.f1;have h:=lg (aD:=[]) (cO:=[4,m.k,m.f,m.s,m.v]) (c:=5) a.cB (Row.nil _ _) aJ (t.kU (by simp) (λb B=>fI (fy:=[e0 n (.slice none 0 0)]) (by simp) b (by simpa [au] using B))) (by simp);refine bo 0 h j (λw⟨v1,i,g,aa⟩=>?_);have a:=a.cA aa;rw [jV] at g;have F:=gg [4,m.k,m.f,m.s,m.v];simp only [ez,gk] at F;refine al 3 j (a.f3.cell m.gl) ?_;refine eO a j j j j j j bJ (λp w a=>?_);have H:=a.bE;have u:=a.iV (off:=0) (sp:=none) (U:=[.slice m.A m.x.length m.c]);have a:=a.f1.f2.f1;have z:=a.apart hm.x (bX.of_nil _ _);have D:kX w (some ⟨p,0,none⟩) [m.x] (au [e0 n v1,i]):=kX.one H j (u.sub (fI (by simp))) (a.rd hm.x (bX.of_nil _ _)) (z.sub (fI (by simp)));have h:=uy (c:=1) a.cB g D (by simp only [i9,jT,rG,List.sum_cons,List.sum_nil];omega);refine bo 0 h j (λw⟨v1,i,g,aa⟩=>?_);have a:=a.cA aa;rw [show jI [m.x]=hA m.x from by simp [jI]] at g;have J:=jH m.x (by omega);refine al 3 j (a.f4.cell m.eu) ?_;have y:=a.apart hm.l (bX.of_nil _ _);have h:=Ak (d:=m.d) a.cB g (a.rd hm.l (bX.of_nil _ _)) (y.sub (fI (by simp))) hm.aE E (by simp only [b4];omega);refine bo 0 h j (λw⟨v1,i,g,aa⟩=>?_);have a:=a.cA aa;have K:=lo m.l hm.aE;have h:=qM a.cB g (by simp only [b4];omega);refine bh 2 h j (λr w⟨G,q,aa⟩=>?_);have a:=(a.cA aa).hT;refine ao 1 j j ?_;refine⟨G,?_,a⟩;have e:m.body=ea [4,m.k,m.f,m.s,m.v]++hA m.x++jt m.l:=by simp [aB.body,dF]
 rw [e];exact q
abbrev h9(b:Nat)(g:List UInt8):List Chunk:=R b (aG g).toArray 79
theorem z8{o w:World}{F:List Nat}{ae:List (List Chunk)}{b:Nat}{U:List Value}{e:TypeId}(h:C o F ([(b,.cells U.toArray e (0,0))]::ae) w):Rd w (some ⟨b,0,none⟩) U:=h.bE
def i8(x:aF):Bool:=fq x.k 1 3&&fq x.s 0 63&&fq x.v 0 8&&fq x.f 0 9
def i3(m:aB):Bool:=fq m.k 1 6&&fq m.f 0 9&&fq m.to 0 9&&fq m.s 0 63&&fq m.v 0 8&&decide (m.x.length<=200)&&decide (m.l.length<=10)&&m.l.all i8
theorem Cr(l:List aF)(i:Nat)(a:i<l.length):(l.take (i+1)).all i8=((l.take i).all i8&&i8 l[i]):=by
 rw [fu a,List.all_append];simp
theorem Cs(l:List aF)(i:Nat)(b:i<l.length)(h:i8 l[i]=false):l.all i8=false:=by
 rw [<-Bool.not_eq_true,jW];intro a;rw [a _ (et b)] at h;cases h
theorem E4{o:World}{x:aF}(h:x.ok):Calls prog 256 #[.agg x.cs.toArray] o λr w=>r= .bool (i8 x)/\C o [] [] w:=by
 have c:Own [] o:=C.start o;refine a2 func256 (bM 2 c j j (λay w c=>al 4 j (c.cell x.g1) ?_));have d:=iZ (o:=w) (n:=x.k) (a:=1) (b:=3);refine bo 0 d j (λw aa=>?_);have c:=c.aM aa;refine aq 1 j (cQ 6 j (λeu=>?_) (λeu=>?_))
 .refine al 1 j (c.cell x.aX) ?_;have d:=iZ (o:=w) (n:=x.s) (a:=0) (b:=63);refine bo 0 d j (λw aa=>?_);have c:=c.aM aa;refine aq 2 j (cQ 11 j (λe=>?_) (λe=>?_));refine al 1 j (c.cell x.dv) ?_;have d:=iZ (o:=w) (n:=x.v) (a:=0) (b:=8);refine bo 0 d j (λw aa=>?_);have c:=c.aM aa;refine aq 2 j (cQ 16 j (λg=>?_) (λg=>?_))
  .refine al 1 j (c.cell (x.eS h)) ?_;have d:=iZ (o:=w) (n:=x.f) (a:=0) (b:=9);refine bo 0 d j (λw aa=>?_);have c:=c.aM aa;refine ao 2 j j (⟨aH Value.bool ?_,c.bare⟩);unfold i8
   simp_all
  rotate_left
  refine aq 5 j (bS 16 (.bool false) j (aH Value.bool (j)) ?_);rotate_left
  all_goals
   refine ao 5 j j (⟨aH Value.bool ?_,c.bare⟩);unfold i8
   simp_all
 refine aq 5 j (bS 11 (.bool false) j (aH Value.bool (j)) ?_);refine aq 5 j (bS 16 (.bool false) j (aH Value.bool (j)) ?_);refine ao 5 j j (⟨aH Value.bool ?_,c.bare⟩);unfold i8
 simp_all
theorem CU{o:World}{x:aF}(b:x.ok):Calls prog 255 #[.agg x.cs.toArray] o λr w=>r= .bool (!i8 x)/\C o [] [] w:=by
 have a:Own [] o:=C.start o;refine a2 func255 ?_;refine bM 2 a j j (λay w a=>?_);refine bN 3 (U:=x.cs) j j (x.len b) (z8 a) ?_;have c:=E4 (o:=w) b;refine bo 0 c j (λw aa=>?_);have a:=a.aM aa;refine ao 2 j j ?_;exact⟨j,a.bare⟩
theorem EQ{o:World}{B:Option Addr}{l:List aF}{d:Nat}(t:Rd o B (l.flatMap aF.cs))(g:∀x∈l,x.ok)(E:l.length<=1000000):
 Calls prog 287 #[.slice B l.length d,.func (.func 255) #[] #[]] o λr w=>(∃z:Int,r= .int .i64 z/\decide (z>=0)= !l.all i8)/\C o [] [] w:=by
 have a:Own [] o:=C.start o;refine a2 func287 ?_
 refine cH 10 j (ct:=Nat) (λi=>[(0,.slice B l.length d),(1,.func (.func 255) #[] #[]),(7,.int .i64 (l.length:Nat)),(8,.int .i64 (i:Nat))])
  (λi w=>i<=l.length/\(l.take i).all i8=true/\C o [] [] w) (λi=>l.length-i) 0 ⟨j,j,j,j,aY⟩ ⟨b6 _,j,a⟩ ?_
 rintro i w ⟨D,f,a⟩;refine cm 4 j j (λn=>?_) (λn=>?_)
 .skip
  have b:i<l.length:=by omega
  have m:=g l[i] (et b);have h:=a.rd t (bX.of_nil _ _);refine aq 12 j (fz j j j j h (v:=ad l[i].k) (pD l g i b) b (λy p A=>?_));subst p;refine bN 0 j j (l[i].len m) (pE h g i b) ?_;have q:=CU (o:=w) m;refine hL j j j j q (λr w⟨u,aa⟩=>?_);subst u;have a:=a.aM aa;refine bm 0 j j (λc=>?_) (λc=>?_)
  .skip
   refine ao 4 j j ?_;have e:i8 l[i]=false:=by simpa using c
   refine⟨⟨_,j,?_⟩,a⟩;rw [Cs l i b e];simp
  .skip
   refine bq 2 j j j (cM i (by omega)) (bP 1 j (⟨i+1,⟨j,j,j,j,aY⟩,⟨b,?_,a⟩,by omega⟩));have e:i8 l[i]=true:=by simpa using c
   rw [Cr l i b,f,e];rfl
 .skip
  refine ao 4 j j ?_;have s:i=l.length:=by omega
  rw [s,gu] at f;refine⟨⟨_,j,?_⟩,a⟩;rw [f];rfl
theorem DH{o:World}{B:Option Addr}{l:List aF}{d:Nat}(e:Rd o B (l.flatMap aF.cs))(f:∀x∈l,x.ok)(c:l.length<=1000000):
 Calls prog 254 #[.slice B l.length d,.func (.func 255) #[] #[]] o λr w=>r= .bool (!l.all i8)/\C o [] [] w:=by
 have a:Own [] o:=C.start o;refine a2 func254 ?_;have b:=EQ (d:=d) e f c;refine bh 7 b j (λr w⟨⟨z,g,h⟩,aa⟩=>?_);subst g;have a:=a.aM aa;exact ao 2 j j ⟨aH Value.bool h,a⟩
theorem EZ{o:World}{m:aB}(hm:m.ok o):Calls prog 205 #[.agg m.cs.toArray] o λr w=>r= .bool (i3 m)/\C o [] [] w:=by
 have c:Own [] o:=C.start o;refine a2 func205 (bM 2 c j j (λay w c=>al 4 j (c.cell m.g1) ?_));have e:=iZ (o:=w) (n:=m.k) (a:=1) (b:=6);refine bo 0 e j (λw aa=>?_);have c:=c.aM aa;refine aq 1 j (cQ 6 j (λeu=>?_) (λeu=>?_))
 .refine al 1 j (c.cell m.aX) ?_;have e:=iZ (o:=w) (n:=m.f) (a:=0) (b:=9);refine bo 0 e j (λw aa=>?_);have c:=c.aM aa;refine aq 2 j (cQ 11 j (λh=>?_) (λh=>?_));refine al 1 j (c.cell m.dv) ?_;have e:=iZ (o:=w) (n:=m.to) (a:=0) (b:=9);refine bo 0 e j (λw aa=>?_);have c:=c.aM aa;refine aq 2 j (cQ 16 j (λi=>?_) (λi=>?_))
  .refine al 1 j (c.cell m.gI) ?_;have e:=iZ (o:=w) (n:=m.s) (a:=0) (b:=63);refine bo 0 e j (λw aa=>?_);have c:=c.aM aa;refine aq 2 j (cQ 21 j (λp=>?_) (λp=>?_));refine al 1 j (c.cell m.fl) ?_;have e:=iZ (o:=w) (n:=m.v) (a:=0) (b:=8);refine bo 0 e j (λw aa=>?_);have c:=c.aM aa;refine aq 2 j (cQ 26 j (λq=>?_) (λq=>?_))
   .refine al 1 j (c.cell m.gl) (aq 4 j (cQ 32 j (λt=>?_) (λt=>?_)));refine al 1 j (c.cell m.eu) (aq 4 j (cQ 38 j (λg=>?_) (λg=>?_)))
    .refine al 1 j (c.cell m.eu) ?_;have u:=dj g;have e:=DH (d:=m.d) (hm.st c).l hm.aE (by omega);refine bo 0 e j (λw aa=>?_);have c:=c.aM aa;refine ao 3 j j (⟨aH Value.bool ?_,c.bare⟩);unfold i3
     simp_all<;>omega
    rotate_left
    refine aq 6 j (bS 38 (.bool false) j (aH Value.bool (j)) ?_);rotate_left
    all_goals
     refine ao 6 j j (⟨aH Value.bool ?_,c.bare⟩);unfold i3
     simp_all<;>omega
   rotate_left
   refine aq 5 j (bS 26 (.bool false) j (aH Value.bool (j)) ?_);rotate_left
   all_goals
    refine aq 6 j (bS 32 (.bool false) j (aH Value.bool (j)) ?_);refine aq 6 j (bS 38 (.bool false) j (aH Value.bool (j)) ?_);refine ao 6 j j (⟨aH Value.bool ?_,c.bare⟩);unfold i3
    simp_all<;>omega
  rotate_left
  refine aq 5 j (bS 16 (.bool false) j (aH Value.bool (j)) ?_);rotate_left
  all_goals
   refine aq 5 j (bS 21 (.bool false) j (aH Value.bool (j)) ?_);refine aq 5 j (bS 26 (.bool false) j (aH Value.bool (j)) ?_);refine aq 6 j (bS 32 (.bool false) j (aH Value.bool (j)) ?_);refine aq 6 j (bS 38 (.bool false) j (aH Value.bool (j)) ?_);refine ao 6 j j (⟨aH Value.bool ?_,c.bare⟩);unfold i3
   simp_all<;>omega
 refine aq 5 j (bS 11 (.bool false) j (aH Value.bool (j)) ?_);refine aq 5 j (bS 16 (.bool false) j (aH Value.bool (j)) ?_);refine aq 5 j (bS 21 (.bool false) j (aH Value.bool (j)) ?_);refine aq 5 j (bS 26 (.bool false) j (aH Value.bool (j)) ?_);refine aq 6 j (bS 32 (.bool false) j (aH Value.bool (j)) ?_);refine aq 6 j (bS 38 (.bool false) j (aH Value.bool (j)) ?_);refine ao 6 j j (⟨aH Value.bool ?_,c.bare⟩);unfold i3
 simp_all<;>omega
theorem qq(g a:List UInt8)(e:g.length=32)(f:a.length=32)(d:Nat)(w:World):(Op.equalIn (d+2) 79 (.agg (aG g).toArray) (.agg (aG a).toArray)).run prog w= .ok (g==a) w:=
 run_equalIn_bytes w d 79 5 32 underlying79 underlying5 (λw=>by
  obtain⟨i,b,_,c,_⟩:=cn.parts (inferInstance:cn prog 5 (.int .u8 0) 1 1);simp [sizeOf,typeInfo,b,c]) g a e f
structure am where
 av:Nat
 ej:Nat
 cap:Nat
 cur:Array Value
 keys:List (List UInt8)
structure am.at(g:am)(w:World):Prop where
 ring:w.heap[g.av]? =some (.cells #[.slice (some ⟨g.ej,0,none⟩) g.keys.length g.cap] 136 (0,0))
 keys:w.heap[g.ej]? =some (.cells g.cur 79 (0,0))
structure am.ok(g:am):Prop where
 len:∀k∈g.keys,k.length=32
 ib:1<=g.keys.length
 n10:g.keys.length<=10
 rd:∀(i:Nat)(h:i<g.keys.length)(J:Nat)(v:Value),(aG g.keys[i])[J]? =some v->g.cur[32*i+J]? =some v
structure am.off(g:am)(F:List Nat):Prop where
 r:g.av∉F
 k:g.ej∉F
abbrev am.p(g:am):Value:=.pointer (some ⟨g.av,0,none⟩)
theorem am.at.st{g:am}{o w:World}{F:List Nat}{ae:List (List Chunk)}(h:g.at o)(a:C o F ae w)(b:g.off F):g.at w:=
 ⟨by rw [a.fX _ (gv.1 h.ring).1 b.r];exact h.ring,by rw [a.fX _ (gv.1 h.keys).1 b.k];exact h.keys⟩
theorem am.off.nil(g:am):g.off []:=⟨by simp,by simp⟩
theorem am.at.apart{g:am}{o w:World}{F:List Nat}{ae:List (List Chunk)}(h:g.at o)(b:C o F ae w)(c:g.off F):g.off (au ae):=
 ⟨λa=>(b.own _ a).elim c.r (λd=>by have:=(gv.1 h.ring).1;omega),λa=>(b.own _ a).elim c.k (λd=>by have:=(gv.1 h.keys).1;omega)⟩
theorem am.off.sub{g:am}{F eJ:List Nat}(h:g.off F)(aL:∀b∈eJ,b∈F):g.off eJ:=⟨λa=>h.r (aL _ a),λa=>h.k (aL _ a)⟩
def cL:List UInt8:=List.replicate 32 0
def am.mj(g:am)(i:Int):Prop:=0<=i/\i<g.keys.length
instance (g:am)(i:Int):Decidable (g.mj i):=inferInstanceAs (Decidable (_/\_))
def am.cr(g:am)(i:Int)(b:List UInt8):List UInt8:=if g.mj i then of (g.keys.getD i.toNat []) b else cL
theorem am.ec(g:am)(i:Int)(b:List UInt8):(g.cr i b).length=32:=by unfold am.cr;split;exact qG _ _;rfl
def am.check(g:am)(i:Int)(b tag:List UInt8):Bool:=decide (g.mj i)&&(g.cr i b==tag)
theorem my{o:World}{g:am}(a:g.at o):Calls prog 153 #[g.p] o λr w=>r= .int .i64 g.keys.length/\w=o:=by
 refine a2 func153 ?_;refine al 15 j (ph a.ring j) ?_;refine ao 2 j j ?_;exact⟨j,j⟩
theorem nD{o:World}{g:am}(l:g.at o)(s:g.ok){i:Int}{B:Option Addr}{p:List UInt8}{d:Nat}(z:Rd o B (aG p))(y:p.length<=1000000):Calls prog 90 #[g.p,ad i,.slice B p.length d] o λr w=>r= .agg (aG (g.cr i p)).toArray/\C o [] [] w:=by
 have a:Own [] o:=C.start o;refine e9 func90 (cl 2 a j (λt w a=>?_));have a:C o [] [R t (Array.replicate 32 (bv 0)) 79] w:=a;refine aq 6 j (cQ 9 j (λk=>?_) (λk=>?_))
 .have n:¬g.mj i:=λh=>by have:=dj k;have:=h.1;omega
  refine aq 8 j (cP (c:=(aG cL).toArray) j j j (λ_=>by kernel_rfl) ?_);refine c4 a j j j (by decide) (by decide) (by decide) (λw a=>?_);have a:=C.whole (U:=aG cL) a j;refine bI 0 j ⟨_,hf (U:=aG cL) results90 j j j a.bE,?_⟩;refine⟨?_,a.bare⟩;unfold am.cr;rw [aI n]
 have e:=my (l.st a (am.off.nil g));refine bo 2 e j (λw hw=>?_);subst hw;refine cm 2 j j (λf=>?_) (λf=>?_)
 .have n:¬g.mj i:=λh=>by have:=f;have:=h.2;omega
  refine aq 2 j (cP (c:=(aG cL).toArray) j j j (λ_=>by kernel_rfl) ?_);refine c4 a j j j (by decide) (by decide) (by decide) (λw a=>?_);have a:=C.whole (U:=aG cL) a j;refine bI 0 j ⟨_,hf (U:=aG cL) results90 j j j a.bE,?_⟩;refine⟨?_,a.bare⟩;unfold am.cr;rw [aI n]
 have b:0<=i/\i<g.keys.length:=by have:=dN k;have:=f;omega
 refine al 6 j (ph (l.st a (am.off.nil g)).ring j) (aq 1 j (pQ j j j j b.1 b.2 ?_));refine mS j j j ?_;have m:i.toNat<g.keys.length:=by have:=b.1;have:=b.2;omega
 have x:g.keys[i.toNat].length=32:=s.len _ (et m)
 have A:Rd w (some ((⟨g.ej,0,none⟩:Addr).add (i.toNat*32))) (aG g.keys[i.toNat]):=λJ v D=>⟨_,j,by
  rw [add_lit,add_lit];exact ph (l.st a (am.off.nil g)).keys (by rw [fg,Nat.mul_comm];exact s.rd _ m J v D)⟩
 have e:=FN (key:=g.keys[i.toNat]) (c:=32) A (by omega) (a.rd z (bX.of_nil _ _)) y (d:=d);rw [x] at e;refine bh 1 e j (λr w⟨q,u⟩=>?_);have q:r= .agg (aG (g.cr i p)).toArray:=by rw [q];unfold am.cr;rw [if_pos (show g.mj i from b)];simp [List.getD,m]
 subst q;have a:=a.aM u;refine c4 a j j j (by simpa using fc (g.cr i p)) (by rw [List.size_toArray,ds,am.ec]) (by decide) (λw a=>?_);have a:=C.whole (U:=aG (g.cr i p)) a (by rw [ds,am.ec];rfl);refine bI 0 j ⟨_,hf (U:=aG (g.cr i p)) results90 j j (by rw [ds,am.ec]) a.bE,?_⟩;exact⟨j,a.bare⟩
theorem r0{o:World}{g:am}(f:g.at o)(q:g.ok){i:Int}{B:Option Addr}{p tag:List UInt8}{d:Nat}(t:Rd o B (aG p))(s:p.length<=1000000)(k:tag.length=32):Calls prog 189 #[g.p,ad i,.slice B p.length d,.agg (aG tag).toArray] o λr w=>r= .bool (g.check i p tag)/\C o [] [] w:=by
 have a:Own [] o:=C.start o;refine a2 func189 (bM 2 a j j (λl w a=>?_));have a:=a.drew;refine bw 2 j (λw=>∃ae,C o [] (R l (aG tag).toArray 79::ae) w) ⟨_,a⟩ (af 0 3 j (ef 11 j (λc=>?_) (λc=>?_)))
 .refine af 3 2 j (aU 5 j (bF j j j (my (f.st a (am.off.nil g))) (λw hw=>?_)));subst hw;refine ar ⟨⟨_,a⟩,?_⟩;refine af 6 3 j (ef 17 j (λe=>?_) (λe=>?_))
  .refine af 9 3 j (aT 13 j (λw⟨_,a⟩=>c3 (U:=aG tag) j j (by rw [ds,k]) a.bE) (aU 12 j (bF j j j (nD (f.st a (am.off.nil g)) q (a.rd t (bX.of_nil _ _)) s) (λw n=>?_))));have a:=(a.aM n);refine ar ⟨⟨_,a⟩,?_⟩;refine aT 14 j (λw _=>oy j j (by kernel_rfl) (λw=>qq _ _ (am.ec g i p) k 9998 w)) (af 15 2 j (bK (ao 0 j j (⟨aH Value.bool ?_,a.bare⟩))));have m:=dj c;have b:=dj e;unfold am.check;rw [jC (show g.mj i from⟨m,b⟩),Bool.true_and]
  refine fH 8 [9,10,11,13,12,14,15,16] j (bK (ao 0 j j (⟨aH Value.bool ?_,a.bare⟩)));have b:=dN e;unfold am.check;rw [fj (show¬g.mj i from λh=>b h.2),oN]
 refine fH 14 [3,4,5,6,7,8,9,10,11,13,12,14,15,16] j (bK (ao 0 j j (⟨aH Value.bool ?_,a.bare⟩)));have b:=dN c;unfold am.check;rw [fj (show¬g.mj i from λh=>b h.1),oN]
def qW(n:Nat)(e6:List UInt8):List (List UInt8):=(List.range (min (max n 1) 10)).map λi=>bO (e6++[UInt8.ofNat i])
abbrev oc(l:List (List UInt8)):List Value:=l.flatMap aG
abbrev dR(g:am):List Chunk:=[(g.av,.cells #[.slice (some ⟨g.ej,0,none⟩) g.keys.length g.cap] 136 (0,0)),(g.ej,.cells g.cur 79 (0,0))]
theorem yU:forall (l:List (List UInt8)) (a:∀k∈l,k.length=32) (i:Nat) (h:i<l.length) (J:Nat) (v:Value),(aG l[i])[J]? =some v->(oc l)[32*i+J]? =some v
 |k::r,a,0,_,J,v,b=>by
  have c:J<(aG k).length:=(eY.1 b).1;show(aG k++oc r)[32*0+J]? =_;rw [Nat.mul_zero,fg,iC c];exact b
 |k::r,a,i+1,h,J,v,b=>by
  have aa:(aG k).length=32:=by rw [ds];exact a k (by simp)
  show(aG k++oc r)[32*(i+1)+J]? =_;rw [jf (by omega),aa,show 32*(i+1)+J-32=32*i+J by omega];exact yU r (λx d=>a x (by simp [d])) i (by simpa using h) J v b
theorem Ho(n:Nat)(e6:List UInt8):(qW n e6).length=min (max n 1) 10:=by simp [qW]
def kP(e6:List UInt8)(i:Nat):List (List UInt8):=(List.range i).map λi=>bO (e6++[UInt8.ofNat i])
theorem wb(e6:List UInt8)(i:Nat):(kP e6 i).length=i:=by simp [kP]
theorem Ah(e6:List UInt8)(i:Nat):∀k∈kP e6 i,k.length=32:=by
 intro k aa;obtain⟨i,_,rfl⟩:=dO.1 aa;exact e7 _
theorem Hp(e6:List UInt8)(i:Nat):kP e6 (i+1)=kP e6 i++[bO (e6++[UInt8.ofNat i])]:=by simp [kP,l9]
theorem FZ(n:Nat):min (max (n:Int) 1) 10=((min (max n 1) 10:Nat):Int):=by omega
theorem DK(x:Nat):IntKind.u8.wrap (x:Int)=((UInt8.ofNat x).toNat:Int):=by
 rw [mf,oY];omega
theorem vG{o:World}{n:Nat}{e6:List UInt8}(aJ:n<=1000)(aL:e6.length=32):Calls prog 29 #[.int .i64 n,.agg (aG e6).toArray] o λr w=>∃g:am,r=g.p/\g.ok/\g.keys=qW n e6/\C o [] [dR g] w:=by
 have a:Own [] o:=C.start o;refine a2 func29 (bM 2 a j j (λb w a=>?_));have a:C o [] [R b (aG e6).toArray 79] w:=a;refine aq 3 j (cP (c:= #[.slice none 0 0]) j j j (λ_=>by kernel_rfl) ?_);refine bM 0 a j j (λd w a=>?_);have a:C o [] [R d #[.slice none 0 0] 136,R b (aG e6).toArray 79] w:=a;skip
 refine aq 5 j (tL j j j ?_);refine ru j j j (bS 11 (.int .i64 (min (max n 1) 10:Nat)) j (aH (Value.int .i64) (FZ n)) ?_)
 refine cH 2 j (ct:=Nat×Value×List Chunk) (λi=>[(3,ab b),(5,ab d),(11,.int .i64 (min (max n 1) 10:Nat)),(12,.int .i64 (i.1:Nat))])
  (λi w=>i.1<=min (max n 1) 10/\Row 79 32 i.2.1 i.1 (oc (kP e6 i.1)) i.2.2/\C o [] [R d #[i.2.1] 136,R b (aG e6).toArray 79,i.2.2] w) (λi=>10-i.1) (0,.slice none 0 0,[]) ⟨j,j,j,j,aY⟩ ⟨b6 _,Row.nil 79 32,a.empty.f2.f2⟩ ?_
 rintro⟨i,v,ag⟩ w ⟨F,l,a⟩;dsimp only at F l a⊢;refine cm 4 j j (λx=>?_) (λx=>?_)
 .have I:i<min (max n 1) 10:=by omega
  have a:=a.drew;refine bw 7 j (λw=>∃ae,C o [] ([R d #[v] 136,R b (aG e6).toArray 79]++ae) w) ⟨_,a⟩ (af 0 4 j (bT 4 j (λw⟨_,a⟩=>a.cell j) (aT 5 j (λw _=>BG j) (af 6 1 j (aT 7 j (λw _=>kC j (DK i)) (aU 8 j (eO a j j j j j j bJ (λV w a=>?_))))))));have K:=a.bE;have a:=a.f1.f2.f1;refine ar ⟨⟨_,a⟩,?_⟩;refine aU 9 j ?_;have O:Rd w (some ⟨b,0,none⟩) (aG e6):=a.f1.bE;refine BO (size:=1) (k:=32) (m:=1) (xs:=aG e6) (news:=aG [UInt8.ofNat i]) a j j (by decide) j j j (by rw [ds,aL]) O (by decide) (by decide) j K (by decide) (by decide) (λS t w h a=>?_)
  have h:dt S (e6++[UInt8.ofNat i]) t:=by
   have e:32+1=(e6++[UInt8.ofNat i]).length:=by rw [b4,aL];rfl
   rw [e,<-uv] at h;exact h
  obtain⟨T,X,rfl,D,_,N,_⟩:=h.rd a;have Z:(e6++[UInt8.ofNat i]).length=33:=by rw [b4,aL];rfl
  have a:=a.f1.f2.f1;refine ar ⟨⟨_,a⟩,?_⟩;refine aU 10 j ?_;have E:=pA N (by omega) D;refine bF j j j E (λw H=>?_);have a:=a.aM H;refine ar ⟨⟨_,a⟩,?_⟩;refine aU 11 j (gC (U:=aG (bO (e6++[UInt8.ofNat i]))) a j j j (by rw [ds,e7]) (by decide) (by decide) (λW w a=>?_));have L:=a.bE;have a:=a.f1.f2.f1;refine ar ⟨⟨_,a⟩,?_⟩;refine aU 12 j (d9 a.f5 l j j (by decide) j j j (news:=aG (bO (e6++[UInt8.ofNat i]))) (m:=1) (by rw [ds,e7]) L (fc _) (by omega) (by unfold maxLen;omega) (λv1 u w s a=>?_));have a:=a.f1.f2.f1;refine ar ⟨⟨_,a⟩,?_⟩;refine af 13 2 j (dy 15 j (cC a j j j s.one (by simp) (λw a=>?_)));have a:C o [] (R d #[v1] 136::_) w:=a;refine ar (cX (bq 1 j j j (cM i (by omega)) (bP 1 j (⟨(i+1,v1,u),⟨j,j,j,j,aY⟩,⟨I,?_,C.sg (A:=[_,_,_]) a⟩,by dsimp only;omega⟩))));dsimp only;have e:oc (kP e6 (i+1))=oc (kP e6 i)++aG (bO (e6++[UInt8.ofNat i])):=by rw [Hp];simp [oc]
  rw [e];exact s
 refine ao 5 j j ?_;have G:i=min (max n 1) 10:=by omega
 obtain⟨_,z⟩:=l;rcases z with⟨_,Y,_⟩|⟨y,cap,cur,rfl,rfl,_,_,_,P⟩
 .omega
 refine⟨⟨d,y,cap,cur,kP e6 i⟩,j,⟨Ah e6 i,by rw [wb];omega,by rw [wb];omega,λq M J v Q=>?_⟩,by subst G;rfl,?_⟩
 .have f:=yU (kP e6 i) (Ah e6 i) q M J v Q;rw [<-P,jD] at f;split at f
  .simpa using f
  cases f
 have B:=C.join (a.f1.drop);have e:(kP e6 i).length=i:=wb e6 i;dsimp only [dR];rw [e];exact B
def dE(T:TypeId)(w:World)(p:Option Addr)(m:List (Int×Value)):Prop:=
 (p=none/\m=[])\/∃b ah I,p=some ⟨b,0,none⟩/\w.heap[b]? =some (.cells #[.map (some ah)] T (0,0))/\w.heap[ah]? =some I/\cc bL I m
abbrev ax(T:TypeId)(b ah:Nat)(I:Obj):List Chunk:=[(b,.cells #[.map (some ah)] T (0,0)),(ah,I)]
theorem dE.own{T:TypeId}{o w:World}{F:List Nat}{ae:List (List Chunk)}{b ah:Nat}{I:Obj}{m:List (Int×Value)}(a:C o F (ax T b ah I::ae) w)(hm:cc bL I m):dE T w (some ⟨b,0,none⟩) m:=
 .inr ⟨b,ah,I,j,a.here (b,_) (by simp),a.here (ah,I) (by simp),hm⟩
theorem ij{T:TypeId}{o w:World}{F:List Nat}{ae:List (List Chunk)}{b ah:Nat}{I:Obj}(a:C o F (ax T b ah I::ae) w):C o F ([(b,.cells #[.map (some ah)] T (0,0))]::[(ah,I)]::ae) w:=C.split (ai:=[(b,.cells #[.map (some ah)] T (0,0))]) (aA:=[(ah,I)]) a
theorem iN{T:TypeId}{o w:World}{F:List Nat}{ae:List (List Chunk)}{b ah:Nat}{I:Obj}(a:C o F ([(b,.cells #[.map (some ah)] T (0,0))]::[(ah,I)]::ae) w):C o F (ax T b ah I::ae) w:=C.join (ai:=[(b,.cells #[.map (some ah)] T (0,0))]) (aA:=[(ah,I)]) a
def gE(n:Nat)(v:Value):Prop:=∃l:List Value,v= .agg l.toArray/\l.length=n/\l.all (·.oneCell')=true
theorem FY{m:List (Int×Value)}{k:Int}{v:Value}(h:aZ m k=some v):(k,v)∈m:=by
 rcases oh m k with⟨a,_⟩|⟨J,u,a,b,_⟩
 .rw [a] at h;cases h
 .rw [a] at h;cases h;exact hk b
theorem gE.get{n:Nat}{m:List (Int×Value)}{z:Value}(b:gE n z)(h:∀p∈m,gE n p.2)(k:Int):gE n ((aZ m k).getD z):=by
 cases a:aZ m k with
 |none=>exact b
 |some v=>exact h _ (FY a)
theorem dE.jk{T:TypeId}{w:World}{p:Option Addr}{m:List (Int×Value)}(h:dE T w p m)(a:p.isNone=true):p=none/\m=[]:=by
 rcases h with h|⟨b,ah,I,rfl,_⟩
 .exact h
 .cases a
theorem dE.jn{T:TypeId}{w:World}{p:Option Addr}{m:List (Int×Value)}(h:dE T w p m)(a:p.isNone=false):∃b ah I,p=some ⟨b,0,none⟩/\w.heap[b]? =some (.cells #[.map (some ah)] T (0,0))/\w.heap[ah]? =some I/\cc bL I m:=by
 rcases h with⟨rfl,_⟩|h
 .cases a
 .exact h
theorem C.cg{o w:World}{ae:List (List Chunk)}{b:Nat}{I:Obj}(a:C o [] ae w)(h:o.heap[b]? =some I):w.heap[b]? =some I:=by
 rw [a.fX b (gv.1 h).1 (by simp)];exact h
theorem xY{I:Obj}{m:List (Int×Value)}{k:Int}(hm:cc bL I m)(h:(aZ m k).isSome=false):cc bL I (fK m k):=by
 rcases oh m k with⟨_,b⟩|⟨J,u,a,_⟩
 .rw [vr m k b];exact hm
 .rw [a] at h;cases h
theorem cell_of{w:World}{b off:Nat}{c:Array Value}{e:TypeId}{e3:Nat×Nat}{v:Value}(h:w.heap[b]? =some (.cells c e e3))(a:c[off]? =some v):w.cell? ⟨b,off,none⟩=some v:=by simp [World.cell?,h,a]
abbrev rk:Value:=.agg #[.int .i64 0,.int .i64 0,.int .i64 0]
theorem F9{o:World}:Calls prog 61 #[] o λr w=>∃b ah,r=ab b/\cc bL (.map #[] 0) []/\C o [] [ax 229 b ah (.map #[] 0)] w:=by
 have a:Own [] o:=C.start o;refine a2 func61 (aq 5 j (jx j a j j (λay w a=>?_)));exact cP (c:= #[.map (some ay)]) j j j (λ_=>by kernel_rfl) (bM 0 a j j (λd w a=>ao 1 j j ⟨d,ay,j,cc.new,iN (T:=229) a⟩))
theorem HI{o:World}{b ah:Nat}{I:Obj}{m:List (Int×Value)}{k:Int}{l:List Value}(e:l.length=3)(g:l.all (·.oneCell')=true)(a:Own [ax 229 b ah I] o)(hm:cc bL I m):Calls prog 149 #[ab b,bL k,.agg l.toArray] o λr w=>r= .tuple #[]/\∃c,cc bL c (b9 m k (.agg l.toArray))/\C o (au [ax 229 b ah I]) [ax 229 b ah c] w:=by
 refine a2 func149 (bM 2 a j j (λd w a=>?_));have a:=a.drew;refine bw 5 j (λw=>∃c,C o (au [ax 229 b ah I]) ([R d l.toArray 123,ax 229 b ah c]) w) ⟨_,a⟩ (af 0 3 j (bT 3 j (λw⟨_,a⟩=>(ij a.f1).cell j) (af 4 1 j (aT 5 j (λw⟨_,a⟩=>c3 j j e a.bE) (aU 6 j (jy hm (ij a.f1).f1 j j j j (λc w f a=>?_)))))));have a:C o _ (ax 229 b ah c::_) w:=iN a.f1;have a:=a.f1;refine ar ⟨⟨_,a⟩,?_⟩;exact bK (ao 0 j j ⟨j,_,f,a.f1.hT⟩)
theorem IV:gE 3 rk:=⟨rk.cells.toList,j,j,j⟩
theorem Ey{o:World}{p:Option Addr}{m:List (Int×Value)}{k:Int}(hw:∀q∈m,gE 3 q.2)(d:dE 229 o p m):Calls prog 112 #[.pointer p,bL k] o λr w=>r= .tuple #[(aZ m k).getD rk,.bool (aZ m k).isSome]/\C o [] [] w:=by
 have a:Own [] o:=C.start o;obtain⟨l,e,c,f⟩:=gE.get IV hw k;refine e9 func112 (cl 2 a j (λi w a=>bm 6 j j (λdz=>?_) (λdz=>?_)))
 .obtain⟨rfl,rfl⟩:=d.jk dz;refine bN 2 j j j a.bE (ck 0 a j j j j j (λw a=>?_));have a:=C.whole (U:=rk.cells.toList) a j;refine bI 1 j ⟨_,dp results112 j j j j a.bE,?_⟩;exact⟨j,a.bare⟩
 obtain⟨b,ah,I,rfl,g,h,hm⟩:=d.jn dz;refine al 6 j (cell_of (a.cg g) j) (aq 1 j (mR hm (a.cg h) j j j j ?_));refine aq 2 j (bS 16 (.agg l.toArray) j e ?_);refine ck 1 a j j j f c (λw a=>?_);have a:=C.whole (U:=l) a (by rw [c];rfl);refine bN 3 (U:=l) j j c a.bE (aq 1 j (c4 a j j j f c (by simp [c]) (λw a=>?_)));have a:=C.whole (U:=l) a j;refine bI 1 j ⟨_,dp (U:=l) results112 j j j c a.bE,?_⟩;exact⟨by rw [e];rfl,a.bare⟩
abbrev I3:Value:=.pointer none
theorem F7{o:World}:Calls prog 127 #[] o λr w=>∃b ah,r=ab b/\cc bL (.map #[] 0) []/\C o [] [ax 239 b ah (.map #[] 0)] w:=by
 have a:Own [] o:=C.start o;refine a2 func127 (aq 5 j (jx j a j j (λay w a=>?_)));exact cP (c:= #[.map (some ay)]) j j j (λ_=>by kernel_rfl) (bM 0 a j j (λd w a=>ao 1 j j ⟨d,ay,j,cc.new,iN (T:=239) a⟩))
theorem HH{o:World}{b ah:Nat}{I:Obj}{m:List (Int×Value)}{k:Int}{v:Value}(a:Own [ax 239 b ah I] o)(hm:cc bL I m):Calls prog 128 #[ab b,bL k,v] o λr w=>r= .tuple #[]/\∃c,cc bL c (b9 m k (v))/\C o (au [ax 239 b ah I]) [ax 239 b ah c] w:=by
 refine a2 func128 (al 9 j ((ij a).cell j) (aq 2 j (jy hm (ij a).f1 j j j j (λc w d a=>?_))));have a:C o _ (ax 239 b ah c::_) w:=iN a.f1;exact ao 0 j j ⟨j,_,d,a.hT⟩
theorem nm{o:World}{p:Option Addr}{m:List (Int×Value)}{k:Int}(c:dE 239 o p m):Calls prog 67 #[.pointer p,bL k] o λr w=>r= .tuple #[(aZ m k).getD I3,.bool (aZ m k).isSome]/\C o [] [] w:=by
 have a:Own [] o:=C.start o;refine a2 func67 (bm 9 j j (λdz=>?_) (λdz=>?_))
 .obtain⟨rfl,rfl⟩:=c.jk dz;exact ao 5 j j ⟨j,a.bare⟩
 obtain⟨b,ah,I,rfl,d,e,hm⟩:=c.jn dz;refine al 6 j (cell_of (a.cg d) j) (aq 1 j (mR hm (a.cg e) j j j j ?_));exact ao 11 j j ⟨j,a.bare⟩
abbrev Bg:Value:=.pointer none
theorem Gc{o:World}:Calls prog 63 #[] o λr w=>∃b ah,r=ab b/\cc bL (.map #[] 0) []/\C o [] [ax 232 b ah (.map #[] 0)] w:=by
 have a:Own [] o:=C.start o;refine a2 func63 (aq 5 j (jx j a j j (λay w a=>?_)));exact cP (c:= #[.map (some ay)]) j j j (λ_=>by kernel_rfl) (bM 0 a j j (λd w a=>ao 1 j j ⟨d,ay,j,cc.new,iN (T:=232) a⟩))
theorem HK{o:World}{b ah:Nat}{I:Obj}{m:List (Int×Value)}{k:Int}{v:Value}(a:Own [ax 232 b ah I] o)(hm:cc bL I m):Calls prog 103 #[ab b,bL k,v] o λr w=>r= .tuple #[]/\∃c,cc bL c (b9 m k (v))/\C o (au [ax 232 b ah I]) [ax 232 b ah c] w:=by
 refine a2 func103 (al 9 j ((ij a).cell j) (aq 2 j (jy hm (ij a).f1 j j j j (λc w d a=>?_))));have a:C o _ (ax 232 b ah c::_) w:=iN a.f1;exact ao 0 j j ⟨j,_,d,a.hT⟩
theorem yx{o:World}{p:Option Addr}{m:List (Int×Value)}{k:Int}(c:dE 232 o p m):Calls prog 99 #[.pointer p,bL k] o λr w=>r= .tuple #[(aZ m k).getD Bg,.bool (aZ m k).isSome]/\C o [] [] w:=by
 have a:Own [] o:=C.start o;refine a2 func99 (bm 9 j j (λdz=>?_) (λdz=>?_))
 .obtain⟨rfl,rfl⟩:=c.jk dz;exact ao 5 j j ⟨j,a.bare⟩
 obtain⟨b,ah,I,rfl,d,e,hm⟩:=c.jn dz;refine al 6 j (cell_of (a.cg d) j) (aq 1 j (mR hm (a.cg e) j j j j ?_));exact ao 11 j j ⟨j,a.bare⟩
theorem Fx{o:World}{p:Option Addr}{m:List (Int×Value)}(c:dE 232 o p m):Calls prog 101 #[.pointer p] o λr w=>r= .int .i64 m.length/\C o [] [] w:=by
 have a:Own [] o:=C.start o;refine a2 func101 (bm 8 j j (λfl=>?_) (λfl=>?_))
 .obtain⟨rfl,rfl⟩:=c.jk fl;exact ao 3 j j ⟨j,a.bare⟩
 obtain⟨b,ah,I,rfl,d,e,hm⟩:=c.jn fl;exact al 6 j (cell_of (a.cg d) j) (tK hm (a.cg e) j j j j (ao 1 j j ⟨j,a.bare⟩))
theorem uJ{o:World}{b ah:Nat}{I:Obj}{m:List (Int×Value)}{k:Int}(a:Own [ax 232 b ah I] o)(hm:cc bL I m):Calls prog 108 #[ab b,bL k] o λr w=>r= .bool (aZ m k).isSome/\∃c,cc bL c (fK m k)/\C o (au [ax 232 b ah I]) [ax 232 b ah c] w:=by
 refine a2 func108 ?_;have e:=yx (k:=k) (dE.own a hm);refine bo 7 e j (λw aa=>?_);have a:=a.aM aa;refine bm 9 j j (λd=>?_) (λd=>?_)
 .refine al 4 j ((ij a).cell j) (aq 1 j (wI (t:=230) hm (ij a).f1 j j j j (λc w f a=>?_)));have a:C o _ (ax 232 b ah c::_) w:=iN a.f1;exact ao 4 j j ⟨j,_,f,a.hT⟩
 exact ao 5 j j ⟨j,_,xY hm d,a.hT⟩
abbrev tv:Value:=.agg #[.int .i64 0,.int .i64 0,.int .i64 0,.int .u8 0,.int .u8 0,.int .u8 0,.int .u8 0,.int .u8 0,.int .u8 0,.int .u8 0,.int .u8 0,.int .u8 0,.int .u8 0,.int .u8 0,.int .u8 0,.int .u8 0,.int .u8 0,.int .u8 0,.int .u8 0,.int .u8 0,.int .u8 0,.int .u8 0,.int .u8 0,.int .u8 0,.int .u8 0,.int .u8 0,.int .u8 0,.int .u8 0,.int .u8 0,.int .u8 0,.int .u8 0,.int .u8 0,.int .u8 0,.int .u8 0,.int .u8 0,.int .i64 0,.int .u8 0,.int .u8 0,.int .u8 0,.int .u8 0,.int .u8 0,.int .u8 0,.int .u8 0,.int .u8 0,.int .u8 0,.int .u8 0,.int .u8 0,.int .u8 0,.int .u8 0,.int .u8 0,.int .u8 0,.int .u8 0,.int .u8 0,.int .u8 0,.int .u8 0,.int .u8 0,.int .u8 0,.int .u8 0,.int .u8 0,.int .u8 0,.int .u8 0,.int .u8 0,.int .u8 0,.int .u8 0,.int .u8 0,.int .u8 0,.int .u8 0,.int .u8 0]
theorem Gd{o:World}:Calls prog 102 #[] o λr w=>∃b ah,r=ab b/\cc bL (.map #[] 0) []/\C o [] [ax 271 b ah (.map #[] 0)] w:=by
 have a:Own [] o:=C.start o;refine a2 func102 (aq 5 j (jx j a j j (λay w a=>?_)));exact cP (c:= #[.map (some ay)]) j j j (λ_=>by kernel_rfl) (bM 0 a j j (λd w a=>ao 1 j j ⟨d,ay,j,cc.new,iN (T:=271) a⟩))
theorem Aw{o:World}{b ah:Nat}{I:Obj}{m:List (Int×Value)}{k:Int}{l:List Value}(e:l.length=68)(g:l.all (·.oneCell')=true)(a:Own [ax 271 b ah I] o)(hm:cc bL I m):Calls prog 105 #[ab b,bL k,.agg l.toArray] o λr w=>r= .tuple #[]/\∃c,cc bL c (b9 m k (.agg l.toArray))/\C o (au [ax 271 b ah I]) [ax 271 b ah c] w:=by
 refine a2 func105 (bM 2 a j j (λd w a=>?_));have a:=a.drew;refine bw 5 j (λw=>∃c,C o (au [ax 271 b ah I]) ([R d l.toArray 115,ax 271 b ah c]) w) ⟨_,a⟩ (af 0 3 j (bT 3 j (λw⟨_,a⟩=>(ij a.f1).cell j) (af 4 1 j (aT 5 j (λw⟨_,a⟩=>c3 j j e a.bE) (aU 6 j (jy hm (ij a.f1).f1 j j j j (λc w f a=>?_)))))));have a:C o _ (ax 271 b ah c::_) w:=iN a.f1;have a:=a.f1;refine ar ⟨⟨_,a⟩,?_⟩;exact bK (ao 0 j j ⟨j,_,f,a.f1.hT⟩)
theorem wr:gE 68 tv:=⟨tv.cells.toList,j,j,j⟩
theorem yy{o:World}{p:Option Addr}{m:List (Int×Value)}{k:Int}(hw:∀q∈m,gE 68 q.2)(d:dE 271 o p m):Calls prog 104 #[.pointer p,bL k] o λr w=>r= .tuple #[(aZ m k).getD tv,.bool (aZ m k).isSome]/\C o [] [] w:=by
 have a:Own [] o:=C.start o;obtain⟨l,e,c,f⟩:=gE.get wr hw k;refine e9 func104 (cl 2 a j (λi w a=>bm 6 j j (λdz=>?_) (λdz=>?_)))
 .obtain⟨rfl,rfl⟩:=d.jk dz;refine bN 2 j j j a.bE (ck 0 a j j j j j (λw a=>?_));have a:=C.whole (U:=tv.cells.toList) a j;refine bI 1 j ⟨_,dp results104 j j j j a.bE,?_⟩;exact⟨j,a.bare⟩
 obtain⟨b,ah,I,rfl,g,h,hm⟩:=d.jn dz;refine al 6 j (cell_of (a.cg g) j) (aq 1 j (mR hm (a.cg h) j j j j ?_));refine aq 2 j (bS 16 (.agg l.toArray) j e ?_);refine ck 1 a j j j f c (λw a=>?_);have a:=C.whole (U:=l) a (by rw [c];rfl);refine bN 3 (U:=l) j j c a.bE (aq 1 j (c4 a j j j f c (by simp [c]) (λw a=>?_)));have a:=C.whole (U:=l) a j;refine bI 1 j ⟨_,dp (U:=l) results104 j j j c a.bE,?_⟩;exact⟨by rw [e];rfl,a.bare⟩
abbrev tu:Value:=.agg #[.int .i64 0,.int .i64 0,.int .i64 0,.int .i64 0,.int .i64 0,.slice none 0 0,.slice none 0 0,.int .u8 0,.int .u8 0,.int .u8 0,.int .u8 0,.int .u8 0,.int .u8 0,.int .u8 0,.int .u8 0,.int .u8 0,.int .u8 0,.int .u8 0,.int .u8 0,.int .u8 0,.int .u8 0,.int .u8 0,.int .u8 0,.int .u8 0,.int .u8 0,.int .u8 0,.int .u8 0,.int .u8 0,.int .u8 0,.int .u8 0,.int .u8 0,.int .u8 0,.int .u8 0,.int .u8 0,.int .u8 0,.int .u8 0,.int .u8 0,.int .u8 0,.int .u8 0]
theorem vF{o:World}:Calls prog 125 #[] o λr w=>∃b ah,r=ab b/\cc bL (.map #[] 0) []/\C o [] [ax 291 b ah (.map #[] 0)] w:=by
 have a:Own [] o:=C.start o;refine a2 func125 (aq 5 j (jx j a j j (λay w a=>?_)));exact cP (c:= #[.map (some ay)]) j j j (λ_=>by kernel_rfl) (bM 0 a j j (λd w a=>ao 1 j j ⟨d,ay,j,cc.new,iN (T:=291) a⟩))
theorem wg{o:World}{b ah:Nat}{I:Obj}{m:List (Int×Value)}{k:Int}{l:List Value}(e:l.length=39)(g:l.all (·.oneCell')=true)(a:Own [ax 291 b ah I] o)(hm:cc bL I m):Calls prog 145 #[ab b,bL k,.agg l.toArray] o λr w=>r= .tuple #[]/\∃c,cc bL c (b9 m k (.agg l.toArray))/\C o (au [ax 291 b ah I]) [ax 291 b ah c] w:=by
 refine a2 func145 (bM 2 a j j (λd w a=>?_));have a:=a.drew;refine bw 5 j (λw=>∃c,C o (au [ax 291 b ah I]) ([R d l.toArray 103,ax 291 b ah c]) w) ⟨_,a⟩ (af 0 3 j (bT 3 j (λw⟨_,a⟩=>(ij a.f1).cell j) (af 4 1 j (aT 5 j (λw⟨_,a⟩=>c3 j j e a.bE) (aU 6 j (jy hm (ij a.f1).f1 j j j j (λc w f a=>?_)))))));have a:C o _ (ax 291 b ah c::_) w:=iN a.f1;have a:=a.f1;refine ar ⟨⟨_,a⟩,?_⟩;exact bK (ao 0 j j ⟨j,_,f,a.f1.hT⟩)
theorem pH:gE 39 tu:=⟨tu.cells.toList,j,j,j⟩
theorem n6{o:World}{p:Option Addr}{m:List (Int×Value)}{k:Int}(hw:∀q∈m,gE 39 q.2)(d:dE 291 o p m):Calls prog 237 #[.pointer p,bL k] o λr w=>r= .tuple #[(aZ m k).getD tu,.bool (aZ m k).isSome]/\C o [] [] w:=by
 have a:Own [] o:=C.start o;obtain⟨l,e,c,f⟩:=gE.get pH hw k;refine e9 func237 (cl 2 a j (λi w a=>bm 6 j j (λdz=>?_) (λdz=>?_)))
 .obtain⟨rfl,rfl⟩:=d.jk dz;refine bN 2 j j j a.bE (ck 0 a j j j j j (λw a=>?_));have a:=C.whole (U:=tu.cells.toList) a j;refine bI 1 j ⟨_,dp results237 j j j j a.bE,?_⟩;exact⟨j,a.bare⟩
 obtain⟨b,ah,I,rfl,g,h,hm⟩:=d.jn dz;refine al 6 j (cell_of (a.cg g) j) (aq 1 j (mR hm (a.cg h) j j j j ?_));refine aq 2 j (bS 16 (.agg l.toArray) j e ?_);refine ck 1 a j j j f c (λw a=>?_);have a:=C.whole (U:=l) a (by rw [c];rfl);refine bN 3 (U:=l) j j c a.bE (aq 1 j (c4 a j j j f c (by simp [c]) (λw a=>?_)));have a:=C.whole (U:=l) a j;refine bI 1 j ⟨_,dp (U:=l) results237 j j j c a.bE,?_⟩;exact⟨by rw [e];rfl,a.bare⟩
theorem y0{o:World}{p:Option Addr}{m:List (Int×Value)}(c:dE 291 o p m):Calls prog 144 #[.pointer p] o λr w=>r= .int .i64 m.length/\C o [] [] w:=by
 have a:Own [] o:=C.start o;refine a2 func144 (bm 8 j j (λfl=>?_) (λfl=>?_))
 .obtain⟨rfl,rfl⟩:=c.jk fl;exact ao 3 j j ⟨j,a.bare⟩
 obtain⟨b,ah,I,rfl,d,e,hm⟩:=c.jn fl;exact al 6 j (cell_of (a.cg d) j) (tK hm (a.cg e) j j j j (ao 1 j j ⟨j,a.bare⟩))
theorem DV{o:World}{b ah:Nat}{I:Obj}{m:List (Int×Value)}{k:Int}(hw:∀q∈m,gE 39 q.2)(a:Own [ax 291 b ah I] o)(hm:cc bL I m):Calls prog 236 #[ab b,bL k] o λr w=>r= .bool (aZ m k).isSome/\∃c,cc bL c (fK m k)/\C o (au [ax 291 b ah I]) [ax 291 b ah c] w:=by
 obtain⟨l,f,g,h⟩:=gE.get pH hw k;refine a2 func236 ?_;have e:=n6 (k:=k) hw (dE.own a hm);refine bo 7 e j (λw aa=>?_);have a:=a.aM aa;refine aq 2 j (bS 11 (.agg l.toArray) j f ?_);refine cl 1 a j (λn w a=>ck 0 a j j j h g (λw a=>bm 5 j j (λd=>?_) (λd=>?_)))
 .have a:=a.f1;refine al 4 j ((ij a).cell j) (aq 1 j (wI (t:=289) hm (ij a).f1 j j j j (λc w i a=>?_)));have a:C o _ (ax 291 b ah c::_) w:=iN a.f1;exact ao 4 j j ⟨j,_,i,a.hT⟩
 exact ao 5 j j ⟨j,_,xY hm d,(a.f1).hT⟩
abbrev wu:Value:=.pointer none
theorem Gb{o:World}:Calls prog 171 #[] o λr w=>∃b ah,r=ab b/\cc bL (.map #[] 0) []/\C o [] [ax 331 b ah (.map #[] 0)] w:=by
 have a:Own [] o:=C.start o;refine a2 func171 (aq 5 j (jx j a j j (λay w a=>?_)));exact cP (c:= #[.map (some ay)]) j j j (λ_=>by kernel_rfl) (bM 0 a j j (λd w a=>ao 1 j j ⟨d,ay,j,cc.new,iN (T:=331) a⟩))
theorem HJ{o:World}{b ah:Nat}{I:Obj}{m:List (Int×Value)}{k:Int}{v:Value}(a:Own [ax 331 b ah I] o)(hm:cc bL I m):Calls prog 242 #[ab b,bL k,v] o λr w=>r= .tuple #[]/\∃c,cc bL c (b9 m k (v))/\C o (au [ax 331 b ah I]) [ax 331 b ah c] w:=by
 refine a2 func242 (al 9 j ((ij a).cell j) (aq 2 j (jy hm (ij a).f1 j j j j (λc w d a=>?_))));have a:C o _ (ax 331 b ah c::_) w:=iN a.f1;exact ao 0 j j ⟨j,_,d,a.hT⟩
theorem yw{o:World}{p:Option Addr}{m:List (Int×Value)}{k:Int}(c:dE 331 o p m):Calls prog 241 #[.pointer p,bL k] o λr w=>r= .tuple #[(aZ m k).getD wu,.bool (aZ m k).isSome]/\C o [] [] w:=by
 have a:Own [] o:=C.start o;refine a2 func241 (bm 9 j j (λdz=>?_) (λdz=>?_))
 .obtain⟨rfl,rfl⟩:=c.jk dz;exact ao 5 j j ⟨j,a.bare⟩
 obtain⟨b,ah,I,rfl,d,e,hm⟩:=c.jn dz;refine al 6 j (cell_of (a.cg d) j) (aq 1 j (mR hm (a.cg e) j j j j ?_));exact ao 11 j j ⟨j,a.bare⟩
abbrev tt:Value:=.pointer none
theorem zs{o:World}:Calls prog 172 #[] o λr w=>∃b ah,r=ab b/\cc bL (.map #[] 0) []/\C o [] [ax 334 b ah (.map #[] 0)] w:=by
 have a:Own [] o:=C.start o;refine a2 func172 (aq 5 j (jx j a j j (λay w a=>?_)));exact cP (c:= #[.map (some ay)]) j j j (λ_=>by kernel_rfl) (bM 0 a j j (λd w a=>ao 1 j j ⟨d,ay,j,cc.new,iN (T:=334) a⟩))
theorem HD{o:World}{b ah:Nat}{I:Obj}{m:List (Int×Value)}{k:Int}{v:Value}(a:Own [ax 334 b ah I] o)(hm:cc bL I m):Calls prog 274 #[ab b,bL k,v] o λr w=>r= .tuple #[]/\∃c,cc bL c (b9 m k (v))/\C o (au [ax 334 b ah I]) [ax 334 b ah c] w:=by
 refine a2 func274 (al 9 j ((ij a).cell j) (aq 2 j (jy hm (ij a).f1 j j j j (λc w d a=>?_))));have a:C o _ (ax 334 b ah c::_) w:=iN a.f1;exact ao 0 j j ⟨j,_,d,a.hT⟩
theorem Ew{o:World}{p:Option Addr}{m:List (Int×Value)}{k:Int}(c:dE 334 o p m):Calls prog 301 #[.pointer p,bL k] o λr w=>r= .tuple #[(aZ m k).getD tt,.bool (aZ m k).isSome]/\C o [] [] w:=by
 have a:Own [] o:=C.start o;refine a2 func301 (bm 9 j j (λdz=>?_) (λdz=>?_))
 .obtain⟨rfl,rfl⟩:=c.jk dz;exact ao 5 j j ⟨j,a.bare⟩
 obtain⟨b,ah,I,rfl,d,e,hm⟩:=c.jn dz;refine al 6 j (cell_of (a.cg d) j) (aq 1 j (mR hm (a.cg e) j j j j ?_));exact ao 11 j j ⟨j,a.bare⟩
abbrev I2:Value:=.pointer none
theorem F6{o:World}:Calls prog 126 #[] o λr w=>∃b ah,r=ab b/\cc bL (.map #[] 0) []/\C o [] [ax 294 b ah (.map #[] 0)] w:=by
 have a:Own [] o:=C.start o;refine a2 func126 (aq 5 j (jx j a j j (λay w a=>?_)));exact cP (c:= #[.map (some ay)]) j j j (λ_=>by kernel_rfl) (bM 0 a j j (λd w a=>ao 1 j j ⟨d,ay,j,cc.new,iN (T:=294) a⟩))
theorem HG{o:World}{b ah:Nat}{I:Obj}{m:List (Int×Value)}{k:Int}{v:Value}(a:Own [ax 294 b ah I] o)(hm:cc bL I m):Calls prog 283 #[ab b,bL k,v] o λr w=>r= .tuple #[]/\∃c,cc bL c (b9 m k (v))/\C o (au [ax 294 b ah I]) [ax 294 b ah c] w:=by
 refine a2 func283 (al 9 j ((ij a).cell j) (aq 2 j (jy hm (ij a).f1 j j j j (λc w d a=>?_))));have a:C o _ (ax 294 b ah c::_) w:=iN a.f1;exact ao 0 j j ⟨j,_,d,a.hT⟩
theorem Ex{o:World}{p:Option Addr}{m:List (Int×Value)}{k:Int}(c:dE 294 o p m):Calls prog 251 #[.pointer p,bL k] o λr w=>r= .tuple #[(aZ m k).getD I2,.bool (aZ m k).isSome]/\C o [] [] w:=by
 have a:Own [] o:=C.start o;refine a2 func251 (bm 9 j j (λdz=>?_) (λdz=>?_))
 .obtain⟨rfl,rfl⟩:=c.jk dz;exact ao 5 j j ⟨j,a.bare⟩
 obtain⟨b,ah,I,rfl,d,e,hm⟩:=c.jn dz;refine al 6 j (cell_of (a.cg d) j) (aq 1 j (mR hm (a.cg e) j j j j ?_));exact ao 11 j j ⟨j,a.bare⟩
theorem y1{o:World}{p:Option Addr}{m:List (Int×Value)}(c:dE 294 o p m):Calls prog 310 #[.pointer p] o λr w=>r= .int .i64 m.length/\C o [] [] w:=by
 have a:Own [] o:=C.start o;refine a2 func310 (bm 8 j j (λfl=>?_) (λfl=>?_))
 .obtain⟨rfl,rfl⟩:=c.jk fl;exact ao 3 j j ⟨j,a.bare⟩
 obtain⟨b,ah,I,rfl,d,e,hm⟩:=c.jn fl;exact al 6 j (cell_of (a.cg d) j) (tK hm (a.cg e) j j j j (ao 1 j j ⟨j,a.bare⟩))
theorem C.jh{o w aK:World}{F:List Nat}{H A bb:List (List Chunk)}(h:C o F (H++A) w)(k:C w (au A) bb aK):C o F (H++bb) aK:=by
 have a:=C.rU (H:=H) (A:=A) (L:=[]) (by simpa using h) k;simpa using a
theorem C.jj{o w:World}{F:List Nat}{ae:List (List Chunk)}{b:Nat}{I:Obj}(h:C o F ([(b,I)]::ae) w):b∉au ae:=λa=>by
 have:=h.nodup;rw [pf] at this;exact(iR.1 this).2.2 b (by simp [au]) b a j
theorem np{A B:List (List Chunk)}{b:Nat}:b∈au (A++B)↔b∈au A\/b∈au B:=by simp [au]
theorem fw{A:List Chunk}{B:List (List Chunk)}{b:Nat}(h:b∉au (A::B)):b∉au B:=λa=>h (by rw [pf];exact dw.2 (.inr a))
theorem AI:∀{pre l:List Int},pre.Nodup->(∀k∈pre,k∈l)->pre.length<=l.length
 |[],l,_,_=>b6 _
 |k::r,l,c,a=>by
  have aJ:=l6.1 c;have aa:k∈l:=a k (by simp);have:=AI (pre:=r) (l:=l.erase k) aJ.2 (λx b=>(List.mem_erase_of_ne (λe=>aJ.1 (by rw [<-e];exact b))).2 (a x (by simp [b])));rw [List.length_erase_of_mem aa] at this;have:=List.length_pos_of_mem aa;simp only [ez];omega
theorem sub_lt{pre l:List Int}{k:Int}(b:pre.Nodup)(c:∀k∈pre,k∈l)(aa:k∈l)(aJ:k∉pre):pre.length<l.length:=by
 have:=AI (pre:=k::pre) (l:=l) (l6.2 ⟨aJ,b⟩) (by intro x a;rcases g0.1 a with rfl|a<;>first|exact aa|exact c x a);simp only [ez] at this;omega
abbrev pi(m:List (Int×Value))(pre:List Int)(k:Int):Prop:=k∈m.map Prod.fst/\k∉pre/\pre.length<m.length
instance:MapsClone prog 267:=⟨_,func267,by kernel_rfl,by kernel_rfl,by kernel_rfl,by kernel_rfl⟩
theorem Dy{o:World}{ah:Nat}{I:Obj}{m:List (Int×Value)}(hm:cc bL I m)(c:o.heap[ah]? =some I):Calls prog 231 #[.map (some ah)] o λr w=>∃b,r= .map (some b)/\C o [] [[(b,I)]] w:=by
 have a:Own [] o:=C.start o;refine a2 func231 (aq 7 j (pP j j j j ?_));refine aq 5 j (pS (by intro ms h;cases h) j j j ?_);exact pT hm c a j j j (λb w a=>pN (by intro ms h;cases h) j j j (ao 1 j j ⟨b,j,a⟩))
theorem Ff{o:World}{ah:Nat}:Calls prog 233 #[.map (some ah)] o λr w=>∃b,r= .func (.func 269) #[] #[ab b]/\C o [] [R b #[.map (some ah)] 237] w:=by
 have a:Own [] o:=C.start o;refine a2 func233 (bM 2 a j j (λay w a=>aq 3 j (gV j j j j ?_)));exact ao 1 j j ⟨ay,j,a⟩
theorem Fb{ay ah:Nat}{I:Obj}{m:List (Int×Value)}(hm:cc bL I m):Iter prog 269 #[ab ay] [R ay #[.map (some ah)] 237,[(ah,I)]] (λ_ _=>True) (λ_=>True) (λk:Int=> #[bL k]) (pi m) (λxs=>xs.Perm (m.map Prod.fst)):=by
 intro l X ad ae o d f _ _ E Z U;show Calls _ _ #[fN l,ab ay] o _;obtain⟨q,B⟩:∃q,q=au ([[(ay,Obj.cells #[.map (some ah)] 237 (0,0))],[(ah,I)]]++ae):=⟨_,j⟩;have d:C o q (R ay #[.map (some ah)] 237::[(ah,I)]::ae) o:=B▸d;rw [<-B];have Q:(m.map Prod.fst).Nodup:=hm.nodup (P:=prog) (cY:=3);refine a2 func269 (al 2 j (aw (C.ak d) j) (pV hm (d.here (ah,I) (by simp)) (C.start _) j j j (λr it w s k=>?_)));have T:o.heap.size<=r:=by have K:=k.own r (by simp [au]);have Y:=d.size;simp at K;omega
 have f:=E _ _ _ _ [] f k.bare (by simp);have d:=d.aM k
 refine cH 1 j (ct:=List Int×List (List Chunk)×Obj) (λi=>[(0,fN l),(1,ab ay),(5,ab r)])
  (λi w=>l2 bL ah I m i.1 i.2.2/\i.1.Nodup/\(∀k∈i.1,k∈m.map Prod.fst)/\X i.1 i.2.1 w/\C o q ([(r,i.2.2)]::R ay #[.map (some ah)] 237::[(ah,I)]::i.2.1) w) (λi=>m.length-i.1.length) ([],ae,it) ⟨j,j,j,aY⟩ ⟨s,by simp,by simp,f,d⟩ ?_
 rintro⟨pre,ai,it⟩ w ⟨s,t,u,f,d⟩;dsimp only at s t u f d⊢;refine aq 2 j (pU s (λa c h=>by cases h;rfl) (d.here (ah,I) (by simp)) d.j7 j j j (λL=>?_) (λk v A w M z F G=>?_))
 .exact ao 4 j j ⟨ai,d.drop,.inl ⟨pre,qO Q t u (λk aa=>by obtain⟨p,S,rfl⟩:=dO.1 aa;exact L p S),f⟩⟩
 have O:r∉au ai:=fw (fw d.jj);have f:=E _ _ _ _ [r] f G.bare (by intro b n;simp at n;subst n;exact⟨T,O⟩);have d:=d.iu G;refine aq 7 j (pO F (λa c h=>by cases h;rfl) (d.here (ah,I) (by simp)) (C.f1 (C.f1 d)) j j j (λv2 ac=>?_));have y:k∈m.map Prod.fst:=dO.2 ⟨_,M,j⟩;have N:pre.length<m.length:=by have:=sub_lt t u y z;simpa using this
 have V:=U pre k ai _ ⟨y,z,N⟩ f (C.jo (H:=[[(r,A)],R ay #[.map (some ah)] 237,[(ah,I)]]) d);refine aq 6 j (jS j j j j V (λb w⟨aA,W,n⟩=>?_));have d:=C.jh (H:=[[(r,A)],R ay #[.map (some ah)] 237,[(ah,I)]]) d W;refine bm 1 j j (λJ=>?_) (λJ=>?_)
 .refine ao 0 j j ?_;have x:b=false:=by cases b<;>simp_all
  subst x;exact⟨aA,d.drop,.inr (by simpa using n)⟩
 refine bP 1 j ?_;have x:b=true:=by cases b<;>simp_all
 subst x;refine⟨(pre++[k],aA,A),⟨j,j,j,aY⟩,⟨F,?_,?_,by simpa using n,d⟩,by dsimp only;simp only [List.length_append,List.length_cons,List.length_nil];omega⟩
 .exact iR.2 ⟨t,by simp,by intro a g c D;simp at D;subst D;exact λe=>z (e▸g)⟩
 intro a g;rcases dw.1 g with g|g
 .exact u a g
 simp at g;subst g;exact y
theorem Dz{o:World}{ah:Nat}{I:Obj}{m:List (Int×Value)}(hm:cc bL I m)(c:o.heap[ah]? =some I):Calls prog 258 #[.map (some ah)] o λr w=>∃b,r= .map (some b)/\C o [] [[(b,I)]] w:=by
 have a:Own [] o:=C.start o;refine a2 func258 (aq 7 j (pP j j j j ?_));refine aq 5 j (pS (by intro ms h;cases h) j j j ?_);exact pT hm c a j j j (λb w a=>pN (by intro ms h;cases h) j j j (ao 1 j j ⟨b,j,a⟩))
theorem Fg{o:World}{ah:Nat}:Calls prog 259 #[.map (some ah)] o λr w=>∃b,r= .func (.func 288) #[] #[ab b]/\C o [] [R b #[.map (some ah)] 269] w:=by
 have a:Own [] o:=C.start o;refine a2 func259 (bM 2 a j j (λay w a=>aq 3 j (gV j j j j ?_)));exact ao 1 j j ⟨ay,j,a⟩
theorem Fc{ay ah:Nat}{I:Obj}{m:List (Int×Value)}(hm:cc bL I m):Iter prog 288 #[ab ay] [R ay #[.map (some ah)] 269,[(ah,I)]] (λ_ _=>True) (λ_=>True) (λk:Int=> #[bL k]) (pi m) (λxs=>xs.Perm (m.map Prod.fst)):=by
 intro l X ad ae o d f _ _ E Z U;show Calls _ _ #[fN l,ab ay] o _;obtain⟨q,B⟩:∃q,q=au ([[(ay,Obj.cells #[.map (some ah)] 269 (0,0))],[(ah,I)]]++ae):=⟨_,j⟩;have d:C o q (R ay #[.map (some ah)] 269::[(ah,I)]::ae) o:=B▸d;rw [<-B];have Q:(m.map Prod.fst).Nodup:=hm.nodup (P:=prog) (cY:=3);refine a2 func288 (al 2 j (aw (C.ak d) j) (pV hm (d.here (ah,I) (by simp)) (C.start _) j j j (λr it w s k=>?_)));have T:o.heap.size<=r:=by have K:=k.own r (by simp [au]);have Y:=d.size;simp at K;omega
 have f:=E _ _ _ _ [] f k.bare (by simp);have d:=d.aM k
 refine cH 1 j (ct:=List Int×List (List Chunk)×Obj) (λi=>[(0,fN l),(1,ab ay),(5,ab r)])
  (λi w=>l2 bL ah I m i.1 i.2.2/\i.1.Nodup/\(∀k∈i.1,k∈m.map Prod.fst)/\X i.1 i.2.1 w/\C o q ([(r,i.2.2)]::R ay #[.map (some ah)] 269::[(ah,I)]::i.2.1) w) (λi=>m.length-i.1.length) ([],ae,it) ⟨j,j,j,aY⟩ ⟨s,by simp,by simp,f,d⟩ ?_
 rintro⟨pre,ai,it⟩ w ⟨s,t,u,f,d⟩;dsimp only at s t u f d⊢;refine aq 2 j (pU s (λa c h=>by cases h;rfl) (d.here (ah,I) (by simp)) d.j7 j j j (λL=>?_) (λk v A w M z F G=>?_))
 .exact ao 4 j j ⟨ai,d.drop,.inl ⟨pre,qO Q t u (λk aa=>by obtain⟨p,S,rfl⟩:=dO.1 aa;exact L p S),f⟩⟩
 have O:r∉au ai:=fw (fw d.jj);have f:=E _ _ _ _ [r] f G.bare (by intro b n;simp at n;subst n;exact⟨T,O⟩);have d:=d.iu G;refine aq 7 j (pO F (λa c h=>by cases h;rfl) (d.here (ah,I) (by simp)) (C.f1 (C.f1 d)) j j j (λv2 ac=>?_));have y:k∈m.map Prod.fst:=dO.2 ⟨_,M,j⟩;have N:pre.length<m.length:=by have:=sub_lt t u y z;simpa using this
 have V:=U pre k ai _ ⟨y,z,N⟩ f (C.jo (H:=[[(r,A)],R ay #[.map (some ah)] 269,[(ah,I)]]) d);refine aq 6 j (jS j j j j V (λb w⟨aA,W,n⟩=>?_));have d:=C.jh (H:=[[(r,A)],R ay #[.map (some ah)] 269,[(ah,I)]]) d W;refine bm 1 j j (λJ=>?_) (λJ=>?_)
 .refine ao 0 j j ?_;have x:b=false:=by cases b<;>simp_all
  subst x;exact⟨aA,d.drop,.inr (by simpa using n)⟩
 refine bP 1 j ?_;have x:b=true:=by cases b<;>simp_all
 subst x;refine⟨(pre++[k],aA,A),⟨j,j,j,aY⟩,⟨F,?_,?_,by simpa using n,d⟩,by dsimp only;simp only [List.length_append,List.length_cons,List.length_nil];omega⟩
 .exact iR.2 ⟨t,by simp,by intro a g c D;simp at D;subst D;exact λe=>z (e▸g)⟩
 intro a g;rcases dw.1 g with g|g
 .exact u a g
 simp at g;subst g;exact y
theorem Dw{o:World}{ah:Nat}{I:Obj}{m:List (Int×Value)}(hm:cc bL I m)(c:o.heap[ah]? =some I):Calls prog 299 #[.map (some ah)] o λr w=>∃b,r= .map (some b)/\C o [] [[(b,I)]] w:=by
 have a:Own [] o:=C.start o;refine a2 func299 (aq 7 j (pP j j j j ?_));refine aq 5 j (pS (by intro ms h;cases h) j j j ?_);exact pT hm c a j j j (λb w a=>pN (by intro ms h;cases h) j j j (ao 1 j j ⟨b,j,a⟩))
theorem Fd{o:World}{ah:Nat}:Calls prog 300 #[.map (some ah)] o λr w=>∃b,r= .func (.func 325) #[] #[ab b]/\C o [] [R b #[.map (some ah)] 289] w:=by
 have a:Own [] o:=C.start o;refine a2 func300 (bM 2 a j j (λay w a=>aq 3 j (gV j j j j ?_)));exact ao 1 j j ⟨ay,j,a⟩
theorem E9{ay ah:Nat}{I:Obj}{m:List (Int×Value)}(hm:cc bL I m):Iter prog 325 #[ab ay] [R ay #[.map (some ah)] 289,[(ah,I)]] (λ_ _=>True) (λ_=>True) (λk:Int=> #[bL k]) (pi m) (λxs=>xs.Perm (m.map Prod.fst)):=by
 intro l X ad ae o d f _ _ E Z U;show Calls _ _ #[fN l,ab ay] o _;obtain⟨q,B⟩:∃q,q=au ([[(ay,Obj.cells #[.map (some ah)] 289 (0,0))],[(ah,I)]]++ae):=⟨_,j⟩;have d:C o q (R ay #[.map (some ah)] 289::[(ah,I)]::ae) o:=B▸d;rw [<-B];have Q:(m.map Prod.fst).Nodup:=hm.nodup (P:=prog) (cY:=3);refine a2 func325 (al 2 j (aw (C.ak d) j) (pV hm (d.here (ah,I) (by simp)) (C.start _) j j j (λr it w s k=>?_)));have T:o.heap.size<=r:=by have K:=k.own r (by simp [au]);have Y:=d.size;simp at K;omega
 have f:=E _ _ _ _ [] f k.bare (by simp);have d:=d.aM k
 refine cH 1 j (ct:=List Int×List (List Chunk)×Obj) (λi=>[(0,fN l),(1,ab ay),(5,ab r)])
  (λi w=>l2 bL ah I m i.1 i.2.2/\i.1.Nodup/\(∀k∈i.1,k∈m.map Prod.fst)/\X i.1 i.2.1 w/\C o q ([(r,i.2.2)]::R ay #[.map (some ah)] 289::[(ah,I)]::i.2.1) w) (λi=>m.length-i.1.length) ([],ae,it) ⟨j,j,j,aY⟩ ⟨s,by simp,by simp,f,d⟩ ?_
 rintro⟨pre,ai,it⟩ w ⟨s,t,u,f,d⟩;dsimp only at s t u f d⊢;refine aq 2 j (pU s (λa c h=>by cases h;rfl) (d.here (ah,I) (by simp)) d.j7 j j j (λL=>?_) (λk v A w M z F G=>?_))
 .exact ao 4 j j ⟨ai,d.drop,.inl ⟨pre,qO Q t u (λk aa=>by obtain⟨p,S,rfl⟩:=dO.1 aa;exact L p S),f⟩⟩
 have O:r∉au ai:=fw (fw d.jj);have f:=E _ _ _ _ [r] f G.bare (by intro b n;simp at n;subst n;exact⟨T,O⟩);have d:=d.iu G;refine aq 7 j (pO F (λa c h=>by cases h;rfl) (d.here (ah,I) (by simp)) (C.f1 (C.f1 d)) j j j (λv2 ac=>?_));have y:k∈m.map Prod.fst:=dO.2 ⟨_,M,j⟩;have N:pre.length<m.length:=by have:=sub_lt t u y z;simpa using this
 have V:=U pre k ai _ ⟨y,z,N⟩ f (C.jo (H:=[[(r,A)],R ay #[.map (some ah)] 289,[(ah,I)]]) d);refine aq 6 j (jS j j j j V (λb w⟨aA,W,n⟩=>?_));have d:=C.jh (H:=[[(r,A)],R ay #[.map (some ah)] 289,[(ah,I)]]) d W;refine bm 1 j j (λJ=>?_) (λJ=>?_)
 .refine ao 0 j j ?_;have x:b=false:=by cases b<;>simp_all
  subst x;exact⟨aA,d.drop,.inr (by simpa using n)⟩
 refine bP 1 j ?_;have x:b=true:=by cases b<;>simp_all
 subst x;refine⟨(pre++[k],aA,A),⟨j,j,j,aY⟩,⟨F,?_,?_,by simpa using n,d⟩,by dsimp only;simp only [List.length_append,List.length_cons,List.length_nil];omega⟩
 .exact iR.2 ⟨t,by simp,by intro a g c D;simp at D;subst D;exact λe=>z (e▸g)⟩
 intro a g;rcases dw.1 g with g|g
 .exact u a g
 simp at g;subst g;exact y
theorem Dv{o:World}{ah:Nat}{I:Obj}{m:List (Int×Value)}(hm:cc bL I m)(c:o.heap[ah]? =some I):Calls prog 328 #[.map (some ah)] o λr w=>∃b,r= .map (some b)/\C o [] [[(b,I)]] w:=by
 have a:Own [] o:=C.start o;refine a2 func328 (aq 7 j (pP j j j j ?_));refine aq 5 j (pS (by intro ms h;cases h) j j j ?_);exact pT hm c a j j j (λb w a=>pN (by intro ms h;cases h) j j j (ao 1 j j ⟨b,j,a⟩))
theorem E7{o:World}{ah:Nat}:Calls prog 329 #[.map (some ah)] o λr w=>∃b,r= .func (.func 343) #[] #[ab b]/\C o [] [R b #[.map (some ah)] 332] w:=by
 have a:Own [] o:=C.start o;refine a2 func329 (bM 2 a j j (λay w a=>aq 3 j (gV j j j j ?_)));exact ao 1 j j ⟨ay,j,a⟩
theorem E8{ay ah:Nat}{I:Obj}{m:List (Int×Value)}(hm:cc bL I m):Iter prog 343 #[ab ay] [R ay #[.map (some ah)] 332,[(ah,I)]] (λ_ _=>True) (λ_=>True) (λk:Int=> #[bL k]) (pi m) (λxs=>xs.Perm (m.map Prod.fst)):=by
 intro l X ad ae o d f _ _ E Z U;show Calls _ _ #[fN l,ab ay] o _;obtain⟨q,B⟩:∃q,q=au ([[(ay,Obj.cells #[.map (some ah)] 332 (0,0))],[(ah,I)]]++ae):=⟨_,j⟩;have d:C o q (R ay #[.map (some ah)] 332::[(ah,I)]::ae) o:=B▸d;rw [<-B];have Q:(m.map Prod.fst).Nodup:=hm.nodup (P:=prog) (cY:=3);refine a2 func343 (al 2 j (aw (C.ak d) j) (pV hm (d.here (ah,I) (by simp)) (C.start _) j j j (λr it w s k=>?_)));have T:o.heap.size<=r:=by have K:=k.own r (by simp [au]);have Y:=d.size;simp at K;omega
 have f:=E _ _ _ _ [] f k.bare (by simp);have d:=d.aM k
 refine cH 1 j (ct:=List Int×List (List Chunk)×Obj) (λi=>[(0,fN l),(1,ab ay),(5,ab r)])
  (λi w=>l2 bL ah I m i.1 i.2.2/\i.1.Nodup/\(∀k∈i.1,k∈m.map Prod.fst)/\X i.1 i.2.1 w/\C o q ([(r,i.2.2)]::R ay #[.map (some ah)] 332::[(ah,I)]::i.2.1) w) (λi=>m.length-i.1.length) ([],ae,it) ⟨j,j,j,aY⟩ ⟨s,by simp,by simp,f,d⟩ ?_
 rintro⟨pre,ai,it⟩ w ⟨s,t,u,f,d⟩;dsimp only at s t u f d⊢;refine aq 2 j (pU s (λa c h=>by cases h;rfl) (d.here (ah,I) (by simp)) d.j7 j j j (λL=>?_) (λk v A w M z F G=>?_))
 .exact ao 4 j j ⟨ai,d.drop,.inl ⟨pre,qO Q t u (λk aa=>by obtain⟨p,S,rfl⟩:=dO.1 aa;exact L p S),f⟩⟩
 have O:r∉au ai:=fw (fw d.jj);have f:=E _ _ _ _ [r] f G.bare (by intro b n;simp at n;subst n;exact⟨T,O⟩);have d:=d.iu G;refine aq 7 j (pO F (λa c h=>by cases h;rfl) (d.here (ah,I) (by simp)) (C.f1 (C.f1 d)) j j j (λv2 ac=>?_));have y:k∈m.map Prod.fst:=dO.2 ⟨_,M,j⟩;have N:pre.length<m.length:=by have:=sub_lt t u y z;simpa using this
 have V:=U pre k ai _ ⟨y,z,N⟩ f (C.jo (H:=[[(r,A)],R ay #[.map (some ah)] 332,[(ah,I)]]) d);refine aq 6 j (jS j j j j V (λb w⟨aA,W,n⟩=>?_));have d:=C.jh (H:=[[(r,A)],R ay #[.map (some ah)] 332,[(ah,I)]]) d W;refine bm 1 j j (λJ=>?_) (λJ=>?_)
 .refine ao 0 j j ?_;have x:b=false:=by cases b<;>simp_all
  subst x;exact⟨aA,d.drop,.inr (by simpa using n)⟩
 refine bP 1 j ?_;have x:b=true:=by cases b<;>simp_all
 subst x;refine⟨(pre++[k],aA,A),⟨j,j,j,aY⟩,⟨F,?_,?_,by simpa using n,d⟩,by dsimp only;simp only [List.length_append,List.length_cons,List.length_nil];omega⟩
 .exact iR.2 ⟨t,by simp,by intro a g c D;simp at D;subst D;exact λe=>z (e▸g)⟩
 intro a g;rcases dw.1 g with g|g
 .exact u a g
 simp at g;subst g;exact y
theorem Dx{o:World}{ah:Nat}{I:Obj}{m:List (Int×Value)}(hm:cc bL I m)(c:o.heap[ah]? =some I):Calls prog 334 #[.map (some ah)] o λr w=>∃b,r= .map (some b)/\C o [] [[(b,I)]] w:=by
 have a:Own [] o:=C.start o;refine a2 func334 (aq 7 j (pP j j j j ?_));refine aq 5 j (pS (by intro ms h;cases h) j j j ?_);exact pT hm c a j j j (λb w a=>pN (by intro ms h;cases h) j j j (ao 1 j j ⟨b,j,a⟩))
theorem Fe{o:World}{ah:Nat}:Calls prog 335 #[.map (some ah)] o λr w=>∃b,r= .func (.func 346) #[] #[ab b]/\C o [] [R b #[.map (some ah)] 292] w:=by
 have a:Own [] o:=C.start o;refine a2 func335 (bM 2 a j j (λay w a=>aq 3 j (gV j j j j ?_)));exact ao 1 j j ⟨ay,j,a⟩
theorem Fa{ay ah:Nat}{I:Obj}{m:List (Int×Value)}(hm:cc bL I m):Iter prog 346 #[ab ay] [R ay #[.map (some ah)] 292,[(ah,I)]] (λ_ _=>True) (λ_=>True) (λk:Int=> #[bL k]) (pi m) (λxs=>xs.Perm (m.map Prod.fst)):=by
 intro l X ad ae o d f _ _ E Z U;show Calls _ _ #[fN l,ab ay] o _;obtain⟨q,B⟩:∃q,q=au ([[(ay,Obj.cells #[.map (some ah)] 292 (0,0))],[(ah,I)]]++ae):=⟨_,j⟩;have d:C o q (R ay #[.map (some ah)] 292::[(ah,I)]::ae) o:=B▸d;rw [<-B];have Q:(m.map Prod.fst).Nodup:=hm.nodup (P:=prog) (cY:=3);refine a2 func346 (al 2 j (aw (C.ak d) j) (pV hm (d.here (ah,I) (by simp)) (C.start _) j j j (λr it w s k=>?_)));have T:o.heap.size<=r:=by have K:=k.own r (by simp [au]);have Y:=d.size;simp at K;omega
 have f:=E _ _ _ _ [] f k.bare (by simp);have d:=d.aM k
 refine cH 1 j (ct:=List Int×List (List Chunk)×Obj) (λi=>[(0,fN l),(1,ab ay),(5,ab r)])
  (λi w=>l2 bL ah I m i.1 i.2.2/\i.1.Nodup/\(∀k∈i.1,k∈m.map Prod.fst)/\X i.1 i.2.1 w/\C o q ([(r,i.2.2)]::R ay #[.map (some ah)] 292::[(ah,I)]::i.2.1) w) (λi=>m.length-i.1.length) ([],ae,it) ⟨j,j,j,aY⟩ ⟨s,by simp,by simp,f,d⟩ ?_
 rintro⟨pre,ai,it⟩ w ⟨s,t,u,f,d⟩;dsimp only at s t u f d⊢;refine aq 2 j (pU s (λa c h=>by cases h;rfl) (d.here (ah,I) (by simp)) d.j7 j j j (λL=>?_) (λk v A w M z F G=>?_))
 .exact ao 4 j j ⟨ai,d.drop,.inl ⟨pre,qO Q t u (λk aa=>by obtain⟨p,S,rfl⟩:=dO.1 aa;exact L p S),f⟩⟩
 have O:r∉au ai:=fw (fw d.jj);have f:=E _ _ _ _ [r] f G.bare (by intro b n;simp at n;subst n;exact⟨T,O⟩);have d:=d.iu G;refine aq 7 j (pO F (λa c h=>by cases h;rfl) (d.here (ah,I) (by simp)) (C.f1 (C.f1 d)) j j j (λv2 ac=>?_));have y:k∈m.map Prod.fst:=dO.2 ⟨_,M,j⟩;have N:pre.length<m.length:=by have:=sub_lt t u y z;simpa using this
 have V:=U pre k ai _ ⟨y,z,N⟩ f (C.jo (H:=[[(r,A)],R ay #[.map (some ah)] 292,[(ah,I)]]) d);refine aq 6 j (jS j j j j V (λb w⟨aA,W,n⟩=>?_));have d:=C.jh (H:=[[(r,A)],R ay #[.map (some ah)] 292,[(ah,I)]]) d W;refine bm 1 j j (λJ=>?_) (λJ=>?_)
 .refine ao 0 j j ?_;have x:b=false:=by cases b<;>simp_all
  subst x;exact⟨aA,d.drop,.inr (by simpa using n)⟩
 refine bP 1 j ?_;have x:b=true:=by cases b<;>simp_all
 subst x;refine⟨(pre++[k],aA,A),⟨j,j,j,aY⟩,⟨F,?_,?_,by simpa using n,d⟩,by dsimp only;simp only [List.length_append,List.length_cons,List.length_nil];omega⟩
 .exact iR.2 ⟨t,by simp,by intro a g c D;simp at D;subst D;exact λe=>z (e▸g)⟩
 intro a g;rcases dw.1 g with g|g
 .exact u a g
 simp at g;subst g;exact y
end Go.Proofs.YtdomoelfhjdioaaGreatDoor.R
namespace Go.Proofs.YtdomoelfhjdioaaGreatDoor.R
open Go.Proofs.Tryz Go Go.RowKit Go.Proofs
open Go.Sort
abbrev jN(ik:List Int):List Int:=ik.mergeSort λx y=>decide (x<=y)
theorem E6{w:World}{g n:Nat}{os:Array Obj}{cur:Array Value}{e:TypeId}{a:Nat×Nat}(d:Array Int)(b:w.heap[g]? =some (.cells cur e a)):cT w (grow (putRow (Value.int .i64) (Sort.ahead w n) g 0 d) os):=
 cT.grown b λk aa c=>(grownBy_sortedI (w:=w) (n:=n) (os:=os) (g:=g) d).block k aa (by simpa using λh=>c h)
theorem AB{o:World}{v:Value}{ik:List Int}{ag:List Chunk}(a:Own [ag] o)(k:Row 3 1 v ik.length (ik.map bL) ag)(t:ik.length<=1000000000):Calls prog 262 #[v] o λr w=>r= .tuple #[]/\∃f,Row 3 1 v ik.length ((jN ik).map bL) f/\C o (au [ag]) [f] w:=by
 obtain⟨s,h⟩:=k;rcases h with⟨rfl,aJ,rfl⟩|⟨g,cap,cur,rfl,rfl,l,hm,m,p⟩
 .have q:ik=[]:=mc aJ;subst q;have d:=AnyM.slices_Sort_int_none sm none 0 o;refine ly (callsIn_wide.2 d) λe aK⟨he,hw⟩=>?_
  subst hw;exact⟨cT.refl _,_,he,j,[],⟨by simp,.inl ⟨j,j,j⟩⟩,a⟩
 .have b:=a.first;have i:Holds (Value.int .i64) o g 0 ik.toArray:=holds_of_blockI b (by simpa using p);have d:=AnyM.slices_Sort_int sm g 0 cap ik o i (a.o4 (c:=(g,.cells cur 3 (0,0))) (by simp)) (by omega);refine ly (callsIn_wide.2 d) λe aK⟨he,n,os,hw⟩=>?_
  subst hw;have hlen:(jN ik).length=ik.length:=hR _;refine⟨E6 _ b,_,he,j,R g (putCells (Value.int .i64) 0 (jN ik).toArray cur) 3,⟨by simp [hlen],.inr ⟨g,cap,_,j,j,l,hm,by simpa [putCells] using m,?_⟩⟩,?_⟩
  .have:=take_putCellsI cur (jN ik) (by omega);rw [hlen] at this;simpa using this
  .exact a.grown (grownBy_sortedI _) (heap_sortedI _ b)
end Go.Proofs.YtdomoelfhjdioaaGreatDoor.R
