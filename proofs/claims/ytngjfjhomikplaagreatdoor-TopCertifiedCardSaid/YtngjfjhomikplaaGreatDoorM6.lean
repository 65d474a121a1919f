/- Part 6 of the proof. -/
import Derived.Test.YtngjfjhomikplaaGreatDoorM5
set_option linter.unusedVariables false
set_option linter.unusedSimpArgs false
set_option linter.unusedSectionVars false
set_option maxRecDepth 20000
set_option maxHeartbeats 4000000
namespace Go.Proofs.YtngjfjhomikplaaGreatDoor.R
open Go.Proofs.Tryz Go Go.RowKit Go.Proofs
def vw(s:ee):cb:=⟨((eb s).1:Nat),((eb (e7 s 1)).1:Nat),((eb (e7 s 2)).1:Nat),((eb (e7 s 3)).1:Nat)⟩
def g4(aD:List UInt8):Option cb:=if e7 (b1 aD 3) 4=some []/\(vw (b1 aD 3)).ok=true then some (vw (b1 aD 3)) else none
def jO:cb:=⟨0,0,0,0⟩
theorem DM{o:World}{A:Option Addr}{aD:List UInt8}{c:Nat}(E:Rd o A (au aD))(q:aD.length<=1000000000):Calls prog 53 #[.slice A aD.length c] o λx w=>x= .tuple #[hy ((g4 aD).getD jO),ae (if(g4 aD).isSome=true then 0 else 2)]/\C o [] [] w:=by
 have a:Own [] o:=C.start o;refine eV func53 (b7 2 a j (λaO w a=>?_));have f:=xt (c:=c) (k:=3) (a.rd E (bT.of_nil _ _)) q;refine bk 4 f j (λx w⟨r,v,b,G,F,d,aa⟩=>?_);subst F;have a:=a.aL aa
 have i:(b1 aD 3).left.length<=1000000000:=by
  unfold b1;split
  .exact wa (some aD) q
  .simp [ee.left]
 have y:=eJ a.cF d (eX (b1 aD 3) i 0);refine bp 4 y j (λw⟨v,b,d,aa⟩=>?_);have a:=a.cD aa;have z:=eJ a.cF d (eX (b1 aD 3) i 1);refine bp 1 z j (λw⟨v,b,d,aa⟩=>?_);have a:=a.cD aa;have B:=eJ a.cF d (eX (b1 aD 3) i 2);refine bp 1 B j (λw⟨v,b,d,aa⟩=>?_);have a:=a.cD aa;have D:=eJ a.cF d (eX (b1 aD 3) i 3);refine bp 1 D j (λw⟨v,b,d,aa⟩=>?_);have a:=a.cD aa;refine cN (c:= #[.int .i64 ((eb (b1 aD 3)).1:Nat),.int .i64 ((eb (e7 (b1 aD 3) 1)).1:Nat),.int .i64 ((eb (e7 (b1 aD 3) 2)).1:Nat),.int .i64 ((eb (e7 (b1 aD 3) 3)).1:Nat)]) j j j (λ_=>by kernel_rfl) (b7 0 a j (λH w a=>b6 0 a j j j j j (λw a=>?_)));have a:=a.f1.f2.f1;have f:=Be a.cF d;refine bp 4 f j (λw aa=>?_);have a:=(a.cD aa).f2;refine am 2 j (cT 20 j (λl=>?_) (λl=>?_))
 .refine am 7 j (cN (c:= #[ae 0,ae 0,ae 0,ae 0]) j j j (λ_=>by kernel_rfl) ?_);refine b6 0 a.f3 j j j j j (λw a=>bD 1 j ⟨_,dr results53 j j j j (a.bz),?_⟩)
  have n:¬e7 (b1 aD 3) 4=some []:=by
   have:=l;simp only [kl,nP] at this;exact this
  have hm:g4 aD=none:=aI (λh=>n h.1);rw [hm];exact⟨j,a.bare⟩
 refine bM 0 j j j a.bz ?_;have f:=yL (o:=w) (k:=((eb (b1 aD 3)).1:Nat)) (p:=((eb (e7 (b1 aD 3) 1)).1:Nat)) (e:=((eb (e7 (b1 aD 3) 2)).1:Nat)) (t:=((eb (e7 (b1 aD 3) 3)).1:Nat));refine bp 0 f j (λw aa=>?_);have a:=a.aL aa;refine bm 2 j j (λm=>?_) (λm=>?_)
 .refine am 2 j (cN (c:= #[ae 0,ae 0,ae 0,ae 0]) j j j (λ_=>by kernel_rfl) ?_);refine b6 0 a.f3 j j j j j (λw a=>bD 1 j ⟨_,dr results53 j j j j (a.bz),?_⟩)
  have hm:g4 aD=none:=aI (λh=>by
   have s:=h.2;have g:(!i4 (((eb (b1 aD 3)).1:Nat):Int) (((eb (e7 (b1 aD 3) 1)).1:Nat):Int) (((eb (e7 (b1 aD 3) 2)).1:Nat):Int) (((eb (e7 (b1 aD 3) 3)).1:Nat):Int))=true:=m;rw [show i4 (((eb (b1 aD 3)).1:Nat):Int) (((eb (e7 (b1 aD 3) 1)).1:Nat):Int) (((eb (e7 (b1 aD 3) 2)).1:Nat):Int) (((eb (e7 (b1 aD 3) 3)).1:Nat):Int)=true from s] at g;cases g)
  rw [hm];exact⟨j,a.bare⟩
 refine bM 3 j j j a.bz (b6 0 a.f3 j j j j j (λw a=>bD 1 j ⟨_,dr results53 j j j j (a.bz),?_⟩))
 have n:e7 (b1 aD 3) 4=some []:=by
  have:=l;simp only [Bool.not_eq_false',gd] at this;exact this
 have hm:g4 aD=some (vw (b1 aD 3)):=a6 ⟨n,by
  have g:(!i4 (((eb (b1 aD 3)).1:Nat):Int) (((eb (e7 (b1 aD 3) 1)).1:Nat):Int) (((eb (e7 (b1 aD 3) 2)).1:Nat):Int) (((eb (e7 (b1 aD 3) 3)).1:Nat):Int))=false:=m;have u:i4 (((eb (b1 aD 3)).1:Nat):Int) (((eb (e7 (b1 aD 3) 1)).1:Nat):Int) (((eb (e7 (b1 aD 3) 2)).1:Nat):Int) (((eb (e7 (b1 aD 3) 3)).1:Nat):Int)=true:=by simpa using g
  exact u⟩
 rw [hm];exact⟨j,a.bare⟩
structure fb where
 k:Int
 node:Int
 n:Int
 x:List UInt8
 e1:eG
def aY.rep(z:aY)(i:Int):Option bo:=if 0<=i then(z.bO[i.toNat]?).getD none else none
def aY.mI(z:aY)(i:Int)(x:bo):aY:={z with bO:=z.bO.set i.toNat (some x)}
def aY.f0(z:aY)(i:Nat)(p:bH×Int):aY:={z with cM:=z.cM.set i p}
def aY.part(z:aY)(i:Int):Option cR:=if 0<=i then z.parts[i.toNat]? else none
def mL(n:Int):bF:=⟨4,15,n,[],0,0,0,0,false⟩
def aY.r1(g:al)(z:aY)(s:fb):aY×Int:=z.asks g (mL s.n) (if gV (mL s.n)=true then 0 else 1)
def aY.inits(g:al)(z:aY)(i:Nat)(p:bH×Int):aY×Int:=(z.f0 i (p.1.init.1,if p.1.init.2.2=0 then p.1.init.2.1.s else p.2)).asks g p.1.init.2.1 p.1.init.2.2
def aY.oh(z:aY)(i:Int)(b:cR):aY:={z with parts:=z.parts.set i.toNat b}
def aY.records(z:aY)(s:fb)(i:Nat)(p:bH×Int):aY×Int:=
 if(p.1.record s.n s.x).2.2≠0 then(z.f0 i ((p.1.record s.n s.x).1,p.2),(p.1.record s.n s.x).2.2)
 else match z.part s.n with
  |none=>(z.f0 i ((p.1.record s.n s.x).1,p.2),1)
  |some b=>((z.f0 i ((if(b.log.append (p.1.record s.n s.x).2.1).2.2=0 then((p.1.record s.n s.x).1.jG s.n).1 else(p.1.record s.n s.x).1),p.2)).oh s.n {b with log:=(b.log.append (p.1.record s.n s.x).2.1).1},(b.log.append (p.1.record s.n s.x).2.1).2.2)
def aY.gP(g:al)(z:aY)(s:fb):aY×Int:=match(if 0<=s.node then z.cM[s.node.toNat]? else none) with
 |none=>(z,1)
 |some p=>
  if s.k=1 then z.inits g s.node.toNat p
  else if s.k=2 then(z.f0 s.node.toNat ((p.1.gI s.n).1,p.2)).asks g (p.1.gI s.n).2.1 (p.1.gI s.n).2.2
  else if s.k=3 then z.records s s.node.toNat p
  else(z.f0 s.node.toNat ((p.1.end_ (s.n !=0)).1,p.2)).asks g (p.1.end_ (s.n !=0)).2.1 (p.1.end_ (s.n !=0)).2.2
def aY.kK(g:al)(z:aY)(m:aW):aY:=match z.rep m.to with
 |none=>z
 |some x=>(z.mI m.to (x.take g m).1).g6 (x.take g m).2
def aY.hg(g:al)(z:aY)(s:fb):aY×Int:=match z.bx[(max s.n 0).toNat%z.bx.length]? with
 |none=>(z,4)
 |some m=>if s.k=8 then(if z.bx.length<512 then({z with bx:=z.bx++[m]},0) else(z,3))
  else if s.k=6 then(aY.kK g {z with bx:=z.bx.eraseIdx ((max s.n 0).toNat%z.bx.length)} m,0)
  else({z with bx:=z.bx.eraseIdx ((max s.n 0).toNat%z.bx.length)},0)
def aY.f9(g:al)(z:aY)(s:fb):aY×Int:=match z.rep s.node with
 |none=>(z,1)
 |some x=>((z.mI s.node (x.tick g).1).g6 (x.tick g).2,0)
def aY.ft(g:al)(z:aY)(s:fb):aY×Int:=
 if s.node<0\/s.node>=z.bO.length\/(z.rep s.node).isSome=true then(z,1)
 else match e1 g s.node z.heard s.e1 with
  |none=>(z,1)
  |some m=>if m.k≠6 then(z.g6 [m],0)
   else match g4 m.x with
    |none=>(z,2)
    |some a=>match z.parts[m.s.toNat%z.parts.length]?,m.l with
     |some b,v::_=>({z with parts:=z.parts.set (m.s.toNat%z.parts.length) (b.dk g a v).1},(b.dk g a v).2)
     |_,_=>(z,0)
def pz(g:al)(x:bo)(aD:List cR)(mk:cb):List cR:=aD.map λb=>(b.dk g mk (dq g mk x.ao)).1
def ke(g:al)(aD:List cR)(I:Option bo):List cR:=match I with
 |none=>aD
 |some x=>x.aH.foldl (pz g x) aD
def bo.answer(x:bo)(c s:Int):Option (Int×Int×Int):=if 0<=c/\c<=15/\0<=s/\s<=1048576 then aZ x.answers (fh c s) else none
def kB(x:bo)(cs:List (bH×Int))(i:Nat):List (bH×Int):=match cs[i]? with
 |none=>cs
 |some p=>match x.answer (i:Int) p.2 with
  |none=>cs
  |some a=>cs.set i ((p.1.told p.2 a).1,p.2)
def sh(l:List (Option bo)):Option bo:=l.findSome? id
def aY.polls(g:al)(z:aY):aY:={z with
 parts:=z.bO.foldl (ke g) z.parts
 cM:=match sh z.bO with
  |none=>z.cM
  |some x=>(List.range z.cM.length).foldl (kB x) z.cM}
def aY.b3(g:al)(z:aY)(s:fb):aY×Int:=
 if s.k=1\/s.k=2\/s.k=3\/s.k=4 then z.gP g s
 else if s.k=5 then z.r1 g s
 else if s.k=6\/s.k=7\/s.k=8 then z.hg g s
 else if s.k=9 then z.f9 g s
 else if s.k=10 then z.ft g s
 else if s.k=11 then(z.polls g,0)
 else(z,1)
structure bH.ok(e:bH):Prop where
 next:0<=e.next
 last:0<=e.last
 name:e.name.length<=1000
 keys:e.parts.map Prod.fst=[0,1,2,3]
 pk:∀p∈e.parts,0<=p.2.next/\∀r,p.2.out=some r->r.x.length<=200
structure cR.ok(g:al)(M:Nat)(b:cR):Prop where
 ck:b.log.ck.length<=M
 c0:b.log.c0.length<=M
 acc:b.acc.length<=M
 aH:∀p∈b.aH,(p.2.map Prod.fst).Nodup/\∀q∈p.2,0<=q.1/\q.1<(g.n:Int)
structure aY.ok(g:al)(k:Nat)(z:aY):Prop where
 bO:z.bO.length=g.n
 iA:∀(i:Nat)(x:bo),z.bO[i]? =some (some x)->x.ok g (773+6*k)/\x.ao=(i:Int)
 some_:∃(i:Nat)(x:bo),z.bO[i]? =some (some x)
 parts:z.parts.length=4
 jP:∀b∈z.parts,b.ok g (6000*k)
 cM:z.cM.length=3
 kt:∀p∈z.cM,p.1.ok
 bx:z.bx.length<=512
 lO:er z.bx
 heard:z.heard.length<=1000
 kL:er z.heard
 lost:z.lost<=5000000*k
theorem cR.ok.more{g:al}{M mQ:Nat}{b:cR}(h:b.ok g M)(hm:M<=mQ):b.ok g mQ:=⟨ek h.ck hm,ek h.c0 hm,ek h.acc hm,h.aH⟩
theorem cR.ok.len{g:al}{M:Nat}{b:cR}(h:b.ok g M)(f:g.ok):∀p∈b.aH,p.2.length<=100:=λp j=>by
 obtain⟨a,c⟩:=h.aH p j;have d:=vH g.n (p.2.map Prod.fst) a (λi e=>by obtain⟨q,k,rfl⟩:=dV.1 e;exact c q k);rw [ff] at d;have:=f.n10;have l:g.n<=10:=this;omega
theorem zl{α:Type}:∀{m:List (Int×α)}{k:Int}{a v:α},aZ m k=some a->(cj m k v).map Prod.fst=m.map Prod.fst
 |[],_,_,_,h=>by cases h
 |(J,u)::r,k,a,v,h=>by
  simp only [aZ] at h;simp only [cj];by_cases b:J=k
  .subst b;simp
  .rw [aI b] at h⊢;simp [zl h]
theorem bH.ok.put{e:bH}(h:e.ok){n:Int}{q oc:hn}(c:aZ e.parts n=some q)(a:0<=oc.next/\∀r,oc.out=some r->r.x.length<=200):(cj e.parts n oc).map Prod.fst=[0,1,2,3]/\∀p∈cj e.parts n oc,0<=p.2.next/\∀r,p.2.out=some r->r.x.length<=200:=
 ⟨(zl c).trans h.keys,λp b=>(i5 b).elim (h.pk p) (λe=>by rw [e];exact a)⟩
theorem bH.ok.init{e:bH}(h:e.ok):e.init.1.ok:=by
 unfold bH.init;split
 .split
  .exact h
  .exact{h with next:=show 0<=e.next+1 by have:=h.next;omega}
 .exact h
theorem bH.ok.ga{e:bH}(h:e.ok):0<=e.ga:=by
 have:=h.last;unfold bH.ga;split<;>omega
theorem bH.ok.gI{e:bH}(h:e.ok)(n:Int):(e.gI n).1.ok:=by
 unfold bH.gI;split
 .exact h
 .split
  .exact h
  .rename_i q a;split
   .exact h
   .split
    .exact h
    .obtain⟨b,c⟩:=h.put a (oc:={q with begun:=e.ga}) (h.pk _ (hS a));exact⟨show 0<=e.next+1 by have:=h.next;omega,h.ga,h.name,b,c⟩
theorem bH.ok.end_{e:bH}(h:e.ok)(c:Bool):(e.end_ c).1.ok:=by
 unfold bH.end_;split
 .exact h
 .split
  .exact h
  .exact{h with next:=show 0<=e.next+1 by have:=h.next;omega}
theorem bH.ok.record{e:bH}(h:e.ok)(n:Int)(x:List UInt8):(e.record n x).1.ok:=by
 unfold bH.record;split
 .exact h
 .rename_i q a;split
  .exact h
  .split
   .exact h
   .split
    .exact h
    .split
     .exact h
     .rename_i f _;obtain⟨b,c⟩:=h.put a (oc:={q with next:=q.next+1,out:=some (e.ik q x)}) ⟨show 0<=q.next+1 by have:0<=q.next:=(h.pk _ (hS a)).1;omega,λr d=>by cases d;show x.length<=200;omega⟩;exact⟨h.next,h.last,h.name,b,c⟩
theorem bH.ok.jG{e:bH}(h:e.ok)(n:Int):(e.jG n).1.ok:=by
 unfold bH.jG;split
 .exact h
 .rename_i q a;split
  .exact h
  .obtain⟨b,c⟩:=h.put a (oc:={q with out:=none}) ⟨(h.pk _ (hS a)).1,by intro r d;cases d⟩;exact⟨h.next,h.last,h.name,b,c⟩
theorem zU:∀p∈mE,0<=p.2.next/\∀r,p.2.out=some r->r.x.length<=200:=λp a=>by
 have:p.2=hn.new:=by
  simp [mE] at a;rcases a with rfl|rfl|rfl|rfl<;>rfl
 rw [this];exact⟨h6 _,by intro r b;cases b⟩
theorem bH.ok.told{e:bH}(h:e.ok)(s:Int)(a:Int×Int×Int):(e.told s a).1.ok:=by
 unfold bH.told;split
 .exact h
 .split
  .exact⟨h.next,h6 _,h.name,j,zU⟩
  .exact h
theorem bH.lo{n:Int}{x:List UInt8}(a:x.length<=1000):(bH.new n x).ok:=⟨h6 _,h6 _,a,j,zU⟩
theorem dQ.D2(l:dQ)(p e t:Int)(c:Bool):(l.end_ p e t c).1.ck.length<=l.ck.length+1/\(l.end_ p e t c).1.c0=l.c0:=by
 unfold dQ.end_;split
 .exact⟨ex _,j⟩
 .split
  .exact⟨by simp,j⟩
  .generalize (if c=true then(2:Int) else 3)=a;split
   .split
    .exact⟨ex _,j⟩
    .exact⟨by simp,j⟩
   .exact⟨ex _,j⟩
theorem dQ.Fj(l:dQ)(p e:Int):(l.kQ p e).1.ck=l.ck/\(l.kQ p e).1.c0=l.c0:=by
 unfold dQ.kQ;split<;>exact⟨j,j⟩
theorem dQ.CB(l:dQ)(r:ei):(l.append r).1.ck.length<=l.ck.length+1/\(l.append r).1.c0.length<=l.c0.length+1:=by
 unfold dQ.append;split
 .exact⟨ex _,ex _⟩
 .split
  .exact⟨ex _,ex _⟩
  .split
   .exact⟨ex _,ex _⟩
   .split
    .exact⟨ex _,ex _⟩
    .split
     .split
      .split<;>exact⟨ex _,ex _⟩
      .exact⟨ex _,ex _⟩
     .split
      .exact⟨ex _,ex _⟩
      .refine⟨?_,by simp⟩;dsimp only;split
       .exact ex _
       .simp
theorem cR.uK(b:cR)(m:cb):(b.b3 m).1.log.ck.length<=b.log.ck.length+1/\(b.b3 m).1.log.c0=b.log.c0/\(b.b3 m).1.acc=b.acc/\(b.b3 m).1.aH=b.aH:=by
 unfold cR.b3;split
 .have:=dQ.Fj b.log m.p m.e;exact⟨by show(b.log.kQ m.p m.e).1.ck.length<=_;rw [this.1];exact ex _,this.2,j,j⟩
 .have:=dQ.D2 b.log m.p m.e m.t (m.k==2);exact⟨this.1,this.2,j,j⟩
theorem cR.ok.accept{g:al}{M:Nat}{b:cR}(h:b.ok g M)(m:cb)(l:List aE):(b.accept g m l).1.ok g (M+1):=by
 have a:=h.more (ex M);obtain⟨d1,d2,d3,d4⟩:=b.uK m;have c:(b.b3 m).1.ok g (M+1):=⟨by have:=h.ck;omega,by rw [d2];exact a.c0,by rw [d3];exact a.acc,by rw [d4];exact h.aH⟩;unfold cR.accept;split
 .exact a
 .split
  .exact a
  .split
   .exact a
   .split
    .exact c
    .refine⟨c.ck,c.c0,?_,λp d=>h.aH p (pf d)⟩;show(b.acc++[m]).length<=M+1;rw [b0,List.length_singleton];have:=h.acc;omega
theorem FT{α:Type}:∀{m:List (Int×α)}{k:Int}{v:α},aZ m k=none->(m.map Prod.fst).Nodup->((cj m k v).map Prod.fst).Nodup:=fun{m k v}aa aJ=>by
 rw [vy aa,jD];refine iE.2 ⟨aJ,by simp,λa d b c e=>?_⟩;simp at c;subst c;subst e;obtain⟨p,f,g⟩:=dV.1 d;exact zd aa p f g
theorem EX{g:al}{m:cb}{v:aE}(h:lh g m v=true):0<=v.f/\v.f<(g.n:Int):=by
 unfold lh at h;simp only [ea] at h;exact qG h.2
theorem cR.ok.dk{g:al}{M:Nat}{b:cR}(h:b.ok g M)(m:cb)(v:aE):(b.dk g m v).1.ok g (M+1):=by
 have c:=h.more (ex M);unfold cR.dk;split
 .exact c
 .split
  .exact c
  .rename_i k;have bw:=EX (g:=g) (m:=m) (v:=v) (by cases a:lh g m v with|true=>rfl|false=>exact absurd a k);split
   .exact c
   .split
    .exact c
    .have i:∀p∈cj b.aH (ey m) (iV ((aZ b.aH (ey m)).getD []) v),(p.2.map Prod.fst).Nodup/\∀q∈p.2,0<=q.1/\q.1<(g.n:Int):=λp d=>by
      rcases i5 d with d|rfl
      .exact h.aH p d
      .have e:(((aZ b.aH (ey m)).getD []).map Prod.fst).Nodup/\∀q∈(aZ b.aH (ey m)).getD [],0<=q.1/\q.1<(g.n:Int):=by
        cases aa:aZ b.aH (ey m) with
        |none=>exact⟨rS,by intro q a;cases a⟩
        |some l=>exact h.aH _ (hS aa)
       dsimp only;unfold iV;split
       .exact e
       .rename_i aJ;refine⟨FT (by cases a:aZ ((aZ b.aH (ey m)).getD []) v.f with|none=>rfl|some _=>rw [a] at aJ;exact absurd j aJ) e.1,λq a=>?_⟩;rcases i5 a with a|rfl
        .exact e.2 q a
        .exact bw
     split
     .refine cR.ok.accept (M:=M) (b:={b with aH:=fY (cj b.aH (ey m) (iV ((aZ b.aH (ey m)).getD []) v)) (ey m)}) ⟨h.ck,h.c0,h.acc,λp d=>i p (pf d)⟩ m _
     .exact⟨c.ck,c.c0,c.acc,i⟩
structure aY.df(g:al)(hk:Nat->Nat)(M L:Nat)(z:aY):Prop where
 bO:z.bO.length=g.n
 iA:∀(i:Nat)(x:bo),z.bO[i]? =some (some x)->x.ok g (hk i)/\x.ao=(i:Int)
 some_:∃(i:Nat)(x:bo),z.bO[i]? =some (some x)
 parts:z.parts.length=4
 jP:∀b∈z.parts,b.ok g M
 cM:z.cM.length=3
 kt:∀p∈z.cM,p.1.ok
 bx:z.bx.length<=512
 lO:er z.bx
 heard:z.heard.length<=1000
 kL:er z.heard
 lost:z.lost<=L
theorem aY.ok.F{g:al}{k:Nat}{z:aY}(h:z.ok g k):z.df g (λ_=>773+6*k) (6000*k) (5000000*k):=⟨h.bO,h.iA,h.some_,h.parts,h.jP,h.cM,h.kt,h.bx,h.lO,h.heard,h.kL,h.lost⟩
section
variable {g:al} {hk:Nat->Nat} {N M L:Nat} {z:aY}
theorem aY.df.more{nJ:Nat->Nat}{mQ kF:Nat}(h:z.df g hk M L)(e:∀i,hk i<=nJ i)(d:M<=mQ)(c:L<=kF):z.df g nJ mQ kF:=
 {h with iA:=λi x a=>⟨(h.iA i x a).1.more (e i),(h.iA i x a).2⟩,jP:=λb f=>(h.jP b f).more d,lost:=ek h.lost c}
theorem aY.df.ok{k:Nat}(h:z.df g (λ_=>N) M L)(c:N<=773+6*k)(b:M<=6000*k)(a:L<=5000000*k):z.ok g k:=
 let h:=h.more (λ_=>c) b a
 ⟨h.bO,h.iA,h.some_,h.parts,h.jP,h.cM,h.kt,h.bx,h.lO,h.heard,h.kL,h.lost⟩
theorem aY.df.g6(h:z.df g hk M L){l:List aW}(a:h3 l):(z.g6 l).df g hk M (L+420000):=by
 have b:=h.bx;have dt:=h.heard;refine{h with bx:=?_,lO:=λm hm=>?_,heard:=?_,kL:=λm hm=>?_,lost:=?_}
 .show(z.bx++l.take (512-z.bx.length)).length<=512;rw [b0,List.length_take];omega
 .rcases dv.1 (show m∈z.bx++l.take (512-z.bx.length) from hm) with hm|hm
  .exact h.lO m hm
  .exact a.1 m (m3 hm)
 .show(z.heard++l.take (min (min l.length (512-z.bx.length)) (1000-z.heard.length))).length<=1000;rw [b0,List.length_take];omega
 .rcases dv.1 (show m∈z.heard++l.take (min (min l.length (512-z.bx.length)) (1000-z.heard.length)) from hm) with hm|hm
  .exact h.kL m hm
  .exact a.1 m (m3 hm)
 .show z.lost+(l.length-(512-z.bx.length))<=L+420000;have:=a.2;have:=h.lost;omega
theorem aY.df.mI(h:z.df g hk M L){i:Nat}{f x:bo}(e:z.bO[i]? =some (some f))(d:x.ok g (hk i))(hm:x.ao=(i:Int)):({z with bO:=z.bO.set i (some x)}:aY).df g hk M L:=by
 have b:i<z.bO.length:=(fk.1 e).1;refine{h with bO:=by rw [hp];exact h.bO,iA:=λJ y a=>?_,some_:=⟨i,x,by rw [qa b]⟩};have a:(z.bO.set i (some x))[J]? =some (some y):=a;by_cases c:i=J
 .subst c;rw [qa b] at a;cases a;exact⟨d,hm⟩
 .rw [qb c] at a;exact h.iA J y a
theorem aY.df.f0(h:z.df g hk M L){i:Nat}{p:bH×Int}(b:p.1.ok):(z.f0 i p).df g hk M L:=by
 refine{h with cM:=by show(z.cM.set i p).length=3;rw [hp];exact h.cM,kt:=λq a=>?_};rcases p6 (show q∈z.cM.set i p from a) with a|rfl
 .exact h.kt q a
 .exact b
theorem aY.df.oh(h:z.df g hk M L){i:Int}{b:cR}(c:b.ok g (M+1)):(z.oh i b).df g hk (M+1) L:=by
 refine{h with parts:=by show(z.parts.set i.toNat b).length=4;rw [hp];exact h.parts,jP:=λq a=>?_};rcases p6 (show q∈z.parts.set i.toNat b from a) with a|rfl
 .exact(h.jP q a).more (ex _)
 .exact c
theorem bo.uj(x:bo):x.ix.ao=x.ao:=(bo.qo ((x.s.log.map Prod.fst).drop x.dw) x).2.1
theorem bo.xg(x:bo)(I:bF):(x.ask g I).1.ao=x.ao:=by
 unfold bo.ask;split
 .exact bo.uj _
 .rfl
theorem bo.Ic(x:bo)(m:aW):(x.take g m).1.ao=x.ao:=bo.uj _
theorem bo.Ip(x:bo):(x.tick g).1.ao=x.ao:=bo.uj _
def k9(N J i:Nat):Nat:=if i<J then N+6 else N
theorem aY.df.gH(c:g.ok)(b:773<=N){J:Nat}(h:z.df g (k9 N J) M (L+420000*J))(I:bF):(z.gH g I J).df g (k9 N (J+1)) M (L+420000*(J+1)):=by
 have a:z.df g (k9 N (J+1)) M (L+420000*J):=h.more (λi=>by unfold k9;split<;>split<;>omega) (Nat.le_refl _) (Nat.le_refl _);unfold aY.gH;split
 .rename_i x d;obtain⟨aa,hm⟩:=h.iA J x d
  have aa:x.ok g N:=by have:k9 N J J=N:=by unfold k9;rw [if_neg (by omega)]
                       rw [this] at aa;exact aa
  have e:k9 N (J+1) J=N+6:=by unfold k9;rw [if_pos (by omega)]
  have f:=(a.mI d (x:=(x.ask g I).1) (by rw [e];exact aa.ask c b I) ((bo.xg x I).trans hm)).g6 (bo.um c aa b I);exact f.more (λ_=>cI _) (cI _) (by omega)
 .exact a.more (λ_=>cI _) (cI _) (by omega)
theorem aY.df.qp(b:g.ok)(a:773<=N)(h:z.df g (λ_=>N) M L)(I:bF):∀J:Nat,((List.range J).foldl (aY.gH g I) z).df g (k9 N J) M (L+420000*J)
 |0=>h.more (λi=>by unfold k9;rw [if_neg (by omega)];exact Nat.le_refl _) (Nat.le_refl _) (Nat.le_refl _)
 |J+1=>by
  rw [nO,nR];exact aY.df.gH b a (aY.df.qp b a h I J) I
theorem aY.df.asks(a:g.ok)(b:773<=N)(h:z.df g (λ_=>N) M L)(I:bF)(e:Int):(z.asks g I e).1.df g (λ_=>N+6) M (L+4200000):=by
 unfold aY.asks;split
 .exact h.more (λ_=>gF _ _) (cI _) (gF _ _)
 .have c:=h.bO;have d:g.n<=10:=a.n10;exact(aY.df.qp a b h I z.bO.length).more (λi=>by unfold k9;split<;>omega) (Nat.le_refl _) (by omega)
theorem aY.oe{i:Int}{x:bo}(h:z.rep i=some x):0<=i/\z.bO[i.toNat]? =some (some x):=by
 unfold aY.rep at h;split at h
 .rename_i b;cases a:z.bO[i.toNat]? with
  |none=>rw [a] at h;cases h
  |some I=>rw [a] at h;cases I with
   |none=>cases h
   |some y=>cases h;exact⟨b,j⟩
 .cases h
theorem aY.df.cG(k:g.ok)(j:773<=N)(h:z.df g (λ_=>N) M L){i:Int}{x:bo}(e:z.rep i=some x){e9:bo}{l:List aW}(aa:x.ok g N->e9.ok g (N+6))(hm:e9.ao=x.ao)(d:x.ok g N->h3 l):((z.mI i e9).g6 l).df g (λ_=>N+6) M (L+420000):=by
 obtain⟨f,a⟩:=aY.oe e;obtain⟨b,c⟩:=h.iA _ x a;exact((h.more (nJ:=λ_=>N+6) (λ_=>gF _ _) (cI _) (cI _)).mI a (x:=e9) (aa b) (hm.trans c)).g6 (d b)
theorem aY.df.kK(b:g.ok)(a:773<=N)(h:z.df g (λ_=>N) M L){m:aW}(hm:m.cQ):(z.kK g m).df g (λ_=>N+6) M (L+420000):=by
 unfold aY.kK;split
 .exact h.more (λ_=>gF _ _) (cI _) (gF _ _)
 .rename_i x c;exact h.cG b a c (λaa=>aa.take b a hm) (bo.Ic _ _) (λaa=>bo.th b aa a hm)
theorem aY.df.ut(h:z.df g hk M L){l:List aW}(a:l.length<=512)(bw:er l):({z with bx:=l}:aY).df g hk M L:={h with bx:=a,lO:=bw}
theorem aY.df.hg(f:g.ok)(d:773<=N)(h:z.df g (λ_=>N) M L)(s:fb):(z.hg g s).1.df g (λ_=>N+6) M (L+420000):=by
 have a:=h.more (nJ:=λ_=>N+6) (kF:=L+420000) (λ_=>gF _ _) (cI _) (gF _ _);have e:=h.bx;unfold aY.hg;split
 .exact a
 .rename_i m hm;have c:=h.lO m (h5 hm);have he:(z.bx.eraseIdx ((max s.n 0).toNat%z.bx.length)).length<=512:=ek (List.length_eraseIdx_le _ _) e;have bw:er (z.bx.eraseIdx ((max s.n 0).toNat%z.bx.length)):=λq b=>h.lO q (tZ b)
  split
  .split
   .refine a.ut (by rw [b0,List.length_singleton];omega) (h.lO.app (λq b=>?_));rw [fT.1 b];exact c
   .exact a
  .split
   .exact(h.ut he bw).kK f d c.1
   .exact a.ut he bw
theorem aY.df.f9(b:g.ok)(a:773<=N)(h:z.df g (λ_=>N) M L)(s:fb):(z.f9 g s).1.df g (λ_=>N+6) M (L+420000):=by
 unfold aY.f9;split
 .exact h.more (λ_=>gF _ _) (cI _) (gF _ _)
 .rename_i x c;exact h.cG b a c (λaa=>aa.tick b a) (bo.Ip _) (λaa=>bo.ti b aa a)
theorem y1{f:Int}{aM:List aW}{l:eG}{U:List aE}(a:∀m∈aM,∀v∈m.l,v.ok)(h:l.aH g f aM=some U):U.length<=10/\∀v∈U,v.ok:=by
 unfold eG.aH at h;split at h
 .cases h;exact⟨by simp,λv a=>by rw [fT.1 a];exact iZ _ _ _ _ _ _ (eK _)⟩
 .split at h
  .split at h
   .cases h
   .cases h;exact⟨by simp,λv a=>by rw [fT.1 a];exact iZ _ _ _ _ _ _ (eK _)⟩
  .cases h;exact⟨by rw [g9];omega,λv b=>sx a l.use v (m3 b)⟩
theorem eG.FN{f:Int}{l:eG}(h:l.may g f=true):0<=l.s/\l.s<=63/\0<=l.v/\l.v<=8:=by
 unfold eG.may aW.may at h;simp only [ea,fJ,gd] at h;obtain⟨⟨⟨⟨⟨_,a⟩,b⟩,_⟩,_⟩,_⟩:=h.1;exact⟨a.1,a.2,b.1,b.2⟩
theorem vo{f:Int}{aM:List aW}{l:eG}{m:aW}(dt:er aM)(h:e1 g f aM l=some m):m.j3/\0<=m.s/\m.f=f/\m.k=l.k/\m.x=l.x/\l.aH g f aM=some m.l:=by
 unfold e1 at h;split at h
 .rename_i c;cases a:l.aH g f aM with
  |none=>rw [a] at h;cases h
  |some U=>
   rw [a] at h;cases h;obtain⟨d,e⟩:=y1 (λm hm=>(dt m hm).1.aH) a;have b:=eG.FN c;exact⟨⟨⟨al.ec _ _ _,e,eG.vp c,d⟩,b.2.1⟩,b.1,j,j,j,j⟩
 .cases h
theorem aY.df.ft(h:z.df g hk M L)(s:fb):(z.ft g s).1.df g hk (M+1) (L+420000):=by
 have a:=h.more (nJ:=hk) (mQ:=M+1) (kF:=L+420000) (λ_=>cI _) (ex _) (gF _ _);unfold aY.ft;split
 .exact a
 .split
  .exact a
  .rename_i m hm;have bw:=(vo h.kL hm).1;split
   .exact(h.g6 ⟨λq d=>by rw [fT.1 d];exact bw,by simp⟩).more (λ_=>cI _) (ex _) (cI _)
   .split
    .exact a
    .split
     .rename_i b v r c e;have:=(h.jP b (h5 c)).dk (g:=g) (by assumption) v;exact(h.oh (i:=((m.s.toNat%z.parts.length:Nat):Int)) this).more (λ_=>cI _) (cI _) (gF _ _)
     .exact a
theorem tt{x:bo}:∀(l:List cb){aD:List cR}{M:Nat},(∀b∈aD,b.ok g M)->∀b∈l.foldl (pz g x) aD,b.ok g (M+l.length)
 |[],_,_,h=>h
 |m::r,aD,M,h=>by
  intro b a;rw [iC] at a
  have d:∀b∈pz g x aD m,b.ok g (M+1):=λb a=>by
   obtain⟨c,f,rfl⟩:=dV.1 a;exact(h c f).dk _ _
  have e:=tt r d b a;rw [eu];exact e.more (by omega)
theorem ts{x:bo}:∀(l:List cb)(aD:List cR),(l.foldl (pz g x) aD).length=aD.length
 |[],_=>rfl
 |m::r,aD=>by
  rw [iC,ts r];exact ff _
theorem bo.ok.A8{x:bo}(h:x.ok g N):x.aH.length<=512:=by
 have a:=h.aH;have b:=h.dw;have c:=h.s.log;omega
theorem zW:∀(l:List (Option bo)){aD:List cR}{M:Nat},(∀x,some x∈l->x.aH.length<=512)->(∀b∈aD,b.ok g M)->(∀b∈l.foldl (ke g) aD,b.ok g (M+512*l.length))/\(l.foldl (ke g) aD).length=aD.length
 |[],_,_,_,h=>⟨h,j⟩
 |I::r,aD,M,d,h=>by
  rw [iC,eu]
  have c:(∀b∈ke g aD I,b.ok g (M+512))/\(ke g aD I).length=aD.length:=by
   cases I with
   |none=>exact⟨λb a=>(h b a).more (by omega),j⟩
   |some x=>exact⟨λb a=>(tt x.aH h b a).more (by have:=d x (by simp);omega),ts _ _⟩
  obtain⟨e,f⟩:=zW r (λx i=>d x (by simp [i])) c.1;exact⟨λb a=>(e b a).more (by omega),f.trans c.2⟩
theorem Ix{x:bo}{cs:List (bH×Int)}(i:Nat)(h:∀p∈cs,p.1.ok):(∀p∈kB x cs i,p.1.ok)/\(kB x cs i).length=cs.length:=by
 unfold kB;split
 .exact⟨h,j⟩
 .rename_i p b;split
  .exact⟨h,j⟩
  .refine⟨λq a=>?_,hp ..⟩;rcases p6 a with a|rfl
   .exact h q a
   .exact(h p (h5 b)).told _ _
theorem wm{x:bo}:∀(l:List Nat){cs:List (bH×Int)},(∀p∈cs,p.1.ok)->(∀p∈l.foldl (kB x) cs,p.1.ok)/\(l.foldl (kB x) cs).length=cs.length
 |[],_,h=>⟨h,j⟩
 |i::r,cs,h=>by
  obtain⟨a,b⟩:=Ix (x:=x) i h;obtain⟨c,d⟩:=wm r a;rw [iC];exact⟨c,d.trans b⟩
theorem aY.df.polls(k:g.ok)(h:z.df g hk M L):(z.polls g).df g hk (M+5120) L:=by
 have aJ:g.n<=10:=k.n10;have m:=h.bO
 obtain⟨c,d⟩:=zW (g:=g) z.bO (aD:=z.parts) (M:=M) (λx l=>by
  obtain⟨i,f⟩:=oz l;exact(h.iA i x f).1.A8) h.jP
 have a:(∀p∈(z.polls g).cM,p.1.ok)/\(z.polls g).cM.length=z.cM.length:=by
  show(∀p∈(match sh z.bO with|none=>z.cM|some x=>(List.range z.cM.length).foldl (kB x) z.cM),p.1.ok)/\(match sh z.bO with|none=>z.cM|some x=>(List.range z.cM.length).foldl (kB x) z.cM).length=z.cM.length;split
  .exact⟨h.kt,j⟩
  .exact wm _ h.kt
 exact{h with parts:=d.trans h.parts,jP:=λb e=>(c b e).more (by omega),cM:=a.2.trans h.cM,kt:=a.1}
theorem aY.df.records(h:z.df g hk M L)(s:fb)(i:Nat){p:bH×Int}(d:p.1.ok):(z.records s i p).1.df g hk (M+1) L:=by
 have e:=h.more (nJ:=hk) (mQ:=M+1) (kF:=L) (λ_=>cI _) (ex _) (cI _);unfold aY.records;split
 .exact e.f0 (d.record _ _)
 .split
  .exact e.f0 (d.record _ _)
  .rename_i b a
   have c:b.ok g M:=by
    unfold aY.part at a;split at a
    .exact h.jP b (h5 a)
    .cases a
   have f:=dQ.CB b.log (p.1.record s.n s.x).2.1;refine(h.f0 ?_).oh ⟨?_,?_,Nat.le_succ_of_le c.acc,c.aH⟩
   .dsimp only;split
    .exact(d.record _ _).jG _
    .exact d.record _ _
   .have:=c.ck;show((b.log.append (p.1.record s.n s.x).2.1).1.ck).length<=M+1;omega
   .have:=c.c0;show((b.log.append (p.1.record s.n s.x).2.1).1.c0).length<=M+1;omega
theorem aY.df.gP(c:g.ok)(b:773<=N)(h:z.df g (λ_=>N) M L)(s:fb):(z.gP g s).1.df g (λ_=>N+6) (M+1) (L+4200000):=by
 have e:=h.more (nJ:=λ_=>N+6) (mQ:=M+1) (kF:=L+4200000) (λ_=>gF _ _) (ex _) (gF _ _);unfold aY.gP;split
 .exact e
 .rename_i p d
  have a:p.1.ok:=by
   split at d
   .exact h.kt p (h5 d)
   .cases d
  split
  .exact((h.f0 a.init).asks c b _ _).more (λ_=>cI _) (ex _) (cI _)
  .split
   .exact((h.f0 (a.gI _)).asks c b _ _).more (λ_=>cI _) (ex _) (cI _)
   .split
    .exact(h.records s s.node.toNat a).more (λ_=>gF _ _) (cI _) (gF _ _)
    .exact((h.f0 (a.end_ _)).asks c b _ _).more (λ_=>cI _) (ex _) (cI _)
theorem aY.ok.b3(b:g.ok){k:Nat}(h:z.ok g k)(s:fb):(z.b3 g s).1.ok g (k+1):=by
 have a:=h.F;have c:773<=773+6*k:=by omega
 unfold aY.b3;split
 .exact(a.gP b c s).ok (by omega) (by omega) (by omega)
 .split
  .exact(a.asks b c _ _).ok (by omega) (by omega) (by omega)
  .split
   .exact(a.hg b c s).ok (by omega) (by omega) (by omega)
   .split
    .exact(a.f9 b c s).ok (by omega) (by omega) (by omega)
    .split
     .exact(a.ft s).ok (by omega) (by omega) (by omega)
     .split
      .exact(a.polls b).ok (by omega) (by omega) (by omega)
      .exact a.ok (by omega) (by omega) (by omega)
end
theorem aY.df.CF{g:al}{N M L:Nat}{z:aY}(c:g.ok)(b:773<=N)(h:z.df g (λ_=>N) M L)(I:bF)(J:Nat):(z.gH g I J).df g (λ_=>N+6) M (L+420000):=by
 have a:z.df g (λ_=>N+6) M L:=h.more (λ_=>gF _ _) (cI _) (cI _);unfold aY.gH;split
 .rename_i x d;obtain⟨aa,hm⟩:=h.iA J x d;exact(a.mI d (x:=(x.ask g I).1) (aa.ask c b I) ((bo.xg x I).trans hm)).g6 (bo.um c aa b I)
 .exact a.more (λ_=>cI _) (cI _) (gF _ _)
def aY.hr(g:al)(I:bF)(z:aY)(l:List (Int×Value)):aY:=l.foldl (λz q=>z.gH g I q.1.toNat) z
theorem aY.CH(g:al)(I:bF)(z:aY)(l:List (Int×Value))(q:Int×Value):z.hr g I (l++[q])=(z.hr g I l).gH g I q.1.toNat:=by unfold aY.hr;rw [List.foldl_append];rfl
theorem aY.df.hr{g:al}{M:Nat}(a:g.ok)(I:bF):∀(l:List (Int×Value)){z:aY}{N L:Nat},773<=N->z.df g (λ_=>N) M L->(z.hr g I l).df g (λ_=>N+6*l.length) M (L+420000*l.length)
 |[],_,_,_,_,h=>h
 |q::r,z,N,L,d,h=>by
  have b:=h.CF a d I q.1.toNat;have c:=aY.df.hr a I r (N:=N+6) (by omega) b;exact c.more (λ_=>by rw [eu];omega) (cI _) (by rw [eu];omega)
theorem aY.xe(g:al)(I:bF)(z:aY)(J:Nat):(z.gH g I J).parts=z.parts/\(z.gH g I J).cM=z.cM/\(z.gH g I J).bO.length=z.bO.length/\∀i:Nat,(∀x,z.bO[i]?≠some (some x))->∀x,(z.gH g I J).bO[i]?≠some (some x):=by
 unfold aY.gH;split
 .rename_i x d;refine⟨j,j,hp ..,λi a y b=>?_⟩;have b:(z.bO.set J (some (x.ask g I).1))[i]? =some (some y):=b;by_cases c:J=i
  .subst c;exact a x d
  .rw [qb c] at b;exact a y b
 .exact⟨j,j,j,λi a=>a⟩
theorem aY.xf(g:al)(I:bF):∀(l:List (Int×Value))(z:aY),(z.hr g I l).parts=z.parts/\(z.hr g I l).cM=z.cM/\(z.hr g I l).bO.length=z.bO.length
 |[],_=>⟨j,j,j⟩
 |q::r,z=>by
  obtain⟨a,b,c,_⟩:=aY.xe g I z q.1.toNat;obtain⟨d,e,f⟩:=aY.xf g I r (z.gH g I q.1.toNat);exact⟨d.trans a,e.trans b,f.trans c⟩
theorem aY.CG{g:al}{I:bF}{z:aY}{J:Nat}(h:∀x,z.bO[J]?≠some (some x)):z.gH g I J=z:=by
 unfold aY.gH;split
 .rename_i x a;exact(h x a).elim
 .rfl
theorem ve(g:al)(I:bF):∀(U:List Value)(k:Nat)(z:aY),(∀i:Nat,i<U.length->U[i]? =some (.pointer none)->∀x,z.bO[k+i]?≠some (some x))->z.hr g I (fg k U)=(List.range' k U.length).foldl (aY.gH g I) z
 |[],_,_,_=>rfl
 |v::r,k,z,h=>by
  rw [fg,eu,List.range'_succ,iC];split
  .rename_i a;have c:v= .pointer none:=by unfold nq at a;split at a;rfl;cases a
   rw [aY.CG (J:=k) (λx=>by have:=h 0 (by simp) (by rw [c];rfl) x;simpa using this)];exact ve g I r (k+1) z (λi b aJ x=>by have:=h (i+1) (by simp;omega) (by simpa using aJ) x;rwa [show k+(i+1)=k+1+i by omega] at this)
  .show(aY.hr g I (z.gH g I ((k:Int).toNat)) (fg (k+1) r))=_;rw [m9];refine ve g I r (k+1) _ (λi b aJ x=>(aY.xe g I z k).2.2.2 (k+1+i) (λy=>?_) x);have:=h (i+1) (by simp;omega) (by simpa using aJ) y
   rwa [show k+(i+1)=k+1+i by omega] at this
theorem sq:∀{U:List Value}{k:Nat}{q:Int×Value},q∈fg k U->∃i:Nat,q.1=((k+i:Nat):Int)/\U[i]? =some q.2/\nq q.2=false
 |[],_,_,h=>by cases h
 |v::r,k,q,h=>by
  rw [fg] at h;split at h
  .obtain⟨i,a,b,c⟩:=sq h;exact⟨i+1,by rw [a];congr 1;omega,by simpa using b,c⟩
  .rename_i d;rcases g1.1 h with rfl|h
   .exact⟨0,j,j,by simpa using d⟩
   .obtain⟨i,a,b,c⟩:=sq h;exact⟨i+1,by rw [a];congr 1;omega,by simpa using b,c⟩
theorem vf:∀(U:List Value)(k:Nat),(fg k U).length<=U.length
 |[],_=>cI _
 |v::r,k=>by
  rw [fg];have:=vf r (k+1);split
  .rw [eu];omega
  .rw [eu,eu];omega
theorem h4.nil{g:al}{U:List Value}{xs:List (Option bo)}{H:List Chunk}(h:ed (h4 g) U xs H){i:Nat}(a:U[i]? =some (.pointer none)):∀x,xs[i]?≠some (some x):=λx b=>by
 have d:i<xs.length:=(fk.1 b).1;obtain⟨v,_,_,_,e,_,c,_⟩:=h.at i d;rw [e] at a;have j:xs[i]=some x:=by rw [cn d] at b;exact hB b
 rw [j] at c;obtain⟨k,f,_⟩:=c;rw [f] at a;cases a
theorem h4.some{g:al}{v:Value}{I:Option bo}{G:List Chunk}(h:h4 g v I G)(b:nq v=false):∃x a,I= .some x/\v= .pointer (.some ⟨a,0,none⟩)/\hP g a x G:=by
 cases I with
 |none=>rw [h.1] at b;cases b
 |some x=>obtain⟨a,c,d⟩:=h;exact⟨x,a,j,c,d⟩
theorem r4{o:World}{g:al}{aQ:Nat}{z:aY}{G:List Chunk}{I:bF}{e:Int}(aF:eP g aQ z G){N M L:Nat}(aa:z.df g (λ_=>N) M L)(aV:773<=N)(bw:N+150<=1000000)(bv:L+4200000<=1000000000)(aG:g.at o)(T:g.ok)(am:g.off (av [G]))(d:Own [G] o):Calls prog 41 #[ab aQ,.agg I.cs.toArray,ae e] o λr w=>r=ae (z.asks g I e).2/\∃ai,eP g aQ (z.asks g I e).1 ai/\C o (av [G]) [ai] w:=by
 have aW:=aF;obtain⟨c,cH,bP,dx,s,t,u,rfl⟩:=aF;obtain⟨n,aE⟩:∃n,n=av [bh g aQ c++(cH++(bP++(dx++(s++t))))]:=⟨_,j⟩;rw [<-aE] at am⊢;have d:C o n [bh g aQ c++(cH++(bP++(dx++(s++t))))] o:=aE▸d;have d:=d.zI;refine j2 func41 (bL 2 d j j (λk w d=>bL 0 d j j (λm w d=>?_)));have d:C o n [bE m I,R k #[ab aQ] 24,bh g aQ c,cH,bP,dx,s,t] w:=d;refine bm 6 j j (λX=>?_) (λX=>?_)
 .refine bD 4 j ⟨ae e,λw aq=>?_⟩;have d:=aq.st d (cI _);refine⟨λa af=>i8 (fn:=f41) af j _ _,?_⟩;have bg:z.asks g I e=(z,e):=a6 (by simpa using X);rw [bg];have d:C o n [bh g aQ c,cH,bP,dx,s,t] w:=d.as;exact⟨j,_,aW,d.sr⟩
 refine ar 4 j (ax (C.aj (b:=k) d) j) ?_;obtain⟨ag,P,U,rfl,J,Q⟩:=u.bO;have aw:=Q.len;have a8:0<z.bO.length:=by obtain⟨i,x,be⟩:=aa.some_;have:=(fk.1 be).1;omega
 have bB:z.bO.length<=10:=by rw [aa.bO];exact T.n10
 obtain⟨l,cap,cur,S,rfl,bG⟩:=Row.block J a8;rw [S] at J;rw [<-aw] at S J;have bb:=Q.qX;refine bk 0 (yD (o:=w) (aQ:=aQ)) j (λr w⟨az,ao,F⟩=>?_);subst ao;have d:=d.aL F;have d:C o n [R az #[ab aQ] 24,bE m I,R k #[ab aQ] 24,bh g aQ c,R l cur 47,P,bP,dx,s,t] w:=C.perm (A:=[R az #[ab aQ] 24,bE m I,R k #[ab aQ] 24,bh g aQ c,R l cur 47++P,bP,dx,s,t]) d.as (by simp);have d:C o n ([R az #[ab aQ] 24]++[bE m I,R k #[ab aQ] 24,bh g aQ {c with heard:=c.heard},R l cur 47,P,bP,dx,s,t]) w:=d
 refine j6 1 j (yC (g:=g) (aQ:=aQ) (c:=c) S J bb (by omega)) j (by have:=d.size;simpa using this) d j (λ_=>rfl) (by intro p u;simp at u;rcases u with rfl|rfl<;>rfl)
  (λpre ad=>∃f H a7 bu,ad=[bE m I,R k #[ab aQ] 24,bh g aQ {c with heard:=f},R l cur 47,H,bP,dx,a7,bu]/\ed (h4 g) U (z.hr g I pre).bO H/\gS c.bx (z.hr g I pre).bx (z.hr g I pre).lost a7/\cw f (z.hr g I pre).heard bu/\pre.length<=10) (λ_ _=>False) ⟨c.heard,P,s,t,j,Q,u.bx,u.heard,b4 _⟩ (λL aK D=>by have Y:=D.cc (C.aj (b:=aQ) d);exact Y) (λpre ad L a1=>by obtain⟨f,H,a7,bu,rfl,_⟩:=a1;simp) ?_ ?_ (λ_ _ h=>h.elim) (λ_ _ _ h=>h.elim)
 .rintro y pre ⟨K,bq⟩ br aR bI aD ⟨f,H,a7,bu,rfl,D,Z,ac,ba⟩ d;obtain⟨i,a5,au,a9⟩:=sq (q:=(K,bq)) (by obtain⟨bj,ap⟩:=aD;rw [ap];simp);have ak:=aY.df.hr T I pre aV aa;have d:=C.gy d;refine bD 2 j (⟨j,_,d,λaR aB d=>?_⟩);have a4:=aG.st d am;have an:g.off (av [bE m I,R k #[ab aQ] 24,bh g aQ {c with heard:=f},R l cur 47,H,bP,dx,a7,bu]):=(aG.apart d am).sub (λb ah=>np.2 (.inr (np.2 (.inl ah))));have d:=C.gy d;have bA:i<U.length:=(fk.1 au).1;have aH:i<(z.hr g I pre).bO.length:=by have:=D.len;omega
  obtain⟨v,H1,E,B,Y,rfl,a2,bc⟩:=D.at i aH;rw [Y] at au;cases au;obtain⟨x,aO,bf,rfl,aZ⟩:=a2.some a9;have aM:(z.hr g I pre).bO[i]? =some (some x):=by rw [cn aH,bf]
  obtain⟨aN,_⟩:=ak.iA i x aM
  have bC:pre.length+1<=U.length:=by
   obtain⟨bj,ap⟩:=aD;have aC:=vf U 0;rw [ap] at aC;simp at aC;omega
  have an:g.off (av [bE m I,R k #[ab aQ] 24,bh g aQ {c with heard:=f},R l cur 47,H1,E,B,bP,dx,a7,bu]):=an.sub (λb ah=>by simpa [av,or_assoc] using ah);have d:C aB (av [bE m I,R k #[ab aQ] 24,bh g aQ {c with heard:=f},R l cur 47,H1++(E++B),bP,dx,a7,bu]) [bE m I,R k #[ab aQ] 24,bh g aQ {c with heard:=f},R l cur 47,H1,E,B,bP,dx,a7,bu] aB:=d.perm (by simp);refine bM 4 (U:=I.cs) j j j (bn (C.aj (b:=m) d)) (bk 0 (CI (I:=I) aZ aN (by omega) (by omega) a4 T (an.sub (fI (by simp))) (d.ours (cC:=[E]))) j (λr w⟨bH,aP,O,ao,bd,a0,F⟩=>?_));subst ao;have d:=d.b2 F;refine ar 6 j (ax (C.aj (b:=k) d) j) ?_;have a3:=sW (g:=g) (aQ:=aQ) (c:={c with heard:=f}) Z ac bd (by have:=ak.lost;omega) (by have:=(bo.um T aN (by omega) I).2;omega) ak.heard (d.ours (cC:=[bh g aQ {c with heard:=f},a7,bu,aP]));refine bp 1 a3 j (λw⟨aA,V,W,aS,aT,F⟩=>?_);have d:=d.b2 F;refine bD 0 j ?_
  have ay:z.hr g I (pre++[(K,ab aO)])=aY.g6 {z.hr g I pre with bO:=(z.hr g I pre).bO.set i (some (x.ask g I).1)} (x.ask g I).2.1:=by
   rw [aY.CH];have e:K.toNat=i:=by have bt:K=((0+i:Nat):Int):=a5;omega
   show aY.gH g I (z.hr g I pre) K.toNat=_;rw [e];unfold aY.gH;rw [aM]
  have aU:=bc (some (x.ask g I).1) O ⟨aO,j,a0⟩;refine⟨[bE m I,R k #[ab aQ] 24,bh g aQ {c with heard:=aA},R l cur 47,H1++(O++B),bP,dx,V,W],?_,aA,H1++(O++B),V,W,j,by rw [ay];exact aU,by rw [ay];exact aS,by rw [ay];exact aT,by rw [b0,List.length_singleton];omega⟩;have d:C aB (av [bE m I,R k #[ab aQ] 24,bh g aQ {c with heard:=f},R l cur 47,H1++(E++B),bP,dx,a7,bu]) [bE m I,R k #[ab aQ] 24,bh g aQ {c with heard:=aA},R l cur 47,H1,O,B,bP,dx,V,W] w:=d.as;exact d.perm (by simp)
 rintro xs bs w aX ⟨f,H,a7,bu,rfl,D,Z,ac,ba⟩ d;subst aX
 have bi:z.asks g I e=(z.hr g I (fg 0 U),0):=by
  unfold aY.asks;rw [aI (by simpa using X),ve g I U 0 z (λi bz aJ x=>by rw [Nat.zero_add];exact h4.nil Q aJ x),<-List.range_eq_range',aw]
 rw [bi];refine bD 3 j ⟨ae 0,λw aq=>?_⟩;have d:=aq.st d (cI _);refine⟨λa af=>i8 (fn:=f41) af j _ _,?_⟩;have d:C o n [bh g aQ {c with heard:=f},R l cur 47,H,bP,dx,a7,bu] w:=d.as;obtain⟨s1,s2,bl⟩:=aY.xf g I (fg 0 U) z;refine⟨j,_,⟨{c with heard:=f},R l cur 47++H,bP,dx,a7,bu,⟨⟨_,_,U,j,?_,D⟩,by rw [s1];exact u.parts,by rw [s2];exact u.cM,Z,ac⟩,j⟩,C.perm (A:=[bh g aQ {c with heard:=f},R l cur 47,H,bP,dx,a7,bu]) d (by simp)⟩;show Row 47 1 c.bO _ U _;rw [S,bl,<-aw];exact J
structure hO where
 X:Option Addr
 bQ:Nat
 Y:Option Addr
 lc:Nat
 aP:Option Addr
 dU:Nat
abbrev c9(s:fb)(a:hO):List Value:=[ae s.k,ae s.node,ae s.n,.slice a.X s.x.length a.bQ]++gq s.e1 a.Y a.lc a.aP a.dU
structure h2(s:fb)(a:hO)(F:List Nat)(w:World):Prop where
 x:Rd w a.X (au s.x)
 ot:bT a.X (au s.x) F
 pD:s.x.length<=a.bQ
 y:Rd w a.Y (au s.e1.x)
 rl:bT a.Y (au s.e1.x) F
 rm:s.e1.x.length<=a.lc
 u:Rd w a.aP (s.e1.use.map bN)
 rc:bT a.aP (s.e1.use.map bN) F
 re:s.e1.use.length<=a.dU
 rf:s.e1.use.length<=maxLen
theorem h2.st{s:fb}{a:hO}{F eL:List Nat}{w aK:World}{ad:List (List Chunk)}(h:h2 s a F w)(d:C w eL ad aK)(c:∀b∈eL,b∈F):h2 s a F aK:=
 ⟨d.rd h.x (h.ot.sub c),h.ot,h.pD,d.rd h.y (h.rl.sub c),h.rl,h.rm,d.rd h.u (h.rc.sub c),h.rc,h.re,h.rf⟩
theorem h2.sub{s:fb}{a:hO}{F eL:List Nat}{w:World}(h:h2 s a F w)(c:∀b∈eL,b∈F):h2 s a eL w:=
 ⟨h.x,h.ot.sub c,h.pD,h.y,h.rl.sub c,h.rm,h.u,h.rc.sub c,h.re,h.rf⟩
theorem h2.apart{s:fb}{a:hO}{F:List Nat}{w aK:World}{ad:List (List Chunk)}(h:h2 s a F w)(b:C w F ad aK):h2 s a (av ad) aK:=
 ⟨b.rd h.x h.ot,b.apart h.x h.ot,h.pD,b.rd h.y h.rl,b.apart h.y h.rl,h.rm,b.rd h.u h.rc,b.apart h.u h.rc,h.re,h.rf⟩
def lE(g:al)(aQ:Nat)(z:aY)(i aN:Nat)(G:List Chunk):Prop:=∃(c:ch)(cH bP a7 bu ag H:List Chunk)(U:List Value),wV g z c cH bP (ag++H) a7 bu/\Row 92 1 c.cM z.cM.length U ag/\ed ma U z.cM H/\U[i]? =some (ab aN)/\G=bh g aQ c++(cH++(bP++((ag++H)++(a7++bu))))
theorem lE.rep{g:al}{aQ:Nat}{z:aY}{i aN:Nat}{G:List Chunk}(h:lE g aQ z i aN G):eP g aQ z G:=by
 obtain⟨c,cH,bP,a7,bu,ag,H,U,a,_,_,_,rfl⟩:=h;exact⟨c,cH,bP,_,a7,bu,a,j⟩
theorem bH.yJ(e:bH):e.init.1.parts=e.parts:=by
 unfold bH.init;split
 .split<;>rfl
 .rfl
theorem lE.open{g:al}{aQ:Nat}{z:aY}{i aN:Nat}{G:List Chunk}{p:bH×Int}(h:lE g aQ z i aN G)(f:z.cM[i]? =some p):∃(c:ch)(cH bP a7 bu ag H1 d GE:List Chunk)(aB:Nat),h0 aB p.1 GE/\G=bh g aQ c++(cH++(bP++((ag++(H1++((dc aN aB p.2++GE)++d)))++(a7++bu))))/\
 (∀a b,h0 aB a.1 b->lE g aQ (z.f0 i a) i aN (bh g aQ c++(cH++(bP++((ag++(H1++((dc aN aB a.2++b)++d)))++(a7++bu)))))):=by
 obtain⟨c,cH,bP,a7,bu,ag,H,U,e,y,u,q,rfl⟩:=h;have n:i<z.cM.length:=(fk.1 f).1;obtain⟨v,H1,A,d,k,rfl,l,x⟩:=u.at i n;rw [k] at q;cases q;have w:z.cM[i]=p:=by rw [cn n] at f;exact hB f
 rw [w] at l;obtain⟨B,aB,GE,r,s,rfl⟩:=l;cases r;refine⟨c,cH,bP,a7,bu,ag,H1,d,GE,aB,s,j,λa b t=>?_⟩;have m:=x a (dc aN aB a.2++b) ⟨aN,aB,b,j,t,j⟩
 have o:Row 92 1 c.cM (z.f0 i a).cM.length U ag:=by
  show Row 92 1 c.cM (z.cM.set i a).length U ag;rw [hp];exact y
 exact⟨c,cH,bP,a7,bu,ag,_,U,⟨e.bO,e.parts,⟨ag,_,U,j,o,m⟩,e.bx,e.heard⟩,o,m,k,j⟩
theorem Cf{o:World}{g:al}{aQ:Nat}{z:aY}{G:List Chunk}{s:fb}{a:hO}(t:eP g aQ z G){N M L:Nat}(aa:z.df g (λ_=>N) M L)(p:773<=N)(q:N+150<=1000000)(m:L+4200000<=1000000000)(x:g.at o)(y:g.ok)(l:g.off (av [G]))(d:Own [G] o):Calls prog 21 #[ab aQ,.agg (c9 s a).toArray] o λr w=>r=ae (z.r1 g s).2/\∃ai,eP g aQ (z.r1 g s).1 ai/\C o (av [G]) [ai] w:=by
 obtain⟨e,h⟩:∃e,e=av [G]:=⟨_,j⟩;have A:g.off e:=h▸l;rw [<-h];have d:C o e [G] o:=h▸d;refine a2 func21 (bL 2 d j j (λk w d=>?_));have d:C o e [R k (c9 s a).toArray 33,G] w:=d;refine ar 4 j (ax (C.aj (b:=k) d) j) (cN (c:=(mL s.n).cs.toArray) j j j (λ_=>by kernel_rfl) (b7 0 d j (λf w d=>b6 0 (d.bc f) j j j j j (λw d=>?_))));have d:=C.whole (U:=((mL s.n)).cs) d j;have d:C o e (bE f (mL s.n)::_) w:=d;refine bM 2 (U:=(mL s.n).cs) j j j (bn (C.aj (b:=f) d)) (bk 0 (uN (o:=w) (I:=mL s.n)) j (λr w⟨v,D,B,E,i⟩=>?_));subst B;have d:=d.aL i;refine bM 8 (U:=(mL s.n).cs) j j j (bn (C.aj (b:=f) d)) (bp 1 (r4 (I:=mL s.n) t aa p q m (x.st d A) y l (d.ours (cC:=[G]))) j (λw⟨ai,u,i⟩=>?_));have d:=d.b2 i;exact aq 1 j j ⟨j,ai,u,d.as⟩
theorem EP{o:World}{g:al}{aQ:Nat}{z:aY}{G:List Chunk}{i aN:Nat}{p:bH×Int}(O:lE g aQ z i aN G)(E:z.cM[i]? =some p){N M L:Nat}(aa:z.df g (λ_=>N) M L)(J:773<=N)(K:N+150<=1000000)(H:L+4200000<=1000000000)(B:g.at o)(Q:g.ok)(R:g.off (av [G]))(a:Own [G] o):Calls prog 40 #[ab aQ,ab aN] o λr w=>r=ae (z.inits g i p).2/\∃ai,eP g aQ (z.inits g i p).1 ai/\C o (av [G]) [ai] w:=by
 obtain⟨d,m⟩:∃d,d=av [G]:=⟨_,j⟩;have D:g.off d:=m▸R;rw [<-m];have a:C o d [G] o:=m▸a;have t:p.1.ok:=aa.kt p (h5 E);obtain⟨c,cH,bP,a7,bu,ag,H1,k,GE,aB,F,rfl,y⟩:=O.open E;obtain⟨u,h,v,rfl⟩:=F;have a:C o d [bh g aQ c,cH,bP,ag,H1,dc aN aB p.2,bC aB p.1 u,h,k,a7,bu] o:=a.perm (by simp);refine a2 func40 (ar 8 j (ax (C.aj (b:=aN) a) j) (bp 0 (EO (aB:=aB) (e:=p.1) (u:=u) t.next t.name (a.ours (cC:=[bC aB p.1 u]))) j (λw n=>?_)));have a:=a.b2 n;refine b7 3 a j (λf w a=>?_);have a:C o d (bE f db::_) w:=a;refine b6 0 (a.bc f) j j j j j (λw a=>?_);have a:=C.whole (U:=p.1.init.2.1.cs) a j;have a:C o d (bE f p.1.init.2.1::_) w:=a;refine bm 6 j j (λl=>?_) (λl=>?_);refine ar 3 j (ax (C.aj (b:=f) a) j) (dF 2 (a.bc aN) j j j j (λw a=>?_));have a:C o d (dc aN aB p.1.init.2.1.s::_) w:=a;have q:(p.1.init.1,if p.1.init.2.2=0 then p.1.init.2.1.s else p.2)=(p.1.init.1,p.1.init.2.1.s):=aG (Prod.mk p.1.init.1) (a6 (by simpa using l))
 obtain⟨aA,x,a⟩:∃aA,eP g aQ (z.f0 i (p.1.init.1,if p.1.init.2.2=0 then p.1.init.2.1.s else p.2)) aA/\C o d [aA,bE f p.1.init.2.1] w:=by
  rw [q];have a:C o d [bh g aQ c,cH,bP,ag,H1,dc aN aB p.1.init.2.1.s,bC aB p.1.init.1 u,h,k,a7,bu,bE f p.1.init.2.1] w:=a.as;exact⟨_,(y (p.1.init.1,p.1.init.2.1.s) _ ⟨u,h,by rw [bH.yJ];exact v,j⟩).rep,C.perm (A:=[bh g aQ c,cH,bP,ag,H1,dc aN aB p.1.init.2.1.s,bC aB p.1.init.1 u,h,k,a7,bu,bE f p.1.init.2.1]) a (by simp)⟩
 refine bM 3 (U:=p.1.init.2.1.cs) j j j (bn (C.aj (b:=f) a)) ?_;rotate_left
 have q:(p.1.init.1,if p.1.init.2.2=0 then p.1.init.2.1.s else p.2)=(p.1.init.1,p.2):=aG (Prod.mk p.1.init.1) (aI (by simpa using l))
 obtain⟨aA,x,a⟩:∃aA,eP g aQ (z.f0 i (p.1.init.1,if p.1.init.2.2=0 then p.1.init.2.1.s else p.2)) aA/\C o d [aA,bE f p.1.init.2.1] w:=by
  rw [q];have a:C o d [bh g aQ c,cH,bP,ag,H1,dc aN aB p.2,bC aB p.1.init.1 u,h,k,a7,bu,bE f p.1.init.2.1] w:=a.as;exact⟨_,(y (p.1.init.1,p.2) _ ⟨u,h,by rw [bH.yJ];exact v,j⟩).rep,C.perm (A:=[bh g aQ c,cH,bP,ag,H1,dc aN aB p.2,bC aB p.1.init.1 u,h,k,a7,bu,bE f p.1.init.2.1]) a (by simp)⟩
 refine bM 4 (U:=p.1.init.2.1.cs) j j j (bn (C.aj (b:=f) a)) ?_;rotate_left
 all_goals
  refine bp 1 (r4 (I:=p.1.init.2.1) x (aa.f0 t.init) J K H (B.st a D) Q (a.eF B D) (a.ours (cC:=[aA]))) j (λw⟨ai,P,n⟩=>?_);have a:=a.b2 n;exact aq 1 j j ⟨j,ai,P,a.as⟩
theorem lE.Gr{g:al}{aQ:Nat}{z:aY}{i aN:Nat}{G:List Chunk}{p:bH×Int}(h:lE g aQ z i aN G)(k:z.cM[i]? =some p):∃(c:ch)(cH bP a7 bu ag H1 e GE:List Chunk)(aB:Nat),h0 aB p.1 GE/\pV 60 (jv g) c.parts z.parts bP/\G=bh g aQ c++(cH++(bP++((ag++(H1++((dc aN aB p.2++GE)++e)))++(a7++bu))))/\
 (∀a b l d,pV 60 (jv g) c.parts l d->h0 aB a.1 b->eP g aQ {z.f0 i a with parts:=l} (bh g aQ c++(cH++(d++((ag++(H1++((dc aN aB a.2++b)++e)))++(a7++bu)))))):=by
 obtain⟨c,cH,bP,a7,bu,ag,H,U,f,B,u,o,rfl⟩:=h;have n:i<z.cM.length:=(fk.1 k).1;obtain⟨v,H1,D,e,q,rfl,m,A⟩:=u.at i n;rw [q] at o;cases o;have y:z.cM[i]=p:=by rw [cn n] at k;exact hB k
 rw [y] at m;obtain⟨E,aB,GE,r,s,rfl⟩:=m;cases r;refine⟨c,cH,bP,a7,bu,ag,H1,e,GE,aB,s,f.parts,j,λa b l d x t=>?_⟩;have w:=A a (dc aN aB a.2++b) ⟨aN,aB,b,j,t,j⟩
 have C:Row 92 1 c.cM (z.cM.set i a).length U ag:=by
  rw [hp];exact B
 exact⟨c,cH,d,_,a7,bu,⟨f.bO,x,⟨ag,_,U,j,C,w⟩,f.bx,f.heard⟩,j⟩
theorem ed.vY{g:al}:∀{U:List Value}{xs:List cR}{G:List Chunk},ed (jv g) U xs G->∀v∈U,∃p,v= .pointer p
 |[],_,_,_=>by intro v a;cases a
 |u::us,[],_,h=>h.elim
 |u::us,x::xs,_,⟨_,_,_,hu,h⟩=>by
  intro v a;rcases g1.1 a with rfl|a
  .obtain⟨c,b,_⟩:=hu;exact⟨_,b⟩
  .exact h.vY v a
theorem bH.G7{e:bH}(h:e.ok){n:Int}{x:List UInt8}(a:(e.record n x).2.2=0):0<=n/\n<=3:=by
 unfold bH.record at a;split at a
 .cases a
 .rename_i q c;have b:n∈e.parts.map Prod.fst:=dV.2 ⟨_,hS c,j⟩;rw [h.keys] at b;simp at b;omega
theorem G8{o:World}{g:al}{aQ:Nat}{z:aY}{G:List Chunk}{i aN:Nat}{p:bH×Int}{s:fb}{a:hO}(aL:lE g aQ z i aN G)(aE:z.cM[i]? =some p)(am:h2 s a (av [G]) o){N M L:Nat}(aa:z.df g (λ_=>N) M L)(aZ:773<=N)(a0:N+150<=1000000)(aX:M+10000<=1000000)(aW:L+4200000<=1000000000)(a3:g.at o)(a5:g.ok)(aP:g.off (av [G]))(d:Own [G] o):Calls prog 43 #[ab aQ,.agg (c9 s a).toArray,ab aN] o λr w=>r=ae (z.records s i p).2/\∃ai,eP g aQ (z.records s i p).1 ai/\C o (av [G]) [ai] w:=by
 obtain⟨e,Y⟩:∃e,e=av [G]:=⟨_,j⟩;have a9:g.off e:=Y▸aP;rw [<-Y] at am⊢;have d:C o e [G] o:=Y▸d;have ap:p.1.ok:=aa.kt p (h5 aE);obtain⟨c,cH,bP,a7,bu,ag,H1,q,GE,aB,az,aA,rfl,ah⟩:=aL.Gr aE;have d:C o e [bh g aQ c,cH,bP,ag,H1,dc aN aB p.2,GE,q,a7,bu] o:=d.perm (by simp);refine a2 func43 (bL 2 d j j (λf w d=>?_));have d:C o e [R f (c9 s a).toArray 33,bh g aQ c,cH,bP,ag,H1,dc aN aB p.2,GE,q,a7,bu] w:=d;have d:C o e ([R f (c9 s a).toArray 33,dc aN aB p.2]++_) _:=d.front;have d:=d.drew;refine bt 2 j (λw=>∃ad,C o e ([R f (c9 s a).toArray 33,dc aN aB p.2]++ad) w) ⟨_,d⟩ (af 0 3 j (a8 3 j a1 j (af 4 1 j (a8 5 j a1 j (af 6 1 j (a8 7 j a1 j (aO 8 12 j j ?_ ?_)))))));have J:=am.apart d;refine cO j j j (Ab (n:=s.n) (hd:=a.bQ) az ap.pk J.x (J.ot.sub (fI (by simp))) (d.ours (cC:=[GE]))) (λr w⟨u,I,F,hu,m,O,H⟩=>?_);subst F;obtain⟨l,t,rfl,aD,_⟩:=Row.form hu;have d:=d.b2 H;have d:C o e ([R f (c9 s a).toArray 33,dc aN aB p.2]++_) w:=d.front;refine an ⟨⟨_,d⟩,?_⟩;refine af 9 3 j (aR 12 j (ew d j j (λk w d=>?_)));have d:C o e (R k (rcc eW (.slice none 0 0)).toArray 182::_) w:=d;have d:C o e ([R f (c9 s a).toArray 33,dc aN aB p.2]++_) w:=d.front;refine an ⟨⟨_,d⟩,?_⟩;rotate_left
 refine ew d j j (λk w d=>?_);have d:C o e (R k (rcc eW (.slice none 0 0)).toArray 182::_) w:=d;have d:C o e ([R f (c9 s a).toArray 33,dc aN aB p.2]++_) w:=d.front;refine an ⟨⟨_,d⟩,?_⟩;refine aR 8 j ?_;have J:=am.apart d;refine cO j j j (Ab (n:=s.n) (hd:=a.bQ) az ap.pk J.x (J.ot.sub (fI (by simp))) (d.ours (cC:=[GE]))) (λr w⟨u,I,F,hu,m,O,H⟩=>?_);subst F;obtain⟨l,t,rfl,aD,_⟩:=Row.form hu;have d:=d.b2 H;have d:C o e ([R f (c9 s a).toArray 33,dc aN aB p.2]++_) w:=d.front;refine an ⟨⟨_,d⟩,?_⟩;refine af 9 3 j ?_;rotate_left
 all_goals
  refine aR 13 j (c2 (d.bc k) j j j j j bG (λw d=>?_));have d:=C.whole (U:=rcc (p.1.record s.n s.x).2.1 (.slice l (p.1.record s.n s.x).2.1.x.length t)) d j;have d:C o e ([(k,.cells (rcc (p.1.record s.n s.x).2.1 (.slice l (p.1.record s.n s.x).2.1.x.length t)).toArray 182 (0,0))]::_) w:=d;have d:C o e ([R f (c9 s a).toArray 33,dc aN aB p.2]++_) w:=d.front;refine an ⟨⟨_,d⟩,?_⟩;refine af 14 1 j (bK (bm 5 j j (λW=>?_) (λW=>?_)))
  .refine aq 4 j j ?_;have K:z.records s i p=(z.f0 i ((p.1.record s.n s.x).1,p.2),(p.1.record s.n s.x).2.2):=a6 (by simpa using W);rw [K];have d:C o e [bh g aQ c,cH,bP,ag,H1,dc aN aB p.2,m,q,a7,bu] _:=d.as;exact⟨j,_,ah ((p.1.record s.n s.x).1,p.2) m z.parts bP aA O,C.perm (A:=[bh g aQ c,cH,bP,ag,H1,dc aN aB p.2,m,q,a7,bu]) d (by simp)⟩
  obtain⟨h,aw,aG,rfl,ar,Z⟩:=aA;have d:C o e [R f (c9 s a).toArray 33,[(k,.cells (rcc (p.1.record s.n s.x).2.1 (.slice l (p.1.record s.n s.x).2.1.x.length t)).toArray 182 (0,0))],bh g aQ c,cH,h,aw,ag,H1,dc aN aB p.2,m,q,a7,bu,I] _:=C.perm (A:=[R f (c9 s a).toArray 33,[(k,.cells (rcc (p.1.record s.n s.x).2.1 (.slice l (p.1.record s.n s.x).2.1.x.length t)).toArray 182 (0,0))],bh g aQ c,cH,h++aw,ag,H1,dc aN aB p.2,m,q,a7,bu,I]) d.as (by simp);have d:C o e ([R f (c9 s a).toArray 33,bh g aQ c,h,[(k,.cells (rcc (p.1.record s.n s.x).2.1 (.slice l (p.1.record s.n s.x).2.1.x.length t)).toArray 182 (0,0))]]++_) _:=d.front;have d:=d.drew;have ak:(p.1.record s.n s.x).2.2=0:=by simpa using W
  refine bt 2 j (λw=>∃ad,C o e ([R f (c9 s a).toArray 33,bh g aQ c,h,[(k,.cells (rcc (p.1.record s.n s.x).2.1 (.slice l (p.1.record s.n s.x).2.1.x.length t)).toArray 182 (0,0))]]++ad) w) ⟨_,d⟩ (af 0 2 j (a8 2 j a1 j (aT 4 j (λw⟨_,d⟩=>c4 (U:=rcc (p.1.record s.n s.x).2.1 (.slice l (p.1.record s.n s.x).2.1.x.length t)) j j j (bn (C.aj (b:=k) d))) (aR 3 j ?_))));obtain⟨ao,a4⟩:=bH.G7 ap ak;have Q:s.n.toNat<z.parts.length:=by rw [aa.parts];omega
  obtain⟨v,D,T,E,aV,rfl,aJ,aF⟩:=Z.at s.n.toNat Q;obtain⟨bi,rfl,ax⟩:=aJ;obtain⟨b,P⟩:∃b,z.parts[s.n.toNat]=b:=⟨_,j⟩;rw [P] at ax;refine cO j j j (zR (V:=jv g) (i:=s.n) (C.aj (b:=aQ) d) ar (d.holds (G:=h) (by simp)) Z.len (ed.vY Z)) (λr w⟨F,hw⟩=>?_);rw [a6 ⟨ao,by omega⟩,iD,aV] at F;have F:r=ab bi:=F;subst F;have hw:=hw.symm;subst hw;refine an ⟨⟨_,d⟩,?_⟩;refine aR 5 j ?_;have d:C o e [R f (c9 s a).toArray 33,[(k,.cells (rcc (p.1.record s.n s.x).2.1 (.slice l (p.1.record s.n s.x).2.1.x.length t)).toArray 182 (0,0))],bh g aQ c,cH,h,D,T,E,ag,H1,dc aN aB p.2,m,q,a7,bu,I] _:=C.perm (A:=[R f (c9 s a).toArray 33,[(k,.cells (rcc (p.1.record s.n s.x).2.1 (.slice l (p.1.record s.n s.x).2.1.x.length t)).toArray 182 (0,0))],bh g aQ c,cH,h,D++(T++E),ag,H1,dc aN aB p.2,m,q,a7,bu,I]) d.as (by simp);have aC:=aa.jP b (by rw [<-P];exact d9 Q);obtain⟨_,_,aH,_,_,aS,aM⟩:=Row.rd hu (d.to I);cases aH;refine bB j j j (Cx (r:=(p.1.record s.n s.x).2.1) (B:=l) (aU:=t) ax (by have:=aC.ck;omega) (by have:=aC.c0;omega) aS (aM.sub (fI (by simp))) aD (d.ours (cC:=[T]))) (λw⟨y,ay,H⟩=>?_);have d:=d.b2 H;have d:C o e ([R f (c9 s a).toArray 33,bh g aQ c,h,[(k,.cells (rcc (p.1.record s.n s.x).2.1 (.slice l (p.1.record s.n s.x).2.1.x.length t)).toArray 182 (0,0))]]++_) w:=d.front;refine an ⟨⟨_,d⟩,?_⟩;refine af 6 4 j (bK (bm 5 j j (λX=>?_) (λX=>?_)))
  .have d:C o e ([R f (c9 s a).toArray 33,dc aN aB p.2]++_) _:=d.front;have d:=d.drew;refine bt 0 j (λw=>∃ad,C o e ([R f (c9 s a).toArray 33,dc aN aB p.2]++ad) w) ⟨_,d⟩ (af 0 3 j (a8 3 j a1 j (af 4 1 j (a8 5 j a1 j (dA 6 j (bB j j j (Cc (n:=s.n) O (d.ours (cC:=[m]))) (λw⟨S,aK,H⟩=>?_)))))));have d:=d.b2 H;refine an (cU (aq 4 j j ?_))
   have au:z.part s.n=some b:=by
    unfold aY.part;rw [a6 ao,cn Q,P]
   have K:z.records s i p=((z.f0 i (((p.1.record s.n s.x).1.jG s.n).1,p.2)).oh s.n {b with log:=(b.log.append (p.1.record s.n s.x).2.1).1},(b.log.append (p.1.record s.n s.x).2.1).2.2):=by
    unfold aY.records;rw [aI (by simpa using ak),au];dsimp only;rw [a6 (by simpa using X)]
   rw [K];have ac:=aF {b with log:=(b.log.append (p.1.record s.n s.x).2.1).1} y ⟨bi,j,ay⟩;have d:C o e [bh g aQ c,cH,h,D,y,E,ag,H1,dc aN aB p.2,S,q,a7,bu] _:=d.as;refine⟨j,_,ah (((p.1.record s.n s.x).1.jG s.n).1,p.2) S (z.parts.set s.n.toNat {b with log:=(b.log.append (p.1.record s.n s.x).2.1).1}) (h++(D++(y++E))) ⟨h,_,aG,j,by rw [List.length_set];exact ar,ac⟩ aK,C.perm (A:=[bh g aQ c,cH,h,D,y,E,ag,H1,dc aN aB p.2,S,q,a7,bu]) d (by simp)⟩
  refine aq 5 j j ?_
  have au:z.part s.n=some b:=by
   unfold aY.part;rw [a6 ao,cn Q,P]
  have K:z.records s i p=((z.f0 i ((p.1.record s.n s.x).1,p.2)).oh s.n {b with log:=(b.log.append (p.1.record s.n s.x).2.1).1},(b.log.append (p.1.record s.n s.x).2.1).2.2):=by
   unfold aY.records;rw [aI (by simpa using ak),au];dsimp only;rw [aI (by simpa using X)]
  rw [K];have ac:=aF {b with log:=(b.log.append (p.1.record s.n s.x).2.1).1} y ⟨bi,j,ay⟩;have d:C o e [bh g aQ c,cH,h,D,y,E,ag,H1,dc aN aB p.2,m,q,a7,bu] _:=d.as;refine⟨j,_,ah ((p.1.record s.n s.x).1,p.2) m (z.parts.set s.n.toNat {b with log:=(b.log.append (p.1.record s.n s.x).2.1).1}) (h++(D++(y++E))) ⟨h,_,aG,j,by rw [List.length_set];exact ar,ac⟩ O,C.perm (A:=[bh g aQ c,cH,h,D,y,E,ag,H1,dc aN aB p.2,m,q,a7,bu]) d (by simp)⟩
theorem eP.Dq{g:al}{aQ:Nat}{z:aY}{G:List Chunk}(h:eP g aQ z G)(q:0<z.cM.length):∃(c:ch)(a cap:Nat),c.cM= .slice (some ⟨a,0,none⟩) z.cM.length cap/\z.cM.length<=cap/\cap<=maxLen/\(∀w,Holds w G->w.heap[aQ]? =some (.cells (l8 g c).toArray 74 (0,0)))/\
 ∀(i:Nat)(p:bH×Int),z.cM[i]? =some p->∃aN,lE g aQ z i aN G/\∀w,Holds w G->w.cell? ⟨a,0+i*1,none⟩=some (ab aN):=by
 obtain⟨c,cH,bP,dx,a7,bu,l,rfl⟩:=h;have y:=l;obtain⟨ag,H,U,rfl,m,d⟩:=l.cM;have n:=m;obtain⟨a,cap,cur,k,rfl,r,s,_⟩:=Row.block m q;refine⟨c,a,cap,k,r,s,λw b=>b.left.head,λi p u=>?_⟩;have x:i<z.cM.length:=(fk.1 u).1;obtain⟨v,_,B,_,o,C,t,_⟩:=d.at i x;obtain⟨aN,_,_,rfl,_⟩:=t;refine⟨aN,⟨c,cH,bP,a7,bu,_,H,U,y,n,d,o,j⟩,λw b=>?_⟩;obtain⟨_,_,e,_,_,A,_⟩:=Row.read n b.right.right.right.left.left;rw [k] at e;cases e;have f:=A.cell o;rw [add_lit] at f;rw [gG];exact f
theorem sS{o:World}{g:al}{aQ:Nat}{z:aY}{G:List Chunk}{s:fb}{a:hO}(W:eP g aQ z G)(au:h2 s a (av [G]) o){N M L:Nat}(aa:z.df g (λ_=>N) M L)(J:773<=N)(K:N+150<=1000000)(ao:M+10000<=1000000)(H:L+4200000<=1000000000)(x:g.at o)(P:g.ok)(Z:g.off (av [G]))(d:Own [G] o):Calls prog 20 #[ab aQ,.agg (c9 s a).toArray] o λr w=>r=ae (z.gP g s).2/\∃ai,eP g aQ (z.gP g s).1 ai/\C o (av [G]) [ai] w:=by
 obtain⟨h,F⟩:∃h,h=av [G]:=⟨_,j⟩;have y:g.off h:=F▸Z;have aw:h2 s a h o:=F▸au;rw [<-F];have d:C o h [G] o:=F▸d;obtain⟨c,aC,cap,ah,aE,aF,am,ap⟩:=W.Dq (by rw [aa.cM];decide);have aD:=aa.cM;refine a2 func20 (bL 2 d j j (λf w d=>?_));have d:C o h [R f (c9 s a).toArray 33,G] w:=d;have d:C o h ([R f (c9 s a).toArray 33,G]++_) _:=d.front;have d:=d.drew;refine bt 3 j (λw=>∃ad,C o h ([R f (c9 s a).toArray 33,G]++ad) w) ⟨_,d⟩ (af 0 1 j (a8 1 j a1 j (af 2 2 j (ef 9 j (λk=>?_) (λk=>?_)))))
 .refine af 4 9 j (bK (aq 4 j j ?_))
  have m:z.gP g s=(z,1):=by
   unfold aY.gP;have e:(if 0<=s.node then z.cM[s.node.toNat]? else none)=none:=aI (by have:=dz k;omega);rw [e]
  rw [m];exact⟨j,G,W,d.as⟩
 refine af 4 1 j (a8 5 j a1 j (af 6 3 j (bR 9 j (λw⟨_,d⟩=>ax (am _ (d.holds (G:=G) (by simp))) (aG some ah)) (af 10 3 j (bK (b8 0 j j (λac=>?_) (λac=>?_)))))))
 .refine aq 3 j j ?_
  have m:z.gP g s=(z,1):=by
   unfold aY.gP;have e:(if 0<=s.node then z.cM[s.node.toNat]? else none)=none:=(a6 (by have:=dM k;omega)).trans (lH (by have:=ac;have:=dM k;omega));rw [e]
  rw [m];exact⟨j,G,W,d.as⟩
 obtain⟨i,ay⟩:∃i:Nat,s.node=i:=⟨s.node.toNat,by have:=dM k;omega⟩;have ak:i<z.cM.length:=by omega
 obtain⟨p,v⟩:∃p,z.cM[i]? =some p:=⟨_,cn ak⟩;have B:p.1.ok:=aa.kt p (h5 v);obtain⟨aN,O,az⟩:=ap i p v;have Q:(if 0<=s.node then z.cM[s.node.toNat]? else none)=some p:=by rw [a6 (by omega),show s.node.toNat=i by omega,v]
 have d:C o h ([R f (c9 s a).toArray 33,G]++_) _:=d.front;have d:=d.drew;refine bt 2 j (λw=>∃ad,C o h ([R f (c9 s a).toArray 33,G]++ad) w) ⟨_,d⟩ (af 0 3 j (bR 3 j (λw⟨_,d⟩=>ax (am _ (d.holds (G:=G) (by simp))) (aG some ah)) (af 4 1 j (a8 5 j a1 j (iY 24 (.int .i64 (i:Nat)) j (aG (Value.int .i64) ay) (aT 6 j (λw _=>gA j j ak) (bR 7 j (λw⟨_,d⟩=>az _ (d.holds (G:=G) (by simp))) (af 8 1 j (bK (ar 4 j (ax (C.aj (b:=f) d) j) (bm 5 j j (λD=>?_) (λD=>?_))))))))))))
 .refine bp 4 (EP O v aa J K H (x.st d y) P Z (d.ours (cC:=[G]))) j (λw⟨ai,u,l⟩=>?_);have d:=d.b2 l;refine aq 1 j j ?_
  have m:z.gP g s=z.inits g i p:=by
   unfold aY.gP;rw [Q];dsimp only;rw [a6 (by simpa using D),show s.node.toNat=i by omega]
  rw [m];exact⟨j,ai,u,d.as⟩
 refine bm 4 j j (λE=>?_) (λE=>?_)
 .obtain⟨k,cH,bP,a7,bu,ag,H1,q,GE,aB,T,rfl,Y⟩:=O.open v;have d:C o h [R f (c9 s a).toArray 33,bh g aQ k,cH,bP,ag,H1,dc aN aB p.2,GE,q,a7,bu] _:=C.perm (A:=[R f (c9 s a).toArray 33,bh g aQ k++(cH++(bP++((ag++(H1++((dc aN aB p.2++GE)++q)))++(a7++bu))))]) d.as (by simp);have d:C o h ([R f (c9 s a).toArray 33,dc aN aB p.2]++_) _:=d.front;have d:=d.drew;refine bt 1 j (λw=>∃ad,C o h ([R f (c9 s a).toArray 33,dc aN aB p.2]++ad) w) ⟨_,d⟩ (af 0 4 j (a8 4 j a1 j (af 5 1 j (a8 6 j a1 j (aR 7 j (bB j j j (CV (n:=s.n) T B.next B.last (d.ours (cC:=[GE]))) (λw⟨t,V,l⟩=>?_)))))));have d:=d.b2 l;have d:C o h ([R f (c9 s a).toArray 33,dc aN aB p.2]++_) _:=d.front;refine an ⟨⟨_,d⟩,?_⟩;refine af 8 2 j (dA 10 j ?_)
  obtain⟨aA,X,d⟩:∃aA,eP g aQ (z.f0 i ((p.1.gI s.n).1,p.2)) aA/\C o h [aA,R f (c9 s a).toArray 33] _:=by
   have d:C o h [bh g aQ k,cH,bP,ag,H1,dc aN aB p.2,t,q,a7,bu,R f (c9 s a).toArray 33] _:=d.as;exact⟨_,(Y ((p.1.gI s.n).1,p.2) t V).rep,C.perm (A:=[bh g aQ k,cH,bP,ag,H1,dc aN aB p.2,t,q,a7,bu,R f (c9 s a).toArray 33]) d (by simp)⟩
  refine bB j j j (r4 (I:=(p.1.gI s.n).2.1) X (aa.f0 (B.gI _)) J K H (x.st d y) P (d.eF x y) (d.ours (cC:=[aA]))) (λw⟨ai,u,l⟩=>?_);have d:=d.b2 l;refine an (j7 11 j (wF j j j (an (cU (aq 0 j j ?_)))))
  have m:z.gP g s=(z.f0 i ((p.1.gI s.n).1,p.2)).asks g (p.1.gI s.n).2.1 (p.1.gI s.n).2.2:=by
   unfold aY.gP;rw [Q];dsimp only;rw [aI (by simpa using D)];rw [a6 (by simpa using E),show s.node.toNat=i by omega]
  rw [m];exact⟨j,ai,u,d.as⟩
 refine bm 4 j j (λS=>?_) (λS=>?_)
 .refine bM 3 (U:=c9 s a) j j j (bn (C.aj (b:=f) d)) (bp 1 (G8 (s:=s) (a:=a) O v ((aw.apart d).sub (fI (by simp))) aa J K ao H (x.st d y) P Z (d.ours (cC:=[G]))) j (λw⟨ai,u,l⟩=>?_));have d:=d.b2 l;refine aq 1 j j ?_
  have m:z.gP g s=z.records s i p:=by
   unfold aY.gP;rw [Q];dsimp only;rw [aI (by simpa using D)];rw [aI (by simpa using E)];rw [a6 (by simpa using S),show s.node.toNat=i by omega]
  rw [m];exact⟨j,ai,u,d.as⟩
 obtain⟨k,cH,bP,a7,bu,ag,H1,q,GE,aB,T,rfl,Y⟩:=O.open v;have d:C o h [R f (c9 s a).toArray 33,bh g aQ k,cH,bP,ag,H1,dc aN aB p.2,GE,q,a7,bu] _:=C.perm (A:=[R f (c9 s a).toArray 33,bh g aQ k++(cH++(bP++((ag++(H1++((dc aN aB p.2++GE)++q)))++(a7++bu))))]) d.as (by simp);have d:C o h ([R f (c9 s a).toArray 33,dc aN aB p.2]++_) _:=d.front;have d:=d.drew;refine bt 2 j (λw=>∃ad,C o h ([R f (c9 s a).toArray 33,dc aN aB p.2]++ad) w) ⟨_,d⟩ (af 0 4 j (a8 4 j a1 j (af 5 1 j (a8 6 j a1 j (af 7 1 j (aR 8 j (bB j j j (D1 (dT:=(s.n !=0)) T B.next (by have:=aG List.length B.keys;rw [ff] at this;rw [this];decide) (d.ours (cC:=[GE]))) (λw⟨t,V,l⟩=>?_))))))));have d:=d.b2 l;have d:C o h ([R f (c9 s a).toArray 33,dc aN aB p.2]++_) _:=d.front;refine an ⟨⟨_,d⟩,?_⟩;refine af 9 2 j (dA 11 j ?_)
 obtain⟨aA,X,d⟩:∃aA,eP g aQ (z.f0 i ((p.1.end_ (s.n !=0)).1,p.2)) aA/\C o h [aA,R f (c9 s a).toArray 33] _:=by
  have d:C o h [bh g aQ k,cH,bP,ag,H1,dc aN aB p.2,t,q,a7,bu,R f (c9 s a).toArray 33] _:=d.as;exact⟨_,(Y ((p.1.end_ (s.n !=0)).1,p.2) t V).rep,C.perm (A:=[bh g aQ k,cH,bP,ag,H1,dc aN aB p.2,t,q,a7,bu,R f (c9 s a).toArray 33]) d (by simp)⟩
 refine bB j j j (r4 (I:=(p.1.end_ (s.n !=0)).2.1) X (aa.f0 (B.end_ _)) J K H (x.st d y) P (d.eF x y) (d.ours (cC:=[aA]))) (λw⟨ai,u,l⟩=>?_);have d:=d.b2 l;refine an (j7 12 j (wF j j j (an (cU (aq 0 j j ?_)))))
 have m:z.gP g s=(z.f0 i ((p.1.end_ (s.n !=0)).1,p.2)).asks g (p.1.end_ (s.n !=0)).2.1 (p.1.end_ (s.n !=0)).2.2:=by
  unfold aY.gP;rw [Q];dsimp only;rw [aI (by simpa using D)];rw [aI (by simpa using E)];rw [aI (by simpa using S)];rw [show s.node.toNat=i by omega]
 rw [m];exact⟨j,ai,u,d.as⟩
def md(g:al)(p:Option Addr)(I:Option bo)(G:List Chunk):Prop:=(p=none/\I=none/\G=[])\/∃x a,p=some ⟨a,0,none⟩/\I=some x/\hP g a x G
def jR(g:al)(I:Option bo)(m:aW):Option bo×List aW:=match I with
 |none=>(none,[])
 |some x=>(some (x.take g m).1,(x.take g m).2)
def aY.q4(z:aY)(i:Int)(I:Option bo):aY:=match I with
 |none=>z
 |some x=>z.mI i x
theorem aY.GU(z:aY):z.g6 []=z:=by
 unfold aY.g6;simp
theorem aY.Er(g:al)(z:aY)(m:aW):z.kK g m=(z.q4 m.to (jR g (z.rep m.to) m).1).g6 (jR g (z.rep m.to) m).2:=by
 unfold aY.kK;cases h:z.rep m.to with
 |none=>exact(aY.GU z).symm
 |some x=>rfl
theorem eP.sJ{g:al}{aQ:Nat}{z:aY}{G:List Chunk}(h:eP g aQ z G)(i:Int):∃(c:ch)(p:Option Addr)(ag H1 o r bP dx a7 bu:List Chunk)(U:List Value),md g p (z.rep i) o/\Row 47 1 c.bO z.bO.length U ag/\U.length=z.bO.length/\(∀v∈U,∃q,v= .pointer q)/\(if 0<=i/\i<(z.bO.length:Int) then U.getD i.toNat (.pointer none) else .pointer none)= .pointer p/\gS c.bx z.bx z.lost a7/\cw c.heard z.heard bu/\
 G=bh g aQ c++((ag++(H1++(o++r)))++(bP++(dx++(a7++bu))))/\
 ∀(I:Option bo)(k:List Chunk)(bx:List aW)(lost:Nat)(heard:List aW)(m:Value)(d f:List Chunk),md g p I k->gS c.bx bx lost d->cw m heard f->
  eP g aQ {z.q4 i I with bx:=bx,lost:=lost,heard:=heard} (bh g aQ {c with heard:=m}++((ag++(H1++(k++r)))++(bP++(dx++(d++f))))):=by
 obtain⟨c,cH,bP,dx,a7,bu,a,rfl⟩:=h;obtain⟨ag,H,U,rfl,s,l⟩:=a.bO;have C:=l.len
 have M:z.rep i=none->(if 0<=i/\i<(z.bO.length:Int) then U.getD i.toNat (.pointer none) else .pointer none)= .pointer none:=λaJ=>by
  split
  .rename_i O;have n:i.toNat<z.bO.length:=by omega
   obtain⟨v,_,_,_,y,_,b,_⟩:=l.at i.toNat n;unfold aY.rep at aJ;rw [a6 O.1,cn n] at aJ;have aJ:z.bO[i.toNat]=none:=aJ;rw [aJ] at b;rw [iD,y,b.1];rfl
  .rfl
 cases D:z.rep i with
 |none=>
  refine⟨c,none,ag,H,[],[],bP,dx,a7,bu,U,.inl ⟨j,j,j⟩,s,C,l.qX,M D,a.bx,a.heard,by simp,λI k bx lost heard m d f b u w=>?_⟩
  obtain⟨_,rfl,rfl⟩:(none:Option Addr)=none/\I=none/\k=[]:=by
   rcases b with h|⟨_,_,h,_⟩
   .exact h
   .cases h
  have e:H++([]++[])=H:=by simp
  rw [e];exact⟨{c with heard:=m},_,bP,dx,d,f,⟨⟨ag,H,U,j,s,l⟩,a.parts,a.cM,u,w⟩,j⟩
 |some x=>
  obtain⟨E,A⟩:=aY.oe D;have n:i.toNat<z.bO.length:=(fk.1 A).1;obtain⟨v,H1,o,r,y,rfl,b,N⟩:=l.at i.toNat n;have P:z.bO[i.toNat]=some x:=by rw [cn n] at A;exact hB A
  rw [P] at b;obtain⟨B,rfl,K⟩:=b;refine⟨c,some ⟨B,0,none⟩,ag,H1,o,r,bP,dx,a7,bu,U,.inr ⟨x,B,j,j,K⟩,s,C,l.qX,?_,a.bx,a.heard,j,λI k bx lost heard m d f J u w=>?_⟩
  .rw [a6 ⟨E,by omega⟩,iD,y];rfl
  .rcases J with⟨t,_⟩|⟨e9,Q,t,rfl,L⟩
   .cases t
   .cases t;have F:=N (some e9) k ⟨B,j,L⟩;exact⟨{c with heard:=m},_,bP,dx,d,f,⟨⟨ag,_,U,j,by show Row 47 1 c.bO (z.bO.set i.toNat (some e9)).length U ag;rw [hp];exact s,F⟩,a.parts,a.cM,u,w⟩,j⟩
theorem md.isSome{g:al}{p:Option Addr}{I:Option bo}{G:List Chunk}(h:md g p I G):p.isSome=I.isSome:=by
 rcases h with⟨rfl,rfl,_⟩|⟨x,a,rfl,rfl,_⟩<;>rfl
theorem H4{o:World}{m:aC}(c:m.tag.length=32):Calls prog 50 #[.pointer none,.agg m.cs.toArray] o λr w=>r= .slice none 0 0/\C o [] [] w:=by
 have a:Own [] o:=C.start o;refine a2 func50 ?_;refine bL 2 a j j (λb w a=>?_);refine aq 10 j j ?_;exact⟨j,a.bare⟩
theorem H5{o:World}{g:al}{p:Option Addr}{I:Option bo}{G:List Chunk}{m:aC}(hm:m.ok o)(n:m.la (av [G]))(t:m.P.cQ)(u:m.s<=1000000)(k:md g p I G){N:Nat}(z:∀x,I=some x->x.ok g N)(f:773<=N)(h:N+50<=1000000)(q:g.at o)(v:g.ok)(y:g.off (av [G]))(c:Own [G] o):
 Calls prog 50 #[.pointer p,.agg m.cs.toArray] o λr w=>∃a ai,cw r (jR g I m.P).2 a/\md g p (jR g I m.P).1 ai/\C o (av [G]) [ai,a] w:=by
 rcases k with⟨rfl,rfl,rfl⟩|⟨x,B,rfl,rfl,l⟩
 .refine Calls.mono (H4 hm.tag) (λr w⟨A,aa⟩=>?_);subst A;have i:=c.aL aa;exact⟨[],[],cw.nil,.inl ⟨j,j,j⟩,by have b:C o (av [[]]) [[],[]] w:=(C.empty i).as;exact b⟩
 .exact Calls.mono (H8 hm n t u l (z x j) f h q v y c) (λr w⟨a,ai,d,e,b⟩=>⟨a,ai,d,.inr ⟨_,B,j,j,e⟩,b⟩)
theorem o8{o:World}{g:al}{aQ:Nat}{z:aY}{G:List Chunk}{i:Int}(d:eP g aQ z G)(a:Holds o G):Calls prog 13 #[ab aQ,ae i] o λr w=>r= .bool (z.rep i).isSome/\w=o:=by
 obtain⟨c,p,ag,H1,m,n,bP,dx,a7,bu,U,e,h,l,f,k,_,_,rfl,_⟩:=d.sJ i;refine a2 func13 (bk 7 (v6 (V:=h4 g) (xs:=z.bO) (c:=c) (U:=U) (i:=i) a.left.head h a.right.left.left l f) j (λr w⟨b,hw⟩=>?_));rw [k] at b;subst b;have hw:=hw.symm;subst hw;exact aq 2 j j ⟨aG Value.bool e.isSome,j⟩
theorem Is{o:World}{g:al}{aQ:Nat}{z:aY}{G:List Chunk}{s:fb}{a:hO}(D:eP g aQ z G){N M L:Nat}(aa:z.df g (λ_=>N) M L)(K:773<=N)(aP:N+150<=1000000)(aO:M+10000<=1000000)(aN:L+4200000<=1000000000)(S:g.at o)(V:g.ok)(aI:g.off (av [G]))(d:Own [G] o):Calls prog 23 #[ab aQ,.agg (c9 s a).toArray] o λr w=>r=ae (z.f9 g s).2/\∃ai,eP g aQ (z.f9 g s).1 ai/\C o (av [G]) [ai] w:=by
 obtain⟨f,B⟩:∃f,f=av [G]:=⟨_,j⟩;have W:g.off f:=B▸aI;rw [<-B];have d:C o f [G] o:=B▸d;refine a2 func23 (bL 2 d j j (λm w d=>?_));have d:C o f [R m (c9 s a).toArray 33,G] w:=d;refine ar 6 j (ax (C.aj (b:=m) d) j) (bp 0 (o8 (i:=s.node) D (d.holds (G:=G) (by simp))) j (λw hw=>?_));have hw:=hw.symm;subst hw;refine bm 1 j j (λt=>?_) (λt=>?_)
 .refine aq 3 j j ?_
  have I:z.f9 g s=(z,1):=by
   unfold aY.f9;cases aK:z.rep s.node with
   |none=>rfl
   |some x=>rw [aK] at t;cases t
  rw [I];exact⟨j,G,D,d.as⟩
 obtain⟨x,F⟩:∃x,z.rep s.node=some x:=ha.1 (by simpa using t);obtain⟨ak,H⟩:=aY.oe F;have T:s.node.toNat<z.bO.length:=(fk.1 H).1;obtain⟨c,p,ag,H1,n,q,bP,dx,a7,bu,U,O,X,aU,aS,Y,au,az,rfl,aE⟩:=D.sJ s.node;rw [F] at O
 obtain⟨l,rfl,aB⟩:∃l,p=some ⟨l,0,none⟩/\hP g l x n:=by
  rcases O with⟨_,h,_⟩|⟨aX,l,am,ao,ap⟩
  .cases h
  .cases ao;exact⟨l,am,ap⟩
 obtain⟨k,cap,cur,Q,rfl,_⟩:=Row.block X (by omega)
 have Z:U[s.node.toNat]? =some (ab l):=by
  rw [a6 ⟨ak,by omega⟩,iD,cn (by omega)] at Y;rw [cn (by omega)];exact aG some Y
 obtain⟨i,aF⟩:∃i:Nat,s.node=i:=⟨s.node.toNat,by omega⟩;have aH:s.node.toNat=i:=by omega
 rw [aH] at Z T H;obtain⟨ac,aV⟩:=aa.iA i x H
 have aJ:∀w,Holds w (R k cur 47)->w.cell? ⟨k,0+i*1,none⟩=some (ab l):=λw ay=>by
  obtain⟨_,_,e,_,_,aL,_⟩:=Row.read X ay;rw [Q] at e;cases e;have P:=aL.cell Z;rw [add_lit] at P;rw [gG];exact P
 have d:C o f [R m (c9 s a).toArray 33,bh g aQ c,R k cur 47,H1,n,q,bP,dx,a7,bu] _:=C.perm (A:=[R m (c9 s a).toArray 33,bh g aQ c++((R k cur 47++(H1++(n++q)))++(bP++(dx++(a7++bu))))]) d.as (by simp);have d:C o f ([R m (c9 s a).toArray 33,bh g aQ c,R k cur 47]++_) _:=d.front;have d:=d.drew;refine bt 2 j (λw=>∃ad,C o f ([R m (c9 s a).toArray 33,bh g aQ c,R k cur 47]++ad) w) ⟨_,d⟩ (af 0 4 j (a8 4 j a1 (aG some Q) (af 5 1 j (a8 6 j a1 j (iY 16 (.int .i64 (i:Nat)) j (aG (Value.int .i64) aF) (aT 7 j (λw _=>gA j j T) (bR 8 j (λw⟨_,d⟩=>aJ _ (d.holds (G:=R k cur 47) (by simp))) (aR 9 j (cO j j j (Im aB ac K (by omega) (S.st d W) V (d.eF S W) (d.ours (cC:=[n]))) (λaW w⟨ah,y,aM,aC,E⟩=>?_))))))))));have d:=d.b2 E;have d:C o f ([R m (c9 s a).toArray 33,bh g aQ c,R k cur 47]++_) _:=d.front;refine an ⟨⟨_,d⟩,?_⟩;refine dA 10 j ?_;have aD:=sW (g:=g) (aQ:=aQ) (c:=c) au az aM (by have:=aa.lost;omega) (by have:=(bo.ti V ac K).2;omega) aa.heard (d.ours (cC:=[bh g aQ c,a7,bu,ah]));refine bB j j j aD (λw⟨J,u,v,aw,aA,E⟩=>?_);have d:=d.b2 E;refine an (cU (aq 3 j j ?_))
 have I:z.f9 g s=((z.mI s.node (x.tick g).1).g6 (x.tick g).2,0):=by
  unfold aY.f9;rw [F]
 rw [I];have d:C o f [bh g aQ {c with heard:=J},R k cur 47,H1,y,q,bP,dx,u,v] _:=d.as;exact⟨j,_,aE (some (x.tick g).1) y _ _ _ J u v (.inr ⟨_,l,j,j,aC⟩) aw aA,C.perm (A:=[bh g aQ {c with heard:=J},R k cur 47,H1,y,q,bP,dx,u,v]) d (by simp)⟩
theorem vv{o:World}{g:al}{aQ:Nat}{z:aY}{G:List Chunk}{s:fb}{a:hO}(aD:eP g aQ z G){N M L:Nat}(aa:z.df g (λ_=>N) M L)(aC:773<=N)(bG:N+150<=1000000)(bF:M+10000<=1000000)(bE:L+4200000<=1000000000)(aH:g.at o)(aL:g.ok)(bd:g.off (av [G]))(d:Own [G] o):Calls prog 22 #[ab aQ,.agg (c9 s a).toArray] o λr w=>r=ae (z.hg g s).2/\∃ai,eP g aQ (z.hg g s).1 ai/\C o (av [G]) [ai] w:=by
 have a0:=aD;obtain⟨f,aA⟩:∃f,f=av [G]:=⟨_,j⟩;have aM:g.off f:=aA▸bd;rw [<-aA];have d:C o f [G] o:=aA▸d;obtain⟨c,cH,bP,dx,a7,bu,p,rfl⟩:=aD;have d:=d.zI;have bH:=aa.bx;refine a2 func22 (bL 2 d j j (λt w d=>?_));have d:C o f [R t (c9 s a).toArray 33,bh g aQ c,cH,bP,dx,a7,bu] w:=d;refine ar 7 j (ax (C.aj (b:=aQ) d) j) (bp 0 (xk p.bx (d.holds (G:=a7) (by simp))) j (λbD B=>?_));have B:=B.symm;subst B;refine bm 1 j j (λay=>?_) (λay=>?_)
 .refine aq 3 j j ?_
  have q:z.hg g s=(z,4):=by
   unfold aY.hg;have K:z.bx=[]:=mf (by have:=d5.1 ay;omega);rw [K];rfl
  rw [q];have d:C o f [bh g aQ c,cH,bP,dx,a7,bu] _:=d.as;exact⟨j,_,a0,d.sr⟩
 have d:C o f ([R t (c9 s a).toArray 33,bh g aQ c,a7]++_) _:=d.front;have d:=d.drew;refine bt 2 j (λw=>∃ad,C o f ([R t (c9 s a).toArray 33,bh g aQ c,a7]++ad) w) ⟨_,d⟩ (af 0 1 j (a8 1 j a1 j (aT 2 j (λw _=>wx j) (af 3 3 j (a8 6 j a1 j (aR 7 j (bB j j j (xk p.bx (d.holds (G:=a7) (by simp))) (λbD B=>?_))))))));have B:=B.symm;subst B;refine an ⟨⟨_,d⟩,?_⟩;have aF:0<z.bx.length:=by have K:((z.bx.length:Int)==0)=false:=ay;rw [fw] at K;omega
 refine iY 16 (.int .i64 ((max s.n 0).toNat:Nat)) j (aG (Value.int .i64) (by omega)) (aT 8 j (λw _=>pH j j aF) (af 9 1 j (bK ?_)));obtain⟨e,v⟩:∃e:Nat,(max s.n 0).toNat%z.bx.length=e:=⟨_,j⟩;have E:e<z.bx.length:=by rw [<-v];exact jF _ aF
 refine am 3 j (bS 5 (.int .i64 (e:Nat)) j (aG (Value.int .i64) (by rw [v])) ?_);refine ar 1 j (ax (C.aj (b:=t) d) j) (bm 1 j j (λI=>?_) (λI=>?_))
 .refine ar 6 j (ax (C.aj (b:=aQ) d) j) (bp 1 (CS p.bx (d.ours (cC:=[a7])) E) j (λw⟨D,O,y⟩=>?_));have d:=d.b2 y;refine bm 1 j j (λJ=>?_) (λJ=>?_);refine aq 3 j j ?_;have F:z.bx[(max s.n 0).toNat%z.bx.length]? =some z.bx[e]:=by rw [v];exact cn E
  have q:z.hg g s=(z,3):=by
   unfold aY.hg;rw [F];dsimp only;rw [a6 (by simpa using I),if_neg (by simpa using J)]
  rw [q];rw [aI (by simpa using J)] at O;rotate_left
  refine aq 4 j j ?_;have F:z.bx[(max s.n 0).toNat%z.bx.length]? =some z.bx[e]:=by rw [v];exact cn E
  have q:z.hg g s=({z with bx:=z.bx++[z.bx[e]]},0):=by
   unfold aY.hg;rw [F];dsimp only;rw [a6 (by simpa using I),if_pos (by simpa using J)]
  rw [q];rw [a6 (by simpa using J)] at O;rotate_left
  all_goals
   have d:C o f [bh g aQ c,cH,bP,dx,D,bu] _:=d.as;exact⟨j,_,⟨c,cH,bP,dx,D,bu,⟨p.bO,p.parts,p.cM,O,p.heard⟩,j⟩,d.sr⟩
 refine ar 6 j (ax (C.aj (b:=aQ) d) j) (bk 1 (CQ p.bx (d.ours (cC:=[a7])) E) j (λr w⟨m,aw,D,Y,aJ,aK,O,y⟩=>?_));subst Y;have d:=d.b2 y;have X:m.tag.length=32:=by obtain⟨_,_,_,_,h,_⟩:=aK;exact h
 have W:m.P.j3:=by rw [aJ];exact aa.lO _ (d9 E)
 have F:z.bx[(max s.n 0).toNat%z.bx.length]? =some m.P:=by rw [aJ,v];exact cn E
 refine b7 3 d j (λk w d=>?_);have d:C o f (bf k dP::_) w:=d;refine b6 0 (d.bc k) j j j (by simpa using(m).one) (by rw [List.size_toArray];exact(m).bU X) (λw d=>?_);have d:=C.whole (U:=(m).cs) d (by rw [(m).bU X];rfl);have d:C o f (bf k (m)::_) w:=d
 obtain⟨GE,aE,d⟩:∃GE,eP g aQ ({z with bx:=z.bx.eraseIdx e}) GE/\C o f [bf k m,R t (c9 s a).toArray 33,GE,aw] w:=by
  have d:C o f [bf k m,R t (c9 s a).toArray 33,bh g aQ c,cH,bP,dx,D,bu,aw] w:=d.as;exact⟨_,⟨c,cH,bP,dx,D,bu,⟨p.bO,p.parts,p.cM,O,p.heard⟩,j⟩,C.perm (A:=[bf k m,R t (c9 s a).toArray 33,bh g aQ c,cH,bP,dx,D,bu,aw]) d (by simp)⟩
 refine ar 5 j (ax (C.aj (b:=t) d) j) (bm 1 j j (λaz=>?_) (λaz=>?_))
 .obtain⟨u,bC,H,H1,ak,T,S,Q,ac,ah,aO,a3,bj,bs,be,br,aW,aZ,rfl,ba⟩:=aE.sJ m.P.to;obtain⟨ap,au,rfl,aN,_,bw,bI⟩:=aK;have d:C o f [bf k m,bh g aQ u,H,H1,ak,T,S,Q,ac,ah,ap,au] _:=C.perm (A:=[bf k m,bh g aQ u++((H++(H1++(ak++T)))++(S++(Q++(ac++ah)))),ap++au]) d.as (by simp);have d:C o f ([bf k m]++_) _:=d.front;have d:=d.drew;refine bt 0 j (λw=>∃ad,C o f ([bf k m]++ad) w) ⟨_,d⟩ (af 0 3 j (a8 3 j a1 m.dp (aT 5 j (λw⟨_,d⟩=>c4 (U:=m.cs) j j (m.bU X) (bn (C.aj (b:=k) d))) (aR 4 j (cO j j j (v6 (V:=h4 g) (xs:=({z with bx:=z.bx.eraseIdx e}:aY).bO) (c:=u) (U:=aO) (i:=m.to) (C.aj (b:=aQ) d) bj (d.holds (G:=H) (by simp)) bs be) (λr w⟨Y,hw⟩=>?_))))));rw [show(if 0<=m.to/\m.to<(({z with bx:=z.bx.eraseIdx e}:aY).bO.length:Int) then aO.getD m.to.toNat (.pointer none) else .pointer none)= .pointer bC from br] at Y;subst Y;have hw:=hw.symm;subst hw;refine an ⟨⟨_,d⟩,?_⟩;refine aR 6 j ?_;obtain⟨_,_,aS,_,_,bl,a9⟩:=Row.rd aN.x (d.to ap);cases aS;obtain⟨_,_,aU,_,_,bi,a5⟩:=Row.rd aN.l (d.to au);cases aU;have bb:m.ok _:=⟨bl,bi,bw,X⟩;refine cO j j j (H5 (m:=m) bb ⟨a9.sub (fI (by simp)),a5.sub (fI (by simp))⟩ W.1 (by have:=W.2;show m.s<=1000000;have K:m.s<=63:=W.2;omega) a3 (λx bz=>(aa.iA _ x (aY.oe bz).2).1) aC (by omega) (aH.st d aM) aL (d.eF aH aM) (d.ours (cC:=[ak]))) (λbJ w⟨aP,ao,bv,a4,y⟩=>?_);have d:=d.b2 y;have d:C o f ([bf k m]++_) _:=d.front;refine an ⟨⟨_,d⟩,?_⟩;refine dA 7 j ?_
  have bq:(jR g (({z with bx:=z.bx.eraseIdx e}:aY).rep m.P.to) m.P).2.length<=1000000:=by
   unfold jR;cases bg:(({z with bx:=z.bx.eraseIdx e}:aY).rep m.P.to) with
   |none=>exact b4 _
   |some x=>
    have K:=(bo.th aL (aa.iA _ x (aY.oe bg).2).1 aC W.1).2;show(x.take g m.P).2.length<=_;omega
  refine bB j j j (sW (g:=g) (aQ:=aQ) (c:=u) aW aZ bv (by have:=aa.lost;show z.lost<=_;omega) bq aa.heard (d.ours (cC:=[bh g aQ u,ac,ah,aP]))) (λw⟨aB,Z,ag,aV,aX,y⟩=>?_);have d:=d.b2 y;refine an (cU (aq 3 j j ?_))
  have q:z.hg g s=(aY.kK g ({z with bx:=z.bx.eraseIdx e}) m.P,0):=by
   unfold aY.hg;rw [F];dsimp only;rw [aI (by simpa using I),if_pos (by simpa using az),v]
  rw [q];rw [aY.Er];have d:C o f [bh g aQ {u with heard:=aB},H,H1,ao,T,S,Q,Z,ag] _:=d.as
  have bA:(({z with bx:=z.bx.eraseIdx e}:aY).q4 m.P.to (jR g (({z with bx:=z.bx.eraseIdx e}:aY).rep m.P.to) m.P).1).g6 (jR g (({z with bx:=z.bx.eraseIdx e}:aY).rep m.P.to) m.P).2={({z with bx:=z.bx.eraseIdx e}:aY).q4 m.P.to (jR g (({z with bx:=z.bx.eraseIdx e}:aY).rep m.P.to) m.P).1 with bx:=z.bx.eraseIdx e++(jR g (({z with bx:=z.bx.eraseIdx e}:aY).rep m.P.to) m.P).2.take (512-(z.bx.eraseIdx e).length),lost:=z.lost+((jR g (({z with bx:=z.bx.eraseIdx e}:aY).rep m.P.to) m.P).2.length-(512-(z.bx.eraseIdx e).length)),heard:=z.heard++(jR g (({z with bx:=z.bx.eraseIdx e}:aY).rep m.P.to) m.P).2.take (min (min (jR g (({z with bx:=z.bx.eraseIdx e}:aY).rep m.P.to) m.P).2.length (512-(z.bx.eraseIdx e).length)) (1000-z.heard.length))}:=by
   unfold aY.g6 aY.q4;cases(jR g (({z with bx:=z.bx.eraseIdx e}:aY).rep m.P.to) m.P).1<;>rfl
  rw [bA];exact⟨j,_,ba (jR g (({z with bx:=z.bx.eraseIdx e}:aY).rep m.P.to) m.P).1 ao _ _ _ aB Z ag a4 aV aX,C.perm (A:=[bh g aQ {u with heard:=aB},H,H1,ao,T,S,Q,Z,ag]) d (by simp)⟩
 refine aq 4 j j ?_
 have q:z.hg g s=({z with bx:=z.bx.eraseIdx e},0):=by
  unfold aY.hg;rw [F];dsimp only;rw [aI (by simpa using I),if_neg (by simpa using az),v]
 rw [q];exact⟨j,GE,aE,d.as⟩
theorem eP.facts{g:al}{aQ:Nat}{z:aY}{G:List Chunk}(h:eP g aQ z G):∃(c:ch)(a b:Option Addr)(aV dp:Nat)(bu:List Chunk),c.bO= .slice a z.bO.length aV/\c.heard= .slice b z.heard.length dp/\z.heard.length<=maxLen/\cw c.heard z.heard bu/\∀w,Holds w G->w.heap[aQ]? =some (.cells (l8 g c).toArray 74 (0,0))/\Holds w bu:=by
 obtain⟨c,cH,bP,dx,a7,bu,d,rfl⟩:=h;obtain⟨ag,H,U,rfl,l,m⟩:=d.bO;obtain⟨a,aV,f,_,_⟩:=Row.form l;obtain⟨b,dp,i,j,k⟩:=d.heard.len;exact⟨c,a,b,aV,dp,bu,f,i,ek j k,d.heard,λw e=>⟨e.left.head,e.right.right.right.right.right⟩⟩
theorem eP.Gs{g:al}{aQ:Nat}{z:aY}{G:List Chunk}(h:eP g aQ z G){i:Nat}(y:i<z.parts.length):∃(c:ch)(a cap bi:Nat)(c5 f n:List Chunk),c.parts= .slice (some ⟨a,0,none⟩) z.parts.length cap/\jS g bi z.parts[i] f/\G=c5++(f++n)/\
 (∀w,Holds w c5->w.heap[aQ]? =some (.cells (l8 g c).toArray 74 (0,0))/\w.cell? ⟨a,0+i*1,none⟩=some (ab bi))/\
 ∀k b,jS g bi k b->eP g aQ {z with parts:=z.parts.set i k} (c5++(b++n)):=by
 obtain⟨c,cH,bP,dx,a7,bu,d,rfl⟩:=h;obtain⟨ag,H,U,rfl,m,u⟩:=d.parts;obtain⟨a,cap,cur,q,rfl,_⟩:=Row.block m (by omega);obtain⟨v,H1,f,l,C,rfl,r,A⟩:=u.at i y;obtain⟨bi,rfl,t⟩:=r;refine⟨c,a,cap,bi,bh g aQ c++(cH++(R a cur 60++H1)),f,l++(dx++(a7++bu)),q,t,by simp,λw o=>⟨o.left.head,?_⟩,λk b s=>?_⟩
 .obtain⟨_,_,e,_,_,B,_⟩:=Row.read m o.right.right.left;rw [q] at e;cases e;have p:=B.cell C;rw [add_lit] at p;rw [gG];exact p
 .have x:=A k b ⟨bi,j,s⟩;have e:bh g aQ c++(cH++(R a cur 60++H1))++(b++(l++(dx++(a7++bu))))=bh g aQ c++(cH++((R a cur 60++(H1++(b++l)))++(dx++(a7++bu)))):=by simp
  rw [e];exact⟨c,cH,_,dx,a7,bu,⟨d.bO,⟨_,_,U,j,by rw [hp];exact m,x⟩,d.cM,d.bx,d.heard⟩,j⟩
theorem cw.lit{b:Nat}{q:aC}{a:List Chunk}(h:fA q a)(d:q.tag.length=32):cw (.slice (some ⟨b,0,none⟩) 1 1) [q.P] (R b q.cs.toArray 53++a):=by
 have c:=Row.full (e:=53) (size:=39) (b:=b) (n:=1) (cur:=q.cs.toArray) (by decide) (by rw [hA,q.bU d]);have e:fV [q]=q.cs:=by simp
 exact⟨[q],j,_,a,j,by show Row 53 39 _ 1 (fV [q]) _;rw [e];exact c,fF.one h⟩
theorem FA{g:al}{f:Int}{aM:List aW}{l:eG}{m:aW}(dt:er aM)(h:e1 g f aM l=some m)(aa:m.k=6):m.l=[cX g 3 0 0 (br l.x) f]:=by
 obtain⟨_,_,_,b,_,a⟩:=vo dt h;unfold eG.aH at a;rw [a6 (by rw [<-b];exact aa)] at a;exact(hB a).symm
theorem FB{o:World}{g:al}{aQ:Nat}{z:aY}{G:List Chunk}{s:fb}{a:hO}(O:eP g aQ z G)(bA:h2 s a (av [G]) o){N M L:Nat}(aa:z.df g (λ_=>N) M L)(bW:773<=N)(bX:N+150<=1000000)(bV:M+10000<=1000000)(bT:L+4200000<=1000000000)(aC:g.at o)(aD:g.ok)(bE:g.off (av [G]))(n:Own [G] o):Calls prog 24 #[ab aQ,.agg (c9 s a).toArray] o λr w=>r=ae (z.ft g s).2/\∃ai,eP g aQ (z.ft g s).1 ai/\C o (av [G]) [ai] w:=by
 have bv:=O;obtain⟨p,aB⟩:∃p,p=av [G]:=⟨_,j⟩;have aE:g.off p:=aB▸bE;have a9:h2 s a p o:=aB▸bA;rw [<-aB];have n:C o p [G] o:=aB▸n;obtain⟨c,bK,aU,aV,dp,bN,bw,aN,a8,a0,ao⟩:=O.facts;refine a2 func24 ?_;refine bL 2 n j j (λD w n=>?_);have n:C o p [R D (c9 s a).toArray 33,G] w:=n;have n:C o p ([R D (c9 s a).toArray 33,G]++_) _:=n.front;refine lW 3 j (λw=>∃ad,C o p ([R D (c9 s a).toArray 33,G]++ad) w) ?_;have n:=n.drew;refine fD 1 [0] j ⟨_,n⟩ ?_;refine eR 1 j ⟨_,n⟩ (λw⟨_,n⟩=>hK j j (ax (C.aj (b:=D) n) j)) ?_;refine fD 2 [2,3] j ⟨_,n⟩ ?_;refine tM 11 j (λaz=>?_) (λaz=>?_)
 .refine fD 15 [4,5,6,7,8,9,10,11,12,13,14,15,16,17,18] j ⟨_,n⟩ ?_;refine cU ?_;refine aq 4 j j ?_;have E:z.ft g s=(z,1):=a6 (.inl (dz az));rw [E];exact⟨j,G,O,n.as⟩
 refine fD 1 [4] j ⟨_,n⟩ ?_;refine eR 5 j ⟨_,n⟩ (λw⟨_,n⟩=>hK j j (ax (C.aj (b:=D) n) j)) ?_;refine fD 3 [6,7,8] j ⟨_,n⟩ ?_;refine eR 9 j ⟨_,n⟩ (λw⟨_,n⟩=>hK j j (ax (ao _ (n.holds (G:=G) (by simp))).1 (aG some bw))) ?_;refine fD 4 [10,11,12,13] j ⟨_,n⟩ ?_;refine tM 21 j (λaA=>?_) (λaA=>?_)
 .refine fD 5 [14,15,16,17,18] j ⟨_,n⟩ ?_;refine cU ?_;refine aq 4 j j ?_;have E:z.ft g s=(z,1):=a6 (.inr (.inl (dz aA)));rw [E];exact⟨j,G,O,n.as⟩
 refine fD 2 [14,15] j ⟨_,n⟩ ?_;refine eR 16 j ⟨_,n⟩ (λw⟨_,n⟩=>hK j j (ax (C.aj (b:=D) n) j)) ?_;refine dW 17 j ?_;refine bB j j j (o8 (i:=s.node) O (n.holds (G:=G) (by simp))) (λw hw=>?_);have hw:=hw.symm;subst hw;refine an ⟨⟨_,n⟩,?_⟩;refine fD 1 [18] j ⟨_,n⟩ ?_;refine cU ?_;refine bm 0 j j (λV=>?_) (λV=>?_)
 .refine aq 3 j j ?_;have E:z.ft g s=(z,1):=a6 (.inr (.inr (by simpa using V)));rw [E];exact⟨j,G,O,n.as⟩
 have n:C o p ([R D (c9 s a).toArray 33,G]++_) _:=n.front;refine lW 2 j (λw=>∃ad,C o p ([R D (c9 s a).toArray 33,G]++ad) w) ?_;have n:=n.drew;refine fD 3 [0,1,2] j ⟨_,n⟩ ?_;refine eR 3 j ⟨_,n⟩ (λw⟨_,n⟩=>hK j j (ax (ao _ (n.holds (G:=G) (by simp))).1 j)) ?_;refine fD 1 [4] j ⟨_,n⟩ ?_;refine eR 5 j ⟨_,n⟩ (λw⟨_,n⟩=>hK j j (ax (C.aj (b:=D) n) j)) ?_;refine fD 1 [6] j ⟨_,n⟩ ?_;refine eR 7 j ⟨_,n⟩ (λw⟨_,n⟩=>c4 (U:=gq s.e1 a.Y a.lc a.aP a.dU) j j j ((n.bc D).ij (off:=4) (U:=gq s.e1 a.Y a.lc a.aP a.dU) (λJ v bI=>by simpa [Nat.add_comm] using bI))) ?_;refine fD 3 [8,9,10] j ⟨_,n⟩ ?_;refine eR 11 j ⟨_,n⟩ (λw⟨_,n⟩=>hK j j (ax (ao _ (n.holds (G:=G) (by simp))).1 (aG some aN))) ?_;refine k2 12 16 j j (by kernel_rfl) ?_ ?_;have H:=a9.apart n;refine cO j j j (y5 (f:=s.node) (l:=s.e1) (gM:=dp) (gR:=aU) (aM:=z.heard) (aC.st n aE) aD H.y H.rm H.u H.re H.rf (aN▸a0) (ao _ (n.holds (G:=G) (by simp))).2 a8 (λm hm=>by have:=(aa.kL m hm).1.l;omega) (λm hm=>(aa.kL m hm).1.aH)) (λr w⟨q,af,aT,bd,Z,Q⟩=>?_);subst aT;have n:=n.aL Q;have n:C o p ([R D (c9 s a).toArray 33,G]++_) _:=n.front;refine an ⟨⟨_,n⟩,?_⟩;refine fD 3 [13,14,15] j ⟨_,n⟩ ?_;refine dW 16 j ?_;refine ew n j j (λt w n=>?_);have n:C o p (bf t dP::_) w:=n;have n:C o p ([R D (c9 s a).toArray 33,G]++_) _:=n.front;refine an ⟨⟨_,n⟩,?_⟩;rotate_left
 refine ew n j j (λt w n=>?_);have n:C o p (bf t dP::_) w:=n;have n:C o p ([R D (c9 s a).toArray 33,G]++_) _:=n.front;refine an ⟨⟨_,n⟩,?_⟩;refine dW 12 j ?_;have H:=a9.apart n;refine cO j j j (y5 (f:=s.node) (l:=s.e1) (gM:=dp) (gR:=aU) (aM:=z.heard) (aC.st n aE) aD H.y H.rm H.u H.re H.rf (aN▸a0) (ao _ (n.holds (G:=G) (by simp))).2 a8 (λm hm=>by have:=(aa.kL m hm).1.l;omega) (λm hm=>(aa.kL m hm).1.aH)) (λr w⟨q,af,aT,bd,Z,Q⟩=>?_);subst aT;have n:=n.aL Q;have n:C o p ([R D (c9 s a).toArray 33,G]++_) _:=n.front;refine an ⟨⟨_,n⟩,?_⟩;refine fD 3 [13,14,15] j ⟨_,n⟩ ?_;rotate_left
 all_goals
  refine dW 17 j ?_;refine c2 (n.bc t) j j j (by simpa using(q).one) (by rw [List.size_toArray];exact(q).bU Z) bG (λw n=>?_);have n:=C.whole (U:=(q).cs) n (by rw [(q).bU Z];rfl);have n:C o p (bf t (q)::_) w:=n;have n:C o p ([R D (c9 s a).toArray 33,G]++_) _:=n.front;refine an ⟨⟨_,n⟩,?_⟩;refine fD 1 [18] j ⟨_,n⟩ ?_;refine cU ?_;refine bm 5 j j (λah=>?_) (λah=>?_)
  .refine aq 4 j j ?_;have ap:¬(s.node<0\/s.node>=z.bO.length\/(z.rep s.node).isSome=true):=(λh=>h.elim (λh=>absurd h (dM az)) (λh=>h.elim (λh=>absurd h (dM aA)) (λh=>by rw [h] at V;cases V)));have au:(e1 g s.node z.heard s.e1)=none:=by cases T:(e1 g s.node z.heard s.e1) with|none=>rfl|some _=>rw [T] at ah;cases ah
   have E:z.ft g s=(z,1):=by
    unfold aY.ft;rw [aI ap,au]
   rw [E,au];exact⟨j,G,O,n.as⟩
  obtain⟨m,hm⟩:∃m,(e1 g s.node z.heard s.e1)=some m:=ha.1 (by cases T:(e1 g s.node z.heard s.e1) with|none=>rw [T] at ah;cases ah|some _=>rfl);obtain⟨X,aS⟩:=bd m hm;have aO:=vo aa.kL hm;rw [<-X] at aO;have ap:¬(s.node<0\/s.node>=z.bO.length\/(z.rep s.node).isSome=true):=(λh=>h.elim (λh=>absurd h (dM az)) (λh=>h.elim (λh=>absurd h (dM aA)) (λh=>by rw [h] at V;cases V)));refine ar 5 j (ax (C.aj (b:=t) n) q.gJ) ?_;refine bm 1 j j (λak=>?_) (λak=>?_)
  .refine bM 3 (U:=q.cs) j j (q.bU Z) (bn (C.aj (b:=t) n)) ?_;refine gi (U:=q.cs) n j j j (q.bU Z) (by decide) (by decide) (λag w n=>?_);have n:C o p (R ag q.cs.toArray 53::_) w:=n;obtain⟨W,cH,bP,dx,a7,bu,aw,rfl⟩:=bv;have n:C o p [bh g aQ W,cH,bP,dx,a7,bu,R ag q.cs.toArray 53++af] w:=C.perm (A:=[bh g aQ W++(cH++(bP++(dx++(a7++bu)))),R ag q.cs.toArray 53,af]) n.as (by simp);refine bp 0 (sW (g:=g) (aQ:=aQ) (c:=W) aw.bx aw.heard (cw.lit (b:=ag) aS Z) (by have:=aa.lost;omega) (by simp) aa.heard (n.ours (cC:=[bh g aQ W,a7,bu,R ag q.cs.toArray 53++af]))) j (λw⟨bl,aW,aX,bq,bt,Q⟩=>?_);have n:=n.b2 Q;refine aq 3 j j ?_
   have E:z.ft g s=(z.g6 [q.P],0):=by
    unfold aY.ft;rw [aI ap,hm];dsimp only;rw [<-X,a6 (by simpa using ak)]
   rw [E];have n:C o p [bh g aQ {W with heard:=bl},cH,bP,dx,aW,aX] _:=n.as;exact⟨j,_,⟨{W with heard:=bl},cH,bP,dx,aW,aX,⟨aw.bO,aw.parts,aw.cM,bq,bt⟩,j⟩,n.sr⟩
  refine ar 4 j (ax (C.aj (b:=t) n) q.gk) ?_;obtain⟨bD,_⟩:=aS.read (n.holds (G:=af) (by simp));refine bp 0 (DM (c:=q.c) bD.x (by have:=aO.1.1.x;have K:q.x.length<=200:=this;omega)) j (λw Q=>?_);have n:=n.aL Q;refine b7 3 n j (λF w n=>?_);refine b6 0 (n.bc F) j j j j j (λw n=>?_);have n:=C.whole (U:=((g4 q.x).getD jO).cs) n j;have n:C o p (R F ((g4 q.x).getD jO).cs.toArray 118::_) w:=n;refine bm 6 j j (λam=>?_) (λam=>?_)
  .refine aq 4 j j ?_;have au:g4 q.x=none:=by cases T:g4 q.x with|none=>rfl|some _=>rw [T] at am;cases am
   have E:z.ft g s=(z,2):=by
    unfold aY.ft;rw [aI ap,hm];dsimp only;rw [<-X,aI (by simpa using ak)];show(match g4 q.x with|none=>_|some bj=>_)=_;rw [au]
   rw [E,au];exact⟨j,G,O,n.as⟩
  have bF:q.k=6:=by simpa using ak
  have bC:m.k=6:=by rw [<-X];exact bF
  obtain⟨e5,a4⟩:∃e5,e5=cX g 3 0 0 (br s.e1.x) s.node:=⟨_,j⟩;have a5:e5.ok:=by rw [a4];exact iZ _ _ _ _ _ _ (eK _)
  have aF:q.l=[e5]:=by have K:=FA aa.kL hm bC;rw [<-X,<-a4] at K;exact K
  obtain⟨S,I,rfl,ba,_,_,_⟩:=aS;obtain⟨bk,bY,bZ,bg,bS,_⟩:=Row.block ba.l (by rw [aF];simp)
  have bH:Value.slice q.B q.l.length q.d= .slice (some ⟨bk,0,none⟩) 1 q.d:=by
   have K:=bg;simp only [p9] at K;rw [K.1,aF];rfl
  have bJ:∀w,Holds w I->Rd w (some ⟨bk,0+0*68,none⟩) e5.cs:=λw bs=>by
   obtain⟨_,_,e,_,_,be,_⟩:=Row.read ba.l bs;rw [bg] at e;simp only [p9] at e;obtain⟨rfl,_,_⟩:=e;have K:vcs q.l=e5.cs:=by rw [aF];simp
   rw [K] at be;simpa using be
  have n:C o p [bf t q,R F ((g4 q.x).getD jO).cs.toArray 118,G,S,I] _:=C.perm (A:=[bf t q,R F ((g4 q.x).getD jO).cs.toArray 118,G,S++I]) n.as (by simp);obtain⟨eD,bR,bQ,bi,c5,ay,ac,a3,aZ,rfl,aR,bz⟩:=O.Gs (i:=q.s.toNat%z.parts.length) (jF _ (by rw [aa.parts];decide));have n:C o p [bf t q,R F ((g4 q.x).getD jO).cs.toArray 118,c5,ay,ac,S,I] _:=C.perm (A:=[bf t q,R F ((g4 q.x).getD jO).cs.toArray 118,c5++(ay++ac),S,I]) n.as (by simp);have n:C o p ([bf t q,R F ((g4 q.x).getD jO).cs.toArray 118,c5,S,I]++_) _:=n.front;refine lW 2 j (λw=>∃ad,C o p ([bf t q,R F ((g4 q.x).getD jO).cs.toArray 118,c5,S,I]++ad) w) ?_;have n:=n.drew;refine fD 3 [0,1,2] j ⟨_,n⟩ ?_;refine eR 3 j ⟨_,n⟩ (λw⟨_,n⟩=>hK j j (ax (aR _ (n.holds (G:=c5) (by simp))).1 (aG some a3))) ?_;refine fD 1 [4] j ⟨_,n⟩ ?_;refine eR 5 j ⟨_,n⟩ (λw⟨_,n⟩=>hK j j (ax (C.aj (b:=t) n) q.gK)) ?_;refine fD 3 [6,7,8] j ⟨_,n⟩ ?_;refine eR 9 j ⟨_,n⟩ (λw⟨_,n⟩=>hK j j (ax (aR _ (n.holds (G:=c5) (by simp))).1 (aG some a3))) ?_;refine fD 1 [10] j ⟨_,n⟩ ?_;refine rr 67 (.int .i64 (q.s.toNat:Nat)) j (aG (Value.int .i64) (by have K:0<=q.s:=aO.2.1;omega)) ?_;refine eR 11 j ⟨_,n⟩ (λw _=>pH j j (by rw [aa.parts];decide)) ?_;refine eR 12 j ⟨_,n⟩ (λw _=>gA j j (jF _ (by rw [aa.parts];decide))) ?_;refine eR 13 j ⟨_,n⟩ (λw⟨_,n⟩=>hK j j (aR _ (n.holds (G:=c5) (by simp))).2) ?_;refine eR 14 j ⟨_,n⟩ (λw⟨_,n⟩=>c4 (U:=((g4 q.x).getD jO).cs) j j j (bn (C.aj (b:=F) n))) ?_;refine fD 1 [15] j ⟨_,n⟩ ?_;refine eR 16 j ⟨_,n⟩ (λw⟨_,n⟩=>hK j j (ax (C.aj (b:=t) n) (q.eU.trans (aG some bH)))) ?_;refine eR 17 j ⟨_,n⟩ (λw _=>gA (J:=0) j j (by decide)) ?_;refine eR 18 j ⟨_,n⟩ (λw⟨_,n⟩=>c4 (U:=e5.cs) j j (e5.len a5) (bJ _ (n.holds (G:=I) (by simp)))) ?_;refine dW 19 j ?_;obtain⟨fC,a1⟩:∃fC,z.parts[q.s.toNat%z.parts.length]'(jF _ (by rw [aa.parts];decide))=fC:=⟨_,j⟩;rw [a1] at aZ;have bb:z.parts[q.s.toNat%z.parts.length]? =some fC:=by rw [<-a1];exact cn _
  have aK:=aa.jP _ (h5 bb);have n:C o p [c5,ay,ac,bf t q,R F ((g4 q.x).getD jO).cs.toArray 118,S,I] _:=n.as;refine bB j j j (A3 (m:=(g4 q.x).getD jO) (v:=e5) aZ (by have:=aK.ck;omega) (by have:=aK.acc;omega) (aK.len aD) (aC.st n aE) aD (n.eF aC aE) a5 (n.ours (cC:=[ay]))) (λw⟨aJ,bo,Q⟩=>?_);have n:=n.b2 Q;have n:C o p ([bf t q,R F ((g4 q.x).getD jO).cs.toArray 118,c5,S,I]++_) _:=n.front;refine an ⟨⟨_,n⟩,?_⟩;refine fD 1 [20] j ⟨_,n⟩ ?_;refine cU ?_;refine aq 0 j j ?_
  have E:z.ft g s=({z with parts:=z.parts.set (q.s.toNat%z.parts.length) (fC.dk g ((g4 q.x).getD jO) e5).1},(fC.dk g ((g4 q.x).getD jO) e5).2):=by
   unfold aY.ft;rw [aI ap,hm];dsimp only;rw [<-X,aI (by simpa using ak)];show(match g4 q.x with|none=>(z,(2:Int))|some bj=>match z.parts[q.s.toNat%z.parts.length]?,q.l with|some b,v::_=>_|_,_=>_)=_;rw [bb,aF];cases T:g4 q.x with
   |none=>rw [T] at am;cases am
   |some bj=>rfl
  rw [E];have n:C o p [c5,aJ,ac] _:=n.as;exact⟨j,_,bz _ aJ bo,C.perm (A:=[c5,aJ,ac]) n (by simp)⟩
def mF(g:al)(z:aY)(aD:List cR)(l:List (Int×Value)):List cR:=l.foldl (λaD q=>ke g aD ((z.bO[q.1.toNat]?).getD none)) aD
theorem GN(g:al)(z:aY)(aD:List cR)(l:List (Int×Value))(q:Int×Value):mF g z aD (l++[q])=ke g (mF g z aD l) ((z.bO[q.1.toNat]?).getD none):=by unfold mF;rw [List.foldl_append];rfl
theorem vU{g:al}{z:aY}(f:∀(i:Nat)(x:bo),z.bO[i]? =some (some x)->x.aH.length<=512):∀(l:List (Int×Value)){aD:List cR}{M:Nat},(∀b∈aD,b.ok g M)->(∀b∈mF g z aD l,b.ok g (M+512*l.length))/\(mF g z aD l).length=aD.length
 |[],_,_,h=>⟨h,j⟩
 |q::r,aD,M,h=>by
  have d:(∀b∈ke g aD ((z.bO[q.1.toNat]?).getD none),b.ok g (M+512))/\(ke g aD ((z.bO[q.1.toNat]?).getD none)).length=aD.length:=by
   cases a:(z.bO[q.1.toNat]?).getD none with
   |none=>exact⟨λb c=>(h b c).more (by omega),j⟩
   |some x=>
    have n:z.bO[q.1.toNat]? =some (some x):=by
     cases e:z.bO[q.1.toNat]? with
     |none=>rw [e] at a;cases a
     |some I=>rw [e] at a;have a:I=some x:=a;rw [a]
    exact⟨λb c=>(tt x.aH h b c).more (by have:=f _ x n;omega),ts _ _⟩
  obtain⟨k,m⟩:=vU f r d.1;exact⟨λb c=>(k b c).more (by rw [eu];omega),m.trans d.2⟩
theorem zV{g:al}{z:aY}:∀{U:List Value}{xs:List (Option bo)}{H:List Chunk}(_:ed (h4 g) U xs H)(k:Nat)(aD:List cR),(∀(i:Nat)(b:i<xs.length),z.bO[k+i]? =some xs[i])->mF g z aD (fg k U)=xs.foldl (ke g) aD
 |[],[],_,_,_,_,_=>rfl
 |[],_::_,_,h,_,_,_=>h.elim
 |_::_,[],_,h,_,_,_=>h.elim
 |v::U,x::xs,_,⟨_,_,_,f,h⟩,k,aD,c=>by
  have d:=zV h (k+1) (ke g aD x) (λi b=>by have:=c (i+1) (by simpa using b);rw [show k+1+i=k+(i+1) by omega];simpa using this);rw [fg,iC,<-d];split
  .rename_i aJ;cases x with
   |none=>rfl
   |some y=>obtain⟨j,e,_⟩:=f;rw [e] at aJ;cases aJ
  .show mF g z (ke g aD ((z.bO[((k:Nat):Int).toNat]?).getD none)) (fg (k+1) U)=_;have a:=c 0 (by simp);rw [oO] at a;rw [m9,a];rfl
theorem yE{g:al}:∀{U:List Value}{xs:List (Option bo)}{H:List Chunk}(_:ed (h4 g) U xs H)(k:Nat){q:Int×Value}{r:List (Int×Value)},fg k U=q::r->∃(x:bo)(a:Nat)(c:List Chunk),sh xs=some x/\q.2=ab a/\hP g a x c/\∀w,Holds w H->Holds w c
 |[],_,_,_,_,_,_,b=>by cases b
 |_::_,[],_,h,_,_,_,_=>h.elim
 |v::U,x::xs,_,⟨ai,aA,rfl,l,h⟩,k,q,r,b=>by
  rw [fg] at b;split at b
  .rename_i aJ;obtain⟨i,a,c,d,e,m,n⟩:=yE h (k+1) b;refine⟨i,a,c,?_,e,m,λw f=>n w f.right⟩;cases x with
   |none=>exact d
   |some y=>obtain⟨a,o,_⟩:=l;rw [o] at aJ;cases aJ
  .rename_i aJ;cases b;obtain⟨i,a,rfl,d,e⟩:=l.some (by simpa using aJ);exact⟨i,a,ai,j,d,e,λw f=>f.left⟩
theorem yG{g:al}:∀{U:List Value}{xs:List (Option bo)}{H:List Chunk}(_:ed (h4 g) U xs H)(k:Nat){i:Nat}{x:bo},xs[i]? =some (some x)->∃q r,fg k U=q::r
 |[],[],_,_,_,_,_,a=>by simp at a
 |[],_::_,_,h,_,_,_,_=>h.elim
 |_::_,[],_,h,_,_,_,_=>h.elim
 |v::U,y::xs,_,⟨_,_,_,c,h⟩,k,i,x,a=>by
  rw [fg];split
  .rename_i aJ;cases i with
   |zero=>
    simp at a;subst a;obtain⟨d,b,_⟩:=c;rw [b] at aJ;cases aJ
   |succ i=>exact yG h (k+1) (by simpa using a)
  .exact⟨_,_,j⟩
def tI(a:Option Addr)(pre:List (Int×Value)):Prop:=(pre=[]/\a=none)\/∃q r b,pre=q::r/\q.2=ab b/\a=some ⟨b,0,none⟩
theorem FK{α:Type}{f:α->α}{l:List α}{J:Nat}(a:J<l.length):((l.take J).map f++l.drop J).set J (f l[J])=(l.take (J+1)).map f++l.drop (J+1):=by
 have b:((l.take J).map f).length=J:=by rw [ff,g9];omega
 rw [t4 _ _ (by omega),b,Nat.sub_self,kp a,rM,fr a,jD,List.append_assoc];rfl
theorem FJ{α:Type}{f:α->α}{l:List α}{J:Nat}(b:J<l.length)(h:J<((l.take J).map f++l.drop J).length):((l.take J).map f++l.drop J)[J]=l[J]:=by
 have c:((l.take J).map f).length=J:=by rw [ff,g9];omega
 have a:((l.take J).map f++l.drop J)[J]? =some l[J]:=by rw [jf (by omega),c,Nat.sub_self,lL,oO,cn b]
 exact hB ((cn h).symm.trans a)
abbrev ctz:Value×cb->List Value:=λe=>e.2.cs++[e.1]
theorem GO{o:World}{g:al}{aQ:Nat}{z:aY}{G:List Chunk}(dn:eP g aQ z G){N M L:Nat}(aa:z.df g (λ_=>N) M L)(en:773<=N)(eo:N+150<=1000000)(em:M+10000<=1000000)(el:L+4200000<=1000000000)(cN:g.at o)(bZ:g.ok)(dH:g.off (av [G]))(d:Own [G] o):Calls prog 25 #[ab aQ] o λr w=>r=ae 0/\∃ai,eP g aQ (z.polls g) ai/\C o (av [G]) [ai] w:=by
 obtain⟨I,bN⟩:∃I,I=av [G]:=⟨_,j⟩;have cW:g.off I:=bN▸dH;rw [<-bN];have d:C o I [G] o:=bN▸d;obtain⟨c,cH,bP,dx,a7,bu,aA,rfl⟩:=dn;obtain⟨eh,l,U,rfl,a4,aC⟩:=aA.bO;obtain⟨eg,aW,aP,rfl,cb,cA⟩:=aA.parts;obtain⟨ef,K,bz,rfl,ca,cz⟩:=aA.cM;have c1:=aC.len;have eC:=cA.len;have eB:=cz.len;have dE:0<z.bO.length:=by obtain⟨i,x,ch⟩:=aa.some_;have:=(fk.1 ch).1;omega
 have es:z.bO.length<=10:=by rw [aa.bO];exact bZ.n10
 have et:=aa.parts;have eq:=aa.cM;obtain⟨E,cap,cur,bp,rfl,ev⟩:=Row.block a4 dE;obtain⟨t,db,D,cG,rfl,ey⟩:=Row.block cb (by omega);obtain⟨gc,da,B,cF,rfl,ex⟩:=Row.block ca (by omega);rw [bp] at a4;rw [<-c1] at bp a4;have dT:=aC.qX;have ba:∀(i:Nat)(x:bo),z.bO[i]? =some (some x)->x.aH.length<=512:=λi x ch=>(aa.iA i x ch).1.A8
 have dJ:∀w,Holds w (R t D 60)->∀(J:Nat)(v:Value),aP[J]? =some v->w.cell? ⟨t,0+J*1,none⟩=some v:=λw ay J v a5=>by
  obtain⟨_,_,e,_,_,b9,_⟩:=Row.read cb ay;rw [cG] at e;cases e;have V:=b9.cell a5;rw [add_lit] at V;rw [gG];exact V
 have du:∀w,Holds w (R gc B 92)->∀(J:Nat)(v:Value),bz[J]? =some v->w.cell? ⟨gc,0+J*1,none⟩=some v:=λw ay J v a5=>by
  obtain⟨_,_,e,_,_,b9,_⟩:=Row.read ca ay;rw [cF] at e;cases e;have V:=b9.cell a5;rw [add_lit] at V;rw [gG];exact V
 have d:C o I [bh g aQ c,R E cur 47,l,R t D 60,aW,R gc B 92,K,a7,bu] o:=d.perm (by simp);refine j2 func25 (bL 2 d j j (λaz w d=>?_));have d:C o I [R az #[ab aQ] 24,bh g aQ c,R E cur 47,l,R t D 60,aW,R gc B 92,K,a7,bu] w:=d;refine b7 3 d j (λn w d=>?_);have d:C o I (R n #[.pointer none] 47::_) w:=d;refine ar 3 j (ax (C.aj (b:=az) d) j) (bk 0 (yD (o:=w) (aQ:=aQ)) j (λr w⟨c3,b3,ah⟩=>?_));subst b3;have d:=d.aL ah;have d:C o I [R c3 #[ab aQ] 24,R az #[ab aQ] 24,R n #[.pointer none] 47,bh g aQ c,R E cur 47,l,R t D 60,aW,R gc B 92,K,a7,bu] w:=d.as;have d:C o I ([R c3 #[ab aQ] 24]++[R az #[ab aQ] 24,R n #[.pointer none] 47,bh g aQ c,R E cur 47,l,R t D 60,aW,R gc B 92,K,a7,bu]) w:=d
 refine j6 1 j (yC (g:=g) (aQ:=aQ) (c:=c) bp a4 dT (by omega)) j (by have:=d.size;simpa using this) d j (λ_=>rfl) (by intro p aA;simp at aA;rcases aA with rfl|rfl<;>rfl)
  (λpre ad=>∃(aq:Option Addr)(Y:List cR)(H:List Chunk),ad=[R az #[ab aQ] 24,R n #[.pointer aq] 47,bh g aQ c,R E cur 47,l,R t D 60,H,R gc B 92,K,a7,bu]/\tI aq pre/\mF g z z.parts pre=Y/\ed (jv g) aP Y H/\pre.length<=10) (λ_ _=>False) ⟨none,z.parts,aW,j,.inl ⟨j,j⟩,j,cA,b4 _⟩ (λL aK dm=>by have ag:=dm.cc (C.aj (b:=aQ) d);exact ag) (λpre ad L a1=>by obtain⟨aq,Y,H,rfl,_⟩:=a1;simp) ?_ ?_ (λ_ _ h=>h.elim) (λ_ _ _ h=>h.elim)
 .rintro y pre ⟨aE,d7⟩ ec c6 eK cq ⟨aq,Y,H,rfl,br,aM,bR,dK⟩ d;obtain⟨i,dC,cg,dG⟩:=sq (q:=(aE,d7)) (by obtain⟨d6,b5⟩:=cq;rw [b5];simp);have d:=C.gy d;refine bD 2 j (⟨j,_,d,λc6 Q d=>?_⟩);have cP:=cN.st d cW;have dI:g.off (av [R az #[ab aQ] 24,R n #[.pointer aq] 47,bh g aQ c,R E cur 47,l,R t D 60,H,R gc B 92,K,a7,bu]):=(cN.apart d cW).sub (λb bf=>np.2 (.inr (np.2 (.inl bf))));have d:=C.gy d;obtain⟨O,bJ⟩:∃O,O=av [R az #[ab aQ] 24,R n #[.pointer aq] 47,bh g aQ c,R E cur 47,l,R t D 60,H,R gc B 92,K,a7,bu]:=⟨_,j⟩;have cV:g.off O:=bJ▸dI;rw [<-bJ];have d:C Q O [R az #[ab aQ] 24,R n #[.pointer aq] 47,bh g aQ c,R E cur 47,l,R t D 60,H,R gc B 92,K,a7,bu] Q:=bJ▸d;have er:i<U.length:=(fk.1 cg).1;have cQ:i<z.bO.length:=by omega
  obtain⟨v,H1,cl,au,ag,dl,dr,_⟩:=aC.at i cQ;rw [ag] at cg;cases cg;obtain⟨x,aF,d3,rfl,cB⟩:=dr.some dG;have cy:∀w,Holds w l->Holds w cl:=λw ay=>by rw [dl] at ay;exact ay.right.left
  have bw:z.bO[i]? =some (some x):=by rw [cn cQ,d3]
  have eu:pre.length+1<=U.length:=by
   obtain⟨d6,b5⟩:=cq;have aJ:=vf U 0;rw [b5] at aJ;simp at aJ;omega
  obtain⟨dL,dQ⟩:=vU (g:=g) (z:=z) ba pre aa.jP;have dM:∀b∈Y,b.ok g (M+512*pre.length):=by rw [<-aM];exact dL
  have dP:Y.length=z.parts.length:=by rw [<-aM];exact dQ
  refine ar 4 j (ax (C.aj (b:=n) d) j) (bm 1 j j (λbE=>?_) (λbE=>?_));refine dF 2 (d.bc n) j j j j (λw d=>?_);have d:C Q O (R n #[ab aF] 47::_) w:=d
  obtain⟨P,cL,d⟩:∃P,tI P (pre++[(aE,ab aF)])/\C Q O [R az #[ab aQ] 24,R n #[.pointer P] 47,bh g aQ c,R E cur 47,l,R t D 60,H,R gc B 92,K,a7,bu] w:=by
   refine⟨some ⟨aF,0,none⟩,?_,d.as⟩;rcases br with⟨rfl,_⟩|⟨q,r,c5,_,_,rfl⟩
   .exact .inr ⟨_,[],aF,j,j,j⟩
   .cases bE
  refine bk 3 (Ba cB (cy _ (d.holds (G:=l) (by simp))) (by have:=ba i x bw;omega)) j (λr w⟨bg,cu,ah⟩=>?_);rotate_left
  obtain⟨P,cL,d⟩:∃P,tI P (pre++[(aE,ab aF)])/\C Q O [R az #[ab aQ] 24,R n #[.pointer P] 47,bh g aQ c,R E cur 47,l,R t D 60,H,R gc B 92,K,a7,bu] Q:=by
   refine⟨aq,?_,d.as⟩;rcases br with⟨_,rfl⟩|⟨q,r,c5,rfl,aI,aJ⟩
   .cases bE
   .exact .inr ⟨q,_,c5,j,aI,aJ⟩
  refine bk 4 (Ba cB (cy _ (d.holds (G:=l) (by simp))) (by have:=ba i x bw;omega)) j (λr w⟨bg,cu,ah⟩=>?_);rotate_left
  all_goals
   have d:=d.aL ah;obtain⟨ap,T,us,rfl,cZ,bV⟩:=cu;obtain⟨cj,co,rfl,eA,eD⟩:=Row.form cZ;have ez:=bV.len;have cK:∀e∈us.zip x.aH,(ctz e).length=5:=λ_ _=>rfl
   have eE:=ba i x bw;have d:C Q O [R az #[ab aQ] 24,R n #[.pointer P] 47,bh g aQ c,R E cur 47,l,R t D 60,H,R gc B 92,K,a7,bu,ap,T] w:=C.perm (A:=[R az #[ab aQ] 24,R n #[.pointer P] 47,bh g aQ c,R E cur 47,l,R t D 60,H,R gc B 92,K,a7,bu,ap++T]) d.as (by simp)
   refine cJ 3 j (ct:=Nat×List cR×List Chunk) (λk=>[(1,ab az),(22,.slice cj x.aH.length co),(23,.int .i64 (x.aH.length:Nat)),(24,.int .i64 (k.1:Nat))])
    (λk w=>k.1<=x.aH.length/\k.2.1=(x.aH.take k.1).foldl (pz g x) Y/\ed (jv g) aP k.2.1 k.2.2/\C Q O [R az #[ab aQ] 24,R n #[.pointer P] 47,bh g aQ c,R E cur 47,l,R t D 60,k.2.2,R gc B 92,K,a7,bu,ap,T] w) (λk=>x.aH.length-k.1) (0,Y,H) ⟨j,j,j,j,aX⟩ ⟨b4 _,j,bR,d⟩ ?_
   rintro⟨m,Z,bd⟩ w ⟨hm,a3,bQ,d⟩;dsimp only at hm a3 bQ d⊢;have dN:Z.length=z.parts.length:=by rw [a3,ts];exact dP
   have dS:∀b∈Z,b.ok g (M+512*pre.length+512):=λb bf=>by
    rw [a3] at bf;exact(tt (x:=x) (x.aH.take m) dM b bf).more (by rw [g9];omega)
   refine b8 4 j j (λc7=>?_) (λc7=>?_)
   .have a2:m<x.aH.length:=by omega
    have eG:(us.zip x.aH).length=x.aH.length:=by rw [oL];omega
    obtain⟨_,_,dd,_,_,c0,_⟩:=Row.read cZ (d.holds (G:=ap) (by simp));cases dd;have bv:(us.zip x.aH)[m]'(by omega)=(us[m]'(by omega),x.aH[m]):=List.getElem_zip;obtain⟨d8,ci,ce,bj,_,dX,dy⟩:=bV.read (d.holds (G:=T) (by simp)) m a2;obtain⟨W,X,rfl⟩:=u0 (r:=[]) dy dX;have d0:us[m]'(by omega)= .slice (some ⟨W,X,none⟩) 1 ci:=by rw [cn (by omega)] at ce;exact hB ce
    have d1:∀w,Holds w T->Rd w (some ⟨W,X+0*68,none⟩) (dq g x.aH[m] x.ao).cs:=λw ay=>by
     obtain⟨gY,ej,ag,_,_,aI,_⟩:=bV.read ay m a2;rw [ce] at ag;cases ag;simpa [vcs] using aI
    refine am 5 j (fp j j j j c0 (v:=ae x.aH[m].k) (h8 (f:=ctz) (J:=0) (us.zip x.aH) cK m (by omega) (by decide) (by rw [bv];rfl)) a2 (λei dg ep=>?_));have cY:=i0 (f:=ctz) (dg▸c0) cK m (by omega);rw [bv,d0] at cY;refine bM 0 (U:=(x.aH[m].cs++[Value.slice (some ⟨W,X,none⟩) 1 ci])) j j j cY (b7 0 d j (λac w d=>b6 0 (d.bc ac) j j j j j (λw d=>?_)));have d:=C.whole (U:=(x.aH[m].cs++[Value.slice (some ⟨W,X,none⟩) 1 ci])) d j;have d:C Q O (R ac (x.aH[m].cs++[Value.slice (some ⟨W,X,none⟩) 1 ci]).toArray 127::_) w:=d;have d:C Q O [R az #[ab aQ] 24,R n #[.pointer P] 47,bh g aQ c,R E cur 47,l,R t D 60,bd,R gc B 92,K,a7,bu,ap,T,R ac (x.aH[m].cs++[Value.slice (some ⟨W,X,none⟩) 1 ci]).toArray 127] w:=d.as;refine ar 2 j (ax (C.aj (b:=az) d) j) (ar 2 j (ax (C.aj (b:=aQ) d) (aG some cG)) ?_)
    refine cJ 3 j (ct:=Nat×List Chunk) (λk=>[(1,ab az),(7,ab ac),(22,.slice cj x.aH.length co),(23,.int .i64 (x.aH.length:Nat)),(24,.int .i64 (m:Nat)),(31,.slice (some ⟨t,0,none⟩) z.parts.length db),(32,.int .i64 (z.parts.length:Nat)),(33,.int .i64 (k.1:Nat))])
     (λk w=>k.1<=z.parts.length/\ed (jv g) aP ((Z.take k.1).map (λb:cR=>(b.dk g x.aH[m] (dq g x.aH[m] x.ao)).1)++Z.drop k.1) k.2/\C Q O [R az #[ab aQ] 24,R n #[.pointer P] 47,bh g aQ c,R E cur 47,l,R t D 60,k.2,R gc B 92,K,a7,bu,ap,T,R ac (x.aH[m].cs++[Value.slice (some ⟨W,X,none⟩) 1 ci]).toArray 127] w) (λk=>z.parts.length-k.1) (0,bd) ⟨j,j,j,j,j,j,j,j,aX⟩ ⟨b4 _,by simpa using bQ,d⟩ ?_
    rintro⟨J,cm⟩ w ⟨dz,be,d⟩;dsimp only at dz be d⊢;refine b8 4 j j (λc8=>?_) (λc8=>?_)
    .have cS:J<z.parts.length:=by omega
     have bY:J<Z.length:=by omega
     have cT:J<((Z.take J).map (λb:cR=>(b.dk g x.aH[m] (dq g x.aH[m] x.ao)).1)++Z.drop J).length:=by rw [b0,List.length_map,List.length_take,List.length_drop];omega
     obtain⟨v9,aU,bA,aV,cf,rfl,di,dU⟩:=be.at J cT;obtain⟨bi,rfl,cr⟩:=di;rw [FJ bY cT] at cr;refine am 5 j (hl j j j j cS ?_);refine ar 0 j (dJ _ (d.holds (G:=R t D 60) (by simp)) J _ cf) ?_;have d:C Q O ([R ac (x.aH[m].cs++[Value.slice (some ⟨W,X,none⟩) 1 ci]).toArray 127,T]++_) _:=d.front;have d:=d.drew;refine bt 1 j (λw=>∃ad,C Q O ([R ac (x.aH[m].cs++[Value.slice (some ⟨W,X,none⟩) 1 ci]).toArray 127,T]++ad) w) ⟨_,d⟩ ?_;refine af 0 2 j (aT 2 j (λw⟨_,d⟩=>c4 (U:=x.aH[m].cs) j j j ((d.bc ac).ij (off:=0) (U:=x.aH[m].cs) (λJ v a5=>by rw [fj];exact r8 (m:=x.aH[m]) (u:=Value.slice (some ⟨W,X,none⟩) 1 ci) a5))) (af 3 1 j (a8 4 j a1 j (aT 5 j (λw _=>gA (J:=0) j j (by decide)) (aT 6 j (λw⟨_,d⟩=>c4 (U:=(dq g x.aH[m] x.ao).cs) j j ((dq g x.aH[m] x.ao).len (i3 _ _ _)) (d1 _ (d.holds (G:=T) (by simp)))) (dA 7 j ?_))))));have d:C Q O [R az #[ab aQ] 24,R n #[.pointer P] 47,bh g aQ c,R E cur 47,l,R t D 60,aU,bA,aV,R gc B 92,K,a7,bu,ap,T,R ac (x.aH[m].cs++[Value.slice (some ⟨W,X,none⟩) 1 ci]).toArray 127] _:=C.perm (A:=[R az #[ab aQ] 24,R n #[.pointer P] 47,bh g aQ c,R E cur 47,l,R t D 60,aU++(bA++aV),R gc B 92,K,a7,bu,ap,T,R ac (x.aH[m].cs++[Value.slice (some ⟨W,X,none⟩) 1 ci]).toArray 127]) d.as (by simp);have bU:=dS Z[J] (d9 bY);refine cO j j j (A3 (m:=x.aH[m]) (v:=(dq g x.aH[m] x.ao)) cr (by have:=bU.ck;omega) (by have:=bU.acc;omega) (bU.len bZ) (cP.st d cV) bZ (d.eF cP cV) (i3 _ _ _) (d.ours (cC:=[bA]))) (λr w⟨b3,bb,dh,ah⟩=>?_);subst b3;have d:=d.b2 ah;have d:C Q O [R az #[ab aQ] 24,R n #[.pointer P] 47,bh g aQ c,R E cur 47,l,R t D 60,aU,bb,aV,R gc B 92,K,a7,bu,ap,T,R ac (x.aH[m].cs++[Value.slice (some ⟨W,X,none⟩) 1 ci]).toArray 127] _:=d.as;have d:C Q O [R az #[ab aQ] 24,R n #[.pointer P] 47,bh g aQ c,R E cur 47,l,R t D 60,aU++(bb++aV),R gc B 92,K,a7,bu,ap,T,R ac (x.aH[m].cs++[Value.slice (some ⟨W,X,none⟩) 1 ci]).toArray 127] _:=d.perm (by simp);refine an (cU (bq 1 j j j (cE J (by omega)) (bI 1 j ?_)));have aD:=dU (((λb:cR=>(b.dk g x.aH[m] (dq g x.aH[m] x.ao)).1)) Z[J]) bb ⟨bi,j,dh⟩;rw [FK bY] at aD;exact⟨(J+1,aU++(bb++aV)),⟨j,j,j,j,j,j,j,j,aX⟩,⟨cS,aD,d⟩,by dsimp only;omega⟩
    refine bq 2 j j j (cE m (by omega)) (bI 1 j ?_);have dB:J=z.parts.length:=by omega
    rw [dB,<-dN,gj,List.drop_length,hc] at be;have d:C Q O [R az #[ab aQ] 24,R n #[.pointer P] 47,bh g aQ c,R E cur 47,l,R t D 60,cm,R gc B 92,K,a7,bu,ap,T] _:=d.as;refine⟨(m+1,pz g x Z x.aH[m],cm),⟨j,j,j,j,aX⟩,⟨a2,?_,be,d⟩,by dsimp only;omega⟩;dsimp only;rw [fr a2,nR,<-a3];rfl
   refine bD 1 j ?_;have dD:m=x.aH.length:=by omega
   have d4:mF g z z.parts (pre++[(aE,ab aF)])=Z:=by
    rw [GN,aM];have e:aE.toNat=i:=by have ek:aE=((0+i:Nat):Int):=dC;omega
    show ke g Y ((z.bO[aE.toNat]?).getD none)=Z;rw [e,bw,a3,dD,gj];rfl
   have d:C Q O [R az #[ab aQ] 24,R n #[.pointer P] 47,bh g aQ c,R E cur 47,l,R t D 60,bd,R gc B 92,K,a7,bu] w:=d.as;exact⟨_,d,P,Z,bd,j,cL,d4,bQ,by rw [b0,List.length_singleton];omega⟩
 rintro xs ee w dp ⟨aq,Y,ak,rfl,br,aM,bR,dK⟩ d;subst dp;obtain⟨eH,eL,d2⟩:=aa.some_;obtain⟨eI,eJ,b1⟩:=yG aC 0 d2;obtain⟨F,S,eb,dw,dW,cD,cx⟩:=yE aC 0 b1
 obtain rfl:aq=some ⟨S,0,none⟩:=by
  rcases br with⟨ag,_⟩|⟨q,r,aF,ag,aI,aJ⟩
  .rw [b1] at ag;cases ag
  .rw [b1] at ag;cases ag;rw [dW] at aI;cases aI;exact aJ
 have dO:Y=z.bO.foldl (ke g) z.parts:=by
  rw [<-aM];exact zV aC 0 z.parts (λi bW=>by rw [fj];exact cn bW)
 have dR:=(vU (g:=g) (z:=z) ba (fg 0 U) aa.jP).2;have d:C o I (R az #[ab aQ] 24::[R n #[ab S] 47,bh g aQ c,R E cur 47,l,R t D 60,ak,R gc B 92,K,a7,bu]) w:=d.as;refine ar 3 j (ax (C.aj (b:=az) d) j) (ar 2 j (ax (C.aj (b:=aQ) d) (aG some cF)) ?_)
 refine cJ 3 j (ct:=Nat×List (bH×Int)×List Chunk) (λk=>[(3,ab n),(50,.slice (some ⟨gc,0,none⟩) z.cM.length da),(51,.int .i64 (z.cM.length:Nat)),(52,.int .i64 (k.1:Nat))])
  (λk w=>k.1<=z.cM.length/\k.2.1=(List.range k.1).foldl (kB F) z.cM/\ed ma bz k.2.1 k.2.2/\C o I [R n #[ab S] 47,bh g aQ c,R E cur 47,l,R t D 60,ak,R gc B 92,k.2.2,a7,bu] w) (λk=>z.cM.length-k.1) (0,z.cM,K) ⟨j,j,j,j,aX⟩ ⟨b4 _,j,cz,d.as⟩ ?_
 rintro⟨i,cs,bC⟩ w ⟨bW,a0,bS,d⟩;dsimp only at bW a0 bS d⊢;have dv:cs.length=z.cM.length:=by rw [a0];exact(wm (List.range i) aa.kt).2
 refine b8 4 j j (λc9=>?_) (λc9=>?_)
 .have bX:i<z.cM.length:=by omega
  have bs:i<cs.length:=by omega
  obtain⟨v9,H1,cl,au,cf,rfl,cv,cX⟩:=bS.at i bs;obtain⟨cp,bl⟩:∃cp,cs[i]=cp:=⟨_,j⟩;rw [bl] at cv;obtain⟨aN,aB,GE,rfl,cw,rfl⟩:=cv;have d:C o I [R n #[ab S] 47,bh g aQ c,R E cur 47,l,R t D 60,ak,R gc B 92,H1,dc aN aB cp.2,GE,au,a7,bu] w:=C.perm (A:=[R n #[ab S] 47,bh g aQ c,R E cur 47,l,R t D 60,ak,R gc B 92,H1++((dc aN aB cp.2++GE)++au),a7,bu]) d (by simp);refine am 6 j (hl j j j j bX ?_);refine ar 0 j (du _ (d.holds (G:=R gc B 92) (by simp)) i _ cf) ?_;have d:C o I ([R n #[ab S] 47,dc aN aB cp.2,l]++_) _:=d.front;have d:=d.drew;refine bt 3 j (λw=>∃ad,C o I ([R n #[ab S] 47,dc aN aB cp.2,l]++ad) w) ⟨_,d⟩ (a8 0 j a1 j (af 1 4 j (a8 5 j a1 j (aO 6 10 j j ?_ ?_))));refine bB j j j (w6 (c:=(i:Int)) (s:=cp.2) cD (cx _ (d.holds (G:=l) (by simp)))) (λw ah=>?_);have d:=d.aL ah;have d:C o I ([R n #[ab S] 47,dc aN aB cp.2,l]++_) _:=d.front;refine an ⟨⟨_,d⟩,?_⟩;refine af 7 3 j (aR 10 j (ew d j j (λaw w d=>?_)));have d:C o I (R aw #[ae 0,ae 0,ae 0] 129::_) w:=d;have d:C o I ([R n #[ab S] 47,dc aN aB cp.2,l]++_) _:=d.front;refine an ⟨⟨_,d⟩,?_⟩;rotate_left
  refine ew d j j (λaw w d=>?_);have d:C o I (R aw #[ae 0,ae 0,ae 0] 129::_) w:=d;have d:C o I ([R n #[ab S] 47,dc aN aB cp.2,l]++_) _:=d.front;refine an ⟨⟨_,d⟩,?_⟩;refine aR 6 j (bB j j j (w6 (c:=(i:Int)) (s:=cp.2) cD (cx _ (d.holds (G:=l) (by simp)))) (λw ah=>?_));have d:=d.aL ah;have d:C o I ([R n #[ab S] 47,dc aN aB cp.2,l]++_) _:=d.front;refine an ⟨⟨_,d⟩,?_⟩;refine af 7 3 j ?_;rotate_left
  all_goals
   refine aR 11 j (c2 (d.bc aw) j j j j j bG (λw d=>?_));have d:=C.whole (U:=[ae (if 0<=(i:Int)/\(i:Int)<=15/\0<=cp.2/\cp.2<=1048576 then((aZ F.answers (fh (i:Int) cp.2)).getD (0,0,0)) else(0,0,0)).1,ae (if 0<=(i:Int)/\(i:Int)<=15/\0<=cp.2/\cp.2<=1048576 then((aZ F.answers (fh (i:Int) cp.2)).getD (0,0,0)) else(0,0,0)).2.1,ae (if 0<=(i:Int)/\(i:Int)<=15/\0<=cp.2/\cp.2<=1048576 then((aZ F.answers (fh (i:Int) cp.2)).getD (0,0,0)) else(0,0,0)).2.2]) d j;have d:C o I (R aw #[ae (if 0<=(i:Int)/\(i:Int)<=15/\0<=cp.2/\cp.2<=1048576 then((aZ F.answers (fh (i:Int) cp.2)).getD (0,0,0)) else(0,0,0)).1,ae (if 0<=(i:Int)/\(i:Int)<=15/\0<=cp.2/\cp.2<=1048576 then((aZ F.answers (fh (i:Int) cp.2)).getD (0,0,0)) else(0,0,0)).2.1,ae (if 0<=(i:Int)/\(i:Int)<=15/\0<=cp.2/\cp.2<=1048576 then((aZ F.answers (fh (i:Int) cp.2)).getD (0,0,0)) else(0,0,0)).2.2] 129::_) w:=d;have d:C o I ([R n #[ab S] 47,dc aN aB cp.2,l]++_) _:=d.front;refine an ⟨⟨_,d⟩,?_⟩;refine af 12 1 j (bK (bm 3 j j (λbF=>?_) (λbF=>?_)))
   .have d:C o I ([R aw #[ae (if 0<=(i:Int)/\(i:Int)<=15/\0<=cp.2/\cp.2<=1048576 then((aZ F.answers (fh (i:Int) cp.2)).getD (0,0,0)) else(0,0,0)).1,ae (if 0<=(i:Int)/\(i:Int)<=15/\0<=cp.2/\cp.2<=1048576 then((aZ F.answers (fh (i:Int) cp.2)).getD (0,0,0)) else(0,0,0)).2.1,ae (if 0<=(i:Int)/\(i:Int)<=15/\0<=cp.2/\cp.2<=1048576 then((aZ F.answers (fh (i:Int) cp.2)).getD (0,0,0)) else(0,0,0)).2.2] 129,dc aN aB cp.2]++_) _:=d.front;have d:=d.drew;refine bt 0 j (λw=>∃ad,C o I ([R aw #[ae (if 0<=(i:Int)/\(i:Int)<=15/\0<=cp.2/\cp.2<=1048576 then((aZ F.answers (fh (i:Int) cp.2)).getD (0,0,0)) else(0,0,0)).1,ae (if 0<=(i:Int)/\(i:Int)<=15/\0<=cp.2/\cp.2<=1048576 then((aZ F.answers (fh (i:Int) cp.2)).getD (0,0,0)) else(0,0,0)).2.1,ae (if 0<=(i:Int)/\(i:Int)<=15/\0<=cp.2/\cp.2<=1048576 then((aZ F.answers (fh (i:Int) cp.2)).getD (0,0,0)) else(0,0,0)).2.2] 129,dc aN aB cp.2]++ad) w) ⟨_,d⟩ ?_;refine af 0 3 j (a8 3 j a1 j (af 4 3 j (a8 7 j a1 j (aT 8 j (λw⟨_,d⟩=>c4 (U:=[ae (if 0<=(i:Int)/\(i:Int)<=15/\0<=cp.2/\cp.2<=1048576 then((aZ F.answers (fh (i:Int) cp.2)).getD (0,0,0)) else(0,0,0)).1,ae (if 0<=(i:Int)/\(i:Int)<=15/\0<=cp.2/\cp.2<=1048576 then((aZ F.answers (fh (i:Int) cp.2)).getD (0,0,0)) else(0,0,0)).2.1,ae (if 0<=(i:Int)/\(i:Int)<=15/\0<=cp.2/\cp.2<=1048576 then((aZ F.answers (fh (i:Int) cp.2)).getD (0,0,0)) else(0,0,0)).2.2]) j j j (bn (C.aj (b:=aw) d))) ?_))));refine dA 9 j (bB j j j (Iw (s:=cp.2) (a:=(if 0<=(i:Int)/\(i:Int)<=15/\0<=cp.2/\cp.2<=1048576 then((aZ F.answers (fh (i:Int) cp.2)).getD (0,0,0)) else(0,0,0))) cw (d.ours (cC:=[GE]))) (λw⟨aS,dj,ah⟩=>?_));have d:=d.b2 ah;refine an (cU (bq 1 j j j (cE i (by omega)) (bI 1 j ?_)))
    have bT:F.answer (i:Int) cp.2=some (if 0<=(i:Int)/\(i:Int)<=15/\0<=cp.2/\cp.2<=1048576 then((aZ F.answers (fh (i:Int) cp.2)).getD (0,0,0)) else(0,0,0)):=by
     have V:(decide (0<=(i:Int)/\(i:Int)<=15/\0<=cp.2/\cp.2<=1048576)&&(aZ F.answers (fh (i:Int) cp.2)).isSome)=true:=bF;simp only [ea,gd] at V;unfold bo.answer;rw [a6 V.1,a6 V.1];obtain⟨a9,dt⟩:=ha.1 V.2;rw [dt];rfl
    have bj:cs[i]? =some cp:=by rw [cn bs,bl]
    have cd:kB F cs i=cs.set i ((cp.1.told cp.2 (if 0<=(i:Int)/\(i:Int)<=15/\0<=cp.2/\cp.2<=1048576 then((aZ F.answers (fh (i:Int) cp.2)).getD (0,0,0)) else(0,0,0))).1,cp.2):=by
     unfold kB;rw [bj];dsimp only;rw [bT]
    have aD:=cX ((cp.1.told cp.2 (if 0<=(i:Int)/\(i:Int)<=15/\0<=cp.2/\cp.2<=1048576 then((aZ F.answers (fh (i:Int) cp.2)).getD (0,0,0)) else(0,0,0))).1,cp.2) (dc aN aB cp.2++aS) ⟨aN,aB,aS,j,dj,j⟩;have d:C o I [R n #[ab S] 47,bh g aQ c,R E cur 47,l,R t D 60,ak,R gc B 92,H1,dc aN aB cp.2,aS,au,a7,bu] _:=d.as;refine⟨(i+1,cs.set i ((cp.1.told cp.2 (if 0<=(i:Int)/\(i:Int)<=15/\0<=cp.2/\cp.2<=1048576 then((aZ F.answers (fh (i:Int) cp.2)).getD (0,0,0)) else(0,0,0))).1,cp.2),H1++((dc aN aB cp.2++aS)++au)),⟨j,j,j,j,aX⟩,⟨bX,?_,aD,C.perm (A:=[R n #[ab S] 47,bh g aQ c,R E cur 47,l,R t D 60,ak,R gc B 92,H1,dc aN aB cp.2,aS,au,a7,bu]) d (by simp)⟩,by dsimp only;omega⟩;dsimp only;rw [nO,nR,<-a0];exact cd.symm
   refine bq 2 j j j (cE i (by omega)) (bI 1 j ?_)
   have bT:F.answer (i:Int) cp.2=none:=by
    have V:(decide (0<=(i:Int)/\(i:Int)<=15/\0<=cp.2/\cp.2<=1048576)&&(aZ F.answers (fh (i:Int) cp.2)).isSome)=false:=bF;unfold bo.answer;split
    .rename_i de;rw [je de,rK] at V;cases dV:aZ F.answers (fh (i:Int) cp.2) with
     |none=>rfl
     |some _=>rw [dV] at V;cases V
    .rfl
   have bj:cs[i]? =some cp:=by rw [cn bs,bl]
   have cd:kB F cs i=cs:=by
    unfold kB;rw [bj];dsimp only;rw [bT]
   have aD:=cX cp (dc aN aB cp.2++GE) ⟨aN,aB,GE,j,cw,j⟩;have dY:cs.set i cp=cs:=by rw [<-bl];exact List.set_getElem_self bs
   rw [dY] at aD;have d:C o I [R n #[ab S] 47,bh g aQ c,R E cur 47,l,R t D 60,ak,R gc B 92,H1,dc aN aB cp.2,GE,au,a7,bu] _:=d.as;refine⟨(i+1,cs,H1++((dc aN aB cp.2++GE)++au)),⟨j,j,j,j,aX⟩,⟨bX,?_,aD,C.perm (A:=[R n #[ab S] 47,bh g aQ c,R E cur 47,l,R t D 60,ak,R gc B 92,H1,dc aN aB cp.2,GE,au,a7,bu]) d (by simp)⟩,by dsimp only;omega⟩;dsimp only;rw [nO,nR,<-a0];exact cd.symm
 refine bD 4 j ⟨ae 0,λw dZ=>?_⟩;have d:=dZ.st d (cI _);refine⟨λa ds=>i8 (fn:=f25) ds j _ _,?_⟩;have bv:i=z.cM.length:=by omega
 have d5:z.polls g={z with parts:=Y,cM:=cs}:=by
  unfold aY.polls;rw [dw,<-dO,a0,bv]
 rw [d5];have d:C o I [bh g aQ c,R E cur 47,l,R t D 60,ak,R gc B 92,bC,a7,bu] w:=d.as;refine⟨j,_,⟨c,R E cur 47++l,R t D 60++ak,R gc B 92++bC,a7,bu,⟨⟨_,_,U,j,by rw [bp,<-c1];exact a4,aC⟩,⟨_,_,aP,j,by show Row 60 1 c.parts Y.length aP _;rw [<-aM,dR];exact cb,bR⟩,⟨_,_,bz,j,by show Row 92 1 c.cM cs.length bz _;rw [dv];exact ca,bS⟩,aA.bx,aA.heard⟩,j⟩,C.perm (A:=[bh g aQ c,R E cur 47,l,R t D 60,ak,R gc B 92,bC,a7,bu]) d (by simp)⟩
section
variable {P:Program} {n:Fr} {Z:Env} {w:World} {Q:d6} {ops:Array Oper} {rest:List Oper} {dst:Option Nat} {ty:TypeId} {pos:String} {after:Array Edge} {g:Option (Nat×Bool)}
theorem tF{s t:TypeId}{d:TypeDesc}{x:Operand}{k:IntKind}{i:Int}[aM:bA P s d][e:bA P t .string](f:bs Z x=some (.int k i)){J:ByteArray}(c:Utf8.encode i=J):
 ∀a,cK Z n.n a->(execOp a.eval ⟨dst,.convert s t x,ty,pos,after,g⟩).run P w= .ok (.value (.string J)) w:=
 λa b=>by
  subst c;simp [execOp,b.eval f,convert,d8 aM.h,d8 e.h,Conv.intToString]
end
def kv(i:Nat):List UInt8:=[UInt8.ofNat (97+i)]
def hJ(m i:Nat):List (Option bo):=(List.range i).map (λJ:Nat=>some (bo.new (J:Int)))++List.replicate (m-i) none
theorem lv{m i:Nat}(h:i<=m):(hJ m i).length=m:=by simp [hJ];omega
theorem v7{m i:Nat}(h:i<m):(hJ m i).set i (some (bo.new (i:Int)))=hJ m (i+1):=by
 have a:((List.range i).map (λJ:Nat=>some (bo.new (J:Int)))).length=i:=by simp
 unfold hJ;rw [t4 _ _ (by omega),a,Nat.sub_self,show m-i=(m-(i+1))+1 by omega,rH,rM,nO,jD,List.append_assoc];rfl
def i7(i:Nat):List cR:=List.replicate i cR.new
def ks(i:Nat):List (bH×Int):=(List.range i).map λJ:Nat=>(bH.new (J:Int) (kv J),-1)
def aY.new(n k:Nat):aY:={bO:=hJ n (n-k),parts:=i7 4,cM:=ks 3,bx:=[],lost:=0,heard:=[]}
section
variable {α:Type} {V:Value->α->List Chunk->Prop}
theorem ed.rep{v:Value}{x:α}(h:V v x []):∀m:Nat,ed V (List.replicate m v) (List.replicate m x) []
 |0=>rfl
 |m+1=>⟨[],[],j,h,ed.rep h m⟩
theorem ed.put:∀{U:List Value}{xs:List α}{G:List Chunk},ed V U xs G->∀(i:Nat)(b:i<xs.length),∃ai d aA,G=ai++(d++aA)/\V (U[i]?.getD (.pointer none)) xs[i] d/\∀v e9 a,V v e9 a->ed V (U.set i v) (xs.set i e9) (ai++(a++aA))
 |[],[],_,_=>λi b=>absurd b (by simp)
 |[],_::_,_,h=>h.elim
 |_::_,[],_,h=>h.elim
 |v::U,x::xs,_,⟨ai,aA,rfl,f,h⟩=>λi b=>by
  cases i with
  |zero=>exact⟨[],ai,aA,j,f,λg e9 a c=>⟨a,aA,j,c,h⟩⟩
  |succ i=>
   obtain⟨H1,k,e,rfl,l,m⟩:=h.put i (by simpa using b);exact⟨ai++H1,k,e,by simp,l,λg e9 a c=>⟨ai,H1++(a++e),by simp,f,m g e9 a c⟩⟩
end
theorem F6{o:World}{aS k:Nat}(aJ:aS=4\/aS=7)(aa:k<=jM aS):Calls prog 17 #[.int .i64 (aS:Nat),.int .i64 (k:Nat)] o λr w=>∃(aQ:Nat)(g:al)(G:List Chunk),r= .tuple #[ab aQ,ae 0]/\g.ok/\g.keys=of aS (br [1])/\eP g aQ (aY.new aS k) G/\C o [] [dD g,G] w:=by
 have a:Own [] o:=C.start o;have bs:k<=aS:=ek aa (by rcases aJ with rfl|rfl<;>decide);have bu:4<=aS/\aS<=7:=by omega
 refine a2 func17 (lV 4 j (λZ w=>sub Z [(0,.int .i64 (aS:Nat)),(1,.int .i64 (k:Nat))]/\C o [] [] w) ?_ ?_)
 .refine am 5 j (cT 11 j (λbg=>?_) (λbg=>?_));refine am 4 j (bS 15 (.bool false) j (aG Value.bool ((by rcases aJ with rfl|rfl<;>first|rfl|exact absurd bg (by decide)))) ?_);rotate_left
  refine am 4 j (bS 15 (.bool false) j (aG Value.bool (j)) ?_);rotate_left
  all_goals
   refine am 4 j (bS 19 (.bool false) j (aG Value.bool ((e4 (by omega)))) ?_);refine bp 2 (yb (n:=aS) (by omega)) j (λbm hw=>?_);subst bm;exact iI 2 j j ((e4 (by omega))) (bI 1 j ⟨⟨j,j,aX⟩,a⟩)
 rintro Z w ⟨aM,a⟩;refine lD [(0,.int .i64 (aS:Nat)),(1,.int .i64 (k:Nat))] aM ?_;have a:=a.drew;refine bt 1 j (λw=>True) aX (af 0 1 j (af 4 1 j (aO 1 5 j j ?_ ?_)))
 .refine eC a j j j j j j bG (λaC w a=>?_);have aD:=a.bz;refine an ⟨aX,?_⟩;refine aO 2 5 j j ?_ ?_;have aD:Rd _ (some ⟨aC,0,none⟩) (au [1]):=bn (C.aj (b:=aC) a);refine bB j j j (pw (p:=[1]) aD (by decide) (by decide)) (λw t=>?_);have a:=a.aL t;refine an ⟨aX,?_⟩;refine aO 3 5 j j ?_ ?_
  .refine cO j j j (vE (n:=aS) (dE:=br [1]) (by omega) (eK _)) (λr w⟨g,I,a9,a6,t⟩=>?_);subst I;have a:=a.aL t;refine an ⟨aX,?_⟩;refine aO 5 6 j j ?_ ?_;refine lC (l:=aS) (c:=aS) a j j j j (by omega) (by omega) (by unfold maxLen;omega) (λd bQ w bf Q a=>an ⟨aX,?_⟩);refine aR 6 j (cO j j j sF (λr w⟨a7,ap,t⟩=>?_));obtain⟨q,aE⟩:∃q,r=ab q:=by obtain⟨b,v,H,h,_⟩:=ap;exact⟨b,h⟩
   subst aE;have a:=a.aL t;rotate_left
   refine cO j j j sF (λr w⟨a7,ap,t⟩=>?_);obtain⟨q,aE⟩:∃q,r=ab q:=by obtain⟨b,v,H,h,_⟩:=ap;exact⟨b,h⟩
   subst aE;have a:=a.aL t;refine an ⟨aX,?_⟩;refine aR 5 j (lC (l:=aS) (c:=aS) a j j j j (by omega) (by omega) (by unfold maxLen;omega) (λd bQ w bf Q a=>?_));rotate_left
   all_goals
    refine an ⟨aX,?_⟩;refine aT 7 j (λw _=>e3 (c:=(l8 g (⟨.slice (some ⟨d,0,none⟩) aS aS,.slice none 0 0,.slice none 0 0,ab q,.slice none 0 0⟩:ch)).toArray) j (λ_=>by kernel_rfl)) (aR 8 j (lB a j j j (λf w a=>?_)));have a:C o [] (bh g f (⟨.slice (some ⟨d,0,none⟩) aS aS,.slice none 0 0,.slice none 0 0,ab q,.slice none 0 0⟩:ch)::_) w:=a;have Q:bQ=(List.replicate aS (Value.pointer none)).toArray:=Q.trans (by rcases aJ with rfl|rfl<;>kernel_rfl);subst Q;have a:C o [] [bh g f (⟨.slice (some ⟨d,0,none⟩) aS aS,.slice none 0 0,.slice none 0 0,ab q,.slice none 0 0⟩:ch),R d (List.replicate aS (Value.pointer none)).toArray 47,a7,dD g] w:=a.as;refine an ⟨aX,?_⟩;refine af 9 1 j (bK (bq 5 j j j (hE aS k (by omega) (by omega)) ?_))
    refine cJ 2 j (ct:=Nat×List Value×List Chunk) (λe=>[(6,ab f),(36,.int .i64 (aS-k:Nat)),(37,.int .i64 (e.1:Nat))])
     (λe w=>e.1<=aS-k/\e.2.1.length=aS/\ed (h4 g) e.2.1 (hJ aS e.1) e.2.2/\C o [] [bh g f (⟨.slice (some ⟨d,0,none⟩) aS aS,.slice none 0 0,.slice none 0 0,ab q,.slice none 0 0⟩:ch),R d e.2.1.toArray 47,e.2.2,a7,dD g] w) (λe=>aS-k-e.1) (0,List.replicate aS (.pointer none),[]) ⟨j,j,j,aX⟩ ⟨b4 _,oI,ed.rep (V:=h4 g) (x:=none) ⟨j,j⟩ aS,C.perm (A:=[bh g f (⟨.slice (some ⟨d,0,none⟩) aS aS,.slice none 0 0,.slice none 0 0,ab q,.slice none 0 0⟩:ch),R d (List.replicate aS (Value.pointer none)).toArray 47,a7,dD g]) a (by simp)⟩ ?_
    rintro⟨i,U,y⟩ w ⟨M,ai,X,a⟩;dsimp only at M ai X a⊢;refine b8 4 j j (λaH=>?_) (λaH=>?_)
    .have a:C o [] ([bh g f (⟨.slice (some ⟨d,0,none⟩) aS aS,.slice none 0 0,.slice none 0 0,ab q,.slice none 0 0⟩:ch)]++_) w:=a.front;have a:=a.drew;have bl:i<aS-k:=by omega
     obtain⟨H1,aF,S,a0,aA,bd⟩:=X.put i (by rw [lv (by omega)];omega);refine bt 7 j (λw=>∃ad,C o [] ([bh g f (⟨.slice (some ⟨d,0,none⟩) aS aS,.slice none 0 0,.slice none 0 0,ab q,.slice none 0 0⟩:ch)]++ad) w) ⟨_,a⟩ (af 0 3 j (a8 3 j a1 j (af 4 4 j (a8 8 j a1 j (af 9 1 j (aR 10 j (cO j j j (vF (g:=g) (ao:=(i:Int))) (λr w⟨K,O,I,a5,t⟩=>?_))))))));subst I;have a:=a.aL t;have a:C o [] ([bh g f (⟨.slice (some ⟨d,0,none⟩) aS aS,.slice none 0 0,.slice none 0 0,ab q,.slice none 0 0⟩:ch)]++_) w:=a.front;refine an ⟨⟨_,a⟩,?_⟩;refine aT 11 j (λw _=>gA (J:=i) j j (by omega)) (dA 12 j (cB (a.bc d) j j j j (by rw [hA];omega) (λw a=>?_)));have a:C o [] (R d (U.toArray.setIfInBounds (0+i*1) (ab K)) 47::_) w:=a;rw [t6,fj,gG] at a;refine an (cU (bq 1 j j j (cE i (by omega)) (bI 1 j ?_)));have D:=bd (ab K) (some (bo.new (i:Int))) O ⟨K,j,a5⟩;rw [v7 (by omega)] at D
     have a3:aF=[]:=by
      have aV:(hJ aS i)[i]'(by rw [lv (by omega)];omega)=none:=by
       unfold hJ;rw [t7 (by simp)];simp
      rw [aV] at aA;exact aA.2
     subst a0;subst a3;have a:C o [] [bh g f (⟨.slice (some ⟨d,0,none⟩) aS aS,.slice none 0 0,.slice none 0 0,ab q,.slice none 0 0⟩:ch),R d (U.set i (ab K)).toArray 47,H1,S,O,a7,dD g] w:=C.perm (A:=[bh g f (⟨.slice (some ⟨d,0,none⟩) aS aS,.slice none 0 0,.slice none 0 0,ab q,.slice none 0 0⟩:ch),R d (U.set i (ab K)).toArray 47,H1++([]++S),O,a7,dD g]) a.as (by simp);have a:C o [] [bh g f (⟨.slice (some ⟨d,0,none⟩) aS aS,.slice none 0 0,.slice none 0 0,ab q,.slice none 0 0⟩:ch),R d (U.set i (ab K)).toArray 47,H1,O,S,a7,dD g] w:=a.as;exact⟨(i+1,_,_),⟨j,j,j,aX⟩,⟨by dsimp only;omega,by dsimp only;rw [hp];exact ai,D,a.perm (by simp)⟩,by dsimp only;omega⟩
    have N:i=aS-k:=by omega
    subst N
    refine cJ 6 j (ct:=Nat×Value×List Value×List Chunk×List Chunk) (λe=>[(6,ab f),(53,.int .i64 (e.1:Nat))])
     (λe w=>e.1<=4/\Row 60 1 e.2.1 e.1 e.2.2.1 e.2.2.2.1/\ed (jv g) e.2.2.1 (i7 e.1) e.2.2.2.2/\C o [] [bh g f (⟨.slice (some ⟨d,0,none⟩) aS aS,e.2.1,.slice none 0 0,ab q,.slice none 0 0⟩:ch),R d U.toArray 47,y,e.2.2.2.1,e.2.2.2.2,a7,dD g] w) (λe=>4-e.1) (0,.slice none 0 0,[],[],[]) ⟨j,j,aX⟩ ⟨b4 _,Row.nil _ _,j,a.perm (by simp)⟩ ?_
    rintro⟨i,s,us,E,B⟩ w ⟨M,ah,ac,a⟩;dsimp only at M ah ac a⊢;refine b8 4 j j (λaI=>?_) (λaI=>?_)
    .have a:C o [] ([bh g f (⟨.slice (some ⟨d,0,none⟩) aS aS,s,.slice none 0 0,ab q,.slice none 0 0⟩:ch)]++_) w:=a.front;have a:=a.drew;have bk:i<4:=by omega
     refine bt 3 j (λw=>∃ad,C o [] ([bh g f (⟨.slice (some ⟨d,0,none⟩) aS aS,s,.slice none 0 0,ab q,.slice none 0 0⟩:ch)]++ad) w) ⟨_,a⟩ (af 0 4 j (a8 4 j a1 j (af 5 3 j (a8 8 j a1 j (aR 9 j (cO j j j (vB (g:=g)) (λr w⟨bi,ar,I,aW,t⟩=>?_)))))));subst I;have a:=a.aL t;have a:C o [] ([bh g f (⟨.slice (some ⟨d,0,none⟩) aS aS,s,.slice none 0 0,ab q,.slice none 0 0⟩:ch)]++_) w:=a.front;refine an ⟨⟨_,a⟩,?_⟩;refine aR 10 j (eC a j j j j j j bG (λaw w a=>?_));have ba:Rd _ (some ⟨aw,0,none⟩) [Value.pointer (some ⟨bi,0,none⟩)]:=bn (C.aj (b:=aw) a);have a:C o [] ([bh g f (⟨.slice (some ⟨d,0,none⟩) aS aS,s,.slice none 0 0,ab q,.slice none 0 0⟩:ch)]++_) w:=a.front;refine an ⟨⟨_,a⟩,?_⟩;refine aR 11 j ?_;have a:C o [] [E,bh g f (⟨.slice (some ⟨d,0,none⟩) aS aS,s,.slice none 0 0,ab q,.slice none 0 0⟩:ch),R d U.toArray 47,y,B,ar,a7,dD g] _:=a.as;refine dR a ah j j (by decide) j j j (news:=[Value.pointer (some ⟨bi,0,none⟩)]) (m:=1) j ba (λu hu=>by rw [List.mem_singleton.1 hu];rfl) (by omega) (by unfold maxLen;omega) (λak av w az a=>?_);have a:C o [] ([bh g f (⟨.slice (some ⟨d,0,none⟩) aS aS,s,.slice none 0 0,ab q,.slice none 0 0⟩:ch)]++_) w:=a.front;refine an ⟨⟨_,a⟩,?_⟩;refine af 12 2 j (dA 14 j (cB (a.bc f) j j j az.one bG (λw a=>?_)));have a:C o [] (bh g f (⟨.slice (some ⟨d,0,none⟩) aS aS,ak,.slice none 0 0,ab q,.slice none 0 0⟩:ch)::_) w:=a;refine an (cU (bq 1 j j j (cE i (by omega)) (bI 1 j ?_)));have D:=ac.app (ed.one (V:=jv g) (x:=cR.new) ⟨bi,j,aW⟩);have W:i7 i++[cR.new]=i7 (i+1):=by unfold i7;rw [List.replicate_succ']
     rw [W] at D;have a:C o [] [bh g f (⟨.slice (some ⟨d,0,none⟩) aS aS,ak,.slice none 0 0,ab q,.slice none 0 0⟩:ch),R d U.toArray 47,y,av,B,ar,a7,dD g] w:=a.as;exact⟨(i+1,ak,_,av,_),⟨j,j,aX⟩,⟨by dsimp only;omega,az,D,a.perm (by simp)⟩,by dsimp only;omega⟩
    have N:i=4:=by omega
    subst N
    refine cJ 6 j (ct:=Nat×Value×List Value×List Chunk×List Chunk) (λe=>[(6,ab f),(70,.int .i64 (e.1:Nat))])
     (λe w=>e.1<=3/\Row 92 1 e.2.1 e.1 e.2.2.1 e.2.2.2.1/\ed ma e.2.2.1 (ks e.1) e.2.2.2.2/\C o [] [bh g f (⟨.slice (some ⟨d,0,none⟩) aS aS,s,e.2.1,ab q,.slice none 0 0⟩:ch),R d U.toArray 47,y,E,B,e.2.2.2.1,e.2.2.2.2,a7,dD g] w) (λe=>3-e.1) (0,.slice none 0 0,[],[],[]) ⟨j,j,aX⟩ ⟨b4 _,Row.nil _ _,j,a.perm (by simp)⟩ ?_
    rintro⟨i,z,be,eZ,L⟩ w ⟨M,ag,Y,a⟩;dsimp only at M ag Y a⊢;refine b8 4 j j (λaK=>?_) (λaK=>?_)
    .have a:C o [] ([bh g f (⟨.slice (some ⟨d,0,none⟩) aS aS,s,z,ab q,.slice none 0 0⟩:ch)]++_) w:=a.front;have a:=a.drew;have bj:i<3:=by omega
     have aP:evalBin .add .i64 97 (i:Int)=some (.int .i64 ((97+i:Nat):Int)):=by rcases(show i=0\/i=1\/i=2 by omega) with rfl|rfl|rfl<;>rfl
     have aN:IntKind.i32.wrap ((97+i:Nat):Int)=((97+i:Nat):Int):=by rcases(show i=0\/i=1\/i=2 by omega) with rfl|rfl|rfl<;>rfl
     have aU:Utf8.encode ((97+i:Nat):Int)=strOf (kv i):=by rcases(show i=0\/i=1\/i=2 by omega) with rfl|rfl|rfl<;>rfl
     refine bt 7 j (λw=>∃ad,C o [] ([bh g f (⟨.slice (some ⟨d,0,none⟩) aS aS,s,z,ab q,.slice none 0 0⟩:ch)]++ad) w) ⟨_,a⟩ (af 0 4 j (a8 4 j a1 j (af 5 2 j (aT 7 j (λw _=>ds j j aP) (aT 8 j (λw _=>kg j aN) (aT 9 j (λw _=>tF j aU) (aR 10 j (cO j j j (vC (n:=(i:Int)) (x:=kv i)) (λr w⟨aB,GE,I,aZ,t⟩=>?_)))))))));subst I;have a:=a.aL t;have a:C o [] ([bh g f (⟨.slice (some ⟨d,0,none⟩) aS aS,s,z,ab q,.slice none 0 0⟩:ch)]++_) w:=a.front;refine an ⟨⟨_,a⟩,?_⟩;refine aT 11 j (λw _=>e3 (c:= #[ab aB,ae (-1)]) j (λ_=>by kernel_rfl)) (aR 12 j (lB a j j j (λF w a=>?_)));have a:C o [] (dc F aB (-1)::_) w:=a;have a:C o [] ([bh g f (⟨.slice (some ⟨d,0,none⟩) aS aS,s,z,ab q,.slice none 0 0⟩:ch)]++_) w:=a.front;refine an ⟨⟨_,a⟩,?_⟩;refine aR 13 j (eC a j j j j j j bG (λax w a=>?_));have bb:Rd _ (some ⟨ax,0,none⟩) [Value.pointer (some ⟨F,0,none⟩)]:=bn (C.aj (b:=ax) a);have a:C o [] ([bh g f (⟨.slice (some ⟨d,0,none⟩) aS aS,s,z,ab q,.slice none 0 0⟩:ch)]++_) w:=a.front;refine an ⟨⟨_,a⟩,?_⟩;refine aR 14 j ?_;have a:C o [] [eZ,bh g f (⟨.slice (some ⟨d,0,none⟩) aS aS,s,z,ab q,.slice none 0 0⟩:ch),R d U.toArray 47,y,E,B,L,dc F aB (-1),GE,a7,dD g] _:=a.as;refine dR a ag j j (by decide) j j j (news:=[Value.pointer (some ⟨F,0,none⟩)]) (m:=1) j bb (λu hu=>by rw [List.mem_singleton.1 hu];rfl) (by omega) (by unfold maxLen;omega) (λP T w ay a=>?_);have a:C o [] ([bh g f (⟨.slice (some ⟨d,0,none⟩) aS aS,s,z,ab q,.slice none 0 0⟩:ch)]++_) w:=a.front;refine an ⟨⟨_,a⟩,?_⟩;refine af 15 2 j (dA 17 j (cB (a.bc f) j j j ay.one bG (λw a=>?_)));have a:C o [] (bh g f (⟨.slice (some ⟨d,0,none⟩) aS aS,s,P,ab q,.slice none 0 0⟩:ch)::_) w:=a;refine an (cU (bq 1 j j j (cE i (by omega)) (bI 1 j ?_)));have D:=Y.app (ed.one (V:=ma) (x:=(bH.new (i:Int) (kv i),(-1:Int))) ⟨F,aB,GE,j,aZ,j⟩);have W:ks i++[(bH.new (i:Int) (kv i),(-1:Int))]=ks (i+1):=by unfold ks;rw [List.range_succ,List.map_append];rfl
     rw [W] at D;have a:C o [] [bh g f (⟨.slice (some ⟨d,0,none⟩) aS aS,s,P,ab q,.slice none 0 0⟩:ch),R d U.toArray 47,y,E,B,T,L,dc F aB (-1),GE,a7,dD g] w:=a.as;exact⟨(i+1,P,_,T,_),⟨j,j,aX⟩,⟨by dsimp only;omega,ay,D,C.perm (A:=[bh g f (⟨.slice (some ⟨d,0,none⟩) aS aS,s,P,ab q,.slice none 0 0⟩:ch),R d U.toArray 47,y,E,B,T,L,dc F aB (-1),GE,a7,dD g]) a (by simp)⟩,by dsimp only;omega⟩
    refine aq 6 j j ?_;have N:i=3:=by omega
    subst N;have a4:Row 47 1 (.slice (some ⟨d,0,none⟩) aS aS) aS U (R d U.toArray 47):=Row.full (by unfold maxLen;omega) (by rw [List.size_toArray,ai,Nat.mul_one]);exact⟨f,g,_,j,a9,a6,⟨(⟨.slice (some ⟨d,0,none⟩) aS aS,s,z,ab q,.slice none 0 0⟩:ch),R d U.toArray 47++y,E++B,eZ++L,a7,[],⟨⟨_,_,U,j,by show Row 47 1 _ (hJ aS (aS-k)).length U _;rw [lv (by omega)];exact a4,X⟩,⟨_,_,us,j,ah,ac⟩,⟨_,_,be,j,ag,Y⟩,ap,cw.nil⟩,j⟩,C.perm (A:=[dD g,bh g f (⟨.slice (some ⟨d,0,none⟩) aS aS,s,z,ab q,.slice none 0 0⟩:ch),R d U.toArray 47,y,E,B,eZ,L,a7]) a.as (by simp)⟩
  refine lC (l:=aS) (c:=aS) a j j j j (by omega) (by omega) (by unfold maxLen;omega) (λd bQ w bf Q a=>?_);rotate_left
  refine lC (l:=aS) (c:=aS) a j j j j (by omega) (by omega) (by unfold maxLen;omega) (λd bQ w bf Q a=>an ⟨aX,?_⟩);refine aR 2 j ?_;have aD:Rd _ (some ⟨aC,0,none⟩) (au [1]):=bn (C.aj (b:=aC) a);refine bB j j j (pw (p:=[1]) aD (by decide) (by decide)) (λw t=>?_);have a:=a.aL t;rotate_left
  all_goals
   refine an ⟨aX,?_⟩;refine aR 3 j (cO j j j (vE (n:=aS) (dE:=br [1]) (by omega) (eK _)) (λr w⟨g,I,a9,a6,t⟩=>?_));subst I;have a:=a.aL t;refine an ⟨aX,?_⟩;refine aR 6 j (cO j j j sF (λr w⟨a7,ap,t⟩=>?_));obtain⟨q,aE⟩:∃q,r=ab q:=by obtain⟨b,v,H,h,_⟩:=ap;exact⟨b,h⟩
   subst aE;have a:=a.aL t;refine an ⟨aX,?_⟩;refine aT 7 j (λw _=>e3 (c:=(l8 g (⟨.slice (some ⟨d,0,none⟩) aS aS,.slice none 0 0,.slice none 0 0,ab q,.slice none 0 0⟩:ch)).toArray) j (λ_=>by kernel_rfl)) (aR 8 j (lB a j j j (λf w a=>?_)));have a:C o [] (bh g f (⟨.slice (some ⟨d,0,none⟩) aS aS,.slice none 0 0,.slice none 0 0,ab q,.slice none 0 0⟩:ch)::_) w:=a;have Q:bQ=(List.replicate aS (Value.pointer none)).toArray:=Q.trans (by rcases aJ with rfl|rfl<;>kernel_rfl);subst Q;have a:C o [] [bh g f (⟨.slice (some ⟨d,0,none⟩) aS aS,.slice none 0 0,.slice none 0 0,ab q,.slice none 0 0⟩:ch),R d (List.replicate aS (Value.pointer none)).toArray 47,a7,dD g] w:=a.as;refine an ⟨aX,?_⟩;refine af 9 1 j (bK (bq 5 j j j (hE aS k (by omega) (by omega)) ?_))
   refine cJ 2 j (ct:=Nat×List Value×List Chunk) (λe=>[(6,ab f),(36,.int .i64 (aS-k:Nat)),(37,.int .i64 (e.1:Nat))])
    (λe w=>e.1<=aS-k/\e.2.1.length=aS/\ed (h4 g) e.2.1 (hJ aS e.1) e.2.2/\C o [] [bh g f (⟨.slice (some ⟨d,0,none⟩) aS aS,.slice none 0 0,.slice none 0 0,ab q,.slice none 0 0⟩:ch),R d e.2.1.toArray 47,e.2.2,a7,dD g] w) (λe=>aS-k-e.1) (0,List.replicate aS (.pointer none),[]) ⟨j,j,j,aX⟩ ⟨b4 _,oI,ed.rep (V:=h4 g) (x:=none) ⟨j,j⟩ aS,C.perm (A:=[bh g f (⟨.slice (some ⟨d,0,none⟩) aS aS,.slice none 0 0,.slice none 0 0,ab q,.slice none 0 0⟩:ch),R d (List.replicate aS (Value.pointer none)).toArray 47,a7,dD g]) a (by simp)⟩ ?_
   rintro⟨i,U,y⟩ w ⟨M,ai,X,a⟩;dsimp only at M ai X a⊢;refine b8 4 j j (λaH=>?_) (λaH=>?_)
   .have a:C o [] ([bh g f (⟨.slice (some ⟨d,0,none⟩) aS aS,.slice none 0 0,.slice none 0 0,ab q,.slice none 0 0⟩:ch)]++_) w:=a.front;have a:=a.drew;have bl:i<aS-k:=by omega
    obtain⟨H1,aF,S,a0,aA,bd⟩:=X.put i (by rw [lv (by omega)];omega);refine bt 7 j (λw=>∃ad,C o [] ([bh g f (⟨.slice (some ⟨d,0,none⟩) aS aS,.slice none 0 0,.slice none 0 0,ab q,.slice none 0 0⟩:ch)]++ad) w) ⟨_,a⟩ (af 0 3 j (a8 3 j a1 j (af 4 4 j (a8 8 j a1 j (af 9 1 j (aR 10 j (cO j j j (vF (g:=g) (ao:=(i:Int))) (λr w⟨K,O,I,a5,t⟩=>?_))))))));subst I;have a:=a.aL t;have a:C o [] ([bh g f (⟨.slice (some ⟨d,0,none⟩) aS aS,.slice none 0 0,.slice none 0 0,ab q,.slice none 0 0⟩:ch)]++_) w:=a.front;refine an ⟨⟨_,a⟩,?_⟩;refine aT 11 j (λw _=>gA (J:=i) j j (by omega)) (dA 12 j (cB (a.bc d) j j j j (by rw [hA];omega) (λw a=>?_)));have a:C o [] (R d (U.toArray.setIfInBounds (0+i*1) (ab K)) 47::_) w:=a;rw [t6,fj,gG] at a;refine an (cU (bq 1 j j j (cE i (by omega)) (bI 1 j ?_)));have D:=bd (ab K) (some (bo.new (i:Int))) O ⟨K,j,a5⟩;rw [v7 (by omega)] at D
    have a3:aF=[]:=by
     have aV:(hJ aS i)[i]'(by rw [lv (by omega)];omega)=none:=by
      unfold hJ;rw [t7 (by simp)];simp
     rw [aV] at aA;exact aA.2
    subst a0;subst a3;have a:C o [] [bh g f (⟨.slice (some ⟨d,0,none⟩) aS aS,.slice none 0 0,.slice none 0 0,ab q,.slice none 0 0⟩:ch),R d (U.set i (ab K)).toArray 47,H1,S,O,a7,dD g] w:=C.perm (A:=[bh g f (⟨.slice (some ⟨d,0,none⟩) aS aS,.slice none 0 0,.slice none 0 0,ab q,.slice none 0 0⟩:ch),R d (U.set i (ab K)).toArray 47,H1++([]++S),O,a7,dD g]) a.as (by simp);have a:C o [] [bh g f (⟨.slice (some ⟨d,0,none⟩) aS aS,.slice none 0 0,.slice none 0 0,ab q,.slice none 0 0⟩:ch),R d (U.set i (ab K)).toArray 47,H1,O,S,a7,dD g] w:=a.as;exact⟨(i+1,_,_),⟨j,j,j,aX⟩,⟨by dsimp only;omega,by dsimp only;rw [hp];exact ai,D,a.perm (by simp)⟩,by dsimp only;omega⟩
   have N:i=aS-k:=by omega
   subst N
   refine cJ 6 j (ct:=Nat×Value×List Value×List Chunk×List Chunk) (λe=>[(6,ab f),(53,.int .i64 (e.1:Nat))])
    (λe w=>e.1<=4/\Row 60 1 e.2.1 e.1 e.2.2.1 e.2.2.2.1/\ed (jv g) e.2.2.1 (i7 e.1) e.2.2.2.2/\C o [] [bh g f (⟨.slice (some ⟨d,0,none⟩) aS aS,e.2.1,.slice none 0 0,ab q,.slice none 0 0⟩:ch),R d U.toArray 47,y,e.2.2.2.1,e.2.2.2.2,a7,dD g] w) (λe=>4-e.1) (0,.slice none 0 0,[],[],[]) ⟨j,j,aX⟩ ⟨b4 _,Row.nil _ _,j,a.perm (by simp)⟩ ?_
   rintro⟨i,s,us,E,B⟩ w ⟨M,ah,ac,a⟩;dsimp only at M ah ac a⊢;refine b8 4 j j (λaI=>?_) (λaI=>?_)
   .have a:C o [] ([bh g f (⟨.slice (some ⟨d,0,none⟩) aS aS,s,.slice none 0 0,ab q,.slice none 0 0⟩:ch)]++_) w:=a.front;have a:=a.drew;have bk:i<4:=by omega
    refine bt 3 j (λw=>∃ad,C o [] ([bh g f (⟨.slice (some ⟨d,0,none⟩) aS aS,s,.slice none 0 0,ab q,.slice none 0 0⟩:ch)]++ad) w) ⟨_,a⟩ (af 0 4 j (a8 4 j a1 j (af 5 3 j (a8 8 j a1 j (aR 9 j (cO j j j (vB (g:=g)) (λr w⟨bi,ar,I,aW,t⟩=>?_)))))));subst I;have a:=a.aL t;have a:C o [] ([bh g f (⟨.slice (some ⟨d,0,none⟩) aS aS,s,.slice none 0 0,ab q,.slice none 0 0⟩:ch)]++_) w:=a.front;refine an ⟨⟨_,a⟩,?_⟩;refine aR 10 j (eC a j j j j j j bG (λaw w a=>?_));have ba:Rd _ (some ⟨aw,0,none⟩) [Value.pointer (some ⟨bi,0,none⟩)]:=bn (C.aj (b:=aw) a);have a:C o [] ([bh g f (⟨.slice (some ⟨d,0,none⟩) aS aS,s,.slice none 0 0,ab q,.slice none 0 0⟩:ch)]++_) w:=a.front;refine an ⟨⟨_,a⟩,?_⟩;refine aR 11 j ?_;have a:C o [] [E,bh g f (⟨.slice (some ⟨d,0,none⟩) aS aS,s,.slice none 0 0,ab q,.slice none 0 0⟩:ch),R d U.toArray 47,y,B,ar,a7,dD g] _:=a.as;refine dR a ah j j (by decide) j j j (news:=[Value.pointer (some ⟨bi,0,none⟩)]) (m:=1) j ba (λu hu=>by rw [List.mem_singleton.1 hu];rfl) (by omega) (by unfold maxLen;omega) (λak av w az a=>?_);have a:C o [] ([bh g f (⟨.slice (some ⟨d,0,none⟩) aS aS,s,.slice none 0 0,ab q,.slice none 0 0⟩:ch)]++_) w:=a.front;refine an ⟨⟨_,a⟩,?_⟩;refine af 12 2 j (dA 14 j (cB (a.bc f) j j j az.one bG (λw a=>?_)));have a:C o [] (bh g f (⟨.slice (some ⟨d,0,none⟩) aS aS,ak,.slice none 0 0,ab q,.slice none 0 0⟩:ch)::_) w:=a;refine an (cU (bq 1 j j j (cE i (by omega)) (bI 1 j ?_)));have D:=ac.app (ed.one (V:=jv g) (x:=cR.new) ⟨bi,j,aW⟩);have W:i7 i++[cR.new]=i7 (i+1):=by unfold i7;rw [List.replicate_succ']
    rw [W] at D;have a:C o [] [bh g f (⟨.slice (some ⟨d,0,none⟩) aS aS,ak,.slice none 0 0,ab q,.slice none 0 0⟩:ch),R d U.toArray 47,y,av,B,ar,a7,dD g] w:=a.as;exact⟨(i+1,ak,_,av,_),⟨j,j,aX⟩,⟨by dsimp only;omega,az,D,a.perm (by simp)⟩,by dsimp only;omega⟩
   have N:i=4:=by omega
   subst N
   refine cJ 6 j (ct:=Nat×Value×List Value×List Chunk×List Chunk) (λe=>[(6,ab f),(70,.int .i64 (e.1:Nat))])
    (λe w=>e.1<=3/\Row 92 1 e.2.1 e.1 e.2.2.1 e.2.2.2.1/\ed ma e.2.2.1 (ks e.1) e.2.2.2.2/\C o [] [bh g f (⟨.slice (some ⟨d,0,none⟩) aS aS,s,e.2.1,ab q,.slice none 0 0⟩:ch),R d U.toArray 47,y,E,B,e.2.2.2.1,e.2.2.2.2,a7,dD g] w) (λe=>3-e.1) (0,.slice none 0 0,[],[],[]) ⟨j,j,aX⟩ ⟨b4 _,Row.nil _ _,j,a.perm (by simp)⟩ ?_
   rintro⟨i,z,be,eZ,L⟩ w ⟨M,ag,Y,a⟩;dsimp only at M ag Y a⊢;refine b8 4 j j (λaK=>?_) (λaK=>?_)
   .have a:C o [] ([bh g f (⟨.slice (some ⟨d,0,none⟩) aS aS,s,z,ab q,.slice none 0 0⟩:ch)]++_) w:=a.front;have a:=a.drew;have bj:i<3:=by omega
    have aP:evalBin .add .i64 97 (i:Int)=some (.int .i64 ((97+i:Nat):Int)):=by rcases(show i=0\/i=1\/i=2 by omega) with rfl|rfl|rfl<;>rfl
    have aN:IntKind.i32.wrap ((97+i:Nat):Int)=((97+i:Nat):Int):=by rcases(show i=0\/i=1\/i=2 by omega) with rfl|rfl|rfl<;>rfl
    have aU:Utf8.encode ((97+i:Nat):Int)=strOf (kv i):=by rcases(show i=0\/i=1\/i=2 by omega) with rfl|rfl|rfl<;>rfl
    refine bt 7 j (λw=>∃ad,C o [] ([bh g f (⟨.slice (some ⟨d,0,none⟩) aS aS,s,z,ab q,.slice none 0 0⟩:ch)]++ad) w) ⟨_,a⟩ (af 0 4 j (a8 4 j a1 j (af 5 2 j (aT 7 j (λw _=>ds j j aP) (aT 8 j (λw _=>kg j aN) (aT 9 j (λw _=>tF j aU) (aR 10 j (cO j j j (vC (n:=(i:Int)) (x:=kv i)) (λr w⟨aB,GE,I,aZ,t⟩=>?_)))))))));subst I;have a:=a.aL t;have a:C o [] ([bh g f (⟨.slice (some ⟨d,0,none⟩) aS aS,s,z,ab q,.slice none 0 0⟩:ch)]++_) w:=a.front;refine an ⟨⟨_,a⟩,?_⟩;refine aT 11 j (λw _=>e3 (c:= #[ab aB,ae (-1)]) j (λ_=>by kernel_rfl)) (aR 12 j (lB a j j j (λF w a=>?_)));have a:C o [] (dc F aB (-1)::_) w:=a;have a:C o [] ([bh g f (⟨.slice (some ⟨d,0,none⟩) aS aS,s,z,ab q,.slice none 0 0⟩:ch)]++_) w:=a.front;refine an ⟨⟨_,a⟩,?_⟩;refine aR 13 j (eC a j j j j j j bG (λax w a=>?_));have bb:Rd _ (some ⟨ax,0,none⟩) [Value.pointer (some ⟨F,0,none⟩)]:=bn (C.aj (b:=ax) a);have a:C o [] ([bh g f (⟨.slice (some ⟨d,0,none⟩) aS aS,s,z,ab q,.slice none 0 0⟩:ch)]++_) w:=a.front;refine an ⟨⟨_,a⟩,?_⟩;refine aR 14 j ?_;have a:C o [] [eZ,bh g f (⟨.slice (some ⟨d,0,none⟩) aS aS,s,z,ab q,.slice none 0 0⟩:ch),R d U.toArray 47,y,E,B,L,dc F aB (-1),GE,a7,dD g] _:=a.as;refine dR a ag j j (by decide) j j j (news:=[Value.pointer (some ⟨F,0,none⟩)]) (m:=1) j bb (λu hu=>by rw [List.mem_singleton.1 hu];rfl) (by omega) (by unfold maxLen;omega) (λP T w ay a=>?_);have a:C o [] ([bh g f (⟨.slice (some ⟨d,0,none⟩) aS aS,s,z,ab q,.slice none 0 0⟩:ch)]++_) w:=a.front;refine an ⟨⟨_,a⟩,?_⟩;refine af 15 2 j (dA 17 j (cB (a.bc f) j j j ay.one bG (λw a=>?_)));have a:C o [] (bh g f (⟨.slice (some ⟨d,0,none⟩) aS aS,s,P,ab q,.slice none 0 0⟩:ch)::_) w:=a;refine an (cU (bq 1 j j j (cE i (by omega)) (bI 1 j ?_)));have D:=Y.app (ed.one (V:=ma) (x:=(bH.new (i:Int) (kv i),(-1:Int))) ⟨F,aB,GE,j,aZ,j⟩);have W:ks i++[(bH.new (i:Int) (kv i),(-1:Int))]=ks (i+1):=by unfold ks;rw [List.range_succ,List.map_append];rfl
    rw [W] at D;have a:C o [] [bh g f (⟨.slice (some ⟨d,0,none⟩) aS aS,s,P,ab q,.slice none 0 0⟩:ch),R d U.toArray 47,y,E,B,T,L,dc F aB (-1),GE,a7,dD g] w:=a.as;exact⟨(i+1,P,_,T,_),⟨j,j,aX⟩,⟨by dsimp only;omega,ay,D,C.perm (A:=[bh g f (⟨.slice (some ⟨d,0,none⟩) aS aS,s,P,ab q,.slice none 0 0⟩:ch),R d U.toArray 47,y,E,B,T,L,dc F aB (-1),GE,a7,dD g]) a (by simp)⟩,by dsimp only;omega⟩
   refine aq 6 j j ?_;have N:i=3:=by omega
   subst N;have a4:Row 47 1 (.slice (some ⟨d,0,none⟩) aS aS) aS U (R d U.toArray 47):=Row.full (by unfold maxLen;omega) (by rw [List.size_toArray,ai,Nat.mul_one]);exact⟨f,g,_,j,a9,a6,⟨(⟨.slice (some ⟨d,0,none⟩) aS aS,s,z,ab q,.slice none 0 0⟩:ch),R d U.toArray 47++y,E++B,eZ++L,a7,[],⟨⟨_,_,U,j,by show Row 47 1 _ (hJ aS (aS-k)).length U _;rw [lv (by omega)];exact a4,X⟩,⟨_,_,us,j,ah,ac⟩,⟨_,_,be,j,ag,Y⟩,ap,cw.nil⟩,j⟩,C.perm (A:=[dD g,bh g f (⟨.slice (some ⟨d,0,none⟩) aS aS,s,z,ab q,.slice none 0 0⟩:ch),R d U.toArray 47,y,E,B,eZ,L,a7]) a.as (by simp)⟩
 refine lC (l:=aS) (c:=aS) a j j j j (by omega) (by omega) (by unfold maxLen;omega) (λd bQ w bf Q a=>an ⟨aX,?_⟩);refine aR 1 j (eC a j j j j j j bG (λaC w a=>?_));have aD:=a.bz;refine an ⟨aX,?_⟩;refine aR 2 j ?_;have aD:Rd _ (some ⟨aC,0,none⟩) (au [1]):=bn (C.aj (b:=aC) a);refine bB j j j (pw (p:=[1]) aD (by decide) (by decide)) (λw t=>?_);have a:=a.aL t;refine an ⟨aX,?_⟩;refine aR 3 j (cO j j j (vE (n:=aS) (dE:=br [1]) (by omega) (eK _)) (λr w⟨g,I,a9,a6,t⟩=>?_));subst I;have a:=a.aL t;refine an ⟨aX,?_⟩;refine aR 6 j (cO j j j sF (λr w⟨a7,ap,t⟩=>?_));obtain⟨q,aE⟩:∃q,r=ab q:=by obtain⟨b,v,H,h,_⟩:=ap;exact⟨b,h⟩
 subst aE;have a:=a.aL t;refine an ⟨aX,?_⟩;refine aT 7 j (λw _=>e3 (c:=(l8 g (⟨.slice (some ⟨d,0,none⟩) aS aS,.slice none 0 0,.slice none 0 0,ab q,.slice none 0 0⟩:ch)).toArray) j (λ_=>by kernel_rfl)) (aR 8 j (lB a j j j (λf w a=>?_)));have a:C o [] (bh g f (⟨.slice (some ⟨d,0,none⟩) aS aS,.slice none 0 0,.slice none 0 0,ab q,.slice none 0 0⟩:ch)::_) w:=a;have Q:bQ=(List.replicate aS (Value.pointer none)).toArray:=Q.trans (by rcases aJ with rfl|rfl<;>kernel_rfl);subst Q;have a:C o [] [bh g f (⟨.slice (some ⟨d,0,none⟩) aS aS,.slice none 0 0,.slice none 0 0,ab q,.slice none 0 0⟩:ch),R d (List.replicate aS (Value.pointer none)).toArray 47,a7,dD g] w:=a.as;refine an ⟨aX,?_⟩;refine af 9 1 j (bK (bq 5 j j j (hE aS k (by omega) (by omega)) ?_))
 refine cJ 2 j (ct:=Nat×List Value×List Chunk) (λe=>[(6,ab f),(36,.int .i64 (aS-k:Nat)),(37,.int .i64 (e.1:Nat))])
  (λe w=>e.1<=aS-k/\e.2.1.length=aS/\ed (h4 g) e.2.1 (hJ aS e.1) e.2.2/\C o [] [bh g f (⟨.slice (some ⟨d,0,none⟩) aS aS,.slice none 0 0,.slice none 0 0,ab q,.slice none 0 0⟩:ch),R d e.2.1.toArray 47,e.2.2,a7,dD g] w) (λe=>aS-k-e.1) (0,List.replicate aS (.pointer none),[]) ⟨j,j,j,aX⟩ ⟨b4 _,oI,ed.rep (V:=h4 g) (x:=none) ⟨j,j⟩ aS,C.perm (A:=[bh g f (⟨.slice (some ⟨d,0,none⟩) aS aS,.slice none 0 0,.slice none 0 0,ab q,.slice none 0 0⟩:ch),R d (List.replicate aS (Value.pointer none)).toArray 47,a7,dD g]) a (by simp)⟩ ?_
 rintro⟨i,U,y⟩ w ⟨M,ai,X,a⟩;dsimp only at M ai X a⊢;refine b8 4 j j (λaH=>?_) (λaH=>?_)
 .have a:C o [] ([bh g f (⟨.slice (some ⟨d,0,none⟩) aS aS,.slice none 0 0,.slice none 0 0,ab q,.slice none 0 0⟩:ch)]++_) w:=a.front;have a:=a.drew;have bl:i<aS-k:=by omega
  obtain⟨H1,aF,S,a0,aA,bd⟩:=X.put i (by rw [lv (by omega)];omega);refine bt 7 j (λw=>∃ad,C o [] ([bh g f (⟨.slice (some ⟨d,0,none⟩) aS aS,.slice none 0 0,.slice none 0 0,ab q,.slice none 0 0⟩:ch)]++ad) w) ⟨_,a⟩ (af 0 3 j (a8 3 j a1 j (af 4 4 j (a8 8 j a1 j (af 9 1 j (aR 10 j (cO j j j (vF (g:=g) (ao:=(i:Int))) (λr w⟨K,O,I,a5,t⟩=>?_))))))));subst I;have a:=a.aL t;have a:C o [] ([bh g f (⟨.slice (some ⟨d,0,none⟩) aS aS,.slice none 0 0,.slice none 0 0,ab q,.slice none 0 0⟩:ch)]++_) w:=a.front;refine an ⟨⟨_,a⟩,?_⟩;refine aT 11 j (λw _=>gA (J:=i) j j (by omega)) (dA 12 j (cB (a.bc d) j j j j (by rw [hA];omega) (λw a=>?_)));have a:C o [] (R d (U.toArray.setIfInBounds (0+i*1) (ab K)) 47::_) w:=a;rw [t6,fj,gG] at a;refine an (cU (bq 1 j j j (cE i (by omega)) (bI 1 j ?_)));have D:=bd (ab K) (some (bo.new (i:Int))) O ⟨K,j,a5⟩;rw [v7 (by omega)] at D
  have a3:aF=[]:=by
   have aV:(hJ aS i)[i]'(by rw [lv (by omega)];omega)=none:=by
    unfold hJ;rw [t7 (by simp)];simp
   rw [aV] at aA;exact aA.2
  subst a0;subst a3;have a:C o [] [bh g f (⟨.slice (some ⟨d,0,none⟩) aS aS,.slice none 0 0,.slice none 0 0,ab q,.slice none 0 0⟩:ch),R d (U.set i (ab K)).toArray 47,H1,S,O,a7,dD g] w:=C.perm (A:=[bh g f (⟨.slice (some ⟨d,0,none⟩) aS aS,.slice none 0 0,.slice none 0 0,ab q,.slice none 0 0⟩:ch),R d (U.set i (ab K)).toArray 47,H1++([]++S),O,a7,dD g]) a.as (by simp);have a:C o [] [bh g f (⟨.slice (some ⟨d,0,none⟩) aS aS,.slice none 0 0,.slice none 0 0,ab q,.slice none 0 0⟩:ch),R d (U.set i (ab K)).toArray 47,H1,O,S,a7,dD g] w:=a.as;exact⟨(i+1,_,_),⟨j,j,j,aX⟩,⟨by dsimp only;omega,by dsimp only;rw [hp];exact ai,D,a.perm (by simp)⟩,by dsimp only;omega⟩
 have N:i=aS-k:=by omega
 subst N
 refine cJ 6 j (ct:=Nat×Value×List Value×List Chunk×List Chunk) (λe=>[(6,ab f),(53,.int .i64 (e.1:Nat))])
  (λe w=>e.1<=4/\Row 60 1 e.2.1 e.1 e.2.2.1 e.2.2.2.1/\ed (jv g) e.2.2.1 (i7 e.1) e.2.2.2.2/\C o [] [bh g f (⟨.slice (some ⟨d,0,none⟩) aS aS,e.2.1,.slice none 0 0,ab q,.slice none 0 0⟩:ch),R d U.toArray 47,y,e.2.2.2.1,e.2.2.2.2,a7,dD g] w) (λe=>4-e.1) (0,.slice none 0 0,[],[],[]) ⟨j,j,aX⟩ ⟨b4 _,Row.nil _ _,j,a.perm (by simp)⟩ ?_
 rintro⟨i,s,us,E,B⟩ w ⟨M,ah,ac,a⟩;dsimp only at M ah ac a⊢;refine b8 4 j j (λaI=>?_) (λaI=>?_)
 .have a:C o [] ([bh g f (⟨.slice (some ⟨d,0,none⟩) aS aS,s,.slice none 0 0,ab q,.slice none 0 0⟩:ch)]++_) w:=a.front;have a:=a.drew;have bk:i<4:=by omega
  refine bt 3 j (λw=>∃ad,C o [] ([bh g f (⟨.slice (some ⟨d,0,none⟩) aS aS,s,.slice none 0 0,ab q,.slice none 0 0⟩:ch)]++ad) w) ⟨_,a⟩ (af 0 4 j (a8 4 j a1 j (af 5 3 j (a8 8 j a1 j (aR 9 j (cO j j j (vB (g:=g)) (λr w⟨bi,ar,I,aW,t⟩=>?_)))))));subst I;have a:=a.aL t;have a:C o [] ([bh g f (⟨.slice (some ⟨d,0,none⟩) aS aS,s,.slice none 0 0,ab q,.slice none 0 0⟩:ch)]++_) w:=a.front;refine an ⟨⟨_,a⟩,?_⟩;refine aR 10 j (eC a j j j j j j bG (λaw w a=>?_));have ba:Rd _ (some ⟨aw,0,none⟩) [Value.pointer (some ⟨bi,0,none⟩)]:=bn (C.aj (b:=aw) a);have a:C o [] ([bh g f (⟨.slice (some ⟨d,0,none⟩) aS aS,s,.slice none 0 0,ab q,.slice none 0 0⟩:ch)]++_) w:=a.front;refine an ⟨⟨_,a⟩,?_⟩;refine aR 11 j ?_;have a:C o [] [E,bh g f (⟨.slice (some ⟨d,0,none⟩) aS aS,s,.slice none 0 0,ab q,.slice none 0 0⟩:ch),R d U.toArray 47,y,B,ar,a7,dD g] _:=a.as;refine dR a ah j j (by decide) j j j (news:=[Value.pointer (some ⟨bi,0,none⟩)]) (m:=1) j ba (λu hu=>by rw [List.mem_singleton.1 hu];rfl) (by omega) (by unfold maxLen;omega) (λak av w az a=>?_);have a:C o [] ([bh g f (⟨.slice (some ⟨d,0,none⟩) aS aS,s,.slice none 0 0,ab q,.slice none 0 0⟩:ch)]++_) w:=a.front;refine an ⟨⟨_,a⟩,?_⟩;refine af 12 2 j (dA 14 j (cB (a.bc f) j j j az.one bG (λw a=>?_)));have a:C o [] (bh g f (⟨.slice (some ⟨d,0,none⟩) aS aS,ak,.slice none 0 0,ab q,.slice none 0 0⟩:ch)::_) w:=a;refine an (cU (bq 1 j j j (cE i (by omega)) (bI 1 j ?_)));have D:=ac.app (ed.one (V:=jv g) (x:=cR.new) ⟨bi,j,aW⟩);have W:i7 i++[cR.new]=i7 (i+1):=by unfold i7;rw [List.replicate_succ']
  rw [W] at D;have a:C o [] [bh g f (⟨.slice (some ⟨d,0,none⟩) aS aS,ak,.slice none 0 0,ab q,.slice none 0 0⟩:ch),R d U.toArray 47,y,av,B,ar,a7,dD g] w:=a.as;exact⟨(i+1,ak,_,av,_),⟨j,j,aX⟩,⟨by dsimp only;omega,az,D,a.perm (by simp)⟩,by dsimp only;omega⟩
 have N:i=4:=by omega
 subst N
 refine cJ 6 j (ct:=Nat×Value×List Value×List Chunk×List Chunk) (λe=>[(6,ab f),(70,.int .i64 (e.1:Nat))])
  (λe w=>e.1<=3/\Row 92 1 e.2.1 e.1 e.2.2.1 e.2.2.2.1/\ed ma e.2.2.1 (ks e.1) e.2.2.2.2/\C o [] [bh g f (⟨.slice (some ⟨d,0,none⟩) aS aS,s,e.2.1,ab q,.slice none 0 0⟩:ch),R d U.toArray 47,y,E,B,e.2.2.2.1,e.2.2.2.2,a7,dD g] w) (λe=>3-e.1) (0,.slice none 0 0,[],[],[]) ⟨j,j,aX⟩ ⟨b4 _,Row.nil _ _,j,a.perm (by simp)⟩ ?_
 rintro⟨i,z,be,eZ,L⟩ w ⟨M,ag,Y,a⟩;dsimp only at M ag Y a⊢;refine b8 4 j j (λaK=>?_) (λaK=>?_)
 .have a:C o [] ([bh g f (⟨.slice (some ⟨d,0,none⟩) aS aS,s,z,ab q,.slice none 0 0⟩:ch)]++_) w:=a.front;have a:=a.drew;have bj:i<3:=by omega
  have aP:evalBin .add .i64 97 (i:Int)=some (.int .i64 ((97+i:Nat):Int)):=by rcases(show i=0\/i=1\/i=2 by omega) with rfl|rfl|rfl<;>rfl
  have aN:IntKind.i32.wrap ((97+i:Nat):Int)=((97+i:Nat):Int):=by rcases(show i=0\/i=1\/i=2 by omega) with rfl|rfl|rfl<;>rfl
  have aU:Utf8.encode ((97+i:Nat):Int)=strOf (kv i):=by rcases(show i=0\/i=1\/i=2 by omega) with rfl|rfl|rfl<;>rfl
  refine bt 7 j (λw=>∃ad,C o [] ([bh g f (⟨.slice (some ⟨d,0,none⟩) aS aS,s,z,ab q,.slice none 0 0⟩:ch)]++ad) w) ⟨_,a⟩ (af 0 4 j (a8 4 j a1 j (af 5 2 j (aT 7 j (λw _=>ds j j aP) (aT 8 j (λw _=>kg j aN) (aT 9 j (λw _=>tF j aU) (aR 10 j (cO j j j (vC (n:=(i:Int)) (x:=kv i)) (λr w⟨aB,GE,I,aZ,t⟩=>?_)))))))));subst I;have a:=a.aL t;have a:C o [] ([bh g f (⟨.slice (some ⟨d,0,none⟩) aS aS,s,z,ab q,.slice none 0 0⟩:ch)]++_) w:=a.front;refine an ⟨⟨_,a⟩,?_⟩;refine aT 11 j (λw _=>e3 (c:= #[ab aB,ae (-1)]) j (λ_=>by kernel_rfl)) (aR 12 j (lB a j j j (λF w a=>?_)));have a:C o [] (dc F aB (-1)::_) w:=a;have a:C o [] ([bh g f (⟨.slice (some ⟨d,0,none⟩) aS aS,s,z,ab q,.slice none 0 0⟩:ch)]++_) w:=a.front;refine an ⟨⟨_,a⟩,?_⟩;refine aR 13 j (eC a j j j j j j bG (λax w a=>?_));have bb:Rd _ (some ⟨ax,0,none⟩) [Value.pointer (some ⟨F,0,none⟩)]:=bn (C.aj (b:=ax) a);have a:C o [] ([bh g f (⟨.slice (some ⟨d,0,none⟩) aS aS,s,z,ab q,.slice none 0 0⟩:ch)]++_) w:=a.front;refine an ⟨⟨_,a⟩,?_⟩;refine aR 14 j ?_;have a:C o [] [eZ,bh g f (⟨.slice (some ⟨d,0,none⟩) aS aS,s,z,ab q,.slice none 0 0⟩:ch),R d U.toArray 47,y,E,B,L,dc F aB (-1),GE,a7,dD g] _:=a.as;refine dR a ag j j (by decide) j j j (news:=[Value.pointer (some ⟨F,0,none⟩)]) (m:=1) j bb (λu hu=>by rw [List.mem_singleton.1 hu];rfl) (by omega) (by unfold maxLen;omega) (λP T w ay a=>?_);have a:C o [] ([bh g f (⟨.slice (some ⟨d,0,none⟩) aS aS,s,z,ab q,.slice none 0 0⟩:ch)]++_) w:=a.front;refine an ⟨⟨_,a⟩,?_⟩;refine af 15 2 j (dA 17 j (cB (a.bc f) j j j ay.one bG (λw a=>?_)));have a:C o [] (bh g f (⟨.slice (some ⟨d,0,none⟩) aS aS,s,P,ab q,.slice none 0 0⟩:ch)::_) w:=a;refine an (cU (bq 1 j j j (cE i (by omega)) (bI 1 j ?_)));have D:=Y.app (ed.one (V:=ma) (x:=(bH.new (i:Int) (kv i),(-1:Int))) ⟨F,aB,GE,j,aZ,j⟩);have W:ks i++[(bH.new (i:Int) (kv i),(-1:Int))]=ks (i+1):=by unfold ks;rw [List.range_succ,List.map_append];rfl
  rw [W] at D;have a:C o [] [bh g f (⟨.slice (some ⟨d,0,none⟩) aS aS,s,P,ab q,.slice none 0 0⟩:ch),R d U.toArray 47,y,E,B,T,L,dc F aB (-1),GE,a7,dD g] w:=a.as;exact⟨(i+1,P,_,T,_),⟨j,j,aX⟩,⟨by dsimp only;omega,ay,D,C.perm (A:=[bh g f (⟨.slice (some ⟨d,0,none⟩) aS aS,s,P,ab q,.slice none 0 0⟩:ch),R d U.toArray 47,y,E,B,T,L,dc F aB (-1),GE,a7,dD g]) a (by simp)⟩,by dsimp only;omega⟩
 refine aq 6 j j ?_;have N:i=3:=by omega
 subst N;have a4:Row 47 1 (.slice (some ⟨d,0,none⟩) aS aS) aS U (R d U.toArray 47):=Row.full (by unfold maxLen;omega) (by rw [List.size_toArray,ai,Nat.mul_one]);exact⟨f,g,_,j,a9,a6,⟨(⟨.slice (some ⟨d,0,none⟩) aS aS,s,z,ab q,.slice none 0 0⟩:ch),R d U.toArray 47++y,E++B,eZ++L,a7,[],⟨⟨_,_,U,j,by show Row 47 1 _ (hJ aS (aS-k)).length U _;rw [lv (by omega)];exact a4,X⟩,⟨_,_,us,j,ah,ac⟩,⟨_,_,be,j,ag,Y⟩,ap,cw.nil⟩,j⟩,C.perm (A:=[dD g,bh g f (⟨.slice (some ⟨d,0,none⟩) aS aS,s,z,ab q,.slice none 0 0⟩:ch),R d U.toArray 47,y,E,B,eZ,L,a7]) a.as (by simp)⟩
structure ej where
 n:Int
 k:Int
 s:Int
 v:Int
 x:List UInt8
def mP(n h:Nat)(H:List ej)(k s v:Int)(x:List UInt8):Prop:=
 ∃l:List Int,l.Nodup/\(∀i∈l,0<=i/\i<(n:Int)/\(i<(h:Int)->(⟨i,k,s,v,x⟩:ej)∈H))/\ii n<=l.length
theorem mP.mono{n h:Nat}{H d:List ej}{k s v:Int}{x:List UInt8}(e:mP n h H k s v x)(aM:∀c∈H,c∈d):mP n h d k s v x:=by
 obtain⟨l,f,a,g⟩:=e;exact⟨l,f,λi b=>⟨(a i b).1,(a i b).2.1,λdt=>aM _ ((a i b).2.2 dt)⟩,g⟩
def wz(n h:Nat)(c:ej)(H:List ej):Prop:=
 (∀y,(⟨c.n,c.k,c.s,c.v,y⟩:ej)∈H->False)/\
 (c.k=1->∀v y,(⟨c.n,2,c.s,v,y⟩:ej)∈H->v<=c.v/\(v<c.v->∃u,v<=u/\u<=c.v/\mP n h H 1 c.s u c.x))/\
 (c.k=2->mP n h H 1 c.s c.v c.x/\∀w y,(⟨c.n,1,c.s,w,y⟩:ej)∈H->w<=c.v)
def Valid(n h:Nat):List ej->Prop
 |[]=>True
 |c::H=>wz n h c H/\Valid n h H
theorem Valid.xF{n h:Nat}:∀{H:List ej},Valid n h H->∀{i s v:Int}{x:List UInt8},(⟨i,2,s,v,x⟩:ej)∈H->mP n h H 1 s v x
 |[],_,_,_,_,_,a=>by cases a
 |c::H,d,i,s,v,x,a=>by
  rcases g1.1 a with a|a
  .subst a;exact(d.1.2.2 j).1.mono λc b=>lG _ b
  .exact(Valid.xF d.2 a).mono λc b=>lG _ b
abbrev fR(l:List aW):List aE:=l.flatMap aW.l
def kE(h:Nat)(H:List ej)(aP:List aE)(v:aE):Prop:=v∈aP/\(0<=v.f->v.f<(h:Int)->(⟨v.f,v.k,v.s,v.v,v.sum⟩:ej)∈H)/\0<=v.v/\v.v<=8
theorem kE.mono{h:Nat}{H e:List ej}{aP f:List aE}{v:aE}(d:kE h H aP v)(g:∀c∈H,c∈e)(i:∀c∈aP,c∈f):kE h e f v:=⟨i _ d.1,λa b=>g _ (d.2.1 a b),d.2.2⟩
abbrev fa(h:Nat)(H:List ej)(aP:List aE)(l:List aE):Prop:=∀v∈l,kE h H aP v
theorem fa.mono{h:Nat}{H a:List ej}{aP b:List aE}{l:List aE}(f:fa h H aP l)(d:∀c∈H,c∈a)(e:∀c∈aP,c∈b):fa h a b l:=λv g=>(f v g).mono d e
def kD(g:al)(h:Nat)(H:List ej)(aP:List aE)(k s v:Int)(x:List UInt8):Prop:=
 ∃l:List aE,(l.map aE.f).Nodup/\ii g.n<=l.length/\∀c∈l,c.k=k/\c.s=s/\c.v=v/\c.sum=x/\_root_.Go.Proofs.YtngjfjhomikplaaGreatDoor.R.cQ g c=true/\kE h H aP c
theorem kD.mono{g:al}{h:Nat}{H a:List ej}{aP b:List aE}{k s v:Int}{x:List UInt8}(e:kD g h H aP k s v x)(r:∀c∈H,c∈a)(t:∀c∈aP,c∈b):kD g h a b k s v x:=by
 obtain⟨l,o,p,q⟩:=e;exact⟨l,o,p,λc u=>by obtain⟨d,f,i,j,m,n⟩:=q c u;exact⟨d,f,i,j,m,n.mono r t⟩⟩
theorem kD.fs{g:al}{h:Nat}{H:List ej}{aP:List aE}{k s v:Int}{x:List UInt8}(e:kD g h H aP k s v x):mP g.n h H k s v x:=by
 obtain⟨l,r,t,u⟩:=e;refine⟨l.map aE.f,r,λi y=>?_,by rw [ff];exact t⟩;obtain⟨c,w,rfl⟩:=dV.1 y;obtain⟨d,j,m,o,p,q⟩:=u c w;have a:=qG p;refine⟨a.1,a.2,λdt=>?_⟩;have b:=q.2.1 a.1 dt;rw [d,j,m,o] at b;exact b
theorem wo:∀(da acc:List Int),acc.Nodup->(da.foldl (λacc k=>if k∈acc then acc else acc++[k]) acc).Nodup/\∀k,k∈da.foldl (λacc k=>if k∈acc then acc else acc++[k]) acc↔k∈acc\/k∈da
 |[],acc,h=>⟨h,λk=>by simp⟩
 |y::r,acc,h=>by
  rw [iC];by_cases c:y∈acc
  .rw [a6 c];obtain⟨d,f⟩:=wo r acc h;refine⟨d,λk=>?_⟩;rw [f k,g1];constructor
   .rintro(h|h)
    .exact .inl h
    .exact .inr (.inr h)
   .rintro(h|rfl|h)
    .exact .inl h
    .exact .inl c
    .exact .inr h
  .rw [aI c];obtain⟨d,f⟩:=wo r (acc++[y]) (iE.2 ⟨h,by simp,λa g b i e=>by rw [List.mem_singleton.1 i] at e;subst e;exact c g⟩);refine⟨d,λk=>?_⟩;rw [f k,dv,List.mem_singleton,List.mem_cons];constructor
   .rintro((h|h)|h)
    .exact .inl h
    .exact .inr (.inl h)
    .exact .inr (.inr h)
   .rintro(h|h|h)
    .exact .inl (.inl h)
    .exact .inl (.inr h)
    .exact .inr h
theorem ID(xs:List Int):(uniq xs).Nodup/\∀k,k∈uniq xs↔k∈xs:=by
 have h:=wo xs [] rS;exact⟨h.1,λk=>(h.2 k).trans (by simp)⟩
theorem xB{p:aE->Prop}:∀(cS:List Int),(∀n∈cS,∃c:aE,p c/\c.f=n)->∃l:List aE,l.map aE.f=cS/\∀c∈l,p c
 |[],_=>⟨[],j,by simp⟩
 |n::cS,h=>by
  obtain⟨c,g,aJ⟩:=h n (by simp);obtain⟨l,b,e⟩:=xB cS (λm hm=>h m (by simp [hm]));refine⟨c::l,by simp [aJ,b],λd a=>?_⟩;rcases g1.1 a with rfl|a
  .exact g
  .exact e d a
theorem za{g:al}{h:Nat}{H:List ej}{aP:List aE}{l:List aE}{k s v:Int}{x:List UInt8}(hm:meets g l k s v x=true)(t:fa h H aP l):kD g h H aP k s v x:=by
 have e:ii g.keys.length<=(pB g l k s v x).length:=dz hm;rw [IR] at e;obtain⟨aJ,r⟩:=ID (hG g k s v x l (min l.length 10))
 obtain⟨cs,b,i⟩:=xB (p:=λc=>c.k=k/\c.s=s/\c.v=v/\c.sum=x/\_root_.Go.Proofs.YtngjfjhomikplaaGreatDoor.R.cQ g c=true/\kE h H aP c) (uniq (hG g k s v x l (min l.length 10))) (λn u=>by
  have m:n∈((l.take (min l.length 10)).filter (ie g k s v x)).map aE.f:=(r n).1 u;obtain⟨c,q,rfl⟩:=dV.1 m;have d:=jC.1 q;have a:=d.2;unfold ie at a;simp only [ea,d5] at a;exact⟨c,⟨a.1,a.2.1,a.2.2.1,a.2.2.2.1,a.2.2.2.2,t c (m3 d.1)⟩,j⟩)
 refine⟨cs,by rw [b];exact aJ,?_,i⟩;have o:cs.length=(uniq (hG g k s v x l (min l.length 10))).length:=by rw [<-b,ff]
 rw [o];exact e
theorem x4{g:al}{h N:Nat}{H:List ej}{aP:List aE}{s:ak}{b:List aE}{y:List UInt8×List aE}{k v:Int}(i:fM g N b)(he:s.fs g b=some y)(l:∀c∈b,kE h H aP c/\c.k=k/\c.s=s.slot/\c.v=v):
 kD g h H aP k s.slot v (br y.1)/\fa h H aP y.2:=by
 obtain⟨x,u,e⟩:=p4 he;split at e
 .rename_i t;cases e
  have j:∀c∈j1 (fd b (br x)),c∈b/\c.sum=br x:=λc d=>by
   have a:=jC.1 (uy.1 d);exact⟨a.1,d5.1 a.2⟩
  refine⟨⟨j1 (fd b (br x)),?_,t,λc d=>?_⟩,λc d=>(l c (j c d).1).1⟩
  .have r:((j1 (fd b (br x))).map aE.f).Perm ((fd b (br x)).map aE.f):=(oJ _ _).map _;exact r.nodup_iff.2 (vN i _)
  .obtain⟨a,q⟩:=j c d;obtain⟨m,n,o,p⟩:=l c a;exact⟨n,o,p,q,i.cQ c a,m⟩
 .cases e
structure eM(g:al)(h:Nat)(H:List ej)(aP:List aE)(s:ak):Prop where
 c3:fa h H aP s.c3
 props:∀p∈s.props,fa h H aP p.2.l
 cW:∀p∈s.cW,∀v∈p.2,kE h H aP v/\v.k=1/\v.s=s.slot/\v.v=p.1
 az:∀p∈s.az,∀v∈p.2,kE h H aP v/\v.k=2/\v.s=s.slot/\v.v=p.1
 dj:∀p∈s.dj,∀q∈p.2,fa h H aP q.2.l
 dK:fa h H aP s.dK
 cr:s.hT<=s.view
 e5:s.comm<=s.view
 fX:s.fX=s.comm
 lock:0<=s.comm->(⟨s.ao,2,s.slot,s.comm,br s.dH⟩:ej)∈H
 ji:∀c∈H,c.n=s.ao->c.s=s.slot->(c.k=1->c.v<=s.hT)/\(c.k=2->0<=c.v/\c.v<=s.comm)
 dec:s.dec=true->∃v,kD g h H aP 2 s.slot v (br s.value)
 ok:∃N,s.ok g N
theorem eM.mono{g:al}{h:Nat}{H f:List ej}{aP j:List aE}{s:ak}(i:eM g h H aP s)(b:∀c∈H,c∈f)(d:∀c∈aP,c∈j)(aJ:∀c∈f,c.n=s.ao->c.s=s.slot->c∈H):eM g h f j s where
 c3:=i.c3.mono b d
 props:=λp a=>(i.props p a).mono b d
 cW:=λp a v e=>⟨(i.cW p a v e).1.mono b d,(i.cW p a v e).2⟩
 az:=λp a v e=>⟨(i.az p a v e).1.mono b d,(i.az p a v e).2⟩
 dj:=λp a q t=>(i.dj p a q t).mono b d
 dK:=i.dK.mono b d
 cr:=i.cr
 e5:=i.e5
 fX:=i.fX
 lock:=λm=>b _ (i.lock m)
 ji:=λc o k l=>i.ji c (aJ c o k l) k l
 dec:=λr=>by obtain⟨v,e⟩:=i.dec r;exact⟨v,e.mono b d⟩
 ok:=i.ok
section
variable {g:al} {h:Nat} {H:List ej} {aP:List aE} {s:ak}
theorem eM.gf(i:eM g h H aP s){m:aW}(hm:fa h H aP m.l)(j:m.cQ):eM g h H aP (s.gf g m):=by
 have a:∃N,(s.gf g m).ok g N:=by obtain⟨N,d⟩:=i.ok;exact⟨N+1,d.gf j⟩
 have b:∀p∈cj s.props m.v m,fa h H aP p.2.l:=λp b=>(i5 b).elim (i.props p) (λe=>by rw [e];exact hm)
 unfold ak.gf at a⊢;split
 .exact i
 .rename_i f;rw [aI f] at a;unfold ak.jN at a⊢;split
  .rename_i c;rw [a6 c] at a;exact{i with props:=b,ok:=a}
  .rename_i c;rw [aI c] at a;exact{i with props:=b,ok:=a}
theorem qN{β:Type}{m:List (Int×List β)}{k:Int}{v:β}(a:v∈(aZ m k).getD []):∃l,(k,l)∈m/\v∈l:=by
 cases aa:aZ m k with
 |none=>rw [aa] at a;cases a
 |some l=>rw [aa] at a;exact⟨l,hS aa,a⟩
theorem wX{l:List aE}{v c:aE}(a:c∈iW l v):c∈l\/c=v:=by
 unfold iW at a;split at a
 .exact .inl a
 .rcases dv.1 a with a|a
  .exact .inl a
  .exact .inr (fT.1 a)
theorem eM.counts(i:eM g h H aP s){v:aE}(n:kE h H aP v)(aa:v.k=1\/v.k=2)(aM:v.s=s.slot)(r:v.ok)(q:_root_.Go.Proofs.YtngjfjhomikplaaGreatDoor.R.cQ g v=true):eM g h H aP (s.counts v):=by
 have e:∃N,(s.counts v).ok g N:=by obtain⟨N,o⟩:=i.ok;exact⟨N+1,o.counts r q⟩
 unfold ak.counts at e⊢;split
 .rename_i d;rw [a6 d] at e;refine{i with cW:=λp b c a=>?_,ok:=e};rcases i5 b with b|rfl
  .exact i.cW p b c a
  .rcases wX a with a|rfl
   .unfold ak.iy at a;rw [a6 j] at a;obtain⟨l,f,m⟩:=qN a;exact i.cW _ f c m
   .exact⟨n,d,aM,j⟩
 .rename_i d;rw [aI d] at e;refine{i with az:=λp b c a=>?_,ok:=e};rcases i5 b with b|rfl
  .exact i.az p b c a
  .rcases wX a with a|rfl
   .unfold ak.iy at a;rw [aI (by decide)] at a;obtain⟨l,f,m⟩:=qN a;exact i.az _ f c m
   .exact⟨n,aa.resolve_left d,aM,j⟩
theorem eM.dk(i:eM g h H aP s){m:aW}(hm:fa h H aP m.l)(c:m.cQ):eM g h H aP (s.dk g m):=by
 unfold ak.dk;split
 .exact i
 .rename_i v r b;split
  .rename_i a;unfold ak.hW at a;simp only [ea,m7,d5] at a;exact i.counts (hm v (by rw [b];simp)) a.1 a.2.1 (c.aH v (by rw [b];simp)) a.2.2.2
  .exact i
theorem eM.status(i:eM g h H aP s){m:aW}(hm:fa h H aP m.l)(k:m.cQ):eM g h H aP (s.status g m):=by
 have d:∃N,(s.status g m).ok g N:=by obtain⟨N,f⟩:=i.ok;exact⟨N+1,f.status k⟩
 unfold ak.status at d⊢;split
 .rename_i j;rw [a6 j] at d;refine{i with dj:=λp e q a=>?_,ok:=d};rcases i5 e with e|rfl
  .exact i.dj p e q a
  .dsimp only at a;split at a
   .obtain⟨l,b,c⟩:=qN a;exact i.dj _ b q c
   .rcases i5 a with a|rfl
    .obtain⟨l,b,c⟩:=qN a;exact i.dj _ b q c
    .exact hm
 .exact i
theorem eM.gl(i:eM g h H aP s){x:List UInt8}{l:List aE}{v:Int}(c:fa h H aP l)(b:kD g h H aP 2 s.slot v (br x))(j:x.length<=200)(d:l.length<=10)(f:∀x∈l,x.ok):eM g h H aP (s.gl x l):=by
 have e:∃N,(s.gl x l).ok g N:=by obtain⟨N,a⟩:=i.ok;exact⟨N,a.gl j d f⟩
 exact{i with dK:=c,dec:=λ_=>⟨v,b⟩,ok:=e}
theorem eM.decision(i:eM g h H aP s){m:aW}(hm:fa h H aP m.l)(a:m.cQ):eM g h H aP (s.decision g m):=by
 unfold ak.decision;split
 .exact i
 .split
  .rename_i v r c b;exact i.gl hm (za b hm) a.x a.l a.aH
  .exact i
theorem eM.fm(i:eM g h H aP s){m:aW}(hm:fa h H aP m.l)(a:m.cQ):eM g h H aP (s.fm g m):=by
 unfold ak.fm
 repeat' split
 .exact i.gf hm a
 .exact i.dk hm a
 .exact i.status hm a
 .exact i.decision hm a
 .exact i
theorem ak.AU(g:al)(s:ak)(m:aW):(s.fm g m).ao=s.ao/\(s.fm g m).slot=s.slot:=by
 unfold ak.fm
 repeat' split
 .unfold ak.gf ak.jN
  repeat' split
  all_goals exact⟨j,j⟩
 .unfold ak.dk
  repeat' split
  .exact⟨j,j⟩
  .unfold ak.counts;split<;>exact⟨j,j⟩
  .exact⟨j,j⟩
 .unfold ak.status;split<;>exact⟨j,j⟩
 .unfold ak.decision
  repeat' split
  all_goals exact⟨j,j⟩
 .exact⟨j,j⟩
end
structure Told(g:al)(h:Nat)(H:List ej)(aP:List aE)(s e8:ak)(l:List aW)(A:List ej):Prop where
 iK:∀c∈A,c.n=s.ao/\c.s=s.slot
 valid:Valid g.n h (A++H)
 inv:eM g h (A++H) (aP++fR l) e8
 kU:∀m∈l,m.cQ/\fa h (A++H) (aP++fR l) m.l
 ao:e8.ao=s.ao
 slot:e8.slot=s.slot
section
variable {g:al} {h:Nat} {H:List ej} {aP:List aE} {s e8 mH:ak}
theorem Told.nil(a:Valid g.n h H)(i:eM g h H aP e8)(hm:e8.ao=s.ao)(aM:e8.slot=s.slot):Told g h H aP s e8 [] []:=
 ⟨(by intro c b;cases b),a,by simpa using i,(by intro m hm;cases hm),hm,aM⟩
theorem Told.trans{l f:List aW}{A B:List ej}(a:Told g h H aP s e8 l A)(b:Told g h (A++H) (aP++fR l) e8 mH f B):Told g h H aP s mH (l++f) (B++A):=by
 have e:aP++fR (l++f)=(aP++fR l)++fR f:=by simp
 have i:(B++A)++H=B++(A++H):=dJ _ _ _;refine⟨λc d=>?_,by rw [i];exact b.valid,by rw [e,i];exact b.inv,λm hm=>?_,b.ao.trans a.ao,b.slot.trans a.slot⟩
 .rcases dv.1 d with d|d
  .have:=b.iK c d;rw [a.ao,a.slot] at this;exact this
  .exact a.iK c d
 .rw [e,i];rcases dv.1 hm with hm|hm
  .exact⟨(a.kU m hm).1,(a.kU m hm).2.mono (λc d=>dv.2 (.inr d)) (λc d=>List.mem_append.2 (.inl d))⟩
  .exact b.kU m hm
theorem ug{m a:aW}(hm:a∈s.all g m):a.l=m.l:=by
 unfold ak.all at hm;obtain⟨t,_,rfl⟩:=dV.1 hm;rfl
theorem w5{m a:aW}(hm:a∈s.all g m)(d:m.x.length<=200)(b:m.l.length<=10)(c:∀v∈m.l,v.ok):a.cQ:=by
 unfold ak.all at hm;obtain⟨t,_,rfl⟩:=dV.1 hm;exact ak.nC d b c
theorem all_some(d:2<=g.n)(m:aW):∃c,c∈s.all g m:=by
 have key:∃t,t∈mD s.ao g.n:=by
  unfold mD;by_cases a:s.ao=0
  .exact⟨1,jC.2 ⟨dV.2 ⟨1,nT.2 (by omega),j⟩,by rw [a];decide⟩⟩
  .exact⟨0,jC.2 ⟨dV.2 ⟨0,nT.2 (by omega),j⟩,by simp;omega⟩⟩
 obtain⟨t,b⟩:=key;exact⟨s.js g m t,dV.2 ⟨t,b,j⟩⟩
theorem IF(a:2<=g.n){m:aW}{c:aE}(b:c∈m.l):c∈fR (s.all g m):=by
 obtain⟨d,hm⟩:=all_some (s:=s) a m;exact nQ.2 ⟨d,hm,by rw [ug hm];exact b⟩
theorem xz{k:Int}{x:List UInt8}{s1:ak}(aa:k=1\/k=2)(q:2<=g.n)(o:s1.ao=s.ao)(p:s1.slot=s.slot)(t:Valid g.n h H)(r:wz g.n h ⟨s1.ao,k,s1.slot,s1.view,br x⟩ H)
 (u:∀f,(∀c∈aP,c∈f)->eM g h (⟨s1.ao,k,s1.slot,s1.view,br x⟩::H) f s1):Told g h H aP s (s1.aH g k x).1 (s1.aH g k x).2 [⟨s1.ao,k,s1.slot,s1.view,br x⟩]:=by
 have e:=u (aP++fR (s1.aH g k x).2) (λc d=>dv.2 (.inl d));have w:cX g k s1.slot s1.view (br x) s1.ao∈aP++fR (s1.aH g k x).2:=dv.2 (.inr (IF q (by simp)));have i:kE h (⟨s1.ao,k,s1.slot,s1.view,br x⟩::H) (aP++fR (s1.aH g k x).2) (cX g k s1.slot s1.view (br x) s1.ao):=⟨w,λ_ _=>oF,e.ok.elim λ_ b=>b.view⟩;obtain⟨N,b⟩:=e.ok;refine⟨λc d=>?_,⟨r,t⟩,?_,λm hm=>?_,?_,?_⟩
 .rw [fT.1 d];exact⟨o,p⟩
 .exact e.counts i aa j (iZ _ _ _ _ _ _ (eK _)) (xy _ _ _ _ _ b.ao)
 .have y:m.l=[cX g k s1.slot s1.view (br x) s1.ao]:=ug hm;refine⟨w5 hm (b4 _) (by show 1<=10;omega) (λv a=>?_),λv a=>?_⟩
  .rw [fT.1 a];exact iZ _ _ _ _ _ _ (eK _)
  .rw [y] at a;rw [fT.1 a];exact i
 .refine Eq.trans ?_ o;show(s1.counts _).ao=s1.ao;unfold ak.counts;split<;>rfl
 .refine Eq.trans ?_ p;show(s1.counts _).slot=s1.slot;unfold ak.counts;split<;>rfl
theorem HK(l:g.ok)(m:Valid g.n h H)(i:eM g h H aP s){r:ak×List aW}(d:s.gX g=some r):∃A,Told g h H aP s r.1 r.2 A:=by
 obtain⟨N,a⟩:=i.ok;unfold ak.gX at d;cases bw:(dd s.az).findSome? λp=>s.fs g p.2 with
 |none=>rw [bw] at d;cases d
 |some y=>
  rw [bw] at d;cases d;obtain⟨p,q,e⟩:=p4 bw;have b:p∈s.az:=g0.1 q;obtain⟨f,o⟩:=x4 (N:=N) (h:=h) (H:=H) (aP:=aP) (k:=2) (v:=p.1) (a.j0 p b) e (λc f=>i.az p b c f);exact⟨[],Told.nil m (i.gl o f (a.fs l (a.j0 p b) e).1 (a.fs l (a.j0 p b) e).2.1 (a.fs l (a.j0 p b) e).2.2) j j⟩
theorem GQ(E:2<=g.n)(C:Valid g.n h H)(i:eM g h H aP s){r:ak×List aW}(d:s.gz g=some r):∃A,Told g h H aP s r.1 r.2 A:=by
 obtain⟨N,F⟩:=i.ok;unfold ak.gz at d;split at d
 .cases d
 .rename_i m hm;split at d
  .cases d
  .rename_i a;split at d
   .rename_i w;cases d;have L:=hS hm;have J:=i.e5;have R:=i.fX;refine⟨_,xz (s1:={s with hT:=s.view}) (.inl j) E j j C ⟨λy B=>?_,λ_ v y B=>?_,λaa=>absurd aa (show¬((1:Int)=2) by decide)⟩ (λO e=>?_)⟩
    .have t:s.view<=s.hT:=(i.ji _ B j j).1 j;omega
    .have G:0<=v/\v<=s.comm:=(i.ji _ B j j).2 j;show v<=s.view/\(v<s.view->∃u,v<=u/\u<=s.view/\mP g.n h H 1 s.slot u (br m.x));refine⟨by omega,λQ=>?_⟩;unfold _root_.Go.Proofs.YtngjfjhomikplaaGreatDoor.R.may at w;simp only [m7,d5,gd] at w;rcases w with f|f|f
     .exact absurd f (by omega)
     .refine⟨s.comm,G.2,J,?_⟩;have o:=C.xF (i.lock (by omega));rw [f] at o;exact o
     .split at f
      .rename_i u hu;have P:u>s.fX:=by simpa using f
       unfold kb at hu;split at hu
       .cases hu
       .rename_i z T S;split at hu
        .rename_i I;cases hu;refine⟨z.v,by omega,by omega,(za (h:=h) (H:=H) (aP:=aP) I.2.2 ?_).fs⟩;exact i.props _ L
        .cases hu
      .cases f
    .have b:∀c∈H,c∈(⟨s.ao,1,s.slot,s.view,br m.x⟩:ej)::H:=λc l=>lG _ l
     exact{c3:=i.c3.mono b e,props:=λp a=>(i.props p a).mono b e,cW:=λp a v k=>⟨(i.cW p a v k).1.mono b e,(i.cW p a v k).2⟩,az:=λp a v k=>⟨(i.az p a v k).1.mono b e,(i.az p a v k).2⟩,dj:=λp a q M=>(i.dj p a q M).mono b e,dK:=i.dK.mono b e,dec:=λK=>by obtain⟨v,k⟩:=i.dec K;exact⟨v,k.mono b e⟩,cr:=h6 _,e5:=i.e5,fX:=i.fX,lock:=λD=>b _ (i.lock D),ji:=λc l t o=>by
            rcases g1.1 l with rfl|l
            ·exact⟨λ_=>h6 _,λaa=>absurd aa (show¬((1:Int)=2) by decide)⟩
            ·exact⟨λaa=>rN ((i.ji c l t o).1 aa) i.cr,(i.ji c l t o).2⟩,ok:=⟨N,{F with}⟩}
   .cases d
theorem DA(G:g.ok)(C:2<=g.n)(D:Valid g.n h H)(i:eM g h H aP s){r:ak×List aW}(o:s.g3 g=some r):∃A,Told g h H aP s r.1 r.2 A:=by
 obtain⟨N,u⟩:=i.ok;unfold ak.g3 at o;split at o
 .cases o
 .rename_i b;split at o
  .cases o
  .rename_i y he;cases o;have x:=u.fs G (u.iy 1 s.view) he
   obtain⟨a,F⟩:=x4 (N:=N) (h:=h) (H:=H) (aP:=aP) (k:=1) (v:=s.view) (u.iy 1 s.view) he (λc a=>by
    unfold ak.iy at a;rw [a6 j] at a;obtain⟨l,m,t⟩:=qN a;exact i.cW _ m c t)
   refine⟨_,xz (s1:={s with comm:=s.view,fX:=s.view,dH:=y.1,c3:=y.2}) (.inr j) C j j D ⟨λz B=>?_,λaa=>absurd aa (show¬((2:Int)=1) by decide),λ_=>⟨a.fs,λw z B=>?_⟩⟩ (λJ e=>?_)⟩
   .have m:0<=s.view/\s.view<=s.comm:=(i.ji _ B j j).2 j;omega
   .exact rN ((i.ji _ B j j).1 j) i.cr
   .have d:∀c∈H,c∈(⟨s.ao,2,s.slot,s.view,br y.1⟩:ej)::H:=λc a=>lG _ a
    exact{c3:=F.mono d e,props:=λp b=>(i.props p b).mono d e,cW:=λp b v f=>⟨(i.cW p b v f).1.mono d e,(i.cW p b v f).2⟩,az:=λp b v f=>⟨(i.az p b v f).1.mono d e,(i.az p b v f).2⟩,dj:=λp b q I=>(i.dj p b q I).mono d e,dK:=i.dK.mono d e,dec:=λE=>by obtain⟨v,f⟩:=i.dec E;exact⟨v,f.mono d e⟩,cr:=i.cr,e5:=h6 _,fX:=rfl,lock:=λ_=>oF,ji:=λc a m t=>by
           rcases g1.1 a with rfl|a
           ·exact⟨λaa=>absurd aa (show¬((2:Int)=1) by decide),λ_=>⟨u.view.1,h6 _⟩⟩
           ·exact⟨(i.ji c a m t).1,λaa=>⟨((i.ji c a m t).2 aa).1,rN ((i.ji c a m t).2 aa).2 i.e5⟩⟩,ok:=⟨N,{u with dH:=x.1,c3:=x.2.1,ll:=x.2.2}⟩}
theorem EC{slot view:Int}{l:List (Int×aW)}(a:∀p∈l,fa h H aP p.2.l):fa h H aP (iH g slot view l).2.2:=by
 have c:∀(x:List UInt8)(ls:List aE),fa h H aP ls->fa h H aP (ky g slot view x ls).2.2:=λx ls d=>by
  unfold ky;split
  .exact d
  .intro v b;cases b
 have key:∀(l:List (Int×aW))(k:Int×List UInt8×List aE),(∀p∈l,fa h H aP p.2.l)->fa h H aP k.2.2->fa h H aP (l.foldl (λk p=>lf g slot view k.2.1 k.2.2 p.2.x p.2.l) k).2.2:=by
  intro l;induction l with
  |nil=>intro k _ aa;exact aa
  |cons p r f=>
   intro k a aa;refine f _ (λq e=>a q (by simp [e])) ?_;unfold lf;dsimp only;split
   .exact c _ _ (a p (by simp))
   .exact c _ _ aa
 exact key l _ a (by intro v b;cases b)
theorem Dn(i:eM g h H aP s){y:List UInt8×List aE}(a:s.gU g=some y):fa h H aP y.2:=by
 unfold ak.gU at a
 have hw:∀y:List UInt8×List aE,(if 0<s.want.length then some (s.want,([]:List aE)) else none)=some y->fa h H aP y.2:=λy b=>by
  split at b
  .cases b;intro v e;cases e
  .cases b
 split at a
 .split at a
  .cases a
  .rename_i l c;split at a
   .split at a
    .cases a;exact EC (λp d=>i.dj _ (hS c) p (g0.1 d))
    .exact hw y a
   .cases a
 .exact hw y a
theorem GS(t:Valid g.n h H)(i:eM g h H aP s){r:ak×List aW}(f:s.gW g=some r):∃A,Told g h H aP s r.1 r.2 A:=by
 obtain⟨N,k⟩:=i.ok;unfold ak.gW at f;split at f
 .cases f
 .split at f
  .cases f
  .rename_i y o;cases f;have l:=Dn i o;have aM:=k.gU o;have b:∀c∈aP,c∈aP++fR (s.all g ⟨2,0,0,0,s.view,y.1,y.2,cA⟩):=λc j=>dv.2 (.inl j)
   have a:∀c∈H,c∈H:=λc j=>j
   have x:eM g h H (aP++fR (s.all g ⟨2,0,0,0,s.view,y.1,y.2,cA⟩)) ({s with prop:=s.view}:ak):={c3:=i.c3.mono a b,props:=λp d=>(i.props p d).mono a b,cW:=λp d v e=>⟨(i.cW p d v e).1.mono a b,(i.cW p d v e).2⟩,az:=λp d v e=>⟨(i.az p d v e).1.mono a b,(i.az p d v e).2⟩,dj:=λp d q w=>(i.dj p d q w).mono a b,dK:=i.dK.mono a b,dec:=λu=>by obtain⟨v,e⟩:=i.dec u;exact⟨v,e.mono a b⟩,cr:=i.cr,e5:=i.e5,fX:=i.fX,lock:=i.lock,ji:=i.ji,ok:=⟨N,{k with}⟩};have z:=x.gf (m:=s.js g ⟨2,0,0,0,s.view,y.1,y.2,cA⟩ s.ao) (l.mono a b) (ak.nC aM.1 aM.2.1 aM.2.2);refine⟨[],(by intro c j;cases j),t,z,λm hm=>⟨w5 hm aM.1 aM.2.1 aM.2.2,?_⟩,?_,?_⟩
   .rw [ug hm];exact l.mono a b
   .dsimp only;unfold ak.gf ak.jN;repeat' split
    all_goals rfl
   .dsimp only;unfold ak.gf ak.jN;repeat' split
    all_goals rfl
theorem HY(d:g.ok)(c:2<=g.n)(b:Valid g.n h H)(i:eM g h H aP s){r:ak×List aW}(a:s.step g=some r):∃A,Told g h H aP s r.1 r.2 A:=by
 unfold ak.step at a;split at a
 .rename_i e;cases a;exact HK d b i e
 .split at a
  .rename_i e;cases a;exact GQ c b i e
  .split at a
   .rename_i e;cases a;exact DA d c b i e
   .exact GS b i a
theorem ak.nn(g:al):∀(k:Nat)(s:ak)(l:List aW),ak.go g k s l=((ak.go g k s []).1,l++(ak.go g k s []).2)
 |0,s,l=>by simp [ak.go]
 |k+1,s,l=>by
  rw [ak.go,ak.go];split
  .simp
  .split
   .simp
   .rename_i e8 bY e;rw [ak.nn g k e8 (l++bY),ak.nn g k e8 ([]++bY)];simp
theorem yz(d:g.ok)(c:2<=g.n):∀(k:Nat){H:List ej}{aP:List aE}{s:ak},Valid g.n h H->eM g h H aP s->∃A,Told g h H aP s (ak.go g k s []).1 (ak.go g k s []).2 A
 |0,H,aP,s,a,i=>⟨[],Told.nil a i j j⟩
 |k+1,H,aP,s,a,i=>by
  rw [ak.go];split
  .exact⟨[],Told.nil a i j j⟩
  .split
   .exact⟨[],Told.nil a i j j⟩
   .rename_i e8 bY e;obtain⟨A,b⟩:=HY d c a i e;obtain⟨B,f⟩:=yz d c k b.valid b.inv;rw [ak.nn g k e8 ([]++bY)];exact⟨_,b.trans f⟩
theorem tf(c:g.ok)(a:2<=g.n)(b:Valid g.n h H)(i:eM g h H aP s):∃A,Told g h H aP s (s.steps g).1 (s.steps g).2 A:=yz c a 5 b i
theorem Told.from{l:List aW}{A:List ej}(t:Told g h H aP e8 mH l A)(hm:e8.ao=s.ao)(aM:e8.slot=s.slot):Told g h H aP s mH l A:=
 ⟨λc a=>by have:=t.iK c a;rw [hm,aM] at this;exact this,t.valid,t.inv,t.kU,t.ao.trans hm,t.slot.trans aM⟩
theorem Ig(e:g.ok)(b:2<=g.n)(a:Valid g.n h H)(i:eM g h H aP s){m:aW}(hm:fa h H aP m.l)(d:m.cQ):∃A,Told g h H aP s (s.take g m).1 (s.take g m).2 A:=by
 unfold ak.take;split
 .exact⟨[],Told.nil a i j j⟩
 .obtain⟨A,c⟩:=tf e b a (i.fm hm d);exact⟨A,c.from (s.AU g m).1 (s.AU g m).2⟩
theorem IQ(c:g.ok)(b:2<=g.n)(a:Valid g.n h H)(i:eM g h H aP s)(x:List UInt8):∃A,Told g h H aP s (s.hX g x).1 (s.hX g x).2 A:=by
 unfold ak.hX;split
 .exact⟨[],Told.nil a i j j⟩
 .split
  .rename_i f;obtain⟨N,e⟩:=i.ok;obtain⟨A,d⟩:=tf c b a (s:={s with want:=x}) {i with ok:=⟨N,{e with want:=f.2}⟩};exact⟨A,d.from j j⟩
  .exact tf c b a i
theorem Iq(q:g.ok)(l:2<=g.n)(e:Valid g.n h H)(i:eM g h H aP s):∃A,Told g h H aP s (s.tick g).1 (s.tick g).2 A:=by
 unfold ak.tick;split
 .exact⟨[],Told.nil e i j j⟩
 .rename_i aJ;obtain⟨N,b⟩:=i.ok;have u:s.view<8:=by simp at aJ;omega
  have r:ak.ok g N ({s with view:=s.view+1}:ak):={b with view:=⟨show 0<=s.view+1 by have:=b.view;omega,show s.view+1<=8 by omega⟩};have k:eM g h H aP ({s with view:=s.view+1}:ak):={i with cr:=show s.hT<=s.view+1 by have:=i.cr;omega,e5:=show s.comm<=s.view+1 by have:=i.e5;omega,ok:=⟨N,r⟩};have f:∀t,(({s with view:=s.view+1}:ak).js g ⟨4,0,0,0,s.view+1,s.dH,s.c3,cA⟩ t).cQ:=λt=>ak.nC b.dH b.c3 b.ll
  have p:∃A,Told g h H aP s (s.gs g).1 (s.gs g).2 A:=by
   unfold ak.gs;dsimp only;split
   .refine⟨[],Told.nil e (k.status (m:=({s with view:=s.view+1}:ak).js g ⟨4,0,0,0,s.view+1,s.dH,s.c3,cA⟩ _) i.c3 (f _)) ?_ ?_⟩<;>(unfold ak.status;split<;>rfl)
   .refine⟨[],(by intro c a;cases a),e,k.mono (λc a=>a) (λc a=>dv.2 (.inl a)) (λc a _ _=>a),λm hm=>?_,j,j⟩;rw [fT.1 hm];exact⟨f _,i.c3.mono (λc a=>a) (λc a=>dv.2 (.inl a))⟩
  obtain⟨A,d⟩:=p;obtain⟨B,o⟩:=tf q l d.valid d.inv;exact⟨_,d.trans o⟩
end
structure ho(g:al)(h:Nat)(H:List ej)(aP:List aE)(s:aF):Prop where
 cur:∀r,s.cur=some r->eM g h H aP r/\r.slot=(s.log.length:Int)/\r.ao=s.ao
 log:∀(i:Nat)(e:List UInt8×List aE),s.log[i]? =some e->(∃v,kD g h H aP 2 i v (br e.1))/\fa h H aP e.2/\e.1.length<=200/\e.2.length<=10/\∀v∈e.2,v.ok
 stored:∀p∈s.stored,fa h H aP p.2.l/\p.2.cQ
 iK:∀c∈H,c.n=s.ao->c.s<=(s.log.length:Int)
 ao:0<=s.ao/\s.ao<g.n
theorem ho.mono{g:al}{h:Nat}{H f:List ej}{aP m:List aE}{s:aF}(i:ho g h H aP s)(b:∀c∈H,c∈f)(d:∀c∈aP,c∈m)(aJ:∀c∈f,c.n=s.ao->c∈H):ho g h f m s where
 cur:=λr l=>⟨(i.cur r l).1.mono b d (λc j a _=>aJ c j (a.trans (i.cur r l).2.2)),(i.cur r l).2⟩
 log:=λk e he=>by
  obtain⟨⟨v,u⟩,q,t⟩:=i.log k e he;exact⟨⟨v,u.mono b d⟩,q.mono b d,t⟩
 stored:=λp o=>⟨(i.stored p o).1.mono b d,(i.stored p o).2⟩
 iK:=λc j a=>i.iK c (aJ c j a) a
 ao:=i.ao
structure eN(g:al)(h:Nat)(H:List ej)(aP:List aE)(s e8:aF)(l:List aW)(A:List ej):Prop where
 iK:∀c∈A,c.n=s.ao
 valid:Valid g.n h (A++H)
 inv:ho g h (A++H) (aP++fR l) e8
 kU:∀m∈l,m.cQ/\fa h (A++H) (aP++fR l) m.l
 ao:e8.ao=s.ao
section
variable {g:al} {h:Nat} {H:List ej} {aP:List aE} {s e8 mH:aF}
theorem eN.nil(a:Valid g.n h H)(i:ho g h H aP e8)(hm:e8.ao=s.ao):eN g h H aP s e8 [] []:=
 ⟨(by intro c b;cases b),a,by simpa using i,(by intro m hm;cases hm),hm⟩
theorem eN.trans{l f:List aW}{A B:List ej}(a:eN g h H aP s e8 l A)(b:eN g h (A++H) (aP++fR l) e8 mH f B):eN g h H aP s mH (l++f) (B++A):=by
 have e:aP++fR (l++f)=(aP++fR l)++fR f:=by simp
 have i:(B++A)++H=B++(A++H):=dJ _ _ _;refine⟨λc d=>?_,by rw [i];exact b.valid,by rw [e,i];exact b.inv,λm hm=>?_,b.ao.trans a.ao⟩
 .rcases dv.1 d with d|d
  .have:=b.iK c d;rw [a.ao] at this;exact this
  .exact a.iK c d
 .rw [e,i];rcases dv.1 hm with hm|hm
  .exact⟨(a.kU m hm).1,(a.kU m hm).2.mono (λc d=>dv.2 (.inr d)) (λc d=>List.mem_append.2 (.inl d))⟩
  .exact b.kU m hm
theorem eN.from{l:List aW}{A:List ej}(t:eN g h H aP e8 mH l A)(hm:e8.ao=s.ao):eN g h H aP s mH l A:=
 ⟨λc a=>by have:=t.iK c a;rw [hm] at this;exact this,t.valid,t.inv,t.kU,t.ao.trans hm⟩
theorem ho.lift(i:ho g h H aP s){r o:ak}{l:List aW}{A:List ej}(a:s.cur=some r)(t:Told g h H aP r o l A):eN g h H aP s {s with cur:=some o} l A:=by
 obtain⟨B,m,n⟩:=i.cur r a;have b:∀c∈H,c∈A++H:=λc a=>dv.2 (.inr a)
 have d:∀c∈aP,c∈aP++fR l:=λc a=>dv.2 (.inl a)
 refine⟨λc a=>(t.iK c a).1.trans n,t.valid,?_,t.kU,j⟩;refine⟨λq y=>?_,λk e he=>?_,λp f=>⟨(i.stored p f).1.mono b d,(i.stored p f).2⟩,λc a u=>?_,i.ao⟩
 .cases y;exact⟨t.inv,t.slot.trans m,t.ao.trans n⟩
 .obtain⟨⟨v,z⟩,w,x⟩:=i.log k e he;exact⟨⟨v,z.mono b d⟩,w.mono b d,x⟩
 .rcases dv.1 a with a|a
  .show c.s<=(s.log.length:Int);rw [(t.iK c a).2,m];exact h6 _
  .exact i.iK c a u
theorem xT(e:g.ok)(c:2<=g.n)(a:Valid g.n h H)(i:ho g h H aP s)(x:List UInt8):∃A,eN g h H aP s {s with cur:=(fP g s.cur x).1} (fP g s.cur x).2 A:=by
 cases b:s.cur with
 |none=>exact⟨[],eN.nil a {i with cur:=λr f=>by cases f} j⟩
 |some r=>
  obtain⟨A,d⟩:=IQ e c a (i.cur r b).1 x;exact⟨A,i.lift b d⟩
theorem xQ(f:g.ok)(c:2<=g.n)(a:Valid g.n h H)(i:ho g h H aP s){m:aW}(hm:fa h H aP m.l)(e:m.cQ):∃A,eN g h H aP s {s with cur:=(hf g s.cur m).1} (hf g s.cur m).2 A:=by
 cases b:s.cur with
 |none=>exact⟨[],eN.nil a {i with cur:=λr k=>by cases k} j⟩
 |some r=>
  obtain⟨A,d⟩:=Ig f c a (i.cur r b).1 hm e;exact⟨A,i.lift b d⟩
theorem DH(e:g.ok)(c:2<=g.n)(a:Valid g.n h H)(i:ho g h H aP s):∃A,eN g h H aP s {s with cur:=(iG g s.cur).1} (iG g s.cur).2 A:=by
 cases b:s.cur with
 |none=>exact⟨[],eN.nil a {i with cur:=λr f=>by cases f} j⟩
 |some r=>
  obtain⟨A,d⟩:=Iq e c a (i.cur r b).1;exact⟨A,i.lift b d⟩
theorem IN(c:g.ok)(b:2<=g.n)(a:Valid g.n h H)(i:ho g h H aP s):∃A,eN g h H aP s (s.wanted g).1 (s.wanted g).2 A:=by
 unfold aF.wanted;split
 .exact⟨[],eN.nil a i j⟩
 .exact xT c b a i _
theorem Gn(k:g.ok)(f:2<=g.n){a:aF×List aW}{A:List ej}(t:eN g h H aP s a.1 a.2 A){p:Int×aW}(d:fa h H aP p.2.l/\p.2.cQ):∃B,eN g h H aP s (aF.one g a p).1 (aF.one g a p).2 B:=by
 have e:ho g h (A++H) (aP++fR a.2) {a.1 with stored:=fY a.1.stored p.1}:={t.inv with stored:=λq m=>t.inv.stored q (pf m)};unfold aF.one;split
 .obtain⟨B,i⟩:=xQ k f t.valid e (d.1.mono (λc b=>dv.2 (.inr b)) (λc b=>List.mem_append.2 (.inl b))) d.2;exact⟨_,t.trans (i.from j)⟩
 .split
  .exact⟨A,t.iK,t.valid,e,t.kU,t.ao⟩
  .exact⟨A,t⟩
theorem yq(d:g.ok)(b:2<=g.n):∀(l:List (Int×aW)){a:aF×List aW}{A:List ej},eN g h H aP s a.1 a.2 A->(∀p∈l,fa h H aP p.2.l/\p.2.cQ)->∃B,eN g h H aP s (l.foldl (aF.one g) a).1 (l.foldl (aF.one g) a).2 B
 |[],_,A,t,_=>⟨A,t⟩
 |p::r,a,A,t,c=>by
  obtain⟨B,e⟩:=Gn d b t (c p (by simp));exact yq d b r e (λq f=>c q (by simp [f]))
theorem C0(b:g.ok)(a:2<=g.n)(d:Valid g.n h H)(i:ho g h H aP s):∃A,eN g h H aP s (s.de g).1 (s.de g).2 A:=by
 obtain⟨A,c⟩:=IN b a d i;exact yq b a _ c (λp e=>i.stored p (g0.1 e))
theorem eM.new{ao slot:Int}(hm:0<=ao/\ao<g.n)(aM:0<=slot/\slot<=63)(aJ:∀c∈H,c.n=ao->c.s=slot->False):eM g h H aP (ak.new ao slot) where
 c3:=(by intro v a;cases a)
 props:=(by intro v a;cases a)
 cW:=(by intro v a;cases a)
 az:=(by intro v a;cases a)
 dj:=(by intro v a;cases a)
 dK:=(by intro v a;cases a)
 cr:=(by show(-1:Int)<=0;decide)
 e5:=(by show(-1:Int)<=0;decide)
 fX:=rfl
 lock:=λb=>absurd b (by show¬(0:Int)<= -1;decide)
 ji:=λc f d e=>(aJ c f d e).elim
 dec:=λi=>by cases i
 ok:=⟨0,ak.lo hm aM 0⟩
theorem F7(i:ho g h H aP s){r:ak}(a:s.cur=some r)(o:r.dec=true):ho g h H aP (s.next r):=by
 obtain⟨m,u,y⟩:=i.cur r a;obtain⟨v,n⟩:=m.dec o;obtain⟨N,f⟩:=m.ok;refine⟨λq b=>?_,λk e he=>?_,i.stored,λc a d=>?_,i.ao⟩
 .have l:(s.next r).log.length=s.log.length+1:=by show(s.log++[(r.value,r.dK)]).length=_;simp
  rw [l];unfold aF.next at b;dsimp only at b;split at b
  .cases b;refine⟨eM.new i.ao ⟨by omega,by omega⟩ (λc a d w=>?_),j,j⟩;have:=i.iK c a d;omega
  .cases b
 .have he:(s.log++[(r.value,r.dK)])[k]? =some e:=he;rcases rG k s.log.length with aa|aa
  .rw [iU aa] at he;exact i.log k e he
  .rw [jf aa] at he;obtain⟨p,he⟩:=fk.1 he;have t:k=s.log.length:=by simp at p;omega
   subst t;simp at he;subst he;rw [u] at n;exact⟨⟨v,n⟩,m.dK,f.value,f.dK,f.ri⟩
 .have x:=i.iK c a d;have l:(s.next r).log.length=s.log.length+1:=by show(s.log++[(r.value,r.dK)]).length=_;simp
  rw [l];omega
theorem aF.nn(g:al):∀(k:Nat)(s:aF)(l:List aW),aF.go g k s l=((aF.go g k s []).1,l++(aF.go g k s []).2)
 |0,s,l=>by simp [aF.go]
 |k+1,s,l=>by
  rw [aF.go,aF.go];split
  .simp
  .split
   .rename_i r _ _;rw [aF.nn g k ((s.next r).de g).1 (l++((s.next r).de g).2),aF.nn g k ((s.next r).de g).1 ([]++((s.next r).de g).2)];simp
   .simp
theorem AC(d:g.ok)(c:2<=g.n):∀(k:Nat){H:List ej}{aP:List aE}{s:aF},Valid g.n h H->ho g h H aP s->∃A,eN g h H aP s (aF.go g k s []).1 (aF.go g k s []).2 A
 |0,H,aP,s,a,i=>⟨[],eN.nil a i j⟩
 |k+1,H,aP,s,a,i=>by
  rw [aF.go];split
  .exact⟨[],eN.nil a i j⟩
  .rename_i r l;split
   .rename_i f;obtain⟨A,b⟩:=C0 d c a (F7 i l f);obtain⟨B,e⟩:=AC d c k b.valid b.inv;rw [aF.nn g k _ ([]++_)];exact⟨_,(b.trans e).from (s:=s) j⟩
   .exact⟨[],eN.nil a i j⟩
theorem u9(c:g.ok)(a:2<=g.n){l:List aW}{A:List ej}(t:eN g h H aP s e8 l A):∃B,eN g h H aP s (aF.h9 g e8 l).1 (aF.h9 g e8 l).2 B:=by
 obtain⟨B,b⟩:=AC c a 65 t.valid t.inv;unfold aF.h9;rw [aF.nn];exact⟨_,t.trans b⟩
theorem AP(c:g.ok)(b:2<=g.n)(a:Valid g.n h H)(i:ho g h H aP s)(x:List UInt8):∃A,eN g h H aP s (s.eQ g x).1 (s.eQ g x).2.1 A:=by
 have aJ:∃A,eN g h H aP s s [] A:=⟨[],eN.nil a i j⟩;unfold aF.eQ;split
 .exact aJ
 .split
  .exact aJ
  .split
   .exact aJ
   .have d:ho g h H aP {s with cy:=s.cy++[x]}:={i with};split
    .exact⟨[],eN.nil a d j⟩
    .obtain⟨A,e⟩:=xT c b a d x;exact u9 c b (e.from j)
theorem IA(b:Valid g.n h H)(i:ho g h H aP s)(m:aW):eN g h H aP s s (s.told g m) []:=by
 have aJ:eN g h H aP s s [] []:=eN.nil b i j;unfold aF.told;split
 .exact aJ
 .split
  .exact aJ
  .rename_i e he;obtain⟨_,d,f,k,l⟩:=i.log _ e he;refine⟨(by intro c a;cases a),b,i.mono (λc a=>a) (λc a=>dv.2 (.inl a)) (λc a _=>a),λq o=>?_,j⟩;rw [fT.1 o];exact⟨⟨al.ec _ _ _,l,f,k⟩,d.mono (λc a=>a) (λc a=>dv.2 (.inl a))⟩
theorem HQ(c:g.ok)(b:2<=g.n)(a:Valid g.n h H)(i:ho g h H aP s){m:aW}(hm:fa h H aP m.l)(e:m.cQ):∃A,eN g h H aP s (s.take g m).1 (s.take g m).2 A:=by
 unfold aF.take;split
 .exact AP c b a i m.x
 .split
  .exact⟨[],IA a i m⟩
  .split
   .obtain⟨A,f⟩:=xQ c b a i hm e;exact u9 c b f
   .split
    .refine⟨[],eN.nil a {i with stored:=λp d=>?_} j⟩;rcases i5 d with d|rfl
     .exact i.stored p d
     .exact⟨hm,e⟩
    .exact⟨[],eN.nil a i j⟩
theorem HZ(b:g.ok)(a:2<=g.n)(d:Valid g.n h H)(i:ho g h H aP s):∃A,eN g h H aP s (s.tick g).1 (s.tick g).2 A:=by
 unfold aF.tick;obtain⟨A,c⟩:=DH b a d i;exact u9 b a c
end
theorem bo.qn(x:bo):x.ix.s=x.s:=(bo.qo ((x.s.log.map Prod.fst).drop x.dw) x).1
structure eO(g:al)(h:Nat)(H:List ej)(aP:List aE)(z:aY):Prop where
 n:z.bO.length=g.n
 aJ:h<=g.n
 bw:g.n-h<=jM g.n
 valid:Valid g.n h H
 bO:∀(i:Nat)(x:bo),z.bO[i]? =some (some x)->ho g h H aP x.s/\x.s.ao=(i:Int)
 vc:∀i,i<h->∃x,z.bO[i]? =some (some x)
 bx:∀m∈z.bx,m.cQ/\fa h H aP m.l
 heard:∀m∈z.heard,m.cQ/\fa h H aP m.l
def gu(aP:List aE)(z:aY):Prop:=z.lost=0->z.heard.length<1000->∀v∈aP,v∈fR z.heard
def jB(z hi:aY):Prop:=hi.bO.length=z.bO.length/\∀(i:Nat)(x:bo),z.bO[i]? =some (some x)->∃e9,hi.bO[i]? =some (some e9)/\x.s.log<+:e9.s.log
theorem jB.refl(z:aY):jB z z:=⟨j,λi x a=>⟨x,a,oM _⟩⟩
theorem jB.same{z hi:aY}(h:hi.bO=z.bO):jB z hi:=⟨by rw [h],λi x a=>⟨x,by rw [h];exact a,oM _⟩⟩
theorem jB.trans{a b c:aY}(h:jB a b)(d:jB b c):jB a c:=⟨d.1.trans h.1,λi x g=>by
 obtain⟨y,j,e⟩:=h.2 i x g;obtain⟨u,hu,f⟩:=d.2 i y j;exact⟨u,hu,e.trans f⟩⟩
def Next(g:al)(h:Nat)(z hi:aY):Prop:=∃b a,eO g h b a hi/\gu a hi/\jB z hi
section
variable {g:al} {h:Nat} {H:List ej} {aP:List aE} {z hi:aY}
theorem eO.here(i:eO g h H aP z)(a:gu aP z):Next g h z z:=⟨H,aP,i,a,jB.refl z⟩
theorem eO.same(i:eO g h H aP z)(a:gu aP z)(b:hi.bO=z.bO)(d:hi.bx=z.bx)(c:hi.heard=z.heard)(e:hi.lost=z.lost):eO g h H aP hi/\gu aP hi:=
 ⟨⟨by rw [b];exact i.n,i.aJ,i.bw,i.valid,by rw [b];exact i.bO,by rw [b];exact i.vc,by rw [d];exact i.bx,by rw [c];exact i.heard⟩,by unfold gu;rw [c,e];exact a⟩
theorem eO.put(i:eO g h H aP z){l:List aW}(a:∀m∈l,m.cQ/\fa h H aP m.l):eO g h H aP (z.g6 l):=
 {i with
   bx:=λm hm=>(dv.1 (show m∈z.bx++l.take (512-z.bx.length) from hm)).elim (i.bx m) (λh=>a m (List.mem_of_mem_take h))
   heard:=λm hm=>(dv.1 (show m∈z.heard++l.take (min (min l.length (512-z.bx.length)) (1000-z.heard.length)) from hm)).elim (i.heard m) (λh=>a m (List.mem_of_mem_take h))}
theorem gu.put(a:gu aP z)(l:List aW):gu (aP++fR l) (z.g6 l):=λd c v b=>by
 have d:z.lost+(l.length-(512-z.bx.length))=0:=d;have c:(z.heard++l.take (min (min l.length (512-z.bx.length)) (1000-z.heard.length))).length<1000:=c;show v∈fR (z.heard++l.take (min (min l.length (512-z.bx.length)) (1000-z.heard.length)));rw [b0,List.length_take] at c;rw [h7 (by omega)];unfold fR;rw [mZ];rcases dv.1 b with b|b
 .exact dv.2 (.inl (a (by omega) (by omega) v b))
 .exact dv.2 (.inr b)
theorem eO.wc(i:eO g h H aP z)(a:gu aP z){J:Nat}{x e9:bo}{l:List aW}{A:List ej}(p:z.bO[J]? =some (some x))(t:eN g h H aP x.s e9.s l A)(B:x.s.gn e9.s):Next g h z (aY.g6 {z with bO:=z.bO.set J (some e9)} l):=by
 have o:J<z.bO.length:=(fk.1 p).1;obtain⟨_,r⟩:=i.bO J x p;have f:∀c∈H,c∈A++H:=λc d=>dv.2 (.inr d)
 have j:∀c∈aP,c∈aP++fR l:=λc d=>dv.2 (.inl d)
 have C:eO g h (A++H) (aP++fR l) {z with bO:=z.bO.set J (some e9)}:=by
  refine⟨by show(z.bO.set J (some e9)).length=g.n;rw [hp];exact i.n,i.aJ,i.bw,t.valid,λk y b=>?_,λk aa=>?_,λm hm=>⟨(i.bx m hm).1,(i.bx m hm).2.mono f j⟩,λm hm=>⟨(i.heard m hm).1,(i.heard m hm).2.mono f j⟩⟩
  .have b:(z.bO.set J (some e9))[k]? =some (some y):=b;by_cases e:J=k
   .subst e;rw [qa o] at b;cases b;exact⟨t.inv,t.ao.trans r⟩
   .rw [qb e] at b;obtain⟨u,q⟩:=i.bO k y b;refine⟨u.mono f j (λc d w=>?_),q⟩;rcases dv.1 d with d|d
    .exfalso;have v:=t.iK c d;rw [r] at v;rw [q] at w;omega
    .exact d
  .show∃y,(z.bO.set J (some e9))[k]? =some (some y);by_cases e:J=k
   .subst e;exact⟨e9,qa o⟩
   .rw [qb e];exact i.vc k aa
 refine⟨_,_,C.put t.kU,gu.put (z:={z with bO:=z.bO.set J (some e9)}) a l,by show(z.bO.set J (some e9)).length=_;rw [hp],λk y b=>?_⟩;show∃D,(z.bO.set J (some e9))[k]? =some (some D)/\_;by_cases e:J=k
 .subst e;rw [p] at b;cases b;exact⟨e9,qa o,B.2⟩
 .rw [qb e];exact⟨y,b,oM _⟩
theorem eO.gH(k:g.ok)(e:2<=g.n)(i:eO g h H aP z)(a:gu aP z)(I:bF)(J:Nat):Next g h z (z.gH g I J):=by
 unfold aY.gH;split
 .rename_i x d;obtain⟨c,_⟩:=i.bO J x d
  have key:∃A,eN g h H aP x.s (x.ask g I).1.s (x.ask g I).2.1 A/\x.s.gn (x.ask g I).1.s:=by
   unfold bo.ask;split
   .obtain⟨A,b⟩:=AP k e i.valid c (jo I);dsimp only;rw [bo.qn];exact⟨A,b,aF.tg _ _⟩
   .exact⟨[],eN.nil i.valid c j,aF.gn.refl _⟩
  obtain⟨A,b,f⟩:=key;exact i.wc a d b f
 .exact i.here a
theorem eO.qp(c:g.ok)(b:2<=g.n)(I:bF):∀(l:List Nat){H:List ej}{aP:List aE}{z:aY},eO g h H aP z->gu aP z->Next g h z (l.foldl (aY.gH g I) z)
 |[],_,_,_,i,a=>i.here a
 |J::r,H,aP,z,i,a=>by
  obtain⟨H1,q,o,f,k⟩:=i.gH c b a I J;obtain⟨d,e,p,j,m⟩:=eO.qp c b I r o f;exact⟨d,e,p,j,k.trans m⟩
theorem eO.asks(c:g.ok)(b:2<=g.n)(i:eO g h H aP z)(a:gu aP z)(I:bF)(e:Int):Next g h z (z.asks g I e).1:=by
 unfold aY.asks;split
 .exact i.here a
 .exact i.qp c b I _ a
theorem Next.from{z0:aY}(n:Next g h z hi)(e:z.bO=z0.bO):Next g h z0 hi:=by
 obtain⟨b,c,i,a,d⟩:=n;exact⟨b,c,i,a,(jB.same e).trans d⟩
theorem eO.un(d:g.ok)(c:2<=g.n)(i:eO g h H aP z)(a:gu aP z)(k:Nat)(p:bH×Int)(I:bF)(e:Int):Next g h z ((z.f0 k p).asks g I e).1:=by
 obtain⟨f,b⟩:=i.same (hi:=z.f0 k p) a j j j j;exact(f.asks d c b I e).from j
theorem eO.quiet(i:eO g h H aP z)(a:gu aP z)(b:hi.bO=z.bO)(d:hi.bx=z.bx)(e:hi.heard=z.heard)(f:hi.lost=z.lost):Next g h z hi:=by
 obtain⟨j,c⟩:=i.same a b d e f;exact⟨H,aP,j,c,jB.same b⟩
theorem eO.xl(i:eO g h H aP z)(a:gu aP z){l:List aW}(b:∀m∈l,m∈z.bx):eO g h H aP {z with bx:=l}/\gu aP {z with bx:=l}:=⟨{i with bx:=λm hm=>i.bx m (b m hm)},a⟩
theorem eO.records(i:eO g h H aP z)(a:gu aP z)(s:fb)(k:Nat)(p:bH×Int):Next g h z (z.records s k p).1:=by
 unfold aY.records;split
 .exact i.quiet a j j j j
 .split
  .exact i.quiet a j j j j
  .exact i.quiet a j j j j
theorem eO.gP(c:g.ok)(b:2<=g.n)(i:eO g h H aP z)(a:gu aP z)(s:fb):Next g h z (z.gP g s).1:=by
 unfold aY.gP;split
 .exact i.here a
 .split
  .exact i.un c b a _ _ _ _
  .split
   .exact i.un c b a _ _ _ _
   .split
    .exact i.records a s _ _
    .exact i.un c b a _ _ _ _
theorem eO.kK(e:g.ok)(c:2<=g.n)(i:eO g h H aP z)(a:gu aP z){m:aW}(hm:m.cQ/\fa h H aP m.l):Next g h z (z.kK g m):=by
 unfold aY.kK;split
 .exact i.here a
 .rename_i x f;obtain⟨_,b⟩:=aY.oe f;obtain⟨A,d⟩:=HQ e c i.valid (i.bO _ x b).1 hm.2 hm.1;exact i.wc a (e9:=(x.take g m).1) b (by show eN g h H aP x.s (bo.ix _).s _ _;rw [bo.qn];exact d) (by show x.s.gn (bo.ix _).s;rw [bo.qn];exact aF.wk _ _)
theorem eO.hg(o:g.ok)(f:2<=g.n)(i:eO g h H aP z)(a:gu aP z)(s:fb):Next g h z (z.hg g s).1:=by
 unfold aY.hg;split
 .exact i.here a
 .rename_i m hm;have d:=h5 hm;have k:=i.bx m d;obtain⟨e,c⟩:=i.xl a (l:=z.bx.eraseIdx ((max s.n 0).toNat%z.bx.length)) (λq b=>tZ b);split
  .split
   .obtain⟨p,a3⟩:=i.xl a (l:=z.bx++[m]) (λq b=>(dv.1 b).elim id (λh=>by rw [List.mem_singleton.1 h];exact d));exact⟨H,aP,p,a3,jB.same j⟩
   .exact i.here a
  .split
   .exact(e.kK o f c k).from j
   .exact⟨H,aP,e,c,jB.same j⟩
theorem eO.f9(e:g.ok)(c:2<=g.n)(i:eO g h H aP z)(a:gu aP z)(s:fb):Next g h z (z.f9 g s).1:=by
 unfold aY.f9;split
 .exact i.here a
 .rename_i x f;obtain⟨_,b⟩:=aY.oe f;obtain⟨A,d⟩:=HZ e c i.valid (i.bO _ x b).1;exact i.wc a (e9:=(x.tick g).1) b (by show eN g h H aP x.s (bo.ix _).s _ _;rw [bo.qn];exact d) (by show x.s.gn (bo.ix _).s;rw [bo.qn];exact aF.wl _)
theorem Fx{aM:List aW}{use:List Int}{v:aE}(c:v∈iz aM use):∃m∈aM,v∈m.l:=by
 obtain⟨i,_,a⟩:=nQ.1 c;unfold lj at a;split at a
 .cases b:aM[i.toNat]? with
  |none=>rw [b] at a;cases a
  |some m=>rw [b] at a;exact⟨m,h5 b,a⟩
 .cases a
theorem Fz{f:Int}{aM:List aW}{l:eG}{m:aW}(dt:∀m∈aM,m.cQ/\fa h H aP m.l)(bw:(h:Int)<=f)(hm:e1 g f aM l=some m):m.cQ/\fa h H (aP++fR [m]) m.l:=by
 have d:0<=l.v/\l.v<=8->∀U,l.aH g f aM=some U->U.length<=10/\(∀v∈U,v.ok)/\∀v∈U,((h:Int)<=v.f/\0<=v.v/\v.v<=8)\/kE h H aP v:=λe U a=>by
  obtain⟨k,n⟩:=y1 (λm hm=>(dt m hm).1.aH) a;refine⟨k,n,λv d=>?_⟩;unfold eG.aH at a;split at a
  .cases a;rw [fT.1 d];exact .inl ⟨bw,h6 0,show(0:Int)<=8 by decide⟩
  .split at a
   .split at a
    .cases a
    .cases a;rw [fT.1 d];exact .inl ⟨bw,e⟩
   .cases a;obtain⟨q,c,t⟩:=Fx (m3 d);exact .inr ((dt q c).2 v t)
 unfold e1 at hm;split at hm
 .rename_i p;cases c:l.aH g f aM with
  |none=>rw [c] at hm;cases hm
  |some U=>
   rw [c] at hm;cases hm
   have e:fJ l.v 0 8=true:=by
    have b:=p;unfold eG.may aW.may at b;simp only [ea] at b;exact b.1.1.1.1.2
   simp only [fJ,gd] at e;obtain⟨k,n,r⟩:=d e U c;refine⟨⟨al.ec _ _ _,n,eG.vp p,k⟩,λv i=>?_⟩;have i:v∈U:=i;have o:v∈aP++fR [(l.msg f U).cu g]:=dv.2 (.inr (List.mem_flatMap.2 ⟨_,List.mem_singleton.2 j,i⟩));rcases r v i with b|b
   .exact⟨o,λ_ s=>absurd s (by omega),b.2⟩
   .exact⟨o,b.2⟩
 .cases hm
theorem eO.ft(i:eO g h H aP z)(a:gu aP z)(s:fb):Next g h z (z.ft g s).1:=by
 unfold aY.ft;split
 .exact i.here a
 .rename_i b;have t:¬s.node<0:=λe=>b (.inl e)
  have l:(z.rep s.node).isSome=false:=by
   cases e:(z.rep s.node).isSome with
   |false=>rfl
   |true=>exact(b (.inr (.inr e))).elim
  have bw:(h:Int)<=s.node:=by
   refine Int.not_lt.1 λu=>?_
   obtain⟨x,d⟩:=i.vc s.node.toNat (by omega);unfold aY.rep at l;rw [a6 (by omega),d] at l;cases l
  split
  .exact i.here a
  .rename_i m hm;obtain⟨n,o⟩:=Fz (h:=h) (H:=H) (aP:=aP) i.heard bw hm;split
   .have f:∀c∈aP,c∈aP++fR [m]:=λc b=>dv.2 (.inl b)
    have r:eO g h H (aP++fR [m]) z:={i with bO:=λk x d=>⟨(i.bO k x d).1.mono (λc b=>b) f (λc b _=>b),(i.bO k x d).2⟩,bx:=λm hm=>⟨(i.bx m hm).1,(i.bx m hm).2.mono (λc b=>b) f⟩,heard:=λm hm=>⟨(i.heard m hm).1,(i.heard m hm).2.mono (λc b=>b) f⟩};exact⟨_,_,r.put (λq p=>by rw [fT.1 p];exact⟨n,o⟩),a.put [m],jB.same j⟩
   .split
    .exact i.here a
    .split
     .exact i.quiet a j j j j
     .exact i.here a
theorem eO.b3(c:g.ok)(b:2<=g.n)(i:eO g h H aP z)(a:gu aP z)(s:fb):Next g h z (z.b3 g s).1:=by
 unfold aY.b3;split
 .exact i.gP c b a s
 .split
  .exact i.asks c b a _ _
  .split
   .exact i.hg c b a s
   .split
    .exact i.f9 c b a s
    .split
     .exact i.ft a s
     .split
      .exact i.quiet a j j j j
      .exact i.here a
end
theorem Aj{n m i:Nat}{x:bo}(hm:m<=n)(h:(hJ n m)[i]? =some (some x)):i<m/\x=bo.new (i:Int):=by
 unfold hJ at h;rcases rG i m with a|a
 .rw [iU (by simpa using a),List.getElem?_map,List.getElem?_range a] at h;exact⟨a,by simpa using h.symm⟩
 .rw [jf (by simpa using a)] at h;rw [rL] at h;split at h<;>cases h
theorem Ai{n m i:Nat}(a:i<m):(hJ n m)[i]? =some (some (bo.new (i:Int))):=by
 unfold hJ;rw [iU (by simpa using a),List.getElem?_map,List.getElem?_range a];rfl
theorem aF.vG{g:al}{h:Nat}{ao:Int}(hm:0<=ao/\ao<g.n):ho g h [] [] (aF.new ao) where
 cur:=λr b=>by
  have b:some (ak.new ao 0)=some r:=b;cases b;exact⟨eM.new hm ⟨h6 _,by decide⟩ (by intro c a;cases a),j,j⟩
 log:=(by intro i e he;cases he)
 stored:=(by intro p d;cases d)
 iK:=(by intro c a;cases a)
 ao:=hm
theorem aY.vG{g:al}{n k:Nat}(aJ:g.n=n)(aa:k<=jM n)(d:1<=n):eO g (n-k) [] [] (aY.new n k)/\gu [] (aY.new n k):=by
 refine⟨⟨(lv (by omega)).trans aJ.symm,by omega,by rw [aJ];omega,aX,λi x c=>?_,λi a=>⟨_,Ai a⟩,(by intro m hm;cases hm),(by intro m hm;cases hm)⟩,(by intro _ _ v b;cases b)⟩;obtain⟨a,rfl⟩:=Aj (by omega) c;exact⟨aF.vG ⟨by omega,by omega⟩,j⟩
theorem uX{n:Nat}(h:1<=n):jM n<n:=by unfold jM;omega
theorem aY.lo{g:al}{n k:Nat}(aJ:g.n=n)(aa:k<=jM n)(c:1<=n):(aY.new n k).ok g 0:=by
 have bw:=uX c;refine⟨(lv (by omega)).trans aJ.symm,λi x e=>?_,⟨0,_,Ai (by omega)⟩,j,λb d=>?_,j,λp a=>?_,b4 _,er.nil,b4 _,er.nil,b4 _⟩
 .obtain⟨f,rfl⟩:=Aj (by omega) e;exact⟨bo.lo ⟨by omega,by omega⟩ _,j⟩
 .have:=List.eq_of_mem_replicate d;rw [this];exact⟨cI _,cI _,cI _,(by intro p a;cases a)⟩
 .obtain⟨J,_,rfl⟩:=dV.1 a;exact bH.lo (show 1<=1000 by decide)
theorem CU{o:World}{g:al}{aQ:Nat}{z:aY}{G:List Chunk}(d:eP g aQ z G)(a:Holds o G):Calls prog 10 #[ab aQ] o λr w=>∃b,r=ab b/\w=o:=by
 obtain⟨c,cH,bP,dx,a7,bu,h,rfl⟩:=d;obtain⟨bi,bv,i,f,_,rfl⟩:=h.bx;have e:=a.left.head;refine a2 func10 ?_;refine ar 15 j (ax e (aG some f)) ?_;refine aq 1 j j ?_;exact⟨bi,j,j⟩
theorem partAt{o:World}{g:al}{aQ:Nat}{z:aY}{G:List Chunk}{i:Int}(k:eP g aQ z G)(d:Holds o G)(l:0<=i/\i<(z.parts.length:Int)):Calls prog 18 #[ab aQ,ae i] o λr w=>∃(bi:Nat)(b:cR)(a7:List Chunk),r=ab bi/\z.parts[i.toNat]? =some b/\jS g bi b a7/\Holds o a7/\w=o:=by
 obtain⟨c,cH,bP,dx,a7,bu,n,rfl⟩:=k;obtain⟨ag,H,U,rfl,s,a⟩:=n.parts;have f:i.toNat<z.parts.length:=by omega
 have m:=a.len;have p:=a.vY;obtain⟨v,ai,h,aA,t,rfl,⟨bi,rfl,j⟩,_⟩:=a.at i.toNat f;have e:=d.right.right.left;refine Calls.mono (zR (V:=jv g) (xs:=z.parts) (U:=U) (i:=i) d.left.head s e.left m p) (λr w⟨q,hw⟩=>⟨bi,z.parts[i.toNat],h,?_,cn f,j,e.right.right.left,hw⟩);rw [q,a6 l,iD,t];rfl
theorem Ah{o:World}{g:al}{aQ:Nat}{z:aY}{G:List Chunk}{i:Int}(d:eP g aQ z G)(b:Holds o G):Calls prog 14 #[ab aQ,ae i] o λr w=>∃(p:Option Addr)(a:List Chunk),r= .pointer p/\md g p (z.rep i) a/\Holds o a/\w=o:=by
 obtain⟨c,p,ag,H1,a,m,bP,dx,a7,bu,U,e,j,l,f,k,_,_,rfl,_⟩:=d.sJ i;refine Calls.mono (v6 (V:=h4 g) (xs:=z.bO) (c:=c) (U:=U) (i:=i) b.left.head j b.right.left.left l f) (λr w⟨h,hw⟩=>⟨p,a,h.trans k,e,b.right.left.right.right.left,hw⟩)
theorem y3{o:World}{g:al}{bi:Nat}{b:cR}{G:List Chunk}(d:jS g bi b G)(a:Holds o G):Calls prog 19 #[ab bi] o λr w=>∃(be:Nat)(L:List Chunk),r=ab be/\kG be b.log L/\Holds o L/\w=o:=by
 obtain⟨c,L,M,V,f,rfl⟩:=d;have e:=a.left.head;refine a2 func19 ?_;refine ar 15 j (ax e j) ?_;refine aq 1 j j ?_;exact⟨c.be,L,j,f.log,a.right.left,j⟩
theorem Fp{o:World}{be:Nat}{l:dQ}{G:List Chunk}(b:kG be l G)(a:Holds o G):Calls prog 29 #[ab be] o λr w=>r=ae (l.c0.length:Nat)/\w=o:=by
 obtain⟨c,ag,S,E,f,rfl⟩:=b;obtain⟨i,k,us,rfl,g,_⟩:=f.c0;obtain⟨h,m,e,_,_⟩:=g.form;have d:=a.left.head;refine a2 func29 ?_;refine ar 15 j (ax d (aG some e)) ?_;refine aq 2 j j ?_;exact⟨j,j⟩
theorem md.isNil{g:al}{p:Option Addr}{I:Option bo}{G:List Chunk}(h:md g p I G)(aM:I.isSome=true):p.isNone=false:=by
 have a:=h.isSome;rw [aM] at a;cases p with
 |none=>cases a
 |some _=>rfl
theorem xo{o:World}{s7 ft:Bool}{aS k:Nat}(t:aS=if s7=true then 7 else 4)(s:k=if ft=true then jM aS else 0):Calls prog 5 #[.bool s7,.bool ft] o λr w=>∃(aQ:Nat)(g:al)(G:List Chunk),r=ab aQ/\g.ok/\g.keys=of aS (br [1])/\eP g aQ (aY.new aS k) G/\C o [] [dD g,G] w:=by
 have B:aS=4\/aS=7:=by rw [t];split<;>simp
 have M:k<=jM aS:=by rw [s];split<;>omega
 have S:k<aS:=by have:=uX (n:=aS) (by omega);omega
 have F:jM aS=(aS-1)/3:=by rcases B with rfl|rfl<;>rfl
 refine a2 func5 (lV 7 j (λZ w=>sub Z [(1,.bool ft),(5,.int .i64 (aS:Nat)),(6,ae 0)]/\w=o) ?_ ?_)
 .refine bm 3 j j (λl=>?_) (λl=>?_)
  .refine bI 2 j (⟨⟨j,aG (λx:Nat=>some (Value.int .i64 (x:Int))) (by rw [t,a6 l]),j,aX⟩,j⟩)
  refine bI 1 j (⟨⟨j,aG (λx:Nat=>some (Value.int .i64 (x:Int))) (by rw [t,aI (by simp [l])]),j,aX⟩,j⟩)
 rintro Z w ⟨aM,a⟩;have a:=a.symm;subst a;refine lD [(1,.bool ft),(5,.int .i64 (aS:Nat)),(6,ae 0)] aM (lV 0 j (λZ w=>sub Z [(5,.int .i64 (aS:Nat)),(6,.int .i64 (k:Nat))]/\w=o) ?_ ?_)
 .refine bm 3 j j (λm=>?_) (λm=>?_)
  .refine bq 2 j j j (hE aS 1 (by omega) (by omega)) (tR (J:=3) j j j j (by decide) (by omega) (bI 1 j (⟨⟨j,aG (λx:Nat=>some (Value.int .i64 (x:Int))) (by rw [s,a6 m,F]),aX⟩,j⟩)))
  refine bI 1 j (⟨⟨j,aG (λx:Nat=>some (Value.int .i64 (x:Int))) (show 0=k by rw [s,aI (by simp [m])]),aX⟩,j⟩)
 rintro Z w ⟨aM,a⟩;have a:=a.symm;subst a;refine lD [(5,.int .i64 (aS:Nat)),(6,.int .i64 (k:Nat))] aM (bk 4 (F6 (o:=_) (aS:=aS) (k:=k) B M) j (λr u⟨aQ,g,G,c,I,H,e,A⟩=>?_));subst c;have f:Holds u G:=A.holds (G:=G) (by simp);refine am 11 j (bS 24 (.bool false) j (aG Value.bool (j)) ?_);refine am 4 j (bS 28 (.bool false) j (aG Value.bool (j)) ?_);refine bk 1 (CU e f) j (λr d⟨bi,c,h⟩=>?_);subst c;subst d;refine cJ 9 j (ct:=Nat) (λi=>[(5,.int .i64 (aS:Nat)),(7,ab aQ),(9,.int .i64 (i:Nat))]) (λi w=>i<=4/\w=u) (λi=>4-i) 0 ⟨j,j,j,aX⟩ ⟨b4 _,j⟩ ?_;rintro i w ⟨K,a⟩;have a:=a.symm;subst a;refine b8 5 j j (λq=>?_) (λq=>?_)
 .refine bk 7 (partAt (i:=(i:Int)) e f ⟨by omega,by have:=q;show(i:Int)<((i7 4).length:Int);rw [show(i7 4).length=4 from oI];omega⟩) j (λr d⟨bi,b,a7,c,N,y,z,h⟩=>?_);subst c;subst d;refine am 2 j (bS 41 (.bool false) j (aG Value.bool (j)) ?_);refine bk 2 (partAt (i:=(i:Int)) e f ⟨by omega,by have:=q;show(i:Int)<((i7 4).length:Int);rw [show(i7 4).length=4 from oI];omega⟩) j (λr d⟨bi,b,a7,c,N,y,z,h⟩=>?_);subst c;subst d;refine bk 0 (y3 y z) j (λr d⟨be,L,c,R,P,h⟩=>?_);subst c;subst d;exact bq 6 j j j (cE i (by omega)) (bI 1 j ⟨i+1,⟨j,j,j,aX⟩,⟨by omega,j⟩,by omega⟩)
 refine cJ 6 j (ct:=Nat) (λi=>[(5,.int .i64 (aS:Nat)),(7,ab aQ),(10,.int .i64 (i:Nat))]) (λi w=>i<=aS/\w=u) (λi=>aS-i) 0 ⟨j,j,j,aX⟩ ⟨b4 _,j⟩ ?_;rintro i w ⟨K,a⟩;have a:=a.symm;subst a;refine b8 6 j j (λD=>?_) (λD=>?_)
 .refine bp 7 (o8 (i:=(i:Int)) e f) j (λd h=>?_);subst d;refine am 1 j (cT 56 j (λv=>?_) (λv=>?_));refine bk 2 (Ah (i:=(i:Int)) e f) j (λr d⟨p,O,c,E,Q,h⟩=>?_);subst c;subst d;refine iI 2 j j ((E.isNil v)) (bq 3 j j j (cE i (by omega)) ?_);rotate_left
  refine bq 9 j j j (cE i (by omega)) ?_;rotate_left
  all_goals
   exact bI 1 j ⟨i+1,⟨j,j,j,aX⟩,⟨by omega,j⟩,by omega⟩
 exact aq 5 j j ⟨aQ,g,G,j,I,H,e,A⟩
theorem vl{o:World}:Calls prog 12 #[] o λr w=>r= .bool true/\C o [] [] w:=by
 refine a2 func12 (bk 5 (xo (s7:=false) (ft:=true) (aS:=4) (k:=1) j j) j (λr t⟨aQ,g,G,c,v,u,f,h⟩=>?_));subst c;have e:Holds t G:=h.holds (G:=G) (by simp);refine am 6 j (bS 5 (.bool true) j (aG Value.bool (j)) ?_);refine bp 1 (o8 (i:=0) f e) j (λa d=>?_);subst a;refine am 2 j (bS 9 (.bool true) j (aG Value.bool (j)) ?_);refine bp 1 (o8 (i:=3) f e) j (λa d=>?_);subst a;refine am 3 j (bS 14 (.bool true) j (aG Value.bool (j)) ?_);refine bk 1 (partAt (i:=0) f e ⟨by decide,by decide⟩) j (λr a⟨bi,b,a7,c,s,l,m,d⟩=>?_);subst c;subst a;refine bk 0 (y3 l m) j (λr a⟨be,L,c,p,n,d⟩=>?_);subst c;subst a;refine bp 0 (Fp p n) j (λa d=>?_);subst a;have q:b=cR.new:=(hB s).symm;subst q;exact aq 3 j j ⟨j,h.bare⟩
theorem kD.view{g:al}{h:Nat}{H:List ej}{aP:List aE}{k s v:Int}{x:List UInt8}(e:kD g h H aP k s v x)(d:1<=g.n):0<=v/\v<=8:=by
 obtain⟨l,_,f,i⟩:=e;have j:1<=ii g.n:=by unfold ii;have:=uX d;omega
 cases l with
 |nil=>exact absurd f (by simp;omega)
 |cons c r=>obtain⟨_,_,a,_,_,b⟩:=i c (by simp);rw [<-a];exact b.2.2
theorem wi:∀{l m:List Int},l.Nodup->(∀x∈l,x∈m)->l.length<=m.length
 |[],_,_,_=>b4 _
 |x::r,m,aJ,aM=>by
  have c:=aM x (by simp);have f:=wi (l:=r) (m:=m.erase x) (k6.1 aJ).2 (λy d=>(List.mem_erase_of_ne (a:=y) (b:=x) (λe=>(k6.1 aJ).1 (by rw [<-e];exact d))).2 (aM y (by simp [d])));rw [List.length_erase_of_mem c] at f;have:=List.length_pos_of_mem c;simp;omega
structure hZ(p:aE->Prop)(d:List aE)(b:List Bool)(n:Nat):Prop where
 len:b.length=4
 F:∃F:List Int,F.Nodup/\F.length=n/\(∀i∈F,(0<=i/\i<4)/\b[i.toNat]? =some true)/\(∀i:Int,0<=i->b[i.toNat]? =some true->i∈F)/\∀I∈d,p I->I.f∈F
theorem hZ.nil(p:aE->Prop):hZ p [] (List.replicate 4 false) 0:=⟨j,[],rS,j,by simp,λi _ a=>(by rw [rL] at a;split at a<;>cases a),by simp⟩
theorem hZ.le{p:aE->Prop}{d:List aE}{b:List Bool}{n:Nat}(c:hZ p d b n):n<=4:=by
 obtain⟨F,a,rfl,e,_,_⟩:=c.F
 exact wi (m:=[0,1,2,3]) a (λi f=>by
  have:=(e i f).1;simp;omega)
theorem hZ.skip{p:aE->Prop}{d:List aE}{b:List Bool}{n:Nat}(c:hZ p d b n){I:aE}(k:¬p I):hZ p (d++[I]) b n:=by
 obtain⟨F,f,g,h,j,i⟩:=c.F;exact⟨c.len,F,f,g,h,j,λq a e=>(dv.1 a).elim (λa=>i q a e) (λa=>by rw [List.mem_singleton.1 a] at e;exact(k e).elim)⟩
theorem hZ.Ex{p:aE->Prop}{d:List aE}{b:List Bool}{n:Nat}(c:hZ p d b n){I:aE}(g:0<=I.f)(l:b[I.f.toNat]? =some true):hZ p (d++[I]) b n:=by
 obtain⟨F,h,i,j,e,k⟩:=c.F;exact⟨c.len,F,h,i,j,e,λq a m=>(dv.1 a).elim (λa=>k q a m) (λa=>by rw [List.mem_singleton.1 a];exact e _ g l)⟩
theorem hZ.take{p:aE->Prop}{d:List aE}{b:List Bool}{n:Nat}(c:hZ p d b n){I:aE}(o:0<=I.f/\I.f<4)(k:b[I.f.toNat]? =some false):hZ p (d++[I]) (b.set I.f.toNat true) (n+1):=by
 obtain⟨F,r,s,l,u,t⟩:=c.F;have w:I.f.toNat<b.length:=by rw [c.len];omega
 have aJ:I.f∉F:=λg=>by rw [(l _ g).2] at k;cases k
 refine⟨by rw [hp,c.len],F++[I.f],?_,by simp [s],λi g=>?_,λi g m=>?_,λq h x=>?_⟩
 .exact iE.2 ⟨r,by simp,λa v b k e=>by rw [List.mem_singleton.1 k] at e;exact aJ (e▸v)⟩
 .rcases dv.1 g with g|g
  .refine⟨(l i g).1,?_⟩;rw [pY];split
   .rfl
   .exact(l i g).2
  .rw [fT.1 g];exact⟨o,by rw [pY,a6 j,a6 w]⟩
 .rw [pY] at m;split at m
  .exact dv.2 (.inr (List.mem_singleton.2 (by omega)))
  .exact dv.2 (.inl (u i g m))
 .rcases dv.1 h with h|h
  .exact dv.2 (.inl (t q h x))
  .rw [fT.1 h];exact dv.2 (.inr (List.mem_singleton.2 j))
theorem hZ.fs{p:aE->Prop}{d:List aE}{b:List Bool}{n:Nat}(c:hZ p d b n){l:List aE}(aJ:(l.map aE.f).Nodup)(a:∀I∈l,I∈d/\p I):l.length<=n:=by
 obtain⟨F,j,rfl,k,_,g⟩:=c.F;have:=wi aJ (m:=F) (λi h=>by obtain⟨I,e,rfl⟩:=dV.1 h;exact g I (a I e).1 (a I e).2);rw [ff] at this;exact this
theorem Ha{o:World}{g:al}{c:Nat}{G:List Chunk}(l:rB c g.keys G)(k:Holds o G)(n:g.ok){x:aE}(b:x.ok):Calls prog 16 #[ab c,.agg x.cs.toArray] o λr w=>r= .bool (cQ g x)/\C o [] [] w:=by
 have a:Own [] o:=C.start o;refine a2 func16 (bL 2 a j j (λe w a=>?_));have a:=a.drew;refine bt 2 j (λw=>∃ad,C o [] ([R e (x).cs.toArray 55]++ad) w) ⟨_,a⟩ (af 0 2 j (bR 2 j (λw⟨_,a⟩=>a.cell (x.eo b)) (aT 3 j (λw⟨_,a⟩=>c4 (U:=x.cs) j j (x.len b) a.bz) (af 5 1 j (aT 6 j (λw⟨_,a⟩=>c4 (U:=au x.tag) j j (by rw [cL];exact b.2) (a.ij (off:=0+36) (U:=au x.tag) (x.qv b))) (aR 4 j (cO j j j (Hj b) (λr w⟨G,h,aa⟩=>?_))))))));have a:=a.aL aa;obtain⟨s,gL,rfl,t,_,q,_⟩:=h.rd a;have a:=a.f1;refine an ⟨⟨_,a⟩,?_⟩;refine aR 7 j (bB j j j (G9 (i:=x.f) (p:=x.kd) (tag:=x.tag) (d:=gL) l (k.st a) n.len q (by have:=wd _ b;omega) b.2) (λw m=>?_));have a:=(a.aL m);refine an ⟨⟨_,a⟩,?_⟩;exact af 8 1 j (bK (aq 0 j j ⟨j,a.bare⟩))
theorem CT{o:World}{g:al}{aQ:Nat}{z:aY}{G:List Chunk}(f:eP g aQ z G)(a:Holds o G):Calls prog 10 #[ab aQ] o λr w=>∃a7,gS r z.bx z.lost a7/\Holds o a7/\w=o:=by
 obtain⟨c,cH,bP,dx,a7,bu,d,rfl⟩:=f;have e:=d.bx;obtain⟨bi,bv,i,b,_,_⟩:=d.bx;have h:=a.left.head;refine a2 func10 ?_;refine ar 15 j (ax h (aG some b)) ?_;refine aq 1 j j ?_;exact⟨a7,b▸e,a.right.right.right.right.left,j⟩
theorem EA{o:World}{g:al}{aQ:Nat}{z:aY}{G:List Chunk}(Y:eP g aQ z G)(J:Holds o G)(L:z.heard.length<=1000):Calls prog 9 #[ab aQ] o λr w=>∃bg,cw r z.heard bg/\C o [] [bg] w:=by
 have d:Own [] o:=C.start o;obtain⟨c,cH,bP,dx,a7,bu,ap,rfl⟩:=Y;obtain⟨ms,ao,ay,aw,rfl,E,D⟩:=ap.heard;obtain⟨A,dT,K,aA,aB⟩:=E.form;have af:=J.left.head;have B:=J.right.right.right.right.right;have hlen:∀q∈ms,q.cs.length=39:=λq F=>q.bU (D.tag q F)
 rw [<-ao] at L⊢;rw [ff] at L;rw [K] at E;obtain⟨_,_,e,_,_,T,_⟩:=E.read B.left;cases e;refine a2 func9 (ar 19 j (ax af (aG some K)) ?_)
 refine cJ 3 j (ct:=Nat×Value×List Chunk) (λk=>[(11,.slice A ms.length dT),(12,.int .i64 (ms.length:Nat)),(13,.int .i64 (k.1:Nat)),(3,k.2.1)])
  (λk w=>k.1<=ms.length/\cw k.2.1 ((ms.map aC.P).take k.1) k.2.2/\C o [] [k.2.2] w) (λk=>ms.length-k.1) (0,.slice none 0 0,[]) ⟨j,j,j,j,aX⟩ ⟨b4 _,cw.nil,d.empty⟩ ?_
 rintro⟨i,v,bg⟩ w ⟨ah,t,d⟩;dsimp only at ah t d⊢;refine b8 4 j j (λV=>?_) (λV=>?_)
 .have f:i<ms.length:=by omega
  have s:=hlen ms[i] (d9 f);obtain⟨az,rfl⟩:∃a,A=some a:=by obtain⟨a,ad,_⟩:=T (i*39+0) (ae ms[i].k) (h8 ms hlen i f (by decide) (by simp [aC.cs]));exact⟨a,ad⟩
  obtain⟨an,N⟩:=D.read (B.right.st d) ms[i] (d9 f);refine am 5 j (ow j j j j (by omega) (by omega) ?_);refine bM 0 (U:=ms[i].cs) j j s (i0 (d.rd T (bT.of_nil _ _)) hlen i f) (b7 0 d j (λI w d=>c2 d j j j (by simpa using ms[i].one) (by rw [List.size_toArray];exact s) (by decide) (λw d=>?_)));have d:=C.whole (U:=ms[i].cs) d (by rw [s];rfl);have d:C o [] [bf I ms[i],bg] w:=d;refine bM 2 (U:=ms[i].cs) j j s (bn (C.aj (b:=I) d)) ?_;have ag:=xM ((D.read (B.right.st d) ms[i] (d9 f)).1) N;refine bk 0 ag j (λr w⟨q,l,n,au,F,O,aa⟩=>?_);subst au;have Q:=fA.qO F O an N;have S:q.tag.length=32:=by obtain⟨_,_,_,_,h,_⟩:=Q;exact h
  have d:=d.aL aa;refine gi (U:=q.cs) d j j j (q.bU S) (by decide) (by decide) (λy w d=>?_);have aJ:=bn (C.aj (b:=y) d);obtain⟨av,M,H,p,rfl,ac,X⟩:=t;have ak:=aG List.length M;rw [ff,g9,ff] at ak;have d:C o [] [H,p,l,n,R y q.cs.toArray 53] w:=C.perm (A:=[H++p,l,n,R y q.cs.toArray 53]) d.as (by simp);refine dR d ac j j (by decide) j j j (m:=1) (news:=q.cs) (q.bU S) aJ (by intro u hu;exact sk [q] u (by simpa using hu)) (by omega) (by unfold maxLen;omega) (λv2 x w Z d=>?_)
  have W:cw v2 ((ms.map aC.P).take (i+1)) (x++(p++(l++n))):=by
   refine⟨av++[q],?_,lA.snoc Z X Q⟩;rw [jD,M,List.take_add_one];simp [f,O]
  have d:C o [] [x++(p++(l++n))] w:=C.perm (A:=[x,p,l,n]) d.as (by simp);exact bq 2 j j j (cE i (by omega)) (bI 1 j ⟨(i+1,v2,_),⟨j,j,j,j,aX⟩,⟨f,W,d⟩,by dsimp only;omega⟩)
 refine aq 5 j j ?_;have ai:i=ms.length:=by omega
 subst ai;rw [h7 (by simp)] at t;exact⟨bg,t,d⟩
def cp(g:al)(s v:Int)(x:List UInt8)(I:aE):Prop:=I.k=2/\I.s=s/\I.v=v/\I.sum=x/\(0<=I.f/\I.f<4)/\cQ g I=true
theorem Dj{g:al}{h:Nat}{H:List ej}{aP:List aE}{z:aY}(i:eO g h H aP z)(a:gu aP z)(y:z.lost=0)(dt:z.heard.length<1000)(u:g.n=4){p:Nat}{x:bo}{k:Nat}{e:List UInt8×List aE}(B:z.bO[p]? =some (some x))(he:x.s.log[k]? =some e):
 ∃v:Nat,v<=8/\∀b n,hZ (cp g (k:Int) (v:Int) (br e.1)) (fR z.heard) b n->3<=n:=by
 obtain⟨⟨v,f⟩,_⟩:=(i.bO p x B).1.log k e he;obtain⟨v0,F⟩:=f.view (by omega);obtain⟨l,t,C,w⟩:=f;refine⟨v.toNat,by omega,λb n c=>?_⟩
 have D:=c.fs t (λI A=>by
  obtain⟨j,m,o,q,d,r⟩:=w I A;have bw:=qG d;exact⟨a y dt I r.1,j,m,by rw [o];omega,q,⟨bw.1,by omega⟩,d⟩)
 have E:ii g.n=3:=by rw [u];rfl
 omega
abbrev kW(e:fb×hO):List Value:=c9 e.1 e.2
theorem tc(l:List (fb×hO)):∀e∈l,(kW e).length=11:=λ_ _=>rfl
theorem Rd.plain{w:World}{A:Option Addr}{U:List Value}(h:Rd w A U)(aJ:0<U.length):∃b I,A=some ⟨b,I,none⟩:=by
 obtain⟨a,rfl,c⟩:=h 0 U[0] (cn aJ);have aM:a.spot=none:=World.cell?_spot (a:=a) (by simpa [Addr.add] using c);obtain⟨b,I,s⟩:=a;cases aM;exact⟨b,I,j⟩
theorem Rd.step{w:World}{b I:Nat}{l:List (fb×hO)}(h:Rd w (some ⟨b,I,none⟩) (l.flatMap kW)){i J:Nat}(c:i<l.length){v:Value}(d:(kW l[i])[J]? =some v):w.cell? ⟨b,I+i*11+J,none⟩=some v:=by
 have a:=(i0 h (tc l) i c).cell d;rw [add_lit,add_lit] at a;exact a
section
variable {P:Program} {n:Nat} {Z:Env} {w:World} {dst:Option Nat} {ty:TypeId} {pos:String} {after:Array Edge} {g:Option (Nat×Bool)}
end
theorem FF{o:World}{A:Option Addr}{ls:List (fb×hO)}{c:Nat}(e:Rd o A (ls.flatMap kW)):Calls prog 4 #[.slice A ls.length c] o λr w=>(∃b:Bool,r= .bool b)/\C o [] [] w:=by
 have a:Own [] o:=C.start o;refine a2 func4 (cJ 11 j (ct:=Nat×Int) (λi=>[(0,.slice A ls.length c),(3,.int .i64 i.2),(4,.int .i64 (i.1:Nat))]) (λi w=>i.1<=120/\C o [] [] w) (λi=>120-i.1) (0,0) ⟨j,j,j,aX⟩ ⟨b4 _,a⟩ ?_);rintro⟨i,m⟩ w ⟨n,a⟩;dsimp only at n a⊢;refine am 8 j (cT 9 j (λf=>?_) (λf=>?_))
 .refine b8 3 j j (λg=>?_) (λg=>?_)
  .have d:i<ls.length:=by have:=dz f;omega
   have s:i<120:=by omega
   have l:=o6 ls (tc ls);obtain⟨p,q,rfl⟩:=e.plain (by rw [l];omega);have a:=a.drew;refine bt 4 j (λw=>∃ad,C o [] ad w) ⟨_,a⟩ (af 0 4 j (aT 4 j (λw _=>gA (J:=i) j j d) (af 5 1 j (bR 6 j (λw⟨_,h⟩=>Rd.step (h.rd e (bT.of_nil _ _)) d (J:=3) j) (af 7 4 j (aT 11 j (λw _=>gA (J:=i) j j d) (af 12 2 j (bR 14 j (λw⟨_,h⟩=>Rd.step (h.rd e (bT.of_nil _ _)) d (J:=8) j) (af 15 4 j (aT 19 j (λw _=>gA (J:=i) j j d) (af 20 2 j (bR 22 j (λw⟨_,h⟩=>Rd.step (h.rd e (bT.of_nil _ _)) d (J:=10) j) (af 23 3 j (bK (bm 4 j j (λk=>?_) (λk=>?_))))))))))))))))
   .exact aq 3 j j ⟨⟨_,j⟩,a⟩
   exact bq 3 j j j (cE i (by omega)) (bI 1 j ⟨(i+1,_),⟨j,j,j,aX⟩,⟨by dsimp only;omega,a⟩,by dsimp only;omega⟩)
  exact aq 4 j j ⟨⟨_,j⟩,a⟩
 exact aq 8 j j ⟨⟨_,j⟩,a⟩
end Go.Proofs.YtngjfjhomikplaaGreatDoor.R
