/- Part 6 of the proof. -/
import Derived.Test.YtdomoelfhjdioaaGreatDoorM5
set_option linter.unusedVariables false
set_option linter.unusedSimpArgs false
set_option linter.unusedSectionVars false
set_option maxRecDepth 20000
set_option maxHeartbeats 4000000
namespace Go.Proofs.YtdomoelfhjdioaaGreatDoor.R
open Go.Proofs.Tryz Go Go.RowKit Go.Proofs
def vy(s:ee):bH:=⟨((eb s).1:Nat),((eb (e4 s 1)).1:Nat),((eb (e4 s 2)).1:Nat),((eb (e4 s 3)).1:Nat)⟩
def g5(aD:List UInt8):Option bH:=if e4 (b2 aD 3) 4=some []/\(vy (b2 aD 3)).ok=true then some (vy (b2 aD 3)) else none
def jM:bH:=⟨0,0,0,0⟩
theorem DT{o:World}{A:Option Addr}{aD:List UInt8}{c:Nat}(E:Rd o A (aG aD))(q:aD.length<=1000000000):Calls prog 48 #[.slice A aD.length c] o λx w=>x= .tuple #[ht ((g5 aD).getD jM),ad (if(g5 aD).isSome=true then 0 else 2)]/\C o [] [] w:=by
 have a:Own [] o:=C.start o;refine e9 func48 (cl 2 a j (λaO w a=>?_));have f:=xt (c:=c) (k:=3) (a.rd E (bX.of_nil _ _)) q;refine bh 4 f j (λx w⟨r,v,b,G,F,d,aa⟩=>?_);subst F;have a:=a.aM aa
 have i:(b2 aD 3).left.length<=1000000000:=by
  unfold b2;split
  .exact wc (some aD) q
  .simp [ee.left]
 have y:=eH a.cB d (eV (b2 aD 3) i 0);refine bo 4 y j (λw⟨v,b,d,aa⟩=>?_);have a:=a.cA aa;have z:=eH a.cB d (eV (b2 aD 3) i 1);refine bo 1 z j (λw⟨v,b,d,aa⟩=>?_);have a:=a.cA aa;have B:=eH a.cB d (eV (b2 aD 3) i 2);refine bo 1 B j (λw⟨v,b,d,aa⟩=>?_);have a:=a.cA aa;have D:=eH a.cB d (eV (b2 aD 3) i 3);refine bo 1 D j (λw⟨v,b,d,aa⟩=>?_);have a:=a.cA aa;refine cP (c:= #[.int .i64 ((eb (b2 aD 3)).1:Nat),.int .i64 ((eb (e4 (b2 aD 3) 1)).1:Nat),.int .i64 ((eb (e4 (b2 aD 3) 2)).1:Nat),.int .i64 ((eb (e4 (b2 aD 3) 3)).1:Nat)]) j j j (λ_=>by kernel_rfl) (cl 0 a j (λH w a=>ck 0 a j j j j j (λw a=>?_)));have a:=a.f1.f2.f1;have f:=Bc a.cB d;refine bo 4 f j (λw aa=>?_);have a:=(a.cA aa).f2;refine aq 2 j (cQ 20 j (λl=>?_) (λl=>?_))
 .refine aq 7 j (cP (c:= #[ad 0,ad 0,ad 0,ad 0]) j j j (λ_=>by kernel_rfl) ?_);refine ck 0 a.f3 j j j j j (λw a=>bI 1 j ⟨_,dp results48 j j j j (a.bE),?_⟩)
  have n:¬e4 (b2 aD 3) 4=some []:=by
   have:=l;simp only [ki,mY] at this;exact this
  have hm:g5 aD=none:=aI (λh=>n h.1);rw [hm];exact⟨j,a.bare⟩
 refine bN 0 j j j a.bE ?_;have f:=yN (o:=w) (k:=((eb (b2 aD 3)).1:Nat)) (p:=((eb (e4 (b2 aD 3) 1)).1:Nat)) (e:=((eb (e4 (b2 aD 3) 2)).1:Nat)) (t:=((eb (e4 (b2 aD 3) 3)).1:Nat));refine bo 0 f j (λw aa=>?_);have a:=a.aM aa;refine bm 2 j j (λm=>?_) (λm=>?_)
 .refine aq 2 j (cP (c:= #[ad 0,ad 0,ad 0,ad 0]) j j j (λ_=>by kernel_rfl) ?_);refine ck 0 a.f3 j j j j j (λw a=>bI 1 j ⟨_,dp results48 j j j j (a.bE),?_⟩)
  have hm:g5 aD=none:=aI (λh=>by
   have s:=h.2;have g:(!gQ (((eb (b2 aD 3)).1:Nat):Int) (((eb (e4 (b2 aD 3) 1)).1:Nat):Int) (((eb (e4 (b2 aD 3) 2)).1:Nat):Int) (((eb (e4 (b2 aD 3) 3)).1:Nat):Int))=true:=m;rw [show gQ (((eb (b2 aD 3)).1:Nat):Int) (((eb (e4 (b2 aD 3) 1)).1:Nat):Int) (((eb (e4 (b2 aD 3) 2)).1:Nat):Int) (((eb (e4 (b2 aD 3) 3)).1:Nat):Int)=true from s] at g;cases g)
  rw [hm];exact⟨j,a.bare⟩
 refine bN 3 j j j a.bE (ck 0 a.f3 j j j j j (λw a=>bI 1 j ⟨_,dp results48 j j j j (a.bE),?_⟩))
 have n:e4 (b2 aD 3) 4=some []:=by
  have:=l;simp only [Bool.not_eq_false',gd] at this;exact this
 have hm:g5 aD=some (vy (b2 aD 3)):=a6 ⟨n,by
  have g:(!gQ (((eb (b2 aD 3)).1:Nat):Int) (((eb (e4 (b2 aD 3) 1)).1:Nat):Int) (((eb (e4 (b2 aD 3) 2)).1:Nat):Int) (((eb (e4 (b2 aD 3) 3)).1:Nat):Int))=false:=m;have u:gQ (((eb (b2 aD 3)).1:Nat):Int) (((eb (e4 (b2 aD 3) 1)).1:Nat):Int) (((eb (e4 (b2 aD 3) 2)).1:Nat):Int) (((eb (e4 (b2 aD 3) 3)).1:Nat):Int)=true:=by simpa using g
  exact u⟩
 rw [hm];exact⟨j,a.bare⟩
structure eF where
 k:Int
 node:Int
 n:Int
 x:List UInt8
 eT:ew
def aS.rep(z:aS)(i:Int):Option bk:=if 0<=i then(z.bu[i.toNat]?).getD none else none
def aS.kz(z:aS)(i:Int)(x:bk):aS:={z with bu:=z.bu.set i.toNat (some x)}
def aS.fM(z:aS)(i:Nat)(p:bG×Int):aS:={z with cJ:=z.cJ.set i p}
def aS.part(z:aS)(i:Int):Option cy:=if 0<=i then z.parts[i.toNat]? else none
def mJ(n:Int):bA:=⟨4,15,n,[],0,0,0,0,false⟩
def aS.rV(g:am)(z:aS)(s:eF):aS×Int:=z.asks g (mJ s.n) (if gR (mJ s.n)=true then 0 else 1)
def aS.inits(g:am)(z:aS)(i:Nat)(p:bG×Int):aS×Int:=(z.fM i (p.1.init.1,if p.1.init.2.2=0 then p.1.init.2.1.s else p.2)).asks g p.1.init.2.1 p.1.init.2.2
def aS.lS(z:aS)(i:Int)(b:cy):aS:={z with parts:=z.parts.set i.toNat b}
def aS.records(z:aS)(s:eF)(i:Nat)(p:bG×Int):aS×Int:=
 if(p.1.record s.n s.x).2.2≠0 then(z.fM i ((p.1.record s.n s.x).1,p.2),(p.1.record s.n s.x).2.2)
 else match z.part s.n with
  |none=>(z.fM i ((p.1.record s.n s.x).1,p.2),1)
  |some b=>((z.fM i ((if(b.log.append (p.1.record s.n s.x).2.1).2.2=0 then((p.1.record s.n s.x).1.jF s.n).1 else(p.1.record s.n s.x).1),p.2)).lS s.n {b with log:=(b.log.append (p.1.record s.n s.x).2.1).1},(b.log.append (p.1.record s.n s.x).2.1).2.2)
def aS.f0(g:am)(z:aS)(s:eF):aS×Int:=match(if 0<=s.node then z.cJ[s.node.toNat]? else none) with
 |none=>(z,1)
 |some p=>
  if s.k=1 then z.inits g s.node.toNat p
  else if s.k=2 then(z.fM s.node.toNat ((p.1.gH s.n).1,p.2)).asks g (p.1.gH s.n).2.1 (p.1.gH s.n).2.2
  else if s.k=3 then z.records s s.node.toNat p
  else(z.fM s.node.toNat ((p.1.end_ (s.n !=0)).1,p.2)).asks g (p.1.end_ (s.n !=0)).2.1 (p.1.end_ (s.n !=0)).2.2
def aS.ks(g:am)(z:aS)(m:aW):aS:=match z.rep m.to with
 |none=>z
 |some x=>(z.kz m.to (x.take g m).1).g6 (x.take g m).2
def aS.gx(g:am)(z:aS)(s:eF):aS×Int:=match z.bz[(max s.n 0).toNat%z.bz.length]? with
 |none=>(z,4)
 |some m=>if s.k=8 then(if z.bz.length<512 then({z with bz:=z.bz++[m]},0) else(z,3))
  else if s.k=6 then(aS.ks g {z with bz:=z.bz.eraseIdx ((max s.n 0).toNat%z.bz.length)} m,0)
  else({z with bz:=z.bz.eraseIdx ((max s.n 0).toNat%z.bz.length)},0)
def aS.fx(g:am)(z:aS)(s:eF):aS×Int:=match z.rep s.node with
 |none=>(z,1)
 |some x=>((z.kz s.node (x.tick g).1).g6 (x.tick g).2,0)
def aS.fi(g:am)(z:aS)(s:eF):aS×Int:=
 if s.node<0\/s.node>=z.bu.length\/(z.rep s.node).isSome=true then(z,1)
 else match eT g s.node z.heard s.eT with
  |none=>(z,1)
  |some m=>if m.k≠6 then(z.g6 [m],0)
   else match g5 m.x with
    |none=>(z,2)
    |some a=>match z.parts[m.s.toNat%z.parts.length]?,m.l with
     |some b,v::_=>({z with parts:=z.parts.set (m.s.toNat%z.parts.length) (b.c8 g a v).1},(b.c8 g a v).2)
     |_,_=>(z,0)
def ou(g:am)(x:bk)(aD:List cy)(mk:bH):List cy:=aD.map λb=>(b.c8 g mk (dm g mk x.an)).1
def jP(g:am)(aD:List cy)(I:Option bk):List cy:=match I with
 |none=>aD
 |some x=>x.aE.foldl (ou g x) aD
def bk.answer(x:bk)(c s:Int):Option (Int×Int×Int):=if 0<=c/\c<=15/\0<=s/\s<=1048576 then aZ x.answers (ff c s) else none
def kA(x:bk)(cs:List (bG×Int))(i:Nat):List (bG×Int):=match cs[i]? with
 |none=>cs
 |some p=>match x.answer (i:Int) p.2 with
  |none=>cs
  |some a=>cs.set i ((p.1.told p.2 a).1,p.2)
def se(l:List (Option bk)):Option bk:=l.findSome? id
def aS.polls(g:am)(z:aS):aS:={z with
 parts:=z.bu.foldl (jP g) z.parts
 cJ:=match se z.bu with
  |none=>z.cJ
  |some x=>(List.range z.cJ.length).foldl (kA x) z.cJ}
def aS.bY(g:am)(z:aS)(s:eF):aS×Int:=
 if s.k=1\/s.k=2\/s.k=3\/s.k=4 then z.f0 g s
 else if s.k=5 then z.rV g s
 else if s.k=6\/s.k=7\/s.k=8 then z.gx g s
 else if s.k=9 then z.fx g s
 else if s.k=10 then z.fi g s
 else if s.k=11 then(z.polls g,0)
 else(z,1)
structure bG.ok(e:bG):Prop where
 next:0<=e.next
 last:0<=e.last
 name:e.name.length<=1000
 keys:e.parts.map Prod.fst=[0,1,2,3]
 po:∀p∈e.parts,0<=p.2.next/\∀r,p.2.out=some r->r.x.length<=200
structure cy.ok(g:am)(M:Nat)(b:cy):Prop where
 ch:b.log.ch.length<=M
 cZ:b.log.cZ.length<=M
 acc:b.acc.length<=M
 aE:∀p∈b.aE,(p.2.map Prod.fst).Nodup/\∀q∈p.2,0<=q.1/\q.1<(g.n:Int)
structure aS.ok(g:am)(k:Nat)(z:aS):Prop where
 bu:z.bu.length=g.n
 iz:∀(i:Nat)(x:bk),z.bu[i]? =some (some x)->x.ok g (773+6*k)/\x.an=(i:Int)
 some_:∃(i:Nat)(x:bk),z.bu[i]? =some (some x)
 parts:z.parts.length=4
 jq:∀b∈z.parts,b.ok g (6000*k)
 cJ:z.cJ.length=3
 kq:∀p∈z.cJ,p.1.ok
 bz:z.bz.length<=512
 lF:ep z.bz
 heard:z.heard.length<=1000
 kI:ep z.heard
 lost:z.lost<=5000000*k
theorem cy.ok.more{g:am}{M mO:Nat}{b:cy}(h:b.ok g M)(hm:M<=mO):b.ok g mO:=⟨eh h.ch hm,eh h.cZ hm,eh h.acc hm,h.aE⟩
theorem cy.ok.len{g:am}{M:Nat}{b:cy}(h:b.ok g M)(f:g.ok):∀p∈b.aE,p.2.length<=100:=λp j=>by
 obtain⟨a,c⟩:=h.aE p j;have d:=sD g.n (p.2.map Prod.fst) a (λi e=>by obtain⟨q,k,rfl⟩:=dO.1 e;exact c q k);rw [fB] at d;have:=f.n10;have l:g.n<=10:=this;omega
theorem zl{α:Type}:∀{m:List (Int×α)}{k:Int}{a v:α},aZ m k=some a->(b9 m k v).map Prod.fst=m.map Prod.fst
 |[],_,_,_,h=>by cases h
 |(J,u)::r,k,a,v,h=>by
  simp only [aZ] at h;simp only [b9];by_cases b:J=k
  .subst b;simp
  .rw [aI b] at h⊢;simp [zl h]
theorem bG.ok.put{e:bG}(h:e.ok){n:Int}{q om:hi}(c:aZ e.parts n=some q)(a:0<=om.next/\∀r,om.out=some r->r.x.length<=200):(b9 e.parts n om).map Prod.fst=[0,1,2,3]/\∀p∈b9 e.parts n om,0<=p.2.next/\∀r,p.2.out=some r->r.x.length<=200:=
 ⟨(zl c).trans h.keys,λp b=>(iy b).elim (h.po p) (λe=>by rw [e];exact a)⟩
theorem bG.ok.init{e:bG}(h:e.ok):e.init.1.ok:=by
 unfold bG.init;split
 .split
  .exact h
  .exact{h with next:=show 0<=e.next+1 by have:=h.next;omega}
 .exact h
theorem bG.ok.f9{e:bG}(h:e.ok):0<=e.f9:=by
 have:=h.last;unfold bG.f9;split<;>omega
theorem bG.ok.gH{e:bG}(h:e.ok)(n:Int):(e.gH n).1.ok:=by
 unfold bG.gH;split
 .exact h
 .split
  .exact h
  .rename_i q a;split
   .exact h
   .split
    .exact h
    .obtain⟨b,c⟩:=h.put a (om:={q with begun:=e.f9}) (h.po _ (hF a));exact⟨show 0<=e.next+1 by have:=h.next;omega,h.f9,h.name,b,c⟩
theorem bG.ok.end_{e:bG}(h:e.ok)(c:Bool):(e.end_ c).1.ok:=by
 unfold bG.end_;split
 .exact h
 .split
  .exact h
  .exact{h with next:=show 0<=e.next+1 by have:=h.next;omega}
theorem bG.ok.record{e:bG}(h:e.ok)(n:Int)(x:List UInt8):(e.record n x).1.ok:=by
 unfold bG.record;split
 .exact h
 .rename_i q a;split
  .exact h
  .split
   .exact h
   .split
    .exact h
    .split
     .exact h
     .rename_i f _;obtain⟨b,c⟩:=h.put a (om:={q with next:=q.next+1,out:=some (e.ih q x)}) ⟨show 0<=q.next+1 by have:0<=q.next:=(h.po _ (hF a)).1;omega,λr d=>by cases d;show x.length<=200;omega⟩;exact⟨h.next,h.last,h.name,b,c⟩
theorem bG.ok.jF{e:bG}(h:e.ok)(n:Int):(e.jF n).1.ok:=by
 unfold bG.jF;split
 .exact h
 .rename_i q a;split
  .exact h
  .obtain⟨b,c⟩:=h.put a (om:={q with out:=none}) ⟨(h.po _ (hF a)).1,by intro r d;cases d⟩;exact⟨h.next,h.last,h.name,b,c⟩
theorem zS:∀p∈mD,0<=p.2.next/\∀r,p.2.out=some r->r.x.length<=200:=λp a=>by
 have:p.2=hi.new:=by
  simp [mD] at a;rcases a with rfl|rfl|rfl|rfl<;>rfl
 rw [this];exact⟨h6 _,by intro r b;cases b⟩
theorem bG.ok.told{e:bG}(h:e.ok)(s:Int)(a:Int×Int×Int):(e.told s a).1.ok:=by
 unfold bG.told;split
 .exact h
 .split
  .exact⟨h.next,h6 _,h.name,j,zS⟩
  .exact h
theorem bG.lf{n:Int}{x:List UInt8}(a:x.length<=1000):(bG.new n x).ok:=⟨h6 _,h6 _,a,j,zS⟩
theorem dM.D9(l:dM)(p e t:Int)(c:Bool):(l.end_ p e t c).1.ch.length<=l.ch.length+1/\(l.end_ p e t c).1.cZ=l.cZ:=by
 unfold dM.end_;split
 .exact⟨ey _,j⟩
 .split
  .exact⟨by simp,j⟩
  .generalize (if c=true then(2:Int) else 3)=a;split
   .split
    .exact⟨ey _,j⟩
    .exact⟨by simp,j⟩
   .exact⟨ey _,j⟩
theorem dM.Fp(l:dM)(p e:Int):(l.kN p e).1.ch=l.ch/\(l.kN p e).1.cZ=l.cZ:=by
 unfold dM.kN;split<;>exact⟨j,j⟩
theorem dM.CF(l:dM)(r:eg):(l.append r).1.ch.length<=l.ch.length+1/\(l.append r).1.cZ.length<=l.cZ.length+1:=by
 unfold dM.append;split
 .exact⟨ey _,ey _⟩
 .split
  .exact⟨ey _,ey _⟩
  .split
   .exact⟨ey _,ey _⟩
   .split
    .exact⟨ey _,ey _⟩
    .split
     .split
      .split<;>exact⟨ey _,ey _⟩
      .exact⟨ey _,ey _⟩
     .split
      .exact⟨ey _,ey _⟩
      .refine⟨?_,by simp⟩;dsimp only;split
       .exact ey _
       .simp
theorem cy.uK(b:cy)(m:bH):(b.bY m).1.log.ch.length<=b.log.ch.length+1/\(b.bY m).1.log.cZ=b.log.cZ/\(b.bY m).1.acc=b.acc/\(b.bY m).1.aE=b.aE:=by
 unfold cy.bY;split
 .have:=dM.Fp b.log m.p m.e;exact⟨by show(b.log.kN m.p m.e).1.ch.length<=_;rw [this.1];exact ey _,this.2,j,j⟩
 .have:=dM.D9 b.log m.p m.e m.t (m.k==2);exact⟨this.1,this.2,j,j⟩
theorem cy.ok.accept{g:am}{M:Nat}{b:cy}(h:b.ok g M)(m:bH)(l:List aF):(b.accept g m l).1.ok g (M+1):=by
 have a:=h.more (ey M);obtain⟨d1,d2,d3,d4⟩:=b.uK m;have c:(b.bY m).1.ok g (M+1):=⟨by have:=h.ch;omega,by rw [d2];exact a.cZ,by rw [d3];exact a.acc,by rw [d4];exact h.aE⟩;unfold cy.accept;split
 .exact a
 .split
  .exact a
  .split
   .exact a
   .split
    .exact c
    .refine⟨c.ch,c.cZ,?_,λp d=>h.aE p (ns d)⟩;show(b.acc++[m]).length<=M+1;rw [b4,List.length_singleton];have:=h.acc;omega
theorem F1{α:Type}:∀{m:List (Int×α)}{k:Int}{v:α},aZ m k=none->(m.map Prod.fst).Nodup->((b9 m k v).map Prod.fst).Nodup:=fun{m k v}aa aJ=>by
 rw [vA aa,jU];refine iR.2 ⟨aJ,by simp,λa d b c e=>?_⟩;simp at c;subst c;subst e;obtain⟨p,f,g⟩:=dO.1 d;exact ze aa p f g
theorem E3{g:am}{m:bH}{v:aF}(h:kJ g m v=true):0<=v.f/\v.f<(g.n:Int):=by
 unfold kJ at h;simp only [d8] at h;exact pd h.2
theorem cy.ok.c8{g:am}{M:Nat}{b:cy}(h:b.ok g M)(m:bH)(v:aF):(b.c8 g m v).1.ok g (M+1):=by
 have c:=h.more (ey M);unfold cy.c8;split
 .exact c
 .split
  .exact c
  .rename_i k;have br:=E3 (g:=g) (m:=m) (v:=v) (by cases a:kJ g m v with|true=>rfl|false=>exact absurd a k);split
   .exact c
   .split
    .exact c
    .have i:∀p∈b9 b.aE (dS m) (ha ((aZ b.aE (dS m)).getD []) v),(p.2.map Prod.fst).Nodup/\∀q∈p.2,0<=q.1/\q.1<(g.n:Int):=λp d=>by
      rcases iy d with d|rfl
      .exact h.aE p d
      .have e:(((aZ b.aE (dS m)).getD []).map Prod.fst).Nodup/\∀q∈(aZ b.aE (dS m)).getD [],0<=q.1/\q.1<(g.n:Int):=by
        cases aa:aZ b.aE (dS m) with
        |none=>exact⟨List.nodup_nil,by intro q a;cases a⟩
        |some l=>exact h.aE _ (hF aa)
       dsimp only;unfold ha;split
       .exact e
       .rename_i aJ;refine⟨F1 (by cases a:aZ ((aZ b.aE (dS m)).getD []) v.f with|none=>rfl|some _=>rw [a] at aJ;exact absurd j aJ) e.1,λq a=>?_⟩;rcases iy a with a|rfl
        .exact e.2 q a
        .exact br
     split
     .refine cy.ok.accept (M:=M) (b:={b with aE:=fK (b9 b.aE (dS m) (ha ((aZ b.aE (dS m)).getD []) v)) (dS m)}) ⟨h.ch,h.cZ,h.acc,λp d=>i p (ns d)⟩ m _
     .exact⟨c.ch,c.cZ,c.acc,i⟩
structure aS.df(g:am)(hh:Nat->Nat)(M L:Nat)(z:aS):Prop where
 bu:z.bu.length=g.n
 iz:∀(i:Nat)(x:bk),z.bu[i]? =some (some x)->x.ok g (hh i)/\x.an=(i:Int)
 some_:∃(i:Nat)(x:bk),z.bu[i]? =some (some x)
 parts:z.parts.length=4
 jq:∀b∈z.parts,b.ok g M
 cJ:z.cJ.length=3
 kq:∀p∈z.cJ,p.1.ok
 bz:z.bz.length<=512
 lF:ep z.bz
 heard:z.heard.length<=1000
 kI:ep z.heard
 lost:z.lost<=L
theorem aS.ok.F{g:am}{k:Nat}{z:aS}(h:z.ok g k):z.df g (λ_=>773+6*k) (6000*k) (5000000*k):=⟨h.bu,h.iz,h.some_,h.parts,h.jq,h.cJ,h.kq,h.bz,h.lF,h.heard,h.kI,h.lost⟩
section
variable {g:am} {hh:Nat->Nat} {N M L:Nat} {z:aS}
theorem aS.df.more{nM:Nat->Nat}{mO kE:Nat}(h:z.df g hh M L)(e:∀i,hh i<=nM i)(d:M<=mO)(c:L<=kE):z.df g nM mO kE:=
 {h with iz:=λi x a=>⟨(h.iz i x a).1.more (e i),(h.iz i x a).2⟩,jq:=λb f=>(h.jq b f).more d,lost:=eh h.lost c}
theorem aS.df.ok{k:Nat}(h:z.df g (λ_=>N) M L)(c:N<=773+6*k)(b:M<=6000*k)(a:L<=5000000*k):z.ok g k:=
 let h:=h.more (λ_=>c) b a
 ⟨h.bu,h.iz,h.some_,h.parts,h.jq,h.cJ,h.kq,h.bz,h.lF,h.heard,h.kI,h.lost⟩
theorem aS.df.g6(h:z.df g hh M L){l:List aW}(a:h4 l):(z.g6 l).df g hh M (L+420000):=by
 have b:=h.bz;have c:=h.heard;refine{h with bz:=?_,lF:=λm hm=>?_,heard:=?_,kI:=λm hm=>?_,lost:=?_}
 .show(z.bz++l.take (512-z.bz.length)).length<=512;rw [b4,List.length_take];omega
 .rcases dw.1 (show m∈z.bz++l.take (512-z.bz.length) from hm) with hm|hm
  .exact h.lF m hm
  .exact a.1 m (m2 hm)
 .show(z.heard++l.take (min (min l.length (512-z.bz.length)) (1000-z.heard.length))).length<=1000;rw [b4,List.length_take];omega
 .rcases dw.1 (show m∈z.heard++l.take (min (min l.length (512-z.bz.length)) (1000-z.heard.length)) from hm) with hm|hm
  .exact h.kI m hm
  .exact a.1 m (m2 hm)
 .show z.lost+(l.length-(512-z.bz.length))<=L+420000;have:=a.2;have:=h.lost;omega
theorem aS.df.kz(h:z.df g hh M L){i:Nat}{f x:bk}(e:z.bu[i]? =some (some f))(d:x.ok g (hh i))(hm:x.an=(i:Int)):({z with bu:=z.bu.set i (some x)}:aS).df g hh M L:=by
 have b:i<z.bu.length:=(eY.1 e).1;refine{h with bu:=by rw [hx];exact h.bu,iz:=λJ y a=>?_,some_:=⟨i,x,by rw [nV b]⟩};have a:(z.bu.set i (some x))[J]? =some (some y):=a;by_cases c:i=J
 .subst c;rw [nV b] at a;cases a;exact⟨d,hm⟩
 .rw [nW c] at a;exact h.iz J y a
theorem aS.df.fM(h:z.df g hh M L){i:Nat}{p:bG×Int}(b:p.1.ok):(z.fM i p).df g hh M L:=by
 refine{h with cJ:=by show(z.cJ.set i p).length=3;rw [hx];exact h.cJ,kq:=λq a=>?_};rcases oQ (show q∈z.cJ.set i p from a) with a|rfl
 .exact h.kq q a
 .exact b
theorem aS.df.lS(h:z.df g hh M L){i:Int}{b:cy}(c:b.ok g (M+1)):(z.lS i b).df g hh (M+1) L:=by
 refine{h with parts:=by show(z.parts.set i.toNat b).length=4;rw [hx];exact h.parts,jq:=λq a=>?_};rcases oQ (show q∈z.parts.set i.toNat b from a) with a|rfl
 .exact(h.jq q a).more (ey _)
 .exact c
theorem bk.uh(x:bk):x.hS.an=x.an:=(bk.qi ((x.s.log.map Prod.fst).drop x.dr) x).2.1
theorem bk.xg(x:bk)(I:bA):(x.ask g I).1.an=x.an:=by
 unfold bk.ask;split
 .exact bk.uh _
 .rfl
theorem bk.Ig(x:bk)(m:aW):(x.take g m).1.an=x.an:=bk.uh _
theorem bk.It(x:bk):(x.tick g).1.an=x.an:=bk.uh _
def k1(N J i:Nat):Nat:=if i<J then N+6 else N
theorem aS.df.fQ(c:g.ok)(b:773<=N){J:Nat}(h:z.df g (k1 N J) M (L+420000*J))(I:bA):(z.fQ g I J).df g (k1 N (J+1)) M (L+420000*(J+1)):=by
 have a:z.df g (k1 N (J+1)) M (L+420000*J):=h.more (λi=>by unfold k1;split<;>split<;>omega) (Nat.le_refl _) (Nat.le_refl _);unfold aS.fQ;split
 .rename_i x d;obtain⟨aa,hm⟩:=h.iz J x d
  have aa:x.ok g N:=by have:k1 N J J=N:=by unfold k1;rw [if_neg (by omega)]
                       rw [this] at aa;exact aa
  have e:k1 N (J+1) J=N+6:=by unfold k1;rw [if_pos (by omega)]
  have f:=(a.kz d (x:=(x.ask g I).1) (by rw [e];exact aa.ask c b I) ((bk.xg x I).trans hm)).g6 (bk.ul c aa b I);exact f.more (λ_=>cD _) (cD _) (by omega)
 .exact a.more (λ_=>cD _) (cD _) (by omega)
theorem aS.df.nc(b:g.ok)(a:773<=N)(h:z.df g (λ_=>N) M L)(I:bA):∀J:Nat,((List.range J).foldl (aS.fQ g I) z).df g (k1 N J) M (L+420000*J)
 |0=>h.more (λi=>by unfold k1;rw [if_neg (by omega)];exact Nat.le_refl _) (Nat.le_refl _) (Nat.le_refl _)
 |J+1=>by
  rw [l9,nT];exact aS.df.fQ b a (aS.df.nc b a h I J) I
theorem aS.df.asks(a:g.ok)(b:773<=N)(h:z.df g (λ_=>N) M L)(I:bA)(e:Int):(z.asks g I e).1.df g (λ_=>N+6) M (L+4200000):=by
 unfold aS.asks;split
 .exact h.more (λ_=>gG _ _) (cD _) (gG _ _)
 .have c:=h.bu;have d:g.n<=10:=a.n10;exact(aS.df.nc a b h I z.bu.length).more (λi=>by unfold k1;split<;>omega) (Nat.le_refl _) (by omega)
theorem aS.nz{i:Int}{x:bk}(h:z.rep i=some x):0<=i/\z.bu[i.toNat]? =some (some x):=by
 unfold aS.rep at h;split at h
 .rename_i b;cases a:z.bu[i.toNat]? with
  |none=>rw [a] at h;cases h
  |some I=>rw [a] at h;cases I with
   |none=>cases h
   |some y=>cases h;exact⟨b,j⟩
 .cases h
theorem aS.df.cE(k:g.ok)(j:773<=N)(h:z.df g (λ_=>N) M L){i:Int}{x:bk}(e:z.rep i=some x){dP:bk}{l:List aW}(aa:x.ok g N->dP.ok g (N+6))(hm:dP.an=x.an)(d:x.ok g N->h4 l):((z.kz i dP).g6 l).df g (λ_=>N+6) M (L+420000):=by
 obtain⟨f,a⟩:=aS.nz e;obtain⟨b,c⟩:=h.iz _ x a;exact((h.more (nM:=λ_=>N+6) (λ_=>gG _ _) (cD _) (cD _)).kz a (x:=dP) (aa b) (hm.trans c)).g6 (d b)
theorem aS.df.ks(b:g.ok)(a:773<=N)(h:z.df g (λ_=>N) M L){m:aW}(hm:m.cR):(z.ks g m).df g (λ_=>N+6) M (L+420000):=by
 unfold aS.ks;split
 .exact h.more (λ_=>gG _ _) (cD _) (gG _ _)
 .rename_i x c;exact h.cE b a c (λaa=>aa.take b a hm) (bk.Ig _ _) (λaa=>bk.tc b aa a hm)
theorem aS.df.ur(h:z.df g hh M L){l:List aW}(a:l.length<=512)(br:ep l):({z with bz:=l}:aS).df g hh M L:={h with bz:=a,lF:=br}
theorem aS.df.gx(f:g.ok)(d:773<=N)(h:z.df g (λ_=>N) M L)(s:eF):(z.gx g s).1.df g (λ_=>N+6) M (L+420000):=by
 have a:=h.more (nM:=λ_=>N+6) (kE:=L+420000) (λ_=>gG _ _) (cD _) (gG _ _);have e:=h.bz;unfold aS.gx;split
 .exact a
 .rename_i m hm;have c:=h.lF m (hk hm);have he:(z.bz.eraseIdx ((max s.n 0).toNat%z.bz.length)).length<=512:=eh (List.length_eraseIdx_le _ _) e;have br:ep (z.bz.eraseIdx ((max s.n 0).toNat%z.bz.length)):=λq b=>h.lF q (tW b)
  split
  .split
   .refine a.ur (by rw [b4,List.length_singleton];omega) (h.lF.app (λq b=>?_));rw [fT.1 b];exact c
   .exact a
  .split
   .exact(h.ur he br).ks f d c.1
   .exact a.ur he br
theorem aS.df.fx(b:g.ok)(a:773<=N)(h:z.df g (λ_=>N) M L)(s:eF):(z.fx g s).1.df g (λ_=>N+6) M (L+420000):=by
 unfold aS.fx;split
 .exact h.more (λ_=>gG _ _) (cD _) (gG _ _)
 .rename_i x c;exact h.cE b a c (λaa=>aa.tick b a) (bk.It _) (λaa=>bk.td b aa a)
theorem y4{f:Int}{aL:List aW}{l:ew}{U:List aF}(a:∀m∈aL,∀v∈m.l,v.ok)(h:l.aE g f aL=some U):U.length<=10/\∀v∈U,v.ok:=by
 unfold ew.aE at h;split at h
 .cases h;exact⟨by simp,λv a=>by rw [fT.1 a];exact iX _ _ _ _ _ _ (e7 _)⟩
 .split at h
  .split at h
   .cases h
   .cases h;exact⟨by simp,λv a=>by rw [fT.1 a];exact iX _ _ _ _ _ _ (e7 _)⟩
  .cases h;exact⟨by rw [hl];omega,λv b=>sv a l.use v (m2 b)⟩
theorem ew.FU{f:Int}{l:ew}(h:l.may g f=true):0<=l.s/\l.s<=63/\0<=l.v/\l.v<=8:=by
 unfold ew.may aW.may at h;simp only [d8,fq,gd] at h;obtain⟨⟨⟨⟨⟨_,a⟩,b⟩,_⟩,_⟩,_⟩:=h.1;exact⟨a.1,a.2,b.1,b.2⟩
theorem vo{f:Int}{aL:List aW}{l:ew}{m:aW}(i:ep aL)(h:eT g f aL l=some m):m.j1/\0<=m.s/\m.f=f/\m.k=l.k/\m.x=l.x/\l.aE g f aL=some m.l:=by
 unfold eT at h;split at h
 .rename_i c;cases a:l.aE g f aL with
  |none=>rw [a] at h;cases h
  |some U=>
   rw [a] at h;cases h;obtain⟨d,e⟩:=y4 (λm hm=>(i m hm).1.aE) a;have b:=ew.FU c;exact⟨⟨⟨am.ec _ _ _,e,ew.vp c,d⟩,b.2.1⟩,b.1,j,j,j,j⟩
 .cases h
theorem aS.df.fi(h:z.df g hh M L)(s:eF):(z.fi g s).1.df g hh (M+1) (L+420000):=by
 have a:=h.more (nM:=hh) (mO:=M+1) (kE:=L+420000) (λ_=>cD _) (ey _) (gG _ _);unfold aS.fi;split
 .exact a
 .split
  .exact a
  .rename_i m hm;have br:=(vo h.kI hm).1;split
   .exact(h.g6 ⟨λq d=>by rw [fT.1 d];exact br,by simp⟩).more (λ_=>cD _) (ey _) (cD _)
   .split
    .exact a
    .split
     .rename_i b v r c e;have:=(h.jq b (hk c)).c8 (g:=g) (by assumption) v;exact(h.lS (i:=((m.s.toNat%z.parts.length:Nat):Int)) this).more (λ_=>cD _) (cD _) (gG _ _)
     .exact a
theorem tm{x:bk}:∀(l:List bH){aD:List cy}{M:Nat},(∀b∈aD,b.ok g M)->∀b∈l.foldl (ou g x) aD,b.ok g (M+l.length)
 |[],_,_,h=>h
 |m::r,aD,M,h=>by
  intro b a;rw [hQ] at a
  have d:∀b∈ou g x aD m,b.ok g (M+1):=λb a=>by
   obtain⟨c,f,rfl⟩:=dO.1 a;exact(h c f).c8 _ _
  have e:=tm r d b a;rw [ez];exact e.more (by omega)
theorem tl{x:bk}:∀(l:List bH)(aD:List cy),(l.foldl (ou g x) aD).length=aD.length
 |[],_=>rfl
 |m::r,aD=>by
  rw [hQ,tl r];exact fB _
theorem bk.ok.A6{x:bk}(h:x.ok g N):x.aE.length<=512:=by
 have a:=h.aE;have b:=h.dr;have c:=h.s.log;omega
theorem zU:∀(l:List (Option bk)){aD:List cy}{M:Nat},(∀x,some x∈l->x.aE.length<=512)->(∀b∈aD,b.ok g M)->(∀b∈l.foldl (jP g) aD,b.ok g (M+512*l.length))/\(l.foldl (jP g) aD).length=aD.length
 |[],_,_,_,h=>⟨h,j⟩
 |I::r,aD,M,d,h=>by
  rw [hQ,ez]
  have c:(∀b∈jP g aD I,b.ok g (M+512))/\(jP g aD I).length=aD.length:=by
   cases I with
   |none=>exact⟨λb a=>(h b a).more (by omega),j⟩
   |some x=>exact⟨λb a=>(tm x.aE h b a).more (by have:=d x (by simp);omega),tl _ _⟩
  obtain⟨e,f⟩:=zU r (λx i=>d x (by simp [i])) c.1;exact⟨λb a=>(e b a).more (by omega),f.trans c.2⟩
theorem IB{x:bk}{cs:List (bG×Int)}(i:Nat)(h:∀p∈cs,p.1.ok):(∀p∈kA x cs i,p.1.ok)/\(kA x cs i).length=cs.length:=by
 unfold kA;split
 .exact⟨h,j⟩
 .rename_i p b;split
  .exact⟨h,j⟩
  .refine⟨λq a=>?_,hx ..⟩;rcases oQ a with a|rfl
   .exact h q a
   .exact(h p (hk b)).told _ _
theorem wm{x:bk}:∀(l:List Nat){cs:List (bG×Int)},(∀p∈cs,p.1.ok)->(∀p∈l.foldl (kA x) cs,p.1.ok)/\(l.foldl (kA x) cs).length=cs.length
 |[],_,h=>⟨h,j⟩
 |i::r,cs,h=>by
  obtain⟨a,b⟩:=IB (x:=x) i h;obtain⟨c,d⟩:=wm r a;rw [hQ];exact⟨c,d.trans b⟩
theorem aS.df.polls(k:g.ok)(h:z.df g hh M L):(z.polls g).df g hh (M+5120) L:=by
 have aJ:g.n<=10:=k.n10;have m:=h.bu
 obtain⟨c,d⟩:=zU (g:=g) z.bu (aD:=z.parts) (M:=M) (λx l=>by
  obtain⟨i,f⟩:=l7 l;exact(h.iz i x f).1.A6) h.jq
 have a:(∀p∈(z.polls g).cJ,p.1.ok)/\(z.polls g).cJ.length=z.cJ.length:=by
  show(∀p∈(match se z.bu with|none=>z.cJ|some x=>(List.range z.cJ.length).foldl (kA x) z.cJ),p.1.ok)/\(match se z.bu with|none=>z.cJ|some x=>(List.range z.cJ.length).foldl (kA x) z.cJ).length=z.cJ.length;split
  .exact⟨h.kq,j⟩
  .exact wm _ h.kq
 exact{h with parts:=d.trans h.parts,jq:=λb e=>(c b e).more (by omega),cJ:=a.2.trans h.cJ,kq:=a.1}
theorem aS.df.records(h:z.df g hh M L)(s:eF)(i:Nat){p:bG×Int}(d:p.1.ok):(z.records s i p).1.df g hh (M+1) L:=by
 have e:=h.more (nM:=hh) (mO:=M+1) (kE:=L) (λ_=>cD _) (ey _) (cD _);unfold aS.records;split
 .exact e.fM (d.record _ _)
 .split
  .exact e.fM (d.record _ _)
  .rename_i b a
   have c:b.ok g M:=by
    unfold aS.part at a;split at a
    .exact h.jq b (hk a)
    .cases a
   have f:=dM.CF b.log (p.1.record s.n s.x).2.1;refine(h.fM ?_).lS ⟨?_,?_,Nat.le_succ_of_le c.acc,c.aE⟩
   .dsimp only;split
    .exact(d.record _ _).jF _
    .exact d.record _ _
   .have:=c.ch;show((b.log.append (p.1.record s.n s.x).2.1).1.ch).length<=M+1;omega
   .have:=c.cZ;show((b.log.append (p.1.record s.n s.x).2.1).1.cZ).length<=M+1;omega
theorem aS.df.f0(c:g.ok)(b:773<=N)(h:z.df g (λ_=>N) M L)(s:eF):(z.f0 g s).1.df g (λ_=>N+6) (M+1) (L+4200000):=by
 have e:=h.more (nM:=λ_=>N+6) (mO:=M+1) (kE:=L+4200000) (λ_=>gG _ _) (ey _) (gG _ _);unfold aS.f0;split
 .exact e
 .rename_i p d
  have a:p.1.ok:=by
   split at d
   .exact h.kq p (hk d)
   .cases d
  split
  .exact((h.fM a.init).asks c b _ _).more (λ_=>cD _) (ey _) (cD _)
  .split
   .exact((h.fM (a.gH _)).asks c b _ _).more (λ_=>cD _) (ey _) (cD _)
   .split
    .exact(h.records s s.node.toNat a).more (λ_=>gG _ _) (cD _) (gG _ _)
    .exact((h.fM (a.end_ _)).asks c b _ _).more (λ_=>cD _) (ey _) (cD _)
theorem aS.ok.bY(b:g.ok){k:Nat}(h:z.ok g k)(s:eF):(z.bY g s).1.ok g (k+1):=by
 have a:=h.F;have c:773<=773+6*k:=by omega
 unfold aS.bY;split
 .exact(a.f0 b c s).ok (by omega) (by omega) (by omega)
 .split
  .exact(a.asks b c _ _).ok (by omega) (by omega) (by omega)
  .split
   .exact(a.gx b c s).ok (by omega) (by omega) (by omega)
   .split
    .exact(a.fx b c s).ok (by omega) (by omega) (by omega)
    .split
     .exact(a.fi s).ok (by omega) (by omega) (by omega)
     .split
      .exact(a.polls b).ok (by omega) (by omega) (by omega)
      .exact a.ok (by omega) (by omega) (by omega)
end
theorem bk.qh(x:bk):x.hS.s=x.s:=(bk.qi ((x.s.log.map Prod.fst).drop x.dr) x).1
structure eQ(g:am)(h:Nat)(H:List el)(aP:List aF)(z:aS):Prop where
 n:z.bu.length=g.n
 aJ:h<=g.n
 br:g.n-h<=hE g.n
 valid:Valid g.n h H
 bu:∀(i:Nat)(x:bk),z.bu[i]? =some (some x)->hj g h H aP x.s/\x.s.an=(i:Int)
 sk:∀i,i<h->∃x,z.bu[i]? =some (some x)
 bz:∀m∈z.bz,m.cR/\e8 h H aP m.l
 heard:∀m∈z.heard,m.cR/\e8 h H aP m.l
def gF(aP:List aF)(z:aS):Prop:=z.lost=0->z.heard.length<1000->∀v∈aP,v∈gi z.heard
def jB(z gA:aS):Prop:=gA.bu.length=z.bu.length/\∀(i:Nat)(x:bk),z.bu[i]? =some (some x)->∃dP,gA.bu[i]? =some (some dP)/\x.s.log<+:dP.s.log
theorem jB.refl(z:aS):jB z z:=⟨j,λi x a=>⟨x,a,mb _⟩⟩
theorem jB.same{z gA:aS}(h:gA.bu=z.bu):jB z gA:=⟨by rw [h],λi x a=>⟨x,by rw [h];exact a,mb _⟩⟩
theorem jB.trans{a b c:aS}(h:jB a b)(d:jB b c):jB a c:=⟨d.1.trans h.1,λi x g=>by
 obtain⟨y,j,e⟩:=h.2 i x g;obtain⟨u,hu,f⟩:=d.2 i y j;exact⟨u,hu,e.trans f⟩⟩
def Next(g:am)(h:Nat)(z gA:aS):Prop:=∃b a,eQ g h b a gA/\gF a gA/\jB z gA
section
variable {g:am} {h:Nat} {H:List el} {aP:List aF} {z gA:aS}
theorem eQ.here(i:eQ g h H aP z)(a:gF aP z):Next g h z z:=⟨H,aP,i,a,jB.refl z⟩
theorem eQ.same(i:eQ g h H aP z)(a:gF aP z)(b:gA.bu=z.bu)(d:gA.bz=z.bz)(c:gA.heard=z.heard)(e:gA.lost=z.lost):eQ g h H aP gA/\gF aP gA:=
 ⟨⟨by rw [b];exact i.n,i.aJ,i.br,i.valid,by rw [b];exact i.bu,by rw [b];exact i.sk,by rw [d];exact i.bz,by rw [c];exact i.heard⟩,by unfold gF;rw [c,e];exact a⟩
theorem eQ.put(i:eQ g h H aP z){l:List aW}(a:∀m∈l,m.cR/\e8 h H aP m.l):eQ g h H aP (z.g6 l):=
 {i with
   bz:=λm hm=>(dw.1 (show m∈z.bz++l.take (512-z.bz.length) from hm)).elim (i.bz m) (λh=>a m (List.mem_of_mem_take h))
   heard:=λm hm=>(dw.1 (show m∈z.heard++l.take (min (min l.length (512-z.bz.length)) (1000-z.heard.length)) from hm)).elim (i.heard m) (λh=>a m (List.mem_of_mem_take h))}
theorem gF.put(a:gF aP z)(l:List aW):gF (aP++gi l) (z.g6 l):=λd c v b=>by
 have d:z.lost+(l.length-(512-z.bz.length))=0:=d;have c:(z.heard++l.take (min (min l.length (512-z.bz.length)) (1000-z.heard.length))).length<1000:=c;show v∈gi (z.heard++l.take (min (min l.length (512-z.bz.length)) (1000-z.heard.length)));rw [b4,List.length_take] at c;rw [ir (by omega)];unfold gi;rw [ma];rcases dw.1 b with b|b
 .exact dw.2 (.inl (a (by omega) (by omega) v b))
 .exact dw.2 (.inr b)
theorem eQ.we(i:eQ g h H aP z)(a:gF aP z){J:Nat}{x dP:bk}{l:List aW}{A:List el}(p:z.bu[J]? =some (some x))(t:eL g h H aP x.s dP.s l A)(B:x.s.gn dP.s):Next g h z (aS.g6 {z with bu:=z.bu.set J (some dP)} l):=by
 have o:J<z.bu.length:=(eY.1 p).1;obtain⟨_,r⟩:=i.bu J x p;have f:∀c∈H,c∈A++H:=λc d=>dw.2 (.inr d)
 have j:∀c∈aP,c∈aP++gi l:=λc d=>dw.2 (.inl d)
 have C:eQ g h (A++H) (aP++gi l) {z with bu:=z.bu.set J (some dP)}:=by
  refine⟨by show(z.bu.set J (some dP)).length=g.n;rw [hx];exact i.n,i.aJ,i.br,t.valid,λk y b=>?_,λk aa=>?_,λm hm=>⟨(i.bz m hm).1,(i.bz m hm).2.mono f j⟩,λm hm=>⟨(i.heard m hm).1,(i.heard m hm).2.mono f j⟩⟩
  .have b:(z.bu.set J (some dP))[k]? =some (some y):=b;by_cases e:J=k
   .subst e;rw [nV o] at b;cases b;exact⟨t.inv,t.an.trans r⟩
   .rw [nW e] at b;obtain⟨u,q⟩:=i.bu k y b;refine⟨u.mono f j (λc d w=>?_),q⟩;rcases dw.1 d with d|d
    .exfalso;have v:=t.iH c d;rw [r] at v;rw [q] at w;omega
    .exact d
  .show∃y,(z.bu.set J (some dP))[k]? =some (some y);by_cases e:J=k
   .subst e;exact⟨dP,nV o⟩
   .rw [nW e];exact i.sk k aa
 refine⟨_,_,C.put t.kR,gF.put (z:={z with bu:=z.bu.set J (some dP)}) a l,by show(z.bu.set J (some dP)).length=_;rw [hx],λk y b=>?_⟩;show∃D,(z.bu.set J (some dP))[k]? =some (some D)/\_;by_cases e:J=k
 .subst e;rw [p] at b;cases b;exact⟨dP,nV o,B.2⟩
 .rw [nW e];exact⟨y,b,mb _⟩
theorem eQ.fQ(k:g.ok)(e:2<=g.n)(i:eQ g h H aP z)(a:gF aP z)(I:bA)(J:Nat):Next g h z (z.fQ g I J):=by
 unfold aS.fQ;split
 .rename_i x d;obtain⟨c,_⟩:=i.bu J x d
  have key:∃A,eL g h H aP x.s (x.ask g I).1.s (x.ask g I).2.1 A/\x.s.gn (x.ask g I).1.s:=by
   unfold bk.ask;split
   .obtain⟨A,b⟩:=AL k e i.valid c (i4 I);dsimp only;rw [bk.qh];exact⟨A,b,aC.tb _ _⟩
   .exact⟨[],eL.nil i.valid c j,aC.gn.refl _⟩
  obtain⟨A,b,f⟩:=key;exact i.we a d b f
 .exact i.here a
theorem eQ.nc(c:g.ok)(b:2<=g.n)(I:bA):∀(l:List Nat){H:List el}{aP:List aF}{z:aS},eQ g h H aP z->gF aP z->Next g h z (l.foldl (aS.fQ g I) z)
 |[],_,_,_,i,a=>i.here a
 |J::r,H,aP,z,i,a=>by
  obtain⟨H1,q,o,f,k⟩:=i.fQ c b a I J;obtain⟨d,e,p,j,m⟩:=eQ.nc c b I r o f;exact⟨d,e,p,j,k.trans m⟩
theorem eQ.asks(c:g.ok)(b:2<=g.n)(i:eQ g h H aP z)(a:gF aP z)(I:bA)(e:Int):Next g h z (z.asks g I e).1:=by
 unfold aS.asks;split
 .exact i.here a
 .exact i.nc c b I _ a
theorem Next.from{z0:aS}(n:Next g h z gA)(e:z.bu=z0.bu):Next g h z0 gA:=by
 obtain⟨b,c,i,a,d⟩:=n;exact⟨b,c,i,a,(jB.same e).trans d⟩
theorem eQ.um(d:g.ok)(c:2<=g.n)(i:eQ g h H aP z)(a:gF aP z)(k:Nat)(p:bG×Int)(I:bA)(e:Int):Next g h z ((z.fM k p).asks g I e).1:=by
 obtain⟨f,b⟩:=i.same (gA:=z.fM k p) a j j j j;exact(f.asks d c b I e).from j
theorem eQ.quiet(i:eQ g h H aP z)(a:gF aP z)(b:gA.bu=z.bu)(d:gA.bz=z.bz)(e:gA.heard=z.heard)(f:gA.lost=z.lost):Next g h z gA:=by
 obtain⟨j,c⟩:=i.same a b d e f;exact⟨H,aP,j,c,jB.same b⟩
theorem eQ.xl(i:eQ g h H aP z)(a:gF aP z){l:List aW}(b:∀m∈l,m∈z.bz):eQ g h H aP {z with bz:=l}/\gF aP {z with bz:=l}:=⟨{i with bz:=λm hm=>i.bz m (b m hm)},a⟩
theorem eQ.records(i:eQ g h H aP z)(a:gF aP z)(s:eF)(k:Nat)(p:bG×Int):Next g h z (z.records s k p).1:=by
 unfold aS.records;split
 .exact i.quiet a j j j j
 .split
  .exact i.quiet a j j j j
  .exact i.quiet a j j j j
theorem eQ.f0(c:g.ok)(b:2<=g.n)(i:eQ g h H aP z)(a:gF aP z)(s:eF):Next g h z (z.f0 g s).1:=by
 unfold aS.f0;split
 .exact i.here a
 .split
  .exact i.um c b a _ _ _ _
  .split
   .exact i.um c b a _ _ _ _
   .split
    .exact i.records a s _ _
    .exact i.um c b a _ _ _ _
theorem eQ.ks(e:g.ok)(c:2<=g.n)(i:eQ g h H aP z)(a:gF aP z){m:aW}(hm:m.cR/\e8 h H aP m.l):Next g h z (z.ks g m):=by
 unfold aS.ks;split
 .exact i.here a
 .rename_i x f;obtain⟨_,b⟩:=aS.nz f;obtain⟨A,d⟩:=HU e c i.valid (i.bu _ x b).1 hm.2 hm.1;exact i.we a (dP:=(x.take g m).1) b (by show eL g h H aP x.s (bk.hS _).s _ _;rw [bk.qh];exact d) (by show x.s.gn (bk.hS _).s;rw [bk.qh];exact aC.wk _ _)
theorem eQ.gx(o:g.ok)(f:2<=g.n)(i:eQ g h H aP z)(a:gF aP z)(s:eF):Next g h z (z.gx g s).1:=by
 unfold aS.gx;split
 .exact i.here a
 .rename_i m hm;have d:=hk hm;have k:=i.bz m d;obtain⟨e,c⟩:=i.xl a (l:=z.bz.eraseIdx ((max s.n 0).toNat%z.bz.length)) (λq b=>tW b);split
  .split
   .obtain⟨p,a3⟩:=i.xl a (l:=z.bz++[m]) (λq b=>(dw.1 b).elim id (λh=>by rw [List.mem_singleton.1 h];exact d));exact⟨H,aP,p,a3,jB.same j⟩
   .exact i.here a
  .split
   .exact(e.ks o f c k).from j
   .exact⟨H,aP,e,c,jB.same j⟩
theorem eQ.fx(e:g.ok)(c:2<=g.n)(i:eQ g h H aP z)(a:gF aP z)(s:eF):Next g h z (z.fx g s).1:=by
 unfold aS.fx;split
 .exact i.here a
 .rename_i x f;obtain⟨_,b⟩:=aS.nz f;obtain⟨A,d⟩:=H4 e c i.valid (i.bu _ x b).1;exact i.we a (dP:=(x.tick g).1) b (by show eL g h H aP x.s (bk.hS _).s _ _;rw [bk.qh];exact d) (by show x.s.gn (bk.hS _).s;rw [bk.qh];exact aC.wl _)
theorem FD{aL:List aW}{use:List Int}{v:aF}(c:v∈ix aL use):∃m∈aL,v∈m.l:=by
 obtain⟨i,_,a⟩:=m0.1 c;unfold k9 at a;split at a
 .cases b:aL[i.toNat]? with
  |none=>rw [b] at a;cases a
  |some m=>rw [b] at a;exact⟨m,hk b,a⟩
 .cases a
theorem FF{f:Int}{aL:List aW}{l:ew}{m:aW}(o:∀m∈aL,m.cR/\e8 h H aP m.l)(br:(h:Int)<=f)(hm:eT g f aL l=some m):m.cR/\e8 h H (aP++gi [m]) m.l:=by
 have d:0<=l.v/\l.v<=8->∀U,l.aE g f aL=some U->U.length<=10/\(∀v∈U,v.ok)/\∀v∈U,((h:Int)<=v.f/\0<=v.v/\v.v<=8)\/kD h H aP v:=λe U a=>by
  obtain⟨k,n⟩:=y4 (λm hm=>(o m hm).1.aE) a;refine⟨k,n,λv d=>?_⟩;unfold ew.aE at a;split at a
  .cases a;rw [fT.1 d];exact .inl ⟨br,h6 0,show(0:Int)<=8 by decide⟩
  .split at a
   .split at a
    .cases a
    .cases a;rw [fT.1 d];exact .inl ⟨br,e⟩
   .cases a;obtain⟨q,c,u⟩:=FD (m2 d);exact .inr ((o q c).2 v u)
 unfold eT at hm;split at hm
 .rename_i r;cases c:l.aE g f aL with
  |none=>rw [c] at hm;cases hm
  |some U=>
   rw [c] at hm;cases hm
   have e:fq l.v 0 8=true:=by
    have b:=r;unfold ew.may aW.may at b;simp only [d8] at b;exact b.1.1.1.1.2
   simp only [fq,gd] at e;obtain⟨k,n,s⟩:=d e U c;refine⟨⟨am.ec _ _ _,n,ew.vp r,k⟩,λv i=>?_⟩;have i:v∈U:=i;have p:v∈aP++gi [(l.msg f U).cr g]:=dw.2 (.inr (List.mem_flatMap.2 ⟨_,List.mem_singleton.2 j,i⟩));rcases s v i with b|b
   .exact⟨p,λ_ t=>absurd t (by omega),b.2⟩
   .exact⟨p,b.2⟩
 .cases hm
theorem eQ.fi(i:eQ g h H aP z)(a:gF aP z)(s:eF):Next g h z (z.fi g s).1:=by
 unfold aS.fi;split
 .exact i.here a
 .rename_i b;have t:¬s.node<0:=λe=>b (.inl e)
  have l:(z.rep s.node).isSome=false:=by
   cases e:(z.rep s.node).isSome with
   |false=>rfl
   |true=>exact(b (.inr (.inr e))).elim
  have br:(h:Int)<=s.node:=by
   refine Int.not_lt.1 λu=>?_
   obtain⟨x,d⟩:=i.sk s.node.toNat (by omega);unfold aS.rep at l;rw [a6 (by omega),d] at l;cases l
  split
  .exact i.here a
  .rename_i m hm;obtain⟨n,o⟩:=FF (h:=h) (H:=H) (aP:=aP) i.heard br hm;split
   .have f:∀c∈aP,c∈aP++gi [m]:=λc b=>dw.2 (.inl b)
    have r:eQ g h H (aP++gi [m]) z:={i with bu:=λk x d=>⟨(i.bu k x d).1.mono (λc b=>b) f (λc b _=>b),(i.bu k x d).2⟩,bz:=λm hm=>⟨(i.bz m hm).1,(i.bz m hm).2.mono (λc b=>b) f⟩,heard:=λm hm=>⟨(i.heard m hm).1,(i.heard m hm).2.mono (λc b=>b) f⟩};exact⟨_,_,r.put (λq p=>by rw [fT.1 p];exact⟨n,o⟩),a.put [m],jB.same j⟩
   .split
    .exact i.here a
    .split
     .exact i.quiet a j j j j
     .exact i.here a
theorem eQ.bY(c:g.ok)(b:2<=g.n)(i:eQ g h H aP z)(a:gF aP z)(s:eF):Next g h z (z.bY g s).1:=by
 unfold aS.bY;split
 .exact i.f0 c b a s
 .split
  .exact i.asks c b a _ _
  .split
   .exact i.gx c b a s
   .split
    .exact i.fx c b a s
    .split
     .exact i.fi a s
     .split
      .exact i.quiet a j j j j
      .exact i.here a
end
theorem aS.df.CK{g:am}{N M L:Nat}{z:aS}(c:g.ok)(b:773<=N)(h:z.df g (λ_=>N) M L)(I:bA)(J:Nat):(z.fQ g I J).df g (λ_=>N+6) M (L+420000):=by
 have a:z.df g (λ_=>N+6) M L:=h.more (λ_=>gG _ _) (cD _) (cD _);unfold aS.fQ;split
 .rename_i x d;obtain⟨aa,hm⟩:=h.iz J x d;exact(a.kz d (x:=(x.ask g I).1) (aa.ask c b I) ((bk.xg x I).trans hm)).g6 (bk.ul c aa b I)
 .exact a.more (λ_=>cD _) (cD _) (gG _ _)
def aS.ho(g:am)(I:bA)(z:aS)(l:List (Int×Value)):aS:=l.foldl (λz q=>z.fQ g I q.1.toNat) z
theorem aS.CM(g:am)(I:bA)(z:aS)(l:List (Int×Value))(q:Int×Value):z.ho g I (l++[q])=(z.ho g I l).fQ g I q.1.toNat:=by unfold aS.ho;rw [List.foldl_append];rfl
theorem aS.df.ho{g:am}{M:Nat}(a:g.ok)(I:bA):∀(l:List (Int×Value)){z:aS}{N L:Nat},773<=N->z.df g (λ_=>N) M L->(z.ho g I l).df g (λ_=>N+6*l.length) M (L+420000*l.length)
 |[],_,_,_,_,h=>h
 |q::r,z,N,L,d,h=>by
  have b:=h.CK a d I q.1.toNat;have c:=aS.df.ho a I r (N:=N+6) (by omega) b;exact c.more (λ_=>by rw [ez];omega) (cD _) (by rw [ez];omega)
theorem aS.xe(g:am)(I:bA)(z:aS)(J:Nat):(z.fQ g I J).parts=z.parts/\(z.fQ g I J).cJ=z.cJ/\(z.fQ g I J).bu.length=z.bu.length/\∀i:Nat,(∀x,z.bu[i]?≠some (some x))->∀x,(z.fQ g I J).bu[i]?≠some (some x):=by
 unfold aS.fQ;split
 .rename_i x d;refine⟨j,j,hx ..,λi a y b=>?_⟩;have b:(z.bu.set J (some (x.ask g I).1))[i]? =some (some y):=b;by_cases c:J=i
  .subst c;exact a x d
  .rw [nW c] at b;exact a y b
 .exact⟨j,j,j,λi a=>a⟩
theorem aS.xf(g:am)(I:bA):∀(l:List (Int×Value))(z:aS),(z.ho g I l).parts=z.parts/\(z.ho g I l).cJ=z.cJ/\(z.ho g I l).bu.length=z.bu.length
 |[],_=>⟨j,j,j⟩
 |q::r,z=>by
  obtain⟨a,b,c,_⟩:=aS.xe g I z q.1.toNat;obtain⟨d,e,f⟩:=aS.xf g I r (z.fQ g I q.1.toNat);exact⟨d.trans a,e.trans b,f.trans c⟩
theorem aS.CL{g:am}{I:bA}{z:aS}{J:Nat}(h:∀x,z.bu[J]?≠some (some x)):z.fQ g I J=z:=by
 unfold aS.fQ;split
 .rename_i x a;exact(h x a).elim
 .rfl
theorem vf(g:am)(I:bA):∀(U:List Value)(k:Nat)(z:aS),(∀i:Nat,i<U.length->U[i]? =some (.pointer none)->∀x,z.bu[k+i]?≠some (some x))->z.ho g I (fe k U)=(List.range' k U.length).foldl (aS.fQ g I) z
 |[],_,_,_=>rfl
 |v::r,k,z,h=>by
  rw [fe,ez,List.range'_succ,hQ];split
  .rename_i a;have c:v= .pointer none:=by unfold nq at a;split at a;rfl;cases a
   rw [aS.CL (J:=k) (λx=>by have:=h 0 (by simp) (by rw [c];rfl) x;simpa using this)];exact vf g I r (k+1) z (λi b aJ x=>by have:=h (i+1) (by simp;omega) (by simpa using aJ) x;rwa [show k+(i+1)=k+1+i by omega] at this)
  .show(aS.ho g I (z.fQ g I ((k:Int).toNat)) (fe (k+1) r))=_;rw [lB];refine vf g I r (k+1) _ (λi b aJ x=>(aS.xe g I z k).2.2.2 (k+1+i) (λy=>?_) x);have:=h (i+1) (by simp;omega) (by simpa using aJ) y
   rwa [show k+(i+1)=k+1+i by omega] at this
theorem sl:∀{U:List Value}{k:Nat}{q:Int×Value},q∈fe k U->∃i:Nat,q.1=((k+i:Nat):Int)/\U[i]? =some q.2/\nq q.2=false
 |[],_,_,h=>by cases h
 |v::r,k,q,h=>by
  rw [fe] at h;split at h
  .obtain⟨i,a,b,c⟩:=sl h;exact⟨i+1,by rw [a];congr 1;omega,by simpa using b,c⟩
  .rename_i d;rcases g0.1 h with rfl|h
   .exact⟨0,j,j,by simpa using d⟩
   .obtain⟨i,a,b,c⟩:=sl h;exact⟨i+1,by rw [a];congr 1;omega,by simpa using b,c⟩
theorem vg:∀(U:List Value)(k:Nat),(fe k U).length<=U.length
 |[],_=>cD _
 |v::r,k=>by
  rw [fe];have:=vg r (k+1);split
  .rw [ez];omega
  .rw [ez,ez];omega
theorem h5.nil{g:am}{U:List Value}{xs:List (Option bk)}{H:List Chunk}(h:ed (h5 g) U xs H){i:Nat}(a:U[i]? =some (.pointer none)):∀x,xs[i]?≠some (some x):=λx b=>by
 have d:i<xs.length:=(eY.1 b).1;obtain⟨v,_,_,_,e,_,c,_⟩:=h.at i d;rw [e] at a;have j:xs[i]=some x:=by rw [cf d] at b;exact hz b
 rw [j] at c;obtain⟨k,f,_⟩:=c;rw [f] at a;cases a
theorem h5.some{g:am}{v:Value}{I:Option bk}{G:List Chunk}(h:h5 g v I G)(b:nq v=false):∃x a,I= .some x/\v= .pointer (.some ⟨a,0,none⟩)/\g8 g a x G:=by
 cases I with
 |none=>rw [h.1] at b;cases b
 |some x=>obtain⟨a,c,d⟩:=h;exact⟨x,a,j,c,d⟩
theorem rY{o:World}{g:am}{aQ:Nat}{z:aS}{G:List Chunk}{I:bA}{e:Int}(aF:eR g aQ z G){N M L:Nat}(aa:z.df g (λ_=>N) M L)(aW:773<=N)(bw:N+150<=1000000)(bv:L+4200000<=1000000000)(aG:g.at o)(T:g.ok)(an:g.off (au [G]))(d:Own [G] o):Calls prog 36 #[ab aQ,.agg I.cs.toArray,ad e] o λr w=>r=ad (z.asks g I e).2/\∃ai,eR g aQ (z.asks g I e).1 ai/\C o (au [G]) [ai] w:=by
 have aX:=aF;obtain⟨c,cG,bQ,dx,s,t,u,rfl⟩:=aF;obtain⟨n,aE⟩:∃n,n=au [bj g aQ c++(cG++(bQ++(dx++(s++t))))]:=⟨_,j⟩;rw [<-aE] at an⊢;have d:C o n [bj g aQ c++(cG++(bQ++(dx++(s++t))))] o:=aE▸d;have d:=d.zI;refine j0 func36 (bM 2 d j j (λk w d=>bM 0 d j j (λm w d=>?_)));have d:C o n [bD m I,R k #[ab aQ] 24,bj g aQ c,cG,bQ,dx,s,t] w:=d;refine bm 6 j j (λX=>?_) (λX=>?_)
 .refine bI 4 j ⟨ad e,λw ar=>?_⟩;have d:=ar.st d (cD _);refine⟨λa af=>i7 (fn:=f36) af j _ _,?_⟩;have bg:z.asks g I e=(z,e):=a6 (by simpa using X);rw [bg];have d:C o n [bj g aQ c,cG,bQ,dx,s,t] w:=d.as;exact⟨j,_,aX,d.so⟩
 refine al 4 j (aw (C.ak (b:=k) d) j) ?_;obtain⟨ag,P,U,rfl,J,Q⟩:=u.bu;have ax:=Q.len;have a8:0<z.bu.length:=by obtain⟨i,x,be⟩:=aa.some_;have:=(eY.1 be).1;omega
 have bE:z.bu.length<=10:=by rw [aa.bu];exact T.n10
 obtain⟨l,cap,cur,S,rfl,bG⟩:=Row.block J a8;rw [S] at J;rw [<-ax] at S J;have bb:=Q.qQ;refine bh 0 (yF (o:=w) (aQ:=aQ)) j (λr w⟨az,ap,F⟩=>?_);subst ap;have d:=d.aM F;have d:C o n [R az #[ab aQ] 24,bD m I,R k #[ab aQ] 24,bj g aQ c,R l cur 40,P,bQ,dx,s,t] w:=C.perm (A:=[R az #[ab aQ] 24,bD m I,R k #[ab aQ] 24,bj g aQ c,R l cur 40++P,bQ,dx,s,t]) d.as (by simp);have d:C o n ([R az #[ab aQ] 24]++[bD m I,R k #[ab aQ] 24,bj g aQ {c with heard:=c.heard},R l cur 40,P,bQ,dx,s,t]) w:=d
 refine j4 1 j (yE (g:=g) (aQ:=aQ) (c:=c) S J bb (by omega)) j (by have:=d.size;simpa using this) d j (λ_=>rfl) (by intro p u;simp at u;rcases u with rfl|rfl<;>rfl)
  (λpre ae=>∃f H a7 bx,ae=[bD m I,R k #[ab aQ] 24,bj g aQ {c with heard:=f},R l cur 40,H,bQ,dx,a7,bx]/\ed (h5 g) U (z.ho g I pre).bu H/\g7 c.bz (z.ho g I pre).bz (z.ho g I pre).lost a7/\cz f (z.ho g I pre).heard bx/\pre.length<=10) (λ_ _=>False) ⟨c.heard,P,s,t,j,Q,u.bz,u.heard,b6 _⟩ (λL aK D=>by have Y:=D.cg (C.ak (b:=aQ) d);exact Y) (λpre ae L a1=>by obtain⟨f,H,a7,bx,rfl,_⟩:=a1;simp) ?_ ?_ (λ_ _ h=>h.elim) (λ_ _ _ h=>h.elim)
 .rintro y pre ⟨K,bq⟩ br aR bJ aD ⟨f,H,a7,bx,rfl,D,Z,ac,ba⟩ d;obtain⟨i,a5,av,a9⟩:=sl (q:=(K,bq)) (by obtain⟨bl,aq⟩:=aD;rw [aq];simp);have aj:=aS.df.ho T I pre aW aa;have d:=C.gy d;refine bI 2 j (⟨j,_,d,λaR aB d=>?_⟩);have a4:=aG.st d an;have ao:g.off (au [bD m I,R k #[ab aQ] 24,bj g aQ {c with heard:=f},R l cur 40,H,bQ,dx,a7,bx]):=(aG.apart d an).sub (λb ah=>np.2 (.inr (np.2 (.inl ah))));have d:=C.gy d;have bC:i<U.length:=(eY.1 av).1;have aH:i<(z.ho g I pre).bu.length:=by have:=D.len;omega
  obtain⟨v,H1,E,B,Y,rfl,a2,bc⟩:=D.at i aH;rw [Y] at av;cases av;obtain⟨x,aO,bf,rfl,aZ⟩:=a2.some a9;have aL:(z.ho g I pre).bu[i]? =some (some x):=by rw [cf aH,bf]
  obtain⟨aN,_⟩:=aj.iz i x aL
  have bF:pre.length+1<=U.length:=by
   obtain⟨bl,aq⟩:=aD;have aC:=vg U 0;rw [aq] at aC;simp at aC;omega
  have ao:g.off (au [bD m I,R k #[ab aQ] 24,bj g aQ {c with heard:=f},R l cur 40,H1,E,B,bQ,dx,a7,bx]):=ao.sub (λb ah=>by simpa [au,or_assoc] using ah);have d:C aB (au [bD m I,R k #[ab aQ] 24,bj g aQ {c with heard:=f},R l cur 40,H1++(E++B),bQ,dx,a7,bx]) [bD m I,R k #[ab aQ] 24,bj g aQ {c with heard:=f},R l cur 40,H1,E,B,bQ,dx,a7,bx] aB:=d.perm (by simp);refine bN 4 (U:=I.cs) j j j (bp (C.ak (b:=m) d)) (bh 0 (CN (I:=I) aZ aN (by omega) (by omega) a4 T (ao.sub (fI (by simp))) (d.ours (cI:=[E]))) j (λr w⟨bH,aP,O,ap,bd,a0,F⟩=>?_));subst ap;have d:=d.b3 F;refine al 6 j (aw (C.ak (b:=k) d) j) ?_;have a3:=sU (g:=g) (aQ:=aQ) (c:={c with heard:=f}) Z ac bd (by have:=aj.lost;omega) (by have:=(bk.ul T aN (by omega) I).2;omega) aj.heard (d.ours (cI:=[bj g aQ {c with heard:=f},a7,bx,aP]));refine bo 1 a3 j (λw⟨aA,V,W,aT,aU,F⟩=>?_);have d:=d.b3 F;refine bI 0 j ?_
  have ay:z.ho g I (pre++[(K,ab aO)])=aS.g6 {z.ho g I pre with bu:=(z.ho g I pre).bu.set i (some (x.ask g I).1)} (x.ask g I).2.1:=by
   rw [aS.CM];have e:K.toNat=i:=by have bt:K=((0+i:Nat):Int):=a5;omega
   show aS.fQ g I (z.ho g I pre) K.toNat=_;rw [e];unfold aS.fQ;rw [aL]
  have aV:=bc (some (x.ask g I).1) O ⟨aO,j,a0⟩;refine⟨[bD m I,R k #[ab aQ] 24,bj g aQ {c with heard:=aA},R l cur 40,H1++(O++B),bQ,dx,V,W],?_,aA,H1++(O++B),V,W,j,by rw [ay];exact aV,by rw [ay];exact aT,by rw [ay];exact aU,by rw [b4,List.length_singleton];omega⟩;have d:C aB (au [bD m I,R k #[ab aQ] 24,bj g aQ {c with heard:=f},R l cur 40,H1++(E++B),bQ,dx,a7,bx]) [bD m I,R k #[ab aQ] 24,bj g aQ {c with heard:=aA},R l cur 40,H1,O,B,bQ,dx,V,W] w:=d.as;exact d.perm (by simp)
 rintro xs bs w aY ⟨f,H,a7,bx,rfl,D,Z,ac,ba⟩ d;subst aY
 have bi:z.asks g I e=(z.ho g I (fe 0 U),0):=by
  unfold aS.asks;rw [aI (by simpa using X),vf g I U 0 z (λi bB aJ x=>by rw [Nat.zero_add];exact h5.nil Q aJ x),<-List.range_eq_range',ax]
 rw [bi];refine bI 3 j ⟨ad 0,λw ar=>?_⟩;have d:=ar.st d (cD _);refine⟨λa af=>i7 (fn:=f36) af j _ _,?_⟩;have d:C o n [bj g aQ {c with heard:=f},R l cur 40,H,bQ,dx,a7,bx] w:=d.as;obtain⟨s1,s2,bn⟩:=aS.xf g I (fe 0 U) z;refine⟨j,_,⟨{c with heard:=f},R l cur 40++H,bQ,dx,a7,bx,⟨⟨_,_,U,j,?_,D⟩,by rw [s1];exact u.parts,by rw [s2];exact u.cJ,Z,ac⟩,j⟩,C.perm (A:=[bj g aQ {c with heard:=f},R l cur 40,H,bQ,dx,a7,bx]) d (by simp)⟩;show Row 40 1 c.bu _ U _;rw [S,bn,<-ax];exact J
structure hP where
 X:Option Addr
 bR:Nat
 Y:Option Addr
 k4:Nat
 aP:Option Addr
 dT:Nat
abbrev c7(s:eF)(a:hP):List Value:=[ad s.k,ad s.node,ad s.n,.slice a.X s.x.length a.bR]++gq s.eT a.Y a.k4 a.aP a.dT
structure h3(s:eF)(a:hP)(F:List Nat)(w:World):Prop where
 x:Rd w a.X (aG s.x)
 ox:bX a.X (aG s.x) F
 pI:s.x.length<=a.bR
 y:Rd w a.Y (aG s.eT.x)
 ri:bX a.Y (aG s.eT.x) F
 rj:s.eT.x.length<=a.k4
 u:Rd w a.aP (s.eT.use.map bL)
 q8:bX a.aP (s.eT.use.map bL) F
 q9:s.eT.use.length<=a.dT
 ra:s.eT.use.length<=maxLen
theorem h3.st{s:eF}{a:hP}{F eJ:List Nat}{w aK:World}{ae:List (List Chunk)}(h:h3 s a F w)(d:C w eJ ae aK)(c:∀b∈eJ,b∈F):h3 s a F aK:=
 ⟨d.rd h.x (h.ox.sub c),h.ox,h.pI,d.rd h.y (h.ri.sub c),h.ri,h.rj,d.rd h.u (h.q8.sub c),h.q8,h.q9,h.ra⟩
theorem h3.sub{s:eF}{a:hP}{F eJ:List Nat}{w:World}(h:h3 s a F w)(c:∀b∈eJ,b∈F):h3 s a eJ w:=
 ⟨h.x,h.ox.sub c,h.pI,h.y,h.ri.sub c,h.rj,h.u,h.q8.sub c,h.q9,h.ra⟩
theorem h3.apart{s:eF}{a:hP}{F:List Nat}{w aK:World}{ae:List (List Chunk)}(h:h3 s a F w)(b:C w F ae aK):h3 s a (au ae) aK:=
 ⟨b.rd h.x h.ox,b.apart h.x h.ox,h.pI,b.rd h.y h.ri,b.apart h.y h.ri,h.rj,b.rd h.u h.q8,b.apart h.u h.q8,h.q9,h.ra⟩
def lu(g:am)(aQ:Nat)(z:aS)(i aN:Nat)(G:List Chunk):Prop:=∃(c:cd)(cG bQ a7 bx ag H:List Chunk)(U:List Value),wT g z c cG bQ (ag++H) a7 bx/\Row 86 1 c.cJ z.cJ.length U ag/\ed l0 U z.cJ H/\U[i]? =some (ab aN)/\G=bj g aQ c++(cG++(bQ++((ag++H)++(a7++bx))))
theorem lu.rep{g:am}{aQ:Nat}{z:aS}{i aN:Nat}{G:List Chunk}(h:lu g aQ z i aN G):eR g aQ z G:=by
 obtain⟨c,cG,bQ,a7,bx,ag,H,U,a,_,_,_,rfl⟩:=h;exact⟨c,cG,bQ,_,a7,bx,a,j⟩
theorem bG.yL(e:bG):e.init.1.parts=e.parts:=by
 unfold bG.init;split
 .split<;>rfl
 .rfl
theorem lu.open{g:am}{aQ:Nat}{z:aS}{i aN:Nat}{G:List Chunk}{p:bG×Int}(h:lu g aQ z i aN G)(f:z.cJ[i]? =some p):∃(c:cd)(cG bQ a7 bx ag H1 d GE:List Chunk)(az:Nat),h1 az p.1 GE/\G=bj g aQ c++(cG++(bQ++((ag++(H1++((de aN az p.2++GE)++d)))++(a7++bx))))/\
 (∀a b,h1 az a.1 b->lu g aQ (z.fM i a) i aN (bj g aQ c++(cG++(bQ++((ag++(H1++((de aN az a.2++b)++d)))++(a7++bx)))))):=by
 obtain⟨c,cG,bQ,a7,bx,ag,H,U,e,y,u,q,rfl⟩:=h;have n:i<z.cJ.length:=(eY.1 f).1;obtain⟨v,H1,A,d,k,rfl,l,x⟩:=u.at i n;rw [k] at q;cases q;have w:z.cJ[i]=p:=by rw [cf n] at f;exact hz f
 rw [w] at l;obtain⟨B,az,GE,r,s,rfl⟩:=l;cases r;refine⟨c,cG,bQ,a7,bx,ag,H1,d,GE,az,s,j,λa b t=>?_⟩;have m:=x a (de aN az a.2++b) ⟨aN,az,b,j,t,j⟩
 have o:Row 86 1 c.cJ (z.fM i a).cJ.length U ag:=by
  show Row 86 1 c.cJ (z.cJ.set i a).length U ag;rw [hx];exact y
 exact⟨c,cG,bQ,a7,bx,ag,_,U,⟨e.bu,e.parts,⟨ag,_,U,j,o,m⟩,e.bz,e.heard⟩,o,m,k,j⟩
theorem Ci{o:World}{g:am}{aQ:Nat}{z:aS}{G:List Chunk}{s:eF}{a:hP}(t:eR g aQ z G){N M L:Nat}(aa:z.df g (λ_=>N) M L)(p:773<=N)(q:N+150<=1000000)(m:L+4200000<=1000000000)(x:g.at o)(y:g.ok)(l:g.off (au [G]))(d:Own [G] o):Calls prog 19 #[ab aQ,.agg (c7 s a).toArray] o λr w=>r=ad (z.rV g s).2/\∃ai,eR g aQ (z.rV g s).1 ai/\C o (au [G]) [ai] w:=by
 obtain⟨e,h⟩:∃e,e=au [G]:=⟨_,j⟩;have A:g.off e:=h▸l;rw [<-h];have d:C o e [G] o:=h▸d;refine a2 func19 (bM 2 d j j (λk w d=>?_));have d:C o e [R k (c7 s a).toArray 33,G] w:=d;refine al 4 j (aw (C.ak (b:=k) d) j) (cP (c:=(mJ s.n).cs.toArray) j j j (λ_=>by kernel_rfl) (cl 0 d j (λf w d=>ck 0 (d.bc f) j j j j j (λw d=>?_))));have d:=C.whole (U:=((mJ s.n)).cs) d j;have d:C o e (bD f (mJ s.n)::_) w:=d;refine bN 2 (U:=(mJ s.n).cs) j j j (bp (C.ak (b:=f) d)) (bh 0 (uO (o:=w) (I:=mJ s.n)) j (λr w⟨v,D,B,E,i⟩=>?_));subst B;have d:=d.aM i;refine bN 8 (U:=(mJ s.n).cs) j j j (bp (C.ak (b:=f) d)) (bo 1 (rY (I:=mJ s.n) t aa p q m (x.st d A) y l (d.ours (cI:=[G]))) j (λw⟨ai,u,i⟩=>?_));have d:=d.b3 i;exact ao 1 j j ⟨j,ai,u,d.as⟩
theorem EV{o:World}{g:am}{aQ:Nat}{z:aS}{G:List Chunk}{i aN:Nat}{p:bG×Int}(O:lu g aQ z i aN G)(E:z.cJ[i]? =some p){N M L:Nat}(aa:z.df g (λ_=>N) M L)(J:773<=N)(K:N+150<=1000000)(H:L+4200000<=1000000000)(B:g.at o)(Q:g.ok)(R:g.off (au [G]))(a:Own [G] o):Calls prog 35 #[ab aQ,ab aN] o λr w=>r=ad (z.inits g i p).2/\∃ai,eR g aQ (z.inits g i p).1 ai/\C o (au [G]) [ai] w:=by
 obtain⟨d,m⟩:∃d,d=au [G]:=⟨_,j⟩;have D:g.off d:=m▸R;rw [<-m];have a:C o d [G] o:=m▸a;have t:p.1.ok:=aa.kq p (hk E);obtain⟨c,cG,bQ,a7,bx,ag,H1,k,GE,az,F,rfl,y⟩:=O.open E;obtain⟨u,h,v,rfl⟩:=F;have a:C o d [bj g aQ c,cG,bQ,ag,H1,de aN az p.2,bC az p.1 u,h,k,a7,bx] o:=a.perm (by simp);refine a2 func35 (al 8 j (aw (C.ak (b:=aN) a) j) (bo 0 (EU (az:=az) (e:=p.1) (u:=u) t.next t.name (a.ours (cI:=[bC az p.1 u]))) j (λw n=>?_)));have a:=a.b3 n;refine cl 3 a j (λf w a=>?_);have a:C o d (bD f dd::_) w:=a;refine ck 0 (a.bc f) j j j j j (λw a=>?_);have a:=C.whole (U:=p.1.init.2.1.cs) a j;have a:C o d (bD f p.1.init.2.1::_) w:=a;refine bm 6 j j (λl=>?_) (λl=>?_);refine al 3 j (aw (C.ak (b:=f) a) j) (dB 2 (a.bc aN) j j j j (λw a=>?_));have a:C o d (de aN az p.1.init.2.1.s::_) w:=a;have q:(p.1.init.1,if p.1.init.2.2=0 then p.1.init.2.1.s else p.2)=(p.1.init.1,p.1.init.2.1.s):=aH (Prod.mk p.1.init.1) (a6 (by simpa using l))
 obtain⟨aA,x,a⟩:∃aA,eR g aQ (z.fM i (p.1.init.1,if p.1.init.2.2=0 then p.1.init.2.1.s else p.2)) aA/\C o d [aA,bD f p.1.init.2.1] w:=by
  rw [q];have a:C o d [bj g aQ c,cG,bQ,ag,H1,de aN az p.1.init.2.1.s,bC az p.1.init.1 u,h,k,a7,bx,bD f p.1.init.2.1] w:=a.as;exact⟨_,(y (p.1.init.1,p.1.init.2.1.s) _ ⟨u,h,by rw [bG.yL];exact v,j⟩).rep,C.perm (A:=[bj g aQ c,cG,bQ,ag,H1,de aN az p.1.init.2.1.s,bC az p.1.init.1 u,h,k,a7,bx,bD f p.1.init.2.1]) a (by simp)⟩
 refine bN 3 (U:=p.1.init.2.1.cs) j j j (bp (C.ak (b:=f) a)) ?_;rotate_left
 have q:(p.1.init.1,if p.1.init.2.2=0 then p.1.init.2.1.s else p.2)=(p.1.init.1,p.2):=aH (Prod.mk p.1.init.1) (aI (by simpa using l))
 obtain⟨aA,x,a⟩:∃aA,eR g aQ (z.fM i (p.1.init.1,if p.1.init.2.2=0 then p.1.init.2.1.s else p.2)) aA/\C o d [aA,bD f p.1.init.2.1] w:=by
  rw [q];have a:C o d [bj g aQ c,cG,bQ,ag,H1,de aN az p.2,bC az p.1.init.1 u,h,k,a7,bx,bD f p.1.init.2.1] w:=a.as;exact⟨_,(y (p.1.init.1,p.2) _ ⟨u,h,by rw [bG.yL];exact v,j⟩).rep,C.perm (A:=[bj g aQ c,cG,bQ,ag,H1,de aN az p.2,bC az p.1.init.1 u,h,k,a7,bx,bD f p.1.init.2.1]) a (by simp)⟩
 refine bN 4 (U:=p.1.init.2.1.cs) j j j (bp (C.ak (b:=f) a)) ?_;rotate_left
 all_goals
  refine bo 1 (rY (I:=p.1.init.2.1) x (aa.fM t.init) J K H (B.st a D) Q (a.eE B D) (a.ours (cI:=[aA]))) j (λw⟨ai,P,n⟩=>?_);have a:=a.b3 n;exact ao 1 j j ⟨j,ai,P,a.as⟩
theorem lu.GA{g:am}{aQ:Nat}{z:aS}{i aN:Nat}{G:List Chunk}{p:bG×Int}(h:lu g aQ z i aN G)(k:z.cJ[i]? =some p):∃(c:cd)(cG bQ a7 bx ag H1 e GE:List Chunk)(az:Nat),h1 az p.1 GE/\pW 35 (jv g) c.parts z.parts bQ/\G=bj g aQ c++(cG++(bQ++((ag++(H1++((de aN az p.2++GE)++e)))++(a7++bx))))/\
 (∀a b l d,pW 35 (jv g) c.parts l d->h1 az a.1 b->eR g aQ {z.fM i a with parts:=l} (bj g aQ c++(cG++(d++((ag++(H1++((de aN az a.2++b)++e)))++(a7++bx)))))):=by
 obtain⟨c,cG,bQ,a7,bx,ag,H,U,f,B,u,o,rfl⟩:=h;have n:i<z.cJ.length:=(eY.1 k).1;obtain⟨v,H1,D,e,q,rfl,m,A⟩:=u.at i n;rw [q] at o;cases o;have y:z.cJ[i]=p:=by rw [cf n] at k;exact hz k
 rw [y] at m;obtain⟨E,az,GE,r,s,rfl⟩:=m;cases r;refine⟨c,cG,bQ,a7,bx,ag,H1,e,GE,az,s,f.parts,j,λa b l d x t=>?_⟩;have w:=A a (de aN az a.2++b) ⟨aN,az,b,j,t,j⟩
 have C:Row 86 1 c.cJ (z.cJ.set i a).length U ag:=by
  rw [hx];exact B
 exact⟨c,cG,d,_,a7,bx,⟨f.bu,x,⟨ag,_,U,j,C,w⟩,f.bz,f.heard⟩,j⟩
theorem ed.vZ{g:am}:∀{U:List Value}{xs:List cy}{G:List Chunk},ed (jv g) U xs G->∀v∈U,∃p,v= .pointer p
 |[],_,_,_=>by intro v a;cases a
 |u::us,[],_,h=>h.elim
 |u::us,x::xs,_,⟨_,_,_,hu,h⟩=>by
  intro v a;rcases g0.1 a with rfl|a
  .obtain⟨c,b,_⟩:=hu;exact⟨_,b⟩
  .exact h.vZ v a
theorem bG.He{e:bG}(h:e.ok){n:Int}{x:List UInt8}(a:(e.record n x).2.2=0):0<=n/\n<=3:=by
 unfold bG.record at a;split at a
 .cases a
 .rename_i q c;have b:n∈e.parts.map Prod.fst:=dO.2 ⟨_,hF c,j⟩;rw [h.keys] at b;simp at b;omega
theorem Hf{o:World}{g:am}{aQ:Nat}{z:aS}{G:List Chunk}{i aN:Nat}{p:bG×Int}{s:eF}{a:hP}(aL:lu g aQ z i aN G)(aE:z.cJ[i]? =some p)(al:h3 s a (au [G]) o){N M L:Nat}(aa:z.df g (λ_=>N) M L)(aZ:773<=N)(a0:N+150<=1000000)(aY:M+10000<=1000000)(aX:L+4200000<=1000000000)(a3:g.at o)(a5:g.ok)(aP:g.off (au [G]))(d:Own [G] o):Calls prog 38 #[ab aQ,.agg (c7 s a).toArray,ab aN] o λr w=>r=ad (z.records s i p).2/\∃ai,eR g aQ (z.records s i p).1 ai/\C o (au [G]) [ai] w:=by
 obtain⟨e,Y⟩:∃e,e=au [G]:=⟨_,j⟩;have a9:g.off e:=Y▸aP;rw [<-Y] at al⊢;have d:C o e [G] o:=Y▸d;have ap:p.1.ok:=aa.kq p (hk aE);obtain⟨c,cG,bQ,a7,bx,ag,H1,q,GE,az,aA,aB,rfl,ah⟩:=aL.GA aE;have d:C o e [bj g aQ c,cG,bQ,ag,H1,de aN az p.2,GE,q,a7,bx] o:=d.perm (by simp);refine a2 func38 (bM 2 d j j (λf w d=>?_));have d:C o e [R f (c7 s a).toArray 33,bj g aQ c,cG,bQ,ag,H1,de aN az p.2,GE,q,a7,bx] w:=d;have d:C o e ([R f (c7 s a).toArray 33,de aN az p.2]++_) _:=d.front;have d:=d.drew;refine bw 2 j (λw=>∃ae,C o e ([R f (c7 s a).toArray 33,de aN az p.2]++ae) w) ⟨_,d⟩ (af 0 3 j (a8 3 j a1 j (af 4 1 j (a8 5 j a1 j (af 6 1 j (a8 7 j a1 j (aO 8 12 j j ?_ ?_)))))));have J:=al.apart d;refine cN j j j (z9 (n:=s.n) (hb:=a.bR) aA ap.po J.x (J.ox.sub (fI (by simp))) (d.ours (cI:=[GE]))) (λr w⟨u,I,F,hu,m,O,H⟩=>?_);subst F;obtain⟨l,t,rfl,aD,_⟩:=Row.form hu;have d:=d.b3 H;have d:C o e ([R f (c7 s a).toArray 33,de aN az p.2]++_) w:=d.front;refine ar ⟨⟨_,d⟩,?_⟩;refine af 9 3 j (aU 12 j (ex d j j (λk w d=>?_)));have d:C o e (R k (rcc eU (.slice none 0 0)).toArray 169::_) w:=d;have d:C o e ([R f (c7 s a).toArray 33,de aN az p.2]++_) w:=d.front;refine ar ⟨⟨_,d⟩,?_⟩;rotate_left
 refine ex d j j (λk w d=>?_);have d:C o e (R k (rcc eU (.slice none 0 0)).toArray 169::_) w:=d;have d:C o e ([R f (c7 s a).toArray 33,de aN az p.2]++_) w:=d.front;refine ar ⟨⟨_,d⟩,?_⟩;refine aU 8 j ?_;have J:=al.apart d;refine cN j j j (z9 (n:=s.n) (hb:=a.bR) aA ap.po J.x (J.ox.sub (fI (by simp))) (d.ours (cI:=[GE]))) (λr w⟨u,I,F,hu,m,O,H⟩=>?_);subst F;obtain⟨l,t,rfl,aD,_⟩:=Row.form hu;have d:=d.b3 H;have d:C o e ([R f (c7 s a).toArray 33,de aN az p.2]++_) w:=d.front;refine ar ⟨⟨_,d⟩,?_⟩;refine af 9 3 j ?_;rotate_left
 all_goals
  refine aU 13 j (c4 (d.bc k) j j j j j bJ (λw d=>?_));have d:=C.whole (U:=rcc (p.1.record s.n s.x).2.1 (.slice l (p.1.record s.n s.x).2.1.x.length t)) d j;have d:C o e ([(k,.cells (rcc (p.1.record s.n s.x).2.1 (.slice l (p.1.record s.n s.x).2.1.x.length t)).toArray 169 (0,0))]::_) w:=d;have d:C o e ([R f (c7 s a).toArray 33,de aN az p.2]++_) w:=d.front;refine ar ⟨⟨_,d⟩,?_⟩;refine af 14 1 j (bK (bm 5 j j (λW=>?_) (λW=>?_)))
  .refine ao 4 j j ?_;have K:z.records s i p=(z.fM i ((p.1.record s.n s.x).1,p.2),(p.1.record s.n s.x).2.2):=a6 (by simpa using W);rw [K];have d:C o e [bj g aQ c,cG,bQ,ag,H1,de aN az p.2,m,q,a7,bx] _:=d.as;exact⟨j,_,ah ((p.1.record s.n s.x).1,p.2) m z.parts bQ aB O,C.perm (A:=[bj g aQ c,cG,bQ,ag,H1,de aN az p.2,m,q,a7,bx]) d (by simp)⟩
  obtain⟨h,aw,aG,rfl,aq,Z⟩:=aB;have d:C o e [R f (c7 s a).toArray 33,[(k,.cells (rcc (p.1.record s.n s.x).2.1 (.slice l (p.1.record s.n s.x).2.1.x.length t)).toArray 169 (0,0))],bj g aQ c,cG,h,aw,ag,H1,de aN az p.2,m,q,a7,bx,I] _:=C.perm (A:=[R f (c7 s a).toArray 33,[(k,.cells (rcc (p.1.record s.n s.x).2.1 (.slice l (p.1.record s.n s.x).2.1.x.length t)).toArray 169 (0,0))],bj g aQ c,cG,h++aw,ag,H1,de aN az p.2,m,q,a7,bx,I]) d.as (by simp);have d:C o e ([R f (c7 s a).toArray 33,bj g aQ c,h,[(k,.cells (rcc (p.1.record s.n s.x).2.1 (.slice l (p.1.record s.n s.x).2.1.x.length t)).toArray 169 (0,0))]]++_) _:=d.front;have d:=d.drew;have aj:(p.1.record s.n s.x).2.2=0:=by simpa using W
  refine bw 2 j (λw=>∃ae,C o e ([R f (c7 s a).toArray 33,bj g aQ c,h,[(k,.cells (rcc (p.1.record s.n s.x).2.1 (.slice l (p.1.record s.n s.x).2.1.x.length t)).toArray 169 (0,0))]]++ae) w) ⟨_,d⟩ (af 0 2 j (a8 2 j a1 j (aT 4 j (λw⟨_,d⟩=>c3 (U:=rcc (p.1.record s.n s.x).2.1 (.slice l (p.1.record s.n s.x).2.1.x.length t)) j j j (bp (C.ak (b:=k) d))) (aU 3 j ?_))));obtain⟨an,a4⟩:=bG.He ap aj;have Q:s.n.toNat<z.parts.length:=by rw [aa.parts];omega
  obtain⟨v,D,T,E,aW,rfl,aJ,aF⟩:=Z.at s.n.toNat Q;obtain⟨bg,rfl,ax⟩:=aJ;obtain⟨b,P⟩:∃b,z.parts[s.n.toNat]=b:=⟨_,j⟩;rw [P] at ax;refine cN j j j (zP (V:=jv g) (i:=s.n) (C.ak (b:=aQ) d) aq (d.holds (G:=h) (by simp)) Z.len (ed.vZ Z)) (λr w⟨F,hw⟩=>?_);rw [a6 ⟨an,by omega⟩,iS,aW] at F;have F:r=ab bg:=F;subst F;have hw:=hw.symm;subst hw;refine ar ⟨⟨_,d⟩,?_⟩;refine aU 5 j ?_;have d:C o e [R f (c7 s a).toArray 33,[(k,.cells (rcc (p.1.record s.n s.x).2.1 (.slice l (p.1.record s.n s.x).2.1.x.length t)).toArray 169 (0,0))],bj g aQ c,cG,h,D,T,E,ag,H1,de aN az p.2,m,q,a7,bx,I] _:=C.perm (A:=[R f (c7 s a).toArray 33,[(k,.cells (rcc (p.1.record s.n s.x).2.1 (.slice l (p.1.record s.n s.x).2.1.x.length t)).toArray 169 (0,0))],bj g aQ c,cG,h,D++(T++E),ag,H1,de aN az p.2,m,q,a7,bx,I]) d.as (by simp);have aC:=aa.jq b (by rw [<-P];exact et Q);obtain⟨_,_,aH,_,_,aR,aM⟩:=Row.rd hu (d.to I);cases aH;refine bF j j j (CB (r:=(p.1.record s.n s.x).2.1) (B:=l) (aV:=t) ax (by have:=aC.ch;omega) (by have:=aC.cZ;omega) aR (aM.sub (fI (by simp))) aD (d.ours (cI:=[T]))) (λw⟨y,ay,H⟩=>?_);have d:=d.b3 H;have d:C o e ([R f (c7 s a).toArray 33,bj g aQ c,h,[(k,.cells (rcc (p.1.record s.n s.x).2.1 (.slice l (p.1.record s.n s.x).2.1.x.length t)).toArray 169 (0,0))]]++_) w:=d.front;refine ar ⟨⟨_,d⟩,?_⟩;refine af 6 4 j (bK (bm 5 j j (λX=>?_) (λX=>?_)))
  .have d:C o e ([R f (c7 s a).toArray 33,de aN az p.2]++_) _:=d.front;have d:=d.drew;refine bw 0 j (λw=>∃ae,C o e ([R f (c7 s a).toArray 33,de aN az p.2]++ae) w) ⟨_,d⟩ (af 0 3 j (a8 3 j a1 j (af 4 1 j (a8 5 j a1 j (dy 6 j (bF j j j (Ce (n:=s.n) O (d.ours (cI:=[m]))) (λw⟨S,aK,H⟩=>?_)))))));have d:=d.b3 H;refine ar (cX (ao 4 j j ?_))
   have av:z.part s.n=some b:=by
    unfold aS.part;rw [a6 an,cf Q,P]
   have K:z.records s i p=((z.fM i (((p.1.record s.n s.x).1.jF s.n).1,p.2)).lS s.n {b with log:=(b.log.append (p.1.record s.n s.x).2.1).1},(b.log.append (p.1.record s.n s.x).2.1).2.2):=by
    unfold aS.records;rw [aI (by simpa using aj),av];dsimp only;rw [a6 (by simpa using X)]
   rw [K];have ac:=aF {b with log:=(b.log.append (p.1.record s.n s.x).2.1).1} y ⟨bg,j,ay⟩;have d:C o e [bj g aQ c,cG,h,D,y,E,ag,H1,de aN az p.2,S,q,a7,bx] _:=d.as;refine⟨j,_,ah (((p.1.record s.n s.x).1.jF s.n).1,p.2) S (z.parts.set s.n.toNat {b with log:=(b.log.append (p.1.record s.n s.x).2.1).1}) (h++(D++(y++E))) ⟨h,_,aG,j,by rw [List.length_set];exact aq,ac⟩ aK,C.perm (A:=[bj g aQ c,cG,h,D,y,E,ag,H1,de aN az p.2,S,q,a7,bx]) d (by simp)⟩
  refine ao 5 j j ?_
  have av:z.part s.n=some b:=by
   unfold aS.part;rw [a6 an,cf Q,P]
  have K:z.records s i p=((z.fM i ((p.1.record s.n s.x).1,p.2)).lS s.n {b with log:=(b.log.append (p.1.record s.n s.x).2.1).1},(b.log.append (p.1.record s.n s.x).2.1).2.2):=by
   unfold aS.records;rw [aI (by simpa using aj),av];dsimp only;rw [aI (by simpa using X)]
  rw [K];have ac:=aF {b with log:=(b.log.append (p.1.record s.n s.x).2.1).1} y ⟨bg,j,ay⟩;have d:C o e [bj g aQ c,cG,h,D,y,E,ag,H1,de aN az p.2,m,q,a7,bx] _:=d.as;refine⟨j,_,ah ((p.1.record s.n s.x).1,p.2) m (z.parts.set s.n.toNat {b with log:=(b.log.append (p.1.record s.n s.x).2.1).1}) (h++(D++(y++E))) ⟨h,_,aG,j,by rw [List.length_set];exact aq,ac⟩ O,C.perm (A:=[bj g aQ c,cG,h,D,y,E,ag,H1,de aN az p.2,m,q,a7,bx]) d (by simp)⟩
theorem eR.Du{g:am}{aQ:Nat}{z:aS}{G:List Chunk}(h:eR g aQ z G)(q:0<z.cJ.length):∃(c:cd)(a cap:Nat),c.cJ= .slice (some ⟨a,0,none⟩) z.cJ.length cap/\z.cJ.length<=cap/\cap<=maxLen/\(∀w,Holds w G->w.heap[aQ]? =some (.cells (lY g c).toArray 61 (0,0)))/\
 ∀(i:Nat)(p:bG×Int),z.cJ[i]? =some p->∃aN,lu g aQ z i aN G/\∀w,Holds w G->w.cell? ⟨a,0+i*1,none⟩=some (ab aN):=by
 obtain⟨c,cG,bQ,dx,a7,bx,l,rfl⟩:=h;have y:=l;obtain⟨ag,H,U,rfl,m,d⟩:=l.cJ;have n:=m;obtain⟨a,cap,cur,k,rfl,r,s,_⟩:=Row.block m q;refine⟨c,a,cap,k,r,s,λw b=>b.left.head,λi p u=>?_⟩;have x:i<z.cJ.length:=(eY.1 u).1;obtain⟨v,_,B,_,o,C,t,_⟩:=d.at i x;obtain⟨aN,_,_,rfl,_⟩:=t;refine⟨aN,⟨c,cG,bQ,a7,bx,_,H,U,y,n,d,o,j⟩,λw b=>?_⟩;obtain⟨_,_,e,_,_,A,_⟩:=Row.read n b.right.right.right.left.left;rw [k] at e;cases e;have f:=A.cell o;rw [add_lit] at f;rw [gZ];exact f
theorem sQ{o:World}{g:am}{aQ:Nat}{z:aS}{G:List Chunk}{s:eF}{a:hP}(W:eR g aQ z G)(av:h3 s a (au [G]) o){N M L:Nat}(aa:z.df g (λ_=>N) M L)(J:773<=N)(K:N+150<=1000000)(ap:M+10000<=1000000)(H:L+4200000<=1000000000)(x:g.at o)(P:g.ok)(Z:g.off (au [G]))(d:Own [G] o):Calls prog 18 #[ab aQ,.agg (c7 s a).toArray] o λr w=>r=ad (z.f0 g s).2/\∃ai,eR g aQ (z.f0 g s).1 ai/\C o (au [G]) [ai] w:=by
 obtain⟨h,F⟩:∃h,h=au [G]:=⟨_,j⟩;have y:g.off h:=F▸Z;have ax:h3 s a h o:=F▸av;rw [<-F];have d:C o h [G] o:=F▸d;obtain⟨c,aC,cap,ah,aE,aF,an,aq⟩:=W.Du (by rw [aa.cJ];decide);have aD:=aa.cJ;refine a2 func18 (bM 2 d j j (λf w d=>?_));have d:C o h [R f (c7 s a).toArray 33,G] w:=d;have d:C o h ([R f (c7 s a).toArray 33,G]++_) _:=d.front;have d:=d.drew;refine bw 3 j (λw=>∃ae,C o h ([R f (c7 s a).toArray 33,G]++ae) w) ⟨_,d⟩ (af 0 1 j (a8 1 j a1 j (af 2 2 j (ef 9 j (λk=>?_) (λk=>?_)))))
 .refine af 4 9 j (bK (ao 4 j j ?_))
  have m:z.f0 g s=(z,1):=by
   unfold aS.f0;have e:(if 0<=s.node then z.cJ[s.node.toNat]? else none)=none:=aI (by have:=dj k;omega);rw [e]
  rw [m];exact⟨j,G,W,d.as⟩
 refine af 4 1 j (a8 5 j a1 j (af 6 3 j (bT 9 j (λw⟨_,d⟩=>aw (an _ (d.holds (G:=G) (by simp))) (aH some ah)) (af 10 3 j (bK (cm 0 j j (λac=>?_) (λac=>?_)))))))
 .refine ao 3 j j ?_
  have m:z.f0 g s=(z,1):=by
   unfold aS.f0;have e:(if 0<=s.node then z.cJ[s.node.toNat]? else none)=none:=(a6 (by have:=dN k;omega)).trans (lv (by have:=ac;have:=dN k;omega));rw [e]
  rw [m];exact⟨j,G,W,d.as⟩
 obtain⟨i,ay⟩:∃i:Nat,s.node=i:=⟨s.node.toNat,by have:=dN k;omega⟩;have aj:i<z.cJ.length:=by omega
 obtain⟨p,v⟩:∃p,z.cJ[i]? =some p:=⟨_,cf aj⟩;have B:p.1.ok:=aa.kq p (hk v);obtain⟨aN,O,aB⟩:=aq i p v;have Q:(if 0<=s.node then z.cJ[s.node.toNat]? else none)=some p:=by rw [a6 (by omega),show s.node.toNat=i by omega,v]
 have d:C o h ([R f (c7 s a).toArray 33,G]++_) _:=d.front;have d:=d.drew;refine bw 2 j (λw=>∃ae,C o h ([R f (c7 s a).toArray 33,G]++ae) w) ⟨_,d⟩ (af 0 3 j (bT 3 j (λw⟨_,d⟩=>aw (an _ (d.holds (G:=G) (by simp))) (aH some ah)) (af 4 1 j (a8 5 j a1 j (iW 24 (.int .i64 (i:Nat)) j (aH (Value.int .i64) ay) (aT 6 j (λw _=>gb j j aj) (bT 7 j (λw⟨_,d⟩=>aB _ (d.holds (G:=G) (by simp))) (af 8 1 j (bK (al 4 j (aw (C.ak (b:=f) d) j) (bm 5 j j (λD=>?_) (λD=>?_))))))))))))
 .refine bo 4 (EV O v aa J K H (x.st d y) P Z (d.ours (cI:=[G]))) j (λw⟨ai,u,l⟩=>?_);have d:=d.b3 l;refine ao 1 j j ?_
  have m:z.f0 g s=z.inits g i p:=by
   unfold aS.f0;rw [Q];dsimp only;rw [a6 (by simpa using D),show s.node.toNat=i by omega]
  rw [m];exact⟨j,ai,u,d.as⟩
 refine bm 4 j j (λE=>?_) (λE=>?_)
 .obtain⟨k,cG,bQ,a7,bx,ag,H1,q,GE,az,T,rfl,Y⟩:=O.open v;have d:C o h [R f (c7 s a).toArray 33,bj g aQ k,cG,bQ,ag,H1,de aN az p.2,GE,q,a7,bx] _:=C.perm (A:=[R f (c7 s a).toArray 33,bj g aQ k++(cG++(bQ++((ag++(H1++((de aN az p.2++GE)++q)))++(a7++bx))))]) d.as (by simp);have d:C o h ([R f (c7 s a).toArray 33,de aN az p.2]++_) _:=d.front;have d:=d.drew;refine bw 1 j (λw=>∃ae,C o h ([R f (c7 s a).toArray 33,de aN az p.2]++ae) w) ⟨_,d⟩ (af 0 4 j (a8 4 j a1 j (af 5 1 j (a8 6 j a1 j (aU 7 j (bF j j j (C0 (n:=s.n) T B.next B.last (d.ours (cI:=[GE]))) (λw⟨t,V,l⟩=>?_)))))));have d:=d.b3 l;have d:C o h ([R f (c7 s a).toArray 33,de aN az p.2]++_) _:=d.front;refine ar ⟨⟨_,d⟩,?_⟩;refine af 8 2 j (dy 10 j ?_)
  obtain⟨aA,X,d⟩:∃aA,eR g aQ (z.fM i ((p.1.gH s.n).1,p.2)) aA/\C o h [aA,R f (c7 s a).toArray 33] _:=by
   have d:C o h [bj g aQ k,cG,bQ,ag,H1,de aN az p.2,t,q,a7,bx,R f (c7 s a).toArray 33] _:=d.as;exact⟨_,(Y ((p.1.gH s.n).1,p.2) t V).rep,C.perm (A:=[bj g aQ k,cG,bQ,ag,H1,de aN az p.2,t,q,a7,bx,R f (c7 s a).toArray 33]) d (by simp)⟩
  refine bF j j j (rY (I:=(p.1.gH s.n).2.1) X (aa.fM (B.gH _)) J K H (x.st d y) P (d.eE x y) (d.ours (cI:=[aA]))) (λw⟨ai,u,l⟩=>?_);have d:=d.b3 l;refine ar (j5 11 j (wE j j j (ar (cX (ao 0 j j ?_)))))
  have m:z.f0 g s=(z.fM i ((p.1.gH s.n).1,p.2)).asks g (p.1.gH s.n).2.1 (p.1.gH s.n).2.2:=by
   unfold aS.f0;rw [Q];dsimp only;rw [aI (by simpa using D)];rw [a6 (by simpa using E),show s.node.toNat=i by omega]
  rw [m];exact⟨j,ai,u,d.as⟩
 refine bm 4 j j (λS=>?_) (λS=>?_)
 .refine bN 3 (U:=c7 s a) j j j (bp (C.ak (b:=f) d)) (bo 1 (Hf (s:=s) (a:=a) O v ((ax.apart d).sub (fI (by simp))) aa J K ap H (x.st d y) P Z (d.ours (cI:=[G]))) j (λw⟨ai,u,l⟩=>?_));have d:=d.b3 l;refine ao 1 j j ?_
  have m:z.f0 g s=z.records s i p:=by
   unfold aS.f0;rw [Q];dsimp only;rw [aI (by simpa using D)];rw [aI (by simpa using E)];rw [a6 (by simpa using S),show s.node.toNat=i by omega]
  rw [m];exact⟨j,ai,u,d.as⟩
 obtain⟨k,cG,bQ,a7,bx,ag,H1,q,GE,az,T,rfl,Y⟩:=O.open v;have d:C o h [R f (c7 s a).toArray 33,bj g aQ k,cG,bQ,ag,H1,de aN az p.2,GE,q,a7,bx] _:=C.perm (A:=[R f (c7 s a).toArray 33,bj g aQ k++(cG++(bQ++((ag++(H1++((de aN az p.2++GE)++q)))++(a7++bx))))]) d.as (by simp);have d:C o h ([R f (c7 s a).toArray 33,de aN az p.2]++_) _:=d.front;have d:=d.drew;refine bw 2 j (λw=>∃ae,C o h ([R f (c7 s a).toArray 33,de aN az p.2]++ae) w) ⟨_,d⟩ (af 0 4 j (a8 4 j a1 j (af 5 1 j (a8 6 j a1 j (af 7 1 j (aU 8 j (bF j j j (D8 (dI:=(s.n !=0)) T B.next (by have:=aH List.length B.keys;rw [fB] at this;rw [this];decide) (d.ours (cI:=[GE]))) (λw⟨t,V,l⟩=>?_))))))));have d:=d.b3 l;have d:C o h ([R f (c7 s a).toArray 33,de aN az p.2]++_) _:=d.front;refine ar ⟨⟨_,d⟩,?_⟩;refine af 9 2 j (dy 11 j ?_)
 obtain⟨aA,X,d⟩:∃aA,eR g aQ (z.fM i ((p.1.end_ (s.n !=0)).1,p.2)) aA/\C o h [aA,R f (c7 s a).toArray 33] _:=by
  have d:C o h [bj g aQ k,cG,bQ,ag,H1,de aN az p.2,t,q,a7,bx,R f (c7 s a).toArray 33] _:=d.as;exact⟨_,(Y ((p.1.end_ (s.n !=0)).1,p.2) t V).rep,C.perm (A:=[bj g aQ k,cG,bQ,ag,H1,de aN az p.2,t,q,a7,bx,R f (c7 s a).toArray 33]) d (by simp)⟩
 refine bF j j j (rY (I:=(p.1.end_ (s.n !=0)).2.1) X (aa.fM (B.end_ _)) J K H (x.st d y) P (d.eE x y) (d.ours (cI:=[aA]))) (λw⟨ai,u,l⟩=>?_);have d:=d.b3 l;refine ar (j5 12 j (wE j j j (ar (cX (ao 0 j j ?_)))))
 have m:z.f0 g s=(z.fM i ((p.1.end_ (s.n !=0)).1,p.2)).asks g (p.1.end_ (s.n !=0)).2.1 (p.1.end_ (s.n !=0)).2.2:=by
  unfold aS.f0;rw [Q];dsimp only;rw [aI (by simpa using D)];rw [aI (by simpa using E)];rw [aI (by simpa using S)];rw [show s.node.toNat=i by omega]
 rw [m];exact⟨j,ai,u,d.as⟩
def l5(g:am)(p:Option Addr)(I:Option bk)(G:List Chunk):Prop:=(p=none/\I=none/\G=[])\/∃x a,p=some ⟨a,0,none⟩/\I=some x/\g8 g a x G
def jO(g:am)(I:Option bk)(m:aW):Option bk×List aW:=match I with
 |none=>(none,[])
 |some x=>(some (x.take g m).1,(x.take g m).2)
def aS.qZ(z:aS)(i:Int)(I:Option bk):aS:=match I with
 |none=>z
 |some x=>z.kz i x
theorem aS.G1(z:aS):z.g6 []=z:=by
 unfold aS.g6;simp
theorem aS.Ez(g:am)(z:aS)(m:aW):z.ks g m=(z.qZ m.to (jO g (z.rep m.to) m).1).g6 (jO g (z.rep m.to) m).2:=by
 unfold aS.ks;cases h:z.rep m.to with
 |none=>exact(aS.G1 z).symm
 |some x=>rfl
theorem eR.sI{g:am}{aQ:Nat}{z:aS}{G:List Chunk}(h:eR g aQ z G)(i:Int):∃(c:cd)(p:Option Addr)(ag H1 o r bQ dx a7 bx:List Chunk)(U:List Value),l5 g p (z.rep i) o/\Row 40 1 c.bu z.bu.length U ag/\U.length=z.bu.length/\(∀v∈U,∃q,v= .pointer q)/\(if 0<=i/\i<(z.bu.length:Int) then U.getD i.toNat (.pointer none) else .pointer none)= .pointer p/\g7 c.bz z.bz z.lost a7/\cz c.heard z.heard bx/\
 G=bj g aQ c++((ag++(H1++(o++r)))++(bQ++(dx++(a7++bx))))/\
 ∀(I:Option bk)(k:List Chunk)(bz:List aW)(lost:Nat)(heard:List aW)(m:Value)(d f:List Chunk),l5 g p I k->g7 c.bz bz lost d->cz m heard f->
  eR g aQ {z.qZ i I with bz:=bz,lost:=lost,heard:=heard} (bj g aQ {c with heard:=m}++((ag++(H1++(k++r)))++(bQ++(dx++(d++f))))):=by
 obtain⟨c,cG,bQ,dx,a7,bx,a,rfl⟩:=h;obtain⟨ag,H,U,rfl,s,l⟩:=a.bu;have C:=l.len
 have M:z.rep i=none->(if 0<=i/\i<(z.bu.length:Int) then U.getD i.toNat (.pointer none) else .pointer none)= .pointer none:=λaJ=>by
  split
  .rename_i O;have n:i.toNat<z.bu.length:=by omega
   obtain⟨v,_,_,_,y,_,b,_⟩:=l.at i.toNat n;unfold aS.rep at aJ;rw [a6 O.1,cf n] at aJ;have aJ:z.bu[i.toNat]=none:=aJ;rw [aJ] at b;rw [iS,y,b.1];rfl
  .rfl
 cases D:z.rep i with
 |none=>
  refine⟨c,none,ag,H,[],[],bQ,dx,a7,bx,U,.inl ⟨j,j,j⟩,s,C,l.qQ,M D,a.bz,a.heard,by simp,λI k bz lost heard m d f b u w=>?_⟩
  obtain⟨_,rfl,rfl⟩:(none:Option Addr)=none/\I=none/\k=[]:=by
   rcases b with h|⟨_,_,h,_⟩
   .exact h
   .cases h
  have e:H++([]++[])=H:=by simp
  rw [e];exact⟨{c with heard:=m},_,bQ,dx,d,f,⟨⟨ag,H,U,j,s,l⟩,a.parts,a.cJ,u,w⟩,j⟩
 |some x=>
  obtain⟨E,A⟩:=aS.nz D;have n:i.toNat<z.bu.length:=(eY.1 A).1;obtain⟨v,H1,o,r,y,rfl,b,N⟩:=l.at i.toNat n;have P:z.bu[i.toNat]=some x:=by rw [cf n] at A;exact hz A
  rw [P] at b;obtain⟨B,rfl,K⟩:=b;refine⟨c,some ⟨B,0,none⟩,ag,H1,o,r,bQ,dx,a7,bx,U,.inr ⟨x,B,j,j,K⟩,s,C,l.qQ,?_,a.bz,a.heard,j,λI k bz lost heard m d f J u w=>?_⟩
  .rw [a6 ⟨E,by omega⟩,iS,y];rfl
  .rcases J with⟨t,_⟩|⟨dP,Q,t,rfl,L⟩
   .cases t
   .cases t;have F:=N (some dP) k ⟨B,j,L⟩;exact⟨{c with heard:=m},_,bQ,dx,d,f,⟨⟨ag,_,U,j,by show Row 40 1 c.bu (z.bu.set i.toNat (some dP)).length U ag;rw [hx];exact s,F⟩,a.parts,a.cJ,u,w⟩,j⟩
theorem l5.isSome{g:am}{p:Option Addr}{I:Option bk}{G:List Chunk}(h:l5 g p I G):p.isSome=I.isSome:=by
 rcases h with⟨rfl,rfl,_⟩|⟨x,a,rfl,rfl,_⟩<;>rfl
theorem H8{o:World}{m:aB}(c:m.tag.length=32):Calls prog 45 #[.pointer none,.agg m.cs.toArray] o λr w=>r= .slice none 0 0/\C o [] [] w:=by
 have a:Own [] o:=C.start o;refine a2 func45 ?_;refine bM 2 a j j (λb w a=>?_);refine ao 10 j j ?_;exact⟨j,a.bare⟩
theorem H9{o:World}{g:am}{p:Option Addr}{I:Option bk}{G:List Chunk}{m:aB}(hm:m.ok o)(n:m.k2 (au [G]))(t:m.P.cR)(u:m.s<=1000000)(k:l5 g p I G){N:Nat}(z:∀x,I=some x->x.ok g N)(f:773<=N)(h:N+50<=1000000)(q:g.at o)(v:g.ok)(y:g.off (au [G]))(c:Own [G] o):
 Calls prog 45 #[.pointer p,.agg m.cs.toArray] o λr w=>∃a ai,cz r (jO g I m.P).2 a/\l5 g p (jO g I m.P).1 ai/\C o (au [G]) [ai,a] w:=by
 rcases k with⟨rfl,rfl,rfl⟩|⟨x,B,rfl,rfl,l⟩
 .refine Calls.mono (H8 hm.tag) (λr w⟨A,aa⟩=>?_);subst A;have i:=c.aM aa;exact⟨[],[],cz.nil,.inl ⟨j,j,j⟩,by have b:C o (au [[]]) [[],[]] w:=(C.empty i).as;exact b⟩
 .exact Calls.mono (Ic hm n t u l (z x j) f h q v y c) (λr w⟨a,ai,d,e,b⟩=>⟨a,ai,d,.inr ⟨_,B,j,j,e⟩,b⟩)
theorem n8{o:World}{g:am}{aQ:Nat}{z:aS}{G:List Chunk}{i:Int}(d:eR g aQ z G)(a:Holds o G):Calls prog 9 #[ab aQ,ad i] o λr w=>r= .bool (z.rep i).isSome/\w=o:=by
 obtain⟨c,p,ag,H1,m,n,bQ,dx,a7,bx,U,e,h,l,f,k,_,_,rfl,_⟩:=d.sI i;refine a2 func9 (bh 7 (v6 (V:=h5 g) (xs:=z.bu) (c:=c) (U:=U) (i:=i) a.left.head h a.right.left.left l f) j (λr w⟨b,hw⟩=>?_));rw [k] at b;subst b;have hw:=hw.symm;subst hw;exact ao 2 j j ⟨aH Value.bool e.isSome,j⟩
theorem Iw{o:World}{g:am}{aQ:Nat}{z:aS}{G:List Chunk}{s:eF}{a:hP}(D:eR g aQ z G){N M L:Nat}(aa:z.df g (λ_=>N) M L)(K:773<=N)(aP:N+150<=1000000)(aO:M+10000<=1000000)(aN:L+4200000<=1000000000)(S:g.at o)(V:g.ok)(aI:g.off (au [G]))(d:Own [G] o):Calls prog 21 #[ab aQ,.agg (c7 s a).toArray] o λr w=>r=ad (z.fx g s).2/\∃ai,eR g aQ (z.fx g s).1 ai/\C o (au [G]) [ai] w:=by
 obtain⟨f,B⟩:∃f,f=au [G]:=⟨_,j⟩;have W:g.off f:=B▸aI;rw [<-B];have d:C o f [G] o:=B▸d;refine a2 func21 (bM 2 d j j (λm w d=>?_));have d:C o f [R m (c7 s a).toArray 33,G] w:=d;refine al 6 j (aw (C.ak (b:=m) d) j) (bo 0 (n8 (i:=s.node) D (d.holds (G:=G) (by simp))) j (λw hw=>?_));have hw:=hw.symm;subst hw;refine bm 1 j j (λt=>?_) (λt=>?_)
 .refine ao 3 j j ?_
  have I:z.fx g s=(z,1):=by
   unfold aS.fx;cases aK:z.rep s.node with
   |none=>rfl
   |some x=>rw [aK] at t;cases t
  rw [I];exact⟨j,G,D,d.as⟩
 obtain⟨x,F⟩:∃x,z.rep s.node=some x:=gX.1 (by simpa using t);obtain⟨aj,H⟩:=aS.nz F;have T:s.node.toNat<z.bu.length:=(eY.1 H).1;obtain⟨c,p,ag,H1,n,q,bQ,dx,a7,bx,U,O,X,aV,aR,Y,av,az,rfl,aE⟩:=D.sI s.node;rw [F] at O
 obtain⟨l,rfl,aB⟩:∃l,p=some ⟨l,0,none⟩/\g8 g l x n:=by
  rcases O with⟨_,h,_⟩|⟨aY,l,an,ap,aq⟩
  .cases h
  .cases ap;exact⟨l,an,aq⟩
 obtain⟨k,cap,cur,Q,rfl,_⟩:=Row.block X (by omega)
 have Z:U[s.node.toNat]? =some (ab l):=by
  rw [a6 ⟨aj,by omega⟩,iS,cf (by omega)] at Y;rw [cf (by omega)];exact aH some Y
 obtain⟨i,aF⟩:∃i:Nat,s.node=i:=⟨s.node.toNat,by omega⟩;have aG:s.node.toNat=i:=by omega
 rw [aG] at Z T H;obtain⟨ac,aW⟩:=aa.iz i x H
 have aJ:∀w,Holds w (R k cur 40)->w.cell? ⟨k,0+i*1,none⟩=some (ab l):=λw ay=>by
  obtain⟨_,_,e,_,_,aL,_⟩:=Row.read X ay;rw [Q] at e;cases e;have P:=aL.cell Z;rw [add_lit] at P;rw [gZ];exact P
 have d:C o f [R m (c7 s a).toArray 33,bj g aQ c,R k cur 40,H1,n,q,bQ,dx,a7,bx] _:=C.perm (A:=[R m (c7 s a).toArray 33,bj g aQ c++((R k cur 40++(H1++(n++q)))++(bQ++(dx++(a7++bx))))]) d.as (by simp);have d:C o f ([R m (c7 s a).toArray 33,bj g aQ c,R k cur 40]++_) _:=d.front;have d:=d.drew;refine bw 2 j (λw=>∃ae,C o f ([R m (c7 s a).toArray 33,bj g aQ c,R k cur 40]++ae) w) ⟨_,d⟩ (af 0 4 j (a8 4 j a1 (aH some Q) (af 5 1 j (a8 6 j a1 j (iW 16 (.int .i64 (i:Nat)) j (aH (Value.int .i64) aF) (aT 7 j (λw _=>gb j j T) (bT 8 j (λw⟨_,d⟩=>aJ _ (d.holds (G:=R k cur 40) (by simp))) (aU 9 j (cN j j j (Iq aB ac K (by omega) (S.st d W) V (d.eE S W) (d.ours (cI:=[n]))) (λaX w⟨ah,y,aM,aC,E⟩=>?_))))))))));have d:=d.b3 E;have d:C o f ([R m (c7 s a).toArray 33,bj g aQ c,R k cur 40]++_) _:=d.front;refine ar ⟨⟨_,d⟩,?_⟩;refine dy 10 j ?_;have aD:=sU (g:=g) (aQ:=aQ) (c:=c) av az aM (by have:=aa.lost;omega) (by have:=(bk.td V ac K).2;omega) aa.heard (d.ours (cI:=[bj g aQ c,a7,bx,ah]));refine bF j j j aD (λw⟨J,u,v,ax,aA,E⟩=>?_);have d:=d.b3 E;refine ar (cX (ao 3 j j ?_))
 have I:z.fx g s=((z.kz s.node (x.tick g).1).g6 (x.tick g).2,0):=by
  unfold aS.fx;rw [F]
 rw [I];have d:C o f [bj g aQ {c with heard:=J},R k cur 40,H1,y,q,bQ,dx,u,v] _:=d.as;exact⟨j,_,aE (some (x.tick g).1) y _ _ _ J u v (.inr ⟨_,l,j,j,aC⟩) ax aA,C.perm (A:=[bj g aQ {c with heard:=J},R k cur 40,H1,y,q,bQ,dx,u,v]) d (by simp)⟩
theorem vx{o:World}{g:am}{aQ:Nat}{z:aS}{G:List Chunk}{s:eF}{a:hP}(aD:eR g aQ z G){N M L:Nat}(aa:z.df g (λ_=>N) M L)(aC:773<=N)(bH:N+150<=1000000)(bG:M+10000<=1000000)(bE:L+4200000<=1000000000)(aG:g.at o)(aL:g.ok)(bd:g.off (au [G]))(d:Own [G] o):Calls prog 20 #[ab aQ,.agg (c7 s a).toArray] o λr w=>r=ad (z.gx g s).2/\∃ai,eR g aQ (z.gx g s).1 ai/\C o (au [G]) [ai] w:=by
 have a0:=aD;obtain⟨f,aA⟩:∃f,f=au [G]:=⟨_,j⟩;have aM:g.off f:=aA▸bd;rw [<-aA];have d:C o f [G] o:=aA▸d;obtain⟨c,cG,bQ,dx,a7,bx,p,rfl⟩:=aD;have d:=d.zI;have bI:=aa.bz;refine a2 func20 (bM 2 d j j (λt w d=>?_));have d:C o f [R t (c7 s a).toArray 33,bj g aQ c,cG,bQ,dx,a7,bx] w:=d;refine al 7 j (aw (C.ak (b:=aQ) d) j) (bo 0 (xk p.bz (d.holds (G:=a7) (by simp))) j (λbD B=>?_));have B:=B.symm;subst B;refine bm 1 j j (λay=>?_) (λay=>?_)
 .refine ao 3 j j ?_
  have q:z.gx g s=(z,4):=by
   unfold aS.gx;have K:z.bz=[]:=mc (by have:=dY.1 ay;omega);rw [K];rfl
  rw [q];have d:C o f [bj g aQ c,cG,bQ,dx,a7,bx] _:=d.as;exact⟨j,_,a0,d.so⟩
 have d:C o f ([R t (c7 s a).toArray 33,bj g aQ c,a7]++_) _:=d.front;have d:=d.drew;refine bw 2 j (λw=>∃ae,C o f ([R t (c7 s a).toArray 33,bj g aQ c,a7]++ae) w) ⟨_,d⟩ (af 0 1 j (a8 1 j a1 j (aT 2 j (λw _=>wx j) (af 3 3 j (a8 6 j a1 j (aU 7 j (bF j j j (xk p.bz (d.holds (G:=a7) (by simp))) (λbD B=>?_))))))));have B:=B.symm;subst B;refine ar ⟨⟨_,d⟩,?_⟩;have aF:0<z.bz.length:=by have K:((z.bz.length:Int)==0)=false:=ay;rw [ft] at K;omega
 refine iW 16 (.int .i64 ((max s.n 0).toNat:Nat)) j (aH (Value.int .i64) (by omega)) (aT 8 j (λw _=>pK j j aF) (af 9 1 j (bK ?_)));obtain⟨e,v⟩:∃e:Nat,(max s.n 0).toNat%z.bz.length=e:=⟨_,j⟩;have E:e<z.bz.length:=by rw [<-v];exact jE _ aF
 refine aq 3 j (bS 5 (.int .i64 (e:Nat)) j (aH (Value.int .i64) (by rw [v])) ?_);refine al 1 j (aw (C.ak (b:=t) d) j) (bm 1 j j (λI=>?_) (λI=>?_))
 .refine al 6 j (aw (C.ak (b:=aQ) d) j) (bo 1 (CY p.bz (d.ours (cI:=[a7])) E) j (λw⟨D,O,y⟩=>?_));have d:=d.b3 y;refine bm 1 j j (λJ=>?_) (λJ=>?_);refine ao 3 j j ?_;have F:z.bz[(max s.n 0).toNat%z.bz.length]? =some z.bz[e]:=by rw [v];exact cf E
  have q:z.gx g s=(z,3):=by
   unfold aS.gx;rw [F];dsimp only;rw [a6 (by simpa using I),if_neg (by simpa using J)]
  rw [q];rw [aI (by simpa using J)] at O;rotate_left
  refine ao 4 j j ?_;have F:z.bz[(max s.n 0).toNat%z.bz.length]? =some z.bz[e]:=by rw [v];exact cf E
  have q:z.gx g s=({z with bz:=z.bz++[z.bz[e]]},0):=by
   unfold aS.gx;rw [F];dsimp only;rw [a6 (by simpa using I),if_pos (by simpa using J)]
  rw [q];rw [a6 (by simpa using J)] at O;rotate_left
  all_goals
   have d:C o f [bj g aQ c,cG,bQ,dx,D,bx] _:=d.as;exact⟨j,_,⟨c,cG,bQ,dx,D,bx,⟨p.bu,p.parts,p.cJ,O,p.heard⟩,j⟩,d.so⟩
 refine al 6 j (aw (C.ak (b:=aQ) d) j) (bh 1 (CW p.bz (d.ours (cI:=[a7])) E) j (λr w⟨m,ax,D,Y,aJ,aK,O,y⟩=>?_));subst Y;have d:=d.b3 y;have X:m.tag.length=32:=by obtain⟨_,_,_,_,h,_⟩:=aK;exact h
 have W:m.P.j1:=by rw [aJ];exact aa.lF _ (et E)
 have F:z.bz[(max s.n 0).toNat%z.bz.length]? =some m.P:=by rw [aJ,v];exact cf E
 refine cl 3 d j (λk w d=>?_);have d:C o f (bi k dK::_) w:=d;refine ck 0 (d.bc k) j j j (by simpa using(m).one) (by rw [List.size_toArray];exact(m).bW X) (λw d=>?_);have d:=C.whole (U:=(m).cs) d (by rw [(m).bW X];rfl);have d:C o f (bi k (m)::_) w:=d
 obtain⟨GE,aE,d⟩:∃GE,eR g aQ ({z with bz:=z.bz.eraseIdx e}) GE/\C o f [bi k m,R t (c7 s a).toArray 33,GE,ax] w:=by
  have d:C o f [bi k m,R t (c7 s a).toArray 33,bj g aQ c,cG,bQ,dx,D,bx,ax] w:=d.as;exact⟨_,⟨c,cG,bQ,dx,D,bx,⟨p.bu,p.parts,p.cJ,O,p.heard⟩,j⟩,C.perm (A:=[bi k m,R t (c7 s a).toArray 33,bj g aQ c,cG,bQ,dx,D,bx,ax]) d (by simp)⟩
 refine al 5 j (aw (C.ak (b:=t) d) j) (bm 1 j j (λaz=>?_) (λaz=>?_))
 .obtain⟨u,bC,H,H1,aj,T,S,Q,ac,ah,aO,a3,bl,bs,be,br,aX,aZ,rfl,ba⟩:=aE.sI m.P.to;obtain⟨ap,av,rfl,aN,_,bv,bJ⟩:=aK;have d:C o f [bi k m,bj g aQ u,H,H1,aj,T,S,Q,ac,ah,ap,av] _:=C.perm (A:=[bi k m,bj g aQ u++((H++(H1++(aj++T)))++(S++(Q++(ac++ah)))),ap++av]) d.as (by simp);have d:C o f ([bi k m]++_) _:=d.front;have d:=d.drew;refine bw 0 j (λw=>∃ae,C o f ([bi k m]++ae) w) ⟨_,d⟩ (af 0 3 j (a8 3 j a1 m.dv (aT 5 j (λw⟨_,d⟩=>c3 (U:=m.cs) j j (m.bW X) (bp (C.ak (b:=k) d))) (aU 4 j (cN j j j (v6 (V:=h5 g) (xs:=({z with bz:=z.bz.eraseIdx e}:aS).bu) (c:=u) (U:=aO) (i:=m.to) (C.ak (b:=aQ) d) bl (d.holds (G:=H) (by simp)) bs be) (λr w⟨Y,hw⟩=>?_))))));rw [show(if 0<=m.to/\m.to<(({z with bz:=z.bz.eraseIdx e}:aS).bu.length:Int) then aO.getD m.to.toNat (.pointer none) else .pointer none)= .pointer bC from br] at Y;subst Y;have hw:=hw.symm;subst hw;refine ar ⟨⟨_,d⟩,?_⟩;refine aU 6 j ?_;obtain⟨_,_,aR,_,_,bn,a9⟩:=Row.rd aN.x (d.to ap);cases aR;obtain⟨_,_,aV,_,_,bg,a5⟩:=Row.rd aN.l (d.to av);cases aV;have bb:m.ok _:=⟨bn,bg,bv,X⟩;refine cN j j j (H9 (m:=m) bb ⟨a9.sub (fI (by simp)),a5.sub (fI (by simp))⟩ W.1 (by have:=W.2;show m.s<=1000000;have K:m.s<=63:=W.2;omega) a3 (λx bA=>(aa.iz _ x (aS.nz bA).2).1) aC (by omega) (aG.st d aM) aL (d.eE aG aM) (d.ours (cI:=[aj]))) (λbL w⟨aP,an,bt,a4,y⟩=>?_);have d:=d.b3 y;have d:C o f ([bi k m]++_) _:=d.front;refine ar ⟨⟨_,d⟩,?_⟩;refine dy 7 j ?_
  have bq:(jO g (({z with bz:=z.bz.eraseIdx e}:aS).rep m.P.to) m.P).2.length<=1000000:=by
   unfold jO;cases bf:(({z with bz:=z.bz.eraseIdx e}:aS).rep m.P.to) with
   |none=>exact b6 _
   |some x=>
    have K:=(bk.tc aL (aa.iz _ x (aS.nz bf).2).1 aC W.1).2;show(x.take g m.P).2.length<=_;omega
  refine bF j j j (sU (g:=g) (aQ:=aQ) (c:=u) aX aZ bt (by have:=aa.lost;show z.lost<=_;omega) bq aa.heard (d.ours (cI:=[bj g aQ u,ac,ah,aP]))) (λw⟨aB,Z,ag,aW,aY,y⟩=>?_);have d:=d.b3 y;refine ar (cX (ao 3 j j ?_))
  have q:z.gx g s=(aS.ks g ({z with bz:=z.bz.eraseIdx e}) m.P,0):=by
   unfold aS.gx;rw [F];dsimp only;rw [aI (by simpa using I),if_pos (by simpa using az),v]
  rw [q];rw [aS.Ez];have d:C o f [bj g aQ {u with heard:=aB},H,H1,an,T,S,Q,Z,ag] _:=d.as
  have bB:(({z with bz:=z.bz.eraseIdx e}:aS).qZ m.P.to (jO g (({z with bz:=z.bz.eraseIdx e}:aS).rep m.P.to) m.P).1).g6 (jO g (({z with bz:=z.bz.eraseIdx e}:aS).rep m.P.to) m.P).2={({z with bz:=z.bz.eraseIdx e}:aS).qZ m.P.to (jO g (({z with bz:=z.bz.eraseIdx e}:aS).rep m.P.to) m.P).1 with bz:=z.bz.eraseIdx e++(jO g (({z with bz:=z.bz.eraseIdx e}:aS).rep m.P.to) m.P).2.take (512-(z.bz.eraseIdx e).length),lost:=z.lost+((jO g (({z with bz:=z.bz.eraseIdx e}:aS).rep m.P.to) m.P).2.length-(512-(z.bz.eraseIdx e).length)),heard:=z.heard++(jO g (({z with bz:=z.bz.eraseIdx e}:aS).rep m.P.to) m.P).2.take (min (min (jO g (({z with bz:=z.bz.eraseIdx e}:aS).rep m.P.to) m.P).2.length (512-(z.bz.eraseIdx e).length)) (1000-z.heard.length))}:=by
   unfold aS.g6 aS.qZ;cases(jO g (({z with bz:=z.bz.eraseIdx e}:aS).rep m.P.to) m.P).1<;>rfl
  rw [bB];exact⟨j,_,ba (jO g (({z with bz:=z.bz.eraseIdx e}:aS).rep m.P.to) m.P).1 an _ _ _ aB Z ag a4 aW aY,C.perm (A:=[bj g aQ {u with heard:=aB},H,H1,an,T,S,Q,Z,ag]) d (by simp)⟩
 refine ao 4 j j ?_
 have q:z.gx g s=({z with bz:=z.bz.eraseIdx e},0):=by
  unfold aS.gx;rw [F];dsimp only;rw [aI (by simpa using I),if_neg (by simpa using az),v]
 rw [q];exact⟨j,GE,aE,d.as⟩
theorem eR.facts{g:am}{aQ:Nat}{z:aS}{G:List Chunk}(h:eR g aQ z G):∃(c:cd)(a b:Option Addr)(aX dv:Nat)(bx:List Chunk),c.bu= .slice a z.bu.length aX/\c.heard= .slice b z.heard.length dv/\z.heard.length<=maxLen/\cz c.heard z.heard bx/\∀w,Holds w G->w.heap[aQ]? =some (.cells (lY g c).toArray 61 (0,0))/\Holds w bx:=by
 obtain⟨c,cG,bQ,dx,a7,bx,d,rfl⟩:=h;obtain⟨ag,H,U,rfl,l,m⟩:=d.bu;obtain⟨a,aX,f,_,_⟩:=Row.form l;obtain⟨b,dv,i,j,k⟩:=d.heard.len;exact⟨c,a,b,aX,dv,bx,f,i,eh j k,d.heard,λw e=>⟨e.left.head,e.right.right.right.right.right⟩⟩
theorem eR.GB{g:am}{aQ:Nat}{z:aS}{G:List Chunk}(h:eR g aQ z G){i:Nat}(y:i<z.parts.length):∃(c:cd)(a cap bg:Nat)(cV f n:List Chunk),c.parts= .slice (some ⟨a,0,none⟩) z.parts.length cap/\ju g bg z.parts[i] f/\G=cV++(f++n)/\
 (∀w,Holds w cV->w.heap[aQ]? =some (.cells (lY g c).toArray 61 (0,0))/\w.cell? ⟨a,0+i*1,none⟩=some (ab bg))/\
 ∀k b,ju g bg k b->eR g aQ {z with parts:=z.parts.set i k} (cV++(b++n)):=by
 obtain⟨c,cG,bQ,dx,a7,bx,d,rfl⟩:=h;obtain⟨ag,H,U,rfl,m,u⟩:=d.parts;obtain⟨a,cap,cur,q,rfl,_⟩:=Row.block m (by omega);obtain⟨v,H1,f,l,C,rfl,r,A⟩:=u.at i y;obtain⟨bg,rfl,t⟩:=r;refine⟨c,a,cap,bg,bj g aQ c++(cG++(R a cur 35++H1)),f,l++(dx++(a7++bx)),q,t,by simp,λw o=>⟨o.left.head,?_⟩,λk b s=>?_⟩
 .obtain⟨_,_,e,_,_,B,_⟩:=Row.read m o.right.right.left;rw [q] at e;cases e;have p:=B.cell C;rw [add_lit] at p;rw [gZ];exact p
 .have x:=A k b ⟨bg,j,s⟩;have e:bj g aQ c++(cG++(R a cur 35++H1))++(b++(l++(dx++(a7++bx))))=bj g aQ c++(cG++((R a cur 35++(H1++(b++l)))++(dx++(a7++bx)))):=by simp
  rw [e];exact⟨c,cG,_,dx,a7,bx,⟨d.bu,⟨_,_,U,j,by rw [hx];exact m,x⟩,d.cJ,d.bz,d.heard⟩,j⟩
theorem cz.lit{b:Nat}{q:aB}{a:List Chunk}(h:fF q a)(d:q.tag.length=32):cz (.slice (some ⟨b,0,none⟩) 1 1) [q.P] (R b q.cs.toArray 103++a):=by
 have c:=Row.full (e:=103) (size:=39) (b:=b) (n:=1) (cur:=q.cs.toArray) (by decide) (by rw [hy,q.bW d]);have e:fW [q]=q.cs:=by simp
 exact⟨[q],j,_,a,j,by show Row 103 39 _ 1 (fW [q]) _;rw [e];exact c,fG.one h⟩
theorem FG{g:am}{f:Int}{aL:List aW}{l:ew}{m:aW}(c:ep aL)(h:eT g f aL l=some m)(aa:m.k=6):m.l=[cS g 3 0 0 (bO l.x) f]:=by
 obtain⟨_,_,_,b,_,a⟩:=vo c h;unfold ew.aE at a;rw [a6 (by rw [<-b];exact aa)] at a;exact(hz a).symm
theorem FI{o:World}{g:am}{aQ:Nat}{z:aS}{G:List Chunk}{s:eF}{a:hP}(O:eR g aQ z G)(bA:h3 s a (au [G]) o){N M L:Nat}(aa:z.df g (λ_=>N) M L)(bV:773<=N)(bX:N+150<=1000000)(bU:M+10000<=1000000)(bT:L+4200000<=1000000000)(aC:g.at o)(aD:g.ok)(bD:g.off (au [G]))(n:Own [G] o):Calls prog 22 #[ab aQ,.agg (c7 s a).toArray] o λr w=>r=ad (z.fi g s).2/\∃ai,eR g aQ (z.fi g s).1 ai/\C o (au [G]) [ai] w:=by
 have bt:=O;obtain⟨p,aB⟩:∃p,p=au [G]:=⟨_,j⟩;have aF:g.off p:=aB▸bD;have a9:h3 s a p o:=aB▸bA;rw [<-aB];have n:C o p [G] o:=aB▸n;obtain⟨c,bK,aV,aX,dv,bL,bv,aN,a8,a0,ap⟩:=O.facts;refine a2 func22 ?_;refine bM 2 n j j (λD w n=>?_);have n:C o p [R D (c7 s a).toArray 33,G] w:=n;have n:C o p ([R D (c7 s a).toArray 33,G]++_) _:=n.front;refine mn 3 j (λw=>∃ae,C o p ([R D (c7 s a).toArray 33,G]++ae) w) ?_;have n:=n.drew;refine fV 1 [0] j ⟨_,n⟩ ?_;refine eM 1 j ⟨_,n⟩ (λw⟨_,n⟩=>hK j j (aw (C.ak (b:=D) n) j)) ?_;refine fV 2 [2,3] j ⟨_,n⟩ ?_;refine tH 11 j (λaz=>?_) (λaz=>?_)
 .refine fV 15 [4,5,6,7,8,9,10,11,12,13,14,15,16,17,18] j ⟨_,n⟩ ?_;refine cX ?_;refine ao 4 j j ?_;have E:z.fi g s=(z,1):=a6 (.inl (dj az));rw [E];exact⟨j,G,O,n.as⟩
 refine fV 1 [4] j ⟨_,n⟩ ?_;refine eM 5 j ⟨_,n⟩ (λw⟨_,n⟩=>hK j j (aw (C.ak (b:=D) n) j)) ?_;refine fV 3 [6,7,8] j ⟨_,n⟩ ?_;refine eM 9 j ⟨_,n⟩ (λw⟨_,n⟩=>hK j j (aw (ap _ (n.holds (G:=G) (by simp))).1 (aH some bv))) ?_;refine fV 4 [10,11,12,13] j ⟨_,n⟩ ?_;refine tH 21 j (λaA=>?_) (λaA=>?_)
 .refine fV 5 [14,15,16,17,18] j ⟨_,n⟩ ?_;refine cX ?_;refine ao 4 j j ?_;have E:z.fi g s=(z,1):=a6 (.inr (.inl (dj aA)));rw [E];exact⟨j,G,O,n.as⟩
 refine fV 2 [14,15] j ⟨_,n⟩ ?_;refine eM 16 j ⟨_,n⟩ (λw⟨_,n⟩=>hK j j (aw (C.ak (b:=D) n) j)) ?_;refine dZ 17 j ?_;refine bF j j j (n8 (i:=s.node) O (n.holds (G:=G) (by simp))) (λw hw=>?_);have hw:=hw.symm;subst hw;refine ar ⟨⟨_,n⟩,?_⟩;refine fV 1 [18] j ⟨_,n⟩ ?_;refine cX ?_;refine bm 0 j j (λV=>?_) (λV=>?_)
 .refine ao 3 j j ?_;have E:z.fi g s=(z,1):=a6 (.inr (.inr (by simpa using V)));rw [E];exact⟨j,G,O,n.as⟩
 have n:C o p ([R D (c7 s a).toArray 33,G]++_) _:=n.front;refine mn 2 j (λw=>∃ae,C o p ([R D (c7 s a).toArray 33,G]++ae) w) ?_;have n:=n.drew;refine fV 3 [0,1,2] j ⟨_,n⟩ ?_;refine eM 3 j ⟨_,n⟩ (λw⟨_,n⟩=>hK j j (aw (ap _ (n.holds (G:=G) (by simp))).1 j)) ?_;refine fV 1 [4] j ⟨_,n⟩ ?_;refine eM 5 j ⟨_,n⟩ (λw⟨_,n⟩=>hK j j (aw (C.ak (b:=D) n) j)) ?_;refine fV 1 [6] j ⟨_,n⟩ ?_;refine eM 7 j ⟨_,n⟩ (λw⟨_,n⟩=>c3 (U:=gq s.eT a.Y a.k4 a.aP a.dT) j j j ((n.bc D).i6 (off:=4) (U:=gq s.eT a.Y a.k4 a.aP a.dT) (λJ v bH=>by simpa [Nat.add_comm] using bH))) ?_;refine fV 3 [8,9,10] j ⟨_,n⟩ ?_;refine eM 11 j ⟨_,n⟩ (λw⟨_,n⟩=>hK j j (aw (ap _ (n.holds (G:=G) (by simp))).1 (aH some aN))) ?_;refine lq 12 16 j j (by kernel_rfl) ?_ ?_;have H:=a9.apart n;refine cN j j j (y7 (f:=s.node) (l:=s.eT) (gJ:=dv) (hZ:=aV) (aL:=z.heard) (aC.st n aF) aD H.y H.rj H.u H.q9 H.ra (aN▸a0) (ap _ (n.holds (G:=G) (by simp))).2 a8 (λm hm=>by have:=(aa.kI m hm).1.l;omega) (λm hm=>(aa.kI m hm).1.aE)) (λr w⟨q,af,aU,bd,Z,Q⟩=>?_);subst aU;have n:=n.aM Q;have n:C o p ([R D (c7 s a).toArray 33,G]++_) _:=n.front;refine ar ⟨⟨_,n⟩,?_⟩;refine fV 3 [13,14,15] j ⟨_,n⟩ ?_;refine dZ 16 j ?_;refine ex n j j (λt w n=>?_);have n:C o p (bi t dK::_) w:=n;have n:C o p ([R D (c7 s a).toArray 33,G]++_) _:=n.front;refine ar ⟨⟨_,n⟩,?_⟩;rotate_left
 refine ex n j j (λt w n=>?_);have n:C o p (bi t dK::_) w:=n;have n:C o p ([R D (c7 s a).toArray 33,G]++_) _:=n.front;refine ar ⟨⟨_,n⟩,?_⟩;refine dZ 12 j ?_;have H:=a9.apart n;refine cN j j j (y7 (f:=s.node) (l:=s.eT) (gJ:=dv) (hZ:=aV) (aL:=z.heard) (aC.st n aF) aD H.y H.rj H.u H.q9 H.ra (aN▸a0) (ap _ (n.holds (G:=G) (by simp))).2 a8 (λm hm=>by have:=(aa.kI m hm).1.l;omega) (λm hm=>(aa.kI m hm).1.aE)) (λr w⟨q,af,aU,bd,Z,Q⟩=>?_);subst aU;have n:=n.aM Q;have n:C o p ([R D (c7 s a).toArray 33,G]++_) _:=n.front;refine ar ⟨⟨_,n⟩,?_⟩;refine fV 3 [13,14,15] j ⟨_,n⟩ ?_;rotate_left
 all_goals
  refine dZ 17 j ?_;refine c4 (n.bc t) j j j (by simpa using(q).one) (by rw [List.size_toArray];exact(q).bW Z) bJ (λw n=>?_);have n:=C.whole (U:=(q).cs) n (by rw [(q).bW Z];rfl);have n:C o p (bi t (q)::_) w:=n;have n:C o p ([R D (c7 s a).toArray 33,G]++_) _:=n.front;refine ar ⟨⟨_,n⟩,?_⟩;refine fV 1 [18] j ⟨_,n⟩ ?_;refine cX ?_;refine bm 5 j j (λah=>?_) (λah=>?_)
  .refine ao 4 j j ?_;have aq:¬(s.node<0\/s.node>=z.bu.length\/(z.rep s.node).isSome=true):=(λh=>h.elim (λh=>absurd h (dN az)) (λh=>h.elim (λh=>absurd h (dN aA)) (λh=>by rw [h] at V;cases V)));have av:(eT g s.node z.heard s.eT)=none:=by cases T:(eT g s.node z.heard s.eT) with|none=>rfl|some _=>rw [T] at ah;cases ah
   have E:z.fi g s=(z,1):=by
    unfold aS.fi;rw [aI aq,av]
   rw [E,av];exact⟨j,G,O,n.as⟩
  obtain⟨m,hm⟩:∃m,(eT g s.node z.heard s.eT)=some m:=gX.1 (by cases T:(eT g s.node z.heard s.eT) with|none=>rw [T] at ah;cases ah|some _=>rfl);obtain⟨X,aT⟩:=bd m hm;have aO:=vo aa.kI hm;rw [<-X] at aO;have aq:¬(s.node<0\/s.node>=z.bu.length\/(z.rep s.node).isSome=true):=(λh=>h.elim (λh=>absurd h (dN az)) (λh=>h.elim (λh=>absurd h (dN aA)) (λh=>by rw [h] at V;cases V)));refine al 5 j (aw (C.ak (b:=t) n) q.g1) ?_;refine bm 1 j j (λaj=>?_) (λaj=>?_)
  .refine bN 3 (U:=q.cs) j j (q.bW Z) (bp (C.ak (b:=t) n)) ?_;refine gC (U:=q.cs) n j j j (q.bW Z) (by decide) (by decide) (λag w n=>?_);have n:C o p (R ag q.cs.toArray 103::_) w:=n;obtain⟨W,cG,bQ,dx,a7,bx,ax,rfl⟩:=bt;have n:C o p [bj g aQ W,cG,bQ,dx,a7,bx,R ag q.cs.toArray 103++af] w:=C.perm (A:=[bj g aQ W++(cG++(bQ++(dx++(a7++bx)))),R ag q.cs.toArray 103,af]) n.as (by simp);refine bo 0 (sU (g:=g) (aQ:=aQ) (c:=W) ax.bz ax.heard (cz.lit (b:=ag) aT Z) (by have:=aa.lost;omega) (by simp) aa.heard (n.ours (cI:=[bj g aQ W,a7,bx,R ag q.cs.toArray 103++af]))) j (λw⟨bl,aW,aY,bq,bs,Q⟩=>?_);have n:=n.b3 Q;refine ao 3 j j ?_
   have E:z.fi g s=(z.g6 [q.P],0):=by
    unfold aS.fi;rw [aI aq,hm];dsimp only;rw [<-X,a6 (by simpa using aj)]
   rw [E];have n:C o p [bj g aQ {W with heard:=bl},cG,bQ,dx,aW,aY] _:=n.as;exact⟨j,_,⟨{W with heard:=bl},cG,bQ,dx,aW,aY,⟨ax.bu,ax.parts,ax.cJ,bq,bs⟩,j⟩,n.so⟩
  refine al 4 j (aw (C.ak (b:=t) n) q.gl) ?_;obtain⟨bC,_⟩:=aT.read (n.holds (G:=af) (by simp));refine bo 0 (DT (c:=q.c) bC.x (by have:=aO.1.1.x;have K:q.x.length<=200:=this;omega)) j (λw Q=>?_);have n:=n.aM Q;refine cl 3 n j (λF w n=>?_);refine ck 0 (n.bc F) j j j j j (λw n=>?_);have n:=C.whole (U:=((g5 q.x).getD jM).cs) n j;have n:C o p (R F ((g5 q.x).getD jM).cs.toArray 44::_) w:=n;refine bm 6 j j (λan=>?_) (λan=>?_)
  .refine ao 4 j j ?_;have av:g5 q.x=none:=by cases T:g5 q.x with|none=>rfl|some _=>rw [T] at an;cases an
   have E:z.fi g s=(z,2):=by
    unfold aS.fi;rw [aI aq,hm];dsimp only;rw [<-X,aI (by simpa using aj)];show(match g5 q.x with|none=>_|some bh=>_)=_;rw [av]
   rw [E,av];exact⟨j,G,O,n.as⟩
  have bE:q.k=6:=by simpa using aj
  have bB:m.k=6:=by rw [<-X];exact bE
  obtain⟨e2,a4⟩:∃e2,e2=cS g 3 0 0 (bO s.eT.x) s.node:=⟨_,j⟩;have a5:e2.ok:=by rw [a4];exact iX _ _ _ _ _ _ (e7 _)
  have aG:q.l=[e2]:=by have K:=FG aa.kI hm bB;rw [<-X,<-a4] at K;exact K
  obtain⟨S,I,rfl,ba,_,_,_⟩:=aT;obtain⟨bk,bY,bZ,bf,bS,_⟩:=Row.block ba.l (by rw [aG];simp)
  have bG:Value.slice q.B q.l.length q.d= .slice (some ⟨bk,0,none⟩) 1 q.d:=by
   have K:=bf;simp only [oS] at K;rw [K.1,aG];rfl
  have bI:∀w,Holds w I->Rd w (some ⟨bk,0+0*68,none⟩) e2.cs:=λw br=>by
   obtain⟨_,_,e,_,_,be,_⟩:=Row.read ba.l br;rw [bf] at e;simp only [oS] at e;obtain⟨rfl,_,_⟩:=e;have K:vcs q.l=e2.cs:=by rw [aG];simp
   rw [K] at be;simpa using be
  have n:C o p [bi t q,R F ((g5 q.x).getD jM).cs.toArray 44,G,S,I] _:=C.perm (A:=[bi t q,R F ((g5 q.x).getD jM).cs.toArray 44,G,S++I]) n.as (by simp);obtain⟨eC,bR,bP,bg,cV,ay,ac,a3,aZ,rfl,aR,bw⟩:=O.GB (i:=q.s.toNat%z.parts.length) (jE _ (by rw [aa.parts];decide));have n:C o p [bi t q,R F ((g5 q.x).getD jM).cs.toArray 44,cV,ay,ac,S,I] _:=C.perm (A:=[bi t q,R F ((g5 q.x).getD jM).cs.toArray 44,cV++(ay++ac),S,I]) n.as (by simp);have n:C o p ([bi t q,R F ((g5 q.x).getD jM).cs.toArray 44,cV,S,I]++_) _:=n.front;refine mn 2 j (λw=>∃ae,C o p ([bi t q,R F ((g5 q.x).getD jM).cs.toArray 44,cV,S,I]++ae) w) ?_;have n:=n.drew;refine fV 3 [0,1,2] j ⟨_,n⟩ ?_;refine eM 3 j ⟨_,n⟩ (λw⟨_,n⟩=>hK j j (aw (aR _ (n.holds (G:=cV) (by simp))).1 (aH some a3))) ?_;refine fV 1 [4] j ⟨_,n⟩ ?_;refine eM 5 j ⟨_,n⟩ (λw⟨_,n⟩=>hK j j (aw (C.ak (b:=t) n) q.gI)) ?_;refine fV 3 [6,7,8] j ⟨_,n⟩ ?_;refine eM 9 j ⟨_,n⟩ (λw⟨_,n⟩=>hK j j (aw (aR _ (n.holds (G:=cV) (by simp))).1 (aH some a3))) ?_;refine fV 1 [10] j ⟨_,n⟩ ?_;refine rn 67 (.int .i64 (q.s.toNat:Nat)) j (aH (Value.int .i64) (by have K:0<=q.s:=aO.2.1;omega)) ?_;refine eM 11 j ⟨_,n⟩ (λw _=>pK j j (by rw [aa.parts];decide)) ?_;refine eM 12 j ⟨_,n⟩ (λw _=>gb j j (jE _ (by rw [aa.parts];decide))) ?_;refine eM 13 j ⟨_,n⟩ (λw⟨_,n⟩=>hK j j (aR _ (n.holds (G:=cV) (by simp))).2) ?_;refine eM 14 j ⟨_,n⟩ (λw⟨_,n⟩=>c3 (U:=((g5 q.x).getD jM).cs) j j j (bp (C.ak (b:=F) n))) ?_;refine fV 1 [15] j ⟨_,n⟩ ?_;refine eM 16 j ⟨_,n⟩ (λw⟨_,n⟩=>hK j j (aw (C.ak (b:=t) n) (q.eu.trans (aH some bG)))) ?_;refine eM 17 j ⟨_,n⟩ (λw _=>gb (J:=0) j j (by decide)) ?_;refine eM 18 j ⟨_,n⟩ (λw⟨_,n⟩=>c3 (U:=e2.cs) j j (e2.len a5) (bI _ (n.holds (G:=I) (by simp)))) ?_;refine dZ 19 j ?_;obtain⟨fH,a1⟩:∃fH,z.parts[q.s.toNat%z.parts.length]'(jE _ (by rw [aa.parts];decide))=fH:=⟨_,j⟩;rw [a1] at aZ;have bb:z.parts[q.s.toNat%z.parts.length]? =some fH:=by rw [<-a1];exact cf _
  have aK:=aa.jq _ (hk bb);have n:C o p [cV,ay,ac,bi t q,R F ((g5 q.x).getD jM).cs.toArray 44,S,I] _:=n.as;refine bF j j j (A1 (m:=(g5 q.x).getD jM) (v:=e2) aZ (by have:=aK.ch;omega) (by have:=aK.acc;omega) (aK.len aD) (aC.st n aF) aD (n.eE aC aF) a5 (n.ours (cI:=[ay]))) (λw⟨aJ,bn,Q⟩=>?_);have n:=n.b3 Q;have n:C o p ([bi t q,R F ((g5 q.x).getD jM).cs.toArray 44,cV,S,I]++_) _:=n.front;refine ar ⟨⟨_,n⟩,?_⟩;refine fV 1 [20] j ⟨_,n⟩ ?_;refine cX ?_;refine ao 0 j j ?_
  have E:z.fi g s=({z with parts:=z.parts.set (q.s.toNat%z.parts.length) (fH.c8 g ((g5 q.x).getD jM) e2).1},(fH.c8 g ((g5 q.x).getD jM) e2).2):=by
   unfold aS.fi;rw [aI aq,hm];dsimp only;rw [<-X,aI (by simpa using aj)];show(match g5 q.x with|none=>(z,(2:Int))|some bh=>match z.parts[q.s.toNat%z.parts.length]?,q.l with|some b,v::_=>_|_,_=>_)=_;rw [bb,aG];cases T:g5 q.x with
   |none=>rw [T] at an;cases an
   |some bh=>rfl
  rw [E];have n:C o p [cV,aJ,ac] _:=n.as;exact⟨j,_,bw _ aJ bn,C.perm (A:=[cV,aJ,ac]) n (by simp)⟩
def mE(g:am)(z:aS)(aD:List cy)(l:List (Int×Value)):List cy:=l.foldl (λaD q=>jP g aD ((z.bu[q.1.toNat]?).getD none)) aD
theorem GU(g:am)(z:aS)(aD:List cy)(l:List (Int×Value))(q:Int×Value):mE g z aD (l++[q])=jP g (mE g z aD l) ((z.bu[q.1.toNat]?).getD none):=by unfold mE;rw [List.foldl_append];rfl
theorem vV{g:am}{z:aS}(f:∀(i:Nat)(x:bk),z.bu[i]? =some (some x)->x.aE.length<=512):∀(l:List (Int×Value)){aD:List cy}{M:Nat},(∀b∈aD,b.ok g M)->(∀b∈mE g z aD l,b.ok g (M+512*l.length))/\(mE g z aD l).length=aD.length
 |[],_,_,h=>⟨h,j⟩
 |q::r,aD,M,h=>by
  have d:(∀b∈jP g aD ((z.bu[q.1.toNat]?).getD none),b.ok g (M+512))/\(jP g aD ((z.bu[q.1.toNat]?).getD none)).length=aD.length:=by
   cases a:(z.bu[q.1.toNat]?).getD none with
   |none=>exact⟨λb c=>(h b c).more (by omega),j⟩
   |some x=>
    have n:z.bu[q.1.toNat]? =some (some x):=by
     cases e:z.bu[q.1.toNat]? with
     |none=>rw [e] at a;cases a
     |some I=>rw [e] at a;have a:I=some x:=a;rw [a]
    exact⟨λb c=>(tm x.aE h b c).more (by have:=f _ x n;omega),tl _ _⟩
  obtain⟨k,m⟩:=vV f r d.1;exact⟨λb c=>(k b c).more (by rw [ez];omega),m.trans d.2⟩
theorem zT{g:am}{z:aS}:∀{U:List Value}{xs:List (Option bk)}{H:List Chunk}(_:ed (h5 g) U xs H)(k:Nat)(aD:List cy),(∀(i:Nat)(b:i<xs.length),z.bu[k+i]? =some xs[i])->mE g z aD (fe k U)=xs.foldl (jP g) aD
 |[],[],_,_,_,_,_=>rfl
 |[],_::_,_,h,_,_,_=>h.elim
 |_::_,[],_,h,_,_,_=>h.elim
 |v::U,x::xs,_,⟨_,_,_,f,h⟩,k,aD,c=>by
  have d:=zT h (k+1) (jP g aD x) (λi b=>by have:=c (i+1) (by simpa using b);rw [show k+1+i=k+(i+1) by omega];simpa using this);rw [fe,hQ,<-d];split
  .rename_i aJ;cases x with
   |none=>rfl
   |some y=>obtain⟨j,e,_⟩:=f;rw [e] at aJ;cases aJ
  .show mE g z (jP g aD ((z.bu[((k:Nat):Int).toNat]?).getD none)) (fe (k+1) U)=_;have a:=c 0 (by simp);rw [oV] at a;rw [lB,a];rfl
theorem yG{g:am}:∀{U:List Value}{xs:List (Option bk)}{H:List Chunk}(_:ed (h5 g) U xs H)(k:Nat){q:Int×Value}{r:List (Int×Value)},fe k U=q::r->∃(x:bk)(a:Nat)(c:List Chunk),se xs=some x/\q.2=ab a/\g8 g a x c/\∀w,Holds w H->Holds w c
 |[],_,_,_,_,_,_,b=>by cases b
 |_::_,[],_,h,_,_,_,_=>h.elim
 |v::U,x::xs,_,⟨ai,aA,rfl,l,h⟩,k,q,r,b=>by
  rw [fe] at b;split at b
  .rename_i aJ;obtain⟨i,a,c,d,e,m,n⟩:=yG h (k+1) b;refine⟨i,a,c,?_,e,m,λw f=>n w f.right⟩;cases x with
   |none=>exact d
   |some y=>obtain⟨a,o,_⟩:=l;rw [o] at aJ;cases aJ
  .rename_i aJ;cases b;obtain⟨i,a,rfl,d,e⟩:=l.some (by simpa using aJ);exact⟨i,a,ai,j,d,e,λw f=>f.left⟩
theorem yI{g:am}:∀{U:List Value}{xs:List (Option bk)}{H:List Chunk}(_:ed (h5 g) U xs H)(k:Nat){i:Nat}{x:bk},xs[i]? =some (some x)->∃q r,fe k U=q::r
 |[],[],_,_,_,_,_,a=>by simp at a
 |[],_::_,_,h,_,_,_,_=>h.elim
 |_::_,[],_,h,_,_,_,_=>h.elim
 |v::U,y::xs,_,⟨_,_,_,c,h⟩,k,i,x,a=>by
  rw [fe];split
  .rename_i aJ;cases i with
   |zero=>
    simp at a;subst a;obtain⟨d,b,_⟩:=c;rw [b] at aJ;cases aJ
   |succ i=>exact yI h (k+1) (by simpa using a)
  .exact⟨_,_,j⟩
def tD(a:Option Addr)(pre:List (Int×Value)):Prop:=(pre=[]/\a=none)\/∃q r b,pre=q::r/\q.2=ab b/\a=some ⟨b,0,none⟩
theorem FQ{α:Type}{f:α->α}{l:List α}{J:Nat}(a:J<l.length):((l.take J).map f++l.drop J).set J (f l[J])=(l.take (J+1)).map f++l.drop (J+1):=by
 have b:((l.take J).map f).length=J:=by rw [fB,hl];omega
 rw [tY _ _ (by omega),b,Nat.sub_self,km a,rH,fu a,jU,List.append_assoc];rfl
theorem FP{α:Type}{f:α->α}{l:List α}{J:Nat}(b:J<l.length)(h:J<((l.take J).map f++l.drop J).length):((l.take J).map f++l.drop J)[J]=l[J]:=by
 have c:((l.take J).map f).length=J:=by rw [fB,hl];omega
 have a:((l.take J).map f++l.drop J)[J]? =some l[J]:=by rw [jf (by omega),c,Nat.sub_self,lA,oV,cf b]
 exact hz ((cf h).symm.trans a)
abbrev ctz:Value×bH->List Value:=λe=>e.2.cs++[e.1]
theorem GV{o:World}{g:am}{aQ:Nat}{z:aS}{G:List Chunk}(dp:eR g aQ z G){N M L:Nat}(aa:z.df g (λ_=>N) M L)(em:773<=N)(en:N+150<=1000000)(el:M+10000<=1000000)(ek:L+4200000<=1000000000)(cP:g.at o)(b0:g.ok)(dH:g.off (au [G]))(d:Own [G] o):Calls prog 23 #[ab aQ] o λr w=>r=ad 0/\∃ai,eR g aQ (z.polls g) ai/\C o (au [G]) [ai] w:=by
 obtain⟨K,bO⟩:∃K,K=au [G]:=⟨_,j⟩;have cV:g.off K:=bO▸dH;rw [<-bO];have d:C o K [G] o:=bO▸d;obtain⟨c,cG,bQ,dx,a7,bx,aC,rfl⟩:=dp;obtain⟨eg,n,U,rfl,a5,aD⟩:=aC.bu;obtain⟨ef,a0,aR,rfl,b9,cB⟩:=aC.parts;obtain⟨ee,O,bB,rfl,b8,cA⟩:=aC.cJ;have c1:=aD.len;have eC:=cB.len;have eB:=cA.len;have dF:0<z.bu.length:=by obtain⟨i,x,ce⟩:=aa.some_;have:=(eY.1 ce).1;omega
 have er:z.bu.length<=10:=by rw [aa.bu];exact b0.n10
 have es:=aa.parts;have ep:=aa.cJ;obtain⟨F,cap,cur,br,rfl,ev⟩:=Row.block a5 dF;obtain⟨B,dc,E,cK,rfl,ey⟩:=Row.block b9 (by omega);obtain⟨gc,db,D,cF,rfl,ew⟩:=Row.block b8 (by omega);rw [br] at a5;rw [<-c1] at br a5;have dT:=aD.qQ;have bb:∀(i:Nat)(x:bk),z.bu[i]? =some (some x)->x.aE.length<=512:=λi x ce=>(aa.iz i x ce).1.A6
 have dJ:∀w,Holds w (R B E 35)->∀(J:Nat)(v:Value),aR[J]? =some v->w.cell? ⟨B,0+J*1,none⟩=some v:=λw aB J v ba=>by
  obtain⟨_,_,e,_,_,b7,_⟩:=Row.read b9 aB;rw [cK] at e;cases e;have W:=b7.cell ba;rw [add_lit] at W;rw [gZ];exact W
 have du:∀w,Holds w (R gc D 86)->∀(J:Nat)(v:Value),bB[J]? =some v->w.cell? ⟨gc,0+J*1,none⟩=some v:=λw aB J v ba=>by
  obtain⟨_,_,e,_,_,b7,_⟩:=Row.read b8 aB;rw [cF] at e;cases e;have W:=b7.cell ba;rw [add_lit] at W;rw [gZ];exact W
 have d:C o K [bj g aQ c,R F cur 40,n,R B E 35,a0,R gc D 86,O,a7,bx] o:=d.perm (by simp);refine j0 func23 (bM 2 d j j (λay w d=>?_));have d:C o K [R ay #[ab aQ] 24,bj g aQ c,R F cur 40,n,R B E 35,a0,R gc D 86,O,a7,bx] w:=d;refine cl 3 d j (λt w d=>?_);have d:C o K (R t #[.pointer none] 40::_) w:=d;refine al 3 j (aw (C.ak (b:=ay) d) j) (bh 0 (yF (o:=w) (aQ:=aQ)) j (λr w⟨c2,b2,aj⟩=>?_));subst b2;have d:=d.aM aj;have d:C o K [R c2 #[ab aQ] 24,R ay #[ab aQ] 24,R t #[.pointer none] 40,bj g aQ c,R F cur 40,n,R B E 35,a0,R gc D 86,O,a7,bx] w:=d.as;have d:C o K ([R c2 #[ab aQ] 24]++[R ay #[ab aQ] 24,R t #[.pointer none] 40,bj g aQ c,R F cur 40,n,R B E 35,a0,R gc D 86,O,a7,bx]) w:=d
 refine j4 1 j (yE (g:=g) (aQ:=aQ) (c:=c) br a5 dT (by omega)) j (by have:=d.size;simpa using this) d j (λ_=>rfl) (by intro p aC;simp at aC;rcases aC with rfl|rfl<;>rfl)
  (λpre ae=>∃(av:Option Addr)(Z:List cy)(H:List Chunk),ae=[R ay #[ab aQ] 24,R t #[.pointer av] 40,bj g aQ c,R F cur 40,n,R B E 35,H,R gc D 86,O,a7,bx]/\tD av pre/\mE g z z.parts pre=Z/\ed (jv g) aR Z H/\pre.length<=10) (λ_ _=>False) ⟨none,z.parts,a0,j,.inl ⟨j,j⟩,j,cB,b6 _⟩ (λL aK dn=>by have ah:=dn.cg (C.ak (b:=aQ) d);exact ah) (λpre ae L a1=>by obtain⟨av,Z,H,rfl,_⟩:=a1;simp) ?_ ?_ (λ_ _ h=>h.elim) (λ_ _ _ h=>h.elim)
 .rintro y pre ⟨aG,d7⟩ eb c6 eK cq ⟨av,Z,H,rfl,bs,aP,bS,dK⟩ d;obtain⟨i,dD,cd,dG⟩:=sl (q:=(aG,d7)) (by obtain⟨d6,b5⟩:=cq;rw [b5];simp);have d:=C.gy d;refine bI 2 j (⟨j,_,d,λc6 S d=>?_⟩);have cQ:=cP.st d cV;have dI:g.off (au [R ay #[ab aQ] 24,R t #[.pointer av] 40,bj g aQ c,R F cur 40,n,R B E 35,H,R gc D 86,O,a7,bx]):=(cP.apart d cV).sub (λb bl=>np.2 (.inr (np.2 (.inl bl))));have d:=C.gy d;obtain⟨P,bL⟩:∃P,P=au [R ay #[ab aQ] 24,R t #[.pointer av] 40,bj g aQ c,R F cur 40,n,R B E 35,H,R gc D 86,O,a7,bx]:=⟨_,j⟩;have cU:g.off P:=bL▸dI;rw [<-bL];have d:C S P [R ay #[ab aQ] 24,R t #[.pointer av] 40,bj g aQ c,R F cur 40,n,R B E 35,H,R gc D 86,O,a7,bx] S:=bL▸d;have eq:i<U.length:=(eY.1 cd).1;have cR:i<z.bu.length:=by omega
  obtain⟨v,H1,cn,ax,ah,dl,dr,_⟩:=aD.at i cR;rw [ah] at cd;cases cd;obtain⟨x,aI,d3,rfl,cC⟩:=dr.some dG;have cz:∀w,Holds w n->Holds w cn:=λw aB=>by rw [dl] at aB;exact aB.right.left
  have bA:z.bu[i]? =some (some x):=by rw [cf cR,d3]
  have eu:pre.length+1<=U.length:=by
   obtain⟨d6,b5⟩:=cq;have aL:=vg U 0;rw [b5] at aL;simp at aL;omega
  obtain⟨dL,dQ⟩:=vV (g:=g) (z:=z) bb pre aa.jq;have dM:∀b∈Z,b.ok g (M+512*pre.length):=by rw [<-aP];exact dL
  have dP:Z.length=z.parts.length:=by rw [<-aP];exact dQ
  refine al 4 j (aw (C.ak (b:=t) d) j) (bm 1 j j (λbE=>?_) (λbE=>?_));refine dB 2 (d.bc t) j j j j (λw d=>?_);have d:C S P (R t #[ab aI] 40::_) w:=d
  obtain⟨Q,cO,d⟩:∃Q,tD Q (pre++[(aG,ab aI)])/\C S P [R ay #[ab aQ] 24,R t #[.pointer Q] 40,bj g aQ c,R F cur 40,n,R B E 35,H,R gc D 86,O,a7,bx] w:=by
   refine⟨some ⟨aI,0,none⟩,?_,d.as⟩;rcases bs with⟨rfl,_⟩|⟨q,r,c5,_,_,rfl⟩
   .exact .inr ⟨_,[],aI,j,j,j⟩
   .cases bE
  refine bh 3 (A8 cC (cz _ (d.holds (G:=n) (by simp))) (by have:=bb i x bA;omega)) j (λr w⟨be,cu,aj⟩=>?_);rotate_left
  obtain⟨Q,cO,d⟩:∃Q,tD Q (pre++[(aG,ab aI)])/\C S P [R ay #[ab aQ] 24,R t #[.pointer Q] 40,bj g aQ c,R F cur 40,n,R B E 35,H,R gc D 86,O,a7,bx] S:=by
   refine⟨av,?_,d.as⟩;rcases bs with⟨_,rfl⟩|⟨q,r,c5,rfl,aJ,aL⟩
   .cases bE
   .exact .inr ⟨q,_,c5,j,aJ,aL⟩
  refine bh 4 (A8 cC (cz _ (d.holds (G:=n) (by simp))) (by have:=bb i x bA;omega)) j (λr w⟨be,cu,aj⟩=>?_);rotate_left
  all_goals
   have d:=d.aM aj;obtain⟨ap,V,us,rfl,cZ,bW⟩:=cu;obtain⟨cj,cp,rfl,eA,eD⟩:=Row.form cZ;have ez:=bW.len;have cL:∀e∈us.zip x.aE,(ctz e).length=5:=λ_ _=>rfl
   have eF:=bb i x bA;have d:C S P [R ay #[ab aQ] 24,R t #[.pointer Q] 40,bj g aQ c,R F cur 40,n,R B E 35,H,R gc D 86,O,a7,bx,ap,V] w:=C.perm (A:=[R ay #[ab aQ] 24,R t #[.pointer Q] 40,bj g aQ c,R F cur 40,n,R B E 35,H,R gc D 86,O,a7,bx,ap++V]) d.as (by simp)
   refine cH 3 j (ct:=Nat×List cy×List Chunk) (λk=>[(1,ab ay),(22,.slice cj x.aE.length cp),(23,.int .i64 (x.aE.length:Nat)),(24,.int .i64 (k.1:Nat))])
    (λk w=>k.1<=x.aE.length/\k.2.1=(x.aE.take k.1).foldl (ou g x) Z/\ed (jv g) aR k.2.1 k.2.2/\C S P [R ay #[ab aQ] 24,R t #[.pointer Q] 40,bj g aQ c,R F cur 40,n,R B E 35,k.2.2,R gc D 86,O,a7,bx,ap,V] w) (λk=>x.aE.length-k.1) (0,Z,H) ⟨j,j,j,j,aY⟩ ⟨b6 _,j,bS,d⟩ ?_
   rintro⟨m,ac,bf⟩ w ⟨hm,a4,bR,d⟩;dsimp only at hm a4 bR d⊢;have dN:ac.length=z.parts.length:=by rw [a4,tl];exact dP
   have dS:∀b∈ac,b.ok g (M+512*pre.length+512):=λb bl=>by
    rw [a4] at bl;exact(tm (x:=x) (x.aE.take m) dM b bl).more (by rw [hl];omega)
   refine cm 4 j j (λc7=>?_) (λc7=>?_)
   .have a3:m<x.aE.length:=by omega
    have eG:(us.zip x.aE).length=x.aE.length:=by rw [oR];omega
    obtain⟨_,_,dd,_,_,c0,_⟩:=Row.read cZ (d.holds (G:=ap) (by simp));cases dd;have bv:(us.zip x.aE)[m]'(by omega)=(us[m]'(by omega),x.aE[m]):=List.getElem_zip;obtain⟨d9,ci,cb,bn,_,dX,dz⟩:=bW.read (d.holds (G:=V) (by simp)) m a3;obtain⟨X,Y,rfl⟩:=u1 (r:=[]) dz dX;have d0:us[m]'(by omega)= .slice (some ⟨X,Y,none⟩) 1 ci:=by rw [cf (by omega)] at cb;exact hz cb
    have d1:∀w,Holds w V->Rd w (some ⟨X,Y+0*68,none⟩) (dm g x.aE[m] x.an).cs:=λw aB=>by
     obtain⟨gU,ei,ah,_,_,aJ,_⟩:=bW.read aB m a3;rw [cb] at ah;cases ah;simpa [vcs] using aJ
    refine aq 5 j (fz j j j j c0 (v:=ad x.aE[m].k) (h7 (f:=ctz) (J:=0) (us.zip x.aE) cL m (by omega) (by decide) (by rw [bv];rfl)) a3 (λeh dh eo=>?_));have cY:=iY (f:=ctz) (dh▸c0) cL m (by omega);rw [bv,d0] at cY;refine bN 0 (U:=(x.aE[m].cs++[Value.slice (some ⟨X,Y,none⟩) 1 ci])) j j j cY (cl 0 d j (λag w d=>ck 0 (d.bc ag) j j j j j (λw d=>?_)));have d:=C.whole (U:=(x.aE[m].cs++[Value.slice (some ⟨X,Y,none⟩) 1 ci])) d j;have d:C S P (R ag (x.aE[m].cs++[Value.slice (some ⟨X,Y,none⟩) 1 ci]).toArray 121::_) w:=d;have d:C S P [R ay #[ab aQ] 24,R t #[.pointer Q] 40,bj g aQ c,R F cur 40,n,R B E 35,bf,R gc D 86,O,a7,bx,ap,V,R ag (x.aE[m].cs++[Value.slice (some ⟨X,Y,none⟩) 1 ci]).toArray 121] w:=d.as;refine al 2 j (aw (C.ak (b:=ay) d) j) (al 2 j (aw (C.ak (b:=aQ) d) (aH some cK)) ?_)
    refine cH 3 j (ct:=Nat×List Chunk) (λk=>[(1,ab ay),(7,ab ag),(22,.slice cj x.aE.length cp),(23,.int .i64 (x.aE.length:Nat)),(24,.int .i64 (m:Nat)),(31,.slice (some ⟨B,0,none⟩) z.parts.length dc),(32,.int .i64 (z.parts.length:Nat)),(33,.int .i64 (k.1:Nat))])
     (λk w=>k.1<=z.parts.length/\ed (jv g) aR ((ac.take k.1).map (λb:cy=>(b.c8 g x.aE[m] (dm g x.aE[m] x.an)).1)++ac.drop k.1) k.2/\C S P [R ay #[ab aQ] 24,R t #[.pointer Q] 40,bj g aQ c,R F cur 40,n,R B E 35,k.2,R gc D 86,O,a7,bx,ap,V,R ag (x.aE[m].cs++[Value.slice (some ⟨X,Y,none⟩) 1 ci]).toArray 121] w) (λk=>z.parts.length-k.1) (0,bf) ⟨j,j,j,j,j,j,j,j,aY⟩ ⟨b6 _,by simpa using bR,d⟩ ?_
    rintro⟨J,co⟩ w ⟨dA,bi,d⟩;dsimp only at dA bi d⊢;refine cm 4 j j (λc9=>?_) (λc9=>?_)
    .have cS:J<z.parts.length:=by omega
     have bZ:J<ac.length:=by omega
     have cT:J<((ac.take J).map (λb:cy=>(b.c8 g x.aE[m] (dm g x.aE[m] x.an)).1)++ac.drop J).length:=by rw [b4,List.length_map,List.length_take,List.length_drop];omega
     obtain⟨v9,aW,bC,aX,cc,rfl,dj,dU⟩:=bi.at J cT;obtain⟨bg,rfl,cr⟩:=dj;rw [FP bZ cT] at cr;refine aq 5 j (hM j j j j cS ?_);refine al 0 j (dJ _ (d.holds (G:=R B E 35) (by simp)) J _ cc) ?_;have d:C S P ([R ag (x.aE[m].cs++[Value.slice (some ⟨X,Y,none⟩) 1 ci]).toArray 121,V]++_) _:=d.front;have d:=d.drew;refine bw 1 j (λw=>∃ae,C S P ([R ag (x.aE[m].cs++[Value.slice (some ⟨X,Y,none⟩) 1 ci]).toArray 121,V]++ae) w) ⟨_,d⟩ ?_;refine af 0 2 j (aT 2 j (λw⟨_,d⟩=>c3 (U:=x.aE[m].cs) j j j ((d.bc ag).i6 (off:=0) (U:=x.aE[m].cs) (λJ v ba=>by rw [fg];exact r5 (m:=x.aE[m]) (u:=Value.slice (some ⟨X,Y,none⟩) 1 ci) ba))) (af 3 1 j (a8 4 j a1 j (aT 5 j (λw _=>gb (J:=0) j j (by decide)) (aT 6 j (λw⟨_,d⟩=>c3 (U:=(dm g x.aE[m] x.an).cs) j j ((dm g x.aE[m] x.an).len (i2 _ _ _)) (d1 _ (d.holds (G:=V) (by simp)))) (dy 7 j ?_))))));have d:C S P [R ay #[ab aQ] 24,R t #[.pointer Q] 40,bj g aQ c,R F cur 40,n,R B E 35,aW,bC,aX,R gc D 86,O,a7,bx,ap,V,R ag (x.aE[m].cs++[Value.slice (some ⟨X,Y,none⟩) 1 ci]).toArray 121] _:=C.perm (A:=[R ay #[ab aQ] 24,R t #[.pointer Q] 40,bj g aQ c,R F cur 40,n,R B E 35,aW++(bC++aX),R gc D 86,O,a7,bx,ap,V,R ag (x.aE[m].cs++[Value.slice (some ⟨X,Y,none⟩) 1 ci]).toArray 121]) d.as (by simp);have bV:=dS ac[J] (et bZ);refine cN j j j (A1 (m:=x.aE[m]) (v:=(dm g x.aE[m] x.an)) cr (by have:=bV.ch;omega) (by have:=bV.acc;omega) (bV.len b0) (cQ.st d cU) b0 (d.eE cQ cU) (i2 _ _ _) (d.ours (cI:=[bC]))) (λr w⟨b2,bd,di,aj⟩=>?_);subst b2;have d:=d.b3 aj;have d:C S P [R ay #[ab aQ] 24,R t #[.pointer Q] 40,bj g aQ c,R F cur 40,n,R B E 35,aW,bd,aX,R gc D 86,O,a7,bx,ap,V,R ag (x.aE[m].cs++[Value.slice (some ⟨X,Y,none⟩) 1 ci]).toArray 121] _:=d.as;have d:C S P [R ay #[ab aQ] 24,R t #[.pointer Q] 40,bj g aQ c,R F cur 40,n,R B E 35,aW++(bd++aX),R gc D 86,O,a7,bx,ap,V,R ag (x.aE[m].cs++[Value.slice (some ⟨X,Y,none⟩) 1 ci]).toArray 121] _:=d.perm (by simp);refine ar (cX (bq 1 j j j (cM J (by omega)) (bP 1 j ?_)));have aF:=dU (((λb:cy=>(b.c8 g x.aE[m] (dm g x.aE[m] x.an)).1)) ac[J]) bd ⟨bg,j,di⟩;rw [FQ bZ] at aF;exact⟨(J+1,aW++(bd++aX)),⟨j,j,j,j,j,j,j,j,aY⟩,⟨cS,aF,d⟩,by dsimp only;omega⟩
    refine bq 2 j j j (cM m (by omega)) (bP 1 j ?_);have dC:J=z.parts.length:=by omega
    rw [dC,<-dN,gu,List.drop_length,gY] at bi;have d:C S P [R ay #[ab aQ] 24,R t #[.pointer Q] 40,bj g aQ c,R F cur 40,n,R B E 35,co,R gc D 86,O,a7,bx,ap,V] _:=d.as;refine⟨(m+1,ou g x ac x.aE[m],co),⟨j,j,j,j,aY⟩,⟨a3,?_,bi,d⟩,by dsimp only;omega⟩;dsimp only;rw [fu a3,nT,<-a4];rfl
   refine bI 1 j ?_;have dE:m=x.aE.length:=by omega
   have d4:mE g z z.parts (pre++[(aG,ab aI)])=ac:=by
    rw [GU,aP];have e:aG.toNat=i:=by have ej:aG=((0+i:Nat):Int):=dD;omega
    show jP g Z ((z.bu[aG.toNat]?).getD none)=ac;rw [e,bA,a4,dE,gu];rfl
   have d:C S P [R ay #[ab aQ] 24,R t #[.pointer Q] 40,bj g aQ c,R F cur 40,n,R B E 35,bf,R gc D 86,O,a7,bx] w:=d.as;exact⟨_,d,Q,ac,bf,j,cO,d4,bR,by rw [b4,List.length_singleton];omega⟩
 rintro xs ec w dq ⟨av,Z,ao,rfl,bs,aP,bS,dK⟩ d;subst dq;obtain⟨eH,eL,d2⟩:=aa.some_;obtain⟨eI,eJ,b1⟩:=yI aD 0 d2;obtain⟨I,T,ea,dw,dW,cE,cx⟩:=yG aD 0 b1
 obtain rfl:av=some ⟨T,0,none⟩:=by
  rcases bs with⟨ah,_⟩|⟨q,r,aI,ah,aJ,aL⟩
  .rw [b1] at ah;cases ah
  .rw [b1] at ah;cases ah;rw [dW] at aJ;cases aJ;exact aL
 have dO:Z=z.bu.foldl (jP g) z.parts:=by
  rw [<-aP];exact zT aD 0 z.parts (λi bX=>by rw [fg];exact cf bX)
 have dR:=(vV (g:=g) (z:=z) bb (fe 0 U) aa.jq).2;have d:C o K (R ay #[ab aQ] 24::[R t #[ab T] 40,bj g aQ c,R F cur 40,n,R B E 35,ao,R gc D 86,O,a7,bx]) w:=d.as;refine al 3 j (aw (C.ak (b:=ay) d) j) (al 2 j (aw (C.ak (b:=aQ) d) (aH some cF)) ?_)
 refine cH 3 j (ct:=Nat×List (bG×Int)×List Chunk) (λk=>[(3,ab t),(50,.slice (some ⟨gc,0,none⟩) z.cJ.length db),(51,.int .i64 (z.cJ.length:Nat)),(52,.int .i64 (k.1:Nat))])
  (λk w=>k.1<=z.cJ.length/\k.2.1=(List.range k.1).foldl (kA I) z.cJ/\ed l0 bB k.2.1 k.2.2/\C o K [R t #[ab T] 40,bj g aQ c,R F cur 40,n,R B E 35,ao,R gc D 86,k.2.2,a7,bx] w) (λk=>z.cJ.length-k.1) (0,z.cJ,O) ⟨j,j,j,j,aY⟩ ⟨b6 _,j,cA,d.as⟩ ?_
 rintro⟨i,cs,bD⟩ w ⟨bX,a2,bT,d⟩;dsimp only at bX a2 bT d⊢;have dv:cs.length=z.cJ.length:=by rw [a2];exact(wm (List.range i) aa.kq).2
 refine cm 4 j j (λda=>?_) (λda=>?_)
 .have bY:i<z.cJ.length:=by omega
  have bt:i<cs.length:=by omega
  obtain⟨v9,H1,cn,ax,cc,rfl,cv,cW⟩:=bT.at i bt;obtain⟨l,bo⟩:∃l,cs[i]=l:=⟨_,j⟩;rw [bo] at cv;obtain⟨aN,az,GE,rfl,cw,rfl⟩:=cv;have d:C o K [R t #[ab T] 40,bj g aQ c,R F cur 40,n,R B E 35,ao,R gc D 86,H1,de aN az l.2,GE,ax,a7,bx] w:=C.perm (A:=[R t #[ab T] 40,bj g aQ c,R F cur 40,n,R B E 35,ao,R gc D 86,H1++((de aN az l.2++GE)++ax),a7,bx]) d (by simp);refine aq 6 j (hM j j j j bY ?_);refine al 0 j (du _ (d.holds (G:=R gc D 86) (by simp)) i _ cc) ?_;have d:C o K ([R t #[ab T] 40,de aN az l.2,n]++_) _:=d.front;have d:=d.drew;refine bw 3 j (λw=>∃ae,C o K ([R t #[ab T] 40,de aN az l.2,n]++ae) w) ⟨_,d⟩ (a8 0 j a1 j (af 1 4 j (a8 5 j a1 j (aO 6 10 j j ?_ ?_))));refine bF j j j (w5 (c:=(i:Int)) (s:=l.2) cE (cx _ (d.holds (G:=n) (by simp)))) (λw aj=>?_);have d:=d.aM aj;have d:C o K ([R t #[ab T] 40,de aN az l.2,n]++_) _:=d.front;refine ar ⟨⟨_,d⟩,?_⟩;refine af 7 3 j (aU 10 j (ex d j j (λaA w d=>?_)));have d:C o K (R aA #[ad 0,ad 0,ad 0] 123::_) w:=d;have d:C o K ([R t #[ab T] 40,de aN az l.2,n]++_) _:=d.front;refine ar ⟨⟨_,d⟩,?_⟩;rotate_left
  refine ex d j j (λaA w d=>?_);have d:C o K (R aA #[ad 0,ad 0,ad 0] 123::_) w:=d;have d:C o K ([R t #[ab T] 40,de aN az l.2,n]++_) _:=d.front;refine ar ⟨⟨_,d⟩,?_⟩;refine aU 6 j (bF j j j (w5 (c:=(i:Int)) (s:=l.2) cE (cx _ (d.holds (G:=n) (by simp)))) (λw aj=>?_));have d:=d.aM aj;have d:C o K ([R t #[ab T] 40,de aN az l.2,n]++_) _:=d.front;refine ar ⟨⟨_,d⟩,?_⟩;refine af 7 3 j ?_;rotate_left
  all_goals
   refine aU 11 j (c4 (d.bc aA) j j j j j bJ (λw d=>?_));have d:=C.whole (U:=[ad (if 0<=(i:Int)/\(i:Int)<=15/\0<=l.2/\l.2<=1048576 then((aZ I.answers (ff (i:Int) l.2)).getD (0,0,0)) else(0,0,0)).1,ad (if 0<=(i:Int)/\(i:Int)<=15/\0<=l.2/\l.2<=1048576 then((aZ I.answers (ff (i:Int) l.2)).getD (0,0,0)) else(0,0,0)).2.1,ad (if 0<=(i:Int)/\(i:Int)<=15/\0<=l.2/\l.2<=1048576 then((aZ I.answers (ff (i:Int) l.2)).getD (0,0,0)) else(0,0,0)).2.2]) d j;have d:C o K (R aA #[ad (if 0<=(i:Int)/\(i:Int)<=15/\0<=l.2/\l.2<=1048576 then((aZ I.answers (ff (i:Int) l.2)).getD (0,0,0)) else(0,0,0)).1,ad (if 0<=(i:Int)/\(i:Int)<=15/\0<=l.2/\l.2<=1048576 then((aZ I.answers (ff (i:Int) l.2)).getD (0,0,0)) else(0,0,0)).2.1,ad (if 0<=(i:Int)/\(i:Int)<=15/\0<=l.2/\l.2<=1048576 then((aZ I.answers (ff (i:Int) l.2)).getD (0,0,0)) else(0,0,0)).2.2] 123::_) w:=d;have d:C o K ([R t #[ab T] 40,de aN az l.2,n]++_) _:=d.front;refine ar ⟨⟨_,d⟩,?_⟩;refine af 12 1 j (bK (bm 3 j j (λbH=>?_) (λbH=>?_)))
   .have d:C o K ([R aA #[ad (if 0<=(i:Int)/\(i:Int)<=15/\0<=l.2/\l.2<=1048576 then((aZ I.answers (ff (i:Int) l.2)).getD (0,0,0)) else(0,0,0)).1,ad (if 0<=(i:Int)/\(i:Int)<=15/\0<=l.2/\l.2<=1048576 then((aZ I.answers (ff (i:Int) l.2)).getD (0,0,0)) else(0,0,0)).2.1,ad (if 0<=(i:Int)/\(i:Int)<=15/\0<=l.2/\l.2<=1048576 then((aZ I.answers (ff (i:Int) l.2)).getD (0,0,0)) else(0,0,0)).2.2] 123,de aN az l.2]++_) _:=d.front;have d:=d.drew;refine bw 0 j (λw=>∃ae,C o K ([R aA #[ad (if 0<=(i:Int)/\(i:Int)<=15/\0<=l.2/\l.2<=1048576 then((aZ I.answers (ff (i:Int) l.2)).getD (0,0,0)) else(0,0,0)).1,ad (if 0<=(i:Int)/\(i:Int)<=15/\0<=l.2/\l.2<=1048576 then((aZ I.answers (ff (i:Int) l.2)).getD (0,0,0)) else(0,0,0)).2.1,ad (if 0<=(i:Int)/\(i:Int)<=15/\0<=l.2/\l.2<=1048576 then((aZ I.answers (ff (i:Int) l.2)).getD (0,0,0)) else(0,0,0)).2.2] 123,de aN az l.2]++ae) w) ⟨_,d⟩ ?_;refine af 0 3 j (a8 3 j a1 j (af 4 3 j (a8 7 j a1 j (aT 8 j (λw⟨_,d⟩=>c3 (U:=[ad (if 0<=(i:Int)/\(i:Int)<=15/\0<=l.2/\l.2<=1048576 then((aZ I.answers (ff (i:Int) l.2)).getD (0,0,0)) else(0,0,0)).1,ad (if 0<=(i:Int)/\(i:Int)<=15/\0<=l.2/\l.2<=1048576 then((aZ I.answers (ff (i:Int) l.2)).getD (0,0,0)) else(0,0,0)).2.1,ad (if 0<=(i:Int)/\(i:Int)<=15/\0<=l.2/\l.2<=1048576 then((aZ I.answers (ff (i:Int) l.2)).getD (0,0,0)) else(0,0,0)).2.2]) j j j (bp (C.ak (b:=aA) d))) ?_))));refine dy 9 j (bF j j j (IA (s:=l.2) (a:=(if 0<=(i:Int)/\(i:Int)<=15/\0<=l.2/\l.2<=1048576 then((aZ I.answers (ff (i:Int) l.2)).getD (0,0,0)) else(0,0,0))) cw (d.ours (cI:=[GE]))) (λw⟨aV,dk,aj⟩=>?_));have d:=d.b3 aj;refine ar (cX (bq 1 j j j (cM i (by omega)) (bP 1 j ?_)))
    have bU:I.answer (i:Int) l.2=some (if 0<=(i:Int)/\(i:Int)<=15/\0<=l.2/\l.2<=1048576 then((aZ I.answers (ff (i:Int) l.2)).getD (0,0,0)) else(0,0,0)):=by
     have W:(decide (0<=(i:Int)/\(i:Int)<=15/\0<=l.2/\l.2<=1048576)&&(aZ I.answers (ff (i:Int) l.2)).isSome)=true:=bH;simp only [d8,gd] at W;unfold bk.answer;rw [a6 W.1,a6 W.1];obtain⟨a9,dt⟩:=gX.1 W.2;rw [dt];rfl
    have bn:cs[i]? =some l:=by rw [cf bt,bo]
    have ca:kA I cs i=cs.set i ((l.1.told l.2 (if 0<=(i:Int)/\(i:Int)<=15/\0<=l.2/\l.2<=1048576 then((aZ I.answers (ff (i:Int) l.2)).getD (0,0,0)) else(0,0,0))).1,l.2):=by
     unfold kA;rw [bn];dsimp only;rw [bU]
    have aF:=cW ((l.1.told l.2 (if 0<=(i:Int)/\(i:Int)<=15/\0<=l.2/\l.2<=1048576 then((aZ I.answers (ff (i:Int) l.2)).getD (0,0,0)) else(0,0,0))).1,l.2) (de aN az l.2++aV) ⟨aN,az,aV,j,dk,j⟩;have d:C o K [R t #[ab T] 40,bj g aQ c,R F cur 40,n,R B E 35,ao,R gc D 86,H1,de aN az l.2,aV,ax,a7,bx] _:=d.as;refine⟨(i+1,cs.set i ((l.1.told l.2 (if 0<=(i:Int)/\(i:Int)<=15/\0<=l.2/\l.2<=1048576 then((aZ I.answers (ff (i:Int) l.2)).getD (0,0,0)) else(0,0,0))).1,l.2),H1++((de aN az l.2++aV)++ax)),⟨j,j,j,j,aY⟩,⟨bY,?_,aF,C.perm (A:=[R t #[ab T] 40,bj g aQ c,R F cur 40,n,R B E 35,ao,R gc D 86,H1,de aN az l.2,aV,ax,a7,bx]) d (by simp)⟩,by dsimp only;omega⟩;dsimp only;rw [l9,nT,<-a2];exact ca.symm
   refine bq 2 j j j (cM i (by omega)) (bP 1 j ?_)
   have bU:I.answer (i:Int) l.2=none:=by
    have W:(decide (0<=(i:Int)/\(i:Int)<=15/\0<=l.2/\l.2<=1048576)&&(aZ I.answers (ff (i:Int) l.2)).isSome)=false:=bH;unfold bk.answer;split
    .rename_i dg;rw [jC dg,Bool.true_and] at W;cases dV:aZ I.answers (ff (i:Int) l.2) with
     |none=>rfl
     |some _=>rw [dV] at W;cases W
    .rfl
   have bn:cs[i]? =some l:=by rw [cf bt,bo]
   have ca:kA I cs i=cs:=by
    unfold kA;rw [bn];dsimp only;rw [bU]
   have aF:=cW l (de aN az l.2++GE) ⟨aN,az,GE,j,cw,j⟩;have dY:cs.set i l=cs:=by rw [<-bo];exact List.set_getElem_self bt
   rw [dY] at aF;have d:C o K [R t #[ab T] 40,bj g aQ c,R F cur 40,n,R B E 35,ao,R gc D 86,H1,de aN az l.2,GE,ax,a7,bx] _:=d.as;refine⟨(i+1,cs,H1++((de aN az l.2++GE)++ax)),⟨j,j,j,j,aY⟩,⟨bY,?_,aF,C.perm (A:=[R t #[ab T] 40,bj g aQ c,R F cur 40,n,R B E 35,ao,R gc D 86,H1,de aN az l.2,GE,ax,a7,bx]) d (by simp)⟩,by dsimp only;omega⟩;dsimp only;rw [l9,nT,<-a2];exact ca.symm
 refine bI 4 j ⟨ad 0,λw dZ=>?_⟩;have d:=dZ.st d (cD _);refine⟨λa ds=>i7 (fn:=f23) ds j _ _,?_⟩;have bv:i=z.cJ.length:=by omega
 have d5:z.polls g={z with parts:=Z,cJ:=cs}:=by
  unfold aS.polls;rw [dw,<-dO,a2,bv]
 rw [d5];have d:C o K [bj g aQ c,R F cur 40,n,R B E 35,ao,R gc D 86,bD,a7,bx] w:=d.as;refine⟨j,_,⟨c,R F cur 40++n,R B E 35++ao,R gc D 86++bD,a7,bx,⟨⟨_,_,U,j,by rw [br,<-c1];exact a5,aD⟩,⟨_,_,aR,j,by show Row 35 1 c.parts Z.length aR _;rw [<-aP,dR];exact b9,bS⟩,⟨_,_,bB,j,by show Row 86 1 c.cJ cs.length bB _;rw [dv];exact b8,bT⟩,aC.bz,aC.heard⟩,j⟩,C.perm (A:=[bj g aQ c,R F cur 40,n,R B E 35,ao,R gc D 86,bD,a7,bx]) d (by simp)⟩
section
variable {P:Program} {n:Fr} {Z:Env} {w:World} {Q:d6} {ops:Array Oper} {rest:List Oper} {dst:Option Nat} {ty:TypeId} {pos:String} {after:Array Edge} {g:Option (Nat×Bool)}
theorem tA{s t:TypeId}{d:TypeDesc}{x:Operand}{k:IntKind}{i:Int}[aL:bB P s d][e:bB P t .string](f:bs Z x=some (.int k i)){J:ByteArray}(c:Utf8.encode i=J):
 ∀a,cF Z n.n a->(execOp a.eval ⟨dst,.convert s t x,ty,pos,after,g⟩).run P w= .ok (.value (.string J)) w:=
 λa b=>by
  subst c;simp [execOp,b.eval f,convert,d7 aL.h,d7 e.h,Conv.intToString]
end
def kt(i:Nat):List UInt8:=[UInt8.ofNat (97+i)]
def hJ(m i:Nat):List (Option bk):=(List.range i).map (λJ:Nat=>some (bk.new (J:Int)))++List.replicate (m-i) none
theorem lk{m i:Nat}(h:i<=m):(hJ m i).length=m:=by simp [hJ];omega
theorem v7{m i:Nat}(h:i<m):(hJ m i).set i (some (bk.new (i:Int)))=hJ m (i+1):=by
 have a:((List.range i).map (λJ:Nat=>some (bk.new (J:Int)))).length=i:=by simp
 unfold hJ;rw [tY _ _ (by omega),a,Nat.sub_self,show m-i=(m-(i+1))+1 by omega,tS,rH,l9,jU,List.append_assoc];rfl
def i5(i:Nat):List cy:=List.replicate i cy.new
def kp(i:Nat):List (bG×Int):=(List.range i).map λJ:Nat=>(bG.new (J:Int) (kt J),-1)
def aS.new(n k:Nat):aS:={bu:=hJ n (n-k),parts:=i5 4,cJ:=kp 3,bz:=[],lost:=0,heard:=[]}
section
variable {α:Type} {V:Value->α->List Chunk->Prop}
theorem ed.rep{v:Value}{x:α}(h:V v x []):∀m:Nat,ed V (List.replicate m v) (List.replicate m x) []
 |0=>rfl
 |m+1=>⟨[],[],j,h,ed.rep h m⟩
theorem ed.put:∀{U:List Value}{xs:List α}{G:List Chunk},ed V U xs G->∀(i:Nat)(b:i<xs.length),∃ai d aA,G=ai++(d++aA)/\V (U[i]?.getD (.pointer none)) xs[i] d/\∀v dP a,V v dP a->ed V (U.set i v) (xs.set i dP) (ai++(a++aA))
 |[],[],_,_=>λi b=>absurd b (by simp)
 |[],_::_,_,h=>h.elim
 |_::_,[],_,h=>h.elim
 |v::U,x::xs,_,⟨ai,aA,rfl,f,h⟩=>λi b=>by
  cases i with
  |zero=>exact⟨[],ai,aA,j,f,λg dP a c=>⟨a,aA,j,c,h⟩⟩
  |succ i=>
   obtain⟨H1,k,e,rfl,l,m⟩:=h.put i (by simpa using b);exact⟨ai++H1,k,e,by simp,l,λg dP a c=>⟨ai,H1++(a++e),by simp,f,m g dP a c⟩⟩
end
theorem Ge{o:World}{aR k:Nat}(aJ:aR=4\/aR=7)(aa:k<=hE aR):Calls prog 15 #[.int .i64 (aR:Nat),.int .i64 (k:Nat)] o λr w=>∃(aQ:Nat)(g:am)(G:List Chunk),r= .tuple #[ab aQ,ad 0]/\g.ok/\g.keys=qW aR (bO [1])/\eR g aQ (aS.new aR k) G/\C o [] [dR g,G] w:=by
 have a:Own [] o:=C.start o;have br:k<=aR:=eh aa (by rcases aJ with rfl|rfl<;>decide);have bs:4<=aR/\aR<=7:=by omega
 refine a2 func15 (mm 4 j (λZ w=>sub Z [(0,.int .i64 (aR:Nat)),(1,.int .i64 (k:Nat))]/\C o [] [] w) ?_ ?_)
 .refine aq 5 j (cQ 11 j (λbh=>?_) (λbh=>?_));refine aq 4 j (bS 15 (.bool false) j (aH Value.bool ((by rcases aJ with rfl|rfl<;>first|rfl|exact absurd bh (by decide)))) ?_);rotate_left
  refine aq 4 j (bS 15 (.bool false) j (aH Value.bool (j)) ?_);rotate_left
  all_goals
   refine aq 4 j (bS 19 (.bool false) j (aH Value.bool ((fj (by omega)))) ?_);refine bo 2 (yd (n:=aR) (by omega)) j (λbn hw=>?_);subst bn;exact i0 2 j j ((fj (by omega))) (bP 1 j ⟨⟨j,j,aY⟩,a⟩)
 rintro Z w ⟨aL,a⟩;refine l4 [(0,.int .i64 (aR:Nat)),(1,.int .i64 (k:Nat))] aL ?_;have a:=a.drew;refine bw 1 j (λw=>True) aY (af 0 1 j (af 4 1 j (aO 1 5 j j ?_ ?_)))
 .refine eO a j j j j j j bJ (λaB w a=>?_);have aC:=a.bE;refine ar ⟨aY,?_⟩;refine aO 2 5 j j ?_ ?_;have aC:Rd _ (some ⟨aB,0,none⟩) (aG [1]):=bp (C.ak (b:=aB) a);refine bF j j j (pA (p:=[1]) aC (by decide) (by decide)) (λw t=>?_);have a:=a.aM t;refine ar ⟨aY,?_⟩;refine aO 3 5 j j ?_ ?_
  .refine cN j j j (vG (n:=aR) (e6:=bO [1]) (by omega) (e7 _)) (λr w⟨g,I,a9,a6,t⟩=>?_);subst I;have a:=a.aM t;refine ar ⟨aY,?_⟩;refine aO 5 6 j j ?_ ?_;refine oC (l:=aR) (c:=aR) a j j j j (by omega) (by omega) (by unfold maxLen;omega) (λd bR w bf Q a=>ar ⟨aY,?_⟩);refine aU 6 j (cN j j j sC (λr w⟨a7,al,t⟩=>?_));obtain⟨q,aD⟩:∃q,r=ab q:=by obtain⟨b,v,H,h,_⟩:=al;exact⟨b,h⟩
   subst aD;have a:=a.aM t;rotate_left
   refine cN j j j sC (λr w⟨a7,al,t⟩=>?_);obtain⟨q,aD⟩:∃q,r=ab q:=by obtain⟨b,v,H,h,_⟩:=al;exact⟨b,h⟩
   subst aD;have a:=a.aM t;refine ar ⟨aY,?_⟩;refine aU 5 j (oC (l:=aR) (c:=aR) a j j j j (by omega) (by omega) (by unfold maxLen;omega) (λd bR w bf Q a=>?_));rotate_left
   all_goals
    refine ar ⟨aY,?_⟩;refine aT 7 j (λw _=>e1 (c:=(lY g (⟨.slice (some ⟨d,0,none⟩) aR aR,.slice none 0 0,.slice none 0 0,ab q,.slice none 0 0⟩:cd)).toArray) j (λ_=>by kernel_rfl)) (aU 8 j (lr a j j j (λf w a=>?_)));have a:C o [] (bj g f (⟨.slice (some ⟨d,0,none⟩) aR aR,.slice none 0 0,.slice none 0 0,ab q,.slice none 0 0⟩:cd)::_) w:=a;have Q:bR=(List.replicate aR (Value.pointer none)).toArray:=Q.trans (by rcases aJ with rfl|rfl<;>kernel_rfl);subst Q;have a:C o [] [bj g f (⟨.slice (some ⟨d,0,none⟩) aR aR,.slice none 0 0,.slice none 0 0,ab q,.slice none 0 0⟩:cd),R d (List.replicate aR (Value.pointer none)).toArray 40,a7,dR g] w:=a.as;refine ar ⟨aY,?_⟩;refine af 9 1 j (bK (bq 5 j j j (hC aR k (by omega) (by omega)) ?_))
    refine cH 2 j (ct:=Nat×List Value×List Chunk) (λe=>[(6,ab f),(36,.int .i64 (aR-k:Nat)),(37,.int .i64 (e.1:Nat))])
     (λe w=>e.1<=aR-k/\e.2.1.length=aR/\ed (h5 g) e.2.1 (hJ aR e.1) e.2.2/\C o [] [bj g f (⟨.slice (some ⟨d,0,none⟩) aR aR,.slice none 0 0,.slice none 0 0,ab q,.slice none 0 0⟩:cd),R d e.2.1.toArray 40,e.2.2,a7,dR g] w) (λe=>aR-k-e.1) (0,List.replicate aR (.pointer none),[]) ⟨j,j,j,aY⟩ ⟨b6 _,oT,ed.rep (V:=h5 g) (x:=none) ⟨j,j⟩ aR,C.perm (A:=[bj g f (⟨.slice (some ⟨d,0,none⟩) aR aR,.slice none 0 0,.slice none 0 0,ab q,.slice none 0 0⟩:cd),R d (List.replicate aR (Value.pointer none)).toArray 40,a7,dR g]) a (by simp)⟩ ?_
    rintro⟨i,U,y⟩ w ⟨M,ai,X,a⟩;dsimp only at M ai X a⊢;refine cm 4 j j (λaF=>?_) (λaF=>?_)
    .have a:C o [] ([bj g f (⟨.slice (some ⟨d,0,none⟩) aR aR,.slice none 0 0,.slice none 0 0,ab q,.slice none 0 0⟩:cd)]++_) w:=a.front;have a:=a.drew;have bm:i<aR-k:=by omega
     obtain⟨H1,aE,S,a0,aA,bd⟩:=X.put i (by rw [lk (by omega)];omega);refine bw 7 j (λw=>∃ae,C o [] ([bj g f (⟨.slice (some ⟨d,0,none⟩) aR aR,.slice none 0 0,.slice none 0 0,ab q,.slice none 0 0⟩:cd)]++ae) w) ⟨_,a⟩ (af 0 3 j (a8 3 j a1 j (af 4 4 j (a8 8 j a1 j (af 9 1 j (aU 10 j (cN j j j (vH (g:=g) (an:=(i:Int))) (λr w⟨K,O,I,a5,t⟩=>?_))))))));subst I;have a:=a.aM t;have a:C o [] ([bj g f (⟨.slice (some ⟨d,0,none⟩) aR aR,.slice none 0 0,.slice none 0 0,ab q,.slice none 0 0⟩:cd)]++_) w:=a.front;refine ar ⟨⟨_,a⟩,?_⟩;refine aT 11 j (λw _=>gb (J:=i) j j (by omega)) (dy 12 j (cC (a.bc d) j j j j (by rw [hy];omega) (λw a=>?_)));have a:C o [] (R d (U.toArray.setIfInBounds (0+i*1) (ab K)) 40::_) w:=a;rw [t3,fg,gZ] at a;refine ar (cX (bq 1 j j j (cM i (by omega)) (bP 1 j ?_)));have D:=bd (ab K) (some (bk.new (i:Int))) O ⟨K,j,a5⟩;rw [v7 (by omega)] at D
     have a3:aE=[]:=by
      have aW:(hJ aR i)[i]'(by rw [lk (by omega)];omega)=none:=by
       unfold hJ;rw [t4 (by simp)];simp
      rw [aW] at aA;exact aA.2
     subst a0;subst a3;have a:C o [] [bj g f (⟨.slice (some ⟨d,0,none⟩) aR aR,.slice none 0 0,.slice none 0 0,ab q,.slice none 0 0⟩:cd),R d (U.set i (ab K)).toArray 40,H1,S,O,a7,dR g] w:=C.perm (A:=[bj g f (⟨.slice (some ⟨d,0,none⟩) aR aR,.slice none 0 0,.slice none 0 0,ab q,.slice none 0 0⟩:cd),R d (U.set i (ab K)).toArray 40,H1++([]++S),O,a7,dR g]) a.as (by simp);have a:C o [] [bj g f (⟨.slice (some ⟨d,0,none⟩) aR aR,.slice none 0 0,.slice none 0 0,ab q,.slice none 0 0⟩:cd),R d (U.set i (ab K)).toArray 40,H1,O,S,a7,dR g] w:=a.as;exact⟨(i+1,_,_),⟨j,j,j,aY⟩,⟨by dsimp only;omega,by dsimp only;rw [hx];exact ai,D,a.perm (by simp)⟩,by dsimp only;omega⟩
    have N:i=aR-k:=by omega
    subst N
    refine cH 6 j (ct:=Nat×Value×List Value×List Chunk×List Chunk) (λe=>[(6,ab f),(53,.int .i64 (e.1:Nat))])
     (λe w=>e.1<=4/\Row 35 1 e.2.1 e.1 e.2.2.1 e.2.2.2.1/\ed (jv g) e.2.2.1 (i5 e.1) e.2.2.2.2/\C o [] [bj g f (⟨.slice (some ⟨d,0,none⟩) aR aR,e.2.1,.slice none 0 0,ab q,.slice none 0 0⟩:cd),R d U.toArray 40,y,e.2.2.2.1,e.2.2.2.2,a7,dR g] w) (λe=>4-e.1) (0,.slice none 0 0,[],[],[]) ⟨j,j,aY⟩ ⟨b6 _,Row.nil _ _,j,a.perm (by simp)⟩ ?_
    rintro⟨i,s,us,E,B⟩ w ⟨M,ah,ac,a⟩;dsimp only at M ah ac a⊢;refine cm 4 j j (λaI=>?_) (λaI=>?_)
    .have a:C o [] ([bj g f (⟨.slice (some ⟨d,0,none⟩) aR aR,s,.slice none 0 0,ab q,.slice none 0 0⟩:cd)]++_) w:=a.front;have a:=a.drew;have bl:i<4:=by omega
     refine bw 3 j (λw=>∃ae,C o [] ([bj g f (⟨.slice (some ⟨d,0,none⟩) aR aR,s,.slice none 0 0,ab q,.slice none 0 0⟩:cd)]++ae) w) ⟨_,a⟩ (af 0 4 j (a8 4 j a1 j (af 5 3 j (a8 8 j a1 j (aU 9 j (cN j j j (vD (g:=g)) (λr w⟨bg,ap,I,aX,t⟩=>?_)))))));subst I;have a:=a.aM t;have a:C o [] ([bj g f (⟨.slice (some ⟨d,0,none⟩) aR aR,s,.slice none 0 0,ab q,.slice none 0 0⟩:cd)]++_) w:=a.front;refine ar ⟨⟨_,a⟩,?_⟩;refine aU 10 j (eO a j j j j j j bJ (λav w a=>?_));have ba:Rd _ (some ⟨av,0,none⟩) [Value.pointer (some ⟨bg,0,none⟩)]:=bp (C.ak (b:=av) a);have a:C o [] ([bj g f (⟨.slice (some ⟨d,0,none⟩) aR aR,s,.slice none 0 0,ab q,.slice none 0 0⟩:cd)]++_) w:=a.front;refine ar ⟨⟨_,a⟩,?_⟩;refine aU 11 j ?_;have a:C o [] [E,bj g f (⟨.slice (some ⟨d,0,none⟩) aR aR,s,.slice none 0 0,ab q,.slice none 0 0⟩:cd),R d U.toArray 40,y,B,ap,a7,dR g] _:=a.as;refine d9 a ah j j (by decide) j j j (news:=[Value.pointer (some ⟨bg,0,none⟩)]) (m:=1) j ba (λu hu=>by rw [List.mem_singleton.1 hu];rfl) (by omega) (by unfold maxLen;omega) (λaj au w ay a=>?_);have a:C o [] ([bj g f (⟨.slice (some ⟨d,0,none⟩) aR aR,s,.slice none 0 0,ab q,.slice none 0 0⟩:cd)]++_) w:=a.front;refine ar ⟨⟨_,a⟩,?_⟩;refine af 12 2 j (dy 14 j (cC (a.bc f) j j j ay.one bJ (λw a=>?_)));have a:C o [] (bj g f (⟨.slice (some ⟨d,0,none⟩) aR aR,aj,.slice none 0 0,ab q,.slice none 0 0⟩:cd)::_) w:=a;refine ar (cX (bq 1 j j j (cM i (by omega)) (bP 1 j ?_)));have D:=ac.app (ed.one (V:=jv g) (x:=cy.new) ⟨bg,j,aX⟩);have W:i5 i++[cy.new]=i5 (i+1):=by unfold i5;rw [List.replicate_succ']
     rw [W] at D;have a:C o [] [bj g f (⟨.slice (some ⟨d,0,none⟩) aR aR,aj,.slice none 0 0,ab q,.slice none 0 0⟩:cd),R d U.toArray 40,y,au,B,ap,a7,dR g] w:=a.as;exact⟨(i+1,aj,_,au,_),⟨j,j,aY⟩,⟨by dsimp only;omega,ay,D,a.perm (by simp)⟩,by dsimp only;omega⟩
    have N:i=4:=by omega
    subst N
    refine cH 6 j (ct:=Nat×Value×List Value×List Chunk×List Chunk) (λe=>[(6,ab f),(70,.int .i64 (e.1:Nat))])
     (λe w=>e.1<=3/\Row 86 1 e.2.1 e.1 e.2.2.1 e.2.2.2.1/\ed l0 e.2.2.1 (kp e.1) e.2.2.2.2/\C o [] [bj g f (⟨.slice (some ⟨d,0,none⟩) aR aR,s,e.2.1,ab q,.slice none 0 0⟩:cd),R d U.toArray 40,y,E,B,e.2.2.2.1,e.2.2.2.2,a7,dR g] w) (λe=>3-e.1) (0,.slice none 0 0,[],[],[]) ⟨j,j,aY⟩ ⟨b6 _,Row.nil _ _,j,a.perm (by simp)⟩ ?_
    rintro⟨i,z,be,eX,L⟩ w ⟨M,ag,Y,a⟩;dsimp only at M ag Y a⊢;refine cm 4 j j (λaK=>?_) (λaK=>?_)
    .have a:C o [] ([bj g f (⟨.slice (some ⟨d,0,none⟩) aR aR,s,z,ab q,.slice none 0 0⟩:cd)]++_) w:=a.front;have a:=a.drew;have bi:i<3:=by omega
     have aP:evalBin .add .i64 97 (i:Int)=some (.int .i64 ((97+i:Nat):Int)):=by rcases(show i=0\/i=1\/i=2 by omega) with rfl|rfl|rfl<;>rfl
     have aN:IntKind.i32.wrap ((97+i:Nat):Int)=((97+i:Nat):Int):=by rcases(show i=0\/i=1\/i=2 by omega) with rfl|rfl|rfl<;>rfl
     have aV:Utf8.encode ((97+i:Nat):Int)=strOf (kt i):=by rcases(show i=0\/i=1\/i=2 by omega) with rfl|rfl|rfl<;>rfl
     refine bw 7 j (λw=>∃ae,C o [] ([bj g f (⟨.slice (some ⟨d,0,none⟩) aR aR,s,z,ab q,.slice none 0 0⟩:cd)]++ae) w) ⟨_,a⟩ (af 0 4 j (a8 4 j a1 j (af 5 2 j (aT 7 j (λw _=>dq j j aP) (aT 8 j (λw _=>kC j aN) (aT 9 j (λw _=>tA j aV) (aU 10 j (cN j j j (vE (n:=(i:Int)) (x:=kt i)) (λr w⟨az,GE,I,aZ,t⟩=>?_)))))))));subst I;have a:=a.aM t;have a:C o [] ([bj g f (⟨.slice (some ⟨d,0,none⟩) aR aR,s,z,ab q,.slice none 0 0⟩:cd)]++_) w:=a.front;refine ar ⟨⟨_,a⟩,?_⟩;refine aT 11 j (λw _=>e1 (c:= #[ab az,ad (-1)]) j (λ_=>by kernel_rfl)) (aU 12 j (lr a j j j (λF w a=>?_)));have a:C o [] (de F az (-1)::_) w:=a;have a:C o [] ([bj g f (⟨.slice (some ⟨d,0,none⟩) aR aR,s,z,ab q,.slice none 0 0⟩:cd)]++_) w:=a.front;refine ar ⟨⟨_,a⟩,?_⟩;refine aU 13 j (eO a j j j j j j bJ (λaw w a=>?_));have bb:Rd _ (some ⟨aw,0,none⟩) [Value.pointer (some ⟨F,0,none⟩)]:=bp (C.ak (b:=aw) a);have a:C o [] ([bj g f (⟨.slice (some ⟨d,0,none⟩) aR aR,s,z,ab q,.slice none 0 0⟩:cd)]++_) w:=a.front;refine ar ⟨⟨_,a⟩,?_⟩;refine aU 14 j ?_;have a:C o [] [eX,bj g f (⟨.slice (some ⟨d,0,none⟩) aR aR,s,z,ab q,.slice none 0 0⟩:cd),R d U.toArray 40,y,E,B,L,de F az (-1),GE,a7,dR g] _:=a.as;refine d9 a ag j j (by decide) j j j (news:=[Value.pointer (some ⟨F,0,none⟩)]) (m:=1) j bb (λu hu=>by rw [List.mem_singleton.1 hu];rfl) (by omega) (by unfold maxLen;omega) (λP T w ax a=>?_);have a:C o [] ([bj g f (⟨.slice (some ⟨d,0,none⟩) aR aR,s,z,ab q,.slice none 0 0⟩:cd)]++_) w:=a.front;refine ar ⟨⟨_,a⟩,?_⟩;refine af 15 2 j (dy 17 j (cC (a.bc f) j j j ax.one bJ (λw a=>?_)));have a:C o [] (bj g f (⟨.slice (some ⟨d,0,none⟩) aR aR,s,P,ab q,.slice none 0 0⟩:cd)::_) w:=a;refine ar (cX (bq 1 j j j (cM i (by omega)) (bP 1 j ?_)));have D:=Y.app (ed.one (V:=l0) (x:=(bG.new (i:Int) (kt i),(-1:Int))) ⟨F,az,GE,j,aZ,j⟩);have W:kp i++[(bG.new (i:Int) (kt i),(-1:Int))]=kp (i+1):=by unfold kp;rw [List.range_succ,List.map_append];rfl
     rw [W] at D;have a:C o [] [bj g f (⟨.slice (some ⟨d,0,none⟩) aR aR,s,P,ab q,.slice none 0 0⟩:cd),R d U.toArray 40,y,E,B,T,L,de F az (-1),GE,a7,dR g] w:=a.as;exact⟨(i+1,P,_,T,_),⟨j,j,aY⟩,⟨by dsimp only;omega,ax,D,C.perm (A:=[bj g f (⟨.slice (some ⟨d,0,none⟩) aR aR,s,P,ab q,.slice none 0 0⟩:cd),R d U.toArray 40,y,E,B,T,L,de F az (-1),GE,a7,dR g]) a (by simp)⟩,by dsimp only;omega⟩
    refine ao 6 j j ?_;have N:i=3:=by omega
    subst N;have a4:Row 40 1 (.slice (some ⟨d,0,none⟩) aR aR) aR U (R d U.toArray 40):=Row.full (by unfold maxLen;omega) (by rw [List.size_toArray,ai,Nat.mul_one]);exact⟨f,g,_,j,a9,a6,⟨(⟨.slice (some ⟨d,0,none⟩) aR aR,s,z,ab q,.slice none 0 0⟩:cd),R d U.toArray 40++y,E++B,eX++L,a7,[],⟨⟨_,_,U,j,by show Row 40 1 _ (hJ aR (aR-k)).length U _;rw [lk (by omega)];exact a4,X⟩,⟨_,_,us,j,ah,ac⟩,⟨_,_,be,j,ag,Y⟩,al,cz.nil⟩,j⟩,C.perm (A:=[dR g,bj g f (⟨.slice (some ⟨d,0,none⟩) aR aR,s,z,ab q,.slice none 0 0⟩:cd),R d U.toArray 40,y,E,B,eX,L,a7]) a.as (by simp)⟩
  refine oC (l:=aR) (c:=aR) a j j j j (by omega) (by omega) (by unfold maxLen;omega) (λd bR w bf Q a=>?_);rotate_left
  refine oC (l:=aR) (c:=aR) a j j j j (by omega) (by omega) (by unfold maxLen;omega) (λd bR w bf Q a=>ar ⟨aY,?_⟩);refine aU 2 j ?_;have aC:Rd _ (some ⟨aB,0,none⟩) (aG [1]):=bp (C.ak (b:=aB) a);refine bF j j j (pA (p:=[1]) aC (by decide) (by decide)) (λw t=>?_);have a:=a.aM t;rotate_left
  all_goals
   refine ar ⟨aY,?_⟩;refine aU 3 j (cN j j j (vG (n:=aR) (e6:=bO [1]) (by omega) (e7 _)) (λr w⟨g,I,a9,a6,t⟩=>?_));subst I;have a:=a.aM t;refine ar ⟨aY,?_⟩;refine aU 6 j (cN j j j sC (λr w⟨a7,al,t⟩=>?_));obtain⟨q,aD⟩:∃q,r=ab q:=by obtain⟨b,v,H,h,_⟩:=al;exact⟨b,h⟩
   subst aD;have a:=a.aM t;refine ar ⟨aY,?_⟩;refine aT 7 j (λw _=>e1 (c:=(lY g (⟨.slice (some ⟨d,0,none⟩) aR aR,.slice none 0 0,.slice none 0 0,ab q,.slice none 0 0⟩:cd)).toArray) j (λ_=>by kernel_rfl)) (aU 8 j (lr a j j j (λf w a=>?_)));have a:C o [] (bj g f (⟨.slice (some ⟨d,0,none⟩) aR aR,.slice none 0 0,.slice none 0 0,ab q,.slice none 0 0⟩:cd)::_) w:=a;have Q:bR=(List.replicate aR (Value.pointer none)).toArray:=Q.trans (by rcases aJ with rfl|rfl<;>kernel_rfl);subst Q;have a:C o [] [bj g f (⟨.slice (some ⟨d,0,none⟩) aR aR,.slice none 0 0,.slice none 0 0,ab q,.slice none 0 0⟩:cd),R d (List.replicate aR (Value.pointer none)).toArray 40,a7,dR g] w:=a.as;refine ar ⟨aY,?_⟩;refine af 9 1 j (bK (bq 5 j j j (hC aR k (by omega) (by omega)) ?_))
   refine cH 2 j (ct:=Nat×List Value×List Chunk) (λe=>[(6,ab f),(36,.int .i64 (aR-k:Nat)),(37,.int .i64 (e.1:Nat))])
    (λe w=>e.1<=aR-k/\e.2.1.length=aR/\ed (h5 g) e.2.1 (hJ aR e.1) e.2.2/\C o [] [bj g f (⟨.slice (some ⟨d,0,none⟩) aR aR,.slice none 0 0,.slice none 0 0,ab q,.slice none 0 0⟩:cd),R d e.2.1.toArray 40,e.2.2,a7,dR g] w) (λe=>aR-k-e.1) (0,List.replicate aR (.pointer none),[]) ⟨j,j,j,aY⟩ ⟨b6 _,oT,ed.rep (V:=h5 g) (x:=none) ⟨j,j⟩ aR,C.perm (A:=[bj g f (⟨.slice (some ⟨d,0,none⟩) aR aR,.slice none 0 0,.slice none 0 0,ab q,.slice none 0 0⟩:cd),R d (List.replicate aR (Value.pointer none)).toArray 40,a7,dR g]) a (by simp)⟩ ?_
   rintro⟨i,U,y⟩ w ⟨M,ai,X,a⟩;dsimp only at M ai X a⊢;refine cm 4 j j (λaF=>?_) (λaF=>?_)
   .have a:C o [] ([bj g f (⟨.slice (some ⟨d,0,none⟩) aR aR,.slice none 0 0,.slice none 0 0,ab q,.slice none 0 0⟩:cd)]++_) w:=a.front;have a:=a.drew;have bm:i<aR-k:=by omega
    obtain⟨H1,aE,S,a0,aA,bd⟩:=X.put i (by rw [lk (by omega)];omega);refine bw 7 j (λw=>∃ae,C o [] ([bj g f (⟨.slice (some ⟨d,0,none⟩) aR aR,.slice none 0 0,.slice none 0 0,ab q,.slice none 0 0⟩:cd)]++ae) w) ⟨_,a⟩ (af 0 3 j (a8 3 j a1 j (af 4 4 j (a8 8 j a1 j (af 9 1 j (aU 10 j (cN j j j (vH (g:=g) (an:=(i:Int))) (λr w⟨K,O,I,a5,t⟩=>?_))))))));subst I;have a:=a.aM t;have a:C o [] ([bj g f (⟨.slice (some ⟨d,0,none⟩) aR aR,.slice none 0 0,.slice none 0 0,ab q,.slice none 0 0⟩:cd)]++_) w:=a.front;refine ar ⟨⟨_,a⟩,?_⟩;refine aT 11 j (λw _=>gb (J:=i) j j (by omega)) (dy 12 j (cC (a.bc d) j j j j (by rw [hy];omega) (λw a=>?_)));have a:C o [] (R d (U.toArray.setIfInBounds (0+i*1) (ab K)) 40::_) w:=a;rw [t3,fg,gZ] at a;refine ar (cX (bq 1 j j j (cM i (by omega)) (bP 1 j ?_)));have D:=bd (ab K) (some (bk.new (i:Int))) O ⟨K,j,a5⟩;rw [v7 (by omega)] at D
    have a3:aE=[]:=by
     have aW:(hJ aR i)[i]'(by rw [lk (by omega)];omega)=none:=by
      unfold hJ;rw [t4 (by simp)];simp
     rw [aW] at aA;exact aA.2
    subst a0;subst a3;have a:C o [] [bj g f (⟨.slice (some ⟨d,0,none⟩) aR aR,.slice none 0 0,.slice none 0 0,ab q,.slice none 0 0⟩:cd),R d (U.set i (ab K)).toArray 40,H1,S,O,a7,dR g] w:=C.perm (A:=[bj g f (⟨.slice (some ⟨d,0,none⟩) aR aR,.slice none 0 0,.slice none 0 0,ab q,.slice none 0 0⟩:cd),R d (U.set i (ab K)).toArray 40,H1++([]++S),O,a7,dR g]) a.as (by simp);have a:C o [] [bj g f (⟨.slice (some ⟨d,0,none⟩) aR aR,.slice none 0 0,.slice none 0 0,ab q,.slice none 0 0⟩:cd),R d (U.set i (ab K)).toArray 40,H1,O,S,a7,dR g] w:=a.as;exact⟨(i+1,_,_),⟨j,j,j,aY⟩,⟨by dsimp only;omega,by dsimp only;rw [hx];exact ai,D,a.perm (by simp)⟩,by dsimp only;omega⟩
   have N:i=aR-k:=by omega
   subst N
   refine cH 6 j (ct:=Nat×Value×List Value×List Chunk×List Chunk) (λe=>[(6,ab f),(53,.int .i64 (e.1:Nat))])
    (λe w=>e.1<=4/\Row 35 1 e.2.1 e.1 e.2.2.1 e.2.2.2.1/\ed (jv g) e.2.2.1 (i5 e.1) e.2.2.2.2/\C o [] [bj g f (⟨.slice (some ⟨d,0,none⟩) aR aR,e.2.1,.slice none 0 0,ab q,.slice none 0 0⟩:cd),R d U.toArray 40,y,e.2.2.2.1,e.2.2.2.2,a7,dR g] w) (λe=>4-e.1) (0,.slice none 0 0,[],[],[]) ⟨j,j,aY⟩ ⟨b6 _,Row.nil _ _,j,a.perm (by simp)⟩ ?_
   rintro⟨i,s,us,E,B⟩ w ⟨M,ah,ac,a⟩;dsimp only at M ah ac a⊢;refine cm 4 j j (λaI=>?_) (λaI=>?_)
   .have a:C o [] ([bj g f (⟨.slice (some ⟨d,0,none⟩) aR aR,s,.slice none 0 0,ab q,.slice none 0 0⟩:cd)]++_) w:=a.front;have a:=a.drew;have bl:i<4:=by omega
    refine bw 3 j (λw=>∃ae,C o [] ([bj g f (⟨.slice (some ⟨d,0,none⟩) aR aR,s,.slice none 0 0,ab q,.slice none 0 0⟩:cd)]++ae) w) ⟨_,a⟩ (af 0 4 j (a8 4 j a1 j (af 5 3 j (a8 8 j a1 j (aU 9 j (cN j j j (vD (g:=g)) (λr w⟨bg,ap,I,aX,t⟩=>?_)))))));subst I;have a:=a.aM t;have a:C o [] ([bj g f (⟨.slice (some ⟨d,0,none⟩) aR aR,s,.slice none 0 0,ab q,.slice none 0 0⟩:cd)]++_) w:=a.front;refine ar ⟨⟨_,a⟩,?_⟩;refine aU 10 j (eO a j j j j j j bJ (λav w a=>?_));have ba:Rd _ (some ⟨av,0,none⟩) [Value.pointer (some ⟨bg,0,none⟩)]:=bp (C.ak (b:=av) a);have a:C o [] ([bj g f (⟨.slice (some ⟨d,0,none⟩) aR aR,s,.slice none 0 0,ab q,.slice none 0 0⟩:cd)]++_) w:=a.front;refine ar ⟨⟨_,a⟩,?_⟩;refine aU 11 j ?_;have a:C o [] [E,bj g f (⟨.slice (some ⟨d,0,none⟩) aR aR,s,.slice none 0 0,ab q,.slice none 0 0⟩:cd),R d U.toArray 40,y,B,ap,a7,dR g] _:=a.as;refine d9 a ah j j (by decide) j j j (news:=[Value.pointer (some ⟨bg,0,none⟩)]) (m:=1) j ba (λu hu=>by rw [List.mem_singleton.1 hu];rfl) (by omega) (by unfold maxLen;omega) (λaj au w ay a=>?_);have a:C o [] ([bj g f (⟨.slice (some ⟨d,0,none⟩) aR aR,s,.slice none 0 0,ab q,.slice none 0 0⟩:cd)]++_) w:=a.front;refine ar ⟨⟨_,a⟩,?_⟩;refine af 12 2 j (dy 14 j (cC (a.bc f) j j j ay.one bJ (λw a=>?_)));have a:C o [] (bj g f (⟨.slice (some ⟨d,0,none⟩) aR aR,aj,.slice none 0 0,ab q,.slice none 0 0⟩:cd)::_) w:=a;refine ar (cX (bq 1 j j j (cM i (by omega)) (bP 1 j ?_)));have D:=ac.app (ed.one (V:=jv g) (x:=cy.new) ⟨bg,j,aX⟩);have W:i5 i++[cy.new]=i5 (i+1):=by unfold i5;rw [List.replicate_succ']
    rw [W] at D;have a:C o [] [bj g f (⟨.slice (some ⟨d,0,none⟩) aR aR,aj,.slice none 0 0,ab q,.slice none 0 0⟩:cd),R d U.toArray 40,y,au,B,ap,a7,dR g] w:=a.as;exact⟨(i+1,aj,_,au,_),⟨j,j,aY⟩,⟨by dsimp only;omega,ay,D,a.perm (by simp)⟩,by dsimp only;omega⟩
   have N:i=4:=by omega
   subst N
   refine cH 6 j (ct:=Nat×Value×List Value×List Chunk×List Chunk) (λe=>[(6,ab f),(70,.int .i64 (e.1:Nat))])
    (λe w=>e.1<=3/\Row 86 1 e.2.1 e.1 e.2.2.1 e.2.2.2.1/\ed l0 e.2.2.1 (kp e.1) e.2.2.2.2/\C o [] [bj g f (⟨.slice (some ⟨d,0,none⟩) aR aR,s,e.2.1,ab q,.slice none 0 0⟩:cd),R d U.toArray 40,y,E,B,e.2.2.2.1,e.2.2.2.2,a7,dR g] w) (λe=>3-e.1) (0,.slice none 0 0,[],[],[]) ⟨j,j,aY⟩ ⟨b6 _,Row.nil _ _,j,a.perm (by simp)⟩ ?_
   rintro⟨i,z,be,eX,L⟩ w ⟨M,ag,Y,a⟩;dsimp only at M ag Y a⊢;refine cm 4 j j (λaK=>?_) (λaK=>?_)
   .have a:C o [] ([bj g f (⟨.slice (some ⟨d,0,none⟩) aR aR,s,z,ab q,.slice none 0 0⟩:cd)]++_) w:=a.front;have a:=a.drew;have bi:i<3:=by omega
    have aP:evalBin .add .i64 97 (i:Int)=some (.int .i64 ((97+i:Nat):Int)):=by rcases(show i=0\/i=1\/i=2 by omega) with rfl|rfl|rfl<;>rfl
    have aN:IntKind.i32.wrap ((97+i:Nat):Int)=((97+i:Nat):Int):=by rcases(show i=0\/i=1\/i=2 by omega) with rfl|rfl|rfl<;>rfl
    have aV:Utf8.encode ((97+i:Nat):Int)=strOf (kt i):=by rcases(show i=0\/i=1\/i=2 by omega) with rfl|rfl|rfl<;>rfl
    refine bw 7 j (λw=>∃ae,C o [] ([bj g f (⟨.slice (some ⟨d,0,none⟩) aR aR,s,z,ab q,.slice none 0 0⟩:cd)]++ae) w) ⟨_,a⟩ (af 0 4 j (a8 4 j a1 j (af 5 2 j (aT 7 j (λw _=>dq j j aP) (aT 8 j (λw _=>kC j aN) (aT 9 j (λw _=>tA j aV) (aU 10 j (cN j j j (vE (n:=(i:Int)) (x:=kt i)) (λr w⟨az,GE,I,aZ,t⟩=>?_)))))))));subst I;have a:=a.aM t;have a:C o [] ([bj g f (⟨.slice (some ⟨d,0,none⟩) aR aR,s,z,ab q,.slice none 0 0⟩:cd)]++_) w:=a.front;refine ar ⟨⟨_,a⟩,?_⟩;refine aT 11 j (λw _=>e1 (c:= #[ab az,ad (-1)]) j (λ_=>by kernel_rfl)) (aU 12 j (lr a j j j (λF w a=>?_)));have a:C o [] (de F az (-1)::_) w:=a;have a:C o [] ([bj g f (⟨.slice (some ⟨d,0,none⟩) aR aR,s,z,ab q,.slice none 0 0⟩:cd)]++_) w:=a.front;refine ar ⟨⟨_,a⟩,?_⟩;refine aU 13 j (eO a j j j j j j bJ (λaw w a=>?_));have bb:Rd _ (some ⟨aw,0,none⟩) [Value.pointer (some ⟨F,0,none⟩)]:=bp (C.ak (b:=aw) a);have a:C o [] ([bj g f (⟨.slice (some ⟨d,0,none⟩) aR aR,s,z,ab q,.slice none 0 0⟩:cd)]++_) w:=a.front;refine ar ⟨⟨_,a⟩,?_⟩;refine aU 14 j ?_;have a:C o [] [eX,bj g f (⟨.slice (some ⟨d,0,none⟩) aR aR,s,z,ab q,.slice none 0 0⟩:cd),R d U.toArray 40,y,E,B,L,de F az (-1),GE,a7,dR g] _:=a.as;refine d9 a ag j j (by decide) j j j (news:=[Value.pointer (some ⟨F,0,none⟩)]) (m:=1) j bb (λu hu=>by rw [List.mem_singleton.1 hu];rfl) (by omega) (by unfold maxLen;omega) (λP T w ax a=>?_);have a:C o [] ([bj g f (⟨.slice (some ⟨d,0,none⟩) aR aR,s,z,ab q,.slice none 0 0⟩:cd)]++_) w:=a.front;refine ar ⟨⟨_,a⟩,?_⟩;refine af 15 2 j (dy 17 j (cC (a.bc f) j j j ax.one bJ (λw a=>?_)));have a:C o [] (bj g f (⟨.slice (some ⟨d,0,none⟩) aR aR,s,P,ab q,.slice none 0 0⟩:cd)::_) w:=a;refine ar (cX (bq 1 j j j (cM i (by omega)) (bP 1 j ?_)));have D:=Y.app (ed.one (V:=l0) (x:=(bG.new (i:Int) (kt i),(-1:Int))) ⟨F,az,GE,j,aZ,j⟩);have W:kp i++[(bG.new (i:Int) (kt i),(-1:Int))]=kp (i+1):=by unfold kp;rw [List.range_succ,List.map_append];rfl
    rw [W] at D;have a:C o [] [bj g f (⟨.slice (some ⟨d,0,none⟩) aR aR,s,P,ab q,.slice none 0 0⟩:cd),R d U.toArray 40,y,E,B,T,L,de F az (-1),GE,a7,dR g] w:=a.as;exact⟨(i+1,P,_,T,_),⟨j,j,aY⟩,⟨by dsimp only;omega,ax,D,C.perm (A:=[bj g f (⟨.slice (some ⟨d,0,none⟩) aR aR,s,P,ab q,.slice none 0 0⟩:cd),R d U.toArray 40,y,E,B,T,L,de F az (-1),GE,a7,dR g]) a (by simp)⟩,by dsimp only;omega⟩
   refine ao 6 j j ?_;have N:i=3:=by omega
   subst N;have a4:Row 40 1 (.slice (some ⟨d,0,none⟩) aR aR) aR U (R d U.toArray 40):=Row.full (by unfold maxLen;omega) (by rw [List.size_toArray,ai,Nat.mul_one]);exact⟨f,g,_,j,a9,a6,⟨(⟨.slice (some ⟨d,0,none⟩) aR aR,s,z,ab q,.slice none 0 0⟩:cd),R d U.toArray 40++y,E++B,eX++L,a7,[],⟨⟨_,_,U,j,by show Row 40 1 _ (hJ aR (aR-k)).length U _;rw [lk (by omega)];exact a4,X⟩,⟨_,_,us,j,ah,ac⟩,⟨_,_,be,j,ag,Y⟩,al,cz.nil⟩,j⟩,C.perm (A:=[dR g,bj g f (⟨.slice (some ⟨d,0,none⟩) aR aR,s,z,ab q,.slice none 0 0⟩:cd),R d U.toArray 40,y,E,B,eX,L,a7]) a.as (by simp)⟩
 refine oC (l:=aR) (c:=aR) a j j j j (by omega) (by omega) (by unfold maxLen;omega) (λd bR w bf Q a=>ar ⟨aY,?_⟩);refine aU 1 j (eO a j j j j j j bJ (λaB w a=>?_));have aC:=a.bE;refine ar ⟨aY,?_⟩;refine aU 2 j ?_;have aC:Rd _ (some ⟨aB,0,none⟩) (aG [1]):=bp (C.ak (b:=aB) a);refine bF j j j (pA (p:=[1]) aC (by decide) (by decide)) (λw t=>?_);have a:=a.aM t;refine ar ⟨aY,?_⟩;refine aU 3 j (cN j j j (vG (n:=aR) (e6:=bO [1]) (by omega) (e7 _)) (λr w⟨g,I,a9,a6,t⟩=>?_));subst I;have a:=a.aM t;refine ar ⟨aY,?_⟩;refine aU 6 j (cN j j j sC (λr w⟨a7,al,t⟩=>?_));obtain⟨q,aD⟩:∃q,r=ab q:=by obtain⟨b,v,H,h,_⟩:=al;exact⟨b,h⟩
 subst aD;have a:=a.aM t;refine ar ⟨aY,?_⟩;refine aT 7 j (λw _=>e1 (c:=(lY g (⟨.slice (some ⟨d,0,none⟩) aR aR,.slice none 0 0,.slice none 0 0,ab q,.slice none 0 0⟩:cd)).toArray) j (λ_=>by kernel_rfl)) (aU 8 j (lr a j j j (λf w a=>?_)));have a:C o [] (bj g f (⟨.slice (some ⟨d,0,none⟩) aR aR,.slice none 0 0,.slice none 0 0,ab q,.slice none 0 0⟩:cd)::_) w:=a;have Q:bR=(List.replicate aR (Value.pointer none)).toArray:=Q.trans (by rcases aJ with rfl|rfl<;>kernel_rfl);subst Q;have a:C o [] [bj g f (⟨.slice (some ⟨d,0,none⟩) aR aR,.slice none 0 0,.slice none 0 0,ab q,.slice none 0 0⟩:cd),R d (List.replicate aR (Value.pointer none)).toArray 40,a7,dR g] w:=a.as;refine ar ⟨aY,?_⟩;refine af 9 1 j (bK (bq 5 j j j (hC aR k (by omega) (by omega)) ?_))
 refine cH 2 j (ct:=Nat×List Value×List Chunk) (λe=>[(6,ab f),(36,.int .i64 (aR-k:Nat)),(37,.int .i64 (e.1:Nat))])
  (λe w=>e.1<=aR-k/\e.2.1.length=aR/\ed (h5 g) e.2.1 (hJ aR e.1) e.2.2/\C o [] [bj g f (⟨.slice (some ⟨d,0,none⟩) aR aR,.slice none 0 0,.slice none 0 0,ab q,.slice none 0 0⟩:cd),R d e.2.1.toArray 40,e.2.2,a7,dR g] w) (λe=>aR-k-e.1) (0,List.replicate aR (.pointer none),[]) ⟨j,j,j,aY⟩ ⟨b6 _,oT,ed.rep (V:=h5 g) (x:=none) ⟨j,j⟩ aR,C.perm (A:=[bj g f (⟨.slice (some ⟨d,0,none⟩) aR aR,.slice none 0 0,.slice none 0 0,ab q,.slice none 0 0⟩:cd),R d (List.replicate aR (Value.pointer none)).toArray 40,a7,dR g]) a (by simp)⟩ ?_
 rintro⟨i,U,y⟩ w ⟨M,ai,X,a⟩;dsimp only at M ai X a⊢;refine cm 4 j j (λaF=>?_) (λaF=>?_)
 .have a:C o [] ([bj g f (⟨.slice (some ⟨d,0,none⟩) aR aR,.slice none 0 0,.slice none 0 0,ab q,.slice none 0 0⟩:cd)]++_) w:=a.front;have a:=a.drew;have bm:i<aR-k:=by omega
  obtain⟨H1,aE,S,a0,aA,bd⟩:=X.put i (by rw [lk (by omega)];omega);refine bw 7 j (λw=>∃ae,C o [] ([bj g f (⟨.slice (some ⟨d,0,none⟩) aR aR,.slice none 0 0,.slice none 0 0,ab q,.slice none 0 0⟩:cd)]++ae) w) ⟨_,a⟩ (af 0 3 j (a8 3 j a1 j (af 4 4 j (a8 8 j a1 j (af 9 1 j (aU 10 j (cN j j j (vH (g:=g) (an:=(i:Int))) (λr w⟨K,O,I,a5,t⟩=>?_))))))));subst I;have a:=a.aM t;have a:C o [] ([bj g f (⟨.slice (some ⟨d,0,none⟩) aR aR,.slice none 0 0,.slice none 0 0,ab q,.slice none 0 0⟩:cd)]++_) w:=a.front;refine ar ⟨⟨_,a⟩,?_⟩;refine aT 11 j (λw _=>gb (J:=i) j j (by omega)) (dy 12 j (cC (a.bc d) j j j j (by rw [hy];omega) (λw a=>?_)));have a:C o [] (R d (U.toArray.setIfInBounds (0+i*1) (ab K)) 40::_) w:=a;rw [t3,fg,gZ] at a;refine ar (cX (bq 1 j j j (cM i (by omega)) (bP 1 j ?_)));have D:=bd (ab K) (some (bk.new (i:Int))) O ⟨K,j,a5⟩;rw [v7 (by omega)] at D
  have a3:aE=[]:=by
   have aW:(hJ aR i)[i]'(by rw [lk (by omega)];omega)=none:=by
    unfold hJ;rw [t4 (by simp)];simp
   rw [aW] at aA;exact aA.2
  subst a0;subst a3;have a:C o [] [bj g f (⟨.slice (some ⟨d,0,none⟩) aR aR,.slice none 0 0,.slice none 0 0,ab q,.slice none 0 0⟩:cd),R d (U.set i (ab K)).toArray 40,H1,S,O,a7,dR g] w:=C.perm (A:=[bj g f (⟨.slice (some ⟨d,0,none⟩) aR aR,.slice none 0 0,.slice none 0 0,ab q,.slice none 0 0⟩:cd),R d (U.set i (ab K)).toArray 40,H1++([]++S),O,a7,dR g]) a.as (by simp);have a:C o [] [bj g f (⟨.slice (some ⟨d,0,none⟩) aR aR,.slice none 0 0,.slice none 0 0,ab q,.slice none 0 0⟩:cd),R d (U.set i (ab K)).toArray 40,H1,O,S,a7,dR g] w:=a.as;exact⟨(i+1,_,_),⟨j,j,j,aY⟩,⟨by dsimp only;omega,by dsimp only;rw [hx];exact ai,D,a.perm (by simp)⟩,by dsimp only;omega⟩
 have N:i=aR-k:=by omega
 subst N
 refine cH 6 j (ct:=Nat×Value×List Value×List Chunk×List Chunk) (λe=>[(6,ab f),(53,.int .i64 (e.1:Nat))])
  (λe w=>e.1<=4/\Row 35 1 e.2.1 e.1 e.2.2.1 e.2.2.2.1/\ed (jv g) e.2.2.1 (i5 e.1) e.2.2.2.2/\C o [] [bj g f (⟨.slice (some ⟨d,0,none⟩) aR aR,e.2.1,.slice none 0 0,ab q,.slice none 0 0⟩:cd),R d U.toArray 40,y,e.2.2.2.1,e.2.2.2.2,a7,dR g] w) (λe=>4-e.1) (0,.slice none 0 0,[],[],[]) ⟨j,j,aY⟩ ⟨b6 _,Row.nil _ _,j,a.perm (by simp)⟩ ?_
 rintro⟨i,s,us,E,B⟩ w ⟨M,ah,ac,a⟩;dsimp only at M ah ac a⊢;refine cm 4 j j (λaI=>?_) (λaI=>?_)
 .have a:C o [] ([bj g f (⟨.slice (some ⟨d,0,none⟩) aR aR,s,.slice none 0 0,ab q,.slice none 0 0⟩:cd)]++_) w:=a.front;have a:=a.drew;have bl:i<4:=by omega
  refine bw 3 j (λw=>∃ae,C o [] ([bj g f (⟨.slice (some ⟨d,0,none⟩) aR aR,s,.slice none 0 0,ab q,.slice none 0 0⟩:cd)]++ae) w) ⟨_,a⟩ (af 0 4 j (a8 4 j a1 j (af 5 3 j (a8 8 j a1 j (aU 9 j (cN j j j (vD (g:=g)) (λr w⟨bg,ap,I,aX,t⟩=>?_)))))));subst I;have a:=a.aM t;have a:C o [] ([bj g f (⟨.slice (some ⟨d,0,none⟩) aR aR,s,.slice none 0 0,ab q,.slice none 0 0⟩:cd)]++_) w:=a.front;refine ar ⟨⟨_,a⟩,?_⟩;refine aU 10 j (eO a j j j j j j bJ (λav w a=>?_));have ba:Rd _ (some ⟨av,0,none⟩) [Value.pointer (some ⟨bg,0,none⟩)]:=bp (C.ak (b:=av) a);have a:C o [] ([bj g f (⟨.slice (some ⟨d,0,none⟩) aR aR,s,.slice none 0 0,ab q,.slice none 0 0⟩:cd)]++_) w:=a.front;refine ar ⟨⟨_,a⟩,?_⟩;refine aU 11 j ?_;have a:C o [] [E,bj g f (⟨.slice (some ⟨d,0,none⟩) aR aR,s,.slice none 0 0,ab q,.slice none 0 0⟩:cd),R d U.toArray 40,y,B,ap,a7,dR g] _:=a.as;refine d9 a ah j j (by decide) j j j (news:=[Value.pointer (some ⟨bg,0,none⟩)]) (m:=1) j ba (λu hu=>by rw [List.mem_singleton.1 hu];rfl) (by omega) (by unfold maxLen;omega) (λaj au w ay a=>?_);have a:C o [] ([bj g f (⟨.slice (some ⟨d,0,none⟩) aR aR,s,.slice none 0 0,ab q,.slice none 0 0⟩:cd)]++_) w:=a.front;refine ar ⟨⟨_,a⟩,?_⟩;refine af 12 2 j (dy 14 j (cC (a.bc f) j j j ay.one bJ (λw a=>?_)));have a:C o [] (bj g f (⟨.slice (some ⟨d,0,none⟩) aR aR,aj,.slice none 0 0,ab q,.slice none 0 0⟩:cd)::_) w:=a;refine ar (cX (bq 1 j j j (cM i (by omega)) (bP 1 j ?_)));have D:=ac.app (ed.one (V:=jv g) (x:=cy.new) ⟨bg,j,aX⟩);have W:i5 i++[cy.new]=i5 (i+1):=by unfold i5;rw [List.replicate_succ']
  rw [W] at D;have a:C o [] [bj g f (⟨.slice (some ⟨d,0,none⟩) aR aR,aj,.slice none 0 0,ab q,.slice none 0 0⟩:cd),R d U.toArray 40,y,au,B,ap,a7,dR g] w:=a.as;exact⟨(i+1,aj,_,au,_),⟨j,j,aY⟩,⟨by dsimp only;omega,ay,D,a.perm (by simp)⟩,by dsimp only;omega⟩
 have N:i=4:=by omega
 subst N
 refine cH 6 j (ct:=Nat×Value×List Value×List Chunk×List Chunk) (λe=>[(6,ab f),(70,.int .i64 (e.1:Nat))])
  (λe w=>e.1<=3/\Row 86 1 e.2.1 e.1 e.2.2.1 e.2.2.2.1/\ed l0 e.2.2.1 (kp e.1) e.2.2.2.2/\C o [] [bj g f (⟨.slice (some ⟨d,0,none⟩) aR aR,s,e.2.1,ab q,.slice none 0 0⟩:cd),R d U.toArray 40,y,E,B,e.2.2.2.1,e.2.2.2.2,a7,dR g] w) (λe=>3-e.1) (0,.slice none 0 0,[],[],[]) ⟨j,j,aY⟩ ⟨b6 _,Row.nil _ _,j,a.perm (by simp)⟩ ?_
 rintro⟨i,z,be,eX,L⟩ w ⟨M,ag,Y,a⟩;dsimp only at M ag Y a⊢;refine cm 4 j j (λaK=>?_) (λaK=>?_)
 .have a:C o [] ([bj g f (⟨.slice (some ⟨d,0,none⟩) aR aR,s,z,ab q,.slice none 0 0⟩:cd)]++_) w:=a.front;have a:=a.drew;have bi:i<3:=by omega
  have aP:evalBin .add .i64 97 (i:Int)=some (.int .i64 ((97+i:Nat):Int)):=by rcases(show i=0\/i=1\/i=2 by omega) with rfl|rfl|rfl<;>rfl
  have aN:IntKind.i32.wrap ((97+i:Nat):Int)=((97+i:Nat):Int):=by rcases(show i=0\/i=1\/i=2 by omega) with rfl|rfl|rfl<;>rfl
  have aV:Utf8.encode ((97+i:Nat):Int)=strOf (kt i):=by rcases(show i=0\/i=1\/i=2 by omega) with rfl|rfl|rfl<;>rfl
  refine bw 7 j (λw=>∃ae,C o [] ([bj g f (⟨.slice (some ⟨d,0,none⟩) aR aR,s,z,ab q,.slice none 0 0⟩:cd)]++ae) w) ⟨_,a⟩ (af 0 4 j (a8 4 j a1 j (af 5 2 j (aT 7 j (λw _=>dq j j aP) (aT 8 j (λw _=>kC j aN) (aT 9 j (λw _=>tA j aV) (aU 10 j (cN j j j (vE (n:=(i:Int)) (x:=kt i)) (λr w⟨az,GE,I,aZ,t⟩=>?_)))))))));subst I;have a:=a.aM t;have a:C o [] ([bj g f (⟨.slice (some ⟨d,0,none⟩) aR aR,s,z,ab q,.slice none 0 0⟩:cd)]++_) w:=a.front;refine ar ⟨⟨_,a⟩,?_⟩;refine aT 11 j (λw _=>e1 (c:= #[ab az,ad (-1)]) j (λ_=>by kernel_rfl)) (aU 12 j (lr a j j j (λF w a=>?_)));have a:C o [] (de F az (-1)::_) w:=a;have a:C o [] ([bj g f (⟨.slice (some ⟨d,0,none⟩) aR aR,s,z,ab q,.slice none 0 0⟩:cd)]++_) w:=a.front;refine ar ⟨⟨_,a⟩,?_⟩;refine aU 13 j (eO a j j j j j j bJ (λaw w a=>?_));have bb:Rd _ (some ⟨aw,0,none⟩) [Value.pointer (some ⟨F,0,none⟩)]:=bp (C.ak (b:=aw) a);have a:C o [] ([bj g f (⟨.slice (some ⟨d,0,none⟩) aR aR,s,z,ab q,.slice none 0 0⟩:cd)]++_) w:=a.front;refine ar ⟨⟨_,a⟩,?_⟩;refine aU 14 j ?_;have a:C o [] [eX,bj g f (⟨.slice (some ⟨d,0,none⟩) aR aR,s,z,ab q,.slice none 0 0⟩:cd),R d U.toArray 40,y,E,B,L,de F az (-1),GE,a7,dR g] _:=a.as;refine d9 a ag j j (by decide) j j j (news:=[Value.pointer (some ⟨F,0,none⟩)]) (m:=1) j bb (λu hu=>by rw [List.mem_singleton.1 hu];rfl) (by omega) (by unfold maxLen;omega) (λP T w ax a=>?_);have a:C o [] ([bj g f (⟨.slice (some ⟨d,0,none⟩) aR aR,s,z,ab q,.slice none 0 0⟩:cd)]++_) w:=a.front;refine ar ⟨⟨_,a⟩,?_⟩;refine af 15 2 j (dy 17 j (cC (a.bc f) j j j ax.one bJ (λw a=>?_)));have a:C o [] (bj g f (⟨.slice (some ⟨d,0,none⟩) aR aR,s,P,ab q,.slice none 0 0⟩:cd)::_) w:=a;refine ar (cX (bq 1 j j j (cM i (by omega)) (bP 1 j ?_)));have D:=Y.app (ed.one (V:=l0) (x:=(bG.new (i:Int) (kt i),(-1:Int))) ⟨F,az,GE,j,aZ,j⟩);have W:kp i++[(bG.new (i:Int) (kt i),(-1:Int))]=kp (i+1):=by unfold kp;rw [List.range_succ,List.map_append];rfl
  rw [W] at D;have a:C o [] [bj g f (⟨.slice (some ⟨d,0,none⟩) aR aR,s,P,ab q,.slice none 0 0⟩:cd),R d U.toArray 40,y,E,B,T,L,de F az (-1),GE,a7,dR g] w:=a.as;exact⟨(i+1,P,_,T,_),⟨j,j,aY⟩,⟨by dsimp only;omega,ax,D,C.perm (A:=[bj g f (⟨.slice (some ⟨d,0,none⟩) aR aR,s,P,ab q,.slice none 0 0⟩:cd),R d U.toArray 40,y,E,B,T,L,de F az (-1),GE,a7,dR g]) a (by simp)⟩,by dsimp only;omega⟩
 refine ao 6 j j ?_;have N:i=3:=by omega
 subst N;have a4:Row 40 1 (.slice (some ⟨d,0,none⟩) aR aR) aR U (R d U.toArray 40):=Row.full (by unfold maxLen;omega) (by rw [List.size_toArray,ai,Nat.mul_one]);exact⟨f,g,_,j,a9,a6,⟨(⟨.slice (some ⟨d,0,none⟩) aR aR,s,z,ab q,.slice none 0 0⟩:cd),R d U.toArray 40++y,E++B,eX++L,a7,[],⟨⟨_,_,U,j,by show Row 40 1 _ (hJ aR (aR-k)).length U _;rw [lk (by omega)];exact a4,X⟩,⟨_,_,us,j,ah,ac⟩,⟨_,_,be,j,ag,Y⟩,al,cz.nil⟩,j⟩,C.perm (A:=[dR g,bj g f (⟨.slice (some ⟨d,0,none⟩) aR aR,s,z,ab q,.slice none 0 0⟩:cd),R d U.toArray 40,y,E,B,eX,L,a7]) a.as (by simp)⟩
theorem v8{n m i:Nat}{x:bk}(hm:m<=n)(h:(hJ n m)[i]? =some (some x)):i<m/\x=bk.new (i:Int):=by
 unfold hJ at h;rcases oH i m with a|a
 .rw [iC (by simpa using a),List.getElem?_map,List.getElem?_range a] at h;exact⟨a,by simpa using h.symm⟩
 .rw [jf (by simpa using a)] at h;rw [List.getElem?_replicate] at h;split at h<;>cases h
theorem Af{n m i:Nat}(a:i<m):(hJ n m)[i]? =some (some (bk.new (i:Int))):=by
 unfold hJ;rw [iC (by simpa using a),List.getElem?_map,List.getElem?_range a];rfl
theorem aC.vI{g:am}{h:Nat}{an:Int}(hm:0<=an/\an<g.n):hj g h [] [] (aC.new an) where
 cur:=λr b=>by
  have b:some (aj.new an 0)=some r:=b;cases b;exact⟨eK.new hm ⟨h6 _,by decide⟩ (by intro c a;cases a),j,j⟩
 log:=(by intro i e he;cases he)
 stored:=(by intro p d;cases d)
 iH:=(by intro c a;cases a)
 an:=hm
theorem aS.vI{g:am}{n k:Nat}(aJ:g.n=n)(aa:k<=hE n)(d:1<=n):eQ g (n-k) [] [] (aS.new n k)/\gF [] (aS.new n k):=by
 refine⟨⟨(lk (by omega)).trans aJ.symm,by omega,by rw [aJ];omega,aY,λi x c=>?_,λi a=>⟨_,Af a⟩,(by intro m hm;cases hm),(by intro m hm;cases hm)⟩,(by intro _ _ v b;cases b)⟩;obtain⟨a,rfl⟩:=v8 (by omega) c;exact⟨aC.vI ⟨by omega,by omega⟩,j⟩
theorem uY{n:Nat}(h:1<=n):hE n<n:=by unfold hE;omega
theorem aS.lf{g:am}{n k:Nat}(aJ:g.n=n)(aa:k<=hE n)(c:1<=n):(aS.new n k).ok g 0:=by
 have br:=uY c;refine⟨(lk (by omega)).trans aJ.symm,λi x e=>?_,⟨0,_,Af (by omega)⟩,j,λb d=>?_,j,λp a=>?_,b6 _,ep.nil,b6 _,ep.nil,b6 _⟩
 .obtain⟨f,rfl⟩:=v8 (by omega) e;exact⟨bk.lf ⟨by omega,by omega⟩ _,j⟩
 .have:=List.eq_of_mem_replicate d;rw [this];exact⟨cD _,cD _,cD _,(by intro p a;cases a)⟩
 .obtain⟨J,_,rfl⟩:=dO.1 a;exact bG.lf (show 1<=1000 by decide)
theorem bt.C4(s:bt)(I:bA):(s.c9 I).1.marks=s.marks++(s.c9 I).2.2:=by
 unfold bt.c9
 repeat' split
 all_goals simp
theorem bt.Eb(s:bt)(I:bA)(p:du):(s.ends I p).1.marks=s.marks++(s.ends I p).2.2:=by
 unfold bt.ends
 repeat' split
 all_goals simp [bt.gf]
theorem bt.wZ{now:Int}{M:List bH}:∀(l:List (Int×du))(a:bt×List bH),a.1.marks=M++a.2->(l.foldl (bt.fv now) a).1.marks=M++(l.foldl (bt.fv now) a).2
 |[],_,h=>h
 |q::r,a,h=>by
  rw [hQ];refine bt.wZ r _ ?_;unfold bt.fv;split
  .show a.1.marks++[q.2.mark q.1 3]=M++(a.2++[q.2.mark q.1 3]);rw [h,dF]
  .exact h
theorem bt.D1(s:bt)(I:bA):(s.bY I).1.marks=s.marks++(s.bY I).2.2:=by
 unfold bt.bY;split
 .exact s.C4 I
 .split
  .exact bt.wZ (M:=s.marks) (dc s.cK) _ (by simp)
  .repeat' split
   .simp
   .simp
   .simp [bt.o0]
   .exact s.Eb I _
theorem bt.CG(s:bt)(I:bA):(s.apply I).1.marks=s.marks++(s.apply I).2.2:=by
 unfold bt.apply
 repeat' split
 .simp
 .simp
 .exact s.D1 I
def kh(x:bk):Prop:=∀m∈x.aE,m.ok=true/\m∈x.c.marks
theorem Cz{x:bk}(h:kh x)(b:List UInt8):kh (x.fU b)/\x.c.marks<+:(x.fU b).c.marks:=by
 unfold bk.fU;split
 .have e:=x.c.CG (ord b);refine⟨λm hm=>?_,⟨_,e.symm⟩⟩;show m.ok=true/\m∈(x.c.apply (ord b)).1.marks;rw [e];rcases dw.1 (show m∈x.aE++(x.c.apply (ord b)).2.2.filter (·.ok) from hm) with hm|hm
  .exact⟨(h m hm).1,dw.2 (.inl (h m hm).2)⟩
  .have a:=jd.1 hm;exact⟨a.2,dw.2 (.inr a.1)⟩
 .exact⟨h,mb _⟩
theorem xc:∀(l:List (List UInt8)){x:bk},kh x->kh (l.foldl bk.fU x)/\x.c.marks<+:(l.foldl bk.fU x).c.marks
 |[],_,h=>⟨h,mb _⟩
 |b::r,x,h=>by
  have a:=Cz h b;have d:=xc r a.1;exact⟨d.1,a.2.trans d.2⟩
theorem ui{x:bk}(h:kh x):kh x.hS/\x.c.marks<+:x.hS.c.marks:=xc ((x.s.log.map Prod.fst).drop x.dr) h
theorem CO{g:am}{x:bk}(h:kh x)(I:bA):kh (x.ask g I).1/\x.c.marks<+:(x.ask g I).1.c.marks:=by
 unfold bk.ask;split
 .exact ui (x:={x with s:=(x.s.eI g (i4 I)).1}) h
 .exact⟨h,mb _⟩
def rz(a b:List (Option bk)):Prop:=∀(i:Nat)(x:bk),a[i]? =some (some x)->∃dP,b[i]? =some (some dP)/\∀m∈x.c.marks,m∈dP.c.marks
theorem rz.set{a:List (Option bk)}{i:Nat}{x dP:bk}(e:a[i]? =some (some x))(f:x.c.marks<+:dP.c.marks):rz a (a.set i (some dP)):=λJ y b=>by
 by_cases d:i=J
 .subst d;rw [e] at b;cases b;exact⟨dP,nV (eY.1 e).1,λm hm=>f.subset hm⟩
 .exact⟨y,by rw [nW d];exact b,λ_ h=>h⟩
def oE(h:Nat)(r:List (Option bk))(v:aF):Prop:=v.v=0/\(0<=v.f->v.f<(h:Int)->∃(x:bk)(m:bH),r[v.f.toNat]? =some (some x)/\m∈x.c.marks/\m.ok=true/\m.sum=v.sum)
def tx(h:Nat)(r:List (Option bk))(m:bH):Prop:=m.ok=true/\∃(i:Nat)(x:bk)(a:bH),i<h/\r[i]? =some (some x)/\a∈x.c.marks/\a.ok=true/\a.sum=m.sum
structure ke(h:Nat)(r:List (Option bk))(b:cy):Prop where
 acc:∀m∈b.acc,tx h r m
 aE:∀p∈b.aE,∀q∈p.2,oE h r q.2
theorem ke.mono{h:Nat}{r o:List (Option bk)}{b:cy}(p:ke h r b)(n:rz r o):ke h o b where
 acc:=λm hm=>by
  obtain⟨c,i,x,t,d,f,g,j⟩:=p.acc m hm;obtain⟨dP,k,l⟩:=n i x f;exact⟨c,i,dP,t,d,k,l _ g,j⟩
 aE:=λq s e he=>by
  obtain⟨c,d⟩:=p.aE q s e he;refine⟨c,λa b=>?_⟩;obtain⟨x,m,f,g,j⟩:=d a b;obtain⟨dP,k,l⟩:=n _ x f;exact⟨dP,m,k,l _ g,j⟩
section
variable {g:am} {h:Nat} {r:List (Option bk)}
theorem Cd(aJ:h<=g.n)(br:g.n-h<=hE g.n)(K:1<=g.n){m:bH}{l:List aF}(a:n0 g m l=true)(p:∀v∈l,oE h r v):tx h r m:=by
 unfold n0 at a;rw [d8] at a;obtain⟨b0,C,L,o⟩:=vs (h:=h) (H:=l.map λv=>(⟨v.f,v.k,v.s,v.v,v.sum⟩:el)) (aP:=l) a.2 (λv e=>⟨e,λ_ _=>dO.2 ⟨v,e,j⟩,by rw [(p v e).1];decide⟩)
 have I:∃c∈b0,c.f<(h:Int):=by
  refine Classical.byContradiction λG=>?_
  have D:=Gh (n:=g.n) (h:=h) C (λi F=>by
   obtain⟨c,b,rfl⟩:=dO.1 F;have E:=pd (o c b).2.2.2.2.1;exact⟨Int.not_lt.1 λd=>G ⟨c,b,d⟩,E.2⟩)
  rw [fB] at D;unfold iL hE at*;omega
 obtain⟨c,b,d⟩:=I;obtain⟨_,_,_,q,t,u⟩:=o c b;have B:=(pd t).1;obtain⟨x,J,w,y,z,A⟩:=(p c u.1).2 B d;exact⟨a.1,c.f.toNat,x,J,by omega,w,y,z,A.trans q⟩
theorem Cf{l:List (Int×aF)}{v:aF}{q:Int×aF}(a:q∈ha l v):q∈l\/q.2=v:=by
 unfold ha at a;split at a
 .exact .inl a
 .exact(iy a).imp id (λe=>by rw [e])
theorem ke.c8(aJ:h<=g.n)(br:g.n-h<=hE g.n)(o:1<=g.n){b:cy}(p:ke h r b){m:bH}{v:aF}(i:kJ g m v=true->oE h r v):ke h r (b.c8 g m v).1:=by
 unfold cy.c8;split
 .exact p
 .split
  .exact p
  .rename_i w;have i:=i (by simpa using w)
   have a:∀q∈ha ((aZ b.aE (dS m)).getD []) v,oE h r q.2:=λq a=>by
    rcases Cf a with a|a
    .cases aa:aZ b.aE (dS m) with
     |none=>rw [aa] at a;cases a
     |some l=>rw [aa] at a;exact p.aE _ (hF aa) q a
    .rw [a];exact i
   have aL:∀e∈b9 b.aE (dS m) (ha ((aZ b.aE (dS m)).getD []) v),∀q∈e.2,oE h r q.2:=λe he=>(iy he).elim (p.aE e) (λk=>by rw [k];exact a)
   split
   .exact p
   .split
    .exact p
    .split
     .rename_i t
      have aa:∀c∈fJ (ha ((aZ b.aE (dS m)).getD []) v),oE h r c:=λc d=>by
       obtain⟨q,s,rfl⟩:=dO.1 d;exact a q (gO.1 s)
      have u:=Cd aJ br o t aa;have f:ke h r {b with aE:=fK (b9 b.aE (dS m) (ha ((aZ b.aE (dS m)).getD []) v)) (dS m)}:=⟨p.acc,λe he=>aL e (ns he)⟩;unfold cy.accept;split
      .exact f
      .split
       .exact f
       .have j:=cy.uL {b with aE:=fK (b9 b.aE (dS m) (ha ((aZ b.aE (dS m)).getD []) v)) (dS m)} m
        .split
         .exact⟨by rw [j.1];exact f.acc,by rw [j.2];exact f.aE⟩
         .refine⟨λc d=>?_,λe he=>f.aE e (ns he)⟩;have d:c∈b.acc++[m]:=d;rcases dw.1 d with d|d
          .exact p.acc c d
          .rw [fT.1 d];exact u
     .exact⟨p.acc,aL⟩
end
structure en(h:Nat)(z:aS):Prop where
 bu:∀(i:Nat)(x:bk),z.bu[i]? =some (some x)->kh x
 parts:∀b∈z.parts,ke h z.bu b
section
variable {g:am} {h:Nat} {z:aS}
theorem en.same{gA:aS}(i:en h z)(a:gA.bu=z.bu)(b:gA.parts=z.parts):en h gA:=⟨by rw [a];exact i.bu,by rw [a,b];exact i.parts⟩
theorem en.set(i:en h z){J:Nat}{x dP:bk}(e:z.bu[J]? =some (some x))(hm:kh dP/\x.c.marks<+:dP.c.marks):en h {z with bu:=z.bu.set J (some dP)} where
 bu:=λk y a=>by
  have a:(z.bu.set J (some dP))[k]? =some (some y):=a;by_cases d:J=k
  .subst d;rw [nV (eY.1 e).1] at a;cases a;exact hm.1
  .rw [nW d] at a;exact i.bu k y a
 parts:=λb f=>(i.parts b f).mono (rz.set e hm.2)
theorem en.fQ(i:en h z)(I:bA)(J:Nat):en h (z.fQ g I J):=by
 unfold aS.fQ;split
 .rename_i x a;exact(i.set a (CO (i.bu J x a) I)).same j j
 .exact i
theorem en.nc(I:bA):∀(l:List Nat){z:aS},en h z->en h (l.foldl (aS.fQ g I) z)
 |[],_,i=>i
 |J::r,_,i=>en.nc I r (i.fQ I J)
theorem en.asks(i:en h z)(I:bA)(e:Int):en h (z.asks g I e).1:=by
 unfold aS.asks;split
 .exact i
 .exact en.nc I _ i
theorem en.kz(i:en h z){J:Int}{x dP:bk}(b:z.rep J=some x)(hm:kh x->kh dP/\x.c.marks<+:dP.c.marks):en h (z.kz J dP):=by
 obtain⟨d,a⟩:=aS.nz b;exact i.set a (hm (i.bu _ x a))
theorem en.lS(i:en h z){J:Nat}{b:cy}(a:ke h z.bu b):en h {z with parts:=z.parts.set J b}:=⟨i.bu,λc d=>(oQ d).elim (i.parts c) (λe=>by rw [e];exact a)⟩
theorem en.records(i:en h z)(s:eF)(k:Nat)(p:bG×Int):en h (z.records s k p).1:=by
 unfold aS.records;split
 .exact i.same j j
 .split
  .exact i.same j j
  .rename_i b a
   have hm:b∈z.parts:=by
    unfold aS.part at a;split at a
    .exact hk a
    .cases a
   have c:=i.parts b hm;exact en.lS (z:=z.fM k _) (i.same j j) ⟨c.acc,c.aE⟩
theorem en.f0(i:en h z)(s:eF):en h (z.f0 g s).1:=by
 unfold aS.f0;split
 .exact i
 .have a:∀k p,en h (z.fM k p):=λk p=>i.same j j
  repeat' split
  .exact(a _ _).asks _ _
  .exact(a _ _).asks _ _
  .exact i.records s _ _
  .exact(a _ _).asks _ _
theorem en.gx(i:en h z)(s:eF):en h (z.gx g s).1:=by
 unfold aS.gx;split
 .exact i
 .rename_i m hm
  repeat' split
  .exact i.same j j
  .exact i
  .unfold aS.ks;split
   .exact i.same j j
   .rename_i x a;have b:en h {z with bz:=z.bz.eraseIdx ((max s.n 0).toNat%z.bz.length)}:=i.same j j;exact(b.kz a (λa=>ui (x:={x with s:=(x.s.take g m).1}) a)).same j j
  .exact i.same j j
theorem en.fx(i:en h z)(s:eF):en h (z.fx g s).1:=by
 unfold aS.fx;split
 .exact i
 .rename_i x a;exact(i.kz a (λa=>ui (x:={x with s:=(x.s.tick g).1}) a)).same j j
theorem FH{f:Int}{aL:List aW}{l:ew}{m:aW}(hm:eT g f aL l=some m)(aa:m.k=6):∀v∈m.l,v.f=f/\v.v=0:=by
 unfold eT at hm;split at hm
 .cases a:l.aE g f aL with
  |none=>rw [a] at hm;cases hm
  |some U=>
   rw [a] at hm;cases hm;have aa:l.k=6:=aa;unfold ew.aE at a;rw [a6 aa] at a;cases a;intro v b;have b:v∈[cS g 3 0 0 (bO l.x) f]:=b;rw [fT.1 b];exact⟨j,j⟩
 .cases hm
theorem en.fi(aJ:h<=g.n)(br:g.n-h<=hE g.n)(k:1<=g.n)(p:∀i,i<h->∃x,z.bu[i]? =some (some x))(i:en h z)(s:eF):en h (z.fi g s).1:=by
 unfold aS.fi;split
 .exact i
 .rename_i d;have t:¬s.node<0:=λe=>d (.inl e)
  have a:(z.rep s.node).isSome=false:=by
   cases e:(z.rep s.node).isSome with
   |false=>rfl
   |true=>exact(d (.inr (.inr e))).elim
  have u:(h:Int)<=s.node:=by
   refine Int.not_lt.1 λf=>?_
   obtain⟨x,q⟩:=p s.node.toNat (by omega);unfold aS.rep at a;rw [a6 (by omega),q] at a;cases a
  split
  .exact i
  .rename_i m hm;split
   .exact i.same j j
   .rename_i aa;split
    .exact i
    .split
     .rename_i b v r l o;have c:=FH hm (Classical.byContradiction aa) v (by rw [o];simp);exact i.lS ((i.parts b (hk l)).c8 aJ br k (λ_=>⟨c.2,λ_ f=>by rw [c.1] at f;omega⟩))
     .exact i
theorem AZ(aJ:h<=g.n)(br:g.n-h<=hE g.n)(d:1<=g.n){r:List (Option bk)}{J:Nat}{x:bk}(i:r[J]? =some (some x))(f:x.an=(J:Int)):∀(l:List bH),(∀m∈l,m.ok=true/\m∈x.c.marks)->∀{aD:List cy},(∀b∈aD,ke h r b)->∀b∈l.foldl (ou g x) aD,ke h r b
 |[],_,_,a=>a
 |m::l,e,aD,a=>by
  rw [hQ];refine AZ aJ br d i f l (λq p=>e q (by simp [p])) (λb k=>?_);obtain⟨c,o,rfl⟩:=dO.1 k;have hm:=e m (by simp);refine(a c o).c8 aJ br d (λ_=>?_);unfold dm;rw [a6 hm.1];refine⟨j,λ_ _=>⟨x,m,?_,hm.2,hm.1,j⟩⟩;show r[x.an.toNat]? =_;rw [f,lB];exact i
theorem A0(aJ:h<=g.n)(br:g.n-h<=hE g.n)(e:1<=g.n){r:List (Option bk)}(d:∀(J:Nat)(x:bk),r[J]? =some (some x)->kh x/\x.an=(J:Int)):∀(l:List (Option bk)),(∀I∈l,I∈r)->∀{aD:List cy},(∀b∈aD,ke h r b)->∀b∈l.foldl (jP g) aD,ke h r b
 |[],_,_,a=>a
 |I::l,f,aD,a=>by
  rw [hQ];refine A0 aJ br e d l (λq i=>f q (by simp [i])) ?_;cases I with
  |none=>exact a
  |some x=>
   obtain⟨J,c⟩:=l7 (f (some x) (by simp));exact AZ aJ br e c (d J x c).2 x.aE (d J x c).1 a
theorem en.bY(aJ:h<=g.n)(br:g.n-h<=hE g.n)(a:1<=g.n)(d:∀i,i<h->∃x,z.bu[i]? =some (some x))(c:∀(J:Nat)(x:bk),z.bu[J]? =some (some x)->x.an=(J:Int))(i:en h z)(s:eF):en h (z.bY g s).1:=by
 unfold aS.bY
 repeat' split
 .exact i.f0 s
 .exact i.asks _ _
 .exact i.gx s
 .exact i.fx s
 .exact i.fi aJ br a d s
 .exact⟨i.bu,A0 aJ br a (λJ x b=>⟨i.bu J x b,c J x b⟩) z.bu (λ_ h=>h) i.parts⟩
 .exact i
end
theorem CZ{o:World}{g:am}{aQ:Nat}{z:aS}{G:List Chunk}(d:eR g aQ z G)(a:Holds o G):Calls prog 16 #[ab aQ] o λr w=>∃b,r=ab b/\w=o:=by
 obtain⟨c,cG,bQ,dx,a7,bx,h,rfl⟩:=d;obtain⟨bg,bv,i,f,_,rfl⟩:=h.bz;have e:=a.left.head;refine a2 func16 ?_;refine al 15 j (aw e (aH some f)) ?_;refine ao 1 j j ?_;exact⟨bg,j,j⟩
theorem partAt{o:World}{g:am}{aQ:Nat}{z:aS}{G:List Chunk}{i:Int}(k:eR g aQ z G)(d:Holds o G)(l:0<=i/\i<(z.parts.length:Int)):Calls prog 7 #[ab aQ,ad i] o λr w=>∃(bg:Nat)(b:cy)(a7:List Chunk),r=ab bg/\z.parts[i.toNat]? =some b/\ju g bg b a7/\Holds o a7/\w=o:=by
 obtain⟨c,cG,bQ,dx,a7,bx,n,rfl⟩:=k;obtain⟨ag,H,U,rfl,s,a⟩:=n.parts;have f:i.toNat<z.parts.length:=by omega
 have m:=a.len;have p:=a.vZ;obtain⟨v,ai,h,aA,t,rfl,⟨bg,rfl,j⟩,_⟩:=a.at i.toNat f;have e:=d.right.right.left;refine Calls.mono (zP (V:=jv g) (xs:=z.parts) (U:=U) (i:=i) d.left.head s e.left m p) (λr w⟨q,hw⟩=>⟨bg,z.parts[i.toNat],h,?_,cf f,j,e.right.right.left,hw⟩);rw [q,a6 l,iS,t];rfl
theorem qU{o:World}{g:am}{aQ:Nat}{z:aS}{G:List Chunk}{i:Int}(d:eR g aQ z G)(b:Holds o G):Calls prog 10 #[ab aQ,ad i] o λr w=>∃(p:Option Addr)(a:List Chunk),r= .pointer p/\l5 g p (z.rep i) a/\Holds o a/\w=o:=by
 obtain⟨c,p,ag,H1,a,m,bQ,dx,a7,bx,U,e,j,l,f,k,_,_,rfl,_⟩:=d.sI i;refine Calls.mono (v6 (V:=h5 g) (xs:=z.bu) (c:=c) (U:=U) (i:=i) b.left.head j b.right.left.left l f) (λr w⟨h,hw⟩=>⟨p,a,h.trans k,e,b.right.left.right.right.left,hw⟩)
theorem y6{o:World}{g:am}{bg:Nat}{b:cy}{G:List Chunk}(d:ju g bg b G)(a:Holds o G):Calls prog 17 #[ab bg] o λr w=>∃(bf:Nat)(L:List Chunk),r=ab bf/\kF bf b.log L/\Holds o L/\w=o:=by
 obtain⟨c,L,M,V,f,rfl⟩:=d;have e:=a.left.head;refine a2 func17 ?_;refine al 15 j (aw e j) ?_;refine ao 1 j j ?_;exact⟨c.bf,L,j,f.log,a.right.left,j⟩
theorem Fw{o:World}{bf:Nat}{l:dM}{G:List Chunk}(b:kF bf l G)(a:Holds o G):Calls prog 27 #[ab bf] o λr w=>r=ad (l.cZ.length:Nat)/\w=o:=by
 obtain⟨c,ag,S,E,f,rfl⟩:=b;obtain⟨i,k,us,rfl,g,_⟩:=f.cZ;obtain⟨h,m,e,_,_⟩:=g.form;have d:=a.left.head;refine a2 func27 ?_;refine al 15 j (aw d (aH some e)) ?_;refine ao 2 j j ?_;exact⟨j,j⟩
theorem l5.isNil{g:am}{p:Option Addr}{I:Option bk}{G:List Chunk}(h:l5 g p I G)(aL:I.isSome=true):p.isNone=false:=by
 have a:=h.isSome;rw [aL] at a;cases p with
 |none=>cases a
 |some _=>rfl
theorem xo{o:World}{nF fi:Bool}{aR k:Nat}(t:aR=if nF=true then 7 else 4)(s:k=if fi=true then hE aR else 0):Calls prog 5 #[.bool nF,.bool fi] o λr w=>∃(aQ:Nat)(g:am)(G:List Chunk),r=ab aQ/\g.ok/\g.keys=qW aR (bO [1])/\eR g aQ (aS.new aR k) G/\C o [] [dR g,G] w:=by
 have B:aR=4\/aR=7:=by rw [t];split<;>simp
 have M:k<=hE aR:=by rw [s];split<;>omega
 have S:k<aR:=by have:=uY (n:=aR) (by omega);omega
 have F:hE aR=(aR-1)/3:=by rcases B with rfl|rfl<;>rfl
 refine a2 func5 (mm 7 j (λZ w=>sub Z [(1,.bool fi),(5,.int .i64 (aR:Nat)),(6,ad 0)]/\w=o) ?_ ?_)
 .refine bm 3 j j (λl=>?_) (λl=>?_)
  .refine bP 2 j (⟨⟨j,aH (λx:Nat=>some (Value.int .i64 (x:Int))) (by rw [t,a6 l]),j,aY⟩,j⟩)
  refine bP 1 j (⟨⟨j,aH (λx:Nat=>some (Value.int .i64 (x:Int))) (by rw [t,aI (by simp [l])]),j,aY⟩,j⟩)
 rintro Z w ⟨aL,a⟩;have a:=a.symm;subst a;refine l4 [(1,.bool fi),(5,.int .i64 (aR:Nat)),(6,ad 0)] aL (mm 0 j (λZ w=>sub Z [(5,.int .i64 (aR:Nat)),(6,.int .i64 (k:Nat))]/\w=o) ?_ ?_)
 .refine bm 3 j j (λm=>?_) (λm=>?_)
  .refine bq 2 j j j (hC aR 1 (by omega) (by omega)) (tN (J:=3) j j j j (by decide) (by omega) (bP 1 j (⟨⟨j,aH (λx:Nat=>some (Value.int .i64 (x:Int))) (by rw [s,a6 m,F]),aY⟩,j⟩)))
  refine bP 1 j (⟨⟨j,aH (λx:Nat=>some (Value.int .i64 (x:Int))) (show 0=k by rw [s,aI (by simp [m])]),aY⟩,j⟩)
 rintro Z w ⟨aL,a⟩;have a:=a.symm;subst a;refine l4 [(5,.int .i64 (aR:Nat)),(6,.int .i64 (k:Nat))] aL (bh 4 (Ge (o:=_) (aR:=aR) (k:=k) B M) j (λr u⟨aQ,g,G,c,I,H,e,A⟩=>?_));subst c;have f:Holds u G:=A.holds (G:=G) (by simp);refine aq 11 j (bS 24 (.bool false) j (aH Value.bool (j)) ?_);refine aq 4 j (bS 28 (.bool false) j (aH Value.bool (j)) ?_);refine bh 1 (CZ e f) j (λr d⟨bg,c,h⟩=>?_);subst c;subst d;refine cH 9 j (ct:=Nat) (λi=>[(5,.int .i64 (aR:Nat)),(7,ab aQ),(9,.int .i64 (i:Nat))]) (λi w=>i<=4/\w=u) (λi=>4-i) 0 ⟨j,j,j,aY⟩ ⟨b6 _,j⟩ ?_;rintro i w ⟨K,a⟩;have a:=a.symm;subst a;refine cm 5 j j (λq=>?_) (λq=>?_)
 .refine bh 7 (partAt (i:=(i:Int)) e f ⟨by omega,by have:=q;show(i:Int)<((i5 4).length:Int);rw [show(i5 4).length=4 from oT];omega⟩) j (λr d⟨bg,b,a7,c,N,y,z,h⟩=>?_);subst c;subst d;refine aq 2 j (bS 41 (.bool false) j (aH Value.bool (j)) ?_);refine bh 2 (partAt (i:=(i:Int)) e f ⟨by omega,by have:=q;show(i:Int)<((i5 4).length:Int);rw [show(i5 4).length=4 from oT];omega⟩) j (λr d⟨bg,b,a7,c,N,y,z,h⟩=>?_);subst c;subst d;refine bh 0 (y6 y z) j (λr d⟨bf,L,c,R,P,h⟩=>?_);subst c;subst d;exact bq 6 j j j (cM i (by omega)) (bP 1 j ⟨i+1,⟨j,j,j,aY⟩,⟨by omega,j⟩,by omega⟩)
 refine cH 6 j (ct:=Nat) (λi=>[(5,.int .i64 (aR:Nat)),(7,ab aQ),(10,.int .i64 (i:Nat))]) (λi w=>i<=aR/\w=u) (λi=>aR-i) 0 ⟨j,j,j,aY⟩ ⟨b6 _,j⟩ ?_;rintro i w ⟨K,a⟩;have a:=a.symm;subst a;refine cm 6 j j (λD=>?_) (λD=>?_)
 .refine bo 7 (n8 (i:=(i:Int)) e f) j (λd h=>?_);subst d;refine aq 1 j (cQ 56 j (λv=>?_) (λv=>?_));refine bh 2 (qU (i:=(i:Int)) e f) j (λr d⟨p,O,c,E,Q,h⟩=>?_);subst c;subst d;refine i0 2 j j ((E.isNil v)) (bq 3 j j j (cM i (by omega)) ?_);rotate_left
  refine bq 9 j j j (cM i (by omega)) ?_;rotate_left
  all_goals
   exact bP 1 j ⟨i+1,⟨j,j,j,aY⟩,⟨by omega,j⟩,by omega⟩
 exact ao 5 j j ⟨aQ,g,G,j,I,H,e,A⟩
theorem yT{o:World}:Calls prog 14 #[] o λr w=>r= .bool true/\C o [] [] w:=by
 refine a2 func14 (bh 5 (xo (nF:=false) (fi:=true) (aR:=4) (k:=1) j j) j (λr t⟨aQ,g,G,c,v,u,f,h⟩=>?_));subst c;have e:Holds t G:=h.holds (G:=G) (by simp);refine aq 6 j (bS 5 (.bool true) j (aH Value.bool (j)) ?_);refine bo 1 (n8 (i:=0) f e) j (λa d=>?_);subst a;refine aq 2 j (bS 9 (.bool true) j (aH Value.bool (j)) ?_);refine bo 1 (n8 (i:=3) f e) j (λa d=>?_);subst a;refine aq 3 j (bS 14 (.bool true) j (aH Value.bool (j)) ?_);refine bh 1 (partAt (i:=0) f e ⟨by decide,by decide⟩) j (λr a⟨bg,b,a7,c,s,l,m,d⟩=>?_);subst c;subst a;refine bh 0 (y6 l m) j (λr a⟨bf,L,c,p,n,d⟩=>?_);subst c;subst a;refine bo 0 (Fw p n) j (λa d=>?_);subst a;have q:b=cy.new:=(hz s).symm;subst q;exact ao 3 j j ⟨j,h.bare⟩
theorem DY{o:World}{g:am}{aQ:Nat}{z:aS}{G:List Chunk}{s:eF}{a:hP}(p:eR g aQ z G)(H:h3 s a (au [G]) o){N M L:Nat}(aa:z.df g (λ_=>N) M L)(u:773<=N)(v:N+150<=1000000)(B:M+10000<=1000000)(t:L+4200000<=1000000000)(x:g.at o)(y:g.ok)(q:g.off (au [G]))(c:Own [G] o):Calls prog 6 #[ab aQ,.agg (c7 s a).toArray] o λr w=>r=ad (z.bY g s).2/\∃ai,eR g aQ (z.bY g s).1 ai/\C o (au [G]) [ai] w:=by
 obtain⟨F,E⟩:∃F,F=au [G]:=⟨_,j⟩;have A:g.off F:=E▸q;rw [<-E];have c:C o F [G] o:=E▸c;refine a2 func6 (bM 2 c j j (λn w c=>?_));have c:C o F [R n (c7 s a).toArray 33,G] w:=c;refine al 12 j (aw (C.ak (b:=n) c) j) (bm 6 j j (λd=>?_) (λd=>?_))
 .refine mo 1 j j (d) (bN 3 (U:=c7 s a) j j j (bp (C.ak (b:=n) c)) ?_);have i:=sQ (s:=s) (a:=a) p ((H.st c (λb D=>E▸D))) aa u v B t (x.st c A) y q (c.ours (cI:=[G]));refine bo 0 i j (λw⟨ai,h,l⟩=>?_);have c:=c.b3 l;refine ao 1 j j ?_;have f:s.k=1\/s.k=2\/s.k=3\/s.k=4:=by first|exact .inl (by simpa using d)|exact .inr (.inl (by simpa using d))|exact .inr (.inr (.inl (by simpa using d)))|exact .inr (.inr (.inr (by simpa using d)))
  have e:z.bY g s=z.f0 g s:=by unfold aS.bY;rw [if_pos f]
  rw [e];exact⟨j,ai,h,c.as⟩
 refine bm 4 j j (λd=>?_) (λd=>?_)
 .refine mo 1 j j (d) (bN 3 (U:=c7 s a) j j j (bp (C.ak (b:=n) c)) ?_);have i:=sQ (s:=s) (a:=a) p ((H.st c (λb D=>E▸D))) aa u v B t (x.st c A) y q (c.ours (cI:=[G]));refine bo 0 i j (λw⟨ai,h,l⟩=>?_);have c:=c.b3 l;refine ao 1 j j ?_;have f:s.k=1\/s.k=2\/s.k=3\/s.k=4:=by first|exact .inl (by simpa using d)|exact .inr (.inl (by simpa using d))|exact .inr (.inr (.inl (by simpa using d)))|exact .inr (.inr (.inr (by simpa using d)))
  have e:z.bY g s=z.f0 g s:=by unfold aS.bY;rw [if_pos f]
  rw [e];exact⟨j,ai,h,c.as⟩
 refine bm 4 j j (λd=>?_) (λd=>?_)
 .refine mo 1 j j (d) (bN 3 (U:=c7 s a) j j j (bp (C.ak (b:=n) c)) ?_);have i:=sQ (s:=s) (a:=a) p ((H.st c (λb D=>E▸D))) aa u v B t (x.st c A) y q (c.ours (cI:=[G]));refine bo 0 i j (λw⟨ai,h,l⟩=>?_);have c:=c.b3 l;refine ao 1 j j ?_;have f:s.k=1\/s.k=2\/s.k=3\/s.k=4:=by first|exact .inl (by simpa using d)|exact .inr (.inl (by simpa using d))|exact .inr (.inr (.inl (by simpa using d)))|exact .inr (.inr (.inr (by simpa using d)))
  have e:z.bY g s=z.f0 g s:=by unfold aS.bY;rw [if_pos f]
  rw [e];exact⟨j,ai,h,c.as⟩
 refine bm 3 j j (λd=>?_) (λd=>?_)
 .refine bN 3 (U:=c7 s a) j j j (bp (C.ak (b:=n) c)) ?_;have i:=sQ (s:=s) (a:=a) p ((H.st c (λb D=>E▸D))) aa u v B t (x.st c A) y q (c.ours (cI:=[G]));refine bo 0 i j (λw⟨ai,h,l⟩=>?_);have c:=c.b3 l;refine ao 1 j j ?_;have f:s.k=1\/s.k=2\/s.k=3\/s.k=4:=by first|exact .inl (by simpa using d)|exact .inr (.inl (by simpa using d))|exact .inr (.inr (.inl (by simpa using d)))|exact .inr (.inr (.inr (by simpa using d)))
  have e:z.bY g s=z.f0 g s:=by unfold aS.bY;rw [if_pos f]
  rw [e];exact⟨j,ai,h,c.as⟩
 refine bm 4 j j (λI=>?_) (λI=>?_)
 .refine bN 3 (U:=c7 s a) j j j (bp (C.ak (b:=n) c)) ?_;have i:=Ci (s:=s) (a:=a) p aa u v t (x.st c A) y q (c.ours (cI:=[G]));refine bo 0 i j (λw⟨ai,h,l⟩=>?_);have c:=c.b3 l;refine ao 1 j j ?_;have f:s.k=5:=by simpa using I
  have e:z.bY g s=z.rV g s:=by unfold aS.bY;rw [if_neg (by omega),if_pos f]
  rw [e];exact⟨j,ai,h,c.as⟩
 refine bm 5 j j (λm=>?_) (λm=>?_)
 .refine mo 1 j j (m) (bN 3 (U:=c7 s a) j j j (bp (C.ak (b:=n) c)) ?_);have i:=vx (s:=s) (a:=a) p aa u v B t (x.st c A) y q (c.ours (cI:=[G]));refine bo 0 i j (λw⟨ai,h,l⟩=>?_);have c:=c.b3 l;refine ao 1 j j ?_;have f:s.k=6\/s.k=7\/s.k=8:=by first|exact .inl (by simpa using m)|exact .inr (.inl (by simpa using m))|exact .inr (.inr (by simpa using m))
  have e:z.bY g s=z.gx g s:=by unfold aS.bY;rw [if_neg (by omega),if_neg (by omega),if_pos f]
  rw [e];exact⟨j,ai,h,c.as⟩
 refine bm 4 j j (λm=>?_) (λm=>?_)
 .refine mo 1 j j (m) (bN 3 (U:=c7 s a) j j j (bp (C.ak (b:=n) c)) ?_);have i:=vx (s:=s) (a:=a) p aa u v B t (x.st c A) y q (c.ours (cI:=[G]));refine bo 0 i j (λw⟨ai,h,l⟩=>?_);have c:=c.b3 l;refine ao 1 j j ?_;have f:s.k=6\/s.k=7\/s.k=8:=by first|exact .inl (by simpa using m)|exact .inr (.inl (by simpa using m))|exact .inr (.inr (by simpa using m))
  have e:z.bY g s=z.gx g s:=by unfold aS.bY;rw [if_neg (by omega),if_neg (by omega),if_pos f]
  rw [e];exact⟨j,ai,h,c.as⟩
 refine bm 3 j j (λm=>?_) (λm=>?_)
 .refine bN 3 (U:=c7 s a) j j j (bp (C.ak (b:=n) c)) ?_;have i:=vx (s:=s) (a:=a) p aa u v B t (x.st c A) y q (c.ours (cI:=[G]));refine bo 0 i j (λw⟨ai,h,l⟩=>?_);have c:=c.b3 l;refine ao 1 j j ?_;have f:s.k=6\/s.k=7\/s.k=8:=by first|exact .inl (by simpa using m)|exact .inr (.inl (by simpa using m))|exact .inr (.inr (by simpa using m))
  have e:z.bY g s=z.gx g s:=by unfold aS.bY;rw [if_neg (by omega),if_neg (by omega),if_pos f]
  rw [e];exact⟨j,ai,h,c.as⟩
 refine bm 4 j j (λJ=>?_) (λJ=>?_)
 .refine bN 3 (U:=c7 s a) j j j (bp (C.ak (b:=n) c)) ?_;have i:=Iw (s:=s) (a:=a) p aa u v B t (x.st c A) y q (c.ours (cI:=[G]));refine bo 0 i j (λw⟨ai,h,l⟩=>?_);have c:=c.b3 l;refine ao 1 j j ?_;have f:s.k=9:=by simpa using J
  have e:z.bY g s=z.fx g s:=by unfold aS.bY;rw [if_neg (by omega),if_neg (by omega),if_neg (by omega),if_pos f]
  rw [e];exact⟨j,ai,h,c.as⟩
 refine bm 4 j j (λK=>?_) (λK=>?_)
 .refine bN 3 (U:=c7 s a) j j j (bp (C.ak (b:=n) c)) ?_;have i:=FI (s:=s) (a:=a) p ((H.st c (λb D=>E▸D))) aa u v B t (x.st c A) y q (c.ours (cI:=[G]));refine bo 0 i j (λw⟨ai,h,l⟩=>?_);have c:=c.b3 l;refine ao 1 j j ?_;have f:s.k=10:=by simpa using K
  have e:z.bY g s=z.fi g s:=by unfold aS.bY;rw [if_neg (by omega),if_neg (by omega),if_neg (by omega),if_neg (by omega),if_pos f]
  rw [e];exact⟨j,ai,h,c.as⟩
 refine bm 4 j j (λO=>?_) (λO=>?_)
 .have i:=GV p aa u v B t (x.st c A) y q (c.ours (cI:=[G]));refine bo 3 i j (λw⟨ai,h,l⟩=>?_);have c:=c.b3 l;refine ao 1 j j ?_;have f:s.k=11:=by simpa using O
  have e:z.bY g s=(z.polls g,0):=by unfold aS.bY;rw [if_neg (by omega),if_neg (by omega),if_neg (by omega),if_neg (by omega),if_neg (by omega),if_pos f]
  rw [e];exact⟨j,ai,h,c.as⟩
 refine ao 4 j j ?_;simp only [ft,ne_eq] at*;have e:z.bY g s=(z,1):=by unfold aS.bY;rw [if_neg (by omega),if_neg (by omega),if_neg (by omega),if_neg (by omega),if_neg (by omega),if_neg (by omega)]
 rw [e];exact⟨j,G,p,c.as⟩
theorem aS.Hm{z:aS}{i:Nat}{x:bk}(h:z.rep (i:Int)=some x):z.bu[i]? =some (some x):=by
 unfold aS.rep at h;rw [a6 (by omega),lB] at h;cases a:z.bu[i]? with
 |none=>rw [a] at h;cases h
 |some I=>rw [a] at h;have h:I=some x:=h;rw [h]
theorem aS.Hn{z:aS}{i:Nat}{x:bk}(h:z.bu[i]? =some (some x)):z.rep (i:Int)=some x:=by
 unfold aS.rep;rw [a6 (by omega),lB,h];rfl
theorem am.CP{g:am}{o w:World}{F:List Nat}{ae:List (List Chunk)}(h:C o F ae w)(a:dR g∈ae):g.at w:=⟨(h.holds a).head,(h.holds a).tail.head⟩
theorem am.Gj{g:am}{o w:World}{F:List Nat}{G:List Chunk}{ae:List (List Chunk)}(h:C o F (G::ae) w)(d:dR g∈ae):g.off (au [G]):=by
 have aJ:=h.nodup;rw [pf] at aJ;have c:=(iR.1 aJ).2.2;have hm:∀b,b∈au [dR g]->b∈au ae:=fI (by simpa using d);exact⟨λa=>c _ a _ (hm g.av (by simp [au])) j,λa=>c _ a _ (hm g.ej (by simp [au])) j⟩
def iw(z:aS)(a:Nat):List bH:=match z.rep (a:Int) with
 |some x=>x.c.marks
 |none=>[]
def bH.az(m:bH):List UInt8:=if m.ok=true then m.enc else []
def rA(l:List bH)(i k:Nat):Prop:=∃a b,l[i]? =some a/\l[k]? =some b/\a≠b/\bO a.az=bO b.az
theorem r1{z:aS}{a:Nat}{x:bk}(h:z.rep (a:Int)=some x):iw z a=x.c.marks:=by unfold iw;rw [h]
theorem CT{h:Nat}{z:aS}{m:bH}{acc:List bH}(y:h<=7)(hm:m∈acc)(o:tx h z.bu m)(u:∀a,a<7->m∉iw z a):∃i k,k<i/\rA (acc++(List.range 7).flatMap (iw z)) i k:=by
 obtain⟨g,i,x,b,w,j,c,l,n⟩:=o;have f:=r1 (aS.Hn j);have t:b≠m:=λe=>u i (by omega) (by rw [f,<-e];exact c)
 obtain⟨p,d⟩:=l7 hm;have r:b∈(List.range 7).flatMap (iw z):=m0.2 ⟨i,m6.2 (by omega),by rw [f];exact c⟩;obtain⟨q,v⟩:=l7 r;have s:=(eY.1 d).1;refine⟨acc.length+q,p,by omega,b,m,?_,?_,t,?_⟩
 .rw [jf (by omega),Nat.add_sub_cancel_left];exact v
 .rw [iC s];exact d
 .unfold bH.az;rw [a6 l,a6 g];exact n
theorem en.new{h n k:Nat}(aa:k<=n):en h (aS.new n k) where
 bu:=λi x d=>by
  obtain⟨_,rfl⟩:=v8 (by omega) d;intro m hm;cases hm
 parts:=λb a=>by
  have:=List.eq_of_mem_replicate a;subst this;exact⟨(by intro m hm;cases hm),(by intro p c;cases c)⟩
theorem IW{p q:List UInt8}(h:∀J,J<64->p.getD J 0=q.getD J 0){i:Nat}(a:i<16):word p i=word q i:=by
 unfold word;rw [h (4*i) (by omega),h (4*i+1) (by omega),h (4*i+2) (by omega),h (4*i+3) (by omega)]
theorem Aq{p q:List UInt8}(h:∀J,J<64->p.getD J 0=q.getD J 0):∀n,dW p n=dW q n
 |0=>ub λi a=>IW h (m6.1 a)
 |n+1=>aH nC (Aq h n)
theorem AM{p q:List UInt8}(h:∀J,J<64->p.getD J 0=q.getD J 0)(s:eP):js p s=js q s:=by
 have key:∀n,rounds p s n=rounds q s n:=λn=>by
  induction n with
  |zero=>rfl
  |succ n a=>unfold rounds;rw [Aq h,a]
 unfold js;rw [key]
theorem qx(p:List UInt8)(k J:Nat):(p.drop k).getD J 0=p.getD (k+J) 0:=by rw [iS,lA,iS]
theorem getD_take(p:List UInt8){k J:Nat}(h:J<k):(p.take k).getD J 0=p.getD J 0:=by rw [iS,jD,a6 h,iS]
theorem sh(p q:List UInt8){J:Nat}(h:J<p.length):(p++q).getD J 0=p.getD J 0:=by rw [iS,iC h,iS]
theorem u5(p q:List UInt8){J:Nat}(h:p.length<=J):(p++q).getD J 0=q.getD (J-p.length) 0:=by rw [iS,jf h,iS]
def jp(n:Nat):Nat:=if n%64<56 then 55-n%64 else 119-n%64
def lP(n:Nat)(J:Nat):UInt8:=UInt8.ofNat ((8*n)>>>(8*(7-J)))
def eB(p:List UInt8):List UInt8:=(p++[128])++(List.replicate (jp p.length) 0++(List.range 8).map (lP p.length))
theorem zO(p:List UInt8):p.length+1+jp p.length+8=64*(p.length/64)+ek p:=by
 unfold jp;rcases ii p with h|h
 .rw [aI (by omega)];omega
 .rw [a6 h.2];omega
theorem Ab(p:List UInt8):(eB p).length=64*(p.length/64)+ek p:=by
 rw [<-zO];simp [eB];omega
theorem Ac(p:List UInt8){i:Nat}(h:i<p.length):(eB p).getD i 0=p.getD i 0:=by
 unfold eB;rw [sh _ _ (by simp;omega),sh _ _ h]
theorem Hh(p:List UInt8){i:Nat}(h:i<ek p):(eB p).getD (64*(p.length/64)+i) 0=kL p 8 i:=by
 have k:=zO p;have aJ:p.length%64<64:=jE _ (by decide);have j:p.length=64*(p.length/64)+p.length%64:=by omega
 have g:=ii p;unfold kL;by_cases a:i<p.length%64
 .rw [a6 a,Ac p (by omega)];unfold lT;rw [qx]
 .rw [aI a];unfold eB;by_cases b:i=p.length%64
  .rw [a6 b,sh _ _ (by simp;omega),u5 _ _ (by omega),show 64*(p.length/64)+i-p.length=0 by omega];rfl
  .rw [aI b,u5 _ _ (by simp;omega)];have e:64*(p.length/64)+i-(p++[(128:UInt8)]).length=i-p.length%64-1:=by simp;omega
   rw [e];by_cases c:ek p-8<=i/\i<ek p
   .rw [a6 c,u5 _ _ (by simp;omega),oT];have d:i-p.length%64-1-jp p.length=i-(ek p-8):=by omega
    have f:i-(ek p-8)<8:=by omega
    rw [d,iS,gN,List.getElem?_range f];show lP p.length (i-(ek p-8))=_;unfold lP;rw [show 7-(i-(ek p-8))=ek p-1-i by omega]
   .rw [aI c,sh _ _ (by simp;omega),iS,List.getElem?_replicate];split<;>rfl
def hI(m:List UInt8):Nat->eP
 |0=>gM
 |k+1=>js ((m.drop (64*k)).take 64) (hI m k)
theorem Ae(p:List UInt8):∀k,k<=p.length/64->hI (eB p) k=ko p k
 |0,_=>rfl
 |k+1,h=>by
  show js _ (hI (eB p) k)=js _ (ko p k);rw [Ae p k (by omega)];refine AM (λJ a=>?_) _;rw [getD_take _ a,qx,qx,Ac p (by omega)]
theorem Ad(p:List UInt8):∀k,64*k<=ek p->hI (eB p) (p.length/64+k)=kZ p k
 |0,_=>Ae p _ (cD _)
 |k+1,h=>by
  show js _ (hI (eB p) (p.length/64+k))=js _ (kZ p k);rw [Ad p k (by omega)];refine AM (λJ a=>?_) _;have b:=ii p;have e:64*(p.length/64+k)+J=64*(p.length/64)+(64*k+J):=by omega
  rw [getD_take _ a,qx,qx];show(eB p).getD (64*(p.length/64+k)+J) 0=_;rw [e,Hh p (by omega)];unfold mq;rw [iS,qu _ (by omega)];rfl
theorem Hi(p:List UInt8):(hI (eB p) ((eB p).length/64)).out=bO p:=by
 rw [Ab];have a:=ii p;rw [show(64*(p.length/64)+ek p)/64=p.length/64+ek p/64 by omega,Ad p (ek p/64) (by omega)];rfl
theorem lQ{o:World}{x:BitVec 32}{n:Nat}(aJ:n<=32):Calls prog 168 #[eW x,.int .u64 n] o λr w=>r=eW (kQ x n)/\w=o:=by
 refine a2 func168 (aq 7 j (io j j j j (by omega) (lL x n aJ) ?_));exact bq 2 j j j (yc 32 n aJ (by decide)) (io j j j j (by omega) (nl x (32-n) (by omega)) (bq 0 j j j (nk _ _) (ao 1 j j ⟨j,j⟩)))
theorem Hg{o:World}:Calls prog 116 #[] o λr w=>r= .agg (ga fP).toArray/\C o [] [] w:=by
 have a:Own [] o:=C.start o;refine e9 func116 (cl 2 a j (λcU w a=>aq 2 j (cP (c:=(ga fP).toArray) j j j (λ_=>by kernel_rfl) ?_)));refine ck 0 a j j j (by decide) (by decide) (λw a=>?_);have a:=C.whole (U:=ga fP) a j;refine bI 0 j ⟨_,hf (U:=ga fP) results116 j j j a.bE,?_⟩;exact⟨j,a.bare⟩
def iQ:eP:=⟨0#32,0#32,0#32,0#32,0#32,0#32,0#32,0#32⟩
theorem Dc{o:World}{ej:Nat}{s:eP}{A:Option Addr}{p:List UInt8}{c:Nat}(t:Rd o A (aG p))(aa:o.heap[ej]? =some (.cells (ga fP).toArray 140 (0,0)))(M:64<=p.length):Calls prog 117 #[.agg s.cs.toArray,.slice A p.length c,ab ej] o λr w=>r= .agg (js p s).cs.toArray/\C o [] [] w:=by
 obtain⟨u,rfl,_⟩:=t 0 (bv (p.getD 0 0)) (lG (by omega));have L:ej<o.heap.size:=(gv.1 aa).1;have b:Own [] o:=C.start o;refine e9 func117 (bM 2 b j j (λf w b=>cl 0 b j (λd w b=>cl 2 b j (λg w b=>?_))));have b:C o [] [R g (fo (words p 0)) 140,R d iQ.cs.toArray 138,R f s.cs.toArray 138] w:=b;refine cH 5 j (ct:=Nat) (λi=>[(1,.slice (some u) p.length c),(2,ab ej),(3,ab f),(6,ab d),(7,ab g),(8,.int .i64 (i:Nat))]) (λi w=>i<=16/\C o [] [R g (fo (words p i)) 140,R d iQ.cs.toArray 138,R f s.cs.toArray 138] w) (λi=>16-i) 0 ⟨j,j,j,j,j,j,aY⟩ ⟨b6 _,b⟩ ?_;rintro i w ⟨E,b⟩;refine cm 5 j j (λz=>?_) (λz=>?_)
 .have k:i<16:=by omega
  have b:=b.drew;refine bw 3 j (λw=>C o [] [R g (fo (words p i)) 140,R d iQ.cs.toArray 138,R f s.cs.toArray 138] w) b (af 0 3 j (aT 3 j (λw _=>dq j j (jK 4 i (by omega))) ?_));refine aT 4 j (λw _=>mL (J:=4*i) j j (by omega)) (bT 5 j (λw h=>Rd.cell (h.rd t (bX.of_nil _ _)) (lG (J:=4*i) (by omega))) (aT 6 j (λw _=>kC j (ni _)) (aT 7 j (λw _=>mM j j (by omega) (nl _ 24 (by decide))) (af 8 2 j (aT 10 j (λw _=>dq j j (jK 4 i (by omega))) (aT 11 j (λw _=>dq j j (gm (4*i) 1 (by omega))) (aT 12 j (λw _=>mL (J:=4*i+1) j j (by omega)) (bT 13 j (λw h=>Rd.cell (h.rd t (bX.of_nil _ _)) (lG (J:=4*i+1) (by omega))) ?_))))))));refine aT 14 j (λw _=>kC j (ni _)) (aT 15 j (λw _=>mM j j (by omega) (nl _ 16 (by decide))) (aT 16 j (λw _=>dq j j (nk _ _)) (af 17 2 j (aT 19 j (λw _=>dq j j (jK 4 i (by omega))) (aT 20 j (λw _=>dq j j (gm (4*i) 2 (by omega))) (aT 21 j (λw _=>mL (J:=4*i+2) j j (by omega)) (bT 22 j (λw h=>Rd.cell (h.rd t (bX.of_nil _ _)) (lG (J:=4*i+2) (by omega))) (aT 23 j (λw _=>kC j (ni _)) (aT 24 j (λw _=>mM j j (by omega) (nl _ 8 (by decide))) ?_)))))))));refine aT 25 j (λw _=>dq j j (nk _ _)) (af 26 2 j (aT 28 j (λw _=>dq j j (jK 4 i (by omega))) (aT 29 j (λw _=>dq j j (gm (4*i) 3 (by omega))) (aT 30 j (λw _=>mL (J:=4*i+3) j j (by omega)) (bT 31 j (λw h=>Rd.cell (h.rd t (bX.of_nil _ _)) (lG (J:=4*i+3) (by omega))) (aT 32 j (λw _=>kC j (ni _)) (aT 33 j (λw _=>dq j j (nk _ _)) (aT 34 j (λw _=>fb (J:=i) j j (by omega)) (dy 35 j (cC b j j j j (by rw [tp (by rw [ow];omega)];omega) (λw b=>?_)))))))))))
  have b:C o [] [[(g,.cells (fo (words p (i+1))) 140 (0,0))],R d iQ.cs.toArray 138,R f s.cs.toArray 138] w:=by
   have e:=tn (l:=words p i) (by rw [ow];omega) (word p i);rw [ow,<-Be] at e;rw [<-e];exact b
  exact ar (cX (bq 2 j j j (cM i (by omega)) (bP 1 j ⟨i+1,⟨j,j,j,j,j,j,aY⟩,⟨k,b⟩,by omega⟩)))
 have F:i=16:=by omega
 subst F;refine cH 6 j (ct:=Nat) (λJ=>[(1,.slice (some u) p.length c),(2,ab ej),(3,ab f),(6,ab d),(7,ab g),(9,.int .i64 (16+J:Nat))]) (λJ w=>J<=48/\C o [] [R g (fo (dW p J)) 140,R d iQ.cs.toArray 138,R f s.cs.toArray 138] w) (λJ=>48-J) 0 ⟨j,j,j,j,j,j,aY⟩ ⟨b6 _,b⟩ ?_;rintro J w ⟨H,b⟩;refine cm 5 j j (λB=>?_) (λB=>?_)
 .have k:J<48:=by omega
  have N:=hV p J;refine bq 6 j j j (hC (16+J) 15 (by omega) (by omega)) (hv (J:=16+J-15) j j j j (by omega) (al 0 j (b.cell (lW (by rw [hV];omega))) (bq 4 j j j (hC (16+J) 2 (by omega) (by omega)) (hv (J:=16+J-2) j j j j (by omega) (al 0 j (b.cell (lW (by rw [hV];omega))) ?_)))));have b:=b.drew;refine bw 1 j (λw=>C o [] [R g (fo (dW p J)) 140,R d iQ.cs.toArray 138,R f s.cs.toArray 138] w) b (af 0 2 j (aT 2 j (λw _=>dq j j (hC (16+J) 16 (by omega) (by omega))) (aT 3 j (λw _=>fb (J:=16+J-16) j j (by omega)) ?_)));refine bT 4 j (λw h=>h.cell (lW (by rw [hV];omega))) (fH 3 [5,7,10] j (aT 11 j (λw _=>mM j j (by omega) (lL _ 3 (by decide))) (af 14 1 j (aT 15 j (λw _=>dq j j (hC (16+J) 7 (by omega) (by omega))) (aT 16 j (λw _=>fb (J:=16+J-7) j j (by omega)) (bT 17 j (λw h=>h.cell (lW (by rw [hV];omega))) (fH 3 [19,21,24] j (aT 25 j (λw _=>mM j j (by omega) (lL _ 10 (by decide))) (aU 6 j (bF j j j (lQ (o:=_) (x:=(dW p J).getD (16+J-15) 0) (n:=7) (by decide)) (λq hw=>?_)))))))))));subst hw;refine ar ⟨b,?_⟩;refine aU 8 j (bF j j j (lQ (o:=_) (x:=(dW p J).getD (16+J-15) 0) (n:=18) (by decide)) (λq hw=>?_));subst hw;refine ar ⟨b,?_⟩;refine aT 9 j (λw _=>dq j j (hD _ _)) (aT 12 j (λw _=>dq j j (hD _ _)) (aT 13 j (λw _=>dq j j (hB _ _)) (aT 18 j (λw _=>dq j j (hB _ _)) (aU 20 j (bF j j j (lQ (o:=_) (x:=(dW p J).getD (16+J-2) 0) (n:=17) (by decide)) (λq hw=>?_))))));subst hw;refine ar ⟨b,?_⟩;refine aU 22 j (bF j j j (lQ (o:=_) (x:=(dW p J).getD (16+J-2) 0) (n:=19) (by decide)) (λq hw=>?_));subst hw;refine ar ⟨b,?_⟩;refine aT 23 j (λw _=>dq j j (hD _ _)) (aT 26 j (λw _=>dq j j (hD _ _)) (aT 27 j (λw _=>dq j j (hB _ _)) (aT 28 j (λw _=>fb (J:=16+J) j j (by omega)) (dy 29 j (cC b j j j j (by rw [tp (by rw [hV];omega)];omega) (λw b=>?_))))))
  have b:C o [] [[(g,.cells (fo (dW p (J+1))) 140 (0,0))],R d iQ.cs.toArray 138,R f s.cs.toArray 138] w:=by
   have D:dW p (J+1)=dW p J++[(dW p J).getD (16+J-16) 0+pt ((dW p J).getD (16+J-15) 0)+(dW p J).getD (16+J-7) 0+pv ((dW p J).getD (16+J-2) 0)]:=by
    show nC (dW p J)=_;unfold nC;rw [hV]
   have e:=tn (l:=dW p J) (by rw [hV];omega) ((dW p J).getD (16+J-16) 0+pt ((dW p J).getD (16+J-15) 0)+(dW p J).getD (16+J-7) 0+pv ((dW p J).getD (16+J-2) 0));rw [hV] at e;rw [D,<-e];exact b
  exact ar (cX (bq 2 j j j (cM (16+J) (by omega)) (bP 1 j ⟨J+1,⟨j,j,j,j,j,j,aY⟩,⟨k,b⟩,by omega⟩)))
 have I:J=48:=by omega
 subst I;refine bN 3 (U:=s.cs) j j j b.f2.bE (cl 0 b j (λm w b=>ck 0 b j j j j j (λw b=>?_)));have b:C o [] [R m (rounds p s 0).cs.toArray 138,R g (fo (dW p 48)) 140,R d iQ.cs.toArray 138,R f s.cs.toArray 138] w:=C.whole (U:=s.cs) b j;refine cH 5 j (ct:=Nat) (λi=>[(1,.slice (some u) p.length c),(2,ab ej),(3,ab f),(6,ab d),(7,ab g),(12,ab m),(13,.int .i64 (i:Nat))]) (λi w=>i<=64/\C o [] [R m (rounds p s i).cs.toArray 138,R g (fo (dW p 48)) 140,R d iQ.cs.toArray 138,R f s.cs.toArray 138] w) (λi=>64-i) 0 ⟨j,j,j,j,j,j,j,aY⟩ ⟨b6 _,b⟩ ?_;rintro i w ⟨E,b⟩;refine cm 5 j j (λv=>?_) (λv=>?_)
 .have k:i<64:=by omega
  have b:=b.drew;refine bw 4 j (λw=>C o [] [R m (rounds p s i).cs.toArray 138,R g (fo (dW p 48)) 140,R d iQ.cs.toArray 138,R f s.cs.toArray 138] w) b (aT 0 j (λw _=>fb (J:=0) j j (by decide)) (bT 1 j (λw h=>h.cell j) (aT 2 j (λw _=>fb (J:=4) j j (by decide)) (bT 3 j (λw h=>h.cell j) (af 4 2 j (bK ?_))))));have b:=b.drew;refine bw 1 j (λw=>C o [] [R m (rounds p s i).cs.toArray 138,R g (fo (dW p 48)) 140,R d iQ.cs.toArray 138,R f s.cs.toArray 138] w) b (aT 0 j (λw _=>fb (J:=7) j j (by decide)) (bT 1 j (λw h=>h.cell j) (fH 4 [2,4,7,11] j (aT 12 j (λw _=>fb (J:=5) j j (by decide)) (bT 13 j (λw h=>h.cell j) (aT 14 j (λw _=>dq j j (lK _ _)) (af 15 1 j ?_)))))));refine aT 16 j (λw _=>BJ j (ya _)) (aT 17 j (λw _=>fb (J:=6) j j (by decide)) (bT 18 j (λw h=>h.cell j) (aT 19 j (λw _=>dq j j (lK _ _)) (aT 20 j (λw _=>dq j j (hD _ _)) (af 22 3 j (aT 25 j (λw _=>fb (J:=i) j j k) (bT 26 j (λw h=>ph ((h.fX ej L (by simp)).trans aa) (wz k)) (af 28 1 j (aT 29 j (λw _=>fb (J:=i) j j k) (bT 30 j (λw h=>h.f1.cell (lW (by rw [hV];omega))) (aU 3 j (bF j j j (lQ (o:=_) (x:=(rounds p s i).e) (n:=6) (by decide)) (λq hw=>?_)))))))))))));subst hw;refine ar ⟨b,?_⟩;refine aU 5 j (bF j j j (lQ (o:=_) (x:=(rounds p s i).e) (n:=11) (by decide)) (λq hw=>?_));subst hw;refine ar ⟨b,?_⟩;refine aT 6 j (λw _=>dq j j (hD _ _)) (aU 8 j (bF j j j (lQ (o:=_) (x:=(rounds p s i).e) (n:=25) (by decide)) (λq hw=>?_)));subst hw;refine ar ⟨b,?_⟩;refine aT 9 j (λw _=>dq j j (hD _ _)) (aT 10 j (λw _=>dq j j (hB _ _)) (aT 21 j (λw _=>dq j j (hB _ _)) (aT 27 j (λw _=>dq j j (hB _ _)) (aT 31 j (λw _=>dq j j (hB _ _)) (af 32 1 j (bK ?_))))));have b:=b.drew;refine bw 1 j (λw=>C o [] [R m (rounds p s i).cs.toArray 138,R g (fo (dW p 48)) 140,R d iQ.cs.toArray 138,R f s.cs.toArray 138] w) b (fH 4 [0,2,5,8] j (aT 9 j (λw _=>fb (J:=1) j j (by decide)) (bT 10 j (λw h=>h.cell j) (aT 11 j (λw _=>dq j j (lK _ _)) ?_))));refine af 12 1 j (aT 13 j (λw _=>fb (J:=2) j j (by decide)) (bT 14 j (λw h=>h.cell j) (aT 15 j (λw _=>dq j j (lK _ _)) (aT 16 j (λw _=>dq j j (hD _ _)) (aT 17 j (λw _=>fb (J:=1) j j (by decide)) (bT 18 j (λw h=>h.cell j) (aT 19 j (λw _=>fb (J:=2) j j (by decide)) (bT 20 j (λw h=>h.cell j) (aT 21 j (λw _=>dq j j (lK _ _)) (aT 22 j (λw _=>dq j j (hD _ _)) (aU 1 j (bF j j j (lQ (o:=_) (x:=(rounds p s i).a) (n:=2) (by decide)) (λq hw=>?_)))))))))))));subst hw;refine ar ⟨b,?_⟩;refine aU 3 j (bF j j j (lQ (o:=_) (x:=(rounds p s i).a) (n:=13) (by decide)) (λq hw=>?_));subst hw;refine ar ⟨b,?_⟩;refine aT 4 j (λw _=>dq j j (hD _ _)) (aU 6 j (bF j j j (lQ (o:=_) (x:=(rounds p s i).a) (n:=22) (by decide)) (λq hw=>?_)));subst hw;refine ar ⟨b,?_⟩;refine aT 7 j (λw _=>dq j j (hD _ _)) (aT 23 j (λw _=>dq j j (hB _ _)) (af 24 1 j (bK (bq 3 j j j (hB _ _) (aq 1 j (hv (J:=1) j j j j (by decide) ?_))))));refine al 0 j (aw (C.ak b) j) (hv (J:=2) j j j j (by decide) (al 0 j (aw (C.ak b) j) (hv (J:=3) j j j j (by decide) (al 0 j (aw (C.ak b) j) (bq 1 j j j (hB _ _) (aq 1 j (hv (J:=5) j j j j (by decide) ?_)))))));refine al 0 j (aw (C.ak b) j) (hv (J:=6) j j j j (by decide) (al 0 j (aw (C.ak b) j) (cP (c:=(rounds p s (i+1)).cs.toArray) j j j (λ_=>by kernel_rfl) (ck 0 b j j j j j (λw b=>?_)))));have b:C o [] [R m (rounds p s (i+1)).cs.toArray 138,R g (fo (dW p 48)) 140,R d iQ.cs.toArray 138,R f s.cs.toArray 138] w:=C.whole (U:=(rounds p s (i+1)).cs) b (Eq.refl 8);exact bq 2 j j j (cM i (by omega)) (bP 1 j ⟨i+1,⟨j,j,j,j,j,j,j,aY⟩,⟨k,b⟩,by omega⟩)
 have G:i=64:=by omega
 subst G;have b:C o [] [R f s.cs.toArray 138,R m (rounds p s 64).cs.toArray 138,R g (fo (dW p 48)) 140,R d iQ.cs.toArray 138] w:=b.f3;refine cH 6 j (ct:=Nat) (λJ=>[(1,.slice (some u) p.length c),(2,ab ej),(3,ab f),(6,ab d),(7,ab g),(12,ab m),(18,.int .i64 (J:Nat))]) (λJ w=>J<=8/\C o [] [R f (mixed s (rounds p s 64) J).toArray 138,R m (rounds p s 64).cs.toArray 138,R g (fo (dW p 48)) 140,R d iQ.cs.toArray 138] w) (λJ=>8-J) 0 ⟨j,j,j,j,j,j,j,aY⟩ ⟨b6 _,b⟩ ?_;rintro J w ⟨H,b⟩;refine cm 5 j j (λy=>?_) (λy=>?_)
 .have k:J<8:=by omega
  have b:=b.drew;refine bw 3 j (λw=>C o [] [R f (mixed s (rounds p s 64) J).toArray 138,R m (rounds p s 64).cs.toArray 138,R g (fo (dW p 48)) 140,R d iQ.cs.toArray 138] w) b (af 0 2 j (aT 2 j (λw _=>fb (J:=J) j j k) (bT 3 j (λw h=>h.cell (zg s (rounds p s 64) k)) (af 4 1 j (aT 5 j (λw _=>fb (J:=J) j j k) (bT 6 j (λw h=>h.f1.cell (r4 _ k)) (aT 7 j (λw _=>dq j j (hB _ _)) (aT 8 j (λw _=>fb (J:=J) j j k) (dy 9 j (cC b j j j j (by rw [zh _ _ k];exact k) (λw b=>?_)))))))))));have b:C o [] [R f (mixed s (rounds p s 64) (J+1)).toArray 138,R m (rounds p s 64).cs.toArray 138,R g (fo (dW p 48)) 140,R d iQ.cs.toArray 138] w:=by rw [<-zi s (rounds p s 64) k];exact b
  exact ar (cX (bq 2 j j j (cM J (by omega)) (bP 1 j ⟨J+1,⟨j,j,j,j,j,j,j,aY⟩,⟨k,b⟩,by omega⟩)))
 have K:J=8:=by omega
 subst K;have b:=b.f3;refine bN 3 (U:=(js p s).cs) j j j b.f1.bE (ck 0 b j j j j j (λw b=>?_));have b:C o [] (R d (js p s).cs.toArray 138::_) w:=C.whole (U:=(js p s).cs) b (Eq.refl 8);refine bI 0 j ⟨_,hf (U:=(js p s).cs) results117 j j j b.bE,?_⟩;exact⟨j,b.bare⟩
end Go.Proofs.YtdomoelfhjdioaaGreatDoor.R
