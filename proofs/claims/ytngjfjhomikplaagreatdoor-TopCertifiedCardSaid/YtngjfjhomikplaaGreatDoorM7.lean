/- Part 7 of the proof. -/
import Derived.Test.YtngjfjhomikplaaGreatDoorM6
set_option linter.unusedVariables false
set_option linter.unusedSimpArgs false
set_option linter.unusedSectionVars false
set_option maxRecDepth 20000
set_option maxHeartbeats 4000000
namespace Go.Proofs.YtngjfjhomikplaaGreatDoor.R
open Go.Proofs.Tryz Go Go.RowKit Go.Proofs
theorem DR{o:World}{g:al}{aQ:Nat}{z:aY}{G:List Chunk}{s:fb}{a:hO}(p:eP g aQ z G)(H:h2 s a (av [G]) o){N M L:Nat}(aa:z.df g (λ_=>N) M L)(u:773<=N)(v:N+150<=1000000)(B:M+10000<=1000000)(t:L+4200000<=1000000000)(x:g.at o)(y:g.ok)(q:g.off (av [G]))(c:Own [G] o):Calls prog 6 #[ab aQ,.agg (c9 s a).toArray] o λr w=>r=ae (z.b3 g s).2/\∃ai,eP g aQ (z.b3 g s).1 ai/\C o (av [G]) [ai] w:=by
 obtain⟨F,E⟩:∃F,F=av [G]:=⟨_,j⟩;have A:g.off F:=E▸q;rw [<-E];have c:C o F [G] o:=E▸c;refine a2 func6 (bL 2 c j j (λn w c=>?_));have c:C o F [R n (c9 s a).toArray 33,G] w:=c;refine ar 12 j (ax (C.aj (b:=n) c) j) (bm 6 j j (λd=>?_) (λd=>?_))
 .refine mq 1 j j (d) (bM 3 (U:=c9 s a) j j j (bn (C.aj (b:=n) c)) ?_);have i:=sS (s:=s) (a:=a) p ((H.st c (λb D=>E▸D))) aa u v B t (x.st c A) y q (c.ours (cC:=[G]));refine bp 0 i j (λw⟨ai,h,l⟩=>?_);have c:=c.b2 l;refine aq 1 j j ?_;have f:s.k=1\/s.k=2\/s.k=3\/s.k=4:=by first|exact .inl (by simpa using d)|exact .inr (.inl (by simpa using d))|exact .inr (.inr (.inl (by simpa using d)))|exact .inr (.inr (.inr (by simpa using d)))
  have e:z.b3 g s=z.gP g s:=by unfold aY.b3;rw [if_pos f]
  rw [e];exact⟨j,ai,h,c.as⟩
 refine bm 4 j j (λd=>?_) (λd=>?_)
 .refine mq 1 j j (d) (bM 3 (U:=c9 s a) j j j (bn (C.aj (b:=n) c)) ?_);have i:=sS (s:=s) (a:=a) p ((H.st c (λb D=>E▸D))) aa u v B t (x.st c A) y q (c.ours (cC:=[G]));refine bp 0 i j (λw⟨ai,h,l⟩=>?_);have c:=c.b2 l;refine aq 1 j j ?_;have f:s.k=1\/s.k=2\/s.k=3\/s.k=4:=by first|exact .inl (by simpa using d)|exact .inr (.inl (by simpa using d))|exact .inr (.inr (.inl (by simpa using d)))|exact .inr (.inr (.inr (by simpa using d)))
  have e:z.b3 g s=z.gP g s:=by unfold aY.b3;rw [if_pos f]
  rw [e];exact⟨j,ai,h,c.as⟩
 refine bm 4 j j (λd=>?_) (λd=>?_)
 .refine mq 1 j j (d) (bM 3 (U:=c9 s a) j j j (bn (C.aj (b:=n) c)) ?_);have i:=sS (s:=s) (a:=a) p ((H.st c (λb D=>E▸D))) aa u v B t (x.st c A) y q (c.ours (cC:=[G]));refine bp 0 i j (λw⟨ai,h,l⟩=>?_);have c:=c.b2 l;refine aq 1 j j ?_;have f:s.k=1\/s.k=2\/s.k=3\/s.k=4:=by first|exact .inl (by simpa using d)|exact .inr (.inl (by simpa using d))|exact .inr (.inr (.inl (by simpa using d)))|exact .inr (.inr (.inr (by simpa using d)))
  have e:z.b3 g s=z.gP g s:=by unfold aY.b3;rw [if_pos f]
  rw [e];exact⟨j,ai,h,c.as⟩
 refine bm 3 j j (λd=>?_) (λd=>?_)
 .refine bM 3 (U:=c9 s a) j j j (bn (C.aj (b:=n) c)) ?_;have i:=sS (s:=s) (a:=a) p ((H.st c (λb D=>E▸D))) aa u v B t (x.st c A) y q (c.ours (cC:=[G]));refine bp 0 i j (λw⟨ai,h,l⟩=>?_);have c:=c.b2 l;refine aq 1 j j ?_;have f:s.k=1\/s.k=2\/s.k=3\/s.k=4:=by first|exact .inl (by simpa using d)|exact .inr (.inl (by simpa using d))|exact .inr (.inr (.inl (by simpa using d)))|exact .inr (.inr (.inr (by simpa using d)))
  have e:z.b3 g s=z.gP g s:=by unfold aY.b3;rw [if_pos f]
  rw [e];exact⟨j,ai,h,c.as⟩
 refine bm 4 j j (λI=>?_) (λI=>?_)
 .refine bM 3 (U:=c9 s a) j j j (bn (C.aj (b:=n) c)) ?_;have i:=Cf (s:=s) (a:=a) p aa u v t (x.st c A) y q (c.ours (cC:=[G]));refine bp 0 i j (λw⟨ai,h,l⟩=>?_);have c:=c.b2 l;refine aq 1 j j ?_;have f:s.k=5:=by simpa using I
  have e:z.b3 g s=z.r1 g s:=by unfold aY.b3;rw [if_neg (by omega),if_pos f]
  rw [e];exact⟨j,ai,h,c.as⟩
 refine bm 5 j j (λm=>?_) (λm=>?_)
 .refine mq 1 j j (m) (bM 3 (U:=c9 s a) j j j (bn (C.aj (b:=n) c)) ?_);have i:=vv (s:=s) (a:=a) p aa u v B t (x.st c A) y q (c.ours (cC:=[G]));refine bp 0 i j (λw⟨ai,h,l⟩=>?_);have c:=c.b2 l;refine aq 1 j j ?_;have f:s.k=6\/s.k=7\/s.k=8:=by first|exact .inl (by simpa using m)|exact .inr (.inl (by simpa using m))|exact .inr (.inr (by simpa using m))
  have e:z.b3 g s=z.hg g s:=by unfold aY.b3;rw [if_neg (by omega),if_neg (by omega),if_pos f]
  rw [e];exact⟨j,ai,h,c.as⟩
 refine bm 4 j j (λm=>?_) (λm=>?_)
 .refine mq 1 j j (m) (bM 3 (U:=c9 s a) j j j (bn (C.aj (b:=n) c)) ?_);have i:=vv (s:=s) (a:=a) p aa u v B t (x.st c A) y q (c.ours (cC:=[G]));refine bp 0 i j (λw⟨ai,h,l⟩=>?_);have c:=c.b2 l;refine aq 1 j j ?_;have f:s.k=6\/s.k=7\/s.k=8:=by first|exact .inl (by simpa using m)|exact .inr (.inl (by simpa using m))|exact .inr (.inr (by simpa using m))
  have e:z.b3 g s=z.hg g s:=by unfold aY.b3;rw [if_neg (by omega),if_neg (by omega),if_pos f]
  rw [e];exact⟨j,ai,h,c.as⟩
 refine bm 3 j j (λm=>?_) (λm=>?_)
 .refine bM 3 (U:=c9 s a) j j j (bn (C.aj (b:=n) c)) ?_;have i:=vv (s:=s) (a:=a) p aa u v B t (x.st c A) y q (c.ours (cC:=[G]));refine bp 0 i j (λw⟨ai,h,l⟩=>?_);have c:=c.b2 l;refine aq 1 j j ?_;have f:s.k=6\/s.k=7\/s.k=8:=by first|exact .inl (by simpa using m)|exact .inr (.inl (by simpa using m))|exact .inr (.inr (by simpa using m))
  have e:z.b3 g s=z.hg g s:=by unfold aY.b3;rw [if_neg (by omega),if_neg (by omega),if_pos f]
  rw [e];exact⟨j,ai,h,c.as⟩
 refine bm 4 j j (λJ=>?_) (λJ=>?_)
 .refine bM 3 (U:=c9 s a) j j j (bn (C.aj (b:=n) c)) ?_;have i:=Is (s:=s) (a:=a) p aa u v B t (x.st c A) y q (c.ours (cC:=[G]));refine bp 0 i j (λw⟨ai,h,l⟩=>?_);have c:=c.b2 l;refine aq 1 j j ?_;have f:s.k=9:=by simpa using J
  have e:z.b3 g s=z.f9 g s:=by unfold aY.b3;rw [if_neg (by omega),if_neg (by omega),if_neg (by omega),if_pos f]
  rw [e];exact⟨j,ai,h,c.as⟩
 refine bm 4 j j (λK=>?_) (λK=>?_)
 .refine bM 3 (U:=c9 s a) j j j (bn (C.aj (b:=n) c)) ?_;have i:=FB (s:=s) (a:=a) p ((H.st c (λb D=>E▸D))) aa u v B t (x.st c A) y q (c.ours (cC:=[G]));refine bp 0 i j (λw⟨ai,h,l⟩=>?_);have c:=c.b2 l;refine aq 1 j j ?_;have f:s.k=10:=by simpa using K
  have e:z.b3 g s=z.ft g s:=by unfold aY.b3;rw [if_neg (by omega),if_neg (by omega),if_neg (by omega),if_neg (by omega),if_pos f]
  rw [e];exact⟨j,ai,h,c.as⟩
 refine bm 4 j j (λO=>?_) (λO=>?_)
 .have i:=GO p aa u v B t (x.st c A) y q (c.ours (cC:=[G]));refine bp 3 i j (λw⟨ai,h,l⟩=>?_);have c:=c.b2 l;refine aq 1 j j ?_;have f:s.k=11:=by simpa using O
  have e:z.b3 g s=(z.polls g,0):=by unfold aY.b3;rw [if_neg (by omega),if_neg (by omega),if_neg (by omega),if_neg (by omega),if_neg (by omega),if_pos f]
  rw [e];exact⟨j,ai,h,c.as⟩
 refine aq 4 j j ?_;simp only [fw,ne_eq] at*;have e:z.b3 g s=(z,1):=by unfold aY.b3;rw [if_neg (by omega),if_neg (by omega),if_neg (by omega),if_neg (by omega),if_neg (by omega),if_neg (by omega)]
 rw [e];exact⟨j,G,p,c.as⟩
def gx(z:aY)(i:Nat):List (List UInt8):=match z.rep (i:Int) with
 |some x=>x.s.log.map Prod.fst
 |none=>[]
theorem aY.v5{z:aY}{i:Nat}{x:bo}(h:z.rep (i:Int)=some x):z.bO[i]? =some (some x):=by
 unfold aY.rep at h;rw [a6 (by omega),m9] at h;cases a:z.bO[i]? with
 |none=>rw [a] at h;cases h
 |some I=>rw [a] at h;have h:I=some x:=h;rw [h]
theorem sz{z:aY}{i:Nat}{x:bo}(h:z.rep (i:Int)=some x):gx z i=x.s.log.map Prod.fst:=by unfold gx;rw [h]
theorem FD{g:al}{k:Nat}{z:aY}(h:z.ok g k)(i:Nat):∀x∈gx z i,x.length<=1000000000:=λx a=>by
 cases b:z.rep (i:Int) with
 |none=>unfold gx at a;rw [b] at a;cases a
 |some u=>
  rw [sz b] at a;obtain⟨e,he,rfl⟩:=dV.1 a;have:=((h.iA i u (aY.v5 b)).1.s.ns e he).1;omega
theorem al.CJ{g:al}{o w:World}{F:List Nat}{ad:List (List Chunk)}(h:C o F ad w)(a:dD g∈ad):g.at w:=⟨(h.holds a).head,(h.holds a).tail.head⟩
theorem al.Ga{g:al}{o w:World}{F:List Nat}{G:List Chunk}{ad:List (List Chunk)}(h:C o F (G::ad) w)(d:dD g∈ad):g.off (av [G]):=by
 have aJ:=h.nodup;rw [o9] at aJ;have c:=(iE.1 aJ).2.2;have hm:∀b,b∈av [dD g]->b∈av ad:=fI (by simpa using d);exact⟨λa=>c _ a _ (hm g.aw (by simp [av])) j,λa=>c _ a _ (hm g.fc (by simp [av])) j⟩
theorem Dk{o:World}{ft:Bool}{A:Option Addr}{ls:List (fb×hO)}{c:Nat}(bC:Rd o A (ls.flatMap kW))(cl:∀e∈ls,h2 e.1 e.2 [] o):Calls prog 3 #[.bool ft,.slice A ls.length c] o λr w=>r= .bool true/\C o [] [] w:=by
 have m:Own [] o:=C.start o;refine a2 func3 (bk 7 (FF (c:=c) (m.rd bC (bT.of_nil _ _))) j (λr w⟨⟨b,ac⟩,aa⟩=>?_));subst ac;have m:=m.aL aa;refine bm 0 j j (λbP=>?_) (λbP=>?_)
 .exact aq 3 j j ⟨j,m.bare⟩
 obtain⟨k,bx⟩:∃k,k=if ft=true then jM 4 else 0:=⟨_,j⟩
 have bv:k<=jM 4:=by rw [bx];split<;>omega
 refine bk 4 (xo (s7:=false) (ft:=ft) (aS:=4) j bx) j (λr w⟨aQ,g,G,ac,aA,bu,P,aa⟩=>?_);subst ac;have m:C o [] [G,dD g] w:=(m.aL aa).as;have aR:g.n=4:=by show g.keys.length=4;rw [bu,Hk];omega
 have ch:2<=g.n:=by omega
 refine lV 8 j (λZ w=>sub Z [(5,ab aQ)]/\∃(z:aY)(G:List Chunk)(n:Nat),n<=120/\eP g aQ z G/\(∃H aP,eO g (4-k) H aP z/\gu aP z)/\z.ok g n/\C o [] [G,dD g] w) ?_ ?_
 .refine cJ 4 j (ct:=Nat×aY×List Chunk) (λi=>[(1,.slice A ls.length c),(5,ab aQ),(6,.int .i64 (i.1:Nat))])
   (λi w=>i.1<=120/\eP g aQ i.2.1 i.2.2/\(∃H aP,eO g (4-k) H aP i.2.1/\gu aP i.2.1)/\i.2.1.ok g i.1/\C o [] [i.2.2,dD g] w) (λi=>120-i.1) (0,aY.new 4 k,G) ⟨j,j,j,aX⟩ ⟨b4 _,P,⟨[],[],aY.vG aR bv (by omega)⟩,aY.lo aR bv (by omega),m⟩ ?_
  rintro⟨i,z,G⟩ w ⟨an,P,a1,V,m⟩;dsimp only at an P a1 V m⊢;refine am 8 j (cT 30 j (λa6=>?_) (λa6=>?_))
  .refine b8 3 j j (λbQ=>?_) (λbQ=>?_)
   .have T:i<ls.length:=by have:=dz a6;omega
    have cO:i<120:=by omega
    have aB:=m.rd bC (bT.of_nil _ _);refine am 7 j (fp j j j j aB (v:=ae ls[i].1.k) (h8 (f:=kW) (J:=0) ls (tc ls) i T (by decide) j) T (λaZ ak bo=>?_));have aB:Rd w (some aZ) (ls.flatMap kW):=ak▸aB;refine bM 0 (U:=kW ls[i]) j j j (i0 aB (tc ls) i T) ?_;have ce:=DR (s:=ls[i].1) (a:=ls[i].2) P (((cl _ (d9 T)).apart m).sub (fI (by simp))) V.F (by omega) (by omega) (by omega) (by omega) (al.CJ m (by simp)) aA (al.Ga m (by simp)) m.j9;refine bk 0 ce j (λr w⟨_,ai,bh,aa⟩=>?_);have m:C o [] [ai,dD g] w:=m.iw aa;obtain⟨H,aP,a1,ak⟩:=a1;obtain⟨H1,bN,bf,bb,_⟩:=a1.b3 aA ch ak ls[i].1;have bB:=V.b3 aA ls[i].1;generalize (z.b3 g ls[i].1).1=cG at bh bf bb bB;exact bq 2 j j j (cE i (by omega)) (bI 1 j ⟨(i+1,cG,ai),⟨j,j,j,aX⟩,⟨by dsimp only;omega,bh,⟨H1,bN,bf,bb⟩,bB,m⟩,by dsimp only;omega⟩)
   exact bI 1 j ⟨⟨j,aX⟩,z,G,i,an,P,a1,V,m⟩
  exact bI 5 j ⟨⟨j,aX⟩,z,G,i,an,P,a1,V,m⟩
 rintro Z w ⟨aM,z,G,n,cW,P,⟨H,aP,a1,ak⟩,V,m⟩;refine lD [(5,ab aQ)] aM (am 2 j (eC m j j j j j j bG (λbO w m=>?_)));have aJ:Rd w (some ⟨bO,0,none⟩) (au [1]):=m.bz;refine bp 0 (A2 (p:=[1]) (c:=1) aJ (by decide)) j (λw aa=>?_);have m:=m.aL aa;refine bk 0 (Hg (n:=4) (dE:=br [1]) (by decide) (eK _)) j (λr w⟨X,u,ac,bj,aa⟩=>?_);subst ac;rw [<-bu] at bj;have m:C o [] [u,G,dD g] w:=(m.aL aa).as;have af:Holds w G:=m.holds (G:=G) (by simp);refine bk 4 (EA P af V.heard) j (λr w⟨cI,⟨ms,bA,E,D,b9,aO,bg⟩,aa⟩=>?_);subst b9;obtain⟨gR,ah,cA,cR,cV⟩:=aO.form;subst cA;have m:C o [] [E++D,u,G,dD g] w:=(m.aL aa).as;have cS:z.heard.length=ms.length:=by rw [<-bA,ff]
 have cv:fR z.heard=ms.flatMap aC.l:=by rw [<-bA];simp [List.flatMap_map]
 have hlen:∀q∈ms,q.cs.length=39:=λq cw=>q.bU (bg.tag q cw)
 have cQ:=V.heard;refine am 8 j (cT 50 j (λa8=>?_) (λa8=>?_))
 .refine bp 8 vl j (λw aa=>?_);have m:=m.aL aa;exact aq 1 j j ⟨j,m.bare⟩
 have af:Holds w G:=m.holds (G:=G) (by simp);refine bk 1 (CT P af) j (λr ad⟨a7,b2,ca,aU⟩=>?_);subst ad;refine bp 0 (CP b2 ca) j (λad aU=>?_);subst ad;refine b8 2 j j (λbR=>?_) (λbR=>?_)
 .refine bp 2 vl j (λw aa=>?_);have m:=m.aL aa;exact aq 1 j j ⟨j,m.bare⟩
 have cj:z.heard.length<1000:=by have:=dM a8;omega
 have cq:z.lost=0:=by omega
 refine cJ 6 j (ct:=Nat) (λq=>[(5,ab aQ),(7,ab X),(8,.slice gR ms.length ah),(9,.int .i64 (q:Nat))]) (λq w=>q<=4/\C o [] [E++D,u,G,dD g] w) (λq=>4-q) 0 ⟨j,j,j,j,aX⟩ ⟨b4 _,m⟩ ?_;rintro a w ⟨cN,m⟩;refine b8 5 j j (λbV=>?_) (λbV=>?_)
 .have af:Holds w G:=m.holds (G:=G) (by simp);refine bp 8 (o8 (i:=(a:Int)) P af) j (λad aU=>?_);subst ad;refine bm 1 j j (λa9=>?_) (λa9=>?_);rotate_left
  obtain⟨x,ag⟩:∃x,z.rep (a:Int)=some x:=ha.1 (by simpa using a9);refine bk 5 (Ah (i:=(a:Int)) P af) j (λr ad⟨p,bL,ac,bl,cb,aU⟩=>?_);subst ac;subst ad;rw [ag] at bl
  obtain⟨cZ,rfl,cc⟩:∃X,p=some ⟨X,0,none⟩/\hP g X x bL:=by
   rcases bl with⟨_,h,_⟩|⟨y,X,ba,az,bZ⟩
   .cases h
   .cases az;exact⟨X,ba,bZ⟩
  have bF:=(V.iA a x (aY.v5 ag)).1.s;refine bk 0 (FE cc cb bF) j (λr w⟨cH,bd,aa⟩=>?_);have cP:(gx z a).length<=64:=by rw [sz ag,ff];exact bF.log
  rw [<-sz ag] at bd;obtain⟨O,N,us,rfl,bi,b5⟩:=bd;obtain⟨av,ay,rfl,_,_⟩:=bi.form;have m:C o [] [O++N,E++D,u,G,dD g] w:=m.aL aa;refine cJ 5 j (ct:=Nat) (λq=>[(5,ab aQ),(7,ab X),(8,.slice gR ms.length ah),(9,.int .i64 (a:Nat)),(10,.slice av (gx z a).length ay),(11,.int .i64 (q:Nat))]) (λq w=>q<=(gx z a).length/\C o [] [O++N,E++D,u,G,dD g] w) (λq=>(gx z a).length-q) 0 ⟨j,j,j,j,j,j,aX⟩ ⟨b4 _,m⟩ ?_;rintro s w ⟨aM,m⟩;refine b8 7 j j (λbW=>?_) (λbW=>?_)
  .have T:s<(gx z a).length:=by omega
   have be:=m.holds (G:=O++N) (by simp);obtain⟨_,_,e,_,_,cy,_⟩:=bi.read be.left;cases e;obtain⟨bK,ci,cC,_,_,cz⟩:=b5.read be.right s T;refine am 7 j (fp j j j j cy (v:=.slice bK (gx z a)[s].length ci) (by rw [gG];exact cC) T (λaZ _ bo=>?_));refine ar 0 j bo (bp 0 (A2 (c:=ci) cz (FD V a _ (d9 T))) j (λw aa=>?_));have m:=m.aL aa;refine b7 0 m j (λM w m=>b6 0 m j j j (by simpa using eg (br (gx z a)[s])) (l3 _) (λw m=>?_));have m:=C.whole (U:=au (br (gx z a)[s])) m j;have m:C o [] [[(M,.cells (au (br (gx z a)[s])).toArray 37 (0,0))],O++N,E++D,u,G,dD g] w:=m
   obtain⟨aW,cY,cF⟩:∃v:Nat,v<=8/\∀b n,hZ (cp g (s:Int) (v:Int) (br (gx z a)[s])) (ms.flatMap aC.l) b n->3<=n:=by
    have aM:(x.s.log.map Prod.fst)[s]? =some (gx z a)[s]:=by
     have h:=cn T;rw [<-h,<-sz ag]
    rw [gE] at aM;obtain⟨e,he,cf⟩:=Option.map_eq_some_iff.1 aM;rw [<-cv,<-cf];exact Dj a1 ak cq cj aR (aY.v5 ag) he
   refine cJ 8 j (ct:=Nat×Nat) (λq=>[(5,ab aQ),(7,ab X),(8,.slice gR ms.length ah),(9,.int .i64 (a:Nat)),(10,.slice av (gx z a).length ay),(11,.int .i64 (s:Nat)),(12,ab M),(13,.int .i64 (q.2:Nat)),(14,.int .i64 (q.1:Nat))]) (λq w=>q.1<=9/\q.2<=4/\(aW<q.1->3<=q.2)/\C o [] [[(M,.cells (au (br (gx z a)[s])).toArray 37 (0,0))],O++N,E++D,u,G,dD g] w) (λq=>9-q.1) (0,0) ⟨j,j,j,j,j,j,j,j,j,aX⟩ ⟨b4 _,b4 _,λh=>absurd h (Nat.not_lt_zero _),m⟩ ?_;rintro⟨v,aE⟩ w ⟨cD,cr,aT,m⟩;dsimp only at cD cr aT m⊢;refine b8 5 j j (λaw=>?_) (λaw=>?_)
   .refine b7 5 m j (λQ w m=>?_);have m:C o [] [R Q ((List.replicate 4 false).map Value.bool).toArray 50,[(M,.cells (au (br (gx z a)[s])).toArray 37 (0,0))],O++N,E++D,u,G,dD g] w:=m;refine cJ 8 j (ct:=Nat×List Bool×Nat) (λq=>[(5,ab aQ),(7,ab X),(8,.slice gR ms.length ah),(9,.int .i64 (a:Nat)),(10,.slice av (gx z a).length ay),(11,.int .i64 (s:Nat)),(12,ab M),(13,.int .i64 (aE:Nat)),(14,.int .i64 (v:Nat)),(15,ab Q),(16,.int .i64 (q.2.2:Nat)),(17,.int .i64 (q.1:Nat))]) (λq w=>q.1<=ms.length/\hZ (cp g (s:Int) (v:Int) (br (gx z a)[s])) ((ms.take q.1).flatMap aC.l) q.2.1 q.2.2/\C o [] [R Q ((q.2.1).map Value.bool).toArray 50,[(M,.cells (au (br (gx z a)[s])).toArray 37 (0,0))],O++N,E++D,u,G,dD g] w) (λq=>ms.length-q.1) (0,List.replicate 4 false,0) ⟨j,j,j,j,j,j,j,j,j,j,j,j,aX⟩ ⟨b4 _,hZ.nil _,m⟩ ?_;rintro⟨i,aD,n⟩ w ⟨an,t,m⟩;dsimp only at an t m⊢;refine b8 7 j j (λbX=>?_) (λbX=>?_)
    .have Y:i<ms.length:=by omega
     refine cJ 7 j (ct:=Nat×List Bool×Nat) (λq=>[(5,ab aQ),(7,ab X),(8,.slice gR ms.length ah),(9,.int .i64 (a:Nat)),(10,.slice av (gx z a).length ay),(11,.int .i64 (s:Nat)),(12,ab M),(13,.int .i64 (aE:Nat)),(14,.int .i64 (v:Nat)),(15,ab Q),(16,.int .i64 (q.2.2:Nat)),(17,.int .i64 (i:Nat)),(18,.int .i64 (q.1:Nat))]) (λq w=>q.1<=ms[i].l.length/\hZ (cp g (s:Int) (v:Int) (br (gx z a)[s])) ((ms.take i).flatMap aC.l++ms[i].l.take q.1) q.2.1 q.2.2/\C o [] [R Q ((q.2.1).map Value.bool).toArray 50,[(M,.cells (au (br (gx z a)[s])).toArray 37 (0,0))],O++N,E++D,u,G,dD g] w) (λq=>ms[i].l.length-q.1) (0,aD,n) ⟨j,j,j,j,j,j,j,j,j,j,j,j,j,aX⟩ ⟨b4 _,by simpa using t,m⟩ ?_;rintro⟨J,aD,n⟩ w ⟨cm,t,m⟩;dsimp only at cm t m⊢;have Y:i<ms.length:=by omega
     obtain⟨_,_,e,_,_,cx,_⟩:=aO.read (m.holds (G:=E++D) (by simp)).left;cases e;obtain⟨cM,_,_,bt,_⟩:=Row.block aO (by omega);simp only [p9] at bt;obtain⟨b1,-,-⟩:=bt;subst b1;refine am 6 j (hl j j j j Y ?_);obtain⟨ap,cu⟩:=bg.read (m.holds (G:=E++D) (by simp)).right ms[i] (d9 Y);have cU:=cu.l;have bD:=flat_lit (f:=aC.cs) cx hlen i Y;refine ar 1 j (by have h:=bD.cell (J:=6) (v:=.slice ms[i].B ms[i].l.length ms[i].d) (by simp [aC.cs]);rw [add_lit] at h;exact h) (b8 2 j j (λbY=>?_) (λbY=>?_))
     .refine am 7 j (hl j j j j Y ?_);refine ar 1 j (by have h:=bD.cell (J:=6) (v:=.slice ms[i].B ms[i].l.length ms[i].d) (by simp [aC.cs]);rw [add_lit] at h;exact h) ?_;have ao:J<ms[i].l.length:=by omega
      have L:=ap.aH ms[i].l[J] (d9 ao);have W:(ms.take i).flatMap aC.l++ms[i].l.take (J+1)=((ms.take i).flatMap aC.l++ms[i].l.take J)++[ms[i].l[J]]:=by rw [fr ao,dJ]
      refine am 1 j (fp j j j j ap.l (v:=ae ms[i].l[J].k) (ol ms[i].l ap.aH J ao) ao (λcK b0 cd=>?_));have bE:=om (b0▸ap.l) ap.aH J ao;generalize ms[i].l[J]=I at L W cd bE;refine bM 0 (U:=I.cs) j j (I.len L) bE (b7 0 m j (λS w m=>b6 0 m j j j I.one (I.len L) (λw m=>?_)));have m:=C.whole (U:=I.cs) m (by rw [I.len L];rfl);have m:C o [] [R S I.cs.toArray 55,R Q ((aD).map Value.bool).toArray 50,[(M,.cells (au (br (gx z a)[s])).toArray 37 (0,0))],O++N,E++D,u,G,dD g] w:=m;refine ar 3 j (ax (C.aj (b:=S) m) I.gJ) (am 2 j (cT 111 j (λa0=>?_) (λa0=>?_)))
      .refine ar 1 j (ax (C.aj (b:=S) m) I.aV) (am 4 j (cT 117 j (λa3=>?_) (λa3=>?_)))
       .refine ar 1 j (ax (C.aj (b:=S) m) I.dp) (am 4 j (cT 123 j (λa4=>?_) (λa4=>?_)))
        .refine bM 1 (U:=au I.sum) j j (by rw [cL];exact L.1) (m.ij (off:=0+3) (U:=au I.sum) (I.nY L)) (bM 0 (U:=au (br (gx z a)[s])) j j (by rw [cL,eK]) (bn (C.aj (b:=M) m)) (tO j j j j (by kernel_rfl) (λw=>o4 _ _ L.1 (eK _) 9998 w) (am 2 j (cT 129 j (λa5=>?_) (λa5=>?_)))))
         .refine ar 1 j (ax (C.aj (b:=S) m) (I.eo L)) (am 3 j (cT 134 j (λaF=>?_) (λaF=>?_)))
          .refine ar 1 j (ax (C.aj (b:=S) m) (I.eo L)) (am 3 j (cT 139 j (λaI=>?_) (λaI=>?_)))
           .refine ar 1 j (ax (C.aj (b:=S) m) (I.eo L)) ?_;have bs:=dz aF;have cg:=dz aI;obtain⟨f,bw⟩:∃f:Nat,I.f=f:=⟨I.f.toNat,by omega⟩;obtain⟨y,bH⟩:∃y,aD[f]? =some y:=⟨_,cn (by have:=t.len;omega)⟩;have bJ:aD[I.f.toNat]? =some y:=by rw [bw];exact bH
            refine bS 141 (.int .i64 (f:Nat)) j (aG (Value.int .i64) bw) (g7 (J:=f) j j j j (by omega) (ar 0 j (ax (C.aj (b:=Q) m) (v:=.bool y) (by simp [bH])) (am 3 j (cT 146 j (λaK=>?_) (λaK=>?_)))))
            .refine bM 1 (U:=I.cs) j j (I.len L) (bn (C.aj (b:=S) m)) (bp 0 (Ha bj (m.holds (G:=u) (by simp)) aA L) j (λw aa=>?_));have m:C o [] [R S I.cs.toArray 55,R Q ((aD).map Value.bool).toArray 50,[(M,.cells (au (br (gx z a)[s])).toArray 37 (0,0))],O++N,E++D,u,G,dD g] w:=m.aL aa;refine bm 1 j j (λaN=>?_) (λaN=>?_)
             .refine ar 3 j (ax (C.aj (b:=S) m) (I.eo L)) (bS 152 (.int .i64 (f:Nat)) j (aG (Value.int .i64) bw) (g7 (J:=f) j j j j (by omega) (cB (m.bc Q) j j j j (by have:=t.len;simp;omega) (λw m=>?_))));have m:=C.gg m (show _=((aD.set f true).map Value.bool).toArray by simp [List.map_set]);have m:C o [] [R Q ((aD.set f true).map Value.bool).toArray 50,[(M,.cells (au (br (gx z a)[s])).toArray 37 (0,0))],O++N,E++D,u,G,dD g] w:=m.as;exact bq 2 j j j (cE n (by have:=t.le;omega)) (bq 3 j j j (cE J (by omega)) (bI 1 j ⟨(J+1,(aD.set f true),n+1),⟨j,j,j,j,j,j,j,j,j,j,j,j,j,aX⟩,⟨by dsimp only;omega,by dsimp only;rw [W];exact(by have h:=t.take (I:=I) ⟨bs,cg⟩ (bJ.trans (aG some (by simpa using aK)));rw [show I.f.toNat=f by omega] at h;exact h),m.as⟩,by dsimp only;omega⟩))
             exact bq 3 j j j (cE J (by omega)) (bI 1 j ⟨(J+1,aD,n),⟨j,j,j,j,j,j,j,j,j,j,j,j,j,aX⟩,⟨by dsimp only;omega,by dsimp only;rw [W];exact t.skip (λK=>by rw [K.2.2.2.2.2] at aN;cases aN),m.as⟩,by dsimp only;omega⟩)
            exact bq 8 j j j (cE J (by omega)) (bI 1 j ⟨(J+1,aD,n),⟨j,j,j,j,j,j,j,j,j,j,j,j,j,aX⟩,⟨by dsimp only;omega,by dsimp only;rw [W];exact t.Ex bs (bJ.trans (aG some (by simpa using aK))),m.as⟩,by dsimp only;omega⟩)
           exact bq 15 j j j (cE J (by omega)) (bI 1 j ⟨(J+1,aD,n),⟨j,j,j,j,j,j,j,j,j,j,j,j,j,aX⟩,⟨by dsimp only;omega,by dsimp only;rw [W];exact t.skip (λK=>by have:=dM aI;have:=K.2.2.2.2.1.2;omega),m.as⟩,by dsimp only;omega⟩)
          exact bq 20 j j j (cE J (by omega)) (bI 1 j ⟨(J+1,aD,n),⟨j,j,j,j,j,j,j,j,j,j,j,j,j,aX⟩,⟨by dsimp only;omega,by dsimp only;rw [W];exact t.skip (λK=>by have:=dM aF;have:=K.2.2.2.2.1.1;omega),m.as⟩,by dsimp only;omega⟩)
         exact bq 25 j j j (cE J (by omega)) (bI 1 j ⟨(J+1,aD,n),⟨j,j,j,j,j,j,j,j,j,j,j,j,j,aX⟩,⟨by dsimp only;omega,by dsimp only;rw [W];exact t.skip (λK=>by simp [K.2.2.2.1] at a5),m.as⟩,by dsimp only;omega⟩)
        exact bq 31 j j j (cE J (by omega)) (bI 1 j ⟨(J+1,aD,n),⟨j,j,j,j,j,j,j,j,j,j,j,j,j,aX⟩,⟨by dsimp only;omega,by dsimp only;rw [W];exact t.skip (λK=>by simp [K.2.2.1] at a4),m.as⟩,by dsimp only;omega⟩)
       exact bq 37 j j j (cE J (by omega)) (bI 1 j ⟨(J+1,aD,n),⟨j,j,j,j,j,j,j,j,j,j,j,j,j,aX⟩,⟨by dsimp only;omega,by dsimp only;rw [W];exact t.skip (λK=>by simp [K.2.1] at a3),m.as⟩,by dsimp only;omega⟩)
      exact bq 43 j j j (cE J (by omega)) (bI 1 j ⟨(J+1,aD,n),⟨j,j,j,j,j,j,j,j,j,j,j,j,j,aX⟩,⟨by dsimp only;omega,by dsimp only;rw [W];exact t.skip (λK=>by simp [K.1] at a0),m.as⟩,by dsimp only;omega⟩)
     refine bq 3 j j j (cE i (by omega)) (bI 1 j ?_);have co:J=ms[i].l.length:=by omega
     rw [co,gj] at t;exact⟨(i+1,aD,n),⟨j,j,j,j,j,j,j,j,j,j,j,j,aX⟩,⟨Y,by dsimp only;rw [fr Y,mZ];simpa using t,m⟩,by dsimp only;omega⟩
    have cX:=t.le;refine am 4 j (pR j j j ?_);refine bS 158 (.int .i64 (max aE n:Nat)) j (aG (Value.int .i64) (by omega)) (bq 3 j j j (cE v (by omega)) (bI 1 j ?_));have ck:i=ms.length:=by omega
    subst ck;rw [gj] at t
    exact⟨(v+1,max aE n),⟨j,j,j,j,j,j,j,j,j,aX⟩,⟨by have:=aw;dsimp only;omega,by dsimp only;omega,λh=>by
     dsimp only at h⊢;rcases rG aW v with az|az
     ·have:=aT az;omega
     ·obtain rfl:aW=v:=by omega
      have:=cF aD n t;omega,m.as⟩,by have:=aw;dsimp only;omega⟩
   exact iI 5 j j ((e4 (by have ba:=aw;have:=aT (by omega);omega))) (bq 3 j j j (cE s (by omega)) (bI 1 j ⟨s+1,⟨j,j,j,j,j,j,aX⟩,⟨T,m.as⟩,by omega⟩))
  rotate_left
  all_goals
   exact bq 3 j j j (cE a (by omega)) (bI 1 j ⟨a+1,⟨j,j,j,j,aX⟩,⟨by omega,m.as⟩,by omega⟩)
 refine bp 3 vl j (λw aa=>?_);have m:=m.aL aa;exact aq 1 j j ⟨j,m.bare⟩
theorem certified_law{o:World}{ft:Bool}{A:Option Addr}{ls:List (fb×hO)}{c:Nat}(b:Rd o A (ls.flatMap kW))(a:∀e∈ls,h2 e.1 e.2 [] o):Go.Calls prog 3 #[.bool ft,.slice A ls.length c] o (λe w=>∃r,e= .returned r/\r= .bool true/\∃ad,C o [] ad w):=
 (Calls.mono (Dk b a) λ_ _ h=>⟨h.1,_,h.2⟩).plain
end Go.Proofs.YtngjfjhomikplaaGreatDoor.R
namespace Go.Proofs.YtngjfjhomikplaaGreatDoor.R
open Go.Proofs.Tryz Go Go.RowKit Go.ChangeShapes
section
variable {H:Type} {enc:TypeId×Value->H} {P:Program} {W:World} {t e q:TypeId} {fuel len cap:Nat} {a:Option Addr} {x:DataW H×List MemPlace}
theorem xd{k:IntKind}(o:P.underlying t=some (.slice e))(he:P.underlying e=some (.int k))(g:P.cellsOf e=1)
 (h:DataW.trod enc P W 0 (λ_=>true) true fuel t (Value.slice a len cap).cells.toList=some x):
 ∃cS:List Int,cS.length=len/\len<=cap/\cap<=maxLen/\Rd W a (cS.map (Value.int k))/\∀n∈cS,(Lit.int k n).wf=true:=by
 rcases open_ints o he g h with⟨b,_⟩|⟨y,l,c,io,b,_,m,hm,q,_,ia,p⟩
 .simp [Value.cells] at b;obtain⟨rfl,rfl,rfl⟩:=b;exact⟨[],j,cI _,b4 _,Rd.nil _ _,by simp⟩
 .simp [Value.cells] at b;obtain⟨rfl,rfl,rfl⟩:=b;simp only [kq] at q;refine⟨io.take len,by rw [g9];omega,m,hm,λi v d=>?_,λn aJ=>p n (m3 aJ)⟩;rw [List.map_take,jE] at d;split at d
  .rename_i r;refine⟨y,j,?_⟩;have f:i<io.length:=by omega
   rw [ia i f];rw [gE,cn f] at d;rw [iD,cn f];simpa using d
  .cases d
theorem Db(cS:List Int)(h:∀n∈cS,(Lit.int .u8 n).wf=true):∃aD:List UInt8,aD.length=cS.length/\cS.map (Value.int .u8)=au aD:=by
 induction cS with
 |nil=>exact⟨[],j,j⟩
 |cons n r c=>
  obtain⟨aD,a,b⟩:=c (λm hm=>h m (by simp [hm]));have aJ:=h n (by simp)
  have d:0<=n/\n<256:=by
   simp [Lit.wf,IntKind.min,IntKind.max,IntKind.bits,IntKind.signed] at aJ;omega
  refine⟨UInt8.ofNat n.toNat::aD,by simp [a],?_⟩;rw [jW,b];show Value.int .u8 n::au aD=bv (UInt8.ofNat n.toNat)::au aD
  congr 1
  unfold bv;rw [oR]
  congr 1
  omega
theorem CC(j:P.underlying t=some (.slice e))(he:P.underlying e=some (.int .u8))(i:P.cellsOf e=1)
 (h:DataW.trod enc P W 0 (λ_=>true) true fuel t (Value.slice a len cap).cells.toList=some x):
 ∃aD:List UInt8,aD.length=len/\len<=cap/\cap<=maxLen/\Rd W a (au aD):=by
 obtain⟨cS,k,b,c,d,f⟩:=xd j he i h;obtain⟨aD,l,g⟩:=Db cS f;exact⟨aD,by omega,b,c,g▸d⟩
end
end Go.Proofs.YtngjfjhomikplaaGreatDoor.R
namespace Go.Proofs.YtngjfjhomikplaaGreatDoor.R
open Go.Proofs.Tryz Go Go.RowKit Go.Proofs
open Go.WideShapes Go.ChangeShapes
section
variable {H:Type} {enc:TypeId×Value->H} {W:World} {fuel:Nat} {cs:List Value} {x:DataW H×List MemPlace}
theorem lQ{cs c:List Value}{a b:Nat}(h:(cs.drop a).take b=c):cs.drop a=c++cs.drop (a+b):=by
 rw [<-h,<-rI,m6]
theorem xU{cs c:List Value}{a b:Nat}(h:(cs.drop a).take b=c)(d:cs.length=a+b):cs.drop a=c:=by
 rw [<-h,h7 (by rw [iT];omega)]
theorem Di{base:Nat}{a:Addr}{n:Nat}{cs:List Value}(h:W.cells? base a n=some cs):∀J v,cs[J]? =some v->W.cell? (a.add J)=some v:=by
 unfold World.cells? at h;split at h
 .intro J v b;have hlen:=mapM_some_length h;have c:J<cs.length:=(fk.1 b).1;have d:J<n:=by simpa [hlen] using c
  have:=mapM_some_get h J J (by simp [d]);rw [b] at this;exact this
 .cases h
end
section
variable {H:Type} {enc:TypeId×Value->H} {W:World} {fuel:Nat} {cs:List Value} {x:DataW H×List MemPlace}
theorem xA(h:DataW.trod enc prog W 0 (λ_=>true) true fuel 28 cs=some x):∃(a:Option Addr)(aD:List UInt8)(c:Nat),cs=[.slice a aD.length c]/\aD.length<=c/\Rd W a (au aD):=by
 obtain⟨a,len,cap,rfl⟩:∃a len cap,cs=[.slice a len cap]:=by
  rcases open_ints underlying28 underlying5 (by kernel_rfl) h with⟨b,_⟩|⟨y,l,c,io,b,_⟩
  .exact⟨_,_,_,b⟩
  .exact⟨_,_,_,b⟩
 obtain⟨aD,rfl,d,_,e⟩:=CC underlying28 underlying5 (by kernel_rfl) (show DataW.trod enc prog W 0 (λ_=>true) true fuel 28 (Value.slice a len cap).cells.toList=some x from h);exact⟨a,aD,cap,j,d,e⟩
theorem Dh(h:DataW.trod enc prog W 0 (λ_=>true) true fuel 29 cs=some x):∃(a:Option Addr)(cS:List Int)(c:Nat),cs=[.slice a cS.length c]/\cS.length<=c/\c<=maxLen/\Rd W a (cS.map bN):=by
 obtain⟨a,len,cap,rfl⟩:∃a len cap,cs=[.slice a len cap]:=by
  rcases open_ints underlying29 underlying3 (by kernel_rfl) h with⟨b,_⟩|⟨y,l,c,io,b,_⟩
  .exact⟨_,_,_,b⟩
  .exact⟨_,_,_,b⟩
 obtain⟨cS,rfl,d,e,f,_⟩:=xd underlying29 underlying3 (by kernel_rfl) (show DataW.trod enc prog W 0 (λ_=>true) true fuel 29 (Value.slice a len cap).cells.toList=some x from h);exact⟨a,cS,cap,j,d,e,f⟩
theorem Gt(h:DataW.trod enc prog W 0 (λ_=>true) true fuel 31 cs=some x):∃(l:eG)(Y:Option Addr)(lc:Nat)(V:Option Addr)(dU:Nat),cs=gq l Y lc V dU/\l.x.length<=lc/\Rd W Y (au l.x)/\l.use.length<=dU/\dU<=maxLen/\Rd W V (l.use.map bN):=by
 obtain⟨xs,m,_,_,a,w,bw⟩:=DataW.trod_struct underlying31 h;have a:cs.length=7:=a.trans (by kernel_rfl);have aV:prog.cellsOf 3=1:=by kernel_rfl
 have o:prog.cellsOf 28=1:=by kernel_rfl
 have n:prog.cellsOf 29=1:=by kernel_rfl
 match xs,w with
 |[E,F,G,H,I,J,K],_=>
  have b:DataW.trod enc prog W 0 (λ_=>true) true m 3 ((cs.drop 0).take (prog.cellsOf 3))=some E:=bw 0 _ j;have c:DataW.trod enc prog W 0 (λ_=>true) true m 3 ((cs.drop 1).take (prog.cellsOf 3))=some F:=bw 1 _ j;have d:DataW.trod enc prog W 0 (λ_=>true) true m 3 ((cs.drop 2).take (prog.cellsOf 3))=some G:=bw 2 _ j;have e:DataW.trod enc prog W 0 (λ_=>true) true m 3 ((cs.drop 3).take (prog.cellsOf 3))=some H:=bw 3 _ j;have f:DataW.trod enc prog W 0 (λ_=>true) true m 28 ((cs.drop 4).take (prog.cellsOf 28))=some I:=bw 4 _ j;have g:DataW.trod enc prog W 0 (λ_=>true) true m 3 ((cs.drop 5).take (prog.cellsOf 3))=some J:=bw 5 _ j;have i:DataW.trod enc prog W 0 (λ_=>true) true m 29 ((cs.drop 6).take (prog.cellsOf 29))=some K:=bw 6 _ j;rw [aV] at b c d e g;rw [o] at f;rw [n] at i;obtain⟨y,p,_,_⟩:=m4 underlying3 b;obtain⟨ic,q,_,_⟩:=m4 underlying3 c;obtain⟨z,r,_,_⟩:=m4 underlying3 d;obtain⟨A,s,_,_⟩:=m4 underlying3 e;obtain⟨n5,u,_,_⟩:=m4 underlying3 g;obtain⟨Y,aD,lc,t,az,aO⟩:=xA f;obtain⟨V,us,dU,v,B,C,D⟩:=Dh i;refine⟨⟨y,ic,z,A,aD,n5,us⟩,Y,lc,V,dU,?_,az,aO,B,C,D⟩;have k:=lQ p;rw [lQ q,lQ r,lQ s,lQ t,lQ u,xU v a,List.drop_zero] at k;rw [k];rfl
theorem Gu(h:DataW.trod enc prog W 0 (λ_=>true) true fuel 33 cs=some x):∃e:fb×hO,h2 e.1 e.2 [] W/\cs=kW e:=by
 obtain⟨xs,m,_,_,a,u,bw⟩:=DataW.trod_struct underlying33 h;have a:cs.length=11:=a.trans (by kernel_rfl);have aV:prog.cellsOf 3=1:=by kernel_rfl
 have o:prog.cellsOf 28=1:=by kernel_rfl
 have n:prog.cellsOf 31=7:=by kernel_rfl
 match xs,u with
 |[B,C,D,E,F],_=>
  have b:DataW.trod enc prog W 0 (λ_=>true) true m 3 ((cs.drop 0).take (prog.cellsOf 3))=some B:=bw 0 _ j;have c:DataW.trod enc prog W 0 (λ_=>true) true m 3 ((cs.drop 1).take (prog.cellsOf 3))=some C:=bw 1 _ j;have d:DataW.trod enc prog W 0 (λ_=>true) true m 3 ((cs.drop 2).take (prog.cellsOf 3))=some D:=bw 2 _ j;have f:DataW.trod enc prog W 0 (λ_=>true) true m 28 ((cs.drop 3).take (prog.cellsOf 28))=some E:=bw 3 _ j;have g:DataW.trod enc prog W 0 (λ_=>true) true m 31 ((cs.drop 4).take (prog.cellsOf 31))=some F:=bw 4 _ j;rw [aV] at b c d;rw [o] at f;rw [n] at g;obtain⟨z,p,_,_⟩:=m4 underlying3 b;obtain⟨ic,q,_,_⟩:=m4 underlying3 c;obtain⟨A,r,_,_⟩:=m4 underlying3 d;obtain⟨X,aD,bQ,s,az,aO⟩:=xA f;obtain⟨l,Y,lc,V,dU,t,dC,v,k,w,y⟩:=Gt g;refine⟨(⟨z,ic,A,aD,l⟩,⟨X,bQ,Y,lc,V,dU⟩),⟨aO,bT.of_nil _ _,az,v,bT.of_nil _ _,dC,y,bT.of_nil _ _,k,ek k w⟩,?_⟩;have i:=lQ p;rw [lQ q,lQ r,lQ s,xU t a,List.drop_zero] at i;rw [i];rfl
theorem xZ{α:Type}{f:α->List Value}{k:Nat}{Q:α->Prop}{a:Addr}(aa:∀y,(f y).length=k):∀n,(∀i,i<n->∃y,Q y/\∀J u,(f y)[J]? =some u->W.cell? ((a.add (i*k)).add J)=some u)->∃l:List α,l.length=n/\(∀y∈l,Q y)/\Rd W (some a) (l.flatMap f)
 |0,_=>⟨[],j,by simp,Rd.nil _ _⟩
 |n+1,each=>by
  obtain⟨l,b,h,m⟩:=xZ aa n (λi c=>each i (by omega));obtain⟨y,o,p⟩:=each n (by omega);have g:=o6 l (λy _=>aa y);refine⟨l++[y],by simp [b],λz d=>(dv.1 d).elim (h z) (λd=>by obtain rfl:=List.mem_singleton.1 d;exact o),λi u hu=>⟨a,j,?_⟩⟩;rw [mZ,List.flatMap_cons,List.flatMap_nil,List.append_nil] at hu;by_cases c:i<(l.flatMap f).length
  .rw [iU c] at hu;obtain⟨s,q,r⟩:=m i u hu;cases q;exact r
  .rw [jf (by omega),g,b] at hu;rw [g,b] at c;have e:=p _ _ hu;rw [Addr.add_add,show n*k+(i-n*k)=i by omega] at e;exact e
theorem arg_steps{a:Option Addr}{len cap:Nat}(h:DataW.trod enc prog W 0 (λ_=>true) true fuel 22 (Value.slice a len cap).cells.toList=some x):∃ls:List (fb×hO),ls.length=len/\Rd W a (ls.flatMap kW)/\∀e∈ls,h2 e.1 e.2 [] W:=by
 rcases DataW.trod_slice underlying22 h with⟨he,_⟩|⟨o,bU,s,elems,rest,n,_,he,_,_,t,_,hlen,m,_⟩
 .simp [Value.cells] at he;obtain⟨rfl,rfl,rfl⟩:=he;exact⟨[],j,Rd.nil _ _,by simp⟩
 .simp [Value.cells] at he;obtain⟨rfl,rfl,rfl⟩:=he;have q:prog.cellsOf 33=11:=by kernel_rfl
  rw [q] at m
  obtain⟨l,b,d,g⟩:=xZ (W:=W) (a:=o) (f:=kW) (k:=11) (Q:=λe:fb×hO=>h2 e.1 e.2 [] W) (λ_=>rfl) len (λi r=>by
   have b:=m i r;rw [cn (by omega),Option.bind_eq_some_iff] at b;obtain⟨c,d,g⟩:=b;obtain⟨e,p,rfl⟩:=Gu g;exact⟨e,p,Di d⟩)
  exact⟨l,b,g,d⟩
end
end Go.Proofs.YtngjfjhomikplaaGreatDoor.R
