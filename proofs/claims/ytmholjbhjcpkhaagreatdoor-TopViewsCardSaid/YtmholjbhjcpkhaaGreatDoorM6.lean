/- Part 6 of the proof. -/
import Derived.Test.YtmholjbhjcpkhaaGreatDoorM5
set_option linter.unusedVariables false
set_option linter.unusedSimpArgs false
set_option linter.unusedSectionVars false
set_option maxRecDepth 20000
set_option maxHeartbeats 4000000
namespace Go.Proofs.YtmholjbhjcpkhaaGreatDoor.R
open Go.Proofs.Tryz Go Go.RowKit Go.Proofs
def mh(g:al)(z:aU)(aG:List cR)(l:List (Int×Value)):List cR:=l.foldl (λaG q=>jQ g aG ((z.bz[q.1.toNat]?).getD none)) aG
theorem FI(g:al)(z:aU)(aG:List cR)(l:List (Int×Value))(q:Int×Value):mh g z aG (l++[q])=jQ g (mh g z aG l) ((z.bz[q.1.toNat]?).getD none):=by unfold mh;rw [List.foldl_append];rfl
theorem vd{g:al}{z:aU}(f:∀(i:Nat)(x:bm),z.bz[i]? =some (some x)->x.aI.length<=512):∀(l:List (Int×Value)){aG:List cR}{M:Nat},(∀b∈aG,b.ok g M)->(∀b∈mh g z aG l,b.ok g (M+512*l.length))/\(mh g z aG l).length=aG.length
 |[],_,_,h=>⟨h,j⟩
 |q::r,aG,M,h=>by
  have d:(∀b∈jQ g aG ((z.bz[q.1.toNat]?).getD none),b.ok g (M+512))/\(jQ g aG ((z.bz[q.1.toNat]?).getD none)).length=aG.length:=by
   cases a:(z.bz[q.1.toNat]?).getD none with
   |none=>exact⟨λb c=>(h b c).more (by omega),j⟩
   |some x=>
    have n:z.bz[q.1.toNat]? =some (some x):=by
     cases e:z.bz[q.1.toNat]? with
     |none=>rw [e] at a;cases a
     |some I=>rw [e] at a;have a:I=some x:=a;rw [a]
    exact⟨λb c=>(sJ x.aI h b c).more (by have:=f _ x n;omega),sI _ _⟩
  obtain⟨k,m⟩:=vd f r d.1;exact⟨λb c=>(k b c).more (by rw [ex];omega),m.trans d.2⟩
theorem yW{g:al}{z:aU}:∀{U:List Value}{xs:List (Option bm)}{H:List Chunk}(_:ec (hL g) U xs H)(k:Nat)(aG:List cR),(∀(i:Nat)(b:i<xs.length),z.bz[k+i]? =some xs[i])->mh g z aG (fb k U)=xs.foldl (jQ g) aG
 |[],[],_,_,_,_,_=>rfl
 |[],_::_,_,h,_,_,_=>h.elim
 |_::_,[],_,h,_,_,_=>h.elim
 |v::U,x::xs,_,⟨_,_,_,f,h⟩,k,aG,c=>by
  have d:=yW h (k+1) (jQ g aG x) (λi b=>by have:=c (i+1) (by simpa using b);rw [show k+1+i=k+(i+1) by omega];simpa using this);rw [fb,h5,<-d];split
  .rename_i aT;cases x with
   |none=>rfl
   |some y=>obtain⟨j,e,_⟩:=f;rw [e] at aT;cases aT
  .show mh g z (jQ g aG ((z.bz[((k:Nat):Int).toNat]?).getD none)) (fb (k+1) U)=_;have a:=c 0 (by simp);rw [nd] at a;rw [lj,a];rfl
theorem xK{g:al}:∀{U:List Value}{xs:List (Option bm)}{H:List Chunk}(_:ec (hL g) U xs H)(k:Nat){q:Int×Value}{r:List (Int×Value)},fb k U=q::r->∃(x:bm)(a:Nat)(c:List Chunk),nk xs=some x/\q.2=aa a/\hB g a x c/\∀w,Holds w H->Holds w c
 |[],_,_,_,_,_,_,b=>by cases b
 |_::_,[],_,h,_,_,_,_=>h.elim
 |v::U,x::xs,_,⟨af,aB,rfl,l,h⟩,k,q,r,b=>by
  rw [fb] at b;split at b
  .rename_i aT;obtain⟨i,a,c,d,e,m,n⟩:=xK h (k+1) b;refine⟨i,a,c,?_,e,m,λw f=>n w f.right⟩;cases x with
   |none=>exact d
   |some y=>obtain⟨a,o,_⟩:=l;rw [o] at aT;cases aT
  .rename_i aT;cases b;obtain⟨i,a,rfl,d,e⟩:=l.some (by simpa using aT);exact⟨i,a,af,j,d,e,λw f=>f.left⟩
theorem xM{g:al}:∀{U:List Value}{xs:List (Option bm)}{H:List Chunk}(_:ec (hL g) U xs H)(k:Nat){i:Nat}{x:bm},xs[i]? =some (some x)->∃q r,fb k U=q::r
 |[],[],_,_,_,_,_,a=>by simp at a
 |[],_::_,_,h,_,_,_,_=>h.elim
 |_::_,[],_,h,_,_,_,_=>h.elim
 |v::U,y::xs,_,⟨_,_,_,c,h⟩,k,i,x,a=>by
  rw [fb];split
  .rename_i aT;cases i with
   |zero=>
    simp at a;subst a;obtain⟨d,b,_⟩:=c;rw [b] at aT;cases aT
   |succ i=>exact xM h (k+1) (by simpa using a)
  .exact⟨_,_,j⟩
def sZ(a:Option Addr)(pre:List (Int×Value)):Prop:=(pre=[]/\a=none)\/∃q r b,pre=q::r/\q.2=aa b/\a=some ⟨b,0,none⟩
theorem EL{α:Type}{f:α->α}{l:List α}{R:Nat}(a:R<l.length):((l.take R).map f++l.drop R).set R (f l[R])=(l.take (R+1)).map f++l.drop (R+1):=by
 have b:((l.take R).map f).length=R:=by rw [fa,hC];omega
 rw [tj _ _ (by omega),b,Nat.sub_self,jF a,qW,fK a,iB,List.append_assoc];rfl
theorem EK{α:Type}{f:α->α}{l:List α}{R:Nat}(b:R<l.length)(h:R<((l.take R).map f++l.drop R).length):((l.take R).map f++l.drop R)[R]=l[R]:=by
 have c:((l.take R).map f).length=R:=by rw [fa,hC];omega
 have a:((l.take R).map f++l.drop R)[R]? =some l[R]:=by rw [ko (by omega),c,Nat.sub_self,mI,nd,cr b]
 exact hn ((cr h).symm.trans a)
abbrev ctz:Value×b7->List Value:=λe=>e.2.cs++[e.1]
theorem FK{o:World}{g:al}{aM:Nat}{z:aU}{G:List Chunk}(dl:eo g aM z G){N M L:Nat}(ad:z.de g (λ_=>N) M L)(em:773<=N)(en:N+150<=1000000)(el:M+10000<=1000000)(ek:L+4200000<=1000000000)(cJ:g.at o)(bZ:g.ok)(dG:g.off (au [G]))(d:Own [G] o):Calls prog 23 #[aa aM] o λr w=>r=ab 0/\∃af,eo g aM (z.polls g) af/\C o (au [G]) [af] w:=by
 obtain⟨K,bM⟩:∃K,K=au [G]:=⟨_,j⟩;have cQ:g.off K:=bM▸dG;rw [<-bM];have d:C o K [G] o:=bM▸d;obtain⟨c,cI,bI,dA,a1,bs,az,rfl⟩:=dl;obtain⟨eg,n,U,rfl,a4,aB⟩:=az.bz;obtain⟨ef,aY,aP,rfl,b6,cz⟩:=az.parts;obtain⟨ee,O,bA,rfl,b5,cw⟩:=az.b9;have cY:=aB.len;have eD:=cz.len;have eC:=cw.len;have dD:0<z.bz.length:=by obtain⟨i,x,cd⟩:=ad.some_;have:=(e8.1 cd).1;omega
 have es:z.bz.length<=10:=by rw [ad.bz];exact bZ.n10
 have et:=ad.parts;have eq:=ad.b9;obtain⟨F,cap,cur,bn,rfl,ew⟩:=Row.block a4 dD;obtain⟨B,c8,E,cD,rfl,ey⟩:=Row.block b6 (by omega);obtain⟨gc,c7,D,cC,rfl,ex⟩:=Row.block b5 (by omega);rw [bn] at a4;rw [<-cY] at bn a4;have dT:=aB.p7;have a6:∀(i:Nat)(x:bm),z.bz[i]? =some (some x)->x.aI.length<=512:=λi x cd=>(ad.iw i x cd).1.z6
 have dI:∀w,Holds w (J B E 48)->∀(R:Nat)(v:Value),aP[R]? =some v->w.cell? ⟨B,0+R*1,none⟩=some v:=λw ay R v a5=>by
  obtain⟨_,_,e,_,_,b4,_⟩:=Row.read b6 ay;rw [cD] at e;cases e;have W:=b4.cell a5;rw [add_lit] at W;rw [gK];exact W
 have dt:∀w,Holds w (J gc D 73)->∀(R:Nat)(v:Value),bA[R]? =some v->w.cell? ⟨gc,0+R*1,none⟩=some v:=λw ay R v a5=>by
  obtain⟨_,_,e,_,_,b4,_⟩:=Row.read b5 ay;rw [cC] at e;cases e;have W:=b4.cell a5;rw [add_lit] at W;rw [gK];exact W
 have d:C o K [bg g aM c,J F cur 37,n,J B E 48,aY,J gc D 73,O,a1,bs] o:=d.perm (by simp);refine jH func23 (bJ 2 d j j (λaC w d=>?_));have d:C o K [J aC #[aa aM] 22,bg g aM c,J F cur 37,n,J B E 48,aY,J gc D 73,O,a1,bs] w:=d;refine cx 3 d j (λt w d=>?_);have d:C o K (J t #[.pointer none] 37::_) w:=d;refine ar 3 j (ax (C.aj (b:=aC) d) j) (bk 0 (xJ (o:=w) (aM:=aM)) j (λr w⟨cZ,b2,ai⟩=>?_));subst b2;have d:=d.aO ai;have d:C o K [J cZ #[aa aM] 22,J aC #[aa aM] 22,J t #[.pointer none] 37,bg g aM c,J F cur 37,n,J B E 48,aY,J gc D 73,O,a1,bs] w:=d.as;have d:C o K ([J cZ #[aa aM] 22]++[J aC #[aa aM] 22,J t #[.pointer none] 37,bg g aM c,J F cur 37,n,J B E 48,aY,J gc D 73,O,a1,bs]) w:=d
 refine jM 1 j (xI (g:=g) (aM:=aM) (c:=c) bn a4 dT (by omega)) j (by have:=d.size;simpa using this) d j (λ_=>rfl) (by intro p az;simp at az;rcases az with rfl|rfl<;>rfl)
  (λpre ae=>∃(an:Option Addr)(cE:List cR)(H:List Chunk),ae=[J aC #[aa aM] 22,J t #[.pointer an] 37,bg g aM c,J F cur 37,n,J B E 48,H,J gc D 73,O,a1,bs]/\sZ an pre/\mh g z z.parts pre=cE/\ec (jb g) aP cE H/\pre.length<=10) (λ_ _=>False) ⟨none,z.parts,aY,j,.inl ⟨j,j⟩,j,cz,cp _⟩ (λL aJ dk=>by have ah:=dk.b8 (C.aj (b:=aM) d);exact ah) (λpre ae L a2=>by obtain⟨an,cE,H,rfl,_⟩:=a2;simp) ?_ ?_ (λ_ _ h=>h.elim) (λ_ _ _ h=>h.elim)
 .rintro y pre ⟨aE,d7⟩ eb c1 eL cl ⟨an,cE,H,rfl,br,aN,bQ,dJ⟩ d;obtain⟨i,dB,cc,dF⟩:=rP (q:=(aE,d7)) (by obtain⟨d6,b3⟩:=cl;rw [b3];simp);have d:=C.gg d;refine bH 2 j (⟨j,_,d,λc1 S d=>?_⟩);have cK:=cJ.st d cQ;have dH:g.off (au [J aC #[aa aM] 22,J t #[.pointer an] 37,bg g aM c,J F cur 37,n,J B E 48,H,J gc D 73,O,a1,bs]):=(cJ.apart d cQ).sub (λb be=>mO.2 (.inr (mO.2 (.inl be))));have d:=C.gg d;obtain⟨P,bG⟩:∃P,P=au [J aC #[aa aM] 22,J t #[.pointer an] 37,bg g aM c,J F cur 37,n,J B E 48,H,J gc D 73,O,a1,bs]:=⟨_,j⟩;have cP:g.off P:=bG▸dH;rw [<-bG];have d:C S P [J aC #[aa aM] 22,J t #[.pointer an] 37,bg g aM c,J F cur 37,n,J B E 48,H,J gc D 73,O,a1,bs] S:=bG▸d;have er:i<U.length:=(e8.1 cc).1;have cL:i<z.bz.length:=by omega
  obtain⟨v,H1,cf,ap,ah,di,dp,_⟩:=aB.at i cL;rw [ah] at cc;cases cc;obtain⟨x,aF,d3,rfl,cA⟩:=dp.some dF;have cu:∀w,Holds w n->Holds w cf:=λw ay=>by rw [di] at ay;exact ay.right.left
  have bv:z.bz[i]? =some (some x):=by rw [cr cL,d3]
  have ev:pre.length+1<=U.length:=by
   obtain⟨d6,b3⟩:=cl;have aH:=uy U 0;rw [b3] at aH;simp at aH;omega
  obtain⟨dL,dQ⟩:=vd (g:=g) (z:=z) a6 pre ad.jt;have dM:∀b∈cE,b.ok g (M+512*pre.length):=by rw [<-aN];exact dL
  have dP:cE.length=z.parts.length:=by rw [<-aN];exact dQ
  refine ar 4 j (ax (C.aj (b:=t) d) j) (bo 1 j j (λbD=>?_) (λbD=>?_));refine dE 2 (d.bc t) j j j j (λw d=>?_);have d:C S P (J t #[aa aF] 37::_) w:=d
  obtain⟨Q,cH,d⟩:∃Q,sZ Q (pre++[(aE,aa aF)])/\C S P [J aC #[aa aM] 22,J t #[.pointer Q] 37,bg g aM c,J F cur 37,n,J B E 48,H,J gc D 73,O,a1,bs] w:=by
   refine⟨some ⟨aF,0,none⟩,?_,d.as⟩;rcases br with⟨rfl,_⟩|⟨q,r,c0,_,_,rfl⟩
   .exact .inr ⟨_,[],aF,j,j,j⟩
   .cases bD
  refine bk 3 (z8 cA (cu _ (d.holds (G:=n) (by simp))) (by have:=a6 i x bv;omega)) j (λr w⟨bj,cn,ai⟩=>?_);rotate_left
  obtain⟨Q,cH,d⟩:∃Q,sZ Q (pre++[(aE,aa aF)])/\C S P [J aC #[aa aM] 22,J t #[.pointer Q] 37,bg g aM c,J F cur 37,n,J B E 48,H,J gc D 73,O,a1,bs] S:=by
   refine⟨an,?_,d.as⟩;rcases br with⟨_,rfl⟩|⟨q,r,c0,rfl,aG,aH⟩
   .cases bD
   .exact .inr ⟨q,_,c0,j,aG,aH⟩
  refine bk 4 (z8 cA (cu _ (d.holds (G:=n) (by simp))) (by have:=a6 i x bv;omega)) j (λr w⟨bj,cn,ai⟩=>?_);rotate_left
  all_goals
   have d:=d.aO ai;obtain⟨am,V,us,rfl,cW,bU⟩:=cn;obtain⟨ce,ck,rfl,eA,eF⟩:=Row.form cW;have ez:=bU.len;have cG:∀e∈us.zip x.aI,(ctz e).length=5:=λ_ _=>rfl
   have eG:=a6 i x bv;have d:C S P [J aC #[aa aM] 22,J t #[.pointer Q] 37,bg g aM c,J F cur 37,n,J B E 48,H,J gc D 73,O,a1,bs,am,V] w:=C.perm (A:=[J aC #[aa aM] 22,J t #[.pointer Q] 37,bg g aM c,J F cur 37,n,J B E 48,H,J gc D 73,O,a1,bs,am++V]) d.as (by simp)
   refine dj 3 j (cU:=Nat×List cR×List Chunk) (λk=>[(1,aa aC),(22,.slice ce x.aI.length ck),(23,.int .i64 (x.aI.length:Nat)),(24,.int .i64 (k.1:Nat))])
    (λk w=>k.1<=x.aI.length/\k.2.1=(x.aI.take k.1).foldl (oE g x) cE/\ec (jb g) aP k.2.1 k.2.2/\C S P [J aC #[aa aM] 22,J t #[.pointer Q] 37,bg g aM c,J F cur 37,n,J B E 48,k.2.2,J gc D 73,O,a1,bs,am,V] w) (λk=>x.aI.length-k.1) (0,cE,H) ⟨j,j,j,j,bb⟩ ⟨cp _,j,bQ,d⟩ ?_
   rintro⟨m,Z,ba⟩ w ⟨hm,a3,bN,d⟩;dsimp only at hm a3 bN d⊢;have dN:Z.length=z.parts.length:=by rw [a3,sI];exact dP
   have dS:∀b∈Z,b.ok g (M+512*pre.length+512):=λb be=>by
    rw [a3] at be;exact(sJ (x:=x) (x.aI.take m) dM b be).more (by rw [hC];omega)
   refine cy 4 j j (λc2=>?_) (λc2=>?_)
   .have a0:m<x.aI.length:=by omega
    have eH:(us.zip x.aI).length=x.aI.length:=by rw [nW];omega
    obtain⟨_,_,c9,_,_,cX,_⟩:=Row.read cW (d.holds (G:=am) (by simp));cases c9;have bu:(us.zip x.aI)[m]'(by omega)=(us[m]'(by omega),x.aI[m]):=List.getElem_zip;obtain⟨d9,ci,ca,bf,_,dX,dx⟩:=bU.read (d.holds (G:=V) (by simp)) m a0;obtain⟨X,Y,rfl⟩:=uj (r:=[]) dx dX;have d0:us[m]'(by omega)= .slice (some ⟨X,Y,none⟩) 1 ci:=by rw [cr (by omega)] at ca;exact hn ca
    have d1:∀w,Holds w V->Rd w (some ⟨X,Y+0*68,none⟩) (dr g x.aI[m] x.aw).cs:=λw ay=>by
     obtain⟨gP,ei,ah,_,_,aG,_⟩:=bU.read ay m a0;rw [ca] at ah;cases ah;simpa [vcs] using aG
    refine aq 5 j (fJ j j j j cX (v:=ab x.aI[m].k) (iI (f:=ctz) (R:=0) (us.zip x.aI) cG m (by omega) (by decide) (by rw [bu];rfl)) a0 (λeh dc ep=>?_));have cV:=j6 (f:=ctz) (dc▸cX) cG m (by omega);rw [bu,d0] at cV;refine bP 0 (U:=(x.aI[m].cs++[Value.slice (some ⟨X,Y,none⟩) 1 ci])) j j j cV (cx 0 d j (λac w d=>cv 0 (d.bc ac) j j j j j (λw d=>?_)));have d:=C.whole (U:=(x.aI[m].cs++[Value.slice (some ⟨X,Y,none⟩) 1 ci])) d j;have d:C S P (J ac (x.aI[m].cs++[Value.slice (some ⟨X,Y,none⟩) 1 ci]).toArray 121::_) w:=d;have d:C S P [J aC #[aa aM] 22,J t #[.pointer Q] 37,bg g aM c,J F cur 37,n,J B E 48,ba,J gc D 73,O,a1,bs,am,V,J ac (x.aI[m].cs++[Value.slice (some ⟨X,Y,none⟩) 1 ci]).toArray 121] w:=d.as;refine ar 2 j (ax (C.aj (b:=aC) d) j) (ar 2 j (ax (C.aj (b:=aM) d) (aK some cD)) ?_)
    refine dj 3 j (cU:=Nat×List Chunk) (λk=>[(1,aa aC),(7,aa ac),(22,.slice ce x.aI.length ck),(23,.int .i64 (x.aI.length:Nat)),(24,.int .i64 (m:Nat)),(31,.slice (some ⟨B,0,none⟩) z.parts.length c8),(32,.int .i64 (z.parts.length:Nat)),(33,.int .i64 (k.1:Nat))])
     (λk w=>k.1<=z.parts.length/\ec (jb g) aP ((Z.take k.1).map (λb:cR=>(b.dv g x.aI[m] (dr g x.aI[m] x.aw)).1)++Z.drop k.1) k.2/\C S P [J aC #[aa aM] 22,J t #[.pointer Q] 37,bg g aM c,J F cur 37,n,J B E 48,k.2,J gc D 73,O,a1,bs,am,V,J ac (x.aI[m].cs++[Value.slice (some ⟨X,Y,none⟩) 1 ci]).toArray 121] w) (λk=>z.parts.length-k.1) (0,ba) ⟨j,j,j,j,j,j,j,j,bb⟩ ⟨cp _,by simpa using bN,d⟩ ?_
    rintro⟨R,cg⟩ w ⟨dy,bd,d⟩;dsimp only at dy bd d⊢;refine cy 4 j j (λc3=>?_) (λc3=>?_)
    .have cN:R<z.parts.length:=by omega
     have bY:R<Z.length:=by omega
     have cO:R<((Z.take R).map (λb:cR=>(b.dv g x.aI[m] (dr g x.aI[m] x.aw)).1)++Z.drop R).length:=by rw [cj,List.length_map,List.length_take,List.length_drop];omega
     obtain⟨v9,aT,bB,aW,cb,rfl,dg,dU⟩:=bd.at R cO;obtain⟨bh,rfl,cm⟩:=dg;rw [EK bY cO] at cm;refine aq 5 j (hy j j j j cN ?_);refine ar 0 j (dI _ (d.holds (G:=J B E 48) (by simp)) R _ cb) ?_;have d:C S P ([J ac (x.aI[m].cs++[Value.slice (some ⟨X,Y,none⟩) 1 ci]).toArray 121,V]++_) _:=d.front;have d:=d.drew;refine bx 1 j (λw=>∃ae,C S P ([J ac (x.aI[m].cs++[Value.slice (some ⟨X,Y,none⟩) 1 ci]).toArray 121,V]++ae) w) ⟨_,d⟩ ?_;refine ag 0 2 j (bl 2 j (λw⟨_,d⟩=>dd (U:=x.aI[m].cs) j j j ((d.bc ac).i9 (off:=0) (U:=x.aI[m].cs) (λR v a5=>by rw [fe];exact rt (m:=x.aI[m]) (u:=Value.slice (some ⟨X,Y,none⟩) 1 ci) a5))) (ag 3 1 j (a8 4 j a2 j (bl 5 j (λw _=>g4 (R:=0) j j (by decide)) (bl 6 j (λw⟨_,d⟩=>dd (U:=(dr g x.aI[m] x.aw).cs) j j ((dr g x.aI[m] x.aw).len (iL _ _ _)) (d1 _ (d.holds (G:=V) (by simp)))) (dK 7 j ?_))))));have d:C S P [J aC #[aa aM] 22,J t #[.pointer Q] 37,bg g aM c,J F cur 37,n,J B E 48,aT,bB,aW,J gc D 73,O,a1,bs,am,V,J ac (x.aI[m].cs++[Value.slice (some ⟨X,Y,none⟩) 1 ci]).toArray 121] _:=C.perm (A:=[J aC #[aa aM] 22,J t #[.pointer Q] 37,bg g aM c,J F cur 37,n,J B E 48,aT++(bB++aW),J gc D 73,O,a1,bs,am,V,J ac (x.aI[m].cs++[Value.slice (some ⟨X,Y,none⟩) 1 ci]).toArray 121]) d.as (by simp);have bT:=dS Z[R] (eB bY);refine cS j j j (z0 (m:=x.aI[m]) (v:=(dr g x.aI[m] x.aw)) cm (by have:=bT.ch;omega) (by have:=bT.acc;omega) (bT.len bZ) (cK.st d cP) bZ (d.eE cK cP) (iL _ _ _) (d.ours (cM:=[bB]))) (λr w⟨b2,a7,df,ai⟩=>?_);subst b2;have d:=d.b1 ai;have d:C S P [J aC #[aa aM] 22,J t #[.pointer Q] 37,bg g aM c,J F cur 37,n,J B E 48,aT,a7,aW,J gc D 73,O,a1,bs,am,V,J ac (x.aI[m].cs++[Value.slice (some ⟨X,Y,none⟩) 1 ci]).toArray 121] _:=d.as;have d:C S P [J aC #[aa aM] 22,J t #[.pointer Q] 37,bg g aM c,J F cur 37,n,J B E 48,aT++(a7++aW),J gc D 73,O,a1,bs,am,V,J ac (x.aI[m].cs++[Value.slice (some ⟨X,Y,none⟩) 1 ci]).toArray 121] _:=d.perm (by simp);refine ao (c5 (bE 1 j j j (dn R (by omega)) (bW 1 j ?_)));have aD:=dU (((λb:cR=>(b.dv g x.aI[m] (dr g x.aI[m] x.aw)).1)) Z[R]) a7 ⟨bh,j,df⟩;rw [EL bY] at aD;exact⟨(R+1,aT++(a7++aW)),⟨j,j,j,j,j,j,j,j,bb⟩,⟨cN,aD,d⟩,by dsimp only;omega⟩
    refine bE 2 j j j (dn m (by omega)) (bW 1 j ?_);have dz:R=z.parts.length:=by omega
    rw [dz,<-dN,gm,List.drop_length,gA] at bd;have d:C S P [J aC #[aa aM] 22,J t #[.pointer Q] 37,bg g aM c,J F cur 37,n,J B E 48,cg,J gc D 73,O,a1,bs,am,V] _:=d.as;refine⟨(m+1,oE g x Z x.aI[m],cg),⟨j,j,j,j,bb⟩,⟨a0,?_,bd,d⟩,by dsimp only;omega⟩;dsimp only;rw [fK a0,nb,<-a3];rfl
   refine bH 1 j ?_;have dC:m=x.aI.length:=by omega
   have d4:mh g z z.parts (pre++[(aE,aa aF)])=Z:=by
    rw [FI,aN];have e:aE.toNat=i:=by have ej:aE=((0+i:Nat):Int):=dB;omega
    show jQ g cE ((z.bz[aE.toNat]?).getD none)=Z;rw [e,bv,a3,dC,gm];rfl
   have d:C S P [J aC #[aa aM] 22,J t #[.pointer Q] 37,bg g aM c,J F cur 37,n,J B E 48,ba,J gc D 73,O,a1,bs] w:=d.as;exact⟨_,d,Q,Z,ba,j,cH,d4,bN,by rw [cj,List.length_singleton];omega⟩
 rintro xs ed w dm ⟨an,cE,ak,rfl,br,aN,bQ,dJ⟩ d;subst dm;obtain⟨eI,eM,d2⟩:=ad.some_;obtain⟨eJ,eK,b0⟩:=xM aB 0 d2;obtain⟨I,T,ea,dw,dW,cB,ct⟩:=xK aB 0 b0
 obtain rfl:an=some ⟨T,0,none⟩:=by
  rcases br with⟨ah,_⟩|⟨q,r,aF,ah,aG,aH⟩
  .rw [b0] at ah;cases ah
  .rw [b0] at ah;cases ah;rw [dW] at aG;cases aG;exact aH
 have dO:cE=z.bz.foldl (jQ g) z.parts:=by
  rw [<-aN];exact yW aB 0 z.parts (λi bV=>by rw [fe];exact cr bV)
 have dR:=(vd (g:=g) (z:=z) a6 (fb 0 U) ad.jt).2;have d:C o K (J aC #[aa aM] 22::[J t #[aa T] 37,bg g aM c,J F cur 37,n,J B E 48,ak,J gc D 73,O,a1,bs]) w:=d.as;refine ar 3 j (ax (C.aj (b:=aC) d) j) (ar 2 j (ax (C.aj (b:=aM) d) (aK some cC)) ?_)
 refine dj 3 j (cU:=Nat×List (bw×Int)×List Chunk) (λk=>[(3,aa t),(50,.slice (some ⟨gc,0,none⟩) z.b9.length c7),(51,.int .i64 (z.b9.length:Nat)),(52,.int .i64 (k.1:Nat))])
  (λk w=>k.1<=z.b9.length/\k.2.1=(List.range k.1).foldl (hj I) z.b9/\ec lJ bA k.2.1 k.2.2/\C o K [J t #[aa T] 37,bg g aM c,J F cur 37,n,J B E 48,ak,J gc D 73,k.2.2,a1,bs] w) (λk=>z.b9.length-k.1) (0,z.b9,O) ⟨j,j,j,j,bb⟩ ⟨cp _,j,cw,d.as⟩ ?_
 rintro⟨i,cs,bC⟩ w ⟨bV,aZ,bR,d⟩;dsimp only at bV aZ bR d⊢;have du:cs.length=z.b9.length:=by rw [aZ];exact(vx (List.range i) ad.j4).2
 refine cy 4 j j (λc4=>?_) (λc4=>?_)
 .have bX:i<z.b9.length:=by omega
  have bt:i<cs.length:=by omega
  obtain⟨v9,H1,cf,ap,cb,rfl,co,cT⟩:=bR.at i bt;obtain⟨l,bi⟩:∃l,cs[i]=l:=⟨_,j⟩;rw [bi] at co;obtain⟨aL,aA,GE,rfl,cq,rfl⟩:=co;have d:C o K [J t #[aa T] 37,bg g aM c,J F cur 37,n,J B E 48,ak,J gc D 73,H1,db aL aA l.2,GE,ap,a1,bs] w:=C.perm (A:=[J t #[aa T] 37,bg g aM c,J F cur 37,n,J B E 48,ak,J gc D 73,H1++((db aL aA l.2++GE)++ap),a1,bs]) d (by simp);refine aq 6 j (hy j j j j bX ?_);refine ar 0 j (dt _ (d.holds (G:=J gc D 73) (by simp)) i _ cb) ?_;have d:C o K ([J t #[aa T] 37,db aL aA l.2,n]++_) _:=d.front;have d:=d.drew;refine bx 3 j (λw=>∃ae,C o K ([J t #[aa T] 37,db aL aA l.2,n]++ae) w) ⟨_,d⟩ (a8 0 j a2 j (ag 1 4 j (a8 5 j a2 j (aS 6 10 j j ?_ ?_))));refine bK j j j (wk (c:=(i:Int)) (s:=l.2) cB (ct _ (d.holds (G:=n) (by simp)))) (λw ai=>?_);have d:=d.aO ai;have d:C o K ([J t #[aa T] 37,db aL aA l.2,n]++_) _:=d.front;refine ao ⟨⟨_,d⟩,?_⟩;refine ag 7 3 j (aX 10 j (eu d j j (λav w d=>?_)));have d:C o K (J av #[ab 0,ab 0,ab 0] 123::_) w:=d;have d:C o K ([J t #[aa T] 37,db aL aA l.2,n]++_) _:=d.front;refine ao ⟨⟨_,d⟩,?_⟩;rotate_left
  refine eu d j j (λav w d=>?_);have d:C o K (J av #[ab 0,ab 0,ab 0] 123::_) w:=d;have d:C o K ([J t #[aa T] 37,db aL aA l.2,n]++_) _:=d.front;refine ao ⟨⟨_,d⟩,?_⟩;refine aX 6 j (bK j j j (wk (c:=(i:Int)) (s:=l.2) cB (ct _ (d.holds (G:=n) (by simp)))) (λw ai=>?_));have d:=d.aO ai;have d:C o K ([J t #[aa T] 37,db aL aA l.2,n]++_) _:=d.front;refine ao ⟨⟨_,d⟩,?_⟩;refine ag 7 3 j ?_;rotate_left
  all_goals
   refine aX 11 j (c6 (d.bc av) j j j j j bO (λw d=>?_));have d:=C.whole (U:=[ab (if 0<=(i:Int)/\(i:Int)<=15/\0<=l.2/\l.2<=1048576 then((aV I.answers (e1 (i:Int) l.2)).getD (0,0,0)) else(0,0,0)).1,ab (if 0<=(i:Int)/\(i:Int)<=15/\0<=l.2/\l.2<=1048576 then((aV I.answers (e1 (i:Int) l.2)).getD (0,0,0)) else(0,0,0)).2.1,ab (if 0<=(i:Int)/\(i:Int)<=15/\0<=l.2/\l.2<=1048576 then((aV I.answers (e1 (i:Int) l.2)).getD (0,0,0)) else(0,0,0)).2.2]) d j;have d:C o K (J av #[ab (if 0<=(i:Int)/\(i:Int)<=15/\0<=l.2/\l.2<=1048576 then((aV I.answers (e1 (i:Int) l.2)).getD (0,0,0)) else(0,0,0)).1,ab (if 0<=(i:Int)/\(i:Int)<=15/\0<=l.2/\l.2<=1048576 then((aV I.answers (e1 (i:Int) l.2)).getD (0,0,0)) else(0,0,0)).2.1,ab (if 0<=(i:Int)/\(i:Int)<=15/\0<=l.2/\l.2<=1048576 then((aV I.answers (e1 (i:Int) l.2)).getD (0,0,0)) else(0,0,0)).2.2] 123::_) w:=d;have d:C o K ([J t #[aa T] 37,db aL aA l.2,n]++_) _:=d.front;refine ao ⟨⟨_,d⟩,?_⟩;refine ag 12 1 j (bL (bo 3 j j (λbF=>?_) (λbF=>?_)))
   .have d:C o K ([J av #[ab (if 0<=(i:Int)/\(i:Int)<=15/\0<=l.2/\l.2<=1048576 then((aV I.answers (e1 (i:Int) l.2)).getD (0,0,0)) else(0,0,0)).1,ab (if 0<=(i:Int)/\(i:Int)<=15/\0<=l.2/\l.2<=1048576 then((aV I.answers (e1 (i:Int) l.2)).getD (0,0,0)) else(0,0,0)).2.1,ab (if 0<=(i:Int)/\(i:Int)<=15/\0<=l.2/\l.2<=1048576 then((aV I.answers (e1 (i:Int) l.2)).getD (0,0,0)) else(0,0,0)).2.2] 123,db aL aA l.2]++_) _:=d.front;have d:=d.drew;refine bx 0 j (λw=>∃ae,C o K ([J av #[ab (if 0<=(i:Int)/\(i:Int)<=15/\0<=l.2/\l.2<=1048576 then((aV I.answers (e1 (i:Int) l.2)).getD (0,0,0)) else(0,0,0)).1,ab (if 0<=(i:Int)/\(i:Int)<=15/\0<=l.2/\l.2<=1048576 then((aV I.answers (e1 (i:Int) l.2)).getD (0,0,0)) else(0,0,0)).2.1,ab (if 0<=(i:Int)/\(i:Int)<=15/\0<=l.2/\l.2<=1048576 then((aV I.answers (e1 (i:Int) l.2)).getD (0,0,0)) else(0,0,0)).2.2] 123,db aL aA l.2]++ae) w) ⟨_,d⟩ ?_;refine ag 0 3 j (a8 3 j a2 j (ag 4 3 j (a8 7 j a2 j (bl 8 j (λw⟨_,d⟩=>dd (U:=[ab (if 0<=(i:Int)/\(i:Int)<=15/\0<=l.2/\l.2<=1048576 then((aV I.answers (e1 (i:Int) l.2)).getD (0,0,0)) else(0,0,0)).1,ab (if 0<=(i:Int)/\(i:Int)<=15/\0<=l.2/\l.2<=1048576 then((aV I.answers (e1 (i:Int) l.2)).getD (0,0,0)) else(0,0,0)).2.1,ab (if 0<=(i:Int)/\(i:Int)<=15/\0<=l.2/\l.2<=1048576 then((aV I.answers (e1 (i:Int) l.2)).getD (0,0,0)) else(0,0,0)).2.2]) j j j (bq (C.aj (b:=av) d))) ?_))));refine dK 9 j (bK j j j (Hs (s:=l.2) (a:=(if 0<=(i:Int)/\(i:Int)<=15/\0<=l.2/\l.2<=1048576 then((aV I.answers (e1 (i:Int) l.2)).getD (0,0,0)) else(0,0,0))) cq (d.ours (cM:=[GE]))) (λw⟨aQ,dh,ai⟩=>?_));have d:=d.b1 ai;refine ao (c5 (bE 1 j j j (dn i (by omega)) (bW 1 j ?_)))
    have bS:I.answer (i:Int) l.2=some (if 0<=(i:Int)/\(i:Int)<=15/\0<=l.2/\l.2<=1048576 then((aV I.answers (e1 (i:Int) l.2)).getD (0,0,0)) else(0,0,0)):=by
     have W:(decide (0<=(i:Int)/\(i:Int)<=15/\0<=l.2/\l.2<=1048576)&&(aV I.answers (e1 (i:Int) l.2)).isSome)=true:=bF;simp only [d8,gn] at W;unfold bm.answer;rw [aR W.1,aR W.1];obtain⟨a9,ds⟩:=g8.1 W.2;rw [ds];rfl
    have bf:cs[i]? =some l:=by rw [cr bt,bi]
    have b7:hj I cs i=cs.set i ((l.1.told l.2 (if 0<=(i:Int)/\(i:Int)<=15/\0<=l.2/\l.2<=1048576 then((aV I.answers (e1 (i:Int) l.2)).getD (0,0,0)) else(0,0,0))).1,l.2):=by
     unfold hj;rw [bf];dsimp only;rw [bS]
    have aD:=cT ((l.1.told l.2 (if 0<=(i:Int)/\(i:Int)<=15/\0<=l.2/\l.2<=1048576 then((aV I.answers (e1 (i:Int) l.2)).getD (0,0,0)) else(0,0,0))).1,l.2) (db aL aA l.2++aQ) ⟨aL,aA,aQ,j,dh,j⟩;have d:C o K [J t #[aa T] 37,bg g aM c,J F cur 37,n,J B E 48,ak,J gc D 73,H1,db aL aA l.2,aQ,ap,a1,bs] _:=d.as;refine⟨(i+1,cs.set i ((l.1.told l.2 (if 0<=(i:Int)/\(i:Int)<=15/\0<=l.2/\l.2<=1048576 then((aV I.answers (e1 (i:Int) l.2)).getD (0,0,0)) else(0,0,0))).1,l.2),H1++((db aL aA l.2++aQ)++ap)),⟨j,j,j,j,bb⟩,⟨bX,?_,aD,C.perm (A:=[J t #[aa T] 37,bg g aM c,J F cur 37,n,J B E 48,ak,J gc D 73,H1,db aL aA l.2,aQ,ap,a1,bs]) d (by simp)⟩,by dsimp only;omega⟩;dsimp only;rw [m9,nb,<-aZ];exact b7.symm
   refine bE 2 j j j (dn i (by omega)) (bW 1 j ?_)
   have bS:I.answer (i:Int) l.2=none:=by
    have W:(decide (0<=(i:Int)/\(i:Int)<=15/\0<=l.2/\l.2<=1048576)&&(aV I.answers (e1 (i:Int) l.2)).isSome)=false:=bF;unfold bm.answer;split
    .rename_i da;rw [hM da,na] at W;cases dV:aV I.answers (e1 (i:Int) l.2) with
     |none=>rfl
     |some _=>rw [dV] at W;cases W
    .rfl
   have bf:cs[i]? =some l:=by rw [cr bt,bi]
   have b7:hj I cs i=cs:=by
    unfold hj;rw [bf];dsimp only;rw [bS]
   have aD:=cT l (db aL aA l.2++GE) ⟨aL,aA,GE,j,cq,j⟩;have dY:cs.set i l=cs:=by rw [<-bi];exact List.set_getElem_self bt
   rw [dY] at aD;have d:C o K [J t #[aa T] 37,bg g aM c,J F cur 37,n,J B E 48,ak,J gc D 73,H1,db aL aA l.2,GE,ap,a1,bs] _:=d.as;refine⟨(i+1,cs,H1++((db aL aA l.2++GE)++ap)),⟨j,j,j,j,bb⟩,⟨bX,?_,aD,C.perm (A:=[J t #[aa T] 37,bg g aM c,J F cur 37,n,J B E 48,ak,J gc D 73,H1,db aL aA l.2,GE,ap,a1,bs]) d (by simp)⟩,by dsimp only;omega⟩;dsimp only;rw [m9,nb,<-aZ];exact b7.symm
 refine bH 4 j ⟨ab 0,λw dZ=>?_⟩;have d:=dZ.st d (cF _);refine⟨λa dq=>iP (fn:=f23) dq j _ _,?_⟩;have bu:i=z.b9.length:=by omega
 have d5:z.polls g={z with parts:=cE,b9:=cs}:=by
  unfold aU.polls;rw [dw,<-dO,aZ,bu]
 rw [d5];have d:C o K [bg g aM c,J F cur 37,n,J B E 48,ak,J gc D 73,bC,a1,bs] w:=d.as;refine⟨j,_,⟨c,J F cur 37++n,J B E 48++ak,J gc D 73++bC,a1,bs,⟨⟨_,_,U,j,by rw [bn,<-cY];exact a4,aB⟩,⟨_,_,aP,j,by show Row 48 1 c.parts cE.length aP _;rw [<-aN,dR];exact b6,bQ⟩,⟨_,_,bA,j,by show Row 73 1 c.b9 cs.length bA _;rw [du];exact b5,bR⟩,az.bp,az.heard⟩,j⟩,C.perm (A:=[bg g aM c,J F cur 37,n,J B E 48,ak,J gc D 73,bC,a1,bs]) d (by simp)⟩
section
variable {P:Program} {n:Fr} {Z:Env} {w:World} {Q:d7} {ops:Array Oper} {rest:List Oper} {dst:Option Nat} {ty:TypeId} {pos:String} {after:Array Edge} {g:Option (Nat×Bool)}
theorem sV{s t:TypeId}{d:TypeDesc}{x:Operand}{k:IntKind}{i:Int}[aF:bC P s d][e:bC P t .string](f:bt Z x=some (.int k i)){R:ByteArray}(c:Utf8.encode i=R):
 ∀a,cN Z n.n a->(execOp a.eval ⟨dst,.convert s t x,ty,pos,after,g⟩).run P w= .ok (.value (.string R)) w:=
 λa b=>by
  subst c;simp [execOp,b.eval f,convert,d9 aF.h,d9 e.h,Conv.intToString]
end
def j9(i:Nat):List UInt8:=[UInt8.ofNat (97+i)]
def hi(m i:Nat):List (Option bm):=(List.range i).map (λR:Nat=>some (bm.new (R:Int)))++List.replicate (m-i) none
theorem kx{m i:Nat}(h:i<=m):(hi m i).length=m:=by simp [hi];omega
theorem vm{m i:Nat}(h:i<m):(hi m i).set i (some (bm.new (i:Int)))=hi m (i+1):=by
 have a:((List.range i).map (λR:Nat=>some (bm.new (R:Int)))).length=i:=by simp
 unfold hi;rw [tj _ _ (by omega),a,Nat.sub_self,show m-i=(m-(i+1))+1 by omega,List.replicate_succ,qW,m9,iB,List.append_assoc];rfl
def iO(i:Nat):List cR:=List.replicate i cR.new
def jI(i:Nat):List (bw×Int):=(List.range i).map λR:Nat=>(bw.new (R:Int) (j9 R),-1)
def aU.new(n k:Nat):aU:={bz:=hi n (n-k),parts:=iO 4,b9:=jI 3,bp:=[],lost:=0,heard:=[]}
section
variable {α:Type} {V:Value->α->List Chunk->Prop}
theorem ec.rep{v:Value}{x:α}(h:V v x []):∀m:Nat,ec V (List.replicate m v) (List.replicate m x) []
 |0=>rfl
 |m+1=>⟨[],[],j,h,ec.rep h m⟩
theorem ec.put:∀{U:List Value}{xs:List α}{G:List Chunk},ec V U xs G->∀(i:Nat)(c:i<xs.length),∃af e aB,G=af++(e++aB)/\V (U[i]?.getD (.pointer none)) xs[i] e/\∀v b a,V v b a->ec V (U.set i v) (xs.set i b) (af++(a++aB))
 |[],[],_,_=>λi c=>absurd c (by simp)
 |[],_::_,_,h=>h.elim
 |_::_,[],_,h=>h.elim
 |v::U,x::xs,_,⟨af,aB,rfl,g,h⟩=>λi c=>by
  cases i with
  |zero=>exact⟨[],af,aB,j,g,λk b a d=>⟨a,aB,j,d,h⟩⟩
  |succ i=>
   obtain⟨H1,l,f,rfl,m,n⟩:=h.put i (by simpa using c);exact⟨af++H1,l,f,by simp,m,λk b a d=>⟨af,H1++(a++f),by simp,g,n k b a d⟩⟩
end
theorem Fc{o:World}{aQ k:Nat}(aT:aQ=4\/aQ=7)(ad:k<=kR aQ):Calls prog 14 #[.int .i64 (aQ:Nat),.int .i64 (k:Nat)] o λr w=>∃(aM:Nat)(g:al)(G:List Chunk),r= .tuple #[aa aM,ab 0]/\g.ok/\g.keys=qd aQ (ca [1])/\eo g aM (aU.new aQ k) G/\C o [] [dU g,G] w:=by
 have a:Own [] o:=C.start o;have bo:k<=aQ:=ej ad (by rcases aT with rfl|rfl<;>decide);have bp:4<=aQ/\aQ<=7:=by omega
 refine a6 func14 (lv 4 j (λZ w=>sub Z [(0,.int .i64 (aQ:Nat)),(1,.int .i64 (k:Nat))]/\C o [] [] w) ?_ ?_)
 .refine aq 5 j (c9 11 j (λbf=>?_) (λbf=>?_));refine aq 4 j (bY 15 (.bool false) j (aK Value.bool ((by rcases aT with rfl|rfl<;>first|rfl|exact absurd bf (by decide)))) ?_);rotate_left
  refine aq 4 j (bY 15 (.bool false) j (aK Value.bool (j)) ?_);rotate_left
  all_goals
   refine aq 4 j (bY 19 (.bool false) j (aK Value.bool ((e7 (by omega)))) ?_);refine br 2 (xh (n:=aQ) (by omega)) j (λbn hw=>?_);subst bn;exact ij 2 j j ((e7 (by omega))) (bW 1 j ⟨⟨j,j,bb⟩,a⟩)
 rintro Z w ⟨aF,a⟩;refine lf [(0,.int .i64 (aQ:Nat)),(1,.int .i64 (k:Nat))] aF ?_;have a:=a.drew;refine bx 1 j (λw=>True) bb (ag 0 1 j (ag 4 1 j (aS 1 5 j j ?_ ?_)))
 .refine fx a j j j j j j bO (λaB w a=>?_);have aC:=a.bQ;refine ao ⟨bb,?_⟩;refine aS 2 5 j j ?_ ?_;have aC:Rd _ (some ⟨aB,0,none⟩) (aP [1]):=bq (C.aj (b:=aB) a);refine bK j j j (oB (p:=[1]) aC (by decide) (by decide)) (λw t=>?_);have a:=a.aO t;refine ao ⟨bb,?_⟩;refine aS 3 5 j j ?_ ?_
  .refine cS j j j (uW (n:=aQ) (e3:=ca [1]) (by omega) (fm _)) (λr w⟨g,I,a5,a4,t⟩=>?_);subst I;have a:=a.aO t;refine ao ⟨bb,?_⟩;refine aS 5 6 j j ?_ ?_;refine nJ (l:=aQ) (c:=aQ) a j j j j (by omega) (by omega) (by unfold maxLen;omega) (λd bN w be Q a=>ao ⟨bb,?_⟩);refine aX 6 j (cS j j j r0 (λr w⟨a1,am,t⟩=>?_));obtain⟨q,aD⟩:∃q,r=aa q:=by obtain⟨b,v,H,h,_⟩:=am;exact⟨b,h⟩
   subst aD;have a:=a.aO t;rotate_left
   refine cS j j j r0 (λr w⟨a1,am,t⟩=>?_);obtain⟨q,aD⟩:∃q,r=aa q:=by obtain⟨b,v,H,h,_⟩:=am;exact⟨b,h⟩
   subst aD;have a:=a.aO t;refine ao ⟨bb,?_⟩;refine aX 5 j (nJ (l:=aQ) (c:=aQ) a j j j j (by omega) (by omega) (by unfold maxLen;omega) (λd bN w be Q a=>?_));rotate_left
   all_goals
    refine ao ⟨bb,?_⟩;refine bl 7 j (λw _=>eX (c:=(lH g (⟨.slice (some ⟨d,0,none⟩) aQ aQ,.slice none 0 0,.slice none 0 0,aa q,.slice none 0 0⟩:cg)).toArray) j (λ_=>by kernel_rfl)) (aX 8 j (ld a j j j (λf w a=>?_)));have a:C o [] (bg g f (⟨.slice (some ⟨d,0,none⟩) aQ aQ,.slice none 0 0,.slice none 0 0,aa q,.slice none 0 0⟩:cg)::_) w:=a;have Q:bN=(List.replicate aQ (Value.pointer none)).toArray:=Q.trans (by rcases aT with rfl|rfl<;>kernel_rfl);subst Q;have a:C o [] [bg g f (⟨.slice (some ⟨d,0,none⟩) aQ aQ,.slice none 0 0,.slice none 0 0,aa q,.slice none 0 0⟩:cg),J d (List.replicate aQ (Value.pointer none)).toArray 37,a1,dU g] w:=a.as;refine ao ⟨bb,?_⟩;refine ag 9 1 j (bL (bE 5 j j j (iH aQ k (by omega) (by omega)) ?_))
    refine dj 2 j (cU:=Nat×List Value×List Chunk) (λe=>[(6,aa f),(36,.int .i64 (aQ-k:Nat)),(37,.int .i64 (e.1:Nat))])
     (λe w=>e.1<=aQ-k/\e.2.1.length=aQ/\ec (hL g) e.2.1 (hi aQ e.1) e.2.2/\C o [] [bg g f (⟨.slice (some ⟨d,0,none⟩) aQ aQ,.slice none 0 0,.slice none 0 0,aa q,.slice none 0 0⟩:cg),J d e.2.1.toArray 37,e.2.2,a1,dU g] w) (λe=>aQ-k-e.1) (0,List.replicate aQ (.pointer none),[]) ⟨j,j,j,bb⟩ ⟨cp _,nY,ec.rep (V:=hL g) (x:=none) ⟨j,j⟩ aQ,C.perm (A:=[bg g f (⟨.slice (some ⟨d,0,none⟩) aQ aQ,.slice none 0 0,.slice none 0 0,aa q,.slice none 0 0⟩:cg),J d (List.replicate aQ (Value.pointer none)).toArray 37,a1,dU g]) a (by simp)⟩ ?_
    rintro⟨i,U,y⟩ w ⟨M,ai,X,a⟩;dsimp only at M ai X a⊢;refine cy 4 j j (λaG=>?_) (λaG=>?_)
    .have a:C o [] ([bg g f (⟨.slice (some ⟨d,0,none⟩) aQ aQ,.slice none 0 0,.slice none 0 0,aa q,.slice none 0 0⟩:cg)]++_) w:=a.front;have a:=a.drew;have bk:i<aQ-k:=by omega
     obtain⟨H1,aE,S,aY,az,ba⟩:=X.put i (by rw [kx (by omega)];omega);refine bx 7 j (λw=>∃ae,C o [] ([bg g f (⟨.slice (some ⟨d,0,none⟩) aQ aQ,.slice none 0 0,.slice none 0 0,aa q,.slice none 0 0⟩:cg)]++ae) w) ⟨_,a⟩ (ag 0 3 j (a8 3 j a2 j (ag 4 4 j (a8 8 j a2 j (ag 9 1 j (aX 10 j (cS j j j (uX (g:=g) (aw:=(i:Int))) (λr w⟨K,O,I,a3,t⟩=>?_))))))));subst I;have a:=a.aO t;have a:C o [] ([bg g f (⟨.slice (some ⟨d,0,none⟩) aQ aQ,.slice none 0 0,.slice none 0 0,aa q,.slice none 0 0⟩:cg)]++_) w:=a.front;refine ao ⟨⟨_,a⟩,?_⟩;refine bl 11 j (λw _=>g4 (R:=i) j j (by omega)) (dK 12 j (cO (a.bc d) j j j j (by rw [hl];omega) (λw a=>?_)));have a:C o [] (J d (U.toArray.setIfInBounds (0+i*1) (aa K)) 37::_) w:=a;rw [tm,fe,gK] at a;refine ao (c5 (bE 1 j j j (dn i (by omega)) (bW 1 j ?_)));have D:=ba (aa K) (some (bm.new (i:Int))) O ⟨K,j,a3⟩;rw [vm (by omega)] at D
     have aZ:aE=[]:=by
      have aR:(hi aQ i)[i]'(by rw [kx (by omega)];omega)=none:=by
       unfold hi;rw [tn (by simp)];simp
      rw [aR] at az;exact az.2
     subst aY;subst aZ;have a:C o [] [bg g f (⟨.slice (some ⟨d,0,none⟩) aQ aQ,.slice none 0 0,.slice none 0 0,aa q,.slice none 0 0⟩:cg),J d (U.set i (aa K)).toArray 37,H1,S,O,a1,dU g] w:=C.perm (A:=[bg g f (⟨.slice (some ⟨d,0,none⟩) aQ aQ,.slice none 0 0,.slice none 0 0,aa q,.slice none 0 0⟩:cg),J d (U.set i (aa K)).toArray 37,H1++([]++S),O,a1,dU g]) a.as (by simp);have a:C o [] [bg g f (⟨.slice (some ⟨d,0,none⟩) aQ aQ,.slice none 0 0,.slice none 0 0,aa q,.slice none 0 0⟩:cg),J d (U.set i (aa K)).toArray 37,H1,O,S,a1,dU g] w:=a.as;exact⟨(i+1,_,_),⟨j,j,j,bb⟩,⟨by dsimp only;omega,by dsimp only;rw [gJ];exact ai,D,a.perm (by simp)⟩,by dsimp only;omega⟩
    have N:i=aQ-k:=by omega
    subst N
    refine dj 6 j (cU:=Nat×Value×List Value×List Chunk×List Chunk) (λe=>[(6,aa f),(53,.int .i64 (e.1:Nat))])
     (λe w=>e.1<=4/\Row 48 1 e.2.1 e.1 e.2.2.1 e.2.2.2.1/\ec (jb g) e.2.2.1 (iO e.1) e.2.2.2.2/\C o [] [bg g f (⟨.slice (some ⟨d,0,none⟩) aQ aQ,e.2.1,.slice none 0 0,aa q,.slice none 0 0⟩:cg),J d U.toArray 37,y,e.2.2.2.1,e.2.2.2.2,a1,dU g] w) (λe=>4-e.1) (0,.slice none 0 0,[],[],[]) ⟨j,j,bb⟩ ⟨cp _,Row.nil _ _,j,a.perm (by simp)⟩ ?_
    rintro⟨i,s,us,E,B⟩ w ⟨M,ah,ac,a⟩;dsimp only at M ah ac a⊢;refine cy 4 j j (λaH=>?_) (λaH=>?_)
    .have a:C o [] ([bg g f (⟨.slice (some ⟨d,0,none⟩) aQ aQ,s,.slice none 0 0,aa q,.slice none 0 0⟩:cg)]++_) w:=a.front;have a:=a.drew;have bj:i<4:=by omega
     refine bx 3 j (λw=>∃ae,C o [] ([bg g f (⟨.slice (some ⟨d,0,none⟩) aQ aQ,s,.slice none 0 0,aa q,.slice none 0 0⟩:cg)]++ae) w) ⟨_,a⟩ (ag 0 4 j (a8 4 j a2 j (ag 5 3 j (a8 8 j a2 j (aX 9 j (cS j j j (uT (g:=g)) (λr w⟨bh,ap,I,aV,t⟩=>?_)))))));subst I;have a:=a.aO t;have a:C o [] ([bg g f (⟨.slice (some ⟨d,0,none⟩) aQ aQ,s,.slice none 0 0,aa q,.slice none 0 0⟩:cg)]++_) w:=a.front;refine ao ⟨⟨_,a⟩,?_⟩;refine aX 10 j (fx a j j j j j j bO (λau w a=>?_));have a7:Rd _ (some ⟨au,0,none⟩) [Value.pointer (some ⟨bh,0,none⟩)]:=bq (C.aj (b:=au) a);have a:C o [] ([bg g f (⟨.slice (some ⟨d,0,none⟩) aQ aQ,s,.slice none 0 0,aa q,.slice none 0 0⟩:cg)]++_) w:=a.front;refine ao ⟨⟨_,a⟩,?_⟩;refine aX 11 j ?_;have a:C o [] [E,bg g f (⟨.slice (some ⟨d,0,none⟩) aQ aQ,s,.slice none 0 0,aa q,.slice none 0 0⟩:cg),J d U.toArray 37,y,B,ap,a1,dU g] _:=a.as;refine e6 a ah j j (by decide) j j j (news:=[Value.pointer (some ⟨bh,0,none⟩)]) (m:=1) j a7 (λu hu=>by rw [List.mem_singleton.1 hu];rfl) (by omega) (by unfold maxLen;omega) (λak ar w ay a=>?_);have a:C o [] ([bg g f (⟨.slice (some ⟨d,0,none⟩) aQ aQ,s,.slice none 0 0,aa q,.slice none 0 0⟩:cg)]++_) w:=a.front;refine ao ⟨⟨_,a⟩,?_⟩;refine ag 12 2 j (dK 14 j (cO (a.bc f) j j j ay.one bO (λw a=>?_)));have a:C o [] (bg g f (⟨.slice (some ⟨d,0,none⟩) aQ aQ,ak,.slice none 0 0,aa q,.slice none 0 0⟩:cg)::_) w:=a;refine ao (c5 (bE 1 j j j (dn i (by omega)) (bW 1 j ?_)));have D:=ac.app (ec.one (V:=jb g) (x:=cR.new) ⟨bh,j,aV⟩);have W:iO i++[cR.new]=iO (i+1):=by unfold iO;rw [List.replicate_succ']
     rw [W] at D;have a:C o [] [bg g f (⟨.slice (some ⟨d,0,none⟩) aQ aQ,ak,.slice none 0 0,aa q,.slice none 0 0⟩:cg),J d U.toArray 37,y,ar,B,ap,a1,dU g] w:=a.as;exact⟨(i+1,ak,_,ar,_),⟨j,j,bb⟩,⟨by dsimp only;omega,ay,D,a.perm (by simp)⟩,by dsimp only;omega⟩
    have N:i=4:=by omega
    subst N
    refine dj 6 j (cU:=Nat×Value×List Value×List Chunk×List Chunk) (λe=>[(6,aa f),(70,.int .i64 (e.1:Nat))])
     (λe w=>e.1<=3/\Row 73 1 e.2.1 e.1 e.2.2.1 e.2.2.2.1/\ec lJ e.2.2.1 (jI e.1) e.2.2.2.2/\C o [] [bg g f (⟨.slice (some ⟨d,0,none⟩) aQ aQ,s,e.2.1,aa q,.slice none 0 0⟩:cg),J d U.toArray 37,y,E,B,e.2.2.2.1,e.2.2.2.2,a1,dU g] w) (λe=>3-e.1) (0,.slice none 0 0,[],[],[]) ⟨j,j,bb⟩ ⟨cp _,Row.nil _ _,j,a.perm (by simp)⟩ ?_
    rintro⟨i,z,bd,eU,L⟩ w ⟨M,af,Y,a⟩;dsimp only at M af Y a⊢;refine cy 4 j j (λaI=>?_) (λaI=>?_)
    .have a:C o [] ([bg g f (⟨.slice (some ⟨d,0,none⟩) aQ aQ,s,z,aa q,.slice none 0 0⟩:cg)]++_) w:=a.front;have a:=a.drew;have bi:i<3:=by omega
     have aL:evalBin .add .i64 97 (i:Int)=some (.int .i64 ((97+i:Nat):Int)):=by rcases(show i=0\/i=1\/i=2 by omega) with rfl|rfl|rfl<;>rfl
     have aJ:IntKind.i32.wrap ((97+i:Nat):Int)=((97+i:Nat):Int):=by rcases(show i=0\/i=1\/i=2 by omega) with rfl|rfl|rfl<;>rfl
     have aN:Utf8.encode ((97+i:Nat):Int)=cQ (j9 i):=by rcases(show i=0\/i=1\/i=2 by omega) with rfl|rfl|rfl<;>rfl
     refine bx 7 j (λw=>∃ae,C o [] ([bg g f (⟨.slice (some ⟨d,0,none⟩) aQ aQ,s,z,aa q,.slice none 0 0⟩:cg)]++ae) w) ⟨_,a⟩ (ag 0 4 j (a8 4 j a2 j (ag 5 2 j (bl 7 j (λw _=>fr j j aL) (bl 8 j (λw _=>mq j aJ) (bl 9 j (λw _=>sV j aN) (aX 10 j (cS j j j (uU (n:=(i:Int)) (x:=j9 i)) (λr w⟨aA,GE,I,aW,t⟩=>?_)))))))));subst I;have a:=a.aO t;have a:C o [] ([bg g f (⟨.slice (some ⟨d,0,none⟩) aQ aQ,s,z,aa q,.slice none 0 0⟩:cg)]++_) w:=a.front;refine ao ⟨⟨_,a⟩,?_⟩;refine bl 11 j (λw _=>eX (c:= #[aa aA,ab (-1)]) j (λ_=>by kernel_rfl)) (aX 12 j (ld a j j j (λF w a=>?_)));have a:C o [] (db F aA (-1)::_) w:=a;have a:C o [] ([bg g f (⟨.slice (some ⟨d,0,none⟩) aQ aQ,s,z,aa q,.slice none 0 0⟩:cg)]++_) w:=a.front;refine ao ⟨⟨_,a⟩,?_⟩;refine aX 13 j (fx a j j j j j j bO (λav w a=>?_));have a9:Rd _ (some ⟨av,0,none⟩) [Value.pointer (some ⟨F,0,none⟩)]:=bq (C.aj (b:=av) a);have a:C o [] ([bg g f (⟨.slice (some ⟨d,0,none⟩) aQ aQ,s,z,aa q,.slice none 0 0⟩:cg)]++_) w:=a.front;refine ao ⟨⟨_,a⟩,?_⟩;refine aX 14 j ?_;have a:C o [] [eU,bg g f (⟨.slice (some ⟨d,0,none⟩) aQ aQ,s,z,aa q,.slice none 0 0⟩:cg),J d U.toArray 37,y,E,B,L,db F aA (-1),GE,a1,dU g] _:=a.as;refine e6 a af j j (by decide) j j j (news:=[Value.pointer (some ⟨F,0,none⟩)]) (m:=1) j a9 (λu hu=>by rw [List.mem_singleton.1 hu];rfl) (by omega) (by unfold maxLen;omega) (λP T w ax a=>?_);have a:C o [] ([bg g f (⟨.slice (some ⟨d,0,none⟩) aQ aQ,s,z,aa q,.slice none 0 0⟩:cg)]++_) w:=a.front;refine ao ⟨⟨_,a⟩,?_⟩;refine ag 15 2 j (dK 17 j (cO (a.bc f) j j j ax.one bO (λw a=>?_)));have a:C o [] (bg g f (⟨.slice (some ⟨d,0,none⟩) aQ aQ,s,P,aa q,.slice none 0 0⟩:cg)::_) w:=a;refine ao (c5 (bE 1 j j j (dn i (by omega)) (bW 1 j ?_)));have D:=Y.app (ec.one (V:=lJ) (x:=(bw.new (i:Int) (j9 i),(-1:Int))) ⟨F,aA,GE,j,aW,j⟩);have W:jI i++[(bw.new (i:Int) (j9 i),(-1:Int))]=jI (i+1):=by unfold jI;rw [List.range_succ,List.map_append];rfl
     rw [W] at D;have a:C o [] [bg g f (⟨.slice (some ⟨d,0,none⟩) aQ aQ,s,P,aa q,.slice none 0 0⟩:cg),J d U.toArray 37,y,E,B,T,L,db F aA (-1),GE,a1,dU g] w:=a.as;exact⟨(i+1,P,_,T,_),⟨j,j,bb⟩,⟨by dsimp only;omega,ax,D,C.perm (A:=[bg g f (⟨.slice (some ⟨d,0,none⟩) aQ aQ,s,P,aa q,.slice none 0 0⟩:cg),J d U.toArray 37,y,E,B,T,L,db F aA (-1),GE,a1,dU g]) a (by simp)⟩,by dsimp only;omega⟩
    refine an 6 j j ?_;have N:i=3:=by omega
    subst N;have a0:Row 37 1 (.slice (some ⟨d,0,none⟩) aQ aQ) aQ U (J d U.toArray 37):=Row.full (by unfold maxLen;omega) (by rw [List.size_toArray,ai,Nat.mul_one]);exact⟨f,g,_,j,a5,a4,⟨(⟨.slice (some ⟨d,0,none⟩) aQ aQ,s,z,aa q,.slice none 0 0⟩:cg),J d U.toArray 37++y,E++B,eU++L,a1,[],⟨⟨_,_,U,j,by show Row 37 1 _ (hi aQ (aQ-k)).length U _;rw [kx (by omega)];exact a0,X⟩,⟨_,_,us,j,ah,ac⟩,⟨_,_,bd,j,af,Y⟩,am,cC.nil⟩,j⟩,C.perm (A:=[dU g,bg g f (⟨.slice (some ⟨d,0,none⟩) aQ aQ,s,z,aa q,.slice none 0 0⟩:cg),J d U.toArray 37,y,E,B,eU,L,a1]) a.as (by simp)⟩
  refine nJ (l:=aQ) (c:=aQ) a j j j j (by omega) (by omega) (by unfold maxLen;omega) (λd bN w be Q a=>?_);rotate_left
  refine nJ (l:=aQ) (c:=aQ) a j j j j (by omega) (by omega) (by unfold maxLen;omega) (λd bN w be Q a=>ao ⟨bb,?_⟩);refine aX 2 j ?_;have aC:Rd _ (some ⟨aB,0,none⟩) (aP [1]):=bq (C.aj (b:=aB) a);refine bK j j j (oB (p:=[1]) aC (by decide) (by decide)) (λw t=>?_);have a:=a.aO t;rotate_left
  all_goals
   refine ao ⟨bb,?_⟩;refine aX 3 j (cS j j j (uW (n:=aQ) (e3:=ca [1]) (by omega) (fm _)) (λr w⟨g,I,a5,a4,t⟩=>?_));subst I;have a:=a.aO t;refine ao ⟨bb,?_⟩;refine aX 6 j (cS j j j r0 (λr w⟨a1,am,t⟩=>?_));obtain⟨q,aD⟩:∃q,r=aa q:=by obtain⟨b,v,H,h,_⟩:=am;exact⟨b,h⟩
   subst aD;have a:=a.aO t;refine ao ⟨bb,?_⟩;refine bl 7 j (λw _=>eX (c:=(lH g (⟨.slice (some ⟨d,0,none⟩) aQ aQ,.slice none 0 0,.slice none 0 0,aa q,.slice none 0 0⟩:cg)).toArray) j (λ_=>by kernel_rfl)) (aX 8 j (ld a j j j (λf w a=>?_)));have a:C o [] (bg g f (⟨.slice (some ⟨d,0,none⟩) aQ aQ,.slice none 0 0,.slice none 0 0,aa q,.slice none 0 0⟩:cg)::_) w:=a;have Q:bN=(List.replicate aQ (Value.pointer none)).toArray:=Q.trans (by rcases aT with rfl|rfl<;>kernel_rfl);subst Q;have a:C o [] [bg g f (⟨.slice (some ⟨d,0,none⟩) aQ aQ,.slice none 0 0,.slice none 0 0,aa q,.slice none 0 0⟩:cg),J d (List.replicate aQ (Value.pointer none)).toArray 37,a1,dU g] w:=a.as;refine ao ⟨bb,?_⟩;refine ag 9 1 j (bL (bE 5 j j j (iH aQ k (by omega) (by omega)) ?_))
   refine dj 2 j (cU:=Nat×List Value×List Chunk) (λe=>[(6,aa f),(36,.int .i64 (aQ-k:Nat)),(37,.int .i64 (e.1:Nat))])
    (λe w=>e.1<=aQ-k/\e.2.1.length=aQ/\ec (hL g) e.2.1 (hi aQ e.1) e.2.2/\C o [] [bg g f (⟨.slice (some ⟨d,0,none⟩) aQ aQ,.slice none 0 0,.slice none 0 0,aa q,.slice none 0 0⟩:cg),J d e.2.1.toArray 37,e.2.2,a1,dU g] w) (λe=>aQ-k-e.1) (0,List.replicate aQ (.pointer none),[]) ⟨j,j,j,bb⟩ ⟨cp _,nY,ec.rep (V:=hL g) (x:=none) ⟨j,j⟩ aQ,C.perm (A:=[bg g f (⟨.slice (some ⟨d,0,none⟩) aQ aQ,.slice none 0 0,.slice none 0 0,aa q,.slice none 0 0⟩:cg),J d (List.replicate aQ (Value.pointer none)).toArray 37,a1,dU g]) a (by simp)⟩ ?_
   rintro⟨i,U,y⟩ w ⟨M,ai,X,a⟩;dsimp only at M ai X a⊢;refine cy 4 j j (λaG=>?_) (λaG=>?_)
   .have a:C o [] ([bg g f (⟨.slice (some ⟨d,0,none⟩) aQ aQ,.slice none 0 0,.slice none 0 0,aa q,.slice none 0 0⟩:cg)]++_) w:=a.front;have a:=a.drew;have bk:i<aQ-k:=by omega
    obtain⟨H1,aE,S,aY,az,ba⟩:=X.put i (by rw [kx (by omega)];omega);refine bx 7 j (λw=>∃ae,C o [] ([bg g f (⟨.slice (some ⟨d,0,none⟩) aQ aQ,.slice none 0 0,.slice none 0 0,aa q,.slice none 0 0⟩:cg)]++ae) w) ⟨_,a⟩ (ag 0 3 j (a8 3 j a2 j (ag 4 4 j (a8 8 j a2 j (ag 9 1 j (aX 10 j (cS j j j (uX (g:=g) (aw:=(i:Int))) (λr w⟨K,O,I,a3,t⟩=>?_))))))));subst I;have a:=a.aO t;have a:C o [] ([bg g f (⟨.slice (some ⟨d,0,none⟩) aQ aQ,.slice none 0 0,.slice none 0 0,aa q,.slice none 0 0⟩:cg)]++_) w:=a.front;refine ao ⟨⟨_,a⟩,?_⟩;refine bl 11 j (λw _=>g4 (R:=i) j j (by omega)) (dK 12 j (cO (a.bc d) j j j j (by rw [hl];omega) (λw a=>?_)));have a:C o [] (J d (U.toArray.setIfInBounds (0+i*1) (aa K)) 37::_) w:=a;rw [tm,fe,gK] at a;refine ao (c5 (bE 1 j j j (dn i (by omega)) (bW 1 j ?_)));have D:=ba (aa K) (some (bm.new (i:Int))) O ⟨K,j,a3⟩;rw [vm (by omega)] at D
    have aZ:aE=[]:=by
     have aR:(hi aQ i)[i]'(by rw [kx (by omega)];omega)=none:=by
      unfold hi;rw [tn (by simp)];simp
     rw [aR] at az;exact az.2
    subst aY;subst aZ;have a:C o [] [bg g f (⟨.slice (some ⟨d,0,none⟩) aQ aQ,.slice none 0 0,.slice none 0 0,aa q,.slice none 0 0⟩:cg),J d (U.set i (aa K)).toArray 37,H1,S,O,a1,dU g] w:=C.perm (A:=[bg g f (⟨.slice (some ⟨d,0,none⟩) aQ aQ,.slice none 0 0,.slice none 0 0,aa q,.slice none 0 0⟩:cg),J d (U.set i (aa K)).toArray 37,H1++([]++S),O,a1,dU g]) a.as (by simp);have a:C o [] [bg g f (⟨.slice (some ⟨d,0,none⟩) aQ aQ,.slice none 0 0,.slice none 0 0,aa q,.slice none 0 0⟩:cg),J d (U.set i (aa K)).toArray 37,H1,O,S,a1,dU g] w:=a.as;exact⟨(i+1,_,_),⟨j,j,j,bb⟩,⟨by dsimp only;omega,by dsimp only;rw [gJ];exact ai,D,a.perm (by simp)⟩,by dsimp only;omega⟩
   have N:i=aQ-k:=by omega
   subst N
   refine dj 6 j (cU:=Nat×Value×List Value×List Chunk×List Chunk) (λe=>[(6,aa f),(53,.int .i64 (e.1:Nat))])
    (λe w=>e.1<=4/\Row 48 1 e.2.1 e.1 e.2.2.1 e.2.2.2.1/\ec (jb g) e.2.2.1 (iO e.1) e.2.2.2.2/\C o [] [bg g f (⟨.slice (some ⟨d,0,none⟩) aQ aQ,e.2.1,.slice none 0 0,aa q,.slice none 0 0⟩:cg),J d U.toArray 37,y,e.2.2.2.1,e.2.2.2.2,a1,dU g] w) (λe=>4-e.1) (0,.slice none 0 0,[],[],[]) ⟨j,j,bb⟩ ⟨cp _,Row.nil _ _,j,a.perm (by simp)⟩ ?_
   rintro⟨i,s,us,E,B⟩ w ⟨M,ah,ac,a⟩;dsimp only at M ah ac a⊢;refine cy 4 j j (λaH=>?_) (λaH=>?_)
   .have a:C o [] ([bg g f (⟨.slice (some ⟨d,0,none⟩) aQ aQ,s,.slice none 0 0,aa q,.slice none 0 0⟩:cg)]++_) w:=a.front;have a:=a.drew;have bj:i<4:=by omega
    refine bx 3 j (λw=>∃ae,C o [] ([bg g f (⟨.slice (some ⟨d,0,none⟩) aQ aQ,s,.slice none 0 0,aa q,.slice none 0 0⟩:cg)]++ae) w) ⟨_,a⟩ (ag 0 4 j (a8 4 j a2 j (ag 5 3 j (a8 8 j a2 j (aX 9 j (cS j j j (uT (g:=g)) (λr w⟨bh,ap,I,aV,t⟩=>?_)))))));subst I;have a:=a.aO t;have a:C o [] ([bg g f (⟨.slice (some ⟨d,0,none⟩) aQ aQ,s,.slice none 0 0,aa q,.slice none 0 0⟩:cg)]++_) w:=a.front;refine ao ⟨⟨_,a⟩,?_⟩;refine aX 10 j (fx a j j j j j j bO (λau w a=>?_));have a7:Rd _ (some ⟨au,0,none⟩) [Value.pointer (some ⟨bh,0,none⟩)]:=bq (C.aj (b:=au) a);have a:C o [] ([bg g f (⟨.slice (some ⟨d,0,none⟩) aQ aQ,s,.slice none 0 0,aa q,.slice none 0 0⟩:cg)]++_) w:=a.front;refine ao ⟨⟨_,a⟩,?_⟩;refine aX 11 j ?_;have a:C o [] [E,bg g f (⟨.slice (some ⟨d,0,none⟩) aQ aQ,s,.slice none 0 0,aa q,.slice none 0 0⟩:cg),J d U.toArray 37,y,B,ap,a1,dU g] _:=a.as;refine e6 a ah j j (by decide) j j j (news:=[Value.pointer (some ⟨bh,0,none⟩)]) (m:=1) j a7 (λu hu=>by rw [List.mem_singleton.1 hu];rfl) (by omega) (by unfold maxLen;omega) (λak ar w ay a=>?_);have a:C o [] ([bg g f (⟨.slice (some ⟨d,0,none⟩) aQ aQ,s,.slice none 0 0,aa q,.slice none 0 0⟩:cg)]++_) w:=a.front;refine ao ⟨⟨_,a⟩,?_⟩;refine ag 12 2 j (dK 14 j (cO (a.bc f) j j j ay.one bO (λw a=>?_)));have a:C o [] (bg g f (⟨.slice (some ⟨d,0,none⟩) aQ aQ,ak,.slice none 0 0,aa q,.slice none 0 0⟩:cg)::_) w:=a;refine ao (c5 (bE 1 j j j (dn i (by omega)) (bW 1 j ?_)));have D:=ac.app (ec.one (V:=jb g) (x:=cR.new) ⟨bh,j,aV⟩);have W:iO i++[cR.new]=iO (i+1):=by unfold iO;rw [List.replicate_succ']
    rw [W] at D;have a:C o [] [bg g f (⟨.slice (some ⟨d,0,none⟩) aQ aQ,ak,.slice none 0 0,aa q,.slice none 0 0⟩:cg),J d U.toArray 37,y,ar,B,ap,a1,dU g] w:=a.as;exact⟨(i+1,ak,_,ar,_),⟨j,j,bb⟩,⟨by dsimp only;omega,ay,D,a.perm (by simp)⟩,by dsimp only;omega⟩
   have N:i=4:=by omega
   subst N
   refine dj 6 j (cU:=Nat×Value×List Value×List Chunk×List Chunk) (λe=>[(6,aa f),(70,.int .i64 (e.1:Nat))])
    (λe w=>e.1<=3/\Row 73 1 e.2.1 e.1 e.2.2.1 e.2.2.2.1/\ec lJ e.2.2.1 (jI e.1) e.2.2.2.2/\C o [] [bg g f (⟨.slice (some ⟨d,0,none⟩) aQ aQ,s,e.2.1,aa q,.slice none 0 0⟩:cg),J d U.toArray 37,y,E,B,e.2.2.2.1,e.2.2.2.2,a1,dU g] w) (λe=>3-e.1) (0,.slice none 0 0,[],[],[]) ⟨j,j,bb⟩ ⟨cp _,Row.nil _ _,j,a.perm (by simp)⟩ ?_
   rintro⟨i,z,bd,eU,L⟩ w ⟨M,af,Y,a⟩;dsimp only at M af Y a⊢;refine cy 4 j j (λaI=>?_) (λaI=>?_)
   .have a:C o [] ([bg g f (⟨.slice (some ⟨d,0,none⟩) aQ aQ,s,z,aa q,.slice none 0 0⟩:cg)]++_) w:=a.front;have a:=a.drew;have bi:i<3:=by omega
    have aL:evalBin .add .i64 97 (i:Int)=some (.int .i64 ((97+i:Nat):Int)):=by rcases(show i=0\/i=1\/i=2 by omega) with rfl|rfl|rfl<;>rfl
    have aJ:IntKind.i32.wrap ((97+i:Nat):Int)=((97+i:Nat):Int):=by rcases(show i=0\/i=1\/i=2 by omega) with rfl|rfl|rfl<;>rfl
    have aN:Utf8.encode ((97+i:Nat):Int)=cQ (j9 i):=by rcases(show i=0\/i=1\/i=2 by omega) with rfl|rfl|rfl<;>rfl
    refine bx 7 j (λw=>∃ae,C o [] ([bg g f (⟨.slice (some ⟨d,0,none⟩) aQ aQ,s,z,aa q,.slice none 0 0⟩:cg)]++ae) w) ⟨_,a⟩ (ag 0 4 j (a8 4 j a2 j (ag 5 2 j (bl 7 j (λw _=>fr j j aL) (bl 8 j (λw _=>mq j aJ) (bl 9 j (λw _=>sV j aN) (aX 10 j (cS j j j (uU (n:=(i:Int)) (x:=j9 i)) (λr w⟨aA,GE,I,aW,t⟩=>?_)))))))));subst I;have a:=a.aO t;have a:C o [] ([bg g f (⟨.slice (some ⟨d,0,none⟩) aQ aQ,s,z,aa q,.slice none 0 0⟩:cg)]++_) w:=a.front;refine ao ⟨⟨_,a⟩,?_⟩;refine bl 11 j (λw _=>eX (c:= #[aa aA,ab (-1)]) j (λ_=>by kernel_rfl)) (aX 12 j (ld a j j j (λF w a=>?_)));have a:C o [] (db F aA (-1)::_) w:=a;have a:C o [] ([bg g f (⟨.slice (some ⟨d,0,none⟩) aQ aQ,s,z,aa q,.slice none 0 0⟩:cg)]++_) w:=a.front;refine ao ⟨⟨_,a⟩,?_⟩;refine aX 13 j (fx a j j j j j j bO (λav w a=>?_));have a9:Rd _ (some ⟨av,0,none⟩) [Value.pointer (some ⟨F,0,none⟩)]:=bq (C.aj (b:=av) a);have a:C o [] ([bg g f (⟨.slice (some ⟨d,0,none⟩) aQ aQ,s,z,aa q,.slice none 0 0⟩:cg)]++_) w:=a.front;refine ao ⟨⟨_,a⟩,?_⟩;refine aX 14 j ?_;have a:C o [] [eU,bg g f (⟨.slice (some ⟨d,0,none⟩) aQ aQ,s,z,aa q,.slice none 0 0⟩:cg),J d U.toArray 37,y,E,B,L,db F aA (-1),GE,a1,dU g] _:=a.as;refine e6 a af j j (by decide) j j j (news:=[Value.pointer (some ⟨F,0,none⟩)]) (m:=1) j a9 (λu hu=>by rw [List.mem_singleton.1 hu];rfl) (by omega) (by unfold maxLen;omega) (λP T w ax a=>?_);have a:C o [] ([bg g f (⟨.slice (some ⟨d,0,none⟩) aQ aQ,s,z,aa q,.slice none 0 0⟩:cg)]++_) w:=a.front;refine ao ⟨⟨_,a⟩,?_⟩;refine ag 15 2 j (dK 17 j (cO (a.bc f) j j j ax.one bO (λw a=>?_)));have a:C o [] (bg g f (⟨.slice (some ⟨d,0,none⟩) aQ aQ,s,P,aa q,.slice none 0 0⟩:cg)::_) w:=a;refine ao (c5 (bE 1 j j j (dn i (by omega)) (bW 1 j ?_)));have D:=Y.app (ec.one (V:=lJ) (x:=(bw.new (i:Int) (j9 i),(-1:Int))) ⟨F,aA,GE,j,aW,j⟩);have W:jI i++[(bw.new (i:Int) (j9 i),(-1:Int))]=jI (i+1):=by unfold jI;rw [List.range_succ,List.map_append];rfl
    rw [W] at D;have a:C o [] [bg g f (⟨.slice (some ⟨d,0,none⟩) aQ aQ,s,P,aa q,.slice none 0 0⟩:cg),J d U.toArray 37,y,E,B,T,L,db F aA (-1),GE,a1,dU g] w:=a.as;exact⟨(i+1,P,_,T,_),⟨j,j,bb⟩,⟨by dsimp only;omega,ax,D,C.perm (A:=[bg g f (⟨.slice (some ⟨d,0,none⟩) aQ aQ,s,P,aa q,.slice none 0 0⟩:cg),J d U.toArray 37,y,E,B,T,L,db F aA (-1),GE,a1,dU g]) a (by simp)⟩,by dsimp only;omega⟩
   refine an 6 j j ?_;have N:i=3:=by omega
   subst N;have a0:Row 37 1 (.slice (some ⟨d,0,none⟩) aQ aQ) aQ U (J d U.toArray 37):=Row.full (by unfold maxLen;omega) (by rw [List.size_toArray,ai,Nat.mul_one]);exact⟨f,g,_,j,a5,a4,⟨(⟨.slice (some ⟨d,0,none⟩) aQ aQ,s,z,aa q,.slice none 0 0⟩:cg),J d U.toArray 37++y,E++B,eU++L,a1,[],⟨⟨_,_,U,j,by show Row 37 1 _ (hi aQ (aQ-k)).length U _;rw [kx (by omega)];exact a0,X⟩,⟨_,_,us,j,ah,ac⟩,⟨_,_,bd,j,af,Y⟩,am,cC.nil⟩,j⟩,C.perm (A:=[dU g,bg g f (⟨.slice (some ⟨d,0,none⟩) aQ aQ,s,z,aa q,.slice none 0 0⟩:cg),J d U.toArray 37,y,E,B,eU,L,a1]) a.as (by simp)⟩
 refine nJ (l:=aQ) (c:=aQ) a j j j j (by omega) (by omega) (by unfold maxLen;omega) (λd bN w be Q a=>ao ⟨bb,?_⟩);refine aX 1 j (fx a j j j j j j bO (λaB w a=>?_));have aC:=a.bQ;refine ao ⟨bb,?_⟩;refine aX 2 j ?_;have aC:Rd _ (some ⟨aB,0,none⟩) (aP [1]):=bq (C.aj (b:=aB) a);refine bK j j j (oB (p:=[1]) aC (by decide) (by decide)) (λw t=>?_);have a:=a.aO t;refine ao ⟨bb,?_⟩;refine aX 3 j (cS j j j (uW (n:=aQ) (e3:=ca [1]) (by omega) (fm _)) (λr w⟨g,I,a5,a4,t⟩=>?_));subst I;have a:=a.aO t;refine ao ⟨bb,?_⟩;refine aX 6 j (cS j j j r0 (λr w⟨a1,am,t⟩=>?_));obtain⟨q,aD⟩:∃q,r=aa q:=by obtain⟨b,v,H,h,_⟩:=am;exact⟨b,h⟩
 subst aD;have a:=a.aO t;refine ao ⟨bb,?_⟩;refine bl 7 j (λw _=>eX (c:=(lH g (⟨.slice (some ⟨d,0,none⟩) aQ aQ,.slice none 0 0,.slice none 0 0,aa q,.slice none 0 0⟩:cg)).toArray) j (λ_=>by kernel_rfl)) (aX 8 j (ld a j j j (λf w a=>?_)));have a:C o [] (bg g f (⟨.slice (some ⟨d,0,none⟩) aQ aQ,.slice none 0 0,.slice none 0 0,aa q,.slice none 0 0⟩:cg)::_) w:=a;have Q:bN=(List.replicate aQ (Value.pointer none)).toArray:=Q.trans (by rcases aT with rfl|rfl<;>kernel_rfl);subst Q;have a:C o [] [bg g f (⟨.slice (some ⟨d,0,none⟩) aQ aQ,.slice none 0 0,.slice none 0 0,aa q,.slice none 0 0⟩:cg),J d (List.replicate aQ (Value.pointer none)).toArray 37,a1,dU g] w:=a.as;refine ao ⟨bb,?_⟩;refine ag 9 1 j (bL (bE 5 j j j (iH aQ k (by omega) (by omega)) ?_))
 refine dj 2 j (cU:=Nat×List Value×List Chunk) (λe=>[(6,aa f),(36,.int .i64 (aQ-k:Nat)),(37,.int .i64 (e.1:Nat))])
  (λe w=>e.1<=aQ-k/\e.2.1.length=aQ/\ec (hL g) e.2.1 (hi aQ e.1) e.2.2/\C o [] [bg g f (⟨.slice (some ⟨d,0,none⟩) aQ aQ,.slice none 0 0,.slice none 0 0,aa q,.slice none 0 0⟩:cg),J d e.2.1.toArray 37,e.2.2,a1,dU g] w) (λe=>aQ-k-e.1) (0,List.replicate aQ (.pointer none),[]) ⟨j,j,j,bb⟩ ⟨cp _,nY,ec.rep (V:=hL g) (x:=none) ⟨j,j⟩ aQ,C.perm (A:=[bg g f (⟨.slice (some ⟨d,0,none⟩) aQ aQ,.slice none 0 0,.slice none 0 0,aa q,.slice none 0 0⟩:cg),J d (List.replicate aQ (Value.pointer none)).toArray 37,a1,dU g]) a (by simp)⟩ ?_
 rintro⟨i,U,y⟩ w ⟨M,ai,X,a⟩;dsimp only at M ai X a⊢;refine cy 4 j j (λaG=>?_) (λaG=>?_)
 .have a:C o [] ([bg g f (⟨.slice (some ⟨d,0,none⟩) aQ aQ,.slice none 0 0,.slice none 0 0,aa q,.slice none 0 0⟩:cg)]++_) w:=a.front;have a:=a.drew;have bk:i<aQ-k:=by omega
  obtain⟨H1,aE,S,aY,az,ba⟩:=X.put i (by rw [kx (by omega)];omega);refine bx 7 j (λw=>∃ae,C o [] ([bg g f (⟨.slice (some ⟨d,0,none⟩) aQ aQ,.slice none 0 0,.slice none 0 0,aa q,.slice none 0 0⟩:cg)]++ae) w) ⟨_,a⟩ (ag 0 3 j (a8 3 j a2 j (ag 4 4 j (a8 8 j a2 j (ag 9 1 j (aX 10 j (cS j j j (uX (g:=g) (aw:=(i:Int))) (λr w⟨K,O,I,a3,t⟩=>?_))))))));subst I;have a:=a.aO t;have a:C o [] ([bg g f (⟨.slice (some ⟨d,0,none⟩) aQ aQ,.slice none 0 0,.slice none 0 0,aa q,.slice none 0 0⟩:cg)]++_) w:=a.front;refine ao ⟨⟨_,a⟩,?_⟩;refine bl 11 j (λw _=>g4 (R:=i) j j (by omega)) (dK 12 j (cO (a.bc d) j j j j (by rw [hl];omega) (λw a=>?_)));have a:C o [] (J d (U.toArray.setIfInBounds (0+i*1) (aa K)) 37::_) w:=a;rw [tm,fe,gK] at a;refine ao (c5 (bE 1 j j j (dn i (by omega)) (bW 1 j ?_)));have D:=ba (aa K) (some (bm.new (i:Int))) O ⟨K,j,a3⟩;rw [vm (by omega)] at D
  have aZ:aE=[]:=by
   have aR:(hi aQ i)[i]'(by rw [kx (by omega)];omega)=none:=by
    unfold hi;rw [tn (by simp)];simp
   rw [aR] at az;exact az.2
  subst aY;subst aZ;have a:C o [] [bg g f (⟨.slice (some ⟨d,0,none⟩) aQ aQ,.slice none 0 0,.slice none 0 0,aa q,.slice none 0 0⟩:cg),J d (U.set i (aa K)).toArray 37,H1,S,O,a1,dU g] w:=C.perm (A:=[bg g f (⟨.slice (some ⟨d,0,none⟩) aQ aQ,.slice none 0 0,.slice none 0 0,aa q,.slice none 0 0⟩:cg),J d (U.set i (aa K)).toArray 37,H1++([]++S),O,a1,dU g]) a.as (by simp);have a:C o [] [bg g f (⟨.slice (some ⟨d,0,none⟩) aQ aQ,.slice none 0 0,.slice none 0 0,aa q,.slice none 0 0⟩:cg),J d (U.set i (aa K)).toArray 37,H1,O,S,a1,dU g] w:=a.as;exact⟨(i+1,_,_),⟨j,j,j,bb⟩,⟨by dsimp only;omega,by dsimp only;rw [gJ];exact ai,D,a.perm (by simp)⟩,by dsimp only;omega⟩
 have N:i=aQ-k:=by omega
 subst N
 refine dj 6 j (cU:=Nat×Value×List Value×List Chunk×List Chunk) (λe=>[(6,aa f),(53,.int .i64 (e.1:Nat))])
  (λe w=>e.1<=4/\Row 48 1 e.2.1 e.1 e.2.2.1 e.2.2.2.1/\ec (jb g) e.2.2.1 (iO e.1) e.2.2.2.2/\C o [] [bg g f (⟨.slice (some ⟨d,0,none⟩) aQ aQ,e.2.1,.slice none 0 0,aa q,.slice none 0 0⟩:cg),J d U.toArray 37,y,e.2.2.2.1,e.2.2.2.2,a1,dU g] w) (λe=>4-e.1) (0,.slice none 0 0,[],[],[]) ⟨j,j,bb⟩ ⟨cp _,Row.nil _ _,j,a.perm (by simp)⟩ ?_
 rintro⟨i,s,us,E,B⟩ w ⟨M,ah,ac,a⟩;dsimp only at M ah ac a⊢;refine cy 4 j j (λaH=>?_) (λaH=>?_)
 .have a:C o [] ([bg g f (⟨.slice (some ⟨d,0,none⟩) aQ aQ,s,.slice none 0 0,aa q,.slice none 0 0⟩:cg)]++_) w:=a.front;have a:=a.drew;have bj:i<4:=by omega
  refine bx 3 j (λw=>∃ae,C o [] ([bg g f (⟨.slice (some ⟨d,0,none⟩) aQ aQ,s,.slice none 0 0,aa q,.slice none 0 0⟩:cg)]++ae) w) ⟨_,a⟩ (ag 0 4 j (a8 4 j a2 j (ag 5 3 j (a8 8 j a2 j (aX 9 j (cS j j j (uT (g:=g)) (λr w⟨bh,ap,I,aV,t⟩=>?_)))))));subst I;have a:=a.aO t;have a:C o [] ([bg g f (⟨.slice (some ⟨d,0,none⟩) aQ aQ,s,.slice none 0 0,aa q,.slice none 0 0⟩:cg)]++_) w:=a.front;refine ao ⟨⟨_,a⟩,?_⟩;refine aX 10 j (fx a j j j j j j bO (λau w a=>?_));have a7:Rd _ (some ⟨au,0,none⟩) [Value.pointer (some ⟨bh,0,none⟩)]:=bq (C.aj (b:=au) a);have a:C o [] ([bg g f (⟨.slice (some ⟨d,0,none⟩) aQ aQ,s,.slice none 0 0,aa q,.slice none 0 0⟩:cg)]++_) w:=a.front;refine ao ⟨⟨_,a⟩,?_⟩;refine aX 11 j ?_;have a:C o [] [E,bg g f (⟨.slice (some ⟨d,0,none⟩) aQ aQ,s,.slice none 0 0,aa q,.slice none 0 0⟩:cg),J d U.toArray 37,y,B,ap,a1,dU g] _:=a.as;refine e6 a ah j j (by decide) j j j (news:=[Value.pointer (some ⟨bh,0,none⟩)]) (m:=1) j a7 (λu hu=>by rw [List.mem_singleton.1 hu];rfl) (by omega) (by unfold maxLen;omega) (λak ar w ay a=>?_);have a:C o [] ([bg g f (⟨.slice (some ⟨d,0,none⟩) aQ aQ,s,.slice none 0 0,aa q,.slice none 0 0⟩:cg)]++_) w:=a.front;refine ao ⟨⟨_,a⟩,?_⟩;refine ag 12 2 j (dK 14 j (cO (a.bc f) j j j ay.one bO (λw a=>?_)));have a:C o [] (bg g f (⟨.slice (some ⟨d,0,none⟩) aQ aQ,ak,.slice none 0 0,aa q,.slice none 0 0⟩:cg)::_) w:=a;refine ao (c5 (bE 1 j j j (dn i (by omega)) (bW 1 j ?_)));have D:=ac.app (ec.one (V:=jb g) (x:=cR.new) ⟨bh,j,aV⟩);have W:iO i++[cR.new]=iO (i+1):=by unfold iO;rw [List.replicate_succ']
  rw [W] at D;have a:C o [] [bg g f (⟨.slice (some ⟨d,0,none⟩) aQ aQ,ak,.slice none 0 0,aa q,.slice none 0 0⟩:cg),J d U.toArray 37,y,ar,B,ap,a1,dU g] w:=a.as;exact⟨(i+1,ak,_,ar,_),⟨j,j,bb⟩,⟨by dsimp only;omega,ay,D,a.perm (by simp)⟩,by dsimp only;omega⟩
 have N:i=4:=by omega
 subst N
 refine dj 6 j (cU:=Nat×Value×List Value×List Chunk×List Chunk) (λe=>[(6,aa f),(70,.int .i64 (e.1:Nat))])
  (λe w=>e.1<=3/\Row 73 1 e.2.1 e.1 e.2.2.1 e.2.2.2.1/\ec lJ e.2.2.1 (jI e.1) e.2.2.2.2/\C o [] [bg g f (⟨.slice (some ⟨d,0,none⟩) aQ aQ,s,e.2.1,aa q,.slice none 0 0⟩:cg),J d U.toArray 37,y,E,B,e.2.2.2.1,e.2.2.2.2,a1,dU g] w) (λe=>3-e.1) (0,.slice none 0 0,[],[],[]) ⟨j,j,bb⟩ ⟨cp _,Row.nil _ _,j,a.perm (by simp)⟩ ?_
 rintro⟨i,z,bd,eU,L⟩ w ⟨M,af,Y,a⟩;dsimp only at M af Y a⊢;refine cy 4 j j (λaI=>?_) (λaI=>?_)
 .have a:C o [] ([bg g f (⟨.slice (some ⟨d,0,none⟩) aQ aQ,s,z,aa q,.slice none 0 0⟩:cg)]++_) w:=a.front;have a:=a.drew;have bi:i<3:=by omega
  have aL:evalBin .add .i64 97 (i:Int)=some (.int .i64 ((97+i:Nat):Int)):=by rcases(show i=0\/i=1\/i=2 by omega) with rfl|rfl|rfl<;>rfl
  have aJ:IntKind.i32.wrap ((97+i:Nat):Int)=((97+i:Nat):Int):=by rcases(show i=0\/i=1\/i=2 by omega) with rfl|rfl|rfl<;>rfl
  have aN:Utf8.encode ((97+i:Nat):Int)=cQ (j9 i):=by rcases(show i=0\/i=1\/i=2 by omega) with rfl|rfl|rfl<;>rfl
  refine bx 7 j (λw=>∃ae,C o [] ([bg g f (⟨.slice (some ⟨d,0,none⟩) aQ aQ,s,z,aa q,.slice none 0 0⟩:cg)]++ae) w) ⟨_,a⟩ (ag 0 4 j (a8 4 j a2 j (ag 5 2 j (bl 7 j (λw _=>fr j j aL) (bl 8 j (λw _=>mq j aJ) (bl 9 j (λw _=>sV j aN) (aX 10 j (cS j j j (uU (n:=(i:Int)) (x:=j9 i)) (λr w⟨aA,GE,I,aW,t⟩=>?_)))))))));subst I;have a:=a.aO t;have a:C o [] ([bg g f (⟨.slice (some ⟨d,0,none⟩) aQ aQ,s,z,aa q,.slice none 0 0⟩:cg)]++_) w:=a.front;refine ao ⟨⟨_,a⟩,?_⟩;refine bl 11 j (λw _=>eX (c:= #[aa aA,ab (-1)]) j (λ_=>by kernel_rfl)) (aX 12 j (ld a j j j (λF w a=>?_)));have a:C o [] (db F aA (-1)::_) w:=a;have a:C o [] ([bg g f (⟨.slice (some ⟨d,0,none⟩) aQ aQ,s,z,aa q,.slice none 0 0⟩:cg)]++_) w:=a.front;refine ao ⟨⟨_,a⟩,?_⟩;refine aX 13 j (fx a j j j j j j bO (λav w a=>?_));have a9:Rd _ (some ⟨av,0,none⟩) [Value.pointer (some ⟨F,0,none⟩)]:=bq (C.aj (b:=av) a);have a:C o [] ([bg g f (⟨.slice (some ⟨d,0,none⟩) aQ aQ,s,z,aa q,.slice none 0 0⟩:cg)]++_) w:=a.front;refine ao ⟨⟨_,a⟩,?_⟩;refine aX 14 j ?_;have a:C o [] [eU,bg g f (⟨.slice (some ⟨d,0,none⟩) aQ aQ,s,z,aa q,.slice none 0 0⟩:cg),J d U.toArray 37,y,E,B,L,db F aA (-1),GE,a1,dU g] _:=a.as;refine e6 a af j j (by decide) j j j (news:=[Value.pointer (some ⟨F,0,none⟩)]) (m:=1) j a9 (λu hu=>by rw [List.mem_singleton.1 hu];rfl) (by omega) (by unfold maxLen;omega) (λP T w ax a=>?_);have a:C o [] ([bg g f (⟨.slice (some ⟨d,0,none⟩) aQ aQ,s,z,aa q,.slice none 0 0⟩:cg)]++_) w:=a.front;refine ao ⟨⟨_,a⟩,?_⟩;refine ag 15 2 j (dK 17 j (cO (a.bc f) j j j ax.one bO (λw a=>?_)));have a:C o [] (bg g f (⟨.slice (some ⟨d,0,none⟩) aQ aQ,s,P,aa q,.slice none 0 0⟩:cg)::_) w:=a;refine ao (c5 (bE 1 j j j (dn i (by omega)) (bW 1 j ?_)));have D:=Y.app (ec.one (V:=lJ) (x:=(bw.new (i:Int) (j9 i),(-1:Int))) ⟨F,aA,GE,j,aW,j⟩);have W:jI i++[(bw.new (i:Int) (j9 i),(-1:Int))]=jI (i+1):=by unfold jI;rw [List.range_succ,List.map_append];rfl
  rw [W] at D;have a:C o [] [bg g f (⟨.slice (some ⟨d,0,none⟩) aQ aQ,s,P,aa q,.slice none 0 0⟩:cg),J d U.toArray 37,y,E,B,T,L,db F aA (-1),GE,a1,dU g] w:=a.as;exact⟨(i+1,P,_,T,_),⟨j,j,bb⟩,⟨by dsimp only;omega,ax,D,C.perm (A:=[bg g f (⟨.slice (some ⟨d,0,none⟩) aQ aQ,s,P,aa q,.slice none 0 0⟩:cg),J d U.toArray 37,y,E,B,T,L,db F aA (-1),GE,a1,dU g]) a (by simp)⟩,by dsimp only;omega⟩
 refine an 6 j j ?_;have N:i=3:=by omega
 subst N;have a0:Row 37 1 (.slice (some ⟨d,0,none⟩) aQ aQ) aQ U (J d U.toArray 37):=Row.full (by unfold maxLen;omega) (by rw [List.size_toArray,ai,Nat.mul_one]);exact⟨f,g,_,j,a5,a4,⟨(⟨.slice (some ⟨d,0,none⟩) aQ aQ,s,z,aa q,.slice none 0 0⟩:cg),J d U.toArray 37++y,E++B,eU++L,a1,[],⟨⟨_,_,U,j,by show Row 37 1 _ (hi aQ (aQ-k)).length U _;rw [kx (by omega)];exact a0,X⟩,⟨_,_,us,j,ah,ac⟩,⟨_,_,bd,j,af,Y⟩,am,cC.nil⟩,j⟩,C.perm (A:=[dU g,bg g f (⟨.slice (some ⟨d,0,none⟩) aQ aQ,s,z,aa q,.slice none 0 0⟩:cg),J d U.toArray 37,y,E,B,eU,L,a1]) a.as (by simp)⟩
def am{α:Type}(v:Int):List α->List (Int×List α)
 |[]=>[]
 |x::r=>[(v,x::r)]
def k7(g:al)(m:aY):aY:={m with tag:=g.ct m.f m.body}
abbrev eP(g:al)(X:List UInt8)(k v f:Nat):aN:=cT g k 0 v (ca X) f
structure cn where
 k:Nat
 f:Nat
 to:Nat
 v:Nat
def cn.m(g:al)(X:List UInt8)(a:cn):aY:=match a.k with
 |1=>k7 g ⟨3,a.f,a.to,0,a.v,[],[eP g X 1 a.v a.f],cD⟩
 |2=>k7 g ⟨3,a.f,a.to,0,a.v,[],[eP g X 2 a.v a.f],cD⟩
 |3=>k7 g ⟨2,a.f,a.to,0,a.v,X,[],cD⟩
 |_=>k7 g ⟨4,a.f,a.to,0,a.v,[],[],cD⟩
structure dP where
 v:Nat
 c8:Bool
 bS:Bool
 a0:List Nat
 cl:List Nat
 aH:List Nat
 st:List Nat
 dz:Nat
 cu:Nat
 cE:Nat
def bM(g:al)(X:List UInt8)(i:Nat)(a:dP)(aZ:List aN):ai:=
 ⟨i,0,a.v,(a.cu:Int)-1,if a.cu=0 then [] else X,if a.cu=0 then [] else aZ,X,
  (if a.c8=true then [((0:Int),cn.m g X ⟨3,0,i,0⟩)] else [])++(if a.bS=true then [((1:Int),cn.m g X ⟨3,1,i,1⟩)] else []),
  if(a.c8||a.bS)=true then [X] else [],
  am 0 (a.a0.map (eP g X 1 0))++am 1 (a.cl.map (eP g X 1 1)),am 1 (a.aH.map (eP g X 2 1)),
  am 1 (a.st.map λf:Nat=>((f:Int),cn.m g X ⟨4,f,i,1⟩)),(a.dz:Int)-1,(a.cu:Int)-1,(a.cE:Int)-1,[],[],false⟩
inductive mo where
 |fail
 |stop
 |dec
 |next (a:dP) (l:List cn)
def vb(n i:Nat):List Nat:=(List.range n).filter λt=>t !=i
def outs(n i k v:Nat):List cn:=(vb n i).map λt=>⟨k,i,t,v⟩
def dP.step(n q i:Nat)(a:dP):mo:=
 if((a.c8||a.bS)&&decide (q<=a.aH.length))=true then .dec
 else if((if a.v=0 then a.c8 else a.bS)&&decide (a.dz<=a.v))=true then
  if a.cu=0 then
   if a.v=0 then(if a.cl=[]/\i∉a.a0 then .next {a with dz:=1,a0:=a.a0++[i]} (outs n i 1 0) else .fail)
   else(if i∉a.cl then .next {a with dz:=2,cl:=a.cl++[i]} (outs n i 1 1) else .fail)
  else .fail
 else if(decide (a.cu<=a.v)&&((a.c8||a.bS)&&decide (q<=(if a.v=0 then a.a0 else a.cl).length)))=true then
  if a.v=1/\i∉a.aH then .next {a with cu:=2,aH:=a.aH++[i]} (outs n i 2 1) else .fail
 else if i=a.v/\a.cE<=a.v/\(a.v=0\/(i∈a.st/\q<=a.st.length)) then
  if a.v=0 then(if a.c8=false/\a.bS=false then .next {a with cE:=1,c8:=true} (outs n i 3 0) else .fail)
  else(if a.bS=false then .next {a with cE:=2,bS:=true} (outs n i 3 1) else .fail)
 else .stop
section
variable {g:al} {X:List UInt8} {i f:Nat} {a eK:dP} {aZ:List aN}
theorem wO{f:Int}(b:List UInt8)(a:0<=f/\f<g.n):g.check f b (g.ct f b)=true:=by
 unfold al.check;rw [hM (show g.lu f from a)];simp
theorem Dy{f:Int}(k s v:Int)(x:List UInt8)(a:0<=f/\f<g.n):_root_.Go.Proofs.YtmholjbhjcpkhaaGreatDoor.R.dF g (cT g k s v x f)=true:=wO _ a
theorem yl{α:Type}(v:Int)(l:List α):(aV (am v l) v).getD []=l:=by cases l<;>simp [am,aV]
theorem yp{α:Type}(v:Int)(l:List α){m:List α}(h:m≠[]):bV (am v l) v m=am v m:=by
 cases m with
 |nil=>exact(h j).elim
 |cons y r=>cases l<;>simp [am,bV]
theorem zY{α:Type}(A B:List α):(aV (am 0 A++am 1 B) 0).getD []=A:=by cases A<;>cases B<;>simp [am,aV]
theorem vy{α:Type}(A B:List α):(aV (am 0 A++am 1 B) 1).getD []=B:=by cases A<;>cases B<;>simp [am,aV]
theorem Hy{α:Type}(A:List α){a7:List α}(h:a7≠[]):bV (am 0 A++am 1 []) 0 a7=am 0 a7++am 1 []:=by
 cases a7 with
 |nil=>exact(h j).elim
 |cons y r=>cases A<;>simp [am,bV]
theorem Hz{α:Type}(A B:List α){a7:List α}(h:a7≠[]):bV (am 0 A++am 1 B) 1 a7=am 0 A++am 1 a7:=by
 cases a7 with
 |nil=>exact(h j).elim
 |cons y r=>cases A<;>cases B<;>simp [am,bV]
theorem DA(k v:Nat)(l:List Nat){f:Nat}(h:f∉l):l1 (l.map (eP g X k v)) (ca X) f=false:=by
 unfold l1;rw [List.any_eq_false];intro x b;obtain⟨R,a,rfl⟩:=ee.1 b;have:¬(R:Int)=(f:Int):=λe=>h (q1 e▸a)
 simp [cT,this]
theorem tz(k v:Nat)(l:List Nat){f:Nat}(h:f∉l):hP (l.map (eP g X k v)) (eP g X k v f)=(l++[f]).map (eP g X k v):=by
 unfold hP;rw [show l1 (l.map (eP g X k v)) (eP g X k v f).sum (eP g X k v f).f=false from DA k v l h];simp
theorem w0(h:f∉a.a0)(b:a.cl=[]):(bM g X i a aZ).counts (eP g X 1 0 f)=bM g X i {a with a0:=a.a0++[f]} aZ:=by
 have e:(bM g X i a aZ).gU 1 0=a.a0.map (eP g X 1 0):=zY _ _;unfold ai.counts;rw [aR (show(eP g X 1 0 f).k=1 from j)];show{bM g X i a aZ with dw:=bV (bM g X i a aZ).dw 0 (hP ((bM g X i a aZ).gU 1 0) (eP g X 1 0 f))}=_;rw [e,tz 1 0 _ h];unfold bM;simp only [b,o5];rw [Hy _ (by simp)]
theorem w1(h:f∉a.cl):(bM g X i a aZ).counts (eP g X 1 1 f)=bM g X i {a with cl:=a.cl++[f]} aZ:=by
 have e:(bM g X i a aZ).gU 1 1=a.cl.map (eP g X 1 1):=vy _ _;unfold ai.counts;rw [aR (show(eP g X 1 1 f).k=1 from j)];show{bM g X i a aZ with dw:=bV (bM g X i a aZ).dw 1 (hP ((bM g X i a aZ).gU 1 1) (eP g X 1 1 f))}=_;rw [e,tz 1 1 _ h];unfold bM;rw [Hz _ _ (by simp)]
theorem w2(h:f∉a.aH):(bM g X i a aZ).counts (eP g X 2 1 f)=bM g X i {a with aH:=a.aH++[f]} aZ:=by
 have e:(bM g X i a aZ).gU 2 1=a.aH.map (eP g X 2 1):=yl _ _;unfold ai.counts;rw [az (show¬(eP g X 2 1 f).k=1 by show¬(2:Int)=1;decide)];show{bM g X i a aZ with aC:=bV (bM g X i a aZ).aC 1 (hP ((bM g X i a aZ).gU 2 1) (eP g X 2 1 f))}=_;rw [e,tz 2 1 _ h];unfold bM;rw [yp _ _ (by simp)]
theorem t8(k v:Nat)(l:List Nat):(bM g X i a aZ).fS g (l.map (eP g X k v))=if((a.c8||a.bS)&&decide (dL g.n<=l.length))=true then some (X,iG (l.map (eP g X k v))) else none:=by
 have h:fg (l.map (eP g X k v)) (ca X)=l.map (eP g X k v):=List.filter_eq_self.2 (λx e=>by
  obtain⟨R,_,rfl⟩:=ee.1 e;simp [cT])
 have d:(iG (l.map (eP g X k v))).length=l.length:=by simp [iG]
 unfold ai.fS;show(if(a.c8||a.bS)=true then [X] else []).findSome? _=_;cases(a.c8||a.bS) with
 |false=>simp
 |true=>
  simp only [ib,th,List.findSome?_nil,h,d,na,gn];split
  .rename_i b;split at b
   .rename_i c;rw [aR c];exact b.symm▸rfl
   .cases b
  .rename_i b;split at b
   .cases b
   .rename_i c;rw [az c]
theorem GI(e:1<=dL g.n):(bM g X i a aZ).gG g=if((a.c8||a.bS)&&decide (dL g.n<=a.aH.length))=true then some ((bM g X i a aZ).gD X (iG (a.aH.map (eP g X 2 1))),[]) else none:=by
 unfold ai.gG
 have h:cW (bM g X i a aZ).aC=am 1 (a.aH.map (eP g X 2 1)):=by
  show cW (am 1 (a.aH.map (eP g X 2 1)))=_;cases a.aH<;>simp [am,cW]
 rw [h];cases d:a.aH with
 |nil=>
  rw [az (by simp;omega)];rfl
 |cons y r=>
  show(([((1:Int),(y::r).map (eP g X 2 1))]).findSome? λp=>(bM g X i a aZ).fS g p.2).map _=_;rw [th,t8];split
  .rename_i b;split at b
   .rename_i c;cases b;rw [aR c];rfl
   .cases b
  .rename_i b;split at b
   .cases b
   .rename_i c;rw [az c];rfl
theorem FD(n:Nat):me (i:Int) n=(vb n i).map λt:Nat=>(t:Int):=by
 unfold me vb;rw [List.filter_map]
 congr 1
 refine List.filter_congr (λt _=>?_);show((t:Int) !=(i:Int))=(t !=i);rw [lk];simp;omega
end
section
variable {g:al} {X:List UInt8} {i f:Nat} {a eK:dP} {aZ:List aN}
theorem x1{n v:Nat}(h:v<n):j8 0 v n=v:=by
 unfold j8;rw [Nat.zero_mod,fe,Nat.mod_mod,po h]
theorem oi{v:Nat}(k:Nat)(b:v<g.n):(bM g X i a aZ).leads g (k:Int) (v:Int)=decide (k=v):=by
 unfold ai.leads;show((k:Int)==((j8 0 v g.n:Nat):Int))=_;rw [x1 b,lk];simp;omega
theorem wi(k v:Nat)(m:aY)(h:∀t:Nat,k7 g {m with f:=(i:Int),to:=(t:Int),s:=0}=cn.m g X ⟨k,i,t,v⟩){s:ai}(hm:s.aw=(i:Int))(aF:s.slot=0):s.all g m=(outs g.n i k v).map (cn.m g X):=by
 unfold ai.all outs;rw [hm,FD,mH,mH];refine tv λt _=>(Eq.trans ?_ (h t))
 unfold ai.ju k7;rw [hm,aF];rfl
theorem vB{dM:Int}(k v:Nat)(a:dM=(k:Int))(ad:k=1\/k=2){s:ai}(hm:s.aw=(i:Int))(aF:s.slot=0)(b:s.view=(v:Int)):s.aI g dM X=(s.counts (eP g X k v i),(outs g.n i k v).map (cn.m g X)):=by
 subst a;unfold ai.aI;rw [hm,aF,b]
 congr 1
 refine wi k v _ (λt=>?_) hm aF;rcases ad with rfl|rfl<;>rfl
theorem yZ(k:a.v=0\/a.v=1)(f:a.cu=0)(d:a.v=0->a.cl=[]/\i∉a.a0)(e:a.v=1->i∉a.cl):
 (bM g X i a aZ).fP g=if((if a.v=0 then a.c8 else a.bS)&&decide (a.dz<=a.v))=true then
  some (bM g X i (if a.v=0 then{a with dz:=1,a0:=a.a0++[i]} else{a with dz:=2,cl:=a.cl++[i]}) aZ,(outs g.n i 1 a.v).map (cn.m g X)) else none:=by
 obtain⟨v,c8,bS,a0,cl,aH,st,dz,cu,cE⟩:=a;dsimp only at k f d e⊢;subst f;have hm:∀m:aY,_root_.Go.Proofs.YtmholjbhjcpkhaaGreatDoor.R.may g (((0:Nat):Int)-1) [] 0 (v:Int) m.x m.l=true:=λm=>rfl
 rcases k with rfl|rfl
 .obtain⟨o,b⟩:=d j;unfold ai.fP
  have c:aV (bM g X i ⟨0,c8,bS,a0,cl,aH,st,dz,0,cE⟩ aZ).props 0=if c8=true then some (cn.m g X ⟨3,0,i,0⟩) else none:=by
   cases c8<;>cases bS<;>rfl
  show(match aV (bM g X i ⟨0,c8,bS,a0,cl,aH,st,dz,0,cE⟩ aZ).props 0 with|none=>none|some m=>_)=_;rw [c];cases c8 with
  |false=>rfl
  |true=>
   simp only [ib,na];by_cases h:dz<=0
   .rw [az (by show¬((dz:Int)-1>=((0:Nat):Int));omega),aR (by exact hm _),aR (by simpa using h)]
    congr 1
    show ai.aI g {bM g X i ⟨0,true,bS,a0,cl,aH,st,dz,0,cE⟩ aZ with iv:=((0:Nat):Int)} 1 X=_;refine Eq.trans (vB (dM:=1) (i:=i) 1 0 j (.inl j) j j j) ?_
    congr 1
    exact w0 (a:=⟨0,true,bS,a0,cl,aH,st,1,0,cE⟩) b o
   .rw [aR (by show(dz:Int)-1>=((0:Nat):Int);omega),az (by simpa using h)]
 .have b:=e j;unfold ai.fP
  have c:aV (bM g X i ⟨1,c8,bS,a0,cl,aH,st,dz,0,cE⟩ aZ).props 1=if bS=true then some (cn.m g X ⟨3,1,i,1⟩) else none:=by
   cases c8<;>cases bS<;>rfl
  show(match aV (bM g X i ⟨1,c8,bS,a0,cl,aH,st,dz,0,cE⟩ aZ).props 1 with|none=>none|some m=>_)=_;rw [c];cases bS with
  |false=>rfl
  |true=>
   simp only [ib,na];by_cases h:dz<=1
   .rw [az (by show¬((dz:Int)-1>=((1:Nat):Int));omega),aR (by exact hm _)];simp only [h,decide_true,ib,Nat.one_ne_zero,km]
    congr 1
    show ai.aI g {bM g X i ⟨1,c8,true,a0,cl,aH,st,dz,0,cE⟩ aZ with iv:=((1:Nat):Int)} 1 X=_;refine Eq.trans (vB (dM:=1) (i:=i) 1 1 j (.inl j) j j j) ?_
    congr 1
    exact w1 (a:=⟨1,c8,true,a0,cl,aH,st,2,0,cE⟩) b
   .rw [aR (by show(dz:Int)-1>=((1:Nat):Int);omega)];simp [h]
theorem FL(c:a.v=0\/a.v=1)(h:((if a.v=0 then a.c8 else a.bS)&&decide (a.dz<=a.v))=false):(bM g X i a aZ).fP g=none:=by
 obtain⟨v,c8,bS,a0,cl,aH,st,dz,cu,cE⟩:=a;dsimp only at c h⊢;unfold ai.fP;rcases c with rfl|rfl
 .show(match aV (bM g X i ⟨0,c8,bS,a0,cl,aH,st,dz,cu,cE⟩ aZ).props 0 with|none=>none|some m=>_)=_
  have b:aV (bM g X i ⟨0,c8,bS,a0,cl,aH,st,dz,cu,cE⟩ aZ).props 0=if c8=true then some (cn.m g X ⟨3,0,i,0⟩) else none:=by
   cases c8<;>cases bS<;>rfl
  rw [b];cases c8 with
  |false=>rfl
  |true=>
   have d:¬dz<=0:=by simpa using h
   simp only [ib];rw [aR (by show(dz:Int)-1>=((0:Nat):Int);omega)]
 .show(match aV (bM g X i ⟨1,c8,bS,a0,cl,aH,st,dz,cu,cE⟩ aZ).props 1 with|none=>none|some m=>_)=_
  have b:aV (bM g X i ⟨1,c8,bS,a0,cl,aH,st,dz,cu,cE⟩ aZ).props 1=if bS=true then some (cn.m g X ⟨3,1,i,1⟩) else none:=by
   cases c8<;>cases bS<;>rfl
  rw [b];cases bS with
  |false=>rfl
  |true=>
   have d:¬dz<=1:=by simpa using h
   simp only [ib];rw [aR (by show(dz:Int)-1>=((1:Nat):Int);omega)]
theorem Cs(d:a.v=0\/a.v=1)(h:(decide (a.cu<=a.v)&&((a.c8||a.bS)&&decide (dL g.n<=(if a.v=0 then a.a0 else a.cl).length)))=false):(bM g X i a aZ).gv g=none:=by
 unfold ai.gv;by_cases b:a.cu<=a.v
 .rw [az (by show¬((a.cu:Int)-1>=(a.v:Int));omega)];rw [hM b,na] at h
  have c:(bM g X i a aZ).gU 1 (a.v:Int)=(if a.v=0 then a.a0 else a.cl).map (eP g X 1 a.v):=by
   rcases d with e|e
   .rw [e,aR j];exact zY _ _
   .rw [e,az (by decide)];exact vy _ _
  show(match(bM g X i a aZ).fS g ((bM g X i a aZ).gU 1 (a.v:Int)) with|none=>none|some y=>_)=none;rw [c,t8,h];rfl
 .rw [aR (by show(a.cu:Int)-1>=(a.v:Int);omega)]
theorem Cu(c:a.v=1)(b:i∉a.aH)(h:(decide (a.cu<=a.v)&&((a.c8||a.bS)&&decide (dL g.n<=(if a.v=0 then a.a0 else a.cl).length)))=true):
 ∃k,(bM g X i a aZ).gv g=some (bM g X i {a with cu:=2,aH:=a.aH++[i]} k,(outs g.n i 2 1).map (cn.m g X)):=by
 obtain⟨v,c8,bS,a0,cl,aH,st,dz,cu,cE⟩:=a;dsimp only at c b h⊢;subst c;simp only [d8,gn,Nat.one_ne_zero,km] at h;obtain⟨l,d,e⟩:=h;refine⟨iG (cl.map (eP g X 1 1)),?_⟩;unfold ai.gv;rw [az (by show¬((cu:Int)-1>=((1:Nat):Int));omega)];have f:(bM g X i ⟨1,c8,bS,a0,cl,aH,st,dz,cu,cE⟩ aZ).gU 1 1=cl.map (eP g X 1 1):=vy _ _;show(match(bM g X i ⟨1,c8,bS,a0,cl,aH,st,dz,cu,cE⟩ aZ).fS g ((bM g X i ⟨1,c8,bS,a0,cl,aH,st,dz,cu,cE⟩ aZ).gU 1 1) with|none=>none|some y=>_)=_;rw [f,t8,aR (by simp [d,e])];show some (ai.aI g {bM g X i ⟨1,c8,bS,a0,cl,aH,st,dz,2,cE⟩ (iG (cl.map (eP g X 1 1))) with slot:=0} 2 X)=_;refine aK some (Eq.trans (vB (dM:=2) (i:=i) 2 1 j (.inr j) j j j) ?_)
 congr 1
 exact w2 (a:=⟨1,c8,bS,a0,cl,aH,st,dz,2,cE⟩) b
theorem y2(s v:Int)(x:List UInt8):kw g s v x []=(-1,[],[]):=rfl
theorem xG(s v:Int):∀(l:List (Int×aY)),(∀p∈l,p.2.l=[])->l.foldl (λk p=>j7 g s v k.2.1 k.2.2 p.2.x p.2.l) (-1,[],[])=(-1,[],[])
 |[],_=>rfl
 |p::r,h=>by
  rw [h5]
  have e:j7 g s v [] [] p.2.x p.2.l=(-1,[],[]):=by
   rw [h p (by simp)];unfold j7;rw [y2,y2,az (by decide)]
  rw [show j7 g s v ((-1,[],[]):Int×List UInt8×List aN).2.1 ((-1,[],[]):Int×List UInt8×List aN).2.2 p.2.x p.2.l=(-1,[],[]) from e];exact xG s v r (λq a=>h q (by simp [a]))
theorem uM(h:Nat->aY):∀(l:List Nat)(k:Nat),(aV (l.map λf:Nat=>((f:Int),h f)) (k:Int)).isSome=decide (k∈l)
 |[],k=>by simp [aV]
 |R::r,k=>by
  have a:=uM h r k;simp only [jh,aV];by_cases e:(R:Int)=(k:Int)
  .rw [aR e];have:R=k:=q1 e;simp [this]
  .rw [az e,a];have:¬k=R:=λh=>e (by rw [h])
   simp [this]
theorem wR(h:a.v=0\/a.v=1)(o:0<X.length):(bM g X i a aZ).gM g=if a.v=0\/(i∈a.st/\dL g.n<=a.st.length) then some (X,[]) else none:=by
 obtain⟨v,c8,bS,a0,cl,aH,st,dz,cu,cE⟩:=a;dsimp only at h⊢;have hw:∀y,(if 0<(bM g X i y aZ).want.length then some ((bM g X i y aZ).want,([]:List aN)) else none)=some (X,[]):=λy=>aR o
 unfold ai.gM;rcases h with rfl|rfl
 .rw [az (by show¬(0:Int)<((0:Nat):Int);decide),hw,aR (.inl j)]
 .rw [aR (by show(0:Int)<((1:Nat):Int);decide)];cases aF:st with
  |nil=>
   have e:aV (bM g X i ⟨1,c8,bS,a0,cl,aH,[],dz,cu,cE⟩ aZ).dB (bM g X i ⟨1,c8,bS,a0,cl,aH,[],dz,cu,cE⟩ aZ).view=none:=rfl;simp only [e];exact(az (by simp)).symm
  |cons y r=>
   rw [<-aF]
   have e:aV (bM g X i ⟨1,c8,bS,a0,cl,aH,st,dz,cu,cE⟩ aZ).dB ((1:Nat):Int)=some (st.map λf:Nat=>((f:Int),cn.m g X ⟨4,f,i,1⟩)):=by
    show aV (am 1 (st.map λf:Nat=>((f:Int),cn.m g X ⟨4,f,i,1⟩))) 1=_;rw [aF];rfl
   show(match aV (bM g X i ⟨1,c8,bS,a0,cl,aH,st,dz,cu,cE⟩ aZ).dB ((1:Nat):Int) with|none=>none|some l=>_)=_;rw [e]
   have q:ii g (bM g X i ⟨1,c8,bS,a0,cl,aH,st,dz,cu,cE⟩ aZ).slot (bM g X i ⟨1,c8,bS,a0,cl,aH,st,dz,cu,cE⟩ aZ).view (cW (st.map λf:Nat=>((f:Int),cn.m g X ⟨4,f,i,1⟩)))=(-1,[],[]):=
    xG _ _ _ (λp s=>by
     obtain⟨f,_,rfl⟩:=ee.1 (g7.1 s);rfl)
   simp only [q];rw [hw];have k:(aV (st.map λf:Nat=>((f:Int),cn.m g X ⟨4,f,i,1⟩)) (bM g X i ⟨1,c8,bS,a0,cl,aH,st,dz,cu,cE⟩ aZ).aw).isSome=decide (i∈st):=uM _ st i;rw [k,fa];by_cases b:i∈st/\dL g.n<=st.length
   .rw [aR (by simp [b.1,b.2]),az (by decide),aR (.inr b)]
   .rw [az (by simpa using λc d=>b ⟨c,d⟩),if_neg (by simpa using λc d=>b ⟨c,d⟩)]
theorem FN(f:a.v=0\/a.v=1)(e:0<X.length)(j:1<g.n)(h:¬(i=a.v/\a.cE<=a.v/\(a.v=0\/(i∈a.st/\dL g.n<=a.st.length)))):(bM g X i a aZ).gh g=none:=by
 unfold ai.gh;rw [show(bM g X i a aZ).leads g (bM g X i a aZ).aw (bM g X i a aZ).view=decide (i=a.v) from oi i (by omega)];by_cases b:i=a.v/\a.cE<=a.v
 .rw [az (by
   show¬(decide (i=a.v)=false\/(a.cE:Int)-1>=(a.v:Int));simp [b.1];omega),wR f e,az (λc=>h ⟨b.1,b.2,c⟩)]
 .rw [aR (by
   show decide (i=a.v)=false\/(a.cE:Int)-1>=(a.v:Int);by_cases c:i=a.v
   ·right;have:¬a.cE<=a.v:=λd=>b ⟨c,d⟩;omega
   ·left;simpa using c)]
theorem y1(c:a.v=0\/a.v=1)(k:0<X.length)(q:1<g.n)(h:i=a.v/\a.cE<=a.v/\(a.v=0\/(i∈a.st/\dL g.n<=a.st.length)))(d:a.v=0->a.c8=false/\a.bS=false)(e:a.v=1->a.bS=false):
 (bM g X i a aZ).gh g=some (bM g X i (if a.v=0 then{a with cE:=1,c8:=true} else{a with cE:=2,bS:=true}) aZ,(outs g.n i 3 a.v).map (cn.m g X)):=by
 obtain⟨b,p,f⟩:=h;unfold ai.gh;rw [show(bM g X i a aZ).leads g (bM g X i a aZ).aw (bM g X i a aZ).view=decide (i=a.v) from oi i (by omega)]
 rw [az (by
  show¬(decide (i=a.v)=false\/(a.cE:Int)-1>=(a.v:Int));simp [b];omega),wR c k,aR f]
 have l:(bM g X i a aZ).all g ⟨2,0,0,0,(a.v:Int),X,[],cD⟩=(outs g.n i 3 a.v).map (cn.m g X):=wi (i:=i) 3 a.v _ (λt=>rfl) j j;show some (ai.hr g {bM g X i a aZ with prop:=(a.v:Int)} ((bM g X i a aZ).ju g ⟨2,0,0,0,(a.v:Int),X,[],cD⟩ (i:Int)),(bM g X i a aZ).all g ⟨2,0,0,0,(a.v:Int),X,[],cD⟩)=_;rw [l]
 congr 2
 obtain⟨v,c8,bS,a0,cl,aH,st,dz,cu,cE⟩:=a;dsimp only at c b d e⊢;unfold ai.hr
 have o:ai.leads g {bM g X i ⟨v,c8,bS,a0,cl,aH,st,dz,cu,cE⟩ aZ with prop:=(v:Int)} (i:Int) (v:Int)=true:=by
  show(bM g X i ⟨v,c8,bS,a0,cl,aH,st,dz,cu,cE⟩ aZ).leads g (i:Int) (v:Int)=true;rw [oi i (by omega)];simpa using b
 show(if((aV (bM g X i ⟨v,c8,bS,a0,cl,aH,st,dz,cu,cE⟩ aZ).props (v:Int)).isSome|| !ai.leads g {bM g X i ⟨v,c8,bS,a0,cl,aH,st,dz,cu,cE⟩ aZ with prop:=(v:Int)} (i:Int) (v:Int))=true then _ else _)=_;rw [o];rcases c with rfl|rfl
 .obtain⟨rfl,rfl⟩:=d j;subst b;rfl
 .obtain rfl:=e j;subst b;cases c8
  .rfl
  .show ai.i1 {bM g X 1 ⟨1,true,false,a0,cl,aH,st,dz,cu,cE⟩ aZ with prop:=1,props:=bV (bM g X 1 ⟨1,true,false,a0,cl,aH,st,dz,cu,cE⟩ aZ).props 1 (cn.m g X ⟨3,1,1,1⟩)} X=_;unfold ai.i1;rw [aR (by show X∈[X];simp)];rfl
def mo.ok(g:al)(X:List UInt8)(i:Nat)(a:dP)(aZ:List aN):mo->Prop
 | .fail=>True
 | .stop=>(bM g X i a aZ).step g=none
 | .dec=>∃y,(bM g X i a aZ).step g=some ((bM g X i a aZ).gD X y,[])
 | .next eK l=>eK.v=a.v/\∃b,(bM g X i a aZ).step g=some (bM g X i eK b,l.map (cn.m g X))
theorem GW(o:a.v=0\/a.v=1)(r:0<X.length)(q:1<g.n)(t:1<=dL g.n):mo.ok g X i a aZ (a.step g.n (dL g.n) i):=by
 unfold dP.step;have aF:=GI (g:=g) (X:=X) (i:=i) (a:=a) (aZ:=aZ) t;by_cases h:((a.c8||a.bS)&&decide (dL g.n<=a.aH.length))=true
 .rw [aR h] at aF⊢;exact⟨_,by unfold ai.step;rw [aF]⟩
 rw [az h] at aF⊢;by_cases p:((if a.v=0 then a.c8 else a.bS)&&decide (a.dz<=a.v))=true
 .rw [aR p];by_cases f:a.cu=0
  .rw [aR f];by_cases b:a.v=0
   .rw [aR b];by_cases c:a.cl=[]/\i∉a.a0
    .rw [aR c];have k:=yZ (g:=g) (X:=X) (aZ:=aZ) o f (λ_=>c) (λe=>absurd e (by omega));rw [aR p,aR b,show outs g.n i 1 a.v=outs g.n i 1 0 by rw [b]] at k;exact⟨j,aZ,by unfold ai.step;rw [aF,k]⟩
    .rw [az c];trivial
   .rw [az b];by_cases c:i∉a.cl
    .rw [aR c];have s:a.v=1:=by omega
     have k:=yZ (g:=g) (X:=X) (aZ:=aZ) o f (λe=>absurd e b) (λ_=>c);rw [aR p,az b,show outs g.n i 1 a.v=outs g.n i 1 1 by rw [s]] at k;exact⟨j,aZ,by unfold ai.step;rw [aF,k]⟩
    .rw [az c];trivial
  .rw [az f];trivial
 rw [az p];have k:=FL (g:=g) (X:=X) (i:=i) (aZ:=aZ) o (by simpa using p);by_cases c:(decide (a.cu<=a.v)&&((a.c8||a.bS)&&decide (dL g.n<=(if a.v=0 then a.a0 else a.cl).length)))=true
 .rw [aR c];by_cases d:a.v=1/\i∉a.aH
  .rw [aR d];obtain⟨u,f⟩:=Cu (g:=g) (X:=X) (aZ:=aZ) d.1 d.2 c;exact⟨j,u,by unfold ai.step;rw [aF,k,f]⟩
  .rw [az d];trivial
 rw [az c];have f:=Cs (g:=g) (X:=X) (i:=i) (aZ:=aZ) o (Bool.eq_false_iff.2 c);by_cases d:i=a.v/\a.cE<=a.v/\(a.v=0\/(i∈a.st/\dL g.n<=a.st.length))
 .rw [aR d];by_cases b:a.v=0
  .rw [aR b];by_cases l:a.c8=false/\a.bS=false
   .rw [aR l];have m:=y1 (g:=g) (X:=X) (aZ:=aZ) o r q d (λ_=>l) (λe=>absurd e (by omega));rw [aR b,show outs g.n i 3 a.v=outs g.n i 3 0 by rw [b]] at m;exact⟨j,aZ,by unfold ai.step;rw [aF,k,f,m]⟩
   .rw [az l];trivial
  .rw [az b];by_cases l:a.bS=false
   .rw [aR l];have s:a.v=1:=by omega
    have m:=y1 (g:=g) (X:=X) (aZ:=aZ) o r q d (λe=>absurd e b) (λ_=>l);rw [az b,show outs g.n i 3 a.v=outs g.n i 3 1 by rw [s]] at m;exact⟨j,aZ,by unfold ai.step;rw [aF,k,f,m]⟩
   .rw [az l];trivial
 .rw [az d];have m:=FN (g:=g) (X:=X) (aZ:=aZ) o r q d;show(bM g X i a aZ).step g=none;unfold ai.step;rw [aF,k,f,m]
end
def dP.go(n q i:Nat):Nat->dP->List cn->Option (Option dP×List cn)
 |0,a,l=>some (some a,l)
 |k+1,a,l=>match a.step n q i with
  | .fail=>none
  | .stop=>some (some a,l)
  | .dec=>some (none,l)
  | .next eK m=>dP.go n q i k eK (l++m)
def dP.take(i:Nat)(a:dP)(m:cn):Option dP:=
 if m.k=1 then
  (if m.v=0 then(if a.cl=[]/\m.f∉a.a0 then some {a with a0:=a.a0++[m.f]} else none)
   else if m.v=1/\m.f∉a.cl then some {a with cl:=a.cl++[m.f]} else none)
 else if m.k=2 then(if m.v=1/\m.f∉a.aH then some {a with aH:=a.aH++[m.f]} else none)
 else if m.k=3 then
  (if m.v=0/\m.f=0/\a.c8=false/\a.bS=false then some {a with c8:=true}
   else if m.v=1/\m.f=1/\a.bS=false then some {a with bS:=true} else none)
 else if m.k=4/\m.v=1/\i=1/\m.f∉a.st then some {a with st:=a.st++[m.f]} else none
def dP.tick(n q i:Nat)(a:dP):Option (Option dP×List cn):=
 if a.v=0/\a.cu=0 then
  (if i=1 then(if a.st=[] then dP.go n q i 5 {a with v:=1,st:=[1]} [] else none)
   else match dP.go n q i 5 {a with v:=1} [] with
    |none=>none
    |some r=>some (r.1,⟨4,i,1,1⟩::r.2))
 else none
def rh:dP:=⟨0,false,false,[],[],[],[],0,0,0⟩
section
variable {g:al} {X:List UInt8} {i f:Nat} {a eK:dP} {aZ:List aN}
def oM(g:al)(X:List UInt8)(i:Nat):Option dP->ai->Prop
 |some a,r=>(a.v=0\/a.v=1)/\∃aZ,r=bM g X i a aZ
 |none,r=>r.dec=true/\r.value=X
theorem F7:∀(k:Nat){s:ai}(l:List aY),s.dec=true->ai.go g k s l=(s,l)
 |0,_,_,_=>rfl
 |k+1,s,l,h=>by rw [ai.go,aR h]
theorem pM(f:0<X.length)(d:1<g.n)(o:1<=dL g.n):∀(k:Nat)(a:dP)(l:List cn)(aZ:List aN){I:Option dP}{bZ:List cn},(a.v=0\/a.v=1)->dP.go g.n (dL g.n) i k a l=some (I,bZ)->
 ∃r,ai.go g k (bM g X i a aZ) (l.map (cn.m g X))=(r,bZ.map (cn.m g X))/\oM g X i I r
 |0,a,l,aZ,I,bZ,b,h=>by
  cases h;exact⟨_,j,b,aZ,j⟩
 |k+1,a,l,aZ,I,bZ,b,h=>by
  rw [dP.go] at h;rw [ai.go,az (by show¬false=true;decide)];have aF:=GW (g:=g) (X:=X) (i:=i) (a:=a) (aZ:=aZ) b f d o;cases c:a.step g.n (dL g.n) i with
  |fail=>rw [c] at h;cases h
  |stop=>
   rw [c] at h aF;cases h;have aF:(bM g X i a aZ).step g=none:=aF;rw [aF];exact⟨_,j,b,aZ,j⟩
  |dec=>
   rw [c] at h aF;cases h;obtain⟨y,aF⟩:=aF;rw [aF];show∃r,ai.go g k ((bM g X i a aZ).gD X y) (l.map (cn.m g X)++[])=_/\_;rw [F7 k _ j,gA];exact⟨_,j,j,j⟩
  |next eK m=>
   rw [c] at h aF;obtain⟨e,p,aF⟩:=aF;rw [aF];show∃r,ai.go g k (bM g X i eK p) (l.map (cn.m g X)++m.map (cn.m g X))=_/\_;rw [<-iB];exact pM f d o k eK (l++m) p (by rw [e];exact b) h
theorem z2(k v to:Nat)(ad:k=1\/k=2)(a:f<g.n){s:ai}(aF:s.slot=0)(m:aY)(hm:m.f=(f:Int)):s.hs g m (eP g X k v f)=true:=by
 unfold ai.hs;rw [aF,hm,show _root_.Go.Proofs.YtmholjbhjcpkhaaGreatDoor.R.dF g (eP g X k v f)=true from Dy _ _ _ _ ⟨by omega,by omega⟩];rcases ad with rfl|rfl<;>simp [cT]
theorem Hc{m:cn}(p:1<g.n)(c:m.f<g.n)(s:m.to=i)(h:a.take i m=some eK):(bM g X i a aZ).fd g (m.m g X)=bM g X i eK aZ/\eK.v=a.v:=by
 obtain⟨k,f,to,v⟩:=m;dsimp only at c s;subst s;unfold dP.take at h;dsimp only at h;split at h
 .rename_i ad;subst ad
  have e:∀v:Nat,(bM g X to a aZ).fd g (cn.m g X ⟨1,f,to,v⟩)=(bM g X to a aZ).counts (eP g X 1 v f):=λv=>by
   unfold ai.fd;rw [az (by show¬(3:Int)=2;decide),aR (by show(3:Int)=3;rfl)];exact aR (z2 1 v to (.inl j) c j _ j)
  rw [e];split at h
  .rename_i d;subst d;split at h
   .rename_i b;cases h;exact⟨w0 b.2 b.1,j⟩
   .cases h
  .split at h
   .rename_i b;obtain⟨rfl,b⟩:=b;cases h;exact⟨w1 b,j⟩
   .cases h
 .split at h
  .rename_i ad;subst ad
   have e:∀v:Nat,(bM g X to a aZ).fd g (cn.m g X ⟨2,f,to,v⟩)=(bM g X to a aZ).counts (eP g X 2 v f):=λv=>by
    unfold ai.fd;rw [az (by show¬(3:Int)=2;decide),aR (by show(3:Int)=3;rfl)];exact aR (z2 2 v to (.inr j) c j _ j)
   rw [e];split at h
   .rename_i b;obtain⟨rfl,b⟩:=b;cases h;exact⟨w2 b,j⟩
   .cases h
  .split at h
   .rename_i ad;subst ad
    have e:∀v:Nat,v<g.n->(bM g X to a aZ).fd g (cn.m g X ⟨3,v,to,v⟩)=if((aV (bM g X to a aZ).props (v:Int)).isSome)=true then bM g X to a aZ else ai.i1 {bM g X to a aZ with props:=bV (bM g X to a aZ).props (v:Int) (cn.m g X ⟨3,v,to,v⟩)} X:=λv d=>by
     unfold ai.fd;rw [aR (by show(2:Int)=2;rfl)];show(if((aV (bM g X to a aZ).props (v:Int)).isSome|| !(bM g X to a aZ).leads g (v:Int) (v:Int))=true then _ else _)=_;rw [oi v d,hM j];simp only [Bool.not_true,Bool.or_false];rfl
    obtain⟨o,c8,bS,a0,cl,aH,st,dz,cu,cE⟩:=a;dsimp only at h;split at h
    .rename_i b;obtain⟨rfl,rfl,rfl,rfl⟩:=b;cases h;rw [e 0 (by omega)];exact⟨j,j⟩
    .split at h
     .rename_i b;obtain⟨rfl,rfl,rfl⟩:=b;cases h;rw [e 1 p];cases c8
      .exact⟨j,j⟩
      .refine⟨?_,j⟩;show ai.i1 {bM g X to ⟨o,true,false,a0,cl,aH,st,dz,cu,cE⟩ aZ with props:=bV (bM g X to ⟨o,true,false,a0,cl,aH,st,dz,cu,cE⟩ aZ).props 1 (cn.m g X ⟨3,1,to,1⟩)} X=_;unfold ai.i1;rw [aR (by show X∈[X];simp)];rfl
     .cases h
   .split at h
    .rename_i b;obtain⟨rfl,rfl,rfl,q⟩:=b;cases h;refine⟨?_,j⟩;unfold ai.fd;rw [az (by show¬(4:Int)=2;decide),az (by show¬(4:Int)=3;decide),aR (by show(4:Int)=4;rfl)];unfold ai.status;rw [aR (by show(bM g X 1 a aZ).leads g ((1:Nat):Int) ((1:Nat):Int)=true;rw [oi 1 p];rfl)];have t:(aV (bM g X 1 a aZ).dB 1).getD []=a.st.map λf:Nat=>((f:Int),cn.m g X ⟨4,f,1,1⟩):=yl _ _
     have u:(aV (a.st.map λf:Nat=>((f:Int),cn.m g X ⟨4,f,1,1⟩)) (f:Int)).isSome=false:=by rw [uM];simpa using q
     show{bM g X 1 a aZ with dB:=bV (bM g X 1 a aZ).dB 1 (if(aV ((aV (bM g X 1 a aZ).dB 1).getD []) (f:Int)).isSome=true then(aV (bM g X 1 a aZ).dB 1).getD [] else bV ((aV (bM g X 1 a aZ).dB 1).getD []) (f:Int) (cn.m g X ⟨4,f,1,1⟩))}=_;rw [t,u,az (by decide)]
     have w:∀l:List Nat,f∉l->bV (l.map λf:Nat=>((f:Int),cn.m g X ⟨4,f,1,1⟩)) (f:Int) (cn.m g X ⟨4,f,1,1⟩)=(l++[f]).map λf:Nat=>((f:Int),cn.m g X ⟨4,f,1,1⟩):=λl=>by
      induction l with
      |nil=>intro _;rfl
      |cons R r x=>
       intro aT;simp only [hD,not_or] at aT;simp only [jh,bV,List.cons_append];rw [az (show¬(R:Int)=(f:Int) from λe=>aT.1 (q1 e).symm),x aT.2]
     rw [w _ q];unfold bM;rw [yp _ _ (by simp)]
    .cases h
theorem uB{n b:Nat}(h:n<=b):eD (n:Int) 0 (b:Int)=true:=by unfold eD;exact decide_eq_true ⟨by omega,by omega⟩
theorem DU{m:cn}(ad:1<=m.k/\m.k<=4)(A:m.f<g.n)(aT:g.n<=10)(o:m.to<=9)(p:m.v<=8)(y:X.length<=200)(h:m.f≠i):(bM g X i a aZ).kr g (m.m g X)=true:=by
 obtain⟨k,f,to,v⟩:=m;dsimp only at ad A o p h;have z:∀b,g.check (f:Int) b (g.ct (f:Int) b)=true:=λb=>wO b ⟨by omega,by omega⟩
 have B:((f:Int) !=(i:Int))=true:=by simpa using λe:(f:Int)=(i:Int)=>h (Int.ofNat.inj e)
 have c:eD (f:Int) 0 9=true:=uB (b:=9) (by omega);have r:eD (to:Int) 0 9=true:=uB (b:=9) o;have d:eD (v:Int) 0 8=true:=uB (b:=8) p
 have q:∀k:Int,eD k 1 3=true->hG (cT g k 0 (v:Int) (ca X) (f:Int))=true:=λk ad=>by
  unfold hG;show(eD k 1 3&&eD 0 0 63&&eD (v:Int) 0 8&&eD (f:Int) 0 9)=true;rw [ad,c,d];rfl
 have hm:∀(dM:Int)(x:List UInt8)(l:List aN),eD dM 1 6=true->x.length<=200->l.length<=10->l.all hG=true->ai.kr g (bM g X i a aZ) (k7 g ⟨dM,f,to,0,v,x,l,cD⟩)=true:=λdM x l s t u w=>by
  unfold ai.kr;show((eD dM 1 6&&eD (f:Int) 0 9&&eD (to:Int) 0 9&&eD 0 0 63&&eD (v:Int) 0 8&&decide (x.length<=200)&&decide (l.length<=10)&&l.all hG)&&((0:Int)==0&&((f:Int) !=(i:Int)&&g.check (f:Int) (⟨dM,f,to,0,v,x,l,cD⟩:aY).body (g.ct (f:Int) (⟨dM,f,to,0,v,x,l,cD⟩:aY).body))))=true;rw [s,c,r,d,w,B,z,hM t,hM u];rfl
 rcases(show k=1\/k=2\/k=3\/k=4 by omega) with rfl|rfl|rfl|rfl
 .exact hm 3 [] [eP g X 1 v f] j (cp _) bO (by simp only [qU,List.all_nil,qV];exact q 1 j)
 .exact hm 3 [] [eP g X 2 v f] j (cp _) bO (by simp only [qU,List.all_nil,qV];exact q 2 j)
 .exact hm 2 X [] j y (by decide) j
 .exact hm 4 [] [] j (cp _) (by decide) j
theorem Gd{m:cn}{I:Option dP}{l:List cn}(ad:1<=m.k/\m.k<=4)(c:m.f<g.n)(aT:g.n<=10)(t:m.to=i)(x:i<=9)(w:m.v<=8)(j:0<X.length)(o:X.length<=200)(q:m.f≠i)(b:1<g.n)(s:1<=dL g.n)(u:a.v=0\/a.v=1)
 (h:a.take i m=some eK) (p:dP.go g.n (dL g.n) i 5 eK []=some (I,l)):∃r,(bM g X i a aZ).take g (m.m g X)=(r,l.map (cn.m g X))/\oM g X i I r:=by
 obtain⟨d,e⟩:=Hc (g:=g) (X:=X) (aZ:=aZ) b c t h;unfold ai.take;rw [DU ad c aT (by omega) w o q,az (by show¬(false|| !true)=true;decide),d];exact pM j b s 5 eK [] aZ (by rw [e];exact u) p
theorem Ge{I:Option dP}{l:List cn}(o:0<X.length)(c:1<g.n)(p:1<=dL g.n)(h:a.tick g.n (dL g.n) i=some (I,l)):∃r,(bM g X i a aZ).tick g=(r,l.map (cn.m g X))/\oM g X i I r:=by
 unfold dP.tick at h;split at h
 .rename_i s;obtain⟨q,c8,bS,a0,cl,aH,st,dz,cu,cE⟩:=a;obtain⟨rfl,rfl⟩:q=0/\cu=0:=s
  have t:((j8 (bM g X i ⟨0,c8,bS,a0,cl,aH,st,dz,0,cE⟩ aZ).slot.toNat ((bM g X i ⟨0,c8,bS,a0,cl,aH,st,dz,0,cE⟩ aZ).view+1).toNat g.n:Nat):Int)=1:=by
   show((j8 0 1 g.n:Nat):Int)=1;rw [x1 c];rfl
  unfold ai.tick;rw [az (by show¬(false||decide (((0:Nat):Int)>=8))=true;decide)];unfold ai.gy;simp only [t];split at h
  .rename_i f;subst f;split at h
   .rename_i k;have k:st=[]:=k;subst k;rw [aR (by show(1:Int)=((1:Nat):Int);rfl)]
    have e:ai.status g {bM g X 1 ⟨0,c8,bS,a0,cl,aH,[],dz,0,cE⟩ aZ with view:=(bM g X 1 ⟨0,c8,bS,a0,cl,aH,[],dz,0,cE⟩ aZ).view+1} (ai.ju g {bM g X 1 ⟨0,c8,bS,a0,cl,aH,[],dz,0,cE⟩ aZ with view:=(bM g X 1 ⟨0,c8,bS,a0,cl,aH,[],dz,0,cE⟩ aZ).view+1} ⟨4,0,0,0,(bM g X 1 ⟨0,c8,bS,a0,cl,aH,[],dz,0,cE⟩ aZ).view+1,(bM g X 1 ⟨0,c8,bS,a0,cl,aH,[],dz,0,cE⟩ aZ).dT,(bM g X 1 ⟨0,c8,bS,a0,cl,aH,[],dz,0,cE⟩ aZ).aZ,cD⟩ 1)=bM g X 1 ⟨1,c8,bS,a0,cl,aH,[1],dz,0,cE⟩ aZ:=by
     unfold ai.status;rw [aR (by show(bM g X 1 ⟨1,c8,bS,a0,cl,aH,[],dz,0,cE⟩ aZ).leads g ((1:Nat):Int) ((1:Nat):Int)=true;rw [oi 1 c];rfl)];rfl
    rw [e];obtain⟨r,b,d⟩:=pM (g:=g) (X:=X) o c p 5 _ [] aZ (.inr j) h;have b:ai.steps g (bM g X 1 ⟨1,c8,bS,a0,cl,aH,[1],dz,0,cE⟩ aZ)=(r,l.map (cn.m g X)):=b;rw [b];exact⟨r,j,d⟩
   .cases h
  .rename_i f;rw [az (by show¬(1:Int)=(i:Int);intro e;exact f (q1 e).symm)];split at h
   .cases h
   .rename_i w u;obtain⟨x,v⟩:=w;cases h;obtain⟨r,b,d⟩:=pM (g:=g) (X:=X) o c p 5 _ [] aZ (.inr j) u;have b:ai.steps g {bM g X i ⟨0,c8,bS,a0,cl,aH,st,dz,0,cE⟩ aZ with view:=(bM g X i ⟨0,c8,bS,a0,cl,aH,st,dz,0,cE⟩ aZ).view+1}=(r,v.map (cn.m g X)):=b;rw [b];exact⟨r,j,d⟩
 .cases h
theorem Gs{I:Option dP}{l:List cn}(a:0<X.length)(e:X.length<=200)(b:1<g.n)(f:1<=dL g.n)(h:dP.go g.n (dL g.n) i 5 rh []=some (I,l)):∃r,(ai.new (i:Int) 0).g2 g X=(r,l.map (cn.m g X))/\oM g X i I r:=by
 unfold ai.g2;rw [az (by show¬false=true;decide),aR ⟨a,e⟩];obtain⟨r,c,d⟩:=pM (g:=g) (X:=X) a b f 5 _ [] [] (.inl j) h;exact⟨r,c,d⟩
end
def g1(i:Nat)(r:ai)(X:List UInt8):aE:=⟨i,[],some r,[X],[],0⟩
def lF(i:Nat)(s:aE):bm:=⟨i,s,bu.new,0,[],[]⟩
structure my(X:List UInt8):Prop where
 dec:jr (b0 X 2)=true
 c:(ord X).c=2
 s:(ord X).s=0
 wj:(bu.new.apply (ord X)).2.1=(0,0,0)
 pos:0<X.length
 le:X.length<=200
section
variable {g:al} {X:List UInt8} {i f:Nat} {a eK:dP} {aZ:List aN}
def vG(g:al)(X:List UInt8)(i:Nat):Option dP->aE->Prop
 |some a,s=>(a.v=0\/a.v=1)/\∃aZ,s=g1 i (bM g X i a aZ) X
 |none,s=>∃y,s.log=[(X,y)]
theorem uo{I:Option dP}{r:ai}(h:oM g X i I r)(l:List aY):∃s,aE.gE g (g1 i r X) l=(s,l)/\vG g X i I s:=by
 cases I with
 |some a=>
  obtain⟨f,aZ,rfl⟩:=h;refine⟨_,?_,f,aZ,j⟩;unfold aE.gE;rw [aE.go];exact az (by show¬false=true;decide)
 |none=>
  obtain⟨d,b⟩:=h
  have e:((g1 i r X).next r).cA=[]:=by
   show [X].filter (λy=> !decide (y=r.value))=[];rw [b];simp
  have c:((g1 i r X).next r).dc g=((g1 i r X).next r,[]):=by
   unfold aE.dc aE.wanted;rw [e];show(cW ([]:List (Int×aY))).foldl _ _=_;simp [cW]
  refine⟨(g1 i r X).next r,?_,r.et,by show []++[(r.value,r.et)]=_;rw [b];rfl⟩;unfold aE.gE;rw [aE.go];show(if r.dec=true then aE.go g 64 (((g1 i r X).next r).dc g).1 (l++(((g1 i r X).next r).dc g).2) else _)=_;rw [aR d,c,aE.go];show(if false=true then _ else((g1 i r X).next r,l++[]))=_;rw [az (by decide),gA]
def ki(g:al)(X:List UInt8)(i:Nat):Option dP->bm->Prop
 |some a,x=>(a.v=0\/a.v=1)/\∃aZ,x=lF i (g1 i (bM g X i a aZ) X)
 |none,x=>(∃y,x.s.log=[(X,y)])/\x.dq=1/\x.answers=[(e1 2 0,(0,0,0))]
theorem tC(b:my X){I:Option dP}{s:aE}(h:vG g X i I s):ki g X i I (lF i s).gB:=by
 cases I with
 |some a=>
  obtain⟨f,aZ,rfl⟩:=h;exact⟨f,aZ,j⟩
 |none=>
  obtain⟨y,d⟩:=h
  have e:(lF i s).gB={(lF i s).fX X with dq:=1}:=by
   unfold bm.gB;show({((s.log.map Prod.fst).drop 0).foldl bm.fX (lF i s) with dq:=s.log.length}:bm)=_;rw [d];rfl
  rw [e];unfold bm.fX;rw [aR b.dec];refine⟨⟨y,d⟩,j,?_⟩;show bV [] (e1 (ord X).c (ord X).s) (bu.new.apply (ord X)).2.1=_;rw [b.c,b.s,b.wj];rfl
theorem cn.pW(m:cn):(m.m g X).k≠1/\(m.m g X).s=0/\(m.m g X).to=(m.to:Int):=by
 unfold cn.m;split<;>exact⟨by simp [k7],j,j⟩
theorem HS(b:my X){m:cn}{I:Option dP}{l:List cn}(ad:1<=m.k/\m.k<=4)(w:m.f<g.n)(aT:g.n<=10)(C:m.to=i)(A:i<=9)(E:m.v<=8)(z:m.f≠i)(o:1<g.n)(B:1<=dL g.n){x:bm}(F:ki g X i (some a) x)
 (h:a.take i m=some eK) (y:dP.go g.n (dL g.n) i 5 eK []=some (I,l)):∃d,x.take g (m.m g X)=(d,l.map (cn.m g X))/\ki g X i I d:=by
 obtain⟨D,aZ,rfl⟩:=F;obtain⟨r,p,q⟩:=Gd (g:=g) (aZ:=aZ) ad w aT C A E b.pos b.le z o B D h y;obtain⟨s,t,u⟩:=uo q (l.map (cn.m g X));obtain⟨j,c,_⟩:=cn.pW (g:=g) (X:=X) m
 have e:aE.take g (g1 i (bM g X i a aZ) X) (m.m g X)=(s,l.map (cn.m g X)):=by
  unfold aE.take;rw [az j,az (by rw [c];show¬(0:Int)<((0:Nat):Int);decide),aR (by rw [c];rfl)];show aE.gE g (g1 i ((bM g X i a aZ).take g (m.m g X)).1 X) ((bM g X i a aZ).take g (m.m g X)).2=_;rw [p];exact t
 refine⟨(lF i s).gB,?_,tC b u⟩;unfold bm.take;show(bm.gB {lF i (g1 i (bM g X i a aZ) X) with s:=(aE.take g (g1 i (bM g X i a aZ) X) (m.m g X)).1},(aE.take g (g1 i (bM g X i a aZ) X) (m.m g X)).2)=_;rw [e];rfl
theorem BA{x:bm}{y:List aN}(b:x.s.log=[(X,y)])(a:x.dq=1):x.gB=x:=by
 unfold bm.gB;rw [b,a];show({x with dq:=1}:bm)=x;rw [<-a]
theorem CQ{m:cn}(ad:m.k=1\/m.k=2){x:bm}(j:ki g X i none x):x.take g (m.m g X)=(x,[]):=by
 obtain⟨⟨y,a⟩,h,_⟩:=j;obtain⟨b,c,_⟩:=cn.pW (g:=g) (X:=X) m
 have d:(m.m g X).k=3:=by
  obtain⟨k,f,to,v⟩:=m;rcases ad with rfl|rfl<;>rfl
 have e:aE.take g x.s (m.m g X)=(x.s,[]):=by
  unfold aE.take;rw [az b,aR (by rw [c];show(0:Int)<(x.s.log.length:Int);rw [a];simp)];unfold aE.told;rw [aR (.inl (by rw [d];decide))]
 unfold bm.take;rw [e];show(bm.gB x,[])=_;rw [BA a h]
theorem HT(b:my X){I:Option dP}{l:List cn}(d:1<g.n)(p:1<=dL g.n){x:bm}(q:ki g X i (some a) x)(h:a.tick g.n (dL g.n) i=some (I,l)):∃c,x.tick g=(c,l.map (cn.m g X))/\ki g X i I c:=by
 obtain⟨t,aZ,rfl⟩:=q;obtain⟨r,f,j⟩:=Ge (g:=g) (aZ:=aZ) b.pos d p h;obtain⟨s,k,o⟩:=uo j (l.map (cn.m g X));refine⟨(lF i s).gB,?_,tC b o⟩
 have e:aE.tick g (g1 i (bM g X i a aZ) X)=(s,l.map (cn.m g X)):=by
  unfold aE.tick;show aE.gE g (g1 i ((bM g X i a aZ).tick g).1 X) ((bM g X i a aZ).tick g).2=_;rw [f];exact k
 unfold bm.tick;show(bm.gB {lF i (g1 i (bM g X i a aZ) X) with s:=(aE.tick g (g1 i (bM g X i a aZ) X)).1},(aE.tick g (g1 i (bM g X i a aZ) X)).2)=_;rw [e];rfl
theorem HR(a:my X){I:Option dP}{l:List cn}{op:bD}(c:1<g.n)(q:1<=dL g.n)(p:gf op=true)(o:h6 op=X)(h:dP.go g.n (dL g.n) i 5 rh []=some (I,l)):∃b,(bm.new (i:Int)).ask g op=(b,l.map (cn.m g X),0)/\ki g X i I b:=by
 obtain⟨r,d,f⟩:=Gs (g:=g) a.pos a.le c q h;obtain⟨s,j,k⟩:=uo f (l.map (cn.m g X));refine⟨(lF i s).gB,?_,tC a k⟩
 have e:aE.eF g (aE.new (i:Int)) X=(s,l.map (cn.m g X),0):=by
  unfold aE.eF;rw [az (by have:=a.pos;have:=a.le;omega),az (by show¬false=true;decide),az (by show¬(16<=0\/false=true);decide),az (by show¬1<0+1;decide)];show((aE.gE g (g1 i ((ai.new (i:Int) 0).g2 g X).1 X) ((ai.new (i:Int) 0).g2 g X).2).1,(aE.gE g (g1 i ((ai.new (i:Int) 0).g2 g X).1 X) ((ai.new (i:Int) 0).g2 g X).2).2,(0:Int))=_;rw [d];show((aE.gE g (g1 i r X) (l.map (cn.m g X))).1,(aE.gE g (g1 i r X) (l.map (cn.m g X))).2,(0:Int))=_;rw [j]
 unfold bm.ask;rw [aR p,o];show(bm.gB {bm.new (i:Int) with s:=(aE.eF g (aE.new (i:Int)) X).1},(aE.eF g (aE.new (i:Int)) X).2.1,(aE.eF g (aE.new (i:Int)) X).2.2)=_;rw [e];rfl
end
structure dm where
 bz:List (Option dP)
 bp:List cn
def dm.ou(z:dm)(i:Nat):Option (Option dP×List cn)->Option dm
 |none=>none
 |some r=>if z.bp.length+r.2.length<=512 then some ⟨z.bz.set i r.1,z.bp++r.2⟩ else none
def dm.go(n q:Nat)(z:dm):Option dm:=match z.bp with
 |[]=>none
 |m::r=>match z.bz[m.to]? with
  |some (some a)=>if(1<=m.k/\m.k<=4)/\m.f<n/\m.to<=9/\m.v<=8/\m.f≠m.to then
   (match a.take m.to m with
   |none=>none
   |some eK=>dm.ou ⟨z.bz,r⟩ m.to (dP.go n q m.to 5 eK [])) else none
  |some none=>if m.k=1\/m.k=2 then some ⟨z.bz,r⟩ else none
  |none=>none
def dm.tick(n q:Nat)(z:dm)(i:Nat):Option dm:=match z.bz[i]? with
 |some (some a)=>z.ou i (a.tick n q i)
 |_=>none
def dm.asks(n q:Nat):Nat->Nat->dm->Option dm
 |0,_,z=>some z
 |k+1,R,z=>match z.ou R (dP.go n q R 5 rh []) with
  |none=>none
  |some ke=>dm.asks n q k (R+1) ke
def dm.e4(n q:Nat):Nat->Nat->dm->Option dm
 |0,_,z=>some z
 |k+1,R,z=>match z.tick n q R with
  |none=>none
  |some ke=>dm.e4 n q k (R+1) ke
def dm.ends(n q:Nat):Nat->dm->Bool
 |0,z=>z.bp.isEmpty&&z.bz.all Option.isNone
 |k+1,z=>match z.go n q with
  |none=>false
  |some ke=>dm.ends n q k ke
def dm.new(n:Nat):dm:=⟨List.replicate n (some rh),[]⟩
def dm.run(n q k d:Nat):Bool:=match dm.asks n q n 0 (dm.new n) with
 |none=>false
 |some z=>(d=0||d=z.bp.length)&&(match dm.e4 n q n 0 ⟨z.bz,z.bp.drop d⟩ with
  |none=>false
  |some z=>dm.ends n q k z)
theorem Gf:dm.run 4 3 36 0=true:=by decide+kernel
theorem Gg:dm.run 4 3 30 6=true:=by decide+kernel
theorem Gh:dm.run 7 5 108 0=true:=by decide+kernel
theorem Gi:dm.run 7 5 96 12=true:=by decide+kernel
structure qO where
 n:Int
 k:Int
 s:Int
 v:Int
 x:List UInt8
section
variable {g:al} {h:Nat} {H:List qO} {dC:List aN} {s:ai}
end
section
variable {g:al} {h:Nat} {H:List qO} {dC:List aN} {s lB Gt:ai}
end
section
variable {g:al} {h:Nat} {H:List qO} {dC:List aN} {s lB Gt:aE}
end
section
variable {g:al} {h:Nat} {H:List qO} {dC:List aN} {z ke:aU}
end
theorem F6{n m i:Nat}{x:bm}(hm:m<=n)(h:(hi n m)[i]? =some (some x)):i<m/\x=bm.new (i:Int):=by
 unfold hi at h;rcases Nat.lt_or_ge i m with a|a
 .rw [jG (by simpa using a),List.getElem?_map,List.getElem?_range a] at h;exact⟨a,by simpa using h.symm⟩
 .rw [ko (by simpa using a)] at h;rw [List.getElem?_replicate] at h;split at h<;>cases h
theorem zg{n m i:Nat}(a:i<m):(hi n m)[i]? =some (some (bm.new (i:Int))):=by
 unfold hi;rw [jG (by simpa using a),List.getElem?_map,List.getElem?_range a];rfl
theorem xg{n:Nat}(h:1<=n):kR n<n:=by unfold kR;omega
theorem aU.lz{g:al}{n k:Nat}(aT:g.n=n)(ad:k<=kR n)(c:1<=n):(aU.new n k).ok g 0:=by
 have f:=xg c;refine⟨(kx (by omega)).trans aT.symm,λi x e=>?_,⟨0,_,zg (by omega)⟩,j,λb d=>?_,j,λp a=>?_,cp _,el.nil,cp _,el.nil,cp _⟩
 .obtain⟨h,rfl⟩:=F6 (by omega) e;exact⟨bm.lz ⟨by omega,by omega⟩ _,j⟩
 .have:=List.eq_of_mem_replicate d;rw [this];exact⟨cF _,cF _,cF _,(by intro p a;cases a)⟩
 .obtain⟨R,_,rfl⟩:=ee.1 a;exact bw.lz (show 1<=1000 by decide)
section
variable {g:al} {X:List UInt8} {n:Nat}
structure h4(g:al)(X:List UInt8)(dD:dm)(z:aU):Prop where
 n:z.bz.length=g.n
 lV:dD.bz.length=g.n
 ma:∀(i:Nat)(I:Option dP),dD.bz[i]? =some I->∃x,z.bz[i]? =some (some x)/\ki g X i I x
 bp:z.bp=dD.bp.map (cn.m g X)
theorem yv{dD:List (Option dP)}{c:List (Option bm)}{P:Nat->Option dP->bm->Prop}(g:c.length=dD.length){i:Nat}(h:∀(k:Nat)(I:Option dP),k≠i->dD[k]? =some I->∃x,c[k]? =some (some x)/\P k I x){I:Option dP}{x:bm}(d:P i I x)(f:i<dD.length):
 ∀(R:Nat)(fk:Option dP),(dD.set i I)[R]? =some fk->∃y,(c.set i (some x))[R]? =some (some y)/\P R fk y:=λR fk a=>by
 by_cases b:i=R
 .subst b;rw [q0 f] at a;cases a;exact⟨x,q0 (by omega),d⟩
 .rw [tl b] at a⊢;exact h R fk (λe=>b e.symm) a
theorem zq{dD hQ:dm}{z:aU}(h:h4 g X dD z){i:Nat}{r:Option (Option dP×List cn)}(aF:dD.ou i r=some hQ)(b:i<g.n){x:bm}{l:List aY}(c:∀I m,r=some (I,m)->ki g X i I x/\l=m.map (cn.m g X)):
 h4 g X hQ (aU.f0 {z with bz:=z.bz.set i (some x)} l):=by
 unfold dm.ou at aF;split at aF
 .cases aF
 .rename_i r;split at aF
  .rename_i hle;cases aF;obtain⟨a,rfl⟩:=c r.1 r.2 j;refine⟨by show(z.bz.set i (some x)).length=_;rw [gJ];exact h.n,by show(dD.bz.set i r.1).length=_;rw [gJ];exact h.lV,yv (P:=ki g X) (by rw [h.n,h.lV]) (λk I _ ad=>h.ma k I ad) a (by rw [h.lV];exact b),?_⟩;show z.bp++(r.2.map (cn.m g X)).take (512-z.bp.length)=(dD.bp++r.2).map (cn.m g X);rw [h.bp,fa,ic (by rw [fa];omega),iB]
  .cases aF
abbrev eO(k node:Int):gz:=⟨k,node,0,[],⟨0,0,0,0,[],0,[]⟩⟩
theorem aU.vk(z:aU)(i:Nat):z.rep (i:Int)=(z.bz[i]?).getD none:=by
 unfold aU.rep;rw [aR (by omega),lj]
theorem Dv(y:my X)(t:1<g.n)(aT:g.n<=10)(G:1<=dL g.n){dD hQ:dm}{z:aU}(h:h4 g X dD z)(aF:dD.go g.n (dL g.n)=some hQ):(z.bF g (eO 6 0)).2=0/\h4 g X hQ (z.bF g (eO 6 0)).1/\(z.bF g (eO 6 0)).1.b9=z.b9/\z.bp≠[]:=by
 unfold dm.go at aF;split at aF
 .cases aF
 .rename_i m r B;have e:z.bp=m.m g X::r.map (cn.m g X):=by rw [h.bp,B];rfl
  have o:z.bF g (eO 6 0)=(aU.kp g {z with bp:=r.map (cn.m g X)} (m.m g X),0):=by
   unfold aU.bF;rw [az (by show¬((6:Int)=1\/(6:Int)=2\/(6:Int)=3\/(6:Int)=4);decide),az (by show¬(6:Int)=5;decide),aR (by show(6:Int)=6\/_;exact .inl j)];unfold aU.hp;have k:(max (eO 6 0).n 0).toNat%z.bp.length=0:=by show(max (0:Int) 0).toNat%_=0;simp
   rw [k,e];rfl
  rw [o];refine⟨j,?_,?_,by rw [e];simp⟩
  .have s:h4 g X ⟨dD.bz,r⟩ {z with bp:=r.map (cn.m g X)}:=⟨h.n,h.lV,h.ma,j⟩;have H:({z with bp:=r.map (cn.m g X)}:aU).rep (m.m g X).to=(z.bz[m.to]?).getD none:=by rw [(cn.pW m).2.2];exact aU.vk _ _
   unfold aU.kp;rw [H];split at aF
   .rename_i a b;obtain⟨x,c,d⟩:=h.ma m.to _ b;rw [c];have J:m.to<g.n:=by rw [<-h.lV];exact(e8.1 b).1
    split at aF
    .rename_i C;obtain⟨ad,D,w,v,E⟩:=C;split at aF
     .cases aF
     .rename_i eK A;show h4 g X hQ ((aU.kz {z with bp:=r.map (cn.m g X)} (m.m g X).to (x.take g (m.m g X)).1).f0 (x.take g (m.m g X)).2);rw [(cn.pW m).2.2];refine zq s aF J (λI l F=>?_);obtain⟨f,p,u⟩:=HS y (i:=m.to) ad D aT j w v E t G d A F;rw [p];exact⟨u,j⟩
    .cases aF
   .rename_i b;obtain⟨x,c,d⟩:=h.ma m.to _ b;rw [c];split at aF
    .rename_i ad;cases aF;show h4 g X _ ((aU.kz {z with bp:=r.map (cn.m g X)} (m.m g X).to (x.take g (m.m g X)).1).f0 (x.take g (m.m g X)).2);rw [CQ ad d,(cn.pW m).2.2]
     have q:z.bz.set ((m.to:Int)).toNat (some x)=z.bz:=by
      rw [lj];obtain⟨K,he⟩:=e8.1 c;rw [<-he,List.set_getElem_self]
     refine⟨by show(z.bz.set _ _).length=_;rw [gJ];exact h.n,h.lV,?_,?_⟩
     .show∀i I,dD.bz[i]? =some I->∃f,(z.bz.set ((m.to:Int)).toNat (some x))[i]? =some (some f)/\_;rw [q];exact h.ma
     .show r.map (cn.m g X)++[].take _=_;simp
    .cases aF
   .cases aF
  .show(aU.kp g {z with bp:=r.map (cn.m g X)} (m.m g X)).b9=z.b9;unfold aU.kp;split<;>rfl
theorem Hm(k:my X)(e:1<g.n)(q:1<=dL g.n){dD hQ:dm}{z:aU}(h:h4 g X dD z){i:Nat}(aF:dD.tick g.n (dL g.n) i=some hQ):(z.bF g (eO 9 i)).2=0/\h4 g X hQ (z.bF g (eO 9 i)).1/\(z.bF g (eO 9 i)).1.b9=z.b9:=by
 unfold dm.tick at aF;split at aF
 .rename_i a b;obtain⟨x,r,o⟩:=h.ma i _ b;have m:i<g.n:=by rw [<-h.lV];exact(e8.1 b).1
  have c:z.bF g (eO 9 i)=((z.kz (i:Int) (x.tick g).1).f0 (x.tick g).2,0):=by
   unfold aU.bF;rw [az (by show¬((9:Int)=1\/(9:Int)=2\/(9:Int)=3\/(9:Int)=4);decide),az (by show¬(9:Int)=5;decide),az (by show¬((9:Int)=6\/(9:Int)=7\/(9:Int)=8);decide),aR (by show(9:Int)=9;rfl)];unfold aU.e4;rw [show z.rep (eO 9 (i:Int)).node=some x from(aU.vk z i).trans (by rw [r];rfl)]
  rw [c];refine⟨j,?_,j⟩;refine zq h aF m (λI l p=>?_);obtain⟨s,d,f⟩:=HT k e q o p;rw [d];exact⟨f,j⟩
 .cases aF
theorem zT{q:Nat}:∀(k R:Nat){dD hQ:dm},dD.e4 n q k R=some hQ->∀i,i<k->∃cl a,dD.e4 n q i R=some cl/\cl.tick n q (R+i)=some a/\dD.e4 n q (i+1) R=some a
 |0,_,_,_,_=>λi c=>absurd c (by omega)
 |k+1,R,dD,hQ,h=>λi c=>by
  rw [dm.e4] at h;split at h
  .cases h
  .rename_i ke b;cases i with
   |zero=>exact⟨dD,ke,j,by rw [nd];exact b,by rw [dm.e4,b];rfl⟩
   |succ i=>
    obtain⟨cl,a,d,e,f⟩:=zT k (R+1) h i (by omega);exact⟨cl,a,by rw [dm.e4,b];exact d,by rw [show R+(i+1)=R+1+i by omega];exact e,by rw [dm.e4,b];exact f⟩
theorem ww(t:my X){op:bD}(s:1<g.n)(A:1<=dL g.n)(w:gf op=true)(u:h6 op=X):∀(k R:Nat){dD hQ:dm}{z:aU},R+k=g.n->z.bz.length=g.n->dD.bz.length=g.n->(∀(i:Nat)(I:Option dP),dD.bz[i]? =some I->∃x,z.bz[i]? =some (some x)/\(if i<R then ki g X i I x else x=bm.new (i:Int)))->z.bp=dD.bp.map (cn.m g X)->
 dD.asks g.n (dL g.n) k R=some hQ->h4 g X hQ ((List.range' R k).foldl (aU.gr g op) z)/\((List.range' R k).foldl (aU.gr g op) z).b9=z.b9
 |0,R,dD,hQ,z,J,f,d,c,p,h=>by
  cases h;refine⟨⟨f,d,λi I e=>?_,p⟩,j⟩;obtain⟨x,o,a⟩:=c i I e;have q:=(e8.1 e).1;rw [aR (by omega)] at a;exact⟨x,o,a⟩
 |k+1,R,dD,hQ,z,J,f,d,c,p,h=>by
  rw [dm.asks] at h;split at h
  .cases h
  .rename_i cl aF;rw [List.range'_succ,h5];have v:R<dD.bz.length:=by omega
   obtain⟨x,o,a⟩:=c R _ (cr v);rw [az (by omega)] at a;subst a;unfold dm.ou at aF;split at aF
   .cases aF
   .rename_i M r K;split at aF
    .rename_i hle;cases aF;obtain⟨B,C,E⟩:=HR (i:=R) t s A w u (I:=r.1) (l:=r.2) K
     have D:aU.gr g op z R=({z with bz:=z.bz.set R (some B)}:aU).f0 (r.2.map (cn.m g X)):=by
      unfold aU.gr;rw [o];show aU.f0 {z with bz:=z.bz.set R (some ((bm.new (R:Int)).ask g op).1)} ((bm.new (R:Int)).ask g op).2.1=_;rw [C]
     rw [D]
     obtain⟨F,G⟩:=ww t s A w u k (R+1) (dD:=⟨dD.bz.set R r.1,dD.bp++r.2⟩) (hQ:=hQ) (z:=({z with bz:=z.bz.set R (some B)}:aU).f0 (r.2.map (cn.m g X))) (by omega) (by show(z.bz.set R _).length=_;rw [gJ];exact f) (by show(dD.bz.set R _).length=_;rw [gJ];exact d)
      (yv (P:=λi I x=>if i<R+1 then ki g X i I x else x=bm.new (i:Int)) (by rw [f,d]) (λi I L e=>by
       obtain⟨y,H,b⟩:=c i I e;refine⟨y,H,?_⟩;by_cases q:i<R
       ·rw [aR q] at b;rw [aR (by omega)];exact b
       ·rw [az q] at b;rw [az (by omega)];exact b) (by rw [aR (by omega)];exact E) v)
      (by
       show z.bp++(r.2.map (cn.m g X)).take (512-z.bp.length)=(dD.bp++r.2).map (cn.m g X);rw [p,fa,ic (by rw [fa];omega),iB]) h
     exact⟨F,G⟩
    .cases aF
end
def hT:bD:=⟨1,2,0,[99],0,0,0,0,false⟩
def lq:List UInt8:=[2,1,2,0,1,99,0,0,0,0,0]
theorem Fs:h6 hT=lq:=by
 have h:∀n:Nat,n<128->enc n=[UInt8.ofNat n]:=λn h=>pD h
 unfold h6 ep hd;simp only [jj,List.flatMap_nil];rw [show hE 2=2 from j,show hE hT.k=1 from j,show hE hT.c=2 from j,show hE hT.s=0 from j,show hT.ef=[99] from j,show hE hT.p=0 from j,show hE hT.e=0 from j,show hE hT.t=0 from j,show hE hT.q=0 from j,show hE (lX hT.cu)=0 from j];rw [h 2 (by decide),h 1 (by decide),h 0 (by decide),show([99]:List UInt8).length=1 from j,h 1 (by decide)];rfl
theorem va:ord lq=hT:=by rfl
theorem u6:my lq where
 dec:=by decide+kernel
 c:=by rw [va];rfl
 s:=by rw [va];rfl
 wj:=by
  rw [va]
  have aT:bu.new.named [99]=none:=by
   unfold bu.named;show(cW ([]:List (Int×dt))).findSome? _=none;simp [cW]
  have a:bu.new.dc hT=({bu.new with cL:=bV bu.new.cL 0 (dt.new [99]),marks:=bu.new.marks++[⟨1,0,0,0⟩]},(0,0,0),[⟨1,0,0,0⟩]):=by
   unfold bu.dc;rw [show hT.ef=[99] from j,aT];rfl
  have b:bu.new.bF hT=bu.new.dc hT:=aR j;unfold bu.apply;rw [az (by decide+kernel)];rw [show aV bu.new.answers (hT.c,hT.s)=none from j,b,a]
 pos:=by decide
 le:=by decide
def ig:List (bw×Int):=(jI 3).set 2 ((bw.new 2 [99]).init.1,0)
theorem BH(g:al)(n:Nat):(aU.new n 0).bF g (eO 1 2)=((List.range n).foldl (aU.gr g hT) ((aU.new n 0).fG 2 ((bw.new 2 [99]).init.1,0)),0):=by
 unfold aU.bF;rw [aR (by show(1:Int)=1\/_;exact .inl j)];unfold aU.gZ;rw [show(if 0<=(eO 1 2).node then(aU.new n 0).b9[(eO 1 2).node.toNat]? else none)=some (bw.new 2 [99],-1) from j];dsimp only;rw [aR j];unfold aU.inits;show((aU.new n 0).fG 2 ((bw.new 2 [99]).init.1,0)).asks g hT 0=_;unfold aU.asks;rw [az (by decide)];show((List.range (hi n (n-0)).length).foldl _ _,(0:Int))=_;rw [kx (by omega)]
theorem BS{g:al}{n:Nat}(aT:g.n=n)(b:1<n)(f:1<=dL n){dD:dm}(h:dm.asks n (dL n) n 0 (dm.new n)=some dD):((aU.new n 0).bF g (eO 1 2)).2=0/\h4 g lq dD ((aU.new n 0).bF g (eO 1 2)).1/\((aU.new n 0).bF g (eO 1 2)).1.b9=ig:=by
 subst aT;rw [BH,List.range_eq_range']
 obtain⟨c,d⟩:=ww (g:=g) (X:=lq) u6 (op:=hT) b f (by decide+kernel) Fs g.n 0 (dD:=dm.new g.n) (hQ:=dD) (z:=(aU.new g.n 0).fG 2 ((bw.new 2 [99]).init.1,0)) (by omega) (kx (by omega)) (nY ..)
  (λi I e=>by
   have a:=(e8.1 e).1;have a:i<g.n:=by simpa [dm.new] using a
   exact⟨_,zg (by omega),by rw [az (by omega)]⟩) j h
 exact⟨j,c,d⟩
theorem CP{g:al}{X:List UInt8}{r:List (Option dP)}{m:cn}{l:List cn}{z:aU}(h:h4 g X ⟨r,m::l⟩ z):h4 g X ⟨r,l⟩ (z.bF g (eO 7 0)).1/\(z.bF g (eO 7 0)).1.b9=z.b9:=by
 have c:z.bp=m.m g X::l.map (cn.m g X):=h.bp
 have b:z.bF g (eO 7 0)=({z with bp:=l.map (cn.m g X)},0):=by
  unfold aU.bF;rw [az (by show¬((7:Int)=1\/(7:Int)=2\/(7:Int)=3\/(7:Int)=4);decide),az (by show¬(7:Int)=5;decide),aR (by show(7:Int)=6\/(7:Int)=7\/_;exact .inr (.inl j))];unfold aU.hp;have a:(max (eO 7 0).n 0).toNat%z.bp.length=0:=by show(max (0:Int) 0).toNat%_=0;simp
  rw [a,c];rfl
 rw [b];exact⟨⟨h.n,h.lV,h.ma,j⟩,j⟩
theorem zU(x:bm)(cs:List (bw×Int))(i:Nat)(e:bw)(h:cs[i]? =some (e,-1)):hj x cs i=cs:=by
 unfold hj;rw [h];show(match x.answer (i:Int) (-1) with|none=>cs|some a=>_)=cs;have:x.answer (i:Int) (-1)=none:=az (by omega);rw [this]
theorem FJ{g:al}{X:List UInt8}{dD:dm}{z:aU}(h:h4 g X dD z)(C:1<g.n)(v:dD.bz.all Option.isNone=true)(t:z.b9=ig):(z.bF g (eO 11 0)).2=0/\(∀i:Nat,i<g.n->∃x,(z.bF g (eO 11 0)).1.rep (i:Int)=some x/\x.s.log.length=1)/\∃e s,(z.bF g (eO 11 0)).1.b9[2]? =some (e,s)/\e.known=true:=by
 have f:∀i,i<g.n->dD.bz[i]? =some none:=λi c=>by
  have d:i<dD.bz.length:=by rw [h.lV];exact c
  have:=ji.1 v _ (eB d);rw [cr d];cases B:dD.bz[i] with
  |none=>rfl
  |some a=>rw [B] at this;cases this
 have m:z.bF g (eO 11 0)=(z.polls g,0):=by
  unfold aU.bF;rw [az (by show¬((11:Int)=1\/(11:Int)=2\/(11:Int)=3\/(11:Int)=4);decide),az (by show¬(11:Int)=5;decide),az (by show¬((11:Int)=6\/(11:Int)=7\/(11:Int)=8);decide),az (by show¬(11:Int)=9;decide),az (by show¬(11:Int)=10;decide),aR (by show(11:Int)=11;rfl)]
 rw [m];refine⟨j,λi c=>?_,?_⟩
 .obtain⟨x,b,⟨y,A⟩,_⟩:=h.ma i _ (f i c);refine⟨x,?_,by rw [A];rfl⟩;show z.rep (i:Int)=some x;rw [aU.vk,b];rfl
 .obtain⟨x,b,_,_,p⟩:=h.ma 0 _ (f 0 (by omega))
  have w:nk z.bz=some x:=by
   unfold nk;cases k:z.bz with
   |nil=>rw [k] at b;cases b
   |cons y r=>
    rw [k] at b;cases b;rfl
  have u:(z.polls g).b9=(List.range 3).foldl (hj x) ig:=by
   show(match nk z.bz with|none=>z.b9|some x=>(List.range z.b9.length).foldl (hj x) z.b9)=_;rw [w,t];rfl
  show∃e s,(z.polls g).b9[2]? =some (e,s)/\e.known=true;rw [u];have l:hj x ig 0=ig:=zU x ig 0 (bw.new 0 [97]) j;have o:hj x ig 1=ig:=zU x ig 1 (bw.new 1 [98]) j;show∃e s,(hj x (hj x (hj x ig 0) 1) 2)[2]? =some (e,s)/\e.known=true;rw [l,o]
  have q:x.answer ((2:Nat):Int) 0=some (0,0,0):=by
   unfold bm.answer;rw [aR (by decide),p];exact aR j
  unfold hj;rw [show ig[2]? =some ((bw.new 2 [99]).init.1,0) from j];show∃e s,(match x.answer ((2:Nat):Int) 0 with|none=>ig|some a=>ig.set 2 ((((bw.new 2 [99]).init.1).told 0 a).1,0))[2]? =some (e,s)/\e.known=true;rw [q];exact⟨_,_,j,j⟩
structure Way(n k d:Nat):Prop where
 run:dm.run n (dL n) k d=true
theorem Way.open{n k d:Nat}(h:Way n k d):∃cl b,dm.asks n (dL n) n 0 (dm.new n)=some cl/\(d=0\/d=cl.bp.length)/\dm.e4 n (dL n) n 0 ⟨cl.bz,cl.bp.drop d⟩=some b/\dm.ends n (dL n) k b=true:=by
 have a:=h.run;unfold dm.run at a;split at a
 .cases a
 .rename_i cl c;rw [d8] at a;obtain⟨e,a⟩:=a;split at a
  .cases a
  .rename_i b f;exact⟨cl,b,c,by simpa using e,f,a⟩
theorem C1{n q k:Nat}{z:dm}(h:dm.ends n q k z=true)(a:z.bp=[]):k=0/\z.bz.all Option.isNone=true:=by
 cases k with
 |zero=>
  unfold dm.ends at h;rw [d8] at h;exact⟨j,h.2⟩
 |succ k=>
  unfold dm.ends dm.go at h;rw [a] at h;cases h
theorem C0{n q k:Nat}{z:dm}(h:dm.ends n q k z=true)(a:z.bp≠[]):∃dk ke,k=dk+1/\z.go n q=some ke/\dm.ends n q dk ke=true:=by
 cases k with
 |zero=>
  unfold dm.ends at h;rw [d8] at h;exact(a (List.isEmpty_iff.1 h.1)).elim
 |succ k=>
  unfold dm.ends at h;split at h
  .cases h
  .rename_i ke b;exact⟨k,ke,j,b,h⟩
theorem pC{o:World}{g:al}{aM:Nat}{z:aU}{G:List Chunk}{s:gz}{a:jW}(p:eo g aM z G)(H:iV s a (au [G]) o){N M L:Nat}(ad:z.de g (λ_=>N) M L)(u:773<=N)(v:N+150<=1000000)(B:M+10000<=1000000)(t:L+4200000<=1000000000)(x:g.at o)(y:g.ok)(q:g.off (au [G]))(c:Own [G] o):Calls prog 5 #[aa aM,.agg (cZ s a).toArray] o λr w=>r=ab (z.bF g s).2/\∃af,eo g aM (z.bF g s).1 af/\C o (au [G]) [af] w:=by
 obtain⟨F,E⟩:∃F,F=au [G]:=⟨_,j⟩;have A:g.off F:=E▸q;rw [<-E];have c:C o F [G] o:=E▸c;refine a6 func5 (bJ 2 c j j (λn w c=>?_));have c:C o F [J n (cZ s a).toArray 31,G] w:=c;refine ar 12 j (ax (C.aj (b:=n) c) j) (bo 6 j j (λd=>?_) (λd=>?_))
 .refine l3 1 j j (d) (bP 3 (U:=cZ s a) j j j (bq (C.aj (b:=n) c)) ?_);have i:=se (s:=s) (a:=a) p ((H.st c (λb D=>E▸D))) ad u v B t (x.st c A) y q (c.ours (cM:=[G]));refine br 0 i j (λw⟨af,h,l⟩=>?_);have c:=c.b1 l;refine an 1 j j ?_;have f:s.k=1\/s.k=2\/s.k=3\/s.k=4:=by first|exact .inl (by simpa using d)|exact .inr (.inl (by simpa using d))|exact .inr (.inr (.inl (by simpa using d)))|exact .inr (.inr (.inr (by simpa using d)))
  have e:z.bF g s=z.gZ g s:=by unfold aU.bF;rw [if_pos f]
  rw [e];exact⟨j,af,h,c.as⟩
 refine bo 4 j j (λd=>?_) (λd=>?_)
 .refine l3 1 j j (d) (bP 3 (U:=cZ s a) j j j (bq (C.aj (b:=n) c)) ?_);have i:=se (s:=s) (a:=a) p ((H.st c (λb D=>E▸D))) ad u v B t (x.st c A) y q (c.ours (cM:=[G]));refine br 0 i j (λw⟨af,h,l⟩=>?_);have c:=c.b1 l;refine an 1 j j ?_;have f:s.k=1\/s.k=2\/s.k=3\/s.k=4:=by first|exact .inl (by simpa using d)|exact .inr (.inl (by simpa using d))|exact .inr (.inr (.inl (by simpa using d)))|exact .inr (.inr (.inr (by simpa using d)))
  have e:z.bF g s=z.gZ g s:=by unfold aU.bF;rw [if_pos f]
  rw [e];exact⟨j,af,h,c.as⟩
 refine bo 4 j j (λd=>?_) (λd=>?_)
 .refine l3 1 j j (d) (bP 3 (U:=cZ s a) j j j (bq (C.aj (b:=n) c)) ?_);have i:=se (s:=s) (a:=a) p ((H.st c (λb D=>E▸D))) ad u v B t (x.st c A) y q (c.ours (cM:=[G]));refine br 0 i j (λw⟨af,h,l⟩=>?_);have c:=c.b1 l;refine an 1 j j ?_;have f:s.k=1\/s.k=2\/s.k=3\/s.k=4:=by first|exact .inl (by simpa using d)|exact .inr (.inl (by simpa using d))|exact .inr (.inr (.inl (by simpa using d)))|exact .inr (.inr (.inr (by simpa using d)))
  have e:z.bF g s=z.gZ g s:=by unfold aU.bF;rw [if_pos f]
  rw [e];exact⟨j,af,h,c.as⟩
 refine bo 3 j j (λd=>?_) (λd=>?_)
 .refine bP 3 (U:=cZ s a) j j j (bq (C.aj (b:=n) c)) ?_;have i:=se (s:=s) (a:=a) p ((H.st c (λb D=>E▸D))) ad u v B t (x.st c A) y q (c.ours (cM:=[G]));refine br 0 i j (λw⟨af,h,l⟩=>?_);have c:=c.b1 l;refine an 1 j j ?_;have f:s.k=1\/s.k=2\/s.k=3\/s.k=4:=by first|exact .inl (by simpa using d)|exact .inr (.inl (by simpa using d))|exact .inr (.inr (.inl (by simpa using d)))|exact .inr (.inr (.inr (by simpa using d)))
  have e:z.bF g s=z.gZ g s:=by unfold aU.bF;rw [if_pos f]
  rw [e];exact⟨j,af,h,c.as⟩
 refine bo 4 j j (λI=>?_) (λI=>?_)
 .refine bP 3 (U:=cZ s a) j j j (bq (C.aj (b:=n) c)) ?_;have i:=Bd (s:=s) (a:=a) p ad u v t (x.st c A) y q (c.ours (cM:=[G]));refine br 0 i j (λw⟨af,h,l⟩=>?_);have c:=c.b1 l;refine an 1 j j ?_;have f:s.k=5:=by simpa using I
  have e:z.bF g s=z.rf g s:=by unfold aU.bF;rw [if_neg (by omega),if_pos f]
  rw [e];exact⟨j,af,h,c.as⟩
 refine bo 5 j j (λm=>?_) (λm=>?_)
 .refine l3 1 j j (m) (bP 3 (U:=cZ s a) j j j (bq (C.aj (b:=n) c)) ?_);have i:=uN (s:=s) (a:=a) p ad u v B t (x.st c A) y q (c.ours (cM:=[G]));refine br 0 i j (λw⟨af,h,l⟩=>?_);have c:=c.b1 l;refine an 1 j j ?_;have f:s.k=6\/s.k=7\/s.k=8:=by first|exact .inl (by simpa using m)|exact .inr (.inl (by simpa using m))|exact .inr (.inr (by simpa using m))
  have e:z.bF g s=z.hp g s:=by unfold aU.bF;rw [if_neg (by omega),if_neg (by omega),if_pos f]
  rw [e];exact⟨j,af,h,c.as⟩
 refine bo 4 j j (λm=>?_) (λm=>?_)
 .refine l3 1 j j (m) (bP 3 (U:=cZ s a) j j j (bq (C.aj (b:=n) c)) ?_);have i:=uN (s:=s) (a:=a) p ad u v B t (x.st c A) y q (c.ours (cM:=[G]));refine br 0 i j (λw⟨af,h,l⟩=>?_);have c:=c.b1 l;refine an 1 j j ?_;have f:s.k=6\/s.k=7\/s.k=8:=by first|exact .inl (by simpa using m)|exact .inr (.inl (by simpa using m))|exact .inr (.inr (by simpa using m))
  have e:z.bF g s=z.hp g s:=by unfold aU.bF;rw [if_neg (by omega),if_neg (by omega),if_pos f]
  rw [e];exact⟨j,af,h,c.as⟩
 refine bo 3 j j (λm=>?_) (λm=>?_)
 .refine bP 3 (U:=cZ s a) j j j (bq (C.aj (b:=n) c)) ?_;have i:=uN (s:=s) (a:=a) p ad u v B t (x.st c A) y q (c.ours (cM:=[G]));refine br 0 i j (λw⟨af,h,l⟩=>?_);have c:=c.b1 l;refine an 1 j j ?_;have f:s.k=6\/s.k=7\/s.k=8:=by first|exact .inl (by simpa using m)|exact .inr (.inl (by simpa using m))|exact .inr (.inr (by simpa using m))
  have e:z.bF g s=z.hp g s:=by unfold aU.bF;rw [if_neg (by omega),if_neg (by omega),if_pos f]
  rw [e];exact⟨j,af,h,c.as⟩
 refine bo 4 j j (λK=>?_) (λK=>?_)
 .refine bP 3 (U:=cZ s a) j j j (bq (C.aj (b:=n) c)) ?_;have i:=Ho (s:=s) (a:=a) p ad u v B t (x.st c A) y q (c.ours (cM:=[G]));refine br 0 i j (λw⟨af,h,l⟩=>?_);have c:=c.b1 l;refine an 1 j j ?_;have f:s.k=9:=by simpa using K
  have e:z.bF g s=z.e4 g s:=by unfold aU.bF;rw [if_neg (by omega),if_neg (by omega),if_neg (by omega),if_pos f]
  rw [e];exact⟨j,af,h,c.as⟩
 refine bo 4 j j (λO=>?_) (λO=>?_)
 .refine bP 3 (U:=cZ s a) j j j (bq (C.aj (b:=n) c)) ?_;have i:=ED (s:=s) (a:=a) p ((H.st c (λb D=>E▸D))) ad u v B t (x.st c A) y q (c.ours (cM:=[G]));refine br 0 i j (λw⟨af,h,l⟩=>?_);have c:=c.b1 l;refine an 1 j j ?_;have f:s.k=10:=by simpa using O
  have e:z.bF g s=z.gF g s:=by unfold aU.bF;rw [if_neg (by omega),if_neg (by omega),if_neg (by omega),if_neg (by omega),if_pos f]
  rw [e];exact⟨j,af,h,c.as⟩
 refine bo 4 j j (λP=>?_) (λP=>?_)
 .have i:=FK p ad u v B t (x.st c A) y q (c.ours (cM:=[G]));refine br 3 i j (λw⟨af,h,l⟩=>?_);have c:=c.b1 l;refine an 1 j j ?_;have f:s.k=11:=by simpa using P
  have e:z.bF g s=(z.polls g,0):=by unfold aU.bF;rw [if_neg (by omega),if_neg (by omega),if_neg (by omega),if_neg (by omega),if_neg (by omega),if_pos f]
  rw [e];exact⟨j,af,h,c.as⟩
 refine an 4 j j ?_;simp only [fp,ne_eq] at*;have e:z.bF g s=(z,1):=by unfold aU.bF;rw [if_neg (by omega),if_neg (by omega),if_neg (by omega),if_neg (by omega),if_neg (by omega),if_neg (by omega)]
 rw [e];exact⟨j,G,p,c.as⟩
theorem BQ{o:World}{g:al}{aM:Nat}{z:aU}{G:List Chunk}(d:eo g aM z G)(a:Holds o G):Calls prog 6 #[aa aM] o λr w=>∃b,r=aa b/\w=o:=by
 obtain⟨c,cI,bI,dA,a1,bs,h,rfl⟩:=d;obtain⟨bh,bv,i,f,_,rfl⟩:=h.bp;have e:=a.left.head;refine a6 func6 ?_;refine ar 15 j (ax e (aK some f)) ?_;refine an 1 j j ?_;exact⟨bh,j,j⟩
theorem partAt{o:World}{g:al}{aM:Nat}{z:aU}{G:List Chunk}{i:Int}(k:eo g aM z G)(d:Holds o G)(l:0<=i/\i<(z.parts.length:Int)):Calls prog 15 #[aa aM,ab i] o λr w=>∃(bh:Nat)(b:cR)(a1:List Chunk),r=aa bh/\z.parts[i.toNat]? =some b/\jA g bh b a1/\Holds o a1/\w=o:=by
 obtain⟨c,cI,bI,dA,a1,bs,n,rfl⟩:=k;obtain⟨ak,H,U,rfl,s,a⟩:=n.parts;have f:i.toNat<z.parts.length:=by omega
 have m:=a.len;have p:=a.vh;obtain⟨v,af,h,aB,t,rfl,⟨bh,rfl,j⟩,_⟩:=a.at i.toNat f;have e:=d.right.right.left;refine Calls.mono (yS (V:=jb g) (xs:=z.parts) (U:=U) (i:=i) d.left.head s e.left m p) (λr w⟨q,hw⟩=>⟨bh,z.parts[i.toNat],h,?_,cr f,j,e.right.right.left,hw⟩);rw [q,aR l,pg,t];rfl
theorem zf{o:World}{g:al}{aM:Nat}{z:aU}{G:List Chunk}{i:Int}(d:eo g aM z G)(b:Holds o G):Calls prog 9 #[aa aM,ab i] o λr w=>∃(p:Option Addr)(a:List Chunk),r= .pointer p/\lN g p (z.rep i) a/\Holds o a/\w=o:=by
 obtain⟨c,p,ak,H1,a,m,bI,dA,a1,bs,U,e,j,l,f,k,_,_,rfl,_⟩:=d.r6 i;refine Calls.mono (vl (V:=hL g) (xs:=z.bz) (c:=c) (U:=U) (i:=i) b.left.head j b.right.left.left l f) (λr w⟨h,hw⟩=>⟨p,a,h.trans k,e,b.right.left.right.right.left,hw⟩)
theorem x9{o:World}{g:al}{bh:Nat}{b:cR}{G:List Chunk}(d:jA g bh b G)(a:Holds o G):Calls prog 16 #[aa bh] o λr w=>∃(be:Nat)(L:List Chunk),r=aa be/\kh be b.log L/\Holds o L/\w=o:=by
 obtain⟨c,L,M,V,f,rfl⟩:=d;have e:=a.left.head;refine a6 func16 ?_;refine ar 15 j (ax e j) ?_;refine an 1 j j ?_;exact⟨c.be,L,j,f.log,a.right.left,j⟩
theorem Et{o:World}{be:Nat}{l:dQ}{G:List Chunk}(b:kh be l G)(a:Holds o G):Calls prog 25 #[aa be] o λr w=>r=ab (l.cY.length:Nat)/\w=o:=by
 obtain⟨c,ak,S,E,f,rfl⟩:=b;obtain⟨h,i,us,rfl,g,_⟩:=f.cY;obtain⟨mo,k,e,_,_⟩:=g.form;have d:=a.left.head;refine a6 func25 ?_;refine ar 15 j (ax d (aK some e)) ?_;refine an 2 j j ?_;exact⟨j,j⟩
theorem lN.isNil{g:al}{p:Option Addr}{I:Option bm}{G:List Chunk}(h:lN g p I G)(aF:I.isSome=true):p.isNone=false:=by
 have a:=h.isSome;rw [aF] at a;cases p with
 |none=>cases a
 |some _=>rfl
theorem wD{o:World}{jv gF:Bool}{aQ k:Nat}(t:aQ=if jv=true then 7 else 4)(s:k=if gF=true then kR aQ else 0):Calls prog 4 #[.bool jv,.bool gF] o λr w=>∃(aM:Nat)(g:al)(G:List Chunk),r=aa aM/\g.ok/\g.keys=qd aQ (ca [1])/\eo g aM (aU.new aQ k) G/\C o [] [dU g,G] w:=by
 have B:aQ=4\/aQ=7:=by rw [t];split<;>simp
 have K:k<=kR aQ:=by rw [s];split<;>omega
 have S:k<aQ:=by have:=xg (n:=aQ) (by omega);omega
 have F:kR aQ=(aQ-1)/3:=by rcases B with rfl|rfl<;>rfl
 refine a6 func4 (lv 7 j (λZ w=>sub Z [(1,.bool gF),(5,.int .i64 (aQ:Nat)),(6,ab 0)]/\w=o) ?_ ?_)
 .refine bo 3 j j (λl=>?_) (λl=>?_)
  .refine bW 2 j (⟨⟨j,aK (λx:Nat=>some (Value.int .i64 (x:Int))) (by rw [t,aR l]),j,bb⟩,j⟩)
  refine bW 1 j (⟨⟨j,aK (λx:Nat=>some (Value.int .i64 (x:Int))) (by rw [t,az (by simp [l])]),j,bb⟩,j⟩)
 rintro Z w ⟨aF,a⟩;have a:=a.symm;subst a;refine lf [(1,.bool gF),(5,.int .i64 (aQ:Nat)),(6,ab 0)] aF (lv 0 j (λZ w=>sub Z [(5,.int .i64 (aQ:Nat)),(6,.int .i64 (k:Nat))]/\w=o) ?_ ?_)
 .refine bo 3 j j (λm=>?_) (λm=>?_)
  .refine bE 2 j j j (iH aQ 1 (by omega) (by omega)) (vY (R:=3) j j j j (by decide) (by omega) (bW 1 j (⟨⟨j,aK (λx:Nat=>some (Value.int .i64 (x:Int))) (by rw [s,aR m,F]),bb⟩,j⟩)))
  refine bW 1 j (⟨⟨j,aK (λx:Nat=>some (Value.int .i64 (x:Int))) (show 0=k by rw [s,az (by simp [m])]),bb⟩,j⟩)
 rintro Z w ⟨aF,a⟩;have a:=a.symm;subst a;refine lf [(5,.int .i64 (aQ:Nat)),(6,.int .i64 (k:Nat))] aF (bk 4 (Fc (o:=_) (aQ:=aQ) (k:=k) B K) j (λr u⟨aM,g,G,c,I,H,e,A⟩=>?_));subst c;have f:Holds u G:=A.holds (G:=G) (by simp);refine aq 11 j (bY 24 (.bool false) j (aK Value.bool (j)) ?_);refine aq 4 j (bY 28 (.bool false) j (aK Value.bool (j)) ?_);refine bk 1 (BQ e f) j (λr d⟨bh,c,h⟩=>?_);subst c;subst d;refine dj 9 j (cU:=Nat) (λi=>[(5,.int .i64 (aQ:Nat)),(7,aa aM),(9,.int .i64 (i:Nat))]) (λi w=>i<=4/\w=u) (λi=>4-i) 0 ⟨j,j,j,bb⟩ ⟨cp _,j⟩ ?_;rintro i w ⟨J,a⟩;have a:=a.symm;subst a;refine cy 5 j j (λq=>?_) (λq=>?_)
 .refine bk 7 (partAt (i:=(i:Int)) e f ⟨by omega,by have:=q;show(i:Int)<((iO 4).length:Int);rw [show(iO 4).length=4 from nY];omega⟩) j (λr d⟨bh,b,a1,c,M,y,z,h⟩=>?_);subst c;subst d;refine aq 2 j (bY 41 (.bool false) j (aK Value.bool (j)) ?_);refine bk 2 (partAt (i:=(i:Int)) e f ⟨by omega,by have:=q;show(i:Int)<((iO 4).length:Int);rw [show(iO 4).length=4 from nY];omega⟩) j (λr d⟨bh,b,a1,c,M,y,z,h⟩=>?_);subst c;subst d;refine bk 0 (x9 y z) j (λr d⟨be,L,c,Q,O,h⟩=>?_);subst c;subst d;exact bE 6 j j j (dn i (by omega)) (bW 1 j ⟨i+1,⟨j,j,j,bb⟩,⟨by omega,j⟩,by omega⟩)
 refine dj 6 j (cU:=Nat) (λi=>[(5,.int .i64 (aQ:Nat)),(7,aa aM),(10,.int .i64 (i:Nat))]) (λi w=>i<=aQ/\w=u) (λi=>aQ-i) 0 ⟨j,j,j,bb⟩ ⟨cp _,j⟩ ?_;rintro i w ⟨J,a⟩;have a:=a.symm;subst a;refine cy 6 j j (λD=>?_) (λD=>?_)
 .refine br 7 (pO (i:=(i:Int)) e f) j (λd h=>?_);subst d;refine aq 1 j (c9 56 j (λv=>?_) (λv=>?_));refine bk 2 (zf (i:=(i:Int)) e f) j (λr d⟨p,N,c,E,P,h⟩=>?_);subst c;subst d;refine ij 2 j j ((E.isNil v)) (bE 3 j j j (dn i (by omega)) ?_);rotate_left
  refine bE 9 j j j (dn i (by omega)) ?_;rotate_left
  all_goals
   exact bW 1 j ⟨i+1,⟨j,j,j,bb⟩,⟨by omega,j⟩,by omega⟩
 exact an 5 j j ⟨aM,g,G,j,I,H,e,A⟩
theorem Ed{o:World}:Calls prog 13 #[] o λr w=>r= .bool true/\C o [] [] w:=by
 refine a6 func13 (bk 5 (wD (jv:=false) (gF:=true) (aQ:=4) (k:=1) j j) j (λr t⟨aM,g,G,c,v,u,f,h⟩=>?_));subst c;have e:Holds t G:=h.holds (G:=G) (by simp);refine aq 6 j (bY 5 (.bool true) j (aK Value.bool (j)) ?_);refine br 1 (pO (i:=0) f e) j (λa d=>?_);subst a;refine aq 2 j (bY 9 (.bool true) j (aK Value.bool (j)) ?_);refine br 1 (pO (i:=3) f e) j (λa d=>?_);subst a;refine aq 3 j (bY 14 (.bool true) j (aK Value.bool (j)) ?_);refine bk 1 (partAt (i:=0) f e ⟨by decide,by decide⟩) j (λr a⟨bh,b,a1,c,s,l,m,d⟩=>?_);subst c;subst a;refine bk 0 (x9 l m) j (λr a⟨be,L,c,p,n,d⟩=>?_);subst c;subst a;refine br 0 (Et p n) j (λa d=>?_);subst a;have q:b=cR.new:=(hn s).symm;subst q;exact an 3 j j ⟨j,h.bare⟩
theorem aU.F5{z:aU}{i:Nat}{x:bm}(h:z.rep (i:Int)=some x):z.bz[i]? =some (some x):=by
 unfold aU.rep at h;rw [aR (by omega),lj] at h;cases a:z.bz[i]? with
 |none=>rw [a] at h;cases h
 |some I=>rw [a] at h;have h:I=some x:=h;rw [h]
theorem al.rl{g:al}{o w:World}{F:List Nat}{ae:List (List Chunk)}(h:C o F ae w)(a:dU g∈ae):g.at w:=⟨(h.holds a).head,(h.holds a).tail.head⟩
theorem al.r3{g:al}{o w:World}{F:List Nat}{G:List Chunk}{ae:List (List Chunk)}(h:C o F (G::ae) w)(d:dU g∈ae):g.off (au [G]):=by
 have aT:=h.nodup;rw [of] at aT;have c:=(iX.1 aT).2.2;have hm:∀b,b∈au [dU g]->b∈au ae:=fE (by simpa using d);exact⟨λa=>c _ a _ (hm g.av (by simp [au])) j,λa=>c _ a _ (hm g.fO (by simp [au])) j⟩
def k5:jW:=⟨none,0,none,0,none,0⟩
theorem ql(k node:Int)(F:List Nat)(w:World):iV (eO k node) k5 F w:=⟨Rd.nil _ _,λh=>absurd j h,cF _,Rd.nil _ _,λh=>absurd j h,cF _,Rd.nil _ _,λh=>absurd j h,cF _,cp _⟩
theorem HI(jv drop:Bool):∃k d,Way (if jv=true then 7 else 4) k d/\d+k+(if jv=true then 7 else 4)<=115/\(drop=false->d=0)/\(drop=true->0<d):=by
 cases jv<;>cases drop
 .exact⟨36,0,⟨Gf⟩,by decide,λ_=>rfl,λh=>by cases h⟩
 .exact⟨30,6,⟨Gg⟩,by decide,(λh=>by cases h),λ_=>by decide⟩
 .exact⟨108,0,⟨Gh⟩,by decide,λ_=>rfl,λh=>by cases h⟩
 .exact⟨96,12,⟨Gi⟩,by decide,(λh=>by cases h),λ_=>by decide⟩
theorem wA{o:World}{g:al}{aM:Nat}{z:aU}{G:List Chunk}(f:eo g aM z G)(a:Holds o G):Calls prog 6 #[aa aM] o λr w=>∃a1,gH r z.bp z.lost a1/\Holds o a1/\w=o:=by
 obtain⟨c,cI,bI,dA,a1,bs,d,rfl⟩:=f;have e:=d.bp;obtain⟨bh,bv,i,b,_,_⟩:=d.bp;have h:=a.left.head;refine a6 func6 ?_;refine ar 15 j (ax h (aK some b)) ?_;refine an 1 j j ?_;exact⟨a1,b▸e,a.right.right.right.right.left,j⟩
theorem Cj{o:World}{g:al}{aM:Nat}{z:aU}{G:List Chunk}{i:Nat}{e:bw}{s:Int}(n:eo g aM z G)(a:Holds o G)(p:z.b9[i]? =some (e,s)):Calls prog 11 #[aa aM,.int .i64 i] o λr w=>∃aA GE,r=aa aA/\hk aA e GE/\Holds o GE/\w=o:=by
 obtain⟨c,cI,bI,dA,a1,bs,x,rfl⟩:=n;obtain⟨ak,H,U,rfl,B,f⟩:=x.b9;obtain⟨u,t⟩:=e8.1 p;have L:=f.len;obtain⟨v,af,D,aB,C,rfl,h,_⟩:=f.at i u;rw [t] at h;obtain⟨aL,aA,GE,rfl,m,rfl⟩:=h;have k:=a.left.head;have d:=a.right.right.right.left;have b:=d.right.right.left;have y:=b.left.head;obtain⟨mo,F,l,J,K,A,_⟩:=Row.read B d.left;refine a6 func11 (aq 9 j (bY 7 (.bool false) j (aK Value.bool (j)) ?_));refine aq 4 j (bY 11 (.bool false) j (aK Value.bool ((e7 (by omega)))) ?_);refine ar 4 j (ax k (aK some l)) (ij 3 j j ((e7 (by omega))) (ar 6 j (ax k (aK some l)) (aq 1 j (fJ j j j j A (v:=aa aL) (by rw [gK];exact C) (by omega) (λE I q=>?_)))));exact ar 0 j q (ar 2 j (ax y j) (an 1 j j ⟨aA,GE,j,m,b.right,j⟩))
theorem CM{o:World}{g:al}{aM:Nat}{z:aU}{G:List Chunk}{dD:dm}{k R:Nat}(p:eo g aM z G)(f:h4 g lq dD z)(u:dm.ends g.n (dL g.n) k dD=true)(v:z.b9=ig)(l:z.ok g R)(aj:R+k<=118)(O:1<g.n)(aT:g.n<=10)(ag:1<=dL g.n)(D:g.at o)(E:g.ok)(ae:g.off (au [G]))(b:Own [G] o):Calls prog 8 #[aa aM] o λr w=>r= .bool true/\∃(t:aU)(af:List Chunk)(m:Nat),eo g aM t af/\t.ok g m/\(∀i:Nat,i<g.n->∃x,t.rep (i:Int)=some x/\x.s.log.length=1)/\(∃e s,t.b9[2]? =some (e,s)/\e.known=true)/\C o (au [G]) [af] w:=by
 obtain⟨d,K⟩:∃d,d=au [G]:=⟨_,j⟩;have H:g.off d:=K▸ae;rw [<-K];have b:C o d [G] o:=K▸b;refine a6 func8 (dj 8 j (cU:=Nat×aU×List Chunk) (λq=>[(0,aa aM),(3,.int .i64 (q.1:Nat))]) (λq w=>q.1<=k/\eo g aM q.2.1 q.2.2/\(∃dD,h4 g lq dD q.2.1/\dm.ends g.n (dL g.n) (k-q.1) dD=true)/\q.2.1.b9=ig/\q.2.1.ok g (R+q.1)/\C o d [q.2.2] w) (λq=>k-q.1) (0,z,G) ⟨j,j,bb⟩ ⟨cp _,p,⟨dD,f,u⟩,v,l,b⟩ ?_);rintro⟨i,z,G⟩ w ⟨ac,p,⟨dD,f,u⟩,v,l,b⟩;dsimp only at ac p f u v l b⊢;have U:Holds w G:=b.holds (G:=G) (by simp);refine bk 4 (wA p U) j (λr N⟨a1,S,V,ah⟩=>?_);subst N;refine br 0 (rm S V) j (λN ah=>?_);subst N;refine cy 1 j j (λdu=>?_) (λdu=>?_)
 .have Y:dD.bp≠[]:=λe=>by
   have h:=du;rw [f.bp,e] at h;simp at h
  obtain⟨ai,Q,am,ab,T⟩:=C0 u Y;refine aq 8 j (bY 12 (.bool false) j (aK Value.bool ((e7 (by omega)))) ?_);refine aq 1 j (cP (c:=(cZ (eO 6 0) k5).toArray) j j j (λ_=>by kernel_rfl) ?_);have L:=pC (s:=eO 6 0) (a:=k5) p (ql _ _ _ _) l.F (by omega) (by omega) (by omega) (by omega) (D.st b H) E (D.apart b H) b.h7;refine bk 0 L j (λr w⟨y,af,A,M⟩=>?_);obtain⟨J,P,B,_⟩:=Dv u6 O aT ag f ab;rw [J] at y;subst y;have I:=l.bF E (eO 6 0);have b:C o d [af] w:=b.gT M;have B:=B.trans v;generalize (z.bF g (eO 6 0)).1=t at A P B I;exact bE 6 j j j (dn i (by omega)) (bW 1 j ⟨(i+1,t,af),⟨j,j,bb⟩,⟨by dsimp only;omega,A,⟨Q,P,by dsimp only;rw [show k-(i+1)=ai by omega];exact T⟩,B,I,b⟩,by dsimp only;omega⟩)
 have X:dD.bp=[]:=by
  have h:=du;rw [f.bp,fa] at h;exact nX.1 (by omega)
 obtain⟨ak,W⟩:=C1 u X;refine aq 4 j (cP (c:=(cZ (eO 11 0) k5).toArray) j j j (λ_=>by kernel_rfl) ?_);have L:=pC (s:=eO 11 0) (a:=k5) p (ql _ _ _ _) l.F (by omega) (by omega) (by omega) (by omega) (D.st b H) E (D.apart b H) b.h7;refine bk 0 L j (λr w⟨y,af,A,M⟩=>?_);obtain⟨J,ad,Z⟩:=FJ f O W v;rw [J] at y;subst y;have I:=l.bF E (eO 11 0);have b:C o d [af] w:=b.gT M;exact an 2 j j ⟨j,_,af,_,A,I,ad,Z,b⟩
theorem HA{o:World}{jv drop:Bool}:Calls prog 3 #[.bool jv,.bool drop] o λr w=>r= .bool true/\C o [] [] w:=by
 have b:Own [] o:=C.start o;obtain⟨k,d,hw,bc,aZ,ap⟩:=HI jv drop;obtain⟨aQ,N⟩:∃aQ,aQ=if jv=true then 7 else 4:=⟨_,j⟩
 rw [<-N] at hw bc;obtain⟨cl,aj,aG,bj,T,ac⟩:=hw.open;have a9:aQ=4\/aQ=7:=by rw [N];split<;>simp
 have ar:1<=dL aQ:=by rcases a9 with rfl|rfl<;>decide
 refine a6 func3 (bk 6 (wD (jv:=jv) (gF:=false) (k:=0) N j) j (λr aw⟨aM,g,G,P,D,a2,t,ad⟩=>?_));subst P;have b:C o [] [G,dU g] aw:=(b.aO ad).as;have J:g.n=aQ:=by show g.keys.length=aQ;rw [a2,F8];omega
 have S:1<g.n:=by omega
 have aT:g.n<=10:=by omega
 have l:(aU.new aQ 0).ok g 0:=aU.lz J (cp _) (by omega);have au:1<=dL g.n:=by rw [J];exact ar
 have T:dm.e4 g.n (dL g.n) g.n 0 ⟨cl.bz,cl.bp.drop d⟩=some aj:=by rw [J];exact T
 have ac:dm.ends g.n (dL g.n) k aj=true:=by rw [J];exact ac
 refine lv 11 j (λZ w=>sub Z [(1,.bool drop),(5,aa aM),(6,.int .i64 (aQ:Nat))]/\w=aw) ?_ ?_
 .refine bo 3 j j (λW=>?_) (λW=>?_)
  .exact bW 2 j ⟨⟨j,j,aK (λx:Nat=>some (Value.int .i64 (x:Int))) (by rw [N,aR W]),bb⟩,j⟩
  exact bW 1 j ⟨⟨j,j,aK (λx:Nat=>some (Value.int .i64 (x:Int))) (by rw [N,az (by simp [W])]),bb⟩,j⟩
 rintro Z w ⟨aF,ai⟩;have ai:=ai.symm;subst ai;refine lf [(1,.bool drop),(5,aa aM),(6,.int .i64 (aQ:Nat))] aF (aq 4 j (cP (c:=(cZ (eO 1 2) k5).toArray) j j j (λ_=>by kernel_rfl) ?_));have M:=pC (s:=eO 1 2) (a:=k5) t (ql _ _ _ _) l.F (by omega) (by omega) (by omega) (by omega) (al.rl b (by simp)) D (al.r3 b (by simp)) b.h7;refine bk 0 M j (λr w⟨O,af,v,H⟩=>?_);obtain⟨ab,f,u⟩:=BS (g:=g) J (by omega) ar aG;rw [ab] at O;subst O;have A:=l.bF D (eO 1 2);have b:C o [] [af,dU g] w:=b.gT H;generalize ((aU.new aQ 0).bF g (eO 1 2)).1=K at v f u A;refine lv 3 j (λZ w=>sub Z [(5,aa aM),(6,.int .i64 (aQ:Nat))]/\∃(z:aU)(G:List Chunk),eo g aM z G/\h4 g lq ⟨cl.bz,cl.bp.drop d⟩ z/\z.b9=ig/\z.ok g (1+d)/\C o [] [G,dU g] w) ?_ ?_
 .refine dj 4 j (cU:=Nat×aU×List Chunk) (λq=>[(1,.bool drop),(5,aa aM),(6,.int .i64 (aQ:Nat)),(7,.int .i64 (q.1:Nat))]) (λq w=>q.1<=d/\eo g aM q.2.1 q.2.2/\h4 g lq ⟨cl.bz,cl.bp.drop q.1⟩ q.2.1/\q.2.1.b9=ig/\q.2.1.ok g (1+q.1)/\C o [] [q.2.2,dU g] w) (λq=>d-q.1) (0,K,af) ⟨j,j,j,j,bb⟩ ⟨cp _,v,f,u,A,b⟩ ?_;rintro⟨i,z,G⟩ w ⟨V,t,f,u,l,b⟩;dsimp only at V t f u l b⊢;refine aq 5 j (c9 23 j (λR=>?_) (λR=>?_))
  .have aJ:Holds w G:=b.holds (G:=G) (by simp);refine bk 1 (wA t aJ) j (λr I⟨a1,aH,aL,ah⟩=>?_);subst I;refine br 0 (rm aH aL) j (λI ah=>?_);subst I;refine aq 3 j (c9 29 j (λX=>?_) (λX=>?_))
   .refine cy 3 j j (λay=>?_) (λay=>?_)
    .have a0:drop=true:=by simpa using R
     have a8:i<cl.bp.length:=by
      have h:=dV X;rw [f.bp,fa,iC] at h;omega
     have E:i<d:=by have:=ap a0;omega
     refine aq 5 j (cP (c:=(cZ (eO 7 0) k5).toArray) j j j (λ_=>by kernel_rfl) ?_);have M:=pC (s:=eO 7 0) (a:=k5) t (ql _ _ _ _) l.F (by omega) (by omega) (by omega) (by omega) (al.rl b (by simp)) D (al.r3 b (by simp)) b.h7;refine bk 0 M j (λr w⟨_,af,v,H⟩=>?_);rw [jF a8] at f;obtain⟨L,B⟩:=CP f;have A:=l.bF D (eO 7 0);have b:C o [] [af,dU g] w:=b.gT H;have B:=B.trans u;generalize (z.bF g (eO 7 0)).1=K at v L B A;exact bE 2 j j j (dn i (by omega)) (bW 1 j ⟨(i+1,K,af),⟨j,j,j,j,bb⟩,⟨E,v,L,B,A,b⟩,by dsimp only;omega⟩)
    refine bW 1 j ?_;have E:i=d:=by omega
    subst E;exact⟨⟨j,j,bb⟩,z,G,t,f,u,l,b⟩
   refine bW 5 j ?_
   have E:i=d:=by
    have h:=dY X;rw [f.bp,fa,iC] at h;have:=ap (by simpa using R);omega
   subst E;exact⟨⟨j,j,bb⟩,z,G,t,f,u,l,b⟩
  refine bW 11 j ?_;have E:i=d:=by have:=aZ (by simpa using R);omega
  subst E;exact⟨⟨j,j,bb⟩,z,G,t,f,u,l,b⟩
 rintro Z w ⟨aF,z,G,t,f,u,l,b⟩;refine lf [(5,aa aM),(6,.int .i64 (aQ:Nat))] aF (dj 5 j (cU:=Nat×aU×List Chunk) (λq=>[(5,aa aM),(6,.int .i64 (aQ:Nat)),(8,.int .i64 (q.1:Nat))]) (λq w=>q.1<=aQ/\eo g aM q.2.1 q.2.2/\(∃dD,dm.e4 g.n (dL g.n) q.1 0 ⟨cl.bz,cl.bp.drop d⟩=some dD/\h4 g lq dD q.2.1)/\q.2.1.b9=ig/\q.2.1.ok g (1+d+q.1)/\C o [] [q.2.2,dU g] w) (λq=>aQ-q.1) (0,z,G) ⟨j,j,j,bb⟩ ⟨cp _,t,⟨_,j,f⟩,u,l,b⟩ ?_);rintro⟨i,z,G⟩ w ⟨V,t,⟨dD,U,f⟩,u,l,b⟩;dsimp only at V t U f u l b⊢;refine cy 6 j j (λY=>?_) (λY=>?_)
 .refine aq 7 j (cP (c:=(cZ (eO 9 (i:Nat)) k5).toArray) j j j (λ_=>by kernel_rfl) ?_);obtain⟨aC,aS,am,ao,aX⟩:=zT g.n 0 T i (by omega);rw [U] at am;cases am;rw [fe] at ao;have M:=pC (s:=eO 9 (i:Nat)) (a:=k5) t (ql _ _ _ _) l.F (by omega) (by omega) (by omega) (by omega) (al.rl b (by simp)) D (al.r3 b (by simp)) b.h7;refine bk 0 M j (λr w⟨O,af,v,H⟩=>?_);obtain⟨ab,L,B⟩:=Hm u6 S au f ao;rw [ab] at O;subst O;have A:=l.bF D (eO 9 (i:Nat));have b:C o [] [af,dU g] w:=b.gT H;have B:=B.trans u;generalize (z.bF g (eO 9 (i:Nat))).1=K at v L B A;exact bE 5 j j j (dn i (by omega)) (bW 1 j ⟨(i+1,K,af),⟨j,j,j,bb⟩,⟨by have:=Y;dsimp only;omega,v,⟨_,aX,L⟩,B,A,b⟩,by have:=Y;dsimp only;omega⟩)
 have a3:i=aQ:=by omega
 rw [a3,<-J,T] at U;cases U;refine br 5 (CM t f ac u l (by omega) S aT au (al.rl b (by simp)) D (al.r3 b (by simp)) b.h7) j (λw⟨K,af,m,v,A,a7,⟨e,s,aY,a4⟩,H⟩=>?_);have b:C o [] [af,dU g] w:=b.gT H;refine dj 8 j (cU:=Nat) (λq=>[(5,aa aM),(6,.int .i64 (aQ:Nat)),(9,.int .i64 (q:Nat))]) (λq w=>q<=aQ/\C o [] [af,dU g] w) (λq=>aQ-q) 0 ⟨j,j,j,bb⟩ ⟨cp _,b⟩ ?_;rintro i w ⟨V,b⟩;refine cy 6 j j (λaB=>?_) (λaB=>?_)
 .have ae:Holds w af:=b.holds (G:=af) (by simp);obtain⟨x,av,a5⟩:=a7 i (by omega);refine bk 7 (zf (i:=(i:Int)) v ae) j (λr I⟨p,ax,P,ak,aP,ah⟩=>?_);subst P;subst I;rw [av] at ak
  obtain⟨Q,rfl,aW⟩:∃Q,p=some ⟨Q,0,none⟩/\hB g Q x ax:=by
   rcases ak with⟨_,h,_⟩|⟨y,Q,S,aD,aE⟩
   .cases h
   .cases aD;exact⟨Q,S,aE⟩
  refine bk 0 (EF aW aP (A.iw i x (aU.F5 av)).1.s) j (λr w⟨bd,⟨bf,be,us,bi,aV,_⟩,ag⟩=>?_);obtain⟨bg,bh,ba,_,_⟩:=aV.form;subst ba;have b:C o [] [af,dU g] w:=(b.aO ag).as;exact ij 2 j j ((by simp [a5])) (bE 3 j j j (dn i (by omega)) (bW 1 j ⟨i+1,⟨j,j,j,bb⟩,⟨by omega,b⟩,by omega⟩))
 have ae:Holds w af:=b.holds (G:=af) (by simp);refine bk 4 (Cj (i:=2) v ae aY) j (λr I⟨aA,GE,P,aI,aN,ah⟩=>?_);subst P;subst I;refine br 0 (C5 aI aN) j (λw ag=>?_);have b:=b.aO ag;refine aq 11 j (bY 70 (.bool true) j (aK Value.bool (a4)) ?_);refine br 0 Ed j (λw ad=>?_);have b:=b.aO ad;exact an 2 j j ⟨j,b.bare⟩
theorem views_law{o:World}{jv drop:Bool}:Go.Calls prog 3 #[.bool jv,.bool drop] o (λe w=>∃r,e= .returned r/\r= .bool true/\∃ae,C o [] ae w):=
 (Calls.mono HA λ_ _ h=>⟨h.1,_,h.2⟩).plain
end Go.Proofs.YtmholjbhjcpkhaaGreatDoor.R
