/- Part 3 of the proof. -/
import Derived.Test.YtdomoelfhjdioaaGreatDoorM2
set_option linter.unusedVariables false
set_option linter.unusedSimpArgs false
set_option linter.unusedSectionVars false
set_option maxRecDepth 20000
set_option maxHeartbeats 4000000
namespace Go.Proofs.YtdomoelfhjdioaaGreatDoor.R
open Go.Proofs.Tryz Go Go.RowKit Go.Proofs
theorem EO{o:World}{eA:FuncId}[Entry prog eA]{bf:Array Value}{p:List UInt8->Bool}(s:∀(A:Option Addr)(x:List UInt8)(bR:Nat),Rd o A (aG x)->Calls prog eA (#[]++ #[.slice A x.length bR]++bf) o (λr w=>r= .bool (p x)/\w=o)){v:Value}{l:List (List UInt8)}{G:List Chunk}(n:iB v l G)(e:Holds o G):Calls prog 234 #[v,.func (.func eA) #[] bf] o λr w=>(∃z:Int,r= .int .i64 z/\decide (z>=0)=l.any p)/\w=o:=by
 obtain⟨F,E,us,rfl,m,k⟩:=n;obtain⟨f,h,rfl,M,C,u,_⟩:=m.read e.left;refine a2 func234 ?_
 refine cH 10 j (ct:=Nat) (λi=>[(0,.slice f l.length h),(1,.func (.func eA) #[] bf),(7,.int .i64 (l.length:Nat)),(8,.int .i64 (i:Nat))])
  (λi w=>i<=l.length/\(l.take i).any p=false/\w=o) (λi=>l.length-i) 0 ⟨j,j,j,j,aY⟩ ⟨b6 _,j,j⟩ ?_
 rintro i w ⟨J,c,hw⟩;subst hw;refine cm 4 j j (λg=>?_) (λg=>?_)
 .have a:i<l.length:=by omega
  obtain⟨d,ci,B,K,L,y⟩:=k.read e.right i a;refine aq 12 j (fz j j j j u (v:=.slice d l[i].length ci) (by rw [gZ];exact B) a (λH I q=>?_));refine al 0 j q (hL j j j j (s d l[i] ci y) (λr w⟨D,hw⟩=>?_));subst D;subst hw;refine bm 0 j j (λb=>?_) (λb=>?_)
  .refine ao 4 j j (⟨⟨_,j,?_⟩,j⟩);rw [jC (by omega)];exact(kl.2 ⟨_,et a,b⟩).symm
  refine bq 2 j j j (cM i (by unfold maxLen at C;omega)) (bP 1 j (⟨i+1,⟨j,j,j,j,aY⟩,⟨a,?_,j⟩,by omega⟩));rw [fu a,rJ,c];simp [b]
 refine ao 4 j j ?_;have t:i=l.length:=by omega
 rw [t,gu] at c;exact⟨⟨_,j,by rw [c];rfl⟩,j⟩
theorem xK{o:World}{eA:FuncId}[Entry prog eA]{bf:Array Value}{p:List UInt8->Bool}(c:∀(A:Option Addr)(x:List UInt8)(bR:Nat),Rd o A (aG x)->Calls prog eA (#[]++ #[.slice A x.length bR]++bf) o (λr w=>r= .bool (p x)/\w=o)){v:Value}{l:List (List UInt8)}{G:List Chunk}(b:iB v l G)(a:Holds o G):Calls prog 218 #[v,.func (.func eA) #[] bf] o λr w=>r= .bool (l.any p)/\w=o:=by
 refine a2 func218 (bh 7 (EO c b a) j (λr w⟨⟨z,d,e⟩,hw⟩=>?_));subst d;subst hw;exact ao 2 j j ⟨aH Value.bool e,j⟩
theorem Fh{o:World}{a:Nat}{A B:Option Addr}{xs c0:List UInt8}{bR d:Nat}(e:o.heap[a]? =some (.cells #[.slice B c0.length d] 28 (0,0)))(b:Rd o A (aG xs))(c:Rd o B (aG c0)):Calls prog 272 (#[]++ #[.slice A xs.length bR]++ #[ab a]) o λr w=>r= .bool (decide (xs=c0))/\w=o:=by
 refine a2 func272 (al 6 j (aw e j) (bo 0 (qr b c) j (λw hw=>?_)));subst hw;exact ao 1 j j ⟨j,j⟩
theorem w6(l:List (List UInt8))(x:List UInt8):(l.any λy=>decide (y=x))=decide (x∈l):=by
 rw [m9];simp only [kl,gd];exact⟨λ⟨y,a,b⟩=>b▸a,λh=>⟨x,h,j⟩⟩
theorem h0.app:∀{us c:List Value}{l b0:List (List UInt8)}{G a:List Chunk},h0 us l G->h0 c b0 a->h0 (us++c) (l++b0) (G++a)
 |[],_,[],_,_,_,h,b=>by have h:_=[]:=h;subst h;exact b
 |[],_,_::_,_,_,_,h,_=>h.elim
 |_::_,_,[],_,_,_,h,_=>h.elim
 |_::_,_,_::_,_,_,a,⟨ai,aA,rfl,hu,h⟩,b=>⟨ai,aA++a,by rw [dF],hu,h.app b⟩
theorem h0.one{u:Value}{x:List UInt8}{G:List Chunk}(h:dt u x G):h0 [u] [x] G:=⟨G,[],by simp,h,j⟩
def qe(l:List (List UInt8))(x:List UInt8):List (List UInt8):=if x∈l then l else l++[x]
theorem aj.Fk(s:aj)(x:List UInt8):(s.jL x).dh=qe s.dh x:=by unfold aj.jL qe;split<;>rfl
theorem Fj{o:World}{av:Nat}{g:am}{s:aj}{c:eX}{c1:List Chunk}(n:iB c.dh s.dh c1)(M:s.dh.length<=1000000){A:Option Addr}{x:List UInt8}{bR:Nat}(E:Rd o A (aG x))(q:bX A (aG x) (au [bd g av s c,c1]))(N:x.length<=1000000)(a:Own [bd g av s c,c1] o):Calls prog 239 #[ab av,.slice A x.length bR] o λr w=>r= .tuple #[]/\∃v1 v,iB v1 (qe s.dh x) v/\C o (au [bd g av s c,c1]) [bd g av s {c with dh:=v1},v] w:=by
 obtain⟨d,B⟩:∃d,d=au [bd g av s c,c1]:=⟨_,j⟩;rw [<-B] at q⊢;have a:C o d [bd g av s c,c1] o:=B▸a;refine a2 func239 (bM 2 a j j (λf w a=>?_));have a:C o d [R f #[.slice A x.length bR] 28,bd g av s c,c1] w:=a;refine al 5 j (aw (C.ak a) j) (gV j j j j ?_);have t:=xK (p:=λy=>decide (y=x)) (bf:= #[ab f]) (eA:=272) (λgU dP L F=>Fh (C.ak a) F (a.rd E q)) n (a.holds (by simp));refine bo 0 t j (λw hw=>?_);subst hw;refine bm 1 j j (λi=>?_) (λi=>?_)
 .have a:=a.drew;refine bw 0 j (λw=>∃ae,C o d ([R f #[.slice A x.length bR] 28,bd g av s c]++ae) w) ⟨_,a⟩ (af 0 4 j (a8 4 j a1 j (a8 5 j a1 j (aU 6 j ?_))));have t:=g3 (c:=bR) (a.rd E q) (by omega);refine cN j j j t (λr w⟨e,m,I⟩=>?_);have a:=a.aM I;have a:C o d [R f #[.slice A x.length bR] 28,bd g av s c,c1,e] w:=a.as;refine ar ⟨⟨_,a⟩,?_⟩;refine aU 7 j (eO (U:=[r]) a j j j j j (by simpa using m.one) bJ (λl w a=>?_));have aJ:=bp (C.ak (b:=l) a);have a:C o d [R f #[.slice A x.length bR] 28,bd g av s c,c1,e,R l #[r] 28] w:=a.as;refine ar ⟨⟨_,a⟩,?_⟩;refine aU 8 j ?_;obtain⟨z,h,us,rfl,H,G⟩:=n;have a:C o d [R f #[.slice A x.length bR] 28,bd g av s c,z,h,e,R l #[r] 28] w:=a.perm (by simp);refine d9 (a.to z) H j j (by decide) j j j (news:=[r]) j aJ (by intro u hu;rw [List.mem_singleton.1 hu];exact m.one) (by omega) (by unfold maxLen;omega) (λv1 k w D a=>?_);have a:C o d [R f #[.slice A x.length bR] 28,bd g av s c,k,h,e] w:=a.as;refine ar ⟨⟨_,a⟩,?_⟩;refine af 9 2 j (dy 11 j (cC (a.bc av) j j j D.one bJ (λw a=>?_)));have a:C o d (bd g av s {c with dh:=v1}::_) w:=a;refine ar (cX (ao 0 j j ?_));have J:x∉s.dh:=by rw [w6] at i;simpa using i
  unfold qe;rw [aI J];refine⟨j,v1,k++(h++e),⟨k,h++e,us++[r],j,?_,G.app (h0.one m)⟩,C.perm (A:=[bd g av s {c with dh:=v1},k,h,e]) a.as (by simp)⟩;rw [b4,List.length_singleton];exact D
 refine ao 1 j j ?_;have K:x∈s.dh:=by rw [w6] at i;simpa using i
 unfold qe;rw [a6 K];exact⟨j,c.dh,c1,n,a.as⟩
theorem xX{o:World}{av:Nat}{g:am}{s:aj}{c:eX}{A B:Option Addr}{x:List UInt8}{l:List aF}{bR d:Nat}(D:Rd o A (aG x))(u:Rd o B (vcs l))(z:∀v∈l,v.ok)(E:x.length<=1000000)(y:l.length<=1000)(a:Own [bd g av s c] o):Calls prog 243 #[ab av,.slice A x.length bR,.slice B l.length d] o λr w=>r= .tuple #[]/\∃v1 v2 e f,dt v1 x e/\er v2 l f/\C o (au [bd g av s c]) [bd g av (s.gf x l) {c with value:=v1,dG:=v2},e,f] w:=by
 obtain⟨b,m⟩:∃b,b=au [bd g av s c]:=⟨_,j⟩;rw [<-m];have a:C o b [bd g av s c] o:=m▸a;refine a2 func243 ?_;have i:=g3 (c:=bR) D (by omega);refine bh 5 i j (λh w⟨e,n,q⟩=>?_);have a:=a.aM q;have i:=k3 (d:=d) (q.rd u (bX.of_nil _ _)) z y;refine bh 1 i j (λk w⟨f,p,t⟩=>?_);have a:=a.aM t;have a:C o b [bd g av s c,e,f] w:=a.as;refine dB 2 a j j j n.one (λw a=>?_);have a:C o b (bd g av s {c with value:=h}::_) w:=a;refine dB 2 a j j j p.one (λw a=>?_);have a:C o b (bd g av s {c with value:=h,dG:=k}::_) w:=a;refine dB 2 a j j j j (λw a=>?_);have a:C o b (bd g av (s.gf x l) {c with value:=h,dG:=k}::_) w:=a;exact ao 0 j j ⟨j,h,k,e,f,n,p,a⟩
theorem c6.isSome{α:Type}{V:Value->α->List Chunk->Prop}{m:List (Int×Value)}{t:List (Int×α)}{G:List Chunk}(h:c6 V m t G)(k:Int):(aZ m k).isSome=(aZ t k).isSome:=by
 cases aa:aZ t k with
 |none=>rw [h.nv aa];rfl
 |some a=>obtain⟨v,_,_,_,e,_⟩:=h.find aa;rw [e];rfl
theorem aj.Fi(s:aj)(x:List UInt8):(s.jL x).props=s.props:=by unfold aj.jL;split<;>rfl
theorem mu{β:Type}{m:List (Int×β)}{k:Int}(h:(aZ m k).isSome=false):aZ m k=none:=by cases aa:aZ m k with|none=>rfl|some _=>rw [aa] at h;cases h
theorem fF.apart{m:aB}{b:List Chunk}{ae:List (List Chunk)}{o w:World}{F:List Nat}(h:fF m b)(f:C o F (b::ae) w):bX m.A (aG m.x) (au ae)/\bX m.B (vcs m.l) (au ae):=by
 obtain⟨ai,aA,rfl,d,_⟩:=h;have c:=f.split;obtain⟨_,_,e,_,_,_,g⟩:=d.x.rd c;cases e;obtain⟨_,_,e,_,_,_,i⟩:=d.l.rd c.f1;cases e;exact⟨g.sub (fI (by intro G a;simp [a])),i.sub (fI (by intro G a;simp [a]))⟩
theorem zW{o:World}{av:Nat}{g:am}{s:aj}{c:eX}{m:aB}{e:List Chunk}(E:fF m e)(N:m.P.cR)(ap:0<=s.slot/\s.slot<=63)(ag:0<=m.v/\m.v<=8){bQ c1:List Chunk}(V:jb c.props s.props bQ)(B:iB c.dh s.dh c1)(Z:s.dh.length<=1000000)(Y:g.at o)(ai:g.ok)(Q:g.off (au [bd g av s c,bQ,c1,e]))(a:Own [bd g av s c,bQ,c1,e] o):Calls prog 196 #[ab av,.agg m.cs.toArray] o λr w=>r= .tuple #[]/\∃v1 F p,jb c.props (s.gh g m.P).props F/\iB v1 (s.gh g m.P).dh p/\C o (au [bd g av s c,bQ,c1,e]) [bd g av s {c with dh:=v1},F,p] w:=by
 obtain⟨b,ah,I,T,H,q,hm,n,rfl⟩:=V;have R:m.tag.length=32:=N.tag;have hw:=n.wide kd.wide;obtain⟨S,M,aa,ac⟩:=gE.get pH hw m.v;obtain⟨d,K⟩:∃d,d=au [bd g av s c,ax 291 b ah I++H,c1,e]:=⟨_,j⟩;rw [<-K] at Q⊢;have a:C o d [bd g av s c,ax 291 b ah I++H,c1,e] o:=K▸a;have a:C o d [bd g av s c,ax 291 b ah I,H,c1,e] o:=a.perm (by simp);refine a2 func196 (bM 2 a j j (λh w a=>?_));have a:C o d [bi h m,bd g av s c,ax 291 b ah I,H,c1,e] w:=a;have a:=a.drew;refine bw 2 j (λw=>∃ae,C o d ([bi h m,bd g av s c]++ae) w) ⟨_,a⟩ (af 0 3 j (a8 3 j a1 (aH some q) (af 4 1 j (a8 5 j a1 m.fl (aO 6 10 j j ?_ ?_)))));have i:=n6 (k:=m.v) hw (dE.own (a.to (ax 291 b ah I)) hm);refine bF j j j i (λw l=>?_);have a:=a.aM l;have a:C o d ([bi h m,bd g av s c]++_) w:=a.front;refine ar ⟨⟨_,a⟩,?_⟩;refine af 7 2 j (iW 14 (.agg S.toArray) j M (af 9 1 j (aU 10 j (ex a j j (λJ w a=>?_)))));have a:C o d ([bi h m,bd g av s c]++_) w:=a.front;refine ar ⟨⟨_,a⟩,?_⟩;rotate_left
 refine ex a j j (λJ w a=>?_);have a:C o d ([bi h m,bd g av s c]++_) w:=a.front;refine ar ⟨⟨_,a⟩,?_⟩;refine aU 6 j ?_;have i:=n6 (k:=m.v) hw (dE.own (a.to (ax 291 b ah I)) hm);refine bF j j j i (λw l=>?_);have a:=a.aM l;have a:C o d ([bi h m,bd g av s c]++_) w:=a.front;refine ar ⟨⟨_,a⟩,?_⟩;refine af 7 2 j (iW 14 (.agg S.toArray) j M (af 9 1 j ?_));rotate_left
 all_goals
  refine aU 11 j (c4 (a.bc J) j j j ac aa (by decide) (λw a=>?_));have a:C o d ([bi h m,bd g av s c]++_) w:=a.front;refine ar ⟨⟨_,a⟩,?_⟩;refine af 12 1 j (bK (aq 4 j (cQ 17 j (λy=>?_) (λy=>?_))))
  .refine ao 9 j j ?_;have ay:(aZ s.props m.v).isSome=true:=(n.isSome m.v).symm.trans y;have t:s.gh g m.P=s:=a6 (by rw [show m.P.v=m.v from j,ay];rfl);rw [t];exact⟨j,c.dh,ax 291 b ah I++H,c1,⟨b,ah,I,T,H,q,hm,n,j⟩,B,C.perm (A:=[bd g av s c,ax 291 b ah I,H,c1]) a.as (by simp)⟩
  refine al 2 j (aw (C.ak a) m.aX) (al 1 j (aw (C.ak a) m.fl) ?_);have i:=vm (av:=av) (s:=s) (c:=c) (C.ak a) (Y.st a Q) ai (node:=m.f) (view:=m.v) ap ag;refine bo 0 i j (λw l=>?_);have a:=a.aM l;refine bm 2 j j (λz=>?_) (λz=>?_)
  .refine ao 0 j j ?_;have D:s.leads g m.f m.v=false:=by simpa using z
   have t:s.gh g m.P=s:=a6 (by rw [show s.leads g m.P.f m.P.v=false from D];simp);rw [t];exact⟨j,c.dh,ax 291 b ah I++H,c1,⟨b,ah,I,T,H,q,hm,n,j⟩,B,C.perm (A:=[bd g av s c,ax 291 b ah I,H,c1]) a.as (by simp)⟩
  have a:C o d [bi h m,bd g av s c,ax 291 b ah I,H,c1,e] w:=a.as;have a:=a.drew;have O:aZ s.props m.v=none:=mu ((n.isSome m.v).symm.trans y);refine bw 2 j (λw=>∃ae,C o d ([bi h m,bd g av s c]++ae) w) ⟨_,a⟩ (af 0 3 j (a8 3 j a1 (aH some q) (af 4 1 j (a8 5 j a1 m.fl (aT 6 j (λw⟨_,a⟩=>c3 (U:=m.cs) j j (m.bW R) (bp (C.ak a))) (aU 7 j ?_))))));have i:=wg (k:=m.v) (m.bW R) m.one (a.ours (cI:=[ax 291 b ah I])) hm;refine bF j j j i (λw⟨u,ad,l⟩=>?_);have a:=a.b3 l;have a:C o d [bi h m,bd g av s c,ax 291 b ah u,H,c1,e] w:=a.as;refine ar ⟨⟨_,a⟩,?_⟩;refine bK (al 3 j (aw (C.ak a) m.gl) ?_);have X:=(E.apart (a.to e)).1.sub (eJ:=au [bd g av s c,c1]) (fI (by intro G L;simp at L⊢;rcases L with rfl|rfl<;>simp));have an:=(E.read (a.holds (by simp))).1.x;have i:=Fj (av:=av) (s:=s) (c:=c) (g:=g) (bR:=m.c) B Z an X (by have az:m.x.length<=200:=N.x;omega) a.ours;refine bo 0 i j (λw⟨v1,p,W,l⟩=>?_);have a:=a.b3 l;refine ao 0 j j ?_;have D:s.leads g m.f m.v=true:=by simpa using z
  have t:s.gh g m.P=({s with props:=b9 s.props m.v m.P}:aj).jL m.x:=aI (by rw [show s.leads g m.P.f m.P.v=true from D,show aZ s.props m.P.v=none from O];simp);rw [t,aj.Fk,aj.Fi];exact⟨j,v1,ax 291 b ah u++(H++e),p,⟨b,ah,u,_,_,q,ad,n.add O ⟨m,j,j,E⟩,j⟩,W,C.perm (A:=[bd g av s {c with dh:=v1},ax 291 b ah u,H,e,p]) a.as (by simp)⟩
theorem IJ{o:World}{av:Nat}{g:am}{s:aj}{c:eX}{m:aB}{n:List Chunk}(ah:fF m n)(Q:m.P.cR){bZ bV:List Chunk}{N:Nat}(A:fs 334 il c.cU s.cU bZ)(B:fs 334 il c.ay s.ay bV)(ai:∀p∈s.cU,fO g N p.2)(an:∀p∈s.ay,fO g N p.2)(X:N<=1000000)(Y:g.at o)(aa:g.ok)(S:g.off (au [bd g av s c,bZ,bV,n]))(a:Own [bd g av s c,bZ,bV,n] o):Calls prog 197 #[ab av,.agg m.cs.toArray] o λr w=>r= .tuple #[]/\∃T V,fs 334 il c.cU (s.c8 g m.P).cU T/\fs 334 il c.ay (s.c8 g m.P).ay V/\C o (au [bd g av s c,bZ,bV,n]) [bd g av s c,T,V] w:=by
 obtain⟨i,W⟩:∃i,i=au [bd g av s c,bZ,bV,n]:=⟨_,j⟩;rw [<-W] at S⊢;have a:C o i [bd g av s c,bZ,bV,n] o:=W▸a;have az:m.tag.length=32:=Q.tag;refine a2 func197 (bM 2 a j j (λG w a=>?_));have a:C o i [bi G m,bd g av s c,bZ,bV,n] w:=a;refine al 4 j (aw (C.ak a) m.eu) (bm 2 j j (λeC=>?_) (λeC=>?_))
 .refine ao 0 j j ?_;have h:m.P.l=[]:=y3 eC;have e:s.c8 g m.P=s:=by unfold aj.c8;rw [h]
  rw [e];exact⟨j,bZ,bV,A,B,a.as⟩
 obtain⟨v,q,h⟩:=y2 eC;have d:v.ok:=Q.aE v (by show v∈m.l;rw [h];simp);have Z:∀x∈v::q,x.ok:=λx ap=>Q.aE x (by show x∈m.l;rw [h];exact ap)
 refine al 4 j (aw (C.ak a) m.eu) ?_;have L:=(ah.read (a.holds (by simp))).1.l;rw [h] at L;refine fz j j j j L (v:=ad v.k) (pD (v::q) Z 0 (by simp)) (J:=0) (by rw [h];simp) (λaq ac ax=>?_);rw [ac] at L;refine bN 0 j j (v.len d) (pE L Z 0 (by simp)) (cl 0 a j (λH w a=>c4 (a.bc H) j j j (by simpa using v.one) (by rw [List.size_toArray];exact v.len d) (by decide) (λw a=>?_)));have a:=C.whole (U:=v.cs) a (by rw [v.len d];rfl);have a:C o i [R H v.cs.toArray 115,bi G m,bd g av s c,bZ,bV,n] w:=a.as;have a:=a.drew;refine bw 1 j (λw=>∃ae,C o i ([R H v.cs.toArray 115,bi G m,bd g av s c]++ae) w) ⟨_,a⟩ (af 0 1 j (a8 1 j a1 v.g1 (af 2 2 j (ef 16 j (λI=>?_) (λI=>?_)))))
 .refine af 4 6 j (a8 10 j a1 v.aX (af 11 3 j (a8 14 j a1 j (af 15 3 j (ef 30 j (λu=>?_) (λu=>?_))))))
  .refine af 18 1 j (a8 19 j a1 (v.eS d) (af 20 1 j (a8 21 j a1 m.aX (af 22 3 j (ef 37 j (λy=>?_) (λy=>?_))))));refine af 25 3 j (a8 28 j a1 j (aT 29 j (λw⟨_,a⟩=>c3 (U:=v.cs) j j (v.len d) (bp (C.ak a))) (aU 30 j ?_)));have D:=sj (Y.st a S) aa d;refine bF j j j D (λw E=>?_);have a:=a.aM E;have a:C o i [R H v.cs.toArray 115,bi G m,bd g av s c,bZ,bV,n] w:=a.as;refine ar ⟨⟨_,a⟩,?_⟩;refine af 31 1 j (bK (bm 0 j j (λz=>?_) (λz=>?_)))
   .refine bN 2 (U:=v.cs) j j (v.len d) (bp (C.ak a)) ?_;have D:=r3 (av:=av) (s:=s) (c:=c) (k:=0) (t:=s.cU) (by decide) (dY.1 I) d A ai X a.ours;refine bo 0 D j (λw⟨F,M,E⟩=>?_);have a:=a.b3 E;have a:C o i [bd g av s c,F,bV] w:=a.as;refine ao 0 j j ?_;have b:s.hX g m.P v=true:=by unfold aj.hX;rw [show _root_.Go.Proofs.YtdomoelfhjdioaaGreatDoor.R.cR g v=true from z,show(v.f==m.P.f)=true from y,show(v.s==s.slot)=true from u,show(v.k==1)=true from I];rfl
    have e:s.c8 g m.P=s.counts v:=by
     unfold aj.c8;rw [show m.P.l=v::q from h];exact a6 b
    have O:s.counts v={s with cU:=b9 s.cU v.v (iU (s.iv 1 v.v) v)}:=a6 (dY.1 I);rw [e,O];exact⟨j,F,bV,M,B,a⟩
   refine ao 1 j j ?_;have b:s.hX g m.P v=false:=by unfold aj.hX;rw [show _root_.Go.Proofs.YtdomoelfhjdioaaGreatDoor.R.cR g v=false from z];simp
   rotate_left
   refine af 25 7 j (bK (ao 2 j j ?_));have b:s.hX g m.P v=false:=by unfold aj.hX;rw [show(v.f==m.P.f)=false from y];simp
   rotate_left
   all_goals
    have e:s.c8 g m.P=s:=by
     unfold aj.c8;rw [show m.P.l=v::q from h];exact aI (by rw [b];decide)
    rw [e];exact⟨j,bZ,bV,A,B,a.as⟩
  refine af 18 14 j (bK (ao 2 j j ?_));have b:s.hX g m.P v=false:=by unfold aj.hX;rw [show(v.s==s.slot)=false from u];simp
  have e:s.c8 g m.P=s:=by
   unfold aj.c8;rw [show m.P.l=v::q from h];exact aI (by rw [b];decide)
  rw [e];exact⟨j,bZ,bV,A,B,a.as⟩
 refine af 4 1 j (a8 5 j a1 v.g1 (af 6 3 j (ef 21 j (λK=>?_) (λK=>?_))));refine af 9 1 j (a8 10 j a1 v.aX (af 11 3 j (a8 14 j a1 j (af 15 3 j (ef 30 j (λu=>?_) (λu=>?_))))))
 .refine af 18 1 j (a8 19 j a1 (v.eS d) (af 20 1 j (a8 21 j a1 m.aX (af 22 3 j (ef 37 j (λy=>?_) (λy=>?_))))));refine af 25 3 j (a8 28 j a1 j (aT 29 j (λw⟨_,a⟩=>c3 (U:=v.cs) j j (v.len d) (bp (C.ak a))) (aU 30 j ?_)));have D:=sj (Y.st a S) aa d;refine bF j j j D (λw E=>?_);have a:=a.aM E;have a:C o i [R H v.cs.toArray 115,bi G m,bd g av s c,bZ,bV,n] w:=a.as;refine ar ⟨⟨_,a⟩,?_⟩;refine af 31 1 j (bK (bm 0 j j (λz=>?_) (λz=>?_)))
  .refine bN 2 (U:=v.cs) j j (v.len d) (bp (C.ak a)) ?_;have D:=r3 (av:=av) (s:=s) (c:=c) (k:=1) (t:=s.ay) (by decide) (dY.1 K) d B an X a.ours;refine bo 0 D j (λw⟨F,M,E⟩=>?_);have a:=a.b3 E;have a:C o i [bd g av s c,bZ,F] w:=a.as;refine ao 0 j j ?_;have b:s.hX g m.P v=true:=by unfold aj.hX;rw [show _root_.Go.Proofs.YtdomoelfhjdioaaGreatDoor.R.cR g v=true from z,show(v.f==m.P.f)=true from y,show(v.s==s.slot)=true from u,show(v.k==2)=true from K];simp
   have e:s.c8 g m.P=s.counts v:=by
    unfold aj.c8;rw [show m.P.l=v::q from h];exact a6 b
   have O:s.counts v={s with ay:=b9 s.ay v.v (iU (s.iv 2 v.v) v)}:=aI (by rw [dY.1 K];decide);rw [e,O];exact⟨j,bZ,F,A,M,a⟩
  refine ao 1 j j ?_;have b:s.hX g m.P v=false:=by unfold aj.hX;rw [show _root_.Go.Proofs.YtdomoelfhjdioaaGreatDoor.R.cR g v=false from z];simp
  rotate_left
  refine af 25 7 j (bK (ao 2 j j ?_));have b:s.hX g m.P v=false:=by unfold aj.hX;rw [show(v.f==m.P.f)=false from y];simp
  rotate_left
  all_goals
   have e:s.c8 g m.P=s:=by
    unfold aj.c8;rw [show m.P.l=v::q from h];exact aI (by rw [b];decide)
   rw [e];exact⟨j,bZ,bV,A,B,a.as⟩
 refine af 18 14 j (bK (ao 2 j j ?_));have b:s.hX g m.P v=false:=by unfold aj.hX;rw [show(v.s==s.slot)=false from u];simp
 rotate_left
 refine af 9 23 j (bK (ao 2 j j ?_));have b:s.hX g m.P v=false:=by unfold aj.hX;rw [show(v.k==1)=false from I,show(v.k==2)=false from K];rfl
 rotate_left
 all_goals
  have e:s.c8 g m.P=s:=by
   unfold aj.c8;rw [show m.P.l=v::q from h];exact aI (by rw [b];decide)
  rw [e];exact⟨j,bZ,bV,A,B,a.as⟩
theorem AG{m:List (Int×Value)}{t:List (Int×List (Int×aW))}{G:List Chunk}(h:c6 jb m t G)(k:Int):∃p,(aZ m k).getD wu= .pointer p/\((p=none/\aZ t k=none)\/
 ∃a ah I b l H ai aA,p=some ⟨a,0,none⟩/\aZ t k=some l/\cc bL I b/\c6 kd b l H/\G=ai++((ax 291 a ah I++H)++aA)/\∀b0 c,jb (ab a) b0 c->c6 jb m (b9 t k b0) (ai++(c++aA))):=by
 cases aa:aZ t k with
 |none=>rw [h.nv aa];exact⟨none,j,.inl ⟨j,j⟩⟩
 |some l=>
  obtain⟨v,ai,i,aA,e,rfl,⟨a,ah,I,b,H,rfl,d,g,rfl⟩,f⟩:=h.find aa;rw [e];exact⟨_,j,.inr ⟨a,ah,I,b,l,H,ai,aA,j,j,d,g,j,f⟩⟩
theorem AD{o:World}{av:Nat}{g:am}{s:aj}{c:eX}{m:aB}{d:List Chunk}(aG:fF m d)(aF:m.P.cR)(aP:0<=s.slot/\s.slot<=63)(aJ:0<=m.v/\m.v<=8){cb:List Chunk}(ap:fs 331 jb c.dk s.dk cb)(az:g.at o)(aL:g.ok)(aa:g.off (au [bd g av s c,cb,d]))(a:Own [bd g av s c,cb,d] o):Calls prog 198 #[ab av,.agg m.cs.toArray] o λr w=>r= .tuple #[]/\∃W,fs 331 jb c.dk (s.status g m.P).dk W/\C o (au [bd g av s c,cb,d]) [bd g av s c,W] w:=by
 obtain⟨b,ah,I,ad,H,F,hm,M,rfl⟩:=ap;have ac:m.tag.length=32:=aF.tag;obtain⟨l,Y⟩:∃l,l=au [bd g av s c,ax 331 b ah I++H,d]:=⟨_,j⟩;rw [<-Y] at aa⊢;have a:C o l [bd g av s c,ax 331 b ah I++H,d] o:=Y▸a;have a:C o l [bd g av s c,ax 331 b ah I,H,d] o:=a.perm (by simp);refine a2 func198 (bM 2 a j j (λq w a=>?_));have a:C o l [bi q m,bd g av s c,ax 331 b ah I,H,d] w:=a;have a:=a.drew;refine bw 2 j (λw=>∃ae,C o l ([bi q m,bd g av s c]++ae) w) ⟨_,a⟩ (af 0 4 j (a8 4 j a1 j (af 5 1 j (a8 6 j a1 m.fl (aU 7 j ?_)))));have z:=vm (av:=av) (s:=s) (c:=c) (C.ak a) (az.st a aa) aL (node:=s.an) (view:=m.v) aP aJ;refine bF j j j z (λw y=>?_);have a:=a.aM y;have a:C o l [bi q m,bd g av s c,ax 331 b ah I,H,d] w:=a.as;refine ar ⟨⟨_,a⟩,?_⟩;refine af 8 1 j (bK (bm 0 j j (λN=>?_) (λN=>?_)))
 .refine ao 0 j j ?_;have G:s.leads g s.an m.P.v=false:=by simpa using N
  have L:s.status g m.P=s:=aI (by rw [G];decide);rw [L];exact⟨j,ax 331 b ah I++H,⟨b,ah,I,ad,H,F,hm,M,j⟩,C.perm (A:=[bd g av s c,ax 331 b ah I,H]) a.as (by simp)⟩
 have a:C o l [bi q m,bd g av s c,ax 331 b ah I,H,d] w:=a.as;have a:=a.drew;refine bw 2 j (λw=>∃ae,C o l ([bi q m,bd g av s c]++ae) w) ⟨_,a⟩ (af 0 3 j (a8 3 j a1 (aH some F) (af 4 1 j (a8 5 j a1 m.fl (aU 6 j ?_)))));have z:=yw (k:=m.v) (dE.own (a.to (ax 331 b ah I)) hm);refine bF j j j z (λw y=>?_);have a:=a.aM y;have a:C o l [bi q m,bd g av s c,ax 331 b ah I,H,d] w:=a.as;obtain⟨p,aN,ay⟩:=AG M m.v;refine ar ⟨⟨_,a⟩,?_⟩;refine af 7 2 j (iW 25 (.pointer p) j aN (af 9 3 j (bK (bm 5 j j (λO=>?_) (λO=>?_)))));refine bh 2 vF j (λr w⟨e,n,aO,aK,y⟩=>?_);subst aO;have a:=a.aM y;have a:C o l [bi q m,bd g av s c,ax 331 b ah I,H,d,ax 291 e n (.map #[] 0)] w:=a.as;have a:=a.drew;refine bw 1 j (λw=>∃ae,C o l ([bi q m,bd g av s c]++ae) w) ⟨_,a⟩ (af 0 3 j (a8 3 j a1 (aH some F) (af 4 1 j (a8 5 j a1 m.fl (af 6 1 j (aU 7 j ?_))))));have z:=HJ (k:=m.v) (v:=ab e) (a.ours (cI:=[ax 331 b ah I])) hm;refine bF j j j z (λw⟨i,J,y⟩=>?_);have a:=a.b3 y;have a:C o l [bi q m,bd g av s c,ax 331 b ah i,H,d,ax 291 e n (.map #[] 0)] w:=a.as;refine ar ⟨⟨_,a⟩,?_⟩;refine bK ?_;have Z:aZ s.dk m.v=none:=mu ((M.isSome m.v).symm.trans (by simpa using O))
 obtain⟨B,i,u,R,dA,H1,x,t,J,Q,E,T,K,a⟩:∃B i u R dA H1 x t,cc bL i B/\cc bL u R/\c6 kd R dA x/\(aZ s.dk m.v).getD []=dA/\(∀b0 D,jb (ab e) b0 D->c6 jb B (b9 s.dk m.v b0) (H1++(D++t)))/\C o l [bi q m,bd g av s c,ax 331 b ah i,H1,ax 291 e n u,x,t,d] w:=
  ⟨_,i,_,[],[],H,[],[],J,aK,j,by rw [Z];rfl,λb0 D h=>by rw [gY];exact M.add Z h,C.perm (A:=[bi q m,bd g av s c,ax 331 b ah i,H,ax 291 e n (.map #[] 0),d]) a.as (by simp)⟩
 refine al 4 j (aw (C.ak a) m.aX) ?_;rotate_left
 obtain⟨e,n,u,R,dA,x,H1,t,rfl,aQ,Q,E,ai,K⟩:=ay.resolve_left (λh=>by have X:=M.isSome m.v;rw [h.2] at X;rw [X] at O;cases O);rw [ai] at a;obtain⟨i,B,J,K,a⟩:∃i B,cc bL i B/\(∀b0 D,jb (ab e) b0 D->c6 jb B (b9 s.dk m.v b0) (H1++(D++t)))/\C o l [bi q m,bd g av s c,ax 331 b ah i,H1,ax 291 e n u,x,t,d] w:=⟨I,ad,hm,K,C.perm (A:=[bi q m,bd g av s c,ax 331 b ah I,H1++((ax 291 e n u++x)++t),d]) a.as (by simp)⟩;have T:(aZ s.dk m.v).getD []=dA:=by rw [aQ];rfl
 refine al 5 j (aw (C.ak a) m.aX) ?_;rotate_left
 all_goals
  have hw:=E.wide kd.wide;obtain⟨aR,aA,aC,aD⟩:=gE.get pH hw m.f;have z:=n6 (k:=m.f) hw (dE.own (a.to (ax 291 e n u)) Q);refine bo 0 z j (λw y=>?_);have a:=a.aM y;refine aq 2 j (bS 43 (.agg aR.toArray) j aA ?_);refine cl 1 a j (λag w a=>c4 (a.bc ag) j j j aD aC (by decide) (λw a=>?_));have a:C o l [bi q m,bd g av s c,ax 331 b ah i,H1,ax 291 e n u,x,t,d] w:=a.as;refine bm 5 j j (λS=>?_) (λS=>?_)
  .refine al 3 j (aw (C.ak a) m.aX) (bN 0 (U:=m.cs) j j (m.bW ac) (bp (C.ak a)) ?_);have z:=wg (k:=m.f) (m.bW ac) m.one (a.ours (cI:=[ax 291 e n u])) Q;refine bo 0 z j (λw⟨V,aE,y⟩=>?_);have a:=a.b3 y;refine ao 0 j j ?_;have G:s.leads g s.an m.P.v=true:=by simpa using N
   have br:(aZ dA m.f).isSome=false:=(E.isSome m.f).symm.trans (by simpa using S)
   have L:s.status g m.P={s with dk:=b9 s.dk m.v (b9 dA m.f m.P)}:=by
    unfold aj.status;rw [a6 G,show(aZ s.dk m.P.v).getD []=dA from T];rw [show(aZ dA m.P.f).isSome=false from br];rfl
   rw [L];refine⟨j,ax 331 b ah i++(H1++((ax 291 e n V++(x++d))++t)),⟨b,ah,i,B,_,F,J,K _ _ ⟨e,n,V,_,_,j,aE,E.add (mu br) ⟨m,j,j,aG⟩,j⟩,j⟩,C.perm (A:=[bd g av s c,ax 331 b ah i,H1,ax 291 e n V,x,d,t]) a.as (by simp)⟩
  refine ao 1 j j ?_;have G:s.leads g s.an m.P.v=true:=by simpa using N
  have br:(aZ dA m.f).isSome=true:=(E.isSome m.f).symm.trans (by simpa using S)
  have L:s.status g m.P={s with dk:=b9 s.dk m.v (dA)}:=by
   unfold aj.status;rw [a6 G,show(aZ s.dk m.P.v).getD []=dA from T];rw [show(aZ dA m.P.f).isSome=true from br];rfl
  rw [L];refine⟨j,ax 331 b ah i++(H1++((ax 291 e n u++(x))++t)),⟨b,ah,i,B,_,F,J,K _ _ ⟨e,n,u,_,_,j,Q,E,j⟩,j⟩,C.perm (A:=[bd g av s c,ax 331 b ah i,H1,ax 291 e n u,x,t]) a.as (by simp)⟩
theorem DS{o:World}{av:Nat}{g:am}{s:aj}{c:eX}{m:aB}{b:List Chunk}(k:fF m b)(y:m.P.cR){b8 b7:List Chunk}(G:dt c.value s.value b8)(F:er c.dG s.dG b7)(T:g.at o)(V:g.ok)(K:g.off (au [bd g av s c,b8,b7,b]))(a:Own [bd g av s c,b8,b7,b] o):Calls prog 199 #[ab av,.agg m.cs.toArray] o λr w=>r= .tuple #[]/\∃v1 v2 E D,dt v1 (s.decision g m.P).value E/\er v2 (s.decision g m.P).dG D/\C o (au [bd g av s c,b8,b7,b]) [bd g av (s.decision g m.P) {c with value:=v1,dG:=v2},E,D] w:=by
 obtain⟨i,I⟩:∃i,i=au [bd g av s c,b8,b7,b]:=⟨_,j⟩;rw [<-I] at K⊢;have a:C o i [bd g av s c,b8,b7,b] o:=I▸a;have Z:m.tag.length=32:=y.tag;obtain⟨W,U,_,S⟩:=k.uz;have aa:m.x.length<=200:=y.x;have Y:m.l.length<=10:=y.l;refine a2 func199 (bM 2 a j j (λn w a=>?_));have a:C o i [bi n m,bd g av s c,b,b8,b7] w:=C.as (ae:=bi n m::[bd g av s c,b8,b7,b]) a;have a:=a.drew;refine bw 1 j (λw=>∃ae,C o i ([bi n m,bd g av s c,b]++ae) w) ⟨_,a⟩ (af 0 1 j (a8 1 j a1 m.eu (af 2 3 j (ef 8 j (λeC=>?_) (λeC=>?_)))))
 .obtain⟨v,f,e⟩:∃v f,m.l=v::f:=by
   cases hm:m.l with
   |nil=>rw [hm] at eC;cases eC
   |cons v f=>exact⟨v,f,j⟩
  obtain⟨O,X,H⟩:=u1 S (show Rd _ m.B ((v::f).flatMap aF.cs) by have h:=(k.read (a.holds (by simp))).1.l;rw [e] at h;exact h);refine af 5 3 j (a8 8 j a1 j (af 9 1 j (a8 10 j a1 m.eu (af 11 3 j (a8 14 j a1 j (af 15 1 j (a8 16 j a1 m.eu (iW 20 (.slice (some ⟨O,X,none⟩) m.l.length m.d) j (by rw [H]) (aT 17 j (λw _=>gb (J:=0) j j (by rw [e];simp)) (af 18 1 j (bT 19 j (λw⟨_,a⟩=>rc (by have h:=(k.read (a.holds (by simp))).1.l;rw [e,H] at h;exact h)) (af 20 1 j (a8 21 j a1 m.gl (aU 22 j ?_))))))))))))));have q:=nH (p:=m.x) (k.read (a.holds (by simp))).1.x (by omega) W;refine cN j j j q (λr w⟨A,u⟩=>?_);have A:r= .agg (aG (bO m.x)).toArray:=A;subst A;have a:=a.aM u;have a:C o i [bi n m,bd g av s c,b,b8,b7] w:=a.as;refine ar ⟨⟨_,a⟩,?_⟩;refine aU 23 j ?_;have q:=vt (g:=g) (B:=m.B) (l:=m.l) (d:=m.d) (kind:=2) (slot:=s.slot) (view:=v.v) (sum:=bO m.x) V y.aE (e7 _) U (by omega) ⟨T.st a K,(k.read (a.holds (by simp))).1.l,am.off.nil g,bX.of_nil _ _⟩;refine bF j j j q (λw u=>?_);have a:=a.aM u;have a:C o i [bi n m,bd g av s c,b,b8,b7] w:=a.as;refine ar ⟨⟨_,a⟩,?_⟩;refine af 24 1 j (bK (bm 0 j j (λz=>?_) (λz=>?_)))
  .refine al 3 j (aw (C.ak a) m.gl) (al 1 j (aw (C.ak a) m.eu) ?_);have L:=(k.read (a.holds (by simp))).1;have q:=xX (av:=av) (g:=g) (s:=s) (c:=c) (bR:=m.c) (d:=m.d) L.x L.l y.aE (by omega) (by omega) a.ours;refine bo 0 q j (λw⟨v1,v2,M,N,Q,R,u⟩=>?_);have a:=a.b3 u;refine ao 0 j j ?_
   have t:s.decision g m.P=s.gf m.x m.l:=by
    unfold aj.decision;rw [show m.P.l=v::f from e];exact(a6 (by rw [<-e];exact z)).trans (by rw [<-e])
   rw [t];exact⟨j,v1,v2,M,N,Q,R,a.as⟩
  refine ao 1 j j ?_
  have t:s.decision g m.P=s:=by
   unfold aj.decision;rw [show m.P.l=v::f from e];exact aI (by rw [<-e];show¬meets g m.l 2 s.slot v.v (bO m.x)=true;rw [z];decide)
  rw [t];exact⟨j,c.value,c.dG,b8,b7,G,F,a.as⟩
 refine af 5 20 j (bK (ao 2 j j ?_))
 have e:m.P.l=[]:=by
  cases hm:m.l with
  |nil=>exact hm
  |cons v f=>rw [hm] at eC;simp at eC
 have t:s.decision g m.P=s:=by unfold aj.decision;rw [e]
 rw [t];exact⟨j,c.value,c.dG,b8,b7,G,F,a.as⟩
def fA(g:am)(av:Nat)(s:aj)(G:List Chunk):Prop:=∃(c:eX)(ai aA bn cu ca bZ bV cb b8 b7:List Chunk),tP s c ai aA bn cu ca bZ bV cb b8 b7/\G=bd g av s c++(ai++(aA++(bn++(cu++(ca++(bZ++(bV++(cb++(b8++b7)))))))))
theorem C.oj{g:am}{av:Nat}{s:aj}{c:eX}{ai aA bn cu ca bZ bV cb b8 b7:List Chunk}{ae:List (List Chunk)}{o w:World}{F:List Nat}(h:C o F ((bd g av s c++(ai++(aA++(bn++(cu++(ca++(bZ++(bV++(cb++(b8++b7))))))))))::ae) w):C o F (bd g av s c::ai::aA::bn::cu::ca::bZ::bV::cb::b8::b7::ae) w:=h.perm (by simp)
theorem C.gw{g:am}{av:Nat}{s:aj}{c:eX}{ai aA bn cu ca bZ bV cb b8 b7:List Chunk}{ae:List (List Chunk)}{o w:World}{F:List Nat}(h:C o F (bd g av s c::ai::aA::bn::cu::ca::bZ::bV::cb::b8::b7::ae) w):C o F ((bd g av s c++(ai++(aA++(bn++(cu++(ca++(bZ++(bV++(cb++(b8++b7))))))))))::ae) w:=h.perm (by simp)
theorem qB{ae cI ag:List (List Chunk)}[h:kG ae cI ag]:∀b∈au cI,b∈au ae:=λb a=>by
 obtain⟨I,c⟩:=og.1 a;refine og.2 ⟨I,(h.perm.flatten.mem_iff).2 ?_⟩;rw [g9];exact dw.2 (.inl c)
theorem C.eE{ae cI ag:List (List Chunk)}[h:kG ae cI ag]{g:am}{o w:World}{F:List Nat}(a:C o F ae w)(b:g.at o)(c:g.off F):g.off (au cI):=(b.apart a c).sub qB
theorem C.qg{ae cI ag:List (List Chunk)}[h:kG ae cI ag]{A:Option Addr}{U:List Value}(a:bX A U (au ae)):bX A U (au cI):=a.sub qB
theorem A4(g:am)(s:aj)(x:List UInt8):(s.aE g 1 x).1={s with cU:=b9 s.cU s.view (iU ((aZ s.cU s.view).getD []) (cS g 1 s.slot s.view (bO x) s.an))}:=by
 unfold aj.aE aj.counts;dsimp only;rw [a6 (show(cS g 1 s.slot s.view (bO x) s.an).k=1 from j)];rfl
theorem A5(g:am)(s:aj)(x:List UInt8):(s.aE g 2 x).1={s with ay:=b9 s.ay s.view (iU ((aZ s.ay s.view).getD []) (cS g 2 s.slot s.view (bO x) s.an))}:=by
 unfold aj.aE aj.counts;dsimp only;rw [aI (show¬(cS g 2 s.slot s.view (bO x) s.an).k=1 from by show¬(2:Int)=1;decide)];rfl
theorem FJ(g:am)(s:aj)(c:eX){w:World}{av:Nat}{e:TypeId}{e3:Nat×Nat}(h:w.heap[av]? =some (.cells (j9 g s c).toArray e e3)):Rd w (some ⟨av,0+4,none⟩) [ad s.fY,c.dD,c.c2]:=λi v a=>⟨_,j,by
 rw [add_lit];refine aw h ?_
 match i,a with
 |0,a=>exact a
 |1,a=>exact a
 |2,a=>exact a⟩
theorem GW{o:World}{av:Nat}{g:am}{s:aj}{G:List Chunk}(aC:fA g av s G){N:Nat}(E:s.ok g N)(aB:N<=1000000)(Y:g.at o)(an:g.ok)(O:g.off (au [G]))(a:Own [G] o):Calls prog 245 #[ab av] o λr w=>∃v be ai,r= .tuple #[v,.bool (s.gz g).isSome]/\cz v (((s.gz g).map Prod.snd).getD []) be/\fA g av (((s.gz g).map Prod.fst).getD s) ai/\C o (au [G]) [ai,be] w:=by
 obtain⟨c,ai,aA,bn,cu,ca,bZ,bV,cb,b8,b7,n,rfl⟩:=aC;obtain⟨f,ac⟩:∃f,f=au [bd g av s c++(ai++(aA++(bn++(cu++(ca++(bZ++(bV++(cb++(b8++b7)))))))))]:=⟨_,j⟩;rw [<-ac] at O⊢;have a:C o f [bd g av s c++(ai++(aA++(bn++(cu++(ca++(bZ++(bV++(cb++(b8++b7)))))))))] o:=ac▸a;have a:=a.oj;obtain⟨e,ah,I,a9,H,aG,hm,Q,ay⟩:=n.props;subst ay;have a:C o f [bd g av s c,ax 291 e ah I,H,ai,aA,bn,ca,bZ,bV,cb,b8,b7] o:=C.perm (A:=[bd g av s c,ax 291 e ah I++H,ai,aA,bn,ca,bZ,bV,cb,b8,b7]) a.as (by simp);have hw:=Q.wide kd.wide;obtain⟨p,L,ag,aQ⟩:=gE.get pH hw s.view;refine a2 func245 ?_;have a:=a.drew;refine bw 5 j (λw=>∃ae,C o f ([bd g av s c]++ae) w) ⟨_,a⟩ (af 0 3 j (a8 3 j a1 (aH some aG) (af 4 3 j (a8 7 j a1 j (aO 8 12 j j ?_ ?_)))));have t:=n6 (k:=s.view) hw (dE.own (a.to (ax 291 e ah I)) hm);refine bF j j j t (λw u=>?_);have a:=a.aM u;have a:C o f ([bd g av s c]++_) w:=a.front;refine ar ⟨⟨_,a⟩,?_⟩;refine af 9 2 j (iW 16 (.agg p.toArray) j L (af 11 1 j (aU 12 j (ex a j j (λy w a=>?_)))));have a:C o f ([bd g av s c]++_) w:=a.front;refine ar ⟨⟨_,a⟩,?_⟩;rotate_left
 refine ex a j j (λy w a=>?_);have a:C o f ([bd g av s c]++_) w:=a.front;refine ar ⟨⟨_,a⟩,?_⟩;refine aU 8 j ?_;have t:=n6 (k:=s.view) hw (dE.own (a.to (ax 291 e ah I)) hm);refine bF j j j t (λw u=>?_);have a:=a.aM u;have a:C o f ([bd g av s c]++_) w:=a.front;refine ar ⟨⟨_,a⟩,?_⟩;refine af 9 2 j (iW 16 (.agg p.toArray) j L (af 11 1 j ?_));rotate_left
 all_goals
  refine aU 13 j (c4 (a.bc y) j j j aQ ag (by decide) (λw a=>?_));have a:=C.whole (U:=p) a (by rw [ag];rfl);have a:C o f [bd g av s c,R y p.toArray 103,ax 291 e ah I,H,ai,aA,bn,ca,bZ,bV,cb,b8,b7] w:=a.as;refine ar ⟨⟨_,a⟩,?_⟩;refine af 14 1 j (bK ?_);have a:C o f [bd g av s c,R y p.toArray 103,H,ai,aA,ax 291 e ah I,bn,ca,bZ,bV,cb,b8,b7] w:=a.as;have a:=a.drew;refine bw 2 j (λw=>∃ae,C o f ([bd g av s c,R y p.toArray 103,H,ai,aA]++ae) w) ⟨_,a⟩ (af 0 3 j (ef 20 j (λJ=>?_) (λJ=>?_)))
  .refine af 3 34 j (bK (ao 5 j j ?_));have a:C o f [bd g av s c,ai,aA,bn,ax 291 e ah I++(H),ca,bZ,bV,cb,b8,b7] _:=C.perm (A:=[bd g av s c,ai,aA,bn,ax 291 e ah I,H,ca,bZ,bV,cb,b8,b7]) a.as (by simp)
   have D:s.gz g=none:=by
    unfold aj.gz;rw [show aZ s.props s.view=none from mu ((Q.isSome s.view).symm.trans (by simpa using J))]
   rw [D];exact⟨_,[],_,j,cz.nil,⟨c,ai,aA,bn,ax 291 e ah I++(H),ca,bZ,bV,cb,b8,b7,n,j⟩,(C.gw a).empty.f1⟩
  obtain⟨q,F⟩:∃q,aZ s.props s.view=some q:=by
   have z:=Q.isSome s.view;cases aq:aZ s.props s.view with
   |none=>rw [aq] at z;rw [z] at J;cases J
   |some q=>exact⟨q,j⟩
  obtain⟨v,H1,i,m,aW,rfl,⟨bl,rfl,rfl,M⟩,a7⟩:=Q.find F
  obtain rfl:p=bl.cs:=by
   rw [aW] at L;have z:Value.agg bl.cs.toArray=Value.agg p.toArray:=L;injection z with z
   have:=aH Array.toList z;simpa using this.symm
  refine af 3 3 j (a8 6 j a1 j (af 7 3 j (a8 10 j a1 j (af 11 3 j (ef 31 j (λK=>?_) (λK=>?_))))))
  .refine af 14 23 j (bK (ao 5 j j ?_));have a:C o f [bd g av s c,ai,aA,bn,ax 291 e ah I++(H1++(i++m)),ca,bZ,bV,cb,b8,b7] _:=C.perm (A:=[bd g av s c,ai,aA,bn,ax 291 e ah I,H1++(i++m),ca,bZ,bV,cb,b8,b7]) a.as (by simp)
   have D:s.gz g=none:=by
    unfold aj.gz;rw [F];exact a6 (dj K)
   rw [D];exact⟨_,[],_,j,cz.nil,⟨c,ai,aA,bn,ax 291 e ah I++(H1++(i++m)),ca,bZ,bV,cb,b8,b7,n,j⟩,(C.gw a).empty.f1⟩
  refine af 14 3 j (a8 17 j a1 j (af 18 3 j (aT 21 j (λw⟨_,a⟩=>c3 (U:=[ad s.fY,c.dD,c.c2]) j j j (FJ g s c (C.ak (b:=av) a))) (af 22 3 j (a8 25 j a1 j (af 26 3 j (a8 29 j a1 j (af 30 1 j (a8 31 j a1 bl.gl (af 32 1 j (a8 33 j a1 bl.eu ?_)))))))))));obtain⟨ap,aR,a3,aJ⟩:=M.uz;obtain⟨aa,a5⟩:=M.read (show Holds _ i from(a.holds (G:=H1++(i++m)) (by simp)).right.left);obtain⟨S,X,aV,aN,_,aX,a4⟩:=n.dD.read (a.holds (by simp));obtain⟨T,dl,aS,aP,_,aY,aK⟩:=n.c2.read (a.holds (by simp));have aL:(⟨s.fY,S,s.dD,X,T,s.c2,dl⟩:gB).cs=[ad s.fY,c.dD,c.c2]:=by rw [aV,aS]
  refine iW 39 (.agg (⟨s.fY,S,s.dD,X,T,s.c2,dl⟩:gB).cs.toArray) j (by rw [aL]) (aU 34 j ?_);have Z:bl.P.cR:=E.sR _ (hF F);have t:=FV (g:=g) (k:=⟨s.fY,S,s.dD,X,T,s.c2,dl⟩) (B:=bl.B) (bb:=bl.A) (l:=bl.l) (value:=bl.x) (d:=bl.d) (c:=bl.c) (slot:=s.slot) (view:=s.view) an ⟨aX,aY,E.lb,aN,aP,by have:=E.dD;show s.dD.length<=1000;omega,by have:=E.c2;show s.c2.length<=1000;omega,aK⟩ aa.aE aJ aR (by have h:bl.l.length<=10:=Z.l;omega) ⟨Y.st a O,aa.l,am.off.nil g,bX.of_nil _ _⟩ aa.x (by have h:bl.x.length<=200:=Z.x;omega) ap;refine bF j j j t (λw u=>?_);have a:=a.aM u;have a:C o f [bd g av s c,R y bl.cs.toArray 103,H1++(i++m),ai,aA,ax 291 e ah I,bn,ca,bZ,bV,cb,b8,b7] w:=a.as;refine ar ⟨⟨_,a⟩,?_⟩;refine af 35 2 j (bK (bm 0 j j (λW=>?_) (λW=>?_)))
  .refine ao 4 j j ?_;have a:C o f [bd g av s c,ai,aA,bn,ax 291 e ah I++(H1++(i++m)),ca,bZ,bV,cb,b8,b7] _:=C.perm (A:=[bd g av s c,ai,aA,bn,ax 291 e ah I,H1++(i++m),ca,bZ,bV,cb,b8,b7]) a.as (by simp)
   have D:s.gz g=none:=by
    unfold aj.gz;rw [F];exact(aI (dN K)).trans (aI (by simpa using W))
   rw [D];exact⟨_,[],_,j,cz.nil,⟨c,ai,aA,bn,ax 291 e ah I++(H1++(i++m)),ca,bZ,bV,cb,b8,b7,n,j⟩,(C.gw a).empty.f1⟩
  refine al 7 j (aw (C.ak a) j) (dB 2 (a.bc av) j j j j (λw a=>?_));have a:C o f (bd g av {s with hU:=s.view} c::_) w:=a;refine al 4 j (aw (C.ak a) bl.gl) ?_;have a:C o f [H1,i,m,bd g av {s with hU:=s.view} c,bZ,ax 291 e ah I,ai,aA,bn,ca,bV,cb,b8,b7] w:=C.perm (A:=[H1++(i++m),bd g av {s with hU:=s.view} c,bZ,ax 291 e ah I,ai,aA,bn,ca,bV,cb,b8,b7]) a.as (by simp);have a:C o f [i,bd g av {s with hU:=s.view} c,bZ,ax 291 e ah I,H1,m,ai,aA,bn,ca,bV,cb,b8,b7] w:=a.as;have aF:=(M.apart a).1;have t:=A7 (av:=av) (g:=g) (s:={s with hU:=s.view}) (c:=c) (k:=0) (hp:=bl.c) (by decide) n.cU E.lE aB a.ours (Y.st a O) an (a.eE Y O) (M.read (a.holds (by simp))).1.x (C.qg aF) (by have h:bl.x.length<=200:=Z.x;omega) ap;refine bh 0 t j (λr w⟨V,be,az,aD,u⟩=>?_);have a:=a.b3 u;refine ao 2 j j ?_
  have a0:s.gz g=some (({s with hU:=s.view}:aj).aE g 1 bl.x):=by
   unfold aj.gz;rw [F];exact(aI (dN K)).trans (a6 (by simpa using W))
  rw [a0];have a:C o f [bd g av {s with hU:=s.view} c,ai,aA,bn,ax 291 e ah I++(H1++(i++m)),ca,V,bV,cb,b8,b7,be] w:=C.perm (A:=[bd g av {s with hU:=s.view} c,ai,aA,bn,ax 291 e ah I,H1,i,m,ca,V,bV,cb,b8,b7,be]) (C.as a) (by simp);refine⟨_,be,_,j,az,⟨c,ai,aA,bn,ax 291 e ah I++(H1++(i++m)),ca,V,bV,cb,b8,b7,?_,j⟩,C.gw a⟩;show tP (({s with hU:=s.view}:aj).aE g 1 bl.x).1 c _ _ _ _ _ _ _ _ _ _;rw [A4];exact{n with cU:=aD}
theorem Rd.move{A:Option Addr}{xs:List Value}{G:List Chunk}{w aK:World}(h:Rd w A xs)(g:∀a,A=some a->a.block∈au [G])(d:Holds w G)(e:Holds aK G):Rd aK A xs:=λi v j=>by
 obtain⟨a,c,f⟩:=h i v j;refine⟨a,c,?_⟩;obtain⟨I,b⟩:=og.1 (g a c);have b:(a.block,I)∈G:=by simpa using b
 rw [World.cell?_of_block (w:=w) (by rw [wW,e _ b,d _ b])];exact f
theorem DE{o:World}{av:Nat}{g:am}{s:aj}{G:List Chunk}(S:fA g av s G){N:Nat}(m:s.ok g N)(J:N<=1000000)(u:g.at o)(z:g.ok)(q:g.off (au [G]))(b:Own [G] o):Calls prog 246 #[ab av] o λr w=>∃v be ai,r= .tuple #[v,.bool (s.g4 g).isSome]/\cz v (((s.g4 g).map Prod.snd).getD []) be/\fA g av (((s.g4 g).map Prod.fst).getD s) ai/\C o (au [G]) [ai,be] w:=by
 obtain⟨c,ai,aA,bn,cu,ca,bZ,bV,cb,b8,b7,l,rfl⟩:=S;obtain⟨d,F⟩:∃d,d=au [bd g av s c++(ai++(aA++(bn++(cu++(ca++(bZ++(bV++(cb++(b8++b7)))))))))]:=⟨_,j⟩;rw [<-F] at q⊢;have b:C o d [bd g av s c++(ai++(aA++(bn++(cu++(ca++(bZ++(bV++(cb++(b8++b7)))))))))] o:=F▸b;have b:=b.oj;refine a2 func246 ?_;have b:=b.drew;refine bw 6 j (λw=>∃ae,C o d ([bd g av s c]++ae) w) ⟨_,b⟩ (af 0 3 j (a8 3 j a1 j (af 4 3 j (a8 7 j a1 j (af 8 1 j (bK (cm 0 j j (λp=>?_) (λp=>?_))))))))
 .refine ao 4 j j ?_;have b:C o d [bd g av s c,ai,aA,bn,cu,ca,bZ,bV,cb,b8,b7] _:=b.as
  have x:s.g4 g=none:=by
   unfold aj.g4;exact a6 p
  rw [x];exact⟨_,[],_,j,cz.nil,⟨c,ai,aA,bn,cu,ca,bZ,bV,cb,b8,b7,l,j⟩,(C.gw b).empty.f1⟩
 refine al 8 j (aw (C.ak b) j) ?_;obtain⟨a,aC,H,Z,V,ap,R⟩:=l.cU.read (b.holds (by simp));have h:=xn (av:=av) (g:=g) (s:=s) (c:=c) (k:=0) (C.ak b) (by decide) Z V (view:=s.view);refine bo 0 h j (λw i=>?_);have b:=b.aM i;obtain⟨c5,Y,P⟩:=il.Hd ap s.view (R.st i);refine bS 23 (.pointer c5) j Y ?_;have h:=x7 (av:=av) (g:=g) (s:=s) (c:=c) (C.ak b) (u.st b q) z l.dh (b.holds (by simp)) m.pC P (fO.sE m.lE s.view) J;refine bh 0 h j (λr w⟨v1,v2,ag,ah,i,az⟩=>?_);subst ah;have b:=b.aM i;refine bm 12 j j (λt=>?_) (λt=>?_)
 .refine ao 4 j j ?_;have b:C o d [bd g av s c,ai,aA,bn,cu,ca,bZ,bV,cb,b8,b7] _:=b.as
  have x:s.g4 g=none:=by
   unfold aj.g4;rw [aI p,show s.fE g (s.iv 1 s.view)=none from(show s.fE g ((aZ s.cU s.view).getD [])=none by simpa using t)]
  rw [x];exact⟨_,[],_,j,cz.nil,⟨c,ai,aA,bn,cu,ca,bZ,bV,cb,b8,b7,l,j⟩,(C.gw b).empty.f1⟩
 obtain⟨y,B⟩:∃y,s.fE g ((aZ s.cU s.view).getD [])=some y:=gX.1 (by simpa using t);obtain⟨⟨A,hp,rfl,aq,aB,M,D⟩,K⟩:=az y B;obtain⟨f,d2,rfl,_,_⟩:=K.form;have O:=m.fE z (fO.sE m.lE s.view) B;have L:=b.holds (G:=ca) (by simp);refine al 7 j (aw (C.ak b) j) (dB 2 (b.bc av) j j j j (λw b=>?_));have b:C o d (bd g av {s with comm:=s.view} c::_) w:=b;have b:C o d [bd g av {s with comm:=s.view} c,ai,aA,bn,cu,ca,bZ,bV,cb,b8,b7,ag] w:=b.as;have b:=b.drew;refine bw 1 j (λw=>∃ae,C o d ([bd g av {s with comm:=s.view} c]++ae) w) ⟨_,b⟩ (af 0 4 j (a8 4 j a1 j (af 5 1 j (af 7 1 j (aU 6 j ?_)))));have h:=g3 (c:=hp) (M.move D L (b.holds (by simp))) (by have:=O.1;omega);refine cN j j j h (λr w⟨n,I,i⟩=>?_);obtain⟨e,aX,rfl,_,_⟩:=I.form;have b:=b.aM i;have b:C o d [bd g av {s with comm:=s.view} c,ai,aA,bn,cu,ca,bZ,bV,cb,b8,b7,ag,n] w:=b.as;refine ar ⟨⟨_,b⟩,?_⟩;refine aT 8 j (λw _=>e1 (c:= #[ad s.view,.slice e y.1.length aX,.slice f y.2.length d2]) j (λ_=>by kernel_rfl)) (af 9 2 j (dy 11 j (c4 (U:= #[ad s.view,.slice e y.1.length aX,.slice f y.2.length d2]) (b.bc av) j j j j j bJ (λw b=>?_))));have b:C o d (bd g av {s with comm:=s.view,fY:=s.view,dD:=y.1,c2:=y.2} {c with dD:=.slice e y.1.length aX,c2:=.slice f y.2.length d2}::_) w:=b;have b:C o d [bd g av {s with comm:=s.view,fY:=s.view,dD:=y.1,c2:=y.2} {c with dD:=.slice e y.1.length aX,c2:=.slice f y.2.length d2},n,ag,bn,cu,ca,bZ,bV,cb,b8,b7] w:=b.as;refine ar (cX ?_);have an:=M.move D L (b.holds (by simp));have X:bX A (aG y.1) (au [bd g av {s with comm:=s.view,fY:=s.view,dD:=y.1,c2:=y.2} {c with dD:=.slice e y.1.length aX,c2:=.slice f y.2.length d2},bV]):=λ_ a W aa=>(b.to ca).k2 (D a W) (qB _ aa)
 have h:=A7 (av:=av) (g:=g) (s:={s with comm:=s.view,fY:=s.view,dD:=y.1,c2:=y.2}) (c:={c with dD:=.slice e y.1.length aX,c2:=.slice f y.2.length d2}) (k:=1) (hp:=hp) (by decide) l.ay m.jY J b.ours (u.st b q) z (b.eE u q) an X (by have:=O.1;omega) aq;refine bh 4 h j (λaD w⟨E,be,Q,T,ac⟩=>?_);have b:=b.b3 ac;refine ao 2 j j ?_
 have ax:s.g4 g=some (({s with comm:=s.view,fY:=s.view,dD:=y.1,c2:=y.2}:aj).aE g 2 y.1):=by
  unfold aj.g4;rw [aI p,show s.fE g (s.iv 1 s.view)=some y from B]
 rw [ax];have b:C o d [bd g av {s with comm:=s.view,fY:=s.view,dD:=y.1,c2:=y.2} {c with dD:=.slice e y.1.length aX,c2:=.slice f y.2.length d2},n,ag,bn,cu,ca,bZ,E,cb,b8,b7,be] w:=b.as;refine⟨_,be,_,j,Q,⟨{c with dD:=.slice e y.1.length aX,c2:=.slice f y.2.length d2},n,ag,bn,cu,ca,bZ,E,cb,b8,b7,?_,j⟩,C.gw b⟩;show tP (({s with comm:=s.view,fY:=s.view,dD:=y.1,c2:=y.2}:aj).aE g 2 y.1).1 _ _ _ _ _ _ _ _ _ _ _;rw [A5];exact{l with dD:=I,c2:=K,ay:=T}
theorem Ev(g:am)(slot view:Int)(l:List (Int×aW))(p:Int×aW):iF g slot view (l++[p])=k6 g slot view (iF g slot view l).2.1 (iF g slot view l).2.2 p.2.x p.2.l:=by
 unfold iF;rw [nT];rfl
theorem Dp{g:am}{s:aj}(h:¬0<s.view):s.gP g=if 0<s.want.length then some (s.want,[]) else none:=aI h
theorem xD{g:am}{s:aj}{l:List (Int×aW)}(h:0<s.view)(b:aZ s.dk s.view=some l)(a:((aZ l s.an).isSome&&decide (iL g.n<=l.length))=true):
 s.gP g=if(iF g s.slot s.view (dc l)).1>=0 then some (iF g s.slot s.view (dc l)).2 else if 0<s.want.length then some (s.want,[]) else none:=by
 unfold aj.gP;rw [a6 h,b];exact a6 a
theorem Dq{g:am}{s:aj}(h:0<s.view)(a:aZ s.dk s.view=none):s.gP g=none:=by
 unfold aj.gP;rw [a6 h,a]
theorem xE{g:am}{s:aj}{l:List (Int×aW)}(h:0<s.view)(b:aZ s.dk s.view=some l)(a:((aZ l s.an).isSome&&decide (iL g.n<=l.length))=false):s.gP g=none:=by
 unfold aj.gP;rw [a6 h,b];exact aI (by rw [a];decide)
theorem gB.own.Gm{k:gB}{cV a7:List Chunk}{w:World}(h:k.own cV a7)(e:Holds w cV)(f:Holds w a7)(n:k.x.length<=1000)(g:k.l.length<=1000)(m:∀x∈k.l,x.ok):k.ok w:=by
 obtain⟨_,_,a,c,_,i,_⟩:=h.x.read e;obtain⟨_,_,b,d,_,j,br⟩:=h.l.read f;cases a;cases b;exact⟨i,j,m,c,d,n,g,br⟩
theorem H6{m:List (Int×Value)}{t:List (Int×List (Int×aW))}{G:List Chunk}(h:c6 jb m t G)(k:Int){w:World}(n:Holds w G):∃p b dA a,(aZ m k).getD wu= .pointer p/\dE 291 w p b/\c6 kd b dA a/\Holds w a/\(aZ t k).getD []=dA:=by
 obtain⟨p,g,f⟩:=AG h k;rcases f with⟨rfl,d⟩|⟨i,ah,I,b,l,a,ai,aA,rfl,d,o,q,rfl,_⟩
 .exact⟨none,[],[],[],g,.inl ⟨j,j⟩,j,by intro c f;simp at f,by rw [d];rfl⟩
 .have e:=n.right.left;exact⟨_,b,l,a,g,.inr ⟨i,ah,I,j,e.left (i,_) (by simp),e.left (ah,I) (by simp),o⟩,q,e.right,by rw [d];rfl⟩
theorem Ds{o:World}{av:Nat}{g:am}{s:aj}{c:eX}(D:o.heap[av]? =some (.cells (j9 g s c).toArray 288 (0,0))){N:Nat}(bE:s.ok g N)(cd:N<=1000000)(aY:g.at o)(a5:g.ok){bn cb:List Chunk}(aW:dt c.want s.want bn)(bj:fs 331 jb c.dk s.dk cb)(bm:Holds o bn)(bq:Holds o cb):Calls prog 280 #[ab av] o λr w=>∃v1 v2 ag,r= .tuple #[v1,v2,.bool (s.gP g).isSome]/\C o [] [ag] w/\∀y,s.gP g=some y->∃A hp B bi,v1= .slice A y.1.length hp/\v2= .slice B y.2.length bi/\Rd w A (aG y.1)/\Rd w B (vcs y.2)/\(∀a,A=some a->a.block∈au [ag++bn])/\∀a,B=some a->a.block∈au [ag++bn]:=by
 have e:Own [] o:=C.start o;obtain⟨b9,ci,b7,bv,bu,X,br⟩:=bj.read bq;obtain⟨p,Y,dA,b8,bH,aB,H,bs,K⟩:=H6 X s.view br;have hw:=H.wide kd.wide;obtain⟨bZ,bU,bV,bY⟩:=gE.get pH hw s.an;obtain⟨ac,gI,Z,ca,cc,bP,_⟩:=aW.read bm
 have a2:dA.length<=N/\∀q∈dA,q.2.cR:=by
  rw [<-K];cases aa:aZ s.dk s.view with
  |none=>exact⟨b6 _,by simp⟩
  |some l=>exact bE.mI _ (hF aa)
 refine j0 func280 (bM 2 e j j (λay w e=>?_));have e:C o [] [R ay #[ab av] 217] w:=e;refine al 6 j (aw (C.ak e) j) (al 2 j (aw (e.cg D) j) (cm 1 j j (λQ=>?_) (λQ=>?_)));have e:=e.drew;refine bw 1 j (λw=>∃ae,C o [] ([R ay #[ab av] 217]++ae) w) ⟨_,e⟩ (a8 0 j a1 j (af 1 2 j (bT 3 j (λw⟨_,e⟩=>aw (e.cg D) (aH some bv)) (a8 4 j a1 j (af 5 2 j (bT 7 j (λw⟨_,e⟩=>aw (e.cg D) j) (aU 8 j ?_)))))));have J:=yw (k:=s.view) (bu.st e);refine bF j j j J (λw I=>?_);have e:=e.aM I;have e:C o [] [R ay #[ab av] 217] w:=e.as;refine ar ⟨⟨_,e⟩,?_⟩;refine af 9 2 j (iW 27 (.pointer p) j bH (af 11 3 j (bK (al 4 j (aw (C.ak e) j) (al 2 j (aw (e.cg D) j) ?_)))));have J:=n6 (k:=s.an) hw (aB.st e);refine bo 0 J j (λw I=>?_);have e:=e.aM I;refine aq 2 j (bS 36 (.agg bZ.toArray) j bU ?_);refine cl 1 e j (λbg w e=>c4 (e.bc bg) j j j bY bV (by decide) (λw e=>?_));have e:C o [] [R ay #[ab av] 217] w:=e.as;have e:C o [] [R ay #[ab av] 217] w:=e.as;have e:=e.drew;refine bw 2 j (λw=>∃ae,C o [] ([R ay #[ab av] 217]++ae) w) ⟨_,e⟩ (af 0 3 j (ef 40 j (λT=>?_) (λT=>?_)))
 .refine fH 10 [3,4,5,6,7,9,8,10,11,12] j (bK (bI 6 j ⟨.tuple #[.slice none 0 0,.slice none 0 0,.bool false],λw F=>?_⟩));have e:=F.st e (cD _);refine⟨λa i=>i7 (fn:=f280) i j _ _,?_⟩
  have O:s.gP g=none:=by
   have M:=Q;exact Dq M (mu ((X.isSome s.view).symm.trans (by simpa using T)))
  refine⟨_,_,[],by rw [O];rfl,e.bare.empty,λy t=>?_⟩;rw [O] at t;cases t
 refine af 3 4 j (ef 44 j (λai=>?_) (λai=>?_))
 .refine fH 6 [7,9,8,10,11,12] j (bK (bI 6 j ⟨.tuple #[.slice none 0 0,.slice none 0 0,.bool false],λw F=>?_⟩));have e:=F.st e (cD _);refine⟨λa i=>i7 (fn:=f280) i j _ _,?_⟩
  have O:s.gP g=none:=by
   have M:=Q;exact xE M (by have u:(aZ s.dk s.view).isSome=true:=(X.isSome s.view).symm.trans (by simpa using T);cases z:aZ s.dk s.view with|none=>(rw [z] at u;cases u)|some l=>(rw [z] at K;exact congrArg some K)) (by rw [<-H.isSome s.an,show(aZ Y s.an).isSome=false from by simpa using ai];rfl)
  refine⟨_,_,[],by rw [O];rfl,e.bare.empty,λy t=>?_⟩;rw [O] at t;cases t
 refine af 7 1 j (a8 9 j a1 j (aU 8 j ?_));have J:=y0 (aB.st e);refine bF j j j J (λw I=>?_);have e:=e.aM I;have e:C o [] [R ay #[ab av] 217] w:=e.as;refine ar ⟨⟨_,e⟩,?_⟩;refine aU 10 j (bF j j j (z3 (e.cg D) (aY.st e (am.off.nil g)) a5) (λcn bQ=>?_));subst bQ;refine ar ⟨⟨_,e⟩,?_⟩;refine af 11 2 j (bK (cm 0 j j (λao=>?_) (λao=>?_)))
 .refine bI 5 j ⟨.tuple #[.slice none 0 0,.slice none 0 0,.bool false],λw F=>?_⟩;have e:=F.st e (cD _);refine⟨λa i=>i7 (fn:=f280) i j _ _,?_⟩
  have O:s.gP g=none:=by
   have M:=Q;exact xE M (by have u:(aZ s.dk s.view).isSome=true:=(X.isSome s.view).symm.trans (by simpa using T);cases z:aZ s.dk s.view with|none=>(rw [z] at u;cases u)|some l=>(rw [z] at K;exact congrArg some K)) (by rw [decide_eq_false (show¬iL g.n<=dA.length by have u:=H.len;have z:(Y.length:Int)<(iL g.n:Nat):=ao;omega),Bool.and_false])
  refine⟨_,_,[],by rw [O];rfl,e.bare.empty,λy t=>?_⟩;rw [O] at t;cases t
 refine bo 3 free_spec j (λw I=>?_);have e:=e.aM I;refine cl 0 e j (λm w e=>c4 (e.bc m) j j j j j (by decide) (λw e=>?_));have e:=C.whole (U:=mr.cs) e j;have e:C o [] [R ay #[ab av] 217,R m mr.cs.toArray 279] w:=e.as;have J:=w1 (o:=w) (p:=p);refine bh 4 J j (λr w⟨bd,be,aN,aa⟩=>?_);subst aN;have e:=e.aM aa;have e:C o [] [R bd #[.pointer p] 219,[(be,.cells #[.func (.func 271) #[] #[]] 38 (0,0))],R ay #[ab av] 217,R m mr.cs.toArray 279,[],[]] w:=e.empty.empty.as;have e:C o [] ([R bd #[.pointer p] 219,[(be,.cells #[.func (.func 271) #[] #[]] 38 (0,0))]]++[R ay #[ab av] 217,R m mr.cs.toArray 279,[],[]]) w:=e
 refine j4 1 j (z5 (by have:=H.len;omega)) j (by have:=e.size;simpa using this) e j (λ_=>rfl) (by intro p a9;simp at a9;rcases a9 with rfl|rfl<;>rfl)
  (λpre ae=>∃(k:gB)(cV a7:List Chunk),ae=[R ay #[ab av] 217,R m k.cs.toArray 279,cV,a7]/\k.own cV a7/\k.P=iF g s.slot s.view ((dc dA).take pre.length)) (λ_ _=>False) ⟨mr,[],[],j,y5,j⟩ (λL aK bt=>(aB.st e).st bt) (λ_ _ _ _=>trivial) ?_ ?_ (λ_ _ h=>h.elim) (λ_ _ _ h=>h.elim)
 .rintro y pre ⟨aR,b0⟩ b3 L ck bk ⟨k,cV,a7,rfl,W,E⟩ e;obtain⟨t1,t2,cj,b1,bf,b2,aD,bb,bG,bl,aQ,rfl,aJ⟩:=H.oq bk;have aQ:b0= .agg bl.cs.toArray:=aQ;subst aQ;have ba:bl.tag.length=32:=(fG.one aJ).tag bl (by simp);have a3:bl.P.cR:=a2.2 (aR,bl.P) (gO.1 (show(aR,bl.P)∈dc dA by rw [aD];simp))
  have bC:k.x.length<=200/\k.l.length<=10/\∀v∈k.l,v.ok:=by
   have h:=yD (g:=g) (slot:=s.slot) (view:=s.view) (l:=(dc dA).take pre.length) (λq aL=>a2.2 q (gO.1 (m2 aL)));rw [<-E] at h;exact h
  have e:=C.gy e;refine cl 1 e j (λS w e=>c4 (e.bc S) j j j (by simpa using bl.one) (by rw [List.size_toArray];exact bl.bW ba) (by decide) (λw e=>?_));have e:=C.whole (U:=bl.cs) e (by rw [bl.bW ba];rfl);refine bI 0 j (⟨j,_,e,λL aS e=>?_⟩);have f:=e.bare;have e:=C.gy e;have f:=f.drew;have e:=e.drew;refine bw 1 j (λw=>C o [] [] w/\∃ae,C aS (au [R S bl.cs.toArray 103,R ay #[ab av] 217,R m k.cs.toArray 279,cV,a7]) ([R S bl.cs.toArray 103,R ay #[ab av] 217,R m k.cs.toArray 279,cV,a7]++ae) w) ⟨f,_,e⟩ (bT 0 j (λw⟨f,_,e⟩=>aw (C.ak e) j) (af 1 2 j (bT 3 j (λw⟨f,_,e⟩=>aw (f.cg D) j) ?_)));refine bT 4 j (λw⟨f,_,e⟩=>aw (C.ak e) j) (af 5 2 j (bT 7 j (λw⟨f,_,e⟩=>aw (f.cg D) j) (bT 8 j (λw⟨f,_,e⟩=>aw (C.ak e) j) (af 9 2 j (bT 11 j (λw⟨f,_,e⟩=>aw (f.cg D) j) (aT 12 j (λw⟨f,_,e⟩=>c3 (U:=k.cs) j j j (bp (C.ak (b:=m) e))) (af 13 1 j (bT 14 j (λw⟨f,_,e⟩=>aw (C.ak e) bl.gl) (af 15 1 j (bT 16 j (λw⟨f,_,e⟩=>aw (C.ak e) bl.eu) (aT 17 j (λw _=>e1 (c:=(⟨-1,bl.A,bl.x,bl.c,bl.B,bl.l,bl.d⟩:gB).cs.toArray) j (λ_=>by kernel_rfl)) (aU 18 j ?_))))))))))));have bA:=e.holds (G:=cV) (by simp);have bB:=e.holds (G:=a7) (by simp);have ap:=(aJ.read (show Holds _ bf from((bs.st f).perm bG).right.left)).1;obtain⟨bR,bD,ce,bz⟩:=aJ.uz;have a4:=W.Gm bA bB (by omega) (by omega) bC.2.2;have ch:bl.x.length<=200:=a3.x;have cf:bl.l.length<=10:=a3.l;have a0:=aY.st f (am.off.nil g);have J:=EH (a:=k) (b:=⟨-1,bl.A,bl.x,bl.c,bl.B,bl.l,bl.d⟩) (slot:=s.slot) (below:=s.view) a5 a4 ⟨ap.x,ap.l,ap.aE,bR,bD,by show bl.x.length<=1000;omega,by show bl.l.length<=1000;omega,bz⟩ ⟨a0,a4.sW,am.off.nil g,bX.of_nil _ _⟩ ⟨a0,ap.l,am.off.nil g,bX.of_nil _ _⟩;refine cN j j j J (λr w⟨q,ad,ah,aN,aL,bL,I⟩=>?_);subst aN;have e:=e.aM I;have f:=f.aM I;have f:=f.bare;have e:C aS (au [R S bl.cs.toArray 103,R ay #[ab av] 217,R m k.cs.toArray 279,cV,a7]) [R S bl.cs.toArray 103,R ay #[ab av] 217,R m k.cs.toArray 279,cV,a7,ad,ah] w:=e.as;refine ar ⟨⟨f,_,e⟩,?_⟩;refine dy 19 j (c4 (e.bc m) j j j j j bJ (λw e=>?_));have e:=C.whole (U:=q.cs) e j;have e:C aS (au [R S bl.cs.toArray 103,R ay #[ab av] 217,R m k.cs.toArray 279,cV,a7]) [R ay #[ab av] 217,R m q.cs.toArray 279,ad,ah] w:=e.as;refine ar (cX (bI 0 j (⟨[R ay #[ab av] 217,R m q.cs.toArray 279,ad,ah],e,q,ad,ah,j,aL,?_⟩)));have az:(dc dA).take pre.length=t1:=by rw [aD,<-bb,md]
  have aA:(dc dA).take (pre.length+1)=t1++[(aR,bl.P)]:=by
   rw [aD,<-bb,p1,List.take_of_length_le (by omega),show t1.length+1-t1.length=1 by omega];rfl
  rw [b4,List.length_singleton,aA,Ev,bL];rw [az] at E;rw [<-E]
 rintro xs b5 w aX ⟨k,cV,a7,rfl,W,E⟩ e;refine al 3 j (aw (C.ak e) j) (cm 1 j j (λax=>?_) (λax=>?_))
 .have e:C o [] [R m k.cs.toArray 279,cV,a7] w:=e.as;have e:=e.drew;refine bw 1 j (λw=>∃ae,C o [] ([R m k.cs.toArray 279,cV,a7]++ae) w) ⟨_,e⟩ (af 0 1 j (a8 1 j a1 j (af 2 1 j (a8 3 j a1 j (af 4 3 j (bK (bI 0 j ⟨.tuple #[.slice k.A k.x.length k.c,.slice k.B k.l.length k.d,.bool true],λw F=>?_⟩)))))));have e:=F.st e (cD _);refine⟨λa i=>i7 (fn:=f280) i j _ _,?_⟩;have M:=Q;have aO:aZ s.dk s.view=some dA:=by have u:(aZ s.dk s.view).isSome=true:=(X.isSome s.view).symm.trans (by simpa using T);cases z:aZ s.dk s.view with|none=>(rw [z] at u;cases u)|some l=>(rw [z] at K;exact congrArg some K)
  have aP:xs.length=dA.length:=by rw [aX,iA,H.len]
  have E:k.P=iF g s.slot s.view (dc dA):=by rw [E,ir (by rw [hR,aP];exact cD _)]
  have aC:=xD (g:=g) M aO (by rw [<-H.isSome s.an,show(aZ Y s.an).isSome=true from by simpa using ai,decide_eq_true (show iL g.n<=dA.length by have u:=H.len;have z:¬(Y.length:Int)<(iL g.n:Nat):=ao;omega)];rfl);have aF:(iF g s.slot s.view (dc dA)).1>=0:=by rw [<-E];exact ax
  have V:s.gP g=some (k.x,k.l):=aC.trans ((a6 aF).trans (by rw [<-E]));obtain⟨_,_,az,_,_,bN,_⟩:=W.x.read (e.holds (G:=cV) (by simp));obtain⟨_,_,aA,_,_,bO,_⟩:=W.l.read (e.holds (G:=a7) (by simp));cases az;cases aA;refine⟨_,_,cV++a7,by rw [V];rfl,C.perm (A:=[cV,a7]) e.as (by simp),λy t=>?_⟩;rw [V] at t;cases t;refine⟨_,_,_,_,j,j,bN,bO,λa i=>?_,λa i=>?_⟩
  .have:=W.x.n9 a i;simp [au] at this⊢;exact .inl this
  have:=W.l.n9 a i;simp [au] at this⊢;exact .inr (.inl this)
 have e:C o [] [R ay #[ab av] 217] w:=e.as;have e:=e.drew;refine bw 2 j (λw=>∃ae,C o [] ([R ay #[ab av] 217]++ae) w) ⟨_,e⟩ (a8 0 j a1 j (af 1 2 j (bT 3 j (λw⟨_,e⟩=>aw (e.cg D) (aH some Z)) (a8 4 j a1 j (af 5 2 j (bT 7 j (λw⟨_,e⟩=>aw (e.cg D) (aH some Z)) (af 8 5 j (bK (bI 0 j ⟨.tuple #[.slice ac s.want.length gI,.slice none 0 0,.bool (decide ((s.want.length:Int)>0))],λw F=>?_⟩)))))))));have e:=F.st e (cD _);refine⟨λa i=>i7 (fn:=f280) i j _ _,?_⟩;have M:=Q;have aO:aZ s.dk s.view=some dA:=by have u:(aZ s.dk s.view).isSome=true:=(X.isSome s.view).symm.trans (by simpa using T);cases z:aZ s.dk s.view with|none=>(rw [z] at u;cases u)|some l=>(rw [z] at K;exact congrArg some K)
 have aP:xs.length=dA.length:=by rw [aX,iA,H.len]
 have E:k.P=iF g s.slot s.view (dc dA):=by rw [E,ir (by rw [hR,aP];exact cD _)]
 have aC:=xD (g:=g) M aO (by rw [<-H.isSome s.an,show(aZ Y s.an).isSome=true from by simpa using ai,decide_eq_true (show iL g.n<=dA.length by have u:=H.len;have z:¬(Y.length:Int)<(iL g.n:Nat):=ao;omega)];rfl);have aF:¬(iF g s.slot s.view (dc dA)).1>=0:=by rw [<-E];exact ax
 have V:=aC.trans (aI aF);rotate_left
 have e:C o [] [R ay #[ab av] 217] w:=e.as;have e:=e.drew;refine bw 2 j (λw=>∃ae,C o [] ([R ay #[ab av] 217]++ae) w) ⟨_,e⟩ (a8 0 j a1 j (af 1 2 j (bT 3 j (λw⟨_,e⟩=>aw (e.cg D) (aH some Z)) (a8 4 j a1 j (af 5 2 j (bT 7 j (λw⟨_,e⟩=>aw (e.cg D) (aH some Z)) (af 8 5 j (bK (bI 0 j ⟨.tuple #[.slice ac s.want.length gI,.slice none 0 0,.bool (decide ((s.want.length:Int)>0))],λw F=>?_⟩)))))))));have e:=F.st e (cD _);refine⟨λa i=>i7 (fn:=f280) i j _ _,?_⟩;have V:=Dp (g:=g) (s:=s) Q;rotate_left
 all_goals
  have bx:(s.gP g).isSome=decide ((s.want.length:Int)>0):=by
   rw [V];by_cases aV:0<s.want.length
   .rw [a6 aV,jC (by omega)];rfl
   .rw [aI aV,fj (by omega)];rfl
  refine⟨_,_,[],by rw [bx],e.bare.empty,λy t=>?_⟩;rw [V] at t;split at t
  .cases t;refine⟨ac,gI,none,0,j,j,e.rd bP (bX.of_nil _ _),Rd.nil _ _,λa i=>?_,λa i=>by cases i⟩;have:=(Z▸aW:dt (.slice ac s.want.length gI) s.want bn).n9 a i;simpa [au] using this
  cases t
theorem aj.qP(g:am)(s:aj)(m:aW):s.gh g m={s with props:=(s.gh g m).props,dh:=(s.gh g m).dh}:=by
 unfold aj.gh;split
 .rfl
 .unfold aj.jL;split<;>rfl
theorem aj.A3(g:am)(s:aj)(m:aW):s.c8 g m={s with cU:=(s.c8 g m).cU,ay:=(s.c8 g m).ay}:=by
 unfold aj.c8;split
 .rfl
 .split
  .unfold aj.counts;split<;>rfl
  .rfl
theorem aj.s6(g:am)(s:aj)(m:aW):s.status g m={s with dk:=(s.status g m).dk}:=by
 unfold aj.status;split<;>rfl
theorem aj.DR(g:am)(s:aj)(m:aW):s.decision g m={s with value:=(s.decision g m).value,dG:=(s.decision g m).dG,dec:=(s.decision g m).dec}:=by
 unfold aj.decision;split
 .rfl
 .split<;>rfl
theorem Holds.app{w:World}{A B:List Chunk}(a:Holds w A)(b:Holds w B):Holds w (A++B):=λc d=>(dw.1 d).elim (a c) (b c)
theorem GY{o:World}{av:Nat}{g:am}{s:aj}{G:List Chunk}(ac:fA g av s G){N:Nat}(n:s.ok g N)(V:N<=1000000)(p:g.at o)(D:g.ok)(l:g.off (au [G]))(a:Own [G] o):Calls prog 247 #[ab av] o λr w=>∃v be ai,r= .tuple #[v,.bool (s.gS g).isSome]/\cz v (((s.gS g).map Prod.snd).getD []) be/\fA g av (((s.gS g).map Prod.fst).getD s) ai/\C o (au [G]) [ai,be] w:=by
 obtain⟨c,ai,aA,bn,cu,ca,bZ,bV,cb,b8,b7,k,rfl⟩:=ac;obtain⟨b,T⟩:∃b,b=au [bd g av s c++(ai++(aA++(bn++(cu++(ca++(bZ++(bV++(cb++(b8++b7)))))))))]:=⟨_,j⟩;rw [<-T] at l⊢;have a:C o b [bd g av s c++(ai++(aA++(bn++(cu++(ca++(bZ++(bV++(cb++(b8++b7)))))))))] o:=T▸a;have a:=a.oj;refine a2 func247 ?_;have a:=a.drew;refine bw 6 j (λw=>∃ae,C o b ([bd g av s c]++ae) w) ⟨_,a⟩ (af 0 4 j (a8 4 j a1 j (af 5 3 j (a8 8 j a1 j (aU 9 j ?_)))));have e:=vm (av:=av) (s:=s) (c:=c) (C.ak a) (p.st a l) D (node:=s.an) (view:=s.view) n.slot n.view;refine bF j j j e (λw f=>?_);have a:=a.aM f;have a:C o b [bd g av s c,ai,aA,bn,cu,ca,bZ,bV,cb,b8,b7] w:=a.as;refine ar ⟨⟨_,a⟩,?_⟩;refine af 10 2 j (ef 19 j (λE=>?_) (λE=>?_))
 .refine af 12 10 j (bK (ao 5 j j ?_));have a:C o b [bd g av s c,ai,aA,bn,cu,ca,bZ,bV,cb,b8,b7] _:=a.as
  have z:s.gS g=none:=by
   unfold aj.gS;exact a6 (.inl (by simpa using E))
  rw [z];exact⟨_,[],_,j,cz.nil,⟨c,ai,aA,bn,cu,ca,bZ,bV,cb,b8,b7,k,j⟩,(C.gw a).empty.f1⟩
 refine af 12 3 j (a8 15 j a1 j (af 16 3 j (a8 19 j a1 j (af 20 2 j (bK (cm 0 j j (λF=>?_) (λF=>?_)))))))
 .refine ao 4 j j ?_;have a:C o b [bd g av s c,ai,aA,bn,cu,ca,bZ,bV,cb,b8,b7] _:=a.as
  have z:s.gS g=none:=by
   unfold aj.gS;exact a6 (.inr F)
  rw [z];exact⟨_,[],_,j,cz.nil,⟨c,ai,aA,bn,cu,ca,bZ,bV,cb,b8,b7,k,j⟩,(C.gw a).empty.f1⟩
 have e:=Ds (av:=av) (s:=s) (c:=c) (C.ak a) n V (p.st a l) D k.want k.dk (a.holds (by simp)) (a.holds (by simp));refine bh 4 e j (λr w⟨v1,v2,ag,L,f,aD⟩=>?_);subst L;have a:=a.aM f;have a:C o b [bd g av s c,ai,aA,bn,cu,ca,bZ,bV,cb,b8,b7,ag] w:=a.as;refine bm 12 j j (λI=>?_) (λI=>?_)
 .refine ao 4 j j ?_;have a:C o b [bd g av s c,ai,aA,bn,cu,ca,bZ,bV,cb,b8,b7] _:=a.as
  have z:s.gS g=none:=by
   unfold aj.gS;rw [aI (by rintro(h|h);(have u:s.leads g s.an s.view=true:=by simpa using E);(rw [h] at u;cases u);exact absurd h F),show s.gP g=none from by simpa using I]
  rw [z];exact⟨_,[],_,j,cz.nil,⟨c,ai,aA,bn,cu,ca,bZ,bV,cb,b8,b7,k,j⟩,(C.gw a).empty.f1⟩
 obtain⟨y,M⟩:∃y,s.gP g=some y:=gX.1 (by simpa using I);obtain⟨A,hp,B,d,rfl,rfl,W,X,R,S⟩:=aD y M;have i:=n.gP M;have H:=Holds.app (a.holds (G:=ag) (by simp)) (a.holds (G:=bn) (by simp));refine al 7 j (aw (C.ak a) j) (dB 2 (a.bc av) j j j j (λw a=>?_));have a:C o b (bd g av {s with prop:=s.view} c::_) w:=a;refine al 5 j (aw (C.ak a) j) (aq 2 j (cP (c:=(⟨2,0,0,0,s.view,A,y.1,hp,B,y.2,d,cL⟩:aB).cs.toArray) j j j (λ_=>by kernel_rfl) ?_));refine cl 0 a j (λt w a=>ck 0 (a.bc t) j j j (by simpa using(⟨2,0,0,0,s.view,A,y.1,hp,B,y.2,d,cL⟩:aB).one) j (λw a=>?_));have a:=C.whole (U:=(⟨2,0,0,0,s.view,A,y.1,hp,B,y.2,d,cL⟩:aB).cs) a j;have a:C o b [bd g av {s with prop:=s.view} c,bi t (⟨2,0,0,0,s.view,A,y.1,hp,B,y.2,d,cL⟩:aB),ai,aA,bn,cu,ca,bZ,bV,cb,b8,b7,ag] w:=a.as;have a:=a.drew;refine bw 1 j (λw=>∃c ae,C o b ([bd g av {s with prop:=s.view} c,bi t (⟨2,0,0,0,s.view,A,y.1,hp,B,y.2,d,cL⟩:aB)]++ae) w) ⟨_,_,a⟩ (af 0 2 j (aT 2 j (λw⟨_,_,a⟩=>c3 (U:=(⟨2,0,0,0,s.view,A,y.1,hp,B,y.2,d,cL⟩:aB).cs) j j j (bp (C.ak a))) (af 3 3 j (bT 6 j (λw⟨_,_,a⟩=>aw (C.ak a) j) (aU 7 j ?_)))));have x:=Holds.app (a.holds (G:=ag) (by simp)) (a.holds (G:=bn) (by simp));have J:(⟨2,0,0,0,s.view,A,y.1,hp,B,y.2,d,cL⟩:aB).ok _:=⟨W.move R H x,X.move S H x,i.2.2,j⟩;have e:=sZ (av:=av) (s:={s with prop:=s.view}) (c:=c) (C.ak a) (p.st a l) D J (by show y.1.length<=10000;have:=i.1;omega) (by show y.2.length<=1000;have:=i.2.1;omega) (to:=s.an);refine cN j j j e (λr w⟨q,Y,L,ay,K,f⟩=>?_);subst L;have a:=a.aM f;have a:C o b [bd g av {s with prop:=s.view} c,bi t (⟨2,0,0,0,s.view,A,y.1,hp,B,y.2,d,cL⟩:aB),ai,aA,bn,cu,ca,bZ,bV,cb,b8,b7,ag,Y] w:=a.as;refine ar ⟨⟨_,_,a⟩,?_⟩;refine aU 8 j ?_;have ax:q.P.cR:=by rw [K];exact aj.nE i.1 i.2.1 i.2.2
 have az:q.v=s.view:=aH aW.v K;have e:=zW (av:=av) (g:=g) (s:={s with prop:=s.view}) (c:=c) (m:=q) ay ax n.slot (by rw [az];exact n.view) k.props k.dh (eh n.dh V) (p.st a l) D (a.eE p l) a.ours;refine bF j j j e (λw⟨v1,O,Q,aa,ah,f⟩=>?_);have a:=a.b3 f;have a:C o b ([bd g av {s with prop:=s.view} {c with dh:=v1},bi t (⟨2,0,0,0,s.view,A,y.1,hp,B,y.2,d,cL⟩:aB)]++_) w:=a.front;refine ar ⟨⟨_,_,a⟩,?_⟩;refine bK (bN 3 (U:=(⟨2,0,0,0,s.view,A,y.1,hp,B,y.2,d,cL⟩:aB).cs) j j j (bp (C.ak a)) ?_);have x:=Holds.app (a.holds (G:=ag) (by simp)) (a.holds (G:=bn) (by simp));have J:(⟨2,0,0,0,s.view,A,y.1,hp,B,y.2,d,cL⟩:aB).ok _:=⟨W.move R H x,X.move S H x,i.2.2,j⟩;have e:=ug (av:=av) (s:={s with prop:=s.view}) (c:={c with dh:=v1}) (C.ak a) (p.st a l) D J (by show y.1.length<=10000;have:=i.1;omega) (by show y.2.length<=1000;have:=i.2.1;omega);refine bh 0 e j (λr w⟨be,Z,f⟩=>?_);have a:=a.aM f;refine ao 2 j j ?_
 have aC:s.gS g=some (({s with prop:=s.view}:aj).gh g (s.jr g ⟨2,0,0,0,s.view,y.1,y.2,cL⟩ s.an),s.all g ⟨2,0,0,0,s.view,y.1,y.2,cL⟩):=by
  unfold aj.gS;rw [aI (by rintro(h|h);(have u:s.leads g s.an s.view=true:=by simpa using E);(rw [h] at u;cases u);exact absurd h F),M]
 have ap:s.jr g ⟨2,0,0,0,s.view,y.1,y.2,cL⟩ s.an=q.P:=K.symm;rw [aC,ap];have a:C o b [bd g av {s with prop:=s.view} {c with dh:=v1},ai,aA,bn,O,Q,bZ,bV,cb,b8,b7,be] w:=a.as;have ad:fA g av (({s with prop:=s.view}:aj).gh g q.P) _:=⟨{c with dh:=v1},ai,aA,bn,O,Q,bZ,bV,cb,b8,b7,by rw [aj.qP];exact{k with props:=aa,dh:=ah},j⟩;refine⟨_,be,_,j,Z,ad,?_⟩;rw [aj.qP];exact C.gw a
theorem yg{α β:Type}{f:α->Option β}{l t1 t2:List α}{p:α}{n:Nat}(a:l=t1++p::t2)(aJ:t1.length=n)(h:(l.take n).findSome? f=none)(b:f p=none):(l.take (n+1)).findSome? f=none:=by
 subst a;subst aJ;exact yi h (by simp) (by simpa using b)
theorem yh{α β:Type}{f:α->Option β}{l t1 t2:List α}{p:α}{n:Nat}{y:β}(a:l=t1++p::t2)(aJ:t1.length=n)(h:(l.take n).findSome? f=none)(b:f p=some y):l.findSome? f=some y:=by
 subst a;subst aJ;exact uZ h (by simp) y (by simpa using b)
theorem HN{o:World}{av:Nat}{g:am}{s:aj}{G:List Chunk}(aG:fA g av s G){N:Nat}(F:s.ok g N)(aF:N<=1000000)(aP:g.at o)(af:g.ok)(an:g.off (au [G]))(f:Own [G] o):Calls prog 244 #[ab av] o λr w=>∃v be ai,r= .tuple #[v,.bool (s.gT g).isSome]/\cz v (((s.gT g).map Prod.snd).getD []) be/\fA g av (((s.gT g).map Prod.fst).getD s) ai/\C o (au [G]) [ai,be] w:=by
 obtain⟨c,ai,aA,bn,cu,ca,bZ,bV,cb,b8,b7,n,rfl⟩:=aG;obtain⟨k,ac⟩:∃k,k=au [bd g av s c++(ai++(aA++(bn++(cu++(ca++(bZ++(bV++(cb++(b8++b7)))))))))]:=⟨_,j⟩;rw [<-ac] at an⊢;have f:C o k [bd g av s c++(ai++(aA++(bn++(cu++(ca++(bZ++(bV++(cb++(b8++b7)))))))))] o:=ac▸f;have f:=f.oj;obtain⟨z,ah,I,a0,H,Q,aT,V,E⟩:=n.ay;subst E;refine j0 func244 (bM 2 f j j (λay w f=>cl 0 f j (λaO w f=>cl 0 f j (λi w f=>?_))));have f:C o k (R i #[.bool false] 4::R aO #[.slice none 0 0] 59::R ay #[ab av] 217::_) w:=f;refine al 3 j (aw (C.ak f) j) (aq 2 j (rr (J:=1) j j j j (by decide) ?_));refine al 0 j (aw (C.ak (b:=av) f) (aH some Q)) ?_;obtain⟨a,P⟩:∃a:Option Addr,a=some ⟨z,0,none⟩:=⟨_,j⟩;have Q:c.ay= .pointer a:=Q.trans (by rw [P]);refine bS 13 (.pointer a) j (by rw [P]) ?_
 have aL:dE 334 w a a0:=by
  have h:=(f.holds (G:=ax 334 z ah I++H) (by simp)).left;exact .inr ⟨z,ah,I,P,h (z,_) (by simp),h (ah,I) (by simp),aT⟩
 have D:=Co (o:=w) (p:=a);refine bh 0 D j (λr w⟨ar,az,T,aa⟩=>?_);subst T;have aJ:=aL.st aa;have f:=f.aM aa;have f:C o k [R ar #[.pointer a] 283,[(az,.cells #[.func (.func 304) #[] #[]] 38 (0,0))],R ay #[ab av] 217,R aO #[.slice none 0 0] 59,R i #[.bool false] 4,bd g av s c,ai,aA,bn,cu,ca,bZ,ax 334 z ah I++H,cb,b8,b7] w:=f.as;obtain⟨bV,E⟩:∃bV,bV=ax 334 z ah I++H:=⟨_,j⟩;rw [<-E] at f n;have f:C o k ([R ar #[.pointer a] 283,[(az,.cells #[.func (.func 304) #[] #[]] 38 (0,0))]]++[R ay #[ab av] 217,R aO #[.slice none 0 0] 59,R i #[.bool false] 4,bd g av s c,ai,aA,bn,cu,ca,bZ,bV,cb,b8,b7]) w:=f
 refine j4 1 j (G3 (by have a7:=V.len;have a8:=F.ay;omega)) j (by have:=f.size;simpa using this) f j (λ_=>rfl) (by intro p n;simp at n;rcases n with rfl|rfl<;>rfl)
  (λpre ae=>ae=[R ay #[ab av] 217,R aO #[.slice none 0 0] 59,R i #[.bool false] 4,bd g av s c,ai,aA,bn,cu,ca,bZ,bV,cb,b8,b7]/\((dc s.ay).take pre.length).findSome? (λp=>s.fE g p.2)=none) (λe ae=>match e with| .ret=>∃y q t l m,(dc s.ay).findSome? (λp=>s.fE g p.2)=some y/\dt q y.1 l/\er t y.2 m/\ae=[R ay #[ab av] 217,R aO #[.slice none 0 0] 59,R i #[.bool true] 4,bd g av (s.gf y.1 y.2) {c with value:=q,dG:=t},ai,aA,bn,cu,ca,bZ,bV,cb,l,m]|_=>False) ⟨j,j⟩ (λL aK aE=>aJ.st aE) (λ_ _ _ _=>trivial) ?_ ?_ ?_ (λ_ _ _ h=>h.elim)
 .rintro y pre ⟨ap,a1⟩ a6 L bf aC ⟨rfl,u⟩ f;obtain⟨t1,t2,x,a4,Y,a5,S,ao,aV,M⟩:=V.oq aC;have M:il a1 x Y:=M;have Z:fO g N x:=F.jY (ap,x) (gO.1 (show(ap,x)∈dc s.ay by rw [S];simp));have f:=C.gy f;refine bI 2 j (⟨j,_,f,λL a2 f=>?_⟩);have aQ:=aP.st f an;have f:=C.gy f;obtain⟨c5,rfl,aD⟩:=M.read (show Holds a2 Y by have h:=f.holds (G:=bV) (by simp);rw [E] at h;exact(h.right.perm aV).right.left);refine al 3 j (aw (C.ak f) j) ?_;have D:=x7 (av:=av) (g:=g) (s:=s) (c:=c) (C.ak f) aQ af n.dh (f.holds (by simp)) F.pC aD Z aF;refine bh 1 D j (λr w⟨v1,v2,ag,T,aR,aZ⟩=>?_);subst T;have f:=f.aM aR;refine bm 10 j j (λK=>?_) (λK=>?_)
  .obtain⟨y,W⟩:∃y,s.fE g x=some y:=gX.1 K;obtain⟨⟨A,hp,rfl,a9,bb,aX,ba⟩,ad⟩:=aZ y W;obtain⟨a3,d2,rfl,_,_⟩:=ad.form;have X:=F.fE af Z W;refine al 2 j (aw (C.ak f) j) ?_;have D:=xX (av:=av) (g:=g) (s:=s) (c:=c) (bR:=hp) (d:=d2) aX (f.f1.f1.holds (G:=ag) (by simp)|>λh=>by obtain⟨_,_,e,_,_,aW,_⟩:=ad.read h;cases e;exact aW) X.2.2 (by have:=X.1;omega) (by have:=X.2.1;omega) f.ours;refine bo 2 D j (λw⟨q,t,l,m,B,O,aS⟩=>?_);have f:=f.b3 aS;refine dB 2 (f.bc aO) j j j j (λw f=>?_);have f:C _ _ (R aO #[.slice none 0 0] 59::_) w:=f;refine dB 0 (f.bc i) j j j j (λw f=>?_);have f:C _ _ (R i #[.bool true] 4::_) w:=f;exact bI 0 j ⟨[R ay #[ab av] 217,R aO #[.slice none 0 0] 59,R i #[.bool true] 4,bd g av (s.gf y.1 y.2) {c with value:=q,dG:=t},ai,aA,bn,cu,ca,bZ,bV,cb,l,m],f.as,y,q,t,l,m,yh S ao u W,B,O,j⟩
  refine bI 1 j ?_;have aU:s.fE g x=none:=by simpa using K
  refine⟨[R ay #[ab av] 217,R aO #[.slice none 0 0] 59,R i #[.bool false] 4,bd g av s c,ai,aA,bn,cu,ca,bZ,bV,cb,b8,b7],f.as,j,?_⟩;rw [b4,List.length_singleton];exact yg S ao u aU
 .rintro xs aB w aI ⟨rfl,u⟩ f;refine dB 2 (f.bc aO) j j j j (λw f=>?_);have f:C _ _ (R aO #[.slice none 0 0] 59::_) w:=f;refine dB 0 (f.bc i) j j j j (λw f=>?_);have f:C _ _ (R i #[.bool false] 4::_) w:=f;refine bI 0 j ⟨.tuple #[.slice none 0 0,.bool false],λw U=>?_⟩;have f:=U.st f (cD _);refine⟨Ag results244 j j (aw (C.ak f) j) j j (aw (C.ak f) j),?_⟩;rw [aI,iA,V.len,ir (by rw [hR];exact cD _)] at u;have f:C o k [bd g av s c,ai,aA,bn,cu,ca,bZ,bV,cb,b8,b7] _:=f.as
  have u:s.gT g=none:=by
   unfold aj.gT;rw [u];rfl
  rw [u];exact⟨_,[],_,j,cz.nil,⟨c,ai,aA,bn,cu,ca,bZ,bV,cb,b8,b7,n,j⟩,(C.gw f).empty.f1⟩
 rintro aB w B f;obtain⟨y,q,t,l,m,aN,B,O,rfl⟩:=B;refine⟨.tuple #[.slice none 0 0,.bool true],λw U=>?_⟩;have f:=U.st f (cD _);refine⟨Ag results244 j j (aw (C.ak f) j) j j (aw (C.ak f) j),?_⟩;have aY:s.gT g=some (s.gf y.1 y.2,[]):=by unfold aj.gT;rw [aN];rfl
 rw [aY];have f:C o k [bd g av (s.gf y.1 y.2) {c with value:=q,dG:=t},ai,aA,bn,cu,ca,bZ,bV,cb,l,m] w:=f.as;exact⟨_,[],_,j,cz.nil,⟨{c with value:=q,dG:=t},ai,aA,bn,cu,ca,bZ,bV,cb,l,m,{n with value:=B,dG:=O},j⟩,(C.gw f).empty.f1⟩
theorem fA.ak{g:am}{av:Nat}{s:aj}{G:List Chunk}{w:World}(h:fA g av s G)(a:Holds w G):∃c,w.heap[av]? =some (.cells (j9 g s c).toArray 288 (0,0)):=by
 obtain⟨c,ai,aA,bn,cu,ca,bZ,bV,cb,b8,b7,b,rfl⟩:=h;exact⟨c,a.left.head⟩
section
variable {P:Program} {n:Fr} {Z:Env} {w:World} {Q:d6} {ops:Array Oper} {rest:List Oper} {dst:Option Nat} {ty:TypeId} {pos:String} {after:Array Edge} {g:Option (Nat×Bool)}
theorem nN{t:TypeId}{f:Array TypeId}{args:Array Operand}{z:Value}{bytes:Nat}{o:World}{F:List Nat}{cV a7:List Chunk}{ae:List (List Chunk)}{v1 v2:Value}{dA b:List aW}
 [hu:bB P t (.slice 103)] [L:cn P 103 z 39 bytes] (v:C o F (cV::a7::ae) w) (m:cz v1 dA cV) (p:cz v2 b a7) (G:f= #[t,t]) (I:z.cells.size=39) (y:bytes<=1000)
 (D:cW ops Z g=some true) (B:da n dst=true) (H:fr Z args.toList=some [v1,v2]) (e:dA.length+b.length<=1000000000)
 (h:∀v3 bn aK,cz v3 (dA++b) bn->C o F (bn::ae) aK->O P n ops rest (cE Z dst v3) aK Q):O P n ops (⟨dst,.call ⟨.builtin .append,args,f⟩,ty,pos,after,g⟩::rest) Z w Q:=by
 obtain⟨J,rfl,i,eN,rfl,s,q⟩:=m;obtain⟨bf,rfl,k,fS,rfl,u,c⟩:=p;rw [fB,fB] at e;have d:C o F (i::eN::k::fS::ae) w:=v.perm (by simp);obtain⟨K,dv,rfl,_,_,E,_⟩:=u.read (d.holds (by simp));refine d9 d s G I (by decide) D B H (news:=fW bf) (yv bf c.tag) E (u4 bf) ?_ ?_ (λv3 a aK r x=>?_)
 .have:=rO e y;omega
 .unfold maxLen;omega
 .refine h v3 (a++(eN++fS)) aK ⟨J++bf,by simp,a,eN++fS,j,?_,q.app c⟩ (C.perm (A:=a::eN::fS::ae) (x.f2.drop.f1|>λh=>?_) (by simp))
  .rw [b4,qw];exact r
  .exact h.jm (by
    have l:List.Perm (eN::a::fS::ae) (a::eN::fS::ae):=.swap ..;first|exact l|exact .refl _)
end
theorem aj.uf(g:am)(s:aj)(m:aW):(s.all g m).length<=g.n:=by unfold aj.all;rw [List.length_map];exact zK _ _
theorem aj.Fs(s:aj):s.left<=4:=by unfold aj.left;split<;>split<;>split<;>split<;>omega
theorem aj.Ax{g:am}{s:aj}{r:aj×List aW}(h:s.gT g=some r)(a:s.dec=false):r.1.left<s.left/\r.2.length<=g.n:=by
 unfold aj.gT at h;cases br:(dc s.ay).findSome? λp=>s.fE g p.2 with
 |none=>rw [br] at h;cases h
 |some y=>
  rw [br] at h;cases h;refine⟨?_,b6 _⟩;unfold aj.left aj.gf;rw [a];simp
theorem aj.vW{g:am}{s:aj}{r:aj×List aW}(h:s.gz g=some r):r.1.left<s.left/\r.2.length<=g.n:=by
 unfold aj.gz at h;split at h
 .cases h
 .split at h
  .cases h
  .split at h
   .cases h;refine⟨?_,aj.uf _ _ _⟩;rw [A4];unfold aj.left;dsimp only;rw [aI (show¬s.view<s.view by omega),a6 (show s.hU<s.view by omega)];omega
   .cases h
theorem aj.uD{g:am}{s:aj}{r:aj×List aW}(h:s.g4 g=some r):r.1.left<s.left/\r.2.length<=g.n:=by
 unfold aj.g4 at h;split at h
 .cases h
 .split at h
  .cases h
  .cases h;refine⟨?_,aj.uf _ _ _⟩;rw [A5];unfold aj.left;dsimp only;rw [aI (show¬s.view<s.view by omega),a6 (show s.comm<s.view by omega)];omega
theorem aj.vX{g:am}{s:aj}{r:aj×List aW}(h:s.gS g=some r):r.1.left<s.left/\r.2.length<=g.n:=by
 unfold aj.gS at h;split at h
 .cases h
 .rename_i aJ;split at h
  .cases h
  .cases h;refine⟨?_,aj.uf _ _ _⟩
   have a:s.prop<s.view:=by
    by_cases h:s.prop<s.view
    .exact h
    .exact absurd (.inr (by omega)) aJ
   dsimp only;rw [aj.qP];unfold aj.left;dsimp only;rw [aI (show¬s.view<s.view by omega),a6 a];omega
theorem sL{I:Option (aj×List aW)}{k:Nat}(h:∀r,I=some r->r.2.length<=k):((I.map Prod.snd).getD []).length<=k:=by
 cases I with
 |none=>exact b6 _
 |some r=>exact h r j
theorem aj.HV{g:am}{s:aj}{r:aj×List aW}(h:s.gT g=some r):s.step g=some r:=by unfold aj.step;rw [h]
theorem aj.HW{g:am}{s:aj}{r:aj×List aW}(a:s.gT g=none)(h:s.gz g=some r):s.step g=some r:=by unfold aj.step;rw [a];dsimp only;rw [h]
theorem aj.HX{g:am}{s:aj}{r:aj×List aW}(a:s.gT g=none)(b:s.gz g=none)(h:s.g4 g=some r):s.step g=some r:=by unfold aj.step;rw [a];dsimp only;rw [b];dsimp only;rw [h]
theorem aj.AE{g:am}{s:aj}(a:s.gT g=none)(b:s.gz g=none)(c:s.g4 g=none):s.step g=s.gS g:=by unfold aj.step;rw [a];dsimp only;rw [b];dsimp only;rw [c]
theorem aj.u6{g:am}{n:Nat}{s:aj}{l:List aW}(h:s.dec=true):aj.go g n s l=(s,l):=by
 cases n with
 |zero=>rfl
 |succ n=>unfold aj.go;rw [if_pos h]
theorem aj.EB{g:am}{n:Nat}{s:aj}{l:List aW}(h:s.step g=none):aj.go g n s l=(s,l):=by
 cases n with
 |zero=>rfl
 |succ n=>
  unfold aj.go;split
  .rfl
  .rw [h]
theorem aj.si{g:am}{n:Nat}{s:aj}{l:List aW}{r:aj×List aW}(a:s.dec=false)(h:s.step g=some r):aj.go g (n+1) s l=aj.go g n r.1 (l++r.2):=by
 rw [aj.go,aI (by rw [a];decide),h]
theorem lU{o:World}{av:Nat}{g:am}{s:aj}{G:List Chunk}(ap:fA g av s G){N:Nat}(aA:s.ok g N)(aB:N+5<=1000000)(S:g.at o)(f:g.ok)(O:g.off (au [G]))(a:Own [G] o):Calls prog 200 #[ab av] o λr w=>∃be ai,cz r (s.steps g).2 be/\fA g av (s.steps g).1 ai/\C o (au [G]) [ai,be] w:=by
 obtain⟨P,ad⟩:∃P,P=au [G]:=⟨_,j⟩;rw [<-ad] at O⊢;have a:C o P [G] o:=ad▸a;refine a2 func200 ?_
 refine cH 11 j (ct:=Bool×Nat×aj×List aW×Value×List Chunk×List Chunk×Nat) (λi=>[(0,ab av),(3,i.2.2.2.2.1),(4,.bool i.1)])
  (λi w=>i.2.2.1.ok g i.2.2.2.2.2.2.2/\i.2.2.2.2.2.2.2+i.2.1<=N+5/\i.2.2.2.1.length+10*i.2.1<=50/\fA g av i.2.2.1 i.2.2.2.2.2.1/\cz i.2.2.2.2.1 i.2.2.2.1 i.2.2.2.2.2.2.1/\(if i.1=true then i.2.2.1.left<i.2.1/\s.steps g=aj.go g i.2.1 i.2.2.1 i.2.2.2.1 else s.steps g=(i.2.2.1,i.2.2.2.1))/\C o P [i.2.2.2.2.2.1,i.2.2.2.2.2.2.1] w) (λi=>2*i.2.1+(if i.1=true then 1 else 0)) (true,5,s,[],.slice none 0 0,G,[],N) ⟨j,j,j,aY⟩ ⟨aA,cD _,cD _,ap,cz.nil,by rw [a6 j];exact⟨by have:=s.Fs;dsimp only;omega,j⟩,a.empty.f1⟩ ?_
 rintro⟨again,ib,s1,dA,v1,W,z,Q⟩ w ⟨y,ae,ag,R,A,e,a⟩;dsimp only at y ae ag R A e a⊢;obtain⟨c,ar⟩:=R.ak (a.holds (by simp));refine aq 5 j (cQ 10 j (λT=>?_) (λT=>?_))
 .refine al 3 j (aw ar j) (bm 2 j j (λX=>?_) (λX=>?_))
  .refine aq 8 j (gV j j j j ?_);refine aq 1 j (gV j j j j ?_);refine aq 1 j (gV j j j j ?_);refine aq 1 j (gV j j j j ?_);refine eO a j j j j j j bJ (λac w a=>?_);have L:again=true:=T;rw [a6 L] at e;have B:s1.dec=false:=by simpa using X
   refine cH 3 j (ct:=Nat×List Chunk) (λk=>[(0,ab av),(3,v1),(4,.bool false),(25,.slice (some ⟨ac,0,none⟩) 4 4),(26,.int .i64 (4:Nat)),(27,.int .i64 (k.1:Nat))])
    (λk w=>k.1<=4/\fA g av s1 k.2/\(1<=k.1->s1.gT g=none)/\(2<=k.1->s1.gz g=none)/\(3<=k.1->s1.g4 g=none)/\(4<=k.1->s1.gS g=none)/\C o P [k.2,z,[(ac,.cells #[.func (.func 244) #[ab av] #[],.func (.func 245) #[ab av] #[],.func (.func 246) #[ab av] #[],.func (.func 247) #[ab av] #[]] 363 (0,0))]] w) (λk=>4-k.1) (0,W) ⟨j,j,j,j,j,j,aY⟩ ⟨b6 _,R,λh=>by dsimp only at h;omega,λh=>by dsimp only at h;omega,λh=>by dsimp only at h;omega,λh=>by dsimp only at h;omega,a.as⟩ ?_
   rintro⟨i,ah⟩ w ⟨ax,K,D,M,U,af,a⟩;dsimp only at ax K D M U af a⊢;have V:=S.st a O;refine cm 4 j j (λan=>?_) (λan=>?_)
   .refine aq 5 j ?_;have az:i=0\/i=1\/i=2\/i=3:=by omega
    rcases az with rfl|rfl|rfl|rfl
    .refine hM (J:=0) j j j j (by decide) (al 0 j (aw (C.ak a) j) ?_);have H:=HN K y (by omega) V f (a.eE S O) a.ours;refine aq 4 j (hL j j j j H (λr w⟨v2,E,t,m,F,d,I⟩=>?_));subst m;have a:=a.b3 I;refine bm 8 j j (λl=>?_) (λl=>?_)
     .have aa:((Option.map Prod.snd (s1.gT g)).getD []).length<=g.keys.length:=sL (λr m=>(aj.Ax m B).2);have Y:=f.n10;refine aq 4 j (nN (dA:=dA) (a.front (cI:=[z,E])) A F j j (by decide) j j j (by omega) (λv3 bn w u a=>?_));refine bP 5 j ?_;obtain⟨b,p⟩:∃b,s1.gT g=some b:=gX.1 l;have q:s1.step g=some b:=aj.HV p;have v:=aj.Ax p B;rw [p] at u d;obtain⟨n,rfl⟩:∃k,ib=k+1:=⟨ib-1,by have:=e.1;omega⟩;have Z:b.2.length<=10:=eh v.2 f.n10;refine⟨(true,n,b.1,dA++b.2,v3,t,bn,Q+1),⟨j,j,j,aY⟩,⟨y.step f q,by dsimp only;omega,by dsimp only;rw [b4];omega,d,u,?_,a.as⟩,by dsimp only;rw [if_pos j,if_pos L];omega⟩;dsimp only;rw [a6 j];exact⟨by have:=e.1;have:=v.1;omega,e.2.trans (aj.si B q)⟩
     refine bq 2 j j j (gm _ 1 (by decide)) (bP 1 j ?_);have x:s1.gT g=none:=by simpa using l
     rw [x] at d;refine⟨(0+1,t),⟨j,j,j,j,j,j,aY⟩,⟨by dsimp only;omega,d,λ_=>x,λh=>by dsimp only at h;omega,λh=>by dsimp only at h;omega,λh=>by dsimp only at h;omega,a.as⟩,by dsimp only;omega⟩
    .refine hM (J:=1) j j j j (by decide) (al 0 j (aw (C.ak a) j) ?_);have H:=GW K y (by omega) V f (a.eE S O) a.ours;refine aq 4 j (hL j j j j H (λr w⟨v2,E,t,m,F,d,I⟩=>?_));subst m;have a:=a.b3 I;refine bm 8 j j (λl=>?_) (λl=>?_)
     .have aa:((Option.map Prod.snd (s1.gz g)).getD []).length<=g.keys.length:=sL (λr m=>(aj.vW m).2);have Y:=f.n10;refine aq 4 j (nN (dA:=dA) (a.front (cI:=[z,E])) A F j j (by decide) j j j (by omega) (λv3 bn w u a=>?_));refine bP 5 j ?_;obtain⟨b,p⟩:∃b,s1.gz g=some b:=gX.1 l;have q:s1.step g=some b:=aj.HW (D (by decide)) p;have v:=aj.vW p;rw [p] at u d;obtain⟨n,rfl⟩:∃k,ib=k+1:=⟨ib-1,by have:=e.1;omega⟩;have Z:b.2.length<=10:=eh v.2 f.n10;refine⟨(true,n,b.1,dA++b.2,v3,t,bn,Q+1),⟨j,j,j,aY⟩,⟨y.step f q,by dsimp only;omega,by dsimp only;rw [b4];omega,d,u,?_,a.as⟩,by dsimp only;rw [if_pos j,if_pos L];omega⟩;dsimp only;rw [a6 j];exact⟨by have:=e.1;have:=v.1;omega,e.2.trans (aj.si B q)⟩
     refine bq 2 j j j (gm _ 1 (by decide)) (bP 1 j ?_);have x:s1.gz g=none:=by simpa using l
     rw [x] at d;refine⟨(1+1,t),⟨j,j,j,j,j,j,aY⟩,⟨by dsimp only;omega,d,λ_=>D (by decide),λ_=>x,λh=>by dsimp only at h;omega,λh=>by dsimp only at h;omega,a.as⟩,by dsimp only;omega⟩
    .refine hM (J:=2) j j j j (by decide) (al 0 j (aw (C.ak a) j) ?_);have H:=DE K y (by omega) V f (a.eE S O) a.ours;refine aq 4 j (hL j j j j H (λr w⟨v2,E,t,m,F,d,I⟩=>?_));subst m;have a:=a.b3 I;refine bm 8 j j (λl=>?_) (λl=>?_)
     .have aa:((Option.map Prod.snd (s1.g4 g)).getD []).length<=g.keys.length:=sL (λr m=>(aj.uD m).2);have Y:=f.n10;refine aq 4 j (nN (dA:=dA) (a.front (cI:=[z,E])) A F j j (by decide) j j j (by omega) (λv3 bn w u a=>?_));refine bP 5 j ?_;obtain⟨b,p⟩:∃b,s1.g4 g=some b:=gX.1 l;have q:s1.step g=some b:=aj.HX (D (by decide)) (M (by decide)) p;have v:=aj.uD p;rw [p] at u d;obtain⟨n,rfl⟩:∃k,ib=k+1:=⟨ib-1,by have:=e.1;omega⟩;have Z:b.2.length<=10:=eh v.2 f.n10;refine⟨(true,n,b.1,dA++b.2,v3,t,bn,Q+1),⟨j,j,j,aY⟩,⟨y.step f q,by dsimp only;omega,by dsimp only;rw [b4];omega,d,u,?_,a.as⟩,by dsimp only;rw [if_pos j,if_pos L];omega⟩;dsimp only;rw [a6 j];exact⟨by have:=e.1;have:=v.1;omega,e.2.trans (aj.si B q)⟩
     refine bq 2 j j j (gm _ 1 (by decide)) (bP 1 j ?_);have x:s1.g4 g=none:=by simpa using l
     rw [x] at d;refine⟨(2+1,t),⟨j,j,j,j,j,j,aY⟩,⟨by dsimp only;omega,d,λ_=>D (by decide),λ_=>M (by decide),λ_=>x,λh=>by dsimp only at h;omega,a.as⟩,by dsimp only;omega⟩
    refine hM (J:=3) j j j j (by decide) (al 0 j (aw (C.ak a) j) ?_);have H:=GY K y (by omega) V f (a.eE S O) a.ours;refine aq 4 j (hL j j j j H (λr w⟨v2,E,t,m,F,d,I⟩=>?_));subst m;have a:=a.b3 I;refine bm 8 j j (λl=>?_) (λl=>?_)
    .have aa:((Option.map Prod.snd (s1.gS g)).getD []).length<=g.keys.length:=sL (λr m=>(aj.vX m).2);have Y:=f.n10;refine aq 4 j (nN (dA:=dA) (a.front (cI:=[z,E])) A F j j (by decide) j j j (by omega) (λv3 bn w u a=>?_));refine bP 5 j ?_;obtain⟨b,p⟩:∃b,s1.gS g=some b:=gX.1 l;have q:s1.step g=some b:=(aj.AE (D (by decide)) (M (by decide)) (U (by decide))).trans p;have v:=aj.vX p;rw [p] at u d;obtain⟨n,rfl⟩:∃k,ib=k+1:=⟨ib-1,by have:=e.1;omega⟩;have Z:b.2.length<=10:=eh v.2 f.n10;refine⟨(true,n,b.1,dA++b.2,v3,t,bn,Q+1),⟨j,j,j,aY⟩,⟨y.step f q,by dsimp only;omega,by dsimp only;rw [b4];omega,d,u,?_,a.as⟩,by dsimp only;rw [if_pos j,if_pos L];omega⟩;dsimp only;rw [a6 j];exact⟨by have:=e.1;have:=v.1;omega,e.2.trans (aj.si B q)⟩
    refine bq 2 j j j (gm _ 1 (by decide)) (bP 1 j ?_);have x:s1.gS g=none:=by simpa using l
    rw [x] at d;refine⟨(3+1,t),⟨j,j,j,j,j,j,aY⟩,⟨by dsimp only;omega,d,λ_=>D (by decide),λ_=>M (by decide),λ_=>U (by decide),λ_=>x,a.as⟩,by dsimp only;omega⟩
   refine bP 1 j ?_;have ay:i=4:=by omega
   subst ay;have q:s1.step g=none:=(aj.AE (D (by decide)) (M (by decide)) (U (by decide))).trans (af (by decide));refine⟨(false,ib,s1,dA,v1,ah,z,Q),⟨j,j,j,aY⟩,⟨y,ae,ag,K,A,?_,a.as⟩,by dsimp only;rw [L];simp⟩;dsimp only;rw [aI (by decide)];exact e.2.trans (aj.EB q)
  refine ao 5 j j ?_;have B:s1.dec=true:=by simpa using X
  rw [a6 T] at e;rw [e.2,aj.u6 B];exact⟨z,W,A,R,a⟩
 refine ao 12 j j ?_;rw [aI (by rw [T];decide)] at e;rw [e];exact⟨z,W,A,R,a⟩
theorem zt{o:World}{g:am}{an slot:Int}:Calls prog 124 #[g.p,ad an,ad slot] o λr w=>∃av G,r=ab av/\fA g av (aj.new an slot) G/\C o [] [G] w:=by
 have a:Own [] o:=C.start o;refine a2 func124 (bo 8 free_spec j (λw b=>?_));have a:=a.aM b;refine bh 0 vF j (λr w⟨h,l,d,s,b⟩=>?_);subst d;have a:=a.aM b;refine bh 0 Gb j (λr w⟨i,m,d,t,b⟩=>?_);subst d;have a:=a.aM b;refine bh 0 zs j (λr w⟨e,n,d,u,b⟩=>?_);subst d;have a:=a.aM b;refine bh 0 zs j (λr w⟨f,q,d,v,b⟩=>?_);subst d;have a:=a.aM b;refine cP (c:= #[ab e,ab f]) j j j (λ_=>by kernel_rfl) (cP (c:=(j9 g (aj.new an slot) (⟨.slice none 0 0,.slice none 0 0,.slice none 0 0,ab h,.slice none 0 0,ab e,ab f,ab i,.slice none 0 0,.slice none 0 0⟩:eX)).toArray) j j j (λ_=>by kernel_rfl) (bM 0 a j j (λk w a=>ao 1 j j ?_)));have a:C o [] (bd g k (aj.new an slot) (⟨.slice none 0 0,.slice none 0 0,.slice none 0 0,ab h,.slice none 0 0,ab e,ab f,ab i,.slice none 0 0,.slice none 0 0⟩:eX)::_) w:=a;refine⟨k,_,j,⟨(⟨.slice none 0 0,.slice none 0 0,.slice none 0 0,ab h,.slice none 0 0,ab e,ab f,ab i,.slice none 0 0,.slice none 0 0⟩:eX),[],[],[],ax 291 h l (.map #[] 0),[],ax 334 e n (.map #[] 0),ax 334 f q (.map #[] 0),ax 331 i m (.map #[] 0),[],[],⟨Row.nil _ _,Row.nil _ _,Row.nil _ _,fs.new s,⟨[],[],[],j,Row.nil _ _,j⟩,fs.new u,fs.new v,fs.new t,Row.nil _ _,Row.nil _ _⟩,j⟩,?_⟩;exact C.perm (A:=[bd g k (aj.new an slot) (⟨.slice none 0 0,.slice none 0 0,.slice none 0 0,ab h,.slice none 0 0,ab e,ab f,ab i,.slice none 0 0,.slice none 0 0⟩:eX),ax 291 h l (.map #[] 0),ax 334 e n (.map #[] 0),ax 334 f q (.map #[] 0),ax 331 i m (.map #[] 0)]) a.as (by simp)
theorem Ia{o:World}{av:Nat}{g:am}{s:aj}{G:List Chunk}{m:aB}(hm:m.ok o)(aC:fA g av s G){N:Nat}(B:s.ok g N)(aQ:N+10<=1000000)(n:g.at o)(y:g.ok)(i:g.off (au [G]))(a:Own [G] o):Calls prog 143 #[ab av,.agg m.cs.toArray] o λr w=>∃be ai,cz r (s.take g m.P).2 be/\fA g av (s.take g m.P).1 ai/\C o (au [G]) [ai,be] w:=by
 have aR:=a;obtain⟨c,ai,aA,bn,cu,ca,bZ,bV,cb,b8,b7,t,rfl⟩:=aC;obtain⟨p,ag⟩:∃p,p=au [bd g av s c++(ai++(aA++(bn++(cu++(ca++(bZ++(bV++(cb++(b8++b7)))))))))]:=⟨_,j⟩;rw [<-ag] at i⊢;have a:C o p [bd g av s c++(ai++(aA++(bn++(cu++(ca++(bZ++(bV++(cb++(b8++b7)))))))))] o:=ag▸a;have a:=a.oj;refine a2 func143 (bM 2 (C.start _) j j (λO w R=>?_));have R:C _ [] [bi O m] w:=R;have hm:=hm.st R;have a:C o p [bi O m,bd g av s c,ai,aA,bn,cu,ca,bZ,bV,cb,b8,b7] w:=a.aM R;refine aq 7 j (bS 7 (.bool false) j (aH Value.bool (j)) ?_);refine al 3 j (aw (C.ak a) j) (aq 2 j (cQ 13 j (λL=>?_) (λL=>?_)))
 .refine ao 9 j j ?_;have f:s.take g m.P=(s,[]):=a6 (by rw [show s.dec=true from L];rfl);rw [f];exact⟨[],_,cz.nil,⟨c,ai,aA,bn,cu,ca,bZ,bV,cb,b8,b7,t,j⟩,(C.gw a.as).empty.f1⟩
 refine bN 1 (U:=m.cs) j j (m.bW hm.tag) (bp (C.ak a)) ?_;have b:=EY (av:=av) (g:=g) (s:=s) (c:=c) (C.ak a) (n.st a i) y hm;refine bo 0 b j (λw d=>?_);have a:=a.aM d;have hm:=hm.st d;refine bm 2 j j (λV=>?_) (λV=>?_)
 .refine ao 3 j j ?_;have aN:s.ml g m.P=false:=by simpa using V
  have f:s.take g m.P=(s,[]):=a6 (by rw [aN];simp);rw [f];exact⟨[],_,cz.nil,⟨c,ai,aA,bn,cu,ca,bZ,bV,cb,b8,b7,t,j⟩,(C.gw a.as).empty.f1⟩
 have K:s.ml g m.P=true:=by simpa using V
 have S:i3 m=true:=by unfold aj.ml at K;simp only [Bool.and_eq_true] at K;exact K.1
 have ap:=m.za S;refine bN 3 (U:=m.cs) j j (m.bW hm.tag) (bp (C.ak a)) ?_;have b:=DM hm ⟨by omega,by omega⟩;refine bh 0 b j (λr w⟨q,X,Y,aP,aO,J,d⟩=>?_);subst aP;have T:=fF.sF aO J hm ⟨by omega,by omega⟩;have ah:q.tag.length=32:=(aH (λz:aW=>z.tag.length) J).trans hm.tag;have a:=a.aM d;refine c4 (a.bc O) j j j (by simpa using q.one) (by rw [List.size_toArray];exact q.bW ah) (by rw [List.size_toArray,m.bW hm.tag];decide) (λw a=>?_);have a:=C.whole (U:=q.cs) a (by rw [hy,m.bW hm.tag,q.bW ah]);have a:C o p [bi O q,bd g av s c,ai,aA,bn,cu,ca,bZ,bV,cb,b8,b7,X++Y] w:=C.perm (A:=[bi O q,bd g av s c,ai,aA,bn,cu,ca,bZ,bV,cb,b8,b7,X,Y]) a.as (by simp);have u:q.P.cR:=by rw [J];exact⟨hm.tag,hm.aE,ap.1,ap.2⟩
 have an:0<=q.v/\q.v<=8:=by
  have e:q.v=m.v:=aH aW.v J;rw [e];unfold i3 at S;simp only [d8] at S;exact dj S.1.1.1.2
 refine al 4 j (aw (C.ak a) q.g1) (bm 5 j j (λx=>?_) (λx=>?_))
 .refine bN 2 (U:=q.cs) j j (q.bW u.tag) (bp (C.ak a)) ?_;have b:=zW (av:=av) (g:=g) (s:=s) (c:=c) (m:=q) T u B.slot an t.props t.dh (by have:=B.dh;omega) (n.st a i) y (a.eE n i) a.ours;refine bo 0 b j (λw⟨v1,W,Z,az,aJ,d⟩=>?_);have a:=a.b3 d
  obtain⟨l,D,a⟩:∃l,fA g av (s.fm g q.P) l/\C o p [l] w:=by
   have f:s.fm g q.P=s.gh g q.P:=by unfold aj.fm;rw [if_pos (show q.P.k=2 from beq_iff_eq.1 x)]
   rw [f];have a:C o p [bd g av (s.gh g q.P) {c with dh:=v1},ai,aA,bn,W,Z,bZ,bV,cb,b8,b7] w:=by rw [aj.qP];exact a.as
   exact⟨_,⟨{c with dh:=v1},ai,aA,bn,W,Z,bZ,bV,cb,b8,b7,by rw [aj.qP];exact{t with props:=az,dh:=aJ},j⟩,C.gw a⟩
  have b:=lU D (B.fm u) (by omega) (n.st a i) y (a.eE n i) a.ours;refine bh 3 b j (λr w⟨be,E,H,I,d⟩=>?_);have a:=a.b3 d;refine ao 1 j j ?_;have f:s.take g m.P=(s.fm g q.P).steps g:=by rw [J];exact aI (by rw [K,show s.dec=false from L];decide)
  rw [f];exact⟨be,E,H,I,a⟩
 refine bm 4 j j (λF=>?_) (λF=>?_)
 .refine bN 2 (U:=q.cs) j j (q.bW u.tag) (bp (C.ak a)) ?_;have b:=IJ (av:=av) (g:=g) (s:=s) (c:=c) (m:=q) T u t.cU t.ay B.lE B.jY (by omega) (n.st a i) y (a.eE n i) a.ours;refine bo 0 b j (λw⟨ac,ad,aD,aF,d⟩=>?_);have a:=a.b3 d
  obtain⟨l,D,a⟩:∃l,fA g av (s.fm g q.P) l/\C o p [l] w:=by
   have f:s.fm g q.P=s.c8 g q.P:=by unfold aj.fm;rw [if_neg (show¬q.P.k=2 from λh=>by rw [show(q.k==2)=true from beq_iff_eq.2 h] at x;cases x),if_pos (show q.P.k=3 from beq_iff_eq.1 F)]
   rw [f];have a:C o p [bd g av (s.c8 g q.P) c,ai,aA,bn,cu,ca,ac,ad,cb,b8,b7] w:=by rw [aj.A3];exact a.as
   exact⟨_,⟨c,ai,aA,bn,cu,ca,ac,ad,cb,b8,b7,by rw [aj.A3];exact{t with cU:=aD,ay:=aF},j⟩,C.gw a⟩
  have b:=lU D (B.fm u) (by omega) (n.st a i) y (a.eE n i) a.ours;refine bh 3 b j (λr w⟨be,E,H,I,d⟩=>?_);have a:=a.b3 d;refine ao 1 j j ?_;have f:s.take g m.P=(s.fm g q.P).steps g:=by rw [J];exact aI (by rw [K,show s.dec=false from L];decide)
  rw [f];exact⟨be,E,H,I,a⟩
 refine bm 4 j j (λM=>?_) (λM=>?_)
 .refine bN 2 (U:=q.cs) j j (q.bW u.tag) (bp (C.ak a)) ?_;have b:=AD (av:=av) (g:=g) (s:=s) (c:=c) (m:=q) T u B.slot an t.dk (n.st a i) y (a.eE n i) a.ours;refine bo 0 b j (λw⟨ae,aG,d⟩=>?_);have a:=a.b3 d
  obtain⟨l,D,a⟩:∃l,fA g av (s.fm g q.P) l/\C o p [l] w:=by
   have f:s.fm g q.P=s.status g q.P:=by unfold aj.fm;rw [if_neg (show¬q.P.k=2 from λh=>by rw [show(q.k==2)=true from beq_iff_eq.2 h] at x;cases x),if_neg (show¬q.P.k=3 from λh=>by rw [show(q.k==3)=true from beq_iff_eq.2 h] at F;cases F),if_pos (show q.P.k=4 from beq_iff_eq.1 M)]
   rw [f];have a:C o p [bd g av (s.status g q.P) c,ai,aA,bn,cu,ca,bZ,bV,ae,b8,b7] w:=by rw [aj.s6];exact a.as
   exact⟨_,⟨c,ai,aA,bn,cu,ca,bZ,bV,ae,b8,b7,by rw [aj.s6];exact{t with dk:=aG},j⟩,C.gw a⟩
  have b:=lU D (B.fm u) (by omega) (n.st a i) y (a.eE n i) a.ours;refine bh 3 b j (λr w⟨be,E,H,I,d⟩=>?_);have a:=a.b3 d;refine ao 1 j j ?_;have f:s.take g m.P=(s.fm g q.P).steps g:=by rw [J];exact aI (by rw [K,show s.dec=false from L];decide)
  rw [f];exact⟨be,E,H,I,a⟩
 refine bm 4 j j (λQ=>?_) (λQ=>?_);refine bN 2 (U:=q.cs) j j (q.bW u.tag) (bp (C.ak a)) ?_;have b:=DS (av:=av) (g:=g) (s:=s) (c:=c) (m:=q) T u t.value t.dG (n.st a i) y (a.eE n i) a.ours;refine bo 0 b j (λw⟨ar,ax,af,aa,aK,aL,d⟩=>?_);have a:=a.b3 d
 obtain⟨l,D,a⟩:∃l,fA g av (s.fm g q.P) l/\C o p [l] w:=by
  have f:s.fm g q.P=s.decision g q.P:=by unfold aj.fm;rw [if_neg (show¬q.P.k=2 from λh=>by rw [show(q.k==2)=true from beq_iff_eq.2 h] at x;cases x),if_neg (show¬q.P.k=3 from λh=>by rw [show(q.k==3)=true from beq_iff_eq.2 h] at F;cases F),if_neg (show¬q.P.k=4 from λh=>by rw [show(q.k==4)=true from beq_iff_eq.2 h] at M;cases M),if_pos (show q.P.k=5 from beq_iff_eq.1 Q)]
  rw [f];have a:C o p [bd g av (s.decision g q.P) {c with value:=ar,dG:=ax},ai,aA,bn,cu,ca,bZ,bV,cb,af,aa] w:=a.as;exact⟨_,⟨{c with value:=ar,dG:=ax},ai,aA,bn,cu,ca,bZ,bV,cb,af,aa,by rw [aj.DR];exact{t with value:=aK,dG:=aL},j⟩,C.gw a⟩
 have b:=lU D (B.fm u) (by omega) (n.st a i) y (a.eE n i) a.ours;refine bh 3 b j (λr w⟨be,E,H,I,d⟩=>?_);rotate_left
 obtain⟨l,D,a⟩:∃l,fA g av (s.fm g q.P) l/\C o p [l] w:=by
  have f:s.fm g q.P=s:=by unfold aj.fm;rw [if_neg (show¬q.P.k=2 from λh=>by rw [show(q.k==2)=true from beq_iff_eq.2 h] at x;cases x),if_neg (show¬q.P.k=3 from λh=>by rw [show(q.k==3)=true from beq_iff_eq.2 h] at F;cases F),if_neg (show¬q.P.k=4 from λh=>by rw [show(q.k==4)=true from beq_iff_eq.2 h] at M;cases M),if_neg (show¬q.P.k=5 from λh=>by rw [show(q.k==5)=true from beq_iff_eq.2 h] at Q;cases Q)]
  rw [f];exact⟨_,⟨c,ai,aA,bn,cu,ca,bZ,bV,cb,b8,b7,t,j⟩,C.gw a.as⟩
 have b:=lU D (B.fm u) (by omega) (n.st a i) y (a.eE n i) a.ours;refine bh 4 b j (λr w⟨be,E,H,I,d⟩=>?_);rotate_left
 all_goals
  have a:=a.b3 d;refine ao 1 j j ?_;have f:s.take g m.P=(s.fm g q.P).steps g:=by rw [J];exact aI (by rw [K,show s.dec=false from L];decide)
  rw [f];exact⟨be,E,H,I,a⟩
theorem IN{o:World}{av:Nat}{g:am}{s:aj}{G:List Chunk}{A:Option Addr}{x:List UInt8}{bR:Nat}(L:Rd o A (aG x))(O:x.length<=1000000)(K:fA g av s G){N:Nat}(D:s.ok g N)(M:N+10<=1000000)(i:g.at o)(B:g.ok)(e:g.off (au [G]))(a:Own [G] o):Calls prog 181 #[ab av,.slice A x.length bR] o λr w=>∃be ai,cz r (s.hY g x).2 be/\fA g av (s.hY g x).1 ai/\C o (au [G]) [ai,be] w:=by
 obtain⟨c,ai,aA,bn,cu,ca,bZ,bV,cb,b8,b7,y,rfl⟩:=K;obtain⟨d,F⟩:∃d,d=au [bd g av s c++(ai++(aA++(bn++(cu++(ca++(bZ++(bV++(cb++(b8++b7)))))))))]:=⟨_,j⟩;rw [<-F] at e⊢;have a:C o d [bd g av s c++(ai++(aA++(bn++(cu++(ca++(bZ++(bV++(cb++(b8++b7)))))))))] o:=F▸a;have a:=a.oj;refine a2 func181 (aq 9 j (bS 7 (.bool false) j (aH Value.bool (j)) ?_));refine al 3 j (aw (C.ak a) j) (bm 1 j j (λt=>?_) (λt=>?_))
 .refine ao 3 j j ?_;have p:s.hY g x=(s,[]):=a6 t;rw [p];exact⟨[],_,cz.nil,⟨c,ai,aA,bn,cu,ca,bZ,bV,cb,b8,b7,y,j⟩,(C.gw a.as).empty.f1⟩
 refine aq 8 j (cQ 16 j (λz=>?_) (λz=>?_))
 .refine cm 4 j j (λJ=>?_) (λJ=>?_);refine bh 3 (g3 (c:=bR) L (by omega)) j (λr w⟨E,H,k⟩=>?_);have a:=a.aM k;refine dB 2 (a.bc av) j j j H.one (λw a=>?_);have a:C o d (bd g av {s with want:=x} {c with want:=r}::_) w:=a
  obtain⟨b,l,n,I,a⟩:∃b,fA g av (if 0<x.length/\x.length<=200 then{s with want:=x} else s:aj) b/\aj.ok g N (if 0<x.length/\x.length<=200 then{s with want:=x} else s:aj)/\True/\C o d [b] w:=by
   have f:0<x.length/\x.length<=200:=⟨by have:=dj z;omega,by omega⟩;rw [a6 f];have a:C o d [bd g av {s with want:=x} {c with want:=r},ai,aA,E,cu,ca,bZ,bV,cb,b8,b7] w:=a.as;exact⟨_,⟨{c with want:=r},ai,aA,E,cu,ca,bZ,bV,cb,b8,b7,{y with want:=H},j⟩,{D with want:=f.2},aY,C.gw a⟩
  have m:=lU l n (by omega) (i.st a e) B (a.eE i e) a.ours;refine bh 3 m j (λr w⟨be,q,u,v,k⟩=>?_);rotate_left
  obtain⟨b,l,n,I,a⟩:∃b,fA g av (if 0<x.length/\x.length<=200 then{s with want:=x} else s:aj) b/\aj.ok g N (if 0<x.length/\x.length<=200 then{s with want:=x} else s:aj)/\True/\C o d [b] o:=by
   have f:¬(0<x.length/\x.length<=200):=λh=>by omega
   rw [aI f];exact⟨_,⟨c,ai,aA,bn,cu,ca,bZ,bV,cb,b8,b7,y,j⟩,D,aY,C.gw a.as⟩
  have m:=lU l n (by omega) (i.st a e) B (a.eE i e) a.ours;refine bh 4 m j (λr w⟨be,q,u,v,k⟩=>?_);rotate_left
  all_goals
   have a:=a.b3 k;refine ao 1 j j ?_;have p:s.hY g x=(if 0<x.length/\x.length<=200 then{s with want:=x} else s:aj).steps g:=aI (by rw [t];decide);rw [p];exact⟨be,q,u,v,a⟩
 obtain⟨b,l,n,I,a⟩:∃b,fA g av (if 0<x.length/\x.length<=200 then{s with want:=x} else s:aj) b/\aj.ok g N (if 0<x.length/\x.length<=200 then{s with want:=x} else s:aj)/\True/\C o d [b] o:=by
  have f:¬(0<x.length/\x.length<=200):=λh=>by have:=dN z;omega
  rw [aI f];exact⟨_,⟨c,ai,aA,bn,cu,ca,bZ,bV,cb,b8,b7,y,j⟩,D,aY,C.gw a.as⟩
 have m:=lU l n (by omega) (i.st a e) B (a.eE i e) a.ours;refine bh 9 m j (λr w⟨be,q,u,v,k⟩=>?_);have a:=a.b3 k;refine ao 1 j j ?_;have p:s.hY g x=(if 0<x.length/\x.length<=200 then{s with want:=x} else s:aj).steps g:=aI (by rw [t];decide);rw [p];exact⟨be,q,u,v,a⟩
theorem DQ{o:World}{av:Nat}{g:am}{s:aj}{G:List Chunk}(z:fA g av s G){N:Nat}(i:s.ok g N)(f:Holds o G):Calls prog 190 #[ab av] o λr w=>∃v1 v2 b e,r= .tuple #[v1,v2,.bool s.dec]/\dt v1 s.value b/\er v2 s.dG e/\C o [] [b,e] w:=by
 have a:Own [] o:=C.start o;obtain⟨c,ai,aA,bn,cu,ca,bZ,bV,cb,b8,b7,l,rfl⟩:=z;have h:=f.left.head;have y:Holds o b8:=λx k=>f x (by simp [k])
 have v:Holds o b7:=λx k=>f x (by simp [k])
 obtain⟨J,n,q,_,_,E,_⟩:=l.value.read y;obtain⟨I,m,p,_,_,D,_⟩:=l.dG.read v;refine a2 func190 ?_;have a:=a.drew;refine bw 13 j (λw=>∃ae,C o [] ae w) ⟨_,a⟩ (af 0 3 j (bT 3 j (λw⟨_,a⟩=>aw (a.cg h) (aH some q)) (af 5 3 j (bT 8 j (λw⟨_,a⟩=>aw (a.cg h) (aH some p)) (af 10 3 j (bT 13 j (λw⟨_,a⟩=>aw (a.cg h) j) (aU 4 j (cN j j j (g3 (c:=n) (a.rd E (bX.of_nil _ _)) (by have:=i.value;omega)) (λF w⟨b,t,A⟩=>?_)))))))));have a:=a.aM A;refine ar ⟨⟨_,a⟩,?_⟩;refine aU 9 j (cN j j j (k3 (d:=m) (a.rd D (bX.of_nil _ _)) i.re (by have:=i.dG;omega)) (λH w⟨e,u,B⟩=>?_));have a:=a.aM B;refine ar ⟨⟨_,a⟩,?_⟩;exact af 14 3 j (bK (ao 0 j j ⟨F,H,b,e,j,t,u,a.as⟩))
theorem aj.H2{g:am}{s:aj}{r:aj×List aW}(h:s.step g=some r):r.2.length<=g.n:=by
 unfold aj.step at h;split at h
 .rename_i e;cases h;unfold aj.gT at e;cases br:(dc s.ay).findSome? λp=>s.fE g p.2 with
  |none=>rw [br] at e;cases e
  |some y=>rw [br] at e;cases e;exact b6 _
 .split at h
  .rename_i e;cases h;exact(aj.vW e).2
  .split at h
   .rename_i e;cases h;exact(aj.uD e).2
   .exact(aj.vX h).2
theorem aj.qz{g:am}(a:g.ok):∀(k:Nat)(s:aj)(l:List aW),(aj.go g k s l).2.length<=l.length+10*k
 |0,_,_=>by show _<=_;exact gG _ _
 |k+1,s,l=>by
  unfold aj.go;split
  .exact gG _ _
  .split
   .exact gG _ _
   .rename_i e5 b0 e;have b:=aj.qz a k e5 (l++b0);have c:b0.length<=g.keys.length:=aj.H2 e;have d:=a.n10;rw [b4] at b;omega
theorem aj.s9{g:am}(a:g.ok)(s:aj):(s.steps g).2.length<=50:=aj.qz a 5 s []
theorem aj.AT(g:am)(s:aj):(s.gs g).2.length<=1:=by
 unfold aj.gs;dsimp only;split
 .exact b6 _
 .exact cD _
theorem uV{a b:Int}(c: -1000<=a/\a<=1000)(d: -1000<=b/\b<=1000):evalBin .add .i64 a b=some (.int .i64 (a+b)):=by
 show some (Value.int .i64 (IntKind.i64.wrap (a+b)))=_;rw [jX];exact aH (λz=>some (Value.int .i64 z)) (by omega)
theorem Io{o:World}{av:Nat}{g:am}{s:aj}{G:List Chunk}(aG:fA g av s G){N:Nat}(b:s.ok g N)(aS:N+10<=1000000)(t:g.at o)(z:g.ok)(p:g.off (au [G]))(a:Own [G] o):Calls prog 151 #[ab av] o λr w=>∃be ai,cz r (s.tick g).2 be/\fA g av (s.tick g).1 ai/\C o (au [G]) [ai,be] w:=by
 obtain⟨c,ai,aA,bn,cu,ca,bZ,bV,cb,b8,b7,l,rfl⟩:=aG;obtain⟨d,ag⟩:∃d,d=au [bd g av s c++(ai++(aA++(bn++(cu++(ca++(bZ++(bV++(cb++(b8++b7)))))))))]:=⟨_,j⟩;rw [<-ag] at p⊢;have a:C o d [bd g av s c++(ai++(aA++(bn++(cu++(ca++(bZ++(bV++(cb++(b8++b7)))))))))] o:=ag▸a;have a:=a.oj;obtain⟨f,k,S,_⟩:=l.dD.form;obtain⟨i,dl,R,_⟩:=l.c2.form;refine a2 func151 (aq 9 j (bS 8 (.bool false) j (aH Value.bool (j)) ?_));refine al 3 j (aw (C.ak a) j) (aq 2 j (cQ 14 j (λO=>?_) (λO=>?_)))
 .refine ao 10 j j ?_;have u:s.tick g=(s,[]):=a6 (by rw [show s.dec=true from O];rfl);rw [u];exact⟨[],_,cz.nil,⟨c,ai,aA,bn,cu,ca,bZ,bV,cb,b8,b7,l,j⟩,(C.gw a.as).empty.f1⟩
 refine al 3 j (aw (C.ak a) j) (bm 2 j j (λJ=>?_) (λJ=>?_))
 .refine ao 3 j j ?_;have u:s.tick g=(s,[]):=a6 (by rw [show decide (s.view>=8)=true from J];simp);rw [u];exact⟨[],_,cz.nil,⟨c,ai,aA,bn,cu,ca,bZ,bV,cb,b8,b7,l,j⟩,(C.gw a.as).empty.f1⟩
 have az:s.view<8:=by have:=dN J;omega
 refine al 6 j (aw (C.ak a) j) (bq 0 j j j (uV (by have:=b.view;omega) (by omega)) (dB 2 (a.bc av) j j j j (λw a=>?_)));have a:C o d (bd g av {s with view:=s.view+1} c::_) w:=a;have a:C o d [bd g av {s with view:=s.view+1} c,ai,aA,bn,cu,ca,bZ,bV,cb,b8,b7] w:=a.as;have a:=a.drew;refine bw 1 j (λw=>∃ae,C o d ([bd g av {s with view:=s.view+1} c]++ae) w) ⟨_,a⟩ (af 0 3 j (a8 3 j a1 j (af 4 4 j (a8 8 j a1 (aH some S) (af 9 4 j (a8 13 j a1 (aH some R) (aT 14 j (λw _=>e1 (c:=(⟨4,0,0,0,s.view+1,f,s.dD,k,i,s.c2,dl,cL⟩:aB).cs.toArray) j (λ_=>by kernel_rfl)) (aU 15 j (ex a j j (λM w a=>?_))))))))));have a:C o d ([bd g av {s with view:=s.view+1} c]++_) w:=a.front;refine ar ⟨⟨_,a⟩,?_⟩;refine dy 16 j (c4 (a.bc M) j j j (by simpa using(⟨4,0,0,0,s.view+1,f,s.dD,k,i,s.c2,dl,cL⟩:aB).one) j bJ (λw a=>?_));have a:=C.whole (U:=(⟨4,0,0,0,s.view+1,f,s.dD,k,i,s.c2,dl,cL⟩:aB).cs) a j;have a:C o d [bd g av {s with view:=s.view+1} c,bi M (⟨4,0,0,0,s.view+1,f,s.dD,k,i,s.c2,dl,cL⟩:aB),ai,aA,bn,cu,ca,bZ,bV,cb,b8,b7] w:=a.as;refine ar (cX ?_);have a:=a.drew;refine bw 1 j (λw=>∃ae,C o d ([bd g av {s with view:=s.view+1} c]++ae) w) ⟨_,a⟩ (af 0 3 j (a8 3 j a1 j (af 4 3 j (a8 7 j a1 j (af 8 3 j (a8 11 j a1 j (aU 12 j (bF j j j (my (t.st a p)) (λw hw=>?_)))))))));subst hw;refine ar ⟨⟨_,a⟩,?_⟩;refine aU 13 j ?_;have e:=λo=>yY (o:=o) (s:=s.slot.toNat) (v:=(s.view+1).toNat) (n:=g.keys.length) (by have:=b.slot;omega) (by have:=b.view;omega) z.ib (by have:=z.n10;omega)
 rw [show((s.slot.toNat:Nat):Int)=s.slot from p5 b.slot.1,show(((s.view+1).toNat:Nat):Int)=s.view+1 from p5 (by have:=b.view;omega)] at e;refine bF j j j (e _) (λw aa=>?_);have a:=a.aM aa;have a:C o d [bd g av {s with view:=s.view+1} c,bi M (⟨4,0,0,0,s.view+1,f,s.dD,k,i,s.c2,dl,cL⟩:aB),ai,aA,bn,cu,ca,bZ,bV,cb,b8,b7] w:=a.as;refine ar ⟨⟨_,a⟩,?_⟩;refine af 14 1 j (bK (al 10 j (aw (C.ak a) j) (bm 1 j j (λK=>?_) (λK=>?_))));refine bN 3 (U:=(⟨4,0,0,0,s.view+1,f,s.dD,k,i,s.c2,dl,cL⟩:aB).cs) j j j (bp (C.ak a)) ?_;obtain⟨_,_,F,_,_,X,_⟩:=l.dD.read (a.holds (G:=ai) (by simp));obtain⟨_,_,H,_,_,Y,_⟩:=l.c2.read (a.holds (G:=aA) (by simp));rw [S] at F;rw [R] at H;cases F;cases H;have T:(⟨4,0,0,0,s.view+1,f,s.dD,k,i,s.c2,dl,cL⟩:aB).ok _:=⟨X,Y,b.lb,j⟩;have e:=sZ (av:=av) (s:={s with view:=s.view+1}) (c:=c) (C.ak a) (t.st a p) z T (by show s.dD.length<=10000;have:=b.dD;omega) (by show s.c2.length<=1000;have:=b.c2;omega) (to:=((nr s.slot.toNat (s.view+1).toNat g.keys.length:Nat):Int));refine bh 1 e j (λr w⟨q,D,W,L,I,y⟩=>?_);subst W;have a:=a.aM y;have aN:q.P.cR:=by rw [I];exact aj.nE b.dD b.c2 b.lb
 have aO:q.v=s.view+1:=aH aW.v I;have e:=AD (av:=av) (g:=g) (s:={s with view:=s.view+1}) (c:=c) (m:=q) L aN b.slot (by rw [aO];have:=b.view;omega) l.dk (t.st a p) z (a.eE t p) a.ours;refine bo 0 e j (λw⟨ad,aL,y⟩=>?_);have a:=a.b3 y
 obtain⟨B,Z,x,Q,ap,aP,a⟩:∃B Z x,fA g av (s.gs g).1 B/\cz Z (s.gs g).2 x/\Z= .slice none 0 0/\C o d [B,x] w:=by
  have u:s.gs g=(({s with view:=s.view+1}:aj).status g q.P,[]):=by
   unfold aj.gs;rw [show q.P=({s with view:=s.view+1}:aj).jr g (⟨4,0,0,0,s.view+1,f,s.dD,k,i,s.c2,dl,cL⟩:aB).P ((nr s.slot.toNat (s.view+1).toNat g.keys.length:Nat):Int) from I];exact a6 (dY.1 K)
  rw [u];have a:C o d [bd g av (({s with view:=s.view+1}:aj).status g q.P) c,ai,aA,bn,cu,ca,bZ,bV,ad,b8,b7] w:=by rw [aj.s6];exact a.as
  exact⟨_,_,[],⟨c,ai,aA,bn,cu,ca,bZ,bV,ad,b8,b7,by rw [aj.s6];exact{l with dk:=aL},j⟩,cz.nil,j,(C.gw a).empty.f1⟩
 subst aP;have V:=b.gs az;have e:=lU Q V (by omega) (t.st a p) z (a.eE t p) a.ours;refine bh 4 e j (λr w⟨be,ac,ah,ax,y⟩=>?_);rotate_left
 refine bN 3 (U:=(⟨4,0,0,0,s.view+1,f,s.dD,k,i,s.c2,dl,cL⟩:aB).cs) j j j (bp (C.ak a)) ?_;obtain⟨_,_,F,_,_,X,_⟩:=l.dD.read (a.holds (G:=ai) (by simp));obtain⟨_,_,H,_,_,Y,_⟩:=l.c2.read (a.holds (G:=aA) (by simp));rw [S] at F;rw [R] at H;cases F;cases H;have T:(⟨4,0,0,0,s.view+1,f,s.dD,k,i,s.c2,dl,cL⟩:aB).ok _:=⟨X,Y,b.lb,j⟩;have e:=sZ (av:=av) (s:={s with view:=s.view+1}) (c:=c) (C.ak a) (t.st a p) z T (by show s.dD.length<=10000;have:=b.dD;omega) (by show s.c2.length<=1000;have:=b.c2;omega) (to:=((nr s.slot.toNat (s.view+1).toNat g.keys.length:Nat):Int));refine bh 1 e j (λr w⟨q,D,W,L,I,y⟩=>?_);subst W;have a:=a.aM y;have ay:q.tag.length=32:=(fG.one L).tag q (by simp);refine gC (U:=q.cs) a j j j (q.bW ay) (by decide) (by decide) (λaD w a=>?_);have aJ:Rd w (some ⟨aD,0,none⟩) q.cs:=a.bE;refine d9 (a.empty) (Row.nil 103 39) j j (by decide) j j j (news:=q.cs) (q.bW ay) aJ (List.all_eq_true.1 q.one) (by omega) (by unfold maxLen;omega) (λv1 E w aK a=>?_);have a:C o d [bd g av {s with view:=s.view+1} c,ai,aA,bn,cu,ca,bZ,bV,cb,b8,b7,E++D] w:=C.perm (A:=[bd g av {s with view:=s.view+1} c,ai,aA,bn,cu,ca,bZ,bV,cb,b8,b7,E,D]) a.as (by simp);have aE:cz v1 [q.P] (E++D):=⟨[q],j,E,D,j,by simpa using aK,fG.one L⟩
 obtain⟨B,x,Q,ap,a⟩:∃B x,fA g av (s.gs g).1 B/\cz v1 (s.gs g).2 x/\C o d [B,x] w:=by
  have u:s.gs g=({s with view:=s.view+1},[q.P]):=by
   unfold aj.gs;rw [show q.P=({s with view:=s.view+1}:aj).jr g (⟨4,0,0,0,s.view+1,f,s.dD,k,i,s.c2,dl,cL⟩:aB).P ((nr s.slot.toNat (s.view+1).toNat g.keys.length:Nat):Int) from I];exact aI (λh=>by rw [show((((nr s.slot.toNat (s.view+1).toNat g.keys.length:Nat):Int):Int)==s.an)=true from dY.2 h] at K;cases K)
  rw [u];exact⟨_,E++D,⟨c,ai,aA,bn,cu,ca,bZ,bV,cb,b8,b7,{l with},j⟩,aE,C.gw a⟩
 have V:=b.gs az;have e:=lU Q V (by omega) (t.st a p) z (a.eE t p) a.ours;refine bh 5 e j (λr w⟨be,ac,ah,ax,y⟩=>?_);rotate_left
 all_goals
  have a:=a.b3 y;refine nN (a.front (cI:=[x,be])) ap ah j j (by decide) j j j (by have aQ:=aj.s9 z (s.gs g).1;have aR:=aj.AT g s;omega) (λv3 aC w aF a=>ao 1 j j ?_);have u:s.tick g=(((s.gs g).1.steps g).1,(s.gs g).2++((s.gs g).1.steps g).2):=aI (by rw [show s.dec=false from O,show decide (s.view>=8)=false from J];decide);rw [u];exact⟨aC,ac,aF,ax,a.as⟩
structure aC where
 an:Int
 log:List (List UInt8×List aF)
 cur:Option aj
 cw:List (List UInt8)
 stored:List (Int×aW)
 eZ:Int
def aC.new(an:Int):aC:=⟨an,[],some (aj.new an 0),[],[],0⟩
def aC.there(s:aC)(x:List UInt8):Bool:=(s.cw.any λy=>decide (y=x))||(s.log.any λe=>decide (e.1=x))
def hc(g:am)(c:Option aj)(m:aW):Option aj×List aW:=match c with
 |none=>(none,[])
 |some r=>(some (r.take g m).1,(r.take g m).2)
def fR(g:am)(c:Option aj)(x:List UInt8):Option aj×List aW:=match c with
 |none=>(none,[])
 |some r=>(some (r.hY g x).1,(r.hY g x).2)
def iE(g:am)(c:Option aj):Option aj×List aW:=match c with
 |none=>(none,[])
 |some r=>(some (r.tick g).1,(r.tick g).2)
def aC.slot(s:aC):Int:=(s.log.length:Int)
def aC.wanted(g:am)(s:aC):aC×List aW:=match s.cw with
 |[]=>(s,[])
 |x::_=>({s with cur:=(fR g s.cur x).1},(fR g s.cur x).2)
def aC.one(g:am)(a:aC×List aW)(p:Int×aW):aC×List aW:=
 if p.2.s=a.1.slot then({a.1 with stored:=fK a.1.stored p.1,cur:=(hc g a.1.cur p.2).1},a.2++(hc g a.1.cur p.2).2)
 else if p.2.s<=a.1.slot then({a.1 with stored:=fK a.1.stored p.1},a.2) else a
def aC.c9(g:am)(s:aC):aC×List aW:=(dc s.stored).foldl (aC.one g) (s.wanted g)
def aC.next(s:aC)(r:aj):aC:={s with log:=s.log++[(r.value,r.dG)],cw:=s.cw.filter (λy=> !decide (y=r.value)),cur:=if s.log.length+1<64 then some (aj.new s.an (s.log.length+1:Nat)) else none}
def aC.go(g:am):Nat->aC->List aW->aC×List aW
 |0,s,l=>(s,l)
 |n+1,s,l=>match s.cur with
  |none=>(s,l)
  |some r=>if r.dec then aC.go g n ((s.next r).c9 g).1 (l++((s.next r).c9 g).2) else(s,l)
def aC.h8(g:am)(s:aC)(l:List aW):aC×List aW:=aC.go g 65 s l
def aC.eI(g:am)(s:aC)(x:List UInt8):aC×List aW×Int:=
 if x.length=0\/200<x.length then(s,[],1)
 else if s.there x then(s,[],0)
 else if 16<=s.cw.length\/s.cur.isNone then(s,[],3)
 else if 1<s.cw.length+1 then({s with cw:=s.cw++[x]},[],0)
 else((aC.h8 g {s with cw:=s.cw++[x],cur:=(fR g s.cur x).1} (fR g s.cur x).2).1,(aC.h8 g {s with cw:=s.cw++[x],cur:=(fR g s.cur x).1} (fR g s.cur x).2).2,0)
def aC.told(g:am)(s:aC)(m:aW):List aW:=
 if(m.k≠2/\m.k≠4)\/m.s<0\/m.f=s.an\/g.check m.f m.body m.tag=false then []
 else match s.log[m.s.toNat]? with
  |none=>[]
  |some e=>[⟨5,s.an,m.f,m.s,0,e.1,e.2,g.cr s.an (⟨5,s.an,m.f,m.s,0,e.1,e.2,[]⟩:aW).body⟩]
def aC.take(g:am)(s:aC)(m:aW):aC×List aW:=
 if m.k=1 then((s.eI g m.x).1,(s.eI g m.x).2.1)
 else if m.s<s.slot then(s,s.told g m)
 else if m.s=s.slot then aC.h8 g {s with cur:=(hc g s.cur m).1} (hc g s.cur m).2
 else if m.s-s.slot<=4/\s.stored.length<128 then({s with stored:=b9 s.stored s.eZ m,eZ:=s.eZ+1},[])
 else(s,[])
def aC.tick(g:am)(s:aC):aC×List aW:=aC.h8 g {s with cur:=(iE g s.cur).1} (iE g s.cur).2
structure aC.ok(g:am)(N:Nat)(s:aC):Prop where
 an:0<=s.an/\s.an<g.n
 log:s.log.length<=64
 od:∀e∈s.log,e.1.length<=200/\e.2.length<=10/\∀v∈e.2,v.ok
 cur:∀r,s.cur=some r->r.ok g N/\s.log.length<64
 cw:s.cw.length<=16
 li:∀x∈s.cw,x.length<=200
 stored:s.stored.length<=128
 ll:∀p∈s.stored,p.2.cR
 eZ:0<=s.eZ/\s.eZ<=N
theorem aC.ok.more{g:am}{N M:Nat}{s:aC}(h:s.ok g N)(b:N<=M):s.ok g M:={h with cur:=λr a=>⟨(h.cur r a).1.more b,(h.cur r a).2⟩,eZ:=⟨h.eZ.1,by have:=h.eZ.2;omega⟩}
theorem aj.lf{g:am}{an slot:Int}(hm:0<=an/\an<g.n)(aL:0<=slot/\slot<=63)(N:Nat):(aj.new an slot).ok g N:=
 {an:=hm,slot:=aL,view:=⟨h6 _,by show(0:Int)<=8;omega⟩,dD:=b6 _,c2:=b6 _,lb:=(by intro x a;cases a),want:=b6 _,props:=b6 _,sR:=(by intro x a;cases a),dh:=b6 _,pC:=(by intro x a;cases a),cU:=b6 _,lE:=(by intro x a;cases a),ay:=b6 _,jY:=(by intro x a;cases a),dk:=b6 _,mI:=(by intro x a;cases a),value:=b6 _,dG:=b6 _,re:=(by intro x a;cases a)}
theorem ns{β:Type}:∀{m:List (Int×β)}{k:Int}{p:Int×β},p∈fK m k->p∈m
 |[],_,_,h=>by cases h
 |(J,u)::r,k,p,h=>by
  simp only [fK] at h;split at h
  .exact lw _ h
  .rcases g0.1 h with h|h
   .exact h▸oL
   .exact lw _ (ns h)
theorem vq{β:Type}:∀(m:List (Int×β))(k:Int),(fK m k).length<=m.length
 |[],_=>cD _
 |(J,u)::r,k=>by
  simp only [fK];split
  .simp
  .have:=vq r k;simp only [ez];omega
theorem aC.ok.wanted{g:am}{N M:Nat}{s:aC}(h:s.ok g N)(e:g.ok)(d:∀r,s.cur=some r->r.ok g M):(s.wanted g).1.an=s.an/\(s.wanted g).1.log=s.log/\(s.wanted g).1.cw=s.cw/\(s.wanted g).1.stored=s.stored/\(s.wanted g).1.eZ=s.eZ/\∀r,(s.wanted g).1.cur=some r->r.ok g (M+5)/\s.log.length<64:=by
 unfold aC.wanted;split
 .exact⟨j,j,j,j,j,λr a=>⟨(d r a).more (by omega),(h.cur r a).2⟩⟩
 .refine⟨j,j,j,j,j,λr a=>?_⟩;dsimp only at a;unfold fR at a;cases b:s.cur with
  |none=>rw [b] at a;cases a
  |some c=>
   rw [b] at a;have a:(c.hY g _).1=r:=hz a;rw [<-a];exact⟨(d c b).hY e,(h.cur c b).2⟩
theorem aC.zH(g:am)(a:aC×List aW)(p:Int×aW):((aC.one g a p).1.an=a.1.an/\(aC.one g a p).1.log=a.1.log/\(aC.one g a p).1.cw=a.1.cw/\(aC.one g a p).1.eZ=a.1.eZ)/\(aC.one g a p).1.stored.length<=a.1.stored.length/\(∀q∈(aC.one g a p).1.stored,q∈a.1.stored):=by
 unfold aC.one;split
 .exact⟨⟨j,j,j,j⟩,vq _ _,λq b=>ns b⟩
 .split
  .exact⟨⟨j,j,j,j⟩,vq _ _,λq b=>ns b⟩
  .exact⟨⟨j,j,j,j⟩,cD _,λq b=>b⟩
theorem r8{g:am}{c:Option aj}{m:aW}{M:Nat}(e:g.ok)(hm:m.cR)(h:∀r,c=some r->r.ok g M):∀r,(hc g c m).1=some r->r.ok g (M+6):=by
 intro r a;unfold hc at a;cases b:c with
 |none=>rw [b] at a;cases a
 |some d=>
  rw [b] at a;have a:(d.take g m).1=r:=hz a;rw [<-a];exact(h d b).take e hm
theorem uE{g:am}{c:Option aj}{M:Nat}(e:g.ok)(h:∀r,c=some r->r.ok g M):∀r,(iE g c).1=some r->r.ok g (M+6):=by
 intro r a;unfold iE at a;cases b:c with
 |none=>rw [b] at a;cases a
 |some d=>
  rw [b] at a;have a:(d.tick g).1=r:=hz a;rw [<-a];exact(h d b).tick e
theorem uH{g:am}{c:Option aj}{x:List UInt8}{M:Nat}(e:g.ok)(h:∀r,c=some r->r.ok g M):∀r,(fR g c x).1=some r->r.ok g (M+5):=by
 intro r a;unfold fR at a;cases b:c with
 |none=>rw [b] at a;cases a
 |some d=>
  rw [b] at a;have a:(d.hY g x).1=r:=hz a;rw [<-a];exact(h d b).hY e
theorem r9{g:am}{c:Option aj}{m:aW}:(hc g c m).1.isSome=c.isSome:=by cases c<;>rfl
theorem uF{g:am}{c:Option aj}:(iE g c).1.isSome=c.isSome:=by cases c<;>rfl
theorem sa{g:am}{c:Option aj}{x:List UInt8}:(fR g c x).1.isSome=c.isSome:=by cases c<;>rfl
theorem aC.zG{g:am}{a:aC×List aW}{p:Int×aW}{M:Nat}(c:g.ok)(d:p.2.cR)(h:∀r,a.1.cur=some r->r.ok g M):∀r,(aC.one g a p).1.cur=some r->r.ok g (M+6):=by
 unfold aC.one;split
 .exact r8 c d h
 .split
  .exact λr b=>(h r b).more (by omega)
  .exact λr b=>(h r b).more (by omega)
theorem aC.Gw{g:am}{a:aC×List aW}{p:Int×aW}:(aC.one g a p).1.cur.isSome=a.1.cur.isSome:=by
 unfold aC.one;split
 .exact r9
 .split<;>rfl
theorem aC.qv{g:am}(d:g.ok):∀(l:List (Int×aW))(a:aC×List aW)(M:Nat),(∀p∈l,p.2.cR)->(∀r,a.1.cur=some r->r.ok g M)->
 ((l.foldl (aC.one g) a).1.an=a.1.an/\(l.foldl (aC.one g) a).1.log=a.1.log/\(l.foldl (aC.one g) a).1.cw=a.1.cw/\(l.foldl (aC.one g) a).1.eZ=a.1.eZ)/\(l.foldl (aC.one g) a).1.stored.length<=a.1.stored.length/\(∀q∈(l.foldl (aC.one g) a).1.stored,q∈a.1.stored)/\(∀r,(l.foldl (aC.one g) a).1.cur=some r->r.ok g (M+6*l.length))/\(l.foldl (aC.one g) a).1.cur.isSome=a.1.cur.isSome
 |[],a,M,_,h=>⟨⟨j,j,j,j⟩,cD _,λq b=>b,h,j⟩
 |p::r,a,M,c,h=>by
  obtain⟨⟨e,f,i,k⟩,m,n⟩:=aC.zH g a p;obtain⟨⟨f1,f2,f3,f4⟩,f5,f6,f7,f8⟩:=aC.qv d r (aC.one g a p) (M+6) (λq b=>c q (by simp [b])) (aC.zG d (c p (by simp)) h);rw [hQ];refine⟨⟨f1.trans e,f2.trans f,f3.trans i,f4.trans k⟩,eh f5 m,λq b=>n q (f6 q b),λx o=>(f7 x o).more (by rw [ez];omega),f8.trans aC.Gw⟩
theorem aC.IO{g:am}{s:aC}:(s.wanted g).1.cur.isSome=s.cur.isSome:=by
 unfold aC.wanted;split
 .rfl
 .exact sa
theorem aC.ok.c9{g:am}{N M:Nat}{s:aC}(h:s.ok g N)(f:g.ok)(n:∀r,s.cur=some r->r.ok g M)(t:M+773<=N):(s.c9 g).1.ok g N:=by
 obtain⟨i,b,d,e,j,k⟩:=h.wanted f n;have o:∀p∈dc s.stored,p.2.cR:=λp c=>h.ll p (gO.1 c)
 obtain⟨⟨f1,f2,f3,f4⟩,f5,f6,f7,f8⟩:=aC.qv f (dc s.stored) (s.wanted g) (M+5) o (λr a=>(k r a).1);have hlen:(dc s.stored).length<=128:=by rw [hR];exact h.stored
 unfold aC.c9;refine⟨by rw [f1,i];exact h.an,by rw [f2,b];exact h.log,by rw [f2,b];exact h.od,λr a=>⟨(f7 r a).more (by omega),?_⟩,by rw [f3,d];exact h.cw,by rw [f3,d];exact h.li,Nat.le_trans f5 (by rw [e];exact h.stored),λp c=>h.ll p (by have:=f6 p c;rwa [e] at this),by rw [f4,j];exact h.eZ⟩;rw [f2,b];have l:s.cur.isSome=true:=by rw [<-aC.IO (g:=g),<-f8,a];rfl
 obtain⟨q,m⟩:=gX.1 l;exact(h.cur q m).2
theorem aC.ku{g:am}{N:Nat}{s:aC}{r:aj}(h:s.ok g N)(i:s.cur=some r):(s.next r).ok g N/\∀q,(s.next r).cur=some q->q.ok g 0:=by
 have l:=(h.cur r i).2;have d:=(h.cur r i).1
 have a:∀q,(s.next r).cur=some q->q=aj.new s.an (s.log.length+1:Nat)/\s.log.length+1<64:=λq a=>by
  unfold aC.next at a;dsimp only at a;split at a
  .cases a;exact⟨j,by assumption⟩
  .cases a
 have f:∀q(K:Nat),(s.next r).cur=some q->q.ok g K:=λq K b=>by
  obtain⟨rfl,c⟩:=a q b;exact aj.lf h.an ⟨by omega,by omega⟩ K
 refine⟨⟨h.an,?_,?_,λq b=>⟨f q N b,?_⟩,?_,?_,h.stored,h.ll,h.eZ⟩,λq b=>f q 0 b⟩
 .show(s.log++[(r.value,r.dG)]).length<=64;rw [b4,List.length_singleton];omega
 .intro e he;rcases dw.1 (show e∈s.log++[(r.value,r.dG)] from he) with c|c
  .exact h.od e c
  .rw [fT.1 c];exact⟨d.value,d.dG,d.re⟩
 .show(s.log++[(r.value,r.dG)]).length<64;rw [b4,List.length_singleton];exact(a q b).2
 .exact eh (oP _ _) h.cw
 .exact λx k=>h.li x (jd.1 k).1
theorem aC.yA{g:am}(a:g.ok):∀(k:Nat){N:Nat}{s:aC}{l:List aW},s.ok g N->773<=N->(aC.go g k s l).1.ok g N
 |0,_,_,_,h,_=>h
 |k+1,N,s,l,h,d=>by
  unfold aC.go;split
  .exact h
  .rename_i r e;split
   .obtain⟨b,c⟩:=aC.ku h e;exact aC.yA a k (b.c9 a c (by omega)) d
   .exact h
structure el where
 n:Int
 k:Int
 s:Int
 v:Int
 x:List UInt8
def mN(n h:Nat)(H:List el)(k s v:Int)(x:List UInt8):Prop:=
 ∃l:List Int,l.Nodup/\(∀i∈l,0<=i/\i<(n:Int)/\(i<(h:Int)->(⟨i,k,s,v,x⟩:el)∈H))/\iL n<=l.length
theorem mN.mono{n h:Nat}{H d:List el}{k s v:Int}{x:List UInt8}(e:mN n h H k s v x)(aL:∀c∈H,c∈d):mN n h d k s v x:=by
 obtain⟨l,f,a,g⟩:=e;exact⟨l,f,λi b=>⟨(a i b).1,(a i b).2.1,λj=>aL _ ((a i b).2.2 j)⟩,g⟩
theorem Gh{n h:Nat}{l:List Int}(aJ:l.Nodup)(k:∀i∈l,(h:Int)<=i/\i<(n:Int)):l.length<=n-h:=by
 have c:(l.map λi=>i-(h:Int)).Nodup:=by
  refine tR.2 (aJ.imp fun{a b}f e=>f (by omega))
 have d:=sD (n-h) (l.map λi=>i-(h:Int)) c (λi g=>by
  obtain⟨J,j,rfl⟩:=dO.1 g;have:=k J j;omega)
 simpa using d
def wy(n h:Nat)(c:el)(H:List el):Prop:=
 (∀y,(⟨c.n,c.k,c.s,c.v,y⟩:el)∈H->False)/\
 (c.k=1->∀v y,(⟨c.n,2,c.s,v,y⟩:el)∈H->v<=c.v/\(v<c.v->∃u,v<=u/\u<=c.v/\mN n h H 1 c.s u c.x))/\
 (c.k=2->mN n h H 1 c.s c.v c.x/\∀w y,(⟨c.n,1,c.s,w,y⟩:el)∈H->w<=c.v)
def Valid(n h:Nat):List el->Prop
 |[]=>True
 |c::H=>wy n h c H/\Valid n h H
theorem Valid.xJ{n h:Nat}:∀{H:List el},Valid n h H->∀{i s v:Int}{x:List UInt8},(⟨i,2,s,v,x⟩:el)∈H->mN n h H 1 s v x
 |[],_,_,_,_,_,a=>by cases a
 |c::H,d,i,s,v,x,a=>by
  rcases g0.1 a with a|a
  .subst a;exact(d.1.2.2 j).1.mono λc b=>lw _ b
  .exact(Valid.xJ d.2 a).mono λc b=>lw _ b
abbrev gi(l:List aW):List aF:=l.flatMap aW.l
def kD(h:Nat)(H:List el)(aP:List aF)(v:aF):Prop:=v∈aP/\(0<=v.f->v.f<(h:Int)->(⟨v.f,v.k,v.s,v.v,v.sum⟩:el)∈H)/\0<=v.v/\v.v<=8
theorem kD.mono{h:Nat}{H e:List el}{aP f:List aF}{v:aF}(d:kD h H aP v)(g:∀c∈H,c∈e)(i:∀c∈aP,c∈f):kD h e f v:=⟨i _ d.1,λa b=>g _ (d.2.1 a b),d.2.2⟩
abbrev e8(h:Nat)(H:List el)(aP:List aF)(l:List aF):Prop:=∀v∈l,kD h H aP v
theorem e8.mono{h:Nat}{H a:List el}{aP b:List aF}{l:List aF}(f:e8 h H aP l)(d:∀c∈H,c∈a)(e:∀c∈aP,c∈b):e8 h a b l:=λv g=>(f v g).mono d e
def lp(g:am)(h:Nat)(H:List el)(aP:List aF)(k s v:Int)(x:List UInt8):Prop:=
 ∃l:List aF,(l.map aF.f).Nodup/\iL g.n<=l.length/\∀c∈l,c.k=k/\c.s=s/\c.v=v/\c.sum=x/\_root_.Go.Proofs.YtdomoelfhjdioaaGreatDoor.R.cR g c=true/\kD h H aP c
theorem lp.mono{g:am}{h:Nat}{H a:List el}{aP b:List aF}{k s v:Int}{x:List UInt8}(e:lp g h H aP k s v x)(r:∀c∈H,c∈a)(t:∀c∈aP,c∈b):lp g h a b k s v x:=by
 obtain⟨l,o,p,q⟩:=e;exact⟨l,o,p,λc u=>by obtain⟨d,f,i,j,m,n⟩:=q c u;exact⟨d,f,i,j,m,n.mono r t⟩⟩
theorem lp.fE{g:am}{h:Nat}{H:List el}{aP:List aF}{k s v:Int}{x:List UInt8}(e:lp g h H aP k s v x):mN g.n h H k s v x:=by
 obtain⟨l,r,t,u⟩:=e;refine⟨l.map aF.f,r,λi z=>?_,by rw [fB];exact t⟩;obtain⟨c,w,rfl⟩:=dO.1 z;obtain⟨d,j,m,o,p,q⟩:=u c w;have a:=pd p;refine⟨a.1,a.2,λy=>?_⟩;have b:=q.2.1 a.1 y;rw [d,j,m,o] at b;exact b
theorem wo:∀(c0 acc:List Int),acc.Nodup->(c0.foldl (λacc k=>if k∈acc then acc else acc++[k]) acc).Nodup/\∀k,k∈c0.foldl (λacc k=>if k∈acc then acc else acc++[k]) acc↔k∈acc\/k∈c0
 |[],acc,h=>⟨h,λk=>by simp⟩
 |y::r,acc,h=>by
  rw [hQ];by_cases c:y∈acc
  .rw [a6 c];obtain⟨d,f⟩:=wo r acc h;refine⟨d,λk=>?_⟩;rw [f k,g0];constructor
   .rintro(h|h)
    .exact .inl h
    .exact .inr (.inr h)
   .rintro(h|rfl|h)
    .exact .inl h
    .exact .inl c
    .exact .inr h
  .rw [aI c];obtain⟨d,f⟩:=wo r (acc++[y]) (iR.2 ⟨h,by simp,λa g b i e=>by rw [List.mem_singleton.1 i] at e;subst e;exact c g⟩);refine⟨d,λk=>?_⟩;rw [f k,dw,List.mem_singleton,List.mem_cons];constructor
   .rintro((h|h)|h)
    .exact .inl h
    .exact .inr (.inl h)
    .exact .inr (.inr h)
   .rintro(h|h|h)
    .exact .inl (.inl h)
    .exact .inl (.inr h)
    .exact .inr h
theorem II(xs:List Int):(uniq xs).Nodup/\∀k,k∈uniq xs↔k∈xs:=by
 have h:=wo xs [] List.nodup_nil;exact⟨h.1,λk=>(h.2 k).trans (by simp)⟩
theorem xC{p:aF->Prop}:∀(cO:List Int),(∀n∈cO,∃c:aF,p c/\c.f=n)->∃l:List aF,l.map aF.f=cO/\∀c∈l,p c
 |[],_=>⟨[],j,by simp⟩
 |n::cO,h=>by
  obtain⟨c,g,aJ⟩:=h n (by simp);obtain⟨l,b,e⟩:=xC cO (λm hm=>h m (by simp [hm]));refine⟨c::l,by simp [aJ,b],λd a=>?_⟩;rcases g0.1 a with rfl|a
  .exact g
  .exact e d a
theorem vs{g:am}{h:Nat}{H:List el}{aP:List aF}{l:List aF}{k s v:Int}{x:List UInt8}(hm:meets g l k s v x=true)(t:e8 h H aP l):lp g h H aP k s v x:=by
 have e:iL g.keys.length<=(pG g l k s v x).length:=dj hm;rw [IT] at e;obtain⟨aJ,r⟩:=II (hG g k s v x l (min l.length 10))
 obtain⟨cs,b,i⟩:=xC (p:=λc=>c.k=k/\c.s=s/\c.v=v/\c.sum=x/\_root_.Go.Proofs.YtdomoelfhjdioaaGreatDoor.R.cR g c=true/\kD h H aP c) (uniq (hG g k s v x l (min l.length 10))) (λn u=>by
  have m:n∈((l.take (min l.length 10)).filter (ic g k s v x)).map aF.f:=(r n).1 u;obtain⟨c,q,rfl⟩:=dO.1 m;have d:=jd.1 q;have a:=d.2;unfold ic at a;simp only [d8,dY] at a;exact⟨c,⟨a.1,a.2.1,a.2.2.1,a.2.2.2.1,a.2.2.2.2,t c (m2 d.1)⟩,j⟩)
 refine⟨cs,by rw [b];exact aJ,?_,i⟩;have o:cs.length=(uniq (hG g k s v x l (min l.length 10))).length:=by rw [<-b,fB]
 rw [o];exact e
theorem x6{g:am}{h N:Nat}{H:List el}{aP:List aF}{s:aj}{b:List aF}{y:List UInt8×List aF}{k v:Int}(i:fO g N b)(he:s.fE g b=some y)(l:∀c∈b,kD h H aP c/\c.k=k/\c.s=s.slot/\c.v=v):
 lp g h H aP k s.slot v (bO y.1)/\e8 h H aP y.2:=by
 obtain⟨x,u,e⟩:=p4 he;split at e
 .rename_i t;cases e
  have j:∀c∈jZ (fa b (bO x)),c∈b/\c.sum=bO x:=λc d=>by
   have a:=jd.1 (ux.1 d);exact⟨a.1,dY.1 a.2⟩
  refine⟨⟨jZ (fa b (bO x)),?_,t,λc d=>?_⟩,λc d=>(l c (j c d).1).1⟩
  .have r:((jZ (fa b (bO x))).map aF.f).Perm ((fa b (bO x)).map aF.f):=(oO _ _).map _;exact r.nodup_iff.2 (vO i _)
  .obtain⟨a,q⟩:=j c d;obtain⟨m,n,o,p⟩:=l c a;exact⟨n,o,p,q,i.cR c a,m⟩
 .cases e
structure eK(g:am)(h:Nat)(H:List el)(aP:List aF)(s:aj):Prop where
 c2:e8 h H aP s.c2
 props:∀p∈s.props,e8 h H aP p.2.l
 cU:∀p∈s.cU,∀v∈p.2,kD h H aP v/\v.k=1/\v.s=s.slot/\v.v=p.1
 ay:∀p∈s.ay,∀v∈p.2,kD h H aP v/\v.k=2/\v.s=s.slot/\v.v=p.1
 dk:∀p∈s.dk,∀q∈p.2,e8 h H aP q.2.l
 dG:e8 h H aP s.dG
 cq:s.hU<=s.view
 e2:s.comm<=s.view
 fY:s.fY=s.comm
 lock:0<=s.comm->(⟨s.an,2,s.slot,s.comm,bO s.dD⟩:el)∈H
 ji:∀c∈H,c.n=s.an->c.s=s.slot->(c.k=1->c.v<=s.hU)/\(c.k=2->0<=c.v/\c.v<=s.comm)
 dec:s.dec=true->∃v,lp g h H aP 2 s.slot v (bO s.value)
 ok:∃N,s.ok g N
theorem eK.mono{g:am}{h:Nat}{H f:List el}{aP j:List aF}{s:aj}(i:eK g h H aP s)(b:∀c∈H,c∈f)(d:∀c∈aP,c∈j)(aJ:∀c∈f,c.n=s.an->c.s=s.slot->c∈H):eK g h f j s where
 c2:=i.c2.mono b d
 props:=λp a=>(i.props p a).mono b d
 cU:=λp a v e=>⟨(i.cU p a v e).1.mono b d,(i.cU p a v e).2⟩
 ay:=λp a v e=>⟨(i.ay p a v e).1.mono b d,(i.ay p a v e).2⟩
 dk:=λp a q t=>(i.dk p a q t).mono b d
 dG:=i.dG.mono b d
 cq:=i.cq
 e2:=i.e2
 fY:=i.fY
 lock:=λm=>b _ (i.lock m)
 ji:=λc o k l=>i.ji c (aJ c o k l) k l
 dec:=λr=>by obtain⟨v,e⟩:=i.dec r;exact⟨v,e.mono b d⟩
 ok:=i.ok
section
variable {g:am} {h:Nat} {H:List el} {aP:List aF} {s:aj}
theorem eK.gh(i:eK g h H aP s){m:aW}(hm:e8 h H aP m.l)(j:m.cR):eK g h H aP (s.gh g m):=by
 have a:∃N,(s.gh g m).ok g N:=by obtain⟨N,d⟩:=i.ok;exact⟨N+1,d.gh j⟩
 have b:∀p∈b9 s.props m.v m,e8 h H aP p.2.l:=λp b=>(iy b).elim (i.props p) (λe=>by rw [e];exact hm)
 unfold aj.gh at a⊢;split
 .exact i
 .rename_i f;rw [aI f] at a;unfold aj.jL at a⊢;split
  .rename_i c;rw [a6 c] at a;exact{i with props:=b,ok:=a}
  .rename_i c;rw [aI c] at a;exact{i with props:=b,ok:=a}
theorem qH{β:Type}{m:List (Int×List β)}{k:Int}{v:β}(a:v∈(aZ m k).getD []):∃l,(k,l)∈m/\v∈l:=by
 cases aa:aZ m k with
 |none=>rw [aa] at a;cases a
 |some l=>rw [aa] at a;exact⟨l,hF aa,a⟩
theorem wV{l:List aF}{v c:aF}(a:c∈iU l v):c∈l\/c=v:=by
 unfold iU at a;split at a
 .exact .inl a
 .rcases dw.1 a with a|a
  .exact .inl a
  .exact .inr (fT.1 a)
theorem eK.counts(i:eK g h H aP s){v:aF}(n:kD h H aP v)(aa:v.k=1\/v.k=2)(aL:v.s=s.slot)(r:v.ok)(q:_root_.Go.Proofs.YtdomoelfhjdioaaGreatDoor.R.cR g v=true):eK g h H aP (s.counts v):=by
 have e:∃N,(s.counts v).ok g N:=by obtain⟨N,o⟩:=i.ok;exact⟨N+1,o.counts r q⟩
 unfold aj.counts at e⊢;split
 .rename_i d;rw [a6 d] at e;refine{i with cU:=λp b c a=>?_,ok:=e};rcases iy b with b|rfl
  .exact i.cU p b c a
  .rcases wV a with a|rfl
   .unfold aj.iv at a;rw [a6 j] at a;obtain⟨l,f,m⟩:=qH a;exact i.cU _ f c m
   .exact⟨n,d,aL,j⟩
 .rename_i d;rw [aI d] at e;refine{i with ay:=λp b c a=>?_,ok:=e};rcases iy b with b|rfl
  .exact i.ay p b c a
  .rcases wV a with a|rfl
   .unfold aj.iv at a;rw [aI (by decide)] at a;obtain⟨l,f,m⟩:=qH a;exact i.ay _ f c m
   .exact⟨n,aa.resolve_left d,aL,j⟩
theorem eK.c8(i:eK g h H aP s){m:aW}(hm:e8 h H aP m.l)(c:m.cR):eK g h H aP (s.c8 g m):=by
 unfold aj.c8;split
 .exact i
 .rename_i v r b;split
  .rename_i a;unfold aj.hX at a;simp only [d8,m7,dY] at a;exact i.counts (hm v (by rw [b];simp)) a.1 a.2.1 (c.aE v (by rw [b];simp)) a.2.2.2
  .exact i
theorem eK.status(i:eK g h H aP s){m:aW}(hm:e8 h H aP m.l)(k:m.cR):eK g h H aP (s.status g m):=by
 have d:∃N,(s.status g m).ok g N:=by obtain⟨N,f⟩:=i.ok;exact⟨N+1,f.status k⟩
 unfold aj.status at d⊢;split
 .rename_i j;rw [a6 j] at d;refine{i with dk:=λp e q a=>?_,ok:=d};rcases iy e with e|rfl
  .exact i.dk p e q a
  .dsimp only at a;split at a
   .obtain⟨l,b,c⟩:=qH a;exact i.dk _ b q c
   .rcases iy a with a|rfl
    .obtain⟨l,b,c⟩:=qH a;exact i.dk _ b q c
    .exact hm
 .exact i
theorem eK.gf(i:eK g h H aP s){x:List UInt8}{l:List aF}{v:Int}(c:e8 h H aP l)(b:lp g h H aP 2 s.slot v (bO x))(j:x.length<=200)(d:l.length<=10)(f:∀x∈l,x.ok):eK g h H aP (s.gf x l):=by
 have e:∃N,(s.gf x l).ok g N:=by obtain⟨N,a⟩:=i.ok;exact⟨N,a.gf j d f⟩
 exact{i with dG:=c,dec:=λ_=>⟨v,b⟩,ok:=e}
theorem eK.decision(i:eK g h H aP s){m:aW}(hm:e8 h H aP m.l)(a:m.cR):eK g h H aP (s.decision g m):=by
 unfold aj.decision;split
 .exact i
 .split
  .rename_i v r c b;exact i.gf hm (vs b hm) a.x a.l a.aE
  .exact i
theorem eK.fm(i:eK g h H aP s){m:aW}(hm:e8 h H aP m.l)(a:m.cR):eK g h H aP (s.fm g m):=by
 unfold aj.fm
 repeat' split
 .exact i.gh hm a
 .exact i.c8 hm a
 .exact i.status hm a
 .exact i.decision hm a
 .exact i
theorem aj.AQ(g:am)(s:aj)(m:aW):(s.fm g m).an=s.an/\(s.fm g m).slot=s.slot:=by
 unfold aj.fm
 repeat' split
 .unfold aj.gh aj.jL
  repeat' split
  all_goals exact⟨j,j⟩
 .unfold aj.c8
  repeat' split
  .exact⟨j,j⟩
  .unfold aj.counts;split<;>exact⟨j,j⟩
  .exact⟨j,j⟩
 .unfold aj.status;split<;>exact⟨j,j⟩
 .unfold aj.decision
  repeat' split
  all_goals exact⟨j,j⟩
 .exact⟨j,j⟩
end
structure Told(g:am)(h:Nat)(H:List el)(aP:List aF)(s e5:aj)(l:List aW)(A:List el):Prop where
 iH:∀c∈A,c.n=s.an/\c.s=s.slot
 valid:Valid g.n h (A++H)
 inv:eK g h (A++H) (aP++gi l) e5
 kR:∀m∈l,m.cR/\e8 h (A++H) (aP++gi l) m.l
 an:e5.an=s.an
 slot:e5.slot=s.slot
section
variable {g:am} {h:Nat} {H:List el} {aP:List aF} {s e5 mG:aj}
theorem Told.nil(a:Valid g.n h H)(i:eK g h H aP e5)(hm:e5.an=s.an)(aL:e5.slot=s.slot):Told g h H aP s e5 [] []:=
 ⟨(by intro c b;cases b),a,by simpa using i,(by intro m hm;cases hm),hm,aL⟩
theorem Told.trans{l f:List aW}{A B:List el}(a:Told g h H aP s e5 l A)(b:Told g h (A++H) (aP++gi l) e5 mG f B):Told g h H aP s mG (l++f) (B++A):=by
 have e:aP++gi (l++f)=(aP++gi l)++gi f:=by simp
 have i:(B++A)++H=B++(A++H):=dF _ _ _;refine⟨λc d=>?_,by rw [i];exact b.valid,by rw [e,i];exact b.inv,λm hm=>?_,b.an.trans a.an,b.slot.trans a.slot⟩
 .rcases dw.1 d with d|d
  .have:=b.iH c d;rw [a.an,a.slot] at this;exact this
  .exact a.iH c d
 .rw [e,i];rcases dw.1 hm with hm|hm
  .exact⟨(a.kR m hm).1,(a.kR m hm).2.mono (λc d=>dw.2 (.inr d)) (λc d=>List.mem_append.2 (.inl d))⟩
  .exact b.kR m hm
theorem ue{m a:aW}(hm:a∈s.all g m):a.l=m.l:=by
 unfold aj.all at hm;obtain⟨t,_,rfl⟩:=dO.1 hm;rfl
theorem w4{m a:aW}(hm:a∈s.all g m)(d:m.x.length<=200)(b:m.l.length<=10)(c:∀v∈m.l,v.ok):a.cR:=by
 unfold aj.all at hm;obtain⟨t,_,rfl⟩:=dO.1 hm;exact aj.nE d b c
theorem all_some(d:2<=g.n)(m:aW):∃c,c∈s.all g m:=by
 have key:∃t,t∈mB s.an g.n:=by
  unfold mB;by_cases a:s.an=0
  .exact⟨1,jd.2 ⟨dO.2 ⟨1,m6.2 (by omega),j⟩,by rw [a];decide⟩⟩
  .exact⟨0,jd.2 ⟨dO.2 ⟨0,m6.2 (by omega),j⟩,by simp;omega⟩⟩
 obtain⟨t,b⟩:=key;exact⟨s.jr g m t,dO.2 ⟨t,b,j⟩⟩
theorem IK(a:2<=g.n){m:aW}{c:aF}(b:c∈m.l):c∈gi (s.all g m):=by
 obtain⟨d,hm⟩:=all_some (s:=s) a m;exact m0.2 ⟨d,hm,by rw [ue hm];exact b⟩
theorem xA{k:Int}{x:List UInt8}{s1:aj}(aa:k=1\/k=2)(q:2<=g.n)(o:s1.an=s.an)(p:s1.slot=s.slot)(t:Valid g.n h H)(r:wy g.n h ⟨s1.an,k,s1.slot,s1.view,bO x⟩ H)
 (u:∀f,(∀c∈aP,c∈f)->eK g h (⟨s1.an,k,s1.slot,s1.view,bO x⟩::H) f s1):Told g h H aP s (s1.aE g k x).1 (s1.aE g k x).2 [⟨s1.an,k,s1.slot,s1.view,bO x⟩]:=by
 have e:=u (aP++gi (s1.aE g k x).2) (λc d=>dw.2 (.inl d));have w:cS g k s1.slot s1.view (bO x) s1.an∈aP++gi (s1.aE g k x).2:=dw.2 (.inr (IK q (by simp)));have i:kD h (⟨s1.an,k,s1.slot,s1.view,bO x⟩::H) (aP++gi (s1.aE g k x).2) (cS g k s1.slot s1.view (bO x) s1.an):=⟨w,λ_ _=>oL,e.ok.elim λ_ b=>b.view⟩;obtain⟨N,b⟩:=e.ok;refine⟨λc d=>?_,⟨r,t⟩,?_,λm hm=>?_,?_,?_⟩
 .rw [fT.1 d];exact⟨o,p⟩
 .exact e.counts i aa j (iX _ _ _ _ _ _ (e7 _)) (xz _ _ _ _ _ b.an)
 .have y:m.l=[cS g k s1.slot s1.view (bO x) s1.an]:=ue hm;refine⟨w4 hm (b6 _) (by show 1<=10;omega) (λv a=>?_),λv a=>?_⟩
  .rw [fT.1 a];exact iX _ _ _ _ _ _ (e7 _)
  .rw [y] at a;rw [fT.1 a];exact i
 .refine Eq.trans ?_ o;show(s1.counts _).an=s1.an;unfold aj.counts;split<;>rfl
 .refine Eq.trans ?_ p;show(s1.counts _).slot=s1.slot;unfold aj.counts;split<;>rfl
theorem HO(l:g.ok)(m:Valid g.n h H)(i:eK g h H aP s){r:aj×List aW}(d:s.gT g=some r):∃A,Told g h H aP s r.1 r.2 A:=by
 obtain⟨N,a⟩:=i.ok;unfold aj.gT at d;cases br:(dc s.ay).findSome? λp=>s.fE g p.2 with
 |none=>rw [br] at d;cases d
 |some y=>
  rw [br] at d;cases d;obtain⟨p,q,e⟩:=p4 br;have b:p∈s.ay:=gO.1 q;obtain⟨f,o⟩:=x6 (N:=N) (h:=h) (H:=H) (aP:=aP) (k:=2) (v:=p.1) (a.jY p b) e (λc f=>i.ay p b c f);exact⟨[],Told.nil m (i.gf o f (a.fE l (a.jY p b) e).1 (a.fE l (a.jY p b) e).2.1 (a.fE l (a.jY p b) e).2.2) j j⟩
theorem GX(E:2<=g.n)(C:Valid g.n h H)(i:eK g h H aP s){r:aj×List aW}(d:s.gz g=some r):∃A,Told g h H aP s r.1 r.2 A:=by
 obtain⟨N,F⟩:=i.ok;unfold aj.gz at d;split at d
 .cases d
 .rename_i m hm;split at d
  .cases d
  .rename_i a;split at d
   .rename_i w;cases d;have L:=hF hm;have J:=i.e2;have R:=i.fY;refine⟨_,xA (s1:={s with hU:=s.view}) (.inl j) E j j C ⟨λy B=>?_,λ_ v y B=>?_,λaa=>absurd aa (show¬((1:Int)=2) by decide)⟩ (λO e=>?_)⟩
    .have t:s.view<=s.hU:=(i.ji _ B j j).1 j;omega
    .have G:0<=v/\v<=s.comm:=(i.ji _ B j j).2 j;show v<=s.view/\(v<s.view->∃u,v<=u/\u<=s.view/\mN g.n h H 1 s.slot u (bO m.x));refine⟨by omega,λQ=>?_⟩;unfold _root_.Go.Proofs.YtdomoelfhjdioaaGreatDoor.R.may at w;simp only [m7,dY,gd] at w;rcases w with f|f|f
     .exact absurd f (by omega)
     .refine⟨s.comm,G.2,J,?_⟩;have o:=C.xJ (i.lock (by omega));rw [f] at o;exact o
     .split at f
      .rename_i u hu;have P:u>s.fY:=by simpa using f
       unfold j8 at hu;split at hu
       .cases hu
       .rename_i z T S;split at hu
        .rename_i I;cases hu;refine⟨z.v,by omega,by omega,(vs (h:=h) (H:=H) (aP:=aP) I.2.2 ?_).fE⟩;exact i.props _ L
        .cases hu
      .cases f
    .have b:∀c∈H,c∈(⟨s.an,1,s.slot,s.view,bO m.x⟩:el)::H:=λc l=>lw _ l
     exact{c2:=i.c2.mono b e,props:=λp a=>(i.props p a).mono b e,cU:=λp a v k=>⟨(i.cU p a v k).1.mono b e,(i.cU p a v k).2⟩,ay:=λp a v k=>⟨(i.ay p a v k).1.mono b e,(i.ay p a v k).2⟩,dk:=λp a q M=>(i.dk p a q M).mono b e,dG:=i.dG.mono b e,dec:=λK=>by obtain⟨v,k⟩:=i.dec K;exact⟨v,k.mono b e⟩,cq:=h6 _,e2:=i.e2,fY:=i.fY,lock:=λD=>b _ (i.lock D),ji:=λc l t o=>by
            rcases g0.1 l with rfl|l
            ·exact⟨λ_=>h6 _,λaa=>absurd aa (show¬((1:Int)=2) by decide)⟩
            ·exact⟨λaa=>rI ((i.ji c l t o).1 aa) i.cq,(i.ji c l t o).2⟩,ok:=⟨N,{F with}⟩}
   .cases d
theorem DF(G:g.ok)(C:2<=g.n)(D:Valid g.n h H)(i:eK g h H aP s){r:aj×List aW}(o:s.g4 g=some r):∃A,Told g h H aP s r.1 r.2 A:=by
 obtain⟨N,u⟩:=i.ok;unfold aj.g4 at o;split at o
 .cases o
 .rename_i b;split at o
  .cases o
  .rename_i y he;cases o;have x:=u.fE G (u.iv 1 s.view) he
   obtain⟨a,F⟩:=x6 (N:=N) (h:=h) (H:=H) (aP:=aP) (k:=1) (v:=s.view) (u.iv 1 s.view) he (λc a=>by
    unfold aj.iv at a;rw [a6 j] at a;obtain⟨l,m,t⟩:=qH a;exact i.cU _ m c t)
   refine⟨_,xA (s1:={s with comm:=s.view,fY:=s.view,dD:=y.1,c2:=y.2}) (.inr j) C j j D ⟨λz B=>?_,λaa=>absurd aa (show¬((2:Int)=1) by decide),λ_=>⟨a.fE,λw z B=>?_⟩⟩ (λJ e=>?_)⟩
   .have m:0<=s.view/\s.view<=s.comm:=(i.ji _ B j j).2 j;omega
   .exact rI ((i.ji _ B j j).1 j) i.cq
   .have d:∀c∈H,c∈(⟨s.an,2,s.slot,s.view,bO y.1⟩:el)::H:=λc a=>lw _ a
    exact{c2:=F.mono d e,props:=λp b=>(i.props p b).mono d e,cU:=λp b v f=>⟨(i.cU p b v f).1.mono d e,(i.cU p b v f).2⟩,ay:=λp b v f=>⟨(i.ay p b v f).1.mono d e,(i.ay p b v f).2⟩,dk:=λp b q I=>(i.dk p b q I).mono d e,dG:=i.dG.mono d e,dec:=λE=>by obtain⟨v,f⟩:=i.dec E;exact⟨v,f.mono d e⟩,cq:=i.cq,e2:=h6 _,fY:=rfl,lock:=λ_=>oL,ji:=λc a m t=>by
           rcases g0.1 a with rfl|a
           ·exact⟨λaa=>absurd aa (show¬((2:Int)=1) by decide),λ_=>⟨u.view.1,h6 _⟩⟩
           ·exact⟨(i.ji c a m t).1,λaa=>⟨((i.ji c a m t).2 aa).1,rI ((i.ji c a m t).2 aa).2 i.e2⟩⟩,ok:=⟨N,{u with dD:=x.1,c2:=x.2.1,lb:=x.2.2}⟩}
theorem EI{slot view:Int}{l:List (Int×aW)}(a:∀p∈l,e8 h H aP p.2.l):e8 h H aP (iF g slot view l).2.2:=by
 have c:∀(x:List UInt8)(ls:List aF),e8 h H aP ls->e8 h H aP (kw g slot view x ls).2.2:=λx ls d=>by
  unfold kw;split
  .exact d
  .intro v b;cases b
 have key:∀(l:List (Int×aW))(k:Int×List UInt8×List aF),(∀p∈l,e8 h H aP p.2.l)->e8 h H aP k.2.2->e8 h H aP (l.foldl (λk p=>k6 g slot view k.2.1 k.2.2 p.2.x p.2.l) k).2.2:=by
  intro l;induction l with
  |nil=>intro k _ aa;exact aa
  |cons p r f=>
   intro k a aa;refine f _ (λq e=>a q (by simp [e])) ?_;unfold k6;dsimp only;split
   .exact c _ _ (a p (by simp))
   .exact c _ _ aa
 exact key l _ a (by intro v b;cases b)
theorem Dr(i:eK g h H aP s){y:List UInt8×List aF}(a:s.gP g=some y):e8 h H aP y.2:=by
 unfold aj.gP at a
 have hw:∀y:List UInt8×List aF,(if 0<s.want.length then some (s.want,([]:List aF)) else none)=some y->e8 h H aP y.2:=λy b=>by
  split at b
  .cases b;intro v e;cases e
  .cases b
 split at a
 .split at a
  .cases a
  .rename_i l c;split at a
   .split at a
    .cases a;exact EI (λp d=>i.dk _ (hF c) p (gO.1 d))
    .exact hw y a
   .cases a
 .exact hw y a
theorem GZ(t:Valid g.n h H)(i:eK g h H aP s){r:aj×List aW}(f:s.gS g=some r):∃A,Told g h H aP s r.1 r.2 A:=by
 obtain⟨N,k⟩:=i.ok;unfold aj.gS at f;split at f
 .cases f
 .split at f
  .cases f
  .rename_i y o;cases f;have l:=Dr i o;have aL:=k.gP o;have b:∀c∈aP,c∈aP++gi (s.all g ⟨2,0,0,0,s.view,y.1,y.2,cL⟩):=λc j=>dw.2 (.inl j)
   have a:∀c∈H,c∈H:=λc j=>j
   have x:eK g h H (aP++gi (s.all g ⟨2,0,0,0,s.view,y.1,y.2,cL⟩)) ({s with prop:=s.view}:aj):={c2:=i.c2.mono a b,props:=λp d=>(i.props p d).mono a b,cU:=λp d v e=>⟨(i.cU p d v e).1.mono a b,(i.cU p d v e).2⟩,ay:=λp d v e=>⟨(i.ay p d v e).1.mono a b,(i.ay p d v e).2⟩,dk:=λp d q w=>(i.dk p d q w).mono a b,dG:=i.dG.mono a b,dec:=λu=>by obtain⟨v,e⟩:=i.dec u;exact⟨v,e.mono a b⟩,cq:=i.cq,e2:=i.e2,fY:=i.fY,lock:=i.lock,ji:=i.ji,ok:=⟨N,{k with}⟩};have z:=x.gh (m:=s.jr g ⟨2,0,0,0,s.view,y.1,y.2,cL⟩ s.an) (l.mono a b) (aj.nE aL.1 aL.2.1 aL.2.2);refine⟨[],(by intro c j;cases j),t,z,λm hm=>⟨w4 hm aL.1 aL.2.1 aL.2.2,?_⟩,?_,?_⟩
   .rw [ue hm];exact l.mono a b
   .dsimp only;unfold aj.gh aj.jL;repeat' split
    all_goals rfl
   .dsimp only;unfold aj.gh aj.jL;repeat' split
    all_goals rfl
theorem H3(d:g.ok)(c:2<=g.n)(b:Valid g.n h H)(i:eK g h H aP s){r:aj×List aW}(a:s.step g=some r):∃A,Told g h H aP s r.1 r.2 A:=by
 unfold aj.step at a;split at a
 .rename_i e;cases a;exact HO d b i e
 .split at a
  .rename_i e;cases a;exact GX c b i e
  .split at a
   .rename_i e;cases a;exact DF d c b i e
   .exact GZ b i a
theorem aj.nn(g:am):∀(k:Nat)(s:aj)(l:List aW),aj.go g k s l=((aj.go g k s []).1,l++(aj.go g k s []).2)
 |0,s,l=>by simp [aj.go]
 |k+1,s,l=>by
  rw [aj.go,aj.go];split
  .simp
  .split
   .simp
   .rename_i e5 b0 e;rw [aj.nn g k e5 (l++b0),aj.nn g k e5 ([]++b0)];simp
theorem yB(d:g.ok)(c:2<=g.n):∀(k:Nat){H:List el}{aP:List aF}{s:aj},Valid g.n h H->eK g h H aP s->∃A,Told g h H aP s (aj.go g k s []).1 (aj.go g k s []).2 A
 |0,H,aP,s,a,i=>⟨[],Told.nil a i j j⟩
 |k+1,H,aP,s,a,i=>by
  rw [aj.go];split
  .exact⟨[],Told.nil a i j j⟩
  .split
   .exact⟨[],Told.nil a i j j⟩
   .rename_i e5 b0 e;obtain⟨A,b⟩:=H3 d c a i e;obtain⟨B,f⟩:=yB d c k b.valid b.inv;rw [aj.nn g k e5 ([]++b0)];exact⟨_,b.trans f⟩
theorem ta(c:g.ok)(a:2<=g.n)(b:Valid g.n h H)(i:eK g h H aP s):∃A,Told g h H aP s (s.steps g).1 (s.steps g).2 A:=yB c a 5 b i
theorem Told.from{l:List aW}{A:List el}(t:Told g h H aP e5 mG l A)(hm:e5.an=s.an)(aL:e5.slot=s.slot):Told g h H aP s mG l A:=
 ⟨λc a=>by have:=t.iH c a;rw [hm,aL] at this;exact this,t.valid,t.inv,t.kR,t.an.trans hm,t.slot.trans aL⟩
theorem Ik(e:g.ok)(b:2<=g.n)(a:Valid g.n h H)(i:eK g h H aP s){m:aW}(hm:e8 h H aP m.l)(d:m.cR):∃A,Told g h H aP s (s.take g m).1 (s.take g m).2 A:=by
 unfold aj.take;split
 .exact⟨[],Told.nil a i j j⟩
 .obtain⟨A,c⟩:=ta e b a (i.fm hm d);exact⟨A,c.from (s.AQ g m).1 (s.AQ g m).2⟩
theorem IS(c:g.ok)(b:2<=g.n)(a:Valid g.n h H)(i:eK g h H aP s)(x:List UInt8):∃A,Told g h H aP s (s.hY g x).1 (s.hY g x).2 A:=by
 unfold aj.hY;split
 .exact⟨[],Told.nil a i j j⟩
 .split
  .rename_i f;obtain⟨N,e⟩:=i.ok;obtain⟨A,d⟩:=ta c b a (s:={s with want:=x}) {i with ok:=⟨N,{e with want:=f.2}⟩};exact⟨A,d.from j j⟩
  .exact ta c b a i
theorem Iu(q:g.ok)(l:2<=g.n)(e:Valid g.n h H)(i:eK g h H aP s):∃A,Told g h H aP s (s.tick g).1 (s.tick g).2 A:=by
 unfold aj.tick;split
 .exact⟨[],Told.nil e i j j⟩
 .rename_i aJ;obtain⟨N,b⟩:=i.ok;have u:s.view<8:=by simp at aJ;omega
  have r:aj.ok g N ({s with view:=s.view+1}:aj):={b with view:=⟨show 0<=s.view+1 by have:=b.view;omega,show s.view+1<=8 by omega⟩};have k:eK g h H aP ({s with view:=s.view+1}:aj):={i with cq:=show s.hU<=s.view+1 by have:=i.cq;omega,e2:=show s.comm<=s.view+1 by have:=i.e2;omega,ok:=⟨N,r⟩};have f:∀t,(({s with view:=s.view+1}:aj).jr g ⟨4,0,0,0,s.view+1,s.dD,s.c2,cL⟩ t).cR:=λt=>aj.nE b.dD b.c2 b.lb
  have p:∃A,Told g h H aP s (s.gs g).1 (s.gs g).2 A:=by
   unfold aj.gs;dsimp only;split
   .refine⟨[],Told.nil e (k.status (m:=({s with view:=s.view+1}:aj).jr g ⟨4,0,0,0,s.view+1,s.dD,s.c2,cL⟩ _) i.c2 (f _)) ?_ ?_⟩<;>(unfold aj.status;split<;>rfl)
   .refine⟨[],(by intro c a;cases a),e,k.mono (λc a=>a) (λc a=>dw.2 (.inl a)) (λc a _ _=>a),λm hm=>?_,j,j⟩;rw [fT.1 hm];exact⟨f _,i.c2.mono (λc a=>a) (λc a=>dw.2 (.inl a))⟩
  obtain⟨A,d⟩:=p;obtain⟨B,o⟩:=ta q l d.valid d.inv;exact⟨_,d.trans o⟩
end
structure hj(g:am)(h:Nat)(H:List el)(aP:List aF)(s:aC):Prop where
 cur:∀r,s.cur=some r->eK g h H aP r/\r.slot=(s.log.length:Int)/\r.an=s.an
 log:∀(i:Nat)(e:List UInt8×List aF),s.log[i]? =some e->(∃v,lp g h H aP 2 i v (bO e.1))/\e8 h H aP e.2/\e.1.length<=200/\e.2.length<=10/\∀v∈e.2,v.ok
 stored:∀p∈s.stored,e8 h H aP p.2.l/\p.2.cR
 iH:∀c∈H,c.n=s.an->c.s<=(s.log.length:Int)
 an:0<=s.an/\s.an<g.n
theorem hj.mono{g:am}{h:Nat}{H f:List el}{aP m:List aF}{s:aC}(i:hj g h H aP s)(b:∀c∈H,c∈f)(d:∀c∈aP,c∈m)(aJ:∀c∈f,c.n=s.an->c∈H):hj g h f m s where
 cur:=λr l=>⟨(i.cur r l).1.mono b d (λc j a _=>aJ c j (a.trans (i.cur r l).2.2)),(i.cur r l).2⟩
 log:=λk e he=>by
  obtain⟨⟨v,u⟩,q,t⟩:=i.log k e he;exact⟨⟨v,u.mono b d⟩,q.mono b d,t⟩
 stored:=λp o=>⟨(i.stored p o).1.mono b d,(i.stored p o).2⟩
 iH:=λc j a=>i.iH c (aJ c j a) a
 an:=i.an
structure eL(g:am)(h:Nat)(H:List el)(aP:List aF)(s e5:aC)(l:List aW)(A:List el):Prop where
 iH:∀c∈A,c.n=s.an
 valid:Valid g.n h (A++H)
 inv:hj g h (A++H) (aP++gi l) e5
 kR:∀m∈l,m.cR/\e8 h (A++H) (aP++gi l) m.l
 an:e5.an=s.an
section
variable {g:am} {h:Nat} {H:List el} {aP:List aF} {s e5 mG:aC}
theorem eL.nil(a:Valid g.n h H)(i:hj g h H aP e5)(hm:e5.an=s.an):eL g h H aP s e5 [] []:=
 ⟨(by intro c b;cases b),a,by simpa using i,(by intro m hm;cases hm),hm⟩
theorem eL.trans{l f:List aW}{A B:List el}(a:eL g h H aP s e5 l A)(b:eL g h (A++H) (aP++gi l) e5 mG f B):eL g h H aP s mG (l++f) (B++A):=by
 have e:aP++gi (l++f)=(aP++gi l)++gi f:=by simp
 have i:(B++A)++H=B++(A++H):=dF _ _ _;refine⟨λc d=>?_,by rw [i];exact b.valid,by rw [e,i];exact b.inv,λm hm=>?_,b.an.trans a.an⟩
 .rcases dw.1 d with d|d
  .have:=b.iH c d;rw [a.an] at this;exact this
  .exact a.iH c d
 .rw [e,i];rcases dw.1 hm with hm|hm
  .exact⟨(a.kR m hm).1,(a.kR m hm).2.mono (λc d=>dw.2 (.inr d)) (λc d=>List.mem_append.2 (.inl d))⟩
  .exact b.kR m hm
theorem eL.from{l:List aW}{A:List el}(t:eL g h H aP e5 mG l A)(hm:e5.an=s.an):eL g h H aP s mG l A:=
 ⟨λc a=>by have:=t.iH c a;rw [hm] at this;exact this,t.valid,t.inv,t.kR,t.an.trans hm⟩
theorem hj.lift(i:hj g h H aP s){r o:aj}{l:List aW}{A:List el}(a:s.cur=some r)(t:Told g h H aP r o l A):eL g h H aP s {s with cur:=some o} l A:=by
 obtain⟨B,m,n⟩:=i.cur r a;have b:∀c∈H,c∈A++H:=λc a=>dw.2 (.inr a)
 have d:∀c∈aP,c∈aP++gi l:=λc a=>dw.2 (.inl a)
 refine⟨λc a=>(t.iH c a).1.trans n,t.valid,?_,t.kR,j⟩;refine⟨λq y=>?_,λk e he=>?_,λp f=>⟨(i.stored p f).1.mono b d,(i.stored p f).2⟩,λc a u=>?_,i.an⟩
 .cases y;exact⟨t.inv,t.slot.trans m,t.an.trans n⟩
 .obtain⟨⟨v,z⟩,w,x⟩:=i.log k e he;exact⟨⟨v,z.mono b d⟩,w.mono b d,x⟩
 .rcases dw.1 a with a|a
  .show c.s<=(s.log.length:Int);rw [(t.iH c a).2,m];exact h6 _
  .exact i.iH c a u
theorem xV(e:g.ok)(c:2<=g.n)(a:Valid g.n h H)(i:hj g h H aP s)(x:List UInt8):∃A,eL g h H aP s {s with cur:=(fR g s.cur x).1} (fR g s.cur x).2 A:=by
 cases b:s.cur with
 |none=>exact⟨[],eL.nil a {i with cur:=λr f=>by cases f} j⟩
 |some r=>
  obtain⟨A,d⟩:=IS e c a (i.cur r b).1 x;exact⟨A,i.lift b d⟩
theorem xS(f:g.ok)(c:2<=g.n)(a:Valid g.n h H)(i:hj g h H aP s){m:aW}(hm:e8 h H aP m.l)(e:m.cR):∃A,eL g h H aP s {s with cur:=(hc g s.cur m).1} (hc g s.cur m).2 A:=by
 cases b:s.cur with
 |none=>exact⟨[],eL.nil a {i with cur:=λr k=>by cases k} j⟩
 |some r=>
  obtain⟨A,d⟩:=Ik f c a (i.cur r b).1 hm e;exact⟨A,i.lift b d⟩
theorem DO(e:g.ok)(c:2<=g.n)(a:Valid g.n h H)(i:hj g h H aP s):∃A,eL g h H aP s {s with cur:=(iE g s.cur).1} (iE g s.cur).2 A:=by
 cases b:s.cur with
 |none=>exact⟨[],eL.nil a {i with cur:=λr f=>by cases f} j⟩
 |some r=>
  obtain⟨A,d⟩:=Iu e c a (i.cur r b).1;exact⟨A,i.lift b d⟩
theorem IP(c:g.ok)(b:2<=g.n)(a:Valid g.n h H)(i:hj g h H aP s):∃A,eL g h H aP s (s.wanted g).1 (s.wanted g).2 A:=by
 unfold aC.wanted;split
 .exact⟨[],eL.nil a i j⟩
 .exact xV c b a i _
theorem Gx(k:g.ok)(f:2<=g.n){a:aC×List aW}{A:List el}(t:eL g h H aP s a.1 a.2 A){p:Int×aW}(d:e8 h H aP p.2.l/\p.2.cR):∃B,eL g h H aP s (aC.one g a p).1 (aC.one g a p).2 B:=by
 have e:hj g h (A++H) (aP++gi a.2) {a.1 with stored:=fK a.1.stored p.1}:={t.inv with stored:=λq m=>t.inv.stored q (ns m)};unfold aC.one;split
 .obtain⟨B,i⟩:=xS k f t.valid e (d.1.mono (λc b=>dw.2 (.inr b)) (λc b=>List.mem_append.2 (.inl b))) d.2;exact⟨_,t.trans (i.from j)⟩
 .split
  .exact⟨A,t.iH,t.valid,e,t.kR,t.an⟩
  .exact⟨A,t⟩
theorem ys(d:g.ok)(b:2<=g.n):∀(l:List (Int×aW)){a:aC×List aW}{A:List el},eL g h H aP s a.1 a.2 A->(∀p∈l,e8 h H aP p.2.l/\p.2.cR)->∃B,eL g h H aP s (l.foldl (aC.one g) a).1 (l.foldl (aC.one g) a).2 B
 |[],_,A,t,_=>⟨A,t⟩
 |p::r,a,A,t,c=>by
  obtain⟨B,e⟩:=Gx d b t (c p (by simp));exact ys d b r e (λq f=>c q (by simp [f]))
theorem C6(b:g.ok)(a:2<=g.n)(d:Valid g.n h H)(i:hj g h H aP s):∃A,eL g h H aP s (s.c9 g).1 (s.c9 g).2 A:=by
 obtain⟨A,c⟩:=IP b a d i;exact ys b a _ c (λp e=>i.stored p (gO.1 e))
theorem eK.new{an slot:Int}(hm:0<=an/\an<g.n)(aL:0<=slot/\slot<=63)(aJ:∀c∈H,c.n=an->c.s=slot->False):eK g h H aP (aj.new an slot) where
 c2:=(by intro v a;cases a)
 props:=(by intro v a;cases a)
 cU:=(by intro v a;cases a)
 ay:=(by intro v a;cases a)
 dk:=(by intro v a;cases a)
 dG:=(by intro v a;cases a)
 cq:=(by show(-1:Int)<=0;decide)
 e2:=(by show(-1:Int)<=0;decide)
 fY:=rfl
 lock:=λb=>absurd b (by show¬(0:Int)<= -1;decide)
 ji:=λc f d e=>(aJ c f d e).elim
 dec:=λi=>by cases i
 ok:=⟨0,aj.lf hm aL 0⟩
theorem Gf(i:hj g h H aP s){r:aj}(a:s.cur=some r)(o:r.dec=true):hj g h H aP (s.next r):=by
 obtain⟨m,u,y⟩:=i.cur r a;obtain⟨v,n⟩:=m.dec o;obtain⟨N,f⟩:=m.ok;refine⟨λq b=>?_,λk e he=>?_,i.stored,λc a d=>?_,i.an⟩
 .have l:(s.next r).log.length=s.log.length+1:=by show(s.log++[(r.value,r.dG)]).length=_;simp
  rw [l];unfold aC.next at b;dsimp only at b;split at b
  .cases b;refine⟨eK.new i.an ⟨by omega,by omega⟩ (λc a d w=>?_),j,j⟩;have:=i.iH c a d;omega
  .cases b
 .have he:(s.log++[(r.value,r.dG)])[k]? =some e:=he;rcases oH k s.log.length with aa|aa
  .rw [iC aa] at he;exact i.log k e he
  .rw [jf aa] at he;obtain⟨p,he⟩:=eY.1 he;have t:k=s.log.length:=by simp at p;omega
   subst t;simp at he;subst he;rw [u] at n;exact⟨⟨v,n⟩,m.dG,f.value,f.dG,f.re⟩
 .have x:=i.iH c a d;have l:(s.next r).log.length=s.log.length+1:=by show(s.log++[(r.value,r.dG)]).length=_;simp
  rw [l];omega
theorem aC.nn(g:am):∀(k:Nat)(s:aC)(l:List aW),aC.go g k s l=((aC.go g k s []).1,l++(aC.go g k s []).2)
 |0,s,l=>by simp [aC.go]
 |k+1,s,l=>by
  rw [aC.go,aC.go];split
  .simp
  .split
   .rename_i r _ _;rw [aC.nn g k ((s.next r).c9 g).1 (l++((s.next r).c9 g).2),aC.nn g k ((s.next r).c9 g).1 ([]++((s.next r).c9 g).2)];simp
   .simp
theorem Ay(d:g.ok)(c:2<=g.n):∀(k:Nat){H:List el}{aP:List aF}{s:aC},Valid g.n h H->hj g h H aP s->∃A,eL g h H aP s (aC.go g k s []).1 (aC.go g k s []).2 A
 |0,H,aP,s,a,i=>⟨[],eL.nil a i j⟩
 |k+1,H,aP,s,a,i=>by
  rw [aC.go];split
  .exact⟨[],eL.nil a i j⟩
  .rename_i r l;split
   .rename_i f;obtain⟨A,b⟩:=C6 d c a (Gf i l f);obtain⟨B,e⟩:=Ay d c k b.valid b.inv;rw [aC.nn g k _ ([]++_)];exact⟨_,(b.trans e).from (s:=s) j⟩
   .exact⟨[],eL.nil a i j⟩
theorem vb(c:g.ok)(a:2<=g.n){l:List aW}{A:List el}(t:eL g h H aP s e5 l A):∃B,eL g h H aP s (aC.h8 g e5 l).1 (aC.h8 g e5 l).2 B:=by
 obtain⟨B,b⟩:=Ay c a 65 t.valid t.inv;unfold aC.h8;rw [aC.nn];exact⟨_,t.trans b⟩
theorem AL(c:g.ok)(b:2<=g.n)(a:Valid g.n h H)(i:hj g h H aP s)(x:List UInt8):∃A,eL g h H aP s (s.eI g x).1 (s.eI g x).2.1 A:=by
 have aJ:∃A,eL g h H aP s s [] A:=⟨[],eL.nil a i j⟩;unfold aC.eI;split
 .exact aJ
 .split
  .exact aJ
  .split
   .exact aJ
   .have d:hj g h H aP {s with cw:=s.cw++[x]}:={i with};split
    .exact⟨[],eL.nil a d j⟩
    .obtain⟨A,e⟩:=xV c b a d x;exact vb c b (e.from j)
theorem IE(b:Valid g.n h H)(i:hj g h H aP s)(m:aW):eL g h H aP s s (s.told g m) []:=by
 have aJ:eL g h H aP s s [] []:=eL.nil b i j;unfold aC.told;split
 .exact aJ
 .split
  .exact aJ
  .rename_i e he;obtain⟨_,d,f,k,l⟩:=i.log _ e he;refine⟨(by intro c a;cases a),b,i.mono (λc a=>a) (λc a=>dw.2 (.inl a)) (λc a _=>a),λq o=>?_,j⟩;rw [fT.1 o];exact⟨⟨am.ec _ _ _,l,f,k⟩,d.mono (λc a=>a) (λc a=>dw.2 (.inl a))⟩
theorem HU(c:g.ok)(b:2<=g.n)(a:Valid g.n h H)(i:hj g h H aP s){m:aW}(hm:e8 h H aP m.l)(e:m.cR):∃A,eL g h H aP s (s.take g m).1 (s.take g m).2 A:=by
 unfold aC.take;split
 .exact AL c b a i m.x
 .split
  .exact⟨[],IE a i m⟩
  .split
   .obtain⟨A,f⟩:=xS c b a i hm e;exact vb c b f
   .split
    .refine⟨[],eL.nil a {i with stored:=λp d=>?_} j⟩;rcases iy d with d|rfl
     .exact i.stored p d
     .exact⟨hm,e⟩
    .exact⟨[],eL.nil a i j⟩
theorem H4(b:g.ok)(a:2<=g.n)(d:Valid g.n h H)(i:hj g h H aP s):∃A,eL g h H aP s (s.tick g).1 (s.tick g).2 A:=by
 unfold aC.tick;obtain⟨A,c⟩:=DO b a d i;exact vb b a c
end
theorem Bw{n:Nat}{Z:Env}{w:World}{P:Program}{dst:Option Nat}{ty:TypeId}{pos:String}{after:Array Edge}{g:Option (Nat×Bool)}{f:FuncId}{aD cs:Array Operand}{xs c0:List Value}(e:fr Z aD.toList=some xs)(h:fr Z cs.toList=some c0):
 ∀a,cF Z n a->(execOp a.eval ⟨dst,.makeFunc (.func f) aD cs,ty,pos,after,g⟩).run P w= .ok (.value (.func (.func f) xs.toArray c0.toArray)) w:=λa b=>by
 have c:aD.map a.eval=xs.toArray:=by apply fC;rw [hn,b.hr e]
 have d:cs.map a.eval=c0.toArray:=by apply fC;rw [hn,b.hr h]
 simp [execOp,c,d,Instr.makeFunc,Act.eval,Result.andThen]
def kb:List (Value×Value)->List (List UInt8×List aF)->List Chunk->Prop
 |[],[],G=>G=[]
 |e::es,x::l,G=>∃ai aA bn,G=ai++(aA++bn)/\dt e.1 x.1 ai/\er e.2 x.2 aA/\kb es l bn
 |[],_::_,_=>False
 |_::_,[],_=>False
abbrev D3(es:List (Value×Value)):List Value:=es.flatMap λe=>[e.1,e.2]
def nK(v:Value)(l:List (List UInt8×List aF))(G:List Chunk):Prop:=∃ag H es,G=ag++H/\Row 315 2 v l.length (D3 es) ag/\kb es l H
theorem kb.len:∀{es:List (Value×Value)}{l:List (List UInt8×List aF)}{G:List Chunk},kb es l G->es.length=l.length
 |[],[],_,_=>rfl
 |[],_::_,_,h=>h.elim
 |_::_,[],_,h=>h.elim
 |_::es,_::l,_,⟨_,_,_,_,_,_,h⟩=>by simp [h.len]
theorem kb.app:∀{es c:List (Value×Value)}{l b0:List (List UInt8×List aF)}{G a:List Chunk},kb es l G->kb c b0 a->kb (es++c) (l++b0) (G++a)
 |[],_,[],_,_,_,h,b=>by have h:_=[]:=h;subst h;exact b
 |[],_,_::_,_,_,_,h,_=>h.elim
 |_::_,_,[],_,_,_,h,_=>h.elim
 |_::_,_,_::_,_,_,a,⟨ai,aA,bn,rfl,d,e,h⟩,b=>⟨ai,aA,bn++a,by simp [dF],d,e,h.app b⟩
theorem kb.one{e:Value×Value}{x:List UInt8×List aF}{ai aA:List Chunk}(a:dt e.1 x.1 ai)(b:er e.2 x.2 aA):kb [e] [x] (ai++aA):=⟨ai,aA,[],by simp,a,b,j⟩
theorem kb.read{w:World}:∀{es:List (Value×Value)}{l:List (List UInt8×List aF)}{G:List Chunk},kb es l G->Holds w G->∀(i:Nat)(b:i<l.length),∃A c B d,es[i]? =some (.slice A l[i].1.length c,.slice B l[i].2.length d)/\l[i].1.length<=c/\c<=maxLen/\Rd w A (aG l[i].1)/\l[i].2.length<=d/\Rd w B (vcs l[i].2)
 |[],[],_,_,_,i,b=>by simp at b
 |[],_::_,_,h,_,_,_=>h.elim
 |_::_,[],_,h,_,_,_=>h.elim
 |(u,v)::es,x::l,_,⟨ai,aA,bn,rfl,hu,k,h⟩,a,0,_=>by
  obtain⟨A,c,f,m,n,o,_⟩:=hu.read a.left;obtain⟨B,d,g,p,_,q,_⟩:=k.read a.right.left;have f:u=_:=f;have g:v=_:=g;subst f;subst g;exact⟨A,c,B,d,j,m,n,o,p,q⟩
 |e::es,x::l,_,⟨ai,aA,bn,rfl,hu,k,h⟩,a,i+1,b=>by
  have:=h.read a.right.right i (by simpa using b);simpa using this
def kB(g:am)(v:Value)(c:Option aj)(G:List Chunk):Prop:=(c=none/\v= .pointer none/\G=[])\/∃r av,c=some r/\v=ab av/\fA g av r G
structure kg where
 log:Value
 cur:Value
 cw:Value
 stored:Value
abbrev px(g:am)(s:aC)(c:kg):List Value:=[g.p,ad s.an,c.log,c.cur,c.cw,c.stored,ad s.eZ]
abbrev cx(g:am)(ba:Nat)(s:aC)(c:kg):List Chunk:=R ba (px g s c).toArray 224
structure B2(g:am)(s:aC)(c:kg)(L bb Q D:List Chunk):Prop where
 log:nK c.log s.log L
 cur:kB g c.cur s.cur bb
 cw:iB c.cw s.cw Q
 stored:jb c.stored s.stored D
def iq(g:am)(ba:Nat)(s:aC)(G:List Chunk):Prop:=∃(c:kg)(L bb Q D:List Chunk),B2 g s c L bb Q D/\G=cx g ba s c++(L++(bb++(Q++D)))
theorem C.qL{g:am}{ba:Nat}{s:aC}{c:kg}{L bb Q D:List Chunk}{ae:List (List Chunk)}{o w:World}{F:List Nat}(h:C o F ((cx g ba s c++(L++(bb++(Q++D))))::ae) w):C o F (cx g ba s c::L::bb::Q::D::ae) w:=h.perm (by simp)
theorem C.iG{g:am}{ba:Nat}{s:aC}{c:kg}{L bb Q D:List Chunk}{ae:List (List Chunk)}{o w:World}{F:List Nat}(h:C o F (cx g ba s c::L::bb::Q::D::ae) w):C o F ((cx g ba s c++(L++(bb++(Q++D))))::ae) w:=h.perm (by simp)
theorem Ga{o:World}{g:am}{an:Int}:Calls prog 59 #[g.p,ad an] o λr w=>∃ba G,r=ab ba/\iq g ba (aC.new an) G/\C o [] [G] w:=by
 have a:Own [] o:=C.start o;refine a2 func59 ?_;refine bh 9 (zt (slot:=0)) j (λr w⟨av,cG,f,i,e⟩=>?_);subst f;have a:=a.aM e;refine bh 0 vF j (λr w⟨b,h,f,k,e⟩=>?_);subst f;have a:=a.aM e;refine cP (c:=(px g (aC.new an) (⟨.slice none 0 0,ab av,.slice none 0 0,ab b⟩:kg)).toArray) j j j (λ_=>by kernel_rfl) ?_;refine bM 0 a j j (λd w a=>?_);refine ao 1 j j ?_;have a:C o [] (cx g d (aC.new an) (⟨.slice none 0 0,ab av,.slice none 0 0,ab b⟩:kg)::_) w:=a;refine⟨d,_,j,⟨(⟨.slice none 0 0,ab av,.slice none 0 0,ab b⟩:kg),[],cG,[],ax 291 b h (.map #[] 0),⟨⟨[],[],[],j,Row.nil _ _,j⟩,.inr ⟨_,av,j,j,i⟩,⟨[],[],[],j,Row.nil _ _,j⟩,fs.new k⟩,j⟩,?_⟩;exact C.perm (A:=[cx g d (aC.new an) (⟨.slice none 0 0,ab av,.slice none 0 0,ab b⟩:kg),cG,ax 291 b h (.map #[] 0)]) a.as (by simp)
theorem EP{o:World}{eA:FuncId}[Entry prog eA]{bf:Array Value}{p:List UInt8->Bool}{T:World->Prop}(N:∀(g:World)(A B:Option Addr)(x:List UInt8)(l:List aF)(bR d:Nat),T g->Rd g A (aG x)->Calls prog eA (#[]++ #[.agg #[.slice A x.length bR,.slice B l.length d]]++bf) g (λr w=>r= .bool (p x)/\C g [] [] w))(L:∀w,C o [] [] w->T w){v:Value}{l:List (List UInt8×List aF)}{G:List Chunk}(M:nK v l G)(s:Holds o G):Calls prog 266 #[v,.func (.func eA) #[] bf] o λr w=>(∃z:Int,r= .int .i64 z/\decide (z>=0)=l.any λe=>p e.1)/\C o [] [] w:=by
 have a:Own [] o:=C.start o;obtain⟨X,W,es,rfl,K,q⟩:=M;obtain⟨E,H,rfl,af,S,P,_⟩:=K.read s.left;have ab:=q.len;have t:∀e∈es,([e.1,e.2]:List Value).length=2:=λ_ _=>rfl
 refine a2 func266 ?_
 refine cH 10 j (ct:=Nat) (λi=>[(0,.slice E l.length H),(1,.func (.func eA) #[] bf),(7,.int .i64 (l.length:Nat)),(8,.int .i64 (i:Nat))])
  (λi w=>i<=l.length/\((l.take i).any λe=>p e.1)=false/\C o [] [] w) (λi=>l.length-i) 0 ⟨j,j,j,j,aY⟩ ⟨b6 _,j,a⟩ ?_
 rintro i w ⟨ac,n,a⟩;refine cm 4 j j (λF=>?_) (λF=>?_)
 .have b:i<l.length:=by omega
  obtain⟨c,ci,h,m,R,ad,ae,Q,_,_⟩:=q.read (s.right.st a) i b;have u:es[i]'(by omega)=(.slice c l[i].1.length ci,.slice h l[i].2.length m):=by have:=R;rw [cf (by omega)] at this;exact hz this
  have D:=a.rd P (bX.of_nil _ _);refine aq 12 j (fz j j j j D (v:=.slice c l[i].1.length ci) (h7 (f:=λe:Value×Value=>[e.1,e.2]) (J:=0) es t i (by omega) (by decide) (by rw [u];rfl)) b (λY I Z=>?_));subst I;have y:=iY (f:=λe:Value×Value=>[e.1,e.2]) D t i (by omega);rw [u] at y;refine bN 0 (U:=[.slice c l[i].1.length ci,.slice h l[i].2.length m]) j j j y (hL j j j j (N _ c h l[i].1 l[i].2 ci m (L _ a) Q) (λr w⟨V,aa⟩=>?_));subst V;have a:=(a.aM aa).bare;refine bm 0 j j (λk=>?_) (λk=>?_)
  .refine ao 4 j j (⟨⟨_,j,?_⟩,a⟩);rw [jC (by omega)];exact(kl.2 ⟨_,et b,k⟩).symm
  refine bq 2 j j j (cM i (by unfold maxLen at S;omega)) (bP 1 j (⟨i+1,⟨j,j,j,j,aY⟩,⟨b,?_,a⟩,by omega⟩));rw [fu b,rJ,n];simp [k]
 refine ao 4 j j ?_;have O:i=l.length:=by omega
 rw [O,gu] at n;exact⟨⟨_,j,by rw [n];rfl⟩,a⟩
theorem DG{o:World}{eA:FuncId}[Entry prog eA]{bf:Array Value}{p:List UInt8->Bool}{T:World->Prop}(g:∀(a:World)(A B:Option Addr)(x:List UInt8)(l:List aF)(bR d:Nat),T a->Rd a A (aG x)->Calls prog eA (#[]++ #[.agg #[.slice A x.length bR,.slice B l.length d]]++bf) a (λr w=>r= .bool (p x)/\C a [] [] w))(c:∀w,C o [] [] w->T w){v:Value}{l:List (List UInt8×List aF)}{G:List Chunk}(f:nK v l G)(b:Holds o G):Calls prog 219 #[v,.func (.func eA) #[] bf] o λr w=>r= .bool (l.any λe=>p e.1)/\C o [] [] w:=by
 refine a2 func219 (bh 7 (EP g c f b) j (λr w⟨⟨z,h,i⟩,aa⟩=>?_));subst h;exact ao 2 j j ⟨aH Value.bool i,aa⟩
theorem AS{o:World}{a:Nat}{A B:Option Addr}{xs c0:List UInt8}{bR d:Nat}(e:o.heap[a]? =some (.cells #[.slice B c0.length d] 28 (0,0)))(b:Rd o A (aG xs))(c:Rd o B (aG c0)):Calls prog 217 (#[]++ #[.slice A xs.length bR]++ #[ab a]) o λr w=>r= .bool (decide (xs=c0))/\w=o:=by
 refine a2 func217 (al 6 j (aw e j) (bo 0 (qr b c) j (λw hw=>?_)));subst hw;exact ao 1 j j ⟨j,j⟩
theorem Il{o:World}{b c:Nat}{A B bb:Option Addr}{xs c0:List UInt8}{l:List aF}{bR d dl:Nat}(g:o.heap[b]? =some (.cells #[.slice B c0.length d] 28 (0,0)))(h:o.heap[c]? =some (.cells #[.func (.func 217) #[] #[ab b]] 302 (0,0)))(e:Rd o A (aG xs))(f:Rd o B (aG c0)):Calls prog 220 (#[]++ #[.agg #[.slice A xs.length bR,.slice bb l.length dl]]++ #[ab c]) o λr w=>r= .bool (decide (xs=c0))/\C o [] [] w:=by
 have a:Own [] o:=C.start o;refine a2 func220 (bM 2 a j j (λaO w a=>al 3 j (aw (a.cg h) j) (al 1 j (aw (C.ak a) j) (hL j j j j (AS (a.cg g) (a.rd e (bX.of_nil _ _)) (a.rd f (bX.of_nil _ _))) (λr w⟨i,hw⟩=>?_)))));subst i;subst hw;exact ao 1 j j ⟨j,a.bare⟩
theorem E1{o:World}{ba:Nat}{g:am}{s:aC}{c:kg}(n:o.heap[ba]? =some (.cells (px g s c).toArray 224 (0,0))){L Q:List Chunk}(z:nK c.log s.log L)(B:iB c.cw s.cw Q)(u:Holds o L)(v:Holds o Q){A:Option Addr}{x:List UInt8}{bR:Nat}(q:Rd o A (aG x)):Calls prog 180 #[ab ba,.slice A x.length bR] o λr w=>r= .bool (s.there x)/\C o [] [] w:=by
 have a:Own [] o:=C.start o;refine a2 func180 (bM 2 a j j (λd w a=>?_));have a:C o [] [R d #[.slice A x.length bR] 28] w:=a;refine aq 3 j (gV j j j j ?_);refine cl 0 a j (λe w a=>dB 0 (a.bc e) j j j j (λw a=>?_));have a:C o [] ([(e,.cells #[.func (.func 217) #[] #[ab d]] 302 (0,0))]::_) w:=a;have a:C o [] [R d #[.slice A x.length bR] 28,[(e,.cells #[.func (.func 217) #[] #[ab d]] 302 (0,0))]] w:=a.as;have a:=a.drew;refine bw 1 j (λw=>∃ae,C o [] ([R d #[.slice A x.length bR] 28,[(e,.cells #[.func (.func 217) #[] #[ab d]] 302 (0,0))]]++ae) w) ⟨_,a⟩ (af 0 3 j (bT 3 j (λw⟨_,a⟩=>aw (a.cg n) j) (a8 4 j a1 j (aU 5 j ?_))));have l:=xK (p:=λy=>decide (y=x)) (bf:= #[ab d]) (eA:=217) (λgU dP t i=>AS (C.ak a) i (a.rd q (bX.of_nil _ _))) B (v.st a);refine bF j j j l (λw hw=>?_);subst hw;refine ar ⟨⟨_,a⟩,?_⟩;refine af 6 1 j (ef 13 j (λm=>?_) (λm=>?_));refine af 7 8 j ?_;rotate_left
 refine af 7 3 j (bT 10 j (λw⟨_,a⟩=>aw (a.cg n) j) (aT 11 j (λw⟨_,a⟩=>Bw j j) (aU 12 j ?_)));have D:=C.ak (b:=d) a;have E:=C.ak (b:=e) a;have l:=DG (p:=λy=>decide (y=x)) (bf:= #[ab e]) (eA:=220) (T:=λf=>f.heap[d]? =some (.cells #[.slice A x.length bR] 28 (0,0))/\f.heap[e]? =some (.cells #[.func (.func 217) #[] #[ab d]] 302 (0,0))/\Rd f A (aG x)) (λf gU F dP b0 t G k i=>Il k.1 k.2.1 i k.2.2) (λf h=>⟨h.cg D,h.cg E,h.rd (a.rd q (bX.of_nil _ _)) (bX.of_nil _ _)⟩) z (u.st a);refine bF j j j l (λw aa=>?_);have a:=a.aM aa;have a:C o [] [R d #[.slice A x.length bR] 28,[(e,.cells #[.func (.func 217) #[] #[ab d]] 302 (0,0))]] w:=a.as;refine ar ⟨⟨_,a⟩,?_⟩;refine af 13 2 j ?_;rotate_left
 all_goals
  refine bK (ao 0 j j (⟨aH Value.bool ?_,a.bare⟩));unfold aC.there;rw [m];rfl
abbrev nJ(p:List UInt8->Bool)(us:List Value)(l:List (List UInt8))(J:Nat):List Value:=(((us.zip l).take J).filter λe=> !p e.2).map Prod.fst
theorem tw{p:List UInt8->Bool}{us:List Value}{l:List (List UInt8)}{J:Nat}(c:us.length=l.length)(b:J<l.length):nJ p us l (J+1)=nJ p us l J++(if p l[J]=true then [] else [us[J]'(by omega)]):=by
 unfold nJ;rw [fu (by rw [oR];omega),mZ,List.map_append,List.getElem_zip];by_cases a:p l[J]=true
 .rw [a6 a];simp [a]
 .rw [aI a];simp [a]
theorem Bh{p:List UInt8->Bool}{us:List Value}{l:List (List UInt8)}:∀{J:Nat},us.length=l.length->J<=l.length->(l.take J).any p=false->nJ p us l J=us.take J
 |0,_,_,_=>by simp [nJ]
 |J+1,a,d,h=>by
  have b:J<l.length:=d;rw [fu b,rJ] at h;simp only [Bool.or_eq_false_iff] at h;have c:p l[J]=false:=by simpa using h.2
  rw [tw a b,Bh a (by omega) h.1,aI (by rw [c];decide),fu (show J<us.length by omega)]
theorem h0.ye{p:List UInt8->Bool}:∀{us:List Value}{l:List (List UInt8)}{H:List Chunk},h0 us l H->∃H1 ag,H.Perm (H1++ag)/\h0 (((us.zip l).filter λe=> !p e.2).map Prod.fst) (l.filter λx=> !p x) H1
 |[],[],_,h=>⟨[],[],by have h:_=[]:=h;subst h;exact .refl _,j⟩
 |[],_::_,_,h=>h.elim
 |_::_,[],_,h=>h.elim
 |u::us,x::l,_,⟨ai,aA,rfl,hu,h⟩=>by
  obtain⟨H1,ag,b,a⟩:=h.ye (p:=p);by_cases c:p x=true
  .refine⟨H1,ai++ag,?_,?_⟩
   .refine(p0 ai b).trans ?_;rw [<-dF,<-dF];exact oZ _ lC
   .simpa [t7,p3,c] using a
  .refine⟨ai++H1,ag,?_,?_⟩
   .rw [dF];exact p0 ai b
   .simp only [t7,p3,c,Bool.not_false,kn,jT];exact⟨ai,H1,j,hu,a⟩
theorem EN{o:World}{eA:FuncId}[Entry prog eA]{bf:Array Value}{p:List UInt8->Bool}{T:World->Prop}(y:∀(c:World)(A:Option Addr)(x:List UInt8)(bR:Nat),T c->Rd c A (aG x)->Calls prog eA (#[]++ #[.slice A x.length bR]++bf) c (λr w=>r= .bool (p x)/\w=c))(s:T o){v:Value}{l:List (List UInt8)}{G:List Chunk}(t:iB v l G)(f:Holds o G):Calls prog 234 #[v,.func (.func eA) #[] bf] o λr w=>(∃z:Int,r= .int .i64 z/\((z= -1/\l.any p=false)\/∃i:Nat,∃h:i<l.length,z=i/\(l.take i).any p=false/\p l[i]=true))/\w=o:=by
 obtain⟨J,I,us,rfl,q,n⟩:=t;obtain⟨g,m,rfl,P,F,C,_⟩:=q.read f.left;refine a2 func234 ?_
 refine cH 10 j (ct:=Nat) (λi=>[(0,.slice g l.length m),(1,.func (.func eA) #[] bf),(7,.int .i64 (l.length:Nat)),(8,.int .i64 (i:Nat))])
  (λi w=>i<=l.length/\(l.take i).any p=false/\w=o) (λi=>l.length-i) 0 ⟨j,j,j,j,aY⟩ ⟨b6 _,j,j⟩ ?_
 rintro i w ⟨M,b,hw⟩;subst hw;refine cm 4 j j (λk=>?_) (λk=>?_)
 .have a:i<l.length:=by omega
  obtain⟨e,ci,E,N,O,D⟩:=n.read f.right i a;refine aq 12 j (fz j j j j C (v:=.slice e l[i].length ci) (by rw [gZ];exact E) a (λK L u=>?_));refine al 0 j u (hL j j j j (y _ e l[i] ci s D) (λr w⟨H,hw⟩=>?_));subst H;subst hw;refine bm 0 j j (λd=>?_) (λd=>?_)
  .exact ao 4 j j ⟨⟨_,j,.inr ⟨i,a,j,b,d⟩⟩,j⟩
  refine bq 2 j j j (cM i (by unfold maxLen at F;omega)) (bP 1 j (⟨i+1,⟨j,j,j,j,aY⟩,⟨a,?_,j⟩,by omega⟩));rw [fu a,rJ,b];simp [d]
 refine ao 4 j j ?_;have B:i=l.length:=by omega
 rw [B,gu] at b;exact⟨⟨_,j,.inl ⟨j,b⟩⟩,j⟩
theorem DW{o:World}{eA:FuncId}[Entry prog eA]{bf:Array Value}{p:List UInt8->Bool}{T:World->Prop}(Y:∀(H:World)(A:Option Addr)(x:List UInt8)(bR:Nat),T H->Rd H A (aG x)->Calls prog eA (#[]++ #[.slice A x.length bR]++bf) H (λr w=>r= .bool (p x)/\w=H)){v:Value}{l:List (List UInt8)}{G:List Chunk}(P:∀w ae,C o (au [G]) ae w->T w)(Q:iB v l G)(a:Own [G] o):Calls prog 191 #[v,.func (.func eA) #[] bf] o λr w=>∃ai,iB r (l.filter λx=> !p x) ai/\C o (au [G]) [ai] w:=by
 obtain⟨q,X⟩:∃q,q=au [G]:=⟨_,j⟩;rw [<-X] at P⊢;have a:C o q [G] o:=X▸a;refine a2 func191 (bh 7 (EN Y (P _ _ a) Q a.vd) j (λr w⟨⟨z,aB,F⟩,hw⟩=>?_));subst aB;have hw:=hw.symm;subst hw;refine bm 6 j j (λt=>?_) (λt=>?_)
 .refine ao 4 j j ?_
  have ak:l.any p=false:=by
   rcases F with h|⟨i,_,rfl,_⟩
   .exact h.2
   .have:=dY.1 t;omega
  have e:(l.filter λx=> !p x)=l:=List.filter_eq_self.2 (λx E=>by
   rcases h:p x with _|_
   ·rfl
   ·have:=kl.2 ⟨x,E,h⟩;rw [ak] at this;cases this)
  rw [e];exact⟨G,Q,a⟩
 obtain⟨U,aa,rfl,aw,ax⟩:=F.resolve_left (λh=>by rw [h.1] at t;cases t);obtain⟨aK,ac,us,rfl,O,W⟩:=Q;obtain⟨E,ah⟩:=O;obtain⟨b,cap,K,rfl,rfl,av,S,am,aD⟩:=ah.resolve_left (λh=>by have:=h.2.1;omega);have O:Row 28 1 (.slice (some ⟨b,0,none⟩) l.length cap) l.length us (R b K 28):=⟨E,.inr ⟨b,cap,K,j,j,av,S,am,aD⟩⟩;have D:us.length=l.length:=by rw [E,gZ]
 have a:=a.split;have S:cap<=9223372036854775807:=by unfold maxLen at S;omega
 refine bq 5 j j j (cM U (by omega)) ?_
 refine cH 2 j (ct:=Nat×Nat×List Value×Array Value) (λk=>[(0,.slice (some ⟨b,0,none⟩) l.length cap),(1,.func (.func eA) #[] bf),(5,.int .i64 (k.1:Nat)),(6,.int .i64 (k.2.1:Nat))])
  (λk w=>k.1<k.2.1/\k.2.1<=l.length/\k.2.2.1.take k.1=nJ p us l k.2.1/\k.2.2.1.drop k.2.1=us.drop k.2.1/\Row 28 1 (.slice (some ⟨b,0,none⟩) l.length cap) l.length k.2.2.1 (R b k.2.2.2 28)/\C o q [R b k.2.2.2 28,ac] w) (λk=>l.length-k.2.1) (U,U+1,us,K) ⟨j,j,j,j,aY⟩ ⟨Nat.lt_succ_self _,aa,?_,j,O,a⟩ ?_
 .dsimp only;rw [tw D aa,a6 ax,gY,Bh D (by omega) aw]
 rintro⟨i,J,s,cur⟩ w ⟨an,ap,y,u,f,a⟩;dsimp only at an ap y u f a⊢;have aQ:s.length=l.length:=by rw [f.1,gZ]
 have aM:cap<=cur.size:=by
  obtain⟨_,h|⟨_,_,_,L,M,_,_,aL,_⟩⟩:=f
  .have:=h.2.1;omega
  .cases L;cases M;omega
 refine cm 7 j j (λad=>?_) (λad=>?_)
 .have n:J<l.length:=by omega
  refine aq 7 j (hM j j j j n ?_);obtain⟨c,d,ab,aO,aP,aC⟩:=W.read (a.holds (by simp)) J n
  have aE:s[J]? =some (.slice c l[J].length d):=by
   have m:=aH (λz:List Value=>z[0]?) u;simp only [lA,oV] at m;rw [m];exact ab
  refine oB j j j j (by
   obtain⟨_,_,e,_,_,h,_⟩:=f.rd a;cases e;have:=h.cell aE;rw [add_lit] at this;simpa using this) ?_
  refine aq 5 j (hL j j j j (Y _ c l[J] d (P _ _ a) aC) (λr w⟨F,hw⟩=>?_));subst F;have hw:=hw.symm;subst hw;refine bm 1 j j (λI=>?_) (λI=>?_)
  .refine aq 5 j (hM j j j j (show i<l.length by omega) ?_);refine cC a j j j j (by omega) (λw a=>?_);have ag:=f.set i (.slice c l[J].length d);have a:=C.gr a (show cur.setIfInBounds (0+i*1) (.slice c l[J].length d)=cur.setIfInBounds i (.slice c l[J].length d) by rw [fg,gZ]);refine bq 2 j j j (cM i (by omega)) (bq 3 j j j (cM J (by omega)) (bP 1 j ?_));have az:p l[J]=false:=by simpa using I
   refine⟨(i+1,J+1,s.set i (.slice c l[J].length d),_),⟨j,j,j,j,aY⟩,⟨by dsimp only;omega,n,?_,?_,ag,a⟩,by dsimp only;omega⟩
   .dsimp only;have aF:us[J]'(by omega)= .slice c l[J].length d:=by have:=ab;rw [cf (by omega)] at this;exact hz this
    rw [tw D n,aI (by rw [az];decide),<-y,aF];rw [fu (by rw [hx];omega),List.getElem_set_self,List.take_set_of_le (by omega)]
   dsimp only;rw [List.drop_set_of_lt (by omega)];have m:=aH (List.drop 1) u;simpa [rF] using m
  refine bq 3 j j j (cM J (by omega)) (bP 1 j ?_);have aA:p l[J]=true:=by simpa using I
  refine⟨(i,J+1,s,cur),⟨j,j,j,j,aY⟩,⟨by dsimp only;omega,n,?_,?_,f,a⟩,by dsimp only;omega⟩
  .dsimp only;rw [tw D n,a6 aA,gY];exact y
  dsimp only;have m:=aH (List.drop 1) u;simpa [rF] using m
 have ar:J=l.length:=by omega
 subst ar;refine aq 5 j (oD j j j j (show i<=l.length by omega) ?_);refine bS 38 (.slice (some ⟨b,0+i*1,none⟩) (l.length-i) (cap-i)) j (by rw [aI (by omega)];simp [add_lit]) (wG (size:=1) a j j (by decide) j j j (by omega) (λg w aN Z a=>aq 4 j (rv j j j j (show i<=cap by omega) ?_)));refine ao 1 j j ?_;have aJ:nJ p us l l.length=((us.zip l).filter λe=> !p e.2).map Prod.fst:=by unfold nJ;rw [List.take_of_length_le (by rw [List.length_zip];omega)]
 obtain⟨H1,V,ay,N⟩:=W.ye (p:=p);rw [<-aJ,<-y] at N;have al:i=(l.filter λx=> !p x).length:=by have:=N.len;rw [hl] at this;omega
 refine⟨R b g 28++H1,⟨R b g 28,H1,s.take i,j,?_,N⟩,?_⟩
 .rw [<-al];refine⟨by rw [hl];omega,.inr ⟨b,cap,g,j,j,by omega,by unfold maxLen;omega,by omega,?_⟩⟩;obtain⟨_,h|⟨_,_,_,L,M,_,_,_,af⟩⟩:=f
  .have:=h.2.1;omega
  cases L;cases M;rw [gZ,<-af];rw [fg,gZ] at Z;rw [Z,List.take_take,mX (by omega)]
 have aj:C o q [R b g 28,H1,V] w:=a.perm (B:=[R b g 28,H1,V]) (by simpa using ay);exact C.perm (A:=[R b g 28,H1]) aj.as (by simp)
theorem IM{o:World}{v:Value}:Calls prog 181 #[.pointer none,v] o λr w=>r= .slice none 0 0/\C o [] [] w:=by
 have a:Own [] o:=C.start o;refine a2 func181 (aq 9 j (bS 7 (.bool true) j (aH Value.bool (j)) ?_));exact ao 9 j j ⟨j,a⟩
theorem In{o:World}:Calls prog 151 #[.pointer none] o λr w=>r= .slice none 0 0/\C o [] [] w:=by
 have a:Own [] o:=C.start o;refine a2 func151 (aq 9 j (bS 8 (.bool true) j (aH Value.bool (j)) ?_));refine aq 6 j (bS 14 (.bool true) j (aH Value.bool (j)) ?_);exact ao 10 j j ⟨j,a⟩
theorem H7{o:World}{m:aB}:Calls prog 143 #[.pointer none,.agg m.cs.toArray] o λr w=>r= .slice none 0 0/\C o [] [] w:=by
 have a:Own [] o:=C.start o;refine a2 func143 (bM 2 a j j (λb w a=>aq 7 j (bS 7 (.bool true) j (aH Value.bool (j)) ?_)));refine aq 6 j (bS 13 (.bool true) j (aH Value.bool (j)) ?_);exact ao 9 j j ⟨j,a.bare⟩
theorem Ba{o:World}{g:am}{v:Value}{c:Option aj}{G:List Chunk}{A:Option Addr}{x:List UInt8}{bR:Nat}(s:Rd o A (aG x))(t:x.length<=1000000)(d:kB g v c G){N:Nat}(n:∀r,c=some r->r.ok g N)(f:N+10<=1000000)(k:g.at o)(l:g.ok)(m:g.off (au [G]))(a:Own [G] o):Calls prog 181 #[v,.slice A x.length bR] o λr w=>∃be ai,cz r (fR g c x).2 be/\kB g v (fR g c x).1 ai/\C o (au [G]) [ai,be] w:=by
 rcases d with⟨rfl,rfl,rfl⟩|⟨r,av,rfl,rfl,h⟩
 .refine Calls.mono IM (λr w⟨p,aa⟩=>⟨[],[],?_,.inl ⟨j,j,j⟩,?_⟩)
  .rw [p];exact cz.nil
  .exact(a.iu (show C o (au [[]]) [[],[]] w from(by
    have b:C o [] [[],[]] w:=aa.empty.empty;exact b)):_)
 .refine Calls.mono (IN s t h (n r j) f k l m a) (λq w⟨be,ai,e,i,aa⟩=>⟨be,ai,e,.inr ⟨_,av,j,j,i⟩,aa⟩)
theorem AN{o:World}{g:am}{v:Value}{c:Option aj}{G:List Chunk}{m:aB}(hm:m.ok o)(d:kB g v c G){N:Nat}(p:∀r,c=some r->r.ok g N)(f:N+10<=1000000)(k:g.at o)(l:g.ok)(n:g.off (au [G]))(a:Own [G] o):Calls prog 143 #[v,.agg m.cs.toArray] o λr w=>∃be ai,cz r (hc g c m.P).2 be/\kB g v (hc g c m.P).1 ai/\C o (au [G]) [ai,be] w:=by
 rcases d with⟨rfl,rfl,rfl⟩|⟨r,av,rfl,rfl,h⟩
 .refine Calls.mono H7 (λr w⟨s,aa⟩=>⟨[],[],?_,.inl ⟨j,j,j⟩,?_⟩)
  .rw [s];exact cz.nil
  .exact(a.iu (show C o (au [[]]) [[],[]] w from(by
    have b:C o [] [[],[]] w:=aa.empty.empty;exact b)):_)
 .refine Calls.mono (Ia hm h (p r j) f k l n a) (λq w⟨be,ai,e,i,aa⟩=>⟨be,ai,e,.inr ⟨_,av,j,j,i⟩,aa⟩)
theorem Im{o:World}{g:am}{v:Value}{c:Option aj}{G:List Chunk}(d:kB g v c G){N:Nat}(n:∀r,c=some r->r.ok g N)(f:N+10<=1000000)(k:g.at o)(l:g.ok)(m:g.off (au [G]))(a:Own [G] o):Calls prog 151 #[v] o λr w=>∃be ai,cz r (iE g c).2 be/\kB g v (iE g c).1 ai/\C o (au [G]) [ai,be] w:=by
 rcases d with⟨rfl,rfl,rfl⟩|⟨r,av,rfl,rfl,h⟩
 .refine Calls.mono In (λr w⟨p,aa⟩=>⟨[],[],?_,.inl ⟨j,j,j⟩,?_⟩)
  .rw [p];exact cz.nil
  .exact(a.iu (show C o (au [[]]) [[],[]] w from(by
    have b:C o [] [[],[]] w:=aa.empty.empty;exact b)):_)
 .refine Calls.mono (Io h (n r j) f k l m a) (λq w⟨be,ai,e,i,aa⟩=>⟨be,ai,e,.inr ⟨_,av,j,j,i⟩,aa⟩)
theorem aj.If{g:am}(a:g.ok)(s:aj)(m:aW):(s.take g m).2.length<=50:=by
 unfold aj.take;split
 .exact b6 _
 .exact aj.s9 a _
theorem aj.IR{g:am}(a:g.ok)(s:aj)(x:List UInt8):(s.hY g x).2.length<=50:=by
 unfold aj.hY;split
 .exact b6 _
 .exact aj.s9 a _
theorem aj.Is{g:am}(a:g.ok)(s:aj):(s.tick g).2.length<=51:=by
 unfold aj.tick;split
 .exact b6 _
 .rw [b4];have b:=aj.AT g s;have c:=aj.s9 a (s.gs g).1;omega
theorem r7{g:am}(a:g.ok)(c:Option aj)(m:aW):(hc g c m).2.length<=50:=by
 cases c with
 |none=>exact b6 _
 |some r=>exact aj.If a r m
theorem uG{g:am}(a:g.ok)(c:Option aj)(x:List UInt8):(fR g c x).2.length<=50:=by
 cases c with
 |none=>exact b6 _
 |some r=>exact aj.IR a r x
theorem xT{g:am}(a:g.ok)(c:Option aj):(iE g c).2.length<=51:=by
 cases c with
 |none=>exact b6 _
 |some r=>exact aj.Is a r
theorem aC.Gv{g:am}(b:g.ok)(a:aC×List aW)(p:Int×aW):(aC.one g a p).2.length<=a.2.length+50:=by
 unfold aC.one;split
 .dsimp only;rw [b4];have:=r7 b a.1.cur p.2;omega
 .split<;>exact gG _ _
theorem aC.u3{g:am}(b:g.ok):∀(l:List (Int×aW))(a:aC×List aW),(l.foldl (aC.one g) a).2.length<=a.2.length+50*l.length
 |[],_=>by simp
 |p::r,a=>by
  rw [hQ];have c:=aC.u3 b r (aC.one g a p);have d:=aC.Gv b a p;rw [ez];omega
theorem aC.Bb{g:am}(a:g.ok)(s:aC):(s.wanted g).2.length<=50:=by
 unfold aC.wanted;split
 .exact b6 _
 .exact uG a _ _
theorem aC.xq{g:am}(a:g.ok){s:aC}(h:s.stored.length<=128):(s.c9 g).2.length<=6450:=by
 unfold aC.c9;have b:=aC.u3 a (dc s.stored) (s.wanted g);have c:=aC.Bb a s;rw [hR] at b;omega
theorem yt{α β:Type}{f:β->α->β}{b:β}{l t1 t2:List α}{p:α}{n:Nat}(a:l=t1++p::t2)(aJ:t1.length=n):(l.take (n+1)).foldl f b=f ((l.take n).foldl f b) p:=by
 subst a;subst aJ;rw [p1,List.take_append,List.take_of_length_le (by omega),List.take_of_length_le (Nat.le_refl _),show t1.length+1-t1.length=1 by omega,Nat.sub_self];simp [nT]
theorem xr{o:World}{g:am}{ba:Nat}{s:aC}{G:List Chunk}(cb:iq g ba s G){N M:Nat}(Z:s.ok g N)(bq:∀r,s.cur=some r->r.ok g M)(cV:M+783<=1000000)(aP:g.at o)(V:g.ok)(aD:g.off (au [G]))(d:Own [G] o):Calls prog 193 #[ab ba] o λr w=>∃be ai,cz r (s.c9 g).2 be/\iq g ba (s.c9 g).1 ai/\C o (au [G]) [ai,be] w:=by
 obtain⟨c,L,bb,Q,D,S,rfl⟩:=cb;obtain⟨u,bk⟩:∃u,u=au [cx g ba s c++(L++(bb++(Q++D)))]:=⟨_,j⟩;rw [<-bk] at aD⊢;have d:C o u [cx g ba s c++(L++(bb++(Q++D)))] o:=bk▸d;have d:=d.qL;obtain⟨n,ah,I,bE,t,aA,bA,aS,b8⟩:=S.stored;subst b8;obtain⟨bg,a9,us,aN,aY,bj⟩:=S.cw;obtain⟨bO,bX,aO,c2,c5⟩:=aY.form;obtain⟨cP,cO,es,cU,cd,cT⟩:=S.log;obtain⟨cH,cS,cj,cZ,c0⟩:=cd.form;obtain⟨cA,bK,cB,cE,cF,bN⟩:=Z.wanted V bq;refine j0 func193 (bM 2 d j j (λay w d=>?_));have d:C o u (R ay #[ab ba] 66::_) w:=d;refine cl 3 d j (λl w d=>?_);have d:C o u (R l #[.slice none 0 0] 59::R ay #[ab ba] 66::_) w:=d;refine al 3 j (aw (C.ak d) j) (al 2 j (aw (C.ak (b:=ba) d) (aH some aO)) (bm 2 j j (λaG=>?_) (λaG=>?_)));have d:C o u [R ay #[ab ba] 66,cx g ba s c,Q,R l #[.slice none 0 0] 59,L,bb,ax 291 n ah I++t] w:=d.as;refine mn 0 j (λw=>∃ae,C o u ([R ay #[ab ba] 66,cx g ba s c,Q]++ae) w) ?_;have d:=d.drew;have ao:0<s.cw.length:=by have:=of_decide_eq_true aG;omega
 have bv:=d.holds (G:=Q) (by simp);obtain⟨bP,bR,a3,_,_,_⟩:=bj.read (show Holds _ a9 by have h:=bv;rw [aN] at h;exact h.right) 0 ao
 obtain⟨aX,a8,bi⟩:∃aX a8,bO=some ⟨aX,a8,none⟩:=by
  obtain⟨gU,cQ,e,_,_,cq,cn⟩:=aY.read (show Holds _ bg by have h:=bv;rw [aN] at h;exact h.left);rw [aO] at e;cases e;rcases cn with rfl|h
  .obtain⟨_,h,_⟩:=cq 0 _ a3;cases h
  .exact h
 refine eM 0 j ⟨_,d⟩ (λw⟨_,d⟩=>hK j j (aw (C.ak d) j)) (fV 2 [1,2] j ⟨_,d⟩ (eM 3 j ⟨_,d⟩ (λw⟨_,d⟩=>hK j j (aw (C.ak d) j)) (eM 4 j ⟨_,d⟩ (λw⟨_,d⟩=>hK j j (aw (C.ak d) j)) ?_)));refine fV 2 [5,6] j ⟨_,d⟩ (eM 7 j ⟨_,d⟩ (λw⟨_,d⟩=>hK j j (aw (C.ak (b:=ba) d) (aH some aO))) (rn 20 (.slice (some ⟨aX,a8,none⟩) s.cw.length bX) j (by rw [bi]) (eM 8 j ⟨_,d⟩ (λw _=>gb (J:=0) j j (by simpa using ao)) (eM 9 j ⟨_,d⟩ (λw⟨_,d⟩=>hK j j (v:=.slice bP s.cw[0].length bR) (by obtain⟨_,_,e,_,_,h,_⟩:=aY.read (show Holds w bg by have h:=d.holds (G:=Q) (by simp);rw [aN] at h;exact h.left);rw [aO] at e;cases e;rw [bi] at h;have az:=h.cell a3;rw [add_lit] at az;simpa using az)) (dZ 10 j ?_)))));obtain⟨_,_,e,_,_,cr⟩:=bj.read (show Holds _ a9 by have h:=d.holds (G:=Q) (by simp);rw [aN] at h;exact h.right) 0 ao;rw [a3] at e;cases e;have Y:=Ba (g:=g) (bR:=bR) cr (by have:=Z.li _ (et ao);omega) S.cur bq (by omega) (aP.st d aD) V (d.eE aP aD) d.ours;refine cN j j j Y (λr w⟨be,i,bs,b6,aB⟩=>?_);have d:=d.b3 aB;have d:C o u [R ay #[ab ba] 66,cx g ba s c,Q,R l #[.slice none 0 0] 59,L,i,ax 291 n ah I++t,be] w:=d.as;refine ar ⟨⟨_,d⟩,?_⟩;refine j5 11 j ?_;obtain⟨_,_,a4,_⟩:=bs.len;refine cC (d.bc l) j j j (by rw [a4];rfl) bJ (λw d=>?_);have d:C o u (R l #[r] 59::_) w:=d;refine ar (cX ?_)
 obtain⟨cG,da,aV⟩:∃x r,s.cw=x::r:=by
  cases aZ:s.cw with
  |nil=>rw [aZ] at ao;simp at ao
  |cons x r=>exact⟨x,r,j⟩
 have a5:s.wanted g=({s with cur:=(fR g s.cur s.cw[0]).1},(fR g s.cur s.cw[0]).2):=by
  unfold aC.wanted;have e:s.cw[0]=cG:=by simp [aV]
  rw [e];rw [aV]
 obtain⟨v,i,be,O,K,d⟩:∃v i be,cz v (s.wanted g).2 be/\kB g c.cur (s.wanted g).1.cur i/\C o u [R ay #[ab ba] 66,R l #[v] 59,cx g ba s c,L,i,Q,ax 291 n ah I,t,be] w:=by
  rw [a5];exact⟨r,i,be,bs,b6,C.perm (A:=[R ay #[ab ba] 66,R l #[r] 59,cx g ba s c,L,i,Q,ax 291 n ah I++t,be]) d.as (by simp)⟩
 refine al 2 j (aw (C.ak d) j) ?_;rotate_left
 have aV:s.cw=[]:=by
  cases aZ:s.cw with
  |nil=>rfl
  |cons x r=>rw [aZ] at aG;simp at aG
 have a5:s.wanted g=(s,[]):=by unfold aC.wanted;rw [aV]
 obtain⟨v,i,be,O,K,d⟩:∃v i be,cz v (s.wanted g).2 be/\kB g c.cur (s.wanted g).1.cur i/\C o u [R ay #[ab ba] 66,R l #[v] 59,cx g ba s c,L,i,Q,ax 291 n ah I,t,be] w:=by
  rw [a5];exact⟨_,bb,[],cz.nil,S.cur,C.perm (A:=[R ay #[ab ba] 66,R l #[.slice none 0 0] 59,cx g ba s c,L,bb,Q,ax 291 n ah I++t]) d.as (by simp)⟩
 refine al 3 j (aw (C.ak d) j) ?_;rotate_left
 all_goals
  refine al 2 j (aw (C.ak (b:=ba) d) (aH some cj)) (cl 1 d j (λB w d=>dB 0 (d.bc B) j j j j (λw d=>?_)));have d:C o u (R B #[ad s.slot] 3::_) w:=d;refine al 3 j (aw (C.ak d) j) ?_;obtain⟨a,aj⟩:∃a:Option Addr,a=some ⟨n,0,none⟩:=⟨_,j⟩;have aA:c.stored= .pointer a:=aA.trans (by rw [aj]);refine al 2 j (aw (C.ak (b:=ba) d) (aH some aA)) ?_;have cg:dE 291 w a bE:=aj▸dE.own (d.to (ax 291 n ah I)) bA;have Y:=w1 (o:=w) (p:=a);refine bh 0 Y j (λr w⟨bF,bG,ac,aa⟩=>?_);subst ac;have cf:=cg.st aa;have d:=d.aM aa;have d:C o u [R bF #[.pointer a] 219,[(bG,.cells #[.func (.func 271) #[] #[]] 38 (0,0))],R ay #[ab ba] 66,R l #[v] 59,R B #[ad s.slot] 3,cx g ba s c,L,i,Q,ax 291 n ah I,t,be] w:=d.as;have d:C o u ([R bF #[.pointer a] 219,[(bG,.cells #[.func (.func 271) #[] #[]] 38 (0,0))]]++[R ay #[ab ba] 66,R l #[v] 59,R B #[ad s.slot] 3,cx g ba s c,L,i,Q,ax 291 n ah I,t,be]) w:=d
  refine j4 1 j (z5 (by have aL:=aS.len;have az:=Z.stored;omega)) j (by have:=d.size;simpa using this) d j (λ_=>rfl) (by intro p S;simp at S;rcases S with rfl|rfl<;>rfl)
   (λpre ae=>∃(v:Value)(z:Obj)(W:List (Int×Value))(i be F X:List Chunk),ae=[R ay #[ab ba] 66,R l #[v] 59,R B #[ad s.slot] 3,cx g ba s c,L,i,Q,ax 291 n ah z,t,be]/\cz v (((dc s.stored).take pre.length).foldl (aC.one g) (s.wanted g)).2 be/\kB g c.cur (((dc s.stored).take pre.length).foldl (aC.one g) (s.wanted g)).1.cur i/\cc bL z W/\t.Perm (X++F)/\c6 kd W (((dc s.stored).take pre.length).foldl (aC.one g) (s.wanted g)).1.stored F) (λ_ _=>False) ⟨v,I,bE,i,be,t,[],j,O,K,bA,.refl _,by rw [gk,List.take_zero,List.foldl_nil,cE];exact aS⟩ (λL aK b9=>cf.st b9) (λ_ _ _ _=>trivial) ?_ ?_ (λ_ _ h=>h.elim) (λ_ _ _ h=>h.elim)
  .rintro y pre ⟨E,cy⟩ cL bV db b5 ⟨v,z,W,i,be,F,X,rfl,O,K,aQ,aF,ag⟩ d;obtain⟨t1,t2,c8,cJ,bU,cK,bx,cu,cp,bl,a7,rfl,bB⟩:=aS.oq b5;have a7:cy= .agg bl.cs.toArray:=a7;subst a7;have a2:bl.tag.length=32:=(fG.one bB).tag bl (by simp);have cY:bl.P.cR:=Z.ll (E,bl.P) (gO.1 (show(E,bl.P)∈dc s.stored by rw [bx];simp));have T:=aC.qv V ((dc s.stored).take pre.length) (s.wanted g) (M+5) (λq a1=>Z.ll q (gO.1 (m2 a1))) (λr ac=>(bN r ac).1);have ck:=aC.u3 V ((dc s.stored).take pre.length) (s.wanted g);have c7:=aC.Bb V s;have c1:((dc s.stored).take pre.length).length<=128:=by rw [hl,hR];have:=Z.stored;omega
   have aR:=yt (f:=aC.one g) (b:=s.wanted g) bx cu;have ap:(((dc s.stored).take pre.length).foldl (aC.one g) (s.wanted g)).1.slot=s.slot:=by unfold aC.slot;rw [T.1.2.1,bK]
   obtain⟨a0,ch⟩:∃a0,a0=(((dc s.stored).take pre.length).foldl (aC.one g) (s.wanted g)):=⟨_,j⟩;rw [<-ch] at O K ag T ck ap aR;have d:=C.gy d;refine cl 4 d j (λH w d=>c4 (d.bc H) j j j (by simpa using bl.one) (by rw [List.size_toArray];exact bl.bW a2) (by decide) (λw d=>?_));have d:=C.whole (U:=bl.cs) d (by rw [bl.bW a2];rfl);have d:C _ _ [R H bl.cs.toArray 103,R ay #[ab ba] 66,R l #[v] 59,R B #[ad s.slot] 3,cx g ba s c,L,i,Q,ax 291 n ah z,t,be] w:=d.as;refine bI 0 j (⟨j,_,d,λbV bH d=>?_⟩);have bt:=aP.st d aD;have bu:=(aP.apart d aD).sub (eJ:=au [R H bl.cs.toArray 103,R ay #[ab ba] 66,R l #[v] 59,R B #[ad s.slot] 3,cx g ba s c,L,i,Q,ax 291 n ah z,t,be]) (λb ci=>np.2 (.inr (np.2 (.inl ci))));have d:=C.gy d;refine al 5 j (aw (C.ak d) bl.gI) (al 0 j (aw (C.ak d) j) (cm 1 j j (λav=>?_) (λav=>?_)))
   .refine al 1 j (aw (C.ak d) j) (al 2 j (aw (C.ak (b:=ba) d) (aH some aA)) (bS 43 (ab n) j (by rw [aj]) ?_));have cv:=ag.wide kd.wide;obtain⟨bd,bf,bD,bC⟩:=ag.del (k:=E);have Y:=DV (k:=E) cv (d.ours (cI:=[ax 291 n ah z])) aQ;refine bo 1 Y j (λw⟨aq,bz,aB⟩=>?_);have d:=d.b3 aB;have d:C _ _ [R H bl.cs.toArray 103,R ay #[ab ba] 66,R l #[v] 59,R B #[ad s.slot] 3,cx g ba s c,L,i,Q,ax 291 n ah aq,t,be] w:=d.as;refine al 3 j (aw (C.ak d) bl.gI) (al 0 j (aw (C.ak d) j) (bm 1 j j (λaJ=>?_) (λaJ=>?_)))
    .have d:C bH (au [R H bl.cs.toArray 103,R ay #[ab ba] 66,R l #[v] 59,R B #[ad s.slot] 3,cx g ba s c,L,i,Q,ax 291 n ah z,t,be]) ([R H bl.cs.toArray 103,R ay #[ab ba] 66,R l #[v] 59,cx g ba s c]++_) _:=d.front;have d:=d.drew;refine bw 0 j (λw=>∃ae,C bH (au [R H bl.cs.toArray 103,R ay #[ab ba] 66,R l #[v] 59,R B #[ad s.slot] 3,cx g ba s c,L,i,Q,ax 291 n ah z,t,be]) ([R H bl.cs.toArray 103,R ay #[ab ba] 66,R l #[v] 59,cx g ba s c]++ae) w) ⟨_,d⟩ (bT 0 j (λw⟨_,d⟩=>aw (C.ak (b:=l) d) j) (bT 1 j (λw⟨_,d⟩=>aw (C.ak d) j) (af 2 2 j (bT 4 j (λw⟨_,d⟩=>aw (C.ak d) j) (aT 5 j (λw⟨_,d⟩=>c3 (U:=bl.cs) j j (bl.bW a2) (bp (C.ak d))) (aU 6 j ?_))))));have co:=(bB.read (show Holds _ bU from((d.holds (G:=t) (by simp)).perm cp).right.left)).1;have Y:=AN (m:=bl) co K (N:=M+5+6*128) (λr ac=>(T.2.2.2.1 r ac).more (by omega)) (by omega) (bt.st d bu) V (d.eE bt bu) d.ours;refine cN j j j Y (λr w⟨bQ,aW,ca,b7,aB⟩=>?_);have d:=d.b3 aB;have d:C _ _ ([R H bl.cs.toArray 103,R ay #[ab ba] 66,R l #[v] 59,cx g ba s c]++_) w:=d.front;refine ar ⟨⟨_,d⟩,?_⟩;refine aU 7 j ?_;have cW:=r7 V a0.1.cur bl.P;refine nN (d.front (cI:=[be,bQ])) O ca j j (by decide) j j j (by omega) (λv3 bn w br d=>?_);have d:C _ _ ([R H bl.cs.toArray 103,R ay #[ab ba] 66,R l #[v] 59,cx g ba s c]++_) w:=d.front;refine ar ⟨⟨_,d⟩,?_⟩;refine dy 8 j ?_;obtain⟨_,_,a4,_⟩:=br.len;refine cC (d.bc l) j j j (by rw [a4];rfl) bJ (λw d=>?_);have d:C _ _ (R l #[v3] 59::_) w:=d;have d:C _ _ [R ay #[ab ba] 66,R l #[v3] 59,R B #[ad s.slot] 3,cx g ba s c,L,aW,Q,ax 291 n ah aq,t,bn] w:=d.as;refine ar (cX (bI 0 j ?_));have aE:aC.one g a0 (E,bl.P)=({a0.1 with stored:=fK a0.1.stored E,cur:=(hc g a0.1.cur bl.P).1},a0.2++(hc g a0.1.cur bl.P).2):=a6 (by show bl.s=_;rw [ap];exact dY.1 aJ);refine⟨[R ay #[ab ba] 66,R l #[v3] 59,R B #[ad s.slot] 3,cx g ba s c,L,aW,Q,ax 291 n ah aq,t,bn],d,v3,aq,fK W E,aW,bn,bd,X++bf,j,?_⟩;rw [b4,List.length_singleton,aR,aE];exact⟨br,b7,bz,aF.trans (by rw [dF];exact .append_left _ bC),bD⟩
    refine bI 1 j ?_;have aE:aC.one g a0 (E,bl.P)=({a0.1 with stored:=fK a0.1.stored E},a0.2):=(aI (by show¬bl.s=_;rw [ap];exact λh=>by rw [show(bl.s==s.slot)=true from dY.2 h] at aJ;cases aJ)).trans (a6 (by show bl.s<=_;rw [ap];exact av));refine⟨[R ay #[ab ba] 66,R l #[v] 59,R B #[ad s.slot] 3,cx g ba s c,L,i,Q,ax 291 n ah aq,t,be],d.as,v,aq,fK W E,i,be,bd,X++bf,j,?_⟩;rw [b4,List.length_singleton,aR,aE];exact⟨O,K,bz,aF.trans (by rw [dF];exact .append_left _ bC),bD⟩
   refine al 4 j (aw (C.ak d) bl.gI) (al 0 j (aw (C.ak d) j) (i0 1 j j ((by have aL:=av;exact ft.2 (λh=>aL (by omega)))) (bI 1 j ?_)));have aE:aC.one g a0 (E,bl.P)=a0:=(aI (by show¬bl.s=_;rw [ap];have:=av;omega)).trans (aI (by show¬bl.s<=_;rw [ap];exact av));refine⟨[R ay #[ab ba] 66,R l #[v] 59,R B #[ad s.slot] 3,cx g ba s c,L,i,Q,ax 291 n ah z,t,be],d.as,v,z,W,i,be,F,X,j,?_⟩;rw [b4,List.length_singleton,aR,aE];exact⟨O,K,aQ,aF,ag⟩
  rintro xs cM w ce ⟨v,z,W,i,be,F,X,rfl,O,K,aQ,aF,ag⟩ d;rw [ce,iA,aS.len,ir (by rw [hR];exact cD _)] at O K ag;refine al 2 j (aw (C.ak d) j) (bI 1 j ⟨v,λw ct=>?_⟩);have d:=ct.st d (cD _);refine⟨λa aj=>i7 (fn:=f193) aj j _ _,?_⟩;have T:=aC.qv V (dc s.stored) (s.wanted g) (M+5) (λq a1=>Z.ll q (gO.1 a1)) (λr ac=>(bN r ac).1);have bY:(s.c9 g).1.an=s.an:=T.1.1.trans cA;have bZ:(s.c9 g).1.log=s.log:=T.1.2.1.trans bK;have b0:(s.c9 g).1.cw=s.cw:=T.1.2.2.1.trans cB;have b1:(s.c9 g).1.eZ=s.eZ:=T.1.2.2.2.trans cF;have b2:cx g ba s c=cx g ba (s.c9 g).1 c:=by unfold cx px;rw [bY,b1]
  have d:C o u [cx g ba (s.c9 g).1 c,L,i,Q,ax 291 n ah z++F,be] w:=by
   rw [<-b2];have aL:C o u [cx g ba s c,L,i,Q,ax 291 n ah z,t,be] w:=d.as
   have az:C o u [cx g ba s c,L,i,Q,ax 291 n ah z,X,F,be] w:=aL.perm (by
    simp only [kj,m1,gY];have:=oZ be aF;rw [dF] at this;exact .append_left _ (.append_left _ (.append_left _ (.append_left _ (.append_left _ this)))))
   exact C.perm (A:=[cx g ba s c,L,i,Q,ax 291 n ah z,F,be]) az.as (by simp)
  refine⟨be,_,O,⟨c,L,i,Q,ax 291 n ah z++F,⟨by rw [bZ];exact S.log,K,by rw [b0];exact S.cw,⟨n,ah,z,W,F,aA.trans (by rw [aj]),aQ,ag,j⟩⟩,j⟩,C.iG d⟩
theorem ED{o:World}{a:Nat}{A B:Option Addr}{xs c0:List UInt8}{bR d:Nat}(e:o.heap[a]? =some (.cells #[.slice B c0.length d] 28 (0,0)))(b:Rd o A (aG xs))(c:Rd o B (aG c0)):Calls prog 192 (#[]++ #[.slice A xs.length bR]++ #[ab a]) o λr w=>r= .bool (decide (xs=c0))/\w=o:=by
 refine a2 func192 (al 6 j (aw e j) (bo 0 (qr b c) j (λw hw=>?_)));subst hw;exact ao 1 j j ⟨j,j⟩
theorem aC.EA{g:am}{n:Nat}{s:aC}{l:List aW}(h:s.cur=none):aC.go g n s l=(s,l):=by
 cases n with
 |zero=>rfl
 |succ n=>unfold aC.go;rw [h]
theorem aC.EC{g:am}{n:Nat}{s:aC}{l:List aW}{r:aj}(h:s.cur=some r)(a:r.dec=false):aC.go g n s l=(s,l):=by
 cases n with
 |zero=>rfl
 |succ n=>
  unfold aC.go;rw [h];exact aI (by rw [a];decide)
theorem aC.u6{g:am}{n:Nat}{s:aC}{l:List aW}{r:aj}(h:s.cur=some r)(a:r.dec=true):aC.go g (n+1) s l=aC.go g n ((s.next r).c9 g).1 (l++((s.next r).c9 g).2):=by
 rw [aC.go,h];exact a6 a
theorem aC.C3{g:am}{N M:Nat}{s:aC}(h:s.ok g N)(a:g.ok)(d:∀r,s.cur=some r->r.ok g M):(s.c9 g).1.log=s.log:=by
 obtain⟨i,b,j,k,l,c⟩:=h.wanted a d;exact(aC.qv a (dc s.stored) (s.wanted g) (M+5) (λp e=>h.ll p (gO.1 e)) (λr f=>(c r f).1)).1.2.1.trans b
theorem va{o:World}{g:am}{ba:Nat}{s:aC}{G E:List Chunk}{v0:Value}{l:List aW}(bi:iq g ba s G)(bd:cz v0 l E)(bK:l.length<=1000){N:Nat}(bA:s.ok g N)(bG:773<=N)(bH:N+20<=1000000)(ac:g.at o)(S:g.ok)(V:g.off (au [G,E]))(a:Own [G,E] o):Calls prog 142 #[ab ba,v0] o λr w=>∃be ai,cz r (s.h8 g l).2 be/\iq g ba (s.h8 g l).1 ai/\C o (au [G,E]) [ai,be] w:=by
 obtain⟨e,aK⟩:∃e,e=au [G,E]:=⟨_,j⟩;rw [<-aK] at V⊢;have a:C o e [G,E] o:=aK▸a;refine a2 func142 ?_
 refine cH 5 j (ct:=Nat×aC×List aW×Value×List Chunk×List Chunk) (λi=>[(0,ab ba),(1,i.2.2.2.1)])
  (λi w=>i.2.1.ok g N/\s.h8 g l=aC.go g i.1 i.2.1 i.2.2.1/\65<=i.1+i.2.1.log.length/\i.2.2.1.length+6450*i.1<=500000/\iq g ba i.2.1 i.2.2.2.2.1/\cz i.2.2.2.1 i.2.2.1 i.2.2.2.2.2/\C o e [i.2.2.2.2.1,i.2.2.2.2.2] w) (λi=>i.1) (65,s,l,v0,G,E) ⟨j,j,aY⟩ ⟨bA,j,gG _ _,by dsimp only;omega,bi,bd,a⟩ ?_
 rintro⟨n,s1,dA,v1,ai,be⟩ w ⟨O,ad,bz,bx,aQ,Y,a⟩;dsimp only at O ad bz bx aQ Y a⊢;obtain⟨c,L,bb,Q,D,K,rfl⟩:=aQ;have a:=a.qL;refine aq 6 j ?_;rcases K.cur with⟨B,aa,bF⟩|⟨d,av,B,aa,bl⟩
 .refine al 0 j (aw (C.ak (b:=ba) a) (aH some aa)) (ao 7 j j ?_);rw [ad,aC.EA B];exact⟨be,_,Y,⟨c,L,bb,Q,D,K,j⟩,a.iG⟩
 refine al 0 j (aw (C.ak (b:=ba) a) (aH some aa)) (al 9 j (aw (C.ak (b:=ba) a) (aH some aa)) ?_);have bC:=(O.cur d B).1;have J:=DQ bl bC (a.holds (G:=bb) (by simp));refine bh 0 J j (λr w⟨v1,v2,H,M,aB,az,aS,bt⟩=>?_);subst aB;obtain⟨f,e2,rfl,bN,bQ⟩:=az.form;obtain⟨W,X,rfl,bO,_⟩:=aS.form;have a:=a.aM bt;refine cl 4 a j (λh w a=>dB 0 (a.bc h) j j j j (λw a=>?_));have a:C o e (R h #[.slice f d.value.length e2] 28::_) w:=a;refine bm 7 j j (λap=>?_) (λap=>?_)
 .refine ao 5 j j ?_;rw [ad,aC.EC B (by simpa using ap)];have a:C o e [cx g ba s1 c,L,bb,Q,D,be] w:=a.as;exact⟨be,_,Y,⟨c,L,bb,Q,D,K,j⟩,a.iG⟩
 have a:C o e [cx g ba s1 c,R h #[.slice f d.value.length e2] 28,L,bb,Q,D,be,H,M] _:=a.as;have a:=a.drew;refine bw 2 j (λw=>∃ae,C o e ([cx g ba s1 c,R h #[.slice f d.value.length e2] 28]++ae) w) ⟨_,a⟩ (af 0 4 j (a8 4 j a1 j (a8 5 j a1 j (af 6 1 j (aT 7 j (λw _=>e1 (c:= #[.slice f d.value.length e2,.slice W d.dG.length X]) j (λ_=>by kernel_rfl)) (aU 8 j (gC (U:=[.slice f d.value.length e2,.slice W d.dG.length X]) a j j j j bJ bJ (λo2 w a=>?_))))))));have aJ:=bp (C.ak (b:=o2) a);have a:C o e ([cx g ba s1 c,R h #[.slice f d.value.length e2] 28]++_) w:=a.front;refine ar ⟨⟨_,a⟩,?_⟩;refine aU 9 j ?_;obtain⟨aF,P,es,rfl,bj,a7⟩:=K.log;have bL:=O.log;have a:C o e [aF,P,cx g ba s1 c,R h #[.slice f d.value.length e2] 28,bb,Q,D,be,H,M] w:=C.perm (A:=[aF++P,cx g ba s1 c,R h #[.slice f d.value.length e2] 28,bb,Q,D,be,H,M]) a.as (by simp);refine d9 a bj j j (by decide) j j j (m:=1) (news:=[.slice f d.value.length e2,.slice W d.dG.length X]) j aJ (by intro u hu;simp at hu;rcases hu with rfl|rfl<;>rfl) (by omega) (by unfold maxLen;omega) (λbR aj w ax a=>?_);obtain⟨q,t,rfl,_,_⟩:=ax.form;have a:C o e ([cx g ba s1 c,R h #[.slice f d.value.length e2] 28]++_) w:=a.front;refine ar ⟨⟨_,a⟩,?_⟩;refine af 10 2 j (dy 12 j (cC (a.bc ba) j j j ax.one bJ (λw a=>?_)));have a:C o e (cx g ba s1 {c with log:=.slice q (s1.log.length+1) t}::_) w:=a;obtain⟨_,_,a4,_,_,bB,bq⟩:=az.rd (a.to H);cases a4
 obtain⟨z,aL,a⟩:∃z,nK (.slice q (s1.log.length+1) t) (s1.log++[(d.value,d.dG)]) z/\C o e [cx g ba s1 {c with log:=.slice q (s1.log.length+1) t},R h #[.slice f d.value.length e2] 28,z,bb,Q,D,be] w:=
  ⟨aj++(P++(H++M)),⟨aj,P++(H++M),es++[(.slice f d.value.length e2,.slice W d.dG.length X)],j,by rw [b4,List.length_singleton];simpa using ax,a7.app (kb.one az aS)⟩,C.perm (A:=[cx g ba s1 {c with log:=.slice q (s1.log.length+1) t},R h #[.slice f d.value.length e2] 28,aj,P,H,M,bb,Q,D,be]) a.as (by simp)⟩
 have bo:bX f (aG d.value) (au [Q]):=C.qg bq;refine ar (cX (al 6 j (aw (C.ak a) j) (gV j j j j ?_)));have aV:=C.ak (b:=h) a;have br:h∉au [Q]:=λbs=>(a.bc h).jj (qB _ bs)
 have J:=DW (p:=λy=>decide (y=d.value)) (bf:= #[ab h]) (eA:=192) (T:=λah=>ah.heap[h]? =some (.cells #[.slice f d.value.length e2] 28 (0,0))/\Rd ah f (aG d.value)) (λah gU dP bE aR a5=>ED aR.1 a5 aR.2) (λah ae aI=>⟨by rw [aI.fX h (gv.1 aV).1 br];exact aV,aI.rd bB bo⟩) K.cw a.ours;refine bh 0 J j (λv w⟨F,Z,bu⟩=>?_);have a:=a.b3 bu;obtain⟨a0,aZ,bD,bg,aP,a6⟩:=Z;refine dB 2 (a.bc ba) j j j aP.one (λw a=>?_);have a:C o e (cx g ba s1 {c with log:=.slice q (s1.log.length+1) t,cw:=v}::_) w:=a;have Z:iB v _ F:=⟨a0,aZ,bD,bg,aP,a6⟩;refine dB 5 (a.bc ba) j j j j (λw a=>?_);have a:C o e (cx g ba s1 {c with log:=.slice q (s1.log.length+1) t,cw:=v,cur:=.pointer none}::_) w:=a;have a:C o e [cx g ba s1 {c with log:=.slice q (s1.log.length+1) t,cw:=v,cur:=.pointer none},z,F,D,be] w:=a.as;refine al 6 j (aw (C.ak a) j) (cm 2 j j (λa3=>?_) (λa3=>?_));have a:=a.drew;refine bw 0 j (λw=>∃ae,C o e ([cx g ba s1 {c with log:=.slice q (s1.log.length+1) t,cw:=v,cur:=.pointer none}]++ae) w) ⟨_,a⟩ (af 0 4 j (a8 4 j a1 j (af 5 3 j (a8 8 j a1 j (af 9 3 j (a8 12 j a1 j (af 13 1 j (aU 14 j (cN j j j (zt (g:=g) (an:=s1.an) (slot:=((s1.log.length+1:Nat):Int))) (λr w⟨ag,cG,aB,bk,bv⟩=>?_))))))))));subst aB;have a:=a.aM bv;have a:C o e [cx g ba s1 {c with log:=.slice q (s1.log.length+1) t,cw:=v,cur:=.pointer none},z,F,D,be,cG] w:=a.as;refine ar ⟨⟨_,a⟩,?_⟩;refine af 15 2 j (dy 17 j (cC (a.bc ba) j j j j bJ (λw a=>?_)));have a:C o e (cx g ba s1 {c with log:=.slice q (s1.log.length+1) t,cw:=v,cur:=ab ag}::_) w:=a;refine ar (cX ?_);have aA:s1.log.length+1<64:=by omega
 obtain⟨I,ay,a⟩:∃I,iq g ba (s1.next d) I/\C o e [I,be] w:=by
  have a:C o e [cx g ba s1 ({c with log:=.slice q (s1.log.length+1) t,cw:=v,cur:=ab ag}),z,cG,F,D,be] w:=a.as;exact⟨_,⟨{c with log:=.slice q (s1.log.length+1) t,cw:=v,cur:=ab ag},z,cG,F,D,⟨aL,.inr ⟨_,ag,if_pos aA,j,bk⟩,Z,K.stored⟩,j⟩,a.iG⟩
 have x:=aC.ku O B;have J:=xr ay x.1 x.2 (by omega) (ac.st a V) S (a.eE ac V) a.ours;refine bh 3 J j (λr w⟨aD,aE,aN,aO,aX⟩=>?_);rotate_left
 have aA:¬s1.log.length+1<64:=by omega
 obtain⟨I,ay,a⟩:∃I,iq g ba (s1.next d) I/\C o e [I,be] w:=by
  have a:C o e [cx g ba s1 ({c with log:=.slice q (s1.log.length+1) t,cw:=v,cur:=.pointer none}),z,[],F,D,be] w:=(C.empty a).as;exact⟨_,⟨{c with log:=.slice q (s1.log.length+1) t,cw:=v,cur:=.pointer none},z,[],F,D,⟨aL,.inl ⟨if_neg aA,j,j⟩,Z,K.stored⟩,j⟩,a.iG⟩
 have x:=aC.ku O B;have J:=xr ay x.1 x.2 (by omega) (ac.st a V) S (a.eE ac V) a.ours;refine bh 4 J j (λr w⟨aD,aE,aN,aO,aX⟩=>?_);rotate_left
 all_goals
  have a:=a.b3 aX;obtain⟨n,rfl⟩:∃k,n=k+1:=⟨n-1,by have:=(O.cur d B).2;omega⟩;have bI:=aC.xq S (s:=s1.next d) x.1.stored;refine nN (a.front (cI:=[be,aD])) Y aN j j (by decide) j j j (by omega) (λv3 bn w a9 a=>bP 1 j ?_)
  have bM:((s1.next d).c9 g).1.log.length=s1.log.length+1:=by
   rw [aC.C3 x.1 S x.2];show(s1.log++[(d.value,d.dG)]).length=_;rw [b4,List.length_singleton]
  refine⟨(n,((s1.next d).c9 g).1,dA++((s1.next d).c9 g).2,v3,aE,bn),⟨j,j,aY⟩,⟨x.1.c9 S x.2 (by omega),ad.trans (aC.u6 B (by simpa using ap)),by dsimp only;omega,by dsimp only;rw [List.length_append];omega,aO,a9,a.as⟩,by dsimp only;omega⟩
theorem kB.ptr{g:am}{v:Value}{c:Option aj}{G:List Chunk}(h:kB g v c G):∃p:Option Addr,v= .pointer p/\p.isNone=c.isNone:=by
 rcases h with⟨rfl,rfl,_⟩|⟨r,av,rfl,rfl,_⟩
 .exact⟨none,j,j⟩
 .exact⟨_,j,j⟩
theorem AK{o:World}{g:am}{ba:Nat}{s:aC}{G:List Chunk}(aB:iq g ba s G){A:Option Addr}{x:List UInt8}{bR:Nat}(ac:Rd o A (aG x))(K:bX A (aG x) (au [G]))(aV:x.length<=1000000){N:Nat}(t:s.ok g N)(a3:773<=N)(a4:N+40<=1000000)(M:g.at o)(O:g.ok)(E:g.off (au [G]))(a:Own [G] o):Calls prog 130 #[ab ba,.slice A x.length bR] o λr w=>∃v be ai,r= .tuple #[v,.int .i64 (s.eI g x).2.2]/\cz v (s.eI g x).2.1 be/\iq g ba (s.eI g x).1 ai/\C o (au [G]) [ai,be] w:=by
 obtain⟨c,L,bb,Q,D,d,rfl⟩:=aB;obtain⟨e,ag⟩:∃e,e=au [cx g ba s c++(L++(bb++(Q++D)))]:=⟨_,j⟩;rw [<-ag] at K E⊢;have a:C o e [cx g ba s c++(L++(bb++(Q++D)))] o:=ag▸a;have a:=a.qL;obtain⟨aW,aP,an⟩:=d.cur.ptr;refine a2 func130 (aq 11 j (bS 9 (.bool false) j (aH Value.bool (j)) ?_));refine aq 5 j (cQ 14 j (λV=>?_) (λV=>?_))
 .refine ao 10 j j ?_
  have f:s.eI g x=(s,[],1):=by
   unfold aC.eI;exact a6 (.inl (by have:=dY.1 (show((x.length:Int)==0)=true from V);omega))
  rw [f];exact⟨_,[],_,j,cz.nil,⟨c,L,bb,Q,D,d,j⟩,(C.iG a.as).empty.f1⟩
 refine cm 5 j j (λeu=>?_) (λeu=>?_)
 .refine ao 4 j j ?_
  have f:s.eI g x=(s,[],1):=by
   unfold aC.eI;exact a6 (.inr (by omega))
  rw [f];exact⟨_,[],_,j,cz.nil,⟨c,L,bb,Q,D,d,j⟩,(C.iG a.as).empty.f1⟩
 have F:¬(x.length=0\/200<x.length):=by
  have m:((x.length:Int)==0)=false:=V;have q:=eu;have af:¬(x.length:Int)=0:=λh=>by rw [dY.2 h] at m;cases m
  omega
 have aU:x.length<=200:=by omega
 have n:=E1 (ba:=ba) (g:=g) (s:=s) (c:=c) (C.ak a) d.log d.cw (a.holds (by simp)) (a.holds (by simp)) (a.rd ac K) (bR:=bR);refine bo 4 n j (λw B=>?_);have a:=a.aM B;have a:C o e [cx g ba s c,L,bb,Q,D] w:=a.as;refine bm 1 j j (λW=>?_) (λW=>?_)
 .refine ao 4 j j ?_
  have f:s.eI g x=(s,[],0):=by
   unfold aC.eI;rw [aI F];exact a6 W
  rw [f];exact⟨_,[],_,j,cz.nil,⟨c,L,bb,Q,D,d,j⟩,(C.iG a.as).empty.f1⟩
 have P:¬s.there x=true:=by rw [show s.there x=false from W];decide
 obtain⟨_,_,a8,_,aE,_⟩:=d.cw;obtain⟨aY,a0,aN,a7,_⟩:=aE.form;refine al 5 j (aw (C.ak (b:=ba) a) (aH some aN)) (aq 3 j (cQ 30 j (λY=>?_) (λY=>?_)))
 .refine ao 12 j j ?_
  have f:s.eI g x=(s,[],3):=by
   unfold aC.eI;rw [aI F,aI P];exact a6 (.inl (by have:=dj Y;omega))
  rw [f];exact⟨_,[],_,j,cz.nil,⟨c,L,bb,Q,D,d,j⟩,(C.iG a.as).empty.f1⟩
 refine al 3 j (aw (C.ak (b:=ba) a) (aH some aP)) (bm 3 j j (λX=>?_) (λX=>?_))
 .refine ao 4 j j ?_
  have f:s.eI g x=(s,[],3):=by
   unfold aC.eI;rw [aI F,aI P];exact a6 (.inr (by rw [<-an];exact X))
  rw [f];exact⟨_,[],_,j,cz.nil,⟨c,L,bb,Q,D,d,j⟩,(C.iG a.as).empty.f1⟩
 refine mn 2 j (λw=>∃ae,C o e ([cx g ba s c]++ae) w) ?_;have a:=a.drew
 have aj:¬(16<=s.cw.length\/s.cur.isNone):=by
  have m:=dN Y;have q:aW.isNone=false:=X;rw [an] at q;rw [q];simp;omega
 refine fV 4 [0,1,2,3] j ⟨_,a⟩ (eM 4 j ⟨_,a⟩ (λw⟨_,a⟩=>hK j j (aw (C.ak a) j)) (fV 1 [5] j ⟨_,a⟩ (dZ 6 j ?_)));have n:=g3 (c:=bR) (a.rd ac K) (by omega);refine cN j j j n (λr w⟨i,Z,B⟩=>?_);have a:=a.aM B;have a:C o e [cx g ba s c,L,bb,Q,D,i] w:=a.as;refine ar ⟨⟨_,a⟩,?_⟩;refine dZ 7 j (eO (U:=[r]) a j j j j j (by simpa using Z.one) bJ (λI w a=>?_));have aJ:=bp (C.ak (b:=I) a);have a:C o e [cx g ba s c,L,bb,Q,D,i,R I #[r] 28] w:=a.as;refine ar ⟨⟨_,a⟩,?_⟩;refine dZ 8 j ?_;obtain⟨T,k,us,rfl,aF,av⟩:=d.cw;have a:C o e [cx g ba s c,T,k,L,bb,D,i,R I #[r] 28] w:=C.perm (A:=[cx g ba s c,T++k,L,bb,D,i,R I #[r] 28]) a.as (by simp);have a5:=t.cw;refine d9 (a.to T) aF j j (by decide) j j j (news:=[r]) j aJ (by intro u hu;rw [List.mem_singleton.1 hu];exact Z.one) (by omega) (by unfold maxLen;omega) (λp l w aa a=>?_);have a:C o e [cx g ba s c,l,k,L,bb,D,i] w:=a.as;refine ar ⟨⟨_,a⟩,?_⟩;refine fV 2 [9,10] j ⟨_,a⟩ (j5 11 j (cC (a.bc ba) j j j aa.one bJ (λw a=>?_)));have a:C o e (cx g ba s {c with cw:=p}::_) w:=a;have ah:iB p (s.cw++[x]) (l++(k++i)):=⟨l,k++i,us++[r],j,by rw [List.length_append,List.length_singleton];exact aa,av.app (h0.one Z)⟩;have a:C o e [cx g ba s {c with cw:=p},L,bb,l++(k++i),D] w:=C.perm (A:=[cx g ba s {c with cw:=p},L,bb,l,k,i,D]) a.as (by simp);obtain⟨aZ,a1,aT,_,_⟩:=aa.form;refine ar (cX (al 6 j (aw (C.ak (b:=ba) a) (congrArg some aT)) (bm 2 j j (λJ=>?_) (λJ=>?_))))
 .refine ao 4 j j ?_
  have f:s.eI g x=({s with cw:=s.cw++[x]},[],0):=by
   unfold aC.eI;rw [aI F,aI P,aI aj];exact a6 (by have m:decide (((s.cw.length+1:Nat):Int)>1)=true:=J;have:=of_decide_eq_true m;omega)
  rw [f];exact⟨_,[],_,j,cz.nil,⟨{c with cw:=p},L,bb,l++(k++i),D,⟨d.log,d.cur,ah,d.stored⟩,j⟩,(C.iG a).empty.f1⟩
 refine al 7 j (aw (C.ak a) j) ?_;have n:=Ba (g:=g) (bR:=bR) (a.rd ac K) aV d.cur (λr z=>(t.cur r z).1) (by omega) (M.st a E) O (a.eE M E) a.ours;refine bh 1 n j (λr w⟨be,ad,az,ax,B⟩=>?_);have a:=a.b3 B;have aQ:(s.cw++[x]).length<=16:=by rw [List.length_append,List.length_singleton];have:=of_decide_eq_false J;omega
 have aR:∀y∈s.cw++[x],y.length<=200:=λy H=>by
  rcases dw.1 H with H|H
  .exact t.li y H
  .rw [fT.1 H];exact aU
 have aL:∀r,(fR g s.cur x).1=some r->r.ok g (N+5)/\s.log.length<64:=λr z=>by
  refine⟨uH O (λr z=>(t.cur r z).1) r z,?_⟩;have q:(fR g s.cur x).1.isSome=true:=by rw [z];rfl
  rw [sa] at q;obtain⟨aX,af⟩:=gX.1 q;exact(t.cur aX af).2
 have aS:aC.ok g (N+5) ({s with cw:=s.cw++[x],cur:=(fR g s.cur x).1}:aC):={t.more (Nat.le_add_right N 5) with cw:=aQ,li:=aR,cur:=aL}
 obtain⟨S,aK,a⟩:∃S,iq g ba ({s with cw:=s.cw++[x],cur:=(fR g s.cur x).1}:aC) S/\C o e [S,be] w:=by
  have a:C o e [cx g ba s ({c with cw:=p}),L,ad,l++(k++i),D,be] w:=a.as;exact⟨_,⟨{c with cw:=p},L,ad,l++(k++i),D,⟨d.log,ax,ah,d.stored⟩,j⟩,a.iG⟩
 have n:=va aK az (by have:=uG O s.cur x;omega) aS (by omega) (by omega) (M.st a E) O (a.eE M E) a.ours;refine bh 0 n j (λr w⟨ap,aA,ay,aD,aO⟩=>?_);have a:=a.b3 aO;refine ao 2 j j ?_
 have f:s.eI g x=((aC.h8 g {s with cw:=s.cw++[x],cur:=(fR g s.cur x).1} (fR g s.cur x).2).1,(aC.h8 g {s with cw:=s.cw++[x],cur:=(fR g s.cur x).1} (fR g s.cur x).2).2,0):=by
  unfold aC.eI;rw [aI F,aI P,aI aj];exact aI (by have m:decide (((s.cw.length+1:Nat):Int)>1)=false:=J;have:=of_decide_eq_false m;omega)
 rw [f];exact⟨_,ap,aA,j,ay,aD,a⟩
end Go.Proofs.YtdomoelfhjdioaaGreatDoor.R
