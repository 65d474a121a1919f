/- Part 3 of the proof. -/
import Derived.Test.YtngjfjhomikplaaGreatDoorM2
set_option linter.unusedVariables false
set_option linter.unusedSimpArgs false
set_option linter.unusedSectionVars false
set_option maxRecDepth 20000
set_option maxHeartbeats 4000000
namespace Go.Proofs.YtngjfjhomikplaaGreatDoor.R
open Go.Proofs.Tryz Go Go.RowKit Go.Proofs
theorem hY.len:∀{us:List Value}{l:List (List UInt8)}{H:List Chunk},hY us l H->us.length=l.length
 |[],[],_,_=>rfl
 |[],_::_,_,h=>h.elim
 |_::_,[],_,h=>h.elim
 |_::us,_::l,_,⟨_,_,_,_,h⟩=>by simp [h.len]
theorem hY.read{w:World}:∀{us:List Value}{l:List (List UInt8)}{H:List Chunk},hY us l H->Holds w H->∀(i:Nat)(a:i<l.length),∃A c,us[i]? =some (.slice A l[i].length c)/\l[i].length<=c/\c<=maxLen/\Rd w A (au l[i])
 |[],[],_,_,_,i,a=>by simp at a
 |[],_::_,_,h,_,_,_=>h.elim
 |_::_,[],_,h,_,_,_=>h.elim
 |u::us,x::l,_,⟨ai,aA,rfl,hu,h⟩,b,0,_=>by
  obtain⟨A,c,rfl,d,e,f,_⟩:=hu.read b.left;exact⟨A,c,j,d,e,f⟩
 |u::us,x::l,_,⟨ai,aA,rfl,hu,h⟩,b,i+1,a=>by
  have:=h.read b.right i (by simpa using a);simpa using this
theorem Row.n3{e:TypeId}{size n c m:Nat}{A:Option Addr}{xs:List Value}{G:List Chunk}(h:Row e size (.slice A m c) n xs G):∀a,A=some a->a.block∈av [G]:=λa d=>by
 rcases h.2 with⟨b,_⟩|⟨g,_,_,b,rfl,_⟩
 .cases b;cases d
 .cases b;cases d;simp [av]
theorem hY.n3:∀{us:List Value}{l:List (List UInt8)}{H:List Chunk},hY us l H->∀(i:Nat)(A:Option Addr)(n c:Nat),us[i]? =some (.slice A n c)->∀a,A=some a->a.block∈av [H]
 |[],[],_,_,i,_,_,_,b,_,_=>by simp at b
 |[],_::_,_,h,_,_,_,_,_,_,_=>h.elim
 |_::_,[],_,h,_,_,_,_,_,_,_=>h.elim
 |u::us,x::l,_,⟨ai,aA,rfl,hu,h⟩,0,A,n,c,b,a,d=>by
  simp at b;subst b;have:=hu.n3 a d;simp [av] at this⊢;exact .inl this
 |u::us,x::l,_,⟨ai,aA,rfl,hu,h⟩,i+1,A,n,c,b,a,d=>by
  have:=h.n3 i A n c (by simpa using b) a d;simp [av] at this⊢;exact .inr this
theorem C.la{o w:World}{F:List Nat}{G:List Chunk}{ad:List (List Chunk)}{b:Nat}(h:C o F (G::ad) w)(a:b∈av [G]):b∉av ad:=λc=>by
 have:=h.nodup;rw [o9] at this;exact(iE.1 this).2.2 b a b c j
theorem uY{α β:Type}{f:α->Option β}:∀{l:List α}{i:Nat},(l.take i).findSome? f=none->∀(b:i<l.length)(y:β),f l[i]=some y->l.findSome? f=some y
 |[],_,_,b,_,_=>by simp at b
 |a::r,0,_,_,y,h=>by have h:f a=some y:=h;simp [h]
 |a::r,i+1,h,b,y,c=>by
  simp only [List.take_succ_cons,List.findSome?_cons] at h⊢;cases bw:f a with
  |some z=>rw [bw] at h;cases h
  |none=>
   rw [bw] at h;exact uY h (by simpa using b) y c
theorem yg{α β:Type}{f:α->Option β}{l:List α}{i:Nat}(h:(l.take i).findSome? f=none)(a:i<l.length)(aJ:f l[i]=none):(l.take (i+1)).findSome? f=none:=by
 rw [fr a,List.findSome?_append,h];simp [aJ]
def o3(g:al)(b:List aE)(x:List UInt8):Option (List UInt8×List aE):=if ii g.n<=(j1 (fd b (br x))).length then some (x,j1 (fd b (br x))) else none
theorem D4(g:al)(s:ak)(b:List aE):s.fs g b=s.dh.findSome? (o3 g b):=rfl
theorem x5{o:World}{aw:Nat}{g:al}{s:ak}{c:eZ}(I:o.heap[aw]? =some (.cells (kc g s c).toArray 293 (0,0)))(X:g.at o)(B:g.ok){c1:List Chunk}(T:ir c.dh s.dh c1)(z:Holds o c1)(an:∀x∈s.dh,x.length<=200){c6:Option Addr}{l:List aE}{N:Nat}(P:gh c6 l [] o)(k:fM g N l)(R:N<=1000000):Calls prog 279 #[ab aw,.pointer c6] o λr w=>∃v1 v2 ag,r= .tuple #[v1,v2,.bool (s.fs g l).isSome]/\C o [] [ag] w/\∀y,s.fs g l=some y->(∃A c,v1= .slice A y.1.length c/\y.1.length<=c/\c<=maxLen/\Rd w A (au y.1)/\∀a,A=some a->a.block∈av [c1])/\et v2 y.2 ag:=by
 have b:Own [] o:=C.start o;obtain⟨aD,aC,us,rfl,S,u⟩:=T;obtain⟨F,G,W,aM,aj,ah,_⟩:=S.read z.left;have ap:∀x∈l,x.ok:=k.ok;have bw:∀x∈l,0<=x.f/\x.f<=1000:=λx h=>by have:=qG (k.cQ x h);have O:g.n<=10:=B.n10;omega
 have ad:l.length<=1000000:=ek k.len R;refine a2 func279 (ar 11 j (ax (b.cc I) (show(kc g s c).toArray[0+9]? =some (.slice F s.dh.length G) by rw [<-W];rfl)) ?_)
 refine cJ 3 j (ct:=Nat) (λi=>[(0,ab aw),(1,.pointer c6),(4,.slice none 0 0),(5,.slice none 0 0),(6,.bool false),(13,.slice F s.dh.length G),(14,.int .i64 (s.dh.length:Nat)),(15,.int .i64 (i:Nat))])
  (λi w=>i<=s.dh.length/\(s.dh.take i).findSome? (o3 g l)=none/\C o [] [] w) (λi=>s.dh.length-i) 0 ⟨j,j,j,j,j,j,j,j,aX⟩ ⟨b4 _,j,b⟩ ?_
 rintro i w ⟨aJ,e,b⟩;refine b8 4 j j (λL=>?_) (λL=>?_)
 .have d:i<s.dh.length:=by omega
  obtain⟨K,ci,E,Y,aK,ai⟩:=u.read (z.right.st b) i d;have aN:=an s.dh[i] (d9 d);refine am 5 j (fp j j j j (b.rd ah (bT.of_nil _ _)) (v:=.slice K s.dh[i].length ci) (by rw [gG];exact E) d (λaF aI V=>?_));refine ar 0 j V ?_;have m:=nE (p:=s.dh[i]) ai (by omega) Y;refine bk 5 m j (λr w⟨D,ac⟩=>?_);have D:r= .agg (au (br s.dh[i])).toArray:=D;subst D;have b:=b.aL ac;have m:=zE (o:=w) (c6:=c6) (sum:=br s.dh[i]);refine bk 0 m j (λr w⟨aO,aG,af,aa⟩=>?_);subst af;have Q:=(P.st b (by simp)).here aa;have b:=b.aL aa;have m:=HN Q ap (eK _) ad bw (ek (zz k _) (by have O:g.n<=10:=B.n10;omega)) (vN k _) b.cF;refine bk 0 m j (λr w⟨ag,H,aa⟩=>?_);have b:C o [] [ag] w:=(b.cD aa).as;obtain⟨aB,dp,rfl,_⟩:=H.form;refine bp 6 (z5 (b.cc I) (X.st b (al.off.nil g)) B) j (λaP ao=>?_);subst ao;refine b8 1 j j (λM=>?_) (λM=>?_)
  .refine aq 7 j j ?_;have t:o3 g l s.dh[i]=some (s.dh[i],j1 (fd l (br s.dh[i]))):=by unfold o3;exact if_pos (by omega)
   have t:=uY e d _ t;rw [<-D4] at t;refine⟨_,_,ag,by rw [t];rfl,b,λy q=>?_⟩;rw [t] at q;cases q;obtain⟨gY,aH,J,ay,az,aA⟩:=u.read (z.right.st b) i d;rw [E] at J;cases J;refine⟨⟨_,_,j,ay,az,aA,λa U=>?_⟩,H⟩;have:=u.n3 i _ _ _ E a U;simp [av] at this⊢;exact .inr this
  refine bq 2 j j j (gm i 1 (by unfold maxLen at aj;omega)) (bI 1 j ?_);have ae:o3 g l s.dh[i]=none:=by unfold o3;exact if_neg (by omega)
  refine⟨i+1,⟨j,j,j,j,j,j,j,j,aX⟩,⟨d,yg e d ae,b.bare⟩,by omega⟩
 refine aq 6 j j ?_;have Z:i=s.dh.length:=by omega
 subst Z;rw [gj] at e;have e:s.fs g l=none:=e;refine⟨.slice none 0 0,.slice none 0 0,[],by rw [e];rfl,b.empty,λy q=>?_⟩;rw [e] at q;cases q
abbrev eZ.oV(c:eZ)(k:Nat):Value:=if k=0 then c.cW else c.az
theorem z9(g:al)(s:ak)(c:eZ){k:Nat}(aa:k<2):(kc g s c).toArray[0+10+k*1]? =some (c.oV k):=by
 match k,aa with
 |0,_=>rfl
 |1,_=>rfl
theorem AL(k:Nat)(aa:k<2):evalBin .sub .i64 ((k+1:Nat):Int) 1=some (.int .i64 (k:Int)):=by
 match k,aa with
 |0,_=>rfl
 |1,_=>rfl
abbrev jH(bi:Nat)(u:Value):Chunk:=(bi,.cells #[u] 390 (0,0))
theorem xm{m:List (Int×Value)}{t:List (Int×List aE)}{G:List Chunk}(h:c7 ip m t G)(k:Int):∃c6,(aZ m k).getD tA= .pointer c6/\((c6=none/\aZ t k=none)\/
 ∃bi u l ag H1 c,c6=some ⟨bi,0,none⟩/\aZ t k=some l/\et u l ag/\G=H1++((jH bi u::ag)++c)/\∀bY b a,et b bY a->c7 ip m (cj t k bY) (H1++((jH bi b::a)++c))):=by
 cases aa:aZ t k with
 |none=>rw [h.nv aa];exact⟨none,j,.inl ⟨j,j⟩⟩
 |some l=>
  obtain⟨v,ai,i,aA,e,rfl,⟨bi,u,ag,rfl,d,rfl⟩,g⟩:=h.find aa;rw [e];exact⟨_,j,.inr ⟨bi,u,l,ag,ai,aA,j,j,d,j,λbY b a f=>g bY _ ⟨bi,b,a,j,f,j⟩⟩⟩
theorem gh.ofRow{w:World}{bi:Nat}{u:Value}{l:List aE}{ag:List Chunk}(f:et u l ag)(g:w.heap[bi]? =some (.cells #[u] 390 (0,0)))(e:Holds w ag):gh (some ⟨bi,0,none⟩) l [] w:=by
 obtain⟨A,d,rfl,a,b,c,_⟩:=f.read e;exact .inr ⟨bi,A,d,j,g,a,b,c,by simp,bT.of_nil _ _⟩
theorem ip.G6{w:World}{m:List (Int×Value)}{t:List (Int×List aE)}{G:List Chunk}(h:c7 ip m t G)(k:Int)(b:Holds w G):∃c6,(aZ m k).getD tA= .pointer c6/\gh c6 ((aZ t k).getD []) [] w:=by
 obtain⟨c6,c,d⟩:=xm h k;refine⟨c6,c,?_⟩;rcases d with⟨rfl,a⟩|⟨bi,u,l,ag,H1,f,rfl,a,e,rfl,_⟩
 .rw [a];exact .inl ⟨j,j⟩
 .rw [a];exact gh.ofRow e (b.right.left.head) b.right.left.tail
theorem aE.sZ(v:aE)(a:v.ok){w:World}{b:Nat}{e:TypeId}{e6:Nat×Nat}(h:w.heap[b]? =some (.cells v.cs.toArray e e6)):Rd w (some ⟨b,0+3,none⟩) (au v.sum):=λi x c=>⟨_,j,by
 rw [add_lit];exact ax h (v.nY a i x c)⟩
theorem xn{o:World}{aw:Nat}{g:al}{s:ak}{c:eZ}(e:o.heap[aw]? =some (.cells (kc g s c).toArray 293 (0,0))){k:Nat}(aa:k<2){view:Int}{a:Option Addr}{m:List (Int×Value)}(f:c.oV k= .pointer a)(d:dI 336 o a m):Calls prog 275 #[ab aw,.int .i64 (k+1:Nat),ae view] o λr w=>r=(aZ m view).getD tA/\C o [] [] w:=by
 have b:Own [] o:=C.start o;refine a2 func275 (bq 7 j j j (AL k aa) (am 2 j (rv j j j j aa ?_)));refine ar 0 j (ax (b.cc e) ((z9 g s c aa).trans (aG some f))) ?_;have h:=En (k:=view) d;refine bp 1 h j (λw i=>?_);have b:=b.aL i;exact aq 9 j j ⟨j,b.bare⟩
theorem r6{o:World}{aw:Nat}{g:al}{s:ak}{c:eZ}{v:aE}{k:Nat}(aa:k<2)(ao:v.k=(k+1:Nat))(x:v.ok){t:List (Int×List aE)}{a7:List Chunk}{N:Nat}(aA:fv 336 ip (c.oV k) t a7)(aH:∀p∈t,fM g N p.2)(aM:N<=1000000)(a:Own [bd g aw s c,a7] o):Calls prog 242 #[ab aw,.agg v.cs.toArray] o λr w=>r= .tuple #[]/\∃V,fv 336 ip (c.oV k) (cj t v.v (iW ((aZ t v.v).getD []) v)) V/\C o (av [bd g aw s c,a7]) [bd g aw s c,V] w:=by
 obtain⟨d,ah,I,m,H,J,hm,ai,rfl⟩:=aA;obtain⟨e,X⟩:∃e,e=av [bd g aw s c,ay 336 d ah I++H]:=⟨_,j⟩;rw [<-X];have a:C o e [bd g aw s c,ay 336 d ah I++H] o:=X▸a;have a:C o e [bd g aw s c,ay 336 d ah I,H] o:=a.perm (by simp);refine a2 func242 (bL 2 a j j (λq w a=>?_));have a:C o e [R q v.cs.toArray 55,bd g aw s c,ay 336 d ah I,H] w:=a;refine ar 4 j (ax (C.aj a) v.gJ) (bS 7 (.int .i64 (k+1:Nat)) j (aG (Value.int .i64) ao) (ar 1 j (ax (C.aj a) v.dp) ?_));have z:=xn (aw:=aw) (s:=s) (g:=g) (c:=c) (C.aj a) aa J (dI.own (a.to (ay 336 d ah I)) hm) (view:=v.v);refine bp 0 z j (λw B=>?_);have a:=a.aL B;obtain⟨c6,aC,Z⟩:=xm ai v.v;refine bS 10 (.pointer c6) j aC (bm 6 j j (λF=>?_) (λF=>?_));refine am 2 j (cN (c:= #[.slice none 0 0]) j j j (λ_=>by kernel_rfl) ?_);refine bL 0 a j j (λy w a=>?_);have a:C o e ([jH y (.slice none 0 0)]::_) w:=a;have a:C o e [R q v.cs.toArray 55,bd g aw s c,ay 336 d ah I,H,[jH y (.slice none 0 0)]] w:=a.as;have a:=a.drew;refine bt 1 j (λw=>∃ad,C o e ([R q v.cs.toArray 55,bd g aw s c]++ad) w) ⟨_,a⟩ (af 0 2 j (a8 2 j a1 v.gJ (aT 3 j (λw⟨_,a⟩=>ds j j (show evalBin .sub .i64 v.k 1=some (.int .i64 (k:Int)) by rw [ao];exact AL k aa)) (af 4 2 j (aT 6 j (λw⟨_,a⟩=>wv j j aa) (a8 7 j a1 ((z9 g s c aa).trans (aG some J)) (af 8 1 j (a8 9 j a1 v.dp (af 10 1 j (aR 11 j ?_))))))))));have z:=Hz (k:=v.v) (v:=ab y) (a.ours (cC:=[ay 336 d ah I])) hm;refine bB j j j z (λw⟨T,aD,B⟩=>?_);have a:=a.b2 B;have a:C o e [R q v.cs.toArray 55,bd g aw s c,ay 336 d ah T,H,[jH y (.slice none 0 0)]] w:=a.as;refine an ⟨⟨_,a⟩,?_⟩;refine bK ?_
 have ac:aZ t v.v=none:=by
  rcases Z with h|⟨_,_,_,_,_,_,rfl,_⟩
  .exact h.2
  .cases F
 obtain⟨bi,aB⟩:∃bi,bi=y:=⟨_,j⟩;subst aB
 obtain⟨u,l,ag,H1,n,S,i,P,G,M,O,Q,a⟩:∃u l ag H1 n S i,cg bN i S/\et u l ag/\(aZ t v.v).getD []=l/\fM g N l/\(∀bY K D,et K bY D->c7 ip S (cj t v.v bY) (H1++((jH bi K::D)++n)))/\C o e [R q v.cs.toArray 55,R bi #[u] 390,bd g aw s c,ay 336 d ah i,H1,ag,n] w:=
  ⟨.slice none 0 0,[],[],H,[],_,T,aD,Row.nil _ _,by rw [ac];rfl,fM.nil g N,λbY K D az=>by rw [hc];exact ai.add ac ⟨bi,K,D,j,az,j⟩,C.perm (A:=[R q v.cs.toArray 55,[jH bi (.slice none 0 0)],bd g aw s c,ay 336 d ah T,H]) a.as (by simp)⟩
 refine bM 4 (U:=au v.sum) j j (by rw [cL];exact x.1) (v.sZ x (C.aj a)) ?_;rotate_left
 obtain⟨bi,u,l,ag,H1,n,rfl,ae,G,ap,Q⟩:=Z.resolve_left (λh=>by rw [h.1] at F;cases F);rw [ap] at a;have a:C o e [ay 336 d ah I,R q v.cs.toArray 55,bd g aw s c,H1,R bi #[u] 390,ag,n] w:=C.perm (A:=[ay 336 d ah I,R q v.cs.toArray 55,bd g aw s c,H1++((jH bi u::ag)++n)]) a.as (by simp);have a:C o e [R q v.cs.toArray 55,R bi #[u] 390,bd g aw s c,ay 336 d ah I,H1,ag,n] w:=a.as;have M:(aZ t v.v).getD []=l:=by rw [ae];rfl
 have O:fM g N l:=aH _ (hS ae);obtain⟨i,P,a⟩:∃i,cg bN i m/\C o e [R q v.cs.toArray 55,R bi #[u] 390,bd g aw s c,ay 336 d ah i,H1,ag,n] w:=⟨I,hm,a⟩;refine bM 5 (U:=au v.sum) j j (by rw [cL];exact x.1) (v.sZ x (C.aj a)) ?_;rotate_left
 all_goals
  refine ar 1 j (ax (C.aj a) (v.eo x)) ?_;have z:=Ey (f:=v.f) (gh.ofRow G (C.aj (b:=bi) a) (a.holds (by simp))) O.ok x.1;refine bp 0 z j (λw B=>?_);have a:=a.aL B;refine bm 1 j j (λL=>?_) (λL=>?_)
  .have a:C o e [R q v.cs.toArray 55,R bi #[u] 390,bd g aw s c,ay 336 d ah i,H1,ag,n] w:=a.as;have a:=a.drew;have hlen:=O.len;refine bt 0 j (λw=>∃ad,C o e ([R q v.cs.toArray 55,R bi #[u] 390]++ad) w) ⟨_,a⟩ (af 0 4 j (a8 4 j a1 j (aT 5 j (λw⟨_,a⟩=>c4 (U:=v.cs) j j (v.len x) (bn (C.aj a))) (aR 6 j (gi (U:=v.cs) a j j j (v.len x) (by decide) (by decide) (λW w a=>?_))))));have aJ:=bn (C.aj (b:=W) a);have a:C o e [R q v.cs.toArray 55,R bi #[u] 390,R W v.cs.toArray 55,bd g aw s c,ay 336 d ah i,H1,ag,n] w:=a.as;refine an ⟨⟨_,a⟩,?_⟩;refine aR 7 j (dR (a.to ag) G j j (by decide) j j j (news:=v.cs) (v.len x) aJ (List.all_eq_true.1 v.one) (by omega) (by unfold maxLen;omega) (λv1 E w Y a=>?_));have a:C o e [R q v.cs.toArray 55,R bi #[u] 390,bd g aw s c,ay 336 d ah i,H1,E,n] w:=a.as;refine an ⟨⟨_,a⟩,?_⟩;refine af 8 2 j (dA 10 j (cB (a.bc bi) j j j Y.one bG (λw a=>?_)));have a:C o e ([jH bi v1]::_) w:=a;have a:C o e [bd g aw s c,ay 336 d ah i,H1,[jH bi v1],E,n] w:=a.as;refine an (cU (aq 0 j j ?_));have aF:o7 l v.sum v.f=false:=by simpa using L
   refine⟨j,ay 336 d ah i++(H1++((jH bi v1::E)++n)),⟨d,ah,i,_,_,J,P,?_,j⟩,C.perm (A:=[bd g aw s c,ay 336 d ah i,H1,[jH bi v1],E,n]) a (by simp)⟩;rw [M];unfold iW;rw [aI (by rw [aF];decide)];refine Q _ _ _ ?_;unfold et;rw [b0,List.length_singleton,tr];exact Y
  refine aq 1 j j ?_;have aK:o7 l v.sum v.f=true:=by simpa using L
  have a:C o e [bd g aw s c,ay 336 d ah i,H1,[jH bi u],ag,n] w:=a.as;refine⟨j,ay 336 d ah i++(H1++((jH bi u::ag)++n)),⟨d,ah,i,_,_,J,P,?_,j⟩,C.perm (A:=[bd g aw s c,ay 336 d ah i,H1,[jH bi u],ag,n]) a (by simp)⟩;rw [M];unfold iW;rw [a6 aK];exact Q _ _ _ G
theorem A9{o:World}{aw:Nat}{g:al}{s:ak}{c:eZ}{k:Nat}(aa:k<2){t:List (Int×List aE)}{a7:List Chunk}{N:Nat}{A:Option Addr}{x:List UInt8}{hs:Nat}(M:fv 336 ip (c.oV k) t a7)(O:∀p∈t,fM g N p.2)(L:N<=1000000)(a:Own [bd g aw s c,a7] o)(D:g.at o)(E:g.ok)(z:g.off (av [bd g aw s c,a7]))(P:Rd o A (au x))(H:bT A (au x) (av [bd g aw s c,a7]))(S:x.length<=10000)(Q:x.length<=hs):Calls prog 281 #[ab aw,.int .i64 (k+1:Nat),.slice A x.length hs] o λr w=>∃n bg,cw r (s.aH g (k+1:Nat) x).2 bg/\fv 336 ip (c.oV k) (cj t s.view (iW ((aZ t s.view).getD []) (cX g (k+1:Nat) s.slot s.view (br x) s.ao))) n/\C o (av [bd g aw s c,a7]) [bd g aw s c,n,bg] w:=by
 obtain⟨d,K⟩:∃d,d=av [bd g aw s c,a7]:=⟨_,j⟩;rw [<-K] at z H⊢;have a:C o d [bd g aw s c,a7] o:=K▸a;have m:(cX g (k+1:Nat) s.slot s.view (br x) s.ao).ok:=iZ _ _ _ _ _ _ (eK _);refine a2 func281 ?_;have a:=a.drew;refine bt 4 j (λw=>∃ad,C o d ([bd g aw s c]++ad) w) ⟨_,a⟩ (af 0 3 j (a8 3 j a1 j (af 4 4 j (a8 8 j a1 j (af 9 3 j (a8 12 j a1 j (af 13 1 j (af 15 3 j (a8 18 j a1 j (aO 14 20 j j ?_ ?_))))))))))
 .have h:=nE (p:=x) (a.rd P H) (by omega) Q;refine cO j j j h (λr w⟨u,i⟩=>?_);have u:r= .agg (au (br x)).toArray:=u;subst u;have a:=a.aL i;have a:C o d ([bd g aw s c,a7]) w:=a.as;refine an ⟨⟨_,a⟩,?_⟩;refine aO 19 20 j j ?_ ?_;have h:=oZ (D.st a z) E (k:=(k+1:Nat)) (s:=s.slot) (v:=s.view) (f:=s.ao) (eK x);refine bB j j j h (λw i=>?_);have a:=a.aL i;have a:C o d ([bd g aw s c,a7]) w:=a.as;refine an ⟨⟨_,a⟩,?_⟩;refine aR 20 j (ew a j j (λe w a=>?_));obtain⟨l,a,B⟩:∃l:Array Value,C o d (R e l 55::_) w/\l.size=68:=⟨_,a,j⟩;have a:C o d [bd g aw s c,a7,R e l 55] w:=a.as;rotate_left
  refine ew a j j (λe w a=>?_);obtain⟨l,a,B⟩:∃l:Array Value,C o d (R e l 55::_) w/\l.size=68:=⟨_,a,j⟩;have a:C o d [bd g aw s c,a7,R e l 55] w:=a.as;refine an ⟨⟨_,a⟩,?_⟩;refine aR 19 j ?_;have h:=oZ (D.st a z) E (k:=(k+1:Nat)) (s:=s.slot) (v:=s.view) (f:=s.ao) (eK x);refine bB j j j h (λw i=>?_);have a:=a.aL i;have a:C o d ([bd g aw s c,a7,R e l 55]) w:=a.as;rotate_left
  all_goals
   refine an ⟨⟨_,a⟩,?_⟩;refine dA 21 j (c2 (a.bc e) j j j (by simpa using(cX g (k+1:Nat) s.slot s.view (br x) s.ao).one) (by rw [List.size_toArray];exact(cX g (k+1:Nat) s.slot s.view (br x) s.ao).len m) (by rw [B];decide) (λw a=>?_));have a:=C.whole (U:=(cX g (k+1:Nat) s.slot s.view (br x) s.ao).cs) a (by rw [(cX g (k+1:Nat) s.slot s.view (br x) s.ao).len m];exact B);have a:C o d [bd g aw s c,a7,R e (cX g (k+1:Nat) s.slot s.view (br x) s.ao).cs.toArray 55] w:=a.as;refine an (cU (bM 3 (U:=(cX g (k+1:Nat) s.slot s.view (br x) s.ao).cs) j j ((cX g (k+1:Nat) s.slot s.view (br x) s.ao).len m) (bn (C.aj a)) ?_));have h:=r6 (aw:=aw) (s:=s) (c:=c) aa (show(cX g (k+1:Nat) s.slot s.view (br x) s.ao).k=_ from j) m M O L a.ours;refine bp 0 h j (λw⟨n,G,i⟩=>?_);have a:=a.b2 i;have a:C o d [bd g aw s c,R e (cX g (k+1:Nat) s.slot s.view (br x) s.ao).cs.toArray 55,n] w:=a.as;have a:=a.drew;refine bt 1 j (λw=>∃ad,C o d ([bd g aw s c,R e (cX g (k+1:Nat) s.slot s.view (br x) s.ao).cs.toArray 55]++ad) w) ⟨_,a⟩ (af 0 4 j (a8 4 j a1 j (aT 5 j (λw⟨_,a⟩=>c4 (U:=(cX g (k+1:Nat) s.slot s.view (br x) s.ao).cs) j j ((cX g (k+1:Nat) s.slot s.view (br x) s.ao).len m) (bn (C.aj a))) (aR 6 j (gi (U:=(cX g (k+1:Nat) s.slot s.view (br x) s.ao).cs) a j j j ((cX g (k+1:Nat) s.slot s.view (br x) s.ao).len m) (by decide) (by decide) (λq w a=>?_))))));have a:C o d [bd g aw s c,R e (cX g (k+1:Nat) s.slot s.view (br x) s.ao).cs.toArray 55,R q (cX g (k+1:Nat) s.slot s.view (br x) s.ao).cs.toArray 55,n] w:=a.as;refine an ⟨⟨_,a⟩,?_⟩;refine aT 7 j (λw _=>e3 (c:=(⟨3,0,0,0,s.view,none,[],0,some ⟨q,0,none⟩,[(cX g (k+1:Nat) s.slot s.view (br x) s.ao)],1,cA⟩:aC).cs.toArray) j (λ_=>by kernel_rfl)) (aR 8 j ?_);have I:(⟨3,0,0,0,s.view,none,[],0,some ⟨q,0,none⟩,[(cX g (k+1:Nat) s.slot s.view (br x) s.ao)],1,cA⟩:aC).ok _:=⟨Rd.nil _ _,by have:=bn (C.aj (b:=q) a);simpa using this,by intro y J;rw [List.mem_singleton.1 J];exact m,j⟩;have h:=ui (aw:=aw) (s:=s) (c:=c) (C.aj a) (D.st a z) E I (b4 _) bG;refine cO j j j h (λr w⟨bg,F,i⟩=>?_);have a:=a.aL i;have a:C o d [bd g aw s c,R e (cX g (k+1:Nat) s.slot s.view (br x) s.ao).cs.toArray 55,n,bg] w:=a.as;refine an ⟨⟨_,a⟩,?_⟩;exact af 9 1 j (bK (aq 0 j j ⟨n,bg,F,G,a.as⟩))
 refine ew a j j (λe w a=>?_);obtain⟨l,a,B⟩:∃l:Array Value,C o d (R e l 55::_) w/\l.size=68:=⟨_,a,j⟩;have a:C o d [bd g aw s c,a7,R e l 55] w:=a.as;refine an ⟨⟨_,a⟩,?_⟩;refine aR 14 j ?_;have h:=nE (p:=x) (a.rd P H) (by omega) Q;refine cO j j j h (λr w⟨u,i⟩=>?_);have u:r= .agg (au (br x)).toArray:=u;subst u;have a:=a.aL i;have a:C o d ([bd g aw s c,a7,R e l 55]) w:=a.as;refine an ⟨⟨_,a⟩,?_⟩;refine aR 19 j ?_;have h:=oZ (D.st a z) E (k:=(k+1:Nat)) (s:=s.slot) (v:=s.view) (f:=s.ao) (eK x);refine bB j j j h (λw i=>?_);have a:=a.aL i;have a:C o d ([bd g aw s c,a7,R e l 55]) w:=a.as;refine an ⟨⟨_,a⟩,?_⟩;refine dA 21 j (c2 (a.bc e) j j j (by simpa using(cX g (k+1:Nat) s.slot s.view (br x) s.ao).one) (by rw [List.size_toArray];exact(cX g (k+1:Nat) s.slot s.view (br x) s.ao).len m) (by rw [B];decide) (λw a=>?_));have a:=C.whole (U:=(cX g (k+1:Nat) s.slot s.view (br x) s.ao).cs) a (by rw [(cX g (k+1:Nat) s.slot s.view (br x) s.ao).len m];exact B);have a:C o d [bd g aw s c,a7,R e (cX g (k+1:Nat) s.slot s.view (br x) s.ao).cs.toArray 55] w:=a.as;refine an (cU (bM 3 (U:=(cX g (k+1:Nat) s.slot s.view (br x) s.ao).cs) j j ((cX g (k+1:Nat) s.slot s.view (br x) s.ao).len m) (bn (C.aj a)) ?_));have h:=r6 (aw:=aw) (s:=s) (c:=c) aa (show(cX g (k+1:Nat) s.slot s.view (br x) s.ao).k=_ from j) m M O L a.ours;refine bp 0 h j (λw⟨n,G,i⟩=>?_);have a:=a.b2 i;have a:C o d [bd g aw s c,R e (cX g (k+1:Nat) s.slot s.view (br x) s.ao).cs.toArray 55,n] w:=a.as;have a:=a.drew;refine bt 1 j (λw=>∃ad,C o d ([bd g aw s c,R e (cX g (k+1:Nat) s.slot s.view (br x) s.ao).cs.toArray 55]++ad) w) ⟨_,a⟩ (af 0 4 j (a8 4 j a1 j (aT 5 j (λw⟨_,a⟩=>c4 (U:=(cX g (k+1:Nat) s.slot s.view (br x) s.ao).cs) j j ((cX g (k+1:Nat) s.slot s.view (br x) s.ao).len m) (bn (C.aj a))) (aR 6 j (gi (U:=(cX g (k+1:Nat) s.slot s.view (br x) s.ao).cs) a j j j ((cX g (k+1:Nat) s.slot s.view (br x) s.ao).len m) (by decide) (by decide) (λq w a=>?_))))));have a:C o d [bd g aw s c,R e (cX g (k+1:Nat) s.slot s.view (br x) s.ao).cs.toArray 55,R q (cX g (k+1:Nat) s.slot s.view (br x) s.ao).cs.toArray 55,n] w:=a.as;refine an ⟨⟨_,a⟩,?_⟩;refine aT 7 j (λw _=>e3 (c:=(⟨3,0,0,0,s.view,none,[],0,some ⟨q,0,none⟩,[(cX g (k+1:Nat) s.slot s.view (br x) s.ao)],1,cA⟩:aC).cs.toArray) j (λ_=>by kernel_rfl)) (aR 8 j ?_);have I:(⟨3,0,0,0,s.view,none,[],0,some ⟨q,0,none⟩,[(cX g (k+1:Nat) s.slot s.view (br x) s.ao)],1,cA⟩:aC).ok _:=⟨Rd.nil _ _,by have:=bn (C.aj (b:=q) a);simpa using this,by intro y J;rw [List.mem_singleton.1 J];exact m,j⟩;have h:=ui (aw:=aw) (s:=s) (c:=c) (C.aj a) (D.st a z) E I (b4 _) bG;refine cO j j j h (λr w⟨bg,F,i⟩=>?_);have a:=a.aL i;have a:C o d [bd g aw s c,R e (cX g (k+1:Nat) s.slot s.view (br x) s.ao).cs.toArray 55,n,bg] w:=a.as;refine an ⟨⟨_,a⟩,?_⟩;exact af 9 1 j (bK (aq 0 j j ⟨n,bg,F,G,a.as⟩))
theorem EI{o:World}{ez:FuncId}[Entry prog ez]{be:Array Value}{p:List UInt8->Bool}(s:∀(A:Option Addr)(x:List UInt8)(bQ:Nat),Rd o A (au x)->Calls prog ez (#[]++ #[.slice A x.length bQ]++be) o (λr w=>r= .bool (p x)/\w=o)){v:Value}{l:List (List UInt8)}{G:List Chunk}(n:ir v l G)(e:Holds o G):Calls prog 236 #[v,.func (.func ez) #[] be] o λr w=>(∃z:Int,r= .int .i64 z/\decide (z>=0)=l.any p)/\w=o:=by
 obtain⟨F,E,us,rfl,m,k⟩:=n;obtain⟨f,h,rfl,M,C,u,_⟩:=m.read e.left;refine a2 func236 ?_
 refine cJ 10 j (ct:=Nat) (λi=>[(0,.slice f l.length h),(1,.func (.func ez) #[] be),(7,.int .i64 (l.length:Nat)),(8,.int .i64 (i:Nat))])
  (λi w=>i<=l.length/\(l.take i).any p=false/\w=o) (λi=>l.length-i) 0 ⟨j,j,j,j,aX⟩ ⟨b4 _,j,j⟩ ?_
 rintro i w ⟨J,c,hw⟩;subst hw;refine b8 4 j j (λg=>?_) (λg=>?_)
 .have a:i<l.length:=by omega
  obtain⟨d,ci,B,K,L,y⟩:=k.read e.right i a;refine am 12 j (fp j j j j u (v:=.slice d l[i].length ci) (by rw [gG];exact B) a (λH I q=>?_));refine ar 0 j q (hL j j j j (s d l[i] ci y) (λr w⟨D,hw⟩=>?_));subst D;subst hw;refine bm 0 j j (λb=>?_) (λb=>?_)
  .refine aq 4 j j (⟨⟨_,j,?_⟩,j⟩);rw [je (by omega)];exact(ko.2 ⟨_,d9 a,b⟩).symm
  refine bq 2 j j j (cE i (by unfold maxLen at C;omega)) (bI 1 j (⟨i+1,⟨j,j,j,j,aX⟩,⟨a,?_,j⟩,by omega⟩));rw [fr a,rO,c];simp [b]
 refine aq 4 j j ?_;have t:i=l.length:=by omega
 rw [t,gj] at c;exact⟨⟨_,j,by rw [c];rfl⟩,j⟩
theorem xG{o:World}{ez:FuncId}[Entry prog ez]{be:Array Value}{p:List UInt8->Bool}(c:∀(A:Option Addr)(x:List UInt8)(bQ:Nat),Rd o A (au x)->Calls prog ez (#[]++ #[.slice A x.length bQ]++be) o (λr w=>r= .bool (p x)/\w=o)){v:Value}{l:List (List UInt8)}{G:List Chunk}(b:ir v l G)(a:Holds o G):Calls prog 220 #[v,.func (.func ez) #[] be] o λr w=>r= .bool (l.any p)/\w=o:=by
 refine a2 func220 (bk 7 (EI c b a) j (λr w⟨⟨z,d,e⟩,hw⟩=>?_));subst d;subst hw;exact aq 2 j j ⟨aG Value.bool e,j⟩
theorem Fb{o:World}{a:Nat}{A B:Option Addr}{xs da:List UInt8}{bQ d:Nat}(e:o.heap[a]? =some (.cells #[.slice B da.length d] 28 (0,0)))(b:Rd o A (au xs))(c:Rd o B (au da)):Calls prog 274 (#[]++ #[.slice A xs.length bQ]++ #[ab a]) o λr w=>r= .bool (decide (xs=da))/\w=o:=by
 refine a2 func274 (ar 6 j (ax e j) (bp 0 (qx b c) j (λw hw=>?_)));subst hw;exact aq 1 j j ⟨j,j⟩
theorem w7(l:List (List UInt8))(x:List UInt8):(l.any λy=>decide (y=x))=decide (x∈l):=by
 rw [na];simp only [ko,gd];exact⟨λ⟨y,a,b⟩=>b▸a,λh=>⟨x,h,j⟩⟩
theorem hY.app:∀{us c:List Value}{l bY:List (List UInt8)}{G a:List Chunk},hY us l G->hY c bY a->hY (us++c) (l++bY) (G++a)
 |[],_,[],_,_,_,h,b=>by have h:_=[]:=h;subst h;exact b
 |[],_,_::_,_,_,_,h,_=>h.elim
 |_::_,_,[],_,_,_,h,_=>h.elim
 |_::_,_,_::_,_,_,a,⟨ai,aA,rfl,hu,h⟩,b=>⟨ai,aA++a,by rw [dJ],hu,h.app b⟩
theorem hY.one{u:Value}{x:List UInt8}{G:List Chunk}(h:du u x G):hY [u] [x] G:=⟨G,[],by simp,h,j⟩
def qj(l:List (List UInt8))(x:List UInt8):List (List UInt8):=if x∈l then l else l++[x]
theorem ak.Fe(s:ak)(x:List UInt8):(s.jN x).dh=qj s.dh x:=by unfold ak.jN qj;split<;>rfl
theorem Fd{o:World}{aw:Nat}{g:al}{s:ak}{c:eZ}{c1:List Chunk}(n:ir c.dh s.dh c1)(M:s.dh.length<=1000000){A:Option Addr}{x:List UInt8}{bQ:Nat}(E:Rd o A (au x))(q:bT A (au x) (av [bd g aw s c,c1]))(N:x.length<=1000000)(a:Own [bd g aw s c,c1] o):Calls prog 241 #[ab aw,.slice A x.length bQ] o λr w=>r= .tuple #[]/\∃v1 v,ir v1 (qj s.dh x) v/\C o (av [bd g aw s c,c1]) [bd g aw s {c with dh:=v1},v] w:=by
 obtain⟨d,B⟩:∃d,d=av [bd g aw s c,c1]:=⟨_,j⟩;rw [<-B] at q⊢;have a:C o d [bd g aw s c,c1] o:=B▸a;refine a2 func241 (bL 2 a j j (λf w a=>?_));have a:C o d [R f #[.slice A x.length bQ] 28,bd g aw s c,c1] w:=a;refine ar 5 j (ax (C.aj a) j) (gZ j j j j ?_);have t:=xG (p:=λy=>decide (y=x)) (be:= #[ab f]) (ez:=274) (λgY e9 L F=>Fb (C.aj a) F (a.rd E q)) n (a.holds (by simp));refine bp 0 t j (λw hw=>?_);subst hw;refine bm 1 j j (λi=>?_) (λi=>?_)
 .have a:=a.drew;refine bt 0 j (λw=>∃ad,C o d ([R f #[.slice A x.length bQ] 28,bd g aw s c]++ad) w) ⟨_,a⟩ (af 0 4 j (a8 4 j a1 j (a8 5 j a1 j (aR 6 j ?_))));have t:=g2 (c:=bQ) (a.rd E q) (by omega);refine cO j j j t (λr w⟨e,m,I⟩=>?_);have a:=a.aL I;have a:C o d [R f #[.slice A x.length bQ] 28,bd g aw s c,c1,e] w:=a.as;refine an ⟨⟨_,a⟩,?_⟩;refine aR 7 j (eC (U:=[r]) a j j j j j (by simpa using m.one) bG (λl w a=>?_));have aJ:=bn (C.aj (b:=l) a);have a:C o d [R f #[.slice A x.length bQ] 28,bd g aw s c,c1,e,R l #[r] 28] w:=a.as;refine an ⟨⟨_,a⟩,?_⟩;refine aR 8 j ?_;obtain⟨z,h,us,rfl,H,G⟩:=n;have a:C o d [R f #[.slice A x.length bQ] 28,bd g aw s c,z,h,e,R l #[r] 28] w:=a.perm (by simp);refine dR (a.to z) H j j (by decide) j j j (news:=[r]) j aJ (by intro u hu;rw [List.mem_singleton.1 hu];exact m.one) (by omega) (by unfold maxLen;omega) (λv1 k w D a=>?_);have a:C o d [R f #[.slice A x.length bQ] 28,bd g aw s c,k,h,e] w:=a.as;refine an ⟨⟨_,a⟩,?_⟩;refine af 9 2 j (dA 11 j (cB (a.bc aw) j j j D.one bG (λw a=>?_)));have a:C o d (bd g aw s {c with dh:=v1}::_) w:=a;refine an (cU (aq 0 j j ?_));have J:x∉s.dh:=by rw [w7] at i;simpa using i
  unfold qj;rw [aI J];refine⟨j,v1,k++(h++e),⟨k,h++e,us++[r],j,?_,G.app (hY.one m)⟩,C.perm (A:=[bd g aw s {c with dh:=v1},k,h,e]) a.as (by simp)⟩;rw [b0,List.length_singleton];exact D
 refine aq 1 j j ?_;have K:x∈s.dh:=by rw [w7] at i;simpa using i
 unfold qj;rw [a6 K];exact⟨j,c.dh,c1,n,a.as⟩
theorem xV{o:World}{aw:Nat}{g:al}{s:ak}{c:eZ}{A B:Option Addr}{x:List UInt8}{l:List aE}{bQ d:Nat}(D:Rd o A (au x))(u:Rd o B (vcs l))(z:∀v∈l,v.ok)(E:x.length<=1000000)(y:l.length<=1000)(a:Own [bd g aw s c] o):Calls prog 245 #[ab aw,.slice A x.length bQ,.slice B l.length d] o λr w=>r= .tuple #[]/\∃v1 v2 e f,du v1 x e/\et v2 l f/\C o (av [bd g aw s c]) [bd g aw (s.gl x l) {c with value:=v1,dK:=v2},e,f] w:=by
 obtain⟨b,m⟩:∃b,b=av [bd g aw s c]:=⟨_,j⟩;rw [<-m];have a:C o b [bd g aw s c] o:=m▸a;refine a2 func245 ?_;have i:=g2 (c:=bQ) D (by omega);refine bk 5 i j (λh w⟨e,n,q⟩=>?_);have a:=a.aL q;have i:=lb (d:=d) (q.rd u (bT.of_nil _ _)) z y;refine bk 1 i j (λk w⟨f,p,t⟩=>?_);have a:=a.aL t;have a:C o b [bd g aw s c,e,f] w:=a.as;refine dF 2 a j j j n.one (λw a=>?_);have a:C o b (bd g aw s {c with value:=h}::_) w:=a;refine dF 2 a j j j p.one (λw a=>?_);have a:C o b (bd g aw s {c with value:=h,dK:=k}::_) w:=a;refine dF 2 a j j j j (λw a=>?_);have a:C o b (bd g aw (s.gl x l) {c with value:=h,dK:=k}::_) w:=a;exact aq 0 j j ⟨j,h,k,e,f,n,p,a⟩
theorem c7.isSome{α:Type}{V:Value->α->List Chunk->Prop}{m:List (Int×Value)}{t:List (Int×α)}{G:List Chunk}(h:c7 V m t G)(k:Int):(aZ m k).isSome=(aZ t k).isSome:=by
 cases aa:aZ t k with
 |none=>rw [h.nv aa];rfl
 |some a=>obtain⟨v,_,_,_,e,_⟩:=h.find aa;rw [e];rfl
theorem ak.Fc(s:ak)(x:List UInt8):(s.jN x).props=s.props:=by unfold ak.jN;split<;>rfl
theorem mx{β:Type}{m:List (Int×β)}{k:Int}(h:(aZ m k).isSome=false):aZ m k=none:=by cases aa:aZ m k with|none=>rfl|some _=>rw [aa] at h;cases h
theorem fA.apart{m:aC}{b:List Chunk}{ad:List (List Chunk)}{o w:World}{F:List Nat}(h:fA m b)(f:C o F (b::ad) w):bT m.A (au m.x) (av ad)/\bT m.B (vcs m.l) (av ad):=by
 obtain⟨ai,aA,rfl,d,_⟩:=h;have c:=f.split;obtain⟨_,_,e,_,_,_,g⟩:=d.x.rd c;cases e;obtain⟨_,_,e,_,_,_,i⟩:=d.l.rd c.f1;cases e;exact⟨g.sub (fI (by intro G a;simp [a])),i.sub (fI (by intro G a;simp [a]))⟩
theorem zY{o:World}{aw:Nat}{g:al}{s:ak}{c:eZ}{m:aC}{e:List Chunk}(E:fA m e)(N:m.P.cQ)(ap:0<=s.slot/\s.slot<=63)(ag:0<=m.v/\m.v<=8){bP c1:List Chunk}(V:jc c.props s.props bP)(B:ir c.dh s.dh c1)(Z:s.dh.length<=1000000)(Y:g.at o)(ai:g.ok)(Q:g.off (av [bd g aw s c,bP,c1,e]))(a:Own [bd g aw s c,bP,c1,e] o):Calls prog 198 #[ab aw,.agg m.cs.toArray] o λr w=>r= .tuple #[]/\∃v1 F p,jc c.props (s.gf g m.P).props F/\ir v1 (s.gf g m.P).dh p/\C o (av [bd g aw s c,bP,c1,e]) [bd g aw s {c with dh:=v1},F,p] w:=by
 obtain⟨b,ah,I,T,H,q,hm,n,rfl⟩:=V;have R:m.tag.length=32:=N.tag;have hw:=n.wide ki.wide;obtain⟨S,M,aa,ac⟩:=gD.get pC hw m.v;obtain⟨d,K⟩:∃d,d=av [bd g aw s c,ay 296 b ah I++H,c1,e]:=⟨_,j⟩;rw [<-K] at Q⊢;have a:C o d [bd g aw s c,ay 296 b ah I++H,c1,e] o:=K▸a;have a:C o d [bd g aw s c,ay 296 b ah I,H,c1,e] o:=a.perm (by simp);refine a2 func198 (bL 2 a j j (λh w a=>?_));have a:C o d [bf h m,bd g aw s c,ay 296 b ah I,H,c1,e] w:=a;have a:=a.drew;refine bt 2 j (λw=>∃ad,C o d ([bf h m,bd g aw s c]++ad) w) ⟨_,a⟩ (af 0 3 j (a8 3 j a1 (aG some q) (af 4 1 j (a8 5 j a1 m.fG (aO 6 10 j j ?_ ?_)))));have i:=n1 (k:=m.v) hw (dI.own (a.to (ay 296 b ah I)) hm);refine bB j j j i (λw l=>?_);have a:=a.aL l;have a:C o d ([bf h m,bd g aw s c]++_) w:=a.front;refine an ⟨⟨_,a⟩,?_⟩;refine af 7 2 j (iY 14 (.agg S.toArray) j M (af 9 1 j (aR 10 j (ew a j j (λJ w a=>?_)))));have a:C o d ([bf h m,bd g aw s c]++_) w:=a.front;refine an ⟨⟨_,a⟩,?_⟩;rotate_left
 refine ew a j j (λJ w a=>?_);have a:C o d ([bf h m,bd g aw s c]++_) w:=a.front;refine an ⟨⟨_,a⟩,?_⟩;refine aR 6 j ?_;have i:=n1 (k:=m.v) hw (dI.own (a.to (ay 296 b ah I)) hm);refine bB j j j i (λw l=>?_);have a:=a.aL l;have a:C o d ([bf h m,bd g aw s c]++_) w:=a.front;refine an ⟨⟨_,a⟩,?_⟩;refine af 7 2 j (iY 14 (.agg S.toArray) j M (af 9 1 j ?_));rotate_left
 all_goals
  refine aR 11 j (c2 (a.bc J) j j j ac aa (by decide) (λw a=>?_));have a:C o d ([bf h m,bd g aw s c]++_) w:=a.front;refine an ⟨⟨_,a⟩,?_⟩;refine af 12 1 j (bK (am 4 j (cT 17 j (λy=>?_) (λy=>?_))))
  .refine aq 9 j j ?_;have au:(aZ s.props m.v).isSome=true:=(n.isSome m.v).symm.trans y;have t:s.gf g m.P=s:=a6 (by rw [show m.P.v=m.v from j,au];rfl);rw [t];exact⟨j,c.dh,ay 296 b ah I++H,c1,⟨b,ah,I,T,H,q,hm,n,j⟩,B,C.perm (A:=[bd g aw s c,ay 296 b ah I,H,c1]) a.as (by simp)⟩
  refine ar 2 j (ax (C.aj a) m.aV) (ar 1 j (ax (C.aj a) m.fG) ?_);have i:=vm (aw:=aw) (s:=s) (c:=c) (C.aj a) (Y.st a Q) ai (node:=m.f) (view:=m.v) ap ag;refine bp 0 i j (λw l=>?_);have a:=a.aL l;refine bm 2 j j (λz=>?_) (λz=>?_)
  .refine aq 0 j j ?_;have D:s.leads g m.f m.v=false:=by simpa using z
   have t:s.gf g m.P=s:=a6 (by rw [show s.leads g m.P.f m.P.v=false from D];simp);rw [t];exact⟨j,c.dh,ay 296 b ah I++H,c1,⟨b,ah,I,T,H,q,hm,n,j⟩,B,C.perm (A:=[bd g aw s c,ay 296 b ah I,H,c1]) a.as (by simp)⟩
  have a:C o d [bf h m,bd g aw s c,ay 296 b ah I,H,c1,e] w:=a.as;have a:=a.drew;have O:aZ s.props m.v=none:=mx ((n.isSome m.v).symm.trans y);refine bt 2 j (λw=>∃ad,C o d ([bf h m,bd g aw s c]++ad) w) ⟨_,a⟩ (af 0 3 j (a8 3 j a1 (aG some q) (af 4 1 j (a8 5 j a1 m.fG (aT 6 j (λw⟨_,a⟩=>c4 (U:=m.cs) j j (m.bU R) (bn (C.aj a))) (aR 7 j ?_))))));have i:=we (k:=m.v) (m.bU R) m.one (a.ours (cC:=[ay 296 b ah I])) hm;refine bB j j j i (λw⟨u,ae,l⟩=>?_);have a:=a.b2 l;have a:C o d [bf h m,bd g aw s c,ay 296 b ah u,H,c1,e] w:=a.as;refine an ⟨⟨_,a⟩,?_⟩;refine bK (ar 3 j (ax (C.aj a) m.gk) ?_);have X:=(E.apart (a.to e)).1.sub (eL:=av [bd g aw s c,c1]) (fI (by intro G L;simp at L⊢;rcases L with rfl|rfl<;>simp));have ao:=(E.read (a.holds (by simp))).1.x;have i:=Fd (aw:=aw) (s:=s) (c:=c) (g:=g) (bQ:=m.c) B Z ao X (by have az:m.x.length<=200:=N.x;omega) a.ours;refine bp 0 i j (λw⟨v1,p,W,l⟩=>?_);have a:=a.b2 l;refine aq 0 j j ?_;have D:s.leads g m.f m.v=true:=by simpa using z
  have t:s.gf g m.P=({s with props:=cj s.props m.v m.P}:ak).jN m.x:=aI (by rw [show s.leads g m.P.f m.P.v=true from D,show aZ s.props m.P.v=none from O];simp);rw [t,ak.Fe,ak.Fc];exact⟨j,v1,ay 296 b ah u++(H++e),p,⟨b,ah,u,_,_,q,ae,n.add O ⟨m,j,j,E⟩,j⟩,W,C.perm (A:=[bd g aw s {c with dh:=v1},ay 296 b ah u,H,e,p]) a.as (by simp)⟩
theorem IE{o:World}{aw:Nat}{g:al}{s:ak}{c:eZ}{m:aC}{n:List Chunk}(ah:fA m n)(Q:m.P.cQ){bX bW:List Chunk}{N:Nat}(A:fv 336 ip c.cW s.cW bX)(B:fv 336 ip c.az s.az bW)(ai:∀p∈s.cW,fM g N p.2)(am:∀p∈s.az,fM g N p.2)(X:N<=1000000)(Y:g.at o)(aa:g.ok)(S:g.off (av [bd g aw s c,bX,bW,n]))(a:Own [bd g aw s c,bX,bW,n] o):Calls prog 199 #[ab aw,.agg m.cs.toArray] o λr w=>r= .tuple #[]/\∃T V,fv 336 ip c.cW (s.dk g m.P).cW T/\fv 336 ip c.az (s.dk g m.P).az V/\C o (av [bd g aw s c,bX,bW,n]) [bd g aw s c,T,V] w:=by
 obtain⟨i,W⟩:∃i,i=av [bd g aw s c,bX,bW,n]:=⟨_,j⟩;rw [<-W] at S⊢;have a:C o i [bd g aw s c,bX,bW,n] o:=W▸a;have ay:m.tag.length=32:=Q.tag;refine a2 func199 (bL 2 a j j (λG w a=>?_));have a:C o i [bf G m,bd g aw s c,bX,bW,n] w:=a;refine ar 4 j (ax (C.aj a) m.eU) (bm 2 j j (λeD=>?_) (λeD=>?_))
 .refine aq 0 j j ?_;have h:m.P.l=[]:=y0 eD;have e:s.dk g m.P=s:=by unfold ak.dk;rw [h]
  rw [e];exact⟨j,bX,bW,A,B,a.as⟩
 obtain⟨v,q,h⟩:=yZ eD;have d:v.ok:=Q.aH v (by show v∈m.l;rw [h];simp);have Z:∀x∈v::q,x.ok:=λx ao=>Q.aH x (by show x∈m.l;rw [h];exact ao)
 refine ar 4 j (ax (C.aj a) m.eU) ?_;have L:=(ah.read (a.holds (by simp))).1.l;rw [h] at L;refine fp j j j j L (v:=ae v.k) (ol (v::q) Z 0 (by simp)) (J:=0) (by rw [h];simp) (λap ac au=>?_);rw [ac] at L;refine bM 0 j j (v.len d) (om L Z 0 (by simp)) (b7 0 a j (λH w a=>c2 (a.bc H) j j j (by simpa using v.one) (by rw [List.size_toArray];exact v.len d) (by decide) (λw a=>?_)));have a:=C.whole (U:=v.cs) a (by rw [v.len d];rfl);have a:C o i [R H v.cs.toArray 55,bf G m,bd g aw s c,bX,bW,n] w:=a.as;have a:=a.drew;refine bt 1 j (λw=>∃ad,C o i ([R H v.cs.toArray 55,bf G m,bd g aw s c]++ad) w) ⟨_,a⟩ (af 0 1 j (a8 1 j a1 v.gJ (af 2 2 j (ef 16 j (λI=>?_) (λI=>?_)))))
 .refine af 4 6 j (a8 10 j a1 v.aV (af 11 3 j (a8 14 j a1 j (af 15 3 j (ef 30 j (λu=>?_) (λu=>?_))))))
  .refine af 18 1 j (a8 19 j a1 (v.eo d) (af 20 1 j (a8 21 j a1 m.aV (af 22 3 j (ef 37 j (λy=>?_) (λy=>?_))))));refine af 25 3 j (a8 28 j a1 j (aT 29 j (λw⟨_,a⟩=>c4 (U:=v.cs) j j (v.len d) (bn (C.aj a))) (aR 30 j ?_)));have D:=so (Y.st a S) aa d;refine bB j j j D (λw E=>?_);have a:=a.aL E;have a:C o i [R H v.cs.toArray 55,bf G m,bd g aw s c,bX,bW,n] w:=a.as;refine an ⟨⟨_,a⟩,?_⟩;refine af 31 1 j (bK (bm 0 j j (λz=>?_) (λz=>?_)))
   .refine bM 2 (U:=v.cs) j j (v.len d) (bn (C.aj a)) ?_;have D:=r6 (aw:=aw) (s:=s) (c:=c) (k:=0) (t:=s.cW) (by decide) (d5.1 I) d A ai X a.ours;refine bp 0 D j (λw⟨F,M,E⟩=>?_);have a:=a.b2 E;have a:C o i [bd g aw s c,F,bW] w:=a.as;refine aq 0 j j ?_;have b:s.hW g m.P v=true:=by unfold ak.hW;rw [show _root_.Go.Proofs.YtngjfjhomikplaaGreatDoor.R.cQ g v=true from z,show(v.f==m.P.f)=true from y,show(v.s==s.slot)=true from u,show(v.k==1)=true from I];rfl
    have e:s.dk g m.P=s.counts v:=by
     unfold ak.dk;rw [show m.P.l=v::q from h];exact a6 b
    have O:s.counts v={s with cW:=cj s.cW v.v (iW (s.iy 1 v.v) v)}:=a6 (d5.1 I);rw [e,O];exact⟨j,F,bW,M,B,a⟩
   refine aq 1 j j ?_;have b:s.hW g m.P v=false:=by unfold ak.hW;rw [show _root_.Go.Proofs.YtngjfjhomikplaaGreatDoor.R.cQ g v=false from z];simp
   rotate_left
   refine af 25 7 j (bK (aq 2 j j ?_));have b:s.hW g m.P v=false:=by unfold ak.hW;rw [show(v.f==m.P.f)=false from y];simp
   rotate_left
   all_goals
    have e:s.dk g m.P=s:=by
     unfold ak.dk;rw [show m.P.l=v::q from h];exact aI (by rw [b];decide)
    rw [e];exact⟨j,bX,bW,A,B,a.as⟩
  refine af 18 14 j (bK (aq 2 j j ?_));have b:s.hW g m.P v=false:=by unfold ak.hW;rw [show(v.s==s.slot)=false from u];simp
  have e:s.dk g m.P=s:=by
   unfold ak.dk;rw [show m.P.l=v::q from h];exact aI (by rw [b];decide)
  rw [e];exact⟨j,bX,bW,A,B,a.as⟩
 refine af 4 1 j (a8 5 j a1 v.gJ (af 6 3 j (ef 21 j (λK=>?_) (λK=>?_))));refine af 9 1 j (a8 10 j a1 v.aV (af 11 3 j (a8 14 j a1 j (af 15 3 j (ef 30 j (λu=>?_) (λu=>?_))))))
 .refine af 18 1 j (a8 19 j a1 (v.eo d) (af 20 1 j (a8 21 j a1 m.aV (af 22 3 j (ef 37 j (λy=>?_) (λy=>?_))))));refine af 25 3 j (a8 28 j a1 j (aT 29 j (λw⟨_,a⟩=>c4 (U:=v.cs) j j (v.len d) (bn (C.aj a))) (aR 30 j ?_)));have D:=so (Y.st a S) aa d;refine bB j j j D (λw E=>?_);have a:=a.aL E;have a:C o i [R H v.cs.toArray 55,bf G m,bd g aw s c,bX,bW,n] w:=a.as;refine an ⟨⟨_,a⟩,?_⟩;refine af 31 1 j (bK (bm 0 j j (λz=>?_) (λz=>?_)))
  .refine bM 2 (U:=v.cs) j j (v.len d) (bn (C.aj a)) ?_;have D:=r6 (aw:=aw) (s:=s) (c:=c) (k:=1) (t:=s.az) (by decide) (d5.1 K) d B am X a.ours;refine bp 0 D j (λw⟨F,M,E⟩=>?_);have a:=a.b2 E;have a:C o i [bd g aw s c,bX,F] w:=a.as;refine aq 0 j j ?_;have b:s.hW g m.P v=true:=by unfold ak.hW;rw [show _root_.Go.Proofs.YtngjfjhomikplaaGreatDoor.R.cQ g v=true from z,show(v.f==m.P.f)=true from y,show(v.s==s.slot)=true from u,show(v.k==2)=true from K];simp
   have e:s.dk g m.P=s.counts v:=by
    unfold ak.dk;rw [show m.P.l=v::q from h];exact a6 b
   have O:s.counts v={s with az:=cj s.az v.v (iW (s.iy 2 v.v) v)}:=aI (by rw [d5.1 K];decide);rw [e,O];exact⟨j,bX,F,A,M,a⟩
  refine aq 1 j j ?_;have b:s.hW g m.P v=false:=by unfold ak.hW;rw [show _root_.Go.Proofs.YtngjfjhomikplaaGreatDoor.R.cQ g v=false from z];simp
  rotate_left
  refine af 25 7 j (bK (aq 2 j j ?_));have b:s.hW g m.P v=false:=by unfold ak.hW;rw [show(v.f==m.P.f)=false from y];simp
  rotate_left
  all_goals
   have e:s.dk g m.P=s:=by
    unfold ak.dk;rw [show m.P.l=v::q from h];exact aI (by rw [b];decide)
   rw [e];exact⟨j,bX,bW,A,B,a.as⟩
 refine af 18 14 j (bK (aq 2 j j ?_));have b:s.hW g m.P v=false:=by unfold ak.hW;rw [show(v.s==s.slot)=false from u];simp
 rotate_left
 refine af 9 23 j (bK (aq 2 j j ?_));have b:s.hW g m.P v=false:=by unfold ak.hW;rw [show(v.k==1)=false from I,show(v.k==2)=false from K];rfl
 rotate_left
 all_goals
  have e:s.dk g m.P=s:=by
   unfold ak.dk;rw [show m.P.l=v::q from h];exact aI (by rw [b];decide)
  rw [e];exact⟨j,bX,bW,A,B,a.as⟩
theorem AK{m:List (Int×Value)}{t:List (Int×List (Int×aW))}{G:List Chunk}(h:c7 jc m t G)(k:Int):∃p,(aZ m k).getD wu= .pointer p/\((p=none/\aZ t k=none)\/
 ∃a ah I b l H ai aA,p=some ⟨a,0,none⟩/\aZ t k=some l/\cg bN I b/\c7 ki b l H/\G=ai++((ay 296 a ah I++H)++aA)/\∀bY c,jc (ab a) bY c->c7 jc m (cj t k bY) (ai++(c++aA))):=by
 cases aa:aZ t k with
 |none=>rw [h.nv aa];exact⟨none,j,.inl ⟨j,j⟩⟩
 |some l=>
  obtain⟨v,ai,i,aA,e,rfl,⟨a,ah,I,b,H,rfl,d,g,rfl⟩,f⟩:=h.find aa;rw [e];exact⟨_,j,.inr ⟨a,ah,I,b,l,H,ai,aA,j,j,d,g,j,f⟩⟩
theorem AH{o:World}{aw:Nat}{g:al}{s:ak}{c:eZ}{m:aC}{d:List Chunk}(aH:fA m d)(aF:m.P.cQ)(aP:0<=s.slot/\s.slot<=63)(aJ:0<=m.v/\m.v<=8){cf:List Chunk}(ap:fv 333 jc c.dj s.dj cf)(az:g.at o)(aM:g.ok)(aa:g.off (av [bd g aw s c,cf,d]))(a:Own [bd g aw s c,cf,d] o):Calls prog 200 #[ab aw,.agg m.cs.toArray] o λr w=>r= .tuple #[]/\∃W,fv 333 jc c.dj (s.status g m.P).dj W/\C o (av [bd g aw s c,cf,d]) [bd g aw s c,W] w:=by
 obtain⟨b,ah,I,ae,H,F,hm,M,rfl⟩:=ap;have ac:m.tag.length=32:=aF.tag;obtain⟨l,Y⟩:∃l,l=av [bd g aw s c,ay 333 b ah I++H,d]:=⟨_,j⟩;rw [<-Y] at aa⊢;have a:C o l [bd g aw s c,ay 333 b ah I++H,d] o:=Y▸a;have a:C o l [bd g aw s c,ay 333 b ah I,H,d] o:=a.perm (by simp);refine a2 func200 (bL 2 a j j (λq w a=>?_));have a:C o l [bf q m,bd g aw s c,ay 333 b ah I,H,d] w:=a;have a:=a.drew;refine bt 2 j (λw=>∃ad,C o l ([bf q m,bd g aw s c]++ad) w) ⟨_,a⟩ (af 0 4 j (a8 4 j a1 j (af 5 1 j (a8 6 j a1 m.fG (aR 7 j ?_)))));have z:=vm (aw:=aw) (s:=s) (c:=c) (C.aj a) (az.st a aa) aM (node:=s.ao) (view:=m.v) aP aJ;refine bB j j j z (λw y=>?_);have a:=a.aL y;have a:C o l [bf q m,bd g aw s c,ay 333 b ah I,H,d] w:=a.as;refine an ⟨⟨_,a⟩,?_⟩;refine af 8 1 j (bK (bm 0 j j (λN=>?_) (λN=>?_)))
 .refine aq 0 j j ?_;have G:s.leads g s.ao m.P.v=false:=by simpa using N
  have L:s.status g m.P=s:=aI (by rw [G];decide);rw [L];exact⟨j,ay 333 b ah I++H,⟨b,ah,I,ae,H,F,hm,M,j⟩,C.perm (A:=[bd g aw s c,ay 333 b ah I,H]) a.as (by simp)⟩
 have a:C o l [bf q m,bd g aw s c,ay 333 b ah I,H,d] w:=a.as;have a:=a.drew;refine bt 2 j (λw=>∃ad,C o l ([bf q m,bd g aw s c]++ad) w) ⟨_,a⟩ (af 0 3 j (a8 3 j a1 (aG some F) (af 4 1 j (a8 5 j a1 m.fG (aR 6 j ?_)))));have z:=yu (k:=m.v) (dI.own (a.to (ay 333 b ah I)) hm);refine bB j j j z (λw y=>?_);have a:=a.aL y;have a:C o l [bf q m,bd g aw s c,ay 333 b ah I,H,d] w:=a.as;obtain⟨p,aN,au⟩:=AK M m.v;refine an ⟨⟨_,a⟩,?_⟩;refine af 7 2 j (iY 25 (.pointer p) j aN (af 9 3 j (bK (bm 5 j j (λO=>?_) (λO=>?_)))));refine bk 2 vD j (λr w⟨e,n,aO,aK,y⟩=>?_);subst aO;have a:=a.aL y;have a:C o l [bf q m,bd g aw s c,ay 333 b ah I,H,d,ay 296 e n (.map #[] 0)] w:=a.as;have a:=a.drew;refine bt 1 j (λw=>∃ad,C o l ([bf q m,bd g aw s c]++ad) w) ⟨_,a⟩ (af 0 3 j (a8 3 j a1 (aG some F) (af 4 1 j (a8 5 j a1 m.fG (af 6 1 j (aR 7 j ?_))))));have z:=HF (k:=m.v) (v:=ab e) (a.ours (cC:=[ay 333 b ah I])) hm;refine bB j j j z (λw⟨i,J,y⟩=>?_);have a:=a.b2 y;have a:C o l [bf q m,bd g aw s c,ay 333 b ah i,H,d,ay 296 e n (.map #[] 0)] w:=a.as;refine an ⟨⟨_,a⟩,?_⟩;refine bK ?_;have Z:aZ s.dj m.v=none:=mx ((M.isSome m.v).symm.trans (by simpa using O))
 obtain⟨B,i,u,R,dC,H1,x,t,J,Q,E,T,K,a⟩:∃B i u R dC H1 x t,cg bN i B/\cg bN u R/\c7 ki R dC x/\(aZ s.dj m.v).getD []=dC/\(∀bY D,jc (ab e) bY D->c7 jc B (cj s.dj m.v bY) (H1++(D++t)))/\C o l [bf q m,bd g aw s c,ay 333 b ah i,H1,ay 296 e n u,x,t,d] w:=
  ⟨_,i,_,[],[],H,[],[],J,aK,j,by rw [Z];rfl,λbY D h=>by rw [hc];exact M.add Z h,C.perm (A:=[bf q m,bd g aw s c,ay 333 b ah i,H,ay 296 e n (.map #[] 0),d]) a.as (by simp)⟩
 refine ar 4 j (ax (C.aj a) m.aV) ?_;rotate_left
 obtain⟨e,n,u,R,dC,x,H1,t,rfl,aQ,Q,E,ai,K⟩:=au.resolve_left (λh=>by have X:=M.isSome m.v;rw [h.2] at X;rw [X] at O;cases O);rw [ai] at a;obtain⟨i,B,J,K,a⟩:∃i B,cg bN i B/\(∀bY D,jc (ab e) bY D->c7 jc B (cj s.dj m.v bY) (H1++(D++t)))/\C o l [bf q m,bd g aw s c,ay 333 b ah i,H1,ay 296 e n u,x,t,d] w:=⟨I,ae,hm,K,C.perm (A:=[bf q m,bd g aw s c,ay 333 b ah I,H1++((ay 296 e n u++x)++t),d]) a.as (by simp)⟩;have T:(aZ s.dj m.v).getD []=dC:=by rw [aQ];rfl
 refine ar 5 j (ax (C.aj a) m.aV) ?_;rotate_left
 all_goals
  have hw:=E.wide ki.wide;obtain⟨aS,aA,aB,aD⟩:=gD.get pC hw m.f;have z:=n1 (k:=m.f) hw (dI.own (a.to (ay 296 e n u)) Q);refine bp 0 z j (λw y=>?_);have a:=a.aL y;refine am 2 j (bS 43 (.agg aS.toArray) j aA ?_);refine b7 1 a j (λag w a=>c2 (a.bc ag) j j j aD aB (by decide) (λw a=>?_));have a:C o l [bf q m,bd g aw s c,ay 333 b ah i,H1,ay 296 e n u,x,t,d] w:=a.as;refine bm 5 j j (λS=>?_) (λS=>?_)
  .refine ar 3 j (ax (C.aj a) m.aV) (bM 0 (U:=m.cs) j j (m.bU ac) (bn (C.aj a)) ?_);have z:=we (k:=m.f) (m.bU ac) m.one (a.ours (cC:=[ay 296 e n u])) Q;refine bp 0 z j (λw⟨V,aE,y⟩=>?_);have a:=a.b2 y;refine aq 0 j j ?_;have G:s.leads g s.ao m.P.v=true:=by simpa using N
   have bw:(aZ dC m.f).isSome=false:=(E.isSome m.f).symm.trans (by simpa using S)
   have L:s.status g m.P={s with dj:=cj s.dj m.v (cj dC m.f m.P)}:=by
    unfold ak.status;rw [a6 G,show(aZ s.dj m.P.v).getD []=dC from T];rw [show(aZ dC m.P.f).isSome=false from bw];rfl
   rw [L];refine⟨j,ay 333 b ah i++(H1++((ay 296 e n V++(x++d))++t)),⟨b,ah,i,B,_,F,J,K _ _ ⟨e,n,V,_,_,j,aE,E.add (mx bw) ⟨m,j,j,aH⟩,j⟩,j⟩,C.perm (A:=[bd g aw s c,ay 333 b ah i,H1,ay 296 e n V,x,d,t]) a.as (by simp)⟩
  refine aq 1 j j ?_;have G:s.leads g s.ao m.P.v=true:=by simpa using N
  have bw:(aZ dC m.f).isSome=true:=(E.isSome m.f).symm.trans (by simpa using S)
  have L:s.status g m.P={s with dj:=cj s.dj m.v (dC)}:=by
   unfold ak.status;rw [a6 G,show(aZ s.dj m.P.v).getD []=dC from T];rw [show(aZ dC m.P.f).isSome=true from bw];rfl
  rw [L];refine⟨j,ay 333 b ah i++(H1++((ay 296 e n u++(x))++t)),⟨b,ah,i,B,_,F,J,K _ _ ⟨e,n,u,_,_,j,Q,E,j⟩,j⟩,C.perm (A:=[bd g aw s c,ay 333 b ah i,H1,ay 296 e n u,x,t]) a.as (by simp)⟩
theorem DL{o:World}{aw:Nat}{g:al}{s:ak}{c:eZ}{m:aC}{b:List Chunk}(k:fA m b)(y:m.P.cQ){ca b9:List Chunk}(G:du c.value s.value ca)(F:et c.dK s.dK b9)(T:g.at o)(V:g.ok)(K:g.off (av [bd g aw s c,ca,b9,b]))(a:Own [bd g aw s c,ca,b9,b] o):Calls prog 201 #[ab aw,.agg m.cs.toArray] o λr w=>r= .tuple #[]/\∃v1 v2 E D,du v1 (s.decision g m.P).value E/\et v2 (s.decision g m.P).dK D/\C o (av [bd g aw s c,ca,b9,b]) [bd g aw (s.decision g m.P) {c with value:=v1,dK:=v2},E,D] w:=by
 obtain⟨i,I⟩:∃i,i=av [bd g aw s c,ca,b9,b]:=⟨_,j⟩;rw [<-I] at K⊢;have a:C o i [bd g aw s c,ca,b9,b] o:=I▸a;have Z:m.tag.length=32:=y.tag;obtain⟨W,U,_,S⟩:=k.uA;have aa:m.x.length<=200:=y.x;have Y:m.l.length<=10:=y.l;refine a2 func201 (bL 2 a j j (λn w a=>?_));have a:C o i [bf n m,bd g aw s c,b,ca,b9] w:=C.as (ad:=bf n m::[bd g aw s c,ca,b9,b]) a;have a:=a.drew;refine bt 1 j (λw=>∃ad,C o i ([bf n m,bd g aw s c,b]++ad) w) ⟨_,a⟩ (af 0 1 j (a8 1 j a1 m.eU (af 2 3 j (ef 8 j (λeD=>?_) (λeD=>?_)))))
 .obtain⟨v,f,e⟩:∃v f,m.l=v::f:=by
   cases hm:m.l with
   |nil=>rw [hm] at eD;cases eD
   |cons v f=>exact⟨v,f,j⟩
  obtain⟨O,X,H⟩:=u0 S (show Rd _ m.B ((v::f).flatMap aE.cs) by have h:=(k.read (a.holds (by simp))).1.l;rw [e] at h;exact h);refine af 5 3 j (a8 8 j a1 j (af 9 1 j (a8 10 j a1 m.eU (af 11 3 j (a8 14 j a1 j (af 15 1 j (a8 16 j a1 m.eU (iY 20 (.slice (some ⟨O,X,none⟩) m.l.length m.d) j (by rw [H]) (aT 17 j (λw _=>gA (J:=0) j j (by rw [e];simp)) (af 18 1 j (bR 19 j (λw⟨_,a⟩=>rh (by have h:=(k.read (a.holds (by simp))).1.l;rw [e,H] at h;exact h)) (af 20 1 j (a8 21 j a1 m.gk (aR 22 j ?_))))))))))))));have q:=nE (p:=m.x) (k.read (a.holds (by simp))).1.x (by omega) W;refine cO j j j q (λr w⟨A,u⟩=>?_);have A:r= .agg (au (br m.x)).toArray:=A;subst A;have a:=a.aL u;have a:C o i [bf n m,bd g aw s c,b,ca,b9] w:=a.as;refine an ⟨⟨_,a⟩,?_⟩;refine aR 23 j ?_;have q:=vs (g:=g) (B:=m.B) (l:=m.l) (d:=m.d) (kind:=2) (slot:=s.slot) (view:=v.v) (sum:=br m.x) V y.aH (eK _) U (by omega) ⟨T.st a K,(k.read (a.holds (by simp))).1.l,al.off.nil g,bT.of_nil _ _⟩;refine bB j j j q (λw u=>?_);have a:=a.aL u;have a:C o i [bf n m,bd g aw s c,b,ca,b9] w:=a.as;refine an ⟨⟨_,a⟩,?_⟩;refine af 24 1 j (bK (bm 0 j j (λz=>?_) (λz=>?_)))
  .refine ar 3 j (ax (C.aj a) m.gk) (ar 1 j (ax (C.aj a) m.eU) ?_);have L:=(k.read (a.holds (by simp))).1;have q:=xV (aw:=aw) (g:=g) (s:=s) (c:=c) (bQ:=m.c) (d:=m.d) L.x L.l y.aH (by omega) (by omega) a.ours;refine bp 0 q j (λw⟨v1,v2,M,N,Q,R,u⟩=>?_);have a:=a.b2 u;refine aq 0 j j ?_
   have t:s.decision g m.P=s.gl m.x m.l:=by
    unfold ak.decision;rw [show m.P.l=v::f from e];exact(a6 (by rw [<-e];exact z)).trans (by rw [<-e])
   rw [t];exact⟨j,v1,v2,M,N,Q,R,a.as⟩
  refine aq 1 j j ?_
  have t:s.decision g m.P=s:=by
   unfold ak.decision;rw [show m.P.l=v::f from e];exact aI (by rw [<-e];show¬meets g m.l 2 s.slot v.v (br m.x)=true;rw [z];decide)
  rw [t];exact⟨j,c.value,c.dK,ca,b9,G,F,a.as⟩
 refine af 5 20 j (bK (aq 2 j j ?_))
 have e:m.P.l=[]:=by
  cases hm:m.l with
  |nil=>exact hm
  |cons v f=>rw [hm] at eD;simp at eD
 have t:s.decision g m.P=s:=by unfold ak.decision;rw [e]
 rw [t];exact⟨j,c.value,c.dK,ca,b9,G,F,a.as⟩
def fB(g:al)(aw:Nat)(s:ak)(G:List Chunk):Prop:=∃(c:eZ)(ai aA bl cv cd bX bW cf ca b9:List Chunk),tT s c ai aA bl cv cd bX bW cf ca b9/\G=bd g aw s c++(ai++(aA++(bl++(cv++(cd++(bX++(bW++(cf++(ca++b9)))))))))
theorem C.oa{g:al}{aw:Nat}{s:ak}{c:eZ}{ai aA bl cv cd bX bW cf ca b9:List Chunk}{ad:List (List Chunk)}{o w:World}{F:List Nat}(h:C o F ((bd g aw s c++(ai++(aA++(bl++(cv++(cd++(bX++(bW++(cf++(ca++b9))))))))))::ad) w):C o F (bd g aw s c::ai::aA::bl::cv::cd::bX::bW::cf::ca::b9::ad) w:=h.perm (by simp)
theorem C.gw{g:al}{aw:Nat}{s:ak}{c:eZ}{ai aA bl cv cd bX bW cf ca b9:List Chunk}{ad:List (List Chunk)}{o w:World}{F:List Nat}(h:C o F (bd g aw s c::ai::aA::bl::cv::cd::bX::bW::cf::ca::b9::ad) w):C o F ((bd g aw s c++(ai++(aA++(bl++(cv++(cd++(bX++(bW++(cf++(ca++b9))))))))))::ad) w:=h.perm (by simp)
theorem qI{ad cC ag:List (List Chunk)}[h:kH ad cC ag]:∀b∈av cC,b∈av ad:=λb a=>by
 obtain⟨I,c⟩:=n8.1 a;refine n8.2 ⟨I,(h.perm.flatten.mem_iff).2 ?_⟩;rw [hb];exact dv.2 (.inl c)
theorem C.eF{ad cC ag:List (List Chunk)}[h:kH ad cC ag]{g:al}{o w:World}{F:List Nat}(a:C o F ad w)(b:g.at o)(c:g.off F):g.off (av cC):=(b.apart a c).sub qI
theorem C.qm{ad cC ag:List (List Chunk)}[h:kH ad cC ag]{A:Option Addr}{U:List Value}(a:bT A U (av ad)):bT A U (av cC):=a.sub qI
theorem A6(g:al)(s:ak)(x:List UInt8):(s.aH g 1 x).1={s with cW:=cj s.cW s.view (iW ((aZ s.cW s.view).getD []) (cX g 1 s.slot s.view (br x) s.ao))}:=by
 unfold ak.aH ak.counts;dsimp only;rw [a6 (show(cX g 1 s.slot s.view (br x) s.ao).k=1 from j)];rfl
theorem A7(g:al)(s:ak)(x:List UInt8):(s.aH g 2 x).1={s with az:=cj s.az s.view (iW ((aZ s.az s.view).getD []) (cX g 2 s.slot s.view (br x) s.ao))}:=by
 unfold ak.aH ak.counts;dsimp only;rw [aI (show¬(cX g 2 s.slot s.view (br x) s.ao).k=1 from by show¬(2:Int)=1;decide)];rfl
theorem FC(g:al)(s:ak)(c:eZ){w:World}{aw:Nat}{e:TypeId}{e6:Nat×Nat}(h:w.heap[aw]? =some (.cells (kc g s c).toArray e e6)):Rd w (some ⟨aw,0+4,none⟩) [ae s.fX,c.dH,c.c3]:=λi v a=>⟨_,j,by
 rw [add_lit];refine ax h ?_
 match i,a with
 |0,a=>exact a
 |1,a=>exact a
 |2,a=>exact a⟩
theorem GP{o:World}{aw:Nat}{g:al}{s:ak}{G:List Chunk}(aC:fB g aw s G){N:Nat}(E:s.ok g N)(aB:N<=1000000)(Y:g.at o)(am:g.ok)(O:g.off (av [G]))(a:Own [G] o):Calls prog 247 #[ab aw] o λr w=>∃v bg ai,r= .tuple #[v,.bool (s.gz g).isSome]/\cw v (((s.gz g).map Prod.snd).getD []) bg/\fB g aw (((s.gz g).map Prod.fst).getD s) ai/\C o (av [G]) [ai,bg] w:=by
 obtain⟨c,ai,aA,bl,cv,cd,bX,bW,cf,ca,b9,n,rfl⟩:=aC;obtain⟨f,ac⟩:∃f,f=av [bd g aw s c++(ai++(aA++(bl++(cv++(cd++(bX++(bW++(cf++(ca++b9)))))))))]:=⟨_,j⟩;rw [<-ac] at O⊢;have a:C o f [bd g aw s c++(ai++(aA++(bl++(cv++(cd++(bX++(bW++(cf++(ca++b9)))))))))] o:=ac▸a;have a:=a.oa;obtain⟨e,ah,I,a9,H,aF,hm,Q,au⟩:=n.props;subst au;have a:C o f [bd g aw s c,ay 296 e ah I,H,ai,aA,bl,cd,bX,bW,cf,ca,b9] o:=C.perm (A:=[bd g aw s c,ay 296 e ah I++H,ai,aA,bl,cd,bX,bW,cf,ca,b9]) a.as (by simp);have hw:=Q.wide ki.wide;obtain⟨p,L,ag,aQ⟩:=gD.get pC hw s.view;refine a2 func247 ?_;have a:=a.drew;refine bt 5 j (λw=>∃ad,C o f ([bd g aw s c]++ad) w) ⟨_,a⟩ (af 0 3 j (a8 3 j a1 (aG some aF) (af 4 3 j (a8 7 j a1 j (aO 8 12 j j ?_ ?_)))));have t:=n1 (k:=s.view) hw (dI.own (a.to (ay 296 e ah I)) hm);refine bB j j j t (λw u=>?_);have a:=a.aL u;have a:C o f ([bd g aw s c]++_) w:=a.front;refine an ⟨⟨_,a⟩,?_⟩;refine af 9 2 j (iY 16 (.agg p.toArray) j L (af 11 1 j (aR 12 j (ew a j j (λy w a=>?_)))));have a:C o f ([bd g aw s c]++_) w:=a.front;refine an ⟨⟨_,a⟩,?_⟩;rotate_left
 refine ew a j j (λy w a=>?_);have a:C o f ([bd g aw s c]++_) w:=a.front;refine an ⟨⟨_,a⟩,?_⟩;refine aR 8 j ?_;have t:=n1 (k:=s.view) hw (dI.own (a.to (ay 296 e ah I)) hm);refine bB j j j t (λw u=>?_);have a:=a.aL u;have a:C o f ([bd g aw s c]++_) w:=a.front;refine an ⟨⟨_,a⟩,?_⟩;refine af 9 2 j (iY 16 (.agg p.toArray) j L (af 11 1 j ?_));rotate_left
 all_goals
  refine aR 13 j (c2 (a.bc y) j j j aQ ag (by decide) (λw a=>?_));have a:=C.whole (U:=p) a (by rw [ag];rfl);have a:C o f [bd g aw s c,R y p.toArray 53,ay 296 e ah I,H,ai,aA,bl,cd,bX,bW,cf,ca,b9] w:=a.as;refine an ⟨⟨_,a⟩,?_⟩;refine af 14 1 j (bK ?_);have a:C o f [bd g aw s c,R y p.toArray 53,H,ai,aA,ay 296 e ah I,bl,cd,bX,bW,cf,ca,b9] w:=a.as;have a:=a.drew;refine bt 2 j (λw=>∃ad,C o f ([bd g aw s c,R y p.toArray 53,H,ai,aA]++ad) w) ⟨_,a⟩ (af 0 3 j (ef 20 j (λJ=>?_) (λJ=>?_)))
  .refine af 3 34 j (bK (aq 5 j j ?_));have a:C o f [bd g aw s c,ai,aA,bl,ay 296 e ah I++(H),cd,bX,bW,cf,ca,b9] _:=C.perm (A:=[bd g aw s c,ai,aA,bl,ay 296 e ah I,H,cd,bX,bW,cf,ca,b9]) a.as (by simp)
   have D:s.gz g=none:=by
    unfold ak.gz;rw [show aZ s.props s.view=none from mx ((Q.isSome s.view).symm.trans (by simpa using J))]
   rw [D];exact⟨_,[],_,j,cw.nil,⟨c,ai,aA,bl,ay 296 e ah I++(H),cd,bX,bW,cf,ca,b9,n,j⟩,(C.gw a).empty.f1⟩
  obtain⟨q,F⟩:∃q,aZ s.props s.view=some q:=by
   have z:=Q.isSome s.view;cases ap:aZ s.props s.view with
   |none=>rw [ap] at z;rw [z] at J;cases J
   |some q=>exact⟨q,j⟩
  obtain⟨v,H1,i,m,aW,rfl,⟨bj,rfl,rfl,M⟩,a7⟩:=Q.find F
  obtain rfl:p=bj.cs:=by
   rw [aW] at L;have z:Value.agg bj.cs.toArray=Value.agg p.toArray:=L;injection z with z
   have:=aG Array.toList z;simpa using this.symm
  refine af 3 3 j (a8 6 j a1 j (af 7 3 j (a8 10 j a1 j (af 11 3 j (ef 31 j (λK=>?_) (λK=>?_))))))
  .refine af 14 23 j (bK (aq 5 j j ?_));have a:C o f [bd g aw s c,ai,aA,bl,ay 296 e ah I++(H1++(i++m)),cd,bX,bW,cf,ca,b9] _:=C.perm (A:=[bd g aw s c,ai,aA,bl,ay 296 e ah I,H1++(i++m),cd,bX,bW,cf,ca,b9]) a.as (by simp)
   have D:s.gz g=none:=by
    unfold ak.gz;rw [F];exact a6 (dz K)
   rw [D];exact⟨_,[],_,j,cw.nil,⟨c,ai,aA,bl,ay 296 e ah I++(H1++(i++m)),cd,bX,bW,cf,ca,b9,n,j⟩,(C.gw a).empty.f1⟩
  refine af 14 3 j (a8 17 j a1 j (af 18 3 j (aT 21 j (λw⟨_,a⟩=>c4 (U:=[ae s.fX,c.dH,c.c3]) j j j (FC g s c (C.aj (b:=aw) a))) (af 22 3 j (a8 25 j a1 j (af 26 3 j (a8 29 j a1 j (af 30 1 j (a8 31 j a1 bj.gk (af 32 1 j (a8 33 j a1 bj.eU ?_)))))))))));obtain⟨ao,aS,a3,aJ⟩:=M.uA;obtain⟨aa,a5⟩:=M.read (show Holds _ i from(a.holds (G:=H1++(i++m)) (by simp)).right.left);obtain⟨S,X,aV,aN,_,aX,a4⟩:=n.dH.read (a.holds (by simp));obtain⟨T,dl,aU,aP,_,aY,aK⟩:=n.c3.read (a.holds (by simp));have aM:(⟨s.fX,S,s.dH,X,T,s.c3,dl⟩:gB).cs=[ae s.fX,c.dH,c.c3]:=by rw [aV,aU]
  refine iY 39 (.agg (⟨s.fX,S,s.dH,X,T,s.c3,dl⟩:gB).cs.toArray) j (by rw [aM]) (aR 34 j ?_);have Z:bj.P.cQ:=E.sT _ (hS F);have t:=FO (g:=g) (k:=⟨s.fX,S,s.dH,X,T,s.c3,dl⟩) (B:=bj.B) (bb:=bj.A) (l:=bj.l) (value:=bj.x) (d:=bj.d) (c:=bj.c) (slot:=s.slot) (view:=s.view) am ⟨aX,aY,E.ll,aN,aP,by have:=E.dH;show s.dH.length<=1000;omega,by have:=E.c3;show s.c3.length<=1000;omega,aK⟩ aa.aH aJ aS (by have h:bj.l.length<=10:=Z.l;omega) ⟨Y.st a O,aa.l,al.off.nil g,bT.of_nil _ _⟩ aa.x (by have h:bj.x.length<=200:=Z.x;omega) ao;refine bB j j j t (λw u=>?_);have a:=a.aL u;have a:C o f [bd g aw s c,R y bj.cs.toArray 53,H1++(i++m),ai,aA,ay 296 e ah I,bl,cd,bX,bW,cf,ca,b9] w:=a.as;refine an ⟨⟨_,a⟩,?_⟩;refine af 35 2 j (bK (bm 0 j j (λW=>?_) (λW=>?_)))
  .refine aq 4 j j ?_;have a:C o f [bd g aw s c,ai,aA,bl,ay 296 e ah I++(H1++(i++m)),cd,bX,bW,cf,ca,b9] _:=C.perm (A:=[bd g aw s c,ai,aA,bl,ay 296 e ah I,H1++(i++m),cd,bX,bW,cf,ca,b9]) a.as (by simp)
   have D:s.gz g=none:=by
    unfold ak.gz;rw [F];exact(aI (dM K)).trans (aI (by simpa using W))
   rw [D];exact⟨_,[],_,j,cw.nil,⟨c,ai,aA,bl,ay 296 e ah I++(H1++(i++m)),cd,bX,bW,cf,ca,b9,n,j⟩,(C.gw a).empty.f1⟩
  refine ar 7 j (ax (C.aj a) j) (dF 2 (a.bc aw) j j j j (λw a=>?_));have a:C o f (bd g aw {s with hT:=s.view} c::_) w:=a;refine ar 4 j (ax (C.aj a) bj.gk) ?_;have a:C o f [H1,i,m,bd g aw {s with hT:=s.view} c,bX,ay 296 e ah I,ai,aA,bl,cd,bW,cf,ca,b9] w:=C.perm (A:=[H1++(i++m),bd g aw {s with hT:=s.view} c,bX,ay 296 e ah I,ai,aA,bl,cd,bW,cf,ca,b9]) a.as (by simp);have a:C o f [i,bd g aw {s with hT:=s.view} c,bX,ay 296 e ah I,H1,m,ai,aA,bl,cd,bW,cf,ca,b9] w:=a.as;have aE:=(M.apart a).1;have t:=A9 (aw:=aw) (g:=g) (s:={s with hT:=s.view}) (c:=c) (k:=0) (hs:=bj.c) (by decide) n.cW E.lN aB a.ours (Y.st a O) am (a.eF Y O) (M.read (a.holds (by simp))).1.x (C.qm aE) (by have h:bj.x.length<=200:=Z.x;omega) ao;refine bk 0 t j (λr w⟨V,bg,az,aD,u⟩=>?_);have a:=a.b2 u;refine aq 2 j j ?_
  have a0:s.gz g=some (({s with hT:=s.view}:ak).aH g 1 bj.x):=by
   unfold ak.gz;rw [F];exact(aI (dM K)).trans (a6 (by simpa using W))
  rw [a0];have a:C o f [bd g aw {s with hT:=s.view} c,ai,aA,bl,ay 296 e ah I++(H1++(i++m)),cd,V,bW,cf,ca,b9,bg] w:=C.perm (A:=[bd g aw {s with hT:=s.view} c,ai,aA,bl,ay 296 e ah I,H1,i,m,cd,V,bW,cf,ca,b9,bg]) (C.as a) (by simp);refine⟨_,bg,_,j,az,⟨c,ai,aA,bl,ay 296 e ah I++(H1++(i++m)),cd,V,bW,cf,ca,b9,?_,j⟩,C.gw a⟩;show tT (({s with hT:=s.view}:ak).aH g 1 bj.x).1 c _ _ _ _ _ _ _ _ _ _;rw [A6];exact{n with cW:=aD}
theorem Rd.move{A:Option Addr}{xs:List Value}{G:List Chunk}{w aK:World}(h:Rd w A xs)(g:∀a,A=some a->a.block∈av [G])(d:Holds w G)(e:Holds aK G):Rd aK A xs:=λi v j=>by
 obtain⟨a,c,f⟩:=h i v j;refine⟨a,c,?_⟩;obtain⟨I,b⟩:=n8.1 (g a c);have b:(a.block,I)∈G:=by simpa using b
 rw [World.cell?_of_block (w:=w) (by rw [wY,e _ b,d _ b])];exact f
theorem Dz{o:World}{aw:Nat}{g:al}{s:ak}{G:List Chunk}(S:fB g aw s G){N:Nat}(m:s.ok g N)(J:N<=1000000)(u:g.at o)(z:g.ok)(q:g.off (av [G]))(b:Own [G] o):Calls prog 248 #[ab aw] o λr w=>∃v bg ai,r= .tuple #[v,.bool (s.g3 g).isSome]/\cw v (((s.g3 g).map Prod.snd).getD []) bg/\fB g aw (((s.g3 g).map Prod.fst).getD s) ai/\C o (av [G]) [ai,bg] w:=by
 obtain⟨c,ai,aA,bl,cv,cd,bX,bW,cf,ca,b9,l,rfl⟩:=S;obtain⟨d,F⟩:∃d,d=av [bd g aw s c++(ai++(aA++(bl++(cv++(cd++(bX++(bW++(cf++(ca++b9)))))))))]:=⟨_,j⟩;rw [<-F] at q⊢;have b:C o d [bd g aw s c++(ai++(aA++(bl++(cv++(cd++(bX++(bW++(cf++(ca++b9)))))))))] o:=F▸b;have b:=b.oa;refine a2 func248 ?_;have b:=b.drew;refine bt 6 j (λw=>∃ad,C o d ([bd g aw s c]++ad) w) ⟨_,b⟩ (af 0 3 j (a8 3 j a1 j (af 4 3 j (a8 7 j a1 j (af 8 1 j (bK (b8 0 j j (λp=>?_) (λp=>?_))))))))
 .refine aq 4 j j ?_;have b:C o d [bd g aw s c,ai,aA,bl,cv,cd,bX,bW,cf,ca,b9] _:=b.as
  have x:s.g3 g=none:=by
   unfold ak.g3;exact a6 p
  rw [x];exact⟨_,[],_,j,cw.nil,⟨c,ai,aA,bl,cv,cd,bX,bW,cf,ca,b9,l,j⟩,(C.gw b).empty.f1⟩
 refine ar 8 j (ax (C.aj b) j) ?_;obtain⟨a,aD,H,Z,V,ao,R⟩:=l.cW.read (b.holds (by simp));have h:=xn (aw:=aw) (g:=g) (s:=s) (c:=c) (k:=0) (C.aj b) (by decide) Z V (view:=s.view);refine bp 0 h j (λw i=>?_);have b:=b.aL i;obtain⟨c6,Y,P⟩:=ip.G6 ao s.view (R.st i);refine bS 23 (.pointer c6) j Y ?_;have h:=x5 (aw:=aw) (g:=g) (s:=s) (c:=c) (C.aj b) (u.st b q) z l.dh (b.holds (by simp)) m.py P (fM.sG m.lN s.view) J;refine bk 0 h j (λr w⟨v1,v2,ag,ah,i,aB⟩=>?_);subst ah;have b:=b.aL i;refine bm 12 j j (λt=>?_) (λt=>?_)
 .refine aq 4 j j ?_;have b:C o d [bd g aw s c,ai,aA,bl,cv,cd,bX,bW,cf,ca,b9] _:=b.as
  have x:s.g3 g=none:=by
   unfold ak.g3;rw [aI p,show s.fs g (s.iy 1 s.view)=none from(show s.fs g ((aZ s.cW s.view).getD [])=none by simpa using t)]
  rw [x];exact⟨_,[],_,j,cw.nil,⟨c,ai,aA,bl,cv,cd,bX,bW,cf,ca,b9,l,j⟩,(C.gw b).empty.f1⟩
 obtain⟨y,B⟩:∃y,s.fs g ((aZ s.cW s.view).getD [])=some y:=ha.1 (by simpa using t);obtain⟨⟨A,hs,rfl,ap,aC,M,D⟩,K⟩:=aB y B;obtain⟨f,d2,rfl,_,_⟩:=K.form;have O:=m.fs z (fM.sG m.lN s.view) B;have L:=b.holds (G:=cd) (by simp);refine ar 7 j (ax (C.aj b) j) (dF 2 (b.bc aw) j j j j (λw b=>?_));have b:C o d (bd g aw {s with comm:=s.view} c::_) w:=b;have b:C o d [bd g aw {s with comm:=s.view} c,ai,aA,bl,cv,cd,bX,bW,cf,ca,b9,ag] w:=b.as;have b:=b.drew;refine bt 1 j (λw=>∃ad,C o d ([bd g aw {s with comm:=s.view} c]++ad) w) ⟨_,b⟩ (af 0 4 j (a8 4 j a1 j (af 5 1 j (af 7 1 j (aR 6 j ?_)))));have h:=g2 (c:=hs) (M.move D L (b.holds (by simp))) (by have:=O.1;omega);refine cO j j j h (λr w⟨n,I,i⟩=>?_);obtain⟨e,aV,rfl,_,_⟩:=I.form;have b:=b.aL i;have b:C o d [bd g aw {s with comm:=s.view} c,ai,aA,bl,cv,cd,bX,bW,cf,ca,b9,ag,n] w:=b.as;refine an ⟨⟨_,b⟩,?_⟩;refine aT 8 j (λw _=>e3 (c:= #[ae s.view,.slice e y.1.length aV,.slice f y.2.length d2]) j (λ_=>by kernel_rfl)) (af 9 2 j (dA 11 j (c2 (U:= #[ae s.view,.slice e y.1.length aV,.slice f y.2.length d2]) (b.bc aw) j j j j j bG (λw b=>?_))));have b:C o d (bd g aw {s with comm:=s.view,fX:=s.view,dH:=y.1,c3:=y.2} {c with dH:=.slice e y.1.length aV,c3:=.slice f y.2.length d2}::_) w:=b;have b:C o d [bd g aw {s with comm:=s.view,fX:=s.view,dH:=y.1,c3:=y.2} {c with dH:=.slice e y.1.length aV,c3:=.slice f y.2.length d2},n,ag,bl,cv,cd,bX,bW,cf,ca,b9] w:=b.as;refine an (cU ?_);have am:=M.move D L (b.holds (by simp));have X:bT A (au y.1) (av [bd g aw {s with comm:=s.view,fX:=s.view,dH:=y.1,c3:=y.2} {c with dH:=.slice e y.1.length aV,c3:=.slice f y.2.length d2},bW]):=λ_ a W aa=>(b.to cd).la (D a W) (qI _ aa)
 have h:=A9 (aw:=aw) (g:=g) (s:={s with comm:=s.view,fX:=s.view,dH:=y.1,c3:=y.2}) (c:={c with dH:=.slice e y.1.length aV,c3:=.slice f y.2.length d2}) (k:=1) (hs:=hs) (by decide) l.az m.j0 J b.ours (u.st b q) z (b.eF u q) am X (by have:=O.1;omega) ap;refine bk 4 h j (λaE w⟨E,bg,Q,T,ac⟩=>?_);have b:=b.b2 ac;refine aq 2 j j ?_
 have ay:s.g3 g=some (({s with comm:=s.view,fX:=s.view,dH:=y.1,c3:=y.2}:ak).aH g 2 y.1):=by
  unfold ak.g3;rw [aI p,show s.fs g (s.iy 1 s.view)=some y from B]
 rw [ay];have b:C o d [bd g aw {s with comm:=s.view,fX:=s.view,dH:=y.1,c3:=y.2} {c with dH:=.slice e y.1.length aV,c3:=.slice f y.2.length d2},n,ag,bl,cv,cd,bX,E,cf,ca,b9,bg] w:=b.as;refine⟨_,bg,_,j,Q,⟨{c with dH:=.slice e y.1.length aV,c3:=.slice f y.2.length d2},n,ag,bl,cv,cd,bX,E,cf,ca,b9,?_,j⟩,C.gw b⟩;show tT (({s with comm:=s.view,fX:=s.view,dH:=y.1,c3:=y.2}:ak).aH g 2 y.1).1 _ _ _ _ _ _ _ _ _ _ _;rw [A7];exact{l with dH:=I,c3:=K,az:=T}
theorem Em(g:al)(slot view:Int)(l:List (Int×aW))(p:Int×aW):iH g slot view (l++[p])=lf g slot view (iH g slot view l).2.1 (iH g slot view l).2.2 p.2.x p.2.l:=by
 unfold iH;rw [nR];rfl
theorem Dl{g:al}{s:ak}(h:¬0<s.view):s.gU g=if 0<s.want.length then some (s.want,[]) else none:=aI h
theorem xC{g:al}{s:ak}{l:List (Int×aW)}(h:0<s.view)(b:aZ s.dj s.view=some l)(a:((aZ l s.ao).isSome&&decide (ii g.n<=l.length))=true):
 s.gU g=if(iH g s.slot s.view (dd l)).1>=0 then some (iH g s.slot s.view (dd l)).2 else if 0<s.want.length then some (s.want,[]) else none:=by
 unfold ak.gU;rw [a6 h,b];exact a6 a
theorem Dm{g:al}{s:ak}(h:0<s.view)(a:aZ s.dj s.view=none):s.gU g=none:=by
 unfold ak.gU;rw [a6 h,a]
theorem xD{g:al}{s:ak}{l:List (Int×aW)}(h:0<s.view)(b:aZ s.dj s.view=some l)(a:((aZ l s.ao).isSome&&decide (ii g.n<=l.length))=false):s.gU g=none:=by
 unfold ak.gU;rw [a6 h,b];exact aI (by rw [a];decide)
theorem gB.own.Gd{k:gB}{c5 a7:List Chunk}{w:World}(h:k.own c5 a7)(e:Holds w c5)(f:Holds w a7)(n:k.x.length<=1000)(g:k.l.length<=1000)(m:∀x∈k.l,x.ok):k.ok w:=by
 obtain⟨_,_,a,c,_,i,_⟩:=h.x.read e;obtain⟨_,_,b,d,_,j,bw⟩:=h.l.read f;cases a;cases b;exact⟨i,j,m,c,d,n,g,bw⟩
theorem H2{m:List (Int×Value)}{t:List (Int×List (Int×aW))}{G:List Chunk}(h:c7 jc m t G)(k:Int){w:World}(n:Holds w G):∃p b dC a,(aZ m k).getD wu= .pointer p/\dI 296 w p b/\c7 ki b dC a/\Holds w a/\(aZ t k).getD []=dC:=by
 obtain⟨p,g,f⟩:=AK h k;rcases f with⟨rfl,d⟩|⟨i,ah,I,b,l,a,ai,aA,rfl,d,o,q,rfl,_⟩
 .exact⟨none,[],[],[],g,.inl ⟨j,j⟩,j,by intro c f;simp at f,by rw [d];rfl⟩
 .have e:=n.right.left;exact⟨_,b,l,a,g,.inr ⟨i,ah,I,j,e.left (i,_) (by simp),e.left (ah,I) (by simp),o⟩,q,e.right,by rw [d];rfl⟩
theorem Do{o:World}{aw:Nat}{g:al}{s:ak}{c:eZ}(D:o.heap[aw]? =some (.cells (kc g s c).toArray 293 (0,0))){N:Nat}(bH:s.ok g N)(cg:N<=1000000)(aY:g.at o)(a5:g.ok){bl cf:List Chunk}(aW:du c.want s.want bl)(bi:fv 333 jc c.dj s.dj cf)(bo:Holds o bl)(bq:Holds o cf):Calls prog 282 #[ab aw] o λr w=>∃v1 v2 ag,r= .tuple #[v1,v2,.bool (s.gU g).isSome]/\C o [] [ag] w/\∀y,s.gU g=some y->∃A hs B bh,v1= .slice A y.1.length hs/\v2= .slice B y.2.length bh/\Rd w A (au y.1)/\Rd w B (vcs y.2)/\(∀a,A=some a->a.block∈av [ag++bl])/\∀a,B=some a->a.block∈av [ag++bl]:=by
 have e:Own [] o:=C.start o;obtain⟨cb,ck,b9,bw,bv,X,br⟩:=bi.read bq;obtain⟨p,Y,dC,ca,bJ,aC,H,bs,K⟩:=H2 X s.view br;have hw:=H.wide ki.wide;obtain⟨bZ,bW,bX,bY⟩:=gD.get pC hw s.ao;obtain⟨ac,gK,Z,cd,ce,bP,_⟩:=aW.read bo
 have a2:dC.length<=N/\∀q∈dC,q.2.cQ:=by
  rw [<-K];cases aa:aZ s.dj s.view with
  |none=>exact⟨b4 _,by simp⟩
  |some l=>exact bH.mK _ (hS aa)
 refine j2 func282 (bL 2 e j j (λaz w e=>?_));have e:C o [] [R az #[ab aw] 149] w:=e;refine ar 6 j (ax (C.aj e) j) (ar 2 j (ax (e.cc D) j) (b8 1 j j (λQ=>?_) (λQ=>?_)));have e:=e.drew;refine bt 1 j (λw=>∃ad,C o [] ([R az #[ab aw] 149]++ad) w) ⟨_,e⟩ (a8 0 j a1 j (af 1 2 j (bR 3 j (λw⟨_,e⟩=>ax (e.cc D) (aG some bw)) (a8 4 j a1 j (af 5 2 j (bR 7 j (λw⟨_,e⟩=>ax (e.cc D) j) (aR 8 j ?_)))))));have J:=yu (k:=s.view) (bv.st e);refine bB j j j J (λw I=>?_);have e:=e.aL I;have e:C o [] [R az #[ab aw] 149] w:=e.as;refine an ⟨⟨_,e⟩,?_⟩;refine af 9 2 j (iY 27 (.pointer p) j bJ (af 11 3 j (bK (ar 4 j (ax (C.aj e) j) (ar 2 j (ax (e.cc D) j) ?_)))));have J:=n1 (k:=s.ao) hw (aC.st e);refine bp 0 J j (λw I=>?_);have e:=e.aL I;refine am 2 j (bS 36 (.agg bZ.toArray) j bW ?_);refine b7 1 e j (λbg w e=>c2 (e.bc bg) j j j bY bX (by decide) (λw e=>?_));have e:C o [] [R az #[ab aw] 149] w:=e.as;have e:C o [] [R az #[ab aw] 149] w:=e.as;have e:=e.drew;refine bt 2 j (λw=>∃ad,C o [] ([R az #[ab aw] 149]++ad) w) ⟨_,e⟩ (af 0 3 j (ef 40 j (λT=>?_) (λT=>?_)))
 .refine fC 10 [3,4,5,6,7,9,8,10,11,12] j (bK (bD 6 j ⟨.tuple #[.slice none 0 0,.slice none 0 0,.bool false],λw F=>?_⟩));have e:=F.st e (cI _);refine⟨λa i=>i8 (fn:=f282) i j _ _,?_⟩
  have O:s.gU g=none:=by
   have M:=Q;exact Dm M (mx ((X.isSome s.view).symm.trans (by simpa using T)))
  refine⟨_,_,[],by rw [O];rfl,e.bare.empty,λy t=>?_⟩;rw [O] at t;cases t
 refine af 3 4 j (ef 44 j (λai=>?_) (λai=>?_))
 .refine fC 6 [7,9,8,10,11,12] j (bK (bD 6 j ⟨.tuple #[.slice none 0 0,.slice none 0 0,.bool false],λw F=>?_⟩));have e:=F.st e (cI _);refine⟨λa i=>i8 (fn:=f282) i j _ _,?_⟩
  have O:s.gU g=none:=by
   have M:=Q;exact xD M (by have u:(aZ s.dj s.view).isSome=true:=(X.isSome s.view).symm.trans (by simpa using T);cases z:aZ s.dj s.view with|none=>(rw [z] at u;cases u)|some l=>(rw [z] at K;exact congrArg some K)) (by rw [<-H.isSome s.ao,show(aZ Y s.ao).isSome=false from by simpa using ai];rfl)
  refine⟨_,_,[],by rw [O];rfl,e.bare.empty,λy t=>?_⟩;rw [O] at t;cases t
 refine af 7 1 j (a8 9 j a1 j (aR 8 j ?_));have J:=yX (aC.st e);refine bB j j j J (λw I=>?_);have e:=e.aL I;have e:C o [] [R az #[ab aw] 149] w:=e.as;refine an ⟨⟨_,e⟩,?_⟩;refine aR 10 j (bB j j j (z5 (e.cc D) (aY.st e (al.off.nil g)) a5) (λcn bQ=>?_));subst bQ;refine an ⟨⟨_,e⟩,?_⟩;refine af 11 2 j (bK (b8 0 j j (λap=>?_) (λap=>?_)))
 .refine bD 5 j ⟨.tuple #[.slice none 0 0,.slice none 0 0,.bool false],λw F=>?_⟩;have e:=F.st e (cI _);refine⟨λa i=>i8 (fn:=f282) i j _ _,?_⟩
  have O:s.gU g=none:=by
   have M:=Q;exact xD M (by have u:(aZ s.dj s.view).isSome=true:=(X.isSome s.view).symm.trans (by simpa using T);cases z:aZ s.dj s.view with|none=>(rw [z] at u;cases u)|some l=>(rw [z] at K;exact congrArg some K)) (by rw [decide_eq_false (show¬ii g.n<=dC.length by have u:=H.len;have z:(Y.length:Int)<(ii g.n:Nat):=ap;omega),Bool.and_false])
  refine⟨_,_,[],by rw [O];rfl,e.bare.empty,λy t=>?_⟩;rw [O] at t;cases t
 refine bp 3 free_spec j (λw I=>?_);have e:=e.aL I;refine b7 0 e j (λm w e=>c2 (e.bc m) j j j j j (by decide) (λw e=>?_));have e:=C.whole (U:=mv.cs) e j;have e:C o [] [R az #[ab aw] 149,R m mv.cs.toArray 284] w:=e.as;have J:=w2 (o:=w) (p:=p);refine bk 4 J j (λr w⟨bd,be,aN,aa⟩=>?_);subst aN;have e:=e.aL aa;have e:C o [] [R bd #[.pointer p] 150,[(be,.cells #[.func (.func 273) #[] #[]] 45 (0,0))],R az #[ab aw] 149,R m mv.cs.toArray 284,[],[]] w:=e.empty.empty.as;have e:C o [] ([R bd #[.pointer p] 150,[(be,.cells #[.func (.func 273) #[] #[]] 45 (0,0))]]++[R az #[ab aw] 149,R m mv.cs.toArray 284,[],[]]) w:=e
 refine j6 1 j (z7 (by have:=H.len;omega)) j (by have:=e.size;simpa using this) e j (λ_=>rfl) (by intro p a9;simp at a9;rcases a9 with rfl|rfl<;>rfl)
  (λpre ad=>∃(k:gB)(c5 a7:List Chunk),ad=[R az #[ab aw] 149,R m k.cs.toArray 284,c5,a7]/\k.own c5 a7/\k.P=iH g s.slot s.view ((dd dC).take pre.length)) (λ_ _=>False) ⟨mv,[],[],j,y2,j⟩ (λL aK bu=>(aC.st e).st bu) (λ_ _ _ _=>trivial) ?_ ?_ (λ_ _ h=>h.elim) (λ_ _ _ h=>h.elim)
 .rintro y pre ⟨aS,b1⟩ b5 L cm bm ⟨k,c5,a7,rfl,W,E⟩ e;obtain⟨t1,t2,cl,b2,bf,b3,aE,bb,bI,bj,aQ,rfl,aJ⟩:=H.oi bm;have aQ:b1= .agg bj.cs.toArray:=aQ;subst aQ;have ba:bj.tag.length=32:=(fF.one aJ).tag bj (by simp);have a3:bj.P.cQ:=a2.2 (aS,bj.P) (g0.1 (show(aS,bj.P)∈dd dC by rw [aE];simp))
  have bE:k.x.length<=200/\k.l.length<=10/\∀v∈k.l,v.ok:=by
   have h:=yB (g:=g) (slot:=s.slot) (view:=s.view) (l:=(dd dC).take pre.length) (λq aM=>a2.2 q (g0.1 (m3 aM)));rw [<-E] at h;exact h
  have e:=C.gy e;refine b7 1 e j (λS w e=>c2 (e.bc S) j j j (by simpa using bj.one) (by rw [List.size_toArray];exact bj.bU ba) (by decide) (λw e=>?_));have e:=C.whole (U:=bj.cs) e (by rw [bj.bU ba];rfl);refine bD 0 j (⟨j,_,e,λL aU e=>?_⟩);have f:=e.bare;have e:=C.gy e;have f:=f.drew;have e:=e.drew;refine bt 1 j (λw=>C o [] [] w/\∃ad,C aU (av [R S bj.cs.toArray 53,R az #[ab aw] 149,R m k.cs.toArray 284,c5,a7]) ([R S bj.cs.toArray 53,R az #[ab aw] 149,R m k.cs.toArray 284,c5,a7]++ad) w) ⟨f,_,e⟩ (bR 0 j (λw⟨f,_,e⟩=>ax (C.aj e) j) (af 1 2 j (bR 3 j (λw⟨f,_,e⟩=>ax (f.cc D) j) ?_)));refine bR 4 j (λw⟨f,_,e⟩=>ax (C.aj e) j) (af 5 2 j (bR 7 j (λw⟨f,_,e⟩=>ax (f.cc D) j) (bR 8 j (λw⟨f,_,e⟩=>ax (C.aj e) j) (af 9 2 j (bR 11 j (λw⟨f,_,e⟩=>ax (f.cc D) j) (aT 12 j (λw⟨f,_,e⟩=>c4 (U:=k.cs) j j j (bn (C.aj (b:=m) e))) (af 13 1 j (bR 14 j (λw⟨f,_,e⟩=>ax (C.aj e) bj.gk) (af 15 1 j (bR 16 j (λw⟨f,_,e⟩=>ax (C.aj e) bj.eU) (aT 17 j (λw _=>e3 (c:=(⟨-1,bj.A,bj.x,bj.c,bj.B,bj.l,bj.d⟩:gB).cs.toArray) j (λ_=>by kernel_rfl)) (aR 18 j ?_))))))))))));have bA:=e.holds (G:=c5) (by simp);have bC:=e.holds (G:=a7) (by simp);have aq:=(aJ.read (show Holds _ bf from((bs.st f).perm bI).right.left)).1;obtain⟨bV,bF,ch,bz⟩:=aJ.uA;have a4:=W.Gd bA bC (by omega) (by omega) bE.2.2;have cj:bj.x.length<=200:=a3.x;have ci:bj.l.length<=10:=a3.l;have a0:=aY.st f (al.off.nil g);have J:=EB (a:=k) (b:=⟨-1,bj.A,bj.x,bj.c,bj.B,bj.l,bj.d⟩) (slot:=s.slot) (below:=s.view) a5 a4 ⟨aq.x,aq.l,aq.aH,bV,bF,by show bj.x.length<=1000;omega,by show bj.l.length<=1000;omega,bz⟩ ⟨a0,a4.sY,al.off.nil g,bT.of_nil _ _⟩ ⟨a0,aq.l,al.off.nil g,bT.of_nil _ _⟩;refine cO j j j J (λr w⟨q,ae,ah,aN,aM,bM,I⟩=>?_);subst aN;have e:=e.aL I;have f:=f.aL I;have f:=f.bare;have e:C aU (av [R S bj.cs.toArray 53,R az #[ab aw] 149,R m k.cs.toArray 284,c5,a7]) [R S bj.cs.toArray 53,R az #[ab aw] 149,R m k.cs.toArray 284,c5,a7,ae,ah] w:=e.as;refine an ⟨⟨f,_,e⟩,?_⟩;refine dA 19 j (c2 (e.bc m) j j j j j bG (λw e=>?_));have e:=C.whole (U:=q.cs) e j;have e:C aU (av [R S bj.cs.toArray 53,R az #[ab aw] 149,R m k.cs.toArray 284,c5,a7]) [R az #[ab aw] 149,R m q.cs.toArray 284,ae,ah] w:=e.as;refine an (cU (bD 0 j (⟨[R az #[ab aw] 149,R m q.cs.toArray 284,ae,ah],e,q,ae,ah,j,aM,?_⟩)));have aA:(dd dC).take pre.length=t1:=by rw [aE,<-bb,mg]
  have aB:(dd dC).take (pre.length+1)=t1++[(aS,bj.P)]:=by
   rw [aE,<-bb,p1,List.take_of_length_le (by omega),show t1.length+1-t1.length=1 by omega];rfl
  rw [b0,List.length_singleton,aB,Em,bM];rw [aA] at E;rw [<-E]
 rintro xs b6 w aX ⟨k,c5,a7,rfl,W,E⟩ e;refine ar 3 j (ax (C.aj e) j) (b8 1 j j (λay=>?_) (λay=>?_))
 .have e:C o [] [R m k.cs.toArray 284,c5,a7] w:=e.as;have e:=e.drew;refine bt 1 j (λw=>∃ad,C o [] ([R m k.cs.toArray 284,c5,a7]++ad) w) ⟨_,e⟩ (af 0 1 j (a8 1 j a1 j (af 2 1 j (a8 3 j a1 j (af 4 3 j (bK (bD 0 j ⟨.tuple #[.slice k.A k.x.length k.c,.slice k.B k.l.length k.d,.bool true],λw F=>?_⟩)))))));have e:=F.st e (cI _);refine⟨λa i=>i8 (fn:=f282) i j _ _,?_⟩;have M:=Q;have aO:aZ s.dj s.view=some dC:=by have u:(aZ s.dj s.view).isSome=true:=(X.isSome s.view).symm.trans (by simpa using T);cases z:aZ s.dj s.view with|none=>(rw [z] at u;cases u)|some l=>(rw [z] at K;exact congrArg some K)
  have aP:xs.length=dC.length:=by rw [aX,iB,H.len]
  have E:k.P=iH g s.slot s.view (dd dC):=by rw [E,h7 (by rw [hQ,aP];exact cI _)]
  have aD:=xC (g:=g) M aO (by rw [<-H.isSome s.ao,show(aZ Y s.ao).isSome=true from by simpa using ai,decide_eq_true (show ii g.n<=dC.length by have u:=H.len;have z:¬(Y.length:Int)<(ii g.n:Nat):=ap;omega)];rfl);have aF:(iH g s.slot s.view (dd dC)).1>=0:=by rw [<-E];exact ay
  have V:s.gU g=some (k.x,k.l):=aD.trans ((a6 aF).trans (by rw [<-E]));obtain⟨_,_,aA,_,_,bN,_⟩:=W.x.read (e.holds (G:=c5) (by simp));obtain⟨_,_,aB,_,_,bO,_⟩:=W.l.read (e.holds (G:=a7) (by simp));cases aA;cases aB;refine⟨_,_,c5++a7,by rw [V];rfl,C.perm (A:=[c5,a7]) e.as (by simp),λy t=>?_⟩;rw [V] at t;cases t;refine⟨_,_,_,_,j,j,bN,bO,λa i=>?_,λa i=>?_⟩
  .have:=W.x.n3 a i;simp [av] at this⊢;exact .inl this
  have:=W.l.n3 a i;simp [av] at this⊢;exact .inr (.inl this)
 have e:C o [] [R az #[ab aw] 149] w:=e.as;have e:=e.drew;refine bt 2 j (λw=>∃ad,C o [] ([R az #[ab aw] 149]++ad) w) ⟨_,e⟩ (a8 0 j a1 j (af 1 2 j (bR 3 j (λw⟨_,e⟩=>ax (e.cc D) (aG some Z)) (a8 4 j a1 j (af 5 2 j (bR 7 j (λw⟨_,e⟩=>ax (e.cc D) (aG some Z)) (af 8 5 j (bK (bD 0 j ⟨.tuple #[.slice ac s.want.length gK,.slice none 0 0,.bool (decide ((s.want.length:Int)>0))],λw F=>?_⟩)))))))));have e:=F.st e (cI _);refine⟨λa i=>i8 (fn:=f282) i j _ _,?_⟩;have M:=Q;have aO:aZ s.dj s.view=some dC:=by have u:(aZ s.dj s.view).isSome=true:=(X.isSome s.view).symm.trans (by simpa using T);cases z:aZ s.dj s.view with|none=>(rw [z] at u;cases u)|some l=>(rw [z] at K;exact congrArg some K)
 have aP:xs.length=dC.length:=by rw [aX,iB,H.len]
 have E:k.P=iH g s.slot s.view (dd dC):=by rw [E,h7 (by rw [hQ,aP];exact cI _)]
 have aD:=xC (g:=g) M aO (by rw [<-H.isSome s.ao,show(aZ Y s.ao).isSome=true from by simpa using ai,decide_eq_true (show ii g.n<=dC.length by have u:=H.len;have z:¬(Y.length:Int)<(ii g.n:Nat):=ap;omega)];rfl);have aF:¬(iH g s.slot s.view (dd dC)).1>=0:=by rw [<-E];exact ay
 have V:=aD.trans (aI aF);rotate_left
 have e:C o [] [R az #[ab aw] 149] w:=e.as;have e:=e.drew;refine bt 2 j (λw=>∃ad,C o [] ([R az #[ab aw] 149]++ad) w) ⟨_,e⟩ (a8 0 j a1 j (af 1 2 j (bR 3 j (λw⟨_,e⟩=>ax (e.cc D) (aG some Z)) (a8 4 j a1 j (af 5 2 j (bR 7 j (λw⟨_,e⟩=>ax (e.cc D) (aG some Z)) (af 8 5 j (bK (bD 0 j ⟨.tuple #[.slice ac s.want.length gK,.slice none 0 0,.bool (decide ((s.want.length:Int)>0))],λw F=>?_⟩)))))))));have e:=F.st e (cI _);refine⟨λa i=>i8 (fn:=f282) i j _ _,?_⟩;have V:=Dl (g:=g) (s:=s) Q;rotate_left
 all_goals
  have bx:(s.gU g).isSome=decide ((s.want.length:Int)>0):=by
   rw [V];by_cases aV:0<s.want.length
   .rw [a6 aV,je (by omega)];rfl
   .rw [aI aV,e4 (by omega)];rfl
  refine⟨_,_,[],by rw [bx],e.bare.empty,λy t=>?_⟩;rw [V] at t;split at t
  .cases t;refine⟨ac,gK,none,0,j,j,e.rd bP (bT.of_nil _ _),Rd.nil _ _,λa i=>?_,λa i=>by cases i⟩;have:=(Z▸aW:du (.slice ac s.want.length gK) s.want bl).n3 a i;simpa [av] using this
  cases t
theorem ak.qW(g:al)(s:ak)(m:aW):s.gf g m={s with props:=(s.gf g m).props,dh:=(s.gf g m).dh}:=by
 unfold ak.gf;split
 .rfl
 .unfold ak.jN;split<;>rfl
theorem ak.A5(g:al)(s:ak)(m:aW):s.dk g m={s with cW:=(s.dk g m).cW,az:=(s.dk g m).az}:=by
 unfold ak.dk;split
 .rfl
 .split
  .unfold ak.counts;split<;>rfl
  .rfl
theorem ak.tb(g:al)(s:ak)(m:aW):s.status g m={s with dj:=(s.status g m).dj}:=by
 unfold ak.status;split<;>rfl
theorem ak.DK(g:al)(s:ak)(m:aW):s.decision g m={s with value:=(s.decision g m).value,dK:=(s.decision g m).dK,dec:=(s.decision g m).dec}:=by
 unfold ak.decision;split
 .rfl
 .split<;>rfl
theorem Holds.app{w:World}{A B:List Chunk}(a:Holds w A)(b:Holds w B):Holds w (A++B):=λc d=>(dv.1 d).elim (a c) (b c)
theorem GR{o:World}{aw:Nat}{g:al}{s:ak}{G:List Chunk}(aa:fB g aw s G){N:Nat}(n:s.ok g N)(T:N<=1000000)(p:g.at o)(D:g.ok)(l:g.off (av [G]))(a:Own [G] o):Calls prog 249 #[ab aw] o λr w=>∃v bg ai,r= .tuple #[v,.bool (s.gW g).isSome]/\cw v (((s.gW g).map Prod.snd).getD []) bg/\fB g aw (((s.gW g).map Prod.fst).getD s) ai/\C o (av [G]) [ai,bg] w:=by
 obtain⟨c,ai,aA,bl,cv,cd,bX,bW,cf,ca,b9,k,rfl⟩:=aa;obtain⟨b,S⟩:∃b,b=av [bd g aw s c++(ai++(aA++(bl++(cv++(cd++(bX++(bW++(cf++(ca++b9)))))))))]:=⟨_,j⟩;rw [<-S] at l⊢;have a:C o b [bd g aw s c++(ai++(aA++(bl++(cv++(cd++(bX++(bW++(cf++(ca++b9)))))))))] o:=S▸a;have a:=a.oa;refine a2 func249 ?_;have a:=a.drew;refine bt 6 j (λw=>∃ad,C o b ([bd g aw s c]++ad) w) ⟨_,a⟩ (af 0 4 j (a8 4 j a1 j (af 5 3 j (a8 8 j a1 j (aR 9 j ?_)))));have e:=vm (aw:=aw) (s:=s) (c:=c) (C.aj a) (p.st a l) D (node:=s.ao) (view:=s.view) n.slot n.view;refine bB j j j e (λw f=>?_);have a:=a.aL f;have a:C o b [bd g aw s c,ai,aA,bl,cv,cd,bX,bW,cf,ca,b9] w:=a.as;refine an ⟨⟨_,a⟩,?_⟩;refine af 10 2 j (ef 19 j (λE=>?_) (λE=>?_))
 .refine af 12 10 j (bK (aq 5 j j ?_));have a:C o b [bd g aw s c,ai,aA,bl,cv,cd,bX,bW,cf,ca,b9] _:=a.as
  have z:s.gW g=none:=by
   unfold ak.gW;exact a6 (.inl (by simpa using E))
  rw [z];exact⟨_,[],_,j,cw.nil,⟨c,ai,aA,bl,cv,cd,bX,bW,cf,ca,b9,k,j⟩,(C.gw a).empty.f1⟩
 refine af 12 3 j (a8 15 j a1 j (af 16 3 j (a8 19 j a1 j (af 20 2 j (bK (b8 0 j j (λF=>?_) (λF=>?_)))))))
 .refine aq 4 j j ?_;have a:C o b [bd g aw s c,ai,aA,bl,cv,cd,bX,bW,cf,ca,b9] _:=a.as
  have z:s.gW g=none:=by
   unfold ak.gW;exact a6 (.inr F)
  rw [z];exact⟨_,[],_,j,cw.nil,⟨c,ai,aA,bl,cv,cd,bX,bW,cf,ca,b9,k,j⟩,(C.gw a).empty.f1⟩
 have e:=Do (aw:=aw) (s:=s) (c:=c) (C.aj a) n T (p.st a l) D k.want k.dj (a.holds (by simp)) (a.holds (by simp));refine bk 4 e j (λr w⟨v1,v2,ag,K,f,aB⟩=>?_);subst K;have a:=a.aL f;have a:C o b [bd g aw s c,ai,aA,bl,cv,cd,bX,bW,cf,ca,b9,ag] w:=a.as;refine bm 12 j j (λH=>?_) (λH=>?_)
 .refine aq 4 j j ?_;have a:C o b [bd g aw s c,ai,aA,bl,cv,cd,bX,bW,cf,ca,b9] _:=a.as
  have z:s.gW g=none:=by
   unfold ak.gW;rw [aI (by rintro(h|h);(have u:s.leads g s.ao s.view=true:=by simpa using E);(rw [h] at u;cases u);exact absurd h F),show s.gU g=none from by simpa using H]
  rw [z];exact⟨_,[],_,j,cw.nil,⟨c,ai,aA,bl,cv,cd,bX,bW,cf,ca,b9,k,j⟩,(C.gw a).empty.f1⟩
 obtain⟨y,L⟩:∃y,s.gU g=some y:=ha.1 (by simpa using H);obtain⟨A,hs,B,d,rfl,rfl,V,W,Q,R⟩:=aB y L;have i:=n.gU L;have dt:=Holds.app (a.holds (G:=ag) (by simp)) (a.holds (G:=bl) (by simp));refine ar 7 j (ax (C.aj a) j) (dF 2 (a.bc aw) j j j j (λw a=>?_));have a:C o b (bd g aw {s with prop:=s.view} c::_) w:=a;refine ar 5 j (ax (C.aj a) j) (am 2 j (cN (c:=(⟨2,0,0,0,s.view,A,y.1,hs,B,y.2,d,cA⟩:aC).cs.toArray) j j j (λ_=>by kernel_rfl) ?_));refine b7 0 a j (λt w a=>b6 0 (a.bc t) j j j (by simpa using(⟨2,0,0,0,s.view,A,y.1,hs,B,y.2,d,cA⟩:aC).one) j (λw a=>?_));have a:=C.whole (U:=(⟨2,0,0,0,s.view,A,y.1,hs,B,y.2,d,cA⟩:aC).cs) a j;have a:C o b [bd g aw {s with prop:=s.view} c,bf t (⟨2,0,0,0,s.view,A,y.1,hs,B,y.2,d,cA⟩:aC),ai,aA,bl,cv,cd,bX,bW,cf,ca,b9,ag] w:=a.as;have a:=a.drew;refine bt 1 j (λw=>∃c ad,C o b ([bd g aw {s with prop:=s.view} c,bf t (⟨2,0,0,0,s.view,A,y.1,hs,B,y.2,d,cA⟩:aC)]++ad) w) ⟨_,_,a⟩ (af 0 2 j (aT 2 j (λw⟨_,_,a⟩=>c4 (U:=(⟨2,0,0,0,s.view,A,y.1,hs,B,y.2,d,cA⟩:aC).cs) j j j (bn (C.aj a))) (af 3 3 j (bR 6 j (λw⟨_,_,a⟩=>ax (C.aj a) j) (aR 7 j ?_)))));have x:=Holds.app (a.holds (G:=ag) (by simp)) (a.holds (G:=bl) (by simp));have I:(⟨2,0,0,0,s.view,A,y.1,hs,B,y.2,d,cA⟩:aC).ok _:=⟨V.move Q dt x,W.move R dt x,i.2.2,j⟩;have e:=s5 (aw:=aw) (s:={s with prop:=s.view}) (c:=c) (C.aj a) (p.st a l) D I (by show y.1.length<=10000;have:=i.1;omega) (by show y.2.length<=1000;have:=i.2.1;omega) (to:=s.ao);refine cO j j j e (λr w⟨q,X,K,au,J,f⟩=>?_);subst K;have a:=a.aL f;have a:C o b [bd g aw {s with prop:=s.view} c,bf t (⟨2,0,0,0,s.view,A,y.1,hs,B,y.2,d,cA⟩:aC),ai,aA,bl,cv,cd,bX,bW,cf,ca,b9,ag,X] w:=a.as;refine an ⟨⟨_,_,a⟩,?_⟩;refine aR 8 j ?_;have ap:q.P.cQ:=by rw [J];exact ak.nC i.1 i.2.1 i.2.2
 have ay:q.v=s.view:=aG aW.v J;have e:=zY (aw:=aw) (g:=g) (s:={s with prop:=s.view}) (c:=c) (m:=q) au ap n.slot (by rw [ay];exact n.view) k.props k.dh (ek n.dh T) (p.st a l) D (a.eF p l) a.ours;refine bB j j j e (λw⟨v1,M,O,Z,ae,f⟩=>?_);have a:=a.b2 f;have a:C o b ([bd g aw {s with prop:=s.view} {c with dh:=v1},bf t (⟨2,0,0,0,s.view,A,y.1,hs,B,y.2,d,cA⟩:aC)]++_) w:=a.front;refine an ⟨⟨_,_,a⟩,?_⟩;refine bK (bM 3 (U:=(⟨2,0,0,0,s.view,A,y.1,hs,B,y.2,d,cA⟩:aC).cs) j j j (bn (C.aj a)) ?_);have x:=Holds.app (a.holds (G:=ag) (by simp)) (a.holds (G:=bl) (by simp));have I:(⟨2,0,0,0,s.view,A,y.1,hs,B,y.2,d,cA⟩:aC).ok _:=⟨V.move Q dt x,W.move R dt x,i.2.2,j⟩;have e:=ui (aw:=aw) (s:={s with prop:=s.view}) (c:={c with dh:=v1}) (C.aj a) (p.st a l) D I (by show y.1.length<=10000;have:=i.1;omega) (by show y.2.length<=1000;have:=i.2.1;omega);refine bk 0 e j (λr w⟨bg,Y,f⟩=>?_);have a:=a.aL f;refine aq 2 j j ?_
 have az:s.gW g=some (({s with prop:=s.view}:ak).gf g (s.js g ⟨2,0,0,0,s.view,y.1,y.2,cA⟩ s.ao),s.all g ⟨2,0,0,0,s.view,y.1,y.2,cA⟩):=by
  unfold ak.gW;rw [aI (by rintro(h|h);(have u:s.leads g s.ao s.view=true:=by simpa using E);(rw [h] at u;cases u);exact absurd h F),L]
 have ah:s.js g ⟨2,0,0,0,s.view,y.1,y.2,cA⟩ s.ao=q.P:=J.symm;rw [az,ah];have a:C o b [bd g aw {s with prop:=s.view} {c with dh:=v1},ai,aA,bl,M,O,bX,bW,cf,ca,b9,bg] w:=a.as;have ac:fB g aw (({s with prop:=s.view}:ak).gf g q.P) _:=⟨{c with dh:=v1},ai,aA,bl,M,O,bX,bW,cf,ca,b9,by rw [ak.qW];exact{k with props:=Z,dh:=ae},j⟩;refine⟨_,bg,_,j,Y,ac,?_⟩;rw [ak.qW];exact C.gw a
theorem ye{α β:Type}{f:α->Option β}{l t1 t2:List α}{p:α}{n:Nat}(a:l=t1++p::t2)(aJ:t1.length=n)(h:(l.take n).findSome? f=none)(b:f p=none):(l.take (n+1)).findSome? f=none:=by
 subst a;subst aJ;exact yg h (by simp) (by simpa using b)
theorem yf{α β:Type}{f:α->Option β}{l t1 t2:List α}{p:α}{n:Nat}{y:β}(a:l=t1++p::t2)(aJ:t1.length=n)(h:(l.take n).findSome? f=none)(b:f p=some y):l.findSome? f=some y:=by
 subst a;subst aJ;exact uY h (by simp) y (by simpa using b)
theorem HJ{o:World}{aw:Nat}{g:al}{s:ak}{G:List Chunk}(aH:fB g aw s G){N:Nat}(F:s.ok g N)(aF:N<=1000000)(aP:g.at o)(af:g.ok)(an:g.off (av [G]))(f:Own [G] o):Calls prog 246 #[ab aw] o λr w=>∃v bg ai,r= .tuple #[v,.bool (s.gX g).isSome]/\cw v (((s.gX g).map Prod.snd).getD []) bg/\fB g aw (((s.gX g).map Prod.fst).getD s) ai/\C o (av [G]) [ai,bg] w:=by
 obtain⟨c,ai,aA,bl,cv,cd,bX,bW,cf,ca,b9,n,rfl⟩:=aH;obtain⟨k,ac⟩:∃k,k=av [bd g aw s c++(ai++(aA++(bl++(cv++(cd++(bX++(bW++(cf++(ca++b9)))))))))]:=⟨_,j⟩;rw [<-ac] at an⊢;have f:C o k [bd g aw s c++(ai++(aA++(bl++(cv++(cd++(bX++(bW++(cf++(ca++b9)))))))))] o:=ac▸f;have f:=f.oa;obtain⟨z,ah,I,a0,H,Q,aT,V,E⟩:=n.az;subst E;refine j2 func246 (bL 2 f j j (λaz w f=>b7 0 f j (λaO w f=>b7 0 f j (λi w f=>?_))));have f:C o k (R i #[.bool false] 4::R aO #[.slice none 0 0] 39::R az #[ab aw] 149::_) w:=f;refine ar 3 j (ax (C.aj f) j) (am 2 j (rv (J:=1) j j j j (by decide) ?_));refine ar 0 j (ax (C.aj (b:=aw) f) (aG some Q)) ?_;obtain⟨a,P⟩:∃a:Option Addr,a=some ⟨z,0,none⟩:=⟨_,j⟩;have Q:c.az= .pointer a:=Q.trans (by rw [P]);refine bS 13 (.pointer a) j (by rw [P]) ?_
 have aM:dI 336 w a a0:=by
  have h:=(f.holds (G:=ay 336 z ah I++H) (by simp)).left;exact .inr ⟨z,ah,I,P,h (z,_) (by simp),h (ah,I) (by simp),aT⟩
 have D:=Cl (o:=w) (p:=a);refine bk 0 D j (λr w⟨aq,au,T,aa⟩=>?_);subst T;have aJ:=aM.st aa;have f:=f.aL aa;have f:C o k [R aq #[.pointer a] 288,[(au,.cells #[.func (.func 306) #[] #[]] 45 (0,0))],R az #[ab aw] 149,R aO #[.slice none 0 0] 39,R i #[.bool false] 4,bd g aw s c,ai,aA,bl,cv,cd,bX,ay 336 z ah I++H,cf,ca,b9] w:=f.as;obtain⟨bW,E⟩:∃bW,bW=ay 336 z ah I++H:=⟨_,j⟩;rw [<-E] at f n;have f:C o k ([R aq #[.pointer a] 288,[(au,.cells #[.func (.func 306) #[] #[]] 45 (0,0))]]++[R az #[ab aw] 149,R aO #[.slice none 0 0] 39,R i #[.bool false] 4,bd g aw s c,ai,aA,bl,cv,cd,bX,bW,cf,ca,b9]) w:=f
 refine j6 1 j (GW (by have a7:=V.len;have a8:=F.az;omega)) j (by have:=f.size;simpa using this) f j (λ_=>rfl) (by intro p n;simp at n;rcases n with rfl|rfl<;>rfl)
  (λpre ad=>ad=[R az #[ab aw] 149,R aO #[.slice none 0 0] 39,R i #[.bool false] 4,bd g aw s c,ai,aA,bl,cv,cd,bX,bW,cf,ca,b9]/\((dd s.az).take pre.length).findSome? (λp=>s.fs g p.2)=none) (λe ad=>match e with| .ret=>∃y q t l m,(dd s.az).findSome? (λp=>s.fs g p.2)=some y/\du q y.1 l/\et t y.2 m/\ad=[R az #[ab aw] 149,R aO #[.slice none 0 0] 39,R i #[.bool true] 4,bd g aw (s.gl y.1 y.2) {c with value:=q,dK:=t},ai,aA,bl,cv,cd,bX,bW,cf,l,m]|_=>False) ⟨j,j⟩ (λL aK aE=>aJ.st aE) (λ_ _ _ _=>trivial) ?_ ?_ ?_ (λ_ _ _ h=>h.elim)
 .rintro y pre ⟨ap,a1⟩ a6 L be aC ⟨rfl,u⟩ f;obtain⟨t1,t2,x,a4,Y,a5,S,ao,aV,M⟩:=V.oi aC;have M:ip a1 x Y:=M;have Z:fM g N x:=F.j0 (ap,x) (g0.1 (show(ap,x)∈dd s.az by rw [S];simp));have f:=C.gy f;refine bD 2 j (⟨j,_,f,λL a2 f=>?_⟩);have aQ:=aP.st f an;have f:=C.gy f;obtain⟨c6,rfl,aD⟩:=M.read (show Holds a2 Y by have h:=f.holds (G:=bW) (by simp);rw [E] at h;exact(h.right.perm aV).right.left);refine ar 3 j (ax (C.aj f) j) ?_;have D:=x5 (aw:=aw) (g:=g) (s:=s) (c:=c) (C.aj f) aQ af n.dh (f.holds (by simp)) F.py aD Z aF;refine bk 1 D j (λr w⟨v1,v2,ag,T,aR,aZ⟩=>?_);subst T;have f:=f.aL aR;refine bm 10 j j (λK=>?_) (λK=>?_)
  .obtain⟨y,W⟩:∃y,s.fs g x=some y:=ha.1 K;obtain⟨⟨A,hs,rfl,a9,bb,aX,ba⟩,ae⟩:=aZ y W;obtain⟨a3,d2,rfl,_,_⟩:=ae.form;have X:=F.fs af Z W;refine ar 2 j (ax (C.aj f) j) ?_;have D:=xV (aw:=aw) (g:=g) (s:=s) (c:=c) (bQ:=hs) (d:=d2) aX (f.f1.f1.holds (G:=ag) (by simp)|>λh=>by obtain⟨_,_,e,_,_,aW,_⟩:=ae.read h;cases e;exact aW) X.2.2 (by have:=X.1;omega) (by have:=X.2.1;omega) f.ours;refine bp 2 D j (λw⟨q,t,l,m,B,O,aS⟩=>?_);have f:=f.b2 aS;refine dF 2 (f.bc aO) j j j j (λw f=>?_);have f:C _ _ (R aO #[.slice none 0 0] 39::_) w:=f;refine dF 0 (f.bc i) j j j j (λw f=>?_);have f:C _ _ (R i #[.bool true] 4::_) w:=f;exact bD 0 j ⟨[R az #[ab aw] 149,R aO #[.slice none 0 0] 39,R i #[.bool true] 4,bd g aw (s.gl y.1 y.2) {c with value:=q,dK:=t},ai,aA,bl,cv,cd,bX,bW,cf,l,m],f.as,y,q,t,l,m,yf S ao u W,B,O,j⟩
  refine bD 1 j ?_;have aU:s.fs g x=none:=by simpa using K
  refine⟨[R az #[ab aw] 149,R aO #[.slice none 0 0] 39,R i #[.bool false] 4,bd g aw s c,ai,aA,bl,cv,cd,bX,bW,cf,ca,b9],f.as,j,?_⟩;rw [b0,List.length_singleton];exact ye S ao u aU
 .rintro xs aB w aI ⟨rfl,u⟩ f;refine dF 2 (f.bc aO) j j j j (λw f=>?_);have f:C _ _ (R aO #[.slice none 0 0] 39::_) w:=f;refine dF 0 (f.bc i) j j j j (λw f=>?_);have f:C _ _ (R i #[.bool false] 4::_) w:=f;refine bD 0 j ⟨.tuple #[.slice none 0 0,.bool false],λw U=>?_⟩;have f:=U.st f (cI _);refine⟨Ak results246 j j (ax (C.aj f) j) j j (ax (C.aj f) j),?_⟩;rw [aI,iB,V.len,h7 (by rw [hQ];exact cI _)] at u;have f:C o k [bd g aw s c,ai,aA,bl,cv,cd,bX,bW,cf,ca,b9] _:=f.as
  have u:s.gX g=none:=by
   unfold ak.gX;rw [u];rfl
  rw [u];exact⟨_,[],_,j,cw.nil,⟨c,ai,aA,bl,cv,cd,bX,bW,cf,ca,b9,n,j⟩,(C.gw f).empty.f1⟩
 rintro aB w B f;obtain⟨y,q,t,l,m,aN,B,O,rfl⟩:=B;refine⟨.tuple #[.slice none 0 0,.bool true],λw U=>?_⟩;have f:=U.st f (cI _);refine⟨Ak results246 j j (ax (C.aj f) j) j j (ax (C.aj f) j),?_⟩;have aY:s.gX g=some (s.gl y.1 y.2,[]):=by unfold ak.gX;rw [aN];rfl
 rw [aY];have f:C o k [bd g aw (s.gl y.1 y.2) {c with value:=q,dK:=t},ai,aA,bl,cv,cd,bX,bW,cf,l,m] w:=f.as;exact⟨_,[],_,j,cw.nil,⟨{c with value:=q,dK:=t},ai,aA,bl,cv,cd,bX,bW,cf,l,m,{n with value:=B,dK:=O},j⟩,(C.gw f).empty.f1⟩
theorem fB.aj{g:al}{aw:Nat}{s:ak}{G:List Chunk}{w:World}(h:fB g aw s G)(a:Holds w G):∃c,w.heap[aw]? =some (.cells (kc g s c).toArray 293 (0,0)):=by
 obtain⟨c,ai,aA,bl,cv,cd,bX,bW,cf,ca,b9,b,rfl⟩:=h;exact⟨c,a.left.head⟩
section
variable {P:Program} {n:Fr} {Z:Env} {w:World} {Q:d6} {ops:Array Oper} {rest:List Oper} {dst:Option Nat} {ty:TypeId} {pos:String} {after:Array Edge} {g:Option (Nat×Bool)}
theorem nK{t:TypeId}{f:Array TypeId}{args:Array Operand}{z:Value}{bytes:Nat}{o:World}{F:List Nat}{c5 a7:List Chunk}{ad:List (List Chunk)}{v1 v2:Value}{dC b:List aW}
 [hu:bA P t (.slice 53)] [L:cm P 53 z 39 bytes] (v:C o F (c5::a7::ad) w) (m:cw v1 dC c5) (p:cw v2 b a7) (G:f= #[t,t]) (I:z.cells.size=39) (y:bytes<=1000)
 (D:cY ops Z g=some true) (B:c8 n dst=true) (H:fu Z args.toList=some [v1,v2]) (e:dC.length+b.length<=1000000000)
 (h:∀v3 bl aK,cw v3 (dC++b) bl->C o F (bl::ad) aK->O P n ops rest (cG Z dst v3) aK Q):O P n ops (⟨dst,.call ⟨.builtin .append,args,f⟩,ty,pos,after,g⟩::rest) Z w Q:=by
 obtain⟨J,rfl,i,eS,rfl,s,q⟩:=m;obtain⟨be,rfl,k,fS,rfl,u,c⟩:=p;rw [ff,ff] at e;have d:C o F (i::eS::k::fS::ad) w:=v.perm (by simp);obtain⟨K,dp,rfl,_,_,E,_⟩:=u.read (d.holds (by simp));refine dR d s G I (by decide) D B H (news:=fV be) (yt be c.tag) E (sk be) ?_ ?_ (λv3 a aK r x=>?_)
 .have:=rU e y;omega
 .unfold maxLen;omega
 .refine h v3 (a++(eS++fS)) aK ⟨J++be,by simp,a,eS++fS,j,?_,q.app c⟩ (C.perm (A:=a::eS::fS::ad) (x.f2.drop.f1|>λh=>?_) (by simp))
  .rw [b0,qC];exact r
  .exact h.jm (by
    have l:List.Perm (eS::a::fS::ad) (a::eS::fS::ad):=.swap ..;first|exact l|exact .refl _)
end
theorem ak.uh(g:al)(s:ak)(m:aW):(s.all g m).length<=g.n:=by unfold ak.all;rw [List.length_map];exact zK _ _
theorem ak.Fl(s:ak):s.left<=4:=by unfold ak.left;split<;>split<;>split<;>split<;>omega
theorem ak.AB{g:al}{s:ak}{r:ak×List aW}(h:s.gX g=some r)(a:s.dec=false):r.1.left<s.left/\r.2.length<=g.n:=by
 unfold ak.gX at h;cases bw:(dd s.az).findSome? λp=>s.fs g p.2 with
 |none=>rw [bw] at h;cases h
 |some y=>
  rw [bw] at h;cases h;refine⟨?_,b4 _⟩;unfold ak.left ak.gl;rw [a];simp
theorem ak.vV{g:al}{s:ak}{r:ak×List aW}(h:s.gz g=some r):r.1.left<s.left/\r.2.length<=g.n:=by
 unfold ak.gz at h;split at h
 .cases h
 .split at h
  .cases h
  .split at h
   .cases h;refine⟨?_,ak.uh _ _ _⟩;rw [A6];unfold ak.left;dsimp only;rw [aI (show¬s.view<s.view by omega),a6 (show s.hT<s.view by omega)];omega
   .cases h
theorem ak.uD{g:al}{s:ak}{r:ak×List aW}(h:s.g3 g=some r):r.1.left<s.left/\r.2.length<=g.n:=by
 unfold ak.g3 at h;split at h
 .cases h
 .split at h
  .cases h
  .cases h;refine⟨?_,ak.uh _ _ _⟩;rw [A7];unfold ak.left;dsimp only;rw [aI (show¬s.view<s.view by omega),a6 (show s.comm<s.view by omega)];omega
theorem ak.vW{g:al}{s:ak}{r:ak×List aW}(h:s.gW g=some r):r.1.left<s.left/\r.2.length<=g.n:=by
 unfold ak.gW at h;split at h
 .cases h
 .rename_i aJ;split at h
  .cases h
  .cases h;refine⟨?_,ak.uh _ _ _⟩
   have a:s.prop<s.view:=by
    by_cases h:s.prop<s.view
    .exact h
    .exact absurd (.inr (by omega)) aJ
   dsimp only;rw [ak.qW];unfold ak.left;dsimp only;rw [aI (show¬s.view<s.view by omega),a6 a];omega
theorem sM{I:Option (ak×List aW)}{k:Nat}(h:∀r,I=some r->r.2.length<=k):((I.map Prod.snd).getD []).length<=k:=by
 cases I with
 |none=>exact b4 _
 |some r=>exact h r j
theorem ak.HR{g:al}{s:ak}{r:ak×List aW}(h:s.gX g=some r):s.step g=some r:=by unfold ak.step;rw [h]
theorem ak.HS{g:al}{s:ak}{r:ak×List aW}(a:s.gX g=none)(h:s.gz g=some r):s.step g=some r:=by unfold ak.step;rw [a];dsimp only;rw [h]
theorem ak.HT{g:al}{s:ak}{r:ak×List aW}(a:s.gX g=none)(b:s.gz g=none)(h:s.g3 g=some r):s.step g=some r:=by unfold ak.step;rw [a];dsimp only;rw [b];dsimp only;rw [h]
theorem ak.AI{g:al}{s:ak}(a:s.gX g=none)(b:s.gz g=none)(c:s.g3 g=none):s.step g=s.gW g:=by unfold ak.step;rw [a];dsimp only;rw [b];dsimp only;rw [c]
theorem ak.u4{g:al}{n:Nat}{s:ak}{l:List aW}(h:s.dec=true):ak.go g n s l=(s,l):=by
 cases n with
 |zero=>rfl
 |succ n=>unfold ak.go;rw [if_pos h]
theorem ak.Et{g:al}{n:Nat}{s:ak}{l:List aW}(h:s.step g=none):ak.go g n s l=(s,l):=by
 cases n with
 |zero=>rfl
 |succ n=>
  unfold ak.go;split
  .rfl
  .rw [h]
theorem ak.sn{g:al}{n:Nat}{s:ak}{l:List aW}{r:ak×List aW}(a:s.dec=false)(h:s.step g=some r):ak.go g (n+1) s l=ak.go g n r.1 (l++r.2):=by
 rw [ak.go,aI (by rw [a];decide),h]
theorem l4{o:World}{aw:Nat}{g:al}{s:ak}{G:List Chunk}(ao:fB g aw s G){N:Nat}(aA:s.ok g N)(aB:N+5<=1000000)(S:g.at o)(f:g.ok)(O:g.off (av [G]))(a:Own [G] o):Calls prog 202 #[ab aw] o λr w=>∃bg ai,cw r (s.steps g).2 bg/\fB g aw (s.steps g).1 ai/\C o (av [G]) [ai,bg] w:=by
 obtain⟨P,ad⟩:∃P,P=av [G]:=⟨_,j⟩;rw [<-ad] at O⊢;have a:C o P [G] o:=ad▸a;refine a2 func202 ?_
 refine cJ 11 j (ct:=Bool×Nat×ak×List aW×Value×List Chunk×List Chunk×Nat) (λi=>[(0,ab aw),(3,i.2.2.2.2.1),(4,.bool i.1)])
  (λi w=>i.2.2.1.ok g i.2.2.2.2.2.2.2/\i.2.2.2.2.2.2.2+i.2.1<=N+5/\i.2.2.2.1.length+10*i.2.1<=50/\fB g aw i.2.2.1 i.2.2.2.2.2.1/\cw i.2.2.2.2.1 i.2.2.2.1 i.2.2.2.2.2.2.1/\(if i.1=true then i.2.2.1.left<i.2.1/\s.steps g=ak.go g i.2.1 i.2.2.1 i.2.2.2.1 else s.steps g=(i.2.2.1,i.2.2.2.1))/\C o P [i.2.2.2.2.2.1,i.2.2.2.2.2.2.1] w) (λi=>2*i.2.1+(if i.1=true then 1 else 0)) (true,5,s,[],.slice none 0 0,G,[],N) ⟨j,j,j,aX⟩ ⟨aA,cI _,cI _,ao,cw.nil,by rw [a6 j];exact⟨by have:=s.Fl;dsimp only;omega,j⟩,a.empty.f1⟩ ?_
 rintro⟨again,ic,s1,dC,v1,W,z,Q⟩ w ⟨y,ae,ag,R,A,e,a⟩;dsimp only at y ae ag R A e a⊢;obtain⟨c,ap⟩:=R.aj (a.holds (by simp));refine am 5 j (cT 10 j (λT=>?_) (λT=>?_))
 .refine ar 3 j (ax ap j) (bm 2 j j (λX=>?_) (λX=>?_))
  .refine am 8 j (gZ j j j j ?_);refine am 1 j (gZ j j j j ?_);refine am 1 j (gZ j j j j ?_);refine am 1 j (gZ j j j j ?_);refine eC a j j j j j j bG (λac w a=>?_);have L:again=true:=T;rw [a6 L] at e;have B:s1.dec=false:=by simpa using X
   refine cJ 3 j (ct:=Nat×List Chunk) (λk=>[(0,ab aw),(3,v1),(4,.bool false),(25,.slice (some ⟨ac,0,none⟩) 4 4),(26,.int .i64 (4:Nat)),(27,.int .i64 (k.1:Nat))])
    (λk w=>k.1<=4/\fB g aw s1 k.2/\(1<=k.1->s1.gX g=none)/\(2<=k.1->s1.gz g=none)/\(3<=k.1->s1.g3 g=none)/\(4<=k.1->s1.gW g=none)/\C o P [k.2,z,[(ac,.cells #[.func (.func 246) #[ab aw] #[],.func (.func 247) #[ab aw] #[],.func (.func 248) #[ab aw] #[],.func (.func 249) #[ab aw] #[]] 365 (0,0))]] w) (λk=>4-k.1) (0,W) ⟨j,j,j,j,j,j,aX⟩ ⟨b4 _,R,λh=>by dsimp only at h;omega,λh=>by dsimp only at h;omega,λh=>by dsimp only at h;omega,λh=>by dsimp only at h;omega,a.as⟩ ?_
   rintro⟨i,ah⟩ w ⟨au,K,D,M,U,af,a⟩;dsimp only at au K D M U af a⊢;have V:=S.st a O;refine b8 4 j j (λan=>?_) (λan=>?_)
   .refine am 5 j ?_;have az:i=0\/i=1\/i=2\/i=3:=by omega
    rcases az with rfl|rfl|rfl|rfl
    .refine hl (J:=0) j j j j (by decide) (ar 0 j (ax (C.aj a) j) ?_);have H:=HJ K y (by omega) V f (a.eF S O) a.ours;refine am 4 j (hL j j j j H (λr w⟨v2,E,t,m,F,d,I⟩=>?_));subst m;have a:=a.b2 I;refine bm 8 j j (λl=>?_) (λl=>?_)
     .have aa:((Option.map Prod.snd (s1.gX g)).getD []).length<=g.keys.length:=sM (λr m=>(ak.AB m B).2);have Y:=f.n10;refine am 4 j (nK (dC:=dC) (a.front (cC:=[z,E])) A F j j (by decide) j j j (by omega) (λv3 bl w u a=>?_));refine bI 5 j ?_;obtain⟨b,p⟩:∃b,s1.gX g=some b:=ha.1 l;have q:s1.step g=some b:=ak.HR p;have v:=ak.AB p B;rw [p] at u d;obtain⟨n,rfl⟩:∃k,ic=k+1:=⟨ic-1,by have:=e.1;omega⟩;have Z:b.2.length<=10:=ek v.2 f.n10;refine⟨(true,n,b.1,dC++b.2,v3,t,bl,Q+1),⟨j,j,j,aX⟩,⟨y.step f q,by dsimp only;omega,by dsimp only;rw [b0];omega,d,u,?_,a.as⟩,by dsimp only;rw [if_pos j,if_pos L];omega⟩;dsimp only;rw [a6 j];exact⟨by have:=e.1;have:=v.1;omega,e.2.trans (ak.sn B q)⟩
     refine bq 2 j j j (gm _ 1 (by decide)) (bI 1 j ?_);have x:s1.gX g=none:=by simpa using l
     rw [x] at d;refine⟨(0+1,t),⟨j,j,j,j,j,j,aX⟩,⟨by dsimp only;omega,d,λ_=>x,λh=>by dsimp only at h;omega,λh=>by dsimp only at h;omega,λh=>by dsimp only at h;omega,a.as⟩,by dsimp only;omega⟩
    .refine hl (J:=1) j j j j (by decide) (ar 0 j (ax (C.aj a) j) ?_);have H:=GP K y (by omega) V f (a.eF S O) a.ours;refine am 4 j (hL j j j j H (λr w⟨v2,E,t,m,F,d,I⟩=>?_));subst m;have a:=a.b2 I;refine bm 8 j j (λl=>?_) (λl=>?_)
     .have aa:((Option.map Prod.snd (s1.gz g)).getD []).length<=g.keys.length:=sM (λr m=>(ak.vV m).2);have Y:=f.n10;refine am 4 j (nK (dC:=dC) (a.front (cC:=[z,E])) A F j j (by decide) j j j (by omega) (λv3 bl w u a=>?_));refine bI 5 j ?_;obtain⟨b,p⟩:∃b,s1.gz g=some b:=ha.1 l;have q:s1.step g=some b:=ak.HS (D (by decide)) p;have v:=ak.vV p;rw [p] at u d;obtain⟨n,rfl⟩:∃k,ic=k+1:=⟨ic-1,by have:=e.1;omega⟩;have Z:b.2.length<=10:=ek v.2 f.n10;refine⟨(true,n,b.1,dC++b.2,v3,t,bl,Q+1),⟨j,j,j,aX⟩,⟨y.step f q,by dsimp only;omega,by dsimp only;rw [b0];omega,d,u,?_,a.as⟩,by dsimp only;rw [if_pos j,if_pos L];omega⟩;dsimp only;rw [a6 j];exact⟨by have:=e.1;have:=v.1;omega,e.2.trans (ak.sn B q)⟩
     refine bq 2 j j j (gm _ 1 (by decide)) (bI 1 j ?_);have x:s1.gz g=none:=by simpa using l
     rw [x] at d;refine⟨(1+1,t),⟨j,j,j,j,j,j,aX⟩,⟨by dsimp only;omega,d,λ_=>D (by decide),λ_=>x,λh=>by dsimp only at h;omega,λh=>by dsimp only at h;omega,a.as⟩,by dsimp only;omega⟩
    .refine hl (J:=2) j j j j (by decide) (ar 0 j (ax (C.aj a) j) ?_);have H:=Dz K y (by omega) V f (a.eF S O) a.ours;refine am 4 j (hL j j j j H (λr w⟨v2,E,t,m,F,d,I⟩=>?_));subst m;have a:=a.b2 I;refine bm 8 j j (λl=>?_) (λl=>?_)
     .have aa:((Option.map Prod.snd (s1.g3 g)).getD []).length<=g.keys.length:=sM (λr m=>(ak.uD m).2);have Y:=f.n10;refine am 4 j (nK (dC:=dC) (a.front (cC:=[z,E])) A F j j (by decide) j j j (by omega) (λv3 bl w u a=>?_));refine bI 5 j ?_;obtain⟨b,p⟩:∃b,s1.g3 g=some b:=ha.1 l;have q:s1.step g=some b:=ak.HT (D (by decide)) (M (by decide)) p;have v:=ak.uD p;rw [p] at u d;obtain⟨n,rfl⟩:∃k,ic=k+1:=⟨ic-1,by have:=e.1;omega⟩;have Z:b.2.length<=10:=ek v.2 f.n10;refine⟨(true,n,b.1,dC++b.2,v3,t,bl,Q+1),⟨j,j,j,aX⟩,⟨y.step f q,by dsimp only;omega,by dsimp only;rw [b0];omega,d,u,?_,a.as⟩,by dsimp only;rw [if_pos j,if_pos L];omega⟩;dsimp only;rw [a6 j];exact⟨by have:=e.1;have:=v.1;omega,e.2.trans (ak.sn B q)⟩
     refine bq 2 j j j (gm _ 1 (by decide)) (bI 1 j ?_);have x:s1.g3 g=none:=by simpa using l
     rw [x] at d;refine⟨(2+1,t),⟨j,j,j,j,j,j,aX⟩,⟨by dsimp only;omega,d,λ_=>D (by decide),λ_=>M (by decide),λ_=>x,λh=>by dsimp only at h;omega,a.as⟩,by dsimp only;omega⟩
    refine hl (J:=3) j j j j (by decide) (ar 0 j (ax (C.aj a) j) ?_);have H:=GR K y (by omega) V f (a.eF S O) a.ours;refine am 4 j (hL j j j j H (λr w⟨v2,E,t,m,F,d,I⟩=>?_));subst m;have a:=a.b2 I;refine bm 8 j j (λl=>?_) (λl=>?_)
    .have aa:((Option.map Prod.snd (s1.gW g)).getD []).length<=g.keys.length:=sM (λr m=>(ak.vW m).2);have Y:=f.n10;refine am 4 j (nK (dC:=dC) (a.front (cC:=[z,E])) A F j j (by decide) j j j (by omega) (λv3 bl w u a=>?_));refine bI 5 j ?_;obtain⟨b,p⟩:∃b,s1.gW g=some b:=ha.1 l;have q:s1.step g=some b:=(ak.AI (D (by decide)) (M (by decide)) (U (by decide))).trans p;have v:=ak.vW p;rw [p] at u d;obtain⟨n,rfl⟩:∃k,ic=k+1:=⟨ic-1,by have:=e.1;omega⟩;have Z:b.2.length<=10:=ek v.2 f.n10;refine⟨(true,n,b.1,dC++b.2,v3,t,bl,Q+1),⟨j,j,j,aX⟩,⟨y.step f q,by dsimp only;omega,by dsimp only;rw [b0];omega,d,u,?_,a.as⟩,by dsimp only;rw [if_pos j,if_pos L];omega⟩;dsimp only;rw [a6 j];exact⟨by have:=e.1;have:=v.1;omega,e.2.trans (ak.sn B q)⟩
    refine bq 2 j j j (gm _ 1 (by decide)) (bI 1 j ?_);have x:s1.gW g=none:=by simpa using l
    rw [x] at d;refine⟨(3+1,t),⟨j,j,j,j,j,j,aX⟩,⟨by dsimp only;omega,d,λ_=>D (by decide),λ_=>M (by decide),λ_=>U (by decide),λ_=>x,a.as⟩,by dsimp only;omega⟩
   refine bI 1 j ?_;have ay:i=4:=by omega
   subst ay;have q:s1.step g=none:=(ak.AI (D (by decide)) (M (by decide)) (U (by decide))).trans (af (by decide));refine⟨(false,ic,s1,dC,v1,ah,z,Q),⟨j,j,j,aX⟩,⟨y,ae,ag,K,A,?_,a.as⟩,by dsimp only;rw [L];simp⟩;dsimp only;rw [aI (by decide)];exact e.2.trans (ak.Et q)
  refine aq 5 j j ?_;have B:s1.dec=true:=by simpa using X
  rw [a6 T] at e;rw [e.2,ak.u4 B];exact⟨z,W,A,R,a⟩
 refine aq 12 j j ?_;rw [aI (by rw [T];decide)] at e;rw [e];exact⟨z,W,A,R,a⟩
theorem zt{o:World}{g:al}{ao slot:Int}:Calls prog 128 #[g.p,ae ao,ae slot] o λr w=>∃aw G,r=ab aw/\fB g aw (ak.new ao slot) G/\C o [] [G] w:=by
 have a:Own [] o:=C.start o;refine a2 func128 (bp 8 free_spec j (λw b=>?_));have a:=a.aL b;refine bk 0 vD j (λr w⟨h,l,d,s,b⟩=>?_);subst d;have a:=a.aL b;refine bk 0 F3 j (λr w⟨i,m,d,t,b⟩=>?_);subst d;have a:=a.aL b;refine bk 0 zs j (λr w⟨e,n,d,u,b⟩=>?_);subst d;have a:=a.aL b;refine bk 0 zs j (λr w⟨f,q,d,v,b⟩=>?_);subst d;have a:=a.aL b;refine cN (c:= #[ab e,ab f]) j j j (λ_=>by kernel_rfl) (cN (c:=(kc g (ak.new ao slot) (⟨.slice none 0 0,.slice none 0 0,.slice none 0 0,ab h,.slice none 0 0,ab e,ab f,ab i,.slice none 0 0,.slice none 0 0⟩:eZ)).toArray) j j j (λ_=>by kernel_rfl) (bL 0 a j j (λk w a=>aq 1 j j ?_)));have a:C o [] (bd g k (ak.new ao slot) (⟨.slice none 0 0,.slice none 0 0,.slice none 0 0,ab h,.slice none 0 0,ab e,ab f,ab i,.slice none 0 0,.slice none 0 0⟩:eZ)::_) w:=a;refine⟨k,_,j,⟨(⟨.slice none 0 0,.slice none 0 0,.slice none 0 0,ab h,.slice none 0 0,ab e,ab f,ab i,.slice none 0 0,.slice none 0 0⟩:eZ),[],[],[],ay 296 h l (.map #[] 0),[],ay 336 e n (.map #[] 0),ay 336 f q (.map #[] 0),ay 333 i m (.map #[] 0),[],[],⟨Row.nil _ _,Row.nil _ _,Row.nil _ _,fv.new s,⟨[],[],[],j,Row.nil _ _,j⟩,fv.new u,fv.new v,fv.new t,Row.nil _ _,Row.nil _ _⟩,j⟩,?_⟩;exact C.perm (A:=[bd g k (ak.new ao slot) (⟨.slice none 0 0,.slice none 0 0,.slice none 0 0,ab h,.slice none 0 0,ab e,ab f,ab i,.slice none 0 0,.slice none 0 0⟩:eZ),ay 296 h l (.map #[] 0),ay 336 e n (.map #[] 0),ay 336 f q (.map #[] 0),ay 333 i m (.map #[] 0)]) a.as (by simp)
theorem H6{o:World}{aw:Nat}{g:al}{s:ak}{G:List Chunk}{m:aC}(hm:m.ok o)(aB:fB g aw s G){N:Nat}(B:s.ok g N)(aQ:N+10<=1000000)(n:g.at o)(y:g.ok)(i:g.off (av [G]))(a:Own [G] o):Calls prog 147 #[ab aw,.agg m.cs.toArray] o λr w=>∃bg ai,cw r (s.take g m.P).2 bg/\fB g aw (s.take g m.P).1 ai/\C o (av [G]) [ai,bg] w:=by
 have aR:=a;obtain⟨c,ai,aA,bl,cv,cd,bX,bW,cf,ca,b9,t,rfl⟩:=aB;obtain⟨p,ag⟩:∃p,p=av [bd g aw s c++(ai++(aA++(bl++(cv++(cd++(bX++(bW++(cf++(ca++b9)))))))))]:=⟨_,j⟩;rw [<-ag] at i⊢;have a:C o p [bd g aw s c++(ai++(aA++(bl++(cv++(cd++(bX++(bW++(cf++(ca++b9)))))))))] o:=ag▸a;have a:=a.oa;refine a2 func147 (bL 2 (C.start _) j j (λO w R=>?_));have R:C _ [] [bf O m] w:=R;have hm:=hm.st R;have a:C o p [bf O m,bd g aw s c,ai,aA,bl,cv,cd,bX,bW,cf,ca,b9] w:=a.aL R;refine am 7 j (bS 7 (.bool false) j (aG Value.bool (j)) ?_);refine ar 3 j (ax (C.aj a) j) (am 2 j (cT 13 j (λL=>?_) (λL=>?_)))
 .refine aq 9 j j ?_;have f:s.take g m.P=(s,[]):=a6 (by rw [show s.dec=true from L];rfl);rw [f];exact⟨[],_,cw.nil,⟨c,ai,aA,bl,cv,cd,bX,bW,cf,ca,b9,t,j⟩,(C.gw a.as).empty.f1⟩
 refine bM 1 (U:=m.cs) j j (m.bU hm.tag) (bn (C.aj a)) ?_;have b:=ES (aw:=aw) (g:=g) (s:=s) (c:=c) (C.aj a) (n.st a i) y hm;refine bp 0 b j (λw d=>?_);have a:=a.aL d;have hm:=hm.st d;refine bm 2 j j (λV=>?_) (λV=>?_)
 .refine aq 3 j j ?_;have aN:s.mp g m.P=false:=by simpa using V
  have f:s.take g m.P=(s,[]):=a6 (by rw [aN];simp);rw [f];exact⟨[],_,cw.nil,⟨c,ai,aA,bl,cv,cd,bX,bW,cf,ca,b9,t,j⟩,(C.gw a.as).empty.f1⟩
 have K:s.mp g m.P=true:=by simpa using V
 have S:i6 m=true:=by unfold ak.mp at K;simp only [Bool.and_eq_true] at K;exact K.1
 have ao:=m.y8 S;refine bM 3 (U:=m.cs) j j (m.bU hm.tag) (bn (C.aj a)) ?_;have b:=DF hm ⟨by omega,by omega⟩;refine bk 0 b j (λr w⟨q,X,Y,aP,aO,J,d⟩=>?_);subst aP;have T:=fA.qO aO J hm ⟨by omega,by omega⟩;have ah:q.tag.length=32:=(aG (λz:aW=>z.tag.length) J).trans hm.tag;have a:=a.aL d;refine c2 (a.bc O) j j j (by simpa using q.one) (by rw [List.size_toArray];exact q.bU ah) (by rw [List.size_toArray,m.bU hm.tag];decide) (λw a=>?_);have a:=C.whole (U:=q.cs) a (by rw [hA,m.bU hm.tag,q.bU ah]);have a:C o p [bf O q,bd g aw s c,ai,aA,bl,cv,cd,bX,bW,cf,ca,b9,X++Y] w:=C.perm (A:=[bf O q,bd g aw s c,ai,aA,bl,cv,cd,bX,bW,cf,ca,b9,X,Y]) a.as (by simp);have u:q.P.cQ:=by rw [J];exact⟨hm.tag,hm.aH,ao.1,ao.2⟩
 have an:0<=q.v/\q.v<=8:=by
  have e:q.v=m.v:=aG aW.v J;rw [e];unfold i6 at S;simp only [ea] at S;exact dz S.1.1.1.2
 refine ar 4 j (ax (C.aj a) q.gJ) (bm 5 j j (λx=>?_) (λx=>?_))
 .refine bM 2 (U:=q.cs) j j (q.bU u.tag) (bn (C.aj a)) ?_;have b:=zY (aw:=aw) (g:=g) (s:=s) (c:=c) (m:=q) T u B.slot an t.props t.dh (by have:=B.dh;omega) (n.st a i) y (a.eF n i) a.ours;refine bp 0 b j (λw⟨v1,W,Z,ay,aJ,d⟩=>?_);have a:=a.b2 d
  obtain⟨l,D,a⟩:∃l,fB g aw (s.fm g q.P) l/\C o p [l] w:=by
   have f:s.fm g q.P=s.gf g q.P:=by unfold ak.fm;rw [if_pos (show q.P.k=2 from beq_iff_eq.1 x)]
   rw [f];have a:C o p [bd g aw (s.gf g q.P) {c with dh:=v1},ai,aA,bl,W,Z,bX,bW,cf,ca,b9] w:=by rw [ak.qW];exact a.as
   exact⟨_,⟨{c with dh:=v1},ai,aA,bl,W,Z,bX,bW,cf,ca,b9,by rw [ak.qW];exact{t with props:=ay,dh:=aJ},j⟩,C.gw a⟩
  have b:=l4 D (B.fm u) (by omega) (n.st a i) y (a.eF n i) a.ours;refine bk 3 b j (λr w⟨bg,E,H,I,d⟩=>?_);have a:=a.b2 d;refine aq 1 j j ?_;have f:s.take g m.P=(s.fm g q.P).steps g:=by rw [J];exact aI (by rw [K,show s.dec=false from L];decide)
  rw [f];exact⟨bg,E,H,I,a⟩
 refine bm 4 j j (λF=>?_) (λF=>?_)
 .refine bM 2 (U:=q.cs) j j (q.bU u.tag) (bn (C.aj a)) ?_;have b:=IE (aw:=aw) (g:=g) (s:=s) (c:=c) (m:=q) T u t.cW t.az B.lN B.j0 (by omega) (n.st a i) y (a.eF n i) a.ours;refine bp 0 b j (λw⟨ac,ad,aD,aE,d⟩=>?_);have a:=a.b2 d
  obtain⟨l,D,a⟩:∃l,fB g aw (s.fm g q.P) l/\C o p [l] w:=by
   have f:s.fm g q.P=s.dk g q.P:=by unfold ak.fm;rw [if_neg (show¬q.P.k=2 from λh=>by rw [show(q.k==2)=true from beq_iff_eq.2 h] at x;cases x),if_pos (show q.P.k=3 from beq_iff_eq.1 F)]
   rw [f];have a:C o p [bd g aw (s.dk g q.P) c,ai,aA,bl,cv,cd,ac,ad,cf,ca,b9] w:=by rw [ak.A5];exact a.as
   exact⟨_,⟨c,ai,aA,bl,cv,cd,ac,ad,cf,ca,b9,by rw [ak.A5];exact{t with cW:=aD,az:=aE},j⟩,C.gw a⟩
  have b:=l4 D (B.fm u) (by omega) (n.st a i) y (a.eF n i) a.ours;refine bk 3 b j (λr w⟨bg,E,H,I,d⟩=>?_);have a:=a.b2 d;refine aq 1 j j ?_;have f:s.take g m.P=(s.fm g q.P).steps g:=by rw [J];exact aI (by rw [K,show s.dec=false from L];decide)
  rw [f];exact⟨bg,E,H,I,a⟩
 refine bm 4 j j (λM=>?_) (λM=>?_)
 .refine bM 2 (U:=q.cs) j j (q.bU u.tag) (bn (C.aj a)) ?_;have b:=AH (aw:=aw) (g:=g) (s:=s) (c:=c) (m:=q) T u B.slot an t.dj (n.st a i) y (a.eF n i) a.ours;refine bp 0 b j (λw⟨ae,aF,d⟩=>?_);have a:=a.b2 d
  obtain⟨l,D,a⟩:∃l,fB g aw (s.fm g q.P) l/\C o p [l] w:=by
   have f:s.fm g q.P=s.status g q.P:=by unfold ak.fm;rw [if_neg (show¬q.P.k=2 from λh=>by rw [show(q.k==2)=true from beq_iff_eq.2 h] at x;cases x),if_neg (show¬q.P.k=3 from λh=>by rw [show(q.k==3)=true from beq_iff_eq.2 h] at F;cases F),if_pos (show q.P.k=4 from beq_iff_eq.1 M)]
   rw [f];have a:C o p [bd g aw (s.status g q.P) c,ai,aA,bl,cv,cd,bX,bW,ae,ca,b9] w:=by rw [ak.tb];exact a.as
   exact⟨_,⟨c,ai,aA,bl,cv,cd,bX,bW,ae,ca,b9,by rw [ak.tb];exact{t with dj:=aF},j⟩,C.gw a⟩
  have b:=l4 D (B.fm u) (by omega) (n.st a i) y (a.eF n i) a.ours;refine bk 3 b j (λr w⟨bg,E,H,I,d⟩=>?_);have a:=a.b2 d;refine aq 1 j j ?_;have f:s.take g m.P=(s.fm g q.P).steps g:=by rw [J];exact aI (by rw [K,show s.dec=false from L];decide)
  rw [f];exact⟨bg,E,H,I,a⟩
 refine bm 4 j j (λQ=>?_) (λQ=>?_);refine bM 2 (U:=q.cs) j j (q.bU u.tag) (bn (C.aj a)) ?_;have b:=DL (aw:=aw) (g:=g) (s:=s) (c:=c) (m:=q) T u t.value t.dK (n.st a i) y (a.eF n i) a.ours;refine bp 0 b j (λw⟨ap,au,af,aa,aK,aM,d⟩=>?_);have a:=a.b2 d
 obtain⟨l,D,a⟩:∃l,fB g aw (s.fm g q.P) l/\C o p [l] w:=by
  have f:s.fm g q.P=s.decision g q.P:=by unfold ak.fm;rw [if_neg (show¬q.P.k=2 from λh=>by rw [show(q.k==2)=true from beq_iff_eq.2 h] at x;cases x),if_neg (show¬q.P.k=3 from λh=>by rw [show(q.k==3)=true from beq_iff_eq.2 h] at F;cases F),if_neg (show¬q.P.k=4 from λh=>by rw [show(q.k==4)=true from beq_iff_eq.2 h] at M;cases M),if_pos (show q.P.k=5 from beq_iff_eq.1 Q)]
  rw [f];have a:C o p [bd g aw (s.decision g q.P) {c with value:=ap,dK:=au},ai,aA,bl,cv,cd,bX,bW,cf,af,aa] w:=a.as;exact⟨_,⟨{c with value:=ap,dK:=au},ai,aA,bl,cv,cd,bX,bW,cf,af,aa,by rw [ak.DK];exact{t with value:=aK,dK:=aM},j⟩,C.gw a⟩
 have b:=l4 D (B.fm u) (by omega) (n.st a i) y (a.eF n i) a.ours;refine bk 3 b j (λr w⟨bg,E,H,I,d⟩=>?_);rotate_left
 obtain⟨l,D,a⟩:∃l,fB g aw (s.fm g q.P) l/\C o p [l] w:=by
  have f:s.fm g q.P=s:=by unfold ak.fm;rw [if_neg (show¬q.P.k=2 from λh=>by rw [show(q.k==2)=true from beq_iff_eq.2 h] at x;cases x),if_neg (show¬q.P.k=3 from λh=>by rw [show(q.k==3)=true from beq_iff_eq.2 h] at F;cases F),if_neg (show¬q.P.k=4 from λh=>by rw [show(q.k==4)=true from beq_iff_eq.2 h] at M;cases M),if_neg (show¬q.P.k=5 from λh=>by rw [show(q.k==5)=true from beq_iff_eq.2 h] at Q;cases Q)]
  rw [f];exact⟨_,⟨c,ai,aA,bl,cv,cd,bX,bW,cf,ca,b9,t,j⟩,C.gw a.as⟩
 have b:=l4 D (B.fm u) (by omega) (n.st a i) y (a.eF n i) a.ours;refine bk 4 b j (λr w⟨bg,E,H,I,d⟩=>?_);rotate_left
 all_goals
  have a:=a.b2 d;refine aq 1 j j ?_;have f:s.take g m.P=(s.fm g q.P).steps g:=by rw [J];exact aI (by rw [K,show s.dec=false from L];decide)
  rw [f];exact⟨bg,E,H,I,a⟩
theorem IL{o:World}{aw:Nat}{g:al}{s:ak}{G:List Chunk}{A:Option Addr}{x:List UInt8}{bQ:Nat}(L:Rd o A (au x))(O:x.length<=1000000)(K:fB g aw s G){N:Nat}(D:s.ok g N)(M:N+10<=1000000)(i:g.at o)(B:g.ok)(e:g.off (av [G]))(a:Own [G] o):Calls prog 183 #[ab aw,.slice A x.length bQ] o λr w=>∃bg ai,cw r (s.hX g x).2 bg/\fB g aw (s.hX g x).1 ai/\C o (av [G]) [ai,bg] w:=by
 obtain⟨c,ai,aA,bl,cv,cd,bX,bW,cf,ca,b9,y,rfl⟩:=K;obtain⟨d,F⟩:∃d,d=av [bd g aw s c++(ai++(aA++(bl++(cv++(cd++(bX++(bW++(cf++(ca++b9)))))))))]:=⟨_,j⟩;rw [<-F] at e⊢;have a:C o d [bd g aw s c++(ai++(aA++(bl++(cv++(cd++(bX++(bW++(cf++(ca++b9)))))))))] o:=F▸a;have a:=a.oa;refine a2 func183 (am 9 j (bS 7 (.bool false) j (aG Value.bool (j)) ?_));refine ar 3 j (ax (C.aj a) j) (bm 1 j j (λt=>?_) (λt=>?_))
 .refine aq 3 j j ?_;have p:s.hX g x=(s,[]):=a6 t;rw [p];exact⟨[],_,cw.nil,⟨c,ai,aA,bl,cv,cd,bX,bW,cf,ca,b9,y,j⟩,(C.gw a.as).empty.f1⟩
 refine am 8 j (cT 16 j (λz=>?_) (λz=>?_))
 .refine b8 4 j j (λJ=>?_) (λJ=>?_);refine bk 3 (g2 (c:=bQ) L (by omega)) j (λr w⟨E,H,k⟩=>?_);have a:=a.aL k;refine dF 2 (a.bc aw) j j j H.one (λw a=>?_);have a:C o d (bd g aw {s with want:=x} {c with want:=r}::_) w:=a
  obtain⟨b,l,n,I,a⟩:∃b,fB g aw (if 0<x.length/\x.length<=200 then{s with want:=x} else s:ak) b/\ak.ok g N (if 0<x.length/\x.length<=200 then{s with want:=x} else s:ak)/\True/\C o d [b] w:=by
   have f:0<x.length/\x.length<=200:=⟨by have:=dz z;omega,by omega⟩;rw [a6 f];have a:C o d [bd g aw {s with want:=x} {c with want:=r},ai,aA,E,cv,cd,bX,bW,cf,ca,b9] w:=a.as;exact⟨_,⟨{c with want:=r},ai,aA,E,cv,cd,bX,bW,cf,ca,b9,{y with want:=H},j⟩,{D with want:=f.2},aX,C.gw a⟩
  have m:=l4 l n (by omega) (i.st a e) B (a.eF i e) a.ours;refine bk 3 m j (λr w⟨bg,q,u,v,k⟩=>?_);rotate_left
  obtain⟨b,l,n,I,a⟩:∃b,fB g aw (if 0<x.length/\x.length<=200 then{s with want:=x} else s:ak) b/\ak.ok g N (if 0<x.length/\x.length<=200 then{s with want:=x} else s:ak)/\True/\C o d [b] o:=by
   have f:¬(0<x.length/\x.length<=200):=λh=>by omega
   rw [aI f];exact⟨_,⟨c,ai,aA,bl,cv,cd,bX,bW,cf,ca,b9,y,j⟩,D,aX,C.gw a.as⟩
  have m:=l4 l n (by omega) (i.st a e) B (a.eF i e) a.ours;refine bk 4 m j (λr w⟨bg,q,u,v,k⟩=>?_);rotate_left
  all_goals
   have a:=a.b2 k;refine aq 1 j j ?_;have p:s.hX g x=(if 0<x.length/\x.length<=200 then{s with want:=x} else s:ak).steps g:=aI (by rw [t];decide);rw [p];exact⟨bg,q,u,v,a⟩
 obtain⟨b,l,n,I,a⟩:∃b,fB g aw (if 0<x.length/\x.length<=200 then{s with want:=x} else s:ak) b/\ak.ok g N (if 0<x.length/\x.length<=200 then{s with want:=x} else s:ak)/\True/\C o d [b] o:=by
  have f:¬(0<x.length/\x.length<=200):=λh=>by have:=dM z;omega
  rw [aI f];exact⟨_,⟨c,ai,aA,bl,cv,cd,bX,bW,cf,ca,b9,y,j⟩,D,aX,C.gw a.as⟩
 have m:=l4 l n (by omega) (i.st a e) B (a.eF i e) a.ours;refine bk 9 m j (λr w⟨bg,q,u,v,k⟩=>?_);have a:=a.b2 k;refine aq 1 j j ?_;have p:s.hX g x=(if 0<x.length/\x.length<=200 then{s with want:=x} else s:ak).steps g:=aI (by rw [t];decide);rw [p];exact⟨bg,q,u,v,a⟩
theorem DJ{o:World}{aw:Nat}{g:al}{s:ak}{G:List Chunk}(z:fB g aw s G){N:Nat}(i:s.ok g N)(f:Holds o G):Calls prog 192 #[ab aw] o λr w=>∃v1 v2 b e,r= .tuple #[v1,v2,.bool s.dec]/\du v1 s.value b/\et v2 s.dK e/\C o [] [b,e] w:=by
 have a:Own [] o:=C.start o;obtain⟨c,ai,aA,bl,cv,cd,bX,bW,cf,ca,b9,l,rfl⟩:=z;have h:=f.left.head;have y:Holds o ca:=λx k=>f x (by simp [k])
 have v:Holds o b9:=λx k=>f x (by simp [k])
 obtain⟨J,n,q,_,_,E,_⟩:=l.value.read y;obtain⟨I,m,p,_,_,D,_⟩:=l.dK.read v;refine a2 func192 ?_;have a:=a.drew;refine bt 13 j (λw=>∃ad,C o [] ad w) ⟨_,a⟩ (af 0 3 j (bR 3 j (λw⟨_,a⟩=>ax (a.cc h) (aG some q)) (af 5 3 j (bR 8 j (λw⟨_,a⟩=>ax (a.cc h) (aG some p)) (af 10 3 j (bR 13 j (λw⟨_,a⟩=>ax (a.cc h) j) (aR 4 j (cO j j j (g2 (c:=n) (a.rd E (bT.of_nil _ _)) (by have:=i.value;omega)) (λF w⟨b,t,A⟩=>?_)))))))));have a:=a.aL A;refine an ⟨⟨_,a⟩,?_⟩;refine aR 9 j (cO j j j (lb (d:=m) (a.rd D (bT.of_nil _ _)) i.ri (by have:=i.dK;omega)) (λH w⟨e,u,B⟩=>?_));have a:=a.aL B;refine an ⟨⟨_,a⟩,?_⟩;exact af 14 3 j (bK (aq 0 j j ⟨F,H,b,e,j,t,u,a.as⟩))
theorem ak.HX{g:al}{s:ak}{r:ak×List aW}(h:s.step g=some r):r.2.length<=g.n:=by
 unfold ak.step at h;split at h
 .rename_i e;cases h;unfold ak.gX at e;cases bw:(dd s.az).findSome? λp=>s.fs g p.2 with
  |none=>rw [bw] at e;cases e
  |some y=>rw [bw] at e;cases e;exact b4 _
 .split at h
  .rename_i e;cases h;exact(ak.vV e).2
  .split at h
   .rename_i e;cases h;exact(ak.uD e).2
   .exact(ak.vW h).2
theorem ak.qF{g:al}(a:g.ok):∀(k:Nat)(s:ak)(l:List aW),(ak.go g k s l).2.length<=l.length+10*k
 |0,_,_=>by show _<=_;exact gF _ _
 |k+1,s,l=>by
  unfold ak.go;split
  .exact gF _ _
  .split
   .exact gF _ _
   .rename_i e8 bY e;have b:=ak.qF a k e8 (l++bY);have c:bY.length<=g.keys.length:=ak.HX e;have d:=a.n10;rw [b0] at b;omega
theorem ak.te{g:al}(a:g.ok)(s:ak):(s.steps g).2.length<=50:=ak.qF a 5 s []
theorem ak.AX(g:al)(s:ak):(s.gs g).2.length<=1:=by
 unfold ak.gs;dsimp only;split
 .exact b4 _
 .exact cI _
theorem uT{a b:Int}(c: -1000<=a/\a<=1000)(d: -1000<=b/\b<=1000):evalBin .add .i64 a b=some (.int .i64 (a+b)):=by
 show some (Value.int .i64 (IntKind.i64.wrap (a+b)))=_;rw [jY];exact aG (λz=>some (Value.int .i64 z)) (by omega)
theorem Ik{o:World}{aw:Nat}{g:al}{s:ak}{G:List Chunk}(aH:fB g aw s G){N:Nat}(b:s.ok g N)(aU:N+10<=1000000)(t:g.at o)(z:g.ok)(p:g.off (av [G]))(a:Own [G] o):Calls prog 154 #[ab aw] o λr w=>∃bg ai,cw r (s.tick g).2 bg/\fB g aw (s.tick g).1 ai/\C o (av [G]) [ai,bg] w:=by
 obtain⟨c,ai,aA,bl,cv,cd,bX,bW,cf,ca,b9,l,rfl⟩:=aH;obtain⟨d,ag⟩:∃d,d=av [bd g aw s c++(ai++(aA++(bl++(cv++(cd++(bX++(bW++(cf++(ca++b9)))))))))]:=⟨_,j⟩;rw [<-ag] at p⊢;have a:C o d [bd g aw s c++(ai++(aA++(bl++(cv++(cd++(bX++(bW++(cf++(ca++b9)))))))))] o:=ag▸a;have a:=a.oa;obtain⟨f,k,S,_⟩:=l.dH.form;obtain⟨i,dl,R,_⟩:=l.c3.form;refine a2 func154 (am 9 j (bS 8 (.bool false) j (aG Value.bool (j)) ?_));refine ar 3 j (ax (C.aj a) j) (am 2 j (cT 14 j (λO=>?_) (λO=>?_)))
 .refine aq 10 j j ?_;have u:s.tick g=(s,[]):=a6 (by rw [show s.dec=true from O];rfl);rw [u];exact⟨[],_,cw.nil,⟨c,ai,aA,bl,cv,cd,bX,bW,cf,ca,b9,l,j⟩,(C.gw a.as).empty.f1⟩
 refine ar 3 j (ax (C.aj a) j) (bm 2 j j (λJ=>?_) (λJ=>?_))
 .refine aq 3 j j ?_;have u:s.tick g=(s,[]):=a6 (by rw [show decide (s.view>=8)=true from J];simp);rw [u];exact⟨[],_,cw.nil,⟨c,ai,aA,bl,cv,cd,bX,bW,cf,ca,b9,l,j⟩,(C.gw a.as).empty.f1⟩
 have az:s.view<8:=by have:=dM J;omega
 refine ar 6 j (ax (C.aj a) j) (bq 0 j j j (uT (by have:=b.view;omega) (by omega)) (dF 2 (a.bc aw) j j j j (λw a=>?_)));have a:C o d (bd g aw {s with view:=s.view+1} c::_) w:=a;have a:C o d [bd g aw {s with view:=s.view+1} c,ai,aA,bl,cv,cd,bX,bW,cf,ca,b9] w:=a.as;have a:=a.drew;refine bt 1 j (λw=>∃ad,C o d ([bd g aw {s with view:=s.view+1} c]++ad) w) ⟨_,a⟩ (af 0 3 j (a8 3 j a1 j (af 4 4 j (a8 8 j a1 (aG some S) (af 9 4 j (a8 13 j a1 (aG some R) (aT 14 j (λw _=>e3 (c:=(⟨4,0,0,0,s.view+1,f,s.dH,k,i,s.c3,dl,cA⟩:aC).cs.toArray) j (λ_=>by kernel_rfl)) (aR 15 j (ew a j j (λM w a=>?_))))))))));have a:C o d ([bd g aw {s with view:=s.view+1} c]++_) w:=a.front;refine an ⟨⟨_,a⟩,?_⟩;refine dA 16 j (c2 (a.bc M) j j j (by simpa using(⟨4,0,0,0,s.view+1,f,s.dH,k,i,s.c3,dl,cA⟩:aC).one) j bG (λw a=>?_));have a:=C.whole (U:=(⟨4,0,0,0,s.view+1,f,s.dH,k,i,s.c3,dl,cA⟩:aC).cs) a j;have a:C o d [bd g aw {s with view:=s.view+1} c,bf M (⟨4,0,0,0,s.view+1,f,s.dH,k,i,s.c3,dl,cA⟩:aC),ai,aA,bl,cv,cd,bX,bW,cf,ca,b9] w:=a.as;refine an (cU ?_);have a:=a.drew;refine bt 1 j (λw=>∃ad,C o d ([bd g aw {s with view:=s.view+1} c]++ad) w) ⟨_,a⟩ (af 0 3 j (a8 3 j a1 j (af 4 3 j (a8 7 j a1 j (af 8 3 j (a8 11 j a1 j (aR 12 j (bB j j j (mA (t.st a p)) (λw hw=>?_)))))))));subst hw;refine an ⟨⟨_,a⟩,?_⟩;refine aR 13 j ?_;have e:=λo=>yV (o:=o) (s:=s.slot.toNat) (v:=(s.view+1).toNat) (n:=g.keys.length) (by have:=b.slot;omega) (by have:=b.view;omega) z.ic (by have:=z.n10;omega)
 rw [show((s.slot.toNat:Nat):Int)=s.slot from p5 b.slot.1,show(((s.view+1).toNat:Nat):Int)=s.view+1 from p5 (by have:=b.view;omega)] at e;refine bB j j j (e _) (λw aa=>?_);have a:=a.aL aa;have a:C o d [bd g aw {s with view:=s.view+1} c,bf M (⟨4,0,0,0,s.view+1,f,s.dH,k,i,s.c3,dl,cA⟩:aC),ai,aA,bl,cv,cd,bX,bW,cf,ca,b9] w:=a.as;refine an ⟨⟨_,a⟩,?_⟩;refine af 14 1 j (bK (ar 10 j (ax (C.aj a) j) (bm 1 j j (λK=>?_) (λK=>?_))));refine bM 3 (U:=(⟨4,0,0,0,s.view+1,f,s.dH,k,i,s.c3,dl,cA⟩:aC).cs) j j j (bn (C.aj a)) ?_;obtain⟨_,_,F,_,_,X,_⟩:=l.dH.read (a.holds (G:=ai) (by simp));obtain⟨_,_,H,_,_,Y,_⟩:=l.c3.read (a.holds (G:=aA) (by simp));rw [S] at F;rw [R] at H;cases F;cases H;have T:(⟨4,0,0,0,s.view+1,f,s.dH,k,i,s.c3,dl,cA⟩:aC).ok _:=⟨X,Y,b.ll,j⟩;have e:=s5 (aw:=aw) (s:={s with view:=s.view+1}) (c:=c) (C.aj a) (t.st a p) z T (by show s.dH.length<=10000;have:=b.dH;omega) (by show s.c3.length<=1000;have:=b.c3;omega) (to:=((nr s.slot.toNat (s.view+1).toNat g.keys.length:Nat):Int));refine bk 1 e j (λr w⟨q,D,W,L,I,y⟩=>?_);subst W;have a:=a.aL y;have aN:q.P.cQ:=by rw [I];exact ak.nC b.dH b.c3 b.ll
 have aO:q.v=s.view+1:=aG aW.v I;have e:=AH (aw:=aw) (g:=g) (s:={s with view:=s.view+1}) (c:=c) (m:=q) L aN b.slot (by rw [aO];have:=b.view;omega) l.dj (t.st a p) z (a.eF t p) a.ours;refine bp 0 e j (λw⟨ae,aM,y⟩=>?_);have a:=a.b2 y
 obtain⟨B,Z,x,Q,ap,aP,a⟩:∃B Z x,fB g aw (s.gs g).1 B/\cw Z (s.gs g).2 x/\Z= .slice none 0 0/\C o d [B,x] w:=by
  have u:s.gs g=(({s with view:=s.view+1}:ak).status g q.P,[]):=by
   unfold ak.gs;rw [show q.P=({s with view:=s.view+1}:ak).js g (⟨4,0,0,0,s.view+1,f,s.dH,k,i,s.c3,dl,cA⟩:aC).P ((nr s.slot.toNat (s.view+1).toNat g.keys.length:Nat):Int) from I];exact a6 (d5.1 K)
  rw [u];have a:C o d [bd g aw (({s with view:=s.view+1}:ak).status g q.P) c,ai,aA,bl,cv,cd,bX,bW,ae,ca,b9] w:=by rw [ak.tb];exact a.as
  exact⟨_,_,[],⟨c,ai,aA,bl,cv,cd,bX,bW,ae,ca,b9,by rw [ak.tb];exact{l with dj:=aM},j⟩,cw.nil,j,(C.gw a).empty.f1⟩
 subst aP;have V:=b.gs az;have e:=l4 Q V (by omega) (t.st a p) z (a.eF t p) a.ours;refine bk 4 e j (λr w⟨bg,ac,ah,au,y⟩=>?_);rotate_left
 refine bM 3 (U:=(⟨4,0,0,0,s.view+1,f,s.dH,k,i,s.c3,dl,cA⟩:aC).cs) j j j (bn (C.aj a)) ?_;obtain⟨_,_,F,_,_,X,_⟩:=l.dH.read (a.holds (G:=ai) (by simp));obtain⟨_,_,H,_,_,Y,_⟩:=l.c3.read (a.holds (G:=aA) (by simp));rw [S] at F;rw [R] at H;cases F;cases H;have T:(⟨4,0,0,0,s.view+1,f,s.dH,k,i,s.c3,dl,cA⟩:aC).ok _:=⟨X,Y,b.ll,j⟩;have e:=s5 (aw:=aw) (s:={s with view:=s.view+1}) (c:=c) (C.aj a) (t.st a p) z T (by show s.dH.length<=10000;have:=b.dH;omega) (by show s.c3.length<=1000;have:=b.c3;omega) (to:=((nr s.slot.toNat (s.view+1).toNat g.keys.length:Nat):Int));refine bk 1 e j (λr w⟨q,D,W,L,I,y⟩=>?_);subst W;have a:=a.aL y;have ay:q.tag.length=32:=(fF.one L).tag q (by simp);refine gi (U:=q.cs) a j j j (q.bU ay) (by decide) (by decide) (λaD w a=>?_);have aJ:Rd w (some ⟨aD,0,none⟩) q.cs:=a.bz;refine dR (a.empty) (Row.nil 53 39) j j (by decide) j j j (news:=q.cs) (q.bU ay) aJ (List.all_eq_true.1 q.one) (by omega) (by unfold maxLen;omega) (λv1 E w aK a=>?_);have a:C o d [bd g aw {s with view:=s.view+1} c,ai,aA,bl,cv,cd,bX,bW,cf,ca,b9,E++D] w:=C.perm (A:=[bd g aw {s with view:=s.view+1} c,ai,aA,bl,cv,cd,bX,bW,cf,ca,b9,E,D]) a.as (by simp);have aE:cw v1 [q.P] (E++D):=⟨[q],j,E,D,j,by simpa using aK,fF.one L⟩
 obtain⟨B,x,Q,ap,a⟩:∃B x,fB g aw (s.gs g).1 B/\cw v1 (s.gs g).2 x/\C o d [B,x] w:=by
  have u:s.gs g=({s with view:=s.view+1},[q.P]):=by
   unfold ak.gs;rw [show q.P=({s with view:=s.view+1}:ak).js g (⟨4,0,0,0,s.view+1,f,s.dH,k,i,s.c3,dl,cA⟩:aC).P ((nr s.slot.toNat (s.view+1).toNat g.keys.length:Nat):Int) from I];exact aI (λh=>by rw [show((((nr s.slot.toNat (s.view+1).toNat g.keys.length:Nat):Int):Int)==s.ao)=true from d5.2 h] at K;cases K)
  rw [u];exact⟨_,E++D,⟨c,ai,aA,bl,cv,cd,bX,bW,cf,ca,b9,{l with},j⟩,aE,C.gw a⟩
 have V:=b.gs az;have e:=l4 Q V (by omega) (t.st a p) z (a.eF t p) a.ours;refine bk 5 e j (λr w⟨bg,ac,ah,au,y⟩=>?_);rotate_left
 all_goals
  have a:=a.b2 y;refine nK (a.front (cC:=[x,bg])) ap ah j j (by decide) j j j (by have aQ:=ak.te z (s.gs g).1;have aS:=ak.AX g s;omega) (λv3 aB w aF a=>aq 1 j j ?_);have u:s.tick g=(((s.gs g).1.steps g).1,(s.gs g).2++((s.gs g).1.steps g).2):=aI (by rw [show s.dec=false from O,show decide (s.view>=8)=false from J];decide);rw [u];exact⟨aB,ac,aF,au,a.as⟩
structure aF where
 ao:Int
 log:List (List UInt8×List aE)
 cur:Option ak
 cy:List (List UInt8)
 stored:List (Int×aW)
 e0:Int
def aF.new(ao:Int):aF:=⟨ao,[],some (ak.new ao 0),[],[],0⟩
def aF.there(s:aF)(x:List UInt8):Bool:=(s.cy.any λy=>decide (y=x))||(s.log.any λe=>decide (e.1=x))
def hf(g:al)(c:Option ak)(m:aW):Option ak×List aW:=match c with
 |none=>(none,[])
 |some r=>(some (r.take g m).1,(r.take g m).2)
def fP(g:al)(c:Option ak)(x:List UInt8):Option ak×List aW:=match c with
 |none=>(none,[])
 |some r=>(some (r.hX g x).1,(r.hX g x).2)
def iG(g:al)(c:Option ak):Option ak×List aW:=match c with
 |none=>(none,[])
 |some r=>(some (r.tick g).1,(r.tick g).2)
def aF.slot(s:aF):Int:=(s.log.length:Int)
def aF.wanted(g:al)(s:aF):aF×List aW:=match s.cy with
 |[]=>(s,[])
 |x::_=>({s with cur:=(fP g s.cur x).1},(fP g s.cur x).2)
def aF.one(g:al)(a:aF×List aW)(p:Int×aW):aF×List aW:=
 if p.2.s=a.1.slot then({a.1 with stored:=fY a.1.stored p.1,cur:=(hf g a.1.cur p.2).1},a.2++(hf g a.1.cur p.2).2)
 else if p.2.s<=a.1.slot then({a.1 with stored:=fY a.1.stored p.1},a.2) else a
def aF.de(g:al)(s:aF):aF×List aW:=(dd s.stored).foldl (aF.one g) (s.wanted g)
def aF.next(s:aF)(r:ak):aF:={s with log:=s.log++[(r.value,r.dK)],cy:=s.cy.filter (λy=> !decide (y=r.value)),cur:=if s.log.length+1<64 then some (ak.new s.ao (s.log.length+1:Nat)) else none}
def aF.go(g:al):Nat->aF->List aW->aF×List aW
 |0,s,l=>(s,l)
 |n+1,s,l=>match s.cur with
  |none=>(s,l)
  |some r=>if r.dec then aF.go g n ((s.next r).de g).1 (l++((s.next r).de g).2) else(s,l)
def aF.h9(g:al)(s:aF)(l:List aW):aF×List aW:=aF.go g 65 s l
def aF.eQ(g:al)(s:aF)(x:List UInt8):aF×List aW×Int:=
 if x.length=0\/200<x.length then(s,[],1)
 else if s.there x then(s,[],0)
 else if 16<=s.cy.length\/s.cur.isNone then(s,[],3)
 else if 1<s.cy.length+1 then({s with cy:=s.cy++[x]},[],0)
 else((aF.h9 g {s with cy:=s.cy++[x],cur:=(fP g s.cur x).1} (fP g s.cur x).2).1,(aF.h9 g {s with cy:=s.cy++[x],cur:=(fP g s.cur x).1} (fP g s.cur x).2).2,0)
def aF.told(g:al)(s:aF)(m:aW):List aW:=
 if(m.k≠2/\m.k≠4)\/m.s<0\/m.f=s.ao\/g.check m.f m.body m.tag=false then []
 else match s.log[m.s.toNat]? with
  |none=>[]
  |some e=>[⟨5,s.ao,m.f,m.s,0,e.1,e.2,g.cu s.ao (⟨5,s.ao,m.f,m.s,0,e.1,e.2,[]⟩:aW).body⟩]
def aF.take(g:al)(s:aF)(m:aW):aF×List aW:=
 if m.k=1 then((s.eQ g m.x).1,(s.eQ g m.x).2.1)
 else if m.s<s.slot then(s,s.told g m)
 else if m.s=s.slot then aF.h9 g {s with cur:=(hf g s.cur m).1} (hf g s.cur m).2
 else if m.s-s.slot<=4/\s.stored.length<128 then({s with stored:=cj s.stored s.e0 m,e0:=s.e0+1},[])
 else(s,[])
def aF.tick(g:al)(s:aF):aF×List aW:=aF.h9 g {s with cur:=(iG g s.cur).1} (iG g s.cur).2
structure aF.ok(g:al)(N:Nat)(s:aF):Prop where
 ao:0<=s.ao/\s.ao<g.n
 log:s.log.length<=64
 ns:∀e∈s.log,e.1.length<=200/\e.2.length<=10/\∀v∈e.2,v.ok
 cur:∀r,s.cur=some r->r.ok g N/\s.log.length<64
 cy:s.cy.length<=16
 lr:∀x∈s.cy,x.length<=200
 stored:s.stored.length<=128
 lw:∀p∈s.stored,p.2.cQ
 e0:0<=s.e0/\s.e0<=N
theorem aF.ok.more{g:al}{N M:Nat}{s:aF}(h:s.ok g N)(b:N<=M):s.ok g M:={h with cur:=λr a=>⟨(h.cur r a).1.more b,(h.cur r a).2⟩,e0:=⟨h.e0.1,by have:=h.e0.2;omega⟩}
theorem ak.lo{g:al}{ao slot:Int}(hm:0<=ao/\ao<g.n)(aM:0<=slot/\slot<=63)(N:Nat):(ak.new ao slot).ok g N:=
 {ao:=hm,slot:=aM,view:=⟨h6 _,by show(0:Int)<=8;omega⟩,dH:=b4 _,c3:=b4 _,ll:=(by intro x a;cases a),want:=b4 _,props:=b4 _,sT:=(by intro x a;cases a),dh:=b4 _,py:=(by intro x a;cases a),cW:=b4 _,lN:=(by intro x a;cases a),az:=b4 _,j0:=(by intro x a;cases a),dj:=b4 _,mK:=(by intro x a;cases a),value:=b4 _,dK:=b4 _,ri:=(by intro x a;cases a)}
theorem pf{β:Type}:∀{m:List (Int×β)}{k:Int}{p:Int×β},p∈fY m k->p∈m
 |[],_,_,h=>by cases h
 |(J,u)::r,k,p,h=>by
  simp only [fY] at h;split at h
  .exact lG _ h
  .rcases g1.1 h with h|h
   .exact h▸oF
   .exact lG _ (pf h)
theorem vq{β:Type}:∀(m:List (Int×β))(k:Int),(fY m k).length<=m.length
 |[],_=>cI _
 |(J,u)::r,k=>by
  simp only [fY];split
  .simp
  .have:=vq r k;simp only [eu];omega
theorem aF.ok.wanted{g:al}{N M:Nat}{s:aF}(h:s.ok g N)(e:g.ok)(d:∀r,s.cur=some r->r.ok g M):(s.wanted g).1.ao=s.ao/\(s.wanted g).1.log=s.log/\(s.wanted g).1.cy=s.cy/\(s.wanted g).1.stored=s.stored/\(s.wanted g).1.e0=s.e0/\∀r,(s.wanted g).1.cur=some r->r.ok g (M+5)/\s.log.length<64:=by
 unfold aF.wanted;split
 .exact⟨j,j,j,j,j,λr a=>⟨(d r a).more (by omega),(h.cur r a).2⟩⟩
 .refine⟨j,j,j,j,j,λr a=>?_⟩;dsimp only at a;unfold fP at a;cases b:s.cur with
  |none=>rw [b] at a;cases a
  |some c=>
   rw [b] at a;have a:(c.hX g _).1=r:=hB a;rw [<-a];exact⟨(d c b).hX e,(h.cur c b).2⟩
theorem aF.zH(g:al)(a:aF×List aW)(p:Int×aW):((aF.one g a p).1.ao=a.1.ao/\(aF.one g a p).1.log=a.1.log/\(aF.one g a p).1.cy=a.1.cy/\(aF.one g a p).1.e0=a.1.e0)/\(aF.one g a p).1.stored.length<=a.1.stored.length/\(∀q∈(aF.one g a p).1.stored,q∈a.1.stored):=by
 unfold aF.one;split
 .exact⟨⟨j,j,j,j⟩,vq _ _,λq b=>pf b⟩
 .split
  .exact⟨⟨j,j,j,j⟩,vq _ _,λq b=>pf b⟩
  .exact⟨⟨j,j,j,j⟩,cI _,λq b=>b⟩
theorem sa{g:al}{c:Option ak}{m:aW}{M:Nat}(e:g.ok)(hm:m.cQ)(h:∀r,c=some r->r.ok g M):∀r,(hf g c m).1=some r->r.ok g (M+6):=by
 intro r a;unfold hf at a;cases b:c with
 |none=>rw [b] at a;cases a
 |some d=>
  rw [b] at a;have a:(d.take g m).1=r:=hB a;rw [<-a];exact(h d b).take e hm
theorem uE{g:al}{c:Option ak}{M:Nat}(e:g.ok)(h:∀r,c=some r->r.ok g M):∀r,(iG g c).1=some r->r.ok g (M+6):=by
 intro r a;unfold iG at a;cases b:c with
 |none=>rw [b] at a;cases a
 |some d=>
  rw [b] at a;have a:(d.tick g).1=r:=hB a;rw [<-a];exact(h d b).tick e
theorem uH{g:al}{c:Option ak}{x:List UInt8}{M:Nat}(e:g.ok)(h:∀r,c=some r->r.ok g M):∀r,(fP g c x).1=some r->r.ok g (M+5):=by
 intro r a;unfold fP at a;cases b:c with
 |none=>rw [b] at a;cases a
 |some d=>
  rw [b] at a;have a:(d.hX g x).1=r:=hB a;rw [<-a];exact(h d b).hX e
theorem sb{g:al}{c:Option ak}{m:aW}:(hf g c m).1.isSome=c.isSome:=by cases c<;>rfl
theorem uF{g:al}{c:Option ak}:(iG g c).1.isSome=c.isSome:=by cases c<;>rfl
theorem sc{g:al}{c:Option ak}{x:List UInt8}:(fP g c x).1.isSome=c.isSome:=by cases c<;>rfl
theorem aF.zG{g:al}{a:aF×List aW}{p:Int×aW}{M:Nat}(c:g.ok)(d:p.2.cQ)(h:∀r,a.1.cur=some r->r.ok g M):∀r,(aF.one g a p).1.cur=some r->r.ok g (M+6):=by
 unfold aF.one;split
 .exact sa c d h
 .split
  .exact λr b=>(h r b).more (by omega)
  .exact λr b=>(h r b).more (by omega)
theorem aF.Gm{g:al}{a:aF×List aW}{p:Int×aW}:(aF.one g a p).1.cur.isSome=a.1.cur.isSome:=by
 unfold aF.one;split
 .exact sb
 .split<;>rfl
theorem aF.qB{g:al}(d:g.ok):∀(l:List (Int×aW))(a:aF×List aW)(M:Nat),(∀p∈l,p.2.cQ)->(∀r,a.1.cur=some r->r.ok g M)->
 ((l.foldl (aF.one g) a).1.ao=a.1.ao/\(l.foldl (aF.one g) a).1.log=a.1.log/\(l.foldl (aF.one g) a).1.cy=a.1.cy/\(l.foldl (aF.one g) a).1.e0=a.1.e0)/\(l.foldl (aF.one g) a).1.stored.length<=a.1.stored.length/\(∀q∈(l.foldl (aF.one g) a).1.stored,q∈a.1.stored)/\(∀r,(l.foldl (aF.one g) a).1.cur=some r->r.ok g (M+6*l.length))/\(l.foldl (aF.one g) a).1.cur.isSome=a.1.cur.isSome
 |[],a,M,_,h=>⟨⟨j,j,j,j⟩,cI _,λq b=>b,h,j⟩
 |p::r,a,M,c,h=>by
  obtain⟨⟨e,f,i,k⟩,m,n⟩:=aF.zH g a p;obtain⟨⟨f1,f2,f3,f4⟩,f5,f6,f7,f8⟩:=aF.qB d r (aF.one g a p) (M+6) (λq b=>c q (by simp [b])) (aF.zG d (c p (by simp)) h);rw [iC];refine⟨⟨f1.trans e,f2.trans f,f3.trans i,f4.trans k⟩,ek f5 m,λq b=>n q (f6 q b),λx o=>(f7 x o).more (by rw [eu];omega),f8.trans aF.Gm⟩
theorem aF.IM{g:al}{s:aF}:(s.wanted g).1.cur.isSome=s.cur.isSome:=by
 unfold aF.wanted;split
 .rfl
 .exact sc
theorem aF.ok.de{g:al}{N M:Nat}{s:aF}(h:s.ok g N)(f:g.ok)(n:∀r,s.cur=some r->r.ok g M)(t:M+773<=N):(s.de g).1.ok g N:=by
 obtain⟨i,b,d,e,j,k⟩:=h.wanted f n;have o:∀p∈dd s.stored,p.2.cQ:=λp c=>h.lw p (g0.1 c)
 obtain⟨⟨f1,f2,f3,f4⟩,f5,f6,f7,f8⟩:=aF.qB f (dd s.stored) (s.wanted g) (M+5) o (λr a=>(k r a).1);have hlen:(dd s.stored).length<=128:=by rw [hQ];exact h.stored
 unfold aF.de;refine⟨by rw [f1,i];exact h.ao,by rw [f2,b];exact h.log,by rw [f2,b];exact h.ns,λr a=>⟨(f7 r a).more (by omega),?_⟩,by rw [f3,d];exact h.cy,by rw [f3,d];exact h.lr,Nat.le_trans f5 (by rw [e];exact h.stored),λp c=>h.lw p (by have:=f6 p c;rwa [e] at this),by rw [f4,j];exact h.e0⟩;rw [f2,b];have l:s.cur.isSome=true:=by rw [<-aF.IM (g:=g),<-f8,a];rfl
 obtain⟨q,m⟩:=ha.1 l;exact(h.cur q m).2
theorem aF.kw{g:al}{N:Nat}{s:aF}{r:ak}(h:s.ok g N)(i:s.cur=some r):(s.next r).ok g N/\∀q,(s.next r).cur=some q->q.ok g 0:=by
 have l:=(h.cur r i).2;have d:=(h.cur r i).1
 have a:∀q,(s.next r).cur=some q->q=ak.new s.ao (s.log.length+1:Nat)/\s.log.length+1<64:=λq a=>by
  unfold aF.next at a;dsimp only at a;split at a
  .cases a;exact⟨j,by assumption⟩
  .cases a
 have f:∀q(K:Nat),(s.next r).cur=some q->q.ok g K:=λq K b=>by
  obtain⟨rfl,c⟩:=a q b;exact ak.lo h.ao ⟨by omega,by omega⟩ K
 refine⟨⟨h.ao,?_,?_,λq b=>⟨f q N b,?_⟩,?_,?_,h.stored,h.lw,h.e0⟩,λq b=>f q 0 b⟩
 .show(s.log++[(r.value,r.dK)]).length<=64;rw [b0,List.length_singleton];omega
 .intro e he;rcases dv.1 (show e∈s.log++[(r.value,r.dK)] from he) with c|c
  .exact h.ns e c
  .rw [fT.1 c];exact⟨d.value,d.dK,d.ri⟩
 .show(s.log++[(r.value,r.dK)]).length<64;rw [b0,List.length_singleton];exact(a q b).2
 .exact ek (oK _ _) h.cy
 .exact λx k=>h.lr x (jC.1 k).1
theorem aF.yy{g:al}(a:g.ok):∀(k:Nat){N:Nat}{s:aF}{l:List aW},s.ok g N->773<=N->(aF.go g k s l).1.ok g N
 |0,_,_,_,h,_=>h
 |k+1,N,s,l,h,d=>by
  unfold aF.go;split
  .exact h
  .rename_i r e;split
   .obtain⟨b,c⟩:=aF.kw h e;exact aF.yy a k (b.de a c (by omega)) d
   .exact h
theorem Bz{n:Nat}{Z:Env}{w:World}{P:Program}{dst:Option Nat}{ty:TypeId}{pos:String}{after:Array Edge}{g:Option (Nat×Bool)}{f:FuncId}{aD cs:Array Operand}{xs da:List Value}(e:fu Z aD.toList=some xs)(h:fu Z cs.toList=some da):
 ∀a,cK Z n a->(execOp a.eval ⟨dst,.makeFunc (.func f) aD cs,ty,pos,after,g⟩).run P w= .ok (.value (.func (.func f) xs.toArray da.toArray)) w:=λa b=>by
 have c:aD.map a.eval=xs.toArray:=by apply fx;rw [hq,b.hv e]
 have d:cs.map a.eval=da.toArray:=by apply fx;rw [hq,b.hv h]
 simp [execOp,c,d,Instr.makeFunc,Act.eval,Result.andThen]
def kh:List (Value×Value)->List (List UInt8×List aE)->List Chunk->Prop
 |[],[],G=>G=[]
 |e::es,x::l,G=>∃ai aA bl,G=ai++(aA++bl)/\du e.1 x.1 ai/\et e.2 x.2 aA/\kh es l bl
 |[],_::_,_=>False
 |_::_,[],_=>False
abbrev DV(es:List (Value×Value)):List Value:=es.flatMap λe=>[e.1,e.2]
def nH(v:Value)(l:List (List UInt8×List aE))(G:List Chunk):Prop:=∃ag H es,G=ag++H/\Row 154 2 v l.length (DV es) ag/\kh es l H
theorem kh.len:∀{es:List (Value×Value)}{l:List (List UInt8×List aE)}{G:List Chunk},kh es l G->es.length=l.length
 |[],[],_,_=>rfl
 |[],_::_,_,h=>h.elim
 |_::_,[],_,h=>h.elim
 |_::es,_::l,_,⟨_,_,_,_,_,_,h⟩=>by simp [h.len]
theorem kh.app:∀{es c:List (Value×Value)}{l bY:List (List UInt8×List aE)}{G a:List Chunk},kh es l G->kh c bY a->kh (es++c) (l++bY) (G++a)
 |[],_,[],_,_,_,h,b=>by have h:_=[]:=h;subst h;exact b
 |[],_,_::_,_,_,_,h,_=>h.elim
 |_::_,_,[],_,_,_,h,_=>h.elim
 |_::_,_,_::_,_,_,a,⟨ai,aA,bl,rfl,d,e,h⟩,b=>⟨ai,aA,bl++a,by simp [dJ],d,e,h.app b⟩
theorem kh.one{e:Value×Value}{x:List UInt8×List aE}{ai aA:List Chunk}(a:du e.1 x.1 ai)(b:et e.2 x.2 aA):kh [e] [x] (ai++aA):=⟨ai,aA,[],by simp,a,b,j⟩
theorem kh.read{w:World}:∀{es:List (Value×Value)}{l:List (List UInt8×List aE)}{G:List Chunk},kh es l G->Holds w G->∀(i:Nat)(b:i<l.length),∃A c B d,es[i]? =some (.slice A l[i].1.length c,.slice B l[i].2.length d)/\l[i].1.length<=c/\c<=maxLen/\Rd w A (au l[i].1)/\l[i].2.length<=d/\Rd w B (vcs l[i].2)
 |[],[],_,_,_,i,b=>by simp at b
 |[],_::_,_,h,_,_,_=>h.elim
 |_::_,[],_,h,_,_,_=>h.elim
 |(u,v)::es,x::l,_,⟨ai,aA,bl,rfl,hu,k,h⟩,a,0,_=>by
  obtain⟨A,c,f,m,n,o,_⟩:=hu.read a.left;obtain⟨B,d,g,p,_,q,_⟩:=k.read a.right.left;have f:u=_:=f;have g:v=_:=g;subst f;subst g;exact⟨A,c,B,d,j,m,n,o,p,q⟩
 |e::es,x::l,_,⟨ai,aA,bl,rfl,hu,k,h⟩,a,i+1,b=>by
  have:=h.read a.right.right i (by simpa using b);simpa using this
def kC(g:al)(v:Value)(c:Option ak)(G:List Chunk):Prop:=(c=none/\v= .pointer none/\G=[])\/∃r aw,c=some r/\v=ab aw/\fB g aw r G
structure kk where
 log:Value
 cur:Value
 cy:Value
 stored:Value
abbrev ps(g:al)(s:aF)(c:kk):List Value:=[g.p,ae s.ao,c.log,c.cur,c.cy,c.stored,ae s.e0]
abbrev cz(g:al)(ba:Nat)(s:aF)(c:kk):List Chunk:=R ba (ps g s c).toArray 152
structure B2(g:al)(s:aF)(c:kk)(L bb Q D:List Chunk):Prop where
 log:nH c.log s.log L
 cur:kC g c.cur s.cur bb
 cy:ir c.cy s.cy Q
 stored:jc c.stored s.stored D
def iv(g:al)(ba:Nat)(s:aF)(G:List Chunk):Prop:=∃(c:kk)(L bb Q D:List Chunk),B2 g s c L bb Q D/\G=cz g ba s c++(L++(bb++(Q++D)))
theorem C.qS{g:al}{ba:Nat}{s:aF}{c:kk}{L bb Q D:List Chunk}{ad:List (List Chunk)}{o w:World}{F:List Nat}(h:C o F ((cz g ba s c++(L++(bb++(Q++D))))::ad) w):C o F (cz g ba s c::L::bb::Q::D::ad) w:=h.perm (by simp)
theorem C.iJ{g:al}{ba:Nat}{s:aF}{c:kk}{L bb Q D:List Chunk}{ad:List (List Chunk)}{o w:World}{F:List Nat}(h:C o F (cz g ba s c::L::bb::Q::D::ad) w):C o F ((cz g ba s c++(L++(bb++(Q++D))))::ad) w:=h.perm (by simp)
theorem F2{o:World}{g:al}{ao:Int}:Calls prog 68 #[g.p,ae ao] o λr w=>∃ba G,r=ab ba/\iv g ba (aF.new ao) G/\C o [] [G] w:=by
 have a:Own [] o:=C.start o;refine a2 func68 ?_;refine bk 9 (zt (slot:=0)) j (λr w⟨aw,cH,f,i,e⟩=>?_);subst f;have a:=a.aL e;refine bk 0 vD j (λr w⟨b,h,f,k,e⟩=>?_);subst f;have a:=a.aL e;refine cN (c:=(ps g (aF.new ao) (⟨.slice none 0 0,ab aw,.slice none 0 0,ab b⟩:kk)).toArray) j j j (λ_=>by kernel_rfl) ?_;refine bL 0 a j j (λd w a=>?_);refine aq 1 j j ?_;have a:C o [] (cz g d (aF.new ao) (⟨.slice none 0 0,ab aw,.slice none 0 0,ab b⟩:kk)::_) w:=a;refine⟨d,_,j,⟨(⟨.slice none 0 0,ab aw,.slice none 0 0,ab b⟩:kk),[],cH,[],ay 296 b h (.map #[] 0),⟨⟨[],[],[],j,Row.nil _ _,j⟩,.inr ⟨_,aw,j,j,i⟩,⟨[],[],[],j,Row.nil _ _,j⟩,fv.new k⟩,j⟩,?_⟩;exact C.perm (A:=[cz g d (aF.new ao) (⟨.slice none 0 0,ab aw,.slice none 0 0,ab b⟩:kk),cH,ay 296 b h (.map #[] 0)]) a.as (by simp)
theorem EJ{o:World}{ez:FuncId}[Entry prog ez]{be:Array Value}{p:List UInt8->Bool}{T:World->Prop}(N:∀(g:World)(A B:Option Addr)(x:List UInt8)(l:List aE)(bQ d:Nat),T g->Rd g A (au x)->Calls prog ez (#[]++ #[.agg #[.slice A x.length bQ,.slice B l.length d]]++be) g (λr w=>r= .bool (p x)/\C g [] [] w))(L:∀w,C o [] [] w->T w){v:Value}{l:List (List UInt8×List aE)}{G:List Chunk}(M:nH v l G)(s:Holds o G):Calls prog 268 #[v,.func (.func ez) #[] be] o λr w=>(∃z:Int,r= .int .i64 z/\decide (z>=0)=l.any λe=>p e.1)/\C o [] [] w:=by
 have a:Own [] o:=C.start o;obtain⟨X,W,es,rfl,K,q⟩:=M;obtain⟨E,H,rfl,af,S,P,_⟩:=K.read s.left;have ab:=q.len;have t:∀e∈es,([e.1,e.2]:List Value).length=2:=λ_ _=>rfl
 refine a2 func268 ?_
 refine cJ 10 j (ct:=Nat) (λi=>[(0,.slice E l.length H),(1,.func (.func ez) #[] be),(7,.int .i64 (l.length:Nat)),(8,.int .i64 (i:Nat))])
  (λi w=>i<=l.length/\((l.take i).any λe=>p e.1)=false/\C o [] [] w) (λi=>l.length-i) 0 ⟨j,j,j,j,aX⟩ ⟨b4 _,j,a⟩ ?_
 rintro i w ⟨ac,n,a⟩;refine b8 4 j j (λF=>?_) (λF=>?_)
 .have b:i<l.length:=by omega
  obtain⟨c,ci,h,m,R,ad,ae,Q,_,_⟩:=q.read (s.right.st a) i b;have u:es[i]'(by omega)=(.slice c l[i].1.length ci,.slice h l[i].2.length m):=by have:=R;rw [cn (by omega)] at this;exact hB this
  have D:=a.rd P (bT.of_nil _ _);refine am 12 j (fp j j j j D (v:=.slice c l[i].1.length ci) (h8 (f:=λe:Value×Value=>[e.1,e.2]) (J:=0) es t i (by omega) (by decide) (by rw [u];rfl)) b (λY I Z=>?_));subst I;have y:=i0 (f:=λe:Value×Value=>[e.1,e.2]) D t i (by omega);rw [u] at y;refine bM 0 (U:=[.slice c l[i].1.length ci,.slice h l[i].2.length m]) j j j y (hL j j j j (N _ c h l[i].1 l[i].2 ci m (L _ a) Q) (λr w⟨V,aa⟩=>?_));subst V;have a:=(a.aL aa).bare;refine bm 0 j j (λk=>?_) (λk=>?_)
  .refine aq 4 j j (⟨⟨_,j,?_⟩,a⟩);rw [je (by omega)];exact(ko.2 ⟨_,d9 b,k⟩).symm
  refine bq 2 j j j (cE i (by unfold maxLen at S;omega)) (bI 1 j (⟨i+1,⟨j,j,j,j,aX⟩,⟨b,?_,a⟩,by omega⟩));rw [fr b,rO,n];simp [k]
 refine aq 4 j j ?_;have O:i=l.length:=by omega
 rw [O,gj] at n;exact⟨⟨_,j,by rw [n];rfl⟩,a⟩
theorem DB{o:World}{ez:FuncId}[Entry prog ez]{be:Array Value}{p:List UInt8->Bool}{T:World->Prop}(g:∀(a:World)(A B:Option Addr)(x:List UInt8)(l:List aE)(bQ d:Nat),T a->Rd a A (au x)->Calls prog ez (#[]++ #[.agg #[.slice A x.length bQ,.slice B l.length d]]++be) a (λr w=>r= .bool (p x)/\C a [] [] w))(c:∀w,C o [] [] w->T w){v:Value}{l:List (List UInt8×List aE)}{G:List Chunk}(f:nH v l G)(b:Holds o G):Calls prog 221 #[v,.func (.func ez) #[] be] o λr w=>r= .bool (l.any λe=>p e.1)/\C o [] [] w:=by
 refine a2 func221 (bk 7 (EJ g c f b) j (λr w⟨⟨z,h,i⟩,aa⟩=>?_));subst h;exact aq 2 j j ⟨aG Value.bool i,aa⟩
theorem AW{o:World}{a:Nat}{A B:Option Addr}{xs da:List UInt8}{bQ d:Nat}(e:o.heap[a]? =some (.cells #[.slice B da.length d] 28 (0,0)))(b:Rd o A (au xs))(c:Rd o B (au da)):Calls prog 219 (#[]++ #[.slice A xs.length bQ]++ #[ab a]) o λr w=>r= .bool (decide (xs=da))/\w=o:=by
 refine a2 func219 (ar 6 j (ax e j) (bp 0 (qx b c) j (λw hw=>?_)));subst hw;exact aq 1 j j ⟨j,j⟩
theorem Ih{o:World}{b c:Nat}{A B bb:Option Addr}{xs da:List UInt8}{l:List aE}{bQ d dl:Nat}(g:o.heap[b]? =some (.cells #[.slice B da.length d] 28 (0,0)))(h:o.heap[c]? =some (.cells #[.func (.func 219) #[] #[ab b]] 307 (0,0)))(e:Rd o A (au xs))(f:Rd o B (au da)):Calls prog 222 (#[]++ #[.agg #[.slice A xs.length bQ,.slice bb l.length dl]]++ #[ab c]) o λr w=>r= .bool (decide (xs=da))/\C o [] [] w:=by
 have a:Own [] o:=C.start o;refine a2 func222 (bL 2 a j j (λaO w a=>ar 3 j (ax (a.cc h) j) (ar 1 j (ax (C.aj a) j) (hL j j j j (AW (a.cc g) (a.rd e (bT.of_nil _ _)) (a.rd f (bT.of_nil _ _))) (λr w⟨i,hw⟩=>?_)))));subst i;subst hw;exact aq 1 j j ⟨j,a.bare⟩
theorem EV{o:World}{ba:Nat}{g:al}{s:aF}{c:kk}(n:o.heap[ba]? =some (.cells (ps g s c).toArray 152 (0,0))){L Q:List Chunk}(z:nH c.log s.log L)(B:ir c.cy s.cy Q)(u:Holds o L)(v:Holds o Q){A:Option Addr}{x:List UInt8}{bQ:Nat}(q:Rd o A (au x)):Calls prog 182 #[ab ba,.slice A x.length bQ] o λr w=>r= .bool (s.there x)/\C o [] [] w:=by
 have a:Own [] o:=C.start o;refine a2 func182 (bL 2 a j j (λd w a=>?_));have a:C o [] [R d #[.slice A x.length bQ] 28] w:=a;refine am 3 j (gZ j j j j ?_);refine b7 0 a j (λe w a=>dF 0 (a.bc e) j j j j (λw a=>?_));have a:C o [] ([(e,.cells #[.func (.func 219) #[] #[ab d]] 307 (0,0))]::_) w:=a;have a:C o [] [R d #[.slice A x.length bQ] 28,[(e,.cells #[.func (.func 219) #[] #[ab d]] 307 (0,0))]] w:=a.as;have a:=a.drew;refine bt 1 j (λw=>∃ad,C o [] ([R d #[.slice A x.length bQ] 28,[(e,.cells #[.func (.func 219) #[] #[ab d]] 307 (0,0))]]++ad) w) ⟨_,a⟩ (af 0 3 j (bR 3 j (λw⟨_,a⟩=>ax (a.cc n) j) (a8 4 j a1 j (aR 5 j ?_))));have l:=xG (p:=λy=>decide (y=x)) (be:= #[ab d]) (ez:=219) (λgY e9 t i=>AW (C.aj a) i (a.rd q (bT.of_nil _ _))) B (v.st a);refine bB j j j l (λw hw=>?_);subst hw;refine an ⟨⟨_,a⟩,?_⟩;refine af 6 1 j (ef 13 j (λm=>?_) (λm=>?_));refine af 7 8 j ?_;rotate_left
 refine af 7 3 j (bR 10 j (λw⟨_,a⟩=>ax (a.cc n) j) (aT 11 j (λw⟨_,a⟩=>Bz j j) (aR 12 j ?_)));have D:=C.aj (b:=d) a;have E:=C.aj (b:=e) a;have l:=DB (p:=λy=>decide (y=x)) (be:= #[ab e]) (ez:=222) (T:=λf=>f.heap[d]? =some (.cells #[.slice A x.length bQ] 28 (0,0))/\f.heap[e]? =some (.cells #[.func (.func 219) #[] #[ab d]] 307 (0,0))/\Rd f A (au x)) (λf gY F e9 bY t G k i=>Ih k.1 k.2.1 i k.2.2) (λf h=>⟨h.cc D,h.cc E,h.rd (a.rd q (bT.of_nil _ _)) (bT.of_nil _ _)⟩) z (u.st a);refine bB j j j l (λw aa=>?_);have a:=a.aL aa;have a:C o [] [R d #[.slice A x.length bQ] 28,[(e,.cells #[.func (.func 219) #[] #[ab d]] 307 (0,0))]] w:=a.as;refine an ⟨⟨_,a⟩,?_⟩;refine af 13 2 j ?_;rotate_left
 all_goals
  refine bK (aq 0 j j (⟨aG Value.bool ?_,a.bare⟩));unfold aF.there;rw [m];rfl
abbrev nG(p:List UInt8->Bool)(us:List Value)(l:List (List UInt8))(J:Nat):List Value:=(((us.zip l).take J).filter λe=> !p e.2).map Prod.fst
theorem tD{p:List UInt8->Bool}{us:List Value}{l:List (List UInt8)}{J:Nat}(c:us.length=l.length)(b:J<l.length):nG p us l (J+1)=nG p us l J++(if p l[J]=true then [] else [us[J]'(by omega)]):=by
 unfold nG;rw [fr (by rw [oL];omega),m1,List.map_append,List.getElem_zip];by_cases a:p l[J]=true
 .rw [a6 a];simp [a]
 .rw [aI a];simp [a]
theorem Bk{p:List UInt8->Bool}{us:List Value}{l:List (List UInt8)}:∀{J:Nat},us.length=l.length->J<=l.length->(l.take J).any p=false->nG p us l J=us.take J
 |0,_,_,_=>by simp [nG]
 |J+1,a,d,h=>by
  have b:J<l.length:=d;rw [fr b,rO] at h;simp only [Bool.or_eq_false_iff] at h;have c:p l[J]=false:=by simpa using h.2
  rw [tD a b,Bk a (by omega) h.1,aI (by rw [c];decide),fr (show J<us.length by omega)]
theorem hY.yc{p:List UInt8->Bool}:∀{us:List Value}{l:List (List UInt8)}{H:List Chunk},hY us l H->∃H1 ag,H.Perm (H1++ag)/\hY (((us.zip l).filter λe=> !p e.2).map Prod.fst) (l.filter λx=> !p x) H1
 |[],[],_,h=>⟨[],[],by have h:_=[]:=h;subst h;exact .refl _,j⟩
 |[],_::_,_,h=>h.elim
 |_::_,[],_,h=>h.elim
 |u::us,x::l,_,⟨ai,aA,rfl,hu,h⟩=>by
  obtain⟨H1,ag,b,a⟩:=h.yc (p:=p);by_cases c:p x=true
  .refine⟨H1,ai++ag,?_,?_⟩
   .refine(p0 ai b).trans ?_;rw [<-dJ,<-dJ];exact oS _ lF
   .simpa [ua,p3,c] using a
  .refine⟨ai++H1,ag,?_,?_⟩
   .rw [dJ];exact p0 ai b
   .simp only [ua,p3,c,Bool.not_false,kq,jW];exact⟨ai,H1,j,hu,a⟩
theorem EH{o:World}{ez:FuncId}[Entry prog ez]{be:Array Value}{p:List UInt8->Bool}{T:World->Prop}(y:∀(c:World)(A:Option Addr)(x:List UInt8)(bQ:Nat),T c->Rd c A (au x)->Calls prog ez (#[]++ #[.slice A x.length bQ]++be) c (λr w=>r= .bool (p x)/\w=c))(s:T o){v:Value}{l:List (List UInt8)}{G:List Chunk}(t:ir v l G)(f:Holds o G):Calls prog 236 #[v,.func (.func ez) #[] be] o λr w=>(∃z:Int,r= .int .i64 z/\((z= -1/\l.any p=false)\/∃i:Nat,∃h:i<l.length,z=i/\(l.take i).any p=false/\p l[i]=true))/\w=o:=by
 obtain⟨J,I,us,rfl,q,n⟩:=t;obtain⟨g,m,rfl,P,F,C,_⟩:=q.read f.left;refine a2 func236 ?_
 refine cJ 10 j (ct:=Nat) (λi=>[(0,.slice g l.length m),(1,.func (.func ez) #[] be),(7,.int .i64 (l.length:Nat)),(8,.int .i64 (i:Nat))])
  (λi w=>i<=l.length/\(l.take i).any p=false/\w=o) (λi=>l.length-i) 0 ⟨j,j,j,j,aX⟩ ⟨b4 _,j,j⟩ ?_
 rintro i w ⟨M,b,hw⟩;subst hw;refine b8 4 j j (λk=>?_) (λk=>?_)
 .have a:i<l.length:=by omega
  obtain⟨e,ci,E,N,O,D⟩:=n.read f.right i a;refine am 12 j (fp j j j j C (v:=.slice e l[i].length ci) (by rw [gG];exact E) a (λK L u=>?_));refine ar 0 j u (hL j j j j (y _ e l[i] ci s D) (λr w⟨H,hw⟩=>?_));subst H;subst hw;refine bm 0 j j (λd=>?_) (λd=>?_)
  .exact aq 4 j j ⟨⟨_,j,.inr ⟨i,a,j,b,d⟩⟩,j⟩
  refine bq 2 j j j (cE i (by unfold maxLen at F;omega)) (bI 1 j (⟨i+1,⟨j,j,j,j,aX⟩,⟨a,?_,j⟩,by omega⟩));rw [fr a,rO,b];simp [d]
 refine aq 4 j j ?_;have B:i=l.length:=by omega
 rw [B,gj] at b;exact⟨⟨_,j,.inl ⟨j,b⟩⟩,j⟩
theorem DP{o:World}{ez:FuncId}[Entry prog ez]{be:Array Value}{p:List UInt8->Bool}{T:World->Prop}(Y:∀(H:World)(A:Option Addr)(x:List UInt8)(bQ:Nat),T H->Rd H A (au x)->Calls prog ez (#[]++ #[.slice A x.length bQ]++be) H (λr w=>r= .bool (p x)/\w=H)){v:Value}{l:List (List UInt8)}{G:List Chunk}(P:∀w ad,C o (av [G]) ad w->T w)(Q:ir v l G)(a:Own [G] o):Calls prog 193 #[v,.func (.func ez) #[] be] o λr w=>∃ai,ir r (l.filter λx=> !p x) ai/\C o (av [G]) [ai] w:=by
 obtain⟨q,X⟩:∃q,q=av [G]:=⟨_,j⟩;rw [<-X] at P⊢;have a:C o q [G] o:=X▸a;refine a2 func193 (bk 7 (EH Y (P _ _ a) Q a.vb) j (λr w⟨⟨z,aC,F⟩,hw⟩=>?_));subst aC;have hw:=hw.symm;subst hw;refine bm 6 j j (λt=>?_) (λt=>?_)
 .refine aq 4 j j ?_
  have ak:l.any p=false:=by
   rcases F with h|⟨i,_,rfl,_⟩
   .exact h.2
   .have:=d5.1 t;omega
  have e:(l.filter λx=> !p x)=l:=List.filter_eq_self.2 (λx E=>by
   rcases h:p x with _|_
   ·rfl
   ·have:=ko.2 ⟨x,E,h⟩;rw [ak] at this;cases this)
  rw [e];exact⟨G,Q,a⟩
 obtain⟨U,aa,rfl,ax,ay⟩:=F.resolve_left (λh=>by rw [h.1] at t;cases t);obtain⟨aK,ac,us,rfl,O,W⟩:=Q;obtain⟨E,ah⟩:=O;obtain⟨b,cap,K,rfl,rfl,aw,S,an,aE⟩:=ah.resolve_left (λh=>by have:=h.2.1;omega);have O:Row 28 1 (.slice (some ⟨b,0,none⟩) l.length cap) l.length us (R b K 28):=⟨E,.inr ⟨b,cap,K,j,j,aw,S,an,aE⟩⟩;have D:us.length=l.length:=by rw [E,gG]
 have a:=a.split;have S:cap<=9223372036854775807:=by unfold maxLen at S;omega
 refine bq 5 j j j (cE U (by omega)) ?_
 refine cJ 2 j (ct:=Nat×Nat×List Value×Array Value) (λk=>[(0,.slice (some ⟨b,0,none⟩) l.length cap),(1,.func (.func ez) #[] be),(5,.int .i64 (k.1:Nat)),(6,.int .i64 (k.2.1:Nat))])
  (λk w=>k.1<k.2.1/\k.2.1<=l.length/\k.2.2.1.take k.1=nG p us l k.2.1/\k.2.2.1.drop k.2.1=us.drop k.2.1/\Row 28 1 (.slice (some ⟨b,0,none⟩) l.length cap) l.length k.2.2.1 (R b k.2.2.2 28)/\C o q [R b k.2.2.2 28,ac] w) (λk=>l.length-k.2.1) (U,U+1,us,K) ⟨j,j,j,j,aX⟩ ⟨Nat.lt_succ_self _,aa,?_,j,O,a⟩ ?_
 .dsimp only;rw [tD D aa,a6 ay,hc,Bk D (by omega) ax]
 rintro⟨i,J,s,cur⟩ w ⟨ao,ap,y,u,f,a⟩;dsimp only at ao ap y u f a⊢;have aQ:s.length=l.length:=by rw [f.1,gG]
 have aM:cap<=cur.size:=by
  obtain⟨_,h|⟨_,_,_,L,M,_,_,aL,_⟩⟩:=f
  .have:=h.2.1;omega
  .cases L;cases M;omega
 refine b8 7 j j (λae=>?_) (λae=>?_)
 .have n:J<l.length:=by omega
  refine am 7 j (hl j j j j n ?_);obtain⟨c,d,ab,aO,aP,aD⟩:=W.read (a.holds (by simp)) J n
  have aF:s[J]? =some (.slice c l[J].length d):=by
   have m:=aG (λz:List Value=>z[0]?) u;simp only [lL,oO] at m;rw [m];exact ab
  refine ox j j j j (by
   obtain⟨_,_,e,_,_,h,_⟩:=f.rd a;cases e;have:=h.cell aF;rw [add_lit] at this;simpa using this) ?_
  refine am 5 j (hL j j j j (Y _ c l[J] d (P _ _ a) aD) (λr w⟨F,hw⟩=>?_));subst F;have hw:=hw.symm;subst hw;refine bm 1 j j (λI=>?_) (λI=>?_)
  .refine am 5 j (hl j j j j (show i<l.length by omega) ?_);refine cB a j j j j (by omega) (λw a=>?_);have ag:=f.set i (.slice c l[J].length d);have a:=C.gg a (show cur.setIfInBounds (0+i*1) (.slice c l[J].length d)=cur.setIfInBounds i (.slice c l[J].length d) by rw [fj,gG]);refine bq 2 j j j (cE i (by omega)) (bq 3 j j j (cE J (by omega)) (bI 1 j ?_));have aA:p l[J]=false:=by simpa using I
   refine⟨(i+1,J+1,s.set i (.slice c l[J].length d),_),⟨j,j,j,j,aX⟩,⟨by dsimp only;omega,n,?_,?_,ag,a⟩,by dsimp only;omega⟩
   .dsimp only;have aH:us[J]'(by omega)= .slice c l[J].length d:=by have:=ab;rw [cn (by omega)] at this;exact hB this
    rw [tD D n,aI (by rw [aA];decide),<-y,aH];rw [fr (by rw [hp];omega),List.getElem_set_self,List.take_set_of_le (by omega)]
   dsimp only;rw [List.drop_set_of_lt (by omega)];have m:=aG (List.drop 1) u;simpa [rI] using m
  refine bq 3 j j j (cE J (by omega)) (bI 1 j ?_);have aB:p l[J]=true:=by simpa using I
  refine⟨(i,J+1,s,cur),⟨j,j,j,j,aX⟩,⟨by dsimp only;omega,n,?_,?_,f,a⟩,by dsimp only;omega⟩
  .dsimp only;rw [tD D n,a6 aB,hc];exact y
  dsimp only;have m:=aG (List.drop 1) u;simpa [rI] using m
 have ar:J=l.length:=by omega
 subst ar;refine am 5 j (oy j j j j (show i<=l.length by omega) ?_);refine bS 38 (.slice (some ⟨b,0+i*1,none⟩) (l.length-i) (cap-i)) j (by rw [aI (by omega)];simp [add_lit]) (wH (size:=1) a j j (by decide) j j j (by omega) (λg w aN Z a=>am 4 j (rz j j j j (show i<=cap by omega) ?_)));refine aq 1 j j ?_;have aJ:nG p us l l.length=((us.zip l).filter λe=> !p e.2).map Prod.fst:=by unfold nG;rw [List.take_of_length_le (by rw [List.length_zip];omega)]
 obtain⟨H1,V,az,N⟩:=W.yc (p:=p);rw [<-aJ,<-y] at N;have al:i=(l.filter λx=> !p x).length:=by have:=N.len;rw [g9] at this;omega
 refine⟨R b g 28++H1,⟨R b g 28,H1,s.take i,j,?_,N⟩,?_⟩
 .rw [<-al];refine⟨by rw [g9];omega,.inr ⟨b,cap,g,j,j,by omega,by unfold maxLen;omega,by omega,?_⟩⟩;obtain⟨_,h|⟨_,_,_,L,M,_,_,_,af⟩⟩:=f
  .have:=h.2.1;omega
  cases L;cases M;rw [gG,<-af];rw [fj,gG] at Z;rw [Z,List.take_take,mY (by omega)]
 have aj:C o q [R b g 28,H1,V] w:=a.perm (B:=[R b g 28,H1,V]) (by simpa using az);exact C.perm (A:=[R b g 28,H1]) aj.as (by simp)
theorem IK{o:World}{v:Value}:Calls prog 183 #[.pointer none,v] o λr w=>r= .slice none 0 0/\C o [] [] w:=by
 have a:Own [] o:=C.start o;refine a2 func183 (am 9 j (bS 7 (.bool true) j (aG Value.bool (j)) ?_));exact aq 9 j j ⟨j,a⟩
theorem Ij{o:World}:Calls prog 154 #[.pointer none] o λr w=>r= .slice none 0 0/\C o [] [] w:=by
 have a:Own [] o:=C.start o;refine a2 func154 (am 9 j (bS 8 (.bool true) j (aG Value.bool (j)) ?_));refine am 6 j (bS 14 (.bool true) j (aG Value.bool (j)) ?_);exact aq 10 j j ⟨j,a⟩
theorem H3{o:World}{m:aC}:Calls prog 147 #[.pointer none,.agg m.cs.toArray] o λr w=>r= .slice none 0 0/\C o [] [] w:=by
 have a:Own [] o:=C.start o;refine a2 func147 (bL 2 a j j (λb w a=>am 7 j (bS 7 (.bool true) j (aG Value.bool (j)) ?_)));refine am 6 j (bS 13 (.bool true) j (aG Value.bool (j)) ?_);exact aq 9 j j ⟨j,a.bare⟩
theorem Bc{o:World}{g:al}{v:Value}{c:Option ak}{G:List Chunk}{A:Option Addr}{x:List UInt8}{bQ:Nat}(s:Rd o A (au x))(t:x.length<=1000000)(d:kC g v c G){N:Nat}(n:∀r,c=some r->r.ok g N)(f:N+10<=1000000)(k:g.at o)(l:g.ok)(m:g.off (av [G]))(a:Own [G] o):Calls prog 183 #[v,.slice A x.length bQ] o λr w=>∃bg ai,cw r (fP g c x).2 bg/\kC g v (fP g c x).1 ai/\C o (av [G]) [ai,bg] w:=by
 rcases d with⟨rfl,rfl,rfl⟩|⟨r,aw,rfl,rfl,h⟩
 .refine Calls.mono IK (λr w⟨p,aa⟩=>⟨[],[],?_,.inl ⟨j,j,j⟩,?_⟩)
  .rw [p];exact cw.nil
  .exact(a.iw (show C o (av [[]]) [[],[]] w from(by
    have b:C o [] [[],[]] w:=aa.empty.empty;exact b)):_)
 .refine Calls.mono (IL s t h (n r j) f k l m a) (λq w⟨bg,ai,e,i,aa⟩=>⟨bg,ai,e,.inr ⟨_,aw,j,j,i⟩,aa⟩)
theorem AR{o:World}{g:al}{v:Value}{c:Option ak}{G:List Chunk}{m:aC}(hm:m.ok o)(d:kC g v c G){N:Nat}(p:∀r,c=some r->r.ok g N)(f:N+10<=1000000)(k:g.at o)(l:g.ok)(n:g.off (av [G]))(a:Own [G] o):Calls prog 147 #[v,.agg m.cs.toArray] o λr w=>∃bg ai,cw r (hf g c m.P).2 bg/\kC g v (hf g c m.P).1 ai/\C o (av [G]) [ai,bg] w:=by
 rcases d with⟨rfl,rfl,rfl⟩|⟨r,aw,rfl,rfl,h⟩
 .refine Calls.mono H3 (λr w⟨s,aa⟩=>⟨[],[],?_,.inl ⟨j,j,j⟩,?_⟩)
  .rw [s];exact cw.nil
  .exact(a.iw (show C o (av [[]]) [[],[]] w from(by
    have b:C o [] [[],[]] w:=aa.empty.empty;exact b)):_)
 .refine Calls.mono (H6 hm h (p r j) f k l n a) (λq w⟨bg,ai,e,i,aa⟩=>⟨bg,ai,e,.inr ⟨_,aw,j,j,i⟩,aa⟩)
theorem Ii{o:World}{g:al}{v:Value}{c:Option ak}{G:List Chunk}(d:kC g v c G){N:Nat}(n:∀r,c=some r->r.ok g N)(f:N+10<=1000000)(k:g.at o)(l:g.ok)(m:g.off (av [G]))(a:Own [G] o):Calls prog 154 #[v] o λr w=>∃bg ai,cw r (iG g c).2 bg/\kC g v (iG g c).1 ai/\C o (av [G]) [ai,bg] w:=by
 rcases d with⟨rfl,rfl,rfl⟩|⟨r,aw,rfl,rfl,h⟩
 .refine Calls.mono Ij (λr w⟨p,aa⟩=>⟨[],[],?_,.inl ⟨j,j,j⟩,?_⟩)
  .rw [p];exact cw.nil
  .exact(a.iw (show C o (av [[]]) [[],[]] w from(by
    have b:C o [] [[],[]] w:=aa.empty.empty;exact b)):_)
 .refine Calls.mono (Ik h (n r j) f k l m a) (λq w⟨bg,ai,e,i,aa⟩=>⟨bg,ai,e,.inr ⟨_,aw,j,j,i⟩,aa⟩)
theorem ak.Ib{g:al}(a:g.ok)(s:ak)(m:aW):(s.take g m).2.length<=50:=by
 unfold ak.take;split
 .exact b4 _
 .exact ak.te a _
theorem ak.IP{g:al}(a:g.ok)(s:ak)(x:List UInt8):(s.hX g x).2.length<=50:=by
 unfold ak.hX;split
 .exact b4 _
 .exact ak.te a _
theorem ak.Io{g:al}(a:g.ok)(s:ak):(s.tick g).2.length<=51:=by
 unfold ak.tick;split
 .exact b4 _
 .rw [b0];have b:=ak.AX g s;have c:=ak.te a (s.gs g).1;omega
theorem r9{g:al}(a:g.ok)(c:Option ak)(m:aW):(hf g c m).2.length<=50:=by
 cases c with
 |none=>exact b4 _
 |some r=>exact ak.Ib a r m
theorem uG{g:al}(a:g.ok)(c:Option ak)(x:List UInt8):(fP g c x).2.length<=50:=by
 cases c with
 |none=>exact b4 _
 |some r=>exact ak.IP a r x
theorem xR{g:al}(a:g.ok)(c:Option ak):(iG g c).2.length<=51:=by
 cases c with
 |none=>exact b4 _
 |some r=>exact ak.Io a r
theorem aF.Gl{g:al}(b:g.ok)(a:aF×List aW)(p:Int×aW):(aF.one g a p).2.length<=a.2.length+50:=by
 unfold aF.one;split
 .dsimp only;rw [b0];have:=r9 b a.1.cur p.2;omega
 .split<;>exact gF _ _
theorem aF.u2{g:al}(b:g.ok):∀(l:List (Int×aW))(a:aF×List aW),(l.foldl (aF.one g) a).2.length<=a.2.length+50*l.length
 |[],_=>by simp
 |p::r,a=>by
  rw [iC];have c:=aF.u2 b r (aF.one g a p);have d:=aF.Gl b a p;rw [eu];omega
theorem aF.Bd{g:al}(a:g.ok)(s:aF):(s.wanted g).2.length<=50:=by
 unfold aF.wanted;split
 .exact b4 _
 .exact uG a _ _
theorem aF.xq{g:al}(a:g.ok){s:aF}(h:s.stored.length<=128):(s.de g).2.length<=6450:=by
 unfold aF.de;have b:=aF.u2 a (dd s.stored) (s.wanted g);have c:=aF.Bd a s;rw [hQ] at b;omega
theorem yr{α β:Type}{f:β->α->β}{b:β}{l t1 t2:List α}{p:α}{n:Nat}(a:l=t1++p::t2)(aJ:t1.length=n):(l.take (n+1)).foldl f b=f ((l.take n).foldl f b) p:=by
 subst a;subst aJ;rw [p1,List.take_append,List.take_of_length_le (by omega),List.take_of_length_le (Nat.le_refl _),show t1.length+1-t1.length=1 by omega,Nat.sub_self];simp [nR]
theorem xr{o:World}{g:al}{ba:Nat}{s:aF}{G:List Chunk}(cd:iv g ba s G){N M:Nat}(Z:s.ok g N)(bq:∀r,s.cur=some r->r.ok g M)(cW:M+783<=1000000)(aP:g.at o)(V:g.ok)(aC:g.off (av [G]))(d:Own [G] o):Calls prog 195 #[ab ba] o λr w=>∃bg ai,cw r (s.de g).2 bg/\iv g ba (s.de g).1 ai/\C o (av [G]) [ai,bg] w:=by
 obtain⟨c,L,bb,Q,D,S,rfl⟩:=cd;obtain⟨u,bo⟩:∃u,u=av [cz g ba s c++(L++(bb++(Q++D)))]:=⟨_,j⟩;rw [<-bo] at aC⊢;have d:C o u [cz g ba s c++(L++(bb++(Q++D)))] o:=bo▸d;have d:=d.qS;obtain⟨n,ah,I,bF,t,aA,bA,aU,ca⟩:=S.stored;subst ca;obtain⟨bf,a9,us,aN,aY,bi⟩:=S.cy;obtain⟨bO,bX,aO,c3,c5⟩:=aY.form;obtain⟨cP,cN,es,cV,ce,cT⟩:=S.log;obtain⟨cH,cS,cl,cZ,c0⟩:=ce.form;obtain⟨cA,bK,cD,cE,cF,bM⟩:=Z.wanted V bq;refine j2 func195 (bL 2 d j j (λaz w d=>?_));have d:C o u (R az #[ab ba] 80::_) w:=d;refine b7 3 d j (λl w d=>?_);have d:C o u (R l #[.slice none 0 0] 39::R az #[ab ba] 80::_) w:=d;refine ar 3 j (ax (C.aj d) j) (ar 2 j (ax (C.aj (b:=ba) d) (aG some aO)) (bm 2 j j (λaH=>?_) (λaH=>?_)));have d:C o u [R az #[ab ba] 80,cz g ba s c,Q,R l #[.slice none 0 0] 39,L,bb,ay 296 n ah I++t] w:=d.as;refine lW 0 j (λw=>∃ad,C o u ([R az #[ab ba] 80,cz g ba s c,Q]++ad) w) ?_;have d:=d.drew;have am:0<s.cy.length:=by have:=of_decide_eq_true aH;omega
 have bw:=d.holds (G:=Q) (by simp);obtain⟨bP,bQ,a3,_,_,_⟩:=bi.read (show Holds _ a9 by have h:=bw;rw [aN] at h;exact h.right) 0 am
 obtain⟨aX,a8,bh⟩:∃aX a8,bO=some ⟨aX,a8,none⟩:=by
  obtain⟨gY,cR,e,_,_,cq,cn⟩:=aY.read (show Holds _ bf by have h:=bw;rw [aN] at h;exact h.left);rw [aO] at e;cases e;rcases cn with rfl|h
  .obtain⟨_,h,_⟩:=cq 0 _ a3;cases h
  .exact h
 refine eR 0 j ⟨_,d⟩ (λw⟨_,d⟩=>hK j j (ax (C.aj d) j)) (fD 2 [1,2] j ⟨_,d⟩ (eR 3 j ⟨_,d⟩ (λw⟨_,d⟩=>hK j j (ax (C.aj d) j)) (eR 4 j ⟨_,d⟩ (λw⟨_,d⟩=>hK j j (ax (C.aj d) j)) ?_)));refine fD 2 [5,6] j ⟨_,d⟩ (eR 7 j ⟨_,d⟩ (λw⟨_,d⟩=>hK j j (ax (C.aj (b:=ba) d) (aG some aO))) (rr 20 (.slice (some ⟨aX,a8,none⟩) s.cy.length bX) j (by rw [bh]) (eR 8 j ⟨_,d⟩ (λw _=>gA (J:=0) j j (by simpa using am)) (eR 9 j ⟨_,d⟩ (λw⟨_,d⟩=>hK j j (v:=.slice bP s.cy[0].length bQ) (by obtain⟨_,_,e,_,_,h,_⟩:=aY.read (show Holds w bf by have h:=d.holds (G:=Q) (by simp);rw [aN] at h;exact h.left);rw [aO] at e;cases e;rw [bh] at h;have aw:=h.cell a3;rw [add_lit] at aw;simpa using aw)) (dW 10 j ?_)))));obtain⟨_,_,e,_,_,cr⟩:=bi.read (show Holds _ a9 by have h:=d.holds (G:=Q) (by simp);rw [aN] at h;exact h.right) 0 am;rw [a3] at e;cases e;have Y:=Bc (g:=g) (bQ:=bQ) cr (by have:=Z.lr _ (d9 am);omega) S.cur bq (by omega) (aP.st d aC) V (d.eF aP aC) d.ours;refine cO j j j Y (λr w⟨bg,i,bs,b6,aB⟩=>?_);have d:=d.b2 aB;have d:C o u [R az #[ab ba] 80,cz g ba s c,Q,R l #[.slice none 0 0] 39,L,i,ay 296 n ah I++t,bg] w:=d.as;refine an ⟨⟨_,d⟩,?_⟩;refine j7 11 j ?_;obtain⟨_,_,a4,_⟩:=bs.len;refine cB (d.bc l) j j j (by rw [a4];rfl) bG (λw d=>?_);have d:C o u (R l #[r] 39::_) w:=d;refine an (cU ?_)
 obtain⟨cG,c9,aV⟩:∃x r,s.cy=x::r:=by
  cases aZ:s.cy with
  |nil=>rw [aZ] at am;simp at am
  |cons x r=>exact⟨x,r,j⟩
 have a5:s.wanted g=({s with cur:=(fP g s.cur s.cy[0]).1},(fP g s.cur s.cy[0]).2):=by
  unfold aF.wanted;have e:s.cy[0]=cG:=by simp [aV]
  rw [e];rw [aV]
 obtain⟨v,i,bg,O,K,d⟩:∃v i bg,cw v (s.wanted g).2 bg/\kC g c.cur (s.wanted g).1.cur i/\C o u [R az #[ab ba] 80,R l #[v] 39,cz g ba s c,L,i,Q,ay 296 n ah I,t,bg] w:=by
  rw [a5];exact⟨r,i,bg,bs,b6,C.perm (A:=[R az #[ab ba] 80,R l #[r] 39,cz g ba s c,L,i,Q,ay 296 n ah I++t,bg]) d.as (by simp)⟩
 refine ar 2 j (ax (C.aj d) j) ?_;rotate_left
 have aV:s.cy=[]:=by
  cases aZ:s.cy with
  |nil=>rfl
  |cons x r=>rw [aZ] at aH;simp at aH
 have a5:s.wanted g=(s,[]):=by unfold aF.wanted;rw [aV]
 obtain⟨v,i,bg,O,K,d⟩:∃v i bg,cw v (s.wanted g).2 bg/\kC g c.cur (s.wanted g).1.cur i/\C o u [R az #[ab ba] 80,R l #[v] 39,cz g ba s c,L,i,Q,ay 296 n ah I,t,bg] w:=by
  rw [a5];exact⟨_,bb,[],cw.nil,S.cur,C.perm (A:=[R az #[ab ba] 80,R l #[.slice none 0 0] 39,cz g ba s c,L,bb,Q,ay 296 n ah I++t]) d.as (by simp)⟩
 refine ar 3 j (ax (C.aj d) j) ?_;rotate_left
 all_goals
  refine ar 2 j (ax (C.aj (b:=ba) d) (aG some cl)) (b7 1 d j (λB w d=>dF 0 (d.bc B) j j j j (λw d=>?_)));have d:C o u (R B #[ae s.slot] 3::_) w:=d;refine ar 3 j (ax (C.aj d) j) ?_;obtain⟨a,ak⟩:∃a:Option Addr,a=some ⟨n,0,none⟩:=⟨_,j⟩;have aA:c.stored= .pointer a:=aA.trans (by rw [ak]);refine ar 2 j (ax (C.aj (b:=ba) d) (aG some aA)) ?_;have ci:dI 296 w a bF:=ak▸dI.own (d.to (ay 296 n ah I)) bA;have Y:=w2 (o:=w) (p:=a);refine bk 0 Y j (λr w⟨bH,bI,ac,aa⟩=>?_);subst ac;have ch:=ci.st aa;have d:=d.aL aa;have d:C o u [R bH #[.pointer a] 150,[(bI,.cells #[.func (.func 273) #[] #[]] 45 (0,0))],R az #[ab ba] 80,R l #[v] 39,R B #[ae s.slot] 3,cz g ba s c,L,i,Q,ay 296 n ah I,t,bg] w:=d.as;have d:C o u ([R bH #[.pointer a] 150,[(bI,.cells #[.func (.func 273) #[] #[]] 45 (0,0))]]++[R az #[ab ba] 80,R l #[v] 39,R B #[ae s.slot] 3,cz g ba s c,L,i,Q,ay 296 n ah I,t,bg]) w:=d
  refine j6 1 j (z7 (by have aM:=aU.len;have aw:=Z.stored;omega)) j (by have:=d.size;simpa using this) d j (λ_=>rfl) (by intro p S;simp at S;rcases S with rfl|rfl<;>rfl)
   (λpre ad=>∃(v:Value)(z:Obj)(W:List (Int×Value))(i bg F X:List Chunk),ad=[R az #[ab ba] 80,R l #[v] 39,R B #[ae s.slot] 3,cz g ba s c,L,i,Q,ay 296 n ah z,t,bg]/\cw v (((dd s.stored).take pre.length).foldl (aF.one g) (s.wanted g)).2 bg/\kC g c.cur (((dd s.stored).take pre.length).foldl (aF.one g) (s.wanted g)).1.cur i/\cg bN z W/\t.Perm (X++F)/\c7 ki W (((dd s.stored).take pre.length).foldl (aF.one g) (s.wanted g)).1.stored F) (λ_ _=>False) ⟨v,I,bF,i,bg,t,[],j,O,K,bA,.refl _,by rw [ge,List.take_zero,List.foldl_nil,cE];exact aU⟩ (λL aK cb=>ch.st cb) (λ_ _ _ _=>trivial) ?_ ?_ (λ_ _ h=>h.elim) (λ_ _ _ h=>h.elim)
  .rintro y pre ⟨E,cx⟩ cL bW da b5 ⟨v,z,W,i,bg,F,X,rfl,O,K,aQ,aE,ag⟩ d;obtain⟨t1,t2,c8,cJ,bV,cK,bx,cu,cp,bj,a7,rfl,bB⟩:=aU.oi b5;have a7:cx= .agg bj.cs.toArray:=a7;subst a7;have a2:bj.tag.length=32:=(fF.one bB).tag bj (by simp);have cY:bj.P.cQ:=Z.lw (E,bj.P) (g0.1 (show(E,bj.P)∈dd s.stored by rw [bx];simp));have T:=aF.qB V ((dd s.stored).take pre.length) (s.wanted g) (M+5) (λq a1=>Z.lw q (g0.1 (m3 a1))) (λr ac=>(bM r ac).1);have cm:=aF.u2 V ((dd s.stored).take pre.length) (s.wanted g);have c6:=aF.Bd V s;have c1:((dd s.stored).take pre.length).length<=128:=by rw [g9,hQ];have:=Z.stored;omega
   have aS:=yr (f:=aF.one g) (b:=s.wanted g) bx cu;have ap:(((dd s.stored).take pre.length).foldl (aF.one g) (s.wanted g)).1.slot=s.slot:=by unfold aF.slot;rw [T.1.2.1,bK]
   obtain⟨a0,cj⟩:∃a0,a0=(((dd s.stored).take pre.length).foldl (aF.one g) (s.wanted g)):=⟨_,j⟩;rw [<-cj] at O K ag T cm ap aS;have d:=C.gy d;refine b7 4 d j (λH w d=>c2 (d.bc H) j j j (by simpa using bj.one) (by rw [List.size_toArray];exact bj.bU a2) (by decide) (λw d=>?_));have d:=C.whole (U:=bj.cs) d (by rw [bj.bU a2];rfl);have d:C _ _ [R H bj.cs.toArray 53,R az #[ab ba] 80,R l #[v] 39,R B #[ae s.slot] 3,cz g ba s c,L,i,Q,ay 296 n ah z,t,bg] w:=d.as;refine bD 0 j (⟨j,_,d,λbW bJ d=>?_⟩);have bu:=aP.st d aC;have bv:=(aP.apart d aC).sub (eL:=av [R H bj.cs.toArray 53,R az #[ab ba] 80,R l #[v] 39,R B #[ae s.slot] 3,cz g ba s c,L,i,Q,ay 296 n ah z,t,bg]) (λb ck=>np.2 (.inr (np.2 (.inl ck))));have d:=C.gy d;refine ar 5 j (ax (C.aj d) bj.gK) (ar 0 j (ax (C.aj d) j) (b8 1 j j (λau=>?_) (λau=>?_)))
   .refine ar 1 j (ax (C.aj d) j) (ar 2 j (ax (C.aj (b:=ba) d) (aG some aA)) (bS 43 (ab n) j (by rw [ak]) ?_));have cv:=ag.wide ki.wide;obtain⟨bd,be,bE,bC⟩:=ag.del (k:=E);have Y:=DO (k:=E) cv (d.ours (cC:=[ay 296 n ah z])) aQ;refine bp 1 Y j (λw⟨aq,bz,aB⟩=>?_);have d:=d.b2 aB;have d:C _ _ [R H bj.cs.toArray 53,R az #[ab ba] 80,R l #[v] 39,R B #[ae s.slot] 3,cz g ba s c,L,i,Q,ay 296 n ah aq,t,bg] w:=d.as;refine ar 3 j (ax (C.aj d) bj.gK) (ar 0 j (ax (C.aj d) j) (bm 1 j j (λaJ=>?_) (λaJ=>?_)))
    .have d:C bJ (av [R H bj.cs.toArray 53,R az #[ab ba] 80,R l #[v] 39,R B #[ae s.slot] 3,cz g ba s c,L,i,Q,ay 296 n ah z,t,bg]) ([R H bj.cs.toArray 53,R az #[ab ba] 80,R l #[v] 39,cz g ba s c]++_) _:=d.front;have d:=d.drew;refine bt 0 j (λw=>∃ad,C bJ (av [R H bj.cs.toArray 53,R az #[ab ba] 80,R l #[v] 39,R B #[ae s.slot] 3,cz g ba s c,L,i,Q,ay 296 n ah z,t,bg]) ([R H bj.cs.toArray 53,R az #[ab ba] 80,R l #[v] 39,cz g ba s c]++ad) w) ⟨_,d⟩ (bR 0 j (λw⟨_,d⟩=>ax (C.aj (b:=l) d) j) (bR 1 j (λw⟨_,d⟩=>ax (C.aj d) j) (af 2 2 j (bR 4 j (λw⟨_,d⟩=>ax (C.aj d) j) (aT 5 j (λw⟨_,d⟩=>c4 (U:=bj.cs) j j (bj.bU a2) (bn (C.aj d))) (aR 6 j ?_))))));have co:=(bB.read (show Holds _ bV from((d.holds (G:=t) (by simp)).perm cp).right.left)).1;have Y:=AR (m:=bj) co K (N:=M+5+6*128) (λr ac=>(T.2.2.2.1 r ac).more (by omega)) (by omega) (bu.st d bv) V (d.eF bu bv) d.ours;refine cO j j j Y (λr w⟨bT,aW,cc,b9,aB⟩=>?_);have d:=d.b2 aB;have d:C _ _ ([R H bj.cs.toArray 53,R az #[ab ba] 80,R l #[v] 39,cz g ba s c]++_) w:=d.front;refine an ⟨⟨_,d⟩,?_⟩;refine aR 7 j ?_;have cX:=r9 V a0.1.cur bj.P;refine nK (d.front (cC:=[bg,bT])) O cc j j (by decide) j j j (by omega) (λv3 bl w br d=>?_);have d:C _ _ ([R H bj.cs.toArray 53,R az #[ab ba] 80,R l #[v] 39,cz g ba s c]++_) w:=d.front;refine an ⟨⟨_,d⟩,?_⟩;refine dA 8 j ?_;obtain⟨_,_,a4,_⟩:=br.len;refine cB (d.bc l) j j j (by rw [a4];rfl) bG (λw d=>?_);have d:C _ _ (R l #[v3] 39::_) w:=d;have d:C _ _ [R az #[ab ba] 80,R l #[v3] 39,R B #[ae s.slot] 3,cz g ba s c,L,aW,Q,ay 296 n ah aq,t,bl] w:=d.as;refine an (cU (bD 0 j ?_));have aD:aF.one g a0 (E,bj.P)=({a0.1 with stored:=fY a0.1.stored E,cur:=(hf g a0.1.cur bj.P).1},a0.2++(hf g a0.1.cur bj.P).2):=a6 (by show bj.s=_;rw [ap];exact d5.1 aJ);refine⟨[R az #[ab ba] 80,R l #[v3] 39,R B #[ae s.slot] 3,cz g ba s c,L,aW,Q,ay 296 n ah aq,t,bl],d,v3,aq,fY W E,aW,bl,bd,X++be,j,?_⟩;rw [b0,List.length_singleton,aS,aD];exact⟨br,b9,bz,aE.trans (by rw [dJ];exact .append_left _ bC),bE⟩
    refine bD 1 j ?_;have aD:aF.one g a0 (E,bj.P)=({a0.1 with stored:=fY a0.1.stored E},a0.2):=(aI (by show¬bj.s=_;rw [ap];exact λh=>by rw [show(bj.s==s.slot)=true from d5.2 h] at aJ;cases aJ)).trans (a6 (by show bj.s<=_;rw [ap];exact au));refine⟨[R az #[ab ba] 80,R l #[v] 39,R B #[ae s.slot] 3,cz g ba s c,L,i,Q,ay 296 n ah aq,t,bg],d.as,v,aq,fY W E,i,bg,bd,X++be,j,?_⟩;rw [b0,List.length_singleton,aS,aD];exact⟨O,K,bz,aE.trans (by rw [dJ];exact .append_left _ bC),bE⟩
   refine ar 4 j (ax (C.aj d) bj.gK) (ar 0 j (ax (C.aj d) j) (iI 1 j j ((by have aM:=au;exact fw.2 (λh=>aM (by omega)))) (bD 1 j ?_)));have aD:aF.one g a0 (E,bj.P)=a0:=(aI (by show¬bj.s=_;rw [ap];have:=au;omega)).trans (aI (by show¬bj.s<=_;rw [ap];exact au));refine⟨[R az #[ab ba] 80,R l #[v] 39,R B #[ae s.slot] 3,cz g ba s c,L,i,Q,ay 296 n ah z,t,bg],d.as,v,z,W,i,bg,F,X,j,?_⟩;rw [b0,List.length_singleton,aS,aD];exact⟨O,K,aQ,aE,ag⟩
  rintro xs cM w cf ⟨v,z,W,i,bg,F,X,rfl,O,K,aQ,aE,ag⟩ d;rw [cf,iB,aU.len,h7 (by rw [hQ];exact cI _)] at O K ag;refine ar 2 j (ax (C.aj d) j) (bD 1 j ⟨v,λw ct=>?_⟩);have d:=ct.st d (cI _);refine⟨λa ak=>i8 (fn:=f195) ak j _ _,?_⟩;have T:=aF.qB V (dd s.stored) (s.wanted g) (M+5) (λq a1=>Z.lw q (g0.1 a1)) (λr ac=>(bM r ac).1);have bY:(s.de g).1.ao=s.ao:=T.1.1.trans cA;have bZ:(s.de g).1.log=s.log:=T.1.2.1.trans bK;have b1:(s.de g).1.cy=s.cy:=T.1.2.2.1.trans cD;have b3:(s.de g).1.e0=s.e0:=T.1.2.2.2.trans cF;have b4:cz g ba s c=cz g ba (s.de g).1 c:=by unfold cz ps;rw [bY,b3]
  have d:C o u [cz g ba (s.de g).1 c,L,i,Q,ay 296 n ah z++F,bg] w:=by
   rw [<-b4];have aM:C o u [cz g ba s c,L,i,Q,ay 296 n ah z,t,bg] w:=d.as
   have aw:C o u [cz g ba s c,L,i,Q,ay 296 n ah z,X,F,bg] w:=aM.perm (by
    simp only [km,m2,hc];have:=oS bg aE;rw [dJ] at this;exact .append_left _ (.append_left _ (.append_left _ (.append_left _ (.append_left _ this)))))
   exact C.perm (A:=[cz g ba s c,L,i,Q,ay 296 n ah z,F,bg]) aw.as (by simp)
  refine⟨bg,_,O,⟨c,L,i,Q,ay 296 n ah z++F,⟨by rw [bZ];exact S.log,K,by rw [b1];exact S.cy,⟨n,ah,z,W,F,aA.trans (by rw [ak]),aQ,ag,j⟩⟩,j⟩,C.iJ d⟩
theorem Ev{o:World}{a:Nat}{A B:Option Addr}{xs da:List UInt8}{bQ d:Nat}(e:o.heap[a]? =some (.cells #[.slice B da.length d] 28 (0,0)))(b:Rd o A (au xs))(c:Rd o B (au da)):Calls prog 194 (#[]++ #[.slice A xs.length bQ]++ #[ab a]) o λr w=>r= .bool (decide (xs=da))/\w=o:=by
 refine a2 func194 (ar 6 j (ax e j) (bp 0 (qx b c) j (λw hw=>?_)));subst hw;exact aq 1 j j ⟨j,j⟩
theorem aF.Es{g:al}{n:Nat}{s:aF}{l:List aW}(h:s.cur=none):aF.go g n s l=(s,l):=by
 cases n with
 |zero=>rfl
 |succ n=>unfold aF.go;rw [h]
theorem aF.Eu{g:al}{n:Nat}{s:aF}{l:List aW}{r:ak}(h:s.cur=some r)(a:r.dec=false):aF.go g n s l=(s,l):=by
 cases n with
 |zero=>rfl
 |succ n=>
  unfold aF.go;rw [h];exact aI (by rw [a];decide)
theorem aF.u4{g:al}{n:Nat}{s:aF}{l:List aW}{r:ak}(h:s.cur=some r)(a:r.dec=true):aF.go g (n+1) s l=aF.go g n ((s.next r).de g).1 (l++((s.next r).de g).2):=by
 rw [aF.go,h];exact a6 a
theorem aF.CY{g:al}{N M:Nat}{s:aF}(h:s.ok g N)(a:g.ok)(d:∀r,s.cur=some r->r.ok g M):(s.de g).1.log=s.log:=by
 obtain⟨i,b,j,k,l,c⟩:=h.wanted a d;exact(aF.qB a (dd s.stored) (s.wanted g) (M+5) (λp e=>h.lw p (g0.1 e)) (λr f=>(c r f).1)).1.2.1.trans b
theorem u7{o:World}{g:al}{ba:Nat}{s:aF}{G E:List Chunk}{v0:Value}{l:List aW}(bh:iv g ba s G)(bd:cw v0 l E)(bL:l.length<=1000){N:Nat}(bA:s.ok g N)(bH:773<=N)(bJ:N+20<=1000000)(ac:g.at o)(S:g.ok)(V:g.off (av [G,E]))(a:Own [G,E] o):Calls prog 146 #[ab ba,v0] o λr w=>∃bg ai,cw r (s.h9 g l).2 bg/\iv g ba (s.h9 g l).1 ai/\C o (av [G,E]) [ai,bg] w:=by
 obtain⟨e,aK⟩:∃e,e=av [G,E]:=⟨_,j⟩;rw [<-aK] at V⊢;have a:C o e [G,E] o:=aK▸a;refine a2 func146 ?_
 refine cJ 5 j (ct:=Nat×aF×List aW×Value×List Chunk×List Chunk) (λi=>[(0,ab ba),(1,i.2.2.2.1)])
  (λi w=>i.2.1.ok g N/\s.h9 g l=aF.go g i.1 i.2.1 i.2.2.1/\65<=i.1+i.2.1.log.length/\i.2.2.1.length+6450*i.1<=500000/\iv g ba i.2.1 i.2.2.2.2.1/\cw i.2.2.2.1 i.2.2.1 i.2.2.2.2.2/\C o e [i.2.2.2.2.1,i.2.2.2.2.2] w) (λi=>i.1) (65,s,l,v0,G,E) ⟨j,j,aX⟩ ⟨bA,j,gF _ _,by dsimp only;omega,bh,bd,a⟩ ?_
 rintro⟨n,s1,dC,v1,ai,bg⟩ w ⟨O,ae,bz,bx,aQ,Y,a⟩;dsimp only at O ae bz bx aQ Y a⊢;obtain⟨c,L,bb,Q,D,K,rfl⟩:=aQ;have a:=a.qS;refine am 6 j ?_;rcases K.cur with⟨B,aa,bF⟩|⟨d,aw,B,aa,bo⟩
 .refine ar 0 j (ax (C.aj (b:=ba) a) (aG some aa)) (aq 7 j j ?_);rw [ae,aF.Es B];exact⟨bg,_,Y,⟨c,L,bb,Q,D,K,j⟩,a.iJ⟩
 refine ar 0 j (ax (C.aj (b:=ba) a) (aG some aa)) (ar 9 j (ax (C.aj (b:=ba) a) (aG some aa)) ?_);have bC:=(O.cur d B).1;have J:=DJ bo bC (a.holds (G:=bb) (by simp));refine bk 0 J j (λr w⟨v1,v2,H,M,aC,aA,aU,bu⟩=>?_);subst aC;obtain⟨f,e5,rfl,bO,bQ⟩:=aA.form;obtain⟨W,X,rfl,bP,_⟩:=aU.form;have a:=a.aL bu;refine b7 4 a j (λh w a=>dF 0 (a.bc h) j j j j (λw a=>?_));have a:C o e (R h #[.slice f d.value.length e5] 28::_) w:=a;refine bm 7 j j (λap=>?_) (λap=>?_)
 .refine aq 5 j j ?_;rw [ae,aF.Eu B (by simpa using ap)];have a:C o e [cz g ba s1 c,L,bb,Q,D,bg] w:=a.as;exact⟨bg,_,Y,⟨c,L,bb,Q,D,K,j⟩,a.iJ⟩
 have a:C o e [cz g ba s1 c,R h #[.slice f d.value.length e5] 28,L,bb,Q,D,bg,H,M] _:=a.as;have a:=a.drew;refine bt 2 j (λw=>∃ad,C o e ([cz g ba s1 c,R h #[.slice f d.value.length e5] 28]++ad) w) ⟨_,a⟩ (af 0 4 j (a8 4 j a1 j (a8 5 j a1 j (af 6 1 j (aT 7 j (λw _=>e3 (c:= #[.slice f d.value.length e5,.slice W d.dK.length X]) j (λ_=>by kernel_rfl)) (aR 8 j (gi (U:=[.slice f d.value.length e5,.slice W d.dK.length X]) a j j j j bG bG (λoU w a=>?_))))))));have aJ:=bn (C.aj (b:=oU) a);have a:C o e ([cz g ba s1 c,R h #[.slice f d.value.length e5] 28]++_) w:=a.front;refine an ⟨⟨_,a⟩,?_⟩;refine aR 9 j ?_;obtain⟨aH,P,es,rfl,bi,a7⟩:=K.log;have bM:=O.log;have a:C o e [aH,P,cz g ba s1 c,R h #[.slice f d.value.length e5] 28,bb,Q,D,bg,H,M] w:=C.perm (A:=[aH++P,cz g ba s1 c,R h #[.slice f d.value.length e5] 28,bb,Q,D,bg,H,M]) a.as (by simp);refine dR a bi j j (by decide) j j j (m:=1) (news:=[.slice f d.value.length e5,.slice W d.dK.length X]) j aJ (by intro u hu;simp at hu;rcases hu with rfl|rfl<;>rfl) (by omega) (by unfold maxLen;omega) (λbR ak w ay a=>?_);obtain⟨q,t,rfl,_,_⟩:=ay.form;have a:C o e ([cz g ba s1 c,R h #[.slice f d.value.length e5] 28]++_) w:=a.front;refine an ⟨⟨_,a⟩,?_⟩;refine af 10 2 j (dA 12 j (cB (a.bc ba) j j j ay.one bG (λw a=>?_)));have a:C o e (cz g ba s1 {c with log:=.slice q (s1.log.length+1) t}::_) w:=a;obtain⟨_,_,a4,_,_,bB,bq⟩:=aA.rd (a.to H);cases a4
 obtain⟨z,aM,a⟩:∃z,nH (.slice q (s1.log.length+1) t) (s1.log++[(d.value,d.dK)]) z/\C o e [cz g ba s1 {c with log:=.slice q (s1.log.length+1) t},R h #[.slice f d.value.length e5] 28,z,bb,Q,D,bg] w:=
  ⟨ak++(P++(H++M)),⟨ak,P++(H++M),es++[(.slice f d.value.length e5,.slice W d.dK.length X)],j,by rw [b0,List.length_singleton];simpa using ay,a7.app (kh.one aA aU)⟩,C.perm (A:=[cz g ba s1 {c with log:=.slice q (s1.log.length+1) t},R h #[.slice f d.value.length e5] 28,ak,P,H,M,bb,Q,D,bg]) a.as (by simp)⟩
 have bp:bT f (au d.value) (av [Q]):=C.qm bq;refine an (cU (ar 6 j (ax (C.aj a) j) (gZ j j j j ?_)));have aV:=C.aj (b:=h) a;have br:h∉av [Q]:=λbs=>(a.bc h).jj (qI _ bs)
 have J:=DP (p:=λy=>decide (y=d.value)) (be:= #[ab h]) (ez:=194) (T:=λah=>ah.heap[h]? =some (.cells #[.slice f d.value.length e5] 28 (0,0))/\Rd ah f (au d.value)) (λah gY e9 bE aS a5=>Ev aS.1 a5 aS.2) (λah ad aI=>⟨by rw [aI.fW h (gv.1 aV).1 br];exact aV,aI.rd bB bp⟩) K.cy a.ours;refine bk 0 J j (λv w⟨F,Z,bv⟩=>?_);have a:=a.b2 bv;obtain⟨a0,aZ,bD,bf,aP,a6⟩:=Z;refine dF 2 (a.bc ba) j j j aP.one (λw a=>?_);have a:C o e (cz g ba s1 {c with log:=.slice q (s1.log.length+1) t,cy:=v}::_) w:=a;have Z:ir v _ F:=⟨a0,aZ,bD,bf,aP,a6⟩;refine dF 5 (a.bc ba) j j j j (λw a=>?_);have a:C o e (cz g ba s1 {c with log:=.slice q (s1.log.length+1) t,cy:=v,cur:=.pointer none}::_) w:=a;have a:C o e [cz g ba s1 {c with log:=.slice q (s1.log.length+1) t,cy:=v,cur:=.pointer none},z,F,D,bg] w:=a.as;refine ar 6 j (ax (C.aj a) j) (b8 2 j j (λa3=>?_) (λa3=>?_));have a:=a.drew;refine bt 0 j (λw=>∃ad,C o e ([cz g ba s1 {c with log:=.slice q (s1.log.length+1) t,cy:=v,cur:=.pointer none}]++ad) w) ⟨_,a⟩ (af 0 4 j (a8 4 j a1 j (af 5 3 j (a8 8 j a1 j (af 9 3 j (a8 12 j a1 j (af 13 1 j (aR 14 j (cO j j j (zt (g:=g) (ao:=s1.ao) (slot:=((s1.log.length+1:Nat):Int))) (λr w⟨ag,cH,aC,bj,bw⟩=>?_))))))))));subst aC;have a:=a.aL bw;have a:C o e [cz g ba s1 {c with log:=.slice q (s1.log.length+1) t,cy:=v,cur:=.pointer none},z,F,D,bg,cH] w:=a.as;refine an ⟨⟨_,a⟩,?_⟩;refine af 15 2 j (dA 17 j (cB (a.bc ba) j j j j bG (λw a=>?_)));have a:C o e (cz g ba s1 {c with log:=.slice q (s1.log.length+1) t,cy:=v,cur:=ab ag}::_) w:=a;refine an (cU ?_);have aB:s1.log.length+1<64:=by omega
 obtain⟨I,az,a⟩:∃I,iv g ba (s1.next d) I/\C o e [I,bg] w:=by
  have a:C o e [cz g ba s1 ({c with log:=.slice q (s1.log.length+1) t,cy:=v,cur:=ab ag}),z,cH,F,D,bg] w:=a.as;exact⟨_,⟨{c with log:=.slice q (s1.log.length+1) t,cy:=v,cur:=ab ag},z,cH,F,D,⟨aM,.inr ⟨_,ag,if_pos aB,j,bj⟩,Z,K.stored⟩,j⟩,a.iJ⟩
 have x:=aF.kw O B;have J:=xr az x.1 x.2 (by omega) (ac.st a V) S (a.eF ac V) a.ours;refine bk 3 J j (λr w⟨aD,aE,aN,aO,aY⟩=>?_);rotate_left
 have aB:¬s1.log.length+1<64:=by omega
 obtain⟨I,az,a⟩:∃I,iv g ba (s1.next d) I/\C o e [I,bg] w:=by
  have a:C o e [cz g ba s1 ({c with log:=.slice q (s1.log.length+1) t,cy:=v,cur:=.pointer none}),z,[],F,D,bg] w:=(C.empty a).as;exact⟨_,⟨{c with log:=.slice q (s1.log.length+1) t,cy:=v,cur:=.pointer none},z,[],F,D,⟨aM,.inl ⟨if_neg aB,j,j⟩,Z,K.stored⟩,j⟩,a.iJ⟩
 have x:=aF.kw O B;have J:=xr az x.1 x.2 (by omega) (ac.st a V) S (a.eF ac V) a.ours;refine bk 4 J j (λr w⟨aD,aE,aN,aO,aY⟩=>?_);rotate_left
 all_goals
  have a:=a.b2 aY;obtain⟨n,rfl⟩:∃k,n=k+1:=⟨n-1,by have:=(O.cur d B).2;omega⟩;have bK:=aF.xq S (s:=s1.next d) x.1.stored;refine nK (a.front (cC:=[bg,aD])) Y aN j j (by decide) j j j (by omega) (λv3 bl w a9 a=>bI 1 j ?_)
  have bN:((s1.next d).de g).1.log.length=s1.log.length+1:=by
   rw [aF.CY x.1 S x.2];show(s1.log++[(d.value,d.dK)]).length=_;rw [b0,List.length_singleton]
  refine⟨(n,((s1.next d).de g).1,dC++((s1.next d).de g).2,v3,aE,bl),⟨j,j,aX⟩,⟨x.1.de S x.2 (by omega),ae.trans (aF.u4 B (by simpa using ap)),by dsimp only;omega,by dsimp only;rw [List.length_append];omega,aO,a9,a.as⟩,by dsimp only;omega⟩
theorem kC.ptr{g:al}{v:Value}{c:Option ak}{G:List Chunk}(h:kC g v c G):∃p:Option Addr,v= .pointer p/\p.isNone=c.isNone:=by
 rcases h with⟨rfl,rfl,_⟩|⟨r,aw,rfl,rfl,_⟩
 .exact⟨none,j,j⟩
 .exact⟨_,j,j⟩
theorem AO{o:World}{g:al}{ba:Nat}{s:aF}{G:List Chunk}(aC:iv g ba s G){A:Option Addr}{x:List UInt8}{bQ:Nat}(ac:Rd o A (au x))(K:bT A (au x) (av [G]))(aV:x.length<=1000000){N:Nat}(t:s.ok g N)(a3:773<=N)(a4:N+40<=1000000)(M:g.at o)(O:g.ok)(E:g.off (av [G]))(a:Own [G] o):Calls prog 134 #[ab ba,.slice A x.length bQ] o λr w=>∃v bg ai,r= .tuple #[v,.int .i64 (s.eQ g x).2.2]/\cw v (s.eQ g x).2.1 bg/\iv g ba (s.eQ g x).1 ai/\C o (av [G]) [ai,bg] w:=by
 obtain⟨c,L,bb,Q,D,d,rfl⟩:=aC;obtain⟨e,ag⟩:∃e,e=av [cz g ba s c++(L++(bb++(Q++D)))]:=⟨_,j⟩;rw [<-ag] at K E⊢;have a:C o e [cz g ba s c++(L++(bb++(Q++D)))] o:=ag▸a;have a:=a.qS;obtain⟨aW,aP,ao⟩:=d.cur.ptr;refine a2 func134 (am 11 j (bS 9 (.bool false) j (aG Value.bool (j)) ?_));refine am 5 j (cT 14 j (λV=>?_) (λV=>?_))
 .refine aq 10 j j ?_
  have f:s.eQ g x=(s,[],1):=by
   unfold aF.eQ;exact a6 (.inl (by have:=d5.1 (show((x.length:Int)==0)=true from V);omega))
  rw [f];exact⟨_,[],_,j,cw.nil,⟨c,L,bb,Q,D,d,j⟩,(C.iJ a.as).empty.f1⟩
 refine b8 5 j j (λeU=>?_) (λeU=>?_)
 .refine aq 4 j j ?_
  have f:s.eQ g x=(s,[],1):=by
   unfold aF.eQ;exact a6 (.inr (by omega))
  rw [f];exact⟨_,[],_,j,cw.nil,⟨c,L,bb,Q,D,d,j⟩,(C.iJ a.as).empty.f1⟩
 have F:¬(x.length=0\/200<x.length):=by
  have m:((x.length:Int)==0)=false:=V;have q:=eU;have af:¬(x.length:Int)=0:=λh=>by rw [d5.2 h] at m;cases m
  omega
 have aU:x.length<=200:=by omega
 have n:=EV (ba:=ba) (g:=g) (s:=s) (c:=c) (C.aj a) d.log d.cy (a.holds (by simp)) (a.holds (by simp)) (a.rd ac K) (bQ:=bQ);refine bp 4 n j (λw B=>?_);have a:=a.aL B;have a:C o e [cz g ba s c,L,bb,Q,D] w:=a.as;refine bm 1 j j (λW=>?_) (λW=>?_)
 .refine aq 4 j j ?_
  have f:s.eQ g x=(s,[],0):=by
   unfold aF.eQ;rw [aI F];exact a6 W
  rw [f];exact⟨_,[],_,j,cw.nil,⟨c,L,bb,Q,D,d,j⟩,(C.iJ a.as).empty.f1⟩
 have P:¬s.there x=true:=by rw [show s.there x=false from W];decide
 obtain⟨_,_,a8,_,aE,_⟩:=d.cy;obtain⟨aY,a0,aN,a7,_⟩:=aE.form;refine ar 5 j (ax (C.aj (b:=ba) a) (aG some aN)) (am 3 j (cT 30 j (λY=>?_) (λY=>?_)))
 .refine aq 12 j j ?_
  have f:s.eQ g x=(s,[],3):=by
   unfold aF.eQ;rw [aI F,aI P];exact a6 (.inl (by have:=dz Y;omega))
  rw [f];exact⟨_,[],_,j,cw.nil,⟨c,L,bb,Q,D,d,j⟩,(C.iJ a.as).empty.f1⟩
 refine ar 3 j (ax (C.aj (b:=ba) a) (aG some aP)) (bm 3 j j (λX=>?_) (λX=>?_))
 .refine aq 4 j j ?_
  have f:s.eQ g x=(s,[],3):=by
   unfold aF.eQ;rw [aI F,aI P];exact a6 (.inr (by rw [<-ao];exact X))
  rw [f];exact⟨_,[],_,j,cw.nil,⟨c,L,bb,Q,D,d,j⟩,(C.iJ a.as).empty.f1⟩
 refine lW 2 j (λw=>∃ad,C o e ([cz g ba s c]++ad) w) ?_;have a:=a.drew
 have ak:¬(16<=s.cy.length\/s.cur.isNone):=by
  have m:=dM Y;have q:aW.isNone=false:=X;rw [ao] at q;rw [q];simp;omega
 refine fD 4 [0,1,2,3] j ⟨_,a⟩ (eR 4 j ⟨_,a⟩ (λw⟨_,a⟩=>hK j j (ax (C.aj a) j)) (fD 1 [5] j ⟨_,a⟩ (dW 6 j ?_)));have n:=g2 (c:=bQ) (a.rd ac K) (by omega);refine cO j j j n (λr w⟨i,Z,B⟩=>?_);have a:=a.aL B;have a:C o e [cz g ba s c,L,bb,Q,D,i] w:=a.as;refine an ⟨⟨_,a⟩,?_⟩;refine dW 7 j (eC (U:=[r]) a j j j j j (by simpa using Z.one) bG (λI w a=>?_));have aJ:=bn (C.aj (b:=I) a);have a:C o e [cz g ba s c,L,bb,Q,D,i,R I #[r] 28] w:=a.as;refine an ⟨⟨_,a⟩,?_⟩;refine dW 8 j ?_;obtain⟨T,k,us,rfl,aH,aw⟩:=d.cy;have a:C o e [cz g ba s c,T,k,L,bb,D,i,R I #[r] 28] w:=C.perm (A:=[cz g ba s c,T++k,L,bb,D,i,R I #[r] 28]) a.as (by simp);have a5:=t.cy;refine dR (a.to T) aH j j (by decide) j j j (news:=[r]) j aJ (by intro u hu;rw [List.mem_singleton.1 hu];exact Z.one) (by omega) (by unfold maxLen;omega) (λp l w aa a=>?_);have a:C o e [cz g ba s c,l,k,L,bb,D,i] w:=a.as;refine an ⟨⟨_,a⟩,?_⟩;refine fD 2 [9,10] j ⟨_,a⟩ (j7 11 j (cB (a.bc ba) j j j aa.one bG (λw a=>?_)));have a:C o e (cz g ba s {c with cy:=p}::_) w:=a;have ah:ir p (s.cy++[x]) (l++(k++i)):=⟨l,k++i,us++[r],j,by rw [List.length_append,List.length_singleton];exact aa,aw.app (hY.one Z)⟩;have a:C o e [cz g ba s {c with cy:=p},L,bb,l++(k++i),D] w:=C.perm (A:=[cz g ba s {c with cy:=p},L,bb,l,k,i,D]) a.as (by simp);obtain⟨aZ,a1,aT,_,_⟩:=aa.form;refine an (cU (ar 6 j (ax (C.aj (b:=ba) a) (congrArg some aT)) (bm 2 j j (λJ=>?_) (λJ=>?_))))
 .refine aq 4 j j ?_
  have f:s.eQ g x=({s with cy:=s.cy++[x]},[],0):=by
   unfold aF.eQ;rw [aI F,aI P,aI ak];exact a6 (by have m:decide (((s.cy.length+1:Nat):Int)>1)=true:=J;have:=of_decide_eq_true m;omega)
  rw [f];exact⟨_,[],_,j,cw.nil,⟨{c with cy:=p},L,bb,l++(k++i),D,⟨d.log,d.cur,ah,d.stored⟩,j⟩,(C.iJ a).empty.f1⟩
 refine ar 7 j (ax (C.aj a) j) ?_;have n:=Bc (g:=g) (bQ:=bQ) (a.rd ac K) aV d.cur (λr z=>(t.cur r z).1) (by omega) (M.st a E) O (a.eF M E) a.ours;refine bk 1 n j (λr w⟨bg,ae,aB,ay,B⟩=>?_);have a:=a.b2 B;have aQ:(s.cy++[x]).length<=16:=by rw [List.length_append,List.length_singleton];have:=of_decide_eq_false J;omega
 have aR:∀y∈s.cy++[x],y.length<=200:=λy H=>by
  rcases dv.1 H with H|H
  .exact t.lr y H
  .rw [fT.1 H];exact aU
 have aM:∀r,(fP g s.cur x).1=some r->r.ok g (N+5)/\s.log.length<64:=λr z=>by
  refine⟨uH O (λr z=>(t.cur r z).1) r z,?_⟩;have q:(fP g s.cur x).1.isSome=true:=by rw [z];rfl
  rw [sc] at q;obtain⟨aX,af⟩:=ha.1 q;exact(t.cur aX af).2
 have aS:aF.ok g (N+5) ({s with cy:=s.cy++[x],cur:=(fP g s.cur x).1}:aF):={t.more (Nat.le_add_right N 5) with cy:=aQ,lr:=aR,cur:=aM}
 obtain⟨S,aK,a⟩:∃S,iv g ba ({s with cy:=s.cy++[x],cur:=(fP g s.cur x).1}:aF) S/\C o e [S,bg] w:=by
  have a:C o e [cz g ba s ({c with cy:=p}),L,ae,l++(k++i),D,bg] w:=a.as;exact⟨_,⟨{c with cy:=p},L,ae,l++(k++i),D,⟨d.log,ay,ah,d.stored⟩,j⟩,a.iJ⟩
 have n:=u7 aK aB (by have:=uG O s.cur x;omega) aS (by omega) (by omega) (M.st a E) O (a.eF M E) a.ours;refine bk 0 n j (λr w⟨ap,aA,az,aD,aO⟩=>?_);have a:=a.b2 aO;refine aq 2 j j ?_
 have f:s.eQ g x=((aF.h9 g {s with cy:=s.cy++[x],cur:=(fP g s.cur x).1} (fP g s.cur x).2).1,(aF.h9 g {s with cy:=s.cy++[x],cur:=(fP g s.cur x).1} (fP g s.cur x).2).2,0):=by
  unfold aF.eQ;rw [aI F,aI P,aI ak];exact aI (by have m:decide (((s.cy.length+1:Nat):Int)>1)=false:=J;have:=of_decide_eq_false m;omega)
 rw [f];exact⟨_,ap,aA,j,az,aD,a⟩
theorem Iz{o:World}{g:al}{ba:Nat}{s:aF}{c:kk}{L:List Chunk}(O:o.heap[ba]? =some (.cells (ps g s c).toArray 152 (0,0)))(a3:nH c.log s.log L)(aQ:Holds o L){N:Nat}(be:s.ok g N)(ai:g.at o)(ak:g.ok){m:aC}(hm:m.ok o)(aU:m.P.cQ)(bv:m.s<(s.log.length:Int)):Calls prog 145 #[ab ba,.agg m.cs.toArray] o λr w=>∃bg,cw r (s.told g m.P) bg/\C o [] [bg] w:=by
 have p:Own [] o:=C.start o;have ac:m.tag.length=32:=hm.tag;have bu:m.x.length<=200:=aU.x;have bs:m.l.length<=10:=aU.l;refine a2 func145 (bL 2 p j j (λA w p=>?_));have p:C o [] [bf A m] w:=p;have p:=p.drew;refine bt 3 j (λw=>∃ad,C o [] ([bf A m]++ad) w) ⟨_,p⟩ (af 0 1 j (a8 1 j a1 m.gJ (af 2 2 j (ef 10 j (λar=>?_) (λar=>?_)))));refine af 4 1 j (a8 5 j a1 m.gJ (af 6 3 j (ef 15 j (λav=>?_) (λav=>?_))))
 .refine fC 27 [9,10,11,12,13,14,15,16,17,18,19,20,21,22,23,24,25,26,27,28,29,31,32,30,33,34,35] j (bK (aq 4 j j ?_));have E:s.told g m.P=[]:=a6 (.inl ⟨by simpa using ar,by simpa using av⟩);rw [E];exact⟨[],cw.nil,p.bare.empty⟩
 refine af 9 1 j (a8 10 j a1 m.gK (af 11 3 j (ef 20 j (λV=>?_) (λV=>?_))))
 .refine fC 22 [14,15,16,17,18,19,20,21,22,23,24,25,26,27,28,29,31,32,30,33,34,35] j (bK (aq 4 j j ?_));have E:s.told g m.P=[]:=a6 (.inr (.inl (dz V)));rw [E];exact⟨[],cw.nil,p.bare.empty⟩
 refine af 14 1 j (a8 15 j a1 m.aV (af 16 3 j (bR 19 j (λw⟨_,p⟩=>ax (p.cc O) j) (af 20 3 j (ef 29 j (λS=>?_) (λS=>?_))))))
 .refine fC 13 [23,24,25,26,27,28,29,31,32,30,33,34,35] j (bK (aq 4 j j ?_));have E:s.told g m.P=[]:=a6 (.inr (.inr (.inl (d5.1 S))));rw [E];exact⟨[],cw.nil,p.bare.empty⟩
 refine af 23 3 j (bR 26 j (λw⟨_,p⟩=>ax (p.cc O) j) (af 27 1 j (a8 28 j a1 m.aV (aT 29 j (λw⟨_,p⟩=>c4 (U:=m.cs) j j (m.bU ac) (bn (C.aj p))) (af 31 1 j (aT 32 j (λw⟨_,p⟩=>c4 (U:=au m.tag) j j (by rw [cL];exact ac) (m.v4 (C.aj p))) (aR 30 j ?_)))))));have H:=mj (hm.st p) (by omega) (by omega);refine cO j j j H (λr w⟨bl,Y,B⟩=>?_);have p:=p.aL B;have p:C o [] [bf A m,bl] w:=p.as
 have az:m.body.length<=1000000:=by
  have aw:=lz m.l hm.aH;have ay:=jI m.x (by omega);have X:=fU [4,m.k,m.f,m.s,m.v];simp only [eu,ge] at X;unfold aC.body;simp only [b0];omega
 obtain⟨ap,gL,rfl,_,_,aa,_⟩:=Y.read (p.holds (by simp));refine an ⟨⟨_,p⟩,?_⟩;refine aR 33 j ?_;have H:=r5 (ai.st p (al.off.nil g)) ak aa az ac (i:=m.f) (d:=gL);refine bB j j j H (λw B=>?_);have p:=p.aL B;have p:C o [] [bf A m,bl] w:=p.as;refine an ⟨⟨_,p⟩,?_⟩;refine af 34 2 j (bK (bm 0 j j (λW=>?_) (λW=>?_)))
 .refine aq 3 j j ?_;have E:s.told g m.P=[]:=a6 (.inr (.inr (.inr (show g.check m.f m.body m.tag=false from by simpa using W))));rw [E];exact⟨[],cw.nil,p.bare.empty⟩
 have p:C o [] [bf A m] _:=p.as;refine lW 2 j (λw=>∃ad,C o [] ([bf A m]++ad) w) ?_;have p:=p.drew;have aE:¬(m.k≠2/\m.k≠4):=λh=>h.2 (by simpa using av)
 rotate_left
 refine af 4 6 j (a8 10 j a1 m.gK (af 11 3 j (ef 20 j (λV=>?_) (λV=>?_))))
 .refine fC 22 [14,15,16,17,18,19,20,21,22,23,24,25,26,27,28,29,31,32,30,33,34,35] j (bK (aq 4 j j ?_));have E:s.told g m.P=[]:=a6 (.inr (.inl (dz V)));rw [E];exact⟨[],cw.nil,p.bare.empty⟩
 refine af 14 1 j (a8 15 j a1 m.aV (af 16 3 j (bR 19 j (λw⟨_,p⟩=>ax (p.cc O) j) (af 20 3 j (ef 29 j (λS=>?_) (λS=>?_))))))
 .refine fC 13 [23,24,25,26,27,28,29,31,32,30,33,34,35] j (bK (aq 4 j j ?_));have E:s.told g m.P=[]:=a6 (.inr (.inr (.inl (d5.1 S))));rw [E];exact⟨[],cw.nil,p.bare.empty⟩
 refine af 23 3 j (bR 26 j (λw⟨_,p⟩=>ax (p.cc O) j) (af 27 1 j (a8 28 j a1 m.aV (aT 29 j (λw⟨_,p⟩=>c4 (U:=m.cs) j j (m.bU ac) (bn (C.aj p))) (af 31 1 j (aT 32 j (λw⟨_,p⟩=>c4 (U:=au m.tag) j j (by rw [cL];exact ac) (m.v4 (C.aj p))) (aR 30 j ?_)))))));have H:=mj (hm.st p) (by omega) (by omega);refine cO j j j H (λr w⟨bl,Y,B⟩=>?_);have p:=p.aL B;have p:C o [] [bf A m,bl] w:=p.as
 have az:m.body.length<=1000000:=by
  have aw:=lz m.l hm.aH;have ay:=jI m.x (by omega);have X:=fU [4,m.k,m.f,m.s,m.v];simp only [eu,ge] at X;unfold aC.body;simp only [b0];omega
 obtain⟨ap,gL,rfl,_,_,aa,_⟩:=Y.read (p.holds (by simp));refine an ⟨⟨_,p⟩,?_⟩;refine aR 33 j ?_;have H:=r5 (ai.st p (al.off.nil g)) ak aa az ac (i:=m.f) (d:=gL);refine bB j j j H (λw B=>?_);have p:=p.aL B;have p:C o [] [bf A m,bl] w:=p.as;refine an ⟨⟨_,p⟩,?_⟩;refine af 34 2 j (bK (bm 0 j j (λW=>?_) (λW=>?_)))
 .refine aq 3 j j ?_;have E:s.told g m.P=[]:=a6 (.inr (.inr (.inr (show g.check m.f m.body m.tag=false from by simpa using W))));rw [E];exact⟨[],cw.nil,p.bare.empty⟩
 have p:C o [] [bf A m] _:=p.as;refine lW 2 j (λw=>∃ad,C o [] ([bf A m]++ad) w) ?_;have p:=p.drew;have aE:¬(m.k≠2/\m.k≠4):=λh=>h.1 (by simpa using ar)
 rotate_left
 all_goals
  have bh:0<=m.s:=by have:=dM V;omega
  obtain⟨i,aD⟩:∃i,i=m.s.toNat:=⟨_,j⟩;have ae:i<s.log.length:=by omega
  obtain⟨bk,bj,es,rfl,a4,aP⟩:=a3;obtain⟨aZ,bo,a9,bq,br,aX,_⟩:=a4.read aQ.left;have bp:=aP.len;obtain⟨I,ce,K,F,aS,a7,_,aM,bb,am⟩:=aP.read aQ.right i ae;obtain⟨e,ah⟩:∃e,s.log[i]=e:=⟨_,j⟩;rw [ah] at aS a7 aM bb am;have u:=be.ns e (ah▸d9 ae);have bd:es[i]'(by omega)=(.slice I e.1.length ce,.slice K e.2.length F):=by have:=aS;rw [cn (by omega)] at this;exact hB this
  obtain⟨aN,a0⟩:∃aN,aZ=some aN:=by
   obtain⟨a,a5,_⟩:=aX (i*2+0) _ (h8 (f:=λe:Value×Value=>[e.1,e.2]) (J:=0) es (λ_ _=>rfl) i (by omega) (by decide) j);exact⟨a,a5⟩
  subst a0;refine fD 3 [0,1,2] j ⟨_,p⟩ (eR 3 j ⟨_,p⟩ (λw⟨_,p⟩=>hK j j (ax (p.cc O) (aG some a9))) ?_);refine fD 1 [4] j ⟨_,p⟩ (eR 5 j ⟨_,p⟩ (λw⟨_,p⟩=>hK j j (ax (C.aj p) m.gK)) (rr 48 (.int .i64 (i:Nat)) j (aG (Value.int .i64) (by rw [aD];exact(p5 bh).symm)) (eR 6 j ⟨_,p⟩ (λw _=>rp j j ae) (eR 7 j ⟨_,p⟩ (λw⟨_,p⟩=>c4 (U:=[.slice I e.1.length ce,.slice K e.2.length F]) j j j (by have h:=i0 (n:=2) (f:=λe:Value×Value=>[e.1,e.2]) (p.rd aX (bT.of_nil _ _)) (λ_ _=>rfl) i (by omega);rw [bd] at h;exact h)) (dW 8 j (ew p j j (λM w p=>?_)))))));have p:C o [] ([bf A m]++_) w:=p.front;refine an ⟨⟨_,p⟩,?_⟩;refine j7 9 j (c2 (p.bc M) j j j j j bG (λw p=>?_));have p:=C.whole (U:=[.slice I e.1.length ce,.slice K e.2.length F]) p j;have p:C o [] [bf A m,R M #[.slice I e.1.length ce,.slice K e.2.length F] 154] w:=p.as;refine an (cU ?_);have p:=p.drew;refine bt 1 j (λw=>∃ad,C o [] ([bf A m,R M #[.slice I e.1.length ce,.slice K e.2.length F] 154]++ad) w) ⟨_,p⟩ (af 0 3 j (bR 3 j (λw⟨_,p⟩=>ax (p.cc O) j) (af 4 1 j (a8 5 j a1 m.aV (af 6 1 j (a8 7 j a1 m.gK (af 8 1 j (a8 9 j a1 j (af 11 1 j (a8 12 j a1 j (aO 10 15 j j ?_ ?_)))))))))))
  .refine cO j j j (g2 (c:=ce) (p.rd aM (bT.of_nil _ _)) (by have:=u.1;omega)) (λbi w⟨z,Z,B⟩=>?_);obtain⟨t,aV,rfl,_,_⟩:=Z.form;have p:=p.aL B;have p:C o [] ([bf A m,R M #[.slice I e.1.length ce,.slice K e.2.length F] 154]++_) w:=p.front;refine an ⟨⟨_,p⟩,?_⟩;refine aO 13 15 j j ?_ ?_;refine cO j j j (lb (d:=F) (p.rd am (bT.of_nil _ _)) u.2.2 (by have:=u.2.1;omega)) (λaY w⟨y,T,ag⟩=>?_);obtain⟨q,d1,rfl,_,_⟩:=T.form;have p:=p.aL ag;have p:C o [] ([bf A m,R M #[.slice I e.1.length ce,.slice K e.2.length F] 154]++_) w:=p.front;refine an ⟨⟨_,p⟩,?_⟩;refine aT 14 j (λw _=>e3 (c:=(⟨5,s.ao,m.f,m.s,0,t,e.1,aV,q,e.2,d1,cA⟩:aC).cs.toArray) j (λ_=>by kernel_rfl)) (aR 15 j (ew p j j (λD w p=>?_)));have p:C o [] ([bf A m,R M #[.slice I e.1.length ce,.slice K e.2.length F] 154]++_) w:=p.front;refine an ⟨⟨_,p⟩,?_⟩;rotate_left
   refine ew p j j (λD w p=>?_);have p:C o [] ([bf A m,R M #[.slice I e.1.length ce,.slice K e.2.length F] 154]++_) w:=p.front;refine an ⟨⟨_,p⟩,?_⟩;refine aR 13 j (cO j j j (lb (d:=F) (p.rd am (bT.of_nil _ _)) u.2.2 (by have:=u.2.1;omega)) (λaY w⟨y,T,ag⟩=>?_));obtain⟨q,d1,rfl,_,_⟩:=T.form;have p:=p.aL ag;have p:C o [] ([bf A m,R M #[.slice I e.1.length ce,.slice K e.2.length F] 154]++_) w:=p.front;refine an ⟨⟨_,p⟩,?_⟩;refine aT 14 j (λw _=>e3 (c:=(⟨5,s.ao,m.f,m.s,0,t,e.1,aV,q,e.2,d1,cA⟩:aC).cs.toArray) j (λ_=>by kernel_rfl)) ?_;rotate_left
   all_goals
    refine dA 16 j (c2 (p.bc D) j j j (by simpa using(⟨5,s.ao,m.f,m.s,0,t,e.1,aV,q,e.2,d1,cA⟩:aC).one) j bG (λw p=>?_));have p:=C.whole (U:=(⟨5,s.ao,m.f,m.s,0,t,e.1,aV,q,e.2,d1,cA⟩:aC).cs) p j;have p:C o [] [bf D (⟨5,s.ao,m.f,m.s,0,t,e.1,aV,q,e.2,d1,cA⟩:aC),z,y] w:=p.as;have aK:fA (⟨5,s.ao,m.f,m.s,0,t,e.1,aV,q,e.2,d1,cA⟩:aC) (z++y):=⟨z,y,j,⟨Z,T⟩,j,u.2.2,⟨by show e.1.length<=_;have:=u.1;omega,by show e.2.length<=_;have:=u.2.1;omega⟩⟩;refine an (cU ?_);have p:=p.drew;refine bt 1 j (λw=>∃ad,C o [] ([bf D (⟨5,s.ao,m.f,m.s,0,t,e.1,aV,q,e.2,d1,cA⟩:aC)]++ad) w) ⟨_,p⟩ (af 0 3 j (bR 3 j (λw⟨_,p⟩=>ax (p.cc O) j) (af 4 3 j (bR 7 j (λw⟨_,p⟩=>ax (p.cc O) j) (aT 8 j (λw⟨_,p⟩=>c4 (U:=(⟨5,s.ao,m.f,m.s,0,t,e.1,aV,q,e.2,d1,cA⟩:aC).cs) j j j (bn (C.aj p))) (aR 9 j ?_))))));have aJ:=(aK.read (Holds.app (p.holds (G:=z) (by simp)) (p.holds (G:=y) (by simp)))).1;have H:=mj aJ (by show e.1.length<=_;have:=u.1;omega) (by show e.2.length<=_;have:=u.2.1;omega);refine cO j j j H (λr w⟨bl,Y,B⟩=>?_);have p:=p.aL B;have p:C o [] [bf D (⟨5,s.ao,m.f,m.s,0,t,e.1,aV,q,e.2,d1,cA⟩:aC),z,y,bl] w:=p.as
    have aA:(⟨5,s.ao,m.f,m.s,0,t,e.1,aV,q,e.2,d1,cA⟩:aC).body.length<=1000000:=by
     have aw:=lz e.2 u.2.2;have ay:=jI e.1 (by have:=u.1;omega);have X:=fU [4,5,s.ao,m.s,0];simp only [eu,ge] at X;show(d7 [4,5,s.ao,m.s,0]++(hC e.1++ju e.2)).length<=_;simp only [b0];have:=u.1;have:=u.2.1;omega
    obtain⟨ap,gL,rfl,_,_,aa,_⟩:=Y.read (p.holds (by simp));refine an ⟨⟨_,p⟩,?_⟩;refine aR 10 j ?_;have H:=nB (ai.st p (al.off.nil g)) ak aa aA (i:=s.ao) (d:=gL);refine bB j j j H (λw B=>?_);have p:=p.aL B;have p:C o [] [bf D (⟨5,s.ao,m.f,m.s,0,t,e.1,aV,q,e.2,d1,cA⟩:aC),z,y,bl] w:=p.as;refine an ⟨⟨_,p⟩,?_⟩;refine af 11 1 j (dA 12 j (c2 (p.bc D) j j j (by simpa using eg (g.cu s.ao (⟨5,s.ao,m.f,m.s,0,t,e.1,aV,q,e.2,d1,cA⟩:aC).body)) (by rw [List.size_toArray,cL,al.ec]) (by rw [List.size_toArray,(⟨5,s.ao,m.f,m.s,0,t,e.1,aV,q,e.2,d1,cA⟩:aC).bU j];decide) (λw p=>?_)));have p:=C.gg p ((⟨5,s.ao,m.f,m.s,0,t,e.1,aV,q,e.2,d1,cA⟩:aC).pn (g.cu s.ao (⟨5,s.ao,m.f,m.s,0,t,e.1,aV,q,e.2,d1,cA⟩:aC).body) (by rw [al.ec];rfl));have p:C o [] (bf D (⟨5,s.ao,m.f,m.s,0,t,e.1,aV,q,e.2,d1,g.cu s.ao (⟨5,s.ao,m.f,m.s,0,e.1,e.2,[]⟩:aW).body⟩:aC)::_) w:=p;have p:C o [] [bf D (⟨5,s.ao,m.f,m.s,0,t,e.1,aV,q,e.2,d1,g.cu s.ao (⟨5,s.ao,m.f,m.s,0,e.1,e.2,[]⟩:aW).body⟩:aC),z,y] w:=p.as;refine an ?_;refine cU (bM 2 (U:=(⟨5,s.ao,m.f,m.s,0,t,e.1,aV,q,e.2,d1,g.cu s.ao (⟨5,s.ao,m.f,m.s,0,e.1,e.2,[]⟩:aW).body⟩:aC).cs) j j ((⟨5,s.ao,m.f,m.s,0,t,e.1,aV,q,e.2,d1,g.cu s.ao (⟨5,s.ao,m.f,m.s,0,e.1,e.2,[]⟩:aW).body⟩:aC).bU (al.ec _ _ _)) (bn (C.aj p)) (gi (U:=(⟨5,s.ao,m.f,m.s,0,t,e.1,aV,q,e.2,d1,g.cu s.ao (⟨5,s.ao,m.f,m.s,0,e.1,e.2,[]⟩:aW).body⟩:aC).cs) p j j j ((⟨5,s.ao,m.f,m.s,0,t,e.1,aV,q,e.2,d1,g.cu s.ao (⟨5,s.ao,m.f,m.s,0,e.1,e.2,[]⟩:aW).body⟩:aC).bU (al.ec _ _ _)) (by decide) (by decide) (λQ w p=>aq 1 j j ?_)));have aB:g.check m.f m.body m.tag=true:=by simpa using W
    have E:s.told g m.P=[(⟨5,s.ao,m.f,m.s,0,t,e.1,aV,q,e.2,d1,g.cu s.ao (⟨5,s.ao,m.f,m.s,0,e.1,e.2,[]⟩:aW).body⟩:aC).P]:=by
     unfold aF.told;rw [aI (by rintro(h|h|h|h);exact aE h;exact absurd h (dM V);(rw [show(m.f==s.ao)=true from d5.2 h] at S;cases S);(have h:g.check m.f m.body m.tag=false:=h;rw [aB] at h;cases h))];rw [show s.log[m.P.s.toNat]? =some e from by show s.log[m.s.toNat]? =_;rw [<-aD,cn ae,ah]]
    rw [E];have p:C o [] [R Q (⟨5,s.ao,m.f,m.s,0,t,e.1,aV,q,e.2,d1,g.cu s.ao (⟨5,s.ao,m.f,m.s,0,e.1,e.2,[]⟩:aW).body⟩:aC).cs.toArray 53,z,y] w:=p.as;refine⟨R Q (⟨5,s.ao,m.f,m.s,0,t,e.1,aV,q,e.2,d1,g.cu s.ao (⟨5,s.ao,m.f,m.s,0,e.1,e.2,[]⟩:aW).body⟩:aC).cs.toArray 53++(z++y),⟨[(⟨5,s.ao,m.f,m.s,0,t,e.1,aV,q,e.2,d1,g.cu s.ao (⟨5,s.ao,m.f,m.s,0,e.1,e.2,[]⟩:aW).body⟩:aC)],j,R Q (⟨5,s.ao,m.f,m.s,0,t,e.1,aV,q,e.2,d1,g.cu s.ao (⟨5,s.ao,m.f,m.s,0,e.1,e.2,[]⟩:aW).body⟩:aC).cs.toArray 53,z++y,j,?_,fF.one ⟨z,y,j,⟨Z,T⟩,al.ec _ _ _,u.2.2,⟨by show e.1.length<=_;have:=u.1;omega,by show e.2.length<=_;have:=u.2.1;omega⟩⟩⟩,p.perm (by simp)⟩;have:=Row.full (e:=53) (size:=39) (b:=Q) (n:=1) (cur:=(⟨5,s.ao,m.f,m.s,0,t,e.1,aV,q,e.2,d1,g.cu s.ao (⟨5,s.ao,m.f,m.s,0,e.1,e.2,[]⟩:aW).body⟩:aC).cs.toArray) (by unfold maxLen;omega) (by rw [List.size_toArray,(⟨5,s.ao,m.f,m.s,0,t,e.1,aV,q,e.2,d1,g.cu s.ao (⟨5,s.ao,m.f,m.s,0,e.1,e.2,[]⟩:aW).body⟩:aC).bU (al.ec _ _ _)]);simpa using this
  refine ew p j j (λD w p=>?_);have p:C o [] ([bf A m,R M #[.slice I e.1.length ce,.slice K e.2.length F] 154]++_) w:=p.front;refine an ⟨⟨_,p⟩,?_⟩;refine aR 10 j (cO j j j (g2 (c:=ce) (p.rd aM (bT.of_nil _ _)) (by have:=u.1;omega)) (λbi w⟨z,Z,B⟩=>?_));obtain⟨t,aV,rfl,_,_⟩:=Z.form;have p:=p.aL B;have p:C o [] ([bf A m,R M #[.slice I e.1.length ce,.slice K e.2.length F] 154]++_) w:=p.front;refine an ⟨⟨_,p⟩,?_⟩;refine aR 13 j (cO j j j (lb (d:=F) (p.rd am (bT.of_nil _ _)) u.2.2 (by have:=u.2.1;omega)) (λaY w⟨y,T,ag⟩=>?_));obtain⟨q,d1,rfl,_,_⟩:=T.form;have p:=p.aL ag;have p:C o [] ([bf A m,R M #[.slice I e.1.length ce,.slice K e.2.length F] 154]++_) w:=p.front;refine an ⟨⟨_,p⟩,?_⟩;refine aT 14 j (λw _=>e3 (c:=(⟨5,s.ao,m.f,m.s,0,t,e.1,aV,q,e.2,d1,cA⟩:aC).cs.toArray) j (λ_=>by kernel_rfl)) (dA 16 j (c2 (p.bc D) j j j (by simpa using(⟨5,s.ao,m.f,m.s,0,t,e.1,aV,q,e.2,d1,cA⟩:aC).one) j bG (λw p=>?_)));have p:=C.whole (U:=(⟨5,s.ao,m.f,m.s,0,t,e.1,aV,q,e.2,d1,cA⟩:aC).cs) p j;have p:C o [] [bf D (⟨5,s.ao,m.f,m.s,0,t,e.1,aV,q,e.2,d1,cA⟩:aC),z,y] w:=p.as;have aK:fA (⟨5,s.ao,m.f,m.s,0,t,e.1,aV,q,e.2,d1,cA⟩:aC) (z++y):=⟨z,y,j,⟨Z,T⟩,j,u.2.2,⟨by show e.1.length<=_;have:=u.1;omega,by show e.2.length<=_;have:=u.2.1;omega⟩⟩;refine an (cU ?_);have p:=p.drew;refine bt 1 j (λw=>∃ad,C o [] ([bf D (⟨5,s.ao,m.f,m.s,0,t,e.1,aV,q,e.2,d1,cA⟩:aC)]++ad) w) ⟨_,p⟩ (af 0 3 j (bR 3 j (λw⟨_,p⟩=>ax (p.cc O) j) (af 4 3 j (bR 7 j (λw⟨_,p⟩=>ax (p.cc O) j) (aT 8 j (λw⟨_,p⟩=>c4 (U:=(⟨5,s.ao,m.f,m.s,0,t,e.1,aV,q,e.2,d1,cA⟩:aC).cs) j j j (bn (C.aj p))) (aR 9 j ?_))))));have aJ:=(aK.read (Holds.app (p.holds (G:=z) (by simp)) (p.holds (G:=y) (by simp)))).1;have H:=mj aJ (by show e.1.length<=_;have:=u.1;omega) (by show e.2.length<=_;have:=u.2.1;omega);refine cO j j j H (λr w⟨bl,Y,B⟩=>?_);have p:=p.aL B;have p:C o [] [bf D (⟨5,s.ao,m.f,m.s,0,t,e.1,aV,q,e.2,d1,cA⟩:aC),z,y,bl] w:=p.as
  have aA:(⟨5,s.ao,m.f,m.s,0,t,e.1,aV,q,e.2,d1,cA⟩:aC).body.length<=1000000:=by
   have aw:=lz e.2 u.2.2;have ay:=jI e.1 (by have:=u.1;omega);have X:=fU [4,5,s.ao,m.s,0];simp only [eu,ge] at X;show(d7 [4,5,s.ao,m.s,0]++(hC e.1++ju e.2)).length<=_;simp only [b0];have:=u.1;have:=u.2.1;omega
  obtain⟨ap,gL,rfl,_,_,aa,_⟩:=Y.read (p.holds (by simp));refine an ⟨⟨_,p⟩,?_⟩;refine aR 10 j ?_;have H:=nB (ai.st p (al.off.nil g)) ak aa aA (i:=s.ao) (d:=gL);refine bB j j j H (λw B=>?_);have p:=p.aL B;have p:C o [] [bf D (⟨5,s.ao,m.f,m.s,0,t,e.1,aV,q,e.2,d1,cA⟩:aC),z,y,bl] w:=p.as;refine an ⟨⟨_,p⟩,?_⟩;refine af 11 1 j (dA 12 j (c2 (p.bc D) j j j (by simpa using eg (g.cu s.ao (⟨5,s.ao,m.f,m.s,0,t,e.1,aV,q,e.2,d1,cA⟩:aC).body)) (by rw [List.size_toArray,cL,al.ec]) (by rw [List.size_toArray,(⟨5,s.ao,m.f,m.s,0,t,e.1,aV,q,e.2,d1,cA⟩:aC).bU j];decide) (λw p=>?_)));have p:=C.gg p ((⟨5,s.ao,m.f,m.s,0,t,e.1,aV,q,e.2,d1,cA⟩:aC).pn (g.cu s.ao (⟨5,s.ao,m.f,m.s,0,t,e.1,aV,q,e.2,d1,cA⟩:aC).body) (by rw [al.ec];rfl));have p:C o [] (bf D (⟨5,s.ao,m.f,m.s,0,t,e.1,aV,q,e.2,d1,g.cu s.ao (⟨5,s.ao,m.f,m.s,0,e.1,e.2,[]⟩:aW).body⟩:aC)::_) w:=p;have p:C o [] [bf D (⟨5,s.ao,m.f,m.s,0,t,e.1,aV,q,e.2,d1,g.cu s.ao (⟨5,s.ao,m.f,m.s,0,e.1,e.2,[]⟩:aW).body⟩:aC),z,y] w:=p.as;refine an (cU (bM 2 (U:=(⟨5,s.ao,m.f,m.s,0,t,e.1,aV,q,e.2,d1,g.cu s.ao (⟨5,s.ao,m.f,m.s,0,e.1,e.2,[]⟩:aW).body⟩:aC).cs) j j ((⟨5,s.ao,m.f,m.s,0,t,e.1,aV,q,e.2,d1,g.cu s.ao (⟨5,s.ao,m.f,m.s,0,e.1,e.2,[]⟩:aW).body⟩:aC).bU (al.ec _ _ _)) (bn (C.aj p)) (gi (U:=(⟨5,s.ao,m.f,m.s,0,t,e.1,aV,q,e.2,d1,g.cu s.ao (⟨5,s.ao,m.f,m.s,0,e.1,e.2,[]⟩:aW).body⟩:aC).cs) p j j j ((⟨5,s.ao,m.f,m.s,0,t,e.1,aV,q,e.2,d1,g.cu s.ao (⟨5,s.ao,m.f,m.s,0,e.1,e.2,[]⟩:aW).body⟩:aC).bU (al.ec _ _ _)) (by decide) (by decide) (λQ w p=>aq 1 j j ?_))));have aB:g.check m.f m.body m.tag=true:=by simpa using W
  have E:s.told g m.P=[(⟨5,s.ao,m.f,m.s,0,t,e.1,aV,q,e.2,d1,g.cu s.ao (⟨5,s.ao,m.f,m.s,0,e.1,e.2,[]⟩:aW).body⟩:aC).P]:=by
   unfold aF.told;rw [aI (by rintro(h|h|h|h);exact aE h;exact absurd h (dM V);(rw [show(m.f==s.ao)=true from d5.2 h] at S;cases S);(have h:g.check m.f m.body m.tag=false:=h;rw [aB] at h;cases h))];rw [show s.log[m.P.s.toNat]? =some e from by show s.log[m.s.toNat]? =_;rw [<-aD,cn ae,ah]]
  rw [E];have p:C o [] [R Q (⟨5,s.ao,m.f,m.s,0,t,e.1,aV,q,e.2,d1,g.cu s.ao (⟨5,s.ao,m.f,m.s,0,e.1,e.2,[]⟩:aW).body⟩:aC).cs.toArray 53,z,y] w:=p.as;refine⟨R Q (⟨5,s.ao,m.f,m.s,0,t,e.1,aV,q,e.2,d1,g.cu s.ao (⟨5,s.ao,m.f,m.s,0,e.1,e.2,[]⟩:aW).body⟩:aC).cs.toArray 53++(z++y),⟨[(⟨5,s.ao,m.f,m.s,0,t,e.1,aV,q,e.2,d1,g.cu s.ao (⟨5,s.ao,m.f,m.s,0,e.1,e.2,[]⟩:aW).body⟩:aC)],j,R Q (⟨5,s.ao,m.f,m.s,0,t,e.1,aV,q,e.2,d1,g.cu s.ao (⟨5,s.ao,m.f,m.s,0,e.1,e.2,[]⟩:aW).body⟩:aC).cs.toArray 53,z++y,j,?_,fF.one ⟨z,y,j,⟨Z,T⟩,al.ec _ _ _,u.2.2,⟨by show e.1.length<=_;have:=u.1;omega,by show e.2.length<=_;have:=u.2.1;omega⟩⟩⟩,p.perm (by simp)⟩;have:=Row.full (e:=53) (size:=39) (b:=Q) (n:=1) (cur:=(⟨5,s.ao,m.f,m.s,0,t,e.1,aV,q,e.2,d1,g.cu s.ao (⟨5,s.ao,m.f,m.s,0,e.1,e.2,[]⟩:aW).body⟩:aC).cs.toArray) (by unfold maxLen;omega) (by rw [List.size_toArray,(⟨5,s.ao,m.f,m.s,0,t,e.1,aV,q,e.2,d1,g.cu s.ao (⟨5,s.ao,m.f,m.s,0,e.1,e.2,[]⟩:aW).body⟩:aC).bU (al.ec _ _ _)]);simpa using this
end Go.Proofs.YtngjfjhomikplaaGreatDoor.R
