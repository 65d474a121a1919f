/- Part 4 of the proof. -/
import Derived.Test.YtngjfjhomikplaaGreatDoorM3
set_option linter.unusedVariables false
set_option linter.unusedSimpArgs false
set_option linter.unusedSectionVars false
set_option maxRecDepth 20000
set_option maxHeartbeats 4000000
namespace Go.Proofs.YtngjfjhomikplaaGreatDoor.R
open Go.Proofs.Tryz Go Go.RowKit Go.Proofs
def aC.la(m:aC)(F:List Nat):Prop:=bT m.A (au m.x) F/\bT m.B (vcs m.l) F
theorem aC.la.sub{m:aC}{F eL:List Nat}(h:m.la F)(aM:∀b∈eL,b∈F):m.la eL:=⟨h.1.sub aM,h.2.sub aM⟩
theorem aC.ok.q9{m:aC}{o w:World}{F:List Nat}{ad:List (List Chunk)}(h:m.ok o)(a:C o F ad w)(b:m.la F):m.ok w:=⟨a.rd h.x b.1,a.rd h.l b.2,h.aH,h.tag⟩
theorem aC.ok.CK{m:aC}{o w:World}{F:List Nat}{ad:List (List Chunk)}(h:m.ok o)(a:C o F ad w)(b:m.la F):m.la (av ad):=⟨a.apart h.x b.1,a.apart h.l b.2⟩
theorem aF.If{g:al}{s:aF}{m:aW}(h:m.k=1):s.take g m=((s.eQ g m.x).1,(s.eQ g m.x).2.1):=a6 h
theorem aF.Id{g:al}{s:aF}{m:aW}(h:¬m.k=1)(a:m.s<s.slot):s.take g m=(s,s.told g m):=(aI h).trans (a6 a)
theorem aF.H9{g:al}{s:aF}{m:aW}(h:¬m.k=1)(a:m.s=s.slot):s.take g m=aF.h9 g {s with cur:=(hf g s.cur m).1} (hf g s.cur m).2:=(aI h).trans ((aI (by omega)).trans (a6 a))
theorem aF.Ie{g:al}{s:aF}{m:aW}(h:¬m.k=1)(b:s.slot<m.s)(a:m.s-s.slot<=4/\s.stored.length<128):s.take g m=({s with stored:=cj s.stored s.e0 m,e0:=s.e0+1},[]):=(aI h).trans ((aI (by omega)).trans ((aI (by omega)).trans (a6 a)))
theorem aF.AS{g:al}{s:aF}{m:aW}(h:¬m.k=1)(b:s.slot<m.s)(a:¬(m.s-s.slot<=4/\s.stored.length<128)):s.take g m=(s,[]):=(aI h).trans ((aI (by omega)).trans ((aI (by omega)).trans (aI a)))
theorem aF.ok.rj{g:al}{N M:Nat}{s:aF}{c:Option ak}(h:s.ok g N)(e:N<=M)(f:∀r,c=some r->r.ok g M)(aM:c.isSome=s.cur.isSome):aF.ok g M {s with cur:=c}:=
 {h.more e with cur:=λr a=>⟨f r a,by
   have b:s.cur.isSome=true:=by rw [<-aM,show c=some r from a];rfl
   obtain⟨i,d⟩:=ha.1 b;exact(h.cur i d).2⟩}
theorem qy{a b:Int}(c: -2000000<=a/\a<=2000000)(d: -2000000<=b/\b<=2000000):evalBin .add .i64 a b=some (.int .i64 (a+b)):=by
 show some (Value.int .i64 (IntKind.i64.wrap (a+b)))=_;rw [jY];exact aG (λz=>some (Value.int .i64 z)) (by omega)
theorem sg{a b:Int}(c: -2000000<=a/\a<=2000000)(d: -2000000<=b/\b<=2000000):evalBin .sub .i64 a b=some (.int .i64 (a-b)):=by
 show some (Value.int .i64 (IntKind.i64.wrap (a-b)))=_;rw [jY];exact aG (λz=>some (Value.int .i64 z)) (by omega)
theorem H7{o:World}{g:al}{ba:Nat}{s:aF}{G:List Chunk}(aS:iv g ba s G){m:aC}(hm:m.ok o)(J:m.la (av [G]))(aa:m.P.cQ)(bz:m.s<=1000000){N:Nat}(K:s.ok g N)(aP:773<=N)(aQ:N+40<=1000000)(R:g.at o)(S:g.ok)(z:g.off (av [G]))(a:Own [G] o):Calls prog 90 #[ab ba,.agg m.cs.toArray] o λr w=>∃bg ai,cw r (s.take g m.P).2 bg/\iv g ba (s.take g m.P).1 ai/\C o (av [G]) [ai,bg] w:=by
 have T:m.tag.length=32:=hm.tag;have bA:m.x.length<=200:=aa.x;have bx:m.l.length<=10:=aa.l;have a3:=J;have a7:=z;obtain⟨c,L,bb,Q,D,t,rfl⟩:=aS;obtain⟨e,aB⟩:∃e,e=av [cz g ba s c++(L++(bb++(Q++D)))]:=⟨_,j⟩;rw [<-aB] at J z⊢;have a:C o e [cz g ba s c++(L++(bb++(Q++D)))] o:=aB▸a;have a:=a.qS;obtain⟨u,ah,I,bC,V,ap,aI,au,az⟩:=t.stored;obtain⟨bl,bj,es,bs,aY,br⟩:=t.log;obtain⟨bi,bo,a4,bu,bw⟩:=aY.form;have bv:=K.log;refine a2 func90 (bL 2 a j j (λf w a=>?_));have a:C o e (bf f m::_) w:=a;refine ar 13 j (ax (C.aj (b:=ba) a) (aG some a4)) (ar 7 j (ax (C.aj a) m.gJ) (bm 2 j j (λH=>?_) (λH=>?_)))
 .refine ar 4 j (ax (C.aj a) m.gk) ?_;have a:C o e [cz g ba s c,L,bb,Q,D,bf f m] w:=a.as;have a:=a.iJ;have n:=AO (bQ:=m.c) ⟨c,L,bb,Q,D,t,j⟩ (a.rd hm.x J.1) a3.1 (by omega) K aP aQ (R.st a z) S a7 a.ours;refine bk 0 n j (λr w⟨v,bg,ai,ac,Y,aU,q⟩=>?_);subst ac;have a:=a.b2 q;refine aq 9 j j ?_;rw [aF.If (m:=m.P) (d5.1 H)];exact⟨bg,ai,Y,aU,a.as⟩
 refine ar 3 j (ax (C.aj a) m.gK) (b8 3 j j (λO=>?_) (λO=>?_))
 .refine bM 3 (U:=m.cs) j j (m.bU T) (bn (C.aj a)) ?_;have n:=Iz (ba:=ba) (C.aj (b:=ba) a) t.log (a.holds (by simp)) K (R.st a z) S (hm.q9 a J) aa O;refine bk 0 n j (λr w⟨bg,Y,q⟩=>?_);have a:=a.aL q;refine aq 1 j j ?_;rw [aF.Id (m:=m.P) (by simpa using H) O];have a:C o e [cz g ba s c,L,bb,Q,D,bg] w:=a.as;exact⟨bg,_,Y,⟨c,L,bb,Q,D,t,j⟩,a.iJ⟩
 refine ar 3 j (ax (C.aj a) m.gK) (bm 3 j j (λeo=>?_) (λeo=>?_))
 .have a:C o e ([bf f m,cz g ba s c]++_) _:=a.front;have a:=a.drew;refine bt 1 j (λw=>True) aX (af 0 4 j (aO 4 5 j j ?_ ?_));refine ox j j j j (ax (C.aj (b:=ba) a) j) (an ⟨aX,?_⟩);refine aR 5 j (mc (U:=m.cs) j j j j (m.bU T) (bn (C.aj a)) ?_);rotate_left
  refine mc (U:=m.cs) j j j j (m.bU T) (bn (C.aj a)) (an ⟨aX,?_⟩);refine aR 4 j (ox j j j j (ax (C.aj (b:=ba) a) j) ?_);rotate_left
  all_goals
   refine an ⟨aX,?_⟩;refine aR 6 j ?_;have n:=AR (m:=m) (hm.q9 a J) t.cur (λr ac=>(K.cur r ac).1) (by omega) (R.st a z) S (a.eF R z) a.ours;refine cO j j j n (λr w⟨bg,ae,Y,aM,q⟩=>?_);have a:=a.b2 q;have a:C o e [bf f m,cz g ba s c,L,ae,Q,D,bg] w:=a.as;refine an ⟨aX,?_⟩;refine aR 7 j ?_;have bd:aF.ok g (N+6) ({s with cur:=(hf g s.cur m.P).1}:aF):=K.rj (gF _ _) (sa S aa (λr ac=>(K.cur r ac).1)) sb
   obtain⟨ag,aZ,a⟩:∃ag,iv g ba ({s with cur:=(hf g s.cur m.P).1}:aF) ag/\C o e [ag,bg] w:=by
    have a:C o e [cz g ba s (c),L,ae,Q,D,bg] w:=a.as;exact⟨_,⟨c,L,ae,Q,D,⟨t.log,aM,t.cy,t.stored⟩,j⟩,a.iJ⟩
   have n:=u7 aZ Y (by have:=r9 S s.cur m.P;omega) bd (by omega) (by omega) (R.st a z) S (a.eF R z) a.ours;refine cO j j j n (λr w⟨aJ,aA,aN,aW,a5⟩=>?_);have a:=a.b2 a5;refine an ⟨aX,?_⟩;refine af 8 1 j (bK (aq 0 j j ?_));rw [aF.H9 (m:=m.P) (by simpa using H) (beq_iff_eq.1 eo)];exact⟨aJ,aA,aN,aW,a.as⟩
 refine ar 3 j (ax (C.aj a) m.gK) (bq 1 j j j (sg (by omega) (by omega)) (am 2 j (cT 54 j (λao=>?_) (λao=>?_))));refine ar 3 j (ax (C.aj (b:=ba) a) (aG some ap)) ?_;have a0:=dI.own (C.perm (B:=[ay 296 u ah I,V,bf f m,cz g ba s c,L,bb,Q]) (show C o e [D,bf f m,cz g ba s c,L,bb,Q] w from a.as) (by simp [az])) aI;have n:=yX a0;refine bp 0 n j (λw q=>?_);have a:=a.aL q;refine b8 3 j j (λak=>?_) (λak=>?_)
 .have a:C o e ([bf f m,cz g ba s c]++_) _:=a.front;have a:=a.drew;refine bt 1 j (λw=>∃ad,C o e ([bf f m,cz g ba s c]++ad) w) ⟨_,a⟩ (af 0 1 j (a8 1 j a1 m.gk (af 3 1 j (a8 4 j a1 m.eU (aR 2 j ?_)))));have n:=g2 (c:=m.c) (hm.q9 a J).x (by omega);refine cO j j j n (λr w⟨E,aD,q⟩=>?_);obtain⟨i,aV,rfl⟩:∃A c,r= .slice A m.x.length c:=by obtain⟨A,c,h,_⟩:=aD.form;exact⟨A,c,h⟩
  have a:=a.aL q;have a:C o e ([bf f m,cz g ba s c]++_) w:=a.front;refine an ⟨⟨_,a⟩,?_⟩;refine af 6 1 j (aR 5 j ?_);have n:=lb (d:=m.d) (hm.q9 a J).l hm.aH (by omega);refine cO j j j n (λr w⟨F,aE,q⟩=>?_);obtain⟨p,d1,rfl⟩:∃A c,r= .slice A m.l.length c:=by obtain⟨A,c,h,_⟩:=aE.form;exact⟨A,c,h⟩
  have a:=a.aL q;have a:C o e ([bf f m,cz g ba s c]++_) w:=a.front;refine an ⟨⟨_,a⟩,?_⟩;refine dA 7 j (cB (a.bc f) j j j j (by rw [hA,m.bU hm.tag];decide) (λw a=>?_));have a:C o e (bf f ({m with A:=i,c:=aV}:aC)::_) w:=C.gg a (m.q5 i aV);have a:C o e ([bf f ({m with A:=i,c:=aV}:aC),cz g ba s c]++_) w:=a.front;refine an (j7 8 j (ru j j j (an (j7 9 j (cB (a.bc f) j j j j (by rw [List.size_toArray,(({m with A:=i,c:=aV}:aC)).bU hm.tag];decide) (λw a=>?_))))));have a:C o e (bf f ({m with A:=i,c:=aV,B:=p,d:=d1}:aC)::_) w:=C.gg a ((({m with A:=i,c:=aV}:aC)).mJ p d1);have a:C o e ([bf f ({m with A:=i,c:=aV,B:=p,d:=d1}:aC),cz g ba s c]++_) w:=a.front;refine an (cU ?_);have a:C o e [bf f ({m with A:=i,c:=aV,B:=p,d:=d1}:aC),cz g ba s c,L,bb,Q,D,E,F] _:=a.as;subst az;have a:C o e [bf f ({m with A:=i,c:=aV,B:=p,d:=d1}:aC),cz g ba s c,L,bb,Q,ay 296 u ah I,V,E,F] _:=C.perm (A:=[bf f ({m with A:=i,c:=aV,B:=p,d:=d1}:aC),cz g ba s c,L,bb,Q,ay 296 u ah I++V,E,F]) a (by simp);have a:=a.drew;refine bt 1 j (λw=>∃ad,C o e ([bf f ({m with A:=i,c:=aV,B:=p,d:=d1}:aC),cz g ba s c]++ad) w) ⟨_,a⟩ (af 0 3 j (a8 3 j a1 (aG some ap) (af 4 3 j (a8 7 j a1 j (aT 8 j (λw⟨_,a⟩=>c4 (U:=({m with A:=i,c:=aV,B:=p,d:=d1}:aC).cs) j j (({m with A:=i,c:=aV,B:=p,d:=d1}:aC).bU T) (bn (C.aj a))) (aR 9 j ?_))))));have n:=we (k:=s.e0) (({m with A:=i,c:=aV,B:=p,d:=d1}:aC).bU T) ({m with A:=i,c:=aV,B:=p,d:=d1}:aC).one (a.ours (cC:=[ay 296 u ah I])) aI;refine bB j j j n (λw⟨M,a6,q⟩=>?_);have a:=a.b2 q;have a:C o e [bf f ({m with A:=i,c:=aV,B:=p,d:=d1}:aC),cz g ba s c,L,bb,Q,ay 296 u ah M,V,E,F] w:=a.as;refine an ⟨⟨_,a⟩,?_⟩;refine bK (ar 4 j (ax (C.aj a) j) (bq 0 j j j (qy (by have:=K.e0;omega) (by omega)) (dF 2 (a.bc ba) j j j j (λw a=>?_))));have a:C o e (cz g ba {s with e0:=s.e0+1} c::_) w:=a;refine aq 3 j j ?_;have Z:s.slot<m.P.s:=by have X:=O;have y:¬m.s=(s.log.length:Int):=(by simpa using eo);have y:¬m.P.s=s.slot:=y;have aw:¬m.P.s<s.slot:=X;omega
  have bh:m.P.s-s.slot<=4/\s.stored.length<128:=⟨dz ao,by have:=ak;have:=au.len;omega⟩;rw [aF.Ie (m:=m.P) (by simpa using H) Z bh];obtain⟨W,aK,be,a9⟩:=au.put (k:=s.e0) (show ki (.agg ({m with A:=i,c:=aV,B:=p,d:=d1}:aC).cs.toArray) m.P (E++F) from⟨({m with A:=i,c:=aV,B:=p,d:=d1}:aC),j,j,E,F,j,⟨aD,aE⟩,T,aa.aH,⟨by show m.x.length<=_;omega,by show m.l.length<=_;omega⟩⟩)
  have a:C o e [cz g ba {s with e0:=s.e0+1} c,L,bb,Q,ay 296 u ah M,aK,W] w:=C.perm (A:=[cz g ba {s with e0:=s.e0+1} c,L,bb,Q,ay 296 u ah M,V,E,F]) a.as (by
   simp only [km,m2,hc];exact .append_left _ (.append_left _ (.append_left _ (.append_left _ (.append_left _ a9)))))
  have a:C o e [cz g ba {s with e0:=s.e0+1} c,L,bb,Q,ay 296 u ah M++W,[]] w:=C.perm (A:=[cz g ba {s with e0:=s.e0+1} c,L,bb,Q,ay 296 u ah M,W]) a.as (by simp);exact⟨[],_,cw.nil,⟨c,L,bb,Q,ay 296 u ah M++W,⟨t.log,t.cur,t.cy,⟨u,ah,M,_,W,ap,a6,be,j⟩⟩,j⟩,a.iJ⟩
 refine aq 4 j j ?_;have Z:s.slot<m.P.s:=by have X:=O;have y:¬m.s=(s.log.length:Int):=(by simpa using eo);have y:¬m.P.s=s.slot:=y;have aw:¬m.P.s<s.slot:=X;omega
 rw [aF.AS (m:=m.P) (by simpa using H) Z (by have:=ak;have:=au.len;exact λh=>absurd h.2 (by omega))];rotate_left
 refine aq 13 j j ?_;have Z:s.slot<m.P.s:=by have X:=O;have y:¬m.s=(s.log.length:Int):=(by simpa using eo);have y:¬m.P.s=s.slot:=y;have aw:¬m.P.s<s.slot:=X;omega
 rw [aF.AS (m:=m.P) (by simpa using H) Z (λh=>absurd h.1 (of_decide_eq_false ao))];rotate_left
 all_goals
  have a:C o e [cz g ba s c,L,bb,Q,D,[]] w:=(C.empty a).as;exact⟨[],_,cw.nil,⟨c,L,bb,Q,D,t,j⟩,a.iJ⟩
theorem Il{o:World}{g:al}{ba:Nat}{s:aF}{G:List Chunk}(y:iv g ba s G){N:Nat}(n:s.ok g N)(H:773<=N)(I:N+40<=1000000)(f:g.at o)(h:g.ok)(e:g.off (av [G]))(a:Own [G] o):Calls prog 92 #[ab ba] o λr w=>∃bg ai,cw r (s.tick g).2 bg/\iv g ba (s.tick g).1 ai/\C o (av [G]) [ai,bg] w:=by
 obtain⟨c,L,bb,Q,D,i,rfl⟩:=y;obtain⟨d,q⟩:∃d,d=av [cz g ba s c++(L++(bb++(Q++D)))]:=⟨_,j⟩;rw [<-q] at e⊢;have a:C o d [cz g ba s c++(L++(bb++(Q++D)))] o:=q▸a;have a:=a.qS;refine a2 func92 (ar 16 j (ax (C.aj (b:=ba) a) j) ?_);have m:=Ii i.cur (λr p=>(n.cur r p).1) (by omega) (f.st a e) h (a.eF f e) a.ours;refine bk 0 m j (λr w⟨bg,k,x,u,B⟩=>?_);have a:=a.b2 B;have a:C o d [cz g ba s c,L,k,Q,D,bg] w:=a.as;have F:aF.ok g (N+6) ({s with cur:=(iG g s.cur).1}:aF):=n.rj (gF _ _) (uE h (λr p=>(n.cur r p).1)) uF
 obtain⟨l,A,a⟩:∃l,iv g ba ({s with cur:=(iG g s.cur).1}:aF) l/\C o d [l,bg] w:=by
  have a:C o d [cz g ba s (c),L,k,Q,D,bg] w:=a.as;exact⟨_,⟨c,L,k,Q,D,⟨i.log,u,i.cy,i.stored⟩,j⟩,a.iJ⟩
 have m:=u7 A x (by have:=xR h s.cur;omega) F (by omega) (by omega) (f.st a e) h (a.eF f e) a.ours;refine bk 0 m j (λr w⟨t,aA,v,z,E⟩=>?_);have a:=a.b2 E;exact aq 1 j j ⟨t,aA,v,z,a.as⟩
theorem y4{o:World}{g:al}{ba:Nat}{s:aF}{c:kk}{L:List Chunk}(Y:o.heap[ba]? =some (.cells (ps g s c).toArray 152 (0,0)))(T:nH c.log s.log L)(D:Holds o L){N:Nat}(H:s.ok g N):Calls prog 30 #[ab ba] o λr w=>∃bg,ir r (s.log.map Prod.fst) bg/\C o [] [bg] w:=by
 have a:Own [] o:=C.start o;obtain⟨an,ak,es,rfl,X,B⟩:=T;obtain⟨M,P,Z,aA,aB,af,_⟩:=X.read D.left;have au:=B.len;have ay:=H.log;have E:∀e∈es,([e.1,e.2]:List Value).length=2:=λ_ _=>rfl
 refine a2 func30 (ar 19 j (ax Y (aG some Z)) ?_)
 refine cJ 3 j (ct:=Nat×Value×List Chunk) (λk=>[(0,ab ba),(3,k.2.1),(11,.slice M s.log.length P),(12,.int .i64 (s.log.length:Nat)),(13,.int .i64 (k.1:Nat))])
  (λk w=>k.1<=s.log.length/\ir k.2.1 ((s.log.take k.1).map Prod.fst) k.2.2/\C o [] [k.2.2] w) (λk=>s.log.length-k.1) (0,.slice none 0 0,[]) ⟨j,j,j,j,j,aX⟩ ⟨b4 _,⟨[],[],[],j,Row.nil _ _,j⟩,a.empty⟩ ?_
 rintro⟨i,v,G⟩ w ⟨aa,q,a⟩;dsimp only at aa q a⊢;refine b8 4 j j (λO=>?_) (λO=>?_)
 .have l:i<s.log.length:=by omega
  obtain⟨h,ci,m,p,ah,av,aw,ag,_,_⟩:=B.read D.right i l;have F:es[i]'(by omega)=(.slice h s.log[i].1.length ci,.slice m s.log[i].2.length p):=by have:=ah;rw [cn (by omega)] at this;exact hB this
  have ae:=H.ns _ (d9 l);have K:=a.rd af (bT.of_nil _ _);refine am 5 j (fp j j j j K (v:=.slice h s.log[i].1.length ci) (h8 (f:=λe:Value×Value=>[e.1,e.2]) (J:=0) es E i (by omega) (by decide) (by rw [F];rfl)) l (λao Q ap=>?_));subst Q;have I:=i0 (f:=λe:Value×Value=>[e.1,e.2]) K E i (by omega);rw [F] at I;refine bM 0 (U:=[.slice h s.log[i].1.length ci,.slice m s.log[i].2.length p]) j j j I (b7 0 a j (λz w a=>b6 0 (a.bc z) j j j j j (λw a=>?_)));have a:=C.whole (U:=[.slice h s.log[i].1.length ci,.slice m s.log[i].2.length p]) a j;have a:C o [] [[(z,.cells #[.slice h s.log[i].1.length ci,.slice m s.log[i].2.length p] 154 (0,0))],G] w:=a.as;refine ar 3 j (ax (C.aj a) j) (bk 0 (g2 (c:=ci) (a.rd ag (bT.of_nil _ _)) (by have:=ae.1;omega)) j (λr w⟨d,x,ad⟩=>?_));have a:=a.aL ad;have a:C o [] [G,d] w:=a.as;refine eC (U:=[r]) a j j j j j (by simpa using x.one) bG (λt w a=>?_);have aJ:=bn (C.aj (b:=t) a);obtain⟨y,H1,us,rfl,V,S⟩:=q;have a:C o [] [y,H1,d,R t #[r] 28] w:=C.perm (A:=[y++H1,d,R t #[r] 28]) a.as (by simp);have az:((s.log.take i).map Prod.fst).length=i:=by rw [ff,g9];omega
  refine dR a V j j (by decide) j j j (news:=[r]) j aJ (by intro u hu;rw [List.mem_singleton.1 hu];exact x.one) (by omega) (by unfold maxLen;omega) (λv2 n w W a=>?_)
  have ai:ir v2 ((s.log.take (i+1)).map Prod.fst) (n++(H1++d)):=by
   rw [fr l,jD];exact⟨n,H1++d,us++[r],j,by rw [b0];exact W,S.app (hY.one x)⟩
  have a:C o [] [n++(H1++d)] w:=C.perm (A:=[n,H1,d]) a.as (by simp);exact bq 2 j j j (cE i (by omega)) (bI 1 j ⟨(i+1,v2,_),⟨j,j,j,j,j,aX⟩,⟨l,ai,a⟩,by dsimp only;omega⟩)
 refine aq 5 j j ?_;have ac:i=s.log.length:=by omega
 rw [ac,gj] at q;exact⟨G,q,a⟩
def lk:List UInt8:=[97,98,99,100,101,102,103,104,105,106,107,108,109,110,111,112,113,114,115,116,117,118,119,120,121,122]
def gp(b:UInt8):Bool:=decide (97<=b.toNat/\b.toNat<=122)
def iF(J:Nat):Array Value:=((List.range 256).map λi=>Value.bool (decide (97<=i/\i<97+J))).toArray
abbrev jg(b:Nat)(J:Nat):List Chunk:=R b (iF J) 302
theorem r3(J:Nat):(iF J).size=256:=by simp [iF]
theorem r2(J i:Nat)(a:i<256):(iF J)[i]? =some (.bool (decide (97<=i/\i<97+J))):=by
 simp [iF,List.getElem?_range a,a]
theorem CE(J:Nat)(b:J<26):(iF J).setIfInBounds (97+J) (.bool true)=iF (J+1):=by
 apply rX;intro i;by_cases a:i<256
 .by_cases he:i=97+J
  .subst he;rw [ub (by rw [r3];omega),r2 _ _ a]
   congr 2
   symm
   rw [gd];omega
  .rw [qf (by omega),r2 _ _ a,r2 _ _ a]
   congr 2
   rw [oH];omega
 .rw [ud (by rw [Array.size_setIfInBounds,r3];omega),ud (by rw [r3];omega)]
theorem CD(c:UInt8):(iF 26)[c.toNat]? =some (.bool (gp c)):=by
 have:=c.toNat_lt;rw [r2 _ _ (by omega)];unfold gp
 congr 2
 rw [oH];omega
theorem xI{o:World}{b:Nat}{c:UInt8}(a:Own [jg b 26] o):Calls prog 215 #[ab b,.int .u8 (c.toNat:Int)] o λr w=>r= .bool (gp c)/\C o (av [jg b 26]) [jg b 26] w:=by
 refine a2 func215 (am 8 j (rv (J:=c.toNat) j j j j (by have:=c.toNat_lt;omega) ?_));exact ar 0 j (a.cell (v:=.bool (gp c)) (by rw [fj,gG];exact CD c)) (aq 1 j j ⟨j,a⟩)
theorem IB{o:World}{b:Nat}{s:List UInt8}(a:Own [jg b 26] o):Calls prog 178 #[.string (strOf s),ab b] o λr w=>r= .string (strOf (s.dropWhile gp))/\C o (av [jg b 26]) [jg b 26] w:=by
 refine a2 func178 ?_
 refine cJ 5 j (ct:=List UInt8) (λi=>[(0,.string (strOf i)),(1,ab b)])
  (λi w=>i.dropWhile gp=s.dropWhile gp/\C o (av [jg b 26]) [jg b 26] w) (λi=>i.length) s ⟨j,j,aX⟩ ⟨j,a⟩ ?_
 rintro s1 w ⟨g,a⟩;refine am 4 j (mS j j j j ?_);refine b8 1 j j (λdB=>?_) (λdB=>?_)
 .have f:0<s1.length:=by omega
  refine am 7 j (ry (J:=0) j j j j f ?_);have k:=xI (c:=s1[0]) a.j9;refine bk 0 k j (λr w⟨n,aa⟩=>?_);subst n;have a:=a.iw aa;refine bm 1 j j (λd=>?_) (λd=>?_)
  .refine aq 5 j j ?_;have e:gp s1[0]=false:=by simpa using d
   refine⟨?_,a⟩;rw [<-g];cases s1 with
   |nil=>simp at f
   |cons x r=>
    have m:gp x=false:=e;rw [t3,m];rfl
  refine am 3 j (BX (J:=1) j j j j (by omega) ?_);refine bI 1 j ?_;have e:gp s1[0]=true:=by simpa using d
  have l:s1=s1[0]::s1.drop 1:=by cases s1 with|nil=>simp at f|cons x r=>rfl
  refine⟨s1.drop 1,⟨j,j,aX⟩,⟨?_,a⟩,by rw [iT];omega⟩;rw [<-g]
  conv=>rhs;rw [l]
  rw [t3,a6 e]
 refine aq 5 j j ?_
 have h:s1=[]:=by
  have:=dB;exact p7.1 (by omega)
 subst h;refine⟨?_,a⟩;rw [<-g];rfl
theorem yH(k:Nat)(a:0<k)(h:k<9223372036854775807):evalBin .sub .i64 (k:Int) 1=some (.int .i64 ((k-1:Nat):Int)):=by
 have:IntKind.i64.wrap ((k:Int)-1)=((k-1:Nat):Int):=by rw [jY];omega
 show some (Value.int .i64 (IntKind.i64.wrap ((k:Int)-1)))=_;rw [this]
def kY(s:List UInt8):List UInt8:=(s.reverse.dropWhile gp).reverse
theorem AY(s:List UInt8)(h:0<s.length)(a:gp (s[s.length-1]'(by omega))=true):kY (s.take (s.length-1))=kY s:=by
 have e:s=s.take (s.length-1)++[s[s.length-1]'(by omega)]:=by
  rw [<-fr (by omega),show s.length-1+1=s.length by omega,gj]
 unfold kY
 conv=>rhs;rw [e]
 rw [List.reverse_append,List.reverse_singleton,List.singleton_append,List.dropWhile_cons,if_pos a]
theorem AZ(s:List UInt8)(h:0<s.length)(a:gp (s[s.length-1]'(by omega))=false):kY s=s:=by
 have e:s=s.take (s.length-1)++[s[s.length-1]'(by omega)]:=by
  rw [<-fr (by omega),show s.length-1+1=s.length by omega,gj]
 unfold kY;rw [e,List.reverse_append,List.reverse_singleton,List.singleton_append,List.dropWhile_cons,a];simp
theorem Fy(i:Nat)(a:i<26):(lk[i]'a).toNat=97+i:=by
 have:∀i:Fin 26,(lk[i.1]'i.2).toNat=97+i.1:=by decide
 exact this ⟨i,a⟩
theorem IC{o:World}{b:Nat}{s:List UInt8}(a:Own [jg b 26] o)(l:s.length<=1000000):Calls prog 179 #[.string (strOf s),ab b] o λr w=>r= .string (strOf (kY s))/\C o (av [jg b 26]) [jg b 26] w:=by
 refine a2 func179 ?_
 refine cJ 5 j (ct:=List UInt8) (λi=>[(0,.string (strOf i)),(1,ab b)])
  (λi w=>i.length<=1000000/\kY i=kY s/\C o (av [jg b 26]) [jg b 26] w) (λi=>i.length) s ⟨j,j,aX⟩ ⟨l,j,a⟩ ?_
 rintro s1 w ⟨m,g,a⟩;refine am 4 j (mS j j j j ?_);refine b8 1 j j (λdB=>?_) (λdB=>?_)
 .have d:0<s1.length:=by omega
  refine am 8 j (mS j j j j ?_);refine bq 0 j j j (yH s1.length d (by omega)) (ry (J:=s1.length-1) j j j j (by omega) ?_);have k:=xI (c:=s1[s1.length-1]) a.j9;refine bp 0 k j (λw aa=>?_);have a:=a.iw aa;refine bm 1 j j (λe=>?_) (λe=>?_)
  .refine aq 5 j j ?_;have f:gp s1[s1.length-1]=false:=by simpa using e
   refine⟨?_,a⟩;rw [<-g,AZ s1 d f]
  refine am 4 j (mS j j j j ?_);refine bq 0 j j j (yH s1.length d (by omega)) (BY (J:=s1.length-1) j j j j (by omega) (bI 1 j ?_));have f:gp s1[s1.length-1]=true:=by simpa using e
  exact⟨s1.take (s1.length-1),⟨j,j,aX⟩,⟨by rw [g9];omega,(AY s1 d f).trans g,a⟩,by rw [g9];omega⟩
 refine aq 5 j j ?_
 have h:s1=[]:=by
  have:=dB;exact p7.1 (by omega)
 subst h;refine⟨?_,a⟩;rw [<-g];rfl
theorem FI{o:World}:Calls prog 177 #[.string (strOf lk)] o λr w=>r= .tuple #[.agg (iF 26).toList.toArray,.bool true]/\C o [] [] w:=by
 have a:Own [] o:=C.start o;refine eV func177 (b7 2 a j (λaO w a=>?_))
 refine cJ 6 j (ct:=Nat) (λi=>[(0,.string (strOf lk)),(2,ab aO),(4,.int .i64 (i:Nat))])
  (λi w=>i<=26/\C o [] [jg aO i] w) (λi=>26-i) 0 ⟨j,j,j,aX⟩ ⟨b4 _,a⟩ ?_
 rintro i w ⟨f,a⟩;refine am 5 j (mS j j j j ?_);refine b8 1 j j (λc=>?_) (λc=>?_)
 .have b:i<26:=by have:=c;have:lk.length=26:=rfl;omega
  have g:=Fy i b;have e:decide (((lk[i]'b).toNat:Int)>=128)=false:=by rw [nP];omega
  refine am 7 j (ry (J:=i) j j j j b ?_);refine iI 6 j j (e) (am 3 j (rv (J:=(lk[i]'b).toNat) j j j j (by omega) ?_));refine cB a j j j j (by rw [r3];omega) (λw a=>?_)
  have a:C o [] [jg aO (i+1)] w:=by
   have h:=a;rw [show 0+(lk[i]'b).toNat*1=97+i by omega,CE i b] at h;exact h
  exact bq 2 j j j (cE i (by omega)) (bI 1 j ⟨i+1,⟨j,j,j,aX⟩,⟨b,a⟩,by omega⟩)
 have d:i=26:=by have:=c;have:lk.length=26:=rfl;omega
 subst d;refine bM 3 (U:=(iF 26).toList) j j (by simp [iF]) a.bz (c2 a j j j (by kernel_rfl) (by simp [iF]) (by simp [iF]) (λw a=>?_));have a:=C.whole (U:=(iF 26).toList) a (by simp);refine bD 1 j ⟨_,dr results177 j j j j (a.bz),?_⟩;exact⟨j,a.bare⟩
def tk(s:List UInt8):List UInt8:=(kY s).dropWhile gp
theorem dropWhile_nil:∀l:List UInt8,l.dropWhile gp=[]↔l.all gp=true
 |[]=>by simp
 |x::r=>by
  rw [t3];by_cases h:gp x=true
  .rw [a6 h,dropWhile_nil r];simp [h]
  .rw [aI h];simp [h]
theorem tl(s:List UInt8):decide (tk s=[])=s.all gp:=by
 rw [na,gd];unfold tk;rw [dropWhile_nil];constructor
 .intro h;rcases rR s.length with c|c
  .rw [p7.1 c];rfl
  .have key:∀(n:Nat)(s:List UInt8),s.length=n->(kY s).all gp=true->s.all gp=true:=by
    intro n;induction n with
    |zero=>intro s aM _;rw [p7.1 aM];rfl
    |succ n g=>
     intro s aM h;have d:0<s.length:=by omega
     by_cases b:gp (s[s.length-1]'(by omega))=true
     .rw [<-AY s d b] at h;have a:=g (s.take (s.length-1)) (by rw [g9];omega) h
      have e:s=s.take (s.length-1)++[s[s.length-1]'(by omega)]:=by
       rw [<-fr (by omega),show s.length-1+1=s.length by omega,gj]
      rw [e,List.all_append,a];simp [b]
     .rw [AZ s d (by simpa using b)] at h;exact h
   exact key _ s j h
 .intro h;have a:s.reverse.all gp=true:=by rw [List.all_reverse];exact h
  have f:=(dropWhile_nil s.reverse).2 a;unfold kY;rw [f];rfl
theorem A0{o:World}{s:List UInt8}(g:s≠[])(f:s.length<=1000000):Calls prog 133 #[.string (strOf s),.string (strOf lk)] o λr w=>r= .string (strOf (tk s))/\C o [] [] w:=by
 have a:Own [] o:=C.start o;have d:(strOf s==strOf [])=false:=by rw [nD];simp [g]
 have e:(strOf lk==strOf [])=false:=by rw [nD];decide
 refine a2 func133 (am 7 j (ov j j j j ?_));refine am 1 j (bS 9 (.bool false) j (aG Value.bool (d)) ?_);refine am 1 j (ov j j j j ?_);refine iI 1 j j (e) (am 5 j (mS j j j j ?_));refine am 2 j (bS 17 (.bool false) j (aG Value.bool (j)) ?_);have b:=FI (o:=o);refine bp 10 b j (λw aa=>?_);have a:=a.aL aa;refine b7 3 a j (λc w a=>c2 a j j j (by kernel_rfl) (by simp [iF]) (by decide) (λw a=>?_));have a:C o [] (jg c 26::_) w:=C.whole (U:=(iF 26).toList) a (by rw [show(iF 26).toList.length=256 by simp [iF]];rfl);have b:=IC a.j9 f;refine bp 8 b j (λw aa=>?_);have a:=a.iw aa;have b:=IB (s:=kY s) a.j9;refine bp 0 b j (λw aa=>?_);have a:=a.iw aa;exact aq 1 j j ⟨j,a.bare⟩
def ln(s:List UInt8):Bool:=s.all gp&&decide (1<=s.length/\s.length<=8)
structure bF where
 k:Int
 c:Int
 s:Int
 ep:List UInt8
 p:Int
 e:Int
 t:Int
 q:Int
 dT:Bool
abbrev bF.cs(I:bF):List Value:=[ae I.k,ae I.c,ae I.s,.string (strOf I.ep),ae I.p,ae I.e,ae I.t,ae I.q,.bool I.dT]
abbrev bE(b:Nat)(I:bF):List Chunk:=R b I.cs.toArray 104
def db:bF:=⟨0,0,0,[],0,0,0,0,false⟩
def bF.named(I:bF):bF:=
 if I.k=1 then⟨I.k,I.c,I.s,I.ep,0,0,0,0,false⟩
 else if I.k=2 then⟨I.k,I.c,I.s,[],I.p,I.e,I.t,I.q,false⟩
 else if I.k=3 then⟨I.k,I.c,I.s,[],I.p,I.e,I.t,0,I.dT⟩
 else⟨I.k,I.c,I.s,[],0,0,0,0,false⟩
def bF.ids(I:bF):Bool:=I.p==0&&I.e==0&&I.t==0
def gV(I:bF):Bool:=fJ I.c 0 15&&fJ I.s 0 1048576&&
 (if I.k=1 then ln I.ep&&I.ids&&I.q==0&& !I.dT
  else if I.k=4 then decide (I.ep=[])&&I.ids&&I.q==0&& !I.dT
  else if I.k=2 then decide (I.ep=[])&&ka I.p I.e I.t&&fJ I.q 0 3&& !I.dT
  else if I.k=3 then decide (I.ep=[])&&ka I.p I.e I.t&&I.q==0
  else false)
def bF.eq(a b:bF):Bool:=(a.k==b.k)&&((a.c==b.c)&&((a.s==b.s)&&(decide (a.ep=b.ep)&&((a.p==b.p)&&((a.e==b.e)&&((a.t==b.t)&&((a.q==b.q)&&((a.dT==b.dT)&&true))))))))
def bF.mz(I:bF):Bool:=if I.k=1 then(!decide (I.ep=[]))&&decide (I.ep.length<=8)&&I.ep.all gp else decide (I.ep=[])
def lY(I:bF):Bool:=fJ I.k 1 4&&(fJ I.c 0 15&&(fJ I.s 0 1048576&&(I.mz&&(ka I.p I.e I.t&&(fJ I.q 0 3&&I.named.eq I)))))
theorem n4(n a b:Int):fJ n a b=true↔a<=n/\n<=b:=by unfold fJ;rw [decide_eq_true_eq]
theorem bF.eq_iff(a b:bF):a.eq b=true↔a=b:=by
 obtain⟨c,d,a3,a4,a5,e,f,g,a9⟩:=a;obtain⟨az,aO,h,i,j,k,l,m,n⟩:=b;simp only [bF.eq,Bool.and_true,ea,d5,gd,bF.mk.injEq]
theorem sL(I:bF):lY I=gV I:=by
 rw [na];obtain⟨k,c,s,ep,p,e,t,q,dT⟩:=I;by_cases f:k=1
 .subst f;simp only [lY,gV,bF.mz,bF.named,bF.ids,bF.eq_iff,ln,ka,n4,kq,ea,kl,gd,nP,d5,bF.mk.injEq];have aJ:ep.length=0↔ep=[]:=p7;constructor
  .rintro⟨_,a,aM,⟨⟨f,g⟩,i⟩,_,_,_,_,_,_,b,he,l,d,j⟩;refine⟨⟨a,aM⟩,⟨⟨⟨i,?_,g⟩,⟨b.symm,he.symm⟩,l.symm⟩,d.symm⟩,j.symm⟩;have:=mt aJ.1 f;omega
  .rintro⟨⟨a,aM⟩,⟨⟨⟨i,f,g⟩,⟨rfl,rfl⟩,rfl⟩,rfl⟩,rfl⟩;refine⟨⟨by omega,by omega⟩,a,aM,⟨⟨λh=>?_,g⟩,i⟩,⟨⟨by omega,by omega⟩,by omega⟩,by omega,?_⟩
   .rw [h] at f;exact absurd f (by decide)
   .simp
 .by_cases g:k=2
  .subst g;simp only [lY,gV,bF.mz,bF.named,bF.ids,bF.eq_iff,ka,n4,kq,lI,ea,kl,gd,d5,bF.mk.injEq,show¬(2:Int)=1 by decide,show¬(2:Int)=4 by decide];constructor
   .rintro⟨_,a,aM,aJ,b,d,_,_,_,_,_,_,_,_,j⟩;exact⟨⟨a,aM⟩,⟨⟨aJ,b⟩,d⟩,j.symm⟩
   .rintro⟨⟨a,aM⟩,⟨⟨aJ,b⟩,d⟩,rfl⟩;refine⟨⟨by omega,by omega⟩,a,aM,aJ,b,d,?_⟩;simp [aJ]
  .by_cases i:k=3
   .subst i;simp only [lY,gV,bF.mz,bF.named,bF.ids,bF.eq_iff,ka,n4,kq,lI,ea,kl,gd,d5,bF.mk.injEq,show¬(3:Int)=1 by decide,show¬(3:Int)=4 by decide,show¬(3:Int)=2 by decide];constructor
    .rintro⟨_,a,aM,aJ,b,d,_,_,_,_,_,_,_,o,_⟩;exact⟨⟨a,aM⟩,⟨aJ,b⟩,o.symm⟩
    .rintro⟨⟨a,aM⟩,⟨aJ,b⟩,rfl⟩;refine⟨⟨by omega,by omega⟩,a,aM,aJ,b,⟨by omega,by omega⟩,?_⟩;simp [aJ]
   .by_cases m:k=4
    .subst m;simp only [lY,gV,bF.mz,bF.named,bF.ids,bF.eq_iff,ka,n4,kq,lI,ea,kl,gd,d5,bF.mk.injEq,show¬(4:Int)=1 by decide,show¬(4:Int)=3 by decide,show¬(4:Int)=2 by decide];constructor
     .rintro⟨_,a,aM,aJ,_,_,_,_,_,_,b,he,l,d,j⟩;exact⟨⟨a,aM⟩,⟨⟨aJ,⟨b.symm,he.symm⟩,l.symm⟩,d.symm⟩,j.symm⟩
     .rintro⟨⟨a,aM⟩,⟨⟨aJ,⟨rfl,rfl⟩,rfl⟩,rfl⟩,rfl⟩;refine⟨⟨by omega,by omega⟩,a,aM,aJ,⟨⟨by omega,by omega⟩,by omega⟩,⟨by omega,by omega⟩,?_⟩;simp [aJ]
    .have n:¬(1<=k/\k<=4):=by omega
     simp only [lY,gV,aI f,aI g,aI i,aI m,n4,ea,nS,n,false_and,Bool.false_eq_true]
theorem wh(s:List UInt8):(strOf s==⟨#[]⟩)=decide (s=[]):=nD s []
theorem bF.gJ(I:bF):I.cs.toArray[0]? =some (.int .i64 I.k):=rfl
theorem bF.aV(I:bF):I.cs.toArray[1]? =some (.int .i64 I.c):=rfl
theorem bF.dp(I:bF):I.cs.toArray[2]? =some (.int .i64 I.s):=rfl
theorem bF.gK(I:bF):I.cs.toArray[3]? =some (.string (strOf I.ep)):=rfl
theorem bF.fG(I:bF):I.cs.toArray[4]? =some (.int .i64 I.p):=rfl
theorem bF.gk(I:bF):I.cs.toArray[5]? =some (.int .i64 I.e):=rfl
theorem bF.eU(I:bF):I.cs.toArray[6]? =some (.int .i64 I.t):=rfl
theorem bF.dB(I:bF):I.cs.toArray[7]? =some (.int .i64 I.q):=rfl
theorem bF.eD(I:bF):I.cs.toArray[8]? =some (.bool I.dT):=rfl
theorem Eb(a b:bF)(w:World):(Op.equalIn 10000 104 (.agg a.cs.toArray) (.agg b.cs.toArray)).run prog w= .ok (a.eq b) w:=by
 have hu:prog.underlying 3=some (.int .i64):=(inferInstance:bA prog 3 (.int .i64)).h;have aM:prog.underlying 9=some .string:=(inferInstance:bA prog 9 .string).h;have c:prog.underlying 4=some .bool:=(inferInstance:bA prog 4 .bool).h;rw [run_equalIn_agg w 9999 104 _ _ (by kernel_rfl) (by kernel_rfl)];exact ku (by decide) hu j j (ku (by decide) hu j j (ku (by decide) hu j j (D8 (by decide) aM j j (ku (by decide) hu j j (ku (by decide) hu j j (ku (by decide) hu j j (ku (by decide) hu j j (D7 (by decide) c j j uR))))))))
theorem FV{o:World}{I:bF}:Calls prog 140 #[.agg I.cs.toArray] o λr w=>r= .agg I.named.cs.toArray/\C o [] [] w:=by
 have a:Own [] o:=C.start o;refine eV func140 (bL 2 a j j (λaz w a=>b7 0 a j (λaO w a=>?_)));have a:=a.f1;refine ar 3 j (a.cell I.gJ) (ar 1 j (a.cell I.aV) (ar 1 j (a.cell I.dp) (cN (c:=(bF.mk I.k I.c I.s [] 0 0 0 0 false).cs.toArray) j j j (λ_=>by kernel_rfl) (b7 0 a j (λi w a=>b6 0 a j j j j j (λw a=>?_))))));have a:=C.whole (U:=(bF.mk I.k I.c I.s [] 0 0 0 0 false).cs) a j;refine lV 0 j (λZ w=>sub Z [(1,ab az),(2,ab aO),(3,ab i)]/\C o [] [bE i I.named,bE az I,bE aO db] w) ?_ ?_
 .refine ar 3 j (a.f1.cell I.gJ) (bm 5 j j (λd=>?_) (λd=>?_))
  .refine ar 2 j (a.f1.cell I.gK) (dF 1 a j j j j (λw a=>bI 0 j (⟨⟨j,j,j,aX⟩,?_⟩)));unfold bF.named
   first
    |(have h:=d5.1 d;rw [a6 h];exact a)
    |(have b:=fw.1 d;have h:=d5.1 f;rw [aI b,a6 h];exact a)
    |(have b:=fw.1 d;have e:=fw.1 f;have h:=d5.1 g;rw [aI b,aI e,a6 h];exact a)
    |(have b:=fw.1 d;have e:=fw.1 f;have h:=fw.1 g;rw [aI b,aI e,aI h];exact a)
  refine bm 4 j j (λf=>?_) (λf=>?_)
  .have a:=a.drew;refine bt 0 j (λw=>∃x,C o [] [R i x 104,bE az I,bE aO db] w) ⟨_,a⟩ (af 0 1 j (bR 1 j (λw⟨_,a⟩=>C.cell (C.f1 a) I.fG) (af 2 1 j (bR 3 j (λw⟨_,a⟩=>C.cell (C.f1 a) I.gk) (af 4 1 j (bR 5 j (λw⟨_,a⟩=>C.cell (C.f1 a) I.eU) (af 6 1 j (bR 7 j (λw⟨_,a⟩=>C.cell (C.f1 a) I.dB) (af 8 1 j (aR 9 j (cB a j j j j bG (λw a=>an ⟨⟨_,a⟩,?_⟩))))))))))));refine af 10 1 j (aR 11 j (cB a j j j j bG (λw a=>an ⟨⟨_,a⟩,?_⟩)));refine af 12 1 j (aR 13 j (cB a j j j j bG (λw a=>an ⟨⟨_,a⟩,?_⟩)));refine af 14 1 j (aR 15 j (cB a j j j j bG (λw a=>an ⟨⟨_,a⟩,?_⟩)));refine bK (bI 0 j (⟨⟨j,j,j,aX⟩,?_⟩));unfold bF.named
   first
    |(have h:=d5.1 d;rw [a6 h];exact a)
    |(have b:=fw.1 d;have h:=d5.1 f;rw [aI b,a6 h];exact a)
    |(have b:=fw.1 d;have e:=fw.1 f;have h:=d5.1 g;rw [aI b,aI e,a6 h];exact a)
    |(have b:=fw.1 d;have e:=fw.1 f;have h:=fw.1 g;rw [aI b,aI e,aI h];exact a)
  refine bm 4 j j (λg=>?_) (λg=>?_);have a:=a.drew;refine bt 0 j (λw=>∃x,C o [] [R i x 104,bE az I,bE aO db] w) ⟨_,a⟩ (af 0 1 j (bR 1 j (λw⟨_,a⟩=>C.cell (C.f1 a) I.fG) (af 2 1 j (bR 3 j (λw⟨_,a⟩=>C.cell (C.f1 a) I.gk) (af 4 1 j (bR 5 j (λw⟨_,a⟩=>C.cell (C.f1 a) I.eU) (af 6 1 j (bR 7 j (λw⟨_,a⟩=>C.cell (C.f1 a) I.eD) (af 8 1 j (aR 9 j (cB a j j j j bG (λw a=>an ⟨⟨_,a⟩,?_⟩))))))))))));refine af 10 1 j (aR 11 j (cB a j j j j bG (λw a=>an ⟨⟨_,a⟩,?_⟩)));refine af 12 1 j (aR 13 j (cB a j j j j bG (λw a=>an ⟨⟨_,a⟩,?_⟩)));refine af 14 1 j (aR 15 j (cB a j j j j bG (λw a=>an ⟨⟨_,a⟩,?_⟩)));refine bK (bI 0 j ?_);rotate_left
  refine bI 1 j ?_;rotate_left
  all_goals
   refine⟨⟨j,j,j,aX⟩,?_⟩;unfold bF.named
   first
    |(have h:=d5.1 d;rw [a6 h];exact a)
    |(have b:=fw.1 d;have h:=d5.1 f;rw [aI b,a6 h];exact a)
    |(have b:=fw.1 d;have e:=fw.1 f;have h:=d5.1 g;rw [aI b,aI e,a6 h];exact a)
    |(have b:=fw.1 d;have e:=fw.1 f;have h:=fw.1 g;rw [aI b,aI e,aI h];exact a)
 rintro Z w ⟨aM,a⟩;refine lD [(1,ab az),(2,ab aO),(3,ab i)] aM (bM 2 (U:=I.named.cs) j j j a.bz (b6 0 a.f2 j j j j j (λw a=>?_)));have a:=C.whole (U:=I.named.cs) a j;refine bD 0 j ⟨_,gr results140 j j j (a.bz),?_⟩;exact⟨j,a.bare⟩
theorem yM{o:World}{I:bF}:Calls prog 82 #[.agg I.cs.toArray] o λr w=>r= .bool (gV I)/\C o [] [] w:=by
 have d:Own [] o:=C.start o;refine a2 func82 (bL 2 d j j (λaz w d=>ar 4 j (d.cell I.gK) (ov j j j j (bS 6 (.bool (decide (I.ep=[]))) j (aG Value.bool (wh I.ep)) (lV 1 j (λZ w=>sub Z [(1,ab az),(3,.bool I.mz)]/\C o [] [bE az I] w) ?_ ?_)))))
 .refine ar 3 j (d.cell I.gJ) (bm 1 j j (λz=>?_) (λz=>?_));refine ar 2 j (d.cell I.gK) (wO j j j j (wh I.ep) (am 1 j (cT 13 j (λg=>?_) (λg=>?_))))
  .refine ar 1 j (d.cell I.gK) (mS j j j j (am 3 j (cT 19 j (λi=>?_) (λi=>?_))));refine ar 1 j (d.cell I.gK) ?_;have A:I.ep≠[]:=by simpa using g
   have hle:I.ep.length<=8:=by have:=dz i;omega
   have f:=A0 (o:=w) A (by omega);refine bp 0 f j (λw aa=>?_);have d:=d.aL aa;refine ov j j j j (bS 23 (.bool (I.ep.all gp)) j (aG Value.bool ((wh _).trans (tl I.ep))) (bI 2 j ?_));rotate_left
   refine bI 6 j ?_;rotate_left
   all_goals
    refine⟨⟨j,aG (λb=>some (Value.bool b)) ?_,aX⟩,d⟩;unfold bF.mz
    simp_all
    all_goals (intro h;omega)
  refine am 6 j (bS 19 (.bool false) j (aG Value.bool (j)) ?_);refine bI 6 j ?_;rotate_left
  refine bI 1 j ?_;rotate_left
  all_goals
   refine⟨⟨j,aG (λb=>some (Value.bool b)) ?_,aX⟩,d⟩;unfold bF.mz
   simp_all
   all_goals (intro h;omega)
 rintro Z w ⟨aM,d⟩;refine lD [(1,ab az),(3,.bool I.mz)] aM ?_;have d:=d.drew;refine bt 1 j (λw=>∃ad,C o [] ([bE az I]++ad) w) ⟨_,d⟩ (af 0 1 j (bR 1 j (λw⟨_,d⟩=>C.cell d I.gJ) (aR 2 j ?_)));have f:=i1 (o:=w.drew) (n:=I.k) (a:=1) (b:=4);refine bB j j j f (λw aa=>?_);have d:=d.aL aa;refine an ⟨⟨_,d⟩,?_⟩;refine af 3 1 j (ef 28 j (λl=>?_) (λl=>?_))
 .refine af 4 1 j (bR 5 j (λw⟨_,d⟩=>C.cell d I.aV) (aR 6 j ?_));have f:=i1 (o:=w) (n:=I.c) (a:=0) (b:=15);refine bB j j j f (λw aa=>?_);have d:=d.aL aa;refine an ⟨⟨_,d⟩,?_⟩;refine af 7 2 j (ef 33 j (λm=>?_) (λm=>?_));refine af 9 1 j (bR 10 j (λw⟨_,d⟩=>C.cell d I.dp) (aR 11 j ?_));have f:=i1 (o:=w) (n:=I.s) (a:=0) (b:=1048576);refine bB j j j f (λw aa=>?_);have d:=d.aL aa;refine an ⟨⟨_,d⟩,?_⟩;refine af 12 2 j (ef 38 j (λu=>?_) (λu=>?_))
  .refine af 14 3 j (ef 41 j (λv=>?_) (λv=>?_));refine af 17 1 j (bR 18 j (λw⟨_,d⟩=>C.cell d I.fG) (af 19 1 j (bR 20 j (λw⟨_,d⟩=>C.cell d I.gk) (af 21 1 j (bR 22 j (λw⟨_,d⟩=>C.cell d I.eU) (aR 23 j ?_))))));have f:=yN (o:=w) (p:=I.p) (e:=I.e) (t:=I.t);refine bB j j j f (λw aa=>?_);have d:=d.aL aa;refine an ⟨⟨_,d⟩,?_⟩;refine af 24 2 j (ef 50 j (λx=>?_) (λx=>?_))
   .refine af 26 1 j (bR 27 j (λw⟨_,d⟩=>C.cell d I.dB) (aR 28 j ?_));have f:=i1 (o:=w) (n:=I.q) (a:=0) (b:=3);refine bB j j j f (λw aa=>?_);have d:=d.aL aa;refine an ⟨⟨_,d⟩,?_⟩;refine af 29 2 j (ef 55 j (λy=>?_) (λy=>?_));refine aT 31 j (λw⟨_,d⟩=>c4 (U:=I.cs) j j j (C.bz d)) (aT 33 j (λw⟨_,d⟩=>c4 (U:=I.cs) j j j (C.bz d)) (aR 32 j ?_));have f:=FV (o:=w) (I:=I);refine bB j j j f (λw aa=>?_);have d:=d.aL aa;refine an ⟨⟨_,d⟩,?_⟩;refine aT 34 j (λw⟨_,d⟩=>pG j j (by kernel_rfl) (λw=>Eb _ _ w)) (af 35 2 j ?_);rotate_left
    refine fC 6 [31,33,32,34,35,36] j ?_;rotate_left
    all_goals
     refine bK (aq 0 j j (⟨aG Value.bool ?_,d.bare⟩));rw [<-sL];unfold lY
     simp_all
   refine fC 11 [26,27,28,29,30,31,33,32,34,35,36] j ?_;rotate_left
   refine fC 20 [17,18,19,20,21,22,23,24,25,26,27,28,29,30,31,33,32,34,35,36] j ?_;rotate_left
   all_goals
    refine bK (aq 0 j j (⟨aG Value.bool ?_,d.bare⟩));rw [<-sL];unfold lY
    simp_all
  refine fC 23 [14,15,16,17,18,19,20,21,22,23,24,25,26,27,28,29,30,31,33,32,34,35,36] j ?_;rotate_left
  refine fC 28 [9,10,11,12,13,14,15,16,17,18,19,20,21,22,23,24,25,26,27,28,29,30,31,33,32,34,35,36] j ?_;rotate_left
  all_goals
   refine bK (aq 0 j j (⟨aG Value.bool ?_,d.bare⟩));rw [<-sL];unfold lY
   simp_all
 refine fC 33 [4,5,6,7,8,9,10,11,12,13,14,15,16,17,18,19,20,21,22,23,24,25,26,27,28,29,30,31,33,32,34,35,36] j (bK (aq 0 j j (⟨aG Value.bool ?_,d.bare⟩)));rw [<-sL];unfold lY
 simp_all
def nh(b:Bool):Int:=if b then 1 else 0
def jo(I:bF):List UInt8:=d7 [2,I.k,I.c,I.s]++hC I.ep++d7 [I.p,I.e,I.t,I.q,nh I.dT]
theorem Gv{I:bF}(h:gV I=true):I.ep.length<=8:=by
 unfold gV at h;simp only [ea] at h;obtain⟨_,h⟩:=h;split at h
 .simp only [ea,ln,gd] at h;omega
 .split at h
  .simp only [ea,gd] at h;rw [h.1.1.1];decide
  .split at h
   .simp only [ea,gd] at h;rw [h.1.1.1];decide
   .split at h
    .simp only [ea,gd] at h;rw [h.1.1];decide
    .cases h
theorem Gq{I:bF}(h:I.ep.length<=100):(jo I).length<=200:=by
 have a:=fU [2,I.k,I.c,I.s];have b:=fU [I.p,I.e,I.t,I.q,nh I.dT];have d:=jI I.ep (by omega);simp only [eu,ge] at a b;unfold jo;simp only [b0];omega
theorem uN{o:World}{I:bF}:Calls prog 45 #[.agg I.cs.toArray] o λr w=>∃v G,r= .tuple #[v,.int .i64 (if gV I then 0 else 1)]/\du v (if gV I then jo I else []) G/\C o [] [G] w:=by
 have a:Own [] o:=C.start o;refine a2 func45 ?_;refine bL 2 a j j (λaz w a=>?_);refine bM 5 (U:=I.cs) j j j a.bz ?_;have d:=yM (o:=w) (I:=I);refine bp 0 d j (λw aa=>?_);have a:=a.aL aa;refine bm 1 j j (λeD=>?_) (λeD=>?_)
 .refine aq 4 j j ?_;have hm:gV I=false:=by simpa using eD
  rw [hm];exact⟨_,[],j,Row.nil _ _,a.bare.empty⟩
 have hm:gV I=true:=by simpa using eD
 have M:=Gv hm;have D:=fU [2,I.k,I.c,I.s];have E:=fU [I.p,I.e,I.t,I.q,nh I.dT];have L:=jI I.ep (by omega);simp only [eu,ge] at D E;refine lV 4 j (λZ w=>sub Z [(1,ab az),(4,.int .i64 (nh I.dT))]/\C o [] [bE az I] w) ?_ ?_
 .refine ar 3 j (a.cell I.eD) ?_;refine bm 0 j j (λl=>?_) (λl=>?_);refine bI 2 j ?_;rotate_left
  refine bI 1 j ?_;rotate_left
  all_goals
   refine⟨⟨j,aG (λb=>some (Value.int .i64 b)) ?_,aX⟩,a⟩;unfold nh
   first
    |rw [a6 l]
    |rw [aI (by rw [l];decide)]
 rintro Z w ⟨aM,a⟩;refine lD [(1,ab az),(4,.int .i64 (nh I.dT))] aM ?_;refine b7 2 a j (λi w a=>?_);have a:C o [] [e2 i (.slice none 0 0),bE az I] w:=a;have a:=a.f1;refine ar 3 j (a.cell I.gJ) ?_;refine ar 1 j (a.cell I.aV) ?_;refine ar 1 j (a.cell I.dp) ?_;refine eC a j j j j j j bG (λH w a=>?_);have aJ:=a.bz;have g:=a.iX (off:=0) (sp:=none) (U:=[2,I.k,I.c,I.s].map ae);have a:=a.f2.empty.f1;have d:=lp (aD:=[]) (cS:=[2,I.k,I.c,I.s]) (c:=4) a.cF (Row.nil _ _) aJ (g.kX (by simp) (λb z=>fI (fz:=[e2 i (.slice none 0 0)]) (by simp) b (by simpa [av] using z))) (by simp);refine bp 0 d j (λw⟨v1,h,f,aa⟩=>?_);have a:=(a.cD aa).f2.drop;rw [kI] at f;refine ar 3 j (a.f2.cell I.gK) ?_;refine BR a j j j (λm K u w B a=>?_);refine eC a j j j j j j bG (λn w a=>?_);have F:=a.f1.ij B;have y:=a.f1.iX (off:=0) (sp:=none) (U:=au I.ep);have aJ:=a.bz;have g:=a.iX (off:=0) (sp:=none) (U:=[.slice (some ⟨m,0,none⟩) I.ep.length u]);have a:=a.f2.f3.f1;have A:k4 w (some ⟨n,0,none⟩) [I.ep] (av [e2 i v1,h]):=k4.one aJ j (g.sub (fI (by simp))) F (y.sub (fI (by simp)));have d:=uz (c:=1) a.cF f A (by simp only [ja,jW,rJ,List.sum_cons,List.sum_nil];omega);refine bp 0 d j (λw⟨v1,h,f,aa⟩=>?_);have a:=(a.cD aa).f2.drop.f2.drop;rw [show jJ [I.ep]=hC I.ep from by simp [jJ]] at f;have a:=a.f2;refine ar 3 j (a.cell I.fG) ?_;refine ar 1 j (a.cell I.gk) ?_;refine ar 1 j (a.cell I.eU) ?_;refine ar 1 j (a.cell I.dB) ?_;have a:=a.f2.f2;refine am 1 j (eC a j j j j j j bG (λJ w a=>?_));have aJ:=a.bz;have g:=a.iX (off:=0) (sp:=none) (U:=[I.p,I.e,I.t,I.q,nh I.dT].map ae);have a:=a.f1.f2.f1;have d:=lp (aD:=d7 [2,I.k,I.c,I.s]++hC I.ep) (cS:=[I.p,I.e,I.t,I.q,nh I.dT]) (c:=5) a.cF f aJ (g.kX (by simp) (fI (by simp))) (by simp only [b0,List.length_cons,List.length_nil];omega);refine bp 0 d j (λw⟨v1,h,f,aa⟩=>?_);have a:=(a.cD aa).f2.drop;have d:=qT a.cF f (by simp only [b0];omega);refine bk 2 d j (λr w⟨G,x,aa⟩=>?_);have a:=(a.cD aa).hR;refine aq 2 j j ?_;rw [hm];exact⟨_,G,j,x,a⟩
theorem An(s:ee)(a:s.left.length<=1000000000):(eb s).2.left.length<=1000000000:=by
 have key:∀(l:List UInt8)(i u:Nat)(x:Nat×List UInt8),lR i u l=some x->x.2.length<=l.length:=by
  intro l;induction l with
  |nil=>intro i u x h;simp [lR] at h
  |cons c r d=>
   intro i u x h;rw [lS] at h;split at h
   .cases h
   .split at h
    .split at h
     .cases h
     .cases h;simp
    .have:=d _ _ _ h;simp only [eu];omega
 cases s with
 |none=>exact a
 |some l=>
  unfold eb;dsimp only;cases b:dec l with
  |none=>simp [ee.left]
  |some x=>
   obtain⟨u,r⟩:=x;have:=key l 0 0 (u,r) b;dsimp only at this;simp only [ee.left,me] at a⊢;omega
theorem qZ{o:World}{r:Nat}{v0:Value}{cW:Bool}{G:List Chunk}{s:ee}(a:Own [hh r v0 cW,G] o)(f:hN v0 cW s G)(d:s.left.length<=1000000000):
 Calls prog 203 #[ab r] o λx w=>∃v b c,du x (lu s).1 c/\hN v b (lu s).2 G/\C o (av [hh r v0 cW,G]) [c,hh r v b,G] w:=by
 refine a2 func203 (bp 7 (eJ a.cF f d) j (λw⟨v,b,g,aa⟩=>?_));have a:=a.cD aa;refine bk 0 (Hn a.cF g (An s d)) j (λx w⟨v2,aO,c,e,h,aa⟩=>?_);have a:=a.cD aa;exact aq 1 j j ⟨v2,aO,c,e,h,a⟩
theorem Hm(s:ee)(n:Int)(a:s.left.length<=1000000000):(iO s n).2.left.length<=1000000000/\(iO s n).1.length<=1000000000:=by
 cases s with
 |none=>exact⟨by simp [iO,ee.left],by simp [iO]⟩
 |some l=>
  have a:l.length<=1000000000:=a;unfold iO;dsimp only;split
  .exact⟨by simp [ee.left],by simp⟩
  .refine⟨?_,?_⟩
   .simp only [ee.left,me,iT];omega
   .simp only [g9];omega
theorem G3(s:ee)(a:s.left.length<=1000000000):(lu s).2.left.length<=1000000000/\(lu s).1.length<=1000000000:=Hm _ _ (An s a)
theorem ev{o w:World}{F:List Nat}{ad:List (List Chunk)}{A:Option Addr}{n c:Nat}{aD:List UInt8}{G:List Chunk}(a:du (.slice A n c) aD G)(h:C o F (G::ad) w):Rd w A (au aD):=by
 obtain⟨_,_,b,_,_,aJ,_⟩:=a.rd h;cases b;exact aJ
def fK(s:ee):ee:=(lu (e7 s 3)).2
def ig(s:ee):bF:=⟨((eb s).1:Nat),((eb (e7 s 1)).1:Nat),((eb (e7 s 2)).1:Nat),(lu (e7 s 3)).1,((eb (fK s)).1:Nat),((eb (e7 (fK s) 1)).1:Nat),((eb (e7 (fK s) 2)).1:Nat),((eb (e7 (fK s) 3)).1:Nat),false⟩
def mB(s:ee):Nat:=(eb (e7 (fK s) 4)).1
def mC(s:ee):bF:={ig s with dT:=((mB s:Nat):Int)==1}
def zw(s:ee):ee:=e7 (fK s) 5
def j8(s:ee):Bool:=decide (zw s=some [])&&(decide (mB s<=1)&&gV (mC s))
theorem C1(aD:List UInt8)(k:Int)(a:aD.length<=1000000000):(b1 aD k).left.length<=1000000000:=by
 unfold b1;split
 .exact wa (some aD) a
 .simp [ee.left]
theorem Gy(s:ee)(a:s.left.length<=1000000000):(fK s).left.length<=1000000000:=(G3 _ (eX s a 3)).1
theorem DN{o:World}{A:Option Addr}{aD:List UInt8}{c:Nat}(u:Rd o A (au aD))(t:aD.length<=1000000000):
 Calls prog 150 #[.slice A aD.length c] o λx w=>x= .tuple #[.agg (if j8 (b1 aD 2) then mC (b1 aD 2) else db).cs.toArray,.int .i64 (if j8 (b1 aD 2) then 0 else 2)]/\C o [] [] w:=by
 have a:Own [] o:=C.start o;have l:=C1 aD 2 t;have i:=Gy (b1 aD 2) l;refine eV func150 ?_;refine b7 2 a j (λaO w a=>?_);have f:=xt (c:=c) (k:=2) (a.rd u (bT.of_nil _ _)) t;refine bk 4 f j (λx w⟨r,v,b,G,y,e,aa⟩=>?_);subst y;have a:=a.aL aa;refine lV 1 j (λZ w=>∃v b m,sub Z [(2,ab aO),(3,.int .i64 0),(4,ab r),(5,ab m)]/\hN v b (e7 (fK (b1 aD 2)) 4) G/\C o [] [hh r v b,G,bE m (ig (b1 aD 2)),bE aO db] w) ?_ ?_
 .skip
  refine lW 0 j (λw=>∃ad,C o [] ad w) ?_;have a:=a.drew;refine fD 8 [0,2,4,6,9,11,13,15] j ⟨_,a⟩ ?_;refine k2 1 18 j j (by kernel_rfl) ?_ ?_
  .skip
   have f:=eJ a.cF e (l);refine bB j j j f (λw⟨v,b,e,aa⟩=>?_);have a:=a.cD aa;refine an ⟨⟨_,a⟩,?_⟩;refine k2 3 18 j j (by kernel_rfl) ?_ ?_
   .skip
    have f:=eJ a.cF e (eX (b1 aD 2) l 1);refine bB j j j f (λw⟨v,b,e,aa⟩=>?_);have a:=a.cD aa;refine an ⟨⟨_,a⟩,?_⟩;refine k2 5 18 j j (by kernel_rfl) ?_ ?_
    .skip
     have f:=eJ a.cF e (eX (b1 aD 2) l 2);refine bB j j j f (λw⟨v,b,e,aa⟩=>?_);have a:=a.cD aa;refine an ⟨⟨_,a⟩,?_⟩;refine k2 7 18 j j (by kernel_rfl) ?_ ?_
     .skip
      have f:=qZ a.cF e (eX (b1 aD 2) l 3);refine cO j j j f (λx w⟨v,b,bW,g,e,aa⟩=>?_);have a:=(a.cD aa).f1.f2.f1;obtain⟨n,dB,rfl,_⟩:=g.form;have d:=ev g a.f2;refine an ⟨⟨_,a⟩,?_⟩;refine pJ (λw=>(λw=>∃ad,C o [] ad w) w/\Rd w n (au (lu (e7 (b1 aD 2) 3)).1)) (λw h=>h.1) ?_;refine eR 8 j ⟨⟨_,a⟩,d⟩ (λw hw=>ou j hw.2) ?_;refine k2 10 18 j j (by kernel_rfl) ?_ ?_
      .skip
       have f:=eJ a.cF e (i);refine bB j j j f (λw⟨v,b,e,aa⟩=>?_);have a:=a.cD aa;have d:=ev g a.f2;refine an ⟨⟨⟨_,a⟩,d⟩,?_⟩;refine k2 12 18 j j (by kernel_rfl) ?_ ?_
       .skip
        have f:=eJ a.cF e (eX (fK (b1 aD 2)) i 1);refine bB j j j f (λw⟨v,b,e,aa⟩=>?_);have a:=a.cD aa;have d:=ev g a.f2;refine an ⟨⟨⟨_,a⟩,d⟩,?_⟩;refine k2 14 18 j j (by kernel_rfl) ?_ ?_
        .skip
         have f:=eJ a.cF e (eX (fK (b1 aD 2)) i 2);refine bB j j j f (λw⟨v,b,e,aa⟩=>?_);have a:=a.cD aa;have d:=ev g a.f2;refine an ⟨⟨⟨_,a⟩,d⟩,?_⟩;refine k2 16 18 j j (by kernel_rfl) ?_ ?_
         .skip
          have f:=eJ a.cF e (eX (fK (b1 aD 2)) i 3);refine bB j j j f (λw⟨v,b,e,aa⟩=>?_);have a:=a.cD aa;have d:=ev g a.f2;refine an ⟨⟨⟨_,a⟩,d⟩,?_⟩;refine eR 17 j ⟨⟨_,a⟩,d⟩ (λw _=>e3 (c:=(ig (b1 aD 2)).cs.toArray) j (λ_=>by kernel_rfl)) ?_;refine dW 18 j ?_;refine ew a j j (λm w a=>?_);have a:=a.f3.f3.f3;have d:=ev g a.f2;refine an ⟨⟨⟨_,a⟩,d⟩,?_⟩;refine dW 19 j ?_;refine c2 a.f3 j j j j j bG (λw a=>?_);have a:=(C.whole (U:=(ig (b1 aD 2)).cs) a j).f3.f3.f3;have d:=ev g a.f2;refine an ⟨⟨⟨_,a⟩,d⟩,?_⟩;refine cU ?_;refine bI 0 j ?_;exact⟨_,_,_,⟨j,j,j,j,aX⟩,e,a.f2.drop⟩
         .skip
          refine ew a j j (λm w a=>?_);have a:=a.f3.f3.f3;have d:=ev g a.f2;refine an ⟨⟨⟨_,a⟩,d⟩,?_⟩;refine dW 16 j ?_;have f:=eJ a.cF e (eX (fK (b1 aD 2)) i 3);refine bB j j j f (λw⟨v,b,e,aa⟩=>?_);have a:=a.cD aa;have d:=ev g a.f2;refine an ⟨⟨⟨_,a⟩,d⟩,?_⟩;refine eR 17 j ⟨⟨_,a⟩,d⟩ (λw _=>e3 (c:=(ig (b1 aD 2)).cs.toArray) j (λ_=>by kernel_rfl)) ?_;refine dW 19 j ?_;refine c2 a.f3 j j j j j bG (λw a=>?_);have a:=(C.whole (U:=(ig (b1 aD 2)).cs) a j).f3.f3.f3;have d:=ev g a.f2;refine an ⟨⟨⟨_,a⟩,d⟩,?_⟩;refine cU ?_;refine bI 0 j ?_;exact⟨_,_,_,⟨j,j,j,j,aX⟩,e,a.f2.drop⟩
        .skip
         refine ew a j j (λm w a=>?_);have a:=a.f3.f3.f3;have d:=ev g a.f2;refine an ⟨⟨⟨_,a⟩,d⟩,?_⟩;refine dW 14 j ?_;have f:=eJ a.cF e (eX (fK (b1 aD 2)) i 2);refine bB j j j f (λw⟨v,b,e,aa⟩=>?_);have a:=a.cD aa;have d:=ev g a.f2;refine an ⟨⟨⟨_,a⟩,d⟩,?_⟩;refine dW 16 j ?_;have f:=eJ a.cF e (eX (fK (b1 aD 2)) i 3);refine bB j j j f (λw⟨v,b,e,aa⟩=>?_);have a:=a.cD aa;have d:=ev g a.f2;refine an ⟨⟨⟨_,a⟩,d⟩,?_⟩;refine eR 17 j ⟨⟨_,a⟩,d⟩ (λw _=>e3 (c:=(ig (b1 aD 2)).cs.toArray) j (λ_=>by kernel_rfl)) ?_;refine dW 19 j ?_;refine c2 a.f3 j j j j j bG (λw a=>?_);have a:=(C.whole (U:=(ig (b1 aD 2)).cs) a j).f3.f3.f3;have d:=ev g a.f2;refine an ⟨⟨⟨_,a⟩,d⟩,?_⟩;refine cU ?_;refine bI 0 j ?_;exact⟨_,_,_,⟨j,j,j,j,aX⟩,e,a.f2.drop⟩
       .skip
        refine ew a j j (λm w a=>?_);have a:=a.f3.f3.f3;have d:=ev g a.f2;refine an ⟨⟨⟨_,a⟩,d⟩,?_⟩;refine dW 12 j ?_;have f:=eJ a.cF e (eX (fK (b1 aD 2)) i 1);refine bB j j j f (λw⟨v,b,e,aa⟩=>?_);have a:=a.cD aa;have d:=ev g a.f2;refine an ⟨⟨⟨_,a⟩,d⟩,?_⟩;refine dW 14 j ?_;have f:=eJ a.cF e (eX (fK (b1 aD 2)) i 2);refine bB j j j f (λw⟨v,b,e,aa⟩=>?_);have a:=a.cD aa;have d:=ev g a.f2;refine an ⟨⟨⟨_,a⟩,d⟩,?_⟩;refine dW 16 j ?_;have f:=eJ a.cF e (eX (fK (b1 aD 2)) i 3);refine bB j j j f (λw⟨v,b,e,aa⟩=>?_);have a:=a.cD aa;have d:=ev g a.f2;refine an ⟨⟨⟨_,a⟩,d⟩,?_⟩;refine eR 17 j ⟨⟨_,a⟩,d⟩ (λw _=>e3 (c:=(ig (b1 aD 2)).cs.toArray) j (λ_=>by kernel_rfl)) ?_;refine dW 19 j ?_;refine c2 a.f3 j j j j j bG (λw a=>?_);have a:=(C.whole (U:=(ig (b1 aD 2)).cs) a j).f3.f3.f3;have d:=ev g a.f2;refine an ⟨⟨⟨_,a⟩,d⟩,?_⟩;refine cU ?_;refine bI 0 j ?_;exact⟨_,_,_,⟨j,j,j,j,aX⟩,e,a.f2.drop⟩
      .skip
       refine ew a j j (λm w a=>?_);have a:=a.f3.f3.f3;have d:=ev g a.f2;refine an ⟨⟨⟨_,a⟩,d⟩,?_⟩;refine dW 10 j ?_;have f:=eJ a.cF e (i);refine bB j j j f (λw⟨v,b,e,aa⟩=>?_);have a:=a.cD aa;have d:=ev g a.f2;refine an ⟨⟨⟨_,a⟩,d⟩,?_⟩;refine dW 12 j ?_;have f:=eJ a.cF e (eX (fK (b1 aD 2)) i 1);refine bB j j j f (λw⟨v,b,e,aa⟩=>?_);have a:=a.cD aa;have d:=ev g a.f2;refine an ⟨⟨⟨_,a⟩,d⟩,?_⟩;refine dW 14 j ?_;have f:=eJ a.cF e (eX (fK (b1 aD 2)) i 2);refine bB j j j f (λw⟨v,b,e,aa⟩=>?_);have a:=a.cD aa;have d:=ev g a.f2;refine an ⟨⟨⟨_,a⟩,d⟩,?_⟩;refine dW 16 j ?_;have f:=eJ a.cF e (eX (fK (b1 aD 2)) i 3);refine bB j j j f (λw⟨v,b,e,aa⟩=>?_);have a:=a.cD aa;have d:=ev g a.f2;refine an ⟨⟨⟨_,a⟩,d⟩,?_⟩;refine eR 17 j ⟨⟨_,a⟩,d⟩ (λw _=>e3 (c:=(ig (b1 aD 2)).cs.toArray) j (λ_=>by kernel_rfl)) ?_;refine dW 19 j ?_;refine c2 a.f3 j j j j j bG (λw a=>?_);have a:=(C.whole (U:=(ig (b1 aD 2)).cs) a j).f3.f3.f3;have d:=ev g a.f2;refine an ⟨⟨⟨_,a⟩,d⟩,?_⟩;refine cU ?_;refine bI 0 j ?_;exact⟨_,_,_,⟨j,j,j,j,aX⟩,e,a.f2.drop⟩
     .skip
      refine ew a j j (λm w a=>?_);have a:=a.f1.f2.f1;refine an ⟨⟨_,a⟩,?_⟩;refine dW 7 j ?_;have f:=qZ a.cF e (eX (b1 aD 2) l 3);refine cO j j j f (λx w⟨v,b,bW,g,e,aa⟩=>?_);have a:=(a.cD aa).f1.f2.f1;obtain⟨n,dB,rfl,_⟩:=g.form;have d:=ev g a.f2;refine an ⟨⟨_,a⟩,?_⟩;refine pJ (λw=>(λw=>∃ad,C o [] ad w) w/\Rd w n (au (lu (e7 (b1 aD 2) 3)).1)) (λw h=>h.1) ?_;refine eR 8 j ⟨⟨_,a⟩,d⟩ (λw hw=>ou j hw.2) ?_;refine dW 10 j ?_;have f:=eJ a.cF e (i);refine bB j j j f (λw⟨v,b,e,aa⟩=>?_);have a:=a.cD aa;have d:=ev g a.f2;refine an ⟨⟨⟨_,a⟩,d⟩,?_⟩;refine dW 12 j ?_;have f:=eJ a.cF e (eX (fK (b1 aD 2)) i 1);refine bB j j j f (λw⟨v,b,e,aa⟩=>?_);have a:=a.cD aa;have d:=ev g a.f2;refine an ⟨⟨⟨_,a⟩,d⟩,?_⟩;refine dW 14 j ?_;have f:=eJ a.cF e (eX (fK (b1 aD 2)) i 2);refine bB j j j f (λw⟨v,b,e,aa⟩=>?_);have a:=a.cD aa;have d:=ev g a.f2;refine an ⟨⟨⟨_,a⟩,d⟩,?_⟩;refine dW 16 j ?_;have f:=eJ a.cF e (eX (fK (b1 aD 2)) i 3);refine bB j j j f (λw⟨v,b,e,aa⟩=>?_);have a:=a.cD aa;have d:=ev g a.f2;refine an ⟨⟨⟨_,a⟩,d⟩,?_⟩;refine eR 17 j ⟨⟨_,a⟩,d⟩ (λw _=>e3 (c:=(ig (b1 aD 2)).cs.toArray) j (λ_=>by kernel_rfl)) ?_;refine dW 19 j ?_;refine c2 a.f3 j j j j j bG (λw a=>?_);have a:=(C.whole (U:=(ig (b1 aD 2)).cs) a j).f3.f3.f3;have d:=ev g a.f2;refine an ⟨⟨⟨_,a⟩,d⟩,?_⟩;refine cU ?_;refine bI 0 j ?_;exact⟨_,_,_,⟨j,j,j,j,aX⟩,e,a.f2.drop⟩
    .skip
     refine ew a j j (λm w a=>?_);have a:=a.f1.f2.f1;refine an ⟨⟨_,a⟩,?_⟩;refine dW 5 j ?_;have f:=eJ a.cF e (eX (b1 aD 2) l 2);refine bB j j j f (λw⟨v,b,e,aa⟩=>?_);have a:=a.cD aa;refine an ⟨⟨_,a⟩,?_⟩;refine dW 7 j ?_;have f:=qZ a.cF e (eX (b1 aD 2) l 3);refine cO j j j f (λx w⟨v,b,bW,g,e,aa⟩=>?_);have a:=(a.cD aa).f1.f2.f1;obtain⟨n,dB,rfl,_⟩:=g.form;have d:=ev g a.f2;refine an ⟨⟨_,a⟩,?_⟩;refine pJ (λw=>(λw=>∃ad,C o [] ad w) w/\Rd w n (au (lu (e7 (b1 aD 2) 3)).1)) (λw h=>h.1) ?_;refine eR 8 j ⟨⟨_,a⟩,d⟩ (λw hw=>ou j hw.2) ?_;refine dW 10 j ?_;have f:=eJ a.cF e (i);refine bB j j j f (λw⟨v,b,e,aa⟩=>?_);have a:=a.cD aa;have d:=ev g a.f2;refine an ⟨⟨⟨_,a⟩,d⟩,?_⟩;refine dW 12 j ?_;have f:=eJ a.cF e (eX (fK (b1 aD 2)) i 1);refine bB j j j f (λw⟨v,b,e,aa⟩=>?_);have a:=a.cD aa;have d:=ev g a.f2;refine an ⟨⟨⟨_,a⟩,d⟩,?_⟩;refine dW 14 j ?_;have f:=eJ a.cF e (eX (fK (b1 aD 2)) i 2);refine bB j j j f (λw⟨v,b,e,aa⟩=>?_);have a:=a.cD aa;have d:=ev g a.f2;refine an ⟨⟨⟨_,a⟩,d⟩,?_⟩;refine dW 16 j ?_;have f:=eJ a.cF e (eX (fK (b1 aD 2)) i 3);refine bB j j j f (λw⟨v,b,e,aa⟩=>?_);have a:=a.cD aa;have d:=ev g a.f2;refine an ⟨⟨⟨_,a⟩,d⟩,?_⟩;refine eR 17 j ⟨⟨_,a⟩,d⟩ (λw _=>e3 (c:=(ig (b1 aD 2)).cs.toArray) j (λ_=>by kernel_rfl)) ?_;refine dW 19 j ?_;refine c2 a.f3 j j j j j bG (λw a=>?_);have a:=(C.whole (U:=(ig (b1 aD 2)).cs) a j).f3.f3.f3;have d:=ev g a.f2;refine an ⟨⟨⟨_,a⟩,d⟩,?_⟩;refine cU ?_;refine bI 0 j ?_;exact⟨_,_,_,⟨j,j,j,j,aX⟩,e,a.f2.drop⟩
   .skip
    refine ew a j j (λm w a=>?_);have a:=a.f1.f2.f1;refine an ⟨⟨_,a⟩,?_⟩;refine dW 3 j ?_;have f:=eJ a.cF e (eX (b1 aD 2) l 1);refine bB j j j f (λw⟨v,b,e,aa⟩=>?_);have a:=a.cD aa;refine an ⟨⟨_,a⟩,?_⟩;refine dW 5 j ?_;have f:=eJ a.cF e (eX (b1 aD 2) l 2);refine bB j j j f (λw⟨v,b,e,aa⟩=>?_);have a:=a.cD aa;refine an ⟨⟨_,a⟩,?_⟩;refine dW 7 j ?_;have f:=qZ a.cF e (eX (b1 aD 2) l 3);refine cO j j j f (λx w⟨v,b,bW,g,e,aa⟩=>?_);have a:=(a.cD aa).f1.f2.f1;obtain⟨n,dB,rfl,_⟩:=g.form;have d:=ev g a.f2;refine an ⟨⟨_,a⟩,?_⟩;refine pJ (λw=>(λw=>∃ad,C o [] ad w) w/\Rd w n (au (lu (e7 (b1 aD 2) 3)).1)) (λw h=>h.1) ?_;refine eR 8 j ⟨⟨_,a⟩,d⟩ (λw hw=>ou j hw.2) ?_;refine dW 10 j ?_;have f:=eJ a.cF e (i);refine bB j j j f (λw⟨v,b,e,aa⟩=>?_);have a:=a.cD aa;have d:=ev g a.f2;refine an ⟨⟨⟨_,a⟩,d⟩,?_⟩;refine dW 12 j ?_;have f:=eJ a.cF e (eX (fK (b1 aD 2)) i 1);refine bB j j j f (λw⟨v,b,e,aa⟩=>?_);have a:=a.cD aa;have d:=ev g a.f2;refine an ⟨⟨⟨_,a⟩,d⟩,?_⟩;refine dW 14 j ?_;have f:=eJ a.cF e (eX (fK (b1 aD 2)) i 2);refine bB j j j f (λw⟨v,b,e,aa⟩=>?_);have a:=a.cD aa;have d:=ev g a.f2;refine an ⟨⟨⟨_,a⟩,d⟩,?_⟩;refine dW 16 j ?_;have f:=eJ a.cF e (eX (fK (b1 aD 2)) i 3);refine bB j j j f (λw⟨v,b,e,aa⟩=>?_);have a:=a.cD aa;have d:=ev g a.f2;refine an ⟨⟨⟨_,a⟩,d⟩,?_⟩;refine eR 17 j ⟨⟨_,a⟩,d⟩ (λw _=>e3 (c:=(ig (b1 aD 2)).cs.toArray) j (λ_=>by kernel_rfl)) ?_;refine dW 19 j ?_;refine c2 a.f3 j j j j j bG (λw a=>?_);have a:=(C.whole (U:=(ig (b1 aD 2)).cs) a j).f3.f3.f3;have d:=ev g a.f2;refine an ⟨⟨⟨_,a⟩,d⟩,?_⟩;refine cU ?_;refine bI 0 j ?_;exact⟨_,_,_,⟨j,j,j,j,aX⟩,e,a.f2.drop⟩
  .skip
   refine ew a j j (λm w a=>?_);have a:=a.f1.f2.f1;refine an ⟨⟨_,a⟩,?_⟩;refine dW 1 j ?_;have f:=eJ a.cF e (l);refine bB j j j f (λw⟨v,b,e,aa⟩=>?_);have a:=a.cD aa;refine an ⟨⟨_,a⟩,?_⟩;refine dW 3 j ?_;have f:=eJ a.cF e (eX (b1 aD 2) l 1);refine bB j j j f (λw⟨v,b,e,aa⟩=>?_);have a:=a.cD aa;refine an ⟨⟨_,a⟩,?_⟩;refine dW 5 j ?_;have f:=eJ a.cF e (eX (b1 aD 2) l 2);refine bB j j j f (λw⟨v,b,e,aa⟩=>?_);have a:=a.cD aa;refine an ⟨⟨_,a⟩,?_⟩;refine dW 7 j ?_;have f:=qZ a.cF e (eX (b1 aD 2) l 3);refine cO j j j f (λx w⟨v,b,bW,g,e,aa⟩=>?_);have a:=(a.cD aa).f1.f2.f1;obtain⟨n,dB,rfl,_⟩:=g.form;have d:=ev g a.f2;refine an ⟨⟨_,a⟩,?_⟩;refine pJ (λw=>(λw=>∃ad,C o [] ad w) w/\Rd w n (au (lu (e7 (b1 aD 2) 3)).1)) (λw h=>h.1) ?_;refine eR 8 j ⟨⟨_,a⟩,d⟩ (λw hw=>ou j hw.2) ?_;refine dW 10 j ?_;have f:=eJ a.cF e (i);refine bB j j j f (λw⟨v,b,e,aa⟩=>?_);have a:=a.cD aa;have d:=ev g a.f2;refine an ⟨⟨⟨_,a⟩,d⟩,?_⟩;refine dW 12 j ?_;have f:=eJ a.cF e (eX (fK (b1 aD 2)) i 1);refine bB j j j f (λw⟨v,b,e,aa⟩=>?_);have a:=a.cD aa;have d:=ev g a.f2;refine an ⟨⟨⟨_,a⟩,d⟩,?_⟩;refine dW 14 j ?_;have f:=eJ a.cF e (eX (fK (b1 aD 2)) i 2);refine bB j j j f (λw⟨v,b,e,aa⟩=>?_);have a:=a.cD aa;have d:=ev g a.f2;refine an ⟨⟨⟨_,a⟩,d⟩,?_⟩;refine dW 16 j ?_;have f:=eJ a.cF e (eX (fK (b1 aD 2)) i 3);refine bB j j j f (λw⟨v,b,e,aa⟩=>?_);have a:=a.cD aa;have d:=ev g a.f2;refine an ⟨⟨⟨_,a⟩,d⟩,?_⟩;refine eR 17 j ⟨⟨_,a⟩,d⟩ (λw _=>e3 (c:=(ig (b1 aD 2)).cs.toArray) j (λ_=>by kernel_rfl)) ?_;refine dW 19 j ?_;refine c2 a.f3 j j j j j bG (λw a=>?_);have a:=(C.whole (U:=(ig (b1 aD 2)).cs) a j).f3.f3.f3;have d:=ev g a.f2;refine an ⟨⟨⟨_,a⟩,d⟩,?_⟩;refine cU ?_;refine bI 0 j ?_;exact⟨_,_,_,⟨j,j,j,j,aX⟩,e,a.f2.drop⟩
 .skip
  rintro Z w ⟨v,b,m,aM,e,a⟩;refine lD [(2,ab aO),(3,.int .i64 0),(4,ab r),(5,ab m)] aM ?_;have f:=eJ a.cF e (eX (fK (b1 aD 2)) i 4);refine bp 3 f j (λw⟨v,b,e,aa⟩=>?_);have a:=a.cD aa;have e:hN v b (zw (b1 aD 2)) G:=e;refine dF 6 a.f2 j j j j (λw a=>?_);have a:C o [] [bE m (mC (b1 aD 2)),hh r v b,G,bE aO db] w:=a;have a:=a.f1.f2.f1;have f:=Be a.cF e;refine bp 4 f j (λw aa=>?_);have a:=a.cD aa;refine am 2 j (cT 35 j (λeo=>?_) (λeo=>?_))
  .skip
   refine am 4 j (bS 39 (.bool true) j (aG Value.bool (j)) ?_);refine am 7 j (cN (c:=db.cs.toArray) j j j (λ_=>by kernel_rfl) ?_);refine b6 0 a.f3 j j j j j (λw a=>?_);refine bD 1 j ⟨_,dr results150 j j j j (a.bz),?_⟩
   have p:j8 (b1 aD 2)=false:=by
    unfold j8
    first
     |(have h:=s;rw [kl] at h;rw [h,nS,nS])
     |(have h:=dz q;rw [e4 (show¬mB (b1 aD 2)<=1 by unfold mB;omega),Bool.false_and,Bool.and_false])
     |(have h:=eo;rw [kl] at h;rw [h,m0])
   rw [p];exact⟨j,a.bare⟩
  .skip
   refine am 4 j (cT 39 j (λq=>?_) (λq=>?_))
   .skip
    refine am 7 j (cN (c:=db.cs.toArray) j j j (λ_=>by kernel_rfl) ?_);refine b6 0 a.f3 j j j j j (λw a=>?_);refine bD 1 j ⟨_,dr results150 j j j j (a.bz),?_⟩
    have p:j8 (b1 aD 2)=false:=by
     unfold j8
     first
      |(have h:=s;rw [kl] at h;rw [h,nS,nS])
      |(have h:=dz q;rw [e4 (show¬mB (b1 aD 2)<=1 by unfold mB;omega),Bool.false_and,Bool.and_false])
      |(have h:=eo;rw [kl] at h;rw [h,m0])
    rw [p];exact⟨j,a.bare⟩
   .skip
    refine bM 0 (U:=(mC (b1 aD 2)).cs) j j j a.f2.bz ?_;have f:=yM (o:=w) (I:=mC (b1 aD 2));refine bp 0 f j (λw aa=>?_);have a:=a.aL aa;refine bm 2 j j (λs=>?_) (λs=>?_)
    .skip
     refine am 2 j (cN (c:=db.cs.toArray) j j j (λ_=>by kernel_rfl) ?_);refine b6 0 a.f3 j j j j j (λw a=>?_);refine bD 1 j ⟨_,dr results150 j j j j (a.bz),?_⟩
     have p:j8 (b1 aD 2)=false:=by
      unfold j8
      first
       |(have h:=s;rw [kl] at h;rw [h,nS,nS])
       |(have h:=dz q;rw [e4 (show¬mB (b1 aD 2)<=1 by unfold mB;omega),Bool.false_and,Bool.and_false])
       |(have h:=eo;rw [kl] at h;rw [h,m0])
     rw [p];exact⟨j,a.bare⟩
    .skip
     refine bM 3 (U:=(mC (b1 aD 2)).cs) j j j a.f2.bz ?_;refine b6 0 a.f3 j j j j j (λw a=>?_);refine bD 1 j ⟨_,dr results150 j j j j (a.bz),?_⟩
     have p:j8 (b1 aD 2)=true:=by
      unfold j8;simp only [ea,gd];exact⟨by simpa using eo,by unfold mB;have:=of_decide_eq_false q;omega,by simpa using s⟩
     rw [p];exact⟨j,a.bare⟩
theorem Aq{P:Program}{w:World}{em:Bool}{n:Nat}{t:TypeId}{gN:Array Field}{cs:Array Value}(g k:Nat)(hu:P.underlying t=some (.struct gN))(m:P.underlying g=some (.int .i64))(c:(gN.toList.all λf=>(f.type==g)&&Nat.blt f.offset k)=true)(d:∀J,J<k->∃i,cs[J]? =some (.int .i64 i)):(Instr.checkKey em (n+2) t (.agg cs)).run P w= .ok () w:=by
 have h:∀f∈gN.toList,P.underlying f.type=some (.int .i64)/\∃i,cs[f.offset]? =some (.int .i64 i):=λf bw=>by
  have a:=jX.1 c f bw;simp only [ea,d5] at a;exact⟨by rw [a.1];exact m,d _ (Nat.blt_eq▸a.2)⟩
 clear c d;rw [Instr.checkKey];simp only [dS,d8 hu,dZ];rw [<-Array.forIn_toList];generalize gN.toList=L at h;induction L with
 |nil=>simp
 |cons f L e=>
  obtain⟨a,i,l⟩:=h f (by simp);have o:=nz (P:=P) (w:=w) a j l;have p:(Instr.checkKey em (n+1) f.type (.int .i64 i)).run P w= .ok () w:=MapKept.run_checkKey a (show MapKept.IsKey (.int .i64) (.int .i64 i) from j) em n;by_cases aJ:f.name= "_"
  .simp only [List.forIn_cons,dS,aJ,ne_eq,not_true_eq_false,lI,dZ,en];exact e (λy b=>h y (by simp [b]))
  .simp only [List.forIn_cons,dS,aJ,ne_eq,not_false_eq_true,kq,dZ,o,p,en];exact e (λy b=>h y (by simp [b]))
theorem As{cx:Type}[DecidableEq cx]{P:Program}{w:World}{t:TypeId}{key:cx->Value}(he:∀a b,(Op.equal t (key a) (key b)).run P w= .ok (decide (a=b)) w)(o:∀a b,key a=key b->a=b)(k:cx):
 ∀(es:List MapEntry)(i:Nat),(∀e∈es,∃J,e.key=key J)->
  ((Instr.findAsking t (key k) es i).run P w= .ok none w/\∀e∈es,e.key≠key k)\/∃(J:Nat)(e:MapEntry),(Instr.findAsking t (key k) es i).run P w= .ok (some (i+J,e.val)) w/\es[J]? =some e/\e.key=key k
 |[],i,_=>Or.inl ⟨by simp [Instr.findAsking],by simp⟩
 |e::es,i,n=>by
  obtain⟨J,c⟩:=n e (by simp);have m:=he k J;by_cases f:k=J
  .right
   subst f;refine⟨0,e,?_,j,c⟩;simp [Instr.findAsking,c,m]
  .have r:e.key≠key k:=λh=>f (o _ _ (h.symm.trans c))
   rcases As he o k es (i+1) (λy d=>n y (by simp [d])) with⟨g,l⟩|⟨q,ht,g,l,p⟩
   .left
    refine⟨by simp [Instr.findAsking,c,m,f,g],λy d=>?_⟩;rcases g1.1 d with rfl|d
    .exact r
    .exact l y d
   .right
    exact⟨q+1,ht,by simp [Instr.findAsking,c,m,f,g,rT,Nat.add_comm 1 q],by simpa using l,p⟩
theorem At{cx:Type}[DecidableEq cx]{P:Program}{w:World}{t:TypeId}{gN:Array Field}{key:cx->Value}{c:cx->Array Value}(hu:P.underlying t=some (.struct gN))(g:∀a,key a= .agg (c a))(he:∀a b,(Op.equal t (key a) (key b)).run P w= .ok (decide (a=b)) w)(h:∀a b,key a=key b->a=b)(k:cx)(es:List MapEntry)(f:∀e∈es,∃J,e.key=key J):
 ((Instr.findKey t (key k) es).run P w= .ok none w/\∀e∈es,e.key≠key k)\/∃(J:Nat)(e:MapEntry),(Instr.findKey t (key k) es).run P w= .ok (some (J,e.val)) w/\es[J]? =some e/\e.key=key k:=by
 have d:(Instr.findKey t (key k) es).run P w=(Instr.findAsking t (key k) es 0).run P w:=by
  unfold Instr.findKey;simp only [dS,d8 hu,dZ];cases es with
  |nil=>simp [Instr.findNow,Instr.findAsking]
  |cons e es=>rw [g k];simp [Instr.findNow,Instr.sameNow]
 rw [d];have:=As he h k es 0 f;simpa using this
theorem Au(n:Nat)(a:Int):Instr.sameBits n (ae a) (ae a)=true:=by cases n<;>simp [Instr.sameBits,ae]
abbrev hy(m:cb):Value:=.agg m.cs.toArray
abbrev k8(a:Int×Int):Value:=.agg #[ae a.1,ae a.2]
theorem zj(a b:cb)(h:hy a=hy b):a=b:=by
 obtain⟨g,i,a3,a4⟩:=a;obtain⟨az,aO,j,k⟩:=b;simp [hy,cb.cs] at h;obtain⟨c,d,e,f⟩:=h;cases c;cases d;cases e;cases f;rfl
theorem w1(a b:Int×Int)(h:k8 a=k8 b):a=b:=by
 obtain⟨e,f⟩:=a;obtain⟨az,aO⟩:=b;simp [k8] at h;obtain⟨c,d⟩:=h;cases c;cases d;rfl
theorem x6(a b:cb)(w:World):(Op.equal 118 (hy a) (hy b)).run prog w= .ok (decide (a=b)) w:=by
 have hu:prog.underlying 3=some (.int .i64):=(inferInstance:bA prog 3 (.int .i64)).h
 have e:decide (a=b)=((a.k==b.k)&&((a.p==b.p)&&((a.e==b.e)&&((a.t==b.t)&&true)))):=by
  rw [na];obtain⟨c,d,a3,a4⟩:=a;obtain⟨az,aO,f,g⟩:=b;simp
 rw [e];show(Op.equalIn 10000 118 _ _).run _ _=_;rw [run_equalIn_agg w 9999 118 _ _ (by kernel_rfl) (by kernel_rfl)];exact ku (by decide) hu j j (ku (by decide) hu j j (ku (by decide) hu j j (ku (by decide) hu j j uR)))
theorem D9(a b:Int×Int)(w:World):(Op.equal 323 (k8 a) (k8 b)).run prog w= .ok (decide (a=b)) w:=by
 have hu:prog.underlying 3=some (.int .i64):=(inferInstance:bA prog 3 (.int .i64)).h
 have e:decide (a=b)=((a.1==b.1)&&((a.2==b.2)&&true)):=by
  rw [na];obtain⟨c,d⟩:=a;obtain⟨az,aO⟩:=b;simp
 rw [e];show(Op.equalIn 10000 323 _ _).run _ _=_;rw [run_equalIn_agg w 9999 323 _ _ (by kernel_rfl) (by kernel_rfl)];exact ku (by decide) hu j j (ku (by decide) hu j j uR)
instance:Keys prog 118 hy where
 inj:=zj
 check:=λw em k=>Aq (n:=9998) 3 4 (inferInstance:bA prog 118 _).h (inferInstance:bA prog 3 (.int .i64)).h (by kernel_rfl) (λJ d=>by
  rcases(show J=0\/J=1\/J=2\/J=3 by omega) with rfl|rfl|rfl|rfl<;>exact⟨_,j⟩)
 find:=λw k es h=>At (P:=prog) (w:=w) (t:=118) (key:=hy) (c:=λm=>m.cs.toArray) (inferInstance:bA prog 118 _).h (λ_=>rfl) (λa b=>x6 a b w) zj k es h
 stays:=λw k=>by simp [Instr.keyThatStays,Instr.sameBits,cb.cs,Au]
instance:Keys prog 323 k8 where
 inj:=w1
 check:=λw em k=>Aq (n:=9998) 3 2 (inferInstance:bA prog 323 _).h (inferInstance:bA prog 3 (.int .i64)).h (by kernel_rfl) (λJ d=>by
  rcases(show J=0\/J=1 by omega) with rfl|rfl<;>exact⟨_,j⟩)
 find:=λw k es h=>At (P:=prog) (w:=w) (t:=323) (key:=k8) (c:=λa=> #[ae a.1,ae a.2]) (inferInstance:bA prog 323 _).h (λ_=>rfl) (λa b=>D9 a b w) w1 k es h
 stays:=λw k=>by simp [Instr.keyThatStays,Instr.sameBits,Au]
structure dy where
 name:List UInt8
 b5:Int
 last:Int
 dg:Bool
 parts:Option (List Int)
 fl:Int
def dy.new(x:List UInt8):dy:=⟨x,0,0,false,none,0⟩
structure bJ where
 cP:List (Int×dy)
 marks:List cb
 fE:List cb
 answers:List ((Int×Int)×(Int×Int×Int))
 now:Int
def bJ.new:bJ:=⟨[],[],[],[],0⟩
def once{α:Type}[DecidableEq α](l:List α)(a:α):List α:=if a∈l then l else l++[a]
def dy.mark(p:dy)(n k:Int):cb:=⟨k,n,p.b5,p.last⟩
def dy.shut(p:dy):dy:={p with dg:=false,parts:=none}
def bJ.gl(s:bJ)(n:Int)(p:dy)(k:Int):bJ:={s with cP:=cj s.cP n p.shut,fE:=once s.fE (p.mark n k),marks:=s.marks++[p.mark n k]}
def bJ.named(s:bJ)(x:List UInt8):Option (Int×dy):=(dd s.cP).findSome? λq=>if q.2.name=x then some q else none
def bJ.de(s:bJ)(I:bF):bJ×(Int×Int×Int)×List cb:=
 match s.named I.ep with
 |none=>if 8<=s.cP.length then(s,(3,0,0),[])
  else({s with cP:=cj s.cP (s.cP.length:Int) (dy.new I.ep),marks:=s.marks++[⟨1,(s.cP.length:Int),0,0⟩]},(0,(s.cP.length:Int),0),[⟨1,(s.cP.length:Int),0,0⟩])
 |some (n,p)=>if 100<=p.b5 then(s,(7,0,0),[])
  else if p.dg=true then({s with cP:=cj s.cP n {p.shut with b5:=p.b5+1,last:=0},fE:=once s.fE (p.mark n 3),marks:=s.marks++[p.mark n 3]++[⟨1,n,p.b5+1,0⟩]},(0,n,p.b5+1),[p.mark n 3]++[⟨1,n,p.b5+1,0⟩])
  else({s with cP:=cj s.cP n {p with b5:=p.b5+1,last:=0},marks:=s.marks++[⟨1,n,p.b5+1,0⟩]},(0,n,p.b5+1),[⟨1,n,p.b5+1,0⟩])
def dy.add(now:Int)(I:bF)(p:dy):dy×Int:=
 if p.dg=true/\I.t=p.last then({p with parts:=some (once (p.parts.getD []) I.q)},0)
 else if p.dg=true then(p,6)
 else if 100<=p.last then(p,7)
 else if I.t-1≠p.last then(p,6)
 else({p with dg:=true,last:=I.t,fl:=now,parts:=some [I.q]},0)
def bJ.qk(s:bJ)(I:bF)(p:dy):bJ×Int:=({s with cP:=cj s.cP I.p (p.add s.now I).1},(p.add s.now I).2)
def iM(I:bF):Int:=if I.dT=true then 2 else 3
def bJ.ends(s:bJ)(I:bF)(p:dy):bJ×Int×List cb:=
 if p.dg=true/\I.t=p.last then(s.gl I.p p (iM I),0,[p.mark I.p (iM I)])
 else if⟨iM I,I.p,I.e,I.t⟩∈s.fE then(s,0,[]) else(s,6,[])
def bJ.fO(now:Int)(a:bJ×List cb)(q:Int×dy):bJ×List cb:=
 if q.2.dg=true/\5<=now-q.2.fl then(a.1.gl q.1 q.2 3,a.2++[q.2.mark q.1 3]) else a
def bJ.f9(s:bJ):bJ×List cb:=(dd s.cP).foldl (bJ.fO (s.now+1)) ({s with now:=s.now+1},[])
def bJ.b3(s:bJ)(I:bF):bJ×(Int×Int×Int)×List cb:=
 if I.k=1 then s.de I
 else if I.k=4 then((s.f9).1,(0,0,0),(s.f9).2)
 else match aZ s.cP I.p with
  |none=>(s,(4,0,0),[])
  |some p=>if I.e≠p.b5 then(s,(5,0,0),[])
   else if I.k=2 then((s.qk I p).1,((s.qk I p).2,0,0),[])
   else((s.ends I p).1,((s.ends I p).2.1,0,0),(s.ends I p).2.2)
def bJ.apply(s:bJ)(I:bF):bJ×(Int×Int×Int)×List cb:=
 if gV I=false then(s,(6,0,0),[])
 else match aZ s.answers (I.c,I.s) with
  |some a=>(s,a,[])
  |none=>({(s.b3 I).1 with answers:=cj (s.b3 I).1.answers (I.c,I.s) (s.b3 I).2.1},(s.b3 I).2.1,(s.b3 I).2.2)
def tS(v:Value)(l:Option (List Int))(G:List Chunk):Prop:=match l with
 |none=>v= .map none/\G=[]
 |some l=>∃ah I,v= .map (some ah)/\G=[(ah,I)]/\cg bN I (l.map λk=>(k,Value.bool true))
abbrev sP(q:dy)(cr:Value):List Value:=[.string (strOf q.name),ae q.b5,ae q.last,.bool q.dg,cr,ae q.fl]
abbrev cq(aN:Nat)(q:dy)(cr:Value):List Chunk:=R aN (sP q cr).toArray 373
def rA(v:Value)(q:dy)(G:List Chunk):Prop:=∃aN cr a,v=ab aN/\tS cr q.parts a/\G=cq aN q cr++a
structure jb where
 l:Value
 marks:Value
 fE:Value
 answers:Value
abbrev uB(now:Int)(c:jb):List Value:=[c.l,c.marks,c.fE,c.answers,ae now]
abbrev bV(aU:Nat)(now:Int)(c:jb):List Chunk:=R aU (uB now c).toArray 234
def eH(v:Value)(l:List cb)(G:List Chunk):Prop:=Row 118 4 v l.length (l.flatMap cb.cs) G
theorem eH.nil:eH (.slice none 0 0) [] []:=Row.nil _ _
theorem pg(l:List cb):∀v∈l.flatMap cb.cs,v.oneCell'=true:=by
 intro v a;obtain⟨m,_,hm⟩:=nQ.1 a;simp [cb.cs] at hm;rcases hm with rfl|rfl|rfl|rfl<;>rfl
def mR{cx:Type}(key:cx->Value)(v:Value)(m:List (cx×Value))(G:List Chunk):Prop:=∃b I,v= .map (some b)/\G=[(b,I)]/\cg key I m
abbrev o1(l:List cb):List (cb×Value):=l.map λk=>(k,Value.bool true)
abbrev kz(a:Int×Int×Int):Value:=.agg #[ae a.1,ae a.2.1,ae a.2.2]
abbrev nX(l:List ((Int×Int)×(Int×Int×Int))):List ((Int×Int)×Value):=l.map λa=>(a.1,kz a.2)
structure Bo(s:bJ)(c:jb)(g8 M D W:List Chunk):Prop where
 l:fv 299 rA c.l s.cP g8
 marks:eH c.marks s.marks M
 fE:mR hy c.fE (o1 s.fE) D
 answers:mR k8 c.answers (nX s.answers) W
def k1(aU:Nat)(s:bJ)(G:List Chunk):Prop:=∃(c:jb)(g8 M D W:List Chunk),Bo s c g8 M D W/\G=bV aU s.now c++(g8++(M++(D++W)))
theorem C.qR{aU:Nat}{now:Int}{c:jb}{g8 M D W:List Chunk}{ad:List (List Chunk)}{o w:World}{F:List Nat}(h:C o F ((bV aU now c++(g8++(M++(D++W))))::ad) w):C o F (bV aU now c::g8::M::D::W::ad) w:=h.perm (by simp)
theorem C.yP{aU:Nat}{now:Int}{c:jb}{g8 M D W:List Chunk}{ad:List (List Chunk)}{o w:World}{F:List Nat}(h:C o F (bV aU now c::g8::M::D::W::ad) w):C o F ((bV aU now c++(g8++(M++(D++W))))::ad) w:=h.perm (by simp)
theorem nt{cx β a:Type}[DecidableEq cx](f:β->a):∀(m:List (cx×β))(k:cx),aZ (m.map λp=>(p.1,f p.2)) k=(aZ m k).map f
 |[],_=>rfl
 |(J,v)::r,k=>by
  simp only [jW,aZ];split
  .rfl
  .exact nt f r k
theorem vx{cx β a:Type}[DecidableEq cx](f:β->a):∀(m:List (cx×β))(k:cx)(v:β),cj (m.map λp=>(p.1,f p.2)) k (f v)=(cj m k v).map λp=>(p.1,f p.2)
 |[],_,_=>rfl
 |(J,u)::r,k,v=>by
  simp only [jW,cj];split
  .rfl
  .rw [vx f r k v];rfl
theorem zc{cx:Type}[DecidableEq cx]:∀(l:List cx)(k:cx),(aZ (l.map λk=>(k,Value.bool true)) k).getD (.bool false)= .bool (decide (k∈l))
 |[],_=>rfl
 |J::r,k=>by
  simp only [jW,aZ];by_cases h:J=k
  .rw [a6 h];simp [h]
  .rw [aI h,zc r k];have:(k∈J::r)↔k∈r:=by simp [g1,Ne.symm h]
   simp only [this]
theorem vA{cx:Type}[DecidableEq cx]:∀(l:List cx)(k:cx),cj (l.map λk=>(k,Value.bool true)) k (.bool true)=(once l k).map λk=>(k,Value.bool true)
 |[],_=>rfl
 |J::r,k=>by
  simp only [jW,cj];by_cases h:J=k
  .rw [a6 h];unfold once;rw [a6 (by simp [h])];simp [h]
  .rw [aI h,vA r k];unfold once;by_cases aa:k∈r
   .rw [a6 aa,a6 (by simp [aa])];rfl
   .rw [aI aa,aI (by simp [aa,Ne.symm h])];simp
theorem FW{o:World}:Calls prog 69 #[] o λr w=>∃aU G,r=ab aU/\k1 aU bJ.new G/\C o [] [G] w:=by
 have a:Own [] o:=C.start o;refine a2 func69 (bk 5 FY j (λr w⟨d,f,i,h,g⟩=>?_));subst i;have a:=a.aL g;refine jx j a j j (λaO w a=>jx j a j j (λb w a=>cN (c:=(uB 0 (⟨ab d,.slice none 0 0,.map (some aO),.map (some b)⟩:jb)).toArray) j j j (λ_=>by kernel_rfl) (bL 0 a j j (λe w a=>aq 1 j j ?_))));have a:C o [] (bV e 0 (⟨ab d,.slice none 0 0,.map (some aO),.map (some b)⟩:jb)::_) w:=a;exact⟨e,_,j,⟨(⟨ab d,.slice none 0 0,.map (some aO),.map (some b)⟩:jb),ay 299 d f (.map #[] 0),[],[(aO,.map #[] 0)],[(b,.map #[] 0)],⟨fv.new h,eH.nil,⟨aO,_,j,j,cg.new⟩,⟨b,_,j,j,cg.new⟩⟩,j⟩,C.perm (A:=[bV e 0 (⟨ab d,.slice none 0 0,.map (some aO),.map (some b)⟩:jb),ay 299 d f (.map #[] 0),[(aO,.map #[] 0)],[(b,.map #[] 0)]]) a.as (by simp [bJ.new])⟩
theorem tj{o:World}{aU:Nat}{now:Int}{c:jb}{l:List cb}{M:List Chunk}{m:cb}(h:eH c.marks l M)(z:l.length<=1000000)(a:Own [bV aU now c,M] o):Calls prog 287 #[ab aU,hy m] o λr w=>∃v1 f k,eH v1 (l++[m]) f/\eH r [m] k/\C o (av [bV aU now c,M]) [bV aU now {c with marks:=v1},f,k] w:=by
 obtain⟨d,q⟩:∃d,d=av [bV aU now c,M]:=⟨_,j⟩;rw [<-q];have a:C o d [bV aU now c,M] o:=q▸a;obtain⟨t,oY,s,x,y⟩:=h.form;have h:eH (.slice t l.length oY) l M:=s▸h;refine a2 func287 (bL 2 a j j (λg w a=>?_));have a:C o d [R g m.cs.toArray 118,bV aU now c,M] w:=a;have a:=a.drew;refine bt 2 j (λw=>∃ad,C o d ([R g m.cs.toArray 118,bV aU now c]++ad) w) ⟨_,a⟩ (af 0 4 j (a8 4 j a1 (aG some s) (aT 5 j (λw⟨_,a⟩=>c4 (U:=m.cs) j j j (bn (C.aj (b:=g) a))) (aR 6 j (gi (U:=m.cs) a j j j j bG bG (λv w a=>?_))))));have aJ:=bn (C.aj (b:=v) a);have a:C o d ([R g m.cs.toArray 118,bV aU now c]++_) w:=a.front;refine an ⟨⟨_,a⟩,?_⟩;refine aR 7 j (dR (a.to M) h j j (by decide) j j j (m:=1) (news:=m.cs) j aJ (by intro u hu;exact pg [m] u (by simpa using hu)) (by omega) (by unfold maxLen;omega) (λv1 f w i a=>?_))
 have i:eH v1 (l++[m]) f:=by
  unfold eH;rw [b0,List.flatMap_append];simpa using i
 have a:C o d ([R g m.cs.toArray 118,bV aU now c]++_) w:=a.front;refine an ⟨⟨_,a⟩,?_⟩;refine af 8 2 j (dA 10 j (cB (a.bc aU) j j j i.one bG (λw a=>?_)));have a:C o d (bV aU now {c with marks:=v1}::_) w:=a;have a:C o d [bV aU now {c with marks:=v1},R g m.cs.toArray 118,f] w:=a.as;refine an (cU (bM 2 (U:=m.cs) j j j (bn (C.aj (b:=g) a)) (gi (U:=m.cs) a j j j j bG bG (λp w a=>aq 1 j j ?_))));have a:C o d [bV aU now {c with marks:=v1},f,R p m.cs.toArray 118] w:=a.as;refine⟨v1,f,_,i,?_,a⟩;have:=Row.full (e:=118) (size:=4) (b:=p) (n:=1) (cur:=m.cs.toArray) (by unfold maxLen;omega) (by rw [List.size_toArray];rfl);unfold eH;simpa using this
theorem uI{o:World}{aU aN:Nat}{now n k:Int}{c:jb}{l dl:List cb}{M D:List Chunk}{q:dy}{cr:Value}(x:eH c.marks l M)(v:mR hy c.fE (o1 dl) D)(E:l.length<=1000000)(a:Own [bV aU now c,M,D,cq aN q cr] o):Calls prog 286 #[ab aU,ae n,ab aN,ae k] o λr w=>∃v1 f i g,eH v1 (l++[q.mark n k]) f/\mR hy c.fE (o1 (once dl (q.mark n k))) i/\eH r [q.mark n k] g/\C o (av [bV aU now c,M,D,cq aN q cr]) [bV aU now {c with marks:=v1},f,i,cq aN q.shut (.map none),g] w:=by
 obtain⟨d,p⟩:∃d,d=av [bV aU now c,M,D,cq aN q cr]:=⟨_,j⟩;rw [<-p];have a:C o d [bV aU now c,M,D,cq aN q cr] o:=p▸a;obtain⟨h,I,s,rfl,F⟩:=v;refine a2 func286 ?_;have a:C o d ([cq aN q cr]++_) _:=a.front;have a:=a.drew;refine bt 4 j (λw=>∃ad,C o d ([cq aN q cr]++ad) w) ⟨_,a⟩ (af 0 5 j (a8 5 j a1 j (af 6 3 j (a8 9 j a1 j (aT 10 j (λw _=>e3 (c:=(q.mark n k).cs.toArray) j (λ_=>by kernel_rfl)) (aR 11 j (ew a j j (λe w a=>?_))))))));have a:C o d ([cq aN q cr]++_) w:=a.front;refine an ⟨⟨_,a⟩,?_⟩;refine dA 12 j (c2 (a.bc e) j j j (by rfl) j bG (λw a=>?_));have a:=C.whole (U:=(q.mark n k).cs) a j;have a:C o d [R e (q.mark n k).cs.toArray 118,bV aU now c,M,[(h,I)],cq aN q cr] w:=a.as;refine an (cU (dF 6 (a.bc aN) j j j j (λw a=>?_)));have a:C o d (cq aN {q with dg:=false} cr::_) w:=a;refine dF 2 (a.bc aN) j j j j (λw a=>?_);have a:C o d (cq aN q.shut (.map none)::_) w:=a;have a:C o d ([R e (q.mark n k).cs.toArray 118,bV aU now c]++_) _:=a.front;have a:=a.drew;refine bt 1 j (λw=>∃ad,C o d ([R e (q.mark n k).cs.toArray 118,bV aU now c]++ad) w) ⟨_,a⟩ (af 0 3 j (a8 3 j a1 (aG some s) (aT 4 j (λw⟨_,a⟩=>c4 (U:=(q.mark n k).cs) j j j (bn (C.aj (b:=e) a))) (aR 5 j (jy (k:=q.mark n k) F (a.to [(h,I)]) j j j j (λu w t a=>?_))))));rw [vA] at t;have a:C o d ([R e (q.mark n k).cs.toArray 118,bV aU now c]++_) w:=a.front;refine an ⟨⟨_,a⟩,?_⟩;refine bK (bM 3 (U:=(q.mark n k).cs) j j j (bn (C.aj (b:=e) a)) ?_);have A:=tj (aU:=aU) (now:=now) (c:=c) (m:=q.mark n k) x E a.ours;refine bk 0 A j (λr w⟨v1,f,g,y,z,B⟩=>?_);have a:=a.b2 B;exact aq 1 j j ⟨v1,f,[(h,u)],g,y,⟨h,u,s,j,t⟩,z,a.as⟩
theorem vt{α:Type}:∀{m:List (Int×α)}{q:Int×α},(m.map Prod.fst).Nodup->q∈m->aZ m q.1=some q.2
 |(J,v)::r,q,aJ,a=>by
  have b:=k6.1 (by simpa using aJ:(J::r.map Prod.fst).Nodup);rcases g1.1 a with rfl|a
  .simp [aZ]
  .have:J≠q.1:=λe=>b.1 (by rw [e];exact dV.2 ⟨q,a,j⟩)
   simp only [aZ,this,lI];exact vt b.2 a
theorem zp{o:World}{aU G ah:Nat}{now:Int}{c:jb}{I:Obj}{m:List (Int×Value)}{t:List (Int×dy)}{H:List Chunk}{x:List UInt8}(X:o.heap[aU]? =some (.cells (uB now c).toArray 234 (0,0)))(J:c.l=ab G)(hm:cg bN I m)(A:c7 rA m t H)(M:Holds o (ay 299 G ah I++H))(aP:t.length<=1000000):Calls prog 284 #[ab aU,.string (strOf x)] o λr w=>(∃k v q,r= .tuple #[ae k,v,.bool true]/\aZ m k=some v/\aZ t k=some q/\(dd t).findSome? (λq:Int×dy=>if q.2.name=x then some q else none)=some (k,q)/\C o [] [] w)\/∃b,r= .tuple #[ae (t.length:Int),ab b,.bool false]/\(dd t).findSome? (λq:Int×dy=>if q.2.name=x then some q else none)=none/\C o [] [cq b (dy.new x) (.map none)] w:=by
 have d:Own [] o:=C.start o;have Y:(m.map (·.1)).Nodup:=hm.nodup (P:=prog) (cZ:=3);have az:(t.map Prod.fst).Nodup:=by have:=A.keys;rw [<-this];exact Y
 obtain⟨a,W⟩:∃a:Option Addr,a=some ⟨G,0,none⟩:=⟨_,j⟩;have J:c.l= .pointer a:=J.trans (by rw [W]);have N:dI 299 o a m:=.inr ⟨G,ah,I,W,M (G,_) (by simp),M (ah,I) (by simp),hm⟩;refine j2 func284 (bL 2 d j j (λf w d=>b7 0 d j (λg w d=>b7 0 d j (λi w d=>b7 0 d j (λn w d=>?_)))));have d:C o [] [R n #[.bool false] 4,R i #[.pointer none] 230,R g #[ae 0] 3,R f #[.string (strOf x)] 9] w:=d;have d:C o [] [R f #[.string (strOf x)] 9,R g #[ae 0] 3,R i #[.pointer none] 230,R n #[.bool false] 4] w:=d.as;refine ar 6 j (ax (d.cc X) (aG some J)) ?_;have E:=w3 (o:=w) (p:=a);refine bk 0 E j (λr w⟨ag,ai,aB,aa⟩=>?_);subst aB;have ap:=(N.st d).st aa;have d:=d.aL aa;have d:C o [] ([R ag #[.pointer a] 228,[(ai,.cells #[.func (.func 314) #[] #[]] 45 (0,0))]]++[R f #[.string (strOf x)] 9,R g #[ae 0] 3,R i #[.pointer none] 230,R n #[.bool false] 4]) w:=d
 refine j6 1 j (z8 (by have aM:=A.len;omega)) j (by have:=d.size;simpa using this) d j (λ_=>rfl) (by intro p Z;simp at Z;rcases Z with rfl|rfl<;>rfl)
  (λpre ad=>ad=[R f #[.string (strOf x)] 9,R g #[ae 0] 3,R i #[.pointer none] 230,R n #[.bool false] 4]/\((dd t).take pre.length).findSome? (λq:Int×dy=>if q.2.name=x then some q else none)=none) (λe ad=>match e with| .ret=>∃k v q,aZ m k=some v/\aZ t k=some q/\(dd t).findSome? (λq:Int×dy=>if q.2.name=x then some q else none)=some (k,q)/\ad=[R f #[.string (strOf x)] 9,R g #[ae k] 3,R i #[v] 230,R n #[.bool true] 4]|_=>False) ⟨j,j⟩ (λL aK ao=>ap.st ao) (λ_ _ _ _=>trivial) ?_ ?_ ?_ (λ_ _ _ h=>h.elim)
 .rintro y pre ⟨u,ak⟩ aH L aS U ⟨rfl,z⟩ d;obtain⟨t1,t2,B,aE,aJ,aF,T,ac,aA,aq⟩:=A.oi U
  have O:aZ m u=some ak:=by
   obtain⟨aQ,aC⟩:=U;exact nu (q:=(u,ak)) Y (oj.1 (by rw [aC];simp))
  have Q:aZ t u=some B:=vt (q:=(u,B)) az (g0.1 (show(u,B)∈dd t by rw [T];simp));obtain⟨aN,cr,aD,rfl,_,rfl⟩:=aq;have D:o.heap[aN]? =some (.cells (sP B cr).toArray 373 (0,0)):=((M.right.perm aA).right.left) (aN,_) (by simp);have d:=C.gy d;refine bD 5 j (⟨j,_,d,λL al d=>?_⟩);have D:=d.cc D;have d:=C.gy d;have d:C al (av [R f #[.string (strOf x)] 9,R g #[ae 0] 3,R i #[.pointer none] 230,R n #[.bool false] 4]) ([R f #[.string (strOf x)] 9]++_) _:=d.front;have d:=d.drew;refine bt 2 j (λw=>(∃ad,C al (av [R f #[.string (strOf x)] 9,R g #[ae 0] 3,R i #[.pointer none] 230,R n #[.bool false] 4]) ([R f #[.string (strOf x)] 9]++ad) w)/\w.heap[aN]? =some (.cells (sP B cr).toArray 373 (0,0))) ⟨⟨_,d⟩,D⟩ (af 0 3 j (bR 3 j (λw⟨⟨_,d⟩,D⟩=>ax D j) (bR 4 j (λw⟨⟨_,d⟩,D⟩=>ax (C.aj (b:=f) d) j) (aT 5 j (λw _=>Br j j (nD B.name x)) (bK (bm 0 j j (λK=>?_) (λK=>?_)))))))
  .refine dF 4 (d.bc g) j j j j (λw d=>?_);have d:C _ _ (R g #[ae u] 3::_) w:=d;refine dF 0 (d.bc i) j j j j (λw d=>?_);have d:C _ _ (R i #[ab aN] 230::_) w:=d;refine dF 0 (d.bc n) j j j j (λw d=>?_);have d:C _ _ (R n #[.bool true] 4::_) w:=d;exact bD 0 j ⟨[R f #[.string (strOf x)] 9,R g #[ae u] 3,R i #[ab aN] 230,R n #[.bool true] 4],d.as,u,_,B,O,Q,yf T ac z (a6 (by simpa using K)),j⟩
  refine bD 1 j (⟨[R f #[.string (strOf x)] 9,R g #[ae 0] 3,R i #[.pointer none] 230,R n #[.bool false] 4],d.as,j,?_⟩);rw [b0,List.length_singleton];exact ye T ac z (aI (by simpa using K))
 .rintro xs am w V ⟨rfl,z⟩ d;have d:C o [] [R ag #[.pointer a] 228,[(ai,.cells #[.func (.func 314) #[] #[]] 45 (0,0))],R f #[.string (strOf x)] 9,R g #[ae 0] 3,R i #[.pointer none] 230,R n #[.bool false] 4] w:=d;have d:C o [] ([R f #[.string (strOf x)] 9]++_) _:=d.front;have d:=d.drew;refine bt 1 j (λw=>∃ad,C o [] ([R f #[.string (strOf x)] 9]++ad) w) ⟨_,d⟩ (af 0 3 j (bR 3 j (λw⟨_,d⟩=>ax (d.cc X) (aG some J)) (a8 5 j a1 j (aT 6 j (λw _=>e3 (c:=(sP (dy.new x) (.map none)).toArray) j (λ_=>by kernel_rfl)) (aO 4 7 j j ?_ ?_)))))
  .have E:=yY (N.st d);refine bB j j j E (λw S=>?_);have d:=d.aL S;have d:C o [] ([R f #[.string (strOf x)] 9]++_) w:=d.front;refine an ⟨⟨_,d⟩,?_⟩;refine aO 7 8 j j ?_ ?_;refine lB d j j j (λs w d=>?_);have d:C o [] (cq s (dy.new x) (.map none)::_) w:=d;have d:C o [] ([R f #[.string (strOf x)] 9]++_) w:=d.front;refine an ⟨⟨_,d⟩,?_⟩;refine aR 8 j (cB (d.bc g) j j j j bG (λw d=>?_));have d:C _ _ (R g #[ae (m.length:Nat)] 3::_) w:=d;rotate_left
   refine cB (d.bc g) j j j j bG (λw d=>?_);have d:C _ _ (R g #[ae (m.length:Nat)] 3::_) w:=d;have d:C o [] ([R f #[.string (strOf x)] 9]++_) w:=d.front;refine an ⟨⟨_,d⟩,?_⟩;refine aR 7 j (lB d j j j (λs w d=>?_));have d:C o [] (cq s (dy.new x) (.map none)::_) w:=d;rotate_left
   all_goals
    have d:C o [] ([R f #[.string (strOf x)] 9]++_) w:=d.front;refine an ⟨⟨_,d⟩,?_⟩;refine aR 9 j (cB (d.bc i) j j j j bG (λw d=>?_));have d:C _ _ (R i #[ab s] 230::_) w:=d;have d:C o [] ([R f #[.string (strOf x)] 9]++_) w:=d.front;refine an ⟨⟨_,d⟩,?_⟩;refine dA 10 j (cB (d.bc n) j j j j bG (λw d=>?_));have d:C _ _ (R n #[.bool false] 4::_) w:=d;have d:C o [] [R f #[.string (strOf x)] 9,R g #[ae (m.length:Nat)] 3,R i #[ab s] 230,R n #[.bool false] 4,cq s (dy.new x) (.map none)] w:=d.as;refine an (cU (bD 0 j ⟨.tuple #[ae (m.length:Nat),ab s,.bool false],λw F=>?_⟩));have d:=F.st d (cI _);refine⟨v8 results284 j j (ax (C.aj (b:=g) d) j) j j (ax (C.aj (b:=i) d) j) j j (ax (C.aj (b:=n) d) j),?_⟩;rw [V,iB,A.len,h7 (by rw [hQ];exact cI _)] at z;exact .inr ⟨s,by rw [A.len],z,d.as⟩
  refine lB d j j j (λs w d=>?_);have d:C o [] (cq s (dy.new x) (.map none)::_) w:=d;have d:C o [] ([R f #[.string (strOf x)] 9]++_) w:=d.front;refine an ⟨⟨_,d⟩,?_⟩;refine aR 4 j ?_;have E:=yY (N.st d);refine bB j j j E (λw S=>?_);have d:=d.aL S;have d:C o [] ([R f #[.string (strOf x)] 9]++_) w:=d.front;refine an ⟨⟨_,d⟩,?_⟩;refine aR 8 j (cB (d.bc g) j j j j bG (λw d=>?_));have d:C _ _ (R g #[ae (m.length:Nat)] 3::_) w:=d;have d:C o [] ([R f #[.string (strOf x)] 9]++_) w:=d.front;refine an ⟨⟨_,d⟩,?_⟩;refine aR 9 j (cB (d.bc i) j j j j bG (λw d=>?_));have d:C _ _ (R i #[ab s] 230::_) w:=d;have d:C o [] ([R f #[.string (strOf x)] 9]++_) w:=d.front;refine an ⟨⟨_,d⟩,?_⟩;refine dA 10 j (cB (d.bc n) j j j j bG (λw d=>?_));have d:C _ _ (R n #[.bool false] 4::_) w:=d;have d:C o [] [R f #[.string (strOf x)] 9,R g #[ae (m.length:Nat)] 3,R i #[ab s] 230,R n #[.bool false] 4,cq s (dy.new x) (.map none)] w:=d.as;refine an (cU (bD 0 j ⟨.tuple #[ae (m.length:Nat),ab s,.bool false],λw F=>?_⟩));have d:=F.st d (cI _);refine⟨v8 results284 j j (ax (C.aj (b:=g) d) j) j j (ax (C.aj (b:=i) d) j) j j (ax (C.aj (b:=n) d) j),?_⟩;rw [V,iB,A.len,h7 (by rw [hQ];exact cI _)] at z;exact .inr ⟨s,by rw [A.len],z,d.as⟩
 rintro am w au d;obtain⟨k,v,q,O,Q,aw,rfl⟩:=au;refine⟨.tuple #[ae k,v,.bool true],λw F=>?_⟩;have d:=F.st d (cI _);refine⟨v8 results284 j j (ax (C.aj (b:=g) d) j) j j (ax (C.aj (b:=i) d) j) j j (ax (C.aj (b:=n) d) j),?_⟩;exact .inl ⟨k,v,q,j,O,Q,aw,d.bare⟩
section
variable {P:Program} {n:Fr} {Z:Env} {w:World} {Q:d6} {ops:Array Oper} {rest:List Oper} {dst:Option Nat} {ty:TypeId} {pos:String} {after:Array Edge} {g:Option (Nat×Bool)}
theorem rt{t e:TypeId}{d:Array TypeId}{args:Array Operand}{z:Value}{size bytes:Nat}{o:World}{F:List Nat}{c5 a7:List Chunk}{ad:List (List Chunk)}{v1 v2:Value}{ic a:Nat}{xs da:List Value}
 [hu:bA P t (.slice e)] [D:cm P e z size bytes] (c:C o F (c5::a7::ad) w) (i:Row e size v1 ic xs c5) (b:Row e size v2 a da a7) (y:∀u∈da,u.oneCell'=true) (v:d= #[t,t]) (A:z.cells.size=size) (s:0<size) (m:bytes<=1000)
 (q:cY ops Z g=some true) (p:c8 n dst=true) (x:fu Z args.toList=some [v1,v2]) (l:ic+a<=1000000000)
 (h:∀v3 bl aK,Row e size v3 (ic+a) (xs++da) bl->C o F (bl::ad) aK->O P n ops rest (cG Z dst v3) aK Q):O P n ops (⟨dst,.call ⟨.builtin .append,args,d⟩,ty,pos,after,g⟩::rest) Z w Q:=by
 obtain⟨B,dp,rfl,_,_,r,_⟩:=b.read (c.holds (G:=a7) (by simp));refine dR c i v A s q p x (news:=da) b.1 r y ?_ ?_ (λv3 f aK j k=>?_)
 .have:=rU l m;omega
 .unfold maxLen;omega
 .exact h v3 f aK j (k.f1.drop)
end
theorem eH.ss{v:Value}{dC a:List cb}{G:List Chunk}(h:Row 118 4 v (dC.length+a.length) (dC.flatMap cb.cs++a.flatMap cb.cs) G):eH v (dC++a) G:=by
 unfold eH;rw [b0,List.flatMap_append];exact h
structure dy.ok(now:Int)(q:dy):Prop where
 b5:0<=q.b5/\q.b5<=100
 last:0<=q.last/\q.last<=100
 fl:0<=q.fl/\q.fl<=now
 parts:q.dg=true->q.parts.isSome=true
structure bJ.ok(N:Nat)(s:bJ):Prop where
 cP:s.cP.length<=8
 kS:∀q∈s.cP,q.2.ok s.now
 marks:s.marks.length<=10*N
 now:0<=s.now/\s.now<=N
theorem dy.ok.mono{a b:Int}{q:dy}(h:q.ok a)(c:a<=b):q.ok b:={h with fl:=⟨h.fl.1,by have:=h.fl.2;omega⟩}
theorem bJ.ok.mono{N M:Nat}{s:bJ}(h:s.ok N)(a:N<=M):s.ok M:={h with marks:=by have:=h.marks;omega,now:=⟨h.now.1,by have:=h.now.2;omega⟩}
theorem sE{α:Type}:∀{m:List (Int×α)}{k:Int}{a:α},aZ m k=some a->cj m k a=m
 |[],_,_,h=>by cases h
 |(J,u)::r,k,a,h=>by
  simp only [aZ] at h;simp only [cj];split
  .rename_i he;rw [a6 he] at h;cases h;rw [he]
  .rename_i b;rw [aI b] at h;rw [sE h]
theorem bJ.zq{s:bJ}{x:List UInt8}{n:Int}{p:dy}(h:s.named x=some (n,p)):(n,p)∈s.cP/\p.name=x:=by
 unfold bJ.named at h;obtain⟨q,a,h⟩:=p4 h;split at h
 .cases h;exact⟨g0.1 a,by assumption⟩
 .cases h
theorem CW{o:World}{aU:Nat}{s:bJ}{G:List Chunk}{I:bF}(aB:k1 aU s G){N:Nat}(L:s.ok N)(aR:N<=10000)(a:Own [G] o):Calls prog 251 #[ab aU,.agg I.cs.toArray] o λr w=>∃v ai S,r= .tuple #[kz (s.de I).2.1,v]/\eH v (s.de I).2.2 S/\k1 aU (s.de I).1 ai/\C o (av [G]) [ai,S] w:=by
 obtain⟨c,g8,M,D,W,g,rfl⟩:=aB;obtain⟨e,ak⟩:∃e,e=av [bV aU s.now c++(g8++(M++(D++W)))]:=⟨_,j⟩;rw [<-ak];have a:C o e [bV aU s.now c++(g8++(M++(D++W)))] o:=ak▸a;have a:=a.qR;obtain⟨d,ah,bZ,ac,H,J,K,P,rfl⟩:=g.l;have hlen:=P.len;refine eV func251 (bL 2 a j j (λF w a=>?_));have a:C o e (bE F I::_) w:=a;refine b7 0 a j (λf w a=>?_);have a:C o e [R f #[ae 0,ae 0,ae 0] 129,bE F I,bV aU s.now c,ay 299 d ah bZ++H,M,D,W] w:=a;refine ar 5 j (ax (C.aj a) j) ?_;rcases E:s.named I.ep with _|⟨n,p⟩
 .have t:=zp (aU:=aU) (now:=s.now) (c:=c) (x:=I.ep) (C.aj (b:=aU) a) J K P (a.holds (G:=ay 299 d ah bZ++H) (by simp)) (by have:=L.cP;omega);refine bk 0 t j (λr w O=>?_);obtain⟨aN,O,_,aa⟩:=O.resolve_left (λ⟨k,v,q,_,_,_,h,_⟩=>by rw [show(dd s.cP).findSome? _=none from E] at h;cases h);subst O;have a:=a.aL aa;have a:C o e [R f #[ae 0,ae 0,ae 0] 129,bE F I,bV aU s.now c,ay 299 d ah bZ,H,M,D,W,cq aN (dy.new I.ep) (.map none)] w:=C.perm (A:=[R f #[ae 0,ae 0,ae 0] 129,bE F I,bV aU s.now c,ay 299 d ah bZ++H,M,D,W,cq aN (dy.new I.ep) (.map none)]) a.as (by simp);refine am 17 j (bS 39 (.bool true) j (aG Value.bool (j)) ?_);refine b8 4 j j (λau=>?_) (λau=>?_)
  .refine am 2 j (cN (c:= #[ae 3,ae 0,ae 0]) j j j (λ_=>by kernel_rfl) ?_);refine b6 0 (a.bc f) j j j j j (λw a=>?_);have a:=C.whole (U:=[ae 3,ae 0,ae 0]) a j;have a:C o e (R f #[ae 3,ae 0,ae 0] 129::_) w:=a;refine bD 1 j ⟨_,dr results251 j j j j a.bz,?_⟩
   have z:s.de I=(s,(3,0,0),[]):=by
    unfold bJ.de;rw [E];exact a6 (by omega)
   rw [z];have a:C o e [bV aU s.now c,ay 299 d ah bZ,H,M,D,W,[]] w:=C.perm (A:=[bV aU s.now c,ay 299 d ah bZ,H,M,D,W]) a.as (by simp);exact⟨_,_,[],j,eH.nil,⟨c,ay 299 d ah bZ++H,M,D,W,⟨⟨d,ah,bZ,ac,_,J,K,P,j⟩,g.marks,g.fE,g.answers⟩,j⟩,C.perm (A:=[bV aU s.now c,ay 299 d ah bZ,H,M,D,W,[]]) a (by simp)⟩
  refine ar 10 j (ax (C.aj (b:=aU) a) (aG some J)) ?_;have t:=HC (k:=(s.cP.length:Int)) (v:=ab aN) (a.ours (cC:=[ay 299 d ah bZ])) K;refine bp 2 t j (λw⟨Q,aH,B⟩=>?_);have a:=a.b2 B;have a:C o e [R f #[ae 0,ae 0,ae 0] 129,bE F I,bV aU s.now c,ay 299 d ah Q,H,M,D,W,cq aN (dy.new I.ep) (.map none)] w:=a.as;refine ar 8 j (ax (C.aj a) j) (cN (c:=(⟨1,(s.cP.length:Int),0,0⟩:cb).cs.toArray) j j j (λ_=>by kernel_rfl) ?_);have t:=tj (aU:=aU) (now:=s.now) (c:=c) (m:=(⟨1,(s.cP.length:Int),0,0⟩:cb)) g.marks (by have:=L.marks;first|omega|(simp only [b0,List.length_singleton];omega)) a.ours;refine bk 0 t j (λr w⟨v2,M2,T,V,X,B⟩=>?_);have a:=a.b2 B;have a:=(a.front (cC:=[T])).empty;refine rt a eH.nil X (pg _) j j (by decide) (by decide) j j j (by simp) (λv3 bl w y a=>?_);have y:=eH.ss y;refine ar 7 j (ax (C.aj a) j) (cN (c:= #[ae 0,ae (s.cP.length:Int),ae 0]) j j j (λ_=>by kernel_rfl) (b6 1 (a.bc f) j j j j j (λw a=>?_)));have a:=C.whole (U:=[ae 0,ae (s.cP.length:Int),ae 0]) a j;have a:C o e (R f #[ae 0,ae (s.cP.length:Int),ae 0] 129::_) w:=a;refine bD 1 j ⟨_,dr results251 j j j j a.bz,?_⟩;obtain⟨Z,ag,aM,aK⟩:=P.put (k:=(s.cP.length:Int)) (show rA (ab aN) (dy.new I.ep) (cq aN (dy.new I.ep) (.map none)) from⟨aN,.map none,[],j,⟨j,j⟩,j⟩)
  have z:s.de I=({s with cP:=cj s.cP (s.cP.length:Int) (dy.new I.ep),marks:=s.marks++[(⟨1,(s.cP.length:Int),0,0⟩:cb)]},(0,(s.cP.length:Int),0),[(⟨1,(s.cP.length:Int),0,0⟩:cb)]):=by
   unfold bJ.de;rw [E];exact aI (by omega)
  rw [z];have a:C o e [bV aU s.now {c with marks:=v2},ay 299 d ah Q,M2,D,W,bl,H,cq aN (dy.new I.ep) (.map none)] w:=a.as
  have a:C o e [bV aU s.now {c with marks:=v2},ay 299 d ah Q,M2,D,W,bl,ag,Z] w:=a.perm (by
   simp only [km,m2,hc];exact .append_left _ (.append_left _ (.append_left _ (.append_left _ (.append_left _ (.append_left _ aK))))))
  exact⟨v3,_,bl,j,y,⟨{c with marks:=v2},ay 299 d ah Q++Z,M2,D,W,⟨⟨d,ah,Q,_,Z,J,aH,aM,j⟩,V,g.fE,g.answers⟩,j⟩,C.perm (A:=[bV aU s.now {c with marks:=v2},ay 299 d ah Q,Z,M2,D,W,bl]) a.as (by simp)⟩
 have t:=zp (aU:=aU) (now:=s.now) (c:=c) (x:=I.ep) (C.aj (b:=aU) a) J K P (a.holds (G:=ay 299 d ah bZ++H) (by simp)) (by have:=L.cP;omega);refine bk 0 t j (λr w O=>?_);obtain⟨aO,v0,aP,O,aF,ao,bw,aa⟩:=O.resolve_right (λ⟨b,_,h,_⟩=>by rw [show(dd s.cP).findSome? _=some (n,p) from E] at h;cases h);subst O;have aE:some (n,p)=some (aO,aP):=E.symm.trans bw;cases aE;obtain⟨v1,H1,aQ,i,an,rfl,aD,af⟩:=P.find ao;rw [aF] at an;cases an;obtain⟨aN,cr,u,rfl,al,rfl⟩:=aD;have ap:p.ok s.now:=L.kS _ (bJ.zq E).1;have a:=a.aL aa;have a:C o e [R f #[ae 0,ae 0,ae 0] 129,bE F I,bV aU s.now c,ay 299 d ah bZ,H1,cq aN p cr,u,i,M,D,W] w:=C.perm (A:=[R f #[ae 0,ae 0,ae 0] 129,bE F I,bV aU s.now c,ay 299 d ah bZ++(H1++((cq aN p cr++u)++i)),M,D,W]) a.as (by simp);refine am 17 j (bS 39 (.bool false) j (aG Value.bool (j)) ?_);refine ar 16 j (ax (C.aj a) j) (b8 2 j j (λaw=>?_) (λaw=>?_))
 .refine am 2 j (cN (c:= #[ae 7,ae 0,ae 0]) j j j (λ_=>by kernel_rfl) ?_);refine b6 0 (a.bc f) j j j j j (λw a=>?_);have a:=C.whole (U:=[ae 7,ae 0,ae 0]) a j;have a:C o e (R f #[ae 7,ae 0,ae 0] 129::_) w:=a;refine bD 1 j ⟨_,dr results251 j j j j a.bz,?_⟩
  have z:s.de I=(s,(7,0,0),[]):=by
   unfold bJ.de;rw [E];exact a6 (by omega)
  rw [z];have a:C o e [bV aU s.now c,ay 299 d ah bZ,H1,cq aN p cr,u,i,M,D,W,[]] w:=C.perm (A:=[bV aU s.now c,ay 299 d ah bZ,H1,cq aN p cr,u,i,M,D,W]) a.as (by simp);exact⟨_,_,[],j,eH.nil,⟨c,ay 299 d ah bZ++(H1++((cq aN p cr++u)++i)),M,D,W,⟨⟨d,ah,bZ,ac,_,J,K,af p _ ⟨aN,cr,u,j,al,j⟩|>λh=>by rwa [sE ao] at h,j⟩,g.marks,g.fE,g.answers⟩,j⟩,C.perm (A:=[bV aU s.now c,ay 299 d ah bZ,H1,cq aN p cr,u,i,M,D,W,[]]) a (by simp)⟩
 refine ar 6 j (ax (C.aj a) j) (bm 0 j j (λad=>?_) (λad=>?_))
 .have t:=uI (aU:=aU) (aN:=aN) (now:=s.now) (n:=n) (k:=3) (c:=c) (q:=p) (cr:=cr) g.marks g.fE (by have:=L.marks;omega) a.ours;refine bk 4 t j (λr w⟨v1,aq,Y,S,aA,az,aC,B⟩=>?_);have a:=a.b2 B;have a:C o e [R f #[ae 0,ae 0,ae 0] 129,bE F I,bV aU s.now {c with marks:=v1},ay 299 d ah bZ,H1,cq aN p.shut (.map none),i,aq,Y,W,S] w:=a.as;refine ar 6 j (ax (C.aj a) j) (bq 0 j j j (uT (by have:=ap.b5;have:p.shut.b5=p.b5:=rfl;omega) (by omega)) (dF 2 (a.bc aN) j j j j (λw a=>?_)));have a:C o e (cq aN {p.shut with b5:=p.b5+1} (.map none)::_) w:=a;refine dF 4 (a.bc aN) j j j j (λw a=>?_);have a:C o e (cq aN {p.shut with b5:=p.b5+1,last:=0} (.map none)::_) w:=a;refine ar 8 j (ax (C.aj a) j) (cN (c:=(⟨1,n,p.b5+1,0⟩:cb).cs.toArray) j j j (λ_=>by kernel_rfl) ?_);have t:=tj (aU:=aU) (now:=s.now) (c:={c with marks:=v1}) (m:=(⟨1,n,p.b5+1,0⟩:cb)) aA (by have:=L.marks;first|omega|(simp only [b0,List.length_singleton];omega)) a.ours;refine bk 0 t j (λr w⟨v2,M2,T,V,X,B⟩=>?_);have a:=a.b2 B;have a:=a.front (cC:=[S,T]);refine rt a aC X (pg _) j j (by decide) (by decide) j j j (by simp) (λv3 bl w y a=>?_);have y:=eH.ss y;refine ar 7 j (ax (C.aj a) j) (cN (c:= #[ae 0,ae n,ae (p.b5+1)]) j j j (λ_=>by kernel_rfl) (b6 1 (a.bc f) j j j j j (λw a=>?_)));have a:=C.whole (U:=[ae 0,ae n,ae (p.b5+1)]) a j;have a:C o e (R f #[ae 0,ae n,ae (p.b5+1)] 129::_) w:=a;refine bD 1 j ⟨_,dr results251 j j j j a.bz,?_⟩
  have z:s.de I=({s with cP:=cj s.cP n {p.shut with b5:=p.b5+1,last:=0},fE:=once s.fE (p.mark n 3),marks:=s.marks++[p.mark n 3]++[(⟨1,n,p.b5+1,0⟩:cb)]},(0,n,p.b5+1),[p.mark n 3]++[(⟨1,n,p.b5+1,0⟩:cb)]):=by
   unfold bJ.de;rw [E];exact(aI (by omega)).trans (a6 (show p.dg=true from ad))
  rw [z];have a:C o e [bV aU s.now {c with marks:=v2},ay 299 d ah bZ,M2,Y,W,bl,H1,cq aN {p.shut with b5:=p.b5+1,last:=0} (.map none),i] w:=a.as;exact⟨v3,_,bl,j,y,⟨{c with marks:=v2},ay 299 d ah bZ++(H1++((cq aN {p.shut with b5:=p.b5+1,last:=0} (.map none)++[])++i)),M2,Y,W,⟨⟨d,ah,bZ,ac,_,J,K,af {p.shut with b5:=p.b5+1,last:=0} _ ⟨aN,.map none,[],j,⟨j,j⟩,j⟩,j⟩,V,az,g.answers⟩,j⟩,C.perm (A:=[bV aU s.now {c with marks:=v2},ay 299 d ah bZ,H1,cq aN {p.shut with b5:=p.b5+1,last:=0} (.map none),i,M2,Y,W,bl]) a.as (by simp)⟩
 refine ar 6 j (ax (C.aj a) j) (bq 0 j j j (uT (by have:=ap.b5;have:p.shut.b5=p.b5:=rfl;omega) (by omega)) (dF 2 (a.bc aN) j j j j (λw a=>?_)));have a:C o e (cq aN {p with b5:=p.b5+1} cr::_) w:=a;refine dF 4 (a.bc aN) j j j j (λw a=>?_);have a:C o e (cq aN {p with b5:=p.b5+1,last:=0} cr::_) w:=a;refine ar 8 j (ax (C.aj a) j) (cN (c:=(⟨1,n,p.b5+1,0⟩:cb).cs.toArray) j j j (λ_=>by kernel_rfl) ?_);have t:=tj (aU:=aU) (now:=s.now) (c:=c) (m:=(⟨1,n,p.b5+1,0⟩:cb)) g.marks (by have:=L.marks;first|omega|(simp only [b0,List.length_singleton];omega)) a.ours;refine bk 0 t j (λr w⟨v2,M2,T,V,X,B⟩=>?_);have a:=a.b2 B;have a:=(a.front (cC:=[T])).empty;refine rt a eH.nil X (pg _) j j (by decide) (by decide) j j j (by simp) (λv3 bl w y a=>?_);have y:=eH.ss y;refine ar 7 j (ax (C.aj a) j) (cN (c:= #[ae 0,ae n,ae (p.b5+1)]) j j j (λ_=>by kernel_rfl) (b6 1 (a.bc f) j j j j j (λw a=>?_)));have a:=C.whole (U:=[ae 0,ae n,ae (p.b5+1)]) a j;have a:C o e (R f #[ae 0,ae n,ae (p.b5+1)] 129::_) w:=a;refine bD 1 j ⟨_,dr results251 j j j j a.bz,?_⟩;have aJ:¬p.dg=true:=by rw [show p.dg=false from ad];decide
 have z:s.de I=({s with cP:=cj s.cP n {p with b5:=p.b5+1,last:=0},marks:=s.marks++[(⟨1,n,p.b5+1,0⟩:cb)]},(0,n,p.b5+1),[(⟨1,n,p.b5+1,0⟩:cb)]):=by
  unfold bJ.de;rw [E];exact(aI (by omega)).trans (aI aJ)
 rw [z];have a:C o e [bV aU s.now {c with marks:=v2},ay 299 d ah bZ,M2,D,W,bl,H1,cq aN {p with b5:=p.b5+1,last:=0} cr,u,i] w:=a.as;exact⟨v3,_,bl,j,y,⟨{c with marks:=v2},ay 299 d ah bZ++(H1++((cq aN {p with b5:=p.b5+1,last:=0} cr++u)++i)),M2,D,W,⟨⟨d,ah,bZ,ac,_,J,K,af {p with b5:=p.b5+1,last:=0} _ ⟨aN,cr,u,j,al,j⟩,j⟩,V,g.fE,g.answers⟩,j⟩,C.perm (A:=[bV aU s.now {c with marks:=v2},ay 299 d ah bZ,H1,cq aN {p with b5:=p.b5+1,last:=0} cr,u,i,M2,D,W,bl]) a.as (by simp)⟩
theorem Cd{o:World}{aU aN:Nat}{now:Int}{c:jb}{p:dy}{cr:Value}{m:List Chunk}{I:bF}(v:tS cr p.parts m)(F:p.ok now)(H:now<=1000000)(J: -1000<=I.t/\I.t<=1000)(a:Own [bV aU now c,cq aN p cr,m] o):Calls prog 254 #[ab aU,.agg I.cs.toArray,ab aN] o λr w=>r=ae (p.add now I).2/\∃B y,tS B (p.add now I).1.parts y/\C o (av [bV aU now c,cq aN p cr,m]) [bV aU now c,cq aN (p.add now I).1 B,y] w:=by
 obtain⟨b,z⟩:∃b,b=av [bV aU now c,cq aN p cr,m]:=⟨_,j⟩;rw [<-z];have a:C o b [bV aU now c,cq aN p cr,m] o:=z▸a;refine a2 func254 (bL 2 a j j (λd w a=>?_));have a:C o b [bE d I,bV aU now c,cq aN p cr,m] w:=a;have a:C o b ([bE d I,cq aN p cr]++_) _:=a.front;have a:=a.drew;refine bt 4 j (λw=>∃ad,C o b ([bE d I,cq aN p cr]++ad) w) ⟨_,a⟩ (af 0 3 j (a8 3 j a1 j (af 4 1 j (ef 31 j (λs=>?_) (λs=>?_)))))
 .refine af 5 1 j (a8 6 j a1 j (af 7 3 j (a8 10 j a1 j (af 11 3 j (bK (bm 0 j j (λx=>?_) (λx=>?_)))))))
  .obtain⟨l,A⟩:∃l,p.parts=some l:=ha.1 (F.parts s);rw [A] at v;obtain⟨ah,G,rfl,rfl,E⟩:=v;have a:C o b ([bE d I,cq aN p (.map (some ah))]++_) _:=a.front;have a:=a.drew;refine bt 2 j (λw=>∃ad,C o b ([bE d I,cq aN p (.map (some ah))]++ad) w) ⟨_,a⟩ (af 0 3 j (a8 3 j a1 j (af 4 1 j (a8 5 j a1 j (aR 6 j (jy (k:=I.q) E (a.to [(ah,G)]) j j j j (λg w n a=>?_)))))));rw [vA] at n;have a:C o b ([bE d I,cq aN p (.map (some ah))]++_) w:=a.front;refine an ⟨⟨_,a⟩,?_⟩;refine bK (aq 3 j j ?_)
   have f:p.add now I=({p with parts:=some (once l I.q)},0):=by
    unfold dy.add;rw [a6 ⟨s,d5.1 x⟩,A];rfl
   rw [f];exact⟨j,.map (some ah),[(ah,g)],⟨ah,g,j,j,n⟩,a.as⟩
  refine ar 5 j (ax (C.aj a) j) (mq 1 j j (s) (aq 3 j j ?_))
  have f:p.add now I=(p,6):=by
   unfold dy.add;exact(aI (by rintro⟨_,h⟩;rw [d5.2 h] at x;cases x)).trans (a6 s)
  rw [f];exact⟨j,cr,m,v,a.as⟩
 refine af 5 9 j (bK (ar 6 j (ax (C.aj a) j) (iI 1 j j (s) ?_)));have i:p.dg=false:=s;refine ar 5 j (ax (C.aj a) j) (b8 2 j j (λD=>?_) (λD=>?_))
 .refine aq 3 j j ?_
  have f:p.add now I=(p,7):=by
   unfold dy.add;exact(aI (by rintro⟨h,_⟩;rw [i] at h;cases h)).trans ((aI (by rw [i];decide)).trans (a6 (by omega)))
  rw [f];exact⟨j,cr,m,v,a.as⟩
 have a:C o b ([bE d I,cq aN p cr]++_) _:=a.front;have a:=a.drew;refine bt 1 j (λw=>∃ad,C o b ([bE d I,cq aN p cr]++ad) w) ⟨_,a⟩ (af 0 1 j (a8 1 j a1 j (aT 2 j (λw _=>ds j j (sg (by omega) (by omega))) (af 3 3 j (a8 6 j a1 j (af 7 2 j (bK (bm 0 j j (λu=>?_) (λu=>?_)))))))))
 .refine aq 3 j j ?_
  have f:p.add now I=(p,6):=by
   unfold dy.add;exact(aI (by rintro⟨h,_⟩;rw [i] at h;cases h)).trans ((aI (by rw [i];decide)).trans ((aI (by omega)).trans (a6 (by simpa using u))))
  rw [f];exact⟨j,cr,m,v,a.as⟩
 have a:C o b ([bE d I,bV aU now c]++_) _:=a.front;have a:=a.drew;refine bt 0 j (λw=>∃ad,C o b ([bE d I,bV aU now c]++ad) w) ⟨_,a⟩ (af 0 5 j (a8 5 j a1 j (af 6 3 j (a8 9 j a1 j (af 11 2 j (aO 10 13 j j ?_ ?_))))))
 .refine jx j a j j (λe w a=>?_);have a:C o b ([bE d I,bV aU now c]++_) w:=a.front;refine an ⟨⟨_,a⟩,?_⟩;refine aR 13 j (cB (a.bc aN) j j j j bG (λw a=>?_));have a:C o b (cq aN {p with dg:=true} cr::_) w:=a;have a:C o b ([bE d I,bV aU now c]++_) w:=a.front;refine an ⟨⟨_,a⟩,?_⟩;refine af 14 2 j (aR 16 j (cB (a.bc aN) j j j j bG (λw a=>?_)));have a:C o b (cq aN {p with dg:=true,last:=I.t} cr::_) w:=a;have a:C o b ([bE d I,bV aU now c]++_) w:=a.front;refine an ⟨⟨_,a⟩,?_⟩;refine af 17 2 j (aR 19 j (cB (a.bc aN) j j j j bG (λw a=>?_)));have a:C o b (cq aN {p with dg:=true,last:=I.t,fl:=now} cr::_) w:=a;have a:C o b ([bE d I,bV aU now c]++_) w:=a.front;refine an ⟨⟨_,a⟩,?_⟩;refine af 20 2 j (dA 22 j (cB (a.bc aN) j j j j bG (λw a=>?_)));have a:C o b (cq aN {p with dg:=true,last:=I.t,fl:=now,parts:=some [I.q]} (.map (some e))::_) w:=a;have a:C o b [bE d I,cq aN {p with dg:=true,last:=I.t,fl:=now,parts:=some [I.q]} (.map (some e)),bV aU now c,[(e,.map #[] 0)]] w:=a.as;refine an (cU ?_);have a:C o b ([bE d I,cq aN {p with dg:=true,last:=I.t,fl:=now,parts:=some [I.q]} (.map (some e))]++_) _:=a.front;have a:=a.drew;refine bt 1 j (λw=>∃ad,C o b ([bE d I,cq aN {p with dg:=true,last:=I.t,fl:=now,parts:=some [I.q]} (.map (some e))]++ad) w) ⟨_,a⟩ (af 0 3 j (a8 3 j a1 j (af 4 1 j (a8 5 j a1 j (aR 6 j (jy (k:=I.q) cg.new (a.to [(e,.map #[] 0)]) j j j j (λg w n a=>?_)))))));have a:C o b ([bE d I,cq aN {p with dg:=true,last:=I.t,fl:=now,parts:=some [I.q]} (.map (some e))]++_) w:=a.front;refine an ⟨⟨_,a⟩,?_⟩;refine bK (aq 3 j j ?_)
  have f:p.add now I=({p with dg:=true,last:=I.t,fl:=now,parts:=some [I.q]},0):=by
   unfold dy.add;exact(aI (by rintro⟨h,_⟩;rw [i] at h;cases h)).trans ((aI (by rw [i];decide)).trans ((aI (by omega)).trans (aI (by simpa using u))))
  rw [f];exact⟨j,.map (some e),[(e,g)],⟨e,g,j,j,n⟩,a.as⟩
 refine cB (a.bc aN) j j j j bG (λw a=>?_);have a:C o b (cq aN {p with dg:=true} cr::_) w:=a;have a:C o b ([bE d I,bV aU now c]++_) w:=a.front;refine an ⟨⟨_,a⟩,?_⟩;refine af 14 2 j (aO 10 16 j j ?_ ?_)
 .refine jx j a j j (λe w a=>?_);have a:C o b ([bE d I,bV aU now c]++_) w:=a.front;refine an ⟨⟨_,a⟩,?_⟩;refine aR 16 j (cB (a.bc aN) j j j j bG (λw a=>?_));have a:C o b (cq aN {p with dg:=true,last:=I.t} cr::_) w:=a;have a:C o b ([bE d I,bV aU now c]++_) w:=a.front;refine an ⟨⟨_,a⟩,?_⟩;refine af 17 2 j (aR 19 j (cB (a.bc aN) j j j j bG (λw a=>?_)));have a:C o b (cq aN {p with dg:=true,last:=I.t,fl:=now} cr::_) w:=a;have a:C o b ([bE d I,bV aU now c]++_) w:=a.front;refine an ⟨⟨_,a⟩,?_⟩;refine af 20 2 j (dA 22 j (cB (a.bc aN) j j j j bG (λw a=>?_)));have a:C o b (cq aN {p with dg:=true,last:=I.t,fl:=now,parts:=some [I.q]} (.map (some e))::_) w:=a;have a:C o b [bE d I,cq aN {p with dg:=true,last:=I.t,fl:=now,parts:=some [I.q]} (.map (some e)),bV aU now c,[(e,.map #[] 0)]] w:=a.as;refine an (cU ?_);have a:C o b ([bE d I,cq aN {p with dg:=true,last:=I.t,fl:=now,parts:=some [I.q]} (.map (some e))]++_) _:=a.front;have a:=a.drew;refine bt 1 j (λw=>∃ad,C o b ([bE d I,cq aN {p with dg:=true,last:=I.t,fl:=now,parts:=some [I.q]} (.map (some e))]++ad) w) ⟨_,a⟩ (af 0 3 j (a8 3 j a1 j (af 4 1 j (a8 5 j a1 j (aR 6 j (jy (k:=I.q) cg.new (a.to [(e,.map #[] 0)]) j j j j (λg w n a=>?_)))))));have a:C o b ([bE d I,cq aN {p with dg:=true,last:=I.t,fl:=now,parts:=some [I.q]} (.map (some e))]++_) w:=a.front;refine an ⟨⟨_,a⟩,?_⟩;refine bK (aq 3 j j ?_)
  have f:p.add now I=({p with dg:=true,last:=I.t,fl:=now,parts:=some [I.q]},0):=by
   unfold dy.add;exact(aI (by rintro⟨h,_⟩;rw [i] at h;cases h)).trans ((aI (by rw [i];decide)).trans ((aI (by omega)).trans (aI (by simpa using u))))
  rw [f];exact⟨j,.map (some e),[(e,g)],⟨e,g,j,j,n⟩,a.as⟩
 refine cB (a.bc aN) j j j j bG (λw a=>?_);have a:C o b (cq aN {p with dg:=true,last:=I.t} cr::_) w:=a;have a:C o b ([bE d I,bV aU now c]++_) w:=a.front;refine an ⟨⟨_,a⟩,?_⟩;refine af 17 2 j (aO 10 19 j j ?_ ?_);refine jx j a j j (λe w a=>?_);have a:C o b ([bE d I,bV aU now c]++_) w:=a.front;refine an ⟨⟨_,a⟩,?_⟩;refine aR 19 j (cB (a.bc aN) j j j j bG (λw a=>?_));have a:C o b (cq aN {p with dg:=true,last:=I.t,fl:=now} cr::_) w:=a;rotate_left
 refine cB (a.bc aN) j j j j bG (λw a=>?_);have a:C o b (cq aN {p with dg:=true,last:=I.t,fl:=now} cr::_) w:=a;have a:C o b ([bE d I,bV aU now c]++_) w:=a.front;refine an ⟨⟨_,a⟩,?_⟩;refine aR 10 j (jx j a j j (λe w a=>?_));rotate_left
 all_goals
  have a:C o b ([bE d I,bV aU now c]++_) w:=a.front;refine an ⟨⟨_,a⟩,?_⟩;refine af 20 2 j (dA 22 j (cB (a.bc aN) j j j j bG (λw a=>?_)));have a:C o b (cq aN {p with dg:=true,last:=I.t,fl:=now,parts:=some [I.q]} (.map (some e))::_) w:=a;have a:C o b [bE d I,cq aN {p with dg:=true,last:=I.t,fl:=now,parts:=some [I.q]} (.map (some e)),bV aU now c,[(e,.map #[] 0)]] w:=a.as;refine an (cU ?_);have a:C o b ([bE d I,cq aN {p with dg:=true,last:=I.t,fl:=now,parts:=some [I.q]} (.map (some e))]++_) _:=a.front;have a:=a.drew;refine bt 1 j (λw=>∃ad,C o b ([bE d I,cq aN {p with dg:=true,last:=I.t,fl:=now,parts:=some [I.q]} (.map (some e))]++ad) w) ⟨_,a⟩ (af 0 3 j (a8 3 j a1 j (af 4 1 j (a8 5 j a1 j (aR 6 j (jy (k:=I.q) cg.new (a.to [(e,.map #[] 0)]) j j j j (λg w n a=>?_)))))));have a:C o b ([bE d I,cq aN {p with dg:=true,last:=I.t,fl:=now,parts:=some [I.q]} (.map (some e))]++_) w:=a.front;refine an ⟨⟨_,a⟩,?_⟩;refine bK (aq 3 j j ?_)
  have f:p.add now I=({p with dg:=true,last:=I.t,fl:=now,parts:=some [I.q]},0):=by
   unfold dy.add;exact(aI (by rintro⟨h,_⟩;rw [i] at h;cases h)).trans ((aI (by rw [i];decide)).trans ((aI (by omega)).trans (aI (by simpa using u))))
  rw [f];exact⟨j,.map (some e),[(e,g)],⟨e,g,j,j,n⟩,a.as⟩
section
variable {P:Program} {n:Fr} {Z:Env} {w:World} {dst:Option Nat} {ty:TypeId} {pos:String} {after:Array Edge} {g:Option (Nat×Bool)} {cx:Type} [DecidableEq cx] {key:cx->Value} {I:Obj} {b:Nat}
theorem BE{t cZ eI:TypeId}{x y:Operand}{size bytes:Nat}{l:List cx}[hu:bA P t (.map cZ eI)][aa:Keys P cZ key][i:cm P eI (.bool false) size bytes](hm:cg key I (l.map λk=>(k,Value.bool true)))(d:w.heap[b]? =some I){k:cx}(e:bs Z x=some (.map (some b)))(f:bs Z y=some (key k)):
 ∀a,cK Z n.n a->(execOp a.eval ⟨dst,.lookup t x y false,ty,pos,after,g⟩).run P w= .ok (.value (.bool (decide (k∈l)))) w:=λa c=>by
 have h:=tG (P:=P) (n:=n) (Z:=Z) (t:=t) (cZ:=cZ) (eI:=eI) (x:=x) (y:=y) (z:=.bool false) (k:=k) (key:=key) (dst:=dst) (ty:=ty) (pos:=pos) (after:=after) (g:=g) hm d e f a c;rw [zc] at h;exact h
end
theorem ze{α:Type}:∀{m:List (Int×α)}{k J:Int}{v:α},J≠k->aZ (cj m J v) k=aZ m k
 |[],k,J,v,h=>by simp [cj,aZ,h]
 |(i,u)::r,k,J,v,h=>by
  simp only [cj];split
  .rename_i he;subst he;simp only [aZ];rw [aI h,aI h]
  .simp only [aZ];split
   .rfl
   .exact ze h
theorem bJ.w0{now:Int}{k:Int}:∀(l:List (Int×dy))(a:bJ×List cb),(∀p∈l,p.1≠k)->aZ (l.foldl (bJ.fO now) a).1.cP k=aZ a.1.cP k
 |[],_,_=>rfl
 |p::r,a,h=>by
  rw [iC,bJ.w0 r _ (λq b=>h q (by simp [b]))];unfold bJ.fO;split
  .exact ze (h p (by simp))
  .rfl
theorem bJ.ql{now:Int}:∀(l:List (Int×dy))(a:bJ×List cb),(l.foldl (bJ.fO now) a).1.now=a.1.now/\(l.foldl (bJ.fO now) a).1.answers=a.1.answers/\(l.foldl (bJ.fO now) a).1.marks.length<=a.1.marks.length+l.length/\(l.foldl (bJ.fO now) a).2.length<=a.2.length+l.length
 |[],_=>⟨j,j,cI _,cI _⟩
 |p::r,a=>by
  rw [iC];obtain⟨c,d,e,f⟩:=bJ.ql r (bJ.fO now a p)
  have b:(bJ.fO now a p).1.now=a.1.now/\(bJ.fO now a p).1.answers=a.1.answers/\(bJ.fO now a p).1.marks.length<=a.1.marks.length+1/\(bJ.fO now a p).2.length<=a.2.length+1:=by
   unfold bJ.fO;split
   .exact⟨j,j,by unfold bJ.gl;simp,by simp⟩
   .exact⟨j,j,by omega,by omega⟩
  refine⟨c.trans b.1,d.trans b.2.1,?_,?_⟩<;>rw [eu]<;>omega
theorem x3{o:World}{aU aN:Nat}{now:Int}{c:jb}{p:dy}{cr:Value}{l dl:List cb}{M D:List Chunk}{I:bF}(L:eH c.marks l M)(F:mR hy c.fE (o1 dl) D)(R:l.length<=1000000)(a:Own [bV aU now c,M,D,cq aN p cr] o):Calls prog 255 #[ab aU,.agg I.cs.toArray,ab aN] o λr w=>∃v,(p.dg=true/\I.t=p.last/\r= .tuple #[ae 0,v]/\∃v1 s m u,eH v [p.mark I.p (iM I)] u/\eH v1 (l++[p.mark I.p (iM I)]) s/\mR hy c.fE (o1 (once dl (p.mark I.p (iM I)))) m/\C o (av [bV aU now c,M,D,cq aN p cr]) [bV aU now {c with marks:=v1},s,m,cq aN p.shut (.map none),u] w)\/(¬(p.dg=true/\I.t=p.last)/\r= .tuple #[ae (if(⟨iM I,I.p,I.e,I.t⟩:cb)∈dl then 0 else 6),.slice none 0 0]/\C o (av [bV aU now c,M,D,cq aN p cr]) [bV aU now c,M,D,cq aN p cr] w):=by
 obtain⟨d,G⟩:∃d,d=av [bV aU now c,M,D,cq aN p cr]:=⟨_,j⟩;rw [<-G];have a:C o d [bV aU now c,M,D,cq aN p cr] o:=G▸a;have J:=F;obtain⟨h,i,P,rfl,S⟩:=F;refine a2 func255 (bL 2 a j j (λf w a=>?_));have a:C o d [bE f I,bV aU now c,M,[(h,i)],cq aN p cr] w:=a;refine ar 9 j (ax (C.aj a) j) (bm 0 j j (λz=>?_) (λz=>?_));have a:C o d ([bE f I,cq aN p cr]++_) _:=a.front;have a:=a.drew;have y:iM I=2:=a6 z;refine bt 5 j (λw=>∃ad,C o d ([bE f I,cq aN p cr]++ad) w) ⟨_,a⟩ ?_;rotate_left
 have a:C o d ([bE f I,cq aN p cr]++_) _:=a.front;have a:=a.drew;have y:iM I=3:=aI (by rw [show I.dT=false from z];decide);refine bt 4 j (λw=>∃ad,C o d ([bE f I,cq aN p cr]++ad) w) ⟨_,a⟩ ?_;rotate_left
 all_goals
  refine af 0 3 j (a8 3 j a1 j (af 4 1 j (ef 16 j (λx=>?_) (λx=>?_))));refine af 5 1 j (a8 6 j a1 j (af 7 3 j (a8 10 j a1 j (af 11 3 j (bK (bm 0 j j (λg=>?_) (λg=>?_)))))))
  .refine ar 4 j (ax (C.aj a) j) ?_;have H:=uI (aU:=aU) (aN:=aN) (now:=now) (n:=I.p) (k:=iM I) (c:=c) (q:=p) (cr:=cr) L J R a.ours;rw [y] at H;refine bk 2 H j (λr w⟨v1,s,m,u,N,K,O,Q⟩=>?_);have a:=a.b2 Q;refine aq 2 j j ?_;rw [y];exact⟨_,.inl ⟨x,d5.1 g,j,v1,s,m,u,O,N,K,a.as⟩⟩
  have a:C o d ([bE f I,bV aU now c,[(h,i)]]++_) _:=a.front;have a:=a.drew;refine bt 1 j (λw=>∃ad,C o d ([bE f I,bV aU now c,[(h,i)]]++ad) w) ⟨_,a⟩ ?_;rotate_left
  refine af 5 9 j (bK ?_);have a:C o d ([bE f I,bV aU now c,[(h,i)]]++_) _:=a.front;have a:=a.drew;refine bt 2 j (λw=>∃ad,C o d ([bE f I,bV aU now c,[(h,i)]]++ad) w) ⟨_,a⟩ ?_;rotate_left
  all_goals
   refine af 0 3 j (a8 3 j a1 (aG some P) (af 4 2 j (a8 6 j a1 j (af 7 1 j (a8 8 j a1 j (af 9 1 j (a8 10 j a1 j (aT 11 j (λw _=>e3 (c:=(⟨iM I,I.p,I.e,I.t⟩:cb).cs.toArray) j (λ_=>by rw [y];kernel_rfl)) (aT 12 j (λw⟨_,a⟩=>BE (k:=(⟨iM I,I.p,I.e,I.t⟩:cb)) (key:=hy) S (C.aj (b:=h) a) j j) (af 13 1 j (bK (b8 0 j j (λA=>?_) (λA=>?_)))))))))))))
   .exact aq 4 j j ⟨.slice none 0 0,.inr ⟨(by rintro⟨B,E⟩;first|exact absurd (B.symm.trans x) (by decide)|(rw [d5.2 E] at g;cases g)),by rw [a6 A];rfl,a.as⟩⟩
   exact aq 5 j j ⟨.slice none 0 0,.inr ⟨(by rintro⟨B,E⟩;first|exact absurd (B.symm.trans x) (by decide)|(rw [d5.2 E] at g;cases g)),by rw [aI A];rfl,a.as⟩⟩
theorem Ir{o:World}{aU:Nat}{s:bJ}{G:List Chunk}(ba:k1 aU s G){N:Nat}(T:s.ok N)(bC:N<=10000)(d:Own [G] o):Calls prog 252 #[ab aU] o λr w=>∃ai t,eH r (s.f9).2 t/\k1 aU (s.f9).1 ai/\C o (av [G]) [ai,t] w:=by
 obtain⟨c,g8,M,D,W,F,rfl⟩:=ba;obtain⟨E,aD⟩:∃E,E=av [bV aU s.now c++(g8++(M++(D++W)))]:=⟨_,j⟩;rw [<-aD];have d:C o E [bV aU s.now c++(g8++(M++(D++W)))] o:=aD▸d;have d:=d.qR;obtain⟨m,ah,bZ,Z,H,am,aw,ao,rfl⟩:=F.l;have hlen:=ao.len;have bH:=T.cP;have aJ:(Z.map (·.1)).Nodup:=aw.nodup (P:=prog) (cZ:=3);have aO:(s.cP.map Prod.fst).Nodup:=by have:=ao.keys;rw [<-this];exact aJ
 have aM:((dd s.cP).map Prod.fst).Nodup:=(List.Perm.map _ (oJ _ _)).nodup_iff.2 aO;refine j2 func252 (bL 2 d j j (λaz w d=>?_));have d:C o E (R az #[ab aU] 81::_) w:=d;refine ar 3 j (ax (C.aj d) j) (ar 2 j (ax (C.aj d) j) (bq 0 j j j (qy (by have:=T.now;omega) (by omega)) (dF 2 (d.bc aU) j j j j (λw d=>?_))));have d:C o E (bV aU (s.now+1) c::_) w:=d;refine b7 2 d j (λg w d=>?_);have d:C o E (R g #[.slice none 0 0] 97::_) w:=d;have d:C o E [R az #[ab aU] 81,R g #[.slice none 0 0] 97,bV aU (s.now+1) c,M,D,W,ay 299 m ah bZ,H,[]] w:=C.perm (A:=[R az #[ab aU] 81,R g #[.slice none 0 0] 97,bV aU (s.now+1) c,M,D,W,ay 299 m ah bZ++H]) d.as (by simp);refine ar 3 j (ax (C.aj d) j) ?_;obtain⟨a,X⟩:∃a:Option Addr,a=some ⟨m,0,none⟩:=⟨_,j⟩;have am:c.l= .pointer a:=am.trans (by rw [X]);refine ar 2 j (ax (C.aj (b:=aU) d) (aG some am)) ?_;have bf:dI 299 w a Z:=X▸dI.own (d.to (ay 299 m ah bZ)) aw;have aq:=w3 (o:=w) (p:=a);refine bk 0 aq j (λr w⟨aS,aW,bp,aa⟩=>?_);subst bp;have be:=bf.st aa;have d:=d.aL aa;have d:C o E ([R aS #[.pointer a] 228,[(aW,.cells #[.func (.func 314) #[] #[]] 45 (0,0))]]++[R az #[ab aU] 81,R g #[.slice none 0 0] 97,bV aU (s.now+1) c,M,D,W,ay 299 m ah bZ,H,[]]) w:=d
 refine j6 1 j (z8 (by omega)) j (by have:=d.size;simpa using this) d j (λ_=>rfl) (by intro p F;simp at F;rcases F with rfl|rfl<;>rfl)
  (λpre ad=>∃(v:Value)(aV:jb)(z u x t:List Chunk),ad=[R az #[ab aU] 81,R g #[v] 97,bV aU (s.now+1) aV,z,u,W,ay 299 m ah bZ,x,t]/\eH v (((dd s.cP).take pre.length).foldl (bJ.fO (s.now+1)) (({s with now:=s.now+1}:bJ),[])).2 t/\eH aV.marks (((dd s.cP).take pre.length).foldl (bJ.fO (s.now+1)) (({s with now:=s.now+1}:bJ),[])).1.marks z/\mR hy aV.fE (o1 (((dd s.cP).take pre.length).foldl (bJ.fO (s.now+1)) (({s with now:=s.now+1}:bJ),[])).1.fE) u/\aV.l=c.l/\aV.answers=c.answers/\c7 rA Z (((dd s.cP).take pre.length).foldl (bJ.fO (s.now+1)) (({s with now:=s.now+1}:bJ),[])).1.cP x) (λ_ _=>False) ⟨_,c,M,D,H,[],j,eH.nil,F.marks,F.fE,j,j,ao⟩ (λL aK a7=>be.st a7) (λ_ _ _ _=>trivial) ?_ ?_ (λ_ _ h=>h.elim) (λ_ _ _ h=>h.elim)
 .rintro y pre ⟨B,aX⟩ bv L bN aC ⟨v,aV,z,u,x,t,rfl,S,Q,O,ak,al,Y⟩ d;obtain⟨t1,t2,i,bz,bx,bA,K,aQ,bF,bE⟩:=ao.oi aC;have K:dd s.cP=t1++(B,i)::t2:=K;have bo:i.ok s.now:=T.kS (B,i) (g0.1 (show(B,i)∈dd s.cP by rw [K];simp))
  have bm:aZ Z B=some aX:=by
   obtain⟨bM,br⟩:=aC;exact nu (q:=(B,aX)) aJ (oj.1 (by rw [br];simp))
  have bu:(dd s.cP).take pre.length=t1:=by rw [K,<-aQ,mg]
  have au:aZ (((dd s.cP).take pre.length).foldl (bJ.fO (s.now+1)) (({s with now:=s.now+1}:bJ),[])).1.cP B=some i:=by
   rw [bu,bJ.w0 _ _ (λp F=>by
    rw [K,jD,List.map_cons] at aM;have:=(iE.1 aM).2.2;exact λe=>this p.1 (dV.2 ⟨p,F,j⟩) B (by simp) e)]
   exact vt (q:=(B,i)) aO (g0.1 (show(B,i)∈dd s.cP by rw [K];simp))
  have aE:=bJ.ql (now:=(s.now+1)) ((dd s.cP).take pre.length) (({s with now:=s.now+1}:bJ),[]);have bI:((dd s.cP).take pre.length).length<=8:=by rw [g9,hQ];omega
  have aA:=yr (f:=bJ.fO (s.now+1)) (b:=((({s with now:=s.now+1}:bJ),[]):bJ×List cb)) K aQ;have bi:(((dd s.cP).take pre.length).foldl (bJ.fO (s.now+1)) (({s with now:=s.now+1}:bJ),[])).1.marks.length<=s.marks.length+8:=ek aE.2.2.1 (by show s.marks.length+_<=_;omega);have bj:(((dd s.cP).take pre.length).foldl (bJ.fO (s.now+1)) (({s with now:=s.now+1}:bJ),[])).2.length<=8:=ek aE.2.2.2 (by show 0+_<=_;omega);obtain⟨a0,bh⟩:∃a0,a0=(((dd s.cP).take pre.length).foldl (bJ.fO (s.now+1)) (({s with now:=s.now+1}:bJ),[])):=⟨_,j⟩;rw [<-bh] at S Q O Y au aA bi bj;obtain⟨v0,I,bB,J,aH,rfl,bg,aP⟩:=Y.find au;rw [bm] at aH;cases aH;obtain⟨aN,cr,V,rfl,a9,rfl⟩:=bg;have d:=C.gy d;refine bD 5 j (⟨j,_,d,λL U d=>?_⟩);obtain⟨x,ae⟩:∃x,x=I++((cq aN i cr++V)++J):=⟨_,j⟩;rw [<-ae] at d;have d:=C.gy d;have d:C U (av [R az #[ab aU] 81,R g #[v] 97,bV aU (s.now+1) aV,z,u,W,ay 299 m ah bZ,x,t]) [R az #[ab aU] 81,R g #[v] 97,bV aU (s.now+1) aV,z,u,W,ay 299 m ah bZ,I,cq aN i cr,V,J,t] U:=C.perm (A:=[R az #[ab aU] 81,R g #[v] 97,bV aU (s.now+1) aV,z,u,W,ay 299 m ah bZ,x,t]) d (by rw [ae];simp);have d:C U (av [R az #[ab aU] 81,R g #[v] 97,bV aU (s.now+1) aV,z,u,W,ay 299 m ah bZ,x,t]) ([R az #[ab aU] 81,bV aU (s.now+1) aV,cq aN i cr]++_) _:=d.front;have d:=d.drew;refine bt 2 j (λw=>∃ad,C U (av [R az #[ab aU] 81,R g #[v] 97,bV aU (s.now+1) aV,z,u,W,ay 299 m ah bZ,x,t]) ([R az #[ab aU] 81,bV aU (s.now+1) aV,cq aN i cr]++ad) w) ⟨_,d⟩ (af 0 3 j (bR 3 j (λw⟨_,d⟩=>ax (C.aj (b:=aN) d) j) (af 4 1 j (ef 24 j (λap=>?_) (λap=>?_)))));refine bR 5 j (λw⟨_,d⟩=>ax (C.aj (b:=az) d) j) (af 6 2 j (bR 8 j (λw⟨_,d⟩=>ax (C.aj (b:=aU) d) j) (af 9 3 j (bR 12 j (λw⟨_,d⟩=>ax (C.aj (b:=aN) d) j) (aT 13 j (λw _=>ds j j (sg (by have:=T.now;omega) (by have:=bo.fl;have:=T.now;omega))) (af 14 2 j (bK (b8 0 j j (λeo=>?_) (λeo=>?_)))))))))
  .have d:C U (av [R az #[ab aU] 81,R g #[v] 97,bV aU (s.now+1) aV,z,u,W,ay 299 m ah bZ,x,t]) ([R az #[ab aU] 81,R g #[v] 97]++_) _:=d.front;have d:=d.drew;refine bt 0 j (λw=>∃ad,C U (av [R az #[ab aU] 81,R g #[v] 97,bV aU (s.now+1) aV,z,u,W,ay 299 m ah bZ,x,t]) ([R az #[ab aU] 81,R g #[v] 97]++ad) w) ⟨_,d⟩ (bR 0 j (λw⟨_,d⟩=>ax (C.aj (b:=g) d) j) (bR 1 j (λw⟨_,d⟩=>ax (C.aj (b:=az) d) j) (af 2 2 j (aR 4 j ?_))));have aq:=uI (aU:=aU) (aN:=aN) (now:=(s.now+1)) (n:=B) (k:=3) (c:=aV) (q:=i) (cr:=cr) Q O (by have:=T.marks;omega) d.ours;refine cO j j j aq (λr w⟨v1,M2,ac,aY,a8,a5,bb,bn⟩=>?_);have d:=d.b2 bn;have d:C _ _ ([R az #[ab aU] 81,R g #[v] 97]++_) w:=d.front;refine an ⟨⟨_,d⟩,?_⟩;refine aR 5 j (rt (d.front (cC:=[t,aY])) S bb (pg _) j j (by decide) (by decide) j j j (by simp;omega) (λv3 bl w ag d=>?_));have ag:=eH.ss ag;have d:C _ _ ([R az #[ab aU] 81,R g #[v] 97]++_) w:=d.front;refine an ⟨⟨_,d⟩,?_⟩;refine dA 6 j (cB (d.bc g) j j j ag.one bG (λw d=>?_));have d:C _ _ (R g #[v3] 97::_) w:=d;have d:C _ _ [R az #[ab aU] 81,R g #[v3] 97,bV aU (s.now+1) {aV with marks:=v1},M2,ac,W,ay 299 m ah bZ,I,cq aN i.shut (.map none),J,bl] w:=d.as;refine an (cU (bD 0 j ?_));have aB:bJ.fO (s.now+1) a0 (B,i)=(a0.1.gl B i 3,a0.2++[i.mark B 3]):=a6 ⟨ap,eo⟩;subst ae;refine⟨[R az #[ab aU] 81,R g #[v3] 97,bV aU (s.now+1) {aV with marks:=v1},M2,ac,W,ay 299 m ah bZ,(I++((cq aN i.shut (.map none)++[])++J)),bl],C.perm (A:=[R az #[ab aU] 81,R g #[v3] 97,bV aU (s.now+1) {aV with marks:=v1},M2,ac,W,ay 299 m ah bZ,I,cq aN i.shut (.map none),J,bl]) d (by simp),v3,{aV with marks:=v1},M2,ac,_,bl,j,?_⟩;rw [b0,List.length_singleton,aA,aB];exact⟨ag,a8,a5,ak,al,aP i.shut _ ⟨aN,.map none,[],j,⟨j,j⟩,j⟩⟩
  refine bD 1 j ?_;rotate_left
  refine af 5 11 j (bK (bD 2 j ?_));rotate_left
  all_goals
   have aB:bJ.fO (s.now+1) a0 (B,i)=a0:=aI (by rintro⟨a3,a4⟩;first|exact absurd (a3.symm.trans ap) (by decide)|exact absurd a4 eo);subst ae;refine⟨[R az #[ab aU] 81,R g #[v] 97,bV aU (s.now+1) aV,z,u,W,ay 299 m ah bZ,(I++((cq aN i cr++V)++J)),t],C.perm (A:=[R az #[ab aU] 81,R g #[v] 97,bV aU (s.now+1) aV,z,u,W,ay 299 m ah bZ,I,cq aN i cr,V,J,t]) d.as (by simp),v,aV,z,u,_,t,j,?_⟩;rw [b0,List.length_singleton,aA,aB];refine⟨S,Q,O,ak,al,?_⟩;have:=aP i _ ⟨aN,cr,V,j,a9,j⟩
   rwa [sE au] at this
 rintro xs bw w bd ⟨v,aV,z,u,x,t,rfl,S,Q,O,ak,al,Y⟩ d;rw [bd,iB,hlen,h7 (by rw [hQ];exact cI _)] at S Q O Y;have d:C o E [R aS #[.pointer a] 228,[(aW,.cells #[.func (.func 314) #[] #[]] 45 (0,0))],R az #[ab aU] 81,R g #[v] 97,bV aU (s.now+1) aV,z,u,W,ay 299 m ah bZ,x,t] w:=d;refine ar 2 j (ax (C.aj (b:=g) d) j) (bD 1 j ⟨v,λw bs=>?_⟩);have d:=bs.st d (cI _);refine⟨λa X=>i8 (fn:=f252) X j _ _,?_⟩;have aF:=bJ.ql (now:=(s.now+1)) (dd s.cP) (({s with now:=s.now+1}:bJ),[]);have a1:(s.f9).1.now=s.now+1:=aF.1;have a2:(s.f9).1.answers=s.answers:=aF.2.1;have d:C o E [bV aU (s.now+1) aV,ay 299 m ah bZ,x,z,u,W,t] w:=d.as;refine⟨_,t,S,⟨aV,ay 299 m ah bZ++x,z,u,W,⟨⟨m,ah,bZ,Z,x,by rw [ak,am,X],aw,Y,j⟩,Q,O,by rw [al,a2];exact F.answers⟩,j⟩,?_⟩;rw [a1];exact C.perm (A:=[bV aU (s.now+1) aV,ay 299 m ah bZ,x,z,u,W,t]) d (by simp)
theorem Gx{I:bF}(h:gV I=true): -1000<=I.t/\I.t<=1000:=by
 unfold gV at h;simp only [ea] at h;have a:=h.2;split at a
 .simp only [bF.ids,ea,d5] at a;obtain⟨⟨⟨_,⟨_,b⟩⟩,_⟩,_⟩:=a;omega
 .split at a
  .simp only [bF.ids,ea,d5] at a;obtain⟨⟨⟨_,⟨_,b⟩⟩,_⟩,_⟩:=a;omega
  .split at a
   .simp only [ka,n4,ea] at a;omega
   .split at a
    .simp only [ka,n4,ea] at a;omega
    .cases a
theorem DT{o:World}{aU:Nat}{s:bJ}{G:List Chunk}{I:bF}(az:k1 aU s G){N:Nat}(L:s.ok N)(au:N<=10000)(aK:gV I=true)(a:Own [G] o):Calls prog 204 #[ab aU,.agg I.cs.toArray] o λr w=>∃v ai F,r= .tuple #[kz (s.b3 I).2.1,v]/\eH v (s.b3 I).2.2 F/\k1 aU (s.b3 I).1 ai/\C o (av [G]) [ai,F] w:=by
 have aA:=az;obtain⟨c,g8,M,D,W,m,aC⟩:=az;obtain⟨d,aq⟩:∃d,d=av [G]:=⟨_,j⟩;rw [<-aq];have a:C o d [G] o:=aq▸a;refine eV func204 (bL 2 a j j (λi w a=>?_));have a:C o d (bE i I::_) w:=a;refine b7 0 a j (λf w a=>?_);have a:C o d (R f #[ae 0,ae 0,ae 0] 129::_) w:=a;refine ar 5 j (ax (C.aj (b:=i) a) j) (bm 5 j j (λn=>?_) (λn=>?_))
 .refine bM 3 (U:=I.cs) j j j (bn (C.aj (b:=i) a)) ?_;have z:=CW (I:=I) aA L au a.ours;refine bk 0 z j (λr w⟨v,ai,F,V,Q,ao,E⟩=>?_);subst V;have a:=a.b2 E;refine b6 2 (a.bc f) j j j j j (λw a=>?_);have a:=C.whole (U:=[ae (s.de I).2.1.1,ae (s.de I).2.1.2.1,ae (s.de I).2.1.2.2]) a j;have a:C o d (R f #[ae (s.de I).2.1.1,ae (s.de I).2.1.2.1,ae (s.de I).2.1.2.2] 129::_) w:=a;refine bD 1 j ⟨_,dr results204 j j j j a.bz,?_⟩
  have x:s.b3 I=s.de I:=by
   unfold bJ.b3;exact a6 (d5.1 n)
  rw [x];exact⟨v,ai,F,j,Q,ao,a.as⟩
 refine bm 4 j j (λq=>?_) (λq=>?_)
 .refine am 2 j (cN (c:= #[ae 0,ae 0,ae 0]) j j j (λ_=>by kernel_rfl) ?_);have z:=Ir aA L au a.ours;refine bk 1 z j (λr w⟨ai,F,Q,ao,E⟩=>?_);have a:=a.b2 E;refine b6 0 (a.bc f) j j j j j (λw a=>?_);have a:=C.whole (U:=[ae 0,ae 0,ae 0]) a j;have a:C o d (R f #[ae 0,ae 0,ae 0] 129::_) w:=a;refine bD 1 j ⟨_,dr results204 j j j j a.bz,?_⟩
  have x:s.b3 I=((s.f9).1,(0,0,0),(s.f9).2):=by
   unfold bJ.b3;exact(aI (by rw [fw] at n;exact n)).trans (a6 (d5.1 q))
  rw [x];exact⟨_,ai,F,j,Q,ao,a.as⟩
 rw [aC] at a;have a:C o d [bV aU s.now c++(g8++(M++(D++W))),R f #[ae 0,ae 0,ae 0] 129,bE i I] _:=a.as;have a:C o d [bV aU s.now c,g8,M,D,W,R f #[ae 0,ae 0,ae 0] 129,bE i I] _:=a.qR;obtain⟨g,ah,bZ,O,H,S,T,aa,rfl⟩:=m.l;have a:C o d ([bE i I,bV aU s.now c]++_) _:=a.front;have a:=a.drew;refine bt 2 j (λw=>∃ad,C o d ([bE i I,bV aU s.now c]++ad) w) ⟨_,a⟩ (af 0 3 j (a8 3 j a1 (aG some S) (af 4 1 j (a8 5 j a1 j (aR 6 j ?_)))));have aF:=dI.own (C.perm (A:=[ay 299 g ah bZ++H,bE i I,bV aU s.now c]) (B:=[ay 299 g ah bZ,H,bE i I,bV aU s.now c]) a.as (by simp)) T;have z:=Eo (k:=I.p) aF;refine bB j j j z (λw E=>?_);have a:=a.aL E;have a:C o d ([bE i I,bV aU s.now c]++_) w:=a.front;refine an ⟨⟨_,a⟩,?_⟩;refine af 7 5 j (bK (bm 7 j j (λal=>?_) (λal=>?_)))
 .refine am 2 j (cN (c:= #[ae 4,ae 0,ae 0]) j j j (λ_=>by kernel_rfl) ?_);refine b6 0 (a.bc f) j j j j j (λw a=>?_);have a:=C.whole (U:=[ae 4,ae 0,ae 0]) a j;have a:C o d (R f #[ae 4,ae 0,ae 0] 129::_) w:=a;refine bD 1 j ⟨_,dr results204 j j j j a.bz,?_⟩
  have x:s.b3 I=(s,(4,0,0),[]):=by
   unfold bJ.b3;refine(aI (by rw [fw] at n;exact n)).trans ((aI (by rw [fw] at q;exact q)).trans ?_);have u:(aZ O I.p).isSome=false:=by simpa using al
   rw [aa.isSome] at u;rw [mx u]
  rw [x];have a:C o d [bV aU s.now c,ay 299 g ah bZ++H,M,D,W,[]] w:=(C.empty a).as;exact⟨_,_,[],j,eH.nil,⟨c,ay 299 g ah bZ++H,M,D,W,⟨⟨g,ah,bZ,O,H,S,T,aa,j⟩,m.marks,m.fE,m.answers⟩,j⟩,a.yP⟩
 obtain⟨p,J⟩:∃p,aZ s.cP I.p=some p:=by
  have u:(aZ O I.p).isSome=true:=by simpa using al
  rw [aa.isSome] at u;exact ha.1 u
 obtain⟨v0,H1,aO,y,aJ,rfl,aH,ap⟩:=aa.find J;obtain⟨aN,cr,K,rfl,aw,rfl⟩:=aH;have aM:p.ok s.now:=L.kS _ (hS J);have a:C o d [bV aU s.now c,ay 299 g ah bZ,H1,cq aN p cr,K,y,M,D,W,R f #[ae 0,ae 0,ae 0] 129,bE i I] _:=C.perm (A:=[bV aU s.now c,ay 299 g ah bZ++(H1++((cq aN p cr++K)++y)),M,D,W,R f #[ae 0,ae 0,ae 0] 129,bE i I]) a.as (by simp);have a:C o d ([bE i I,cq aN p cr]++_) _:=a.front;have a:=a.drew;refine bt 1 j (λw=>∃ad,C o d ([bE i I,cq aN p cr]++ad) w) ⟨_,a⟩ (iY 6 (ab aN) j (by rw [aJ];rfl) (af 0 1 j (a8 1 j a1 j (af 2 3 j (a8 5 j a1 j (af 6 2 j (bK (bm 0 j j (λP=>?_) (λP=>?_)))))))));refine am 2 j (cN (c:= #[ae 5,ae 0,ae 0]) j j j (λ_=>by kernel_rfl) ?_);refine b6 0 (a.bc f) j j j j j (λw a=>?_);have a:=C.whole (U:=[ae 5,ae 0,ae 0]) a j;have a:C o d (R f #[ae 5,ae 0,ae 0] 129::_) w:=a;refine bD 1 j ⟨_,dr results204 j j j j a.bz,?_⟩
 have x:s.b3 I=(s,(5,0,0),[]):=by
  unfold bJ.b3;refine(aI (by rw [fw] at n;exact n)).trans ((aI (by rw [fw] at q;exact q)).trans ?_);rw [J];exact a6 (by simpa using P)
 rotate_left
 refine ar 3 j (ax (C.aj (b:=i) a) j) (bm 2 j j (λY=>?_) (λY=>?_))
 .refine bM 3 (U:=I.cs) j j j (bn (C.aj (b:=i) a)) ?_;have z:=Cd (aU:=aU) (aN:=aN) (c:=c) (I:=I) aw aM (by have:=L.now;omega) (Gx aK) a.ours;refine bp 1 z j (λw⟨ac,X,aE,E⟩=>?_);have a:=a.b2 E;refine cN (c:= #[ae (p.add s.now I).2,ae 0,ae 0]) j j j (λ_=>by kernel_rfl) (b6 0 (a.bc f) j j j j j (λw a=>?_));have a:=C.whole (U:=[ae (p.add s.now I).2,ae 0,ae 0]) a j;have a:C o d (R f #[ae (p.add s.now I).2,ae 0,ae 0] 129::_) w:=a;refine bD 1 j ⟨_,dr results204 j j j j a.bz,?_⟩
  have x:s.b3 I=((s.qk I p).1,((s.qk I p).2,0,0),[]):=by
   unfold bJ.b3;refine(aI (by rw [fw] at n;exact n)).trans ((aI (by rw [fw] at q;exact q)).trans ?_);rw [J];exact(aI (by simpa using P)).trans (if_pos (beq_iff_eq.1 Y))
  rw [x];have a:C o d [bV aU s.now c,ay 299 g ah bZ,H1,cq aN (p.add s.now I).1 ac,X,y,M,D,W,[]] w:=(C.empty a).as;have u:=ap (p.add s.now I).1 _ ⟨aN,ac,X,j,aE,j⟩;exact⟨_,_,[],j,eH.nil,⟨c,ay 299 g ah bZ++(H1++((cq aN (p.add s.now I).1 ac++X)++y)),M,D,W,⟨⟨g,ah,bZ,O,_,S,T,u,j⟩,m.marks,m.fE,m.answers⟩,j⟩,C.perm (A:=[bV aU s.now c,ay 299 g ah bZ,H1,cq aN (p.add s.now I).1 ac,X,y,M,D,W,[]]) a (by simp [bJ.qk])⟩
 refine bM 4 (U:=I.cs) j j j (bn (C.aj (b:=i) a)) (am 1 j ?_);by_cases Z:p.dg=true/\I.t=p.last
 .have z:=x3 (aU:=aU) (aN:=aN) (now:=s.now) (c:=c) (p:=p) (cr:=cr) (I:=I) m.marks m.fE (by have:=L.marks;omega) a.ours;refine bk 0 z j (λr w⟨v,dt⟩=>?_);obtain⟨_,_,V,v1,ak,ag,F,Q,aD,aB,E⟩:=dt.resolve_right (λh=>h.1 Z);subst V;have a:=a.b2 E;refine am 8 j (cN (c:= #[ae 0,ae 0,ae 0]) j j j (λ_=>by kernel_rfl) ?_);refine b6 1 (a.bc f) j j j j j (λw a=>?_);have a:=C.whole (U:=[ae 0,ae 0,ae 0]) a j;have a:C o d (R f #[ae 0,ae 0,ae 0] 129::_) w:=a;refine bD 1 j ⟨_,dr results204 j j j j a.bz,?_⟩
  have x:s.b3 I=(s.gl I.p p (iM I),(0,0,0),[p.mark I.p (iM I)]):=by
   unfold bJ.b3;refine(aI (by rw [fw] at n;exact n)).trans ((aI (by rw [fw] at q;exact q)).trans ?_);rw [J];refine(aI (by simpa using P)).trans ((if_neg (by simpa using Y)).trans ?_);unfold bJ.ends;rw [a6 Z]
  rw [x];have a:C o d [bV aU s.now {c with marks:=v1},ay 299 g ah bZ,H1,cq aN p.shut (.map none),y,ak,ag,W,F] w:=a.as;have u:=ap p.shut _ ⟨aN,.map none,[],j,⟨j,j⟩,j⟩;exact⟨_,_,F,j,Q,⟨{c with marks:=v1},ay 299 g ah bZ++(H1++((cq aN p.shut (.map none)++[])++y)),ak,ag,W,⟨⟨g,ah,bZ,O,_,S,T,u,j⟩,aD,aB,m.answers⟩,j⟩,C.perm (A:=[bV aU s.now {c with marks:=v1},ay 299 g ah bZ,H1,cq aN p.shut (.map none),y,ak,ag,W,F]) a (by simp [bJ.gl])⟩
 have z:=x3 (aU:=aU) (aN:=aN) (now:=s.now) (c:=c) (p:=p) (cr:=cr) (I:=I) m.marks m.fE (by have:=L.marks;omega) a.ours;refine bk 0 z j (λr w⟨v,dt⟩=>?_);obtain⟨_,V,E⟩:=dt.resolve_left (λh=>Z ⟨h.1,h.2.1⟩);subst V;have a:=a.b2 E;refine am 8 j (cN (c:= #[ae (if(⟨iM I,I.p,I.e,I.t⟩:cb)∈s.fE then 0 else 6),ae 0,ae 0]) j j j (λ_=>by kernel_rfl) ?_);refine b6 1 (a.bc f) j j j j j (λw a=>?_);have a:=C.whole (U:=[ae (if(⟨iM I,I.p,I.e,I.t⟩:cb)∈s.fE then 0 else 6),ae 0,ae 0]) a j;have a:C o d (R f #[ae (if(⟨iM I,I.p,I.e,I.t⟩:cb)∈s.fE then 0 else 6),ae 0,ae 0] 129::_) w:=a;refine bD 1 j ⟨_,dr results204 j j j j a.bz,?_⟩
 have x:s.b3 I=(s,((if(⟨iM I,I.p,I.e,I.t⟩:cb)∈s.fE then 0 else 6),0,0),[]):=by
  unfold bJ.b3;refine(aI (by rw [fw] at n;exact n)).trans ((aI (by rw [fw] at q;exact q)).trans ?_);rw [J];refine(aI (by simpa using P)).trans ((if_neg (by simpa using Y)).trans ?_);unfold bJ.ends;rw [aI Z];split<;>rfl
 rotate_left
 all_goals
  rw [x];have a:C o d [bV aU s.now c,ay 299 g ah bZ,H1,cq aN p cr,K,y,M,D,W,[]] w:=(C.empty a).as;have u:=ap p _ ⟨aN,cr,K,j,aw,j⟩;rw [sE J] at u;exact⟨_,_,[],j,eH.nil,⟨c,ay 299 g ah bZ++(H1++((cq aN p cr++K)++y)),M,D,W,⟨⟨g,ah,bZ,O,_,S,T,u,j⟩,m.marks,m.fE,m.answers⟩,j⟩,C.perm (A:=[bV aU s.now c,ay 299 g ah bZ,H1,cq aN p cr,K,y,M,D,W,[]]) a (by simp)⟩
theorem FP(l:List ((Int×Int)×(Int×Int×Int)))(k:Int×Int):(aZ (nX l) k).getD (kz (0,0,0))=kz ((aZ l k).getD (0,0,0)):=by
 unfold nX;rw [nt];cases aZ l k<;>rfl
theorem zb(l:List ((Int×Int)×(Int×Int×Int)))(k:Int×Int):(aZ (nX l) k).isSome=(aZ l k).isSome:=by
 unfold nX;rw [nt];cases aZ l k<;>rfl
theorem xb{o:World}{aU:Nat}{s:bJ}{G:List Chunk}{I:bF}(Y:k1 aU s G){N:Nat}(aA:s.ok N)(ak:N<=10000)(d:Own [G] o):Calls prog 151 #[ab aU,.agg I.cs.toArray] o λr w=>∃v ai m,r= .tuple #[kz (s.apply I).2.1,v]/\eH v (s.apply I).2.2 m/\k1 aU (s.apply I).1 ai/\C o (av [G]) [ai,m] w:=by
 have O:=Y;obtain⟨c,g8,M,D,W,aB,L⟩:=Y;obtain⟨e,X⟩:∃e,e=av [G]:=⟨_,j⟩;rw [<-X];have d:C o e [G] o:=X▸d;refine eV func151 (bL 2 d j j (λh w d=>?_));have d:C o e (bE h I::_) w:=d;refine b7 0 d j (λg w d=>?_);have d:C o e [R g #[ae 0,ae 0,ae 0] 129,bE h I,G] w:=d;refine bM 4 (U:=I.cs) j j j (bn (C.aj (b:=h) d)) (bk 0 (uN (I:=I)) j (λr w⟨aF,aD,T,aE,P⟩=>?_));subst T;have d:=d.aL P;refine am 10 j (bS 20 (.bool false) j (aG Value.bool (j)) ?_);refine bm 3 j j (λJ=>?_) (λJ=>?_)
 .have az:gV I=false:=vL J;refine am 2 j (cN (c:= #[ae 6,ae 0,ae 0]) j j j (λ_=>by kernel_rfl) ?_);refine b6 0 (d.bc g) j j j j j (λw d=>?_);have d:=C.whole (U:=[ae 6,ae 0,ae 0]) d j;have d:C o e (R g #[ae 6,ae 0,ae 0] 129::_) w:=d;refine bD 1 j ⟨_,dr results151 j j j j d.bz,?_⟩
  have u:s.apply I=(s,(6,0,0),[]):=by
   unfold bJ.apply;exact a6 az
  rw [u];exact⟨_,G,[],j,eH.nil,O,(C.empty d).as⟩
 have S:gV I=true:=vM J;refine ar 4 j (ax (C.aj (b:=h) d) j) (ar 1 j (ax (C.aj (b:=h) d) j) (cN (c:= #[ae I.c,ae I.s]) j j j (λ_=>by kernel_rfl) (b7 0 d j (λf w d=>b6 0 (d.bc f) j j j j j (λw d=>?_)))));have d:=C.whole (U:=[ae I.c,ae I.s]) d j;have d:C o e (R f #[ae I.c,ae I.s] 323::_) w:=d;rw [L] at d;have d:C o e [bV aU s.now c++(g8++(M++(D++W))),R f #[ae I.c,ae I.s] 323,R g #[ae 0,ae 0,ae 0] 129,bE h I] _:=d.as;have d:C o e [bV aU s.now c,g8,M,D,W,R f #[ae I.c,ae I.s] 323,R g #[ae 0,ae 0,ae 0] 129,bE h I] _:=d.qR;obtain⟨n,t,ap,rfl,au⟩:=aB.answers;have d:C o e ([bV aU s.now c,R f #[ae I.c,ae I.s] 323,[(n,t)]]++_) _:=d.front;have d:=d.drew;refine bt 2 j (λw=>∃ad,C o e ([bV aU s.now c,R f #[ae I.c,ae I.s] 323,[(n,t)]]++ad) w) ⟨_,d⟩ (af 0 3 j (a8 3 j a1 (aG some ap) (aT 4 j (λw⟨_,d⟩=>c4 (U:=[ae I.c,ae I.s]) j j j (bn (C.aj (b:=f) d))) (aT 5 j (λw⟨_,d⟩=>tH (key:=k8) (k:=(I.c,I.s)) au (C.aj (b:=n) d) j j) (af 6 3 j (aR 9 j (ew d j j (λH w d=>?_))))))));have d:C o e ([bV aU s.now c,R f #[ae I.c,ae I.s] 323,[(n,t)]]++_) w:=d.front;refine an ⟨⟨_,d⟩,?_⟩;obtain⟨a,aa⟩:∃a,a=((aZ s.answers (I.c,I.s)).getD (0,0,0)):=⟨_,j⟩;refine iY 37 (kz a) j (by rw [aa];exact FP _ _) (aR 10 j (c2 (d.bc H) j j j j j bG (λw d=>?_)));have d:=C.whole (U:=[ae a.1,ae a.2.1,ae a.2.2]) d j;have d:C o e (R H #[ae a.1,ae a.2.1,ae a.2.2] 129::_) w:=d;have d:C o e ([bV aU s.now c,R f #[ae I.c,ae I.s] 323,[(n,t)]]++_) w:=d.front;refine an ⟨⟨_,d⟩,?_⟩;refine af 11 1 j (bK (bm 3 j j (λK=>?_) (λK=>?_)))
 .refine bM 2 (U:=[ae a.1,ae a.2.1,ae a.2.2]) j j j (bn (C.aj (b:=H) d)) (b6 0 (d.bc g) j j j j j (λw d=>?_));have d:=C.whole (U:=[ae a.1,ae a.2.1,ae a.2.2]) d j;have d:C o e (R g #[ae a.1,ae a.2.1,ae a.2.2] 129::_) w:=d;refine bD 1 j ⟨_,dr results151 j j j j d.bz,?_⟩
  obtain⟨F,Z⟩:∃F,aZ s.answers (I.c,I.s)=some F:=by
   have q:=K;rw [zb] at q;exact ha.1 q
  have ao:a=F:=by rw [aa,Z];rfl
  have u:s.apply I=(s,a,[]):=by
   unfold bJ.apply;rw [aI (by rw [S];decide),Z,ao]
  rw [u];refine⟨_,G,[],j,eH.nil,O,?_⟩;rw [L];exact C.perm (A:=[bV aU s.now c,g8,M,D,[(n,t)],[]]) (C.empty d).as (by simp)
 refine bM 4 (U:=I.cs) j j j (bn (C.aj (b:=h) d)) ?_;have d:C o e [G,R g #[ae 0,ae 0,ae 0] 129,bE h I,R f #[ae I.c,ae I.s] 323] w:=by rw [L];exact C.perm (A:=[bV aU s.now c,g8,M,D,[(n,t)],R g #[ae 0,ae 0,ae 0] 129,bE h I,R f #[ae I.c,ae I.s] 323]) d.as (by simp)
 have aq:=DT (I:=I) O aA ak S d.ours;refine bk 0 aq j (λr w⟨v,ai,m,T,al,ah,P⟩=>?_);subst T;have d:=d.b2 P;refine b7 3 d j (λi w d=>b6 0 (d.bc i) j j j j j (λw d=>?_));have d:=C.whole (U:=[ae (s.b3 I).2.1.1,ae (s.b3 I).2.1.2.1,ae (s.b3 I).2.1.2.2]) d j;have d:C o e (R i #[ae (s.b3 I).2.1.1,ae (s.b3 I).2.1.2.1,ae (s.b3 I).2.1.2.2] 129::_) w:=d;obtain⟨aV,B,z,y,ag,E,rfl⟩:=ah;have d:C o e [bV aU (s.b3 I).1.now aV++(B++(z++(y++ag))),R i #[ae (s.b3 I).2.1.1,ae (s.b3 I).2.1.2.1,ae (s.b3 I).2.1.2.2] 129,m,R f #[ae I.c,ae I.s] 323,R g #[ae 0,ae 0,ae 0] 129,bE h I] _:=d.as;have d:=d.qR;obtain⟨p,V,ac,rfl,aw⟩:=E.answers;have d:C o e ([bV aU (s.b3 I).1.now aV,R f #[ae I.c,ae I.s] 323,R i #[ae (s.b3 I).2.1.1,ae (s.b3 I).2.1.2.1,ae (s.b3 I).2.1.2.2] 129,[(p,V)]]++_) _:=d.front;have d:=d.drew;refine bt 2 j (λw=>∃ad,C o e ([bV aU (s.b3 I).1.now aV,R f #[ae I.c,ae I.s] 323,R i #[ae (s.b3 I).2.1.1,ae (s.b3 I).2.1.2.1,ae (s.b3 I).2.1.2.2] 129,[(p,V)]]++ad) w) ⟨_,d⟩ (af 0 3 j (a8 3 j a1 (aG some ac) (aT 4 j (λw⟨_,d⟩=>c4 (U:=[ae I.c,ae I.s]) j j j (bn (C.aj (b:=f) d))) (aT 5 j (λw⟨_,d⟩=>c4 (U:=[ae (s.b3 I).2.1.1,ae (s.b3 I).2.1.2.1,ae (s.b3 I).2.1.2.2]) j j j (bn (C.aj (b:=i) d))) (dA 6 j (jy (key:=k8) (k:=(I.c,I.s)) aw (d.to [(p,V)]) j j j j (λx w Q d=>?_)))))))
 have Q:cg k8 x (nX (cj (s.b3 I).1.answers (I.c,I.s) (s.b3 I).2.1)):=by
  unfold nX;rw [<-vx];exact Q
 have d:C o e [bV aU (s.b3 I).1.now aV,B,z,y,[(p,x)],R i #[ae (s.b3 I).2.1.1,ae (s.b3 I).2.1.2.1,ae (s.b3 I).2.1.2.2] 129,m,R f #[ae I.c,ae I.s] 323,R g #[ae 0,ae 0,ae 0] 129,bE h I] w:=d.as;refine an (cU (bM 2 (U:=[ae (s.b3 I).2.1.1,ae (s.b3 I).2.1.2.1,ae (s.b3 I).2.1.2.2]) j j j (bn (C.aj (b:=i) d)) (b6 1 (d.bc g) j j j j j (λw d=>?_))));have d:=C.whole (U:=[ae (s.b3 I).2.1.1,ae (s.b3 I).2.1.2.1,ae (s.b3 I).2.1.2.2]) d j;have d:C o e (R g #[ae (s.b3 I).2.1.1,ae (s.b3 I).2.1.2.1,ae (s.b3 I).2.1.2.2] 129::_) w:=d;refine bD 1 j ⟨_,dr results151 j j j j d.bz,?_⟩
 have ay:aZ s.answers (I.c,I.s)=none:=by
  have q:=K;rw [zb] at q;cases aC:aZ s.answers (I.c,I.s) with
  |none=>rfl
  |some _=>rw [aC] at q;cases q
 have u:s.apply I=({(s.b3 I).1 with answers:=cj (s.b3 I).1.answers (I.c,I.s) (s.b3 I).2.1},(s.b3 I).2.1,(s.b3 I).2.2):=by
  unfold bJ.apply;rw [aI (by rw [S];decide),ay]
 rw [u];have d:C o e [bV aU (s.b3 I).1.now aV,B,z,y,[(p,x)],m] w:=d.as;exact⟨v,_,m,j,al,⟨aV,B,z,y,[(p,x)],⟨E.l,E.marks,E.fE,⟨p,x,ac,j,Q⟩⟩,j⟩,d.yP⟩
theorem sD{α:Type}:∀{m:List (Int×α)}{k:Int}{v:α},k∈m.map Prod.fst->(cj m k v).map Prod.fst=m.map Prod.fst
 |[],_,_,h=>by simp at h
 |(J,u)::r,k,v,h=>by
  simp only [cj];split
  .rename_i he;simp [he]
  .rename_i a;simp only [jW]
   rw [sD (by
    rcases g1.1 (show k∈J::r.map Prod.fst from h) with h|h
    ·exact absurd h.symm a
    ·exact h)]
theorem FQ{α:Type}{m:List (Int×α)}{k:Int}{a:α}(h:aZ m k=some a):k∈m.map Prod.fst:=dV.2 ⟨_,hS h,j⟩
theorem dy.ok.shut{now:Int}{p:dy}(h:p.ok now):p.shut.ok now:=⟨h.b5,h.last,h.fl,λh=>by cases h⟩
theorem ph{α:Type}{P:α->Prop}{m:List (Int×α)}{k:Int}{v:α}(h:∀q∈m,P q.2)(c:P v):∀q∈cj m k v,P q.2:=λq b=>by
 rcases i5 b with a|a
 .exact h q a
 .rw [a];exact c
theorem bJ.ok.fO{N:Nat}:∀(l:List (Int×dy))(a:bJ×List cb),a.1.cP.length<=8->(∀q∈a.1.cP,q.2.ok a.1.now)->(∀p∈l,p.1∈a.1.cP.map Prod.fst/\p.2.ok a.1.now)->((l.foldl (bJ.fO N) a).1.cP.length<=8/\∀q∈(l.foldl (bJ.fO N) a).1.cP,q.2.ok a.1.now)
 |[],a,f,b,_=>⟨f,b⟩
 |p::r,a,f,b,c=>by
  rw [iC];obtain⟨h,i⟩:=c p (by simp);by_cases g:p.2.dg=true/\5<=(N:Int)-p.2.fl
  .have e:bJ.fO N a p=(a.1.gl p.1 p.2 3,a.2++[p.2.mark p.1 3]):=a6 g;rw [e];have aa:(cj a.1.cP p.1 p.2.shut).map Prod.fst=a.1.cP.map Prod.fst:=sD h;have j:(cj a.1.cP p.1 p.2.shut).length=a.1.cP.length:=by have:=aG List.length aa;simpa using this
   exact bJ.ok.fO r (a.1.gl p.1 p.2 3,_) (by show(cj _ _ _).length<=8;omega) (ph (P:=dy.ok a.1.now) b i.shut) (λq d=>⟨by show q.1∈(cj _ _ _).map Prod.fst;rw [aa];exact(c q (by simp [d])).1,(c q (by simp [d])).2⟩)
  .have e:bJ.fO N a p=a:=aI g;rw [e];exact bJ.ok.fO r a f b (λq d=>c q (by simp [d]))
theorem bJ.ok.f9{N:Nat}{s:bJ}(h:s.ok N):(s.f9).1.ok (N+1):=by
 have aM:=bJ.ql (now:=s.now+1) (dd s.cP) (({s with now:=s.now+1}:bJ),[]);have aJ:0<=s.now:=h.now.1;obtain⟨K,e⟩:∃K:Nat,(K:Int)=s.now+1:=⟨(s.now+1).toNat,by omega⟩
 have b:=bJ.ok.fO (N:=K) (dd s.cP) (({s with now:=s.now+1}:bJ),[]) h.cP (λq c=>(h.kS q c).mono (by show s.now<=s.now+1;omega)) (λp a=>by
  have a:=g0.1 a;exact⟨dV.2 ⟨p,a,j⟩,(h.kS p a).mono (by show s.now<=s.now+1;omega)⟩)
 rw [e] at b
 have f:(s.f9).1.marks.length<=s.marks.length+8:=ek aM.2.2.1 (by
  rw [hQ];have:=h.cP;show s.marks.length+_<=_;omega)
 have d:(s.f9).1.now=s.now+1:=aM.1;exact⟨b.1,λq c=>by rw [d];exact b.2 q c,by have:=h.marks;omega,by rw [d];exact⟨by omega,by have:=h.now.2;omega⟩⟩
theorem bJ.ok.de{N:Nat}{s:bJ}(h:s.ok N)(I:bF):(s.de I).1.ok (N+1):=by
 unfold bJ.de;cases aJ:s.named I.ep with
 |none=>
  dsimp only;split
  .exact h.mono (ex _)
  .rename_i b;refine⟨?_,?_,?_,?_⟩
   .have:=my s.cP (s.cP.length:Int) (dy.new I.ep);show(cj _ _ _).length<=8;omega
   .exact ph (P:=dy.ok s.now) h.kS ⟨⟨h6 _,show(0:Int)<=100 by decide⟩,⟨h6 _,show(0:Int)<=100 by decide⟩,⟨h6 _,h.now.1⟩,λh=>by cases h⟩
   .have:=h.marks;simp only [b0,List.length_singleton];omega
   .exact⟨h.now.1,by have:=h.now.2;show s.now<=_;omega⟩
 |some d=>
  obtain⟨n,p⟩:=d;have c:=(bJ.zq aJ).1;have a:p.ok s.now:=h.kS _ c;have aa:n∈s.cP.map Prod.fst:=dV.2 ⟨_,c,j⟩;have b:∀v,(cj s.cP n v).length<=8:=λv=>by have:=aG List.length (sD (v:=v) aa);have e:=h.cP;simp only [ff] at this;omega
  dsimp only;split
  .exact h.mono (ex _)
  .rename_i he;split
   .refine⟨b _,ph (P:=dy.ok s.now) h.kS ⟨?_,⟨h6 _,show(0:Int)<=100 by decide⟩,a.fl,λh=>by cases h⟩,?_,?_⟩
    .have:=a.b5;show 0<=p.b5+1/\p.b5+1<=100;omega
    .have:=h.marks;simp only [b0,List.length_singleton];omega
    .exact⟨h.now.1,by have:=h.now.2;show s.now<=_;omega⟩
   .refine⟨b _,ph (P:=dy.ok s.now) h.kS ⟨?_,⟨h6 _,show(0:Int)<=100 by decide⟩,a.fl,a.parts⟩,?_,?_⟩
    .have:=a.b5;show 0<=p.b5+1/\p.b5+1<=100;omega
    .have:=h.marks;simp only [b0,List.length_singleton];omega
    .exact⟨h.now.1,by have:=h.now.2;show s.now<=_;omega⟩
theorem dy.ok.add{now:Int}{p:dy}{I:bF}(h:p.ok now)(aJ:0<=now):(p.add now I).1.ok now:=by
 unfold dy.add;split
 .exact⟨h.b5,h.last,h.fl,λ_=>rfl⟩
 .split
  .exact h
  .split
   .exact h
   .split
    .exact h
    .rename_i a b c d;have:=h.last;exact⟨h.b5,⟨by show 0<=I.t;omega,by show I.t<=100;omega⟩,⟨aJ,h6 _⟩,λ_=>rfl⟩
theorem bJ.ok.b3{N:Nat}{s:bJ}(h:s.ok N)(I:bF):(s.b3 I).1.ok (N+1):=by
 unfold bJ.b3;split
 .exact h.de I
 .split
  .exact h.f9
  .cases a:aZ s.cP I.p with
   |none=>exact h.mono (ex _)
   |some p=>
    dsimp only;have aa:I.p∈s.cP.map Prod.fst:=FQ a;have c:p.ok s.now:=h.kS _ (hS a);have b:∀v,(cj s.cP I.p v).length<=8:=λv=>by have:=aG List.length (sD (v:=v) aa);have d:=h.cP;simp only [ff] at this;omega
    split
    .exact h.mono (ex _)
    .split
     .exact⟨b _,ph (P:=dy.ok s.now) h.kS (c.add h.now.1),by have:=h.marks;show s.marks.length<=_;omega,⟨h.now.1,by have:=h.now.2;show s.now<=_;omega⟩⟩
     .unfold bJ.ends;split
      .refine⟨b _,ph (P:=dy.ok s.now) h.kS c.shut,?_,⟨h.now.1,by have:=h.now.2;show s.now<=_;omega⟩⟩;have:=h.marks;show(s.marks++[_]).length<=_;simp only [b0,List.length_singleton];omega
      .split<;>exact h.mono (ex _)
theorem bJ.ok.apply{N:Nat}{s:bJ}(h:s.ok N)(I:bF):(s.apply I).1.ok (N+1):=by
 unfold bJ.apply;split
 .exact h.mono (ex _)
 .split
  .exact h.mono (ex _)
  .exact{h.b3 I with}
theorem bJ.lo(N:Nat):bJ.new.ok N:=⟨b4 _,(by intro q a;cases a),b4 _,⟨h6 _,by show(0:Int)<=N;omega⟩⟩
theorem bJ.It{N:Nat}{s:bJ}(h:s.ok N):(s.f9).2.length<=8:=by
 have aM:=bJ.ql (now:=s.now+1) (dd s.cP) (({s with now:=s.now+1}:bJ),[]);refine ek aM.2.2.2 ?_;rw [hQ];have:=h.cP;show 0+_<=8;omega
theorem bJ.uK{N:Nat}{s:bJ}(h:s.ok N)(I:bF):(s.b3 I).2.2.length<=8:=by
 unfold bJ.b3;split
 .unfold bJ.de;split
  .split<;>simp
  .split
   .simp
   .split<;>simp
 .split
  .exact bJ.It h
  .split
   .simp
   .split
    .simp
    .split
     .simp
     .unfold bJ.ends;split
      .simp
      .split<;>simp
theorem bJ.xc{N:Nat}{s:bJ}(h:s.ok N)(I:bF):(s.apply I).2.2.length<=8:=by
 unfold bJ.apply;split
 .simp
 .split
  .simp
  .exact bJ.uK h I
structure bo where
 ao:Int
 s:aF
 c:bJ
 dw:Nat
 aH:List cb
 answers:List (Int×(Int×Int×Int))
def bo.new(ao:Int):bo:=⟨ao,aF.new ao,bJ.new,0,[],[]⟩
def fh(c s:Int):Int:=IntKind.i64.wrap (IntKind.i64.wrap (c*1048577)+s)
abbrev ord(b:List UInt8):bF:=mC (b1 b 2)
def bo.gT(x:bo)(b:List UInt8):bo:=
 if j8 (b1 b 2)=true then{x with c:=(x.c.apply (ord b)).1,answers:=cj x.answers (fh (ord b).c (ord b).s) (x.c.apply (ord b)).2.1,aH:=x.aH++(x.c.apply (ord b)).2.2.filter (·.ok)} else x
def bo.ix(x:bo):bo:={((x.s.log.map Prod.fst).drop x.dw).foldl bo.gT x with dw:=x.s.log.length}
def bo.ask(g:al)(x:bo)(I:bF):bo×List aW×Int:=
 if gV I=true then(bo.ix {x with s:=(x.s.eQ g (jo I)).1},(x.s.eQ g (jo I)).2.1,(x.s.eQ g (jo I)).2.2) else(x,[],1)
def bo.take(g:al)(x:bo)(m:aW):bo×List aW:=(bo.ix {x with s:=(x.s.take g m).1},(x.s.take g m).2)
def bo.tick(g:al)(x:bo):bo×List aW:=(bo.ix {x with s:=(x.s.tick g).1},(x.s.tick g).2)
structure bo.ok(g:al)(N:Nat)(x:bo):Prop where
 s:x.s.ok g N
 c:x.c.ok x.dw
 aH:x.aH.length<=8*x.dw
 dw:x.dw<=x.s.log.length
 ao:x.s.ao=x.ao
def jT(g:al)(ao:Int):List Value->List cb->List Chunk->Prop
 |[],[],G=>G=[]
 |u::us,m::ms,G=>∃ai aA,G=ai++aA/\et u [dq g m ao] ai/\jT g ao us ms aA
 |[],_::_,_=>False
 |_::_,[],_=>False
abbrev nZ(us:List Value)(ms:List cb):List Value:=(us.zip ms).flatMap λe=>e.2.cs++[e.1]
def mM(g:al)(ao:Int)(v:Value)(ms:List cb)(G:List Chunk):Prop:=∃ag H us,G=ag++H/\Row 127 5 v ms.length (nZ us ms) ag/\jT g ao us ms H
theorem jT.len{g:al}{ao:Int}:∀{us:List Value}{ms:List cb}{G:List Chunk},jT g ao us ms G->us.length=ms.length
 |[],[],_,_=>rfl
 |[],_::_,_,h=>h.elim
 |_::_,[],_,h=>h.elim
 |_::us,_::ms,_,⟨_,_,_,_,h⟩=>by simp [h.len]
theorem jT.app{g:al}{ao:Int}:∀{us d:List Value}{ms c:List cb}{G a:List Chunk},jT g ao us ms G->jT g ao d c a->jT g ao (us++d) (ms++c) (G++a)
 |[],_,[],_,_,_,h,b=>by have h:_=[]:=h;subst h;exact b
 |[],_,_::_,_,_,_,h,_=>h.elim
 |_::_,_,[],_,_,_,h,_=>h.elim
 |_::_,_,_::_,_,_,a,⟨ai,aA,rfl,e,h⟩,b=>⟨ai,aA++a,by simp [dJ],e,h.app b⟩
theorem jT.one{g:al}{ao:Int}{u:Value}{m:cb}{G:List Chunk}(h:et u [dq g m ao] G):jT g ao [u] [m] G:=⟨G,[],by simp,h,j⟩
def nN(v:Value)(a:Int×Int×Int)(G:List Chunk):Prop:=v=kz a/\G=[]
structure k5 where
 ba:Nat
 fc:Nat
 aH:Value
 answers:Value
abbrev pE(g:al)(x:bo)(c:k5):List Value:=[g.p,ae x.ao,.pointer (some ⟨c.ba,0,none⟩),.pointer (some ⟨c.fc,0,none⟩),ae (x.dw:Int),c.aH,c.answers]
abbrev dO(g:al)(a:Nat)(x:bo)(c:k5):List Chunk:=R a (pE g x c).toArray 85
structure Cb(g:al)(x:bo)(c:k5)(bg eB c1 c5:List Chunk):Prop where
 s:iv g c.ba x.s bg
 k:k1 c.fc x.c eB
 aH:mM g x.ao c.aH x.aH c1
 answers:fv 237 nN c.answers x.answers c5
def hP(g:al)(a:Nat)(x:bo)(G:List Chunk):Prop:=∃(c:k5)(bg eB c1 c5:List Chunk),Cb g x c bg eB c1 c5/\G=dO g a x c++(bg++(eB++(c1++c5)))
theorem C.sK{g:al}{a:Nat}{x:bo}{c:k5}{bg eB c1 c5:List Chunk}{ad:List (List Chunk)}{o w:World}{F:List Nat}(h:C o F ((dO g a x c++(bg++(eB++(c1++c5))))::ad) w):C o F (dO g a x c::bg::eB::c1::c5::ad) w:=h.perm (by simp)
theorem C.pa{g:al}{a:Nat}{x:bo}{c:k5}{bg eB c1 c5:List Chunk}{ad:List (List Chunk)}{o w:World}{F:List Nat}(h:C o F (dO g a x c::bg::eB::c1::c5::ad) w):C o F ((dO g a x c++(bg++(eB++(c1++c5))))::ad) w:=h.perm (by simp)
theorem Rd.from{w:World}{A:Option Addr}{us:List Value}{n c k:Nat}(h:Rd w A us)(f:Flat A)(aJ:us.length=n)(aa:k<=n)(g:n<=c):Rd w (if c=k then A else A.map (·.add (k*1))) (us.drop k):=λi v d=>by
 rw [lL] at d;have l:k+i<us.length:=(fk.1 d).1;rw [aI (by omega)];obtain⟨a,e,ia⟩:=h (k+i) v d;rcases f with rfl|⟨b,I,rfl⟩
 .cases e
 .cases e;refine⟨_,j,?_⟩;rw [add_lit] at ia;show w.cell? (((⟨b,I,none⟩:Addr).add (k*1)).add i)=some v;rw [gG,add_lit,add_lit,rT];exact ia
theorem bo.Cw(x:bo)(b:List UInt8):(x.gT b).s=x.s/\(x.gT b).ao=x.ao/\(x.gT b).dw=x.dw:=by
 unfold bo.gT;split<;>exact⟨j,j,j⟩
theorem bo.qo:∀(l:List (List UInt8))(x:bo),(l.foldl bo.gT x).s=x.s/\(l.foldl bo.gT x).ao=x.ao/\(l.foldl bo.gT x).dw=x.dw
 |[],_=>⟨j,j,j⟩
 |b::r,x=>by
  rw [iC];have a:=bo.qo r (x.gT b);have c:=x.Cw b;exact⟨a.1.trans c.1,a.2.1.trans c.2.1,a.2.2.trans c.2.2⟩
theorem bo.ul:∀(l:List (List UInt8))(x:bo)(N:Nat),x.c.ok N->x.aH.length<=8*N->(l.foldl bo.gT x).c.ok (N+l.length)/\(l.foldl bo.gT x).aH.length<=8*(N+l.length)
 |[],_,_,h,a=>⟨h,a⟩
 |b::r,x,N,h,a=>by
  rw [iC,eu]
  have d:(x.gT b).c.ok (N+1)/\(x.gT b).aH.length<=8*(N+1):=by
   unfold bo.gT;split
   .refine⟨h.apply _,?_⟩;show(x.aH++_).length<=_;rw [b0];have f:=bJ.xc h (ord b);have g:=oK (·.ok) (x.c.apply (ord b)).2.2;omega
   .exact⟨h.mono (ex _),by omega⟩
  have f:=bo.ul r (x.gT b) (N+1) d.1 d.2;have e:N+(r.length+1)=N+1+r.length:=by omega
  rw [e];exact f
theorem bo.ok.ix{g:al}{N:Nat}{x:bo}(aM:x.s.ok g N)(h:x.c.ok x.dw)(i:x.aH.length<=8*x.dw)(m:x.dw<=x.s.log.length)(hm:x.s.ao=x.ao):x.ix.ok g N:=by
 obtain⟨a,f,l⟩:=bo.qo ((x.s.log.map Prod.fst).drop x.dw) x;obtain⟨b,d⟩:=bo.ul ((x.s.log.map Prod.fst).drop x.dw) x x.dw h i;have e:x.dw+((x.s.log.map Prod.fst).drop x.dw).length=x.s.log.length:=by rw [iT,ff];omega
 rw [e] at b d;unfold bo.ix;obtain⟨y,k⟩:∃y,y=((x.s.log.map Prod.fst).drop x.dw).foldl bo.gT x:=⟨_,j⟩;rw [<-k] at a f b d⊢;exact⟨by show y.s.ok g N;rw [a];exact aM,b,d,by show x.s.log.length<=y.s.log.length;rw [a];exact cI _,by show y.s.ao=y.ao;rw [a,f];exact hm⟩
theorem yQ{o:World}{c s:Int}:Calls prog 119 #[ae c,ae s] o λr w=>r=ae (fh c s)/\w=o:=by
 refine a2 func119 ?_;refine aq 10 j j ?_;exact⟨j,j⟩
theorem vF{o:World}{g:al}{ao:Int}:Calls prog 37 #[g.p,ae ao] o λr w=>∃i G,r=ab i/\hP g i (bo.new ao) G/\C o [] [G] w:=by
 have a:Own [] o:=C.start o;refine a2 func37 (bk 9 (F2 (g:=g) (ao:=ao)) j (λr w⟨ba,bg,e,aM,d⟩=>?_));subst e;have a:=a.aL d;refine bk 0 FW j (λr w⟨fc,eB,e,aa,d⟩=>?_);subst e;have a:=a.aL d;refine bk 0 F1 j (λr w⟨b,h,e,k,d⟩=>?_);subst e;have a:=a.aL d;refine cN (c:=(pE g (bo.new ao) (⟨ba,fc,.slice none 0 0,ab b⟩:k5)).toArray) j j j (λ_=>by kernel_rfl) (bL 0 a j j (λf w a=>aq 1 j j ?_));have a:C o [] (dO g f (bo.new ao) (⟨ba,fc,.slice none 0 0,ab b⟩:k5)::_) w:=a;have a:C o [] [dO g f (bo.new ao) (⟨ba,fc,.slice none 0 0,ab b⟩:k5),bg,eB,[],ay 237 b h (.map #[] 0)] w:=C.perm (A:=[dO g f (bo.new ao) (⟨ba,fc,.slice none 0 0,ab b⟩:k5),bg,eB,ay 237 b h (.map #[] 0)]) a.as (by simp);exact⟨f,_,j,⟨(⟨ba,fc,.slice none 0 0,ab b⟩:k5),bg,eB,[],_,⟨aM,aa,⟨[],[],[],j,Row.nil _ _,j⟩,fv.new k⟩,j⟩,a.pa⟩
theorem Gb{b:Bool}(h:((if b=true then(0:Int) else 2) !=0)=true):b=false:=by cases b<;>simp_all
theorem Gc{b:Bool}(h:((if b=true then(0:Int) else 2) !=0)=false):b=true:=by cases b<;>simp_all
theorem yd{α:Type}{p:α->Bool}{l:List α}{J:Nat}(h:J<l.length):(l.take (J+1)).filter p=(l.take J).filter p++(if p l[J]=true then [l[J]] else []):=by
 rw [fr h,m1];by_cases a:p l[J]=true
 .rw [a6 a];simp [a]
 .rw [aI a];simp [a]
theorem uk{o:World}{g:al}{d:Nat}{x:bo}{G:List Chunk}(bX:hP g d x G){N:Nat}(aM:x.s.ok g N)(b8:x.c.ok x.dw)(cu:x.aH.length<=8*x.dw)(cF:x.dw<=x.s.log.length)(bw:g.at o)(bz:g.ok)(aZ:g.off (av [G]))(a:Own [G] o):Calls prog 91 #[ab d] o λr w=>r= .tuple #[]/\∃ai,hP g d x.ix ai/\C o (av [G]) [ai] w:=by
 obtain⟨c,bg,eB,c1,c5,aF,rfl⟩:=bX;obtain⟨z,bd⟩:∃z,z=av [dO g d x c++(bg++(eB++(c1++c5)))]:=⟨_,j⟩;rw [<-bd] at aZ⊢;have a:C o z [dO g d x c++(bg++(eB++(c1++c5)))] o:=bd▸a;have a:=a.sK;have cL:=aM.log;have cg:(x.s.log.map Prod.fst).length=x.s.log.length:=ff _;refine a2 func91 ?_;refine ar 5 j (ax (C.aj (b:=d) a) j) ?_;obtain⟨cv,bP,cy,cA,cz,cp,bh⟩:=aF.s;have Q:=y4 (ba:=c.ba) (g:=g) (s:=x.s) (c:=cv) (L:=bP) (by have h:=a.holds (G:=bg) (by simp);rw [bh] at h;exact h.left.head) cp.log (by have h:=a.holds (G:=bg) (by simp);rw [bh] at h;exact h.right.left) aM;refine bk 0 Q j (λr w⟨cx,bV,R⟩=>?_);obtain⟨M,K,us,rfl,bj,a9⟩:=bV;obtain⟨au,aw,rfl,bW,cD⟩:=bj.form;have a:=a.aL R;have a:C o z [dO g d x c,bg,eB,c1,c5,M,K] w:=C.perm (A:=[dO g d x c,bg,eB,c1,c5,M++K]) a.as (by simp);have cq:us.length=(x.s.log.map Prod.fst).length:=a9.len;refine ar 8 j (ax (C.aj (b:=d) a) j) ?_;refine oy j j j j (show x.dw<=_ by omega) ?_
 refine cJ 3 j (ct:=Nat×Value×List Chunk×List Chunk×List Chunk) (λk=>[(0,ab d),(2,.slice au (x.s.log.map Prod.fst).length aw),(23,.slice (if aw=x.dw then au else au.map (·.add (x.dw*1))) ((x.s.log.map Prod.fst).length-x.dw) (aw-x.dw)),(24,.int .i64 ((x.s.log.map Prod.fst).length-x.dw:Nat)),(25,.int .i64 (k.1:Nat))])
  (λk w=>k.1<=(x.s.log.map Prod.fst).length-x.dw/\k1 c.fc ((((x.s.log.map Prod.fst).drop x.dw).take k.1).foldl bo.gT x).c k.2.2.1/\mM g x.ao k.2.1 ((((x.s.log.map Prod.fst).drop x.dw).take k.1).foldl bo.gT x).aH k.2.2.2.1/\fv 237 nN c.answers ((((x.s.log.map Prod.fst).drop x.dw).take k.1).foldl bo.gT x).answers k.2.2.2.2/\C o z [dO g d x {c with aH:=k.2.1},bg,k.2.2.1,k.2.2.2.1,k.2.2.2.2,M,K] w) (λk=>(x.s.log.map Prod.fst).length-x.dw-k.1) (0,c.aH,eB,c1,c5) ⟨j,j,j,j,j,aX⟩ ⟨b4 _,aF.k,aF.aH,aF.answers,a⟩ ?_
 rintro⟨i,B,eB,c1,c5⟩ w ⟨ca,aa,V,aD,a⟩;dsimp only at ca aa V aD a⊢;have aG:=bo.ul (((x.s.log.map Prod.fst).drop x.dw).take i) x x.dw b8 cu;rw [show x.dw+(((x.s.log.map Prod.fst).drop x.dw).take i).length=x.dw+i by rw [g9,iT];omega] at aG
 have aY:∀(ak:i<(x.s.log.map Prod.fst).length-x.dw),((((x.s.log.map Prod.fst).drop x.dw).take (i+1)).foldl bo.gT x)=((((x.s.log.map Prod.fst).drop x.dw).take i).foldl bo.gT x).gT ((x.s.log.map Prod.fst)[x.dw+i]'(by omega)):=λak=>by
  rw [fr (by rw [iT];omega),nR,List.getElem_drop];rfl
 obtain⟨y,bL⟩:∃y,y=((((x.s.log.map Prod.fst).drop x.dw).take i).foldl bo.gT x):=⟨_,j⟩;rw [<-bL] at aa V aD aG aY;refine bm 4 j j (λaU=>?_) (λaU=>?_)
 .have ak:i<(x.s.log.map Prod.fst).length-x.dw:=by have:=dz aU;omega
  obtain⟨_,_,e,_,_,co,b9⟩:=bj.read (a.holds (G:=M) (by simp));cases e;have cn:=Rd.from co b9 cq (show x.dw<=(x.s.log.map Prod.fst).length by omega) bW;obtain⟨b,aN⟩:∃b,b=(x.s.log.map Prod.fst)[x.dw+i]'(by omega):=⟨_,j⟩;obtain⟨bN,ci,bH,cd,cK,bF⟩:=a9.read (a.holds (G:=K) (by simp)) (x.dw+i) (by omega);rw [<-aN] at bH cd bF
  have cG:b.length<=200:=by
   obtain⟨e,he,bU⟩:=dV.1 (show b∈(x.s.log.map Prod.fst) by rw [aN];exact d9 _);rw [<-bU];exact(aM.ns e he).1
  refine am 5 j (fp j j j j cn (v:=.slice bN b.length ci) (by rw [gG,lL];exact bH) ak (λbQ a5 bu=>?_));refine ar 0 j bu ?_;have Q:=DN (c:=ci) bF (by omega);refine bk 4 Q j (λr w⟨W,R⟩=>?_);obtain⟨D,bA⟩:∃D,D=(if j8 (b1 b 2) then mC (b1 b 2) else db):=⟨_,j⟩;rw [<-bA] at W;subst W;have a:=a.aL R;have a:C o z [dO g d x {c with aH:=B},bg,eB,c1,c5,M,K] w:=a.as;refine b7 3 a j (λE w a=>?_);have a:C o z (bE E db::_) w:=a;refine b6 0 (a.bc E) j j j j j (λw a=>?_);have a:=C.whole (U:=D.cs) a j;have a:C o z (bE E D::_) w:=a;refine bm 6 j j (λeo=>?_) (λeo=>?_)
  .refine bq 2 j j j (cE i (by omega)) ?_;refine bI 1 j ?_;have b5:j8 (b1 b 2)=false:=Gb eo;have a0:y.gT b=y:=aI (by rw [b5];decide);refine⟨(i+1,B,eB,c1,c5),⟨j,j,j,j,j,aX⟩,⟨ak,?_⟩,by dsimp only;omega⟩;dsimp only;rw [aY ak,<-aN,a0];exact⟨aa,V,aD,a.as⟩
  have a:C o z ([dO g d x {c with aH:=B},bE E D]++_) _:=a.front;have a:=a.drew;have br:j8 (b1 b 2)=true:=Gc eo;have cl:D=mC (b1 b 2):=by rw [bA,a6 br]
  refine bt 2 j (λw=>∃ad,C o z ([dO g d x {c with aH:=B},bE E D]++ad) w) ⟨_,a⟩ ?_;refine af 0 3 j ?_;refine a8 3 j a1 j ?_;refine aT 4 j (λw⟨_,a⟩=>c4 (U:=D.cs) j j j (bn (C.aj (b:=E) a))) ?_;refine aO 5 9 j j ?_ ?_;have Q:=xb (I:=D) aa (N:=x.dw+i) aG.1 (by omega) (a.ours (cC:=[eB]));refine cO j j j Q (λr w⟨cw,O,P,W,az,bx,R⟩=>?_);obtain⟨a4,oY,rfl,_,_⟩:=az.form;obtain⟨ms,aE⟩:∃ms,ms=(y.c.apply D).2.2:=⟨_,j⟩;obtain⟨q,aP⟩:∃q,q=(y.c.apply D).2.1:=⟨_,j⟩;rw [<-aE] at az W;rw [<-aP] at W;subst W;have a:=a.b2 R;have a:C o z ([dO g d x {c with aH:=B},bE E D]++_) w:=a.front;refine an ⟨⟨_,a⟩,?_⟩;refine af 6 3 j ?_;refine aR 9 j ?_;refine ew a j j (λT w a=>?_);have a:C o z ([dO g d x {c with aH:=B},bE E D]++_) w:=a.front;refine an ⟨⟨_,a⟩,?_⟩;rotate_left
  refine ew a j j (λT w a=>?_);have a:C o z ([dO g d x {c with aH:=B},bE E D]++_) w:=a.front;refine an ⟨⟨_,a⟩,?_⟩;refine aR 5 j ?_;have Q:=xb (I:=D) aa (N:=x.dw+i) aG.1 (by omega) (a.ours (cC:=[eB]));refine cO j j j Q (λr w⟨cw,O,P,W,az,bx,R⟩=>?_);obtain⟨a4,oY,rfl,_,_⟩:=az.form;obtain⟨ms,aE⟩:∃ms,ms=(y.c.apply D).2.2:=⟨_,j⟩;obtain⟨q,aP⟩:∃q,q=(y.c.apply D).2.1:=⟨_,j⟩;rw [<-aE] at az W;rw [<-aP] at W;subst W;have a:=a.b2 R;have a:C o z ([dO g d x {c with aH:=B},bE E D]++_) w:=a.front;refine an ⟨⟨_,a⟩,?_⟩;refine af 6 3 j ?_;rotate_left
  all_goals
   refine aR 10 j ?_;refine c2 (a.bc T) j j j j j bG (λw a=>?_);have a:=C.whole (U:=[ae q.1,ae q.2.1,ae q.2.2]) a j;have a:C o z ([(T,.cells #[ae q.1,ae q.2.1,ae q.2.2] 129 (0,0))]::_) w:=a;have a:C o z ([dO g d x {c with aH:=B},bE E D]++_) w:=a.front;refine an ⟨⟨_,a⟩,?_⟩;refine af 11 1 j ?_;refine bK ?_;have a:C o z ([dO g d x {c with aH:=B},bE E D,[(T,.cells #[ae q.1,ae q.2.1,ae q.2.2] 129 (0,0))]]++_) _:=a.front;have a:=a.drew;refine bt 1 j (λw=>∃ad,C o z ([dO g d x {c with aH:=B},bE E D,[(T,.cells #[ae q.1,ae q.2.1,ae q.2.2] 129 (0,0))]]++ad) w) ⟨_,a⟩ ?_;refine af 0 3 j ?_;refine a8 3 j a1 j ?_;refine af 4 1 j ?_;refine a8 5 j a1 j ?_;refine af 6 1 j ?_;refine a8 7 j a1 j ?_;refine aT 9 j (λw⟨_,a⟩=>c4 (U:=[ae q.1,ae q.2.1,ae q.2.2]) j j j (bn (C.aj (b:=T) a))) ?_;refine aR 8 j ?_;refine bB j j j (yQ (c:=D.c) (s:=D.s)) (λw hw=>?_);have hw:=hw.symm;subst hw;refine an ⟨⟨_,a⟩,?_⟩;refine aR 10 j ?_;obtain⟨X,ah,bZ,cQ,H,bs,ck,cr,rfl⟩:=aD;have a:C o z [dO g d x {c with aH:=B},bE E D,[(T,.cells #[ae q.1,ae q.2.1,ae q.2.2] 129 (0,0))],bg,O,c1,ay 237 X ah bZ,H,M,K,P] _:=C.perm (A:=[dO g d x {c with aH:=B},bE E D,[(T,.cells #[ae q.1,ae q.2.1,ae q.2.2] 129 (0,0))],bg,O,c1,ay 237 X ah bZ++H,M,K,P]) a.as (by simp);have Q:=HE (k:=fh D.c D.s) (l:=[ae q.1,ae q.2.1,ae q.2.2]) j j (a.ours (cC:=[ay 237 X ah bZ])) ck;refine bS 48 (ab X) j bs ?_;refine bB j j j Q (λw⟨aA,ch,R⟩=>?_);have a:=a.b2 R;obtain⟨aB,bO,a3,bC⟩:=cr.put (k:=fh D.c D.s) (show nN (kz q) q [] from⟨j,j⟩);rw [hc] at bC;have a7:fv 237 nN c.answers (cj y.answers (fh D.c D.s) q) (ay 237 X ah aA++aB):=⟨X,ah,aA,_,aB,bs,ch,a3,j⟩;have a:C o z [dO g d x {c with aH:=B},bE E D,[(T,.cells #[ae q.1,ae q.2.1,ae q.2.2] 129 (0,0))],bg,O,c1,ay 237 X ah aA,M,K,P,H] w:=a.as
   have a:C o z [dO g d x {c with aH:=B},bE E D,[(T,.cells #[ae q.1,ae q.2.1,ae q.2.2] 129 (0,0))],bg,O,c1,ay 237 X ah aA,M,K,P,bO,aB] w:=a.perm (by
    simp only [km,m2,hc];exact .append_left _ (.append_left _ (.append_left _ (.append_left _ (.append_left _ (.append_left _ (.append_left _ (.append_left _ (.append_left _ (.append_left _ bC))))))))))
   obtain⟨Y,bf⟩:∃Y,Y=ay 237 X ah aA++aB:=⟨_,j⟩;rw [<-bf] at a7;have a:C o z [dO g d x {c with aH:=B},bE E D,[(T,.cells #[ae q.1,ae q.2.1,ae q.2.2] 129 (0,0))],bg,O,c1,Y,M,K,P] w:=C.perm (A:=[dO g d x {c with aH:=B},bE E D,[(T,.cells #[ae q.1,ae q.2.1,ae q.2.2] 129 (0,0))],bg,O,c1,ay 237 X ah aA,aB,M,K,P]) a.as (by rw [bf];simp);refine an ⟨⟨_,a⟩,?_⟩;refine bK ?_;have cM:ms.length<=8:=by rw [aE];exact bJ.xc aG.1 D
   have bv:∀e∈ms,(cb.cs e).length=4:=λ_ _=>rfl
   refine cJ 6 j (ct:=Nat×Value×List Chunk) (λk=>[(0,ab d),(2,.slice au (x.s.log.map Prod.fst).length aw),(23,.slice (if aw=x.dw then au else au.map (·.add (x.dw*1))) ((x.s.log.map Prod.fst).length-x.dw) (aw-x.dw)),(24,.int .i64 ((x.s.log.map Prod.fst).length-x.dw:Nat)),(25,.int .i64 (i:Nat)),(56,.slice a4 ms.length oY),(57,.int .i64 (ms.length:Nat)),(58,.int .i64 (k.1:Nat))])
    (λk w=>k.1<=ms.length/\mM g x.ao k.2.1 (y.aH++(ms.take k.1).filter (·.ok)) k.2.2/\C o z [dO g d x {c with aH:=k.2.1},bg,O,k.2.2,Y,M,K,P] w) (λk=>ms.length-k.1) (0,B,c1) ⟨j,j,j,j,j,j,j,j,aX⟩ ⟨b4 _,by simpa using V,a.as⟩ ?_
   rintro⟨J,B,c1⟩ w ⟨ce,V,a⟩;dsimp only at ce V a⊢;refine bm 4 j j (λaV=>?_) (λaV=>?_)
   .refine am 5 j ?_;have ap:J<ms.length:=by have:=dz aV;omega
    obtain⟨_,_,e,_,_,bD,_⟩:=az.read (a.holds (G:=P) (by simp));cases e;refine fp j j j j bD (v:=ae ms[J].k) (h8 (f:=cb.cs) (J:=0) ms bv J ap (by decide) j) ap (λbQ a5 bu=>?_);subst a5;refine bM 0 (U:=ms[J].cs) j j j (i0 (f:=cb.cs) bD bv J ap) ?_;refine b7 0 a j (λF w a=>?_);refine b6 0 (a.bc F) j j j j j (λw a=>?_);have a:=C.whole (U:=ms[J].cs) a j;have a:C o z ([(F,.cells ms[J].cs.toArray 118 (0,0))]::_) w:=a;have a:C o z ([dO g d x {c with aH:=B},[(F,.cells ms[J].cs.toArray 118 (0,0))]]++_) _:=a.front;have a:=a.drew;refine bt 1 j (λw=>∃ad,C o z ([dO g d x {c with aH:=B},[(F,.cells ms[J].cs.toArray 118 (0,0))]]++ad) w) ⟨_,a⟩ ?_;refine af 0 3 j ?_;refine a8 3 j a1 j ?_;refine aT 4 j (λw⟨_,a⟩=>c4 (U:=ms[J].cs) j j j (bn (C.aj (b:=F) a))) ?_;refine af 5 3 j ?_;refine a8 8 j a1 j ?_;refine aO 9 13 j j ?_ ?_;have Q:=sC (bw.st a aZ) bz (m:=ms[J]) (f:=x.ao);refine bB j j j Q (λw R=>?_);have a:=a.aL R;have a:C o z ([dO g d x {c with aH:=B},[(F,.cells ms[J].cs.toArray 118 (0,0))]]++_) w:=a.front;refine an ⟨⟨_,a⟩,?_⟩;refine af 10 3 j ?_;refine aR 13 j ?_;refine ew a j j (λS w a=>?_);have a:C o z ([(S,.cells l7.cs.toArray 55 (0,0))]::_) w:=a;have a:C o z ([dO g d x {c with aH:=B},[(F,.cells ms[J].cs.toArray 118 (0,0))]]++_) w:=a.front;refine an ⟨⟨_,a⟩,?_⟩;rotate_left
    refine ew a j j (λS w a=>?_);have a:C o z ([(S,.cells l7.cs.toArray 55 (0,0))]::_) w:=a;have a:C o z ([dO g d x {c with aH:=B},[(F,.cells ms[J].cs.toArray 118 (0,0))]]++_) w:=a.front;refine an ⟨⟨_,a⟩,?_⟩;refine aR 9 j ?_;have Q:=sC (bw.st a aZ) bz (m:=ms[J]) (f:=x.ao);refine bB j j j Q (λw R=>?_);have a:=a.aL R;have a:C o z ([dO g d x {c with aH:=B},[(F,.cells ms[J].cs.toArray 118 (0,0))]]++_) w:=a.front;refine an ⟨⟨_,a⟩,?_⟩;refine af 10 3 j ?_;rotate_left
    all_goals
     refine aR 14 j ?_;refine c2 (a.bc S) j j j (by simpa using(dq g ms[J] x.ao).one) (by rw [List.size_toArray];exact(dq g ms[J] x.ao).len (i3 g ms[J] x.ao)) bG (λw a=>?_);have a:=C.whole (U:=(dq g ms[J] x.ao).cs) a (by rw [(dq g ms[J] x.ao).len (i3 g ms[J] x.ao)];rfl);have a:C o z ([(S,.cells (dq g ms[J] x.ao).cs.toArray 55 (0,0))]::_) w:=a;have a:C o z ([dO g d x {c with aH:=B},[(F,.cells ms[J].cs.toArray 118 (0,0))]]++_) w:=a.front;refine an ⟨⟨_,a⟩,?_⟩;refine af 15 1 j ?_;refine bK ?_;refine bm 3 j j (λaW=>?_) (λaW=>?_)
     .have cm:ms[J].ok=true:=aW;have cP:((dq g ms[J] x.ao)).ok:=(i3 g ms[J] x.ao);obtain⟨aS,ag,U,rfl,bY,bb⟩:=V;have cH:=oK (·.ok) (ms.take J);have cN:(ms.take J).length<=8:=by rw [g9];omega
      have a:C o z [dO g d x {c with aH:=B},[(F,.cells ms[J].cs.toArray 118 (0,0))],[(S,.cells (dq g ms[J] x.ao).cs.toArray 55 (0,0))],bg,O,aS,ag,Y,M,K,P] _:=C.perm (A:=[dO g d x {c with aH:=B},[(F,.cells ms[J].cs.toArray 118 (0,0))],[(S,.cells (dq g ms[J] x.ao).cs.toArray 55 (0,0))],bg,O,aS++ag,Y,M,K,P]) a.as (by simp);have a:=a.drew;refine bt 0 j (λw=>∃ad,C o z ([dO g d x {c with aH:=B},[(F,.cells ms[J].cs.toArray 118 (0,0))],[(S,.cells (dq g ms[J] x.ao).cs.toArray 55 (0,0))]]++ad) w) ⟨_,a⟩ ?_;refine af 0 4 j ?_;refine a8 4 j a1 j ?_;refine aT 5 j (λw⟨_,a⟩=>c4 (U:=ms[J].cs) j j j (bn (C.aj (b:=F) a))) ?_;refine aT 6 j (λw⟨_,a⟩=>c4 (U:=(dq g ms[J] x.ao).cs) j j ((dq g ms[J] x.ao).len (i3 g ms[J] x.ao)) (bn (C.aj (b:=S) a))) ?_;refine aR 7 j ?_;refine gi (U:=(dq g ms[J] x.ao).cs) a j j j ((dq g ms[J] x.ao).len (i3 g ms[J] x.ao)) (by decide) (by decide) (λZ w a=>?_);have a:C o z ([dO g d x {c with aH:=B},[(F,.cells ms[J].cs.toArray 118 (0,0))],[(S,.cells (dq g ms[J] x.ao).cs.toArray 55 (0,0))]]++_) w:=a.front;refine an ⟨⟨_,a⟩,?_⟩;refine aT 8 j (λw _=>e3 (c:=([ae ms[J].k,ae ms[J].p,ae ms[J].e,ae ms[J].t,Value.slice (some ⟨Z,0,none⟩) 1 1]).toArray) j (λ_=>by kernel_rfl)) ?_;refine aR 9 j ?_;refine gi (U:=([ae ms[J].k,ae ms[J].p,ae ms[J].e,ae ms[J].t,Value.slice (some ⟨Z,0,none⟩) 1 1])) a j j j j bG bG (λbR w a=>?_);have aJ:=bn (C.aj (b:=bR) a);have a:C o z ([dO g d x {c with aH:=B},[(F,.cells ms[J].cs.toArray 118 (0,0))],[(S,.cells (dq g ms[J] x.ao).cs.toArray 55 (0,0))]]++_) w:=a.front;refine an ⟨⟨_,a⟩,?_⟩;refine aR 10 j ?_;refine dR (a.to aS) bY j j (by decide) j j j (m:=1) (news:=([ae ms[J].k,ae ms[J].p,ae ms[J].e,ae ms[J].t,Value.slice (some ⟨Z,0,none⟩) 1 1])) j aJ (by intro u hu;simp [cb.cs] at hu;rcases hu with rfl|rfl|rfl|rfl|rfl<;>rfl) (by simp only [List.length_append];omega) (by unfold maxLen;simp only [List.length_append];omega) (λaK aC w bi a=>?_);have a:C o z ([dO g d x {c with aH:=B},[(F,.cells ms[J].cs.toArray 118 (0,0))],[(S,.cells (dq g ms[J] x.ao).cs.toArray 55 (0,0))]]++_) w:=a.front;refine an ⟨⟨_,a⟩,?_⟩;refine af 11 2 j ?_;refine dA 13 j ?_;refine cB (a.bc d) j j j bi.one bG (λw a=>?_);have a:C o z (dO g d x {c with aH:=aK}::_) w:=a;obtain⟨ac,be⟩:∃ac:List Chunk,ac=[(Z,.cells (dq g ms[J] x.ao).cs.toArray 55 (0,0))]:=⟨_,j⟩;rw [<-be] at a
      have b3:et (.slice (some ⟨Z,0,none⟩) 1 1) [(dq g ms[J] x.ao)] ac:=by
       rw [be];have:=Row.full (e:=55) (size:=68) (b:=Z) (n:=1) (cur:=(dq g ms[J] x.ao).cs.toArray) (by unfold maxLen;omega) (by rw [List.size_toArray,(dq g ms[J] x.ao).len (i3 g ms[J] x.ao)]);show Row 55 68 _ 1 (vcs [(dq g ms[J] x.ao)]) _;rw [show vcs [(dq g ms[J] x.ao)]=(dq g ms[J] x.ao).cs by simp [vcs]];simpa using this
      have a3:mM g x.ao aK (y.aH++(ms.take J).filter (·.ok)++[ms[J]]) (aC++(ag++ac)):=by
       refine⟨aC,ag++ac,U++[.slice (some ⟨Z,0,none⟩) 1 1],j,?_,bb.app (jT.one b3)⟩;rw [b0,List.length_singleton]
       have e:nZ (U++[.slice (some ⟨Z,0,none⟩) 1 1]) (y.aH++(ms.take J).filter (·.ok)++[ms[J]])=nZ U (y.aH++(ms.take J).filter (·.ok))++([ae ms[J].k,ae ms[J].p,ae ms[J].e,ae ms[J].t,Value.slice (some ⟨Z,0,none⟩) 1 1]):=by
        unfold nZ;rw [List.zip_append bb.len,List.flatMap_append];simp
       rw [e];exact bi
      have a:C o z [dO g d x {c with aH:=aK},bg,O,aC++(ag++ac),Y,M,K,P] w:=C.perm (A:=[dO g d x {c with aH:=aK},bg,O,aC,ag,ac,Y,M,K,P]) a.as (by simp);refine an ?_;refine cU ?_;refine bq 1 j j j (cE J (by omega)) ?_;refine bI 1 j ?_;refine⟨(J+1,aK,aC++(ag++ac)),⟨j,j,j,j,j,j,j,j,aX⟩,⟨ap,?_,a⟩,by dsimp only;omega⟩;dsimp only;rw [yd ap,a6 cm,<-dJ];exact a3
     refine bq 2 j j j (cE J (by omega)) ?_;refine bI 1 j ?_;refine⟨(J+1,B,c1),⟨j,j,j,j,j,j,j,j,aX⟩,⟨ap,?_,a.as⟩,by dsimp only;omega⟩;dsimp only;rw [yd ap,aI (by rw [show ms[J].ok=false from aW];decide),hc];exact V
   refine bq 2 j j j (cE i (by omega)) ?_;refine bI 1 j ?_;have cf:J=ms.length:=by have:=dM aV;omega
   rw [cf,gj] at V
   have a0:y.gT b={y with c:=(y.c.apply D).1,answers:=cj y.answers (fh D.c D.s) q,aH:=y.aH++ms.filter (·.ok)}:=by
    rw [aE,aP,cl];exact a6 br
   refine⟨(i+1,B,O,c1,Y),⟨j,j,j,j,j,aX⟩,⟨ak,?_⟩,by dsimp only;omega⟩;dsimp only;rw [aY ak,<-aN,a0];exact⟨bx,V,a7,a.as⟩
 refine dF 7 (a.bc d) j j j j (λw a=>?_);have a:C o z (dO g d {x with dw:=(x.s.log.map Prod.fst).length} {c with aH:=B}::_) w:=a;refine aq 0 j j ?_;have cc:i=(x.s.log.map Prod.fst).length-x.dw:=by have:=dM aU;omega
 have bl:y=((x.s.log.map Prod.fst).drop x.dw).foldl bo.gT x:=by
  rw [bL,cc,h7 (by rw [iT];exact cI _)]
 have aQ:=bo.qo ((x.s.log.map Prod.fst).drop x.dw) x;rw [<-bl] at aQ;have bp:x.ix={y with dw:=x.s.log.length}:=by unfold bo.ix;rw [bl]
 have bT:dO g d {x with dw:=(x.s.log.map Prod.fst).length} {c with aH:=B}=dO g d x.ix {c with aH:=B}:=by
  rw [bp];unfold dO pE;dsimp only;rw [aQ.2.1,cg]
 have a:C o z [dO g d {x with dw:=(x.s.log.map Prod.fst).length} {c with aH:=B},bg,eB,c1,c5] w:=a.as;rw [bT] at a;refine⟨j,_,⟨{c with aH:=B},bg,eB,c1,c5,?_,j⟩,a.pa⟩;rw [bp];exact⟨by show iv g c.ba y.s bg;rw [aQ.1];exact aF.s,aa,by show mM g y.ao B y.aH c1;rw [aQ.2.1];exact V,aD⟩
def aF.gn(s e8:aF):Prop:=e8.ao=s.ao/\s.log<+:e8.log
theorem aF.gn.refl(s:aF):s.gn s:=⟨j,oM _⟩
theorem aF.gn.trans{a b c:aF}(h:a.gn b)(d:b.gn c):a.gn c:=⟨d.1.trans h.1,h.2.trans d.2⟩
theorem aF.yp{g:al}:∀(l:List (Int×aW))(a:aF×List aW),(l.foldl (aF.one g) a).1.ao=a.1.ao/\(l.foldl (aF.one g) a).1.log=a.1.log
 |[],_=>⟨j,j⟩
 |p::r,a=>by
  rw [iC];have b:=aF.yp (g:=g) r (aF.one g a p);have c:=aF.zH g a p;exact⟨b.1.trans c.1.1,b.2.trans c.1.2.1⟩
theorem aF.CZ{g:al}(s:aF):(s.de g).1.ao=s.ao/\(s.de g).1.log=s.log:=by
 unfold aF.de;have a:=aF.yp (g:=g) (dd s.stored) (s.wanted g);have b:(s.wanted g).1.ao=s.ao/\(s.wanted g).1.log=s.log:=by unfold aF.wanted;split<;>exact⟨j,j⟩
 exact⟨a.1.trans b.1,a.2.trans b.2⟩
theorem aF.yx{g:al}:∀(k:Nat)(s:aF)(l:List aW),s.gn (aF.go g k s l).1
 |0,s,_=>aF.gn.refl s
 |k+1,s,l=>by
  unfold aF.go;split
  .exact aF.gn.refl s
  .rename_i r c;split
   .have a:=aF.CZ (g:=g) (s.next r);exact aF.gn.trans (b:=((s.next r).de g).1) ⟨a.1,by rw [a.2];exact List.prefix_append _ _⟩ (aF.yx k _ _)
   .exact aF.gn.refl s
theorem aF.u5{g:al}(s:aF)(l:List aW):s.gn (s.h9 g l).1:=aF.yx 65 s l
theorem aF.tg{g:al}(s:aF)(x:List UInt8):s.gn (s.eQ g x).1:=by
 unfold aF.eQ;split
 .exact aF.gn.refl s
 .split
  .exact aF.gn.refl s
  .split
   .exact aF.gn.refl s
   .split
    .exact⟨j,oM _⟩
    .exact aF.u5 (g:=g) {s with cy:=s.cy++[x],cur:=(fP g s.cur x).1} _
theorem aF.wk{g:al}(s:aF)(m:aW):s.gn (s.take g m).1:=by
 unfold aF.take;split
 .exact aF.tg s m.x
 .split
  .exact aF.gn.refl s
  .split
   .exact aF.u5 (g:=g) {s with cur:=(hf g s.cur m).1} _
   .split
    .exact⟨j,oM _⟩
    .exact aF.gn.refl s
theorem aF.wl{g:al}(s:aF):s.gn (s.tick g).1:=aF.u5 (g:=g) {s with cur:=(iG g s.cur).1} _
theorem aF.ok.h9{g:al}{N:Nat}{s:aF}(h:s.ok g N)(b:g.ok)(a:773<=N)(l:List aW):(s.h9 g l).1.ok g N:=aF.yy b 65 h a
theorem aF.ok.eQ{g:al}{N:Nat}{s:aF}(h:s.ok g N)(c:g.ok)(k:773<=N)(x:List UInt8):(s.eQ g x).1.ok g (N+6):=by
 unfold aF.eQ;split
 .exact h.more (by omega)
 .rename_i i;split
  .exact h.more (by omega)
  .split
   .exact h.more (by omega)
   .rename_i j;have d:(s.cy++[x]).length<=16:=by rw [List.length_append,List.length_singleton];omega
    have e:∀y∈s.cy++[x],y.length<=200:=λy a=>by
     rcases dv.1 a with a|a
     .exact h.lr y a
     .rw [fT.1 a];omega
    split
    .exact{h.more (show N<=N+6 by omega) with cy:=d,lr:=e}
    .have f:aF.ok g (N+6) {s with cur:=(fP g s.cur x).1}:=h.rj (by omega) (λr b=>(uH c (λr b=>(h.cur r b).1) r b).more (by omega)) sc;exact aF.ok.h9 (s:={s with cy:=s.cy++[x],cur:=(fP g s.cur x).1}) {f with cy:=d,lr:=e} c (by omega) _
theorem aF.ok.take{g:al}{N:Nat}{s:aF}(h:s.ok g N)(b:g.ok)(c:773<=N){m:aW}(hm:m.cQ):(s.take g m).1.ok g (N+6):=by
 unfold aF.take;split
 .exact h.eQ b c m.x
 .split
  .exact h.more (by omega)
  .split
   .exact aF.ok.h9 (s:={s with cur:=(hf g s.cur m).1}) (h.rj (by omega) (sa b hm (λr e=>(h.cur r e).1)) sb) b (by omega) _
   .split
    .rename_i f;refine{h.more (show N<=N+6 by omega) with stored:=?_,lw:=?_,e0:=?_}
     .have:=my s.stored s.e0 m;show(cj _ _ _).length<=128;omega
     .intro p d;rcases i5 d with a|a
      .exact h.lw p a
      .rw [a];exact hm
     .have:=h.e0;show 0<=s.e0+1/\s.e0+1<=_;omega
    .exact h.more (by omega)
theorem aF.ok.tick{g:al}{N:Nat}{s:aF}(h:s.ok g N)(a:g.ok)(c:773<=N):(s.tick g).1.ok g (N+6):=
 aF.ok.h9 (s:={s with cur:=(iG g s.cur).1}) (h.rj (by omega) (uE a (λr b=>(h.cur r b).1)) uF) a (by omega) _
theorem bo.ok.step{g:al}{N M:Nat}{x:bo}{s:aF}(h:x.ok g N)(aM:s.ok g M)(a:x.s.gn s):(bo.ix {x with s:=s}).ok g M:=
 bo.ok.ix (x:={x with s:=s}) aM h.c h.aH (ek h.dw a.2.length_le) (a.1.trans h.ao)
theorem bo.ok.more{g:al}{N M:Nat}{x:bo}(h:x.ok g N)(a:N<=M):x.ok g M:={h with s:=h.s.more a}
theorem bo.ok.take{g:al}{N:Nat}{x:bo}(h:x.ok g N)(b:g.ok)(a:773<=N){m:aW}(hm:m.cQ):(x.take g m).1.ok g (N+6):=h.step (h.s.take b a hm) (aF.wk _ _)
theorem bo.ok.tick{g:al}{N:Nat}{x:bo}(h:x.ok g N)(b:g.ok)(a:773<=N):(x.tick g).1.ok g (N+6):=h.step (h.s.tick b a) (aF.wl _)
theorem bo.ok.ask{g:al}{N:Nat}{x:bo}(h:x.ok g N)(b:g.ok)(a:773<=N)(I:bF):(x.ask g I).1.ok g (N+6):=by
 unfold bo.ask;split
 .exact h.step (h.s.eQ b a _) (aF.tg _ _)
 .exact h.more (by omega)
theorem bo.lo{g:al}{ao:Int}(hm:0<=ao/\ao<g.n)(N:Nat):(bo.new ao).ok g N where
 s:={ao:=hm,log:=b4 _,ns:=(by intro e he;cases he),cur:=(by intro r a;cases a;exact⟨ak.lo hm ⟨h6 _,by decide⟩ N,by show(0:Nat)<64;decide⟩),cy:=Nat.zero_le _,lr:=(by intro e he;cases he),stored:=Nat.zero_le _,lw:=(by intro e he;cases he),e0:=⟨Int.le_refl _,by show(0:Int)<=N;omega⟩}
 c:=bJ.lo _
 aH:=b4 _
 dw:=b4 _
 ao:=rfl
theorem Gw{I:bF}(h:gV I=true):I.ep.length<=100:=by
 unfold gV at h;simp only [ea] at h;have a:=h.2;split at a
 .simp only [ln,ea,gd] at a;omega
 .have b:I.ep=[]:=by
   split at a
   .simp only [ea,gd] at a;exact a.1.1.1
   .split at a
    .simp only [ea,gd] at a;exact a.1.1.1
    .split at a
     .simp only [ea,gd] at a;exact a.1.1
     .cases a
  rw [b];exact b4 _
theorem Im{o:World}{g:al}{d:Nat}{x:bo}{G:List Chunk}(y:hP g d x G){N:Nat}(i:x.ok g N)(v:773<=N)(J:N+50<=1000000)(l:g.at o)(q:g.ok)(f:g.off (av [G]))(a:Own [G] o):Calls prog 51 #[ab d] o λr w=>∃e ai,cw r (x.tick g).2 e/\hP g d (x.tick g).1 ai/\C o (av [G]) [ai,e] w:=by
 have K:=y;obtain⟨c,bg,eB,c1,c5,m,rfl⟩:=y;obtain⟨h,u⟩:∃h,h=av [dO g d x c++(bg++(eB++(c1++c5)))]:=⟨_,j⟩;have L:=f;rw [<-u] at f⊢;have a:C o h [dO g d x c++(bg++(eB++(c1++c5)))] o:=u▸a;have a:=a.sK;refine a2 func51 (ar 15 j (ax (C.aj (b:=d) a) j) ?_);have p:=Il m.s i.s v (by omega) (l.st a f) q (a.eF l f) a.ours;refine bk 0 p j (λr w⟨e,t,z,A,F⟩=>?_);have a:=a.b2 F
 obtain⟨n,D,a⟩:∃n,hP g d {x with s:=(x.s.tick g).1} n/\C o h [n,e] w:=by
  have a:C o h [dO g d {x with s:=(x.s.tick g).1} c,t,eB,c1,c5,e] w:=a.as;exact⟨_,⟨c,t,eB,c1,c5,⟨A,m.k,m.aH,m.answers⟩,j⟩,a.pa⟩
 have I:aF.ok g (N+6) ((x.s.tick g).1):=i.s.tick q v;have E:x.s.gn ((x.s.tick g).1):=aF.wl _;have p:=uk (x:={x with s:=(x.s.tick g).1}) D I i.c i.aH (ek i.dw E.2.length_le) (l.st a f) q (a.eF l f) a.ours;refine bp 4 p j (λw⟨ai,B,H⟩=>?_);have a:=a.b2 H;exact aq 4 j j ⟨e,ai,z,B,a.as⟩
theorem H8{o:World}{g:al}{d:Nat}{x:bo}{G:List Chunk}{m:aC}(hm:m.ok o)(t:m.la (av [G]))(D:m.P.cQ)(Q:m.s<=1000000)(B:hP g d x G){N:Nat}(i:x.ok g N)(A:773<=N)(S:N+50<=1000000)(l:g.at o)(v:g.ok)(h:g.off (av [G]))(a:Own [G] o):Calls prog 50 #[ab d,.agg m.cs.toArray] o λr w=>∃f ai,cw r (x.take g m.P).2 f/\hP g d (x.take g m.P).1 ai/\C o (av [G]) [ai,f] w:=by
 have E:m.tag.length=32:=hm.tag;have T:=B;obtain⟨c,bg,eB,c1,c5,n,rfl⟩:=B;obtain⟨e,z⟩:∃e,e=av [dO g d x c++(bg++(eB++(c1++c5)))]:=⟨_,j⟩;have V:=h;rw [<-z] at h t⊢;have a:C o e [dO g d x c++(bg++(eB++(c1++c5)))] o:=z▸a;have a:=a.sK;refine a2 func50 (bL 2 a j j (λq w a=>?_));have a:C o e (bf q m::_) w:=a;have a:=a.drew;refine bt 9 j (λw=>True) aX (af 0 3 j (aO 3 4 j j ?_ ?_));refine ox j j j j (ax (C.aj (b:=d) a) j) (an ⟨aX,?_⟩);refine aR 4 j (mc (U:=m.cs) j j j j (m.bU E) (bn (C.aj (b:=q) a)) ?_);rotate_left
 refine mc (U:=m.cs) j j j j (m.bU E) (bn (C.aj (b:=q) a)) (an ⟨aX,?_⟩);refine aR 3 j (ox j j j j (ax (C.aj (b:=d) a) j) ?_);rotate_left
 all_goals
  refine an ⟨aX,?_⟩;refine aR 5 j ?_;have u:=H7 (m:=m) n.s (hm.q9 a t) ((hm.CK a t).sub (λb K=>qI _ K)) D Q i.s A (by omega) (l.st a h) v (a.eF l h) a.ours;refine cO j j j u (λr w⟨f,y,F,H,M⟩=>?_);have a:=a.b2 M;refine an ⟨aX,?_⟩;refine af 6 1 j (bK ?_)
  obtain⟨p,J,a⟩:∃p,hP g d {x with s:=(x.s.take g m.P).1} p/\C o e [p,f] w:=by
   have a:C o e [dO g d {x with s:=(x.s.take g m.P).1} c,y,eB,c1,c5,f] w:=a.as;exact⟨_,⟨c,y,eB,c1,c5,⟨H,n.k,n.aH,n.answers⟩,j⟩,a.pa⟩
  have R:aF.ok g (N+6) ((x.s.take g m.P).1):=i.s.take v A D;have L:x.s.gn ((x.s.take g m.P).1):=aF.wk _ _;have u:=uk (x:={x with s:=(x.s.take g m.P).1}) J R i.c i.aH (ek i.dw L.2.length_le) (l.st a h) v (a.eF l h) a.ours;refine bp 3 u j (λw⟨ai,I,O⟩=>?_);have a:=a.b2 O;exact aq 4 j j ⟨f,ai,F,I,a.as⟩
theorem CI{o:World}{g:al}{d:Nat}{x:bo}{G:List Chunk}{I:bF}(L:hP g d x G){N:Nat}(l:x.ok g N)(K:773<=N)(ac:N+50<=1000000)(m:g.at o)(A:g.ok)(i:g.off (av [G]))(a:Own [G] o):Calls prog 75 #[ab d,.agg I.cs.toArray] o λr w=>∃v h ai,r= .tuple #[v,ae (x.ask g I).2.2]/\cw v (x.ask g I).2.1 h/\hP g d (x.ask g I).1 ai/\C o (av [G]) [ai,h] w:=by
 have O:=L;obtain⟨c,bg,eB,c1,c5,n,rfl⟩:=L;obtain⟨f,J⟩:∃f,f=av [dO g d x c++(bg++(eB++(c1++c5)))]:=⟨_,j⟩;have ad:=i;rw [<-J] at i⊢;have a:C o f [dO g d x c++(bg++(eB++(c1++c5)))] o:=J▸a;have a:=a.sK;refine a2 func75 (bL 2 a j j (λH w a=>?_));have a:C o f (bE H I::_) w:=a;refine bM 4 (U:=I.cs) j j j (bn (C.aj (b:=H) a)) (bk 0 (uN (I:=I)) j (λr w⟨af,F,D,t,z⟩=>?_));subst D;have a:=a.aL z;refine am 11 j (bS 16 (.bool false) j (aG Value.bool (j)) ?_);refine bm 3 j j (λq=>?_) (λq=>?_)
 .have W:gV I=false:=vL q;refine aq 4 j j ?_;have u:x.ask g I=(x,[],1):=aI (by rw [W];decide);rw [u];have a:C o f [dO g d x c,bg,eB,c1,c5,[]] w:=(C.empty a).as;exact⟨_,[],_,j,cw.nil,O,a.pa⟩
 have B:gV I=true:=vM q;rw [a6 B] at t;refine ar 6 j (ax (C.aj (b:=d) a) j) ?_;obtain⟨aa,ce,rfl,_,_⟩:=t.form;have a:C o f [dO g d x c,bg,eB,c1,c5,F] w:=a.as;obtain⟨_,_,e,_,_,X,S⟩:=t.rd (a.to F);cases e;have y:=AO (x:=jo I) (bQ:=ce) n.s X (C.qm S) (ek (Gq (Gw B)) (by decide)) l.s K (by omega) (m.st a i) A (a.eF m i) a.ours;refine bk 1 y j (λr w⟨Z,h,E,D,M,P,z⟩=>?_);subst D;have a:=a.b2 z
 obtain⟨p,R,a⟩:∃p,hP g d {x with s:=(x.s.eQ g (jo I)).1} p/\C o f [p,h] w:=by
  have a:C o f [dO g d {x with s:=(x.s.eQ g (jo I)).1} c,E,eB,c1,c5,h] w:=a.as;exact⟨_,⟨c,E,eB,c1,c5,⟨P,n.k,n.aH,n.answers⟩,j⟩,a.pa⟩
 have Y:aF.ok g (N+6) ((x.s.eQ g (jo I)).1):=l.s.eQ A K _;have T:x.s.gn ((x.s.eQ g (jo I)).1):=aF.tg _ _;have y:=uk (x:={x with s:=(x.s.eQ g (jo I)).1}) R Y l.c l.aH (ek l.dw T.2.length_le) (m.st a i) A (a.eF m i) a.ours;refine bp 8 y j (λw⟨ai,Q,V⟩=>?_);have a:=a.b2 V;refine aq 6 j j ?_;have u:x.ask g I=(bo.ix {x with s:=(x.s.eQ g (jo I)).1},(x.s.eQ g (jo I)).2.1,(x.s.eQ g (jo I)).2.2):=a6 B;rw [u];exact⟨Z,h,ai,j,M,Q,a.as⟩
theorem FE{o:World}{g:al}{d:Nat}{x:bo}{G:List Chunk}(k:hP g d x G)(e:Holds o G){N:Nat}(aM:x.s.ok g N):Calls prog 15 #[ab d] o λr w=>∃b,ir r (x.s.log.map Prod.fst) b/\C o [] [b] w:=by
 have a:Own [] o:=C.start o;obtain⟨c,bg,eB,c1,c5,n,rfl⟩:=k;have q:o.heap[d]? =some (.cells (pE g x c).toArray 85 (0,0)):=e.left.head;refine a2 func15 (ar 15 j (ax (a.cc q) j) ?_);obtain⟨t,h,u,y,v,p,rfl⟩:=n.s;have f:=e.right.left;have l:=y4 (ba:=c.ba) (g:=g) (s:=x.s) (c:=t) (L:=h) (a.cc f.left.head) p.log (f.right.left.st a) aM;refine bk 0 l j (λr w⟨b,i,m⟩=>?_);have a:=a.aL m;exact aq 1 j j ⟨b,i,a.as⟩
theorem nN.dh{m:List (Int×Value)}:∀{t:List (Int×(Int×Int×Int))}{H:List Chunk},c7 nN m t H->m=t.map λp=>(p.1,kz p.2):=by
 induction m with
 |nil=>intro t H h;cases t with|nil=>rfl|cons _ _=>exact h.elim
 |cons p m f=>
  intro t H h;cases t with
  |nil=>exact h.elim
  |cons q t=>
   obtain⟨c,_,_,_,d,e⟩:=h;rw [jW,<-f e];obtain⟨a,b⟩:=p;have c:a=q.1:=c;have d:b=kz q.2:=d.1;rw [c,d]
theorem w6{o:World}{g:al}{p:Nat}{x:bo}{G:List Chunk}{c s:Int}(F:hP g p x G)(u:Holds o G):Calls prog 57 #[ab p,ae c,ae s] o λr w=>r= .tuple #[kz (if 0<=c/\c<=15/\0<=s/\s<=1048576 then((aZ x.answers (fh c s)).getD (0,0,0)) else(0,0,0)),.bool (decide (0<=c/\c<=15/\0<=s/\s<=1048576)&&(aZ x.answers (fh c s)).isSome)]/\C o [] [] w:=by
 have b:Own [] o:=C.start o;obtain⟨hd,bg,eB,c1,c5,P,rfl⟩:=F;have S:o.heap[p]? =some (.cells (pE g x hd).toArray 85 (0,0)):=u.left.head;refine eV func57 (b7 2 b j (λd w b=>?_));have b:C o [] (R d #[ae 0,ae 0,ae 0] 129::_) w:=b;refine am 7 j (bS 10 (.bool false) j (aG Value.bool (j)) ?_);refine am 4 j (cT 14 j (λi=>?_) (λi=>?_))
 .refine am 14 j (cN (c:= #[ae 0,ae 0,ae 0]) j j j (λ_=>by kernel_rfl) ?_);refine b6 0 (b.bc d) j j j j j (λw b=>?_);have b:=C.whole (U:=[ae 0,ae 0,ae 0]) b j;have b:C o [] (R d #[ae 0,ae 0,ae 0] 129::_) w:=b;refine bD 1 j ⟨_,dr results57 j j j j b.bz,?_⟩;have e:¬(0<=c/\c<=15/\0<=s/\s<=1048576):=λh=>by have:=dz i;omega
  rw [aI e,e4 e];exact⟨by simp,b.bare⟩
 refine am 4 j (cT 18 j (λl=>?_) (λl=>?_))
 .refine am 10 j (cN (c:= #[ae 0,ae 0,ae 0]) j j j (λ_=>by kernel_rfl) ?_);refine b6 0 (b.bc d) j j j j j (λw b=>?_);have b:=C.whole (U:=[ae 0,ae 0,ae 0]) b j;have b:C o [] (R d #[ae 0,ae 0,ae 0] 129::_) w:=b;refine bD 1 j ⟨_,dr results57 j j j j b.bz,?_⟩;have e:¬(0<=c/\c<=15/\0<=s/\s<=1048576):=λh=>by have:=dz l;omega
  rw [aI e,e4 e];exact⟨by simp,b.bare⟩
 refine am 4 j (cT 22 j (λm=>?_) (λm=>?_))
 .refine am 6 j (cN (c:= #[ae 0,ae 0,ae 0]) j j j (λ_=>by kernel_rfl) ?_);refine b6 0 (b.bc d) j j j j j (λw b=>?_);have b:=C.whole (U:=[ae 0,ae 0,ae 0]) b j;have b:C o [] (R d #[ae 0,ae 0,ae 0] 129::_) w:=b;refine bD 1 j ⟨_,dr results57 j j j j b.bz,?_⟩;have e:¬(0<=c/\c<=15/\0<=s/\s<=1048576):=λh=>by have:=dz m;omega
  rw [aI e,e4 e];exact⟨by simp,b.bare⟩
 refine b8 3 j j (λt=>?_) (λt=>?_)
 .refine am 2 j (cN (c:= #[ae 0,ae 0,ae 0]) j j j (λ_=>by kernel_rfl) ?_);refine b6 0 (b.bc d) j j j j j (λw b=>?_);have b:=C.whole (U:=[ae 0,ae 0,ae 0]) b j;have b:C o [] (R d #[ae 0,ae 0,ae 0] 129::_) w:=b;refine bD 1 j ⟨_,dr results57 j j j j b.bz,?_⟩;have e:¬(0<=c/\c<=15/\0<=s/\s<=1048576):=λh=>by omega
  rw [aI e,e4 e];exact⟨by simp,b.bare⟩
 have b:=b.drew;obtain⟨n,ah,bZ,f,H,J,O,D,rfl⟩:=P.answers;have y:=u.right.right.right.right;have I:dI 237 o (some ⟨n,0,none⟩) f:=.inr ⟨n,ah,bZ,j,y (n,_) (by simp),y (ah,bZ) (by simp),O⟩;have Q:∀q∈f,gD 3 q.2:=D.wide (λv a G h=>by rw [h.1];exact⟨[ae a.1,ae a.2.1,ae a.2.2],j,j,j⟩);have A:=nN.dh D;obtain⟨a,z⟩:∃a,a=((aZ x.answers (fh c s)).getD (0,0,0)):=⟨_,j⟩
 have L:(aZ f (fh c s)).getD rn= .agg #[ae a.1,ae a.2.1,ae a.2.2]:=by
  rw [A,nt,z];cases aZ x.answers (fh c s)<;>rfl
 have M:(aZ f (fh c s)).isSome=(aZ x.answers (fh c s)).isSome:=by
  rw [A,nt];cases aZ x.answers (fh c s)<;>rfl
 refine bt 2 j (λw=>∃ad,C o [] ad w) ⟨_,b⟩ (af 0 3 j (bR 3 j (λw⟨_,b⟩=>ax (b.cc S) (aG some J)) (af 4 2 j (aR 6 j (bB j j j (yQ (c:=c) (s:=s)) (λw hw=>?_))))));have hw:=hw.symm;subst hw;refine an ⟨⟨_,b⟩,?_⟩;refine aR 7 j ?_;have K:=Ep (k:=fh c s) Q (I.st b);refine cO j j j K (λr w⟨B,N⟩=>?_);rw [L,M] at B;subst B;have b:=b.aL N;refine an ⟨⟨_,b⟩,?_⟩;refine af 8 2 j (aR 10 j (c2 (b.bc d) j j j j j bG (λw b=>?_)));have b:=C.whole (U:=[ae a.1,ae a.2.1,ae a.2.2]) b j;have b:C o [] (R d #[ae a.1,ae a.2.1,ae a.2.2] 129::_) w:=b;refine an ⟨⟨_,b⟩,?_⟩;refine af 11 1 j (bK (bD 0 j ⟨_,dr results57 j j j j b.bz,?_⟩));have E:0<=c/\c<=15/\0<=s/\s<=1048576:=by have T:=dM i;have V:=dM l;have W:=dM m;have X:=t;omega
 rw [a6 E,je E,<-z];exact⟨by simp,b.bare⟩
theorem jT.read{g:al}{ao:Int}{w:World}:∀{us:List Value}{ms:List cb}{G:List Chunk},jT g ao us ms G->Holds w G->∀(i:Nat)(a:i<ms.length),∃A c,us[i]? =some (.slice A 1 c)/\1<=c/\c<=maxLen/\Rd w A (vcs [dq g ms[i] ao])/\Flat A
 |[],[],_,_,_,i,a=>by simp at a
 |[],_::_,_,h,_,_,_=>h.elim
 |_::_,[],_,h,_,_,_=>h.elim
 |u::us,m::ms,_,⟨ai,aA,rfl,hu,h⟩,d,0,_=>by
  obtain⟨A,c,b,e,f,k,l⟩:=hu.read d.left;have b:u= .slice A 1 c:=b;subst b;exact⟨A,c,j,e,f,k,l⟩
 |u::us,m::ms,_,⟨ai,aA,rfl,hu,h⟩,d,i+1,a=>by
  have:=h.read d.right i (by simpa using a);simpa using this
theorem Ba{o:World}{g:al}{E:Nat}{x:bo}{G:List Chunk}(aa:hP g E x G)(N:Holds o G)(aS:x.aH.length<=100000):Calls prog 56 #[ab E] o λr w=>∃bg,mM g x.ao r x.aH bg/\C o [] [bg] w:=by
 have a:Own [] o:=C.start o;obtain⟨c,bg,eB,c1,c5,ay,rfl⟩:=aa;have aE:o.heap[E]? =some (.cells (pE g x c).toArray 85 (0,0)):=N.left.head;obtain⟨W,V,us,Z,ah,L⟩:=ay.aH;have O:Holds o (W++V):=Z▸N.right.right.right.left;obtain⟨T,X,ak,aQ,aU,az,_⟩:=ah.read O.left;have aP:=L.len;have P:∀e∈us.zip x.aH,((λe:Value×cb=>e.2.cs++[e.1]) e).length=5:=λ_ _=>rfl
 have aV:(us.zip x.aH).length=x.aH.length:=by rw [oL];omega
 refine a2 func56 ?_;refine ar 19 j (ax (a.cc aE) (aG some ak)) ?_
 refine cJ 3 j (ct:=Nat×Value×List Chunk) (λk=>[(0,ab E),(3,k.2.1),(11,.slice T x.aH.length X),(12,.int .i64 (x.aH.length:Nat)),(13,.int .i64 (k.1:Nat))])
  (λk w=>k.1<=x.aH.length/\mM g x.ao k.2.1 (x.aH.take k.1) k.2.2/\C o [] [k.2.2] w) (λk=>x.aH.length-k.1) (0,.slice none 0 0,[]) ⟨j,j,j,j,j,aX⟩ ⟨b4 _,⟨[],[],[],j,Row.nil _ _,j⟩,a.empty⟩ ?_
 rintro⟨i,v,G⟩ w ⟨ap,z,a⟩;dsimp only at ap z a⊢;refine bm 4 j j (λH=>?_) (λH=>?_)
 .have D:i<x.aH.length:=by have:=dz H;omega
  obtain⟨h,ci,aB,aM,aN,aA,_⟩:=L.read O.right i D;have aC:us[i]'(by omega)= .slice h 1 ci:=by have:=aB;rw [cn (by omega)] at this;exact hB this
  have Q:(us.zip x.aH)[i]'(by omega)=(.slice h 1 ci,x.aH[i]):=by rw [List.getElem_zip,aC]
  have S:=a.rd az (bT.of_nil _ _);refine am 5 j (fp j j j j S (v:=ae x.aH[i].k) (h8 (f:=(λe:Value×cb=>e.2.cs++[e.1])) (J:=0) (us.zip x.aH) P i (by omega) (by decide) (by rw [Q];rfl)) D (λaI Y aK=>?_));subst Y;have R:=i0 (f:=(λe:Value×cb=>e.2.cs++[e.1])) S P i (by omega);rw [Q] at R;refine bM 0 (U:=[ae x.aH[i].k,ae x.aH[i].p,ae x.aH[i].e,ae x.aH[i].t,Value.slice h 1 ci]) j j j R ?_;refine b7 0 a j (λn w a=>?_);refine b6 0 (a.bc n) j j j j j (λw a=>?_);have a:=C.whole (U:=[ae x.aH[i].k,ae x.aH[i].p,ae x.aH[i].e,ae x.aH[i].t,Value.slice h 1 ci]) a j;have a:C o [] [[(n,.cells #[ae x.aH[i].k,ae x.aH[i].p,ae x.aH[i].e,ae x.aH[i].t,Value.slice h 1 ci] 127 (0,0))],G] w:=a.as;have a:C o [] ([[(n,.cells #[ae x.aH[i].k,ae x.aH[i].p,ae x.aH[i].e,ae x.aH[i].t,Value.slice h 1 ci] 127 (0,0))]]++_) _:=a.front;have a:=a.drew;refine bt 0 j (λw=>∃ad,C o [] ([[(n,.cells #[ae x.aH[i].k,ae x.aH[i].p,ae x.aH[i].e,ae x.aH[i].t,Value.slice h 1 ci] 127 (0,0))]]++ad) w) ⟨_,a⟩ ?_;refine af 0 2 j ?_;refine aT 2 j (λw⟨_,a⟩=>c4 (U:=x.aH[i].cs) j j j ((a.bc n).ij (off:=0) (U:=x.aH[i].cs) (λJ v z=>by rw [fj];exact r8 (m:=x.aH[i]) (u:=.slice h 1 ci) z))) ?_;refine af 3 1 j ?_;refine a8 4 j a1 j ?_;refine aR 5 j ?_;have aw:∀y∈[dq g x.aH[i] x.ao],y.ok:=λy aF=>by rw [fT.1 aF];exact i3 _ _ _
  have ai:=lb (l:=[dq g x.aH[i] x.ao]) (d:=ci) (a.rd aA (bT.of_nil _ _)) aw (by simp);refine cO j j j ai (λr w⟨s,M,av⟩=>?_);obtain⟨q,dp,rfl,_,_⟩:=M.form;have a:=a.aL av;have a:C o [] ([[(n,.cells #[ae x.aH[i].k,ae x.aH[i].p,ae x.aH[i].e,ae x.aH[i].t,Value.slice h 1 ci] 127 (0,0))]]++_) w:=a.front;refine an ⟨⟨_,a⟩,?_⟩;refine aT 6 j (λw _=>e3 (c:=[ae x.aH[i].k,ae x.aH[i].p,ae x.aH[i].e,ae x.aH[i].t,Value.slice q 1 dp].toArray) j (λ_=>by kernel_rfl)) ?_;refine aR 7 j ?_;refine gi (U:=[ae x.aH[i].k,ae x.aH[i].p,ae x.aH[i].e,ae x.aH[i].t,Value.slice q 1 dp]) a j j j j bG bG (λF w a=>?_);have aJ:=bn (C.aj (b:=F) a);have a:C o [] ([[(n,.cells #[ae x.aH[i].k,ae x.aH[i].p,ae x.aH[i].e,ae x.aH[i].t,Value.slice h 1 ci] 127 (0,0))]]++_) w:=a.front;refine an ⟨⟨_,a⟩,?_⟩;refine aR 8 j ?_;obtain⟨I,H1,U,rfl,ac,K⟩:=z;have a:C o [] [I,H1,[(n,.cells #[ae x.aH[i].k,ae x.aH[i].p,ae x.aH[i].e,ae x.aH[i].t,Value.slice h 1 ci] 127 (0,0))],s,[(F,.cells #[ae x.aH[i].k,ae x.aH[i].p,ae x.aH[i].e,ae x.aH[i].t,Value.slice q 1 dp] 127 (0,0))]] w:=C.perm (A:=[I++H1,[(n,.cells #[ae x.aH[i].k,ae x.aH[i].p,ae x.aH[i].e,ae x.aH[i].t,Value.slice h 1 ci] 127 (0,0))],s,[(F,.cells #[ae x.aH[i].k,ae x.aH[i].p,ae x.aH[i].e,ae x.aH[i].t,Value.slice q 1 dp] 127 (0,0))]]) a.as (by simp);have aO:(x.aH.take i).length=i:=by rw [g9];omega
  refine dR a ac j j (by decide) j j j (m:=1) (news:=[ae x.aH[i].k,ae x.aH[i].p,ae x.aH[i].e,ae x.aH[i].t,Value.slice q 1 dp]) j aJ (by intro u hu;simp at hu;rcases hu with rfl|rfl|rfl|rfl|rfl<;>rfl) (by omega) (by unfold maxLen;omega) (λv2 B w ag a=>?_)
  have aD:mM g x.ao v2 (x.aH.take (i+1)) (B++(H1++s)):=by
   rw [fr D];refine⟨B,H1++s,U++[.slice q 1 dp],j,?_,K.app (jT.one M)⟩;rw [b0,List.length_singleton]
   have e:nZ (U++[.slice q 1 dp]) (x.aH.take i++[x.aH[i]])=nZ U (x.aH.take i)++[ae x.aH[i].k,ae x.aH[i].p,ae x.aH[i].e,ae x.aH[i].t,Value.slice q 1 dp]:=by
    unfold nZ;rw [List.zip_append K.len,List.flatMap_append];simp
   rw [e];exact ag
  have a:C o [] [[(n,.cells #[ae x.aH[i].k,ae x.aH[i].p,ae x.aH[i].e,ae x.aH[i].t,Value.slice h 1 ci] 127 (0,0))],B++(H1++s)] w:=C.perm (A:=[[(n,.cells #[ae x.aH[i].k,ae x.aH[i].p,ae x.aH[i].e,ae x.aH[i].t,Value.slice h 1 ci] 127 (0,0))],B,H1,s]) a.as (by simp);refine an ⟨⟨_,a⟩,?_⟩;refine af 9 1 j ?_;refine bK ?_;refine bq 1 j j j (cE i (by omega)) ?_;refine bI 1 j ?_;exact⟨(i+1,v2,_),⟨j,j,j,j,j,aX⟩,⟨D,aD,a.as⟩,by dsimp only;omega⟩
 refine aq 5 j j ?_;have au:i=x.aH.length:=by have:=dM H;omega
 rw [au,gj] at z;exact⟨G,z,a⟩
structure dL where
 p:Int
 e:Int
 t:Int
 at_:Int
 k:Int
 deriving DecidableEq
abbrev dL.cs(s:dL):List Value:=[ae s.p,ae s.e,ae s.t,ae s.at_,ae s.k]
structure ei where
 p:Int
 e:Int
 t:Int
 s:Int
 x:List UInt8
structure dQ where
 c0:List ei
 ck:List dL
 eE:List (Int×Int)
def dQ.new:dQ:=⟨[],[],[]⟩
def j5(p e:Int):Bool:=decide (0<=p/\p<8/\0<=e/\e<=100)
def lg(t:Int):Bool:=decide (1<=t/\t<=100)
def dQ.kQ(l:dQ)(p e:Int):dQ×Int:=
 if j5 p e=true then({l with eE:=cj l.eE p (max ((aZ l.eE p).getD 0) e)},0) else(l,1)
def kV(p e t:Int)(s:dL):Bool:=decide (s.p=p/\s.e=e/\s.t=t)
def dQ.span(l:dQ)(p e t:Int):Option Nat:=l.ck.findIdx? (kV p e t)
def dQ.end_(l:dQ)(p e t:Int)(c:Bool):dQ×Int:=
 if(j5 p e&&lg t)=false then(l,1)
 else match l.span p e t with
  |none=>({l with ck:=l.ck++[⟨p,e,t,-1,if c=true then 2 else 3⟩]},0)
  |some i=>if h:i<l.ck.length then
   (if l.ck[i].k≠0/\l.ck[i].k≠(if c=true then 2 else 3) then(l,6)
    else({l with ck:=l.ck.set i {l.ck[i] with k:=if c=true then 2 else 3}},0)) else(l,0)
def kj:List Value->List ei->List Chunk->Prop
 |[],[],G=>G=[]
 |u::us,r::rs,G=>∃ai aA,G=ai++aA/\du u r.x ai/\kj us rs aA
 |[],_::_,_=>False
 |_::_,[],_=>False
abbrev sX(us:List Value)(rs:List ei):List Value:=(us.zip rs).flatMap λe=>[ae e.2.p,ae e.2.e,ae e.2.t,ae e.2.s,e.1]
def mV(v:Value)(rs:List ei)(G:List Chunk):Prop:=∃ag H us,G=ag++H/\Row 182 5 v rs.length (sX us rs) ag/\kj us rs H
def gC(v:Value)(l:List dL)(G:List Chunk):Prop:=Row 316 5 v l.length (l.flatMap dL.cs) G
abbrev mm(l:List (Int×Int)):List (Int×Value):=l.map λp=>(p.1,ae p.2)
structure iQ where
 c0:Value
 ck:Value
 eE:Value
abbrev lcs(c:iQ):List Value:=[c.c0,c.ck,c.eE]
abbrev dG(be:Nat)(c:iQ):List Chunk:=R be (lcs c).toArray 147
structure BM(l:dQ)(c:iQ)(ag S E:List Chunk):Prop where
 c0:mV c.c0 l.c0 ag
 ck:gC c.ck l.ck S
 eE:mR bN c.eE (mm l.eE) E
def kG(be:Nat)(l:dQ)(G:List Chunk):Prop:=∃(c:iQ)(ag S E:List Chunk),BM l c ag S E/\G=dG be c++(ag++(S++E))
theorem C.vR{be:Nat}{c:iQ}{ag S E:List Chunk}{ad:List (List Chunk)}{o w:World}{F:List Nat}(h:C o F ((dG be c++(ag++(S++E)))::ad) w):C o F (dG be c::ag::S::E::ad) w:=h.perm (by simp)
theorem C.i2{be:Nat}{c:iQ}{ag S E:List Chunk}{ad:List (List Chunk)}{o w:World}{F:List Nat}(h:C o F (dG be c::ag::S::E::ad) w):C o F ((dG be c++(ag++(S++E)))::ad) w:=h.perm (by simp)
theorem wg(l:List dL):∀v∈l.flatMap dL.cs,v.oneCell'=true:=by
 intro v a;obtain⟨m,_,hm⟩:=nQ.1 a;simp [dL.cs] at hm;rcases hm with rfl|rfl|rfl|rfl|rfl<;>rfl
theorem FX{o:World}:Calls prog 71 #[] o λr w=>∃be G,r=ab be/\kG be dQ.new G/\C o [] [G] w:=by
 have a:Own [] o:=C.start o;refine a2 func71 (am 5 j (jx j a j j (λaz w a=>?_)));refine cN (c:=(lcs ⟨.slice none 0 0,.slice none 0 0,.map (some az)⟩).toArray) j j j (λ_=>by kernel_rfl) (bL 0 a j j (λb w a=>aq 1 j j ?_));have a:C o [] (dG b ⟨.slice none 0 0,.slice none 0 0,.map (some az)⟩::_) w:=a;exact⟨b,_,j,⟨(⟨.slice none 0 0,.slice none 0 0,.map (some az)⟩:iQ),[],[],[(az,.map #[] 0)],⟨⟨[],[],[],j,Row.nil _ _,j⟩,Row.nil 316 5,⟨az,_,j,j,cg.new⟩⟩,j⟩,C.perm (A:=[dG b ⟨.slice none 0 0,.slice none 0 0,.map (some az)⟩,[(az,.map #[] 0)]]) a.as (by simp)⟩
theorem vh{o:World}{p e:Int}:Calls prog 223 #[ae p,ae e] o λr w=>r= .bool (j5 p e)/\w=o:=by
 refine a2 func223 (am 8 j (cT 7 j (λdB=>?_) (λdB=>?_)))
 .refine am 4 j (cT 11 j (λa=>?_) (λa=>?_))
  .refine am 4 j (cT 15 j (λb=>?_) (λb=>?_))
   .refine aq 4 j j (⟨?_,j⟩);unfold j5;exact aG Value.bool (by rw [oH];have c:=dz dB;have d:=dz a;have f:=dz b;omega)
   refine aq 4 j j (⟨?_,j⟩);unfold j5;rw [e4 (by have:=dM b;omega)]
  refine aq 8 j j (⟨?_,j⟩);unfold j5;rw [e4 (by have:=dM a;omega)]
 refine aq 12 j j (⟨?_,j⟩);unfold j5;rw [e4 (by have:=dM dB;omega)]
theorem yO{o:World}{t:Int}:Calls prog 224 #[ae t] o λr w=>r= .bool (lg t)/\w=o:=by
 refine a2 func224 (am 8 j (cT 5 j (λgk=>?_) (λgk=>?_)))
 .refine aq 4 j j (⟨?_,j⟩);unfold lg;exact aG Value.bool (by rw [oH];have a:=dz gk;omega)
 refine aq 4 j j (⟨?_,j⟩);unfold lg;rw [e4 (by have:=dM gk;omega)]
theorem Fk{o:World}{be:Nat}{l:dQ}{G:List Chunk}{p e:Int}(s:kG be l G)(a:Own [G] o):Calls prog 213 #[ab be,ae p,ae e] o λr w=>r=ae (l.kQ p e).2/\∃ai,kG be (l.kQ p e).1 ai/\C o (av [G]) [ai] w:=by
 have u:=s;obtain⟨c,ag,S,E,n,rfl⟩:=s;obtain⟨d,q⟩:∃d,d=av [dG be c++(ag++(S++E))]:=⟨_,j⟩;rw [<-q];have a:C o d [dG be c++(ag++(S++E))] o:=q▸a;have a:=a.vR;refine a2 func213 (am 9 j (bS 9 (.bool false) j (aG Value.bool (j)) ?_));refine bp 2 (vh (p:=p) (e:=e)) j (λw hw=>?_);have hw:=hw.symm;subst hw;refine bm 2 j j (λg=>?_) (λg=>?_)
 .refine aq 3 j j ?_;have hle:l.kQ p e=(l,1):=aI (by simpa using g);rw [hle];exact⟨j,_,u,a.i2⟩
 obtain⟨aB,h,i,rfl,t⟩:=n.eE
 have v:(aZ (mm l.eE) p).getD (ae 0)=ae ((aZ l.eE p).getD 0):=by
  unfold mm;rw [nt];cases aZ l.eE p<;>rfl
 have a:C o d ([dG be c,[(aB,h)]]++_) _:=a.front;have a:=a.drew;refine bt 2 j (λw=>∃ad,C o d ([dG be c,[(aB,h)]]++ad) w) ⟨_,a⟩ (af 0 3 j (a8 3 j a1 (aG some i) (af 4 4 j (a8 8 j a1 (aG some i) (af 9 1 j (aT 10 j (λw⟨_,a⟩=>tG (key:=bN) (k:=p) t (C.aj (b:=aB) a) j j) (af 11 1 j (iY 25 (ae ((aZ l.eE p).getD 0)) j v (aT 12 j (λw _=>wx j) (dA 13 j (jy (key:=bN) (k:=p) t (a.to [(aB,h)]) j j j j (λf w m a=>?_))))))))))))
 have m:cg bN f (mm (cj l.eE p (max ((aZ l.eE p).getD 0) e))):=by
  unfold mm;rw [<-vx];exact m
 have a:C o d [dG be c,ag,S,[(aB,f)]] w:=a.as;refine an (cU (aq 3 j j ?_));have hle:l.kQ p e=({l with eE:=cj l.eE p (max ((aZ l.eE p).getD 0) e)},0):=a6 (by simpa using g);rw [hle];exact⟨j,_,⟨c,ag,S,[(aB,f)],⟨n.c0,n.ck,⟨aB,f,i,j,m⟩⟩,j⟩,a.i2⟩
end Go.Proofs.YtngjfjhomikplaaGreatDoor.R
