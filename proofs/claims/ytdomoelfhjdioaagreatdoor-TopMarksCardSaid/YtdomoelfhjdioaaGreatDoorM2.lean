/- Part 2 of the proof. -/
import Derived.Test.YtdomoelfhjdioaaGreatDoorM1
set_option linter.unusedVariables false
set_option linter.unusedSimpArgs false
set_option linter.unusedSectionVars false
set_option maxRecDepth 20000
set_option maxHeartbeats 4000000
namespace Go.Proofs.YtdomoelfhjdioaaGreatDoor.R
open Go.Proofs.Tryz Go Go.RowKit Go.Proofs
theorem HS{xs c0:List Int}(h:xs.Perm c0):jN xs=jN c0:=by
 have le:∀a b:Int,decide (a<=b)=true↔a<=b:=λa b=>decide_eq_true_iff
 have d:=tU (le:=λx y:Int=>decide (x<=y)) (by intro a b c;simp only [le];omega) (by intro a b;simp only [m7,le];omega) xs;have e:=tU (le:=λx y:Int=>decide (x<=y)) (by intro a b c;simp only [le];omega) (by intro a b;simp only [m7,le];omega) c0;exact List.Perm.eq_of_pairwise (λa b _ _ d e=>by simp only [le] at d e;omega) d e (((oO xs _).trans h).trans (oO c0 _).symm)
abbrev dn(m:List (Int×Value)):List (Int×Value):=m.mergeSort λa b=>decide (a.1<=b.1)
theorem q7(m:List (Int×Value)):(dn m).map Prod.fst=jN (m.map Prod.fst):=tV (λ_ _ _ _=>rfl)
theorem iA(m:List (Int×Value)):(dn m).length=m.length:=hR _
theorem ot{m:List (Int×Value)}{q:Int×Value}:q∈dn m↔q∈m:=gO
theorem nu:∀{m:List (Int×Value)}{q:Int×Value},(m.map Prod.fst).Nodup->q∈m->aZ m q.1=some q.2
 |(J,v)::r,q,aJ,a=>by
  have b:=l6.1 (by simpa using aJ:(J::r.map Prod.fst).Nodup);rcases g0.1 a with rfl|a
  .simp [aZ]
  .have:J≠q.1:=λe=>b.1 (by rw [e];exact dO.2 ⟨q,a,j⟩)
   simp only [aZ,this,lx];exact nu b.2 a
theorem q6{α:Type}{l:List α}{i:Nat}(h:i<l.length):l.take (i+1)=l.take i++[l[i]]:=by rw [List.take_add_one];simp [h]
theorem q4{α:Type}{l:List α}{i:Nat}(h:i<l.length):∃r,l=l.take i++l[i]::r:=⟨l.drop (i+1),by rw [<-km h,m5]⟩
abbrev pB(m:List (Int×Value))(pre:List (Int×Value))(q:Int×Value):Prop:=∃r,dn m=pre++q::r
theorem CD{c:FuncId}{bf:Array Value}[Entry prog c]{H:List (List Chunk)}{A:List Int->Int->Prop}{S:List Int->Prop}{o:World}(s:Iter prog c bf H (λ_ _=>True) (λ_=>True) (λk:Int=> #[bL k]) A S)(i:∀pre x,A pre x->pre.length<1000000)(b:Own H o):Calls prog 297 #[.slice none 0 0,.func (.func c) #[] bf] o λr w=>∃xs ag,S xs/\Row 3 1 r xs.length (xs.map bL) ag/\C o (au H) (H++[ag]) w:=by
 refine j0 func297 ?_;refine bM 2 b j j (λaO w b=>?_);have b:C o (au H) (H++[R aO #[.slice none 0 0] 29,[]]) w:=(b.empty.f1).swap (A:=[_,_])
 refine j4 6 j s j (by have:=b.size;simpa using this) b j (λ_=>rfl) (by intro p f;simp at f;subst f;rfl)
  (λpre ae=>∃v ag,ae=[R aO #[v] 29,ag]/\Row 3 1 v pre.length (pre.map bL) ag) (λ_ _=>False) ⟨_,_,j,Row.nil 3 1⟩ (λ_ _ _=>trivial) (λ_ _ _ _=>trivial) ?_ ?_ (λ_ _ h=>h.elim) (λ_ _ _ h=>h.elim)
 .rintro l pre x u L B m ⟨v,ag,rfl,d⟩ b;have hlen:=i pre x m;refine bI 2 j ?_;refine⟨j,_,C.gy b,λL w b=>?_⟩;have b:=C.gy b;refine al 2 j (aw (C.ak b) j) ?_;refine aq 1 j (eO b j j j j j j bJ (λz w b=>?_));have aJ:=b.bE;refine d9 b.f2 d j j (by decide) j j j (news:=[bL x]) j aJ (by simp [Value.oneCell']) (by omega) (by unfold maxLen;omega) (λv1 g w e b=>?_);have b:=b.f2;refine cC b j j j e.one (by simp) (λw b=>?_);have b:C _ _ (R aO #[v1] 29::_) w:=b;refine bI 0 j ?_;refine⟨_,b.kK,v1,g,j,?_⟩;simpa using e
 rintro xs y w n ⟨v,ag,rfl,d⟩ b;have b:=b.swap;refine al 2 j (aw (C.ak b) j) ?_;refine bI 1 j ⟨v,λw t=>?_⟩;have b:=t.st b (cD _);refine⟨λa q=>i7 (fn:=f297) q j _ _,?_⟩;exact⟨xs,ag,n,d,b.drop.swap (A:=[ag])⟩
theorem DC{a:FuncId}{bf:Array Value}[Entry prog a]{H:List (List Chunk)}{A:List Int->Int->Prop}{S:List Int->Prop}{o:World}(e:Iter prog a bf H (λ_ _=>True) (λ_=>True) (λk:Int=> #[bL k]) A S)(b:∀pre x,A pre x->pre.length<1000000)(c:Own H o):Calls prog 268 #[.func (.func a) #[] bf] o λr w=>∃xs ag,S xs/\Row 3 1 r xs.length (xs.map bL) ag/\C o (au H) (H++[ag]) w:=by
 refine a2 func268 ?_;have d:=CD e b c;exact bh 6 d j (λr w f=>ao 1 j j f)
theorem q3{b:FuncId}{bf:Array Value}[Entry prog b]{H:List (List Chunk)}{o:World}{m:List (Int×Value)}(i:Iter prog b bf H (λ_ _=>True) (λ_=>True) (λk:Int=> #[bL k]) (pi m) (λxs=>xs.Perm (m.map Prod.fst)))(n:m.length<=1000000)(a:Own H o):Calls prog 232 #[.func (.func b) #[] bf] o λr w=>∃ag,Row 3 1 r m.length ((jN (m.map Prod.fst)).map bL) ag/\C o (au H) (H++[ag]) w:=by
 refine a2 func232 ?_;have c:=DC i (λpre x h=>by have:=h.2.2;omega) a;refine bh 6 c j (λr w⟨xs,ag,d,f,a⟩=>?_);have l:xs.length=m.length:=by have:=d.length_eq;simpa using this
 have c:=AB (C.jo a) f (by omega);refine bh 4 c j (λp w⟨_,e,g,aa⟩=>?_);have a:=C.jh a aa;refine ao 4 j j (⟨e,?_,a⟩);rw [<-l,<-HS d];exact g
theorem Cm{o:World}{k:Value}:Calls prog 188 #[k] o λr w=>r= .bool true/\w=o:=by
 refine a2 func188 ?_;refine ao 6 j j ?_;exact⟨j,j⟩
theorem G8{o:World}{p:Option Addr}{u:Value}(c:u.cells= #[u]):Calls prog 187 #[.pointer p,u] o λr w=>∃ay aO,r= .func (.func 230) #[] #[ab ay,ab aO]/\C o [] [R ay #[.pointer p] 155,R aO #[u] 38] w:=by
 have a:Own [] o:=C.start o;refine a2 func187 (bM 2 a j j (λaO w a=>bM 0 a j j (λb w a=>aq 3 j (gV j j j j ?_))));refine ao 1 j j (⟨aO,b,j,?_⟩);rw [c] at a;exact a.f1
theorem Cp{o:World}{p:Option Addr}:Calls prog 133 #[.pointer p] o λr w=>∃ay aO,r= .func (.func 230) #[] #[ab ay,ab aO]/\C o [] [R ay #[.pointer p] 155,[(aO,.cells #[.func (.func 188) #[] #[]] 38 (0,0))]] w:=by
 refine a2 func133 ?_;have a:=G8 (o:=o) (p:=p) (u:=.func (.func 188) #[] #[]) j;exact bh 6 a j (λr w b=>ao 1 j j b)
theorem G4{ay aO:Nat}{p:Option Addr}{m:List (Int×Value)}(V:m.length<=1000000):Iter prog 230 #[ab ay,ab aO] [R ay #[.pointer p] 155,[(aO,.cells #[.func (.func 188) #[] #[]] 38 (0,0))]] (λ_ w=>dE 239 w p m) (λ_=>True) (λq:Int×Value=> #[bL q.1,q.2]) (pB m) (λxs=>xs=dn m):=by
 intro l ap aC ae o a c Q _ z az af;show Calls _ _ #[fN l,ab ay,ab aO] o _;obtain⟨h,B⟩:∃h,h=au ([R ay #[.pointer p] 155,[(aO,.cells #[.func (.func 188) #[] #[]] 38 (0,0))]]++ae):=⟨_,j⟩;have a:C o h (R ay #[.pointer p] 155::[(aO,.cells #[.func (.func 188) #[] #[]] 38 (0,0))]::ae) o:=B▸a;rw [<-B];have E:=Q;refine a2 func230 (al 3 j (aw (C.ak a) j) (bm 1 j j (λeC=>?_) (λeC=>?_)))
 .refine ao 0 j j ?_;obtain⟨rfl,rfl⟩:=E.jk eC;exact⟨ae,a,.inl ⟨[],(by show []=dn [];simp),c⟩⟩
 obtain⟨u,ah,I,rfl,f,Y,hm⟩:=E.jn eC;have X:(m.map Prod.fst).Nodup:=hm.nodup (P:=prog) (cY:=3);refine al 3 j (aw (C.ak a) j) (al 2 j (cell_of f j) ?_);have g:=Dy hm Y;refine bh 0 g j (λr w⟨d,s,aa⟩=>?_);subst s;have c:=z _ _ _ _ [] c aa.bare (by simp);have a:=a.aM aa;have G:=aa;have g:=Ff (o:=w) (ah:=d);refine bh 4 g j (λr w⟨n,s,aa⟩=>?_);subst s;have c:=z _ _ _ _ [] c aa.bare (by simp);have a:=a.aM aa
 have F:o.heap.size<=n/\o.heap.size<=d:=by
  have M:=aa.own n (by simp [au]);have N:=G.own d (by simp [au]);have av:=G.size;simp at M N;omega
 have g:=q3 (Fb (ay:=n) (ah:=d) hm) V a.cB;refine bh 0 g j (λr w⟨ag,D,aa⟩=>?_);have J:n∉au ae/\d∉au ae:=⟨fw (fw (fw a.jj)),fw (fw a.drop.jj)⟩;have c:=z _ _ _ _ [n,d] c aa.bare (by intro b f;simp at f;rcases f with rfl|rfl<;>first|exact⟨F.1,J.1⟩|exact⟨F.2,J.2⟩);have a:=a.cA aa;have a:C o h (R ay #[ab u] 155::[(aO,.cells #[.func (.func 188) #[] #[]] 38 (0,0))]::[(d,I)]::ag::ae) w:=a.drop.f2.f3.f1;obtain⟨K,hb,rfl,_,_,_,_⟩:=D.rd a.f3
 refine cH 3 j (ct:=Nat×List (List Chunk)) (λi=>[(0,fN l),(2,ab aO),(4,.map (some d)),(16,.slice K m.length hb),(17,.int .i64 (m.length:Nat)),(18,.int .i64 (i.1:Nat))])
  (λi w=>i.1<=m.length/\ap ((dn m).take i.1) i.2 w/\C o h (R ay #[ab u] 155::[(aO,.cells #[.func (.func 188) #[] #[]] 38 (0,0))]::[(d,I)]::ag::i.2) w) (λi=>m.length-i.1) (0,ae) ⟨j,j,j,j,j,j,aY⟩ ⟨b6 _,by simpa using c,a⟩ ?_
 rintro⟨i,ai⟩ w ⟨S,c,a⟩;dsimp only at S c a⊢;refine cm 4 j j (λL=>?_) (λL=>?_)
 .have A:i<m.length:=by omega
  have t:i<(dn m).length:=by rw [iA];exact A
  obtain⟨_,_,e,_,_,Z,_⟩:=D.rd a.f3;cases e
  have U:((jN (m.map Prod.fst)).map bL)[i]? =some (bL (dn m)[i].1):=by
   rw [<-q7,gN,gN,cf t];rfl
  refine aq 5 j (fz j j j j Z (v:=bL (dn m)[i].1) (by simpa using U) A (λar O ax=>?_));subst O;refine al 0 j (by assumption) (al 3 j (a.f1.cell j) ?_);have g:=Cm (o:=w) (k:=bL (dn m)[i].1);refine aq 1 j (hL j j j j g (λr aB⟨s,hw⟩=>?_));subst s;subst hw;refine aq 1 j (bS 25 (.bool true) j (aH Value.bool (j)) ?_);have W:aZ m (dn m)[i].1=some (dn m)[i].2:=nu X (ot.1 (et t));refine aq 4 j (pR hm (a.f2.first) j j j j ?_);refine bS 30 ((dn m)[i].2) j (by rw [W];rfl) ?_;obtain⟨an,ac⟩:=q4 t;have aj:=af ((dn m).take i) (dn m)[i] ai _ ⟨an,ac⟩ c (C.jo (H:=[R ay #[ab u] 155,[(aO,.cells #[.func (.func 188) #[] #[]] 38 (0,0))],[(d,I)],ag]) a);refine jS j j j j aj (λb w⟨aA,am,f⟩=>?_);have a:=C.jh (H:=[R ay #[ab u] 155,[(aO,.cells #[.func (.func 188) #[] #[]] 38 (0,0))],[(d,I)],ag]) a am;refine bm 2 j j (λx=>?_) (λx=>?_)
  .refine ao 0 j j ?_;have y:b=false:=by cases b<;>first|rfl|exact absurd x (by decide)
   subst y;exact⟨aA,a.f3.drop.f2.drop,.inr (by simpa using f)⟩
  refine bq 2 j j j (cM i (by omega)) (bP 1 j ?_);have y:b=true:=by cases b<;>first|rfl|exact absurd x (by decide)
  subst y;refine⟨(i+1,aA),⟨j,j,j,j,j,j,aY⟩,⟨A,?_,a⟩,by dsimp only;omega⟩;dsimp only;rw [q6 t];simpa using f
 refine ao 1 j j ?_;have T:i=m.length:=by omega
 subst T;have ad:(dn m).take m.length=dn m:=by rw [<-iA m,gu]
 rw [ad] at c;exact⟨ai,a.f3.drop.f2.drop,.inl ⟨_,j,c⟩⟩
theorem Cn{o:World}{k:Value}:Calls prog 208 #[k] o λr w=>r= .bool true/\w=o:=by
 refine a2 func208 ?_;refine ao 6 j j ?_;exact⟨j,j⟩
theorem G9{o:World}{p:Option Addr}{u:Value}(c:u.cells= #[u]):Calls prog 207 #[.pointer p,u] o λr w=>∃ay aO,r= .func (.func 257) #[] #[ab ay,ab aO]/\C o [] [R ay #[.pointer p] 154,R aO #[u] 38] w:=by
 have a:Own [] o:=C.start o;refine a2 func207 (bM 2 a j j (λaO w a=>bM 0 a j j (λb w a=>aq 3 j (gV j j j j ?_))));refine ao 1 j j (⟨aO,b,j,?_⟩);rw [c] at a;exact a.f1
theorem Cq{o:World}{p:Option Addr}:Calls prog 165 #[.pointer p] o λr w=>∃ay aO,r= .func (.func 257) #[] #[ab ay,ab aO]/\C o [] [R ay #[.pointer p] 154,[(aO,.cells #[.func (.func 208) #[] #[]] 38 (0,0))]] w:=by
 refine a2 func165 ?_;have a:=G9 (o:=o) (p:=p) (u:=.func (.func 208) #[] #[]) j;exact bh 6 a j (λr w b=>ao 1 j j b)
theorem G5{ay aO:Nat}{p:Option Addr}{m:List (Int×Value)}(V:m.length<=1000000):Iter prog 257 #[ab ay,ab aO] [R ay #[.pointer p] 154,[(aO,.cells #[.func (.func 208) #[] #[]] 38 (0,0))]] (λ_ w=>dE 271 w p m) (λ_=>True) (λq:Int×Value=> #[bL q.1,q.2]) (pB m) (λxs=>xs=dn m):=by
 intro l ap aC ae o a c Q _ z az af;show Calls _ _ #[fN l,ab ay,ab aO] o _;obtain⟨h,B⟩:∃h,h=au ([R ay #[.pointer p] 154,[(aO,.cells #[.func (.func 208) #[] #[]] 38 (0,0))]]++ae):=⟨_,j⟩;have a:C o h (R ay #[.pointer p] 154::[(aO,.cells #[.func (.func 208) #[] #[]] 38 (0,0))]::ae) o:=B▸a;rw [<-B];have E:=Q;refine a2 func257 (al 3 j (aw (C.ak a) j) (bm 1 j j (λeC=>?_) (λeC=>?_)))
 .refine ao 0 j j ?_;obtain⟨rfl,rfl⟩:=E.jk eC;exact⟨ae,a,.inl ⟨[],(by show []=dn [];simp),c⟩⟩
 obtain⟨u,ah,I,rfl,f,Y,hm⟩:=E.jn eC;have X:(m.map Prod.fst).Nodup:=hm.nodup (P:=prog) (cY:=3);refine al 3 j (aw (C.ak a) j) (al 2 j (cell_of f j) ?_);have g:=Dz hm Y;refine bh 0 g j (λr w⟨d,s,aa⟩=>?_);subst s;have c:=z _ _ _ _ [] c aa.bare (by simp);have a:=a.aM aa;have G:=aa;have g:=Fg (o:=w) (ah:=d);refine bh 4 g j (λr w⟨n,s,aa⟩=>?_);subst s;have c:=z _ _ _ _ [] c aa.bare (by simp);have a:=a.aM aa
 have F:o.heap.size<=n/\o.heap.size<=d:=by
  have M:=aa.own n (by simp [au]);have N:=G.own d (by simp [au]);have av:=G.size;simp at M N;omega
 have g:=q3 (Fc (ay:=n) (ah:=d) hm) V a.cB;refine bh 0 g j (λr w⟨ag,D,aa⟩=>?_);have J:n∉au ae/\d∉au ae:=⟨fw (fw (fw a.jj)),fw (fw a.drop.jj)⟩;have c:=z _ _ _ _ [n,d] c aa.bare (by intro b f;simp at f;rcases f with rfl|rfl<;>first|exact⟨F.1,J.1⟩|exact⟨F.2,J.2⟩);have a:=a.cA aa;have a:C o h (R ay #[ab u] 154::[(aO,.cells #[.func (.func 208) #[] #[]] 38 (0,0))]::[(d,I)]::ag::ae) w:=a.drop.f2.f3.f1;obtain⟨K,hb,rfl,_,_,_,_⟩:=D.rd a.f3
 refine cH 3 j (ct:=Nat×List (List Chunk)) (λi=>[(0,fN l),(2,ab aO),(4,.map (some d)),(16,.slice K m.length hb),(17,.int .i64 (m.length:Nat)),(18,.int .i64 (i.1:Nat))])
  (λi w=>i.1<=m.length/\ap ((dn m).take i.1) i.2 w/\C o h (R ay #[ab u] 154::[(aO,.cells #[.func (.func 208) #[] #[]] 38 (0,0))]::[(d,I)]::ag::i.2) w) (λi=>m.length-i.1) (0,ae) ⟨j,j,j,j,j,j,aY⟩ ⟨b6 _,by simpa using c,a⟩ ?_
 rintro⟨i,ai⟩ w ⟨S,c,a⟩;dsimp only at S c a⊢;refine cm 4 j j (λL=>?_) (λL=>?_)
 .have A:i<m.length:=by omega
  have t:i<(dn m).length:=by rw [iA];exact A
  obtain⟨_,_,e,_,_,Z,_⟩:=D.rd a.f3;cases e
  have U:((jN (m.map Prod.fst)).map bL)[i]? =some (bL (dn m)[i].1):=by
   rw [<-q7,gN,gN,cf t];rfl
  refine aq 5 j (fz j j j j Z (v:=bL (dn m)[i].1) (by simpa using U) A (λar O ax=>?_));subst O;refine al 0 j (by assumption) (al 3 j (a.f1.cell j) ?_);have g:=Cn (o:=w) (k:=bL (dn m)[i].1);refine aq 1 j (hL j j j j g (λr aB⟨s,hw⟩=>?_));subst s;subst hw;refine aq 1 j (bS 25 (.bool true) j (aH Value.bool (j)) ?_);have W:aZ m (dn m)[i].1=some (dn m)[i].2:=nu X (ot.1 (et t));refine aq 4 j (pR hm (a.f2.first) j j j j ?_);refine bS 30 ((dn m)[i].2) j (by rw [W];rfl) ?_;obtain⟨an,ac⟩:=q4 t;have aj:=af ((dn m).take i) (dn m)[i] ai _ ⟨an,ac⟩ c (C.jo (H:=[R ay #[ab u] 154,[(aO,.cells #[.func (.func 208) #[] #[]] 38 (0,0))],[(d,I)],ag]) a);refine jS j j j j aj (λb w⟨aA,am,f⟩=>?_);have a:=C.jh (H:=[R ay #[ab u] 154,[(aO,.cells #[.func (.func 208) #[] #[]] 38 (0,0))],[(d,I)],ag]) a am;refine bm 2 j j (λx=>?_) (λx=>?_)
  .refine ao 0 j j ?_;have y:b=false:=by cases b<;>first|rfl|exact absurd x (by decide)
   subst y;exact⟨aA,a.f3.drop.f2.drop,.inr (by simpa using f)⟩
  refine bq 2 j j j (cM i (by omega)) (bP 1 j ?_);have y:b=true:=by cases b<;>first|rfl|exact absurd x (by decide)
  subst y;refine⟨(i+1,aA),⟨j,j,j,j,j,j,aY⟩,⟨A,?_,a⟩,by dsimp only;omega⟩;dsimp only;rw [q6 t];simpa using f
 refine ao 1 j j ?_;have T:i=m.length:=by omega
 subst T;have ad:(dn m).take m.length=dn m:=by rw [<-iA m,gu]
 rw [ad] at c;exact⟨ai,a.f3.drop.f2.drop,.inl ⟨_,j,c⟩⟩
theorem Ck{o:World}{k:Value}:Calls prog 271 #[k] o λr w=>r= .bool true/\w=o:=by
 refine a2 func271 ?_;refine ao 6 j j ?_;exact⟨j,j⟩
theorem G6{o:World}{p:Option Addr}{u:Value}(c:u.cells= #[u]):Calls prog 270 #[.pointer p,u] o λr w=>∃ay aO,r= .func (.func 298) #[] #[ab ay,ab aO]/\C o [] [R ay #[.pointer p] 219,R aO #[u] 38] w:=by
 have a:Own [] o:=C.start o;refine a2 func270 (bM 2 a j j (λaO w a=>bM 0 a j j (λb w a=>aq 3 j (gV j j j j ?_))));refine ao 1 j j (⟨aO,b,j,?_⟩);rw [c] at a;exact a.f1
theorem w1{o:World}{p:Option Addr}:Calls prog 235 #[.pointer p] o λr w=>∃ay aO,r= .func (.func 298) #[] #[ab ay,ab aO]/\C o [] [R ay #[.pointer p] 219,[(aO,.cells #[.func (.func 271) #[] #[]] 38 (0,0))]] w:=by
 refine a2 func235 ?_;have a:=G6 (o:=o) (p:=p) (u:=.func (.func 271) #[] #[]) j;exact bh 6 a j (λr w b=>ao 1 j j b)
theorem z5{ay aO:Nat}{p:Option Addr}{m:List (Int×Value)}(V:m.length<=1000000):Iter prog 298 #[ab ay,ab aO] [R ay #[.pointer p] 219,[(aO,.cells #[.func (.func 271) #[] #[]] 38 (0,0))]] (λ_ w=>dE 291 w p m) (λ_=>True) (λq:Int×Value=> #[bL q.1,q.2]) (pB m) (λxs=>xs=dn m):=by
 intro l ap aC ae o a c Q _ z az af;show Calls _ _ #[fN l,ab ay,ab aO] o _;obtain⟨h,B⟩:∃h,h=au ([R ay #[.pointer p] 219,[(aO,.cells #[.func (.func 271) #[] #[]] 38 (0,0))]]++ae):=⟨_,j⟩;have a:C o h (R ay #[.pointer p] 219::[(aO,.cells #[.func (.func 271) #[] #[]] 38 (0,0))]::ae) o:=B▸a;rw [<-B];have E:=Q;refine a2 func298 (al 3 j (aw (C.ak a) j) (bm 1 j j (λeC=>?_) (λeC=>?_)))
 .refine ao 0 j j ?_;obtain⟨rfl,rfl⟩:=E.jk eC;exact⟨ae,a,.inl ⟨[],(by show []=dn [];simp),c⟩⟩
 obtain⟨u,ah,I,rfl,f,Y,hm⟩:=E.jn eC;have X:(m.map Prod.fst).Nodup:=hm.nodup (P:=prog) (cY:=3);refine al 3 j (aw (C.ak a) j) (al 2 j (cell_of f j) ?_);have g:=Dw hm Y;refine bh 0 g j (λr w⟨d,s,aa⟩=>?_);subst s;have c:=z _ _ _ _ [] c aa.bare (by simp);have a:=a.aM aa;have G:=aa;have g:=Fd (o:=w) (ah:=d);refine bh 4 g j (λr w⟨n,s,aa⟩=>?_);subst s;have c:=z _ _ _ _ [] c aa.bare (by simp);have a:=a.aM aa
 have F:o.heap.size<=n/\o.heap.size<=d:=by
  have M:=aa.own n (by simp [au]);have N:=G.own d (by simp [au]);have av:=G.size;simp at M N;omega
 have g:=q3 (E9 (ay:=n) (ah:=d) hm) V a.cB;refine bh 0 g j (λr w⟨ag,D,aa⟩=>?_);have J:n∉au ae/\d∉au ae:=⟨fw (fw (fw a.jj)),fw (fw a.drop.jj)⟩;have c:=z _ _ _ _ [n,d] c aa.bare (by intro b f;simp at f;rcases f with rfl|rfl<;>first|exact⟨F.1,J.1⟩|exact⟨F.2,J.2⟩);have a:=a.cA aa;have a:C o h (R ay #[ab u] 219::[(aO,.cells #[.func (.func 271) #[] #[]] 38 (0,0))]::[(d,I)]::ag::ae) w:=a.drop.f2.f3.f1;obtain⟨K,hb,rfl,_,_,_,_⟩:=D.rd a.f3
 refine cH 3 j (ct:=Nat×List (List Chunk)) (λi=>[(0,fN l),(2,ab aO),(4,.map (some d)),(16,.slice K m.length hb),(17,.int .i64 (m.length:Nat)),(18,.int .i64 (i.1:Nat))])
  (λi w=>i.1<=m.length/\ap ((dn m).take i.1) i.2 w/\C o h (R ay #[ab u] 219::[(aO,.cells #[.func (.func 271) #[] #[]] 38 (0,0))]::[(d,I)]::ag::i.2) w) (λi=>m.length-i.1) (0,ae) ⟨j,j,j,j,j,j,aY⟩ ⟨b6 _,by simpa using c,a⟩ ?_
 rintro⟨i,ai⟩ w ⟨S,c,a⟩;dsimp only at S c a⊢;refine cm 4 j j (λL=>?_) (λL=>?_)
 .have A:i<m.length:=by omega
  have t:i<(dn m).length:=by rw [iA];exact A
  obtain⟨_,_,e,_,_,Z,_⟩:=D.rd a.f3;cases e
  have U:((jN (m.map Prod.fst)).map bL)[i]? =some (bL (dn m)[i].1):=by
   rw [<-q7,gN,gN,cf t];rfl
  refine aq 5 j (fz j j j j Z (v:=bL (dn m)[i].1) (by simpa using U) A (λar O ax=>?_));subst O;refine al 0 j (by assumption) (al 3 j (a.f1.cell j) ?_);have g:=Ck (o:=w) (k:=bL (dn m)[i].1);refine aq 1 j (hL j j j j g (λr aB⟨s,hw⟩=>?_));subst s;subst hw;refine aq 1 j (bS 25 (.bool true) j (aH Value.bool (j)) ?_);have W:aZ m (dn m)[i].1=some (dn m)[i].2:=nu X (ot.1 (et t));refine aq 4 j (pR hm (a.f2.first) j j j j ?_);refine bS 30 ((dn m)[i].2) j (by rw [W];rfl) ?_;obtain⟨an,ac⟩:=q4 t;have aj:=af ((dn m).take i) (dn m)[i] ai _ ⟨an,ac⟩ c (C.jo (H:=[R ay #[ab u] 219,[(aO,.cells #[.func (.func 271) #[] #[]] 38 (0,0))],[(d,I)],ag]) a);refine jS j j j j aj (λb w⟨aA,am,f⟩=>?_);have a:=C.jh (H:=[R ay #[ab u] 219,[(aO,.cells #[.func (.func 271) #[] #[]] 38 (0,0))],[(d,I)],ag]) a am;refine bm 2 j j (λx=>?_) (λx=>?_)
  .refine ao 0 j j ?_;have y:b=false:=by cases b<;>first|rfl|exact absurd x (by decide)
   subst y;exact⟨aA,a.f3.drop.f2.drop,.inr (by simpa using f)⟩
  refine bq 2 j j j (cM i (by omega)) (bP 1 j ?_);have y:b=true:=by cases b<;>first|rfl|exact absurd x (by decide)
  subst y;refine⟨(i+1,aA),⟨j,j,j,j,j,j,aY⟩,⟨A,?_,a⟩,by dsimp only;omega⟩;dsimp only;rw [q6 t];simpa using f
 refine ao 1 j j ?_;have T:i=m.length:=by omega
 subst T;have ad:(dn m).take m.length=dn m:=by rw [<-iA m,gu]
 rw [ad] at c;exact⟨ai,a.f3.drop.f2.drop,.inl ⟨_,j,c⟩⟩
theorem Cj{o:World}{k:Value}:Calls prog 304 #[k] o λr w=>r= .bool true/\w=o:=by
 refine a2 func304 ?_;refine ao 6 j j ?_;exact⟨j,j⟩
theorem G2{o:World}{p:Option Addr}{u:Value}(c:u.cells= #[u]):Calls prog 303 #[.pointer p,u] o λr w=>∃ay aO,r= .func (.func 327) #[] #[ab ay,ab aO]/\C o [] [R ay #[.pointer p] 283,R aO #[u] 38] w:=by
 have a:Own [] o:=C.start o;refine a2 func303 (bM 2 a j j (λaO w a=>bM 0 a j j (λb w a=>aq 3 j (gV j j j j ?_))));refine ao 1 j j (⟨aO,b,j,?_⟩);rw [c] at a;exact a.f1
theorem Co{o:World}{p:Option Addr}:Calls prog 276 #[.pointer p] o λr w=>∃ay aO,r= .func (.func 327) #[] #[ab ay,ab aO]/\C o [] [R ay #[.pointer p] 283,[(aO,.cells #[.func (.func 304) #[] #[]] 38 (0,0))]] w:=by
 refine a2 func276 ?_;have a:=G2 (o:=o) (p:=p) (u:=.func (.func 304) #[] #[]) j;exact bh 6 a j (λr w b=>ao 1 j j b)
theorem G3{ay aO:Nat}{p:Option Addr}{m:List (Int×Value)}(V:m.length<=1000000):Iter prog 327 #[ab ay,ab aO] [R ay #[.pointer p] 283,[(aO,.cells #[.func (.func 304) #[] #[]] 38 (0,0))]] (λ_ w=>dE 334 w p m) (λ_=>True) (λq:Int×Value=> #[bL q.1,q.2]) (pB m) (λxs=>xs=dn m):=by
 intro l ap aC ae o a c Q _ z az af;show Calls _ _ #[fN l,ab ay,ab aO] o _;obtain⟨h,B⟩:∃h,h=au ([R ay #[.pointer p] 283,[(aO,.cells #[.func (.func 304) #[] #[]] 38 (0,0))]]++ae):=⟨_,j⟩;have a:C o h (R ay #[.pointer p] 283::[(aO,.cells #[.func (.func 304) #[] #[]] 38 (0,0))]::ae) o:=B▸a;rw [<-B];have E:=Q;refine a2 func327 (al 3 j (aw (C.ak a) j) (bm 1 j j (λeC=>?_) (λeC=>?_)))
 .refine ao 0 j j ?_;obtain⟨rfl,rfl⟩:=E.jk eC;exact⟨ae,a,.inl ⟨[],(by show []=dn [];simp),c⟩⟩
 obtain⟨u,ah,I,rfl,f,Y,hm⟩:=E.jn eC;have X:(m.map Prod.fst).Nodup:=hm.nodup (P:=prog) (cY:=3);refine al 3 j (aw (C.ak a) j) (al 2 j (cell_of f j) ?_);have g:=Dv hm Y;refine bh 0 g j (λr w⟨d,s,aa⟩=>?_);subst s;have c:=z _ _ _ _ [] c aa.bare (by simp);have a:=a.aM aa;have G:=aa;have g:=E7 (o:=w) (ah:=d);refine bh 4 g j (λr w⟨n,s,aa⟩=>?_);subst s;have c:=z _ _ _ _ [] c aa.bare (by simp);have a:=a.aM aa
 have F:o.heap.size<=n/\o.heap.size<=d:=by
  have M:=aa.own n (by simp [au]);have N:=G.own d (by simp [au]);have av:=G.size;simp at M N;omega
 have g:=q3 (E8 (ay:=n) (ah:=d) hm) V a.cB;refine bh 0 g j (λr w⟨ag,D,aa⟩=>?_);have J:n∉au ae/\d∉au ae:=⟨fw (fw (fw a.jj)),fw (fw a.drop.jj)⟩;have c:=z _ _ _ _ [n,d] c aa.bare (by intro b f;simp at f;rcases f with rfl|rfl<;>first|exact⟨F.1,J.1⟩|exact⟨F.2,J.2⟩);have a:=a.cA aa;have a:C o h (R ay #[ab u] 283::[(aO,.cells #[.func (.func 304) #[] #[]] 38 (0,0))]::[(d,I)]::ag::ae) w:=a.drop.f2.f3.f1;obtain⟨K,hb,rfl,_,_,_,_⟩:=D.rd a.f3
 refine cH 3 j (ct:=Nat×List (List Chunk)) (λi=>[(0,fN l),(2,ab aO),(4,.map (some d)),(16,.slice K m.length hb),(17,.int .i64 (m.length:Nat)),(18,.int .i64 (i.1:Nat))])
  (λi w=>i.1<=m.length/\ap ((dn m).take i.1) i.2 w/\C o h (R ay #[ab u] 283::[(aO,.cells #[.func (.func 304) #[] #[]] 38 (0,0))]::[(d,I)]::ag::i.2) w) (λi=>m.length-i.1) (0,ae) ⟨j,j,j,j,j,j,aY⟩ ⟨b6 _,by simpa using c,a⟩ ?_
 rintro⟨i,ai⟩ w ⟨S,c,a⟩;dsimp only at S c a⊢;refine cm 4 j j (λL=>?_) (λL=>?_)
 .have A:i<m.length:=by omega
  have t:i<(dn m).length:=by rw [iA];exact A
  obtain⟨_,_,e,_,_,Z,_⟩:=D.rd a.f3;cases e
  have U:((jN (m.map Prod.fst)).map bL)[i]? =some (bL (dn m)[i].1):=by
   rw [<-q7,gN,gN,cf t];rfl
  refine aq 5 j (fz j j j j Z (v:=bL (dn m)[i].1) (by simpa using U) A (λar O ax=>?_));subst O;refine al 0 j (by assumption) (al 3 j (a.f1.cell j) ?_);have g:=Cj (o:=w) (k:=bL (dn m)[i].1);refine aq 1 j (hL j j j j g (λr aB⟨s,hw⟩=>?_));subst s;subst hw;refine aq 1 j (bS 25 (.bool true) j (aH Value.bool (j)) ?_);have W:aZ m (dn m)[i].1=some (dn m)[i].2:=nu X (ot.1 (et t));refine aq 4 j (pR hm (a.f2.first) j j j j ?_);refine bS 30 ((dn m)[i].2) j (by rw [W];rfl) ?_;obtain⟨an,ac⟩:=q4 t;have aj:=af ((dn m).take i) (dn m)[i] ai _ ⟨an,ac⟩ c (C.jo (H:=[R ay #[ab u] 283,[(aO,.cells #[.func (.func 304) #[] #[]] 38 (0,0))],[(d,I)],ag]) a);refine jS j j j j aj (λb w⟨aA,am,f⟩=>?_);have a:=C.jh (H:=[R ay #[ab u] 283,[(aO,.cells #[.func (.func 304) #[] #[]] 38 (0,0))],[(d,I)],ag]) a am;refine bm 2 j j (λx=>?_) (λx=>?_)
  .refine ao 0 j j ?_;have y:b=false:=by cases b<;>first|rfl|exact absurd x (by decide)
   subst y;exact⟨aA,a.f3.drop.f2.drop,.inr (by simpa using f)⟩
  refine bq 2 j j j (cM i (by omega)) (bP 1 j ?_);have y:b=true:=by cases b<;>first|rfl|exact absurd x (by decide)
  subst y;refine⟨(i+1,aA),⟨j,j,j,j,j,j,aY⟩,⟨A,?_,a⟩,by dsimp only;omega⟩;dsimp only;rw [q6 t];simpa using f
 refine ao 1 j j ?_;have T:i=m.length:=by omega
 subst T;have ad:(dn m).take m.length=dn m:=by rw [<-iA m,gu]
 rw [ad] at c;exact⟨ai,a.f3.drop.f2.drop,.inl ⟨_,j,c⟩⟩
theorem Cl{o:World}{k:Value}:Calls prog 312 #[k] o λr w=>r= .bool true/\w=o:=by
 refine a2 func312 ?_;refine ao 6 j j ?_;exact⟨j,j⟩
theorem G7{o:World}{p:Option Addr}{u:Value}(c:u.cells= #[u]):Calls prog 311 #[.pointer p,u] o λr w=>∃ay aO,r= .func (.func 333) #[] #[ab ay,ab aO]/\C o [] [R ay #[.pointer p] 71,R aO #[u] 38] w:=by
 have a:Own [] o:=C.start o;refine a2 func311 (bM 2 a j j (λaO w a=>bM 0 a j j (λb w a=>aq 3 j (gV j j j j ?_))));refine ao 1 j j (⟨aO,b,j,?_⟩);rw [c] at a;exact a.f1
theorem w2{o:World}{p:Option Addr}:Calls prog 286 #[.pointer p] o λr w=>∃ay aO,r= .func (.func 333) #[] #[ab ay,ab aO]/\C o [] [R ay #[.pointer p] 71,[(aO,.cells #[.func (.func 312) #[] #[]] 38 (0,0))]] w:=by
 refine a2 func286 ?_;have a:=G7 (o:=o) (p:=p) (u:=.func (.func 312) #[] #[]) j;exact bh 6 a j (λr w b=>ao 1 j j b)
theorem z6{ay aO:Nat}{p:Option Addr}{m:List (Int×Value)}(V:m.length<=1000000):Iter prog 333 #[ab ay,ab aO] [R ay #[.pointer p] 71,[(aO,.cells #[.func (.func 312) #[] #[]] 38 (0,0))]] (λ_ w=>dE 294 w p m) (λ_=>True) (λq:Int×Value=> #[bL q.1,q.2]) (pB m) (λxs=>xs=dn m):=by
 intro l ap aC ae o a c Q _ z az af;show Calls _ _ #[fN l,ab ay,ab aO] o _;obtain⟨h,B⟩:∃h,h=au ([R ay #[.pointer p] 71,[(aO,.cells #[.func (.func 312) #[] #[]] 38 (0,0))]]++ae):=⟨_,j⟩;have a:C o h (R ay #[.pointer p] 71::[(aO,.cells #[.func (.func 312) #[] #[]] 38 (0,0))]::ae) o:=B▸a;rw [<-B];have E:=Q;refine a2 func333 (al 3 j (aw (C.ak a) j) (bm 1 j j (λeC=>?_) (λeC=>?_)))
 .refine ao 0 j j ?_;obtain⟨rfl,rfl⟩:=E.jk eC;exact⟨ae,a,.inl ⟨[],(by show []=dn [];simp),c⟩⟩
 obtain⟨u,ah,I,rfl,f,Y,hm⟩:=E.jn eC;have X:(m.map Prod.fst).Nodup:=hm.nodup (P:=prog) (cY:=3);refine al 3 j (aw (C.ak a) j) (al 2 j (cell_of f j) ?_);have g:=Dx hm Y;refine bh 0 g j (λr w⟨d,s,aa⟩=>?_);subst s;have c:=z _ _ _ _ [] c aa.bare (by simp);have a:=a.aM aa;have G:=aa;have g:=Fe (o:=w) (ah:=d);refine bh 4 g j (λr w⟨n,s,aa⟩=>?_);subst s;have c:=z _ _ _ _ [] c aa.bare (by simp);have a:=a.aM aa
 have F:o.heap.size<=n/\o.heap.size<=d:=by
  have M:=aa.own n (by simp [au]);have N:=G.own d (by simp [au]);have av:=G.size;simp at M N;omega
 have g:=q3 (Fa (ay:=n) (ah:=d) hm) V a.cB;refine bh 0 g j (λr w⟨ag,D,aa⟩=>?_);have J:n∉au ae/\d∉au ae:=⟨fw (fw (fw a.jj)),fw (fw a.drop.jj)⟩;have c:=z _ _ _ _ [n,d] c aa.bare (by intro b f;simp at f;rcases f with rfl|rfl<;>first|exact⟨F.1,J.1⟩|exact⟨F.2,J.2⟩);have a:=a.cA aa;have a:C o h (R ay #[ab u] 71::[(aO,.cells #[.func (.func 312) #[] #[]] 38 (0,0))]::[(d,I)]::ag::ae) w:=a.drop.f2.f3.f1;obtain⟨K,hb,rfl,_,_,_,_⟩:=D.rd a.f3
 refine cH 3 j (ct:=Nat×List (List Chunk)) (λi=>[(0,fN l),(2,ab aO),(4,.map (some d)),(16,.slice K m.length hb),(17,.int .i64 (m.length:Nat)),(18,.int .i64 (i.1:Nat))])
  (λi w=>i.1<=m.length/\ap ((dn m).take i.1) i.2 w/\C o h (R ay #[ab u] 71::[(aO,.cells #[.func (.func 312) #[] #[]] 38 (0,0))]::[(d,I)]::ag::i.2) w) (λi=>m.length-i.1) (0,ae) ⟨j,j,j,j,j,j,aY⟩ ⟨b6 _,by simpa using c,a⟩ ?_
 rintro⟨i,ai⟩ w ⟨S,c,a⟩;dsimp only at S c a⊢;refine cm 4 j j (λL=>?_) (λL=>?_)
 .have A:i<m.length:=by omega
  have t:i<(dn m).length:=by rw [iA];exact A
  obtain⟨_,_,e,_,_,Z,_⟩:=D.rd a.f3;cases e
  have U:((jN (m.map Prod.fst)).map bL)[i]? =some (bL (dn m)[i].1):=by
   rw [<-q7,gN,gN,cf t];rfl
  refine aq 5 j (fz j j j j Z (v:=bL (dn m)[i].1) (by simpa using U) A (λar O ax=>?_));subst O;refine al 0 j (by assumption) (al 3 j (a.f1.cell j) ?_);have g:=Cl (o:=w) (k:=bL (dn m)[i].1);refine aq 1 j (hL j j j j g (λr aB⟨s,hw⟩=>?_));subst s;subst hw;refine aq 1 j (bS 25 (.bool true) j (aH Value.bool (j)) ?_);have W:aZ m (dn m)[i].1=some (dn m)[i].2:=nu X (ot.1 (et t));refine aq 4 j (pR hm (a.f2.first) j j j j ?_);refine bS 30 ((dn m)[i].2) j (by rw [W];rfl) ?_;obtain⟨an,ac⟩:=q4 t;have aj:=af ((dn m).take i) (dn m)[i] ai _ ⟨an,ac⟩ c (C.jo (H:=[R ay #[ab u] 71,[(aO,.cells #[.func (.func 312) #[] #[]] 38 (0,0))],[(d,I)],ag]) a);refine jS j j j j aj (λb w⟨aA,am,f⟩=>?_);have a:=C.jh (H:=[R ay #[ab u] 71,[(aO,.cells #[.func (.func 312) #[] #[]] 38 (0,0))],[(d,I)],ag]) a am;refine bm 2 j j (λx=>?_) (λx=>?_)
  .refine ao 0 j j ?_;have y:b=false:=by cases b<;>first|rfl|exact absurd x (by decide)
   subst y;exact⟨aA,a.f3.drop.f2.drop,.inr (by simpa using f)⟩
  refine bq 2 j j j (cM i (by omega)) (bP 1 j ?_);have y:b=true:=by cases b<;>first|rfl|exact absurd x (by decide)
  subst y;refine⟨(i+1,aA),⟨j,j,j,j,j,j,aY⟩,⟨A,?_,a⟩,by dsimp only;omega⟩;dsimp only;rw [q6 t];simpa using f
 refine ao 1 j j ?_;have T:i=m.length:=by omega
 subst T;have ad:(dn m).take m.length=dn m:=by rw [<-iA m,gu]
 rw [ad] at c;exact⟨ai,a.f3.drop.f2.drop,.inl ⟨_,j,c⟩⟩
theorem Ft{l:List UInt8}(h:l.length=32):l=[l.getD 0 0,l.getD 1 0,l.getD 2 0,l.getD 3 0,l.getD 4 0,l.getD 5 0,l.getD 6 0,l.getD 7 0,l.getD 8 0,l.getD 9 0,l.getD 10 0,l.getD 11 0,l.getD 12 0,l.getD 13 0,l.getD 14 0,l.getD 15 0,l.getD 16 0,l.getD 17 0,l.getD 18 0,l.getD 19 0,l.getD 20 0,l.getD 21 0,l.getD 22 0,l.getD 23 0,l.getD 24 0,l.getD 25 0,l.getD 26 0,l.getD 27 0,l.getD 28 0,l.getD 29 0,l.getD 30 0,l.getD 31 0]:=by
 apply oG;intro i
 match i with
 |0=>rw [cf (show 0<l.length by omega)];simp [List.getD,cf (show 0<l.length by omega)]
 |1=>rw [cf (show 1<l.length by omega)];simp [List.getD,cf (show 1<l.length by omega)]
 |2=>rw [cf (show 2<l.length by omega)];simp [List.getD,cf (show 2<l.length by omega)]
 |3=>rw [cf (show 3<l.length by omega)];simp [List.getD,cf (show 3<l.length by omega)]
 |4=>rw [cf (show 4<l.length by omega)];simp [List.getD,cf (show 4<l.length by omega)]
 |5=>rw [cf (show 5<l.length by omega)];simp [List.getD,cf (show 5<l.length by omega)]
 |6=>rw [cf (show 6<l.length by omega)];simp [List.getD,cf (show 6<l.length by omega)]
 |7=>rw [cf (show 7<l.length by omega)];simp [List.getD,cf (show 7<l.length by omega)]
 |8=>rw [cf (show 8<l.length by omega)];simp [List.getD,cf (show 8<l.length by omega)]
 |9=>rw [cf (show 9<l.length by omega)];simp [List.getD,cf (show 9<l.length by omega)]
 |10=>rw [cf (show 10<l.length by omega)];simp [List.getD,cf (show 10<l.length by omega)]
 |11=>rw [cf (show 11<l.length by omega)];simp [List.getD,cf (show 11<l.length by omega)]
 |12=>rw [cf (show 12<l.length by omega)];simp [List.getD,cf (show 12<l.length by omega)]
 |13=>rw [cf (show 13<l.length by omega)];simp [List.getD,cf (show 13<l.length by omega)]
 |14=>rw [cf (show 14<l.length by omega)];simp [List.getD,cf (show 14<l.length by omega)]
 |15=>rw [cf (show 15<l.length by omega)];simp [List.getD,cf (show 15<l.length by omega)]
 |16=>rw [cf (show 16<l.length by omega)];simp [List.getD,cf (show 16<l.length by omega)]
 |17=>rw [cf (show 17<l.length by omega)];simp [List.getD,cf (show 17<l.length by omega)]
 |18=>rw [cf (show 18<l.length by omega)];simp [List.getD,cf (show 18<l.length by omega)]
 |19=>rw [cf (show 19<l.length by omega)];simp [List.getD,cf (show 19<l.length by omega)]
 |20=>rw [cf (show 20<l.length by omega)];simp [List.getD,cf (show 20<l.length by omega)]
 |21=>rw [cf (show 21<l.length by omega)];simp [List.getD,cf (show 21<l.length by omega)]
 |22=>rw [cf (show 22<l.length by omega)];simp [List.getD,cf (show 22<l.length by omega)]
 |23=>rw [cf (show 23<l.length by omega)];simp [List.getD,cf (show 23<l.length by omega)]
 |24=>rw [cf (show 24<l.length by omega)];simp [List.getD,cf (show 24<l.length by omega)]
 |25=>rw [cf (show 25<l.length by omega)];simp [List.getD,cf (show 25<l.length by omega)]
 |26=>rw [cf (show 26<l.length by omega)];simp [List.getD,cf (show 26<l.length by omega)]
 |27=>rw [cf (show 27<l.length by omega)];simp [List.getD,cf (show 27<l.length by omega)]
 |28=>rw [cf (show 28<l.length by omega)];simp [List.getD,cf (show 28<l.length by omega)]
 |29=>rw [cf (show 29<l.length by omega)];simp [List.getD,cf (show 29<l.length by omega)]
 |30=>rw [cf (show 30<l.length by omega)];simp [List.getD,cf (show 30<l.length by omega)]
 |31=>rw [cf (show 31<l.length by omega)];simp [List.getD,cf (show 31<l.length by omega)]
 |i+32=>rw [lv (by omega),lv (by simp)]
theorem C.gr{o w:World}{F:List Nat}{ae:List (List Chunk)}{b:Nat}{c a:Array Value}{e:TypeId}{e3:Nat×Nat}(h:C o F ([(b,.cells c e e3)]::ae) w)(d:c=a):C o F ([(b,.cells a e e3)]::ae) w:=d▸h
def cS(g:am)(k s v:Int)(sum:List UInt8)(f:Int):aF:=⟨k,s,v,sum,f,g.cr f (aF.lR ⟨k,s,v,sum,f,cL⟩)⟩
theorem iX(g:am)(k s v:Int)(sum:List UInt8)(f:Int)(h:sum.length=32):(cS g k s v sum f).ok:=⟨h,am.ec _ _ _⟩
def cR(g:am)(x:aF):Bool:=g.check x.f x.lR x.tag
theorem Ar(x:aF)(h:x.ok):x.lR.length<=100:=by
 have a:=gg [5,x.k,x.s,x.v];have b:=gg [x.f];simp only [aF.lR,b4,h.1];simp only [ez,gk] at a b;omega
theorem aF.Iz(x:aF)(d:x.ok)(t:List UInt8)(c:t.length=32):setCells x.cs.toArray 36 (aG t)=({x with tag:=t}:aF).cs.toArray:=by
 apply rR;intro i;have g:x.cs.length=68:=x.len d;have j:x.cs=(ad x.k::ad x.s::ad x.v::(aG x.sum++[ad x.f]))++aG x.tag:=by simp [aF.cs]
 have h:({x with tag:=t}:aF).cs=(ad x.k::ad x.s::ad x.v::(aG x.sum++[ad x.f]))++aG t:=by simp [aF.cs]
 have a:(ad x.k::ad x.s::ad x.v::(aG x.sum++[ad x.f])).length=36:=by simp [ds,d.1]
 rw [pr _ _ _ (by rw [ds,c,hy,g];decide)];simp only [na];rw [j,h,ds,c];by_cases b:36<=i/\i<36+32
 .rw [a6 b,jf (by rw [a];exact b.1),a]
 .rw [aI b];by_cases e:i<36
  .rw [iC (by rw [a];exact e),iC (by rw [a];exact e)]
  .rw [lv (by rw [b4,a,ds,d.2];omega),List.getElem?_eq_none (by rw [List.length_append,a,ds,c];omega)]
theorem o6{o:World}{g:am}(n:g.at o)(t:g.ok){k s v f:Int}{sum:List UInt8}(aL:sum.length=32):Calls prog 88 #[g.p,ad k,ad s,ad v,.agg (aG sum).toArray,ad f] o λr w=>r= .agg (cS g k s v sum f).cs.toArray/\C o [] [] w:=by
 have a:Own [] o:=C.start o;have b:(⟨k,s,v,sum,f,cL⟩:aF).ok:=⟨aL,j⟩;have x:(aG sum).length=32:=by rw [ds,aL]
 refine e9 func88 ?_;refine bM 2 a j j (λz w a=>?_);refine cl 0 a j (λA w a=>?_);refine bN 5 (U:=aG sum) j j x a.f1.bE ?_;refine aq 1 j (cP (c:=(⟨k,s,v,sum,f,cL⟩:aF).cs.toArray) j j j (λ_=>by rw [Ft aL];kernel_rfl) ?_);refine cl 0 a j (λl w a=>?_);refine ck 0 a j j j (by simpa using(⟨k,s,v,sum,f,cL⟩:aF).one) (by rw [List.size_toArray];exact(⟨k,s,v,sum,f,cL⟩:aF).len b) (λw a=>?_);have a:=C.whole (U:=(⟨k,s,v,sum,f,cL⟩:aF).cs) a (by rw [(⟨k,s,v,sum,f,cL⟩:aF).len b];rfl);refine bN 4 (U:=(⟨k,s,v,sum,f,cL⟩:aF).cs) j j ((⟨k,s,v,sum,f,cL⟩:aF).len b) a.bE ?_;have e:=A2 (o:=w) b;refine bh 0 e j (λr w⟨G,m,aa⟩=>?_);have a:=a.aM aa;obtain⟨y,g2,rfl,B,_,u,_⟩:=m.rd a;have e:=nD (n.st a (am.off.nil g)) t (i:=f) u (by have:=Ar _ b;omega) (d:=g2);refine bh 0 e j (λr w⟨h,q⟩=>?_);have h:r= .agg (aG (cS g k s v sum f).tag).toArray:=h;subst h;have a:=(a.aM q).f1;refine aq 1 j (c4 a j j j (by simpa using fc (cS g k s v sum f).tag) (by rw [List.size_toArray,ds];exact(iX g k s v sum f aL).2) (by rw [List.size_toArray,(⟨k,s,v,sum,f,cL⟩:aF).len b];decide) (λw a=>?_));have a:=C.gr a ((⟨k,s,v,sum,f,cL⟩:aF).Iz b (cS g k s v sum f).tag (iX g k s v sum f aL).2);have a:C o [] (R l (cS g k s v sum f).cs.toArray 115::_) w:=a;refine bN 2 (U:=(cS g k s v sum f).cs) j j ((cS g k s v sum f).len (iX g k s v sum f aL)) a.bE ?_;have a:=a.f2;refine ck 0 a j j j (by simpa using(cS g k s v sum f).one) (by rw [List.size_toArray];exact(cS g k s v sum f).len (iX g k s v sum f aL)) (λw a=>?_);have a:=C.whole (U:=(cS g k s v sum f).cs) a (by rw [(cS g k s v sum f).len (iX g k s v sum f aL)];rfl);refine bI 0 j ⟨_,hf (U:=(cS g k s v sum f).cs) results88 j j ((cS g k s v sum f).len (iX g k s v sum f aL)) a.bE,?_⟩;exact⟨j,a.bare⟩
theorem sj{o:World}{g:am}(e:g.at o)(h:g.ok){x:aF}(b:x.ok):Calls prog 163 #[g.p,.agg x.cs.toArray] o λr w=>r= .bool (cR g x)/\C o [] [] w:=by
 have a:Own [] o:=C.start o;refine a2 func163 (bM 2 a j j (λc w a=>?_));have a:=a.drew;refine bw 2 j (λw=>∃ae,C o [] ([R c (x).cs.toArray 115]++ae) w) ⟨_,a⟩ (af 0 2 j (bT 2 j (λw⟨_,a⟩=>a.cell (x.eS b)) (aT 3 j (λw⟨_,a⟩=>c3 (U:=x.cs) j j (x.len b) a.bE) (af 5 1 j (aT 6 j (λw⟨_,a⟩=>c3 (U:=aG x.tag) j j (by rw [ds];exact b.2) (a.i6 (off:=0+36) (U:=aG x.tag) (x.r6 b))) (aU 4 j (cN j j j (A2 b) (λr w⟨G,d,aa⟩=>?_))))))));have a:=a.aM aa;obtain⟨k,g2,rfl,l,_,i,_⟩:=d.rd a;have a:=a.f1;refine ar ⟨⟨_,a⟩,?_⟩;refine aU 7 j (bF j j j (r0 (e.st a (am.off.nil g)) h i (by have:=Ar _ b;omega) b.2) (λw f=>?_));have a:=(a.aM f);refine ar ⟨⟨_,a⟩,?_⟩;exact af 8 1 j (bK (ao 0 j j ⟨j,a.bare⟩))
theorem EL{l:List Int}{k:Int}{i:Nat}(h:i=l.length)(aJ:k∉l.take i):k∉l:=by subst h;rwa [gu] at aJ
theorem ER{o:World}{B:Option Addr}{l:List Int}{c:Nat}{k:Int}(m:Rd o B (l.map bL))(s:l.length<=1000000):Calls prog 290 #[.slice B l.length c,bL k] o λr w=>(∃J:Int,r= .int .i64 J/\(0<=J↔k∈l))/\w=o:=by
 refine a2 func290 (cH 10 j (ct:=Nat) (λi=>[(0,.slice B l.length c),(1,bL k),(7,.int .i64 (l.length:Nat)),(8,.int .i64 (i:Nat))]) (λi w=>i<=l.length/\k∉l.take i/\w=o) (λi=>l.length-i) 0 ⟨j,j,j,j,aY⟩ ⟨b6 _,by simp,j⟩ ?_);rintro i w ⟨q,aJ,rfl⟩;refine cm 4 j j (λd=>?_) (λd=>?_)
 .have a:i<l.length:=by omega
  refine aq 12 j (fz j j j j m (v:=bL l[i]) (by simp [a]) a (λn e p=>?_));subst e;refine al 0 j (by assumption) (bm 1 j j (λb=>?_) (λb=>?_))
  .refine ao 4 j j ?_;have he:k=l[i]:=dY.1 b;exact⟨⟨_,j,⟨λ_=>by rw [he];exact et a,λ_=>by omega⟩⟩,j⟩
  refine bq 2 j j j (cM i (by omega)) (bP 1 j (⟨i+1,⟨j,j,j,j,aY⟩,⟨a,?_,j⟩,by omega⟩));rw [fu a,dw];have g:k≠l[i]:=by have:=ft.1 b;exact this
  simp [aJ,g]
 refine ao 4 j j ?_;have f:i=l.length:=by omega
 exact⟨⟨-1,j,⟨λh=>by omega,λh=>absurd h (EL f aJ)⟩⟩,j⟩
theorem DI{o:World}{B:Option Addr}{l:List Int}{c:Nat}{k:Int}(g:Rd o B (l.map bL))(f:l.length<=1000000):Calls prog 261 #[.slice B l.length c,bL k] o λr w=>r= .bool (decide (k∈l))/\w=o:=by
 refine a2 func261 ?_;have d:=ER (c:=c) (k:=k) g f;refine bh 7 d j (λr w⟨⟨J,e,a⟩,hw⟩=>?_);subst e;subst hw;refine ao 2 j j (⟨aH Value.bool ?_,j⟩);by_cases h:k∈l
 .rw [jC h];exact jC (a.2 h)
 rw [fj h];exact fj (λb=>h (a.1 b))
structure Ext(g:am)(B:Option Addr)(U:List Value)(F:List Nat)(w:World):Prop where
 ring:g.at w
 rd:Rd w B U
 off:g.off F
 ap:bX B U F
theorem Ext.st{g:am}{B:Option Addr}{U:List Value}{F eJ:List Nat}{ae:List (List Chunk)}{w aK:World}(h:Ext g B U F w)(c:C w eJ ae aK)(a:∀b∈eJ,b∈F):Ext g B U F aK:=
 ⟨h.ring.st c (h.off.sub a),c.rd h.rd (h.ap.sub a),h.off,h.ap⟩
theorem Ext.grow{g:am}{B:Option Addr}{U:List Value}{F eJ:List Nat}{w:World}(h:Ext g B U F w)(d:∀b∈eJ,b∈F\/w.heap.size<=b):Ext g B U eJ w:=by
 refine⟨h.ring,h.rd,⟨λc=>(d _ c).elim h.off.r (λf=>?_),λc=>(d _ c).elim h.off.k (λf=>?_)⟩,λi a e c=>(d _ c).elim (h.ap i a e) (λf=>?_)⟩
 .have:=(gv.1 h.ring.ring).1;omega
 .have:=(gv.1 h.ring.keys).1;omega
 .have:=h.rd.lt i e;omega
def ic(g:am)(kind slot view:Int)(sum:List UInt8)(x:aF):Bool:=x.k==kind&&(x.s==slot&&(x.v==view&&(x.sum==sum&&cR g x)))
def hG(g:am)(kind slot view:Int)(sum:List UInt8)(l:List aF)(i:Nat):List Int:=((l.take i).filter (ic g kind slot view sum)).map aF.f
theorem zC{g:am}{kind slot view:Int}{sum:List UInt8}{l:List aF}{i:Nat}(h:i<l.length)(a:ic g kind slot view sum l[i]=true):hG g kind slot view sum l (i+1)=hG g kind slot view sum l i++[l[i].f]:=by
 unfold hG;rw [fu h,mZ,List.map_append];simp [a]
theorem vP{g:am}{kind slot view:Int}{sum:List UInt8}{l:List aF}{i:Nat}(h:i<l.length)(a:ic g kind slot view sum l[i]=false):hG g kind slot view sum l (i+1)=hG g kind slot view sum l i:=by
 unfold hG;rw [fu h,mZ,List.map_append];simp [a]
theorem Gs{g:am}{kind slot view:Int}{sum:List UInt8}{l:List aF}{i n:Nat}(h:i<l.length)(aJ:i<n)(d:ic g kind slot view sum l[i]=true):∃r,hG g kind slot view sum l n=hG g kind slot view sum l i++l[i].f::r:=by
 refine⟨(((l.take n).drop (i+1)).filter (ic g kind slot view sum)).map aF.f,?_⟩
 have e:l.take n=l.take (i+1)++(l.take n).drop (i+1):=by
  have b:(l.take n).take (i+1)=l.take (i+1):=by rw [List.take_take,mX (by omega)]
  rw [<-b,m5]
 have a:hG g kind slot view sum l n=hG g kind slot view sum l (i+1)++(((l.take n).drop (i+1)).filter (ic g kind slot view sum)).map aF.f:=by
  unfold hG;rw [e,mZ,List.map_append];have c:(l.take (i+1)++(l.take n).drop (i+1)).drop (i+1)=(l.take n).drop (i+1):=by rw [<-e]
  rw [c]
 rw [a,zC h d,dF];rfl
theorem Gt{o:World}{g:am}{B:Option Addr}{l:List aF}{d:Nat}{kind slot view:Int}{sum:List UInt8}:Calls prog 260 #[g.p,.slice B l.length d,ad kind,ad slot,ad view,.agg (aG sum).toArray] o λr w=>∃e f h i b c,r= .func (.func 289) #[] #[ab f,ab h,ab i,ab b,ab c,ab e]/\C o [] [R f #[.slice B l.length d] 101,R h #[ad kind] 3,R i #[ad slot] 3,R b #[ad view] 3,R c (aG sum).toArray 79,R e #[g.p] 55] w:=by
 have a:Own [] o:=C.start o;refine a2 func260 (bM 2 a j j (λe w a=>bM 0 a j j (λf w a=>bM 0 a j j (λh w a=>bM 0 a j j (λi w a=>bM 0 a j j (λb w a=>bM 0 a j j (λc w a=>aq 3 j (gV j j j j ?_))))))));exact ao 1 j j ⟨e,f,h,i,b,c,j,a.f1.f2.f3.f4⟩
theorem Gr{q s t u h m:Nat}{g:am}{B:Option Addr}{l:List aF}{d:Nat}{kind slot view:Int}{sum:List UInt8}(aj:g.ok)(Q:∀x∈l,x.ok)(X:sum.length=32)(az:l.length<=d)(aC:l.length<=1000):Iter prog 289 #[ab s,ab t,ab u,ab h,ab m,ab q] [R s #[.slice B l.length d] 101,R t #[ad kind] 3,R u #[ad slot] 3,R h #[ad view] 3,R m (aG sum).toArray 79,R q #[g.p] 55] (λae w=>Ext g B (l.flatMap aF.cs) (au ([R s #[.slice B l.length d] 101,R t #[ad kind] 3,R u #[ad slot] 3,R h #[ad view] 3,R m (aG sum).toArray 79,R q #[g.p] 55]++ae)) w) (λ_=>True) (λk:Int=> #[bL k]) (λpre k=>∃r,hG g kind slot view sum l (min l.length 10)=pre++k::r) (λxs=>xs=hG g kind slot view sum l (min l.length 10)):=by
 intro y aw aD ae o a c O _ T aB an;show Calls _ _ #[fN y,ab s,ab t,ab u,ab h,ab m,ab q] o _;obtain⟨K,S⟩:∃K,K=au ([R s #[.slice B l.length d] 101,R t #[ad kind] 3,R u #[ad slot] 3,R h #[ad view] 3,R m (aG sum).toArray 79,R q #[g.p] 55]++ae):=⟨_,j⟩;rw [<-S] at O⊢;have a:C o K (R s #[.slice B l.length d] 101::R t #[ad kind] 3::R u #[ad slot] 3::R h #[ad view] 3::R m (aG sum).toArray 79::R q #[g.p] 55::ae) o:=S▸a;refine a2 func289 (al 2 j (a.cell j) (al 0 j (a.cell j) (aq 1 j (ru j j j ?_))));refine bS 13 (.int .i64 ((min l.length 10):Nat)) j (aH (Value.int .i64) (by show min (l.length:Int) 10=_;omega)) (rv (i:=(min l.length 10)) j j j j (by omega) ?_)
 refine cH 3 j (ct:=Nat×List (List Chunk)) (λi=>[(0,fN y),(1,ab s),(2,ab t),(3,ab u),(4,ab h),(5,ab m),(6,ab q),(14,.slice B (min l.length 10) d),(15,.int .i64 ((min l.length 10):Nat)),(16,.int .i64 (i.1:Nat))])
  (λi w=>i.1<=(min l.length 10)/\aw (hG g kind slot view sum l i.1) i.2 w/\C o K (R s #[.slice B l.length d] 101::R t #[ad kind] 3::R u #[ad slot] 3::R h #[ad view] 3::R m (aG sum).toArray 79::R q #[g.p] 55::i.2) w) (λi=>(min l.length 10)-i.1) (0,ae) ⟨j,j,j,j,j,j,j,j,j,j,aY⟩ ⟨b6 _,c,a⟩ ?_
 rintro⟨i,ai⟩ w ⟨ag,c,a⟩;dsimp only at ag c a⊢;refine cm 4 j j (λZ=>?_) (λZ=>?_)
 .have I:i<(min l.length 10):=by omega
  have z:i<l.length:=by omega
  have e:=Q l[i] (et z);have ac:=O.st a (λb G=>G);have W:=ac.rd;refine aq 5 j (fz j j j j W (v:=ad l[i].k) (pD l Q i z) I (λax aa ay=>?_));subst aa;refine bN 0 j j (l[i].len e) (pE W Q i z) (cl 0 (C.start _) j (λbv w F=>ck 0 F j j j l[i].one (l[i].len e) (λw F=>?_)));have F:=C.whole (U:=l[i].cs) F (by rw [l[i].len e];rfl);have c:=T _ _ _ _ [] c F.bare (by simp);have a:=a.aM F;refine al 3 j (a.cell l[i].g1) (al 0 j (a.f2.cell j) (aq 2 j (cQ 24 j (λA=>?_) (λA=>?_))))
  .refine al 1 j (a.cell l[i].aX) (al 0 j (a.f3.cell j) (aq 3 j (cQ 30 j (λE=>?_) (λE=>?_))));refine al 1 j (a.cell l[i].dv) (al 0 j (a.f4.cell j) (aq 3 j (cQ 36 j (λJ=>?_) (λJ=>?_))))
   .refine bN 1 (U:=aG l[i].sum) j j (by rw [ds];exact e.1) (a.i6 (off:=0+3) (U:=aG l[i].sum) (l[i].qn e)) (bN 0 (U:=aG sum) j j (by rw [ds];exact X) a.f5.bE (wK j j j j (by kernel_rfl) (λw=>qq _ _ e.1 X 9998 w) (aq 2 j (cQ 42 j (λL=>?_) (λL=>?_)))));refine al 0 j (a.f6.cell j) (bN 0 (U:=l[i].cs) j j (l[i].len e) a.bE ?_);have af:=sj ((O.st a (λb G=>G)).ring) aj e;refine bo 0 af j (λw V=>?_);have c:=T _ _ _ _ [] c V (by simp);have a:=a.aM V;refine aq 2 j (cQ 47 j (λM=>?_) (λM=>?_))
    .refine al 2 j (a.cell (l[i].eS e)) ?_;have Y:ic g kind slot view sum l[i]=true:=by unfold ic;rw [A,E,J,L,M];rfl
     obtain⟨av,ak⟩:=Gs (n:=(min l.length 10)) z I Y;have ap:=an (hG g kind slot view sum l i) l[i].f ai _ ⟨av,ak⟩ c (C.jo (H:=[_,_,_,_,_,_,_]) a);refine jS j j j j ap (λb w⟨aA,ar,G⟩=>?_);have a:=C.jh (H:=[_,_,_,_,_,_,_]) a ar;refine bm 2 j j (λN=>?_) (λN=>?_)
     .refine ao 0 j j ?_;have P:b=false:=by cases b<;>first|rfl|exact absurd N (by decide)
      subst P;exact⟨aA,a.drop,.inr (by simpa using G)⟩
     refine bq 2 j j j (cM i (by omega)) (bP 1 j ?_);have P:b=true:=by cases b<;>first|rfl|exact absurd N (by decide)
     subst P;refine⟨(i+1,aA),⟨j,j,j,j,j,j,j,j,j,j,aY⟩,⟨I,?_,a.drop⟩,by dsimp only;omega⟩;dsimp only;rw [zC z Y];simpa using G
    refine bq 9 j j j (cM i (by omega)) (bP 1 j ?_);have D:ic g kind slot view sum l[i]=false:=by unfold ic;rw [A,E,J,L,M];rfl
    rotate_left
    refine bq 14 j j j (cM i (by omega)) (bP 1 j ?_);have D:ic g kind slot view sum l[i]=false:=by unfold ic;rw [A,E,J,L];rfl
    rotate_left
    all_goals
     refine⟨(i+1,ai),⟨j,j,j,j,j,j,j,j,j,j,aY⟩,⟨I,?_,a.drop⟩,by dsimp only;omega⟩;dsimp only;rw [vP z D];exact c
   refine bq 20 j j j (cM i (by omega)) (bP 1 j ?_);have D:ic g kind slot view sum l[i]=false:=by unfold ic;rw [A,E,J];rfl
   rotate_left
   refine bq 26 j j j (cM i (by omega)) (bP 1 j ?_);have D:ic g kind slot view sum l[i]=false:=by unfold ic;rw [A,E];rfl
   rotate_left
   all_goals
    refine⟨(i+1,ai),⟨j,j,j,j,j,j,j,j,j,j,aY⟩,⟨I,?_,a.drop⟩,by dsimp only;omega⟩;dsimp only;rw [vP z D];exact c
  refine bq 32 j j j (cM i (by omega)) (bP 1 j ?_);have D:ic g kind slot view sum l[i]=false:=by unfold ic;rw [A];rfl
  refine⟨(i+1,ai),⟨j,j,j,j,j,j,j,j,j,j,aY⟩,⟨I,?_,a.drop⟩,by dsimp only;omega⟩;dsimp only;rw [vP z D];exact c
 refine ao 1 j j ?_;have ah:i=(min l.length 10):=by omega
 subst ah;exact⟨ai,a,.inl ⟨_,j,c⟩⟩
theorem Ext.range{g:am}{B:Option Addr}{U:List Value}{H ae:List (List Chunk)}{L:List Chunk}{w aK:World}(h:Ext g B U (au (H++ae)) w)(c:C w [] [L] aK):Ext g B U (au (H++(ae++[L]))) aK:=by
 have d:Ext g B U (au (H++(ae++[L]))) w:=h.grow (λb a=>by
  rw [<-dF] at a;rcases np.1 a with a|a
  ·exact .inl a
  ·have:=c.own b a;exact .inr (by simpa using this))
 exact d.st c (by simp)
theorem Ext.here{g:am}{B:Option Addr}{U:List Value}{ae:List (List Chunk)}{o w:World}(h:Ext g B U [] o)(a:C o [] ae w):Ext g B U (au ae) w:=
 (h.grow (λb c=>(a.own b c).elim (λh=>.inl h) .inr)).st a (by simp)
def uniq(xs:List Int):List Int:=xs.foldl (λacc k=>if k∈acc then acc else acc++[k]) []
theorem AX(xs:List Int)(k:Int):uniq (xs++[k])=if k∈uniq xs then uniq xs else uniq xs++[k]:=by unfold uniq;rw [List.foldl_append];rfl
theorem th(xs:List Int):(uniq xs).length<=xs.length:=by
 have:∀(c0 acc:List Int),(c0.foldl (λacc k=>if k∈acc then acc else acc++[k]) acc).length<=acc.length+c0.length:=by
  intro c0;induction c0 with
  |nil=>intro acc;simp
  |cons y r a=>
   intro acc;rw [hQ];refine eh (a _) ?_;split<;>simp<;>omega
 have h:=this xs [];simp only [gk,fg] at h;exact h
def pG(g:am)(l:List aF)(kind slot view:Int)(sum:List UInt8):List Int:=jN (uniq (hG g kind slot view sum l (min l.length 10)))
def meets(g:am)(l:List aF)(kind slot view:Int)(sum:List UInt8):Bool:=decide (iL g.keys.length<=(pG g l kind slot view sum).length)
theorem zB(g:am)(l:List aF)(kind slot view:Int)(sum:List UInt8):(hG g kind slot view sum l (min l.length 10)).length<=10:=by
 unfold hG;rw [fB];refine eh (oP _ _) ?_;rw [hl];omega
theorem IT(g:am)(l:List aF)(kind slot view:Int)(sum:List UInt8):(pG g l kind slot view sum).length=(uniq (hG g kind slot view sum l (min l.length 10))).length:=hR _
theorem IU{o:World}{g:am}{B:Option Addr}{l:List aF}{d:Nat}{kind slot view:Int}{sum:List UInt8}(X:g.ok)(af:∀x∈l,x.ok)(I:sum.length=32)(S:l.length<=d)(V:l.length<=1000)(M:Ext g B (l.flatMap aF.cs) [] o):Calls prog 209 #[g.p,.slice B l.length d,ad kind,ad slot,ad view,.agg (aG sum).toArray] o λr w=>∃ag,Row 3 1 r (pG g l kind slot view sum).length ((pG g l kind slot view sum).map bL) ag/\C o [] [ag] w:=by
 have b:Own [] o:=C.start o;refine j0 func209 ?_;refine bM 2 b j j (λq w b=>?_);refine cl 3 b j (λn w b=>?_);have b:C o [] (R n #[.slice none 0 0] 29::_) w:=b;refine bN 8 (U:=aG sum) j j (by rw [ds];exact I) b.f1.bE ?_;have m:=Gt (o:=w) (g:=g) (B:=B) (l:=l) (d:=d) (kind:=kind) (slot:=slot) (view:=view) (sum:=sum);refine bh 0 m j (λr w⟨t,u,z,D,s,q,Y,aa⟩=>?_);subst Y;have b:=b.aM aa;have b:C o [] ([R u #[.slice B l.length d] 101,R z #[ad kind] 3,R D #[ad slot] 3,R s #[ad view] 3,R q (aG sum).toArray 79,R t #[g.p] 55]++[R n #[.slice none 0 0] 29,[]]) w:=(C.sg (A:=[R u #[.slice B l.length d] 101,R z #[ad kind] 3,R D #[ad slot] 3,R s #[ad view] 3,R q (aG sum).toArray 79,R t #[g.p] 55]++[R n #[.slice none 0 0] 29]) b).empty.swap (A:=[[]])|>.perm (by simp)
 have N:=M.here b
 refine j4 1 j (Gr X af I S V) j (by have:=b.size;simpa using this) b j (λ_=>rfl) (by intro p H;simp at H;subst H;rfl)
  (λpre ae=>∃v ag,ae=[R n #[v] 29,ag]/\Row 3 1 v (uniq pre).length ((uniq pre).map bL) ag) (λ_ _=>False) ⟨_,_,j,Row.nil 3 1⟩ (λL aK O=>N.range O) (λ_ _ _ _=>trivial) ?_ ?_ (λ_ _ h=>h.elim) (λ_ _ _ h=>h.elim)
 .rintro y pre x ai L ar ⟨ap,ab⟩ ⟨v,ag,rfl,i⟩ b;have hlen:pre.length<10:=by have E:=zB g l kind slot view sum;rw [ab] at E;simp only [b4,List.length_cons] at E;omega
  refine bI 2 j ?_;refine⟨j,_,C.gy b,λL w b=>?_⟩;have b:=C.gy b;refine al 3 j (aw (C.ak b) j) ?_;obtain⟨ah,aX,rfl,_,_,Z,_⟩:=i.rd b.f1;have m:=DI (c:=aX) (k:=x) Z (by have:=th pre;omega);refine bo 1 m j (λw hw=>?_);subst hw;refine bm 1 j j (λf=>?_) (λf=>?_)
  .refine al 1 j (aw (C.ak b) j) ?_;refine aq 1 j (eO b j j j j j j bJ (λan w b=>?_));have aJ:=b.bE;refine d9 b.f2 i j j (by decide) j j j (news:=[bL x]) j aJ (by simp [Value.oneCell']) (by have:=th pre;omega) (by have:=th pre;unfold maxLen;omega) (λv1 J w F b=>?_);have b:=b.f2;refine cC b j j j F.one (by simp) (λw b=>?_);refine bI 0 j ?_;refine⟨_,b.kK,v1,J,j,?_⟩;have W:x∉uniq pre:=by intro h;rw [jC h] at f;cases f
   rw [AX,aI W];simpa using F
  refine bI 1 j ?_;refine⟨_,b,_,ag,j,?_⟩
  have T:x∈uniq pre:=by
   rcases oX (x∈uniq pre) with h|h
   .exact h
   .rw [fj h] at f;cases f
  rw [AX,a6 T];exact i
 rintro xs aj w G ⟨v,ag,rfl,i⟩ b;have ao:xs.length<=10:=by rw [G];exact zB g l kind slot view sum
 have b:=b.swap;refine al 2 j (aw (C.ak b) j) ?_;have b:=b.f1;have m:=AB (ik:=uniq xs) b.j7 i (by have:=th xs;omega);refine bh 0 m j (λr w⟨_,K,P,aa⟩=>?_);have b:=(b.iu aa).f1;refine al 2 j (aw (C.ak b) j) ?_;refine bI 1 j ⟨v,λw ac=>?_⟩;have b:=ac.st b (cD _);refine⟨λa Q=>i7 (fn:=f209) Q j _ _,?_⟩;refine⟨K,?_,b.f1.hT⟩;have e:pG g l kind slot view sum=jN (uniq xs):=by rw [G];rfl
 rw [e,hR];exact P
theorem vt{o:World}{g:am}{B:Option Addr}{l:List aF}{d:Nat}{kind slot view:Int}{sum:List UInt8}(c:g.ok)(m:∀x∈l,x.ok)(e:sum.length=32)(i:l.length<=d)(k:l.length<=1000)(b:Ext g B (l.flatMap aF.cs) [] o):Calls prog 166 #[g.p,.slice B l.length d,ad kind,ad slot,ad view,.agg (aG sum).toArray] o λr w=>r= .bool (meets g l kind slot view sum)/\C o [] [] w:=by
 have a:Own [] o:=C.start o;refine a2 func166 (bM 2 a j j (λq w a=>aq 6 j (bS 15 (.bool true) j (aH Value.bool (j)) ?_)));refine bN 5 (U:=aG sum) j j (by rw [ds];exact e) a.bE ?_;have h:=IU c m e i k (b.st a (by simp [au])) (kind:=kind) (slot:=slot) (view:=view);refine bh 0 h j (λr w⟨ag,f,aa⟩=>?_);have a:=a.aM aa;obtain⟨n,aX,rfl,_⟩:=f.rd a;refine bo 2 (my (b.ring.st a (am.off.nil g))) j (λw hw=>?_);subst hw;refine bo 0 (z4 (by have:=c.n10;omega)) j (λw hw=>?_);subst hw;refine ao 3 j j (⟨aH Value.bool ?_,a.bare⟩);unfold meets;exact nS.2 (by omega)
structure bH where
 k:Int
 p:Int
 e:Int
 t:Int
 deriving DecidableEq
abbrev bH.cs(m:bH):List Value:=[ad m.k,ad m.p,ad m.e,ad m.t]
abbrev bH.ok(m:bH):Bool:=gQ m.k m.p m.e m.t
def bH.enc(m:bH):List UInt8:=ea [3,m.k,m.p,m.e,m.t]
def bH.sum(m:bH):List UInt8:=bO m.enc
theorem bH.wj(m:bH):m.sum.length=32:=e7 _
theorem bH.qo(m:bH):m.enc.length<=50:=by have:=gg [3,m.k,m.p,m.e,m.t];simp only [ez,gk] at this;unfold bH.enc;omega
def lX:aF:=⟨0,0,0,cL,0,cL⟩
def dm(g:am)(m:bH)(f:Int):aF:=if m.ok then cS g 3 0 0 m.sum f else lX
theorem I4:lX.ok:=⟨j,j⟩
theorem i2(g:am)(m:bH)(f:Int):(dm g m f).ok:=by unfold dm;split;exact iX _ _ _ _ _ _ m.wj;exact I4
def n0(g:am)(m:bH)(l:List aF):Bool:=m.ok&&meets g l 3 0 0 m.sum
theorem r5{m:bH}{u v:Value}{i:Nat}(h:m.cs[i]? =some v):(m.cs++[u]).toArray[i]? =some v:=by
 simp only [na];rw [iC (eY.1 h).1];exact h
theorem vM{b:Bool}(h:((if b=true then(0:Int) else 1) !=0)=true):b=false:=by cases b<;>simp_all
theorem vN{b:Bool}(h:((if b=true then(0:Int) else 1) !=0)=false):b=true:=by cases b<;>simp_all
theorem vL(b:Bool):((if b=true then(0:Int) else 1)==0)=b:=by cases b<;>rfl
theorem sy{o:World}{g:am}(x:g.at o)(y:g.ok){m:bH}{f:Int}:Calls prog 150 #[g.p,.agg m.cs.toArray,ad f] o λr w=>r= .tuple #[.agg (dm g m f).cs.toArray,.bool m.ok]/\C o [] [] w:=by
 have a:Own [] o:=C.start o;refine e9 func150 (bM 2 a j j (λD w a=>cl 0 a j (λq w a=>?_)));have a:C o [] (R q (lX).cs.toArray 115::_) w:=a;refine bN 3 (U:=m.cs) j j j a.f1.bE ?_;have d:=uN (o:=w) (k:=m.k) (p:=m.p) (e:=m.e) (t:=m.t);refine bh 0 d j (λr w⟨v,G,z,i,aa⟩=>?_);subst z;have a:=a.aM aa;refine bm 10 j j (λl=>?_) (λl=>?_)
 .have h:m.ok=false:=vM l;refine aq 2 j (cP (c:=lX.cs.toArray) j j j (λ_=>by kernel_rfl) ?_);refine c4 a.f1 j j j (by decide) (by decide) (by decide) (λw a=>?_);have a:=C.whole (U:=lX.cs) a j;refine bI 1 j ⟨_,dp (U:=lX.cs) results150 j j j j a.bE,?_⟩;refine⟨?_,a.bare⟩;unfold dm;rw [h];rfl
 have h:m.ok=true:=vN l
 have i:dt v m.enc G:=by
  have e:(if gQ m.k m.p m.e m.t=true then ea [3,m.k,m.p,m.e,m.t] else [])=m.enc:=a6 h;rw [e] at i;exact i
 obtain⟨B,g2,rfl,u,_,A,_⟩:=i.rd a;have d:=nH (p:=m.enc) A (by have:=m.qo;omega) u;refine bh 5 d j (λr w⟨b,n⟩=>?_);have b:r= .agg (aG m.sum).toArray:=b;subst b;have a:=a.aM n;have d:=o6 (x.st a (am.off.nil g)) y (k:=3) (s:=0) (v:=0) (f:=f) m.wj;refine bh 1 d j (λr w⟨b,n⟩=>?_);have b:r= .agg (dm g m f).cs.toArray:=by rw [b];unfold dm;rw [if_pos h]
 subst b;have a:=(a.aM n).f1;refine ck 0 a j j j (by simpa using(dm g m f).one) (by rw [List.size_toArray];exact(dm g m f).len (i2 g m f)) (λw a=>?_);have a:=C.whole (U:=(dm g m f).cs) a (by rw [(dm g m f).len (i2 g m f)];rfl);refine bI 1 j ⟨_,dp (U:=(dm g m f).cs) results150 j j j ((dm g m f).len (i2 g m f)) a.bE,?_⟩;refine⟨?_,a.bare⟩;rw [h]
theorem ud{o:World}{g:am}{B:Option Addr}{l:List aF}{d:Nat}{m:bH}(E:g.ok)(J:∀x∈l,x.ok)(A:l.length<=d)(D:l.length<=1000)(y:Ext g B (l.flatMap aF.cs) [] o):Calls prog 107 #[g.p,.agg (m.cs++[Value.slice B l.length d]).toArray] o λr w=>r= .bool (n0 g m l)/\C o [] [] w:=by
 have a:Own [] o:=C.start o;refine a2 func107 ?_;refine bM 2 a j j (λu w a=>?_);refine bN 4 (U:=m.cs) j j j (a.i6 (off:=0) (U:=m.cs) (λi v I=>by rw [fg];exact r5 I)) ?_;have b:=uN (o:=w) (k:=m.k) (p:=m.p) (e:=m.e) (t:=m.t);refine bh 0 b j (λr w⟨v,G,F,c,aa⟩=>?_);subst F;have a:=a.aM aa;have a:=a.f1;have a:=a.drew;refine bw 6 j (λw=>∃ae,C o [] ([R u (m.cs++[Value.slice B l.length d]).toArray 121]++ae) w) ⟨_,a⟩ ?_;refine af 0 3 j ?_;refine ef 15 j (λh=>?_) (λh=>?_)
 .refine af 3 2 j ?_;refine bT 5 j (λw⟨_,a⟩=>a.cell j) ?_;refine af 6 1 j ?_;refine aU 7 j ?_;have f:m.ok=true:=by have n:=vL (gQ m.k m.p m.e m.t);exact n.symm.trans h
  have c:dt v m.enc G:=by
   have e:(if gQ m.k m.p m.e m.t=true then ea [3,m.k,m.p,m.e,m.t] else [])=m.enc:=a6 f;rw [e] at c;exact c
  obtain⟨K,g2,rfl,z,_,H,_⟩:=c.rd a.f1;have b:=nH (p:=m.enc) H (by have:=m.qo;omega) z;refine cN j j j b (λr w⟨s,q⟩=>?_);have s:r= .agg (aG m.sum).toArray:=s;subst s;have a:=a.aM q;refine ar ⟨⟨_,a⟩,?_⟩;refine aU 8 j ?_;have b:=vt E J m.wj A D (y.st a (by simp [au])) (kind:=3) (slot:=0) (view:=0);refine bF j j j b (λw q=>?_);have a:=a.aM q;refine ar ⟨⟨_,a⟩,?_⟩;refine af 9 2 j ?_;refine bK ?_;refine ao 0 j j ?_;refine⟨aH Value.bool ?_,a.bare⟩;unfold n0;rw [f,Bool.true_and]
 refine af 3 8 j ?_;refine bK ?_;refine ao 0 j j ?_;refine⟨aH Value.bool ?_,a.bare⟩;have f:m.ok=false:=by have n:=vL (gQ m.k m.p m.e m.t);exact n.symm.trans h
 unfold n0;rw [f,oN]
section
variable {P:Program} {n:Nat} {Z:Env} {w:World} {dst:Option Nat} {ty:TypeId} {pos:String} {after:Array Edge} {g:Option (Nat×Bool)}
theorem pK{t k:TypeId}{x y:Operand}{i J:Nat}(h:bs Z x=some (.int .i64 i))(j:bs Z y=some (.int .i64 J))(l:0<J):
 ∀a,cF Z n a->(execOp a.eval ⟨dst,.binOp .rem t x y k,ty,pos,after,g⟩).run P w= .ok (.value (.int .i64 ((i%J:Nat):Int))) w:=λa b=>by
 have c:¬(J:Int)=0:=by omega
 have d:(i:Int).tmod (J:Int)=((i%J:Nat):Int):=rfl;simp only [execOp,b.eval h,b.eval j];have e:eqGuard .rem t x y (.int .i64 (i:Int)) (.int .i64 (J:Int))=pure ():=rfl
 have f:(binOp .rem t (.int .i64 (i:Int)) (.int .i64 (J:Int))).run P w= .ok (.int .i64 ((i%J:Nat):Int)) w:=by
  show(Op.intDiv .rem .i64 (i:Int) (J:Int)).run P w=_;unfold Op.intDiv;simp only [d,aI c,ei]
 simp only [e,dQ,ei,dU,f]
theorem gb{t e:TypeId}{x y:Operand}{b I l c J:Nat}{k:IntKind}{z:Value}{size bytes:Nat}[hu:bB P t (.slice e)][i:cn P e z size bytes]
 (f:bs Z x=some (.slice (some ⟨b,I,none⟩) l c)) (h:bs Z y=some (.int k J)) (d:J<l):
 ∀a,cF Z n a->(execOp a.eval ⟨dst,.indexAddr t x y,ty,pos,after,g⟩).run P w= .ok (.value (.pointer (some ⟨b,I+J*size,none⟩))) w:=by
 have:=rl (P:=P) (n:=n) (w:=w) (dst:=dst) (ty:=ty) (pos:=pos) (after:=after) (g:=g) (Z:=Z) (t:=t) (e:=e) (z:=z) (size:=size) (bytes:=bytes) f h d;rw [add_lit] at this;exact this
end
def Flat(A:Option Addr):Prop:=A=none\/∃b I,A=some ⟨b,I,none⟩
theorem Row.flat{e:TypeId}{size:Nat}{A:Option Addr}{n m c:Nat}{xs:List Value}{G:List Chunk}(h:Row e size (.slice A m c) n xs G):Flat A:=by
 rcases h.2 with⟨a,_⟩|⟨g,_,_,a,_⟩
 .cases a;exact .inl j
 .cases a;exact .inr ⟨_,_,j⟩
def nr(s v n:Nat):Nat:=(s%n+v%n)%n
def j8(g:am)(l:List aF)(slot below:Int)(value:List UInt8):Option Int:=match l with
 |[]=>none
 |x::_=>if 0<=x.v/\x.v<below/\meets g l 1 slot x.v (bO value)=true then some x.v else none
theorem free_spec{o:World}:Calls prog 170 #[] o λr w=>r= .agg #[ad (-1),.slice none 0 0,.slice none 0 0]/\C o [] [] w:=by
 have a:Own [] o:=C.start o;refine e9 func170 (cl 2 a j (λcU w a=>aq 2 j (cP (c:= #[ad (-1),.slice none 0 0,.slice none 0 0]) j j j (λ_=>by kernel_rfl) ?_)));refine ck 0 a j j j j j (λw a=>bI 0 j ⟨_,hf results170 j j j (a.bE),?_⟩);exact⟨j,a.bare⟩
theorem yY{o:World}{s v n:Nat}(aL:s<=1000000)(e:v<=1000000)(a:1<=n)(aJ:n<=1000):Calls prog 203 #[.int .i64 s,.int .i64 v,.int .i64 n] o λr w=>r= .int .i64 (nr s v n)/\C o [] [] w:=by
 have b:Own [] o:=C.start o;have c:=jE s a;have d:=jE v a;refine a2 func203 ?_;refine aq 9 j (bS 9 (.bool false) j (aH Value.bool (fj (by omega))) ?_);refine aq 4 j (bS 13 (.bool false) j (aH Value.bool (fj (by omega))) ?_);refine i0 3 j j (fj (by omega)) ?_;have b:=b.drew;refine bw 2 j (λw=>∃F ae,C o F ae w) ⟨_,_,b⟩ ?_;refine af 0 2 j ?_;refine aT 2 j (λw _=>pK j j a) ?_;refine af 3 2 j ?_;refine aT 5 j (λw _=>pK j j a) ?_;refine aT 6 j (λw _=>dq j j (gm (s%n) (v%n) (by omega))) ?_;refine af 7 1 j ?_;refine aT 8 j (λw _=>pK j j a) ?_;refine af 9 1 j ?_;refine bK ?_;refine ao 0 j j ?_;exact⟨j,b.bare⟩
theorem rc{w:World}{b I:Nat}{x:aF}{l:List aF}(h:Rd w (some ⟨b,I,none⟩) ((x::l).flatMap aF.cs)):w.cell? ⟨b,I+0*68+2,none⟩=some (ad x.v):=by
 have a:=h.cell (J:=2) (v:=ad x.v) (by simp [aF.cs]);rw [add_lit] at a;simpa using a
theorem y3{l:List aF}(h:((l.length:Int)==0)=true):l=[]:=mc (by have:=dY.1 h;omega)
theorem y2{l:List aF}(h:((l.length:Int)==0)=false):∃x r,l=x::r:=by
 cases l with
 |nil=>simp at h
 |cons x r=>exact⟨x,r,j⟩
theorem u1{B:Option Addr}{w:World}{x:aF}{r:List aF}(d:Flat B)(h:Rd w B ((x::r).flatMap aF.cs)):∃b I,B=some ⟨b,I,none⟩:=by
 rcases d with rfl|c
 .obtain⟨a,e,_⟩:=h 0 (ad x.k) (by simp [aF.cs]);cases e
 .exact c
theorem zZ{o:World}{g:am}{B bb:Option Addr}{l:List aF}{value:List UInt8}{d c:Nat}{slot below:Int}(D:g.ok)(G:∀x∈l,x.ok)(q:Flat B)(u:l.length<=d)(z:l.length<=1000)(f:Ext g B (l.flatMap aF.cs) [] o)(s:Rd o bb (aG value))(F:value.length<=1000000)(E:value.length<=c):Calls prog 308 #[g.p,.slice B l.length d,ad slot,ad below,.slice bb value.length c] o λr w=>r= .tuple #[ad ((j8 g l slot below value).getD (-1)),.bool (j8 g l slot below value).isSome]/\C o [] [] w:=by
 have a:Own [] o:=C.start o;refine a2 func308 ?_;have a:=a.drew;refine bw 6 j (λw=>∃ae,C o [] ae w) ⟨_,a⟩ (af 0 4 j (ef 15 j (λi=>?_) (λi=>?_)))
 .refine af 4 27 j (bK (ao 5 j j ?_));have A:=y3 i;subst A;exact⟨j,a.bare⟩
 obtain⟨x,l,rfl⟩:=y2 i;obtain⟨b,I,rfl⟩:=u1 q f.rd;refine af 4 1 j (aT 5 j (λw _=>gb (J:=0) j j (by simp)) (af 6 1 j (bT 7 j (λw⟨_,a⟩=>rc (f.st a (by simp [au])).rd) (af 8 3 j (ef 22 j (λk=>?_) (λk=>?_))))))
 .refine af 11 20 j (bK (ao 5 j j ?_));have e:j8 g (x::l) slot below value=none:=aI (λh=>by have:=dj k;omega);rw [e];exact⟨j,a.bare⟩
 refine af 11 1 j (aT 12 j (λw _=>gb (J:=0) j j (by simp)) (af 13 1 j (bT 14 j (λw⟨_,a⟩=>rc (f.st a (by simp [au])).rd) (af 15 4 j (ef 30 j (λm=>?_) (λm=>?_))))))
 .refine af 19 12 j (bK (ao 5 j j ?_));have e:j8 g (x::l) slot below value=none:=aI (λh=>by have:=dj m;omega);rw [e];exact⟨j,a.bare⟩
 refine af 19 4 j (aT 23 j (λw _=>gb (J:=0) j j (by simp)) (af 24 1 j (bT 25 j (λw⟨_,a⟩=>rc (f.st a (by simp [au])).rd) (af 26 1 j (aU 27 j (bF j j j (nH (a.rd s (bX.of_nil _ _)) F E) (λw aa=>?_)))))));have a:=a.aM aa;refine ar ⟨⟨_,a⟩,?_⟩;refine aU 28 j ?_;have t:=vt D G (e7 value) u z (f.st a (by simp [au])) (kind:=1) (slot:=slot) (view:=x.v);refine bF j j j t (λw y=>?_);have a:=a.aM y;refine ar ⟨⟨_,a⟩,?_⟩;refine af 29 2 j (bK (bm 0 j j (λn=>?_) (λn=>?_)))
 .refine ao 4 j j ?_;have hm:meets g (x::l) 1 slot x.v (bO value)=false:=by simpa using n
  have e:j8 g (x::l) slot below value=none:=aI (λh=>by rw [hm] at h;exact absurd h.2.2 (by decide));rw [e];exact⟨j,a.bare⟩
 refine aq 4 j (dL j j (gb (J:=0) j j (by simp)) ?_);refine al 1 j (rc (f.st a (by simp [au])).rd) (ao 2 j j ?_);have hm:meets g (x::l) 1 slot x.v (bO value)=true:=by simpa using n
 have e:j8 g (x::l) slot below value=some x.v:=a6 ⟨by have:=dN k;omega,by have:=dN m;omega,hm⟩;rw [e];exact⟨j,a.bare⟩
abbrev vcs(l:List aF):List Value:=l.flatMap aF.cs
abbrev er(v:Value)(l:List aF)(G:List Chunk):Prop:=Row 115 68 v l.length (vcs l) G
theorem ti:∀(l:List aF),(∀x∈l,x.ok)->(vcs l).length=l.length*68
 |[],_=>rfl
 |x::r,h=>by
  show(x.cs++vcs r).length=_;rw [b4,x.len (h x (by simp)),ti r (λy a=>h y (by simp [a])),List.length_cons];omega
theorem tj(l:List aF):∀u∈vcs l,u.oneCell'=true:=by
 intro u hu;obtain⟨x,_,a⟩:=m0.1 hu;exact jW.1 x.one u a
theorem qr{o:World}{A B:Option Addr}{xs c0:List UInt8}{c d:Nat}(a:Rd o A (aG xs))(b:Rd o B (aG c0)):Calls prog 184 #[.slice A xs.length c,.slice B c0.length d] o λr w=>r= .bool (decide (xs=c0))/\w=o:=by
 refine a2 func184 (aq 6 j (wO j j j a ?_));refine aq 1 j (wO j j j b ?_);exact oA j j j j (ao 1 j j ⟨aH Value.bool (nG xs c0),j⟩)
theorem k3{o:World}{B:Option Addr}{l:List aF}{d:Nat}(h:Rd o B (vcs l))(q:∀x∈l,x.ok)(s:l.length<=1000):Calls prog 111 #[.slice B l.length d] o λr w=>∃G,er r l G/\C o [] [G] w:=by
 have b:Own [] o:=C.start o;refine a2 func111 (aq 7 j (tJ j j j ?_));refine bm 0 j j (λfl=>?_) (λfl=>?_)
 .refine ao 3 j j ?_
  have p:l=[]:=by
   cases l with
   |nil=>rfl
   |cons x r=>obtain⟨a,n,_⟩:=h 0 (ad x.k) (by simp [aF.cs]);rw [n] at fl;cases fl
  subst p;exact⟨[],Row.nil _ _,b.empty⟩
 refine aq 3 j (nO (e:=115) (c:= #[]) b j j j (λw=>by kernel_rfl) (λf w b=>?_));have m:Row 115 68 (.slice (some ⟨f,0,none⟩) 0 0) 0 [] (R f #[] 115):=Row.made (by decide) (by decide);refine aq 1 j (d9 b m j j (by decide) j j j (news:=vcs l) (ti l q) (b.rd h (bX.of_nil _ _)) (tj l) (by omega) (by unfold maxLen;omega) (λv1 i w g b=>?_));refine ao 1 j j (⟨i,?_,b⟩);rw [fg,jV] at g;exact g
structure gB where
 v:Int
 A:Option Addr
 x:List UInt8
 c:Nat
 B:Option Addr
 l:List aF
 d:Nat
abbrev gB.cs(k:gB):List Value:=[ad k.v,.slice k.A k.x.length k.c,.slice k.B k.l.length k.d]
structure gB.ok(k:gB)(w:World):Prop where
 qT:Rd w k.A (aG k.x)
 sW:Rd w k.B (vcs k.l)
 sG:∀x∈k.l,x.ok
 pI:k.x.length<=k.c
 yX:k.l.length<=k.d
 ts:k.x.length<=1000
 c2:k.l.length<=1000
 hs:Flat k.B
theorem gB.ok.st{k:gB}{o w:World}{ae:List (List Chunk)}(h:k.ok o)(a:C o [] ae w):k.ok w:=
 ⟨a.rd h.qT (bX.of_nil _ _),a.rd h.sW (bX.of_nil _ _),h.sG,h.pI,h.yX,h.ts,h.c2,h.hs⟩
def may(g:am)(a:Int)(b:List UInt8)(slot view:Int)(value:List UInt8)(dG:List aF):Bool:=
 a== -1||(decide (b=value)||match j8 g dG slot view value with|some v=>decide (v>a)|none=>false)
theorem FV{o:World}{g:am}{k:gB}{B bb:Option Addr}{l:List aF}{value:List UInt8}{d c:Nat}{slot view:Int}(z:g.ok)(aa:k.ok o)(E:∀x∈l,x.ok)(n:Flat B)(t:l.length<=d)(y:l.length<=1000)(q:Ext g B (l.flatMap aF.cs) [] o)(m:Rd o bb (aG value))(D:value.length<=1000000)(A:value.length<=c):Calls prog 278 #[g.p,.agg k.cs.toArray,ad slot,ad view,.slice bb value.length c,.slice B l.length d] o λr w=>r= .bool (may g k.v k.x slot view value l)/\C o [] [] w:=by
 have a:Own [] o:=C.start o;refine a2 func278 (bM 2 a j j (λi w a=>?_));have a:C o [] [R i k.cs.toArray 279] w:=a;refine al 5 j (aw (C.ak a) j) (aq 2 j (cQ 18 j (λb=>?_) (λb=>?_)))
 .refine ao 9 j j (⟨aH Value.bool ?_,a.bare⟩);unfold may;rw [b];rfl
 refine al 1 j (aw (C.ak a) j) (bo 1 (qr (aa.st a).qT (a.rd m (bX.of_nil _ _))) j (λw hw=>?_));subst hw;refine bm 1 j j (λe=>?_) (λe=>?_)
 .refine ao 3 j j (⟨aH Value.bool ?_,a.bare⟩);unfold may;rw [b,e];rfl
 have s:=zZ z E n t y (q.st a (by simp)) (a.rd m (bX.of_nil _ _)) D A (slot:=slot) (below:=view);refine bo 8 s j (λw u=>?_);have a:=a.aM u;have a:C o [] ([R i k.cs.toArray 279]++_) w:=a;refine aq 1 j (bS 24 (.tuple #[ad ((j8 g l slot view value).getD (-1)),.bool (j8 g l slot view value).isSome]) j j ?_);refine aq 8 j (cQ 34 j (λf=>?_) (λf=>?_))
 .refine al 2 j (aw (C.ak a) j) (ao 3 j j (⟨aH Value.bool ?_,a.bare⟩));obtain⟨v,h⟩:=gX.1 f;unfold may;rw [b,e,h];rfl
 refine ao 6 j j (⟨aH Value.bool ?_,a.bare⟩);have h:j8 g l slot view value=none:=by simpa using f
 unfold may;rw [b,e,h];rfl
def kw(g:am)(slot below:Int)(x:List UInt8)(l:List aF):Int×List UInt8×List aF:=match j8 g l slot below x with
 |some v=>(v,x,l)
 |none=>(-1,[],[])
structure gB.own(k:gB)(ai aA:List Chunk):Prop where
 x:dt (.slice k.A k.x.length k.c) k.x ai
 l:er (.slice k.B k.l.length k.d) k.l aA
abbrev gB.P(k:gB):Int×List UInt8×List aF:=(k.v,k.x,k.l)
def qF:List Value:=[ad 0,.slice none 0 0,.slice none 0 0]
def mr:gB:=⟨-1,none,[],0,none,[],0⟩
theorem y5:mr.own [] []:=⟨Row.nil _ _,Row.nil _ _⟩
theorem zY{o:World}{g:am}{k:gB}{slot below:Int}(G:g.ok)(aa:k.ok o)(F:Ext g k.B (k.l.flatMap aF.cs) [] o):Calls prog 332 #[g.p,ad slot,ad below,.agg k.cs.toArray] o λr w=>∃(q:gB)(ai aA:List Chunk),r= .agg q.cs.toArray/\q.own ai aA/\q.P=kw g slot below k.x k.l/\C o [] [ai,aA] w:=by
 have a:Own [] o:=C.start o;refine e9 func332 (bM 2 a j j (λy w a=>cl 0 a j (λn w a=>?_)));have a:C o [] [R y k.cs.toArray 279,R n (qF).toArray 279] w:=a.f1;refine al 4 j (aw (C.ak a) j) (al 3 j (aw (C.ak a) j) ?_);have m:=zZ G aa.sG aa.hs aa.yX aa.c2 (F.st a (by simp)) (aa.st a).qT (by have:=aa.ts;omega) aa.pI (slot:=slot) (below:=below);refine bo 0 m j (λw b=>?_);have a:=a.aM b;have a:C o [] [R y k.cs.toArray 279,R n (qF).toArray 279] w:=a;refine bm 10 j j (λz=>?_) (λz=>?_)
 .refine bo 2 free_spec j (λw b=>?_);have a:=(a.aM b).f1;refine c4 a j j j j j (by decide) (λw a=>?_);have a:=C.whole (U:=mr.cs) a j;refine bI 0 j ⟨_,hf (U:=mr.cs) results332 j j j a.bE,?_⟩;have u:j8 g k.l slot below k.x=none:=by simpa using z
  exact⟨mr,[],[],j,y5,by unfold kw;rw [u];rfl,a.bare.empty.empty⟩
 obtain⟨v,u⟩:=gX.1 (show(j8 g k.l slot below k.x).isSome=true by simpa using z);have a:=a.drew;refine bw 2 j (λw=>∃ae,C o [] ([R y k.cs.toArray 279,R n (qF).toArray 279]++ae) w) ⟨_,a⟩ (iW 9 (ad v) j (by rw [u];rfl) (af 0 2 j (bT 2 j (λw⟨_,a⟩=>a.cell j) (af 5 1 j (bT 6 j (λw⟨_,a⟩=>a.cell j) (aO 3 4 j j ?_ ?_))))));have m:=g3 (c:=k.c) (aa.st a).qT (by have:=aa.ts;omega);refine cN j j j m (λr w⟨ai,s,b⟩=>?_);have a:=(a.aM b).f1.f2.f1;obtain⟨d,aX,rfl⟩:∃A c,r= .slice A k.x.length c:=by obtain⟨A,c,h,_⟩:=s.form;exact⟨A,c,h⟩
 refine ar ⟨⟨_,a⟩,?_⟩;refine aU 4 j (nO (e:=115) (c:= #[]) a j j j (λw=>by kernel_rfl) (λi w a=>?_));have D:Row 115 68 (.slice (some ⟨i,0,none⟩) 0 0) 0 [] (R i #[] 115):=Row.made (by decide) (by decide);have a:=a.f1.f2.f1;refine ar ⟨⟨_,a⟩,?_⟩;refine aU 7 j (d9 a.f2 D j j (by decide) j j j (news:=vcs k.l) (ti k.l aa.sG) (aa.st a).sW (tj k.l) (by have:=aa.c2;omega) (by have:=aa.c2;unfold maxLen;omega) (λv2 E w t a=>?_));rotate_left
 refine nO (e:=115) (c:= #[]) a j j j (λw=>by kernel_rfl) (λi w a=>?_);have D:Row 115 68 (.slice (some ⟨i,0,none⟩) 0 0) 0 [] (R i #[] 115):=Row.made (by decide) (by decide);have a:=a.f1.f2.f1;refine ar ⟨⟨_,a⟩,?_⟩;refine aU 3 j ?_;have m:=g3 (c:=k.c) (aa.st a).qT (by have:=aa.ts;omega);refine cN j j j m (λr w⟨ai,s,b⟩=>?_);have a:=(a.aM b).f1.f2.f1;obtain⟨d,aX,rfl⟩:∃A c,r= .slice A k.x.length c:=by obtain⟨A,c,h,_⟩:=s.form;exact⟨A,c,h⟩
 refine ar ⟨⟨_,a⟩,?_⟩;refine aU 7 j (d9 a.f3 D j j (by decide) j j j (news:=vcs k.l) (ti k.l aa.sG) (aa.st a).sW (tj k.l) (by have:=aa.c2;omega) (by have:=aa.c2;unfold maxLen;omega) (λv2 E w t a=>?_));rotate_left
 all_goals
  have a:=a.f1.f2.f1;rw [fg,jV] at t;obtain⟨f,dv,rfl⟩:∃A c,v2= .slice A k.l.length c:=by obtain⟨A,c,h,_⟩:=t.form;exact⟨A,c,h⟩
  refine ar ⟨⟨_,a⟩,?_⟩;refine aT 8 j (λw _=>e1 (c:=(⟨v,d,k.x,aX,f,k.l,dv⟩:gB).cs.toArray) j (λ_=>by kernel_rfl)) (dy 9 j (c4 a.f1 j j j j j bJ (λw a=>?_)));have a:C o [] (R n ((⟨v,d,k.x,aX,f,k.l,dv⟩:gB).cs).toArray 279::_) w:=C.whole (U:=(⟨v,d,k.x,aX,f,k.l,dv⟩:gB).cs) a j;refine ar (cX (bI 0 j ⟨_,hf (U:=(⟨v,d,k.x,aX,f,k.l,dv⟩:gB).cs) results332 j j j a.bE,?_⟩));exact⟨(⟨v,d,k.x,aX,f,k.l,dv⟩:gB),ai,E,j,⟨s,t⟩,by unfold kw;rw [u],C.kK (a.f2.f3)⟩
def k6(g:am)(slot below:Int)(b:List UInt8)(a:List aF)(c:List UInt8)(a8:List aF):Int×List UInt8×List aF:=
 if(kw g slot below c a8).1>(kw g slot below b a).1 then kw g slot below c a8 else kw g slot below b a
theorem EH{o:World}{g:am}{a b:gB}{slot below:Int}(u:g.ok)(E:a.ok o)(F:b.ok o)(z:Ext g a.B (a.l.flatMap aF.cs) [] o)(D:Ext g b.B (b.l.flatMap aF.cs) [] o):Calls prog 309 #[g.p,ad slot,ad below,.agg a.cs.toArray,.agg b.cs.toArray] o λr w=>∃(q:gB)(ai aA:List Chunk),r= .agg q.cs.toArray/\q.own ai aA/\q.P=k6 g slot below a.x a.l b.x b.l/\C o [] [ai,aA] w:=by
 have c:Own [] o:=C.start o;refine e9 func309 (bM 2 c j j (λf w c=>bM 0 c j j (λh w c=>cl 0 c j (λt w c=>?_))));have c:C o [] ([R f (a.cs).toArray 279,R h (b.cs).toArray 279,R t (qF).toArray 279]++[]) w:=c.f1.f2;have c:=c.drew;refine bw 1 j (λw=>∃ae,C o [] ([R f (a.cs).toArray 279,R h (b.cs).toArray 279,R t (qF).toArray 279]++ae) w) ⟨_,c⟩ (af 0 3 j (aT 3 j (λw⟨_,c⟩=>c3 (U:=a.cs) j j j c.bE) (af 5 3 j (aT 8 j (λw⟨_,c⟩=>c3 (U:=b.cs) j j j (C.f1 c).bE) (aU 4 j ?_)))));have m:=zY u (E.st c) (z.st c (by simp)) (slot:=slot) (below:=below);refine cN j j j m (λr w⟨d,ai,aA,s,G,v,n⟩=>?_);subst s;have c:=C.swap (A:=[ai,aA]) (c.aM n);refine ar ⟨⟨_,c⟩,?_⟩;refine aU 9 j ?_;have m:=zY u (F.st c) (D.st c (by simp)) (slot:=slot) (below:=below);refine cN j j j m (λr w⟨e,bn,cu,s,H,y,n⟩=>?_);subst s;have c:=C.swap (A:=[bn,cu]) (c.aM n);refine ar ⟨⟨_,c⟩,?_⟩;refine dy 10 j (c4 c j j j j j bJ (λw c=>?_));have c:C o [] (R f (d.cs).toArray 279::_) w:=C.whole (U:=d.cs) c j;refine ar (j5 11 j (c4 c.f1 j j j j j bJ (λw c=>?_)));have c:C o [] (R h (e.cs).toArray 279::_) w:=C.whole (U:=e.cs) c j;have c:=c.f1;refine ar (cX (al 4 j (c.f1.cell j) (al 1 j (c.cell j) (cm 1 j j (λi=>?_) (λi=>?_)))))
 .refine bN 2 (U:=e.cs) j j j c.f1.bE (ck 0 c.f2 j j j j j (λw c=>?_));have c:=C.whole (U:=e.cs) c j;refine bI 0 j ⟨_,hf (U:=e.cs) results309 j j j c.bE,?_⟩;have k:=i;refine⟨e,bn,cu,j,H,?_,c.drop.drop.drop.drop.drop⟩;unfold k6;rw [<-v,<-y,a6 k]
 refine bN 3 (U:=d.cs) j j j c.bE (ck 0 c.f2 j j j j j (λw c=>?_));have c:=C.whole (U:=d.cs) c j;refine bI 0 j ⟨_,hf (U:=d.cs) results309 j j j c.bE,?_⟩;have k:=i;refine⟨d,ai,aA,j,G,?_,c.drop.drop.drop.kK⟩;unfold k6;rw [<-v,<-y,aI k]
structure aW where
 k:Int
 f:Int
 to:Int
 s:Int
 v:Int
 x:List UInt8
 l:List aF
 tag:List UInt8
abbrev aB.P(m:aB):aW:=⟨m.k,m.f,m.to,m.s,m.v,m.x,m.l,m.tag⟩
structure aB.own(m:aB)(ai aA:List Chunk):Prop where
 x:dt (.slice m.A m.x.length m.c) m.x ai
 l:er (.slice m.B m.l.length m.d) m.l aA
structure aB.fit(m:aB):Prop where
 x:m.x.length<=1000000
 l:m.l.length<=1000
abbrev bi(b:Nat)(m:aB):List Chunk:=R b m.cs.toArray 103
theorem aB.q0(m:aB)(A:Option Addr)(c:Nat):m.cs.toArray.setIfInBounds 5 (.slice A m.x.length c)=({m with A:=A,c:=c}:aB).cs.toArray:=by
 apply fC;simp [aB.cs]
theorem aB.mH(m:aB)(B:Option Addr)(d:Nat):m.cs.toArray.setIfInBounds 6 (.slice B m.l.length d)=({m with B:=B,d:=d}:aB).cs.toArray:=by
 apply fC;simp [aB.cs]
def dK:aB:=⟨0,0,0,0,0,none,[],0,none,[],0,cL⟩
theorem aB.bW(m:aB)(h:m.tag.length=32):m.cs.length=39:=by simp [aB.cs,h]
theorem xP{o:World}{m:aB}(hm:m.ok o)(br:m.fit):Calls prog 139 #[.agg m.cs.toArray] o λr w=>∃(q:aB)(ai aA:List Chunk),r= .agg q.cs.toArray/\q.own ai aA/\q.P=m.P/\C o [] [ai,aA] w:=by
 have a:Own [] o:=C.start o;refine e9 func139 (bM 2 a j j (λay w a=>cl 0 a j (λaO w a=>?_)));have a:C o [] ([bi ay m,bi aO dK]++[]) w:=a.f1;have a:=a.drew;refine bw 1 j (λw=>∃ae,C o [] ([bi ay m,bi aO dK]++ae) w) ⟨_,a⟩ (af 0 1 j (bT 1 j (λw⟨_,a⟩=>a.cell m.gl) (af 3 1 j (bT 4 j (λw⟨_,a⟩=>a.cell m.eu) (aU 2 j ?_)))));have f:=g3 (c:=m.c) (hm.st a).x (by have:=br.x;omega);refine cN j j j f (λr w⟨ai,i,g⟩=>?_);obtain⟨b,aX,rfl⟩:∃A c,r= .slice A m.x.length c:=by obtain⟨A,c,h,_⟩:=i.form;exact⟨A,c,h⟩
 have a:=C.swap (A:=[ai]) (a.aM g);refine ar ⟨⟨_,a⟩,?_⟩;refine af 6 1 j (aU 5 j ?_);have f:=k3 (d:=m.d) (hm.st a).l hm.aE br.l;refine cN j j j f (λr w⟨aA,k,g⟩=>?_);obtain⟨e,d1,rfl⟩:∃A c,r= .slice A m.l.length c:=by obtain⟨A,c,h,_⟩:=k.form;exact⟨A,c,h⟩
 have a:=C.swap (A:=[aA]) (a.aM g);refine ar ⟨⟨_,a⟩,?_⟩;refine dy 7 j (cC a j j j j (by rw [hy,m.bW hm.tag];decide) (λw a=>?_));have a:C o [] (bi ay ({m with A:=b,c:=aX}:aB)::_) w:=C.gr a (m.q0 b aX);refine ar (j5 8 j (rq j j j (ar (j5 9 j (cC a j j j j (by rw [List.size_toArray,(({m with A:=b,c:=aX}:aB)).bW hm.tag];decide) (λw a=>?_))))));have a:C o [] (bi ay ({m with A:=b,c:=aX,B:=e,d:=d1}:aB)::_) w:=C.gr a ((({m with A:=b,c:=aX}:aB)).mH e d1);refine ar (cX (bN 2 (U:=({m with A:=b,c:=aX,B:=e,d:=d1}:aB).cs) j j ((({m with A:=b,c:=aX,B:=e,d:=d1}:aB)).bW hm.tag) a.bE (c4 a.f1 j j j (by simpa using({m with A:=b,c:=aX,B:=e,d:=d1}:aB).one) (by rw [List.size_toArray];exact(({m with A:=b,c:=aX,B:=e,d:=d1}:aB)).bW hm.tag) (by decide) (λw a=>?_))));have a:=C.whole (U:=({m with A:=b,c:=aX,B:=e,d:=d1}:aB).cs) a (by rw [(({m with A:=b,c:=aX,B:=e,d:=d1}:aB)).bW hm.tag];rfl);refine bI 0 j ⟨_,hf (U:=({m with A:=b,c:=aX,B:=e,d:=d1}:aB).cs) results139 j j ((({m with A:=b,c:=aX,B:=e,d:=d1}:aB)).bW hm.tag) a.bE,?_⟩;exact⟨({m with A:=b,c:=aX,B:=e,d:=d1}:aB),ai,aA,j,⟨i,k⟩,j,a.drop.drop.kK⟩
theorem DL{o:World}{m:aB}(hm:m.ok o)(br:m.fit):Calls prog 81 #[.agg m.cs.toArray] o λr w=>∃(q:aB)(ai aA:List Chunk),r= .agg q.cs.toArray/\q.own ai aA/\q.P=m.P/\C o [] [ai,aA] w:=by
 have a:Own [] o:=C.start o;refine e9 func81 (bM 2 a j j (λay w a=>cl 0 a j (λaO w a=>?_)));have a:C o [] ([bi ay m,bi aO dK]++[]) w:=a.f1;have a:=a.drew;refine bw 1 j (λw=>∃ae,C o [] ([bi ay m,bi aO dK]++ae) w) ⟨_,a⟩ (af 0 1 j (bT 1 j (λw⟨_,a⟩=>a.cell m.gl) (af 3 1 j (bT 4 j (λw⟨_,a⟩=>a.cell m.eu) (aU 2 j ?_)))));have f:=g3 (c:=m.c) (hm.st a).x (by have:=br.x;omega);refine cN j j j f (λr w⟨ai,i,g⟩=>?_);obtain⟨b,aX,rfl⟩:∃A c,r= .slice A m.x.length c:=by obtain⟨A,c,h,_⟩:=i.form;exact⟨A,c,h⟩
 have a:=C.swap (A:=[ai]) (a.aM g);refine ar ⟨⟨_,a⟩,?_⟩;refine af 6 1 j (aU 5 j ?_);have f:=k3 (d:=m.d) (hm.st a).l hm.aE br.l;refine cN j j j f (λr w⟨aA,k,g⟩=>?_);obtain⟨e,d1,rfl⟩:∃A c,r= .slice A m.l.length c:=by obtain⟨A,c,h,_⟩:=k.form;exact⟨A,c,h⟩
 have a:=C.swap (A:=[aA]) (a.aM g);refine ar ⟨⟨_,a⟩,?_⟩;refine dy 7 j (cC a j j j j (by rw [hy,m.bW hm.tag];decide) (λw a=>?_));have a:C o [] (bi ay ({m with A:=b,c:=aX}:aB)::_) w:=C.gr a (m.q0 b aX);refine ar (j5 8 j (rq j j j (ar (j5 9 j (cC a j j j j (by rw [List.size_toArray,(({m with A:=b,c:=aX}:aB)).bW hm.tag];decide) (λw a=>?_))))));have a:C o [] (bi ay ({m with A:=b,c:=aX,B:=e,d:=d1}:aB)::_) w:=C.gr a ((({m with A:=b,c:=aX}:aB)).mH e d1);refine ar (cX (bN 2 (U:=({m with A:=b,c:=aX,B:=e,d:=d1}:aB).cs) j j ((({m with A:=b,c:=aX,B:=e,d:=d1}:aB)).bW hm.tag) a.bE (c4 a.f1 j j j (by simpa using({m with A:=b,c:=aX,B:=e,d:=d1}:aB).one) (by rw [List.size_toArray];exact(({m with A:=b,c:=aX,B:=e,d:=d1}:aB)).bW hm.tag) (by decide) (λw a=>?_))));have a:=C.whole (U:=({m with A:=b,c:=aX,B:=e,d:=d1}:aB).cs) a (by rw [(({m with A:=b,c:=aX,B:=e,d:=d1}:aB)).bW hm.tag];rfl);refine bI 0 j ⟨_,hf (U:=({m with A:=b,c:=aX,B:=e,d:=d1}:aB).cs) results81 j j ((({m with A:=b,c:=aX,B:=e,d:=d1}:aB)).bW hm.tag) a.bE,?_⟩;exact⟨({m with A:=b,c:=aX,B:=e,d:=d1}:aB),ai,aA,j,⟨i,k⟩,j,a.drop.drop.kK⟩
theorem DM{o:World}{m:aB}(hm:m.ok o)(br:m.fit):Calls prog 195 #[.agg m.cs.toArray] o λr w=>∃(q:aB)(ai aA:List Chunk),r= .agg q.cs.toArray/\q.own ai aA/\q.P=m.P/\C o [] [ai,aA] w:=by
 have a:Own [] o:=C.start o;refine e9 func195 (bM 2 a j j (λay w a=>cl 0 a j (λaO w a=>?_)));have a:C o [] ([bi ay m,bi aO dK]++[]) w:=a.f1;have a:=a.drew;refine bw 1 j (λw=>∃ae,C o [] ([bi ay m,bi aO dK]++ae) w) ⟨_,a⟩ (af 0 1 j (bT 1 j (λw⟨_,a⟩=>a.cell m.gl) (af 3 1 j (bT 4 j (λw⟨_,a⟩=>a.cell m.eu) (aU 2 j ?_)))));have f:=g3 (c:=m.c) (hm.st a).x (by have:=br.x;omega);refine cN j j j f (λr w⟨ai,i,g⟩=>?_);obtain⟨b,aX,rfl⟩:∃A c,r= .slice A m.x.length c:=by obtain⟨A,c,h,_⟩:=i.form;exact⟨A,c,h⟩
 have a:=C.swap (A:=[ai]) (a.aM g);refine ar ⟨⟨_,a⟩,?_⟩;refine af 6 1 j (aU 5 j ?_);have f:=k3 (d:=m.d) (hm.st a).l hm.aE br.l;refine cN j j j f (λr w⟨aA,k,g⟩=>?_);obtain⟨e,d1,rfl⟩:∃A c,r= .slice A m.l.length c:=by obtain⟨A,c,h,_⟩:=k.form;exact⟨A,c,h⟩
 have a:=C.swap (A:=[aA]) (a.aM g);refine ar ⟨⟨_,a⟩,?_⟩;refine dy 7 j (cC a j j j j (by rw [hy,m.bW hm.tag];decide) (λw a=>?_));have a:C o [] (bi ay ({m with A:=b,c:=aX}:aB)::_) w:=C.gr a (m.q0 b aX);refine ar (j5 8 j (rq j j j (ar (j5 9 j (cC a j j j j (by rw [List.size_toArray,(({m with A:=b,c:=aX}:aB)).bW hm.tag];decide) (λw a=>?_))))));have a:C o [] (bi ay ({m with A:=b,c:=aX,B:=e,d:=d1}:aB)::_) w:=C.gr a ((({m with A:=b,c:=aX}:aB)).mH e d1);refine ar (cX (bN 2 (U:=({m with A:=b,c:=aX,B:=e,d:=d1}:aB).cs) j j ((({m with A:=b,c:=aX,B:=e,d:=d1}:aB)).bW hm.tag) a.bE (c4 a.f1 j j j (by simpa using({m with A:=b,c:=aX,B:=e,d:=d1}:aB).one) (by rw [List.size_toArray];exact(({m with A:=b,c:=aX,B:=e,d:=d1}:aB)).bW hm.tag) (by decide) (λw a=>?_))));have a:=C.whole (U:=({m with A:=b,c:=aX,B:=e,d:=d1}:aB).cs) a (by rw [(({m with A:=b,c:=aX,B:=e,d:=d1}:aB)).bW hm.tag];rfl);refine bI 0 j ⟨_,hf (U:=({m with A:=b,c:=aX,B:=e,d:=d1}:aB).cs) results195 j j ((({m with A:=b,c:=aX,B:=e,d:=d1}:aB)).bW hm.tag) a.bE,?_⟩;exact⟨({m with A:=b,c:=aX,B:=e,d:=d1}:aB),ai,aA,j,⟨i,k⟩,j,a.drop.drop.kK⟩
def fF(q:aB)(G:List Chunk):Prop:=∃ai aA,G=ai++aA/\q.own ai aA/\q.tag.length=32/\(∀x∈q.l,x.ok)/\q.fit
def fG:List aB->List Chunk->Prop
 |[],G=>G=[]
 |q::r,G=>∃ai aA,G=ai++aA/\fF q ai/\fG r aA
abbrev fW(l:List aB):List Value:=l.flatMap aB.cs
def l1(v:Value)(l:List aB)(G:List Chunk):Prop:=∃ag aA,G=ag++aA/\Row 103 39 v l.length (fW l) ag/\fG l aA
theorem fG.tag:∀{l:List aB}{G:List Chunk},fG l G->∀q∈l,q.tag.length=32
 |[],_,_,q,b=>by simp at b
 |a::r,_,⟨_,_,_,⟨_,_,_,_,d,_⟩,c⟩,q,b=>by
  rcases g0.1 b with rfl|b
  .exact d
  .exact c.tag q b
theorem fG.app:∀{l m:List aB}{G H:List Chunk},fG l G->fG m H->fG (l++m) (G++H)
 |[],m,G,H,h,k=>by have:G=[]:=h;subst this;exact k
 |a::r,m,_,H,⟨ai,aA,rfl,b,c⟩,k=>⟨ai,aA++H,by rw [dF],b,c.app k⟩
theorem fG.one{q:aB}{G:List Chunk}(h:fF q G):fG [q] G:=⟨G,[],by simp,h,j⟩
theorem yv:∀(l:List aB),(∀q∈l,q.tag.length=32)->(fW l).length=l.length*39
 |[],_=>rfl
 |q::r,h=>by
  show(q.cs++fW r).length=_;rw [b4,q.bW (h q (by simp)),yv r (λy a=>h y (by simp [a])),List.length_cons];omega
theorem u4(l:List aB):∀u∈fW l,u.oneCell'=true:=by
 intro u hu;obtain⟨x,_,a⟩:=m0.1 hu;exact jW.1 x.one u a
theorem l1.nil:l1 (.slice none 0 0) [] []:=⟨[],[],j,Row.nil _ _,j⟩
section
variable {α:Type} {V:Value->α->List Chunk->Prop}
def c6(V:Value->α->List Chunk->Prop):List (Int×Value)->List (Int×α)->List Chunk->Prop
 |[],[],G=>G=[]
 |p::m,q::t,G=>p.1=q.1/\∃ai aA,G=ai++aA/\V p.2 q.2 ai/\c6 V m t aA
 |[],_::_,_=>False
 |_::_,[],_=>False
theorem c6.keys:∀{m:List (Int×Value)}{t:List (Int×α)}{G:List Chunk},c6 V m t G->m.map Prod.fst=t.map Prod.fst
 |[],[],_,_=>rfl
 |[],_::_,_,h=>h.elim
 |_::_,[],_,h=>h.elim
 |p::m,q::t,_,⟨a,_,_,_,_,b⟩=>by rw [jT,jT,a,b.keys]
theorem c6.len{m:List (Int×Value)}{t:List (Int×α)}{G:List Chunk}(h:c6 V m t G):m.length=t.length:=by
 have:=aH List.length h.keys;simpa using this
theorem c6.nv:∀{m:List (Int×Value)}{t:List (Int×α)}{G:List Chunk}{k:Int},c6 V m t G->aZ t k=none->aZ m k=none
 |[],[],_,_,_,_=>rfl
 |[],_::_,_,_,h,_=>h.elim
 |_::_,[],_,_,h,_=>h.elim
 |p::m,q::t,_,k,⟨c,_,_,_,_,d⟩,aa=>by
  obtain⟨a,v⟩:=p;obtain⟨b,u⟩:=q;have c:a=b:=c;subst c;simp only [aZ] at aa⊢;split at aa
  .cases aa
  .rename_i e;rw [aI e];exact d.nv aa
theorem c6.find:∀{m:List (Int×Value)}{t:List (Int×α)}{G:List Chunk}{k:Int}{a:α},c6 V m t G->aZ t k=some a->
 ∃v ai g aA,aZ m k=some v/\G=ai++(g++aA)/\V v a g/\∀d c,V v d c->c6 V m (b9 t k d) (ai++(c++aA))
 |[],[],_,_,_,_,h=>by cases h
 |[],_::_,_,_,_,h,_=>h.elim
 |_::_,[],_,_,_,h,_=>h.elim
 |p::m,q::t,_,k,a,⟨e,ai,aA,rfl,o,l⟩,aa=>by
  obtain⟨J,v⟩:=p;obtain⟨b,u⟩:=q;have e:J=b:=e;subst e;simp only [aZ] at aa⊢;split at aa
  .rename_i he;cases aa;rw [a6 he];refine⟨v,[],ai,aA,j,j,o,λd c f=>?_⟩;simp only [b9,a6 he];exact⟨he,c,aA,j,f,l⟩
  .rename_i n;rw [aI n];obtain⟨z,H1,r,i,s,w,x,y⟩:=l.find aa;refine⟨z,ai++H1,r,i,s,by rw [w,dF],x,λd c f=>?_⟩;simp only [b9,aI n];exact⟨j,ai,H1++(c++i),by rw [dF],o,y d c f⟩
theorem c6.app:∀{m c:List (Int×Value)}{t d:List (Int×α)}{G a:List Chunk},c6 V m t G->c6 V c d a->c6 V (m++c) (t++d) (G++a)
 |[],_,[],_,_,_,h,b=>by have h:_=[]:=h;subst h;exact b
 |[],_,_::_,_,_,_,h,_=>h.elim
 |_::_,_,[],_,_,_,h,_=>h.elim
 |p::m,_,q::t,_,_,a,⟨e,ai,aA,rfl,g,f⟩,b=>⟨e,ai,aA++a,by rw [dF],g,f.app b⟩
theorem c6.one{k:Int}{v:Value}{a:α}{G:List Chunk}(h:V v a G):c6 V [(k,v)] [(k,a)] G:=⟨j,G,[],by simp,h,j⟩
theorem ze{β:Type}{m:List (Int×β)}{k:Int}(h:aZ m k=none):∀p∈m,p.1≠k:=by
 rcases oh m k with⟨_,b⟩|⟨J,u,a,_⟩
 .exact b
 .rw [a] at h;cases h
theorem vA{β:Type}{m:List (Int×β)}{k:Int}{v:β}(h:aZ m k=none):b9 m k v=m++[(k,v)]:=vB m k v (ze h)
theorem c6.add{m:List (Int×Value)}{t:List (Int×α)}{G b:List Chunk}{k:Int}{v:Value}{a:α}(h:c6 V m t G)(aa:aZ t k=none)(c:V v a b):c6 V (b9 m k v) (b9 t k a) (G++b):=by
 rw [vA aa,vA (h.nv aa)];exact h.app (c6.one c)
theorem c6.put:∀{m:List (Int×Value)}{t:List (Int×α)}{G c:List Chunk}{k:Int}{v:Value}{a:α},c6 V m t G->V v a c->∃d ag,c6 V (b9 m k v) (b9 t k a) d/\(G++c).Perm (ag++d)
 |[],[],_,c,k,v,a,h,e=>by have h:_=[]:=h;subst h;exact⟨c,[],c6.one e,by simp⟩
 |[],_::_,_,_,_,_,_,h,_=>h.elim
 |_::_,[],_,_,_,_,_,h,_=>h.elim
 |p::m,q::t,_,c,k,v,a,⟨f,ai,aA,rfl,n,g⟩,e=>by
  obtain⟨J,x⟩:=p;obtain⟨b,u⟩:=q;have f:J=b:=f;subst f;simp only [b9];by_cases he:J=k
  .rw [a6 he,a6 he];refine⟨c++aA,ai,⟨j,c,aA,j,e,g⟩,?_⟩;rw [dF];exact p0 _ lC
  .rw [aI he,aI he];obtain⟨d,ag,i,l⟩:=g.put (k:=k) e;refine⟨ai++d,ag,⟨j,ai,d,j,n,i⟩,?_⟩;rw [dF];refine(p0 ai l).trans ?_;rw [<-dF,<-dF];exact oZ _ lC
theorem c6.del:∀{m:List (Int×Value)}{t:List (Int×α)}{G:List Chunk}{k:Int},c6 V m t G->∃a ag,c6 V (fK m k) (fK t k) a/\G.Perm (ag++a)
 |[],[],_,_,h=>⟨[],[],j,by have h:_=[]:=h;subst h;exact oK _⟩
 |[],_::_,_,_,h=>h.elim
 |_::_,[],_,_,h=>h.elim
 |p::m,q::t,_,k,⟨c,ai,aA,rfl,g,d⟩=>by
  obtain⟨J,x⟩:=p;obtain⟨b,u⟩:=q;have c:J=b:=c;subst c;simp only [fK];by_cases he:J=k
  .rw [a6 he,a6 he];exact⟨aA,ai,d,oK _⟩
  .rw [aI he,aI he];obtain⟨a,ag,e,f⟩:=d.del (k:=k);refine⟨ai++a,ag,⟨j,ai,a,j,g,e⟩,?_⟩;refine(p0 ai f).trans ?_;rw [<-dF,<-dF];exact oZ _ lC
theorem c6.cut:∀{m oe:List (Int×Value)}{t:List (Int×α)}{G:List Chunk},c6 V (m++oe) t G->∃t1 t2 ai aA,t=t1++t2/\G=ai++aA/\t1.length=m.length/\c6 V m t1 ai/\c6 V oe t2 aA
 |[],oe,t,G,h=>⟨[],t,[],G,j,j,j,j,h⟩
 |p::m,oe,[],G,h=>h.elim
 |p::m,oe,q::t,_,⟨d,ai,aA,rfl,g,f⟩=>by
  obtain⟨t1,t2,H1,a,rfl,rfl,e,b,c⟩:=c6.cut (m:=m) (oe:=oe) f;exact⟨q::t1,t2,ai++H1,a,j,by rw [dF],by simp [e],⟨d,ai,H1,j,g,b⟩,c⟩
abbrev dc{β:Type}(t:List (Int×β)):List (Int×β):=t.mergeSort λa b=>decide (a.1<=b.1)
theorem c6.zip:∀{m:List (Int×Value)}{t:List (Int×α)}{G:List Chunk},c6 V m t G->∃z:List (Int×Value×α×List Chunk),m=z.map (λx=>(x.1,x.2.1))/\t=z.map (λx=>(x.1,x.2.2.1))/\G=z.flatMap (λx=>x.2.2.2)/\∀x∈z,V x.2.1 x.2.2.1 x.2.2.2
 |[],[],_,h=>⟨[],j,j,h,by simp⟩
 |[],_::_,_,h=>h.elim
 |_::_,[],_,h=>h.elim
 |p::m,q::t,_,⟨a,ai,aA,rfl,k,i⟩=>by
  obtain⟨z,d,e,f,g⟩:=i.zip;obtain⟨J,x⟩:=p;obtain⟨b,u⟩:=q;have a:J=b:=a;subst a;refine⟨(J,x,u,ai)::z,by rw [d];rfl,by rw [e];rfl,by rw [f];rfl,λy c=>?_⟩;rcases g0.1 c with rfl|c
  .exact k
  .exact g y c
theorem c6.zx:∀(z:List (Int×Value×α×List Chunk)),(∀x∈z,V x.2.1 x.2.2.1 x.2.2.2)->c6 V (z.map (λx=>(x.1,x.2.1))) (z.map (λx=>(x.1,x.2.2.1))) (z.flatMap (λx=>x.2.2.2))
 |[],_=>rfl
 |x::z,h=>⟨j,x.2.2.2,_,j,h x (by simp),c6.zx z (λy a=>h y (by simp [a]))⟩
theorem c6.sort{m:List (Int×Value)}{t:List (Int×α)}{G:List Chunk}(h:c6 V m t G):∃c,G.Perm c/\c6 V (dn m) (dc t) c:=by
 obtain⟨z,rfl,rfl,rfl,e⟩:=h.zip;refine⟨(z.mergeSort λa b=>decide (a.1<=b.1)).flatMap (λx=>x.2.2.2),(List.Perm.flatMap_right _ (oO z _)).symm,?_⟩;have:=c6.zx (V:=V) (z.mergeSort λa b=>decide (a.1<=b.1)) (λx d=>e x (gO.1 d));rw [tV (s:=λa b:Int×Value=>decide (a.1<=b.1)) (λ_ _ _ _=>rfl),tV (s:=λa b:Int×α=>decide (a.1<=b.1)) (λ_ _ _ _=>rfl)] at this;exact this
theorem c6.oq{m:List (Int×Value)}{t:List (Int×α)}{G:List Chunk}(h:c6 V m t G){pre:List (Int×Value)}{q:Int×Value}(g:pB m pre q):∃t1 t2 a ai b aA,dc t=t1++(q.1,a)::t2/\t1.length=pre.length/\G.Perm (ai++(b++aA))/\V q.2 a b:=by
 obtain⟨r,j⟩:=g;obtain⟨n,i,aL⟩:=h.sort;rw [j] at aL;obtain⟨t1,t2,ai,aA,e,rfl,f,_,d⟩:=aL.cut;cases t2 with
 |nil=>exact d.elim
 |cons x t2=>
  obtain⟨c,b,bn,rfl,l,_⟩:=d;obtain⟨k,a⟩:=x;have c:q.1=k:=c;subst c;exact⟨t1,t2,a,ai,b,bn,e,f,i,l⟩
def fs(T:TypeId)(V:Value->α->List Chunk->Prop)(p:Value)(t:List (Int×α))(G:List Chunk):Prop:=
 ∃b ah I m H,p=ab b/\cc bL I m/\c6 V m t H/\G=ax T b ah I++H
theorem fs.new{T:TypeId}{b ah:Nat}:cc bL (.map #[] 0) ([]:List (Int×Value))->fs T V (ab b) [] (ax T b ah (.map #[] 0)):=λh=>⟨b,ah,_,[],[],j,h,j,by simp⟩
theorem c6.wide{n:Nat}(b:∀v a G,V v a G->gE n v){m:List (Int×Value)}{t:List (Int×α)}{G:List Chunk}(h:c6 V m t G):∀q∈m,gE n q.2:=by
 obtain⟨z,rfl,_,_,e⟩:=h.zip;intro q c;obtain⟨x,d,rfl⟩:=dO.1 c;exact b _ _ _ (e x d)
end
def kd(v:Value)(q:aW)(G:List Chunk):Prop:=∃m:aB,v= .agg m.cs.toArray/\m.P=q/\fF m G
theorem kd.wide(v:Value)(q:aW)(G:List Chunk)(h:kd v q G):gE 39 v:=by
 obtain⟨m,rfl,_,_,_,_,_,a,_⟩:=h;exact⟨m.cs,j,m.bW a,m.one⟩
def cz(v:Value)(l:List aW)(G:List Chunk):Prop:=∃b0:List aB,b0.map aB.P=l/\l1 v b0 G
theorem cz.nil:cz (.slice none 0 0) [] []:=⟨[],j,l1.nil⟩
def Holds(w:World)(G:List Chunk):Prop:=∀c∈G,w.heap[c.1]? =some c.2
section
variable {o w aK:World} {F:List Nat} {ae:List (List Chunk)} {A B G:List Chunk}
theorem Holds.left(h:Holds w (A++B)):Holds w A:=λc a=>h c (dw.2 (.inl a))
theorem Holds.right(h:Holds w (A++B)):Holds w B:=λc a=>h c (dw.2 (.inr a))
theorem Holds.perm(h:Holds w A)(b:A.Perm B):Holds w B:=λc a=>h c (b.mem_iff.2 a)
theorem C.holds(h:C o F ae w)(a:G∈ae):Holds w G:=λc b=>h.here c (List.mem_flatten.2 ⟨G,a,b⟩)
theorem C.vd(h:C o F (G::ae) w):Holds w G:=h.holds (by simp)
theorem Holds.st(h:Holds o G)(a:C o [] ae w):Holds w G:=λc b=>a.cg (h c b)
theorem Holds.head{b:Nat}{I:Obj}(h:Holds w ((b,I)::G)):w.heap[b]? =some I:=h (b,I) (by simp)
theorem Holds.tail{b:Nat}{I:Obj}(h:Holds w ((b,I)::G)):Holds w G:=λc a=>h c (by simp [a])
theorem Holds.kept(h:Holds o G)(b:C o F ae w)(d:∀c∈G,c.1∉F):Holds w G:=λc a=>by
 rw [b.fX c.1 (gv.1 (h c a)).1 (d c a)];exact h c a
theorem dE.st{T:TypeId}{p:Option Addr}{m:List (Int×Value)}(h:dE T o p m)(a:C o [] ae w):dE T w p m:=by
 rcases h with h|⟨b,ah,I,rfl,c,d,e⟩
 .exact .inl h
 .exact .inr ⟨b,ah,I,j,a.cg c,a.cg d,e⟩
theorem Row.read{e:TypeId}{size:Nat}{v:Value}{n:Nat}{xs:List Value}(h:Row e size v n xs G)(f:Holds w G):∃A c,v= .slice A n c/\n<=c/\c<=maxLen/\Rd w A xs/\Flat A:=by
 rcases h.2 with⟨rfl,rfl,rfl⟩|⟨g,cap,cur,rfl,rfl,a,b,_,d⟩
 .have:xs=[]:=mc (by simpa using h.1);subst this;exact⟨none,0,j,cD _,by simp [maxLen],Rd.nil _ _,.inl j⟩
 .refine⟨_,_,j,a,b,λi u hu=>⟨_,j,?_⟩,.inr ⟨_,_,j⟩⟩;rw [<-d,jD] at hu;split at hu
  .rw [add_lit];exact cell_of f.head (by simpa using hu)
  .cases hu
theorem fs.read{α:Type}{V:Value->α->List Chunk->Prop}{T:TypeId}{p:Value}{t:List (Int×α)}(h:fs T V p t G)(c:Holds w G):∃a m H,p= .pointer a/\dE T w a m/\c6 V m t H/\Holds w H:=by
 obtain⟨b,ah,I,m,H,rfl,d,e,rfl⟩:=h;exact⟨_,m,H,j,.inr ⟨b,ah,I,j,c.left (b,_) (by simp),c.left (ah,I) (by simp),d⟩,e,c.right⟩
theorem fF.read{m:aB}(h:fF m G)(b:Holds w G):m.ok w/\m.fit:=by
 obtain⟨ai,aA,rfl,d,f,g,br⟩:=h;refine⟨⟨?_,?_,g,f⟩,br⟩
 .obtain⟨A,c,e,_,_,a,_⟩:=d.x.read b.left;cases e;exact a
 .obtain⟨A,c,e,_,_,a,_⟩:=d.l.read b.right;cases e;exact a
theorem fF.uz{m:aB}(h:fF m G):m.x.length<=m.c/\m.l.length<=m.d/\Flat m.A/\Flat m.B:=by
 obtain⟨ai,aA,rfl,a,_⟩:=h;refine⟨?_,?_,a.x.flat,a.l.flat⟩
 .obtain⟨A,c,e,b,_⟩:=a.x.form;cases e;exact b
 .obtain⟨A,c,e,b,_⟩:=a.l.form;cases e;exact b
theorem u0{α:Type}{f:α->List Value}{n:Nat}:∀(l:List α),(∀x∈l,(f x).length=n)->∀(i:Nat)(a:i<l.length),((l.flatMap f).drop (i*n)).take n=f l[i]
 |[],_,i,a=>by simp at a
 |x::r,h,0,_=>by
  have b:=h x (by simp);rw [oJ,List.drop_zero,je,List.take_append_of_le_length (by omega),ir (by omega)];rfl
 |x::r,h,i+1,a=>by
  have b:=h x (by simp);have d:=u0 r (λy c=>h y (by simp [c])) i (by simpa using a);rw [je,show(i+1)*n=(f x).length+i*n by rw [b,m4];omega,List.drop_append];rw [tT (by omega),jV,show(f x).length+i*n-(f x).length=i*n by omega];exact d
theorem iY{α:Type}{f:α->List Value}{n:Nat}{w:World}{a:Addr}{l:List α}(d:Rd w (some a) (l.flatMap f))(h:∀x∈l,(f x).length=n)(i:Nat)(c:i<l.length):Rd w (some (a.add (i*n))) (f l[i]):=by
 have b:=(d.drop (i*n)).take n;rw [u0 l h i c] at b;exact b
theorem pc{α:Type}{f:α->List Value}{n:Nat}:∀(l:List α),(∀x∈l,(f x).length=n)->(l.flatMap f).length=l.length*n
 |[],_=>by simp
 |x::r,h=>by
  rw [je,b4,h x (by simp),pc r (λy a=>h y (by simp [a])),List.length_cons,Nat.add_mul];omega
theorem h7{α:Type}{f:α->List Value}{n J:Nat}{v:Value}(l:List α)(h:∀x∈l,(f x).length=n)(i:Nat)(b:i<l.length)(c:J<n)(d:(f l[i])[J]? =some v):(l.flatMap f)[i*n+J]? =some v:=by
 have a:=aH (λz=>z[J]?) (u0 l h i b);simp only [jD,lA,c,kn] at a;rw [a,d]
theorem yn{α:Type}{f:α->List Value}{n:Nat}:∀(l:List α),(∀x∈l,(f x).length=n)->∀(i:Nat),i<l.length->(l.eraseIdx i).flatMap f=(l.flatMap f).take (i*n)++(l.flatMap f).drop ((i+1)*n)
 |[],_,i,b=>by simp at b
 |x::r,h,0,_=>by
  have a:=h x (by simp);simp only [List.eraseIdx_cons_zero,oJ,List.take_zero,jV,List.flatMap_cons,Nat.zero_add,Nat.one_mul];rw [<-a,List.drop_left]
 |x::r,h,i+1,b=>by
  have a:=h x (by simp);have g:=yn r (λy e=>h y (by simp [e])) i (by simpa using b);rw [List.eraseIdx_cons_succ,je,je,g]
  have c:(f x++r.flatMap f).take ((i+1)*n)=f x++(r.flatMap f).take (i*n):=by
   rw [show(i+1)*n=(f x).length+i*n by rw [a,m4];omega,p1,List.take_of_length_le (by omega),show(f x).length+i*n-(f x).length=i*n by omega]
  have d:(f x++r.flatMap f).drop ((i+1+1)*n)=(r.flatMap f).drop ((i+1)*n):=by
   rw [show(i+1+1)*n=(f x).length+(i+1)*n by rw [a,m4 (i+1)];omega,List.drop_append,List.drop_of_length_le (by omega),List.nil_append,show(f x).length+(i+1)*n-(f x).length=(i+1)*n by omega]
  rw [c,d,dF]
theorem fG.at{l:List aB}{G:List Chunk}(h:fG l G):∀(i:Nat)(c:i<l.length),∃ai b aA,G=ai++(b++aA)/\fF l[i] b/\fG (l.eraseIdx i) (ai++aA):=by
 induction l generalizing G with
 |nil=>intro i c;simp at c
 |cons a r m=>
  obtain⟨H1,f,rfl,d,e⟩:=h;intro i c;cases i with
  |zero=>exact⟨[],H1,f,j,d,by simpa using e⟩
  |succ i=>
   obtain⟨ai,b,aA,rfl,g,k⟩:=m e i (by simpa using c);exact⟨H1++ai,b,aA,by rw [dF],g,H1,ai++aA,by rw [dF],d,k⟩
theorem l1.form{v:Value}{l:List aB}{G:List Chunk}(h:l1 v l G):∃A c,v= .slice A l.length c/\l.length<=c/\c<=maxLen:=by
 obtain⟨ag,aA,_,a,_⟩:=h;exact a.form
theorem qw(l m:List aB):fW (l++m)=fW l++fW m:=ma
end
abbrev fh(b:Nat)(v:Value)(lost:Int):List Chunk:=R b #[v,ad 512,ad lost] 150
def g7(p:Value)(l:List aW)(lost:Nat)(G:List Chunk):Prop:=∃b v H,p=ab b/\cz v l H/\G=fh b v lost++H
theorem l1.snoc{v:Value}{l:List aB}{m:aB}{ag aA a:List Chunk}(b:Row 103 39 v (l.length+1) (fW l++m.cs) ag)(c:fG l aA)(hm:fF m a):l1 v (l++[m]) (ag++(aA++a)):=
 ⟨ag,aA++a,j,by rw [b4,List.length_singleton,qw,show fW [m]=m.cs by simp];exact b,c.app (fG.one hm)⟩
theorem z2{o:World}{b:Nat}{v:Value}{lost:Int}{l:List aB}{ag aA q:List Chunk}{m:aB}(i:Row 103 39 v l.length (fW l) ag)(y:fG l aA)(hm:fF m q)(a:Own [fh b v lost,ag] o):Calls prog 78 #[ab b,.agg m.cs.toArray] o λr w=>r= .bool (decide (l.length<512))/\∃v1 e,(if l.length<512 then Row 103 39 v1 (l.length+1) (fW l++m.cs) e else v1=v/\e=ag)/\C o (au [fh b v lost,ag]) [fh b v1 lost,e] w:=by
 obtain⟨d,h⟩:∃d,d=au [fh b v lost,ag]:=⟨_,j⟩;rw [<-h];have a:C o d [fh b v lost,ag] o:=h▸a;have g:m.tag.length=32:=hm.choose_spec.choose_spec.2.2.1;obtain⟨A,c,rfl,x,u⟩:=i.form;refine a2 func78 (bM 2 a j j (λf w a=>?_));have a:C o d ([fh b (.slice A l.length c) lost,bi f m]++[ag]) w:=a.f1;have a:=a.drew;refine bw 3 j (λw=>∃ae,C o d ([fh b (.slice A l.length c) lost,bi f m]++ae) w) ⟨_,a⟩ (af 0 3 j (a8 3 j a1 j (af 4 4 j (a8 8 j a1 j (af 9 1 j (bK (cm 0 j j (λs=>?_) (λs=>?_))))))))
 .refine ao 3 j j ?_;have n:¬l.length<512:=by omega
  exact⟨aH Value.bool (fj n).symm,_,ag,by rw [aI n];exact⟨j,j⟩,a.f2.f2.drop.f1⟩
 have a:=a.drew;have p:l.length<512:=by omega
 refine bw 2 j (λw=>∃ae,C o d ([fh b (.slice A l.length c) lost,bi f m]++ae) w) ⟨_,a⟩ (af 0 4 j (a8 4 j a1 j (aT 5 j (λw⟨_,a⟩=>c3 (U:=m.cs) j j (m.bW g) (C.f1 a).bE) (aU 6 j (gC (U:=m.cs) a j j j (m.bW g) (by decide) (by decide) (λt w a=>?_))))));have aJ:=a.bE;have a:=a.f2.f2;refine ar ⟨⟨_,a⟩,?_⟩;refine aU 7 j (d9 a.f3 i j j (by decide) j j j (news:=m.cs) (m.bW g) aJ (List.all_eq_true.1 m.one) (by omega) (by unfold maxLen;omega) (λv1 e w k a=>?_));have a:=a.f2.f2;refine ar ⟨⟨_,a⟩,?_⟩;refine af 8 2 j (dy 10 j (cC a j j j k.one bJ (λw a=>?_)));have a:C o d (fh b v1 lost::_) w:=a;exact ar (cX (ao 3 j j ⟨congrArg Value.bool (decide_eq_true p).symm,v1,e,by rw [if_pos p];exact k,a.f2.f1.kK⟩))
theorem xj{o:World}{b:Nat}{v:Value}{lost:Int}{l:List aB}{ag:List Chunk}(p:Row 103 39 v l.length (fW l) ag)(n:∀q∈l,q.tag.length=32)(g:o.heap[b]? =some (.cells #[v,ad 512,ad lost] 150 (0,0)))(m:Holds o ag){i:Nat}(f:i<l.length):Calls prog 138 #[ab b,.int .i64 i] o λr w=>r= .tuple #[.agg l[i].cs.toArray,.bool true]/\C o [] [] w:=by
 have d:Own [] o:=C.start o;obtain⟨A,c,rfl,z,x,h,y⟩:=p.read m;have hlen:∀q∈l,q.cs.length=39:=λq t=>q.bW (n q t)
 have e:=hlen l[i] (et f);obtain⟨a,rfl⟩:∃a,A=some a:=by obtain⟨a,s,_⟩:=h (i*39+0) (ad l[i].k) (h7 l hlen i f (by decide) (by simp [aB.cs]));exact⟨a,s⟩
 refine e9 func138 ?_;refine cl 2 d j (λu w d=>?_);refine aq 7 j (bS 8 (.bool false) j (aH Value.bool (fj (by omega))) ?_);refine al 4 j (cell_of (d.cg g) j) ?_;refine i0 3 j j (fj (by omega)) ?_;refine al 6 j (cell_of (d.cg g) j) ?_;refine aq 1 j (pQ j j j j (by omega) (by omega) ?_);refine bN 0 (U:=l[i].cs) j j e (iY (d.rd h (bX.of_nil _ _)) hlen i f) ?_;refine c4 d j j j (by simpa using l[i].one) (by rw [List.size_toArray];exact e) (by decide) (λw d=>?_);have d:=C.whole (U:=l[i].cs) d (by rw [e];rfl);refine bI 1 j ⟨_,dp (U:=l[i].cs) results138 j j j e d.bE,?_⟩;exact⟨j,d.bare⟩
theorem DX{o:World}{b cap:Nat}{l:List aB}{ag:List Chunk}(D:Row 103 39 (.slice (some ⟨b,0,none⟩) l.length cap) l.length (fW l) ag)(B:∀q∈l,q.tag.length=32)(a:Own [ag] o){i:Nat}(v:i<l.length):Calls prog 140 #[.slice (some ⟨b,0,none⟩) l.length cap,.int .i64 i,.int .i64 (i+1:Nat)] o λr w=>∃n,Row 103 39 r (l.eraseIdx i).length (fW (l.eraseIdx i)) n/\C o (au [ag]) [n] w:=by
 obtain⟨c,p⟩:∃c,c=au [ag]:=⟨_,j⟩;rw [<-p];have a:C o c [ag] o:=p▸a;have hlen:∀q∈l,q.cs.length=39:=λq m=>q.bW (B q m)
 have H:l.length≠0:=by omega
 obtain⟨O,E⟩:=D;obtain⟨S,P,cur,N,rfl,y,f,d,z⟩:=E.resolve_left (λh=>H h.2.1);cases N;have U:l.length-1<cap:=by omega
 have x:(fW l).length=l.length*39:=pc l hlen;have V:(l.length:Int)<=9223372036854775807:=by have:=f;unfold maxLen at this;omega
 refine a2 func140 ?_;refine aq 10 j (BW j j j j j j (by omega) (by omega) (by omega) (by omega) ?_);refine i0 6 j j ((show decide ((i:Int)=((i+1:Nat):Int))=false from fj (by omega))) ?_;have a:=a.drew;refine bw 7 j (λw=>∃cur ae,C o c (R b cur 103::ae) w) ⟨_,_,a⟩ ?_;refine af 0 2 j ?_;refine aT 2 j (λw⟨_,a⟩=>BI (i:=i) j j (by omega)) ?_;refine af 3 2 j ?_;refine aT 5 j (λw⟨_,a⟩=>BH (i:=i+1) j j (by omega)) ?_;refine aU 6 j ?_;have L:Row 103 39 (.slice (some ⟨b,0,none⟩) l.length cap) l.length (fW l) (R b cur 103):=⟨O,.inr ⟨b,cap,cur,j,j,y,f,d,z⟩⟩;have K:Rd o.drew (some ⟨b,0,none⟩) (fW l):=by obtain⟨_,_,e,_,_,h,_⟩:=L.rd a;cases e;exact h
 have I:Rd o.drew (if cap=i+1 then some ⟨b,0,none⟩ else(some (⟨b,0,none⟩:Addr)).map (·.add ((i+1)*39))) ((fW l).drop ((i+1)*39)):=by
  split
  .rename_i T;rw [tT (by rw [x,show l.length=i+1 by omega];exact cD _)];exact Rd.nil _ _
  .exact K.drop _
 refine BP a j (by decide) j j j (news:=(fW l).drop ((i+1)*39)) (by rw [iT,x,<-Nat.sub_mul]) I (λu hu=>u4 l u (List.mem_of_mem_drop hu)) (by omega) d (λQ w t g a=>?_);have G:i+(l.length-(i+1))=l.length-1:=by omega
 rw [G] at g⊢;have hle:=kk 39 (show l.length<=cap from y);have M:cur.toList.take (i*39)=(fW l).take (i*39):=by rw [<-z,List.take_take,mX (kk _ (by omega))]
 rw [M,<-yn l hlen i v] at g;refine ar ⟨⟨_,_,a⟩,?_⟩;refine af 7 1 j ?_;refine bK ?_;refine aq 6 j (BV (i:=l.length-1) (J:=l.length) j j j j j (by omega) (by omega) (by omega) ?_);refine wG (size:=39) a j j (by decide) j j j (by rw [t,fg,<-m4];exact eh (kk _ (by omega)) d) (λA w F s a=>?_);rw [fg,g] at s;refine ao 4 j j ?_;have k:(l.eraseIdx i).length=l.length-1:=List.length_eraseIdx_of_lt v;refine⟨_,⟨?_,.inr ⟨b,cap,A,by rw [k],j,by rw [k];omega,f,by rw [F,t];exact d,by rw [k];exact s⟩⟩,a⟩;exact pc _ (λq m=>hlen q (tW m))
theorem G0{o:World}{b:Nat}{v:Value}{lost:Int}{l:List aB}{ag:List Chunk}(f:Row 103 39 v l.length (fW l) ag)(g:∀q∈l,q.tag.length=32)(a:Own [fh b v lost,ag] o){i:Nat}(m:i<l.length):Calls prog 79 #[ab b,.int .i64 i] o λr w=>r= .tuple #[.agg l[i].cs.toArray,.bool true]/\∃v1 e,Row 103 39 v1 (l.eraseIdx i).length (fW (l.eraseIdx i)) e/\C o (au [fh b v lost,ag]) [fh b v1 lost,e] w:=by
 obtain⟨d,n⟩:∃d,d=au [fh b v lost,ag]:=⟨_,j⟩;rw [<-n];have a:C o d [fh b v lost,ag] o:=n▸a;have c:=l[i].bW (g l[i] (et m));have A:i<9223372036854775807:=by obtain⟨_,_,_,y,s⟩:=f.form;unfold maxLen at s;omega
 refine e9 func79 (cl 2 a j (λt w a=>?_));have k:=xj f g (a.f1.vd.head) (a.f1.f1.f2.vd) m;refine bo 5 k j (λw aa=>?_);have a:=a.aM aa;refine cl 3 a j (λu w a=>c4 a j j j (by simpa using l[i].one) (by rw [List.size_toArray];exact c) (by decide) (λw a=>?_));have a:=C.whole (U:=l[i].cs) a (by rw [c];rfl);refine al 11 j (aw (C.ak a) j) (bq 2 j j j (gm i 1 (by omega)) ?_);obtain⟨x,cap,cur,rfl,z,_⟩:=f.2.resolve_left (λh=>by have:=h.2.1;omega);have a:=a.f3;have k:=DX f g a.j7 m;refine bh 0 k j (λr w⟨e,p,aa⟩=>?_);have a:=(a.iu aa).f3;refine dB 2 a j j j p.one (λw a=>?_);have a:C o d (fh b r lost::_) w:=a;refine bN 2 (U:=l[i].cs) j j c (C.f2 a).bE (aq 1 j (c4 (C.f3 a) j j j (by simpa using l[i].one) (by rw [List.size_toArray];exact c) (by decide) (λw a=>?_)));have a:=C.whole (U:=l[i].cs) a (by rw [c];rfl);refine bI 1 j ⟨_,dp (U:=l[i].cs) results79 j j j c a.bE,?_⟩;exact⟨j,_,e,p,a.drop.f2.drop.kK⟩
theorem cz.len{v:Value}{l:List aW}{G:List Chunk}(h:cz v l G):∃A c,v= .slice A l.length c/\l.length<=c/\c<=maxLen:=by
 obtain⟨b0,rfl,a⟩:=h;rw [fB];exact a.form
theorem fG.read{w:World}:∀{l:List aB}{G:List Chunk},fG l G->Holds w G->∀q∈l,q.ok w/\q.fit
 |[],_,_,_,q,b=>by simp at b
 |a::r,_,⟨ai,aA,rfl,d,e⟩,c,q,b=>by
  rcases g0.1 b with rfl|b
  .exact d.read c.left
  .exact e.read c.right q b
theorem fF.sF{q m:aB}{ai aA:List Chunk}{w:World}(h:q.own ai aA)(a:q.P=m.P)(hm:m.ok w)(br:m.fit):fF q (ai++aA):=by
 have c:q.tag=m.tag:=aH aW.tag a;have b:q.l=m.l:=aH aW.l a;have d:q.x=m.x:=aH aW.x a;exact⟨ai,aA,j,h,by rw [c];exact hm.tag,by rw [b];exact hm.aE,⟨by rw [d];exact br.x,by rw [b];exact br.l⟩⟩
theorem g7.open{p:Value}{l:List aW}{lost:Nat}{G:List Chunk}(h:g7 p l lost G):∃b v b0 ag aA,p=ab b/\b0.map aB.P=l/\Row 103 39 v b0.length (fW b0) ag/\fG b0 aA/\G=fh b v lost++(ag++aA):=by
 obtain⟨b,v,H,rfl,⟨b0,rfl,ag,aA,rfl,c,a⟩,rfl⟩:=h;exact⟨b,v,b0,ag,aA,j,j,c,a,j⟩
theorem g7.close{b:Nat}{v:Value}{b0:List aB}{lost:Nat}{ag aA:List Chunk}(c:Row 103 39 v b0.length (fW b0) ag)(a:fG b0 aA):g7 (ab b) (b0.map aB.P) lost (fh b v lost++(ag++aA)):=
 ⟨b,v,_,j,⟨b0,j,ag,aA,j,c,a⟩,j⟩
theorem C.AC{o w:World}{F:List Nat}{A B bb:List Chunk}{ae:List (List Chunk)}(h:C o F ((A++(B++bb))::ae) w):C o F (A::B::bb::ae) w:=h.perm (by simp)
theorem C.E5{o w:World}{F:List Nat}{A B bb:List Chunk}{ae:List (List Chunk)}(h:C o F (A::B::bb::ae) w):C o F ((A++(B++bb))::ae) w:=h.perm (by simp)
theorem y8{α β:Type}(f:α->β):∀(l:List α)(i:Nat),(l.eraseIdx i).map f=(l.map f).eraseIdx i
 |[],_=>rfl
 |a::r,0=>rfl
 |a::r,i+1=>by simp [y8 f r i]
theorem sC{o:World}:Calls prog 31 #[] o λr w=>∃G,g7 r [] 0 G/\C o [] [G] w:=by
 have a:Own [] o:=C.start o;refine a2 func31 (aq 5 j (cP (c:= #[.slice none 0 0,ad 512]) j j j (λ_=>by kernel_rfl) ?_));exact cP (c:= #[.slice none 0 0,ad 512,ad 0]) j j j (λ_=>by kernel_rfl) (bM 0 a j j (λb w a=>ao 1 j j ⟨_,g7.close (b0:=[]) (Row.nil _ _) j,a.perm (by simp;rfl)⟩))
theorem xk{o:World}{p:Value}{l:List aW}{lost:Nat}{G:List Chunk}(h:g7 p l lost G)(a:Holds o G):Calls prog 41 #[p] o λr w=>r= .int .i64 l.length/\w=o:=by
 obtain⟨b,v,l,ag,aA,rfl,rfl,d,e,rfl⟩:=h.open;obtain⟨A,c,rfl,_⟩:=d.form;rw [fB];refine a2 func41 ?_;refine al 16 j (cell_of (a.left.head) j) ?_;refine ao 2 j j ?_;exact⟨j,j⟩
theorem CW{o:World}{p:Value}{l:List aW}{lost:Nat}{G:List Chunk}(h:g7 p l lost G)(a:Own [G] o){i:Nat}(c:i<l.length):Calls prog 43 #[p,.int .i64 i] o λr w=>∃(m:aB)(g ai:List Chunk),r= .tuple #[.agg m.cs.toArray,.bool true]/\m.P=l[i]/\fF m g/\g7 p (l.eraseIdx i) lost ai/\C o (au [G]) [ai,g] w:=by
 obtain⟨b,v,l,ag,aA,rfl,rfl,x,e,rfl⟩:=h.open;have c:i<l.length:=by simpa using c
 obtain⟨d,q⟩:∃d,d=au [fh b v lost++(ag++aA)]:=⟨_,j⟩;rw [<-q];have a:C o d [fh b v lost++(ag++aA)] o:=q▸a;have a:=a.AC;have f:=l[i].bW (e.tag l[i] (et c));refine e9 func43 (cl 2 a j (λA w a=>?_));have z:=G0 (b:=b) (lost:=(lost:Int)) x e.tag a.ours c;refine bo 14 z j (λw⟨v1,n,y,aa⟩=>?_);have a:=a.b3 aa;refine aq 2 j (c4 (a.bc _) j j j (by simpa using l[i].one) (by rw [List.size_toArray];exact f) (by decide) (λw a=>?_));have a:=C.whole (U:=l[i].cs) a (by rw [f];rfl);refine bI 1 j ⟨_,dp (U:=l[i].cs) results43 j j j f a.bE,?_⟩;obtain⟨H1,k,s,t,hm,u⟩:=e.at i c;have a:C o d [fh b v1 lost,n,aA] w:=a.as;rw [t] at a;refine⟨l[i],k,_,j,by simp,hm,?_,a.perm (B:=[fh b v1 lost++(n++(H1++s)),k]) ?_⟩
 .have:=g7.close (b:=b) (lost:=lost) y u;rw [y8] at this;exact this
 simp only [kj,m1,gY,dF];exact .append_left _ (.append_left _ (.append_left _ lC))
theorem CX{o:World}{p aj:Value}{d ms:List aW}{lost:Nat}{G E:List Chunk}(h:g7 p d lost G)(an:cz aj ms E)(c:Own [G,E] o)(aK:lost<=1000000000)(aC:ms.length<=1000000):Calls prog 80 #[p,aj] o λr w=>r= .int .i64 (min ms.length (512-d.length):Nat)/\∃ai,g7 p (d++ms.take (512-d.length)) (lost+(ms.length-(512-d.length))) ai/\C o (au [G,E]) [ai,E] w:=by
 obtain⟨b,v0,d,K,J,rfl,rfl,av,ap,rfl⟩:=h.open;obtain⟨ms,rfl,g,f,rfl,X,M⟩:=an;obtain⟨A,dI,rfl,aL,aN⟩:=X.form;rw [fB] at aC;simp only [fB];obtain⟨s,W⟩:∃s,s=au [fh b v0 lost++(K++J),g++f]:=⟨_,j⟩;rw [<-W];have c:C o s [fh b v0 lost++(K++J),g++f] o:=W▸c;have c:=c.AC;have hlen:∀q∈ms,q.cs.length=39:=λq V=>q.bW (M.tag q V)
 refine a2 func80 ?_
 refine cH 20 j (ct:=Nat×Nat×Nat×Value×List Chunk×List Chunk×List aB) (λi=>[(0,ab b),(5,.int .i64 (i.2.1:Nat)),(10,.slice A ms.length dI),(11,.int .i64 (ms.length:Nat)),(12,.int .i64 (i.1:Nat))])
  (λi w=>i.1<=ms.length/\i.2.1=min i.1 (512-d.length)/\i.2.2.1=lost+(i.1-i.2.1)/\Row 103 39 i.2.2.2.1 i.2.2.2.2.2.2.length (fW i.2.2.2.2.2.2) i.2.2.2.2.1/\fG i.2.2.2.2.2.2 i.2.2.2.2.2.1/\i.2.2.2.2.2.2.map aB.P=d.map aB.P++(ms.map aB.P).take i.2.1/\C o s [fh b i.2.2.2.1 (i.2.2.1:Nat),i.2.2.2.2.1,i.2.2.2.2.2.1,g++f] w) (λi=>ms.length-i.1) (0,0,lost,v0,K,J,d) ⟨j,j,j,j,j,aY⟩ ⟨b6 _,by simp,by simp,av,ap,by simp,c.as⟩ ?_
 rintro⟨i,n,m,v,ag,aA,l⟩ w ⟨ay,aJ,Q,H,y,u,c⟩;dsimp only at ay aJ Q H y u c⊢;refine cm 4 j j (λam=>?_) (λam=>?_)
 .have t:i<ms.length:=by omega
  have I:=hlen ms[i] (et t);obtain⟨_,_,e,_,_,ah,_⟩:=X.read (C.holds c (G:=g++f) (by simp)).left;cases e;obtain⟨aG,rfl⟩:∃a,A=some a:=by obtain⟨a,ax,_⟩:=ah (i*39+0) (ad ms[i].k) (h7 ms hlen i t (by decide) (by simp [aB.cs]));exact⟨a,ax⟩
  obtain⟨T,S⟩:=M.read (C.holds c (G:=g++f) (by simp)).right ms[i] (et t);refine aq 5 j (pQ j j j j (by omega) (by omega) ?_);refine bN 0 (U:=ms[i].cs) j j I (iY ah hlen i t) (cl 0 c j (λx w c=>c4 (c.bc x) j j j (by simpa using ms[i].one) (by rw [List.size_toArray];exact I) (by decide) (λw c=>?_)));have c:=C.whole (U:=ms[i].cs) c (by rw [I];rfl);have c:C o s [bi x ms[i],fh b v m,ag,aA,g++f] w:=c.as;have c:=c.drew;refine bw 1 j (λw=>∃ae,C o s ([bi x ms[i]]++ae) w) ⟨_,c⟩ (af 0 3 j (aT 3 j (λw⟨_,c⟩=>c3 (U:=ms[i].cs) j j I (bp (C.ak c))) (aU 4 j ?_)));obtain⟨T,S⟩:=M.read (C.holds c (G:=g++f) (by simp)).right ms[i] (et t);have N:=xP T S;refine cN j j j N (λr w⟨q,B,D,aE,V,Z,aa⟩=>?_);subst aE;have ac:=fF.sF V Z T S;have c:=c.aM aa;have c:C o s [bi x ms[i],fh b v m,ag,aA,g++f,B,D] w:=c.as;refine ar ⟨⟨_,c⟩,?_⟩;refine aU 5 j ?_;have N:=z2 (b:=b) (lost:=(m:Int)) H y ac c.ours;refine bF j j j N (λw⟨v1,F,z,aa⟩=>?_);have c:=c.b3 aa;have c:C o s [bi x ms[i],fh b v1 m,F,aA,g++f,B,D] w:=c.as;refine ar ⟨⟨_,c⟩,?_⟩;refine bK (cm 0 j j (λL=>?_) (λL=>?_))
  .refine bq 2 j j j (gm n 1 (by omega)) (bq 2 j j j (gm i 1 (by omega)) (bP 1 j ?_));have R:l.length<512:=L;rw [a6 R] at z;have O:=aH List.length u;rw [b4,List.length_take,List.length_map,List.length_map,List.length_map] at O;have aD:n=i/\i<512-d.length:=by omega
   refine⟨(i+1,n+1,m,v1,F,aA++(B++D),l++[q]),⟨j,j,j,j,j,aY⟩,⟨t,by dsimp only;omega,by dsimp only;omega,?_,y.app (fG.one ac),?_,C.perm (A:=[fh b v1 m,F,aA,B,D,g++f]) c.as (by simp)⟩,by dsimp only;omega⟩
   .dsimp only;rw [b4,List.length_singleton,qw,show fW [q]=q.cs by simp];exact z
   dsimp only;rw [jU,u,List.append_assoc,aD.1,List.take_add_one];simp [t,Z]
  refine al 4 j (aw (C.ak c) j) (bq 0 j j j (gm m 1 (by omega)) (dB 2 (c.bc _) j j j j (λw c=>?_)));have c:C o s (fh b v1 (m+1:Nat)::_) w:=c;have c:C o s [fh b v1 (m+1:Nat),F,aA,g++f] w:=c.as;refine bq 1 j j j (gm i 1 (by omega)) (bP 1 j ?_);have R:¬l.length<512:=L;rw [aI R] at z;rw [z.1,z.2] at c;have O:=aH List.length u;rw [b4,List.length_take,List.length_map,List.length_map,List.length_map] at O;refine⟨(i+1,n,m+1,v,ag,aA,l),⟨j,j,j,j,j,aY⟩,⟨t,by dsimp only;omega,by dsimp only;omega,H,y,u,c⟩,by dsimp only;omega⟩
 refine ao 5 j j ?_;have az:i=ms.length:=by omega
 subst az
 have aF:(ms.map aB.P).take n=(ms.map aB.P).take (512-d.length):=by
  rw [aJ];rcases Nat.le_total ms.length (512-d.length) with h|h
  .rw [mX h,ir (by simp),ir (by simpa using h)]
  .rw [Nat.min_eq_right h]
 rw [aF] at u;have Y:=g7.close (b:=b) (lost:=m) H y;rw [u,Q,show ms.length-n=ms.length-(512-d.length) by omega] at Y;rw [Q,show ms.length-n=ms.length-(512-d.length) by omega] at c;exact⟨by rw [aJ],_,Y,c.E5⟩
abbrev aW.body(m:aW):List UInt8:=ea [4,m.k,m.f,m.s,m.v]++(hA m.x++jt m.l)
def aW.may(m:aW):Bool:=fq m.k 1 6&&fq m.f 0 9&&fq m.to 0 9&&fq m.s 0 63&&fq m.v 0 8&&decide (m.x.length<=200)&&decide (m.l.length<=10)&&m.l.all i8
structure aW.cR(m:aW):Prop where
 tag:m.tag.length=32
 aE:∀x∈m.l,x.ok
 x:m.x.length<=200
 l:m.l.length<=10
structure aj where
 an:Int
 slot:Int
 view:Int
 fY:Int
 dD:List UInt8
 c2:List aF
 want:List UInt8
 props:List (Int×aW)
 dh:List (List UInt8)
 cU:List (Int×List aF)
 ay:List (Int×List aF)
 dk:List (Int×List (Int×aW))
 hU:Int
 comm:Int
 prop:Int
 value:List UInt8
 dG:List aF
 dec:Bool
def aj.new(an slot:Int):aj:=⟨an,slot,0,-1,[],[],[],[],[],[],[],[],-1,-1,-1,[],[],false⟩
abbrev am.n(g:am):Nat:=g.keys.length
def aj.leads(g:am)(s:aj)(node view:Int):Bool:=node==(nr s.slot.toNat view.toNat g.n:Nat)
def aj.jr(g:am)(s:aj)(m:aW)(to:Int):aW:={m with f:=s.an,to:=to,s:=s.slot,tag:=g.cr s.an ({m with f:=s.an,to:=to,s:=s.slot}:aW).body}
def mB(an:Int)(n:Nat):List Int:=((List.range n).map λi:Nat=>(i:Int)).filter λi=>i !=an
def aj.all(g:am)(s:aj)(m:aW):List aW:=(mB s.an g.n).map λto=>s.jr g m to
def pe(l:List aF)(sum:List UInt8)(f:Int):Bool:=l.any λv=>v.sum==sum&&v.f==f
def iU(l:List aF)(v:aF):List aF:=if pe l v.sum v.f then l else l++[v]
def aj.iv(s:aj)(kind view:Int):List aF:=(aZ (if kind=1 then s.cU else s.ay) view).getD []
def aj.counts(s:aj)(v:aF):aj:=if v.k=1 then{s with cU:=b9 s.cU v.v (iU (s.iv 1 v.v) v)} else{s with ay:=b9 s.ay v.v (iU (s.iv 2 v.v) v)}
def aj.jL(s:aj)(x:List UInt8):aj:=if x∈s.dh then s else{s with dh:=s.dh++[x]}
def aj.gh(g:am)(s:aj)(m:aW):aj:=if(aZ s.props m.v).isSome|| !s.leads g m.f m.v then s else({s with props:=b9 s.props m.v m}:aj).jL m.x
def aj.hX(g:am)(s:aj)(m:aW)(v:aF):Bool:=(v.k==1||v.k==2)&&(v.s==s.slot&&(v.f==m.f&&_root_.Go.Proofs.YtdomoelfhjdioaaGreatDoor.R.cR g v))
def aj.c8(g:am)(s:aj)(m:aW):aj:=match m.l with
 |[]=>s
 |v::_=>if s.hX g m v then s.counts v else s
def aj.status(g:am)(s:aj)(m:aW):aj:=if s.leads g s.an m.v then
 {s with dk:=b9 s.dk m.v (if(aZ ((aZ s.dk m.v).getD []) m.f).isSome then(aZ s.dk m.v).getD [] else b9 ((aZ s.dk m.v).getD []) m.f m)} else s
def aj.gf(s:aj)(x:List UInt8)(l:List aF):aj:={s with value:=x,dG:=l,dec:=true}
def aj.decision(g:am)(s:aj)(m:aW):aj:=match m.l with
 |[]=>s
 |v::_=>if meets g m.l 2 s.slot v.v (bO m.x) then s.gf m.x m.l else s
def aj.ml(g:am)(s:aj)(m:aW):Bool:=m.may&&(m.s==s.slot&&(m.f !=s.an&&g.check m.f m.body m.tag))
def jZ(l:List aF):List aF:=l.mergeSort λa b=>decide (a.f<=b.f)
def fa(l:List aF)(sum:List UInt8):List aF:=l.filter λv=>v.sum==sum
def aj.fE(g:am)(s:aj)(b:List aF):Option (List UInt8×List aF):=s.dh.findSome? λx=>if iL g.n<=(jZ (fa b (bO x))).length then some (x,jZ (fa b (bO x))) else none
def aj.aE(g:am)(s:aj)(kind:Int)(x:List UInt8):aj×List aW:=
 (s.counts (cS g kind s.slot s.view (bO x) s.an),s.all g ⟨3,0,0,0,s.view,[],[cS g kind s.slot s.view (bO x) s.an],cL⟩)
def aj.gT(g:am)(s:aj):Option (aj×List aW):=((dc s.ay).findSome? λp=>s.fE g p.2).map λy=>(s.gf y.1 y.2,[])
def aj.gz(g:am)(s:aj):Option (aj×List aW):=match aZ s.props s.view with
 |none=>none
 |some m=>if s.hU>=s.view then none else if _root_.Go.Proofs.YtdomoelfhjdioaaGreatDoor.R.may g s.fY s.dD s.slot s.view m.x m.l then some (({s with hU:=s.view}:aj).aE g 1 m.x) else none
def aj.g4(g:am)(s:aj):Option (aj×List aW):=if s.comm>=s.view then none else
 match s.fE g (s.iv 1 s.view) with
 |none=>none
 |some y=>some (({s with comm:=s.view,fY:=s.view,dD:=y.1,c2:=y.2}:aj).aE g 2 y.1)
def iF(g:am)(slot view:Int)(l:List (Int×aW)):Int×List UInt8×List aF:=l.foldl (λk p=>k6 g slot view k.2.1 k.2.2 p.2.x p.2.l) (-1,[],[])
def aj.gP(g:am)(s:aj):Option (List UInt8×List aF):=
 if 0<s.view then
  match aZ s.dk s.view with
  |none=>none
  |some l=>if(aZ l s.an).isSome&&decide (iL g.n<=l.length) then
   (if(iF g s.slot s.view (dc l)).1>=0 then some (iF g s.slot s.view (dc l)).2 else if 0<s.want.length then some (s.want,[]) else none)
   else none
 else if 0<s.want.length then some (s.want,[]) else none
def aj.gS(g:am)(s:aj):Option (aj×List aW):=if s.leads g s.an s.view=false\/s.prop>=s.view then none else
 match s.gP g with
 |none=>none
 |some y=>some (({s with prop:=s.view}:aj).gh g (s.jr g ⟨2,0,0,0,s.view,y.1,y.2,cL⟩ s.an),s.all g ⟨2,0,0,0,s.view,y.1,y.2,cL⟩)
def aj.step(g:am)(s:aj):Option (aj×List aW):=match s.gT g with
 |some r=>some r
 |none=>match s.gz g with
  |some r=>some r
  |none=>match s.g4 g with
   |some r=>some r
   |none=>s.gS g
def aj.left(s:aj):Nat:=(if s.dec then 0 else 1)+(if s.hU<s.view then 1 else 0)+(if s.comm<s.view then 1 else 0)+(if s.prop<s.view then 1 else 0)
def aj.go(g:am):Nat->aj->List aW->aj×List aW
 |0,s,l=>(s,l)
 |n+1,s,l=>if s.dec then(s,l) else match s.step g with
  |none=>(s,l)
  |some (e5,b0)=>aj.go g n e5 (l++b0)
def aj.steps(g:am)(s:aj):aj×List aW:=aj.go g 5 s []
def aj.fm(g:am)(s:aj)(m:aW):aj:=if m.k=2 then s.gh g m else if m.k=3 then s.c8 g m else if m.k=4 then s.status g m else if m.k=5 then s.decision g m else s
def aj.take(g:am)(s:aj)(m:aW):aj×List aW:=if s.dec|| !s.ml g m then(s,[]) else(s.fm g m).steps g
def aj.hY(g:am)(s:aj)(x:List UInt8):aj×List aW:=if s.dec then(s,[]) else(if 0<x.length/\x.length<=200 then{s with want:=x} else s:aj).steps g
def aj.gs(g:am)(s:aj):aj×List aW:=
 let s1:aj:={s with view:=s.view+1};let m:aW:=⟨4,0,0,0,s.view+1,s.dD,s.c2,cL⟩;let to:Int:=(nr s.slot.toNat (s.view+1).toNat g.n:Nat)
 if to=s.an then(s1.status g (s1.jr g m to),[]) else(s1,[s1.jr g m to])
def aj.tick(g:am)(s:aj):aj×List aW:=if s.dec||decide (s.view>=8) then(s,[]) else
 (((s.gs g).1.steps g).1,(s.gs g).2++((s.gs g).1.steps g).2)
structure fO(g:am)(N:Nat)(l:List aF):Prop where
 len:l.length<=N
 ok:∀v∈l,v.ok
 cR:∀v∈l,_root_.Go.Proofs.YtdomoelfhjdioaaGreatDoor.R.cR g v=true
 apart:l.Pairwise λa b=>¬(a.sum=b.sum/\a.f=b.f)
structure aj.ok(g:am)(N:Nat)(s:aj):Prop where
 an:0<=s.an/\s.an<g.n
 slot:0<=s.slot/\s.slot<=63
 view:0<=s.view/\s.view<=8
 dD:s.dD.length<=200
 c2:s.c2.length<=10
 lb:∀x∈s.c2,x.ok
 want:s.want.length<=200
 props:s.props.length<=N
 sR:∀p∈s.props,p.2.cR
 dh:s.dh.length<=N
 pC:∀x∈s.dh,x.length<=200
 cU:s.cU.length<=N
 lE:∀p∈s.cU,fO g N p.2
 ay:s.ay.length<=N
 jY:∀p∈s.ay,fO g N p.2
 dk:s.dk.length<=N
 mI:∀p∈s.dk,p.2.length<=N/\∀q∈p.2,q.2.cR
 value:s.value.length<=200
 dG:s.dG.length<=10
 re:∀x∈s.dG,x.ok
theorem fO.more{g:am}{N M:Nat}{l:List aF}(h:fO g N l)(a:N<=M):fO g M l:=⟨eh h.len a,h.ok,h.cR,h.apart⟩
theorem fO.nil(g:am)(N:Nat):fO g N []:=⟨by simp,by simp,by simp,by simp⟩
theorem aj.ok.more{g:am}{N M:Nat}{s:aj}(h:s.ok g N)(a:N<=M):s.ok g M:=
 {h with props:=eh h.props a,dh:=eh h.dh a,cU:=eh h.cU a,lE:=λp b=>(h.lE p b).more a,ay:=eh h.ay a,jY:=λp b=>(h.jY p b).more a,dk:=eh h.dk a,mI:=λp b=>⟨eh (h.mI p b).1 a,(h.mI p b).2⟩}
theorem mw{β:Type}:∀(m:List (Int×β))(k:Int)(v:β),(b9 m k v).length<=m.length+1
 |[],_,_=>by simp [b9]
 |(J,u)::r,k,v=>by
  simp only [b9];split
  .simp
  .have:=mw r k v;simp only [ez];omega
theorem iy{β:Type}:∀{m:List (Int×β)}{k:Int}{v:β}{p:Int×β},p∈b9 m k v->p∈m\/p=(k,v)
 |[],k,v,p,h=>by simp [b9] at h;exact .inr h
 |(J,u)::r,k,v,p,h=>by
  simp only [b9] at h;split at h
  .rcases g0.1 h with h|h
   .exact .inr h
   .exact .inl (lw _ h)
  .rcases g0.1 h with h|h
   .exact .inl (h▸oL)
   .rcases iy h with h|h
    .exact .inl (lw _ h)
    .exact .inr h
theorem hF{β:Type}{m:List (Int×β)}{k:Int}{v:β}(h:aZ m k=some v):(k,v)∈m:=by
 rcases oh m k with⟨a,_⟩|⟨J,u,a,b,_⟩
 .rw [a] at h;cases h
 .rw [a] at h;cases h;exact hk b
theorem fO.sE{g:am}{N:Nat}{b:List (Int×List aF)}(h:∀p∈b,fO g N p.2)(k:Int):fO g N ((aZ b k).getD []):=by
 cases aa:aZ b k with
 |none=>exact fO.nil g N
 |some l=>exact h _ (hF aa)
theorem aj.ok.iv{g:am}{N:Nat}{s:aj}(h:s.ok g N)(kind view:Int):fO g N (s.iv kind view):=by
 unfold aj.iv;split
 .exact fO.sE h.lE view
 .exact fO.sE h.jY view
theorem fO.iU{g:am}{N:Nat}{l:List aF}{v:aF}(h:fO g N l)(j:v.ok)(i:_root_.Go.Proofs.YtdomoelfhjdioaaGreatDoor.R.cR g v=true):fO g (N+1) (iU l v):=by
 unfold _root_.Go.Proofs.YtdomoelfhjdioaaGreatDoor.R.iU;split
 .exact h.more (ey _)
 .rename_i aJ;refine⟨by rw [b4,List.length_singleton];have:=h.len;omega,?_,?_,?_⟩
  .intro x c;rcases dw.1 c with c|c
   .exact h.ok x c
   .rw [fT.1 c];exact j
  .intro x c;rcases dw.1 c with c|c
   .exact h.cR x c
   .rw [fT.1 c];exact i
  .refine List.pairwise_append.2 ⟨h.apart,by simp,λa e b f d=>aJ ?_⟩;rw [fT.1 f] at d;exact kl.2 ⟨a,e,by simp [d.1,d.2]⟩
theorem aj.ok.counts{g:am}{N:Nat}{s:aj}{v:aF}(h:s.ok g N)(d:v.ok)(c:_root_.Go.Proofs.YtdomoelfhjdioaaGreatDoor.R.cR g v=true):(s.counts v).ok g (N+1):=by
 unfold aj.counts;have a:=h.more (ey N);split
 .exact{a with cU:=eh (mw _ _ _) (p2 h.cU),lE:=λp b=>(iy b).elim (a.lE p) (λe=>by rw [e];exact(h.iv 1 v.v).iU d c)}
 .exact{a with ay:=eh (mw _ _ _) (p2 h.ay),jY:=λp b=>(iy b).elim (a.jY p) (λe=>by rw [e];exact(h.iv 2 v.v).iU d c)}
theorem aj.ok.jL{g:am}{N:Nat}{s:aj}{x:List UInt8}(h:s.ok g (N+1))(c:s.dh.length<=N)(a:x.length<=200):(s.jL x).ok g (N+1):=by
 unfold aj.jL;split
 .exact h
 .exact{h with dh:=by simp only [b4,List.length_singleton];omega,pC:=λy b=>(List.mem_append.1 b).elim (h.pC y) (λe=>by rw [List.mem_singleton.1 e];exact a)}
theorem aj.ok.gh{g:am}{N:Nat}{s:aj}{m:aW}(h:s.ok g N)(hm:m.cR):(s.gh g m).ok g (N+1):=by
 unfold aj.gh;have a:=h.more (ey N);split
 .exact a
 .have b:aj.ok g (N+1) ({s with props:=b9 s.props m.v m}:aj):=
   {a with props:=eh (mw _ _ _) (p2 h.props),sR:=λp c=>(iy c).elim (a.sR p) (λe=>by rw [e];exact hm)}
  exact b.jL h.dh hm.x
theorem aj.ok.c8{g:am}{N:Nat}{s:aj}{m:aW}(h:s.ok g N)(hm:m.cR):(s.c8 g m).ok g (N+1):=by
 unfold aj.c8;have b:=h.more (ey N);split
 .exact b
 .rename_i v r c;split
  .rename_i a;refine h.counts (hm.aE v (by rw [c];simp)) ?_;unfold aj.hX at a;simp only [d8] at a;exact a.2.2.2
  .exact b
theorem aj.ok.status{g:am}{N:Nat}{s:aj}{m:aW}(h:s.ok g N)(hm:m.cR):(s.status g m).ok g (N+1):=by
 unfold aj.status;have b:=h.more (ey N)
 have a:((aZ s.dk m.v).getD []).length<=N/\∀q∈(aZ s.dk m.v).getD [],q.2.cR:=by
  cases aa:aZ s.dk m.v with
  |none=>exact⟨by simp,by simp⟩
  |some l=>exact h.mI _ (hF aa)
 split
 .refine{b with dk:=eh (mw _ _ _) (p2 h.dk),mI:=λp c=>(iy c).elim (b.mI p) (λe=>?_)};rw [e];dsimp only;split
  .exact⟨eh a.1 (ey _),a.2⟩
  .exact⟨eh (mw _ _ _) (p2 a.1),λq d=>(iy d).elim (a.2 q) (λe=>by rw [e];exact hm)⟩
 .exact b
theorem aj.ok.gf{g:am}{N:Nat}{s:aj}{x:List UInt8}{l:List aF}(h:s.ok g N)(c:x.length<=200)(a:l.length<=10)(b:∀x∈l,x.ok):(s.gf x l).ok g N:=
 {h with value:=c,dG:=a,re:=b}
theorem aj.ok.decision{g:am}{N:Nat}{s:aj}{m:aW}(h:s.ok g N)(hm:m.cR):(s.decision g m).ok g N:=by
 unfold aj.decision;split
 .exact h
 .split
  .exact h.gf hm.x hm.l hm.aE
  .exact h
theorem sD:∀(n:Nat)(l:List Int),l.Nodup->(∀i∈l,0<=i/\i<n)->l.length<=n
 |0,l,_,h=>by
  cases l with
  |nil=>simp
  |cons a r=>have:=h a (by simp);omega
 |n+1,l,aJ,h=>by
  have p:=sD n (l.filter λi=>decide (i≠(n:Int))) (aJ.filter _) (λi f=>by
   have e:=jd.1 f;have m:=h i e.1;have c:i≠(n:Int):=by simpa using e.2
   omega)
  have e:l.length<=(l.filter λi=>decide (i≠(n:Int))).length+1:=by
   have m:(l.filter λi=>decide (i=(n:Int))).length<=1:=by
    have c:(l.filter λi=>decide (i=(n:Int))).Nodup:=aJ.filter _;have d:∀i∈l.filter (λi=>decide (i=(n:Int))),i=(n:Int):=λi f=>by simpa using(List.mem_filter.1 f).2
    generalize l.filter (λi=>decide (i=(n:Int)))=z at c d
    match z,c,d with
    |[],_,_=>simp
    |[_],_,_=>simp
    |a::b::r,c,d=>
     have k:=d a (by simp);have az:=d b (by simp);simp [k,az] at c
   have o:∀z:List Int,z.length=(z.filter λi=>decide (i≠(n:Int))).length+(z.filter λi=>decide (i=(n:Int))).length:=by
    intro z;induction z with
    |nil=>rfl
    |cons a r j=>
     by_cases g:a=(n:Int)
     .simp [p3,g];simp at j;omega
     .simp [p3,g];simp at j;omega
   have:=o l;omega
  omega
theorem pd{g:am}{v:aF}(h:_root_.Go.Proofs.YtdomoelfhjdioaaGreatDoor.R.cR g v=true):0<=v.f/\v.f<g.n:=by
 unfold _root_.Go.Proofs.YtdomoelfhjdioaaGreatDoor.R.cR am.check at h;have:=(d8 _ _▸h).1;exact dj this
theorem xz(g:am)(k s v:Int)(sum:List UInt8){f:Int}(br:0<=f/\f<g.n):_root_.Go.Proofs.YtdomoelfhjdioaaGreatDoor.R.cR g (cS g k s v sum f)=true:=by
 unfold _root_.Go.Proofs.YtdomoelfhjdioaaGreatDoor.R.cR am.check;have e:(cS g k s v sum f).lR=aF.lR ⟨k,s,v,sum,f,cL⟩:=rfl;rw [e];have a:(cS g k s v sum f).tag=g.cr f (aF.lR ⟨k,s,v,sum,f,cL⟩):=rfl;have b:(cS g k s v sum f).f=f:=rfl;rw [a,b];simp only [beq_self_eq_true,Bool.and_true,gd];exact br
theorem vO{g:am}{N:Nat}{l:List aF}(h:fO g N l)(sum:List UInt8):((fa l sum).map aF.f).Nodup:=by
 unfold fa;refine tR.2 ?_;have d:(l.filter λv=>v.sum==sum).Pairwise λa b=>¬(a.sum=b.sum/\a.f=b.f):=h.apart.filter _
 refine List.Pairwise.imp_of_mem (fun{a b}i k j e=>j ⟨?_,e⟩) d;have c:=(jd.1 i).2;have az:=(jd.1 k).2;rw [dY.1 c,dY.1 az]
theorem zz{g:am}{N:Nat}{l:List aF}(h:fO g N l)(sum:List UInt8):(fa l sum).length<=g.n:=by
 have:=sD g.n ((fa l sum).map aF.f) (vO h sum) (λi a=>by
  obtain⟨v,b,rfl⟩:=dO.1 a;exact pd (h.cR v (jd.1 b).1))
 simpa using this
theorem De(l:List aF):(jZ l).length=l.length:=hR _
theorem ux{l:List aF}{v:aF}:v∈jZ l↔v∈l:=gO
theorem aj.ok.fE{g:am}{N:Nat}{s:aj}{b:List aF}{y:List UInt8×List aF}(h:s.ok g N)(d:g.ok)(c:fO g N b)(he:s.fE g b=some y):y.1.length<=200/\y.2.length<=10/\∀v∈y.2,v.ok:=by
 obtain⟨x,f,a⟩:=p4 he;split at a
 .cases a;refine⟨h.pC x f,?_,λv e=>c.ok v (jd.1 (ux.1 e)).1⟩;dsimp only;rw [De];exact eh (zz c _) d.n10
 .cases a
theorem aj.ok.aE{g:am}{N:Nat}{s:aj}(h:s.ok g N)(kind:Int)(x:List UInt8):(s.aE g kind x).1.ok g (N+1):=
 h.counts (iX _ _ _ _ _ _ (e7 _)) (xz _ _ _ _ _ h.an)
theorem aj.ok.gT{g:am}{N:Nat}{s:aj}{r:aj×List aW}(h:s.ok g N)(b:g.ok)(a:s.gT g=some r):r.1.ok g N:=by
 unfold aj.gT at a;cases br:(dc s.ay).findSome? λp=>s.fE g p.2 with
 |none=>rw [br] at a;cases a
 |some y=>
  rw [br] at a;cases a;obtain⟨p,c,d⟩:=p4 br;have:=h.fE b (h.jY p (gO.1 c)) d;exact h.gf this.1 this.2.1 this.2.2
theorem aj.ok.gz{g:am}{N:Nat}{s:aj}{r:aj×List aW}(h:s.ok g N)(a:s.gz g=some r):r.1.ok g (N+1):=by
 unfold aj.gz at a;split at a
 .cases a
 .split at a
  .cases a
  .split at a
   .cases a;exact aj.ok.aE (s:={s with hU:=s.view}) {h with} 1 _
   .cases a
theorem aj.ok.g4{g:am}{N:Nat}{s:aj}{r:aj×List aW}(h:s.ok g N)(b:g.ok)(a:s.g4 g=some r):r.1.ok g (N+1):=by
 unfold aj.g4 at a;split at a
 .cases a
 .split at a
  .cases a
  .rename_i y he;cases a;have:=h.fE b (h.iv 1 s.view) he;exact aj.ok.aE (s:={s with comm:=s.view,fY:=s.view,dD:=y.1,c2:=y.2}) {h with dD:=this.1,c2:=this.2.1,lb:=this.2.2} 2 _
theorem zX{g:am}{slot below:Int}{x:List UInt8}{l:List aF}(c:x.length<=200)(a:l.length<=10)(b:∀v∈l,v.ok):(kw g slot below x l).2.1.length<=200/\(kw g slot below x l).2.2.length<=10/\∀v∈(kw g slot below x l).2.2,v.ok:=by
 unfold kw;split
 .exact⟨c,a,b⟩
 .exact⟨by simp,by simp,by simp⟩
theorem yD{g:am}{slot view:Int}{l:List (Int×aW)}(h:∀p∈l,p.2.cR):(iF g slot view l).2.1.length<=200/\(iF g slot view l).2.2.length<=10/\∀v∈(iF g slot view l).2.2,v.ok:=by
 unfold iF
 have key:∀(l:List (Int×aW))(k:Int×List UInt8×List aF),(∀p∈l,p.2.cR)->(k.2.1.length<=200/\k.2.2.length<=10/\∀v∈k.2.2,v.ok)->
  (l.foldl (λk p=>k6 g slot view k.2.1 k.2.2 p.2.x p.2.l) k).2.1.length<=200/\(l.foldl (λk p=>k6 g slot view k.2.1 k.2.2 p.2.x p.2.l) k).2.2.length<=10/\∀v∈(l.foldl (λk p=>k6 g slot view k.2.1 k.2.2 p.2.x p.2.l) k).2.2,v.ok:=by
  intro l;induction l with
  |nil=>intro k _ aa;exact aa
  |cons p r d=>
   intro k b aa;refine d _ (λq c=>b q (by simp [c])) ?_;have a:=b p (by simp);unfold k6;dsimp only;split
   .exact zX a.x a.l a.aE
   .exact zX aa.1 aa.2.1 aa.2.2
 exact key l _ h ⟨by simp,by simp,by simp⟩
theorem aj.ok.gP{g:am}{N:Nat}{s:aj}{y:List UInt8×List aF}(h:s.ok g N)(a:s.gP g=some y):y.1.length<=200/\y.2.length<=10/\∀v∈y.2,v.ok:=by
 unfold aj.gP at a
 have hw:∀y:List UInt8×List aF,(if 0<s.want.length then some (s.want,([]:List aF)) else none)=some y->y.1.length<=200/\y.2.length<=10/\∀v∈y.2,v.ok:=λy b=>by
  split at b
  .cases b;exact⟨h.want,by simp,by simp⟩
  .cases b
 split at a
 .split at a
  .cases a
  .rename_i l c;split at a
   .split at a
    .cases a;exact yD (λp d=>(h.mI _ (hF c)).2 p (gO.1 d))
    .exact hw y a
   .cases a
 .exact hw y a
theorem aj.nE{g:am}{s:aj}{m:aW}{to:Int}(c:m.x.length<=200)(a:m.l.length<=10)(b:∀v∈m.l,v.ok):(s.jr g m to).cR:=⟨am.ec _ _ _,b,c,a⟩
theorem aj.ok.gS{g:am}{N:Nat}{s:aj}{r:aj×List aW}(h:s.ok g N)(a:s.gS g=some r):r.1.ok g (N+1):=by
 unfold aj.gS at a;split at a
 .cases a
 .split at a
  .cases a
  .rename_i y b;cases a;have:=h.gP b;exact aj.ok.gh (s:={s with prop:=s.view}) {h with} (aj.nE this.1 this.2.1 this.2.2)
theorem aj.ok.step{g:am}{N:Nat}{s:aj}{r:aj×List aW}(h:s.ok g N)(b:g.ok)(a:s.step g=some r):r.1.ok g (N+1):=by
 unfold aj.step at a;split at a
 .rename_i e;cases a;exact(h.gT b e).more (ey _)
 .split at a
  .rename_i e;cases a;exact h.gz e
  .split at a
   .rename_i e;cases a;exact h.g4 b e
   .exact h.gS a
theorem aj.ok.go{g:am}(a:g.ok):∀(k:Nat){N:Nat}{s:aj}{l:List aW},s.ok g N->(aj.go g k s l).1.ok g (N+k)
 |0,_,_,_,h=>h
 |k+1,N,s,l,h=>by
  unfold aj.go;split
  .exact h.more (by omega)
  .split
   .exact h.more (by omega)
   .rename_i e5 b0 e;have:=aj.ok.go a k (l:=l++b0) (h.step a e);rw [show N+(k+1)=N+1+k by omega];exact this
theorem aj.ok.steps{g:am}{N:Nat}{s:aj}(h:s.ok g N)(a:g.ok):(s.steps g).1.ok g (N+5):=aj.ok.go a 5 h
theorem aj.ok.fm{g:am}{N:Nat}{s:aj}{m:aW}(h:s.ok g N)(hm:m.cR):(s.fm g m).ok g (N+1):=by
 unfold aj.fm
 repeat' split
 .exact h.gh hm
 .exact h.c8 hm
 .exact h.status hm
 .exact(h.decision hm).more (ey _)
 .exact h.more (ey _)
theorem aj.ok.take{g:am}{N:Nat}{s:aj}{m:aW}(h:s.ok g N)(a:g.ok)(hm:m.cR):(s.take g m).1.ok g (N+6):=by
 unfold aj.take;split
 .exact h.more (by omega)
 .exact(h.fm hm).steps a
theorem aj.ok.hY{g:am}{N:Nat}{s:aj}{x:List UInt8}(h:s.ok g N)(a:g.ok):(s.hY g x).1.ok g (N+5):=by
 unfold aj.hY;split
 .exact h.more (by omega)
 .split
  .rename_i b;exact aj.ok.steps (s:={s with want:=x}) {h with want:=b.2} a
  .exact h.steps a
theorem aj.ok.gs{g:am}{N:Nat}{s:aj}(h:s.ok g N)(b:s.view<8):(s.gs g).1.ok g (N+1):=by
 unfold aj.gs;have a:aj.ok g N ({s with view:=s.view+1}:aj):={h with view:=⟨show 0<=s.view+1 by have:=h.view;omega,show s.view+1<=8 by omega⟩};dsimp only;split
 .exact a.status (aj.nE h.dD h.c2 h.lb)
 .exact a.more (ey _)
theorem aj.ok.tick{g:am}{N:Nat}{s:aj}(h:s.ok g N)(a:g.ok):(s.tick g).1.ok g (N+6):=by
 unfold aj.tick;split
 .exact h.more (by omega)
 .rename_i aJ;have b:s.view<8:=by simp at aJ;omega
  exact(h.gs b).steps a
def aB.tq(m:aB):List UInt8:=ea [1,m.k,m.f,m.to,m.s,m.v]++(hA m.x++(jt m.l++m.tag))
theorem aB.r6(m:aB):∀i u,(aG m.tag)[i]? =some u->m.cs.toArray[0+7+i]? =some u:=λi u hu=>by
 rw [show 0+7+i=i+1+1+1+1+1+1+1 by omega];simp only [aB.cs,na,nY];exact hu
theorem x2{o:World}{m:aB}(hm:m.ok o):Calls prog 152 #[.agg m.cs.toArray] o λr w=>∃v G,r= .tuple #[v,.int .i64 (if i3 m then 0 else 1)]/\dt v (if i3 m then m.tq else []) G/\C o [] [G] w:=by
 have a:Own [] o:=C.start o;refine a2 func152 ?_;refine bM 2 a j j (λay w a=>?_);refine bN 5 (U:=m.cs) j j (m.len hm) (z8 a) ?_;have g:=EZ (hm.st a);refine bo 0 g j (λw aa=>?_);have a:=a.aM aa;refine bm 1 j j (λdz=>?_) (λdz=>?_)
 .refine ao 4 j j ?_;have p:i3 m=false:=by simpa using dz
  rw [p];exact⟨_,[],j,Row.nil _ _,a.bare.empty⟩
 refine cl 3 a j (λq w a=>?_);have a:C o [] (e0 q (.slice none 0 0)::_) w:=a;have p:i3 m=true:=by simpa using dz
 have N:m.x.length<=200/\m.l.length<=10:=by
  have h:=p;unfold i3 at h;simp only [d8,gd] at h;omega
 refine al 3 j (a.f1.cell m.g1) ?_;refine al 1 j (a.f1.cell m.aX) ?_;refine al 1 j (a.f1.cell m.dv) ?_;refine al 1 j (a.f1.cell m.gI) ?_;refine al 1 j (a.f1.cell m.fl) ?_;refine eO a j j j j j j bJ (λK w a=>?_);have aJ:=a.bE;have y:=a.iV (off:=0) (sp:=none) (U:=[1,m.k,m.f,m.to,m.s,m.v].map ad);have a:=a.f1.empty.f1;have g:=lg (aD:=[]) (cO:=[1,m.k,m.f,m.to,m.s,m.v]) (c:=6) a.cB (Row.nil _ _) aJ (y.kU (by simp) (λb E=>fI (fy:=[e0 q (.slice none 0 0)]) (by simp) b (by simpa [au] using E))) (by simp);refine bo 0 g j (λw⟨v1,n,i,aa⟩=>?_);have a:=a.cA aa;rw [jV] at i;have H:=gg [1,m.k,m.f,m.to,m.s,m.v];simp only [ez,gk] at H;refine al 3 j (a.f3.cell m.gl) ?_;refine eO a j j j j j j bJ (λt w a=>?_);have I:=a.bE;have z:=a.iV (off:=0) (sp:=none) (U:=[.slice m.A m.x.length m.c]);have a:=a.f1.f2.f1;have D:=a.apart hm.x (bX.of_nil _ _);have F:kX w (some ⟨t,0,none⟩) [m.x] (au [e0 q v1,n]):=kX.one I j (z.sub (fI (by simp))) (a.rd hm.x (bX.of_nil _ _)) (D.sub (fI (by simp)));have g:=uy (c:=1) a.cB i F (by simp only [i9,jT,rG,List.sum_cons,List.sum_nil];omega);refine bo 0 g j (λw⟨v1,n,i,aa⟩=>?_);have a:=a.cA aa;rw [show jI [m.x]=hA m.x from by simp [jI]] at i;have L:=jH m.x (by omega);refine al 3 j (a.f4.cell m.eu) ?_;have B:=a.apart hm.l (bX.of_nil _ _);have g:=Ak (d:=m.d) a.cB i (a.rd hm.l (bX.of_nil _ _)) (B.sub (fI (by simp))) hm.aE (by omega) (by simp only [b4];omega);refine bo 0 g j (λw⟨v1,n,i,aa⟩=>?_);have a:=a.cA aa;have M:=lo m.l hm.aE;refine aq 3 j (mS j j j ?_);have J:=a.f4.i6 (off:=0+7) (U:=aG m.tag) m.r6;have g:=qR (c:=32) a.cB i J (by simp only [b4,hm.tag];omega);rw [hm.tag] at g;refine bo 0 g j (λw⟨v1,n,i,aa⟩=>?_);have a:=a.cA aa;have g:=qM a.cB i (by simp only [b4,hm.tag];omega);refine bh 2 g j (λr w⟨G,u,aa⟩=>?_);have a:=(a.cA aa).hT;refine ao 2 j j ?_;rw [p];refine⟨_,G,j,?_,a⟩;have e:m.tq=ea [1,m.k,m.f,m.to,m.s,m.v]++hA m.x++jt m.l++m.tag:=by simp [aB.tq,dF]
 show dt _ m.tq G;rw [e];exact u
def h0:List Value->List (List UInt8)->List Chunk->Prop
 |[],[],G=>G=[]
 |u::us,x::l,G=>∃ai aA,G=ai++aA/\dt u x ai/\h0 us l aA
 |[],_::_,_=>False
 |_::_,[],_=>False
def iB(v:Value)(l:List (List UInt8))(G:List Chunk):Prop:=∃ag H us,G=ag++H/\Row 28 1 v l.length us ag/\h0 us l H
def il(v:Value)(l:List aF)(G:List Chunk):Prop:=∃b u ag,v=ab b/\er u l ag/\G=(b,.cells #[u] 387 (0,0))::ag
abbrev jb(v:Value)(t:List (Int×aW))(G:List Chunk):Prop:=fs 291 kd v t G
structure eX where
 dD:Value
 c2:Value
 want:Value
 props:Value
 dh:Value
 cU:Value
 ay:Value
 dk:Value
 value:Value
 dG:Value
abbrev j9(g:am)(s:aj)(c:eX):List Value:=[g.p,ad s.an,ad s.slot,ad s.view,ad s.fY,c.dD,c.c2,c.want,c.props,c.dh,c.cU,c.ay,c.dk,ad s.hU,ad s.comm,ad s.prop,c.value,c.dG,.bool s.dec]
abbrev bd(g:am)(av:Nat)(s:aj)(c:eX):List Chunk:=R av (j9 g s c).toArray 288
structure tP(s:aj)(c:eX)(ai aA bn cu ca bZ bV cb b8 b7:List Chunk):Prop where
 dD:dt c.dD s.dD ai
 c2:er c.c2 s.c2 aA
 want:dt c.want s.want bn
 props:jb c.props s.props cu
 dh:iB c.dh s.dh ca
 cU:fs 334 il c.cU s.cU bZ
 ay:fs 334 il c.ay s.ay bV
 dk:fs 331 jb c.dk s.dk cb
 value:dt c.value s.value b8
 dG:er c.dG s.dG b7
theorem z3{o:World}{av:Nat}{g:am}{s:aj}{c:eX}(a:o.heap[av]? =some (.cells (j9 g s c).toArray 288 (0,0)))(b:g.at o)(d:g.ok):Calls prog 307 #[ab av] o λr w=>r= .int .i64 (iL g.n:Nat)/\w=o:=by
 refine a2 func307 (al 8 j (aw a j) (bo 0 (my b) j (λw hw=>?_)));subst hw;refine bo 0 (z4 (by have:=d.n10;omega)) j (λw hw=>?_);subst hw;exact ao 1 j j ⟨j,j⟩
theorem vm{o:World}{av:Nat}{g:am}{s:aj}{c:eX}(b:o.heap[av]? =some (.cells (j9 g s c).toArray 288 (0,0)))(f:g.at o)(e:g.ok){node view:Int}(aL:0<=s.slot/\s.slot<=63)(h:0<=view/\view<=8):Calls prog 238 #[ab av,ad node,ad view] o λr w=>r= .bool (s.leads g node view)/\C o [] [] w:=by
 have a:Own [] o:=C.start o;refine a2 func238 ?_;have a:=a.drew;refine bw 4 j (λw=>∃ae,C o [] ae w) ⟨_,a⟩ (af 0 4 j (bT 4 j (λw⟨_,a⟩=>aw (a.cg b) j) (af 5 4 j (bT 9 j (λw⟨_,a⟩=>aw (a.cg b) j) (aU 10 j (bF j j j (my (f.st a (am.off.nil g))) (λw hw=>?_)))))));subst hw;refine ar ⟨⟨_,a⟩,?_⟩;refine aU 11 j ?_;have d:=yY (o:=o.drew) (s:=s.slot.toNat) (v:=view.toNat) (n:=g.keys.length) (by omega) (by omega) e.ib (by have:=e.n10;omega);rw [show((s.slot.toNat:Nat):Int)=s.slot from p5 aL.1,show((view.toNat:Nat):Int)=view from p5 h.1] at d;refine bF j j j d (λw aa=>?_);have a:=a.aM aa;refine ar ⟨⟨_,a⟩,?_⟩;exact af 12 2 j (bK (ao 0 j j ⟨j,a.bare⟩))
theorem aB.HL(m:aB)(x:Int):m.cs.toArray.setIfInBounds 1 (ad x)=({m with f:=x}:aB).cs.toArray:=by
 apply fC;simp [aB.cs]
theorem aB.HP(m:aB)(x:Int):m.cs.toArray.setIfInBounds 2 (ad x)=({m with to:=x}:aB).cs.toArray:=by
 apply fC;simp [aB.cs]
theorem aB.HM(m:aB)(x:Int):m.cs.toArray.setIfInBounds 3 (ad x)=({m with s:=x}:aB).cs.toArray:=by
 apply fC;simp [aB.cs]
theorem aB.v5(m:aB){w:World}{b:Nat}{e:TypeId}{e3:Nat×Nat}(h:w.heap[b]? =some (.cells m.cs.toArray e e3)):Rd w (some ⟨b,0+7,none⟩) (aG m.tag):=λi v a=>⟨_,j,by
 rw [add_lit];refine aw h ?_;rw [show 0+7+i=i+1+1+1+1+1+1+1 by omega];simp only [aB.cs,na,nY];exact a⟩
theorem aB.za(m:aB)(h:i3 m=true):m.x.length<=200/\m.l.length<=10:=by
 unfold i3 at h;simp only [d8,gd] at h;exact⟨h.1.1.2,h.1.2⟩
theorem aB.ps(m:aB)(t:List UInt8)(h:m.tag.length=t.length):setCells m.cs.toArray 7 (aG t)=({m with tag:=t}:aB).cs.toArray:=
 HE [ad m.k,ad m.f,ad m.to,ad m.s,ad m.v,.slice m.A m.x.length m.c,.slice m.B m.l.length m.d] (aG m.tag) (aG t) (by simp [h])
theorem sZ{o:World}{av:Nat}{g:am}{s:aj}{c:eX}{m:aB}{to:Int}(y:o.heap[av]? =some (.cells (j9 g s c).toArray 288 (0,0)))(J:g.at o)(M:g.ok)(hm:m.ok o)(Q:m.x.length<=10000)(z:m.l.length<=1000):Calls prog 204 #[ab av,.agg m.cs.toArray,ad to] o λr w=>∃(q:aB)(G:List Chunk),r= .agg q.cs.toArray/\fF q G/\q.P=s.jr g m.P to/\C o [] [G] w:=by
 have a:Own [] o:=C.start o;refine e9 func204 (bM 2 a j j (λn w a=>cl 0 a j (λp w a=>?_)));have a:C o [] [bi n m,bi p dK] w:=a.f1;have a:=a.drew;refine bw 1 j (λw=>∃ae,C o [] ae w) ⟨_,a⟩ (af 0 3 j (bT 3 j (λw⟨_,a⟩=>aw (a.cg y) j) (af 5 3 j (bT 8 j (λw⟨_,a⟩=>aw (a.cg y) j) (af 4 1 j (af 9 1 j (aU 10 j (cC (a.bc _) j j j j (by rw [hy,m.bW hm.tag];decide) (λw a=>?_)))))))));have a:=C.gr a (m.HL s.an);refine ar ⟨⟨_,a⟩,?_⟩;refine af 11 1 j (aU 12 j (cC (a.bc _) j j j j (by rw [hy,({m with f:=s.an}:aB).bW hm.tag];decide) (λw a=>?_)));have a:=C.gr a (({m with f:=s.an}:aB).HP to);refine ar ⟨⟨_,a⟩,?_⟩;refine af 13 1 j (aU 14 j (cC (a.bc _) j j j j (by rw [hy,({m with f:=s.an,to:=to}:aB).bW hm.tag];decide) (λw a=>?_)));have a:=C.gr a (({m with f:=s.an,to:=to}:aB).HM s.slot);have a:C o [] [bi n ({m with f:=s.an,to:=to,s:=s.slot}:aB),bi p dK] w:=a;refine ar ⟨⟨_,a⟩,?_⟩;refine bK (al 3 j (aw (C.ak a) ({m with f:=s.an,to:=to,s:=s.slot}:aB).gl) ?_);have t:=g3 (c:=m.c) (hm.st a).x (by omega);refine bh 0 t j (λr w⟨ai,D,u⟩=>?_);obtain⟨b,aX,rfl⟩:∃A c,r= .slice A m.x.length c:=by obtain⟨A,c,h,_⟩:=D.form;exact⟨A,c,h⟩
 have a:=a.aM u;refine aq 1 j (cC (a.bc _) j j j j (by rw [hy,({m with f:=s.an,to:=to,s:=s.slot}:aB).bW hm.tag];decide) (λw a=>?_));have a:=C.gr a (({m with f:=s.an,to:=to,s:=s.slot}:aB).q0 b aX);have a:C o [] [bi n ({m with f:=s.an,to:=to,s:=s.slot,A:=b,c:=aX}:aB),bi p dK,ai] w:=a.as;refine al 3 j (aw (C.ak a) ({m with f:=s.an,to:=to,s:=s.slot,A:=b,c:=aX}:aB).eu) ?_;have t:=k3 (d:=m.d) (hm.st a).l hm.aE z;refine bh 0 t j (λr w⟨aA,E,u⟩=>?_);obtain⟨e,d1,rfl⟩:∃A c,r= .slice A m.l.length c:=by obtain⟨A,c,h,_⟩:=E.form;exact⟨A,c,h⟩
 have a:=a.aM u;refine aq 1 j (cC (a.bc _) j j j j (by rw [hy,({m with f:=s.an,to:=to,s:=s.slot,A:=b,c:=aX}:aB).bW hm.tag];decide) (λw a=>?_));have a:=C.gr a (({m with f:=s.an,to:=to,s:=s.slot,A:=b,c:=aX}:aB).mH e d1);have a:C o [] [bi n ({m with f:=s.an,to:=to,s:=s.slot,A:=b,c:=aX,B:=e,d:=d1}:aB),bi p dK,ai,aA] w:=a.as;have N:({m with f:=s.an,to:=to,s:=s.slot,A:=b,c:=aX,B:=e,d:=d1}:aB).own ai aA:=⟨D,E⟩;have L:fF ({m with f:=s.an,to:=to,s:=s.slot,A:=b,c:=aX,B:=e,d:=d1}:aB) (ai++aA):=⟨ai,aA,j,N,hm.tag,hm.aE,⟨by show m.x.length<=_;omega,z⟩⟩;have a:=a.drew;refine bw 1 j (λw=>∃ae,C o [] ([bi n ({m with f:=s.an,to:=to,s:=s.slot,A:=b,c:=aX,B:=e,d:=d1}:aB)]++ae) w) ⟨_,a⟩ (af 0 3 j (bT 3 j (λw⟨_,a⟩=>aw (a.cg y) j) (af 4 3 j (bT 7 j (λw⟨_,a⟩=>aw (a.cg y) j) (aT 8 j (λw⟨_,a⟩=>c3 (U:=({m with f:=s.an,to:=to,s:=s.slot,A:=b,c:=aX,B:=e,d:=d1}:aB).cs) j j (({m with f:=s.an,to:=to,s:=s.slot,A:=b,c:=aX,B:=e,d:=d1}:aB).bW hm.tag) (bp (C.ak a))) (aU 9 j ?_))))));have K:=(L.read (C.holds (G:=ai++aA) (a.perm (B:=[bi n ({m with f:=s.an,to:=to,s:=s.slot,A:=b,c:=aX,B:=e,d:=d1}:aB),bi p dK,ai++aA]) (by simp)) (by simp))).1;have t:=mg K Q z;refine cN j j j t (λr w⟨bn,H,u⟩=>?_);have a:=a.aM u;have a:C o [] [bi n ({m with f:=s.an,to:=to,s:=s.slot,A:=b,c:=aX,B:=e,d:=d1}:aB),bi p dK,ai,aA,bn] w:=a.as
 have I:({m with f:=s.an,to:=to,s:=s.slot,A:=b,c:=aX,B:=e,d:=d1}:aB).body.length<=1000000:=by
  have S:=lo m.l hm.aE;have T:=jH m.x (by omega);have F:=gg [4,m.k,s.an,s.slot,m.v];simp only [ez,gk] at F;show(ea [4,m.k,s.an,s.slot,m.v]++(hA m.x++jt m.l)).length<=_;simp only [b4];omega
 obtain⟨R,g2,rfl,_,_,O,_⟩:=H.read (a.holds (by simp));refine ar ⟨⟨_,a⟩,?_⟩;refine aU 10 j ?_;have t:=nD (J.st a (am.off.nil g)) M O I (i:=s.an) (d:=g2);refine bF j j j t (λw u=>?_);have a:=a.aM u;have a:C o [] [bi n ({m with f:=s.an,to:=to,s:=s.slot,A:=b,c:=aX,B:=e,d:=d1}:aB),bi p dK,ai,aA,bn] w:=a.as;refine ar ⟨⟨_,a⟩,?_⟩;refine af 11 1 j (dy 12 j (c4 (a.bc _) j j j (by simpa using fc (g.cr s.an ({m with f:=s.an,to:=to,s:=s.slot,A:=b,c:=aX,B:=e,d:=d1}:aB).body)) (by rw [List.size_toArray,ds,am.ec]) (by rw [List.size_toArray,({m with f:=s.an,to:=to,s:=s.slot,A:=b,c:=aX,B:=e,d:=d1}:aB).bW hm.tag];decide) (λw a=>?_)));have a:=C.gr a (({m with f:=s.an,to:=to,s:=s.slot,A:=b,c:=aX,B:=e,d:=d1}:aB).ps (g.cr s.an ({m with f:=s.an,to:=to,s:=s.slot}:aB).body) (by rw [am.ec];exact hm.tag));have a:C o [] [bi n ({m with f:=s.an,to:=to,s:=s.slot,A:=b,c:=aX,B:=e,d:=d1,tag:=g.cr s.an ({m with f:=s.an,to:=to,s:=s.slot}:aB).body}:aB),bi p dK,ai,aA] w:=a.as;refine ar (cX (bN 2 (U:=({m with f:=s.an,to:=to,s:=s.slot,A:=b,c:=aX,B:=e,d:=d1,tag:=g.cr s.an ({m with f:=s.an,to:=to,s:=s.slot}:aB).body}:aB).cs) j j (({m with f:=s.an,to:=to,s:=s.slot,A:=b,c:=aX,B:=e,d:=d1,tag:=g.cr s.an ({m with f:=s.an,to:=to,s:=s.slot}:aB).body}:aB).bW (am.ec _ _ _)) (bp (C.ak a)) ?_));refine c4 (a.bc p) j j j (by simpa using({m with f:=s.an,to:=to,s:=s.slot,A:=b,c:=aX,B:=e,d:=d1,tag:=g.cr s.an ({m with f:=s.an,to:=to,s:=s.slot}:aB).body}:aB).one) (by rw [List.size_toArray];exact({m with f:=s.an,to:=to,s:=s.slot,A:=b,c:=aX,B:=e,d:=d1,tag:=g.cr s.an ({m with f:=s.an,to:=to,s:=s.slot}:aB).body}:aB).bW (am.ec _ _ _)) (by decide) (λw a=>?_);have a:=C.whole (U:=({m with f:=s.an,to:=to,s:=s.slot,A:=b,c:=aX,B:=e,d:=d1,tag:=g.cr s.an ({m with f:=s.an,to:=to,s:=s.slot}:aB).body}:aB).cs) a (by rw [({m with f:=s.an,to:=to,s:=s.slot,A:=b,c:=aX,B:=e,d:=d1,tag:=g.cr s.an ({m with f:=s.an,to:=to,s:=s.slot}:aB).body}:aB).bW (am.ec _ _ _)];rfl);refine bI 0 j ⟨_,hf (U:=({m with f:=s.an,to:=to,s:=s.slot,A:=b,c:=aX,B:=e,d:=d1,tag:=g.cr s.an ({m with f:=s.an,to:=to,s:=s.slot}:aB).body}:aB).cs) results204 j j (({m with f:=s.an,to:=to,s:=s.slot,A:=b,c:=aX,B:=e,d:=d1,tag:=g.cr s.an ({m with f:=s.an,to:=to,s:=s.slot}:aB).body}:aB).bW (am.ec _ _ _)) a.bE,?_⟩;have a:C o [] [ai,aA] w:=a.as;exact⟨({m with f:=s.an,to:=to,s:=s.slot,A:=b,c:=aX,B:=e,d:=d1,tag:=g.cr s.an ({m with f:=s.an,to:=to,s:=s.slot}:aB).body}:aB),ai++aA,j,⟨ai,aA,j,⟨D,E⟩,am.ec _ _ _,hm.aE,⟨by show m.x.length<=_;omega,z⟩⟩,j,a.join⟩
theorem zL(an:Int)(n:Nat):mB an (n+1)=mB an n++(if((n:Int) !=an)=true then [(n:Int)] else []):=by
 unfold mB;rw [l9,jU,List.filter_append];simp only [jT,rG,p3,List.filter_nil]
theorem zK(an:Int)(n:Nat):(mB an n).length<=n:=by
 unfold mB;refine eh (oP _ _) ?_;simp
theorem ug{o:World}{av:Nat}{g:am}{s:aj}{c:eX}{m:aB}(t:o.heap[av]? =some (.cells (j9 g s c).toArray 288 (0,0)))(u:g.at o)(y:g.ok)(hm:m.ok o)(N:m.x.length<=10000)(K:m.l.length<=1000):Calls prog 281 #[ab av,.agg m.cs.toArray] o λr w=>∃G:List Chunk,cz r (s.all g m.P) G/\C o [] [G] w:=by
 have a:Own [] o:=C.start o;refine a2 func281 (bM 2 a j j (λb w a=>?_));have a:C o [] [bi b m] w:=a;refine al 10 j (aw (a.cg t) j) (bo 0 (my (u.st a (am.off.nil g))) j (λw hw=>?_));subst hw
 refine cH 2 j (ct:=Nat×Value×List Chunk×List Chunk×List aB) (λi=>[(0,ab av),(3,ab b),(5,i.2.1),(11,.int .i64 (g.keys.length:Nat)),(12,.int .i64 (i.1:Nat))])
  (λi w=>i.1<=g.keys.length/\Row 103 39 i.2.1 i.2.2.2.2.length (fW i.2.2.2.2) i.2.2.1/\fG i.2.2.2.2 i.2.2.2.1/\i.2.2.2.2.map aB.P=(mB s.an i.1).map (λto=>s.jr g m.P to)/\C o [] [i.2.2.1,i.2.2.2.1,bi b m] w) (λi=>g.keys.length-i.1) (0,.slice none 0 0,[],[],[]) ⟨j,j,j,j,j,aY⟩ ⟨b6 _,Row.nil _ _,j,j,a.empty.empty⟩ ?_
 have Q:=y.n10;rintro⟨i,v,ag,aA,l⟩ w ⟨I,k,h,e,a⟩;dsimp only at I k h e a⊢;have O:l.length<=i:=by have E:=aH List.length e;rw [fB,fB] at E;have:=zK s.an i;omega
 refine cm 4 j j (λd=>?_) (λd=>?_)
 .refine al 13 j (aw (a.cg t) j) (bm 1 j j (λp=>?_) (λp=>?_))
  .refine bN 3 (U:=m.cs) j j (m.bW hm.tag) (bp (C.ak a)) ?_;have H:=sZ (a.cg t) (u.st a (am.off.nil g)) y (hm.st a) N K (to:=(i:Int));refine bh 1 H j (λr w⟨q,f,M,z,L,aa⟩=>?_);subst M;have a:=a.aM aa;have a:C o [] [ag,aA,bi b m,f] w:=a.as;have B:q.tag.length=32:=(fG.one z).tag q (by simp);refine gC (U:=q.cs) a j j j (q.bW B) (by decide) (by decide) (λD w a=>?_);have aJ:Rd w (some ⟨D,0,none⟩) q.cs:=a.bE;refine d9 (a.to ag) k j j (by decide) j j j (news:=q.cs) (q.bW B) aJ (List.all_eq_true.1 q.one) (by omega) (by unfold maxLen;omega) (λv1 n w F a=>?_);have a:C o [] [n,aA,f,bi b m] w:=a.as;refine bq 2 j j j (gm i 1 (by omega)) (bP 1 j (⟨(i+1,v1,n,aA++f,l++[q]),⟨j,j,j,j,j,aY⟩,⟨by have:=d;dsimp only;omega,?_,h.app (fG.one z),?_,C.perm (A:=[n,aA,f,bi b m]) a (by simp)⟩,by have:=d;dsimp only;omega⟩))
   .dsimp only;rw [b4,List.length_singleton,qw,show fW [q]=q.cs by simp];exact F
   dsimp only;rw [jU,e,zL,if_pos p,List.map_append];simp [L]
  refine bq 2 j j j (gm i 1 (by omega)) (bP 1 j (⟨(i+1,v,ag,aA,l),⟨j,j,j,j,j,aY⟩,⟨by have:=d;dsimp only;omega,k,h,?_,a⟩,by have:=d;dsimp only;omega⟩));dsimp only;rw [e,zL,aI (by rw [p];decide),gY]
 refine ao 5 j j ?_;have J:i=g.keys.length:=by omega
 subst J;have a:C o [] [ag,aA] w:=a.as;exact⟨ag++aA,⟨l,e,ag,aA,j,k,h⟩,a.join⟩
theorem sc(b:Bool):((if b=true then(0:Int) else 1)==0)=b:=by cases b<;>rfl
theorem EY{o:World}{av:Nat}{g:am}{s:aj}{c:eX}{m:aB}(t:o.heap[av]? =some (.cells (j9 g s c).toArray 288 (0,0)))(B:g.at o)(D:g.ok)(hm:m.ok o):Calls prog 194 #[ab av,.agg m.cs.toArray] o λr w=>r= .bool (s.ml g m.P)/\C o [] [] w:=by
 have a:Own [] o:=C.start o;refine a2 func194 (bM 2 a j j (λe w a=>?_));have a:C o [] [bi e m] w:=a;refine bN 3 (U:=m.cs) j j (m.bW hm.tag) (bp (C.ak a)) ?_;have n:=x2 (hm.st a);refine bh 0 n j (λr w⟨v,G,E,K,aa⟩=>?_);subst E;have a:=a.aM aa;have a:C o [] [bi e m] w:=a.as;have a:=a.drew;refine bw 6 j (λw=>∃ae,C o [] ([bi e m]++ae) w) ⟨_,a⟩ (af 0 3 j (ef 14 j (λh=>?_) (λh=>?_)))
 .refine af 3 1 j (a8 4 j a1 m.gI (af 5 3 j (bT 8 j (λw⟨_,a⟩=>aw (a.cg t) j) (af 9 3 j (ef 23 j (λp=>?_) (λp=>?_))))))
  .refine af 12 1 j (a8 13 j a1 m.aX (af 14 3 j (bT 17 j (λw⟨_,a⟩=>aw (a.cg t) j) (af 18 3 j (ef 32 j (λq=>?_) (λq=>?_))))))
   .refine af 21 3 j (bT 24 j (λw⟨_,a⟩=>aw (a.cg t) j) (af 25 1 j (a8 26 j a1 m.aX (aT 27 j (λw⟨_,a⟩=>c3 (U:=m.cs) j j (m.bW hm.tag) (bp (C.ak a))) (af 29 1 j (aT 30 j (λw⟨_,a⟩=>c3 (U:=aG m.tag) j j (by rw [ds];exact hm.tag) (m.v5 (C.ak a))) (aU 28 j ?_)))))));have b:i3 m=true:=(sc _).symm.trans h;have L:=m.za b;have n:=mg (hm.st a) (by omega) (by omega);refine cN j j j n (λr w⟨bn,z,u⟩=>?_);have a:=a.aM u;have a:C o [] [bi e m,bn] w:=a.as
    have A:m.body.length<=1000000:=by
     have I:=lo m.l hm.aE;have J:=jH m.x (by omega);have y:=gg [4,m.k,m.f,m.s,m.v];simp only [ez,gk] at y;unfold aB.body;simp only [b4];omega
    obtain⟨H,g2,rfl,_,_,F,_⟩:=z.read (a.holds (by simp));refine ar ⟨⟨_,a⟩,?_⟩;refine aU 31 j ?_;have n:=r0 (B.st a (am.off.nil g)) D F A hm.tag (i:=m.f) (d:=g2);refine bF j j j n (λw u=>?_);have a:=a.aM u;have a:C o [] [bi e m,bn] w:=a.as;refine ar ⟨⟨_,a⟩,?_⟩;refine af 32 2 j (bK (ao 0 j j (⟨aH Value.bool ?_,a.bare⟩)));unfold aj.ml;rw [show m.P.may=true from b,show(m.P.s==s.slot)=true from p,show(m.P.f !=s.an)=true from q];rfl
   refine fH 13 [21,22,23,24,25,26,27,29,30,28,31,32,33] j (bK (ao 0 j j (⟨aH Value.bool ?_,a.bare⟩)));have b:m.P.may=true:=(sc _).symm.trans h;unfold aj.ml;rw [b,show(m.P.s==s.slot)=true from p,show(m.P.f !=s.an)=false from q];rfl
  refine fH 22 [12,13,14,15,16,17,18,19,20,21,22,23,24,25,26,27,29,30,28,31,32,33] j (bK (ao 0 j j (⟨aH Value.bool ?_,a.bare⟩)));have b:m.P.may=true:=(sc _).symm.trans h;unfold aj.ml;rw [b,show(m.P.s==s.slot)=false from p];rfl
 refine fH 31 [3,4,5,6,7,8,9,10,11,12,13,14,15,16,17,18,19,20,21,22,23,24,25,26,27,29,30,28,31,32,33] j (bK (ao 0 j j (⟨aH Value.bool ?_,a.bare⟩)));have b:m.P.may=false:=(sc _).symm.trans h;unfold aj.ml;rw [b];rfl
def gj(c5:Option Addr)(l:List aF)(F:List Nat)(w:World):Prop:=
 (c5=none/\l=[])\/∃b A d,c5=some ⟨b,0,none⟩/\w.heap[b]? =some (.cells #[.slice A l.length d] 387 (0,0))/\l.length<=d/\d<=maxLen/\Rd w A (vcs l)/\b∉F/\bX A (vcs l) F
theorem gj.st{c5:Option Addr}{l:List aF}{F eJ:List Nat}{ae:List (List Chunk)}{w aK:World}(h:gj c5 l F w)(g:C w eJ ae aK)(f:∀b∈eJ,b∈F):gj c5 l F aK:=by
 rcases h with h|⟨b,A,d,rfl,a,i,k,m,c,e⟩
 .exact .inl h
 .exact .inr ⟨b,A,d,j,by rw [g.fX b (gv.1 a).1 (λn=>c (f _ n))];exact a,i,k,g.rd m (e.sub f),c,e⟩
theorem gj.grow{c5:Option Addr}{l:List aF}{F eJ:List Nat}{w:World}(h:gj c5 l F w)(g:∀b∈eJ,b∈F\/w.heap.size<=b):gj c5 l eJ w:=by
 rcases h with h|⟨b,A,d,rfl,e,m,n,f,o,p⟩
 .exact .inl h
 .refine .inr ⟨b,A,d,j,e,m,n,f,λc=>(g _ c).elim o (λq=>?_),λk a i c=>(g _ c).elim (p k a i) (λq=>?_)⟩
  .have:=(gv.1 e).1;omega
  .have:=f.lt k i;omega
theorem gj.here{c5:Option Addr}{l:List aF}{ae:List (List Chunk)}{o w:World}(h:gj c5 l [] o)(a:C o [] ae w):gj c5 l (au ae) w:=
 (h.grow (λb c=>(a.own b c).elim (λh=>.inl h) .inr)).st a (by simp)
theorem gj.range{c5:Option Addr}{l:List aF}{H ae:List (List Chunk)}{L:List Chunk}{w aK:World}(h:gj c5 l (au (H++ae)) w)(c:C w [] [L] aK):gj c5 l (au (H++(ae++[L]))) aK:=by
 have d:gj c5 l (au (H++(ae++[L]))) w:=h.grow (λb a=>by
  rw [<-dF] at a;rcases np.1 a with a|a
  ·exact .inl a
  ·have:=c.own b a;exact .inr (by simpa using this))
 exact d.st c (by simp)
theorem il.read{w:World}{v:Value}{l:List aF}{G:List Chunk}(h:il v l G)(a:Holds w G):∃c5,v= .pointer c5/\gj c5 l [] w:=by
 obtain⟨b,u,ag,rfl,g,rfl⟩:=h;obtain⟨A,d,rfl,c,e,f,_⟩:=g.read a.tail;exact⟨_,j,.inr ⟨b,A,d,j,a.head,c,e,f,by simp,bX.of_nil _ _⟩⟩
theorem zA{l:List aF}{sum:List UInt8}{i:Nat}(h:i<l.length)(a:(l[i].sum==sum)=true):fa (l.take (i+1)) sum=fa (l.take i) sum++[l[i]]:=by
 unfold fa;rw [fu h,mZ];simp [a]
theorem Gp{l:List aF}{sum:List UInt8}{i:Nat}(h:i<l.length)(a:(l[i].sum==sum)=false):fa (l.take (i+1)) sum=fa (l.take i) sum:=by
 unfold fa;rw [fu h,mZ];simp [a]
theorem Gq{l:List aF}{sum:List UInt8}{i:Nat}(h:i<l.length)(b:(l[i].sum==sum)=true):∃r,fa l sum=fa (l.take i) sum++l[i]::r:=by
 refine⟨fa (l.drop (i+1)) sum,?_⟩
 have a:fa l sum=fa (l.take (i+1)) sum++fa (l.drop (i+1)) sum:=by
  unfold fa;rw [<-mZ,List.take_append_drop]
 rw [a,zA h b,dF];rfl
abbrev qI(l:List aF)(sum:List UInt8)(pre:List aF)(x:aF):Prop:=∃r,fa l sum=pre++x::r
theorem qI.mem{l:List aF}{sum:List UInt8}{pre:List aF}{x:aF}(h:qI l sum pre x):x∈l:=by
 obtain⟨r,h⟩:=h;have:x∈fa l sum:=by rw [h];simp
 exact(jd.1 this).1
theorem qI.len{l:List aF}{sum:List UInt8}{pre:List aF}{x:aF}(h:qI l sum pre x):pre.length<(fa l sum).length:=by
 obtain⟨r,h⟩:=h;rw [h];simp
theorem zE{o:World}{c5:Option Addr}{sum:List UInt8}:Calls prog 302 #[.pointer c5,.agg (aG sum).toArray] o λr w=>∃aO b,r= .func (.func 326) #[] #[ab aO,ab b]/\C o [] [R aO #[.pointer c5] 285,R b (aG sum).toArray 79] w:=by
 have a:Own [] o:=C.start o;refine a2 func302 (bM 2 a j j (λaO w a=>bM 0 a j j (λb w a=>aq 3 j (gV j j j j ?_))));exact ao 1 j j ⟨aO,b,j,a.f1⟩
theorem zD{aO f:Nat}{c5:Option Addr}{l:List aF}{sum:List UInt8}(u:∀x∈l,x.ok)(E:sum.length=32):Iter prog 326 #[ab aO,ab f] [R aO #[.pointer c5] 285,R f (aG sum).toArray 79] (λae w=>gj c5 l (au ([R aO #[.pointer c5] 285,R f (aG sum).toArray 79]++ae)) w) (λ_=>True) (λv:aF=> #[.agg v.cs.toArray]) (qI l sum) (λxs=>xs=fa l sum):=by
 intro y T aa ae o a c s _ J Y O;show Calls _ _ #[fN y,ab aO,ab f] o _;obtain⟨n,z⟩:∃n,n=au ([R aO #[.pointer c5] 285,R f (aG sum).toArray 79]++ae):=⟨_,j⟩;rw [<-z] at s⊢;have a:C o n (R aO #[.pointer c5] 285::R f (aG sum).toArray 79::ae) o:=z▸a;refine a2 func326 (al 3 j (aw (C.ak a) j) (bm 1 j j (λdz=>?_) (λdz=>?_)))
 .refine ao 0 j j ?_
  obtain⟨rfl,rfl⟩:c5=none/\l=[]:=by
   rcases s with h|⟨b,A,d,rfl,_⟩
   .exact h
   .cases dz
  exact⟨ae,a,.inl ⟨[],j,c⟩⟩
 obtain⟨b,A,d,rfl,q,Z,B,M,W,I⟩:=s.resolve_left (λh=>by rw [h.1] at dz;cases dz);refine al 3 j (aw (C.ak a) j) (al 2 j (aw q j) ?_)
 refine cH 3 j (ct:=Nat×List (List Chunk)) (λi=>[(0,fN y),(1,ab aO),(2,ab f),(11,.slice A l.length d),(12,.int .i64 (l.length:Nat)),(13,.int .i64 (i.1:Nat))])
  (λi w=>i.1<=l.length/\T (fa (l.take i.1) sum) i.2 w/\C o n (R aO #[ab b] 285::R f (aG sum).toArray 79::i.2) w) (λi=>l.length-i.1) (0,ae) ⟨j,j,j,j,j,j,aY⟩ ⟨b6 _,c,a⟩ ?_
 rintro⟨i,ai⟩ w ⟨K,c,a⟩;dsimp only at K c a⊢;refine cm 4 j j (λF=>?_) (λF=>?_)
 .have e:i<l.length:=by omega
  have g:=u l[i] (et e);have D:=a.rd M I;refine aq 5 j (fz j j j j D (v:=ad l[i].k) (pD l u i e) e (λV G X=>?_));subst G;refine bN 0 j j (l[i].len g) (pE D u i e) (cl 0 (C.start _) j (λbv w m=>ck 0 m j j j l[i].one (l[i].len g) (λw m=>?_)));have m:=C.whole (U:=l[i].cs) m (by rw [l[i].len g];rfl);have c:=J _ _ _ _ [] c m.bare (by simp);have a:=a.aM m;refine bN 3 (U:=aG l[i].sum) j j (by rw [ds];exact g.1) (a.i6 (off:=0+3) (U:=aG l[i].sum) (l[i].qn g)) (bN 0 (U:=aG sum) j j (by rw [ds];exact E) (bp (C.ak a)) (wK j j j j (by kernel_rfl) (λw=>qq _ _ g.1 E 9998 w) (aq 1 j (cQ 21 j (λp=>?_) (λp=>?_)))))
  .refine bN 1 (U:=l[i].cs) j j (l[i].len g) a.bE ?_;obtain⟨S,N⟩:=Gq e p;have P:=O (fa (l.take i) sum) l[i] ai _ ⟨S,N⟩ c (C.jo (H:=[_,_,_]) a);refine jS j j j j P (λb w⟨aA,Q,q⟩=>?_);have a:=C.jh (H:=[_,_,_]) a Q;refine bm 2 j j (λr=>?_) (λr=>?_)
   .refine ao 0 j j ?_;have t:b=false:=by cases b<;>first|rfl|exact absurd r (by decide)
    subst t;exact⟨aA,a.drop,.inr (by simpa using q)⟩
   refine bq 2 j j j (cM i (by have:=B;unfold maxLen at this;omega)) (bP 1 j ?_);have t:b=true:=by cases b<;>first|rfl|exact absurd r (by decide)
   subst t;refine⟨(i+1,aA),⟨j,j,j,j,j,j,aY⟩,⟨e,?_,a.drop⟩,by dsimp only;omega⟩;dsimp only;rw [zA e p];simpa using q
  refine bq 8 j j j (cM i (by have:=B;unfold maxLen at this;omega)) (bP 1 j (⟨(i+1,ai),⟨j,j,j,j,j,j,aY⟩,⟨e,?_,a.drop⟩,by dsimp only;omega⟩));dsimp only;rw [Gp e p];exact c
 refine ao 1 j j ?_;have L:i=l.length:=by omega
 subst L;rw [gu] at c;exact⟨ai,a,.inl ⟨_,j,c⟩⟩
theorem Cx{l:List aF}{f:Int}(h:∀x∈l,x.f≠f):(l.any λv=>v.f==f)=false:=by
 rw [<-Bool.not_eq_true,kl];rintro⟨x,a,he⟩;exact h x a (dY.1 he)
theorem yC(l:List aF)(sum:List UInt8)(f:Int):pe l sum f=(fa l sum).any λv=>v.f==f:=by
 unfold pe fa;rw [List.any_filter]
theorem EF{o:World}{c5:Option Addr}{l:List aF}{sum:List UInt8}{f:Int}(B:gj c5 l [] o)(u:∀x∈l,x.ok)(t:sum.length=32):Calls prog 275 #[.pointer c5,.agg (aG sum).toArray,ad f] o λr w=>r= .bool (pe l sum f)/\C o [] [] w:=by
 have a:Own [] o:=C.start o;refine j0 func275 (bM 2 a j j (λc w a=>bM 0 a j j (λd w a=>cl 0 a j (λb w a=>?_))));have a:C o [] [R b #[.bool false] 4,R d #[ad f] 3,R c (aG sum).toArray 79] w:=a;refine bN 4 (U:=aG sum) j j (by rw [ds];exact t) (bp (C.ak a)) ?_;have I:=zE (o:=w) (c5:=c5) (sum:=sum);refine bh 0 I j (λr w⟨aO,n,K,aa⟩=>?_);subst K;have a:=a.aM aa;have a:C o [] [R aO #[.pointer c5] 285,R n (aG sum).toArray 79,R c (aG sum).toArray 79,R d #[ad f] 3,R b #[.bool false] 4] w:=a.as;have a:C o [] ([R aO #[.pointer c5] 285,R n (aG sum).toArray 79]++[R c (aG sum).toArray 79,R d #[ad f] 3,R b #[.bool false] 4]) w:=a;have D:=B.here a
 refine j4 1 j (zD u t) j (by have:=a.size;simpa using this) a j (λ_=>rfl) (by intro p s;simp at s;subst s;rfl)
  (λpre ae=>ae=[R c (aG sum).toArray 79,R d #[ad f] 3,R b #[.bool false] 4]/\∀x∈pre,x.f≠f) (λe ae=>match e with| .ret=>ae=[R c (aG sum).toArray 79,R d #[ad f] 3,R b #[.bool true] 4]/\∃x∈fa l sum,x.f=f|_=>False) ⟨j,by simp⟩ (λL aK E=>D.range E) (λ_ _ _ _=>trivial) ?_ ?_ ?_ (λ_ _ _ h=>h.elim)
 .rintro y pre x P L S q ⟨rfl,J⟩ a;have m:=u x q.mem;have a:=C.gy a;refine cl 1 a j (λA w a=>ck 0 (a.bc A) j j j (by simpa using(x).one) (by rw [List.size_toArray];exact(x).len m) (λw a=>?_));have a:=C.whole (U:=(x).cs) a (by rw [(x).len m];rfl);refine bI 0 j (⟨j,_,a,λL w a=>?_⟩);have a:=C.gy a;refine al 4 j (aw (C.ak a) (x.eS m)) (al 0 j (aw (C.ak a) j) (cm 1 j j (λi=>?_) (λi=>?_)))
  .refine dB 2 (a.bc b) j j j j (λw a=>?_);have a:C _ _ (R b #[.bool true] 4::_) w:=a;refine bI 0 j (⟨[R c (aG sum).toArray 79,R d #[ad f] 3,R b #[.bool true] 4],a.as,j,x,?_,i⟩);obtain⟨Q,M⟩:=q;rw [M];simp
  refine bI 1 j (⟨[R c (aG sum).toArray 79,R d #[ad f] 3,R b #[.bool false] 4],a.as,j,λz g=>?_⟩);rcases dw.1 g with g|g
  .exact J z g
  rw [fT.1 g];exact i
 .rintro xs v w F ⟨rfl,H⟩ a;refine dB 2 (a.bc b) j j j j (λw a=>?_);have a:C _ _ (R b #[.bool false] 4::_) w:=a;refine bI 0 j ⟨.bool false,λw k=>?_⟩;have a:=k.st a (cD _);refine⟨sY results275 j j (aw (C.ak a) j),?_⟩;refine⟨aH Value.bool ?_,a.bare⟩;rw [yC,<-F];exact(Cx H).symm
 rintro v w G a;obtain⟨rfl,x,N,O⟩:=G;refine⟨.bool true,λw k=>?_⟩;have a:=k.st a (cD _);refine⟨sY results275 j j (aw (C.ak a) j),?_⟩;refine⟨aH Value.bool ?_,a.bare⟩;rw [yC];exact(kl.2 ⟨x,N,by simp [O]⟩).symm
theorem gj.now{c5:Option Addr}{l:List aF}{F:List Nat}{ae:List (List Chunk)}{o w:World}(h:gj c5 l F o)(c:C o F ae w):gj c5 l (au ae) w:=by
 have d:gj c5 l (F++au ae) o:=h.grow (λb a=>(dw.1 a).elim .inl (λa=>(c.own b a)));have e:=d.st c (λb a=>dw.2 (.inl a));exact e.grow (λb a=>.inl (dw.2 (.inr a)))
theorem tk(l:List aF)(x:aF):vcs (l++[x])=vcs l++x.cs:=by simp
theorem CE{o:World}{aO c:Nat}{c5:Option Addr}{l:List aF}{sum:List UInt8}(m:gj c5 l (au [R aO #[.pointer c5] 285,R c (aG sum).toArray 79]) o)(t:∀x∈l,x.ok)(H:sum.length=32)(K:l.length<=1000000)(b:Own [R aO #[.pointer c5] 285,R c (aG sum).toArray 79] o):Calls prog 344 #[.slice none 0 0,.func (.func 326) #[] #[ab aO,ab c]] o λr w=>∃ag,er r (fa l sum) ag/\C o (au [R aO #[.pointer c5] 285,R c (aG sum).toArray 79]) ([R aO #[.pointer c5] 285,R c (aG sum).toArray 79]++[ag]) w:=by
 obtain⟨e,n⟩:∃e,e=au [R aO #[.pointer c5] 285,R c (aG sum).toArray 79]:=⟨_,j⟩;rw [<-n] at m⊢;have b:C o e [R aO #[.pointer c5] 285,R c (aG sum).toArray 79] o:=n▸b;refine j0 func344 (bM 2 b j j (λd w b=>?_));have b:C o e (R d #[.slice none 0 0] 101::R aO #[.pointer c5] 285::R c (aG sum).toArray 79::[]) w:=b;have b:C o e ([R aO #[.pointer c5] 285,R c (aG sum).toArray 79]++[R d #[.slice none 0 0] 101,[]]) w:=(b.empty.f1).swap (A:=[_,_]);have B:=m.now b
 refine j4 6 j (zD t H) j (by have:=b.size;simpa using this) b j (λ_=>rfl) (by intro p s;simp at s;subst s;rfl)
  (λpre ae=>∃v ag,ae=[R d #[v] 101,ag]/\er v pre ag) (λ_ _=>False) ⟨_,_,j,Row.nil 115 68⟩ (λL aK D=>B.range D) (λ_ _ _ _=>trivial) ?_ ?_ (λ_ _ h=>h.elim) (λ_ _ _ h=>h.elim)
 .rintro y pre x I L M k ⟨v,ag,rfl,g⟩ b;have f:=t x k.mem;have hlen:pre.length<l.length:=t5 k.len (oP _ _);have b:=C.gy b;refine cl 1 b j (λz w b=>ck 0 (b.bc z) j j j (by simpa using(x).one) (by rw [List.size_toArray];exact(x).len f) (λw b=>?_));have b:=C.whole (U:=(x).cs) b (by rw [(x).len f];rfl);refine bI 0 j (⟨j,_,b,λL w b=>?_⟩);have b:=C.gy b;refine al 2 j (aw (C.ak b) j) (bN 0 (U:=x.cs) j j (x.len f) (bp (C.ak b)) (gC (U:=x.cs) b j j j (x.len f) (by decide) (by decide) (λu w b=>?_)));have aJ:Rd w (some ⟨u,0,none⟩) x.cs:=b.bE;refine d9 (b.to ag) g j j (by decide) j j j (news:=x.cs) (x.len f) aJ (List.all_eq_true.1 x.one) (by omega) (by unfold maxLen;omega) (λv1 i w q b=>dB 0 (b.bc d) j j j q.one (λw b=>?_));have b:C _ _ (R d #[v1] 101::_) w:=b;refine bI 0 j (⟨_,b.as (cI:=[R d #[v1] 101,i]),v1,i,j,?_⟩);unfold er;rw [b4,List.length_singleton,tk];exact q
 rintro xs J w E ⟨v,ag,rfl,g⟩ b;refine al 2 j (aw (C.ak b) j) (bI 1 j ⟨v,λw G=>?_⟩);have b:=G.st b (cD _);refine⟨λa F=>i7 (fn:=f344) F j _ _,?_⟩;rw [E] at g;exact⟨ag,g,C.perm (A:=[R aO #[.pointer c5] 285,R c (aG sum).toArray 79,ag]) b.as (by simp)⟩
theorem DD{o:World}{aO a:Nat}{c5:Option Addr}{l:List aF}{sum:List UInt8}(b:gj c5 l (au [R aO #[.pointer c5] 285,R a (aG sum).toArray 79]) o)(h:∀x∈l,x.ok)(g:sum.length=32)(e:l.length<=1000000)(c:Own [R aO #[.pointer c5] 285,R a (aG sum).toArray 79] o):Calls prog 330 #[.func (.func 326) #[] #[ab aO,ab a]] o λr w=>∃ag,er r (fa l sum) ag/\C o (au [R aO #[.pointer c5] 285,R a (aG sum).toArray 79]) ([R aO #[.pointer c5] 285,R a (aG sum).toArray 79]++[ag]) w:=by
 refine a2 func330 ?_;have d:=CE b h g e c;exact bh 6 d j (λr w f=>ao 1 j j f)
theorem El{a b:Int}(c:0<=a/\a<=1000)(d:0<=b/\b<=1000):evalBin .sub .i64 a b=some (.int .i64 (a-b)):=by
 show some (Value.int .i64 (IntKind.i64.wrap (a-b)))=_;rw [jX];exact aH (λz=>some (Value.int .i64 z)) (by omega)
section
variable {P:Program} {n:Fr} {Z:Env} {w:World} {Q:d6} {ops:Array Oper} {rest:List Oper} {dst:Option Nat} {ty:TypeId} {pos:String} {after:Array Edge} {g:Option (Nat×Bool)}
theorem hM{t e:TypeId}{x y:Operand}{b I l c J:Nat}{k:IntKind}{z:Value}{size bytes:Nat}[hu:bB P t (.slice e)][m:cn P e z size bytes](f:cW ops Z g=some true)(d:da n dst=true)
 (i:bs Z x=some (.slice (some ⟨b,I,none⟩) l c)) (j:bs Z y=some (.int k J)) (a:J<l)
 (h:O P n ops rest (cE Z dst (.pointer (some ⟨b,I+J*size,none⟩))) w Q):O P n ops (⟨dst,.indexAddr t x y,ty,pos,after,g⟩::rest) Z w Q:=dL f d (gb i j a) h
end
theorem flat_lit{α:Type}{f:α->List Value}{n:Nat}{w:World}{b:Nat}{l:List α}(c:Rd w (some ⟨b,0,none⟩) (l.flatMap f))(h:∀x∈l,(f x).length=n)(i:Nat)(a:i<l.length):Rd w (some ⟨b,0+i*n,none⟩) (f l[i]):=by
 have:=iY c h i a;rw [add_lit] at this;exact this
theorem yo{α:Type}{f:α->List Value}{n:Nat}:∀(l:List α),(∀x∈l,(f x).length=n)->∀(i:Nat)(y:α),i<l.length->(f y).length=n->∀J,((l.set i y).flatMap f)[J]? =if i*n<=J/\J<i*n+n then(f y)[J-i*n]? else(l.flatMap f)[J]?
 |[],_,i,_,a,_,_=>by simp at a
 |x::r,h,0,y,_,c,J=>by
  have b:=h x (by simp);simp only [rH,je,oJ,fg,b6,true_and,Nat.sub_zero];split
  .rw [iC (by omega)]
  .rw [jf (by omega),jf (by omega),c,b]
 |x::r,h,i+1,y,a,c,J=>by
  have b:=h x (by simp);have j:=yo r (λz g=>h z (by simp [g])) i y (by simpa using a) c (J-n);simp only [List.set_cons_succ,je];have e:(i+1)*n=i*n+n:=by rw [m4];omega
  rw [e];by_cases k:J<n
  .rw [iC (by omega),iC (by omega),aI (by omega)]
  .rw [jf (by omega),jf (by omega),b,j];by_cases d:i*n<=J-n/\J-n<i*n+n
   .rw [a6 d,a6 (by omega),show J-n-i*n=J-(i*n+n) by omega]
   .rw [aI d,aI (by omega)]
theorem Row.Au{α:Type}{f:α->List Value}{e:TypeId}{size g cap:Nat}{l:List α}{cur:Array Value}{n:Nat}(aJ:l.length=n)(h:Row e size (.slice (some ⟨g,0,none⟩) n cap) n (l.flatMap f) [(g,.cells cur e (0,0))])(br:∀x∈l,(f x).length=size)(J:Nat)(o:J<l.length)(y:α)(c:(f y).length=size):
 Row e size (.slice (some ⟨g,0,none⟩) n cap) n ((l.set J y).flatMap f) [(g,.cells (setCells cur (J*size) (f y)) e (0,0))]:=by
 subst aJ;obtain⟨z,p⟩:=h;have s:∀x∈l.set J y,(f x).length=size:=λx t=>(oQ t).elim (br x) (λe=>by rw [e];exact c)
 refine⟨by rw [pc _ s,hx],?_⟩;rcases p with⟨b,_,_⟩|⟨w,u,v,b,r,d,q,k,m⟩
 .cases b
 .cases b;cases r
  have A:J*size+size<=l.length*size:=by
   have:=kk size (show J+1<=l.length from o);rw [m4,Nat.one_mul] at this;exact this
  have B:l.length*size<=cur.size:=eh (kk _ d) k;refine .inr ⟨g,cap,_,j,j,d,q,by rw [s0];exact k,?_⟩;apply oG;intro i;rw [yo l br J y o c i,jD,pY,pr _ _ _ (by omega),c];by_cases a:i<l.length*size
  .rw [a6 a];split
   .rfl
   .rw [<-m,jD,a6 a,pY]
  .rw [aI a,aI (by omega),<-m,jD,aI a]
def mV(l:List aF)(i J:Nat):Prop:=∀(a b:Nat)(c:a<l.length)(d:b<l.length),a<b->b<=i->b≠J->l[a].f<=l[b].f
theorem mV.swap{l:List aF}{i J:Nat}(h:mV l i J)(s:0<J)(t:J<=i)(r:J<l.length)(u:l[J].f<l[J-1].f):mV ((l.set J l[J-1]).set (J-1) l[J]) i (J-1):=by
 intro a b g d p k q;simp only [hx] at g d;simp only [List.getElem_set];have o:J-1<l.length:=by omega
 by_cases m:J-1=a
 .subst m;rw [a6 j];by_cases c:J=b
  .subst c;rw [aI (by omega),a6 j];omega
  .rw [aI (by omega),aI c];exact h J b r d (by omega) k (by omega)
 .rw [aI m,aI (show¬J-1=b from λe=>q e.symm)];by_cases c:J=b
  .subst c;rw [aI (show¬J=a by omega),a6 j];exact h a (J-1) g o (by omega) (by omega) (by omega)
  .rw [aI c];by_cases n:J=a
   .subst n;rw [a6 j];exact h (J-1) b o d (by omega) k (λe=>c e.symm)
   .rw [aI n];exact h a b g d p k (λe=>c e.symm)
theorem mV.put{l:List aF}{i J:Nat}(h:mV l i J)(p:J<=i)(o:J<l.length)(hle:J=0\/l[J-1].f<=l[J].f):mV l (i+1) (i+1):=by
 intro a b c j g m n;by_cases e:b=J
 .subst e;rcases hle with k|hle
  .omega
  .by_cases d:a=b-1
   .subst d;exact hle
   .exact rI (h a (b-1) c (by omega) (by omega) (by omega) (by omega)) hle
 .exact h a b c j g (by omega) e
theorem Df{l m:List aF}(n:m.Perm l)(aL:∀(a b:Nat)(d:a<m.length)(e:b<m.length),a<b->m[a].f<=m[b].f)(aJ:(l.map aF.f).Nodup):m=jZ l:=by
 have le:∀a b:aF,decide (a.f<=b.f)=true↔a.f<=b.f:=λa b=>decide_eq_true_iff
 have i:m.Pairwise λa b=>a.f<=b.f:=oF.2 λa b d e g=>aL a b d e g
 have j:=tU (le:=λx y:aF=>decide (x.f<=y.f)) (by intro a b c;simp only [le];omega) (by intro a b;simp only [m7,le];omega) l
 have hu:∀a∈l,∀b∈l,a.f=b.f->a=b:=by
  clear n aL i j;induction l with
  |nil=>intro a d;simp at d
  |cons x r t=>
   have k:=l6.1 (by simpa using aJ:(x.f::r.map aF.f).Nodup);intro a d b e g;rcases g0.1 d with o|q<;>rcases g0.1 e with p|s
   .rw [o,p]
   .exact absurd (dO.2 ⟨b,s,by rw [<-g,o]⟩) k.1
   .exact absurd (dO.2 ⟨a,q,by rw [g,p]⟩) k.1
   .exact t k.2 a q b s g
 refine List.Perm.eq_of_pairwise (le:=λa b:aF=>a.f<=b.f) (λa b d e i j=>hu a (n.mem_iff.1 d) b (ux.1 e) (by omega)) i (j.imp λh=>(le _ _).1 h) (n.trans (oO l _).symm)
theorem DB{o:World}{x y:aF}(c:x.ok)(e:y.ok)(d:0<=x.f/\x.f<=1000)(g:0<=y.f/\y.f<=1000):Calls prog 306 #[.agg x.cs.toArray,.agg y.cs.toArray] o λr w=>r= .int .i64 (x.f-y.f)/\C o [] [] w:=by
 have a:Own [] o:=C.start o;refine a2 func306 (bM 2 a j j (λaO w a=>bM 0 a j j (λb w a=>?_)));have a:C o [] [R b y.cs.toArray 115,R aO x.cs.toArray 115] w:=a;exact al 4 j (aw (C.ak a) (x.eS c)) (al 1 j (aw (C.ak a) (y.eS e)) (bq 0 j j j (El d g) (ao 1 j j ⟨j,a.bare⟩)))
theorem EW{o:World}{v:Value}{d:List aF}{ag:List Chunk}(q:er v d ag)(aq:∀x∈d,x.ok)(br:∀x∈d,0<=x.f/\x.f<=1000)(az:d.length<=1000000)(c:Own [ag] o):Calls prog 348 #[v,.int .i64 (0:Nat),.int .i64 d.length,.func (.func 306) #[] #[]] o λr w=>r= .tuple #[]/\∃l N,l.Perm d/\(∀(a b:Nat)(A:a<l.length)(t:b<l.length),a<b->l[a].f<=l[b].f)/\er v l N/\C o (au [ag]) [N] w:=by
 obtain⟨z,P⟩:∃z,z=au [ag]:=⟨_,j⟩;rw [<-P];have c:C o z [ag] o:=P▸c;refine a2 func348 (bq 3 j j j (gm 0 1 (by omega)) ?_)
 refine cH 2 j (ct:=Nat×List aF×List Chunk) (λi=>[(0,v),(2,.int .i64 (d.length:Nat)),(1,.int .i64 (0:Nat)),(3,.func (.func 306) #[] #[]),(8,.int .i64 (i.1:Nat))])
  (λi w=>1<=i.1/\(i.1<=d.length\/i.1=1)/\i.2.1.Perm d/\mV i.2.1 (i.1-1) i.1/\er v i.2.1 i.2.2/\C o z [i.2.2] w) (λi=>d.length-i.1) (1,d,ag) ⟨j,j,j,j,j,aY⟩ ⟨cD _,.inr j,oK _,by intro a b _ _ B t _;omega,q,c⟩ ?_
 rintro⟨i,l,ag⟩ w ⟨ab,aj,F,aL,q,c⟩;dsimp only at ab aj F aL q c⊢;refine cm 6 j j (λW=>?_) (λW=>?_)
 .have ay:i<d.length:=by omega
  have hlen:=F.length_eq;obtain⟨p,cap,O,V,rfl,_,_,_,_⟩:=q.2.resolve_left (λh=>by have:=h.2.1;omega);rw [hlen] at V;subst V;have q:Row 115 68 (.slice (some ⟨p,0,none⟩) d.length cap) d.length (vcs l) (R p O 115):=hlen▸q
  refine cH 8 j (ct:=Nat×List aF×Array Value) (λk=>[(0,.slice (some ⟨p,0,none⟩) d.length cap),(2,.int .i64 (d.length:Nat)),(1,.int .i64 (0:Nat)),(3,.func (.func 306) #[] #[]),(8,.int .i64 (i:Nat)),(9,.int .i64 (k.1:Nat))])
   (λk w=>k.1<=i/\k.2.1.Perm d/\mV k.2.1 i k.1/\Row 115 68 (.slice (some ⟨p,0,none⟩) d.length cap) d.length (vcs k.2.1) (R p k.2.2 115)/\C o z [R p k.2.2 115] w) (λk=>k.1) (i,l,O) ⟨j,j,j,j,j,j,aY⟩ ⟨cD _,F,by intro a b A t B Q K;exact aL a b A t B (by omega) K,q,c⟩ ?_
  rintro⟨J,m,cur⟩ w ⟨G,D,H,g,c⟩;dsimp only at G D H g c⊢;have L:=D.length_eq;have n:J<m.length:=by omega
  have M:∀x∈m,x.ok:=λx u=>aq x (D.mem_iff.1 u)
  have S:∀x∈m,0<=x.f/\x.f<=1000:=λx u=>br x (D.mem_iff.1 u)
  have E:=M m[J] (et n);have s:∀x∈m,x.cs.length=68:=λx u=>x.len (M x u)
  have y:=M m[J-1] (et (by omega));have c:=c.drew;refine bw 2 j (λw=>∃ae,C o z (R p cur 115::ae) w) ⟨_,c⟩ (af 0 4 j (ef 21 j (λI=>?_) (λI=>?_)));have ak:0<J:=by have:=dj I;omega
  refine af 4 3 j (aT 7 j (λw⟨_,c⟩=>gb j j (show J<d.length by omega)) (aT 8 j (λw⟨_,c⟩=>c3 (U:=m[J].cs) j j (m[J].len E) (flat_lit (by obtain⟨_,_,e,_,_,h,_⟩:=g.rd c;cases e;exact h) s J n)) ?_));refine af 9 2 j (aT 11 j (λw⟨_,c⟩=>dq j j (hC J 1 (by omega) (by omega))) (aT 12 j (λw⟨_,c⟩=>gb j j (show J-1<d.length by omega)) (aT 13 j (λw⟨_,c⟩=>c3 (U:=m[J-1].cs) j j (m[J-1].len y) (flat_lit (by obtain⟨_,_,e,_,_,h,_⟩:=g.rd c;cases e;exact h) s (J-1) (by omega))) (aU 14 j (hL j j j j (DB E y (S _ (et n)) (S _ (et (by omega)))) (λr w⟨ap,aa⟩=>?_))))));subst ap;have c:=c.aM aa;refine ar ⟨⟨_,c⟩,?_⟩;refine af 15 2 j (bK (cm 0 j j (λX=>?_) (λX=>?_)))
  .have c:=c.drew;refine bw 3 j (λw=>True) aY (af 0 4 j (aT 4 j (λw _=>dq j j (hC J 1 (by omega) (by omega))) (af 5 2 j (aT 7 j (λw _=>dq j j (hC J 1 (by omega) (by omega))) (aT 8 j (λw _=>gb j j (show J-1<d.length by omega)) (af 10 2 j (aT 12 j (λw _=>gb j j (show J<d.length by omega)) (aO 9 13 j j ?_ ?_))))))));refine l3 (U:=m[J-1].cs) j j j j (m[J-1].len y) (flat_lit (by obtain⟨_,_,e,_,_,h,_⟩:=g.rd c;cases e;exact h) s (J-1) (by omega)) (ar ⟨aY,?_⟩);refine aU 13 j (l3 (U:=m[J].cs) j j j j (m[J].len E) (flat_lit (by obtain⟨_,_,e,_,_,h,_⟩:=g.rd c;cases e;exact h) s J n) ?_);rotate_left
   refine l3 (U:=m[J].cs) j j j j (m[J].len E) (flat_lit (by obtain⟨_,_,e,_,_,h,_⟩:=g.rd c;cases e;exact h) s J n) (ar ⟨aY,?_⟩);refine aU 9 j (l3 (U:=m[J-1].cs) j j j j (m[J-1].len y) (flat_lit (by obtain⟨_,_,e,_,_,h,_⟩:=g.rd c;cases e;exact h) s (J-1) (by omega)) ?_);rotate_left
   all_goals
    refine ar ⟨aY,?_⟩;refine aT 14 j (λw _=>gb j j (show J<d.length by omega)) (aU 15 j ?_)
    have ai:0+J*68+68<=cur.size:=by
     obtain⟨_,an⟩:=g;obtain⟨_,_,_,Y,Z,av,_,aw,_⟩:=an.resolve_left (λh=>by have:=h.2.1;omega);cases Y;cases Z;have:=kk 68 (show J+1<=cap by omega);omega
    refine c4 c j j j (by simpa using m[J-1].one) (by rw [List.size_toArray];exact m[J-1].len y) ai (λw c=>?_);have ac:=g.Au L s J n m[J-1] (m[J-1].len y);have c:=C.gr c (show setCells cur (0+J*68) m[J-1].cs=setCells cur (J*68) m[J-1].cs by rw [fg]);refine ar ⟨aY,?_⟩;refine aT 16 j (λw _=>gb j j (show J-1<d.length by omega)) (aU 17 j (c4 c j j j (by simpa using m[J].one) (by rw [List.size_toArray];exact m[J].len E) (by rw [s0];omega) (λw c=>?_)));have ah:∀x∈m.set J m[J-1],x.cs.length=68:=λx u=>(oQ u).elim (s x) (λe=>by rw [e];exact m[J-1].len y)
    have ad:=ac.Au (by rw [hx];exact L) ah (J-1) (by rw [hx];omega) m[J] (m[J].len E);have c:=C.gr c (show setCells (setCells cur (J*68) m[J-1].cs) (0+(J-1)*68) m[J].cs=setCells (setCells cur (J*68) m[J-1].cs) ((J-1)*68) m[J].cs by rw [fg]);refine ar ⟨aY,?_⟩;refine bK (bq 2 j j j (hC J 1 (by omega) (by omega)) (bP 1 j ?_));have al:m[J].f<m[J-1].f:=by omega
    have am:((m.set J m[J-1]).set (J-1) m[J]).Perm m:=List.set_set_perm n (by omega);refine⟨(J-1,(m.set J m[J-1]).set (J-1) m[J],_),⟨j,j,j,j,j,j,aY⟩,⟨by dsimp only;omega,am.trans D,H.swap ak G n al,ad,c⟩,by dsimp only;omega⟩
  refine bq 3 j j j (gm i 1 (by omega)) (bP 1 j ?_);have T:=H.put G n (.inr (by omega));rotate_left
  refine af 4 13 j (bK (bq 4 j j j (gm i 1 (by omega)) (bP 1 j ?_)));have T:=H.put G n (.inl (by have:=dN I;omega));rotate_left
  all_goals
   refine⟨(i+1,m,_),⟨j,j,j,j,j,aY⟩,⟨by dsimp only;omega,by dsimp only;omega,D,λa b A t B Q K=>T a b A t B (by dsimp only at Q;omega) K,L▸g,c.as (cI:=[R p cur 115])⟩,by dsimp only;omega⟩
 refine ao 1 j j ?_;have hlen:=F.length_eq;have ax:d.length<=i:=by omega
 exact⟨j,l,ag,F,λa b A t B=>aL a b A t B (by omega) (by omega),q,c⟩
theorem Fu{o:World}{x:Nat}(a:x<=12):Calls prog 323 #[.int .u64 x] o λr w=>(∃z,r= .int .i64 z)/\w=o:=by
 refine a2 func323 ?_;refine i0 8 j j (fj (by omega)) ?_;refine i0 6 j j (fj (by omega)) ?_;refine i0 6 j j (fj (by omega)) ?_;refine aq 5 j (gt j j j j ?_);refine bS 21 (.int .u8 (x:Nat)) j (aH (Value.int .u8) (by show IntKind.u8.wrap (x:Int)=_;rw [mf];omega)) ?_;refine rt j j j j (Nat.lt_of_le_of_lt a bJ) ?_;refine gt j j j j ?_;refine ao 2 j j ?_;exact⟨⟨_,j⟩,j⟩
theorem Fv{o:World}{x:Nat}(b:x<=12):Calls prog 292 #[.int .u64 x] o λr w=>(∃z,r= .int .i64 z)/\w=o:=by
 refine a2 func292 (bh 9 (Fu b) j (λr w⟨⟨z,a⟩,hw⟩=>?_));subst a;subst hw;exact ao 1 j j ⟨⟨_,j⟩,j⟩
theorem GT{o:World}{v:Value}{a:List aF}{ag:List Chunk}(c:er v a ag)(k:∀x∈a,x.ok)(br:∀x∈a,0<=x.f/\x.f<=1000)(m:a.length<=12)(aJ:(a.map aF.f).Nodup)(g:Own [ag] o){z:Int}:Calls prog 345 #[v,.int .i64 (0:Nat),.int .i64 a.length,.int .i64 z,.func (.func 306) #[] #[]] o λr w=>r= .tuple #[]/\∃b,er v (jZ a) b/\C o (au [ag]) [b] w:=by
 refine a2 func345 (cH 7 j (ct:=Unit) (λ_=>[(0,v),(1,.int .i64 (0:Nat)),(2,.int .i64 (a.length:Nat)),(3,.int .i64 z),(4,.func (.func 306) #[] #[]),(10,.bool true),(11,.bool true)]) (λ_ w=>w=o) (λ_=>0) () ⟨j,j,j,j,j,j,j,aY⟩ j ?_);rintro _ w hw;subst hw;refine bq 5 j j j (hC a.length 0 (by omega) (by omega)) (mo 6 j j (jC (by omega)) ?_);have h:=EW c k br (by omega) g;refine bo 6 h j (λw⟨l,b,i,aL,d,aa⟩=>ao 0 j j ?_);have e:=Df i aL aJ;subst e;exact⟨j,b,d,aa⟩
theorem HQ{o:World}{v:Value}{a:List aF}{ag:List Chunk}(d:er v a ag)(l:∀x∈a,x.ok)(br:∀x∈a,0<=x.f/\x.f<=1000)(e:a.length<=12)(aJ:(a.map aF.f).Nodup)(h:Own [ag] o):Calls prog 331 #[v,.func (.func 306) #[] #[]] o λr w=>r= .tuple #[]/\∃b,er v (jZ a) b/\C o (au [ag]) [b] w:=by
 obtain⟨A,c,rfl,_⟩:=d.form;refine a2 func331 (aq 9 j (gt j j j j ?_));refine bS 10 (.int .u64 (a.length:Nat)) j (aH (Value.int .u64) (by show IntKind.u64.wrap (a.length:Int)=_;rw [lz];omega)) (bh 0 (Fv e) j (λr w⟨⟨z,k⟩,hw⟩=>?_));subst k;subst hw;have i:=GT d l br e aJ h (z:=z);exact bo 1 i j (λw⟨b,g,aa⟩=>ao 0 j j ⟨j,b,g,aa⟩)
theorem HR{o:World}{aO b:Nat}{c5:Option Addr}{l:List aF}{sum:List UInt8}(g:gj c5 l (au [R aO #[.pointer c5] 285,R b (aG sum).toArray 79]) o)(d:∀x∈l,x.ok)(p:sum.length=32)(m:l.length<=1000000)(br:∀x∈l,0<=x.f/\x.f<=1000)(n:(fa l sum).length<=12)(aJ:((fa l sum).map aF.f).Nodup)(a:Own [R aO #[.pointer c5] 285,R b (aG sum).toArray 79] o):Calls prog 305 #[.func (.func 326) #[] #[ab aO,ab b],.func (.func 306) #[] #[]] o λr w=>∃ag,er r (jZ (fa l sum)) ag/\C o (au [R aO #[.pointer c5] 285,R b (aG sum).toArray 79]) ([R aO #[.pointer c5] 285,R b (aG sum).toArray 79]++[ag]) w:=by
 refine a2 func305 ?_;have c:=DD g d p m a;refine bh 6 c j (λr w⟨ag,i,a⟩=>?_);have c:=HQ i (λx h=>d x (jd.1 h).1) (λx h=>br x (jd.1 h).1) n aJ (C.jo a);refine bh 5 c j (λs w⟨q,e,k,aa⟩=>?_);have a:=C.jh a aa;exact ao 4 j j ⟨e,k,a⟩
theorem h0.len:∀{us:List Value}{l:List (List UInt8)}{H:List Chunk},h0 us l H->us.length=l.length
 |[],[],_,_=>rfl
 |[],_::_,_,h=>h.elim
 |_::_,[],_,h=>h.elim
 |_::us,_::l,_,⟨_,_,_,_,h⟩=>by simp [h.len]
theorem h0.read{w:World}:∀{us:List Value}{l:List (List UInt8)}{H:List Chunk},h0 us l H->Holds w H->∀(i:Nat)(a:i<l.length),∃A c,us[i]? =some (.slice A l[i].length c)/\l[i].length<=c/\c<=maxLen/\Rd w A (aG l[i])
 |[],[],_,_,_,i,a=>by simp at a
 |[],_::_,_,h,_,_,_=>h.elim
 |_::_,[],_,h,_,_,_=>h.elim
 |u::us,x::l,_,⟨ai,aA,rfl,hu,h⟩,b,0,_=>by
  obtain⟨A,c,rfl,d,e,f,_⟩:=hu.read b.left;exact⟨A,c,j,d,e,f⟩
 |u::us,x::l,_,⟨ai,aA,rfl,hu,h⟩,b,i+1,a=>by
  have:=h.read b.right i (by simpa using a);simpa using this
theorem Row.n9{e:TypeId}{size n c m:Nat}{A:Option Addr}{xs:List Value}{G:List Chunk}(h:Row e size (.slice A m c) n xs G):∀a,A=some a->a.block∈au [G]:=λa d=>by
 rcases h.2 with⟨b,_⟩|⟨g,_,_,b,rfl,_⟩
 .cases b;cases d
 .cases b;cases d;simp [au]
theorem h0.n9:∀{us:List Value}{l:List (List UInt8)}{H:List Chunk},h0 us l H->∀(i:Nat)(A:Option Addr)(n c:Nat),us[i]? =some (.slice A n c)->∀a,A=some a->a.block∈au [H]
 |[],[],_,_,i,_,_,_,b,_,_=>by simp at b
 |[],_::_,_,h,_,_,_,_,_,_,_=>h.elim
 |_::_,[],_,h,_,_,_,_,_,_,_=>h.elim
 |u::us,x::l,_,⟨ai,aA,rfl,hu,h⟩,0,A,n,c,b,a,d=>by
  simp at b;subst b;have:=hu.n9 a d;simp [au] at this⊢;exact .inl this
 |u::us,x::l,_,⟨ai,aA,rfl,hu,h⟩,i+1,A,n,c,b,a,d=>by
  have:=h.n9 i A n c (by simpa using b) a d;simp [au] at this⊢;exact .inr this
theorem C.k2{o w:World}{F:List Nat}{G:List Chunk}{ae:List (List Chunk)}{b:Nat}(h:C o F (G::ae) w)(a:b∈au [G]):b∉au ae:=λc=>by
 have:=h.nodup;rw [pf] at this;exact(iR.1 this).2.2 b a b c j
theorem uZ{α β:Type}{f:α->Option β}:∀{l:List α}{i:Nat},(l.take i).findSome? f=none->∀(b:i<l.length)(y:β),f l[i]=some y->l.findSome? f=some y
 |[],_,_,b,_,_=>by simp at b
 |a::r,0,_,_,y,h=>by have h:f a=some y:=h;simp [h]
 |a::r,i+1,h,b,y,c=>by
  simp only [List.take_succ_cons,List.findSome?_cons] at h⊢;cases br:f a with
  |some z=>rw [br] at h;cases h
  |none=>
   rw [br] at h;exact uZ h (by simpa using b) y c
theorem yi{α β:Type}{f:α->Option β}{l:List α}{i:Nat}(h:(l.take i).findSome? f=none)(a:i<l.length)(aJ:f l[i]=none):(l.take (i+1)).findSome? f=none:=by
 rw [fu a,List.findSome?_append,h];simp [aJ]
def pa(g:am)(b:List aF)(x:List UInt8):Option (List UInt8×List aF):=if iL g.n<=(jZ (fa b (bO x))).length then some (x,jZ (fa b (bO x))) else none
theorem Ec(g:am)(s:aj)(b:List aF):s.fE g b=s.dh.findSome? (pa g b):=rfl
theorem x7{o:World}{av:Nat}{g:am}{s:aj}{c:eX}(I:o.heap[av]? =some (.cells (j9 g s c).toArray 288 (0,0)))(X:g.at o)(B:g.ok){c1:List Chunk}(T:iB c.dh s.dh c1)(z:Holds o c1)(an:∀x∈s.dh,x.length<=200){c5:Option Addr}{l:List aF}{N:Nat}(P:gj c5 l [] o)(k:fO g N l)(R:N<=1000000):Calls prog 277 #[ab av,.pointer c5] o λr w=>∃v1 v2 ag,r= .tuple #[v1,v2,.bool (s.fE g l).isSome]/\C o [] [ag] w/\∀y,s.fE g l=some y->(∃A c,v1= .slice A y.1.length c/\y.1.length<=c/\c<=maxLen/\Rd w A (aG y.1)/\∀a,A=some a->a.block∈au [c1])/\er v2 y.2 ag:=by
 have b:Own [] o:=C.start o;obtain⟨aC,aB,us,rfl,S,u⟩:=T;obtain⟨F,G,W,aL,ak,ah,_⟩:=S.read z.left;have ar:∀x∈l,x.ok:=k.ok;have br:∀x∈l,0<=x.f/\x.f<=1000:=λx h=>by have:=pd (k.cR x h);have O:g.n<=10:=B.n10;omega
 have ad:l.length<=1000000:=eh k.len R;refine a2 func277 (al 11 j (aw (b.cg I) (show(j9 g s c).toArray[0+9]? =some (.slice F s.dh.length G) by rw [<-W];rfl)) ?_)
 refine cH 3 j (ct:=Nat) (λi=>[(0,ab av),(1,.pointer c5),(4,.slice none 0 0),(5,.slice none 0 0),(6,.bool false),(13,.slice F s.dh.length G),(14,.int .i64 (s.dh.length:Nat)),(15,.int .i64 (i:Nat))])
  (λi w=>i<=s.dh.length/\(s.dh.take i).findSome? (pa g l)=none/\C o [] [] w) (λi=>s.dh.length-i) 0 ⟨j,j,j,j,j,j,j,j,aY⟩ ⟨b6 _,j,b⟩ ?_
 rintro i w ⟨aJ,e,b⟩;refine cm 4 j j (λL=>?_) (λL=>?_)
 .have d:i<s.dh.length:=by omega
  obtain⟨K,ci,E,Y,aK,ai⟩:=u.read (z.right.st b) i d;have aN:=an s.dh[i] (et d);refine aq 5 j (fz j j j j (b.rd ah (bX.of_nil _ _)) (v:=.slice K s.dh[i].length ci) (by rw [gZ];exact E) d (λaD aI V=>?_));refine al 0 j V ?_;have m:=nH (p:=s.dh[i]) ai (by omega) Y;refine bh 5 m j (λr w⟨D,ac⟩=>?_);have D:r= .agg (aG (bO s.dh[i])).toArray:=D;subst D;have b:=b.aM ac;have m:=zE (o:=w) (c5:=c5) (sum:=bO s.dh[i]);refine bh 0 m j (λr w⟨aO,aE,af,aa⟩=>?_);subst af;have Q:=(P.st b (by simp)).here aa;have b:=b.aM aa;have m:=HR Q ar (e7 _) ad br (eh (zz k _) (by have O:g.n<=10:=B.n10;omega)) (vO k _) b.cB;refine bh 0 m j (λr w⟨ag,H,aa⟩=>?_);have b:C o [] [ag] w:=(b.cA aa).as;obtain⟨aA,dv,rfl,_⟩:=H.form;refine bo 6 (z3 (b.cg I) (X.st b (am.off.nil g)) B) j (λaP ap=>?_);subst ap;refine cm 1 j j (λM=>?_) (λM=>?_)
  .refine ao 7 j j ?_;have t:pa g l s.dh[i]=some (s.dh[i],jZ (fa l (bO s.dh[i]))):=by unfold pa;exact if_pos (by omega)
   have t:=uZ e d _ t;rw [<-Ec] at t;refine⟨_,_,ag,by rw [t];rfl,b,λy q=>?_⟩;rw [t] at q;cases q;obtain⟨gU,aH,J,ax,ay,az⟩:=u.read (z.right.st b) i d;rw [E] at J;cases J;refine⟨⟨_,_,j,ax,ay,az,λa U=>?_⟩,H⟩;have:=u.n9 i _ _ _ E a U;simp [au] at this⊢;exact .inr this
  refine bq 2 j j j (gm i 1 (by unfold maxLen at ak;omega)) (bP 1 j ?_);have ae:pa g l s.dh[i]=none:=by unfold pa;exact if_neg (by omega)
  refine⟨i+1,⟨j,j,j,j,j,j,j,j,aY⟩,⟨d,yi e d ae,b.bare⟩,by omega⟩
 refine ao 6 j j ?_;have Z:i=s.dh.length:=by omega
 subst Z;rw [gu] at e;have e:s.fE g l=none:=e;refine⟨.slice none 0 0,.slice none 0 0,[],by rw [e];rfl,b.empty,λy q=>?_⟩;rw [e] at q;cases q
abbrev eX.o3(c:eX)(k:Nat):Value:=if k=0 then c.cU else c.ay
theorem z7(g:am)(s:aj)(c:eX){k:Nat}(aa:k<2):(j9 g s c).toArray[0+10+k*1]? =some (c.o3 k):=by
 match k,aa with
 |0,_=>rfl
 |1,_=>rfl
theorem AH(k:Nat)(aa:k<2):evalBin .sub .i64 ((k+1:Nat):Int) 1=some (.int .i64 (k:Int)):=by
 match k,aa with
 |0,_=>rfl
 |1,_=>rfl
abbrev jG(bg:Nat)(u:Value):Chunk:=(bg,.cells #[u] 387 (0,0))
theorem xm{m:List (Int×Value)}{t:List (Int×List aF)}{G:List Chunk}(h:c6 il m t G)(k:Int):∃c5,(aZ m k).getD tt= .pointer c5/\((c5=none/\aZ t k=none)\/
 ∃bg u l ag H1 c,c5=some ⟨bg,0,none⟩/\aZ t k=some l/\er u l ag/\G=H1++((jG bg u::ag)++c)/\∀b0 b a,er b b0 a->c6 il m (b9 t k b0) (H1++((jG bg b::a)++c))):=by
 cases aa:aZ t k with
 |none=>rw [h.nv aa];exact⟨none,j,.inl ⟨j,j⟩⟩
 |some l=>
  obtain⟨v,ai,i,aA,e,rfl,⟨bg,u,ag,rfl,d,rfl⟩,g⟩:=h.find aa;rw [e];exact⟨_,j,.inr ⟨bg,u,l,ag,ai,aA,j,j,d,j,λb0 b a f=>g b0 _ ⟨bg,b,a,j,f,j⟩⟩⟩
theorem gj.ofRow{w:World}{bg:Nat}{u:Value}{l:List aF}{ag:List Chunk}(f:er u l ag)(g:w.heap[bg]? =some (.cells #[u] 387 (0,0)))(e:Holds w ag):gj (some ⟨bg,0,none⟩) l [] w:=by
 obtain⟨A,d,rfl,a,b,c,_⟩:=f.read e;exact .inr ⟨bg,A,d,j,g,a,b,c,by simp,bX.of_nil _ _⟩
theorem il.Hd{w:World}{m:List (Int×Value)}{t:List (Int×List aF)}{G:List Chunk}(h:c6 il m t G)(k:Int)(b:Holds w G):∃c5,(aZ m k).getD tt= .pointer c5/\gj c5 ((aZ t k).getD []) [] w:=by
 obtain⟨c5,c,d⟩:=xm h k;refine⟨c5,c,?_⟩;rcases d with⟨rfl,a⟩|⟨bg,u,l,ag,H1,f,rfl,a,e,rfl,_⟩
 .rw [a];exact .inl ⟨j,j⟩
 .rw [a];exact gj.ofRow e (b.right.left.head) b.right.left.tail
theorem aF.sX(v:aF)(a:v.ok){w:World}{b:Nat}{e:TypeId}{e3:Nat×Nat}(h:w.heap[b]? =some (.cells v.cs.toArray e e3)):Rd w (some ⟨b,0+3,none⟩) (aG v.sum):=λi x c=>⟨_,j,by
 rw [add_lit];exact aw h (v.qn a i x c)⟩
theorem xn{o:World}{av:Nat}{g:am}{s:aj}{c:eX}(e:o.heap[av]? =some (.cells (j9 g s c).toArray 288 (0,0))){k:Nat}(aa:k<2){view:Int}{a:Option Addr}{m:List (Int×Value)}(f:c.o3 k= .pointer a)(d:dE 334 o a m):Calls prog 273 #[ab av,.int .i64 (k+1:Nat),ad view] o λr w=>r=(aZ m view).getD tt/\C o [] [] w:=by
 have b:Own [] o:=C.start o;refine a2 func273 (bq 7 j j j (AH k aa) (aq 2 j (rr j j j j aa ?_)));refine al 0 j (aw (b.cg e) ((z7 g s c aa).trans (aH some f))) ?_;have h:=Ew (k:=view) d;refine bo 1 h j (λw i=>?_);have b:=b.aM i;exact ao 9 j j ⟨j,b.bare⟩
theorem r3{o:World}{av:Nat}{g:am}{s:aj}{c:eX}{v:aF}{k:Nat}(aa:k<2)(an:v.k=(k+1:Nat))(x:v.ok){t:List (Int×List aF)}{a7:List Chunk}{N:Nat}(az:fs 334 il (c.o3 k) t a7)(aE:∀p∈t,fO g N p.2)(aL:N<=1000000)(a:Own [bd g av s c,a7] o):Calls prog 240 #[ab av,.agg v.cs.toArray] o λr w=>r= .tuple #[]/\∃V,fs 334 il (c.o3 k) (b9 t v.v (iU ((aZ t v.v).getD []) v)) V/\C o (au [bd g av s c,a7]) [bd g av s c,V] w:=by
 obtain⟨d,ah,I,m,H,J,hm,ai,rfl⟩:=az;obtain⟨e,X⟩:∃e,e=au [bd g av s c,ax 334 d ah I++H]:=⟨_,j⟩;rw [<-X];have a:C o e [bd g av s c,ax 334 d ah I++H] o:=X▸a;have a:C o e [bd g av s c,ax 334 d ah I,H] o:=a.perm (by simp);refine a2 func240 (bM 2 a j j (λq w a=>?_));have a:C o e [R q v.cs.toArray 115,bd g av s c,ax 334 d ah I,H] w:=a;refine al 4 j (aw (C.ak a) v.g1) (bS 7 (.int .i64 (k+1:Nat)) j (aH (Value.int .i64) an) (al 1 j (aw (C.ak a) v.dv) ?_));have z:=xn (av:=av) (s:=s) (g:=g) (c:=c) (C.ak a) aa J (dE.own (a.to (ax 334 d ah I)) hm) (view:=v.v);refine bo 0 z j (λw B=>?_);have a:=a.aM B;obtain⟨c5,aB,Z⟩:=xm ai v.v;refine bS 10 (.pointer c5) j aB (bm 6 j j (λF=>?_) (λF=>?_));refine aq 2 j (cP (c:= #[.slice none 0 0]) j j j (λ_=>by kernel_rfl) ?_);refine bM 0 a j j (λy w a=>?_);have a:C o e ([jG y (.slice none 0 0)]::_) w:=a;have a:C o e [R q v.cs.toArray 115,bd g av s c,ax 334 d ah I,H,[jG y (.slice none 0 0)]] w:=a.as;have a:=a.drew;refine bw 1 j (λw=>∃ae,C o e ([R q v.cs.toArray 115,bd g av s c]++ae) w) ⟨_,a⟩ (af 0 2 j (a8 2 j a1 v.g1 (aT 3 j (λw⟨_,a⟩=>dq j j (show evalBin .sub .i64 v.k 1=some (.int .i64 (k:Int)) by rw [an];exact AH k aa)) (af 4 2 j (aT 6 j (λw⟨_,a⟩=>wv j j aa) (a8 7 j a1 ((z7 g s c aa).trans (aH some J)) (af 8 1 j (a8 9 j a1 v.dv (af 10 1 j (aU 11 j ?_))))))))));have z:=HD (k:=v.v) (v:=ab y) (a.ours (cI:=[ax 334 d ah I])) hm;refine bF j j j z (λw⟨T,aC,B⟩=>?_);have a:=a.b3 B;have a:C o e [R q v.cs.toArray 115,bd g av s c,ax 334 d ah T,H,[jG y (.slice none 0 0)]] w:=a.as;refine ar ⟨⟨_,a⟩,?_⟩;refine bK ?_
 have ac:aZ t v.v=none:=by
  rcases Z with h|⟨_,_,_,_,_,_,rfl,_⟩
  .exact h.2
  .cases F
 obtain⟨bg,aA⟩:∃bg,bg=y:=⟨_,j⟩;subst aA
 obtain⟨u,l,ag,H1,n,S,i,P,G,M,O,Q,a⟩:∃u l ag H1 n S i,cc bL i S/\er u l ag/\(aZ t v.v).getD []=l/\fO g N l/\(∀b0 K D,er K b0 D->c6 il S (b9 t v.v b0) (H1++((jG bg K::D)++n)))/\C o e [R q v.cs.toArray 115,R bg #[u] 387,bd g av s c,ax 334 d ah i,H1,ag,n] w:=
  ⟨.slice none 0 0,[],[],H,[],_,T,aC,Row.nil _ _,by rw [ac];rfl,fO.nil g N,λb0 K D ay=>by rw [gY];exact ai.add ac ⟨bg,K,D,j,ay,j⟩,C.perm (A:=[R q v.cs.toArray 115,[jG bg (.slice none 0 0)],bd g av s c,ax 334 d ah T,H]) a.as (by simp)⟩
 refine bN 4 (U:=aG v.sum) j j (by rw [ds];exact x.1) (v.sX x (C.ak a)) ?_;rotate_left
 obtain⟨bg,u,l,ag,H1,n,rfl,ad,G,ap,Q⟩:=Z.resolve_left (λh=>by rw [h.1] at F;cases F);rw [ap] at a;have a:C o e [ax 334 d ah I,R q v.cs.toArray 115,bd g av s c,H1,R bg #[u] 387,ag,n] w:=C.perm (A:=[ax 334 d ah I,R q v.cs.toArray 115,bd g av s c,H1++((jG bg u::ag)++n)]) a.as (by simp);have a:C o e [R q v.cs.toArray 115,R bg #[u] 387,bd g av s c,ax 334 d ah I,H1,ag,n] w:=a.as;have M:(aZ t v.v).getD []=l:=by rw [ad];rfl
 have O:fO g N l:=aE _ (hF ad);obtain⟨i,P,a⟩:∃i,cc bL i m/\C o e [R q v.cs.toArray 115,R bg #[u] 387,bd g av s c,ax 334 d ah i,H1,ag,n] w:=⟨I,hm,a⟩;refine bN 5 (U:=aG v.sum) j j (by rw [ds];exact x.1) (v.sX x (C.ak a)) ?_;rotate_left
 all_goals
  refine al 1 j (aw (C.ak a) (v.eS x)) ?_;have z:=EF (f:=v.f) (gj.ofRow G (C.ak (b:=bg) a) (a.holds (by simp))) O.ok x.1;refine bo 0 z j (λw B=>?_);have a:=a.aM B;refine bm 1 j j (λL=>?_) (λL=>?_)
  .have a:C o e [R q v.cs.toArray 115,R bg #[u] 387,bd g av s c,ax 334 d ah i,H1,ag,n] w:=a.as;have a:=a.drew;have hlen:=O.len;refine bw 0 j (λw=>∃ae,C o e ([R q v.cs.toArray 115,R bg #[u] 387]++ae) w) ⟨_,a⟩ (af 0 4 j (a8 4 j a1 j (aT 5 j (λw⟨_,a⟩=>c3 (U:=v.cs) j j (v.len x) (bp (C.ak a))) (aU 6 j (gC (U:=v.cs) a j j j (v.len x) (by decide) (by decide) (λW w a=>?_))))));have aJ:=bp (C.ak (b:=W) a);have a:C o e [R q v.cs.toArray 115,R bg #[u] 387,R W v.cs.toArray 115,bd g av s c,ax 334 d ah i,H1,ag,n] w:=a.as;refine ar ⟨⟨_,a⟩,?_⟩;refine aU 7 j (d9 (a.to ag) G j j (by decide) j j j (news:=v.cs) (v.len x) aJ (List.all_eq_true.1 v.one) (by omega) (by unfold maxLen;omega) (λv1 E w Y a=>?_));have a:C o e [R q v.cs.toArray 115,R bg #[u] 387,bd g av s c,ax 334 d ah i,H1,E,n] w:=a.as;refine ar ⟨⟨_,a⟩,?_⟩;refine af 8 2 j (dy 10 j (cC (a.bc bg) j j j Y.one bJ (λw a=>?_)));have a:C o e ([jG bg v1]::_) w:=a;have a:C o e [bd g av s c,ax 334 d ah i,H1,[jG bg v1],E,n] w:=a.as;refine ar (cX (ao 0 j j ?_));have aD:pe l v.sum v.f=false:=by simpa using L
   refine⟨j,ax 334 d ah i++(H1++((jG bg v1::E)++n)),⟨d,ah,i,_,_,J,P,?_,j⟩,C.perm (A:=[bd g av s c,ax 334 d ah i,H1,[jG bg v1],E,n]) a (by simp)⟩;rw [M];unfold iU;rw [aI (by rw [aD];decide)];refine Q _ _ _ ?_;unfold er;rw [b4,List.length_singleton,tk];exact Y
  refine ao 1 j j ?_;have aK:pe l v.sum v.f=true:=by simpa using L
  have a:C o e [bd g av s c,ax 334 d ah i,H1,[jG bg u],ag,n] w:=a.as;refine⟨j,ax 334 d ah i++(H1++((jG bg u::ag)++n)),⟨d,ah,i,_,_,J,P,?_,j⟩,C.perm (A:=[bd g av s c,ax 334 d ah i,H1,[jG bg u],ag,n]) a (by simp)⟩;rw [M];unfold iU;rw [a6 aK];exact Q _ _ _ G
theorem A7{o:World}{av:Nat}{g:am}{s:aj}{c:eX}{k:Nat}(aa:k<2){t:List (Int×List aF)}{a7:List Chunk}{N:Nat}{A:Option Addr}{x:List UInt8}{hp:Nat}(M:fs 334 il (c.o3 k) t a7)(O:∀p∈t,fO g N p.2)(L:N<=1000000)(a:Own [bd g av s c,a7] o)(D:g.at o)(E:g.ok)(z:g.off (au [bd g av s c,a7]))(P:Rd o A (aG x))(H:bX A (aG x) (au [bd g av s c,a7]))(S:x.length<=10000)(Q:x.length<=hp):Calls prog 279 #[ab av,.int .i64 (k+1:Nat),.slice A x.length hp] o λr w=>∃n be,cz r (s.aE g (k+1:Nat) x).2 be/\fs 334 il (c.o3 k) (b9 t s.view (iU ((aZ t s.view).getD []) (cS g (k+1:Nat) s.slot s.view (bO x) s.an))) n/\C o (au [bd g av s c,a7]) [bd g av s c,n,be] w:=by
 obtain⟨d,K⟩:∃d,d=au [bd g av s c,a7]:=⟨_,j⟩;rw [<-K] at z H⊢;have a:C o d [bd g av s c,a7] o:=K▸a;have m:(cS g (k+1:Nat) s.slot s.view (bO x) s.an).ok:=iX _ _ _ _ _ _ (e7 _);refine a2 func279 ?_;have a:=a.drew;refine bw 4 j (λw=>∃ae,C o d ([bd g av s c]++ae) w) ⟨_,a⟩ (af 0 3 j (a8 3 j a1 j (af 4 4 j (a8 8 j a1 j (af 9 3 j (a8 12 j a1 j (af 13 1 j (af 15 3 j (a8 18 j a1 j (aO 14 20 j j ?_ ?_))))))))))
 .have h:=nH (p:=x) (a.rd P H) (by omega) Q;refine cN j j j h (λr w⟨u,i⟩=>?_);have u:r= .agg (aG (bO x)).toArray:=u;subst u;have a:=a.aM i;have a:C o d ([bd g av s c,a7]) w:=a.as;refine ar ⟨⟨_,a⟩,?_⟩;refine aO 19 20 j j ?_ ?_;have h:=o6 (D.st a z) E (k:=(k+1:Nat)) (s:=s.slot) (v:=s.view) (f:=s.an) (e7 x);refine bF j j j h (λw i=>?_);have a:=a.aM i;have a:C o d ([bd g av s c,a7]) w:=a.as;refine ar ⟨⟨_,a⟩,?_⟩;refine aU 20 j (ex a j j (λe w a=>?_));obtain⟨l,a,B⟩:∃l:Array Value,C o d (R e l 115::_) w/\l.size=68:=⟨_,a,j⟩;have a:C o d [bd g av s c,a7,R e l 115] w:=a.as;rotate_left
  refine ex a j j (λe w a=>?_);obtain⟨l,a,B⟩:∃l:Array Value,C o d (R e l 115::_) w/\l.size=68:=⟨_,a,j⟩;have a:C o d [bd g av s c,a7,R e l 115] w:=a.as;refine ar ⟨⟨_,a⟩,?_⟩;refine aU 19 j ?_;have h:=o6 (D.st a z) E (k:=(k+1:Nat)) (s:=s.slot) (v:=s.view) (f:=s.an) (e7 x);refine bF j j j h (λw i=>?_);have a:=a.aM i;have a:C o d ([bd g av s c,a7,R e l 115]) w:=a.as;rotate_left
  all_goals
   refine ar ⟨⟨_,a⟩,?_⟩;refine dy 21 j (c4 (a.bc e) j j j (by simpa using(cS g (k+1:Nat) s.slot s.view (bO x) s.an).one) (by rw [List.size_toArray];exact(cS g (k+1:Nat) s.slot s.view (bO x) s.an).len m) (by rw [B];decide) (λw a=>?_));have a:=C.whole (U:=(cS g (k+1:Nat) s.slot s.view (bO x) s.an).cs) a (by rw [(cS g (k+1:Nat) s.slot s.view (bO x) s.an).len m];exact B);have a:C o d [bd g av s c,a7,R e (cS g (k+1:Nat) s.slot s.view (bO x) s.an).cs.toArray 115] w:=a.as;refine ar (cX (bN 3 (U:=(cS g (k+1:Nat) s.slot s.view (bO x) s.an).cs) j j ((cS g (k+1:Nat) s.slot s.view (bO x) s.an).len m) (bp (C.ak a)) ?_));have h:=r3 (av:=av) (s:=s) (c:=c) aa (show(cS g (k+1:Nat) s.slot s.view (bO x) s.an).k=_ from j) m M O L a.ours;refine bo 0 h j (λw⟨n,G,i⟩=>?_);have a:=a.b3 i;have a:C o d [bd g av s c,R e (cS g (k+1:Nat) s.slot s.view (bO x) s.an).cs.toArray 115,n] w:=a.as;have a:=a.drew;refine bw 1 j (λw=>∃ae,C o d ([bd g av s c,R e (cS g (k+1:Nat) s.slot s.view (bO x) s.an).cs.toArray 115]++ae) w) ⟨_,a⟩ (af 0 4 j (a8 4 j a1 j (aT 5 j (λw⟨_,a⟩=>c3 (U:=(cS g (k+1:Nat) s.slot s.view (bO x) s.an).cs) j j ((cS g (k+1:Nat) s.slot s.view (bO x) s.an).len m) (bp (C.ak a))) (aU 6 j (gC (U:=(cS g (k+1:Nat) s.slot s.view (bO x) s.an).cs) a j j j ((cS g (k+1:Nat) s.slot s.view (bO x) s.an).len m) (by decide) (by decide) (λq w a=>?_))))));have a:C o d [bd g av s c,R e (cS g (k+1:Nat) s.slot s.view (bO x) s.an).cs.toArray 115,R q (cS g (k+1:Nat) s.slot s.view (bO x) s.an).cs.toArray 115,n] w:=a.as;refine ar ⟨⟨_,a⟩,?_⟩;refine aT 7 j (λw _=>e1 (c:=(⟨3,0,0,0,s.view,none,[],0,some ⟨q,0,none⟩,[(cS g (k+1:Nat) s.slot s.view (bO x) s.an)],1,cL⟩:aB).cs.toArray) j (λ_=>by kernel_rfl)) (aU 8 j ?_);have I:(⟨3,0,0,0,s.view,none,[],0,some ⟨q,0,none⟩,[(cS g (k+1:Nat) s.slot s.view (bO x) s.an)],1,cL⟩:aB).ok _:=⟨Rd.nil _ _,by have:=bp (C.ak (b:=q) a);simpa using this,by intro y J;rw [List.mem_singleton.1 J];exact m,j⟩;have h:=ug (av:=av) (s:=s) (c:=c) (C.ak a) (D.st a z) E I (b6 _) bJ;refine cN j j j h (λr w⟨be,F,i⟩=>?_);have a:=a.aM i;have a:C o d [bd g av s c,R e (cS g (k+1:Nat) s.slot s.view (bO x) s.an).cs.toArray 115,n,be] w:=a.as;refine ar ⟨⟨_,a⟩,?_⟩;exact af 9 1 j (bK (ao 0 j j ⟨n,be,F,G,a.as⟩))
 refine ex a j j (λe w a=>?_);obtain⟨l,a,B⟩:∃l:Array Value,C o d (R e l 115::_) w/\l.size=68:=⟨_,a,j⟩;have a:C o d [bd g av s c,a7,R e l 115] w:=a.as;refine ar ⟨⟨_,a⟩,?_⟩;refine aU 14 j ?_;have h:=nH (p:=x) (a.rd P H) (by omega) Q;refine cN j j j h (λr w⟨u,i⟩=>?_);have u:r= .agg (aG (bO x)).toArray:=u;subst u;have a:=a.aM i;have a:C o d ([bd g av s c,a7,R e l 115]) w:=a.as;refine ar ⟨⟨_,a⟩,?_⟩;refine aU 19 j ?_;have h:=o6 (D.st a z) E (k:=(k+1:Nat)) (s:=s.slot) (v:=s.view) (f:=s.an) (e7 x);refine bF j j j h (λw i=>?_);have a:=a.aM i;have a:C o d ([bd g av s c,a7,R e l 115]) w:=a.as;refine ar ⟨⟨_,a⟩,?_⟩;refine dy 21 j (c4 (a.bc e) j j j (by simpa using(cS g (k+1:Nat) s.slot s.view (bO x) s.an).one) (by rw [List.size_toArray];exact(cS g (k+1:Nat) s.slot s.view (bO x) s.an).len m) (by rw [B];decide) (λw a=>?_));have a:=C.whole (U:=(cS g (k+1:Nat) s.slot s.view (bO x) s.an).cs) a (by rw [(cS g (k+1:Nat) s.slot s.view (bO x) s.an).len m];exact B);have a:C o d [bd g av s c,a7,R e (cS g (k+1:Nat) s.slot s.view (bO x) s.an).cs.toArray 115] w:=a.as;refine ar (cX (bN 3 (U:=(cS g (k+1:Nat) s.slot s.view (bO x) s.an).cs) j j ((cS g (k+1:Nat) s.slot s.view (bO x) s.an).len m) (bp (C.ak a)) ?_));have h:=r3 (av:=av) (s:=s) (c:=c) aa (show(cS g (k+1:Nat) s.slot s.view (bO x) s.an).k=_ from j) m M O L a.ours;refine bo 0 h j (λw⟨n,G,i⟩=>?_);have a:=a.b3 i;have a:C o d [bd g av s c,R e (cS g (k+1:Nat) s.slot s.view (bO x) s.an).cs.toArray 115,n] w:=a.as;have a:=a.drew;refine bw 1 j (λw=>∃ae,C o d ([bd g av s c,R e (cS g (k+1:Nat) s.slot s.view (bO x) s.an).cs.toArray 115]++ae) w) ⟨_,a⟩ (af 0 4 j (a8 4 j a1 j (aT 5 j (λw⟨_,a⟩=>c3 (U:=(cS g (k+1:Nat) s.slot s.view (bO x) s.an).cs) j j ((cS g (k+1:Nat) s.slot s.view (bO x) s.an).len m) (bp (C.ak a))) (aU 6 j (gC (U:=(cS g (k+1:Nat) s.slot s.view (bO x) s.an).cs) a j j j ((cS g (k+1:Nat) s.slot s.view (bO x) s.an).len m) (by decide) (by decide) (λq w a=>?_))))));have a:C o d [bd g av s c,R e (cS g (k+1:Nat) s.slot s.view (bO x) s.an).cs.toArray 115,R q (cS g (k+1:Nat) s.slot s.view (bO x) s.an).cs.toArray 115,n] w:=a.as;refine ar ⟨⟨_,a⟩,?_⟩;refine aT 7 j (λw _=>e1 (c:=(⟨3,0,0,0,s.view,none,[],0,some ⟨q,0,none⟩,[(cS g (k+1:Nat) s.slot s.view (bO x) s.an)],1,cL⟩:aB).cs.toArray) j (λ_=>by kernel_rfl)) (aU 8 j ?_);have I:(⟨3,0,0,0,s.view,none,[],0,some ⟨q,0,none⟩,[(cS g (k+1:Nat) s.slot s.view (bO x) s.an)],1,cL⟩:aB).ok _:=⟨Rd.nil _ _,by have:=bp (C.ak (b:=q) a);simpa using this,by intro y J;rw [List.mem_singleton.1 J];exact m,j⟩;have h:=ug (av:=av) (s:=s) (c:=c) (C.ak a) (D.st a z) E I (b6 _) bJ;refine cN j j j h (λr w⟨be,F,i⟩=>?_);have a:=a.aM i;have a:C o d [bd g av s c,R e (cS g (k+1:Nat) s.slot s.view (bO x) s.an).cs.toArray 115,n,be] w:=a.as;refine ar ⟨⟨_,a⟩,?_⟩;exact af 9 1 j (bK (ao 0 j j ⟨n,be,F,G,a.as⟩))
end Go.Proofs.YtdomoelfhjdioaaGreatDoor.R
