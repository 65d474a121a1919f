/- Part 3 of the proof. -/
import Derived.Test.YtmholjbhjcpkhaaGreatDoorM2
set_option linter.unusedVariables false
set_option linter.unusedSimpArgs false
set_option linter.unusedSectionVars false
set_option maxRecDepth 20000
set_option maxHeartbeats 4000000
namespace Go.Proofs.YtmholjbhjcpkhaaGreatDoor.R
open Go.Proofs.Tryz Go Go.RowKit Go.Proofs
theorem ft.aj{g:al}{av:Nat}{s:ai}{G:List Chunk}{w:World}(h:ft g av s G)(a:Holds w G):∃c,w.heap[av]? =some (.cells (jP g s c).toArray 284 (0,0)):=by
 obtain⟨c,af,aB,bn,cw,cb,bX,bT,cd,b6,b5,b,rfl⟩:=h;exact⟨c,a.left.head⟩
section
variable {P:Program} {n:Fr} {Z:Env} {w:World} {Q:d7} {ops:Array Oper} {rest:List Oper} {dst:Option Nat} {ty:TypeId} {pos:String} {after:Array Edge} {g:Option (Nat×Bool)}
theorem m5{t:TypeId}{f:Array TypeId}{args:Array Operand}{z:Value}{bytes:Nat}{o:World}{F:List Nat}{c2 a1:List Chunk}{ae:List (List Chunk)}{v1 v2:Value}{dG b:List aY}
 [hu:bC P t (.slice 101)] [L:cq P 101 z 39 bytes] (v:C o F (c2::a1::ae) w) (m:cC v1 dG c2) (p:cC v2 b a1) (G:f= #[t,t]) (I:z.cells.size=39) (y:bytes<=1000)
 (D:c0 ops Z g=some true) (B:da n dst=true) (H:fl Z args.toList=some [v1,v2]) (e:dG.length+b.length<=1000000000)
 (h:∀v3 bn aJ,cC v3 (dG++b) bn->C o F (bn::ae) aJ->O P n ops rest (cK Z dst v3) aJ Q):O P n ops (⟨dst,.call ⟨.builtin .append,args,f⟩,ty,pos,after,g⟩::rest) Z w Q:=by
 obtain⟨J,rfl,i,eM,rfl,s,q⟩:=m;obtain⟨be,rfl,k,fI,rfl,u,c⟩:=p;rw [fa,fa] at e;have d:C o F (i::eM::k::fI::ae) w:=v.perm (by simp);obtain⟨K,dy,rfl,_,_,E,_⟩:=u.read (d.holds (by simp));refine e6 d s G I (by decide) D B H (news:=fN be) (xz be c.tag) E (um be) ?_ ?_ (λv3 a aJ r x=>?_)
 .have:=q6 e y;omega
 .unfold maxLen;omega
 .refine h v3 (a++(eM++fI)) aJ ⟨J++be,by simp,a,eM++fI,j,?_,q.app c⟩ (C.perm (A:=a::eM::fI::ae) (x.f2.drop.f1|>λh=>?_) (by simp))
  .rw [cj,pJ];exact r
  .exact h.i6 (by
    have l:List.Perm (eM::a::fI::ae) (a::eM::fI::ae):=.swap ..;first|exact l|exact .refl _)
end
theorem ai.tA(g:al)(s:ai)(m:aY):(s.all g m).length<=g.n:=by unfold ai.all;rw [List.length_map];exact yP _ _
theorem ai.Eo(s:ai):s.left<=4:=by unfold ai.left;split<;>split<;>split<;>split<;>omega
theorem ai.zy{g:al}{s:ai}{r:ai×List aY}(h:s.gG g=some r)(b:s.dec=false):r.1.left<s.left/\r.2.length<=g.n:=by
 unfold ai.gG at h;cases a:(cW s.aC).findSome? λp=>s.fS g p.2 with
 |none=>rw [a] at h;cases h
 |some y=>
  rw [a] at h;cases h;refine⟨?_,cp _⟩;unfold ai.left ai.gD;rw [b];simp
theorem ai.ve{g:al}{s:ai}{r:ai×List aY}(h:s.fP g=some r):r.1.left<s.left/\r.2.length<=g.n:=by
 unfold ai.fP at h;split at h
 .cases h
 .split at h
  .cases h
  .split at h
   .cases h;refine⟨?_,ai.tA _ _ _⟩;rw [z4];unfold ai.left;dsimp only;rw [az (show¬s.view<s.view by omega),aR (show s.iv<s.view by omega)];omega
   .cases h
theorem ai.tT{g:al}{s:ai}{r:ai×List aY}(h:s.gv g=some r):r.1.left<s.left/\r.2.length<=g.n:=by
 unfold ai.gv at h;split at h
 .cases h
 .split at h
  .cases h
  .cases h;refine⟨?_,ai.tA _ _ _⟩;rw [z5];unfold ai.left;dsimp only;rw [az (show¬s.view<s.view by omega),aR (show s.comm<s.view by omega)];omega
theorem ai.vf{g:al}{s:ai}{r:ai×List aY}(h:s.gh g=some r):r.1.left<s.left/\r.2.length<=g.n:=by
 unfold ai.gh at h;split at h
 .cases h
 .rename_i aT;split at h
  .cases h
  .cases h;refine⟨?_,ai.tA _ _ _⟩
   have a:s.prop<s.view:=by
    by_cases h:s.prop<s.view
    .exact h
    .exact absurd (.inr (by omega)) aT
   dsimp only;rw [ai.p6];unfold ai.left;dsimp only;rw [az (show¬s.view<s.view by omega),aR a];omega
theorem r9{I:Option (ai×List aY)}{k:Nat}(h:∀r,I=some r->r.2.length<=k):((I.map Prod.snd).getD []).length<=k:=by
 cases I with
 |none=>exact cp _
 |some r=>exact h r j
theorem ai.GP{g:al}{s:ai}{r:ai×List aY}(h:s.gG g=some r):s.step g=some r:=by unfold ai.step;rw [h]
theorem ai.GQ{g:al}{s:ai}{r:ai×List aY}(a:s.gG g=none)(h:s.fP g=some r):s.step g=some r:=by unfold ai.step;rw [a];dsimp only;rw [h]
theorem ai.GR{g:al}{s:ai}{r:ai×List aY}(a:s.gG g=none)(b:s.fP g=none)(h:s.gv g=some r):s.step g=some r:=by unfold ai.step;rw [a];dsimp only;rw [b];dsimp only;rw [h]
theorem ai.zE{g:al}{s:ai}(a:s.gG g=none)(b:s.fP g=none)(c:s.gv g=none):s.step g=s.gh g:=by unfold ai.step;rw [a];dsimp only;rw [b];dsimp only;rw [c]
theorem ai.un{g:al}{n:Nat}{s:ai}{l:List aY}(h:s.dec=true):ai.go g n s l=(s,l):=by
 cases n with
 |zero=>rfl
 |succ n=>unfold ai.go;rw [if_pos h]
theorem ai.Du{g:al}{n:Nat}{s:ai}{l:List aY}(h:s.step g=none):ai.go g n s l=(s,l):=by
 cases n with
 |zero=>rfl
 |succ n=>
  unfold ai.go;split
  .rfl
  .rw [h]
theorem ai.rN{g:al}{n:Nat}{s:ai}{l:List aY}{r:ai×List aY}(a:s.dec=false)(h:s.step g=some r):ai.go g (n+1) s l=ai.go g n r.1 (l++r.2):=by
 rw [ai.go,az (by rw [a];decide),h]
theorem lD{o:World}{av:Nat}{g:al}{s:ai}{G:List Chunk}(ao:ft g av s G){N:Nat}(aB:s.ok g N)(aC:N+5<=1000000)(S:g.at o)(f:g.ok)(M:g.off (au [G]))(a:Own [G] o):Calls prog 188 #[aa av] o λr w=>∃bj af,cC r (s.steps g).2 bj/\ft g av (s.steps g).1 af/\C o (au [G]) [af,bj] w:=by
 obtain⟨O,ad⟩:∃O,O=au [G]:=⟨_,j⟩;rw [<-ad] at M⊢;have a:C o O [G] o:=ad▸a;refine a6 func188 ?_
 refine dj 11 j (cU:=Bool×Nat×ai×List aY×Value×List Chunk×List Chunk×Nat) (λi=>[(0,aa av),(3,i.2.2.2.2.1),(4,.bool i.1)])
  (λi w=>i.2.2.1.ok g i.2.2.2.2.2.2.2/\i.2.2.2.2.2.2.2+i.2.1<=N+5/\i.2.2.2.1.length+10*i.2.1<=50/\ft g av i.2.2.1 i.2.2.2.2.2.1/\cC i.2.2.2.2.1 i.2.2.2.1 i.2.2.2.2.2.2.1/\(if i.1=true then i.2.2.1.left<i.2.1/\s.steps g=ai.go g i.2.1 i.2.2.1 i.2.2.2.1 else s.steps g=(i.2.2.1,i.2.2.2.1))/\C o O [i.2.2.2.2.2.1,i.2.2.2.2.2.2.1] w) (λi=>2*i.2.1+(if i.1=true then 1 else 0)) (true,5,s,[],.slice none 0 0,G,[],N) ⟨j,j,j,bb⟩ ⟨aB,cF _,cF _,ao,cC.nil,by rw [aR j];exact⟨by have:=s.Eo;dsimp only;omega,j⟩,a.empty.f1⟩ ?_
 rintro⟨again,i2,s1,dG,v1,W,z,P⟩ w ⟨y,ae,ah,Q,A,e,a⟩;dsimp only at y ae ah Q A e a⊢;obtain⟨c,ap⟩:=Q.aj (a.holds (by simp));refine aq 5 j (c9 10 j (λT=>?_) (λT=>?_))
 .refine ar 3 j (ax ap j) (bo 2 j j (λX=>?_) (λX=>?_))
  .refine aq 8 j (gI j j j j ?_);refine aq 1 j (gI j j j j ?_);refine aq 1 j (gI j j j j ?_);refine aq 1 j (gI j j j j ?_);refine fx a j j j j j j bO (λac w a=>?_);have K:again=true:=T;rw [aR K] at e;have B:s1.dec=false:=by simpa using X
   refine dj 3 j (cU:=Nat×List Chunk) (λk=>[(0,aa av),(3,v1),(4,.bool false),(25,.slice (some ⟨ac,0,none⟩) 4 4),(26,.int .i64 (4:Nat)),(27,.int .i64 (k.1:Nat))])
    (λk w=>k.1<=4/\ft g av s1 k.2/\(1<=k.1->s1.gG g=none)/\(2<=k.1->s1.fP g=none)/\(3<=k.1->s1.gv g=none)/\(4<=k.1->s1.gh g=none)/\C o O [k.2,z,[(ac,.cells #[.func (.func 232) #[aa av] #[],.func (.func 233) #[aa av] #[],.func (.func 234) #[aa av] #[],.func (.func 235) #[aa av] #[]] 357 (0,0))]] w) (λk=>4-k.1) (0,W) ⟨j,j,j,j,j,j,bb⟩ ⟨cp _,Q,λh=>by dsimp only at h;omega,λh=>by dsimp only at h;omega,λh=>by dsimp only at h;omega,λh=>by dsimp only at h;omega,a.as⟩ ?_
   rintro⟨i,ak⟩ w ⟨aw,J,D,L,U,ag,a⟩;dsimp only at aw J D L U ag a⊢;have V:=S.st a M;refine cy 4 j j (λam=>?_) (λam=>?_)
   .refine aq 5 j ?_;have aA:i=0\/i=1\/i=2\/i=3:=by omega
    rcases aA with rfl|rfl|rfl|rfl
    .refine hy (R:=0) j j j j (by decide) (ar 0 j (ax (C.aj a) j) ?_);have H:=GH J y (by omega) V f (a.eE S M) a.ours;refine aq 4 j (hx j j j j H (λr w⟨v2,E,t,m,F,d,I⟩=>?_));subst m;have a:=a.b1 I;refine bo 8 j j (λl=>?_) (λl=>?_)
     .have ab:((Option.map Prod.snd (s1.gG g)).getD []).length<=g.keys.length:=r9 (λr m=>(ai.zy m B).2);have Y:=f.n10;refine aq 4 j (m5 (dG:=dG) (a.front (cM:=[z,E])) A F j j (by decide) j j j (by omega) (λv3 bn w u a=>?_));refine bW 5 j ?_;obtain⟨b,p⟩:∃b,s1.gG g=some b:=g8.1 l;have q:s1.step g=some b:=ai.GP p;have v:=ai.zy p B;rw [p] at u d;obtain⟨n,rfl⟩:∃k,i2=k+1:=⟨i2-1,by have:=e.1;omega⟩;have Z:b.2.length<=10:=ej v.2 f.n10;refine⟨(true,n,b.1,dG++b.2,v3,t,bn,P+1),⟨j,j,j,bb⟩,⟨y.step f q,by dsimp only;omega,by dsimp only;rw [cj];omega,d,u,?_,a.as⟩,by dsimp only;rw [if_pos j,if_pos K];omega⟩;dsimp only;rw [aR j];exact⟨by have:=e.1;have:=v.1;omega,e.2.trans (ai.rN B q)⟩
     refine bE 2 j j j (gX _ 1 (by decide)) (bW 1 j ?_);have x:s1.gG g=none:=by simpa using l
     rw [x] at d;refine⟨(0+1,t),⟨j,j,j,j,j,j,bb⟩,⟨by dsimp only;omega,d,λ_=>x,λh=>by dsimp only at h;omega,λh=>by dsimp only at h;omega,λh=>by dsimp only at h;omega,a.as⟩,by dsimp only;omega⟩
    .refine hy (R:=1) j j j j (by decide) (ar 0 j (ax (C.aj a) j) ?_);have H:=FM J y (by omega) V f (a.eE S M) a.ours;refine aq 4 j (hx j j j j H (λr w⟨v2,E,t,m,F,d,I⟩=>?_));subst m;have a:=a.b1 I;refine bo 8 j j (λl=>?_) (λl=>?_)
     .have ab:((Option.map Prod.snd (s1.fP g)).getD []).length<=g.keys.length:=r9 (λr m=>(ai.ve m).2);have Y:=f.n10;refine aq 4 j (m5 (dG:=dG) (a.front (cM:=[z,E])) A F j j (by decide) j j j (by omega) (λv3 bn w u a=>?_));refine bW 5 j ?_;obtain⟨b,p⟩:∃b,s1.fP g=some b:=g8.1 l;have q:s1.step g=some b:=ai.GQ (D (by decide)) p;have v:=ai.ve p;rw [p] at u d;obtain⟨n,rfl⟩:∃k,i2=k+1:=⟨i2-1,by have:=e.1;omega⟩;have Z:b.2.length<=10:=ej v.2 f.n10;refine⟨(true,n,b.1,dG++b.2,v3,t,bn,P+1),⟨j,j,j,bb⟩,⟨y.step f q,by dsimp only;omega,by dsimp only;rw [cj];omega,d,u,?_,a.as⟩,by dsimp only;rw [if_pos j,if_pos K];omega⟩;dsimp only;rw [aR j];exact⟨by have:=e.1;have:=v.1;omega,e.2.trans (ai.rN B q)⟩
     refine bE 2 j j j (gX _ 1 (by decide)) (bW 1 j ?_);have x:s1.fP g=none:=by simpa using l
     rw [x] at d;refine⟨(1+1,t),⟨j,j,j,j,j,j,bb⟩,⟨by dsimp only;omega,d,λ_=>D (by decide),λ_=>x,λh=>by dsimp only at h;omega,λh=>by dsimp only at h;omega,a.as⟩,by dsimp only;omega⟩
    .refine hy (R:=2) j j j j (by decide) (ar 0 j (ax (C.aj a) j) ?_);have H:=Ct J y (by omega) V f (a.eE S M) a.ours;refine aq 4 j (hx j j j j H (λr w⟨v2,E,t,m,F,d,I⟩=>?_));subst m;have a:=a.b1 I;refine bo 8 j j (λl=>?_) (λl=>?_)
     .have ab:((Option.map Prod.snd (s1.gv g)).getD []).length<=g.keys.length:=r9 (λr m=>(ai.tT m).2);have Y:=f.n10;refine aq 4 j (m5 (dG:=dG) (a.front (cM:=[z,E])) A F j j (by decide) j j j (by omega) (λv3 bn w u a=>?_));refine bW 5 j ?_;obtain⟨b,p⟩:∃b,s1.gv g=some b:=g8.1 l;have q:s1.step g=some b:=ai.GR (D (by decide)) (L (by decide)) p;have v:=ai.tT p;rw [p] at u d;obtain⟨n,rfl⟩:∃k,i2=k+1:=⟨i2-1,by have:=e.1;omega⟩;have Z:b.2.length<=10:=ej v.2 f.n10;refine⟨(true,n,b.1,dG++b.2,v3,t,bn,P+1),⟨j,j,j,bb⟩,⟨y.step f q,by dsimp only;omega,by dsimp only;rw [cj];omega,d,u,?_,a.as⟩,by dsimp only;rw [if_pos j,if_pos K];omega⟩;dsimp only;rw [aR j];exact⟨by have:=e.1;have:=v.1;omega,e.2.trans (ai.rN B q)⟩
     refine bE 2 j j j (gX _ 1 (by decide)) (bW 1 j ?_);have x:s1.gv g=none:=by simpa using l
     rw [x] at d;refine⟨(2+1,t),⟨j,j,j,j,j,j,bb⟩,⟨by dsimp only;omega,d,λ_=>D (by decide),λ_=>L (by decide),λ_=>x,λh=>by dsimp only at h;omega,a.as⟩,by dsimp only;omega⟩
    refine hy (R:=3) j j j j (by decide) (ar 0 j (ax (C.aj a) j) ?_);have H:=FO J y (by omega) V f (a.eE S M) a.ours;refine aq 4 j (hx j j j j H (λr w⟨v2,E,t,m,F,d,I⟩=>?_));subst m;have a:=a.b1 I;refine bo 8 j j (λl=>?_) (λl=>?_)
    .have ab:((Option.map Prod.snd (s1.gh g)).getD []).length<=g.keys.length:=r9 (λr m=>(ai.vf m).2);have Y:=f.n10;refine aq 4 j (m5 (dG:=dG) (a.front (cM:=[z,E])) A F j j (by decide) j j j (by omega) (λv3 bn w u a=>?_));refine bW 5 j ?_;obtain⟨b,p⟩:∃b,s1.gh g=some b:=g8.1 l;have q:s1.step g=some b:=(ai.zE (D (by decide)) (L (by decide)) (U (by decide))).trans p;have v:=ai.vf p;rw [p] at u d;obtain⟨n,rfl⟩:∃k,i2=k+1:=⟨i2-1,by have:=e.1;omega⟩;have Z:b.2.length<=10:=ej v.2 f.n10;refine⟨(true,n,b.1,dG++b.2,v3,t,bn,P+1),⟨j,j,j,bb⟩,⟨y.step f q,by dsimp only;omega,by dsimp only;rw [cj];omega,d,u,?_,a.as⟩,by dsimp only;rw [if_pos j,if_pos K];omega⟩;dsimp only;rw [aR j];exact⟨by have:=e.1;have:=v.1;omega,e.2.trans (ai.rN B q)⟩
    refine bE 2 j j j (gX _ 1 (by decide)) (bW 1 j ?_);have x:s1.gh g=none:=by simpa using l
    rw [x] at d;refine⟨(3+1,t),⟨j,j,j,j,j,j,bb⟩,⟨by dsimp only;omega,d,λ_=>D (by decide),λ_=>L (by decide),λ_=>U (by decide),λ_=>x,a.as⟩,by dsimp only;omega⟩
   refine bW 1 j ?_;have ay:i=4:=by omega
   subst ay;have q:s1.step g=none:=(ai.zE (D (by decide)) (L (by decide)) (U (by decide))).trans (ag (by decide));refine⟨(false,i2,s1,dG,v1,ak,z,P),⟨j,j,j,bb⟩,⟨y,ae,ah,J,A,?_,a.as⟩,by dsimp only;rw [K];simp⟩;dsimp only;rw [az (by decide)];exact e.2.trans (ai.Du q)
  refine an 5 j j ?_;have B:s1.dec=true:=by simpa using X
  rw [aR T] at e;rw [e.2,ai.un B];exact⟨z,W,A,Q,a⟩
 refine an 12 j j ?_;rw [az (by rw [T];decide)] at e;rw [e];exact⟨z,W,A,Q,a⟩
theorem yx{o:World}{g:al}{aw slot:Int}:Calls prog 114 #[g.p,ab aw,ab slot] o λr w=>∃av G,r=aa av/\ft g av (ai.new aw slot) G/\C o [] [G] w:=by
 have a:Own [] o:=C.start o;refine a6 func114 (br 8 free_spec j (λw b=>?_));have a:=a.aO b;refine bk 0 uV j (λr w⟨bS,k,d,q,b⟩=>?_);subst d;have a:=a.aO b;refine bk 0 E9 j (λr w⟨h,l,d,s,b⟩=>?_);subst d;have a:=a.aO b;refine bk 0 yw j (λr w⟨e,m,d,t,b⟩=>?_);subst d;have a:=a.aO b;refine bk 0 yw j (λr w⟨f,n,d,u,b⟩=>?_);subst d;have a:=a.aO b;refine cP (c:= #[aa e,aa f]) j j j (λ_=>by kernel_rfl) (cP (c:=(jP g (ai.new aw slot) (⟨.slice none 0 0,.slice none 0 0,.slice none 0 0,aa bS,.slice none 0 0,aa e,aa f,aa h,.slice none 0 0,.slice none 0 0⟩:eU)).toArray) j j j (λ_=>by kernel_rfl) (bJ 0 a j j (λi w a=>an 1 j j ?_)));have a:C o [] (bd g i (ai.new aw slot) (⟨.slice none 0 0,.slice none 0 0,.slice none 0 0,aa bS,.slice none 0 0,aa e,aa f,aa h,.slice none 0 0,.slice none 0 0⟩:eU)::_) w:=a;refine⟨i,_,j,⟨(⟨.slice none 0 0,.slice none 0 0,.slice none 0 0,aa bS,.slice none 0 0,aa e,aa f,aa h,.slice none 0 0,.slice none 0 0⟩:eU),[],[],[],ay 287 bS k (.map #[] 0),[],ay 328 e m (.map #[] 0),ay 328 f n (.map #[] 0),ay 325 h l (.map #[] 0),[],[],⟨Row.nil _ _,Row.nil _ _,Row.nil _ _,fo.new q,⟨[],[],[],j,Row.nil _ _,j⟩,fo.new t,fo.new u,fo.new s,Row.nil _ _,Row.nil _ _⟩,j⟩,?_⟩;exact C.perm (A:=[bd g i (ai.new aw slot) (⟨.slice none 0 0,.slice none 0 0,.slice none 0 0,aa bS,.slice none 0 0,aa e,aa f,aa h,.slice none 0 0,.slice none 0 0⟩:eU),ay 287 bS k (.map #[] 0),ay 328 e m (.map #[] 0),ay 328 f n (.map #[] 0),ay 325 h l (.map #[] 0)]) a.as (by simp)
theorem G2{o:World}{av:Nat}{g:al}{s:ai}{G:List Chunk}{m:aD}(hm:m.ok o)(aA:ft g av s G){N:Nat}(B:s.ok g N)(aQ:N+10<=1000000)(n:g.at o)(y:g.ok)(i:g.off (au [G]))(a:Own [G] o):Calls prog 133 #[aa av,.agg m.cs.toArray] o λr w=>∃bj af,cC r (s.take g m.P).2 bj/\ft g av (s.take g m.P).1 af/\C o (au [G]) [af,bj] w:=by
 have aS:=a;obtain⟨c,af,aB,bn,cw,cb,bX,bT,cd,b6,b5,t,rfl⟩:=aA;obtain⟨p,ah⟩:∃p,p=au [bd g av s c++(af++(aB++(bn++(cw++(cb++(bX++(bT++(cd++(b6++b5)))))))))]:=⟨_,j⟩;rw [<-ah] at i⊢;have a:C o p [bd g av s c++(af++(aB++(bn++(cw++(cb++(bX++(bT++(cd++(b6++b5)))))))))] o:=ah▸a;have a:=a.nx;refine a6 func133 (bJ 2 (C.start _) j j (λO w R=>?_));have R:C _ [] [bf O m] w:=R;have hm:=hm.st R;have a:C o p [bf O m,bd g av s c,af,aB,bn,cw,cb,bX,bT,cd,b6,b5] w:=a.aO R;refine aq 7 j (bY 7 (.bool false) j (aK Value.bool (j)) ?_);refine ar 3 j (ax (C.aj a) j) (aq 2 j (c9 13 j (λL=>?_) (λL=>?_)))
 .refine an 9 j j ?_;have f:s.take g m.P=(s,[]):=aR (by rw [show s.dec=true from L];rfl);rw [f];exact⟨[],_,cC.nil,⟨c,af,aB,bn,cw,cb,bX,bT,cd,b6,b5,t,j⟩,(C.gd a.as).empty.f1⟩
 refine bP 1 (U:=m.cs) j j (m.bU hm.tag) (bq (C.aj a)) ?_;have b:=DT (av:=av) (g:=g) (s:=s) (c:=c) (C.aj a) (n.st a i) y hm;refine br 0 b j (λw d=>?_);have a:=a.aO d;have hm:=hm.st d;refine bo 2 j j (λV=>?_) (λV=>?_)
 .refine an 3 j j ?_;have aM:s.kr g m.P=false:=by simpa using V
  have f:s.take g m.P=(s,[]):=aR (by rw [aM];simp);rw [f];exact⟨[],_,cC.nil,⟨c,af,aB,bn,cw,cb,bX,bT,cd,b6,b5,t,j⟩,(C.gd a.as).empty.f1⟩
 have K:s.kr g m.P=true:=by simpa using V
 have S:iN m=true:=by unfold ai.kr at K;simp only [Bool.and_eq_true] at K;exact K.1
 have ao:=m.yf S;refine bP 3 (U:=m.cs) j j (m.bU hm.tag) (bq (C.aj a)) ?_;have b:=CC hm ⟨by omega,by omega⟩;refine bk 0 b j (λr w⟨q,X,Y,aP,aN,J,d⟩=>?_);subst aP;have T:=fw.r2 aN J hm ⟨by omega,by omega⟩;have ak:q.tag.length=32:=(aK (λz:aY=>z.tag.length) J).trans hm.tag;have a:=a.aO d;refine c6 (a.bc O) j j j (by simpa using q.one) (by rw [List.size_toArray];exact q.bU ak) (by rw [List.size_toArray,m.bU hm.tag];decide) (λw a=>?_);have a:=C.whole (U:=q.cs) a (by rw [hl,m.bU hm.tag,q.bU ak]);have a:C o p [bf O q,bd g av s c,af,aB,bn,cw,cb,bX,bT,cd,b6,b5,X++Y] w:=C.perm (A:=[bf O q,bd g av s c,af,aB,bn,cw,cb,bX,bT,cd,b6,b5,X,Y]) a.as (by simp);have u:q.P.dF:=by rw [J];exact⟨hm.tag,hm.aI,ao.1,ao.2⟩
 have am:0<=q.v/\q.v<=8:=by
  have e:q.v=m.v:=aK aY.v J;rw [e];unfold iN at S;simp only [d8] at S;exact dV S.1.1.1.2
 refine ar 4 j (ax (C.aj a) q.gL) (bo 5 j j (λx=>?_) (λx=>?_))
 .refine bP 2 (U:=q.cs) j j (q.bU u.tag) (bq (C.aj a)) ?_;have b:=y0 (av:=av) (g:=g) (s:=s) (c:=c) (m:=q) T u B.slot am t.props t.dg (by have:=B.dg;omega) (n.st a i) y (a.eE n i) a.ours;refine br 0 b j (λw⟨v1,W,Z,ay,aH,d⟩=>?_);have a:=a.b1 d
  obtain⟨l,D,a⟩:∃l,ft g av (s.fd g q.P) l/\C o p [l] w:=by
   have f:s.fd g q.P=s.hr g q.P:=by unfold ai.fd;rw [if_pos (show q.P.k=2 from beq_iff_eq.1 x)]
   rw [f];have a:C o p [bd g av (s.hr g q.P) {c with dg:=v1},af,aB,bn,W,Z,bX,bT,cd,b6,b5] w:=by rw [ai.p6];exact a.as
   exact⟨_,⟨{c with dg:=v1},af,aB,bn,W,Z,bX,bT,cd,b6,b5,by rw [ai.p6];exact{t with props:=ay,dg:=aH},j⟩,C.gd a⟩
  have b:=lD D (B.fd u) (by omega) (n.st a i) y (a.eE n i) a.ours;refine bk 3 b j (λr w⟨bj,E,H,I,d⟩=>?_);have a:=a.b1 d;refine an 1 j j ?_;have f:s.take g m.P=(s.fd g q.P).steps g:=by rw [J];exact az (by rw [K,show s.dec=false from L];decide)
  rw [f];exact⟨bj,E,H,I,a⟩
 refine bo 4 j j (λF=>?_) (λF=>?_)
 .refine bP 2 (U:=q.cs) j j (q.bU u.tag) (bq (C.aj a)) ?_;have b:=HB (av:=av) (g:=g) (s:=s) (c:=c) (m:=q) T u t.dw t.aC B.ln B.lo (by omega) (n.st a i) y (a.eE n i) a.ours;refine br 0 b j (λw⟨ac,ad,aE,aF,d⟩=>?_);have a:=a.b1 d
  obtain⟨l,D,a⟩:∃l,ft g av (s.fd g q.P) l/\C o p [l] w:=by
   have f:s.fd g q.P=s.dv g q.P:=by unfold ai.fd;rw [if_neg (show¬q.P.k=2 from λh=>by rw [show(q.k==2)=true from beq_iff_eq.2 h] at x;cases x),if_pos (show q.P.k=3 from beq_iff_eq.1 F)]
   rw [f];have a:C o p [bd g av (s.dv g q.P) c,af,aB,bn,cw,cb,ac,ad,cd,b6,b5] w:=by rw [ai.z3];exact a.as
   exact⟨_,⟨c,af,aB,bn,cw,cb,ac,ad,cd,b6,b5,by rw [ai.z3];exact{t with dw:=aE,aC:=aF},j⟩,C.gd a⟩
  have b:=lD D (B.fd u) (by omega) (n.st a i) y (a.eE n i) a.ours;refine bk 3 b j (λr w⟨bj,E,H,I,d⟩=>?_);have a:=a.b1 d;refine an 1 j j ?_;have f:s.take g m.P=(s.fd g q.P).steps g:=by rw [J];exact az (by rw [K,show s.dec=false from L];decide)
  rw [f];exact⟨bj,E,H,I,a⟩
 refine bo 4 j j (λM=>?_) (λM=>?_)
 .refine bP 2 (U:=q.cs) j j (q.bU u.tag) (bq (C.aj a)) ?_;have b:=zD (av:=av) (g:=g) (s:=s) (c:=c) (m:=q) T u B.slot am t.dB (n.st a i) y (a.eE n i) a.ours;refine br 0 b j (λw⟨ae,aG,d⟩=>?_);have a:=a.b1 d
  obtain⟨l,D,a⟩:∃l,ft g av (s.fd g q.P) l/\C o p [l] w:=by
   have f:s.fd g q.P=s.status g q.P:=by unfold ai.fd;rw [if_neg (show¬q.P.k=2 from λh=>by rw [show(q.k==2)=true from beq_iff_eq.2 h] at x;cases x),if_neg (show¬q.P.k=3 from λh=>by rw [show(q.k==3)=true from beq_iff_eq.2 h] at F;cases F),if_pos (show q.P.k=4 from beq_iff_eq.1 M)]
   rw [f];have a:C o p [bd g av (s.status g q.P) c,af,aB,bn,cw,cb,bX,bT,ae,b6,b5] w:=by rw [ai.sw];exact a.as
   exact⟨_,⟨c,af,aB,bn,cw,cb,bX,bT,ae,b6,b5,by rw [ai.sw];exact{t with dB:=aG},j⟩,C.gd a⟩
  have b:=lD D (B.fd u) (by omega) (n.st a i) y (a.eE n i) a.ours;refine bk 3 b j (λr w⟨bj,E,H,I,d⟩=>?_);have a:=a.b1 d;refine an 1 j j ?_;have f:s.take g m.P=(s.fd g q.P).steps g:=by rw [J];exact az (by rw [K,show s.dec=false from L];decide)
  rw [f];exact⟨bj,E,H,I,a⟩
 refine bo 4 j j (λQ=>?_) (λQ=>?_);refine bP 2 (U:=q.cs) j j (q.bU u.tag) (bq (C.aj a)) ?_;have b:=CG (av:=av) (g:=g) (s:=s) (c:=c) (m:=q) T u t.value t.et (n.st a i) y (a.eE n i) a.ours;refine br 0 b j (λw⟨ap,aw,ag,ab,aJ,aL,d⟩=>?_);have a:=a.b1 d
 obtain⟨l,D,a⟩:∃l,ft g av (s.fd g q.P) l/\C o p [l] w:=by
  have f:s.fd g q.P=s.decision g q.P:=by unfold ai.fd;rw [if_neg (show¬q.P.k=2 from λh=>by rw [show(q.k==2)=true from beq_iff_eq.2 h] at x;cases x),if_neg (show¬q.P.k=3 from λh=>by rw [show(q.k==3)=true from beq_iff_eq.2 h] at F;cases F),if_neg (show¬q.P.k=4 from λh=>by rw [show(q.k==4)=true from beq_iff_eq.2 h] at M;cases M),if_pos (show q.P.k=5 from beq_iff_eq.1 Q)]
  rw [f];have a:C o p [bd g av (s.decision g q.P) {c with value:=ap,et:=aw},af,aB,bn,cw,cb,bX,bT,cd,ag,ab] w:=a.as;exact⟨_,⟨{c with value:=ap,et:=aw},af,aB,bn,cw,cb,bX,bT,cd,ag,ab,by rw [ai.CF];exact{t with value:=aJ,et:=aL},j⟩,C.gd a⟩
 have b:=lD D (B.fd u) (by omega) (n.st a i) y (a.eE n i) a.ours;refine bk 3 b j (λr w⟨bj,E,H,I,d⟩=>?_);rotate_left
 obtain⟨l,D,a⟩:∃l,ft g av (s.fd g q.P) l/\C o p [l] w:=by
  have f:s.fd g q.P=s:=by unfold ai.fd;rw [if_neg (show¬q.P.k=2 from λh=>by rw [show(q.k==2)=true from beq_iff_eq.2 h] at x;cases x),if_neg (show¬q.P.k=3 from λh=>by rw [show(q.k==3)=true from beq_iff_eq.2 h] at F;cases F),if_neg (show¬q.P.k=4 from λh=>by rw [show(q.k==4)=true from beq_iff_eq.2 h] at M;cases M),if_neg (show¬q.P.k=5 from λh=>by rw [show(q.k==5)=true from beq_iff_eq.2 h] at Q;cases Q)]
  rw [f];exact⟨_,⟨c,af,aB,bn,cw,cb,bX,bT,cd,b6,b5,t,j⟩,C.gd a.as⟩
 have b:=lD D (B.fd u) (by omega) (n.st a i) y (a.eE n i) a.ours;refine bk 4 b j (λr w⟨bj,E,H,I,d⟩=>?_);rotate_left
 all_goals
  have a:=a.b1 d;refine an 1 j j ?_;have f:s.take g m.P=(s.fd g q.P).steps g:=by rw [J];exact az (by rw [K,show s.dec=false from L];decide)
  rw [f];exact⟨bj,E,H,I,a⟩
theorem HE{o:World}{av:Nat}{g:al}{s:ai}{G:List Chunk}{A:Option Addr}{x:List UInt8}{bN:Nat}(L:Rd o A (aP x))(O:x.length<=1000000)(K:ft g av s G){N:Nat}(D:s.ok g N)(M:N+10<=1000000)(i:g.at o)(B:g.ok)(e:g.off (au [G]))(a:Own [G] o):Calls prog 169 #[aa av,.slice A x.length bN] o λr w=>∃bj af,cC r (s.g2 g x).2 bj/\ft g av (s.g2 g x).1 af/\C o (au [G]) [af,bj] w:=by
 obtain⟨c,af,aB,bn,cw,cb,bX,bT,cd,b6,b5,y,rfl⟩:=K;obtain⟨d,F⟩:∃d,d=au [bd g av s c++(af++(aB++(bn++(cw++(cb++(bX++(bT++(cd++(b6++b5)))))))))]:=⟨_,j⟩;rw [<-F] at e⊢;have a:C o d [bd g av s c++(af++(aB++(bn++(cw++(cb++(bX++(bT++(cd++(b6++b5)))))))))] o:=F▸a;have a:=a.nx;refine a6 func169 (aq 9 j (bY 7 (.bool false) j (aK Value.bool (j)) ?_));refine ar 3 j (ax (C.aj a) j) (bo 1 j j (λt=>?_) (λt=>?_))
 .refine an 3 j j ?_;have p:s.g2 g x=(s,[]):=aR t;rw [p];exact⟨[],_,cC.nil,⟨c,af,aB,bn,cw,cb,bX,bT,cd,b6,b5,y,j⟩,(C.gd a.as).empty.f1⟩
 refine aq 8 j (c9 16 j (λz=>?_) (λz=>?_))
 .refine cy 4 j j (λJ=>?_) (λJ=>?_);refine bk 3 (gN (c:=bN) L (by omega)) j (λr w⟨E,H,k⟩=>?_);have a:=a.aO k;refine dE 2 (a.bc av) j j j H.one (λw a=>?_);have a:C o d (bd g av {s with want:=x} {c with want:=r}::_) w:=a
  obtain⟨b,l,n,I,a⟩:∃b,ft g av (if 0<x.length/\x.length<=200 then{s with want:=x} else s:ai) b/\ai.ok g N (if 0<x.length/\x.length<=200 then{s with want:=x} else s:ai)/\True/\C o d [b] w:=by
   have f:0<x.length/\x.length<=200:=⟨by have:=dV z;omega,by omega⟩;rw [aR f];have a:C o d [bd g av {s with want:=x} {c with want:=r},af,aB,E,cw,cb,bX,bT,cd,b6,b5] w:=a.as;exact⟨_,⟨{c with want:=r},af,aB,E,cw,cb,bX,bT,cd,b6,b5,{y with want:=H},j⟩,{D with want:=f.2},bb,C.gd a⟩
  have m:=lD l n (by omega) (i.st a e) B (a.eE i e) a.ours;refine bk 3 m j (λr w⟨bj,q,u,v,k⟩=>?_);rotate_left
  obtain⟨b,l,n,I,a⟩:∃b,ft g av (if 0<x.length/\x.length<=200 then{s with want:=x} else s:ai) b/\ai.ok g N (if 0<x.length/\x.length<=200 then{s with want:=x} else s:ai)/\True/\C o d [b] o:=by
   have f:¬(0<x.length/\x.length<=200):=λh=>by omega
   rw [az f];exact⟨_,⟨c,af,aB,bn,cw,cb,bX,bT,cd,b6,b5,y,j⟩,D,bb,C.gd a.as⟩
  have m:=lD l n (by omega) (i.st a e) B (a.eE i e) a.ours;refine bk 4 m j (λr w⟨bj,q,u,v,k⟩=>?_);rotate_left
  all_goals
   have a:=a.b1 k;refine an 1 j j ?_;have p:s.g2 g x=(if 0<x.length/\x.length<=200 then{s with want:=x} else s:ai).steps g:=az (by rw [t];decide);rw [p];exact⟨bj,q,u,v,a⟩
 obtain⟨b,l,n,I,a⟩:∃b,ft g av (if 0<x.length/\x.length<=200 then{s with want:=x} else s:ai) b/\ai.ok g N (if 0<x.length/\x.length<=200 then{s with want:=x} else s:ai)/\True/\C o d [b] o:=by
  have f:¬(0<x.length/\x.length<=200):=λh=>by have:=dY z;omega
  rw [az f];exact⟨_,⟨c,af,aB,bn,cw,cb,bX,bT,cd,b6,b5,y,j⟩,D,bb,C.gd a.as⟩
 have m:=lD l n (by omega) (i.st a e) B (a.eE i e) a.ours;refine bk 9 m j (λr w⟨bj,q,u,v,k⟩=>?_);have a:=a.b1 k;refine an 1 j j ?_;have p:s.g2 g x=(if 0<x.length/\x.length<=200 then{s with want:=x} else s:ai).steps g:=az (by rw [t];decide);rw [p];exact⟨bj,q,u,v,a⟩
theorem CE{o:World}{av:Nat}{g:al}{s:ai}{G:List Chunk}(z:ft g av s G){N:Nat}(i:s.ok g N)(f:Holds o G):Calls prog 178 #[aa av] o λr w=>∃v1 v2 b e,r= .tuple #[v1,v2,.bool s.dec]/\d6 v1 s.value b/\en v2 s.et e/\C o [] [b,e] w:=by
 have a:Own [] o:=C.start o;obtain⟨c,af,aB,bn,cw,cb,bX,bT,cd,b6,b5,l,rfl⟩:=z;have h:=f.left.head;have y:Holds o b6:=λx k=>f x (by simp [k])
 have v:Holds o b5:=λx k=>f x (by simp [k])
 obtain⟨J,n,q,_,_,E,_⟩:=l.value.read y;obtain⟨I,m,p,_,_,D,_⟩:=l.et.read v;refine a6 func178 ?_;have a:=a.drew;refine bx 13 j (λw=>∃ae,C o [] ae w) ⟨_,a⟩ (ag 0 3 j (b4 3 j (λw⟨_,a⟩=>ax (a.b8 h) (aK some q)) (ag 5 3 j (b4 8 j (λw⟨_,a⟩=>ax (a.b8 h) (aK some p)) (ag 10 3 j (b4 13 j (λw⟨_,a⟩=>ax (a.b8 h) j) (aX 4 j (cS j j j (gN (c:=n) (a.rd E (cc.of_nil _ _)) (by have:=i.value;omega)) (λF w⟨b,t,A⟩=>?_)))))))));have a:=a.aO A;refine ao ⟨⟨_,a⟩,?_⟩;refine aX 9 j (cS j j j (kO (d:=m) (a.rd D (cc.of_nil _ _)) i.sL (by have:=i.et;omega)) (λH w⟨e,u,B⟩=>?_));have a:=a.aO B;refine ao ⟨⟨_,a⟩,?_⟩;exact ag 14 3 j (bL (an 0 j j ⟨F,H,b,e,j,t,u,a.as⟩))
theorem ai.GV{g:al}{s:ai}{r:ai×List aY}(h:s.step g=some r):r.2.length<=g.n:=by
 unfold ai.step at h;split at h
 .rename_i e;cases h;unfold ai.gG at e;cases a:(cW s.aC).findSome? λp=>s.fS g p.2 with
  |none=>rw [a] at e;cases e
  |some y=>rw [a] at e;cases e;exact cp _
 .split at h
  .rename_i e;cases h;exact(ai.ve e).2
  .split at h
   .rename_i e;cases h;exact(ai.tT e).2
   .exact(ai.vf h).2
theorem ai.pL{g:al}(a:g.ok):∀(k:Nat)(s:ai)(l:List aY),(ai.go g k s l).2.length<=l.length+10*k
 |0,_,_=>by show _<=_;exact gp _ _
 |k+1,s,l=>by
  unfold ai.go;split
  .exact gp _ _
  .split
   .exact gp _ _
   .rename_i lB bZ e;have b:=ai.pL a k lB (l++bZ);have c:bZ.length<=g.keys.length:=ai.GV e;have d:=a.n10;rw [cj] at b;omega
theorem ai.sy{g:al}(a:g.ok)(s:ai):(s.steps g).2.length<=50:=ai.pL a 5 s []
theorem ai.zS(g:al)(s:ai):(s.gy g).2.length<=1:=by
 unfold ai.gy;dsimp only;split
 .exact cp _
 .exact cF _
theorem ue{a b:Int}(c: -1000<=a/\a<=1000)(d: -1000<=b/\b<=1000):evalBin .add .i64 a b=some (.int .i64 (a+b)):=by
 show some (Value.int .i64 (IntKind.i64.wrap (a+b)))=_;rw [j3];exact aK (λz=>some (Value.int .i64 z)) (by omega)
theorem Hg{o:World}{av:Nat}{g:al}{s:ai}{G:List Chunk}(aH:ft g av s G){N:Nat}(b:s.ok g N)(aS:N+10<=1000000)(t:g.at o)(z:g.ok)(p:g.off (au [G]))(a:Own [G] o):Calls prog 140 #[aa av] o λr w=>∃bj af,cC r (s.tick g).2 bj/\ft g av (s.tick g).1 af/\C o (au [G]) [af,bj] w:=by
 obtain⟨c,af,aB,bn,cw,cb,bX,bT,cd,b6,b5,l,rfl⟩:=aH;obtain⟨d,ah⟩:∃d,d=au [bd g av s c++(af++(aB++(bn++(cw++(cb++(bX++(bT++(cd++(b6++b5)))))))))]:=⟨_,j⟩;rw [<-ah] at p⊢;have a:C o d [bd g av s c++(af++(aB++(bn++(cw++(cb++(bX++(bT++(cd++(b6++b5)))))))))] o:=ah▸a;have a:=a.nx;obtain⟨f,k,S,_⟩:=l.dT.form;obtain⟨i,dl,R,_⟩:=l.aZ.form;refine a6 func140 (aq 9 j (bY 8 (.bool false) j (aK Value.bool (j)) ?_));refine ar 3 j (ax (C.aj a) j) (aq 2 j (c9 14 j (λO=>?_) (λO=>?_)))
 .refine an 10 j j ?_;have u:s.tick g=(s,[]):=aR (by rw [show s.dec=true from O];rfl);rw [u];exact⟨[],_,cC.nil,⟨c,af,aB,bn,cw,cb,bX,bT,cd,b6,b5,l,j⟩,(C.gd a.as).empty.f1⟩
 refine ar 3 j (ax (C.aj a) j) (bo 2 j j (λJ=>?_) (λJ=>?_))
 .refine an 3 j j ?_;have u:s.tick g=(s,[]):=aR (by rw [show decide (s.view>=8)=true from J];simp);rw [u];exact⟨[],_,cC.nil,⟨c,af,aB,bn,cw,cb,bX,bT,cd,b6,b5,l,j⟩,(C.gd a.as).empty.f1⟩
 have aA:s.view<8:=by have:=dY J;omega
 refine ar 6 j (ax (C.aj a) j) (bE 0 j j j (ue (by have:=b.view;omega) (by omega)) (dE 2 (a.bc av) j j j j (λw a=>?_)));have a:C o d (bd g av {s with view:=s.view+1} c::_) w:=a;have a:C o d [bd g av {s with view:=s.view+1} c,af,aB,bn,cw,cb,bX,bT,cd,b6,b5] w:=a.as;have a:=a.drew;refine bx 1 j (λw=>∃ae,C o d ([bd g av {s with view:=s.view+1} c]++ae) w) ⟨_,a⟩ (ag 0 3 j (a8 3 j a2 j (ag 4 4 j (a8 8 j a2 (aK some S) (ag 9 4 j (a8 13 j a2 (aK some R) (bl 14 j (λw _=>eX (c:=(⟨4,0,0,0,s.view+1,f,s.dT,k,i,s.aZ,dl,cD⟩:aD).cs.toArray) j (λ_=>by kernel_rfl)) (aX 15 j (eu a j j (λM w a=>?_))))))))));have a:C o d ([bd g av {s with view:=s.view+1} c]++_) w:=a.front;refine ao ⟨⟨_,a⟩,?_⟩;refine dK 16 j (c6 (a.bc M) j j j (by simpa using(⟨4,0,0,0,s.view+1,f,s.dT,k,i,s.aZ,dl,cD⟩:aD).one) j bO (λw a=>?_));have a:=C.whole (U:=(⟨4,0,0,0,s.view+1,f,s.dT,k,i,s.aZ,dl,cD⟩:aD).cs) a j;have a:C o d [bd g av {s with view:=s.view+1} c,bf M (⟨4,0,0,0,s.view+1,f,s.dT,k,i,s.aZ,dl,cD⟩:aD),af,aB,bn,cw,cb,bX,bT,cd,b6,b5] w:=a.as;refine ao (c5 ?_);have a:=a.drew;refine bx 1 j (λw=>∃ae,C o d ([bd g av {s with view:=s.view+1} c]++ae) w) ⟨_,a⟩ (ag 0 3 j (a8 3 j a2 j (ag 4 3 j (a8 7 j a2 j (ag 8 3 j (a8 11 j a2 j (aX 12 j (bK j j j (mb (t.st a p)) (λw hw=>?_)))))))));subst hw;refine ao ⟨⟨_,a⟩,?_⟩;refine aX 13 j ?_;have e:=λo=>x2 (o:=o) (s:=s.slot.toNat) (v:=(s.view+1).toNat) (n:=g.keys.length) (by have:=b.slot;omega) (by have:=b.view;omega) z.i2 (by have:=z.n10;omega)
 rw [show((s.slot.toNat:Nat):Int)=s.slot from pc b.slot.1,show(((s.view+1).toNat:Nat):Int)=s.view+1 from pc (by have:=b.view;omega)] at e;refine bK j j j (e _) (λw ad=>?_);have a:=a.aO ad;have a:C o d [bd g av {s with view:=s.view+1} c,bf M (⟨4,0,0,0,s.view+1,f,s.dT,k,i,s.aZ,dl,cD⟩:aD),af,aB,bn,cw,cb,bX,bT,cd,b6,b5] w:=a.as;refine ao ⟨⟨_,a⟩,?_⟩;refine ag 14 1 j (bL (ar 10 j (ax (C.aj a) j) (bo 1 j j (λK=>?_) (λK=>?_))));refine bP 3 (U:=(⟨4,0,0,0,s.view+1,f,s.dT,k,i,s.aZ,dl,cD⟩:aD).cs) j j j (bq (C.aj a)) ?_;obtain⟨_,_,F,_,_,X,_⟩:=l.dT.read (a.holds (G:=af) (by simp));obtain⟨_,_,H,_,_,Y,_⟩:=l.aZ.read (a.holds (G:=aB) (by simp));rw [S] at F;rw [R] at H;cases F;cases H;have T:(⟨4,0,0,0,s.view+1,f,s.dT,k,i,s.aZ,dl,cD⟩:aD).ok _:=⟨X,Y,b.l6,j⟩;have e:=so (av:=av) (s:={s with view:=s.view+1}) (c:=c) (C.aj a) (t.st a p) z T (by show s.dT.length<=10000;have:=b.dT;omega) (by show s.aZ.length<=1000;have:=b.aZ;omega) (to:=((j8 s.slot.toNat (s.view+1).toNat g.keys.length:Nat):Int));refine bk 1 e j (λr w⟨q,D,W,L,I,y⟩=>?_);subst W;have a:=a.aO y;have aL:q.P.dF:=by rw [I];exact ai.qg b.dT b.aZ b.l6
 have aM:q.v=s.view+1:=aK aY.v I;have e:=zD (av:=av) (g:=g) (s:={s with view:=s.view+1}) (c:=c) (m:=q) L aL b.slot (by rw [aM];have:=b.view;omega) l.dB (t.st a p) z (a.eE t p) a.ours;refine br 0 e j (λw⟨ac,aJ,y⟩=>?_);have a:=a.b1 y
 obtain⟨B,Z,x,Q,am,aN,a⟩:∃B Z x,ft g av (s.gy g).1 B/\cC Z (s.gy g).2 x/\Z= .slice none 0 0/\C o d [B,x] w:=by
  have u:s.gy g=(({s with view:=s.view+1}:ai).status g q.P,[]):=by
   unfold ai.gy;rw [show q.P=({s with view:=s.view+1}:ai).ju g (⟨4,0,0,0,s.view+1,f,s.dT,k,i,s.aZ,dl,cD⟩:aD).P ((j8 s.slot.toNat (s.view+1).toNat g.keys.length:Nat):Int) from I];exact aR (ea.1 K)
  rw [u];have a:C o d [bd g av (({s with view:=s.view+1}:ai).status g q.P) c,af,aB,bn,cw,cb,bX,bT,ac,b6,b5] w:=by rw [ai.sw];exact a.as
  exact⟨_,_,[],⟨c,af,aB,bn,cw,cb,bX,bT,ac,b6,b5,by rw [ai.sw];exact{l with dB:=aJ},j⟩,cC.nil,j,(C.gd a).empty.f1⟩
 subst aN;have V:=b.gy aA;have e:=lD Q V (by omega) (t.st a p) z (a.eE t p) a.ours;refine bk 4 e j (λr w⟨bj,ab,ak,ap,y⟩=>?_);rotate_left
 refine bP 3 (U:=(⟨4,0,0,0,s.view+1,f,s.dT,k,i,s.aZ,dl,cD⟩:aD).cs) j j j (bq (C.aj a)) ?_;obtain⟨_,_,F,_,_,X,_⟩:=l.dT.read (a.holds (G:=af) (by simp));obtain⟨_,_,H,_,_,Y,_⟩:=l.aZ.read (a.holds (G:=aB) (by simp));rw [S] at F;rw [R] at H;cases F;cases H;have T:(⟨4,0,0,0,s.view+1,f,s.dT,k,i,s.aZ,dl,cD⟩:aD).ok _:=⟨X,Y,b.l6,j⟩;have e:=so (av:=av) (s:={s with view:=s.view+1}) (c:=c) (C.aj a) (t.st a p) z T (by show s.dT.length<=10000;have:=b.dT;omega) (by show s.aZ.length<=1000;have:=b.aZ;omega) (to:=((j8 s.slot.toNat (s.view+1).toNat g.keys.length:Nat):Int));refine bk 1 e j (λr w⟨q,D,W,L,I,y⟩=>?_);subst W;have a:=a.aO y;have ay:q.tag.length=32:=(fy.one L).tag q (by simp);refine gj (U:=q.cs) a j j j (q.bU ay) (by decide) (by decide) (λaE w a=>?_);have aT:Rd w (some ⟨aE,0,none⟩) q.cs:=a.bQ;refine e6 (a.empty) (Row.nil 101 39) j j (by decide) j j j (news:=q.cs) (q.bU ay) aT (List.all_eq_true.1 q.one) (by omega) (by unfold maxLen;omega) (λv1 E w aI a=>?_);have a:C o d [bd g av {s with view:=s.view+1} c,af,aB,bn,cw,cb,bX,bT,cd,b6,b5,E++D] w:=C.perm (A:=[bd g av {s with view:=s.view+1} c,af,aB,bn,cw,cb,bX,bT,cd,b6,b5,E,D]) a.as (by simp);have aF:cC v1 [q.P] (E++D):=⟨[q],j,E,D,j,by simpa using aI,fy.one L⟩
 obtain⟨B,x,Q,am,a⟩:∃B x,ft g av (s.gy g).1 B/\cC v1 (s.gy g).2 x/\C o d [B,x] w:=by
  have u:s.gy g=({s with view:=s.view+1},[q.P]):=by
   unfold ai.gy;rw [show q.P=({s with view:=s.view+1}:ai).ju g (⟨4,0,0,0,s.view+1,f,s.dT,k,i,s.aZ,dl,cD⟩:aD).P ((j8 s.slot.toNat (s.view+1).toNat g.keys.length:Nat):Int) from I];exact az (λh=>by rw [show((((j8 s.slot.toNat (s.view+1).toNat g.keys.length:Nat):Int):Int)==s.aw)=true from ea.2 h] at K;cases K)
  rw [u];exact⟨_,E++D,⟨c,af,aB,bn,cw,cb,bX,bT,cd,b6,b5,{l with},j⟩,aF,C.gd a⟩
 have V:=b.gy aA;have e:=lD Q V (by omega) (t.st a p) z (a.eE t p) a.ours;refine bk 5 e j (λr w⟨bj,ab,ak,ap,y⟩=>?_);rotate_left
 all_goals
  have a:=a.b1 y;refine m5 (a.front (cM:=[x,bj])) am ak j j (by decide) j j j (by have aP:=ai.sy z (s.gy g).1;have aQ:=ai.zS g s;omega) (λv3 aC w aG a=>an 1 j j ?_);have u:s.tick g=(((s.gy g).1.steps g).1,(s.gy g).2++((s.gy g).1.steps g).2):=az (by rw [show s.dec=false from O,show decide (s.view>=8)=false from J];decide);rw [u];exact⟨aC,ab,aG,ap,a.as⟩
structure aE where
 aw:Int
 log:List (List UInt8×List aN)
 cur:Option ai
 cA:List (List UInt8)
 stored:List (Int×aY)
 eV:Int
def aE.new(aw:Int):aE:=⟨aw,[],some (ai.new aw 0),[],[],0⟩
def aE.there(s:aE)(x:List UInt8):Bool:=(s.cA.any λy=>decide (y=x))||(s.log.any λe=>decide (e.1=x))
def ho(g:al)(c:Option ai)(m:aY):Option ai×List aY:=match c with
 |none=>(none,[])
 |some r=>(some (r.take g m).1,(r.take g m).2)
def fR(g:al)(c:Option ai)(x:List UInt8):Option ai×List aY:=match c with
 |none=>(none,[])
 |some r=>(some (r.g2 g x).1,(r.g2 g x).2)
def i0(g:al)(c:Option ai):Option ai×List aY:=match c with
 |none=>(none,[])
 |some r=>(some (r.tick g).1,(r.tick g).2)
def aE.slot(s:aE):Int:=(s.log.length:Int)
def aE.wanted(g:al)(s:aE):aE×List aY:=match s.cA with
 |[]=>(s,[])
 |x::_=>({s with cur:=(fR g s.cur x).1},(fR g s.cur x).2)
def aE.one(g:al)(a:aE×List aY)(p:Int×aY):aE×List aY:=
 if p.2.s=a.1.slot then({a.1 with stored:=fU a.1.stored p.1,cur:=(ho g a.1.cur p.2).1},a.2++(ho g a.1.cur p.2).2)
 else if p.2.s<=a.1.slot then({a.1 with stored:=fU a.1.stored p.1},a.2) else a
def aE.dc(g:al)(s:aE):aE×List aY:=(cW s.stored).foldl (aE.one g) (s.wanted g)
def aE.next(s:aE)(r:ai):aE:={s with log:=s.log++[(r.value,r.et)],cA:=s.cA.filter (λy=> !decide (y=r.value)),cur:=if s.log.length+1<64 then some (ai.new s.aw (s.log.length+1:Nat)) else none}
def aE.go(g:al):Nat->aE->List aY->aE×List aY
 |0,s,l=>(s,l)
 |n+1,s,l=>match s.cur with
  |none=>(s,l)
  |some r=>if r.dec then aE.go g n ((s.next r).dc g).1 (l++((s.next r).dc g).2) else(s,l)
def aE.gE(g:al)(s:aE)(l:List aY):aE×List aY:=aE.go g 65 s l
def aE.eF(g:al)(s:aE)(x:List UInt8):aE×List aY×Int:=
 if x.length=0\/200<x.length then(s,[],1)
 else if s.there x then(s,[],0)
 else if 16<=s.cA.length\/s.cur.isNone then(s,[],3)
 else if 1<s.cA.length+1 then({s with cA:=s.cA++[x]},[],0)
 else((aE.gE g {s with cA:=s.cA++[x],cur:=(fR g s.cur x).1} (fR g s.cur x).2).1,(aE.gE g {s with cA:=s.cA++[x],cur:=(fR g s.cur x).1} (fR g s.cur x).2).2,0)
def aE.told(g:al)(s:aE)(m:aY):List aY:=
 if(m.k≠2/\m.k≠4)\/m.s<0\/m.f=s.aw\/g.check m.f m.body m.tag=false then []
 else match s.log[m.s.toNat]? with
  |none=>[]
  |some e=>[⟨5,s.aw,m.f,m.s,0,e.1,e.2,g.ct s.aw (⟨5,s.aw,m.f,m.s,0,e.1,e.2,[]⟩:aY).body⟩]
def aE.take(g:al)(s:aE)(m:aY):aE×List aY:=
 if m.k=1 then((s.eF g m.x).1,(s.eF g m.x).2.1)
 else if m.s<s.slot then(s,s.told g m)
 else if m.s=s.slot then aE.gE g {s with cur:=(ho g s.cur m).1} (ho g s.cur m).2
 else if m.s-s.slot<=4/\s.stored.length<128 then({s with stored:=bV s.stored s.eV m,eV:=s.eV+1},[])
 else(s,[])
def aE.tick(g:al)(s:aE):aE×List aY:=aE.gE g {s with cur:=(i0 g s.cur).1} (i0 g s.cur).2
structure aE.ok(g:al)(N:Nat)(s:aE):Prop where
 aw:0<=s.aw/\s.aw<g.n
 log:s.log.length<=64
 ns:∀e∈s.log,e.1.length<=200/\e.2.length<=10/\∀v∈e.2,v.ok
 cur:∀r,s.cur=some r->r.ok g N/\s.log.length<64
 cA:s.cA.length<=16
 k2:∀x∈s.cA,x.length<=200
 stored:s.stored.length<=128
 k8:∀p∈s.stored,p.2.dF
 eV:0<=s.eV/\s.eV<=N
theorem aE.ok.more{g:al}{N M:Nat}{s:aE}(h:s.ok g N)(b:N<=M):s.ok g M:={h with cur:=λr a=>⟨(h.cur r a).1.more b,(h.cur r a).2⟩,eV:=⟨h.eV.1,by have:=h.eV.2;omega⟩}
theorem ai.lz{g:al}{aw slot:Int}(hm:0<=aw/\aw<g.n)(aF:0<=slot/\slot<=63)(N:Nat):(ai.new aw slot).ok g N:=
 {aw:=hm,slot:=aF,view:=⟨j0 _,by show(0:Int)<=8;omega⟩,dT:=cp _,aZ:=cp _,l6:=(by intro x a;cases a),want:=cp _,props:=cp _,sf:=(by intro x a;cases a),dg:=cp _,oD:=(by intro x a;cases a),dw:=cp _,ln:=(by intro x a;cases a),aC:=cp _,lo:=(by intro x a;cases a),dB:=cp _,mm:=(by intro x a;cases a),value:=cp _,et:=cp _,sL:=(by intro x a;cases a)}
theorem pY{β:Type}:∀{m:List (Int×β)}{k:Int}{p:Int×β},p∈fU m k->p∈m
 |[],_,_,h=>by cases h
 |(R,u)::r,k,p,h=>by
  simp only [fU] at h;split at h
  .exact nR _ h
  .rcases hD.1 h with h|h
   .exact h▸qS
   .exact nR _ (pY h)
theorem uI{β:Type}:∀(m:List (Int×β))(k:Int),(fU m k).length<=m.length
 |[],_=>cF _
 |(R,u)::r,k=>by
  simp only [fU];split
  .simp
  .have:=uI r k;simp only [ex];omega
theorem aE.ok.wanted{g:al}{N M:Nat}{s:aE}(h:s.ok g N)(e:g.ok)(d:∀r,s.cur=some r->r.ok g M):(s.wanted g).1.aw=s.aw/\(s.wanted g).1.log=s.log/\(s.wanted g).1.cA=s.cA/\(s.wanted g).1.stored=s.stored/\(s.wanted g).1.eV=s.eV/\∀r,(s.wanted g).1.cur=some r->r.ok g (M+5)/\s.log.length<64:=by
 unfold aE.wanted;split
 .exact⟨j,j,j,j,j,λr a=>⟨(d r a).more (by omega),(h.cur r a).2⟩⟩
 .refine⟨j,j,j,j,j,λr a=>?_⟩;dsimp only at a;unfold fR at a;cases b:s.cur with
  |none=>rw [b] at a;cases a
  |some c=>
   rw [b] at a;have a:(c.g2 g _).1=r:=hn a;rw [<-a];exact⟨(d c b).g2 e,(h.cur c b).2⟩
theorem aE.yM(g:al)(a:aE×List aY)(p:Int×aY):((aE.one g a p).1.aw=a.1.aw/\(aE.one g a p).1.log=a.1.log/\(aE.one g a p).1.cA=a.1.cA/\(aE.one g a p).1.eV=a.1.eV)/\(aE.one g a p).1.stored.length<=a.1.stored.length/\(∀q∈(aE.one g a p).1.stored,q∈a.1.stored):=by
 unfold aE.one;split
 .exact⟨⟨j,j,j,j⟩,uI _ _,λq b=>pY b⟩
 .split
  .exact⟨⟨j,j,j,j⟩,uI _ _,λq b=>pY b⟩
  .exact⟨⟨j,j,j,j⟩,cF _,λq b=>b⟩
theorem ry{g:al}{c:Option ai}{m:aY}{M:Nat}(e:g.ok)(hm:m.dF)(h:∀r,c=some r->r.ok g M):∀r,(ho g c m).1=some r->r.ok g (M+6):=by
 intro r a;unfold ho at a;cases b:c with
 |none=>rw [b] at a;cases a
 |some d=>
  rw [b] at a;have a:(d.take g m).1=r:=hn a;rw [<-a];exact(h d b).take e hm
theorem tU{g:al}{c:Option ai}{M:Nat}(e:g.ok)(h:∀r,c=some r->r.ok g M):∀r,(i0 g c).1=some r->r.ok g (M+6):=by
 intro r a;unfold i0 at a;cases b:c with
 |none=>rw [b] at a;cases a
 |some d=>
  rw [b] at a;have a:(d.tick g).1=r:=hn a;rw [<-a];exact(h d b).tick e
theorem tX{g:al}{c:Option ai}{x:List UInt8}{M:Nat}(e:g.ok)(h:∀r,c=some r->r.ok g M):∀r,(fR g c x).1=some r->r.ok g (M+5):=by
 intro r a;unfold fR at a;cases b:c with
 |none=>rw [b] at a;cases a
 |some d=>
  rw [b] at a;have a:(d.g2 g x).1=r:=hn a;rw [<-a];exact(h d b).g2 e
theorem rz{g:al}{c:Option ai}{m:aY}:(ho g c m).1.isSome=c.isSome:=by cases c<;>rfl
theorem tV{g:al}{c:Option ai}:(i0 g c).1.isSome=c.isSome:=by cases c<;>rfl
theorem rA{g:al}{c:Option ai}{x:List UInt8}:(fR g c x).1.isSome=c.isSome:=by cases c<;>rfl
theorem aE.yL{g:al}{a:aE×List aY}{p:Int×aY}{M:Nat}(c:g.ok)(d:p.2.dF)(h:∀r,a.1.cur=some r->r.ok g M):∀r,(aE.one g a p).1.cur=some r->r.ok g (M+6):=by
 unfold aE.one;split
 .exact ry c d h
 .split
  .exact λr b=>(h r b).more (by omega)
  .exact λr b=>(h r b).more (by omega)
theorem aE.Fq{g:al}{a:aE×List aY}{p:Int×aY}:(aE.one g a p).1.cur.isSome=a.1.cur.isSome:=by
 unfold aE.one;split
 .exact rz
 .split<;>rfl
theorem aE.pI{g:al}(d:g.ok):∀(l:List (Int×aY))(a:aE×List aY)(M:Nat),(∀p∈l,p.2.dF)->(∀r,a.1.cur=some r->r.ok g M)->
 ((l.foldl (aE.one g) a).1.aw=a.1.aw/\(l.foldl (aE.one g) a).1.log=a.1.log/\(l.foldl (aE.one g) a).1.cA=a.1.cA/\(l.foldl (aE.one g) a).1.eV=a.1.eV)/\(l.foldl (aE.one g) a).1.stored.length<=a.1.stored.length/\(∀q∈(l.foldl (aE.one g) a).1.stored,q∈a.1.stored)/\(∀r,(l.foldl (aE.one g) a).1.cur=some r->r.ok g (M+6*l.length))/\(l.foldl (aE.one g) a).1.cur.isSome=a.1.cur.isSome
 |[],a,M,_,h=>⟨⟨j,j,j,j⟩,cF _,λq b=>b,h,j⟩
 |p::r,a,M,c,h=>by
  obtain⟨⟨e,f,i,k⟩,m,n⟩:=aE.yM g a p;obtain⟨⟨f1,f2,f3,f4⟩,f5,f6,f7,f8⟩:=aE.pI d r (aE.one g a p) (M+6) (λq b=>c q (by simp [b])) (aE.yL d (c p (by simp)) h);rw [h5];refine⟨⟨f1.trans e,f2.trans f,f3.trans i,f4.trans k⟩,ej f5 m,λq b=>n q (f6 q b),λx o=>(f7 x o).more (by rw [ex];omega),f8.trans aE.Fq⟩
theorem aE.HF{g:al}{s:aE}:(s.wanted g).1.cur.isSome=s.cur.isSome:=by
 unfold aE.wanted;split
 .rfl
 .exact rA
theorem aE.ok.dc{g:al}{N M:Nat}{s:aE}(h:s.ok g N)(f:g.ok)(n:∀r,s.cur=some r->r.ok g M)(t:M+773<=N):(s.dc g).1.ok g N:=by
 obtain⟨i,b,d,e,j,k⟩:=h.wanted f n;have o:∀p∈cW s.stored,p.2.dF:=λp c=>h.k8 p (g7.1 c)
 obtain⟨⟨f1,f2,f3,f4⟩,f5,f6,f7,f8⟩:=aE.pI f (cW s.stored) (s.wanted g) (M+5) o (λr a=>(k r a).1);have hlen:(cW s.stored).length<=128:=by rw [hN];exact h.stored
 unfold aE.dc;refine⟨by rw [f1,i];exact h.aw,by rw [f2,b];exact h.log,by rw [f2,b];exact h.ns,λr a=>⟨(f7 r a).more (by omega),?_⟩,by rw [f3,d];exact h.cA,by rw [f3,d];exact h.k2,Nat.le_trans f5 (by rw [e];exact h.stored),λp c=>h.k8 p (by have:=f6 p c;rwa [e] at this),by rw [f4,j];exact h.eV⟩;rw [f2,b];have l:s.cur.isSome=true:=by rw [<-aE.HF (g:=g),<-f8,a];rfl
 obtain⟨q,m⟩:=g8.1 l;exact(h.cur q m).2
theorem aE.ka{g:al}{N:Nat}{s:aE}{r:ai}(h:s.ok g N)(i:s.cur=some r):(s.next r).ok g N/\∀q,(s.next r).cur=some q->q.ok g 0:=by
 have l:=(h.cur r i).2;have d:=(h.cur r i).1
 have a:∀q,(s.next r).cur=some q->q=ai.new s.aw (s.log.length+1:Nat)/\s.log.length+1<64:=λq a=>by
  unfold aE.next at a;dsimp only at a;split at a
  .cases a;exact⟨j,by assumption⟩
  .cases a
 have f:∀q(K:Nat),(s.next r).cur=some q->q.ok g K:=λq K b=>by
  obtain⟨rfl,c⟩:=a q b;exact ai.lz h.aw ⟨by omega,by omega⟩ K
 refine⟨⟨h.aw,?_,?_,λq b=>⟨f q N b,?_⟩,?_,?_,h.stored,h.k8,h.eV⟩,λq b=>f q 0 b⟩
 .show(s.log++[(r.value,r.et)]).length<=64;rw [cj,List.length_singleton];omega
 .intro e he;rcases fL.1 (show e∈s.log++[(r.value,r.et)] from he) with c|c
  .exact h.ns e c
  .rw [hO.1 c];exact⟨d.value,d.et,d.sL⟩
 .show(s.log++[(r.value,r.et)]).length<64;rw [cj,List.length_singleton];exact(a q b).2
 .exact ej (nV _ _) h.cA
 .exact λx k=>h.k2 x (kI.1 k).1
theorem aE.xE{g:al}(a:g.ok):∀(k:Nat){N:Nat}{s:aE}{l:List aY},s.ok g N->773<=N->(aE.go g k s l).1.ok g N
 |0,_,_,_,h,_=>h
 |k+1,N,s,l,h,d=>by
  unfold aE.go;split
  .exact h
  .rename_i r e;split
   .obtain⟨b,c⟩:=aE.ka h e;exact aE.xE a k (b.dc a c (by omega)) d
   .exact h
theorem Ax{n:Nat}{Z:Env}{w:World}{P:Program}{dst:Option Nat}{ty:TypeId}{pos:String}{after:Array Edge}{g:Option (Nat×Bool)}{f:FuncId}{aG cs:Array Operand}{xs dh:List Value}(e:fl Z aG.toList=some xs)(h:fl Z cs.toList=some dh):
 ∀a,cN Z n a->(execOp a.eval ⟨dst,.makeFunc (.func f) aG cs,ty,pos,after,g⟩).run P w= .ok (.value (.func (.func f) xs.toArray dh.toArray)) w:=λa b=>by
 have c:aG.map a.eval=xs.toArray:=by apply fz;rw [g9,b.hf e]
 have d:cs.map a.eval=dh.toArray:=by apply fz;rw [g9,b.hf h]
 simp [execOp,c,d,Instr.makeFunc,Act.eval,Result.andThen]
def jS:List (Value×Value)->List (List UInt8×List aN)->List Chunk->Prop
 |[],[],G=>G=[]
 |e::es,x::l,G=>∃af aB bn,G=af++(aB++bn)/\d6 e.1 x.1 af/\en e.2 x.2 aB/\jS es l bn
 |[],_::_,_=>False
 |_::_,[],_=>False
abbrev CR(es:List (Value×Value)):List Value:=es.flatMap λe=>[e.1,e.2]
def m2(v:Value)(l:List (List UInt8×List aN))(G:List Chunk):Prop:=∃ak H es,G=ak++H/\Row 133 2 v l.length (CR es) ak/\jS es l H
theorem jS.len:∀{es:List (Value×Value)}{l:List (List UInt8×List aN)}{G:List Chunk},jS es l G->es.length=l.length
 |[],[],_,_=>rfl
 |[],_::_,_,h=>h.elim
 |_::_,[],_,h=>h.elim
 |_::es,_::l,_,⟨_,_,_,_,_,_,h⟩=>by simp [h.len]
theorem jS.app:∀{es c:List (Value×Value)}{l bZ:List (List UInt8×List aN)}{G a:List Chunk},jS es l G->jS c bZ a->jS (es++c) (l++bZ) (G++a)
 |[],_,[],_,_,_,h,b=>by have h:_=[]:=h;subst h;exact b
 |[],_,_::_,_,_,_,h,_=>h.elim
 |_::_,_,[],_,_,_,h,_=>h.elim
 |_::_,_,_::_,_,_,a,⟨af,aB,bn,rfl,d,e,h⟩,b=>⟨af,aB,bn++a,by simp [dS],d,e,h.app b⟩
theorem jS.one{e:Value×Value}{x:List UInt8×List aN}{af aB:List Chunk}(a:d6 e.1 x.1 af)(b:en e.2 x.2 aB):jS [e] [x] (af++aB):=⟨af,aB,[],by simp,a,b,j⟩
theorem jS.read{w:World}:∀{es:List (Value×Value)}{l:List (List UInt8×List aN)}{G:List Chunk},jS es l G->Holds w G->∀(i:Nat)(b:i<l.length),∃A c B d,es[i]? =some (.slice A l[i].1.length c,.slice B l[i].2.length d)/\l[i].1.length<=c/\c<=maxLen/\Rd w A (aP l[i].1)/\l[i].2.length<=d/\Rd w B (vcs l[i].2)
 |[],[],_,_,_,i,b=>by simp at b
 |[],_::_,_,h,_,_,_=>h.elim
 |_::_,[],_,h,_,_,_=>h.elim
 |(u,v)::es,x::l,_,⟨af,aB,bn,rfl,hu,k,h⟩,a,0,_=>by
  obtain⟨A,c,f,m,n,o,_⟩:=hu.read a.left;obtain⟨B,d,g,p,_,q,_⟩:=k.read a.right.left;have f:u=_:=f;have g:v=_:=g;subst f;subst g;exact⟨A,c,B,d,j,m,n,o,p,q⟩
 |e::es,x::l,_,⟨af,aB,bn,rfl,hu,k,h⟩,a,i+1,b=>by
  have:=h.read a.right.right i (by simpa using b);simpa using this
def kf(g:al)(v:Value)(c:Option ai)(G:List Chunk):Prop:=(c=none/\v= .pointer none/\G=[])\/∃r av,c=some r/\v=aa av/\ft g av r G
structure jX where
 log:Value
 cur:Value
 cA:Value
 stored:Value
abbrev oy(g:al)(s:aE)(c:jX):List Value:=[g.p,ab s.aw,c.log,c.cur,c.cA,c.stored,ab s.eV]
abbrev cB(g:al)(ba:Nat)(s:aE)(c:jX):List Chunk:=J ba (oy g s c).toArray 131
structure A0(g:al)(s:aE)(c:jX)(L a7 Q D:List Chunk):Prop where
 log:m2 c.log s.log L
 cur:kf g c.cur s.cur a7
 cA:h1 c.cA s.cA Q
 stored:iT c.stored s.stored D
def h3(g:al)(ba:Nat)(s:aE)(G:List Chunk):Prop:=∃(c:jX)(L a7 Q D:List Chunk),A0 g s c L a7 Q D/\G=cB g ba s c++(L++(a7++(Q++D)))
theorem C.p2{g:al}{ba:Nat}{s:aE}{c:jX}{L a7 Q D:List Chunk}{ae:List (List Chunk)}{o w:World}{F:List Nat}(h:C o F ((cB g ba s c++(L++(a7++(Q++D))))::ae) w):C o F (cB g ba s c::L::a7::Q::D::ae) w:=h.perm (by simp)
theorem C.ik{g:al}{ba:Nat}{s:aE}{c:jX}{L a7 Q D:List Chunk}{ae:List (List Chunk)}{o w:World}{F:List Nat}(h:C o F (cB g ba s c::L::a7::Q::D::ae) w):C o F ((cB g ba s c++(L++(a7++(Q++D))))::ae) w:=h.perm (by simp)
theorem E8{o:World}{g:al}{aw:Int}:Calls prog 54 #[g.p,ab aw] o λr w=>∃ba G,r=aa ba/\h3 g ba (aE.new aw) G/\C o [] [G] w:=by
 have a:Own [] o:=C.start o;refine a6 func54 ?_;refine bk 9 (yx (slot:=0)) j (λr w⟨av,cI,e,h,d⟩=>?_);subst e;have a:=a.aO d;refine bk 0 uV j (λr w⟨bS,f,e,i,d⟩=>?_);subst e;have a:=a.aO d;refine cP (c:=(oy g (aE.new aw) (⟨.slice none 0 0,aa av,.slice none 0 0,aa bS⟩:jX)).toArray) j j j (λ_=>by kernel_rfl) ?_;refine bJ 0 a j j (λb w a=>?_);refine an 1 j j ?_;have a:C o [] (cB g b (aE.new aw) (⟨.slice none 0 0,aa av,.slice none 0 0,aa bS⟩:jX)::_) w:=a;refine⟨b,_,j,⟨(⟨.slice none 0 0,aa av,.slice none 0 0,aa bS⟩:jX),[],cI,[],ay 287 bS f (.map #[] 0),⟨⟨[],[],[],j,Row.nil _ _,j⟩,.inr ⟨_,av,j,j,h⟩,⟨[],[],[],j,Row.nil _ _,j⟩,fo.new i⟩,j⟩,?_⟩;exact C.perm (A:=[cB g b (aE.new aw) (⟨.slice none 0 0,aa av,.slice none 0 0,aa bS⟩:jX),cI,ay 287 bS f (.map #[] 0)]) a.as (by simp)
theorem DK{o:World}{ez:FuncId}[Entry prog ez]{be:Array Value}{p:List UInt8->Bool}{T:World->Prop}(M:∀(g:World)(A B:Option Addr)(x:List UInt8)(l:List aN)(bN d:Nat),T g->Rd g A (aP x)->Calls prog ez (#[]++ #[.agg #[.slice A x.length bN,.slice B l.length d]]++be) g (λr w=>r= .bool (p x)/\C g [] [] w))(K:∀w,C o [] [] w->T w){v:Value}{l:List (List UInt8×List aN)}{G:List Chunk}(L:m2 v l G)(s:Holds o G):Calls prog 254 #[v,.func (.func ez) #[] be] o λr w=>(∃z:Int,r= .int .i64 z/\decide (z>=0)=l.any λe=>p e.1)/\C o [] [] w:=by
 have a:Own [] o:=C.start o;obtain⟨X,W,es,rfl,J,q⟩:=L;obtain⟨E,H,rfl,af,S,O,_⟩:=J.read s.left;have aa:=q.len;have t:∀e∈es,([e.1,e.2]:List Value).length=2:=λ_ _=>rfl
 refine a6 func254 ?_
 refine dj 10 j (cU:=Nat) (λi=>[(0,.slice E l.length H),(1,.func (.func ez) #[] be),(7,.int .i64 (l.length:Nat)),(8,.int .i64 (i:Nat))])
  (λi w=>i<=l.length/\((l.take i).any λe=>p e.1)=false/\C o [] [] w) (λi=>l.length-i) 0 ⟨j,j,j,j,bb⟩ ⟨cp _,j,a⟩ ?_
 rintro i w ⟨ab,n,a⟩;refine cy 4 j j (λF=>?_) (λF=>?_)
 .have b:i<l.length:=by omega
  obtain⟨c,ci,h,m,Q,ac,ae,P,_,_⟩:=q.read (s.right.st a) i b;have u:es[i]'(by omega)=(.slice c l[i].1.length ci,.slice h l[i].2.length m):=by have:=Q;rw [cr (by omega)] at this;exact hn this
  have D:=a.rd O (cc.of_nil _ _);refine aq 12 j (fJ j j j j D (v:=.slice c l[i].1.length ci) (iI (f:=λe:Value×Value=>[e.1,e.2]) (R:=0) es t i (by omega) (by decide) (by rw [u];rfl)) b (λY I Z=>?_));subst I;have y:=j6 (f:=λe:Value×Value=>[e.1,e.2]) D t i (by omega);rw [u] at y;refine bP 0 (U:=[.slice c l[i].1.length ci,.slice h l[i].2.length m]) j j j y (hx j j j j (M _ c h l[i].1 l[i].2 ci m (K _ a) P) (λr w⟨V,ad⟩=>?_));subst V;have a:=(a.aO ad).bare;refine bo 0 j j (λk=>?_) (λk=>?_)
  .refine an 4 j j (⟨⟨_,j,?_⟩,a⟩);rw [hM (by omega)];exact(j2.2 ⟨_,eB b,k⟩).symm
  refine bE 2 j j j (dn i (by unfold maxLen at S;omega)) (bW 1 j (⟨i+1,⟨j,j,j,j,bb⟩,⟨b,?_,a⟩,by omega⟩));rw [fK b,qX,n];simp [k]
 refine an 4 j j ?_;have N:i=l.length:=by omega
 rw [N,gm] at n;exact⟨⟨_,j,by rw [n];rfl⟩,a⟩
theorem Cv{o:World}{ez:FuncId}[Entry prog ez]{be:Array Value}{p:List UInt8->Bool}{T:World->Prop}(g:∀(a:World)(A B:Option Addr)(x:List UInt8)(l:List aN)(bN d:Nat),T a->Rd a A (aP x)->Calls prog ez (#[]++ #[.agg #[.slice A x.length bN,.slice B l.length d]]++be) a (λr w=>r= .bool (p x)/\C a [] [] w))(c:∀w,C o [] [] w->T w){v:Value}{l:List (List UInt8×List aN)}{G:List Chunk}(f:m2 v l G)(b:Holds o G):Calls prog 207 #[v,.func (.func ez) #[] be] o λr w=>r= .bool (l.any λe=>p e.1)/\C o [] [] w:=by
 refine a6 func207 (bk 7 (DK g c f b) j (λr w⟨⟨z,h,i⟩,ad⟩=>?_));subst h;exact an 2 j j ⟨aK Value.bool i,ad⟩
theorem zQ{o:World}{a:Nat}{A B:Option Addr}{xs dh:List UInt8}{bN d:Nat}(e:o.heap[a]? =some (.cells #[.slice B dh.length d] 26 (0,0)))(b:Rd o A (aP xs))(c:Rd o B (aP dh)):Calls prog 205 (#[]++ #[.slice A xs.length bN]++ #[aa a]) o λr w=>r= .bool (decide (xs=dh))/\w=o:=by
 refine a6 func205 (ar 6 j (ax e j) (br 0 (pF b c) j (λw hw=>?_)));subst hw;exact an 1 j j ⟨j,j⟩
theorem Hd{o:World}{b c:Nat}{A B a7:Option Addr}{xs dh:List UInt8}{l:List aN}{bN d dl:Nat}(g:o.heap[b]? =some (.cells #[.slice B dh.length d] 26 (0,0)))(h:o.heap[c]? =some (.cells #[.func (.func 205) #[] #[aa b]] 298 (0,0)))(e:Rd o A (aP xs))(f:Rd o B (aP dh)):Calls prog 208 (#[]++ #[.agg #[.slice A xs.length bN,.slice a7 l.length dl]]++ #[aa c]) o λr w=>r= .bool (decide (xs=dh))/\C o [] [] w:=by
 have a:Own [] o:=C.start o;refine a6 func208 (bJ 2 a j j (λaS w a=>ar 3 j (ax (a.b8 h) j) (ar 1 j (ax (C.aj a) j) (hx j j j j (zQ (a.b8 g) (a.rd e (cc.of_nil _ _)) (a.rd f (cc.of_nil _ _))) (λr w⟨i,hw⟩=>?_)))));subst i;subst hw;exact an 1 j j ⟨j,a.bare⟩
theorem DX{o:World}{ba:Nat}{g:al}{s:aE}{c:jX}(n:o.heap[ba]? =some (.cells (oy g s c).toArray 131 (0,0))){L Q:List Chunk}(z:m2 c.log s.log L)(B:h1 c.cA s.cA Q)(u:Holds o L)(v:Holds o Q){A:Option Addr}{x:List UInt8}{bN:Nat}(q:Rd o A (aP x)):Calls prog 168 #[aa ba,.slice A x.length bN] o λr w=>r= .bool (s.there x)/\C o [] [] w:=by
 have a:Own [] o:=C.start o;refine a6 func168 (bJ 2 a j j (λd w a=>?_));have a:C o [] [J d #[.slice A x.length bN] 26] w:=a;refine aq 3 j (gI j j j j ?_);refine cx 0 a j (λe w a=>dE 0 (a.bc e) j j j j (λw a=>?_));have a:C o [] ([(e,.cells #[.func (.func 205) #[] #[aa d]] 298 (0,0))]::_) w:=a;have a:C o [] [J d #[.slice A x.length bN] 26,[(e,.cells #[.func (.func 205) #[] #[aa d]] 298 (0,0))]] w:=a.as;have a:=a.drew;refine bx 1 j (λw=>∃ae,C o [] ([J d #[.slice A x.length bN] 26,[(e,.cells #[.func (.func 205) #[] #[aa d]] 298 (0,0))]]++ae) w) ⟨_,a⟩ (ag 0 3 j (b4 3 j (λw⟨_,a⟩=>ax (a.b8 n) j) (a8 4 j a2 j (aX 5 j ?_))));have l:=wU (p:=λy=>decide (y=x)) (be:= #[aa d]) (ez:=205) (λgP F t i=>zQ (C.aj a) i (a.rd q (cc.of_nil _ _))) B (v.st a);refine bK j j j l (λw hw=>?_);subst hw;refine ao ⟨⟨_,a⟩,?_⟩;refine ag 6 1 j (ek 13 j (λm=>?_) (λm=>?_));refine ag 7 8 j ?_;rotate_left
 refine ag 7 3 j (b4 10 j (λw⟨_,a⟩=>ax (a.b8 n) j) (bl 11 j (λw⟨_,a⟩=>Ax j j) (aX 12 j ?_)));have D:=C.aj (b:=d) a;have E:=C.aj (b:=e) a;have l:=Cv (p:=λy=>decide (y=x)) (be:= #[aa e]) (ez:=208) (T:=λf=>f.heap[d]? =some (.cells #[.slice A x.length bN] 26 (0,0))/\f.heap[e]? =some (.cells #[.func (.func 205) #[] #[aa d]] 298 (0,0))/\Rd f A (aP x)) (λf gP G F bZ t H k i=>Hd k.1 k.2.1 i k.2.2) (λf h=>⟨h.b8 D,h.b8 E,h.rd (a.rd q (cc.of_nil _ _)) (cc.of_nil _ _)⟩) z (u.st a);refine bK j j j l (λw ad=>?_);have a:=a.aO ad;have a:C o [] [J d #[.slice A x.length bN] 26,[(e,.cells #[.func (.func 205) #[] #[aa d]] 298 (0,0))]] w:=a.as;refine ao ⟨⟨_,a⟩,?_⟩;refine ag 13 2 j ?_;rotate_left
 all_goals
  refine bL (an 0 j j (⟨aK Value.bool ?_,a.bare⟩));unfold aE.there;rw [m];rfl
abbrev m1(p:List UInt8->Bool)(us:List Value)(l:List (List UInt8))(R:Nat):List Value:=(((us.zip l).take R).filter λe=> !p e.2).map Prod.fst
theorem sT{p:List UInt8->Bool}{us:List Value}{l:List (List UInt8)}{R:Nat}(c:us.length=l.length)(b:R<l.length):m1 p us l (R+1)=m1 p us l R++(if p l[R]=true then [] else [us[R]'(by omega)]):=by
 unfold m1;rw [fK (by rw [nW];omega),mE,List.map_append,List.getElem_zip];by_cases a:p l[R]=true
 .rw [aR a];simp [a]
 .rw [az a];simp [a]
theorem Ai{p:List UInt8->Bool}{us:List Value}{l:List (List UInt8)}:∀{R:Nat},us.length=l.length->R<=l.length->(l.take R).any p=false->m1 p us l R=us.take R
 |0,_,_,_=>by simp [m1]
 |R+1,a,d,h=>by
  have b:R<l.length:=d;rw [fK b,qX] at h;simp only [Bool.or_eq_false_iff] at h;have c:p l[R]=false:=by simpa using h.2
  rw [sT a b,Ai a (by omega) h.1,az (by rw [c];decide),fK (show R<us.length by omega)]
theorem hI.xi{p:List UInt8->Bool}:∀{us:List Value}{l:List (List UInt8)}{H:List Chunk},hI us l H->∃H1 ak,H.Perm (H1++ak)/\hI (((us.zip l).filter λe=> !p e.2).map Prod.fst) (l.filter λx=> !p x) H1
 |[],[],_,h=>⟨[],[],by have h:_=[]:=h;subst h;exact .refl _,j⟩
 |[],_::_,_,h=>h.elim
 |_::_,[],_,h=>h.elim
 |u::us,x::l,_,⟨af,aB,rfl,hu,h⟩=>by
  obtain⟨H1,ak,b,a⟩:=h.xi (p:=p);by_cases c:p x=true
  .refine⟨H1,af++ak,?_,?_⟩
   .refine(o8 af b).trans ?_;rw [<-dS,<-dS];exact n3 _ ll
   .simpa [tr,pb,c] using a
  .refine⟨af++H1,ak,?_,?_⟩
   .rw [dS];exact o8 af b
   .simp only [tr,pb,c,Bool.not_false,ib,jh];exact⟨af,H1,j,hu,a⟩
theorem DI{o:World}{ez:FuncId}[Entry prog ez]{be:Array Value}{p:List UInt8->Bool}{T:World->Prop}(y:∀(c:World)(A:Option Addr)(x:List UInt8)(bN:Nat),T c->Rd c A (aP x)->Calls prog ez (#[]++ #[.slice A x.length bN]++be) c (λr w=>r= .bool (p x)/\w=c))(s:T o){v:Value}{l:List (List UInt8)}{G:List Chunk}(t:h1 v l G)(f:Holds o G):Calls prog 222 #[v,.func (.func ez) #[] be] o λr w=>(∃z:Int,r= .int .i64 z/\((z= -1/\l.any p=false)\/∃i:Nat,∃h:i<l.length,z=i/\(l.take i).any p=false/\p l[i]=true))/\w=o:=by
 obtain⟨J,I,us,rfl,q,n⟩:=t;obtain⟨g,m,rfl,P,F,C,_⟩:=q.read f.left;refine a6 func222 ?_
 refine dj 10 j (cU:=Nat) (λi=>[(0,.slice g l.length m),(1,.func (.func ez) #[] be),(7,.int .i64 (l.length:Nat)),(8,.int .i64 (i:Nat))])
  (λi w=>i<=l.length/\(l.take i).any p=false/\w=o) (λi=>l.length-i) 0 ⟨j,j,j,j,bb⟩ ⟨cp _,j,j⟩ ?_
 rintro i w ⟨M,b,hw⟩;subst hw;refine cy 4 j j (λk=>?_) (λk=>?_)
 .have a:i<l.length:=by omega
  obtain⟨e,ci,E,N,O,D⟩:=n.read f.right i a;refine aq 12 j (fJ j j j j C (v:=.slice e l[i].length ci) (by rw [gK];exact E) a (λK L u=>?_));refine ar 0 j u (hx j j j j (y _ e l[i] ci s D) (λr w⟨H,hw⟩=>?_));subst H;subst hw;refine bo 0 j j (λd=>?_) (λd=>?_)
  .exact an 4 j j ⟨⟨_,j,.inr ⟨i,a,j,b,d⟩⟩,j⟩
  refine bE 2 j j j (dn i (by unfold maxLen at F;omega)) (bW 1 j (⟨i+1,⟨j,j,j,j,bb⟩,⟨a,?_,j⟩,by omega⟩));rw [fK a,qX,b];simp [d]
 refine an 4 j j ?_;have B:i=l.length:=by omega
 rw [B,gm] at b;exact⟨⟨_,j,.inl ⟨j,b⟩⟩,j⟩
theorem CK{o:World}{ez:FuncId}[Entry prog ez]{be:Array Value}{p:List UInt8->Bool}{T:World->Prop}(Y:∀(H:World)(A:Option Addr)(x:List UInt8)(bN:Nat),T H->Rd H A (aP x)->Calls prog ez (#[]++ #[.slice A x.length bN]++be) H (λr w=>r= .bool (p x)/\w=H)){v:Value}{l:List (List UInt8)}{G:List Chunk}(P:∀w ae,C o (au [G]) ae w->T w)(Q:h1 v l G)(a:Own [G] o):Calls prog 179 #[v,.func (.func ez) #[] be] o λr w=>∃af,h1 r (l.filter λx=> !p x) af/\C o (au [G]) [af] w:=by
 obtain⟨q,X⟩:∃q,q=au [G]:=⟨_,j⟩;rw [<-X] at P⊢;have a:C o q [G] o:=X▸a;refine a6 func179 (bk 7 (DI Y (P _ _ a) Q a.uv) j (λr w⟨⟨z,aC,F⟩,hw⟩=>?_));subst aC;have hw:=hw.symm;subst hw;refine bo 6 j j (λt=>?_) (λt=>?_)
 .refine an 4 j j ?_
  have ak:l.any p=false:=by
   rcases F with h|⟨i,_,rfl,_⟩
   .exact h.2
   .have:=ea.1 t;omega
  have e:(l.filter λx=> !p x)=l:=List.filter_eq_self.2 (λx E=>by
   rcases h:p x with _|_
   ·rfl
   ·have:=j2.2 ⟨x,E,h⟩;rw [ak] at this;cases this)
  rw [e];exact⟨G,Q,a⟩
 obtain⟨U,aa,rfl,aw,ax⟩:=F.resolve_left (λh=>by rw [h.1] at t;cases t);obtain⟨aI,ac,us,rfl,O,W⟩:=Q;obtain⟨E,ai⟩:=O;obtain⟨b,cap,K,rfl,rfl,av,S,am,aE⟩:=ai.resolve_left (λh=>by have:=h.2.1;omega);have O:Row 26 1 (.slice (some ⟨b,0,none⟩) l.length cap) l.length us (J b K 26):=⟨E,.inr ⟨b,cap,K,j,j,av,S,am,aE⟩⟩;have D:us.length=l.length:=by rw [E,gK]
 have a:=a.split;have S:cap<=9223372036854775807:=by unfold maxLen at S;omega
 refine bE 5 j j j (dn U (by omega)) ?_
 refine dj 2 j (cU:=Nat×Nat×List Value×Array Value) (λk=>[(0,.slice (some ⟨b,0,none⟩) l.length cap),(1,.func (.func ez) #[] be),(5,.int .i64 (k.1:Nat)),(6,.int .i64 (k.2.1:Nat))])
  (λk w=>k.1<k.2.1/\k.2.1<=l.length/\k.2.2.1.take k.1=m1 p us l k.2.1/\k.2.2.1.drop k.2.1=us.drop k.2.1/\Row 26 1 (.slice (some ⟨b,0,none⟩) l.length cap) l.length k.2.2.1 (J b k.2.2.2 26)/\C o q [J b k.2.2.2 26,ac] w) (λk=>l.length-k.2.1) (U,U+1,us,K) ⟨j,j,j,j,bb⟩ ⟨Nat.lt_succ_self _,aa,?_,j,O,a⟩ ?_
 .dsimp only;rw [sT D aa,aR ax,gA,Ai D (by omega) aw]
 rintro⟨i,R,s,cur⟩ w ⟨ao,ap,y,u,f,a⟩;dsimp only at ao ap y u f a⊢;have aQ:s.length=l.length:=by rw [f.1,gK]
 have aL:cap<=cur.size:=by
  obtain⟨_,h|⟨_,_,_,L,M,_,_,aJ,_⟩⟩:=f
  .have:=h.2.1;omega
  .cases L;cases M;omega
 refine cy 7 j j (λad=>?_) (λad=>?_)
 .have n:R<l.length:=by omega
  refine aq 7 j (hy j j j j n ?_);obtain⟨c,d,ab,aN,aO,aD⟩:=W.read (a.holds (by simp)) R n
  have aF:s[R]? =some (.slice c l[R].length d):=by
   have m:=aK (λz:List Value=>z[0]?) u;simp only [mI,nd] at m;rw [m];exact ab
  refine nI j j j j (by
   obtain⟨_,_,e,_,_,h,_⟩:=f.rd a;cases e;have:=h.cell aF;rw [add_lit] at this;simpa using this) ?_
  refine aq 5 j (hx j j j j (Y _ c l[R] d (P _ _ a) aD) (λr w⟨F,hw⟩=>?_));subst F;have hw:=hw.symm;subst hw;refine bo 1 j j (λI=>?_) (λI=>?_)
  .refine aq 5 j (hy j j j j (show i<l.length by omega) ?_);refine cO a j j j j (by omega) (λw a=>?_);have ah:=f.set i (.slice c l[R].length d);have a:=C.f9 a (show cur.setIfInBounds (0+i*1) (.slice c l[R].length d)=cur.setIfInBounds i (.slice c l[R].length d) by rw [fe,gK]);refine bE 2 j j j (dn i (by omega)) (bE 3 j j j (dn R (by omega)) (bW 1 j ?_));have aA:p l[R]=false:=by simpa using I
   refine⟨(i+1,R+1,s.set i (.slice c l[R].length d),_),⟨j,j,j,j,bb⟩,⟨by dsimp only;omega,n,?_,?_,ah,a⟩,by dsimp only;omega⟩
   .dsimp only;have aG:us[R]'(by omega)= .slice c l[R].length d:=by have:=ab;rw [cr (by omega)] at this;exact hn this
    rw [sT D n,az (by rw [aA];decide),<-y,aG];rw [fK (by rw [gJ];omega),List.getElem_set_self,List.take_set_of_le (by omega)]
   dsimp only;rw [List.drop_set_of_lt (by omega)];have m:=aK (List.drop 1) u;simpa [List.drop_drop] using m
  refine bE 3 j j j (dn R (by omega)) (bW 1 j ?_);have aB:p l[R]=true:=by simpa using I
  refine⟨(i,R+1,s,cur),⟨j,j,j,j,bb⟩,⟨by dsimp only;omega,n,?_,?_,f,a⟩,by dsimp only;omega⟩
  .dsimp only;rw [sT D n,aR aB,gA];exact y
  dsimp only;have m:=aK (List.drop 1) u;simpa [List.drop_drop] using m
 have ar:R=l.length:=by omega
 subst ar;refine aq 5 j (nK j j j j (show i<=l.length by omega) ?_);refine bY 38 (.slice (some ⟨b,0+i*1,none⟩) (l.length-i) (cap-i)) j (by rw [az (by omega)];simp [add_lit]) (vQ (size:=1) a j j (by decide) j j j (by omega) (λg w aM Z a=>aq 4 j (qM j j j j (show i<=cap by omega) ?_)));refine an 1 j j ?_;have aH:m1 p us l l.length=((us.zip l).filter λe=> !p e.2).map Prod.fst:=by unfold m1;rw [List.take_of_length_le (by rw [List.length_zip];omega)]
 obtain⟨H1,V,ay,N⟩:=W.xi (p:=p);rw [<-aH,<-y] at N;have al:i=(l.filter λx=> !p x).length:=by have:=N.len;rw [hC] at this;omega
 refine⟨J b g 26++H1,⟨J b g 26,H1,s.take i,j,?_,N⟩,?_⟩
 .rw [<-al];refine⟨by rw [hC];omega,.inr ⟨b,cap,g,j,j,by omega,by unfold maxLen;omega,by omega,?_⟩⟩;obtain⟨_,h|⟨_,_,_,L,M,_,_,_,ag⟩⟩:=f
  .have:=h.2.1;omega
  cases L;cases M;rw [gK,<-ag];rw [fe,gK] at Z;rw [Z,List.take_take,mD (by omega)]
 have aj:C o q [J b g 26,H1,V] w:=a.perm (B:=[J b g 26,H1,V]) (by simpa using ay);exact C.perm (A:=[J b g 26,H1]) aj.as (by simp)
theorem HD{o:World}{v:Value}:Calls prog 169 #[.pointer none,v] o λr w=>r= .slice none 0 0/\C o [] [] w:=by
 have a:Own [] o:=C.start o;refine a6 func169 (aq 9 j (bY 7 (.bool true) j (aK Value.bool (j)) ?_));exact an 9 j j ⟨j,a⟩
theorem Hf{o:World}:Calls prog 140 #[.pointer none] o λr w=>r= .slice none 0 0/\C o [] [] w:=by
 have a:Own [] o:=C.start o;refine a6 func140 (aq 9 j (bY 8 (.bool true) j (aK Value.bool (j)) ?_));refine aq 6 j (bY 14 (.bool true) j (aK Value.bool (j)) ?_);exact an 10 j j ⟨j,a⟩
theorem GZ{o:World}{m:aD}:Calls prog 133 #[.pointer none,.agg m.cs.toArray] o λr w=>r= .slice none 0 0/\C o [] [] w:=by
 have a:Own [] o:=C.start o;refine a6 func133 (bJ 2 a j j (λb w a=>aq 7 j (bY 7 (.bool true) j (aK Value.bool (j)) ?_)));refine aq 6 j (bY 13 (.bool true) j (aK Value.bool (j)) ?_);exact an 9 j j ⟨j,a.bare⟩
theorem Aa{o:World}{g:al}{v:Value}{c:Option ai}{G:List Chunk}{A:Option Addr}{x:List UInt8}{bN:Nat}(s:Rd o A (aP x))(t:x.length<=1000000)(d:kf g v c G){N:Nat}(n:∀r,c=some r->r.ok g N)(f:N+10<=1000000)(k:g.at o)(l:g.ok)(m:g.off (au [G]))(a:Own [G] o):Calls prog 169 #[v,.slice A x.length bN] o λr w=>∃bj af,cC r (fR g c x).2 bj/\kf g v (fR g c x).1 af/\C o (au [G]) [af,bj] w:=by
 rcases d with⟨rfl,rfl,rfl⟩|⟨r,av,rfl,rfl,h⟩
 .refine Calls.mono HD (λr w⟨p,ad⟩=>⟨[],[],?_,.inl ⟨j,j,j⟩,?_⟩)
  .rw [p];exact cC.nil
  .exact(a.gT (show C o (au [[]]) [[],[]] w from(by
    have b:C o [] [[],[]] w:=ad.empty.empty;exact b)):_)
 .refine Calls.mono (HE s t h (n r j) f k l m a) (λq w⟨bj,af,e,i,ad⟩=>⟨bj,af,e,.inr ⟨_,av,j,j,i⟩,ad⟩)
theorem zL{o:World}{g:al}{v:Value}{c:Option ai}{G:List Chunk}{m:aD}(hm:m.ok o)(d:kf g v c G){N:Nat}(p:∀r,c=some r->r.ok g N)(f:N+10<=1000000)(k:g.at o)(l:g.ok)(n:g.off (au [G]))(a:Own [G] o):Calls prog 133 #[v,.agg m.cs.toArray] o λr w=>∃bj af,cC r (ho g c m.P).2 bj/\kf g v (ho g c m.P).1 af/\C o (au [G]) [af,bj] w:=by
 rcases d with⟨rfl,rfl,rfl⟩|⟨r,av,rfl,rfl,h⟩
 .refine Calls.mono GZ (λr w⟨s,ad⟩=>⟨[],[],?_,.inl ⟨j,j,j⟩,?_⟩)
  .rw [s];exact cC.nil
  .exact(a.gT (show C o (au [[]]) [[],[]] w from(by
    have b:C o [] [[],[]] w:=ad.empty.empty;exact b)):_)
 .refine Calls.mono (G2 hm h (p r j) f k l n a) (λq w⟨bj,af,e,i,ad⟩=>⟨bj,af,e,.inr ⟨_,av,j,j,i⟩,ad⟩)
theorem He{o:World}{g:al}{v:Value}{c:Option ai}{G:List Chunk}(d:kf g v c G){N:Nat}(n:∀r,c=some r->r.ok g N)(f:N+10<=1000000)(k:g.at o)(l:g.ok)(m:g.off (au [G]))(a:Own [G] o):Calls prog 140 #[v] o λr w=>∃bj af,cC r (i0 g c).2 bj/\kf g v (i0 g c).1 af/\C o (au [G]) [af,bj] w:=by
 rcases d with⟨rfl,rfl,rfl⟩|⟨r,av,rfl,rfl,h⟩
 .refine Calls.mono Hf (λr w⟨p,ad⟩=>⟨[],[],?_,.inl ⟨j,j,j⟩,?_⟩)
  .rw [p];exact cC.nil
  .exact(a.gT (show C o (au [[]]) [[],[]] w from(by
    have b:C o [] [[],[]] w:=ad.empty.empty;exact b)):_)
 .refine Calls.mono (Hg h (n r j) f k l m a) (λq w⟨bj,af,e,i,ad⟩=>⟨bj,af,e,.inr ⟨_,av,j,j,i⟩,ad⟩)
theorem ai.G7{g:al}(a:g.ok)(s:ai)(m:aY):(s.take g m).2.length<=50:=by
 unfold ai.take;split
 .exact cp _
 .exact ai.sy a _
theorem ai.HH{g:al}(a:g.ok)(s:ai)(x:List UInt8):(s.g2 g x).2.length<=50:=by
 unfold ai.g2;split
 .exact cp _
 .exact ai.sy a _
theorem ai.Hk{g:al}(a:g.ok)(s:ai):(s.tick g).2.length<=51:=by
 unfold ai.tick;split
 .exact cp _
 .rw [cj];have b:=ai.zS g s;have c:=ai.sy a (s.gy g).1;omega
theorem rv{g:al}(a:g.ok)(c:Option ai)(m:aY):(ho g c m).2.length<=50:=by
 cases c with
 |none=>exact cp _
 |some r=>exact ai.G7 a r m
theorem tW{g:al}(a:g.ok)(c:Option ai)(x:List UInt8):(fR g c x).2.length<=50:=by
 cases c with
 |none=>exact cp _
 |some r=>exact ai.HH a r x
theorem w5{g:al}(a:g.ok)(c:Option ai):(i0 g c).2.length<=51:=by
 cases c with
 |none=>exact cp _
 |some r=>exact ai.Hk a r
theorem aE.Fp{g:al}(b:g.ok)(a:aE×List aY)(p:Int×aY):(aE.one g a p).2.length<=a.2.length+50:=by
 unfold aE.one;split
 .dsimp only;rw [cj];have:=rv b a.1.cur p.2;omega
 .split<;>exact gp _ _
theorem aE.ul{g:al}(b:g.ok):∀(l:List (Int×aY))(a:aE×List aY),(l.foldl (aE.one g) a).2.length<=a.2.length+50*l.length
 |[],_=>by simp
 |p::r,a=>by
  rw [h5];have c:=aE.ul b r (aE.one g a p);have d:=aE.Fp b a p;rw [ex];omega
theorem aE.Ab{g:al}(a:g.ok)(s:aE):(s.wanted g).2.length<=50:=by
 unfold aE.wanted;split
 .exact cp _
 .exact tW a _ _
theorem aE.wF{g:al}(a:g.ok){s:aE}(h:s.stored.length<=128):(s.dc g).2.length<=6450:=by
 unfold aE.dc;have b:=aE.ul a (cW s.stored) (s.wanted g);have c:=aE.Ab a s;rw [hN] at b;omega
theorem xx{α β:Type}{f:β->α->β}{b:β}{l t1 t2:List α}{p:α}{n:Nat}(a:l=t1++p::t2)(aT:t1.length=n):(l.take (n+1)).foldl f b=f ((l.take n).foldl f b) p:=by
 subst a;subst aT;rw [o9,List.take_append,List.take_of_length_le (by omega),List.take_of_length_le (Nat.le_refl _),show t1.length+1-t1.length=1 by omega,Nat.sub_self];simp [nb]
theorem wG{o:World}{g:al}{ba:Nat}{s:aE}{G:List Chunk}(ca:h3 g ba s G){N M:Nat}(Y:s.ok g N)(bm:∀r,s.cur=some r->r.ok g M)(cU:M+783<=1000000)(aP:g.at o)(T:g.ok)(aD:g.off (au [G]))(d:Own [G] o):Calls prog 181 #[aa ba] o λr w=>∃bj af,cC r (s.dc g).2 bj/\h3 g ba (s.dc g).1 af/\C o (au [G]) [af,bj] w:=by
 obtain⟨c,L,a7,Q,D,O,rfl⟩:=ca;obtain⟨t,bh⟩:∃t,t=au [cB g ba s c++(L++(a7++(Q++D)))]:=⟨_,j⟩;rw [<-bh] at aD⊢;have d:C o t [cB g ba s c++(L++(a7++(Q++D)))] o:=bh▸d;have d:=d.p2;obtain⟨am,ah,I,bE,n,aA,bA,aT,b7⟩:=O.stored;subst b7;obtain⟨be,a9,us,aM,aY,bg⟩:=O.cA;obtain⟨bP,bV,aN,c1,c2⟩:=aY.form;obtain⟨cN,cL,es,cT,cb,cR⟩:=O.log;obtain⟨cG,cQ,ci,cY,cZ⟩:=cb.form;obtain⟨cv,bL,cw,cz,cD,bM⟩:=Y.wanted T bm;refine jH func181 (bJ 2 d j j (λaC w d=>?_));have d:C o t (J aC #[aa ba] 65::_) w:=d;refine cx 3 d j (λl w d=>?_);have d:C o t (J l #[.slice none 0 0] 58::J aC #[aa ba] 65::_) w:=d;refine ar 3 j (ax (C.aj d) j) (ar 2 j (ax (C.aj (b:=ba) d) (aK some aN)) (bo 2 j j (λaH=>?_) (λaH=>?_)));have d:C o t [J aC #[aa ba] 65,cB g ba s c,Q,J l #[.slice none 0 0] 58,L,a7,ay 287 am ah I++n] w:=d.as;refine l2 0 j (λw=>∃ae,C o t ([J aC #[aa ba] 65,cB g ba s c,Q]++ae) w) ?_;have d:=d.drew;have ak:0<s.cA.length:=by have:=of_decide_eq_true aH;omega
 have bv:=d.holds (G:=Q) (by simp);obtain⟨bQ,bN,a3,_,_,_⟩:=bg.read (show Holds _ a9 by have h:=bv;rw [aM] at h;exact h.right) 0 ak
 obtain⟨aW,a8,bf⟩:∃aW a8,bP=some ⟨aW,a8,none⟩:=by
  obtain⟨gP,cP,e,_,_,co,cl⟩:=aY.read (show Holds _ be by have h:=bv;rw [aM] at h;exact h.left);rw [aN] at e;cases e;rcases cl with rfl|h
  .obtain⟨_,h,_⟩:=co 0 _ a3;cases h
  .exact h
 refine eL 0 j ⟨_,d⟩ (λw⟨_,d⟩=>hv j j (ax (C.aj d) j)) (fM 2 [1,2] j ⟨_,d⟩ (eL 3 j ⟨_,d⟩ (λw⟨_,d⟩=>hv j j (ax (C.aj d) j)) (eL 4 j ⟨_,d⟩ (λw⟨_,d⟩=>hv j j (ax (C.aj d) j)) ?_)));refine fM 2 [5,6] j ⟨_,d⟩ (eL 7 j ⟨_,d⟩ (λw⟨_,d⟩=>hv j j (ax (C.aj (b:=ba) d) (aK some aN))) (qG 20 (.slice (some ⟨aW,a8,none⟩) s.cA.length bV) j (by rw [bf]) (eL 8 j ⟨_,d⟩ (λw _=>g4 (R:=0) j j (by simpa using ak)) (eL 9 j ⟨_,d⟩ (λw⟨_,d⟩=>hv j j (v:=.slice bQ s.cA[0].length bN) (by obtain⟨_,_,e,_,_,h,_⟩:=aY.read (show Holds w be by have h:=d.holds (G:=Q) (by simp);rw [aM] at h;exact h.left);rw [aN] at e;cases e;rw [bf] at h;have av:=h.cell a3;rw [add_lit] at av;simpa using av)) (d5 10 j ?_)))));obtain⟨_,_,e,_,_,cp⟩:=bg.read (show Holds _ a9 by have h:=d.holds (G:=Q) (by simp);rw [aM] at h;exact h.right) 0 ak;rw [a3] at e;cases e;have X:=Aa (g:=g) (bN:=bN) cp (by have:=Y.k2 _ (eB ak);omega) O.cur bm (by omega) (aP.st d aD) T (d.eE aP aD) d.ours;refine cS j j j X (λr w⟨bj,i,bs,b5,aB⟩=>?_);have d:=d.b1 aB;have d:C o t [J aC #[aa ba] 65,cB g ba s c,Q,J l #[.slice none 0 0] 58,L,i,ay 287 am ah I++n,bj] w:=d.as;refine ao ⟨⟨_,d⟩,?_⟩;refine jN 11 j ?_;obtain⟨_,_,a4,_⟩:=bs.len;refine cO (d.bc l) j j j (by rw [a4];rfl) bO (λw d=>?_);have d:C o t (J l #[r] 58::_) w:=d;refine ao (c5 ?_)
 obtain⟨cE,c8,aU⟩:∃x r,s.cA=x::r:=by
  cases aZ:s.cA with
  |nil=>rw [aZ] at ak;simp at ak
  |cons x r=>exact⟨x,r,j⟩
 have a5:s.wanted g=({s with cur:=(fR g s.cur s.cA[0]).1},(fR g s.cur s.cA[0]).2):=by
  unfold aE.wanted;have e:s.cA[0]=cE:=by simp [aU]
  rw [e];rw [aU]
 obtain⟨v,i,bj,K,H,d⟩:∃v i bj,cC v (s.wanted g).2 bj/\kf g c.cur (s.wanted g).1.cur i/\C o t [J aC #[aa ba] 65,J l #[v] 58,cB g ba s c,L,i,Q,ay 287 am ah I,n,bj] w:=by
  rw [a5];exact⟨r,i,bj,bs,b5,C.perm (A:=[J aC #[aa ba] 65,J l #[r] 58,cB g ba s c,L,i,Q,ay 287 am ah I++n,bj]) d.as (by simp)⟩
 refine ar 2 j (ax (C.aj d) j) ?_;rotate_left
 have aU:s.cA=[]:=by
  cases aZ:s.cA with
  |nil=>rfl
  |cons x r=>rw [aZ] at aH;simp at aH
 have a5:s.wanted g=(s,[]):=by unfold aE.wanted;rw [aU]
 obtain⟨v,i,bj,K,H,d⟩:∃v i bj,cC v (s.wanted g).2 bj/\kf g c.cur (s.wanted g).1.cur i/\C o t [J aC #[aa ba] 65,J l #[v] 58,cB g ba s c,L,i,Q,ay 287 am ah I,n,bj] w:=by
  rw [a5];exact⟨_,a7,[],cC.nil,O.cur,C.perm (A:=[J aC #[aa ba] 65,J l #[.slice none 0 0] 58,cB g ba s c,L,a7,Q,ay 287 am ah I++n]) d.as (by simp)⟩
 refine ar 3 j (ax (C.aj d) j) ?_;rotate_left
 all_goals
  refine ar 2 j (ax (C.aj (b:=ba) d) (aK some ci)) (cx 1 d j (λz w d=>dE 0 (d.bc z) j j j j (λw d=>?_)));have d:C o t (J z #[ab s.slot] 3::_) w:=d;refine ar 3 j (ax (C.aj d) j) ?_;obtain⟨a,ai⟩:∃a:Option Addr,a=some ⟨am,0,none⟩:=⟨_,j⟩;have aA:c.stored= .pointer a:=aA.trans (by rw [ai]);refine ar 2 j (ax (C.aj (b:=ba) d) (aK some aA)) ?_;have ce:dI 287 w a bE:=ai▸dI.own (d.to (ay 287 am ah I)) bA;have X:=wf (o:=w) (p:=a);refine bk 0 X j (λr w⟨bF,bI,Z,ad⟩=>?_);subst Z;have cd:=ce.st ad;have d:=d.aO ad;have d:C o t [J bF #[.pointer a] 129,[(bI,.cells #[.func (.func 259) #[] #[]] 52 (0,0))],J aC #[aa ba] 65,J l #[v] 58,J z #[ab s.slot] 3,cB g ba s c,L,i,Q,ay 287 am ah I,n,bj] w:=d.as;have d:C o t ([J bF #[.pointer a] 129,[(bI,.cells #[.func (.func 259) #[] #[]] 52 (0,0))]]++[J aC #[aa ba] 65,J l #[v] 58,J z #[ab s.slot] 3,cB g ba s c,L,i,Q,ay 287 am ah I,n,bj]) w:=d
  refine jM 1 j (za (by have aL:=aT.len;have av:=Y.stored;omega)) j (by have:=d.size;simpa using this) d j (λ_=>rfl) (by intro p O;simp at O;rcases O with rfl|rfl<;>rfl)
   (λpre ae=>∃(v:Value)(u:Obj)(V:List (Int×Value))(i bj E W:List Chunk),ae=[J aC #[aa ba] 65,J l #[v] 58,J z #[ab s.slot] 3,cB g ba s c,L,i,Q,ay 287 am ah u,n,bj]/\cC v (((cW s.stored).take pre.length).foldl (aE.one g) (s.wanted g)).2 bj/\kf g c.cur (((cW s.stored).take pre.length).foldl (aE.one g) (s.wanted g)).1.cur i/\cf bG u V/\n.Perm (W++E)/\c4 jT V (((cW s.stored).take pre.length).foldl (aE.one g) (s.wanted g)).1.stored E) (λ_ _=>False) ⟨v,I,bE,i,bj,n,[],j,K,H,bA,.refl _,by rw [fW,List.take_zero,List.foldl_nil,cz];exact aT⟩ (λL aJ b8=>cd.st b8) (λ_ _ _ _=>trivial) ?_ ?_ (λ_ _ h=>h.elim) (λ_ _ _ h=>h.elim)
  .rintro y pre ⟨B,cu⟩ cJ bT c9 b3 ⟨v,u,V,i,bj,E,W,rfl,K,H,aQ,aG,ac⟩ d;obtain⟨t1,t2,c7,cH,bS,cI,bw,cr,cn,bi,a6,rfl,bB⟩:=aT.nC b3;have a6:cu= .agg bi.cs.toArray:=a6;subst a6;have a2:bi.tag.length=32:=(fy.one bB).tag bi (by simp);have cX:bi.P.dF:=Y.k8 (B,bi.P) (g7.1 (show(B,bi.P)∈cW s.stored by rw [bw];simp));have S:=aE.pI T ((cW s.stored).take pre.length) (s.wanted g) (M+5) (λq a1=>Y.k8 q (g7.1 (pe a1))) (λr Z=>(bM r Z).1);have ck:=aE.ul T ((cW s.stored).take pre.length) (s.wanted g);have c3:=aE.Ab T s;have c0:((cW s.stored).take pre.length).length<=128:=by rw [hC,hN];have:=Y.stored;omega
   have aS:=xx (f:=aE.one g) (b:=s.wanted g) bw cr;have an:(((cW s.stored).take pre.length).foldl (aE.one g) (s.wanted g)).1.slot=s.slot:=by unfold aE.slot;rw [S.1.2.1,bL]
   obtain⟨a0,cg⟩:∃a0,a0=(((cW s.stored).take pre.length).foldl (aE.one g) (s.wanted g)):=⟨_,j⟩;rw [<-cg] at K H ac S ck an aS;have d:=C.gg d;refine cx 4 d j (λF w d=>c6 (d.bc F) j j j (by simpa using bi.one) (by rw [List.size_toArray];exact bi.bU a2) (by decide) (λw d=>?_));have d:=C.whole (U:=bi.cs) d (by rw [bi.bU a2];rfl);have d:C _ _ [J F bi.cs.toArray 101,J aC #[aa ba] 65,J l #[v] 58,J z #[ab s.slot] 3,cB g ba s c,L,i,Q,ay 287 am ah u,n,bj] w:=d.as;refine bH 0 j (⟨j,_,d,λbT bK d=>?_⟩);have bt:=aP.st d aD;have bu:=(aP.apart d aD).sub (eJ:=au [J F bi.cs.toArray 101,J aC #[aa ba] 65,J l #[v] 58,J z #[ab s.slot] 3,cB g ba s c,L,i,Q,ay 287 am ah u,n,bj]) (λb ch=>mO.2 (.inr (mO.2 (.inl ch))));have d:=C.gg d;refine ar 5 j (ax (C.aj d) bi.gt) (ar 0 j (ax (C.aj d) j) (cy 1 j j (λaq=>?_) (λaq=>?_)))
   .refine ar 1 j (ax (C.aj d) j) (ar 2 j (ax (C.aj (b:=ba) d) (aK some aA)) (bY 43 (aa am) j (by rw [ai]) ?_));have ct:=ac.wide jT.wide;obtain⟨bb,bd,bD,bC⟩:=ac.del (k:=B);have X:=CJ (k:=B) ct (d.ours (cM:=[ay 287 am ah u])) aQ;refine br 1 X j (λw⟨ap,bz,aB⟩=>?_);have d:=d.b1 aB;have d:C _ _ [J F bi.cs.toArray 101,J aC #[aa ba] 65,J l #[v] 58,J z #[ab s.slot] 3,cB g ba s c,L,i,Q,ay 287 am ah ap,n,bj] w:=d.as;refine ar 3 j (ax (C.aj d) bi.gt) (ar 0 j (ax (C.aj d) j) (bo 1 j j (λaI=>?_) (λaI=>?_)))
    .have d:C bK (au [J F bi.cs.toArray 101,J aC #[aa ba] 65,J l #[v] 58,J z #[ab s.slot] 3,cB g ba s c,L,i,Q,ay 287 am ah u,n,bj]) ([J F bi.cs.toArray 101,J aC #[aa ba] 65,J l #[v] 58,cB g ba s c]++_) _:=d.front;have d:=d.drew;refine bx 0 j (λw=>∃ae,C bK (au [J F bi.cs.toArray 101,J aC #[aa ba] 65,J l #[v] 58,J z #[ab s.slot] 3,cB g ba s c,L,i,Q,ay 287 am ah u,n,bj]) ([J F bi.cs.toArray 101,J aC #[aa ba] 65,J l #[v] 58,cB g ba s c]++ae) w) ⟨_,d⟩ (b4 0 j (λw⟨_,d⟩=>ax (C.aj (b:=l) d) j) (b4 1 j (λw⟨_,d⟩=>ax (C.aj d) j) (ag 2 2 j (b4 4 j (λw⟨_,d⟩=>ax (C.aj d) j) (bl 5 j (λw⟨_,d⟩=>dd (U:=bi.cs) j j (bi.bU a2) (bq (C.aj d))) (aX 6 j ?_))))));have cm:=(bB.read (show Holds _ bS from((d.holds (G:=n) (by simp)).perm cn).right.left)).1;have X:=zL (m:=bi) cm H (N:=M+5+6*128) (λr Z=>(S.2.2.2.1 r Z).more (by omega)) (by omega) (bt.st d bu) T (d.eE bt bu) d.ours;refine cS j j j X (λr w⟨bR,aV,b9,b6,aB⟩=>?_);have d:=d.b1 aB;have d:C _ _ ([J F bi.cs.toArray 101,J aC #[aa ba] 65,J l #[v] 58,cB g ba s c]++_) w:=d.front;refine ao ⟨⟨_,d⟩,?_⟩;refine aX 7 j ?_;have cV:=rv T a0.1.cur bi.P;refine m5 (d.front (cM:=[bj,bR])) K b9 j j (by decide) j j j (by omega) (λv3 bn w bp d=>?_);have d:C _ _ ([J F bi.cs.toArray 101,J aC #[aa ba] 65,J l #[v] 58,cB g ba s c]++_) w:=d.front;refine ao ⟨⟨_,d⟩,?_⟩;refine dK 8 j ?_;obtain⟨_,_,a4,_⟩:=bp.len;refine cO (d.bc l) j j j (by rw [a4];rfl) bO (λw d=>?_);have d:C _ _ (J l #[v3] 58::_) w:=d;have d:C _ _ [J aC #[aa ba] 65,J l #[v3] 58,J z #[ab s.slot] 3,cB g ba s c,L,aV,Q,ay 287 am ah ap,n,bn] w:=d.as;refine ao (c5 (bH 0 j ?_));have aF:aE.one g a0 (B,bi.P)=({a0.1 with stored:=fU a0.1.stored B,cur:=(ho g a0.1.cur bi.P).1},a0.2++(ho g a0.1.cur bi.P).2):=aR (by show bi.s=_;rw [an];exact ea.1 aI);refine⟨[J aC #[aa ba] 65,J l #[v3] 58,J z #[ab s.slot] 3,cB g ba s c,L,aV,Q,ay 287 am ah ap,n,bn],d,v3,ap,fU V B,aV,bn,bb,W++bd,j,?_⟩;rw [cj,List.length_singleton,aS,aF];exact⟨bp,b6,bz,aG.trans (by rw [dS];exact .append_left _ bC),bD⟩
    refine bH 1 j ?_;have aF:aE.one g a0 (B,bi.P)=({a0.1 with stored:=fU a0.1.stored B},a0.2):=(az (by show¬bi.s=_;rw [an];exact λh=>by rw [show(bi.s==s.slot)=true from ea.2 h] at aI;cases aI)).trans (aR (by show bi.s<=_;rw [an];exact aq));refine⟨[J aC #[aa ba] 65,J l #[v] 58,J z #[ab s.slot] 3,cB g ba s c,L,i,Q,ay 287 am ah ap,n,bj],d.as,v,ap,fU V B,i,bj,bb,W++bd,j,?_⟩;rw [cj,List.length_singleton,aS,aF];exact⟨K,H,bz,aG.trans (by rw [dS];exact .append_left _ bC),bD⟩
   refine ar 4 j (ax (C.aj d) bi.gt) (ar 0 j (ax (C.aj d) j) (ij 1 j j ((by have aL:=aq;exact fp.2 (λh=>aL (by omega)))) (bH 1 j ?_)));have aF:aE.one g a0 (B,bi.P)=a0:=(az (by show¬bi.s=_;rw [an];have:=aq;omega)).trans (az (by show¬bi.s<=_;rw [an];exact aq));refine⟨[J aC #[aa ba] 65,J l #[v] 58,J z #[ab s.slot] 3,cB g ba s c,L,i,Q,ay 287 am ah u,n,bj],d.as,v,u,V,i,bj,E,W,j,?_⟩;rw [cj,List.length_singleton,aS,aF];exact⟨K,H,aQ,aG,ac⟩
  rintro xs cK w cc ⟨v,u,V,i,bj,E,W,rfl,K,H,aQ,aG,ac⟩ d;rw [cc,h8,aT.len,ic (by rw [hN];exact cF _)] at K H ac;refine ar 2 j (ax (C.aj d) j) (bH 1 j ⟨v,λw cq=>?_⟩);have d:=cq.st d (cF _);refine⟨λa ai=>iP (fn:=f181) ai j _ _,?_⟩;have S:=aE.pI T (cW s.stored) (s.wanted g) (M+5) (λq a1=>Y.k8 q (g7.1 a1)) (λr Z=>(bM r Z).1);have bW:(s.dc g).1.aw=s.aw:=S.1.1.trans cv;have bX:(s.dc g).1.log=s.log:=S.1.2.1.trans bL;have bZ:(s.dc g).1.cA=s.cA:=S.1.2.2.1.trans cw;have b0:(s.dc g).1.eV=s.eV:=S.1.2.2.2.trans cD;have b2:cB g ba s c=cB g ba (s.dc g).1 c:=by unfold cB oy;rw [bW,b0]
  have d:C o t [cB g ba (s.dc g).1 c,L,i,Q,ay 287 am ah u++E,bj] w:=by
   rw [<-b2];have aL:C o t [cB g ba s c,L,i,Q,ay 287 am ah u,n,bj] w:=d.as
   have av:C o t [cB g ba s c,L,i,Q,ay 287 am ah u,W,E,bj] w:=aL.perm (by
    simp only [jZ,mF,gA];have:=n3 bj aG;rw [dS] at this;exact .append_left _ (.append_left _ (.append_left _ (.append_left _ (.append_left _ this)))))
   exact C.perm (A:=[cB g ba s c,L,i,Q,ay 287 am ah u,E,bj]) av.as (by simp)
  refine⟨bj,_,K,⟨c,L,i,Q,ay 287 am ah u++E,⟨by rw [bX];exact O.log,H,by rw [bZ];exact O.cA,⟨am,ah,u,V,E,aA.trans (by rw [ai]),aQ,ac,j⟩⟩,j⟩,C.ik d⟩
theorem Dx{o:World}{a:Nat}{A B:Option Addr}{xs dh:List UInt8}{bN d:Nat}(e:o.heap[a]? =some (.cells #[.slice B dh.length d] 26 (0,0)))(b:Rd o A (aP xs))(c:Rd o B (aP dh)):Calls prog 180 (#[]++ #[.slice A xs.length bN]++ #[aa a]) o λr w=>r= .bool (decide (xs=dh))/\w=o:=by
 refine a6 func180 (ar 6 j (ax e j) (br 0 (pF b c) j (λw hw=>?_)));subst hw;exact an 1 j j ⟨j,j⟩
theorem aE.Dt{g:al}{n:Nat}{s:aE}{l:List aY}(h:s.cur=none):aE.go g n s l=(s,l):=by
 cases n with
 |zero=>rfl
 |succ n=>unfold aE.go;rw [h]
theorem aE.Dw{g:al}{n:Nat}{s:aE}{l:List aY}{r:ai}(h:s.cur=some r)(a:r.dec=false):aE.go g n s l=(s,l):=by
 cases n with
 |zero=>rfl
 |succ n=>
  unfold aE.go;rw [h];exact az (by rw [a];decide)
theorem aE.un{g:al}{n:Nat}{s:aE}{l:List aY}{r:ai}(h:s.cur=some r)(a:r.dec=true):aE.go g (n+1) s l=aE.go g n ((s.next r).dc g).1 (l++((s.next r).dc g).2):=by
 rw [aE.go,h];exact aR a
theorem aE.BV{g:al}{N M:Nat}{s:aE}(h:s.ok g N)(a:g.ok)(d:∀r,s.cur=some r->r.ok g M):(s.dc g).1.log=s.log:=by
 obtain⟨i,b,j,k,l,c⟩:=h.wanted a d;exact(aE.pI a (cW s.stored) (s.wanted g) (M+5) (λp e=>h.k8 p (g7.1 e)) (λr f=>(c r f).1)).1.2.1.trans b
theorem ur{o:World}{g:al}{ba:Nat}{s:aE}{G F:List Chunk}{v0:Value}{l:List aY}(bg:h3 g ba s G)(bd:cC v0 l F)(bK:l.length<=1000){N:Nat}(bB:s.ok g N)(bH:773<=N)(bI:N+20<=1000000)(ad:g.at o)(V:g.ok)(W:g.off (au [G,F]))(a:Own [G,F] o):Calls prog 132 #[aa ba,v0] o λr w=>∃bj af,cC r (s.gE g l).2 bj/\h3 g ba (s.gE g l).1 af/\C o (au [G,F]) [af,bj] w:=by
 obtain⟨e,aI⟩:∃e,e=au [G,F]:=⟨_,j⟩;rw [<-aI] at W⊢;have a:C o e [G,F] o:=aI▸a;refine a6 func132 ?_
 refine dj 5 j (cU:=Nat×aE×List aY×Value×List Chunk×List Chunk) (λi=>[(0,aa ba),(1,i.2.2.2.1)])
  (λi w=>i.2.1.ok g N/\s.gE g l=aE.go g i.1 i.2.1 i.2.2.1/\65<=i.1+i.2.1.log.length/\i.2.2.1.length+6450*i.1<=500000/\h3 g ba i.2.1 i.2.2.2.2.1/\cC i.2.2.2.1 i.2.2.1 i.2.2.2.2.2/\C o e [i.2.2.2.2.1,i.2.2.2.2.2] w) (λi=>i.1) (65,s,l,v0,G,F) ⟨j,j,bb⟩ ⟨bB,j,gp _ _,by dsimp only;omega,bg,bd,a⟩ ?_
 rintro⟨n,s1,dG,v1,af,bj⟩ w ⟨R,ah,bA,bz,aQ,Z,a⟩;dsimp only at R ah bA bz aQ Z a⊢;obtain⟨c,L,a7,Q,D,O,rfl⟩:=aQ;have a:=a.p2;refine aq 6 j ?_;rcases O.cur with⟨E,ac,bG⟩|⟨d,av,E,ac,bm⟩
 .refine ar 0 j (ax (C.aj (b:=ba) a) (aK some ac)) (an 7 j j ?_);rw [ah,aE.Dt E];exact⟨bj,_,Z,⟨c,L,a7,Q,D,O,j⟩,a.ik⟩
 refine ar 0 j (ax (C.aj (b:=ba) a) (aK some ac)) (ar 9 j (ax (C.aj (b:=ba) a) (aK some ac)) ?_);have bD:=(R.cur d E).1;have M:=CE bm bD (a.holds (G:=a7) (by simp));refine bk 0 M j (λr w⟨v1,v2,I,P,aC,aA,aS,bu⟩=>?_);subst aC;obtain⟨f,v,rfl,bN,bQ⟩:=aA.form;obtain⟨X,Y,rfl,bP,_⟩:=aS.form;have a:=a.aO bu;refine cx 4 a j (λh w a=>dE 0 (a.bc h) j j j j (λw a=>?_));have a:C o e (J h #[.slice f d.value.length v] 26::_) w:=a;refine bo 7 j j (λap=>?_) (λap=>?_)
 .refine an 5 j j ?_;rw [ah,aE.Dw E (by simpa using ap)];have a:C o e [cB g ba s1 c,L,a7,Q,D,bj] w:=a.as;exact⟨bj,_,Z,⟨c,L,a7,Q,D,O,j⟩,a.ik⟩
 have a:C o e [cB g ba s1 c,J h #[.slice f d.value.length v] 26,L,a7,Q,D,bj,I,P] _:=a.as;have a:=a.drew;refine bx 2 j (λw=>∃ae,C o e ([cB g ba s1 c,J h #[.slice f d.value.length v] 26]++ae) w) ⟨_,a⟩ (ag 0 4 j (a8 4 j a2 j (a8 5 j a2 j (ag 6 1 j (bl 7 j (λw _=>eX (c:= #[.slice f d.value.length v,.slice X d.et.length Y]) j (λ_=>by kernel_rfl)) (aX 8 j (gj (U:=[.slice f d.value.length v,.slice X d.et.length Y]) a j j j j bO bO (λn5 w a=>?_))))))));have aT:=bq (C.aj (b:=n5) a);have a:C o e ([cB g ba s1 c,J h #[.slice f d.value.length v] 26]++_) w:=a.front;refine ao ⟨⟨_,a⟩,?_⟩;refine aX 9 j ?_;obtain⟨aG,S,es,rfl,bh,a5⟩:=O.log;have bL:=R.log;have a:C o e [aG,S,cB g ba s1 c,J h #[.slice f d.value.length v] 26,a7,Q,D,bj,I,P] w:=C.perm (A:=[aG++S,cB g ba s1 c,J h #[.slice f d.value.length v] 26,a7,Q,D,bj,I,P]) a.as (by simp);refine e6 a bh j j (by decide) j j j (m:=1) (news:=[.slice f d.value.length v,.slice X d.et.length Y]) j aT (by intro u hu;simp at hu;rcases hu with rfl|rfl<;>rfl) (by omega) (by unfold maxLen;omega) (λbR am w ay a=>?_);obtain⟨q,t,rfl,_,_⟩:=ay.form;have a:C o e ([cB g ba s1 c,J h #[.slice f d.value.length v] 26]++_) w:=a.front;refine ao ⟨⟨_,a⟩,?_⟩;refine ag 10 2 j (dK 12 j (cO (a.bc ba) j j j ay.one bO (λw a=>?_)));have a:C o e (cB g ba s1 {c with log:=.slice q (s1.log.length+1) t}::_) w:=a;obtain⟨_,_,a1,_,_,bC,br⟩:=aA.rd (a.to I);cases a1
 obtain⟨B,aJ,a⟩:∃B,m2 (.slice q (s1.log.length+1) t) (s1.log++[(d.value,d.et)]) B/\C o e [cB g ba s1 {c with log:=.slice q (s1.log.length+1) t},J h #[.slice f d.value.length v] 26,B,a7,Q,D,bj] w:=
  ⟨am++(S++(I++P)),⟨am,S++(I++P),es++[(.slice f d.value.length v,.slice X d.et.length Y)],j,by rw [cj,List.length_singleton];simpa using ay,a5.app (jS.one aA aS)⟩,C.perm (A:=[cB g ba s1 {c with log:=.slice q (s1.log.length+1) t},J h #[.slice f d.value.length v] 26,am,S,I,P,a7,Q,D,bj]) a.as (by simp)⟩
 have bp:cc f (aP d.value) (au [Q]):=C.pv br;refine ao (c5 (ar 6 j (ax (C.aj a) j) (gI j j j j ?_)));have aU:=C.aj (b:=h) a;have bs:h∉au [Q]:=λbt=>(a.bc h).i3 (pP _ bt)
 have M:=CK (p:=λy=>decide (y=d.value)) (be:= #[aa h]) (ez:=180) (T:=λak=>ak.heap[h]? =some (.cells #[.slice f d.value.length v] 26 (0,0))/\Rd ak f (aP d.value)) (λak gP bS bF aR a3=>Dx aR.1 a3 aR.2) (λak ae aH=>⟨by rw [aH.fT h (gq.1 aU).1 bs];exact aU,aH.rd bC bp⟩) O.cA a.ours;refine bk 0 M j (λx w⟨H,ab,bv⟩=>?_);have a:=a.b1 bv;obtain⟨aZ,aW,bE,bf,aN,a4⟩:=ab;refine dE 2 (a.bc ba) j j j aN.one (λw a=>?_);have a:C o e (cB g ba s1 {c with log:=.slice q (s1.log.length+1) t,cA:=x}::_) w:=a;have ab:h1 x _ H:=⟨aZ,aW,bE,bf,aN,a4⟩;refine dE 5 (a.bc ba) j j j j (λw a=>?_);have a:C o e (cB g ba s1 {c with log:=.slice q (s1.log.length+1) t,cA:=x,cur:=.pointer none}::_) w:=a;have a:C o e [cB g ba s1 {c with log:=.slice q (s1.log.length+1) t,cA:=x,cur:=.pointer none},B,H,D,bj] w:=a.as;refine ar 6 j (ax (C.aj a) j) (cy 2 j j (λa0=>?_) (λa0=>?_));have a:=a.drew;refine bx 0 j (λw=>∃ae,C o e ([cB g ba s1 {c with log:=.slice q (s1.log.length+1) t,cA:=x,cur:=.pointer none}]++ae) w) ⟨_,a⟩ (ag 0 4 j (a8 4 j a2 j (ag 5 3 j (a8 8 j a2 j (ag 9 3 j (a8 12 j a2 j (ag 13 1 j (aX 14 j (cS j j j (yx (g:=g) (aw:=s1.aw) (slot:=((s1.log.length+1:Nat):Int))) (λr w⟨ai,cI,aC,bi,bw⟩=>?_))))))))));subst aC;have a:=a.aO bw;have a:C o e [cB g ba s1 {c with log:=.slice q (s1.log.length+1) t,cA:=x,cur:=.pointer none},B,H,D,bj,cI] w:=a.as;refine ao ⟨⟨_,a⟩,?_⟩;refine ag 15 2 j (dK 17 j (cO (a.bc ba) j j j j bO (λw a=>?_)));have a:C o e (cB g ba s1 {c with log:=.slice q (s1.log.length+1) t,cA:=x,cur:=aa ai}::_) w:=a;refine ao (c5 ?_);have aB:s1.log.length+1<64:=by omega
 obtain⟨K,az,a⟩:∃K,h3 g ba (s1.next d) K/\C o e [K,bj] w:=by
  have a:C o e [cB g ba s1 ({c with log:=.slice q (s1.log.length+1) t,cA:=x,cur:=aa ai}),B,cI,H,D,bj] w:=a.as;exact⟨_,⟨{c with log:=.slice q (s1.log.length+1) t,cA:=x,cur:=aa ai},B,cI,H,D,⟨aJ,.inr ⟨_,ai,if_pos aB,j,bi⟩,ab,O.stored⟩,j⟩,a.ik⟩
 have z:=aE.ka R E;have M:=wG az z.1 z.2 (by omega) (ad.st a W) V (a.eE ad W) a.ours;refine bk 3 M j (λr w⟨aD,aF,aL,aM,aV⟩=>?_);rotate_left
 have aB:¬s1.log.length+1<64:=by omega
 obtain⟨K,az,a⟩:∃K,h3 g ba (s1.next d) K/\C o e [K,bj] w:=by
  have a:C o e [cB g ba s1 ({c with log:=.slice q (s1.log.length+1) t,cA:=x,cur:=.pointer none}),B,[],H,D,bj] w:=(C.empty a).as;exact⟨_,⟨{c with log:=.slice q (s1.log.length+1) t,cA:=x,cur:=.pointer none},B,[],H,D,⟨aJ,.inl ⟨if_neg aB,j,j⟩,ab,O.stored⟩,j⟩,a.ik⟩
 have z:=aE.ka R E;have M:=wG az z.1 z.2 (by omega) (ad.st a W) V (a.eE ad W) a.ours;refine bk 4 M j (λr w⟨aD,aF,aL,aM,aV⟩=>?_);rotate_left
 all_goals
  have a:=a.b1 aV;obtain⟨n,rfl⟩:∃k,n=k+1:=⟨n-1,by have:=(R.cur d E).2;omega⟩;have bJ:=aE.wF V (s:=s1.next d) z.1.stored;refine m5 (a.front (cM:=[bj,aD])) Z aL j j (by decide) j j j (by omega) (λv3 bn w a9 a=>bW 1 j ?_)
  have bM:((s1.next d).dc g).1.log.length=s1.log.length+1:=by
   rw [aE.BV z.1 V z.2];show(s1.log++[(d.value,d.et)]).length=_;rw [cj,List.length_singleton]
  refine⟨(n,((s1.next d).dc g).1,dG++((s1.next d).dc g).2,v3,aF,bn),⟨j,j,bb⟩,⟨z.1.dc V z.2 (by omega),ah.trans (aE.un E (by simpa using ap)),by dsimp only;omega,by dsimp only;rw [List.length_append];omega,aM,a9,a.as⟩,by dsimp only;omega⟩
theorem kf.ptr{g:al}{v:Value}{c:Option ai}{G:List Chunk}(h:kf g v c G):∃p:Option Addr,v= .pointer p/\p.isNone=c.isNone:=by
 rcases h with⟨rfl,rfl,_⟩|⟨r,av,rfl,rfl,_⟩
 .exact⟨none,j,j⟩
 .exact⟨_,j,j⟩
theorem zK{o:World}{g:al}{ba:Nat}{s:aE}{G:List Chunk}(aC:h3 g ba s G){A:Option Addr}{x:List UInt8}{bN:Nat}(ac:Rd o A (aP x))(M:cc A (aP x) (au [G]))(aW:x.length<=1000000){N:Nat}(t:s.ok g N)(a3:773<=N)(a4:N+40<=1000000)(O:g.at o)(P:g.ok)(E:g.off (au [G]))(a:Own [G] o):Calls prog 120 #[aa ba,.slice A x.length bN] o λr w=>∃v bj af,r= .tuple #[v,.int .i64 (s.eF g x).2.2]/\cC v (s.eF g x).2.1 bj/\h3 g ba (s.eF g x).1 af/\C o (au [G]) [af,bj] w:=by
 obtain⟨c,L,a7,Q,D,d,rfl⟩:=aC;obtain⟨e,ah⟩:∃e,e=au [cB g ba s c++(L++(a7++(Q++D)))]:=⟨_,j⟩;rw [<-ah] at M E⊢;have a:C o e [cB g ba s c++(L++(a7++(Q++D)))] o:=ah▸a;have a:=a.p2;obtain⟨aX,aM,am⟩:=d.cur.ptr;refine a6 func120 (aq 11 j (bY 9 (.bool false) j (aK Value.bool (j)) ?_));refine aq 5 j (c9 14 j (λV=>?_) (λV=>?_))
 .refine an 10 j j ?_
  have f:s.eF g x=(s,[],1):=by
   unfold aE.eF;exact aR (.inl (by have:=ea.1 (show((x.length:Int)==0)=true from V);omega))
  rw [f];exact⟨_,[],_,j,cC.nil,⟨c,L,a7,Q,D,d,j⟩,(C.ik a.as).empty.f1⟩
 refine cy 5 j j (λeZ=>?_) (λeZ=>?_)
 .refine an 4 j j ?_
  have f:s.eF g x=(s,[],1):=by
   unfold aE.eF;exact aR (.inr (by omega))
  rw [f];exact⟨_,[],_,j,cC.nil,⟨c,L,a7,Q,D,d,j⟩,(C.ik a.as).empty.f1⟩
 have F:¬(x.length=0\/200<x.length):=by
  have m:((x.length:Int)==0)=false:=V;have q:=eZ;have ag:¬(x.length:Int)=0:=λh=>by rw [ea.2 h] at m;cases m
  omega
 have aV:x.length<=200:=by omega
 have n:=DX (ba:=ba) (g:=g) (s:=s) (c:=c) (C.aj a) d.log d.cA (a.holds (by simp)) (a.holds (by simp)) (a.rd ac M) (bN:=bN);refine br 4 n j (λw B=>?_);have a:=a.aO B;have a:C o e [cB g ba s c,L,a7,Q,D] w:=a.as;refine bo 1 j j (λW=>?_) (λW=>?_)
 .refine an 4 j j ?_
  have f:s.eF g x=(s,[],0):=by
   unfold aE.eF;rw [az F];exact aR W
  rw [f];exact⟨_,[],_,j,cC.nil,⟨c,L,a7,Q,D,d,j⟩,(C.ik a.as).empty.f1⟩
 have R:¬s.there x=true:=by rw [show s.there x=false from W];decide
 obtain⟨_,_,a9,_,aF,_⟩:=d.cA;obtain⟨aZ,a1,aJ,a8,_⟩:=aF.form;refine ar 5 j (ax (C.aj (b:=ba) a) (aK some aJ)) (aq 3 j (c9 30 j (λY=>?_) (λY=>?_)))
 .refine an 12 j j ?_
  have f:s.eF g x=(s,[],3):=by
   unfold aE.eF;rw [az F,az R];exact aR (.inl (by have:=dV Y;omega))
  rw [f];exact⟨_,[],_,j,cC.nil,⟨c,L,a7,Q,D,d,j⟩,(C.ik a.as).empty.f1⟩
 refine ar 3 j (ax (C.aj (b:=ba) a) (aK some aM)) (bo 3 j j (λX=>?_) (λX=>?_))
 .refine an 4 j j ?_
  have f:s.eF g x=(s,[],3):=by
   unfold aE.eF;rw [az F,az R];exact aR (.inr (by rw [<-am];exact X))
  rw [f];exact⟨_,[],_,j,cC.nil,⟨c,L,a7,Q,D,d,j⟩,(C.ik a.as).empty.f1⟩
 refine l2 2 j (λw=>∃ae,C o e ([cB g ba s c]++ae) w) ?_;have a:=a.drew
 have ak:¬(16<=s.cA.length\/s.cur.isNone):=by
  have m:=dY Y;have q:aX.isNone=false:=X;rw [am] at q;rw [q];simp;omega
 refine fM 4 [0,1,2,3] j ⟨_,a⟩ (eL 4 j ⟨_,a⟩ (λw⟨_,a⟩=>hv j j (ax (C.aj a) j)) (fM 1 [5] j ⟨_,a⟩ (d5 6 j ?_)));have n:=gN (c:=bN) (a.rd ac M) (by omega);refine cS j j j n (λr w⟨i,Z,B⟩=>?_);have a:=a.aO B;have a:C o e [cB g ba s c,L,a7,Q,D,i] w:=a.as;refine ao ⟨⟨_,a⟩,?_⟩;refine d5 7 j (fx (U:=[r]) a j j j j j (by simpa using Z.one) bO (λI w a=>?_));have aT:=bq (C.aj (b:=I) a);have a:C o e [cB g ba s c,L,a7,Q,D,i,J I #[r] 26] w:=a.as;refine ao ⟨⟨_,a⟩,?_⟩;refine d5 8 j ?_;obtain⟨T,k,us,rfl,aG,av⟩:=d.cA;have a:C o e [cB g ba s c,T,k,L,a7,D,i,J I #[r] 26] w:=C.perm (A:=[cB g ba s c,T++k,L,a7,D,i,J I #[r] 26]) a.as (by simp);have a5:=t.cA;refine e6 (a.to T) aG j j (by decide) j j j (news:=[r]) j aT (by intro u hu;rw [List.mem_singleton.1 hu];exact Z.one) (by omega) (by unfold maxLen;omega) (λp l w ab a=>?_);have a:C o e [cB g ba s c,l,k,L,a7,D,i] w:=a.as;refine ao ⟨⟨_,a⟩,?_⟩;refine fM 2 [9,10] j ⟨_,a⟩ (jN 11 j (cO (a.bc ba) j j j ab.one bO (λw a=>?_)));have a:C o e (cB g ba s {c with cA:=p}::_) w:=a;have ai:h1 p (s.cA++[x]) (l++(k++i)):=⟨l,k++i,us++[r],j,by rw [List.length_append,List.length_singleton];exact ab,av.app (hI.one Z)⟩;have a:C o e [cB g ba s {c with cA:=p},L,a7,l++(k++i),D] w:=C.perm (A:=[cB g ba s {c with cA:=p},L,a7,l,k,i,D]) a.as (by simp);obtain⟨a0,a2,aU,_,_⟩:=ab.form;refine ao (c5 (ar 6 j (ax (C.aj (b:=ba) a) (congrArg some aU)) (bo 2 j j (λK=>?_) (λK=>?_))))
 .refine an 4 j j ?_
  have f:s.eF g x=({s with cA:=s.cA++[x]},[],0):=by
   unfold aE.eF;rw [az F,az R,az ak];exact aR (by have m:decide (((s.cA.length+1:Nat):Int)>1)=true:=K;have:=of_decide_eq_true m;omega)
  rw [f];exact⟨_,[],_,j,cC.nil,⟨{c with cA:=p},L,a7,l++(k++i),D,⟨d.log,d.cur,ai,d.stored⟩,j⟩,(C.ik a).empty.f1⟩
 refine ar 7 j (ax (C.aj a) j) ?_;have n:=Aa (g:=g) (bN:=bN) (a.rd ac M) aW d.cur (λr z=>(t.cur r z).1) (by omega) (O.st a E) P (a.eE O E) a.ours;refine bk 1 n j (λr w⟨bj,ad,aA,aw,B⟩=>?_);have a:=a.b1 B;have aN:(s.cA++[x]).length<=16:=by rw [List.length_append,List.length_singleton];have:=of_decide_eq_false K;omega
 have aQ:∀y∈s.cA++[x],y.length<=200:=λy H=>by
  rcases fL.1 H with H|H
  .exact t.k2 y H
  .rw [hO.1 H];exact aV
 have aI:∀r,(fR g s.cur x).1=some r->r.ok g (N+5)/\s.log.length<64:=λr z=>by
  refine⟨tX P (λr z=>(t.cur r z).1) r z,?_⟩;have q:(fR g s.cur x).1.isSome=true:=by rw [z];rfl
  rw [rA] at q;obtain⟨aY,ag⟩:=g8.1 q;exact(t.cur aY ag).2
 have aS:aE.ok g (N+5) ({s with cA:=s.cA++[x],cur:=(fR g s.cur x).1}:aE):={t.more (Nat.le_add_right N 5) with cA:=aN,k2:=aQ,cur:=aI}
 obtain⟨S,aH,a⟩:∃S,h3 g ba ({s with cA:=s.cA++[x],cur:=(fR g s.cur x).1}:aE) S/\C o e [S,bj] w:=by
  have a:C o e [cB g ba s ({c with cA:=p}),L,ad,l++(k++i),D,bj] w:=a.as;exact⟨_,⟨{c with cA:=p},L,ad,l++(k++i),D,⟨d.log,aw,ai,d.stored⟩,j⟩,a.ik⟩
 have n:=ur aH aA (by have:=tW P s.cur x;omega) aS (by omega) (by omega) (O.st a E) P (a.eE O E) a.ours;refine bk 0 n j (λr w⟨ap,aB,ay,aD,aL⟩=>?_);have a:=a.b1 aL;refine an 2 j j ?_
 have f:s.eF g x=((aE.gE g {s with cA:=s.cA++[x],cur:=(fR g s.cur x).1} (fR g s.cur x).2).1,(aE.gE g {s with cA:=s.cA++[x],cur:=(fR g s.cur x).1} (fR g s.cur x).2).2,0):=by
  unfold aE.eF;rw [az F,az R,az ak];exact az (by have m:decide (((s.cA.length+1:Nat):Int)>1)=false:=K;have:=of_decide_eq_false m;omega)
 rw [f];exact⟨_,ap,aB,j,ay,aD,a⟩
theorem Hv{o:World}{g:al}{ba:Nat}{s:aE}{c:jX}{L:List Chunk}(O:o.heap[ba]? =some (.cells (oy g s c).toArray 131 (0,0)))(a1:m2 c.log s.log L)(aQ:Holds o L){N:Nat}(bd:s.ok g N)(ai:g.at o)(ak:g.ok){m:aD}(hm:m.ok o)(aU:m.P.dF)(bu:m.s<(s.log.length:Int)):Calls prog 131 #[aa ba,.agg m.cs.toArray] o λr w=>∃bj,cC r (s.told g m.P) bj/\C o [] [bj] w:=by
 have p:Own [] o:=C.start o;have ac:m.tag.length=32:=hm.tag;have bt:m.x.length<=200:=aU.x;have bs:m.l.length<=10:=aU.l;refine a6 func131 (bJ 2 p j j (λA w p=>?_));have p:C o [] [bf A m] w:=p;have p:=p.drew;refine bx 3 j (λw=>∃ae,C o [] ([bf A m]++ae) w) ⟨_,p⟩ (ag 0 1 j (a8 1 j a2 m.gL (ag 2 2 j (ek 10 j (λaq=>?_) (λaq=>?_)))));refine ag 4 1 j (a8 5 j a2 m.gL (ag 6 3 j (ek 15 j (λar=>?_) (λar=>?_))))
 .refine ga 27 [9,10,11,12,13,14,15,16,17,18,19,20,21,22,23,24,25,26,27,28,29,31,32,30,33,34,35] j (bL (an 4 j j ?_));have E:s.told g m.P=[]:=aR (.inl ⟨by simpa using aq,by simpa using ar⟩);rw [E];exact⟨[],cC.nil,p.bare.empty⟩
 refine ag 9 1 j (a8 10 j a2 m.gt (ag 11 3 j (ek 20 j (λV=>?_) (λV=>?_))))
 .refine ga 22 [14,15,16,17,18,19,20,21,22,23,24,25,26,27,28,29,31,32,30,33,34,35] j (bL (an 4 j j ?_));have E:s.told g m.P=[]:=aR (.inr (.inl (dV V)));rw [E];exact⟨[],cC.nil,p.bare.empty⟩
 refine ag 14 1 j (a8 15 j a2 m.aH (ag 16 3 j (b4 19 j (λw⟨_,p⟩=>ax (p.b8 O) j) (ag 20 3 j (ek 29 j (λS=>?_) (λS=>?_))))))
 .refine ga 13 [23,24,25,26,27,28,29,31,32,30,33,34,35] j (bL (an 4 j j ?_));have E:s.told g m.P=[]:=aR (.inr (.inr (.inl (ea.1 S))));rw [E];exact⟨[],cC.nil,p.bare.empty⟩
 refine ag 23 3 j (b4 26 j (λw⟨_,p⟩=>ax (p.b8 O) j) (ag 27 1 j (a8 28 j a2 m.aH (bl 29 j (λw⟨_,p⟩=>dd (U:=m.cs) j j (m.bU ac) (bq (C.aj p))) (ag 31 1 j (bl 32 j (λw⟨_,p⟩=>dd (U:=aP m.tag) j j (by rw [dx];exact ac) (m.vj (C.aj p))) (aX 30 j ?_)))))));have H:=lW (hm.st p) (by omega) (by omega);refine cS j j j H (λr w⟨bn,Y,B⟩=>?_);have p:=p.aO B;have p:C o [] [bf A m,bn] w:=p.as
 have ay:m.body.length<=1000000:=by
  have au:=lb m.l hm.aI;have av:=jn m.x (by omega);have X:=gb [4,m.k,m.f,m.s,m.v];simp only [ex,fW] at X;unfold aD.body;simp only [cj];omega
 obtain⟨ap,gV,rfl,_,_,ab,_⟩:=Y.read (p.holds (by simp));refine ao ⟨⟨_,p⟩,?_⟩;refine aX 33 j ?_;have H:=rn (ai.st p (al.off.nil g)) ak ab ay ac (i:=m.f) (d:=gV);refine bK j j j H (λw B=>?_);have p:=p.aO B;have p:C o [] [bf A m,bn] w:=p.as;refine ao ⟨⟨_,p⟩,?_⟩;refine ag 34 2 j (bL (bo 0 j j (λW=>?_) (λW=>?_)))
 .refine an 3 j j ?_;have E:s.told g m.P=[]:=aR (.inr (.inr (.inr (show g.check m.f m.body m.tag=false from by simpa using W))));rw [E];exact⟨[],cC.nil,p.bare.empty⟩
 have p:C o [] [bf A m] _:=p.as;refine l2 2 j (λw=>∃ae,C o [] ([bf A m]++ae) w) ?_;have p:=p.drew;have aF:¬(m.k≠2/\m.k≠4):=λh=>h.2 (by simpa using ar)
 rotate_left
 refine ag 4 6 j (a8 10 j a2 m.gt (ag 11 3 j (ek 20 j (λV=>?_) (λV=>?_))))
 .refine ga 22 [14,15,16,17,18,19,20,21,22,23,24,25,26,27,28,29,31,32,30,33,34,35] j (bL (an 4 j j ?_));have E:s.told g m.P=[]:=aR (.inr (.inl (dV V)));rw [E];exact⟨[],cC.nil,p.bare.empty⟩
 refine ag 14 1 j (a8 15 j a2 m.aH (ag 16 3 j (b4 19 j (λw⟨_,p⟩=>ax (p.b8 O) j) (ag 20 3 j (ek 29 j (λS=>?_) (λS=>?_))))))
 .refine ga 13 [23,24,25,26,27,28,29,31,32,30,33,34,35] j (bL (an 4 j j ?_));have E:s.told g m.P=[]:=aR (.inr (.inr (.inl (ea.1 S))));rw [E];exact⟨[],cC.nil,p.bare.empty⟩
 refine ag 23 3 j (b4 26 j (λw⟨_,p⟩=>ax (p.b8 O) j) (ag 27 1 j (a8 28 j a2 m.aH (bl 29 j (λw⟨_,p⟩=>dd (U:=m.cs) j j (m.bU ac) (bq (C.aj p))) (ag 31 1 j (bl 32 j (λw⟨_,p⟩=>dd (U:=aP m.tag) j j (by rw [dx];exact ac) (m.vj (C.aj p))) (aX 30 j ?_)))))));have H:=lW (hm.st p) (by omega) (by omega);refine cS j j j H (λr w⟨bn,Y,B⟩=>?_);have p:=p.aO B;have p:C o [] [bf A m,bn] w:=p.as
 have ay:m.body.length<=1000000:=by
  have au:=lb m.l hm.aI;have av:=jn m.x (by omega);have X:=gb [4,m.k,m.f,m.s,m.v];simp only [ex,fW] at X;unfold aD.body;simp only [cj];omega
 obtain⟨ap,gV,rfl,_,_,ab,_⟩:=Y.read (p.holds (by simp));refine ao ⟨⟨_,p⟩,?_⟩;refine aX 33 j ?_;have H:=rn (ai.st p (al.off.nil g)) ak ab ay ac (i:=m.f) (d:=gV);refine bK j j j H (λw B=>?_);have p:=p.aO B;have p:C o [] [bf A m,bn] w:=p.as;refine ao ⟨⟨_,p⟩,?_⟩;refine ag 34 2 j (bL (bo 0 j j (λW=>?_) (λW=>?_)))
 .refine an 3 j j ?_;have E:s.told g m.P=[]:=aR (.inr (.inr (.inr (show g.check m.f m.body m.tag=false from by simpa using W))));rw [E];exact⟨[],cC.nil,p.bare.empty⟩
 have p:C o [] [bf A m] _:=p.as;refine l2 2 j (λw=>∃ae,C o [] ([bf A m]++ae) w) ?_;have p:=p.drew;have aF:¬(m.k≠2/\m.k≠4):=λh=>h.1 (by simpa using aq)
 rotate_left
 all_goals
  have be:0<=m.s:=by have:=dY V;omega
  obtain⟨i,aC⟩:∃i,i=m.s.toNat:=⟨_,j⟩;have ad:i<s.log.length:=by omega
  obtain⟨bi,bh,es,rfl,a3,aN⟩:=a1;obtain⟨aZ,bk,a7,bp,br,aV,_⟩:=a3.read aQ.left;have bm:=aN.len;obtain⟨I,ce,K,F,aT,a5,_,aL,a9,am⟩:=aN.read aQ.right i ad;obtain⟨e,ah⟩:∃e,s.log[i]=e:=⟨_,j⟩;rw [ah] at aT a5 aL a9 am;have u:=bd.ns e (ah▸eB ad);have bb:es[i]'(by omega)=(.slice I e.1.length ce,.slice K e.2.length F):=by have:=aT;rw [cr (by omega)] at this;exact hn this
  obtain⟨aM,a0⟩:∃aM,aZ=some aM:=by
   obtain⟨a,a4,_⟩:=aV (i*2+0) _ (iI (f:=λe:Value×Value=>[e.1,e.2]) (R:=0) es (λ_ _=>rfl) i (by omega) (by decide) j);exact⟨a,a4⟩
  subst a0;refine fM 3 [0,1,2] j ⟨_,p⟩ (eL 3 j ⟨_,p⟩ (λw⟨_,p⟩=>hv j j (ax (p.b8 O) (aK some a7))) ?_);refine fM 1 [4] j ⟨_,p⟩ (eL 5 j ⟨_,p⟩ (λw⟨_,p⟩=>hv j j (ax (C.aj p) m.gt)) (qG 48 (.int .i64 (i:Nat)) j (aK (Value.int .i64) (by rw [aC];exact(pc be).symm)) (eL 6 j ⟨_,p⟩ (λw _=>qD j j ad) (eL 7 j ⟨_,p⟩ (λw⟨_,p⟩=>dd (U:=[.slice I e.1.length ce,.slice K e.2.length F]) j j j (by have h:=j6 (n:=2) (f:=λe:Value×Value=>[e.1,e.2]) (p.rd aV (cc.of_nil _ _)) (λ_ _=>rfl) i (by omega);rw [bb] at h;exact h)) (d5 8 j (eu p j j (λM w p=>?_)))))));have p:C o [] ([bf A m]++_) w:=p.front;refine ao ⟨⟨_,p⟩,?_⟩;refine jN 9 j (c6 (p.bc M) j j j j j bO (λw p=>?_));have p:=C.whole (U:=[.slice I e.1.length ce,.slice K e.2.length F]) p j;have p:C o [] [bf A m,J M #[.slice I e.1.length ce,.slice K e.2.length F] 133] w:=p.as;refine ao (c5 ?_);have p:=p.drew;refine bx 1 j (λw=>∃ae,C o [] ([bf A m,J M #[.slice I e.1.length ce,.slice K e.2.length F] 133]++ae) w) ⟨_,p⟩ (ag 0 3 j (b4 3 j (λw⟨_,p⟩=>ax (p.b8 O) j) (ag 4 1 j (a8 5 j a2 m.aH (ag 6 1 j (a8 7 j a2 m.gt (ag 8 1 j (a8 9 j a2 j (ag 11 1 j (a8 12 j a2 j (aS 10 15 j j ?_ ?_)))))))))))
  .refine cS j j j (gN (c:=ce) (p.rd aL (cc.of_nil _ _)) (by have:=u.1;omega)) (λbg w⟨z,Z,B⟩=>?_);obtain⟨t,aH,rfl,_,_⟩:=Z.form;have p:=p.aO B;have p:C o [] ([bf A m,J M #[.slice I e.1.length ce,.slice K e.2.length F] 133]++_) w:=p.front;refine ao ⟨⟨_,p⟩,?_⟩;refine aS 13 15 j j ?_ ?_;refine cS j j j (kO (d:=F) (p.rd am (cc.of_nil _ _)) u.2.2 (by have:=u.2.1;omega)) (λaW w⟨y,T,af⟩=>?_);obtain⟨q,d1,rfl,_,_⟩:=T.form;have p:=p.aO af;have p:C o [] ([bf A m,J M #[.slice I e.1.length ce,.slice K e.2.length F] 133]++_) w:=p.front;refine ao ⟨⟨_,p⟩,?_⟩;refine bl 14 j (λw _=>eX (c:=(⟨5,s.aw,m.f,m.s,0,t,e.1,aH,q,e.2,d1,cD⟩:aD).cs.toArray) j (λ_=>by kernel_rfl)) (aX 15 j (eu p j j (λD w p=>?_)));have p:C o [] ([bf A m,J M #[.slice I e.1.length ce,.slice K e.2.length F] 133]++_) w:=p.front;refine ao ⟨⟨_,p⟩,?_⟩;rotate_left
   refine eu p j j (λD w p=>?_);have p:C o [] ([bf A m,J M #[.slice I e.1.length ce,.slice K e.2.length F] 133]++_) w:=p.front;refine ao ⟨⟨_,p⟩,?_⟩;refine aX 13 j (cS j j j (kO (d:=F) (p.rd am (cc.of_nil _ _)) u.2.2 (by have:=u.2.1;omega)) (λaW w⟨y,T,af⟩=>?_));obtain⟨q,d1,rfl,_,_⟩:=T.form;have p:=p.aO af;have p:C o [] ([bf A m,J M #[.slice I e.1.length ce,.slice K e.2.length F] 133]++_) w:=p.front;refine ao ⟨⟨_,p⟩,?_⟩;refine bl 14 j (λw _=>eX (c:=(⟨5,s.aw,m.f,m.s,0,t,e.1,aH,q,e.2,d1,cD⟩:aD).cs.toArray) j (λ_=>by kernel_rfl)) ?_;rotate_left
   all_goals
    refine dK 16 j (c6 (p.bc D) j j j (by simpa using(⟨5,s.aw,m.f,m.s,0,t,e.1,aH,q,e.2,d1,cD⟩:aD).one) j bO (λw p=>?_));have p:=C.whole (U:=(⟨5,s.aw,m.f,m.s,0,t,e.1,aH,q,e.2,d1,cD⟩:aD).cs) p j;have p:C o [] [bf D (⟨5,s.aw,m.f,m.s,0,t,e.1,aH,q,e.2,d1,cD⟩:aD),z,y] w:=p.as;have aJ:fw (⟨5,s.aw,m.f,m.s,0,t,e.1,aH,q,e.2,d1,cD⟩:aD) (z++y):=⟨z,y,j,⟨Z,T⟩,j,u.2.2,⟨by show e.1.length<=_;have:=u.1;omega,by show e.2.length<=_;have:=u.2.1;omega⟩⟩;refine ao (c5 ?_);have p:=p.drew;refine bx 1 j (λw=>∃ae,C o [] ([bf D (⟨5,s.aw,m.f,m.s,0,t,e.1,aH,q,e.2,d1,cD⟩:aD)]++ae) w) ⟨_,p⟩ (ag 0 3 j (b4 3 j (λw⟨_,p⟩=>ax (p.b8 O) j) (ag 4 3 j (b4 7 j (λw⟨_,p⟩=>ax (p.b8 O) j) (bl 8 j (λw⟨_,p⟩=>dd (U:=(⟨5,s.aw,m.f,m.s,0,t,e.1,aH,q,e.2,d1,cD⟩:aD).cs) j j j (bq (C.aj p))) (aX 9 j ?_))))));have aG:=(aJ.read (Holds.app (p.holds (G:=z) (by simp)) (p.holds (G:=y) (by simp)))).1;have H:=lW aG (by show e.1.length<=_;have:=u.1;omega) (by show e.2.length<=_;have:=u.2.1;omega);refine cS j j j H (λr w⟨bn,Y,B⟩=>?_);have p:=p.aO B;have p:C o [] [bf D (⟨5,s.aw,m.f,m.s,0,t,e.1,aH,q,e.2,d1,cD⟩:aD),z,y,bn] w:=p.as
    have aA:(⟨5,s.aw,m.f,m.s,0,t,e.1,aH,q,e.2,d1,cD⟩:aD).body.length<=1000000:=by
     have au:=lb e.2 u.2.2;have av:=jn e.1 (by have:=u.1;omega);have X:=gb [4,5,s.aw,m.s,0];simp only [ex,fW] at X;show(ep [4,5,s.aw,m.s,0]++(hd e.1++ja e.2)).length<=_;simp only [cj];have:=u.1;have:=u.2.1;omega
    obtain⟨ap,gV,rfl,_,_,ab,_⟩:=Y.read (p.holds (by simp));refine ao ⟨⟨_,p⟩,?_⟩;refine aX 10 j ?_;have H:=mX (ai.st p (al.off.nil g)) ak ab aA (i:=s.aw) (d:=gV);refine bK j j j H (λw B=>?_);have p:=p.aO B;have p:C o [] [bf D (⟨5,s.aw,m.f,m.s,0,t,e.1,aH,q,e.2,d1,cD⟩:aD),z,y,bn] w:=p.as;refine ao ⟨⟨_,p⟩,?_⟩;refine ag 11 1 j (dK 12 j (c6 (p.bc D) j j j (by simpa using gC (g.ct s.aw (⟨5,s.aw,m.f,m.s,0,t,e.1,aH,q,e.2,d1,cD⟩:aD).body)) (by rw [List.size_toArray,dx,al.ei]) (by rw [List.size_toArray,(⟨5,s.aw,m.f,m.s,0,t,e.1,aH,q,e.2,d1,cD⟩:aD).bU j];decide) (λw p=>?_)));have p:=C.f9 p ((⟨5,s.aw,m.f,m.s,0,t,e.1,aH,q,e.2,d1,cD⟩:aD).ow (g.ct s.aw (⟨5,s.aw,m.f,m.s,0,t,e.1,aH,q,e.2,d1,cD⟩:aD).body) (by rw [al.ei];rfl));have p:C o [] (bf D (⟨5,s.aw,m.f,m.s,0,t,e.1,aH,q,e.2,d1,g.ct s.aw (⟨5,s.aw,m.f,m.s,0,e.1,e.2,[]⟩:aY).body⟩:aD)::_) w:=p;have p:C o [] [bf D (⟨5,s.aw,m.f,m.s,0,t,e.1,aH,q,e.2,d1,g.ct s.aw (⟨5,s.aw,m.f,m.s,0,e.1,e.2,[]⟩:aY).body⟩:aD),z,y] w:=p.as;refine ao ?_;refine c5 (bP 2 (U:=(⟨5,s.aw,m.f,m.s,0,t,e.1,aH,q,e.2,d1,g.ct s.aw (⟨5,s.aw,m.f,m.s,0,e.1,e.2,[]⟩:aY).body⟩:aD).cs) j j ((⟨5,s.aw,m.f,m.s,0,t,e.1,aH,q,e.2,d1,g.ct s.aw (⟨5,s.aw,m.f,m.s,0,e.1,e.2,[]⟩:aY).body⟩:aD).bU (al.ei _ _ _)) (bq (C.aj p)) (gj (U:=(⟨5,s.aw,m.f,m.s,0,t,e.1,aH,q,e.2,d1,g.ct s.aw (⟨5,s.aw,m.f,m.s,0,e.1,e.2,[]⟩:aY).body⟩:aD).cs) p j j j ((⟨5,s.aw,m.f,m.s,0,t,e.1,aH,q,e.2,d1,g.ct s.aw (⟨5,s.aw,m.f,m.s,0,e.1,e.2,[]⟩:aY).body⟩:aD).bU (al.ei _ _ _)) (by decide) (by decide) (λQ w p=>an 1 j j ?_)));have aB:g.check m.f m.body m.tag=true:=by simpa using W
    have E:s.told g m.P=[(⟨5,s.aw,m.f,m.s,0,t,e.1,aH,q,e.2,d1,g.ct s.aw (⟨5,s.aw,m.f,m.s,0,e.1,e.2,[]⟩:aY).body⟩:aD).P]:=by
     unfold aE.told;rw [az (by rintro(h|h|h|h);exact aF h;exact absurd h (dY V);(rw [show(m.f==s.aw)=true from ea.2 h] at S;cases S);(have h:g.check m.f m.body m.tag=false:=h;rw [aB] at h;cases h))];rw [show s.log[m.P.s.toNat]? =some e from by show s.log[m.s.toNat]? =_;rw [<-aC,cr ad,ah]]
    rw [E];have p:C o [] [J Q (⟨5,s.aw,m.f,m.s,0,t,e.1,aH,q,e.2,d1,g.ct s.aw (⟨5,s.aw,m.f,m.s,0,e.1,e.2,[]⟩:aY).body⟩:aD).cs.toArray 101,z,y] w:=p.as;refine⟨J Q (⟨5,s.aw,m.f,m.s,0,t,e.1,aH,q,e.2,d1,g.ct s.aw (⟨5,s.aw,m.f,m.s,0,e.1,e.2,[]⟩:aY).body⟩:aD).cs.toArray 101++(z++y),⟨[(⟨5,s.aw,m.f,m.s,0,t,e.1,aH,q,e.2,d1,g.ct s.aw (⟨5,s.aw,m.f,m.s,0,e.1,e.2,[]⟩:aY).body⟩:aD)],j,J Q (⟨5,s.aw,m.f,m.s,0,t,e.1,aH,q,e.2,d1,g.ct s.aw (⟨5,s.aw,m.f,m.s,0,e.1,e.2,[]⟩:aY).body⟩:aD).cs.toArray 101,z++y,j,?_,fy.one ⟨z,y,j,⟨Z,T⟩,al.ei _ _ _,u.2.2,⟨by show e.1.length<=_;have:=u.1;omega,by show e.2.length<=_;have:=u.2.1;omega⟩⟩⟩,p.perm (by simp)⟩;have:=Row.full (e:=101) (size:=39) (b:=Q) (n:=1) (cur:=(⟨5,s.aw,m.f,m.s,0,t,e.1,aH,q,e.2,d1,g.ct s.aw (⟨5,s.aw,m.f,m.s,0,e.1,e.2,[]⟩:aY).body⟩:aD).cs.toArray) (by unfold maxLen;omega) (by rw [List.size_toArray,(⟨5,s.aw,m.f,m.s,0,t,e.1,aH,q,e.2,d1,g.ct s.aw (⟨5,s.aw,m.f,m.s,0,e.1,e.2,[]⟩:aY).body⟩:aD).bU (al.ei _ _ _)]);simpa using this
  refine eu p j j (λD w p=>?_);have p:C o [] ([bf A m,J M #[.slice I e.1.length ce,.slice K e.2.length F] 133]++_) w:=p.front;refine ao ⟨⟨_,p⟩,?_⟩;refine aX 10 j (cS j j j (gN (c:=ce) (p.rd aL (cc.of_nil _ _)) (by have:=u.1;omega)) (λbg w⟨z,Z,B⟩=>?_));obtain⟨t,aH,rfl,_,_⟩:=Z.form;have p:=p.aO B;have p:C o [] ([bf A m,J M #[.slice I e.1.length ce,.slice K e.2.length F] 133]++_) w:=p.front;refine ao ⟨⟨_,p⟩,?_⟩;refine aX 13 j (cS j j j (kO (d:=F) (p.rd am (cc.of_nil _ _)) u.2.2 (by have:=u.2.1;omega)) (λaW w⟨y,T,af⟩=>?_));obtain⟨q,d1,rfl,_,_⟩:=T.form;have p:=p.aO af;have p:C o [] ([bf A m,J M #[.slice I e.1.length ce,.slice K e.2.length F] 133]++_) w:=p.front;refine ao ⟨⟨_,p⟩,?_⟩;refine bl 14 j (λw _=>eX (c:=(⟨5,s.aw,m.f,m.s,0,t,e.1,aH,q,e.2,d1,cD⟩:aD).cs.toArray) j (λ_=>by kernel_rfl)) (dK 16 j (c6 (p.bc D) j j j (by simpa using(⟨5,s.aw,m.f,m.s,0,t,e.1,aH,q,e.2,d1,cD⟩:aD).one) j bO (λw p=>?_)));have p:=C.whole (U:=(⟨5,s.aw,m.f,m.s,0,t,e.1,aH,q,e.2,d1,cD⟩:aD).cs) p j;have p:C o [] [bf D (⟨5,s.aw,m.f,m.s,0,t,e.1,aH,q,e.2,d1,cD⟩:aD),z,y] w:=p.as;have aJ:fw (⟨5,s.aw,m.f,m.s,0,t,e.1,aH,q,e.2,d1,cD⟩:aD) (z++y):=⟨z,y,j,⟨Z,T⟩,j,u.2.2,⟨by show e.1.length<=_;have:=u.1;omega,by show e.2.length<=_;have:=u.2.1;omega⟩⟩;refine ao (c5 ?_);have p:=p.drew;refine bx 1 j (λw=>∃ae,C o [] ([bf D (⟨5,s.aw,m.f,m.s,0,t,e.1,aH,q,e.2,d1,cD⟩:aD)]++ae) w) ⟨_,p⟩ (ag 0 3 j (b4 3 j (λw⟨_,p⟩=>ax (p.b8 O) j) (ag 4 3 j (b4 7 j (λw⟨_,p⟩=>ax (p.b8 O) j) (bl 8 j (λw⟨_,p⟩=>dd (U:=(⟨5,s.aw,m.f,m.s,0,t,e.1,aH,q,e.2,d1,cD⟩:aD).cs) j j j (bq (C.aj p))) (aX 9 j ?_))))));have aG:=(aJ.read (Holds.app (p.holds (G:=z) (by simp)) (p.holds (G:=y) (by simp)))).1;have H:=lW aG (by show e.1.length<=_;have:=u.1;omega) (by show e.2.length<=_;have:=u.2.1;omega);refine cS j j j H (λr w⟨bn,Y,B⟩=>?_);have p:=p.aO B;have p:C o [] [bf D (⟨5,s.aw,m.f,m.s,0,t,e.1,aH,q,e.2,d1,cD⟩:aD),z,y,bn] w:=p.as
  have aA:(⟨5,s.aw,m.f,m.s,0,t,e.1,aH,q,e.2,d1,cD⟩:aD).body.length<=1000000:=by
   have au:=lb e.2 u.2.2;have av:=jn e.1 (by have:=u.1;omega);have X:=gb [4,5,s.aw,m.s,0];simp only [ex,fW] at X;show(ep [4,5,s.aw,m.s,0]++(hd e.1++ja e.2)).length<=_;simp only [cj];have:=u.1;have:=u.2.1;omega
  obtain⟨ap,gV,rfl,_,_,ab,_⟩:=Y.read (p.holds (by simp));refine ao ⟨⟨_,p⟩,?_⟩;refine aX 10 j ?_;have H:=mX (ai.st p (al.off.nil g)) ak ab aA (i:=s.aw) (d:=gV);refine bK j j j H (λw B=>?_);have p:=p.aO B;have p:C o [] [bf D (⟨5,s.aw,m.f,m.s,0,t,e.1,aH,q,e.2,d1,cD⟩:aD),z,y,bn] w:=p.as;refine ao ⟨⟨_,p⟩,?_⟩;refine ag 11 1 j (dK 12 j (c6 (p.bc D) j j j (by simpa using gC (g.ct s.aw (⟨5,s.aw,m.f,m.s,0,t,e.1,aH,q,e.2,d1,cD⟩:aD).body)) (by rw [List.size_toArray,dx,al.ei]) (by rw [List.size_toArray,(⟨5,s.aw,m.f,m.s,0,t,e.1,aH,q,e.2,d1,cD⟩:aD).bU j];decide) (λw p=>?_)));have p:=C.f9 p ((⟨5,s.aw,m.f,m.s,0,t,e.1,aH,q,e.2,d1,cD⟩:aD).ow (g.ct s.aw (⟨5,s.aw,m.f,m.s,0,t,e.1,aH,q,e.2,d1,cD⟩:aD).body) (by rw [al.ei];rfl));have p:C o [] (bf D (⟨5,s.aw,m.f,m.s,0,t,e.1,aH,q,e.2,d1,g.ct s.aw (⟨5,s.aw,m.f,m.s,0,e.1,e.2,[]⟩:aY).body⟩:aD)::_) w:=p;have p:C o [] [bf D (⟨5,s.aw,m.f,m.s,0,t,e.1,aH,q,e.2,d1,g.ct s.aw (⟨5,s.aw,m.f,m.s,0,e.1,e.2,[]⟩:aY).body⟩:aD),z,y] w:=p.as;refine ao (c5 (bP 2 (U:=(⟨5,s.aw,m.f,m.s,0,t,e.1,aH,q,e.2,d1,g.ct s.aw (⟨5,s.aw,m.f,m.s,0,e.1,e.2,[]⟩:aY).body⟩:aD).cs) j j ((⟨5,s.aw,m.f,m.s,0,t,e.1,aH,q,e.2,d1,g.ct s.aw (⟨5,s.aw,m.f,m.s,0,e.1,e.2,[]⟩:aY).body⟩:aD).bU (al.ei _ _ _)) (bq (C.aj p)) (gj (U:=(⟨5,s.aw,m.f,m.s,0,t,e.1,aH,q,e.2,d1,g.ct s.aw (⟨5,s.aw,m.f,m.s,0,e.1,e.2,[]⟩:aY).body⟩:aD).cs) p j j j ((⟨5,s.aw,m.f,m.s,0,t,e.1,aH,q,e.2,d1,g.ct s.aw (⟨5,s.aw,m.f,m.s,0,e.1,e.2,[]⟩:aY).body⟩:aD).bU (al.ei _ _ _)) (by decide) (by decide) (λQ w p=>an 1 j j ?_))));have aB:g.check m.f m.body m.tag=true:=by simpa using W
  have E:s.told g m.P=[(⟨5,s.aw,m.f,m.s,0,t,e.1,aH,q,e.2,d1,g.ct s.aw (⟨5,s.aw,m.f,m.s,0,e.1,e.2,[]⟩:aY).body⟩:aD).P]:=by
   unfold aE.told;rw [az (by rintro(h|h|h|h);exact aF h;exact absurd h (dY V);(rw [show(m.f==s.aw)=true from ea.2 h] at S;cases S);(have h:g.check m.f m.body m.tag=false:=h;rw [aB] at h;cases h))];rw [show s.log[m.P.s.toNat]? =some e from by show s.log[m.s.toNat]? =_;rw [<-aC,cr ad,ah]]
  rw [E];have p:C o [] [J Q (⟨5,s.aw,m.f,m.s,0,t,e.1,aH,q,e.2,d1,g.ct s.aw (⟨5,s.aw,m.f,m.s,0,e.1,e.2,[]⟩:aY).body⟩:aD).cs.toArray 101,z,y] w:=p.as;refine⟨J Q (⟨5,s.aw,m.f,m.s,0,t,e.1,aH,q,e.2,d1,g.ct s.aw (⟨5,s.aw,m.f,m.s,0,e.1,e.2,[]⟩:aY).body⟩:aD).cs.toArray 101++(z++y),⟨[(⟨5,s.aw,m.f,m.s,0,t,e.1,aH,q,e.2,d1,g.ct s.aw (⟨5,s.aw,m.f,m.s,0,e.1,e.2,[]⟩:aY).body⟩:aD)],j,J Q (⟨5,s.aw,m.f,m.s,0,t,e.1,aH,q,e.2,d1,g.ct s.aw (⟨5,s.aw,m.f,m.s,0,e.1,e.2,[]⟩:aY).body⟩:aD).cs.toArray 101,z++y,j,?_,fy.one ⟨z,y,j,⟨Z,T⟩,al.ei _ _ _,u.2.2,⟨by show e.1.length<=_;have:=u.1;omega,by show e.2.length<=_;have:=u.2.1;omega⟩⟩⟩,p.perm (by simp)⟩;have:=Row.full (e:=101) (size:=39) (b:=Q) (n:=1) (cur:=(⟨5,s.aw,m.f,m.s,0,t,e.1,aH,q,e.2,d1,g.ct s.aw (⟨5,s.aw,m.f,m.s,0,e.1,e.2,[]⟩:aY).body⟩:aD).cs.toArray) (by unfold maxLen;omega) (by rw [List.size_toArray,(⟨5,s.aw,m.f,m.s,0,t,e.1,aH,q,e.2,d1,g.ct s.aw (⟨5,s.aw,m.f,m.s,0,e.1,e.2,[]⟩:aY).body⟩:aD).bU (al.ei _ _ _)]);simpa using this
def aD.kN(m:aD)(F:List Nat):Prop:=cc m.A (aP m.x) F/\cc m.B (vcs m.l) F
theorem aD.kN.sub{m:aD}{F eJ:List Nat}(h:m.kN F)(aF:∀b∈eJ,b∈F):m.kN eJ:=⟨h.1.sub aF,h.2.sub aF⟩
theorem aD.ok.qo{m:aD}{o w:World}{F:List Nat}{ae:List (List Chunk)}(h:m.ok o)(a:C o F ae w)(b:m.kN F):m.ok w:=⟨a.rd h.x b.1,a.rd h.l b.2,h.aI,h.tag⟩
theorem aD.ok.BI{m:aD}{o w:World}{F:List Nat}{ae:List (List Chunk)}(h:m.ok o)(a:C o F ae w)(b:m.kN F):m.kN (au ae):=⟨a.apart h.x b.1,a.apart h.l b.2⟩
theorem aE.Hb{g:al}{s:aE}{m:aY}(h:m.k=1):s.take g m=((s.eF g m.x).1,(s.eF g m.x).2.1):=aR h
theorem aE.G9{g:al}{s:aE}{m:aY}(h:¬m.k=1)(a:m.s<s.slot):s.take g m=(s,s.told g m):=(az h).trans (aR a)
theorem aE.G5{g:al}{s:aE}{m:aY}(h:¬m.k=1)(a:m.s=s.slot):s.take g m=aE.gE g {s with cur:=(ho g s.cur m).1} (ho g s.cur m).2:=(az h).trans ((az (by omega)).trans (aR a))
theorem aE.Ha{g:al}{s:aE}{m:aY}(h:¬m.k=1)(b:s.slot<m.s)(a:m.s-s.slot<=4/\s.stored.length<128):s.take g m=({s with stored:=bV s.stored s.eV m,eV:=s.eV+1},[]):=(az h).trans ((az (by omega)).trans ((az (by omega)).trans (aR a)))
theorem aE.zN{g:al}{s:aE}{m:aY}(h:¬m.k=1)(b:s.slot<m.s)(a:¬(m.s-s.slot<=4/\s.stored.length<128)):s.take g m=(s,[]):=(az h).trans ((az (by omega)).trans ((az (by omega)).trans (az a)))
theorem aE.ok.qx{g:al}{N M:Nat}{s:aE}{c:Option ai}(h:s.ok g N)(e:N<=M)(f:∀r,c=some r->r.ok g M)(aF:c.isSome=s.cur.isSome):aE.ok g M {s with cur:=c}:=
 {h.more e with cur:=λr a=>⟨f r a,by
   have b:s.cur.isSome=true:=by rw [<-aF,show c=some r from a];rfl
   obtain⟨i,d⟩:=g8.1 b;exact(h.cur i d).2⟩}
theorem pG{a b:Int}(c: -2000000<=a/\a<=2000000)(d: -2000000<=b/\b<=2000000):evalBin .add .i64 a b=some (.int .i64 (a+b)):=by
 show some (Value.int .i64 (IntKind.i64.wrap (a+b)))=_;rw [j3];exact aK (λz=>some (Value.int .i64 z)) (by omega)
theorem rI{a b:Int}(c: -2000000<=a/\a<=2000000)(d: -2000000<=b/\b<=2000000):evalBin .sub .i64 a b=some (.int .i64 (a-b)):=by
 show some (Value.int .i64 (IntKind.i64.wrap (a-b)))=_;rw [j3];exact aK (λz=>some (Value.int .i64 z)) (by omega)
theorem G3{o:World}{g:al}{ba:Nat}{s:aE}{G:List Chunk}(aR:h3 g ba s G){m:aD}(hm:m.ok o)(H:m.kN (au [G]))(Z:m.P.dF)(bw:m.s<=1000000){N:Nat}(J:s.ok g N)(aP:773<=N)(aQ:N+40<=1000000)(O:g.at o)(R:g.ok)(y:g.off (au [G]))(a:Own [G] o):Calls prog 77 #[aa ba,.agg m.cs.toArray] o λr w=>∃bj af,cC r (s.take g m.P).2 bj/\h3 g ba (s.take g m.P).1 af/\C o (au [G]) [af,bj] w:=by
 have S:m.tag.length=32:=hm.tag;have bz:m.x.length<=200:=Z.x;have bv:m.l.length<=10:=Z.l;have aZ:=H;have a4:=y;obtain⟨c,L,a7,Q,D,t,rfl⟩:=aR;obtain⟨e,aA⟩:∃e,e=au [cB g ba s c++(L++(a7++(Q++D)))]:=⟨_,j⟩;rw [<-aA] at H y⊢;have a:C o e [cB g ba s c++(L++(a7++(Q++D)))] o:=aA▸a;have a:=a.p2;obtain⟨am,ah,I,bA,T,ap,aG,av,az⟩:=t.stored;obtain⟨bi,bh,es,bp,aV,bn⟩:=t.log;obtain⟨bg,bm,a0,bs,bu⟩:=aV.form;have bt:=J.log;refine a6 func77 (bJ 2 a j j (λf w a=>?_));have a:C o e (bf f m::_) w:=a;refine ar 13 j (ax (C.aj (b:=ba) a) (aK some a0)) (ar 7 j (ax (C.aj a) m.gL) (bo 2 j j (λF=>?_) (λF=>?_)))
 .refine ar 4 j (ax (C.aj a) m.fY) ?_;have a:C o e [cB g ba s c,L,a7,Q,D,bf f m] w:=a.as;have a:=a.ik;have n:=zK (bN:=m.c) ⟨c,L,a7,Q,D,t,j⟩ (a.rd hm.x H.1) aZ.1 (by omega) J aP aQ (O.st a y) R a4 a.ours;refine bk 0 n j (λr w⟨v,bj,af,ab,X,aT,q⟩=>?_);subst ab;have a:=a.b1 q;refine an 9 j j ?_;rw [aE.Hb (m:=m.P) (ea.1 F)];exact⟨bj,af,X,aT,a.as⟩
 refine ar 3 j (ax (C.aj a) m.gt) (cy 3 j j (λM=>?_) (λM=>?_))
 .refine bP 3 (U:=m.cs) j j (m.bU S) (bq (C.aj a)) ?_;have n:=Hv (ba:=ba) (C.aj (b:=ba) a) t.log (a.holds (by simp)) J (O.st a y) R (hm.qo a H) Z M;refine bk 0 n j (λr w⟨bj,X,q⟩=>?_);have a:=a.aO q;refine an 1 j j ?_;rw [aE.G9 (m:=m.P) (by simpa using F) M];have a:C o e [cB g ba s c,L,a7,Q,D,bj] w:=a.as;exact⟨bj,_,X,⟨c,L,a7,Q,D,t,j⟩,a.ik⟩
 refine ar 3 j (ax (C.aj a) m.gt) (bo 3 j j (λeN=>?_) (λeN=>?_))
 .have a:C o e ([bf f m,cB g ba s c]++_) _:=a.front;have a:=a.drew;refine bx 1 j (λw=>True) bb (ag 0 4 j (aS 4 5 j j ?_ ?_));refine nI j j j j (ax (C.aj (b:=ba) a) j) (ao ⟨bb,?_⟩);refine aX 5 j (lM (U:=m.cs) j j j j (m.bU S) (bq (C.aj a)) ?_);rotate_left
  refine lM (U:=m.cs) j j j j (m.bU S) (bq (C.aj a)) (ao ⟨bb,?_⟩);refine aX 4 j (nI j j j j (ax (C.aj (b:=ba) a) j) ?_);rotate_left
  all_goals
   refine ao ⟨bb,?_⟩;refine aX 6 j ?_;have n:=zL (m:=m) (hm.qo a H) t.cur (λr ab=>(J.cur r ab).1) (by omega) (O.st a y) R (a.eE O y) a.ours;refine cS j j j n (λr w⟨bj,ac,X,aM,q⟩=>?_);have a:=a.b1 q;have a:C o e [bf f m,cB g ba s c,L,ac,Q,D,bj] w:=a.as;refine ao ⟨bb,?_⟩;refine aX 7 j ?_;have a9:aE.ok g (N+6) ({s with cur:=(ho g s.cur m.P).1}:aE):=J.qx (gp _ _) (ry R Z (λr ab=>(J.cur r ab).1)) rz
   obtain⟨ad,aW,a⟩:∃ad,h3 g ba ({s with cur:=(ho g s.cur m.P).1}:aE) ad/\C o e [ad,bj] w:=by
    have a:C o e [cB g ba s (c),L,ac,Q,D,bj] w:=a.as;exact⟨_,⟨c,L,ac,Q,D,⟨t.log,aM,t.cA,t.stored⟩,j⟩,a.ik⟩
   have n:=ur aW X (by have:=rv R s.cur m.P;omega) a9 (by omega) (by omega) (O.st a y) R (a.eE O y) a.ours;refine cS j j j n (λr w⟨aJ,aB,aN,aU,a1⟩=>?_);have a:=a.b1 a1;refine ao ⟨bb,?_⟩;refine ag 8 1 j (bL (an 0 j j ?_));rw [aE.G5 (m:=m.P) (by simpa using F) (beq_iff_eq.1 eN)];exact⟨aJ,aB,aN,aU,a.as⟩
 refine ar 3 j (ax (C.aj a) m.gt) (bE 1 j j j (rI (by omega) (by omega)) (aq 2 j (c9 54 j (λak=>?_) (λak=>?_))));refine ar 3 j (ax (C.aj (b:=ba) a) (aK some ap)) ?_;have aY:=dI.own (C.perm (B:=[ay 287 am ah I,T,bf f m,cB g ba s c,L,a7,Q]) (show C o e [D,bf f m,cB g ba s c,L,a7,Q] w from a.as) (by simp [az])) aG;have n:=x4 aY;refine br 0 n j (λw q=>?_);have a:=a.aO q;refine cy 3 j j (λai=>?_) (λai=>?_)
 .have a:C o e ([bf f m,cB g ba s c]++_) _:=a.front;have a:=a.drew;refine bx 1 j (λw=>∃ae,C o e ([bf f m,cB g ba s c]++ae) w) ⟨_,a⟩ (ag 0 1 j (a8 1 j a2 m.fY (ag 3 1 j (a8 4 j a2 m.eZ (aX 2 j ?_)))));have n:=gN (c:=m.c) (hm.qo a H).x (by omega);refine cS j j j n (λr w⟨z,aC,q⟩=>?_);obtain⟨i,aH,rfl⟩:∃A c,r= .slice A m.x.length c:=by obtain⟨A,c,h,_⟩:=aC.form;exact⟨A,c,h⟩
  have a:=a.aO q;have a:C o e ([bf f m,cB g ba s c]++_) w:=a.front;refine ao ⟨⟨_,a⟩,?_⟩;refine ag 6 1 j (aX 5 j ?_);have n:=kO (d:=m.d) (hm.qo a H).l hm.aI (by omega);refine cS j j j n (λr w⟨E,aF,q⟩=>?_);obtain⟨p,d1,rfl⟩:∃A c,r= .slice A m.l.length c:=by obtain⟨A,c,h,_⟩:=aF.form;exact⟨A,c,h⟩
  have a:=a.aO q;have a:C o e ([bf f m,cB g ba s c]++_) w:=a.front;refine ao ⟨⟨_,a⟩,?_⟩;refine dK 7 j (cO (a.bc f) j j j j (by rw [hl,m.bU hm.tag];decide) (λw a=>?_));have a:C o e (bf f ({m with A:=i,c:=aH}:aD)::_) w:=C.f9 a (m.qj i aH);have a:C o e ([bf f ({m with A:=i,c:=aH}:aD),cB g ba s c]++_) w:=a.front;refine ao (jN 8 j (qI j j j (ao (jN 9 j (cO (a.bc f) j j j j (by rw [List.size_toArray,(({m with A:=i,c:=aH}:aD)).bU hm.tag];decide) (λw a=>?_))))));have a:C o e (bf f ({m with A:=i,c:=aH,B:=p,d:=d1}:aD)::_) w:=C.f9 a ((({m with A:=i,c:=aH}:aD)).mj p d1);have a:C o e ([bf f ({m with A:=i,c:=aH,B:=p,d:=d1}:aD),cB g ba s c]++_) w:=a.front;refine ao (c5 ?_);have a:C o e [bf f ({m with A:=i,c:=aH,B:=p,d:=d1}:aD),cB g ba s c,L,a7,Q,D,z,E] _:=a.as;subst az;have a:C o e [bf f ({m with A:=i,c:=aH,B:=p,d:=d1}:aD),cB g ba s c,L,a7,Q,ay 287 am ah I,T,z,E] _:=C.perm (A:=[bf f ({m with A:=i,c:=aH,B:=p,d:=d1}:aD),cB g ba s c,L,a7,Q,ay 287 am ah I++T,z,E]) a (by simp);have a:=a.drew;refine bx 1 j (λw=>∃ae,C o e ([bf f ({m with A:=i,c:=aH,B:=p,d:=d1}:aD),cB g ba s c]++ae) w) ⟨_,a⟩ (ag 0 3 j (a8 3 j a2 (aK some ap) (ag 4 3 j (a8 7 j a2 j (bl 8 j (λw⟨_,a⟩=>dd (U:=({m with A:=i,c:=aH,B:=p,d:=d1}:aD).cs) j j (({m with A:=i,c:=aH,B:=p,d:=d1}:aD).bU S) (bq (C.aj a))) (aX 9 j ?_))))));have n:=vr (k:=s.eV) (({m with A:=i,c:=aH,B:=p,d:=d1}:aD).bU S) ({m with A:=i,c:=aH,B:=p,d:=d1}:aD).one (a.ours (cM:=[ay 287 am ah I])) aG;refine bK j j j n (λw⟨K,a3,q⟩=>?_);have a:=a.b1 q;have a:C o e [bf f ({m with A:=i,c:=aH,B:=p,d:=d1}:aD),cB g ba s c,L,a7,Q,ay 287 am ah K,T,z,E] w:=a.as;refine ao ⟨⟨_,a⟩,?_⟩;refine bL (ar 4 j (ax (C.aj a) j) (bE 0 j j j (pG (by have:=J.eV;omega) (by omega)) (dE 2 (a.bc ba) j j j j (λw a=>?_))));have a:C o e (cB g ba {s with eV:=s.eV+1} c::_) w:=a;refine an 3 j j ?_;have Y:s.slot<m.P.s:=by have W:=M;have u:¬m.s=(s.log.length:Int):=(by simpa using eN);have u:¬m.P.s=s.slot:=u;have aw:¬m.P.s<s.slot:=W;omega
  have be:m.P.s-s.slot<=4/\s.stored.length<128:=⟨dV ak,by have:=ai;have:=av.len;omega⟩;rw [aE.Ha (m:=m.P) (by simpa using F) Y be];obtain⟨V,aL,bd,a5⟩:=av.put (k:=s.eV) (show jT (.agg ({m with A:=i,c:=aH,B:=p,d:=d1}:aD).cs.toArray) m.P (z++E) from⟨({m with A:=i,c:=aH,B:=p,d:=d1}:aD),j,j,z,E,j,⟨aC,aF⟩,S,Z.aI,⟨by show m.x.length<=_;omega,by show m.l.length<=_;omega⟩⟩)
  have a:C o e [cB g ba {s with eV:=s.eV+1} c,L,a7,Q,ay 287 am ah K,aL,V] w:=C.perm (A:=[cB g ba {s with eV:=s.eV+1} c,L,a7,Q,ay 287 am ah K,T,z,E]) a.as (by
   simp only [jZ,mF,gA];exact .append_left _ (.append_left _ (.append_left _ (.append_left _ (.append_left _ a5)))))
  have a:C o e [cB g ba {s with eV:=s.eV+1} c,L,a7,Q,ay 287 am ah K++V,[]] w:=C.perm (A:=[cB g ba {s with eV:=s.eV+1} c,L,a7,Q,ay 287 am ah K,V]) a.as (by simp);exact⟨[],_,cC.nil,⟨c,L,a7,Q,ay 287 am ah K++V,⟨t.log,t.cur,t.cA,⟨am,ah,K,_,V,ap,a3,bd,j⟩⟩,j⟩,a.ik⟩
 refine an 4 j j ?_;have Y:s.slot<m.P.s:=by have W:=M;have u:¬m.s=(s.log.length:Int):=(by simpa using eN);have u:¬m.P.s=s.slot:=u;have aw:¬m.P.s<s.slot:=W;omega
 rw [aE.zN (m:=m.P) (by simpa using F) Y (by have:=ai;have:=av.len;exact λh=>absurd h.2 (by omega))];rotate_left
 refine an 13 j j ?_;have Y:s.slot<m.P.s:=by have W:=M;have u:¬m.s=(s.log.length:Int):=(by simpa using eN);have u:¬m.P.s=s.slot:=u;have aw:¬m.P.s<s.slot:=W;omega
 rw [aE.zN (m:=m.P) (by simpa using F) Y (λh=>absurd h.1 (of_decide_eq_false ak))];rotate_left
 all_goals
  have a:C o e [cB g ba s c,L,a7,Q,D,[]] w:=(C.empty a).as;exact⟨[],_,cC.nil,⟨c,L,a7,Q,D,t,j⟩,a.ik⟩
theorem Hh{o:World}{g:al}{ba:Nat}{s:aE}{G:List Chunk}(y:h3 g ba s G){N:Nat}(n:s.ok g N)(H:773<=N)(I:N+40<=1000000)(f:g.at o)(h:g.ok)(e:g.off (au [G]))(a:Own [G] o):Calls prog 79 #[aa ba] o λr w=>∃bj af,cC r (s.tick g).2 bj/\h3 g ba (s.tick g).1 af/\C o (au [G]) [af,bj] w:=by
 obtain⟨c,L,a7,Q,D,i,rfl⟩:=y;obtain⟨d,q⟩:∃d,d=au [cB g ba s c++(L++(a7++(Q++D)))]:=⟨_,j⟩;rw [<-q] at e⊢;have a:C o d [cB g ba s c++(L++(a7++(Q++D)))] o:=q▸a;have a:=a.p2;refine a6 func79 (ar 16 j (ax (C.aj (b:=ba) a) j) ?_);have m:=He i.cur (λr p=>(n.cur r p).1) (by omega) (f.st a e) h (a.eE f e) a.ours;refine bk 0 m j (λr w⟨bj,k,x,u,B⟩=>?_);have a:=a.b1 B;have a:C o d [cB g ba s c,L,k,Q,D,bj] w:=a.as;have F:aE.ok g (N+6) ({s with cur:=(i0 g s.cur).1}:aE):=n.qx (gp _ _) (tU h (λr p=>(n.cur r p).1)) tV
 obtain⟨l,A,a⟩:∃l,h3 g ba ({s with cur:=(i0 g s.cur).1}:aE) l/\C o d [l,bj] w:=by
  have a:C o d [cB g ba s (c),L,k,Q,D,bj] w:=a.as;exact⟨_,⟨c,L,k,Q,D,⟨i.log,u,i.cA,i.stored⟩,j⟩,a.ik⟩
 have m:=ur A x (by have:=w5 h s.cur;omega) F (by omega) (by omega) (f.st a e) h (a.eE f e) a.ours;refine bk 0 m j (λr w⟨t,aB,v,z,E⟩=>?_);have a:=a.b1 E;exact an 1 j j ⟨t,aB,v,z,a.as⟩
theorem ya{o:World}{g:al}{ba:Nat}{s:aE}{c:jX}{L:List Chunk}(Y:o.heap[ba]? =some (.cells (oy g s c).toArray 131 (0,0)))(T:m2 c.log s.log L)(D:Holds o L){N:Nat}(H:s.ok g N):Calls prog 24 #[aa ba] o λr w=>∃bj,h1 r (s.log.map Prod.fst) bj/\C o [] [bj] w:=by
 have a:Own [] o:=C.start o;obtain⟨am,ak,es,rfl,X,B⟩:=T;obtain⟨M,P,Z,aA,aB,af,_⟩:=X.read D.left;have au:=B.len;have ay:=H.log;have E:∀e∈es,([e.1,e.2]:List Value).length=2:=λ_ _=>rfl
 refine a6 func24 (ar 19 j (ax Y (aK some Z)) ?_)
 refine dj 3 j (cU:=Nat×Value×List Chunk) (λk=>[(0,aa ba),(3,k.2.1),(11,.slice M s.log.length P),(12,.int .i64 (s.log.length:Nat)),(13,.int .i64 (k.1:Nat))])
  (λk w=>k.1<=s.log.length/\h1 k.2.1 ((s.log.take k.1).map Prod.fst) k.2.2/\C o [] [k.2.2] w) (λk=>s.log.length-k.1) (0,.slice none 0 0,[]) ⟨j,j,j,j,j,bb⟩ ⟨cp _,⟨[],[],[],j,Row.nil _ _,j⟩,a.empty⟩ ?_
 rintro⟨i,v,G⟩ w ⟨ab,q,a⟩;dsimp only at ab q a⊢;refine cy 4 j j (λO=>?_) (λO=>?_)
 .have l:i<s.log.length:=by omega
  obtain⟨h,ci,m,p,ah,av,aw,ag,_,_⟩:=B.read D.right i l;have F:es[i]'(by omega)=(.slice h s.log[i].1.length ci,.slice m s.log[i].2.length p):=by have:=ah;rw [cr (by omega)] at this;exact hn this
  have ae:=H.ns _ (eB l);have K:=a.rd af (cc.of_nil _ _);refine aq 5 j (fJ j j j j K (v:=.slice h s.log[i].1.length ci) (iI (f:=λe:Value×Value=>[e.1,e.2]) (R:=0) es E i (by omega) (by decide) (by rw [F];rfl)) l (λao Q ap=>?_));subst Q;have I:=j6 (f:=λe:Value×Value=>[e.1,e.2]) K E i (by omega);rw [F] at I;refine bP 0 (U:=[.slice h s.log[i].1.length ci,.slice m s.log[i].2.length p]) j j j I (cx 0 a j (λz w a=>cv 0 (a.bc z) j j j j j (λw a=>?_)));have a:=C.whole (U:=[.slice h s.log[i].1.length ci,.slice m s.log[i].2.length p]) a j;have a:C o [] [[(z,.cells #[.slice h s.log[i].1.length ci,.slice m s.log[i].2.length p] 133 (0,0))],G] w:=a.as;refine ar 3 j (ax (C.aj a) j) (bk 0 (gN (c:=ci) (a.rd ag (cc.of_nil _ _)) (by have:=ae.1;omega)) j (λr w⟨d,x,ad⟩=>?_));have a:=a.aO ad;have a:C o [] [G,d] w:=a.as;refine fx (U:=[r]) a j j j j j (by simpa using x.one) bO (λt w a=>?_);have aT:=bq (C.aj (b:=t) a);obtain⟨y,H1,us,rfl,V,S⟩:=q;have a:C o [] [y,H1,d,J t #[r] 26] w:=C.perm (A:=[y++H1,d,J t #[r] 26]) a.as (by simp);have az:((s.log.take i).map Prod.fst).length=i:=by rw [fa,hC];omega
  refine e6 a V j j (by decide) j j j (news:=[r]) j aT (by intro u hu;rw [List.mem_singleton.1 hu];exact x.one) (by omega) (by unfold maxLen;omega) (λv2 n w W a=>?_)
  have ai:h1 v2 ((s.log.take (i+1)).map Prod.fst) (n++(H1++d)):=by
   rw [fK l,iB];exact⟨n,H1++d,us++[r],j,by rw [cj];exact W,S.app (hI.one x)⟩
  have a:C o [] [n++(H1++d)] w:=C.perm (A:=[n,H1,d]) a.as (by simp);exact bE 2 j j j (dn i (by omega)) (bW 1 j ⟨(i+1,v2,_),⟨j,j,j,j,j,bb⟩,⟨l,ai,a⟩,by dsimp only;omega⟩)
 refine an 5 j j ?_;have ac:i=s.log.length:=by omega
 rw [ac,gm] at q;exact⟨G,q,a⟩
def kW:List UInt8:=[97,98,99,100,101,102,103,104,105,106,107,108,109,110,111,112,113,114,115,116,117,118,119,120,121,122]
def fZ(b:UInt8):Bool:=decide (97<=b.toNat/\b.toNat<=122)
def ie(R:Nat):Array Value:=((List.range 256).map λi=>Value.bool (decide (97<=i/\i<97+R))).toArray
abbrev iY(b:Nat)(R:Nat):List Chunk:=J b (ie R) 293
theorem rj(R:Nat):(ie R).size=256:=by simp [ie]
theorem ri(R i:Nat)(a:i<256):(ie R)[i]? =some (.bool (decide (97<=i/\i<97+R))):=by
 simp [ie,List.getElem?_range a,a]
theorem BC(R:Nat)(b:R<26):(ie R).setIfInBounds (97+R) (.bool true)=ie (R+1):=by
 apply q9;intro i;by_cases a:i<256
 .by_cases he:i=97+R
  .subst he;rw [ts (by rw [rj];omega),ri _ _ a]
   congr 2
   symm
   rw [gn];omega
  .rw [pl (by omega),ri _ _ a,ri _ _ a]
   congr 2
   rw [nT];omega
 .rw [tu (by rw [Array.size_setIfInBounds,rj];omega),tu (by rw [rj];omega)]
theorem BB(c:UInt8):(ie 26)[c.toNat]? =some (.bool (fZ c)):=by
 have:=c.toNat_lt;rw [ri _ _ (by omega)];unfold fZ
 congr 2
 rw [nT];omega
theorem wW{o:World}{b:Nat}{c:UInt8}(a:Own [iY b 26] o):Calls prog 201 #[aa b,.int .u8 (c.toNat:Int)] o λr w=>r= .bool (fZ c)/\C o (au [iY b 26]) [iY b 26] w:=by
 refine a6 func201 (aq 8 j (qJ (R:=c.toNat) j j j j (by have:=c.toNat_lt;omega) ?_));exact ar 0 j (a.cell (v:=.bool (fZ c)) (by rw [fe,gK];exact BB c)) (an 1 j j ⟨j,a⟩)
theorem Hw{o:World}{b:Nat}{s:List UInt8}(a:Own [iY b 26] o):Calls prog 164 #[.string (cQ s),aa b] o λr w=>r= .string (cQ (s.dropWhile fZ))/\C o (au [iY b 26]) [iY b 26] w:=by
 refine a6 func164 ?_
 refine dj 5 j (cU:=List UInt8) (λi=>[(0,.string (cQ i)),(1,aa b)])
  (λi w=>i.dropWhile fZ=s.dropWhile fZ/\C o (au [iY b 26]) [iY b 26] w) (λi=>i.length) s ⟨j,j,bb⟩ ⟨j,a⟩ ?_
 rintro s1 w ⟨g,a⟩;refine aq 4 j (mv j j j j ?_);refine cy 1 j j (λdu=>?_) (λdu=>?_)
 .have f:0<s1.length:=by omega
  refine aq 7 j (qK (R:=0) j j j j f ?_);have k:=wW (c:=s1[0]) a.h7;refine bk 0 k j (λr w⟨n,ad⟩=>?_);subst n;have a:=a.gT ad;refine bo 1 j j (λd=>?_) (λd=>?_)
  .refine an 5 j j ?_;have e:fZ s1[0]=false:=by simpa using d
   refine⟨?_,a⟩;rw [<-g];cases s1 with
   |nil=>simp at f
   |cons x r=>
    have m:fZ x=false:=e;rw [ti,m];rfl
  refine aq 3 j (AV (R:=1) j j j j (by omega) ?_);refine bW 1 j ?_;have e:fZ s1[0]=true:=by simpa using d
  have l:s1=s1[0]::s1.drop 1:=by cases s1 with|nil=>simp at f|cons x r=>rfl
  refine⟨s1.drop 1,⟨j,j,bb⟩,⟨?_,a⟩,by rw [iC];omega⟩;rw [<-g]
  conv=>rhs;rw [l]
  rw [ti,aR e]
 refine an 5 j j ?_
 have h:s1=[]:=by
  have:=du;exact nX.1 (by omega)
 subst h;refine⟨?_,a⟩;rw [<-g];rfl
theorem xN(k:Nat)(a:0<k)(h:k<9223372036854775807):evalBin .sub .i64 (k:Int) 1=some (.int .i64 ((k-1:Nat):Int)):=by
 have:IntKind.i64.wrap ((k:Int)-1)=((k-1:Nat):Int):=by rw [j3];omega
 show some (Value.int .i64 (IntKind.i64.wrap ((k:Int)-1)))=_;rw [this]
def kD(s:List UInt8):List UInt8:=(s.reverse.dropWhile fZ).reverse
theorem zV(s:List UInt8)(h:0<s.length)(a:fZ (s[s.length-1]'(by omega))=true):kD (s.take (s.length-1))=kD s:=by
 have e:s=s.take (s.length-1)++[s[s.length-1]'(by omega)]:=by
  rw [<-fK (by omega),show s.length-1+1=s.length by omega,gm]
 unfold kD
 conv=>rhs;rw [e]
 rw [List.reverse_append,List.reverse_singleton,List.singleton_append,List.dropWhile_cons,if_pos a]
theorem zW(s:List UInt8)(h:0<s.length)(a:fZ (s[s.length-1]'(by omega))=false):kD s=s:=by
 have e:s=s.take (s.length-1)++[s[s.length-1]'(by omega)]:=by
  rw [<-fK (by omega),show s.length-1+1=s.length by omega,gm]
 unfold kD;rw [e,List.reverse_append,List.reverse_singleton,List.singleton_append,List.dropWhile_cons,a];simp
theorem EA(i:Nat)(a:i<26):(kW[i]'a).toNat=97+i:=by
 have:∀i:Fin 26,(kW[i.1]'i.2).toNat=97+i.1:=by decide
 exact this ⟨i,a⟩
theorem Hx{o:World}{b:Nat}{s:List UInt8}(a:Own [iY b 26] o)(l:s.length<=1000000):Calls prog 165 #[.string (cQ s),aa b] o λr w=>r= .string (cQ (kD s))/\C o (au [iY b 26]) [iY b 26] w:=by
 refine a6 func165 ?_
 refine dj 5 j (cU:=List UInt8) (λi=>[(0,.string (cQ i)),(1,aa b)])
  (λi w=>i.length<=1000000/\kD i=kD s/\C o (au [iY b 26]) [iY b 26] w) (λi=>i.length) s ⟨j,j,bb⟩ ⟨l,j,a⟩ ?_
 rintro s1 w ⟨m,g,a⟩;refine aq 4 j (mv j j j j ?_);refine cy 1 j j (λdu=>?_) (λdu=>?_)
 .have d:0<s1.length:=by omega
  refine aq 8 j (mv j j j j ?_);refine bE 0 j j j (xN s1.length d (by omega)) (qK (R:=s1.length-1) j j j j (by omega) ?_);have k:=wW (c:=s1[s1.length-1]) a.h7;refine br 0 k j (λw ad=>?_);have a:=a.gT ad;refine bo 1 j j (λe=>?_) (λe=>?_)
  .refine an 5 j j ?_;have f:fZ s1[s1.length-1]=false:=by simpa using e
   refine⟨?_,a⟩;rw [<-g,zW s1 d f]
  refine aq 4 j (mv j j j j ?_);refine bE 0 j j j (xN s1.length d (by omega)) (AW (R:=s1.length-1) j j j j (by omega) (bW 1 j ?_));have f:fZ s1[s1.length-1]=true:=by simpa using e
  exact⟨s1.take (s1.length-1),⟨j,j,bb⟩,⟨by rw [hC];omega,(zV s1 d f).trans g,a⟩,by rw [hC];omega⟩
 refine an 5 j j ?_
 have h:s1=[]:=by
  have:=du;exact nX.1 (by omega)
 subst h;refine⟨?_,a⟩;rw [<-g];rfl
theorem EJ{o:World}:Calls prog 163 #[.string (cQ kW)] o λr w=>r= .tuple #[.agg (ie 26).toList.toArray,.bool true]/\C o [] [] w:=by
 have a:Own [] o:=C.start o;refine fj func163 (cx 2 a j (λaS w a=>?_))
 refine dj 6 j (cU:=Nat) (λi=>[(0,.string (cQ kW)),(2,aa aS),(4,.int .i64 (i:Nat))])
  (λi w=>i<=26/\C o [] [iY aS i] w) (λi=>26-i) 0 ⟨j,j,j,bb⟩ ⟨cp _,a⟩ ?_
 rintro i w ⟨f,a⟩;refine aq 5 j (mv j j j j ?_);refine cy 1 j j (λc=>?_) (λc=>?_)
 .have b:i<26:=by have:=c;have:kW.length=26:=rfl;omega
  have g:=EA i b;have e:decide (((kW[i]'b).toNat:Int)>=128)=false:=by rw [qT];omega
  refine aq 7 j (qK (R:=i) j j j j b ?_);refine ij 6 j j (e) (aq 3 j (qJ (R:=(kW[i]'b).toNat) j j j j (by omega) ?_));refine cO a j j j j (by rw [rj];omega) (λw a=>?_)
  have a:C o [] [iY aS (i+1)] w:=by
   have h:=a;rw [show 0+(kW[i]'b).toNat*1=97+i by omega,BC i b] at h;exact h
  exact bE 2 j j j (dn i (by omega)) (bW 1 j ⟨i+1,⟨j,j,j,bb⟩,⟨b,a⟩,by omega⟩)
 have d:i=26:=by have:=c;have:kW.length=26:=rfl;omega
 subst d;refine bP 3 (U:=(ie 26).toList) j j (by simp [ie]) a.bQ (c6 a j j j (by kernel_rfl) (by simp [ie]) (by simp [ie]) (λw a=>?_));have a:=C.whole (U:=(ie 26).toList) a (by simp);refine bH 1 j ⟨_,ds results163 j j j j (a.bQ),?_⟩;exact⟨j,a.bare⟩
def sC(s:List UInt8):List UInt8:=(kD s).dropWhile fZ
theorem dropWhile_nil:∀l:List UInt8,l.dropWhile fZ=[]↔l.all fZ=true
 |[]=>by simp
 |x::r=>by
  rw [ti];by_cases h:fZ x=true
  .rw [aR h,dropWhile_nil r];simp [h]
  .rw [az h];simp [h]
theorem sD(s:List UInt8):decide (sC s=[])=s.all fZ:=by
 rw [lk,gn];unfold sC;rw [dropWhile_nil];constructor
 .intro h;rcases q3 s.length with c|c
  .rw [nX.1 c];rfl
  .have key:∀(n:Nat)(s:List UInt8),s.length=n->(kD s).all fZ=true->s.all fZ=true:=by
    intro n;induction n with
    |zero=>intro s aF _;rw [nX.1 aF];rfl
    |succ n g=>
     intro s aF h;have d:0<s.length:=by omega
     by_cases b:fZ (s[s.length-1]'(by omega))=true
     .rw [<-zV s d b] at h;have a:=g (s.take (s.length-1)) (by rw [hC];omega) h
      have e:s=s.take (s.length-1)++[s[s.length-1]'(by omega)]:=by
       rw [<-fK (by omega),show s.length-1+1=s.length by omega,gm]
      rw [e,List.all_append,a];simp [b]
     .rw [zW s d (by simpa using b)] at h;exact h
   exact key _ s j h
 .intro h;have a:s.reverse.all fZ=true:=by rw [List.all_reverse];exact h
  have f:=(dropWhile_nil s.reverse).2 a;unfold kD;rw [f];rfl
theorem zX{o:World}{s:List UInt8}(g:s≠[])(f:s.length<=1000000):Calls prog 119 #[.string (cQ s),.string (cQ kW)] o λr w=>r= .string (cQ (sC s))/\C o [] [] w:=by
 have a:Own [] o:=C.start o;have d:(cQ s==cQ [])=false:=by rw [mY];simp [g]
 have e:(cQ kW==cQ [])=false:=by rw [mY];decide
 refine a6 func119 (aq 7 j (nH j j j j ?_));refine aq 1 j (bY 9 (.bool false) j (aK Value.bool (d)) ?_);refine aq 1 j (nH j j j j ?_);refine ij 1 j j (e) (aq 5 j (mv j j j j ?_));refine aq 2 j (bY 17 (.bool false) j (aK Value.bool (j)) ?_);have b:=EJ (o:=o);refine br 10 b j (λw ad=>?_);have a:=a.aO ad;refine cx 3 a j (λc w a=>c6 a j j j (by kernel_rfl) (by simp [ie]) (by decide) (λw a=>?_));have a:C o [] (iY c 26::_) w:=C.whole (U:=(ie 26).toList) a (by rw [show(ie 26).toList.length=256 by simp [ie]];rfl);have b:=Hx a.h7 f;refine br 8 b j (λw ad=>?_);have a:=a.gT ad;have b:=Hw (s:=kD s) a.h7;refine br 0 b j (λw ad=>?_);have a:=a.gT ad;exact an 1 j j ⟨j,a.bare⟩
def kZ(s:List UInt8):Bool:=s.all fZ&&decide (1<=s.length/\s.length<=8)
structure bD where
 k:Int
 c:Int
 s:Int
 ef:List UInt8
 p:Int
 e:Int
 t:Int
 q:Int
 cu:Bool
abbrev bD.cs(I:bD):List Value:=[ab I.k,ab I.c,ab I.s,.string (cQ I.ef),ab I.p,ab I.e,ab I.t,ab I.q,.bool I.cu]
abbrev bB(b:Nat)(I:bD):List Chunk:=J b I.cs.toArray 92
def c7:bD:=⟨0,0,0,[],0,0,0,0,false⟩
def bD.named(I:bD):bD:=
 if I.k=1 then⟨I.k,I.c,I.s,I.ef,0,0,0,0,false⟩
 else if I.k=2 then⟨I.k,I.c,I.s,[],I.p,I.e,I.t,I.q,false⟩
 else if I.k=3 then⟨I.k,I.c,I.s,[],I.p,I.e,I.t,0,I.cu⟩
 else⟨I.k,I.c,I.s,[],0,0,0,0,false⟩
def bD.ids(I:bD):Bool:=I.p==0&&I.e==0&&I.t==0
def gf(I:bD):Bool:=eD I.c 0 15&&eD I.s 0 1048576&&
 (if I.k=1 then kZ I.ef&&I.ids&&I.q==0&& !I.cu
  else if I.k=4 then decide (I.ef=[])&&I.ids&&I.q==0&& !I.cu
  else if I.k=2 then decide (I.ef=[])&&jO I.p I.e I.t&&eD I.q 0 3&& !I.cu
  else if I.k=3 then decide (I.ef=[])&&jO I.p I.e I.t&&I.q==0
  else false)
def bD.eq(a b:bD):Bool:=(a.k==b.k)&&((a.c==b.c)&&((a.s==b.s)&&(decide (a.ef=b.ef)&&((a.p==b.p)&&((a.e==b.e)&&((a.t==b.t)&&((a.q==b.q)&&((a.cu==b.cu)&&true))))))))
def bD.l9(I:bD):Bool:=if I.k=1 then(!decide (I.ef=[]))&&decide (I.ef.length<=8)&&I.ef.all fZ else decide (I.ef=[])
def lA(I:bD):Bool:=eD I.k 1 4&&(eD I.c 0 15&&(eD I.s 0 1048576&&(I.l9&&(jO I.p I.e I.t&&(eD I.q 0 3&&I.named.eq I)))))
theorem np(n a b:Int):eD n a b=true↔a<=n/\n<=b:=by unfold eD;rw [decide_eq_true_eq]
theorem bD.eq_iff(a b:bD):a.eq b=true↔a=b:=by
 obtain⟨cl,c,a3,a4,a5,d,e,f,a9⟩:=a;obtain⟨aC,aS,g,h,i,j,k,l,m⟩:=b;simp only [bD.eq,qV,d8,ea,gn,bD.mk.injEq]
theorem r8(I:bD):lA I=gf I:=by
 rw [lk];obtain⟨k,c,s,ef,p,e,t,q,cu⟩:=I;by_cases f:k=1
 .subst f;simp only [lA,gf,bD.l9,bD.named,bD.ids,bD.eq_iff,kZ,jO,np,ib,d8,jY,gn,qT,ea,bD.mk.injEq];have aT:ef.length=0↔ef=[]:=nX;constructor
  .rintro⟨_,a,aF,⟨⟨f,g⟩,i⟩,_,_,_,_,_,_,b,he,l,d,j⟩;refine⟨⟨a,aF⟩,⟨⟨⟨i,?_,g⟩,⟨b.symm,he.symm⟩,l.symm⟩,d.symm⟩,j.symm⟩;have:=mt aT.1 f;omega
  .rintro⟨⟨a,aF⟩,⟨⟨⟨i,f,g⟩,⟨rfl,rfl⟩,rfl⟩,rfl⟩,rfl⟩;refine⟨⟨by omega,by omega⟩,a,aF,⟨⟨λh=>?_,g⟩,i⟩,⟨⟨by omega,by omega⟩,by omega⟩,by omega,?_⟩
   .rw [h] at f;exact absurd f (by decide)
   .simp
 .by_cases g:k=2
  .subst g;simp only [lA,gf,bD.l9,bD.named,bD.ids,bD.eq_iff,jO,np,ib,km,d8,jY,gn,ea,bD.mk.injEq,show¬(2:Int)=1 by decide,show¬(2:Int)=4 by decide];constructor
   .rintro⟨_,a,aF,aT,b,d,_,_,_,_,_,_,_,_,j⟩;exact⟨⟨a,aF⟩,⟨⟨aT,b⟩,d⟩,j.symm⟩
   .rintro⟨⟨a,aF⟩,⟨⟨aT,b⟩,d⟩,rfl⟩;refine⟨⟨by omega,by omega⟩,a,aF,aT,b,d,?_⟩;simp [aT]
  .by_cases i:k=3
   .subst i;simp only [lA,gf,bD.l9,bD.named,bD.ids,bD.eq_iff,jO,np,ib,km,d8,jY,gn,ea,bD.mk.injEq,show¬(3:Int)=1 by decide,show¬(3:Int)=4 by decide,show¬(3:Int)=2 by decide];constructor
    .rintro⟨_,a,aF,aT,b,d,_,_,_,_,_,_,_,o,_⟩;exact⟨⟨a,aF⟩,⟨aT,b⟩,o.symm⟩
    .rintro⟨⟨a,aF⟩,⟨aT,b⟩,rfl⟩;refine⟨⟨by omega,by omega⟩,a,aF,aT,b,⟨by omega,by omega⟩,?_⟩;simp [aT]
   .by_cases m:k=4
    .subst m;simp only [lA,gf,bD.l9,bD.named,bD.ids,bD.eq_iff,jO,np,ib,km,d8,jY,gn,ea,bD.mk.injEq,show¬(4:Int)=1 by decide,show¬(4:Int)=3 by decide,show¬(4:Int)=2 by decide];constructor
     .rintro⟨_,a,aF,aT,_,_,_,_,_,_,b,he,l,d,j⟩;exact⟨⟨a,aF⟩,⟨⟨aT,⟨b.symm,he.symm⟩,l.symm⟩,d.symm⟩,j.symm⟩
     .rintro⟨⟨a,aF⟩,⟨⟨aT,⟨rfl,rfl⟩,rfl⟩,rfl⟩,rfl⟩;refine⟨⟨by omega,by omega⟩,a,aF,aT,⟨⟨by omega,by omega⟩,by omega⟩,⟨by omega,by omega⟩,?_⟩;simp [aT]
    .have n:¬(1<=k/\k<=4):=by omega
     simp only [lA,gf,az f,az g,az i,az m,np,d8,nc,n,false_and,Bool.false_eq_true]
theorem vt(s:List UInt8):(cQ s==⟨#[]⟩)=decide (s=[]):=mY s []
theorem bD.gL(I:bD):I.cs.toArray[0]? =some (.int .i64 I.k):=rfl
theorem bD.aH(I:bD):I.cs.toArray[1]? =some (.int .i64 I.c):=rfl
theorem bD.dy(I:bD):I.cs.toArray[2]? =some (.int .i64 I.s):=rfl
theorem bD.gt(I:bD):I.cs.toArray[3]? =some (.string (cQ I.ef)):=rfl
theorem bD.fA(I:bD):I.cs.toArray[4]? =some (.int .i64 I.p):=rfl
theorem bD.fY(I:bD):I.cs.toArray[5]? =some (.int .i64 I.e):=rfl
theorem bD.eZ(I:bD):I.cs.toArray[6]? =some (.int .i64 I.t):=rfl
theorem bD.du(I:bD):I.cs.toArray[7]? =some (.int .i64 I.q):=rfl
theorem bD.eQ(I:bD):I.cs.toArray[8]? =some (.bool I.cu):=rfl
theorem Da(a b:bD)(w:World):(Op.equalIn 10000 92 (.agg a.cs.toArray) (.agg b.cs.toArray)).run prog w= .ok (a.eq b) w:=by
 have hu:prog.underlying 3=some (.int .i64):=(inferInstance:bC prog 3 (.int .i64)).h;have aF:prog.underlying 9=some .string:=(inferInstance:bC prog 9 .string).h;have c:prog.underlying 4=some .bool:=(inferInstance:bC prog 4 .bool).h;rw [run_equalIn_agg w 9999 92 _ _ (by kernel_rfl) (by kernel_rfl)];exact j5 (by decide) hu j j (j5 (by decide) hu j j (j5 (by decide) hu j j (C7 (by decide) aF j j (j5 (by decide) hu j j (j5 (by decide) hu j j (j5 (by decide) hu j j (j5 (by decide) hu j j (C6 (by decide) c j j uc))))))))
theorem E1{o:World}{I:bD}:Calls prog 126 #[.agg I.cs.toArray] o λr w=>r= .agg I.named.cs.toArray/\C o [] [] w:=by
 have a:Own [] o:=C.start o;refine fj func126 (bJ 2 a j j (λaC w a=>cx 0 a j (λaS w a=>?_)));have a:=a.f1;refine ar 3 j (a.cell I.gL) (ar 1 j (a.cell I.aH) (ar 1 j (a.cell I.dy) (cP (c:=(bD.mk I.k I.c I.s [] 0 0 0 0 false).cs.toArray) j j j (λ_=>by kernel_rfl) (cx 0 a j (λi w a=>cv 0 a j j j j j (λw a=>?_))))));have a:=C.whole (U:=(bD.mk I.k I.c I.s [] 0 0 0 0 false).cs) a j;refine lv 0 j (λZ w=>sub Z [(1,aa aC),(2,aa aS),(3,aa i)]/\C o [] [bB i I.named,bB aC I,bB aS c7] w) ?_ ?_
 .refine ar 3 j (a.f1.cell I.gL) (bo 5 j j (λd=>?_) (λd=>?_))
  .refine ar 2 j (a.f1.cell I.gt) (dE 1 a j j j j (λw a=>bW 0 j (⟨⟨j,j,j,bb⟩,?_⟩)));unfold bD.named
   first
    |(have h:=ea.1 d;rw [aR h];exact a)
    |(have b:=fp.1 d;have h:=ea.1 f;rw [az b,aR h];exact a)
    |(have b:=fp.1 d;have e:=fp.1 f;have h:=ea.1 g;rw [az b,az e,aR h];exact a)
    |(have b:=fp.1 d;have e:=fp.1 f;have h:=fp.1 g;rw [az b,az e,az h];exact a)
  refine bo 4 j j (λf=>?_) (λf=>?_)
  .have a:=a.drew;refine bx 0 j (λw=>∃x,C o [] [J i x 92,bB aC I,bB aS c7] w) ⟨_,a⟩ (ag 0 1 j (b4 1 j (λw⟨_,a⟩=>C.cell (C.f1 a) I.fA) (ag 2 1 j (b4 3 j (λw⟨_,a⟩=>C.cell (C.f1 a) I.fY) (ag 4 1 j (b4 5 j (λw⟨_,a⟩=>C.cell (C.f1 a) I.eZ) (ag 6 1 j (b4 7 j (λw⟨_,a⟩=>C.cell (C.f1 a) I.du) (ag 8 1 j (aX 9 j (cO a j j j j bO (λw a=>ao ⟨⟨_,a⟩,?_⟩))))))))))));refine ag 10 1 j (aX 11 j (cO a j j j j bO (λw a=>ao ⟨⟨_,a⟩,?_⟩)));refine ag 12 1 j (aX 13 j (cO a j j j j bO (λw a=>ao ⟨⟨_,a⟩,?_⟩)));refine ag 14 1 j (aX 15 j (cO a j j j j bO (λw a=>ao ⟨⟨_,a⟩,?_⟩)));refine bL (bW 0 j (⟨⟨j,j,j,bb⟩,?_⟩));unfold bD.named
   first
    |(have h:=ea.1 d;rw [aR h];exact a)
    |(have b:=fp.1 d;have h:=ea.1 f;rw [az b,aR h];exact a)
    |(have b:=fp.1 d;have e:=fp.1 f;have h:=ea.1 g;rw [az b,az e,aR h];exact a)
    |(have b:=fp.1 d;have e:=fp.1 f;have h:=fp.1 g;rw [az b,az e,az h];exact a)
  refine bo 4 j j (λg=>?_) (λg=>?_);have a:=a.drew;refine bx 0 j (λw=>∃x,C o [] [J i x 92,bB aC I,bB aS c7] w) ⟨_,a⟩ (ag 0 1 j (b4 1 j (λw⟨_,a⟩=>C.cell (C.f1 a) I.fA) (ag 2 1 j (b4 3 j (λw⟨_,a⟩=>C.cell (C.f1 a) I.fY) (ag 4 1 j (b4 5 j (λw⟨_,a⟩=>C.cell (C.f1 a) I.eZ) (ag 6 1 j (b4 7 j (λw⟨_,a⟩=>C.cell (C.f1 a) I.eQ) (ag 8 1 j (aX 9 j (cO a j j j j bO (λw a=>ao ⟨⟨_,a⟩,?_⟩))))))))))));refine ag 10 1 j (aX 11 j (cO a j j j j bO (λw a=>ao ⟨⟨_,a⟩,?_⟩)));refine ag 12 1 j (aX 13 j (cO a j j j j bO (λw a=>ao ⟨⟨_,a⟩,?_⟩)));refine ag 14 1 j (aX 15 j (cO a j j j j bO (λw a=>ao ⟨⟨_,a⟩,?_⟩)));refine bL (bW 0 j ?_);rotate_left
  refine bW 1 j ?_;rotate_left
  all_goals
   refine⟨⟨j,j,j,bb⟩,?_⟩;unfold bD.named
   first
    |(have h:=ea.1 d;rw [aR h];exact a)
    |(have b:=fp.1 d;have h:=ea.1 f;rw [az b,aR h];exact a)
    |(have b:=fp.1 d;have e:=fp.1 f;have h:=ea.1 g;rw [az b,az e,aR h];exact a)
    |(have b:=fp.1 d;have e:=fp.1 f;have h:=fp.1 g;rw [az b,az e,az h];exact a)
 rintro Z w ⟨aF,a⟩;refine lf [(1,aa aC),(2,aa aS),(3,aa i)] aF (bP 2 (U:=I.named.cs) j j j a.bQ (cv 0 a.f2 j j j j j (λw a=>?_)));have a:=C.whole (U:=I.named.cs) a j;refine bH 0 j ⟨_,hW results126 j j j (a.bQ),?_⟩;exact⟨j,a.bare⟩
theorem xS{o:World}{I:bD}:Calls prog 68 #[.agg I.cs.toArray] o λr w=>r= .bool (gf I)/\C o [] [] w:=by
 have d:Own [] o:=C.start o;refine a6 func68 (bJ 2 d j j (λaC w d=>ar 4 j (d.cell I.gt) (nH j j j j (bY 6 (.bool (decide (I.ef=[]))) j (aK Value.bool (vt I.ef)) (lv 1 j (λZ w=>sub Z [(1,aa aC),(3,.bool I.l9)]/\C o [] [bB aC I] w) ?_ ?_)))))
 .refine ar 3 j (d.cell I.gL) (bo 1 j j (λz=>?_) (λz=>?_));refine ar 2 j (d.cell I.gt) (vX j j j j (vt I.ef) (aq 1 j (c9 13 j (λg=>?_) (λg=>?_))))
  .refine ar 1 j (d.cell I.gt) (mv j j j j (aq 3 j (c9 19 j (λi=>?_) (λi=>?_))));refine ar 1 j (d.cell I.gt) ?_;have A:I.ef≠[]:=by simpa using g
   have hle:I.ef.length<=8:=by have:=dV i;omega
   have f:=zX (o:=w) A (by omega);refine br 0 f j (λw ad=>?_);have d:=d.aO ad;refine nH j j j j (bY 23 (.bool (I.ef.all fZ)) j (aK Value.bool ((vt _).trans (sD I.ef))) (bW 2 j ?_));rotate_left
   refine bW 6 j ?_;rotate_left
   all_goals
    refine⟨⟨j,aK (λb=>some (Value.bool b)) ?_,bb⟩,d⟩;unfold bD.l9
    simp_all
    all_goals (intro h;omega)
  refine aq 6 j (bY 19 (.bool false) j (aK Value.bool (j)) ?_);refine bW 6 j ?_;rotate_left
  refine bW 1 j ?_;rotate_left
  all_goals
   refine⟨⟨j,aK (λb=>some (Value.bool b)) ?_,bb⟩,d⟩;unfold bD.l9
   simp_all
   all_goals (intro h;omega)
 rintro Z w ⟨aF,d⟩;refine lf [(1,aa aC),(3,.bool I.l9)] aF ?_;have d:=d.drew;refine bx 1 j (λw=>∃ae,C o [] ([bB aC I]++ae) w) ⟨_,d⟩ (ag 0 1 j (b4 1 j (λw⟨_,d⟩=>C.cell d I.gL) (aX 2 j ?_)));have f:=iJ (o:=w.drew) (n:=I.k) (a:=1) (b:=4);refine bK j j j f (λw ad=>?_);have d:=d.aO ad;refine ao ⟨⟨_,d⟩,?_⟩;refine ag 3 1 j (ek 28 j (λl=>?_) (λl=>?_))
 .refine ag 4 1 j (b4 5 j (λw⟨_,d⟩=>C.cell d I.aH) (aX 6 j ?_));have f:=iJ (o:=w) (n:=I.c) (a:=0) (b:=15);refine bK j j j f (λw ad=>?_);have d:=d.aO ad;refine ao ⟨⟨_,d⟩,?_⟩;refine ag 7 2 j (ek 33 j (λm=>?_) (λm=>?_));refine ag 9 1 j (b4 10 j (λw⟨_,d⟩=>C.cell d I.dy) (aX 11 j ?_));have f:=iJ (o:=w) (n:=I.s) (a:=0) (b:=1048576);refine bK j j j f (λw ad=>?_);have d:=d.aO ad;refine ao ⟨⟨_,d⟩,?_⟩;refine ag 12 2 j (ek 38 j (λu=>?_) (λu=>?_))
  .refine ag 14 3 j (ek 41 j (λv=>?_) (λv=>?_));refine ag 17 1 j (b4 18 j (λw⟨_,d⟩=>C.cell d I.fA) (ag 19 1 j (b4 20 j (λw⟨_,d⟩=>C.cell d I.fY) (ag 21 1 j (b4 22 j (λw⟨_,d⟩=>C.cell d I.eZ) (aX 23 j ?_))))));have f:=xT (o:=w) (p:=I.p) (e:=I.e) (t:=I.t);refine bK j j j f (λw ad=>?_);have d:=d.aO ad;refine ao ⟨⟨_,d⟩,?_⟩;refine ag 24 2 j (ek 50 j (λx=>?_) (λx=>?_))
   .refine ag 26 1 j (b4 27 j (λw⟨_,d⟩=>C.cell d I.du) (aX 28 j ?_));have f:=iJ (o:=w) (n:=I.q) (a:=0) (b:=3);refine bK j j j f (λw ad=>?_);have d:=d.aO ad;refine ao ⟨⟨_,d⟩,?_⟩;refine ag 29 2 j (ek 55 j (λy=>?_) (λy=>?_));refine bl 31 j (λw⟨_,d⟩=>dd (U:=I.cs) j j j (C.bQ d)) (bl 33 j (λw⟨_,d⟩=>dd (U:=I.cs) j j j (C.bQ d)) (aX 32 j ?_));have f:=E1 (o:=w) (I:=I);refine bK j j j f (λw ad=>?_);have d:=d.aO ad;refine ao ⟨⟨_,d⟩,?_⟩;refine bl 34 j (λw⟨_,d⟩=>qC j j (by kernel_rfl) (λw=>Da _ _ w)) (ag 35 2 j ?_);rotate_left
    refine ga 6 [31,33,32,34,35,36] j ?_;rotate_left
    all_goals
     refine bL (an 0 j j (⟨aK Value.bool ?_,d.bare⟩));rw [<-r8];unfold lA
     simp_all
   refine ga 11 [26,27,28,29,30,31,33,32,34,35,36] j ?_;rotate_left
   refine ga 20 [17,18,19,20,21,22,23,24,25,26,27,28,29,30,31,33,32,34,35,36] j ?_;rotate_left
   all_goals
    refine bL (an 0 j j (⟨aK Value.bool ?_,d.bare⟩));rw [<-r8];unfold lA
    simp_all
  refine ga 23 [14,15,16,17,18,19,20,21,22,23,24,25,26,27,28,29,30,31,33,32,34,35,36] j ?_;rotate_left
  refine ga 28 [9,10,11,12,13,14,15,16,17,18,19,20,21,22,23,24,25,26,27,28,29,30,31,33,32,34,35,36] j ?_;rotate_left
  all_goals
   refine bL (an 0 j j (⟨aK Value.bool ?_,d.bare⟩));rw [<-r8];unfold lA
   simp_all
 refine ga 33 [4,5,6,7,8,9,10,11,12,13,14,15,16,17,18,19,20,21,22,23,24,25,26,27,28,29,30,31,33,32,34,35,36] j (bL (an 0 j j (⟨aK Value.bool ?_,d.bare⟩)));rw [<-r8];unfold lA
 simp_all
def lX(b:Bool):Int:=if b then 1 else 0
def h6(I:bD):List UInt8:=ep [2,I.k,I.c,I.s]++hd I.ef++ep [I.p,I.e,I.t,I.q,lX I.cu]
theorem Fx{I:bD}(h:gf I=true):I.ef.length<=8:=by
 unfold gf at h;simp only [d8] at h;obtain⟨_,h⟩:=h;split at h
 .simp only [d8,kZ,gn] at h;omega
 .split at h
  .simp only [d8,gn] at h;rw [h.1.1.1];decide
  .split at h
   .simp only [d8,gn] at h;rw [h.1.1.1];decide
   .split at h
    .simp only [d8,gn] at h;rw [h.1.1];decide
    .cases h
theorem Fu{I:bD}(h:I.ef.length<=100):(h6 I).length<=200:=by
 have a:=gb [2,I.k,I.c,I.s];have b:=gb [I.p,I.e,I.t,I.q,lX I.cu];have d:=jn I.ef (by omega);simp only [ex,fW] at a b;unfold h6;simp only [cj];omega
theorem t7{o:World}{I:bD}:Calls prog 38 #[.agg I.cs.toArray] o λr w=>∃v G,r= .tuple #[v,.int .i64 (if gf I then 0 else 1)]/\d6 v (if gf I then h6 I else []) G/\C o [] [G] w:=by
 have a:Own [] o:=C.start o;refine a6 func38 ?_;refine bJ 2 a j j (λaC w a=>?_);refine bP 5 (U:=I.cs) j j j a.bQ ?_;have d:=xS (o:=w) (I:=I);refine br 0 d j (λw ad=>?_);have a:=a.aO ad;refine bo 1 j j (λeQ=>?_) (λeQ=>?_)
 .refine an 4 j j ?_;have hm:gf I=false:=by simpa using eQ
  rw [hm];exact⟨_,[],j,Row.nil _ _,a.bare.empty⟩
 have hm:gf I=true:=by simpa using eQ
 have M:=Fx hm;have D:=gb [2,I.k,I.c,I.s];have E:=gb [I.p,I.e,I.t,I.q,lX I.cu];have L:=jn I.ef (by omega);simp only [ex,fW] at D E;refine lv 4 j (λZ w=>sub Z [(1,aa aC),(4,.int .i64 (lX I.cu))]/\C o [] [bB aC I] w) ?_ ?_
 .refine ar 3 j (a.cell I.eQ) ?_;refine bo 0 j j (λl=>?_) (λl=>?_);refine bW 2 j ?_;rotate_left
  refine bW 1 j ?_;rotate_left
  all_goals
   refine⟨⟨j,aK (λb=>some (Value.int .i64 b)) ?_,bb⟩,a⟩;unfold lX
   first
    |rw [aR l]
    |rw [az (by rw [l];decide)]
 rintro Z w ⟨aF,a⟩;refine lf [(1,aa aC),(4,.int .i64 (lX I.cu))] aF ?_;refine cx 2 a j (λi w a=>?_);have a:C o [] [eW i (.slice none 0 0),bB aC I] w:=a;have a:=a.f1;refine ar 3 j (a.cell I.gL) ?_;refine ar 1 j (a.cell I.aH) ?_;refine ar 1 j (a.cell I.dy) ?_;refine fx a j j j j j j bO (λH w a=>?_);have aT:=a.bQ;have g:=a.iE (off:=0) (sp:=none) (U:=[2,I.k,I.c,I.s].map ab);have a:=a.f2.empty.f1;have d:=k0 (aG:=[]) (eR:=[2,I.k,I.c,I.s]) (c:=4) a.cH (Row.nil _ _) aT (g.kC (by simp) (λb z=>fE (fs:=[eW i (.slice none 0 0)]) (by simp) b (by simpa [au] using z))) (by simp);refine br 0 d j (λw⟨v1,h,f,ad⟩=>?_);have a:=(a.cG ad).f2.drop;rw [kl] at f;refine ar 3 j (a.f2.cell I.gt) ?_;refine AP a j j j (λm K u w B a=>?_);refine fx a j j j j j j bO (λn w a=>?_);have F:=a.f1.i9 B;have y:=a.f1.iE (off:=0) (sp:=none) (U:=aP I.ef);have aT:=a.bQ;have g:=a.iE (off:=0) (sp:=none) (U:=[.slice (some ⟨m,0,none⟩) I.ef.length u]);have a:=a.f2.f3.f1;have A:kG w (some ⟨n,0,none⟩) [I.ef] (au [eW i v1,h]):=kG.one aT j (g.sub (fE (by simp))) F (y.sub (fE (by simp)));have d:=tP (c:=1) a.cH f A (by simp only [iR,jh,o5,List.sum_cons,List.sum_nil];omega);refine br 0 d j (λw⟨v1,h,f,ad⟩=>?_);have a:=(a.cG ad).f2.drop.f2.drop;rw [show jo [I.ef]=hd I.ef from by simp [jo]] at f;have a:=a.f2;refine ar 3 j (a.cell I.fA) ?_;refine ar 1 j (a.cell I.fY) ?_;refine ar 1 j (a.cell I.eZ) ?_;refine ar 1 j (a.cell I.du) ?_;have a:=a.f2.f2;refine aq 1 j (fx a j j j j j j bO (λJ w a=>?_));have aT:=a.bQ;have g:=a.iE (off:=0) (sp:=none) (U:=[I.p,I.e,I.t,I.q,lX I.cu].map ab);have a:=a.f1.f2.f1;have d:=k0 (aG:=ep [2,I.k,I.c,I.s]++hd I.ef) (eR:=[I.p,I.e,I.t,I.q,lX I.cu]) (c:=5) a.cH f aT (g.kC (by simp) (fE (by simp))) (by simp only [cj,List.length_cons,List.length_nil];omega);refine br 0 d j (λw⟨v1,h,f,ad⟩=>?_);have a:=(a.cG ad).f2.drop;have d:=p4 a.cH f (by simp only [cj];omega);refine bk 2 d j (λr w⟨G,x,ad⟩=>?_);have a:=(a.cG ad).hS;refine an 2 j j ?_;rw [hm];exact⟨_,G,j,x,a⟩
theorem zj(s:ed)(a:s.left.length<=1000000000):(eb s).2.left.length<=1000000000:=by
 have key:∀(l:List UInt8)(i u:Nat)(x:Nat×List UInt8),lr i u l=some x->x.2.length<=l.length:=by
  intro l;induction l with
  |nil=>intro i u x h;simp [lr] at h
  |cons c r d=>
   intro i u x h;rw [ls] at h;split at h
   .cases h
   .split at h
    .split at h
     .cases h
     .cases h;simp
    .have:=d _ _ _ h;simp only [ex];omega
 cases s with
 |none=>exact a
 |some l=>
  unfold eb;dsimp only;cases b:dec l with
  |none=>simp [ed.left]
  |some x=>
   obtain⟨u,r⟩:=x;have:=key l 0 0 (u,r) b;dsimp only at this;simp only [ed.left,lO] at a⊢;omega
theorem p9{o:World}{r:Nat}{v0:Value}{dw:Bool}{G:List Chunk}{s:ed}(a:Own [g0 r v0 dw,G] o)(f:hA v0 dw s G)(d:s.left.length<=1000000000):
 Calls prog 189 #[aa r] o λx w=>∃v b c,d6 x (k3 s).1 c/\hA v b (k3 s).2 G/\C o (au [g0 r v0 dw,G]) [c,g0 r v b,G] w:=by
 refine a6 func189 (br 7 (eI a.cH f d) j (λw⟨v,b,g,ad⟩=>?_));have a:=a.cG ad;refine bk 0 (Gc a.cH g (zj s d)) j (λx w⟨v2,aS,c,e,h,ad⟩=>?_);have a:=a.cG ad;exact an 1 j j ⟨v2,aS,c,e,h,a⟩
theorem Gb(s:ed)(n:Int)(a:s.left.length<=1000000000):(ix s n).2.left.length<=1000000000/\(ix s n).1.length<=1000000000:=by
 cases s with
 |none=>exact⟨by simp [ix,ed.left],by simp [ix]⟩
 |some l=>
  have a:l.length<=1000000000:=a;unfold ix;dsimp only;split
  .exact⟨by simp [ed.left],by simp⟩
  .refine⟨?_,?_⟩
   .simp only [ed.left,lO,iC];omega
   .simp only [hC];omega
theorem FZ(s:ed)(a:s.left.length<=1000000000):(k3 s).2.left.length<=1000000000/\(k3 s).1.length<=1000000000:=Gb _ _ (zj s a)
theorem er{o w:World}{F:List Nat}{ae:List (List Chunk)}{A:Option Addr}{n c:Nat}{aG:List UInt8}{G:List Chunk}(a:d6 (.slice A n c) aG G)(h:C o F (G::ae) w):Rd w A (aP aG):=by
 obtain⟨_,_,b,_,_,aT,_⟩:=a.rd h;cases b;exact aT
def fB(s:ed):ed:=(k3 (e2 s 3)).2
def hU(s:ed):bD:=⟨((eb s).1:Nat),((eb (e2 s 1)).1:Nat),((eb (e2 s 2)).1:Nat),(k3 (e2 s 3)).1,((eb (fB s)).1:Nat),((eb (e2 (fB s) 1)).1:Nat),((eb (e2 (fB s) 2)).1:Nat),((eb (e2 (fB s) 3)).1:Nat),false⟩
def mc(s:ed):Nat:=(eb (e2 (fB s) 4)).1
def md(s:ed):bD:={hU s with cu:=((mc s:Nat):Int)==1}
def yA(s:ed):ed:=e2 (fB s) 5
def jr(s:ed):Bool:=decide (yA s=some [])&&(decide (mc s<=1)&&gf (md s))
theorem BX(aG:List UInt8)(k:Int)(a:aG.length<=1000000000):(b0 aG k).left.length<=1000000000:=by
 unfold b0;split
 .exact vp (some aG) a
 .simp [ed.left]
theorem FA(s:ed)(a:s.left.length<=1000000000):(fB s).left.length<=1000000000:=(FZ _ (eT s a 3)).1
theorem CI{o:World}{A:Option Addr}{aG:List UInt8}{c:Nat}(u:Rd o A (aP aG))(t:aG.length<=1000000000):
 Calls prog 136 #[.slice A aG.length c] o λx w=>x= .tuple #[.agg (if jr (b0 aG 2) then md (b0 aG 2) else c7).cs.toArray,.int .i64 (if jr (b0 aG 2) then 0 else 2)]/\C o [] [] w:=by
 have a:Own [] o:=C.start o;have l:=BX aG 2 t;have i:=FA (b0 aG 2) l;refine fj func136 ?_;refine cx 2 a j (λaS w a=>?_);have f:=wH (c:=c) (k:=2) (a.rd u (cc.of_nil _ _)) t;refine bk 4 f j (λx w⟨r,v,b,G,y,e,ad⟩=>?_);subst y;have a:=a.aO ad;refine lv 1 j (λZ w=>∃v b m,sub Z [(2,aa aS),(3,.int .i64 0),(4,aa r),(5,aa m)]/\hA v b (e2 (fB (b0 aG 2)) 4) G/\C o [] [g0 r v b,G,bB m (hU (b0 aG 2)),bB aS c7] w) ?_ ?_
 .skip
  refine l2 0 j (λw=>∃ae,C o [] ae w) ?_;have a:=a.drew;refine fM 8 [0,2,4,6,9,11,13,15] j ⟨_,a⟩ ?_;refine lc 1 18 j j (by kernel_rfl) ?_ ?_
  .skip
   have f:=eI a.cH e (l);refine bK j j j f (λw⟨v,b,e,ad⟩=>?_);have a:=a.cG ad;refine ao ⟨⟨_,a⟩,?_⟩;refine lc 3 18 j j (by kernel_rfl) ?_ ?_
   .skip
    have f:=eI a.cH e (eT (b0 aG 2) l 1);refine bK j j j f (λw⟨v,b,e,ad⟩=>?_);have a:=a.cG ad;refine ao ⟨⟨_,a⟩,?_⟩;refine lc 5 18 j j (by kernel_rfl) ?_ ?_
    .skip
     have f:=eI a.cH e (eT (b0 aG 2) l 2);refine bK j j j f (λw⟨v,b,e,ad⟩=>?_);have a:=a.cG ad;refine ao ⟨⟨_,a⟩,?_⟩;refine lc 7 18 j j (by kernel_rfl) ?_ ?_
     .skip
      have f:=p9 a.cH e (eT (b0 aG 2) l 3);refine cS j j j f (λx w⟨v,b,bT,g,e,ad⟩=>?_);have a:=(a.cG ad).f1.f2.f1;obtain⟨n,du,rfl,_⟩:=g.form;have d:=er g a.f2;refine ao ⟨⟨_,a⟩,?_⟩;refine oP (λw=>(λw=>∃ae,C o [] ae w) w/\Rd w n (aP (k3 (e2 (b0 aG 2) 3)).1)) (λw h=>h.1) ?_;refine eL 8 j ⟨⟨_,a⟩,d⟩ (λw hw=>nG j hw.2) ?_;refine lc 10 18 j j (by kernel_rfl) ?_ ?_
      .skip
       have f:=eI a.cH e (i);refine bK j j j f (λw⟨v,b,e,ad⟩=>?_);have a:=a.cG ad;have d:=er g a.f2;refine ao ⟨⟨⟨_,a⟩,d⟩,?_⟩;refine lc 12 18 j j (by kernel_rfl) ?_ ?_
       .skip
        have f:=eI a.cH e (eT (fB (b0 aG 2)) i 1);refine bK j j j f (λw⟨v,b,e,ad⟩=>?_);have a:=a.cG ad;have d:=er g a.f2;refine ao ⟨⟨⟨_,a⟩,d⟩,?_⟩;refine lc 14 18 j j (by kernel_rfl) ?_ ?_
        .skip
         have f:=eI a.cH e (eT (fB (b0 aG 2)) i 2);refine bK j j j f (λw⟨v,b,e,ad⟩=>?_);have a:=a.cG ad;have d:=er g a.f2;refine ao ⟨⟨⟨_,a⟩,d⟩,?_⟩;refine lc 16 18 j j (by kernel_rfl) ?_ ?_
         .skip
          have f:=eI a.cH e (eT (fB (b0 aG 2)) i 3);refine bK j j j f (λw⟨v,b,e,ad⟩=>?_);have a:=a.cG ad;have d:=er g a.f2;refine ao ⟨⟨⟨_,a⟩,d⟩,?_⟩;refine eL 17 j ⟨⟨_,a⟩,d⟩ (λw _=>eX (c:=(hU (b0 aG 2)).cs.toArray) j (λ_=>by kernel_rfl)) ?_;refine d5 18 j ?_;refine eu a j j (λm w a=>?_);have a:=a.f3.f3.f3;have d:=er g a.f2;refine ao ⟨⟨⟨_,a⟩,d⟩,?_⟩;refine d5 19 j ?_;refine c6 a.f3 j j j j j bO (λw a=>?_);have a:=(C.whole (U:=(hU (b0 aG 2)).cs) a j).f3.f3.f3;have d:=er g a.f2;refine ao ⟨⟨⟨_,a⟩,d⟩,?_⟩;refine c5 ?_;refine bW 0 j ?_;exact⟨_,_,_,⟨j,j,j,j,bb⟩,e,a.f2.drop⟩
         .skip
          refine eu a j j (λm w a=>?_);have a:=a.f3.f3.f3;have d:=er g a.f2;refine ao ⟨⟨⟨_,a⟩,d⟩,?_⟩;refine d5 16 j ?_;have f:=eI a.cH e (eT (fB (b0 aG 2)) i 3);refine bK j j j f (λw⟨v,b,e,ad⟩=>?_);have a:=a.cG ad;have d:=er g a.f2;refine ao ⟨⟨⟨_,a⟩,d⟩,?_⟩;refine eL 17 j ⟨⟨_,a⟩,d⟩ (λw _=>eX (c:=(hU (b0 aG 2)).cs.toArray) j (λ_=>by kernel_rfl)) ?_;refine d5 19 j ?_;refine c6 a.f3 j j j j j bO (λw a=>?_);have a:=(C.whole (U:=(hU (b0 aG 2)).cs) a j).f3.f3.f3;have d:=er g a.f2;refine ao ⟨⟨⟨_,a⟩,d⟩,?_⟩;refine c5 ?_;refine bW 0 j ?_;exact⟨_,_,_,⟨j,j,j,j,bb⟩,e,a.f2.drop⟩
        .skip
         refine eu a j j (λm w a=>?_);have a:=a.f3.f3.f3;have d:=er g a.f2;refine ao ⟨⟨⟨_,a⟩,d⟩,?_⟩;refine d5 14 j ?_;have f:=eI a.cH e (eT (fB (b0 aG 2)) i 2);refine bK j j j f (λw⟨v,b,e,ad⟩=>?_);have a:=a.cG ad;have d:=er g a.f2;refine ao ⟨⟨⟨_,a⟩,d⟩,?_⟩;refine d5 16 j ?_;have f:=eI a.cH e (eT (fB (b0 aG 2)) i 3);refine bK j j j f (λw⟨v,b,e,ad⟩=>?_);have a:=a.cG ad;have d:=er g a.f2;refine ao ⟨⟨⟨_,a⟩,d⟩,?_⟩;refine eL 17 j ⟨⟨_,a⟩,d⟩ (λw _=>eX (c:=(hU (b0 aG 2)).cs.toArray) j (λ_=>by kernel_rfl)) ?_;refine d5 19 j ?_;refine c6 a.f3 j j j j j bO (λw a=>?_);have a:=(C.whole (U:=(hU (b0 aG 2)).cs) a j).f3.f3.f3;have d:=er g a.f2;refine ao ⟨⟨⟨_,a⟩,d⟩,?_⟩;refine c5 ?_;refine bW 0 j ?_;exact⟨_,_,_,⟨j,j,j,j,bb⟩,e,a.f2.drop⟩
       .skip
        refine eu a j j (λm w a=>?_);have a:=a.f3.f3.f3;have d:=er g a.f2;refine ao ⟨⟨⟨_,a⟩,d⟩,?_⟩;refine d5 12 j ?_;have f:=eI a.cH e (eT (fB (b0 aG 2)) i 1);refine bK j j j f (λw⟨v,b,e,ad⟩=>?_);have a:=a.cG ad;have d:=er g a.f2;refine ao ⟨⟨⟨_,a⟩,d⟩,?_⟩;refine d5 14 j ?_;have f:=eI a.cH e (eT (fB (b0 aG 2)) i 2);refine bK j j j f (λw⟨v,b,e,ad⟩=>?_);have a:=a.cG ad;have d:=er g a.f2;refine ao ⟨⟨⟨_,a⟩,d⟩,?_⟩;refine d5 16 j ?_;have f:=eI a.cH e (eT (fB (b0 aG 2)) i 3);refine bK j j j f (λw⟨v,b,e,ad⟩=>?_);have a:=a.cG ad;have d:=er g a.f2;refine ao ⟨⟨⟨_,a⟩,d⟩,?_⟩;refine eL 17 j ⟨⟨_,a⟩,d⟩ (λw _=>eX (c:=(hU (b0 aG 2)).cs.toArray) j (λ_=>by kernel_rfl)) ?_;refine d5 19 j ?_;refine c6 a.f3 j j j j j bO (λw a=>?_);have a:=(C.whole (U:=(hU (b0 aG 2)).cs) a j).f3.f3.f3;have d:=er g a.f2;refine ao ⟨⟨⟨_,a⟩,d⟩,?_⟩;refine c5 ?_;refine bW 0 j ?_;exact⟨_,_,_,⟨j,j,j,j,bb⟩,e,a.f2.drop⟩
      .skip
       refine eu a j j (λm w a=>?_);have a:=a.f3.f3.f3;have d:=er g a.f2;refine ao ⟨⟨⟨_,a⟩,d⟩,?_⟩;refine d5 10 j ?_;have f:=eI a.cH e (i);refine bK j j j f (λw⟨v,b,e,ad⟩=>?_);have a:=a.cG ad;have d:=er g a.f2;refine ao ⟨⟨⟨_,a⟩,d⟩,?_⟩;refine d5 12 j ?_;have f:=eI a.cH e (eT (fB (b0 aG 2)) i 1);refine bK j j j f (λw⟨v,b,e,ad⟩=>?_);have a:=a.cG ad;have d:=er g a.f2;refine ao ⟨⟨⟨_,a⟩,d⟩,?_⟩;refine d5 14 j ?_;have f:=eI a.cH e (eT (fB (b0 aG 2)) i 2);refine bK j j j f (λw⟨v,b,e,ad⟩=>?_);have a:=a.cG ad;have d:=er g a.f2;refine ao ⟨⟨⟨_,a⟩,d⟩,?_⟩;refine d5 16 j ?_;have f:=eI a.cH e (eT (fB (b0 aG 2)) i 3);refine bK j j j f (λw⟨v,b,e,ad⟩=>?_);have a:=a.cG ad;have d:=er g a.f2;refine ao ⟨⟨⟨_,a⟩,d⟩,?_⟩;refine eL 17 j ⟨⟨_,a⟩,d⟩ (λw _=>eX (c:=(hU (b0 aG 2)).cs.toArray) j (λ_=>by kernel_rfl)) ?_;refine d5 19 j ?_;refine c6 a.f3 j j j j j bO (λw a=>?_);have a:=(C.whole (U:=(hU (b0 aG 2)).cs) a j).f3.f3.f3;have d:=er g a.f2;refine ao ⟨⟨⟨_,a⟩,d⟩,?_⟩;refine c5 ?_;refine bW 0 j ?_;exact⟨_,_,_,⟨j,j,j,j,bb⟩,e,a.f2.drop⟩
     .skip
      refine eu a j j (λm w a=>?_);have a:=a.f1.f2.f1;refine ao ⟨⟨_,a⟩,?_⟩;refine d5 7 j ?_;have f:=p9 a.cH e (eT (b0 aG 2) l 3);refine cS j j j f (λx w⟨v,b,bT,g,e,ad⟩=>?_);have a:=(a.cG ad).f1.f2.f1;obtain⟨n,du,rfl,_⟩:=g.form;have d:=er g a.f2;refine ao ⟨⟨_,a⟩,?_⟩;refine oP (λw=>(λw=>∃ae,C o [] ae w) w/\Rd w n (aP (k3 (e2 (b0 aG 2) 3)).1)) (λw h=>h.1) ?_;refine eL 8 j ⟨⟨_,a⟩,d⟩ (λw hw=>nG j hw.2) ?_;refine d5 10 j ?_;have f:=eI a.cH e (i);refine bK j j j f (λw⟨v,b,e,ad⟩=>?_);have a:=a.cG ad;have d:=er g a.f2;refine ao ⟨⟨⟨_,a⟩,d⟩,?_⟩;refine d5 12 j ?_;have f:=eI a.cH e (eT (fB (b0 aG 2)) i 1);refine bK j j j f (λw⟨v,b,e,ad⟩=>?_);have a:=a.cG ad;have d:=er g a.f2;refine ao ⟨⟨⟨_,a⟩,d⟩,?_⟩;refine d5 14 j ?_;have f:=eI a.cH e (eT (fB (b0 aG 2)) i 2);refine bK j j j f (λw⟨v,b,e,ad⟩=>?_);have a:=a.cG ad;have d:=er g a.f2;refine ao ⟨⟨⟨_,a⟩,d⟩,?_⟩;refine d5 16 j ?_;have f:=eI a.cH e (eT (fB (b0 aG 2)) i 3);refine bK j j j f (λw⟨v,b,e,ad⟩=>?_);have a:=a.cG ad;have d:=er g a.f2;refine ao ⟨⟨⟨_,a⟩,d⟩,?_⟩;refine eL 17 j ⟨⟨_,a⟩,d⟩ (λw _=>eX (c:=(hU (b0 aG 2)).cs.toArray) j (λ_=>by kernel_rfl)) ?_;refine d5 19 j ?_;refine c6 a.f3 j j j j j bO (λw a=>?_);have a:=(C.whole (U:=(hU (b0 aG 2)).cs) a j).f3.f3.f3;have d:=er g a.f2;refine ao ⟨⟨⟨_,a⟩,d⟩,?_⟩;refine c5 ?_;refine bW 0 j ?_;exact⟨_,_,_,⟨j,j,j,j,bb⟩,e,a.f2.drop⟩
    .skip
     refine eu a j j (λm w a=>?_);have a:=a.f1.f2.f1;refine ao ⟨⟨_,a⟩,?_⟩;refine d5 5 j ?_;have f:=eI a.cH e (eT (b0 aG 2) l 2);refine bK j j j f (λw⟨v,b,e,ad⟩=>?_);have a:=a.cG ad;refine ao ⟨⟨_,a⟩,?_⟩;refine d5 7 j ?_;have f:=p9 a.cH e (eT (b0 aG 2) l 3);refine cS j j j f (λx w⟨v,b,bT,g,e,ad⟩=>?_);have a:=(a.cG ad).f1.f2.f1;obtain⟨n,du,rfl,_⟩:=g.form;have d:=er g a.f2;refine ao ⟨⟨_,a⟩,?_⟩;refine oP (λw=>(λw=>∃ae,C o [] ae w) w/\Rd w n (aP (k3 (e2 (b0 aG 2) 3)).1)) (λw h=>h.1) ?_;refine eL 8 j ⟨⟨_,a⟩,d⟩ (λw hw=>nG j hw.2) ?_;refine d5 10 j ?_;have f:=eI a.cH e (i);refine bK j j j f (λw⟨v,b,e,ad⟩=>?_);have a:=a.cG ad;have d:=er g a.f2;refine ao ⟨⟨⟨_,a⟩,d⟩,?_⟩;refine d5 12 j ?_;have f:=eI a.cH e (eT (fB (b0 aG 2)) i 1);refine bK j j j f (λw⟨v,b,e,ad⟩=>?_);have a:=a.cG ad;have d:=er g a.f2;refine ao ⟨⟨⟨_,a⟩,d⟩,?_⟩;refine d5 14 j ?_;have f:=eI a.cH e (eT (fB (b0 aG 2)) i 2);refine bK j j j f (λw⟨v,b,e,ad⟩=>?_);have a:=a.cG ad;have d:=er g a.f2;refine ao ⟨⟨⟨_,a⟩,d⟩,?_⟩;refine d5 16 j ?_;have f:=eI a.cH e (eT (fB (b0 aG 2)) i 3);refine bK j j j f (λw⟨v,b,e,ad⟩=>?_);have a:=a.cG ad;have d:=er g a.f2;refine ao ⟨⟨⟨_,a⟩,d⟩,?_⟩;refine eL 17 j ⟨⟨_,a⟩,d⟩ (λw _=>eX (c:=(hU (b0 aG 2)).cs.toArray) j (λ_=>by kernel_rfl)) ?_;refine d5 19 j ?_;refine c6 a.f3 j j j j j bO (λw a=>?_);have a:=(C.whole (U:=(hU (b0 aG 2)).cs) a j).f3.f3.f3;have d:=er g a.f2;refine ao ⟨⟨⟨_,a⟩,d⟩,?_⟩;refine c5 ?_;refine bW 0 j ?_;exact⟨_,_,_,⟨j,j,j,j,bb⟩,e,a.f2.drop⟩
   .skip
    refine eu a j j (λm w a=>?_);have a:=a.f1.f2.f1;refine ao ⟨⟨_,a⟩,?_⟩;refine d5 3 j ?_;have f:=eI a.cH e (eT (b0 aG 2) l 1);refine bK j j j f (λw⟨v,b,e,ad⟩=>?_);have a:=a.cG ad;refine ao ⟨⟨_,a⟩,?_⟩;refine d5 5 j ?_;have f:=eI a.cH e (eT (b0 aG 2) l 2);refine bK j j j f (λw⟨v,b,e,ad⟩=>?_);have a:=a.cG ad;refine ao ⟨⟨_,a⟩,?_⟩;refine d5 7 j ?_;have f:=p9 a.cH e (eT (b0 aG 2) l 3);refine cS j j j f (λx w⟨v,b,bT,g,e,ad⟩=>?_);have a:=(a.cG ad).f1.f2.f1;obtain⟨n,du,rfl,_⟩:=g.form;have d:=er g a.f2;refine ao ⟨⟨_,a⟩,?_⟩;refine oP (λw=>(λw=>∃ae,C o [] ae w) w/\Rd w n (aP (k3 (e2 (b0 aG 2) 3)).1)) (λw h=>h.1) ?_;refine eL 8 j ⟨⟨_,a⟩,d⟩ (λw hw=>nG j hw.2) ?_;refine d5 10 j ?_;have f:=eI a.cH e (i);refine bK j j j f (λw⟨v,b,e,ad⟩=>?_);have a:=a.cG ad;have d:=er g a.f2;refine ao ⟨⟨⟨_,a⟩,d⟩,?_⟩;refine d5 12 j ?_;have f:=eI a.cH e (eT (fB (b0 aG 2)) i 1);refine bK j j j f (λw⟨v,b,e,ad⟩=>?_);have a:=a.cG ad;have d:=er g a.f2;refine ao ⟨⟨⟨_,a⟩,d⟩,?_⟩;refine d5 14 j ?_;have f:=eI a.cH e (eT (fB (b0 aG 2)) i 2);refine bK j j j f (λw⟨v,b,e,ad⟩=>?_);have a:=a.cG ad;have d:=er g a.f2;refine ao ⟨⟨⟨_,a⟩,d⟩,?_⟩;refine d5 16 j ?_;have f:=eI a.cH e (eT (fB (b0 aG 2)) i 3);refine bK j j j f (λw⟨v,b,e,ad⟩=>?_);have a:=a.cG ad;have d:=er g a.f2;refine ao ⟨⟨⟨_,a⟩,d⟩,?_⟩;refine eL 17 j ⟨⟨_,a⟩,d⟩ (λw _=>eX (c:=(hU (b0 aG 2)).cs.toArray) j (λ_=>by kernel_rfl)) ?_;refine d5 19 j ?_;refine c6 a.f3 j j j j j bO (λw a=>?_);have a:=(C.whole (U:=(hU (b0 aG 2)).cs) a j).f3.f3.f3;have d:=er g a.f2;refine ao ⟨⟨⟨_,a⟩,d⟩,?_⟩;refine c5 ?_;refine bW 0 j ?_;exact⟨_,_,_,⟨j,j,j,j,bb⟩,e,a.f2.drop⟩
  .skip
   refine eu a j j (λm w a=>?_);have a:=a.f1.f2.f1;refine ao ⟨⟨_,a⟩,?_⟩;refine d5 1 j ?_;have f:=eI a.cH e (l);refine bK j j j f (λw⟨v,b,e,ad⟩=>?_);have a:=a.cG ad;refine ao ⟨⟨_,a⟩,?_⟩;refine d5 3 j ?_;have f:=eI a.cH e (eT (b0 aG 2) l 1);refine bK j j j f (λw⟨v,b,e,ad⟩=>?_);have a:=a.cG ad;refine ao ⟨⟨_,a⟩,?_⟩;refine d5 5 j ?_;have f:=eI a.cH e (eT (b0 aG 2) l 2);refine bK j j j f (λw⟨v,b,e,ad⟩=>?_);have a:=a.cG ad;refine ao ⟨⟨_,a⟩,?_⟩;refine d5 7 j ?_;have f:=p9 a.cH e (eT (b0 aG 2) l 3);refine cS j j j f (λx w⟨v,b,bT,g,e,ad⟩=>?_);have a:=(a.cG ad).f1.f2.f1;obtain⟨n,du,rfl,_⟩:=g.form;have d:=er g a.f2;refine ao ⟨⟨_,a⟩,?_⟩;refine oP (λw=>(λw=>∃ae,C o [] ae w) w/\Rd w n (aP (k3 (e2 (b0 aG 2) 3)).1)) (λw h=>h.1) ?_;refine eL 8 j ⟨⟨_,a⟩,d⟩ (λw hw=>nG j hw.2) ?_;refine d5 10 j ?_;have f:=eI a.cH e (i);refine bK j j j f (λw⟨v,b,e,ad⟩=>?_);have a:=a.cG ad;have d:=er g a.f2;refine ao ⟨⟨⟨_,a⟩,d⟩,?_⟩;refine d5 12 j ?_;have f:=eI a.cH e (eT (fB (b0 aG 2)) i 1);refine bK j j j f (λw⟨v,b,e,ad⟩=>?_);have a:=a.cG ad;have d:=er g a.f2;refine ao ⟨⟨⟨_,a⟩,d⟩,?_⟩;refine d5 14 j ?_;have f:=eI a.cH e (eT (fB (b0 aG 2)) i 2);refine bK j j j f (λw⟨v,b,e,ad⟩=>?_);have a:=a.cG ad;have d:=er g a.f2;refine ao ⟨⟨⟨_,a⟩,d⟩,?_⟩;refine d5 16 j ?_;have f:=eI a.cH e (eT (fB (b0 aG 2)) i 3);refine bK j j j f (λw⟨v,b,e,ad⟩=>?_);have a:=a.cG ad;have d:=er g a.f2;refine ao ⟨⟨⟨_,a⟩,d⟩,?_⟩;refine eL 17 j ⟨⟨_,a⟩,d⟩ (λw _=>eX (c:=(hU (b0 aG 2)).cs.toArray) j (λ_=>by kernel_rfl)) ?_;refine d5 19 j ?_;refine c6 a.f3 j j j j j bO (λw a=>?_);have a:=(C.whole (U:=(hU (b0 aG 2)).cs) a j).f3.f3.f3;have d:=er g a.f2;refine ao ⟨⟨⟨_,a⟩,d⟩,?_⟩;refine c5 ?_;refine bW 0 j ?_;exact⟨_,_,_,⟨j,j,j,j,bb⟩,e,a.f2.drop⟩
 .skip
  rintro Z w ⟨v,b,m,aF,e,a⟩;refine lf [(2,aa aS),(3,.int .i64 0),(4,aa r),(5,aa m)] aF ?_;have f:=eI a.cH e (eT (fB (b0 aG 2)) i 4);refine br 3 f j (λw⟨v,b,e,ad⟩=>?_);have a:=a.cG ad;have e:hA v b (yA (b0 aG 2)) G:=e;refine dE 6 a.f2 j j j j (λw a=>?_);have a:C o [] [bB m (md (b0 aG 2)),g0 r v b,G,bB aS c7] w:=a;have a:=a.f1.f2.f1;have f:=Ae a.cH e;refine br 4 f j (λw ad=>?_);have a:=a.cG ad;refine aq 2 j (c9 35 j (λeN=>?_) (λeN=>?_))
  .skip
   refine aq 4 j (bY 39 (.bool true) j (aK Value.bool (j)) ?_);refine aq 7 j (cP (c:=c7.cs.toArray) j j j (λ_=>by kernel_rfl) ?_);refine cv 0 a.f3 j j j j j (λw a=>?_);refine bH 1 j ⟨_,ds results136 j j j j (a.bQ),?_⟩
   have p:jr (b0 aG 2)=false:=by
    unfold jr
    first
     |(have h:=s;rw [jY] at h;rw [h,nc,nc])
     |(have h:=dV q;rw [e7 (show¬mc (b0 aG 2)<=1 by unfold mc;omega),Bool.false_and,Bool.and_false])
     |(have h:=eN;rw [jY] at h;rw [h,nU])
   rw [p];exact⟨j,a.bare⟩
  .skip
   refine aq 4 j (c9 39 j (λq=>?_) (λq=>?_))
   .skip
    refine aq 7 j (cP (c:=c7.cs.toArray) j j j (λ_=>by kernel_rfl) ?_);refine cv 0 a.f3 j j j j j (λw a=>?_);refine bH 1 j ⟨_,ds results136 j j j j (a.bQ),?_⟩
    have p:jr (b0 aG 2)=false:=by
     unfold jr
     first
      |(have h:=s;rw [jY] at h;rw [h,nc,nc])
      |(have h:=dV q;rw [e7 (show¬mc (b0 aG 2)<=1 by unfold mc;omega),Bool.false_and,Bool.and_false])
      |(have h:=eN;rw [jY] at h;rw [h,nU])
    rw [p];exact⟨j,a.bare⟩
   .skip
    refine bP 0 (U:=(md (b0 aG 2)).cs) j j j a.f2.bQ ?_;have f:=xS (o:=w) (I:=md (b0 aG 2));refine br 0 f j (λw ad=>?_);have a:=a.aO ad;refine bo 2 j j (λs=>?_) (λs=>?_)
    .skip
     refine aq 2 j (cP (c:=c7.cs.toArray) j j j (λ_=>by kernel_rfl) ?_);refine cv 0 a.f3 j j j j j (λw a=>?_);refine bH 1 j ⟨_,ds results136 j j j j (a.bQ),?_⟩
     have p:jr (b0 aG 2)=false:=by
      unfold jr
      first
       |(have h:=s;rw [jY] at h;rw [h,nc,nc])
       |(have h:=dV q;rw [e7 (show¬mc (b0 aG 2)<=1 by unfold mc;omega),Bool.false_and,Bool.and_false])
       |(have h:=eN;rw [jY] at h;rw [h,nU])
     rw [p];exact⟨j,a.bare⟩
    .skip
     refine bP 3 (U:=(md (b0 aG 2)).cs) j j j a.f2.bQ ?_;refine cv 0 a.f3 j j j j j (λw a=>?_);refine bH 1 j ⟨_,ds results136 j j j j (a.bQ),?_⟩
     have p:jr (b0 aG 2)=true:=by
      unfold jr;simp only [d8,gn];exact⟨by simpa using eN,by unfold mc;have:=of_decide_eq_false q;omega,by simpa using s⟩
     rw [p];exact⟨j,a.bare⟩
theorem zm{P:Program}{w:World}{em:Bool}{n:Nat}{t:TypeId}{gw:Array Field}{cs:Array Value}(g k:Nat)(hu:P.underlying t=some (.struct gw))(o:P.underlying g=some (.int .i64))(c:(gw.toList.all λf=>(f.type==g)&&Nat.blt f.offset k)=true)(d:∀R,R<k->∃i,cs[R]? =some (.int .i64 i)):(Instr.checkKey em (n+2) t (.agg cs)).run P w= .ok () w:=by
 have h:∀f∈gw.toList,P.underlying f.type=some (.int .i64)/\∃i,cs[f.offset]? =some (.int .i64 i):=λf m=>by
  have a:=ji.1 c f m;simp only [d8,ea] at a;exact⟨by rw [a.1];exact o,d _ (Nat.blt_eq▸a.2)⟩
 clear c d;rw [Instr.checkKey];simp only [dW,d9 hu,dZ];rw [<-Array.forIn_toList];generalize gw.toList=L at h;induction L with
 |nil=>simp
 |cons f L e=>
  obtain⟨a,i,l⟩:=h f (by simp);have bS:=mW (P:=P) (w:=w) a j l;have p:(Instr.checkKey em (n+1) f.type (.int .i64 i)).run P w= .ok () w:=MapKept.run_checkKey a (show MapKept.IsKey (.int .i64) (.int .i64 i) from j) em n;by_cases aT:f.name= "_"
  .simp only [List.forIn_cons,dW,aT,ne_eq,not_true_eq_false,km,dZ,ew];exact e (λy b=>h y (by simp [b]))
  .simp only [List.forIn_cons,dW,aT,ne_eq,not_false_eq_true,ib,dZ,bS,p,ew];exact e (λy b=>h y (by simp [b]))
theorem zo{cz:Type}[DecidableEq cz]{P:Program}{w:World}{t:TypeId}{key:cz->Value}(he:∀a b,(Op.equal t (key a) (key b)).run P w= .ok (decide (a=b)) w)(o:∀a b,key a=key b->a=b)(k:cz):
 ∀(es:List MapEntry)(i:Nat),(∀e∈es,∃R,e.key=key R)->
  ((Instr.findAsking t (key k) es i).run P w= .ok none w/\∀e∈es,e.key≠key k)\/∃(R:Nat)(e:MapEntry),(Instr.findAsking t (key k) es i).run P w= .ok (some (i+R,e.val)) w/\es[R]? =some e/\e.key=key k
 |[],i,_=>Or.inl ⟨by simp [Instr.findAsking],by simp⟩
 |e::es,i,n=>by
  obtain⟨R,c⟩:=n e (by simp);have m:=he k R;by_cases f:k=R
  .right
   subst f;refine⟨0,e,?_,j,c⟩;simp [Instr.findAsking,c,m]
  .have r:e.key≠key k:=λh=>f (o _ _ (h.symm.trans c))
   rcases zo he o k es (i+1) (λy d=>n y (by simp [d])) with⟨g,l⟩|⟨q,hc,g,l,p⟩
   .left
    refine⟨by simp [Instr.findAsking,c,m,f,g],λy d=>?_⟩;rcases hD.1 d with rfl|d
    .exact r
    .exact l y d
   .right
    exact⟨q+1,hc,by simp [Instr.findAsking,c,m,f,g,q5,Nat.add_comm 1 q],by simpa using l,p⟩
theorem zp{cz:Type}[DecidableEq cz]{P:Program}{w:World}{t:TypeId}{gw:Array Field}{key:cz->Value}{c:cz->Array Value}(hu:P.underlying t=some (.struct gw))(g:∀a,key a= .agg (c a))(he:∀a b,(Op.equal t (key a) (key b)).run P w= .ok (decide (a=b)) w)(h:∀a b,key a=key b->a=b)(k:cz)(es:List MapEntry)(f:∀e∈es,∃R,e.key=key R):
 ((Instr.findKey t (key k) es).run P w= .ok none w/\∀e∈es,e.key≠key k)\/∃(R:Nat)(e:MapEntry),(Instr.findKey t (key k) es).run P w= .ok (some (R,e.val)) w/\es[R]? =some e/\e.key=key k:=by
 have d:(Instr.findKey t (key k) es).run P w=(Instr.findAsking t (key k) es 0).run P w:=by
  unfold Instr.findKey;simp only [dW,d9 hu,dZ];cases es with
  |nil=>simp [Instr.findNow,Instr.findAsking]
  |cons e es=>rw [g k];simp [Instr.findNow,Instr.sameNow]
 rw [d];have:=zo he h k es 0 f;simpa using this
theorem zr(n:Nat)(a:Int):Instr.sameBits n (ab a) (ab a)=true:=by cases n<;>simp [Instr.sameBits,ab]
abbrev hh(m:b7):Value:=.agg m.cs.toArray
abbrev kL(a:Int×Int):Value:=.agg #[ab a.1,ab a.2]
theorem ym(a b:b7)(h:hh a=hh b):a=b:=by
 obtain⟨cl,g,a3,a4⟩:=a;obtain⟨aC,aS,i,j⟩:=b;simp [hh,b7.cs] at h;obtain⟨c,d,e,f⟩:=h;cases c;cases d;cases e;cases f;rfl
theorem we(a b:Int×Int)(h:kL a=kL b):a=b:=by
 obtain⟨cl,e⟩:=a;obtain⟨aC,aS⟩:=b;simp [kL] at h;obtain⟨c,d⟩:=h;cases c;cases d;rfl
theorem xe(a b:b7)(w:World):(Op.equal 110 (hh a) (hh b)).run prog w= .ok (decide (a=b)) w:=by
 have hu:prog.underlying 3=some (.int .i64):=(inferInstance:bC prog 3 (.int .i64)).h
 have e:decide (a=b)=((a.k==b.k)&&((a.p==b.p)&&((a.e==b.e)&&((a.t==b.t)&&true)))):=by
  rw [lk];obtain⟨cl,c,a3,a4⟩:=a;obtain⟨aC,aS,d,f⟩:=b;simp
 rw [e];show(Op.equalIn 10000 110 _ _).run _ _=_;rw [run_equalIn_agg w 9999 110 _ _ (by kernel_rfl) (by kernel_rfl)];exact j5 (by decide) hu j j (j5 (by decide) hu j j (j5 (by decide) hu j j (j5 (by decide) hu j j uc)))
theorem C8(a b:Int×Int)(w:World):(Op.equal 315 (kL a) (kL b)).run prog w= .ok (decide (a=b)) w:=by
 have hu:prog.underlying 3=some (.int .i64):=(inferInstance:bC prog 3 (.int .i64)).h
 have e:decide (a=b)=((a.1==b.1)&&((a.2==b.2)&&true)):=by
  rw [lk];obtain⟨cl,c⟩:=a;obtain⟨aC,aS⟩:=b;simp
 rw [e];show(Op.equalIn 10000 315 _ _).run _ _=_;rw [run_equalIn_agg w 9999 315 _ _ (by kernel_rfl) (by kernel_rfl)];exact j5 (by decide) hu j j (j5 (by decide) hu j j uc)
instance:Keys prog 110 hh where
 inj:=ym
 check:=λw em k=>zm (n:=9998) 3 4 (inferInstance:bC prog 110 _).h (inferInstance:bC prog 3 (.int .i64)).h (by kernel_rfl) (λR d=>by
  rcases(show R=0\/R=1\/R=2\/R=3 by omega) with rfl|rfl|rfl|rfl<;>exact⟨_,j⟩)
 find:=λw k es h=>zp (P:=prog) (w:=w) (t:=110) (key:=hh) (c:=λm=>m.cs.toArray) (inferInstance:bC prog 110 _).h (λ_=>rfl) (λa b=>xe a b w) ym k es h
 stays:=λw k=>by simp [Instr.keyThatStays,Instr.sameBits,b7.cs,zr]
instance:Keys prog 315 kL where
 inj:=we
 check:=λw em k=>zm (n:=9998) 3 2 (inferInstance:bC prog 315 _).h (inferInstance:bC prog 3 (.int .i64)).h (by kernel_rfl) (λR d=>by
  rcases(show R=0\/R=1 by omega) with rfl|rfl<;>exact⟨_,j⟩)
 find:=λw k es h=>zp (P:=prog) (w:=w) (t:=315) (key:=kL) (c:=λa=> #[ab a.1,ab a.2]) (inferInstance:bC prog 315 _).h (λ_=>rfl) (λa b=>C8 a b w) we k es h
 stays:=λw k=>by simp [Instr.keyThatStays,Instr.sameBits,zr]
structure dt where
 name:List UInt8
 b3:Int
 last:Int
 df:Bool
 parts:Option (List Int)
 ff:Int
def dt.new(x:List UInt8):dt:=⟨x,0,0,false,none,0⟩
structure bu where
 cL:List (Int×dt)
 marks:List b7
 fv:List b7
 answers:List ((Int×Int)×(Int×Int×Int))
 now:Int
def bu.new:bu:=⟨[],[],[],[],0⟩
def once{α:Type}[DecidableEq α](l:List α)(a:α):List α:=if a∈l then l else l++[a]
def dt.mark(p:dt)(n k:Int):b7:=⟨k,n,p.b3,p.last⟩
def dt.shut(p:dt):dt:={p with df:=false,parts:=none}
def bu.gD(s:bu)(n:Int)(p:dt)(k:Int):bu:={s with cL:=bV s.cL n p.shut,fv:=once s.fv (p.mark n k),marks:=s.marks++[p.mark n k]}
def bu.named(s:bu)(x:List UInt8):Option (Int×dt):=(cW s.cL).findSome? λq=>if q.2.name=x then some q else none
def bu.dc(s:bu)(I:bD):bu×(Int×Int×Int)×List b7:=
 match s.named I.ef with
 |none=>if 8<=s.cL.length then(s,(3,0,0),[])
  else({s with cL:=bV s.cL (s.cL.length:Int) (dt.new I.ef),marks:=s.marks++[⟨1,(s.cL.length:Int),0,0⟩]},(0,(s.cL.length:Int),0),[⟨1,(s.cL.length:Int),0,0⟩])
 |some (n,p)=>if 100<=p.b3 then(s,(7,0,0),[])
  else if p.df=true then({s with cL:=bV s.cL n {p.shut with b3:=p.b3+1,last:=0},fv:=once s.fv (p.mark n 3),marks:=s.marks++[p.mark n 3]++[⟨1,n,p.b3+1,0⟩]},(0,n,p.b3+1),[p.mark n 3]++[⟨1,n,p.b3+1,0⟩])
  else({s with cL:=bV s.cL n {p with b3:=p.b3+1,last:=0},marks:=s.marks++[⟨1,n,p.b3+1,0⟩]},(0,n,p.b3+1),[⟨1,n,p.b3+1,0⟩])
def dt.add(now:Int)(I:bD)(p:dt):dt×Int:=
 if p.df=true/\I.t=p.last then({p with parts:=some (once (p.parts.getD []) I.q)},0)
 else if p.df=true then(p,6)
 else if 100<=p.last then(p,7)
 else if I.t-1≠p.last then(p,6)
 else({p with df:=true,last:=I.t,ff:=now,parts:=some [I.q]},0)
def bu.ps(s:bu)(I:bD)(p:dt):bu×Int:=({s with cL:=bV s.cL I.p (p.add s.now I).1},(p.add s.now I).2)
def iq(I:bD):Int:=if I.cu=true then 2 else 3
def bu.ends(s:bu)(I:bD)(p:dt):bu×Int×List b7:=
 if p.df=true/\I.t=p.last then(s.gD I.p p (iq I),0,[p.mark I.p (iq I)])
 else if⟨iq I,I.p,I.e,I.t⟩∈s.fv then(s,0,[]) else(s,6,[])
def bu.fD(now:Int)(a:bu×List b7)(q:Int×dt):bu×List b7:=
 if q.2.df=true/\5<=now-q.2.ff then(a.1.gD q.1 q.2 3,a.2++[q.2.mark q.1 3]) else a
def bu.e4(s:bu):bu×List b7:=(cW s.cL).foldl (bu.fD (s.now+1)) ({s with now:=s.now+1},[])
def bu.bF(s:bu)(I:bD):bu×(Int×Int×Int)×List b7:=
 if I.k=1 then s.dc I
 else if I.k=4 then((s.e4).1,(0,0,0),(s.e4).2)
 else match aV s.cL I.p with
  |none=>(s,(4,0,0),[])
  |some p=>if I.e≠p.b3 then(s,(5,0,0),[])
   else if I.k=2 then((s.ps I p).1,((s.ps I p).2,0,0),[])
   else((s.ends I p).1,((s.ends I p).2.1,0,0),(s.ends I p).2.2)
def bu.apply(s:bu)(I:bD):bu×(Int×Int×Int)×List b7:=
 if gf I=false then(s,(6,0,0),[])
 else match aV s.answers (I.c,I.s) with
  |some a=>(s,a,[])
  |none=>({(s.bF I).1 with answers:=bV (s.bF I).1.answers (I.c,I.s) (s.bF I).2.1},(s.bF I).2.1,(s.bF I).2.2)
def ta(v:Value)(l:Option (List Int))(G:List Chunk):Prop:=match l with
 |none=>v= .map none/\G=[]
 |some l=>∃ah I,v= .map (some ah)/\G=[(ah,I)]/\cf bG I (l.map λk=>(k,Value.bool true))
abbrev sb(q:dt)(cJ:Value):List Value:=[.string (cQ q.name),ab q.b3,ab q.last,.bool q.df,cJ,ab q.ff]
abbrev cm(aL:Nat)(q:dt)(cJ:Value):List Chunk:=J aL (sb q cJ).toArray 366
def qN(v:Value)(q:dt)(G:List Chunk):Prop:=∃aL cJ a,v=aa aL/\ta cJ q.parts a/\G=cm aL q cJ++a
structure iS where
 l:Value
 marks:Value
 fv:Value
 answers:Value
abbrev tR(now:Int)(c:iS):List Value:=[c.l,c.marks,c.fv,c.answers,ab now]
abbrev bR(aW:Nat)(now:Int)(c:iS):List Chunk:=J aW (tR now c).toArray 222
def eG(v:Value)(l:List b7)(G:List Chunk):Prop:=Row 110 4 v l.length (l.flatMap b7.cs) G
theorem eG.nil:eG (.slice none 0 0) [] []:=Row.nil _ _
theorem ol(l:List b7):∀v∈l.flatMap b7.cs,v.oneCell'=true:=by
 intro v a;obtain⟨m,_,hm⟩:=o7.1 a;simp [b7.cs] at hm;rcases hm with rfl|rfl|rfl|rfl<;>rfl
def mu{cz:Type}(key:cz->Value)(v:Value)(m:List (cz×Value))(G:List Chunk):Prop:=∃b I,v= .map (some b)/\G=[(b,I)]/\cf key I m
abbrev ob(l:List b7):List (b7×Value):=l.map λk=>(k,Value.bool true)
abbrev kc(a:Int×Int×Int):Value:=.agg #[ab a.1,ab a.2.1,ab a.2.2]
abbrev ni(l:List ((Int×Int)×(Int×Int×Int))):List ((Int×Int)×Value):=l.map λa=>(a.1,kc a.2)
structure Am(s:bu)(c:iS)(gQ M D W:List Chunk):Prop where
 l:fo 290 qN c.l s.cL gQ
 marks:eG c.marks s.marks M
 fv:mu hh c.fv (ob s.fv) D
 answers:mu kL c.answers (ni s.answers) W
def kF(aW:Nat)(s:bu)(G:List Chunk):Prop:=∃(c:iS)(gQ M D W:List Chunk),Am s c gQ M D W/\G=bR aW s.now c++(gQ++(M++(D++W)))
theorem C.p1{aW:Nat}{now:Int}{c:iS}{gQ M D W:List Chunk}{ae:List (List Chunk)}{o w:World}{F:List Nat}(h:C o F ((bR aW now c++(gQ++(M++(D++W))))::ae) w):C o F (bR aW now c::gQ::M::D::W::ae) w:=h.perm (by simp)
theorem C.xV{aW:Nat}{now:Int}{c:iS}{gQ M D W:List Chunk}{ae:List (List Chunk)}{o w:World}{F:List Nat}(h:C o F (bR aW now c::gQ::M::D::W::ae) w):C o F ((bR aW now c++(gQ++(M++(D++W))))::ae) w:=h.perm (by simp)
theorem mR{cz β a:Type}[DecidableEq cz](f:β->a):∀(m:List (cz×β))(k:cz),aV (m.map λp=>(p.1,f p.2)) k=(aV m k).map f
 |[],_=>rfl
 |(R,v)::r,k=>by
  simp only [jh,aV];split
  .rfl
  .exact mR f r k
theorem uP{cz β a:Type}[DecidableEq cz](f:β->a):∀(m:List (cz×β))(k:cz)(v:β),bV (m.map λp=>(p.1,f p.2)) k (f v)=(bV m k v).map λp=>(p.1,f p.2)
 |[],_,_=>rfl
 |(R,u)::r,k,v=>by
  simp only [jh,bV];split
  .rfl
  .rw [uP f r k v];rfl
theorem yi{cz:Type}[DecidableEq cz]:∀(l:List cz)(k:cz),(aV (l.map λk=>(k,Value.bool true)) k).getD (.bool false)= .bool (decide (k∈l))
 |[],_=>rfl
 |R::r,k=>by
  simp only [jh,aV];by_cases h:R=k
  .rw [aR h];simp [h]
  .rw [az h,yi r k];have:(k∈R::r)↔k∈r:=by simp [hD,Ne.symm h]
   simp only [this]
theorem uS{cz:Type}[DecidableEq cz]:∀(l:List cz)(k:cz),bV (l.map λk=>(k,Value.bool true)) k (.bool true)=(once l k).map λk=>(k,Value.bool true)
 |[],_=>rfl
 |R::r,k=>by
  simp only [jh,bV];by_cases h:R=k
  .rw [aR h];unfold once;rw [aR (by simp [h])];simp [h]
  .rw [az h,uS r k];unfold once;by_cases ad:k∈r
   .rw [aR ad,aR (by simp [ad])];rfl
   .rw [az ad,az (by simp [ad,Ne.symm h])];simp
theorem E2{o:World}:Calls prog 55 #[] o λr w=>∃aW G,r=aa aW/\kF aW bu.new G/\C o [] [G] w:=by
 have a:Own [] o:=C.start o;refine a6 func55 (bk 5 E4 j (λr w⟨bS,e,h,g,f⟩=>?_));subst h;have a:=a.aO f;refine jd j a j j (λaS w a=>jd j a j j (λb w a=>cP (c:=(tR 0 (⟨aa bS,.slice none 0 0,.map (some aS),.map (some b)⟩:iS)).toArray) j j j (λ_=>by kernel_rfl) (bJ 0 a j j (λd w a=>an 1 j j ?_))));have a:C o [] (bR d 0 (⟨aa bS,.slice none 0 0,.map (some aS),.map (some b)⟩:iS)::_) w:=a;exact⟨d,_,j,⟨(⟨aa bS,.slice none 0 0,.map (some aS),.map (some b)⟩:iS),ay 290 bS e (.map #[] 0),[],[(aS,.map #[] 0)],[(b,.map #[] 0)],⟨fo.new g,eG.nil,⟨aS,_,j,j,cf.new⟩,⟨b,_,j,j,cf.new⟩⟩,j⟩,C.perm (A:=[bR d 0 (⟨aa bS,.slice none 0 0,.map (some aS),.map (some b)⟩:iS),ay 290 bS e (.map #[] 0),[(aS,.map #[] 0)],[(b,.map #[] 0)]]) a.as (by simp [bu.new])⟩
theorem sB{o:World}{aW:Nat}{now:Int}{c:iS}{l:List b7}{M:List Chunk}{m:b7}(h:eG c.marks l M)(y:l.length<=1000000)(a:Own [bR aW now c,M] o):Calls prog 273 #[aa aW,hh m] o λr w=>∃v1 f k,eG v1 (l++[m]) f/\eG r [m] k/\C o (au [bR aW now c,M]) [bR aW now {c with marks:=v1},f,k] w:=by
 obtain⟨d,q⟩:∃d,d=au [bR aW now c,M]:=⟨_,j⟩;rw [<-q];have a:C o d [bR aW now c,M] o:=q▸a;obtain⟨cn,n8,s,v,x⟩:=h.form;have h:eG (.slice cn l.length n8) l M:=s▸h;refine a6 func273 (bJ 2 a j j (λg w a=>?_));have a:C o d [J g m.cs.toArray 110,bR aW now c,M] w:=a;have a:=a.drew;refine bx 2 j (λw=>∃ae,C o d ([J g m.cs.toArray 110,bR aW now c]++ae) w) ⟨_,a⟩ (ag 0 4 j (a8 4 j a2 (aK some s) (bl 5 j (λw⟨_,a⟩=>dd (U:=m.cs) j j j (bq (C.aj (b:=g) a))) (aX 6 j (gj (U:=m.cs) a j j j j bO bO (λt w a=>?_))))));have aT:=bq (C.aj (b:=t) a);have a:C o d ([J g m.cs.toArray 110,bR aW now c]++_) w:=a.front;refine ao ⟨⟨_,a⟩,?_⟩;refine aX 7 j (e6 (a.to M) h j j (by decide) j j j (m:=1) (news:=m.cs) j aT (by intro u hu;exact ol [m] u (by simpa using hu)) (by omega) (by unfold maxLen;omega) (λv1 f w i a=>?_))
 have i:eG v1 (l++[m]) f:=by
  unfold eG;rw [cj,List.flatMap_append];simpa using i
 have a:C o d ([J g m.cs.toArray 110,bR aW now c]++_) w:=a.front;refine ao ⟨⟨_,a⟩,?_⟩;refine ag 8 2 j (dK 10 j (cO (a.bc aW) j j j i.one bO (λw a=>?_)));have a:C o d (bR aW now {c with marks:=v1}::_) w:=a;have a:C o d [bR aW now {c with marks:=v1},J g m.cs.toArray 110,f] w:=a.as;refine ao (c5 (bP 2 (U:=m.cs) j j j (bq (C.aj (b:=g) a)) (gj (U:=m.cs) a j j j j bO bO (λp w a=>an 1 j j ?_))));have a:C o d [bR aW now {c with marks:=v1},f,J p m.cs.toArray 110] w:=a.as;refine⟨v1,f,_,i,?_,a⟩;have:=Row.full (e:=110) (size:=4) (b:=p) (n:=1) (cur:=m.cs.toArray) (by unfold maxLen;omega) (by rw [List.size_toArray];rfl);unfold eG;simpa using this
theorem tY{o:World}{aW aL:Nat}{now n k:Int}{c:iS}{l dl:List b7}{M D:List Chunk}{q:dt}{cJ:Value}(x:eG c.marks l M)(v:mu hh c.fv (ob dl) D)(E:l.length<=1000000)(a:Own [bR aW now c,M,D,cm aL q cJ] o):Calls prog 272 #[aa aW,ab n,aa aL,ab k] o λr w=>∃v1 f i g,eG v1 (l++[q.mark n k]) f/\mu hh c.fv (ob (once dl (q.mark n k))) i/\eG r [q.mark n k] g/\C o (au [bR aW now c,M,D,cm aL q cJ]) [bR aW now {c with marks:=v1},f,i,cm aL q.shut (.map none),g] w:=by
 obtain⟨d,p⟩:∃d,d=au [bR aW now c,M,D,cm aL q cJ]:=⟨_,j⟩;rw [<-p];have a:C o d [bR aW now c,M,D,cm aL q cJ] o:=p▸a;obtain⟨h,I,s,rfl,F⟩:=v;refine a6 func272 ?_;have a:C o d ([cm aL q cJ]++_) _:=a.front;have a:=a.drew;refine bx 4 j (λw=>∃ae,C o d ([cm aL q cJ]++ae) w) ⟨_,a⟩ (ag 0 5 j (a8 5 j a2 j (ag 6 3 j (a8 9 j a2 j (bl 10 j (λw _=>eX (c:=(q.mark n k).cs.toArray) j (λ_=>by kernel_rfl)) (aX 11 j (eu a j j (λe w a=>?_))))))));have a:C o d ([cm aL q cJ]++_) w:=a.front;refine ao ⟨⟨_,a⟩,?_⟩;refine dK 12 j (c6 (a.bc e) j j j (by rfl) j bO (λw a=>?_));have a:=C.whole (U:=(q.mark n k).cs) a j;have a:C o d [J e (q.mark n k).cs.toArray 110,bR aW now c,M,[(h,I)],cm aL q cJ] w:=a.as;refine ao (c5 (dE 6 (a.bc aL) j j j j (λw a=>?_)));have a:C o d (cm aL {q with df:=false} cJ::_) w:=a;refine dE 2 (a.bc aL) j j j j (λw a=>?_);have a:C o d (cm aL q.shut (.map none)::_) w:=a;have a:C o d ([J e (q.mark n k).cs.toArray 110,bR aW now c]++_) _:=a.front;have a:=a.drew;refine bx 1 j (λw=>∃ae,C o d ([J e (q.mark n k).cs.toArray 110,bR aW now c]++ae) w) ⟨_,a⟩ (ag 0 3 j (a8 3 j a2 (aK some s) (bl 4 j (λw⟨_,a⟩=>dd (U:=(q.mark n k).cs) j j j (bq (C.aj (b:=e) a))) (aX 5 j (je (k:=q.mark n k) F (a.to [(h,I)]) j j j j (λu w t a=>?_))))));rw [uS] at t;have a:C o d ([J e (q.mark n k).cs.toArray 110,bR aW now c]++_) w:=a.front;refine ao ⟨⟨_,a⟩,?_⟩;refine bL (bP 3 (U:=(q.mark n k).cs) j j j (bq (C.aj (b:=e) a)) ?_);have A:=sB (aW:=aW) (now:=now) (c:=c) (m:=q.mark n k) x E a.ours;refine bk 0 A j (λr w⟨v1,f,g,y,z,B⟩=>?_);have a:=a.b1 B;exact an 1 j j ⟨v1,f,[(h,u)],g,y,⟨h,u,s,j,t⟩,z,a.as⟩
theorem uL{α:Type}:∀{m:List (Int×α)}{q:Int×α},(m.map Prod.fst).Nodup->q∈m->aV m q.1=some q.2
 |(R,v)::r,q,aT,a=>by
  have b:=lT.1 (by simpa using aT:(R::r.map Prod.fst).Nodup);rcases hD.1 a with rfl|a
  .simp [aV]
  .have:R≠q.1:=λe=>b.1 (by rw [e];exact ee.2 ⟨q,a,j⟩)
   simp only [aV,this,km];exact uL b.2 a
theorem ys{o:World}{aW am ah:Nat}{now:Int}{c:iS}{I:Obj}{m:List (Int×Value)}{t:List (Int×dt)}{H:List Chunk}{x:List UInt8}(W:o.heap[aW]? =some (.cells (tR now c).toArray 222 (0,0)))(G:c.l=aa am)(hm:cf bG I m)(A:c4 qN m t H)(M:Holds o (ay 290 am ah I++H))(aN:t.length<=1000000):Calls prog 270 #[aa aW,.string (cQ x)] o λr w=>(∃k v q,r= .tuple #[ab k,v,.bool true]/\aV m k=some v/\aV t k=some q/\(cW t).findSome? (λq:Int×dt=>if q.2.name=x then some q else none)=some (k,q)/\C o [] [] w)\/∃b,r= .tuple #[ab (t.length:Int),aa b,.bool false]/\(cW t).findSome? (λq:Int×dt=>if q.2.name=x then some q else none)=none/\C o [] [cm b (dt.new x) (.map none)] w:=by
 have d:Own [] o:=C.start o;have X:(m.map (·.1)).Nodup:=hm.nodup (P:=prog) (cX:=3);have aA:(t.map Prod.fst).Nodup:=by have:=A.keys;rw [<-this];exact X
 obtain⟨a,V⟩:∃a:Option Addr,a=some ⟨am,0,none⟩:=⟨_,j⟩;have G:c.l= .pointer a:=G.trans (by rw [V]);have N:dI 290 o a m:=.inr ⟨am,ah,I,V,M (am,_) (by simp),M (ah,I) (by simp),hm⟩;refine jH func270 (bJ 2 d j j (λf w d=>cx 0 d j (λg w d=>cx 0 d j (λi w d=>cx 0 d j (λn w d=>?_)))));have d:C o [] [J n #[.bool false] 4,J i #[.pointer none] 218,J g #[ab 0] 3,J f #[.string (cQ x)] 9] w:=d;have d:C o [] [J f #[.string (cQ x)] 9,J g #[ab 0] 3,J i #[.pointer none] 218,J n #[.bool false] 4] w:=d.as;refine ar 6 j (ax (d.b8 W) (aK some G)) ?_;have E:=wg (o:=w) (p:=a);refine bk 0 E j (λr w⟨ac,af,aC,ad⟩=>?_);subst aC;have ap:=(N.st d).st ad;have d:=d.aO ad;have d:C o [] ([J ac #[.pointer a] 216,[(af,.cells #[.func (.func 300) #[] #[]] 52 (0,0))]]++[J f #[.string (cQ x)] 9,J g #[ab 0] 3,J i #[.pointer none] 218,J n #[.bool false] 4]) w:=d
 refine jM 1 j (zb (by have aM:=A.len;omega)) j (by have:=d.size;simpa using this) d j (λ_=>rfl) (by intro p Y;simp at Y;rcases Y with rfl|rfl<;>rfl)
  (λpre ae=>ae=[J f #[.string (cQ x)] 9,J g #[ab 0] 3,J i #[.pointer none] 218,J n #[.bool false] 4]/\((cW t).take pre.length).findSome? (λq:Int×dt=>if q.2.name=x then some q else none)=none) (λe ae=>match e with| .ret=>∃k v q,aV m k=some v/\aV t k=some q/\(cW t).findSome? (λq:Int×dt=>if q.2.name=x then some q else none)=some (k,q)/\ae=[J f #[.string (cQ x)] 9,J g #[ab k] 3,J i #[v] 218,J n #[.bool true] 4]|_=>False) ⟨j,j⟩ (λL aJ an=>ap.st an) (λ_ _ _ _=>trivial) ?_ ?_ ?_ (λ_ _ _ h=>h.elim)
 .rintro y pre ⟨u,ai⟩ aH L aQ T ⟨rfl,z⟩ d;obtain⟨t1,t2,B,aF,aI,aG,S,Z,aB,aq⟩:=A.nC T
  have O:aV m u=some ai:=by
   obtain⟨aP,aD⟩:=T;exact mS (q:=(u,ai)) X (nD.1 (by rw [aD];simp))
  have Q:aV t u=some B:=uL (q:=(u,B)) aA (g7.1 (show(u,B)∈cW t by rw [S];simp));obtain⟨aL,cJ,aE,rfl,_,rfl⟩:=aq;have D:o.heap[aL]? =some (.cells (sb B cJ).toArray 366 (0,0)):=((M.right.perm aB).right.left) (aL,_) (by simp);have d:=C.gg d;refine bH 5 j (⟨j,_,d,λL ak d=>?_⟩);have D:=d.b8 D;have d:=C.gg d;have d:C ak (au [J f #[.string (cQ x)] 9,J g #[ab 0] 3,J i #[.pointer none] 218,J n #[.bool false] 4]) ([J f #[.string (cQ x)] 9]++_) _:=d.front;have d:=d.drew;refine bx 2 j (λw=>(∃ae,C ak (au [J f #[.string (cQ x)] 9,J g #[ab 0] 3,J i #[.pointer none] 218,J n #[.bool false] 4]) ([J f #[.string (cQ x)] 9]++ae) w)/\w.heap[aL]? =some (.cells (sb B cJ).toArray 366 (0,0))) ⟨⟨_,d⟩,D⟩ (ag 0 3 j (b4 3 j (λw⟨⟨_,d⟩,D⟩=>ax D j) (b4 4 j (λw⟨⟨_,d⟩,D⟩=>ax (C.aj (b:=f) d) j) (bl 5 j (λw _=>Ap j j (mY B.name x)) (bL (bo 0 j j (λK=>?_) (λK=>?_)))))))
  .refine dE 4 (d.bc g) j j j j (λw d=>?_);have d:C _ _ (J g #[ab u] 3::_) w:=d;refine dE 0 (d.bc i) j j j j (λw d=>?_);have d:C _ _ (J i #[aa aL] 218::_) w:=d;refine dE 0 (d.bc n) j j j j (λw d=>?_);have d:C _ _ (J n #[.bool true] 4::_) w:=d;exact bH 0 j ⟨[J f #[.string (cQ x)] 9,J g #[ab u] 3,J i #[aa aL] 218,J n #[.bool true] 4],d.as,u,_,B,O,Q,xl S Z z (aR (by simpa using K)),j⟩
  refine bH 1 j (⟨[J f #[.string (cQ x)] 9,J g #[ab 0] 3,J i #[.pointer none] 218,J n #[.bool false] 4],d.as,j,?_⟩);rw [cj,List.length_singleton];exact xk S Z z (az (by simpa using K))
 .rintro xs al w U ⟨rfl,z⟩ d;have d:C o [] [J ac #[.pointer a] 216,[(af,.cells #[.func (.func 300) #[] #[]] 52 (0,0))],J f #[.string (cQ x)] 9,J g #[ab 0] 3,J i #[.pointer none] 218,J n #[.bool false] 4] w:=d;have d:C o [] ([J f #[.string (cQ x)] 9]++_) _:=d.front;have d:=d.drew;refine bx 1 j (λw=>∃ae,C o [] ([J f #[.string (cQ x)] 9]++ae) w) ⟨_,d⟩ (ag 0 3 j (b4 3 j (λw⟨_,d⟩=>ax (d.b8 W) (aK some G)) (a8 5 j a2 j (bl 6 j (λw _=>eX (c:=(sb (dt.new x) (.map none)).toArray) j (λ_=>by kernel_rfl)) (aS 4 7 j j ?_ ?_)))))
  .have E:=x5 (N.st d);refine bK j j j E (λw R=>?_);have d:=d.aO R;have d:C o [] ([J f #[.string (cQ x)] 9]++_) w:=d.front;refine ao ⟨⟨_,d⟩,?_⟩;refine aS 7 8 j j ?_ ?_;refine ld d j j j (λs w d=>?_);have d:C o [] (cm s (dt.new x) (.map none)::_) w:=d;have d:C o [] ([J f #[.string (cQ x)] 9]++_) w:=d.front;refine ao ⟨⟨_,d⟩,?_⟩;refine aX 8 j (cO (d.bc g) j j j j bO (λw d=>?_));have d:C _ _ (J g #[ab (m.length:Nat)] 3::_) w:=d;rotate_left
   refine cO (d.bc g) j j j j bO (λw d=>?_);have d:C _ _ (J g #[ab (m.length:Nat)] 3::_) w:=d;have d:C o [] ([J f #[.string (cQ x)] 9]++_) w:=d.front;refine ao ⟨⟨_,d⟩,?_⟩;refine aX 7 j (ld d j j j (λs w d=>?_));have d:C o [] (cm s (dt.new x) (.map none)::_) w:=d;rotate_left
   all_goals
    have d:C o [] ([J f #[.string (cQ x)] 9]++_) w:=d.front;refine ao ⟨⟨_,d⟩,?_⟩;refine aX 9 j (cO (d.bc i) j j j j bO (λw d=>?_));have d:C _ _ (J i #[aa s] 218::_) w:=d;have d:C o [] ([J f #[.string (cQ x)] 9]++_) w:=d.front;refine ao ⟨⟨_,d⟩,?_⟩;refine dK 10 j (cO (d.bc n) j j j j bO (λw d=>?_));have d:C _ _ (J n #[.bool false] 4::_) w:=d;have d:C o [] [J f #[.string (cQ x)] 9,J g #[ab (m.length:Nat)] 3,J i #[aa s] 218,J n #[.bool false] 4,cm s (dt.new x) (.map none)] w:=d.as;refine ao (c5 (bH 0 j ⟨.tuple #[ab (m.length:Nat),aa s,.bool false],λw F=>?_⟩));have d:=F.st d (cF _);refine⟨vn results270 j j (ax (C.aj (b:=g) d) j) j j (ax (C.aj (b:=i) d) j) j j (ax (C.aj (b:=n) d) j),?_⟩;rw [U,h8,A.len,ic (by rw [hN];exact cF _)] at z;exact .inr ⟨s,by rw [A.len],z,d.as⟩
  refine ld d j j j (λs w d=>?_);have d:C o [] (cm s (dt.new x) (.map none)::_) w:=d;have d:C o [] ([J f #[.string (cQ x)] 9]++_) w:=d.front;refine ao ⟨⟨_,d⟩,?_⟩;refine aX 4 j ?_;have E:=x5 (N.st d);refine bK j j j E (λw R=>?_);have d:=d.aO R;have d:C o [] ([J f #[.string (cQ x)] 9]++_) w:=d.front;refine ao ⟨⟨_,d⟩,?_⟩;refine aX 8 j (cO (d.bc g) j j j j bO (λw d=>?_));have d:C _ _ (J g #[ab (m.length:Nat)] 3::_) w:=d;have d:C o [] ([J f #[.string (cQ x)] 9]++_) w:=d.front;refine ao ⟨⟨_,d⟩,?_⟩;refine aX 9 j (cO (d.bc i) j j j j bO (λw d=>?_));have d:C _ _ (J i #[aa s] 218::_) w:=d;have d:C o [] ([J f #[.string (cQ x)] 9]++_) w:=d.front;refine ao ⟨⟨_,d⟩,?_⟩;refine dK 10 j (cO (d.bc n) j j j j bO (λw d=>?_));have d:C _ _ (J n #[.bool false] 4::_) w:=d;have d:C o [] [J f #[.string (cQ x)] 9,J g #[ab (m.length:Nat)] 3,J i #[aa s] 218,J n #[.bool false] 4,cm s (dt.new x) (.map none)] w:=d.as;refine ao (c5 (bH 0 j ⟨.tuple #[ab (m.length:Nat),aa s,.bool false],λw F=>?_⟩));have d:=F.st d (cF _);refine⟨vn results270 j j (ax (C.aj (b:=g) d) j) j j (ax (C.aj (b:=i) d) j) j j (ax (C.aj (b:=n) d) j),?_⟩;rw [U,h8,A.len,ic (by rw [hN];exact cF _)] at z;exact .inr ⟨s,by rw [A.len],z,d.as⟩
 rintro al w av d;obtain⟨k,v,q,O,Q,aw,rfl⟩:=av;refine⟨.tuple #[ab k,v,.bool true],λw F=>?_⟩;have d:=F.st d (cF _);refine⟨vn results270 j j (ax (C.aj (b:=g) d) j) j j (ax (C.aj (b:=i) d) j) j j (ax (C.aj (b:=n) d) j),?_⟩;exact .inl ⟨k,v,q,j,O,Q,aw,d.bare⟩
end Go.Proofs.YtmholjbhjcpkhaaGreatDoor.R
