/- Part 5 of the proof. -/
import Derived.Test.YtmholjbhjcpkhaaGreatDoorM4
set_option linter.unusedVariables false
set_option linter.unusedSimpArgs false
set_option linter.unusedSectionVars false
set_option maxRecDepth 20000
set_option maxHeartbeats 4000000
namespace Go.Proofs.YtmholjbhjcpkhaaGreatDoor.R
open Go.Proofs.Tryz Go Go.RowKit Go.Proofs
abbrev rcc(r:eg)(u:Value):List Value:=[ab r.p,ab r.e,ab r.t,ab r.s,u]
def eg.jJ(r:eg):Bool:=jL r.p r.e&&(kT r.t&&(decide (r.s>=0)&&(decide (r.s<=1048576)&&decide ((r.x.length:Int)<=200))))
def mi(r x:eg):Bool:=(x.p==r.p)&&((x.e==r.e)&&(x.s==r.s))
def mU(p e:Int)(x:eg):Bool:=(x.p==p)&&(x.e==e)
def oo(r:eg)(s:dJ):Bool:=(s.p==r.p)&&((s.e==r.e)&&((s.t==r.t)==(s.k !=0)))
def dQ.next(l:dQ)(r:eg):Int:=match l.cY.reverse.find? (mU r.p r.e) with
 |none=>0
 |some x=>IntKind.i64.wrap (x.s+1)
def dQ.fits(l:dQ)(r:eg):Int:=if r.s≠l.next r then 8 else if l.ch.any (oo r)=true then 6 else if 128<=l.cY.length then 3 else 0
def dQ.append(l:dQ)(r:eg):dQ×Int×Int:=
 if r.jJ=false then(l,0,1)
 else match aV l.eC r.p with
  |none=>(l,0,4)
  |some a=>if r.e<a then(l,0,5) else if r.e>a then(l,0,6)
   else match l.cY.findIdx? (mi r) with
    |some i=>if h:i<l.cY.length then(if l.cY[i].t≠r.t\/l.cY[i].x≠r.x then(l,0,1) else(l,(i:Int),0)) else(l,0,0)
    |none=>if l.fits r≠0 then(l,0,l.fits r)
     else({l with ch:=if(l.span r.p r.e r.t).isSome=true then l.ch else l.ch++[⟨r.p,r.e,r.t,(l.cY.length:Int),0⟩],cY:=l.cY++[r]},(l.cY.length:Int),0)
theorem jV.len:∀{us:List Value}{rs:List eg}{G:List Chunk},jV us rs G->us.length=rs.length
 |[],[],_,_=>rfl
 |[],_::_,_,h=>h.elim
 |_::_,[],_,h=>h.elim
 |_::us,_::rs,_,⟨_,_,_,_,h⟩=>by simp [h.len]
theorem jV.app:∀{us d:List Value}{rs c:List eg}{G a:List Chunk},jV us rs G->jV d c a->jV (us++d) (rs++c) (G++a)
 |[],_,[],_,_,_,h,b=>by have h:_=[]:=h;subst h;exact b
 |[],_,_::_,_,_,_,h,_=>h.elim
 |_::_,_,[],_,_,_,h,_=>h.elim
 |_::_,_,_::_,_,_,a,⟨af,aB,rfl,e,h⟩,b=>⟨af,aB++a,by simp [dS],e,h.app b⟩
theorem jV.one{u:Value}{r:eg}{G:List Chunk}(h:d6 u r.x G):jV [u] [r] G:=⟨G,[],by simp,h,j⟩
theorem jV.form:∀{us:List Value}{rs:List eg}{G:List Chunk},jV us rs G->∀(i:Nat)(a:i<rs.length),∃B c,us[i]? =some (.slice B rs[i].x.length c)/\rs[i].x.length<=c/\c<=maxLen/\∀w,Holds w G->Rd w B (aP rs[i].x)
 |[],[],_,_,i,a=>by simp at a
 |[],_::_,_,h,_,_=>h.elim
 |_::_,[],_,h,_,_=>h.elim
 |u::us,r::rs,_,⟨af,aB,rfl,hu,_⟩,0,_=>by
  obtain⟨B,c,rfl,b,d⟩:=Row.form hu;refine⟨B,c,j,b,d,λw g=>?_⟩;obtain⟨_,_,e,_,_,f,_⟩:=Row.read hu g.left;cases e;exact f
 |u::us,r::rs,_,⟨af,aB,rfl,_,h⟩,i+1,a=>by
  obtain⟨B,c,b,d,f,k⟩:=h.form i (by simpa using a);exact⟨B,c,by simpa using b,by simpa using d,f,λw g=>by simpa using k w g.right⟩
abbrev e0:Value×eg->List Value:=λe=>[ab e.2.p,ab e.2.e,ab e.2.t,ab e.2.s,e.1]
theorem F0(us:List Value)(rs:List eg):sj us rs=(us.zip rs).flatMap e0:=rfl
theorem Aj{us:List Value}{rs:List eg}(b:us.length=rs.length){i:Nat}(a:i<rs.length):(us.zip rs)[i]'(by rw [nW];omega)=(us[i]'(by omega),rs[i]):=List.getElem_zip
theorem Di{q:eg->Bool}{l:List eg}{i:Nat}(d:i<l.length)(f:q l[i]=true)(h:∀R(a:R<l.length),i<R->q l[R]=false):l.reverse.find? q=some l[i]:=by
 have e:l=l.take i++(l[i]::l.drop (i+1)):=by rw [<-jF d,ne]
 have b:l.reverse=(l.drop (i+1)).reverse++(l[i]::(l.take i).reverse):=by
  have:=aK List.reverse e;rw [this];simp
 rw [b,List.find?_append]
 have c:(l.drop (i+1)).reverse.find? q=none:=by
  rw [List.find?_eq_none];intro x g;obtain⟨R,a,rfl⟩:=tk.1 (List.mem_reverse.1 g);rw [iC] at a;rw [List.getElem_drop,h _ (by omega) (by omega)];decide
 rw [c];simp [f]
theorem Dj{q:eg->Bool}{l:List eg}(h:∀R(a:R<l.length),q l[R]=false):l.reverse.find? q=none:=by
 rw [List.find?_eq_none];intro x b;obtain⟨R,a,rfl⟩:=tk.1 (List.mem_reverse.1 b);rw [h R a];decide
theorem mA.form{v:Value}{l:List eg}{G:List Chunk}(t:mA v l G):∃(A:Option Addr)(c:Nat),v= .slice A l.length c/\l.length<=c/\c<=maxLen/\
 ∀n(aT:n<l.length),∃b I B aW,A=some ⟨b,I,none⟩/\l[n].x.length<=aW/\aW<=maxLen/\∀w,Holds w G->Rd w B (aP l[n].x)/\∀R z,R<5->(rcc l[n] (.slice B l[n].x.length aW))[R]? =some z->w.cell? ⟨b,I+n*5+R,none⟩=some z:=by
 obtain⟨ak,H,us,rfl,d,i⟩:=t;obtain⟨A,c,rfl,F,J⟩:=Row.form d;have D:=i.len;have K:∀e∈us.zip l,(e0 e).length=5:=λ_ _=>rfl
 have M:(us.zip l).length=l.length:=by rw [nW];omega
 refine⟨A,c,j,F,J,λn aT=>?_⟩;obtain⟨m,cap,cur,s,L,_⟩:=Row.block d (by omega);cases s;obtain⟨B,aW,g,o,p,q⟩:=i.form n aT
 have r:us[n]'(by omega)= .slice B l[n].x.length aW:=by
  rw [cr (by omega)] at g;exact hn g
 refine⟨m,0,B,aW,j,o,p,λw h=>⟨q w h.right,λR z y E=>?_⟩⟩;obtain⟨_,_,e,_,_,C,_⟩:=Row.read d h.left;cases e;obtain⟨a,u,k⟩:=C _ _ (iI (f:=e0) (us.zip l) K n (by omega) y (by rw [Aj D aT,r];exact E));cases u;rw [add_lit,<-q5] at k;exact k
theorem uf{a b:Int}(h: -9223372036854775808<=a-b)(c:a-b<9223372036854775808):evalBin .sub .i64 a b=some (.int .i64 (a-b)):=by
 have e:IntKind.i64.wrap (a-b)=a-b:=by rw [j3];omega
 show some (Value.int .i64 (IntKind.i64.wrap (a-b)))=_;rw [e]
theorem Dk{r:eg}(h:r.jJ=true):r.x.length<=200:=by
 unfold eg.jJ at h;simp only [d8] at h;have:=dV h.2.2.2.2;omega
theorem Bq{α:Type}{p:α->Bool}{l:List α}{i:Nat}(h:l.findIdx? p=some i):l.any p=true:=by
 obtain⟨a,b,_⟩:=pf.1 h;exact j2.2 ⟨_,eB a,b⟩
theorem Br{α:Type}{p:α->Bool}{l:List α}(h:l.findIdx? p=none):l.any p=false:=by
 rw [List.findIdx?_eq_none_iff] at h;rw [List.any_eq_false];exact λx a=>by rw [h x a];decide
theorem DW{o:World}{r:eg}{B:Option Addr}{aW:Nat}:Calls prog 170 #[.agg (rcc r (.slice B r.x.length aW)).toArray] o λz w=>z= .bool r.jJ/\C o [] [] w:=by
 have a:Own [] o:=C.start o;refine a6 func170 (bJ 2 a j j (λaC w a=>?_));have a:C o [] (J aC (rcc r (.slice B r.x.length aW)).toArray 169::_) w:=a;refine ar 4 j (ax (C.aj a) j) (ar 1 j (ax (C.aj a) j) (br 0 (uA (p:=r.p) (e:=r.e)) j (λw hw=>?_)));have hw:=hw.symm;subst hw;refine aq 1 j (c9 8 j (λeQ=>?_) (λeQ=>?_))
 .refine ar 1 j (ax (C.aj a) j) (br 0 (xU (t:=r.t)) j (λw hw=>?_));have hw:=hw.symm;subst hw;refine aq 2 j (c9 13 j (λb=>?_) (λb=>?_))
  .refine ar 1 j (ax (C.aj a) j) (aq 3 j (c9 18 j (λc=>?_) (λc=>?_)))
   .refine ar 1 j (ax (C.aj a) j) (aq 3 j (c9 23 j (λd=>?_) (λd=>?_)));refine ar 1 j (ax (C.aj a) j) (an 4 j j ?_);rotate_left
    refine an 6 j j ?_;rotate_left
    all_goals
     refine⟨aK Value.bool ?_,a.bare⟩;unfold eg.jJ;rw [eQ];rw [b];rw [c];rw [d];rfl
   refine an 11 j j (⟨aK Value.bool ?_,a.bare⟩);unfold eg.jJ;rw [eQ];rw [b];rw [c];rfl
  refine an 16 j j (⟨aK Value.bool ?_,a.bare⟩);unfold eg.jJ;rw [eQ];rw [b];rfl
 refine an 21 j j (⟨aK Value.bool ?_,a.bare⟩);unfold eg.jJ;rw [eQ];rfl
theorem Bc{o:World}{e:Nat}{r x:eg}{u:Value}{B:Option Addr}{aW:Nat}(d:o.heap[e]? =some (.cells (rcc r (.slice B r.x.length aW)).toArray 169 (0,0))):Calls prog 212 (#[]++ #[.agg (rcc x u).toArray]++ #[aa e]) o λz w=>z= .bool (mi r x)/\C o [] [] w:=by
 have a:Own [] o:=C.start o;refine a6 func212 (bJ 2 a j j (λaS w a=>ar 4 j (ax (C.aj a) j) (ar 1 j (ax (a.b8 d) j) (aq 2 j (c9 9 j (λb=>?_) (λb=>?_))))))
 .refine ar 1 j (ax (C.aj a) j) (ar 1 j (ax (a.b8 d) j) (aq 3 j (c9 16 j (λc=>?_) (λc=>?_))))
  .refine ar 1 j (ax (C.aj a) j) (ar 1 j (ax (a.b8 d) j) (an 3 j j (⟨aK Value.bool ?_,a.bare⟩)));unfold mi;rw [b,c];rfl
  refine an 7 j j (⟨aK Value.bool ?_,a.bare⟩);unfold mi;rw [b,c];rfl
 refine an 14 j j (⟨aK Value.bool ?_,a.bare⟩);unfold mi;rw [b];rfl
theorem FC{o:World}{e:Nat}{r:eg}{s:dJ}{B:Option Addr}{aW:Nat}(d:o.heap[e]? =some (.cells (rcc r (.slice B r.x.length aW)).toArray 169 (0,0))):Calls prog 214 (#[]++ #[.agg s.cs.toArray]++ #[aa e]) o λz w=>z= .bool (oo r s)/\C o [] [] w:=by
 have a:Own [] o:=C.start o;refine a6 func214 (bJ 2 a j j (λaS w a=>ar 4 j (ax (C.aj a) j) (ar 1 j (ax (a.b8 d) j) (aq 2 j (c9 9 j (λb=>?_) (λb=>?_))))))
 .refine ar 1 j (ax (C.aj a) j) (ar 1 j (ax (a.b8 d) j) (aq 3 j (c9 16 j (λc=>?_) (λc=>?_))))
  .refine ar 1 j (ax (C.aj a) j) (ar 1 j (ax (a.b8 d) j) (ar 2 j (ax (C.aj a) j) (an 4 j j (⟨aK Value.bool ?_,a.bare⟩))));unfold oo;rw [b,c];rfl
  refine an 11 j j (⟨aK Value.bool ?_,a.bare⟩);unfold oo;rw [b,c];rfl
 refine an 18 j j (⟨aK Value.bool ?_,a.bare⟩);unfold oo;rw [b];rfl
theorem DO{o:World}{ez:FuncId}[Entry prog ez]{be:Array Value}{q:eg->Bool}{T:World->Prop}(K:∀(g:World)(x:eg)(u:Value),T g->Calls prog ez (#[]++ #[.agg (rcc x u).toArray]++be) g (λr w=>r= .bool (q x)/\C g [] [] w))(I:∀w,C o [] [] w->T w){v:Value}{l:List eg}{G:List Chunk}(J:mA v l G)(D:Holds o G):Calls prog 211 #[v,.func (.func ez) #[] be] o λr w=>((∃i:Nat,r= .int .i64 (i:Nat)/\l.findIdx? q=some i)\/(r= .int .i64 (-1)/\l.findIdx? q=none))/\C o [] [] w:=by
 have a:Own [] o:=C.start o;obtain⟨ak,H,us,rfl,F,E⟩:=J;obtain⟨y,A,rfl,W,O,M,_⟩:=Row.read F D.left;have N:=E.len;have k:∀e∈us.zip l,(e0 e).length=5:=λ_ _=>rfl
 have X:(us.zip l).length=l.length:=by rw [nW];omega
 refine a6 func211 ?_
 refine dj 10 j (cU:=Nat) (λi=>[(0,.slice y l.length A),(1,.func (.func ez) #[] be),(7,.int .i64 (l.length:Nat)),(8,.int .i64 (i:Nat))])
  (λi w=>i<=l.length/\(∀R(n:R<l.length),R<i->q l[R]=false)/\C o [] [] w) (λi=>l.length-i) 0 ⟨j,j,j,j,bb⟩ ⟨cp _,λR _ h=>by omega,a⟩ ?_
 rintro i w ⟨V,d,a⟩;refine cy 4 j j (λz=>?_) (λz=>?_)
 .have b:i<l.length:=by omega
  have t:=a.rd M (cc.of_nil _ _);have m:=Aj N b;refine aq 12 j (fJ j j j j t (v:=ab l[i].p) (iI (f:=e0) (R:=0) (us.zip l) k i (by omega) (by decide) (by rw [m];rfl)) b (λQ B S=>?_));subst B;have s:=j6 (f:=e0) t k i (by omega);rw [m] at s;refine bP 0 (U:=rcc l[i] us[i]) j j j s (hx j j j j (K _ l[i] us[i] (I _ a)) (λr w⟨P,ad⟩=>?_));subst P;have a:=(a.aO ad).bare;refine bo 0 j j (λc=>?_) (λc=>?_)
  .exact an 4 j j ⟨.inl ⟨i,j,xo d b c⟩,a⟩
  refine bE 2 j j j (dn i (by unfold maxLen at O;omega)) (bW 1 j (⟨i+1,⟨j,j,j,j,bb⟩,⟨b,λR n L=>?_,a⟩,by omega⟩));rcases Nat.lt_succ_iff_lt_or_eq.1 L with h|rfl
  .exact d R n h
  exact c
 exact an 4 j j ⟨.inr ⟨j,xn d (by omega)⟩,a⟩
theorem wc{o:World}{be:Nat}{c:iz}{r:eg}{B:Option Addr}{aW:Nat}{G:List Chunk}{l:List eg}(m:o.heap[be]? =some (.cells (lcs c).toArray 139 (0,0)))(k:mA c.cY l G)(g:Holds o G):Calls prog 171 #[aa be,.agg (rcc r (.slice B r.x.length aW)).toArray] o λz w=>((∃i:Nat,z= .int .i64 (i:Nat)/\l.findIdx? (mi r)=some i)\/(z= .int .i64 (-1)/\l.findIdx? (mi r)=none))/\C o [] [] w:=by
 have a:Own [] o:=C.start o;refine a6 func171 (bJ 2 a j j (λd w a=>?_));have a:C o [] [J d (rcc r (.slice B r.x.length aW)).toArray 169] w:=a;refine ar 6 j (ax (a.b8 m) j) (gI j j j j ?_);have n:=DO (ez:=212) (be:= #[aa d]) (q:=mi r) (T:=λe=>e.heap[d]? =some (.cells (rcc r (.slice B r.x.length aW)).toArray 169 (0,0))) (λe x u h=>Bc h) (λe f=>f.b8 (C.aj (b:=d) a)) k (g.st a);refine bk 0 n j (λz w⟨s,p⟩=>?_);have a:=a.aO p;exact an 1 j j ⟨s,a.bare⟩
theorem Cy{o:World}{ez:FuncId}[Entry prog ez]{be:Array Value}{q:dJ->Bool}{T:World->Prop}(m:∀(e:World)(s:dJ),T e->Calls prog ez (#[]++ #[.agg s.cs.toArray]++be) e (λr w=>r= .bool (q s)/\C e [] [] w))(h:∀w,C o [] [] w->T w){v:Value}{l:List dJ}{G:List Chunk}(g:gk v l G)(f:Holds o G):Calls prog 215 #[v,.func (.func ez) #[] be] o λr w=>r= .bool (l.any q)/\C o [] [] w:=by
 have c:Own [] o:=C.start o;obtain⟨u,x,rfl,A,B,y,_⟩:=Row.read g f;refine a6 func215 ?_;have k:=xO m h g f;refine bk 7 k j (λz w⟨t,p⟩=>?_);have c:=c.aO p
 obtain⟨d,rfl,n⟩:∃d:Int,z= .int .i64 d/\l.any q=decide (d>=0):=by
  rcases t with⟨i,a,b⟩|⟨a,b⟩
  .exact⟨_,a,(Bq b).trans (hM (by omega)).symm⟩
  .exact⟨_,a,(Br b).trans (by decide)⟩
 exact an 2 j j ⟨aK Value.bool n.symm,c.bare⟩
theorem xY{o:World}{be:Nat}{c:iz}{p e:Int}{G:List Chunk}{l:List eg}(k:o.heap[be]? =some (.cells (lcs c).toArray 139 (0,0)))(x:mA c.cY l G)(u:Holds o G):Calls prog 213 #[aa be,ab p,ab e] o λz w=>((∃i:Nat,z= .int .i64 (i:Nat)/\∃B:i<l.length,l.reverse.find? (mU p e)=some l[i])\/(z= .int .i64 (-1)/\l.reverse.find? (mU p e)=none))/\w=o:=by
 obtain⟨D,F,q,K,C,y⟩:=x.form;have J:l.length<=9223372036854775807:=by unfold maxLen at C;omega
 refine a6 func213 (ar 9 j (ax k (aK some q)) (bE 1 j j j (v:=.int .i64 ((l.length:Int)-1)) (uf (by omega) (by omega)) ?_))
 refine dj 2 j (cU:=Nat) (λn=>[(0,aa be),(1,ab p),(2,ab e),(7,.int .i64 ((n:Int)-1))])
  (λn w=>n<=l.length/\(∀R(a:R<l.length),n<=R->mU p e l[R]=false)/\w=o) (λn=>n) l.length ⟨j,j,j,j,bb⟩ ⟨cF _,λR a h=>by omega,j⟩ ?_
 rintro n w ⟨B,f,hw⟩;have hw:=hw.symm;subst hw;refine cy 5 j j (λt=>?_) (λt=>?_)
 .refine ar 8 j (ax k (aK some q)) ?_;obtain⟨m,rfl⟩:∃m,n=m+1:=⟨n-1,by omega⟩;have b:m<l.length:=by omega
  obtain⟨H,go,E,cu,rfl,_,_,A⟩:=y m b;have s:=(A _ u).2;refine aq 1 j (bY 22 (.int .i64 (m:Nat)) j (aK (Value.int .i64) (by omega)) ?_);refine hy j j j j b (ar 1 j (s 0 _ (by decide) j) (aq 3 j (c9 28 j (λd=>?_) (λd=>?_))))
  .refine ar 3 j (ax k (aK some q)) (aq 1 j (bY 33 (.int .i64 (m:Nat)) j (aK (Value.int .i64) (by omega)) ?_));refine hy j j j j b (ar 1 j (s 1 _ (by decide) j) (bo 3 j j (λg=>?_) (λg=>?_)))
   .refine aq 2 j (bY 7 (.int .i64 (m:Nat)) j (aK (Value.int .i64) (by omega)) ?_);exact an 2 j j ⟨.inl ⟨m,j,b,Di b (by unfold mU;rw [d,g];rfl) (λR a I=>f R a (by omega))⟩,j⟩
   refine bE 3 j j j (v:=.int .i64 ((m:Int)-1)) (by rw [uf (by omega) (by omega)];exact aK (λz=>some (Value.int .i64 z)) (by omega)) (bW 1 j (⟨m,⟨j,j,j,j,bb⟩,⟨by omega,λR a r=>?_,j⟩,Nat.lt_succ_self m⟩));rcases Nat.eq_or_lt_of_le r with h|h
   .subst h;unfold mU;rw [d,g];rfl
   exact f R a h
  refine bE 15 j j j (v:=.int .i64 ((m:Int)-1)) (by rw [uf (by omega) (by omega)];exact aK (λz=>some (Value.int .i64 z)) (by omega)) (bW 1 j (⟨m,⟨j,j,j,j,bb⟩,⟨by omega,λR a r=>?_,j⟩,Nat.lt_succ_self m⟩));rcases Nat.eq_or_lt_of_le r with h|h
  .subst h;unfold mU;rw [d];rfl
  exact f R a h
 exact an 4 j j ⟨.inr ⟨j,Dj (λR a=>f R a (by omega))⟩,j⟩
theorem Dl{o:World}{be:Nat}{c:iz}{r:eg}{B:Option Addr}{aW:Nat}{G S:List Chunk}{l:dQ}(k:o.heap[be]? =some (.cells (lcs c).toArray 139 (0,0)))(y:mA c.cY l.cY G)(v:Holds o G)(D:gk c.ch l.ch S)(M:Holds o S):Calls prog 173 #[aa be,.agg (rcc r (.slice B r.x.length aW)).toArray] o λz w=>z=ab (l.fits r)/\C o [] [] w:=by
 have a:Own [] o:=C.start o;obtain⟨U,X,F,Z,ac,O⟩:=y.form;obtain⟨dP,W,E,_,_⟩:=Row.form D;refine a6 func173 (bJ 2 a j j (λt w a=>?_));have a:C o [] [J t (rcc r (.slice B r.x.length aW)).toArray 169] w:=a;refine ar 9 j (ax (C.aj a) j) (ar 1 j (ax (C.aj a) j) ?_);rcases n:l.cY.reverse.find? (mU r.p r.e) with _|x;have m:=xY (be:=be) (c:=c) (p:=r.p) (e:=r.e) (a.b8 k) y (v.st a);refine bk 0 m j (λz R⟨d,f⟩=>?_);have f:=f.symm;subst f;obtain⟨d,_⟩:=d.resolve_left (λ⟨_,_,_,h⟩=>by rw [n] at h;cases h);subst d;refine aq 9 j (bY 5 (ab (l.next r)) j (by unfold dQ.next;rw [n];rfl) ?_);rotate_left
 have m:=xY (be:=be) (c:=c) (p:=r.p) (e:=r.e) (a.b8 k) y (v.st a);refine bk 0 m j (λz R⟨d,f⟩=>?_);have f:=f.symm;subst f;obtain⟨i,d,H,I⟩:=d.resolve_right (λh=>by rw [n] at h;cases h.2);rw [n] at I;cases I;subst d;refine l3 5 j j ((hM (Int.natCast_nonneg i))) (ar 4 j (ax (a.b8 k) (aK some F)) ?_);obtain⟨Y,go,V,cu,rfl,_,_,P⟩:=O i H;refine aq 1 j (hy j j j j H ?_);refine ar 1 j ((P _ (v.st a)).2 3 _ (by decide) j) (aq 4 j (bY 5 (ab (l.next r)) j (by unfold dQ.next;rw [n];rfl) ?_));rotate_left
 all_goals
  refine gI j j j j (ar 6 j (ax (C.aj a) j) (bo 3 j j (λg=>?_) (λg=>?_)))
  .refine an 3 j j (⟨aK ab ?_,a.bare⟩);unfold dQ.fits;rw [aR (by simpa using g)]
  refine ar 5 j (ax (a.b8 k) (aK some E)) ?_;have m:=Cy (ez:=214) (be:= #[aa t]) (q:=oo r) (T:=λA=>A.heap[t]? =some (.cells (rcc r (.slice B r.x.length aW)).toArray 169 (0,0))) (λA s N=>FC N) (λA L=>L.b8 (C.aj (b:=t) a)) (E▸D) (M.st a);refine br 1 m j (λw Q=>?_);have a:=a.aO Q;refine bo 1 j j (λu=>?_) (λu=>?_)
  .refine an 3 j j (⟨aK ab ?_,a.bare⟩);unfold dQ.fits;rw [az (by simpa using g),if_pos u]
  refine ar 5 j (ax (a.b8 k) (aK some F)) (cy 3 j j (λK=>?_) (λK=>?_))
  .refine an 3 j j (⟨aK ab ?_,a.bare⟩);unfold dQ.fits;rw [az (by simpa using g),if_neg (by rw [u];decide),if_pos (by omega)]
  refine an 4 j j (⟨aK ab ?_,a.bare⟩);unfold dQ.fits;rw [az (by simpa using g),if_neg (by rw [u];decide),if_neg (by omega)]
theorem Bw{o:World}{be:Nat}{l:dQ}{G:List Chunk}{r:eg}{B:Option Addr}{aW:Nat}(aH:kh be l G)(bi:l.ch.length<=1000000)(bj:l.cY.length<=1000000)(aS:Rd o B (aP r.x))(ap:cc B (aP r.x) (au [G]))(bt:r.x.length<=aW)(a:Own [G] o):Calls prog 122 #[aa be,.agg (rcc r (.slice B r.x.length aW)).toArray] o λz w=>z= .tuple #[ab (l.append r).2.1,ab (l.append r).2.2]/\∃af,kh be (l.append r).1 af/\C o (au [G]) [af] w:=by
 have P:=aH;obtain⟨c,ak,S,E,D,rfl⟩:=aH;obtain⟨d,aE⟩:∃d,d=au [dH be c++(ak++(S++E))]:=⟨_,j⟩;rw [<-aE] at ap⊢;have a:C o d [dH be c++(ak++(S++E))] o:=aE▸a;have a:=a.u9;obtain⟨aA,g,aJ,rfl,aN⟩:=D.eC;obtain⟨a9,bd,W,bp,bs,aZ⟩:=D.cY.form;obtain⟨dP,bb,aL,bm,bn⟩:=Row.form D.ch
 have a0:(aV (lY l.eC) r.p).getD (ab 0)=ab ((aV l.eC r.p).getD 0):=by
  unfold lY;rw [mR];cases aV l.eC r.p<;>rfl
 have aM:(aV (lY l.eC) r.p).isSome=(aV l.eC r.p).isSome:=by
  unfold lY;rw [mR];cases aV l.eC r.p<;>rfl
 refine a6 func122 (bJ 2 a j j (λf w a=>?_));have a:C o d [J f (rcc r (.slice B r.x.length aW)).toArray 169,dH be c,ak,S,[(aA,g)]] w:=a;refine aq 8 j (bY 13 (.bool false) j (aK Value.bool (j)) ?_);refine bP 0 (U:=rcc r (.slice B r.x.length aW)) j j j (bq (C.aj (b:=f) a)) ?_;have F:=DW (o:=w) (r:=r) (B:=B) (aW:=aW);refine br 0 F j (λw y=>?_);have a:=a.aO y;have a:C o d [J f (rcc r (.slice B r.x.length aW)).toArray 169,dH be c,ak,S,[(aA,g)]] w:=a.as;refine bo 2 j j (λah=>?_) (λah=>?_)
 .refine an 4 j j ?_
  have q:l.append r=(l,0,1):=by
   unfold dQ.append;rw [aR (by simpa using ah)]
  rw [q];have a:C o d [dH be c,ak,S,[(aA,g)]] _:=a.as;exact⟨j,_,P,a.iK⟩
 have a:C o d ([J f (rcc r (.slice B r.x.length aW)).toArray 169,dH be c,ak,S,[(aA,g)]]++_) _:=a.front;have a:=a.drew;have K:r.jJ=true:=by simpa using ah
 refine bx 2 j (λw=>∃ae,C o d ([J f (rcc r (.slice B r.x.length aW)).toArray 169,dH be c,ak,S,[(aA,g)]]++ae) w) ⟨_,a⟩ (ag 0 3 j (a8 3 j a2 (aK some aJ) (ag 4 1 j (a8 5 j a2 j (bl 6 j (λw⟨_,a⟩=>sX (key:=bG) (k:=r.p) aN (C.aj (b:=aA) a) j j) (ag 7 5 j (bL (bo 7 j j (λai=>?_) (λai=>?_)))))))))
 .refine an 4 j j ?_
  have q:l.append r=(l,0,4):=by
   unfold dQ.append;rw [az (by rw [K];decide)];rw [show aV l.eC r.p=none from Option.isNone_iff_eq_none.1 (by have V:(aV l.eC r.p).isSome=false:=aM.symm.trans (by simpa using ai);cases a4:aV l.eC r.p with|none=>rfl|some _=>rw [a4] at V;cases V)]
  rw [q];have a:C o d [dH be c,ak,S,[(aA,g)]] _:=a.as;exact⟨j,_,P,a.iK⟩
 obtain⟨am,M⟩:∃am,aV l.eC r.p=some am:=g8.1 (aM.symm.trans (by simpa using ai));refine aq 2 j (bY 6 (ab am) j (a0.trans (by rw [M];rfl)) ?_);refine ar 1 j (ax (C.aj a) j) (cy 3 j j (λL=>?_) (λL=>?_))
 .refine an 4 j j ?_
  have q:l.append r=(l,0,5):=by
   unfold dQ.append;rw [az (by rw [K];decide)];rw [M];dsimp only;rw [aR L]
  rw [q];have a:C o d [dH be c,ak,S,[(aA,g)]] _:=a.as;exact⟨j,_,P,a.iK⟩
 refine ar 3 j (ax (C.aj a) j) (cy 3 j j (λO=>?_) (λO=>?_))
 .refine an 4 j j ?_
  have q:l.append r=(l,0,6):=by
   unfold dQ.append;rw [az (by rw [K];decide)];rw [M];dsimp only;rw [az L,aR O]
  rw [q];have a:C o d [dH be c,ak,S,[(aA,g)]] _:=a.as;exact⟨j,_,P,a.iK⟩
 refine bP 5 (U:=rcc r (.slice B r.x.length aW)) j j j (bq (C.aj (b:=f) a)) ?_;rcases I:l.cY.findIdx? (mi r) with _|aw
 .have F:=wc (be:=be) (c:=c) (r:=r) (B:=B) (aW:=aW) (C.aj (b:=be) a) D.cY (a.holds (G:=ak) (by simp));refine bk 0 F j (λz w⟨v,y⟩=>?_);obtain⟨v,_⟩:=v.resolve_left (λ⟨_,_,h⟩=>by rw [I] at h;cases h);subst v;have a:=a.aO y;have a:C o d [J f (rcc r (.slice B r.x.length aW)).toArray 169,dH be c,ak,S,[(aA,g)]] w:=a.as;refine bP 11 (U:=rcc r (.slice B r.x.length aW)) j j j (bq (C.aj (b:=f) a)) ?_;have F:=Dl (l:=l) (r:=r) (B:=B) (aW:=aW) (C.aj (b:=be) a) D.cY (a.holds (G:=ak) (by simp)) D.ch (a.holds (G:=S) (by simp));refine br 0 F j (λw y=>?_);have a:=a.aO y;have a:C o d [J f (rcc r (.slice B r.x.length aW)).toArray 169,dH be c,ak,S,[(aA,g)]] w:=a.as;refine bo 5 j j (λal=>?_) (λal=>?_)
  .refine an 5 j j ?_
   have q:l.append r=(l,0,l.fits r):=by
    unfold dQ.append;rw [az (by rw [K];decide)];rw [M];dsimp only;rw [az L,az O];rw [I];dsimp only;rw [aR (by simpa using al)]
   rw [q];have a:C o d [dH be c,ak,S,[(aA,g)]] _:=a.as;exact⟨j,_,P,a.iK⟩
  refine ar 6 j (ax (C.aj (b:=be) a) (aK some W)) (ar 7 j (ax (C.aj (b:=f) a) j) (ar 1 j (ax (C.aj (b:=f) a) j) (ar 1 j (ax (C.aj (b:=f) a) j) ?_)));rcases Z:l.span r.p r.e r.t with _|a7;have F:=ox (be:=be) (c:=c) (p:=r.p) (e:=r.e) (t:=r.t) (C.aj (b:=be) a) D.ch (a.holds (G:=S) (by simp));refine bk 0 F j (λz w⟨v,y⟩=>?_);obtain⟨v,_⟩:=v.resolve_left (λ⟨_,_,h⟩=>by rw [show l.ch.findIdx? (kB r.p r.e r.t)=none from Z] at h;cases h);subst v;have a:=a.aO y;have a:C o d [J f (rcc r (.slice B r.x.length aW)).toArray 169,dH be c,ak,S,[(aA,g)]] w:=a.as;have a:C o d ([J f (rcc r (.slice B r.x.length aW)).toArray 169,dH be c,ak,[(aA,g)]]++_) _:=a.front;have a:=a.drew;refine bx 2 j (λw=>∃ae,C o d ([J f (rcc r (.slice B r.x.length aW)).toArray 169,dH be c,ak,[(aA,g)]]++ae) w) ⟨_,a⟩ (ag 0 4 j (a8 4 j a2 (aK some aL) (ag 5 1 j (a8 6 j a2 j (ag 7 1 j (a8 8 j a2 j (ag 9 1 j (a8 10 j a2 j (ag 11 1 j (bl 12 j (λw _=>eX (c:=(⟨r.p,r.e,r.t,(l.cY.length:Int),0⟩:dJ).cs.toArray) j (λ_=>by kernel_rfl)) (aX 13 j (gj (U:=(⟨r.p,r.e,r.t,(l.cY.length:Int),0⟩:dJ).cs) a j j j j bO bO (λaU w a=>?_)))))))))))));have aT:=bq (C.aj (b:=aU) a);have a:C o d ([J f (rcc r (.slice B r.x.length aW)).toArray 169,dH be c,ak,[(aA,g)]]++_) w:=a.front;refine ao ⟨⟨_,a⟩,?_⟩;refine aX 14 j (e6 (a.to S) (aL▸D.ch) j j (by decide) j j j (m:=1) (news:=(⟨r.p,r.e,r.t,(l.cY.length:Int),0⟩:dJ).cs) j aT (vs [(⟨r.p,r.e,r.t,(l.cY.length:Int),0⟩:dJ)]) (by omega) (by unfold maxLen;omega) (λv1 ac w Q a=>?_));have Q:Row 307 5 v1 (l.ch.length+1) (l.ch.flatMap dJ.cs++(⟨r.p,r.e,r.t,(l.cY.length:Int),0⟩:dJ).cs) ac:=Q
  have Q:gk v1 (l.ch++[(⟨r.p,r.e,r.t,(l.cY.length:Int),0⟩:dJ)]) ac:=by
   unfold gk;rw [cj,List.flatMap_append];simpa using Q
  have a:C o d ([J f (rcc r (.slice B r.x.length aW)).toArray 169,dH be c,ak,[(aA,g)]]++_) w:=a.front;refine ao ⟨⟨_,a⟩,?_⟩;refine ag 15 2 j (dK 17 j (cO (a.bc be) j j j (Row.one Q) bO (λw a=>?_)));have a:C o d (dH be ({c with ch:=v1})::_) w:=a;refine ao (c5 ?_);obtain⟨dy,H,n,aC,aB,aG,aQ,a1,a⟩:∃(dy:iz)(H:List dJ)(n:List Chunk),dy.cY=c.cY/\dy.eC=c.eC/\(if(l.span r.p r.e r.t).isSome=true then l.ch else l.ch++[(⟨r.p,r.e,r.t,(l.cY.length:Int),0⟩:dJ)])=H/\gk dy.ch H n/\H.length<=l.ch.length+1/\C o d [J f (rcc r (.slice B r.x.length aW)).toArray 169,dH be dy,ak,n,[(aA,g)]] w:=⟨{c with ch:=v1},l.ch++[(⟨r.p,r.e,r.t,(l.cY.length:Int),0⟩:dJ)],ac,j,j,az (by rw [Z];decide),Q,by rw [cj,List.length_singleton];omega,a.as⟩;refine ar 3 j (ax (C.aj (b:=f) a) j) ?_;rotate_left
  have F:=ox (be:=be) (c:=c) (p:=r.p) (e:=r.e) (t:=r.t) (C.aj (b:=be) a) D.ch (a.holds (G:=S) (by simp));refine bk 0 F j (λz w⟨v,y⟩=>?_);obtain⟨bu,v,_⟩:=v.resolve_right (λh=>by rw [show l.ch.findIdx? (kB r.p r.e r.t)=some a7 from Z] at h;cases h.2);subst v;have a:=a.aO y;have a:C o d [J f (rcc r (.slice B r.x.length aW)).toArray 169,dH be c,ak,S,[(aA,g)]] w:=a.as;refine ij 1 j j ((e7 (by omega))) ?_;obtain⟨dy,H,n,aC,aB,aG,aQ,a1,a⟩:∃(dy:iz)(H:List dJ)(n:List Chunk),dy.cY=c.cY/\dy.eC=c.eC/\(if(l.span r.p r.e r.t).isSome=true then l.ch else l.ch++[(⟨r.p,r.e,r.t,(l.cY.length:Int),0⟩:dJ)])=H/\gk dy.ch H n/\H.length<=l.ch.length+1/\C o d [J f (rcc r (.slice B r.x.length aW)).toArray 169,dH be dy,ak,n,[(aA,g)]] w:=⟨c,l.ch,S,j,j,aR (by rw [Z];rfl),D.ch,ev _,a.as⟩;refine ar 4 j (ax (C.aj (b:=f) a) j) ?_;rotate_left
  all_goals
   refine bk 0 (gN (c:=aW) (a.rd aS ap) (by have:=Dk K;omega)) j (λz w⟨N,aF,y⟩=>?_);obtain⟨s,bN,rfl,_,_⟩:=aF.form;have a:=a.aO y;refine dE 1 (a.bc f) j j j j (λw a=>?_);have a:C o d (J f (rcc r (.slice s r.x.length bN)).toArray 169::_) w:=a;have a:C o d ([J f (rcc r (.slice s r.x.length bN)).toArray 169,dH be dy,n,[(aA,g)]]++_) _:=a.front;have a:=a.drew;refine bx 1 j (λw=>∃ae,C o d ([J f (rcc r (.slice s r.x.length bN)).toArray 169,dH be dy,n,[(aA,g)]]++ae) w) ⟨_,a⟩ (ag 0 4 j (a8 4 j a2 (aK some (aC.trans W)) (bl 5 j (λw⟨_,a⟩=>dd (U:=rcc r (.slice s r.x.length bN)) j j j (bq (C.aj (b:=f) a))) (aX 6 j (gj (U:=rcc r (.slice s r.x.length bN)) a j j j j bO bO (λad w a=>?_))))));have aT:=bq (C.aj (b:=ad) a);have a:C o d ([J f (rcc r (.slice s r.x.length bN)).toArray 169,dH be dy,n,[(aA,g)]]++_) w:=a.front;refine ao ⟨⟨_,a⟩,?_⟩;refine aX 7 j ?_;obtain⟨ay,H1,us,rfl,aY,aD⟩:=D.cY;have a:C o d [ay,H1,J f (rcc r (.slice s r.x.length bN)).toArray 169,dH be dy,n,[(aA,g)],N,J ad (rcc r (.slice s r.x.length bN)).toArray 169] w:=C.perm (A:=[ay++H1,J f (rcc r (.slice s r.x.length bN)).toArray 169,dH be dy,n,[(aA,g)],N,J ad (rcc r (.slice s r.x.length bN)).toArray 169]) a.as (by simp);refine e6 a (W▸aY) j j (by decide) j j j (m:=1) (news:=rcc r (.slice s r.x.length bN)) j aT (by intro u hu;simp at hu;rcases hu with rfl|rfl|rfl|rfl|rfl<;>rfl) (by omega) (by unfold maxLen;omega) (λv2 T w aI a=>?_);have a3:v2.oneCell'=true:=Row.one aI
   have a5:mA v2 (l.cY++[r]) (T++(H1++N)):=by
    refine⟨T,H1++N,us++[(.slice s r.x.length bN)],j,?_,aD.app (jV.one aF)⟩;rw [cj,List.length_singleton]
    have e:sj (us++[(.slice s r.x.length bN)]) (l.cY++[r])=sj us l.cY++rcc r (.slice s r.x.length bN):=by
     rw [F0,List.zip_append aD.len,List.flatMap_append];simp
    rw [e];exact aI
   have a:C o d ([J f (rcc r (.slice s r.x.length bN)).toArray 169,dH be dy,n,[(aA,g)]]++_) w:=a.front;refine ao ⟨⟨_,a⟩,?_⟩;refine ag 8 2 j (dK 10 j (cO (a.bc be) j j j a3 bO (λw a=>?_)));have a:C o d (dH be {dy with cY:=v2}::_) w:=a;refine ao (c5 (an 5 j j ?_))
   have q:l.append r=({l with ch:=H,cY:=l.cY++[r]},(l.cY.length:Int),0):=by
    unfold dQ.append;rw [az (by rw [K];decide)];rw [M];dsimp only;rw [az L,az O];rw [I];dsimp only;rw [az (by simpa using al),aG]
   rw [q];have a:C o d [dH be {dy with cY:=v2},T,H1,N,n,[(aA,g)]] w:=a.as;exact⟨j,_,⟨{dy with cY:=v2},T++(H1++N),n,[(aA,g)],⟨a5,aQ,⟨aA,g,aB.trans aJ,j,aN⟩⟩,j⟩,C.iK (C.perm (A:=[dH be {dy with cY:=v2},T,H1,N,n,[(aA,g)]]) a (by simp))⟩
 have F:=wc (be:=be) (c:=c) (r:=r) (B:=B) (aW:=aW) (C.aj (b:=be) a) D.cY (a.holds (G:=ak) (by simp));refine bk 0 F j (λz w⟨v,y⟩=>?_);obtain⟨i,v,V⟩:=v.resolve_right (λh=>by rw [I] at h;cases h.2);rw [I] at V;cases V;obtain⟨R,_,_⟩:=pf.1 I;subst v;have a:=a.aO y;have a:C o d [J f (rcc r (.slice B r.x.length aW)).toArray 169,dH be c,ak,S,[(aA,g)]] w:=a.as;refine l3 5 j j ((hM (Int.natCast_nonneg aw))) ?_;have a:C o d ([J f (rcc r (.slice B r.x.length aW)).toArray 169,dH be c,ak,S,[(aA,g)]]++_) _:=a.front;obtain⟨bf,go,ba,cu,rfl,bg,bh,av⟩:=aZ aw R;have a:=a.drew;refine bx 2 j (λw=>∃ae,C o d ([J f (rcc r (.slice B r.x.length aW)).toArray 169,dH be c,ak,S,[(aA,g)]]++ae) w) ⟨_,a⟩ (ag 0 3 j (a8 3 j a2 (aK some W) (ag 4 1 j (bl 5 j (λw _=>g4 j j R) (ag 6 1 j (b4 7 j (λw⟨_,a⟩=>(av _ (a.holds (G:=ak) (by simp))).2 2 _ (by decide) j) (ag 8 1 j (a8 9 j a2 j (ag 10 2 j (ek 57 j (λX=>?_) (λX=>?_)))))))))))
 .refine ag 12 13 j (bL (an 5 j j ?_))
  have q:l.append r=(l,0,1):=by
   unfold dQ.append;rw [az (by rw [K];decide)];rw [M];dsimp only;rw [az L,az O];rw [I];dsimp only;rw [mK R];refine aR ?_;first|exact .inl (by simpa using X)|exact .inr (by simpa using Y)
  rw [q];have a:C o d [dH be c,ak,S,[(aA,g)]] _:=a.as;exact⟨j,_,P,a.iK⟩
 refine ag 12 3 j (a8 15 j a2 (aK some W) (ag 16 1 j (bl 17 j (λw _=>g4 j j R) (ag 18 1 j (b4 19 j (λw⟨_,a⟩=>(av _ (a.holds (G:=ak) (by simp))).2 4 _ (by decide) j) (ag 20 1 j (a8 21 j a2 j (aX 22 j (bK j j j (pF (av _ (a.holds (G:=ak) (by simp))).1 (a.rd aS ap)) (λw hw=>?_))))))))));subst hw;refine ao ⟨⟨_,a⟩,?_⟩;refine ag 23 2 j (bL (bo 0 j j (λY=>?_) (λY=>?_)));refine an 4 j j ?_
 have q:l.append r=(l,0,1):=by
  unfold dQ.append;rw [az (by rw [K];decide)];rw [M];dsimp only;rw [az L,az O];rw [I];dsimp only;rw [mK R];refine aR ?_;first|exact .inl (by simpa using X)|exact .inr (by simpa using Y)
 rotate_left
 refine an 6 j j ?_
 have q:l.append r=(l,(aw:Int),0):=by
  unfold dQ.append;rw [az (by rw [K];decide)];rw [M];dsimp only;rw [az L,az O];rw [I];dsimp only;rw [mK R];refine az (λh=>?_);rcases h with h|h
  .exact h (by simpa using X)
  .exact h (by simpa using Y)
 rotate_left
 all_goals
  rw [q];have a:C o d [dH be c,ak,S,[(aA,g)]] _:=a.as;exact⟨j,_,P,a.iK⟩
def bw.jk(e:bw)(n:Int):bw×Int:=match aV e.parts n with
 |none=>(e,6)
 |some q=>if q.out.isNone=true then(e,6) else({e with parts:=bV e.parts n {q with out:=none}},0)
def bw.waits(e:bw):Bool:=e.parts.any λp=>p.2.out.isSome
def bw.end_(e:bw)(c:Bool):bw×bD×Int:=
 if e.df=false\/e.waits=true then(e,c7,6)
 else if 1048576<e.next then(e,c7,7)
 else({e with next:=e.next+1,df:=false},⟨3,e.number,e.next,[],e.prod,e.b3,e.last,0,c⟩,0)
def bw.fQ(e:bw):Int:=if e.df=true then e.last else e.last+1
def bw.gs(e:bw)(n:Int):bw×bD×Int:=
 if e.known=false then(e,c7,6)
 else match aV e.parts n with
  |none=>(e,c7,1)
  |some q=>if e.df=false/\100<=e.last then(e,c7,7)
   else if 1048576<e.next then(e,c7,7)
   else({e with next:=e.next+1,last:=e.fQ,df:=true,parts:=bV e.parts n {q with begun:=e.fQ}},⟨2,e.number,e.next,[],e.prod,e.b3,e.fQ,n,false⟩,0)
theorem yT(l:List (Int×g6))(n:Int):aV l n=none\/(∃q,aV l n=some q/\q.out=none)\/∃q r,aV l n=some q/\q.out=some r:=by
 cases b:aV l n with
 |none=>exact .inl j
 |some q=>
  cases a:q.out with
  |none=>exact .inr (.inl ⟨q,j,a⟩)
  |some r=>exact .inr (.inr ⟨q,r,j,a⟩)
theorem Ba{o:World}{aA:Nat}{e:bw}{G:List Chunk}{n:Int}(O:hk aA e G)(a:Own [G] o):Calls prog 66 #[aa aA,ab n] o λr w=>r=ab (e.jk n).2/\∃af,hk aA (e.jk n).1 af/\C o (au [G]) [af] w:=by
 obtain⟨u,bI,F,rfl⟩:=O;have K:hk aA e (bA aA e u++bI):=⟨u,bI,F,j⟩;obtain⟨c,E⟩:∃c,c=au [bA aA e u++bI]:=⟨_,j⟩;rw [<-E];have a:C o c [bA aA e u++bI] o:=E▸a;obtain⟨am,ah,I,Q,H,rfl,hm,D,rfl⟩:=F;have a:C o c [bA aA e (aa am),ay 235 am ah I,H] o:=C.perm (B:=[bA aA e (aa am),ay 235 am ah I,H]) a (by simp);refine a6 func66 (ar 15 j (ax (C.aj (b:=aA) a) j) (aq 1 j ?_));rcases yT e.parts n with f|⟨q,f,v⟩|⟨q,ro,f,v⟩
 .have l:=mN (k:=n) (dI.own (a.to (ay 235 am ah I)) hm);refine bk 0 l j (λr w⟨g,m⟩=>?_);have a:=a.aO m;have P:=D.mT f;simp only [P,qQ,qR] at g;subst g;have a:C o c [bA aA e (aa am),ay 235 am ah I,H] w:=a.as;refine aq 11 j (bY 20 (.bool true) j (aK Value.bool (j)) ?_);refine an 10 j j ?_;have i:e.jk n=(e,6):=by unfold bw.jk;rw [f]
  rw [i];have a:C o c [bA aA e (aa am),ay 235 am ah I,H] w:=a.as;exact⟨j,_,K,C.perm (A:=[bA aA e (aa am),ay 235 am ah I,H]) a (by simp)⟩
 .have l:=mN (k:=n) (dI.own (a.to (ay 235 am ah I)) hm);refine bk 0 l j (λr w⟨g,m⟩=>?_);have a:=a.aO m;obtain⟨v0,H1,N,d,z,rfl,⟨aL,pu,y,rfl,h,rfl⟩,L⟩:=D.find f;simp only [z,lO,nO] at g;subst g;obtain⟨rfl,rfl⟩:pu= .pointer none/\y=[]:=by unfold mz at h;rw [v] at h;exact h
  have a:C o c [bA aA e (aa am),ay 235 am ah I,H1,dX aL q (.pointer none),[],d] w:=C.perm (A:=[bA aA e (aa am),ay 235 am ah I,H1++((dX aL q (.pointer none)++([]))++d)]) a.as (by simp);refine aq 11 j (bY 20 (.bool false) j (aK Value.bool (j)) ?_);refine ar 3 j (ax (C.aj (b:=aL) a) j) (an 6 j j ?_);have i:e.jk n=(e,6):=by unfold bw.jk;rw [f];exact if_pos (by rw [v];rfl)
  rw [i];have a:C o c [bA aA e (aa am),ay 235 am ah I,H1,dX aL q (.pointer none),[],d] w:=a.as;exact⟨j,_,K,C.perm (A:=[bA aA e (aa am),ay 235 am ah I,H1,dX aL q (.pointer none),[],d]) a (by simp)⟩
 have l:=mN (k:=n) (dI.own (a.to (ay 235 am ah I)) hm);refine bk 0 l j (λr w⟨g,m⟩=>?_);have a:=a.aO m;obtain⟨v0,H1,N,d,z,rfl,⟨aL,pu,y,rfl,h,rfl⟩,L⟩:=D.find f;simp only [z,lO,nO] at g;subst g;obtain⟨b2,M,af,rfl,R,rfl⟩:∃b u af,pu=aa b/\d6 u ro.x af/\y=J b #[ab ro.p,ab ro.e,ab ro.t,ab ro.s,u] 169++af:=by unfold mz at h;rw [v] at h;exact h
 have a:C o c [bA aA e (aa am),ay 235 am ah I,H1,dX aL q (aa b2),J b2 #[ab ro.p,ab ro.e,ab ro.t,ab ro.s,M] 169++af,d] w:=C.perm (A:=[bA aA e (aa am),ay 235 am ah I,H1++((dX aL q (aa b2)++(J b2 #[ab ro.p,ab ro.e,ab ro.t,ab ro.s,M] 169++af))++d)]) a.as (by simp);refine aq 11 j (bY 20 (.bool false) j (aK Value.bool (j)) ?_);refine ar 3 j (ax (C.aj (b:=aL) a) j) (dE 9 (a.bc aL) j j j j (λw a=>?_));have a:C o c (dX aL ({q with out:=none}) (.pointer none)::_) w:=a;refine an 3 j j ?_;have i:e.jk n=({e with parts:=bV e.parts n ({q with out:=none})},0):=by unfold bw.jk;rw [f];exact if_neg (by rw [v];simp)
 rw [i];have a:C o c [bA aA e (aa am),ay 235 am ah I,H1,dX aL ({q with out:=none}) (.pointer none),[],d] w:=a.empty.as;exact⟨j,_,⟨_,_,⟨am,ah,I,Q,_,j,hm,L _ _ ⟨aL,.pointer none,[],j,⟨j,j⟩,j⟩,j⟩,j⟩,C.perm (A:=[bA aA e (aa am),ay 235 am ah I,H1,dX aL ({q with out:=none}) (.pointer none),[],d]) a (by simp)⟩
theorem mz.ptr{v:Value}{r:Option eg}{G:List Chunk}(h:mz v r G):∃p,v= .pointer p/\p.isSome=r.isSome:=by
 unfold mz at h;cases r with
 |none=>exact⟨none,h.1,j⟩
 |some r=>obtain⟨b,u,af,a,_⟩:=h;exact⟨_,a,j⟩
theorem wm{α:Type}(l:List (Int×α))(p:Int×α->Bool):(cW l).any p=l.any p:=by
 rw [lk,j2,j2];exact⟨λ⟨x,a,b⟩=>⟨x,g7.1 a,b⟩,λ⟨x,a,b⟩=>⟨x,g7.2 a,b⟩⟩
theorem Bp{α:Type}{l t1 t2:List (Int×α)}{q:Int×α}{p:Int×α->Bool}(h:cW l=t1++q::t2)(a:p q=true):l.any p=true:=by
 rw [<-wm,h];simp [a]
theorem bw.r5(e:bw)(I:bD):(e.op I).1.prod=e.prod/\(e.op I).1.b3=e.b3/\(e.op I).1.last=e.last/\(e.op I).1.df=e.df/\(e.op I).1.parts=e.parts:=by
 unfold bw.op;split<;>exact⟨j,j,j,j,j⟩
theorem HC{o:World}{aA am ah:Nat}{e:bw}{I:Obj}{m:List (Int×Value)}{H:List Chunk}(Q:o.heap[aA]? =some (.cells (rC e (aa am)).toArray 76 (0,0)))(hm:cf bG I m)(q:c4 m6 m e.parts H)(i:Holds o (ay 235 am ah I++H))(ac:e.parts.length<=1000000):Calls prog 67 #[aa aA] o λr w=>r= .bool e.waits/\C o [] [] w:=by
 have c:Own [] o:=C.start o;obtain⟨a,t⟩:∃a:Option Addr,a=some ⟨am,0,none⟩:=⟨_,j⟩;have N:dI 235 o a m:=.inr ⟨am,ah,I,t,i (am,_) (by simp),i (ah,I) (by simp),hm⟩;refine jH func67 (cx 2 c j (λaS w c=>?_));have c:C o [] [J aS #[.bool false] 4] w:=c;refine ar 6 j (ax (c.b8 Q) (aK (λz=>some (Value.pointer z)) t.symm)) ?_;have R:=Bk (o:=w) (p:=a);refine bk 0 R j (λr w⟨A,B,T,ad⟩=>?_);subst T;have M:=(N.st c).st ad;have c:=c.aO ad;have c:C o [] ([J A #[.pointer a] 74,[(B,.cells #[.func (.func 176) #[] #[]] 52 (0,0))]]++[J aS #[.bool false] 4]) w:=c
 refine jM 1 j (FT (by have ab:=q.len;omega)) j (by have:=c.size;simpa using this) c j (λ_=>rfl) (by intro p u;simp at u;rcases u with rfl|rfl<;>rfl)
  (λpre ae=>ae=[J aS #[.bool false] 4]/\((cW e.parts).take pre.length).any (λp:Int×g6=>p.2.out.isSome)=false) (λg ae=>match g with| .ret=>e.waits=true/\ae=[J aS #[.bool true] 4]|_=>False) ⟨j,j⟩ (λL aJ F=>M.st F) (λ_ _ _ _=>trivial) ?_ ?_ ?_ (λ_ _ _ h=>h.elim)
 .rintro y pre ⟨af,ag⟩ Y L ai E ⟨rfl,d⟩ c;obtain⟨t1,t2,s,W,Z,X,k,x,S,O⟩:=q.nC E;obtain⟨aL,pu,V,rfl,G,rfl⟩:=O;obtain⟨pp,rfl,v⟩:=G.ptr;have l:o.heap[aL]? =some (.cells (vg s (.pointer pp)).toArray 167 (0,0)):=((i.right.perm S).right.left) (aL,_) (by simp);have c:=C.gg c;refine bH 2 j (⟨j,_,c,λL ak c=>?_⟩);have l:=c.b8 l;have c:=C.gg c;refine ar 6 j (ax l j) (bo 1 j j (λf=>?_) (λf=>?_))
  .refine dE 2 (c.bc aS) j j j j (λw c=>?_);have c:C _ _ (J aS #[.bool true] 4::_) w:=c;exact bH 0 j ⟨[J aS #[.bool true] 4],c.as,Bp k (show s.out.isSome=true by rw [<-v];simpa using f),j⟩
  refine bH 1 j (⟨[J aS #[.bool false] 4],c.as,j,?_⟩);rw [cj,List.length_singleton,k,<-x];rw [k,<-x,lQ] at d;rw [o9,List.take_of_length_le (by omega)];have g:s.out.isSome=false:=by rw [<-v];simpa using f
  simp [d,g]
 .rintro xs D w K ⟨rfl,d⟩ c;have c:C o [] ([J A #[.pointer a] 74,[(B,.cells #[.func (.func 176) #[] #[]] 52 (0,0))]]++[J aS #[.bool false] 4]) w:=c;refine dE 2 (c.bc aS) j j j j (λw c=>?_);have c:C _ _ (J aS #[.bool false] 4::_) w:=c;refine bH 0 j ⟨.bool false,λw n=>?_⟩;have c:=n.st c (cF _);refine⟨sn results67 j j (ax (C.aj (b:=aS) c) j),?_⟩;rw [K,h8,q.len,ic (by rw [hN];exact cF _),wm] at d;exact⟨aK Value.bool d.symm,c.bare⟩
 rintro D w P c;obtain⟨U,rfl⟩:=P;refine⟨.bool true,λw n=>?_⟩;have c:=n.st c (cF _);refine⟨sn results67 j j (ax (C.aj (b:=aS) c) j),?_⟩;exact⟨by rw [U],c.bare⟩
theorem CX{o:World}{aA:Nat}{e:bw}{G:List Chunk}{cu:Bool}(N:hk aA e G)(aT:0<=e.next)(P:e.parts.length<=1000000)(a:Own [G] o):Calls prog 37 #[aa aA,.bool cu] o λr w=>r= .tuple #[.agg (e.end_ cu).2.1.cs.toArray,ab (e.end_ cu).2.2]/\∃af,hk aA (e.end_ cu).1 af/\C o (au [G]) [af] w:=by
 obtain⟨u,bI,E,rfl⟩:=N;have F:hk aA e (bA aA e u++bI):=⟨u,bI,E,j⟩;obtain⟨d,D⟩:∃d,d=au [bA aA e u++bI]:=⟨_,j⟩;rw [<-D];have a:C o d [bA aA e u++bI] o:=D▸a;obtain⟨am,ah,I,K,H,rfl,hm,J,rfl⟩:=E;have a:C o d [bA aA e (aa am),ay 235 am ah I,H] o:=C.perm (B:=[bA aA e (aa am),ay 235 am ah I,H]) a (by simp);refine fj func37 (cx 2 a j (λl w a=>?_));have a:C o d [bB l c7,bA aA e (aa am),ay 235 am ah I,H] w:=a;refine ar 14 j (ax (C.aj (b:=aA) a) j) (aq 2 j (c9 18 j (λx=>?_) (λx=>?_)))
 .refine aq 7 j (cP (c:=c7.cs.toArray) j j j (λ_=>by kernel_rfl) ?_);refine cv 0 (a.bc l) j j j j j (λw a=>?_);have a:=C.whole (U:=(c7:bD).cs) a j;have a:C o d (bB l c7::_) w:=a;refine bH 1 j ⟨_,ds results37 j j j j (bq (C.aj (b:=l) a)),?_⟩;have he:e.end_ cu=(e,c7,6):=aR (.inl (by simpa using x));rw [he];have a:C o d [bA aA e (aa am),ay 235 am ah I,H] w:=a.as;exact⟨j,_,F,C.perm (A:=[bA aA e (aa am),ay 235 am ah I,H]) a (by simp)⟩
 have p:=HC (aA:=aA) (e:=e) (C.aj (b:=aA) a) hm J (λc O=>(fL.1 O).elim (a.holds (G:=ay 235 am ah I) (by simp) c) (a.holds (G:=H) (by simp) c)) P;refine br 1 p j (λw s=>?_);have a:=a.aO s;refine bo 2 j j (λv=>?_) (λv=>?_)
 .refine aq 2 j (cP (c:=c7.cs.toArray) j j j (λ_=>by kernel_rfl) ?_);refine cv 0 (a.bc l) j j j j j (λw a=>?_);have a:=C.whole (U:=(c7:bD).cs) a j;have a:C o d (bB l c7::_) w:=a;refine bH 1 j ⟨_,ds results37 j j j j (bq (C.aj (b:=l) a)),?_⟩;have he:e.end_ cu=(e,c7,6):=aR (.inr (by first|exact v|exact L));rw [he];have a:C o d [bA aA e (aa am),ay 235 am ah I,H] w:=a.as;exact⟨j,_,F,C.perm (A:=[bA aA e (aa am),ay 235 am ah I,H]) a (by simp)⟩
 have g:e.prod=e.prod/\e.b3=e.b3/\e.last=e.last:=⟨j,j,j⟩;have a:C o d ([bA aA e (aa am)]++_) _:=a.front;have a:=a.drew;have y:e.df=true:=by simpa using x
 have Q:e.waits=false:=by first|exact v|exact L
 refine bx 2 j (λw=>∃t ae,(t.prod=e.prod/\t.b3=e.b3/\t.last=e.last)/\C o d ([bA aA t (aa am)]++ae) w) ⟨_,_,g,a⟩ ?_;refine ag 0 4 j (b4 4 j (λw⟨_,_,g,a⟩=>ax (C.aj (b:=aA) a) (aK (λz=>some (ab z)) g.1)) (ag 5 3 j (b4 8 j (λw⟨_,_,g,a⟩=>ax (C.aj (b:=aA) a) (aK (λz=>some (ab z)) g.2.1)) (ag 9 3 j (b4 12 j (λw⟨_,_,g,a⟩=>ax (C.aj (b:=aA) a) (aK (λz=>some (ab z)) g.2.2)) (ag 13 1 j (bl 14 j (λw _=>eX (c:=(⟨3,0,0,[],e.prod,e.b3,e.last,0,cu⟩:bD).cs.toArray) j (λ_=>by kernel_rfl)) (aS 15 19 j j ?_ ?_))))))));have i:=bw.r5 e (⟨3,0,0,[],e.prod,e.b3,e.last,0,cu⟩:bD);obtain⟨f,k,n,m⟩:∃f k n,e.op (⟨3,0,0,[],e.prod,e.b3,e.last,0,cu⟩:bD)=(f,k,n):=⟨_,_,_,j⟩;rw [m] at i;have p:=p0 (aA:=aA) (e:=e) (u:=(aa am)) (I:=(⟨3,0,0,[],e.prod,e.b3,e.last,0,cu⟩:bD)) aT a.ours;rw [m] at p;refine bK j j j p (λw s=>?_);have a:=a.b1 s;have g:f.prod=e.prod/\f.b3=e.b3/\f.last=e.last:=⟨i.1,i.2.1,i.2.2.1⟩;have a:C o d ([bA aA f (aa am)]++_) w:=a.front;refine ao ⟨⟨_,_,g,a⟩,?_⟩;refine ag 16 3 j (aX 19 j (eu a j j (λq w a=>?_)));have a:C o d (bB q c7::_) w:=a;have a:C o d ([bA aA f (aa am)]++_) w:=a.front;refine ao ⟨⟨_,_,g,a⟩,?_⟩;rotate_left
 refine eu a j j (λq w a=>?_);have a:C o d (bB q c7::_) w:=a;have a:C o d ([bA aA e (aa am)]++_) w:=a.front;refine ao ⟨⟨_,_,g,a⟩,?_⟩;refine aX 15 j ?_;have i:=bw.r5 e (⟨3,0,0,[],e.prod,e.b3,e.last,0,cu⟩:bD);obtain⟨f,k,n,m⟩:∃f k n,e.op (⟨3,0,0,[],e.prod,e.b3,e.last,0,cu⟩:bD)=(f,k,n):=⟨_,_,_,j⟩;rw [m] at i;have p:=p0 (aA:=aA) (e:=e) (u:=(aa am)) (I:=(⟨3,0,0,[],e.prod,e.b3,e.last,0,cu⟩:bD)) aT a.ours;rw [m] at p;refine bK j j j p (λw s=>?_);have a:=a.b1 s;have g:f.prod=e.prod/\f.b3=e.b3/\f.last=e.last:=⟨i.1,i.2.1,i.2.2.1⟩;have a:C o d ([bA aA f (aa am)]++_) w:=a.front;refine ao ⟨⟨_,_,g,a⟩,?_⟩;refine ag 16 3 j ?_;rotate_left
 all_goals
  refine aX 20 j (c6 (a.bc q) j j j j j bO (λw a=>?_));have a:=C.whole (U:=k.cs) a j;have a:C o d (bB q k::_) w:=a;have a:C o d ([bA aA f (aa am)]++_) w:=a.front;refine ao ⟨⟨_,_,g,a⟩,?_⟩;refine ag 21 1 j (bL (ar 6 j (ax (C.aj (b:=aA) a) j) (aq 1 j (bY 47 (.bool true) j (aK Value.bool ((i.2.2.2.1.trans y))) ?_))));refine dE 5 (a.bc aA) j j j j (λw a=>?_);have a:C o d (bA aA {f with df:=(n !=0)} (aa am)::_) w:=a;refine bP 2 (U:=k.cs) j j j (bq (C.aj (b:=q) a)) (cv 1 (a.bc l) j j j j j (λw a=>?_));have a:=C.whole (U:=k.cs) a j;have a:C o d (bB l k::_) w:=a;refine bH 1 j ⟨_,ds results37 j j j j (bq (C.aj (b:=l) a)),?_⟩
  have he:e.end_ cu=({f with df:=(n !=0)},k,n):=by
   unfold bw.end_;rw [az (by rw [y,Q];decide)];unfold bw.op at m;split
   .rename_i h;rw [aR h] at m;cases m;have M:((7:Int) !=0)=true:=by decide
    rw [M,<-y]
   .rename_i h;rw [az h] at m;cases m;rfl
  rw [he];have a:C o d [bA aA {f with df:=(n !=0)} (aa am),ay 235 am ah I,H] w:=a.as;exact⟨j,_,⟨_,_,⟨am,ah,I,K,H,j,hm,show c4 m6 K f.parts H from i.2.2.2.2.symm▸J,j⟩,j⟩,C.perm (A:=[bA aA {f with df:=(n !=0)} (aa am),ay 235 am ah I,H]) a (by simp)⟩
theorem BR{o:World}{aA:Nat}{e:bw}{G:List Chunk}{n:Int}(ai:hk aA e G)(aT:0<=e.next)(aw:0<=e.last)(a:Own [G] o):Calls prog 35 #[aa aA,ab n] o λr w=>r= .tuple #[.agg (e.gs n).2.1.cs.toArray,ab (e.gs n).2.2]/\∃af,hk aA (e.gs n).1 af/\C o (au [G]) [af] w:=by
 obtain⟨u,bI,Z,rfl⟩:=ai;have R:hk aA e (bA aA e u++bI):=⟨u,bI,Z,j⟩;obtain⟨d,Y⟩:∃d,d=au [bA aA e u++bI]:=⟨_,j⟩;rw [<-Y];have a:C o d [bA aA e u++bI] o:=Y▸a;obtain⟨am,ah,I,W,H,rfl,hm,T,rfl⟩:=Z;have a:C o d [bA aA e (aa am),ay 235 am ah I,H] o:=C.perm (B:=[bA aA e (aa am),ay 235 am ah I,H]) a (by simp);have ac:=T;refine fj func35 (cx 2 a j (λg w a=>?_));have a:C o d [bB g c7,bA aA e (aa am),ay 235 am ah I,H] w:=a;refine ar 13 j (ax (C.aj (b:=aA) a) j) (aq 1 j ?_);rcases K:aV e.parts n with _|q
 .have D:=mN (k:=n) (dI.own (a.to (ay 235 am ah I)) hm);refine bk 0 D j (λr w⟨L,J⟩=>?_);have a:=a.aO J;have al:=T.mT K;simp only [al,qQ,qR] at L;subst L;have a:C o d [bB g c7,bA aA e (aa am),ay 235 am ah I,H] w:=a.as;refine ar 12 j (ax (C.aj (b:=aA) a) j) (bo 2 j j (λx=>?_) (λx=>?_));refine aq 2 j (cP (c:=c7.cs.toArray) j j j (λ_=>by kernel_rfl) ?_);refine cv 0 (a.bc g) j j j j j (λw a=>?_);have a:=C.whole (U:=(c7:bD).cs) a j;have a:C o d (bB g c7::_) w:=a;refine bH 1 j ⟨_,ds results35 j j j j (bq (C.aj (b:=g) a)),?_⟩;have t:e.gs n=(e,c7,6):=aR (by simpa using x);rotate_left
  refine aq 8 j (cP (c:=c7.cs.toArray) j j j (λ_=>by kernel_rfl) ?_);refine cv 0 (a.bc g) j j j j j (λw a=>?_);have a:=C.whole (U:=(c7:bD).cs) a j;have a:C o d (bB g c7::_) w:=a;refine bH 1 j ⟨_,ds results35 j j j j (bq (C.aj (b:=g) a)),?_⟩
  have t:e.gs n=(e,c7,1):=by
   unfold bw.gs;rw [az (by rw [show e.known=true from by simpa using x];decide),K]
  rotate_left
  all_goals
   rw [t];have a:C o d [bA aA e (aa am),ay 235 am ah I,H] w:=a.as;exact⟨j,_,R,C.perm (A:=[bA aA e (aa am),ay 235 am ah I,H]) a (by simp)⟩
 have D:=mN (k:=n) (dI.own (a.to (ay 235 am ah I)) hm);refine bk 0 D j (λr w⟨L,J⟩=>?_);have a:=a.aO J;obtain⟨v0,H1,ap,s,ak,rfl,⟨aL,pu,p,rfl,ad,rfl⟩,an⟩:=T.find K;simp only [ak,lO,nO] at L;subst L;have a:C o d [bB g c7,bA aA e (aa am),ay 235 am ah I,H1,dX aL q pu,p,s] w:=C.perm (A:=[bB g c7,bA aA e (aa am),ay 235 am ah I,H1++((dX aL q pu++p)++s)]) a.as (by simp);refine ar 12 j (ax (C.aj (b:=aA) a) j) (bo 2 j j (λx=>?_) (λx=>?_))
 .refine aq 2 j (cP (c:=c7.cs.toArray) j j j (λ_=>by kernel_rfl) ?_);refine cv 0 (a.bc g) j j j j j (λw a=>?_);have a:=C.whole (U:=(c7:bD).cs) a j;have a:C o d (bB g c7::_) w:=a;refine bH 1 j ⟨_,ds results35 j j j j (bq (C.aj (b:=g) a)),?_⟩;have t:e.gs n=(e,c7,6):=aR (by simpa using x);rw [t];have a:C o d [bA aA e (aa am),ay 235 am ah I,H1,dX aL q pu,p,s] w:=a.as;exact⟨j,_,R,C.perm (A:=[bA aA e (aa am),ay 235 am ah I,H1,dX aL q pu,p,s]) a (by simp)⟩
 refine ar 11 j (ax (C.aj (b:=aA) a) j) (aq 2 j (c9 40 j (λN=>?_) (λN=>?_)));refine ar 3 j (ax (C.aj (b:=aA) a) j) (cy 3 j j (λM=>?_) (λM=>?_))
 .refine aq 2 j (cP (c:=c7.cs.toArray) j j j (λ_=>by kernel_rfl) ?_);refine cv 0 (a.bc g) j j j j j (λw a=>?_);have a:=C.whole (U:=(c7:bD).cs) a j;have a:C o d (bB g c7::_) w:=a;refine bH 1 j ⟨_,ds results35 j j j j (bq (C.aj (b:=g) a)),?_⟩
  have t:e.gs n=(e,c7,7):=by
   unfold bw.gs;rw [az (by rw [show e.known=true from by simpa using x];decide),K];exact aR ⟨by simpa using N,by first|(have:=M;omega)|(have:=of_decide_eq_true X;omega)⟩
  rw [t];have a:C o d [bA aA e (aa am),ay 235 am ah I,H1,dX aL q pu,p,s] w:=a.as;exact⟨j,_,R,C.perm (A:=[bA aA e (aa am),ay 235 am ah I,H1,dX aL q pu,p,s]) a (by simp)⟩
 have P:e.df=false->e.last<100:=λS=>by
  first|(exact absurd S (by rw [show e.df=true from by simpa using N];decide))|(have:=M;omega)|(have:=of_decide_eq_false X;omega)
 refine ar 6 j (ax (C.aj (b:=aA) a) j) ?_;rotate_left
 have P:e.df=false->e.last<100:=λS=>by
  first|(exact absurd S (by rw [show e.df=true from by simpa using N];decide))|(have:=M;omega)|(have:=of_decide_eq_false X;omega)
 refine ar 14 j (ax (C.aj (b:=aA) a) j) ?_;rotate_left
 all_goals
  refine ar 7 j (ax (C.aj (b:=aA) a) j) (bo 1 j j (λO=>?_) (λO=>?_));have av:e.last<100:=P (by simpa using O);refine bE 2 j j j (pG (by omega) (by omega)) ?_;have m:e.prod=e.prod/\e.b3=e.b3/\e.last=e.last:=⟨j,j,j⟩;have a:C o d ([bA aA e (aa am)]++_) _:=a.front;have a:=a.drew;refine bx 2 j (λw=>∃y ae,(y.prod=e.prod/\y.b3=e.b3/\y.last=e.last)/\C o d ([bA aA y (aa am)]++ae) w) ⟨_,_,m,a⟩ (iF 8 (ab e.fQ) j (aK ab (show e.last+1=e.fQ by unfold bw.fQ;rw [if_neg (by rw [show e.df=false from by simpa using O];decide)])) ?_);rotate_left
  have m:e.prod=e.prod/\e.b3=e.b3/\e.last=e.last:=⟨j,j,j⟩;have a:C o d ([bA aA e (aa am)]++_) _:=a.front;have a:=a.drew;refine bx 2 j (λw=>∃y ae,(y.prod=e.prod/\y.b3=e.b3/\y.last=e.last)/\C o d ([bA aA y (aa am)]++ae) w) ⟨_,_,m,a⟩ (iF 8 (ab e.fQ) j (aK ab (show e.last=e.fQ by unfold bw.fQ;rw [if_pos (by simpa using O)])) ?_);rotate_left
  all_goals
   refine ag 0 4 j (b4 4 j (λw⟨_,_,m,a⟩=>ax (C.aj (b:=aA) a) (aK (λz=>some (ab z)) m.1)) (ag 5 3 j (b4 8 j (λw⟨_,_,m,a⟩=>ax (C.aj (b:=aA) a) (aK (λz=>some (ab z)) m.2.1)) (ag 9 2 j (bl 11 j (λw _=>eX (c:=(⟨2,0,0,[],e.prod,e.b3,e.fQ,n,false⟩:bD).cs.toArray) j (λ_=>by kernel_rfl)) (aS 12 16 j j ?_ ?_))))));have v:=bw.r5 e (⟨2,0,0,[],e.prod,e.b3,e.fQ,n,false⟩:bD);obtain⟨f,l,E,i⟩:∃f l E,e.op (⟨2,0,0,[],e.prod,e.b3,e.fQ,n,false⟩:bD)=(f,l,E):=⟨_,_,_,j⟩;rw [i] at v;have D:=p0 (aA:=aA) (e:=e) (u:=(aa am)) (I:=(⟨2,0,0,[],e.prod,e.b3,e.fQ,n,false⟩:bD)) aT a.ours;rw [i] at D;refine bK j j j D (λw J=>?_);have a:=a.b1 J;have m:f.prod=e.prod/\f.b3=e.b3/\f.last=e.last:=⟨v.1,v.2.1,v.2.2.1⟩;have a:C o d ([bA aA f (aa am)]++_) w:=a.front;refine ao ⟨⟨_,_,m,a⟩,?_⟩;refine ag 13 3 j (aX 16 j (eu a j j (λF w a=>?_)));have a:C o d (bB F c7::_) w:=a;have a:C o d ([bA aA f (aa am)]++_) w:=a.front;refine ao ⟨⟨_,_,m,a⟩,?_⟩;rotate_left
   refine eu a j j (λF w a=>?_);have a:C o d (bB F c7::_) w:=a;have a:C o d ([bA aA e (aa am)]++_) w:=a.front;refine ao ⟨⟨_,_,m,a⟩,?_⟩;refine aX 12 j ?_;have v:=bw.r5 e (⟨2,0,0,[],e.prod,e.b3,e.fQ,n,false⟩:bD);obtain⟨f,l,E,i⟩:∃f l E,e.op (⟨2,0,0,[],e.prod,e.b3,e.fQ,n,false⟩:bD)=(f,l,E):=⟨_,_,_,j⟩;rw [i] at v;have D:=p0 (aA:=aA) (e:=e) (u:=(aa am)) (I:=(⟨2,0,0,[],e.prod,e.b3,e.fQ,n,false⟩:bD)) aT a.ours;rw [i] at D;refine bK j j j D (λw J=>?_);have a:=a.b1 J;have m:f.prod=e.prod/\f.b3=e.b3/\f.last=e.last:=⟨v.1,v.2.1,v.2.2.1⟩;have a:C o d ([bA aA f (aa am)]++_) w:=a.front;refine ao ⟨⟨_,_,m,a⟩,?_⟩;refine ag 13 3 j ?_;rotate_left
   all_goals
    refine aX 17 j (c6 (a.bc F) j j j j j bO (λw a=>?_));have a:=C.whole (U:=l.cs) a j;have a:C o d (bB F l::_) w:=a;have a:C o d ([bA aA f (aa am)]++_) w:=a.front;refine ao ⟨⟨_,_,m,a⟩,?_⟩;refine ag 18 1 j (bL (bo 5 j j (λQ=>?_) (λQ=>?_)))
    .refine dE 8 (a.bc aA) j j j j (λw a=>?_);have a:C o d (bA aA {f with last:=e.fQ} (aa am)::_) w:=a;refine dE 2 (a.bc aA) j j j j (λw a=>?_);have a:C o d (bA aA {f with last:=e.fQ,df:=true} (aa am)::_) w:=a;refine dE 2 (a.bc aL) j j j j (λw a=>?_);have a:C o d (dX aL ({q with begun:=e.fQ}) pu::_) w:=a;refine bP 2 (U:=l.cs) j j j (bq (C.aj (b:=F) a)) (cv 1 (a.bc g) j j j j j (λw a=>?_));have a:=C.whole (U:=l.cs) a j;have a:C o d (bB g l::_) w:=a;refine bH 1 j ⟨_,ds results35 j j j j (bq (C.aj (b:=g) a)),?_⟩;have V:E=0:=ea.1 Q
     have t:e.gs n=({f with last:=e.fQ,df:=true,parts:=bV e.parts n ({q with begun:=e.fQ})},l,E):=by
      unfold bw.gs;rw [az (by rw [show e.known=true from by simpa using x];decide),K];dsimp only;rw [az (λh=>absurd h.2 (by have:=P h.1;omega))];unfold bw.op at i;split
      .rename_i h;rw [aR h] at i;cases i;cases V
      .rename_i h;rw [az h] at i;cases i;rfl
     rw [t];have a:C o d [bA aA {f with last:=e.fQ,df:=true} (aa am),ay 235 am ah I,H1,dX aL ({q with begun:=e.fQ}) pu,p,s] w:=a.as;exact⟨j,_,⟨_,_,⟨am,ah,I,W,_,j,hm,an ({q with begun:=e.fQ}) _ ⟨aL,pu,p,j,ad,j⟩,j⟩,j⟩,C.perm (A:=[bA aA {f with last:=e.fQ,df:=true} (aa am),ay 235 am ah I,H1,dX aL ({q with begun:=e.fQ}) pu,p,s]) a (by simp)⟩
    refine bP 3 (U:=l.cs) j j j (bq (C.aj (b:=F) a)) (cv 1 (a.bc g) j j j j j (λw a=>?_));have a:=C.whole (U:=l.cs) a j;have a:C o d (bB g l::_) w:=a;refine bH 1 j ⟨_,ds results35 j j j j (bq (C.aj (b:=g) a)),?_⟩;have V:E≠0:=by simpa using Q
    have t:e.gs n=(f,l,E):=by
     unfold bw.gs;rw [az (by rw [show e.known=true from by simpa using x];decide),K];dsimp only;rw [az (λh=>absurd h.2 (by have:=P h.1;omega))];unfold bw.op at i;split
     .rename_i h;rw [aR h] at i;cases i;rfl
     .rename_i h;rw [az h] at i;cases i;exact absurd j V
    rw [t];have a:C o d [bA aA f (aa am),ay 235 am ah I,H1,dX aL q pu,p,s] w:=a.as;exact⟨j,_,⟨_,_,⟨am,ah,I,W,_,j,hm,show c4 m6 W f.parts (H1++((dX aL q pu++p)++s)) from v.2.2.2.2.symm▸ac,j⟩,j⟩,C.perm (A:=[bA aA f (aa am),ay 235 am ah I,H1,dX aL q pu,p,s]) a (by simp)⟩
def eS:eg:=⟨0,0,0,0,[]⟩
def bw.hV(e:bw)(q:g6)(x:List UInt8):eg:=⟨e.prod,e.b3,e.last,q.next,x⟩
def bw.record(e:bw)(n:Int)(x:List UInt8):bw×eg×Int:=match aV e.parts n with
 |none=>(e,eS,6)
 |some q=>if e.df=false\/q.begun≠e.last then(e,eS,6)
  else match q.out with
   |some r=>(e,r,0)
   |none=>if 200<x.length then(e,eS,1) else if 1048576<q.next then(e,eS,7)
    else({e with parts:=bV e.parts n {q with next:=q.next+1,out:=some (e.hV q x)}},e.hV q x,0)
theorem wZ{o:World}{r:eg}{B:Option Addr}{aW:Nat}(i:Rd o B (aP r.x))(h:r.x.length<=1000000000):Calls prog 121 #[.agg (rcc r (.slice B r.x.length aW)).toArray] o λz w=>∃u G,z= .agg (rcc r u).toArray/\d6 u r.x G/\C o [] [G] w:=by
 have a:Own [] o:=C.start o;refine fj func121 (bJ 2 a j j (λaC w a=>cx 0 a j (λaS w a=>?_)));have a:C o [] [J aS (rcc eS (.slice none 0 0)).toArray 169,J aC (rcc r (.slice B r.x.length aW)).toArray 169] w:=a;refine ar 3 j (ax (C.aj (b:=aC) a) j) (bk 0 (gN (c:=aW) (a.rd i (cc.of_nil _ _)) h) j (λz w⟨f,e,g⟩=>?_));obtain⟨d,bN,rfl,_,_⟩:=e.form;have a:=a.aO g;refine dE 1 (a.bc aC) j j j j (λw a=>?_);have a:C o [] (J aC (rcc r (.slice d r.x.length bN)).toArray 169::_) w:=a;refine bP 2 (U:=rcc r (.slice d r.x.length bN)) j j j (bq (C.aj (b:=aC) a)) (cv 0 (a.bc aS) j j j j j (λw a=>?_));have a:=C.whole (U:=rcc r (.slice d r.x.length bN)) a j;have a:C o [] (J aS (rcc r (.slice d r.x.length bN)).toArray 169::_) w:=a;refine bH 0 j ⟨_,hW results121 j j j (a.bQ),?_⟩;exact⟨.slice d r.x.length bN,f,j,e,a.as⟩
theorem ze{o:World}{aA:Nat}{e:bw}{G:List Chunk}{n:Int}{x:List UInt8}{a7:Option Addr}{gW:Nat}(aG:hk aA e G)(aC:∀p∈e.parts,0<=p.2.next/\∀r,p.2.out=some r->r.x.length<=200)(aE:Rd o a7 (aP x))(ad:cc a7 (aP x) (au [G]))(a:Own [G] o):Calls prog 64 #[aa aA,ab n,.slice a7 x.length gW] o λz w=>∃u al,z= .tuple #[.agg (rcc (e.record n x).2.1 u).toArray,ab (e.record n x).2.2]/\d6 u (e.record n x).2.1.x al/\∃af,hk aA (e.record n x).1 af/\C o (au [G]) [af,al] w:=by
 obtain⟨u,bI,aw,rfl⟩:=aG;have F:hk aA e (bA aA e u++bI):=⟨u,bI,aw,j⟩;obtain⟨d,av⟩:∃d,d=au [bA aA e u++bI]:=⟨_,j⟩;rw [<-av] at ad⊢;have a:C o d [bA aA e u++bI] o:=av▸a;obtain⟨am,ah,I,aK,H,rfl,hm,ak,rfl⟩:=aw;have a:C o d [bA aA e (aa am),ay 235 am ah I,H] o:=C.perm (B:=[bA aA e (aa am),ay 235 am ah I,H]) a (by simp);refine fj func64 (cx 2 a j (λf w a=>?_));have a:C o d [J f (rcc eS (.slice none 0 0)).toArray 169,bA aA e (aa am),ay 235 am ah I,H] w:=a;refine ar 13 j (ax (C.aj (b:=aA) a) j) (aq 1 j ?_);rcases yT e.parts n with l|⟨q,l,K⟩|⟨q,ro,l,K⟩
 .have W:=mN (k:=n) (dI.own (a.to (ay 235 am ah I)) hm);refine bk 0 W j (λr w⟨y,v⟩=>?_);have a:=a.aO v;have aH:=ak.mT l;simp only [aH,qQ,qR] at y;subst y;have a:C o d [J f (rcc eS (.slice none 0 0)).toArray 169,bA aA e (aa am),ay 235 am ah I,H] w:=a.as;have a:C o d ([bA aA e (aa am)]++_) _:=a.front;have a:=a.drew;refine bx 8 j (λw=>∃ae,C o d ([bA aA e (aa am)]++ae) w) ⟨_,a⟩ (ag 0 21 j (bL (aq 3 j (cP (c:=(rcc eS (.slice none 0 0)).toArray) j j j (λ_=>by kernel_rfl) ?_))));refine cv 0 (a.bc f) j j j j j (λw a=>?_);have a:=C.whole (U:=rcc eS (.slice none 0 0)) a j;have a:C o d (J f (rcc eS (.slice none 0 0)).toArray 169::_) w:=a;refine bH 1 j ⟨_,ds results64 j j j j (bq (C.aj (b:=f) a)),?_⟩
  have i:e.record n x=(e,eS,6):=by
   unfold bw.record;rw [l];all_goals rfl
  rw [i];have a:C o d [bA aA e (aa am),ay 235 am ah I,H,[]] _:=a.empty.as;exact⟨.slice none 0 0,[],j,Row.nil _ _,_,F,C.perm (A:=[bA aA e (aa am),ay 235 am ah I,H,[]]) a (by simp)⟩
 .have W:=mN (k:=n) (dI.own (a.to (ay 235 am ah I)) hm);refine bk 0 W j (λr w⟨y,v⟩=>?_);have a:=a.aO v;obtain⟨v0,H1,aF,g,ai,rfl,⟨aL,pu,Y,rfl,O,rfl⟩,aD⟩:=ak.find l;simp only [ai,lO,nO] at y;subst y;obtain⟨rfl,rfl⟩:pu= .pointer none/\Y=[]:=by unfold mz at O;rw [K] at O;exact O
  have a:C o d [J f (rcc eS (.slice none 0 0)).toArray 169,bA aA e (aa am),ay 235 am ah I,H1,dX aL q (.pointer none),[],g] w:=C.perm (A:=[J f (rcc eS (.slice none 0 0)).toArray 169,bA aA e (aa am),ay 235 am ah I,H1++((dX aL q (.pointer none)++([]))++g)]) a.as (by simp);have a:C o d ([bA aA e (aa am),dX aL q (.pointer none)]++_) _:=a.front;have a:=a.drew;refine bx 8 j (λw=>∃ae,C o d ([bA aA e (aa am),dX aL q (.pointer none)]++ae) w) ⟨_,a⟩ (ag 0 6 j (a8 6 j a2 j (ag 7 3 j (ek 33 j (λN=>?_) (λN=>?_)))))
  .refine ag 10 11 j (bL (aq 3 j (cP (c:=(rcc eS (.slice none 0 0)).toArray) j j j (λ_=>by kernel_rfl) ?_)));refine cv 0 (a.bc f) j j j j j (λw a=>?_);have a:=C.whole (U:=rcc eS (.slice none 0 0)) a j;have a:C o d (J f (rcc eS (.slice none 0 0)).toArray 169::_) w:=a;refine bH 1 j ⟨_,ds results64 j j j j (bq (C.aj (b:=f) a)),?_⟩
   have i:e.record n x=(e,eS,6):=by
    unfold bw.record;rw [l];exact aR (.inl (by simpa using N))
   rw [i];have a:C o d [bA aA e (aa am),ay 235 am ah I,H1,dX aL q (.pointer none),[],g] _:=a.as;exact⟨.slice none 0 0,[],j,Row.nil _ _,_,F,C.perm (A:=[bA aA e (aa am),ay 235 am ah I,H1,dX aL q (.pointer none),[],g]) a (by simp)⟩
  refine ag 10 3 j (a8 13 j a2 j (ag 14 3 j (a8 17 j a2 j (ag 18 3 j (bL (bo 0 j j (λM=>?_) (λM=>?_)))))))
  .refine aq 2 j (cP (c:=(rcc eS (.slice none 0 0)).toArray) j j j (λ_=>by kernel_rfl) ?_);refine cv 0 (a.bc f) j j j j j (λw a=>?_);have a:=C.whole (U:=rcc eS (.slice none 0 0)) a j;have a:C o d (J f (rcc eS (.slice none 0 0)).toArray 169::_) w:=a;refine bH 1 j ⟨_,ds results64 j j j j (bq (C.aj (b:=f) a)),?_⟩
   have i:e.record n x=(e,eS,6):=by
    unfold bw.record;rw [l];exact aR (.inr (by first|simpa using Z|simpa using M))
   rw [i];have a:C o d [bA aA e (aa am),ay 235 am ah I,H1,dX aL q (.pointer none),[],g] _:=a.as;exact⟨.slice none 0 0,[],j,Row.nil _ _,_,F,C.perm (A:=[bA aA e (aa am),ay 235 am ah I,H1,dX aL q (.pointer none),[],g]) a (by simp)⟩
  have X:e.df=true:=by simpa using N
  have V:q.begun=e.last:=by first|simpa using Z|simpa using M
  refine ar 5 j (ax (C.aj (b:=aL) a) j) (cy 9 j j (λan=>?_) (λan=>?_))
  .refine aq 2 j (cP (c:=(rcc eS (.slice none 0 0)).toArray) j j j (λ_=>by kernel_rfl) ?_);refine cv 0 (a.bc f) j j j j j (λw a=>?_);have a:=C.whole (U:=rcc eS (.slice none 0 0)) a j;have a:C o d (J f (rcc eS (.slice none 0 0)).toArray 169::_) w:=a;refine bH 1 j ⟨_,ds results64 j j j j (bq (C.aj (b:=f) a)),?_⟩
   have i:e.record n x=(e,eS,1):=by
    unfold bw.record;rw [l];dsimp only;rw [az (λh=>h.elim (λh=>by rw [show e.df=true from X] at h;cases h) (λh=>h V)),K];exact aR (by omega)
   rw [i];have a:C o d [bA aA e (aa am),ay 235 am ah I,H1,dX aL q (.pointer none),[],g] _:=a.as;exact⟨.slice none 0 0,[],j,Row.nil _ _,_,F,C.perm (A:=[bA aA e (aa am),ay 235 am ah I,H1,dX aL q (.pointer none),[],g]) a (by simp)⟩
  refine ar 5 j (ax (C.aj (b:=aL) a) j) (cy 2 j j (λap=>?_) (λap=>?_))
  .refine aq 2 j (cP (c:=(rcc eS (.slice none 0 0)).toArray) j j j (λ_=>by kernel_rfl) ?_);refine cv 0 (a.bc f) j j j j j (λw a=>?_);have a:=C.whole (U:=rcc eS (.slice none 0 0)) a j;have a:C o d (J f (rcc eS (.slice none 0 0)).toArray 169::_) w:=a;refine bH 1 j ⟨_,ds results64 j j j j (bq (C.aj (b:=f) a)),?_⟩
   have i:e.record n x=(e,eS,7):=by
    unfold bw.record;rw [l];dsimp only;rw [az (λh=>h.elim (λh=>by rw [show e.df=true from X] at h;cases h) (λh=>h V)),K];dsimp only;rw [az (by omega)];exact aR (by omega)
   rw [i];have a:C o d [bA aA e (aa am),ay 235 am ah I,H1,dX aL q (.pointer none),[],g] _:=a.as;exact⟨.slice none 0 0,[],j,Row.nil _ _,_,F,C.perm (A:=[bA aA e (aa am),ay 235 am ah I,H1,dX aL q (.pointer none),[],g]) a (by simp)⟩
  have a:C o d ([bA aA e (aa am),dX aL q (.pointer none)]++_) _:=a.front;have a:=a.drew;refine bx 2 j (λw=>∃ae,C o d ([bA aA e (aa am),dX aL q (.pointer none)]++ae) w) ⟨_,a⟩ (ag 0 3 j (a8 3 j a2 j (ag 4 3 j (a8 7 j a2 j (ag 8 3 j (a8 11 j a2 j (ag 12 3 j (a8 15 j a2 j (ag 16 1 j (aS 17 19 j j ?_ ?_))))))))));refine cS j j j (gN (c:=gW) (a.rd aE ad) (by omega)) (λz w⟨R,T,v⟩=>?_);obtain⟨D,bN,rfl,_,_⟩:=T.form;have a:=a.aO v;have a:C o d ([bA aA e (aa am),dX aL q (.pointer none)]++_) w:=a.front;refine ao ⟨⟨_,a⟩,?_⟩;refine bl 18 j (λw _=>eX (c:=(rcc (e.hV q x) (.slice D x.length bN)).toArray) j (λ_=>by kernel_rfl)) (aX 19 j (eu a j j (λm w a=>?_)));have a:C o d (J m (rcc eS (.slice none 0 0)).toArray 169::_) w:=a;have a:C o d ([bA aA e (aa am),dX aL q (.pointer none)]++_) w:=a.front;refine ao ⟨⟨_,a⟩,?_⟩;rotate_left
  refine eu a j j (λm w a=>?_);have a:C o d (J m (rcc eS (.slice none 0 0)).toArray 169::_) w:=a;have a:C o d ([bA aA e (aa am),dX aL q (.pointer none)]++_) w:=a.front;refine ao ⟨⟨_,a⟩,?_⟩;refine aX 17 j (cS j j j (gN (c:=gW) (a.rd aE ad) (by omega)) (λz w⟨R,T,v⟩=>?_));obtain⟨D,bN,rfl,_,_⟩:=T.form;have a:=a.aO v;have a:C o d ([bA aA e (aa am),dX aL q (.pointer none)]++_) w:=a.front;refine ao ⟨⟨_,a⟩,?_⟩;refine bl 18 j (λw _=>eX (c:=(rcc (e.hV q x) (.slice D x.length bN)).toArray) j (λ_=>by kernel_rfl)) ?_;rotate_left
  all_goals
   refine dK 20 j (c6 (a.bc m) j j j j j bO (λw a=>?_));have a:=C.whole (U:=rcc (e.hV q x) (.slice D x.length bN)) a j;have a:C o d (J m (rcc (e.hV q x) (.slice D x.length bN)).toArray 169::_) w:=a;refine ao (c5 (ar 5 j (ax (C.aj (b:=aL) a) j) (bE 0 j j j (pG (by have:0<=q.next:=(aC _ (io l)).1;have:=ap;omega) (by omega)) (dE 2 (a.bc aL) j j j j (λw a=>?_)))));have a:C o d (dX aL ({q with next:=q.next+1,out:=some (e.hV q x)}) (.pointer none)::_) w:=a;refine dE 5 (a.bc aL) j j j j (λw a=>?_);have a:C o d (dX aL ({q with next:=q.next+1,out:=some (e.hV q x)}) (aa m)::_) w:=a;refine bP 2 (U:=rcc (e.hV q x) (.slice D x.length bN)) j j j (bq (C.aj (b:=m) a)) ?_;obtain⟨_,_,ac,_,_,aJ,_⟩:=Row.read T (a.holds (G:=R) (by simp));cases ac;refine bk 0 (wZ (r:=(e.hV q x)) (B:=D) (aW:=bN) aJ (by have:=an;show x.length<=_;omega)) j (λz w⟨aM,L,y,P,v⟩=>?_);subst y;obtain⟨Q,S,rfl,_,_⟩:=Row.form P;have a:=a.aO v;refine cv 0 (a.bc f) j j j j j (λw a=>?_);have a:=C.whole (U:=rcc (e.hV q x) (.slice Q x.length S)) a j;have a:C o d (J f (rcc (e.hV q x) (.slice Q x.length S)).toArray 169::_) w:=a;refine bH 1 j ⟨_,ds results64 j j j j (bq (C.aj (b:=f) a)),?_⟩
   have i:e.record n x=({e with parts:=bV e.parts n ({q with next:=q.next+1,out:=some (e.hV q x)})},(e.hV q x),0):=by
    unfold bw.record;rw [l];dsimp only;rw [az (λh=>h.elim (λh=>by rw [show e.df=true from X] at h;cases h) (λh=>h V)),K];dsimp only;rw [az (by omega),az (by omega)]
   rw [i];have a:C o d [bA aA e (aa am),ay 235 am ah I,H1,dX aL ({q with next:=q.next+1,out:=some (e.hV q x)}) (aa m),J m (rcc (e.hV q x) (.slice D x.length bN)).toArray 169,R,g,L] _:=a.as;exact⟨_,L,j,P,_,⟨_,_,⟨am,ah,I,aK,_,j,hm,aD ({q with next:=q.next+1,out:=some (e.hV q x)}) _ ⟨aL,aa m,_,j,⟨m,(.slice D x.length bN),R,j,T,j⟩,j⟩,j⟩,j⟩,C.perm (A:=[bA aA e (aa am),ay 235 am ah I,H1,dX aL ({q with next:=q.next+1,out:=some (e.hV q x)}) (aa m),J m (rcc (e.hV q x) (.slice D x.length bN)).toArray 169,R,g,L]) a (by simp)⟩
 have W:=mN (k:=n) (dI.own (a.to (ay 235 am ah I)) hm);refine bk 0 W j (λr w⟨y,v⟩=>?_);have a:=a.aO v;obtain⟨v0,H1,aF,g,ai,rfl,⟨aL,pu,Y,rfl,O,rfl⟩,aD⟩:=ak.find l;simp only [ai,lO,nO] at y;subst y;obtain⟨b2,aT,af,rfl,aB,rfl⟩:∃b u af,pu=aa b/\d6 u ro.x af/\Y=J b #[ab ro.p,ab ro.e,ab ro.t,ab ro.s,u] 169++af:=by unfold mz at O;rw [K] at O;exact O
 obtain⟨E,co,rfl,_,aN⟩:=Row.form aB;have a:C o d [J f (rcc eS (.slice none 0 0)).toArray 169,bA aA e (aa am),ay 235 am ah I,H1,dX aL q (aa b2),J b2 (rcc ro (.slice E ro.x.length co)).toArray 169,af,g] w:=C.perm (A:=[J f (rcc eS (.slice none 0 0)).toArray 169,bA aA e (aa am),ay 235 am ah I,H1++((dX aL q (aa b2)++(J b2 (rcc ro (.slice E ro.x.length co)).toArray 169++af))++g)]) a.as (by simp);have a:C o d ([bA aA e (aa am),dX aL q (aa b2)]++_) _:=a.front;have a:=a.drew;refine bx 8 j (λw=>∃ae,C o d ([bA aA e (aa am),dX aL q (aa b2)]++ae) w) ⟨_,a⟩ (ag 0 6 j (a8 6 j a2 j (ag 7 3 j (ek 33 j (λN=>?_) (λN=>?_)))))
 .refine ag 10 11 j (bL (aq 3 j (cP (c:=(rcc eS (.slice none 0 0)).toArray) j j j (λ_=>by kernel_rfl) ?_)));refine cv 0 (a.bc f) j j j j j (λw a=>?_);have a:=C.whole (U:=rcc eS (.slice none 0 0)) a j;have a:C o d (J f (rcc eS (.slice none 0 0)).toArray 169::_) w:=a;refine bH 1 j ⟨_,ds results64 j j j j (bq (C.aj (b:=f) a)),?_⟩
  have i:e.record n x=(e,eS,6):=by
   unfold bw.record;rw [l];exact aR (.inl (by simpa using N))
  rw [i];have a:C o d [bA aA e (aa am),ay 235 am ah I,H1,dX aL q (aa b2),J b2 (rcc ro (.slice E ro.x.length co)).toArray 169,af,g] _:=a.as;exact⟨.slice none 0 0,[],j,Row.nil _ _,_,F,C.perm (A:=[bA aA e (aa am),ay 235 am ah I,H1,dX aL q (aa b2),J b2 (rcc ro (.slice E ro.x.length co)).toArray 169,af,g]) a (by simp)⟩
 refine ag 10 3 j (a8 13 j a2 j (ag 14 3 j (a8 17 j a2 j (ag 18 3 j (bL (bo 0 j j (λM=>?_) (λM=>?_)))))))
 .refine aq 2 j (cP (c:=(rcc eS (.slice none 0 0)).toArray) j j j (λ_=>by kernel_rfl) ?_);refine cv 0 (a.bc f) j j j j j (λw a=>?_);have a:=C.whole (U:=rcc eS (.slice none 0 0)) a j;have a:C o d (J f (rcc eS (.slice none 0 0)).toArray 169::_) w:=a;refine bH 1 j ⟨_,ds results64 j j j j (bq (C.aj (b:=f) a)),?_⟩
  have i:e.record n x=(e,eS,6):=by
   unfold bw.record;rw [l];exact aR (.inr (by first|simpa using Z|simpa using M))
  rw [i];have a:C o d [bA aA e (aa am),ay 235 am ah I,H1,dX aL q (aa b2),J b2 (rcc ro (.slice E ro.x.length co)).toArray 169,af,g] _:=a.as;exact⟨.slice none 0 0,[],j,Row.nil _ _,_,F,C.perm (A:=[bA aA e (aa am),ay 235 am ah I,H1,dX aL q (aa b2),J b2 (rcc ro (.slice E ro.x.length co)).toArray 169,af,g]) a (by simp)⟩
 have X:e.df=true:=by simpa using N
 have V:q.begun=e.last:=by first|simpa using Z|simpa using M
 refine ar 5 j (ax (C.aj (b:=aL) a) j) (ar 8 j (ax (C.aj (b:=aL) a) j) (bP 1 (U:=rcc ro (.slice E ro.x.length co)) j j j (bq (C.aj (b:=b2) a)) ?_));obtain⟨_,_,ac,_,_,aI,_⟩:=Row.read aB (a.holds (G:=af) (by simp));cases ac;refine bk 0 (wZ (r:=ro) (B:=E) (aW:=co) aI (by have:=(aC _ (io l)).2 _ K;omega)) j (λz w⟨aM,L,y,P,v⟩=>?_);subst y;have aQ:=Row.one P;obtain⟨Q,S,rfl,_,_⟩:=Row.form P;have a:=a.aO v;refine cv 0 (a.bc f) j j j j j (λw a=>?_);have a:=C.whole (U:=rcc ro (.slice Q ro.x.length S)) a j;have a:C o d (J f (rcc ro (.slice Q ro.x.length S)).toArray 169::_) w:=a;refine bH 1 j ⟨_,ds results64 j j j j (bq (C.aj (b:=f) a)),?_⟩
 have i:e.record n x=(e,ro,0):=by
  unfold bw.record;rw [l];dsimp only;rw [az (λh=>h.elim (λh=>by rw [show e.df=true from X] at h;cases h) (λh=>h V)),K]
 rw [i];have a:C o d [bA aA e (aa am),ay 235 am ah I,H1,dX aL q (aa b2),J b2 (rcc ro (.slice E ro.x.length co)).toArray 169,af,g,L] _:=a.as;exact⟨_,L,j,P,_,F,C.perm (A:=[bA aA e (aa am),ay 235 am ah I,H1,dX aL q (aa b2),J b2 (rcc ro (.slice E ro.x.length co)).toArray 169,af,g,L]) a (by simp)⟩
theorem Bv{o:World}{g:al}{bh:Nat}{b:cR}{G:List Chunk}{r:eg}{B:Option Addr}{aW:Nat}(n:jA g bh b G)(s:b.log.ch.length<=1000000)(t:b.log.cY.length<=1000000)(l:Rd o B (aP r.x))(f:cc B (aP r.x) (au [G]))(u:r.x.length<=aW)(a:Own [G] o):Calls prog 65 #[aa bh,.agg (rcc r (.slice B r.x.length aW)).toArray] o λz w=>z= .tuple #[ab (b.log.append r).2.1,ab (b.log.append r).2.2]/\∃af,jA g bh {b with log:=(b.log.append r).1} af/\C o (au [G]) [af] w:=by
 obtain⟨c,L,M,V,h,rfl⟩:=n;obtain⟨d,k⟩:∃d,d=au [ck g bh c++(L++(M++V))]:=⟨_,j⟩;rw [<-k] at f⊢;have a:C o d [ck g bh c++(L++(M++V))] o:=k▸a;have a:=a.u7;refine a6 func65 (bJ 2 a j j (λe w a=>?_));have a:C o d [J e (rcc r (.slice B r.x.length aW)).toArray 169,ck g bh c,L,M,V] w:=a;have a:C o d ([J e (rcc r (.slice B r.x.length aW)).toArray 169,ck g bh c]++_) _:=a.front;have a:=a.drew;refine bx 10 j (λw=>∃ae,C o d ([J e (rcc r (.slice B r.x.length aW)).toArray 169,ck g bh c]++ae) w) ⟨_,a⟩ (ag 0 3 j (a8 3 j a2 j (bl 4 j (λw⟨_,a⟩=>dd (U:=rcc r (.slice B r.x.length aW)) j j j (bq (C.aj (b:=e) a))) (aX 5 j ?_))));have a:C o d (L::_) _:=a.to L;have p:=Bw (r:=r) (B:=B) (aW:=aW) h.log s t (a.rd l f) ((a.apart l f).sub (fE (by simp))) u a.ours;refine bK j j j p (λw⟨i,m,q⟩=>?_);have a:=a.b1 q;have a:C o d ([J e (rcc r (.slice B r.x.length aW)).toArray 169,ck g bh c]++_) w:=a.front;refine ao ⟨⟨_,a⟩,?_⟩;refine ag 6 4 j (bL (an 0 j j ?_));have a:C o d [ck g bh c,i,M,V] _:=a.as;exact⟨j,_,⟨c,i,M,V,⟨m,h.acc,h.aI⟩,j⟩,a.kV⟩
theorem BM{o:World}{p:Value}{l:List aY}{lost:Nat}{G:List Chunk}(D:gH p l lost G)(g:Holds o G){i:Nat}(u:i<l.length):Calls prog 72 #[p,.int .i64 i] o λr w=>∃(q:aD)(t:List Chunk),r= .tuple #[.agg q.cs.toArray,.bool true]/\q.P=l[i]/\fw q t/\C o [] [t] w:=by
 have a:Own [] o:=C.start o;obtain⟨b,v,bZ,ak,aB,rfl,rfl,E,k,rfl⟩:=D.open;have m:i<bZ.length:=by rw [fa] at u;exact u
 have s:=k.tag bZ[i] (eB m);have F:o.heap[b]? =some (.cells #[v,ab 512,ab lost] 64 (0,0)):=g.left.head;rw [qY];refine fj func72 (cx 2 a j (λc w a=>?_));have a:C o [] [bf c dO] w:=a;have H:=wz E k.tag (a.b8 F) (g.right.left.st a) m;refine br 14 H j (λw I=>?_);have a:=a.aO I;refine cx 3 a j (λd w a=>?_);have a:C o [] (bf d dO::_) w:=a;refine cv 0 (a.bc d) j j j (by simpa using(bZ[i]).one) (by rw [List.size_toArray];exact(bZ[i]).bU s) (λw a=>?_);have a:=C.whole (U:=(bZ[i]).cs) a (by rw [(bZ[i]).bU s];rfl);have a:C o [] (bf d (bZ[i])::_) w:=a;refine bP 3 (U:=bZ[i].cs) j j (bZ[i].bU s) (bq (C.aj (b:=d) a)) ?_;obtain⟨y,x⟩:=k.read (g.right.right.st a) bZ[i] (eB m);refine bk 0 (wY y x) j (λr w⟨q,e,f,K,J,z,ad⟩=>?_);subst K;have B:=fw.r2 J z y x;have n:q.tag.length=32:=by obtain⟨_,_,_,_,h,_⟩:=B;exact h
 have a:=a.aO ad;refine cv 1 (a.bc c) j j j (by simpa using(q).one) (by rw [List.size_toArray];exact(q).bU n) (λw a=>?_);have a:=C.whole (U:=(q).cs) a (by rw [(q).bU n];rfl);have a:C o [] (bf c (q)::_) w:=a;refine bH 1 j ⟨_,ds (U:=q.cs) results72 j j j (q.bU n) (bq (C.aj (b:=c) a)),?_⟩;have a:C o [] [e,f] w:=a.as;exact⟨q,e++f,j,z,B,C.perm (A:=[e,f]) a (by simp)⟩
theorem BP{o:World}{p:Value}{l:List aY}{lost:Nat}{G:List Chunk}(x:gH p l lost G)(a:Own [G] o){i:Nat}(m:i<l.length):Calls prog 39 #[p,.int .i64 i] o λr w=>r= .bool (decide (l.length<512))/\∃af,gH p (if l.length<512 then l++[l[i]] else l) lost af/\C o (au [G]) [af] w:=by
 obtain⟨c,y⟩:∃c,c=au [G]:=⟨_,j⟩;rw [<-y];have a:C o c [G] o:=y▸a;have D:=x;obtain⟨b,v,bZ,ak,aB,rfl,rfl,z,k,rfl⟩:=x.open;have I:i<bZ.length:=by rw [fa] at m;exact m
 simp only [qY,fa];refine a6 func39 (bk 7 (BM D (a.holds (by simp)) m) j (λr w⟨q,e,H,B,t,ad⟩=>?_));subst H;rw [qY] at B;have u:q.tag.length=32:=by obtain⟨_,_,_,_,h,_⟩:=t;exact h
 have a:=a.aO ad;refine cx 3 a j (λd w a=>?_);have a:C o c (bf d dO::_) w:=a;refine cv 0 (a.bc d) j j j (by simpa using(q).one) (by rw [List.size_toArray];exact(q).bU u) (λw a=>?_);have a:=C.whole (U:=(q).cs) a (by rw [(q).bU u];rfl);have a:C o c (bf d (q)::_) w:=a;have a:C o c ([bf d q]++_) _:=a.front;have a:=a.drew;refine bx 2 j (λw=>∃ae,C o c ([bf d q]++ae) w) ⟨_,a⟩ (ag 0 5 j (bl 5 j (λw⟨_,a⟩=>dd (U:=q.cs) j j (q.bU u) (bq (C.aj (b:=d) a))) (aX 6 j ?_)));have a:C o c [fc b v lost,ak,aB,bf d q,e] _:=C.perm (A:=[fc b v lost++(ak++aB),bf d q,e]) a.as (by simp);have E:=y7 (b:=b) (lost:=lost) z k t (a.ours (cM:=[fc b v lost,ak]));refine bK j j j E (λw⟨v1,f,n,ad⟩=>?_);have a:=a.b1 ad;have a:C o c ([bf d q]++_) w:=a.front;refine ao ⟨⟨_,a⟩,?_⟩;refine ag 7 2 j (bL (an 0 j j (⟨j,?_⟩)));have g:C o c [fc b v1 lost,f,aB,e] _:=a.as;clear a;split at n
 .rename_i s;rw [aR s];have F:(bZ++[q]).map aD.P=bZ.map aD.P++[bZ[i].P]:=by rw [iB,List.map_cons,B];rfl
  rw [<-F];refine⟨_,gH.close (bZ:=bZ++[q]) (by rw [cj,List.length_singleton,pJ];simpa using n) (k.app (fy.one t)),C.perm (A:=[fc b v1 lost,f,aB,e]) g (by simp)⟩
 rename_i s;rw [az s];obtain⟨rfl,rfl⟩:=n;have g:C o c [fc b v1 lost,f,aB] _:=g.as;exact⟨_,gH.close z k,C.perm (A:=[fc b v1 lost,f,aB]) g (by simp)⟩
def ly(aF:List aY)(i:Int):List aN:=if 0<=i/\i<(aF.length:Int) then(aF[i.toNat]?.map aY.l).getD [] else []
def il(aF:List aY)(use:List Int):List aN:=use.flatMap (ly aF)
theorem uG{aF:List aY}{use:List Int}{i:Nat}(h:i<use.length):il aF (use.take (i+1))=il aF (use.take i)++ly aF use[i]:=by
 unfold il;rw [fK h,o4];simp
theorem Ex{aF:List aY}{use:List Int}{i:Nat}(h:i<use.length):∃r,il aF use=il aF (use.take i)++(ly aF use[i]++r):=by
 refine⟨il aF (use.drop (i+1)),?_⟩;unfold il;rw [<-dS,<-List.flatMap_singleton (f:=ly aF) (x:=use[i]),<-o4,<-List.flatMap_append,<-List.take_succ_eq_append_getElem h,List.take_append_drop]
theorem Ey{aF:List aY}{R:Nat}(h:R<aF.length):ly aF (R:Int)=aF[R].l:=by
 unfold ly;rw [aR ⟨by omega,by omega⟩];simp [h]
abbrev Ev(aF:List aY)(use:List Int)(pre:List aN)(x:aN):Prop:=∃r,il aF use=pre++x::r
structure m3(bs:List Chunk)(dC:Option Addr)(us:List Value)(F:List Nat)(w:World):Prop where
 holds:Holds w bs
 off:∀c∈bs,c.1∉F
 rd:Rd w dC us
 ap:cc dC us F
section
variable {bs:List Chunk} {dC:Option Addr} {us:List Value} {F eJ:List Nat} {ae H:List (List Chunk)} {L:List Chunk} {o w aJ:World}
theorem m3.st(h:m3 bs dC us F w)(d:C w eJ ae aJ)(a:∀b∈eJ,b∈F):m3 bs dC us F aJ:=
 ⟨h.holds.kept d (λc e f=>h.off c e (a _ f)),h.off,d.rd h.rd (h.ap.sub a),h.ap⟩
theorem Holds.lt(h:Holds w bs):∀c∈bs,c.1<w.heap.size:=λc a=>by
 have:=h c a;exact(gq.1 this).1
theorem Rd.Bt(h:Rd w dC us)(i:∀b∈F,w.heap.size<=b):cc dC us F:=λl a g k=>by
 cases us with
 |nil=>exact l j
 |cons v r=>
  obtain⟨b,d,c⟩:=h 0 v j;rw [g] at d;cases d;have m:=i _ k
  have n:a.block<w.heap.size:=by
   unfold World.cell? at c;have e:(a.add 0).block=a.block:=by unfold Addr.add;split<;>rfl
   rw [e] at c;cases f:w.heap[a.block]? with
   |none=>rw [f] at c;cases c
   |some I=>exact(gq.1 f).1
  omega
theorem C.snoc(h:C o F ae w)(a:C w [] [L] aJ):C o F (ae++[L]) aJ:=(h.aO a).perm (by simp only [gS,List.flatten_cons,List.flatten_nil,List.append_nil];exact List.perm_append_comm)
theorem m3.new(d:Holds o bs)(e:Rd o dC us)(a:C o [] ae w):m3 bs dC us (au ae) w:=
 have aT:∀b∈au ae,o.heap.size<=b:=λb f=>(a.own b f).elim (λh=>by cases h) id
 ⟨d.st a,λc g i=>absurd (d.lt c g) (by have:=aT _ i;omega),a.rd e (cc.of_nil _ _),Rd.Bt e aT⟩
end
theorem Ez{o:World}{aF:List aY}{hH dC:Option Addr}{gu eh:Nat}{use:List Int}:Calls prog 83 #[.slice hH aF.length gu,.slice dC use.length eh] o λr w=>∃aS b,r= .func (.func 144) #[] #[aa b,aa aS]/\C o [] [J b #[.slice dC use.length eh] 27,J aS #[.slice hH aF.length gu] 58] w:=by
 have a:Own [] o:=C.start o;refine a6 func83 (bJ 2 a j j (λaS w a=>bJ 0 a j j (λb w a=>aq 3 j (gI j j j j ?_))));exact an 1 j j ⟨aS,b,j,a⟩
theorem Ew{aS g:Nat}{aF:List aY}{bs:List Chunk}{hH dC:Option Addr}{gu eh:Nat}{use:List Int}(ai:cC (.slice hH aF.length gu) aF bs):Iter prog 144 #[aa g,aa aS] [J g #[.slice dC use.length eh] 27,J aS #[.slice hH aF.length gu] 58] (λae w=>m3 bs dC (use.map bG) (au ([J g #[.slice dC use.length eh] 27,J aS #[.slice hH aF.length gu] 58]++ae)) w/\use.length<=maxLen/\aF.length<=maxLen/\use.length<=eh/\∀m∈aF,m.l.length<=1000) (λ_=>True) (λv:aN=> #[.agg v.cs.toArray]) (Ev aF use) (λxs=>xs=il aF use):=by
 intro y X aV ae o a c x _ al aR aC;show Calls _ _ #[fC y,aa g,aa aS] o _;obtain⟨u,M⟩:∃u,u=au ([J g #[.slice dC use.length eh] 27,J aS #[.slice hH aF.length gu] 58]++ae):=⟨_,j⟩;rw [<-M] at x⊢;have a:C o u (J g #[.slice dC use.length eh] 27::J aS #[.slice hH aF.length gu] 58::ae) o:=M▸a;obtain⟨x,K,aT,aQ,aU⟩:=x;obtain⟨bZ,T,ak,aB,rfl,N,F⟩:=ai;have hlen:aF.length=bZ.length:=by rw [<-T,fa]
 have aA:∀q∈bZ,q.cs.length=39:=λq aw=>q.bU (F.tag q aw)
 refine a6 func144 (ar 2 j (a.cell j) ?_)
 refine dj 3 j (cU:=Nat×List (List Chunk)) (λi=>[(0,fC y),(1,aa g),(2,aa aS),(8,.slice dC use.length eh),(9,.int .i64 (use.length:Nat)),(10,.int .i64 (i.1:Nat))])
  (λi w=>i.1<=use.length/\X (il aF (use.take i.1)) i.2 w/\C o u (J g #[.slice dC use.length eh] 27::J aS #[.slice hH aF.length gu] 58::i.2) w) (λi=>use.length-i.1) (0,ae) ⟨j,j,j,j,j,j,bb⟩ ⟨cp _,c,a⟩ ?_
 rintro⟨i,af⟩ w ⟨am,c,a⟩;dsimp only at am c a⊢;refine cy 4 j j (λY=>?_) (λY=>?_)
 .have n:i<use.length:=by omega
  have A:=x.st a (λb s=>s);refine aq 5 j (fJ j j j j A.rd (v:=bG use[i]) (by rw [gK,gR,cr n];rfl) n (λaJ aM aj=>?_));refine ar 0 j aj (aq 7 j (c9 16 j (λE=>?_) (λE=>?_)))
  .refine bE 8 j j j (dn i (by unfold maxLen at K;omega)) (bW 1 j (⟨(i+1,af),⟨j,j,j,j,j,j,bb⟩,⟨n,?_,a⟩,by dsimp only;omega⟩));dsimp only;rw [uG n,show ly aF use[i]=[] from az (λh=>by have:=dV E;omega),gA];exact c
  refine ar 1 j (C.f1 a|>.cell rfl) (cy 3 j j (λZ=>?_) (λZ=>?_))
  .refine bE 2 j j j (dn i (by unfold maxLen at K;omega)) (bW 1 j (⟨(i+1,af),⟨j,j,j,j,j,j,bb⟩,⟨n,?_,a⟩,by dsimp only;omega⟩));dsimp only;rw [uG n,show ly aF use[i]=[] from az (λh=>by omega),gA];exact c
  refine ar 3 j (C.f1 a|>.cell rfl) ?_;obtain⟨R,Q⟩:∃R:Nat,use[i]=R:=⟨use[i].toNat,by have:=dY E;omega⟩;have S:R<aF.length:=by omega
  have I:R<bZ.length:=by omega
  obtain⟨_,_,e,_,_,W,_⟩:=Row.read N A.holds.left;simp only [qZ] at e;obtain⟨rfl,_,rfl⟩:=e;refine aq 1 j (bY 23 (.int .i64 (R:Nat)) j (aK (Value.int .i64) Q) ?_);obtain⟨ag,_,_,O,_⟩:=Row.block N (by omega);simp only [qZ] at O;have L:=O.1;rw [L] at W;refine bY 22 (.slice (some ⟨ag,0,none⟩) aF.length gu) j (aK (λz=>Value.slice z aF.length gu) L) (hy j j j j S ?_);obtain⟨t,av⟩:=F.read A.holds.right bZ[R] (eB I)
  have V:ly aF use[i]=bZ[R].l:=by
   rw [Q,Ey S];have:aF[R]=bZ[R].P:=by simp only [<-T,qY]
   rw [this]
  have ax:=flat_lit (f:=aD.cs) W aA R I;refine ar 1 j (by have h:=ax.cell (R:=6) (v:=.slice bZ[R].B bZ[R].l.length bZ[R].d) (by simp [aD.cs]);rw [add_lit] at h;exact h) ?_
  refine dj 3 j (cU:=Nat×List (List Chunk)) (λk=>[(0,fC y),(1,aa g),(2,aa aS),(8,.slice dC use.length eh),(9,.int .i64 (use.length:Nat)),(10,.int .i64 (i:Nat)),(26,.slice bZ[R].B bZ[R].l.length bZ[R].d),(27,.int .i64 (bZ[R].l.length:Nat)),(28,.int .i64 (k.1:Nat))])
   (λk w=>k.1<=bZ[R].l.length/\X (il aF (use.take i)++bZ[R].l.take k.1) k.2 w/\C o u (J g #[.slice dC use.length eh] 27::J aS #[.slice hH aF.length gu] 58::k.2) w) (λk=>bZ[R].l.length-k.1) (0,af) ⟨j,j,j,j,j,j,j,j,j,bb⟩ ⟨cp _,by simpa using c,a⟩ ?_
  rintro⟨k,bn⟩ w ⟨ad,c,a⟩;dsimp only at ad c a⊢;refine cy 4 j j (λac=>?_) (λac=>?_)
  .have p:k<bZ[R].l.length:=by omega
   have A:=x.st a (λb s=>s);obtain⟨t,_⟩:=F.read A.holds.right bZ[R] (eB I);have D:=t.aI bZ[R].l[k] (eB p);refine aq 5 j (fJ j j j j t.l (v:=ab bZ[R].l[k].k) (oF bZ[R].l t.aI k p) p (λaL ah aP=>?_));refine bP 0 j j (bZ[R].l[k].len D) (oG (ah▸t.l) t.aI k p) (cx 0 (C.start _) j (λbv w r=>cv 0 r j j j bZ[R].l[k].one (bZ[R].l[k].len D) (λw r=>?_)));have r:=C.whole (U:=bZ[R].l[k].cs) r (by rw [bZ[R].l[k].len D];rfl);have c:=al _ _ _ _ [] c r.bare (by simp);have a:=a.aO r;refine bP 3 (U:=bZ[R].l[k].cs) j j (bZ[R].l[k].len D) a.bQ ?_;obtain⟨aH,ay⟩:=Ex (aF:=aF) n
   have aE:=aC (il aF (use.take i)++bZ[R].l.take k) bZ[R].l[k] bn _ ⟨bZ[R].l.drop (k+1)++aH,by
    rw [ay,V,dS,<-List.cons_append,<-List.append_assoc (bZ[R].l.take k),<-List.drop_eq_getElem_cons p,List.take_append_drop]⟩ c (C.i8 (H:=[_,_,_]) a)
   refine jD j j j j aE (λb w⟨cw,aG,s⟩=>?_);have a:=C.iZ (H:=[_,_,_]) a aG;refine bo 1 j j (λeN=>?_) (λeN=>?_)
   .refine an 0 j j ?_;have G:b=false:=by cases b<;>first|rfl|exact absurd eN (by decide)
    subst G;exact⟨cw,a.drop,.inr (by simpa using s)⟩
   refine bE 2 j j j (dn k (by have:=av.l;omega)) (bW 1 j ?_);have G:b=true:=by cases b<;>first|rfl|exact absurd eN (by decide)
   subst G;refine⟨(k+1,cw),⟨j,j,j,j,j,j,j,j,j,bb⟩,⟨p,?_,a.drop⟩,by dsimp only;omega⟩;dsimp only;rw [fK p,<-dS];simpa using s
  refine bE 2 j j j (dn i (by unfold maxLen at K;omega)) (bW 1 j ?_);have ap:k=bZ[R].l.length:=by omega
  rw [ap,gm] at c;refine⟨(i+1,bn),⟨j,j,j,j,j,j,bb⟩,⟨n,?_,a⟩,by dsimp only;omega⟩;dsimp only;rw [uG n,V];exact c
 refine an 1 j j ?_;have ao:i=use.length:=by omega
 subst ao;rw [gm] at c;exact⟨af,a,.inl ⟨_,j,c⟩⟩
structure eY where
 k:Int
 to:Int
 s:Int
 v:Int
 x:List UInt8
 dv:Int
 use:List Int
abbrev ge(l:eY)(X:Option Addr)(bN:Nat)(dC:Option Addr)(eh:Nat):List Value:=[ab l.k,ab l.to,ab l.s,ab l.v,.slice X l.x.length bN,ab l.dv,.slice dC l.use.length eh]
def eY.msg(l:eY)(f:Int)(U:List aN):aY:=⟨l.k,f,l.to,l.s,l.v,l.x,U,cD⟩
def eY.may(g:al)(f:Int)(l:eY):Bool:=(l.msg f []).may&&((l.k !=1)&&(decide (f<(g.keys.length:Int))&&decide (l.to<(g.keys.length:Int))))
def eY.aI(g:al)(f:Int)(aF:List aY)(l:eY):Option (List aN):=
 if l.k=6 then some [cT g 3 0 0 (ca l.x) f]
 else if l.k=3 then(if l.dv<1\/l.dv>3 then none else some [cT g l.dv l.s l.v (ca l.x) f])
 else some ((il aF l.use).take 10)
def aY.ct(g:al)(m:aY):aY:={m with tag:=g.ct m.f m.body}
def e9(g:al)(f:Int)(aF:List aY)(l:eY):Option aY:=if l.may g f=true then(l.aI g f aF).map λU=>(l.msg f U).ct g else none
abbrev eY.bi(l:eY)(f:Int)(X:Option Addr)(bN:Nat)(B:Option Addr)(U:List aN)(d:Nat):aD:=⟨l.k,f,l.to,l.s,l.v,X,l.x,bN,B,U,d,cD⟩
theorem ok_none{b:Bool}(h:((if b=true then(0:Int) else 1)==0)=false):b=false:=by cases b<;>simp_all
theorem yC{b:Bool}(h:((if b=true then(0:Int) else 1)==0)=true):b=true:=by cases b<;>simp_all
theorem eY.ye{g:al}{f:Int}{l:eY}(h:l.may g f=true):l.x.length<=200:=by
 unfold eY.may aY.may at h;simp only [d8,gn] at h;exact h.1.1.1.2
theorem rV{aF:List aY}(h:∀m∈aF,∀v∈m.l,v.ok)(use:List Int):∀v∈il aF use,v.ok:=λv c=>by
 obtain⟨i,_,a⟩:=o7.1 c;unfold ly at a;split at a
 .cases b:aF[i.toNat]? with
  |none=>rw [b] at a;cases a
  |some m=>rw [b] at a;exact h m (ia b) v a
 .cases a
theorem DS{o:World}{g:al}{f:Int}{l:eY}{X dC:Option Addr}{bN eh:Nat}(n:g.at o)(B:g.ok)(y:Rd o X (aP l.x)):Calls prog 80 #[g.p,ab f,.agg (ge l X bN dC eh).toArray] o λr w=>r= .bool (l.may g f)/\C o [] [] w:=by
 have a:Own [] o:=C.start o;refine a6 func80 (bJ 2 a j j (λd w a=>?_));have a:C o [] [J d (ge l X bN dC eh).toArray 29] w:=a;refine ar 4 j (ax (C.aj (b:=d) a) j) (ar 2 j (ax (C.aj (b:=d) a) j) (ar 1 j (ax (C.aj (b:=d) a) j) (ar 1 j (ax (C.aj (b:=d) a) j) (ar 1 j (ax (C.aj (b:=d) a) j) (cP (c:=(l.bi f X bN none [] 0).cs.toArray) j j j (λ_=>by kernel_rfl) ?_)))));have t:aD.ok (l.bi f X bN none [] 0) w:=⟨a.rd y (cc.of_nil _ _),Rd.nil _ _,(by intro v q;cases q),j⟩;refine bk 0 (xb t) j (λr w⟨v,G,u,q,s⟩=>?_);subst u;have a:=a.aO s;have A:iN (l.bi f X bN none [] 0)=(l.msg f []).may:=rfl;have a:C o [] ([J d (ge l X bN dC eh).toArray 29]++_) _:=a.front;have a:=a.drew;refine bx 6 j (λw=>∃ae,C o [] ([J d (ge l X bN dC eh).toArray 29]++ae) w) ⟨_,a⟩ (ag 0 3 j (ek 27 j (λi=>?_) (λi=>?_)))
 .refine ag 3 1 j (a8 4 j a2 j (ag 5 3 j (ek 32 j (λk=>?_) (λk=>?_))))
  .refine ag 8 2 j (aX 10 j (bK j j j (mb (n.st a (al.off.nil g))) (λz e=>?_)));have e:=e.symm;subst e;refine ao ⟨⟨_,a⟩,?_⟩;refine ag 11 3 j (ek 38 j (λm=>?_) (λm=>?_));refine ag 14 1 j (a8 15 j a2 j (ag 16 1 j (aX 17 j (bK j j j (mb (n.st a (al.off.nil g))) (λz e=>?_)))));have e:=e.symm;subst e;refine ao ⟨⟨_,a⟩,?_⟩;refine ag 18 3 j ?_;rotate_left
   refine ag 14 7 j ?_;rotate_left
   all_goals
    refine bL (an 0 j j (⟨aK Value.bool ?_,a.bare⟩));unfold eY.may;have h:(l.msg f []).may=true:=yC i;rw [h,k,m];rfl
  refine ag 8 13 j (bL (an 0 j j (⟨aK Value.bool ?_,a.bare⟩)));unfold eY.may;have h:(l.msg f []).may=true:=yC i;rw [h,k];rfl
 refine ag 3 18 j (bL (an 0 j j (⟨aK Value.bool ?_,a.bare⟩)));unfold eY.may;have h:(l.msg f []).may=false:=ok_none i;rw [h];rfl
theorem eY.mj(l:eY)(f:Int)(X:Option Addr)(bN:Nat)(B a:Option Addr)(U c:List aN)(d b:Nat):(l.bi f X bN B U d).cs.toArray.setIfInBounds 6 (.slice a c.length b)=(l.bi f X bN a c b).cs.toArray:=by
 apply fz;simp [aD.cs]
theorem en.lit{b:Nat}{c:aN}(h:c.ok):en (.slice (some ⟨b,0,none⟩) 1 1) [c] (J b c.cs.toArray 115):=by
 have a:=Row.full (e:=115) (size:=68) (b:=b) (n:=1) (cur:=c.cs.toArray) (by decide) (by rw [hl,c.len h]);have e:vcs [c]=c.cs:=by simp
 show Row 115 68 _ 1 (vcs [c]) _;rw [e];exact a
theorem yb{o:World}{g:al}{f:Int}{l:eY}{X dC hH:Option Addr}{bN eh gu:Nat}{aF:List aY}{bs:List Chunk}(Y:g.at o)(aa:g.ok)(ay:Rd o X (aP l.x))(bu:l.x.length<=bN)(hu:Rd o dC (l.use.map bG))(be:l.use.length<=eh)(bp:l.use.length<=maxLen)(ba:cC (.slice hH aF.length gu) aF bs)(a0:Holds o bs)(bg:aF.length<=maxLen)(bh:∀m∈aF,m.l.length<=1000)(aQ:∀m∈aF,∀v∈m.l,v.ok):Calls prog 44 #[g.p,ab f,.agg (ge l X bN dC eh).toArray,.slice hH aF.length gu] o λr w=>∃(q:aD)(aV:List Chunk),r= .tuple #[.agg q.cs.toArray,ab (if(e9 g f aF l).isSome=true then 0 else 1)]/\(∀m,e9 g f aF l=some m->q.P=m/\fw q aV)/\q.tag.length=32/\C o [] [aV] w:=by
 have a:Own [] o:=C.start o;refine jH func44 (bJ 2 a j j (λH w a=>cx 0 a j (λF w a=>?_)));have a:C o [] [bf F dO,J H (ge l X bN dC eh).toArray 29] w:=a;refine bP 6 (U:=ge l X bN dC eh) j j j (bq (C.aj (b:=H) a)) (br 0 (DS (Y.st a (al.off.nil g)) aa (a.rd ay (cc.of_nil _ _))) j (λw I=>?_));have a:=a.aO I;refine bo 1 j j (λaC=>?_) (λaC=>?_)
 .refine aq 2 j (cP (c:=dO.cs.toArray) j j j (λ_=>by kernel_rfl) ?_);refine cv 0 (a.bc F) j j j (by simpa using(dO).one) (by rw [List.size_toArray];exact(dO).bU j) (λw a=>?_);have a:=C.whole (U:=(dO).cs) a (by rw [(dO).bU j];rfl);have a:C o [] (bf F (dO)::_) w:=a;refine bH 1 j ⟨.tuple #[.agg dO.cs.toArray,ab 1],λw O=>?_⟩;have a:=O.st a (cF _);refine⟨ds (U:=dO.cs) results44 j j j j (bq (C.aj (b:=F) a)),?_⟩;have N:e9 g f aF l=none:=az (by rw [show l.may g f=false from by simpa using aC];decide);rw [N];exact⟨dO,[],j,(by intro m hm;cases hm),j,a.bare.empty⟩
 have a:C o [] ([J H (ge l X bN dC eh).toArray 29]++_) _:=a.front;have a:=a.drew;have Z:l.may g f=true:=by simpa using aC
 have bB:l.x.length<=200:=eY.ye Z;refine bx 2 j (λw=>∃ae,C o [] ([J H (ge l X bN dC eh).toArray 29]++ae) w) ⟨_,a⟩ (ag 0 1 j (a8 1 j a2 j (ag 2 2 j (a8 4 j a2 j (ag 5 1 j (a8 6 j a2 j (ag 7 1 j (a8 8 j a2 j (ag 9 1 j (a8 10 j a2 j (aS 11 13 j j ?_ ?_)))))))))));refine cS j j j (gN (c:=bN) (a.rd ay (cc.of_nil _ _)) (by omega)) (λr w⟨E,Q,I⟩=>?_);obtain⟨n,t,rfl,_,_⟩:=Q.form;have a:=a.aO I;have a:C o [] ([J H (ge l X bN dC eh).toArray 29]++_) w:=a.front;refine ao ⟨⟨_,a⟩,?_⟩;refine bl 12 j (λw _=>eX (c:=(l.bi f n t none [] 0).cs.toArray) j (λ_=>by kernel_rfl)) (aX 13 j (eu a j j (λD w a=>?_)));have a:C o [] (bf D dO::_) w:=a;have a:C o [] ([J H (ge l X bN dC eh).toArray 29]++_) w:=a.front;refine ao ⟨⟨_,a⟩,?_⟩;rotate_left
 refine eu a j j (λD w a=>?_);have a:C o [] (bf D dO::_) w:=a;have a:C o [] ([J H (ge l X bN dC eh).toArray 29]++_) w:=a.front;refine ao ⟨⟨_,a⟩,?_⟩;refine aX 11 j (cS j j j (gN (c:=bN) (a.rd ay (cc.of_nil _ _)) (by omega)) (λr w⟨E,Q,I⟩=>?_));obtain⟨n,t,rfl,_,_⟩:=Q.form;have a:=a.aO I;have a:C o [] ([J H (ge l X bN dC eh).toArray 29]++_) w:=a.front;refine ao ⟨⟨_,a⟩,?_⟩;refine bl 12 j (λw _=>eX (c:=(l.bi f n t none [] 0).cs.toArray) j (λ_=>by kernel_rfl)) ?_;rotate_left
 all_goals
  refine dK 14 j (c6 (a.bc D) j j j (by simpa using((l.bi f n t none [] 0)).one) (by rw [List.size_toArray];exact((l.bi f n t none [] 0)).bU j) bO (λw a=>?_));have a:=C.whole (U:=((l.bi f n t none [] 0)).cs) a (by rw [((l.bi f n t none [] 0)).bU j];rfl);have a:C o [] (bf D ((l.bi f n t none [] 0))::_) w:=a;refine ao (c5 (ar 3 j (ax (C.aj (b:=H) a) j) (br 0 (mZ (a.rd ay (cc.of_nil _ _)) (by omega) bu) j (λw I=>?_))));have a:=a.aO I;refine cx 0 a j (λaA w a=>cv 0 a j j j (by simpa using gC (ca l.x)) (by rw [List.size_toArray,dx,fm]) (λw a=>?_));have a:=C.whole (U:=aP (ca l.x)) a (by rw [dx,fm];rfl);have a:C o [] [bf D (l.bi f n t none [] 0),J H (ge l X bN dC eh).toArray 29,bf F dO,E,J aA (aP (ca l.x)).toArray 80] w:=a.as;refine ar 4 j (ax (C.aj (b:=H) a) j) (bo 5 j j (λR=>?_) (λR=>?_))
  .refine bP 2 (U:=aP (ca l.x)) j j (by rw [dx,fm]) (bq (C.aj (b:=aA) a)) (br 1 (n9 (Y.st a (al.off.nil g)) aa (fm _)) j (λw I=>?_));have a:=a.aO I;have S:(cT g 3 0 0 (ca l.x) f).ok:=jm _ _ _ _ _ _ (fm _);refine gj (U:=(cT g 3 0 0 (ca l.x) f).cs) a j j j ((cT g 3 0 0 (ca l.x) f).len S) (by decide) (by decide) (λau w a=>?_);have a:C o [] (J au (cT g 3 0 0 (ca l.x) f).cs.toArray 115::_) w:=a;refine aq 1 j (cO (a.bc D) j j j j (by rw [hl,(l.bi f n t none [] 0).bU j];decide) (λw a=>?_));have a:=C.f9 a (eY.mj l f n t none (some ⟨au,0,none⟩) [] [(cT g 3 0 0 (ca l.x) f)] 0 1);have a:C o [] (bf D (l.bi f n t (some ⟨au,0,none⟩) [(cT g 3 0 0 (ca l.x) f)] 1)::_) w:=a;obtain⟨B,d,z,U,ac,K,aM,M,a⟩:∃(B:Option Addr)(d:Nat)(z:List Chunk)(U:List aN),l.aI g f aF=some U/\en (.slice B U.length d) U z/\U.length<=10/\(∀v∈U,v.ok)/\C o [] [bf D (l.bi f n t B U d),J H (ge l X bN dC eh).toArray 29,bf F dO,E,z] w:=⟨some ⟨au,0,none⟩,1,_,[(cT g 3 0 0 (ca l.x) f)],by unfold eY.aI;rw [if_pos (by simpa using R)],en.lit S,by simp,(by intro v T;rw [List.mem_singleton.1 T];exact S),a.as⟩;have ak:fw (l.bi f n t B U d) (E++z):=⟨E,z,j,⟨Q,K⟩,j,M,⟨show l.x.length<=1000000 by omega,show U.length<=1000 by omega⟩⟩;refine bP 4 (U:=(l.bi f n t B U d).cs) j j ((l.bi f n t B U d).bU j) (bq (C.aj (b:=D) a)) ?_;have ai:=(ak.read (Holds.app (a.holds (G:=E) (by simp)) (a.holds (G:=z) (by simp)))).1;refine bk 0 (lW ai (show l.x.length<=_ by omega) (show U.length<=_ by omega)) j (λr w⟨bn,af,I⟩=>?_);have a:=a.aO I
   have ah:(l.bi f n t B U d).body.length<=1000000:=by
    have aW:=lb U M;have aZ:=jn l.x (by omega);have ad:=gb [4,l.k,f,l.s,l.v];simp only [ex,fW] at ad;show(ep [4,l.k,f,l.s,l.v]++(hd l.x++ja U)).length<=_;simp only [cj];omega
   obtain⟨aU,gV,rfl,_,_,am,_⟩:=af.read (a.holds (by simp));refine br 0 (mX (Y.st a (al.off.nil g)) aa am ah (i:=f) (d:=gV)) j (λw I=>?_);have a:=a.aO I;refine aq 1 j (c6 (a.bc D) j j j (by simpa using gC (g.ct f (l.bi f n t B U d).body)) (by rw [List.size_toArray,dx,al.ei]) (by rw [List.size_toArray,(l.bi f n t B U d).bU j];decide) (λw a=>?_));have a:=C.f9 a ((l.bi f n t B U d).ow (g.ct f (l.bi f n t B U d).body) (by rw [al.ei];rfl));have a:C o [] (bf D ({l.bi f n t B U d with tag:=g.ct f (l.bi f n t B U d).body}:aD)::_) w:=a;refine bP 2 (U:=({l.bi f n t B U d with tag:=g.ct f (l.bi f n t B U d).body}:aD).cs) j j (({l.bi f n t B U d with tag:=g.ct f (l.bi f n t B U d).body}:aD).bU (al.ei _ _ _)) (bq (C.aj (b:=D) a)) (cv 0 (a.bc F) j j j (by simpa using(({l.bi f n t B U d with tag:=g.ct f (l.bi f n t B U d).body}:aD)).one) (by rw [List.size_toArray];exact(({l.bi f n t B U d with tag:=g.ct f (l.bi f n t B U d).body}:aD)).bU (al.ei _ _ _)) (λw a=>?_));have a:=C.whole (U:=(({l.bi f n t B U d with tag:=g.ct f (l.bi f n t B U d).body}:aD)).cs) a (by rw [(({l.bi f n t B U d with tag:=g.ct f (l.bi f n t B U d).body}:aD)).bU (al.ei _ _ _)];rfl);have a:C o [] (bf F (({l.bi f n t B U d with tag:=g.ct f (l.bi f n t B U d).body}:aD))::_) w:=a;refine bH 1 j ⟨.tuple #[.agg ({l.bi f n t B U d with tag:=g.ct f (l.bi f n t B U d).body}:aD).cs.toArray,ab 0],λw O=>?_⟩;have a:=O.st a (cF _);refine⟨ds (U:=({l.bi f n t B U d with tag:=g.ct f (l.bi f n t B U d).body}:aD).cs) results44 j j j (({l.bi f n t B U d with tag:=g.ct f (l.bi f n t B U d).body}:aD).bU (al.ei _ _ _)) (bq (C.aj (b:=F) a)),?_⟩
   have N:e9 g f aF l=some ((l.msg f U).ct g):=by
    unfold e9;rw [aR Z,ac];rfl
   rw [N];have a:C o [] [E,z] w:=a.as;exact⟨({l.bi f n t B U d with tag:=g.ct f (l.bi f n t B U d).body}:aD),E++z,j,(λm hm=>by cases hm;exact⟨j,E,z,j,⟨Q,K⟩,al.ei _ _ _,M,⟨show l.x.length<=1000000 by omega,show U.length<=1000 by omega⟩⟩),al.ei _ _ _,C.perm (A:=[E,z]) a (by simp)⟩
  refine bo 4 j j (λW=>?_) (λW=>?_);refine ar 4 j (ax (C.aj (b:=H) a) j) (aq 2 j (c9 65 j (λaG=>?_) (λaG=>?_)))
  .refine aq 7 j (cP (c:=dO.cs.toArray) j j j (λ_=>by kernel_rfl) ?_);refine cv 0 (a.bc F) j j j (by simpa using(dO).one) (by rw [List.size_toArray];exact(dO).bU j) (λw a=>?_);have a:=C.whole (U:=(dO).cs) a (by rw [(dO).bU j];rfl);have a:C o [] (bf F (dO)::_) w:=a;refine bH 1 j ⟨.tuple #[.agg dO.cs.toArray,ab 1],λw O=>?_⟩;have a:=O.st a (cF _);refine⟨ds (U:=dO.cs) results44 j j j j (bq (C.aj (b:=F) a)),?_⟩
   have N:e9 g f aF l=none:=by
    unfold e9 eY.aI;rw [aR Z,az (by simpa using R),if_pos (by simpa using W),if_pos (.inl (of_decide_eq_true aG))];rfl
   rw [N];exact⟨dO,[],j,(by intro m hm;cases hm),j,a.bare.empty⟩
  refine ar 1 j (ax (C.aj (b:=H) a) j) (cy 2 j j (λaH=>?_) (λaH=>?_))
  .refine aq 2 j (cP (c:=dO.cs.toArray) j j j (λ_=>by kernel_rfl) ?_);refine cv 0 (a.bc F) j j j (by simpa using(dO).one) (by rw [List.size_toArray];exact(dO).bU j) (λw a=>?_);have a:=C.whole (U:=(dO).cs) a (by rw [(dO).bU j];rfl);have a:C o [] (bf F (dO)::_) w:=a;refine bH 1 j ⟨.tuple #[.agg dO.cs.toArray,ab 1],λw O=>?_⟩;have a:=O.st a (cF _);refine⟨ds (U:=dO.cs) results44 j j j j (bq (C.aj (b:=F) a)),?_⟩
   have N:e9 g f aF l=none:=by
    unfold e9 eY.aI;rw [aR Z,az (by simpa using R),if_pos (by simpa using W),if_pos (.inr aH)];rfl
   rw [N];exact⟨dO,[],j,(by intro m hm;cases hm),j,a.bare.empty⟩
  refine ar 4 j (ax (C.aj (b:=H) a) j) (ar 1 j (ax (C.aj (b:=H) a) j) (ar 1 j (ax (C.aj (b:=H) a) j) (bP 0 (U:=aP (ca l.x)) j j (by rw [dx,fm]) (bq (C.aj (b:=aA) a)) (br 1 (n9 (Y.st a (al.off.nil g)) aa (fm _)) j (λw I=>?_)))));have a:=a.aO I;have S:(cT g l.dv l.s l.v (ca l.x) f).ok:=jm _ _ _ _ _ _ (fm _);refine gj (U:=(cT g l.dv l.s l.v (ca l.x) f).cs) a j j j ((cT g l.dv l.s l.v (ca l.x) f).len S) (by decide) (by decide) (λav w a=>?_);have a:C o [] (J av (cT g l.dv l.s l.v (ca l.x) f).cs.toArray 115::_) w:=a;refine aq 1 j (cO (a.bc D) j j j j (by rw [hl,(l.bi f n t none [] 0).bU j];decide) (λw a=>?_));have a:=C.f9 a (eY.mj l f n t none (some ⟨av,0,none⟩) [] [(cT g l.dv l.s l.v (ca l.x) f)] 0 1);have a:C o [] (bf D (l.bi f n t (some ⟨av,0,none⟩) [(cT g l.dv l.s l.v (ca l.x) f)] 1)::_) w:=a;obtain⟨B,d,z,U,ac,K,aM,M,a⟩:∃(B:Option Addr)(d:Nat)(z:List Chunk)(U:List aN),l.aI g f aF=some U/\en (.slice B U.length d) U z/\U.length<=10/\(∀v∈U,v.ok)/\C o [] [bf D (l.bi f n t B U d),J H (ge l X bN dC eh).toArray 29,bf F dO,E,z] w:=⟨some ⟨av,0,none⟩,1,_,[(cT g l.dv l.s l.v (ca l.x) f)],by unfold eY.aI;rw [if_neg (by simpa using R),if_pos (by simpa using W),if_neg (λh=>h.elim (λh=>absurd h (of_decide_eq_false aG)) (λh=>absurd h aH))],en.lit S,by simp,(by intro v T;rw [List.mem_singleton.1 T];exact S),a.as⟩;rotate_left
  refine ar 4 j (ax (C.aj (b:=H) a) j) (bk 0 (Ez (o:=w) (aF:=aF) (hH:=hH) (dC:=dC) (gu:=gu) (eh:=eh) (use:=l.use)) j (λr w⟨a4,a5,bm,I⟩=>?_));subst bm;have bw:=(a0.st a).st I;have bz:=I.rd (a.rd hu (cc.of_nil _ _)) (cc.of_nil _ _);have a:=(a.aO I).empty;have a:C o [] [J a5 #[.slice dC l.use.length eh] 27,J a4 #[.slice hH aF.length gu] 58,bf D (l.bi f n t none [] 0),J H (ge l X bN dC eh).toArray 29,bf F dO,E,[]] w:=a.as;have a:C o [] ([J a5 #[.slice dC l.use.length eh] 27,J a4 #[.slice hH aF.length gu] 58]++[bf D (l.bi f n t none [] 0),J H (ge l X bN dC eh).toArray 29,bf F dO,E,[]]) w:=a
  refine jM 1 j (Ew ba) j (by have:=a.size;simpa using this) a j (λ_=>rfl) (by intro p a3;simp at a3;rcases a3 with rfl<;>rfl)
   (λpre ae=>∃B d z,ae=[bf D (l.bi f n t B pre d),J H (ge l X bN dC eh).toArray 29,bf F dO,E,z]/\en (.slice B pre.length d) pre z/\pre.length<=10/\∃r,il aF l.use=pre++r) (λe ae=>match e with| .exit id=>id=1/\∃B d z,∃pre:List aN,ae=[bf D (l.bi f n t B pre d),J H (ge l X bN dC eh).toArray 29,bf F dO,E,z]/\en (.slice B pre.length d) pre z/\pre=(il aF l.use).take 10|_=>False) ⟨none,0,[],j,Row.nil _ _,cp _,_,j⟩ (λL aJ a9=>⟨m3.new a0 hu (by rw [<-dS];exact a.snoc a9),bp,bg,be,bh⟩) (λ_ _ _ _=>trivial) ?_ ?_ (λ_ _ h=>h.elim) ?_
  .rintro y pre x bv L bC ⟨rx,aw⟩ ⟨B,d,z,rfl,K,aK,_⟩ a;have an:x.ok:=rV aQ l.use x (by rw [aw];simp);have a:=C.gg a;have bA:pre.length<(il aF l.use).length:=by rw [aw];simp
   refine cx 1 a j (λaB w a=>cv 0 (a.bc aB) j j j (by simpa using x.one) (by rw [List.size_toArray];exact x.len an) (λw a=>?_));have a:=C.whole (U:=x.cs) a (by rw [x.len an];rfl);have a:C _ _ [J aB x.cs.toArray 115,bf D (l.bi f n t B pre d),J H (ge l X bN dC eh).toArray 29,bf F dO,E,z] w:=a.as;refine bH 0 j (⟨j,_,a,λL bD a=>?_⟩);have a:=C.gg a;refine ar 5 j (ax (C.aj (b:=D) a) (show(l.bi f n t B pre d).cs.toArray[6]? =some (.slice B pre.length d) from aD.eZ _)) (cy 2 j j (λaE=>?_) (λaE=>?_))
   .refine bH 0 j (⟨[bf D (l.bi f n t B pre d),J H (ge l X bN dC eh).toArray 29,bf F dO,E,z],a.as,j,B,d,z,pre,j,K,?_⟩);have bj:pre.length=10:=by omega
    rw [aw,<-bj,lQ]
   refine ar 3 j (ax (C.aj (b:=D) a) (show(l.bi f n t B pre d).cs.toArray[6]? =some (.slice B pre.length d) from aD.eZ _)) (bP 0 (U:=x.cs) j j (x.len an) (bq (C.aj (b:=aB) a)) (gj (U:=x.cs) a j j j (x.len an) (by decide) (by decide) (λa7 w a=>?_)));have aT:=bq (C.aj (b:=a7) a);refine e6 (a.to z) K j j (by decide) j j j (m:=1) (news:=x.cs) (x.len an) aT (by intro u hu;exact List.all_eq_true.1 x.one u (by simpa using hu)) (by omega) (by unfold maxLen;have:=aE;omega) (λv2 ap w a1 a=>?_);obtain⟨V,dy,rfl,_,_⟩:=Row.form a1
   have bt:en (.slice V (pre++[x]).length dy) (pre++[x]) ap:=by
    show Row 115 68 _ (pre++[x]).length (vcs (pre++[x])) ap;rw [cj,List.length_singleton,sH];exact a1
   refine aq 1 j (cO (a.bc D) j j j j (by rw [hl,(l.bi f n t B pre d).bU j];decide) (λw a=>?_));have a:=C.f9 a (show _=(l.bi f n t V (pre++[x]) dy).cs.toArray from by have:=eY.mj l f n t B V pre (pre++[x]) d dy;rw [cj,List.length_singleton] at this;exact this);have a:C _ _ (bf D (l.bi f n t V (pre++[x]) dy)::_) w:=a;refine bH 0 j (⟨[bf D (l.bi f n t V (pre++[x]) dy),J H (ge l X bN dC eh).toArray 29,bf F dO,E,ap],a.as,V,dy,ap,j,bt,by rw [cj,List.length_singleton];have:=aE;omega,⟨rx,by rw [aw,List.append_assoc];rfl⟩⟩)
  .rintro xs a6 w bb ⟨B,d,z,rfl,K,aK,_⟩ a;subst bb;obtain⟨B,d,z,U,ac,K,aM,M,a⟩:∃(B:Option Addr)(d:Nat)(z:List Chunk)(U:List aN),l.aI g f aF=some U/\en (.slice B U.length d) U z/\U.length<=10/\(∀v∈U,v.ok)/\C o [] [bf D (l.bi f n t B U d),J H (ge l X bN dC eh).toArray 29,bf F dO,E,z] w:=⟨B,d,z,il aF l.use,by unfold eY.aI;rw [if_neg (by simpa using R),if_neg (by simpa using W),List.take_of_length_le aK],K,aK,(λv T=>rV aQ l.use v T),a.as⟩;have ak:fw (l.bi f n t B U d) (E++z):=⟨E,z,j,⟨Q,K⟩,j,M,⟨show l.x.length<=1000000 by omega,show U.length<=1000 by omega⟩⟩;refine bP 4 (U:=(l.bi f n t B U d).cs) j j ((l.bi f n t B U d).bU j) (bq (C.aj (b:=D) a)) ?_;have ai:=(ak.read (Holds.app (a.holds (G:=E) (by simp)) (a.holds (G:=z) (by simp)))).1;refine bk 0 (lW ai (show l.x.length<=_ by omega) (show U.length<=_ by omega)) j (λr w⟨bn,af,I⟩=>?_);have a:=a.aO I
   have ah:(l.bi f n t B U d).body.length<=1000000:=by
    have aW:=lb U M;have aZ:=jn l.x (by omega);have ad:=gb [4,l.k,f,l.s,l.v];simp only [ex,fW] at ad;show(ep [4,l.k,f,l.s,l.v]++(hd l.x++ja U)).length<=_;simp only [cj];omega
   obtain⟨aU,gV,rfl,_,_,am,_⟩:=af.read (a.holds (by simp));refine br 0 (mX (Y.st a (al.off.nil g)) aa am ah (i:=f) (d:=gV)) j (λw I=>?_);have a:=a.aO I;refine aq 1 j (c6 (a.bc D) j j j (by simpa using gC (g.ct f (l.bi f n t B U d).body)) (by rw [List.size_toArray,dx,al.ei]) (by rw [List.size_toArray,(l.bi f n t B U d).bU j];decide) (λw a=>?_));have a:=C.f9 a ((l.bi f n t B U d).ow (g.ct f (l.bi f n t B U d).body) (by rw [al.ei];rfl));have a:C o [] (bf D ({l.bi f n t B U d with tag:=g.ct f (l.bi f n t B U d).body}:aD)::_) w:=a;refine bP 2 (U:=({l.bi f n t B U d with tag:=g.ct f (l.bi f n t B U d).body}:aD).cs) j j (({l.bi f n t B U d with tag:=g.ct f (l.bi f n t B U d).body}:aD).bU (al.ei _ _ _)) (bq (C.aj (b:=D) a)) (cv 0 (a.bc F) j j j (by simpa using(({l.bi f n t B U d with tag:=g.ct f (l.bi f n t B U d).body}:aD)).one) (by rw [List.size_toArray];exact(({l.bi f n t B U d with tag:=g.ct f (l.bi f n t B U d).body}:aD)).bU (al.ei _ _ _)) (λw a=>?_));have a:=C.whole (U:=(({l.bi f n t B U d with tag:=g.ct f (l.bi f n t B U d).body}:aD)).cs) a (by rw [(({l.bi f n t B U d with tag:=g.ct f (l.bi f n t B U d).body}:aD)).bU (al.ei _ _ _)];rfl);have a:C o [] (bf F (({l.bi f n t B U d with tag:=g.ct f (l.bi f n t B U d).body}:aD))::_) w:=a;refine bH 1 j ⟨.tuple #[.agg ({l.bi f n t B U d with tag:=g.ct f (l.bi f n t B U d).body}:aD).cs.toArray,ab 0],λw O=>?_⟩;have a:=O.st a (cF _);refine⟨ds (U:=({l.bi f n t B U d with tag:=g.ct f (l.bi f n t B U d).body}:aD).cs) results44 j j j (({l.bi f n t B U d with tag:=g.ct f (l.bi f n t B U d).body}:aD).bU (al.ei _ _ _)) (bq (C.aj (b:=F) a)),?_⟩
   have N:e9 g f aF l=some ((l.msg f U).ct g):=by
    unfold e9;rw [aR Z,ac];rfl
   rw [N];have a:C o [] [E,z] w:=a.as;exact⟨({l.bi f n t B U d with tag:=g.ct f (l.bi f n t B U d).body}:aD),E++z,j,(λm hm=>by cases hm;exact⟨j,E,z,j,⟨Q,K⟩,al.ei _ _ _,M,⟨show l.x.length<=1000000 by omega,show U.length<=1000 by omega⟩⟩),al.ei _ _ _,C.perm (A:=[E,z]) a (by simp)⟩
  rintro id a6 w bd a;obtain⟨rfl,B,d,z,pre,rfl,K,aL⟩:=bd;refine⟨_,j,?_⟩;obtain⟨B,d,z,U,ac,K,aM,M,a⟩:∃(B:Option Addr)(d:Nat)(z:List Chunk)(U:List aN),l.aI g f aF=some U/\en (.slice B U.length d) U z/\U.length<=10/\(∀v∈U,v.ok)/\C o [] [bf D (l.bi f n t B U d),J H (ge l X bN dC eh).toArray 29,bf F dO,E,z] w:=⟨B,d,z,pre,by unfold eY.aI;rw [if_neg (by simpa using R),if_neg (by simpa using W),aL],K,by rw [aL,List.length_take];omega,(λv T=>rV aQ l.use v (List.mem_of_mem_take (aL▸T))),a.as⟩;rotate_left
  all_goals
   have ak:fw (l.bi f n t B U d) (E++z):=⟨E,z,j,⟨Q,K⟩,j,M,⟨show l.x.length<=1000000 by omega,show U.length<=1000 by omega⟩⟩;refine bP 4 (U:=(l.bi f n t B U d).cs) j j ((l.bi f n t B U d).bU j) (bq (C.aj (b:=D) a)) ?_;have ai:=(ak.read (Holds.app (a.holds (G:=E) (by simp)) (a.holds (G:=z) (by simp)))).1;refine bk 0 (lW ai (show l.x.length<=_ by omega) (show U.length<=_ by omega)) j (λr w⟨bn,af,I⟩=>?_);have a:=a.aO I
   have ah:(l.bi f n t B U d).body.length<=1000000:=by
    have aW:=lb U M;have aZ:=jn l.x (by omega);have ad:=gb [4,l.k,f,l.s,l.v];simp only [ex,fW] at ad;show(ep [4,l.k,f,l.s,l.v]++(hd l.x++ja U)).length<=_;simp only [cj];omega
   obtain⟨aU,gV,rfl,_,_,am,_⟩:=af.read (a.holds (by simp));refine br 0 (mX (Y.st a (al.off.nil g)) aa am ah (i:=f) (d:=gV)) j (λw I=>?_);have a:=a.aO I;refine aq 1 j (c6 (a.bc D) j j j (by simpa using gC (g.ct f (l.bi f n t B U d).body)) (by rw [List.size_toArray,dx,al.ei]) (by rw [List.size_toArray,(l.bi f n t B U d).bU j];decide) (λw a=>?_));have a:=C.f9 a ((l.bi f n t B U d).ow (g.ct f (l.bi f n t B U d).body) (by rw [al.ei];rfl));have a:C o [] (bf D ({l.bi f n t B U d with tag:=g.ct f (l.bi f n t B U d).body}:aD)::_) w:=a;refine bP 2 (U:=({l.bi f n t B U d with tag:=g.ct f (l.bi f n t B U d).body}:aD).cs) j j (({l.bi f n t B U d with tag:=g.ct f (l.bi f n t B U d).body}:aD).bU (al.ei _ _ _)) (bq (C.aj (b:=D) a)) (cv 0 (a.bc F) j j j (by simpa using(({l.bi f n t B U d with tag:=g.ct f (l.bi f n t B U d).body}:aD)).one) (by rw [List.size_toArray];exact(({l.bi f n t B U d with tag:=g.ct f (l.bi f n t B U d).body}:aD)).bU (al.ei _ _ _)) (λw a=>?_));have a:=C.whole (U:=(({l.bi f n t B U d with tag:=g.ct f (l.bi f n t B U d).body}:aD)).cs) a (by rw [(({l.bi f n t B U d with tag:=g.ct f (l.bi f n t B U d).body}:aD)).bU (al.ei _ _ _)];rfl);have a:C o [] (bf F (({l.bi f n t B U d with tag:=g.ct f (l.bi f n t B U d).body}:aD))::_) w:=a;refine bH 1 j ⟨.tuple #[.agg ({l.bi f n t B U d with tag:=g.ct f (l.bi f n t B U d).body}:aD).cs.toArray,ab 0],λw O=>?_⟩;have a:=O.st a (cF _);refine⟨ds (U:=({l.bi f n t B U d with tag:=g.ct f (l.bi f n t B U d).body}:aD).cs) results44 j j j (({l.bi f n t B U d with tag:=g.ct f (l.bi f n t B U d).body}:aD).bU (al.ei _ _ _)) (bq (C.aj (b:=F) a)),?_⟩
   have N:e9 g f aF l=some ((l.msg f U).ct g):=by
    unfold e9;rw [aR Z,ac];rfl
   rw [N];have a:C o [] [E,z] w:=a.as;exact⟨({l.bi f n t B U d with tag:=g.ct f (l.bi f n t B U d).body}:aD),E++z,j,(λm hm=>by cases hm;exact⟨j,E,z,j,⟨Q,K⟩,al.ei _ _ _,M,⟨show l.x.length<=1000000 by omega,show U.length<=1000 by omega⟩⟩),al.ei _ _ _,C.perm (A:=[E,z]) a (by simp)⟩
def aY.jJ(m:aY):Prop:=m.dF/\m.s<=63
abbrev el(l:List aY):Prop:=∀m∈l,m.jJ
theorem el.nil:el []:=by intro m hm;cases hm
theorem el.app{a b:List aY}(c:el a)(d:el b):el (a++b):=λm hm=>(fL.1 hm).elim (c m) (d m)
section
variable {g:al} {N:Nat} {s:ai}
theorem ai.zt(h:s.ok g N){m:aY}{t:Int}(c:m.x.length<=200)(a:m.l.length<=10)(b:∀v∈m.l,v.ok):(s.ju g m t).jJ:=⟨ai.qg c a b,h.slot.2⟩
theorem ai.wh(h:s.ok g N){m:aY}(c:m.x.length<=200)(a:m.l.length<=10)(b:∀v∈m.l,v.ok):el (s.all g m):=λd hm=>by
 unfold ai.all at hm;obtain⟨t,_,rfl⟩:=ee.1 hm;exact ai.zt h c a b
theorem ai.z9(h:s.ok g N)(k:Int)(x:List UInt8):el (s.aI g k x).2:=
 ai.wh h (cp _) (by show 1<=10;omega) (λv a=>by rw [hO.1 a];exact jm _ _ _ _ _ _ (fm _))
theorem ai.GU(c:g.ok)(h:s.ok g N){r:ai×List aY}(a:s.step g=some r):el r.2:=by
 unfold ai.step at a;split at a
 .rename_i e;cases a;unfold ai.gG at e;cases b:(cW s.aC).findSome? λp=>s.fS g p.2 with
  |none=>rw [b] at e;cases e
  |some y=>rw [b] at e;cases e;exact el.nil
 .split at a
  .rename_i e;cases a;unfold ai.fP at e;split at e
   .cases e
   .split at e
    .cases e
    .split at e
     .cases e;exact ai.z9 (s:={s with iv:=s.view}) {h with} 1 _
     .cases e
  .split at a
   .rename_i e;cases a;unfold ai.gv at e;split at e
    .cases e
    .split at e
     .cases e
     .rename_i y he;cases e;have:=h.fS c (h.gU 1 s.view) he;exact ai.z9 (s:={s with comm:=s.view,im:=s.view,dT:=y.1,aZ:=y.2}) {h with dT:=this.1,aZ:=this.2.1,l6:=this.2.2} 2 _
   .unfold ai.gh at a;split at a
    .cases a
    .split at a
     .cases a
     .rename_i y d;cases a;have:=h.gM d;exact ai.wh h this.1 this.2.1 this.2.2
theorem ai.pK(b:g.ok):∀(k:Nat){N:Nat}{s:ai}{l:List aY},s.ok g N->el l->el (ai.go g k s l).2
 |0,_,_,_,_,a=>a
 |k+1,N,s,l,h,a=>by
  rw [ai.go];split
  .exact a
  .split
   .exact a
   .rename_i lB bZ e;exact ai.pK b k (h.step b e) (a.app (ai.GU b h e))
theorem ai.sx(a:g.ok)(h:s.ok g N):el (s.steps g).2:=ai.pK a 5 h el.nil
theorem ai.G6(a:g.ok)(h:s.ok g N){m:aY}(hm:m.dF):el (s.take g m).2:=by
 unfold ai.take;split
 .exact el.nil
 .exact ai.sx a (h.fd hm)
theorem ai.HG(a:g.ok)(h:s.ok g N)(x:List UInt8):el (s.g2 g x).2:=by
 unfold ai.g2;split
 .exact el.nil
 .split
  .rename_i b;exact ai.sx (s:={s with want:=x}) a {h with want:=b.2}
  .exact ai.sx a h
theorem ai.Hj(b:g.ok)(h:s.ok g N):el (s.tick g).2:=by
 unfold ai.tick;split
 .exact el.nil
 .rename_i aT;have c:s.view<8:=by simp at aT;omega
  refine el.app ?_ (ai.sx b (h.gy c));have a:ai.ok g N ({s with view:=s.view+1}:ai):={h with view:=⟨show 0<=s.view+1 by have:=h.view;omega,show s.view+1<=8 by omega⟩};unfold ai.gy;dsimp only;split
  .exact el.nil
  .intro m hm;rw [hO.1 hm];exact ai.zt a h.dT h.aZ h.l6
end
section
variable {g:al} {N M:Nat}
theorem w4(a:g.ok){c:Option ai}(h:∀r,c=some r->r.ok g M){m:aY}(hm:m.dF):el (ho g c m).2:=by
 unfold ho;cases c with
 |none=>exact el.nil
 |some r=>exact ai.G6 a (h r j) hm
theorem w6(a:g.ok){c:Option ai}(h:∀r,c=some r->r.ok g M)(x:List UInt8):el (fR g c x).2:=by
 unfold fR;cases c with
 |none=>exact el.nil
 |some r=>exact ai.HG a (h r j) x
theorem CD(a:g.ok){c:Option ai}(h:∀r,c=some r->r.ok g M):el (i0 g c).2:=by
 unfold i0;cases c with
 |none=>exact el.nil
 |some r=>exact ai.Hj a (h r j)
theorem aE.Fo(c:g.ok){a:aE×List aY}{p:Int×aY}(d:p.2.dF)(h:∀r,a.1.cur=some r->r.ok g M)(b:el a.2):el (aE.one g a p).2:=by
 unfold aE.one;split
 .exact b.app (w4 c h d)
 .split<;>exact b
theorem aE.xv(d:g.ok):∀(l:List (Int×aY))(a:aE×List aY)(M:Nat),(∀p∈l,p.2.dF)->(∀r,a.1.cur=some r->r.ok g M)->el a.2->el (l.foldl (aE.one g) a).2
 |[],_,_,_,_,c=>c
 |p::r,a,M,b,h,c=>by
  rw [h5];exact aE.xv d r _ (M+6) (λq e=>b q (by simp [e])) (aE.yL d (b p (by simp)) h) (aE.Fo d (b p (by simp)) h c)
theorem aE.BU(a:g.ok){s:aE}(h:s.ok g N)(b:∀r,s.cur=some r->r.ok g M):el (s.dc g).2:=by
 obtain⟨_,_,_,_,_,c⟩:=h.wanted a b;unfold aE.dc;refine aE.xv a _ _ (M+5) (λp d=>h.k8 p (g7.1 d)) (λr e=>(c r e).1) ?_;unfold aE.wanted;split
 .exact el.nil
 .exact w6 a b _
theorem aE.pK(b:g.ok):∀(k:Nat){N:Nat}{s:aE}{l:List aY},s.ok g N->773<=N->el l->el (aE.go g k s l).2
 |0,_,_,_,_,_,a=>a
 |k+1,N,s,l,h,e,a=>by
  rw [aE.go];split
  .exact a
  .rename_i r f;split
   .obtain⟨c,d⟩:=aE.ka h f;exact aE.pK b k (c.dc b d (by omega)) e (a.app (aE.BU b c d))
   .exact a
theorem aE.pL(a:g.ok):∀(k:Nat){N:Nat}{s:aE}{l:List aY},s.ok g N->773<=N->(aE.go g k s l).2.length<=l.length+6450*k
 |0,_,_,l,_,_=>by show l.length<=_;omega
 |k+1,N,s,l,h,e=>by
  rw [aE.go];split
  .show l.length<=_;omega
  .rename_i r f;split
   .obtain⟨b,c⟩:=aE.ka h f;have d:=aE.pL a k (l:=l++((s.next r).dc g).2) (b.dc a c (by omega)) e;have i:=aE.wF (g:=g) a b.stored;rw [cj] at d;omega
   .show l.length<=_;omega
def hK(l:List aY):Prop:=el l/\l.length<=420000
theorem hK.nil:hK []:=⟨el.nil,cp _⟩
theorem aE.uq(b:g.ok){s:aE}{l:List aY}(h:s.ok g N)(a:773<=N)(c:el l)(ad:l.length<=51):hK (s.gE g l).2:=
 ⟨aE.pK b 65 h a c,by have:=aE.pL (l:=l) b 65 h a;show(aE.go g 65 s l).2.length<=_;omega⟩
theorem aE.zJ(c:g.ok){s:aE}(h:s.ok g N)(k:773<=N)(x:List UInt8):hK (s.eF g x).2.1:=by
 unfold aE.eF;split
 .exact hK.nil
 .rename_i m;split
  .exact hK.nil
  .split
   .exact hK.nil
   .rename_i l;split
    .exact hK.nil
    .have i:aE.ok g (N+5) ({s with cA:=s.cA++[x],cur:=(fR g s.cur x).1}:aE):=by
      have d:=h.more (gp N 5);refine{d with cur:=λr a=>⟨tX c (λr a=>(h.cur r a).1) r a,?_⟩,cA:=?_,k2:=λy b=>?_}
      .have e:s.cur.isSome=true:=by rw [<-rA (g:=g) (x:=x),show(fR g s.cur x).1=some r from a];rfl
       obtain⟨j,f⟩:=g8.1 e;exact(h.cur j f).2
      .show(s.cA++[x]).length<=16;rw [cj,List.length_singleton];omega
      .rcases fL.1 (show y∈s.cA++[x] from b) with b|b
       .exact h.k2 y b
       .rw [hO.1 b];omega
     exact aE.uq c i (by omega) (w6 c (λr a=>(h.cur r a).1) x) (ej (tW c _ _) (by omega))
theorem aE.Hu{s:aE}(h:s.ok g N)(m:aY):hK (s.told g m):=by
 unfold aE.told;split
 .exact hK.nil
 .rename_i d;split
  .exact hK.nil
  .rename_i e he;have hm:=ia he;obtain⟨a,b,c⟩:=h.ns e hm;have j:=(e8.1 he).1;have k:=h.log;have l:¬m.s<0:=λf=>d (.inr (.inl f))
   refine⟨λq i=>?_,by simp⟩;rw [hO.1 i];exact⟨⟨al.ei _ _ _,c,a,b⟩,show m.s<=63 by omega⟩
theorem aE.sz(b:g.ok){s:aE}(h:s.ok g N)(f:773<=N){m:aY}(hm:m.dF):hK (s.take g m).2:=by
 unfold aE.take;split
 .exact aE.zJ b h f _
 .split
  .exact aE.Hu h m
  .split
   .have i:aE.ok g (N+6) ({s with cur:=(ho g s.cur m).1}:aE):=by
     have c:=h.more (gp N 6);refine{c with cur:=λr a=>⟨ry b hm (λr a=>(h.cur r a).1) r a,?_⟩};have d:s.cur.isSome=true:=by rw [<-rz (g:=g) (m:=m),show(ho g s.cur m).1=some r from a];rfl
     obtain⟨j,e⟩:=g8.1 d;exact(h.cur j e).2
    exact aE.uq b i (by omega) (w4 b (λr a=>(h.cur r a).1) hm) (ej (rv b _ _) (by omega))
   .split<;>exact hK.nil
theorem aE.sA(b:g.ok){s:aE}(h:s.ok g N)(j:773<=N):hK (s.tick g).2:=by
 have f:aE.ok g (N+6) ({s with cur:=(i0 g s.cur).1}:aE):=by
  have c:=h.more (gp N 6);refine{c with cur:=λr a=>⟨tU b (λr a=>(h.cur r a).1) r a,?_⟩};have d:s.cur.isSome=true:=by rw [<-tV (g:=g),show(i0 g s.cur).1=some r from a];rfl
  obtain⟨i,e⟩:=g8.1 d;exact(h.cur i e).2
 exact aE.uq b f (by omega) (CD b (λr a=>(h.cur r a).1)) (w5 b _)
theorem bm.tG(b:g.ok){x:bm}(h:x.ok g N)(a:773<=N)(I:bD):hK (x.ask g I).2.1:=by
 unfold bm.ask;split
 .exact aE.zJ b h.s a _
 .exact hK.nil
theorem bm.sz(b:g.ok){x:bm}(h:x.ok g N)(a:773<=N){m:aY}(hm:m.dF):hK (x.take g m).2:=aE.sz b h.s a hm
theorem bm.sA(b:g.ok){x:bm}(h:x.ok g N)(a:773<=N):hK (x.tick g).2:=aE.sA b h.s a
end
def uO(s:ed):b7:=⟨((eb s).1:Nat),((eb (e2 s 1)).1:Nat),((eb (e2 s 2)).1:Nat),((eb (e2 s 3)).1:Nat)⟩
def gO(aG:List UInt8):Option b7:=if e2 (b0 aG 3) 4=some []/\(uO (b0 aG 3)).ok=true then some (uO (b0 aG 3)) else none
def jq:b7:=⟨0,0,0,0⟩
theorem CH{o:World}{A:Option Addr}{aG:List UInt8}{c:Nat}(E:Rd o A (aP aG))(q:aG.length<=1000000000):Calls prog 45 #[.slice A aG.length c] o λx w=>x= .tuple #[hh ((gO aG).getD jq),ab (if(gO aG).isSome=true then 0 else 2)]/\C o [] [] w:=by
 have a:Own [] o:=C.start o;refine fj func45 (cx 2 a j (λaS w a=>?_));have f:=wH (c:=c) (k:=3) (a.rd E (cc.of_nil _ _)) q;refine bk 4 f j (λx w⟨r,v,b,G,F,d,ad⟩=>?_);subst F;have a:=a.aO ad
 have i:(b0 aG 3).left.length<=1000000000:=by
  unfold b0;split
  .exact vp (some aG) q
  .simp [ed.left]
 have y:=eI a.cH d (eT (b0 aG 3) i 0);refine br 4 y j (λw⟨v,b,d,ad⟩=>?_);have a:=a.cG ad;have z:=eI a.cH d (eT (b0 aG 3) i 1);refine br 1 z j (λw⟨v,b,d,ad⟩=>?_);have a:=a.cG ad;have B:=eI a.cH d (eT (b0 aG 3) i 2);refine br 1 B j (λw⟨v,b,d,ad⟩=>?_);have a:=a.cG ad;have D:=eI a.cH d (eT (b0 aG 3) i 3);refine br 1 D j (λw⟨v,b,d,ad⟩=>?_);have a:=a.cG ad;refine cP (c:= #[.int .i64 ((eb (b0 aG 3)).1:Nat),.int .i64 ((eb (e2 (b0 aG 3) 1)).1:Nat),.int .i64 ((eb (e2 (b0 aG 3) 2)).1:Nat),.int .i64 ((eb (e2 (b0 aG 3) 3)).1:Nat)]) j j j (λ_=>by kernel_rfl) (cx 0 a j (λH w a=>cv 0 a j j j j j (λw a=>?_)));have a:=a.f1.f2.f1;have f:=Ae a.cH d;refine br 4 f j (λw ad=>?_);have a:=(a.cG ad).f2;refine aq 2 j (c9 20 j (λl=>?_) (λl=>?_))
 .refine aq 7 j (cP (c:= #[ab 0,ab 0,ab 0,ab 0]) j j j (λ_=>by kernel_rfl) ?_);refine cv 0 a.f3 j j j j j (λw a=>bH 1 j ⟨_,ds results45 j j j j (a.bQ),?_⟩)
  have n:¬e2 (b0 aG 3) 4=some []:=by
   have:=l;simp only [jY,qT] at this;exact this
  have hm:gO aG=none:=az (λh=>n h.1);rw [hm];exact⟨j,a.bare⟩
 refine bP 0 j j j a.bQ ?_;have f:=xR (o:=w) (k:=((eb (b0 aG 3)).1:Nat)) (p:=((eb (e2 (b0 aG 3) 1)).1:Nat)) (e:=((eb (e2 (b0 aG 3) 2)).1:Nat)) (t:=((eb (e2 (b0 aG 3) 3)).1:Nat));refine br 0 f j (λw ad=>?_);have a:=a.aO ad;refine bo 2 j j (λm=>?_) (λm=>?_)
 .refine aq 2 j (cP (c:= #[ab 0,ab 0,ab 0,ab 0]) j j j (λ_=>by kernel_rfl) ?_);refine cv 0 a.f3 j j j j j (λw a=>bH 1 j ⟨_,ds results45 j j j j (a.bQ),?_⟩)
  have hm:gO aG=none:=az (λh=>by
   have s:=h.2;have g:(!iM (((eb (b0 aG 3)).1:Nat):Int) (((eb (e2 (b0 aG 3) 1)).1:Nat):Int) (((eb (e2 (b0 aG 3) 2)).1:Nat):Int) (((eb (e2 (b0 aG 3) 3)).1:Nat):Int))=true:=m;rw [show iM (((eb (b0 aG 3)).1:Nat):Int) (((eb (e2 (b0 aG 3) 1)).1:Nat):Int) (((eb (e2 (b0 aG 3) 2)).1:Nat):Int) (((eb (e2 (b0 aG 3) 3)).1:Nat):Int)=true from s] at g;cases g)
  rw [hm];exact⟨j,a.bare⟩
 refine bP 3 j j j a.bQ (cv 0 a.f3 j j j j j (λw a=>bH 1 j ⟨_,ds results45 j j j j (a.bQ),?_⟩))
 have n:e2 (b0 aG 3) 4=some []:=by
  have:=l;simp only [Bool.not_eq_false',gn] at this;exact this
 have hm:gO aG=some (uO (b0 aG 3)):=aR ⟨n,by
  have g:(!iM (((eb (b0 aG 3)).1:Nat):Int) (((eb (e2 (b0 aG 3) 1)).1:Nat):Int) (((eb (e2 (b0 aG 3) 2)).1:Nat):Int) (((eb (e2 (b0 aG 3) 3)).1:Nat):Int))=false:=m;have u:iM (((eb (b0 aG 3)).1:Nat):Int) (((eb (e2 (b0 aG 3) 1)).1:Nat):Int) (((eb (e2 (b0 aG 3) 2)).1:Nat):Int) (((eb (e2 (b0 aG 3) 3)).1:Nat):Int)=true:=by simpa using g
  exact u⟩
 rw [hm];exact⟨j,a.bare⟩
structure gz where
 k:Int
 node:Int
 n:Int
 x:List UInt8
 e9:eY
def aU.rep(z:aU)(i:Int):Option bm:=if 0<=i then(z.bz[i.toNat]?).getD none else none
def aU.kz(z:aU)(i:Int)(x:bm):aU:={z with bz:=z.bz.set i.toNat (some x)}
def aU.fG(z:aU)(i:Nat)(p:bw×Int):aU:={z with b9:=z.b9.set i p}
def aU.part(z:aU)(i:Int):Option cR:=if 0<=i then z.parts[i.toNat]? else none
def mn(n:Int):bD:=⟨4,15,n,[],0,0,0,0,false⟩
def aU.rf(g:al)(z:aU)(s:gz):aU×Int:=z.asks g (mn s.n) (if gf (mn s.n)=true then 0 else 1)
def aU.inits(g:al)(z:aU)(i:Nat)(p:bw×Int):aU×Int:=(z.fG i (p.1.init.1,if p.1.init.2.2=0 then p.1.init.2.1.s else p.2)).asks g p.1.init.2.1 p.1.init.2.2
def aU.nB(z:aU)(i:Int)(b:cR):aU:={z with parts:=z.parts.set i.toNat b}
def aU.records(z:aU)(s:gz)(i:Nat)(p:bw×Int):aU×Int:=
 if(p.1.record s.n s.x).2.2≠0 then(z.fG i ((p.1.record s.n s.x).1,p.2),(p.1.record s.n s.x).2.2)
 else match z.part s.n with
  |none=>(z.fG i ((p.1.record s.n s.x).1,p.2),1)
  |some b=>((z.fG i ((if(b.log.append (p.1.record s.n s.x).2.1).2.2=0 then((p.1.record s.n s.x).1.jk s.n).1 else(p.1.record s.n s.x).1),p.2)).nB s.n {b with log:=(b.log.append (p.1.record s.n s.x).2.1).1},(b.log.append (p.1.record s.n s.x).2.1).2.2)
def aU.gZ(g:al)(z:aU)(s:gz):aU×Int:=match(if 0<=s.node then z.b9[s.node.toNat]? else none) with
 |none=>(z,1)
 |some p=>
  if s.k=1 then z.inits g s.node.toNat p
  else if s.k=2 then(z.fG s.node.toNat ((p.1.gs s.n).1,p.2)).asks g (p.1.gs s.n).2.1 (p.1.gs s.n).2.2
  else if s.k=3 then z.records s s.node.toNat p
  else(z.fG s.node.toNat ((p.1.end_ (s.n !=0)).1,p.2)).asks g (p.1.end_ (s.n !=0)).2.1 (p.1.end_ (s.n !=0)).2.2
def aU.kp(g:al)(z:aU)(m:aY):aU:=match z.rep m.to with
 |none=>z
 |some x=>(z.kz m.to (x.take g m).1).f0 (x.take g m).2
def aU.hp(g:al)(z:aU)(s:gz):aU×Int:=match z.bp[(max s.n 0).toNat%z.bp.length]? with
 |none=>(z,4)
 |some m=>if s.k=8 then(if z.bp.length<512 then({z with bp:=z.bp++[m]},0) else(z,3))
  else if s.k=6 then(aU.kp g {z with bp:=z.bp.eraseIdx ((max s.n 0).toNat%z.bp.length)} m,0)
  else({z with bp:=z.bp.eraseIdx ((max s.n 0).toNat%z.bp.length)},0)
def aU.e4(g:al)(z:aU)(s:gz):aU×Int:=match z.rep s.node with
 |none=>(z,1)
 |some x=>((z.kz s.node (x.tick g).1).f0 (x.tick g).2,0)
def aU.gF(g:al)(z:aU)(s:gz):aU×Int:=
 if s.node<0\/s.node>=z.bz.length\/(z.rep s.node).isSome=true then(z,1)
 else match e9 g s.node z.heard s.e9 with
  |none=>(z,1)
  |some m=>if m.k≠6 then(z.f0 [m],0)
   else match gO m.x with
    |none=>(z,2)
    |some a=>match z.parts[m.s.toNat%z.parts.length]?,m.l with
     |some b,v::_=>({z with parts:=z.parts.set (m.s.toNat%z.parts.length) (b.dv g a v).1},(b.dv g a v).2)
     |_,_=>(z,0)
def oE(g:al)(x:bm)(aG:List cR)(mk:b7):List cR:=aG.map λb=>(b.dv g mk (dr g mk x.aw)).1
def jQ(g:al)(aG:List cR)(I:Option bm):List cR:=match I with
 |none=>aG
 |some x=>x.aI.foldl (oE g x) aG
def bm.answer(x:bm)(c s:Int):Option (Int×Int×Int):=if 0<=c/\c<=15/\0<=s/\s<=1048576 then aV x.answers (e1 c s) else none
def hj(x:bm)(cs:List (bw×Int))(i:Nat):List (bw×Int):=match cs[i]? with
 |none=>cs
 |some p=>match x.answer (i:Int) p.2 with
  |none=>cs
  |some a=>cs.set i ((p.1.told p.2 a).1,p.2)
def nk(l:List (Option bm)):Option bm:=l.findSome? id
def aU.polls(g:al)(z:aU):aU:={z with
 parts:=z.bz.foldl (jQ g) z.parts
 b9:=match nk z.bz with
  |none=>z.b9
  |some x=>(List.range z.b9.length).foldl (hj x) z.b9}
def aU.bF(g:al)(z:aU)(s:gz):aU×Int:=
 if s.k=1\/s.k=2\/s.k=3\/s.k=4 then z.gZ g s
 else if s.k=5 then z.rf g s
 else if s.k=6\/s.k=7\/s.k=8 then z.hp g s
 else if s.k=9 then z.e4 g s
 else if s.k=10 then z.gF g s
 else if s.k=11 then(z.polls g,0)
 else(z,1)
structure bw.ok(e:bw):Prop where
 next:0<=e.next
 last:0<=e.last
 name:e.name.length<=1000
 keys:e.parts.map Prod.fst=[0,1,2,3]
 oq:∀p∈e.parts,0<=p.2.next/\∀r,p.2.out=some r->r.x.length<=200
structure cR.ok(g:al)(M:Nat)(b:cR):Prop where
 ch:b.log.ch.length<=M
 cY:b.log.cY.length<=M
 acc:b.acc.length<=M
 aI:∀p∈b.aI,(p.2.map Prod.fst).Nodup/\∀q∈p.2,0<=q.1/\q.1<(g.n:Int)
structure aU.ok(g:al)(k:Nat)(z:aU):Prop where
 bz:z.bz.length=g.n
 iw:∀(i:Nat)(x:bm),z.bz[i]? =some (some x)->x.ok g (773+6*k)/\x.aw=(i:Int)
 some_:∃(i:Nat)(x:bm),z.bz[i]? =some (some x)
 parts:z.parts.length=4
 jt:∀b∈z.parts,b.ok g (6000*k)
 b9:z.b9.length=3
 j4:∀p∈z.b9,p.1.ok
 bp:z.bp.length<=512
 lp:el z.bp
 heard:z.heard.length<=1000
 kq:el z.heard
 lost:z.lost<=5000000*k
theorem cR.ok.more{g:al}{M mr:Nat}{b:cR}(h:b.ok g M)(hm:M<=mr):b.ok g mr:=⟨ej h.ch hm,ej h.cY hm,ej h.acc hm,h.aI⟩
theorem cR.ok.len{g:al}{M:Nat}{b:cR}(h:b.ok g M)(f:g.ok):∀p∈b.aI,p.2.length<=100:=λp j=>by
 obtain⟨a,c⟩:=h.aI p j;have d:=uY g.n (p.2.map Prod.fst) a (λi e=>by obtain⟨q,k,rfl⟩:=ee.1 e;exact c q k);rw [fa] at d;have:=f.n10;have l:g.n<=10:=this;omega
theorem yn{α:Type}:∀{m:List (Int×α)}{k:Int}{a v:α},aV m k=some a->(bV m k v).map Prod.fst=m.map Prod.fst
 |[],_,_,_,h=>by cases h
 |(R,u)::r,k,a,v,h=>by
  simp only [aV] at h;simp only [bV];by_cases b:R=k
  .subst b;simp
  .rw [az b] at h⊢;simp [yn h]
theorem bw.ok.put{e:bw}(h:e.ok){n:Int}{q nz:g6}(c:aV e.parts n=some q)(a:0<=nz.next/\∀r,nz.out=some r->r.x.length<=200):(bV e.parts n nz).map Prod.fst=[0,1,2,3]/\∀p∈bV e.parts n nz,0<=p.2.next/\∀r,p.2.out=some r->r.x.length<=200:=
 ⟨(yn c).trans h.keys,λp b=>(kY b).elim (h.oq p) (λe=>by rw [e];exact a)⟩
theorem bw.ok.init{e:bw}(h:e.ok):e.init.1.ok:=by
 unfold bw.init;split
 .split
  .exact h
  .exact{h with next:=show 0<=e.next+1 by have:=h.next;omega}
 .exact h
theorem bw.ok.fQ{e:bw}(h:e.ok):0<=e.fQ:=by
 have:=h.last;unfold bw.fQ;split<;>omega
theorem bw.ok.gs{e:bw}(h:e.ok)(n:Int):(e.gs n).1.ok:=by
 unfold bw.gs;split
 .exact h
 .split
  .exact h
  .rename_i q a;split
   .exact h
   .split
    .exact h
    .obtain⟨b,c⟩:=h.put a (nz:={q with begun:=e.fQ}) (h.oq _ (io a));exact⟨show 0<=e.next+1 by have:=h.next;omega,h.fQ,h.name,b,c⟩
theorem bw.ok.end_{e:bw}(h:e.ok)(c:Bool):(e.end_ c).1.ok:=by
 unfold bw.end_;split
 .exact h
 .split
  .exact h
  .exact{h with next:=show 0<=e.next+1 by have:=h.next;omega}
theorem bw.ok.record{e:bw}(h:e.ok)(n:Int)(x:List UInt8):(e.record n x).1.ok:=by
 unfold bw.record;split
 .exact h
 .rename_i q a;split
  .exact h
  .split
   .exact h
   .split
    .exact h
    .split
     .exact h
     .rename_i f _;obtain⟨b,c⟩:=h.put a (nz:={q with next:=q.next+1,out:=some (e.hV q x)}) ⟨show 0<=q.next+1 by have:0<=q.next:=(h.oq _ (io a)).1;omega,λr d=>by cases d;show x.length<=200;omega⟩;exact⟨h.next,h.last,h.name,b,c⟩
theorem bw.ok.jk{e:bw}(h:e.ok)(n:Int):(e.jk n).1.ok:=by
 unfold bw.jk;split
 .exact h
 .rename_i q a;split
  .exact h
  .obtain⟨b,c⟩:=h.put a (nz:={q with out:=none}) ⟨(h.oq _ (io a)).1,by intro r d;cases d⟩;exact⟨h.next,h.last,h.name,b,c⟩
theorem yV:∀p∈mg,0<=p.2.next/\∀r,p.2.out=some r->r.x.length<=200:=λp a=>by
 have:p.2=g6.new:=by
  simp [mg] at a;rcases a with rfl|rfl|rfl|rfl<;>rfl
 rw [this];exact⟨j0 _,by intro r b;cases b⟩
theorem bw.ok.told{e:bw}(h:e.ok)(s:Int)(a:Int×Int×Int):(e.told s a).1.ok:=by
 unfold bw.told;split
 .exact h
 .split
  .exact⟨h.next,j0 _,h.name,j,yV⟩
  .exact h
theorem bw.lz{n:Int}{x:List UInt8}(a:x.length<=1000):(bw.new n x).ok:=⟨j0 _,j0 _,a,j,yV⟩
theorem dQ.CY(l:dQ)(p e t:Int)(c:Bool):(l.end_ p e t c).1.ch.length<=l.ch.length+1/\(l.end_ p e t c).1.cY=l.cY:=by
 unfold dQ.end_;split
 .exact⟨ev _,j⟩
 .split
  .exact⟨by simp,j⟩
  .generalize (if c=true then(2:Int) else 3)=dM;split
   .split
    .exact⟨ev _,j⟩
    .exact⟨by simp,j⟩
   .exact⟨ev _,j⟩
theorem dQ.Em(l:dQ)(p e:Int):(l.ku p e).1.ch=l.ch/\(l.ku p e).1.cY=l.cY:=by
 unfold dQ.ku;split<;>exact⟨j,j⟩
theorem dQ.Bz(l:dQ)(r:eg):(l.append r).1.ch.length<=l.ch.length+1/\(l.append r).1.cY.length<=l.cY.length+1:=by
 unfold dQ.append;split
 .exact⟨ev _,ev _⟩
 .split
  .exact⟨ev _,ev _⟩
  .split
   .exact⟨ev _,ev _⟩
   .split
    .exact⟨ev _,ev _⟩
    .split
     .split
      .split<;>exact⟨ev _,ev _⟩
      .exact⟨ev _,ev _⟩
     .split
      .exact⟨ev _,ev _⟩
      .refine⟨?_,by simp⟩;dsimp only;split
       .exact ev _
       .simp
theorem cR.t3(b:cR)(m:b7):(b.bF m).1.log.ch.length<=b.log.ch.length+1/\(b.bF m).1.log.cY=b.log.cY/\(b.bF m).1.acc=b.acc/\(b.bF m).1.aI=b.aI:=by
 unfold cR.bF;split
 .have:=dQ.Em b.log m.p m.e;exact⟨by show(b.log.ku m.p m.e).1.ch.length<=_;rw [this.1];exact ev _,this.2,j,j⟩
 .have:=dQ.CY b.log m.p m.e m.t (m.k==2);exact⟨this.1,this.2,j,j⟩
theorem cR.ok.accept{g:al}{M:Nat}{b:cR}(h:b.ok g M)(m:b7)(l:List aN):(b.accept g m l).1.ok g (M+1):=by
 have a:=h.more (ev M);obtain⟨d1,d2,d3,d4⟩:=b.t3 m;have c:(b.bF m).1.ok g (M+1):=⟨by have:=h.ch;omega,by rw [d2];exact a.cY,by rw [d3];exact a.acc,by rw [d4];exact h.aI⟩;unfold cR.accept;split
 .exact a
 .split
  .exact a
  .split
   .exact a
   .split
    .exact c
    .refine⟨c.ch,c.cY,?_,λp d=>h.aI p (pY d)⟩;show(b.acc++[m]).length<=M+1;rw [cj,List.length_singleton];have:=h.acc;omega
theorem EZ{α:Type}:∀{m:List (Int×α)}{k:Int}{v:α},aV m k=none->(m.map Prod.fst).Nodup->((bV m k v).map Prod.fst).Nodup:=fun{m k v}ad aT=>by
 rw [uQ ad,iB];refine iX.2 ⟨aT,by simp,λa d b c e=>?_⟩;simp at c;subst c;subst e;obtain⟨p,f,g⟩:=ee.1 d;exact yj ad p f g
theorem DZ{g:al}{m:b7}{v:aN}(h:kU g m v=true):0<=v.f/\v.f<(g.n:Int):=by
 unfold kU at h;simp only [d8] at h;exact ut h.2
theorem cR.ok.dv{g:al}{M:Nat}{b:cR}(h:b.ok g M)(m:b7)(v:aN):(b.dv g m v).1.ok g (M+1):=by
 have c:=h.more (ev M);unfold cR.dv;split
 .exact c
 .split
  .exact c
  .rename_i o;have k:=DZ (g:=g) (m:=m) (v:=v) (by cases a:kU g m v with|true=>rfl|false=>exact absurd a o);split
   .exact c
   .split
    .exact c
    .have i:∀p∈bV b.aI (ey m) (iD ((aV b.aI (ey m)).getD []) v),(p.2.map Prod.fst).Nodup/\∀q∈p.2,0<=q.1/\q.1<(g.n:Int):=λp d=>by
      rcases kY d with d|rfl
      .exact h.aI p d
      .have e:(((aV b.aI (ey m)).getD []).map Prod.fst).Nodup/\∀q∈(aV b.aI (ey m)).getD [],0<=q.1/\q.1<(g.n:Int):=by
        cases ad:aV b.aI (ey m) with
        |none=>exact⟨List.nodup_nil,by intro q a;cases a⟩
        |some l=>exact h.aI _ (io ad)
       dsimp only;unfold iD;split
       .exact e
       .rename_i aT;refine⟨EZ (by cases a:aV ((aV b.aI (ey m)).getD []) v.f with|none=>rfl|some _=>rw [a] at aT;exact absurd j aT) e.1,λq a=>?_⟩;rcases kY a with a|rfl
        .exact e.2 q a
        .exact k
     split
     .refine cR.ok.accept (M:=M) (b:={b with aI:=fU (bV b.aI (ey m) (iD ((aV b.aI (ey m)).getD []) v)) (ey m)}) ⟨h.ch,h.cY,h.acc,λp d=>i p (pY d)⟩ m _
     .exact⟨c.ch,c.cY,c.acc,i⟩
structure aU.de(g:al)(g5:Nat->Nat)(M L:Nat)(z:aU):Prop where
 bz:z.bz.length=g.n
 iw:∀(i:Nat)(x:bm),z.bz[i]? =some (some x)->x.ok g (g5 i)/\x.aw=(i:Int)
 some_:∃(i:Nat)(x:bm),z.bz[i]? =some (some x)
 parts:z.parts.length=4
 jt:∀b∈z.parts,b.ok g M
 b9:z.b9.length=3
 j4:∀p∈z.b9,p.1.ok
 bp:z.bp.length<=512
 lp:el z.bp
 heard:z.heard.length<=1000
 kq:el z.heard
 lost:z.lost<=L
theorem aU.ok.F{g:al}{k:Nat}{z:aU}(h:z.ok g k):z.de g (λ_=>773+6*k) (6000*k) (5000000*k):=⟨h.bz,h.iw,h.some_,h.parts,h.jt,h.b9,h.j4,h.bp,h.lp,h.heard,h.kq,h.lost⟩
section
variable {g:al} {g5:Nat->Nat} {N M L:Nat} {z:aU}
theorem aU.de.more{m4:Nat->Nat}{mr kg:Nat}(h:z.de g g5 M L)(e:∀i,g5 i<=m4 i)(d:M<=mr)(c:L<=kg):z.de g m4 mr kg:=
 {h with iw:=λi x a=>⟨(h.iw i x a).1.more (e i),(h.iw i x a).2⟩,jt:=λb f=>(h.jt b f).more d,lost:=ej h.lost c}
theorem aU.de.ok{k:Nat}(h:z.de g (λ_=>N) M L)(c:N<=773+6*k)(b:M<=6000*k)(a:L<=5000000*k):z.ok g k:=
 let h:=h.more (λ_=>c) b a
 ⟨h.bz,h.iw,h.some_,h.parts,h.jt,h.b9,h.j4,h.bp,h.lp,h.heard,h.kq,h.lost⟩
theorem aU.de.f0(h:z.de g g5 M L){l:List aY}(a:hK l):(z.f0 l).de g g5 M (L+420000):=by
 have b:=h.bp;have c:=h.heard;refine{h with bp:=?_,lp:=λm hm=>?_,heard:=?_,kq:=λm hm=>?_,lost:=?_}
 .show(z.bp++l.take (512-z.bp.length)).length<=512;rw [cj,List.length_take];omega
 .rcases fL.1 (show m∈z.bp++l.take (512-z.bp.length) from hm) with hm|hm
  .exact h.lp m hm
  .exact a.1 m (pe hm)
 .show(z.heard++l.take (min (min l.length (512-z.bp.length)) (1000-z.heard.length))).length<=1000;rw [cj,List.length_take];omega
 .rcases fL.1 (show m∈z.heard++l.take (min (min l.length (512-z.bp.length)) (1000-z.heard.length)) from hm) with hm|hm
  .exact h.kq m hm
  .exact a.1 m (pe hm)
 .show z.lost+(l.length-(512-z.bp.length))<=L+420000;have:=a.2;have:=h.lost;omega
theorem aU.de.kz(h:z.de g g5 M L){i:Nat}{f x:bm}(e:z.bz[i]? =some (some f))(d:x.ok g (g5 i))(hm:x.aw=(i:Int)):({z with bz:=z.bz.set i (some x)}:aU).de g g5 M L:=by
 have b:i<z.bz.length:=(e8.1 e).1;refine{h with bz:=by rw [gJ];exact h.bz,iw:=λR y a=>?_,some_:=⟨i,x,by rw [q0 b]⟩};have a:(z.bz.set i (some x))[R]? =some (some y):=a;by_cases c:i=R
 .subst c;rw [q0 b] at a;cases a;exact⟨d,hm⟩
 .rw [tl c] at a;exact h.iw R y a
theorem aU.de.fG(h:z.de g g5 M L){i:Nat}{p:bw×Int}(b:p.1.ok):(z.fG i p).de g g5 M L:=by
 refine{h with b9:=by show(z.b9.set i p).length=3;rw [gJ];exact h.b9,j4:=λq a=>?_};rcases pd (show q∈z.b9.set i p from a) with a|rfl
 .exact h.j4 q a
 .exact b
theorem aU.de.nB(h:z.de g g5 M L){i:Int}{b:cR}(c:b.ok g (M+1)):(z.nB i b).de g g5 (M+1) L:=by
 refine{h with parts:=by show(z.parts.set i.toNat b).length=4;rw [gJ];exact h.parts,jt:=λq a=>?_};rcases pd (show q∈z.parts.set i.toNat b from a) with a|rfl
 .exact(h.jt q a).more (ev _)
 .exact c
theorem bm.tD(x:bm):x.gB.aw=x.aw:=(bm.rg ((x.s.log.map Prod.fst).drop x.dq) x).2.1
theorem bm.wv(x:bm)(I:bD):(x.ask g I).1.aw=x.aw:=by
 unfold bm.ask;split
 .exact bm.tD _
 .rfl
theorem bm.G8(x:bm)(m:aY):(x.take g m).1.aw=x.aw:=bm.tD _
theorem bm.Hl(x:bm):(x.tick g).1.aw=x.aw:=bm.tD _
def kM(N R i:Nat):Nat:=if i<R then N+6 else N
theorem aU.de.gr(c:g.ok)(b:773<=N){R:Nat}(h:z.de g (kM N R) M (L+420000*R))(I:bD):(z.gr g I R).de g (kM N (R+1)) M (L+420000*(R+1)):=by
 have a:z.de g (kM N (R+1)) M (L+420000*R):=h.more (λi=>by unfold kM;split<;>split<;>omega) (Nat.le_refl _) (Nat.le_refl _);unfold aU.gr;split
 .rename_i x d;obtain⟨ad,hm⟩:=h.iw R x d
  have ad:x.ok g N:=by have:kM N R R=N:=by unfold kM;rw [if_neg (by omega)]
                       rw [this] at ad;exact ad
  have e:kM N (R+1) R=N+6:=by unfold kM;rw [if_pos (by omega)]
  have f:=(a.kz d (x:=(x.ask g I).1) (by rw [e];exact ad.ask c b I) ((bm.wv x I).trans hm)).f0 (bm.tG c ad b I);exact f.more (λ_=>cF _) (cF _) (by omega)
 .exact a.more (λ_=>cF _) (cF _) (by omega)
theorem aU.de.wu(b:g.ok)(a:773<=N)(h:z.de g (λ_=>N) M L)(I:bD):∀R:Nat,((List.range R).foldl (aU.gr g I) z).de g (kM N R) M (L+420000*R)
 |0=>h.more (λi=>by unfold kM;rw [if_neg (by omega)];exact Nat.le_refl _) (Nat.le_refl _) (Nat.le_refl _)
 |R+1=>by
  rw [m9,nb];exact aU.de.gr b a (aU.de.wu b a h I R) I
theorem aU.de.asks(a:g.ok)(b:773<=N)(h:z.de g (λ_=>N) M L)(I:bD)(e:Int):(z.asks g I e).1.de g (λ_=>N+6) M (L+4200000):=by
 unfold aU.asks;split
 .exact h.more (λ_=>gp _ _) (cF _) (gp _ _)
 .have c:=h.bz;have d:g.n<=10:=a.n10;exact(aU.de.wu a b h I z.bz.length).more (λi=>by unfold kM;split<;>omega) (Nat.le_refl _) (by omega)
theorem aU.qb{i:Int}{x:bm}(h:z.rep i=some x):0<=i/\z.bz[i.toNat]? =some (some x):=by
 unfold aU.rep at h;split at h
 .rename_i b;cases a:z.bz[i.toNat]? with
  |none=>rw [a] at h;cases h
  |some I=>rw [a] at h;cases I with
   |none=>cases h
   |some y=>cases h;exact⟨b,j⟩
 .cases h
theorem aU.de.cK(m:g.ok)(k:773<=N)(h:z.de g (λ_=>N) M L){i:Int}{x:bm}(f:z.rep i=some x){a:bm}{l:List aY}(ad:x.ok g N->a.ok g (N+6))(hm:a.aw=x.aw)(e:x.ok g N->hK l):((z.kz i a).f0 l).de g (λ_=>N+6) M (L+420000):=by
 obtain⟨j,b⟩:=aU.qb f;obtain⟨c,d⟩:=h.iw _ x b;exact((h.more (m4:=λ_=>N+6) (λ_=>gp _ _) (cF _) (cF _)).kz b (x:=a) (ad c) (hm.trans d)).f0 (e c)
theorem aU.de.kp(b:g.ok)(a:773<=N)(h:z.de g (λ_=>N) M L){m:aY}(hm:m.dF):(z.kp g m).de g (λ_=>N+6) M (L+420000):=by
 unfold aU.kp;split
 .exact h.more (λ_=>gp _ _) (cF _) (gp _ _)
 .rename_i x c;exact h.cK b a c (λad=>ad.take b a hm) (bm.G8 _ _) (λad=>bm.sz b ad a hm)
theorem aU.de.tL(h:z.de g g5 M L){l:List aY}(b:l.length<=512)(a:el l):({z with bp:=l}:aU).de g g5 M L:={h with bp:=b,lp:=a}
theorem aU.de.hp(i:g.ok)(e:773<=N)(h:z.de g (λ_=>N) M L)(s:gz):(z.hp g s).1.de g (λ_=>N+6) M (L+420000):=by
 have a:=h.more (m4:=λ_=>N+6) (kg:=L+420000) (λ_=>gp _ _) (cF _) (gp _ _);have f:=h.bp;unfold aU.hp;split
 .exact a
 .rename_i m hm;have d:=h.lp m (ia hm);have he:(z.bp.eraseIdx ((max s.n 0).toNat%z.bp.length)).length<=512:=ej (List.length_eraseIdx_le _ _) f;have c:el (z.bp.eraseIdx ((max s.n 0).toNat%z.bp.length)):=λq b=>h.lp q (List.mem_of_mem_eraseIdx b)
  split
  .split
   .refine a.tL (by rw [cj,List.length_singleton];omega) (h.lp.app (λq b=>?_));rw [hO.1 b];exact d
   .exact a
  .split
   .exact(h.tL he c).kp i e d.1
   .exact a.tL he c
theorem aU.de.e4(b:g.ok)(a:773<=N)(h:z.de g (λ_=>N) M L)(s:gz):(z.e4 g s).1.de g (λ_=>N+6) M (L+420000):=by
 unfold aU.e4;split
 .exact h.more (λ_=>gp _ _) (cF _) (gp _ _)
 .rename_i x c;exact h.cK b a c (λad=>ad.tick b a) (bm.Hl _) (λad=>bm.sA b ad a)
theorem EC{f:Int}{aF:List aY}{l:eY}{U:List aN}(a:∀m∈aF,∀v∈m.l,v.ok)(h:l.aI g f aF=some U):U.length<=10/\∀v∈U,v.ok:=by
 unfold eY.aI at h;split at h
 .cases h;exact⟨by simp,λv a=>by rw [hO.1 a];exact jm _ _ _ _ _ _ (fm _)⟩
 .split at h
  .split at h
   .cases h
   .cases h;exact⟨by simp,λv a=>by rw [hO.1 a];exact jm _ _ _ _ _ _ (fm _)⟩
  .cases h;exact⟨by rw [hC];omega,λv b=>rV a l.use v (pe b)⟩
theorem eY.EO{f:Int}{l:eY}(h:l.may g f=true):0<=l.s/\l.s<=63/\0<=l.v/\l.v<=8:=by
 unfold eY.may aY.may at h;simp only [d8,eD,gn] at h;obtain⟨⟨⟨⟨⟨_,a⟩,b⟩,_⟩,_⟩,_⟩:=h.1;exact⟨a.1,a.2,b.1,b.2⟩
theorem uH{f:Int}{aF:List aY}{l:eY}{m:aY}(i:el aF)(h:e9 g f aF l=some m):m.jJ/\0<=m.s/\m.f=f/\m.k=l.k/\m.x=l.x/\l.aI g f aF=some m.l:=by
 unfold e9 at h;split at h
 .rename_i c;cases a:l.aI g f aF with
  |none=>rw [a] at h;cases h
  |some U=>
   rw [a] at h;cases h;obtain⟨d,e⟩:=EC (λm hm=>(i m hm).1.aI) a;have b:=eY.EO c;exact⟨⟨⟨al.ei _ _ _,e,eY.ye c,d⟩,b.2.1⟩,b.1,j,j,j,j⟩
 .cases h
theorem aU.de.gF(h:z.de g g5 M L)(s:gz):(z.gF g s).1.de g g5 (M+1) (L+420000):=by
 have a:=h.more (m4:=g5) (mr:=M+1) (kg:=L+420000) (λ_=>cF _) (ev _) (gp _ _);unfold aU.gF;split
 .exact a
 .split
  .exact a
  .rename_i m hm;have d:=(uH h.kq hm).1;split
   .exact(h.f0 ⟨λq e=>by rw [hO.1 e];exact d,by simp⟩).more (λ_=>cF _) (ev _) (cF _)
   .split
    .exact a
    .split
     .rename_i b v r c f;have:=(h.jt b (ia c)).dv (g:=g) (by assumption) v;exact(h.nB (i:=((m.s.toNat%z.parts.length:Nat):Int)) this).more (λ_=>cF _) (cF _) (gp _ _)
     .exact a
theorem sJ{x:bm}:∀(l:List b7){aG:List cR}{M:Nat},(∀b∈aG,b.ok g M)->∀b∈l.foldl (oE g x) aG,b.ok g (M+l.length)
 |[],_,_,h=>h
 |m::r,aG,M,h=>by
  intro b a;rw [h5] at a
  have d:∀b∈oE g x aG m,b.ok g (M+1):=λb a=>by
   obtain⟨c,f,rfl⟩:=ee.1 a;exact(h c f).dv _ _
  have e:=sJ r d b a;rw [ex];exact e.more (by omega)
theorem sI{x:bm}:∀(l:List b7)(aG:List cR),(l.foldl (oE g x) aG).length=aG.length
 |[],_=>rfl
 |m::r,aG=>by
  rw [h5,sI r];exact fa _
theorem bm.ok.z6{x:bm}(h:x.ok g N):x.aI.length<=512:=by
 have a:=h.aI;have b:=h.dq;have c:=h.s.log;omega
theorem yX:∀(l:List (Option bm)){aG:List cR}{M:Nat},(∀x,some x∈l->x.aI.length<=512)->(∀b∈aG,b.ok g M)->(∀b∈l.foldl (jQ g) aG,b.ok g (M+512*l.length))/\(l.foldl (jQ g) aG).length=aG.length
 |[],_,_,_,h=>⟨h,j⟩
 |I::r,aG,M,d,h=>by
  rw [h5,ex]
  have c:(∀b∈jQ g aG I,b.ok g (M+512))/\(jQ g aG I).length=aG.length:=by
   cases I with
   |none=>exact⟨λb a=>(h b a).more (by omega),j⟩
   |some x=>exact⟨λb a=>(sJ x.aI h b a).more (by have:=d x (by simp);omega),sI _ _⟩
  obtain⟨e,f⟩:=yX r (λx i=>d x (by simp [i])) c.1;exact⟨λb a=>(e b a).more (by omega),f.trans c.2⟩
theorem Ht{x:bm}{cs:List (bw×Int)}(i:Nat)(h:∀p∈cs,p.1.ok):(∀p∈hj x cs i,p.1.ok)/\(hj x cs i).length=cs.length:=by
 unfold hj;split
 .exact⟨h,j⟩
 .rename_i p b;split
  .exact⟨h,j⟩
  .refine⟨λq a=>?_,gJ ..⟩;rcases pd a with a|rfl
   .exact h q a
   .exact(h p (ia b)).told _ _
theorem vx{x:bm}:∀(l:List Nat){cs:List (bw×Int)},(∀p∈cs,p.1.ok)->(∀p∈l.foldl (hj x) cs,p.1.ok)/\(l.foldl (hj x) cs).length=cs.length
 |[],_,h=>⟨h,j⟩
 |i::r,cs,h=>by
  obtain⟨a,b⟩:=Ht (x:=x) i h;obtain⟨c,d⟩:=vx r a;rw [h5];exact⟨c,d.trans b⟩
theorem aU.de.polls(k:g.ok)(h:z.de g g5 M L):(z.polls g).de g g5 (M+5120) L:=by
 have aT:g.n<=10:=k.n10;have m:=h.bz
 obtain⟨c,d⟩:=yX (g:=g) z.bz (aG:=z.parts) (M:=M) (λx l=>by
  obtain⟨i,f⟩:=nL l;exact(h.iw i x f).1.z6) h.jt
 have a:(∀p∈(z.polls g).b9,p.1.ok)/\(z.polls g).b9.length=z.b9.length:=by
  show(∀p∈(match nk z.bz with|none=>z.b9|some x=>(List.range z.b9.length).foldl (hj x) z.b9),p.1.ok)/\(match nk z.bz with|none=>z.b9|some x=>(List.range z.b9.length).foldl (hj x) z.b9).length=z.b9.length;split
  .exact⟨h.j4,j⟩
  .exact vx _ h.j4
 exact{h with parts:=d.trans h.parts,jt:=λb e=>(c b e).more (by omega),b9:=a.2.trans h.b9,j4:=a.1}
theorem aU.de.records(h:z.de g g5 M L)(s:gz)(i:Nat){p:bw×Int}(d:p.1.ok):(z.records s i p).1.de g g5 (M+1) L:=by
 have e:=h.more (m4:=g5) (mr:=M+1) (kg:=L) (λ_=>cF _) (ev _) (cF _);unfold aU.records;split
 .exact e.fG (d.record _ _)
 .split
  .exact e.fG (d.record _ _)
  .rename_i b a
   have c:b.ok g M:=by
    unfold aU.part at a;split at a
    .exact h.jt b (ia a)
    .cases a
   have f:=dQ.Bz b.log (p.1.record s.n s.x).2.1;refine(h.fG ?_).nB ⟨?_,?_,Nat.le_succ_of_le c.acc,c.aI⟩
   .dsimp only;split
    .exact(d.record _ _).jk _
    .exact d.record _ _
   .have:=c.ch;show((b.log.append (p.1.record s.n s.x).2.1).1.ch).length<=M+1;omega
   .have:=c.cY;show((b.log.append (p.1.record s.n s.x).2.1).1.cY).length<=M+1;omega
theorem aU.de.gZ(c:g.ok)(b:773<=N)(h:z.de g (λ_=>N) M L)(s:gz):(z.gZ g s).1.de g (λ_=>N+6) (M+1) (L+4200000):=by
 have e:=h.more (m4:=λ_=>N+6) (mr:=M+1) (kg:=L+4200000) (λ_=>gp _ _) (ev _) (gp _ _);unfold aU.gZ;split
 .exact e
 .rename_i p d
  have a:p.1.ok:=by
   split at d
   .exact h.j4 p (ia d)
   .cases d
  split
  .exact((h.fG a.init).asks c b _ _).more (λ_=>cF _) (ev _) (cF _)
  .split
   .exact((h.fG (a.gs _)).asks c b _ _).more (λ_=>cF _) (ev _) (cF _)
   .split
    .exact(h.records s s.node.toNat a).more (λ_=>gp _ _) (cF _) (gp _ _)
    .exact((h.fG (a.end_ _)).asks c b _ _).more (λ_=>cF _) (ev _) (cF _)
theorem aU.ok.bF(b:g.ok){k:Nat}(h:z.ok g k)(s:gz):(z.bF g s).1.ok g (k+1):=by
 have a:=h.F;have c:773<=773+6*k:=by omega
 unfold aU.bF;split
 .exact(a.gZ b c s).ok (by omega) (by omega) (by omega)
 .split
  .exact(a.asks b c _ _).ok (by omega) (by omega) (by omega)
  .split
   .exact(a.hp b c s).ok (by omega) (by omega) (by omega)
   .split
    .exact(a.e4 b c s).ok (by omega) (by omega) (by omega)
    .split
     .exact(a.gF s).ok (by omega) (by omega) (by omega)
     .split
      .exact(a.polls b).ok (by omega) (by omega) (by omega)
      .exact a.ok (by omega) (by omega) (by omega)
end
theorem aU.de.BD{g:al}{N M L:Nat}{z:aU}(c:g.ok)(b:773<=N)(h:z.de g (λ_=>N) M L)(I:bD)(R:Nat):(z.gr g I R).de g (λ_=>N+6) M (L+420000):=by
 have a:z.de g (λ_=>N+6) M L:=h.more (λ_=>gp _ _) (cF _) (cF _);unfold aU.gr;split
 .rename_i x d;obtain⟨ad,hm⟩:=h.iw R x d;exact(a.kz d (x:=(x.ask g I).1) (ad.ask c b I) ((bm.wv x I).trans hm)).f0 (bm.tG c ad b I)
 .exact a.more (λ_=>cF _) (cF _) (gp _ _)
def aU.ha(g:al)(I:bD)(z:aU)(l:List (Int×Value)):aU:=l.foldl (λz q=>z.gr g I q.1.toNat) z
theorem aU.BF(g:al)(I:bD)(z:aU)(l:List (Int×Value))(q:Int×Value):z.ha g I (l++[q])=(z.ha g I l).gr g I q.1.toNat:=by unfold aU.ha;rw [List.foldl_append];rfl
theorem aU.de.ha{g:al}{M:Nat}(a:g.ok)(I:bD):∀(l:List (Int×Value)){z:aU}{N L:Nat},773<=N->z.de g (λ_=>N) M L->(z.ha g I l).de g (λ_=>N+6*l.length) M (L+420000*l.length)
 |[],_,_,_,_,h=>h
 |q::r,z,N,L,d,h=>by
  have b:=h.BD a d I q.1.toNat;have c:=aU.de.ha a I r (N:=N+6) (by omega) b;exact c.more (λ_=>by rw [ex];omega) (cF _) (by rw [ex];omega)
theorem aU.wr(g:al)(I:bD)(z:aU)(R:Nat):(z.gr g I R).parts=z.parts/\(z.gr g I R).b9=z.b9/\(z.gr g I R).bz.length=z.bz.length/\∀i:Nat,(∀x,z.bz[i]?≠some (some x))->∀x,(z.gr g I R).bz[i]?≠some (some x):=by
 unfold aU.gr;split
 .rename_i x d;refine⟨j,j,gJ ..,λi a y b=>?_⟩;have b:(z.bz.set R (some (x.ask g I).1))[i]? =some (some y):=b;by_cases c:R=i
  .subst c;exact a x d
  .rw [tl c] at b;exact a y b
 .exact⟨j,j,j,λi a=>a⟩
theorem aU.wt(g:al)(I:bD):∀(l:List (Int×Value))(z:aU),(z.ha g I l).parts=z.parts/\(z.ha g I l).b9=z.b9/\(z.ha g I l).bz.length=z.bz.length
 |[],_=>⟨j,j,j⟩
 |q::r,z=>by
  obtain⟨a,b,c,_⟩:=aU.wr g I z q.1.toNat;obtain⟨d,e,f⟩:=aU.wt g I r (z.gr g I q.1.toNat);exact⟨d.trans a,e.trans b,f.trans c⟩
theorem aU.BE{g:al}{I:bD}{z:aU}{R:Nat}(h:∀x,z.bz[R]?≠some (some x)):z.gr g I R=z:=by
 unfold aU.gr;split
 .rename_i x a;exact(h x a).elim
 .rfl
theorem ux(g:al)(I:bD):∀(U:List Value)(k:Nat)(z:aU),(∀i:Nat,i<U.length->U[i]? =some (.pointer none)->∀x,z.bz[k+i]?≠some (some x))->z.ha g I (fb k U)=(List.range' k U.length).foldl (aU.gr g I) z
 |[],_,_,_=>rfl
 |v::r,k,z,h=>by
  rw [fb,ex,List.range'_succ,h5];split
  .rename_i a;have c:v= .pointer none:=by unfold mP at a;split at a;rfl;cases a
   rw [aU.BE (R:=k) (λx=>by have:=h 0 (by simp) (by rw [c];rfl) x;simpa using this)];exact ux g I r (k+1) z (λi b aT x=>by have:=h (i+1) (by simp;omega) (by simpa using aT) x;rwa [show k+(i+1)=k+1+i by omega] at this)
  .show(aU.ha g I (z.gr g I ((k:Int).toNat)) (fb (k+1) r))=_;rw [lj];refine ux g I r (k+1) _ (λi b aT x=>(aU.wr g I z k).2.2.2 (k+1+i) (λy=>?_) x);have:=h (i+1) (by simp;omega) (by simpa using aT) y
   rwa [show k+(i+1)=k+1+i by omega] at this
theorem rP:∀{U:List Value}{k:Nat}{q:Int×Value},q∈fb k U->∃i:Nat,q.1=((k+i:Nat):Int)/\U[i]? =some q.2/\mP q.2=false
 |[],_,_,h=>by cases h
 |v::r,k,q,h=>by
  rw [fb] at h;split at h
  .obtain⟨i,a,b,c⟩:=rP h;exact⟨i+1,by rw [a];congr 1;omega,by simpa using b,c⟩
  .rename_i d;rcases hD.1 h with rfl|h
   .exact⟨0,j,j,by simpa using d⟩
   .obtain⟨i,a,b,c⟩:=rP h;exact⟨i+1,by rw [a];congr 1;omega,by simpa using b,c⟩
theorem uy:∀(U:List Value)(k:Nat),(fb k U).length<=U.length
 |[],_=>cF _
 |v::r,k=>by
  rw [fb];have:=uy r (k+1);split
  .rw [ex];omega
  .rw [ex,ex];omega
theorem hL.nil{g:al}{U:List Value}{xs:List (Option bm)}{H:List Chunk}(h:ec (hL g) U xs H){i:Nat}(a:U[i]? =some (.pointer none)):∀x,xs[i]?≠some (some x):=λx b=>by
 have d:i<xs.length:=(e8.1 b).1;obtain⟨v,_,_,_,e,_,c,_⟩:=h.at i d;rw [e] at a;have j:xs[i]=some x:=by rw [cr d] at b;exact hn b
 rw [j] at c;obtain⟨k,f,_⟩:=c;rw [f] at a;cases a
theorem hL.some{g:al}{v:Value}{I:Option bm}{G:List Chunk}(h:hL g v I G)(b:mP v=false):∃x a,I= .some x/\v= .pointer (.some ⟨a,0,none⟩)/\hB g a x G:=by
 cases I with
 |none=>rw [h.1] at b;cases b
 |some x=>obtain⟨a,c,d⟩:=h;exact⟨x,a,j,c,d⟩
theorem rk{o:World}{g:al}{aM:Nat}{z:aU}{G:List Chunk}{I:bD}{e:Int}(aG:eo g aM z G){N M L:Nat}(ad:z.de g (λ_=>N) M L)(aX:773<=N)(bx:N+150<=1000000)(bw:L+4200000<=1000000000)(aH:g.at o)(T:g.ok)(am:g.off (au [G]))(d:Own [G] o):Calls prog 34 #[aa aM,.agg I.cs.toArray,ab e] o λr w=>r=ab (z.asks g I e).2/\∃af,eo g aM (z.asks g I e).1 af/\C o (au [G]) [af] w:=by
 have aY:=aG;obtain⟨c,cI,bI,dA,s,t,u,rfl⟩:=aG;obtain⟨n,aF⟩:∃n,n=au [bg g aM c++(cI++(bI++(dA++(s++t))))]:=⟨_,j⟩;rw [<-aF] at am⊢;have d:C o n [bg g aM c++(cI++(bI++(dA++(s++t))))] o:=aF▸d;have d:=d.yN;refine jH func34 (bJ 2 d j j (λk w d=>bJ 0 d j j (λm w d=>?_)));have d:C o n [bB m I,J k #[aa aM] 22,bg g aM c,cI,bI,dA,s,t] w:=d;refine bo 6 j j (λX=>?_) (λX=>?_)
 .refine bH 4 j ⟨ab e,λw aq=>?_⟩;have d:=aq.st d (cF _);refine⟨λa ag=>iP (fn:=f34) ag j _ _,?_⟩;have bh:z.asks g I e=(z,e):=aR (by simpa using X);rw [bh];have d:C o n [bg g aM c,cI,bI,dA,s,t] w:=d.as;exact⟨j,_,aY,d.rQ⟩
 refine ar 4 j (ax (C.aj (b:=k) d) j) ?_;obtain⟨ak,Q,U,rfl,K,R⟩:=u.bz;have aw:=R.len;have a8:0<z.bz.length:=by obtain⟨i,x,be⟩:=ad.some_;have:=(e8.1 be).1;omega
 have bE:z.bz.length<=10:=by rw [ad.bz];exact T.n10
 obtain⟨l,cap,cur,S,rfl,bG⟩:=Row.block K a8;rw [S] at K;rw [<-aw] at S K;have bb:=R.p7;refine bk 0 (xJ (o:=w) (aM:=aM)) j (λr w⟨aA,ao,F⟩=>?_);subst ao;have d:=d.aO F;have d:C o n [J aA #[aa aM] 22,bB m I,J k #[aa aM] 22,bg g aM c,J l cur 37,Q,bI,dA,s,t] w:=C.perm (A:=[J aA #[aa aM] 22,bB m I,J k #[aa aM] 22,bg g aM c,J l cur 37++Q,bI,dA,s,t]) d.as (by simp);have d:C o n ([J aA #[aa aM] 22]++[bB m I,J k #[aa aM] 22,bg g aM {c with heard:=c.heard},J l cur 37,Q,bI,dA,s,t]) w:=d
 refine jM 1 j (xI (g:=g) (aM:=aM) (c:=c) S K bb (by omega)) j (by have:=d.size;simpa using this) d j (λ_=>rfl) (by intro p u;simp at u;rcases u with rfl|rfl<;>rfl)
  (λpre ae=>∃f H a1 bs,ae=[bB m I,J k #[aa aM] 22,bg g aM {c with heard:=f},J l cur 37,H,bI,dA,a1,bs]/\ec (hL g) U (z.ha g I pre).bz H/\gH c.bp (z.ha g I pre).bp (z.ha g I pre).lost a1/\cC f (z.ha g I pre).heard bs/\pre.length<=10) (λ_ _=>False) ⟨c.heard,Q,s,t,j,R,u.bp,u.heard,cp _⟩ (λL aJ D=>by have Y:=D.b8 (C.aj (b:=aM) d);exact Y) (λpre ae L a2=>by obtain⟨f,H,a1,bs,rfl,_⟩:=a2;simp) ?_ ?_ (λ_ _ h=>h.elim) (λ_ _ _ h=>h.elim)
 .rintro y pre ⟨O,bn⟩ bt aQ bL aE ⟨f,H,a1,bs,rfl,D,Z,ac,ba⟩ d;obtain⟨i,a7,av,a9⟩:=rP (q:=(O,bn)) (by obtain⟨bj,ap⟩:=aE;rw [ap];simp);have ai:=aU.de.ha T I pre aX ad;have d:=C.gg d;refine bH 2 j (⟨j,_,d,λaQ aC d=>?_⟩);have a6:=aH.st d am;have an:g.off (au [bB m I,J k #[aa aM] 22,bg g aM {c with heard:=f},J l cur 37,H,bI,dA,a1,bs]):=(aH.apart d am).sub (λb ah=>mO.2 (.inr (mO.2 (.inl ah))));have d:=C.gg d;have bC:i<U.length:=(e8.1 av).1;have aI:i<(z.ha g I pre).bz.length:=by have:=D.len;omega
  obtain⟨v,H1,E,B,Y,rfl,a4,bc⟩:=D.at i aI;rw [Y] at av;cases av;obtain⟨x,aN,bf,rfl,a0⟩:=a4.some a9;have aK:(z.ha g I pre).bz[i]? =some (some x):=by rw [cr aI,bf]
  obtain⟨aL,_⟩:=ai.iw i x aK
  have bF:pre.length+1<=U.length:=by
   obtain⟨bj,ap⟩:=aE;have aD:=uy U 0;rw [ap] at aD;simp at aD;omega
  have an:g.off (au [bB m I,J k #[aa aM] 22,bg g aM {c with heard:=f},J l cur 37,H1,E,B,bI,dA,a1,bs]):=an.sub (λb ah=>by simpa [au,or_assoc] using ah);have d:C aC (au [bB m I,J k #[aa aM] 22,bg g aM {c with heard:=f},J l cur 37,H1++(E++B),bI,dA,a1,bs]) [bB m I,J k #[aa aM] 22,bg g aM {c with heard:=f},J l cur 37,H1,E,B,bI,dA,a1,bs] aC:=d.perm (by simp);refine bP 4 (U:=I.cs) j j j (bq (C.aj (b:=m) d)) (bk 0 (BG (I:=I) a0 aL (by omega) (by omega) a6 T (an.sub (fE (by simp))) (d.ours (cM:=[E]))) j (λr w⟨bK,aP,P,ao,bd,a3,F⟩=>?_));subst ao;have d:=d.b1 F;refine ar 6 j (ax (C.aj (b:=k) d) j) ?_;have a5:=si (g:=g) (aM:=aM) (c:={c with heard:=f}) Z ac bd (by have:=ai.lost;omega) (by have:=(bm.tG T aL (by omega) I).2;omega) ai.heard (d.ours (cM:=[bg g aM {c with heard:=f},a1,bs,aP]));refine br 1 a5 j (λw⟨aB,V,W,aS,aV,F⟩=>?_);have d:=d.b1 F;refine bH 0 j ?_
  have ay:z.ha g I (pre++[(O,aa aN)])=aU.f0 {z.ha g I pre with bz:=(z.ha g I pre).bz.set i (some (x.ask g I).1)} (x.ask g I).2.1:=by
   rw [aU.BF];have e:O.toNat=i:=by have bv:O=((0+i:Nat):Int):=a7;omega
   show aU.gr g I (z.ha g I pre) O.toNat=_;rw [e];unfold aU.gr;rw [aK]
  have aW:=bc (some (x.ask g I).1) P ⟨aN,j,a3⟩;refine⟨[bB m I,J k #[aa aM] 22,bg g aM {c with heard:=aB},J l cur 37,H1++(P++B),bI,dA,V,W],?_,aB,H1++(P++B),V,W,j,by rw [ay];exact aW,by rw [ay];exact aS,by rw [ay];exact aV,by rw [cj,List.length_singleton];omega⟩;have d:C aC (au [bB m I,J k #[aa aM] 22,bg g aM {c with heard:=f},J l cur 37,H1++(E++B),bI,dA,a1,bs]) [bB m I,J k #[aa aM] 22,bg g aM {c with heard:=aB},J l cur 37,H1,P,B,bI,dA,V,W] w:=d.as;exact d.perm (by simp)
 rintro xs bu w aZ ⟨f,H,a1,bs,rfl,D,Z,ac,ba⟩ d;subst aZ
 have bi:z.asks g I e=(z.ha g I (fb 0 U),0):=by
  unfold aU.asks;rw [az (by simpa using X),ux g I U 0 z (λi bA aT x=>by rw [Nat.zero_add];exact hL.nil R aT x),<-List.range_eq_range',aw]
 rw [bi];refine bH 3 j ⟨ab 0,λw aq=>?_⟩;have d:=aq.st d (cF _);refine⟨λa ag=>iP (fn:=f34) ag j _ _,?_⟩;have d:C o n [bg g aM {c with heard:=f},J l cur 37,H,bI,dA,a1,bs] w:=d.as;obtain⟨s1,s2,bl⟩:=aU.wt g I (fb 0 U) z;refine⟨j,_,⟨{c with heard:=f},J l cur 37++H,bI,dA,a1,bs,⟨⟨_,_,U,j,?_,D⟩,by rw [s1];exact u.parts,by rw [s2];exact u.b9,Z,ac⟩,j⟩,C.perm (A:=[bg g aM {c with heard:=f},J l cur 37,H,bI,dA,a1,bs]) d (by simp)⟩;show Row 37 1 c.bz _ U _;rw [S,bl,<-aw];exact K
structure jW where
 X:Option Addr
 bN:Nat
 Y:Option Addr
 rB:Nat
 dC:Option Addr
 eh:Nat
abbrev cZ(s:gz)(a:jW):List Value:=[ab s.k,ab s.node,ab s.n,.slice a.X s.x.length a.bN]++ge s.e9 a.Y a.rB a.dC a.eh
structure iV(s:gz)(a:jW)(F:List Nat)(w:World):Prop where
 x:Rd w a.X (aP s.x)
 nF:cc a.X (aP s.x) F
 oJ:s.x.length<=a.bN
 y:Rd w a.Y (aP s.e9.x)
 qz:cc a.Y (aP s.e9.x) F
 qA:s.e9.x.length<=a.rB
 u:Rd w a.dC (s.e9.use.map bG)
 qr:cc a.dC (s.e9.use.map bG) F
 qs:s.e9.use.length<=a.eh
 qt:s.e9.use.length<=maxLen
theorem iV.st{s:gz}{a:jW}{F eJ:List Nat}{w aJ:World}{ae:List (List Chunk)}(h:iV s a F w)(d:C w eJ ae aJ)(c:∀b∈eJ,b∈F):iV s a F aJ:=
 ⟨d.rd h.x (h.nF.sub c),h.nF,h.oJ,d.rd h.y (h.qz.sub c),h.qz,h.qA,d.rd h.u (h.qr.sub c),h.qr,h.qs,h.qt⟩
theorem iV.sub{s:gz}{a:jW}{F eJ:List Nat}{w:World}(h:iV s a F w)(c:∀b∈eJ,b∈F):iV s a eJ w:=
 ⟨h.x,h.nF.sub c,h.oJ,h.y,h.qz.sub c,h.qA,h.u,h.qr.sub c,h.qs,h.qt⟩
theorem iV.apart{s:gz}{a:jW}{F:List Nat}{w aJ:World}{ae:List (List Chunk)}(h:iV s a F w)(b:C w F ae aJ):iV s a (au ae) aJ:=
 ⟨b.rd h.x h.nF,b.apart h.x h.nF,h.oJ,b.rd h.y h.qz,b.apart h.y h.qz,h.qA,b.rd h.u h.qr,b.apart h.u h.qr,h.qs,h.qt⟩
def lg(g:al)(aM:Nat)(z:aU)(i aL:Nat)(G:List Chunk):Prop:=∃(c:cg)(cI bI a1 bs ak H:List Chunk)(U:List Value),v8 g z c cI bI (ak++H) a1 bs/\Row 73 1 c.b9 z.b9.length U ak/\ec lJ U z.b9 H/\U[i]? =some (aa aL)/\G=bg g aM c++(cI++(bI++((ak++H)++(a1++bs))))
theorem lg.rep{g:al}{aM:Nat}{z:aU}{i aL:Nat}{G:List Chunk}(h:lg g aM z i aL G):eo g aM z G:=by
 obtain⟨c,cI,bI,a1,bs,ak,H,U,a,_,_,_,rfl⟩:=h;exact⟨c,cI,bI,_,a1,bs,a,j⟩
theorem bw.xP(e:bw):e.init.1.parts=e.parts:=by
 unfold bw.init;split
 .split<;>rfl
 .rfl
theorem lg.open{g:al}{aM:Nat}{z:aU}{i aL:Nat}{G:List Chunk}{p:bw×Int}(h:lg g aM z i aL G)(f:z.b9[i]? =some p):∃(c:cg)(cI bI a1 bs ak H1 d GE:List Chunk)(aA:Nat),hk aA p.1 GE/\G=bg g aM c++(cI++(bI++((ak++(H1++((db aL aA p.2++GE)++d)))++(a1++bs))))/\
 (∀a b,hk aA a.1 b->lg g aM (z.fG i a) i aL (bg g aM c++(cI++(bI++((ak++(H1++((db aL aA a.2++b)++d)))++(a1++bs)))))):=by
 obtain⟨c,cI,bI,a1,bs,ak,H,U,e,y,u,q,rfl⟩:=h;have n:i<z.b9.length:=(e8.1 f).1;obtain⟨v,H1,A,d,k,rfl,l,x⟩:=u.at i n;rw [k] at q;cases q;have w:z.b9[i]=p:=by rw [cr n] at f;exact hn f
 rw [w] at l;obtain⟨B,aA,GE,r,s,rfl⟩:=l;cases r;refine⟨c,cI,bI,a1,bs,ak,H1,d,GE,aA,s,j,λa b t=>?_⟩;have m:=x a (db aL aA a.2++b) ⟨aL,aA,b,j,t,j⟩
 have o:Row 73 1 c.b9 (z.fG i a).b9.length U ak:=by
  show Row 73 1 c.b9 (z.b9.set i a).length U ak;rw [gJ];exact y
 exact⟨c,cI,bI,a1,bs,ak,_,U,⟨e.bz,e.parts,⟨ak,_,U,j,o,m⟩,e.bp,e.heard⟩,o,m,k,j⟩
theorem Bd{o:World}{g:al}{aM:Nat}{z:aU}{G:List Chunk}{s:gz}{a:jW}(t:eo g aM z G){N M L:Nat}(ad:z.de g (λ_=>N) M L)(p:773<=N)(q:N+150<=1000000)(m:L+4200000<=1000000000)(x:g.at o)(y:g.ok)(l:g.off (au [G]))(d:Own [G] o):Calls prog 19 #[aa aM,.agg (cZ s a).toArray] o λr w=>r=ab (z.rf g s).2/\∃af,eo g aM (z.rf g s).1 af/\C o (au [G]) [af] w:=by
 obtain⟨e,h⟩:∃e,e=au [G]:=⟨_,j⟩;have A:g.off e:=h▸l;rw [<-h];have d:C o e [G] o:=h▸d;refine a6 func19 (bJ 2 d j j (λk w d=>?_));have d:C o e [J k (cZ s a).toArray 31,G] w:=d;refine ar 4 j (ax (C.aj (b:=k) d) j) (cP (c:=(mn s.n).cs.toArray) j j j (λ_=>by kernel_rfl) (cx 0 d j (λf w d=>cv 0 (d.bc f) j j j j j (λw d=>?_))));have d:=C.whole (U:=((mn s.n)).cs) d j;have d:C o e (bB f (mn s.n)::_) w:=d;refine bP 2 (U:=(mn s.n).cs) j j j (bq (C.aj (b:=f) d)) (bk 0 (t7 (o:=w) (I:=mn s.n)) j (λr w⟨v,D,B,E,i⟩=>?_));subst B;have d:=d.aO i;refine bP 8 (U:=(mn s.n).cs) j j j (bq (C.aj (b:=f) d)) (br 1 (rk (I:=mn s.n) t ad p q m (x.st d A) y l (d.ours (cM:=[G]))) j (λw⟨af,u,i⟩=>?_));have d:=d.b1 i;exact an 1 j j ⟨j,af,u,d.as⟩
theorem DQ{o:World}{g:al}{aM:Nat}{z:aU}{G:List Chunk}{i aL:Nat}{p:bw×Int}(O:lg g aM z i aL G)(E:z.b9[i]? =some p){N M L:Nat}(ad:z.de g (λ_=>N) M L)(J:773<=N)(K:N+150<=1000000)(H:L+4200000<=1000000000)(B:g.at o)(Q:g.ok)(R:g.off (au [G]))(a:Own [G] o):Calls prog 33 #[aa aM,aa aL] o λr w=>r=ab (z.inits g i p).2/\∃af,eo g aM (z.inits g i p).1 af/\C o (au [G]) [af] w:=by
 obtain⟨d,m⟩:∃d,d=au [G]:=⟨_,j⟩;have D:g.off d:=m▸R;rw [<-m];have a:C o d [G] o:=m▸a;have t:p.1.ok:=ad.j4 p (ia E);obtain⟨c,cI,bI,a1,bs,ak,H1,k,GE,aA,F,rfl,y⟩:=O.open E;obtain⟨u,h,v,rfl⟩:=F;have a:C o d [bg g aM c,cI,bI,ak,H1,db aL aA p.2,bA aA p.1 u,h,k,a1,bs] o:=a.perm (by simp);refine a6 func33 (ar 8 j (ax (C.aj (b:=aL) a) j) (br 0 (DP (aA:=aA) (e:=p.1) (u:=u) t.next t.name (a.ours (cM:=[bA aA p.1 u]))) j (λw n=>?_)));have a:=a.b1 n;refine cx 3 a j (λf w a=>?_);have a:C o d (bB f c7::_) w:=a;refine cv 0 (a.bc f) j j j j j (λw a=>?_);have a:=C.whole (U:=p.1.init.2.1.cs) a j;have a:C o d (bB f p.1.init.2.1::_) w:=a;refine bo 6 j j (λl=>?_) (λl=>?_);refine ar 3 j (ax (C.aj (b:=f) a) j) (dE 2 (a.bc aL) j j j j (λw a=>?_));have a:C o d (db aL aA p.1.init.2.1.s::_) w:=a;have q:(p.1.init.1,if p.1.init.2.2=0 then p.1.init.2.1.s else p.2)=(p.1.init.1,p.1.init.2.1.s):=aK (Prod.mk p.1.init.1) (aR (by simpa using l))
 obtain⟨aB,x,a⟩:∃aB,eo g aM (z.fG i (p.1.init.1,if p.1.init.2.2=0 then p.1.init.2.1.s else p.2)) aB/\C o d [aB,bB f p.1.init.2.1] w:=by
  rw [q];have a:C o d [bg g aM c,cI,bI,ak,H1,db aL aA p.1.init.2.1.s,bA aA p.1.init.1 u,h,k,a1,bs,bB f p.1.init.2.1] w:=a.as;exact⟨_,(y (p.1.init.1,p.1.init.2.1.s) _ ⟨u,h,by rw [bw.xP];exact v,j⟩).rep,C.perm (A:=[bg g aM c,cI,bI,ak,H1,db aL aA p.1.init.2.1.s,bA aA p.1.init.1 u,h,k,a1,bs,bB f p.1.init.2.1]) a (by simp)⟩
 refine bP 3 (U:=p.1.init.2.1.cs) j j j (bq (C.aj (b:=f) a)) ?_;rotate_left
 have q:(p.1.init.1,if p.1.init.2.2=0 then p.1.init.2.1.s else p.2)=(p.1.init.1,p.2):=aK (Prod.mk p.1.init.1) (az (by simpa using l))
 obtain⟨aB,x,a⟩:∃aB,eo g aM (z.fG i (p.1.init.1,if p.1.init.2.2=0 then p.1.init.2.1.s else p.2)) aB/\C o d [aB,bB f p.1.init.2.1] w:=by
  rw [q];have a:C o d [bg g aM c,cI,bI,ak,H1,db aL aA p.2,bA aA p.1.init.1 u,h,k,a1,bs,bB f p.1.init.2.1] w:=a.as;exact⟨_,(y (p.1.init.1,p.2) _ ⟨u,h,by rw [bw.xP];exact v,j⟩).rep,C.perm (A:=[bg g aM c,cI,bI,ak,H1,db aL aA p.2,bA aA p.1.init.1 u,h,k,a1,bs,bB f p.1.init.2.1]) a (by simp)⟩
 refine bP 4 (U:=p.1.init.2.1.cs) j j j (bq (C.aj (b:=f) a)) ?_;rotate_left
 all_goals
  refine br 1 (rk (I:=p.1.init.2.1) x (ad.fG t.init) J K H (B.st a D) Q (a.eE B D) (a.ours (cM:=[aB]))) j (λw⟨af,P,n⟩=>?_);have a:=a.b1 n;exact an 1 j j ⟨j,af,P,a.as⟩
theorem lg.Fv{g:al}{aM:Nat}{z:aU}{i aL:Nat}{G:List Chunk}{p:bw×Int}(h:lg g aM z i aL G)(k:z.b9[i]? =some p):∃(c:cg)(cI bI a1 bs ak H1 e GE:List Chunk)(aA:Nat),hk aA p.1 GE/\o0 48 (jb g) c.parts z.parts bI/\G=bg g aM c++(cI++(bI++((ak++(H1++((db aL aA p.2++GE)++e)))++(a1++bs))))/\
 (∀a b l d,o0 48 (jb g) c.parts l d->hk aA a.1 b->eo g aM {z.fG i a with parts:=l} (bg g aM c++(cI++(d++((ak++(H1++((db aL aA a.2++b)++e)))++(a1++bs)))))):=by
 obtain⟨c,cI,bI,a1,bs,ak,H,U,f,B,u,o,rfl⟩:=h;have n:i<z.b9.length:=(e8.1 k).1;obtain⟨v,H1,D,e,q,rfl,m,A⟩:=u.at i n;rw [q] at o;cases o;have y:z.b9[i]=p:=by rw [cr n] at k;exact hn k
 rw [y] at m;obtain⟨E,aA,GE,r,s,rfl⟩:=m;cases r;refine⟨c,cI,bI,a1,bs,ak,H1,e,GE,aA,s,f.parts,j,λa b l d x t=>?_⟩;have w:=A a (db aL aA a.2++b) ⟨aL,aA,b,j,t,j⟩
 have C:Row 73 1 c.b9 (z.b9.set i a).length U ak:=by
  rw [gJ];exact B
 exact⟨c,cI,d,_,a1,bs,⟨f.bz,x,⟨ak,_,U,j,C,w⟩,f.bp,f.heard⟩,j⟩
theorem ec.vh{g:al}:∀{U:List Value}{xs:List cR}{G:List Chunk},ec (jb g) U xs G->∀v∈U,∃p,v= .pointer p
 |[],_,_,_=>by intro v a;cases a
 |u::us,[],_,h=>h.elim
 |u::us,x::xs,_,⟨_,_,_,hu,h⟩=>by
  intro v a;rcases hD.1 a with rfl|a
  .obtain⟨c,b,_⟩:=hu;exact⟨_,b⟩
  .exact h.vh v a
theorem bw.F3{e:bw}(h:e.ok){n:Int}{x:List UInt8}(a:(e.record n x).2.2=0):0<=n/\n<=3:=by
 unfold bw.record at a;split at a
 .cases a
 .rename_i q c;have b:n∈e.parts.map Prod.fst:=ee.2 ⟨_,io c,j⟩;rw [h.keys] at b;simp at b;omega
theorem F4{o:World}{g:al}{aM:Nat}{z:aU}{G:List Chunk}{i aL:Nat}{p:bw×Int}{s:gz}{a:jW}(aN:lg g aM z i aL G)(aF:z.b9[i]? =some p)(am:iV s a (au [G]) o){N M L:Nat}(ad:z.de g (λ_=>N) M L)(aZ:773<=N)(a0:N+150<=1000000)(aY:M+10000<=1000000)(aV:L+4200000<=1000000000)(a3:g.at o)(a5:g.ok)(aP:g.off (au [G]))(d:Own [G] o):Calls prog 36 #[aa aM,.agg (cZ s a).toArray,aa aL] o λr w=>r=ab (z.records s i p).2/\∃af,eo g aM (z.records s i p).1 af/\C o (au [G]) [af] w:=by
 obtain⟨e,Y⟩:∃e,e=au [G]:=⟨_,j⟩;have a7:g.off e:=Y▸aP;rw [<-Y] at am⊢;have d:C o e [G] o:=Y▸d;have aq:p.1.ok:=ad.j4 p (ia aF);obtain⟨c,cI,bI,a1,bs,ak,H1,q,GE,aA,aB,aC,rfl,ah⟩:=aN.Fv aF;have d:C o e [bg g aM c,cI,bI,ak,H1,db aL aA p.2,GE,q,a1,bs] o:=d.perm (by simp);refine a6 func36 (bJ 2 d j j (λf w d=>?_));have d:C o e [J f (cZ s a).toArray 31,bg g aM c,cI,bI,ak,H1,db aL aA p.2,GE,q,a1,bs] w:=d;have d:C o e ([J f (cZ s a).toArray 31,db aL aA p.2]++_) _:=d.front;have d:=d.drew;refine bx 2 j (λw=>∃ae,C o e ([J f (cZ s a).toArray 31,db aL aA p.2]++ae) w) ⟨_,d⟩ (ag 0 3 j (a8 3 j a2 j (ag 4 1 j (a8 5 j a2 j (ag 6 1 j (a8 7 j a2 j (aS 8 12 j j ?_ ?_)))))));have K:=am.apart d;refine cS j j j (ze (n:=s.n) (gW:=a.bN) aB aq.oq K.x (K.nF.sub (fE (by simp))) (d.ours (cM:=[GE]))) (λr w⟨u,I,F,hu,m,P,H⟩=>?_);subst F;obtain⟨l,t,rfl,aE,_⟩:=Row.form hu;have d:=d.b1 H;have d:C o e ([J f (cZ s a).toArray 31,db aL aA p.2]++_) w:=d.front;refine ao ⟨⟨_,d⟩,?_⟩;refine ag 9 3 j (aX 12 j (eu d j j (λk w d=>?_)));have d:C o e (J k (rcc eS (.slice none 0 0)).toArray 169::_) w:=d;have d:C o e ([J f (cZ s a).toArray 31,db aL aA p.2]++_) w:=d.front;refine ao ⟨⟨_,d⟩,?_⟩;rotate_left
 refine eu d j j (λk w d=>?_);have d:C o e (J k (rcc eS (.slice none 0 0)).toArray 169::_) w:=d;have d:C o e ([J f (cZ s a).toArray 31,db aL aA p.2]++_) w:=d.front;refine ao ⟨⟨_,d⟩,?_⟩;refine aX 8 j ?_;have K:=am.apart d;refine cS j j j (ze (n:=s.n) (gW:=a.bN) aB aq.oq K.x (K.nF.sub (fE (by simp))) (d.ours (cM:=[GE]))) (λr w⟨u,I,F,hu,m,P,H⟩=>?_);subst F;obtain⟨l,t,rfl,aE,_⟩:=Row.form hu;have d:=d.b1 H;have d:C o e ([J f (cZ s a).toArray 31,db aL aA p.2]++_) w:=d.front;refine ao ⟨⟨_,d⟩,?_⟩;refine ag 9 3 j ?_;rotate_left
 all_goals
  refine aX 13 j (c6 (d.bc k) j j j j j bO (λw d=>?_));have d:=C.whole (U:=rcc (p.1.record s.n s.x).2.1 (.slice l (p.1.record s.n s.x).2.1.x.length t)) d j;have d:C o e ([(k,.cells (rcc (p.1.record s.n s.x).2.1 (.slice l (p.1.record s.n s.x).2.1.x.length t)).toArray 169 (0,0))]::_) w:=d;have d:C o e ([J f (cZ s a).toArray 31,db aL aA p.2]++_) w:=d.front;refine ao ⟨⟨_,d⟩,?_⟩;refine ag 14 1 j (bL (bo 5 j j (λW=>?_) (λW=>?_)))
  .refine an 4 j j ?_;have O:z.records s i p=(z.fG i ((p.1.record s.n s.x).1,p.2),(p.1.record s.n s.x).2.2):=aR (by simpa using W);rw [O];have d:C o e [bg g aM c,cI,bI,ak,H1,db aL aA p.2,m,q,a1,bs] _:=d.as;exact⟨j,_,ah ((p.1.record s.n s.x).1,p.2) m z.parts bI aC P,C.perm (A:=[bg g aM c,cI,bI,ak,H1,db aL aA p.2,m,q,a1,bs]) d (by simp)⟩
  obtain⟨h,aw,aH,rfl,ar,Z⟩:=aC;have d:C o e [J f (cZ s a).toArray 31,[(k,.cells (rcc (p.1.record s.n s.x).2.1 (.slice l (p.1.record s.n s.x).2.1.x.length t)).toArray 169 (0,0))],bg g aM c,cI,h,aw,ak,H1,db aL aA p.2,m,q,a1,bs,I] _:=C.perm (A:=[J f (cZ s a).toArray 31,[(k,.cells (rcc (p.1.record s.n s.x).2.1 (.slice l (p.1.record s.n s.x).2.1.x.length t)).toArray 169 (0,0))],bg g aM c,cI,h++aw,ak,H1,db aL aA p.2,m,q,a1,bs,I]) d.as (by simp);have d:C o e ([J f (cZ s a).toArray 31,bg g aM c,h,[(k,.cells (rcc (p.1.record s.n s.x).2.1 (.slice l (p.1.record s.n s.x).2.1.x.length t)).toArray 169 (0,0))]]++_) _:=d.front;have d:=d.drew;have ai:(p.1.record s.n s.x).2.2=0:=by simpa using W
  refine bx 2 j (λw=>∃ae,C o e ([J f (cZ s a).toArray 31,bg g aM c,h,[(k,.cells (rcc (p.1.record s.n s.x).2.1 (.slice l (p.1.record s.n s.x).2.1.x.length t)).toArray 169 (0,0))]]++ae) w) ⟨_,d⟩ (ag 0 2 j (a8 2 j a2 j (bl 4 j (λw⟨_,d⟩=>dd (U:=rcc (p.1.record s.n s.x).2.1 (.slice l (p.1.record s.n s.x).2.1.x.length t)) j j j (bq (C.aj (b:=k) d))) (aX 3 j ?_))));obtain⟨ap,a4⟩:=bw.F3 aq ai;have R:s.n.toNat<z.parts.length:=by rw [ad.parts];omega
  obtain⟨v,D,T,E,aT,rfl,aJ,aG⟩:=Z.at s.n.toNat R;obtain⟨bh,rfl,ax⟩:=aJ;obtain⟨b,Q⟩:∃b,z.parts[s.n.toNat]=b:=⟨_,j⟩;rw [Q] at ax;refine cS j j j (yS (V:=jb g) (i:=s.n) (C.aj (b:=aM) d) ar (d.holds (G:=h) (by simp)) Z.len (ec.vh Z)) (λr w⟨F,hw⟩=>?_);rw [aR ⟨ap,by omega⟩,pg,aT] at F;have F:r=aa bh:=F;subst F;have hw:=hw.symm;subst hw;refine ao ⟨⟨_,d⟩,?_⟩;refine aX 5 j ?_;have d:C o e [J f (cZ s a).toArray 31,[(k,.cells (rcc (p.1.record s.n s.x).2.1 (.slice l (p.1.record s.n s.x).2.1.x.length t)).toArray 169 (0,0))],bg g aM c,cI,h,D,T,E,ak,H1,db aL aA p.2,m,q,a1,bs,I] _:=C.perm (A:=[J f (cZ s a).toArray 31,[(k,.cells (rcc (p.1.record s.n s.x).2.1 (.slice l (p.1.record s.n s.x).2.1.x.length t)).toArray 169 (0,0))],bg g aM c,cI,h,D++(T++E),ak,H1,db aL aA p.2,m,q,a1,bs,I]) d.as (by simp);have aD:=ad.jt b (by rw [<-Q];exact eB R);obtain⟨_,_,aI,_,_,aQ,aO⟩:=Row.rd hu (d.to I);cases aI;refine bK j j j (Bv (r:=(p.1.record s.n s.x).2.1) (B:=l) (aW:=t) ax (by have:=aD.ch;omega) (by have:=aD.cY;omega) aQ (aO.sub (fE (by simp))) aE (d.ours (cM:=[T]))) (λw⟨y,ay,H⟩=>?_);have d:=d.b1 H;have d:C o e ([J f (cZ s a).toArray 31,bg g aM c,h,[(k,.cells (rcc (p.1.record s.n s.x).2.1 (.slice l (p.1.record s.n s.x).2.1.x.length t)).toArray 169 (0,0))]]++_) w:=d.front;refine ao ⟨⟨_,d⟩,?_⟩;refine ag 6 4 j (bL (bo 5 j j (λX=>?_) (λX=>?_)))
  .have d:C o e ([J f (cZ s a).toArray 31,db aL aA p.2]++_) _:=d.front;have d:=d.drew;refine bx 0 j (λw=>∃ae,C o e ([J f (cZ s a).toArray 31,db aL aA p.2]++ae) w) ⟨_,d⟩ (ag 0 3 j (a8 3 j a2 j (ag 4 1 j (a8 5 j a2 j (dK 6 j (bK j j j (Ba (n:=s.n) P (d.ours (cM:=[m]))) (λw⟨S,aK,H⟩=>?_)))))));have d:=d.b1 H;refine ao (c5 (an 4 j j ?_))
   have av:z.part s.n=some b:=by
    unfold aU.part;rw [aR ap,cr R,Q]
   have O:z.records s i p=((z.fG i (((p.1.record s.n s.x).1.jk s.n).1,p.2)).nB s.n {b with log:=(b.log.append (p.1.record s.n s.x).2.1).1},(b.log.append (p.1.record s.n s.x).2.1).2.2):=by
    unfold aU.records;rw [az (by simpa using ai),av];dsimp only;rw [aR (by simpa using X)]
   rw [O];have ac:=aG {b with log:=(b.log.append (p.1.record s.n s.x).2.1).1} y ⟨bh,j,ay⟩;have d:C o e [bg g aM c,cI,h,D,y,E,ak,H1,db aL aA p.2,S,q,a1,bs] _:=d.as;refine⟨j,_,ah (((p.1.record s.n s.x).1.jk s.n).1,p.2) S (z.parts.set s.n.toNat {b with log:=(b.log.append (p.1.record s.n s.x).2.1).1}) (h++(D++(y++E))) ⟨h,_,aH,j,by rw [List.length_set];exact ar,ac⟩ aK,C.perm (A:=[bg g aM c,cI,h,D,y,E,ak,H1,db aL aA p.2,S,q,a1,bs]) d (by simp)⟩
  refine an 5 j j ?_
  have av:z.part s.n=some b:=by
   unfold aU.part;rw [aR ap,cr R,Q]
  have O:z.records s i p=((z.fG i ((p.1.record s.n s.x).1,p.2)).nB s.n {b with log:=(b.log.append (p.1.record s.n s.x).2.1).1},(b.log.append (p.1.record s.n s.x).2.1).2.2):=by
   unfold aU.records;rw [az (by simpa using ai),av];dsimp only;rw [az (by simpa using X)]
  rw [O];have ac:=aG {b with log:=(b.log.append (p.1.record s.n s.x).2.1).1} y ⟨bh,j,ay⟩;have d:C o e [bg g aM c,cI,h,D,y,E,ak,H1,db aL aA p.2,m,q,a1,bs] _:=d.as;refine⟨j,_,ah ((p.1.record s.n s.x).1,p.2) m (z.parts.set s.n.toNat {b with log:=(b.log.append (p.1.record s.n s.x).2.1).1}) (h++(D++(y++E))) ⟨h,_,aH,j,by rw [List.length_set];exact ar,ac⟩ P,C.perm (A:=[bg g aM c,cI,h,D,y,E,ak,H1,db aL aA p.2,m,q,a1,bs]) d (by simp)⟩
theorem eo.Ci{g:al}{aM:Nat}{z:aU}{G:List Chunk}(h:eo g aM z G)(q:0<z.b9.length):∃(c:cg)(a cap:Nat),c.b9= .slice (some ⟨a,0,none⟩) z.b9.length cap/\z.b9.length<=cap/\cap<=maxLen/\(∀w,Holds w G->w.heap[aM]? =some (.cells (lH g c).toArray 60 (0,0)))/\
 ∀(i:Nat)(p:bw×Int),z.b9[i]? =some p->∃aL,lg g aM z i aL G/\∀w,Holds w G->w.cell? ⟨a,0+i*1,none⟩=some (aa aL):=by
 obtain⟨c,cI,bI,dA,a1,bs,l,rfl⟩:=h;have y:=l;obtain⟨ak,H,U,rfl,m,d⟩:=l.b9;have n:=m;obtain⟨a,cap,cur,k,rfl,r,s,_⟩:=Row.block m q;refine⟨c,a,cap,k,r,s,λw b=>b.left.head,λi p u=>?_⟩;have x:i<z.b9.length:=(e8.1 u).1;obtain⟨v,_,B,_,o,C,t,_⟩:=d.at i x;obtain⟨aL,_,_,rfl,_⟩:=t;refine⟨aL,⟨c,cI,bI,a1,bs,_,H,U,y,n,d,o,j⟩,λw b=>?_⟩;obtain⟨_,_,e,_,_,A,_⟩:=Row.read n b.right.right.right.left.left;rw [k] at e;cases e;have f:=A.cell o;rw [add_lit] at f;rw [gK];exact f
theorem se{o:World}{g:al}{aM:Nat}{z:aU}{G:List Chunk}{s:gz}{a:jW}(W:eo g aM z G)(av:iV s a (au [G]) o){N M L:Nat}(ad:z.de g (λ_=>N) M L)(K:773<=N)(O:N+150<=1000000)(ap:M+10000<=1000000)(H:L+4200000<=1000000000)(x:g.at o)(Q:g.ok)(Z:g.off (au [G]))(d:Own [G] o):Calls prog 18 #[aa aM,.agg (cZ s a).toArray] o λr w=>r=ab (z.gZ g s).2/\∃af,eo g aM (z.gZ g s).1 af/\C o (au [G]) [af] w:=by
 obtain⟨h,F⟩:∃h,h=au [G]:=⟨_,j⟩;have y:g.off h:=F▸Z;have aw:iV s a h o:=F▸av;rw [<-F];have d:C o h [G] o:=F▸d;obtain⟨c,aD,cap,ah,aF,aG,am,aq⟩:=W.Ci (by rw [ad.b9];decide);have aE:=ad.b9;refine a6 func18 (bJ 2 d j j (λf w d=>?_));have d:C o h [J f (cZ s a).toArray 31,G] w:=d;have d:C o h ([J f (cZ s a).toArray 31,G]++_) _:=d.front;have d:=d.drew;refine bx 3 j (λw=>∃ae,C o h ([J f (cZ s a).toArray 31,G]++ae) w) ⟨_,d⟩ (ag 0 1 j (a8 1 j a2 j (ag 2 2 j (ek 9 j (λk=>?_) (λk=>?_)))))
 .refine ag 4 9 j (bL (an 4 j j ?_))
  have m:z.gZ g s=(z,1):=by
   unfold aU.gZ;have e:(if 0<=s.node then z.b9[s.node.toNat]? else none)=none:=az (by have:=dV k;omega);rw [e]
  rw [m];exact⟨j,G,W,d.as⟩
 refine ag 4 1 j (a8 5 j a2 j (ag 6 3 j (b4 9 j (λw⟨_,d⟩=>ax (am _ (d.holds (G:=G) (by simp))) (aK some ah)) (ag 10 3 j (bL (cy 0 j j (λac=>?_) (λac=>?_)))))))
 .refine an 3 j j ?_
  have m:z.gZ g s=(z,1):=by
   unfold aU.gZ;have e:(if 0<=s.node then z.b9[s.node.toNat]? else none)=none:=(aR (by have:=dY k;omega)).trans (lh (by have:=ac;have:=dY k;omega));rw [e]
  rw [m];exact⟨j,G,W,d.as⟩
 obtain⟨i,ay⟩:∃i:Nat,s.node=i:=⟨s.node.toNat,by have:=dY k;omega⟩;have ai:i<z.b9.length:=by omega
 obtain⟨p,v⟩:∃p,z.b9[i]? =some p:=⟨_,cr ai⟩;have B:p.1.ok:=ad.j4 p (ia v);obtain⟨aL,P,aC⟩:=aq i p v;have R:(if 0<=s.node then z.b9[s.node.toNat]? else none)=some p:=by rw [aR (by omega),show s.node.toNat=i by omega,v]
 have d:C o h ([J f (cZ s a).toArray 31,G]++_) _:=d.front;have d:=d.drew;refine bx 2 j (λw=>∃ae,C o h ([J f (cZ s a).toArray 31,G]++ae) w) ⟨_,d⟩ (ag 0 3 j (b4 3 j (λw⟨_,d⟩=>ax (am _ (d.holds (G:=G) (by simp))) (aK some ah)) (ag 4 1 j (a8 5 j a2 j (iF 24 (.int .i64 (i:Nat)) j (aK (Value.int .i64) ay) (bl 6 j (λw _=>g4 j j ai) (b4 7 j (λw⟨_,d⟩=>aC _ (d.holds (G:=G) (by simp))) (ag 8 1 j (bL (ar 4 j (ax (C.aj (b:=f) d) j) (bo 5 j j (λD=>?_) (λD=>?_))))))))))))
 .refine br 4 (DQ P v ad K O H (x.st d y) Q Z (d.ours (cM:=[G]))) j (λw⟨af,u,l⟩=>?_);have d:=d.b1 l;refine an 1 j j ?_
  have m:z.gZ g s=z.inits g i p:=by
   unfold aU.gZ;rw [R];dsimp only;rw [aR (by simpa using D),show s.node.toNat=i by omega]
  rw [m];exact⟨j,af,u,d.as⟩
 refine bo 4 j j (λE=>?_) (λE=>?_)
 .obtain⟨k,cI,bI,a1,bs,ak,H1,q,GE,aA,T,rfl,Y⟩:=P.open v;have d:C o h [J f (cZ s a).toArray 31,bg g aM k,cI,bI,ak,H1,db aL aA p.2,GE,q,a1,bs] _:=C.perm (A:=[J f (cZ s a).toArray 31,bg g aM k++(cI++(bI++((ak++(H1++((db aL aA p.2++GE)++q)))++(a1++bs))))]) d.as (by simp);have d:C o h ([J f (cZ s a).toArray 31,db aL aA p.2]++_) _:=d.front;have d:=d.drew;refine bx 1 j (λw=>∃ae,C o h ([J f (cZ s a).toArray 31,db aL aA p.2]++ae) w) ⟨_,d⟩ (ag 0 4 j (a8 4 j a2 j (ag 5 1 j (a8 6 j a2 j (aX 7 j (bK j j j (BR (n:=s.n) T B.next B.last (d.ours (cM:=[GE]))) (λw⟨t,V,l⟩=>?_)))))));have d:=d.b1 l;have d:C o h ([J f (cZ s a).toArray 31,db aL aA p.2]++_) _:=d.front;refine ao ⟨⟨_,d⟩,?_⟩;refine ag 8 2 j (dK 10 j ?_)
  obtain⟨aB,X,d⟩:∃aB,eo g aM (z.fG i ((p.1.gs s.n).1,p.2)) aB/\C o h [aB,J f (cZ s a).toArray 31] _:=by
   have d:C o h [bg g aM k,cI,bI,ak,H1,db aL aA p.2,t,q,a1,bs,J f (cZ s a).toArray 31] _:=d.as;exact⟨_,(Y ((p.1.gs s.n).1,p.2) t V).rep,C.perm (A:=[bg g aM k,cI,bI,ak,H1,db aL aA p.2,t,q,a1,bs,J f (cZ s a).toArray 31]) d (by simp)⟩
  refine bK j j j (rk (I:=(p.1.gs s.n).2.1) X (ad.fG (B.gs _)) K O H (x.st d y) Q (d.eE x y) (d.ours (cM:=[aB]))) (λw⟨af,u,l⟩=>?_);have d:=d.b1 l;refine ao (jN 11 j (vO j j j (ao (c5 (an 0 j j ?_)))))
  have m:z.gZ g s=(z.fG i ((p.1.gs s.n).1,p.2)).asks g (p.1.gs s.n).2.1 (p.1.gs s.n).2.2:=by
   unfold aU.gZ;rw [R];dsimp only;rw [az (by simpa using D)];rw [aR (by simpa using E),show s.node.toNat=i by omega]
  rw [m];exact⟨j,af,u,d.as⟩
 refine bo 4 j j (λS=>?_) (λS=>?_)
 .refine bP 3 (U:=cZ s a) j j j (bq (C.aj (b:=f) d)) (br 1 (F4 (s:=s) (a:=a) P v ((aw.apart d).sub (fE (by simp))) ad K O ap H (x.st d y) Q Z (d.ours (cM:=[G]))) j (λw⟨af,u,l⟩=>?_));have d:=d.b1 l;refine an 1 j j ?_
  have m:z.gZ g s=z.records s i p:=by
   unfold aU.gZ;rw [R];dsimp only;rw [az (by simpa using D)];rw [az (by simpa using E)];rw [aR (by simpa using S),show s.node.toNat=i by omega]
  rw [m];exact⟨j,af,u,d.as⟩
 obtain⟨k,cI,bI,a1,bs,ak,H1,q,GE,aA,T,rfl,Y⟩:=P.open v;have d:C o h [J f (cZ s a).toArray 31,bg g aM k,cI,bI,ak,H1,db aL aA p.2,GE,q,a1,bs] _:=C.perm (A:=[J f (cZ s a).toArray 31,bg g aM k++(cI++(bI++((ak++(H1++((db aL aA p.2++GE)++q)))++(a1++bs))))]) d.as (by simp);have d:C o h ([J f (cZ s a).toArray 31,db aL aA p.2]++_) _:=d.front;have d:=d.drew;refine bx 2 j (λw=>∃ae,C o h ([J f (cZ s a).toArray 31,db aL aA p.2]++ae) w) ⟨_,d⟩ (ag 0 4 j (a8 4 j a2 j (ag 5 1 j (a8 6 j a2 j (ag 7 1 j (aX 8 j (bK j j j (CX (cu:=(s.n !=0)) T B.next (by have:=aK List.length B.keys;rw [fa] at this;rw [this];decide) (d.ours (cM:=[GE]))) (λw⟨t,V,l⟩=>?_))))))));have d:=d.b1 l;have d:C o h ([J f (cZ s a).toArray 31,db aL aA p.2]++_) _:=d.front;refine ao ⟨⟨_,d⟩,?_⟩;refine ag 9 2 j (dK 11 j ?_)
 obtain⟨aB,X,d⟩:∃aB,eo g aM (z.fG i ((p.1.end_ (s.n !=0)).1,p.2)) aB/\C o h [aB,J f (cZ s a).toArray 31] _:=by
  have d:C o h [bg g aM k,cI,bI,ak,H1,db aL aA p.2,t,q,a1,bs,J f (cZ s a).toArray 31] _:=d.as;exact⟨_,(Y ((p.1.end_ (s.n !=0)).1,p.2) t V).rep,C.perm (A:=[bg g aM k,cI,bI,ak,H1,db aL aA p.2,t,q,a1,bs,J f (cZ s a).toArray 31]) d (by simp)⟩
 refine bK j j j (rk (I:=(p.1.end_ (s.n !=0)).2.1) X (ad.fG (B.end_ _)) K O H (x.st d y) Q (d.eE x y) (d.ours (cM:=[aB]))) (λw⟨af,u,l⟩=>?_);have d:=d.b1 l;refine ao (jN 12 j (vO j j j (ao (c5 (an 0 j j ?_)))))
 have m:z.gZ g s=(z.fG i ((p.1.end_ (s.n !=0)).1,p.2)).asks g (p.1.end_ (s.n !=0)).2.1 (p.1.end_ (s.n !=0)).2.2:=by
  unfold aU.gZ;rw [R];dsimp only;rw [az (by simpa using D)];rw [az (by simpa using E)];rw [az (by simpa using S)];rw [show s.node.toNat=i by omega]
 rw [m];exact⟨j,af,u,d.as⟩
def lN(g:al)(p:Option Addr)(I:Option bm)(G:List Chunk):Prop:=(p=none/\I=none/\G=[])\/∃x a,p=some ⟨a,0,none⟩/\I=some x/\hB g a x G
def jy(g:al)(I:Option bm)(m:aY):Option bm×List aY:=match I with
 |none=>(none,[])
 |some x=>(some (x.take g m).1,(x.take g m).2)
def aU.qi(z:aU)(i:Int)(I:Option bm):aU:=match I with
 |none=>z
 |some x=>z.kz i x
theorem aU.FQ(z:aU):z.f0 []=z:=by
 unfold aU.f0;simp
theorem aU.Ds(g:al)(z:aU)(m:aY):z.kp g m=(z.qi m.to (jy g (z.rep m.to) m).1).f0 (jy g (z.rep m.to) m).2:=by
 unfold aU.kp;cases h:z.rep m.to with
 |none=>exact(aU.FQ z).symm
 |some x=>rfl
theorem eo.r6{g:al}{aM:Nat}{z:aU}{G:List Chunk}(h:eo g aM z G)(i:Int):∃(c:cg)(p:Option Addr)(ak H1 o r bI dA a1 bs:List Chunk)(U:List Value),lN g p (z.rep i) o/\Row 37 1 c.bz z.bz.length U ak/\U.length=z.bz.length/\(∀v∈U,∃q,v= .pointer q)/\(if 0<=i/\i<(z.bz.length:Int) then U.getD i.toNat (.pointer none) else .pointer none)= .pointer p/\gH c.bp z.bp z.lost a1/\cC c.heard z.heard bs/\
 G=bg g aM c++((ak++(H1++(o++r)))++(bI++(dA++(a1++bs))))/\
 ∀(I:Option bm)(k:List Chunk)(bp:List aY)(lost:Nat)(heard:List aY)(m:Value)(d f:List Chunk),lN g p I k->gH c.bp bp lost d->cC m heard f->
  eo g aM {z.qi i I with bp:=bp,lost:=lost,heard:=heard} (bg g aM {c with heard:=m}++((ak++(H1++(k++r)))++(bI++(dA++(d++f))))):=by
 obtain⟨c,cI,bI,dA,a1,bs,a,rfl⟩:=h;obtain⟨ak,H,U,rfl,s,l⟩:=a.bz;have C:=l.len
 have N:z.rep i=none->(if 0<=i/\i<(z.bz.length:Int) then U.getD i.toNat (.pointer none) else .pointer none)= .pointer none:=λaT=>by
  split
  .rename_i P;have n:i.toNat<z.bz.length:=by omega
   obtain⟨v,_,_,_,y,_,b,_⟩:=l.at i.toNat n;unfold aU.rep at aT;rw [aR P.1,cr n] at aT;have aT:z.bz[i.toNat]=none:=aT;rw [aT] at b;rw [pg,y,b.1];rfl
  .rfl
 cases D:z.rep i with
 |none=>
  refine⟨c,none,ak,H,[],[],bI,dA,a1,bs,U,.inl ⟨j,j,j⟩,s,C,l.p7,N D,a.bp,a.heard,by simp,λI k bp lost heard m d f b u w=>?_⟩
  obtain⟨_,rfl,rfl⟩:(none:Option Addr)=none/\I=none/\k=[]:=by
   rcases b with h|⟨_,_,h,_⟩
   .exact h
   .cases h
  have e:H++([]++[])=H:=by simp
  rw [e];exact⟨{c with heard:=m},_,bI,dA,d,f,⟨⟨ak,H,U,j,s,l⟩,a.parts,a.b9,u,w⟩,j⟩
 |some x=>
  obtain⟨F,A⟩:=aU.qb D;have n:i.toNat<z.bz.length:=(e8.1 A).1;obtain⟨v,H1,o,r,y,rfl,b,O⟩:=l.at i.toNat n;have Q:z.bz[i.toNat]=some x:=by rw [cr n] at A;exact hn A
  rw [Q] at b;obtain⟨B,rfl,L⟩:=b;refine⟨c,some ⟨B,0,none⟩,ak,H1,o,r,bI,dA,a1,bs,U,.inr ⟨x,B,j,j,L⟩,s,C,l.p7,?_,a.bp,a.heard,j,λI k bp lost heard m d f K u w=>?_⟩
  .rw [aR ⟨F,by omega⟩,pg,y];rfl
  .rcases K with⟨t,_⟩|⟨E,R,t,rfl,M⟩
   .cases t
   .cases t;have J:=O (some E) k ⟨B,j,M⟩;exact⟨{c with heard:=m},_,bI,dA,d,f,⟨⟨ak,_,U,j,by show Row 37 1 c.bz (z.bz.set i.toNat (some E)).length U ak;rw [gJ];exact s,J⟩,a.parts,a.b9,u,w⟩,j⟩
theorem lN.isSome{g:al}{p:Option Addr}{I:Option bm}{G:List Chunk}(h:lN g p I G):p.isSome=I.isSome:=by
 rcases h with⟨rfl,rfl,_⟩|⟨x,a,rfl,rfl,_⟩<;>rfl
theorem G0{o:World}{m:aD}(c:m.tag.length=32):Calls prog 42 #[.pointer none,.agg m.cs.toArray] o λr w=>r= .slice none 0 0/\C o [] [] w:=by
 have a:Own [] o:=C.start o;refine a6 func42 ?_;refine bJ 2 a j j (λb w a=>?_);refine an 10 j j ?_;exact⟨j,a.bare⟩
theorem G1{o:World}{g:al}{p:Option Addr}{I:Option bm}{G:List Chunk}{m:aD}(hm:m.ok o)(n:m.kN (au [G]))(t:m.P.dF)(u:m.s<=1000000)(k:lN g p I G){N:Nat}(z:∀x,I=some x->x.ok g N)(f:773<=N)(h:N+50<=1000000)(q:g.at o)(v:g.ok)(y:g.off (au [G]))(c:Own [G] o):
 Calls prog 42 #[.pointer p,.agg m.cs.toArray] o λr w=>∃a af,cC r (jy g I m.P).2 a/\lN g p (jy g I m.P).1 af/\C o (au [G]) [af,a] w:=by
 rcases k with⟨rfl,rfl,rfl⟩|⟨x,B,rfl,rfl,l⟩
 .refine Calls.mono (G0 hm.tag) (λr w⟨A,ad⟩=>?_);subst A;have i:=c.aO ad;exact⟨[],[],cC.nil,.inl ⟨j,j,j⟩,by have b:C o (au [[]]) [[],[]] w:=(C.empty i).as;exact b⟩
 .exact Calls.mono (G4 hm n t u l (z x j) f h q v y c) (λr w⟨a,af,d,e,b⟩=>⟨a,af,d,.inr ⟨_,B,j,j,e⟩,b⟩)
theorem pO{o:World}{g:al}{aM:Nat}{z:aU}{G:List Chunk}{i:Int}(d:eo g aM z G)(a:Holds o G):Calls prog 17 #[aa aM,ab i] o λr w=>r= .bool (z.rep i).isSome/\w=o:=by
 obtain⟨c,p,ak,H1,m,n,bI,dA,a1,bs,U,e,h,l,f,k,_,_,rfl,_⟩:=d.r6 i;refine a6 func17 (bk 7 (vl (V:=hL g) (xs:=z.bz) (c:=c) (U:=U) (i:=i) a.left.head h a.right.left.left l f) j (λr w⟨b,hw⟩=>?_));rw [k] at b;subst b;have hw:=hw.symm;subst hw;exact an 2 j j ⟨aK Value.bool e.isSome,j⟩
theorem Ho{o:World}{g:al}{aM:Nat}{z:aU}{G:List Chunk}{s:gz}{a:jW}(D:eo g aM z G){N M L:Nat}(ad:z.de g (λ_=>N) M L)(O:773<=N)(aQ:N+150<=1000000)(aP:M+10000<=1000000)(aO:L+4200000<=1000000000)(S:g.at o)(V:g.ok)(aH:g.off (au [G]))(d:Own [G] o):Calls prog 21 #[aa aM,.agg (cZ s a).toArray] o λr w=>r=ab (z.e4 g s).2/\∃af,eo g aM (z.e4 g s).1 af/\C o (au [G]) [af] w:=by
 obtain⟨f,B⟩:∃f,f=au [G]:=⟨_,j⟩;have W:g.off f:=B▸aH;rw [<-B];have d:C o f [G] o:=B▸d;refine a6 func21 (bJ 2 d j j (λm w d=>?_));have d:C o f [J m (cZ s a).toArray 31,G] w:=d;refine ar 6 j (ax (C.aj (b:=m) d) j) (br 0 (pO (i:=s.node) D (d.holds (G:=G) (by simp))) j (λw hw=>?_));have hw:=hw.symm;subst hw;refine bo 1 j j (λt=>?_) (λt=>?_)
 .refine an 3 j j ?_
  have I:z.e4 g s=(z,1):=by
   unfold aU.e4;cases aJ:z.rep s.node with
   |none=>rfl
   |some x=>rw [aJ] at t;cases t
  rw [I];exact⟨j,G,D,d.as⟩
 obtain⟨x,F⟩:∃x,z.rep s.node=some x:=g8.1 (by simpa using t);obtain⟨ai,H⟩:=aU.qb F;have T:s.node.toNat<z.bz.length:=(e8.1 H).1;obtain⟨c,p,ak,H1,n,q,bI,dA,a1,bs,U,P,X,aT,aS,Y,av,az,rfl,aE⟩:=D.r6 s.node;rw [F] at P
 obtain⟨l,rfl,aB⟩:∃l,p=some ⟨l,0,none⟩/\hB g l x n:=by
  rcases P with⟨_,h,_⟩|⟨aY,l,am,ap,aq⟩
  .cases h
  .cases ap;exact⟨l,am,aq⟩
 obtain⟨k,cap,cur,R,rfl,_⟩:=Row.block X (by omega)
 have Z:U[s.node.toNat]? =some (aa l):=by
  rw [aR ⟨ai,by omega⟩,pg,cr (by omega)] at Y;rw [cr (by omega)];exact aK some Y
 obtain⟨i,aF⟩:∃i:Nat,s.node=i:=⟨s.node.toNat,by omega⟩;have aG:s.node.toNat=i:=by omega
 rw [aG] at Z T H;obtain⟨ac,aV⟩:=ad.iw i x H
 have aI:∀w,Holds w (J k cur 37)->w.cell? ⟨k,0+i*1,none⟩=some (aa l):=λw ay=>by
  obtain⟨_,_,e,_,_,aL,_⟩:=Row.read X ay;rw [R] at e;cases e;have Q:=aL.cell Z;rw [add_lit] at Q;rw [gK];exact Q
 have d:C o f [J m (cZ s a).toArray 31,bg g aM c,J k cur 37,H1,n,q,bI,dA,a1,bs] _:=C.perm (A:=[J m (cZ s a).toArray 31,bg g aM c++((J k cur 37++(H1++(n++q)))++(bI++(dA++(a1++bs))))]) d.as (by simp);have d:C o f ([J m (cZ s a).toArray 31,bg g aM c,J k cur 37]++_) _:=d.front;have d:=d.drew;refine bx 2 j (λw=>∃ae,C o f ([J m (cZ s a).toArray 31,bg g aM c,J k cur 37]++ae) w) ⟨_,d⟩ (ag 0 4 j (a8 4 j a2 (aK some R) (ag 5 1 j (a8 6 j a2 j (iF 16 (.int .i64 (i:Nat)) j (aK (Value.int .i64) aF) (bl 7 j (λw _=>g4 j j T) (b4 8 j (λw⟨_,d⟩=>aI _ (d.holds (G:=J k cur 37) (by simp))) (aX 9 j (cS j j j (Hi aB ac O (by omega) (S.st d W) V (d.eE S W) (d.ours (cM:=[n]))) (λaW w⟨ah,y,aN,aC,E⟩=>?_))))))))));have d:=d.b1 E;have d:C o f ([J m (cZ s a).toArray 31,bg g aM c,J k cur 37]++_) _:=d.front;refine ao ⟨⟨_,d⟩,?_⟩;refine dK 10 j ?_;have aD:=si (g:=g) (aM:=aM) (c:=c) av az aN (by have:=ad.lost;omega) (by have:=(bm.sA V ac O).2;omega) ad.heard (d.ours (cM:=[bg g aM c,a1,bs,ah]));refine bK j j j aD (λw⟨K,u,v,aw,aA,E⟩=>?_);have d:=d.b1 E;refine ao (c5 (an 3 j j ?_))
 have I:z.e4 g s=((z.kz s.node (x.tick g).1).f0 (x.tick g).2,0):=by
  unfold aU.e4;rw [F]
 rw [I];have d:C o f [bg g aM {c with heard:=K},J k cur 37,H1,y,q,bI,dA,u,v] _:=d.as;exact⟨j,_,aE (some (x.tick g).1) y _ _ _ K u v (.inr ⟨_,l,j,j,aC⟩) aw aA,C.perm (A:=[bg g aM {c with heard:=K},J k cur 37,H1,y,q,bI,dA,u,v]) d (by simp)⟩
theorem uN{o:World}{g:al}{aM:Nat}{z:aU}{G:List Chunk}{s:gz}{a:jW}(aE:eo g aM z G){N M L:Nat}(ad:z.de g (λ_=>N) M L)(aD:773<=N)(bG:N+150<=1000000)(bF:M+10000<=1000000)(bE:L+4200000<=1000000000)(aH:g.at o)(aL:g.ok)(bb:g.off (au [G]))(d:Own [G] o):Calls prog 20 #[aa aM,.agg (cZ s a).toArray] o λr w=>r=ab (z.hp g s).2/\∃af,eo g aM (z.hp g s).1 af/\C o (au [G]) [af] w:=by
 have a0:=aE;obtain⟨f,aB⟩:∃f,f=au [G]:=⟨_,j⟩;have aN:g.off f:=aB▸bb;rw [<-aB];have d:C o f [G] o:=aB▸d;obtain⟨c,cI,bI,dA,a1,bs,p,rfl⟩:=aE;have d:=d.yN;have bH:=ad.bp;refine a6 func20 (bJ 2 d j j (λt w d=>?_));have d:C o f [J t (cZ s a).toArray 31,bg g aM c,cI,bI,dA,a1,bs] w:=d;refine ar 7 j (ax (C.aj (b:=aM) d) j) (br 0 (rm p.bp (d.holds (G:=a1) (by simp))) j (λbD B=>?_));have B:=B.symm;subst B;refine bo 1 j j (λay=>?_) (λay=>?_)
 .refine an 3 j j ?_
  have q:z.hp g s=(z,4):=by
   unfold aU.hp;have O:z.bp=[]:=lP (by have:=ea.1 ay;omega);rw [O];rfl
  rw [q];have d:C o f [bg g aM c,cI,bI,dA,a1,bs] _:=d.as;exact⟨j,_,a0,d.rQ⟩
 have d:C o f ([J t (cZ s a).toArray 31,bg g aM c,a1]++_) _:=d.front;have d:=d.drew;refine bx 2 j (λw=>∃ae,C o f ([J t (cZ s a).toArray 31,bg g aM c,a1]++ae) w) ⟨_,d⟩ (ag 0 1 j (a8 1 j a2 j (bl 2 j (λw _=>vJ j) (ag 3 3 j (a8 6 j a2 j (aX 7 j (bK j j j (rm p.bp (d.holds (G:=a1) (by simp))) (λbD B=>?_))))))));have B:=B.symm;subst B;refine ao ⟨⟨_,d⟩,?_⟩;have aG:0<z.bp.length:=by have O:((z.bp.length:Int)==0)=false:=ay;rw [fp] at O;omega
 refine iF 16 (.int .i64 ((max s.n 0).toNat:Nat)) j (aK (Value.int .i64) (by omega)) (bl 8 j (λw _=>oN j j aG) (ag 9 1 j (bL ?_)));obtain⟨e,v⟩:∃e:Nat,(max s.n 0).toNat%z.bp.length=e:=⟨_,j⟩;have E:e<z.bp.length:=by rw [<-v];exact jE _ aG
 refine aq 3 j (bY 5 (.int .i64 (e:Nat)) j (aK (Value.int .i64) (by rw [v])) ?_);refine ar 1 j (ax (C.aj (b:=t) d) j) (bo 1 j j (λI=>?_) (λI=>?_))
 .refine ar 6 j (ax (C.aj (b:=aM) d) j) (br 1 (BP p.bp (d.ours (cM:=[a1])) E) j (λw⟨D,Q,y⟩=>?_));have d:=d.b1 y;refine bo 1 j j (λK=>?_) (λK=>?_);refine an 3 j j ?_;have F:z.bp[(max s.n 0).toNat%z.bp.length]? =some z.bp[e]:=by rw [v];exact cr E
  have q:z.hp g s=(z,3):=by
   unfold aU.hp;rw [F];dsimp only;rw [aR (by simpa using I),if_neg (by simpa using K)]
  rw [q];rw [az (by simpa using K)] at Q;rotate_left
  refine an 4 j j ?_;have F:z.bp[(max s.n 0).toNat%z.bp.length]? =some z.bp[e]:=by rw [v];exact cr E
  have q:z.hp g s=({z with bp:=z.bp++[z.bp[e]]},0):=by
   unfold aU.hp;rw [F];dsimp only;rw [aR (by simpa using I),if_pos (by simpa using K)]
  rw [q];rw [aR (by simpa using K)] at Q;rotate_left
  all_goals
   have d:C o f [bg g aM c,cI,bI,dA,D,bs] _:=d.as;exact⟨j,_,⟨c,cI,bI,dA,D,bs,⟨p.bz,p.parts,p.b9,Q,p.heard⟩,j⟩,d.rQ⟩
 refine ar 6 j (ax (C.aj (b:=aM) d) j) (bk 1 (BN p.bp (d.ours (cM:=[a1])) E) j (λr w⟨m,aw,D,Y,aI,aJ,Q,y⟩=>?_));subst Y;have d:=d.b1 y;have X:m.tag.length=32:=by obtain⟨_,_,_,_,h,_⟩:=aJ;exact h
 have W:m.P.jJ:=by rw [aI];exact ad.lp _ (eB E)
 have F:z.bp[(max s.n 0).toNat%z.bp.length]? =some m.P:=by rw [aI,v];exact cr E
 refine cx 3 d j (λk w d=>?_);have d:C o f (bf k dO::_) w:=d;refine cv 0 (d.bc k) j j j (by simpa using(m).one) (by rw [List.size_toArray];exact(m).bU X) (λw d=>?_);have d:=C.whole (U:=(m).cs) d (by rw [(m).bU X];rfl);have d:C o f (bf k (m)::_) w:=d
 obtain⟨GE,aF,d⟩:∃GE,eo g aM ({z with bp:=z.bp.eraseIdx e}) GE/\C o f [bf k m,J t (cZ s a).toArray 31,GE,aw] w:=by
  have d:C o f [bf k m,J t (cZ s a).toArray 31,bg g aM c,cI,bI,dA,D,bs,aw] w:=d.as;exact⟨_,⟨c,cI,bI,dA,D,bs,⟨p.bz,p.parts,p.b9,Q,p.heard⟩,j⟩,C.perm (A:=[bf k m,J t (cZ s a).toArray 31,bg g aM c,cI,bI,dA,D,bs,aw]) d (by simp)⟩
 refine ar 5 j (ax (C.aj (b:=t) d) j) (bo 1 j j (λaA=>?_) (λaA=>?_))
 .obtain⟨u,bC,H,H1,ak,T,S,R,ac,ai,aP,a3,bi,bu,bd,bt,aW,aZ,rfl,a9⟩:=aF.r6 m.P.to;obtain⟨ap,av,rfl,aO,_,bw,bM⟩:=aJ;have d:C o f [bf k m,bg g aM u,H,H1,ak,T,S,R,ac,ai,ap,av] _:=C.perm (A:=[bf k m,bg g aM u++((H++(H1++(ak++T)))++(S++(R++(ac++ai)))),ap++av]) d.as (by simp);have d:C o f ([bf k m]++_) _:=d.front;have d:=d.drew;refine bx 0 j (λw=>∃ae,C o f ([bf k m]++ae) w) ⟨_,d⟩ (ag 0 3 j (a8 3 j a2 m.dy (bl 5 j (λw⟨_,d⟩=>dd (U:=m.cs) j j (m.bU X) (bq (C.aj (b:=k) d))) (aX 4 j (cS j j j (vl (V:=hL g) (xs:=({z with bp:=z.bp.eraseIdx e}:aU).bz) (c:=u) (U:=aP) (i:=m.to) (C.aj (b:=aM) d) bi (d.holds (G:=H) (by simp)) bu bd) (λr w⟨Y,hw⟩=>?_))))));rw [show(if 0<=m.to/\m.to<(({z with bp:=z.bp.eraseIdx e}:aU).bz.length:Int) then aP.getD m.to.toNat (.pointer none) else .pointer none)= .pointer bC from bt] at Y;subst Y;have hw:=hw.symm;subst hw;refine ao ⟨⟨_,d⟩,?_⟩;refine aX 6 j ?_;obtain⟨_,_,aS,_,_,bj,a7⟩:=Row.rd aO.x (d.to ap);cases aS;obtain⟨_,_,aT,_,_,bh,a5⟩:=Row.rd aO.l (d.to av);cases aT;have ba:m.ok _:=⟨bj,bh,bw,X⟩;refine cS j j j (G1 (m:=m) ba ⟨a7.sub (fE (by simp)),a5.sub (fE (by simp))⟩ W.1 (by have:=W.2;show m.s<=1000000;have O:m.s<=63:=W.2;omega) a3 (λx bA=>(ad.iw _ x (aU.qb bA).2).1) aD (by omega) (aH.st d aN) aL (d.eE aH aN) (d.ours (cM:=[ak]))) (λbN w⟨aQ,am,bv,a4,y⟩=>?_);have d:=d.b1 y;have d:C o f ([bf k m]++_) _:=d.front;refine ao ⟨⟨_,d⟩,?_⟩;refine dK 7 j ?_
  have bn:(jy g (({z with bp:=z.bp.eraseIdx e}:aU).rep m.P.to) m.P).2.length<=1000000:=by
   unfold jy;cases be:(({z with bp:=z.bp.eraseIdx e}:aU).rep m.P.to) with
   |none=>exact cp _
   |some x=>
    have O:=(bm.sz aL (ad.iw _ x (aU.qb be).2).1 aD W.1).2;show(x.take g m.P).2.length<=_;omega
  refine bK j j j (si (g:=g) (aM:=aM) (c:=u) aW aZ bv (by have:=ad.lost;show z.lost<=_;omega) bn ad.heard (d.ours (cM:=[bg g aM u,ac,ai,aQ]))) (λw⟨aC,Z,ah,aV,aY,y⟩=>?_);have d:=d.b1 y;refine ao (c5 (an 3 j j ?_))
  have q:z.hp g s=(aU.kp g ({z with bp:=z.bp.eraseIdx e}) m.P,0):=by
   unfold aU.hp;rw [F];dsimp only;rw [az (by simpa using I),if_pos (by simpa using aA),v]
  rw [q];rw [aU.Ds];have d:C o f [bg g aM {u with heard:=aC},H,H1,am,T,S,R,Z,ah] _:=d.as
  have bB:(({z with bp:=z.bp.eraseIdx e}:aU).qi m.P.to (jy g (({z with bp:=z.bp.eraseIdx e}:aU).rep m.P.to) m.P).1).f0 (jy g (({z with bp:=z.bp.eraseIdx e}:aU).rep m.P.to) m.P).2={({z with bp:=z.bp.eraseIdx e}:aU).qi m.P.to (jy g (({z with bp:=z.bp.eraseIdx e}:aU).rep m.P.to) m.P).1 with bp:=z.bp.eraseIdx e++(jy g (({z with bp:=z.bp.eraseIdx e}:aU).rep m.P.to) m.P).2.take (512-(z.bp.eraseIdx e).length),lost:=z.lost+((jy g (({z with bp:=z.bp.eraseIdx e}:aU).rep m.P.to) m.P).2.length-(512-(z.bp.eraseIdx e).length)),heard:=z.heard++(jy g (({z with bp:=z.bp.eraseIdx e}:aU).rep m.P.to) m.P).2.take (min (min (jy g (({z with bp:=z.bp.eraseIdx e}:aU).rep m.P.to) m.P).2.length (512-(z.bp.eraseIdx e).length)) (1000-z.heard.length))}:=by
   unfold aU.f0 aU.qi;cases(jy g (({z with bp:=z.bp.eraseIdx e}:aU).rep m.P.to) m.P).1<;>rfl
  rw [bB];exact⟨j,_,a9 (jy g (({z with bp:=z.bp.eraseIdx e}:aU).rep m.P.to) m.P).1 am _ _ _ aC Z ah a4 aV aY,C.perm (A:=[bg g aM {u with heard:=aC},H,H1,am,T,S,R,Z,ah]) d (by simp)⟩
 refine an 4 j j ?_
 have q:z.hp g s=({z with bp:=z.bp.eraseIdx e},0):=by
  unfold aU.hp;rw [F];dsimp only;rw [az (by simpa using I),if_neg (by simpa using aA),v]
 rw [q];exact⟨j,GE,aF,d.as⟩
theorem eo.facts{g:al}{aM:Nat}{z:aU}{G:List Chunk}(h:eo g aM z G):∃(c:cg)(a b:Option Addr)(aH dy:Nat)(bs:List Chunk),c.bz= .slice a z.bz.length aH/\c.heard= .slice b z.heard.length dy/\z.heard.length<=maxLen/\cC c.heard z.heard bs/\∀w,Holds w G->w.heap[aM]? =some (.cells (lH g c).toArray 60 (0,0))/\Holds w bs:=by
 obtain⟨c,cI,bI,dA,a1,bs,d,rfl⟩:=h;obtain⟨ak,H,U,rfl,l,m⟩:=d.bz;obtain⟨a,aH,f,_,_⟩:=Row.form l;obtain⟨b,dy,i,j,k⟩:=d.heard.len;exact⟨c,a,b,aH,dy,bs,f,i,ej j k,d.heard,λw e=>⟨e.left.head,e.right.right.right.right.right⟩⟩
theorem eo.Fw{g:al}{aM:Nat}{z:aU}{G:List Chunk}(h:eo g aM z G){i:Nat}(y:i<z.parts.length):∃(c:cg)(a cap bh:Nat)(c2 f n:List Chunk),c.parts= .slice (some ⟨a,0,none⟩) z.parts.length cap/\jA g bh z.parts[i] f/\G=c2++(f++n)/\
 (∀w,Holds w c2->w.heap[aM]? =some (.cells (lH g c).toArray 60 (0,0))/\w.cell? ⟨a,0+i*1,none⟩=some (aa bh))/\
 ∀k b,jA g bh k b->eo g aM {z with parts:=z.parts.set i k} (c2++(b++n)):=by
 obtain⟨c,cI,bI,dA,a1,bs,d,rfl⟩:=h;obtain⟨ak,H,U,rfl,m,u⟩:=d.parts;obtain⟨a,cap,cur,q,rfl,_⟩:=Row.block m (by omega);obtain⟨v,H1,f,l,C,rfl,r,A⟩:=u.at i y;obtain⟨bh,rfl,t⟩:=r;refine⟨c,a,cap,bh,bg g aM c++(cI++(J a cur 48++H1)),f,l++(dA++(a1++bs)),q,t,by simp,λw o=>⟨o.left.head,?_⟩,λk b s=>?_⟩
 .obtain⟨_,_,e,_,_,B,_⟩:=Row.read m o.right.right.left;rw [q] at e;cases e;have p:=B.cell C;rw [add_lit] at p;rw [gK];exact p
 .have x:=A k b ⟨bh,j,s⟩;have e:bg g aM c++(cI++(J a cur 48++H1))++(b++(l++(dA++(a1++bs))))=bg g aM c++(cI++((J a cur 48++(H1++(b++l)))++(dA++(a1++bs)))):=by simp
  rw [e];exact⟨c,cI,_,dA,a1,bs,⟨d.bz,⟨_,_,U,j,by rw [gJ];exact m,x⟩,d.b9,d.bp,d.heard⟩,j⟩
theorem cC.lit{b:Nat}{q:aD}{a:List Chunk}(h:fw q a)(d:q.tag.length=32):cC (.slice (some ⟨b,0,none⟩) 1 1) [q.P] (J b q.cs.toArray 101++a):=by
 have c:=Row.full (e:=101) (size:=39) (b:=b) (n:=1) (cur:=q.cs.toArray) (by decide) (by rw [hl,q.bU d]);have e:fN [q]=q.cs:=by simp
 exact⟨[q],j,_,a,j,by show Row 101 39 _ 1 (fN [q]) _;rw [e];exact c,fy.one h⟩
theorem EB{g:al}{f:Int}{aF:List aY}{l:eY}{m:aY}(c:el aF)(h:e9 g f aF l=some m)(ad:m.k=6):m.l=[cT g 3 0 0 (ca l.x) f]:=by
 obtain⟨_,_,_,b,_,a⟩:=uH c h;unfold eY.aI at a;rw [aR (by rw [<-b];exact ad)] at a;exact(hn a).symm
theorem ED{o:World}{g:al}{aM:Nat}{z:aU}{G:List Chunk}{s:gz}{a:jW}(Q:eo g aM z G)(bA:iV s a (au [G]) o){N M L:Nat}(ad:z.de g (λ_=>N) M L)(bV:773<=N)(bW:N+150<=1000000)(bT:M+10000<=1000000)(bS:L+4200000<=1000000000)(aE:g.at o)(aG:g.ok)(bD:g.off (au [G]))(n:Own [G] o):Calls prog 22 #[aa aM,.agg (cZ s a).toArray] o λr w=>r=ab (z.gF g s).2/\∃af,eo g aM (z.gF g s).1 af/\C o (au [G]) [af] w:=by
 have bv:=Q;obtain⟨p,aD⟩:∃p,p=au [G]:=⟨_,j⟩;have aJ:g.off p:=aD▸bD;have a9:iV s a p o:=aD▸bA;rw [<-aD];have n:C o p [G] o:=aD▸n;obtain⟨c,bL,aX,aH,dy,bM,bw,aQ,a8,a2,aq⟩:=Q.facts;refine a6 func22 ?_;refine bJ 2 n j j (λD w n=>?_);have n:C o p [J D (cZ s a).toArray 31,G] w:=n;have n:C o p ([J D (cZ s a).toArray 31,G]++_) _:=n.front;refine l2 3 j (λw=>∃ae,C o p ([J D (cZ s a).toArray 31,G]++ae) w) ?_;have n:=n.drew;refine fM 1 [0] j ⟨_,n⟩ ?_;refine eL 1 j ⟨_,n⟩ (λw⟨_,n⟩=>hv j j (ax (C.aj (b:=D) n) j)) ?_;refine fM 2 [2,3] j ⟨_,n⟩ ?_;refine s5 11 j (λaB=>?_) (λaB=>?_)
 .refine fM 15 [4,5,6,7,8,9,10,11,12,13,14,15,16,17,18] j ⟨_,n⟩ ?_;refine c5 ?_;refine an 4 j j ?_;have E:z.gF g s=(z,1):=aR (.inl (dV aB));rw [E];exact⟨j,G,Q,n.as⟩
 refine fM 1 [4] j ⟨_,n⟩ ?_;refine eL 5 j ⟨_,n⟩ (λw⟨_,n⟩=>hv j j (ax (C.aj (b:=D) n) j)) ?_;refine fM 3 [6,7,8] j ⟨_,n⟩ ?_;refine eL 9 j ⟨_,n⟩ (λw⟨_,n⟩=>hv j j (ax (aq _ (n.holds (G:=G) (by simp))).1 (aK some bw))) ?_;refine fM 4 [10,11,12,13] j ⟨_,n⟩ ?_;refine s5 21 j (λaC=>?_) (λaC=>?_)
 .refine fM 5 [14,15,16,17,18] j ⟨_,n⟩ ?_;refine c5 ?_;refine an 4 j j ?_;have E:z.gF g s=(z,1):=aR (.inr (.inl (dV aC)));rw [E];exact⟨j,G,Q,n.as⟩
 refine fM 2 [14,15] j ⟨_,n⟩ ?_;refine eL 16 j ⟨_,n⟩ (λw⟨_,n⟩=>hv j j (ax (C.aj (b:=D) n) j)) ?_;refine d5 17 j ?_;refine bK j j j (pO (i:=s.node) Q (n.holds (G:=G) (by simp))) (λw hw=>?_);have hw:=hw.symm;subst hw;refine ao ⟨⟨_,n⟩,?_⟩;refine fM 1 [18] j ⟨_,n⟩ ?_;refine c5 ?_;refine bo 0 j j (λW=>?_) (λW=>?_)
 .refine an 3 j j ?_;have E:z.gF g s=(z,1):=aR (.inr (.inr (by simpa using W)));rw [E];exact⟨j,G,Q,n.as⟩
 have n:C o p ([J D (cZ s a).toArray 31,G]++_) _:=n.front;refine l2 2 j (λw=>∃ae,C o p ([J D (cZ s a).toArray 31,G]++ae) w) ?_;have n:=n.drew;refine fM 3 [0,1,2] j ⟨_,n⟩ ?_;refine eL 3 j ⟨_,n⟩ (λw⟨_,n⟩=>hv j j (ax (aq _ (n.holds (G:=G) (by simp))).1 j)) ?_;refine fM 1 [4] j ⟨_,n⟩ ?_;refine eL 5 j ⟨_,n⟩ (λw⟨_,n⟩=>hv j j (ax (C.aj (b:=D) n) j)) ?_;refine fM 1 [6] j ⟨_,n⟩ ?_;refine eL 7 j ⟨_,n⟩ (λw⟨_,n⟩=>dd (U:=ge s.e9 a.Y a.rB a.dC a.eh) j j j ((n.bc D).i9 (off:=4) (U:=ge s.e9 a.Y a.rB a.dC a.eh) (λR v bG=>by simpa [Nat.add_comm] using bG))) ?_;refine fM 3 [8,9,10] j ⟨_,n⟩ ?_;refine eL 11 j ⟨_,n⟩ (λw⟨_,n⟩=>hv j j (ax (aq _ (n.holds (G:=G) (by simp))).1 (aK some aQ))) ?_;refine lc 12 16 j j (by kernel_rfl) ?_ ?_;have I:=a9.apart n;refine cS j j j (yb (f:=s.node) (l:=s.e9) (gu:=dy) (hH:=aX) (aF:=z.heard) (aE.st n aJ) aG I.y I.qA I.u I.qs I.qt (aQ▸a2) (aq _ (n.holds (G:=G) (by simp))).2 a8 (λm hm=>by have:=(ad.kq m hm).1.l;omega) (λm hm=>(ad.kq m hm).1.aI)) (λr w⟨q,ah,aW,bd,ac,S⟩=>?_);subst aW;have n:=n.aO S;have n:C o p ([J D (cZ s a).toArray 31,G]++_) _:=n.front;refine ao ⟨⟨_,n⟩,?_⟩;refine fM 3 [13,14,15] j ⟨_,n⟩ ?_;refine d5 16 j ?_;refine eu n j j (λt w n=>?_);have n:C o p (bf t dO::_) w:=n;have n:C o p ([J D (cZ s a).toArray 31,G]++_) _:=n.front;refine ao ⟨⟨_,n⟩,?_⟩;rotate_left
 refine eu n j j (λt w n=>?_);have n:C o p (bf t dO::_) w:=n;have n:C o p ([J D (cZ s a).toArray 31,G]++_) _:=n.front;refine ao ⟨⟨_,n⟩,?_⟩;refine d5 12 j ?_;have I:=a9.apart n;refine cS j j j (yb (f:=s.node) (l:=s.e9) (gu:=dy) (hH:=aX) (aF:=z.heard) (aE.st n aJ) aG I.y I.qA I.u I.qs I.qt (aQ▸a2) (aq _ (n.holds (G:=G) (by simp))).2 a8 (λm hm=>by have:=(ad.kq m hm).1.l;omega) (λm hm=>(ad.kq m hm).1.aI)) (λr w⟨q,ah,aW,bd,ac,S⟩=>?_);subst aW;have n:=n.aO S;have n:C o p ([J D (cZ s a).toArray 31,G]++_) _:=n.front;refine ao ⟨⟨_,n⟩,?_⟩;refine fM 3 [13,14,15] j ⟨_,n⟩ ?_;rotate_left
 all_goals
  refine d5 17 j ?_;refine c6 (n.bc t) j j j (by simpa using(q).one) (by rw [List.size_toArray];exact(q).bU ac) bO (λw n=>?_);have n:=C.whole (U:=(q).cs) n (by rw [(q).bU ac];rfl);have n:C o p (bf t (q)::_) w:=n;have n:C o p ([J D (cZ s a).toArray 31,G]++_) _:=n.front;refine ao ⟨⟨_,n⟩,?_⟩;refine fM 1 [18] j ⟨_,n⟩ ?_;refine c5 ?_;refine bo 5 j j (λak=>?_) (λak=>?_)
  .refine an 4 j j ?_;have av:¬(s.node<0\/s.node>=z.bz.length\/(z.rep s.node).isSome=true):=(λh=>h.elim (λh=>absurd h (dY aB)) (λh=>h.elim (λh=>absurd h (dY aC)) (λh=>by rw [h] at W;cases W)));have aw:(e9 g s.node z.heard s.e9)=none:=by cases V:(e9 g s.node z.heard s.e9) with|none=>rfl|some _=>rw [V] at ak;cases ak
   have E:z.gF g s=(z,1):=by
    unfold aU.gF;rw [az av,aw]
   rw [E,aw];exact⟨j,G,Q,n.as⟩
  obtain⟨m,hm⟩:∃m,(e9 g s.node z.heard s.e9)=some m:=g8.1 (by cases V:(e9 g s.node z.heard s.e9) with|none=>rw [V] at ak;cases ak|some _=>rfl);obtain⟨Z,aV⟩:=bd m hm;have aS:=uH ad.kq hm;rw [<-Z] at aS;have av:¬(s.node<0\/s.node>=z.bz.length\/(z.rep s.node).isSome=true):=(λh=>h.elim (λh=>absurd h (dY aB)) (λh=>h.elim (λh=>absurd h (dY aC)) (λh=>by rw [h] at W;cases W)));refine ar 5 j (ax (C.aj (b:=t) n) q.gL) ?_;refine bo 1 j j (λam=>?_) (λam=>?_)
  .refine bP 3 (U:=q.cs) j j (q.bU ac) (bq (C.aj (b:=t) n)) ?_;refine gj (U:=q.cs) n j j j (q.bU ac) (by decide) (by decide) (λai w n=>?_);have n:C o p (J ai q.cs.toArray 101::_) w:=n;obtain⟨X,cI,bI,dA,a1,bs,ay,rfl⟩:=bv;have n:C o p [bg g aM X,cI,bI,dA,a1,bs,J ai q.cs.toArray 101++ah] w:=C.perm (A:=[bg g aM X++(cI++(bI++(dA++(a1++bs)))),J ai q.cs.toArray 101,ah]) n.as (by simp);refine br 0 (si (g:=g) (aM:=aM) (c:=X) ay.bp ay.heard (cC.lit (b:=ai) aV ac) (by have:=ad.lost;omega) (by simp) ad.heard (n.ours (cM:=[bg g aM X,a1,bs,J ai q.cs.toArray 101++ah]))) j (λw⟨bl,aY,aZ,bn,bu,S⟩=>?_);have n:=n.b1 S;refine an 3 j j ?_
   have E:z.gF g s=(z.f0 [q.P],0):=by
    unfold aU.gF;rw [az av,hm];dsimp only;rw [<-Z,aR (by simpa using am)]
   rw [E];have n:C o p [bg g aM {X with heard:=bl},cI,bI,dA,aY,aZ] _:=n.as;exact⟨j,_,⟨{X with heard:=bl},cI,bI,dA,aY,aZ,⟨ay.bz,ay.parts,ay.b9,bn,bu⟩,j⟩,n.rQ⟩
  refine ar 4 j (ax (C.aj (b:=t) n) q.fY) ?_;obtain⟨bC,_⟩:=aV.read (n.holds (G:=ah) (by simp));refine br 0 (CH (c:=q.c) bC.x (by have:=aS.1.1.x;have O:q.x.length<=200:=this;omega)) j (λw S=>?_);have n:=n.aO S;refine cx 3 n j (λF w n=>?_);refine cv 0 (n.bc F) j j j j j (λw n=>?_);have n:=C.whole (U:=((gO q.x).getD jq).cs) n j;have n:C o p (J F ((gO q.x).getD jq).cs.toArray 110::_) w:=n;refine bo 6 j j (λap=>?_) (λap=>?_)
  .refine an 4 j j ?_;have aw:gO q.x=none:=by cases V:gO q.x with|none=>rfl|some _=>rw [V] at ap;cases ap
   have E:z.gF g s=(z,2):=by
    unfold aU.gF;rw [az av,hm];dsimp only;rw [<-Z,az (by simpa using am)];show(match gO q.x with|none=>_|some bj=>_)=_;rw [aw]
   rw [E,aw];exact⟨j,G,Q,n.as⟩
  have bE:q.k=6:=by simpa using am
  have bB:m.k=6:=by rw [<-Z];exact bE
  obtain⟨H,a5⟩:∃H,H=cT g 3 0 0 (ca s.e9.x) s.node:=⟨_,j⟩;have a7:H.ok:=by rw [a5];exact jm _ _ _ _ _ _ (fm _)
  have aL:q.l=[H]:=by have O:=EB ad.kq hm bB;rw [<-Z,<-a5] at O;exact O
  obtain⟨T,K,rfl,ba,_,_,_⟩:=aV;obtain⟨bk,bX,bY,bi,bR,_⟩:=Row.block ba.l (by rw [aL];simp)
  have bF:Value.slice q.B q.l.length q.d= .slice (some ⟨bk,0,none⟩) 1 q.d:=by
   have O:=bi;simp only [qZ] at O;rw [O.1,aL];rfl
  have bH:∀w,Holds w K->Rd w (some ⟨bk,0+0*68,none⟩) H.cs:=λw bt=>by
   obtain⟨_,_,e,_,_,be,_⟩:=Row.read ba.l bt;rw [bi] at e;simp only [qZ] at e;obtain⟨rfl,_,_⟩:=e;have O:vcs q.l=H.cs:=by rw [aL];simp
   rw [O] at be;simpa using be
  have n:C o p [bf t q,J F ((gO q.x).getD jq).cs.toArray 110,G,T,K] _:=C.perm (A:=[bf t q,J F ((gO q.x).getD jq).cs.toArray 110,G,T++K]) n.as (by simp);obtain⟨eQ,bQ,bN,bh,c2,aA,ag,a4,a0,rfl,aT,bx⟩:=Q.Fw (i:=q.s.toNat%z.parts.length) (jE _ (by rw [ad.parts];decide));have n:C o p [bf t q,J F ((gO q.x).getD jq).cs.toArray 110,c2,aA,ag,T,K] _:=C.perm (A:=[bf t q,J F ((gO q.x).getD jq).cs.toArray 110,c2++(aA++ag),T,K]) n.as (by simp);have n:C o p ([bf t q,J F ((gO q.x).getD jq).cs.toArray 110,c2,T,K]++_) _:=n.front;refine l2 2 j (λw=>∃ae,C o p ([bf t q,J F ((gO q.x).getD jq).cs.toArray 110,c2,T,K]++ae) w) ?_;have n:=n.drew;refine fM 3 [0,1,2] j ⟨_,n⟩ ?_;refine eL 3 j ⟨_,n⟩ (λw⟨_,n⟩=>hv j j (ax (aT _ (n.holds (G:=c2) (by simp))).1 (aK some a4))) ?_;refine fM 1 [4] j ⟨_,n⟩ ?_;refine eL 5 j ⟨_,n⟩ (λw⟨_,n⟩=>hv j j (ax (C.aj (b:=t) n) q.gt)) ?_;refine fM 3 [6,7,8] j ⟨_,n⟩ ?_;refine eL 9 j ⟨_,n⟩ (λw⟨_,n⟩=>hv j j (ax (aT _ (n.holds (G:=c2) (by simp))).1 (aK some a4))) ?_;refine fM 1 [10] j ⟨_,n⟩ ?_;refine qG 67 (.int .i64 (q.s.toNat:Nat)) j (aK (Value.int .i64) (by have O:0<=q.s:=aS.2.1;omega)) ?_;refine eL 11 j ⟨_,n⟩ (λw _=>oN j j (by rw [ad.parts];decide)) ?_;refine eL 12 j ⟨_,n⟩ (λw _=>g4 j j (jE _ (by rw [ad.parts];decide))) ?_;refine eL 13 j ⟨_,n⟩ (λw⟨_,n⟩=>hv j j (aT _ (n.holds (G:=c2) (by simp))).2) ?_;refine eL 14 j ⟨_,n⟩ (λw⟨_,n⟩=>dd (U:=((gO q.x).getD jq).cs) j j j (bq (C.aj (b:=F) n))) ?_;refine fM 1 [15] j ⟨_,n⟩ ?_;refine eL 16 j ⟨_,n⟩ (λw⟨_,n⟩=>hv j j (ax (C.aj (b:=t) n) (q.eZ.trans (aK some bF)))) ?_;refine eL 17 j ⟨_,n⟩ (λw _=>g4 (R:=0) j j (by decide)) ?_;refine eL 18 j ⟨_,n⟩ (λw⟨_,n⟩=>dd (U:=H.cs) j j (H.len a7) (bH _ (n.holds (G:=K) (by simp)))) ?_;refine d5 19 j ?_;obtain⟨ga,a3⟩:∃ga,z.parts[q.s.toNat%z.parts.length]'(jE _ (by rw [ad.parts];decide))=ga:=⟨_,j⟩;rw [a3] at a0;have bb:z.parts[q.s.toNat%z.parts.length]? =some ga:=by rw [<-a3];exact cr _
  have aP:=ad.jt _ (ia bb);have n:C o p [c2,aA,ag,bf t q,J F ((gO q.x).getD jq).cs.toArray 110,T,K] _:=n.as;refine bK j j j (z0 (m:=(gO q.x).getD jq) (v:=H) a0 (by have:=aP.ch;omega) (by have:=aP.acc;omega) (aP.len aG) (aE.st n aJ) aG (n.eE aE aJ) a7 (n.ours (cM:=[aA]))) (λw⟨aN,bm,S⟩=>?_);have n:=n.b1 S;have n:C o p ([bf t q,J F ((gO q.x).getD jq).cs.toArray 110,c2,T,K]++_) _:=n.front;refine ao ⟨⟨_,n⟩,?_⟩;refine fM 1 [20] j ⟨_,n⟩ ?_;refine c5 ?_;refine an 0 j j ?_
  have E:z.gF g s=({z with parts:=z.parts.set (q.s.toNat%z.parts.length) (ga.dv g ((gO q.x).getD jq) H).1},(ga.dv g ((gO q.x).getD jq) H).2):=by
   unfold aU.gF;rw [az av,hm];dsimp only;rw [<-Z,az (by simpa using am)];show(match gO q.x with|none=>(z,(2:Int))|some bj=>match z.parts[q.s.toNat%z.parts.length]?,q.l with|some b,v::_=>_|_,_=>_)=_;rw [bb,aL];cases V:gO q.x with
   |none=>rw [V] at ap;cases ap
   |some bj=>rfl
  rw [E];have n:C o p [c2,aN,ag] _:=n.as;exact⟨j,_,bx _ aN bm,C.perm (A:=[c2,aN,ag]) n (by simp)⟩
end Go.Proofs.YtmholjbhjcpkhaaGreatDoor.R
