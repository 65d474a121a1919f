/- Part 6 of the proof. -/
import Derived.Test.YtdcbpdlhhkcjnaaGreatDoorM5
set_option linter.unusedVariables false
set_option linter.unusedSimpArgs false
set_option linter.unusedSectionVars false
set_option maxRecDepth 20000
set_option maxHeartbeats 4000000
namespace Go.Proofs.YtdcbpdlhhkcjnaaGreatDoor.R
open Go.Proofs.Tryz Go Go.RowKit Go.Proofs
def l0(g:al)(p:Option Addr)(I:Option bo)(G:List Chunk):Prop:=(p=none/\I=none/\G=[])\/∃x a,p=some ⟨a,0,none⟩/\I=some x/\hK g a x G
def jJ(g:al)(I:Option bo)(m:aY):Option bo×List aY:=match I with
 |none=>(none,[])
 |some x=>(some (x.take g m).1,(x.take g m).2)
def aX.qI(z:aX)(i:Int)(I:Option bo):aX:=match I with
 |none=>z
 |some x=>z.mw i x
theorem aX.Gq(z:aX):z.g0 []=z:=by
 unfold aX.g0
 simp
theorem aX.DW(g:al)(z:aX)(m:aY):z.kF g m=(z.qI m.to (jJ g (z.rep m.to) m).1).g0 (jJ g (z.rep m.to) m).2:=by
 unfold aX.kF
 cases h:z.rep m.to with
 |none=>exact(aX.Gq z).symm
 |some x=>rfl
theorem eU.so{g:al}{aO:Nat}{z:aX}{G:List Chunk}(h:eU g aO z G)(i:Int):∃(c:cg)(p:Option Addr)(ak H1 o r bQ dx bd bA:List Chunk)(U:List Value),l0 g p (z.rep i) o/\Row 37 1 c.bM z.bM.length U ak/\U.length=z.bM.length/\(∀v∈U,∃q,v= .pointer q)/\(if 0<=i/\i<(z.bM.length:Int) then U.getD i.toNat (.pointer none) else .pointer none)= .pointer p/\g2 c.bB z.bB z.lost bd/\cz c.heard z.heard bA/\
 G=bj g aO c++((ak++(H1++(o++r)))++(bQ++(dx++(bd++bA))))/\
 ∀(I:Option bo)(k:List Chunk)(bB:List aY)(lost:Nat)(heard:List aY)(m:Value)(d f:List Chunk),l0 g p I k->g2 c.bB bB lost d->cz m heard f->
  eU g aO {z.qI i I with bB:=bB,lost:=lost,heard:=heard} (bj g aO {c with heard:=m}++((ak++(H1++(k++r)))++(bQ++(dx++(d++f))))):=by
 obtain⟨c,cH,bQ,dx,bd,bA,a,rfl⟩:=h
 obtain⟨ak,H,U,rfl,s,l⟩:=a.bM
 have C:=l.len
 have M:z.rep i=none->(if 0<=i/\i<(z.bM.length:Int) then U.getD i.toNat (.pointer none) else .pointer none)= .pointer none:=λaP=>by
  split
  .rename_i O
   have n:i.toNat<z.bM.length:=by omega
   obtain⟨v,_,_,_,y,_,b,_⟩:=l.at i.toNat n
   unfold aX.rep at aP
   rw [a6 O.1,ck n] at aP
   have aP:z.bM[i.toNat]=none:=aP
   rw [aP] at b
   rw [iO,y,b.1]
   rfl
  .rfl
 cases D:z.rep i with
 |none=>
  refine⟨c,none,ak,H,[],[],bQ,dx,bd,bA,U,.inl ⟨j,j,j⟩,s,C,l.qA,M D,a.bB,a.heard,by simp,λI k bB lost heard m d f b u w=>?_⟩
  obtain⟨_,rfl,rfl⟩:(none:Option Addr)=none/\I=none/\k=[]:=by
   rcases b with h|⟨_,_,h,_⟩
   .exact h
   .cases h
  have e:H++([]++[])=H:=by simp
  rw [e]
  exact⟨{c with heard:=m},_,bQ,dx,d,f,⟨⟨ak,H,U,j,s,l⟩,a.parts,a.cJ,u,w⟩,j⟩
 |some x=>
  obtain⟨E,A⟩:=aX.nY D
  have n:i.toNat<z.bM.length:=(fa.1 A).1
  obtain⟨v,H1,o,r,y,rfl,b,N⟩:=l.at i.toNat n
  have P:z.bM[i.toNat]=some x:=by rw [ck n] at A;exact hr A
  rw [P] at b
  obtain⟨B,rfl,K⟩:=b
  refine⟨c,some ⟨B,0,none⟩,ak,H1,o,r,bQ,dx,bd,bA,U,.inr ⟨x,B,j,j,K⟩,s,C,l.qA,?_,a.bB,a.heard,j,λI k bB lost heard m d f J u w=>?_⟩
  .rw [a6 ⟨E,by omega⟩,iO,y];rfl
  .rcases J with⟨t,_⟩|⟨eO,Q,t,rfl,L⟩
   .cases t
   .cases t
    have F:=N (some eO) k ⟨B,j,L⟩
    exact⟨{c with heard:=m},_,bQ,dx,d,f,⟨⟨ak,_,U,j,by show Row 37 1 c.bM (z.bM.set i.toNat (some eO)).length U ak;rw [hp];exact s,F⟩,a.parts,a.cJ,u,w⟩,j⟩
theorem l0.isSome{g:al}{p:Option Addr}{I:Option bo}{G:List Chunk}(h:l0 g p I G):p.isSome=I.isSome:=by
 rcases h with⟨rfl,rfl,_⟩|⟨x,a,rfl,rfl,_⟩<;>rfl
theorem Hv{o:World}{m:aB}(c:m.tag.length=32):Calls prog 42 #[.pointer none,.agg m.cs.toArray] o (aS λr w=>r= .slice none 0 0/\C o [] [] w):=by
 have a:Own [] o:=C.start o
 refine a1 [.pointer none,.agg m.cs.toArray] func42 ntmps42 results42 ?_
 refine bP 2 a j j (λb w a=>?_)
 refine ao 10 j j ?_
 exact⟨j,a.bare⟩
theorem Hw{o:World}{g:al}{p:Option Addr}{I:Option bo}{G:List Chunk}{m:aB}(hm:m.ok o)(n:m.k0 (av [G]))(t:m.P.cP)(u:m.s<=1000000)(k:l0 g p I G){N:Nat}(z:∀x,I=some x->x.ok g N)(f:773<=N)(h:N+50<=1000000)(q:g.at o)(v:g.ok)(y:g.off (av [G]))(c:Own [G] o):
 Calls prog 42 #[.pointer p,.agg m.cs.toArray] o (aS λr w=>∃a ah,cz r (jJ g I m.P).2 a/\l0 g p (jJ g I m.P).1 ah/\C o (av [G]) [ah,a] w):=by
 rcases k with⟨rfl,rfl,rfl⟩|⟨x,B,rfl,rfl,l⟩
 .refine Calls.mono (Hv hm.tag) (λr w⟨A,ad⟩=>?_)
  subst A
  have i:=c.aN ad
  exact⟨[],[],cz.nil,.inl ⟨j,j,j⟩,by have b:C o (av [[]]) [[],[]] w:=(C.empty i).as;exact b⟩
 .refine Calls.mono (Hz hm n t u l (z x j) f h q v y c) (λr w⟨a,ah,d,e,b⟩=>?_)
  exact⟨a,ah,d,.inr ⟨_,B,j,j,e⟩,b⟩
theorem oO{o:World}{g:al}{aO:Nat}{z:aX}{G:List Chunk}{i:Int}(d:eU g aO z G)(a:Holds o G):Calls prog 7 #[Z aO,ab i] o (aS λr w=>r= .bool (z.rep i).isSome/\w=o):=by
 obtain⟨c,p,ak,H1,m,n,bQ,dx,bd,bA,U,e,h,l,f,k,_,_,rfl,_⟩:=d.so i
 refine a1 [Z aO,ab i] func7 ntmps7 results7 (bm 7 (vD (V:=hY g) (xs:=z.bM) (c:=c) (U:=U) (i:=i) a.left.head h a.right.left.left l f) j (λr w⟨b,hw⟩=>?_))
 rw [k] at b
 subst b
 have hw:=hw.symm
 subst hw
 refine ao 2 j j ?_
 exact⟨aL Value.bool e.isSome,j⟩
theorem HT{o:World}{g:al}{aO:Nat}{z:aX}{G:List Chunk}{s:e6}{a:hJ}(D:eU g aO z G){N M L:Nat}(ad:z.de g (λ_=>N) M L)(K:773<=N)(aQ:N+150<=1000000)(aP:M+10000<=1000000)(aN:L+4200000<=1000000000)(S:g.at o)(V:g.ok)(aH:g.off (av [G]))(d:Own [G] o):Calls prog 19 #[Z aO,.agg (cQ s a).toArray] o (aS λr w=>r=ab (z.fW g s).2/\∃ah,eU g aO (z.fW g s).1 ah/\C o (av [G]) [ah] w):=by
 obtain⟨f,B⟩:∃f,f=av [G]:=⟨_,j⟩
 have W:g.off f:=B▸aH
 rw [<-B]
 have d:C o f [G] o:=B▸d
 refine a1 [Z aO,.agg (cQ s a).toArray] func19 ntmps19 results19 (bP 2 d j j (λm w d=>?_))
 have d:C o f [R m (cQ s a).toArray 35,G] w:=d
 refine au 6 j (aw (C.aj (b:=m) d) j) (bp 0 (oO (i:=s.node) D (d.holds (G:=G) (by simp))) j (λw hw=>?_))
 have hw:=hw.symm
 subst hw
 refine aT 1 j j (λt=>?_) (λt=>?_)
 .refine ao 3 j j ?_
  have I:z.fW g s=(z,1):=by
   unfold aX.fW
   cases aJ:z.rep s.node with
   |none=>rfl
   |some x=>rw [aJ] at t;cases t
  rw [I]
  exact⟨j,G,D,d.as⟩
 obtain⟨x,F⟩:∃x,z.rep s.node=some x:=g4.1 (by simpa using t)
 obtain⟨ai,H⟩:=aX.nY F
 have T:s.node.toNat<z.bM.length:=(fa.1 H).1
 obtain⟨c,p,ak,H1,n,q,bQ,dx,bd,bA,U,O,X,aU,aR,Y,ar,az,rfl,aE⟩:=D.so s.node
 rw [F] at O
 obtain⟨l,rfl,aB⟩:∃l,p=some ⟨l,0,none⟩/\hK g l x n:=by
  rcases O with⟨_,h,_⟩|⟨a0,l,am,ap,aq⟩
  .cases h
  .cases ap;exact⟨l,am,aq⟩
 obtain⟨k,cap,cur,Q,rfl,_⟩:=Row.block X (by omega)
 have aa:U[s.node.toNat]? =some (Z l):=by
  rw [a6 ⟨ai,by omega⟩,iO,ck (by omega)] at Y
  rw [ck (by omega)]
  exact aL some Y
 obtain⟨i,aF⟩:∃i:Nat,s.node=i:=⟨s.node.toNat,by omega⟩
 have aG:s.node.toNat=i:=by omega
 rw [aG] at aa T H
 obtain⟨ac,aY⟩:=ad.iu i x H
 have aI:∀w,Holds w (R k cur 37)->w.cell? ⟨k,0+i*1,none⟩=some (Z l):=λw ay=>by
  obtain⟨_,_,e,_,_,aK,_⟩:=Row.read X ay
  rw [Q] at e
  cases e
  have P:=aK.cell aa
  rw [add_lit] at P
  rw [gT]
  exact P
 have d:C o f [R m (cQ s a).toArray 35,bj g aO c,R k cur 37,H1,n,q,bQ,dx,bd,bA] _:=C.perm (A:=[R m (cQ s a).toArray 35,bj g aO c++((R k cur 37++(H1++(n++q)))++(bQ++(dx++(bd++bA))))]) d.as (by simp)
 have d:C o f ([R m (cQ s a).toArray 35,bj g aO c,R k cur 37]++_) _:=d.front
 have d:=d.drew
 refine bz 2 j (λw=>∃ae,C o f ([R m (cQ s a).toArray 35,bj g aO c,R k cur 37]++ae) w) ⟨_,d⟩ (af 0 4 j (be 4 j a7 (aL some Q) (af 5 1 j (be 6 j a7 j (iT 16 (.int .i64 (i:Nat)) j (aL (Value.int .i64) aF) (aV 7 j (λw _=>gI j j T) (bT 8 j (λw⟨_,d⟩=>aI _ (d.holds (G:=R k cur 37) (by simp))) (aW 9 j (cN j j j (HN aB ac K (by omega) (S.st d W) V (d.ex S W) (d.ours (cI:=[n]))) (λaZ w⟨ag,y,aM,aC,E⟩=>?_))))))))))
 have d:=d.b4 E
 have d:C o f ([R m (cQ s a).toArray 35,bj g aO c,R k cur 37]++_) _:=d.front
 refine an ⟨⟨_,d⟩,?_⟩
 refine dy 10 j ?_
 have aD:=sC (g:=g) (aO:=aO) (c:=c) ar az aM (by have:=ad.lost;omega) (by have:=(bo.sS V ac K).2;omega) ad.heard (d.ours (cI:=[bj g aO c,bd,bA,ag]))
 refine bF j j j aD (λw⟨J,u,v,ax,aA,E⟩=>?_)
 have d:=d.b4 E
 refine an (cX (ao 3 j j ?_))
 have I:z.fW g s=((z.mw s.node (x.tick g).1).g0 (x.tick g).2,0):=by
  unfold aX.fW
  rw [F]
 rw [I]
 have d:C o f [bj g aO {c with heard:=J},R k cur 37,H1,y,q,bQ,dx,u,v] _:=d.as
 exact⟨j,_,aE (some (x.tick g).1) y _ _ _ J u v (.inr ⟨_,l,j,j,aC⟩) ax aA,C.perm (A:=[bj g aO {c with heard:=J},R k cur 37,H1,y,q,bQ,dx,u,v]) d (by simp)⟩
theorem u7{o:World}{g:al}{aO:Nat}{z:aX}{G:List Chunk}{s:e6}{a:hJ}(aD:eU g aO z G){N M L:Nat}(ad:z.de g (λ_=>N) M L)(aC:773<=N)(bH:N+150<=1000000)(bG:M+10000<=1000000)(bE:L+4200000<=1000000000)(aH:g.at o)(aK:g.ok)(bc:g.off (av [G]))(d:Own [G] o):Calls prog 18 #[Z aO,.agg (cQ s a).toArray] o (aS λr w=>r=ab (z.g9 g s).2/\∃ah,eU g aO (z.g9 g s).1 ah/\C o (av [G]) [ah] w):=by
 have a3:=aD
 obtain⟨f,aA⟩:∃f,f=av [G]:=⟨_,j⟩
 have aM:g.off f:=aA▸bc
 rw [<-aA]
 have d:C o f [G] o:=aA▸d
 obtain⟨c,cH,bQ,dx,bd,bA,p,rfl⟩:=aD
 have d:=d.zi
 have bI:=ad.bB
 refine a1 [Z aO,.agg (cQ s a).toArray] func18 ntmps18 results18 (bP 2 d j j (λt w d=>?_))
 have d:C o f [R t (cQ s a).toArray 35,bj g aO c,cH,bQ,dx,bd,bA] w:=d
 refine au 7 j (aw (C.aj (b:=aO) d) j) (bp 0 (wX p.bB (d.holds (G:=bd) (by simp))) j (λbD B=>?_))
 have B:=B.symm
 subst B
 refine aT 1 j j (λay=>?_) (λay=>?_)
 .refine ao 3 j j ?_
  have q:z.g9 g s=(z,4):=by
   unfold aX.g9
   have K:z.bB=[]:=lu (by have:=dX.1 ay;omega)
   rw [K]
   rfl
  rw [q]
  have d:C o f [bj g aO c,cH,bQ,dx,bd,bA] _:=d.as
  exact⟨j,_,a3,d.r6⟩
 have d:C o f ([R t (cQ s a).toArray 35,bj g aO c,bd]++_) _:=d.front
 have d:=d.drew
 refine bz 2 j (λw=>∃ae,C o f ([R t (cQ s a).toArray 35,bj g aO c,bd]++ae) w) ⟨_,d⟩ (af 0 1 j (be 1 j a7 j (aV 2 j (λw _=>v6 j) (af 3 3 j (be 6 j a7 j (aW 7 j (bF j j j (wX p.bB (d.holds (G:=bd) (by simp))) (λbD B=>?_))))))))
 have B:=B.symm
 subst B
 refine an ⟨⟨_,d⟩,?_⟩
 have aG:0<z.bB.length:=by have K:((z.bB.length:Int)==0)=false:=ay;rw [fq] at K;omega
 refine iT 16 (.int .i64 ((max s.n 0).toNat:Nat)) j (aL (Value.int .i64) (by omega)) (aV 8 j (λw _=>pn j j aG) (af 9 1 j (bO ?_)))
 obtain⟨e,v⟩:∃e:Nat,(max s.n 0).toNat%z.bB.length=e:=⟨_,j⟩
 have E:e<z.bB.length:=by rw [<-v];exact jx _ aG
 refine ar 3 j (b2 5 (.int .i64 (e:Nat)) j (aL (Value.int .i64) (by rw [v])) ?_)
 refine au 1 j (aw (C.aj (b:=t) d) j) (aT 1 j j (λI=>?_) (λI=>?_))
 .refine au 6 j (aw (C.aj (b:=aO) d) j) (bp 1 (Cp p.bB (d.ours (cI:=[bd])) E) j (λw⟨D,O,y⟩=>?_))
  have d:=d.b4 y
  refine aT 1 j j (λJ=>?_) (λJ=>?_)
  refine ao 3 j j ?_
  have F:z.bB[(max s.n 0).toNat%z.bB.length]? =some z.bB[e]:=by rw [v];exact ck E
  have q:z.g9 g s=(z,3):=by
   unfold aX.g9
   rw [F]
   dsimp only
   rw [a6 (by simpa using I),if_neg (by simpa using J)]
  rw [q]
  rw [aF (by simpa using J)] at O
  rotate_left
  refine ao 4 j j ?_
  have F:z.bB[(max s.n 0).toNat%z.bB.length]? =some z.bB[e]:=by rw [v];exact ck E
  have q:z.g9 g s=({z with bB:=z.bB++[z.bB[e]]},0):=by
   unfold aX.g9
   rw [F]
   dsimp only
   rw [a6 (by simpa using I),if_pos (by simpa using J)]
  rw [q]
  rw [a6 (by simpa using J)] at O
  rotate_left
  all_goals
   have d:C o f [bj g aO c,cH,bQ,dx,D,bA] _:=d.as
   exact⟨j,_,⟨c,cH,bQ,dx,D,bA,⟨p.bM,p.parts,p.cJ,O,p.heard⟩,j⟩,d.r6⟩
 refine au 6 j (aw (C.aj (b:=aO) d) j) (bm 1 (Cn p.bB (d.ours (cI:=[bd])) E) j (λr w⟨m,ax,D,Y,aI,aJ,O,y⟩=>?_))
 subst Y
 have d:=d.b4 y
 have X:m.tag.length=32:=by obtain⟨_,_,_,_,h,_⟩:=aJ;exact h
 have W:m.P.jV:=by rw [aI];exact ad.lB _ (ek E)
 have F:z.bB[(max s.n 0).toNat%z.bB.length]? =some m.P:=by rw [aI,v];exact ck E
 refine cn 3 d j (λk w d=>?_)
 have d:C o f (bi k dM::_) w:=d
 refine cp 0 (d.bf k) j j j (by simpa using(m).one) (by rw [List.size_toArray];exact(m).bY X) (λw d=>?_)
 have d:=C.whole (U:=(m).cs) d (by rw [(m).bY X];rfl)
 have d:C o f (bi k (m)::_) w:=d
 obtain⟨GE,aE,d⟩:∃GE,eU g aO ({z with bB:=z.bB.eraseIdx e}) GE/\C o f [bi k m,R t (cQ s a).toArray 35,GE,ax] w:=by
  have d:C o f [bi k m,R t (cQ s a).toArray 35,bj g aO c,cH,bQ,dx,D,bA,ax] w:=d.as
  exact⟨_,⟨c,cH,bQ,dx,D,bA,⟨p.bM,p.parts,p.cJ,O,p.heard⟩,j⟩,C.perm (A:=[bi k m,R t (cQ s a).toArray 35,bj g aO c,cH,bQ,dx,D,bA,ax]) d (by simp)⟩
 refine au 5 j (aw (C.aj (b:=t) d) j) (aT 1 j j (λaz=>?_) (λaz=>?_))
 .obtain⟨u,bC,H,H1,ak,T,S,Q,ac,ai,aP,a4,bl,bt,bg,bs,aZ,a2,rfl,ba⟩:=aE.so m.P.to
  obtain⟨ap,aq,rfl,aN,_,bv,bJ⟩:=aJ
  have d:C o f [bi k m,bj g aO u,H,H1,ak,T,S,Q,ac,ai,ap,aq] _:=C.perm (A:=[bi k m,bj g aO u++((H++(H1++(ak++T)))++(S++(Q++(ac++ai)))),ap++aq]) d.as (by simp)
  have d:C o f ([bi k m]++_) _:=d.front
  have d:=d.drew
  refine bz 0 j (λw=>∃ae,C o f ([bi k m]++ae) w) ⟨_,d⟩ (af 0 3 j (be 3 j a7 m.dn (aV 5 j (λw⟨_,d⟩=>dc (U:=m.cs) j j (m.bY X) (bq (C.aj (b:=k) d))) (aW 4 j (cN j j j (vD (V:=hY g) (xs:=({z with bB:=z.bB.eraseIdx e}:aX).bM) (c:=u) (U:=aP) (i:=m.to) (C.aj (b:=aO) d) bl (d.holds (G:=H) (by simp)) bt bg) (λr w⟨Y,hw⟩=>?_))))))
  rw [show(if 0<=m.to/\m.to<(({z with bB:=z.bB.eraseIdx e}:aX).bM.length:Int) then aP.getD m.to.toNat (.pointer none) else .pointer none)= .pointer bC from bs] at Y
  subst Y
  have hw:=hw.symm
  subst hw
  refine an ⟨⟨_,d⟩,?_⟩
  refine aW 6 j ?_
  obtain⟨_,_,aR,_,_,bn,a9⟩:=Row.rd aN.x (d.to ap)
  cases aR
  obtain⟨_,_,aU,_,_,bk,a8⟩:=Row.rd aN.l (d.to aq)
  cases aU
  have bb:m.ok _:=⟨bn,bk,bv,X⟩
  refine cN j j j (Hw (m:=m) bb ⟨a9.sub (fB (by simp)),a8.sub (fB (by simp))⟩ W.1 (by have:=W.2;show m.s<=1000000;have K:m.s<=63:=W.2;omega) a4 (λx bw=>(ad.iu _ x (aX.nY bw).2).1) aC (by omega) (aH.st d aM) aK (d.ex aH aM) (d.ours (cI:=[ak]))) (λbK w⟨aQ,am,bu,a5,y⟩=>?_)
  have d:=d.b4 y
  have d:C o f ([bi k m]++_) _:=d.front
  refine an ⟨⟨_,d⟩,?_⟩
  refine dy 7 j ?_
  have br:(jJ g (({z with bB:=z.bB.eraseIdx e}:aX).rep m.P.to) m.P).2.length<=1000000:=by
   unfold jJ
   cases bh:(({z with bB:=z.bB.eraseIdx e}:aX).rep m.P.to) with
   |none=>exact ch _
   |some x=>
    have K:=(bo.sR aK (ad.iu _ x (aX.nY bh).2).1 aC W.1).2
    show(x.take g m.P).2.length<=_
    omega
  refine bF j j j (sC (g:=g) (aO:=aO) (c:=u) aZ a2 bu (by have:=ad.lost;show z.lost<=_;omega) br ad.heard (d.ours (cI:=[bj g aO u,ac,ai,aQ]))) (λw⟨aB,aa,ag,aY,a0,y⟩=>?_)
  have d:=d.b4 y
  refine an (cX (ao 3 j j ?_))
  have q:z.g9 g s=(aX.kF g ({z with bB:=z.bB.eraseIdx e}) m.P,0):=by
   unfold aX.g9
   rw [F]
   dsimp only
   rw [aF (by simpa using I),if_pos (by simpa using az),v]
  rw [q]
  rw [aX.DW]
  have d:C o f [bj g aO {u with heard:=aB},H,H1,am,T,S,Q,aa,ag] _:=d.as
  have bx:(({z with bB:=z.bB.eraseIdx e}:aX).qI m.P.to (jJ g (({z with bB:=z.bB.eraseIdx e}:aX).rep m.P.to) m.P).1).g0 (jJ g (({z with bB:=z.bB.eraseIdx e}:aX).rep m.P.to) m.P).2={({z with bB:=z.bB.eraseIdx e}:aX).qI m.P.to (jJ g (({z with bB:=z.bB.eraseIdx e}:aX).rep m.P.to) m.P).1 with bB:=z.bB.eraseIdx e++(jJ g (({z with bB:=z.bB.eraseIdx e}:aX).rep m.P.to) m.P).2.take (512-(z.bB.eraseIdx e).length),lost:=z.lost+((jJ g (({z with bB:=z.bB.eraseIdx e}:aX).rep m.P.to) m.P).2.length-(512-(z.bB.eraseIdx e).length)),heard:=z.heard++(jJ g (({z with bB:=z.bB.eraseIdx e}:aX).rep m.P.to) m.P).2.take (min (min (jJ g (({z with bB:=z.bB.eraseIdx e}:aX).rep m.P.to) m.P).2.length (512-(z.bB.eraseIdx e).length)) (1000-z.heard.length))}:=by
   unfold aX.g0 aX.qI
   cases(jJ g (({z with bB:=z.bB.eraseIdx e}:aX).rep m.P.to) m.P).1<;>rfl
  rw [bx]
  exact⟨j,_,ba (jJ g (({z with bB:=z.bB.eraseIdx e}:aX).rep m.P.to) m.P).1 am _ _ _ aB aa ag a5 aY a0,C.perm (A:=[bj g aO {u with heard:=aB},H,H1,am,T,S,Q,aa,ag]) d (by simp)⟩
 refine ao 4 j j ?_
 have q:z.g9 g s=({z with bB:=z.bB.eraseIdx e},0):=by
  unfold aX.g9
  rw [F]
  dsimp only
  rw [aF (by simpa using I),if_neg (by simpa using az),v]
 rw [q]
 exact⟨j,GE,aE,d.as⟩
theorem eU.facts{g:al}{aO:Nat}{z:aX}{G:List Chunk}(h:eU g aO z G):∃(c:cg)(a b:Option Addr)(aZ dn:Nat)(bA:List Chunk),c.bM= .slice a z.bM.length aZ/\c.heard= .slice b z.heard.length dn/\z.heard.length<=maxLen/\cz c.heard z.heard bA/\∀w,Holds w G->w.heap[aO]? =some (.cells (lU g c).toArray 58 (0,0))/\Holds w bA:=by
 obtain⟨c,cH,bQ,dx,bd,bA,d,rfl⟩:=h
 obtain⟨ak,H,U,rfl,l,m⟩:=d.bM
 obtain⟨a,aZ,f,_,_⟩:=Row.form l
 obtain⟨b,dn,i,j,k⟩:=d.heard.len
 exact⟨c,a,b,aZ,dn,bA,f,i,ed j k,d.heard,λw e=>⟨e.left.head,e.right.right.right.right.right⟩⟩
theorem eU.FZ{g:al}{aO:Nat}{z:aX}{G:List Chunk}(h:eU g aO z G){i:Nat}(y:i<z.parts.length):∃(c:cg)(a cap bh:Nat)(c4 f n:List Chunk),c.parts= .slice (some ⟨a,0,none⟩) z.parts.length cap/\jK g bh z.parts[i] f/\G=c4++(f++n)/\
 (∀w,Holds w c4->w.heap[aO]? =some (.cells (lU g c).toArray 58 (0,0))/\w.cell? ⟨a,0+i*1,none⟩=some (Z bh))/\
 ∀k b,jK g bh k b->eU g aO {z with parts:=z.parts.set i k} (c4++(b++n)):=by
 obtain⟨c,cH,bQ,dx,bd,bA,d,rfl⟩:=h
 obtain⟨ak,H,U,rfl,m,u⟩:=d.parts
 obtain⟨a,cap,cur,q,rfl,_⟩:=Row.block m (by omega)
 obtain⟨v,H1,f,l,C,rfl,r,A⟩:=u.at i y
 obtain⟨bh,rfl,t⟩:=r
 refine⟨c,a,cap,bh,bj g aO c++(cH++(R a cur 47++H1)),f,l++(dx++(bd++bA)),q,t,by simp,λw o=>⟨o.left.head,?_⟩,λk b s=>?_⟩
 .obtain⟨_,_,e,_,_,B,_⟩:=Row.read m o.right.right.left
  rw [q] at e
  cases e
  have p:=B.cell C
  rw [add_lit] at p
  rw [gT]
  exact p
 .have x:=A k b ⟨bh,j,s⟩
  have e:bj g aO c++(cH++(R a cur 47++H1))++(b++(l++(dx++(bd++bA))))=bj g aO c++(cH++((R a cur 47++(H1++(b++l)))++(dx++(bd++bA)))):=by simp
  rw [e]
  exact⟨c,cH,_,dx,bd,bA,⟨d.bM,⟨_,_,U,j,by rw [hp];exact m,x⟩,d.cJ,d.bB,d.heard⟩,j⟩
theorem cz.lit{b:Nat}{q:aB}{a:List Chunk}(h:fw q a)(d:q.tag.length=32):cz (.slice (some ⟨b,0,none⟩) 1 1) [q.P] (R b q.cs.toArray 94++a):=by
 have c:=Row.full (e:=94) (size:=39) (b:=b) (n:=1) (cur:=q.cs.toArray) (by decide) (by rw [hq,q.bY d])
 have e:fN [q]=q.cs:=by simp
 exact⟨[q],j,_,a,j,by show Row 94 39 _ 1 (fN [q]) _;rw [e];exact c,fx.one h⟩
theorem E3{g:al}{f:Int}{aM:List aY}{l:eE}{m:aY}(c:ei aM)(h:eX g f aM l=some m)(ad:m.k=6):m.l=[cU g 3 0 0 (bL l.x) f]:=by
 obtain⟨_,_,_,b,_,a⟩:=u1 c h
 unfold eE.aH at a
 rw [a6 (by rw [<-b];exact ad)] at a
 exact(hr a).symm
theorem E4{o:World}{g:al}{aO:Nat}{z:aX}{G:List Chunk}{s:e6}{a:hJ}(O:eU g aO z G)(bC:hW s a (av [G]) o){N M L:Nat}(ad:z.de g (λ_=>N) M L)(bZ:773<=N)(b0:N+150<=1000000)(bX:M+10000<=1000000)(bW:L+4200000<=1000000000)(aC:g.at o)(aD:g.ok)(bG:g.off (av [G]))(n:Own [G] o):Calls prog 20 #[Z aO,.agg (cQ s a).toArray] o (aS λr w=>r=ab (z.fm g s).2/\∃ah,eU g aO (z.fm g s).1 ah/\C o (av [G]) [ah] w):=by
 have bv:=O
 obtain⟨p,aB⟩:∃p,p=av [G]:=⟨_,j⟩
 have aE:g.off p:=aB▸bG
 have ba:hW s a p o:=aB▸bC
 rw [<-aB]
 have n:C o p [G] o:=aB▸n
 obtain⟨c,bN,aW,aZ,dn,bO,bx,aK,a9,a3,ap⟩:=O.facts
 refine a1 [Z aO,.agg (cQ s a).toArray] func20 ntmps20 results20 ?_
 refine bP 2 n j j (λD w n=>?_)
 have n:C o p [R D (cQ s a).toArray 35,G] w:=n
 have n:C o p ([R D (cQ s a).toArray 35,G]++_) _:=n.front
 refine mc 3 j (λw=>∃ae,C o p ([R D (cQ s a).toArray 35,G]++ae) w) ?_
 have n:=n.drew
 refine fM 1 [0] j ⟨_,n⟩ ?_
 refine eI 1 j ⟨_,n⟩ (λw⟨_,n⟩=>hD j j (aw (C.aj (b:=D) n) j)) ?_
 refine fM 2 [2,3] j ⟨_,n⟩ ?_
 refine tl 11 j (λaz=>?_) (λaz=>?_)
 .refine fM 15 [4,5,6,7,8,9,10,11,12,13,14,15,16,17,18] j ⟨_,n⟩ ?_
  refine cX ?_
  refine ao 4 j j ?_
  have E:z.fm g s=(z,1):=a6 (.inl (br az))
  rw [E]
  exact⟨j,G,O,n.as⟩
 refine fM 1 [4] j ⟨_,n⟩ ?_
 refine eI 5 j ⟨_,n⟩ (λw⟨_,n⟩=>hD j j (aw (C.aj (b:=D) n) j)) ?_
 refine fM 3 [6,7,8] j ⟨_,n⟩ ?_
 refine eI 9 j ⟨_,n⟩ (λw⟨_,n⟩=>hD j j (aw (ap _ (n.holds (G:=G) (by simp))).1 (aL some bx))) ?_
 refine fM 4 [10,11,12,13] j ⟨_,n⟩ ?_
 refine tl 21 j (λaA=>?_) (λaA=>?_)
 .refine fM 5 [14,15,16,17,18] j ⟨_,n⟩ ?_
  refine cX ?_
  refine ao 4 j j ?_
  have E:z.fm g s=(z,1):=a6 (.inr (.inl (br aA)))
  rw [E]
  exact⟨j,G,O,n.as⟩
 refine fM 2 [14,15] j ⟨_,n⟩ ?_
 refine eI 16 j ⟨_,n⟩ (λw⟨_,n⟩=>hD j j (aw (C.aj (b:=D) n) j)) ?_
 refine dZ 17 j ?_
 refine bF j j j (oO (i:=s.node) O (n.holds (G:=G) (by simp))) (λw hw=>?_)
 have hw:=hw.symm
 subst hw
 refine an ⟨⟨_,n⟩,?_⟩
 refine fM 1 [18] j ⟨_,n⟩ ?_
 refine cX ?_
 refine aT 0 j j (λV=>?_) (λV=>?_)
 .refine ao 3 j j ?_
  have E:z.fm g s=(z,1):=a6 (.inr (.inr (by simpa using V)))
  rw [E]
  exact⟨j,G,O,n.as⟩
 have n:C o p ([R D (cQ s a).toArray 35,G]++_) _:=n.front
 refine mc 2 j (λw=>∃ae,C o p ([R D (cQ s a).toArray 35,G]++ae) w) ?_
 have n:=n.drew
 refine fM 3 [0,1,2] j ⟨_,n⟩ ?_
 refine eI 3 j ⟨_,n⟩ (λw⟨_,n⟩=>hD j j (aw (ap _ (n.holds (G:=G) (by simp))).1 j)) ?_
 refine fM 1 [4] j ⟨_,n⟩ ?_
 refine eI 5 j ⟨_,n⟩ (λw⟨_,n⟩=>hD j j (aw (C.aj (b:=D) n) j)) ?_
 refine fM 1 [6] j ⟨_,n⟩ ?_
 refine eI 7 j ⟨_,n⟩ (λw⟨_,n⟩=>dc (U:=fR s.eX a.Y a.k2 a.aQ a.dK) j j j ((n.bf D).i3 (off:=4) (U:=fR s.eX a.Y a.k2 a.aQ a.dK) (λJ v bJ=>by simpa [Nat.add_comm] using bJ))) ?_
 refine fM 3 [8,9,10] j ⟨_,n⟩ ?_
 refine eI 11 j ⟨_,n⟩ (λw⟨_,n⟩=>hD j j (aw (ap _ (n.holds (G:=G) (by simp))).1 (aL some aK))) ?_
 refine lo 12 16 j j (by kernel_rfl) ?_ ?_
 have H:=ba.apart n
 refine cN j j j (yH (f:=s.node) (l:=s.eX) (gf:=dn) (ho:=aW) (aM:=z.heard) (aC.st n aE) aD H.y H.q0 H.u H.qS H.qT (aK▸a3) (ap _ (n.holds (G:=G) (by simp))).2 a9 (λm hm=>by have:=(ad.kG m hm).1.l;omega) (λm hm=>(ad.kG m hm).1.aH)) (λr w⟨q,af,aV,be,aa,Q⟩=>?_)
 subst aV
 have n:=n.aN Q
 have n:C o p ([R D (cQ s a).toArray 35,G]++_) _:=n.front
 refine an ⟨⟨_,n⟩,?_⟩
 refine fM 3 [13,14,15] j ⟨_,n⟩ ?_
 refine dZ 16 j ?_
 refine en n j j (λt w n=>?_)
 have n:C o p (bi t dM::_) w:=n
 have n:C o p ([R D (cQ s a).toArray 35,G]++_) _:=n.front
 refine an ⟨⟨_,n⟩,?_⟩
 rotate_left
 refine en n j j (λt w n=>?_)
 have n:C o p (bi t dM::_) w:=n
 have n:C o p ([R D (cQ s a).toArray 35,G]++_) _:=n.front
 refine an ⟨⟨_,n⟩,?_⟩
 refine dZ 12 j ?_
 have H:=ba.apart n
 refine cN j j j (yH (f:=s.node) (l:=s.eX) (gf:=dn) (ho:=aW) (aM:=z.heard) (aC.st n aE) aD H.y H.q0 H.u H.qS H.qT (aK▸a3) (ap _ (n.holds (G:=G) (by simp))).2 a9 (λm hm=>by have:=(ad.kG m hm).1.l;omega) (λm hm=>(ad.kG m hm).1.aH)) (λr w⟨q,af,aV,be,aa,Q⟩=>?_)
 subst aV
 have n:=n.aN Q
 have n:C o p ([R D (cQ s a).toArray 35,G]++_) _:=n.front
 refine an ⟨⟨_,n⟩,?_⟩
 refine fM 3 [13,14,15] j ⟨_,n⟩ ?_
 rotate_left
 all_goals
  refine dZ 17 j ?_
  refine c5 (n.bf t) j j j (by simpa using(q).one) (by rw [List.size_toArray];exact(q).bY aa) bR (λw n=>?_)
  have n:=C.whole (U:=(q).cs) n (by rw [(q).bY aa];rfl)
  have n:C o p (bi t (q)::_) w:=n
  have n:C o p ([R D (cQ s a).toArray 35,G]++_) _:=n.front
  refine an ⟨⟨_,n⟩,?_⟩
  refine fM 1 [18] j ⟨_,n⟩ ?_
  refine cX ?_
  refine aT 5 j j (λai=>?_) (λai=>?_)
  .refine ao 4 j j ?_
   have aq:¬(s.node<0\/s.node>=z.bM.length\/(z.rep s.node).isSome=true):=(λh=>h.elim (λh=>absurd h (bw az)) (λh=>h.elim (λh=>absurd h (bw aA)) (λh=>by rw [h] at V;cases V)))
   have ar:(eX g s.node z.heard s.eX)=none:=by cases T:(eX g s.node z.heard s.eX) with|none=>rfl|some _=>rw [T] at ai;cases ai
   have E:z.fm g s=(z,1):=by
    unfold aX.fm
    rw [aF aq,ar]
   rw [E,ar]
   exact⟨j,G,O,n.as⟩
  obtain⟨m,hm⟩:∃m,(eX g s.node z.heard s.eX)=some m:=g4.1 (by cases T:(eX g s.node z.heard s.eX) with|none=>rw [T] at ai;cases ai|some _=>rfl)
  obtain⟨X,aU⟩:=be m hm
  have aP:=u1 ad.kG hm
  rw [<-X] at aP
  have aq:¬(s.node<0\/s.node>=z.bM.length\/(z.rep s.node).isSome=true):=(λh=>h.elim (λh=>absurd h (bw az)) (λh=>h.elim (λh=>absurd h (bw aA)) (λh=>by rw [h] at V;cases V)))
  refine au 5 j (aw (C.aj (b:=t) n) q.gU) ?_
  refine aT 1 j j (λak=>?_) (λak=>?_)
  .refine bS 3 (U:=q.cs) j j (q.bY aa) (bq (C.aj (b:=t) n)) ?_
   refine gv (U:=q.cs) n j j j (q.bY aa) (by decide) (by decide) (λag w n=>?_)
   have n:C o p (R ag q.cs.toArray 94::_) w:=n
   obtain⟨W,cH,bQ,dx,bd,bA,ax,rfl⟩:=bv
   have n:C o p [bj g aO W,cH,bQ,dx,bd,bA,R ag q.cs.toArray 94++af] w:=C.perm (A:=[bj g aO W++(cH++(bQ++(dx++(bd++bA)))),R ag q.cs.toArray 94,af]) n.as (by simp)
   refine bp 0 (sC (g:=g) (aO:=aO) (c:=W) ax.bB ax.heard (cz.lit (b:=ag) aU aa) (by have:=ad.lost;omega) (by simp) ad.heard (n.ours (cI:=[bj g aO W,bd,bA,R ag q.cs.toArray 94++af]))) j (λw⟨bn,aY,a0,bs,bu,Q⟩=>?_)
   have n:=n.b4 Q
   refine ao 3 j j ?_
   have E:z.fm g s=(z.g0 [q.P],0):=by
    unfold aX.fm
    rw [aF aq,hm]
    dsimp only
    rw [<-X,a6 (by simpa using ak)]
   rw [E]
   have n:C o p [bj g aO {W with heard:=bn},cH,bQ,dx,aY,a0] _:=n.as
   exact⟨j,_,⟨{W with heard:=bn},cH,bQ,dx,aY,a0,⟨ax.bM,ax.parts,ax.cJ,bs,bu⟩,j⟩,n.r6⟩
  refine au 4 j (aw (C.aj (b:=t) n) q.ge) ?_
  obtain⟨bE,_⟩:=aU.read (n.holds (G:=af) (by simp))
  refine bp 0 (Dh (c:=q.c) bE.x (by have:=aP.1.1.x;have K:q.x.length<=200:=this;omega)) j (λw Q=>?_)
  have n:=n.aN Q
  refine cn 3 n j (λF w n=>?_)
  refine cp 0 (n.bf F) j j j j j (λw n=>?_)
  have n:=C.whole (U:=((gZ q.x).getD jG).cs) n j
  have n:C o p (R F ((gZ q.x).getD jG).cs.toArray 103::_) w:=n
  refine aT 6 j j (λam=>?_) (λam=>?_)
  .refine ao 4 j j ?_
   have ar:gZ q.x=none:=by cases T:gZ q.x with|none=>rfl|some _=>rw [T] at am;cases am
   have E:z.fm g s=(z,2):=by
    unfold aX.fm
    rw [aF aq,hm]
    dsimp only
    rw [<-X,aF (by simpa using ak)]
    show(match gZ q.x with|none=>_|some bl=>_)=_
    rw [ar]
   rw [E,ar]
   exact⟨j,G,O,n.as⟩
  have bH:q.k=6:=by simpa using ak
  have bD:m.k=6:=by rw [<-X];exact bH
  obtain⟨e1,a7⟩:∃e1,e1=cU g 3 0 0 (bL s.eX.x) s.node:=⟨_,j⟩
  have a8:e1.ok:=by rw [a7];exact iU _ _ _ _ _ _ (e4 _)
  have aG:q.l=[e1]:=by have K:=E3 ad.kG hm bD;rw [<-X,<-a7] at K;exact K
  obtain⟨S,I,rfl,bb,_,_,_⟩:=aU
  obtain⟨bm,b1,b2,bk,bV,_⟩:=Row.block bb.l (by rw [aG];simp)
  have bI:Value.slice q.B q.l.length q.d= .slice (some ⟨bm,0,none⟩) 1 q.d:=by
   have K:=bk
   simp only [rq] at K
   rw [K.1,aG]
   rfl
  have bK:∀w,Holds w I->Rd w (some ⟨bm,0+0*68,none⟩) e1.cs:=λw bt=>by
   obtain⟨_,_,e,_,_,bg,_⟩:=Row.read bb.l bt
   rw [bk] at e
   simp only [rq] at e
   obtain⟨rfl,_,_⟩:=e
   have K:vcs q.l=e1.cs:=by rw [aG];simp
   rw [K] at bg
   simpa using bg
  have n:C o p [bi t q,R F ((gZ q.x).getD jG).cs.toArray 103,G,S,I] _:=C.perm (A:=[bi t q,R F ((gZ q.x).getD jG).cs.toArray 103,G,S++I]) n.as (by simp)
  obtain⟨eP,bU,bT,bh,c4,ay,ac,a5,a2,rfl,aR,bz⟩:=O.FZ (i:=q.s.toNat%z.parts.length) (jx _ (by rw [ad.parts];decide))
  have n:C o p [bi t q,R F ((gZ q.x).getD jG).cs.toArray 103,c4,ay,ac,S,I] _:=C.perm (A:=[bi t q,R F ((gZ q.x).getD jG).cs.toArray 103,c4++(ay++ac),S,I]) n.as (by simp)
  have n:C o p ([bi t q,R F ((gZ q.x).getD jG).cs.toArray 103,c4,S,I]++_) _:=n.front
  refine mc 2 j (λw=>∃ae,C o p ([bi t q,R F ((gZ q.x).getD jG).cs.toArray 103,c4,S,I]++ae) w) ?_
  have n:=n.drew
  refine fM 3 [0,1,2] j ⟨_,n⟩ ?_
  refine eI 3 j ⟨_,n⟩ (λw⟨_,n⟩=>hD j j (aw (aR _ (n.holds (G:=c4) (by simp))).1 (aL some a5))) ?_
  refine fM 1 [4] j ⟨_,n⟩ ?_
  refine eI 5 j ⟨_,n⟩ (λw⟨_,n⟩=>hD j j (aw (C.aj (b:=t) n) q.gC)) ?_
  refine fM 3 [6,7,8] j ⟨_,n⟩ ?_
  refine eI 9 j ⟨_,n⟩ (λw⟨_,n⟩=>hD j j (aw (aR _ (n.holds (G:=c4) (by simp))).1 (aL some a5))) ?_
  refine fM 1 [10] j ⟨_,n⟩ ?_
  refine q6 67 (.int .i64 (q.s.toNat:Nat)) j (aL (Value.int .i64) (by have K:0<=q.s:=aP.2.1;omega)) ?_
  refine eI 11 j ⟨_,n⟩ (λw _=>pn j j (by rw [ad.parts];decide)) ?_
  refine eI 12 j ⟨_,n⟩ (λw _=>gI j j (jx _ (by rw [ad.parts];decide))) ?_
  refine eI 13 j ⟨_,n⟩ (λw⟨_,n⟩=>hD j j (aR _ (n.holds (G:=c4) (by simp))).2) ?_
  refine eI 14 j ⟨_,n⟩ (λw⟨_,n⟩=>dc (U:=((gZ q.x).getD jG).cs) j j j (bq (C.aj (b:=F) n))) ?_
  refine fM 1 [15] j ⟨_,n⟩ ?_
  refine eI 16 j ⟨_,n⟩ (λw⟨_,n⟩=>hD j j (aw (C.aj (b:=t) n) (q.eV.trans (aL some bI)))) ?_
  refine eI 17 j ⟨_,n⟩ (λw _=>gI (J:=0) j j (by decide)) ?_
  refine eI 18 j ⟨_,n⟩ (λw⟨_,n⟩=>dc (U:=e1.cs) j j (e1.len a8) (bK _ (n.holds (G:=I) (by simp)))) ?_
  refine dZ 19 j ?_
  obtain⟨fz,a4⟩:∃fz,z.parts[q.s.toNat%z.parts.length]'(jx _ (by rw [ad.parts];decide))=fz:=⟨_,j⟩
  rw [a4] at a2
  have bc:z.parts[q.s.toNat%z.parts.length]? =some fz:=by rw [<-a4];exact ck _
  have aJ:=ad.jH _ (hZ bc)
  have n:C o p [c4,ay,ac,bi t q,R F ((gZ q.x).getD jG).cs.toArray 103,S,I] _:=n.as
  refine bF j j j (AA (m:=(gZ q.x).getD jG) (v:=e1) a2 (by have:=aJ.cl;omega) (by have:=aJ.acc;omega) (aJ.len aD) (aC.st n aE) aD (n.ex aC aE) a8 (n.ours (cI:=[ay]))) (λw⟨aI,bo,Q⟩=>?_)
  have n:=n.b4 Q
  have n:C o p ([bi t q,R F ((gZ q.x).getD jG).cs.toArray 103,c4,S,I]++_) _:=n.front
  refine an ⟨⟨_,n⟩,?_⟩
  refine fM 1 [20] j ⟨_,n⟩ ?_
  refine cX ?_
  refine ao 0 j j ?_
  have E:z.fm g s=({z with parts:=z.parts.set (q.s.toNat%z.parts.length) (fz.di g ((gZ q.x).getD jG) e1).1},(fz.di g ((gZ q.x).getD jG) e1).2):=by
   unfold aX.fm
   rw [aF aq,hm]
   dsimp only
   rw [<-X,aF (by simpa using ak)]
   show(match gZ q.x with|none=>(z,(2:Int))|some bl=>match z.parts[q.s.toNat%z.parts.length]?,q.l with|some b,v::_=>_|_,_=>_)=_
   rw [bc,aG]
   cases T:gZ q.x with
   |none=>rw [T] at am;cases am
   |some bl=>rfl
  rw [E]
  have n:C o p [c4,aI,ac] _:=n.as
  exact⟨j,_,bz _ aI bo,C.perm (A:=[c4,aI,ac]) n (by simp)⟩
def mr(g:al)(z:aX)(aD:List cM)(l:List (Int×Value)):List cM:=l.foldl (λaD q=>j6 g aD ((z.bM[q.1.toNat]?).getD none)) aD
theorem Gh(g:al)(z:aX)(aD:List cM)(l:List (Int×Value))(q:Int×Value):mr g z aD (l++[q])=j6 g (mr g z aD l) ((z.bM[q.1.toNat]?).getD none):=by unfold mr;rw [List.foldl_append];rfl
theorem vw{g:al}{z:aX}(f:∀(i:Nat)(x:bo),z.bM[i]? =some (some x)->x.aH.length<=512):∀(l:List (Int×Value)){aD:List cM}{M:Nat},(∀b∈aD,b.ok g M)->(∀b∈mr g z aD l,b.ok g (M+512*l.length))/\(mr g z aD l).length=aD.length
 |[],_,_,h=>⟨h,j⟩
 |q::r,aD,M,h=>by
  have d:(∀b∈j6 g aD ((z.bM[q.1.toNat]?).getD none),b.ok g (M+512))/\(j6 g aD ((z.bM[q.1.toNat]?).getD none)).length=aD.length:=by
   cases a:(z.bM[q.1.toNat]?).getD none with
   |none=>exact⟨λb c=>(h b c).more (by omega),j⟩
   |some x=>
    have n:z.bM[q.1.toNat]? =some (some x):=by
     cases e:z.bM[q.1.toNat]? with
     |none=>rw [e] at a;cases a
     |some I=>rw [e] at a;have a:I=some x:=a;rw [a]
    exact⟨λb c=>(s3 x.aH h b c).more (by have:=f _ x n;omega),s0 _ _⟩
  obtain⟨k,m⟩:=vw f r d.1
  exact⟨λb c=>(k b c).more (by rw [ep];omega),m.trans d.2⟩
theorem zt{g:al}{z:aX}:∀{U:List Value}{xs:List (Option bo)}{H:List Chunk}(_:dS (hY g) U xs H)(k:Nat)(aD:List cM),(∀(i:Nat)(b:i<xs.length),z.bM[k+i]? =some xs[i])->mr g z aD (fb k U)=xs.foldl (j6 g) aD
 |[],[],_,_,_,_,_=>rfl
 |[],_::_,_,h,_,_,_=>h.elim
 |_::_,[],_,h,_,_,_=>h.elim
 |v::U,x::xs,_,⟨_,_,_,f,h⟩,k,aD,c=>by
  have d:=zt h (k+1) (j6 g aD x) (λi b=>by have:=c (i+1) (by simpa using b);rw [show k+1+i=k+(i+1) by omega];simpa using this)
  rw [fb,ix,<-d]
  split
  .rename_i aP
   cases x with
   |none=>rfl
   |some y=>obtain⟨j,e,_⟩:=f;rw [e] at aP;cases aP
  .show mr g z (j6 g aD ((z.bM[((k:Nat):Int).toNat]?).getD none)) (fb (k+1) U)=_
   have a:=c 0 (by simp)
   rw [ov] at a
   rw [l5,a]
   rfl
theorem ye{g:al}:∀{U:List Value}{xs:List (Option bo)}{H:List Chunk}(_:dS (hY g) U xs H)(k:Nat){q:Int×Value}{r:List (Int×Value)},fb k U=q::r->∃(x:bo)(a:Nat)(c:List Chunk),rY xs=some x/\q.2=Z a/\hK g a x c/\∀w,Holds w H->Holds w c
 |[],_,_,_,_,_,_,b=>by cases b
 |_::_,[],_,h,_,_,_,_=>h.elim
 |v::U,x::xs,_,⟨ah,aA,rfl,l,h⟩,k,q,r,b=>by
  rw [fb] at b
  split at b
  .rename_i aP
   obtain⟨i,a,c,d,e,m,n⟩:=ye h (k+1) b
   refine⟨i,a,c,?_,e,m,λw f=>n w f.right⟩
   cases x with
   |none=>exact d
   |some y=>obtain⟨a,o,_⟩:=l;rw [o] at aP;cases aP
  .rename_i aP
   cases b
   obtain⟨i,a,rfl,d,e⟩:=l.some (by simpa using aP)
   exact⟨i,a,ah,j,d,e,λw f=>f.left⟩
theorem yg{g:al}:∀{U:List Value}{xs:List (Option bo)}{H:List Chunk}(_:dS (hY g) U xs H)(k:Nat){i:Nat}{x:bo},xs[i]? =some (some x)->∃q r,fb k U=q::r
 |[],[],_,_,_,_,_,a=>by simp at a
 |[],_::_,_,h,_,_,_,_=>h.elim
 |_::_,[],_,h,_,_,_,_=>h.elim
 |v::U,y::xs,_,⟨_,_,_,c,h⟩,k,i,x,a=>by
  rw [fb]
  split
  .rename_i aP
   cases i with
   |zero=>
    simp at a
    subst a
    obtain⟨d,b,_⟩:=c;rw [b] at aP;cases aP
   |succ i=>exact yg h (k+1) (by simpa using a)
  .exact⟨_,_,j⟩
def tj(a:Option Addr)(pre:List (Int×Value)):Prop:=(pre=[]/\a=none)\/∃q r b,pre=q::r/\q.2=Z b/\a=some ⟨b,0,none⟩
theorem Ff{α:Type}{f:α->α}{l:List α}{J:Nat}(a:J<l.length):((l.take J).map f++l.drop J).set J (f l[J])=(l.take (J+1)).map f++l.drop (J+1):=by
 have b:((l.take J).map f).length=J:=by rw [fy,hi];omega
 rw [tE _ _ (by omega),b,Nat.sub_self,kg a,rl,fF a,jP,List.append_assoc]
 rfl
theorem Fe{α:Type}{f:α->α}{l:List α}{J:Nat}(b:J<l.length)(h:J<((l.take J).map f++l.drop J).length):((l.take J).map f++l.drop J)[J]=l[J]:=by
 have c:((l.take J).map f).length=J:=by rw [fy,hi];omega
 have a:((l.take J).map f++l.drop J)[J]? =some l[J]:=by rw [jy (by omega),c,Nat.sub_self,lx,ov,ck b]
 exact hr ((ck h).symm.trans a)
abbrev ctz:Value×b9->List Value:=λe=>e.2.cs++[e.1]
theorem Gi{o:World}{g:al}{aO:Nat}{z:aX}{G:List Chunk}(dr:eU g aO z G){N M L:Nat}(ad:z.de g (λ_=>N) M L)(eq:773<=N)(er:N+150<=1000000)(ep:M+10000<=1000000)(eo:L+4200000<=1000000000)(cS:g.at o)(b7:g.ok)(dJ:g.off (av [G]))(d:Own [G] o):Calls prog 21 #[Z aO] o (aS λr w=>r=ab 0/\∃ah,eU g aO (z.polls g) ah/\C o (av [G]) [ah] w):=by
 obtain⟨K,bV⟩:∃K,K=av [G]:=⟨_,j⟩
 have c0:g.off K:=bV▸dJ
 rw [<-bV]
 have d:C o K [G] o:=bV▸d
 obtain⟨c,cH,bQ,dx,bd,bA,aC,rfl⟩:=dr
 obtain⟨ei,n,U,rfl,a5,aD⟩:=aC.bM
 obtain⟨eh,a0,aR,rfl,cf,cG⟩:=aC.parts
 obtain⟨eg,O,bD,rfl,ce,cF⟩:=aC.cJ
 have c7:=aD.len
 have eF:=cG.len
 have eE:=cF.len
 have dH:0<z.bM.length:=by obtain⟨i,x,cq⟩:=ad.some_;have:=(fa.1 cq).1;omega
 have ev:z.bM.length<=10:=by rw [ad.bM];exact b7.n10
 have ew:=ad.parts
 have et:=ad.cJ
 obtain⟨F,cap,cur,bs,rfl,ez⟩:=Row.block a5 dH
 obtain⟨B,df,E,cP,rfl,eB⟩:=Row.block cf (by omega)
 obtain⟨gc,dd,D,cO,rfl,eA⟩:=Row.block ce (by omega)
 rw [bs] at a5
 rw [<-c7] at bs a5
 have dW:=aD.qA
 have bb:∀(i:Nat)(x:bo),z.bM[i]? =some (some x)->x.aH.length<=512:=λi x cq=>(ad.iu i x cq).1.AF
 have dL:∀w,Holds w (R B E 47)->∀(J:Nat)(v:Value),aR[J]? =some v->w.cell? ⟨B,0+J*1,none⟩=some v:=λw aB J v a8=>by
  obtain⟨_,_,e,_,_,cc,_⟩:=Row.read cf aB
  rw [cP] at e
  cases e
  have W:=cc.cell a8
  rw [add_lit] at W
  rw [gT]
  exact W
 have dw:∀w,Holds w (R gc D 73)->∀(J:Nat)(v:Value),bD[J]? =some v->w.cell? ⟨gc,0+J*1,none⟩=some v:=λw aB J v a8=>by
  obtain⟨_,_,e,_,_,cc,_⟩:=Row.read ce aB
  rw [cO] at e
  cases e
  have W:=cc.cell a8
  rw [add_lit] at W
  rw [gT]
  exact W
 have d:C o K [bj g aO c,R F cur 37,n,R B E 47,a0,R gc D 73,O,bd,bA] o:=d.perm (by simp)
 refine iq [Z aO] (fn:=f21) func21 ntmps21 (bP 2 d j j (λax w d=>?_))
 have d:C o K [R ax #[Z aO] 24,bj g aO c,R F cur 37,n,R B E 47,a0,R gc D 73,O,bd,bA] w:=d
 refine cn 3 d j (λt w d=>?_)
 have d:C o K (R t #[.pointer none] 37::_) w:=d
 refine au 3 j (aw (C.aj (b:=ax) d) j) (bm 0 (yd (o:=w) (aO:=aO)) j (λr w⟨c8,b9,ak⟩=>?_))
 subst b9
 have d:=d.aN ak
 have d:C o K [R c8 #[Z aO] 24,R ax #[Z aO] 24,R t #[.pointer none] 37,bj g aO c,R F cur 37,n,R B E 47,a0,R gc D 73,O,bd,bA] w:=d.as
 have d:C o K ([R c8 #[Z aO] 24]++[R ax #[Z aO] 24,R t #[.pointer none] 37,bj g aO c,R F cur 37,n,R B E 47,a0,R gc D 73,O,bd,bA]) w:=d
 refine jY 1 j (yc (g:=g) (aO:=aO) (c:=c) bs a5 dW (by omega)) j (by have:=d.size;simpa using this) d j (λ_=>rfl) (by intro p aC;simp at aC;rcases aC with rfl|rfl<;>rfl)
  (λpre ae=>∃(aq:Option Addr)(aa:List cM)(H:List Chunk),ae=[R ax #[Z aO] 24,R t #[.pointer aq] 37,bj g aO c,R F cur 37,n,R B E 47,H,R gc D 73,O,bd,bA]/\tj aq pre/\mr g z z.parts pre=aa/\dS (jq g) aR aa H/\pre.length<=10) (λ_ _=>False) ⟨none,z.parts,a0,j,.inl ⟨j,j⟩,j,cG,ch _⟩ (λL aI dq=>by have ai:=dq.cd (C.aj (b:=aO) d);exact ai) (λpre ae L a7=>by obtain⟨aq,aa,H,rfl,_⟩:=a7;simp) ?_ ?_ (λ_ _ h=>h.elim) (λ_ _ _ h=>h.elim)
 .rintro y pre ⟨aF,eb⟩ ee db eM cw ⟨aq,aa,H,rfl,bu,aQ,bY,dM⟩ d
  obtain⟨i,dF,co,dI⟩:=r5 (q:=(aF,eb)) (by obtain⟨ea,cb⟩:=cw;rw [cb];simp)
  have d:=C.gs d
  refine bJ 2 j (⟨j,_,d,λdb S d=>?_⟩)
  have cT:=cS.st d c0
  have dK:g.off (av [R ax #[Z aO] 24,R t #[.pointer aq] 37,bj g aO c,R F cur 37,n,R B E 47,H,R gc D 73,O,bd,bA]):=(cS.apart d c0).sub (λb bk=>m9.2 (.inr (m9.2 (.inl bk))))
  have d:=C.gs d
  obtain⟨P,bU⟩:∃P,P=av [R ax #[Z aO] 24,R t #[.pointer aq] 37,bj g aO c,R F cur 37,n,R B E 47,H,R gc D 73,O,bd,bA]:=⟨_,j⟩
  have cZ:g.off P:=bU▸dK
  rw [<-bU]
  have d:C S P [R ax #[Z aO] 24,R t #[.pointer aq] 37,bj g aO c,R F cur 37,n,R B E 47,H,R gc D 73,O,bd,bA] S:=bU▸d
  have eu:i<U.length:=(fa.1 co).1
  have cU:i<z.bM.length:=by omega
  obtain⟨v,H1,ct,ay,ai,dp,dt,_⟩:=aD.at i cU
  rw [ai] at co
  cases co
  obtain⟨x,aG,d6,rfl,cK⟩:=dt.some dI
  have cE:∀w,Holds w n->Holds w ct:=λw aB=>by rw [dp] at aB;exact aB.right.left
  have bC:z.bM[i]? =some (some x):=by rw [ck cU,d6]
  have ey:pre.length+1<=U.length:=by
   obtain⟨ea,cb⟩:=cw
   have aP:=uT U 0
   rw [cb] at aP
   simp at aP
   omega
  obtain⟨dN,dT⟩:=vw (g:=g) (z:=z) bb pre ad.jH
  have dO:∀b∈aa,b.ok g (M+512*pre.length):=by rw [<-aQ];exact dN
  have dR:aa.length=z.parts.length:=by rw [<-aQ];exact dT
  refine au 4 j (aw (C.aj (b:=t) d) j) (aT 1 j j (λbH=>?_) (λbH=>?_))
  refine dD 2 (d.bf t) j j j j (λw d=>?_)
  have d:C S P (R t #[Z aG] 37::_) w:=d
  obtain⟨Q,cR,d⟩:∃Q,tj Q (pre++[(aF,Z aG)])/\C S P [R ax #[Z aO] 24,R t #[.pointer Q] 37,bj g aO c,R F cur 37,n,R B E 47,H,R gc D 73,O,bd,bA] w:=by
   refine⟨some ⟨aG,0,none⟩,?_,d.as⟩
   rcases bu with⟨rfl,_⟩|⟨q,r,c9,_,_,rfl⟩
   .exact .inr ⟨_,[],aG,j,j,j⟩
   .cases bH
  refine bm 3 (AH cK (cE _ (d.holds (G:=n) (by simp))) (by have:=bb i x bC;omega)) j (λr w⟨bl,cy,ak⟩=>?_)
  rotate_left
  obtain⟨Q,cR,d⟩:∃Q,tj Q (pre++[(aF,Z aG)])/\C S P [R ax #[Z aO] 24,R t #[.pointer Q] 37,bj g aO c,R F cur 37,n,R B E 47,H,R gc D 73,O,bd,bA] S:=by
   refine⟨aq,?_,d.as⟩
   rcases bu with⟨_,rfl⟩|⟨q,r,c9,rfl,aM,aP⟩
   .cases bH
   .exact .inr ⟨q,_,c9,j,aM,aP⟩
  refine bm 4 (AH cK (cE _ (d.holds (G:=n) (by simp))) (by have:=bb i x bC;omega)) j (λr w⟨bl,cy,ak⟩=>?_)
  rotate_left
  all_goals
   have d:=d.aN ak
   obtain⟨ap,V,us,rfl,c4,b2⟩:=cy
   obtain⟨cr,cv,rfl,eD,eG⟩:=Row.form c4
   have eC:=b2.len
   have cQ:∀e∈us.zip x.aH,(ctz e).length=5:=λ_ _=>rfl
   have eH:=bb i x bC
   have d:C S P [R ax #[Z aO] 24,R t #[.pointer Q] 37,bj g aO c,R F cur 37,n,R B E 47,H,R gc D 73,O,bd,bA,ap,V] w:=C.perm (A:=[R ax #[Z aO] 24,R t #[.pointer Q] 37,bj g aO c,R F cur 37,n,R B E 47,H,R gc D 73,O,bd,bA,ap++V]) d.as (by simp)
   refine cY 3 j (cA:=Nat×List cM×List Chunk) (λk=>[(1,Z ax),(22,.slice cr x.aH.length cv),(23,.int .i64 (x.aH.length:Nat)),(24,.int .i64 (k.1:Nat))])
    (λk w=>k.1<=x.aH.length/\k.2.1=(x.aH.take k.1).foldl (pe g x) aa/\dS (jq g) aR k.2.1 k.2.2/\C S P [R ax #[Z aO] 24,R t #[.pointer Q] 37,bj g aO c,R F cur 37,n,R B E 47,k.2.2,R gc D 73,O,bd,bA,ap,V] w) (λk=>x.aH.length-k.1) (0,aa,H) ⟨j,j,j,j,ba⟩ ⟨ch _,j,bY,d⟩ ?_
   rintro⟨m,ac,bg⟩ w ⟨hm,a4,bW,d⟩
   dsimp only at hm a4 bW d⊢
   have dP:ac.length=z.parts.length:=by rw [a4,s0];exact dR
   have dV:∀b∈ac,b.ok g (M+512*pre.length+512):=λb bk=>by
    rw [a4] at bk
    exact(s3 (x:=x) (x.aH.take m) dO b bk).more (by rw [hi];omega)
   refine aT 4 j j (λbK=>?_) (λbK=>?_)
   .have a3:m<x.aH.length:=by have:=br bK;omega
    have eI:(us.zip x.aH).length=x.aH.length:=by rw [oo];omega
    obtain⟨_,_,dg,_,_,c6,_⟩:=Row.read c4 (d.holds (G:=ap) (by simp))
    cases dg
    have bx:(us.zip x.aH)[m]'(by omega)=(us[m]'(by omega),x.aH[m]):=List.getElem_zip
    obtain⟨ec,ci,cj,bn,_,d0,dB⟩:=b2.read (d.holds (G:=V) (by simp)) m a3
    obtain⟨X,Y,rfl⟩:=uE (r:=[]) dB d0
    have d3:us[m]'(by omega)= .slice (some ⟨X,Y,none⟩) 1 ci:=by rw [ck (by omega)] at cj;exact hr cj
    have d4:∀w,Holds w V->Rd w (some ⟨X,Y+0*68,none⟩) (dm g x.aH[m] x.am).cs:=λw aB=>by
     obtain⟨g1,el,ai,_,_,aM,_⟩:=b2.read aB m a3
     rw [cj] at ai
     cases ai
     simpa [vcs] using aM
    refine ar 5 j (fL j j j j c6 (v:=ab x.aH[m].k) (iC (f:=ctz) (J:=0) (us.zip x.aH) cQ m (by omega) (by decide) (by rw [bx];rfl)) a3 (λej dj es=>?_))
    have c3:=jE (f:=ctz) (dj▸c6) cQ m (by omega)
    rw [bx,d3] at c3
    refine bS 0 (U:=(x.aH[m].cs++[Value.slice (some ⟨X,Y,none⟩) 1 ci])) j j j c3 (cn 0 d j (λag w d=>cp 0 (d.bf ag) j j j j j (λw d=>?_)))
    have d:=C.whole (U:=(x.aH[m].cs++[Value.slice (some ⟨X,Y,none⟩) 1 ci])) d j
    have d:C S P (R ag (x.aH[m].cs++[Value.slice (some ⟨X,Y,none⟩) 1 ci]).toArray 114::_) w:=d
    have d:C S P [R ax #[Z aO] 24,R t #[.pointer Q] 37,bj g aO c,R F cur 37,n,R B E 47,bg,R gc D 73,O,bd,bA,ap,V,R ag (x.aH[m].cs++[Value.slice (some ⟨X,Y,none⟩) 1 ci]).toArray 114] w:=d.as
    refine au 2 j (aw (C.aj (b:=ax) d) j) (au 2 j (aw (C.aj (b:=aO) d) (aL some cP)) ?_)
    refine cY 3 j (cA:=Nat×List Chunk) (λk=>[(1,Z ax),(7,Z ag),(22,.slice cr x.aH.length cv),(23,.int .i64 (x.aH.length:Nat)),(24,.int .i64 (m:Nat)),(31,.slice (some ⟨B,0,none⟩) z.parts.length df),(32,.int .i64 (z.parts.length:Nat)),(33,.int .i64 (k.1:Nat))])
     (λk w=>k.1<=z.parts.length/\dS (jq g) aR ((ac.take k.1).map (λb:cM=>(b.di g x.aH[m] (dm g x.aH[m] x.am)).1)++ac.drop k.1) k.2/\C S P [R ax #[Z aO] 24,R t #[.pointer Q] 37,bj g aO c,R F cur 37,n,R B E 47,k.2,R gc D 73,O,bd,bA,ap,V,R ag (x.aH[m].cs++[Value.slice (some ⟨X,Y,none⟩) 1 ci]).toArray 114] w) (λk=>z.parts.length-k.1) (0,bg) ⟨j,j,j,j,j,j,j,j,ba⟩ ⟨ch _,by simpa using bW,d⟩ ?_
    rintro⟨J,cu⟩ w ⟨dC,bi,d⟩
    dsimp only at dC bi d⊢
    refine aT 4 j j (λbL=>?_) (λbL=>?_)
    .have cV:J<z.parts.length:=by have:=br bL;omega
     have b6:J<ac.length:=by omega
     have cW:J<((ac.take J).map (λb:cM=>(b.di g x.aH[m] (dm g x.aH[m] x.am)).1)++ac.drop J).length:=by rw [ca,List.length_map,List.length_take,List.length_drop];omega
     obtain⟨v9,aY,bE,aZ,cm,rfl,dl,dX⟩:=bi.at J cW
     obtain⟨bh,rfl,cx⟩:=dl
     rw [Fe b6 cW] at cx
     refine ar 5 j (hG j j j j cV ?_)
     refine au 0 j (dL _ (d.holds (G:=R B E 47) (by simp)) J _ cm) ?_
     have d:C S P ([R ag (x.aH[m].cs++[Value.slice (some ⟨X,Y,none⟩) 1 ci]).toArray 114,V]++_) _:=d.front
     have d:=d.drew
     refine bz 1 j (λw=>∃ae,C S P ([R ag (x.aH[m].cs++[Value.slice (some ⟨X,Y,none⟩) 1 ci]).toArray 114,V]++ae) w) ⟨_,d⟩ ?_
     refine af 0 2 j (aV 2 j (λw⟨_,d⟩=>dc (U:=x.aH[m].cs) j j j ((d.bf ag).i3 (off:=0) (U:=x.aH[m].cs) (λJ v a8=>by rw [fk];exact rO (m:=x.aH[m]) (u:=Value.slice (some ⟨X,Y,none⟩) 1 ci) a8))) (af 3 1 j (be 4 j a7 j (aV 5 j (λw _=>gI (J:=0) j j (by decide)) (aV 6 j (λw⟨_,d⟩=>dc (U:=(dm g x.aH[m] x.am).cs) j j ((dm g x.aH[m] x.am).len (iY _ _ _)) (d4 _ (d.holds (G:=V) (by simp)))) (dy 7 j ?_))))))
     have d:C S P [R ax #[Z aO] 24,R t #[.pointer Q] 37,bj g aO c,R F cur 37,n,R B E 47,aY,bE,aZ,R gc D 73,O,bd,bA,ap,V,R ag (x.aH[m].cs++[Value.slice (some ⟨X,Y,none⟩) 1 ci]).toArray 114] _:=C.perm (A:=[R ax #[Z aO] 24,R t #[.pointer Q] 37,bj g aO c,R F cur 37,n,R B E 47,aY++(bE++aZ),R gc D 73,O,bd,bA,ap,V,R ag (x.aH[m].cs++[Value.slice (some ⟨X,Y,none⟩) 1 ci]).toArray 114]) d.as (by simp)
     have b1:=dV ac[J] (ek b6)
     refine cN j j j (AA (m:=x.aH[m]) (v:=(dm g x.aH[m] x.am)) cx (by have:=b1.cl;omega) (by have:=b1.acc;omega) (b1.len b7) (cT.st d cZ) b7 (d.ex cT cZ) (iY _ _ _) (d.ours (cI:=[bE]))) (λr w⟨b9,bc,dk,ak⟩=>?_)
     subst b9
     have d:=d.b4 ak
     have d:C S P [R ax #[Z aO] 24,R t #[.pointer Q] 37,bj g aO c,R F cur 37,n,R B E 47,aY,bc,aZ,R gc D 73,O,bd,bA,ap,V,R ag (x.aH[m].cs++[Value.slice (some ⟨X,Y,none⟩) 1 ci]).toArray 114] _:=d.as
     have d:C S P [R ax #[Z aO] 24,R t #[.pointer Q] 37,bj g aO c,R F cur 37,n,R B E 47,aY++(bc++aZ),R gc D 73,O,bd,bA,ap,V,R ag (x.aH[m].cs++[Value.slice (some ⟨X,Y,none⟩) 1 ci]).toArray 114] _:=d.perm (by simp)
     refine an (cX (bt 1 j j j (c2 J (by omega)) (bX 1 j ?_)))
     have aE:=dX (((λb:cM=>(b.di g x.aH[m] (dm g x.aH[m] x.am)).1)) ac[J]) bc ⟨bh,j,dk⟩
     rw [Ff b6] at aE
     exact⟨(J+1,aY++(bc++aZ)),⟨j,j,j,j,j,j,j,j,ba⟩,⟨cV,aE,d⟩,by dsimp only;omega⟩
    refine bt 2 j j j (c2 m (by omega)) (bX 1 j ?_)
    have dE:J=z.parts.length:=by have:=bw bL;omega
    rw [dE,<-dP,gy,List.drop_length,g6] at bi
    have d:C S P [R ax #[Z aO] 24,R t #[.pointer Q] 37,bj g aO c,R F cur 37,n,R B E 47,cu,R gc D 73,O,bd,bA,ap,V] _:=d.as
    refine⟨(m+1,pe g x ac x.aH[m],cu),⟨j,j,j,j,ba⟩,⟨a3,?_,bi,d⟩,by dsimp only;omega⟩
    dsimp only
    rw [fF a3,nC,<-a4]
    rfl
   refine bJ 1 j ?_
   have dG:m=x.aH.length:=by have:=bw bK;omega
   have d7:mr g z z.parts (pre++[(aF,Z aG)])=ac:=by
    rw [Gh,aQ]
    have e:aF.toNat=i:=by have em:aF=((0+i:Nat):Int):=dF;omega
    show j6 g aa ((z.bM[aF.toNat]?).getD none)=ac
    rw [e,bC,a4,dG,gy]
    rfl
   have d:C S P [R ax #[Z aO] 24,R t #[.pointer Q] 37,bj g aO c,R F cur 37,n,R B E 47,bg,R gc D 73,O,bd,bA] w:=d.as
   exact⟨_,d,Q,ac,bg,j,cR,d7,bW,by rw [ca,List.length_singleton];omega⟩
 rintro xs ef w ds ⟨aq,aa,ao,rfl,bu,aQ,bY,dM⟩ d
 subst ds
 obtain⟨eJ,eN,d5⟩:=ad.some_
 obtain⟨eK,eL,b8⟩:=yg aD 0 d5
 obtain⟨I,T,ed,dA,dZ,cL,cD⟩:=ye aD 0 b8
 obtain rfl:aq=some ⟨T,0,none⟩:=by
  rcases bu with⟨ai,_⟩|⟨q,r,aG,ai,aM,aP⟩
  .rw [b8] at ai;cases ai
  .rw [b8] at ai;cases ai;rw [dZ] at aM;cases aM;exact aP
 have dQ:aa=z.bM.foldl (j6 g) z.parts:=by
  rw [<-aQ]
  exact zt aD 0 z.parts (λi b3=>by rw [fk];exact ck b3)
 have dU:=(vw (g:=g) (z:=z) bb (fb 0 U) ad.jH).2
 have d:C o K (R ax #[Z aO] 24::[R t #[Z T] 37,bj g aO c,R F cur 37,n,R B E 47,ao,R gc D 73,O,bd,bA]) w:=d.as
 refine au 3 j (aw (C.aj (b:=ax) d) j) (au 2 j (aw (C.aj (b:=aO) d) (aL some cO)) ?_)
 refine cY 3 j (cA:=Nat×List (bI×Int)×List Chunk) (λk=>[(3,Z t),(50,.slice (some ⟨gc,0,none⟩) z.cJ.length dd),(51,.int .i64 (z.cJ.length:Nat)),(52,.int .i64 (k.1:Nat))])
  (λk w=>k.1<=z.cJ.length/\k.2.1=(List.range k.1).foldl (ks I) z.cJ/\dS lW bD k.2.1 k.2.2/\C o K [R t #[Z T] 37,bj g aO c,R F cur 37,n,R B E 47,ao,R gc D 73,k.2.2,bd,bA] w) (λk=>z.cJ.length-k.1) (0,z.cJ,O) ⟨j,j,j,j,ba⟩ ⟨ch _,j,cF,d.as⟩ ?_
 rintro⟨i,cs,bG⟩ w ⟨b3,a1,bZ,d⟩
 dsimp only at b3 a1 bZ d⊢
 have dz:cs.length=z.cJ.length:=by rw [a1];exact(vS (List.range i) ad.kk).2
 refine aT 4 j j (λbN=>?_) (λbN=>?_)
 .have b5:i<z.cJ.length:=by have:=br bN;omega
  have bv:i<cs.length:=by omega
  obtain⟨v9,H1,ct,ay,cm,rfl,cz,c1⟩:=bZ.at i bv
  obtain⟨l,bp⟩:∃l,cs[i]=l:=⟨_,j⟩
  rw [bp] at cz
  obtain⟨aK,az,GE,rfl,cC,rfl⟩:=cz
  have d:C o K [R t #[Z T] 37,bj g aO c,R F cur 37,n,R B E 47,ao,R gc D 73,H1,da aK az l.2,GE,ay,bd,bA] w:=C.perm (A:=[R t #[Z T] 37,bj g aO c,R F cur 37,n,R B E 47,ao,R gc D 73,H1++((da aK az l.2++GE)++ay),bd,bA]) d (by simp)
  refine ar 6 j (hG j j j j b5 ?_)
  refine au 0 j (dw _ (d.holds (G:=R gc D 73) (by simp)) i _ cm) ?_
  have d:C o K ([R t #[Z T] 37,da aK az l.2,n]++_) _:=d.front
  have d:=d.drew
  refine bz 3 j (λw=>∃ae,C o K ([R t #[Z T] 37,da aK az l.2,n]++ae) w) ⟨_,d⟩ (be 0 j a7 j (af 1 4 j (be 5 j a7 j (aJ 6 10 j j ?_ ?_))))
  refine bF j j j (wJ (c:=(i:Int)) (s:=l.2) cL (cD _ (d.holds (G:=n) (by simp)))) (λw ak=>?_)
  have d:=d.aN ak
  have d:C o K ([R t #[Z T] 37,da aK az l.2,n]++_) _:=d.front
  refine an ⟨⟨_,d⟩,?_⟩
  refine af 7 3 j (aW 10 j (en d j j (λaA w d=>?_)))
  have d:C o K (R aA #[ab 0,ab 0,ab 0] 116::_) w:=d
  have d:C o K ([R t #[Z T] 37,da aK az l.2,n]++_) _:=d.front
  refine an ⟨⟨_,d⟩,?_⟩
  rotate_left
  refine en d j j (λaA w d=>?_)
  have d:C o K (R aA #[ab 0,ab 0,ab 0] 116::_) w:=d
  have d:C o K ([R t #[Z T] 37,da aK az l.2,n]++_) _:=d.front
  refine an ⟨⟨_,d⟩,?_⟩
  refine aW 6 j (bF j j j (wJ (c:=(i:Int)) (s:=l.2) cL (cD _ (d.holds (G:=n) (by simp)))) (λw ak=>?_))
  have d:=d.aN ak
  have d:C o K ([R t #[Z T] 37,da aK az l.2,n]++_) _:=d.front
  refine an ⟨⟨_,d⟩,?_⟩
  refine af 7 3 j ?_
  rotate_left
  all_goals
   refine aW 11 j (c5 (d.bf aA) j j j j j bR (λw d=>?_))
   have d:=C.whole (U:=[ab (if 0<=(i:Int)/\(i:Int)<=15/\0<=l.2/\l.2<=1048576 then((a2 I.answers (fc (i:Int) l.2)).getD (0,0,0)) else(0,0,0)).1,ab (if 0<=(i:Int)/\(i:Int)<=15/\0<=l.2/\l.2<=1048576 then((a2 I.answers (fc (i:Int) l.2)).getD (0,0,0)) else(0,0,0)).2.1,ab (if 0<=(i:Int)/\(i:Int)<=15/\0<=l.2/\l.2<=1048576 then((a2 I.answers (fc (i:Int) l.2)).getD (0,0,0)) else(0,0,0)).2.2]) d j
   have d:C o K (R aA #[ab (if 0<=(i:Int)/\(i:Int)<=15/\0<=l.2/\l.2<=1048576 then((a2 I.answers (fc (i:Int) l.2)).getD (0,0,0)) else(0,0,0)).1,ab (if 0<=(i:Int)/\(i:Int)<=15/\0<=l.2/\l.2<=1048576 then((a2 I.answers (fc (i:Int) l.2)).getD (0,0,0)) else(0,0,0)).2.1,ab (if 0<=(i:Int)/\(i:Int)<=15/\0<=l.2/\l.2<=1048576 then((a2 I.answers (fc (i:Int) l.2)).getD (0,0,0)) else(0,0,0)).2.2] 116::_) w:=d
   have d:C o K ([R t #[Z T] 37,da aK az l.2,n]++_) _:=d.front
   refine an ⟨⟨_,d⟩,?_⟩
   refine af 12 1 j (bO (aT 3 j j (λbT=>?_) (λbT=>?_)))
   .have d:C o K ([R aA #[ab (if 0<=(i:Int)/\(i:Int)<=15/\0<=l.2/\l.2<=1048576 then((a2 I.answers (fc (i:Int) l.2)).getD (0,0,0)) else(0,0,0)).1,ab (if 0<=(i:Int)/\(i:Int)<=15/\0<=l.2/\l.2<=1048576 then((a2 I.answers (fc (i:Int) l.2)).getD (0,0,0)) else(0,0,0)).2.1,ab (if 0<=(i:Int)/\(i:Int)<=15/\0<=l.2/\l.2<=1048576 then((a2 I.answers (fc (i:Int) l.2)).getD (0,0,0)) else(0,0,0)).2.2] 116,da aK az l.2]++_) _:=d.front
    have d:=d.drew
    refine bz 0 j (λw=>∃ae,C o K ([R aA #[ab (if 0<=(i:Int)/\(i:Int)<=15/\0<=l.2/\l.2<=1048576 then((a2 I.answers (fc (i:Int) l.2)).getD (0,0,0)) else(0,0,0)).1,ab (if 0<=(i:Int)/\(i:Int)<=15/\0<=l.2/\l.2<=1048576 then((a2 I.answers (fc (i:Int) l.2)).getD (0,0,0)) else(0,0,0)).2.1,ab (if 0<=(i:Int)/\(i:Int)<=15/\0<=l.2/\l.2<=1048576 then((a2 I.answers (fc (i:Int) l.2)).getD (0,0,0)) else(0,0,0)).2.2] 116,da aK az l.2]++ae) w) ⟨_,d⟩ ?_
    refine af 0 3 j (be 3 j a7 j (af 4 3 j (be 7 j a7 j (aV 8 j (λw⟨_,d⟩=>dc (U:=[ab (if 0<=(i:Int)/\(i:Int)<=15/\0<=l.2/\l.2<=1048576 then((a2 I.answers (fc (i:Int) l.2)).getD (0,0,0)) else(0,0,0)).1,ab (if 0<=(i:Int)/\(i:Int)<=15/\0<=l.2/\l.2<=1048576 then((a2 I.answers (fc (i:Int) l.2)).getD (0,0,0)) else(0,0,0)).2.1,ab (if 0<=(i:Int)/\(i:Int)<=15/\0<=l.2/\l.2<=1048576 then((a2 I.answers (fc (i:Int) l.2)).getD (0,0,0)) else(0,0,0)).2.2]) j j j (bq (C.aj (b:=aA) d))) ?_))))
    refine dy 9 j (bF j j j (HX (s:=l.2) (a:=(if 0<=(i:Int)/\(i:Int)<=15/\0<=l.2/\l.2<=1048576 then((a2 I.answers (fc (i:Int) l.2)).getD (0,0,0)) else(0,0,0))) cC (d.ours (cI:=[GE]))) (λw⟨aU,dn,ak⟩=>?_))
    have d:=d.b4 ak
    refine an (cX (bt 1 j j j (c2 i (by omega)) (bX 1 j ?_)))
    have b0:I.answer (i:Int) l.2=some (if 0<=(i:Int)/\(i:Int)<=15/\0<=l.2/\l.2<=1048576 then((a2 I.answers (fc (i:Int) l.2)).getD (0,0,0)) else(0,0,0)):=by
     have W:(decide (0<=(i:Int)/\(i:Int)<=15/\0<=l.2/\l.2<=1048576)&&(a2 I.answers (fc (i:Int) l.2)).isSome)=true:=bT
     simp only [d8,gL] at W
     unfold bo.answer
     rw [a6 W.1,a6 W.1]
     obtain⟨a9,dv⟩:=g4.1 W.2
     rw [dv]
     rfl
    have bn:cs[i]? =some l:=by rw [ck bv,bp]
    have cg:ks I cs i=cs.set i ((l.1.told l.2 (if 0<=(i:Int)/\(i:Int)<=15/\0<=l.2/\l.2<=1048576 then((a2 I.answers (fc (i:Int) l.2)).getD (0,0,0)) else(0,0,0))).1,l.2):=by
     unfold ks
     rw [bn]
     dsimp only
     rw [b0]
    have aE:=c1 ((l.1.told l.2 (if 0<=(i:Int)/\(i:Int)<=15/\0<=l.2/\l.2<=1048576 then((a2 I.answers (fc (i:Int) l.2)).getD (0,0,0)) else(0,0,0))).1,l.2) (da aK az l.2++aU) ⟨aK,az,aU,j,dn,j⟩
    have d:C o K [R t #[Z T] 37,bj g aO c,R F cur 37,n,R B E 47,ao,R gc D 73,H1,da aK az l.2,aU,ay,bd,bA] _:=d.as
    refine⟨(i+1,cs.set i ((l.1.told l.2 (if 0<=(i:Int)/\(i:Int)<=15/\0<=l.2/\l.2<=1048576 then((a2 I.answers (fc (i:Int) l.2)).getD (0,0,0)) else(0,0,0))).1,l.2),H1++((da aK az l.2++aU)++ay)),⟨j,j,j,j,ba⟩,⟨b5,?_,aE,C.perm (A:=[R t #[Z T] 37,bj g aO c,R F cur 37,n,R B E 47,ao,R gc D 73,H1,da aK az l.2,aU,ay,bd,bA]) d (by simp)⟩,by dsimp only;omega⟩
    dsimp only
    rw [nz,nC,<-a1]
    exact cg.symm
   refine bt 2 j j j (c2 i (by omega)) (bX 1 j ?_)
   have b0:I.answer (i:Int) l.2=none:=by
    have W:(decide (0<=(i:Int)/\(i:Int)<=15/\0<=l.2/\l.2<=1048576)&&(a2 I.answers (fc (i:Int) l.2)).isSome)=false:=bT
    unfold bo.answer
    split
    .rename_i dh
     rw [jb dh,Bool.true_and] at W
     cases dY:a2 I.answers (fc (i:Int) l.2) with
     |none=>rfl
     |some _=>rw [dY] at W;cases W
    .rfl
   have bn:cs[i]? =some l:=by rw [ck bv,bp]
   have cg:ks I cs i=cs:=by
    unfold ks
    rw [bn]
    dsimp only
    rw [b0]
   have aE:=c1 l (da aK az l.2++GE) ⟨aK,az,GE,j,cC,j⟩
   have d1:cs.set i l=cs:=by rw [<-bp];exact List.set_getElem_self bv
   rw [d1] at aE
   have d:C o K [R t #[Z T] 37,bj g aO c,R F cur 37,n,R B E 47,ao,R gc D 73,H1,da aK az l.2,GE,ay,bd,bA] _:=d.as
   refine⟨(i+1,cs,H1++((da aK az l.2++GE)++ay)),⟨j,j,j,j,ba⟩,⟨b5,?_,aE,C.perm (A:=[R t #[Z T] 37,bj g aO c,R F cur 37,n,R B E 47,ao,R gc D 73,H1,da aK az l.2,GE,ay,bd,bA]) d (by simp)⟩,by dsimp only;omega⟩
   dsimp only
   rw [nz,nC,<-a1]
   exact cg.symm
 refine bJ 4 j ⟨ab 0,λw d2=>?_⟩
 have d:=d2.st d (cB _)
 refine⟨λa du=>i4 (fn:=f21) du j _ _,?_⟩
 have bx:i=z.cJ.length:=by have:=bw bN;omega
 have d9:z.polls g={z with parts:=aa,cJ:=cs}:=by
  unfold aX.polls
  rw [dA,<-dQ,a1,bx]
 rw [d9]
 have d:C o K [bj g aO c,R F cur 37,n,R B E 47,ao,R gc D 73,bG,bd,bA] w:=d.as
 refine⟨j,_,⟨c,R F cur 37++n,R B E 47++ao,R gc D 73++bG,bd,bA,⟨⟨_,_,U,j,by rw [bs,<-c7];exact a5,aD⟩,⟨_,_,aR,j,by show Row 47 1 c.parts aa.length aR _;rw [<-aQ,dU];exact cf,bY⟩,⟨_,_,bD,j,by show Row 73 1 c.cJ cs.length bD _;rw [dz];exact ce,bZ⟩,aC.bB,aC.heard⟩,j⟩,C.perm (A:=[bj g aO c,R F cur 37,n,R B E 47,ao,R gc D 73,bG,bd,bA]) d (by simp)⟩
section
variable {P:Program} {n:Fr} {aa:Env} {w:World} {Q:d5} {ops:Array Oper} {rest:List Oper} {dst:Option Nat} {ty:TypeId} {pos:String} {after:Array Edge} {g:Option (Nat×Bool)}
theorem tg{s t:TypeId}{d:TypeDesc}{x:Operand}{k:IntKind}{i:Int}[aM:bC P s d][e:bC P t .string](f:bs aa x=some (.int k i)){J:ByteArray}(c:Utf8.encode i=J):
 ∀a,cG aa n.n a->(execOp a.eval ⟨dst,.convert s t x,ty,pos,after,g⟩).run P w= .ok (.value (.string J)) w:=
 λa b=>by
  subst c
  simp [execOp,b.eval f,convert,d6 aM.h,d6 e.h,Conv.intToString]
end
def km(i:Nat):List UInt8:=[UInt8.ofNat (97+i)]
def hC(m i:Nat):List (Option bo):=(List.range i).map (λJ:Nat=>some (bo.new (J:Int)))++List.replicate (m-i) none
theorem li{m i:Nat}(h:i<=m):(hC m i).length=m:=by simp [hC];omega
theorem vE{m i:Nat}(h:i<m):(hC m i).set i (some (bo.new (i:Int)))=hC m (i+1):=by
 have a:((List.range i).map (λJ:Nat=>some (bo.new (J:Int)))).length=i:=by simp
 unfold hC
 rw [tE _ _ (by omega),a,Nat.sub_self,show m-i=(m-(i+1))+1 by omega,tx,rl,nz,jP,List.append_assoc]
 rfl
def i2(i:Nat):List cM:=List.replicate i cM.new
def kj(i:Nat):List (bI×Int):=(List.range i).map λJ:Nat=>(bI.new (J:Int) (km J),-1)
def aX.new(n k:Nat):aX:={bM:=hC n (n-k),parts:=i2 4,cJ:=kj 3,bB:=[],lost:=0,heard:=[]}
section
variable {α:Type} {V:Value->α->List Chunk->Prop}
theorem dS.rep{v:Value}{x:α}(h:V v x []):∀m:Nat,dS V (List.replicate m v) (List.replicate m x) []
 |0=>rfl
 |m+1=>⟨[],[],j,h,dS.rep h m⟩
theorem dS.put:∀{U:List Value}{xs:List α}{G:List Chunk},dS V U xs G->∀(i:Nat)(b:i<xs.length),∃ah d aA,G=ah++(d++aA)/\V (U[i]?.getD (.pointer none)) xs[i] d/\∀v eO a,V v eO a->dS V (U.set i v) (xs.set i eO) (ah++(a++aA))
 |[],[],_,_=>λi b=>absurd b (by simp)
 |[],_::_,_,h=>h.elim
 |_::_,[],_,h=>h.elim
 |v::U,x::xs,_,⟨ah,aA,rfl,f,h⟩=>λi b=>by
  cases i with
  |zero=>exact⟨[],ah,aA,j,f,λg eO a c=>⟨a,aA,j,c,h⟩⟩
  |succ i=>
   obtain⟨H1,k,e,rfl,l,m⟩:=h.put i (by simpa using b)
   exact⟨ah++H1,k,e,by simp,l,λg eO a c=>⟨ah,H1++(a++e),by simp,f,m g eO a c⟩⟩
end
theorem FE{o:World}{aR k:Nat}(aP:aR=4\/aR=7)(ad:k<=hy aR):Calls prog 12 #[.int .i64 (aR:Nat),.int .i64 (k:Nat)] o (aS λr w=>∃(aO:Nat)(g:al)(G:List Chunk),r= .tuple #[Z aO,ab 0]/\g.ok/\g.keys=qF aR (bL [1])/\eU g aO (aX.new aR k) G/\C o [] [dC g,G] w):=by
 have a:Own [] o:=C.start o
 have bu:k<=aR:=ed ad (by rcases aP with rfl|rfl<;>decide)
 have bv:4<=aR/\aR<=7:=by omega
 refine a1 [.int .i64 (aR:Nat),.int .i64 (k:Nat)] func12 ntmps12 results12 (nb 4 j (λaa w=>sub aa [(0,.int .i64 (aR:Nat)),(1,.int .i64 (k:Nat))]/\C o [] [] w) ?_ ?_)
 .refine ar 5 j (c7 11 j (λbk=>?_) (λbk=>?_))
  refine ar 4 j (b2 15 (.bool false) j (aL Value.bool ((by rcases aP with rfl|rfl<;>first|rfl|exact absurd bk (by decide)))) ?_)
  rotate_left
  refine ar 4 j (b2 15 (.bool false) j (aL Value.bool (j)) ?_)
  rotate_left
  all_goals
   refine ar 4 j (b2 19 (.bool false) j (aL Value.bool ((ff (by omega)))) ?_)
   refine bp 2 (xL (n:=aR) (by omega)) j (λbs hw=>?_)
   subst bs
   refine iW 2 j j ((ff (by omega))) (bX 1 j ?_)
   exact⟨⟨j,j,ba⟩,a⟩
 rintro aa w ⟨aM,a⟩
 refine mJ [(0,.int .i64 (aR:Nat)),(1,.int .i64 (k:Nat))] aM ?_
 have a:=a.drew
 refine bz 1 j (λw=>True) ba (af 0 1 j (af 4 1 j (aJ 1 5 j j ?_ ?_)))
 .refine fe a j j j j j j bR (λaF w a=>?_)
  have aG:=a.bN
  refine an ⟨ba,?_⟩
  refine aJ 2 5 j j ?_ ?_
  have aG:Rd _ (some ⟨aF,0,none⟩) (aE [1]):=bq (C.aj (b:=aF) a)
  refine bF j j j (pb (p:=[1]) aG (by decide) (by decide)) (λw t=>?_)
  have a:=a.aN t
  refine an ⟨ba,?_⟩
  refine aJ 3 5 j j ?_ ?_
  .refine cN j j j (vh (n:=aR) (eY:=bL [1]) (by omega) (e4 _)) (λr w⟨g,I,a8,a6,t⟩=>?_)
   subst I
   have a:=a.aN t
   refine an ⟨ba,?_⟩
   refine aJ 5 6 j j ?_ ?_
   refine n8 (l:=aR) (c:=aR) a j j j j (by omega) (by omega) (by unfold maxLen;omega) (λd bH w bi Q a=>an ⟨ba,?_⟩)
   refine aW 6 j (cN j j j si (λr w⟨bd,av,t⟩=>?_))
   obtain⟨q,aH⟩:∃q,r=Z q:=by obtain⟨b,v,H,h,_⟩:=av;exact⟨b,h⟩
   subst aH
   have a:=a.aN t
   rotate_left
   refine cN j j j si (λr w⟨bd,av,t⟩=>?_)
   obtain⟨q,aH⟩:∃q,r=Z q:=by obtain⟨b,v,H,h,_⟩:=av;exact⟨b,h⟩
   subst aH
   have a:=a.aN t
   refine an ⟨ba,?_⟩
   refine aW 5 j (n8 (l:=aR) (c:=aR) a j j j j (by omega) (by omega) (by unfold maxLen;omega) (λd bH w bi Q a=>?_))
   rotate_left
   all_goals
    refine an ⟨ba,?_⟩
    refine aV 7 j (λw _=>e0 (c:=(lU g (⟨.slice (some ⟨d,0,none⟩) aR aR,.slice none 0 0,.slice none 0 0,Z q,.slice none 0 0⟩:cg)).toArray) j (λ_=>by kernel_rfl)) (aW 8 j (lp a j j j (λf w a=>?_)))
    have a:C o [] (bj g f (⟨.slice (some ⟨d,0,none⟩) aR aR,.slice none 0 0,.slice none 0 0,Z q,.slice none 0 0⟩:cg)::_) w:=a
    have Q:bH=(List.replicate aR (Value.pointer none)).toArray:=Q.trans (by rcases aP with rfl|rfl<;>kernel_rfl)
    subst Q
    have a:C o [] [bj g f (⟨.slice (some ⟨d,0,none⟩) aR aR,.slice none 0 0,.slice none 0 0,Z q,.slice none 0 0⟩:cg),R d (List.replicate aR (Value.pointer none)).toArray 37,bd,dC g] w:=a.as
    refine an ⟨ba,?_⟩
    refine af 9 1 j (bO (bt 5 j j j (hv aR k (by omega) (by omega)) ?_))
    refine cY 2 j (cA:=Nat×List Value×List Chunk) (λe=>[(6,Z f),(36,.int .i64 (aR-k:Nat)),(37,.int .i64 (e.1:Nat))])
     (λe w=>e.1<=aR-k/\e.2.1.length=aR/\dS (hY g) e.2.1 (hC aR e.1) e.2.2/\C o [] [bj g f (⟨.slice (some ⟨d,0,none⟩) aR aR,.slice none 0 0,.slice none 0 0,Z q,.slice none 0 0⟩:cg),R d e.2.1.toArray 37,e.2.2,bd,dC g] w) (λe=>aR-k-e.1) (0,List.replicate aR (.pointer none),[]) ⟨j,j,j,ba⟩ ⟨ch _,ot,dS.rep (V:=hY g) (x:=none) ⟨j,j⟩ aR,C.perm (A:=[bj g f (⟨.slice (some ⟨d,0,none⟩) aR aR,.slice none 0 0,.slice none 0 0,Z q,.slice none 0 0⟩:cg),R d (List.replicate aR (Value.pointer none)).toArray 37,bd,dC g]) a (by simp)⟩ ?_
    rintro⟨i,U,y⟩ w ⟨M,aq,ag,a⟩
    dsimp only at M aq ag a⊢
    refine aT 4 j j (λW=>?_) (λW=>?_)
    .have a:C o [] ([bj g f (⟨.slice (some ⟨d,0,none⟩) aR aR,.slice none 0 0,.slice none 0 0,Z q,.slice none 0 0⟩:cg)]++_) w:=a.front
     have a:=a.drew
     have bn:i<aR-k:=by have:=br W;omega
     obtain⟨H1,aI,S,a2,aD,bc⟩:=ag.put i (by rw [li (by omega)];omega)
     refine bz 7 j (λw=>∃ae,C o [] ([bj g f (⟨.slice (some ⟨d,0,none⟩) aR aR,.slice none 0 0,.slice none 0 0,Z q,.slice none 0 0⟩:cg)]++ae) w) ⟨_,a⟩ (af 0 3 j (be 3 j a7 j (af 4 4 j (be 8 j a7 j (af 9 1 j (aW 10 j (cN j j j (vi (g:=g) (am:=(i:Int))) (λr w⟨K,O,I,a5,t⟩=>?_))))))))
     subst I
     have a:=a.aN t
     have a:C o [] ([bj g f (⟨.slice (some ⟨d,0,none⟩) aR aR,.slice none 0 0,.slice none 0 0,Z q,.slice none 0 0⟩:cg)]++_) w:=a.front
     refine an ⟨⟨_,a⟩,?_⟩
     refine aV 11 j (λw _=>gI (J:=i) j j (by omega)) (dy 12 j (cC (a.bf d) j j j j (by rw [hq];omega) (λw a=>?_)))
     have a:C o [] (R d (U.toArray.setIfInBounds (0+i*1) (Z K)) 37::_) w:=a
     rw [tG,fk,gT] at a
     refine an (cX (bt 1 j j j (c2 i (by omega)) (bX 1 j ?_)))
     have D:=bc (Z K) (some (bo.new (i:Int))) O ⟨K,j,a5⟩
     rw [vE (by omega)] at D
     have a3:aI=[]:=by
      have aY:(hC aR i)[i]'(by rw [li (by omega)];omega)=none:=by
       unfold hC
       rw [tH (by simp)]
       simp
      rw [aY] at aD
      exact aD.2
     subst a2
     subst a3
     have a:C o [] [bj g f (⟨.slice (some ⟨d,0,none⟩) aR aR,.slice none 0 0,.slice none 0 0,Z q,.slice none 0 0⟩:cg),R d (U.set i (Z K)).toArray 37,H1,S,O,bd,dC g] w:=C.perm (A:=[bj g f (⟨.slice (some ⟨d,0,none⟩) aR aR,.slice none 0 0,.slice none 0 0,Z q,.slice none 0 0⟩:cg),R d (U.set i (Z K)).toArray 37,H1++([]++S),O,bd,dC g]) a.as (by simp)
     have a:C o [] [bj g f (⟨.slice (some ⟨d,0,none⟩) aR aR,.slice none 0 0,.slice none 0 0,Z q,.slice none 0 0⟩:cg),R d (U.set i (Z K)).toArray 37,H1,O,S,bd,dC g] w:=a.as
     exact⟨(i+1,_,_),⟨j,j,j,ba⟩,⟨by dsimp only;omega,by dsimp only;rw [hp];exact aq,D,a.perm (by simp)⟩,by dsimp only;omega⟩
    have N:i=aR-k:=by have:=bw W;omega
    subst N
    refine cY 6 j (cA:=Nat×Value×List Value×List Chunk×List Chunk) (λe=>[(6,Z f),(53,.int .i64 (e.1:Nat))])
     (λe w=>e.1<=4/\Row 47 1 e.2.1 e.1 e.2.2.1 e.2.2.2.1/\dS (jq g) e.2.2.1 (i2 e.1) e.2.2.2.2/\C o [] [bj g f (⟨.slice (some ⟨d,0,none⟩) aR aR,e.2.1,.slice none 0 0,Z q,.slice none 0 0⟩:cg),R d U.toArray 37,y,e.2.2.2.1,e.2.2.2.2,bd,dC g] w) (λe=>4-e.1) (0,.slice none 0 0,[],[],[]) ⟨j,j,ba⟩ ⟨ch _,Row.nil _ _,j,a.perm (by simp)⟩ ?_
    rintro⟨i,s,us,E,B⟩ w ⟨M,ap,ai,a⟩
    dsimp only at M ap ai a⊢
    refine aT 4 j j (λX=>?_) (λX=>?_)
    .have a:C o [] ([bj g f (⟨.slice (some ⟨d,0,none⟩) aR aR,s,.slice none 0 0,Z q,.slice none 0 0⟩:cg)]++_) w:=a.front
     have a:=a.drew
     have bm:i<4:=by have:=br X;omega
     refine bz 3 j (λw=>∃ae,C o [] ([bj g f (⟨.slice (some ⟨d,0,none⟩) aR aR,s,.slice none 0 0,Z q,.slice none 0 0⟩:cg)]++ae) w) ⟨_,a⟩ (af 0 4 j (be 4 j a7 j (af 5 3 j (be 8 j a7 j (aW 9 j (cN j j j (ve (g:=g)) (λr w⟨bh,aw,I,aZ,t⟩=>?_)))))))
     subst I
     have a:=a.aN t
     have a:C o [] ([bj g f (⟨.slice (some ⟨d,0,none⟩) aR aR,s,.slice none 0 0,Z q,.slice none 0 0⟩:cg)]++_) w:=a.front
     refine an ⟨⟨_,a⟩,?_⟩
     refine aW 10 j (fe a j j j j j j bR (λay w a=>?_))
     have a9:Rd _ (some ⟨ay,0,none⟩) [Value.pointer (some ⟨bh,0,none⟩)]:=bq (C.aj (b:=ay) a)
     have a:C o [] ([bj g f (⟨.slice (some ⟨d,0,none⟩) aR aR,s,.slice none 0 0,Z q,.slice none 0 0⟩:cg)]++_) w:=a.front
     refine an ⟨⟨_,a⟩,?_⟩
     refine aW 11 j ?_
     have a:C o [] [E,bj g f (⟨.slice (some ⟨d,0,none⟩) aR aR,s,.slice none 0 0,Z q,.slice none 0 0⟩:cg),R d U.toArray 37,y,B,aw,bd,dC g] _:=a.as
     refine eK a ap j j (by decide) j j j (news:=[Value.pointer (some ⟨bh,0,none⟩)]) (m:=1) j a9 (λu hu=>by rw [List.mem_singleton.1 hu];rfl) (by omega) (by unfold maxLen;omega) (λau ax w aC a=>?_)
     have a:C o [] ([bj g f (⟨.slice (some ⟨d,0,none⟩) aR aR,s,.slice none 0 0,Z q,.slice none 0 0⟩:cg)]++_) w:=a.front
     refine an ⟨⟨_,a⟩,?_⟩
     refine af 12 2 j (dy 14 j (cC (a.bf f) j j j aC.one bR (λw a=>?_)))
     have a:C o [] (bj g f (⟨.slice (some ⟨d,0,none⟩) aR aR,au,.slice none 0 0,Z q,.slice none 0 0⟩:cg)::_) w:=a
     refine an (cX (bt 1 j j j (c2 i (by omega)) (bX 1 j ?_)))
     have D:=ai.app (dS.one (V:=jq g) (x:=cM.new) ⟨bh,j,aZ⟩)
     have ac:i2 i++[cM.new]=i2 (i+1):=by unfold i2;rw [List.replicate_succ']
     rw [ac] at D
     have a:C o [] [bj g f (⟨.slice (some ⟨d,0,none⟩) aR aR,au,.slice none 0 0,Z q,.slice none 0 0⟩:cg),R d U.toArray 37,y,ax,B,aw,bd,dC g] w:=a.as
     exact⟨(i+1,au,_,ax,_),⟨j,j,ba⟩,⟨by dsimp only;omega,aC,D,a.perm (by simp)⟩,by dsimp only;omega⟩
    have N:i=4:=by have:=bw X;omega
    subst N
    refine cY 6 j (cA:=Nat×Value×List Value×List Chunk×List Chunk) (λe=>[(6,Z f),(70,.int .i64 (e.1:Nat))])
     (λe w=>e.1<=3/\Row 73 1 e.2.1 e.1 e.2.2.1 e.2.2.2.1/\dS lW e.2.2.1 (kj e.1) e.2.2.2.2/\C o [] [bj g f (⟨.slice (some ⟨d,0,none⟩) aR aR,s,e.2.1,Z q,.slice none 0 0⟩:cg),R d U.toArray 37,y,E,B,e.2.2.2.1,e.2.2.2.2,bd,dC g] w) (λe=>3-e.1) (0,.slice none 0 0,[],[],[]) ⟨j,j,ba⟩ ⟨ch _,Row.nil _ _,j,a.perm (by simp)⟩ ?_
    rintro⟨i,z,bg,eT,L⟩ w ⟨M,ak,ah,a⟩
    dsimp only at M ak ah a⊢
    refine aT 4 j j (λY=>?_) (λY=>?_)
    .have a:C o [] ([bj g f (⟨.slice (some ⟨d,0,none⟩) aR aR,s,z,Z q,.slice none 0 0⟩:cg)]++_) w:=a.front
     have a:=a.drew
     have bl:i<3:=by have:=br Y;omega
     have aQ:evalBin .add .i64 97 (i:Int)=some (.int .i64 ((97+i:Nat):Int)):=by rcases(show i=0\/i=1\/i=2 by omega) with rfl|rfl|rfl<;>rfl
     have aK:IntKind.i32.wrap ((97+i:Nat):Int)=((97+i:Nat):Int):=by rcases(show i=0\/i=1\/i=2 by omega) with rfl|rfl|rfl<;>rfl
     have aU:Utf8.encode ((97+i:Nat):Int)=strOf (km i):=by rcases(show i=0\/i=1\/i=2 by omega) with rfl|rfl|rfl<;>rfl
     refine bz 7 j (λw=>∃ae,C o [] ([bj g f (⟨.slice (some ⟨d,0,none⟩) aR aR,s,z,Z q,.slice none 0 0⟩:cg)]++ae) w) ⟨_,a⟩ (af 0 4 j (be 4 j a7 j (af 5 2 j (aV 7 j (λw _=>dr j j aQ) (aV 8 j (λw _=>ku j aK) (aV 9 j (λw _=>tg j aU) (aW 10 j (cN j j j (vf (n:=(i:Int)) (x:=km i)) (λr w⟨az,GE,I,a0,t⟩=>?_)))))))))
     subst I
     have a:=a.aN t
     have a:C o [] ([bj g f (⟨.slice (some ⟨d,0,none⟩) aR aR,s,z,Z q,.slice none 0 0⟩:cg)]++_) w:=a.front
     refine an ⟨⟨_,a⟩,?_⟩
     refine aV 11 j (λw _=>e0 (c:= #[Z az,ab (-1)]) j (λ_=>by kernel_rfl)) (aW 12 j (lp a j j j (λF w a=>?_)))
     have a:C o [] (da F az (-1)::_) w:=a
     have a:C o [] ([bj g f (⟨.slice (some ⟨d,0,none⟩) aR aR,s,z,Z q,.slice none 0 0⟩:cg)]++_) w:=a.front
     refine an ⟨⟨_,a⟩,?_⟩
     refine aW 13 j (fe a j j j j j j bR (λaA w a=>?_))
     have bb:Rd _ (some ⟨aA,0,none⟩) [Value.pointer (some ⟨F,0,none⟩)]:=bq (C.aj (b:=aA) a)
     have a:C o [] ([bj g f (⟨.slice (some ⟨d,0,none⟩) aR aR,s,z,Z q,.slice none 0 0⟩:cg)]++_) w:=a.front
     refine an ⟨⟨_,a⟩,?_⟩
     refine aW 14 j ?_
     have a:C o [] [eT,bj g f (⟨.slice (some ⟨d,0,none⟩) aR aR,s,z,Z q,.slice none 0 0⟩:cg),R d U.toArray 37,y,E,B,L,da F az (-1),GE,bd,dC g] _:=a.as
     refine eK a ak j j (by decide) j j j (news:=[Value.pointer (some ⟨F,0,none⟩)]) (m:=1) j bb (λu hu=>by rw [List.mem_singleton.1 hu];rfl) (by omega) (by unfold maxLen;omega) (λP T w aB a=>?_)
     have a:C o [] ([bj g f (⟨.slice (some ⟨d,0,none⟩) aR aR,s,z,Z q,.slice none 0 0⟩:cg)]++_) w:=a.front
     refine an ⟨⟨_,a⟩,?_⟩
     refine af 15 2 j (dy 17 j (cC (a.bf f) j j j aB.one bR (λw a=>?_)))
     have a:C o [] (bj g f (⟨.slice (some ⟨d,0,none⟩) aR aR,s,P,Z q,.slice none 0 0⟩:cg)::_) w:=a
     refine an (cX (bt 1 j j j (c2 i (by omega)) (bX 1 j ?_)))
     have D:=ah.app (dS.one (V:=lW) (x:=(bI.new (i:Int) (km i),(-1:Int))) ⟨F,az,GE,j,a0,j⟩)
     have ac:kj i++[(bI.new (i:Int) (km i),(-1:Int))]=kj (i+1):=by unfold kj;rw [List.range_succ,List.map_append];rfl
     rw [ac] at D
     have a:C o [] [bj g f (⟨.slice (some ⟨d,0,none⟩) aR aR,s,P,Z q,.slice none 0 0⟩:cg),R d U.toArray 37,y,E,B,T,L,da F az (-1),GE,bd,dC g] w:=a.as
     exact⟨(i+1,P,_,T,_),⟨j,j,ba⟩,⟨by dsimp only;omega,aB,D,C.perm (A:=[bj g f (⟨.slice (some ⟨d,0,none⟩) aR aR,s,P,Z q,.slice none 0 0⟩:cg),R d U.toArray 37,y,E,B,T,L,da F az (-1),GE,bd,dC g]) a (by simp)⟩,by dsimp only;omega⟩
    refine ao 6 j j ?_
    have N:i=3:=by have:=bw Y;omega
    subst N
    have a4:Row 37 1 (.slice (some ⟨d,0,none⟩) aR aR) aR U (R d U.toArray 37):=Row.full (by unfold maxLen;omega) (by rw [List.size_toArray,aq,Nat.mul_one])
    exact⟨f,g,_,j,a8,a6,⟨(⟨.slice (some ⟨d,0,none⟩) aR aR,s,z,Z q,.slice none 0 0⟩:cg),R d U.toArray 37++y,E++B,eT++L,bd,[],⟨⟨_,_,U,j,by show Row 37 1 _ (hC aR (aR-k)).length U _;rw [li (by omega)];exact a4,ag⟩,⟨_,_,us,j,ap,ai⟩,⟨_,_,bg,j,ak,ah⟩,av,cz.nil⟩,j⟩,C.perm (A:=[dC g,bj g f (⟨.slice (some ⟨d,0,none⟩) aR aR,s,z,Z q,.slice none 0 0⟩:cg),R d U.toArray 37,y,E,B,eT,L,bd]) a.as (by simp)⟩
  refine n8 (l:=aR) (c:=aR) a j j j j (by omega) (by omega) (by unfold maxLen;omega) (λd bH w bi Q a=>?_)
  rotate_left
  refine n8 (l:=aR) (c:=aR) a j j j j (by omega) (by omega) (by unfold maxLen;omega) (λd bH w bi Q a=>an ⟨ba,?_⟩)
  refine aW 2 j ?_
  have aG:Rd _ (some ⟨aF,0,none⟩) (aE [1]):=bq (C.aj (b:=aF) a)
  refine bF j j j (pb (p:=[1]) aG (by decide) (by decide)) (λw t=>?_)
  have a:=a.aN t
  rotate_left
  all_goals
   refine an ⟨ba,?_⟩
   refine aW 3 j (cN j j j (vh (n:=aR) (eY:=bL [1]) (by omega) (e4 _)) (λr w⟨g,I,a8,a6,t⟩=>?_))
   subst I
   have a:=a.aN t
   refine an ⟨ba,?_⟩
   refine aW 6 j (cN j j j si (λr w⟨bd,av,t⟩=>?_))
   obtain⟨q,aH⟩:∃q,r=Z q:=by obtain⟨b,v,H,h,_⟩:=av;exact⟨b,h⟩
   subst aH
   have a:=a.aN t
   refine an ⟨ba,?_⟩
   refine aV 7 j (λw _=>e0 (c:=(lU g (⟨.slice (some ⟨d,0,none⟩) aR aR,.slice none 0 0,.slice none 0 0,Z q,.slice none 0 0⟩:cg)).toArray) j (λ_=>by kernel_rfl)) (aW 8 j (lp a j j j (λf w a=>?_)))
   have a:C o [] (bj g f (⟨.slice (some ⟨d,0,none⟩) aR aR,.slice none 0 0,.slice none 0 0,Z q,.slice none 0 0⟩:cg)::_) w:=a
   have Q:bH=(List.replicate aR (Value.pointer none)).toArray:=Q.trans (by rcases aP with rfl|rfl<;>kernel_rfl)
   subst Q
   have a:C o [] [bj g f (⟨.slice (some ⟨d,0,none⟩) aR aR,.slice none 0 0,.slice none 0 0,Z q,.slice none 0 0⟩:cg),R d (List.replicate aR (Value.pointer none)).toArray 37,bd,dC g] w:=a.as
   refine an ⟨ba,?_⟩
   refine af 9 1 j (bO (bt 5 j j j (hv aR k (by omega) (by omega)) ?_))
   refine cY 2 j (cA:=Nat×List Value×List Chunk) (λe=>[(6,Z f),(36,.int .i64 (aR-k:Nat)),(37,.int .i64 (e.1:Nat))])
    (λe w=>e.1<=aR-k/\e.2.1.length=aR/\dS (hY g) e.2.1 (hC aR e.1) e.2.2/\C o [] [bj g f (⟨.slice (some ⟨d,0,none⟩) aR aR,.slice none 0 0,.slice none 0 0,Z q,.slice none 0 0⟩:cg),R d e.2.1.toArray 37,e.2.2,bd,dC g] w) (λe=>aR-k-e.1) (0,List.replicate aR (.pointer none),[]) ⟨j,j,j,ba⟩ ⟨ch _,ot,dS.rep (V:=hY g) (x:=none) ⟨j,j⟩ aR,C.perm (A:=[bj g f (⟨.slice (some ⟨d,0,none⟩) aR aR,.slice none 0 0,.slice none 0 0,Z q,.slice none 0 0⟩:cg),R d (List.replicate aR (Value.pointer none)).toArray 37,bd,dC g]) a (by simp)⟩ ?_
   rintro⟨i,U,y⟩ w ⟨M,aq,ag,a⟩
   dsimp only at M aq ag a⊢
   refine aT 4 j j (λW=>?_) (λW=>?_)
   .have a:C o [] ([bj g f (⟨.slice (some ⟨d,0,none⟩) aR aR,.slice none 0 0,.slice none 0 0,Z q,.slice none 0 0⟩:cg)]++_) w:=a.front
    have a:=a.drew
    have bn:i<aR-k:=by have:=br W;omega
    obtain⟨H1,aI,S,a2,aD,bc⟩:=ag.put i (by rw [li (by omega)];omega)
    refine bz 7 j (λw=>∃ae,C o [] ([bj g f (⟨.slice (some ⟨d,0,none⟩) aR aR,.slice none 0 0,.slice none 0 0,Z q,.slice none 0 0⟩:cg)]++ae) w) ⟨_,a⟩ (af 0 3 j (be 3 j a7 j (af 4 4 j (be 8 j a7 j (af 9 1 j (aW 10 j (cN j j j (vi (g:=g) (am:=(i:Int))) (λr w⟨K,O,I,a5,t⟩=>?_))))))))
    subst I
    have a:=a.aN t
    have a:C o [] ([bj g f (⟨.slice (some ⟨d,0,none⟩) aR aR,.slice none 0 0,.slice none 0 0,Z q,.slice none 0 0⟩:cg)]++_) w:=a.front
    refine an ⟨⟨_,a⟩,?_⟩
    refine aV 11 j (λw _=>gI (J:=i) j j (by omega)) (dy 12 j (cC (a.bf d) j j j j (by rw [hq];omega) (λw a=>?_)))
    have a:C o [] (R d (U.toArray.setIfInBounds (0+i*1) (Z K)) 37::_) w:=a
    rw [tG,fk,gT] at a
    refine an (cX (bt 1 j j j (c2 i (by omega)) (bX 1 j ?_)))
    have D:=bc (Z K) (some (bo.new (i:Int))) O ⟨K,j,a5⟩
    rw [vE (by omega)] at D
    have a3:aI=[]:=by
     have aY:(hC aR i)[i]'(by rw [li (by omega)];omega)=none:=by
      unfold hC
      rw [tH (by simp)]
      simp
     rw [aY] at aD
     exact aD.2
    subst a2
    subst a3
    have a:C o [] [bj g f (⟨.slice (some ⟨d,0,none⟩) aR aR,.slice none 0 0,.slice none 0 0,Z q,.slice none 0 0⟩:cg),R d (U.set i (Z K)).toArray 37,H1,S,O,bd,dC g] w:=C.perm (A:=[bj g f (⟨.slice (some ⟨d,0,none⟩) aR aR,.slice none 0 0,.slice none 0 0,Z q,.slice none 0 0⟩:cg),R d (U.set i (Z K)).toArray 37,H1++([]++S),O,bd,dC g]) a.as (by simp)
    have a:C o [] [bj g f (⟨.slice (some ⟨d,0,none⟩) aR aR,.slice none 0 0,.slice none 0 0,Z q,.slice none 0 0⟩:cg),R d (U.set i (Z K)).toArray 37,H1,O,S,bd,dC g] w:=a.as
    exact⟨(i+1,_,_),⟨j,j,j,ba⟩,⟨by dsimp only;omega,by dsimp only;rw [hp];exact aq,D,a.perm (by simp)⟩,by dsimp only;omega⟩
   have N:i=aR-k:=by have:=bw W;omega
   subst N
   refine cY 6 j (cA:=Nat×Value×List Value×List Chunk×List Chunk) (λe=>[(6,Z f),(53,.int .i64 (e.1:Nat))])
    (λe w=>e.1<=4/\Row 47 1 e.2.1 e.1 e.2.2.1 e.2.2.2.1/\dS (jq g) e.2.2.1 (i2 e.1) e.2.2.2.2/\C o [] [bj g f (⟨.slice (some ⟨d,0,none⟩) aR aR,e.2.1,.slice none 0 0,Z q,.slice none 0 0⟩:cg),R d U.toArray 37,y,e.2.2.2.1,e.2.2.2.2,bd,dC g] w) (λe=>4-e.1) (0,.slice none 0 0,[],[],[]) ⟨j,j,ba⟩ ⟨ch _,Row.nil _ _,j,a.perm (by simp)⟩ ?_
   rintro⟨i,s,us,E,B⟩ w ⟨M,ap,ai,a⟩
   dsimp only at M ap ai a⊢
   refine aT 4 j j (λX=>?_) (λX=>?_)
   .have a:C o [] ([bj g f (⟨.slice (some ⟨d,0,none⟩) aR aR,s,.slice none 0 0,Z q,.slice none 0 0⟩:cg)]++_) w:=a.front
    have a:=a.drew
    have bm:i<4:=by have:=br X;omega
    refine bz 3 j (λw=>∃ae,C o [] ([bj g f (⟨.slice (some ⟨d,0,none⟩) aR aR,s,.slice none 0 0,Z q,.slice none 0 0⟩:cg)]++ae) w) ⟨_,a⟩ (af 0 4 j (be 4 j a7 j (af 5 3 j (be 8 j a7 j (aW 9 j (cN j j j (ve (g:=g)) (λr w⟨bh,aw,I,aZ,t⟩=>?_)))))))
    subst I
    have a:=a.aN t
    have a:C o [] ([bj g f (⟨.slice (some ⟨d,0,none⟩) aR aR,s,.slice none 0 0,Z q,.slice none 0 0⟩:cg)]++_) w:=a.front
    refine an ⟨⟨_,a⟩,?_⟩
    refine aW 10 j (fe a j j j j j j bR (λay w a=>?_))
    have a9:Rd _ (some ⟨ay,0,none⟩) [Value.pointer (some ⟨bh,0,none⟩)]:=bq (C.aj (b:=ay) a)
    have a:C o [] ([bj g f (⟨.slice (some ⟨d,0,none⟩) aR aR,s,.slice none 0 0,Z q,.slice none 0 0⟩:cg)]++_) w:=a.front
    refine an ⟨⟨_,a⟩,?_⟩
    refine aW 11 j ?_
    have a:C o [] [E,bj g f (⟨.slice (some ⟨d,0,none⟩) aR aR,s,.slice none 0 0,Z q,.slice none 0 0⟩:cg),R d U.toArray 37,y,B,aw,bd,dC g] _:=a.as
    refine eK a ap j j (by decide) j j j (news:=[Value.pointer (some ⟨bh,0,none⟩)]) (m:=1) j a9 (λu hu=>by rw [List.mem_singleton.1 hu];rfl) (by omega) (by unfold maxLen;omega) (λau ax w aC a=>?_)
    have a:C o [] ([bj g f (⟨.slice (some ⟨d,0,none⟩) aR aR,s,.slice none 0 0,Z q,.slice none 0 0⟩:cg)]++_) w:=a.front
    refine an ⟨⟨_,a⟩,?_⟩
    refine af 12 2 j (dy 14 j (cC (a.bf f) j j j aC.one bR (λw a=>?_)))
    have a:C o [] (bj g f (⟨.slice (some ⟨d,0,none⟩) aR aR,au,.slice none 0 0,Z q,.slice none 0 0⟩:cg)::_) w:=a
    refine an (cX (bt 1 j j j (c2 i (by omega)) (bX 1 j ?_)))
    have D:=ai.app (dS.one (V:=jq g) (x:=cM.new) ⟨bh,j,aZ⟩)
    have ac:i2 i++[cM.new]=i2 (i+1):=by unfold i2;rw [List.replicate_succ']
    rw [ac] at D
    have a:C o [] [bj g f (⟨.slice (some ⟨d,0,none⟩) aR aR,au,.slice none 0 0,Z q,.slice none 0 0⟩:cg),R d U.toArray 37,y,ax,B,aw,bd,dC g] w:=a.as
    exact⟨(i+1,au,_,ax,_),⟨j,j,ba⟩,⟨by dsimp only;omega,aC,D,a.perm (by simp)⟩,by dsimp only;omega⟩
   have N:i=4:=by have:=bw X;omega
   subst N
   refine cY 6 j (cA:=Nat×Value×List Value×List Chunk×List Chunk) (λe=>[(6,Z f),(70,.int .i64 (e.1:Nat))])
    (λe w=>e.1<=3/\Row 73 1 e.2.1 e.1 e.2.2.1 e.2.2.2.1/\dS lW e.2.2.1 (kj e.1) e.2.2.2.2/\C o [] [bj g f (⟨.slice (some ⟨d,0,none⟩) aR aR,s,e.2.1,Z q,.slice none 0 0⟩:cg),R d U.toArray 37,y,E,B,e.2.2.2.1,e.2.2.2.2,bd,dC g] w) (λe=>3-e.1) (0,.slice none 0 0,[],[],[]) ⟨j,j,ba⟩ ⟨ch _,Row.nil _ _,j,a.perm (by simp)⟩ ?_
   rintro⟨i,z,bg,eT,L⟩ w ⟨M,ak,ah,a⟩
   dsimp only at M ak ah a⊢
   refine aT 4 j j (λY=>?_) (λY=>?_)
   .have a:C o [] ([bj g f (⟨.slice (some ⟨d,0,none⟩) aR aR,s,z,Z q,.slice none 0 0⟩:cg)]++_) w:=a.front
    have a:=a.drew
    have bl:i<3:=by have:=br Y;omega
    have aQ:evalBin .add .i64 97 (i:Int)=some (.int .i64 ((97+i:Nat):Int)):=by rcases(show i=0\/i=1\/i=2 by omega) with rfl|rfl|rfl<;>rfl
    have aK:IntKind.i32.wrap ((97+i:Nat):Int)=((97+i:Nat):Int):=by rcases(show i=0\/i=1\/i=2 by omega) with rfl|rfl|rfl<;>rfl
    have aU:Utf8.encode ((97+i:Nat):Int)=strOf (km i):=by rcases(show i=0\/i=1\/i=2 by omega) with rfl|rfl|rfl<;>rfl
    refine bz 7 j (λw=>∃ae,C o [] ([bj g f (⟨.slice (some ⟨d,0,none⟩) aR aR,s,z,Z q,.slice none 0 0⟩:cg)]++ae) w) ⟨_,a⟩ (af 0 4 j (be 4 j a7 j (af 5 2 j (aV 7 j (λw _=>dr j j aQ) (aV 8 j (λw _=>ku j aK) (aV 9 j (λw _=>tg j aU) (aW 10 j (cN j j j (vf (n:=(i:Int)) (x:=km i)) (λr w⟨az,GE,I,a0,t⟩=>?_)))))))))
    subst I
    have a:=a.aN t
    have a:C o [] ([bj g f (⟨.slice (some ⟨d,0,none⟩) aR aR,s,z,Z q,.slice none 0 0⟩:cg)]++_) w:=a.front
    refine an ⟨⟨_,a⟩,?_⟩
    refine aV 11 j (λw _=>e0 (c:= #[Z az,ab (-1)]) j (λ_=>by kernel_rfl)) (aW 12 j (lp a j j j (λF w a=>?_)))
    have a:C o [] (da F az (-1)::_) w:=a
    have a:C o [] ([bj g f (⟨.slice (some ⟨d,0,none⟩) aR aR,s,z,Z q,.slice none 0 0⟩:cg)]++_) w:=a.front
    refine an ⟨⟨_,a⟩,?_⟩
    refine aW 13 j (fe a j j j j j j bR (λaA w a=>?_))
    have bb:Rd _ (some ⟨aA,0,none⟩) [Value.pointer (some ⟨F,0,none⟩)]:=bq (C.aj (b:=aA) a)
    have a:C o [] ([bj g f (⟨.slice (some ⟨d,0,none⟩) aR aR,s,z,Z q,.slice none 0 0⟩:cg)]++_) w:=a.front
    refine an ⟨⟨_,a⟩,?_⟩
    refine aW 14 j ?_
    have a:C o [] [eT,bj g f (⟨.slice (some ⟨d,0,none⟩) aR aR,s,z,Z q,.slice none 0 0⟩:cg),R d U.toArray 37,y,E,B,L,da F az (-1),GE,bd,dC g] _:=a.as
    refine eK a ak j j (by decide) j j j (news:=[Value.pointer (some ⟨F,0,none⟩)]) (m:=1) j bb (λu hu=>by rw [List.mem_singleton.1 hu];rfl) (by omega) (by unfold maxLen;omega) (λP T w aB a=>?_)
    have a:C o [] ([bj g f (⟨.slice (some ⟨d,0,none⟩) aR aR,s,z,Z q,.slice none 0 0⟩:cg)]++_) w:=a.front
    refine an ⟨⟨_,a⟩,?_⟩
    refine af 15 2 j (dy 17 j (cC (a.bf f) j j j aB.one bR (λw a=>?_)))
    have a:C o [] (bj g f (⟨.slice (some ⟨d,0,none⟩) aR aR,s,P,Z q,.slice none 0 0⟩:cg)::_) w:=a
    refine an (cX (bt 1 j j j (c2 i (by omega)) (bX 1 j ?_)))
    have D:=ah.app (dS.one (V:=lW) (x:=(bI.new (i:Int) (km i),(-1:Int))) ⟨F,az,GE,j,a0,j⟩)
    have ac:kj i++[(bI.new (i:Int) (km i),(-1:Int))]=kj (i+1):=by unfold kj;rw [List.range_succ,List.map_append];rfl
    rw [ac] at D
    have a:C o [] [bj g f (⟨.slice (some ⟨d,0,none⟩) aR aR,s,P,Z q,.slice none 0 0⟩:cg),R d U.toArray 37,y,E,B,T,L,da F az (-1),GE,bd,dC g] w:=a.as
    exact⟨(i+1,P,_,T,_),⟨j,j,ba⟩,⟨by dsimp only;omega,aB,D,C.perm (A:=[bj g f (⟨.slice (some ⟨d,0,none⟩) aR aR,s,P,Z q,.slice none 0 0⟩:cg),R d U.toArray 37,y,E,B,T,L,da F az (-1),GE,bd,dC g]) a (by simp)⟩,by dsimp only;omega⟩
   refine ao 6 j j ?_
   have N:i=3:=by have:=bw Y;omega
   subst N
   have a4:Row 37 1 (.slice (some ⟨d,0,none⟩) aR aR) aR U (R d U.toArray 37):=Row.full (by unfold maxLen;omega) (by rw [List.size_toArray,aq,Nat.mul_one])
   exact⟨f,g,_,j,a8,a6,⟨(⟨.slice (some ⟨d,0,none⟩) aR aR,s,z,Z q,.slice none 0 0⟩:cg),R d U.toArray 37++y,E++B,eT++L,bd,[],⟨⟨_,_,U,j,by show Row 37 1 _ (hC aR (aR-k)).length U _;rw [li (by omega)];exact a4,ag⟩,⟨_,_,us,j,ap,ai⟩,⟨_,_,bg,j,ak,ah⟩,av,cz.nil⟩,j⟩,C.perm (A:=[dC g,bj g f (⟨.slice (some ⟨d,0,none⟩) aR aR,s,z,Z q,.slice none 0 0⟩:cg),R d U.toArray 37,y,E,B,eT,L,bd]) a.as (by simp)⟩
 refine n8 (l:=aR) (c:=aR) a j j j j (by omega) (by omega) (by unfold maxLen;omega) (λd bH w bi Q a=>an ⟨ba,?_⟩)
 refine aW 1 j (fe a j j j j j j bR (λaF w a=>?_))
 have aG:=a.bN
 refine an ⟨ba,?_⟩
 refine aW 2 j ?_
 have aG:Rd _ (some ⟨aF,0,none⟩) (aE [1]):=bq (C.aj (b:=aF) a)
 refine bF j j j (pb (p:=[1]) aG (by decide) (by decide)) (λw t=>?_)
 have a:=a.aN t
 refine an ⟨ba,?_⟩
 refine aW 3 j (cN j j j (vh (n:=aR) (eY:=bL [1]) (by omega) (e4 _)) (λr w⟨g,I,a8,a6,t⟩=>?_))
 subst I
 have a:=a.aN t
 refine an ⟨ba,?_⟩
 refine aW 6 j (cN j j j si (λr w⟨bd,av,t⟩=>?_))
 obtain⟨q,aH⟩:∃q,r=Z q:=by obtain⟨b,v,H,h,_⟩:=av;exact⟨b,h⟩
 subst aH
 have a:=a.aN t
 refine an ⟨ba,?_⟩
 refine aV 7 j (λw _=>e0 (c:=(lU g (⟨.slice (some ⟨d,0,none⟩) aR aR,.slice none 0 0,.slice none 0 0,Z q,.slice none 0 0⟩:cg)).toArray) j (λ_=>by kernel_rfl)) (aW 8 j (lp a j j j (λf w a=>?_)))
 have a:C o [] (bj g f (⟨.slice (some ⟨d,0,none⟩) aR aR,.slice none 0 0,.slice none 0 0,Z q,.slice none 0 0⟩:cg)::_) w:=a
 have Q:bH=(List.replicate aR (Value.pointer none)).toArray:=Q.trans (by rcases aP with rfl|rfl<;>kernel_rfl)
 subst Q
 have a:C o [] [bj g f (⟨.slice (some ⟨d,0,none⟩) aR aR,.slice none 0 0,.slice none 0 0,Z q,.slice none 0 0⟩:cg),R d (List.replicate aR (Value.pointer none)).toArray 37,bd,dC g] w:=a.as
 refine an ⟨ba,?_⟩
 refine af 9 1 j (bO (bt 5 j j j (hv aR k (by omega) (by omega)) ?_))
 refine cY 2 j (cA:=Nat×List Value×List Chunk) (λe=>[(6,Z f),(36,.int .i64 (aR-k:Nat)),(37,.int .i64 (e.1:Nat))])
  (λe w=>e.1<=aR-k/\e.2.1.length=aR/\dS (hY g) e.2.1 (hC aR e.1) e.2.2/\C o [] [bj g f (⟨.slice (some ⟨d,0,none⟩) aR aR,.slice none 0 0,.slice none 0 0,Z q,.slice none 0 0⟩:cg),R d e.2.1.toArray 37,e.2.2,bd,dC g] w) (λe=>aR-k-e.1) (0,List.replicate aR (.pointer none),[]) ⟨j,j,j,ba⟩ ⟨ch _,ot,dS.rep (V:=hY g) (x:=none) ⟨j,j⟩ aR,C.perm (A:=[bj g f (⟨.slice (some ⟨d,0,none⟩) aR aR,.slice none 0 0,.slice none 0 0,Z q,.slice none 0 0⟩:cg),R d (List.replicate aR (Value.pointer none)).toArray 37,bd,dC g]) a (by simp)⟩ ?_
 rintro⟨i,U,y⟩ w ⟨M,aq,ag,a⟩
 dsimp only at M aq ag a⊢
 refine aT 4 j j (λW=>?_) (λW=>?_)
 .have a:C o [] ([bj g f (⟨.slice (some ⟨d,0,none⟩) aR aR,.slice none 0 0,.slice none 0 0,Z q,.slice none 0 0⟩:cg)]++_) w:=a.front
  have a:=a.drew
  have bn:i<aR-k:=by have:=br W;omega
  obtain⟨H1,aI,S,a2,aD,bc⟩:=ag.put i (by rw [li (by omega)];omega)
  refine bz 7 j (λw=>∃ae,C o [] ([bj g f (⟨.slice (some ⟨d,0,none⟩) aR aR,.slice none 0 0,.slice none 0 0,Z q,.slice none 0 0⟩:cg)]++ae) w) ⟨_,a⟩ (af 0 3 j (be 3 j a7 j (af 4 4 j (be 8 j a7 j (af 9 1 j (aW 10 j (cN j j j (vi (g:=g) (am:=(i:Int))) (λr w⟨K,O,I,a5,t⟩=>?_))))))))
  subst I
  have a:=a.aN t
  have a:C o [] ([bj g f (⟨.slice (some ⟨d,0,none⟩) aR aR,.slice none 0 0,.slice none 0 0,Z q,.slice none 0 0⟩:cg)]++_) w:=a.front
  refine an ⟨⟨_,a⟩,?_⟩
  refine aV 11 j (λw _=>gI (J:=i) j j (by omega)) (dy 12 j (cC (a.bf d) j j j j (by rw [hq];omega) (λw a=>?_)))
  have a:C o [] (R d (U.toArray.setIfInBounds (0+i*1) (Z K)) 37::_) w:=a
  rw [tG,fk,gT] at a
  refine an (cX (bt 1 j j j (c2 i (by omega)) (bX 1 j ?_)))
  have D:=bc (Z K) (some (bo.new (i:Int))) O ⟨K,j,a5⟩
  rw [vE (by omega)] at D
  have a3:aI=[]:=by
   have aY:(hC aR i)[i]'(by rw [li (by omega)];omega)=none:=by
    unfold hC
    rw [tH (by simp)]
    simp
   rw [aY] at aD
   exact aD.2
  subst a2
  subst a3
  have a:C o [] [bj g f (⟨.slice (some ⟨d,0,none⟩) aR aR,.slice none 0 0,.slice none 0 0,Z q,.slice none 0 0⟩:cg),R d (U.set i (Z K)).toArray 37,H1,S,O,bd,dC g] w:=C.perm (A:=[bj g f (⟨.slice (some ⟨d,0,none⟩) aR aR,.slice none 0 0,.slice none 0 0,Z q,.slice none 0 0⟩:cg),R d (U.set i (Z K)).toArray 37,H1++([]++S),O,bd,dC g]) a.as (by simp)
  have a:C o [] [bj g f (⟨.slice (some ⟨d,0,none⟩) aR aR,.slice none 0 0,.slice none 0 0,Z q,.slice none 0 0⟩:cg),R d (U.set i (Z K)).toArray 37,H1,O,S,bd,dC g] w:=a.as
  exact⟨(i+1,_,_),⟨j,j,j,ba⟩,⟨by dsimp only;omega,by dsimp only;rw [hp];exact aq,D,a.perm (by simp)⟩,by dsimp only;omega⟩
 have N:i=aR-k:=by have:=bw W;omega
 subst N
 refine cY 6 j (cA:=Nat×Value×List Value×List Chunk×List Chunk) (λe=>[(6,Z f),(53,.int .i64 (e.1:Nat))])
  (λe w=>e.1<=4/\Row 47 1 e.2.1 e.1 e.2.2.1 e.2.2.2.1/\dS (jq g) e.2.2.1 (i2 e.1) e.2.2.2.2/\C o [] [bj g f (⟨.slice (some ⟨d,0,none⟩) aR aR,e.2.1,.slice none 0 0,Z q,.slice none 0 0⟩:cg),R d U.toArray 37,y,e.2.2.2.1,e.2.2.2.2,bd,dC g] w) (λe=>4-e.1) (0,.slice none 0 0,[],[],[]) ⟨j,j,ba⟩ ⟨ch _,Row.nil _ _,j,a.perm (by simp)⟩ ?_
 rintro⟨i,s,us,E,B⟩ w ⟨M,ap,ai,a⟩
 dsimp only at M ap ai a⊢
 refine aT 4 j j (λX=>?_) (λX=>?_)
 .have a:C o [] ([bj g f (⟨.slice (some ⟨d,0,none⟩) aR aR,s,.slice none 0 0,Z q,.slice none 0 0⟩:cg)]++_) w:=a.front
  have a:=a.drew
  have bm:i<4:=by have:=br X;omega
  refine bz 3 j (λw=>∃ae,C o [] ([bj g f (⟨.slice (some ⟨d,0,none⟩) aR aR,s,.slice none 0 0,Z q,.slice none 0 0⟩:cg)]++ae) w) ⟨_,a⟩ (af 0 4 j (be 4 j a7 j (af 5 3 j (be 8 j a7 j (aW 9 j (cN j j j (ve (g:=g)) (λr w⟨bh,aw,I,aZ,t⟩=>?_)))))))
  subst I
  have a:=a.aN t
  have a:C o [] ([bj g f (⟨.slice (some ⟨d,0,none⟩) aR aR,s,.slice none 0 0,Z q,.slice none 0 0⟩:cg)]++_) w:=a.front
  refine an ⟨⟨_,a⟩,?_⟩
  refine aW 10 j (fe a j j j j j j bR (λay w a=>?_))
  have a9:Rd _ (some ⟨ay,0,none⟩) [Value.pointer (some ⟨bh,0,none⟩)]:=bq (C.aj (b:=ay) a)
  have a:C o [] ([bj g f (⟨.slice (some ⟨d,0,none⟩) aR aR,s,.slice none 0 0,Z q,.slice none 0 0⟩:cg)]++_) w:=a.front
  refine an ⟨⟨_,a⟩,?_⟩
  refine aW 11 j ?_
  have a:C o [] [E,bj g f (⟨.slice (some ⟨d,0,none⟩) aR aR,s,.slice none 0 0,Z q,.slice none 0 0⟩:cg),R d U.toArray 37,y,B,aw,bd,dC g] _:=a.as
  refine eK a ap j j (by decide) j j j (news:=[Value.pointer (some ⟨bh,0,none⟩)]) (m:=1) j a9 (λu hu=>by rw [List.mem_singleton.1 hu];rfl) (by omega) (by unfold maxLen;omega) (λau ax w aC a=>?_)
  have a:C o [] ([bj g f (⟨.slice (some ⟨d,0,none⟩) aR aR,s,.slice none 0 0,Z q,.slice none 0 0⟩:cg)]++_) w:=a.front
  refine an ⟨⟨_,a⟩,?_⟩
  refine af 12 2 j (dy 14 j (cC (a.bf f) j j j aC.one bR (λw a=>?_)))
  have a:C o [] (bj g f (⟨.slice (some ⟨d,0,none⟩) aR aR,au,.slice none 0 0,Z q,.slice none 0 0⟩:cg)::_) w:=a
  refine an (cX (bt 1 j j j (c2 i (by omega)) (bX 1 j ?_)))
  have D:=ai.app (dS.one (V:=jq g) (x:=cM.new) ⟨bh,j,aZ⟩)
  have ac:i2 i++[cM.new]=i2 (i+1):=by unfold i2;rw [List.replicate_succ']
  rw [ac] at D
  have a:C o [] [bj g f (⟨.slice (some ⟨d,0,none⟩) aR aR,au,.slice none 0 0,Z q,.slice none 0 0⟩:cg),R d U.toArray 37,y,ax,B,aw,bd,dC g] w:=a.as
  exact⟨(i+1,au,_,ax,_),⟨j,j,ba⟩,⟨by dsimp only;omega,aC,D,a.perm (by simp)⟩,by dsimp only;omega⟩
 have N:i=4:=by have:=bw X;omega
 subst N
 refine cY 6 j (cA:=Nat×Value×List Value×List Chunk×List Chunk) (λe=>[(6,Z f),(70,.int .i64 (e.1:Nat))])
  (λe w=>e.1<=3/\Row 73 1 e.2.1 e.1 e.2.2.1 e.2.2.2.1/\dS lW e.2.2.1 (kj e.1) e.2.2.2.2/\C o [] [bj g f (⟨.slice (some ⟨d,0,none⟩) aR aR,s,e.2.1,Z q,.slice none 0 0⟩:cg),R d U.toArray 37,y,E,B,e.2.2.2.1,e.2.2.2.2,bd,dC g] w) (λe=>3-e.1) (0,.slice none 0 0,[],[],[]) ⟨j,j,ba⟩ ⟨ch _,Row.nil _ _,j,a.perm (by simp)⟩ ?_
 rintro⟨i,z,bg,eT,L⟩ w ⟨M,ak,ah,a⟩
 dsimp only at M ak ah a⊢
 refine aT 4 j j (λY=>?_) (λY=>?_)
 .have a:C o [] ([bj g f (⟨.slice (some ⟨d,0,none⟩) aR aR,s,z,Z q,.slice none 0 0⟩:cg)]++_) w:=a.front
  have a:=a.drew
  have bl:i<3:=by have:=br Y;omega
  have aQ:evalBin .add .i64 97 (i:Int)=some (.int .i64 ((97+i:Nat):Int)):=by rcases(show i=0\/i=1\/i=2 by omega) with rfl|rfl|rfl<;>rfl
  have aK:IntKind.i32.wrap ((97+i:Nat):Int)=((97+i:Nat):Int):=by rcases(show i=0\/i=1\/i=2 by omega) with rfl|rfl|rfl<;>rfl
  have aU:Utf8.encode ((97+i:Nat):Int)=strOf (km i):=by rcases(show i=0\/i=1\/i=2 by omega) with rfl|rfl|rfl<;>rfl
  refine bz 7 j (λw=>∃ae,C o [] ([bj g f (⟨.slice (some ⟨d,0,none⟩) aR aR,s,z,Z q,.slice none 0 0⟩:cg)]++ae) w) ⟨_,a⟩ (af 0 4 j (be 4 j a7 j (af 5 2 j (aV 7 j (λw _=>dr j j aQ) (aV 8 j (λw _=>ku j aK) (aV 9 j (λw _=>tg j aU) (aW 10 j (cN j j j (vf (n:=(i:Int)) (x:=km i)) (λr w⟨az,GE,I,a0,t⟩=>?_)))))))))
  subst I
  have a:=a.aN t
  have a:C o [] ([bj g f (⟨.slice (some ⟨d,0,none⟩) aR aR,s,z,Z q,.slice none 0 0⟩:cg)]++_) w:=a.front
  refine an ⟨⟨_,a⟩,?_⟩
  refine aV 11 j (λw _=>e0 (c:= #[Z az,ab (-1)]) j (λ_=>by kernel_rfl)) (aW 12 j (lp a j j j (λF w a=>?_)))
  have a:C o [] (da F az (-1)::_) w:=a
  have a:C o [] ([bj g f (⟨.slice (some ⟨d,0,none⟩) aR aR,s,z,Z q,.slice none 0 0⟩:cg)]++_) w:=a.front
  refine an ⟨⟨_,a⟩,?_⟩
  refine aW 13 j (fe a j j j j j j bR (λaA w a=>?_))
  have bb:Rd _ (some ⟨aA,0,none⟩) [Value.pointer (some ⟨F,0,none⟩)]:=bq (C.aj (b:=aA) a)
  have a:C o [] ([bj g f (⟨.slice (some ⟨d,0,none⟩) aR aR,s,z,Z q,.slice none 0 0⟩:cg)]++_) w:=a.front
  refine an ⟨⟨_,a⟩,?_⟩
  refine aW 14 j ?_
  have a:C o [] [eT,bj g f (⟨.slice (some ⟨d,0,none⟩) aR aR,s,z,Z q,.slice none 0 0⟩:cg),R d U.toArray 37,y,E,B,L,da F az (-1),GE,bd,dC g] _:=a.as
  refine eK a ak j j (by decide) j j j (news:=[Value.pointer (some ⟨F,0,none⟩)]) (m:=1) j bb (λu hu=>by rw [List.mem_singleton.1 hu];rfl) (by omega) (by unfold maxLen;omega) (λP T w aB a=>?_)
  have a:C o [] ([bj g f (⟨.slice (some ⟨d,0,none⟩) aR aR,s,z,Z q,.slice none 0 0⟩:cg)]++_) w:=a.front
  refine an ⟨⟨_,a⟩,?_⟩
  refine af 15 2 j (dy 17 j (cC (a.bf f) j j j aB.one bR (λw a=>?_)))
  have a:C o [] (bj g f (⟨.slice (some ⟨d,0,none⟩) aR aR,s,P,Z q,.slice none 0 0⟩:cg)::_) w:=a
  refine an (cX (bt 1 j j j (c2 i (by omega)) (bX 1 j ?_)))
  have D:=ah.app (dS.one (V:=lW) (x:=(bI.new (i:Int) (km i),(-1:Int))) ⟨F,az,GE,j,a0,j⟩)
  have ac:kj i++[(bI.new (i:Int) (km i),(-1:Int))]=kj (i+1):=by unfold kj;rw [List.range_succ,List.map_append];rfl
  rw [ac] at D
  have a:C o [] [bj g f (⟨.slice (some ⟨d,0,none⟩) aR aR,s,P,Z q,.slice none 0 0⟩:cg),R d U.toArray 37,y,E,B,T,L,da F az (-1),GE,bd,dC g] w:=a.as
  exact⟨(i+1,P,_,T,_),⟨j,j,ba⟩,⟨by dsimp only;omega,aB,D,C.perm (A:=[bj g f (⟨.slice (some ⟨d,0,none⟩) aR aR,s,P,Z q,.slice none 0 0⟩:cg),R d U.toArray 37,y,E,B,T,L,da F az (-1),GE,bd,dC g]) a (by simp)⟩,by dsimp only;omega⟩
 refine ao 6 j j ?_
 have N:i=3:=by have:=bw Y;omega
 subst N
 have a4:Row 37 1 (.slice (some ⟨d,0,none⟩) aR aR) aR U (R d U.toArray 37):=Row.full (by unfold maxLen;omega) (by rw [List.size_toArray,aq,Nat.mul_one])
 exact⟨f,g,_,j,a8,a6,⟨(⟨.slice (some ⟨d,0,none⟩) aR aR,s,z,Z q,.slice none 0 0⟩:cg),R d U.toArray 37++y,E++B,eT++L,bd,[],⟨⟨_,_,U,j,by show Row 37 1 _ (hC aR (aR-k)).length U _;rw [li (by omega)];exact a4,ag⟩,⟨_,_,us,j,ap,ai⟩,⟨_,_,bg,j,ak,ah⟩,av,cz.nil⟩,j⟩,C.perm (A:=[dC g,bj g f (⟨.slice (some ⟨d,0,none⟩) aR aR,s,z,Z q,.slice none 0 0⟩:cg),R d U.toArray 37,y,E,B,eT,L,bd]) a.as (by simp)⟩
theorem In{p q:List UInt8}(h:∀J,J<64->p.getD J 0=q.getD J 0){i:Nat}(a:i<16):word p i=word q i:=by
 unfold word
 rw [h (4*i) (by omega),h (4*i+1) (by omega),h (4*i+2) (by omega),h (4*i+3) (by omega)]
theorem z1{p q:List UInt8}(h:∀J,J<64->p.getD J 0=q.getD J 0):∀n,dW p n=dW q n
 |0=>oB λi a=>In h (mV.1 a)
 |n+1=>aL nl (z1 h n)
theorem An{p q:List UInt8}(h:∀J,J<64->p.getD J 0=q.getD J 0)(s:eL):jo p s=jo q s:=by
 have key:∀n,rounds p s n=rounds q s n:=λn=>by
  induction n with
  |zero=>rfl
  |succ n a=>unfold rounds;rw [z1 h,a]
 unfold jo
 rw [key]
theorem qg(p:List UInt8)(k J:Nat):(p.drop k).getD J 0=p.getD (k+J) 0:=by rw [iO,lx,iO]
theorem getD_take(p:List UInt8){k J:Nat}(h:J<k):(p.take k).getD J 0=p.getD J 0:=by rw [iO,jw,a6 h,iO]
theorem r1(p q:List UInt8){J:Nat}(h:J<p.length):(p++q).getD J 0=p.getD J 0:=by rw [iO,iz h,iO]
theorem uI(p q:List UInt8){J:Nat}(h:p.length<=J):(p++q).getD J 0=q.getD (J-p.length) 0:=by rw [iO,jy h,iO]
def jm(n:Nat):Nat:=if n%64<56 then 55-n%64 else 119-n%64
def lL(n:Nat)(J:Nat):UInt8:=UInt8.ofNat ((8*n)>>>(8*(7-J)))
def eu(p:List UInt8):List UInt8:=(p++[128])++(List.replicate (jm p.length) 0++(List.range 8).map (lL p.length))
theorem zo(p:List UInt8):p.length+1+jm p.length+8=64*(p.length/64)+eg p:=by
 unfold jm
 rcases ia p with h|h
 .rw [aF (by omega)];omega
 .rw [a6 h.2];omega
theorem zK(p:List UInt8):(eu p).length=64*(p.length/64)+eg p:=by
 rw [<-zo]
 simp [eu]
 omega
theorem zL(p:List UInt8){i:Nat}(h:i<p.length):(eu p).getD i 0=p.getD i 0:=by
 unfold eu
 rw [r1 _ _ (by simp;omega),r1 _ _ h]
theorem GH(p:List UInt8){i:Nat}(h:i<eg p):(eu p).getD (64*(p.length/64)+i) 0=kI p 8 i:=by
 have k:=zo p
 have aP:p.length%64<64:=jx _ (by decide)
 have j:p.length=64*(p.length/64)+p.length%64:=by omega
 have g:=ia p
 unfold kI
 by_cases a:i<p.length%64
 .rw [a6 a,zL p (by omega)]
  unfold lP
  rw [qg]
 .rw [aF a]
  unfold eu
  by_cases b:i=p.length%64
  .rw [a6 b,r1 _ _ (by simp;omega),uI _ _ (by omega),show 64*(p.length/64)+i-p.length=0 by omega]
   rfl
  .rw [aF b,uI _ _ (by simp;omega)]
   have e:64*(p.length/64)+i-(p++[(128:UInt8)]).length=i-p.length%64-1:=by simp;omega
   rw [e]
   by_cases c:eg p-8<=i/\i<eg p
   .rw [a6 c,uI _ _ (by simp;omega),ot]
    have d:i-p.length%64-1-jm p.length=i-(eg p-8):=by omega
    have f:i-(eg p-8)<8:=by omega
    rw [d,iO,gn,List.getElem?_range f]
    show lL p.length (i-(eg p-8))=_
    unfold lL
    rw [show 7-(i-(eg p-8))=eg p-1-i by omega]
   .rw [aF c,r1 _ _ (by simp;omega),iO,List.getElem?_replicate]
    split<;>rfl
def hB(m:List UInt8):Nat->eL
 |0=>gH
 |k+1=>jo ((m.drop (64*k)).take 64) (hB m k)
theorem zN(p:List UInt8):∀k,k<=p.length/64->hB (eu p) k=ki p k
 |0,_=>rfl
 |k+1,h=>by
  show jo _ (hB (eu p) k)=jo _ (ki p k)
  rw [zN p k (by omega)]
  refine An (λJ a=>?_) _
  rw [getD_take _ a,qg,qg,zL p (by omega)]
theorem zM(p:List UInt8):∀k,64*k<=eg p->hB (eu p) (p.length/64+k)=kX p k
 |0,_=>zN p _ (cB _)
 |k+1,h=>by
  show jo _ (hB (eu p) (p.length/64+k))=jo _ (kX p k)
  rw [zM p k (by omega)]
  refine An (λJ a=>?_) _
  have b:=ia p
  have e:64*(p.length/64+k)+J=64*(p.length/64)+(64*k+J):=by omega
  rw [getD_take _ a,qg,qg]
  show(eu p).getD (64*(p.length/64+k)+J) 0=_
  rw [e,GH p (by omega)]
  unfold mf
  rw [iO,qd _ (by omega)]
  rfl
theorem GI(p:List UInt8):(hB (eu p) ((eu p).length/64)).out=bL p:=by
 rw [zK]
 have a:=ia p
 rw [show(64*(p.length/64)+eg p)/64=p.length/64+eg p/64 by omega,zM p (eg p/64) (by omega)]
 rfl
theorem lM{o:World}{x:BitVec 32}{n:Nat}(aP:n<=32):Calls prog 160 #[d7 x,.int .u64 n] o (aS λr w=>r=d7 (kN x n)/\w=o):=by
 refine a1 [d7 x,.int .u64 n] func160 ntmps160 results160 (ar 7 j (i9 j j j j (by omega) (lH x n aP) ?_))
 refine bt 2 j j j (xK 32 n aP (by decide)) (i9 j j j j (by omega) (m6 x (32-n) (by omega)) (bt 0 j j j (m5 _ _) (ao 1 j j ?_)))
 exact⟨j,j⟩
theorem GG{o:World}:Calls prog 109 #[] o (aS λr w=>r= .agg (fY fE).toArray/\C o [] [] w):=by
 have a:Own [] o:=C.start o
 refine e7 [] (fn:=f109) func109 ntmps109 (cn 2 a j (λcT w a=>ar 2 j (cO (c:=(fY fE).toArray) j j j (λ_=>by kernel_rfl) ?_)))
 refine cp 0 a j j j (by decide) (by decide) (λw a=>?_)
 have a:=C.whole (U:=fY fE) a j
 refine bJ 0 j ⟨_,hb (U:=fY fE) results109 j j j a.bN,?_⟩
 exact⟨j,a.bare⟩
def iN:eL:=⟨0#32,0#32,0#32,0#32,0#32,0#32,0#32,0#32⟩
theorem CC{o:World}{eQ:Nat}{s:eL}{A:Option Addr}{p:List UInt8}{c:Nat}(u:Rd o A (aE p))(ad:o.heap[eQ]? =some (.cells (fY fE).toArray 139 (0,0)))(M:64<=p.length):Calls prog 110 #[.agg s.cs.toArray,.slice A p.length c,Z eQ] o (aS λr w=>r= .agg (jo p s).cs.toArray/\C o [] [] w):=by
 obtain⟨t,rfl,_⟩:=u 0 (bv (p.getD 0 0)) (lC (by omega))
 have L:eQ<o.heap.size:=(gp.1 ad).1
 have b:Own [] o:=C.start o
 refine e7 [.agg s.cs.toArray,.slice (some t) p.length c,Z eQ] (fn:=f110) func110 ntmps110 (bP 2 b j j (λf w b=>cn 0 b j (λd w b=>cn 2 b j (λg w b=>?_))))
 have b:C o [] [R g (fi (words p 0)) 139,R d iN.cs.toArray 137,R f s.cs.toArray 137] w:=b
 refine cY 5 j (cA:=Nat) (λi=>[(1,.slice (some t) p.length c),(2,Z eQ),(3,Z f),(6,Z d),(7,Z g),(8,.int .i64 (i:Nat))]) (λi w=>i<=16/\C o [] [R g (fi (words p i)) 139,R d iN.cs.toArray 137,R f s.cs.toArray 137] w) (λi=>16-i) 0 ⟨j,j,j,j,j,j,ba⟩ ⟨ch _,b⟩ ?_
 rintro i w ⟨E,b⟩
 refine aT 5 j j (λz=>?_) (λz=>?_)
 .have k:i<16:=by have:=br z;omega
  have b:=b.drew
  refine bz 3 j (λw=>C o [] [R g (fi (words p i)) 139,R d iN.cs.toArray 137,R f s.cs.toArray 137] w) b (af 0 3 j (aV 3 j (λw _=>dr j j (jD 4 i (by omega))) ?_))
  refine aV 4 j (λw _=>kv (J:=4*i) j j (by omega)) (bT 5 j (λw h=>Rd.cell (h.rd u (bU.of_nil _ _)) (lC (J:=4*i) (by omega))) (aV 6 j (λw _=>ku j (m4 _)) (aV 7 j (λw _=>mC j j (by omega) (m6 _ 24 (by decide))) (af 8 2 j (aV 10 j (λw _=>dr j j (jD 4 i (by omega))) (aV 11 j (λw _=>dr j j (gh (4*i) 1 (by omega))) (aV 12 j (λw _=>kv (J:=4*i+1) j j (by omega)) (bT 13 j (λw h=>Rd.cell (h.rd u (bU.of_nil _ _)) (lC (J:=4*i+1) (by omega))) ?_))))))))
  refine aV 14 j (λw _=>ku j (m4 _)) (aV 15 j (λw _=>mC j j (by omega) (m6 _ 16 (by decide))) (aV 16 j (λw _=>dr j j (m5 _ _)) (af 17 2 j (aV 19 j (λw _=>dr j j (jD 4 i (by omega))) (aV 20 j (λw _=>dr j j (gh (4*i) 2 (by omega))) (aV 21 j (λw _=>kv (J:=4*i+2) j j (by omega)) (bT 22 j (λw h=>Rd.cell (h.rd u (bU.of_nil _ _)) (lC (J:=4*i+2) (by omega))) (aV 23 j (λw _=>ku j (m4 _)) (aV 24 j (λw _=>mC j j (by omega) (m6 _ 8 (by decide))) ?_)))))))))
  refine aV 25 j (λw _=>dr j j (m5 _ _)) (af 26 2 j (aV 28 j (λw _=>dr j j (jD 4 i (by omega))) (aV 29 j (λw _=>dr j j (gh (4*i) 3 (by omega))) (aV 30 j (λw _=>kv (J:=4*i+3) j j (by omega)) (bT 31 j (λw h=>Rd.cell (h.rd u (bU.of_nil _ _)) (lC (J:=4*i+3) (by omega))) (aV 32 j (λw _=>ku j (m4 _)) (aV 33 j (λw _=>dr j j (m5 _ _)) (aV 34 j (λw _=>e9 (J:=i) j j (by omega)) (dy 35 j (cC b j j j j (by rw [s7 (by rw [n3];omega)];omega) (λw b=>?_)))))))))))
  have b:C o [] [[(g,.cells (fi (words p (i+1))) 139 (0,0))],R d iN.cs.toArray 137,R f s.cs.toArray 137] w:=by
   have e:=s6 (l:=words p i) (by rw [n3];omega) (word p i)
   rw [n3,<-AN] at e
   rw [<-e]
   exact b
  refine an (cX (bt 2 j j j (c2 i (by omega)) (bX 1 j ?_)))
  exact⟨i+1,⟨j,j,j,j,j,j,ba⟩,⟨k,b⟩,by omega⟩
 have F:i=16:=by have:=bw z;omega
 subst F
 refine cY 6 j (cA:=Nat) (λJ=>[(1,.slice (some t) p.length c),(2,Z eQ),(3,Z f),(6,Z d),(7,Z g),(9,.int .i64 (16+J:Nat))]) (λJ w=>J<=48/\C o [] [R g (fi (dW p J)) 139,R d iN.cs.toArray 137,R f s.cs.toArray 137] w) (λJ=>48-J) 0 ⟨j,j,j,j,j,j,ba⟩ ⟨ch _,b⟩ ?_
 rintro J w ⟨H,b⟩
 refine aT 5 j j (λB=>?_) (λB=>?_)
 .have k:J<48:=by have:=br B;omega
  have N:=hP p J
  refine bt 6 j j j (hv (16+J) 15 (by omega) (by omega)) (gJ (J:=16+J-15) j j j j (by omega) (au 0 j (b.cell (lS (by rw [hP];omega))) (bt 4 j j j (hv (16+J) 2 (by omega) (by omega)) (gJ (J:=16+J-2) j j j j (by omega) (au 0 j (b.cell (lS (by rw [hP];omega))) ?_)))))
  have b:=b.drew
  refine bz 1 j (λw=>C o [] [R g (fi (dW p J)) 139,R d iN.cs.toArray 137,R f s.cs.toArray 137] w) b (af 0 2 j (aV 2 j (λw _=>dr j j (hv (16+J) 16 (by omega) (by omega))) (aV 3 j (λw _=>e9 (J:=16+J-16) j j (by omega)) ?_)))
  refine bT 4 j (λw h=>h.cell (lS (by rw [hP];omega))) (fz 3 [5,7,10] j (aV 11 j (λw _=>mC j j (by omega) (lH _ 3 (by decide))) (af 14 1 j (aV 15 j (λw _=>dr j j (hv (16+J) 7 (by omega) (by omega))) (aV 16 j (λw _=>e9 (J:=16+J-7) j j (by omega)) (bT 17 j (λw h=>h.cell (lS (by rw [hP];omega))) (fz 3 [19,21,24] j (aV 25 j (λw _=>mC j j (by omega) (lH _ 10 (by decide))) (aW 6 j (bF j j j (lM (o:=_) (x:=(dW p J).getD (16+J-15) 0) (n:=7) (by decide)) (λq hw=>?_)))))))))))
  subst hw
  refine an ⟨b,?_⟩
  refine aW 8 j (bF j j j (lM (o:=_) (x:=(dW p J).getD (16+J-15) 0) (n:=18) (by decide)) (λq hw=>?_))
  subst hw
  refine an ⟨b,?_⟩
  refine aV 9 j (λw _=>dr j j (hx _ _)) (aV 12 j (λw _=>dr j j (hx _ _)) (aV 13 j (λw _=>dr j j (ht _ _)) (aV 18 j (λw _=>dr j j (ht _ _)) (aW 20 j (bF j j j (lM (o:=_) (x:=(dW p J).getD (16+J-2) 0) (n:=17) (by decide)) (λq hw=>?_))))))
  subst hw
  refine an ⟨b,?_⟩
  refine aW 22 j (bF j j j (lM (o:=_) (x:=(dW p J).getD (16+J-2) 0) (n:=19) (by decide)) (λq hw=>?_))
  subst hw
  refine an ⟨b,?_⟩
  refine aV 23 j (λw _=>dr j j (hx _ _)) (aV 26 j (λw _=>dr j j (hx _ _)) (aV 27 j (λw _=>dr j j (ht _ _)) (aV 28 j (λw _=>e9 (J:=16+J) j j (by omega)) (dy 29 j (cC b j j j j (by rw [s7 (by rw [hP];omega)];omega) (λw b=>?_))))))
  have b:C o [] [[(g,.cells (fi (dW p (J+1))) 139 (0,0))],R d iN.cs.toArray 137,R f s.cs.toArray 137] w:=by
   have D:dW p (J+1)=dW p J++[(dW p J).getD (16+J-16) 0+o5 ((dW p J).getD (16+J-15) 0)+(dW p J).getD (16+J-7) 0+o6 ((dW p J).getD (16+J-2) 0)]:=by
    show nl (dW p J)=_
    unfold nl
    rw [hP]
   have e:=s6 (l:=dW p J) (by rw [hP];omega) ((dW p J).getD (16+J-16) 0+o5 ((dW p J).getD (16+J-15) 0)+(dW p J).getD (16+J-7) 0+o6 ((dW p J).getD (16+J-2) 0))
   rw [hP] at e
   rw [D,<-e]
   exact b
  refine an (cX (bt 2 j j j (c2 (16+J) (by omega)) (bX 1 j ?_)))
  exact⟨J+1,⟨j,j,j,j,j,j,ba⟩,⟨k,b⟩,by omega⟩
 have I:J=48:=by have:=bw B;omega
 subst I
 refine bS 3 (U:=s.cs) j j j b.f2.bN (cn 0 b j (λm w b=>cp 0 b j j j j j (λw b=>?_)))
 have b:C o [] [R m (rounds p s 0).cs.toArray 137,R g (fi (dW p 48)) 139,R d iN.cs.toArray 137,R f s.cs.toArray 137] w:=C.whole (U:=s.cs) b j
 refine cY 5 j (cA:=Nat) (λi=>[(1,.slice (some t) p.length c),(2,Z eQ),(3,Z f),(6,Z d),(7,Z g),(12,Z m),(13,.int .i64 (i:Nat))]) (λi w=>i<=64/\C o [] [R m (rounds p s i).cs.toArray 137,R g (fi (dW p 48)) 139,R d iN.cs.toArray 137,R f s.cs.toArray 137] w) (λi=>64-i) 0 ⟨j,j,j,j,j,j,j,ba⟩ ⟨ch _,b⟩ ?_
 rintro i w ⟨E,b⟩
 refine aT 5 j j (λv=>?_) (λv=>?_)
 .have k:i<64:=by have:=br v;omega
  have b:=b.drew
  refine bz 4 j (λw=>C o [] [R m (rounds p s i).cs.toArray 137,R g (fi (dW p 48)) 139,R d iN.cs.toArray 137,R f s.cs.toArray 137] w) b (aV 0 j (λw _=>e9 (J:=0) j j (by decide)) (bT 1 j (λw h=>h.cell j) (aV 2 j (λw _=>e9 (J:=4) j j (by decide)) (bT 3 j (λw h=>h.cell j) (af 4 2 j (bO ?_))))))
  have b:=b.drew
  refine bz 1 j (λw=>C o [] [R m (rounds p s i).cs.toArray 137,R g (fi (dW p 48)) 139,R d iN.cs.toArray 137,R f s.cs.toArray 137] w) b (aV 0 j (λw _=>e9 (J:=7) j j (by decide)) (bT 1 j (λw h=>h.cell j) (fz 4 [2,4,7,11] j (aV 12 j (λw _=>e9 (J:=5) j j (by decide)) (bT 13 j (λw h=>h.cell j) (aV 14 j (λw _=>dr j j (lG _ _)) (af 15 1 j ?_)))))))
  refine aV 16 j (λw _=>Bh j (xI _)) (aV 17 j (λw _=>e9 (J:=6) j j (by decide)) (bT 18 j (λw h=>h.cell j) (aV 19 j (λw _=>dr j j (lG _ _)) (aV 20 j (λw _=>dr j j (hx _ _)) (af 22 3 j (aV 25 j (λw _=>e9 (J:=i) j j k) (bT 26 j (λw h=>oR ((h.fP eQ L (by simp)).trans ad) (v8 k)) (af 28 1 j (aV 29 j (λw _=>e9 (J:=i) j j k) (bT 30 j (λw h=>h.f1.cell (lS (by rw [hP];omega))) (aW 3 j (bF j j j (lM (o:=_) (x:=(rounds p s i).e) (n:=6) (by decide)) (λq hw=>?_)))))))))))))
  subst hw
  refine an ⟨b,?_⟩
  refine aW 5 j (bF j j j (lM (o:=_) (x:=(rounds p s i).e) (n:=11) (by decide)) (λq hw=>?_))
  subst hw
  refine an ⟨b,?_⟩
  refine aV 6 j (λw _=>dr j j (hx _ _)) (aW 8 j (bF j j j (lM (o:=_) (x:=(rounds p s i).e) (n:=25) (by decide)) (λq hw=>?_)))
  subst hw
  refine an ⟨b,?_⟩
  refine aV 9 j (λw _=>dr j j (hx _ _)) (aV 10 j (λw _=>dr j j (ht _ _)) (aV 21 j (λw _=>dr j j (ht _ _)) (aV 27 j (λw _=>dr j j (ht _ _)) (aV 31 j (λw _=>dr j j (ht _ _)) (af 32 1 j (bO ?_))))))
  have b:=b.drew
  refine bz 1 j (λw=>C o [] [R m (rounds p s i).cs.toArray 137,R g (fi (dW p 48)) 139,R d iN.cs.toArray 137,R f s.cs.toArray 137] w) b (fz 4 [0,2,5,8] j (aV 9 j (λw _=>e9 (J:=1) j j (by decide)) (bT 10 j (λw h=>h.cell j) (aV 11 j (λw _=>dr j j (lG _ _)) ?_))))
  refine af 12 1 j (aV 13 j (λw _=>e9 (J:=2) j j (by decide)) (bT 14 j (λw h=>h.cell j) (aV 15 j (λw _=>dr j j (lG _ _)) (aV 16 j (λw _=>dr j j (hx _ _)) (aV 17 j (λw _=>e9 (J:=1) j j (by decide)) (bT 18 j (λw h=>h.cell j) (aV 19 j (λw _=>e9 (J:=2) j j (by decide)) (bT 20 j (λw h=>h.cell j) (aV 21 j (λw _=>dr j j (lG _ _)) (aV 22 j (λw _=>dr j j (hx _ _)) (aW 1 j (bF j j j (lM (o:=_) (x:=(rounds p s i).a) (n:=2) (by decide)) (λq hw=>?_)))))))))))))
  subst hw
  refine an ⟨b,?_⟩
  refine aW 3 j (bF j j j (lM (o:=_) (x:=(rounds p s i).a) (n:=13) (by decide)) (λq hw=>?_))
  subst hw
  refine an ⟨b,?_⟩
  refine aV 4 j (λw _=>dr j j (hx _ _)) (aW 6 j (bF j j j (lM (o:=_) (x:=(rounds p s i).a) (n:=22) (by decide)) (λq hw=>?_)))
  subst hw
  refine an ⟨b,?_⟩
  refine aV 7 j (λw _=>dr j j (hx _ _)) (aV 23 j (λw _=>dr j j (ht _ _)) (af 24 1 j (bO (bt 3 j j j (ht _ _) (ar 1 j (gJ (J:=1) j j j j (by decide) ?_))))))
  refine au 0 j (aw (C.aj b) j) (gJ (J:=2) j j j j (by decide) (au 0 j (aw (C.aj b) j) (gJ (J:=3) j j j j (by decide) (au 0 j (aw (C.aj b) j) (bt 1 j j j (ht _ _) (ar 1 j (gJ (J:=5) j j j j (by decide) ?_)))))))
  refine au 0 j (aw (C.aj b) j) (gJ (J:=6) j j j j (by decide) (au 0 j (aw (C.aj b) j) (cO (c:=(rounds p s (i+1)).cs.toArray) j j j (λ_=>by kernel_rfl) (cp 0 b j j j j j (λw b=>?_)))))
  have b:C o [] [R m (rounds p s (i+1)).cs.toArray 137,R g (fi (dW p 48)) 139,R d iN.cs.toArray 137,R f s.cs.toArray 137] w:=C.whole (U:=(rounds p s (i+1)).cs) b (Eq.refl 8)
  refine bt 2 j j j (c2 i (by omega)) (bX 1 j ?_)
  exact⟨i+1,⟨j,j,j,j,j,j,j,ba⟩,⟨k,b⟩,by omega⟩
 have G:i=64:=by have:=bw v;omega
 subst G
 have b:C o [] [R f s.cs.toArray 137,R m (rounds p s 64).cs.toArray 137,R g (fi (dW p 48)) 139,R d iN.cs.toArray 137] w:=b.f3
 refine cY 6 j (cA:=Nat) (λJ=>[(1,.slice (some t) p.length c),(2,Z eQ),(3,Z f),(6,Z d),(7,Z g),(12,Z m),(18,.int .i64 (J:Nat))]) (λJ w=>J<=8/\C o [] [R f (mixed s (rounds p s 64) J).toArray 137,R m (rounds p s 64).cs.toArray 137,R g (fi (dW p 48)) 139,R d iN.cs.toArray 137] w) (λJ=>8-J) 0 ⟨j,j,j,j,j,j,j,ba⟩ ⟨ch _,b⟩ ?_
 rintro J w ⟨H,b⟩
 refine aT 5 j j (λy=>?_) (λy=>?_)
 .have k:J<8:=by have:=br y;omega
  have b:=b.drew
  refine bz 3 j (λw=>C o [] [R f (mixed s (rounds p s 64) J).toArray 137,R m (rounds p s 64).cs.toArray 137,R g (fi (dW p 48)) 139,R d iN.cs.toArray 137] w) b (af 0 2 j (aV 2 j (λw _=>e9 (J:=J) j j k) (bT 3 j (λw h=>h.cell (yQ s (rounds p s 64) k)) (af 4 1 j (aV 5 j (λw _=>e9 (J:=J) j j k) (bT 6 j (λw h=>h.f1.cell (rN _ k)) (aV 7 j (λw _=>dr j j (ht _ _)) (aV 8 j (λw _=>e9 (J:=J) j j k) (dy 9 j (cC b j j j j (by rw [yR _ _ k];exact k) (λw b=>?_)))))))))))
  have b:C o [] [R f (mixed s (rounds p s 64) (J+1)).toArray 137,R m (rounds p s 64).cs.toArray 137,R g (fi (dW p 48)) 139,R d iN.cs.toArray 137] w:=by rw [<-yS s (rounds p s 64) k];exact b
  refine an (cX (bt 2 j j j (c2 J (by omega)) (bX 1 j ?_)))
  exact⟨J+1,⟨j,j,j,j,j,j,j,ba⟩,⟨k,b⟩,by omega⟩
 have K:J=8:=by have:=bw y;omega
 subst K
 have b:=b.f3
 refine bS 3 (U:=(jo p s).cs) j j j b.f1.bN (cp 0 b j j j j j (λw b=>?_))
 have b:C o [] (R d (jo p s).cs.toArray 137::_) w:=C.whole (U:=(jo p s).cs) b (Eq.refl 8)
 refine bJ 0 j ⟨_,hb (U:=(jo p s).cs) results110 j j j b.bN,?_⟩
 exact⟨j,b.bare⟩
def h7(p:List UInt8)(J:Nat):List UInt8:=(p++[128])++List.replicate J 0
def kp(p:List UInt8)(J:Nat):List UInt8:=h7 p (jm p.length)++(List.range J).map (lL p.length)
theorem nh(p:List UInt8)(J:Nat):(h7 p J).length=p.length+1+J:=by simp [h7];omega
theorem Gc(p:List UInt8)(J:Nat):h7 p J++[0]=h7 p (J+1):=by unfold h7;rw [List.append_assoc,<-List.replicate_succ']
theorem Gd(p:List UInt8)(J:Nat):kp p J++[lL p.length J]=kp p (J+1):=by unfold kp;rw [List.append_assoc,List.range_succ,List.map_append];rfl
theorem qx(p:List UInt8)(J:Nat):(kp p J).length=p.length+1+jm p.length+J:=by unfold kp;rw [List.length_append,nh,List.length_map,List.length_range]
theorem zn(p:List UInt8):kp p 8=eu p:=by unfold kp h7 eu;rw [List.append_assoc]
theorem Ge(n:Nat):jm n<=63:=by unfold jm;split<;>omega
theorem DH(n:Nat)(h:n<=1000000000):evalBin .mul .u64 (n:Int) 8=some (.int .u64 ((8*n:Nat):Int)):=by
 show some (Value.int .u64 (IntKind.u64.wrap ((n:Int)*8)))=_
 rw [oA]
 exact aL (λz=>some (Value.int .u64 z)) (by omega)
theorem Dp(J:Nat)(h:J<9):evalBin .sub .i64 (7-(J:Int)) 1=some (.int .i64 (7-((J+1:Nat):Int))):=by
 show some (Value.int .i64 (IntKind.i64.wrap ((7-(J:Int))-1)))=_
 rw [jR]
 exact aL (λz=>some (Value.int .i64 z)) (by omega)
theorem Bd{P:Program}{n:Fr}{aa:Env}{w:World}{dst:Option Nat}{ty:TypeId}{pos:String}{after:Array Edge}{g:Option (Nat×Bool)}{t e:TypeId}{x y f:Operand}{b l c:Nat}{k dj:IntKind}{i J:Nat}(m:Nat){z:Value}{bytes:Nat}[hu:bC P t (.slice e)][u:cq P e z 1 bytes]
 (B:bs aa x=some (.slice (some ⟨b,0,none⟩) l c)) (C:bs aa y=some (.int k i)) (D:bs aa f=some (.int dj J)) (F:J=i+m) (p:J<=c) (E:i<c):
 ∀a,cG aa n.n a->(execOp a.eval ⟨dst,.slice t x (some y) (some f) none,ty,pos,after,g⟩).run P w= .ok (.value (.slice (some ⟨b,i,none⟩) m (c-i))) w:=λa d=>by
 obtain⟨inf,v,_,A,_⟩:=u.parts
 have q:¬c<J:=by omega
 have r:¬J<i:=by omega
 have s:¬c=i:=by omega
 have j:((⟨b,0,none⟩:Addr).add i)=⟨b,i,none⟩:=by rw [add_lit,fk]
 have o:J-i=m:=by omega
 simp [execOp,d.eval B,d.eval C,d.eval D,Instr.sliceAt,Instr.slice,Instr.sliceBounds,Instr.sliceBound,asIntOf,d6 hu.h,sizeOf,typeInfo,v,A,q,r,s,j,o]
 rw [a6 p,a6 (by omega)]
theorem Dd{cur:Array Value}{n:Nat}{M:List UInt8}(h:cur.toList.take n=aE M){k i:Nat}{v:Value}(a:(aE ((M.drop k).take 64))[i]? =some v):cur[k+i]? =some v:=by
 rw [xa,ua,jw] at a
 split at a
 .rw [lx,<-h,jw] at a
  split at a
  .simpa using a
  .cases a
 .cases a
def lK(s:eL)(i:Nat):List UInt8:=s.out.take i++List.replicate (32-i) 0
theorem Ga(s:eL){i:Nat}(h:i<32):s.out.getD i 0=b1 (s.ws.getD (i/4) 0>>>(24-8*(i%4))):=by
 obtain⟨q,r,b,c,rfl⟩:∃q r,q<8/\r<4/\i=4*q+r:=⟨i/4,i%4,by omega,by omega,by omega⟩
 have a:r=0\/r=1\/r=2\/r=3:=by omega
 rw [show(4*q+r)/4=q by omega,show(4*q+r)%4=r by omega]
 rcases oU b with rfl|rfl|rfl|rfl|rfl|rfl|rfl|rfl<;>rcases a with rfl|rfl|rfl|rfl<;>rfl
theorem F8(s:eL){i:Nat}(h:i<=32):(lK s i).length=32:=by
 unfold lK
 rw [ca,List.length_take,List.length_replicate,eL.vv]
 omega
theorem F9(s:eL){i:Nat}(h:i<32):(aE (lK s i)).toArray.setIfInBounds i (bv (b1 (s.ws.getD (i/4) 0>>>(24-8*(i%4)))))=(aE (lK s (i+1))).toArray:=by
 have a:i<s.out.length:=by rw [eL.vv];exact h
 rw [<-Ga s h]
 apply fu
 unfold lK
 rw [show 32-i=(32-(i+1))+1 by omega,tx]
 simp [aE,List.set_append,List.getD,a,Nat.min_eq_left (Nat.le_of_lt a)]
 rw [fF (by simpa using a)]
 simp
theorem GJ{o:World}{A:Option Addr}{p:List UInt8}{c:Nat}(V:Rd o A (aE p))(M:p.length<=1000000000):Calls prog 52 #[.slice A p.length c] o (aS λr w=>r= .agg (aE (bL p)).toArray/\C o [] [] w):=by
 have a:Own [] o:=C.start o
 have ai:=Ge p.length
 have ah:=zK p
 have D:=qx p 8
 rw [zn] at D
 refine e7 [.slice A p.length c] (fn:=f52) func52 ntmps52 (cn 2 a j (λaJ w a=>?_))
 have a:C o [] [R aJ (aE (gF gH 0)).toArray 66] w:=a
 refine ar 2 j (fe a j j j j j j bR (λY w a=>?_))
 refine ar 1 j (eK a (Row.made (size:=1) (by simp [maxLen]) (Nat.zero_le _)) j j (by decide) j j j (news:=aE p) (by simp) (a.rd V (bU.of_nil _ _)) (fH p) (by omega) (by unfold maxLen;omega) (λv ak w b a=>?_))
 refine fe a j j j j j j bR (λG w a=>?_)
 have aP:Rd w (some ⟨G,0,none⟩) [bv 128]:=a.bN
 have a:=a.f1
 refine eK a b j j (by decide) j j j (m:=1) (news:=[bv 128]) j aP (fH [128]) (by omega) (by unfold maxLen;omega) (λv ak w b a=>?_)
 have a:=a.f1.drop
 have b:dN v (h7 p 0) ak:=by
  have K:aE (h7 p 0)=[]++aE p++[bv 128]:=by simp [h7,aE]
  have L:(h7 p 0).length=0+p.length+1:=by rw [nh];omega
  show Row 5 1 v (h7 p 0).length (aE (h7 p 0)) ak
  rw [K,L]
  exact b
 refine cY 3 j (cA:=Nat×Value×List Chunk) (λi=>[(0,.slice A p.length c),(2,Z aJ),(3,i.2.1)]) (λi w=>i.1<=jm p.length/\dN i.2.1 (h7 p i.1) i.2.2/\C o [] [i.2.2,R aJ (aE (gF gH 0)).toArray 66] w) (λi=>jm p.length-i.1) (0,v,ak) ⟨j,j,j,ba⟩ ⟨ch _,b,a⟩ ?_
 rintro⟨J,v,ak⟩ w ⟨t,b,a⟩
 dsimp only at t b a⊢
 obtain⟨F,e1,rfl,aj,al,_,_⟩:=b.rd a
 refine ar 5 j (wr (J:=64) j j j j (by decide) ?_)
 refine aT 1 j j (λu=>?_) (λu=>?_)
 .have l:J<jm p.length:=by
   have n:(h7 p J).length%64≠56:=by have:=u;simp at this;omega
   rw [nh] at n
   have aa:J≠jm p.length:=λe=>by rw [e] at n;unfold jm at n;split at n<;>omega
   omega
  refine ar 4 j (fe a j j j j j j bR (λH w a=>?_))
  have aP:Rd w (some ⟨H,0,none⟩) [bv (0)]:=a.bN
  have a:=a.f1
  refine eK a b j j (by decide) j j j (m:=1) (news:=[bv (0)]) j aP (fH [0]) (by simp only [nh,qx];omega) (by simp only [nh,qx];unfold maxLen;omega) (λv ak w b a=>?_)
  have a:=a.f1.drop
  have b:dN v (h7 p (J+1)) ak:=by
   rw [<-Gc]
   show Row 5 1 v (h7 p J++[0]).length (aE (h7 p J++[0])) ak
   rw [ca,t9]
   exact b
  refine bX 1 j ?_
  exact⟨(J+1,v,ak),⟨j,j,j,ba⟩,⟨l,b,a⟩,by dsimp only;omega⟩
 have P:J=jm p.length:=by
  have n:(h7 p J).length%64=56:=by have:=u;simp at this;omega
  rw [nh] at n
  unfold jm at t⊢
  split at t<;>(split<;>omega)
 subst P
 have b:dN (.slice F (h7 p (jm p.length)).length e1) (kp p 0) ak:=by unfold kp;simpa using b
 refine ar 5 j (hF j j j (m3 p.length (by omega)) ?_)
 refine bt 0 j j j (DH p.length M) (cY 6 j (cA:=Nat×Value×List Chunk) (λi=>[(2,Z aJ),(3,i.2.1),(4,.int .u64 ((8*p.length:Nat):Int)),(5,.int .i64 (7-(i.1:Int)))]) (λi w=>i.1<=8/\dN i.2.1 (kp p i.1) i.2.2/\C o [] [i.2.2,R aJ (aE (gF gH 0)).toArray 66] w) (λi=>8-i.1) (0,_,ak) ⟨j,j,j,j,ba⟩ ⟨ch _,b,a⟩ ?_)
 rintro⟨J,v,ak⟩ w ⟨t,b,a⟩
 dsimp only at t b a⊢
 refine aT 5 j j (λx=>?_) (λx=>?_)
 .have l:J<8:=by have:=br x;omega
  refine ar 7 j (b2 33 (.int .i64 ((7-J:Nat):Int)) j (aL (Value.int .i64) (by omega)) ?_)
  refine bt 0 j j j (jD 8 (7-J) (by omega)) (hF j j j (m3 (8*(7-J)) (by omega)) (i9 j j j j (by omega) (xJ (8*p.length) (8*(7-J)) (by omega)) (hF j j j (xn _) (fe a j j j j j j bR (λI w a=>?_)))))
  have aP:Rd w (some ⟨I,0,none⟩) [bv (lL p.length J)]:=a.bN
  have a:=a.f1
  refine eK a b j j (by decide) j j j (m:=1) (news:=[bv (lL p.length J)]) j aP (fH [lL p.length J]) (by simp only [nh,qx];omega) (by simp only [nh,qx];unfold maxLen;omega) (λv ak w b a=>?_)
  have a:=a.f1.drop
  have b:dN v (kp p (J+1)) ak:=by
   rw [<-Gd]
   show Row 5 1 v (kp p J++[lL p.length J]).length (aE (kp p J++[lL p.length J])) ak
   rw [ca,t9]
   exact b
  refine bt 3 j j j (Dp J (by omega)) (bX 1 j ?_)
  exact⟨(J+1,v,ak),⟨j,j,j,j,ba⟩,⟨l,b,a⟩,by dsimp only;omega⟩
 have Q:J=8:=by have:=bw x;omega
 subst Q
 rw [zn] at b
 refine ar 3 j (cO (c:=gH.cs.toArray) j j j (λ_=>by kernel_rfl) ?_)
 refine cn 0 a j (λd w a=>cp 0 a j j j j j (λw a=>?_))
 have a:C o [] [R d (hB (eu p) 0).cs.toArray 137,ak,R aJ (aE (gF gH 0)).toArray 66] w:=C.whole (U:=gH.cs) a (Eq.refl 8)
 refine bp 2 (GG (o:=w)) j (λw ad=>?_)
 have a:=a.aN ad
 refine cn 0 a j (λg w a=>cp 0 a j j j (by decide) (by decide) (λw a=>?_))
 have a:=C.whole (U:=fY fE) a j
 obtain⟨_,b|⟨f,cap,cur,rfl,rfl,ab,ac,ae,E⟩⟩:=b
 .exact absurd b.2.1 (by rw [D];omega)
 rw [gT] at E
 have ag:(eu p).length%64=0:=by rcases ia p with h|h<;>omega
 refine cY 5 j (cA:=Nat) (λk=>[(2,Z aJ),(3,.slice (some ⟨f,0,none⟩) (eu p).length cap),(6,Z d),(7,Z g),(8,.int .i64 (64*k:Nat))]) (λk w=>64*k<=(eu p).length/\C o [] [R g (fY fE).toArray 139,R d (hB (eu p) k).cs.toArray 137,R f cur 5,R aJ (aE (gF gH 0)).toArray 66] w) (λk=>(eu p).length-64*k) 0 ⟨j,j,j,j,j,ba⟩ ⟨ch _,a⟩ ?_
 rintro k w ⟨ad,a⟩
 refine aT 7 j j (λy=>?_) (λy=>?_)
 .have l:64*k<(eu p).length:=by have:=br y;omega
  have a:=a.drew
  refine bz 3 j (λw=>C o [] [R g (fY fE).toArray 139,R d (hB (eu p) k).cs.toArray 137,R f cur 5,R aJ (aE (gF gH 0)).toArray 66] w) a (aV 0 j (λw h=>dc (U:=(hB (eu p) k).cs) j j j h.f1.bN) (af 1 3 j (aV 4 j (λw _=>dr j j (gh (64*k) 64 (by omega))) (aV 5 j (λw _=>Bd 64 (i:=64*k) (J:=64*k+64) j j j j (by omega) (by omega)) (aW 6 j ?_)))))
  have W:Rd _ (some ⟨f,64*k,none⟩) (aE (((eu p).drop (64*k)).take 64)):=a.f2.i3 (λi v X=>Dd E X)
  have T:(((eu p).drop (64*k)).take 64).length=64:=by rw [hi,iP];omega
  have B:=CC (s:=hB (eu p) k) (p:=((eu p).drop (64*k)).take 64) (c:=cap-64*k) W a.first (by omega)
  rw [T] at B
  refine bF j j j B (λw ad=>?_)
  have a:=a.aN ad
  refine an ⟨a,?_⟩
  refine dy 7 j ?_
  have a:C o [] [R d (hB (eu p) k).cs.toArray 137,R g (fY fE).toArray 139,R f cur 5,R aJ (aE (gF gH 0)).toArray 66] w:=a.f1
  refine c5 a j j j j (Eq.refl 8) bR (λw a=>?_)
  have a:C o [] [R d (hB (eu p) (k+1)).cs.toArray 137,R g (fY fE).toArray 139,R f cur 5,R aJ (aE (gF gH 0)).toArray 66] w:=C.whole (U:=(hB (eu p) (k+1)).cs) a (Eq.refl 8)
  have a:=a.f1
  refine an (cX (bt 2 j j j (gh (64*k) 64 (by omega)) (bX 1 j ?_)))
  exact⟨k+1,⟨j,j,j,j,j,ba⟩,⟨by omega,a⟩,by omega⟩
 have S:k=(eu p).length/64:=by have:=bw y;omega
 subst S
 refine cn 3 a j (λq w a=>?_)
 have a:C o [] [[(q,.cells (aE (lK ((hB (eu p) ((eu p).length/64))) 0)).toArray 66 (0,0))],R g (fY fE).toArray 139,[(d,.cells (hB (eu p) ((eu p).length/64)).cs.toArray 137 (0,0))],R f cur 5,R aJ (aE (gF gH 0)).toArray 66] w:=a
 refine cY 5 j (cA:=Nat) (λi=>[(2,Z aJ),(6,Z d),(9,Z q),(10,.int .i64 (i:Nat))]) (λi w=>i<=32/\C o [] [[(q,.cells (aE (lK ((hB (eu p) ((eu p).length/64))) i)).toArray 66 (0,0))],R g (fY fE).toArray 139,[(d,.cells (hB (eu p) ((eu p).length/64)).cs.toArray 137 (0,0))],R f cur 5,R aJ (aE (gF gH 0)).toArray 66] w) (λi=>32-i) 0 ⟨j,j,j,j,ba⟩ ⟨ch _,a⟩ ?_
 rintro i w ⟨N,a⟩
 refine aT 5 j j (λz=>?_) (λz=>?_)
 .have l:i<32:=by have:=br z;omega
  refine ar 6 j (tr (J:=4) j j j j (by decide) (by omega) ?_)
  refine gJ (J:=i/4) j j j j (by omega) (au 0 j (a.f2.cell (rN _ (by omega))) (ar 1 j (wr (J:=4) j j j j (by decide) ?_)))
  refine bt 0 j j j (jD 8 (i%4) (by omega)) (bt 0 j j j (hv 24 (8*(i%4)) (by omega) (by omega)) (hF j j j (m3 (24-8*(i%4)) (by omega)) (i9 j j j j (by omega) (lH _ (24-8*(i%4)) (by omega)) (hF j j j (p6 _) (gJ (J:=i) j j j j (by omega) (cC a j j j j (by simp [ds,F8 _ N];omega) (λw a=>?_)))))))
  have a:C o [] [[(q,.cells (aE (lK ((hB (eu p) ((eu p).length/64))) (i+1))).toArray 66 (0,0))],R g (fY fE).toArray 139,[(d,.cells (hB (eu p) ((eu p).length/64)).cs.toArray 137 (0,0))],R f cur 5,R aJ (aE (gF gH 0)).toArray 66] w:=by rw [<-F9 _ l];exact a
  refine bt 2 j j j (c2 i (by omega)) (bX 1 j ?_)
  exact⟨i+1,⟨j,j,j,j,ba⟩,⟨l,a⟩,by omega⟩
 have O:i=32:=by have:=bw z;omega
 subst O
 have a:C o [] [R q (aE (bL p)).toArray 66,R g (fY fE).toArray 139,[(d,.cells (hB (eu p) ((eu p).length/64)).cs.toArray 137 (0,0))],R f cur 5,R aJ (aE (gF gH 0)).toArray 66] w:=by
  have e:lK (hB (eu p) ((eu p).length/64)) 32=bL p:=by
   unfold lK
   rw [GI,il (by rw [e4];omega)]
   simp
  rw [<-e]
  exact a
 refine bS 3 (U:=aE (bL p)) j j (qL p) a.bN (c5 a.f4 j j j (by simpa using fH (bL p)) (qL p) (by simp [ds,oZ _ (Nat.zero_le 8)]) (λw a=>?_))
 have a:=C.whole (U:=aE (bL p)) a j
 refine bJ 0 j ⟨_,hb (U:=aE (bL p)) results52 j j j a.bN,?_⟩
 exact⟨j,a.bare⟩
theorem Az{o:World}{A:Option Addr}{p:List UInt8}{c:Nat}(d:Rd o A (aE p))(b:p.length<=1000000000):Calls prog 23 #[.slice A p.length c] o (aS λr w=>r= .agg (aE (bL p)).toArray/\C o [] [] w):=by
 have a:Own [] o:=C.start o
 refine e7 [.slice A p.length c] (fn:=f23) func23 ntmps23 (cn 2 a j (λaJ w a=>bp 3 (GJ (c:=c) (a.rd d (bU.of_nil _ _)) b) j (λw ad=>?_)))
 have a:=a.aN ad
 refine cp 0 a j j j (by simpa using fH (bL p)) (qL p) (λw a=>?_)
 have a:=C.whole (U:=aE (bL p)) a j
 refine bJ 0 j ⟨_,hb (U:=aE (bL p)) results23 j j j a.bN,?_⟩
 exact⟨j,a.bare⟩
structure dv where
 n:Int
 k:Int
 s:Int
 v:Int
 x:List UInt8
def ih(n h:Nat)(H:List dv)(k s v:Int)(x:List UInt8):Prop:=
 ∃l:List Int,l.Nodup/\(∀i∈l,0<=i/\i<(n:Int)/\(i<(h:Int)->(⟨i,k,s,v,x⟩:dv)∈H))/\h8 n<=l.length
theorem ih.mono{n h:Nat}{H d:List dv}{k s v:Int}{x:List UInt8}(e:ih n h H k s v x)(aM:∀c∈H,c∈d):ih n h d k s v x:=by
 obtain⟨l,f,a,g⟩:=e
 exact⟨l,f,λi b=>⟨(a i b).1,(a i b).2.1,λj=>aM _ ((a i b).2.2 j)⟩,g⟩
theorem y3{n h:Nat}{l:List Int}(aP:l.Nodup)(k:∀i∈l,(h:Int)<=i/\i<(n:Int)):l.length<=n-h:=by
 have c:(l.map λi=>i-(h:Int)).Nodup:=by
  refine tw.2 (aP.imp fun{a b}f e=>f (by omega))
 have d:=qr (n-h) (l.map λi=>i-(h:Int)) c (λi g=>by
  obtain⟨J,j,rfl⟩:=dT.1 g
  have:=k J j
  omega)
 simpa using d
theorem Ad(l:List Int)(p:Int->Bool):l.length=(l.filter p).length+(l.filter λi=> !p i).length:=by
 induction l with
 |nil=>rfl
 |cons a r c=>
  cases b:p a<;>simp [om,b]<;>omega
theorem common{n h:Nat}{l m:List Int}(u:h<=n)(bx:n-h<=hy n)(t:1<=n)(k:l.Nodup)(hm:m.Nodup)(be:∀i∈l,0<=i/\i<(n:Int))(ag:∀i∈m,0<=i/\i<(n:Int))
 (v:h8 n<=l.length) (w:h8 n<=m.length):∃i,i∈l/\i∈m/\i<(h:Int):=by
 refine Classical.byContradiction λj=>?_
 have j:∀i,i∈l->i∈m->i<(h:Int)->False:=λi a b c=>j ⟨i,a,b,c⟩
 have f1:(3:Nat)*hy n+1<=n:=by unfold hy;omega
 have f2:h8 n=n-hy n:=rfl
 have vM:=Ad l (λi=>decide (i<(h:Int)))
 have sm:=Ad m (λi=>decide (i<(h:Int)))
 have r:(l.filter λi=> !decide (i<(h:Int))).length<=n-h:=y3 (k.filter _) (λi f=>by
  have d:=hL.1 f
  have g:=be i d.1
  have o:¬i<(h:Int):=by simpa using d.2
  omega)
 have s:(m.filter λi=> !decide (i<(h:Int))).length<=n-h:=y3 (hm.filter _) (λi f=>by
  have d:=hL.1 f
  have g:=ag i d.1
  have o:¬i<(h:Int):=by simpa using d.2
  omega)
 have a3:((l.filter λi=>decide (i<(h:Int)))++(m.filter λi=>decide (i<(h:Int)))).length<=h:=by
  refine qr h _ ?_ ?_
  .refine iy.2 ⟨k.filter _,hm.filter _,λa p b q e=>?_⟩
   subst e
   have d:=hL.1 p
   have g:=hL.1 q
   exact j a d.1 g.1 (by simpa using d.2)
  .intro i f
   rcases dA.1 f with f|f
   .have d:=hL.1 f
    exact⟨(be i d.1).1,by simpa using d.2⟩
   .have d:=hL.1 f
    exact⟨(ag i d.1).1,by simpa using d.2⟩
 rw [ca] at a3
 omega
theorem ih.meet{n h:Nat}{H c:List dv}{k dj s eN v d:Int}{x y:List UInt8}(o:h<=n)(bx:n-h<=hy n)(j:1<=n)(e:ih n h H k s v x)(gY:ih n h c dj eN d y):
 ∃i:Int,(⟨i,k,s,v,x⟩:dv)∈H/\(⟨i,dj,eN,d,y⟩:dv)∈c:=by
 obtain⟨l,f,b,a3⟩:=e
 obtain⟨m,ax,aJ,g⟩:=gY
 obtain⟨i,p,hm,a⟩:=common o bx j f ax (λi a=>⟨(b i a).1,(b i a).2.1⟩) (λi a=>⟨(aJ i a).1,(aJ i a).2.1⟩) a3 g
 exact⟨i,(b i p).2.2 a,(aJ i hm).2.2 a⟩
def q4(n h:Nat)(c:dv)(H:List dv):Prop:=
 (∀y,(⟨c.n,c.k,c.s,c.v,y⟩:dv)∈H->False)/\
 (c.k=1->∀v y,(⟨c.n,2,c.s,v,y⟩:dv)∈H->v<=c.v/\(v<c.v->∃u,v<=u/\u<=c.v/\ih n h H 1 c.s u c.x))/\
 (c.k=2->ih n h H 1 c.s c.v c.x/\∀w y,(⟨c.n,1,c.s,w,y⟩:dv)∈H->w<=c.v)
def Valid(n h:Nat):List dv->Prop
 |[]=>True
 |c::H=>q4 n h c H/\Valid n h H
theorem Valid.tail{n h:Nat}:∀{A H:List dv},Valid n h (A++H)->Valid n h H
 |[],_,v=>v
 |_::_,_,v=>Valid.tail v.2
theorem Valid.one{n h:Nat}:∀{H:List dv},Valid n h H->∀{i k s v:Int}{x y:List UInt8},(⟨i,k,s,v,x⟩:dv)∈H->(⟨i,k,s,v,y⟩:dv)∈H->x=y
 |[],_,_,_,_,_,_,_,e,_=>by cases e
 |c::H,d,i,k,s,v,x,y,e,f=>by
  rcases gd.1 e with b|b
  .rcases gd.1 f with a|a
   .rw [<-b] at a;cases a;rfl
   .subst b;exact(d.1.1 y a).elim
  .rcases gd.1 f with a|a
   .subst a;exact(d.1.1 x b).elim
   .exact Valid.one d.2 b a
theorem Valid.rL{n h:Nat}:∀{H:List dv},Valid n h H->∀{i s v:Int}{x:List UInt8},(⟨i,2,s,v,x⟩:dv)∈H->ih n h H 1 s v x
 |[],_,_,_,_,_,a=>by cases a
 |c::H,d,i,s,v,x,a=>by
  rcases gd.1 a with a|a
  .subst a;exact(d.1.2.2 j).1.mono λc b=>lr _ b
  .exact(Valid.rL d.2 a).mono λc b=>lr _ b
theorem Valid.reason{n h:Nat}{H:List dv}{i s v w:Int}{x y:List UInt8}(hw:v<w):∀{b A:List dv},H=A++b->Valid n h H->(⟨i,2,s,v,x⟩:dv)∈H->(⟨i,1,s,w,y⟩:dv)∈b->
 ∃B a8,b=B++(⟨i,1,s,w,y⟩:dv)::a8/\∃u,v<=u/\u<=w/\ih n h a8 1 s u y:=by
 intro b A d c a k
 obtain⟨B,a8,rfl⟩:=List.append_of_mem k
 refine⟨B,a8,j,?_⟩
 rw [<-dH] at d
 subst d
 have f:q4 n h (⟨i,1,s,w,y⟩:dv) a8:=(Valid.tail c).1
 rcases dA.1 a with a|a
 .
  exfalso
  obtain⟨D,E,g⟩:=List.append_of_mem a
  rw [g,dH] at c
  have e:q4 n h (⟨i,2,s,v,x⟩:dv) (E++(⟨i,1,s,w,y⟩:dv)::a8):=(Valid.tail c).1
  have:=(e.2.2 j).2 w y (dA.2 (.inr (by simp)))
  exact absurd this (by show¬w<=v;omega)
 .rcases gd.1 a with a|a
  .cases a
  .exact(f.2.1 j v x a).2 hw
theorem Valid.agree{n h:Nat}(j:h<=n)(bx:n-h<=hy n)(f:1<=n){H:List dv}(g:Valid n h H){s v:Int}{x:List UInt8}(e:ih n h H 2 s v x):
 ∀(d:Nat)(m:Nat)(w:Int)(A a:List dv)(y:List UInt8),H=A++a->w=v+d->a.length<=m->ih n h a 1 s w y->y=x:=by
 intro d
 induction d using Nat.strongRecOn with
 |_ d G=>
  intro m
  induction m with
  |zero=>
   intro w A a y b hw k he
   have:a=[]:=lu (by omega)
   subst this
   obtain⟨i,_,D⟩:=e.meet j bx f he
   cases D
  |succ m I=>
   intro w A a y b hw k he
   obtain⟨i,p,E⟩:=e.meet j bx f he
   by_cases K:d=0
   .have F:w=v:=by omega
    subst F
    have z:=g.rL p
    have C:ih n h H 1 s w y:=he.mono λc e=>by rw [b];exact dA.2 (.inr e)
    obtain⟨J,r,t⟩:=z.meet j bx f C
    exact(g.one r t).symm
   .obtain⟨B,a8,l,u,L,M,q⟩:=Valid.reason (by omega) b g p E
    have o:H=(A++(B++[(⟨i,1,s,w,y⟩:dv)]))++a8:=by rw [b,l];simp
    by_cases hu:u=w
    .subst hu
     exact I u _ a8 y o hw (by rw [l] at k;simp at k;omega) q
    .exact G (u-v).toNat (by omega) a8.length u _ a8 y o (by omega) (cB _) q
theorem Valid.safe{n h:Nat}(e:h<=n)(bx:n-h<=hy n)(c:1<=n){H:List dv}(d:Valid n h H){s v w:Int}{x y:List UInt8}(b:ih n h H 2 s v x)(a:ih n h H 2 s w y):x=y:=by
 have key:∀(v w:Int)(x y:List UInt8),v<=w->ih n h H 2 s v x->ih n h H 2 s w y->y=x:=λv w x y g b a=>by
  obtain⟨i,f,_⟩:=a.meet e bx c a
  exact d.agree e bx c b (w-v).toNat H.length w [] H y j (by omega) (cB _) (d.rL f)
 rcases Int.le_total v w with h|h
 .exact(key v w x y h b a).symm
 .exact key w v y x h a b
abbrev f0(l:List aY):List aG:=l.flatMap aY.l
def kw(h:Nat)(H:List dv)(aQ:List aG)(v:aG):Prop:=v∈aQ/\(0<=v.f->v.f<(h:Int)->(⟨v.f,v.k,v.s,v.v,v.sum⟩:dv)∈H)
theorem kw.mono{h:Nat}{H d:List dv}{aQ e:List aG}{v:aG}(f:kw h H aQ v)(g:∀c∈H,c∈d)(i:∀c∈aQ,c∈e):kw h d e v:=⟨i _ f.1,λa b=>g _ (f.2 a b)⟩
abbrev e5(h:Nat)(H:List dv)(aQ:List aG)(l:List aG):Prop:=∀v∈l,kw h H aQ v
theorem e5.mono{h:Nat}{H a:List dv}{aQ b:List aG}{l:List aG}(f:e5 h H aQ l)(d:∀c∈H,c∈a)(e:∀c∈aQ,c∈b):e5 h a b l:=λv g=>(f v g).mono d e
def ln(g:al)(h:Nat)(H:List dv)(aQ:List aG)(k s v:Int)(x:List UInt8):Prop:=
 ∃l:List aG,(l.map aG.f).Nodup/\h8 g.n<=l.length/\∀c∈l,c.k=k/\c.s=s/\c.v=v/\c.sum=x/\_root_.Go.Proofs.YtdcbpdlhhkcjnaaGreatDoor.R.cP g c=true/\kw h H aQ c
theorem ln.mono{g:al}{h:Nat}{H a:List dv}{aQ b:List aG}{k s v:Int}{x:List UInt8}(e:ln g h H aQ k s v x)(r:∀c∈H,c∈a)(t:∀c∈aQ,c∈b):ln g h a b k s v x:=by
 obtain⟨l,o,p,q⟩:=e
 exact⟨l,o,p,λc u=>by obtain⟨d,f,i,j,m,n⟩:=q c u;exact⟨d,f,i,j,m,n.mono r t⟩⟩
theorem ln.fl{g:al}{h:Nat}{H:List dv}{aQ:List aG}{k s v:Int}{x:List UInt8}(e:ln g h H aQ k s v x):ih g.n h H k s v x:=by
 obtain⟨l,r,t,u⟩:=e
 refine⟨l.map aG.f,r,λi z=>?_,by rw [fy];exact t⟩
 obtain⟨c,w,rfl⟩:=dT.1 z
 obtain⟨d,j,m,o,p,q⟩:=u c w
 have a:=r4 p
 refine⟨a.1,a.2,λy=>?_⟩
 have b:=q.2 a.1 y
 rw [d,j,m,o] at b
 exact b
theorem vU:∀(cR acc:List Int),acc.Nodup->(cR.foldl (λacc k=>if k∈acc then acc else acc++[k]) acc).Nodup/\∀k,k∈cR.foldl (λacc k=>if k∈acc then acc else acc++[k]) acc↔k∈acc\/k∈cR
 |[],acc,h=>⟨h,λk=>by simp⟩
 |y::r,acc,h=>by
  rw [ix]
  by_cases c:y∈acc
  .rw [a6 c]
   obtain⟨d,f⟩:=vU r acc h
   refine⟨d,λk=>?_⟩
   rw [f k,gd]
   constructor
   .rintro(h|h)
    .exact .inl h
    .exact .inr (.inr h)
   .rintro(h|rfl|h)
    .exact .inl h
    .exact .inl c
    .exact .inr h
  .rw [aF c]
   obtain⟨d,f⟩:=vU r (acc++[y]) (iy.2 ⟨h,by simp,λa g b i e=>by rw [List.mem_singleton.1 i] at e;subst e;exact c g⟩)
   refine⟨d,λk=>?_⟩
   rw [f k,dA,List.mem_singleton,List.mem_cons]
   constructor
   .rintro((h|h)|h)
    .exact .inl h
    .exact .inr (.inl h)
    .exact .inr (.inr h)
   .rintro(h|h|h)
    .exact .inl (.inl h)
    .exact .inl (.inr h)
    .exact .inr h
theorem H5(xs:List Int):(uniq xs).Nodup/\∀k,k∈uniq xs↔k∈xs:=by
 have h:=vU xs [] List.nodup_nil
 exact⟨h.1,λk=>(h.2 k).trans (by simp)⟩
theorem xe{p:aG->Prop}:∀(dB:List Int),(∀n∈dB,∃c:aG,p c/\c.f=n)->∃l:List aG,l.map aG.f=dB/\∀c∈l,p c
 |[],_=>⟨[],j,by simp⟩
 |n::dB,h=>by
  obtain⟨c,g,aP⟩:=h n (by simp)
  obtain⟨l,b,e⟩:=xe dB (λm hm=>h m (by simp [hm]))
  refine⟨c::l,by simp [aP,b],λd a=>?_⟩
  rcases gd.1 a with rfl|a
  .exact g
  .exact e d a
theorem yL{g:al}{h:Nat}{H:List dv}{aQ:List aG}{l:List aG}{k s v:Int}{x:List UInt8}(hm:meets g l k s v x=true)(t:e5 h H aQ l):ln g h H aQ k s v x:=by
 have e:h8 g.keys.length<=(pi g l k s v x).length:=br hm
 rw [Ik] at e
 obtain⟨aP,r⟩:=H5 (hz g k s v x l (min l.length 10))
 obtain⟨cs,b,i⟩:=xe (p:=λc=>c.k=k/\c.s=s/\c.v=v/\c.sum=x/\_root_.Go.Proofs.YtdcbpdlhhkcjnaaGreatDoor.R.cP g c=true/\kw h H aQ c) (uniq (hz g k s v x l (min l.length 10))) (λn u=>by
  have m:n∈((l.take (min l.length 10)).filter (h5 g k s v x)).map aG.f:=(r n).1 u
  obtain⟨c,q,rfl⟩:=dT.1 m
  have d:=hL.1 q
  have a:=d.2
  unfold h5 at a
  simp only [d8,dX] at a
  exact⟨c,⟨a.1,a.2.1,a.2.2.1,a.2.2.2.1,a.2.2.2.2,t c (mR d.1)⟩,j⟩)
 refine⟨cs,by rw [b];exact aP,?_,i⟩
 have o:cs.length=(uniq (hz g k s v x l (min l.length 10))).length:=by rw [<-b,fy]
 rw [o];exact e
theorem xE{g:al}{h N:Nat}{H:List dv}{aQ:List aG}{s:ai}{b:List aG}{y:List UInt8×List aG}{k v:Int}(i:fD g N b)(he:s.fl g b=some y)(l:∀c∈b,kw h H aQ c/\c.k=k/\c.s=s.slot/\c.v=v):
 ln g h H aQ k s.slot v (bL y.1)/\e5 h H aQ y.2:=by
 obtain⟨x,u,e⟩:=pJ he
 split at e
 .rename_i t
  cases e
  have j:∀c∈jU (e8 b (bL x)),c∈b/\c.sum=bL x:=λc d=>by
   have a:=hL.1 (ub.1 d)
   exact⟨a.1,dX.1 a.2⟩
  refine⟨⟨jU (e8 b (bL x)),?_,t,λc d=>?_⟩,λc d=>(l c (j c d).1).1⟩
  .have r:((jU (e8 b (bL x))).map aG.f).Perm ((e8 b (bL x)).map aG.f):=(oj _ _).map _
   exact r.nodup_iff.2 (vp i _)
  .obtain⟨a,q⟩:=j c d
   obtain⟨m,n,o,p⟩:=l c a
   exact⟨n,o,p,q,i.cP c a,m⟩
 .cases e
structure eF(g:al)(h:Nat)(H:List dv)(aQ:List aG)(s:ai):Prop where
 c3:e5 h H aQ s.c3
 props:∀p∈s.props,e5 h H aQ p.2.l
 cT:∀p∈s.cT,∀v∈p.2,kw h H aQ v/\v.k=1/\v.s=s.slot/\v.v=p.1
 ax:∀p∈s.ax,∀v∈p.2,kw h H aQ v/\v.k=2/\v.s=s.slot/\v.v=p.1
 dh:∀p∈s.dh,∀q∈p.2,e5 h H aQ q.2.l
 dI:e5 h H aQ s.dI
 ct:s.hO<=s.view
 e1:s.comm<=s.view
 fQ:s.fQ=s.comm
 lock:0<=s.comm->(⟨s.am,2,s.slot,s.comm,bL s.dF⟩:dv)∈H
 je:∀c∈H,c.n=s.am->c.s=s.slot->(c.k=1->c.v<=s.hO)/\(c.k=2->0<=c.v/\c.v<=s.comm)
 dec:s.dec=true->∃v,ln g h H aQ 2 s.slot v (bL s.value)
 ok:∃N,s.ok g N
theorem eF.mono{g:al}{h:Nat}{H f:List dv}{aQ j:List aG}{s:ai}(i:eF g h H aQ s)(b:∀c∈H,c∈f)(d:∀c∈aQ,c∈j)(aP:∀c∈f,c.n=s.am->c.s=s.slot->c∈H):eF g h f j s where
 c3:=i.c3.mono b d
 props:=λp a=>(i.props p a).mono b d
 cT:=λp a v e=>⟨(i.cT p a v e).1.mono b d,(i.cT p a v e).2⟩
 ax:=λp a v e=>⟨(i.ax p a v e).1.mono b d,(i.ax p a v e).2⟩
 dh:=λp a q t=>(i.dh p a q t).mono b d
 dI:=i.dI.mono b d
 ct:=i.ct
 e1:=i.e1
 fQ:=i.fQ
 lock:=λm=>b _ (i.lock m)
 je:=λc o k l=>i.je c (aP c o k l) k l
 dec:=λr=>by obtain⟨v,e⟩:=i.dec r;exact⟨v,e.mono b d⟩
 ok:=i.ok
section
variable {g:al} {h:Nat} {H:List dv} {aQ:List aG} {s:ai}
theorem eF.fZ(i:eF g h H aQ s){m:aY}(hm:e5 h H aQ m.l)(j:m.cP):eF g h H aQ (s.fZ g m):=by
 have a:∃N,(s.fZ g m).ok g N:=by obtain⟨N,d⟩:=i.ok;exact⟨N+1,d.fZ j⟩
 have b:∀p∈cj s.props m.v m,e5 h H aQ p.2.l:=λp b=>(i0 b).elim (i.props p) (λe=>by rw [e];exact hm)
 unfold ai.fZ at a⊢
 split
 .exact i
 .rename_i f
  rw [aF f] at a
  unfold ai.jF at a⊢
  split
  .rename_i c
   rw [a6 c] at a
   exact{i with props:=b,ok:=a}
  .rename_i c
   rw [aF c] at a
   exact{i with props:=b,ok:=a}
theorem qq{β:Type}{m:List (Int×List β)}{k:Int}{v:β}(a:v∈(a2 m k).getD []):∃l,(k,l)∈m/\v∈l:=by
 cases ad:a2 m k with
 |none=>rw [ad] at a;cases a
 |some l=>rw [ad] at a;exact⟨l,hN ad,a⟩
theorem wA{l:List aG}{v c:aG}(a:c∈iR l v):c∈l\/c=v:=by
 unfold iR at a
 split at a
 .exact .inl a
 .rcases dA.1 a with a|a
  .exact .inl a
  .exact .inr (gb.1 a)
theorem eF.counts(i:eF g h H aQ s){v:aG}(n:kw h H aQ v)(ad:v.k=1\/v.k=2)(aM:v.s=s.slot)(r:v.ok)(q:_root_.Go.Proofs.YtdcbpdlhhkcjnaaGreatDoor.R.cP g v=true):eF g h H aQ (s.counts v):=by
 have e:∃N,(s.counts v).ok g N:=by obtain⟨N,o⟩:=i.ok;exact⟨N+1,o.counts r q⟩
 unfold ai.counts at e⊢
 split
 .rename_i d
  rw [a6 d] at e
  refine{i with cT:=λp b c a=>?_,ok:=e}
  rcases i0 b with b|rfl
  .exact i.cT p b c a
  .rcases wA a with a|rfl
   .unfold ai.ip at a
    rw [a6 j] at a
    obtain⟨l,f,m⟩:=qq a
    exact i.cT _ f c m
   .exact⟨n,d,aM,j⟩
 .rename_i d
  rw [aF d] at e
  refine{i with ax:=λp b c a=>?_,ok:=e}
  rcases i0 b with b|rfl
  .exact i.ax p b c a
  .rcases wA a with a|rfl
   .unfold ai.ip at a
    rw [aF (by decide)] at a
    obtain⟨l,f,m⟩:=qq a
    exact i.ax _ f c m
   .exact⟨n,ad.resolve_left d,aM,j⟩
theorem eF.di(i:eF g h H aQ s){m:aY}(hm:e5 h H aQ m.l)(c:m.cP):eF g h H aQ (s.di g m):=by
 unfold ai.di
 split
 .exact i
 .rename_i v r b
  split
  .rename_i a
   unfold ai.hR at a
   simp only [d8,mW,dX] at a
   exact i.counts (hm v (by rw [b];simp)) a.1 a.2.1 (c.aH v (by rw [b];simp)) a.2.2.2
  .exact i
theorem eF.status(i:eF g h H aQ s){m:aY}(hm:e5 h H aQ m.l)(k:m.cP):eF g h H aQ (s.status g m):=by
 have d:∃N,(s.status g m).ok g N:=by obtain⟨N,f⟩:=i.ok;exact⟨N+1,f.status k⟩
 unfold ai.status at d⊢
 split
 .rename_i j
  rw [a6 j] at d
  refine{i with dh:=λp e q a=>?_,ok:=d}
  rcases i0 e with e|rfl
  .exact i.dh p e q a
  .dsimp only at a
   split at a
   .obtain⟨l,b,c⟩:=qq a
    exact i.dh _ b q c
   .rcases i0 a with a|rfl
    .obtain⟨l,b,c⟩:=qq a
     exact i.dh _ b q c
    .exact hm
 .exact i
theorem eF.gg(i:eF g h H aQ s){x:List UInt8}{l:List aG}{v:Int}(c:e5 h H aQ l)(b:ln g h H aQ 2 s.slot v (bL x))(j:x.length<=200)(d:l.length<=10)(f:∀x∈l,x.ok):eF g h H aQ (s.gg x l):=by
 have e:∃N,(s.gg x l).ok g N:=by obtain⟨N,a⟩:=i.ok;exact⟨N,a.gg j d f⟩
 exact{i with dI:=c,dec:=λ_=>⟨v,b⟩,ok:=e}
theorem eF.decision(i:eF g h H aQ s){m:aY}(hm:e5 h H aQ m.l)(a:m.cP):eF g h H aQ (s.decision g m):=by
 unfold ai.decision
 split
 .exact i
 .split
  .rename_i v r c b
   exact i.gg hm (yL b hm) a.x a.l a.aH
  .exact i
theorem eF.fh(i:eF g h H aQ s){m:aY}(hm:e5 h H aQ m.l)(a:m.cP):eF g h H aQ (s.fh g m):=by
 unfold ai.fh
 repeat' split
 .exact i.fZ hm a
 .exact i.di hm a
 .exact i.status hm a
 .exact i.decision hm a
 .exact i
theorem ai.Ar(g:al)(s:ai)(m:aY):(s.fh g m).am=s.am/\(s.fh g m).slot=s.slot:=by
 unfold ai.fh
 repeat' split
 .unfold ai.fZ ai.jF
  repeat' split
  all_goals exact⟨j,j⟩
 .unfold ai.di
  repeat' split
  .exact⟨j,j⟩
  .unfold ai.counts;split<;>exact⟨j,j⟩
  .exact⟨j,j⟩
 .unfold ai.status
  split<;>exact⟨j,j⟩
 .unfold ai.decision
  repeat' split
  all_goals exact⟨j,j⟩
 .exact⟨j,j⟩
end
structure Told(g:al)(h:Nat)(H:List dv)(aQ:List aG)(s eN:ai)(l:List aY)(A:List dv):Prop where
 iF:∀c∈A,c.n=s.am/\c.s=s.slot
 valid:Valid g.n h (A++H)
 inv:eF g h (A++H) (aQ++f0 l) eN
 kO:∀m∈l,m.cP/\e5 h (A++H) (aQ++f0 l) m.l
 am:eN.am=s.am
 slot:eN.slot=s.slot
section
variable {g:al} {h:Nat} {H:List dv} {aQ:List aG} {s eN mv:ai}
theorem Told.nil(a:Valid g.n h H)(i:eF g h H aQ eN)(hm:eN.am=s.am)(aM:eN.slot=s.slot):Told g h H aQ s eN [] []:=
 ⟨(by intro c b;cases b),a,by simpa using i,(by intro m hm;cases hm),hm,aM⟩
theorem Told.trans{l f:List aY}{A B:List dv}(a:Told g h H aQ s eN l A)(b:Told g h (A++H) (aQ++f0 l) eN mv f B):Told g h H aQ s mv (l++f) (B++A):=by
 have e:aQ++f0 (l++f)=(aQ++f0 l)++f0 f:=by simp
 have i:(B++A)++H=B++(A++H):=dH _ _ _
 refine⟨λc d=>?_,by rw [i];exact b.valid,by rw [e,i];exact b.inv,λm hm=>?_,b.am.trans a.am,b.slot.trans a.slot⟩
 .rcases dA.1 d with d|d
  .have:=b.iF c d;rw [a.am,a.slot] at this;exact this
  .exact a.iF c d
 .rw [e,i]
  rcases dA.1 hm with hm|hm
  .exact⟨(a.kO m hm).1,(a.kO m hm).2.mono (λc d=>dA.2 (.inr d)) (λc d=>List.mem_append.2 (.inl d))⟩
  .exact b.kO m hm
theorem tQ{m a:aY}(hm:a∈s.all g m):a.l=m.l:=by
 unfold ai.all at hm
 obtain⟨t,_,rfl⟩:=dT.1 hm
 rfl
theorem wI{m a:aY}(hm:a∈s.all g m)(d:m.x.length<=200)(b:m.l.length<=10)(c:∀v∈m.l,v.ok):a.cP:=by
 unfold ai.all at hm
 obtain⟨t,_,rfl⟩:=dT.1 hm
 exact ai.nn d b c
theorem all_some(d:2<=g.n)(m:aY):∃c,c∈s.all g m:=by
 have key:∃t,t∈mo s.am g.n:=by
  unfold mo
  by_cases a:s.am=0
  .exact⟨1,hL.2 ⟨dT.2 ⟨1,mV.2 (by omega),j⟩,by rw [a];decide⟩⟩
  .exact⟨0,hL.2 ⟨dT.2 ⟨0,mV.2 (by omega),j⟩,by simp;omega⟩⟩
 obtain⟨t,b⟩:=key
 exact⟨s.jn g m t,dT.2 ⟨t,b,j⟩⟩
theorem H7(a:2<=g.n){m:aY}{c:aG}(b:c∈m.l):c∈f0 (s.all g m):=by
 obtain⟨d,hm⟩:=all_some (s:=s) a m
 exact nB.2 ⟨d,hm,by rw [tQ hm];exact b⟩
theorem xc{k:Int}{x:List UInt8}{s1:ai}(ad:k=1\/k=2)(p:2<=g.n)(f:s1.am=s.am)(i:s1.slot=s.slot)(t:Valid g.n h H)(q:q4 g.n h ⟨s1.am,k,s1.slot,s1.view,bL x⟩ H)
 (u:∀d,(∀c∈aQ,c∈d)->eF g h (⟨s1.am,k,s1.slot,s1.view,bL x⟩::H) d s1):Told g h H aQ s (s1.aH g k x).1 (s1.aH g k x).2 [⟨s1.am,k,s1.slot,s1.view,bL x⟩]:=by
 have o:=u (aQ++f0 (s1.aH g k x).2) (λc b=>dA.2 (.inl b))
 have w:cU g k s1.slot s1.view (bL x) s1.am∈aQ++f0 (s1.aH g k x).2:=dA.2 (.inr (H7 p (by simp)))
 have e:kw h (⟨s1.am,k,s1.slot,s1.view,bL x⟩::H) (aQ++f0 (s1.aH g k x).2) (cU g k s1.slot s1.view (bL x) s1.am):=⟨w,λ_ _=>of⟩
 obtain⟨N,r⟩:=o.ok
 refine⟨λc b=>?_,⟨q,t⟩,?_,λm hm=>?_,?_,?_⟩
 .rw [gb.1 b];exact⟨f,i⟩
 .exact o.counts e ad j (iU _ _ _ _ _ _ (e4 _)) (xb _ _ _ _ _ r.am)
 .have y:m.l=[cU g k s1.slot s1.view (bL x) s1.am]:=tQ hm
  refine⟨wI hm (ch _) (by show 1<=10;omega) (λv a=>?_),λv a=>?_⟩
  .rw [gb.1 a];exact iU _ _ _ _ _ _ (e4 _)
  .rw [y] at a;rw [gb.1 a];exact e
 .refine Eq.trans ?_ f
  show(s1.counts _).am=s1.am
  unfold ai.counts;split<;>rfl
 .refine Eq.trans ?_ i
  show(s1.counts _).slot=s1.slot
  unfold ai.counts;split<;>rfl
theorem Hb(l:g.ok)(m:Valid g.n h H)(i:eF g h H aQ s){r:ai×List aY}(d:s.gQ g=some r):∃A,Told g h H aQ s r.1 r.2 A:=by
 obtain⟨N,a⟩:=i.ok
 unfold ai.gQ at d
 cases bx:(db s.ax).findSome? λp=>s.fl g p.2 with
 |none=>rw [bx] at d;cases d
 |some y=>
  rw [bx] at d
  cases d
  obtain⟨p,q,e⟩:=pJ bx
  have b:p∈s.ax:=gS.1 q
  obtain⟨f,o⟩:=xE (N:=N) (h:=h) (H:=H) (aQ:=aQ) (k:=2) (v:=p.1) (a.jT p b) e (λc f=>i.ax p b c f)
  exact⟨[],Told.nil m (i.gg o f (a.fl l (a.jT p b) e).1 (a.fl l (a.jT p b) e).2.1 (a.fl l (a.jT p b) e).2.2) j j⟩
theorem Gl(E:2<=g.n)(C:Valid g.n h H)(i:eF g h H aQ s){r:ai×List aY}(d:s.gt g=some r):∃A,Told g h H aQ s r.1 r.2 A:=by
 obtain⟨N,F⟩:=i.ok
 unfold ai.gt at d
 split at d
 .cases d
 .rename_i m hm
  split at d
  .cases d
  .rename_i a
   split at d
   .rename_i w
    cases d
    have L:=hN hm
    have J:=i.e1
    have R:=i.fQ
    refine⟨_,xc (s1:={s with hO:=s.view}) (.inl j) E j j C ⟨λy B=>?_,λ_ v y B=>?_,λad=>absurd ad (show¬((1:Int)=2) by decide)⟩ (λO e=>?_)⟩
    .have t:s.view<=s.hO:=(i.je _ B j j).1 j
     omega
    .have G:0<=v/\v<=s.comm:=(i.je _ B j j).2 j
     show v<=s.view/\(v<s.view->∃u,v<=u/\u<=s.view/\ih g.n h H 1 s.slot u (bL m.x))
     refine⟨by omega,λQ=>?_⟩
     unfold _root_.Go.Proofs.YtdcbpdlhhkcjnaaGreatDoor.R.may at w
     simp only [mW,dX,gL] at w
     rcases w with f|f|f
     .exact absurd f (by omega)
     .refine⟨s.comm,G.2,J,?_⟩
      have o:=C.rL (i.lock (by omega))
      rw [f] at o;exact o
     .split at f
      .rename_i u hu
       have P:u>s.fQ:=by simpa using f
       unfold j3 at hu
       split at hu
       .cases hu
       .rename_i z T S
        split at hu
        .rename_i I
         cases hu
         refine⟨z.v,by omega,by omega,(yL (h:=h) (H:=H) (aQ:=aQ) I.2.2 ?_).fl⟩
         exact i.props _ L
        .cases hu
      .cases f
    .have b:∀c∈H,c∈(⟨s.am,1,s.slot,s.view,bL m.x⟩:dv)::H:=λc l=>lr _ l
     exact{c3:=i.c3.mono b e,props:=λp a=>(i.props p a).mono b e,cT:=λp a v k=>⟨(i.cT p a v k).1.mono b e,(i.cT p a v k).2⟩,ax:=λp a v k=>⟨(i.ax p a v k).1.mono b e,(i.ax p a v k).2⟩,dh:=λp a q M=>(i.dh p a q M).mono b e,dI:=i.dI.mono b e,dec:=λK=>by obtain⟨v,k⟩:=i.dec K;exact⟨v,k.mono b e⟩,ct:=ik _,e1:=i.e1,fQ:=i.fQ,lock:=λD=>b _ (i.lock D),je:=λc l t o=>by
            rcases gd.1 l with rfl|l
            ·exact⟨λ_=>ik _,λad=>absurd ad (show¬((1:Int)=2) by decide)⟩
            ·exact⟨λad=>rm ((i.je c l t o).1 ad) i.ct,(i.je c l t o).2⟩,ok:=⟨N,{F with}⟩}
   .cases d
theorem C3(G:g.ok)(C:2<=g.n)(D:Valid g.n h H)(i:eF g h H aQ s){r:ai×List aY}(o:s.gX g=some r):∃A,Told g h H aQ s r.1 r.2 A:=by
 obtain⟨N,u⟩:=i.ok
 unfold ai.gX at o
 split at o
 .cases o
 .rename_i b
  split at o
  .cases o
  .rename_i y he
   cases o
   have x:=u.fl G (u.ip 1 s.view) he
   obtain⟨a,F⟩:=xE (N:=N) (h:=h) (H:=H) (aQ:=aQ) (k:=1) (v:=s.view) (u.ip 1 s.view) he (λc a=>by
    unfold ai.ip at a
    rw [a6 j] at a
    obtain⟨l,m,t⟩:=qq a
    exact i.cT _ m c t)
   refine⟨_,xc (s1:={s with comm:=s.view,fQ:=s.view,dF:=y.1,c3:=y.2}) (.inr j) C j j D ⟨λz B=>?_,λad=>absurd ad (show¬((2:Int)=1) by decide),λ_=>⟨a.fl,λw z B=>?_⟩⟩ (λJ e=>?_)⟩
   .have m:0<=s.view/\s.view<=s.comm:=(i.je _ B j j).2 j
    omega
   .exact rm ((i.je _ B j j).1 j) i.ct
   .have d:∀c∈H,c∈(⟨s.am,2,s.slot,s.view,bL y.1⟩:dv)::H:=λc a=>lr _ a
    exact{c3:=F.mono d e,props:=λp b=>(i.props p b).mono d e,cT:=λp b v f=>⟨(i.cT p b v f).1.mono d e,(i.cT p b v f).2⟩,ax:=λp b v f=>⟨(i.ax p b v f).1.mono d e,(i.ax p b v f).2⟩,dh:=λp b q I=>(i.dh p b q I).mono d e,dI:=i.dI.mono d e,dec:=λE=>by obtain⟨v,f⟩:=i.dec E;exact⟨v,f.mono d e⟩,ct:=i.ct,e1:=ik _,fQ:=rfl,lock:=λ_=>of,je:=λc a m t=>by
           rcases gd.1 a with rfl|a
           ·exact⟨λad=>absurd ad (show¬((2:Int)=1) by decide),λ_=>⟨u.view.1,ik _⟩⟩
           ·exact⟨(i.je c a m t).1,λad=>⟨((i.je c a m t).2 ad).1,rm ((i.je c a m t).2 ad).2 i.e1⟩⟩,ok:=⟨N,{u with dF:=x.1,c3:=x.2.1,k9:=x.2.2}⟩}
theorem D5{slot view:Int}{l:List (Int×aY)}(a:∀p∈l,e5 h H aQ p.2.l):e5 h H aQ (iD g slot view l).2.2:=by
 have c:∀(x:List UInt8)(ls:List aG),e5 h H aQ ls->e5 h H aQ (kq g slot view x ls).2.2:=λx ls d=>by
  unfold kq
  split
  .exact d
  .intro v b;cases b
 have key:∀(l:List (Int×aY))(k:Int×List UInt8×List aG),(∀p∈l,e5 h H aQ p.2.l)->e5 h H aQ k.2.2->e5 h H aQ (l.foldl (λk p=>k4 g slot view k.2.1 k.2.2 p.2.x p.2.l) k).2.2:=by
  intro l
  induction l with
  |nil=>intro k _ ad;exact ad
  |cons p r f=>
   intro k a ad
   refine f _ (λq e=>a q (by simp [e])) ?_
   unfold k4
   dsimp only
   split
   .exact c _ _ (a p (by simp))
   .exact c _ _ ad
 exact key l _ a (by intro v b;cases b)
theorem CQ(i:eF g h H aQ s){y:List UInt8×List aG}(a:s.gN g=some y):e5 h H aQ y.2:=by
 unfold ai.gN at a
 have hw:∀y:List UInt8×List aG,(if 0<s.want.length then some (s.want,([]:List aG)) else none)=some y->e5 h H aQ y.2:=λy b=>by
  split at b
  .cases b;intro v e;cases e
  .cases b
 split at a
 .split at a
  .cases a
  .rename_i l c
   split at a
   .split at a
    .cases a
     exact D5 (λp d=>i.dh _ (hN c) p (gS.1 d))
    .exact hw y a
   .cases a
 .exact hw y a
theorem Gn(t:Valid g.n h H)(i:eF g h H aQ s){r:ai×List aY}(f:s.gP g=some r):∃A,Told g h H aQ s r.1 r.2 A:=by
 obtain⟨N,k⟩:=i.ok
 unfold ai.gP at f
 split at f
 .cases f
 .split at f
  .cases f
  .rename_i y o
   cases f
   have l:=CQ i o
   have aM:=k.gN o
   have b:∀c∈aQ,c∈aQ++f0 (s.all g ⟨2,0,0,0,s.view,y.1,y.2,cK⟩):=λc j=>dA.2 (.inl j)
   have a:∀c∈H,c∈H:=λc j=>j
   have x:eF g h H (aQ++f0 (s.all g ⟨2,0,0,0,s.view,y.1,y.2,cK⟩)) ({s with prop:=s.view}:ai):={c3:=i.c3.mono a b,props:=λp d=>(i.props p d).mono a b,cT:=λp d v e=>⟨(i.cT p d v e).1.mono a b,(i.cT p d v e).2⟩,ax:=λp d v e=>⟨(i.ax p d v e).1.mono a b,(i.ax p d v e).2⟩,dh:=λp d q w=>(i.dh p d q w).mono a b,dI:=i.dI.mono a b,dec:=λu=>by obtain⟨v,e⟩:=i.dec u;exact⟨v,e.mono a b⟩,ct:=i.ct,e1:=i.e1,fQ:=i.fQ,lock:=i.lock,je:=i.je,ok:=⟨N,{k with}⟩}
   have z:=x.fZ (m:=s.jn g ⟨2,0,0,0,s.view,y.1,y.2,cK⟩ s.am) (l.mono a b) (ai.nn aM.1 aM.2.1 aM.2.2)
   refine⟨[],(by intro c j;cases j),t,z,λm hm=>⟨wI hm aM.1 aM.2.1 aM.2.2,?_⟩,?_,?_⟩
   .rw [tQ hm];exact l.mono a b
   .dsimp only;unfold ai.fZ ai.jF;repeat' split
    all_goals rfl
   .dsimp only;unfold ai.fZ ai.jF;repeat' split
    all_goals rfl
theorem Hq(d:g.ok)(c:2<=g.n)(b:Valid g.n h H)(i:eF g h H aQ s){r:ai×List aY}(a:s.step g=some r):∃A,Told g h H aQ s r.1 r.2 A:=by
 unfold ai.step at a
 split at a
 .rename_i e;cases a;exact Hb d b i e
 .split at a
  .rename_i e;cases a;exact Gl c b i e
  .split at a
   .rename_i e;cases a;exact C3 d c b i e
   .exact Gn b i a
theorem ai.m8(g:al):∀(k:Nat)(s:ai)(l:List aY),ai.go g k s l=((ai.go g k s []).1,l++(ai.go g k s []).2)
 |0,s,l=>by simp [ai.go]
 |k+1,s,l=>by
  rw [ai.go,ai.go]
  split
  .simp
  .split
   .simp
   .rename_i eN b0 e
    rw [ai.m8 g k eN (l++b0),ai.m8 g k eN ([]++b0)]
    simp
theorem x9(d:g.ok)(c:2<=g.n):∀(k:Nat){H:List dv}{aQ:List aG}{s:ai},Valid g.n h H->eF g h H aQ s->∃A,Told g h H aQ s (ai.go g k s []).1 (ai.go g k s []).2 A
 |0,H,aQ,s,a,i=>⟨[],Told.nil a i j j⟩
 |k+1,H,aQ,s,a,i=>by
  rw [ai.go]
  split
  .exact⟨[],Told.nil a i j j⟩
  .split
   .exact⟨[],Told.nil a i j j⟩
   .rename_i eN b0 e
    obtain⟨A,b⟩:=Hq d c a i e
    obtain⟨B,f⟩:=x9 d c k b.valid b.inv
    rw [ai.m8 g k eN ([]++b0)]
    exact⟨_,b.trans f⟩
theorem sP(c:g.ok)(a:2<=g.n)(b:Valid g.n h H)(i:eF g h H aQ s):∃A,Told g h H aQ s (s.steps g).1 (s.steps g).2 A:=x9 c a 5 b i
theorem Told.from{l:List aY}{A:List dv}(t:Told g h H aQ eN mv l A)(hm:eN.am=s.am)(aM:eN.slot=s.slot):Told g h H aQ s mv l A:=
 ⟨λc a=>by have:=t.iF c a;rw [hm,aM] at this;exact this,t.valid,t.inv,t.kO,t.am.trans hm,t.slot.trans aM⟩
theorem HH(e:g.ok)(b:2<=g.n)(a:Valid g.n h H)(i:eF g h H aQ s){m:aY}(hm:e5 h H aQ m.l)(d:m.cP):∃A,Told g h H aQ s (s.take g m).1 (s.take g m).2 A:=by
 unfold ai.take
 split
 .exact⟨[],Told.nil a i j j⟩
 .obtain⟨A,c⟩:=sP e b a (i.fh hm d)
  exact⟨A,c.from (s.Ar g m).1 (s.Ar g m).2⟩
theorem If(c:g.ok)(b:2<=g.n)(a:Valid g.n h H)(i:eF g h H aQ s)(x:List UInt8):∃A,Told g h H aQ s (s.hS g x).1 (s.hS g x).2 A:=by
 unfold ai.hS
 split
 .exact⟨[],Told.nil a i j j⟩
 .split
  .rename_i f
   obtain⟨N,e⟩:=i.ok
   obtain⟨A,d⟩:=sP c b a (s:={s with want:=x}) {i with ok:=⟨N,{e with want:=f.2}⟩}
   exact⟨A,d.from j j⟩
  .exact sP c b a i
theorem HR(q:g.ok)(l:2<=g.n)(e:Valid g.n h H)(i:eF g h H aQ s):∃A,Told g h H aQ s (s.tick g).1 (s.tick g).2 A:=by
 unfold ai.tick
 split
 .exact⟨[],Told.nil e i j j⟩
 .rename_i aP
  obtain⟨N,b⟩:=i.ok
  have u:s.view<8:=by simp at aP;omega
  have r:ai.ok g N ({s with view:=s.view+1}:ai):={b with view:=⟨show 0<=s.view+1 by have:=b.view;omega,show s.view+1<=8 by omega⟩}
  have k:eF g h H aQ ({s with view:=s.view+1}:ai):={i with ct:=show s.hO<=s.view+1 by have:=i.ct;omega,e1:=show s.comm<=s.view+1 by have:=i.e1;omega,ok:=⟨N,r⟩}
  have f:∀t,(({s with view:=s.view+1}:ai).jn g ⟨4,0,0,0,s.view+1,s.dF,s.c3,cK⟩ t).cP:=λt=>ai.nn b.dF b.c3 b.k9
  have p:∃A,Told g h H aQ s (s.gl g).1 (s.gl g).2 A:=by
   unfold ai.gl
   dsimp only
   split
   .refine⟨[],Told.nil e (k.status (m:=({s with view:=s.view+1}:ai).jn g ⟨4,0,0,0,s.view+1,s.dF,s.c3,cK⟩ _) i.c3 (f _)) ?_ ?_⟩<;>(unfold ai.status;split<;>rfl)
   .refine⟨[],(by intro c a;cases a),e,k.mono (λc a=>a) (λc a=>dA.2 (.inl a)) (λc a _ _=>a),λm hm=>?_,j,j⟩
    rw [gb.1 hm]
    exact⟨f _,i.c3.mono (λc a=>a) (λc a=>dA.2 (.inl a))⟩
  obtain⟨A,d⟩:=p
  obtain⟨B,o⟩:=sP q l d.valid d.inv
  exact⟨_,d.trans o⟩
end
structure hh(g:al)(h:Nat)(H:List dv)(aQ:List aG)(s:aC):Prop where
 cur:∀r,s.cur=some r->eF g h H aQ r/\r.slot=(s.log.length:Int)/\r.am=s.am
 log:∀(i:Nat)(e:List UInt8×List aG),s.log[i]? =some e->(∃v,ln g h H aQ 2 i v (bL e.1))/\e5 h H aQ e.2/\e.1.length<=200/\e.2.length<=10/\∀v∈e.2,v.ok
 stored:∀p∈s.stored,e5 h H aQ p.2.l/\p.2.cP
 iF:∀c∈H,c.n=s.am->c.s<=(s.log.length:Int)
 am:0<=s.am/\s.am<g.n
theorem hh.mono{g:al}{h:Nat}{H f:List dv}{aQ m:List aG}{s:aC}(i:hh g h H aQ s)(b:∀c∈H,c∈f)(d:∀c∈aQ,c∈m)(aP:∀c∈f,c.n=s.am->c∈H):hh g h f m s where
 cur:=λr l=>⟨(i.cur r l).1.mono b d (λc j a _=>aP c j (a.trans (i.cur r l).2.2)),(i.cur r l).2⟩
 log:=λk e he=>by
  obtain⟨⟨v,u⟩,q,t⟩:=i.log k e he
  exact⟨⟨v,u.mono b d⟩,q.mono b d,t⟩
 stored:=λp o=>⟨(i.stored p o).1.mono b d,(i.stored p o).2⟩
 iF:=λc j a=>i.iF c (aP c j a) a
 am:=i.am
structure eG(g:al)(h:Nat)(H:List dv)(aQ:List aG)(s eN:aC)(l:List aY)(A:List dv):Prop where
 iF:∀c∈A,c.n=s.am
 valid:Valid g.n h (A++H)
 inv:hh g h (A++H) (aQ++f0 l) eN
 kO:∀m∈l,m.cP/\e5 h (A++H) (aQ++f0 l) m.l
 am:eN.am=s.am
section
variable {g:al} {h:Nat} {H:List dv} {aQ:List aG} {s eN mv:aC}
theorem eG.nil(a:Valid g.n h H)(i:hh g h H aQ eN)(hm:eN.am=s.am):eG g h H aQ s eN [] []:=
 ⟨(by intro c b;cases b),a,by simpa using i,(by intro m hm;cases hm),hm⟩
theorem eG.trans{l f:List aY}{A B:List dv}(a:eG g h H aQ s eN l A)(b:eG g h (A++H) (aQ++f0 l) eN mv f B):eG g h H aQ s mv (l++f) (B++A):=by
 have e:aQ++f0 (l++f)=(aQ++f0 l)++f0 f:=by simp
 have i:(B++A)++H=B++(A++H):=dH _ _ _
 refine⟨λc d=>?_,by rw [i];exact b.valid,by rw [e,i];exact b.inv,λm hm=>?_,b.am.trans a.am⟩
 .rcases dA.1 d with d|d
  .have:=b.iF c d;rw [a.am] at this;exact this
  .exact a.iF c d
 .rw [e,i]
  rcases dA.1 hm with hm|hm
  .exact⟨(a.kO m hm).1,(a.kO m hm).2.mono (λc d=>dA.2 (.inr d)) (λc d=>List.mem_append.2 (.inl d))⟩
  .exact b.kO m hm
theorem eG.from{l:List aY}{A:List dv}(t:eG g h H aQ eN mv l A)(hm:eN.am=s.am):eG g h H aQ s mv l A:=
 ⟨λc a=>by have:=t.iF c a;rw [hm] at this;exact this,t.valid,t.inv,t.kO,t.am.trans hm⟩
theorem hh.lift(i:hh g h H aQ s){r o:ai}{l:List aY}{A:List dv}(a:s.cur=some r)(t:Told g h H aQ r o l A):eG g h H aQ s {s with cur:=some o} l A:=by
 obtain⟨B,m,n⟩:=i.cur r a
 have b:∀c∈H,c∈A++H:=λc a=>dA.2 (.inr a)
 have d:∀c∈aQ,c∈aQ++f0 l:=λc a=>dA.2 (.inl a)
 refine⟨λc a=>(t.iF c a).1.trans n,t.valid,?_,t.kO,j⟩
 refine⟨λq y=>?_,λk e he=>?_,λp f=>⟨(i.stored p f).1.mono b d,(i.stored p f).2⟩,λc a u=>?_,i.am⟩
 .cases y
  exact⟨t.inv,t.slot.trans m,t.am.trans n⟩
 .obtain⟨⟨v,z⟩,w,x⟩:=i.log k e he
  exact⟨⟨v,z.mono b d⟩,w.mono b d,x⟩
 .rcases dA.1 a with a|a
  .show c.s<=(s.log.length:Int)
   rw [(t.iF c a).2,m]
   exact ik _
  .exact i.iF c a u
theorem xv(e:g.ok)(c:2<=g.n)(a:Valid g.n h H)(i:hh g h H aQ s)(x:List UInt8):∃A,eG g h H aQ s {s with cur:=(fI g s.cur x).1} (fI g s.cur x).2 A:=by
 cases b:s.cur with
 |none=>exact⟨[],eG.nil a {i with cur:=λr f=>by cases f} j⟩
 |some r=>
  obtain⟨A,d⟩:=If e c a (i.cur r b).1 x
  exact⟨A,i.lift b d⟩
theorem xr(f:g.ok)(c:2<=g.n)(a:Valid g.n h H)(i:hh g h H aQ s){m:aY}(hm:e5 h H aQ m.l)(e:m.cP):∃A,eG g h H aQ s {s with cur:=(g8 g s.cur m).1} (g8 g s.cur m).2 A:=by
 cases b:s.cur with
 |none=>exact⟨[],eG.nil a {i with cur:=λr k=>by cases k} j⟩
 |some r=>
  obtain⟨A,d⟩:=HH f c a (i.cur r b).1 hm e
  exact⟨A,i.lift b d⟩
theorem Dc(e:g.ok)(c:2<=g.n)(a:Valid g.n h H)(i:hh g h H aQ s):∃A,eG g h H aQ s {s with cur:=(iB g s.cur).1} (iB g s.cur).2 A:=by
 cases b:s.cur with
 |none=>exact⟨[],eG.nil a {i with cur:=λr f=>by cases f} j⟩
 |some r=>
  obtain⟨A,d⟩:=HR e c a (i.cur r b).1
  exact⟨A,i.lift b d⟩
theorem Ic(c:g.ok)(b:2<=g.n)(a:Valid g.n h H)(i:hh g h H aQ s):∃A,eG g h H aQ s (s.wanted g).1 (s.wanted g).2 A:=by
 unfold aC.wanted
 split
 .exact⟨[],eG.nil a i j⟩
 .exact xv c b a i _
theorem FV(k:g.ok)(f:2<=g.n){a:aC×List aY}{A:List dv}(t:eG g h H aQ s a.1 a.2 A){p:Int×aY}(d:e5 h H aQ p.2.l/\p.2.cP):∃B,eG g h H aQ s (aC.one g a p).1 (aC.one g a p).2 B:=by
 have e:hh g h (A++H) (aQ++f0 a.2) {a.1 with stored:=fS a.1.stored p.1}:={t.inv with stored:=λq m=>t.inv.stored q (oV m)}
 unfold aC.one
 split
 .obtain⟨B,i⟩:=xr k f t.valid e (d.1.mono (λc b=>dA.2 (.inr b)) (λc b=>List.mem_append.2 (.inl b))) d.2
  exact⟨_,t.trans (i.from j)⟩
 .split
  .exact⟨A,t.iF,t.valid,e,t.kO,t.am⟩
  .exact⟨A,t⟩
theorem x0(d:g.ok)(b:2<=g.n):∀(l:List (Int×aY)){a:aC×List aY}{A:List dv},eG g h H aQ s a.1 a.2 A->(∀p∈l,e5 h H aQ p.2.l/\p.2.cP)->∃B,eG g h H aQ s (l.foldl (aC.one g) a).1 (l.foldl (aC.one g) a).2 B
 |[],_,A,t,_=>⟨A,t⟩
 |p::r,a,A,t,c=>by
  obtain⟨B,e⟩:=FV d b t (c p (by simp))
  exact x0 d b r e (λq f=>c q (by simp [f]))
theorem Cw(b:g.ok)(a:2<=g.n)(d:Valid g.n h H)(i:hh g h H aQ s):∃A,eG g h H aQ s (s.dd g).1 (s.dd g).2 A:=by
 obtain⟨A,c⟩:=Ic b a d i
 exact x0 b a _ c (λp e=>i.stored p (gS.1 e))
theorem eF.new{am slot:Int}(hm:0<=am/\am<g.n)(aM:0<=slot/\slot<=63)(aP:∀c∈H,c.n=am->c.s=slot->False):eF g h H aQ (ai.new am slot) where
 c3:=(by intro v a;cases a)
 props:=(by intro v a;cases a)
 cT:=(by intro v a;cases a)
 ax:=(by intro v a;cases a)
 dh:=(by intro v a;cases a)
 dI:=(by intro v a;cases a)
 ct:=(by show(-1:Int)<=0;decide)
 e1:=(by show(-1:Int)<=0;decide)
 fQ:=rfl
 lock:=λb=>absurd b (by show¬(0:Int)<= -1;decide)
 je:=λc f d e=>(aP c f d e).elim
 dec:=λi=>by cases i
 ok:=⟨0,ai.lc hm aM 0⟩
theorem FF(i:hh g h H aQ s){r:ai}(a:s.cur=some r)(o:r.dec=true):hh g h H aQ (s.next r):=by
 obtain⟨m,u,y⟩:=i.cur r a
 obtain⟨v,n⟩:=m.dec o
 obtain⟨N,f⟩:=m.ok
 refine⟨λq b=>?_,λk e he=>?_,i.stored,λc a d=>?_,i.am⟩
 .have l:(s.next r).log.length=s.log.length+1:=by show(s.log++[(r.value,r.dI)]).length=_;simp
  rw [l]
  unfold aC.next at b
  dsimp only at b
  split at b
  .cases b
   refine⟨eF.new i.am ⟨by omega,by omega⟩ (λc a d w=>?_),j,j⟩
   have:=i.iF c a d
   omega
  .cases b
 .have he:(s.log++[(r.value,r.dI)])[k]? =some e:=he
  rcases Nat.lt_or_ge k s.log.length with ad|ad
  .rw [iz ad] at he
   exact i.log k e he
  .rw [jy ad] at he
   obtain⟨p,he⟩:=fa.1 he
   have t:k=s.log.length:=by simp at p;omega
   subst t
   simp at he
   subst he
   rw [u] at n
   exact⟨⟨v,n⟩,m.dI,f.value,f.dI,f.qW⟩
 .have x:=i.iF c a d
  have l:(s.next r).log.length=s.log.length+1:=by show(s.log++[(r.value,r.dI)]).length=_;simp
  rw [l]
  omega
theorem aC.m8(g:al):∀(k:Nat)(s:aC)(l:List aY),aC.go g k s l=((aC.go g k s []).1,l++(aC.go g k s []).2)
 |0,s,l=>by simp [aC.go]
 |k+1,s,l=>by
  rw [aC.go,aC.go]
  split
  .simp
  .split
   .rename_i r _ _
    rw [aC.m8 g k ((s.next r).dd g).1 (l++((s.next r).dd g).2),aC.m8 g k ((s.next r).dd g).1 ([]++((s.next r).dd g).2)]
    simp
   .simp
theorem z9(d:g.ok)(c:2<=g.n):∀(k:Nat){H:List dv}{aQ:List aG}{s:aC},Valid g.n h H->hh g h H aQ s->∃A,eG g h H aQ s (aC.go g k s []).1 (aC.go g k s []).2 A
 |0,H,aQ,s,a,i=>⟨[],eG.nil a i j⟩
 |k+1,H,aQ,s,a,i=>by
  rw [aC.go]
  split
  .exact⟨[],eG.nil a i j⟩
  .rename_i r l
   split
   .rename_i f
    obtain⟨A,b⟩:=Cw d c a (FF i l f)
    obtain⟨B,e⟩:=z9 d c k b.valid b.inv
    rw [aC.m8 g k _ ([]++_)]
    exact⟨_,(b.trans e).from (s:=s) j⟩
   .exact⟨[],eG.nil a i j⟩
theorem uN(c:g.ok)(a:2<=g.n){l:List aY}{A:List dv}(t:eG g h H aQ s eN l A):∃B,eG g h H aQ s (aC.h0 g eN l).1 (aC.h0 g eN l).2 B:=by
 obtain⟨B,b⟩:=z9 c a 65 t.valid t.inv
 unfold aC.h0
 rw [aC.m8]
 exact⟨_,t.trans b⟩
theorem Am(c:g.ok)(b:2<=g.n)(a:Valid g.n h H)(i:hh g h H aQ s)(x:List UInt8):∃A,eG g h H aQ s (s.eH g x).1 (s.eH g x).2.1 A:=by
 have aP:∃A,eG g h H aQ s s [] A:=⟨[],eG.nil a i j⟩
 unfold aC.eH
 split
 .exact aP
 .split
  .exact aP
  .split
   .exact aP
   .have d:hh g h H aQ {s with cx:=s.cx++[x]}:={i with}
    split
    .exact⟨[],eG.nil a d j⟩
    .obtain⟨A,e⟩:=xv c b a d x
     exact uN c b (e.from j)
theorem H2(b:Valid g.n h H)(i:hh g h H aQ s)(m:aY):eG g h H aQ s s (s.told g m) []:=by
 have aP:eG g h H aQ s s [] []:=eG.nil b i j
 unfold aC.told
 split
 .exact aP
 .split
  .exact aP
  .rename_i e he
   obtain⟨_,d,f,k,l⟩:=i.log _ e he
   refine⟨(by intro c a;cases a),b,i.mono (λc a=>a) (λc a=>dA.2 (.inl a)) (λc a _=>a),λq o=>?_,j⟩
   rw [gb.1 o]
   exact⟨⟨al.ea _ _ _,l,f,k⟩,d.mono (λc a=>a) (λc a=>dA.2 (.inl a))⟩
theorem Hi(c:g.ok)(b:2<=g.n)(a:Valid g.n h H)(i:hh g h H aQ s){m:aY}(hm:e5 h H aQ m.l)(e:m.cP):∃A,eG g h H aQ s (s.take g m).1 (s.take g m).2 A:=by
 unfold aC.take
 split
 .exact Am c b a i m.x
 .split
  .exact⟨[],H2 a i m⟩
  .split
   .obtain⟨A,f⟩:=xr c b a i hm e
    exact uN c b f
   .split
    .refine⟨[],eG.nil a {i with stored:=λp d=>?_} j⟩
     rcases i0 d with d|rfl
     .exact i.stored p d
     .exact⟨hm,e⟩
    .exact⟨[],eG.nil a i j⟩
theorem Hr(b:g.ok)(a:2<=g.n)(d:Valid g.n h H)(i:hh g h H aQ s):∃A,eG g h H aQ s (s.tick g).1 (s.tick g).2 A:=by
 unfold aC.tick
 obtain⟨A,c⟩:=Dc b a d i
 exact uN b a c
end
theorem bo.p0(x:bo):x.io.s=x.s:=(bo.p1 ((x.s.log.map Prod.fst).drop x.dt) x).1
structure eA(g:al)(h:Nat)(H:List dv)(aQ:List aG)(z:aX):Prop where
 n:z.bM.length=g.n
 aP:h<=g.n
 bx:g.n-h<=hy g.n
 valid:Valid g.n h H
 bM:∀(i:Nat)(x:bo),z.bM[i]? =some (some x)->hh g h H aQ x.s/\x.s.am=(i:Int)
 uQ:∀i,i<h->∃x,z.bM[i]? =some (some x)
 bB:∀m∈z.bB,m.cP/\e5 h H aQ m.l
 heard:∀m∈z.heard,m.cP/\e5 h H aQ m.l
def gK(aQ:List aG)(z:aX):Prop:=z.lost=0->z.heard.length<1000->∀v∈aQ,v∈f0 z.heard
def iw(z hc:aX):Prop:=hc.bM.length=z.bM.length/\∀(i:Nat)(x:bo),z.bM[i]? =some (some x)->∃eO,hc.bM[i]? =some (some eO)/\x.s.log<+:eO.s.log
theorem iw.refl(z:aX):iw z z:=⟨j,λi x a=>⟨x,a,oq _⟩⟩
theorem iw.same{z hc:aX}(h:hc.bM=z.bM):iw z hc:=⟨by rw [h],λi x a=>⟨x,by rw [h];exact a,oq _⟩⟩
theorem iw.trans{a b c:aX}(h:iw a b)(d:iw b c):iw a c:=⟨d.1.trans h.1,λi x g=>by
 obtain⟨y,j,e⟩:=h.2 i x g
 obtain⟨u,hu,f⟩:=d.2 i y j
 exact⟨u,hu,e.trans f⟩⟩
def Next(g:al)(h:Nat)(z hc:aX):Prop:=∃b a,eA g h b a hc/\gK a hc/\iw z hc
section
variable {g:al} {h:Nat} {H:List dv} {aQ:List aG} {z hc:aX}
theorem eA.here(i:eA g h H aQ z)(a:gK aQ z):Next g h z z:=⟨H,aQ,i,a,iw.refl z⟩
theorem eA.same(i:eA g h H aQ z)(a:gK aQ z)(b:hc.bM=z.bM)(d:hc.bB=z.bB)(c:hc.heard=z.heard)(e:hc.lost=z.lost):eA g h H aQ hc/\gK aQ hc:=
 ⟨⟨by rw [b];exact i.n,i.aP,i.bx,i.valid,by rw [b];exact i.bM,by rw [b];exact i.uQ,by rw [d];exact i.bB,by rw [c];exact i.heard⟩,by unfold gK;rw [c,e];exact a⟩
theorem eA.put(i:eA g h H aQ z){l:List aY}(a:∀m∈l,m.cP/\e5 h H aQ m.l):eA g h H aQ (z.g0 l):=
 {i with
   bB:=λm hm=>(dA.1 (show m∈z.bB++l.take (512-z.bB.length) from hm)).elim (i.bB m) (λh=>a m (List.mem_of_mem_take h))
   heard:=λm hm=>(dA.1 (show m∈z.heard++l.take (min (min l.length (512-z.bB.length)) (1000-z.heard.length)) from hm)).elim (i.heard m) (λh=>a m (List.mem_of_mem_take h))}
theorem gK.put(a:gK aQ z)(l:List aY):gK (aQ++f0 l) (z.g0 l):=λd c v b=>by
 have d:z.lost+(l.length-(512-z.bB.length))=0:=d
 have c:(z.heard++l.take (min (min l.length (512-z.bB.length)) (1000-z.heard.length))).length<1000:=c
 show v∈f0 (z.heard++l.take (min (min l.length (512-z.bB.length)) (1000-z.heard.length)))
 rw [ca,List.length_take] at c
 rw [il (by omega)]
 unfold f0
 rw [nA]
 rcases dA.1 b with b|b
 .exact dA.2 (.inl (a (by omega) (by omega) v b))
 .exact dA.2 (.inr b)
theorem eA.vK(i:eA g h H aQ z)(a:gK aQ z){J:Nat}{x eO:bo}{l:List aY}{A:List dv}(p:z.bM[J]? =some (some x))(t:eG g h H aQ x.s eO.s l A)(B:x.s.gi eO.s):Next g h z (aX.g0 {z with bM:=z.bM.set J (some eO)} l):=by
 have o:J<z.bM.length:=(fa.1 p).1
 obtain⟨_,r⟩:=i.bM J x p
 have f:∀c∈H,c∈A++H:=λc d=>dA.2 (.inr d)
 have j:∀c∈aQ,c∈aQ++f0 l:=λc d=>dA.2 (.inl d)
 have C:eA g h (A++H) (aQ++f0 l) {z with bM:=z.bM.set J (some eO)}:=by
  refine⟨by show(z.bM.set J (some eO)).length=g.n;rw [hp];exact i.n,i.aP,i.bx,t.valid,λk y b=>?_,λk ad=>?_,λm hm=>⟨(i.bB m hm).1,(i.bB m hm).2.mono f j⟩,λm hm=>⟨(i.heard m hm).1,(i.heard m hm).2.mono f j⟩⟩
  .have b:(z.bM.set J (some eO))[k]? =some (some y):=b
   by_cases e:J=k
   .subst e
    rw [pO o] at b
    cases b
    exact⟨t.inv,t.am.trans r⟩
   .rw [pP e] at b
    obtain⟨u,q⟩:=i.bM k y b
    refine⟨u.mono f j (λc d w=>?_),q⟩
    rcases dA.1 d with d|d
    .exfalso
     have v:=t.iF c d
     rw [r] at v
     rw [q] at w
     omega
    .exact d
  .show∃y,(z.bM.set J (some eO))[k]? =some (some y)
   by_cases e:J=k
   .subst e
    exact⟨eO,pO o⟩
   .rw [pP e]
    exact i.uQ k ad
 refine⟨_,_,C.put t.kO,gK.put (z:={z with bM:=z.bM.set J (some eO)}) a l,by show(z.bM.set J (some eO)).length=_;rw [hp],λk y b=>?_⟩
 show∃D,(z.bM.set J (some eO))[k]? =some (some D)/\_
 by_cases e:J=k
 .subst e
  rw [p] at b
  cases b
  exact⟨eO,pO o,B.2⟩
 .rw [pP e]
  exact⟨y,b,oq _⟩
theorem eA.gA(k:g.ok)(e:2<=g.n)(i:eA g h H aQ z)(a:gK aQ z)(I:bG)(J:Nat):Next g h z (z.gA g I J):=by
 unfold aX.gA
 split
 .rename_i x d
  obtain⟨c,_⟩:=i.bM J x d
  have key:∃A,eG g h H aQ x.s (x.ask g I).1.s (x.ask g I).2.1 A/\x.s.gi (x.ask g I).1.s:=by
   unfold bo.ask
   split
   .obtain⟨A,b⟩:=Am k e i.valid c (jk I)
    dsimp only
    rw [bo.p0]
    exact⟨A,b,aC.sQ _ _⟩
   .exact⟨[],eG.nil i.valid c j,aC.gi.refl _⟩
  obtain⟨A,b,f⟩:=key
  exact i.vK a d b f
 .exact i.here a
theorem eA.p2(c:g.ok)(b:2<=g.n)(I:bG):∀(l:List Nat){H:List dv}{aQ:List aG}{z:aX},eA g h H aQ z->gK aQ z->Next g h z (l.foldl (aX.gA g I) z)
 |[],_,_,_,i,a=>i.here a
 |J::r,H,aQ,z,i,a=>by
  obtain⟨H1,q,o,f,k⟩:=i.gA c b a I J
  obtain⟨d,e,p,j,m⟩:=eA.p2 c b I r o f
  exact⟨d,e,p,j,k.trans m⟩
theorem eA.asks(c:g.ok)(b:2<=g.n)(i:eA g h H aQ z)(a:gK aQ z)(I:bG)(e:Int):Next g h z (z.asks g I e).1:=by
 unfold aX.asks
 split
 .exact i.here a
 .exact i.p2 c b I _ a
theorem Next.from{z0:aX}(n:Next g h z hc)(e:z.bM=z0.bM):Next g h z0 hc:=by
 obtain⟨b,c,i,a,d⟩:=n
 exact⟨b,c,i,a,(iw.same e).trans d⟩
theorem eA.tX(d:g.ok)(c:2<=g.n)(i:eA g h H aQ z)(a:gK aQ z)(k:Nat)(p:bI×Int)(I:bG)(e:Int):Next g h z ((z.fV k p).asks g I e).1:=by
 obtain⟨f,b⟩:=i.same (hc:=z.fV k p) a j j j j
 exact(f.asks d c b I e).from j
theorem eA.quiet(i:eA g h H aQ z)(a:gK aQ z)(b:hc.bM=z.bM)(d:hc.bB=z.bB)(e:hc.heard=z.heard)(f:hc.lost=z.lost):Next g h z hc:=by
 obtain⟨j,c⟩:=i.same a b d e f
 exact⟨H,aQ,j,c,iw.same b⟩
theorem eA.wY(i:eA g h H aQ z)(a:gK aQ z){l:List aY}(b:∀m∈l,m∈z.bB):eA g h H aQ {z with bB:=l}/\gK aQ {z with bB:=l}:=⟨{i with bB:=λm hm=>i.bB m (b m hm)},a⟩
theorem eA.records(i:eA g h H aQ z)(a:gK aQ z)(s:e6)(k:Nat)(p:bI×Int):Next g h z (z.records s k p).1:=by
 unfold aX.records
 split
 .exact i.quiet a j j j j
 .split
  .exact i.quiet a j j j j
  .exact i.quiet a j j j j
theorem eA.gG(c:g.ok)(b:2<=g.n)(i:eA g h H aQ z)(a:gK aQ z)(s:e6):Next g h z (z.gG g s).1:=by
 unfold aX.gG
 split
 .exact i.here a
 .split
  .exact i.tX c b a _ _ _ _
  .split
   .exact i.tX c b a _ _ _ _
   .split
    .exact i.records a s _ _
    .exact i.tX c b a _ _ _ _
theorem eA.kF(e:g.ok)(c:2<=g.n)(i:eA g h H aQ z)(a:gK aQ z){m:aY}(hm:m.cP/\e5 h H aQ m.l):Next g h z (z.kF g m):=by
 unfold aX.kF
 split
 .exact i.here a
 .rename_i x f
  obtain⟨_,b⟩:=aX.nY f
  obtain⟨A,d⟩:=Hi e c i.valid (i.bM _ x b).1 hm.2 hm.1
  exact i.vK a (eO:=(x.take g m).1) b (by show eG g h H aQ x.s (bo.io _).s _ _;rw [bo.p0];exact d) (by show x.s.gi (bo.io _).s;rw [bo.p0];exact aC.vQ _ _)
theorem eA.g9(o:g.ok)(f:2<=g.n)(i:eA g h H aQ z)(a:gK aQ z)(s:e6):Next g h z (z.g9 g s).1:=by
 unfold aX.g9
 split
 .exact i.here a
 .rename_i m hm
  have d:=hZ hm
  have k:=i.bB m d
  obtain⟨e,c⟩:=i.wY a (l:=z.bB.eraseIdx ((max s.n 0).toNat%z.bB.length)) (λq b=>tC b)
  split
  .split
   .obtain⟨p,a3⟩:=i.wY a (l:=z.bB++[m]) (λq b=>(dA.1 b).elim id (λh=>by rw [List.mem_singleton.1 h];exact d))
    exact⟨H,aQ,p,a3,iw.same j⟩
   .exact i.here a
  .split
   .exact(e.kF o f c k).from j
   .exact⟨H,aQ,e,c,iw.same j⟩
theorem eA.fW(e:g.ok)(c:2<=g.n)(i:eA g h H aQ z)(a:gK aQ z)(s:e6):Next g h z (z.fW g s).1:=by
 unfold aX.fW
 split
 .exact i.here a
 .rename_i x f
  obtain⟨_,b⟩:=aX.nY f
  obtain⟨A,d⟩:=Hr e c i.valid (i.bM _ x b).1
  exact i.vK a (eO:=(x.tick g).1) b (by show eG g h H aQ x.s (bo.io _).s _ _;rw [bo.p0];exact d) (by show x.s.gi (bo.io _).s;rw [bo.p0];exact aC.vR _)
theorem E0{aM:List aY}{use:List Int}{v:aG}(c:v∈ir aM use):∃m∈aM,v∈m.l:=by
 obtain⟨i,_,a⟩:=nB.1 c
 unfold k8 at a
 split at a
 .cases b:aM[i.toNat]? with
  |none=>rw [b] at a;cases a
  |some m=>rw [b] at a;exact⟨m,hZ b,a⟩
 .cases a
theorem E2{f:Int}{aM:List aY}{l:eE}{m:aY}(n:∀m∈aM,m.cP/\e5 h H aQ m.l)(bx:(h:Int)<=f)(hm:eX g f aM l=some m):m.cP/\e5 h H (aQ++f0 [m]) m.l:=by
 have c:∀U,l.aH g f aM=some U->U.length<=10/\(∀v∈U,v.ok)/\∀v∈U,(h:Int)<=v.f\/kw h H aQ v:=λU a=>by
  obtain⟨e,i⟩:=yC (λm hm=>(n m hm).1.aH) a
  refine⟨e,i,λv c=>?_⟩
  unfold eE.aH at a
  split at a
  .cases a
   rw [gb.1 c]
   exact .inl bx
  .split at a
   .split at a
    .cases a
    .cases a
     rw [gb.1 c]
     exact .inl bx
   .cases a
    obtain⟨q,b,t⟩:=E0 (mR c)
    exact .inr ((n q b).2 v t)
 unfold eX at hm
 split at hm
 .rename_i s
  cases b:l.aH g f aM with
  |none=>rw [b] at hm;cases hm
  |some U=>
   rw [b] at hm
   cases hm
   obtain⟨e,i,p⟩:=c U b
   refine⟨⟨al.ea _ _ _,i,eE.u2 s,e⟩,λv d=>?_⟩
   have d:v∈U:=d
   have o:v∈aQ++f0 [(l.msg f U).cu g]:=dA.2 (.inr (List.mem_flatMap.2 ⟨_,List.mem_singleton.2 j,d⟩))
   rcases p v d with k|k
   .exact⟨o,λ_ r=>absurd r (by omega)⟩
   .exact⟨o,k.2⟩
 .cases hm
theorem eA.fm(i:eA g h H aQ z)(a:gK aQ z)(s:e6):Next g h z (z.fm g s).1:=by
 unfold aX.fm
 split
 .exact i.here a
 .rename_i b
  have t:¬s.node<0:=λe=>b (.inl e)
  have l:(z.rep s.node).isSome=false:=by
   cases e:(z.rep s.node).isSome with
   |false=>rfl
   |true=>exact(b (.inr (.inr e))).elim
  have bx:(h:Int)<=s.node:=by
   refine Int.not_lt.1 λu=>?_
   obtain⟨x,d⟩:=i.uQ s.node.toNat (by omega)
   unfold aX.rep at l
   rw [a6 (by omega),d] at l
   cases l
  split
  .exact i.here a
  .rename_i m hm
   obtain⟨n,o⟩:=E2 (h:=h) (H:=H) (aQ:=aQ) i.heard bx hm
   split
   .have f:∀c∈aQ,c∈aQ++f0 [m]:=λc b=>dA.2 (.inl b)
    have r:eA g h H (aQ++f0 [m]) z:={i with bM:=λk x d=>⟨(i.bM k x d).1.mono (λc b=>b) f (λc b _=>b),(i.bM k x d).2⟩,bB:=λm hm=>⟨(i.bB m hm).1,(i.bB m hm).2.mono (λc b=>b) f⟩,heard:=λm hm=>⟨(i.heard m hm).1,(i.heard m hm).2.mono (λc b=>b) f⟩}
    exact⟨_,_,r.put (λq p=>by rw [gb.1 p];exact⟨n,o⟩),a.put [m],iw.same j⟩
   .split
    .exact i.here a
    .split
     .exact i.quiet a j j j j
     .exact i.here a
theorem eA.b5(c:g.ok)(b:2<=g.n)(i:eA g h H aQ z)(a:gK aQ z)(s:e6):Next g h z (z.b5 g s).1:=by
 unfold aX.b5
 split
 .exact i.gG c b a s
 .split
  .exact i.asks c b a _ _
  .split
   .exact i.g9 c b a s
   .split
    .exact i.fW c b a s
    .split
     .exact i.fm a s
     .split
      .exact i.quiet a j j j j
      .exact i.here a
theorem eA.agree(i:eA g h H aQ z)(a:1<=g.n){p q:Nat}{x y:bo}(c:z.bM[p]? =some (some x))(d:z.bM[q]? =some (some y)){k:Nat}{e f:List UInt8×List aG}(he:x.s.log[k]? =some e)(bx:y.s.log[k]? =some f):bL e.1=bL f.1:=by
 obtain⟨⟨v,b⟩,_⟩:=(i.bM p x c).1.log k e he
 obtain⟨⟨w,hw⟩,_⟩:=(i.bM q y d).1.log k f bx
 exact i.valid.safe i.aP i.bx a b.fl hw.fl
end
theorem vF{n m i:Nat}{x:bo}(hm:m<=n)(h:(hC n m)[i]? =some (some x)):i<m/\x=bo.new (i:Int):=by
 unfold hC at h
 rcases Nat.lt_or_ge i m with a|a
 .rw [iz (by simpa using a),List.getElem?_map,List.getElem?_range a] at h
  exact⟨a,by simpa using h.symm⟩
 .rw [jy (by simpa using a)] at h
  rw [List.getElem?_replicate] at h
  split at h<;>cases h
theorem zP{n m i:Nat}(a:i<m):(hC n m)[i]? =some (some (bo.new (i:Int))):=by
 unfold hC
 rw [iz (by simpa using a),List.getElem?_map,List.getElem?_range a]
 rfl
theorem aC.vj{g:al}{h:Nat}{am:Int}(hm:0<=am/\am<g.n):hh g h [] [] (aC.new am) where
 cur:=λr b=>by
  have b:some (ai.new am 0)=some r:=b
  cases b
  exact⟨eF.new hm ⟨ik _,by decide⟩ (by intro c a;cases a),j,j⟩
 log:=(by intro i e he;cases he)
 stored:=(by intro p d;cases d)
 iF:=(by intro c a;cases a)
 am:=hm
theorem aX.vj{g:al}{n k:Nat}(aP:g.n=n)(ad:k<=hy n)(d:1<=n):eA g (n-k) [] [] (aX.new n k)/\gK [] (aX.new n k):=by
 refine⟨⟨(li (by omega)).trans aP.symm,by omega,by rw [aP];omega,ba,λi x c=>?_,λi a=>⟨_,zP a⟩,(by intro m hm;cases hm),(by intro m hm;cases hm)⟩,(by intro _ _ v b;cases b)⟩
 obtain⟨a,rfl⟩:=vF (by omega) c
 exact⟨aC.vj ⟨by omega,by omega⟩,j⟩
theorem uB{n:Nat}(h:1<=n):hy n<n:=by unfold hy;omega
theorem aX.lc{g:al}{n k:Nat}(aP:g.n=n)(ad:k<=hy n)(c:1<=n):(aX.new n k).ok g 0:=by
 have bx:=uB c
 refine⟨(li (by omega)).trans aP.symm,λi x e=>?_,⟨0,_,zP (by omega)⟩,j,λb d=>?_,j,λp a=>?_,ch _,ei.nil,ch _,ei.nil,ch _⟩
 .obtain⟨f,rfl⟩:=vF (by omega) e
  exact⟨bo.lc ⟨by omega,by omega⟩ _,j⟩
 .have:=List.eq_of_mem_replicate d
  rw [this]
  exact⟨cB _,cB _,cB _,(by intro p a;cases a)⟩
 .obtain⟨J,_,rfl⟩:=dT.1 a
  exact bI.lc (show 1<=1000 by decide)
theorem Cq{o:World}{g:al}{aO:Nat}{z:aX}{G:List Chunk}(d:eU g aO z G)(a:Holds o G):Calls prog 13 #[Z aO] o (aS λr w=>∃b,r=Z b/\w=o):=by
 obtain⟨c,cH,bQ,dx,bd,bA,h,rfl⟩:=d
 obtain⟨bh,bv,i,f,_,rfl⟩:=h.bB
 have e:=a.left.head
 refine a1 [Z aO] func13 ntmps13 results13 ?_
 refine au 15 j (aw e (aL some f)) ?_
 refine ao 1 j j ?_
 exact⟨bh,j,j⟩
theorem partAt{o:World}{g:al}{aO:Nat}{z:aX}{G:List Chunk}{i:Int}(k:eU g aO z G)(d:Holds o G)(l:0<=i/\i<(z.parts.length:Int)):Calls prog 14 #[Z aO,ab i] o (aS λr w=>∃(bh:Nat)(b:cM)(bd:List Chunk),r=Z bh/\z.parts[i.toNat]? =some b/\jK g bh b bd/\Holds o bd/\w=o):=by
 obtain⟨c,cH,bQ,dx,bd,bA,n,rfl⟩:=k
 obtain⟨ak,H,U,rfl,s,a⟩:=n.parts
 have f:i.toNat<z.parts.length:=by omega
 have m:=a.len
 have p:=a.vA
 obtain⟨v,ah,h,aA,t,rfl,⟨bh,rfl,j⟩,_⟩:=a.at i.toNat f
 have e:=d.right.right.left
 refine Calls.mono (zp (V:=jq g) (xs:=z.parts) (U:=U) (i:=i) d.left.head s e.left m p) (λr w⟨q,hw⟩=>⟨bh,z.parts[i.toNat],h,?_,ck f,j,e.right.right.left,hw⟩)
 rw [q,a6 l,iO,t]
 rfl
theorem zO{o:World}{g:al}{aO:Nat}{z:aX}{G:List Chunk}{i:Int}(d:eU g aO z G)(b:Holds o G):Calls prog 8 #[Z aO,ab i] o (aS λr w=>∃(p:Option Addr)(a:List Chunk),r= .pointer p/\l0 g p (z.rep i) a/\Holds o a/\w=o):=by
 obtain⟨c,p,ak,H1,a,m,bQ,dx,bd,bA,U,e,j,l,f,k,_,_,rfl,_⟩:=d.so i
 refine Calls.mono (vD (V:=hY g) (xs:=z.bM) (c:=c) (U:=U) (i:=i) b.left.head j b.right.left.left l f) (λr w⟨h,hw⟩=>⟨p,a,h.trans k,e,b.right.left.right.right.left,hw⟩)
theorem yE{o:World}{g:al}{bh:Nat}{b:cM}{G:List Chunk}(d:jK g bh b G)(a:Holds o G):Calls prog 15 #[Z bh] o (aS λr w=>∃(bc:Nat)(L:List Chunk),r=Z bc/\ky bc b.log L/\Holds o L/\w=o):=by
 obtain⟨c,L,M,V,f,rfl⟩:=d
 have e:=a.left.head
 refine a1 [Z bh] func15 ntmps15 results15 ?_
 refine au 15 j (aw e j) ?_
 refine ao 1 j j ?_
 exact⟨c.bc,L,j,f.log,a.right.left,j⟩
theorem ET{o:World}{bc:Nat}{l:dP}{G:List Chunk}(b:ky bc l G)(a:Holds o G):Calls prog 24 #[Z bc] o (aS λr w=>r=ab (l.c0.length:Nat)/\w=o):=by
 obtain⟨c,ak,S,E,f,rfl⟩:=b
 obtain⟨i,k,us,rfl,g,_⟩:=f.c0
 obtain⟨h,m,e,_,_⟩:=g.form
 have d:=a.left.head
 refine a1 [Z bc] func24 ntmps24 results24 ?_
 refine au 15 j (aw d (aL some e)) ?_
 refine ao 2 j j ?_
 exact⟨j,j⟩
theorem l0.isNil{g:al}{p:Option Addr}{I:Option bo}{G:List Chunk}(h:l0 g p I G)(aM:I.isSome=true):p.isNone=false:=by
 have a:=h.isSome
 rw [aM] at a
 cases p with
 |none=>cases a
 |some _=>rfl
theorem w1{o:World}{lO fm:Bool}{aR k:Nat}(u:aR=if lO=true then 7 else 4)(t:k=if fm=true then hy aR else 0):Calls prog 5 #[.bool lO,.bool fm] o (aS λr w=>∃(aO:Nat)(g:al)(G:List Chunk),r=Z aO/\g.ok/\g.keys=qF aR (bL [1])/\eU g aO (aX.new aR k) G/\C o [] [dC g,G] w):=by
 have D:aR=4\/aR=7:=by rw [u];split<;>simp
 have M:k<=hy aR:=by rw [t];split<;>omega
 have S:k<aR:=by have:=uB (n:=aR) (by omega);omega
 have F:hy aR=(aR-1)/3:=by rcases D with rfl|rfl<;>rfl
 refine a1 [.bool lO,.bool fm] func5 ntmps5 results5 (nb 7 j (λaa w=>sub aa [(1,.bool fm),(5,.int .i64 (aR:Nat)),(6,ab 0)]/\w=o) ?_ ?_)
 .refine aT 3 j j (λm=>?_) (λm=>?_)
  .refine bX 2 j (⟨⟨j,aL (λx:Nat=>some (Value.int .i64 (x:Int))) (by rw [u,a6 m]),j,ba⟩,j⟩)
  refine bX 1 j (⟨⟨j,aL (λx:Nat=>some (Value.int .i64 (x:Int))) (by rw [u,aF (by simp [m])]),j,ba⟩,j⟩)
 rintro aa w ⟨aM,a⟩
 have a:=a.symm
 subst a
 refine mJ [(1,.bool fm),(5,.int .i64 (aR:Nat)),(6,ab 0)] aM (nb 0 j (λaa w=>sub aa [(5,.int .i64 (aR:Nat)),(6,.int .i64 (k:Nat))]/\w=o) ?_ ?_)
 .refine aT 3 j j (λq=>?_) (λq=>?_)
  .refine bt 2 j j j (hv aR 1 (by omega) (by omega)) (tr (J:=3) j j j j (by decide) (by omega) (bX 1 j (⟨⟨j,aL (λx:Nat=>some (Value.int .i64 (x:Int))) (by rw [t,a6 q,F]),ba⟩,j⟩)))
  refine bX 1 j (⟨⟨j,aL (λx:Nat=>some (Value.int .i64 (x:Int))) (show 0=k by rw [t,aF (by simp [q])]),ba⟩,j⟩)
 rintro aa w ⟨aM,a⟩
 have a:=a.symm
 subst a
 refine mJ [(5,.int .i64 (aR:Nat)),(6,.int .i64 (k:Nat))] aM (bm 4 (FE (o:=_) (aR:=aR) (k:=k) D M) j (λr v⟨aO,g,G,c,I,H,e,B⟩=>?_))
 subst c
 have h:Holds v G:=B.holds (G:=G) (by simp)
 refine ar 11 j (b2 24 (.bool false) j (aL Value.bool (j)) ?_)
 refine ar 4 j (b2 28 (.bool false) j (aL Value.bool (j)) ?_)
 refine bm 1 (Cq e h) j (λr d⟨bh,c,l⟩=>?_)
 subst c
 subst d
 refine cY 9 j (cA:=Nat) (λi=>[(5,.int .i64 (aR:Nat)),(7,Z aO),(9,.int .i64 (i:Nat))]) (λi w=>i<=4/\w=v) (λi=>4-i) 0 ⟨j,j,j,ba⟩ ⟨ch _,j⟩ ?_
 rintro i w ⟨K,a⟩
 have a:=a.symm
 subst a
 refine aT 5 j j (λf=>?_) (λf=>?_)
 .refine bm 7 (partAt (i:=(i:Int)) e h ⟨by omega,by have:=br f;show(i:Int)<((i2 4).length:Int);rw [show(i2 4).length=4 from ot];omega⟩) j (λr d⟨bh,b,bd,c,N,z,A,l⟩=>?_)
  subst c
  subst d
  refine ar 2 j (b2 41 (.bool false) j (aL Value.bool (j)) ?_)
  refine bm 2 (partAt (i:=(i:Int)) e h ⟨by omega,by have:=br f;show(i:Int)<((i2 4).length:Int);rw [show(i2 4).length=4 from ot];omega⟩) j (λr d⟨bh,b,bd,c,N,z,A,l⟩=>?_)
  subst c
  subst d
  refine bm 0 (yE z A) j (λr d⟨bc,L,c,R,P,l⟩=>?_)
  subst c
  subst d
  refine bt 6 j j j (c2 i (by omega)) (bX 1 j ?_)
  exact⟨i+1,⟨j,j,j,ba⟩,⟨by have:=br f;omega,j⟩,by have:=br f;omega⟩
 refine cY 6 j (cA:=Nat) (λi=>[(5,.int .i64 (aR:Nat)),(7,Z aO),(10,.int .i64 (i:Nat))]) (λi w=>i<=aR/\w=v) (λi=>aR-i) 0 ⟨j,j,j,ba⟩ ⟨ch _,j⟩ ?_
 rintro i w ⟨K,a⟩
 have a:=a.symm
 subst a
 refine aT 6 j j (λs=>?_) (λs=>?_)
 .refine bp 7 (oO (i:=(i:Int)) e h) j (λd l=>?_)
  subst d
  refine ar 1 j (c7 56 j (λy=>?_) (λy=>?_))
  refine bm 2 (zO (i:=(i:Int)) e h) j (λr d⟨p,O,c,E,Q,l⟩=>?_)
  subst c
  subst d
  refine iW 2 j j ((E.isNil y)) (bt 3 j j j (c2 i (by omega)) ?_)
  rotate_left
  refine bt 9 j j j (c2 i (by omega)) ?_
  rotate_left
  all_goals
   refine bX 1 j ?_
   exact⟨i+1,⟨j,j,j,ba⟩,⟨by have:=br s;omega,j⟩,by have:=br s;omega⟩
 refine ao 5 j j ?_
 exact⟨aO,g,G,j,I,H,e,B⟩
theorem yr{o:World}:Calls prog 11 #[] o (aS λr w=>r= .bool true/\C o [] [] w):=by
 refine a1 [] func11 ntmps11 results11 (bm 5 (w1 (lO:=false) (fm:=true) (aR:=4) (k:=1) j j) j (λr t⟨aO,g,G,c,v,u,f,h⟩=>?_))
 subst c
 have e:Holds t G:=h.holds (G:=G) (by simp)
 refine ar 6 j (b2 5 (.bool true) j (aL Value.bool (j)) ?_)
 refine bp 1 (oO (i:=0) f e) j (λa d=>?_)
 subst a
 refine ar 2 j (b2 9 (.bool true) j (aL Value.bool (j)) ?_)
 refine bp 1 (oO (i:=3) f e) j (λa d=>?_)
 subst a
 refine ar 3 j (b2 14 (.bool true) j (aL Value.bool (j)) ?_)
 refine bm 1 (partAt (i:=0) f e ⟨by decide,by decide⟩) j (λr a⟨bh,b,bd,c,s,l,m,d⟩=>?_)
 subst c
 subst a
 refine bm 0 (yE l m) j (λr a⟨bc,L,c,p,n,d⟩=>?_)
 subst c
 subst a
 refine bp 0 (ET p n) j (λa d=>?_)
 subst a
 have q:b=cM.new:=(hr s).symm
 subst q
 refine ao 3 j j ?_
 exact⟨j,h.bare⟩
abbrev kQ(e:e6×hJ):List Value:=cQ e.1 e.2
theorem sM(l:List (e6×hJ)):∀e∈l,(kQ e).length=11:=λ_ _=>rfl
theorem Rd.plain{w:World}{A:Option Addr}{U:List Value}(h:Rd w A U)(aP:0<U.length):∃b I,A=some ⟨b,I,none⟩:=by
 obtain⟨a,rfl,c⟩:=h 0 U[0] (ck aP)
 have aM:a.spot=none:=World.cell?_spot (a:=a) (by simpa [Addr.add] using c)
 obtain⟨b,I,s⟩:=a
 cases aM
 exact⟨b,I,j⟩
theorem Rd.step{w:World}{b I:Nat}{l:List (e6×hJ)}(h:Rd w (some ⟨b,I,none⟩) (l.flatMap kQ)){i J:Nat}(c:i<l.length){v:Value}(d:(kQ l[i])[J]? =some v):w.cell? ⟨b,I+i*11+J,none⟩=some v:=by
 have a:=(jE h (sM l) i c).cell d
 rw [add_lit,add_lit] at a
 exact a
section
variable {P:Program} {n:Nat} {aa:Env} {w:World} {dst:Option Nat} {ty:TypeId} {pos:String} {after:Array Edge} {g:Option (Nat×Bool)}
theorem A7{t f:TypeId}{x y:Operand}{xs cR:Array Value}{b:Bool}(d:bs aa x=some (.agg xs))(e:bs aa y=some (.agg cR))(hm:P.eqGuardType P.depth t=false)(c:∀w,(Op.equalIn 10000 t (.agg xs) (.agg cR)).run P w= .ok b w):
 ∀ac,cG aa n ac->(execOp ac.eval ⟨dst,.binOp .neq t x y f,ty,pos,after,g⟩).run P w= .ok (.value (.bool (!b))) w:=λac a=>by
 simp only [execOp,a.eval d,a.eval e,dR,run_eqGuard_agg w .neq t x y xs cR hm,dU,run_neq_struct,c,ee]
end
theorem E9{o:World}{A:Option Addr}{ls:List (e6×hJ)}{c:Nat}(e:Rd o A (ls.flatMap kQ)):Calls prog 4 #[.slice A ls.length c] o (aS λr w=>(∃b:Bool,r= .bool b)/\C o [] [] w):=by
 have a:Own [] o:=C.start o
 refine a1 [.slice A ls.length c] func4 ntmps4 results4 (cY 11 j (cA:=Nat×Int) (λi=>[(0,.slice A ls.length c),(3,.int .i64 i.2),(4,.int .i64 (i.1:Nat))]) (λi w=>i.1<=120/\C o [] [] w) (λi=>120-i.1) (0,0) ⟨j,j,j,ba⟩ ⟨ch _,a⟩ ?_)
 rintro⟨i,m⟩ w ⟨n,a⟩
 dsimp only at n a⊢
 refine ar 8 j (c7 9 j (λg=>?_) (λg=>?_))
 .refine aT 3 j j (λf=>?_) (λf=>?_)
  .have d:i<ls.length:=by have:=br g;omega
   have s:i<120:=by have:=br f;omega
   have l:=oM ls (sM ls)
   obtain⟨p,q,rfl⟩:=e.plain (by rw [l];omega)
   have a:=a.drew
   refine bz 4 j (λw=>∃ae,C o [] ae w) ⟨_,a⟩ (af 0 4 j (aV 4 j (λw _=>gI (J:=i) j j d) (af 5 1 j (bT 6 j (λw⟨_,h⟩=>Rd.step (h.rd e (bU.of_nil _ _)) d (J:=3) j) (af 7 4 j (aV 11 j (λw _=>gI (J:=i) j j d) (af 12 2 j (bT 14 j (λw⟨_,h⟩=>Rd.step (h.rd e (bU.of_nil _ _)) d (J:=8) j) (af 15 4 j (aV 19 j (λw _=>gI (J:=i) j j d) (af 20 2 j (bT 22 j (λw⟨_,h⟩=>Rd.step (h.rd e (bU.of_nil _ _)) d (J:=10) j) (af 23 3 j (bO (aT 4 j j (λk=>?_) (λk=>?_))))))))))))))))
   .refine ao 3 j j ?_
    exact⟨⟨_,j⟩,a⟩
   refine bt 3 j j j (c2 i (by omega)) (bX 1 j ?_)
   exact⟨(i+1,_),⟨j,j,j,ba⟩,⟨by dsimp only;omega,a⟩,by dsimp only;omega⟩
  refine ao 4 j j ?_
  exact⟨⟨_,j⟩,a⟩
 refine ao 8 j j ?_
 exact⟨⟨_,j⟩,a⟩
theorem zw{o:World}{v v2:Value}{l b:List (List UInt8)}{G aA:List Chunk}(L:gm v l G)(p:Holds o G)(M:gm v2 b aA)(q:Holds o aA)(N:∀x∈l,x.length<=1000000000)(O:∀x∈b,x.length<=1000000000)(Q:∀(J:Nat)(x y:List UInt8),l[J]? =some x->b[J]? =some y->bL x=bL y):Calls prog 10 #[v,v2] o (aS λr w=>r= .bool true/\C o [] [] w):=by
 have a:Own [] o:=C.start o
 obtain⟨ak,H,us,rfl,R,I⟩:=L
 obtain⟨X,W,am,rfl,S,K⟩:=M
 obtain⟨A,c,rfl,aj,P,s,_⟩:=R.read p.left
 obtain⟨m,dn,rfl,al,aa,t,_⟩:=S.read q.left
 unfold maxLen at P
 refine a1 [.slice A l.length c,.slice m b.length dn] func10 ntmps10 results10 (cY 8 j (cA:=Nat) (λi=>[(0,.slice A l.length c),(1,.slice m b.length dn),(5,.int .i64 (i:Nat))]) (λi w=>i<=l.length/\∃ae,C o [] ae w) (λi=>l.length-i) 0 ⟨j,j,j,ba⟩ ⟨ch _,_,a⟩ ?_)
 rintro i w ⟨ab,_,a⟩
 refine ar 8 j (c7 10 j (λf=>?_) (λf=>?_))
 .refine aT 5 j j (λn=>?_) (λn=>?_)
  .have d:i<l.length:=by have:=br f;omega
   have e:i<b.length:=by have:=br n;omega
   obtain⟨U,ci,g,ac,ag,B⟩:=I.read p.right i d
   obtain⟨V,F,k,ah,ai,D⟩:=K.read q.right i e
   have T:=Q i _ _ (ck d) (ck e)
   obtain⟨Y,rfl,_⟩:=s i _ g
   obtain⟨Z,rfl,_⟩:=t i _ k
   have u:=s
   have z:=t
   have a:=a.drew
   refine bz 4 j (λw=>∃ae,C o [] ae w) ⟨_,a⟩ (af 0 2 j (aV 2 j (λw _=>kv (J:=i) j j d) (bT 3 j (λw⟨_,h⟩=>Rd.cell (h.rd u (bU.of_nil _ _)) g) (aV 4 j (λw⟨_,h⟩=>mD j (h.rd B (bU.of_nil _ _))) (af 5 2 j (aV 7 j (λw _=>kv (J:=i) j j e) (bT 8 j (λw⟨_,h⟩=>Rd.cell (h.rd z (bU.of_nil _ _)) k) (aV 9 j (λw⟨_,h⟩=>mD j (h.rd D (bU.of_nil _ _))) (aV 10 j (λw _=>v7 j j (my _ _)) (af 11 1 j (ef 29 j (λE=>?_) (λE=>?_))))))))))))
   refine af 12 2 j (aV 14 j (λw _=>kv (J:=i) j j d) (bT 15 j (λw⟨_,h⟩=>Rd.cell (h.rd u (bU.of_nil _ _)) g) (af 17 2 j (aV 19 j (λw _=>kv (J:=i) j j e) (bT 20 j (λw⟨_,h⟩=>Rd.cell (h.rd z (bU.of_nil _ _)) k) (aW 16 j (bF j j j (Az (c:=ci) (a.rd B (bU.of_nil _ _)) (N _ (ek d))) (λw ad=>?_))))))))
   have a:=a.aN ad
   refine an ⟨⟨_,a⟩,?_⟩
   refine aW 21 j (bF j j j (Az (c:=F) (a.rd D (bU.of_nil _ _)) (O _ (ek e))) (λw ad=>?_))
   have a:=a.aN ad
   refine an ⟨⟨_,a⟩,?_⟩
   refine aV 22 j (λw _=>A7 j j (by kernel_rfl) (λw=>p9 _ _ (e4 _) (e4 _) 9998 w)) (af 23 1 j (bO (iW 0 j j ((by rw [T];simp)) (bt 3 j j j (c2 i (by omega)) ?_))))
   rotate_left
   refine fz 12 [12,13,14,15,17,18,19,20,16,21,22,23] j (bO (bt 4 j j j (c2 i (by omega)) ?_))
   rotate_left
   all_goals
    refine bX 1 j ?_
    exact⟨i+1,⟨j,j,j,ba⟩,⟨by have:=br f;omega,_,a⟩,by have:=br f;omega⟩
  refine ao 4 j j ?_
  exact⟨j,a.bare⟩
 refine ao 10 j j ?_
 exact⟨j,a.bare⟩
theorem Dm{o:World}{g:al}{aO:Nat}{z:aX}{G:List Chunk}{s:e6}{a:hJ}(p:eU g aO z G)(H:hW s a (av [G]) o){N M L:Nat}(ad:z.de g (λ_=>N) M L)(u:773<=N)(v:N+150<=1000000)(B:M+10000<=1000000)(t:L+4200000<=1000000000)(x:g.at o)(y:g.ok)(q:g.off (av [G]))(c:Own [G] o):Calls prog 6 #[Z aO,.agg (cQ s a).toArray] o (aS λr w=>r=ab (z.b5 g s).2/\∃ah,eU g aO (z.b5 g s).1 ah/\C o (av [G]) [ah] w):=by
 obtain⟨F,E⟩:∃F,F=av [G]:=⟨_,j⟩
 have A:g.off F:=E▸q
 rw [<-E]
 have c:C o F [G] o:=E▸c
 refine a1 [Z aO,.agg (cQ s a).toArray] func6 ntmps6 results6 (bP 2 c j j (λn w c=>?_))
 have c:C o F [R n (cQ s a).toArray 35,G] w:=c
 refine au 12 j (aw (C.aj (b:=n) c) j) (aT 6 j j (λd=>?_) (λd=>?_))
 .refine md 1 j j (d) (bS 3 (U:=cQ s a) j j j (bq (C.aj (b:=n) c)) ?_)
  have i:=sy (s:=s) (a:=a) p ((H.st c (λb D=>E▸D))) ad u v B t (x.st c A) y q (c.ours (cI:=[G]))
  refine bp 0 i j (λw⟨ah,h,l⟩=>?_)
  have c:=c.b4 l
  refine ao 1 j j ?_
  have f:s.k=1\/s.k=2\/s.k=3\/s.k=4:=by first|exact .inl (by simpa using d)|exact .inr (.inl (by simpa using d))|exact .inr (.inr (.inl (by simpa using d)))|exact .inr (.inr (.inr (by simpa using d)))
  have e:z.b5 g s=z.gG g s:=by unfold aX.b5;rw [if_pos f]
  rw [e]
  exact⟨j,ah,h,c.as⟩
 refine aT 4 j j (λd=>?_) (λd=>?_)
 .refine md 1 j j (d) (bS 3 (U:=cQ s a) j j j (bq (C.aj (b:=n) c)) ?_)
  have i:=sy (s:=s) (a:=a) p ((H.st c (λb D=>E▸D))) ad u v B t (x.st c A) y q (c.ours (cI:=[G]))
  refine bp 0 i j (λw⟨ah,h,l⟩=>?_)
  have c:=c.b4 l
  refine ao 1 j j ?_
  have f:s.k=1\/s.k=2\/s.k=3\/s.k=4:=by first|exact .inl (by simpa using d)|exact .inr (.inl (by simpa using d))|exact .inr (.inr (.inl (by simpa using d)))|exact .inr (.inr (.inr (by simpa using d)))
  have e:z.b5 g s=z.gG g s:=by unfold aX.b5;rw [if_pos f]
  rw [e]
  exact⟨j,ah,h,c.as⟩
 refine aT 4 j j (λd=>?_) (λd=>?_)
 .refine md 1 j j (d) (bS 3 (U:=cQ s a) j j j (bq (C.aj (b:=n) c)) ?_)
  have i:=sy (s:=s) (a:=a) p ((H.st c (λb D=>E▸D))) ad u v B t (x.st c A) y q (c.ours (cI:=[G]))
  refine bp 0 i j (λw⟨ah,h,l⟩=>?_)
  have c:=c.b4 l
  refine ao 1 j j ?_
  have f:s.k=1\/s.k=2\/s.k=3\/s.k=4:=by first|exact .inl (by simpa using d)|exact .inr (.inl (by simpa using d))|exact .inr (.inr (.inl (by simpa using d)))|exact .inr (.inr (.inr (by simpa using d)))
  have e:z.b5 g s=z.gG g s:=by unfold aX.b5;rw [if_pos f]
  rw [e]
  exact⟨j,ah,h,c.as⟩
 refine aT 3 j j (λd=>?_) (λd=>?_)
 .refine bS 3 (U:=cQ s a) j j j (bq (C.aj (b:=n) c)) ?_
  have i:=sy (s:=s) (a:=a) p ((H.st c (λb D=>E▸D))) ad u v B t (x.st c A) y q (c.ours (cI:=[G]))
  refine bp 0 i j (λw⟨ah,h,l⟩=>?_)
  have c:=c.b4 l
  refine ao 1 j j ?_
  have f:s.k=1\/s.k=2\/s.k=3\/s.k=4:=by first|exact .inl (by simpa using d)|exact .inr (.inl (by simpa using d))|exact .inr (.inr (.inl (by simpa using d)))|exact .inr (.inr (.inr (by simpa using d)))
  have e:z.b5 g s=z.gG g s:=by unfold aX.b5;rw [if_pos f]
  rw [e]
  exact⟨j,ah,h,c.as⟩
 refine aT 4 j j (λI=>?_) (λI=>?_)
 .refine bS 3 (U:=cQ s a) j j j (bq (C.aj (b:=n) c)) ?_
  have i:=BM (s:=s) (a:=a) p ad u v t (x.st c A) y q (c.ours (cI:=[G]))
  refine bp 0 i j (λw⟨ah,h,l⟩=>?_)
  have c:=c.b4 l
  refine ao 1 j j ?_
  have f:s.k=5:=by simpa using I
  have e:z.b5 g s=z.rG g s:=by unfold aX.b5;rw [if_neg (by omega),if_pos f]
  rw [e]
  exact⟨j,ah,h,c.as⟩
 refine aT 5 j j (λm=>?_) (λm=>?_)
 .refine md 1 j j (m) (bS 3 (U:=cQ s a) j j j (bq (C.aj (b:=n) c)) ?_)
  have i:=u7 (s:=s) (a:=a) p ad u v B t (x.st c A) y q (c.ours (cI:=[G]))
  refine bp 0 i j (λw⟨ah,h,l⟩=>?_)
  have c:=c.b4 l
  refine ao 1 j j ?_
  have f:s.k=6\/s.k=7\/s.k=8:=by first|exact .inl (by simpa using m)|exact .inr (.inl (by simpa using m))|exact .inr (.inr (by simpa using m))
  have e:z.b5 g s=z.g9 g s:=by unfold aX.b5;rw [if_neg (by omega),if_neg (by omega),if_pos f]
  rw [e]
  exact⟨j,ah,h,c.as⟩
 refine aT 4 j j (λm=>?_) (λm=>?_)
 .refine md 1 j j (m) (bS 3 (U:=cQ s a) j j j (bq (C.aj (b:=n) c)) ?_)
  have i:=u7 (s:=s) (a:=a) p ad u v B t (x.st c A) y q (c.ours (cI:=[G]))
  refine bp 0 i j (λw⟨ah,h,l⟩=>?_)
  have c:=c.b4 l
  refine ao 1 j j ?_
  have f:s.k=6\/s.k=7\/s.k=8:=by first|exact .inl (by simpa using m)|exact .inr (.inl (by simpa using m))|exact .inr (.inr (by simpa using m))
  have e:z.b5 g s=z.g9 g s:=by unfold aX.b5;rw [if_neg (by omega),if_neg (by omega),if_pos f]
  rw [e]
  exact⟨j,ah,h,c.as⟩
 refine aT 3 j j (λm=>?_) (λm=>?_)
 .refine bS 3 (U:=cQ s a) j j j (bq (C.aj (b:=n) c)) ?_
  have i:=u7 (s:=s) (a:=a) p ad u v B t (x.st c A) y q (c.ours (cI:=[G]))
  refine bp 0 i j (λw⟨ah,h,l⟩=>?_)
  have c:=c.b4 l
  refine ao 1 j j ?_
  have f:s.k=6\/s.k=7\/s.k=8:=by first|exact .inl (by simpa using m)|exact .inr (.inl (by simpa using m))|exact .inr (.inr (by simpa using m))
  have e:z.b5 g s=z.g9 g s:=by unfold aX.b5;rw [if_neg (by omega),if_neg (by omega),if_pos f]
  rw [e]
  exact⟨j,ah,h,c.as⟩
 refine aT 4 j j (λJ=>?_) (λJ=>?_)
 .refine bS 3 (U:=cQ s a) j j j (bq (C.aj (b:=n) c)) ?_
  have i:=HT (s:=s) (a:=a) p ad u v B t (x.st c A) y q (c.ours (cI:=[G]))
  refine bp 0 i j (λw⟨ah,h,l⟩=>?_)
  have c:=c.b4 l
  refine ao 1 j j ?_
  have f:s.k=9:=by simpa using J
  have e:z.b5 g s=z.fW g s:=by unfold aX.b5;rw [if_neg (by omega),if_neg (by omega),if_neg (by omega),if_pos f]
  rw [e]
  exact⟨j,ah,h,c.as⟩
 refine aT 4 j j (λK=>?_) (λK=>?_)
 .refine bS 3 (U:=cQ s a) j j j (bq (C.aj (b:=n) c)) ?_
  have i:=E4 (s:=s) (a:=a) p ((H.st c (λb D=>E▸D))) ad u v B t (x.st c A) y q (c.ours (cI:=[G]))
  refine bp 0 i j (λw⟨ah,h,l⟩=>?_)
  have c:=c.b4 l
  refine ao 1 j j ?_
  have f:s.k=10:=by simpa using K
  have e:z.b5 g s=z.fm g s:=by unfold aX.b5;rw [if_neg (by omega),if_neg (by omega),if_neg (by omega),if_neg (by omega),if_pos f]
  rw [e]
  exact⟨j,ah,h,c.as⟩
 refine aT 4 j j (λO=>?_) (λO=>?_)
 .have i:=Gi p ad u v B t (x.st c A) y q (c.ours (cI:=[G]))
  refine bp 3 i j (λw⟨ah,h,l⟩=>?_)
  have c:=c.b4 l
  refine ao 1 j j ?_
  have f:s.k=11:=by simpa using O
  have e:z.b5 g s=(z.polls g,0):=by unfold aX.b5;rw [if_neg (by omega),if_neg (by omega),if_neg (by omega),if_neg (by omega),if_neg (by omega),if_pos f]
  rw [e]
  exact⟨j,ah,h,c.as⟩
 refine ao 4 j j ?_
 simp only [fq,ne_eq] at*
 have e:z.b5 g s=(z,1):=by unfold aX.b5;rw [if_neg (by omega),if_neg (by omega),if_neg (by omega),if_neg (by omega),if_neg (by omega),if_neg (by omega)]
 rw [e]
 exact⟨j,G,p,c.as⟩
def gE(z:aX)(i:Nat):List (List UInt8):=match z.rep (i:Int) with
 |some x=>x.s.log.map Prod.fst
 |none=>[]
def iK(z b:aX)(a:Nat):List (List (List UInt8)):=(List.range 7).map λi=>if i<a then gE b i else gE z i
theorem s5(z b:aX)(a:Nat):(iK z b a).length=7:=by simp [iK]
theorem Ij(z a:aX):iK z z 0=iK z a 0:=oB λi _=>by rw [aF (by omega),aF (by omega)]
theorem Ig(z a:aX):iK z a 7=iK a a 0:=oB λi b=>by rw [a6 (mV.1 b),aF (by omega)]
theorem s4(z b:aX)(a:Nat){i:Nat}(h:i<7):(iK z b a)[i]? =some (if i<a then gE b i else gE z i):=by unfold iK;rw [List.getElem?_map,List.getElem?_range h];rfl
theorem Ih(z b:aX){a:Nat}(h:a<7):(iK z b a).set a (gE b a)=iK z b (a+1):=by
 apply ny
 intro i
 rw [tv]
 by_cases c:i<7
 .rw [s4 z b a c,s4 z b (a+1) c,s5]
  by_cases he:a=i
  .subst he;simp [h]
  .rw [aF he]
   by_cases d:i<a
   .rw [a6 d,a6 (by omega)]
   .rw [aF d,aF (by omega)]
 .rw [aF (by omega),kA (by rw [s5];omega),kA (by rw [s5];omega)]
theorem aX.o1{z:aX}{i:Nat}{x:bo}(h:z.rep (i:Int)=some x):z.bM[i]? =some (some x):=by
 unfold aX.rep at h
 rw [a6 (by omega),l5] at h
 cases a:z.bM[i]? with
 |none=>rw [a] at h;cases h
 |some I=>rw [a] at h;have h:I=some x:=h;rw [h]
theorem aX.GK{z:aX}{i:Nat}{x:bo}(h:z.bM[i]? =some (some x)):z.rep (i:Int)=some x:=by
 unfold aX.rep
 rw [a6 (by omega),l5,h]
 rfl
theorem nP{z:aX}{i:Nat}{x:bo}(h:z.rep (i:Int)=some x):gE z i=x.s.log.map Prod.fst:=by unfold gE;rw [h]
theorem iw.yG{z b:aX}(h:iw z b)(i:Nat):gE z i<+:gE b i:=by
 cases a:z.rep (i:Int) with
 |none=>unfold gE;rw [a];exact List.nil_prefix
 |some x=>
  obtain⟨y,d,c⟩:=h.2 i x (aX.o1 a)
  rw [nP a,nP (aX.GK d)]
  exact c.map _
theorem Ii{z b:aX}(h:iw z b){a:Nat}(aP:b.rep (a:Int)=none):iK z b (a+1)=iK z b a:=by
 have c:gE b a=[]:=by unfold gE;rw [aP]
 have e:gE z a=[]:=List.prefix_nil.1 (c▸h.yG a)
 refine oB λi _=>?_
 by_cases he:i=a
 .subst he;rw [a6 (by omega),aF (by omega),e,c]
 .by_cases d:i<a
  .rw [a6 (by omega),a6 d]
  .rw [aF (by omega),aF d]
theorem E6{g:al}{h:Nat}{H:List dv}{aQ:List aG}{z:aX}(i:eA g h H aQ z)(j:1<=g.n)(p q:Nat)(J:Nat)(x y:List UInt8)(a:(gE z p)[J]? =some x)(b:(gE z q)[J]? =some y):bL x=bL y:=by
 cases c:z.rep (p:Int) with
 |none=>unfold gE at a;rw [c] at a;cases a
 |some u=>
  cases d:z.rep (q:Int) with
  |none=>unfold gE at b;rw [d] at b;cases b
  |some v=>
   rw [nP c,gn] at a
   rw [nP d,gn] at b
   obtain⟨e,he,rfl⟩:=Option.map_eq_some_iff.1 a
   obtain⟨f,bx,rfl⟩:=Option.map_eq_some_iff.1 b
   exact i.agree j (aX.o1 c) (aX.o1 d) he bx
theorem sd{g:al}{k:Nat}{z:aX}(h:z.ok g k)(i:Nat):∀x∈gE z i,x.length<=1000000000:=λx a=>by
 cases b:z.rep (i:Int) with
 |none=>unfold gE at a;rw [b] at a;cases a
 |some u=>
  rw [nP b] at a
  obtain⟨e,he,rfl⟩:=dT.1 a
  have:=((h.iu i u (aX.o1 b)).1.s.nd e he).1
  omega
theorem Gj{l c:List (List UInt8)}(h:l<+:c)(J:Nat)(x y:List UInt8)(a:l[J]? =some x)(b:c[J]? =some y):bL x=bL y:=by
 obtain⟨t,rfl⟩:=h
 rw [iz (fa.1 a).1,a] at b
 cases b
 rfl
theorem E8{n k:Nat}(ad:k<=n)(b:aX):iK (aX.new n k) b 0=List.replicate 7 []:=by
 have h:∀i,gE (aX.new n k) i=[]:=λi=>by
  cases a:(aX.new n k).rep (i:Int) with
  |none=>unfold gE;rw [a]
  |some x=>
   rw [nP a,(vF (by omega) (aX.o1 a)).2]
   rfl
 unfold iK
 simp [h,List.map_const']
theorem dS.slot{U:List Value}{ls:List (List (List UInt8))}{f:List Chunk}(g:dS gm U ls f){i:Nat}{x:List (List UInt8)}(p:ls[i]? =some x):∃(A d B:List Chunk)(a:Option Addr)(c:Nat),f=A++(d++B)/\U[i]? =some (.slice a x.length c)/\gm (.slice a x.length c) x d/\∀v eO e,gm v eO e->dS gm (U.set i v) (ls.set i eO) (A++(e++B)):=by
 obtain⟨k,rfl⟩:=fa.1 p
 have m:i<U.length:=by rw [g.len];exact k
 obtain⟨A,d,B,rfl,b,n⟩:=g.put i k
 rw [ck m] at b
 obtain⟨a,c,l⟩:∃a c,U[i]= .slice a ls[i].length c:=by
  obtain⟨_,_,_,_,o,_⟩:=b
  obtain⟨A,c,h,_⟩:=o.form
  exact⟨A,c,h⟩
 have b:gm U[i] ls[i] d:=b
 rw [l] at b
 exact⟨A,d,B,a,c,j,by rw [ck m,l],b,n⟩
theorem al.Ch{g:al}{o w:World}{F:List Nat}{ae:List (List Chunk)}(h:C o F ae w)(a:dC g∈ae):g.at w:=⟨(h.holds a).head,(h.holds a).tail.head⟩
theorem al.FI{g:al}{o w:World}{F:List Nat}{G:List Chunk}{ae:List (List Chunk)}(h:C o F (G::ae) w)(d:dC g∈ae):g.off (av [G]):=by
 have aP:=h.nodup
 rw [oP] at aP
 have c:=(iy.1 aP).2.2
 have hm:∀b,b∈av [dC g]->b∈av ae:=fB (by simpa using d)
 exact⟨λa=>c _ a _ (hm g.aq (by simp [av])) j,λa=>c _ a _ (hm g.eQ (by simp [av])) j⟩
theorem BN{o:World}{lO fm:Bool}{A:Option Addr}{ls:List (e6×hJ)}{c:Nat}(aI:Rd o A (ls.flatMap kQ))(bi:∀e∈ls,hW e.1 e.2 [] o):Calls prog 3 #[.bool lO,.bool fm,.slice A ls.length c] o (aS λr w=>r= .bool true/\C o [] [] w):=by
 have d:Own [] o:=C.start o
 refine a1 [.bool lO,.bool fm,.slice A ls.length c] func3 ntmps3 results3 (bm 7 (E9 (c:=c) (d.rd aI (bU.of_nil _ _))) j (λr w⟨⟨b,O⟩,ad⟩=>?_))
 subst O
 have d:=d.aN ad
 refine aT 0 j j (λaY=>?_) (λaY=>?_)
 .refine ao 3 j j ?_
  exact⟨j,d.bare⟩
 obtain⟨aR,aH⟩:∃aR,aR=if lO=true then 7 else 4:=⟨_,j⟩
 obtain⟨k,aG⟩:∃k,k=if fm=true then hy aR else 0:=⟨_,j⟩
 have bE:aR=4\/aR=7:=by rw [aH];split<;>simp
 have aE:k<=hy aR:=by rw [aG];split<;>omega
 have bj:k<=aR:=by have:=uB (n:=aR) (by omega);omega
 refine bm 5 (w1 aH aG) j (λr w⟨aO,g,G,O,ak,bg,S,ad⟩=>?_)
 subst O
 have d:=d.aN ad
 have aD:g.n=aR:=by show g.keys.length=aR;rw [bg,GL];omega
 have bf:2<=g.n:=by omega
 refine cn 10 d j (λl w d=>?_)
 have d:C o [] [R l (List.replicate 7 (Value.slice none 0 0)).toArray 27,dC g,G] w:=d
 have d:C o [] [G,R l (List.replicate 7 (Value.slice none 0 0)).toArray 27,[],dC g] w:=d.empty.as
 refine cY 5 j (cA:=Nat×aX×List Chunk×List Value×List Chunk) (λi=>[(2,.slice A ls.length c),(7,Z aO),(8,Z l),(9,.int .i64 (i.1:Nat))])
  (λi w=>i.1<=120/\eU g aO i.2.1 i.2.2.1/\(∃H aQ,eA g (aR-k) H aQ i.2.1/\gK aQ i.2.1)/\i.2.1.ok g i.1/\dS gm i.2.2.2.1 (iK i.2.1 i.2.1 0) i.2.2.2.2/\C o [] [i.2.2.1,R l (i.2.2.2.1).toArray 27,i.2.2.2.2,dC g] w) (λi=>120-i.1) (0,aX.new aR k,G,_,[]) ⟨j,j,j,j,ba⟩ ⟨ch _,S,⟨[],[],aX.vj aD aE (by omega)⟩,aX.lc aD aE (by omega),by dsimp only;rw [E8 bj];exact dS.rep ⟨[],[],[],j,Row.nil _ _,j⟩ 7,d⟩ ?_
 rintro⟨i,z,G,U,I⟩ w ⟨bh,S,a7,W,D,d⟩
 dsimp only at bh S a7 W D d⊢
 refine ar 8 j (c7 24 j (λaq=>?_) (λaq=>?_))
 .refine aT 3 j j (λav=>?_) (λav=>?_)
  .have V:i<ls.length:=by have:=br aq;omega
   have bD:i<120:=by have:=br av;omega
   have X:=d.rd aI (bU.of_nil _ _)
   refine ar 8 j (fL j j j j X (v:=ab ls[i].1.k) (iC (f:=kQ) (J:=0) ls (sM ls) i V (by decide) j) V (λaW af bC=>?_))
   have X:Rd w (some aW) (ls.flatMap kQ):=af▸X
   refine bS 0 (U:=kQ ls[i]) j j j (jE X (sM ls) i V) ?_
   have be:=Dm (s:=ls[i].1) (a:=ls[i].2) S (((bi _ (ek V)).apart d).sub (fB (by simp))) W.F (by omega) (by omega) (by omega) (by omega) (al.Ch d (by simp)) ak (al.FI d (by simp)) d.j1
   refine bm 0 be j (λr w⟨_,ah,T,ad⟩=>?_)
   have d:C o [] [ah,R l (U).toArray 27,I,dC g] w:=d.im ad
   obtain⟨H,aQ,a7,af⟩:=a7
   obtain⟨H1,aV,ai,ay,am⟩:=a7.b5 ak bf af ls[i].1
   have K:=W.b5 ak ls[i].1
   generalize (z.b5 g ls[i].1).1=t at T ai ay am K
   rw [Ij z t] at D
   refine cY 4 j (cA:=Nat×List Value×List Chunk) (λq=>[(2,.slice A ls.length c),(7,Z aO),(8,Z l),(9,.int .i64 (i:Nat)),(10,.int .i64 (q.1:Nat))])
    (λq w=>q.1<=7/\dS gm q.2.1 (iK z t q.1) q.2.2/\C o [] [ah,R l (q.2.1).toArray 27,q.2.2,dC g] w) (λq=>7-q.1) (0,U,I) ⟨j,j,j,j,j,ba⟩ ⟨ch _,D,d⟩ ?_
   rintro⟨a,U,I⟩ w ⟨bb,D,d⟩
   dsimp only at bb D d⊢
   refine aT 5 j j (λaa=>?_) (λaa=>?_)
   .have aB:a<7:=by have:=br aa;omega
    have az:Holds w ah:=d.holds (G:=ah) (by simp)
    refine bp 8 (oO (i:=(a:Int)) T az) j (λap bo=>?_)
    subst ap
    refine aT 1 j j (λac=>?_) (λac=>?_)
    .refine bt 3 j j j (c2 a (by omega)) (bX 1 j ?_)
     exact⟨(a+1,U,I),⟨j,j,j,j,j,ba⟩,⟨by dsimp only;omega,by have h:=Ii am (a:=a) (Option.not_isSome_iff_eq_none.1 (by simpa using ac));dsimp only;rw [h];exact D,d⟩,by dsimp only;omega⟩
    obtain⟨x,an⟩:∃x,t.rep (a:Int)=some x:=g4.1 (by simpa using ac)
    refine bm 5 (zO (i:=(a:Int)) T az) j (λr ap⟨p,aM,O,aA,a3,bo⟩=>?_)
    subst O
    subst ap
    rw [an] at aA
    obtain⟨P,rfl,a9⟩:∃P,p=some ⟨P,0,none⟩/\hK g P x aM:=by
     rcases aA with⟨_,h,_⟩|⟨y,P,aZ,a0,a2⟩
     .cases h
     .cases a0;exact⟨P,aZ,a2⟩
    refine bm 0 (E7 a9 a3 (K.iu a x (aX.o1 an)).1.s) j (λr w⟨m,M,ad⟩=>?_)
    rw [<-nP an] at M
    obtain⟨Y,ae,rfl⟩:∃A c,r= .slice A (gE t a).length c:=by
     obtain⟨_,_,_,_,bl,_⟩:=M
     obtain⟨A,c,h,_⟩:=bl.form
     exact⟨A,c,h⟩
    have d:C o [] [m,ah,R l (U).toArray 27,I,dC g] w:=d.aN ad
    have bq:(iK z t a)[a]? =some (gE z a):=by rw [s4 z t a (by omega),aF (Nat.lt_irrefl a)]
    obtain⟨u,L,B,bx,bz,ag,aJ,a8,bk⟩:=D.slot bq
    subst ag
    have aC:=am.yG a
    refine ar 7 j (gJ (J:=a) j j j j (by omega) ?_)
    refine au 0 j (aw (C.aj (b:=l) d) (by simpa using aJ)) (ar 3 j (b2 55 (.bool false) j (congrArg Value.bool ((decide_eq_false (by have:=aC.length_le;omega)))) ?_))
    refine ar 1 j (gJ (J:=a) j j j j (by omega) ?_)
    refine au 0 j (aw (C.aj (b:=l) d) (by simpa using aJ)) ?_
    have N:=d.holds (G:=u++(L++B)) (by simp)
    refine bp 1 (zw a8 N.right.left M (d.holds (G:=m) (by simp)) (sd W a) (sd K a) (Gj aC)) j (λw ad=>?_)
    have d:C o [] [m,ah,R l (U).toArray 27,u++(L++B),dC g] w:=d.aN ad
    refine ar 8 j (gJ (J:=a) j j j j (by omega) ?_)
    have bF:U.length=7:=by rw [D.len,s5]
    have d:C o [] [R l (U).toArray 27,m,ah,u,L,B,dC g] w:=C.perm (A:=[R l (U).toArray 27,m,ah,u++(L++B),dC g]) d.as (by simp)
    refine cC d j j j j (by simp;omega) (λw d=>?_)
    have Q:=bk _ _ _ M
    rw [Ih z t (by omega)] at Q
    have d:C o [] [[(l,.cells (U.set a (.slice Y (gE t a).length ae)).toArray 27 (0,0))],m,ah,u,L,B,dC g] w:=by simpa using d
    generalize U.set a (.slice Y (gE t a).length ae)=E at d Q
    have d:C o [] [R l (E).toArray 27,ah,u,m,B,dC g] w:=d.as
    have bA:∃aK aL,u++(m++B)=aK++(m++aL):=⟨u,B,j⟩
    have d:C o [] [R l (E).toArray 27,ah,u++(m++B),dC g] w:=C.perm (A:=[R l (E).toArray 27,ah,u,m,B,dC g]) d (by simp)
    have d:C o [] [ah,R l (E).toArray 27,u++(m++B),dC g] w:=d.as
    refine cY 4 j (cA:=Nat) (λb=>[(2,.slice A ls.length c),(7,Z aO),(8,Z l),(9,.int .i64 (i:Nat)),(10,.int .i64 (a:Nat)),(11,.slice Y (gE t a).length ae),(12,.int .i64 (b:Nat))])
     (λb w=>b<=a/\C o [] [ah,R l (E).toArray 27,u++(m++B),dC g] w) (λb=>a-b) 0 ⟨j,j,j,j,j,j,j,ba⟩ ⟨ch _,d⟩ ?_
    rintro b w ⟨bB,d⟩
    refine aT 6 j j (λax=>?_) (λax=>?_)
    .have bd:b<a:=by have:=br ax;omega
     refine ar 6 j (gJ (J:=b) j j j j (by omega) ?_)
     have bc:(iK z t (a+1))[b]? =some (gE t b):=by rw [s4 z t (a+1) (by omega),a6 (by omega)]
     obtain⟨bs,aP,bu,bv,aU,ag,bn,a5,_⟩:=Q.slot bc
     refine au 0 j (aw (C.aj (b:=l) d) (by simpa using bn)) ?_
     have N:=d.holds (G:=u++(m++B)) (by simp)
     have a4:Holds w aP:=by rw [ag] at N;exact N.right.left
     refine bp 1 (zw a5 a4 M N.right.left (sd K b) (sd K a) (E6 ai (by omega) b a)) j (λw ad=>?_)
     have d:C o [] [ah,R l (E).toArray 27,u++(m++B),dC g] w:=d.aN ad
     refine bt 5 j j j (c2 b (by omega)) (bX 1 j ?_)
     exact⟨b+1,⟨j,j,j,j,j,j,j,ba⟩,⟨bd,d⟩,by omega⟩
    refine bt 3 j j j (c2 a (by omega)) (bX 1 j ?_)
    exact⟨(a+1,E,_),⟨j,j,j,j,j,ba⟩,⟨by dsimp only;omega,Q,d⟩,by dsimp only;omega⟩
   refine bt 3 j j j (c2 i (by omega)) (bX 1 j ?_)
   have aB:a=7:=by have:=bw aa;omega
   subst aB
   exact⟨(i+1,t,ah,U,I),⟨j,j,j,j,ba⟩,⟨by dsimp only;omega,T,⟨H1,aV,ai,ay⟩,K,Ig z t▸D,d⟩,by dsimp only;omega⟩
  refine bp 3 yr j (λw ad=>?_)
  have d:=d.aN ad
  refine ao 1 j j ?_
  exact⟨j,d.bare⟩
 refine bp 7 yr j (λw ad=>?_)
 have d:=d.aN ad
 refine ao 1 j j ?_
 exact⟨j,d.bare⟩
theorem agrees_law{o:World}{lO fm:Bool}{A:Option Addr}{ls:List (e6×hJ)}{c:Nat}(b:Rd o A (ls.flatMap kQ))(a:∀e∈ls,hW e.1 e.2 [] o):Go.Calls prog 3 #[.bool lO,.bool fm,.slice A ls.length c] o (λe w=>∃r,e= .returned r/\r= .bool true/\∃ae,C o [] ae w):=
 (Calls.mono (BN b a) λ_ _ h=>⟨h.1,_,h.2⟩).plain
end Go.Proofs.YtdcbpdlhhkcjnaaGreatDoor.R
namespace Go.Proofs.YtdcbpdlhhkcjnaaGreatDoor.R
open Go.Proofs.Tryz Go Go.RowKit Go.ChangeShapes
section
variable {H:Type} {enc:TypeId×Value->H} {P:Program} {W:World} {t e q:TypeId} {fuel len cap:Nat} {a:Option Addr} {x:DataW H×List MemPlace}
theorem wQ{k:IntKind}(o:P.underlying t=some (.slice e))(he:P.underlying e=some (.int k))(g:P.cellsOf e=1)
 (h:DataW.trod enc P W 0 (λ_=>true) true fuel t (Value.slice a len cap).cells.toList=some x):
 ∃dB:List Int,dB.length=len/\len<=cap/\cap<=maxLen/\Rd W a (dB.map (Value.int k))/\∀n∈dB,(Lit.int k n).wf=true:=by
 rcases open_ints o he g h with⟨b,_⟩|⟨y,l,c,ic,b,_,m,hm,q,_,h1,p⟩
 .simp [Value.cells] at b
  obtain⟨rfl,rfl,rfl⟩:=b
  exact⟨[],j,cB _,ch _,Rd.nil _ _,by simp⟩
 .simp [Value.cells] at b
  obtain⟨rfl,rfl,rfl⟩:=b
  simp only [kh] at q
  refine⟨ic.take len,by rw [hi];omega,m,hm,λi v d=>?_,λn aP=>p n (mR aP)⟩
  rw [List.map_take,jw] at d
  split at d
  .rename_i r
   refine⟨y,j,?_⟩
   have f:i<ic.length:=by omega
   rw [h1 i f]
   rw [gn,ck f] at d
   rw [iO,ck f]
   simpa using d
  .cases d
theorem CH(dB:List Int)(h:∀n∈dB,(Lit.int .u8 n).wf=true):∃aD:List UInt8,aD.length=dB.length/\dB.map (Value.int .u8)=aE aD:=by
 induction dB with
 |nil=>exact⟨[],j,j⟩
 |cons n r c=>
  obtain⟨aD,a,b⟩:=c (λm hm=>h m (by simp [hm]))
  have aP:=h n (by simp)
  have d:0<=n/\n<256:=by
   simp [Lit.wf,IntKind.min,IntKind.max,IntKind.bits,IntKind.signed] at aP
   omega
  refine⟨UInt8.ofNat n.toNat::aD,by simp [a],?_⟩
  rw [jO,b]
  show Value.int .u8 n::aE aD=bv (UInt8.ofNat n.toNat)::aE aD
  congr 1
  unfold bv
  rw [oz]
  congr 1
  omega
theorem Ca(j:P.underlying t=some (.slice e))(he:P.underlying e=some (.int .u8))(i:P.cellsOf e=1)
 (h:DataW.trod enc P W 0 (λ_=>true) true fuel t (Value.slice a len cap).cells.toList=some x):
 ∃aD:List UInt8,aD.length=len/\len<=cap/\cap<=maxLen/\Rd W a (aE aD):=by
 obtain⟨dB,k,b,c,d,f⟩:=wQ j he i h
 obtain⟨aD,l,g⟩:=CH dB f
 exact⟨aD,by omega,b,c,g▸d⟩
end
end Go.Proofs.YtdcbpdlhhkcjnaaGreatDoor.R
namespace Go.Proofs.YtdcbpdlhhkcjnaaGreatDoor.R
open Go.Proofs.Tryz Go Go.RowKit Go.Proofs
open Go.WideShapes Go.ChangeShapes
section
variable {H:Type} {enc:TypeId×Value->H} {W:World} {fuel:Nat} {cs:List Value} {x:DataW H×List MemPlace}
theorem lD{cs c:List Value}{a b:Nat}(h:(cs.drop a).take b=c):cs.drop a=c++cs.drop (a+b):=by
 rw [<-h,<-ri,mU]
theorem xw{cs c:List Value}{a b:Nat}(h:(cs.drop a).take b=c)(d:cs.length=a+b):cs.drop a=c:=by
 rw [<-h,il (by rw [iP];omega)]
theorem CN{base:Nat}{a:Addr}{n:Nat}{cs:List Value}(h:W.cells? base a n=some cs):∀J v,cs[J]? =some v->W.cell? (a.add J)=some v:=by
 unfold World.cells? at h
 split at h
 .intro J v b
  have hlen:=mapM_some_length h
  have c:J<cs.length:=(fa.1 b).1
  have d:J<n:=by simpa [hlen] using c
  have:=mapM_some_get h J J (by simp [d])
  rw [b] at this
  exact this
 .cases h
end
section
variable {H:Type} {enc:TypeId×Value->H} {W:World} {fuel:Nat} {cs:List Value} {x:DataW H×List MemPlace}
theorem xd(h:DataW.trod enc prog W 0 (λ_=>true) true fuel 30 cs=some x):∃(a:Option Addr)(aD:List UInt8)(c:Nat),cs=[.slice a aD.length c]/\aD.length<=c/\Rd W a (aE aD):=by
 obtain⟨a,len,cap,rfl⟩:∃a len cap,cs=[.slice a len cap]:=by
  rcases open_ints underlying30 underlying5 (by kernel_rfl) h with⟨b,_⟩|⟨y,l,c,ic,b,_⟩
  .exact⟨_,_,_,b⟩
  .exact⟨_,_,_,b⟩
 obtain⟨aD,rfl,d,_,e⟩:=Ca underlying30 underlying5 (by kernel_rfl) (show DataW.trod enc prog W 0 (λ_=>true) true fuel 30 (Value.slice a len cap).cells.toList=some x from h)
 exact⟨a,aD,cap,j,d,e⟩
theorem CM(h:DataW.trod enc prog W 0 (λ_=>true) true fuel 31 cs=some x):∃(a:Option Addr)(dB:List Int)(c:Nat),cs=[.slice a dB.length c]/\dB.length<=c/\c<=maxLen/\Rd W a (dB.map bu):=by
 obtain⟨a,len,cap,rfl⟩:∃a len cap,cs=[.slice a len cap]:=by
  rcases open_ints underlying31 underlying3 (by kernel_rfl) h with⟨b,_⟩|⟨y,l,c,ic,b,_⟩
  .exact⟨_,_,_,b⟩
  .exact⟨_,_,_,b⟩
 obtain⟨dB,rfl,d,e,f,_⟩:=wQ underlying31 underlying3 (by kernel_rfl) (show DataW.trod enc prog W 0 (λ_=>true) true fuel 31 (Value.slice a len cap).cells.toList=some x from h)
 exact⟨a,dB,cap,j,d,e,f⟩
theorem F0(h:DataW.trod enc prog W 0 (λ_=>true) true fuel 33 cs=some x):∃(l:eE)(Y:Option Addr)(k2:Nat)(V:Option Addr)(dK:Nat),cs=fR l Y k2 V dK/\l.x.length<=k2/\Rd W Y (aE l.x)/\l.use.length<=dK/\dK<=maxLen/\Rd W V (l.use.map bu):=by
 obtain⟨xs,m,_,_,a,w,bx⟩:=DataW.trod_struct underlying33 h
 have a:cs.length=7:=a.trans (by kernel_rfl)
 have aZ:prog.cellsOf 3=1:=by kernel_rfl
 have o:prog.cellsOf 30=1:=by kernel_rfl
 have n:prog.cellsOf 31=1:=by kernel_rfl
 match xs,w with
 |[E,F,G,H,I,J,K],_=>
  have b:DataW.trod enc prog W 0 (λ_=>true) true m 3 ((cs.drop 0).take (prog.cellsOf 3))=some E:=bx 0 _ j
  have c:DataW.trod enc prog W 0 (λ_=>true) true m 3 ((cs.drop 1).take (prog.cellsOf 3))=some F:=bx 1 _ j
  have d:DataW.trod enc prog W 0 (λ_=>true) true m 3 ((cs.drop 2).take (prog.cellsOf 3))=some G:=bx 2 _ j
  have e:DataW.trod enc prog W 0 (λ_=>true) true m 3 ((cs.drop 3).take (prog.cellsOf 3))=some H:=bx 3 _ j
  have f:DataW.trod enc prog W 0 (λ_=>true) true m 30 ((cs.drop 4).take (prog.cellsOf 30))=some I:=bx 4 _ j
  have g:DataW.trod enc prog W 0 (λ_=>true) true m 3 ((cs.drop 5).take (prog.cellsOf 3))=some J:=bx 5 _ j
  have i:DataW.trod enc prog W 0 (λ_=>true) true m 31 ((cs.drop 6).take (prog.cellsOf 31))=some K:=bx 6 _ j
  rw [aZ] at b c d e g
  rw [o] at f
  rw [n] at i
  obtain⟨y,p,_,_⟩:=mS underlying3 b
  obtain⟨h4,q,_,_⟩:=mS underlying3 c
  obtain⟨z,r,_,_⟩:=mS underlying3 d
  obtain⟨A,s,_,_⟩:=mS underlying3 e
  obtain⟨n5,u,_,_⟩:=mS underlying3 g
  obtain⟨Y,aD,k2,t,ax,aJ⟩:=xd f
  obtain⟨V,us,dK,v,B,C,D⟩:=CM i
  refine⟨⟨y,h4,z,A,aD,n5,us⟩,Y,k2,V,dK,?_,ax,aJ,B,C,D⟩
  have k:=lD p
  rw [lD q,lD r,lD s,lD t,lD u,xw v a,List.drop_zero] at k
  rw [k]
  rfl
theorem F1(h:DataW.trod enc prog W 0 (λ_=>true) true fuel 35 cs=some x):∃e:e6×hJ,hW e.1 e.2 [] W/\cs=kQ e:=by
 obtain⟨xs,m,_,_,a,u,bx⟩:=DataW.trod_struct underlying35 h
 have a:cs.length=11:=a.trans (by kernel_rfl)
 have aZ:prog.cellsOf 3=1:=by kernel_rfl
 have o:prog.cellsOf 30=1:=by kernel_rfl
 have n:prog.cellsOf 33=7:=by kernel_rfl
 match xs,u with
 |[B,C,D,E,F],_=>
  have b:DataW.trod enc prog W 0 (λ_=>true) true m 3 ((cs.drop 0).take (prog.cellsOf 3))=some B:=bx 0 _ j
  have c:DataW.trod enc prog W 0 (λ_=>true) true m 3 ((cs.drop 1).take (prog.cellsOf 3))=some C:=bx 1 _ j
  have d:DataW.trod enc prog W 0 (λ_=>true) true m 3 ((cs.drop 2).take (prog.cellsOf 3))=some D:=bx 2 _ j
  have f:DataW.trod enc prog W 0 (λ_=>true) true m 30 ((cs.drop 3).take (prog.cellsOf 30))=some E:=bx 3 _ j
  have g:DataW.trod enc prog W 0 (λ_=>true) true m 33 ((cs.drop 4).take (prog.cellsOf 33))=some F:=bx 4 _ j
  rw [aZ] at b c d
  rw [o] at f
  rw [n] at g
  obtain⟨z,p,_,_⟩:=mS underlying3 b
  obtain⟨h4,q,_,_⟩:=mS underlying3 c
  obtain⟨A,r,_,_⟩:=mS underlying3 d
  obtain⟨X,aD,bH,s,ax,aJ⟩:=xd f
  obtain⟨l,Y,k2,V,dK,t,dz,v,k,w,y⟩:=F0 g
  refine⟨(⟨z,h4,A,aD,l⟩,⟨X,bH,Y,k2,V,dK⟩),⟨aJ,bU.of_nil _ _,ax,v,bU.of_nil _ _,dz,y,bU.of_nil _ _,k,ed k w⟩,?_⟩
  have i:=lD p
  rw [lD q,lD r,lD s,xw t a,List.drop_zero] at i
  rw [i]
  rfl
theorem xB{α:Type}{f:α->List Value}{k:Nat}{Q:α->Prop}{a:Addr}(ad:∀y,(f y).length=k):∀n,(∀i,i<n->∃y,Q y/\∀J u,(f y)[J]? =some u->W.cell? ((a.add (i*k)).add J)=some u)->∃l:List α,l.length=n/\(∀y∈l,Q y)/\Rd W (some a) (l.flatMap f)
 |0,_=>⟨[],j,by simp,Rd.nil _ _⟩
 |n+1,each=>by
  obtain⟨l,b,h,m⟩:=xB ad n (λi c=>each i (by omega))
  obtain⟨y,o,p⟩:=each n (by omega)
  have g:=oM l (λy _=>ad y)
  refine⟨l++[y],by simp [b],λz d=>(dA.1 d).elim (h z) (λd=>by obtain rfl:=List.mem_singleton.1 d;exact o),λi u hu=>⟨a,j,?_⟩⟩
  rw [nA,List.flatMap_cons,List.flatMap_nil,List.append_nil] at hu
  by_cases c:i<(l.flatMap f).length
  .rw [iz c] at hu
   obtain⟨s,q,r⟩:=m i u hu
   cases q
   exact r
  .rw [jy (by omega),g,b] at hu
   rw [g,b] at c
   have e:=p _ _ hu
   rw [Addr.add_add,show n*k+(i-n*k)=i by omega] at e
   exact e
theorem arg_steps{a:Option Addr}{len cap:Nat}(h:DataW.trod enc prog W 0 (λ_=>true) true fuel 22 (Value.slice a len cap).cells.toList=some x):∃ls:List (e6×hJ),ls.length=len/\Rd W a (ls.flatMap kQ)/\∀e∈ls,hW e.1 e.2 [] W:=by
 rcases DataW.trod_slice underlying22 h with⟨he,_⟩|⟨o,bY,s,elems,rest,n,_,he,_,_,t,_,hlen,m,_⟩
 .simp [Value.cells] at he
  obtain⟨rfl,rfl,rfl⟩:=he
  exact⟨[],j,Rd.nil _ _,by simp⟩
 .simp [Value.cells] at he
  obtain⟨rfl,rfl,rfl⟩:=he
  have q:prog.cellsOf 35=11:=by kernel_rfl
  rw [q] at m
  obtain⟨l,b,d,g⟩:=xB (W:=W) (a:=o) (f:=kQ) (k:=11) (Q:=λe:e6×hJ=>hW e.1 e.2 [] W) (λ_=>rfl) len (λi r=>by
   have b:=m i r
   rw [ck (by omega),Option.bind_eq_some_iff] at b
   obtain⟨c,d,g⟩:=b
   obtain⟨e,p,rfl⟩:=F1 g
   exact⟨e,p,CN d⟩)
  exact⟨l,b,g,d⟩
end
end Go.Proofs.YtdcbpdlhhkcjnaaGreatDoor.R
