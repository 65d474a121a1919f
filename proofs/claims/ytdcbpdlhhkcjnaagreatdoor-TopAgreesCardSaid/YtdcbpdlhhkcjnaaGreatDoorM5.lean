/- Part 5 of the proof. -/
import Derived.Test.YtdcbpdlhhkcjnaaGreatDoorM4
set_option linter.unusedVariables false
set_option linter.unusedSimpArgs false
set_option linter.unusedSectionVars false
set_option maxRecDepth 20000
set_option maxHeartbeats 4000000
namespace Go.Proofs.YtdcbpdlhhkcjnaaGreatDoor.R
open Go.Proofs.Tryz Go Go.RowKit Go.Proofs
structure hg where
 begun:Int
 next:Int
 out:Option ec
def hg.new:hg:=⟨0,0,none⟩
structure bI where
 number:Int
 name:List UInt8
 next:Int
 asked:Int
 known:Bool
 prod:Int
 b6:Int
 last:Int
 df:Bool
 parts:List (Int×hg)
def mq:List (Int×hg):=[(0,hg.new),(1,hg.new),(2,hg.new),(3,hg.new)]
def bI.new(n:Int)(x:List UInt8):bI:=⟨n,x,0,-1,false,0,0,0,false,mq⟩
def bI.zero(n:Int)(x:List UInt8):bI:=⟨n,x,0,-1,false,0,0,0,false,[]⟩
def bI.dd(e:bI):bI:={e with last:=0,df:=false,parts:=mq}
def bI.op(e:bI)(I:bG):bI×bG×Int:=
 if 1048576<e.next then(e,c9,7) else({e with next:=e.next+1},{I with c:=e.number,s:=e.next},0)
def bI.init(e:bI):bI×bG×Int:=
 if 0<=e.number/\e.number<=15/\lb e.name=true then
  (if 1048576<e.next then(e,c9,7) else({e with next:=e.next+1,asked:=e.next},⟨1,e.number,e.next,e.name,0,0,0,0,false⟩,0))
 else(e,c9,1)
def bI.told(e:bI)(s:Int)(r:Int×Int×Int):bI×Int:=
 if e.asked<0\/s≠e.asked then(e,6)
 else if r.1=0 then(bI.dd {e with known:=true,prod:=r.2.1,b6:=r.2.2,asked:= -1},0) else(e,0)
def mK(v:Value)(r:Option ec)(G:List Chunk):Prop:=match r with
 |none=>v= .pointer none/\G=[]
 |some r=>∃b u ah,v=Z b/\dN u r.x ah/\G=R b #[ab r.p,ab r.e,ab r.t,ab r.s,u] 169++ah
abbrev vz(q:hg)(u:Value):List Value:=[ab q.begun,ab q.next,u]
abbrev dV(b:Nat)(q:hg)(u:Value):List Chunk:=R b (vz q u).toArray 167
def nw(v:Value)(q:hg)(G:List Chunk):Prop:=∃b u ah,v=Z b/\mK u q.out ah/\G=dV b q u++ah
abbrev uo(e:bI)(u:Value):List Value:=[ab e.number,.string (strOf e.name),ab e.next,ab e.asked,.bool e.known,ab e.prod,ab e.b6,ab e.last,.bool e.df,u]
abbrev bD(az:Nat)(e:bI)(u:Value):List Chunk:=R az (uo e u).toArray 157
def hU(az:Nat)(e:bI)(G:List Chunk):Prop:=∃u bQ,fp 236 nw u e.parts bQ/\G=bD az e u++bQ
theorem zr{i:Nat}(h:i<4):a2 (mq.take i) (i:Int)=none/\cj (mq.take i) (i:Int) hg.new=mq.take (i+1):=by
 rcases(show i=0\/i=1\/i=2\/i=3 by omega) with rfl|rfl|rfl|rfl<;>exact⟨j,j⟩
theorem w2{o:World}{az:Nat}{e:bI}{u:Value}(a:Own [bD az e u] o):Calls prog 60 #[Z az] o (aS λr w=>r= .tuple #[]/\∃x bQ,fp 236 nw x mq bQ/\C o (av [bD az e u]) [bD az e.dd x,bQ] w):=by
 obtain⟨f,s⟩:∃f,f=av [bD az e u]:=⟨_,j⟩
 rw [<-s]
 have a:C o f [bD az e u] o:=s▸a
 refine a1 [Z az] func60 ntmps60 results60 (bm 5 Fx j (λr w⟨d,g,F,D,n⟩=>?_))
 subst F
 have a:=a.aN n
 refine dD 2 (a.bf az) j j j j (λw a=>?_)
 have a:C o f (bD az {e with last:=0} u::_) w:=a
 refine dD 2 (a.bf az) j j j j (λw a=>?_)
 have a:C o f (bD az {e with last:=0,df:=false} u::_) w:=a
 refine dD 2 (a.bf az) j j j j (λw a=>?_)
 have a:C o f (bD az e.dd (Z d)::_) w:=a
 have a:C o f [bD az e.dd (Z d),ay 236 d g (.map #[] 0),[]] w:=(C.empty a).as
 refine cY 4 j (cA:=Nat×Obj×List (Int×Value)×List Chunk) (λk=>[(0,Z az),(13,.int .i64 (k.1:Nat))])
  (λk w=>k.1<=4/\cf bu k.2.1 k.2.2.1/\c6 nw k.2.2.1 (mq.take k.1) k.2.2.2/\C o f [bD az e.dd (Z d),ay 236 d g k.2.1,k.2.2.2] w) (λk=>4-k.1) (0,.map #[] 0,[],[]) ⟨j,j,ba⟩ ⟨ch _,D,j,a⟩ ?_
 rintro⟨i,I,G,H⟩ w ⟨z,hm,p,a⟩
 dsimp only at z hm p a⊢
 refine aT 4 j j (λl=>?_) (λl=>?_)
 .refine au 11 j (aw (C.aj (b:=az) a) j) (ar 1 j (cO (c:=(vz hg.new (.pointer none)).toArray) j j j (λ_=>by kernel_rfl) ?_))
  refine bP 0 a j j (λh w a=>?_)
  have a:C o f (dV h hg.new (.pointer none)::_) w:=a
  have y:=G4 (k:=(i:Int)) (v:=Z h) (a.ours (cI:=[ay 236 d g I])) hm
  refine bp 0 y j (λw⟨q,E,n⟩=>?_)
  have a:=a.b4 n
  have m:i<4:=by have:=br l;omega
  have t:=p.add (zr m).1 (show nw (Z h) hg.new (dV h hg.new (.pointer none)) from⟨h,.pointer none,[],j,⟨j,j⟩,j⟩)
  rw [(zr m).2] at t
  have a:C o f [bD az e.dd (Z d),ay 236 d g q,H++dV h hg.new (.pointer none)] w:=C.perm (A:=[bD az e.dd (Z d),ay 236 d g q,H,dV h hg.new (.pointer none)]) a.as (by simp)
  refine bt 1 j j j (c2 i (by omega)) (bX 1 j ?_)
  exact⟨(i+1,q,_,_),⟨j,j,ba⟩,⟨m,E,t,a⟩,by dsimp only;omega⟩
 refine ao 1 j j ?_
 have B:i=4:=by have:=bw l;omega
 subst B
 exact⟨j,(Z d),ay 236 d g I++H,⟨d,g,I,G,H,j,hm,p,j⟩,C.perm (A:=[bD az e.dd (Z d),ay 236 d g I,H]) a (by simp)⟩
theorem vf{o:World}{n:Int}{x:List UInt8}:Calls prog 31 #[ab n,.string (strOf x)] o (aS λr w=>∃az G,r=Z az/\hU az (bI.new n x) G/\C o [] [G] w):=by
 have a:Own [] o:=C.start o
 refine a1 [ab n,.string (strOf x)] func31 ntmps31 results31 (ar 7 j (cO (c:=(uo (bI.zero n x) (.pointer none)).toArray) j j j (λ_=>by kernel_rfl) ?_))
 refine bP 0 a j j (λb w a=>?_)
 have a:C o [] (bD b (bI.zero n x) (.pointer none)::_) w:=a
 have g:=w2 (az:=b) (u:=.pointer none) (e:=bI.zero n x) a.ours
 refine bp 4 g j (λw⟨d,bQ,f,h⟩=>?_)
 have a:=a.b4 h
 refine ao 4 j j ?_
 have a:C o [] [bD b (bI.new n x) d,bQ] w:=a
 exact⟨b,_,j,⟨d,bQ,f,j⟩,C.perm (A:=[bD b (bI.new n x) d,bQ]) a (by simp)⟩
theorem qt{o:World}{az:Nat}{e:bI}{u:Value}{I:bG}(aP:0<=e.next)(a:Own [bD az e u] o):Calls prog 64 #[Z az,.agg I.cs.toArray] o (aS λr w=>r= .tuple #[.agg (e.op I).2.1.cs.toArray,ab (e.op I).2.2]/\C o (av [bD az e u]) [bD az (e.op I).1 u] w):=by
 obtain⟨d,k⟩:∃d,d=av [bD az e u]:=⟨_,j⟩
 rw [<-k]
 have a:C o d [bD az e u] o:=k▸a
 refine e7 [Z az,.agg I.cs.toArray] (fn:=f64) func64 ntmps64 (bP 2 a j j (λf w a=>?_))
 have a:C o d (bE f I::_) w:=a
 refine cn 0 a j (λg w a=>?_)
 have a:C o d [bE g c9,bE f I,bD az e u] w:=a
 refine au 7 j (aw (C.aj (b:=az) a) j) (aT 1 j j (λh=>?_) (λh=>?_))
 .refine ar 2 j (cO (c:=c9.cs.toArray) j j j (λ_=>by kernel_rfl) ?_)
  refine cp 0 (a.bf g) j j j j j (λw a=>?_)
  have a:=C.whole (U:=(c9:bG).cs) a j
  have a:C o d (bE g c9::_) w:=a
  refine bJ 1 j ⟨_,dp results64 j j j j a.bN,?_⟩
  have i:e.op I=(e,c9,7):=a6 (by have:=br h;omega)
  rw [i]
  exact⟨j,a.as⟩
 have a:C o d ([bD az e u]++_) _:=a.front
 have a:=a.drew
 refine bz 2 j (λw=>∃ae,C o d ([bD az e u]++ae) w) ⟨_,a⟩ (af 0 3 j (be 3 j a7 j (af 4 3 j (be 7 j a7 j (af 8 1 j (aW 9 j (cC (a.bf f) j j j j bR (λw a=>?_))))))))
 have a:C o d (bE f {I with c:=e.number}::_) w:=a
 have a:C o d ([bD az e u]++_) w:=a.front
 refine an ⟨⟨_,a⟩,?_⟩
 refine af 10 1 j (dy 11 j (cC (a.bf f) j j j j bR (λw a=>?_)))
 have a:C o d (bE f {I with c:=e.number,s:=e.next}::_) w:=a
 refine an (cX (au 5 j (aw (C.aj (b:=az) a) j) (bt 0 j j j (qb (by have:=of_decide_eq_false h;omega) (by omega)) (dD 2 (a.bf az) j j j j (λw a=>?_)))))
 have a:C o d (bD az {e with next:=e.next+1} u::_) w:=a
 refine bS 2 (U:=({I with c:=e.number,s:=e.next}:bG).cs) j j j (bq (C.aj (b:=f) a)) (cp 0 (a.bf g) j j j j j (λw a=>?_))
 have a:=C.whole (U:=({I with c:=e.number,s:=e.next}:bG).cs) a j
 have a:C o d (bE g {I with c:=e.number,s:=e.next}::_) w:=a
 refine bJ 1 j ⟨_,dp results64 j j j j a.bN,?_⟩
 have i:e.op I=({e with next:=e.next+1},{I with c:=e.number,s:=e.next},0):=aF (by have:=bw h;omega)
 rw [i]
 exact⟨j,a.as⟩
theorem Eh{o:World}{az:Nat}{e:bI}{u:Value}(aP:0<=e.next)(H:e.name.length<=1000)(a:Own [bD az e u] o):Calls prog 61 #[Z az] o (aS λr w=>r= .tuple #[.agg e.init.2.1.cs.toArray,ab e.init.2.2]/\C o (av [bD az e u]) [bD az e.init.1 u] w):=by
 obtain⟨f,F⟩:∃f,f=av [bD az e u]:=⟨_,j⟩
 rw [<-F]
 have a:C o f [bD az e u] o:=F▸a
 refine e7 [Z az] (fn:=f61) func61 ntmps61 (cn 2 a j (λaJ w a=>?_))
 have a:C o f [bE aJ c9,bD az e u] w:=a
 refine ar 7 j (b2 8 (.bool false) j (aL Value.bool (j)) ?_)
 refine au 3 j (aw (C.aj (b:=az) a) j) (ar 3 j (c7 15 j (λq=>?_) (λq=>?_)))
 .refine ar 32 j (cO (c:=c9.cs.toArray) j j j (λ_=>by kernel_rfl) ?_)
  refine cp 0 (a.bf aJ) j j j j j (λw a=>?_)
  have a:=C.whole (U:=(c9:bG).cs) a j
  have a:C o f (bE aJ c9::_) w:=a
  refine bJ 1 j ⟨_,dp results61 j j j j a.bN,?_⟩
  have i:e.init=(e,c9,1):=aF (λl=>by have:=br q;omega)
  rw [i]
  exact⟨j,a.as⟩
 refine au 3 j (aw (C.aj (b:=az) a) j) (ar 3 j (c7 22 j (λt=>?_) (λt=>?_)))
 .refine ar 25 j (cO (c:=c9.cs.toArray) j j j (λ_=>by kernel_rfl) ?_)
  refine cp 0 (a.bf aJ) j j j j j (λw a=>?_)
  have a:=C.whole (U:=(c9:bG).cs) a j
  have a:C o f (bE aJ c9::_) w:=a
  refine bJ 1 j ⟨_,dp results61 j j j j a.bN,?_⟩
  have i:e.init=(e,c9,1):=aF (λl=>by have:=br t;omega)
  rw [i]
  exact⟨j,a.as⟩
 refine au 3 j (aw (C.aj (b:=az) a) j) (n6 j j j j (ar 2 j (c7 29 j (λv=>?_) (λv=>?_))))
 .refine ar 18 j (cO (c:=c9.cs.toArray) j j j (λ_=>by kernel_rfl) ?_)
  refine cp 0 (a.bf aJ) j j j j j (λw a=>?_)
  have a:=C.whole (U:=(c9:bG).cs) a j
  have a:C o f (bE aJ c9::_) w:=a
  refine bJ 1 j ⟨_,dp results61 j j j j a.bN,?_⟩
  have i:e.init=(e,c9,1):=aF (λl=>by have g:=v;rw [show(⟨#[]⟩:ByteArray)=strOf [] from j,my] at g;rw [br g] at l;exact absurd l.2.2 (by decide))
  rw [i]
  exact⟨j,a.as⟩
 refine au 3 j (aw (C.aj (b:=az) a) j) (mG j j j j (ar 3 j (c7 37 j (λx=>?_) (λx=>?_))))
 .refine ar 10 j (cO (c:=c9.cs.toArray) j j j (λ_=>by kernel_rfl) ?_)
  refine cp 0 (a.bf aJ) j j j j j (λw a=>?_)
  have a:=C.whole (U:=(c9:bG).cs) a j
  have a:C o f (bE aJ c9::_) w:=a
  refine bJ 1 j ⟨_,dp results61 j j j j a.bN,?_⟩
  have i:e.init=(e,c9,1):=aF (λl=>by have g:=br x;have z:=l.2.2;simp only [lb,d8,gL] at z;omega)
  rw [i]
  exact⟨j,a.as⟩
 refine au 3 j (aw (C.aj (b:=az) a) j) ?_
 have D:e.name≠[]:=λh=>by rw [h] at v;exact absurd v (by decide)
 refine bp 0 (Ax D (by omega)) j (λw B=>?_)
 have a:=a.aN B
 refine wq j j j j (my (sU e.name) []) (aT 1 j j (λy=>?_) (λy=>?_))
 .refine ar 2 j (cO (c:=c9.cs.toArray) j j j (λ_=>by kernel_rfl) ?_)
  refine cp 0 (a.bf aJ) j j j j j (λw a=>?_)
  have a:=C.whole (U:=(c9:bG).cs) a j
  have a:C o f (bE aJ c9::_) w:=a
  refine bJ 1 j ⟨_,dp results61 j j j j a.bN,?_⟩
  have i:e.init=(e,c9,1):=aF (λl=>by have g:=y;rw [sV] at g;have z:=l.2.2;simp only [lb,d8] at z;rw [z.1] at g;cases g)
  rw [i]
  exact⟨j,a.as⟩
 refine au 7 j (aw (C.aj (b:=az) a) j) (cO (c:=(⟨1,0,0,e.name,0,0,0,0,false⟩:bG).cs.toArray) j j j (λ_=>by kernel_rfl) ?_)
 have G:=qt (az:=az) (e:=e) (u:=u) (I:=(⟨1,0,0,e.name,0,0,0,0,false⟩:bG)) aP a.ours
 obtain⟨p,d,m,k⟩:∃p d m,e.op (⟨1,0,0,e.name,0,0,0,0,false⟩:bG)=(p,d,m):=⟨_,_,_,j⟩
 rw [k] at G
 refine bp 0 G j (λw B=>?_)
 have a:=a.b4 B
 refine cn 3 a j (λn w a=>cp 0 (a.bf n) j j j j j (λw a=>?_))
 have a:=C.whole (U:=d.cs) a j
 have a:C o f (bE n d::_) w:=a
 refine aT 6 j j (λA=>?_) (λA=>?_)
 .refine au 3 j (aw (C.aj (b:=n) a) j) (dD 2 (a.bf az) j j j j (λw a=>?_))
  have a:C o f (bD az {p with asked:=d.s} u::_) w:=a
  refine bS 2 (U:=d.cs) j j j (bq (C.aj (b:=n) a)) (cp 1 (a.bf aJ) j j j j j (λw a=>?_))
  have a:=C.whole (U:=d.cs) a j
  have a:C o f (bE aJ d::_) w:=a
  refine bJ 1 j ⟨_,dp results61 j j j j a.bN,?_⟩
  have E:m=0:=dX.1 A
  have i:e.init=({p with asked:=d.s},d,m):=by
   unfold bI.init
   rw [a6 (⟨by have:=bw q;omega,by have:=bw t;omega,by unfold lb;have g:=y;rw [sV] at g;rw [show e.name.all gj=true by simpa using g,Bool.true_and];exact decide_eq_true ⟨List.length_pos_iff.2 D,by have:=of_decide_eq_false x;omega⟩⟩:0<=e.number/\e.number<=15/\lb e.name=true)]
   unfold bI.op at k
   split
   .rename_i h;rw [a6 h] at k;cases k;cases E
   .rename_i h;rw [aF h] at k;cases k;rfl
  rw [i]
  exact⟨j,a.as⟩
 refine bS 3 (U:=d.cs) j j j (bq (C.aj (b:=n) a)) (cp 1 (a.bf aJ) j j j j j (λw a=>?_))
 have a:=C.whole (U:=d.cs) a j
 have a:C o f (bE aJ d::_) w:=a
 refine bJ 1 j ⟨_,dp results61 j j j j a.bN,?_⟩
 have E:m≠0:=by simpa using A
 have i:e.init=(p,d,m):=by
  unfold bI.init
  rw [a6 (⟨by have:=bw q;omega,by have:=bw t;omega,by unfold lb;have g:=y;rw [sV] at g;rw [show e.name.all gj=true by simpa using g,Bool.true_and];exact decide_eq_true ⟨List.length_pos_iff.2 D,by have:=of_decide_eq_false x;omega⟩⟩:0<=e.number/\e.number<=15/\lb e.name=true)]
  unfold bI.op at k
  split
  .rename_i h;rw [a6 h] at k;cases k;rfl
  .rename_i h;rw [aF h] at k;cases k;exact absurd j E
 rw [i]
 exact⟨j,a.as⟩
theorem HX{o:World}{az:Nat}{e:bI}{G:List Chunk}{s:Int}{a:Int×Int×Int}(v:hU az e G)(c:Own [G] o):Calls prog 50 #[Z az,ab s,j5 a] o (aS λr w=>r=ab (e.told s a).2/\∃ah,hU az (e.told s a).1 ah/\C o (av [G]) [ah] w):=by
 obtain⟨u,bQ,q,rfl⟩:=v
 obtain⟨d,p⟩:∃d,d=av [bD az e u++bQ]:=⟨_,j⟩
 rw [<-p]
 have c:C o d [bD az e u++bQ] o:=p▸c
 have c:C o d [bD az e u,bQ] o:=c.perm (by simp)
 refine a1 [Z az,ab s,j5 a] func50 ntmps50 results50 (bP 2 c j j (λf w c=>?_))
 have c:C o d [R f #[ab a.1,ab a.2.1,ab a.2.2] 116,bD az e u,bQ] w:=c
 refine au 14 j (aw (C.aj (b:=az) c) j) (ar 2 j (c7 16 j (λk=>?_) (λk=>?_)))
 .refine ao 12 j j ?_
  have g:e.told s a=(e,6):=by
   unfold bI.told
   exact a6 (.inl (br k))
  rw [g]
  have c:C o d [bD az e u,bQ] w:=c.as
  exact⟨j,_,⟨u,bQ,q,j⟩,C.perm (A:=[bD az e u,bQ]) c (by simp)⟩
 refine au 4 j (aw (C.aj (b:=az) c) j) (aT 3 j j (λi=>?_) (λi=>?_))
 refine ao 3 j j ?_
 have g:e.told s a=(e,6):=by
  unfold bI.told
  exact a6 (.inr (by simpa using i))
 rotate_left
 refine au 3 j (aw (C.aj (b:=f) c) j) (aT 2 j j (λm=>?_) (λm=>?_))
 .have c:=c.drew
  refine bz 1 j (λw=>∃ae,C o d ([R f #[ab a.1,ab a.2.1,ab a.2.2] 116]++ae) w) ⟨_,c⟩ (af 0 5 j (be 5 j a7 j (af 6 1 j (be 7 j a7 j (af 8 2 j (aW 10 j (cC (c.bf az) j j j j bR (λw c=>?_))))))))
  have c:C o d (bD az {e with known:=true} u::_) w:=c
  have c:C o d ([R f #[ab a.1,ab a.2.1,ab a.2.2] 116]++_) w:=c.front
  refine an ⟨⟨_,c⟩,?_⟩
  refine af 11 2 j (aW 13 j (cC (c.bf az) j j j j bR (λw c=>?_)))
  have c:C o d (bD az {e with known:=true,prod:=a.2.1} u::_) w:=c
  have c:C o d ([R f #[ab a.1,ab a.2.1,ab a.2.2] 116]++_) w:=c.front
  refine an ⟨⟨_,c⟩,?_⟩
  refine af 14 2 j (aW 16 j (cC (c.bf az) j j j j bR (λw c=>?_)))
  have c:C o d (bD az {e with known:=true,prod:=a.2.1,b6:=a.2.2} u::_) w:=c
  have c:C o d ([R f #[ab a.1,ab a.2.1,ab a.2.2] 116]++_) w:=c.front
  refine an ⟨⟨_,c⟩,?_⟩
  refine af 17 2 j (dy 19 j (cC (c.bf az) j j j j bR (λw c=>?_)))
  have c:C o d (bD az {e with known:=true,prod:=a.2.1,b6:=a.2.2,asked:= -1} u::_) w:=c
  refine an (cX ?_)
  have x:=w2 (az:=az) (e:={e with known:=true,prod:=a.2.1,b6:=a.2.2,asked:= -1}) (u:=u) c.ours
  refine bp 2 x j (λw⟨n,l,t,y⟩=>?_)
  have c:=c.b4 y
  refine ao 3 j j ?_
  have g:e.told s a=(bI.dd {e with known:=true,prod:=a.2.1,b6:=a.2.2,asked:= -1},0):=by
   unfold bI.told
   exact(aF (by rintro(h|h);exact absurd h (bw k);exact h (by simpa using i))).trans (if_pos (by simpa using m))
  rw [g]
  have c:C o d [bD az (bI.dd {e with known:=true,prod:=a.2.1,b6:=a.2.2,asked:= -1}) n,l] w:=c.as
  exact⟨j,_,⟨n,l,t,j⟩,C.perm (A:=[bD az (bI.dd {e with known:=true,prod:=a.2.1,b6:=a.2.2,asked:= -1}) n,l]) c (by simp)⟩
 refine ao 4 j j ?_
 have g:e.told s a=(e,0):=by
  unfold bI.told
  exact(aF (by rintro(h|h);exact absurd h (bw k);exact h (by simpa using i))).trans (if_neg (by simpa using m))
 rotate_left
 all_goals
  rw [g]
  have c:C o d [bD az e u,bQ] w:=c.as
  exact⟨j,_,⟨u,bQ,q,j⟩,C.perm (A:=[bD az e u,bQ]) c (by simp)⟩
section
variable {α:Type}
def dS(V:Value->α->List Chunk->Prop):List Value->List α->List Chunk->Prop
 |[],[],G=>G=[]
 |v::U,x::xs,G=>∃ah aA,G=ah++aA/\V v x ah/\dS V U xs aA
 |[],_::_,_=>False
 |_::_,[],_=>False
variable {V:Value->α->List Chunk->Prop}
theorem dS.len:∀{U:List Value}{xs:List α}{G:List Chunk},dS V U xs G->U.length=xs.length
 |[],[],_,_=>rfl
 |[],_::_,_,h=>h.elim
 |_::_,[],_,h=>h.elim
 |_::U,_::xs,_,⟨_,_,_,_,h⟩=>by simp [h.len]
theorem dS.app:∀{U c:List Value}{xs d:List α}{G a:List Chunk},dS V U xs G->dS V c d a->dS V (U++c) (xs++d) (G++a)
 |[],_,[],_,_,_,h,b=>by have h:_=[]:=h;subst h;exact b
 |[],_,_::_,_,_,_,h,_=>h.elim
 |_::_,_,[],_,_,_,h,_=>h.elim
 |_::_,_,_::_,_,_,a,⟨ah,aA,rfl,e,h⟩,b=>⟨ah,aA++a,by simp [dH],e,h.app b⟩
theorem dS.one{v:Value}{x:α}{G:List Chunk}(h:V v x G):dS V [v] [x] G:=⟨G,[],by simp,h,j⟩
theorem dS.at:∀{U:List Value}{xs:List α}{G:List Chunk},dS V U xs G->∀(i:Nat)(b:i<xs.length),∃v ah e aA,U[i]? =some v/\G=ah++(e++aA)/\V v xs[i] e/\∀eO a,V v eO a->dS V U (xs.set i eO) (ah++(a++aA))
 |[],[],_,_,i,b=>by simp at b
 |[],_::_,_,h,_,_=>h.elim
 |_::_,[],_,h,_,_=>h.elim
 |v::U,x::xs,_,⟨ah,aA,rfl,c,h⟩,0,_=>⟨v,[],ah,aA,j,j,c,λeO a d=>⟨a,aA,j,d,h⟩⟩
 |v::U,x::xs,_,⟨ah,aA,rfl,c,h⟩,i+1,b=>by
  obtain⟨u,H1,g,f,k,l,m,n⟩:=h.at i (by simpa using b)
  refine⟨u,ah++H1,g,f,by simpa using k,by rw [l,List.append_assoc],by simpa using m,λeO a d=>?_⟩
  exact⟨ah,H1++(a++f),by rw [dH],c,n eO a d⟩
def pC(e:TypeId)(V:Value->α->List Chunk->Prop)(v:Value)(xs:List α)(G:List Chunk):Prop:=∃ak H U,G=ak++H/\Row e 1 v xs.length U ak/\dS V U xs H
end
structure aX where
 bM:List (Option bo)
 parts:List cM
 cJ:List (bI×Int)
 bB:List aY
 lost:Nat
 heard:List aY
def aX.g0(z:aX)(l:List aY):aX:=
 {z with bB:=z.bB++l.take (512-z.bB.length),lost:=z.lost+(l.length-(512-z.bB.length)),heard:=z.heard++l.take (min (min l.length (512-z.bB.length)) (1000-z.heard.length))}
def aX.gA(g:al)(I:bG)(z:aX)(i:Nat):aX:=match z.bM[i]? with
 |some (some x)=>aX.g0 {z with bM:=z.bM.set i (some (x.ask g I).1)} (x.ask g I).2.1
 |_=>z
def aX.asks(g:al)(z:aX)(I:bG)(e:Int):aX×Int:=if e≠0 then(z,e) else((List.range z.bM.length).foldl (aX.gA g I) z,0)
def hY(g:al)(v:Value)(I:Option bo)(G:List Chunk):Prop:=match I with
 |none=>v= .pointer none/\G=[]
 |some x=>∃a,v=Z a/\hK g a x G
def jq(g:al)(v:Value)(b:cM)(G:List Chunk):Prop:=∃bh,v=Z bh/\jK g bh b G
abbrev da(aK az:Nat)(i:Int):List Chunk:=R aK #[Z az,ab i] 77
def lW(v:Value)(e:bI×Int)(G:List Chunk):Prop:=∃aK az GE,v=Z aK/\hU az e.1 GE/\G=da aK az e.2++GE
structure cg where
 bM:Value
 parts:Value
 cJ:Value
 bB:Value
 heard:Value
abbrev lU(g:al)(c:cg):List Value:=[g.p,c.bM,c.parts,c.cJ,c.bB,c.heard]
abbrev bj(g:al)(aO:Nat)(c:cg):List Chunk:=R aO (lU g c).toArray 58
structure wy(g:al)(z:aX)(c:cg)(cH bQ dx bd bA:List Chunk):Prop where
 bM:pC 37 (hY g) c.bM z.bM cH
 parts:pC 47 (jq g) c.parts z.parts bQ
 cJ:pC 73 lW c.cJ z.cJ dx
 bB:g2 c.bB z.bB z.lost bd
 heard:cz c.heard z.heard bA
def eU(g:al)(aO:Nat)(z:aX)(G:List Chunk):Prop:=∃(c:cg)(cH bQ dx bd bA:List Chunk),wy g z c cH bQ dx bd bA/\G=bj g aO c++(cH++(bQ++(dx++(bd++bA))))
theorem C.zi{g:al}{aO:Nat}{c:cg}{cH bQ dx bd bA:List Chunk}{ae:List (List Chunk)}{o w:World}{F:List Nat}(h:C o F ((bj g aO c++(cH++(bQ++(dx++(bd++bA)))))::ae) w):C o F (bj g aO c::cH::bQ::dx::bd::bA::ae) w:=h.perm (by simp)
theorem C.r6{g:al}{aO:Nat}{c:cg}{cH bQ dx bd bA:List Chunk}{ae:List (List Chunk)}{o w:World}{F:List Nat}(h:C o F (bj g aO c::cH::bQ::dx::bd::bA::ae) w):C o F ((bj g aO c++(cH++(bQ++(dx++(bd++bA)))))::ae) w:=h.perm (by simp)
def na:Value->Bool
 | .pointer none=>true
 |_=>false
def fb:Nat->List Value->List (Int×Value)
 |_,[]=>[]
 |k,v::r=>if na v=true then fb (k+1) r else((k:Int),v)::fb (k+1) r
theorem uR:∀(a b:List Value)(k:Nat),fb k (a++b)=fb k a++fb (k+a.length) b
 |[],_,_=>by simp [fb]
 |v::a,b,k=>by
  rw [List.cons_append,fb,fb,uR a b (k+1),List.length_cons,show k+1+a.length=k+(a.length+1) by omega]
  split<;>simp
theorem yf{U:List Value}{i:Nat}(a:i<U.length):fb 0 (U.take (i+1))=fb 0 (U.take i)++(if na U[i]=true then [] else [((i:Int),U[i])]):=by
 rw [fF a,uR]
 rw [hi,mO (Nat.le_of_lt a),fk]
 congr 1
theorem D7{U:List Value}{i:Nat}(a:i<U.length)(aP:na U[i]=false):∃r,fb 0 U=fb 0 (U.take i)++((i:Int),U[i])::r:=by
 refine⟨fb (i+1) (U.drop (i+1)),?_⟩
 have e:U=U.take i++(U[i]::U.drop (i+1)):=by rw [<-kg a,mU]
 have b:fb 0 U=fb 0 (U.take i++(U[i]::U.drop (i+1))):=aL (fb 0) e
 rw [b,uR,hi,mO (Nat.le_of_lt a),fk,fb,aF (by rw [aP];decide)]
abbrev D6(U:List Value)(pre:List (Int×Value))(q:Int×Value):Prop:=∃r,fb 0 U=pre++q::r
theorem dS.qA{g:al}:∀{U:List Value}{xs:List (Option bo)}{G:List Chunk},dS (hY g) U xs G->∀v∈U,∃p,v= .pointer p
 |[],_,_,_=>by intro v a;cases a
 |u::us,[],_,h=>h.elim
 |u::us,x::xs,_,⟨_,_,_,hu,h⟩=>by
  intro v a
  rcases gd.1 a with rfl|a
  .cases x with
   |none=>exact⟨none,hu.1⟩
   |some y=>obtain⟨c,b,_⟩:=hu;exact⟨_,b⟩
  .exact h.qA v a
theorem yd{o:World}{aO:Nat}:Calls prog 47 #[Z aO] o (aS λr w=>∃ax,r= .func (.func 105) #[] #[Z ax]/\C o [] [R ax #[Z aO] 24] w):=by
 have a:Own [] o:=C.start o
 refine a1 [Z aO] func47 ntmps47 results47 (bP 2 a j j (λax w a=>ar 3 j (gR j j j j ?_)))
 refine ao 1 j j ?_
 exact⟨ax,j,a⟩
theorem yc{ax aO h cap:Nat}{g:al}{c:cg}{cur:Array Value}{U:List Value}(G:c.bM= .slice (some ⟨h,0,none⟩) U.length cap)(L:Row 37 1 (.slice (some ⟨h,0,none⟩) U.length cap) U.length U (R h cur 37))(M:∀v∈U,∃p,v= .pointer p)(W:U.length<=1000):Iter prog 105 #[Z ax] [R ax #[Z aO] 24] (λ_ w=>w.heap[aO]? =some (.cells (lU g c).toArray 58 (0,0))) (λae=>(h,.cells cur 37 (0,0))∈ae.flatten) (λq:Int×Value=> #[bu q.1,q.2]) (D6 U) (λxs=>xs=fb 0 U):=by
 intro l P X ae o a f B E T V N
 show Calls _ _ #[ey l,Z ax] o _
 obtain⟨m,y⟩:∃m,m=av ([R ax #[Z aO] 24]++ae):=⟨_,j⟩
 have a:C o m (R ax #[Z aO] 24::ae) o:=y▸a
 rw [<-y]
 have D:=B
 refine a1 [ey l,Z ax] func105 ntmps105 results105 (au 2 j (a.cell j) (au 2 j (aw D (aL some G)) ?_))
 refine cY 3 j (cA:=Nat×List (List Chunk)) (λi=>[(0,ey l),(8,.slice (some ⟨h,0,none⟩) U.length cap),(9,.int .i64 (U.length:Nat)),(10,.int .i64 (i.1:Nat))])
  (λi w=>i.1<=U.length/\P (fb 0 (U.take i.1)) i.2 w/\C o m (R ax #[Z aO] 24::i.2) w) (λi=>U.length-i.1) (0,ae) ⟨j,j,j,j,ba⟩ ⟨ch _,by simpa [fb] using f,a⟩ ?_
 rintro⟨i,ah⟩ w ⟨I,f,a⟩
 dsimp only at I f a⊢
 refine aT 4 j j (λr=>?_) (λr=>?_)
 .have d:i<U.length:=by have:=br r;omega
  have F:w.heap[h]? =some (.cells cur 37 (0,0)):=a.here (h,.cells cur 37 (0,0)) (by rw [kd];exact dA.2 (.inr (E _ _ _ f)))
  obtain⟨_,_,e,_,_,K,_⟩:=Row.read L (show Holds w (R h cur 37) from λc x=>by rw [gb.1 x];exact F)
  cases e
  obtain⟨p,k⟩:=M _ (ek d)
  refine ar 6 j (fL j j j j K (v:=.pointer p) (by rw [gT,ck d,k]) d (λQ S x=>?_))
  refine au 0 j x (ar 7 j (c7 17 j (λs=>?_) (λs=>?_)))
  .have n:na U[i]=false:=by rw [k];cases p with|none=>cases s|some _=>rfl
   have A:=N (fb 0 (U.take i)) ((i:Int),U[i]) ah _ (D7 d n) f (C.jl (H:=[R ax #[Z aO] 24]) a)
   rw [k] at A
   refine ar 3 j (jN j j j j A (λb w⟨aA,O,z⟩=>?_))
   have a:=C.jd (H:=[R ax #[Z aO] 24]) a O
   refine aT 2 j j (λt=>?_) (λt=>?_)
   .refine ao 0 j j ?_
    have u:b=false:=by cases b<;>first|rfl|exact absurd t (by decide)
    subst u
    exact⟨aA,a,.inr (by simpa using z)⟩
   refine bt 2 j j j (c2 i (by omega)) (bX 1 j ?_)
   have u:b=true:=by cases b<;>first|rfl|exact absurd t (by decide)
   subst u
   refine⟨(i+1,aA),⟨j,j,j,j,ba⟩,⟨d,?_,a⟩,by dsimp only;omega⟩
   dsimp only
   rw [yf d,aF (by rw [n];decide),k]
   simpa using z
  refine bt 9 j j j (c2 i (by omega)) (bX 1 j ?_)
  have n:na U[i]=true:=by rw [k];cases p with|none=>rfl|some _=>cases s
  refine⟨(i+1,ah),⟨j,j,j,j,ba⟩,⟨d,?_,a⟩,by dsimp only;omega⟩
  dsimp only
  rw [yf d,a6 n,g6]
  exact f
 refine ao 1 j j ?_
 have J:i=U.length:=by have:=bw r;omega
 subst J
 rw [gy] at f
 exact⟨ah,a,.inl ⟨_,j,f⟩⟩
theorem sC{o:World}{g:al}{aO:Nat}{c:cg}{aD:Value}{bB aM B:List aY}{lost:Nat}{bd bA F:List Chunk}(aE:g2 c.bB bB lost bd)(aG:cz c.heard aM bA)(ak:cz aD B F)(aX:lost<=1000000000)(ax:B.length<=1000000)(a3:aM.length<=1000)(d:Own [bj g aO c,bd,bA,F] o):Calls prog 41 #[Z aO,aD] o (aS λr w=>r= .tuple #[]/\∃s l ag,g2 c.bB (bB++B.take (512-bB.length)) (lost+(B.length-(512-bB.length))) l/\cz s (aM++B.take (min (min B.length (512-bB.length)) (1000-aM.length))) ag/\C o (av [bj g aO c,bd,bA,F]) [bj g aO {c with heard:=s},l,ag] w):=by
 obtain⟨f,ai⟩:∃f,f=av [bj g aO c,bd,bA,F]:=⟨_,j⟩
 rw [<-ai]
 have d:C o f [bj g aO c,bd,bA,F] o:=ai▸d
 have aF:=ak
 obtain⟨ms,rfl,p,n,rfl,ap,V⟩:=ak
 obtain⟨A,dQ,rfl,a5,a6⟩:=ap.form
 rw [fy] at ax
 simp only [fy]
 have hlen:∀q∈ms,q.cs.length=39:=λq ac=>q.bY (V.tag q ac)
 obtain⟨t,X⟩:∃t,t=(min (min ms.length (512-bB.length)) (1000-aM.length)):=⟨_,j⟩
 have a4:t<=ms.length:=by rw [X];omega
 refine a1 [Z aO,.slice A ms.length dQ] func41 ntmps41 results41 ?_
 refine au 5 j (aw (C.aj (b:=aO) d) j) ?_
 have W:=Co aE aF (d.ours (cI:=[bd,p++n])) aX (by rw [fy];exact ax)
 refine bm 1 W j (λr w⟨L,l,ah,aU⟩=>?_)
 simp only [fy] at L ah
 subst L
 have d:=d.b4 aU
 have d:C o f [bj g aO c,l,bA,p++n] w:=d.as
 obtain⟨N,I,H,x,S,J,T⟩:=aG
 have aq:aM.length=N.length:=by rw [<-I,fy]
 obtain⟨ho,a2,aK,_,_⟩:=J.form
 refine au 8 j (aw (C.aj (b:=aO) d) (aL some aK)) ?_
 refine bt 1 j j j (rX (by omega) (by omega)) ?_
 refine rb j j j ?_
 refine b2 21 (.int .i64 (t:Nat)) j (aL (Value.int .i64) (by rw [X];omega)) ?_
 refine rc j j j j (show t<=dQ by omega) ?_
 have aH:cz c.heard aM bA:=⟨N,I,H,x,S,J,T⟩
 refine cY 3 j (cA:=Nat×Value×List Chunk) (λk=>[(0,Z aO),(22,.slice A t dQ),(23,.int .i64 (t:Nat)),(24,.int .i64 (k.1:Nat))])
  (λk w=>k.1<=t/\cz k.2.1 (aM++(ms.map aB.P).take k.1) k.2.2/\C o f [bj g aO {c with heard:=k.2.1},l,k.2.2,p++n] w) (λk=>t-k.1) (0,c.heard,bA) ⟨j,j,j,j,ba⟩ ⟨ch _,by simpa using aH,d⟩ ?_
 rintro⟨i,s,bA⟩ w ⟨aQ,M,d⟩
 dsimp only at aQ M d⊢
 refine aT 4 j j (λy=>?_) (λy=>?_)
 .have z:i<ms.length:=by have:=br y;omega
  have K:=hlen ms[i] (ek z)
  obtain⟨_,_,e,_,_,aC,_⟩:=ap.read (C.holds d (G:=p++n) (by simp)).left
  cases e
  obtain⟨a0,rfl⟩:∃a,A=some a:=by obtain⟨a,aJ,_⟩:=aC (i*39+0) (ab ms[i].k) (iC ms hlen i z (by decide) (by simp [aB.cs]));exact⟨a,aJ⟩
  obtain⟨aa,Y⟩:=V.read (C.holds d (G:=p++n) (by simp)).right ms[i] (ek z)
  refine ar 5 j (pw j j j j (by omega) (by have:=br y;omega) ?_)
  refine bS 0 (U:=ms[i].cs) j j K (jE aC hlen i z) ?_
  refine cn 0 d j (λv w d=>?_)
  refine c5 (d.bf v) j j j (by simpa using ms[i].one) (by rw [List.size_toArray];exact K) (by decide) (λw d=>?_)
  have d:=C.whole (U:=ms[i].cs) d (by rw [K];rfl)
  have d:C o f [bi v ms[i],bj g aO {c with heard:=s},l,bA,p++n] w:=d.as
  have d:=d.drew
  refine bz 0 j (λw=>∃ae,C o f ([bi v ms[i],bj g aO {c with heard:=s}]++ae) w) ⟨_,d⟩ ?_
  refine af 0 4 j ?_
  refine be 4 j a7 j ?_
  refine aV 5 j (λw⟨_,d⟩=>dc (U:=ms[i].cs) j j K (bq (C.aj (b:=v) d))) ?_
  refine aW 6 j ?_
  obtain⟨aa,Y⟩:=V.read (C.holds d (G:=p++n) (by simp)).right ms[i] (ek z)
  have W:=C9 aa Y
  refine cN j j j W (λr w⟨q,D,E,L,ac,ay,ad⟩=>?_)
  subst L
  have az:=fw.sk ac ay aa Y
  have aA:q.tag.length=32:=by obtain⟨_,_,_,_,h,_⟩:=az;exact h
  have d:=d.aN ad
  have d:C o f ([bi v ms[i],bj g aO {c with heard:=s}]++_) w:=d.front
  refine an ⟨⟨_,d⟩,?_⟩
  refine aW 7 j ?_
  refine gv (U:=q.cs) d j j j (q.bY aA) (by decide) (by decide) (λQ w d=>?_)
  have aP:=bq (C.aj (b:=Q) d)
  have d:C o f ([bi v ms[i],bj g aO {c with heard:=s}]++_) w:=d.front
  refine an ⟨⟨_,d⟩,?_⟩
  refine aW 8 j ?_
  obtain⟨N,I,H,x,S,J,T⟩:=M
  have aq:=aL List.length I
  rw [fy,ca,List.length_take,List.length_map] at aq
  have d:C o f [bi v ms[i],bj g aO {c with heard:=s},l,H,x,p++n,D,E,R Q q.cs.toArray 94] w:=by
   rw [S] at d
   exact C.perm (A:=[bi v ms[i],bj g aO {c with heard:=s},l,H++x,p++n,D,E,R Q q.cs.toArray 94]) d.as (by simp)
  refine eK (d.to H) J j j (by decide) j j j (m:=1) (news:=q.cs) (q.bY aA) aP (by intro u hu;exact uH [q] u (by simpa using hu)) (by omega) (by unfold maxLen;omega) (λv2 O w aI d=>?_)
  have am:cz v2 (aM++(ms.map aB.P).take (i+1)) (O++(x++(D++E))):=by
   refine⟨N++[q],?_,lX.snoc aI T az⟩
   rw [jP,I,List.append_assoc,List.take_add_one]
   simp [z,ay]
  have d:C o f ([bi v ms[i],bj g aO {c with heard:=s}]++_) w:=d.front
  refine an ⟨⟨_,d⟩,?_⟩
  refine af 9 2 j ?_
  refine dy 11 j ?_
  obtain⟨_,_,aZ,_⟩:=am.len
  refine cC (d.bf aO) j j j (by rw [aZ];rfl) bR (λw d=>?_)
  have d:C o f (bj g aO {c with heard:=v2}::_) w:=d
  have d:C o f [bj g aO {c with heard:=v2},l,O++(x++(D++E)),p++n] w:=C.perm (A:=[bj g aO {c with heard:=v2},l,O,x,D,E,p++n]) d.as (by simp)
  refine an ?_
  refine cX ?_
  refine bt 1 j j j (c2 i (by omega)) ?_
  refine bX 1 j ?_
  exact⟨(i+1,v2,_),⟨j,j,j,j,ba⟩,⟨by have:=br y;dsimp only;omega,am,d⟩,by have:=br y;dsimp only;omega⟩
 refine ao 1 j j ?_
 have aR:i=t:=by have:=bw y;omega
 rw [aR,X] at M
 exact⟨j,s,l,bA,ah,M,d.as⟩
theorem vD{o:World}{g:al}{aO:Nat}{c:cg}{α:Type}{V:Value->α->List Chunk->Prop}{xs:List α}{ak:List Chunk}{U:List Value}{i:Int}(e:o.heap[aO]? =some (.cells (lU g c).toArray 58 (0,0)))(s:Row 37 1 c.bM xs.length U ak)(k:Holds o ak)(E:U.length=xs.length)(t:∀v∈U,∃p,v= .pointer p):Calls prog 8 #[Z aO,ab i] o (aS λr w=>r=(if 0<=i/\i<(xs.length:Int) then U.getD i.toNat (.pointer none) else .pointer none)/\w=o):=by
 obtain⟨u,y,f,C,D,q,_⟩:=Row.read s k
 refine a1 [Z aO,ab i] func8 ntmps8 results8 (ar 9 j (b2 7 (.bool false) j (aL Value.bool (j)) ?_))
 refine ar 4 j (c7 11 j (λa=>?_) (λa=>?_))
 .refine ao 12 j j (⟨?_,j⟩)
  rw [aF (by have:=br a;omega)]
 refine au 4 j (aw e (aL some f)) (aT 3 j j (λb=>?_) (λb=>?_))
 .refine ao 3 j j (⟨?_,j⟩)
  rw [aF (by have:=br b;omega)]
 refine au 6 j (aw e (aL some f)) ?_
 have m:0<=i/\i<(xs.length:Int):=by have z:=bw a;have A:=bw b;omega
 obtain⟨n,rfl⟩:∃n:Nat,i=n:=⟨i.toNat,by omega⟩
 have d:n<U.length:=by omega
 obtain⟨p,h⟩:=t _ (ek d)
 refine ar 1 j (fL j j j j q (v:=.pointer p) (by rw [gT,ck d,h]) (by omega) (λx B l=>?_))
 refine au 0 j l (ao 1 j j (⟨?_,j⟩))
 rw [a6 m]
 simp [List.getD,d,h]
theorem zp{o:World}{g:al}{aO:Nat}{c:cg}{α:Type}{V:Value->α->List Chunk->Prop}{xs:List α}{ak:List Chunk}{U:List Value}{i:Int}(e:o.heap[aO]? =some (.cells (lU g c).toArray 58 (0,0)))(s:Row 47 1 c.parts xs.length U ak)(k:Holds o ak)(E:U.length=xs.length)(t:∀v∈U,∃p,v= .pointer p):Calls prog 14 #[Z aO,ab i] o (aS λr w=>r=(if 0<=i/\i<(xs.length:Int) then U.getD i.toNat (.pointer none) else .pointer none)/\w=o):=by
 obtain⟨u,y,f,C,D,q,_⟩:=Row.read s k
 refine a1 [Z aO,ab i] func14 ntmps14 results14 (ar 9 j (b2 7 (.bool false) j (aL Value.bool (j)) ?_))
 refine ar 4 j (c7 11 j (λa=>?_) (λa=>?_))
 .refine ao 12 j j (⟨?_,j⟩)
  rw [aF (by have:=br a;omega)]
 refine au 4 j (aw e (aL some f)) (aT 3 j j (λb=>?_) (λb=>?_))
 .refine ao 3 j j (⟨?_,j⟩)
  rw [aF (by have:=br b;omega)]
 refine au 6 j (aw e (aL some f)) ?_
 have m:0<=i/\i<(xs.length:Int):=by have z:=bw a;have A:=bw b;omega
 obtain⟨n,rfl⟩:∃n:Nat,i=n:=⟨i.toNat,by omega⟩
 have d:n<U.length:=by omega
 obtain⟨p,h⟩:=t _ (ek d)
 refine ar 1 j (fL j j j j q (v:=.pointer p) (by rw [gT,ck d,h]) (by omega) (λx B l=>?_))
 refine au 0 j l (ao 1 j j (⟨?_,j⟩))
 rw [a6 m]
 simp [List.getD,d,h]
abbrev rcc(r:ec)(u:Value):List Value:=[ab r.p,ab r.e,ab r.t,ab r.s,u]
def ec.jV(r:ec):Bool:=jX r.p r.e&&(k5 r.t&&(decide (r.s>=0)&&(decide (r.s<=1048576)&&decide ((r.x.length:Int)<=200))))
def mu(r x:ec):Bool:=(x.p==r.p)&&((x.e==r.e)&&(x.s==r.s))
def ni(p e:Int)(x:ec):Bool:=(x.p==p)&&(x.e==e)
def oY(r:ec)(s:dJ):Bool:=(s.p==r.p)&&((s.e==r.e)&&((s.t==r.t)==(s.k !=0)))
def dP.next(l:dP)(r:ec):Int:=match l.c0.reverse.find? (ni r.p r.e) with
 |none=>0
 |some x=>IntKind.i64.wrap (x.s+1)
def dP.fits(l:dP)(r:ec):Int:=if r.s≠l.next r then 8 else if l.cl.any (oY r)=true then 6 else if 128<=l.c0.length then 3 else 0
def dP.append(l:dP)(r:ec):dP×Int×Int:=
 if r.jV=false then(l,0,1)
 else match a2 l.ew r.p with
  |none=>(l,0,4)
  |some a=>if r.e<a then(l,0,5) else if r.e>a then(l,0,6)
   else match l.c0.findIdx? (mu r) with
    |some i=>if h:i<l.c0.length then(if l.c0[i].t≠r.t\/l.c0[i].x≠r.x then(l,0,1) else(l,(i:Int),0)) else(l,0,0)
    |none=>if l.fits r≠0 then(l,0,l.fits r)
     else({l with cl:=if(l.span r.p r.e r.t).isSome=true then l.cl else l.cl++[⟨r.p,r.e,r.t,(l.c0.length:Int),0⟩],c0:=l.c0++[r]},(l.c0.length:Int),0)
theorem ka.len:∀{us:List Value}{rs:List ec}{G:List Chunk},ka us rs G->us.length=rs.length
 |[],[],_,_=>rfl
 |[],_::_,_,h=>h.elim
 |_::_,[],_,h=>h.elim
 |_::us,_::rs,_,⟨_,_,_,_,h⟩=>by simp [h.len]
theorem ka.app:∀{us d:List Value}{rs c:List ec}{G a:List Chunk},ka us rs G->ka d c a->ka (us++d) (rs++c) (G++a)
 |[],_,[],_,_,_,h,b=>by have h:_=[]:=h;subst h;exact b
 |[],_,_::_,_,_,_,h,_=>h.elim
 |_::_,_,[],_,_,_,h,_=>h.elim
 |_::_,_,_::_,_,_,a,⟨ah,aA,rfl,e,h⟩,b=>⟨ah,aA++a,by simp [dH],e,h.app b⟩
theorem ka.one{u:Value}{r:ec}{G:List Chunk}(h:dN u r.x G):ka [u] [r] G:=⟨G,[],by simp,h,j⟩
theorem ka.form:∀{us:List Value}{rs:List ec}{G:List Chunk},ka us rs G->∀(i:Nat)(a:i<rs.length),∃B c,us[i]? =some (.slice B rs[i].x.length c)/\rs[i].x.length<=c/\c<=maxLen/\∀w,Holds w G->Rd w B (aE rs[i].x)
 |[],[],_,_,i,a=>by simp at a
 |[],_::_,_,h,_,_=>h.elim
 |_::_,[],_,h,_,_=>h.elim
 |u::us,r::rs,_,⟨ah,aA,rfl,hu,_⟩,0,_=>by
  obtain⟨B,c,rfl,b,d⟩:=Row.form hu
  refine⟨B,c,j,b,d,λw g=>?_⟩
  obtain⟨_,_,e,_,_,f,_⟩:=Row.read hu g.left
  cases e
  exact f
 |u::us,r::rs,_,⟨ah,aA,rfl,_,h⟩,i+1,a=>by
  obtain⟨B,c,b,d,f,k⟩:=h.form i (by simpa using a)
  exact⟨B,c,by simpa using b,by simpa using d,f,λw g=>by simpa using k w g.right⟩
abbrev e2:Value×ec->List Value:=λe=>[ab e.2.p,ab e.2.e,ab e.2.t,ab e.2.s,e.1]
theorem GA(us:List Value)(rs:List ec):sD us rs=(us.zip rs).flatMap e2:=rfl
theorem AR{us:List Value}{rs:List ec}(b:us.length=rs.length){i:Nat}(a:i<rs.length):(us.zip rs)[i]'(by rw [oo];omega)=(us[i]'(by omega),rs[i]):=List.getElem_zip
theorem DM{q:ec->Bool}{l:List ec}{i:Nat}(d:i<l.length)(f:q l[i]=true)(h:∀J(a:J<l.length),i<J->q l[J]=false):l.reverse.find? q=some l[i]:=by
 have e:l=l.take i++(l[i]::l.drop (i+1)):=by rw [<-kg d,mU]
 have b:l.reverse=(l.drop (i+1)).reverse++(l[i]::(l.take i).reverse):=by
  have:=aL List.reverse e
  rw [this];simp
 rw [b,List.find?_append]
 have c:(l.drop (i+1)).reverse.find? q=none:=by
  rw [List.find?_eq_none]
  intro x g
  obtain⟨J,a,rfl⟩:=tF.1 (List.mem_reverse.1 g)
  rw [iP] at a
  rw [List.getElem_drop,h _ (by omega) (by omega)]
  decide
 rw [c]
 simp [f]
theorem DN{q:ec->Bool}{l:List ec}(h:∀J(a:J<l.length),q l[J]=false):l.reverse.find? q=none:=by
 rw [List.find?_eq_none]
 intro x b
 obtain⟨J,a,rfl⟩:=tF.1 (List.mem_reverse.1 b)
 rw [h J a];decide
theorem mL.form{v:Value}{l:List ec}{G:List Chunk}(t:mL v l G):∃(A:Option Addr)(c:Nat),v= .slice A l.length c/\l.length<=c/\c<=maxLen/\
 ∀n(aP:n<l.length),∃b I B aU,A=some ⟨b,I,none⟩/\l[n].x.length<=aU/\aU<=maxLen/\∀w,Holds w G->Rd w B (aE l[n].x)/\∀J z,J<5->(rcc l[n] (.slice B l[n].x.length aU))[J]? =some z->w.cell? ⟨b,I+n*5+J,none⟩=some z:=by
 obtain⟨ak,H,us,rfl,d,i⟩:=t
 obtain⟨A,c,rfl,F,K⟩:=Row.form d
 have D:=i.len
 have L:∀e∈us.zip l,(e2 e).length=5:=λ_ _=>rfl
 have N:(us.zip l).length=l.length:=by rw [oo];omega
 refine⟨A,c,j,F,K,λn aP=>?_⟩
 obtain⟨m,cap,cur,s,M,_⟩:=Row.block d (by omega)
 cases s
 obtain⟨B,aU,g,o,p,q⟩:=i.form n aP
 have r:us[n]'(by omega)= .slice B l[n].x.length aU:=by
  rw [ck (by omega)] at g;exact hr g
 refine⟨m,0,B,aU,j,o,p,λw h=>⟨q w h.right,λJ z y E=>?_⟩⟩
 obtain⟨_,_,e,_,_,C,_⟩:=Row.read d h.left
 cases e
 obtain⟨a,u,k⟩:=C _ _ (iC (f:=e2) (us.zip l) L n (by omega) y (by rw [AR D aP,r];exact E))
 cases u
 rw [add_lit,<-ru] at k
 exact k
theorem uA{a b:Int}(h: -9223372036854775808<=a-b)(c:a-b<9223372036854775808):evalBin .sub .i64 a b=some (.int .i64 (a-b)):=by
 have e:IntKind.i64.wrap (a-b)=a-b:=by rw [jR];omega
 show some (Value.int .i64 (IntKind.i64.wrap (a-b)))=_
 rw [e]
theorem DO{r:ec}(h:r.jV=true):r.x.length<=200:=by
 unfold ec.jV at h
 simp only [d8] at h
 have:=br h.2.2.2.2
 omega
theorem B0{α:Type}{p:α->Bool}{l:List α}{i:Nat}(h:l.findIdx? p=some i):l.any p=true:=by
 obtain⟨a,b,_⟩:=pN.1 h
 exact kf.2 ⟨_,ek a,b⟩
theorem B1{α:Type}{p:α->Bool}{l:List α}(h:l.findIdx? p=none):l.any p=false:=by
 rw [List.findIdx?_eq_none_iff] at h
 rw [List.any_eq_false]
 exact λx a=>by rw [h x a];decide
theorem En{o:World}{r:ec}{B:Option Addr}{aU:Nat}:Calls prog 174 #[.agg (rcc r (.slice B r.x.length aU)).toArray] o (aS λz w=>z= .bool r.jV/\C o [] [] w):=by
 have a:Own [] o:=C.start o
 refine a1 [.agg (rcc r (.slice B r.x.length aU)).toArray] func174 ntmps174 results174 (bP 2 a j j (λax w a=>?_))
 have a:C o [] (R ax (rcc r (.slice B r.x.length aU)).toArray 169::_) w:=a
 refine au 4 j (aw (C.aj a) j) (au 1 j (aw (C.aj a) j) (bp 0 (uV (p:=r.p) (e:=r.e)) j (λw hw=>?_)))
 have hw:=hw.symm
 subst hw
 refine ar 1 j (c7 8 j (λeP=>?_) (λeP=>?_))
 .refine au 1 j (aw (C.aj a) j) (bp 0 (yo (t:=r.t)) j (λw hw=>?_))
  have hw:=hw.symm
  subst hw
  refine ar 2 j (c7 13 j (λb=>?_) (λb=>?_))
  .refine au 1 j (aw (C.aj a) j) (ar 3 j (c7 18 j (λc=>?_) (λc=>?_)))
   .refine au 1 j (aw (C.aj a) j) (ar 3 j (c7 23 j (λd=>?_) (λd=>?_)))
    refine au 1 j (aw (C.aj a) j) (ao 4 j j ?_)
    rotate_left
    refine ao 6 j j ?_
    rotate_left
    all_goals
     refine⟨aL Value.bool ?_,a.bare⟩
     unfold ec.jV
     rw [eP]
     rw [b]
     rw [c]
     rw [d]
     rfl
   refine ao 11 j j (⟨aL Value.bool ?_,a.bare⟩)
   unfold ec.jV
   rw [eP]
   rw [b]
   rw [c]
   rfl
  refine ao 16 j j (⟨aL Value.bool ?_,a.bare⟩)
  unfold ec.jV
  rw [eP]
  rw [b]
  rfl
 refine ao 21 j j (⟨aL Value.bool ?_,a.bare⟩)
 unfold ec.jV
 rw [eP]
 rfl
theorem BL{o:World}{c:Nat}{r x:ec}{u:Value}{B:Option Addr}{aU:Nat}(e:o.heap[c]? =some (.cells (rcc r (.slice B r.x.length aU)).toArray 169 (0,0))):Calls prog 216 (#[]++ #[.agg (rcc x u).toArray]++ #[Z c]) o (aS λz w=>z= .bool (mu r x)/\C o [] [] w):=by
 have a:Own [] o:=C.start o
 refine a1 [.agg (rcc x u).toArray,Z c] func216 ntmps216 results216 (bP 2 a j j (λaJ w a=>au 4 j (aw (C.aj a) j) (au 1 j (aw (a.cd e) j) (ar 2 j (c7 9 j (λb=>?_) (λb=>?_))))))
 .refine au 1 j (aw (C.aj a) j) (au 1 j (aw (a.cd e) j) (ar 3 j (c7 16 j (λd=>?_) (λd=>?_))))
  .refine au 1 j (aw (C.aj a) j) (au 1 j (aw (a.cd e) j) (ao 3 j j (⟨aL Value.bool ?_,a.bare⟩)))
   unfold mu
   rw [b,d]
   rfl
  refine ao 7 j j (⟨aL Value.bool ?_,a.bare⟩)
  unfold mu
  rw [b,d]
  rfl
 refine ao 14 j j (⟨aL Value.bool ?_,a.bare⟩)
 unfold mu
 rw [b]
 rfl
theorem F7{o:World}{c:Nat}{r:ec}{s:dJ}{B:Option Addr}{aU:Nat}(e:o.heap[c]? =some (.cells (rcc r (.slice B r.x.length aU)).toArray 169 (0,0))):Calls prog 218 (#[]++ #[.agg s.cs.toArray]++ #[Z c]) o (aS λz w=>z= .bool (oY r s)/\C o [] [] w):=by
 have a:Own [] o:=C.start o
 refine a1 [.agg s.cs.toArray,Z c] func218 ntmps218 results218 (bP 2 a j j (λaJ w a=>au 4 j (aw (C.aj a) j) (au 1 j (aw (a.cd e) j) (ar 2 j (c7 9 j (λb=>?_) (λb=>?_))))))
 .refine au 1 j (aw (C.aj a) j) (au 1 j (aw (a.cd e) j) (ar 3 j (c7 16 j (λd=>?_) (λd=>?_))))
  .refine au 1 j (aw (C.aj a) j) (au 1 j (aw (a.cd e) j) (au 2 j (aw (C.aj a) j) (ao 4 j j (⟨aL Value.bool ?_,a.bare⟩))))
   unfold oY
   rw [b,d]
   rfl
  refine ao 11 j j (⟨aL Value.bool ?_,a.bare⟩)
  unfold oY
  rw [b,d]
  rfl
 refine ao 18 j j (⟨aL Value.bool ?_,a.bare⟩)
 unfold oY
 rw [b]
 rfl
theorem Eg{o:World}{dY:FuncId}[Entry prog dY]{bc:Array Value}{q:ec->Bool}{T:World->Prop}(L:∀(k:World)(x:ec)(u:Value),T k->Calls prog dY (#[]++ #[.agg (rcc x u).toArray]++bc) k (aS λr w=>r= .bool (q x)/\C k [] [] w))(I:∀w,C o [] [] w->T w){v:Value}{l:List ec}{G:List Chunk}(K:mL v l G)(D:Holds o G):Calls prog 215 #[v,.func (.func dY) #[] bc] o (aS λr w=>((∃i:Nat,r= .int .i64 (i:Nat)/\l.findIdx? q=some i)\/(r= .int .i64 (-1)/\l.findIdx? q=none))/\C o [] [] w):=by
 have a:Own [] o:=C.start o
 obtain⟨ak,H,us,rfl,F,E⟩:=K
 obtain⟨m,n,rfl,W,P,N,_⟩:=Row.read F D.left
 have O:=E.len
 have s:∀e∈us.zip l,(e2 e).length=5:=λ_ _=>rfl
 have X:(us.zip l).length=l.length:=by rw [oo];omega
 refine a1 [.slice m l.length n,.func (.func dY) #[] bc] func215 ntmps215 results215 ?_
 refine cY 10 j (cA:=Nat) (λi=>[(0,.slice m l.length n),(1,.func (.func dY) #[] bc),(7,.int .i64 (l.length:Nat)),(8,.int .i64 (i:Nat))])
  (λi w=>i<=l.length/\(∀J(y:J<l.length),J<i->q l[J]=false)/\C o [] [] w) (λi=>l.length-i) 0 ⟨j,j,j,j,ba⟩ ⟨ch _,λJ _ h=>by omega,a⟩ ?_
 rintro i w ⟨V,g,a⟩
 refine aT 4 j j (λd=>?_) (λd=>?_)
 .have b:i<l.length:=by have:=br d;omega
  have A:=a.rd N (bU.of_nil _ _)
  have t:=AR O b
  refine ar 12 j (fL j j j j A (v:=ab l[i].p) (iC (f:=e2) (J:=0) (us.zip l) s i (by omega) (by decide) (by rw [t];rfl)) b (λR B S=>?_))
  subst B
  have z:=jE (f:=e2) A s i (by omega)
  rw [t] at z
  refine bS 0 (U:=rcc l[i] us[i]) j j j z (hE j j j j (L _ l[i] us[i] (I _ a)) (λr w⟨Q,ad⟩=>?_))
  subst Q
  have a:=(a.aN ad).bare
  refine aT 0 j j (λc=>?_) (λc=>?_)
  .refine ao 4 j j ?_
   exact⟨.inl ⟨i,j,xS g b c⟩,a⟩
  refine bt 2 j j j (c2 i (by unfold maxLen at P;omega)) (bX 1 j (⟨i+1,⟨j,j,j,j,ba⟩,⟨b,λJ y M=>?_,a⟩,by omega⟩))
  rcases Nat.lt_succ_iff_lt_or_eq.1 M with h|rfl
  .exact g J y h
  exact c
 refine ao 4 j j ?_
 exact⟨.inr ⟨j,xR g (by have:=bw d;omega)⟩,a⟩
theorem wC{o:World}{bc:Nat}{c:iL}{r:ec}{B:Option Addr}{aU:Nat}{G:List Chunk}{l:List ec}(m:o.heap[bc]? =some (.cells (lcs c).toArray 132 (0,0)))(k:mL c.c0 l G)(g:Holds o G):Calls prog 175 #[Z bc,.agg (rcc r (.slice B r.x.length aU)).toArray] o (aS λz w=>((∃i:Nat,z= .int .i64 (i:Nat)/\l.findIdx? (mu r)=some i)\/(z= .int .i64 (-1)/\l.findIdx? (mu r)=none))/\C o [] [] w):=by
 have a:Own [] o:=C.start o
 refine a1 [Z bc,.agg (rcc r (.slice B r.x.length aU)).toArray] func175 ntmps175 results175 (bP 2 a j j (λd w a=>?_))
 have a:C o [] [R d (rcc r (.slice B r.x.length aU)).toArray 169] w:=a
 refine au 6 j (aw (a.cd m) j) (gR j j j j ?_)
 have n:=Eg (dY:=216) (bc:= #[Z d]) (q:=mu r) (T:=λe=>e.heap[d]? =some (.cells (rcc r (.slice B r.x.length aU)).toArray 169 (0,0))) (λe x u h=>BL h) (λe f=>f.cd (C.aj (b:=d) a)) k (g.st a)
 refine bm 0 n j (λz w⟨s,p⟩=>?_)
 have a:=a.aN p
 refine ao 1 j j ?_
 exact⟨s,a.bare⟩
theorem C7{o:World}{dY:FuncId}[Entry prog dY]{bc:Array Value}{q:dJ->Bool}{T:World->Prop}(p:∀(e:World)(s:dJ),T e->Calls prog dY (#[]++ #[.agg s.cs.toArray]++bc) e (aS λr w=>r= .bool (q s)/\C e [] [] w))(m:∀w,C o [] [] w->T w){v:Value}{l:List dJ}{G:List Chunk}(g:gw v l G)(f:Holds o G):Calls prog 219 #[v,.func (.func dY) #[] bc] o (aS λr w=>r= .bool (l.any q)/\C o [] [] w):=by
 have c:Own [] o:=C.start o
 obtain⟨h,k,rfl,A,B,y,_⟩:=Row.read g f
 refine a1 [.slice h l.length k,.func (.func dY) #[] bc] func219 ntmps219 results219 ?_
 have n:=yi p m g f
 refine bm 7 n j (λz w⟨x,u⟩=>?_)
 have c:=c.aN u
 obtain⟨d,rfl,t⟩:∃d:Int,z= .int .i64 d/\l.any q=decide (d>=0):=by
  rcases x with⟨i,a,b⟩|⟨a,b⟩
  .exact⟨_,a,(B0 b).trans (jb (by omega)).symm⟩
  .exact⟨_,a,(B1 b).trans (by decide)⟩
 refine ao 2 j j ?_
 exact⟨aL Value.bool t.symm,c.bare⟩
theorem yt{o:World}{bc:Nat}{c:iL}{p e:Int}{G:List Chunk}{l:List ec}(q:o.heap[bc]? =some (.cells (lcs c).toArray 132 (0,0)))(x:mL c.c0 l G)(u:Holds o G):Calls prog 217 #[Z bc,ab p,ab e] o (aS λz w=>((∃i:Nat,z= .int .i64 (i:Nat)/\∃B:i<l.length,l.reverse.find? (ni p e)=some l[i])\/(z= .int .i64 (-1)/\l.reverse.find? (ni p e)=none))/\w=o):=by
 obtain⟨D,F,r,L,C,y⟩:=x.form
 have K:l.length<=9223372036854775807:=by unfold maxLen at C;omega
 refine a1 [Z bc,ab p,ab e] func217 ntmps217 results217 (au 9 j (aw q (aL some r)) (bt 1 j j j (v:=.int .i64 ((l.length:Int)-1)) (uA (by omega) (by omega)) ?_))
 refine cY 2 j (cA:=Nat) (λn=>[(0,Z bc),(1,ab p),(2,ab e),(7,.int .i64 ((n:Int)-1))])
  (λn w=>n<=l.length/\(∀J(a:J<l.length),n<=J->ni p e l[J]=false)/\w=o) (λn=>n) l.length ⟨j,j,j,j,ba⟩ ⟨cB _,λJ a h=>by omega,j⟩ ?_
 rintro n w ⟨B,f,hw⟩
 have hw:=hw.symm
 subst hw
 refine aT 5 j j (λg=>?_) (λg=>?_)
 .refine au 8 j (aw q (aL some r)) ?_
  obtain⟨m,rfl⟩:∃m,n=m+1:=⟨n-1,by have:=br g;omega⟩
  have b:m<l.length:=by omega
  obtain⟨H,go,E,dQ,rfl,_,_,A⟩:=y m b
  have t:=(A _ u).2
  refine ar 1 j (b2 22 (.int .i64 (m:Nat)) j (aL (Value.int .i64) (by omega)) ?_)
  refine hG j j j j b (au 1 j (t 0 _ (by decide) j) (ar 3 j (c7 28 j (λd=>?_) (λd=>?_))))
  .refine au 3 j (aw q (aL some r)) (ar 1 j (b2 33 (.int .i64 (m:Nat)) j (aL (Value.int .i64) (by omega)) ?_))
   refine hG j j j j b (au 1 j (t 1 _ (by decide) j) (aT 3 j j (λk=>?_) (λk=>?_)))
   .refine ar 2 j (b2 7 (.int .i64 (m:Nat)) j (aL (Value.int .i64) (by omega)) ?_)
    refine ao 2 j j ?_
    exact⟨.inl ⟨m,j,b,DM b (by unfold ni;rw [d,k];rfl) (λJ a I=>f J a (by omega))⟩,j⟩
   refine bt 3 j j j (v:=.int .i64 ((m:Int)-1)) (by rw [uA (by omega) (by omega)];exact aL (λz=>some (Value.int .i64 z)) (by omega)) (bX 1 j (⟨m,⟨j,j,j,j,ba⟩,⟨by omega,λJ a s=>?_,j⟩,Nat.lt_succ_self m⟩))
   rcases Nat.eq_or_lt_of_le s with h|h
   .subst h;unfold ni;rw [d,k];rfl
   exact f J a h
  refine bt 15 j j j (v:=.int .i64 ((m:Int)-1)) (by rw [uA (by omega) (by omega)];exact aL (λz=>some (Value.int .i64 z)) (by omega)) (bX 1 j (⟨m,⟨j,j,j,j,ba⟩,⟨by omega,λJ a s=>?_,j⟩,Nat.lt_succ_self m⟩))
  rcases Nat.eq_or_lt_of_le s with h|h
  .subst h;unfold ni;rw [d];rfl
  exact f J a h
 refine ao 4 j j ?_
 exact⟨.inr ⟨j,DN (λJ a=>f J a (by have:=bw g;omega))⟩,j⟩
theorem DP{o:World}{bc:Nat}{c:iL}{r:ec}{B:Option Addr}{aU:Nat}{G S:List Chunk}{l:dP}(k:o.heap[bc]? =some (.cells (lcs c).toArray 132 (0,0)))(A:mL c.c0 l.c0 G)(y:Holds o G)(E:gw c.cl l.cl S)(L:Holds o S):Calls prog 177 #[Z bc,.agg (rcc r (.slice B r.x.length aU)).toArray] o (aS λz w=>z=ab (l.fits r)/\C o [] [] w):=by
 have a:Own [] o:=C.start o
 obtain⟨V,Y,H,ac,ad,N⟩:=A.form
 obtain⟨U,X,F,_,_⟩:=Row.form E
 refine a1 [Z bc,.agg (rcc r (.slice B r.x.length aU)).toArray] func177 ntmps177 results177 (bP 2 a j j (λt w a=>?_))
 have a:C o [] [R t (rcc r (.slice B r.x.length aU)).toArray 169] w:=a
 refine au 9 j (aw (C.aj a) j) (au 1 j (aw (C.aj a) j) ?_)
 rcases n:l.c0.reverse.find? (ni r.p r.e) with _|x
 have m:=yt (bc:=bc) (c:=c) (p:=r.p) (e:=r.e) (a.cd k) A (y.st a)
 refine bm 0 m j (λz Q⟨d,f⟩=>?_)
 have f:=f.symm
 subst f
 obtain⟨d,_⟩:=d.resolve_left (λ⟨_,_,_,h⟩=>by rw [n] at h;cases h)
 subst d
 refine ar 9 j (b2 5 (ab (l.next r)) j (by unfold dP.next;rw [n];rfl) ?_)
 rotate_left
 have m:=yt (bc:=bc) (c:=c) (p:=r.p) (e:=r.e) (a.cd k) A (y.st a)
 refine bm 0 m j (λz Q⟨d,f⟩=>?_)
 have f:=f.symm
 subst f
 obtain⟨i,d,I,J⟩:=d.resolve_right (λh=>by rw [n] at h;cases h.2)
 rw [n] at J
 cases J
 subst d
 refine md 5 j j ((jb (Int.natCast_nonneg i))) (au 4 j (aw (a.cd k) (aL some H)) ?_)
 obtain⟨aa,go,W,dQ,rfl,_,_,O⟩:=N i I
 refine ar 1 j (hG j j j j I ?_)
 refine au 1 j ((O _ (y.st a)).2 3 _ (by decide) j) (ar 4 j (b2 5 (ab (l.next r)) j (by unfold dP.next;rw [n];rfl) ?_))
 rotate_left
 all_goals
  refine gR j j j j (au 6 j (aw (C.aj a) j) (aT 3 j j (λg=>?_) (λg=>?_)))
  .refine ao 3 j j (⟨aL ab ?_,a.bare⟩)
   unfold dP.fits
   rw [a6 (by simpa using g)]
  refine au 5 j (aw (a.cd k) (aL some F)) ?_
  have m:=C7 (dY:=218) (bc:= #[Z t]) (q:=oY r) (T:=λD=>D.heap[t]? =some (.cells (rcc r (.slice B r.x.length aU)).toArray 169 (0,0))) (λD s M=>F7 M) (λD K=>K.cd (C.aj (b:=t) a)) (F▸E) (L.st a)
  refine bp 1 m j (λw P=>?_)
  have a:=a.aN P
  refine aT 1 j j (λu=>?_) (λu=>?_)
  .refine ao 3 j j (⟨aL ab ?_,a.bare⟩)
   unfold dP.fits
   rw [aF (by simpa using g),if_pos u]
  refine au 5 j (aw (a.cd k) (aL some H)) (aT 3 j j (λv=>?_) (λv=>?_))
  .refine ao 3 j j (⟨aL ab ?_,a.bare⟩)
   unfold dP.fits
   rw [aF (by simpa using g),if_neg (by rw [u];decide),if_pos (by have:=of_decide_eq_true v;omega)]
  refine ao 4 j j (⟨aL ab ?_,a.bare⟩)
  unfold dP.fits
  rw [aF (by simpa using g),if_neg (by rw [u];decide),if_neg (by have:=of_decide_eq_false v;omega)]
theorem B6{o:World}{bc:Nat}{l:dP}{G:List Chunk}{r:ec}{B:Option Addr}{aU:Nat}(aI:ky bc l G)(bn:l.cl.length<=1000000)(bo:l.c0.length<=1000000)(aX:Rd o B (aE r.x))(ap:bU B (aE r.x) (av [G]))(bA:r.x.length<=aU)(a:Own [G] o):Calls prog 125 #[Z bc,.agg (rcc r (.slice B r.x.length aU)).toArray] o (aS λz w=>z= .tuple #[ab (l.append r).2.1,ab (l.append r).2.2]/\∃ah,ky bc (l.append r).1 ah/\C o (av [G]) [ah] w):=by
 have O:=aI
 obtain⟨c,ak,S,E,D,rfl⟩:=aI
 obtain⟨d,aD⟩:∃d,d=av [dE bc c++(ak++(S++E))]:=⟨_,j⟩
 rw [<-aD] at ap⊢
 have a:C o d [dE bc c++(ak++(S++E))] o:=aD▸a
 have a:=a.vt
 obtain⟨az,g,aK,rfl,aQ⟩:=D.ew
 obtain⟨bd,bi,W,bv,bx,a0⟩:=D.c0.form
 obtain⟨bb,bh,aM,bs,bt⟩:=Row.form D.cl
 have a3:(a2 (l8 l.ew) r.p).getD (ab 0)=ab ((a2 l.ew r.p).getD 0):=by
  unfold l8
  rw [ne]
  cases a2 l.ew r.p<;>rfl
 have aO:(a2 (l8 l.ew) r.p).isSome=(a2 l.ew r.p).isSome:=by
  unfold l8
  rw [ne]
  cases a2 l.ew r.p<;>rfl
 refine a1 [Z bc,.agg (rcc r (.slice B r.x.length aU)).toArray] func125 ntmps125 results125 (bP 2 a j j (λf w a=>?_))
 have a:C o d [R f (rcc r (.slice B r.x.length aU)).toArray 169,dE bc c,ak,S,[(az,g)]] w:=a
 refine ar 8 j (b2 13 (.bool false) j (aL Value.bool (j)) ?_)
 refine bS 0 (U:=rcc r (.slice B r.x.length aU)) j j j (bq (C.aj (b:=f) a)) ?_
 have F:=En (o:=w) (r:=r) (B:=B) (aU:=aU)
 refine bp 0 F j (λw y=>?_)
 have a:=a.aN y
 have a:C o d [R f (rcc r (.slice B r.x.length aU)).toArray 169,dE bc c,ak,S,[(az,g)]] w:=a.as
 refine aT 2 j j (λag=>?_) (λag=>?_)
 .refine ao 4 j j ?_
  have q:l.append r=(l,0,1):=by
   unfold dP.append
   rw [a6 (by simpa using ag)]
  rw [q]
  have a:C o d [dE bc c,ak,S,[(az,g)]] _:=a.as
  exact⟨j,_,O,a.iX⟩
 have a:C o d ([R f (rcc r (.slice B r.x.length aU)).toArray 169,dE bc c,ak,S,[(az,g)]]++_) _:=a.front
 have a:=a.drew
 have J:r.jV=true:=by simpa using ag
 refine bz 2 j (λw=>∃ae,C o d ([R f (rcc r (.slice B r.x.length aU)).toArray 169,dE bc c,ak,S,[(az,g)]]++ae) w) ⟨_,a⟩ (af 0 3 j (be 3 j a7 (aL some aK) (af 4 1 j (be 5 j a7 j (aV 6 j (λw⟨_,a⟩=>ti (key:=bu) (k:=r.p) aQ (C.aj (b:=az) a) j j) (af 7 5 j (bO (aT 7 j j (λai=>?_) (λai=>?_)))))))))
 .refine ao 4 j j ?_
  have q:l.append r=(l,0,4):=by
   unfold dP.append
   rw [aF (by rw [J];decide)]
   rw [show a2 l.ew r.p=none from Option.isNone_iff_eq_none.1 (by have V:(a2 l.ew r.p).isSome=false:=aO.symm.trans (by simpa using ai);cases a8:a2 l.ew r.p with|none=>rfl|some _=>rw [a8] at V;cases V)]
  rw [q]
  have a:C o d [dE bc c,ak,S,[(az,g)]] _:=a.as
  exact⟨j,_,O,a.iX⟩
 obtain⟨am,L⟩:∃am,a2 l.ew r.p=some am:=g4.1 (aO.symm.trans (by simpa using ai))
 refine ar 2 j (b2 6 (ab am) j (a3.trans (by rw [L];rfl)) ?_)
 refine au 1 j (aw (C.aj a) j) (aT 3 j j (λK=>?_) (λK=>?_))
 .refine ao 4 j j ?_
  have q:l.append r=(l,0,5):=by
   unfold dP.append
   rw [aF (by rw [J];decide)]
   rw [L]
   dsimp only
   rw [a6 (br K)]
  rw [q]
  have a:C o d [dE bc c,ak,S,[(az,g)]] _:=a.as
  exact⟨j,_,O,a.iX⟩
 refine au 3 j (aw (C.aj a) j) (aT 3 j j (λN=>?_) (λN=>?_))
 .refine ao 4 j j ?_
  have q:l.append r=(l,0,6):=by
   unfold dP.append
   rw [aF (by rw [J];decide)]
   rw [L]
   dsimp only
   rw [aF (bw K),a6 (br N)]
  rw [q]
  have a:C o d [dE bc c,ak,S,[(az,g)]] _:=a.as
  exact⟨j,_,O,a.iX⟩
 refine bS 5 (U:=rcc r (.slice B r.x.length aU)) j j j (bq (C.aj (b:=f) a)) ?_
 rcases I:l.c0.findIdx? (mu r) with _|ax
 .have F:=wC (bc:=bc) (c:=c) (r:=r) (B:=B) (aU:=aU) (C.aj (b:=bc) a) D.c0 (a.holds (G:=ak) (by simp))
  refine bm 0 F j (λz w⟨v,y⟩=>?_)
  obtain⟨v,_⟩:=v.resolve_left (λ⟨_,_,h⟩=>by rw [I] at h;cases h)
  subst v
  have a:=a.aN y
  have a:C o d [R f (rcc r (.slice B r.x.length aU)).toArray 169,dE bc c,ak,S,[(az,g)]] w:=a.as
  refine bS 11 (U:=rcc r (.slice B r.x.length aU)) j j j (bq (C.aj (b:=f) a)) ?_
  have F:=DP (l:=l) (r:=r) (B:=B) (aU:=aU) (C.aj (b:=bc) a) D.c0 (a.holds (G:=ak) (by simp)) D.cl (a.holds (G:=S) (by simp))
  refine bp 0 F j (λw y=>?_)
  have a:=a.aN y
  have a:C o d [R f (rcc r (.slice B r.x.length aU)).toArray 169,dE bc c,ak,S,[(az,g)]] w:=a.as
  refine aT 5 j j (λal=>?_) (λal=>?_)
  .refine ao 5 j j ?_
   have q:l.append r=(l,0,l.fits r):=by
    unfold dP.append
    rw [aF (by rw [J];decide)]
    rw [L]
    dsimp only
    rw [aF (bw K),aF (bw N)]
    rw [I]
    dsimp only
    rw [a6 (by simpa using al)]
   rw [q]
   have a:C o d [dE bc c,ak,S,[(az,g)]] _:=a.as
   exact⟨j,_,O,a.iX⟩
  refine au 6 j (aw (C.aj (b:=bc) a) (aL some W)) (au 7 j (aw (C.aj (b:=f) a) j) (au 1 j (aw (C.aj (b:=f) a) j) (au 1 j (aw (C.aj (b:=f) a) j) ?_)))
  rcases aa:l.span r.p r.e r.t with _|ba
  have F:=o7 (bc:=bc) (c:=c) (p:=r.p) (e:=r.e) (t:=r.t) (C.aj (b:=bc) a) D.cl (a.holds (G:=S) (by simp))
  refine bm 0 F j (λz w⟨v,y⟩=>?_)
  obtain⟨v,_⟩:=v.resolve_left (λ⟨_,_,h⟩=>by rw [show l.cl.findIdx? (kP r.p r.e r.t)=none from aa] at h;cases h)
  subst v
  have a:=a.aN y
  have a:C o d [R f (rcc r (.slice B r.x.length aU)).toArray 169,dE bc c,ak,S,[(az,g)]] w:=a.as
  have a:C o d ([R f (rcc r (.slice B r.x.length aU)).toArray 169,dE bc c,ak,[(az,g)]]++_) _:=a.front
  have a:=a.drew
  refine bz 2 j (λw=>∃ae,C o d ([R f (rcc r (.slice B r.x.length aU)).toArray 169,dE bc c,ak,[(az,g)]]++ae) w) ⟨_,a⟩ (af 0 4 j (be 4 j a7 (aL some aM) (af 5 1 j (be 6 j a7 j (af 7 1 j (be 8 j a7 j (af 9 1 j (be 10 j a7 j (af 11 1 j (aV 12 j (λw _=>e0 (c:=(⟨r.p,r.e,r.t,(l.c0.length:Int),0⟩:dJ).cs.toArray) j (λ_=>by kernel_rfl)) (aW 13 j (gv (U:=(⟨r.p,r.e,r.t,(l.c0.length:Int),0⟩:dJ).cs) a j j j j bR bR (λaY w a=>?_)))))))))))))
  have aP:=bq (C.aj (b:=aY) a)
  have a:C o d ([R f (rcc r (.slice B r.x.length aU)).toArray 169,dE bc c,ak,[(az,g)]]++_) w:=a.front
  refine an ⟨⟨_,a⟩,?_⟩
  refine aW 14 j (eK (a.to S) (aM▸D.cl) j j (by decide) j j j (m:=1) (news:=(⟨r.p,r.e,r.t,(l.c0.length:Int),0⟩:dJ).cs) j aP (vN [(⟨r.p,r.e,r.t,(l.c0.length:Int),0⟩:dJ)]) (by omega) (by unfold maxLen;omega) (λv1 ac w P a=>?_))
  have P:Row 308 5 v1 (l.cl.length+1) (l.cl.flatMap dJ.cs++(⟨r.p,r.e,r.t,(l.c0.length:Int),0⟩:dJ).cs) ac:=P
  have P:gw v1 (l.cl++[(⟨r.p,r.e,r.t,(l.c0.length:Int),0⟩:dJ)]) ac:=by
   unfold gw
   rw [ca,List.flatMap_append]
   simpa using P
  have a:C o d ([R f (rcc r (.slice B r.x.length aU)).toArray 169,dE bc c,ak,[(az,g)]]++_) w:=a.front
  refine an ⟨⟨_,a⟩,?_⟩
  refine af 15 2 j (dy 17 j (cC (a.bf bc) j j j (Row.one P) bR (λw a=>?_)))
  have a:C o d (dE bc ({c with cl:=v1})::_) w:=a
  refine an (cX ?_)
  obtain⟨dn,H,n,aB,aA,aH,aR,a4,a⟩:∃(dn:iL)(H:List dJ)(n:List Chunk),dn.c0=c.c0/\dn.ew=c.ew/\(if(l.span r.p r.e r.t).isSome=true then l.cl else l.cl++[(⟨r.p,r.e,r.t,(l.c0.length:Int),0⟩:dJ)])=H/\gw dn.cl H n/\H.length<=l.cl.length+1/\C o d [R f (rcc r (.slice B r.x.length aU)).toArray 169,dE bc dn,ak,n,[(az,g)]] w:=⟨{c with cl:=v1},l.cl++[(⟨r.p,r.e,r.t,(l.c0.length:Int),0⟩:dJ)],ac,j,j,aF (by rw [aa];decide),P,by rw [ca,List.length_singleton];omega,a.as⟩
  refine au 3 j (aw (C.aj (b:=f) a) j) ?_
  rotate_left
  have F:=o7 (bc:=bc) (c:=c) (p:=r.p) (e:=r.e) (t:=r.t) (C.aj (b:=bc) a) D.cl (a.holds (G:=S) (by simp))
  refine bm 0 F j (λz w⟨v,y⟩=>?_)
  obtain⟨bB,v,_⟩:=v.resolve_right (λh=>by rw [show l.cl.findIdx? (kP r.p r.e r.t)=some ba from aa] at h;cases h.2)
  subst v
  have a:=a.aN y
  have a:C o d [R f (rcc r (.slice B r.x.length aU)).toArray 169,dE bc c,ak,S,[(az,g)]] w:=a.as
  refine iW 1 j j ((ff (by omega))) ?_
  obtain⟨dn,H,n,aB,aA,aH,aR,a4,a⟩:∃(dn:iL)(H:List dJ)(n:List Chunk),dn.c0=c.c0/\dn.ew=c.ew/\(if(l.span r.p r.e r.t).isSome=true then l.cl else l.cl++[(⟨r.p,r.e,r.t,(l.c0.length:Int),0⟩:dJ)])=H/\gw dn.cl H n/\H.length<=l.cl.length+1/\C o d [R f (rcc r (.slice B r.x.length aU)).toArray 169,dE bc dn,ak,n,[(az,g)]] w:=⟨c,l.cl,S,j,j,a6 (by rw [aa];rfl),D.cl,eo _,a.as⟩
  refine au 4 j (aw (C.aj (b:=f) a) j) ?_
  rotate_left
  all_goals
   refine bm 0 (gW (c:=aU) (a.rd aX ap) (by have:=DO J;omega)) j (λz w⟨M,aG,y⟩=>?_)
   obtain⟨s,bH,rfl,_,_⟩:=aG.form
   have a:=a.aN y
   refine dD 1 (a.bf f) j j j j (λw a=>?_)
   have a:C o d (R f (rcc r (.slice s r.x.length bH)).toArray 169::_) w:=a
   have a:C o d ([R f (rcc r (.slice s r.x.length bH)).toArray 169,dE bc dn,n,[(az,g)]]++_) _:=a.front
   have a:=a.drew
   refine bz 1 j (λw=>∃ae,C o d ([R f (rcc r (.slice s r.x.length bH)).toArray 169,dE bc dn,n,[(az,g)]]++ae) w) ⟨_,a⟩ (af 0 4 j (be 4 j a7 (aL some (aB.trans W)) (aV 5 j (λw⟨_,a⟩=>dc (U:=rcc r (.slice s r.x.length bH)) j j j (bq (C.aj (b:=f) a))) (aW 6 j (gv (U:=rcc r (.slice s r.x.length bH)) a j j j j bR bR (λad w a=>?_))))))
   have aP:=bq (C.aj (b:=ad) a)
   have a:C o d ([R f (rcc r (.slice s r.x.length bH)).toArray 169,dE bc dn,n,[(az,g)]]++_) w:=a.front
   refine an ⟨⟨_,a⟩,?_⟩
   refine aW 7 j ?_
   obtain⟨ay,H1,us,rfl,aZ,aC⟩:=D.c0
   have a:C o d [ay,H1,R f (rcc r (.slice s r.x.length bH)).toArray 169,dE bc dn,n,[(az,g)],M,R ad (rcc r (.slice s r.x.length bH)).toArray 169] w:=C.perm (A:=[ay++H1,R f (rcc r (.slice s r.x.length bH)).toArray 169,dE bc dn,n,[(az,g)],M,R ad (rcc r (.slice s r.x.length bH)).toArray 169]) a.as (by simp)
   refine eK a (W▸aZ) j j (by decide) j j j (m:=1) (news:=rcc r (.slice s r.x.length bH)) j aP (by intro u hu;simp at hu;rcases hu with rfl|rfl|rfl|rfl|rfl<;>rfl) (by omega) (by unfold maxLen;omega) (λv2 T w aJ a=>?_)
   have a5:v2.oneCell'=true:=Row.one aJ
   have a9:mL v2 (l.c0++[r]) (T++(H1++M)):=by
    refine⟨T,H1++M,us++[(.slice s r.x.length bH)],j,?_,aC.app (ka.one aG)⟩
    rw [ca,List.length_singleton]
    have e:sD (us++[(.slice s r.x.length bH)]) (l.c0++[r])=sD us l.c0++rcc r (.slice s r.x.length bH):=by
     rw [GA,List.zip_append aC.len,List.flatMap_append]
     simp
    rw [e]
    exact aJ
   have a:C o d ([R f (rcc r (.slice s r.x.length bH)).toArray 169,dE bc dn,n,[(az,g)]]++_) w:=a.front
   refine an ⟨⟨_,a⟩,?_⟩
   refine af 8 2 j (dy 10 j (cC (a.bf bc) j j j a5 bR (λw a=>?_)))
   have a:C o d (dE bc {dn with c0:=v2}::_) w:=a
   refine an (cX (ao 5 j j ?_))
   have q:l.append r=({l with cl:=H,c0:=l.c0++[r]},(l.c0.length:Int),0):=by
    unfold dP.append
    rw [aF (by rw [J];decide)]
    rw [L]
    dsimp only
    rw [aF (bw K),aF (bw N)]
    rw [I]
    dsimp only
    rw [aF (by simpa using al),aH]
   rw [q]
   have a:C o d [dE bc {dn with c0:=v2},T,H1,M,n,[(az,g)]] w:=a.as
   exact⟨j,_,⟨{dn with c0:=v2},T++(H1++M),n,[(az,g)],⟨a9,aR,⟨az,g,aA.trans aK,j,aQ⟩⟩,j⟩,C.iX (C.perm (A:=[dE bc {dn with c0:=v2},T,H1,M,n,[(az,g)]]) a (by simp))⟩
 have F:=wC (bc:=bc) (c:=c) (r:=r) (B:=B) (aU:=aU) (C.aj (b:=bc) a) D.c0 (a.holds (G:=ak) (by simp))
 refine bm 0 F j (λz w⟨v,y⟩=>?_)
 obtain⟨i,v,V⟩:=v.resolve_right (λh=>by rw [I] at h;cases h.2)
 rw [I] at V
 cases V
 obtain⟨Q,_,_⟩:=pN.1 I
 subst v
 have a:=a.aN y
 have a:C o d [R f (rcc r (.slice B r.x.length aU)).toArray 169,dE bc c,ak,S,[(az,g)]] w:=a.as
 refine md 5 j j ((jb (Int.natCast_nonneg ax))) ?_
 have a:C o d ([R f (rcc r (.slice B r.x.length aU)).toArray 169,dE bc c,ak,S,[(az,g)]]++_) _:=a.front
 obtain⟨bj,go,bg,dQ,rfl,bk,bl,aq⟩:=a0 ax Q
 have a:=a.drew
 refine bz 2 j (λw=>∃ae,C o d ([R f (rcc r (.slice B r.x.length aU)).toArray 169,dE bc c,ak,S,[(az,g)]]++ae) w) ⟨_,a⟩ (af 0 3 j (be 3 j a7 (aL some W) (af 4 1 j (aV 5 j (λw _=>gI j j Q) (af 6 1 j (bT 7 j (λw⟨_,a⟩=>(aq _ (a.holds (G:=ak) (by simp))).2 2 _ (by decide) j) (af 8 1 j (be 9 j a7 j (af 10 2 j (ef 57 j (λX=>?_) (λX=>?_)))))))))))
 .refine af 12 13 j (bO (ao 5 j j ?_))
  have q:l.append r=(l,0,1):=by
   unfold dP.append
   rw [aF (by rw [J];decide)]
   rw [L]
   dsimp only
   rw [aF (bw K),aF (bw N)]
   rw [I]
   dsimp only
   rw [mZ Q]
   refine a6 ?_
   first|exact .inl (by simpa using X)|exact .inr (by simpa using Y)
  rw [q]
  have a:C o d [dE bc c,ak,S,[(az,g)]] _:=a.as
  exact⟨j,_,O,a.iX⟩
 refine af 12 3 j (be 15 j a7 (aL some W) (af 16 1 j (aV 17 j (λw _=>gI j j Q) (af 18 1 j (bT 19 j (λw⟨_,a⟩=>(aq _ (a.holds (G:=ak) (by simp))).2 4 _ (by decide) j) (af 20 1 j (be 21 j a7 j (aW 22 j (bF j j j (qa (aq _ (a.holds (G:=ak) (by simp))).1 (a.rd aX ap)) (λw hw=>?_))))))))))
 subst hw
 refine an ⟨⟨_,a⟩,?_⟩
 refine af 23 2 j (bO (aT 0 j j (λY=>?_) (λY=>?_)))
 refine ao 4 j j ?_
 have q:l.append r=(l,0,1):=by
  unfold dP.append
  rw [aF (by rw [J];decide)]
  rw [L]
  dsimp only
  rw [aF (bw K),aF (bw N)]
  rw [I]
  dsimp only
  rw [mZ Q]
  refine a6 ?_
  first|exact .inl (by simpa using X)|exact .inr (by simpa using Y)
 rotate_left
 refine ao 6 j j ?_
 have q:l.append r=(l,(ax:Int),0):=by
  unfold dP.append
  rw [aF (by rw [J];decide)]
  rw [L]
  dsimp only
  rw [aF (bw K),aF (bw N)]
  rw [I]
  dsimp only
  rw [mZ Q]
  refine aF (λh=>?_)
  rcases h with h|h
  .exact h (by simpa using X)
  .exact h (by simpa using Y)
 rotate_left
 all_goals
  rw [q]
  have a:C o d [dE bc c,ak,S,[(az,g)]] _:=a.as
  exact⟨j,_,O,a.iX⟩
def bI.jz(e:bI)(n:Int):bI×Int:=match a2 e.parts n with
 |none=>(e,6)
 |some q=>if q.out.isNone=true then(e,6) else({e with parts:=cj e.parts n {q with out:=none}},0)
def bI.waits(e:bI):Bool:=e.parts.any λp=>p.2.out.isSome
def bI.end_(e:bI)(c:Bool):bI×bG×Int:=
 if e.df=false\/e.waits=true then(e,c9,6)
 else if 1048576<e.next then(e,c9,7)
 else({e with next:=e.next+1,df:=false},⟨3,e.number,e.next,[],e.prod,e.b6,e.last,0,c⟩,0)
def bI.fX(e:bI):Int:=if e.df=true then e.last else e.last+1
def bI.gB(e:bI)(n:Int):bI×bG×Int:=
 if e.known=false then(e,c9,6)
 else match a2 e.parts n with
  |none=>(e,c9,1)
  |some q=>if e.df=false/\100<=e.last then(e,c9,7)
   else if 1048576<e.next then(e,c9,7)
   else({e with next:=e.next+1,last:=e.fX,df:=true,parts:=cj e.parts n {q with begun:=e.fX}},⟨2,e.number,e.next,[],e.prod,e.b6,e.fX,n,false⟩,0)
theorem zq(l:List (Int×hg))(n:Int):a2 l n=none\/(∃q,a2 l n=some q/\q.out=none)\/∃q r,a2 l n=some q/\q.out=some r:=by
 cases b:a2 l n with
 |none=>exact .inl j
 |some q=>
  cases a:q.out with
  |none=>exact .inr (.inl ⟨q,j,a⟩)
  |some r=>exact .inr (.inr ⟨q,r,j,a⟩)
theorem BJ{o:World}{az:Nat}{e:bI}{G:List Chunk}{n:Int}(O:hU az e G)(a:Own [G] o):Calls prog 67 #[Z az,ab n] o (aS λr w=>r=ab (e.jz n).2/\∃ah,hU az (e.jz n).1 ah/\C o (av [G]) [ah] w):=by
 obtain⟨u,bQ,J,rfl⟩:=O
 have K:hU az e (bD az e u++bQ):=⟨u,bQ,J,j⟩
 obtain⟨d,F⟩:∃d,d=av [bD az e u++bQ]:=⟨_,j⟩
 rw [<-F]
 have a:C o d [bD az e u++bQ] o:=F▸a
 obtain⟨c,ag,I,Q,H,rfl,hm,E,rfl⟩:=J
 have a:C o d [bD az e (Z c),ay 236 c ag I,H] o:=C.perm (B:=[bD az e (Z c),ay 236 c ag I,H]) a (by simp)
 refine a1 [Z az,ab n] func67 ntmps67 results67 (au 15 j (aw (C.aj (b:=az) a) j) (ar 1 j ?_))
 rcases zq e.parts n with g|⟨q,g,y⟩|⟨q,ro,g,y⟩
 .have m:=m7 (k:=n) (dG.own (a.to (ay 236 c ag I)) hm)
  refine bm 0 m j (λr w⟨h,v⟩=>?_)
  have a:=a.aN v
  have P:=E.ng g
  simp only [P,rg,rh] at h
  subst h
  have a:C o d [bD az e (Z c),ay 236 c ag I,H] w:=a.as
  refine ar 11 j (b2 20 (.bool true) j (aL Value.bool (j)) ?_)
  refine ao 10 j j ?_
  have l:e.jz n=(e,6):=by unfold bI.jz;rw [g]
  rw [l]
  have a:C o d [bD az e (Z c),ay 236 c ag I,H] w:=a.as
  exact⟨j,_,K,C.perm (A:=[bD az e (Z c),ay 236 c ag I,H]) a (by simp)⟩
 .have m:=m7 (k:=n) (dG.own (a.to (ay 236 c ag I)) hm)
  refine bm 0 m j (λr w⟨h,v⟩=>?_)
  have a:=a.aN v
  obtain⟨v0,H1,N,f,D,rfl,⟨aK,pu,z,rfl,i,rfl⟩,L⟩:=E.find g
  simp only [D,l1,oc] at h
  subst h
  obtain⟨rfl,rfl⟩:pu= .pointer none/\z=[]:=by unfold mK at i;rw [y] at i;exact i
  have a:C o d [bD az e (Z c),ay 236 c ag I,H1,dV aK q (.pointer none),[],f] w:=C.perm (A:=[bD az e (Z c),ay 236 c ag I,H1++((dV aK q (.pointer none)++([]))++f)]) a.as (by simp)
  refine ar 11 j (b2 20 (.bool false) j (aL Value.bool (j)) ?_)
  refine au 3 j (aw (C.aj (b:=aK) a) j) (ao 6 j j ?_)
  have l:e.jz n=(e,6):=by unfold bI.jz;rw [g];exact if_pos (by rw [y];rfl)
  rw [l]
  have a:C o d [bD az e (Z c),ay 236 c ag I,H1,dV aK q (.pointer none),[],f] w:=a.as
  exact⟨j,_,K,C.perm (A:=[bD az e (Z c),ay 236 c ag I,H1,dV aK q (.pointer none),[],f]) a (by simp)⟩
 have m:=m7 (k:=n) (dG.own (a.to (ay 236 c ag I)) hm)
 refine bm 0 m j (λr w⟨h,v⟩=>?_)
 have a:=a.aN v
 obtain⟨v0,H1,N,f,D,rfl,⟨aK,pu,z,rfl,i,rfl⟩,L⟩:=E.find g
 simp only [D,l1,oc] at h
 subst h
 obtain⟨b1,M,ah,rfl,S,rfl⟩:∃b u ah,pu=Z b/\dN u ro.x ah/\z=R b #[ab ro.p,ab ro.e,ab ro.t,ab ro.s,u] 169++ah:=by unfold mK at i;rw [y] at i;exact i
 have a:C o d [bD az e (Z c),ay 236 c ag I,H1,dV aK q (Z b1),R b1 #[ab ro.p,ab ro.e,ab ro.t,ab ro.s,M] 169++ah,f] w:=C.perm (A:=[bD az e (Z c),ay 236 c ag I,H1++((dV aK q (Z b1)++(R b1 #[ab ro.p,ab ro.e,ab ro.t,ab ro.s,M] 169++ah))++f)]) a.as (by simp)
 refine ar 11 j (b2 20 (.bool false) j (aL Value.bool (j)) ?_)
 refine au 3 j (aw (C.aj (b:=aK) a) j) (dD 9 (a.bf aK) j j j j (λw a=>?_))
 have a:C o d (dV aK ({q with out:=none}) (.pointer none)::_) w:=a
 refine ao 3 j j ?_
 have l:e.jz n=({e with parts:=cj e.parts n ({q with out:=none})},0):=by unfold bI.jz;rw [g];exact if_neg (by rw [y];simp)
 rw [l]
 have a:C o d [bD az e (Z c),ay 236 c ag I,H1,dV aK ({q with out:=none}) (.pointer none),[],f] w:=a.empty.as
 exact⟨j,_,⟨_,_,⟨c,ag,I,Q,_,j,hm,L _ _ ⟨aK,.pointer none,[],j,⟨j,j⟩,j⟩,j⟩,j⟩,C.perm (A:=[bD az e (Z c),ay 236 c ag I,H1,dV aK ({q with out:=none}) (.pointer none),[],f]) a (by simp)⟩
theorem mK.ptr{v:Value}{r:Option ec}{G:List Chunk}(h:mK v r G):∃p,v= .pointer p/\p.isSome=r.isSome:=by
 unfold mK at h
 cases r with
 |none=>exact⟨none,h.1,j⟩
 |some r=>obtain⟨b,u,ah,a,_⟩:=h;exact⟨_,a,j⟩
theorem wL{α:Type}(l:List (Int×α))(p:Int×α->Bool):(db l).any p=l.any p:=by
 rw [mX,kf,kf]
 exact⟨λ⟨x,a,b⟩=>⟨x,gS.1 a,b⟩,λ⟨x,a,b⟩=>⟨x,gS.2 a,b⟩⟩
theorem BZ{α:Type}{l t1 t2:List (Int×α)}{q:Int×α}{p:Int×α->Bool}(h:db l=t1++q::t2)(a:p q=true):l.any p=true:=by
 rw [<-wL,h];simp [a]
theorem bI.sn(e:bI)(I:bG):(e.op I).1.prod=e.prod/\(e.op I).1.b6=e.b6/\(e.op I).1.last=e.last/\(e.op I).1.df=e.df/\(e.op I).1.parts=e.parts:=by
 unfold bI.op
 split<;>exact⟨j,j,j,j,j⟩
theorem H8{o:World}{az f ag:Nat}{e:bI}{I:Obj}{m:List (Int×Value)}{H:List Chunk}(Q:o.heap[az]? =some (.cells (uo e (Z f)).toArray 157 (0,0)))(hm:cf bu I m)(s:c6 nw m e.parts H)(k:Holds o (ay 236 f ag I++H))(af:e.parts.length<=1000000):Calls prog 68 #[Z az] o (aS λr w=>r= .bool e.waits/\C o [] [] w):=by
 have c:Own [] o:=C.start o
 obtain⟨a,u⟩:∃a:Option Addr,a=some ⟨f,0,none⟩:=⟨_,j⟩
 have N:dG 236 o a m:=.inr ⟨f,ag,I,u,k (f,_) (by simp),k (ag,I) (by simp),hm⟩
 refine iq [Z az] (fn:=f68) func68 ntmps68 (cn 2 c j (λaJ w c=>?_))
 have c:C o [] [R aJ #[.bool false] 4] w:=c
 refine au 6 j (aw (c.cd Q) (aL (λz=>some (Value.pointer z)) u.symm)) ?_
 have S:=BU (o:=w) (p:=a)
 refine bm 0 S j (λr w⟨B,D,U,ad⟩=>?_)
 subst U
 have M:=(N.st c).st ad
 have c:=c.aN ad
 have c:C o [] ([R B #[.pointer a] 155,[(D,.cells #[.func (.func 180) #[] #[]] 36 (0,0))]]++[R aJ #[.bool false] 4]) w:=c
 refine jY 1 j (Gt (by have ac:=s.len;omega)) j (by have:=c.size;simpa using this) c j (λ_=>rfl) (by intro p v;simp at v;rcases v with rfl|rfl<;>rfl)
  (λpre ae=>ae=[R aJ #[.bool false] 4]/\((db e.parts).take pre.length).any (λp:Int×hg=>p.2.out.isSome)=false) (λi ae=>match i with| .ret=>e.waits=true/\ae=[R aJ #[.bool true] 4]|_=>False) ⟨j,j⟩ (λL aI G=>M.st G) (λ_ _ _ _=>trivial) ?_ ?_ ?_ (λ_ _ _ h=>h.elim)
 .rintro y pre ⟨ah,ai⟩ aa L ak F ⟨rfl,d⟩ c
  obtain⟨t1,t2,t,X,ab,Y,l,A,T,O⟩:=s.n0 F
  obtain⟨aK,pu,W,rfl,J,rfl⟩:=O
  obtain⟨pp,rfl,x⟩:=J.ptr
  have n:o.heap[aK]? =some (.cells (vz t (.pointer pp)).toArray 167 (0,0)):=((k.right.perm T).right.left) (aK,_) (by simp)
  have c:=C.gs c
  refine bJ 2 j (⟨j,_,c,λL al c=>?_⟩)
  have n:=c.cd n
  have c:=C.gs c
  refine au 6 j (aw n j) (aT 1 j j (λg=>?_) (λg=>?_))
  .refine dD 2 (c.bf aJ) j j j j (λw c=>?_)
   have c:C _ _ (R aJ #[.bool true] 4::_) w:=c
   refine bJ 0 j ?_
   exact⟨[R aJ #[.bool true] 4],c.as,BZ l (show t.out.isSome=true by rw [<-x];simpa using g),j⟩
  refine bJ 1 j (⟨[R aJ #[.bool false] 4],c.as,j,?_⟩)
  rw [ca,List.length_singleton,l,<-A]
  rw [l,<-A,l2] at d
  rw [pH,List.take_of_length_le (by omega)]
  have i:t.out.isSome=false:=by rw [<-x];simpa using g
  simp [d,i]
 .rintro xs E w K ⟨rfl,d⟩ c
  have c:C o [] ([R B #[.pointer a] 155,[(D,.cells #[.func (.func 180) #[] #[]] 36 (0,0))]]++[R aJ #[.bool false] 4]) w:=c
  refine dD 2 (c.bf aJ) j j j j (λw c=>?_)
  have c:C _ _ (R aJ #[.bool false] 4::_) w:=c
  refine bJ 0 j ⟨.bool false,λw q=>?_⟩
  have c:=q.st c (cB _)
  refine⟨sG results68 j j (aw (C.aj (b:=aJ) c) j),?_⟩
  rw [K,iv,s.len,il (by rw [hM];exact cB _),wL] at d
  exact⟨aL Value.bool d.symm,c.bare⟩
 rintro E w P c
 obtain⟨V,rfl⟩:=P
 refine⟨.bool true,λw q=>?_⟩
 have c:=q.st c (cB _)
 refine⟨sG results68 j j (aw (C.aj (b:=aJ) c) j),?_⟩
 exact⟨by rw [V],c.bare⟩
theorem Dw{o:World}{az:Nat}{e:bI}{G:List Chunk}{dQ:Bool}(O:hU az e G)(aP:0<=e.next)(Q:e.parts.length<=1000000)(a:Own [G] o):Calls prog 36 #[Z az,.bool dQ] o (aS λr w=>r= .tuple #[.agg (e.end_ dQ).2.1.cs.toArray,ab (e.end_ dQ).2.2]/\∃ah,hU az (e.end_ dQ).1 ah/\C o (av [G]) [ah] w):=by
 obtain⟨u,bQ,F,rfl⟩:=O
 have J:hU az e (bD az e u++bQ):=⟨u,bQ,F,j⟩
 obtain⟨f,E⟩:∃f,f=av [bD az e u++bQ]:=⟨_,j⟩
 rw [<-E]
 have a:C o f [bD az e u++bQ] o:=E▸a
 obtain⟨d,ag,I,L,H,rfl,hm,K,rfl⟩:=F
 have a:C o f [bD az e (Z d),ay 236 d ag I,H] o:=C.perm (B:=[bD az e (Z d),ay 236 d ag I,H]) a (by simp)
 refine e7 [Z az,.bool dQ] (fn:=f36) func36 ntmps36 (cn 2 a j (λm w a=>?_))
 have a:C o f [bE m c9,bD az e (Z d),ay 236 d ag I,H] w:=a
 refine au 14 j (aw (C.aj (b:=az) a) j) (ar 2 j (c7 18 j (λy=>?_) (λy=>?_)))
 .refine ar 7 j (cO (c:=c9.cs.toArray) j j j (λ_=>by kernel_rfl) ?_)
  refine cp 0 (a.bf m) j j j j j (λw a=>?_)
  have a:=C.whole (U:=(c9:bG).cs) a j
  have a:C o f (bE m c9::_) w:=a
  refine bJ 1 j ⟨_,dp results36 j j j j (bq (C.aj (b:=m) a)),?_⟩
  have he:e.end_ dQ=(e,c9,6):=a6 (.inl (by simpa using y))
  rw [he]
  have a:C o f [bD az e (Z d),ay 236 d ag I,H] w:=a.as
  exact⟨j,_,J,C.perm (A:=[bD az e (Z d),ay 236 d ag I,H]) a (by simp)⟩
 have q:=H8 (az:=az) (e:=e) (C.aj (b:=az) a) hm K (λc P=>(dA.1 P).elim (a.holds (G:=ay 236 d ag I) (by simp) c) (a.holds (G:=H) (by simp) c)) Q
 refine bp 1 q j (λw t=>?_)
 have a:=a.aN t
 refine aT 2 j j (λx=>?_) (λx=>?_)
 .refine ar 2 j (cO (c:=c9.cs.toArray) j j j (λ_=>by kernel_rfl) ?_)
  refine cp 0 (a.bf m) j j j j j (λw a=>?_)
  have a:=C.whole (U:=(c9:bG).cs) a j
  have a:C o f (bE m c9::_) w:=a
  refine bJ 1 j ⟨_,dp results36 j j j j (bq (C.aj (b:=m) a)),?_⟩
  have he:e.end_ dQ=(e,c9,6):=a6 (.inr (by first|exact x|exact M))
  rw [he]
  have a:C o f [bD az e (Z d),ay 236 d ag I,H] w:=a.as
  exact⟨j,_,J,C.perm (A:=[bD az e (Z d),ay 236 d ag I,H]) a (by simp)⟩
 have i:e.prod=e.prod/\e.b6=e.b6/\e.last=e.last:=⟨j,j,j⟩
 have a:C o f ([bD az e (Z d)]++_) _:=a.front
 have a:=a.drew
 have D:e.df=true:=by simpa using y
 have R:e.waits=false:=by first|exact x|exact M
 refine bz 2 j (λw=>∃v ae,(v.prod=e.prod/\v.b6=e.b6/\v.last=e.last)/\C o f ([bD az v (Z d)]++ae) w) ⟨_,_,i,a⟩ ?_
 refine af 0 4 j (bT 4 j (λw⟨_,_,i,a⟩=>aw (C.aj (b:=az) a) (aL (λz=>some (ab z)) i.1)) (af 5 3 j (bT 8 j (λw⟨_,_,i,a⟩=>aw (C.aj (b:=az) a) (aL (λz=>some (ab z)) i.2.1)) (af 9 3 j (bT 12 j (λw⟨_,_,i,a⟩=>aw (C.aj (b:=az) a) (aL (λz=>some (ab z)) i.2.2)) (af 13 1 j (aV 14 j (λw _=>e0 (c:=(⟨3,0,0,[],e.prod,e.b6,e.last,0,dQ⟩:bG).cs.toArray) j (λ_=>by kernel_rfl)) (aJ 15 19 j j ?_ ?_))))))))
 have k:=bI.sn e (⟨3,0,0,[],e.prod,e.b6,e.last,0,dQ⟩:bG)
 obtain⟨g,l,p,n⟩:∃g l p,e.op (⟨3,0,0,[],e.prod,e.b6,e.last,0,dQ⟩:bG)=(g,l,p):=⟨_,_,_,j⟩
 rw [n] at k
 have q:=qt (az:=az) (e:=e) (u:=(Z d)) (I:=(⟨3,0,0,[],e.prod,e.b6,e.last,0,dQ⟩:bG)) aP a.ours
 rw [n] at q
 refine bF j j j q (λw t=>?_)
 have a:=a.b4 t
 have i:g.prod=e.prod/\g.b6=e.b6/\g.last=e.last:=⟨k.1,k.2.1,k.2.2.1⟩
 have a:C o f ([bD az g (Z d)]++_) w:=a.front
 refine an ⟨⟨_,_,i,a⟩,?_⟩
 refine af 16 3 j (aW 19 j (en a j j (λs w a=>?_)))
 have a:C o f (bE s c9::_) w:=a
 have a:C o f ([bD az g (Z d)]++_) w:=a.front
 refine an ⟨⟨_,_,i,a⟩,?_⟩
 rotate_left
 refine en a j j (λs w a=>?_)
 have a:C o f (bE s c9::_) w:=a
 have a:C o f ([bD az e (Z d)]++_) w:=a.front
 refine an ⟨⟨_,_,i,a⟩,?_⟩
 refine aW 15 j ?_
 have k:=bI.sn e (⟨3,0,0,[],e.prod,e.b6,e.last,0,dQ⟩:bG)
 obtain⟨g,l,p,n⟩:∃g l p,e.op (⟨3,0,0,[],e.prod,e.b6,e.last,0,dQ⟩:bG)=(g,l,p):=⟨_,_,_,j⟩
 rw [n] at k
 have q:=qt (az:=az) (e:=e) (u:=(Z d)) (I:=(⟨3,0,0,[],e.prod,e.b6,e.last,0,dQ⟩:bG)) aP a.ours
 rw [n] at q
 refine bF j j j q (λw t=>?_)
 have a:=a.b4 t
 have i:g.prod=e.prod/\g.b6=e.b6/\g.last=e.last:=⟨k.1,k.2.1,k.2.2.1⟩
 have a:C o f ([bD az g (Z d)]++_) w:=a.front
 refine an ⟨⟨_,_,i,a⟩,?_⟩
 refine af 16 3 j ?_
 rotate_left
 all_goals
  refine aW 20 j (c5 (a.bf s) j j j j j bR (λw a=>?_))
  have a:=C.whole (U:=l.cs) a j
  have a:C o f (bE s l::_) w:=a
  have a:C o f ([bD az g (Z d)]++_) w:=a.front
  refine an ⟨⟨_,_,i,a⟩,?_⟩
  refine af 21 1 j (bO (au 6 j (aw (C.aj (b:=az) a) j) (ar 1 j (b2 47 (.bool true) j (aL Value.bool ((k.2.2.2.1.trans D))) ?_))))
  refine dD 5 (a.bf az) j j j j (λw a=>?_)
  have a:C o f (bD az {g with df:=(p !=0)} (Z d)::_) w:=a
  refine bS 2 (U:=l.cs) j j j (bq (C.aj (b:=s) a)) (cp 1 (a.bf m) j j j j j (λw a=>?_))
  have a:=C.whole (U:=l.cs) a j
  have a:C o f (bE m l::_) w:=a
  refine bJ 1 j ⟨_,dp results36 j j j j (bq (C.aj (b:=m) a)),?_⟩
  have he:e.end_ dQ=({g with df:=(p !=0)},l,p):=by
   unfold bI.end_
   rw [aF (by rw [D,R];decide)]
   unfold bI.op at n
   split
   .rename_i h;rw [a6 h] at n;cases n;have N:((7:Int) !=0)=true:=by decide
    rw [N,<-D]
   .rename_i h;rw [aF h] at n;cases n;rfl
  rw [he]
  have a:C o f [bD az {g with df:=(p !=0)} (Z d),ay 236 d ag I,H] w:=a.as
  exact⟨j,_,⟨_,_,⟨d,ag,I,L,H,j,hm,show c6 nw L g.parts H from k.2.2.2.2.symm▸K,j⟩,j⟩,C.perm (A:=[bD az {g with df:=(p !=0)} (Z d),ay 236 d ag I,H]) a (by simp)⟩
theorem Cr{o:World}{az:Nat}{e:bI}{G:List Chunk}{n:Int}(ai:hU az e G)(aP:0<=e.next)(aq:0<=e.last)(a:Own [G] o):Calls prog 34 #[Z az,ab n] o (aS λr w=>r= .tuple #[.agg (e.gB n).2.1.cs.toArray,ab (e.gB n).2.2]/\∃ah,hU az (e.gB n).1 ah/\C o (av [G]) [ah] w):=by
 obtain⟨u,bQ,aa,rfl⟩:=ai
 have S:hU az e (bD az e u++bQ):=⟨u,bQ,aa,j⟩
 obtain⟨f,Y⟩:∃f,f=av [bD az e u++bQ]:=⟨_,j⟩
 rw [<-Y]
 have a:C o f [bD az e u++bQ] o:=Y▸a
 obtain⟨d,ag,I,W,H,rfl,hm,T,rfl⟩:=aa
 have a:C o f [bD az e (Z d),ay 236 d ag I,H] o:=C.perm (B:=[bD az e (Z d),ay 236 d ag I,H]) a (by simp)
 have ac:=T
 refine e7 [Z az,ab n] (fn:=f34) func34 ntmps34 (cn 2 a j (λi w a=>?_))
 have a:C o f [bE i c9,bD az e (Z d),ay 236 d ag I,H] w:=a
 refine au 13 j (aw (C.aj (b:=az) a) j) (ar 1 j ?_)
 rcases L:a2 e.parts n with _|q
 .have E:=m7 (k:=n) (dG.own (a.to (ay 236 d ag I)) hm)
  refine bm 0 E j (λr w⟨M,K⟩=>?_)
  have a:=a.aN K
  have al:=T.ng L
  simp only [al,rg,rh] at M
  subst M
  have a:C o f [bE i c9,bD az e (Z d),ay 236 d ag I,H] w:=a.as
  refine au 12 j (aw (C.aj (b:=az) a) j) (aT 2 j j (λy=>?_) (λy=>?_))
  refine ar 2 j (cO (c:=c9.cs.toArray) j j j (λ_=>by kernel_rfl) ?_)
  refine cp 0 (a.bf i) j j j j j (λw a=>?_)
  have a:=C.whole (U:=(c9:bG).cs) a j
  have a:C o f (bE i c9::_) w:=a
  refine bJ 1 j ⟨_,dp results34 j j j j (bq (C.aj (b:=i) a)),?_⟩
  have v:e.gB n=(e,c9,6):=a6 (by simpa using y)
  rotate_left
  refine ar 8 j (cO (c:=c9.cs.toArray) j j j (λ_=>by kernel_rfl) ?_)
  refine cp 0 (a.bf i) j j j j j (λw a=>?_)
  have a:=C.whole (U:=(c9:bG).cs) a j
  have a:C o f (bE i c9::_) w:=a
  refine bJ 1 j ⟨_,dp results34 j j j j (bq (C.aj (b:=i) a)),?_⟩
  have v:e.gB n=(e,c9,1):=by
   unfold bI.gB
   rw [aF (by rw [show e.known=true from by simpa using y];decide),L]
  rotate_left
  all_goals
   rw [v]
   have a:C o f [bD az e (Z d),ay 236 d ag I,H] w:=a.as
   exact⟨j,_,S,C.perm (A:=[bD az e (Z d),ay 236 d ag I,H]) a (by simp)⟩
 have E:=m7 (k:=n) (dG.own (a.to (ay 236 d ag I)) hm)
 refine bm 0 E j (λr w⟨M,K⟩=>?_)
 have a:=a.aN K
 obtain⟨v0,H1,ao,t,ak,rfl,⟨aK,pu,s,rfl,ad,rfl⟩,am⟩:=T.find L
 simp only [ak,l1,oc] at M
 subst M
 have a:C o f [bE i c9,bD az e (Z d),ay 236 d ag I,H1,dV aK q pu,s,t] w:=C.perm (A:=[bE i c9,bD az e (Z d),ay 236 d ag I,H1++((dV aK q pu++s)++t)]) a.as (by simp)
 refine au 12 j (aw (C.aj (b:=az) a) j) (aT 2 j j (λy=>?_) (λy=>?_))
 .refine ar 2 j (cO (c:=c9.cs.toArray) j j j (λ_=>by kernel_rfl) ?_)
  refine cp 0 (a.bf i) j j j j j (λw a=>?_)
  have a:=C.whole (U:=(c9:bG).cs) a j
  have a:C o f (bE i c9::_) w:=a
  refine bJ 1 j ⟨_,dp results34 j j j j (bq (C.aj (b:=i) a)),?_⟩
  have v:e.gB n=(e,c9,6):=a6 (by simpa using y)
  rw [v]
  have a:C o f [bD az e (Z d),ay 236 d ag I,H1,dV aK q pu,s,t] w:=a.as
  exact⟨j,_,S,C.perm (A:=[bD az e (Z d),ay 236 d ag I,H1,dV aK q pu,s,t]) a (by simp)⟩
 refine au 11 j (aw (C.aj (b:=az) a) j) (ar 2 j (c7 40 j (λO=>?_) (λO=>?_)))
 refine au 3 j (aw (C.aj (b:=az) a) j) (aT 3 j j (λN=>?_) (λN=>?_))
 .refine ar 2 j (cO (c:=c9.cs.toArray) j j j (λ_=>by kernel_rfl) ?_)
  refine cp 0 (a.bf i) j j j j j (λw a=>?_)
  have a:=C.whole (U:=(c9:bG).cs) a j
  have a:C o f (bE i c9::_) w:=a
  refine bJ 1 j ⟨_,dp results34 j j j j (bq (C.aj (b:=i) a)),?_⟩
  have v:e.gB n=(e,c9,7):=by
   unfold bI.gB
   rw [aF (by rw [show e.known=true from by simpa using y];decide),L]
   exact a6 ⟨by simpa using O,by first|(have:=of_decide_eq_true N;omega)|(have:=of_decide_eq_true X;omega)⟩
  rw [v]
  have a:C o f [bD az e (Z d),ay 236 d ag I,H1,dV aK q pu,s,t] w:=a.as
  exact⟨j,_,S,C.perm (A:=[bD az e (Z d),ay 236 d ag I,H1,dV aK q pu,s,t]) a (by simp)⟩
 have Q:e.df=false->e.last<100:=λbx=>by
  first|(exact absurd bx (by rw [show e.df=true from by simpa using O];decide))|(have:=of_decide_eq_false N;omega)|(have:=of_decide_eq_false X;omega)
 refine au 6 j (aw (C.aj (b:=az) a) j) ?_
 rotate_left
 have Q:e.df=false->e.last<100:=λbx=>by
  first|(exact absurd bx (by rw [show e.df=true from by simpa using O];decide))|(have:=of_decide_eq_false N;omega)|(have:=of_decide_eq_false X;omega)
 refine au 14 j (aw (C.aj (b:=az) a) j) ?_
 rotate_left
 all_goals
  refine au 7 j (aw (C.aj (b:=az) a) j) (aT 1 j j (λP=>?_) (λP=>?_))
  have ap:e.last<100:=Q (by simpa using P)
  refine bt 2 j j j (qb (by omega) (by omega)) ?_
  have p:e.prod=e.prod/\e.b6=e.b6/\e.last=e.last:=⟨j,j,j⟩
  have a:C o f ([bD az e (Z d)]++_) _:=a.front
  have a:=a.drew
  refine bz 2 j (λw=>∃D ae,(D.prod=e.prod/\D.b6=e.b6/\D.last=e.last)/\C o f ([bD az D (Z d)]++ae) w) ⟨_,_,p,a⟩ (iT 8 (ab e.fX) j (aL ab (show e.last+1=e.fX by unfold bI.fX;rw [if_neg (by rw [show e.df=false from by simpa using P];decide)])) ?_)
  rotate_left
  have p:e.prod=e.prod/\e.b6=e.b6/\e.last=e.last:=⟨j,j,j⟩
  have a:C o f ([bD az e (Z d)]++_) _:=a.front
  have a:=a.drew
  refine bz 2 j (λw=>∃D ae,(D.prod=e.prod/\D.b6=e.b6/\D.last=e.last)/\C o f ([bD az D (Z d)]++ae) w) ⟨_,_,p,a⟩ (iT 8 (ab e.fX) j (aL ab (show e.last=e.fX by unfold bI.fX;rw [if_pos (by simpa using P)])) ?_)
  rotate_left
  all_goals
   refine af 0 4 j (bT 4 j (λw⟨_,_,p,a⟩=>aw (C.aj (b:=az) a) (aL (λz=>some (ab z)) p.1)) (af 5 3 j (bT 8 j (λw⟨_,_,p,a⟩=>aw (C.aj (b:=az) a) (aL (λz=>some (ab z)) p.2.1)) (af 9 2 j (aV 11 j (λw _=>e0 (c:=(⟨2,0,0,[],e.prod,e.b6,e.fX,n,false⟩:bG).cs.toArray) j (λ_=>by kernel_rfl)) (aJ 12 16 j j ?_ ?_))))))
   have x:=bI.sn e (⟨2,0,0,[],e.prod,e.b6,e.fX,n,false⟩:bG)
   obtain⟨g,m,F,l⟩:∃g m F,e.op (⟨2,0,0,[],e.prod,e.b6,e.fX,n,false⟩:bG)=(g,m,F):=⟨_,_,_,j⟩
   rw [l] at x
   have E:=qt (az:=az) (e:=e) (u:=(Z d)) (I:=(⟨2,0,0,[],e.prod,e.b6,e.fX,n,false⟩:bG)) aP a.ours
   rw [l] at E
   refine bF j j j E (λw K=>?_)
   have a:=a.b4 K
   have p:g.prod=e.prod/\g.b6=e.b6/\g.last=e.last:=⟨x.1,x.2.1,x.2.2.1⟩
   have a:C o f ([bD az g (Z d)]++_) w:=a.front
   refine an ⟨⟨_,_,p,a⟩,?_⟩
   refine af 13 3 j (aW 16 j (en a j j (λJ w a=>?_)))
   have a:C o f (bE J c9::_) w:=a
   have a:C o f ([bD az g (Z d)]++_) w:=a.front
   refine an ⟨⟨_,_,p,a⟩,?_⟩
   rotate_left
   refine en a j j (λJ w a=>?_)
   have a:C o f (bE J c9::_) w:=a
   have a:C o f ([bD az e (Z d)]++_) w:=a.front
   refine an ⟨⟨_,_,p,a⟩,?_⟩
   refine aW 12 j ?_
   have x:=bI.sn e (⟨2,0,0,[],e.prod,e.b6,e.fX,n,false⟩:bG)
   obtain⟨g,m,F,l⟩:∃g m F,e.op (⟨2,0,0,[],e.prod,e.b6,e.fX,n,false⟩:bG)=(g,m,F):=⟨_,_,_,j⟩
   rw [l] at x
   have E:=qt (az:=az) (e:=e) (u:=(Z d)) (I:=(⟨2,0,0,[],e.prod,e.b6,e.fX,n,false⟩:bG)) aP a.ours
   rw [l] at E
   refine bF j j j E (λw K=>?_)
   have a:=a.b4 K
   have p:g.prod=e.prod/\g.b6=e.b6/\g.last=e.last:=⟨x.1,x.2.1,x.2.2.1⟩
   have a:C o f ([bD az g (Z d)]++_) w:=a.front
   refine an ⟨⟨_,_,p,a⟩,?_⟩
   refine af 13 3 j ?_
   rotate_left
   all_goals
    refine aW 17 j (c5 (a.bf J) j j j j j bR (λw a=>?_))
    have a:=C.whole (U:=m.cs) a j
    have a:C o f (bE J m::_) w:=a
    have a:C o f ([bD az g (Z d)]++_) w:=a.front
    refine an ⟨⟨_,_,p,a⟩,?_⟩
    refine af 18 1 j (bO (aT 5 j j (λR=>?_) (λR=>?_)))
    .refine dD 8 (a.bf az) j j j j (λw a=>?_)
     have a:C o f (bD az {g with last:=e.fX} (Z d)::_) w:=a
     refine dD 2 (a.bf az) j j j j (λw a=>?_)
     have a:C o f (bD az {g with last:=e.fX,df:=true} (Z d)::_) w:=a
     refine dD 2 (a.bf aK) j j j j (λw a=>?_)
     have a:C o f (dV aK ({q with begun:=e.fX}) pu::_) w:=a
     refine bS 2 (U:=m.cs) j j j (bq (C.aj (b:=J) a)) (cp 1 (a.bf i) j j j j j (λw a=>?_))
     have a:=C.whole (U:=m.cs) a j
     have a:C o f (bE i m::_) w:=a
     refine bJ 1 j ⟨_,dp results34 j j j j (bq (C.aj (b:=i) a)),?_⟩
     have V:F=0:=dX.1 R
     have v:e.gB n=({g with last:=e.fX,df:=true,parts:=cj e.parts n ({q with begun:=e.fX})},m,F):=by
      unfold bI.gB
      rw [aF (by rw [show e.known=true from by simpa using y];decide),L]
      dsimp only
      rw [aF (λh=>absurd h.2 (by have:=Q h.1;omega))]
      unfold bI.op at l
      split
      .rename_i h;rw [a6 h] at l;cases l;cases V
      .rename_i h;rw [aF h] at l;cases l;rfl
     rw [v]
     have a:C o f [bD az {g with last:=e.fX,df:=true} (Z d),ay 236 d ag I,H1,dV aK ({q with begun:=e.fX}) pu,s,t] w:=a.as
     exact⟨j,_,⟨_,_,⟨d,ag,I,W,_,j,hm,am ({q with begun:=e.fX}) _ ⟨aK,pu,s,j,ad,j⟩,j⟩,j⟩,C.perm (A:=[bD az {g with last:=e.fX,df:=true} (Z d),ay 236 d ag I,H1,dV aK ({q with begun:=e.fX}) pu,s,t]) a (by simp)⟩
    refine bS 3 (U:=m.cs) j j j (bq (C.aj (b:=J) a)) (cp 1 (a.bf i) j j j j j (λw a=>?_))
    have a:=C.whole (U:=m.cs) a j
    have a:C o f (bE i m::_) w:=a
    refine bJ 1 j ⟨_,dp results34 j j j j (bq (C.aj (b:=i) a)),?_⟩
    have V:F≠0:=by simpa using R
    have v:e.gB n=(g,m,F):=by
     unfold bI.gB
     rw [aF (by rw [show e.known=true from by simpa using y];decide),L]
     dsimp only
     rw [aF (λh=>absurd h.2 (by have:=Q h.1;omega))]
     unfold bI.op at l
     split
     .rename_i h;rw [a6 h] at l;cases l;rfl
     .rename_i h;rw [aF h] at l;cases l;exact absurd j V
    rw [v]
    have a:C o f [bD az g (Z d),ay 236 d ag I,H1,dV aK q pu,s,t] w:=a.as
    exact⟨j,_,⟨_,_,⟨d,ag,I,W,_,j,hm,show c6 nw W g.parts (H1++((dV aK q pu++s)++t)) from x.2.2.2.2.symm▸ac,j⟩,j⟩,C.perm (A:=[bD az g (Z d),ay 236 d ag I,H1,dV aK q pu,s,t]) a (by simp)⟩
def eR:ec:=⟨0,0,0,0,[]⟩
def bI.h9(e:bI)(q:hg)(x:List UInt8):ec:=⟨e.prod,e.b6,e.last,q.next,x⟩
def bI.record(e:bI)(n:Int)(x:List UInt8):bI×ec×Int:=match a2 e.parts n with
 |none=>(e,eR,6)
 |some q=>if e.df=false\/q.begun≠e.last then(e,eR,6)
  else match q.out with
   |some r=>(e,r,0)
   |none=>if 200<x.length then(e,eR,1) else if 1048576<q.next then(e,eR,7)
    else({e with parts:=cj e.parts n {q with next:=q.next+1,out:=some (e.h9 q x)}},e.h9 q x,0)
theorem xp{o:World}{r:ec}{B:Option Addr}{aU:Nat}(i:Rd o B (aE r.x))(h:r.x.length<=1000000000):Calls prog 124 #[.agg (rcc r (.slice B r.x.length aU)).toArray] o (aS λz w=>∃u G,z= .agg (rcc r u).toArray/\dN u r.x G/\C o [] [G] w):=by
 have a:Own [] o:=C.start o
 refine e7 [.agg (rcc r (.slice B r.x.length aU)).toArray] (fn:=f124) func124 ntmps124 (bP 2 a j j (λax w a=>cn 0 a j (λaJ w a=>?_)))
 have a:C o [] [R aJ (rcc eR (.slice none 0 0)).toArray 169,R ax (rcc r (.slice B r.x.length aU)).toArray 169] w:=a
 refine au 3 j (aw (C.aj (b:=ax) a) j) (bm 0 (gW (c:=aU) (a.rd i (bU.of_nil _ _)) h) j (λz w⟨f,e,g⟩=>?_))
 obtain⟨d,bH,rfl,_,_⟩:=e.form
 have a:=a.aN g
 refine dD 1 (a.bf ax) j j j j (λw a=>?_)
 have a:C o [] (R ax (rcc r (.slice d r.x.length bH)).toArray 169::_) w:=a
 refine bS 2 (U:=rcc r (.slice d r.x.length bH)) j j j (bq (C.aj (b:=ax) a)) (cp 0 (a.bf aJ) j j j j j (λw a=>?_))
 have a:=C.whole (U:=rcc r (.slice d r.x.length bH)) a j
 have a:C o [] (R aJ (rcc r (.slice d r.x.length bH)).toArray 169::_) w:=a
 refine bJ 0 j ⟨_,hb results124 j j j (a.bN),?_⟩
 exact⟨.slice d r.x.length bH,f,j,e,a.as⟩
theorem zJ{o:World}{az:Nat}{e:bI}{G:List Chunk}{n:Int}{x:List UInt8}{a8:Option Addr}{gV:Nat}(aH:hU az e G)(aB:∀p∈e.parts,0<=p.2.next/\∀r,p.2.out=some r->r.x.length<=200)(aD:Rd o a8 (aE x))(al:bU a8 (aE x) (av [G]))(a:Own [G] o):Calls prog 65 #[Z az,ab n,.slice a8 x.length gV] o (aS λz w=>∃u ap,z= .tuple #[.agg (rcc (e.record n x).2.1 u).toArray,ab (e.record n x).2.2]/\dN u (e.record n x).2.1.x ap/\∃ah,hU az (e.record n x).1 ah/\C o (av [G]) [ah,ap] w):=by
 obtain⟨u,bQ,ax,rfl⟩:=aH
 have J:hU az e (bD az e u++bQ):=⟨u,bQ,ax,j⟩
 obtain⟨f,aq⟩:∃f,f=av [bD az e u++bQ]:=⟨_,j⟩
 rw [<-aq] at al⊢
 have a:C o f [bD az e u++bQ] o:=aq▸a
 obtain⟨d,ag,I,aO,H,rfl,hm,ao,rfl⟩:=ax
 have a:C o f [bD az e (Z d),ay 236 d ag I,H] o:=C.perm (B:=[bD az e (Z d),ay 236 d ag I,H]) a (by simp)
 refine e7 [Z az,ab n,.slice a8 x.length gV] (fn:=f65) func65 ntmps65 (cn 2 a j (λg w a=>?_))
 have a:C o f [R g (rcc eR (.slice none 0 0)).toArray 169,bD az e (Z d),ay 236 d ag I,H] w:=a
 refine au 13 j (aw (C.aj (b:=az) a) j) (ar 1 j ?_)
 rcases zq e.parts n with m|⟨q,m,K⟩|⟨q,ro,m,K⟩
 .have Y:=m7 (k:=n) (dG.own (a.to (ay 236 d ag I)) hm)
  refine bm 0 Y j (λr w⟨D,y⟩=>?_)
  have a:=a.aN y
  have aI:=ao.ng m
  simp only [aI,rg,rh] at D
  subst D
  have a:C o f [R g (rcc eR (.slice none 0 0)).toArray 169,bD az e (Z d),ay 236 d ag I,H] w:=a.as
  have a:C o f ([bD az e (Z d)]++_) _:=a.front
  have a:=a.drew
  refine bz 8 j (λw=>∃ae,C o f ([bD az e (Z d)]++ae) w) ⟨_,a⟩ (af 0 21 j (bO (ar 3 j (cO (c:=(rcc eR (.slice none 0 0)).toArray) j j j (λ_=>by kernel_rfl) ?_))))
  refine cp 0 (a.bf g) j j j j j (λw a=>?_)
  have a:=C.whole (U:=rcc eR (.slice none 0 0)) a j
  have a:C o f (R g (rcc eR (.slice none 0 0)).toArray 169::_) w:=a
  refine bJ 1 j ⟨_,dp results65 j j j j (bq (C.aj (b:=g) a)),?_⟩
  have l:e.record n x=(e,eR,6):=by
   unfold bI.record
   rw [m]
   all_goals rfl
  rw [l]
  have a:C o f [bD az e (Z d),ay 236 d ag I,H,[]] _:=a.empty.as
  exact⟨.slice none 0 0,[],j,Row.nil _ _,_,J,C.perm (A:=[bD az e (Z d),ay 236 d ag I,H,[]]) a (by simp)⟩
 .have Y:=m7 (k:=n) (dG.own (a.to (ay 236 d ag I)) hm)
  refine bm 0 Y j (λr w⟨D,y⟩=>?_)
  have a:=a.aN y
  obtain⟨v0,H1,aG,i,am,rfl,⟨aK,pu,ad,rfl,P,rfl⟩,aC⟩:=ao.find m
  simp only [am,l1,oc] at D
  subst D
  obtain⟨rfl,rfl⟩:pu= .pointer none/\ad=[]:=by unfold mK at P;rw [K] at P;exact P
  have a:C o f [R g (rcc eR (.slice none 0 0)).toArray 169,bD az e (Z d),ay 236 d ag I,H1,dV aK q (.pointer none),[],i] w:=C.perm (A:=[R g (rcc eR (.slice none 0 0)).toArray 169,bD az e (Z d),ay 236 d ag I,H1++((dV aK q (.pointer none)++([]))++i)]) a.as (by simp)
  have a:C o f ([bD az e (Z d),dV aK q (.pointer none)]++_) _:=a.front
  have a:=a.drew
  refine bz 8 j (λw=>∃ae,C o f ([bD az e (Z d),dV aK q (.pointer none)]++ae) w) ⟨_,a⟩ (af 0 6 j (be 6 j a7 j (af 7 3 j (ef 33 j (λN=>?_) (λN=>?_)))))
  .refine af 10 11 j (bO (ar 3 j (cO (c:=(rcc eR (.slice none 0 0)).toArray) j j j (λ_=>by kernel_rfl) ?_)))
   refine cp 0 (a.bf g) j j j j j (λw a=>?_)
   have a:=C.whole (U:=rcc eR (.slice none 0 0)) a j
   have a:C o f (R g (rcc eR (.slice none 0 0)).toArray 169::_) w:=a
   refine bJ 1 j ⟨_,dp results65 j j j j (bq (C.aj (b:=g) a)),?_⟩
   have l:e.record n x=(e,eR,6):=by
    unfold bI.record
    rw [m]
    exact a6 (.inl (by simpa using N))
   rw [l]
   have a:C o f [bD az e (Z d),ay 236 d ag I,H1,dV aK q (.pointer none),[],i] _:=a.as
   exact⟨.slice none 0 0,[],j,Row.nil _ _,_,J,C.perm (A:=[bD az e (Z d),ay 236 d ag I,H1,dV aK q (.pointer none),[],i]) a (by simp)⟩
  refine af 10 3 j (be 13 j a7 j (af 14 3 j (be 17 j a7 j (af 18 3 j (bO (aT 0 j j (λM=>?_) (λM=>?_)))))))
  .refine ar 2 j (cO (c:=(rcc eR (.slice none 0 0)).toArray) j j j (λ_=>by kernel_rfl) ?_)
   refine cp 0 (a.bf g) j j j j j (λw a=>?_)
   have a:=C.whole (U:=rcc eR (.slice none 0 0)) a j
   have a:C o f (R g (rcc eR (.slice none 0 0)).toArray 169::_) w:=a
   refine bJ 1 j ⟨_,dp results65 j j j j (bq (C.aj (b:=g) a)),?_⟩
   have l:e.record n x=(e,eR,6):=by
    unfold bI.record
    rw [m]
    exact a6 (.inr (by first|simpa using ai|simpa using M))
   rw [l]
   have a:C o f [bD az e (Z d),ay 236 d ag I,H1,dV aK q (.pointer none),[],i] _:=a.as
   exact⟨.slice none 0 0,[],j,Row.nil _ _,_,J,C.perm (A:=[bD az e (Z d),ay 236 d ag I,H1,dV aK q (.pointer none),[],i]) a (by simp)⟩
  have aa:e.df=true:=by simpa using N
  have X:q.begun=e.last:=by first|simpa using ai|simpa using M
  refine au 5 j (aw (C.aj (b:=aK) a) j) (aT 9 j j (λO=>?_) (λO=>?_))
  .refine ar 2 j (cO (c:=(rcc eR (.slice none 0 0)).toArray) j j j (λ_=>by kernel_rfl) ?_)
   refine cp 0 (a.bf g) j j j j j (λw a=>?_)
   have a:=C.whole (U:=rcc eR (.slice none 0 0)) a j
   have a:C o f (R g (rcc eR (.slice none 0 0)).toArray 169::_) w:=a
   refine bJ 1 j ⟨_,dp results65 j j j j (bq (C.aj (b:=g) a)),?_⟩
   have l:e.record n x=(e,eR,1):=by
    unfold bI.record
    rw [m]
    dsimp only
    rw [aF (λh=>h.elim (λh=>by rw [show e.df=true from aa] at h;cases h) (λh=>h X)),K]
    exact a6 (by have:=br O;omega)
   rw [l]
   have a:C o f [bD az e (Z d),ay 236 d ag I,H1,dV aK q (.pointer none),[],i] _:=a.as
   exact⟨.slice none 0 0,[],j,Row.nil _ _,_,J,C.perm (A:=[bD az e (Z d),ay 236 d ag I,H1,dV aK q (.pointer none),[],i]) a (by simp)⟩
  refine au 5 j (aw (C.aj (b:=aK) a) j) (aT 2 j j (λac=>?_) (λac=>?_))
  .refine ar 2 j (cO (c:=(rcc eR (.slice none 0 0)).toArray) j j j (λ_=>by kernel_rfl) ?_)
   refine cp 0 (a.bf g) j j j j j (λw a=>?_)
   have a:=C.whole (U:=rcc eR (.slice none 0 0)) a j
   have a:C o f (R g (rcc eR (.slice none 0 0)).toArray 169::_) w:=a
   refine bJ 1 j ⟨_,dp results65 j j j j (bq (C.aj (b:=g) a)),?_⟩
   have l:e.record n x=(e,eR,7):=by
    unfold bI.record
    rw [m]
    dsimp only
    rw [aF (λh=>h.elim (λh=>by rw [show e.df=true from aa] at h;cases h) (λh=>h X)),K]
    dsimp only
    rw [aF (by have:=bw O;omega)]
    exact a6 (by have:=br ac;omega)
   rw [l]
   have a:C o f [bD az e (Z d),ay 236 d ag I,H1,dV aK q (.pointer none),[],i] _:=a.as
   exact⟨.slice none 0 0,[],j,Row.nil _ _,_,J,C.perm (A:=[bD az e (Z d),ay 236 d ag I,H1,dV aK q (.pointer none),[],i]) a (by simp)⟩
  have a:C o f ([bD az e (Z d),dV aK q (.pointer none)]++_) _:=a.front
  have a:=a.drew
  refine bz 2 j (λw=>∃ae,C o f ([bD az e (Z d),dV aK q (.pointer none)]++ae) w) ⟨_,a⟩ (af 0 3 j (be 3 j a7 j (af 4 3 j (be 7 j a7 j (af 8 3 j (be 11 j a7 j (af 12 3 j (be 15 j a7 j (af 16 1 j (aJ 17 19 j j ?_ ?_))))))))))
  refine cN j j j (gW (c:=gV) (a.rd aD al) (by have:=bw O;omega)) (λz w⟨T,W,y⟩=>?_)
  obtain⟨E,bH,rfl,_,_⟩:=W.form
  have a:=a.aN y
  have a:C o f ([bD az e (Z d),dV aK q (.pointer none)]++_) w:=a.front
  refine an ⟨⟨_,a⟩,?_⟩
  refine aV 18 j (λw _=>e0 (c:=(rcc (e.h9 q x) (.slice E x.length bH)).toArray) j (λ_=>by kernel_rfl)) (aW 19 j (en a j j (λv w a=>?_)))
  have a:C o f (R v (rcc eR (.slice none 0 0)).toArray 169::_) w:=a
  have a:C o f ([bD az e (Z d),dV aK q (.pointer none)]++_) w:=a.front
  refine an ⟨⟨_,a⟩,?_⟩
  rotate_left
  refine en a j j (λv w a=>?_)
  have a:C o f (R v (rcc eR (.slice none 0 0)).toArray 169::_) w:=a
  have a:C o f ([bD az e (Z d),dV aK q (.pointer none)]++_) w:=a.front
  refine an ⟨⟨_,a⟩,?_⟩
  refine aW 17 j (cN j j j (gW (c:=gV) (a.rd aD al) (by have:=bw O;omega)) (λz w⟨T,W,y⟩=>?_))
  obtain⟨E,bH,rfl,_,_⟩:=W.form
  have a:=a.aN y
  have a:C o f ([bD az e (Z d),dV aK q (.pointer none)]++_) w:=a.front
  refine an ⟨⟨_,a⟩,?_⟩
  refine aV 18 j (λw _=>e0 (c:=(rcc (e.h9 q x) (.slice E x.length bH)).toArray) j (λ_=>by kernel_rfl)) ?_
  rotate_left
  all_goals
   refine dy 20 j (c5 (a.bf v) j j j j j bR (λw a=>?_))
   have a:=C.whole (U:=rcc (e.h9 q x) (.slice E x.length bH)) a j
   have a:C o f (R v (rcc (e.h9 q x) (.slice E x.length bH)).toArray 169::_) w:=a
   refine an (cX (au 5 j (aw (C.aj (b:=aK) a) j) (bt 0 j j j (qb (by have:0<=q.next:=(aB _ (hN m)).1;have:=of_decide_eq_false ac;omega) (by omega)) (dD 2 (a.bf aK) j j j j (λw a=>?_)))))
   have a:C o f (dV aK ({q with next:=q.next+1,out:=some (e.h9 q x)}) (.pointer none)::_) w:=a
   refine dD 5 (a.bf aK) j j j j (λw a=>?_)
   have a:C o f (dV aK ({q with next:=q.next+1,out:=some (e.h9 q x)}) (Z v)::_) w:=a
   refine bS 2 (U:=rcc (e.h9 q x) (.slice E x.length bH)) j j j (bq (C.aj (b:=v) a)) ?_
   obtain⟨_,_,ak,_,_,aM,_⟩:=Row.read W (a.holds (G:=T) (by simp))
   cases ak
   refine bm 0 (xp (r:=(e.h9 q x)) (B:=E) (aU:=bH) aM (by have:=bw O;show x.length<=_;omega)) j (λz w⟨aP,L,D,Q,y⟩=>?_)
   subst D
   obtain⟨S,V,rfl,_,_⟩:=Row.form Q
   have a:=a.aN y
   refine cp 0 (a.bf g) j j j j j (λw a=>?_)
   have a:=C.whole (U:=rcc (e.h9 q x) (.slice S x.length V)) a j
   have a:C o f (R g (rcc (e.h9 q x) (.slice S x.length V)).toArray 169::_) w:=a
   refine bJ 1 j ⟨_,dp results65 j j j j (bq (C.aj (b:=g) a)),?_⟩
   have l:e.record n x=({e with parts:=cj e.parts n ({q with next:=q.next+1,out:=some (e.h9 q x)})},(e.h9 q x),0):=by
    unfold bI.record
    rw [m]
    dsimp only
    rw [aF (λh=>h.elim (λh=>by rw [show e.df=true from aa] at h;cases h) (λh=>h X)),K]
    dsimp only
    rw [aF (by have:=bw O;omega),aF (by have:=bw ac;omega)]
   rw [l]
   have a:C o f [bD az e (Z d),ay 236 d ag I,H1,dV aK ({q with next:=q.next+1,out:=some (e.h9 q x)}) (Z v),R v (rcc (e.h9 q x) (.slice E x.length bH)).toArray 169,T,i,L] _:=a.as
   exact⟨_,L,j,Q,_,⟨_,_,⟨d,ag,I,aO,_,j,hm,aC ({q with next:=q.next+1,out:=some (e.h9 q x)}) _ ⟨aK,Z v,_,j,⟨v,(.slice E x.length bH),T,j,W,j⟩,j⟩,j⟩,j⟩,C.perm (A:=[bD az e (Z d),ay 236 d ag I,H1,dV aK ({q with next:=q.next+1,out:=some (e.h9 q x)}) (Z v),R v (rcc (e.h9 q x) (.slice E x.length bH)).toArray 169,T,i,L]) a (by simp)⟩
 have Y:=m7 (k:=n) (dG.own (a.to (ay 236 d ag I)) hm)
 refine bm 0 Y j (λr w⟨D,y⟩=>?_)
 have a:=a.aN y
 obtain⟨v0,H1,aG,i,am,rfl,⟨aK,pu,ad,rfl,P,rfl⟩,aC⟩:=ao.find m
 simp only [am,l1,oc] at D
 subst D
 obtain⟨b1,aX,ah,rfl,aA,rfl⟩:∃b u ah,pu=Z b/\dN u ro.x ah/\ad=R b #[ab ro.p,ab ro.e,ab ro.t,ab ro.s,u] 169++ah:=by unfold mK at P;rw [K] at P;exact P
 obtain⟨F,co,rfl,_,aQ⟩:=Row.form aA
 have a:C o f [R g (rcc eR (.slice none 0 0)).toArray 169,bD az e (Z d),ay 236 d ag I,H1,dV aK q (Z b1),R b1 (rcc ro (.slice F ro.x.length co)).toArray 169,ah,i] w:=C.perm (A:=[R g (rcc eR (.slice none 0 0)).toArray 169,bD az e (Z d),ay 236 d ag I,H1++((dV aK q (Z b1)++(R b1 (rcc ro (.slice F ro.x.length co)).toArray 169++ah))++i)]) a.as (by simp)
 have a:C o f ([bD az e (Z d),dV aK q (Z b1)]++_) _:=a.front
 have a:=a.drew
 refine bz 8 j (λw=>∃ae,C o f ([bD az e (Z d),dV aK q (Z b1)]++ae) w) ⟨_,a⟩ (af 0 6 j (be 6 j a7 j (af 7 3 j (ef 33 j (λN=>?_) (λN=>?_)))))
 .refine af 10 11 j (bO (ar 3 j (cO (c:=(rcc eR (.slice none 0 0)).toArray) j j j (λ_=>by kernel_rfl) ?_)))
  refine cp 0 (a.bf g) j j j j j (λw a=>?_)
  have a:=C.whole (U:=rcc eR (.slice none 0 0)) a j
  have a:C o f (R g (rcc eR (.slice none 0 0)).toArray 169::_) w:=a
  refine bJ 1 j ⟨_,dp results65 j j j j (bq (C.aj (b:=g) a)),?_⟩
  have l:e.record n x=(e,eR,6):=by
   unfold bI.record
   rw [m]
   exact a6 (.inl (by simpa using N))
  rw [l]
  have a:C o f [bD az e (Z d),ay 236 d ag I,H1,dV aK q (Z b1),R b1 (rcc ro (.slice F ro.x.length co)).toArray 169,ah,i] _:=a.as
  exact⟨.slice none 0 0,[],j,Row.nil _ _,_,J,C.perm (A:=[bD az e (Z d),ay 236 d ag I,H1,dV aK q (Z b1),R b1 (rcc ro (.slice F ro.x.length co)).toArray 169,ah,i]) a (by simp)⟩
 refine af 10 3 j (be 13 j a7 j (af 14 3 j (be 17 j a7 j (af 18 3 j (bO (aT 0 j j (λM=>?_) (λM=>?_)))))))
 .refine ar 2 j (cO (c:=(rcc eR (.slice none 0 0)).toArray) j j j (λ_=>by kernel_rfl) ?_)
  refine cp 0 (a.bf g) j j j j j (λw a=>?_)
  have a:=C.whole (U:=rcc eR (.slice none 0 0)) a j
  have a:C o f (R g (rcc eR (.slice none 0 0)).toArray 169::_) w:=a
  refine bJ 1 j ⟨_,dp results65 j j j j (bq (C.aj (b:=g) a)),?_⟩
  have l:e.record n x=(e,eR,6):=by
   unfold bI.record
   rw [m]
   exact a6 (.inr (by first|simpa using ai|simpa using M))
  rw [l]
  have a:C o f [bD az e (Z d),ay 236 d ag I,H1,dV aK q (Z b1),R b1 (rcc ro (.slice F ro.x.length co)).toArray 169,ah,i] _:=a.as
  exact⟨.slice none 0 0,[],j,Row.nil _ _,_,J,C.perm (A:=[bD az e (Z d),ay 236 d ag I,H1,dV aK q (Z b1),R b1 (rcc ro (.slice F ro.x.length co)).toArray 169,ah,i]) a (by simp)⟩
 have aa:e.df=true:=by simpa using N
 have X:q.begun=e.last:=by first|simpa using ai|simpa using M
 refine au 5 j (aw (C.aj (b:=aK) a) j) (au 8 j (aw (C.aj (b:=aK) a) j) (bS 1 (U:=rcc ro (.slice F ro.x.length co)) j j j (bq (C.aj (b:=b1) a)) ?_))
 obtain⟨_,_,ak,_,_,aL,_⟩:=Row.read aA (a.holds (G:=ah) (by simp))
 cases ak
 refine bm 0 (xp (r:=ro) (B:=F) (aU:=co) aL (by have:=(aB _ (hN m)).2 _ K;omega)) j (λz w⟨aP,L,D,Q,y⟩=>?_)
 subst D
 have aR:=Row.one Q
 obtain⟨S,V,rfl,_,_⟩:=Row.form Q
 have a:=a.aN y
 refine cp 0 (a.bf g) j j j j j (λw a=>?_)
 have a:=C.whole (U:=rcc ro (.slice S ro.x.length V)) a j
 have a:C o f (R g (rcc ro (.slice S ro.x.length V)).toArray 169::_) w:=a
 refine bJ 1 j ⟨_,dp results65 j j j j (bq (C.aj (b:=g) a)),?_⟩
 have l:e.record n x=(e,ro,0):=by
  unfold bI.record
  rw [m]
  dsimp only
  rw [aF (λh=>h.elim (λh=>by rw [show e.df=true from aa] at h;cases h) (λh=>h X)),K]
 rw [l]
 have a:C o f [bD az e (Z d),ay 236 d ag I,H1,dV aK q (Z b1),R b1 (rcc ro (.slice F ro.x.length co)).toArray 169,ah,i,L] _:=a.as
 exact⟨_,L,j,Q,_,J,C.perm (A:=[bD az e (Z d),ay 236 d ag I,H1,dV aK q (Z b1),R b1 (rcc ro (.slice F ro.x.length co)).toArray 169,ah,i,L]) a (by simp)⟩
theorem B5{o:World}{g:al}{bh:Nat}{b:cM}{G:List Chunk}{r:ec}{B:Option Addr}{aU:Nat}(n:jK g bh b G)(s:b.log.cl.length<=1000000)(t:b.log.c0.length<=1000000)(l:Rd o B (aE r.x))(f:bU B (aE r.x) (av [G]))(u:r.x.length<=aU)(a:Own [G] o):Calls prog 66 #[Z bh,.agg (rcc r (.slice B r.x.length aU)).toArray] o (aS λz w=>z= .tuple #[ab (b.log.append r).2.1,ab (b.log.append r).2.2]/\∃ah,jK g bh {b with log:=(b.log.append r).1} ah/\C o (av [G]) [ah] w):=by
 obtain⟨c,L,M,V,h,rfl⟩:=n
 obtain⟨d,k⟩:∃d,d=av [cm g bh c++(L++(M++V))]:=⟨_,j⟩
 rw [<-k] at f⊢
 have a:C o d [cm g bh c++(L++(M++V))] o:=k▸a
 have a:=a.vs
 refine a1 [Z bh,.agg (rcc r (.slice B r.x.length aU)).toArray] func66 ntmps66 results66 (bP 2 a j j (λe w a=>?_))
 have a:C o d [R e (rcc r (.slice B r.x.length aU)).toArray 169,cm g bh c,L,M,V] w:=a
 have a:C o d ([R e (rcc r (.slice B r.x.length aU)).toArray 169,cm g bh c]++_) _:=a.front
 have a:=a.drew
 refine bz 10 j (λw=>∃ae,C o d ([R e (rcc r (.slice B r.x.length aU)).toArray 169,cm g bh c]++ae) w) ⟨_,a⟩ (af 0 3 j (be 3 j a7 j (aV 4 j (λw⟨_,a⟩=>dc (U:=rcc r (.slice B r.x.length aU)) j j j (bq (C.aj (b:=e) a))) (aW 5 j ?_))))
 have a:C o d (L::_) _:=a.to L
 have p:=B6 (r:=r) (B:=B) (aU:=aU) h.log s t (a.rd l f) ((a.apart l f).sub (fB (by simp))) u a.ours
 refine bF j j j p (λw⟨i,m,q⟩=>?_)
 have a:=a.b4 q
 have a:C o d ([R e (rcc r (.slice B r.x.length aU)).toArray 169,cm g bh c]++_) w:=a.front
 refine an ⟨⟨_,a⟩,?_⟩
 refine af 6 4 j (bO (ao 0 j j ?_))
 have a:C o d [cm g bh c,i,M,V] _:=a.as
 exact⟨j,_,⟨c,i,M,V,⟨m,h.acc,h.aH⟩,j⟩,a.k7⟩
theorem Cm{o:World}{p:Value}{l:List aY}{lost:Nat}{G:List Chunk}(D:g2 p l lost G)(g:Holds o G){i:Nat}(u:i<l.length):Calls prog 73 #[p,.int .i64 i] o (aS λr w=>∃(q:aB)(t:List Chunk),r= .tuple #[.agg q.cs.toArray,.bool true]/\q.P=l[i]/\fw q t/\C o [] [t] w):=by
 have a:Own [] o:=C.start o
 obtain⟨b,v,b0,ak,aA,rfl,rfl,E,k,rfl⟩:=D.open
 have m:i<b0.length:=by rw [fy] at u;exact u
 have s:=k.tag b0[i] (ek m)
 have F:o.heap[b]? =some (.cells #[v,ab 512,ab lost] 149 (0,0)):=g.left.head
 rw [rp]
 refine e7 [Z b,.int .i64 i] (fn:=f73) func73 ntmps73 (cn 2 a j (λc w a=>?_))
 have a:C o [] [bi c dM] w:=a
 have H:=wW E k.tag (a.cd F) (g.right.left.st a) m
 refine bp 14 H j (λw I=>?_)
 have a:=a.aN I
 refine cn 3 a j (λd w a=>?_)
 have a:C o [] (bi d dM::_) w:=a
 refine cp 0 (a.bf d) j j j (by simpa using(b0[i]).one) (by rw [List.size_toArray];exact(b0[i]).bY s) (λw a=>?_)
 have a:=C.whole (U:=(b0[i]).cs) a (by rw [(b0[i]).bY s];rfl)
 have a:C o [] (bi d (b0[i])::_) w:=a
 refine bS 3 (U:=b0[i].cs) j j (b0[i].bY s) (bq (C.aj (b:=d) a)) ?_
 obtain⟨y,x⟩:=k.read (g.right.right.st a) b0[i] (ek m)
 refine bm 0 (xo y x) j (λr w⟨q,e,f,K,J,z,ad⟩=>?_)
 subst K
 have B:=fw.sk J z y x
 have n:q.tag.length=32:=by obtain⟨_,_,_,_,h,_⟩:=B;exact h
 have a:=a.aN ad
 refine cp 1 (a.bf c) j j j (by simpa using(q).one) (by rw [List.size_toArray];exact(q).bY n) (λw a=>?_)
 have a:=C.whole (U:=(q).cs) a (by rw [(q).bY n];rfl)
 have a:C o [] (bi c (q)::_) w:=a
 refine bJ 1 j ⟨_,dp (U:=q.cs) results73 j j j (q.bY n) (bq (C.aj (b:=c) a)),?_⟩
 have a:C o [] [e,f] w:=a.as
 exact⟨q,e++f,j,z,B,C.perm (A:=[e,f]) a (by simp)⟩
theorem Cp{o:World}{p:Value}{l:List aY}{lost:Nat}{G:List Chunk}(x:g2 p l lost G)(a:Own [G] o){i:Nat}(m:i<l.length):Calls prog 39 #[p,.int .i64 i] o (aS λr w=>r= .bool (decide (l.length<512))/\∃ah,g2 p (if l.length<512 then l++[l[i]] else l) lost ah/\C o (av [G]) [ah] w):=by
 obtain⟨c,y⟩:∃c,c=av [G]:=⟨_,j⟩
 rw [<-y]
 have a:C o c [G] o:=y▸a
 have D:=x
 obtain⟨b,v,b0,ak,aA,rfl,rfl,z,k,rfl⟩:=x.open
 have I:i<b0.length:=by rw [fy] at m;exact m
 simp only [rp,fy]
 refine a1 [Z b,.int .i64 i] func39 ntmps39 results39 (bm 7 (Cm D (a.holds (by simp)) m) j (λr w⟨q,e,H,B,t,ad⟩=>?_))
 subst H
 rw [rp] at B
 have u:q.tag.length=32:=by obtain⟨_,_,_,_,h,_⟩:=t;exact h
 have a:=a.aN ad
 refine cn 3 a j (λd w a=>?_)
 have a:C o c (bi d dM::_) w:=a
 refine cp 0 (a.bf d) j j j (by simpa using(q).one) (by rw [List.size_toArray];exact(q).bY u) (λw a=>?_)
 have a:=C.whole (U:=(q).cs) a (by rw [(q).bY u];rfl)
 have a:C o c (bi d (q)::_) w:=a
 have a:C o c ([bi d q]++_) _:=a.front
 have a:=a.drew
 refine bz 2 j (λw=>∃ae,C o c ([bi d q]++ae) w) ⟨_,a⟩ (af 0 5 j (aV 5 j (λw⟨_,a⟩=>dc (U:=q.cs) j j (q.bY u) (bq (C.aj (b:=d) a))) (aW 6 j ?_)))
 have a:C o c [fd b v lost,ak,aA,bi d q,e] _:=C.perm (A:=[fd b v lost++(ak++aA),bi d q,e]) a.as (by simp)
 have E:=zC (b:=b) (lost:=lost) z k t (a.ours (cI:=[fd b v lost,ak]))
 refine bF j j j E (λw⟨v1,f,n,ad⟩=>?_)
 have a:=a.b4 ad
 have a:C o c ([bi d q]++_) w:=a.front
 refine an ⟨⟨_,a⟩,?_⟩
 refine af 7 2 j (bO (ao 0 j j (⟨j,?_⟩)))
 have g:C o c [fd b v1 lost,f,aA,e] _:=a.as
 clear a
 split at n
 .rename_i s
  rw [a6 s]
  have F:(b0++[q]).map aB.P=b0.map aB.P++[b0[i].P]:=by rw [jP,List.map_cons,B];rfl
  rw [<-F]
  refine⟨_,g2.close (b0:=b0++[q]) (by rw [ca,List.length_singleton,qf];simpa using n) (k.app (fx.one t)),C.perm (A:=[fd b v1 lost,f,aA,e]) g (by simp)⟩
 rename_i s
 rw [aF s]
 obtain⟨rfl,rfl⟩:=n
 have g:C o c [fd b v1 lost,f,aA] _:=g.as
 exact⟨_,g2.close z k,C.perm (A:=[fd b v1 lost,f,aA]) g (by simp)⟩
def k8(aM:List aY)(i:Int):List aG:=if 0<=i/\i<(aM.length:Int) then(aM[i.toNat]?.map aY.l).getD [] else []
def ir(aM:List aY)(use:List Int):List aG:=use.flatMap (k8 aM)
theorem u0{aM:List aY}{use:List Int}{i:Nat}(h:i<use.length):ir aM (use.take (i+1))=ir aM (use.take i)++k8 aM use[i]:=by
 unfold ir
 rw [fF h,nA]
 simp
theorem EX{aM:List aY}{use:List Int}{i:Nat}(h:i<use.length):∃r,ir aM use=ir aM (use.take i)++(k8 aM use[i]++r):=by
 refine⟨ir aM (use.drop (i+1)),?_⟩
 unfold ir
 rw [<-dH,<-List.flatMap_singleton (f:=k8 aM) (x:=use[i]),<-nA,<-List.flatMap_append,<-List.take_succ_eq_append_getElem h,List.take_append_drop]
theorem EY{aM:List aY}{J:Nat}(h:J<aM.length):k8 aM (J:Int)=aM[J].l:=by
 unfold k8
 rw [a6 ⟨by omega,by omega⟩]
 simp [h]
abbrev EV(aM:List aY)(use:List Int)(pre:List aG)(x:aG):Prop:=∃r,ir aM use=pre++x::r
structure nt(bA:List Chunk)(aQ:Option Addr)(us:List Value)(F:List Nat)(w:World):Prop where
 holds:Holds w bA
 off:∀c∈bA,c.1∉F
 rd:Rd w aQ us
 ap:bU aQ us F
section
variable {bA:List Chunk} {aQ:Option Addr} {us:List Value} {F eD:List Nat} {ae H:List (List Chunk)} {L:List Chunk} {o w aI:World}
theorem nt.st(h:nt bA aQ us F w)(d:C w eD ae aI)(a:∀b∈eD,b∈F):nt bA aQ us F aI:=
 ⟨h.holds.kept d (λc e f=>h.off c e (a _ f)),h.off,d.rd h.rd (h.ap.sub a),h.ap⟩
theorem Holds.lt(h:Holds w bA):∀c∈bA,c.1<w.heap.size:=λc a=>by
 have:=h c a
 exact(gp.1 this).1
theorem Rd.B3(h:Rd w aQ us)(i:∀b∈F,w.heap.size<=b):bU aQ us F:=λl a g k=>by
 cases us with
 |nil=>exact l j
 |cons v r=>
  obtain⟨b,d,c⟩:=h 0 v j
  rw [g] at d;cases d
  have m:=i _ k
  have n:a.block<w.heap.size:=by
   unfold World.cell? at c
   have e:(a.add 0).block=a.block:=by unfold Addr.add;split<;>rfl
   rw [e] at c
   cases f:w.heap[a.block]? with
   |none=>rw [f] at c;cases c
   |some I=>exact(gp.1 f).1
  omega
theorem C.snoc(h:C o F ae w)(a:C w [] [L] aI):C o F (ae++[L]) aI:=(h.aN a).perm (by simp only [g5,List.flatten_cons,List.flatten_nil,List.append_nil];exact List.perm_append_comm)
theorem nt.new(d:Holds o bA)(e:Rd o aQ us)(a:C o [] ae w):nt bA aQ us (av ae) w:=
 have aP:∀b∈av ae,o.heap.size<=b:=λb f=>(a.own b f).elim (λh=>by cases h) id
 ⟨d.st a,λc g i=>absurd (d.lt c g) (by have:=aP _ i;omega),a.rd e (bU.of_nil _ _),Rd.B3 e aP⟩
end
theorem EZ{o:World}{aM:List aY}{ho aQ:Option Addr}{gf dK:Nat}{use:List Int}:Calls prog 84 #[.slice ho aM.length gf,.slice aQ use.length dK] o (aS λr w=>∃aJ b,r= .func (.func 147) #[] #[Z b,Z aJ]/\C o [] [R b #[.slice aQ use.length dK] 31,R aJ #[.slice ho aM.length gf] 56] w):=by
 have a:Own [] o:=C.start o
 refine a1 [.slice ho aM.length gf,.slice aQ use.length dK] func84 ntmps84 results84 (bP 2 a j j (λaJ w a=>bP 0 a j j (λb w a=>ar 3 j (gR j j j j ?_))))
 refine ao 1 j j ?_
 exact⟨aJ,b,j,a⟩
theorem EW{aJ g:Nat}{aM:List aY}{bA:List Chunk}{ho aQ:Option Addr}{gf dK:Nat}{use:List Int}(ai:cz (.slice ho aM.length gf) aM bA):Iter prog 147 #[Z g,Z aJ] [R g #[.slice aQ use.length dK] 31,R aJ #[.slice ho aM.length gf] 56] (λae w=>nt bA aQ (use.map bu) (av ([R g #[.slice aQ use.length dK] 31,R aJ #[.slice ho aM.length gf] 56]++ae)) w/\use.length<=maxLen/\aM.length<=maxLen/\use.length<=dK/\∀m∈aM,m.l.length<=1000) (λ_=>True) (λv:aG=> #[.agg v.cs.toArray]) (EV aM use) (λxs=>xs=ir aM use):=by
 intro y ac aX ae o a c x _ al aU aC
 show Calls _ _ #[ey y,Z g,Z aJ] o _
 obtain⟨u,Q⟩:∃u,u=av ([R g #[.slice aQ use.length dK] 31,R aJ #[.slice ho aM.length gf] 56]++ae):=⟨_,j⟩
 rw [<-Q] at x⊢
 have a:C o u (R g #[.slice aQ use.length dK] 31::R aJ #[.slice ho aM.length gf] 56::ae) o:=Q▸a
 obtain⟨x,N,aV,aS,aW⟩:=x
 obtain⟨b0,X,ak,aA,rfl,S,K⟩:=ai
 have hlen:aM.length=b0.length:=by rw [<-X,fy]
 have az:∀q∈b0,q.cs.length=39:=λq aw=>q.bY (K.tag q aw)
 refine a1 [ey y,Z g,Z aJ] func147 ntmps147 results147 (au 2 j (a.cell j) ?_)
 refine cY 3 j (cA:=Nat×List (List Chunk)) (λi=>[(0,ey y),(1,Z g),(2,Z aJ),(8,.slice aQ use.length dK),(9,.int .i64 (use.length:Nat)),(10,.int .i64 (i.1:Nat))])
  (λi w=>i.1<=use.length/\ac (ir aM (use.take i.1)) i.2 w/\C o u (R g #[.slice aQ use.length dK] 31::R aJ #[.slice ho aM.length gf] 56::i.2) w) (λi=>use.length-i.1) (0,ae) ⟨j,j,j,j,j,j,ba⟩ ⟨ch _,c,a⟩ ?_
 rintro⟨i,ah⟩ w ⟨am,c,a⟩
 dsimp only at am c a⊢
 refine aT 4 j j (λE=>?_) (λE=>?_)
 .have n:i<use.length:=by have:=br E;omega
  have A:=x.st a (λb s=>s)
  refine ar 5 j (fL j j j j A.rd (v:=bu use[i]) (by rw [gT,gn,ck n];rfl) n (λaK aP aj=>?_))
  refine au 0 j aj (ar 7 j (c7 16 j (λF=>?_) (λF=>?_)))
  .refine bt 8 j j j (c2 i (by unfold maxLen at N;omega)) (bX 1 j (⟨(i+1,ah),⟨j,j,j,j,j,j,ba⟩,⟨n,?_,a⟩,by dsimp only;omega⟩))
   dsimp only
   rw [u0 n,show k8 aM use[i]=[] from aF (λh=>by have:=br F;omega),g6]
   exact c
  refine au 1 j (C.f1 a|>.cell rfl) (aT 3 j j (λG=>?_) (λG=>?_))
  .refine bt 2 j j j (c2 i (by unfold maxLen at N;omega)) (bX 1 j (⟨(i+1,ah),⟨j,j,j,j,j,j,ba⟩,⟨n,?_,a⟩,by dsimp only;omega⟩))
   dsimp only
   rw [u0 n,show k8 aM use[i]=[] from aF (λh=>by have:=br G;omega),g6]
   exact c
  refine au 3 j (C.f1 a|>.cell rfl) ?_
  obtain⟨J,V⟩:∃J:Nat,use[i]=J:=⟨use[i].toNat,by have:=bw F;omega⟩
  have W:J<aM.length:=by have:=bw G;omega
  have M:J<b0.length:=by omega
  obtain⟨_,_,e,_,_,aa,_⟩:=Row.read S A.holds.left
  simp only [rq] at e
  obtain⟨rfl,_,rfl⟩:=e
  refine ar 1 j (b2 23 (.int .i64 (J:Nat)) j (aL (Value.int .i64) V) ?_)
  obtain⟨af,_,_,T,_⟩:=Row.block S (by omega)
  simp only [rq] at T
  have O:=T.1
  rw [O] at aa
  refine b2 22 (.slice (some ⟨af,0,none⟩) aM.length gf) j (aL (λz=>Value.slice z aM.length gf) O) (hG j j j j W ?_)
  obtain⟨t,aq⟩:=K.read A.holds.right b0[J] (ek M)
  have Y:k8 aM use[i]=b0[J].l:=by
   rw [V,EY W]
   have:aM[J]=b0[J].P:=by simp only [<-X,rp]
   rw [this]
  have ax:=flat_lit (f:=aB.cs) aa az J M
  refine au 1 j (by have h:=ax.cell (J:=6) (v:=.slice b0[J].B b0[J].l.length b0[J].d) (by simp [aB.cs]);rw [add_lit] at h;exact h) ?_
  refine cY 3 j (cA:=Nat×List (List Chunk)) (λk=>[(0,ey y),(1,Z g),(2,Z aJ),(8,.slice aQ use.length dK),(9,.int .i64 (use.length:Nat)),(10,.int .i64 (i:Nat)),(26,.slice b0[J].B b0[J].l.length b0[J].d),(27,.int .i64 (b0[J].l.length:Nat)),(28,.int .i64 (k.1:Nat))])
   (λk w=>k.1<=b0[J].l.length/\ac (ir aM (use.take i)++b0[J].l.take k.1) k.2 w/\C o u (R g #[.slice aQ use.length dK] 31::R aJ #[.slice ho aM.length gf] 56::k.2) w) (λk=>b0[J].l.length-k.1) (0,ah) ⟨j,j,j,j,j,j,j,j,j,ba⟩ ⟨ch _,by simpa using c,a⟩ ?_
  rintro⟨k,bn⟩ w ⟨ad,c,a⟩
  dsimp only at ad c a⊢
  refine aT 4 j j (λI=>?_) (λI=>?_)
  .have p:k<b0[J].l.length:=by have:=br I;omega
   have A:=x.st a (λb s=>s)
   obtain⟨t,_⟩:=K.read A.holds.right b0[J] (ek M)
   have D:=t.aH b0[J].l[k] (ek p)
   refine ar 5 j (fL j j j j t.l (v:=ab b0[J].l[k].k) (pf b0[J].l t.aH k p) p (λaO ag aR=>?_))
   refine bS 0 j j (b0[J].l[k].len D) (pg (ag▸t.l) t.aH k p) (cn 0 (C.start _) j (λbv w r=>cp 0 r j j j b0[J].l[k].one (b0[J].l[k].len D) (λw r=>?_)))
   have r:=C.whole (U:=b0[J].l[k].cs) r (by rw [b0[J].l[k].len D];rfl)
   have c:=al _ _ _ _ [] c r.bare (by simp)
   have a:=a.aN r
   refine bS 3 (U:=b0[J].l[k].cs) j j (b0[J].l[k].len D) a.bN ?_
   obtain⟨aI,ay⟩:=EX (aM:=aM) n
   have aD:=aC (ir aM (use.take i)++b0[J].l.take k) b0[J].l[k] bn _ ⟨b0[J].l.drop (k+1)++aI,by
    rw [ay,Y,dH,<-List.cons_append,<-List.append_assoc (b0[J].l.take k),<-List.drop_eq_getElem_cons p,List.take_append_drop]⟩ c (C.jl (H:=[_,_,_]) a)
   refine jN j j j j aD (λb w⟨cv,aE,s⟩=>?_)
   have a:=C.jd (H:=[_,_,_]) a aE
   refine aT 1 j j (λeM=>?_) (λeM=>?_)
   .refine ao 0 j j ?_
    have L:b=false:=by cases b<;>first|rfl|exact absurd eM (by decide)
    subst L
    exact⟨cv,a.drop,.inr (by simpa using s)⟩
   refine bt 2 j j j (c2 k (by have:=aq.l;omega)) (bX 1 j ?_)
   have L:b=true:=by cases b<;>first|rfl|exact absurd eM (by decide)
   subst L
   refine⟨(k+1,cv),⟨j,j,j,j,j,j,j,j,j,ba⟩,⟨p,?_,a.drop⟩,by dsimp only;omega⟩
   dsimp only
   rw [fF p,<-dH]
   simpa using s
  refine bt 2 j j j (c2 i (by unfold maxLen at N;omega)) (bX 1 j ?_)
  have ap:k=b0[J].l.length:=by have:=bw I;omega
  rw [ap,gy] at c
  refine⟨(i+1,bn),⟨j,j,j,j,j,j,ba⟩,⟨n,?_,a⟩,by dsimp only;omega⟩
  dsimp only
  rw [u0 n,Y]
  exact c
 refine ao 1 j j ?_
 have an:i=use.length:=by have:=bw E;omega
 subst an
 rw [gy] at c
 exact⟨ah,a,.inl ⟨_,j,c⟩⟩
structure eE where
 k:Int
 to:Int
 s:Int
 v:Int
 x:List UInt8
 di:Int
 use:List Int
abbrev fR(l:eE)(X:Option Addr)(bH:Nat)(aQ:Option Addr)(dK:Nat):List Value:=[ab l.k,ab l.to,ab l.s,ab l.v,.slice X l.x.length bH,ab l.di,.slice aQ l.use.length dK]
def eE.msg(l:eE)(f:Int)(U:List aG):aY:=⟨l.k,f,l.to,l.s,l.v,l.x,U,cK⟩
def eE.may(g:al)(f:Int)(l:eE):Bool:=(l.msg f []).may&&((l.k !=1)&&(decide (f<(g.keys.length:Int))&&decide (l.to<(g.keys.length:Int))))
def eE.aH(g:al)(f:Int)(aM:List aY)(l:eE):Option (List aG):=
 if l.k=6 then some [cU g 3 0 0 (bL l.x) f]
 else if l.k=3 then(if l.di<1\/l.di>3 then none else some [cU g l.di l.s l.v (bL l.x) f])
 else some ((ir aM l.use).take 10)
def aY.cu(g:al)(m:aY):aY:={m with tag:=g.cu m.f m.body}
def eX(g:al)(f:Int)(aM:List aY)(l:eE):Option aY:=if l.may g f=true then(l.aH g f aM).map λU=>(l.msg f U).cu g else none
abbrev eE.bk(l:eE)(f:Int)(X:Option Addr)(bH:Nat)(B:Option Addr)(U:List aG)(d:Nat):aB:=⟨l.k,f,l.to,l.s,l.v,X,l.x,bH,B,U,d,cK⟩
theorem ok_none{b:Bool}(h:((if b=true then(0:Int) else 1)==0)=false):b=false:=by cases b<;>simp_all
theorem y8{b:Bool}(h:((if b=true then(0:Int) else 1)==0)=true):b=true:=by cases b<;>simp_all
theorem eE.u2{g:al}{f:Int}{l:eE}(h:l.may g f=true):l.x.length<=200:=by
 unfold eE.may aY.may at h
 simp only [d8,gL] at h
 exact h.1.1.1.2
theorem sb{aM:List aY}(h:∀m∈aM,∀v∈m.l,v.ok)(use:List Int):∀v∈ir aM use,v.ok:=λv c=>by
 obtain⟨i,_,a⟩:=nB.1 c
 unfold k8 at a
 split at a
 .cases b:aM[i.toNat]? with
  |none=>rw [b] at a;cases a
  |some m=>rw [b] at a;exact h m (hZ b) v a
 .cases a
theorem Ek{o:World}{g:al}{f:Int}{l:eE}{X aQ:Option Addr}{bH dK:Nat}(n:g.at o)(B:g.ok)(y:Rd o X (aE l.x)):Calls prog 81 #[g.p,ab f,.agg (fR l X bH aQ dK).toArray] o (aS λr w=>r= .bool (l.may g f)/\C o [] [] w):=by
 have a:Own [] o:=C.start o
 refine a1 [g.p,ab f,.agg (fR l X bH aQ dK).toArray] func81 ntmps81 results81 (bP 2 a j j (λd w a=>?_))
 have a:C o [] [R d (fR l X bH aQ dK).toArray 33] w:=a
 refine au 4 j (aw (C.aj (b:=d) a) j) (au 2 j (aw (C.aj (b:=d) a) j) (au 1 j (aw (C.aj (b:=d) a) j) (au 1 j (aw (C.aj (b:=d) a) j) (au 1 j (aw (C.aj (b:=d) a) j) (cO (c:=(l.bk f X bH none [] 0).cs.toArray) j j j (λ_=>by kernel_rfl) ?_)))))
 have t:aB.ok (l.bk f X bH none [] 0) w:=⟨a.rd y (bU.of_nil _ _),Rd.nil _ _,(by intro v q;cases q),j⟩
 refine bm 0 (xC t) j (λr w⟨v,G,u,q,s⟩=>?_)
 subst u
 have a:=a.aN s
 have A:i1 (l.bk f X bH none [] 0)=(l.msg f []).may:=rfl
 have a:C o [] ([R d (fR l X bH aQ dK).toArray 33]++_) _:=a.front
 have a:=a.drew
 refine bz 6 j (λw=>∃ae,C o [] ([R d (fR l X bH aQ dK).toArray 33]++ae) w) ⟨_,a⟩ (af 0 3 j (ef 27 j (λi=>?_) (λi=>?_)))
 .refine af 3 1 j (be 4 j a7 j (af 5 3 j (ef 32 j (λk=>?_) (λk=>?_))))
  .refine af 8 2 j (aW 10 j (bF j j j (ml (n.st a (al.off.nil g))) (λz e=>?_)))
   have e:=e.symm
   subst e
   refine an ⟨⟨_,a⟩,?_⟩
   refine af 11 3 j (ef 38 j (λm=>?_) (λm=>?_))
   refine af 14 1 j (be 15 j a7 j (af 16 1 j (aW 17 j (bF j j j (ml (n.st a (al.off.nil g))) (λz e=>?_)))))
   have e:=e.symm
   subst e
   refine an ⟨⟨_,a⟩,?_⟩
   refine af 18 3 j ?_
   rotate_left
   refine af 14 7 j ?_
   rotate_left
   all_goals
    refine bO (ao 0 j j (⟨aL Value.bool ?_,a.bare⟩))
    unfold eE.may
    have h:(l.msg f []).may=true:=y8 i
    rw [h,k,m]
    rfl
  refine af 8 13 j (bO (ao 0 j j (⟨aL Value.bool ?_,a.bare⟩)))
  unfold eE.may
  have h:(l.msg f []).may=true:=y8 i
  rw [h,k]
  rfl
 refine af 3 18 j (bO (ao 0 j j (⟨aL Value.bool ?_,a.bare⟩)))
 unfold eE.may
 have h:(l.msg f []).may=false:=ok_none i
 rw [h]
 rfl
theorem eE.mx(l:eE)(f:Int)(X:Option Addr)(bH:Nat)(B a:Option Addr)(U c:List aG)(d b:Nat):(l.bk f X bH B U d).cs.toArray.setIfInBounds 6 (.slice a c.length b)=(l.bk f X bH a c b).cs.toArray:=by
 apply fu
 simp [aB.cs]
theorem ej.lit{b:Nat}{c:aG}(h:c.ok):ej (.slice (some ⟨b,0,none⟩) 1 1) [c] (R b c.cs.toArray 108):=by
 have a:=Row.full (e:=108) (size:=68) (b:=b) (n:=1) (cur:=c.cs.toArray) (by decide) (by rw [hq,c.len h])
 have e:vcs [c]=c.cs:=by simp
 show Row 108 68 _ 1 (vcs [c]) _
 rw [e]
 exact a
theorem yH{o:World}{g:al}{f:Int}{l:eE}{X aQ ho:Option Addr}{bH dK gf:Nat}{aM:List aY}{bA:List Chunk}(Y:g.at o)(aa:g.ok)(az:Rd o X (aE l.x))(bB:l.x.length<=bH)(hu:Rd o aQ (l.use.map bu))(bl:l.use.length<=dK)(bw:l.use.length<=maxLen)(bg:cz (.slice ho aM.length gf) aM bA)(a4:Holds o bA)(bo:aM.length<=maxLen)(bs:∀m∈aM,m.l.length<=1000)(aX:∀m∈aM,∀v∈m.l,v.ok):Calls prog 44 #[g.p,ab f,.agg (fR l X bH aQ dK).toArray,.slice ho aM.length gf] o (aS λr w=>∃(q:aB)(a0:List Chunk),r= .tuple #[.agg q.cs.toArray,ab (if(eX g f aM l).isSome=true then 0 else 1)]/\(∀m,eX g f aM l=some m->q.P=m/\fw q a0)/\q.tag.length=32/\C o [] [a0] w):=by
 have a:Own [] o:=C.start o
 refine iq [g.p,ab f,.agg (fR l X bH aQ dK).toArray,.slice ho aM.length gf] (fn:=f44) func44 ntmps44 (bP 2 a j j (λH w a=>cn 0 a j (λF w a=>?_)))
 have a:C o [] [bi F dM,R H (fR l X bH aQ dK).toArray 33] w:=a
 refine bS 6 (U:=fR l X bH aQ dK) j j j (bq (C.aj (b:=H) a)) (bp 0 (Ek (Y.st a (al.off.nil g)) aa (a.rd az (bU.of_nil _ _))) j (λw I=>?_))
 have a:=a.aN I
 refine aT 1 j j (λaD=>?_) (λaD=>?_)
 .refine ar 2 j (cO (c:=dM.cs.toArray) j j j (λ_=>by kernel_rfl) ?_)
  refine cp 0 (a.bf F) j j j (by simpa using(dM).one) (by rw [List.size_toArray];exact(dM).bY j) (λw a=>?_)
  have a:=C.whole (U:=(dM).cs) a (by rw [(dM).bY j];rfl)
  have a:C o [] (bi F (dM)::_) w:=a
  refine bJ 1 j ⟨.tuple #[.agg dM.cs.toArray,ab 1],λw N=>?_⟩
  have a:=N.st a (cB _)
  refine⟨dp (U:=dM.cs) results44 j j j j (bq (C.aj (b:=F) a)),?_⟩
  have M:eX g f aM l=none:=aF (by rw [show l.may g f=false from by simpa using aD];decide)
  rw [M]
  exact⟨dM,[],j,(by intro m hm;cases hm),j,a.bare.empty⟩
 have a:C o [] ([R H (fR l X bH aQ dK).toArray 33]++_) _:=a.front
 have a:=a.drew
 have Z:l.may g f=true:=by simpa using aD
 have bG:l.x.length<=200:=eE.u2 Z
 refine bz 2 j (λw=>∃ae,C o [] ([R H (fR l X bH aQ dK).toArray 33]++ae) w) ⟨_,a⟩ (af 0 1 j (be 1 j a7 j (af 2 2 j (be 4 j a7 j (af 5 1 j (be 6 j a7 j (af 7 1 j (be 8 j a7 j (af 9 1 j (be 10 j a7 j (aJ 11 13 j j ?_ ?_)))))))))))
 refine cN j j j (gW (c:=bH) (a.rd az (bU.of_nil _ _)) (by omega)) (λr w⟨E,O,I⟩=>?_)
 obtain⟨n,t,rfl,_,_⟩:=O.form
 have a:=a.aN I
 have a:C o [] ([R H (fR l X bH aQ dK).toArray 33]++_) w:=a.front
 refine an ⟨⟨_,a⟩,?_⟩
 refine aV 12 j (λw _=>e0 (c:=(l.bk f n t none [] 0).cs.toArray) j (λ_=>by kernel_rfl)) (aW 13 j (en a j j (λD w a=>?_)))
 have a:C o [] (bi D dM::_) w:=a
 have a:C o [] ([R H (fR l X bH aQ dK).toArray 33]++_) w:=a.front
 refine an ⟨⟨_,a⟩,?_⟩
 rotate_left
 refine en a j j (λD w a=>?_)
 have a:C o [] (bi D dM::_) w:=a
 have a:C o [] ([R H (fR l X bH aQ dK).toArray 33]++_) w:=a.front
 refine an ⟨⟨_,a⟩,?_⟩
 refine aW 11 j (cN j j j (gW (c:=bH) (a.rd az (bU.of_nil _ _)) (by omega)) (λr w⟨E,O,I⟩=>?_))
 obtain⟨n,t,rfl,_,_⟩:=O.form
 have a:=a.aN I
 have a:C o [] ([R H (fR l X bH aQ dK).toArray 33]++_) w:=a.front
 refine an ⟨⟨_,a⟩,?_⟩
 refine aV 12 j (λw _=>e0 (c:=(l.bk f n t none [] 0).cs.toArray) j (λ_=>by kernel_rfl)) ?_
 rotate_left
 all_goals
  refine dy 14 j (c5 (a.bf D) j j j (by simpa using((l.bk f n t none [] 0)).one) (by rw [List.size_toArray];exact((l.bk f n t none [] 0)).bY j) bR (λw a=>?_))
  have a:=C.whole (U:=((l.bk f n t none [] 0)).cs) a (by rw [((l.bk f n t none [] 0)).bY j];rfl)
  have a:C o [] (bi D ((l.bk f n t none [] 0))::_) w:=a
  refine an (cX (au 3 j (aw (C.aj (b:=H) a) j) (bp 0 (np (a.rd az (bU.of_nil _ _)) (by omega) bB) j (λw I=>?_))))
  have a:=a.aN I
  refine cn 0 a j (λaA w a=>cp 0 a j j j (by simpa using fH (bL l.x)) (by rw [List.size_toArray,ds,e4]) (λw a=>?_))
  have a:=C.whole (U:=aE (bL l.x)) a (by rw [ds,e4];rfl)
  have a:C o [] [bi D (l.bk f n t none [] 0),R H (fR l X bH aQ dK).toArray 33,bi F dM,E,R aA (aE (bL l.x)).toArray 66] w:=a.as
  refine au 4 j (aw (C.aj (b:=H) a) j) (aT 5 j j (λQ=>?_) (λQ=>?_))
  .refine bS 2 (U:=aE (bL l.x)) j j (by rw [ds,e4]) (bq (C.aj (b:=aA) a)) (bp 1 (oH (Y.st a (al.off.nil g)) aa (e4 _)) j (λw I=>?_))
   have a:=a.aN I
   have S:(cU g 3 0 0 (bL l.x) f).ok:=iU _ _ _ _ _ _ (e4 _)
   refine gv (U:=(cU g 3 0 0 (bL l.x) f).cs) a j j j ((cU g 3 0 0 (bL l.x) f).len S) (by decide) (by decide) (λav w a=>?_)
   have a:C o [] (R av (cU g 3 0 0 (bL l.x) f).cs.toArray 108::_) w:=a
   refine ar 1 j (cC (a.bf D) j j j j (by rw [hq,(l.bk f n t none [] 0).bY j];decide) (λw a=>?_))
   have a:=C.gk a (eE.mx l f n t none (some ⟨av,0,none⟩) [] [(cU g 3 0 0 (bL l.x) f)] 0 1)
   have a:C o [] (bi D (l.bk f n t (some ⟨av,0,none⟩) [(cU g 3 0 0 (bL l.x) f)] 1)::_) w:=a
   obtain⟨B,d,z,U,ac,J,aU,K,a⟩:∃(B:Option Addr)(d:Nat)(z:List Chunk)(U:List aG),l.aH g f aM=some U/\ej (.slice B U.length d) U z/\U.length<=10/\(∀v∈U,v.ok)/\C o [] [bi D (l.bk f n t B U d),R H (fR l X bH aQ dK).toArray 33,bi F dM,E,z] w:=⟨some ⟨av,0,none⟩,1,_,[(cU g 3 0 0 (bL l.x) f)],by unfold eE.aH;rw [if_pos (by simpa using Q)],ej.lit S,by simp,(by intro v T;rw [List.mem_singleton.1 T];exact S),a.as⟩
   have am:fw (l.bk f n t B U d) (E++z):=⟨E,z,j,⟨O,J⟩,j,K,⟨show l.x.length<=1000000 by omega,show U.length<=1000 by omega⟩⟩
   refine bS 4 (U:=(l.bk f n t B U d).cs) j j ((l.bk f n t B U d).bY j) (bq (C.aj (b:=D) a)) ?_
   have ak:=(am.read (Holds.app (a.holds (G:=E) (by simp)) (a.holds (G:=z) (by simp)))).1
   refine bm 0 (l7 ak (show l.x.length<=_ by omega) (show U.length<=_ by omega)) j (λr w⟨bn,ah,I⟩=>?_)
   have a:=a.aN I
   have ai:(l.bk f n t B U d).body.length<=1000000:=by
    have a2:=lm U K
    have a3:=jB l.x (by omega)
    have ag:=gq [4,l.k,f,l.s,l.v]
    simp only [ep,ga] at ag
    show(et [4,l.k,f,l.s,l.v]++(hs l.x++jp U)).length<=_
    simp only [ca]
    omega
   obtain⟨aZ,a1,rfl,_,_,ao,_⟩:=ah.read (a.holds (by simp))
   refine bp 0 (nm (Y.st a (al.off.nil g)) aa ao ai (i:=f) (d:=a1)) j (λw I=>?_)
   have a:=a.aN I
   refine ar 1 j (c5 (a.bf D) j j j (by simpa using fH (g.cu f (l.bk f n t B U d).body)) (by rw [List.size_toArray,ds,al.ea]) (by rw [List.size_toArray,(l.bk f n t B U d).bY j];decide) (λw a=>?_))
   have a:=C.gk a ((l.bk f n t B U d).o4 (g.cu f (l.bk f n t B U d).body) (by rw [al.ea];rfl))
   have a:C o [] (bi D ({l.bk f n t B U d with tag:=g.cu f (l.bk f n t B U d).body}:aB)::_) w:=a
   refine bS 2 (U:=({l.bk f n t B U d with tag:=g.cu f (l.bk f n t B U d).body}:aB).cs) j j (({l.bk f n t B U d with tag:=g.cu f (l.bk f n t B U d).body}:aB).bY (al.ea _ _ _)) (bq (C.aj (b:=D) a)) (cp 0 (a.bf F) j j j (by simpa using(({l.bk f n t B U d with tag:=g.cu f (l.bk f n t B U d).body}:aB)).one) (by rw [List.size_toArray];exact(({l.bk f n t B U d with tag:=g.cu f (l.bk f n t B U d).body}:aB)).bY (al.ea _ _ _)) (λw a=>?_))
   have a:=C.whole (U:=(({l.bk f n t B U d with tag:=g.cu f (l.bk f n t B U d).body}:aB)).cs) a (by rw [(({l.bk f n t B U d with tag:=g.cu f (l.bk f n t B U d).body}:aB)).bY (al.ea _ _ _)];rfl)
   have a:C o [] (bi F (({l.bk f n t B U d with tag:=g.cu f (l.bk f n t B U d).body}:aB))::_) w:=a
   refine bJ 1 j ⟨.tuple #[.agg ({l.bk f n t B U d with tag:=g.cu f (l.bk f n t B U d).body}:aB).cs.toArray,ab 0],λw N=>?_⟩
   have a:=N.st a (cB _)
   refine⟨dp (U:=({l.bk f n t B U d with tag:=g.cu f (l.bk f n t B U d).body}:aB).cs) results44 j j j (({l.bk f n t B U d with tag:=g.cu f (l.bk f n t B U d).body}:aB).bY (al.ea _ _ _)) (bq (C.aj (b:=F) a)),?_⟩
   have M:eX g f aM l=some ((l.msg f U).cu g):=by
    unfold eX
    rw [a6 Z,ac]
    rfl
   rw [M]
   have a:C o [] [E,z] w:=a.as
   exact⟨({l.bk f n t B U d with tag:=g.cu f (l.bk f n t B U d).body}:aB),E++z,j,(λm hm=>by cases hm;exact⟨j,E,z,j,⟨O,J⟩,al.ea _ _ _,K,⟨show l.x.length<=1000000 by omega,show U.length<=1000 by omega⟩⟩),al.ea _ _ _,C.perm (A:=[E,z]) a (by simp)⟩
  refine aT 4 j j (λW=>?_) (λW=>?_)
  refine au 4 j (aw (C.aj (b:=H) a) j) (ar 2 j (c7 65 j (λaK=>?_) (λaK=>?_)))
  .refine ar 7 j (cO (c:=dM.cs.toArray) j j j (λ_=>by kernel_rfl) ?_)
   refine cp 0 (a.bf F) j j j (by simpa using(dM).one) (by rw [List.size_toArray];exact(dM).bY j) (λw a=>?_)
   have a:=C.whole (U:=(dM).cs) a (by rw [(dM).bY j];rfl)
   have a:C o [] (bi F (dM)::_) w:=a
   refine bJ 1 j ⟨.tuple #[.agg dM.cs.toArray,ab 1],λw N=>?_⟩
   have a:=N.st a (cB _)
   refine⟨dp (U:=dM.cs) results44 j j j j (bq (C.aj (b:=F) a)),?_⟩
   have M:eX g f aM l=none:=by
    unfold eX eE.aH
    rw [a6 Z,aF (by simpa using Q),if_pos (by simpa using W),if_pos (.inl (of_decide_eq_true aK))]
    rfl
   rw [M]
   exact⟨dM,[],j,(by intro m hm;cases hm),j,a.bare.empty⟩
  refine au 1 j (aw (C.aj (b:=H) a) j) (aT 2 j j (λaL=>?_) (λaL=>?_))
  .refine ar 2 j (cO (c:=dM.cs.toArray) j j j (λ_=>by kernel_rfl) ?_)
   refine cp 0 (a.bf F) j j j (by simpa using(dM).one) (by rw [List.size_toArray];exact(dM).bY j) (λw a=>?_)
   have a:=C.whole (U:=(dM).cs) a (by rw [(dM).bY j];rfl)
   have a:C o [] (bi F (dM)::_) w:=a
   refine bJ 1 j ⟨.tuple #[.agg dM.cs.toArray,ab 1],λw N=>?_⟩
   have a:=N.st a (cB _)
   refine⟨dp (U:=dM.cs) results44 j j j j (bq (C.aj (b:=F) a)),?_⟩
   have M:eX g f aM l=none:=by
    unfold eX eE.aH
    rw [a6 Z,aF (by simpa using Q),if_pos (by simpa using W),if_pos (.inr (of_decide_eq_true aL))]
    rfl
   rw [M]
   exact⟨dM,[],j,(by intro m hm;cases hm),j,a.bare.empty⟩
  refine au 4 j (aw (C.aj (b:=H) a) j) (au 1 j (aw (C.aj (b:=H) a) j) (au 1 j (aw (C.aj (b:=H) a) j) (bS 0 (U:=aE (bL l.x)) j j (by rw [ds,e4]) (bq (C.aj (b:=aA) a)) (bp 1 (oH (Y.st a (al.off.nil g)) aa (e4 _)) j (λw I=>?_)))))
  have a:=a.aN I
  have S:(cU g l.di l.s l.v (bL l.x) f).ok:=iU _ _ _ _ _ _ (e4 _)
  refine gv (U:=(cU g l.di l.s l.v (bL l.x) f).cs) a j j j ((cU g l.di l.s l.v (bL l.x) f).len S) (by decide) (by decide) (λax w a=>?_)
  have a:C o [] (R ax (cU g l.di l.s l.v (bL l.x) f).cs.toArray 108::_) w:=a
  refine ar 1 j (cC (a.bf D) j j j j (by rw [hq,(l.bk f n t none [] 0).bY j];decide) (λw a=>?_))
  have a:=C.gk a (eE.mx l f n t none (some ⟨ax,0,none⟩) [] [(cU g l.di l.s l.v (bL l.x) f)] 0 1)
  have a:C o [] (bi D (l.bk f n t (some ⟨ax,0,none⟩) [(cU g l.di l.s l.v (bL l.x) f)] 1)::_) w:=a
  obtain⟨B,d,z,U,ac,J,aU,K,a⟩:∃(B:Option Addr)(d:Nat)(z:List Chunk)(U:List aG),l.aH g f aM=some U/\ej (.slice B U.length d) U z/\U.length<=10/\(∀v∈U,v.ok)/\C o [] [bi D (l.bk f n t B U d),R H (fR l X bH aQ dK).toArray 33,bi F dM,E,z] w:=⟨some ⟨ax,0,none⟩,1,_,[(cU g l.di l.s l.v (bL l.x) f)],by unfold eE.aH;rw [if_neg (by simpa using Q),if_pos (by simpa using W),if_neg (λh=>h.elim (λh=>absurd h (of_decide_eq_false aK)) (λh=>absurd h (of_decide_eq_false aL)))],ej.lit S,by simp,(by intro v T;rw [List.mem_singleton.1 T];exact S),a.as⟩
  rotate_left
  refine au 4 j (aw (C.aj (b:=H) a) j) (bm 0 (EZ (o:=w) (aM:=aM) (ho:=ho) (aQ:=aQ) (gf:=gf) (dK:=dK) (use:=l.use)) j (λr w⟨a9,ba,bv,I⟩=>?_))
  subst bv
  have bD:=(a4.st a).st I
  have bE:=I.rd (a.rd hu (bU.of_nil _ _)) (bU.of_nil _ _)
  have a:=(a.aN I).empty
  have a:C o [] [R ba #[.slice aQ l.use.length dK] 31,R a9 #[.slice ho aM.length gf] 56,bi D (l.bk f n t none [] 0),R H (fR l X bH aQ dK).toArray 33,bi F dM,E,[]] w:=a.as
  have a:C o [] ([R ba #[.slice aQ l.use.length dK] 31,R a9 #[.slice ho aM.length gf] 56]++[bi D (l.bk f n t none [] 0),R H (fR l X bH aQ dK).toArray 33,bi F dM,E,[]]) w:=a
  refine jY 1 j (EW bg) j (by have:=a.size;simpa using this) a j (λ_=>rfl) (by intro p a8;simp at a8;rcases a8 with rfl<;>rfl)
   (λpre ae=>∃B d z,ae=[bi D (l.bk f n t B pre d),R H (fR l X bH aQ dK).toArray 33,bi F dM,E,z]/\ej (.slice B pre.length d) pre z/\pre.length<=10/\∃r,ir aM l.use=pre++r) (λe ae=>match e with| .exit id=>id=1/\∃B d z,∃pre:List aG,ae=[bi D (l.bk f n t B pre d),R H (fR l X bH aQ dK).toArray 33,bi F dM,E,z]/\ej (.slice B pre.length d) pre z/\pre=(ir aM l.use).take 10|_=>False) ⟨none,0,[],j,Row.nil _ _,ch _,_,j⟩ (λL aI bd=>⟨nt.new a4 hu (by rw [<-dH];exact a.snoc bd),bw,bo,bl,bs⟩) (λ_ _ _ _=>trivial) ?_ ?_ (λ_ _ h=>h.elim) ?_
  .rintro y pre x bC L bI ⟨rx,ay⟩ ⟨B,d,z,rfl,J,aO,_⟩ a
   have ap:x.ok:=sb aX l.use x (by rw [ay];simp)
   have a:=C.gs a
   have bF:pre.length<(ir aM l.use).length:=by rw [ay];simp
   refine cn 1 a j (λaC w a=>cp 0 (a.bf aC) j j j (by simpa using x.one) (by rw [List.size_toArray];exact x.len ap) (λw a=>?_))
   have a:=C.whole (U:=x.cs) a (by rw [x.len ap];rfl)
   have a:C _ _ [R aC x.cs.toArray 108,bi D (l.bk f n t B pre d),R H (fR l X bH aQ dK).toArray 33,bi F dM,E,z] w:=a.as
   refine bJ 0 j (⟨j,_,a,λL bK a=>?_⟩)
   have a:=C.gs a
   refine au 5 j (aw (C.aj (b:=D) a) (show(l.bk f n t B pre d).cs.toArray[6]? =some (.slice B pre.length d) from aB.eV _)) (aT 2 j j (λad=>?_) (λad=>?_))
   .refine bJ 0 j (⟨[bi D (l.bk f n t B pre d),R H (fR l X bH aQ dK).toArray 33,bi F dM,E,z],a.as,j,B,d,z,pre,j,J,?_⟩)
    have bt:pre.length=10:=by have:=br ad;omega
    rw [ay,<-bt,l2]
   refine au 3 j (aw (C.aj (b:=D) a) (show(l.bk f n t B pre d).cs.toArray[6]? =some (.slice B pre.length d) from aB.eV _)) (bS 0 (U:=x.cs) j j (x.len ap) (bq (C.aj (b:=aC) a)) (gv (U:=x.cs) a j j j (x.len ap) (by decide) (by decide) (λbc w a=>?_)))
   have aP:=bq (C.aj (b:=bc) a)
   refine eK (a.to z) J j j (by decide) j j j (m:=1) (news:=x.cs) (x.len ap) aP (by intro u hu;exact List.all_eq_true.1 x.one u (by simpa using hu)) (by have:=of_decide_eq_false ad;omega) (by unfold maxLen;have:=of_decide_eq_false ad;omega) (λv2 aq w a5 a=>?_)
   obtain⟨V,dn,rfl,_,_⟩:=Row.form a5
   have bx:ej (.slice V (pre++[x]).length dn) (pre++[x]) aq:=by
    show Row 108 68 _ (pre++[x]).length (vcs (pre++[x])) aq
    rw [ca,List.length_singleton,sZ]
    exact a5
   refine ar 1 j (cC (a.bf D) j j j j (by rw [hq,(l.bk f n t B pre d).bY j];decide) (λw a=>?_))
   have a:=C.gk a (show _=(l.bk f n t V (pre++[x]) dn).cs.toArray from by have:=eE.mx l f n t B V pre (pre++[x]) d dn;rw [ca,List.length_singleton] at this;exact this)
   have a:C _ _ (bi D (l.bk f n t V (pre++[x]) dn)::_) w:=a
   refine bJ 0 j (⟨[bi D (l.bk f n t V (pre++[x]) dn),R H (fR l X bH aQ dK).toArray 33,bi F dM,E,aq],a.as,V,dn,aq,j,bx,by rw [ca,List.length_singleton];have:=of_decide_eq_false ad;omega,⟨rx,by rw [ay,List.append_assoc];rfl⟩⟩)
  .rintro xs bb w bh ⟨B,d,z,rfl,J,aO,_⟩ a
   subst bh
   obtain⟨B,d,z,U,ac,J,aU,K,a⟩:∃(B:Option Addr)(d:Nat)(z:List Chunk)(U:List aG),l.aH g f aM=some U/\ej (.slice B U.length d) U z/\U.length<=10/\(∀v∈U,v.ok)/\C o [] [bi D (l.bk f n t B U d),R H (fR l X bH aQ dK).toArray 33,bi F dM,E,z] w:=⟨B,d,z,ir aM l.use,by unfold eE.aH;rw [if_neg (by simpa using Q),if_neg (by simpa using W),List.take_of_length_le aO],J,aO,(λv T=>sb aX l.use v T),a.as⟩
   have am:fw (l.bk f n t B U d) (E++z):=⟨E,z,j,⟨O,J⟩,j,K,⟨show l.x.length<=1000000 by omega,show U.length<=1000 by omega⟩⟩
   refine bS 4 (U:=(l.bk f n t B U d).cs) j j ((l.bk f n t B U d).bY j) (bq (C.aj (b:=D) a)) ?_
   have ak:=(am.read (Holds.app (a.holds (G:=E) (by simp)) (a.holds (G:=z) (by simp)))).1
   refine bm 0 (l7 ak (show l.x.length<=_ by omega) (show U.length<=_ by omega)) j (λr w⟨bn,ah,I⟩=>?_)
   have a:=a.aN I
   have ai:(l.bk f n t B U d).body.length<=1000000:=by
    have a2:=lm U K
    have a3:=jB l.x (by omega)
    have ag:=gq [4,l.k,f,l.s,l.v]
    simp only [ep,ga] at ag
    show(et [4,l.k,f,l.s,l.v]++(hs l.x++jp U)).length<=_
    simp only [ca]
    omega
   obtain⟨aZ,a1,rfl,_,_,ao,_⟩:=ah.read (a.holds (by simp))
   refine bp 0 (nm (Y.st a (al.off.nil g)) aa ao ai (i:=f) (d:=a1)) j (λw I=>?_)
   have a:=a.aN I
   refine ar 1 j (c5 (a.bf D) j j j (by simpa using fH (g.cu f (l.bk f n t B U d).body)) (by rw [List.size_toArray,ds,al.ea]) (by rw [List.size_toArray,(l.bk f n t B U d).bY j];decide) (λw a=>?_))
   have a:=C.gk a ((l.bk f n t B U d).o4 (g.cu f (l.bk f n t B U d).body) (by rw [al.ea];rfl))
   have a:C o [] (bi D ({l.bk f n t B U d with tag:=g.cu f (l.bk f n t B U d).body}:aB)::_) w:=a
   refine bS 2 (U:=({l.bk f n t B U d with tag:=g.cu f (l.bk f n t B U d).body}:aB).cs) j j (({l.bk f n t B U d with tag:=g.cu f (l.bk f n t B U d).body}:aB).bY (al.ea _ _ _)) (bq (C.aj (b:=D) a)) (cp 0 (a.bf F) j j j (by simpa using(({l.bk f n t B U d with tag:=g.cu f (l.bk f n t B U d).body}:aB)).one) (by rw [List.size_toArray];exact(({l.bk f n t B U d with tag:=g.cu f (l.bk f n t B U d).body}:aB)).bY (al.ea _ _ _)) (λw a=>?_))
   have a:=C.whole (U:=(({l.bk f n t B U d with tag:=g.cu f (l.bk f n t B U d).body}:aB)).cs) a (by rw [(({l.bk f n t B U d with tag:=g.cu f (l.bk f n t B U d).body}:aB)).bY (al.ea _ _ _)];rfl)
   have a:C o [] (bi F (({l.bk f n t B U d with tag:=g.cu f (l.bk f n t B U d).body}:aB))::_) w:=a
   refine bJ 1 j ⟨.tuple #[.agg ({l.bk f n t B U d with tag:=g.cu f (l.bk f n t B U d).body}:aB).cs.toArray,ab 0],λw N=>?_⟩
   have a:=N.st a (cB _)
   refine⟨dp (U:=({l.bk f n t B U d with tag:=g.cu f (l.bk f n t B U d).body}:aB).cs) results44 j j j (({l.bk f n t B U d with tag:=g.cu f (l.bk f n t B U d).body}:aB).bY (al.ea _ _ _)) (bq (C.aj (b:=F) a)),?_⟩
   have M:eX g f aM l=some ((l.msg f U).cu g):=by
    unfold eX
    rw [a6 Z,ac]
    rfl
   rw [M]
   have a:C o [] [E,z] w:=a.as
   exact⟨({l.bk f n t B U d with tag:=g.cu f (l.bk f n t B U d).body}:aB),E++z,j,(λm hm=>by cases hm;exact⟨j,E,z,j,⟨O,J⟩,al.ea _ _ _,K,⟨show l.x.length<=1000000 by omega,show U.length<=1000 by omega⟩⟩),al.ea _ _ _,C.perm (A:=[E,z]) a (by simp)⟩
  rintro id bb w bj a
  obtain⟨rfl,B,d,z,pre,rfl,J,aR⟩:=bj
  refine⟨_,j,?_⟩
  obtain⟨B,d,z,U,ac,J,aU,K,a⟩:∃(B:Option Addr)(d:Nat)(z:List Chunk)(U:List aG),l.aH g f aM=some U/\ej (.slice B U.length d) U z/\U.length<=10/\(∀v∈U,v.ok)/\C o [] [bi D (l.bk f n t B U d),R H (fR l X bH aQ dK).toArray 33,bi F dM,E,z] w:=⟨B,d,z,pre,by unfold eE.aH;rw [if_neg (by simpa using Q),if_neg (by simpa using W),aR],J,by rw [aR,List.length_take];omega,(λv T=>sb aX l.use v (List.mem_of_mem_take (aR▸T))),a.as⟩
  rotate_left
  all_goals
   have am:fw (l.bk f n t B U d) (E++z):=⟨E,z,j,⟨O,J⟩,j,K,⟨show l.x.length<=1000000 by omega,show U.length<=1000 by omega⟩⟩
   refine bS 4 (U:=(l.bk f n t B U d).cs) j j ((l.bk f n t B U d).bY j) (bq (C.aj (b:=D) a)) ?_
   have ak:=(am.read (Holds.app (a.holds (G:=E) (by simp)) (a.holds (G:=z) (by simp)))).1
   refine bm 0 (l7 ak (show l.x.length<=_ by omega) (show U.length<=_ by omega)) j (λr w⟨bn,ah,I⟩=>?_)
   have a:=a.aN I
   have ai:(l.bk f n t B U d).body.length<=1000000:=by
    have a2:=lm U K
    have a3:=jB l.x (by omega)
    have ag:=gq [4,l.k,f,l.s,l.v]
    simp only [ep,ga] at ag
    show(et [4,l.k,f,l.s,l.v]++(hs l.x++jp U)).length<=_
    simp only [ca]
    omega
   obtain⟨aZ,a1,rfl,_,_,ao,_⟩:=ah.read (a.holds (by simp))
   refine bp 0 (nm (Y.st a (al.off.nil g)) aa ao ai (i:=f) (d:=a1)) j (λw I=>?_)
   have a:=a.aN I
   refine ar 1 j (c5 (a.bf D) j j j (by simpa using fH (g.cu f (l.bk f n t B U d).body)) (by rw [List.size_toArray,ds,al.ea]) (by rw [List.size_toArray,(l.bk f n t B U d).bY j];decide) (λw a=>?_))
   have a:=C.gk a ((l.bk f n t B U d).o4 (g.cu f (l.bk f n t B U d).body) (by rw [al.ea];rfl))
   have a:C o [] (bi D ({l.bk f n t B U d with tag:=g.cu f (l.bk f n t B U d).body}:aB)::_) w:=a
   refine bS 2 (U:=({l.bk f n t B U d with tag:=g.cu f (l.bk f n t B U d).body}:aB).cs) j j (({l.bk f n t B U d with tag:=g.cu f (l.bk f n t B U d).body}:aB).bY (al.ea _ _ _)) (bq (C.aj (b:=D) a)) (cp 0 (a.bf F) j j j (by simpa using(({l.bk f n t B U d with tag:=g.cu f (l.bk f n t B U d).body}:aB)).one) (by rw [List.size_toArray];exact(({l.bk f n t B U d with tag:=g.cu f (l.bk f n t B U d).body}:aB)).bY (al.ea _ _ _)) (λw a=>?_))
   have a:=C.whole (U:=(({l.bk f n t B U d with tag:=g.cu f (l.bk f n t B U d).body}:aB)).cs) a (by rw [(({l.bk f n t B U d with tag:=g.cu f (l.bk f n t B U d).body}:aB)).bY (al.ea _ _ _)];rfl)
   have a:C o [] (bi F (({l.bk f n t B U d with tag:=g.cu f (l.bk f n t B U d).body}:aB))::_) w:=a
   refine bJ 1 j ⟨.tuple #[.agg ({l.bk f n t B U d with tag:=g.cu f (l.bk f n t B U d).body}:aB).cs.toArray,ab 0],λw N=>?_⟩
   have a:=N.st a (cB _)
   refine⟨dp (U:=({l.bk f n t B U d with tag:=g.cu f (l.bk f n t B U d).body}:aB).cs) results44 j j j (({l.bk f n t B U d with tag:=g.cu f (l.bk f n t B U d).body}:aB).bY (al.ea _ _ _)) (bq (C.aj (b:=F) a)),?_⟩
   have M:eX g f aM l=some ((l.msg f U).cu g):=by
    unfold eX
    rw [a6 Z,ac]
    rfl
   rw [M]
   have a:C o [] [E,z] w:=a.as
   exact⟨({l.bk f n t B U d with tag:=g.cu f (l.bk f n t B U d).body}:aB),E++z,j,(λm hm=>by cases hm;exact⟨j,E,z,j,⟨O,J⟩,al.ea _ _ _,K,⟨show l.x.length<=1000000 by omega,show U.length<=1000 by omega⟩⟩),al.ea _ _ _,C.perm (A:=[E,z]) a (by simp)⟩
def aY.jV(m:aY):Prop:=m.cP/\m.s<=63
abbrev ei(l:List aY):Prop:=∀m∈l,m.jV
theorem ei.nil:ei []:=by intro m hm;cases hm
theorem ei.app{a b:List aY}(c:ei a)(d:ei b):ei (a++b):=λm hm=>(dA.1 hm).elim (c m) (d m)
section
variable {g:al} {N:Nat} {s:ai}
theorem ai.z3(h:s.ok g N){m:aY}{t:Int}(c:m.x.length<=200)(a:m.l.length<=10)(b:∀v∈m.l,v.ok):(s.jn g m t).jV:=⟨ai.nn c a b,h.slot.2⟩
theorem ai.wH(h:s.ok g N){m:aY}(c:m.x.length<=200)(a:m.l.length<=10)(b:∀v∈m.l,v.ok):ei (s.all g m):=λd hm=>by
 unfold ai.all at hm
 obtain⟨t,_,rfl⟩:=dT.1 hm
 exact ai.z3 h c a b
theorem ai.AI(h:s.ok g N)(k:Int)(x:List UInt8):ei (s.aH g k x).2:=
 ai.wH h (ch _) (by show 1<=10;omega) (λv a=>by rw [gb.1 a];exact iU _ _ _ _ _ _ (e4 _))
theorem ai.Ho(b:g.ok)(h:s.ok g N){r:ai×List aY}(a:s.step g=some r):ei r.2:=by
 unfold ai.step at a
 split at a
 .rename_i e
  cases a
  unfold ai.gQ at e
  cases bx:(db s.ax).findSome? λp=>s.fl g p.2 with
  |none=>rw [bx] at e;cases e
  |some y=>rw [bx] at e;cases e;exact ei.nil
 .split at a
  .rename_i e
   cases a
   unfold ai.gt at e
   split at e
   .cases e
   .split at e
    .cases e
    .split at e
     .cases e;exact ai.AI (s:={s with hO:=s.view}) {h with} 1 _
     .cases e
  .split at a
   .rename_i e
    cases a
    unfold ai.gX at e
    split at e
    .cases e
    .split at e
     .cases e
     .rename_i y he
      cases e
      have:=h.fl b (h.ip 1 s.view) he
      exact ai.AI (s:={s with comm:=s.view,fQ:=s.view,dF:=y.1,c3:=y.2}) {h with dF:=this.1,c3:=this.2.1,k9:=this.2.2} 2 _
   .unfold ai.gP at a
    split at a
    .cases a
    .split at a
     .cases a
     .rename_i y c
      cases a
      have:=h.gN c
      exact ai.wH h this.1 this.2.1 this.2.2
theorem ai.qh(b:g.ok):∀(k:Nat){N:Nat}{s:ai}{l:List aY},s.ok g N->ei l->ei (ai.go g k s l).2
 |0,_,_,_,_,a=>a
 |k+1,N,s,l,h,a=>by
  rw [ai.go]
  split
  .exact a
  .split
   .exact a
   .rename_i eN b0 e
    exact ai.qh b k (h.step b e) (a.app (ai.Ho b h e))
theorem ai.sN(a:g.ok)(h:s.ok g N):ei (s.steps g).2:=ai.qh a 5 h ei.nil
theorem ai.HB(a:g.ok)(h:s.ok g N){m:aY}(hm:m.cP):ei (s.take g m).2:=by
 unfold ai.take
 split
 .exact ei.nil
 .exact ai.sN a (h.fh hm)
theorem ai.Id(a:g.ok)(h:s.ok g N)(x:List UInt8):ei (s.hS g x).2:=by
 unfold ai.hS
 split
 .exact ei.nil
 .split
  .rename_i b
   exact ai.sN (s:={s with want:=x}) a {h with want:=b.2}
  .exact ai.sN a h
theorem ai.HO(b:g.ok)(h:s.ok g N):ei (s.tick g).2:=by
 unfold ai.tick
 split
 .exact ei.nil
 .rename_i aP
  have c:s.view<8:=by simp at aP;omega
  refine ei.app ?_ (ai.sN b (h.gl c))
  have a:ai.ok g N ({s with view:=s.view+1}:ai):={h with view:=⟨show 0<=s.view+1 by have:=h.view;omega,show s.view+1<=8 by omega⟩}
  unfold ai.gl
  dsimp only
  split
  .exact ei.nil
  .intro m hm
   rw [gb.1 hm]
   exact ai.z3 a h.dF h.c3 h.k9
end
section
variable {g:al} {N M:Nat}
theorem xq(a:g.ok){c:Option ai}(h:∀r,c=some r->r.ok g M){m:aY}(hm:m.cP):ei (g8 g c m).2:=by
 unfold g8
 cases c with
 |none=>exact ei.nil
 |some r=>exact ai.HB a (h r j) hm
theorem xu(a:g.ok){c:Option ai}(h:∀r,c=some r->r.ok g M)(x:List UInt8):ei (fI g c x).2:=by
 unfold fI
 cases c with
 |none=>exact ei.nil
 |some r=>exact ai.Id a (h r j) x
theorem Db(a:g.ok){c:Option ai}(h:∀r,c=some r->r.ok g M):ei (iB g c).2:=by
 unfold iB
 cases c with
 |none=>exact ei.nil
 |some r=>exact ai.HO a (h r j)
theorem aC.FS(c:g.ok){a:aC×List aY}{p:Int×aY}(d:p.2.cP)(h:∀r,a.1.cur=some r->r.ok g M)(b:ei a.2):ei (aC.one g a p).2:=by
 unfold aC.one
 split
 .exact b.app (xq c h d)
 .split<;>exact b
theorem aC.xY(d:g.ok):∀(l:List (Int×aY))(a:aC×List aY)(M:Nat),(∀p∈l,p.2.cP)->(∀r,a.1.cur=some r->r.ok g M)->ei a.2->ei (l.foldl (aC.one g) a).2
 |[],_,_,_,_,c=>c
 |p::r,a,M,b,h,c=>by
  rw [ix]
  exact aC.xY d r _ (M+6) (λq e=>b q (by simp [e])) (aC.zg d (b p (by simp)) h) (aC.FS d (b p (by simp)) h c)
theorem aC.Ct(a:g.ok){s:aC}(h:s.ok g N)(b:∀r,s.cur=some r->r.ok g M):ei (s.dd g).2:=by
 obtain⟨_,_,_,_,_,c⟩:=h.wanted a b
 unfold aC.dd
 refine aC.xY a _ _ (M+5) (λp d=>h.lj p (gS.1 d)) (λr e=>(c r e).1) ?_
 unfold aC.wanted
 split
 .exact ei.nil
 .exact xu a b _
theorem aC.qh(b:g.ok):∀(k:Nat){N:Nat}{s:aC}{l:List aY},s.ok g N->773<=N->ei l->ei (aC.go g k s l).2
 |0,_,_,_,_,_,a=>a
 |k+1,N,s,l,h,e,a=>by
  rw [aC.go]
  split
  .exact a
  .rename_i r f
   split
   .obtain⟨c,d⟩:=aC.ko h f
    exact aC.qh b k (c.dd b d (by omega)) e (a.app (aC.Ct b c d))
   .exact a
theorem aC.qi(a:g.ok):∀(k:Nat){N:Nat}{s:aC}{l:List aY},s.ok g N->773<=N->(aC.go g k s l).2.length<=l.length+6450*k
 |0,_,_,l,_,_=>by show l.length<=_;omega
 |k+1,N,s,l,h,e=>by
  rw [aC.go]
  split
  .show l.length<=_;omega
  .rename_i r f
   split
   .obtain⟨b,c⟩:=aC.ko h f
    have d:=aC.qi a k (l:=l++((s.next r).dd g).2) (b.dd a c (by omega)) e
    have i:=aC.w3 (g:=g) a b.stored
    rw [ca] at d
    omega
   .show l.length<=_;omega
def hX(l:List aY):Prop:=ei l/\l.length<=420000
theorem hX.nil:hX []:=⟨ei.nil,ch _⟩
theorem aC.uL(b:g.ok){s:aC}{l:List aY}(h:s.ok g N)(a:773<=N)(c:ei l)(ad:l.length<=51):hX (s.h0 g l).2:=
 ⟨aC.qh b 65 h a c,by have:=aC.qi (l:=l) b 65 h a;show(aC.go g 65 s l).2.length<=_;omega⟩
theorem aC.Ak(c:g.ok){s:aC}(h:s.ok g N)(k:773<=N)(x:List UInt8):hX (s.eH g x).2.1:=by
 unfold aC.eH
 split
 .exact hX.nil
 .rename_i m
  split
  .exact hX.nil
  .split
   .exact hX.nil
   .rename_i l
    split
    .exact hX.nil
    .have i:aC.ok g (N+5) ({s with cx:=s.cx++[x],cur:=(fI g s.cur x).1}:aC):=by
      have d:=h.more (gz N 5)
      refine{d with cur:=λr a=>⟨uk c (λr a=>(h.cur r a).1) r a,?_⟩,cx:=?_,lg:=λy b=>?_}
      .have e:s.cur.isSome=true:=by rw [<-rT (g:=g) (x:=x),show(fI g s.cur x).1=some r from a];rfl
       obtain⟨j,f⟩:=g4.1 e
       exact(h.cur j f).2
      .show(s.cx++[x]).length<=16
       rw [ca,List.length_singleton];omega
      .rcases dA.1 (show y∈s.cx++[x] from b) with b|b
       .exact h.lg y b
       .rw [gb.1 b];omega
     exact aC.uL c i (by omega) (xu c (λr a=>(h.cur r a).1) x) (ed (uj c _ _) (by omega))
theorem aC.HZ{s:aC}(h:s.ok g N)(m:aY):hX (s.told g m):=by
 unfold aC.told
 split
 .exact hX.nil
 .rename_i d
  split
  .exact hX.nil
  .rename_i e he
   have hm:=hZ he
   obtain⟨a,b,c⟩:=h.nd e hm
   have j:=(fa.1 he).1
   have k:=h.log
   have l:¬m.s<0:=λf=>d (.inr (.inl f))
   refine⟨λq i=>?_,by simp⟩
   rw [gb.1 i]
   exact⟨⟨al.ea _ _ _,c,a,b⟩,show m.s<=63 by omega⟩
theorem aC.sR(b:g.ok){s:aC}(h:s.ok g N)(f:773<=N){m:aY}(hm:m.cP):hX (s.take g m).2:=by
 unfold aC.take
 split
 .exact aC.Ak b h f _
 .split
  .exact aC.HZ h m
  .split
   .have i:aC.ok g (N+6) ({s with cur:=(g8 g s.cur m).1}:aC):=by
     have c:=h.more (gz N 6)
     refine{c with cur:=λr a=>⟨rR b hm (λr a=>(h.cur r a).1) r a,?_⟩}
     have d:s.cur.isSome=true:=by rw [<-rS (g:=g) (m:=m),show(g8 g s.cur m).1=some r from a];rfl
     obtain⟨j,e⟩:=g4.1 d
     exact(h.cur j e).2
    exact aC.uL b i (by omega) (xq b (λr a=>(h.cur r a).1) hm) (ed (rQ b _ _) (by omega))
   .split<;>exact hX.nil
theorem aC.sS(b:g.ok){s:aC}(h:s.ok g N)(j:773<=N):hX (s.tick g).2:=by
 have f:aC.ok g (N+6) ({s with cur:=(iB g s.cur).1}:aC):=by
  have c:=h.more (gz N 6)
  refine{c with cur:=λr a=>⟨uh b (λr a=>(h.cur r a).1) r a,?_⟩}
  have d:s.cur.isSome=true:=by rw [<-ui (g:=g),show(iB g s.cur).1=some r from a];rfl
  obtain⟨i,e⟩:=g4.1 d
  exact(h.cur i e).2
 exact aC.uL b f (by omega) (Db b (λr a=>(h.cur r a).1)) (xt b _)
theorem bo.tW(b:g.ok){x:bo}(h:x.ok g N)(a:773<=N)(I:bG):hX (x.ask g I).2.1:=by
 unfold bo.ask
 split
 .exact aC.Ak b h.s a _
 .exact hX.nil
theorem bo.sR(b:g.ok){x:bo}(h:x.ok g N)(a:773<=N){m:aY}(hm:m.cP):hX (x.take g m).2:=aC.sR b h.s a hm
theorem bo.sS(b:g.ok){x:bo}(h:x.ok g N)(a:773<=N):hX (x.tick g).2:=aC.sS b h.s a
end
def u9(s:eb):b9:=⟨((d9 s).1:Nat),((d9 (e3 s 1)).1:Nat),((d9 (e3 s 2)).1:Nat),((d9 (e3 s 3)).1:Nat)⟩
def gZ(aD:List UInt8):Option b9:=if e3 (b3 aD 3) 4=some []/\(u9 (b3 aD 3)).ok=true then some (u9 (b3 aD 3)) else none
def jG:b9:=⟨0,0,0,0⟩
theorem Dh{o:World}{A:Option Addr}{aD:List UInt8}{c:Nat}(E:Rd o A (aE aD))(q:aD.length<=1000000000):Calls prog 45 #[.slice A aD.length c] o (aS λx w=>x= .tuple #[fT ((gZ aD).getD jG),ab (if(gZ aD).isSome=true then 0 else 2)]/\C o [] [] w):=by
 have a:Own [] o:=C.start o
 refine e7 [.slice A aD.length c] (fn:=f45) func45 ntmps45 (cn 2 a j (λaJ w a=>?_))
 have f:=w5 (c:=c) (k:=3) (a.rd E (bU.of_nil _ _)) q
 refine bm 4 f j (λx w⟨r,v,b,G,F,d,ad⟩=>?_)
 subst F
 have a:=a.aN ad
 have i:(b3 aD 3).left.length<=1000000000:=by
  unfold b3
  split
  .exact vI (some aD) q
  .simp [eb.left]
 have y:=eC a.cE d (eS (b3 aD 3) i 0)
 refine bp 4 y j (λw⟨v,b,d,ad⟩=>?_)
 have a:=a.cD ad
 have z:=eC a.cE d (eS (b3 aD 3) i 1)
 refine bp 1 z j (λw⟨v,b,d,ad⟩=>?_)
 have a:=a.cD ad
 have B:=eC a.cE d (eS (b3 aD 3) i 2)
 refine bp 1 B j (λw⟨v,b,d,ad⟩=>?_)
 have a:=a.cD ad
 have D:=eC a.cE d (eS (b3 aD 3) i 3)
 refine bp 1 D j (λw⟨v,b,d,ad⟩=>?_)
 have a:=a.cD ad
 refine cO (c:= #[.int .i64 ((d9 (b3 aD 3)).1:Nat),.int .i64 ((d9 (e3 (b3 aD 3) 1)).1:Nat),.int .i64 ((d9 (e3 (b3 aD 3) 2)).1:Nat),.int .i64 ((d9 (e3 (b3 aD 3) 3)).1:Nat)]) j j j (λ_=>by kernel_rfl) (cn 0 a j (λH w a=>cp 0 a j j j j j (λw a=>?_)))
 have a:=a.f1.f2.f1
 have f:=AL a.cE d
 refine bp 4 f j (λw ad=>?_)
 have a:=(a.cD ad).f2
 refine ar 2 j (c7 20 j (λl=>?_) (λl=>?_))
 .refine ar 7 j (cO (c:= #[ab 0,ab 0,ab 0,ab 0]) j j j (λ_=>by kernel_rfl) ?_)
  refine cp 0 a.f3 j j j j j (λw a=>bJ 1 j ⟨_,dp results45 j j j j (a.bN),?_⟩)
  have n:¬e3 (b3 aD 3) 4=some []:=by
   have:=l
   simp only [kc,rj] at this
   exact this
  have hm:gZ aD=none:=aF (λh=>n h.1)
  rw [hm]
  exact⟨j,a.bare⟩
 refine bS 0 j j j a.bN ?_
 have f:=yl (o:=w) (k:=((d9 (b3 aD 3)).1:Nat)) (p:=((d9 (e3 (b3 aD 3) 1)).1:Nat)) (e:=((d9 (e3 (b3 aD 3) 2)).1:Nat)) (t:=((d9 (e3 (b3 aD 3) 3)).1:Nat))
 refine bp 0 f j (λw ad=>?_)
 have a:=a.aN ad
 refine aT 2 j j (λm=>?_) (λm=>?_)
 .refine ar 2 j (cO (c:= #[ab 0,ab 0,ab 0,ab 0]) j j j (λ_=>by kernel_rfl) ?_)
  refine cp 0 a.f3 j j j j j (λw a=>bJ 1 j ⟨_,dp results45 j j j j (a.bN),?_⟩)
  have hm:gZ aD=none:=aF (λh=>by
   have s:=h.2
   have g:(!iZ (((d9 (b3 aD 3)).1:Nat):Int) (((d9 (e3 (b3 aD 3) 1)).1:Nat):Int) (((d9 (e3 (b3 aD 3) 2)).1:Nat):Int) (((d9 (e3 (b3 aD 3) 3)).1:Nat):Int))=true:=m
   rw [show iZ (((d9 (b3 aD 3)).1:Nat):Int) (((d9 (e3 (b3 aD 3) 1)).1:Nat):Int) (((d9 (e3 (b3 aD 3) 2)).1:Nat):Int) (((d9 (e3 (b3 aD 3) 3)).1:Nat):Int)=true from s] at g
   cases g)
  rw [hm]
  exact⟨j,a.bare⟩
 refine bS 3 j j j a.bN (cp 0 a.f3 j j j j j (λw a=>bJ 1 j ⟨_,dp results45 j j j j (a.bN),?_⟩))
 have n:e3 (b3 aD 3) 4=some []:=by
  have:=l
  simp only [Bool.not_eq_false',gL] at this
  exact this
 have hm:gZ aD=some (u9 (b3 aD 3)):=a6 ⟨n,by
  have g:(!iZ (((d9 (b3 aD 3)).1:Nat):Int) (((d9 (e3 (b3 aD 3) 1)).1:Nat):Int) (((d9 (e3 (b3 aD 3) 2)).1:Nat):Int) (((d9 (e3 (b3 aD 3) 3)).1:Nat):Int))=false:=m
  have u:iZ (((d9 (b3 aD 3)).1:Nat):Int) (((d9 (e3 (b3 aD 3) 1)).1:Nat):Int) (((d9 (e3 (b3 aD 3) 2)).1:Nat):Int) (((d9 (e3 (b3 aD 3) 3)).1:Nat):Int)=true:=by simpa using g
  exact u⟩
 rw [hm]
 exact⟨j,a.bare⟩
structure e6 where
 k:Int
 node:Int
 n:Int
 x:List UInt8
 eX:eE
def aX.rep(z:aX)(i:Int):Option bo:=if 0<=i then(z.bM[i.toNat]?).getD none else none
def aX.mw(z:aX)(i:Int)(x:bo):aX:={z with bM:=z.bM.set i.toNat (some x)}
def aX.fV(z:aX)(i:Nat)(p:bI×Int):aX:={z with cJ:=z.cJ.set i p}
def aX.part(z:aX)(i:Int):Option cM:=if 0<=i then z.parts[i.toNat]? else none
def mA(n:Int):bG:=⟨4,15,n,[],0,0,0,0,false⟩
def aX.rG(g:al)(z:aX)(s:e6):aX×Int:=z.asks g (mA s.n) (if gO (mA s.n)=true then 0 else 1)
def aX.inits(g:al)(z:aX)(i:Nat)(p:bI×Int):aX×Int:=(z.fV i (p.1.init.1,if p.1.init.2.2=0 then p.1.init.2.1.s else p.2)).asks g p.1.init.2.1 p.1.init.2.2
def aX.nZ(z:aX)(i:Int)(b:cM):aX:={z with parts:=z.parts.set i.toNat b}
def aX.records(z:aX)(s:e6)(i:Nat)(p:bI×Int):aX×Int:=
 if(p.1.record s.n s.x).2.2≠0 then(z.fV i ((p.1.record s.n s.x).1,p.2),(p.1.record s.n s.x).2.2)
 else match z.part s.n with
  |none=>(z.fV i ((p.1.record s.n s.x).1,p.2),1)
  |some b=>((z.fV i ((if(b.log.append (p.1.record s.n s.x).2.1).2.2=0 then((p.1.record s.n s.x).1.jz s.n).1 else(p.1.record s.n s.x).1),p.2)).nZ s.n {b with log:=(b.log.append (p.1.record s.n s.x).2.1).1},(b.log.append (p.1.record s.n s.x).2.1).2.2)
def aX.gG(g:al)(z:aX)(s:e6):aX×Int:=match(if 0<=s.node then z.cJ[s.node.toNat]? else none) with
 |none=>(z,1)
 |some p=>
  if s.k=1 then z.inits g s.node.toNat p
  else if s.k=2 then(z.fV s.node.toNat ((p.1.gB s.n).1,p.2)).asks g (p.1.gB s.n).2.1 (p.1.gB s.n).2.2
  else if s.k=3 then z.records s s.node.toNat p
  else(z.fV s.node.toNat ((p.1.end_ (s.n !=0)).1,p.2)).asks g (p.1.end_ (s.n !=0)).2.1 (p.1.end_ (s.n !=0)).2.2
def aX.kF(g:al)(z:aX)(m:aY):aX:=match z.rep m.to with
 |none=>z
 |some x=>(z.mw m.to (x.take g m).1).g0 (x.take g m).2
def aX.g9(g:al)(z:aX)(s:e6):aX×Int:=match z.bB[(max s.n 0).toNat%z.bB.length]? with
 |none=>(z,4)
 |some m=>if s.k=8 then(if z.bB.length<512 then({z with bB:=z.bB++[m]},0) else(z,3))
  else if s.k=6 then(aX.kF g {z with bB:=z.bB.eraseIdx ((max s.n 0).toNat%z.bB.length)} m,0)
  else({z with bB:=z.bB.eraseIdx ((max s.n 0).toNat%z.bB.length)},0)
def aX.fW(g:al)(z:aX)(s:e6):aX×Int:=match z.rep s.node with
 |none=>(z,1)
 |some x=>((z.mw s.node (x.tick g).1).g0 (x.tick g).2,0)
def aX.fm(g:al)(z:aX)(s:e6):aX×Int:=
 if s.node<0\/s.node>=z.bM.length\/(z.rep s.node).isSome=true then(z,1)
 else match eX g s.node z.heard s.eX with
  |none=>(z,1)
  |some m=>if m.k≠6 then(z.g0 [m],0)
   else match gZ m.x with
    |none=>(z,2)
    |some a=>match z.parts[m.s.toNat%z.parts.length]?,m.l with
     |some b,v::_=>({z with parts:=z.parts.set (m.s.toNat%z.parts.length) (b.di g a v).1},(b.di g a v).2)
     |_,_=>(z,0)
def pe(g:al)(x:bo)(aD:List cM)(mk:b9):List cM:=aD.map λb=>(b.di g mk (dm g mk x.am)).1
def j6(g:al)(aD:List cM)(I:Option bo):List cM:=match I with
 |none=>aD
 |some x=>x.aH.foldl (pe g x) aD
def bo.answer(x:bo)(c s:Int):Option (Int×Int×Int):=if 0<=c/\c<=15/\0<=s/\s<=1048576 then a2 x.answers (fc c s) else none
def ks(x:bo)(cs:List (bI×Int))(i:Nat):List (bI×Int):=match cs[i]? with
 |none=>cs
 |some p=>match x.answer (i:Int) p.2 with
  |none=>cs
  |some a=>cs.set i ((p.1.told p.2 a).1,p.2)
def rY(l:List (Option bo)):Option bo:=l.findSome? id
def aX.polls(g:al)(z:aX):aX:={z with
 parts:=z.bM.foldl (j6 g) z.parts
 cJ:=match rY z.bM with
  |none=>z.cJ
  |some x=>(List.range z.cJ.length).foldl (ks x) z.cJ}
def aX.b5(g:al)(z:aX)(s:e6):aX×Int:=
 if s.k=1\/s.k=2\/s.k=3\/s.k=4 then z.gG g s
 else if s.k=5 then z.rG g s
 else if s.k=6\/s.k=7\/s.k=8 then z.g9 g s
 else if s.k=9 then z.fW g s
 else if s.k=10 then z.fm g s
 else if s.k=11 then(z.polls g,0)
 else(z,1)
structure bI.ok(e:bI):Prop where
 next:0<=e.next
 last:0<=e.last
 name:e.name.length<=1000
 keys:e.parts.map Prod.fst=[0,1,2,3]
 o0:∀p∈e.parts,0<=p.2.next/\∀r,p.2.out=some r->r.x.length<=200
structure cM.ok(g:al)(M:Nat)(b:cM):Prop where
 cl:b.log.cl.length<=M
 c0:b.log.c0.length<=M
 acc:b.acc.length<=M
 aH:∀p∈b.aH,(p.2.map Prod.fst).Nodup/\∀q∈p.2,0<=q.1/\q.1<(g.n:Int)
structure aX.ok(g:al)(k:Nat)(z:aX):Prop where
 bM:z.bM.length=g.n
 iu:∀(i:Nat)(x:bo),z.bM[i]? =some (some x)->x.ok g (773+6*k)/\x.am=(i:Int)
 some_:∃(i:Nat)(x:bo),z.bM[i]? =some (some x)
 parts:z.parts.length=4
 jH:∀b∈z.parts,b.ok g (6000*k)
 cJ:z.cJ.length=3
 kk:∀p∈z.cJ,p.1.ok
 bB:z.bB.length<=512
 lB:ei z.bB
 heard:z.heard.length<=1000
 kG:ei z.heard
 lost:z.lost<=5000000*k
theorem cM.ok.more{g:al}{M mE:Nat}{b:cM}(h:b.ok g M)(hm:M<=mE):b.ok g mE:=⟨ed h.cl hm,ed h.c0 hm,ed h.acc hm,h.aH⟩
theorem cM.ok.len{g:al}{M:Nat}{b:cM}(h:b.ok g M)(f:g.ok):∀p∈b.aH,p.2.length<=100:=λp j=>by
 obtain⟨a,c⟩:=h.aH p j
 have d:=qr g.n (p.2.map Prod.fst) a (λi e=>by obtain⟨q,k,rfl⟩:=dT.1 e;exact c q k)
 rw [fy] at d
 have:=f.n10
 have l:g.n<=10:=this
 omega
theorem yU{α:Type}:∀{m:List (Int×α)}{k:Int}{a v:α},a2 m k=some a->(cj m k v).map Prod.fst=m.map Prod.fst
 |[],_,_,_,h=>by cases h
 |(J,u)::r,k,a,v,h=>by
  simp only [a2] at h
  simp only [cj]
  by_cases b:J=k
  .subst b;simp
  .rw [aF b] at h⊢
   simp [yU h]
theorem bI.ok.put{e:bI}(h:e.ok){n:Int}{q nW:hg}(c:a2 e.parts n=some q)(a:0<=nW.next/\∀r,nW.out=some r->r.x.length<=200):(cj e.parts n nW).map Prod.fst=[0,1,2,3]/\∀p∈cj e.parts n nW,0<=p.2.next/\∀r,p.2.out=some r->r.x.length<=200:=
 ⟨(yU c).trans h.keys,λp b=>(i0 b).elim (h.o0 p) (λe=>by rw [e];exact a)⟩
theorem bI.ok.init{e:bI}(h:e.ok):e.init.1.ok:=by
 unfold bI.init
 split
 .split
  .exact h
  .exact{h with next:=show 0<=e.next+1 by have:=h.next;omega}
 .exact h
theorem bI.ok.fX{e:bI}(h:e.ok):0<=e.fX:=by
 have:=h.last
 unfold bI.fX
 split<;>omega
theorem bI.ok.gB{e:bI}(h:e.ok)(n:Int):(e.gB n).1.ok:=by
 unfold bI.gB
 split
 .exact h
 .split
  .exact h
  .rename_i q a
   split
   .exact h
   .split
    .exact h
    .obtain⟨b,c⟩:=h.put a (nW:={q with begun:=e.fX}) (h.o0 _ (hN a))
     exact⟨show 0<=e.next+1 by have:=h.next;omega,h.fX,h.name,b,c⟩
theorem bI.ok.end_{e:bI}(h:e.ok)(c:Bool):(e.end_ c).1.ok:=by
 unfold bI.end_
 split
 .exact h
 .split
  .exact h
  .exact{h with next:=show 0<=e.next+1 by have:=h.next;omega}
theorem bI.ok.record{e:bI}(h:e.ok)(n:Int)(x:List UInt8):(e.record n x).1.ok:=by
 unfold bI.record
 split
 .exact h
 .rename_i q a
  split
  .exact h
  .split
   .exact h
   .split
    .exact h
    .split
     .exact h
     .rename_i f _
      obtain⟨b,c⟩:=h.put a (nW:={q with next:=q.next+1,out:=some (e.h9 q x)}) ⟨show 0<=q.next+1 by have:0<=q.next:=(h.o0 _ (hN a)).1;omega,λr d=>by cases d;show x.length<=200;omega⟩
      exact⟨h.next,h.last,h.name,b,c⟩
theorem bI.ok.jz{e:bI}(h:e.ok)(n:Int):(e.jz n).1.ok:=by
 unfold bI.jz
 split
 .exact h
 .rename_i q a
  split
  .exact h
  .obtain⟨b,c⟩:=h.put a (nW:={q with out:=none}) ⟨(h.o0 _ (hN a)).1,by intro r d;cases d⟩
   exact⟨h.next,h.last,h.name,b,c⟩
theorem zs:∀p∈mq,0<=p.2.next/\∀r,p.2.out=some r->r.x.length<=200:=λp a=>by
 have:p.2=hg.new:=by
  simp [mq] at a
  rcases a with rfl|rfl|rfl|rfl<;>rfl
 rw [this]
 exact⟨ik _,by intro r b;cases b⟩
theorem bI.ok.told{e:bI}(h:e.ok)(s:Int)(a:Int×Int×Int):(e.told s a).1.ok:=by
 unfold bI.told
 split
 .exact h
 .split
  .exact⟨h.next,ik _,h.name,j,zs⟩
  .exact h
theorem bI.lc{n:Int}{x:List UInt8}(a:x.length<=1000):(bI.new n x).ok:=⟨ik _,ik _,a,j,zs⟩
theorem dP.Dx(l:dP)(p e t:Int)(c:Bool):(l.end_ p e t c).1.cl.length<=l.cl.length+1/\(l.end_ p e t c).1.c0=l.c0:=by
 unfold dP.end_
 split
 .exact⟨eo _,j⟩
 .split
  .exact⟨by simp,j⟩
  .generalize (if c=true then(2:Int) else 3)=a
   split
   .split
    .exact⟨eo _,j⟩
    .exact⟨by simp,j⟩
   .exact⟨eo _,j⟩
theorem dP.EN(l:dP)(p e:Int):(l.kK p e).1.cl=l.cl/\(l.kK p e).1.c0=l.c0:=by
 unfold dP.kK
 split<;>exact⟨j,j⟩
theorem dP.B9(l:dP)(r:ec):(l.append r).1.cl.length<=l.cl.length+1/\(l.append r).1.c0.length<=l.c0.length+1:=by
 unfold dP.append
 split
 .exact⟨eo _,eo _⟩
 .split
  .exact⟨eo _,eo _⟩
  .split
   .exact⟨eo _,eo _⟩
   .split
    .exact⟨eo _,eo _⟩
    .split
     .split
      .split<;>exact⟨eo _,eo _⟩
      .exact⟨eo _,eo _⟩
     .split
      .exact⟨eo _,eo _⟩
      .refine⟨?_,by simp⟩
       dsimp only
       split
       .exact eo _
       .simp
theorem cM.un(b:cM)(m:b9):(b.b5 m).1.log.cl.length<=b.log.cl.length+1/\(b.b5 m).1.log.c0=b.log.c0/\(b.b5 m).1.acc=b.acc/\(b.b5 m).1.aH=b.aH:=by
 unfold cM.b5
 split
 .have:=dP.EN b.log m.p m.e
  exact⟨by show(b.log.kK m.p m.e).1.cl.length<=_;rw [this.1];exact eo _,this.2,j,j⟩
 .have:=dP.Dx b.log m.p m.e m.t (m.k==2)
  exact⟨this.1,this.2,j,j⟩
theorem cM.ok.accept{g:al}{M:Nat}{b:cM}(h:b.ok g M)(m:b9)(l:List aG):(b.accept g m l).1.ok g (M+1):=by
 have a:=h.more (eo M)
 obtain⟨d1,d2,d3,d4⟩:=b.un m
 have c:(b.b5 m).1.ok g (M+1):=⟨by have:=h.cl;omega,by rw [d2];exact a.c0,by rw [d3];exact a.acc,by rw [d4];exact h.aH⟩
 unfold cM.accept
 split
 .exact a
 .split
  .exact a
  .split
   .exact a
   .split
    .exact c
    .refine⟨c.cl,c.c0,?_,λp d=>h.aH p (oV d)⟩
     show(b.acc++[m]).length<=M+1
     rw [ca,List.length_singleton]
     have:=h.acc;omega
theorem Fq{α:Type}:∀{m:List (Int×α)}{k:Int}{v:α},a2 m k=none->(m.map Prod.fst).Nodup->((cj m k v).map Prod.fst).Nodup:=fun{m k v}ad aP=>by
 rw [vb ad,jP]
 refine iy.2 ⟨aP,by simp,λa d b c e=>?_⟩
 simp at c
 subst c
 subst e
 obtain⟨p,f,g⟩:=dT.1 d
 exact yO ad p f g
theorem Er{g:al}{m:b9}{v:aG}(h:k6 g m v=true):0<=v.f/\v.f<(g.n:Int):=by
 unfold k6 at h
 simp only [d8] at h
 exact r4 h.2
theorem cM.ok.di{g:al}{M:Nat}{b:cM}(h:b.ok g M)(m:b9)(v:aG):(b.di g m v).1.ok g (M+1):=by
 have c:=h.more (eo M)
 unfold cM.di
 split
 .exact c
 .split
  .exact c
  .rename_i k
   have bx:=Er (g:=g) (m:=m) (v:=v) (by cases a:k6 g m v with|true=>rfl|false=>exact absurd a k)
   split
   .exact c
   .split
    .exact c
    .have i:∀p∈cj b.aH (er m) (iQ ((a2 b.aH (er m)).getD []) v),(p.2.map Prod.fst).Nodup/\∀q∈p.2,0<=q.1/\q.1<(g.n:Int):=λp d=>by
      rcases i0 d with d|rfl
      .exact h.aH p d
      .have e:(((a2 b.aH (er m)).getD []).map Prod.fst).Nodup/\∀q∈(a2 b.aH (er m)).getD [],0<=q.1/\q.1<(g.n:Int):=by
        cases ad:a2 b.aH (er m) with
        |none=>exact⟨List.nodup_nil,by intro q a;cases a⟩
        |some l=>exact h.aH _ (hN ad)
       dsimp only
       unfold iQ
       split
       .exact e
       .rename_i aP
        refine⟨Fq (by cases a:a2 ((a2 b.aH (er m)).getD []) v.f with|none=>rfl|some _=>rw [a] at aP;exact absurd j aP) e.1,λq a=>?_⟩
        rcases i0 a with a|rfl
        .exact e.2 q a
        .exact bx
     split
     .refine cM.ok.accept (M:=M) (b:={b with aH:=fS (cj b.aH (er m) (iQ ((a2 b.aH (er m)).getD []) v)) (er m)}) ⟨h.cl,h.c0,h.acc,λp d=>i p (oV d)⟩ m _
     .exact⟨c.cl,c.c0,c.acc,i⟩
structure aX.de(g:al)(hf:Nat->Nat)(M L:Nat)(z:aX):Prop where
 bM:z.bM.length=g.n
 iu:∀(i:Nat)(x:bo),z.bM[i]? =some (some x)->x.ok g (hf i)/\x.am=(i:Int)
 some_:∃(i:Nat)(x:bo),z.bM[i]? =some (some x)
 parts:z.parts.length=4
 jH:∀b∈z.parts,b.ok g M
 cJ:z.cJ.length=3
 kk:∀p∈z.cJ,p.1.ok
 bB:z.bB.length<=512
 lB:ei z.bB
 heard:z.heard.length<=1000
 kG:ei z.heard
 lost:z.lost<=L
theorem aX.ok.F{g:al}{k:Nat}{z:aX}(h:z.ok g k):z.de g (λ_=>773+6*k) (6000*k) (5000000*k):=⟨h.bM,h.iu,h.some_,h.parts,h.jH,h.cJ,h.kk,h.bB,h.lB,h.heard,h.kG,h.lost⟩
section
variable {g:al} {hf:Nat->Nat} {N M L:Nat} {z:aX}
theorem aX.de.more{nu:Nat->Nat}{mE kx:Nat}(h:z.de g hf M L)(e:∀i,hf i<=nu i)(d:M<=mE)(c:L<=kx):z.de g nu mE kx:=
 {h with iu:=λi x a=>⟨(h.iu i x a).1.more (e i),(h.iu i x a).2⟩,jH:=λb f=>(h.jH b f).more d,lost:=ed h.lost c}
theorem aX.de.ok{k:Nat}(h:z.de g (λ_=>N) M L)(c:N<=773+6*k)(b:M<=6000*k)(a:L<=5000000*k):z.ok g k:=
 let h:=h.more (λ_=>c) b a
 ⟨h.bM,h.iu,h.some_,h.parts,h.jH,h.cJ,h.kk,h.bB,h.lB,h.heard,h.kG,h.lost⟩
theorem aX.de.g0(h:z.de g hf M L){l:List aY}(a:hX l):(z.g0 l).de g hf M (L+420000):=by
 have b:=h.bB
 have c:=h.heard
 refine{h with bB:=?_,lB:=λm hm=>?_,heard:=?_,kG:=λm hm=>?_,lost:=?_}
 .show(z.bB++l.take (512-z.bB.length)).length<=512
  rw [ca,List.length_take];omega
 .rcases dA.1 (show m∈z.bB++l.take (512-z.bB.length) from hm) with hm|hm
  .exact h.lB m hm
  .exact a.1 m (mR hm)
 .show(z.heard++l.take (min (min l.length (512-z.bB.length)) (1000-z.heard.length))).length<=1000
  rw [ca,List.length_take];omega
 .rcases dA.1 (show m∈z.heard++l.take (min (min l.length (512-z.bB.length)) (1000-z.heard.length)) from hm) with hm|hm
  .exact h.kG m hm
  .exact a.1 m (mR hm)
 .show z.lost+(l.length-(512-z.bB.length))<=L+420000
  have:=a.2
  have:=h.lost
  omega
theorem aX.de.mw(h:z.de g hf M L){i:Nat}{f x:bo}(e:z.bM[i]? =some (some f))(d:x.ok g (hf i))(hm:x.am=(i:Int)):({z with bM:=z.bM.set i (some x)}:aX).de g hf M L:=by
 have b:i<z.bM.length:=(fa.1 e).1
 refine{h with bM:=by rw [hp];exact h.bM,iu:=λJ y a=>?_,some_:=⟨i,x,by rw [pO b]⟩}
 have a:(z.bM.set i (some x))[J]? =some (some y):=a
 by_cases c:i=J
 .subst c
  rw [pO b] at a
  cases a
  exact⟨d,hm⟩
 .rw [pP c] at a
  exact h.iu J y a
theorem aX.de.fV(h:z.de g hf M L){i:Nat}{p:bI×Int}(b:p.1.ok):(z.fV i p).de g hf M L:=by
 refine{h with cJ:=by show(z.cJ.set i p).length=3;rw [hp];exact h.cJ,kk:=λq a=>?_}
 rcases pL (show q∈z.cJ.set i p from a) with a|rfl
 .exact h.kk q a
 .exact b
theorem aX.de.nZ(h:z.de g hf M L){i:Int}{b:cM}(c:b.ok g (M+1)):(z.nZ i b).de g hf (M+1) L:=by
 refine{h with parts:=by show(z.parts.set i.toNat b).length=4;rw [hp];exact h.parts,jH:=λq a=>?_}
 rcases pL (show q∈z.parts.set i.toNat b from a) with a|rfl
 .exact(h.jH q a).more (eo _)
 .exact c
theorem bo.tT(x:bo):x.io.am=x.am:=(bo.p1 ((x.s.log.map Prod.fst).drop x.dt) x).2.1
theorem bo.wT(x:bo)(I:bG):(x.ask g I).1.am=x.am:=by
 unfold bo.ask
 split
 .exact bo.tT _
 .rfl
theorem bo.HD(x:bo)(m:aY):(x.take g m).1.am=x.am:=bo.tT _
theorem bo.HQ(x:bo):(x.tick g).1.am=x.am:=bo.tT _
def kZ(N J i:Nat):Nat:=if i<J then N+6 else N
theorem aX.de.gA(c:g.ok)(b:773<=N){J:Nat}(h:z.de g (kZ N J) M (L+420000*J))(I:bG):(z.gA g I J).de g (kZ N (J+1)) M (L+420000*(J+1)):=by
 have a:z.de g (kZ N (J+1)) M (L+420000*J):=h.more (λi=>by unfold kZ;split<;>split<;>omega) (Nat.le_refl _) (Nat.le_refl _)
 unfold aX.gA
 split
 .rename_i x d
  obtain⟨ad,hm⟩:=h.iu J x d
  have ad:x.ok g N:=by have:kZ N J J=N:=by unfold kZ;rw [if_neg (by omega)]
                       rw [this] at ad;exact ad
  have e:kZ N (J+1) J=N+6:=by unfold kZ;rw [if_pos (by omega)]
  have f:=(a.mw d (x:=(x.ask g I).1) (by rw [e];exact ad.ask c b I) ((bo.wT x I).trans hm)).g0 (bo.tW c ad b I)
  exact f.more (λ_=>cB _) (cB _) (by omega)
 .exact a.more (λ_=>cB _) (cB _) (by omega)
theorem aX.de.p2(b:g.ok)(a:773<=N)(h:z.de g (λ_=>N) M L)(I:bG):∀J:Nat,((List.range J).foldl (aX.gA g I) z).de g (kZ N J) M (L+420000*J)
 |0=>h.more (λi=>by unfold kZ;rw [if_neg (by omega)];exact Nat.le_refl _) (Nat.le_refl _) (Nat.le_refl _)
 |J+1=>by
  rw [nz,nC]
  exact aX.de.gA b a (aX.de.p2 b a h I J) I
theorem aX.de.asks(a:g.ok)(b:773<=N)(h:z.de g (λ_=>N) M L)(I:bG)(e:Int):(z.asks g I e).1.de g (λ_=>N+6) M (L+4200000):=by
 unfold aX.asks
 split
 .exact h.more (λ_=>gz _ _) (cB _) (gz _ _)
 .have c:=h.bM
  have d:g.n<=10:=a.n10
  exact(aX.de.p2 a b h I z.bM.length).more (λi=>by unfold kZ;split<;>omega) (Nat.le_refl _) (by omega)
theorem aX.nY{i:Int}{x:bo}(h:z.rep i=some x):0<=i/\z.bM[i.toNat]? =some (some x):=by
 unfold aX.rep at h
 split at h
 .rename_i b
  cases a:z.bM[i.toNat]? with
  |none=>rw [a] at h;cases h
  |some I=>rw [a] at h;cases I with
   |none=>cases h
   |some y=>cases h;exact⟨b,j⟩
 .cases h
theorem aX.de.cF(k:g.ok)(j:773<=N)(h:z.de g (λ_=>N) M L){i:Int}{x:bo}(e:z.rep i=some x){eO:bo}{l:List aY}(ad:x.ok g N->eO.ok g (N+6))(hm:eO.am=x.am)(d:x.ok g N->hX l):((z.mw i eO).g0 l).de g (λ_=>N+6) M (L+420000):=by
 obtain⟨f,a⟩:=aX.nY e
 obtain⟨b,c⟩:=h.iu _ x a
 exact((h.more (nu:=λ_=>N+6) (λ_=>gz _ _) (cB _) (cB _)).mw a (x:=eO) (ad b) (hm.trans c)).g0 (d b)
theorem aX.de.kF(b:g.ok)(a:773<=N)(h:z.de g (λ_=>N) M L){m:aY}(hm:m.cP):(z.kF g m).de g (λ_=>N+6) M (L+420000):=by
 unfold aX.kF
 split
 .exact h.more (λ_=>gz _ _) (cB _) (gz _ _)
 .rename_i x c
  exact h.cF b a c (λad=>ad.take b a hm) (bo.HD _ _) (λad=>bo.sR b ad a hm)
theorem aX.de.t5(h:z.de g hf M L){l:List aY}(a:l.length<=512)(bx:ei l):({z with bB:=l}:aX).de g hf M L:={h with bB:=a,lB:=bx}
theorem aX.de.g9(f:g.ok)(d:773<=N)(h:z.de g (λ_=>N) M L)(s:e6):(z.g9 g s).1.de g (λ_=>N+6) M (L+420000):=by
 have a:=h.more (nu:=λ_=>N+6) (kx:=L+420000) (λ_=>gz _ _) (cB _) (gz _ _)
 have e:=h.bB
 unfold aX.g9
 split
 .exact a
 .rename_i m hm
  have c:=h.lB m (hZ hm)
  have he:(z.bB.eraseIdx ((max s.n 0).toNat%z.bB.length)).length<=512:=ed (List.length_eraseIdx_le _ _) e
  have bx:ei (z.bB.eraseIdx ((max s.n 0).toNat%z.bB.length)):=λq b=>h.lB q (tC b)
  split
  .split
   .refine a.t5 (by rw [ca,List.length_singleton];omega) (h.lB.app (λq b=>?_))
    rw [gb.1 b];exact c
   .exact a
  .split
   .exact(h.t5 he bx).kF f d c.1
   .exact a.t5 he bx
theorem aX.de.fW(b:g.ok)(a:773<=N)(h:z.de g (λ_=>N) M L)(s:e6):(z.fW g s).1.de g (λ_=>N+6) M (L+420000):=by
 unfold aX.fW
 split
 .exact h.more (λ_=>gz _ _) (cB _) (gz _ _)
 .rename_i x c
  exact h.cF b a c (λad=>ad.tick b a) (bo.HQ _) (λad=>bo.sS b ad a)
theorem yC{f:Int}{aM:List aY}{l:eE}{U:List aG}(a:∀m∈aM,∀v∈m.l,v.ok)(h:l.aH g f aM=some U):U.length<=10/\∀v∈U,v.ok:=by
 unfold eE.aH at h
 split at h
 .cases h
  exact⟨by simp,λv a=>by rw [gb.1 a];exact iU _ _ _ _ _ _ (e4 _)⟩
 .split at h
  .split at h
   .cases h
   .cases h
    exact⟨by simp,λv a=>by rw [gb.1 a];exact iU _ _ _ _ _ _ (e4 _)⟩
  .cases h
   exact⟨by rw [hi];omega,λv b=>sb a l.use v (mR b)⟩
theorem eE.Fi{f:Int}{l:eE}(h:l.may g f=true):0<=l.s/\l.s<=63/\0<=l.v/\l.v<=8:=by
 unfold eE.may aY.may at h
 simp only [d8,fO,gL] at h
 obtain⟨⟨⟨⟨⟨_,a⟩,b⟩,_⟩,_⟩,_⟩:=h.1
 exact⟨a.1,a.2,b.1,b.2⟩
theorem u1{f:Int}{aM:List aY}{l:eE}{m:aY}(i:ei aM)(h:eX g f aM l=some m):m.jV/\0<=m.s/\m.f=f/\m.k=l.k/\m.x=l.x/\l.aH g f aM=some m.l:=by
 unfold eX at h
 split at h
 .rename_i c
  cases a:l.aH g f aM with
  |none=>rw [a] at h;cases h
  |some U=>
   rw [a] at h
   cases h
   obtain⟨d,e⟩:=yC (λm hm=>(i m hm).1.aH) a
   have b:=eE.Fi c
   exact⟨⟨⟨al.ea _ _ _,e,eE.u2 c,d⟩,b.2.1⟩,b.1,j,j,j,j⟩
 .cases h
theorem aX.de.fm(h:z.de g hf M L)(s:e6):(z.fm g s).1.de g hf (M+1) (L+420000):=by
 have a:=h.more (nu:=hf) (mE:=M+1) (kx:=L+420000) (λ_=>cB _) (eo _) (gz _ _)
 unfold aX.fm
 split
 .exact a
 .split
  .exact a
  .rename_i m hm
   have bx:=(u1 h.kG hm).1
   split
   .exact(h.g0 ⟨λq d=>by rw [gb.1 d];exact bx,by simp⟩).more (λ_=>cB _) (eo _) (cB _)
   .split
    .exact a
    .split
     .rename_i b v r c e
      have:=(h.jH b (hZ c)).di (g:=g) (by assumption) v
      exact(h.nZ (i:=((m.s.toNat%z.parts.length:Nat):Int)) this).more (λ_=>cB _) (cB _) (gz _ _)
     .exact a
theorem s3{x:bo}:∀(l:List b9){aD:List cM}{M:Nat},(∀b∈aD,b.ok g M)->∀b∈l.foldl (pe g x) aD,b.ok g (M+l.length)
 |[],_,_,h=>h
 |m::r,aD,M,h=>by
  intro b a
  rw [ix] at a
  have d:∀b∈pe g x aD m,b.ok g (M+1):=λb a=>by
   obtain⟨c,f,rfl⟩:=dT.1 a
   exact(h c f).di _ _
  have e:=s3 r d b a
  rw [ep]
  exact e.more (by omega)
theorem s0{x:bo}:∀(l:List b9)(aD:List cM),(l.foldl (pe g x) aD).length=aD.length
 |[],_=>rfl
 |m::r,aD=>by
  rw [ix,s0 r]
  exact fy _
theorem bo.ok.AF{x:bo}(h:x.ok g N):x.aH.length<=512:=by
 have a:=h.aH
 have b:=h.dt
 have c:=h.s.log
 omega
theorem zu:∀(l:List (Option bo)){aD:List cM}{M:Nat},(∀x,some x∈l->x.aH.length<=512)->(∀b∈aD,b.ok g M)->(∀b∈l.foldl (j6 g) aD,b.ok g (M+512*l.length))/\(l.foldl (j6 g) aD).length=aD.length
 |[],_,_,_,h=>⟨h,j⟩
 |I::r,aD,M,d,h=>by
  rw [ix,ep]
  have c:(∀b∈j6 g aD I,b.ok g (M+512))/\(j6 g aD I).length=aD.length:=by
   cases I with
   |none=>exact⟨λb a=>(h b a).more (by omega),j⟩
   |some x=>exact⟨λb a=>(s3 x.aH h b a).more (by have:=d x (by simp);omega),s0 _ _⟩
  obtain⟨e,f⟩:=zu r (λx i=>d x (by simp [i])) c.1
  exact⟨λb a=>(e b a).more (by omega),f.trans c.2⟩
theorem HY{x:bo}{cs:List (bI×Int)}(i:Nat)(h:∀p∈cs,p.1.ok):(∀p∈ks x cs i,p.1.ok)/\(ks x cs i).length=cs.length:=by
 unfold ks
 split
 .exact⟨h,j⟩
 .rename_i p b
  split
  .exact⟨h,j⟩
  .refine⟨λq a=>?_,hp ..⟩
   rcases pL a with a|rfl
   .exact h q a
   .exact(h p (hZ b)).told _ _
theorem vS{x:bo}:∀(l:List Nat){cs:List (bI×Int)},(∀p∈cs,p.1.ok)->(∀p∈l.foldl (ks x) cs,p.1.ok)/\(l.foldl (ks x) cs).length=cs.length
 |[],_,h=>⟨h,j⟩
 |i::r,cs,h=>by
  obtain⟨a,b⟩:=HY (x:=x) i h
  obtain⟨c,d⟩:=vS r a
  rw [ix]
  exact⟨c,d.trans b⟩
theorem aX.de.polls(k:g.ok)(h:z.de g hf M L):(z.polls g).de g hf (M+5120) L:=by
 have aP:g.n<=10:=k.n10
 have m:=h.bM
 obtain⟨c,d⟩:=zu (g:=g) z.bM (aD:=z.parts) (M:=M) (λx l=>by
  obtain⟨i,f⟩:=oa l
  exact(h.iu i x f).1.AF) h.jH
 have a:(∀p∈(z.polls g).cJ,p.1.ok)/\(z.polls g).cJ.length=z.cJ.length:=by
  show(∀p∈(match rY z.bM with|none=>z.cJ|some x=>(List.range z.cJ.length).foldl (ks x) z.cJ),p.1.ok)/\(match rY z.bM with|none=>z.cJ|some x=>(List.range z.cJ.length).foldl (ks x) z.cJ).length=z.cJ.length
  split
  .exact⟨h.kk,j⟩
  .exact vS _ h.kk
 exact{h with parts:=d.trans h.parts,jH:=λb e=>(c b e).more (by omega),cJ:=a.2.trans h.cJ,kk:=a.1}
theorem aX.de.records(h:z.de g hf M L)(s:e6)(i:Nat){p:bI×Int}(d:p.1.ok):(z.records s i p).1.de g hf (M+1) L:=by
 have e:=h.more (nu:=hf) (mE:=M+1) (kx:=L) (λ_=>cB _) (eo _) (cB _)
 unfold aX.records
 split
 .exact e.fV (d.record _ _)
 .split
  .exact e.fV (d.record _ _)
  .rename_i b a
   have c:b.ok g M:=by
    unfold aX.part at a
    split at a
    .exact h.jH b (hZ a)
    .cases a
   have f:=dP.B9 b.log (p.1.record s.n s.x).2.1
   refine(h.fV ?_).nZ ⟨?_,?_,Nat.le_succ_of_le c.acc,c.aH⟩
   .dsimp only
    split
    .exact(d.record _ _).jz _
    .exact d.record _ _
   .have:=c.cl
    show((b.log.append (p.1.record s.n s.x).2.1).1.cl).length<=M+1
    omega
   .have:=c.c0
    show((b.log.append (p.1.record s.n s.x).2.1).1.c0).length<=M+1
    omega
theorem aX.de.gG(c:g.ok)(b:773<=N)(h:z.de g (λ_=>N) M L)(s:e6):(z.gG g s).1.de g (λ_=>N+6) (M+1) (L+4200000):=by
 have e:=h.more (nu:=λ_=>N+6) (mE:=M+1) (kx:=L+4200000) (λ_=>gz _ _) (eo _) (gz _ _)
 unfold aX.gG
 split
 .exact e
 .rename_i p d
  have a:p.1.ok:=by
   split at d
   .exact h.kk p (hZ d)
   .cases d
  split
  .exact((h.fV a.init).asks c b _ _).more (λ_=>cB _) (eo _) (cB _)
  .split
   .exact((h.fV (a.gB _)).asks c b _ _).more (λ_=>cB _) (eo _) (cB _)
   .split
    .exact(h.records s s.node.toNat a).more (λ_=>gz _ _) (cB _) (gz _ _)
    .exact((h.fV (a.end_ _)).asks c b _ _).more (λ_=>cB _) (eo _) (cB _)
theorem aX.ok.b5(b:g.ok){k:Nat}(h:z.ok g k)(s:e6):(z.b5 g s).1.ok g (k+1):=by
 have a:=h.F
 have c:773<=773+6*k:=by omega
 unfold aX.b5
 split
 .exact(a.gG b c s).ok (by omega) (by omega) (by omega)
 .split
  .exact(a.asks b c _ _).ok (by omega) (by omega) (by omega)
  .split
   .exact(a.g9 b c s).ok (by omega) (by omega) (by omega)
   .split
    .exact(a.fW b c s).ok (by omega) (by omega) (by omega)
    .split
     .exact(a.fm s).ok (by omega) (by omega) (by omega)
     .split
      .exact(a.polls b).ok (by omega) (by omega) (by omega)
      .exact a.ok (by omega) (by omega) (by omega)
end
theorem aX.de.Cd{g:al}{N M L:Nat}{z:aX}(c:g.ok)(b:773<=N)(h:z.de g (λ_=>N) M L)(I:bG)(J:Nat):(z.gA g I J).de g (λ_=>N+6) M (L+420000):=by
 have a:z.de g (λ_=>N+6) M L:=h.more (λ_=>gz _ _) (cB _) (cB _)
 unfold aX.gA
 split
 .rename_i x d
  obtain⟨ad,hm⟩:=h.iu J x d
  exact(a.mw d (x:=(x.ask g I).1) (ad.ask c b I) ((bo.wT x I).trans hm)).g0 (bo.tW c ad b I)
 .exact a.more (λ_=>cB _) (cB _) (gz _ _)
def aX.hk(g:al)(I:bG)(z:aX)(l:List (Int×Value)):aX:=l.foldl (λz q=>z.gA g I q.1.toNat) z
theorem aX.Cf(g:al)(I:bG)(z:aX)(l:List (Int×Value))(q:Int×Value):z.hk g I (l++[q])=(z.hk g I l).gA g I q.1.toNat:=by unfold aX.hk;rw [List.foldl_append];rfl
theorem aX.de.hk{g:al}{M:Nat}(a:g.ok)(I:bG):∀(l:List (Int×Value)){z:aX}{N L:Nat},773<=N->z.de g (λ_=>N) M L->(z.hk g I l).de g (λ_=>N+6*l.length) M (L+420000*l.length)
 |[],_,_,_,_,h=>h
 |q::r,z,N,L,d,h=>by
  have b:=h.Cd a d I q.1.toNat
  have c:=aX.de.hk a I r (N:=N+6) (by omega) b
  exact c.more (λ_=>by rw [ep];omega) (cB _) (by rw [ep];omega)
theorem aX.wR(g:al)(I:bG)(z:aX)(J:Nat):(z.gA g I J).parts=z.parts/\(z.gA g I J).cJ=z.cJ/\(z.gA g I J).bM.length=z.bM.length/\∀i:Nat,(∀x,z.bM[i]?≠some (some x))->∀x,(z.gA g I J).bM[i]?≠some (some x):=by
 unfold aX.gA
 split
 .rename_i x d
  refine⟨j,j,hp ..,λi a y b=>?_⟩
  have b:(z.bM.set J (some (x.ask g I).1))[i]? =some (some y):=b
  by_cases c:J=i
  .subst c;exact a x d
  .rw [pP c] at b;exact a y b
 .exact⟨j,j,j,λi a=>a⟩
theorem aX.wS(g:al)(I:bG):∀(l:List (Int×Value))(z:aX),(z.hk g I l).parts=z.parts/\(z.hk g I l).cJ=z.cJ/\(z.hk g I l).bM.length=z.bM.length
 |[],_=>⟨j,j,j⟩
 |q::r,z=>by
  obtain⟨a,b,c,_⟩:=aX.wR g I z q.1.toNat
  obtain⟨d,e,f⟩:=aX.wS g I r (z.gA g I q.1.toNat)
  exact⟨d.trans a,e.trans b,f.trans c⟩
theorem aX.Ce{g:al}{I:bG}{z:aX}{J:Nat}(h:∀x,z.bM[J]?≠some (some x)):z.gA g I J=z:=by
 unfold aX.gA
 split
 .rename_i x a;exact(h x a).elim
 .rfl
theorem uS(g:al)(I:bG):∀(U:List Value)(k:Nat)(z:aX),(∀i:Nat,i<U.length->U[i]? =some (.pointer none)->∀x,z.bM[k+i]?≠some (some x))->z.hk g I (fb k U)=(List.range' k U.length).foldl (aX.gA g I) z
 |[],_,_,_=>rfl
 |v::r,k,z,h=>by
  rw [fb,ep,List.range'_succ,ix]
  split
  .rename_i a
   have c:v= .pointer none:=by unfold na at a;split at a;rfl;cases a
   rw [aX.Ce (J:=k) (λx=>by have:=h 0 (by simp) (by rw [c];rfl) x;simpa using this)]
   exact uS g I r (k+1) z (λi b aP x=>by have:=h (i+1) (by simp;omega) (by simpa using aP) x;rwa [show k+(i+1)=k+1+i by omega] at this)
  .show(aX.hk g I (z.gA g I ((k:Int).toNat)) (fb (k+1) r))=_
   rw [l5]
   refine uS g I r (k+1) _ (λi b aP x=>(aX.wR g I z k).2.2.2 (k+1+i) (λy=>?_) x)
   have:=h (i+1) (by simp;omega) (by simpa using aP) y
   rwa [show k+(i+1)=k+1+i by omega] at this
theorem r5:∀{U:List Value}{k:Nat}{q:Int×Value},q∈fb k U->∃i:Nat,q.1=((k+i:Nat):Int)/\U[i]? =some q.2/\na q.2=false
 |[],_,_,h=>by cases h
 |v::r,k,q,h=>by
  rw [fb] at h
  split at h
  .obtain⟨i,a,b,c⟩:=r5 h
   exact⟨i+1,by rw [a];congr 1;omega,by simpa using b,c⟩
  .rename_i d
   rcases gd.1 h with rfl|h
   .exact⟨0,j,j,by simpa using d⟩
   .obtain⟨i,a,b,c⟩:=r5 h
    exact⟨i+1,by rw [a];congr 1;omega,by simpa using b,c⟩
theorem uT:∀(U:List Value)(k:Nat),(fb k U).length<=U.length
 |[],_=>cB _
 |v::r,k=>by
  rw [fb]
  have:=uT r (k+1)
  split
  .rw [ep];omega
  .rw [ep,ep];omega
theorem hY.nil{g:al}{U:List Value}{xs:List (Option bo)}{H:List Chunk}(h:dS (hY g) U xs H){i:Nat}(a:U[i]? =some (.pointer none)):∀x,xs[i]?≠some (some x):=λx b=>by
 have d:i<xs.length:=(fa.1 b).1
 obtain⟨v,_,_,_,e,_,c,_⟩:=h.at i d
 rw [e] at a
 have j:xs[i]=some x:=by rw [ck d] at b;exact hr b
 rw [j] at c
 obtain⟨k,f,_⟩:=c
 rw [f] at a
 cases a
theorem hY.some{g:al}{v:Value}{I:Option bo}{G:List Chunk}(h:hY g v I G)(b:na v=false):∃x a,I= .some x/\v= .pointer (.some ⟨a,0,none⟩)/\hK g a x G:=by
 cases I with
 |none=>rw [h.1] at b;cases b
 |some x=>obtain⟨a,c,d⟩:=h;exact⟨x,a,j,c,d⟩
theorem rJ{o:World}{g:al}{aO:Nat}{z:aX}{G:List Chunk}{I:bG}{e:Int}(aG:eU g aO z G){N M L:Nat}(ad:z.de g (λ_=>N) M L)(aY:773<=N)(bw:N+150<=1000000)(bv:L+4200000<=1000000000)(aH:g.at o)(T:g.ok)(am:g.off (av [G]))(d:Own [G] o):Calls prog 33 #[Z aO,.agg I.cs.toArray,ab e] o (aS λr w=>r=ab (z.asks g I e).2/\∃ah,eU g aO (z.asks g I e).1 ah/\C o (av [G]) [ah] w):=by
 have aZ:=aG
 obtain⟨c,cH,bQ,dx,s,t,u,rfl⟩:=aG
 obtain⟨n,aE⟩:∃n,n=av [bj g aO c++(cH++(bQ++(dx++(s++t))))]:=⟨_,j⟩
 rw [<-aE] at am⊢
 have d:C o n [bj g aO c++(cH++(bQ++(dx++(s++t))))] o:=aE▸d
 have d:=d.zi
 refine iq [Z aO,.agg I.cs.toArray,ab e] (fn:=f33) func33 ntmps33 (bP 2 d j j (λk w d=>bP 0 d j j (λm w d=>?_)))
 have d:C o n [bE m I,R k #[Z aO] 24,bj g aO c,cH,bQ,dx,s,t] w:=d
 refine aT 6 j j (λX=>?_) (λX=>?_)
 .refine bJ 4 j ⟨ab e,λw aq=>?_⟩
  have d:=aq.st d (cB _)
  refine⟨λa af=>i4 (fn:=f33) af j _ _,?_⟩
  have bi:z.asks g I e=(z,e):=a6 (by simpa using X)
  rw [bi]
  have d:C o n [bj g aO c,cH,bQ,dx,s,t] w:=d.as
  exact⟨j,_,aZ,d.r6⟩
 refine au 4 j (aw (C.aj (b:=k) d) j) ?_
 obtain⟨ak,P,U,rfl,J,Q⟩:=u.bM
 have ax:=Q.len
 have a9:0<z.bM.length:=by obtain⟨i,x,bg⟩:=ad.some_;have:=(fa.1 bg).1;omega
 have bC:z.bM.length<=10:=by rw [ad.bM];exact T.n10
 obtain⟨l,cap,cur,S,rfl,bF⟩:=Row.block J a9
 rw [S] at J
 rw [<-ax] at S J
 have bc:=Q.qA
 refine bm 0 (yd (o:=w) (aO:=aO)) j (λr w⟨az,ao,F⟩=>?_)
 subst ao
 have d:=d.aN F
 have d:C o n [R az #[Z aO] 24,bE m I,R k #[Z aO] 24,bj g aO c,R l cur 37,P,bQ,dx,s,t] w:=C.perm (A:=[R az #[Z aO] 24,bE m I,R k #[Z aO] 24,bj g aO c,R l cur 37++P,bQ,dx,s,t]) d.as (by simp)
 have d:C o n ([R az #[Z aO] 24]++[bE m I,R k #[Z aO] 24,bj g aO {c with heard:=c.heard},R l cur 37,P,bQ,dx,s,t]) w:=d
 refine jY 1 j (yc (g:=g) (aO:=aO) (c:=c) S J bc (by omega)) j (by have:=d.size;simpa using this) d j (λ_=>rfl) (by intro p u;simp at u;rcases u with rfl|rfl<;>rfl)
  (λpre ae=>∃f H bd bA,ae=[bE m I,R k #[Z aO] 24,bj g aO {c with heard:=f},R l cur 37,H,bQ,dx,bd,bA]/\dS (hY g) U (z.hk g I pre).bM H/\g2 c.bB (z.hk g I pre).bB (z.hk g I pre).lost bd/\cz f (z.hk g I pre).heard bA/\pre.length<=10) (λ_ _=>False) ⟨c.heard,P,s,t,j,Q,u.bB,u.heard,ch _⟩ (λL aI D=>by have Y:=D.cd (C.aj (b:=aO) d);exact Y) (λpre ae L a7=>by obtain⟨f,H,bd,bA,rfl,_⟩:=a7;simp) ?_ ?_ (λ_ _ h=>h.elim) (λ_ _ _ h=>h.elim)
 .rintro y pre ⟨K,br⟩ bs aR bI aD ⟨f,H,bd,bA,rfl,D,aa,ac,bb⟩ d
  obtain⟨i,a8,ar,ba⟩:=r5 (q:=(K,br)) (by obtain⟨bl,ap⟩:=aD;rw [ap];simp)
  have ai:=aX.de.hk T I pre aY ad
  have d:=C.gs d
  refine bJ 2 j (⟨j,_,d,λaR aB d=>?_⟩)
  have a5:=aH.st d am
  have an:g.off (av [bE m I,R k #[Z aO] 24,bj g aO {c with heard:=f},R l cur 37,H,bQ,dx,bd,bA]):=(aH.apart d am).sub (λb ag=>m9.2 (.inr (m9.2 (.inl ag))))
  have d:=C.gs d
  have bz:i<U.length:=(fa.1 ar).1
  have aJ:i<(z.hk g I pre).bM.length:=by have:=D.len;omega
  obtain⟨v,H1,E,B,Y,rfl,a3,be⟩:=D.at i aJ
  rw [Y] at ar
  cases ar
  obtain⟨x,aM,bh,rfl,a1⟩:=a3.some ba
  have aK:(z.hk g I pre).bM[i]? =some (some x):=by rw [ck aJ,bh]
  obtain⟨aL,_⟩:=ai.iu i x aK
  have bD:pre.length+1<=U.length:=by
   obtain⟨bl,ap⟩:=aD
   have aC:=uT U 0
   rw [ap] at aC
   simp at aC
   omega
  have an:g.off (av [bE m I,R k #[Z aO] 24,bj g aO {c with heard:=f},R l cur 37,H1,E,B,bQ,dx,bd,bA]):=an.sub (λb ag=>by simpa [av,or_assoc] using ag)
  have d:C aB (av [bE m I,R k #[Z aO] 24,bj g aO {c with heard:=f},R l cur 37,H1++(E++B),bQ,dx,bd,bA]) [bE m I,R k #[Z aO] 24,bj g aO {c with heard:=f},R l cur 37,H1,E,B,bQ,dx,bd,bA] aB:=d.perm (by simp)
  refine bS 4 (U:=I.cs) j j j (bq (C.aj (b:=m) d)) (bm 0 (Cg (I:=I) a1 aL (by omega) (by omega) a5 T (an.sub (fB (by simp))) (d.ours (cI:=[E]))) j (λr w⟨bH,aQ,O,ao,bf,a2,F⟩=>?_))
  subst ao
  have d:=d.b4 F
  refine au 6 j (aw (C.aj (b:=k) d) j) ?_
  have a4:=sC (g:=g) (aO:=aO) (c:={c with heard:=f}) aa ac bf (by have:=ai.lost;omega) (by have:=(bo.tW T aL (by omega) I).2;omega) ai.heard (d.ours (cI:=[bj g aO {c with heard:=f},bd,bA,aQ]))
  refine bp 1 a4 j (λw⟨aA,V,W,aU,aV,F⟩=>?_)
  have d:=d.b4 F
  refine bJ 0 j ?_
  have ay:z.hk g I (pre++[(K,Z aM)])=aX.g0 {z.hk g I pre with bM:=(z.hk g I pre).bM.set i (some (x.ask g I).1)} (x.ask g I).2.1:=by
   rw [aX.Cf]
   have e:K.toNat=i:=by have bu:K=((0+i:Nat):Int):=a8;omega
   show aX.gA g I (z.hk g I pre) K.toNat=_
   rw [e]
   unfold aX.gA
   rw [aK]
  have aW:=be (some (x.ask g I).1) O ⟨aM,j,a2⟩
  refine⟨[bE m I,R k #[Z aO] 24,bj g aO {c with heard:=aA},R l cur 37,H1++(O++B),bQ,dx,V,W],?_,aA,H1++(O++B),V,W,j,by rw [ay];exact aW,by rw [ay];exact aU,by rw [ay];exact aV,by rw [ca,List.length_singleton];omega⟩
  have d:C aB (av [bE m I,R k #[Z aO] 24,bj g aO {c with heard:=f},R l cur 37,H1++(E++B),bQ,dx,bd,bA]) [bE m I,R k #[Z aO] 24,bj g aO {c with heard:=aA},R l cur 37,H1,O,B,bQ,dx,V,W] w:=d.as
  exact d.perm (by simp)
 rintro xs bt w a0 ⟨f,H,bd,bA,rfl,D,aa,ac,bb⟩ d
 subst a0
 have bk:z.asks g I e=(z.hk g I (fb 0 U),0):=by
  unfold aX.asks
  rw [aF (by simpa using X),uS g I U 0 z (λi bx aP x=>by rw [Nat.zero_add];exact hY.nil Q aP x),<-List.range_eq_range',ax]
 rw [bk]
 refine bJ 3 j ⟨ab 0,λw aq=>?_⟩
 have d:=aq.st d (cB _)
 refine⟨λa af=>i4 (fn:=f33) af j _ _,?_⟩
 have d:C o n [bj g aO {c with heard:=f},R l cur 37,H,bQ,dx,bd,bA] w:=d.as
 obtain⟨s1,s2,bn⟩:=aX.wS g I (fb 0 U) z
 refine⟨j,_,⟨{c with heard:=f},R l cur 37++H,bQ,dx,bd,bA,⟨⟨_,_,U,j,?_,D⟩,by rw [s1];exact u.parts,by rw [s2];exact u.cJ,aa,ac⟩,j⟩,C.perm (A:=[bj g aO {c with heard:=f},R l cur 37,H,bQ,dx,bd,bA]) d (by simp)⟩
 show Row 37 1 c.bM _ U _
 rw [S,bn,<-ax]
 exact J
structure hJ where
 X:Option Addr
 bH:Nat
 Y:Option Addr
 k2:Nat
 aQ:Option Addr
 dK:Nat
abbrev cQ(s:e6)(a:hJ):List Value:=[ab s.k,ab s.node,ab s.n,.slice a.X s.x.length a.bH]++fR s.eX a.Y a.k2 a.aQ a.dK
structure hW(s:e6)(a:hJ)(F:List Nat)(w:World):Prop where
 x:Rd w a.X (aE s.x)
 n4:bU a.X (aE s.x) F
 pk:s.x.length<=a.bH
 y:Rd w a.Y (aE s.eX.x)
 qZ:bU a.Y (aE s.eX.x) F
 q0:s.eX.x.length<=a.k2
 u:Rd w a.aQ (s.eX.use.map bu)
 qR:bU a.aQ (s.eX.use.map bu) F
 qS:s.eX.use.length<=a.dK
 qT:s.eX.use.length<=maxLen
theorem hW.st{s:e6}{a:hJ}{F eD:List Nat}{w aI:World}{ae:List (List Chunk)}(h:hW s a F w)(d:C w eD ae aI)(c:∀b∈eD,b∈F):hW s a F aI:=
 ⟨d.rd h.x (h.n4.sub c),h.n4,h.pk,d.rd h.y (h.qZ.sub c),h.qZ,h.q0,d.rd h.u (h.qR.sub c),h.qR,h.qS,h.qT⟩
theorem hW.sub{s:e6}{a:hJ}{F eD:List Nat}{w:World}(h:hW s a F w)(c:∀b∈eD,b∈F):hW s a eD w:=
 ⟨h.x,h.n4.sub c,h.pk,h.y,h.qZ.sub c,h.q0,h.u,h.qR.sub c,h.qS,h.qT⟩
theorem hW.apart{s:e6}{a:hJ}{F:List Nat}{w aI:World}{ae:List (List Chunk)}(h:hW s a F w)(b:C w F ae aI):hW s a (av ae) aI:=
 ⟨b.rd h.x h.n4,b.apart h.x h.n4,h.pk,b.rd h.y h.qZ,b.apart h.y h.qZ,h.q0,b.rd h.u h.qR,b.apart h.u h.qR,h.qS,h.qT⟩
def lq(g:al)(aO:Nat)(z:aX)(i aK:Nat)(G:List Chunk):Prop:=∃(c:cg)(cH bQ bd bA ak H:List Chunk)(U:List Value),wy g z c cH bQ (ak++H) bd bA/\Row 73 1 c.cJ z.cJ.length U ak/\dS lW U z.cJ H/\U[i]? =some (Z aK)/\G=bj g aO c++(cH++(bQ++((ak++H)++(bd++bA))))
theorem lq.rep{g:al}{aO:Nat}{z:aX}{i aK:Nat}{G:List Chunk}(h:lq g aO z i aK G):eU g aO z G:=by
 obtain⟨c,cH,bQ,bd,bA,ak,H,U,a,_,_,_,rfl⟩:=h
 exact⟨c,cH,bQ,_,bd,bA,a,j⟩
theorem bI.yj(e:bI):e.init.1.parts=e.parts:=by
 unfold bI.init
 split
 .split<;>rfl
 .rfl
theorem lq.open{g:al}{aO:Nat}{z:aX}{i aK:Nat}{G:List Chunk}{p:bI×Int}(h:lq g aO z i aK G)(f:z.cJ[i]? =some p):∃(c:cg)(cH bQ bd bA ak H1 d GE:List Chunk)(az:Nat),hU az p.1 GE/\G=bj g aO c++(cH++(bQ++((ak++(H1++((da aK az p.2++GE)++d)))++(bd++bA))))/\
 (∀a b,hU az a.1 b->lq g aO (z.fV i a) i aK (bj g aO c++(cH++(bQ++((ak++(H1++((da aK az a.2++b)++d)))++(bd++bA)))))):=by
 obtain⟨c,cH,bQ,bd,bA,ak,H,U,e,y,u,q,rfl⟩:=h
 have n:i<z.cJ.length:=(fa.1 f).1
 obtain⟨v,H1,A,d,k,rfl,l,x⟩:=u.at i n
 rw [k] at q
 cases q
 have w:z.cJ[i]=p:=by rw [ck n] at f;exact hr f
 rw [w] at l
 obtain⟨B,az,GE,r,s,rfl⟩:=l
 cases r
 refine⟨c,cH,bQ,bd,bA,ak,H1,d,GE,az,s,j,λa b t=>?_⟩
 have m:=x a (da aK az a.2++b) ⟨aK,az,b,j,t,j⟩
 have o:Row 73 1 c.cJ (z.fV i a).cJ.length U ak:=by
  show Row 73 1 c.cJ (z.cJ.set i a).length U ak
  rw [hp];exact y
 exact⟨c,cH,bQ,bd,bA,ak,_,U,⟨e.bM,e.parts,⟨ak,_,U,j,o,m⟩,e.bB,e.heard⟩,o,m,k,j⟩
theorem BM{o:World}{g:al}{aO:Nat}{z:aX}{G:List Chunk}{s:e6}{a:hJ}(t:eU g aO z G){N M L:Nat}(ad:z.de g (λ_=>N) M L)(p:773<=N)(q:N+150<=1000000)(m:L+4200000<=1000000000)(x:g.at o)(y:g.ok)(l:g.off (av [G]))(d:Own [G] o):Calls prog 17 #[Z aO,.agg (cQ s a).toArray] o (aS λr w=>r=ab (z.rG g s).2/\∃ah,eU g aO (z.rG g s).1 ah/\C o (av [G]) [ah] w):=by
 obtain⟨e,h⟩:∃e,e=av [G]:=⟨_,j⟩
 have A:g.off e:=h▸l
 rw [<-h]
 have d:C o e [G] o:=h▸d
 refine a1 [Z aO,.agg (cQ s a).toArray] func17 ntmps17 results17 (bP 2 d j j (λk w d=>?_))
 have d:C o e [R k (cQ s a).toArray 35,G] w:=d
 refine au 4 j (aw (C.aj (b:=k) d) j) (cO (c:=(mA s.n).cs.toArray) j j j (λ_=>by kernel_rfl) (cn 0 d j (λf w d=>cp 0 (d.bf f) j j j j j (λw d=>?_))))
 have d:=C.whole (U:=((mA s.n)).cs) d j
 have d:C o e (bE f (mA s.n)::_) w:=d
 refine bS 2 (U:=(mA s.n).cs) j j j (bq (C.aj (b:=f) d)) (bm 0 (ut (o:=w) (I:=mA s.n)) j (λr w⟨v,D,B,E,i⟩=>?_))
 subst B
 have d:=d.aN i
 refine bS 8 (U:=(mA s.n).cs) j j j (bq (C.aj (b:=f) d)) (bp 1 (rJ (I:=mA s.n) t ad p q m (x.st d A) y l (d.ours (cI:=[G]))) j (λw⟨ah,u,i⟩=>?_))
 have d:=d.b4 i
 refine ao 1 j j ?_
 exact⟨j,ah,u,d.as⟩
theorem Ei{o:World}{g:al}{aO:Nat}{z:aX}{G:List Chunk}{i aK:Nat}{p:bI×Int}(O:lq g aO z i aK G)(E:z.cJ[i]? =some p){N M L:Nat}(ad:z.de g (λ_=>N) M L)(J:773<=N)(K:N+150<=1000000)(H:L+4200000<=1000000000)(B:g.at o)(Q:g.ok)(R:g.off (av [G]))(a:Own [G] o):Calls prog 32 #[Z aO,Z aK] o (aS λr w=>r=ab (z.inits g i p).2/\∃ah,eU g aO (z.inits g i p).1 ah/\C o (av [G]) [ah] w):=by
 obtain⟨d,m⟩:∃d,d=av [G]:=⟨_,j⟩
 have D:g.off d:=m▸R
 rw [<-m]
 have a:C o d [G] o:=m▸a
 have t:p.1.ok:=ad.kk p (hZ E)
 obtain⟨c,cH,bQ,bd,bA,ak,H1,k,GE,az,F,rfl,y⟩:=O.open E
 obtain⟨u,h,v,rfl⟩:=F
 have a:C o d [bj g aO c,cH,bQ,ak,H1,da aK az p.2,bD az p.1 u,h,k,bd,bA] o:=a.perm (by simp)
 refine a1 [Z aO,Z aK] func32 ntmps32 results32 (au 8 j (aw (C.aj (b:=aK) a) j) (bp 0 (Eh (az:=az) (e:=p.1) (u:=u) t.next t.name (a.ours (cI:=[bD az p.1 u]))) j (λw n=>?_)))
 have a:=a.b4 n
 refine cn 3 a j (λf w a=>?_)
 have a:C o d (bE f c9::_) w:=a
 refine cp 0 (a.bf f) j j j j j (λw a=>?_)
 have a:=C.whole (U:=p.1.init.2.1.cs) a j
 have a:C o d (bE f p.1.init.2.1::_) w:=a
 refine aT 6 j j (λl=>?_) (λl=>?_)
 refine au 3 j (aw (C.aj (b:=f) a) j) (dD 2 (a.bf aK) j j j j (λw a=>?_))
 have a:C o d (da aK az p.1.init.2.1.s::_) w:=a
 have q:(p.1.init.1,if p.1.init.2.2=0 then p.1.init.2.1.s else p.2)=(p.1.init.1,p.1.init.2.1.s):=aL (Prod.mk p.1.init.1) (a6 (by simpa using l))
 obtain⟨aA,x,a⟩:∃aA,eU g aO (z.fV i (p.1.init.1,if p.1.init.2.2=0 then p.1.init.2.1.s else p.2)) aA/\C o d [aA,bE f p.1.init.2.1] w:=by
  rw [q]
  have a:C o d [bj g aO c,cH,bQ,ak,H1,da aK az p.1.init.2.1.s,bD az p.1.init.1 u,h,k,bd,bA,bE f p.1.init.2.1] w:=a.as
  exact⟨_,(y (p.1.init.1,p.1.init.2.1.s) _ ⟨u,h,by rw [bI.yj];exact v,j⟩).rep,C.perm (A:=[bj g aO c,cH,bQ,ak,H1,da aK az p.1.init.2.1.s,bD az p.1.init.1 u,h,k,bd,bA,bE f p.1.init.2.1]) a (by simp)⟩
 refine bS 3 (U:=p.1.init.2.1.cs) j j j (bq (C.aj (b:=f) a)) ?_
 rotate_left
 have q:(p.1.init.1,if p.1.init.2.2=0 then p.1.init.2.1.s else p.2)=(p.1.init.1,p.2):=aL (Prod.mk p.1.init.1) (aF (by simpa using l))
 obtain⟨aA,x,a⟩:∃aA,eU g aO (z.fV i (p.1.init.1,if p.1.init.2.2=0 then p.1.init.2.1.s else p.2)) aA/\C o d [aA,bE f p.1.init.2.1] w:=by
  rw [q]
  have a:C o d [bj g aO c,cH,bQ,ak,H1,da aK az p.2,bD az p.1.init.1 u,h,k,bd,bA,bE f p.1.init.2.1] w:=a.as
  exact⟨_,(y (p.1.init.1,p.2) _ ⟨u,h,by rw [bI.yj];exact v,j⟩).rep,C.perm (A:=[bj g aO c,cH,bQ,ak,H1,da aK az p.2,bD az p.1.init.1 u,h,k,bd,bA,bE f p.1.init.2.1]) a (by simp)⟩
 refine bS 4 (U:=p.1.init.2.1.cs) j j j (bq (C.aj (b:=f) a)) ?_
 rotate_left
 all_goals
  refine bp 1 (rJ (I:=p.1.init.2.1) x (ad.fV t.init) J K H (B.st a D) Q (a.ex B D) (a.ours (cI:=[aA]))) j (λw⟨ah,P,n⟩=>?_)
  have a:=a.b4 n
  refine ao 1 j j ?_
  exact⟨j,ah,P,a.as⟩
theorem lq.FY{g:al}{aO:Nat}{z:aX}{i aK:Nat}{G:List Chunk}{p:bI×Int}(h:lq g aO z i aK G)(k:z.cJ[i]? =some p):∃(c:cg)(cH bQ bd bA ak H1 e GE:List Chunk)(az:Nat),hU az p.1 GE/\pC 47 (jq g) c.parts z.parts bQ/\G=bj g aO c++(cH++(bQ++((ak++(H1++((da aK az p.2++GE)++e)))++(bd++bA))))/\
 (∀a b l d,pC 47 (jq g) c.parts l d->hU az a.1 b->eU g aO {z.fV i a with parts:=l} (bj g aO c++(cH++(d++((ak++(H1++((da aK az a.2++b)++e)))++(bd++bA)))))):=by
 obtain⟨c,cH,bQ,bd,bA,ak,H,U,f,B,u,o,rfl⟩:=h
 have n:i<z.cJ.length:=(fa.1 k).1
 obtain⟨v,H1,D,e,q,rfl,m,A⟩:=u.at i n
 rw [q] at o
 cases o
 have y:z.cJ[i]=p:=by rw [ck n] at k;exact hr k
 rw [y] at m
 obtain⟨E,az,GE,r,s,rfl⟩:=m
 cases r
 refine⟨c,cH,bQ,bd,bA,ak,H1,e,GE,az,s,f.parts,j,λa b l d x t=>?_⟩
 have w:=A a (da aK az a.2++b) ⟨aK,az,b,j,t,j⟩
 have C:Row 73 1 c.cJ (z.cJ.set i a).length U ak:=by
  rw [hp];exact B
 exact⟨c,cH,d,_,bd,bA,⟨f.bM,x,⟨ak,_,U,j,C,w⟩,f.bB,f.heard⟩,j⟩
theorem dS.vA{g:al}:∀{U:List Value}{xs:List cM}{G:List Chunk},dS (jq g) U xs G->∀v∈U,∃p,v= .pointer p
 |[],_,_,_=>by intro v a;cases a
 |u::us,[],_,h=>h.elim
 |u::us,x::xs,_,⟨_,_,_,hu,h⟩=>by
  intro v a
  rcases gd.1 a with rfl|a
  .obtain⟨c,b,_⟩:=hu;exact⟨_,b⟩
  .exact h.vA v a
theorem bI.GD{e:bI}(h:e.ok){n:Int}{x:List UInt8}(a:(e.record n x).2.2=0):0<=n/\n<=3:=by
 unfold bI.record at a
 split at a
 .cases a
 .rename_i q c
  have b:n∈e.parts.map Prod.fst:=dT.2 ⟨_,hN c,j⟩
  rw [h.keys] at b
  simp at b
  omega
theorem GF{o:World}{g:al}{aO:Nat}{z:aX}{G:List Chunk}{i aK:Nat}{p:bI×Int}{s:e6}{a:hJ}(aN:lq g aO z i aK G)(aE:z.cJ[i]? =some p)(am:hW s a (av [G]) o){N M L:Nat}(ad:z.de g (λ_=>N) M L)(a2:773<=N)(a3:N+150<=1000000)(a0:M+10000<=1000000)(aZ:L+4200000<=1000000000)(a4:g.at o)(a8:g.ok)(aQ:g.off (av [G]))(d:Own [G] o):Calls prog 35 #[Z aO,.agg (cQ s a).toArray,Z aK] o (aS λr w=>r=ab (z.records s i p).2/\∃ah,eU g aO (z.records s i p).1 ah/\C o (av [G]) [ah] w):=by
 obtain⟨e,Y⟩:∃e,e=av [G]:=⟨_,j⟩
 have a9:g.off e:=Y▸aQ
 rw [<-Y] at am⊢
 have d:C o e [G] o:=Y▸d
 have aq:p.1.ok:=ad.kk p (hZ aE)
 obtain⟨c,cH,bQ,bd,bA,ak,H1,q,GE,az,aA,aB,rfl,ag⟩:=aN.FY aE
 have d:C o e [bj g aO c,cH,bQ,ak,H1,da aK az p.2,GE,q,bd,bA] o:=d.perm (by simp)
 refine a1 [Z aO,.agg (cQ s a).toArray,Z aK] func35 ntmps35 results35 (bP 2 d j j (λf w d=>?_))
 have d:C o e [R f (cQ s a).toArray 35,bj g aO c,cH,bQ,ak,H1,da aK az p.2,GE,q,bd,bA] w:=d
 have d:C o e ([R f (cQ s a).toArray 35,da aK az p.2]++_) _:=d.front
 have d:=d.drew
 refine bz 2 j (λw=>∃ae,C o e ([R f (cQ s a).toArray 35,da aK az p.2]++ae) w) ⟨_,d⟩ (af 0 3 j (be 3 j a7 j (af 4 1 j (be 5 j a7 j (af 6 1 j (be 7 j a7 j (aJ 8 12 j j ?_ ?_)))))))
 have J:=am.apart d
 refine cN j j j (zJ (n:=s.n) (gV:=a.bH) aA aq.o0 J.x (J.n4.sub (fB (by simp))) (d.ours (cI:=[GE]))) (λr w⟨u,I,F,hu,m,O,H⟩=>?_)
 subst F
 obtain⟨l,t,rfl,aD,_⟩:=Row.form hu
 have d:=d.b4 H
 have d:C o e ([R f (cQ s a).toArray 35,da aK az p.2]++_) w:=d.front
 refine an ⟨⟨_,d⟩,?_⟩
 refine af 9 3 j (aW 12 j (en d j j (λk w d=>?_)))
 have d:C o e (R k (rcc eR (.slice none 0 0)).toArray 169::_) w:=d
 have d:C o e ([R f (cQ s a).toArray 35,da aK az p.2]++_) w:=d.front
 refine an ⟨⟨_,d⟩,?_⟩
 rotate_left
 refine en d j j (λk w d=>?_)
 have d:C o e (R k (rcc eR (.slice none 0 0)).toArray 169::_) w:=d
 have d:C o e ([R f (cQ s a).toArray 35,da aK az p.2]++_) w:=d.front
 refine an ⟨⟨_,d⟩,?_⟩
 refine aW 8 j ?_
 have J:=am.apart d
 refine cN j j j (zJ (n:=s.n) (gV:=a.bH) aA aq.o0 J.x (J.n4.sub (fB (by simp))) (d.ours (cI:=[GE]))) (λr w⟨u,I,F,hu,m,O,H⟩=>?_)
 subst F
 obtain⟨l,t,rfl,aD,_⟩:=Row.form hu
 have d:=d.b4 H
 have d:C o e ([R f (cQ s a).toArray 35,da aK az p.2]++_) w:=d.front
 refine an ⟨⟨_,d⟩,?_⟩
 refine af 9 3 j ?_
 rotate_left
 all_goals
  refine aW 13 j (c5 (d.bf k) j j j j j bR (λw d=>?_))
  have d:=C.whole (U:=rcc (p.1.record s.n s.x).2.1 (.slice l (p.1.record s.n s.x).2.1.x.length t)) d j
  have d:C o e ([(k,.cells (rcc (p.1.record s.n s.x).2.1 (.slice l (p.1.record s.n s.x).2.1.x.length t)).toArray 169 (0,0))]::_) w:=d
  have d:C o e ([R f (cQ s a).toArray 35,da aK az p.2]++_) w:=d.front
  refine an ⟨⟨_,d⟩,?_⟩
  refine af 14 1 j (bO (aT 5 j j (λW=>?_) (λW=>?_)))
  .refine ao 4 j j ?_
   have K:z.records s i p=(z.fV i ((p.1.record s.n s.x).1,p.2),(p.1.record s.n s.x).2.2):=a6 (by simpa using W)
   rw [K]
   have d:C o e [bj g aO c,cH,bQ,ak,H1,da aK az p.2,m,q,bd,bA] _:=d.as
   exact⟨j,_,ag ((p.1.record s.n s.x).1,p.2) m z.parts bQ aB O,C.perm (A:=[bj g aO c,cH,bQ,ak,H1,da aK az p.2,m,q,bd,bA]) d (by simp)⟩
  obtain⟨h,aw,aH,rfl,ar,aa⟩:=aB
  have d:C o e [R f (cQ s a).toArray 35,[(k,.cells (rcc (p.1.record s.n s.x).2.1 (.slice l (p.1.record s.n s.x).2.1.x.length t)).toArray 169 (0,0))],bj g aO c,cH,h,aw,ak,H1,da aK az p.2,m,q,bd,bA,I] _:=C.perm (A:=[R f (cQ s a).toArray 35,[(k,.cells (rcc (p.1.record s.n s.x).2.1 (.slice l (p.1.record s.n s.x).2.1.x.length t)).toArray 169 (0,0))],bj g aO c,cH,h++aw,ak,H1,da aK az p.2,m,q,bd,bA,I]) d.as (by simp)
  have d:C o e ([R f (cQ s a).toArray 35,bj g aO c,h,[(k,.cells (rcc (p.1.record s.n s.x).2.1 (.slice l (p.1.record s.n s.x).2.1.x.length t)).toArray 169 (0,0))]]++_) _:=d.front
  have d:=d.drew
  have ai:(p.1.record s.n s.x).2.2=0:=by simpa using W
  refine bz 2 j (λw=>∃ae,C o e ([R f (cQ s a).toArray 35,bj g aO c,h,[(k,.cells (rcc (p.1.record s.n s.x).2.1 (.slice l (p.1.record s.n s.x).2.1.x.length t)).toArray 169 (0,0))]]++ae) w) ⟨_,d⟩ (af 0 2 j (be 2 j a7 j (aV 4 j (λw⟨_,d⟩=>dc (U:=rcc (p.1.record s.n s.x).2.1 (.slice l (p.1.record s.n s.x).2.1.x.length t)) j j j (bq (C.aj (b:=k) d))) (aW 3 j ?_))))
  obtain⟨ap,a5⟩:=bI.GD aq ai
  have Q:s.n.toNat<z.parts.length:=by rw [ad.parts];omega
  obtain⟨v,D,T,E,aY,rfl,aL,aG⟩:=aa.at s.n.toNat Q
  obtain⟨bh,rfl,ax⟩:=aL
  obtain⟨b,P⟩:∃b,z.parts[s.n.toNat]=b:=⟨_,j⟩
  rw [P] at ax
  refine cN j j j (zp (V:=jq g) (i:=s.n) (C.aj (b:=aO) d) ar (d.holds (G:=h) (by simp)) aa.len (dS.vA aa)) (λr w⟨F,hw⟩=>?_)
  rw [a6 ⟨ap,by omega⟩,iO,aY] at F
  have F:r=Z bh:=F
  subst F
  have hw:=hw.symm
  subst hw
  refine an ⟨⟨_,d⟩,?_⟩
  refine aW 5 j ?_
  have d:C o e [R f (cQ s a).toArray 35,[(k,.cells (rcc (p.1.record s.n s.x).2.1 (.slice l (p.1.record s.n s.x).2.1.x.length t)).toArray 169 (0,0))],bj g aO c,cH,h,D,T,E,ak,H1,da aK az p.2,m,q,bd,bA,I] _:=C.perm (A:=[R f (cQ s a).toArray 35,[(k,.cells (rcc (p.1.record s.n s.x).2.1 (.slice l (p.1.record s.n s.x).2.1.x.length t)).toArray 169 (0,0))],bj g aO c,cH,h,D++(T++E),ak,H1,da aK az p.2,m,q,bd,bA,I]) d.as (by simp)
  have aC:=ad.jH b (by rw [<-P];exact ek Q)
  obtain⟨_,_,aI,_,_,aR,aP⟩:=Row.rd hu (d.to I)
  cases aI
  refine bF j j j (B5 (r:=(p.1.record s.n s.x).2.1) (B:=l) (aU:=t) ax (by have:=aC.cl;omega) (by have:=aC.c0;omega) aR (aP.sub (fB (by simp))) aD (d.ours (cI:=[T]))) (λw⟨y,ay,H⟩=>?_)
  have d:=d.b4 H
  have d:C o e ([R f (cQ s a).toArray 35,bj g aO c,h,[(k,.cells (rcc (p.1.record s.n s.x).2.1 (.slice l (p.1.record s.n s.x).2.1.x.length t)).toArray 169 (0,0))]]++_) w:=d.front
  refine an ⟨⟨_,d⟩,?_⟩
  refine af 6 4 j (bO (aT 5 j j (λX=>?_) (λX=>?_)))
  .have d:C o e ([R f (cQ s a).toArray 35,da aK az p.2]++_) _:=d.front
   have d:=d.drew
   refine bz 0 j (λw=>∃ae,C o e ([R f (cQ s a).toArray 35,da aK az p.2]++ae) w) ⟨_,d⟩ (af 0 3 j (be 3 j a7 j (af 4 1 j (be 5 j a7 j (dy 6 j (bF j j j (BJ (n:=s.n) O (d.ours (cI:=[m]))) (λw⟨S,aM,H⟩=>?_)))))))
   have d:=d.b4 H
   refine an (cX (ao 4 j j ?_))
   have au:z.part s.n=some b:=by
    unfold aX.part
    rw [a6 ap,ck Q,P]
   have K:z.records s i p=((z.fV i (((p.1.record s.n s.x).1.jz s.n).1,p.2)).nZ s.n {b with log:=(b.log.append (p.1.record s.n s.x).2.1).1},(b.log.append (p.1.record s.n s.x).2.1).2.2):=by
    unfold aX.records
    rw [aF (by simpa using ai),au]
    dsimp only
    rw [a6 (by simpa using X)]
   rw [K]
   have ac:=aG {b with log:=(b.log.append (p.1.record s.n s.x).2.1).1} y ⟨bh,j,ay⟩
   have d:C o e [bj g aO c,cH,h,D,y,E,ak,H1,da aK az p.2,S,q,bd,bA] _:=d.as
   refine⟨j,_,ag (((p.1.record s.n s.x).1.jz s.n).1,p.2) S (z.parts.set s.n.toNat {b with log:=(b.log.append (p.1.record s.n s.x).2.1).1}) (h++(D++(y++E))) ⟨h,_,aH,j,by rw [List.length_set];exact ar,ac⟩ aM,C.perm (A:=[bj g aO c,cH,h,D,y,E,ak,H1,da aK az p.2,S,q,bd,bA]) d (by simp)⟩
  refine ao 5 j j ?_
  have au:z.part s.n=some b:=by
   unfold aX.part
   rw [a6 ap,ck Q,P]
  have K:z.records s i p=((z.fV i ((p.1.record s.n s.x).1,p.2)).nZ s.n {b with log:=(b.log.append (p.1.record s.n s.x).2.1).1},(b.log.append (p.1.record s.n s.x).2.1).2.2):=by
   unfold aX.records
   rw [aF (by simpa using ai),au]
   dsimp only
   rw [aF (by simpa using X)]
  rw [K]
  have ac:=aG {b with log:=(b.log.append (p.1.record s.n s.x).2.1).1} y ⟨bh,j,ay⟩
  have d:C o e [bj g aO c,cH,h,D,y,E,ak,H1,da aK az p.2,m,q,bd,bA] _:=d.as
  refine⟨j,_,ag ((p.1.record s.n s.x).1,p.2) m (z.parts.set s.n.toNat {b with log:=(b.log.append (p.1.record s.n s.x).2.1).1}) (h++(D++(y++E))) ⟨h,_,aH,j,by rw [List.length_set];exact ar,ac⟩ O,C.perm (A:=[bj g aO c,cH,h,D,y,E,ak,H1,da aK az p.2,m,q,bd,bA]) d (by simp)⟩
theorem eU.CT{g:al}{aO:Nat}{z:aX}{G:List Chunk}(h:eU g aO z G)(q:0<z.cJ.length):∃(c:cg)(a cap:Nat),c.cJ= .slice (some ⟨a,0,none⟩) z.cJ.length cap/\z.cJ.length<=cap/\cap<=maxLen/\(∀w,Holds w G->w.heap[aO]? =some (.cells (lU g c).toArray 58 (0,0)))/\
 ∀(i:Nat)(p:bI×Int),z.cJ[i]? =some p->∃aK,lq g aO z i aK G/\∀w,Holds w G->w.cell? ⟨a,0+i*1,none⟩=some (Z aK):=by
 obtain⟨c,cH,bQ,dx,bd,bA,l,rfl⟩:=h
 have y:=l
 obtain⟨ak,H,U,rfl,m,d⟩:=l.cJ
 have n:=m
 obtain⟨a,cap,cur,k,rfl,r,s,_⟩:=Row.block m q
 refine⟨c,a,cap,k,r,s,λw b=>b.left.head,λi p u=>?_⟩
 have x:i<z.cJ.length:=(fa.1 u).1
 obtain⟨v,_,B,_,o,C,t,_⟩:=d.at i x
 obtain⟨aK,_,_,rfl,_⟩:=t
 refine⟨aK,⟨c,cH,bQ,bd,bA,_,H,U,y,n,d,o,j⟩,λw b=>?_⟩
 obtain⟨_,_,e,_,_,A,_⟩:=Row.read n b.right.right.right.left.left
 rw [k] at e
 cases e
 have f:=A.cell o
 rw [add_lit] at f
 rw [gT]
 exact f
theorem sy{o:World}{g:al}{aO:Nat}{z:aX}{G:List Chunk}{s:e6}{a:hJ}(X:eU g aO z G)(ar:hW s a (av [G]) o){N M L:Nat}(ad:z.de g (λ_=>N) M L)(J:773<=N)(K:N+150<=1000000)(ap:M+10000<=1000000)(H:L+4200000<=1000000000)(x:g.at o)(P:g.ok)(ac:g.off (av [G]))(d:Own [G] o):Calls prog 16 #[Z aO,.agg (cQ s a).toArray] o (aS λr w=>r=ab (z.gG g s).2/\∃ah,eU g aO (z.gG g s).1 ah/\C o (av [G]) [ah] w):=by
 obtain⟨h,F⟩:∃h,h=av [G]:=⟨_,j⟩
 have y:g.off h:=F▸ac
 have ax:hW s a h o:=F▸ar
 rw [<-F]
 have d:C o h [G] o:=F▸d
 obtain⟨c,aC,cap,ag,aE,aG,am,aq⟩:=X.CT (by rw [ad.cJ];decide)
 have aD:=ad.cJ
 refine a1 [Z aO,.agg (cQ s a).toArray] func16 ntmps16 results16 (bP 2 d j j (λf w d=>?_))
 have d:C o h [R f (cQ s a).toArray 35,G] w:=d
 have d:C o h ([R f (cQ s a).toArray 35,G]++_) _:=d.front
 have d:=d.drew
 refine bz 3 j (λw=>∃ae,C o h ([R f (cQ s a).toArray 35,G]++ae) w) ⟨_,d⟩ (af 0 1 j (be 1 j a7 j (af 2 2 j (ef 9 j (λk=>?_) (λk=>?_)))))
 .refine af 4 9 j (bO (ao 4 j j ?_))
  have m:z.gG g s=(z,1):=by
   unfold aX.gG
   have e:(if 0<=s.node then z.cJ[s.node.toNat]? else none)=none:=aF (by have:=br k;omega)
   rw [e]
  rw [m]
  exact⟨j,G,X,d.as⟩
 refine af 4 1 j (be 5 j a7 j (af 6 3 j (bT 9 j (λw⟨_,d⟩=>aw (am _ (d.holds (G:=G) (by simp))) (aL some ag)) (af 10 3 j (bO (aT 0 j j (λS=>?_) (λS=>?_)))))))
 .refine ao 3 j j ?_
  have m:z.gG g s=(z,1):=by
   unfold aX.gG
   have e:(if 0<=s.node then z.cJ[s.node.toNat]? else none)=none:=(a6 (by have:=bw k;omega)).trans (kA (by have:=br S;have:=bw k;omega))
   rw [e]
  rw [m]
  exact⟨j,G,X,d.as⟩
 obtain⟨i,ay⟩:∃i:Nat,s.node=i:=⟨s.node.toNat,by have:=bw k;omega⟩
 have ai:i<z.cJ.length:=by have:=bw S;omega
 obtain⟨p,v⟩:∃p,z.cJ[i]? =some p:=⟨_,ck ai⟩
 have B:p.1.ok:=ad.kk p (hZ v)
 obtain⟨aK,O,aB⟩:=aq i p v
 have Q:(if 0<=s.node then z.cJ[s.node.toNat]? else none)=some p:=by rw [a6 (by omega),show s.node.toNat=i by omega,v]
 have d:C o h ([R f (cQ s a).toArray 35,G]++_) _:=d.front
 have d:=d.drew
 refine bz 2 j (λw=>∃ae,C o h ([R f (cQ s a).toArray 35,G]++ae) w) ⟨_,d⟩ (af 0 3 j (bT 3 j (λw⟨_,d⟩=>aw (am _ (d.holds (G:=G) (by simp))) (aL some ag)) (af 4 1 j (be 5 j a7 j (iT 24 (.int .i64 (i:Nat)) j (aL (Value.int .i64) ay) (aV 6 j (λw _=>gI j j ai) (bT 7 j (λw⟨_,d⟩=>aB _ (d.holds (G:=G) (by simp))) (af 8 1 j (bO (au 4 j (aw (C.aj (b:=f) d) j) (aT 5 j j (λD=>?_) (λD=>?_))))))))))))
 .refine bp 4 (Ei O v ad J K H (x.st d y) P ac (d.ours (cI:=[G]))) j (λw⟨ah,u,l⟩=>?_)
  have d:=d.b4 l
  refine ao 1 j j ?_
  have m:z.gG g s=z.inits g i p:=by
   unfold aX.gG
   rw [Q]
   dsimp only
   rw [a6 (by simpa using D),show s.node.toNat=i by omega]
  rw [m]
  exact⟨j,ah,u,d.as⟩
 refine aT 4 j j (λE=>?_) (λE=>?_)
 .obtain⟨k,cH,bQ,bd,bA,ak,H1,q,GE,az,V,rfl,aa⟩:=O.open v
  have d:C o h [R f (cQ s a).toArray 35,bj g aO k,cH,bQ,ak,H1,da aK az p.2,GE,q,bd,bA] _:=C.perm (A:=[R f (cQ s a).toArray 35,bj g aO k++(cH++(bQ++((ak++(H1++((da aK az p.2++GE)++q)))++(bd++bA))))]) d.as (by simp)
  have d:C o h ([R f (cQ s a).toArray 35,da aK az p.2]++_) _:=d.front
  have d:=d.drew
  refine bz 1 j (λw=>∃ae,C o h ([R f (cQ s a).toArray 35,da aK az p.2]++ae) w) ⟨_,d⟩ (af 0 4 j (be 4 j a7 j (af 5 1 j (be 6 j a7 j (aW 7 j (bF j j j (Cr (n:=s.n) V B.next B.last (d.ours (cI:=[GE]))) (λw⟨t,W,l⟩=>?_)))))))
  have d:=d.b4 l
  have d:C o h ([R f (cQ s a).toArray 35,da aK az p.2]++_) _:=d.front
  refine an ⟨⟨_,d⟩,?_⟩
  refine af 8 2 j (dy 10 j ?_)
  obtain⟨aA,Y,d⟩:∃aA,eU g aO (z.fV i ((p.1.gB s.n).1,p.2)) aA/\C o h [aA,R f (cQ s a).toArray 35] _:=by
   have d:C o h [bj g aO k,cH,bQ,ak,H1,da aK az p.2,t,q,bd,bA,R f (cQ s a).toArray 35] _:=d.as
   exact⟨_,(aa ((p.1.gB s.n).1,p.2) t W).rep,C.perm (A:=[bj g aO k,cH,bQ,ak,H1,da aK az p.2,t,q,bd,bA,R f (cQ s a).toArray 35]) d (by simp)⟩
  refine bF j j j (rJ (I:=(p.1.gB s.n).2.1) Y (ad.fV (B.gB _)) J K H (x.st d y) P (d.ex x y) (d.ours (cI:=[aA]))) (λw⟨ah,u,l⟩=>?_)
  have d:=d.b4 l
  refine an (jZ 11 j (wh j j j (an (cX (ao 0 j j ?_)))))
  have m:z.gG g s=(z.fV i ((p.1.gB s.n).1,p.2)).asks g (p.1.gB s.n).2.1 (p.1.gB s.n).2.2:=by
   unfold aX.gG
   rw [Q]
   dsimp only
   rw [aF (by simpa using D)]
   rw [a6 (by simpa using E),show s.node.toNat=i by omega]
  rw [m]
  exact⟨j,ah,u,d.as⟩
 refine aT 4 j j (λT=>?_) (λT=>?_)
 .refine bS 3 (U:=cQ s a) j j j (bq (C.aj (b:=f) d)) (bp 1 (GF (s:=s) (a:=a) O v ((ax.apart d).sub (fB (by simp))) ad J K ap H (x.st d y) P ac (d.ours (cI:=[G]))) j (λw⟨ah,u,l⟩=>?_))
  have d:=d.b4 l
  refine ao 1 j j ?_
  have m:z.gG g s=z.records s i p:=by
   unfold aX.gG
   rw [Q]
   dsimp only
   rw [aF (by simpa using D)]
   rw [aF (by simpa using E)]
   rw [a6 (by simpa using T),show s.node.toNat=i by omega]
  rw [m]
  exact⟨j,ah,u,d.as⟩
 obtain⟨k,cH,bQ,bd,bA,ak,H1,q,GE,az,V,rfl,aa⟩:=O.open v
 have d:C o h [R f (cQ s a).toArray 35,bj g aO k,cH,bQ,ak,H1,da aK az p.2,GE,q,bd,bA] _:=C.perm (A:=[R f (cQ s a).toArray 35,bj g aO k++(cH++(bQ++((ak++(H1++((da aK az p.2++GE)++q)))++(bd++bA))))]) d.as (by simp)
 have d:C o h ([R f (cQ s a).toArray 35,da aK az p.2]++_) _:=d.front
 have d:=d.drew
 refine bz 2 j (λw=>∃ae,C o h ([R f (cQ s a).toArray 35,da aK az p.2]++ae) w) ⟨_,d⟩ (af 0 4 j (be 4 j a7 j (af 5 1 j (be 6 j a7 j (af 7 1 j (aW 8 j (bF j j j (Dw (dQ:=(s.n !=0)) V B.next (by have:=aL List.length B.keys;rw [fy] at this;rw [this];decide) (d.ours (cI:=[GE]))) (λw⟨t,W,l⟩=>?_))))))))
 have d:=d.b4 l
 have d:C o h ([R f (cQ s a).toArray 35,da aK az p.2]++_) _:=d.front
 refine an ⟨⟨_,d⟩,?_⟩
 refine af 9 2 j (dy 11 j ?_)
 obtain⟨aA,Y,d⟩:∃aA,eU g aO (z.fV i ((p.1.end_ (s.n !=0)).1,p.2)) aA/\C o h [aA,R f (cQ s a).toArray 35] _:=by
  have d:C o h [bj g aO k,cH,bQ,ak,H1,da aK az p.2,t,q,bd,bA,R f (cQ s a).toArray 35] _:=d.as
  exact⟨_,(aa ((p.1.end_ (s.n !=0)).1,p.2) t W).rep,C.perm (A:=[bj g aO k,cH,bQ,ak,H1,da aK az p.2,t,q,bd,bA,R f (cQ s a).toArray 35]) d (by simp)⟩
 refine bF j j j (rJ (I:=(p.1.end_ (s.n !=0)).2.1) Y (ad.fV (B.end_ _)) J K H (x.st d y) P (d.ex x y) (d.ours (cI:=[aA]))) (λw⟨ah,u,l⟩=>?_)
 have d:=d.b4 l
 refine an (jZ 12 j (wh j j j (an (cX (ao 0 j j ?_)))))
 have m:z.gG g s=(z.fV i ((p.1.end_ (s.n !=0)).1,p.2)).asks g (p.1.end_ (s.n !=0)).2.1 (p.1.end_ (s.n !=0)).2.2:=by
  unfold aX.gG
  rw [Q]
  dsimp only
  rw [aF (by simpa using D)]
  rw [aF (by simpa using E)]
  rw [aF (by simpa using T)]
  rw [show s.node.toNat=i by omega]
 rw [m]
 exact⟨j,ah,u,d.as⟩
end Go.Proofs.YtdcbpdlhhkcjnaaGreatDoor.R
