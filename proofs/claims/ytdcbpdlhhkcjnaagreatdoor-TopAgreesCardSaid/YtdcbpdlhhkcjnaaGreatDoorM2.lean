/- Part 2 of the proof. -/
import Derived.Test.YtdcbpdlhhkcjnaaGreatDoorM1
set_option linter.unusedVariables false
set_option linter.unusedSimpArgs false
set_option linter.unusedSectionVars false
set_option maxRecDepth 20000
set_option maxHeartbeats 4000000
namespace Go.Proofs.YtdcbpdlhhkcjnaaGreatDoor.R
open Go.Proofs.Tryz Go Go.RowKit Go.Proofs
structure Ext(g:al)(B:Option Addr)(U:List Value)(F:List Nat)(w:World):Prop where
 ring:g.at w
 rd:Rd w B U
 off:g.off F
 ap:bU B U F
theorem Ext.st{g:al}{B:Option Addr}{U:List Value}{F eD:List Nat}{ae:List (List Chunk)}{w aI:World}(h:Ext g B U F w)(c:C w eD ae aI)(a:∀b∈eD,b∈F):Ext g B U F aI:=
 ⟨h.ring.st c (h.off.sub a),c.rd h.rd (h.ap.sub a),h.off,h.ap⟩
theorem Ext.grow{g:al}{B:Option Addr}{U:List Value}{F eD:List Nat}{w:World}(h:Ext g B U F w)(d:∀b∈eD,b∈F\/w.heap.size<=b):Ext g B U eD w:=by
 refine⟨h.ring,h.rd,⟨λc=>(d _ c).elim h.off.r (λf=>?_),λc=>(d _ c).elim h.off.k (λf=>?_)⟩,λi a e c=>(d _ c).elim (h.ap i a e) (λf=>?_)⟩
 .have:=(gp.1 h.ring.ring).1;omega
 .have:=(gp.1 h.ring.keys).1;omega
 .have:=h.rd.lt i e;omega
def h5(g:al)(kind slot view:Int)(sum:List UInt8)(x:aG):Bool:=x.k==kind&&(x.s==slot&&(x.v==view&&(x.sum==sum&&cP g x)))
def hz(g:al)(kind slot view:Int)(sum:List UInt8)(l:List aG)(i:Nat):List Int:=((l.take i).filter (h5 g kind slot view sum)).map aG.f
theorem zc{g:al}{kind slot view:Int}{sum:List UInt8}{l:List aG}{i:Nat}(h:i<l.length)(a:h5 g kind slot view sum l[i]=true):hz g kind slot view sum l (i+1)=hz g kind slot view sum l i++[l[i].f]:=by
 unfold hz
 rw [fF h,mP,List.map_append]
 simp [a]
theorem vq{g:al}{kind slot view:Int}{sum:List UInt8}{l:List aG}{i:Nat}(h:i<l.length)(a:h5 g kind slot view sum l[i]=false):hz g kind slot view sum l (i+1)=hz g kind slot view sum l i:=by
 unfold hz
 rw [fF h,mP,List.map_append]
 simp [a]
theorem FQ{g:al}{kind slot view:Int}{sum:List UInt8}{l:List aG}{i n:Nat}(h:i<l.length)(aP:i<n)(d:h5 g kind slot view sum l[i]=true):∃r,hz g kind slot view sum l n=hz g kind slot view sum l i++l[i].f::r:=by
 refine⟨(((l.take n).drop (i+1)).filter (h5 g kind slot view sum)).map aG.f,?_⟩
 have e:l.take n=l.take (i+1)++(l.take n).drop (i+1):=by
  have b:(l.take n).take (i+1)=l.take (i+1):=by rw [List.take_take,mO (by omega)]
  rw [<-b,mU]
 have a:hz g kind slot view sum l n=hz g kind slot view sum l (i+1)++(((l.take n).drop (i+1)).filter (h5 g kind slot view sum)).map aG.f:=by
  unfold hz
  rw [e,mP,List.map_append]
  have c:(l.take (i+1)++(l.take n).drop (i+1)).drop (i+1)=(l.take n).drop (i+1):=by rw [<-e]
  rw [c]
 rw [a,zc h d,dH]
 rfl
theorem FR{o:World}{g:al}{B:Option Addr}{l:List aG}{d:Nat}{kind slot view:Int}{sum:List UInt8}:Calls prog 252 #[g.p,.slice B l.length d,ab kind,ab slot,ab view,.agg (aE sum).toArray] o (aS λr w=>∃e f h i b c,r= .func (.func 281) #[] #[Z f,Z h,Z i,Z b,Z c,Z e]/\C o [] [R f #[.slice B l.length d] 92,R h #[ab kind] 3,R i #[ab slot] 3,R b #[ab view] 3,R c (aE sum).toArray 66,R e #[g.p] 52] w):=by
 have a:Own [] o:=C.start o
 refine a1 [g.p,.slice B l.length d,ab kind,ab slot,ab view,.agg (aE sum).toArray] func252 ntmps252 results252 (bP 2 a j j (λe w a=>bP 0 a j j (λf w a=>bP 0 a j j (λh w a=>bP 0 a j j (λi w a=>bP 0 a j j (λb w a=>bP 0 a j j (λc w a=>ar 3 j (gR j j j j ?_))))))))
 refine ao 1 j j ?_
 exact⟨e,f,h,i,b,c,j,a.f1.f2.f3.f4⟩
theorem FP{m q s t e h:Nat}{g:al}{B:Option Addr}{l:List aG}{d:Nat}{kind slot view:Int}{sum:List UInt8}(aj:g.ok)(S:∀x∈l,x.ok)(Y:sum.length=32)(az:l.length<=d)(aC:l.length<=1000):Iter prog 281 #[Z q,Z s,Z t,Z e,Z h,Z m] [R q #[.slice B l.length d] 92,R s #[ab kind] 3,R t #[ab slot] 3,R e #[ab view] 3,R h (aE sum).toArray 66,R m #[g.p] 52] (λae w=>Ext g B (l.flatMap aG.cs) (av ([R q #[.slice B l.length d] 92,R s #[ab kind] 3,R t #[ab slot] 3,R e #[ab view] 3,R h (aE sum).toArray 66,R m #[g.p] 52]++ae)) w) (λ_=>True) (λk:Int=> #[bu k]) (λpre k=>∃r,hz g kind slot view sum l (min l.length 10)=pre++k::r) (λxs=>xs=hz g kind slot view sum l (min l.length 10)):=by
 intro y aw aD ae o a c P _ V aB am
 show Calls _ _ #[ey y,Z q,Z s,Z t,Z e,Z h,Z m] o _
 obtain⟨K,T⟩:∃K,K=av ([R q #[.slice B l.length d] 92,R s #[ab kind] 3,R t #[ab slot] 3,R e #[ab view] 3,R h (aE sum).toArray 66,R m #[g.p] 52]++ae):=⟨_,j⟩
 rw [<-T] at P⊢
 have a:C o K (R q #[.slice B l.length d] 92::R s #[ab kind] 3::R t #[ab slot] 3::R e #[ab view] 3::R h (aE sum).toArray 66::R m #[g.p] 52::ae) o:=T▸a
 refine a1 [ey y,Z q,Z s,Z t,Z e,Z h,Z m] func281 ntmps281 results281 (au 2 j (a.cell j) (au 0 j (a.cell j) (ar 1 j (rb j j j ?_))))
 refine b2 13 (.int .i64 ((min l.length 10):Nat)) j (aL (Value.int .i64) (by show min (l.length:Int) 10=_;omega)) (rc (i:=(min l.length 10)) j j j j (by omega) ?_)
 refine cY 3 j (cA:=Nat×List (List Chunk)) (λi=>[(0,ey y),(1,Z q),(2,Z s),(3,Z t),(4,Z e),(5,Z h),(6,Z m),(14,.slice B (min l.length 10) d),(15,.int .i64 ((min l.length 10):Nat)),(16,.int .i64 (i.1:Nat))])
  (λi w=>i.1<=(min l.length 10)/\aw (hz g kind slot view sum l i.1) i.2 w/\C o K (R q #[.slice B l.length d] 92::R s #[ab kind] 3::R t #[ab slot] 3::R e #[ab view] 3::R h (aE sum).toArray 66::R m #[g.p] 52::i.2) w) (λi=>(min l.length 10)-i.1) (0,ae) ⟨j,j,j,j,j,j,j,j,j,j,ba⟩ ⟨ch _,c,a⟩ ?_
 rintro⟨i,ah⟩ w ⟨ag,c,a⟩
 dsimp only at ag c a⊢
 refine aT 4 j j (λM=>?_) (λM=>?_)
 .have I:i<(min l.length 10):=by have:=br M;omega
  have z:i<l.length:=by omega
  have u:=S l[i] (ek z)
  have ad:=P.st a (λb G=>G)
  have X:=ad.rd
  refine ar 5 j (fL j j j j X (v:=ab l[i].k) (pf l S i z) I (λax ac ay=>?_))
  subst ac
  refine bS 0 j j (l[i].len u) (pg X S i z) (cn 0 (C.start _) j (λbv w F=>cp 0 F j j j l[i].one (l[i].len u) (λw F=>?_)))
  have F:=C.whole (U:=l[i].cs) F (by rw [l[i].len u];rfl)
  have c:=V _ _ _ _ [] c F.bare (by simp)
  have a:=a.aN F
  refine au 3 j (a.cell l[i].gU) (au 0 j (a.f2.cell j) (ar 2 j (c7 24 j (λA=>?_) (λA=>?_))))
  .refine au 1 j (a.cell l[i].aZ) (au 0 j (a.f3.cell j) (ar 3 j (c7 30 j (λE=>?_) (λE=>?_))))
   refine au 1 j (a.cell l[i].dn) (au 0 j (a.f4.cell j) (ar 3 j (c7 36 j (λJ=>?_) (λJ=>?_))))
   .refine bS 1 (U:=aE l[i].sum) j j (by rw [ds];exact u.1) (a.i3 (off:=0+3) (U:=aE l[i].sum) (l[i].p7 u)) (bS 0 (U:=aE sum) j j (by rw [ds];exact Y) a.f5.bN (wn j j j j (by kernel_rfl) (λw=>p9 _ _ u.1 Y 9998 w) (ar 2 j (c7 42 j (λL=>?_) (λL=>?_)))))
    refine au 0 j (a.f6.cell j) (bS 0 (U:=l[i].cs) j j (l[i].len u) a.bN ?_)
    have af:=r3 ((P.st a (λb G=>G)).ring) aj u
    refine bp 0 af j (λw W=>?_)
    have c:=V _ _ _ _ [] c W (by simp)
    have a:=a.aN W
    refine ar 2 j (c7 47 j (λN=>?_) (λN=>?_))
    .refine au 2 j (a.cell (l[i].eM u)) ?_
     have aa:h5 g kind slot view sum l[i]=true:=by unfold h5;rw [A,E,J,L,N];rfl
     obtain⟨aq,ak⟩:=FQ (n:=(min l.length 10)) z I aa
     have an:=am (hz g kind slot view sum l i) l[i].f ah _ ⟨aq,ak⟩ c (C.jl (H:=[_,_,_,_,_,_,_]) a)
     refine jN j j j j an (λb w⟨aA,ap,G⟩=>?_)
     have a:=C.jd (H:=[_,_,_,_,_,_,_]) a ap
     refine aT 2 j j (λO=>?_) (λO=>?_)
     .refine ao 0 j j ?_
      have Q:b=false:=by cases b<;>first|rfl|exact absurd O (by decide)
      subst Q
      exact⟨aA,a.drop,.inr (by simpa using G)⟩
     refine bt 2 j j j (c2 i (by omega)) (bX 1 j ?_)
     have Q:b=true:=by cases b<;>first|rfl|exact absurd O (by decide)
     subst Q
     refine⟨(i+1,aA),⟨j,j,j,j,j,j,j,j,j,j,ba⟩,⟨I,?_,a.drop⟩,by dsimp only;omega⟩
     dsimp only
     rw [zc z aa]
     simpa using G
    refine bt 9 j j j (c2 i (by omega)) (bX 1 j ?_)
    have D:h5 g kind slot view sum l[i]=false:=by unfold h5;rw [A,E,J,L,N];rfl
    rotate_left
    refine bt 14 j j j (c2 i (by omega)) (bX 1 j ?_)
    have D:h5 g kind slot view sum l[i]=false:=by unfold h5;rw [A,E,J,L];rfl
    rotate_left
    all_goals
     refine⟨(i+1,ah),⟨j,j,j,j,j,j,j,j,j,j,ba⟩,⟨I,?_,a.drop⟩,by dsimp only;omega⟩
     dsimp only
     rw [vq z D]
     exact c
   refine bt 20 j j j (c2 i (by omega)) (bX 1 j ?_)
   have D:h5 g kind slot view sum l[i]=false:=by unfold h5;rw [A,E,J];rfl
   rotate_left
   refine bt 26 j j j (c2 i (by omega)) (bX 1 j ?_)
   have D:h5 g kind slot view sum l[i]=false:=by unfold h5;rw [A,E];rfl
   rotate_left
   all_goals
    refine⟨(i+1,ah),⟨j,j,j,j,j,j,j,j,j,j,ba⟩,⟨I,?_,a.drop⟩,by dsimp only;omega⟩
    dsimp only
    rw [vq z D]
    exact c
  refine bt 32 j j j (c2 i (by omega)) (bX 1 j ?_)
  have D:h5 g kind slot view sum l[i]=false:=by unfold h5;rw [A];rfl
  refine⟨(i+1,ah),⟨j,j,j,j,j,j,j,j,j,j,ba⟩,⟨I,?_,a.drop⟩,by dsimp only;omega⟩
  dsimp only
  rw [vq z D]
  exact c
 refine ao 1 j j ?_
 have ai:i=(min l.length 10):=by have:=bw M;omega
 subst ai
 exact⟨ah,a,.inl ⟨_,j,c⟩⟩
theorem Ext.range{g:al}{B:Option Addr}{U:List Value}{H ae:List (List Chunk)}{L:List Chunk}{w aI:World}(h:Ext g B U (av (H++ae)) w)(c:C w [] [L] aI):Ext g B U (av (H++(ae++[L]))) aI:=by
 have d:Ext g B U (av (H++(ae++[L]))) w:=h.grow (λb a=>by
  rw [<-dH] at a
  rcases m9.1 a with a|a
  ·exact .inl a
  ·have:=c.own b a;exact .inr (by simpa using this))
 exact d.st c (by simp)
theorem Ext.here{g:al}{B:Option Addr}{U:List Value}{ae:List (List Chunk)}{o w:World}(h:Ext g B U [] o)(a:C o [] ae w):Ext g B U (av ae) w:=
 (h.grow (λb c=>(a.own b c).elim (λh=>.inl h) .inr)).st a (by simp)
def uniq(xs:List Int):List Int:=xs.foldl (λacc k=>if k∈acc then acc else acc++[k]) []
theorem Ay(xs:List Int)(k:Int):uniq (xs++[k])=if k∈uniq xs then uniq xs else uniq xs++[k]:=by unfold uniq;rw [List.foldl_append];rfl
theorem sW(xs:List Int):(uniq xs).length<=xs.length:=by
 have:∀(cR acc:List Int),(cR.foldl (λacc k=>if k∈acc then acc else acc++[k]) acc).length<=acc.length+cR.length:=by
  intro cR
  induction cR with
  |nil=>intro acc;simp
  |cons y r a=>
   intro acc
   rw [ix]
   refine ed (a _) ?_
   split<;>simp<;>omega
 have h:=this xs []
 simp only [ga,fk] at h
 exact h
def pi(g:al)(l:List aG)(kind slot view:Int)(sum:List UInt8):List Int:=jI (uniq (hz g kind slot view sum l (min l.length 10)))
def meets(g:al)(l:List aG)(kind slot view:Int)(sum:List UInt8):Bool:=decide (h8 g.keys.length<=(pi g l kind slot view sum).length)
theorem zb(g:al)(l:List aG)(kind slot view:Int)(sum:List UInt8):(hz g kind slot view sum l (min l.length 10)).length<=10:=by
 unfold hz
 rw [fy]
 refine ed (ol _ _) ?_
 rw [hi];omega
theorem Ik(g:al)(l:List aG)(kind slot view:Int)(sum:List UInt8):(pi g l kind slot view sum).length=(uniq (hz g kind slot view sum l (min l.length 10))).length:=hM _
theorem Il{o:World}{g:al}{B:Option Addr}{l:List aG}{d:Nat}{kind slot view:Int}{sum:List UInt8}(X:g.ok)(af:∀x∈l,x.ok)(I:sum.length=32)(S:l.length<=d)(V:l.length<=1000)(M:Ext g B (l.flatMap aG.cs) [] o):Calls prog 201 #[g.p,.slice B l.length d,ab kind,ab slot,ab view,.agg (aE sum).toArray] o (aS λr w=>∃ak,Row 3 1 r (pi g l kind slot view sum).length ((pi g l kind slot view sum).map bu) ak/\C o [] [ak] w):=by
 have b:Own [] o:=C.start o
 refine iq [g.p,.slice B l.length d,ab kind,ab slot,ab view,.agg (aE sum).toArray] (fn:=f201) func201 ntmps201 ?_
 refine bP 2 b j j (λq w b=>?_)
 refine cn 3 b j (λn w b=>?_)
 have b:C o [] (R n #[.slice none 0 0] 31::_) w:=b
 refine bS 8 (U:=aE sum) j j (by rw [ds];exact I) b.f1.bN ?_
 have m:=FR (o:=w) (g:=g) (B:=B) (l:=l) (d:=d) (kind:=kind) (slot:=slot) (view:=view) (sum:=sum)
 refine bm 0 m j (λr w⟨t,u,z,D,s,q,Y,ad⟩=>?_)
 subst Y
 have b:=b.aN ad
 have b:C o [] ([R u #[.slice B l.length d] 92,R z #[ab kind] 3,R D #[ab slot] 3,R s #[ab view] 3,R q (aE sum).toArray 66,R t #[g.p] 52]++[R n #[.slice none 0 0] 31,[]]) w:=(C.r0 (A:=[R u #[.slice B l.length d] 92,R z #[ab kind] 3,R D #[ab slot] 3,R s #[ab view] 3,R q (aE sum).toArray 66,R t #[g.p] 52]++[R n #[.slice none 0 0] 31]) b).empty.swap (A:=[[]])|>.perm (by simp)
 have N:=M.here b
 refine jY 1 j (FP X af I S V) j (by have:=b.size;simpa using this) b j (λ_=>rfl) (by intro p H;simp at H;subst H;rfl)
  (λpre ae=>∃v ak,ae=[R n #[v] 31,ak]/\Row 3 1 v (uniq pre).length ((uniq pre).map bu) ak) (λ_ _=>False) ⟨_,_,j,Row.nil 3 1⟩ (λL aI O=>N.range O) (λ_ _ _ _=>trivial) ?_ ?_ (λ_ _ h=>h.elim) (λ_ _ _ h=>h.elim)
 .rintro y pre x ah L ap ⟨ao,aa⟩ ⟨v,ak,rfl,i⟩ b
  have hlen:pre.length<10:=by have E:=zb g l kind slot view sum;rw [aa] at E;simp only [ca,List.length_cons] at E;omega
  refine bJ 2 j ?_
  refine⟨j,_,C.gs b,λL w b=>?_⟩
  have b:=C.gs b
  refine au 3 j (aw (C.aj b) j) ?_
  obtain⟨ag,aZ,rfl,_,_,Z,_⟩:=i.rd b.f1
  have m:=C6 (c:=aZ) (k:=x) Z (by have:=sW pre;omega)
  refine bp 1 m j (λw hw=>?_)
  subst hw
  refine aT 1 j j (λf=>?_) (λf=>?_)
  .refine au 1 j (aw (C.aj b) j) ?_
   refine ar 1 j (fe b j j j j j j bR (λam w b=>?_))
   have aP:=b.bN
   refine eK b.f2 i j j (by decide) j j j (news:=[bu x]) j aP (by simp [Value.oneCell']) (by have:=sW pre;omega) (by have:=sW pre;unfold maxLen;omega) (λv1 J w F b=>?_)
   have b:=b.f2
   refine cC b j j j F.one (by simp) (λw b=>?_)
   refine bJ 0 j ?_
   refine⟨_,b.kH,v1,J,j,?_⟩
   have W:x∉uniq pre:=by intro h;rw [jb h] at f;cases f
   rw [Ay,aF W]
   simpa using F
  refine bJ 1 j ?_
  refine⟨_,b,_,ak,j,?_⟩
  have T:x∈uniq pre:=by
   rcases ox (x∈uniq pre) with h|h
   .exact h
   .rw [ff h] at f;cases f
  rw [Ay,a6 T]
  exact i
 rintro xs ai w G ⟨v,ak,rfl,i⟩ b
 have an:xs.length<=10:=by rw [G];exact zb g l kind slot view sum
 have b:=b.swap
 refine au 2 j (aw (C.aj b) j) ?_
 have b:=b.f1
 have m:=Ab (ic:=uniq xs) b.j1 i (by have:=sW xs;omega)
 refine bm 0 m j (λr w⟨_,K,P,ad⟩=>?_)
 have b:=(b.im ad).f1
 refine au 2 j (aw (C.aj b) j) ?_
 refine bJ 1 j ⟨v,λw ac=>?_⟩
 have b:=ac.st b (cB _)
 refine⟨λa Q=>i4 (fn:=f201) Q j _ _,?_⟩
 refine⟨K,?_,b.f1.h3⟩
 have e:pi g l kind slot view sum=jI (uniq xs):=by rw [G];rfl
 rw [e,hM]
 exact P
theorem u5{o:World}{g:al}{B:Option Addr}{l:List aG}{d:Nat}{kind slot view:Int}{sum:List UInt8}(c:g.ok)(m:∀x∈l,x.ok)(e:sum.length=32)(i:l.length<=d)(k:l.length<=1000)(b:Ext g B (l.flatMap aG.cs) [] o):Calls prog 158 #[g.p,.slice B l.length d,ab kind,ab slot,ab view,.agg (aE sum).toArray] o (aS λr w=>r= .bool (meets g l kind slot view sum)/\C o [] [] w):=by
 have a:Own [] o:=C.start o
 refine a1 [g.p,.slice B l.length d,ab kind,ab slot,ab view,.agg (aE sum).toArray] func158 ntmps158 results158 (bP 2 a j j (λq w a=>ar 6 j (b2 15 (.bool true) j (aL Value.bool (j)) ?_)))
 refine bS 5 (U:=aE sum) j j (by rw [ds];exact e) a.bN ?_
 have h:=Il c m e i k (b.st a (by simp [av])) (kind:=kind) (slot:=slot) (view:=view)
 refine bm 0 h j (λr w⟨ak,f,ad⟩=>?_)
 have a:=a.aN ad
 obtain⟨n,aZ,rfl,_⟩:=f.rd a
 refine bp 2 (ml (b.ring.st a (al.off.nil g))) j (λw hw=>?_)
 subst hw
 refine bp 0 (zE (by have:=c.n10;omega)) j (λw hw=>?_)
 subst hw
 refine ao 3 j j (⟨aL Value.bool ?_,a.bare⟩)
 unfold meets
 exact oh.2 (by omega)
structure b9 where
 k:Int
 p:Int
 e:Int
 t:Int
 deriving DecidableEq
abbrev b9.cs(m:b9):List Value:=[ab m.k,ab m.p,ab m.e,ab m.t]
abbrev b9.ok(m:b9):Bool:=iZ m.k m.p m.e m.t
def b9.enc(m:b9):List UInt8:=et [3,m.k,m.p,m.e,m.t]
def b9.sum(m:b9):List UInt8:=bL m.enc
theorem b9.vP(m:b9):m.sum.length=32:=e4 _
theorem b9.rU(m:b9):m.enc.length<=50:=by have:=gq [3,m.k,m.p,m.e,m.t];simp only [ep,ga] at this;unfold b9.enc;omega
def lT:aG:=⟨0,0,0,cK,0,cK⟩
def dm(g:al)(m:b9)(f:Int):aG:=if m.ok then cU g 3 0 0 m.sum f else lT
theorem Iv:lT.ok:=⟨j,j⟩
theorem iY(g:al)(m:b9)(f:Int):(dm g m f).ok:=by unfold dm;split;exact iU _ _ _ _ _ _ m.vP;exact Iv
def pV(g:al)(m:b9)(l:List aG):Bool:=m.ok&&meets g l 3 0 0 m.sum
theorem rO{m:b9}{u v:Value}{i:Nat}(h:m.cs[i]? =some v):(m.cs++[u]).toArray[i]? =some v:=by
 simp only [mY]
 rw [iz (fa.1 h).1]
 exact h
theorem vn{b:Bool}(h:((if b=true then(0:Int) else 1) !=0)=true):b=false:=by cases b<;>simp_all
theorem vo{b:Bool}(h:((if b=true then(0:Int) else 1) !=0)=false):b=true:=by cases b<;>simp_all
theorem vm(b:Bool):((if b=true then(0:Int) else 1)==0)=b:=by cases b<;>rfl
theorem se{o:World}{g:al}(x:g.at o)(y:g.ok){m:b9}{f:Int}:Calls prog 142 #[g.p,.agg m.cs.toArray,ab f] o (aS λr w=>r= .tuple #[.agg (dm g m f).cs.toArray,.bool m.ok]/\C o [] [] w):=by
 have a:Own [] o:=C.start o
 refine e7 [g.p,.agg m.cs.toArray,ab f] (fn:=f142) func142 ntmps142 (bP 2 a j j (λD w a=>cn 0 a j (λq w a=>?_)))
 have a:C o [] (R q (lT).cs.toArray 108::_) w:=a
 refine bS 3 (U:=m.cs) j j j a.f1.bN ?_
 have d:=ur (o:=w) (k:=m.k) (p:=m.p) (e:=m.e) (t:=m.t)
 refine bm 0 d j (λr w⟨v,G,z,i,ad⟩=>?_)
 subst z
 have a:=a.aN ad
 refine aT 10 j j (λl=>?_) (λl=>?_)
 .have h:m.ok=false:=vn l
  refine ar 2 j (cO (c:=lT.cs.toArray) j j j (λ_=>by kernel_rfl) ?_)
  refine c5 a.f1 j j j (by decide) (by decide) (by decide) (λw a=>?_)
  have a:=C.whole (U:=lT.cs) a j
  refine bJ 1 j ⟨_,dp (U:=lT.cs) results142 j j j j a.bN,?_⟩
  refine⟨?_,a.bare⟩
  unfold dm
  rw [h]
  rfl
 have h:m.ok=true:=vo l
 have i:dN v m.enc G:=by
  have e:(if iZ m.k m.p m.e m.t=true then et [3,m.k,m.p,m.e,m.t] else [])=m.enc:=a6 h
  rw [e] at i
  exact i
 obtain⟨B,a1,rfl,u,_,A,_⟩:=i.rd a
 have d:=np (p:=m.enc) A (by have:=m.rU;omega) u
 refine bm 5 d j (λr w⟨b,n⟩=>?_)
 have b:r= .agg (aE m.sum).toArray:=b
 subst b
 have a:=a.aN n
 have d:=oH (x.st a (al.off.nil g)) y (k:=3) (s:=0) (v:=0) (f:=f) m.vP
 refine bm 1 d j (λr w⟨b,n⟩=>?_)
 have b:r= .agg (dm g m f).cs.toArray:=by rw [b];unfold dm;rw [if_pos h]
 subst b
 have a:=(a.aN n).f1
 refine cp 0 a j j j (by simpa using(dm g m f).one) (by rw [List.size_toArray];exact(dm g m f).len (iY g m f)) (λw a=>?_)
 have a:=C.whole (U:=(dm g m f).cs) a (by rw [(dm g m f).len (iY g m f)];rfl)
 refine bJ 1 j ⟨_,dp (U:=(dm g m f).cs) results142 j j j ((dm g m f).len (iY g m f)) a.bN,?_⟩
 refine⟨?_,a.bare⟩
 rw [h]
theorem tP{o:World}{g:al}{B:Option Addr}{l:List aG}{d:Nat}{m:b9}(E:g.ok)(J:∀x∈l,x.ok)(A:l.length<=d)(D:l.length<=1000)(y:Ext g B (l.flatMap aG.cs) [] o):Calls prog 102 #[g.p,.agg (m.cs++[Value.slice B l.length d]).toArray] o (aS λr w=>r= .bool (pV g m l)/\C o [] [] w):=by
 have a:Own [] o:=C.start o
 refine a1 [g.p,.agg (m.cs++[Value.slice B l.length d]).toArray] func102 ntmps102 results102 ?_
 refine bP 2 a j j (λu w a=>?_)
 refine bS 4 (U:=m.cs) j j j (a.i3 (off:=0) (U:=m.cs) (λi v I=>by rw [fk];exact rO I)) ?_
 have b:=ur (o:=w) (k:=m.k) (p:=m.p) (e:=m.e) (t:=m.t)
 refine bm 0 b j (λr w⟨v,G,F,c,ad⟩=>?_)
 subst F
 have a:=a.aN ad
 have a:=a.f1
 have a:=a.drew
 refine bz 6 j (λw=>∃ae,C o [] ([R u (m.cs++[Value.slice B l.length d]).toArray 114]++ae) w) ⟨_,a⟩ ?_
 refine af 0 3 j ?_
 refine ef 15 j (λh=>?_) (λh=>?_)
 .refine af 3 2 j ?_
  refine bT 5 j (λw⟨_,a⟩=>a.cell j) ?_
  refine af 6 1 j ?_
  refine aW 7 j ?_
  have f:m.ok=true:=by have n:=vm (iZ m.k m.p m.e m.t);exact n.symm.trans h
  have c:dN v m.enc G:=by
   have e:(if iZ m.k m.p m.e m.t=true then et [3,m.k,m.p,m.e,m.t] else [])=m.enc:=a6 f
   rw [e] at c
   exact c
  obtain⟨K,a1,rfl,z,_,H,_⟩:=c.rd a.f1
  have b:=np (p:=m.enc) H (by have:=m.rU;omega) z
  refine cN j j j b (λr w⟨s,q⟩=>?_)
  have s:r= .agg (aE m.sum).toArray:=s
  subst s
  have a:=a.aN q
  refine an ⟨⟨_,a⟩,?_⟩
  refine aW 8 j ?_
  have b:=u5 E J m.vP A D (y.st a (by simp [av])) (kind:=3) (slot:=0) (view:=0)
  refine bF j j j b (λw q=>?_)
  have a:=a.aN q
  refine an ⟨⟨_,a⟩,?_⟩
  refine af 9 2 j ?_
  refine bO ?_
  refine ao 0 j j ?_
  refine⟨aL Value.bool ?_,a.bare⟩
  unfold pV
  rw [f,Bool.true_and]
 refine af 3 8 j ?_
 refine bO ?_
 refine ao 0 j j ?_
 refine⟨aL Value.bool ?_,a.bare⟩
 have f:m.ok=false:=by have n:=vm (iZ m.k m.p m.e m.t);exact n.symm.trans h
 unfold pV
 rw [f,oi]
section
variable {P:Program} {n:Nat} {aa:Env} {w:World} {dst:Option Nat} {ty:TypeId} {pos:String} {after:Array Edge} {g:Option (Nat×Bool)}
theorem pn{t k:TypeId}{x y:Operand}{i J:Nat}(h:bs aa x=some (.int .i64 i))(j:bs aa y=some (.int .i64 J))(l:0<J):
 ∀a,cG aa n a->(execOp a.eval ⟨dst,.binOp .rem t x y k,ty,pos,after,g⟩).run P w= .ok (.value (.int .i64 ((i%J:Nat):Int))) w:=λa b=>by
 have c:¬(J:Int)=0:=by omega
 have d:(i:Int).tmod (J:Int)=((i%J:Nat):Int):=rfl
 simp only [execOp,b.eval h,b.eval j]
 have e:eqGuard .rem t x y (.int .i64 (i:Int)) (.int .i64 (J:Int))=pure ():=rfl
 have f:(binOp .rem t (.int .i64 (i:Int)) (.int .i64 (J:Int))).run P w= .ok (.int .i64 ((i%J:Nat):Int)) w:=by
  show(Op.intDiv .rem .i64 (i:Int) (J:Int)).run P w=_
  unfold Op.intDiv
  simp only [d,aF c,ee]
 simp only [e,dR,ee,dU,f]
theorem gI{t e:TypeId}{x y:Operand}{b I l c J:Nat}{k:IntKind}{z:Value}{size bytes:Nat}[hu:bC P t (.slice e)][i:cq P e z size bytes]
 (f:bs aa x=some (.slice (some ⟨b,I,none⟩) l c)) (h:bs aa y=some (.int k J)) (d:J<l):
 ∀a,cG aa n a->(execOp a.eval ⟨dst,.indexAddr t x y,ty,pos,after,g⟩).run P w= .ok (.value (.pointer (some ⟨b,I+J*size,none⟩))) w:=by
 have:=q3 (P:=P) (n:=n) (w:=w) (dst:=dst) (ty:=ty) (pos:=pos) (after:=after) (g:=g) (aa:=aa) (t:=t) (e:=e) (z:=z) (size:=size) (bytes:=bytes) f h d
 rw [add_lit] at this
 exact this
end
def Flat(A:Option Addr):Prop:=A=none\/∃b I,A=some ⟨b,I,none⟩
theorem Row.flat{e:TypeId}{size:Nat}{A:Option Addr}{n m c:Nat}{xs:List Value}{G:List Chunk}(h:Row e size (.slice A m c) n xs G):Flat A:=by
 rcases h.2 with⟨a,_⟩|⟨g,_,_,a,_⟩
 .cases a;exact .inl j
 .cases a;exact .inr ⟨_,_,j⟩
def nc(s v n:Nat):Nat:=(s%n+v%n)%n
def j3(g:al)(l:List aG)(slot below:Int)(value:List UInt8):Option Int:=match l with
 |[]=>none
 |x::_=>if 0<=x.v/\x.v<below/\meets g l 1 slot x.v (bL value)=true then some x.v else none
theorem free_spec{o:World}:Calls prog 162 #[] o (aS λr w=>r= .agg #[ab (-1),.slice none 0 0,.slice none 0 0]/\C o [] [] w):=by
 have a:Own [] o:=C.start o
 refine e7 [] (fn:=f162) func162 ntmps162 (cn 2 a j (λcT w a=>ar 2 j (cO (c:= #[ab (-1),.slice none 0 0,.slice none 0 0]) j j j (λ_=>by kernel_rfl) ?_)))
 refine cp 0 a j j j j j (λw a=>bJ 0 j ⟨_,hb results162 j j j (a.bN),?_⟩)
 exact⟨j,a.bare⟩
theorem yw{o:World}{s v n:Nat}(aM:s<=1000000)(e:v<=1000000)(a:1<=n)(aP:n<=1000):Calls prog 195 #[.int .i64 s,.int .i64 v,.int .i64 n] o (aS λr w=>r= .int .i64 (nc s v n)/\C o [] [] w):=by
 have b:Own [] o:=C.start o
 have c:=jx s a
 have d:=jx v a
 refine a1 [.int .i64 s,.int .i64 v,.int .i64 n] func195 ntmps195 results195 ?_
 refine ar 9 j (b2 9 (.bool false) j (aL Value.bool (ff (by omega))) ?_)
 refine ar 4 j (b2 13 (.bool false) j (aL Value.bool (ff (by omega))) ?_)
 refine iW 3 j j (ff (by omega)) ?_
 have b:=b.drew
 refine bz 2 j (λw=>∃F ae,C o F ae w) ⟨_,_,b⟩ ?_
 refine af 0 2 j ?_
 refine aV 2 j (λw _=>pn j j a) ?_
 refine af 3 2 j ?_
 refine aV 5 j (λw _=>pn j j a) ?_
 refine aV 6 j (λw _=>dr j j (gh (s%n) (v%n) (by omega))) ?_
 refine af 7 1 j ?_
 refine aV 8 j (λw _=>pn j j a) ?_
 refine af 9 1 j ?_
 refine bO ?_
 refine ao 0 j j ?_
 exact⟨j,b.bare⟩
theorem qV{w:World}{b I:Nat}{x:aG}{l:List aG}(h:Rd w (some ⟨b,I,none⟩) ((x::l).flatMap aG.cs)):w.cell? ⟨b,I+0*68+2,none⟩=some (ab x.v):=by
 have a:=h.cell (J:=2) (v:=ab x.v) (by simp [aG.cs])
 rw [add_lit] at a
 simpa using a
theorem yB{l:List aG}(h:((l.length:Int)==0)=true):l=[]:=lu (by have:=dX.1 h;omega)
theorem yA{l:List aG}(h:((l.length:Int)==0)=false):∃x r,l=x::r:=by
 cases l with
 |nil=>simp at h
 |cons x r=>exact⟨x,r,j⟩
theorem uE{B:Option Addr}{w:World}{x:aG}{r:List aG}(d:Flat B)(h:Rd w B ((x::r).flatMap aG.cs)):∃b I,B=some ⟨b,I,none⟩:=by
 rcases d with rfl|c
 .obtain⟨a,e,_⟩:=h 0 (ab x.k) (by simp [aG.cs]);cases e
 .exact c
theorem zA{o:World}{g:al}{B a8:Option Addr}{l:List aG}{value:List UInt8}{d c:Nat}{slot below:Int}(D:g.ok)(G:∀x∈l,x.ok)(q:Flat B)(u:l.length<=d)(z:l.length<=1000)(f:Ext g B (l.flatMap aG.cs) [] o)(s:Rd o a8 (aE value))(F:value.length<=1000000)(E:value.length<=c):Calls prog 300 #[g.p,.slice B l.length d,ab slot,ab below,.slice a8 value.length c] o (aS λr w=>r= .tuple #[ab ((j3 g l slot below value).getD (-1)),.bool (j3 g l slot below value).isSome]/\C o [] [] w):=by
 have a:Own [] o:=C.start o
 refine a1 [g.p,.slice B l.length d,ab slot,ab below,.slice a8 value.length c] func300 ntmps300 results300 ?_
 have a:=a.drew
 refine bz 6 j (λw=>∃ae,C o [] ae w) ⟨_,a⟩ (af 0 4 j (ef 15 j (λi=>?_) (λi=>?_)))
 .refine af 4 27 j (bO (ao 5 j j ?_))
  have A:=yB i
  subst A
  exact⟨j,a.bare⟩
 obtain⟨x,l,rfl⟩:=yA i
 obtain⟨b,I,rfl⟩:=uE q f.rd
 refine af 4 1 j (aV 5 j (λw _=>gI (J:=0) j j (by simp)) (af 6 1 j (bT 7 j (λw⟨_,a⟩=>qV (f.st a (by simp [av])).rd) (af 8 3 j (ef 22 j (λk=>?_) (λk=>?_))))))
 .refine af 11 20 j (bO (ao 5 j j ?_))
  have e:j3 g (x::l) slot below value=none:=aF (λh=>by have:=br k;omega)
  rw [e]
  exact⟨j,a.bare⟩
 refine af 11 1 j (aV 12 j (λw _=>gI (J:=0) j j (by simp)) (af 13 1 j (bT 14 j (λw⟨_,a⟩=>qV (f.st a (by simp [av])).rd) (af 15 4 j (ef 30 j (λm=>?_) (λm=>?_))))))
 .refine af 19 12 j (bO (ao 5 j j ?_))
  have e:j3 g (x::l) slot below value=none:=aF (λh=>by have:=br m;omega)
  rw [e]
  exact⟨j,a.bare⟩
 refine af 19 4 j (aV 23 j (λw _=>gI (J:=0) j j (by simp)) (af 24 1 j (bT 25 j (λw⟨_,a⟩=>qV (f.st a (by simp [av])).rd) (af 26 1 j (aW 27 j (bF j j j (np (a.rd s (bU.of_nil _ _)) F E) (λw ad=>?_)))))))
 have a:=a.aN ad
 refine an ⟨⟨_,a⟩,?_⟩
 refine aW 28 j ?_
 have t:=u5 D G (e4 value) u z (f.st a (by simp [av])) (kind:=1) (slot:=slot) (view:=x.v)
 refine bF j j j t (λw y=>?_)
 have a:=a.aN y
 refine an ⟨⟨_,a⟩,?_⟩
 refine af 29 2 j (bO (aT 0 j j (λn=>?_) (λn=>?_)))
 .refine ao 4 j j ?_
  have hm:meets g (x::l) 1 slot x.v (bL value)=false:=by simpa using n
  have e:j3 g (x::l) slot below value=none:=aF (λh=>by rw [hm] at h;exact absurd h.2.2 (by decide))
  rw [e]
  exact⟨j,a.bare⟩
 refine ar 4 j (dO j j (gI (J:=0) j j (by simp)) ?_)
 refine au 1 j (qV (f.st a (by simp [av])).rd) (ao 2 j j ?_)
 have hm:meets g (x::l) 1 slot x.v (bL value)=true:=by simpa using n
 have e:j3 g (x::l) slot below value=some x.v:=a6 ⟨by have:=bw k;omega,by have:=bw m;omega,hm⟩
 rw [e]
 exact⟨j,a.bare⟩
abbrev vcs(l:List aG):List Value:=l.flatMap aG.cs
abbrev ej(v:Value)(l:List aG)(G:List Chunk):Prop:=Row 108 68 v l.length (vcs l) G
theorem sX:∀(l:List aG),(∀x∈l,x.ok)->(vcs l).length=l.length*68
 |[],_=>rfl
 |x::r,h=>by
  show(x.cs++vcs r).length=_
  rw [ca,x.len (h x (by simp)),sX r (λy a=>h y (by simp [a])),List.length_cons]
  omega
theorem sY(l:List aG):∀u∈vcs l,u.oneCell'=true:=by
 intro u hu
 obtain⟨x,_,a⟩:=nB.1 hu
 exact jQ.1 x.one u a
theorem qa{o:World}{A B:Option Addr}{xs cR:List UInt8}{c d:Nat}(a:Rd o A (aE xs))(b:Rd o B (aE cR)):Calls prog 176 #[.slice A xs.length c,.slice B cR.length d] o (aS λr w=>r= .bool (decide (xs=cR))/\w=o):=by
 refine a1 [.slice A xs.length c,.slice B cR.length d] func176 ntmps176 results176 (ar 6 j (wt j j j a ?_))
 refine ar 1 j (wt j j j b ?_)
 refine n6 j j j j (ao 1 j j ?_)
 exact⟨aL Value.bool (my xs cR),j⟩
theorem k1{o:World}{B:Option Addr}{l:List aG}{d:Nat}(h:Rd o B (vcs l))(q:∀x∈l,x.ok)(s:l.length<=1000):Calls prog 106 #[.slice B l.length d] o (aS λr w=>∃G,ej r l G/\C o [] [G] w):=by
 have b:Own [] o:=C.start o
 refine a1 [.slice B l.length d] func106 ntmps106 results106 (ar 7 j (wo j j j ?_))
 refine aT 0 j j (λfA=>?_) (λfA=>?_)
 .refine ao 3 j j ?_
  have p:l=[]:=by
   cases l with
   |nil=>rfl
   |cons x r=>obtain⟨a,n,_⟩:=h 0 (ab x.k) (by simp [aG.cs]);rw [n] at fA;cases fA
  subst p
  exact⟨[],Row.nil _ _,b.empty⟩
 refine ar 3 j (ps (e:=108) (c:= #[]) b j j j (λw=>by kernel_rfl) (λf w b=>?_))
 have m:Row 108 68 (.slice (some ⟨f,0,none⟩) 0 0) 0 [] (R f #[] 108):=Row.made (by decide) (by decide)
 refine ar 1 j (eK b m j j (by decide) j j j (news:=vcs l) (sX l q) (b.rd h (bU.of_nil _ _)) (sY l) (by omega) (by unfold maxLen;omega) (λv1 i w g b=>?_))
 refine ao 1 j j (⟨i,?_,b⟩)
 rw [fk,kB] at g
 exact g
structure gu where
 v:Int
 A:Option Addr
 x:List UInt8
 c:Nat
 B:Option Addr
 l:List aG
 d:Nat
abbrev gu.cs(k:gu):List Value:=[ab k.v,.slice k.A k.x.length k.c,.slice k.B k.l.length k.d]
structure gu.ok(k:gu)(w:World):Prop where
 qD:Rd w k.A (aE k.x)
 sE:Rd w k.B (vcs k.l)
 sl:∀x∈k.l,x.ok
 pk:k.x.length<=k.c
 yv:k.l.length<=k.d
 ta:k.x.length<=1000
 c3:k.l.length<=1000
 hn:Flat k.B
theorem gu.ok.st{k:gu}{o w:World}{ae:List (List Chunk)}(h:k.ok o)(a:C o [] ae w):k.ok w:=
 ⟨a.rd h.qD (bU.of_nil _ _),a.rd h.sE (bU.of_nil _ _),h.sl,h.pk,h.yv,h.ta,h.c3,h.hn⟩
def may(g:al)(a:Int)(b:List UInt8)(slot view:Int)(value:List UInt8)(dI:List aG):Bool:=
 a== -1||(decide (b=value)||match j3 g dI slot view value with|some v=>decide (v>a)|none=>false)
theorem Fj{o:World}{g:al}{k:gu}{B a8:Option Addr}{l:List aG}{value:List UInt8}{d c:Nat}{slot view:Int}(z:g.ok)(ad:k.ok o)(E:∀x∈l,x.ok)(n:Flat B)(t:l.length<=d)(y:l.length<=1000)(q:Ext g B (l.flatMap aG.cs) [] o)(m:Rd o a8 (aE value))(D:value.length<=1000000)(A:value.length<=c):Calls prog 270 #[g.p,.agg k.cs.toArray,ab slot,ab view,.slice a8 value.length c,.slice B l.length d] o (aS λr w=>r= .bool (may g k.v k.x slot view value l)/\C o [] [] w):=by
 have a:Own [] o:=C.start o
 refine a1 [g.p,.agg k.cs.toArray,ab slot,ab view,.slice a8 value.length c,.slice B l.length d] func270 ntmps270 results270 (bP 2 a j j (λi w a=>?_))
 have a:C o [] [R i k.cs.toArray 276] w:=a
 refine au 5 j (aw (C.aj a) j) (ar 2 j (c7 18 j (λb=>?_) (λb=>?_)))
 .refine ao 9 j j (⟨aL Value.bool ?_,a.bare⟩)
  unfold may
  rw [b]
  rfl
 refine au 1 j (aw (C.aj a) j) (bp 1 (qa (ad.st a).qD (a.rd m (bU.of_nil _ _))) j (λw hw=>?_))
 subst hw
 refine aT 1 j j (λe=>?_) (λe=>?_)
 .refine ao 3 j j (⟨aL Value.bool ?_,a.bare⟩)
  unfold may
  rw [b,e]
  rfl
 have s:=zA z E n t y (q.st a (by simp)) (a.rd m (bU.of_nil _ _)) D A (slot:=slot) (below:=view)
 refine bp 8 s j (λw u=>?_)
 have a:=a.aN u
 have a:C o [] ([R i k.cs.toArray 276]++_) w:=a
 refine ar 1 j (b2 24 (.tuple #[ab ((j3 g l slot view value).getD (-1)),.bool (j3 g l slot view value).isSome]) j j ?_)
 refine ar 8 j (c7 34 j (λf=>?_) (λf=>?_))
 .refine au 2 j (aw (C.aj a) j) (ao 3 j j (⟨aL Value.bool ?_,a.bare⟩))
  obtain⟨v,h⟩:=g4.1 f
  unfold may
  rw [b,e,h]
  rfl
 refine ao 6 j j (⟨aL Value.bool ?_,a.bare⟩)
 have h:j3 g l slot view value=none:=by simpa using f
 unfold may
 rw [b,e,h]
 rfl
def kq(g:al)(slot below:Int)(x:List UInt8)(l:List aG):Int×List UInt8×List aG:=match j3 g l slot below x with
 |some v=>(v,x,l)
 |none=>(-1,[],[])
structure gu.own(k:gu)(ah aA:List Chunk):Prop where
 x:dN (.slice k.A k.x.length k.c) k.x ah
 l:ej (.slice k.B k.l.length k.d) k.l aA
abbrev gu.P(k:gu):Int×List UInt8×List aG:=(k.v,k.x,k.l)
def qo:List Value:=[ab 0,.slice none 0 0,.slice none 0 0]
def mg:gu:=⟨-1,none,[],0,none,[],0⟩
theorem yD:mg.own [] []:=⟨Row.nil _ _,Row.nil _ _⟩
theorem zz{o:World}{g:al}{k:gu}{slot below:Int}(G:g.ok)(ad:k.ok o)(F:Ext g k.B (k.l.flatMap aG.cs) [] o):Calls prog 324 #[g.p,ab slot,ab below,.agg k.cs.toArray] o (aS λr w=>∃(q:gu)(ah aA:List Chunk),r= .agg q.cs.toArray/\q.own ah aA/\q.P=kq g slot below k.x k.l/\C o [] [ah,aA] w):=by
 have a:Own [] o:=C.start o
 refine e7 [g.p,ab slot,ab below,.agg k.cs.toArray] (fn:=f324) func324 ntmps324 (bP 2 a j j (λy w a=>cn 0 a j (λn w a=>?_)))
 have a:C o [] [R y k.cs.toArray 276,R n (qo).toArray 276] w:=a.f1
 refine au 4 j (aw (C.aj a) j) (au 3 j (aw (C.aj a) j) ?_)
 have m:=zA G ad.sl ad.hn ad.yv ad.c3 (F.st a (by simp)) (ad.st a).qD (by have:=ad.ta;omega) ad.pk (slot:=slot) (below:=below)
 refine bp 0 m j (λw b=>?_)
 have a:=a.aN b
 have a:C o [] [R y k.cs.toArray 276,R n (qo).toArray 276] w:=a
 refine aT 10 j j (λz=>?_) (λz=>?_)
 .refine bp 2 free_spec j (λw b=>?_)
  have a:=(a.aN b).f1
  refine c5 a j j j j j (by decide) (λw a=>?_)
  have a:=C.whole (U:=mg.cs) a j
  refine bJ 0 j ⟨_,hb (U:=mg.cs) results324 j j j a.bN,?_⟩
  have u:j3 g k.l slot below k.x=none:=by simpa using z
  exact⟨mg,[],[],j,yD,by unfold kq;rw [u];rfl,a.bare.empty.empty⟩
 obtain⟨v,u⟩:=g4.1 (show(j3 g k.l slot below k.x).isSome=true by simpa using z)
 have a:=a.drew
 refine bz 2 j (λw=>∃ae,C o [] ([R y k.cs.toArray 276,R n (qo).toArray 276]++ae) w) ⟨_,a⟩ (iT 9 (ab v) j (by rw [u];rfl) (af 0 2 j (bT 2 j (λw⟨_,a⟩=>a.cell j) (af 5 1 j (bT 6 j (λw⟨_,a⟩=>a.cell j) (aJ 3 4 j j ?_ ?_))))))
 have m:=gW (c:=k.c) (ad.st a).qD (by have:=ad.ta;omega)
 refine cN j j j m (λr w⟨ah,s,b⟩=>?_)
 have a:=(a.aN b).f1.f2.f1
 obtain⟨d,aZ,rfl⟩:∃A c,r= .slice A k.x.length c:=by obtain⟨A,c,h,_⟩:=s.form;exact⟨A,c,h⟩
 refine an ⟨⟨_,a⟩,?_⟩
 refine aW 4 j (ps (e:=108) (c:= #[]) a j j j (λw=>by kernel_rfl) (λi w a=>?_))
 have D:Row 108 68 (.slice (some ⟨i,0,none⟩) 0 0) 0 [] (R i #[] 108):=Row.made (by decide) (by decide)
 have a:=a.f1.f2.f1
 refine an ⟨⟨_,a⟩,?_⟩
 refine aW 7 j (eK a.f2 D j j (by decide) j j j (news:=vcs k.l) (sX k.l ad.sl) (ad.st a).sE (sY k.l) (by have:=ad.c3;omega) (by have:=ad.c3;unfold maxLen;omega) (λv2 E w t a=>?_))
 rotate_left
 refine ps (e:=108) (c:= #[]) a j j j (λw=>by kernel_rfl) (λi w a=>?_)
 have D:Row 108 68 (.slice (some ⟨i,0,none⟩) 0 0) 0 [] (R i #[] 108):=Row.made (by decide) (by decide)
 have a:=a.f1.f2.f1
 refine an ⟨⟨_,a⟩,?_⟩
 refine aW 3 j ?_
 have m:=gW (c:=k.c) (ad.st a).qD (by have:=ad.ta;omega)
 refine cN j j j m (λr w⟨ah,s,b⟩=>?_)
 have a:=(a.aN b).f1.f2.f1
 obtain⟨d,aZ,rfl⟩:∃A c,r= .slice A k.x.length c:=by obtain⟨A,c,h,_⟩:=s.form;exact⟨A,c,h⟩
 refine an ⟨⟨_,a⟩,?_⟩
 refine aW 7 j (eK a.f3 D j j (by decide) j j j (news:=vcs k.l) (sX k.l ad.sl) (ad.st a).sE (sY k.l) (by have:=ad.c3;omega) (by have:=ad.c3;unfold maxLen;omega) (λv2 E w t a=>?_))
 rotate_left
 all_goals
  have a:=a.f1.f2.f1
  rw [fk,kB] at t
  obtain⟨f,dn,rfl⟩:∃A c,v2= .slice A k.l.length c:=by obtain⟨A,c,h,_⟩:=t.form;exact⟨A,c,h⟩
  refine an ⟨⟨_,a⟩,?_⟩
  refine aV 8 j (λw _=>e0 (c:=(⟨v,d,k.x,aZ,f,k.l,dn⟩:gu).cs.toArray) j (λ_=>by kernel_rfl)) (dy 9 j (c5 a.f1 j j j j j bR (λw a=>?_)))
  have a:C o [] (R n ((⟨v,d,k.x,aZ,f,k.l,dn⟩:gu).cs).toArray 276::_) w:=C.whole (U:=(⟨v,d,k.x,aZ,f,k.l,dn⟩:gu).cs) a j
  refine an (cX (bJ 0 j ⟨_,hb (U:=(⟨v,d,k.x,aZ,f,k.l,dn⟩:gu).cs) results324 j j j a.bN,?_⟩))
  exact⟨(⟨v,d,k.x,aZ,f,k.l,dn⟩:gu),ah,E,j,⟨s,t⟩,by unfold kq;rw [u],C.kH (a.f2.f3)⟩
def k4(g:al)(slot below:Int)(b:List UInt8)(a:List aG)(c:List UInt8)(be:List aG):Int×List UInt8×List aG:=
 if(kq g slot below c be).1>(kq g slot below b a).1 then kq g slot below c be else kq g slot below b a
theorem D4{o:World}{g:al}{a b:gu}{slot below:Int}(u:g.ok)(E:a.ok o)(F:b.ok o)(z:Ext g a.B (a.l.flatMap aG.cs) [] o)(D:Ext g b.B (b.l.flatMap aG.cs) [] o):Calls prog 301 #[g.p,ab slot,ab below,.agg a.cs.toArray,.agg b.cs.toArray] o (aS λr w=>∃(q:gu)(ah aA:List Chunk),r= .agg q.cs.toArray/\q.own ah aA/\q.P=k4 g slot below a.x a.l b.x b.l/\C o [] [ah,aA] w):=by
 have c:Own [] o:=C.start o
 refine e7 [g.p,ab slot,ab below,.agg a.cs.toArray,.agg b.cs.toArray] (fn:=f301) func301 ntmps301 (bP 2 c j j (λf w c=>bP 0 c j j (λh w c=>cn 0 c j (λt w c=>?_))))
 have c:C o [] ([R f (a.cs).toArray 276,R h (b.cs).toArray 276,R t (qo).toArray 276]++[]) w:=c.f1.f2
 have c:=c.drew
 refine bz 1 j (λw=>∃ae,C o [] ([R f (a.cs).toArray 276,R h (b.cs).toArray 276,R t (qo).toArray 276]++ae) w) ⟨_,c⟩ (af 0 3 j (aV 3 j (λw⟨_,c⟩=>dc (U:=a.cs) j j j c.bN) (af 5 3 j (aV 8 j (λw⟨_,c⟩=>dc (U:=b.cs) j j j (C.f1 c).bN) (aW 4 j ?_)))))
 have m:=zz u (E.st c) (z.st c (by simp)) (slot:=slot) (below:=below)
 refine cN j j j m (λr w⟨d,ah,aA,s,G,v,n⟩=>?_)
 subst s
 have c:=C.swap (A:=[ah,aA]) (c.aN n)
 refine an ⟨⟨_,c⟩,?_⟩
 refine aW 9 j ?_
 have m:=zz u (F.st c) (D.st c (by simp)) (slot:=slot) (below:=below)
 refine cN j j j m (λr w⟨e,bn,cv,s,H,y,n⟩=>?_)
 subst s
 have c:=C.swap (A:=[bn,cv]) (c.aN n)
 refine an ⟨⟨_,c⟩,?_⟩
 refine dy 10 j (c5 c j j j j j bR (λw c=>?_))
 have c:C o [] (R f (d.cs).toArray 276::_) w:=C.whole (U:=d.cs) c j
 refine an (jZ 11 j (c5 c.f1 j j j j j bR (λw c=>?_)))
 have c:C o [] (R h (e.cs).toArray 276::_) w:=C.whole (U:=e.cs) c j
 have c:=c.f1
 refine an (cX (au 4 j (c.f1.cell j) (au 1 j (c.cell j) (aT 1 j j (λi=>?_) (λi=>?_)))))
 .refine bS 2 (U:=e.cs) j j j c.f1.bN (cp 0 c.f2 j j j j j (λw c=>?_))
  have c:=C.whole (U:=e.cs) c j
  refine bJ 0 j ⟨_,hb (U:=e.cs) results301 j j j c.bN,?_⟩
  have k:=br i
  refine⟨e,bn,cv,j,H,?_,c.drop.drop.drop.drop.drop⟩
  unfold k4
  rw [<-v,<-y,a6 k]
 refine bS 3 (U:=d.cs) j j j c.bN (cp 0 c.f2 j j j j j (λw c=>?_))
 have c:=C.whole (U:=d.cs) c j
 refine bJ 0 j ⟨_,hb (U:=d.cs) results301 j j j c.bN,?_⟩
 have k:=bw i
 refine⟨d,ah,aA,j,G,?_,c.drop.drop.drop.kH⟩
 unfold k4
 rw [<-v,<-y,aF k]
structure aY where
 k:Int
 f:Int
 to:Int
 s:Int
 v:Int
 x:List UInt8
 l:List aG
 tag:List UInt8
abbrev aB.P(m:aB):aY:=⟨m.k,m.f,m.to,m.s,m.v,m.x,m.l,m.tag⟩
structure aB.own(m:aB)(ah aA:List Chunk):Prop where
 x:dN (.slice m.A m.x.length m.c) m.x ah
 l:ej (.slice m.B m.l.length m.d) m.l aA
structure aB.fit(m:aB):Prop where
 x:m.x.length<=1000000
 l:m.l.length<=1000
abbrev bi(b:Nat)(m:aB):List Chunk:=R b m.cs.toArray 94
theorem aB.qJ(m:aB)(A:Option Addr)(c:Nat):m.cs.toArray.setIfInBounds 5 (.slice A m.x.length c)=({m with A:=A,c:=c}:aB).cs.toArray:=by
 apply fu
 simp [aB.cs]
theorem aB.mx(m:aB)(B:Option Addr)(d:Nat):m.cs.toArray.setIfInBounds 6 (.slice B m.l.length d)=({m with B:=B,d:=d}:aB).cs.toArray:=by
 apply fu
 simp [aB.cs]
def dM:aB:=⟨0,0,0,0,0,none,[],0,none,[],0,cK⟩
theorem aB.bY(m:aB)(h:m.tag.length=32):m.cs.length=39:=by simp [aB.cs,h]
theorem xo{o:World}{m:aB}(hm:m.ok o)(bx:m.fit):Calls prog 132 #[.agg m.cs.toArray] o (aS λr w=>∃(q:aB)(ah aA:List Chunk),r= .agg q.cs.toArray/\q.own ah aA/\q.P=m.P/\C o [] [ah,aA] w):=by
 have a:Own [] o:=C.start o
 refine e7 [.agg m.cs.toArray] (fn:=f132) func132 ntmps132 (bP 2 a j j (λax w a=>cn 0 a j (λaJ w a=>?_)))
 have a:C o [] ([bi ax m,bi aJ dM]++[]) w:=a.f1
 have a:=a.drew
 refine bz 1 j (λw=>∃ae,C o [] ([bi ax m,bi aJ dM]++ae) w) ⟨_,a⟩ (af 0 1 j (bT 1 j (λw⟨_,a⟩=>a.cell m.ge) (af 3 1 j (bT 4 j (λw⟨_,a⟩=>a.cell m.eV) (aW 2 j ?_)))))
 have f:=gW (c:=m.c) (hm.st a).x (by have:=bx.x;omega)
 refine cN j j j f (λr w⟨ah,i,g⟩=>?_)
 obtain⟨b,aZ,rfl⟩:∃A c,r= .slice A m.x.length c:=by obtain⟨A,c,h,_⟩:=i.form;exact⟨A,c,h⟩
 have a:=C.swap (A:=[ah]) (a.aN g)
 refine an ⟨⟨_,a⟩,?_⟩
 refine af 6 1 j (aW 5 j ?_)
 have f:=k1 (d:=m.d) (hm.st a).l hm.aH bx.l
 refine cN j j j f (λr w⟨aA,k,g⟩=>?_)
 obtain⟨e,d1,rfl⟩:∃A c,r= .slice A m.l.length c:=by obtain⟨A,c,h,_⟩:=k.form;exact⟨A,c,h⟩
 have a:=C.swap (A:=[aA]) (a.aN g)
 refine an ⟨⟨_,a⟩,?_⟩
 refine dy 7 j (cC a j j j j (by rw [hq,m.bY hm.tag];decide) (λw a=>?_))
 have a:C o [] (bi ax ({m with A:=b,c:=aZ}:aB)::_) w:=C.gk a (m.qJ b aZ)
 refine an (jZ 8 j (q8 j j j (an (jZ 9 j (cC a j j j j (by rw [List.size_toArray,(({m with A:=b,c:=aZ}:aB)).bY hm.tag];decide) (λw a=>?_))))))
 have a:C o [] (bi ax ({m with A:=b,c:=aZ,B:=e,d:=d1}:aB)::_) w:=C.gk a ((({m with A:=b,c:=aZ}:aB)).mx e d1)
 refine an (cX (bS 2 (U:=({m with A:=b,c:=aZ,B:=e,d:=d1}:aB).cs) j j ((({m with A:=b,c:=aZ,B:=e,d:=d1}:aB)).bY hm.tag) a.bN (c5 a.f1 j j j (by simpa using({m with A:=b,c:=aZ,B:=e,d:=d1}:aB).one) (by rw [List.size_toArray];exact(({m with A:=b,c:=aZ,B:=e,d:=d1}:aB)).bY hm.tag) (by decide) (λw a=>?_))))
 have a:=C.whole (U:=({m with A:=b,c:=aZ,B:=e,d:=d1}:aB).cs) a (by rw [(({m with A:=b,c:=aZ,B:=e,d:=d1}:aB)).bY hm.tag];rfl)
 refine bJ 0 j ⟨_,hb (U:=({m with A:=b,c:=aZ,B:=e,d:=d1}:aB).cs) results132 j j ((({m with A:=b,c:=aZ,B:=e,d:=d1}:aB)).bY hm.tag) a.bN,?_⟩
 exact⟨({m with A:=b,c:=aZ,B:=e,d:=d1}:aB),ah,aA,j,⟨i,k⟩,j,a.drop.drop.kH⟩
theorem C9{o:World}{m:aB}(hm:m.ok o)(bx:m.fit):Calls prog 77 #[.agg m.cs.toArray] o (aS λr w=>∃(q:aB)(ah aA:List Chunk),r= .agg q.cs.toArray/\q.own ah aA/\q.P=m.P/\C o [] [ah,aA] w):=by
 have a:Own [] o:=C.start o
 refine e7 [.agg m.cs.toArray] (fn:=f77) func77 ntmps77 (bP 2 a j j (λax w a=>cn 0 a j (λaJ w a=>?_)))
 have a:C o [] ([bi ax m,bi aJ dM]++[]) w:=a.f1
 have a:=a.drew
 refine bz 1 j (λw=>∃ae,C o [] ([bi ax m,bi aJ dM]++ae) w) ⟨_,a⟩ (af 0 1 j (bT 1 j (λw⟨_,a⟩=>a.cell m.ge) (af 3 1 j (bT 4 j (λw⟨_,a⟩=>a.cell m.eV) (aW 2 j ?_)))))
 have f:=gW (c:=m.c) (hm.st a).x (by have:=bx.x;omega)
 refine cN j j j f (λr w⟨ah,i,g⟩=>?_)
 obtain⟨b,aZ,rfl⟩:∃A c,r= .slice A m.x.length c:=by obtain⟨A,c,h,_⟩:=i.form;exact⟨A,c,h⟩
 have a:=C.swap (A:=[ah]) (a.aN g)
 refine an ⟨⟨_,a⟩,?_⟩
 refine af 6 1 j (aW 5 j ?_)
 have f:=k1 (d:=m.d) (hm.st a).l hm.aH bx.l
 refine cN j j j f (λr w⟨aA,k,g⟩=>?_)
 obtain⟨e,d1,rfl⟩:∃A c,r= .slice A m.l.length c:=by obtain⟨A,c,h,_⟩:=k.form;exact⟨A,c,h⟩
 have a:=C.swap (A:=[aA]) (a.aN g)
 refine an ⟨⟨_,a⟩,?_⟩
 refine dy 7 j (cC a j j j j (by rw [hq,m.bY hm.tag];decide) (λw a=>?_))
 have a:C o [] (bi ax ({m with A:=b,c:=aZ}:aB)::_) w:=C.gk a (m.qJ b aZ)
 refine an (jZ 8 j (q8 j j j (an (jZ 9 j (cC a j j j j (by rw [List.size_toArray,(({m with A:=b,c:=aZ}:aB)).bY hm.tag];decide) (λw a=>?_))))))
 have a:C o [] (bi ax ({m with A:=b,c:=aZ,B:=e,d:=d1}:aB)::_) w:=C.gk a ((({m with A:=b,c:=aZ}:aB)).mx e d1)
 refine an (cX (bS 2 (U:=({m with A:=b,c:=aZ,B:=e,d:=d1}:aB).cs) j j ((({m with A:=b,c:=aZ,B:=e,d:=d1}:aB)).bY hm.tag) a.bN (c5 a.f1 j j j (by simpa using({m with A:=b,c:=aZ,B:=e,d:=d1}:aB).one) (by rw [List.size_toArray];exact(({m with A:=b,c:=aZ,B:=e,d:=d1}:aB)).bY hm.tag) (by decide) (λw a=>?_))))
 have a:=C.whole (U:=({m with A:=b,c:=aZ,B:=e,d:=d1}:aB).cs) a (by rw [(({m with A:=b,c:=aZ,B:=e,d:=d1}:aB)).bY hm.tag];rfl)
 refine bJ 0 j ⟨_,hb (U:=({m with A:=b,c:=aZ,B:=e,d:=d1}:aB).cs) results77 j j ((({m with A:=b,c:=aZ,B:=e,d:=d1}:aB)).bY hm.tag) a.bN,?_⟩
 exact⟨({m with A:=b,c:=aZ,B:=e,d:=d1}:aB),ah,aA,j,⟨i,k⟩,j,a.drop.drop.kH⟩
theorem Da{o:World}{m:aB}(hm:m.ok o)(bx:m.fit):Calls prog 187 #[.agg m.cs.toArray] o (aS λr w=>∃(q:aB)(ah aA:List Chunk),r= .agg q.cs.toArray/\q.own ah aA/\q.P=m.P/\C o [] [ah,aA] w):=by
 have a:Own [] o:=C.start o
 refine e7 [.agg m.cs.toArray] (fn:=f187) func187 ntmps187 (bP 2 a j j (λax w a=>cn 0 a j (λaJ w a=>?_)))
 have a:C o [] ([bi ax m,bi aJ dM]++[]) w:=a.f1
 have a:=a.drew
 refine bz 1 j (λw=>∃ae,C o [] ([bi ax m,bi aJ dM]++ae) w) ⟨_,a⟩ (af 0 1 j (bT 1 j (λw⟨_,a⟩=>a.cell m.ge) (af 3 1 j (bT 4 j (λw⟨_,a⟩=>a.cell m.eV) (aW 2 j ?_)))))
 have f:=gW (c:=m.c) (hm.st a).x (by have:=bx.x;omega)
 refine cN j j j f (λr w⟨ah,i,g⟩=>?_)
 obtain⟨b,aZ,rfl⟩:∃A c,r= .slice A m.x.length c:=by obtain⟨A,c,h,_⟩:=i.form;exact⟨A,c,h⟩
 have a:=C.swap (A:=[ah]) (a.aN g)
 refine an ⟨⟨_,a⟩,?_⟩
 refine af 6 1 j (aW 5 j ?_)
 have f:=k1 (d:=m.d) (hm.st a).l hm.aH bx.l
 refine cN j j j f (λr w⟨aA,k,g⟩=>?_)
 obtain⟨e,d1,rfl⟩:∃A c,r= .slice A m.l.length c:=by obtain⟨A,c,h,_⟩:=k.form;exact⟨A,c,h⟩
 have a:=C.swap (A:=[aA]) (a.aN g)
 refine an ⟨⟨_,a⟩,?_⟩
 refine dy 7 j (cC a j j j j (by rw [hq,m.bY hm.tag];decide) (λw a=>?_))
 have a:C o [] (bi ax ({m with A:=b,c:=aZ}:aB)::_) w:=C.gk a (m.qJ b aZ)
 refine an (jZ 8 j (q8 j j j (an (jZ 9 j (cC a j j j j (by rw [List.size_toArray,(({m with A:=b,c:=aZ}:aB)).bY hm.tag];decide) (λw a=>?_))))))
 have a:C o [] (bi ax ({m with A:=b,c:=aZ,B:=e,d:=d1}:aB)::_) w:=C.gk a ((({m with A:=b,c:=aZ}:aB)).mx e d1)
 refine an (cX (bS 2 (U:=({m with A:=b,c:=aZ,B:=e,d:=d1}:aB).cs) j j ((({m with A:=b,c:=aZ,B:=e,d:=d1}:aB)).bY hm.tag) a.bN (c5 a.f1 j j j (by simpa using({m with A:=b,c:=aZ,B:=e,d:=d1}:aB).one) (by rw [List.size_toArray];exact(({m with A:=b,c:=aZ,B:=e,d:=d1}:aB)).bY hm.tag) (by decide) (λw a=>?_))))
 have a:=C.whole (U:=({m with A:=b,c:=aZ,B:=e,d:=d1}:aB).cs) a (by rw [(({m with A:=b,c:=aZ,B:=e,d:=d1}:aB)).bY hm.tag];rfl)
 refine bJ 0 j ⟨_,hb (U:=({m with A:=b,c:=aZ,B:=e,d:=d1}:aB).cs) results187 j j ((({m with A:=b,c:=aZ,B:=e,d:=d1}:aB)).bY hm.tag) a.bN,?_⟩
 exact⟨({m with A:=b,c:=aZ,B:=e,d:=d1}:aB),ah,aA,j,⟨i,k⟩,j,a.drop.drop.kH⟩
def fw(q:aB)(G:List Chunk):Prop:=∃ah aA,G=ah++aA/\q.own ah aA/\q.tag.length=32/\(∀x∈q.l,x.ok)/\q.fit
def fx:List aB->List Chunk->Prop
 |[],G=>G=[]
 |q::r,G=>∃ah aA,G=ah++aA/\fw q ah/\fx r aA
abbrev fN(l:List aB):List Value:=l.flatMap aB.cs
def lX(v:Value)(l:List aB)(G:List Chunk):Prop:=∃ak aA,G=ak++aA/\Row 94 39 v l.length (fN l) ak/\fx l aA
theorem fx.tag:∀{l:List aB}{G:List Chunk},fx l G->∀q∈l,q.tag.length=32
 |[],_,_,q,b=>by simp at b
 |a::r,_,⟨_,_,_,⟨_,_,_,_,d,_⟩,c⟩,q,b=>by
  rcases gd.1 b with rfl|b
  .exact d
  .exact c.tag q b
theorem fx.app:∀{l m:List aB}{G H:List Chunk},fx l G->fx m H->fx (l++m) (G++H)
 |[],m,G,H,h,k=>by have:G=[]:=h;subst this;exact k
 |a::r,m,_,H,⟨ah,aA,rfl,b,c⟩,k=>⟨ah,aA++H,by rw [dH],b,c.app k⟩
theorem fx.one{q:aB}{G:List Chunk}(h:fw q G):fx [q] G:=⟨G,[],by simp,h,j⟩
theorem x3:∀(l:List aB),(∀q∈l,q.tag.length=32)->(fN l).length=l.length*39
 |[],_=>rfl
 |q::r,h=>by
  show(q.cs++fN r).length=_
  rw [ca,q.bY (h q (by simp)),x3 r (λy a=>h y (by simp [a])),List.length_cons]
  omega
theorem uH(l:List aB):∀u∈fN l,u.oneCell'=true:=by
 intro u hu
 obtain⟨x,_,a⟩:=nB.1 hu
 exact jQ.1 x.one u a
theorem lX.nil:lX (.slice none 0 0) [] []:=⟨[],[],j,Row.nil _ _,j⟩
section
variable {α:Type} {V:Value->α->List Chunk->Prop}
def c6(V:Value->α->List Chunk->Prop):List (Int×Value)->List (Int×α)->List Chunk->Prop
 |[],[],G=>G=[]
 |p::m,q::t,G=>p.1=q.1/\∃ah aA,G=ah++aA/\V p.2 q.2 ah/\c6 V m t aA
 |[],_::_,_=>False
 |_::_,[],_=>False
theorem c6.keys:∀{m:List (Int×Value)}{t:List (Int×α)}{G:List Chunk},c6 V m t G->m.map Prod.fst=t.map Prod.fst
 |[],[],_,_=>rfl
 |[],_::_,_,h=>h.elim
 |_::_,[],_,h=>h.elim
 |p::m,q::t,_,⟨a,_,_,_,_,b⟩=>by rw [jO,jO,a,b.keys]
theorem c6.len{m:List (Int×Value)}{t:List (Int×α)}{G:List Chunk}(h:c6 V m t G):m.length=t.length:=by
 have:=aL List.length h.keys
 simpa using this
theorem c6.ng:∀{m:List (Int×Value)}{t:List (Int×α)}{G:List Chunk}{k:Int},c6 V m t G->a2 t k=none->a2 m k=none
 |[],[],_,_,_,_=>rfl
 |[],_::_,_,_,h,_=>h.elim
 |_::_,[],_,_,h,_=>h.elim
 |p::m,q::t,_,k,⟨c,_,_,_,_,d⟩,ad=>by
  obtain⟨a,v⟩:=p
  obtain⟨b,u⟩:=q
  have c:a=b:=c
  subst c
  simp only [a2] at ad⊢
  split at ad
  .cases ad
  .rename_i e;rw [aF e];exact d.ng ad
theorem c6.find:∀{m:List (Int×Value)}{t:List (Int×α)}{G:List Chunk}{k:Int}{a:α},c6 V m t G->a2 t k=some a->
 ∃v ah g aA,a2 m k=some v/\G=ah++(g++aA)/\V v a g/\∀d c,V v d c->c6 V m (cj t k d) (ah++(c++aA))
 |[],[],_,_,_,_,h=>by cases h
 |[],_::_,_,_,_,h,_=>h.elim
 |_::_,[],_,_,_,h,_=>h.elim
 |p::m,q::t,_,k,a,⟨e,ah,aA,rfl,o,l⟩,ad=>by
  obtain⟨J,v⟩:=p
  obtain⟨b,u⟩:=q
  have e:J=b:=e
  subst e
  simp only [a2] at ad⊢
  split at ad
  .rename_i he
   cases ad
   rw [a6 he]
   refine⟨v,[],ah,aA,j,j,o,λd c f=>?_⟩
   simp only [cj,a6 he]
   exact⟨he,c,aA,j,f,l⟩
  .rename_i n
   rw [aF n]
   obtain⟨z,H1,r,i,s,w,x,y⟩:=l.find ad
   refine⟨z,ah++H1,r,i,s,by rw [w,dH],x,λd c f=>?_⟩
   simp only [cj,aF n]
   exact⟨j,ah,H1++(c++i),by rw [dH],o,y d c f⟩
theorem c6.app:∀{m c:List (Int×Value)}{t d:List (Int×α)}{G a:List Chunk},c6 V m t G->c6 V c d a->c6 V (m++c) (t++d) (G++a)
 |[],_,[],_,_,_,h,b=>by have h:_=[]:=h;subst h;exact b
 |[],_,_::_,_,_,_,h,_=>h.elim
 |_::_,_,[],_,_,_,h,_=>h.elim
 |p::m,_,q::t,_,_,a,⟨e,ah,aA,rfl,g,f⟩,b=>⟨e,ah,aA++a,by rw [dH],g,f.app b⟩
theorem c6.one{k:Int}{v:Value}{a:α}{G:List Chunk}(h:V v a G):c6 V [(k,v)] [(k,a)] G:=⟨j,G,[],by simp,h,j⟩
theorem yO{β:Type}{m:List (Int×β)}{k:Int}(h:a2 m k=none):∀p∈m,p.1≠k:=by
 rcases nT m k with⟨_,b⟩|⟨J,u,a,_⟩
 .exact b
 .rw [a] at h;cases h
theorem vb{β:Type}{m:List (Int×β)}{k:Int}{v:β}(h:a2 m k=none):cj m k v=m++[(k,v)]:=vc m k v (yO h)
theorem c6.add{m:List (Int×Value)}{t:List (Int×α)}{G b:List Chunk}{k:Int}{v:Value}{a:α}(h:c6 V m t G)(ad:a2 t k=none)(c:V v a b):c6 V (cj m k v) (cj t k a) (G++b):=by
 rw [vb ad,vb (h.ng ad)]
 exact h.app (c6.one c)
theorem c6.put:∀{m:List (Int×Value)}{t:List (Int×α)}{G c:List Chunk}{k:Int}{v:Value}{a:α},c6 V m t G->V v a c->∃d ak,c6 V (cj m k v) (cj t k a) d/\(G++c).Perm (ak++d)
 |[],[],_,c,k,v,a,h,e=>by have h:_=[]:=h;subst h;exact⟨c,[],c6.one e,by simp⟩
 |[],_::_,_,_,_,_,_,h,_=>h.elim
 |_::_,[],_,_,_,_,_,h,_=>h.elim
 |p::m,q::t,_,c,k,v,a,⟨f,ah,aA,rfl,n,g⟩,e=>by
  obtain⟨J,x⟩:=p
  obtain⟨b,u⟩:=q
  have f:J=b:=f
  subst f
  simp only [cj]
  by_cases he:J=k
  .rw [a6 he,a6 he]
   refine⟨c++aA,ah,⟨j,c,aA,j,e,g⟩,?_⟩
   rw [dH]
   exact pG _ ly
  .rw [aF he,aF he]
   obtain⟨d,ak,i,l⟩:=g.put (k:=k) e
   refine⟨ah++d,ak,⟨j,ah,d,j,n,i⟩,?_⟩
   rw [dH]
   refine(pG ah l).trans ?_
   rw [<-dH,<-dH]
   exact oC _ ly
theorem c6.del:∀{m:List (Int×Value)}{t:List (Int×α)}{G:List Chunk}{k:Int},c6 V m t G->∃a ak,c6 V (fS m k) (fS t k) a/\G.Perm (ak++a)
 |[],[],_,_,h=>⟨[],[],j,by have h:_=[]:=h;subst h;exact oe _⟩
 |[],_::_,_,_,h=>h.elim
 |_::_,[],_,_,h=>h.elim
 |p::m,q::t,_,k,⟨c,ah,aA,rfl,g,d⟩=>by
  obtain⟨J,x⟩:=p
  obtain⟨b,u⟩:=q
  have c:J=b:=c
  subst c
  simp only [fS]
  by_cases he:J=k
  .rw [a6 he,a6 he];exact⟨aA,ah,d,oe _⟩
  .rw [aF he,aF he]
   obtain⟨a,ak,e,f⟩:=d.del (k:=k)
   refine⟨ah++a,ak,⟨j,ah,a,j,g,e⟩,?_⟩
   refine(pG ah f).trans ?_
   rw [<-dH,<-dH]
   exact oC _ ly
theorem c6.cut:∀{m nQ:List (Int×Value)}{t:List (Int×α)}{G:List Chunk},c6 V (m++nQ) t G->∃t1 t2 ah aA,t=t1++t2/\G=ah++aA/\t1.length=m.length/\c6 V m t1 ah/\c6 V nQ t2 aA
 |[],nQ,t,G,h=>⟨[],t,[],G,j,j,j,j,h⟩
 |p::m,nQ,[],G,h=>h.elim
 |p::m,nQ,q::t,_,⟨d,ah,aA,rfl,g,f⟩=>by
  obtain⟨t1,t2,H1,a,rfl,rfl,e,b,c⟩:=c6.cut (m:=m) (nQ:=nQ) f
  exact⟨q::t1,t2,ah++H1,a,j,by rw [dH],by simp [e],⟨d,ah,H1,j,g,b⟩,c⟩
abbrev db{β:Type}(t:List (Int×β)):List (Int×β):=t.mergeSort λa b=>decide (a.1<=b.1)
theorem c6.zip:∀{m:List (Int×Value)}{t:List (Int×α)}{G:List Chunk},c6 V m t G->∃z:List (Int×Value×α×List Chunk),m=z.map (λx=>(x.1,x.2.1))/\t=z.map (λx=>(x.1,x.2.2.1))/\G=z.flatMap (λx=>x.2.2.2)/\∀x∈z,V x.2.1 x.2.2.1 x.2.2.2
 |[],[],_,h=>⟨[],j,j,h,by simp⟩
 |[],_::_,_,h=>h.elim
 |_::_,[],_,h=>h.elim
 |p::m,q::t,_,⟨a,ah,aA,rfl,k,i⟩=>by
  obtain⟨z,d,e,f,g⟩:=i.zip
  obtain⟨J,x⟩:=p
  obtain⟨b,u⟩:=q
  have a:J=b:=a
  subst a
  refine⟨(J,x,u,ah)::z,by rw [d];rfl,by rw [e];rfl,by rw [f];rfl,λy c=>?_⟩
  rcases gd.1 c with rfl|c
  .exact k
  .exact g y c
theorem c6.y7:∀(z:List (Int×Value×α×List Chunk)),(∀x∈z,V x.2.1 x.2.2.1 x.2.2.2)->c6 V (z.map (λx=>(x.1,x.2.1))) (z.map (λx=>(x.1,x.2.2.1))) (z.flatMap (λx=>x.2.2.2))
 |[],_=>rfl
 |x::z,h=>⟨j,x.2.2.2,_,j,h x (by simp),c6.y7 z (λy a=>h y (by simp [a]))⟩
theorem c6.sort{m:List (Int×Value)}{t:List (Int×α)}{G:List Chunk}(h:c6 V m t G):∃c,G.Perm c/\c6 V (dk m) (db t) c:=by
 obtain⟨z,rfl,rfl,rfl,e⟩:=h.zip
 refine⟨(z.mergeSort λa b=>decide (a.1<=b.1)).flatMap (λx=>x.2.2.2),(List.Perm.flatMap_right _ (oj z _)).symm,?_⟩
 have:=c6.y7 (V:=V) (z.mergeSort λa b=>decide (a.1<=b.1)) (λx d=>e x (gS.1 d))
 rw [tB (s:=λa b:Int×Value=>decide (a.1<=b.1)) (λ_ _ _ _=>rfl),tB (s:=λa b:Int×α=>decide (a.1<=b.1)) (λ_ _ _ _=>rfl)] at this
 exact this
theorem c6.n0{m:List (Int×Value)}{t:List (Int×α)}{G:List Chunk}(h:c6 V m t G){pre:List (Int×Value)}{q:Int×Value}(g:pc m pre q):∃t1 t2 a ah b aA,db t=t1++(q.1,a)::t2/\t1.length=pre.length/\G.Perm (ah++(b++aA))/\V q.2 a b:=by
 obtain⟨r,j⟩:=g
 obtain⟨n,i,aM⟩:=h.sort
 rw [j] at aM
 obtain⟨t1,t2,ah,aA,e,rfl,f,_,d⟩:=aM.cut
 cases t2 with
 |nil=>exact d.elim
 |cons x t2=>
  obtain⟨c,b,bn,rfl,l,_⟩:=d
  obtain⟨k,a⟩:=x
  have c:q.1=k:=c
  subst c
  exact⟨t1,t2,a,ah,b,bn,e,f,i,l⟩
def fp(T:TypeId)(V:Value->α->List Chunk->Prop)(p:Value)(t:List (Int×α))(G:List Chunk):Prop:=
 ∃b ag I m H,p=Z b/\cf bu I m/\c6 V m t H/\G=ay T b ag I++H
theorem fp.new{T:TypeId}{b ag:Nat}:cf bu (.map #[] 0) ([]:List (Int×Value))->fp T V (Z b) [] (ay T b ag (.map #[] 0)):=λh=>⟨b,ag,_,[],[],j,h,j,by simp⟩
theorem c6.wide{n:Nat}(b:∀v a G,V v a G->gx n v){m:List (Int×Value)}{t:List (Int×α)}{G:List Chunk}(h:c6 V m t G):∀q∈m,gx n q.2:=by
 obtain⟨z,rfl,_,_,e⟩:=h.zip
 intro q c
 obtain⟨x,d,rfl⟩:=dT.1 c
 exact b _ _ _ (e x d)
end
def j9(v:Value)(q:aY)(G:List Chunk):Prop:=∃m:aB,v= .agg m.cs.toArray/\m.P=q/\fw m G
theorem j9.wide(v:Value)(q:aY)(G:List Chunk)(h:j9 v q G):gx 39 v:=by
 obtain⟨m,rfl,_,_,_,_,_,a,_⟩:=h
 exact⟨m.cs,j,m.bY a,m.one⟩
def cz(v:Value)(l:List aY)(G:List Chunk):Prop:=∃b0:List aB,b0.map aB.P=l/\lX v b0 G
theorem cz.nil:cz (.slice none 0 0) [] []:=⟨[],j,lX.nil⟩
def Holds(w:World)(G:List Chunk):Prop:=∀c∈G,w.heap[c.1]? =some c.2
section
variable {o w aI:World} {F:List Nat} {ae:List (List Chunk)} {A B G:List Chunk}
theorem Holds.left(h:Holds w (A++B)):Holds w A:=λc a=>h c (dA.2 (.inl a))
theorem Holds.right(h:Holds w (A++B)):Holds w B:=λc a=>h c (dA.2 (.inr a))
theorem Holds.perm(h:Holds w A)(b:A.Perm B):Holds w B:=λc a=>h c (b.mem_iff.2 a)
theorem C.holds(h:C o F ae w)(a:G∈ae):Holds w G:=λc b=>h.here c (List.mem_flatten.2 ⟨G,a,b⟩)
theorem C.uP(h:C o F (G::ae) w):Holds w G:=h.holds (by simp)
theorem Holds.st(h:Holds o G)(a:C o [] ae w):Holds w G:=λc b=>a.cd (h c b)
theorem Holds.head{b:Nat}{I:Obj}(h:Holds w ((b,I)::G)):w.heap[b]? =some I:=h (b,I) (by simp)
theorem Holds.tail{b:Nat}{I:Obj}(h:Holds w ((b,I)::G)):Holds w G:=λc a=>h c (by simp [a])
theorem Holds.kept(h:Holds o G)(b:C o F ae w)(d:∀c∈G,c.1∉F):Holds w G:=λc a=>by
 rw [b.fP c.1 (gp.1 (h c a)).1 (d c a)];exact h c a
theorem dG.st{T:TypeId}{p:Option Addr}{m:List (Int×Value)}(h:dG T o p m)(a:C o [] ae w):dG T w p m:=by
 rcases h with h|⟨b,ag,I,rfl,c,d,e⟩
 .exact .inl h
 .exact .inr ⟨b,ag,I,j,a.cd c,a.cd d,e⟩
theorem Row.read{e:TypeId}{size:Nat}{v:Value}{n:Nat}{xs:List Value}(h:Row e size v n xs G)(f:Holds w G):∃A c,v= .slice A n c/\n<=c/\c<=maxLen/\Rd w A xs/\Flat A:=by
 rcases h.2 with⟨rfl,rfl,rfl⟩|⟨g,cap,cur,rfl,rfl,a,b,_,d⟩
 .have:xs=[]:=lu (by simpa using h.1)
  subst this
  exact⟨none,0,j,cB _,by simp [maxLen],Rd.nil _ _,.inl j⟩
 .refine⟨_,_,j,a,b,λi u hu=>⟨_,j,?_⟩,.inr ⟨_,_,j⟩⟩
  rw [<-d,jw] at hu
  split at hu
  .rw [add_lit];exact cell_of f.head (by simpa using hu)
  .cases hu
theorem fp.read{α:Type}{V:Value->α->List Chunk->Prop}{T:TypeId}{p:Value}{t:List (Int×α)}(h:fp T V p t G)(c:Holds w G):∃a m H,p= .pointer a/\dG T w a m/\c6 V m t H/\Holds w H:=by
 obtain⟨b,ag,I,m,H,rfl,d,e,rfl⟩:=h
 exact⟨_,m,H,j,.inr ⟨b,ag,I,j,c.left (b,_) (by simp),c.left (ag,I) (by simp),d⟩,e,c.right⟩
theorem fw.read{m:aB}(h:fw m G)(b:Holds w G):m.ok w/\m.fit:=by
 obtain⟨ah,aA,rfl,d,f,g,bx⟩:=h
 refine⟨⟨?_,?_,g,f⟩,bx⟩
 .obtain⟨A,c,e,_,_,a,_⟩:=d.x.read b.left;cases e;exact a
 .obtain⟨A,c,e,_,_,a,_⟩:=d.l.read b.right;cases e;exact a
theorem fw.ud{m:aB}(h:fw m G):m.x.length<=m.c/\m.l.length<=m.d/\Flat m.A/\Flat m.B:=by
 obtain⟨ah,aA,rfl,a,_⟩:=h
 refine⟨?_,?_,a.x.flat,a.l.flat⟩
 .obtain⟨A,c,e,b,_⟩:=a.x.form;cases e;exact b
 .obtain⟨A,c,e,b,_⟩:=a.l.form;cases e;exact b
theorem uD{α:Type}{f:α->List Value}{n:Nat}:∀(l:List α),(∀x∈l,(f x).length=n)->∀(i:Nat)(a:i<l.length),((l.flatMap f).drop (i*n)).take n=f l[i]
 |[],_,i,a=>by simp at a
 |x::r,h,0,_=>by
  have b:=h x (by simp)
  rw [od,List.drop_zero,jS,List.take_append_of_le_length (by omega),il (by omega)]
  rfl
 |x::r,h,i+1,a=>by
  have b:=h x (by simp)
  have d:=uD r (λy c=>h y (by simp [c])) i (by simpa using a)
  rw [jS,show(i+1)*n=(f x).length+i*n by rw [b,mT];omega,List.drop_append]
  rw [tz (by omega),kB,show(f x).length+i*n-(f x).length=i*n by omega]
  exact d
theorem jE{α:Type}{f:α->List Value}{n:Nat}{w:World}{a:Addr}{l:List α}(d:Rd w (some a) (l.flatMap f))(h:∀x∈l,(f x).length=n)(i:Nat)(c:i<l.length):Rd w (some (a.add (i*n))) (f l[i]):=by
 have b:=(d.drop (i*n)).take n
 rw [uD l h i c] at b
 exact b
theorem oM{α:Type}{f:α->List Value}{n:Nat}:∀(l:List α),(∀x∈l,(f x).length=n)->(l.flatMap f).length=l.length*n
 |[],_=>by simp
 |x::r,h=>by
  rw [jS,ca,h x (by simp),oM r (λy a=>h y (by simp [a])),List.length_cons,Nat.add_mul]
  omega
theorem iC{α:Type}{f:α->List Value}{n J:Nat}{v:Value}(l:List α)(h:∀x∈l,(f x).length=n)(i:Nat)(b:i<l.length)(c:J<n)(d:(f l[i])[J]? =some v):(l.flatMap f)[i*n+J]? =some v:=by
 have a:=aL (λz=>z[J]?) (uD l h i b)
 simp only [jw,lx,c,kh] at a
 rw [a,d]
theorem xV{α:Type}{f:α->List Value}{n:Nat}:∀(l:List α),(∀x∈l,(f x).length=n)->∀(i:Nat),i<l.length->(l.eraseIdx i).flatMap f=(l.flatMap f).take (i*n)++(l.flatMap f).drop ((i+1)*n)
 |[],_,i,b=>by simp at b
 |x::r,h,0,_=>by
  have a:=h x (by simp)
  simp only [List.eraseIdx_cons_zero,od,List.take_zero,kB,List.flatMap_cons,Nat.zero_add,Nat.one_mul]
  rw [<-a,List.drop_left]
 |x::r,h,i+1,b=>by
  have a:=h x (by simp)
  have g:=xV r (λy e=>h y (by simp [e])) i (by simpa using b)
  rw [List.eraseIdx_cons_succ,jS,jS,g]
  have c:(f x++r.flatMap f).take ((i+1)*n)=f x++(r.flatMap f).take (i*n):=by
   rw [show(i+1)*n=(f x).length+i*n by rw [a,mT];omega,pH,List.take_of_length_le (by omega),show(f x).length+i*n-(f x).length=i*n by omega]
  have d:(f x++r.flatMap f).drop ((i+1+1)*n)=(r.flatMap f).drop ((i+1)*n):=by
   rw [show(i+1+1)*n=(f x).length+(i+1)*n by rw [a,mT (i+1)];omega,List.drop_append,List.drop_of_length_le (by omega),List.nil_append,show(f x).length+(i+1)*n-(f x).length=(i+1)*n by omega]
  rw [c,d,dH]
theorem fx.at{l:List aB}{G:List Chunk}(h:fx l G):∀(i:Nat)(c:i<l.length),∃ah b aA,G=ah++(b++aA)/\fw l[i] b/\fx (l.eraseIdx i) (ah++aA):=by
 induction l generalizing G with
 |nil=>intro i c;simp at c
 |cons a r m=>
  obtain⟨H1,f,rfl,d,e⟩:=h
  intro i c
  cases i with
  |zero=>exact⟨[],H1,f,j,d,by simpa using e⟩
  |succ i=>
   obtain⟨ah,b,aA,rfl,g,k⟩:=m e i (by simpa using c)
   exact⟨H1++ah,b,aA,by rw [dH],g,H1,ah++aA,by rw [dH],d,k⟩
theorem lX.form{v:Value}{l:List aB}{G:List Chunk}(h:lX v l G):∃A c,v= .slice A l.length c/\l.length<=c/\c<=maxLen:=by
 obtain⟨ak,aA,_,a,_⟩:=h
 exact a.form
theorem qf(l m:List aB):fN (l++m)=fN l++fN m:=nA
end
abbrev fd(b:Nat)(v:Value)(lost:Int):List Chunk:=R b #[v,ab 512,ab lost] 149
def g2(p:Value)(l:List aY)(lost:Nat)(G:List Chunk):Prop:=∃b v H,p=Z b/\cz v l H/\G=fd b v lost++H
theorem lX.snoc{v:Value}{l:List aB}{m:aB}{ak aA a:List Chunk}(b:Row 94 39 v (l.length+1) (fN l++m.cs) ak)(c:fx l aA)(hm:fw m a):lX v (l++[m]) (ak++(aA++a)):=
 ⟨ak,aA++a,j,by rw [ca,List.length_singleton,qf,show fN [m]=m.cs by simp];exact b,c.app (fx.one hm)⟩
theorem zC{o:World}{b:Nat}{v:Value}{lost:Int}{l:List aB}{ak aA s:List Chunk}{m:aB}(k:Row 94 39 v l.length (fN l) ak)(y:fx l aA)(hm:fw m s)(a:Own [fd b v lost,ak] o):Calls prog 74 #[Z b,.agg m.cs.toArray] o (aS λr w=>r= .bool (decide (l.length<512))/\∃v1 e,(if l.length<512 then Row 94 39 v1 (l.length+1) (fN l++m.cs) e else v1=v/\e=ak)/\C o (av [fd b v lost,ak]) [fd b v1 lost,e] w):=by
 obtain⟨d,i⟩:∃d,d=av [fd b v lost,ak]:=⟨_,j⟩
 rw [<-i]
 have a:C o d [fd b v lost,ak] o:=i▸a
 have h:m.tag.length=32:=hm.choose_spec.choose_spec.2.2.1
 obtain⟨A,c,rfl,x,u⟩:=k.form
 refine a1 [Z b,.agg m.cs.toArray] func74 ntmps74 results74 (bP 2 a j j (λf w a=>?_))
 have a:C o d ([fd b (.slice A l.length c) lost,bi f m]++[ak]) w:=a.f1
 have a:=a.drew
 refine bz 3 j (λw=>∃ae,C o d ([fd b (.slice A l.length c) lost,bi f m]++ae) w) ⟨_,a⟩ (af 0 3 j (be 3 j a7 j (af 4 4 j (be 8 j a7 j (af 9 1 j (bO (aT 0 j j (λg=>?_) (λg=>?_))))))))
 .refine ao 3 j j ?_
  have p:¬l.length<512:=by have:=br g;omega
  exact⟨aL Value.bool (ff p).symm,_,ak,by rw [aF p];exact⟨j,j⟩,a.f2.f2.drop.f1⟩
 have a:=a.drew
 have q:l.length<512:=by have:=bw g;omega
 refine bz 2 j (λw=>∃ae,C o d ([fd b (.slice A l.length c) lost,bi f m]++ae) w) ⟨_,a⟩ (af 0 4 j (be 4 j a7 j (aV 5 j (λw⟨_,a⟩=>dc (U:=m.cs) j j (m.bY h) (C.f1 a).bN) (aW 6 j (gv (U:=m.cs) a j j j (m.bY h) (by decide) (by decide) (λt w a=>?_))))))
 have aP:=a.bN
 have a:=a.f2.f2
 refine an ⟨⟨_,a⟩,?_⟩
 refine aW 7 j (eK a.f3 k j j (by decide) j j j (news:=m.cs) (m.bY h) aP (List.all_eq_true.1 m.one) (by omega) (by unfold maxLen;omega) (λv1 e w n a=>?_))
 have a:=a.f2.f2
 refine an ⟨⟨_,a⟩,?_⟩
 refine af 8 2 j (dy 10 j (cC a j j j n.one bR (λw a=>?_)))
 have a:C o d (fd b v1 lost::_) w:=a
 refine an (cX (ao 3 j j ?_))
 exact⟨aL Value.bool (jb q).symm,v1,e,by rw [a6 q];exact n,a.f2.f1.kH⟩
theorem wW{o:World}{b:Nat}{v:Value}{lost:Int}{l:List aB}{ak:List Chunk}(p:Row 94 39 v l.length (fN l) ak)(n:∀q∈l,q.tag.length=32)(g:o.heap[b]? =some (.cells #[v,ab 512,ab lost] 149 (0,0)))(m:Holds o ak){i:Nat}(f:i<l.length):Calls prog 131 #[Z b,.int .i64 i] o (aS λr w=>r= .tuple #[.agg l[i].cs.toArray,.bool true]/\C o [] [] w):=by
 have d:Own [] o:=C.start o
 obtain⟨A,c,rfl,z,x,h,y⟩:=p.read m
 have hlen:∀q∈l,q.cs.length=39:=λq t=>q.bY (n q t)
 have e:=hlen l[i] (ek f)
 obtain⟨a,rfl⟩:∃a,A=some a:=by obtain⟨a,s,_⟩:=h (i*39+0) (ab l[i].k) (iC l hlen i f (by decide) (by simp [aB.cs]));exact⟨a,s⟩
 refine e7 [Z b,.int .i64 i] (fn:=f131) func131 ntmps131 ?_
 refine cn 2 d j (λu w d=>?_)
 refine ar 7 j (b2 8 (.bool false) j (aL Value.bool (ff (by omega))) ?_)
 refine au 4 j (cell_of (d.cd g) j) ?_
 refine iW 3 j j (ff (by omega)) ?_
 refine au 6 j (cell_of (d.cd g) j) ?_
 refine ar 1 j (pw j j j j (by omega) (by omega) ?_)
 refine bS 0 (U:=l[i].cs) j j e (jE (d.rd h (bU.of_nil _ _)) hlen i f) ?_
 refine c5 d j j j (by simpa using l[i].one) (by rw [List.size_toArray];exact e) (by decide) (λw d=>?_)
 have d:=C.whole (U:=l[i].cs) d (by rw [e];rfl)
 refine bJ 1 j ⟨_,dp (U:=l[i].cs) results131 j j j e d.bN,?_⟩
 exact⟨j,d.bare⟩
theorem Dl{o:World}{b cap:Nat}{l:List aB}{ak:List Chunk}(D:Row 94 39 (.slice (some ⟨b,0,none⟩) l.length cap) l.length (fN l) ak)(B:∀q∈l,q.tag.length=32)(a:Own [ak] o){i:Nat}(v:i<l.length):Calls prog 133 #[.slice (some ⟨b,0,none⟩) l.length cap,.int .i64 i,.int .i64 (i+1:Nat)] o (aS λr w=>∃n,Row 94 39 r (l.eraseIdx i).length (fN (l.eraseIdx i)) n/\C o (av [ak]) [n] w):=by
 obtain⟨c,p⟩:∃c,c=av [ak]:=⟨_,j⟩
 rw [<-p]
 have a:C o c [ak] o:=p▸a
 have hlen:∀q∈l,q.cs.length=39:=λq m=>q.bY (B q m)
 have H:l.length≠0:=by omega
 obtain⟨O,E⟩:=D
 obtain⟨S,P,cur,N,rfl,y,f,d,z⟩:=E.resolve_left (λh=>H h.2.1)
 cases N
 have U:l.length-1<cap:=by omega
 have x:(fN l).length=l.length*39:=oM l hlen
 have V:(l.length:Int)<=9223372036854775807:=by have:=f;unfold maxLen at this;omega
 refine a1 [.slice (some ⟨b,0,none⟩) l.length cap,.int .i64 i,.int .i64 (i+1:Nat)] func133 ntmps133 results133 ?_
 refine ar 10 j (Bt j j j j j j (by omega) (by omega) (by omega) (by omega) ?_)
 refine iW 6 j j ((show decide ((i:Int)=((i+1:Nat):Int))=false from ff (by omega))) ?_
 have a:=a.drew
 refine bz 7 j (λw=>∃cur ae,C o c (R b cur 94::ae) w) ⟨_,_,a⟩ ?_
 refine af 0 2 j ?_
 refine aV 2 j (λw⟨_,a⟩=>Bg (i:=i) j j (by omega)) ?_
 refine af 3 2 j ?_
 refine aV 5 j (λw⟨_,a⟩=>Bf (i:=i+1) j j (by omega)) ?_
 refine aW 6 j ?_
 have L:Row 94 39 (.slice (some ⟨b,0,none⟩) l.length cap) l.length (fN l) (R b cur 94):=⟨O,.inr ⟨b,cap,cur,j,j,y,f,d,z⟩⟩
 have K:Rd o.drew (some ⟨b,0,none⟩) (fN l):=by obtain⟨_,_,e,_,_,h,_⟩:=L.rd a;cases e;exact h
 have I:Rd o.drew (if cap=i+1 then some ⟨b,0,none⟩ else(some (⟨b,0,none⟩:Addr)).map (·.add ((i+1)*39))) ((fN l).drop ((i+1)*39)):=by
  split
  .rename_i T
   rw [tz (by rw [x,show l.length=i+1 by omega];exact cB _)]
   exact Rd.nil _ _
  .exact K.drop _
 refine Bm a j (by decide) j j j (news:=(fN l).drop ((i+1)*39)) (by rw [iP,x,<-Nat.sub_mul]) I (λu hu=>uH l u (List.mem_of_mem_drop hu)) (by omega) d (λQ w t g a=>?_)
 have G:i+(l.length-(i+1))=l.length-1:=by omega
 rw [G] at g⊢
 have hle:=ke 39 (show l.length<=cap from y)
 have M:cur.toList.take (i*39)=(fN l).take (i*39):=by rw [<-z,List.take_take,mO (ke _ (by omega))]
 rw [M,<-xV l hlen i v] at g
 refine an ⟨⟨_,_,a⟩,?_⟩
 refine af 7 1 j ?_
 refine bO ?_
 refine ar 6 j (Bs (i:=l.length-1) (J:=l.length) j j j j j (by omega) (by omega) (by omega) ?_)
 refine wj (size:=39) a j j (by decide) j j j (by rw [t,fk,<-mT];exact ed (ke _ (by omega)) d) (λA w F s a=>?_)
 rw [fk,g] at s
 refine ao 4 j j ?_
 have k:(l.eraseIdx i).length=l.length-1:=List.length_eraseIdx_of_lt v
 refine⟨_,⟨?_,.inr ⟨b,cap,A,by rw [k],j,by rw [k];omega,f,by rw [F,t];exact d,by rw [k];exact s⟩⟩,a⟩
 exact oM _ (λq m=>hlen q (tC m))
theorem Gp{o:World}{b:Nat}{v:Value}{lost:Int}{l:List aB}{ak:List Chunk}(f:Row 94 39 v l.length (fN l) ak)(g:∀q∈l,q.tag.length=32)(a:Own [fd b v lost,ak] o){i:Nat}(m:i<l.length):Calls prog 75 #[Z b,.int .i64 i] o (aS λr w=>r= .tuple #[.agg l[i].cs.toArray,.bool true]/\∃v1 e,Row 94 39 v1 (l.eraseIdx i).length (fN (l.eraseIdx i)) e/\C o (av [fd b v lost,ak]) [fd b v1 lost,e] w):=by
 obtain⟨d,n⟩:∃d,d=av [fd b v lost,ak]:=⟨_,j⟩
 rw [<-n]
 have a:C o d [fd b v lost,ak] o:=n▸a
 have c:=l[i].bY (g l[i] (ek m))
 have A:i<9223372036854775807:=by obtain⟨_,_,_,y,s⟩:=f.form;unfold maxLen at s;omega
 refine e7 [Z b,.int .i64 i] (fn:=f75) func75 ntmps75 (cn 2 a j (λt w a=>?_))
 have k:=wW f g (a.f1.uP.head) (a.f1.f1.f2.uP) m
 refine bp 5 k j (λw ad=>?_)
 have a:=a.aN ad
 refine cn 3 a j (λu w a=>c5 a j j j (by simpa using l[i].one) (by rw [List.size_toArray];exact c) (by decide) (λw a=>?_))
 have a:=C.whole (U:=l[i].cs) a (by rw [c];rfl)
 refine au 11 j (aw (C.aj a) j) (bt 2 j j j (gh i 1 (by omega)) ?_)
 obtain⟨x,cap,cur,rfl,z,_⟩:=f.2.resolve_left (λh=>by have:=h.2.1;omega)
 have a:=a.f3
 have k:=Dl f g a.j1 m
 refine bm 0 k j (λr w⟨e,p,ad⟩=>?_)
 have a:=(a.im ad).f3
 refine dD 2 a j j j p.one (λw a=>?_)
 have a:C o d (fd b r lost::_) w:=a
 refine bS 2 (U:=l[i].cs) j j c (C.f2 a).bN (ar 1 j (c5 (C.f3 a) j j j (by simpa using l[i].one) (by rw [List.size_toArray];exact c) (by decide) (λw a=>?_)))
 have a:=C.whole (U:=l[i].cs) a (by rw [c];rfl)
 refine bJ 1 j ⟨_,dp (U:=l[i].cs) results75 j j j c a.bN,?_⟩
 exact⟨j,_,e,p,a.drop.f2.drop.kH⟩
theorem cz.len{v:Value}{l:List aY}{G:List Chunk}(h:cz v l G):∃A c,v= .slice A l.length c/\l.length<=c/\c<=maxLen:=by
 obtain⟨b0,rfl,a⟩:=h
 rw [fy]
 exact a.form
theorem fx.read{w:World}:∀{l:List aB}{G:List Chunk},fx l G->Holds w G->∀q∈l,q.ok w/\q.fit
 |[],_,_,_,q,b=>by simp at b
 |a::r,_,⟨ah,aA,rfl,d,e⟩,c,q,b=>by
  rcases gd.1 b with rfl|b
  .exact d.read c.left
  .exact e.read c.right q b
theorem fw.sk{q m:aB}{ah aA:List Chunk}{w:World}(h:q.own ah aA)(a:q.P=m.P)(hm:m.ok w)(bx:m.fit):fw q (ah++aA):=by
 have c:q.tag=m.tag:=aL aY.tag a
 have b:q.l=m.l:=aL aY.l a
 have d:q.x=m.x:=aL aY.x a
 exact⟨ah,aA,j,h,by rw [c];exact hm.tag,by rw [b];exact hm.aH,⟨by rw [d];exact bx.x,by rw [b];exact bx.l⟩⟩
theorem g2.open{p:Value}{l:List aY}{lost:Nat}{G:List Chunk}(h:g2 p l lost G):∃b v b0 ak aA,p=Z b/\b0.map aB.P=l/\Row 94 39 v b0.length (fN b0) ak/\fx b0 aA/\G=fd b v lost++(ak++aA):=by
 obtain⟨b,v,H,rfl,⟨b0,rfl,ak,aA,rfl,c,a⟩,rfl⟩:=h
 exact⟨b,v,b0,ak,aA,j,j,c,a,j⟩
theorem g2.close{b:Nat}{v:Value}{b0:List aB}{lost:Nat}{ak aA:List Chunk}(c:Row 94 39 v b0.length (fN b0) ak)(a:fx b0 aA):g2 (Z b) (b0.map aB.P) lost (fd b v lost++(ak++aA)):=
 ⟨b,v,_,j,⟨b0,j,ak,aA,j,c,a⟩,j⟩
theorem C.Ac{o w:World}{F:List Nat}{A B a8:List Chunk}{ae:List (List Chunk)}(h:C o F ((A++(B++a8))::ae) w):C o F (A::B::a8::ae) w:=h.perm (by simp)
theorem C.Et{o w:World}{F:List Nat}{A B a8:List Chunk}{ae:List (List Chunk)}(h:C o F (A::B::a8::ae) w):C o F ((A++(B++a8))::ae) w:=h.perm (by simp)
theorem yI{α β:Type}(f:α->β):∀(l:List α)(i:Nat),(l.eraseIdx i).map f=(l.map f).eraseIdx i
 |[],_=>rfl
 |a::r,0=>rfl
 |a::r,i+1=>by simp [yI f r i]
theorem si{o:World}:Calls prog 28 #[] o (aS λr w=>∃G,g2 r [] 0 G/\C o [] [G] w):=by
 have a:Own [] o:=C.start o
 refine a1 [] func28 ntmps28 results28 (ar 5 j (cO (c:= #[.slice none 0 0,ab 512]) j j j (λ_=>by kernel_rfl) ?_))
 refine cO (c:= #[.slice none 0 0,ab 512,ab 0]) j j j (λ_=>by kernel_rfl) (bP 0 a j j (λb w a=>ao 1 j j ?_))
 exact⟨_,g2.close (b0:=[]) (Row.nil _ _) j,a.perm (by simp;rfl)⟩
theorem wX{o:World}{p:Value}{l:List aY}{lost:Nat}{G:List Chunk}(h:g2 p l lost G)(a:Holds o G):Calls prog 38 #[p] o (aS λr w=>r= .int .i64 l.length/\w=o):=by
 obtain⟨b,v,l,ak,aA,rfl,rfl,d,e,rfl⟩:=h.open
 obtain⟨A,c,rfl,_⟩:=d.form
 rw [fy]
 refine a1 [Z b] func38 ntmps38 results38 ?_
 refine au 16 j (cell_of (a.left.head) j) ?_
 refine ao 2 j j ?_
 exact⟨j,j⟩
theorem Cn{o:World}{p:Value}{l:List aY}{lost:Nat}{G:List Chunk}(h:g2 p l lost G)(a:Own [G] o){i:Nat}(c:i<l.length):Calls prog 40 #[p,.int .i64 i] o (aS λr w=>∃(m:aB)(g ah:List Chunk),r= .tuple #[.agg m.cs.toArray,.bool true]/\m.P=l[i]/\fw m g/\g2 p (l.eraseIdx i) lost ah/\C o (av [G]) [ah,g] w):=by
 obtain⟨b,v,l,ak,aA,rfl,rfl,x,e,rfl⟩:=h.open
 have c:i<l.length:=by simpa using c
 obtain⟨d,q⟩:∃d,d=av [fd b v lost++(ak++aA)]:=⟨_,j⟩
 rw [<-q]
 have a:C o d [fd b v lost++(ak++aA)] o:=q▸a
 have a:=a.Ac
 have f:=l[i].bY (e.tag l[i] (ek c))
 refine e7 [Z b,.int .i64 i] (fn:=f40) func40 ntmps40 (cn 2 a j (λA w a=>?_))
 have z:=Gp (b:=b) (lost:=(lost:Int)) x e.tag a.ours c
 refine bp 14 z j (λw⟨v1,n,y,ad⟩=>?_)
 have a:=a.b4 ad
 refine ar 2 j (c5 (a.bf _) j j j (by simpa using l[i].one) (by rw [List.size_toArray];exact f) (by decide) (λw a=>?_))
 have a:=C.whole (U:=l[i].cs) a (by rw [f];rfl)
 refine bJ 1 j ⟨_,dp (U:=l[i].cs) results40 j j j f a.bN,?_⟩
 obtain⟨H1,k,s,t,hm,u⟩:=e.at i c
 have a:C o d [fd b v1 lost,n,aA] w:=a.as
 rw [t] at a
 refine⟨l[i],k,_,j,by simp,hm,?_,a.perm (B:=[fd b v1 lost++(n++(H1++s)),k]) ?_⟩
 .have:=g2.close (b:=b) (lost:=lost) y u
  rw [yI] at this
  exact this
 simp only [kd,mQ,g6,dH]
 exact .append_left _ (.append_left _ (.append_left _ ly))
theorem Co{o:World}{p al:Value}{d ms:List aY}{lost:Nat}{G E:List Chunk}(h:g2 p d lost G)(am:cz al ms E)(c:Own [G,E] o)(aI:lost<=1000000000)(aC:ms.length<=1000000):Calls prog 76 #[p,al] o (aS λr w=>r= .int .i64 (min ms.length (512-d.length):Nat)/\∃ah,g2 p (d++ms.take (512-d.length)) (lost+(ms.length-(512-d.length))) ah/\C o (av [G,E]) [ah,E] w):=by
 obtain⟨b,v0,d,K,J,rfl,rfl,aq,ap,rfl⟩:=h.open
 obtain⟨ms,rfl,g,f,rfl,Y,N⟩:=am
 obtain⟨A,dQ,rfl,aJ,aK⟩:=Y.form
 rw [fy] at aC
 simp only [fy]
 obtain⟨s,X⟩:∃s,s=av [fd b v0 lost++(K++J),g++f]:=⟨_,j⟩
 rw [<-X]
 have c:C o s [fd b v0 lost++(K++J),g++f] o:=X▸c
 have c:=c.Ac
 have hlen:∀q∈ms,q.cs.length=39:=λq W=>q.bY (N.tag q W)
 refine a1 [Z b,.slice A ms.length dQ] func76 ntmps76 results76 ?_
 refine cY 20 j (cA:=Nat×Nat×Nat×Value×List Chunk×List Chunk×List aB) (λi=>[(0,Z b),(5,.int .i64 (i.2.1:Nat)),(10,.slice A ms.length dQ),(11,.int .i64 (ms.length:Nat)),(12,.int .i64 (i.1:Nat))])
  (λi w=>i.1<=ms.length/\i.2.1=min i.1 (512-d.length)/\i.2.2.1=lost+(i.1-i.2.1)/\Row 94 39 i.2.2.2.1 i.2.2.2.2.2.2.length (fN i.2.2.2.2.2.2) i.2.2.2.2.1/\fx i.2.2.2.2.2.2 i.2.2.2.2.2.1/\i.2.2.2.2.2.2.map aB.P=d.map aB.P++(ms.map aB.P).take i.2.1/\C o s [fd b i.2.2.2.1 (i.2.2.1:Nat),i.2.2.2.2.1,i.2.2.2.2.2.1,g++f] w) (λi=>ms.length-i.1) (0,0,lost,v0,K,J,d) ⟨j,j,j,j,j,ba⟩ ⟨ch _,by simp,by simp,aq,ap,by simp,c.as⟩ ?_
 rintro⟨i,n,m,v,ak,aA,l⟩ w ⟨ay,aP,R,H,y,u,c⟩
 dsimp only at ay aP R H y u c⊢
 refine aT 4 j j (λL=>?_) (λL=>?_)
 .have t:i<ms.length:=by have:=br L;omega
  have I:=hlen ms[i] (ek t)
  obtain⟨_,_,e,_,_,ai,_⟩:=Y.read (C.holds c (G:=g++f) (by simp)).left
  cases e
  obtain⟨aH,rfl⟩:∃a,A=some a:=by obtain⟨a,ax,_⟩:=ai (i*39+0) (ab ms[i].k) (iC ms hlen i t (by decide) (by simp [aB.cs]));exact⟨a,ax⟩
  obtain⟨V,T⟩:=N.read (C.holds c (G:=g++f) (by simp)).right ms[i] (ek t)
  refine ar 5 j (pw j j j j (by omega) (by omega) ?_)
  refine bS 0 (U:=ms[i].cs) j j I (jE ai hlen i t) (cn 0 c j (λx w c=>c5 (c.bf x) j j j (by simpa using ms[i].one) (by rw [List.size_toArray];exact I) (by decide) (λw c=>?_)))
  have c:=C.whole (U:=ms[i].cs) c (by rw [I];rfl)
  have c:C o s [bi x ms[i],fd b v m,ak,aA,g++f] w:=c.as
  have c:=c.drew
  refine bz 1 j (λw=>∃ae,C o s ([bi x ms[i]]++ae) w) ⟨_,c⟩ (af 0 3 j (aV 3 j (λw⟨_,c⟩=>dc (U:=ms[i].cs) j j I (bq (C.aj c))) (aW 4 j ?_)))
  obtain⟨V,T⟩:=N.read (C.holds c (G:=g++f) (by simp)).right ms[i] (ek t)
  have O:=xo V T
  refine cN j j j O (λr w⟨q,B,D,aE,W,ac,ad⟩=>?_)
  subst aE
  have ag:=fw.sk W ac V T
  have c:=c.aN ad
  have c:C o s [bi x ms[i],fd b v m,ak,aA,g++f,B,D] w:=c.as
  refine an ⟨⟨_,c⟩,?_⟩
  refine aW 5 j ?_
  have O:=zC (b:=b) (lost:=(m:Int)) H y ag c.ours
  refine bF j j j O (λw⟨v1,F,z,ad⟩=>?_)
  have c:=c.b4 ad
  have c:C o s [bi x ms[i],fd b v1 m,F,aA,g++f,B,D] w:=c.as
  refine an ⟨⟨_,c⟩,?_⟩
  refine bO (aT 0 j j (λM=>?_) (λM=>?_))
  .refine bt 2 j j j (gh n 1 (by omega)) (bt 2 j j j (gh i 1 (by omega)) (bX 1 j ?_))
   have S:l.length<512:=br M
   rw [a6 S] at z
   have Q:=aL List.length u
   rw [ca,List.length_take,List.length_map,List.length_map,List.length_map] at Q
   have aD:n=i/\i<512-d.length:=by omega
   refine⟨(i+1,n+1,m,v1,F,aA++(B++D),l++[q]),⟨j,j,j,j,j,ba⟩,⟨t,by dsimp only;omega,by dsimp only;omega,?_,y.app (fx.one ag),?_,C.perm (A:=[fd b v1 m,F,aA,B,D,g++f]) c.as (by simp)⟩,by dsimp only;omega⟩
   .dsimp only
    rw [ca,List.length_singleton,qf,show fN [q]=q.cs by simp]
    exact z
   dsimp only
   rw [jP,u,List.append_assoc,aD.1,List.take_add_one]
   simp [t,ac]
  refine au 4 j (aw (C.aj c) j) (bt 0 j j j (gh m 1 (by omega)) (dD 2 (c.bf _) j j j j (λw c=>?_)))
  have c:C o s (fd b v1 (m+1:Nat)::_) w:=c
  have c:C o s [fd b v1 (m+1:Nat),F,aA,g++f] w:=c.as
  refine bt 1 j j j (gh i 1 (by omega)) (bX 1 j ?_)
  have S:¬l.length<512:=bw M
  rw [aF S] at z
  rw [z.1,z.2] at c
  have Q:=aL List.length u
  rw [ca,List.length_take,List.length_map,List.length_map,List.length_map] at Q
  refine⟨(i+1,n,m+1,v,ak,aA,l),⟨j,j,j,j,j,ba⟩,⟨t,by dsimp only;omega,by dsimp only;omega,H,y,u,c⟩,by dsimp only;omega⟩
 refine ao 5 j j ?_
 have az:i=ms.length:=by have:=bw L;omega
 subst az
 have aG:(ms.map aB.P).take n=(ms.map aB.P).take (512-d.length):=by
  rw [aP]
  rcases Nat.le_total ms.length (512-d.length) with h|h
  .rw [mO h,il (by simp),il (by simpa using h)]
  .rw [Nat.min_eq_right h]
 rw [aG] at u
 have aa:=g2.close (b:=b) (lost:=m) H y
 rw [u,R,show ms.length-n=ms.length-(512-d.length) by omega] at aa
 rw [R,show ms.length-n=ms.length-(512-d.length) by omega] at c
 exact⟨by rw [aP],_,aa,c.Et⟩
abbrev aY.body(m:aY):List UInt8:=et [4,m.k,m.f,m.s,m.v]++(hs m.x++jp m.l)
def aY.may(m:aY):Bool:=fO m.k 1 6&&fO m.f 0 9&&fO m.to 0 9&&fO m.s 0 63&&fO m.v 0 8&&decide (m.x.length<=200)&&decide (m.l.length<=10)&&m.l.all i5
structure aY.cP(m:aY):Prop where
 tag:m.tag.length=32
 aH:∀x∈m.l,x.ok
 x:m.x.length<=200
 l:m.l.length<=10
structure ai where
 am:Int
 slot:Int
 view:Int
 fQ:Int
 dF:List UInt8
 c3:List aG
 want:List UInt8
 props:List (Int×aY)
 dg:List (List UInt8)
 cT:List (Int×List aG)
 ax:List (Int×List aG)
 dh:List (Int×List (Int×aY))
 hO:Int
 comm:Int
 prop:Int
 value:List UInt8
 dI:List aG
 dec:Bool
def ai.new(am slot:Int):ai:=⟨am,slot,0,-1,[],[],[],[],[],[],[],[],-1,-1,-1,[],[],false⟩
abbrev al.n(g:al):Nat:=g.keys.length
def ai.leads(g:al)(s:ai)(node view:Int):Bool:=node==(nc s.slot.toNat view.toNat g.n:Nat)
def ai.jn(g:al)(s:ai)(m:aY)(to:Int):aY:={m with f:=s.am,to:=to,s:=s.slot,tag:=g.cu s.am ({m with f:=s.am,to:=to,s:=s.slot}:aY).body}
def mo(am:Int)(n:Nat):List Int:=((List.range n).map λi:Nat=>(i:Int)).filter λi=>i !=am
def ai.all(g:al)(s:ai)(m:aY):List aY:=(mo s.am g.n).map λto=>s.jn g m to
def oN(l:List aG)(sum:List UInt8)(f:Int):Bool:=l.any λv=>v.sum==sum&&v.f==f
def iR(l:List aG)(v:aG):List aG:=if oN l v.sum v.f then l else l++[v]
def ai.ip(s:ai)(kind view:Int):List aG:=(a2 (if kind=1 then s.cT else s.ax) view).getD []
def ai.counts(s:ai)(v:aG):ai:=if v.k=1 then{s with cT:=cj s.cT v.v (iR (s.ip 1 v.v) v)} else{s with ax:=cj s.ax v.v (iR (s.ip 2 v.v) v)}
def ai.jF(s:ai)(x:List UInt8):ai:=if x∈s.dg then s else{s with dg:=s.dg++[x]}
def ai.fZ(g:al)(s:ai)(m:aY):ai:=if(a2 s.props m.v).isSome|| !s.leads g m.f m.v then s else({s with props:=cj s.props m.v m}:ai).jF m.x
def ai.hR(g:al)(s:ai)(m:aY)(v:aG):Bool:=(v.k==1||v.k==2)&&(v.s==s.slot&&(v.f==m.f&&_root_.Go.Proofs.YtdcbpdlhhkcjnaaGreatDoor.R.cP g v))
def ai.di(g:al)(s:ai)(m:aY):ai:=match m.l with
 |[]=>s
 |v::_=>if s.hR g m v then s.counts v else s
def ai.status(g:al)(s:ai)(m:aY):ai:=if s.leads g s.am m.v then
 {s with dh:=cj s.dh m.v (if(a2 ((a2 s.dh m.v).getD []) m.f).isSome then(a2 s.dh m.v).getD [] else cj ((a2 s.dh m.v).getD []) m.f m)} else s
def ai.gg(s:ai)(x:List UInt8)(l:List aG):ai:={s with value:=x,dI:=l,dec:=true}
def ai.decision(g:al)(s:ai)(m:aY):ai:=match m.l with
 |[]=>s
 |v::_=>if meets g m.l 2 s.slot v.v (bL m.x) then s.gg m.x m.l else s
def ai.mb(g:al)(s:ai)(m:aY):Bool:=m.may&&(m.s==s.slot&&(m.f !=s.am&&g.check m.f m.body m.tag))
def jU(l:List aG):List aG:=l.mergeSort λa b=>decide (a.f<=b.f)
def e8(l:List aG)(sum:List UInt8):List aG:=l.filter λv=>v.sum==sum
def ai.fl(g:al)(s:ai)(b:List aG):Option (List UInt8×List aG):=s.dg.findSome? λx=>if h8 g.n<=(jU (e8 b (bL x))).length then some (x,jU (e8 b (bL x))) else none
def ai.aH(g:al)(s:ai)(kind:Int)(x:List UInt8):ai×List aY:=
 (s.counts (cU g kind s.slot s.view (bL x) s.am),s.all g ⟨3,0,0,0,s.view,[],[cU g kind s.slot s.view (bL x) s.am],cK⟩)
def ai.gQ(g:al)(s:ai):Option (ai×List aY):=((db s.ax).findSome? λp=>s.fl g p.2).map λy=>(s.gg y.1 y.2,[])
def ai.gt(g:al)(s:ai):Option (ai×List aY):=match a2 s.props s.view with
 |none=>none
 |some m=>if s.hO>=s.view then none else if _root_.Go.Proofs.YtdcbpdlhhkcjnaaGreatDoor.R.may g s.fQ s.dF s.slot s.view m.x m.l then some (({s with hO:=s.view}:ai).aH g 1 m.x) else none
def ai.gX(g:al)(s:ai):Option (ai×List aY):=if s.comm>=s.view then none else
 match s.fl g (s.ip 1 s.view) with
 |none=>none
 |some y=>some (({s with comm:=s.view,fQ:=s.view,dF:=y.1,c3:=y.2}:ai).aH g 2 y.1)
def iD(g:al)(slot view:Int)(l:List (Int×aY)):Int×List UInt8×List aG:=l.foldl (λk p=>k4 g slot view k.2.1 k.2.2 p.2.x p.2.l) (-1,[],[])
def ai.gN(g:al)(s:ai):Option (List UInt8×List aG):=
 if 0<s.view then
  match a2 s.dh s.view with
  |none=>none
  |some l=>if(a2 l s.am).isSome&&decide (h8 g.n<=l.length) then
   (if(iD g s.slot s.view (db l)).1>=0 then some (iD g s.slot s.view (db l)).2 else if 0<s.want.length then some (s.want,[]) else none)
   else none
 else if 0<s.want.length then some (s.want,[]) else none
def ai.gP(g:al)(s:ai):Option (ai×List aY):=if s.leads g s.am s.view=false\/s.prop>=s.view then none else
 match s.gN g with
 |none=>none
 |some y=>some (({s with prop:=s.view}:ai).fZ g (s.jn g ⟨2,0,0,0,s.view,y.1,y.2,cK⟩ s.am),s.all g ⟨2,0,0,0,s.view,y.1,y.2,cK⟩)
def ai.step(g:al)(s:ai):Option (ai×List aY):=match s.gQ g with
 |some r=>some r
 |none=>match s.gt g with
  |some r=>some r
  |none=>match s.gX g with
   |some r=>some r
   |none=>s.gP g
def ai.left(s:ai):Nat:=(if s.dec then 0 else 1)+(if s.hO<s.view then 1 else 0)+(if s.comm<s.view then 1 else 0)+(if s.prop<s.view then 1 else 0)
def ai.go(g:al):Nat->ai->List aY->ai×List aY
 |0,s,l=>(s,l)
 |n+1,s,l=>if s.dec then(s,l) else match s.step g with
  |none=>(s,l)
  |some (eN,b0)=>ai.go g n eN (l++b0)
def ai.steps(g:al)(s:ai):ai×List aY:=ai.go g 5 s []
def ai.fh(g:al)(s:ai)(m:aY):ai:=if m.k=2 then s.fZ g m else if m.k=3 then s.di g m else if m.k=4 then s.status g m else if m.k=5 then s.decision g m else s
def ai.take(g:al)(s:ai)(m:aY):ai×List aY:=if s.dec|| !s.mb g m then(s,[]) else(s.fh g m).steps g
def ai.hS(g:al)(s:ai)(x:List UInt8):ai×List aY:=if s.dec then(s,[]) else(if 0<x.length/\x.length<=200 then{s with want:=x} else s:ai).steps g
def ai.gl(g:al)(s:ai):ai×List aY:=
 let s1:ai:={s with view:=s.view+1}
 let m:aY:=⟨4,0,0,0,s.view+1,s.dF,s.c3,cK⟩
 let to:Int:=(nc s.slot.toNat (s.view+1).toNat g.n:Nat)
 if to=s.am then(s1.status g (s1.jn g m to),[]) else(s1,[s1.jn g m to])
def ai.tick(g:al)(s:ai):ai×List aY:=if s.dec||decide (s.view>=8) then(s,[]) else
 (((s.gl g).1.steps g).1,(s.gl g).2++((s.gl g).1.steps g).2)
structure fD(g:al)(N:Nat)(l:List aG):Prop where
 len:l.length<=N
 ok:∀v∈l,v.ok
 cP:∀v∈l,_root_.Go.Proofs.YtdcbpdlhhkcjnaaGreatDoor.R.cP g v=true
 apart:l.Pairwise λa b=>¬(a.sum=b.sum/\a.f=b.f)
structure ai.ok(g:al)(N:Nat)(s:ai):Prop where
 am:0<=s.am/\s.am<g.n
 slot:0<=s.slot/\s.slot<=63
 view:0<=s.view/\s.view<=8
 dF:s.dF.length<=200
 c3:s.c3.length<=10
 k9:∀x∈s.c3,x.ok
 want:s.want.length<=200
 props:s.props.length<=N
 sz:∀p∈s.props,p.2.cP
 dg:s.dg.length<=N
 pd:∀x∈s.dg,x.length<=200
 cT:s.cT.length<=N
 lA:∀p∈s.cT,fD g N p.2
 ax:s.ax.length<=N
 jT:∀p∈s.ax,fD g N p.2
 dh:s.dh.length<=N
 mz:∀p∈s.dh,p.2.length<=N/\∀q∈p.2,q.2.cP
 value:s.value.length<=200
 dI:s.dI.length<=10
 qW:∀x∈s.dI,x.ok
theorem fD.more{g:al}{N M:Nat}{l:List aG}(h:fD g N l)(a:N<=M):fD g M l:=⟨ed h.len a,h.ok,h.cP,h.apart⟩
theorem fD.nil(g:al)(N:Nat):fD g N []:=⟨by simp,by simp,by simp,by simp⟩
theorem ai.ok.more{g:al}{N M:Nat}{s:ai}(h:s.ok g N)(a:N<=M):s.ok g M:=
 {h with props:=ed h.props a,dg:=ed h.dg a,cT:=ed h.cT a,lA:=λp b=>(h.lA p b).more a,ax:=ed h.ax a,jT:=λp b=>(h.jT p b).more a,dh:=ed h.dh a,mz:=λp b=>⟨ed (h.mz p b).1 a,(h.mz p b).2⟩}
theorem mi{β:Type}:∀(m:List (Int×β))(k:Int)(v:β),(cj m k v).length<=m.length+1
 |[],_,_=>by simp [cj]
 |(J,u)::r,k,v=>by
  simp only [cj]
  split
  .simp
  .have:=mi r k v;simp only [ep];omega
theorem i0{β:Type}:∀{m:List (Int×β)}{k:Int}{v:β}{p:Int×β},p∈cj m k v->p∈m\/p=(k,v)
 |[],k,v,p,h=>by simp [cj] at h;exact .inr h
 |(J,u)::r,k,v,p,h=>by
  simp only [cj] at h
  split at h
  .rcases gd.1 h with h|h
   .exact .inr h
   .exact .inl (lr _ h)
  .rcases gd.1 h with h|h
   .exact .inl (h▸of)
   .rcases i0 h with h|h
    .exact .inl (lr _ h)
    .exact .inr h
theorem hN{β:Type}{m:List (Int×β)}{k:Int}{v:β}(h:a2 m k=some v):(k,v)∈m:=by
 rcases nT m k with⟨a,_⟩|⟨J,u,a,b,_⟩
 .rw [a] at h;cases h
 .rw [a] at h;cases h;exact hZ b
theorem fD.sj{g:al}{N:Nat}{b:List (Int×List aG)}(h:∀p∈b,fD g N p.2)(k:Int):fD g N ((a2 b k).getD []):=by
 cases ad:a2 b k with
 |none=>exact fD.nil g N
 |some l=>exact h _ (hN ad)
theorem ai.ok.ip{g:al}{N:Nat}{s:ai}(h:s.ok g N)(kind view:Int):fD g N (s.ip kind view):=by
 unfold ai.ip
 split
 .exact fD.sj h.lA view
 .exact fD.sj h.jT view
theorem fD.iR{g:al}{N:Nat}{l:List aG}{v:aG}(h:fD g N l)(j:v.ok)(i:_root_.Go.Proofs.YtdcbpdlhhkcjnaaGreatDoor.R.cP g v=true):fD g (N+1) (iR l v):=by
 unfold _root_.Go.Proofs.YtdcbpdlhhkcjnaaGreatDoor.R.iR
 split
 .exact h.more (eo _)
 .rename_i aP
  refine⟨by rw [ca,List.length_singleton];have:=h.len;omega,?_,?_,?_⟩
  .intro x c
   rcases dA.1 c with c|c
   .exact h.ok x c
   .rw [gb.1 c];exact j
  .intro x c
   rcases dA.1 c with c|c
   .exact h.cP x c
   .rw [gb.1 c];exact i
  .refine List.pairwise_append.2 ⟨h.apart,by simp,λa e b f d=>aP ?_⟩
   rw [gb.1 f] at d
   exact kf.2 ⟨a,e,by simp [d.1,d.2]⟩
theorem ai.ok.counts{g:al}{N:Nat}{s:ai}{v:aG}(h:s.ok g N)(d:v.ok)(c:_root_.Go.Proofs.YtdcbpdlhhkcjnaaGreatDoor.R.cP g v=true):(s.counts v).ok g (N+1):=by
 unfold ai.counts
 have a:=h.more (eo N)
 split
 .exact{a with cT:=ed (mi _ _ _) (pI h.cT),lA:=λp b=>(i0 b).elim (a.lA p) (λe=>by rw [e];exact(h.ip 1 v.v).iR d c)}
 .exact{a with ax:=ed (mi _ _ _) (pI h.ax),jT:=λp b=>(i0 b).elim (a.jT p) (λe=>by rw [e];exact(h.ip 2 v.v).iR d c)}
theorem ai.ok.jF{g:al}{N:Nat}{s:ai}{x:List UInt8}(h:s.ok g (N+1))(c:s.dg.length<=N)(a:x.length<=200):(s.jF x).ok g (N+1):=by
 unfold ai.jF
 split
 .exact h
 .exact{h with dg:=by simp only [ca,List.length_singleton];omega,pd:=λy b=>(List.mem_append.1 b).elim (h.pd y) (λe=>by rw [List.mem_singleton.1 e];exact a)}
theorem ai.ok.fZ{g:al}{N:Nat}{s:ai}{m:aY}(h:s.ok g N)(hm:m.cP):(s.fZ g m).ok g (N+1):=by
 unfold ai.fZ
 have a:=h.more (eo N)
 split
 .exact a
 .have b:ai.ok g (N+1) ({s with props:=cj s.props m.v m}:ai):=
   {a with props:=ed (mi _ _ _) (pI h.props),sz:=λp c=>(i0 c).elim (a.sz p) (λe=>by rw [e];exact hm)}
  exact b.jF h.dg hm.x
theorem ai.ok.di{g:al}{N:Nat}{s:ai}{m:aY}(h:s.ok g N)(hm:m.cP):(s.di g m).ok g (N+1):=by
 unfold ai.di
 have b:=h.more (eo N)
 split
 .exact b
 .rename_i v r c
  split
  .rename_i a
   refine h.counts (hm.aH v (by rw [c];simp)) ?_
   unfold ai.hR at a
   simp only [d8] at a
   exact a.2.2.2
  .exact b
theorem ai.ok.status{g:al}{N:Nat}{s:ai}{m:aY}(h:s.ok g N)(hm:m.cP):(s.status g m).ok g (N+1):=by
 unfold ai.status
 have b:=h.more (eo N)
 have a:((a2 s.dh m.v).getD []).length<=N/\∀q∈(a2 s.dh m.v).getD [],q.2.cP:=by
  cases ad:a2 s.dh m.v with
  |none=>exact⟨by simp,by simp⟩
  |some l=>exact h.mz _ (hN ad)
 split
 .refine{b with dh:=ed (mi _ _ _) (pI h.dh),mz:=λp c=>(i0 c).elim (b.mz p) (λe=>?_)}
  rw [e]
  dsimp only
  split
  .exact⟨ed a.1 (eo _),a.2⟩
  .exact⟨ed (mi _ _ _) (pI a.1),λq d=>(i0 d).elim (a.2 q) (λe=>by rw [e];exact hm)⟩
 .exact b
theorem ai.ok.gg{g:al}{N:Nat}{s:ai}{x:List UInt8}{l:List aG}(h:s.ok g N)(c:x.length<=200)(a:l.length<=10)(b:∀x∈l,x.ok):(s.gg x l).ok g N:=
 {h with value:=c,dI:=a,qW:=b}
theorem ai.ok.decision{g:al}{N:Nat}{s:ai}{m:aY}(h:s.ok g N)(hm:m.cP):(s.decision g m).ok g N:=by
 unfold ai.decision
 split
 .exact h
 .split
  .exact h.gg hm.x hm.l hm.aH
  .exact h
theorem qr:∀(n:Nat)(l:List Int),l.Nodup->(∀i∈l,0<=i/\i<n)->l.length<=n
 |0,l,_,h=>by
  cases l with
  |nil=>simp
  |cons a r=>have:=h a (by simp);omega
 |n+1,l,aP,h=>by
  have p:=qr n (l.filter λi=>decide (i≠(n:Int))) (aP.filter _) (λi f=>by
   have e:=hL.1 f
   have m:=h i e.1
   have c:i≠(n:Int):=by simpa using e.2
   omega)
  have e:l.length<=(l.filter λi=>decide (i≠(n:Int))).length+1:=by
   have m:(l.filter λi=>decide (i=(n:Int))).length<=1:=by
    have c:(l.filter λi=>decide (i=(n:Int))).Nodup:=aP.filter _
    have d:∀i∈l.filter (λi=>decide (i=(n:Int))),i=(n:Int):=λi f=>by simpa using(List.mem_filter.1 f).2
    generalize l.filter (λi=>decide (i=(n:Int)))=z at c d
    match z,c,d with
    |[],_,_=>simp
    |[_],_,_=>simp
    |a::b::r,c,d=>
     have k:=d a (by simp)
     have az:=d b (by simp)
     simp [k,az] at c
   have o:∀z:List Int,z.length=(z.filter λi=>decide (i≠(n:Int))).length+(z.filter λi=>decide (i=(n:Int))).length:=by
    intro z
    induction z with
    |nil=>rfl
    |cons a r j=>
     by_cases g:a=(n:Int)
     .simp [om,g];simp at j;omega
     .simp [om,g];simp at j;omega
   have:=o l
   omega
  omega
theorem r4{g:al}{v:aG}(h:_root_.Go.Proofs.YtdcbpdlhhkcjnaaGreatDoor.R.cP g v=true):0<=v.f/\v.f<g.n:=by
 unfold _root_.Go.Proofs.YtdcbpdlhhkcjnaaGreatDoor.R.cP al.check at h
 have:=(d8 _ _▸h).1
 exact br this
theorem xb(g:al)(k s v:Int)(sum:List UInt8){f:Int}(bx:0<=f/\f<g.n):_root_.Go.Proofs.YtdcbpdlhhkcjnaaGreatDoor.R.cP g (cU g k s v sum f)=true:=by
 unfold _root_.Go.Proofs.YtdcbpdlhhkcjnaaGreatDoor.R.cP al.check
 have e:(cU g k s v sum f).lN=aG.lN ⟨k,s,v,sum,f,cK⟩:=rfl
 rw [e]
 have a:(cU g k s v sum f).tag=g.cu f (aG.lN ⟨k,s,v,sum,f,cK⟩):=rfl
 have b:(cU g k s v sum f).f=f:=rfl
 rw [a,b]
 simp only [beq_self_eq_true,Bool.and_true,gL]
 exact bx
theorem vp{g:al}{N:Nat}{l:List aG}(h:fD g N l)(sum:List UInt8):((e8 l sum).map aG.f).Nodup:=by
 unfold e8
 refine tw.2 ?_
 have d:(l.filter λv=>v.sum==sum).Pairwise λa b=>¬(a.sum=b.sum/\a.f=b.f):=h.apart.filter _
 refine List.Pairwise.imp_of_mem (fun{a b}i k j e=>j ⟨?_,e⟩) d
 have c:=(hL.1 i).2
 have az:=(hL.1 k).2
 rw [dX.1 c,dX.1 az]
theorem y9{g:al}{N:Nat}{l:List aG}(h:fD g N l)(sum:List UInt8):(e8 l sum).length<=g.n:=by
 have:=qr g.n ((e8 l sum).map aG.f) (vp h sum) (λi a=>by
  obtain⟨v,b,rfl⟩:=dT.1 a
  exact r4 (h.cP v (hL.1 b).1))
 simpa using this
theorem CE(l:List aG):(jU l).length=l.length:=hM _
theorem ub{l:List aG}{v:aG}:v∈jU l↔v∈l:=gS
theorem ai.ok.fl{g:al}{N:Nat}{s:ai}{b:List aG}{y:List UInt8×List aG}(h:s.ok g N)(d:g.ok)(c:fD g N b)(he:s.fl g b=some y):y.1.length<=200/\y.2.length<=10/\∀v∈y.2,v.ok:=by
 obtain⟨x,f,a⟩:=pJ he
 split at a
 .cases a
  refine⟨h.pd x f,?_,λv e=>c.ok v (hL.1 (ub.1 e)).1⟩
  dsimp only
  rw [CE]
  exact ed (y9 c _) d.n10
 .cases a
theorem ai.ok.aH{g:al}{N:Nat}{s:ai}(h:s.ok g N)(kind:Int)(x:List UInt8):(s.aH g kind x).1.ok g (N+1):=
 h.counts (iU _ _ _ _ _ _ (e4 _)) (xb _ _ _ _ _ h.am)
theorem ai.ok.gQ{g:al}{N:Nat}{s:ai}{r:ai×List aY}(h:s.ok g N)(b:g.ok)(a:s.gQ g=some r):r.1.ok g N:=by
 unfold ai.gQ at a
 cases bx:(db s.ax).findSome? λp=>s.fl g p.2 with
 |none=>rw [bx] at a;cases a
 |some y=>
  rw [bx] at a
  cases a
  obtain⟨p,c,d⟩:=pJ bx
  have:=h.fl b (h.jT p (gS.1 c)) d
  exact h.gg this.1 this.2.1 this.2.2
theorem ai.ok.gt{g:al}{N:Nat}{s:ai}{r:ai×List aY}(h:s.ok g N)(a:s.gt g=some r):r.1.ok g (N+1):=by
 unfold ai.gt at a
 split at a
 .cases a
 .split at a
  .cases a
  .split at a
   .cases a
    exact ai.ok.aH (s:={s with hO:=s.view}) {h with} 1 _
   .cases a
theorem ai.ok.gX{g:al}{N:Nat}{s:ai}{r:ai×List aY}(h:s.ok g N)(b:g.ok)(a:s.gX g=some r):r.1.ok g (N+1):=by
 unfold ai.gX at a
 split at a
 .cases a
 .split at a
  .cases a
  .rename_i y he
   cases a
   have:=h.fl b (h.ip 1 s.view) he
   exact ai.ok.aH (s:={s with comm:=s.view,fQ:=s.view,dF:=y.1,c3:=y.2}) {h with dF:=this.1,c3:=this.2.1,k9:=this.2.2} 2 _
theorem zy{g:al}{slot below:Int}{x:List UInt8}{l:List aG}(c:x.length<=200)(a:l.length<=10)(b:∀v∈l,v.ok):(kq g slot below x l).2.1.length<=200/\(kq g slot below x l).2.2.length<=10/\∀v∈(kq g slot below x l).2.2,v.ok:=by
 unfold kq
 split
 .exact⟨c,a,b⟩
 .exact⟨by simp,by simp,by simp⟩
theorem yb{g:al}{slot view:Int}{l:List (Int×aY)}(h:∀p∈l,p.2.cP):(iD g slot view l).2.1.length<=200/\(iD g slot view l).2.2.length<=10/\∀v∈(iD g slot view l).2.2,v.ok:=by
 unfold iD
 have key:∀(l:List (Int×aY))(k:Int×List UInt8×List aG),(∀p∈l,p.2.cP)->(k.2.1.length<=200/\k.2.2.length<=10/\∀v∈k.2.2,v.ok)->
  (l.foldl (λk p=>k4 g slot view k.2.1 k.2.2 p.2.x p.2.l) k).2.1.length<=200/\(l.foldl (λk p=>k4 g slot view k.2.1 k.2.2 p.2.x p.2.l) k).2.2.length<=10/\∀v∈(l.foldl (λk p=>k4 g slot view k.2.1 k.2.2 p.2.x p.2.l) k).2.2,v.ok:=by
  intro l
  induction l with
  |nil=>intro k _ ad;exact ad
  |cons p r d=>
   intro k b ad
   refine d _ (λq c=>b q (by simp [c])) ?_
   have a:=b p (by simp)
   unfold k4
   dsimp only
   split
   .exact zy a.x a.l a.aH
   .exact zy ad.1 ad.2.1 ad.2.2
 exact key l _ h ⟨by simp,by simp,by simp⟩
theorem ai.ok.gN{g:al}{N:Nat}{s:ai}{y:List UInt8×List aG}(h:s.ok g N)(a:s.gN g=some y):y.1.length<=200/\y.2.length<=10/\∀v∈y.2,v.ok:=by
 unfold ai.gN at a
 have hw:∀y:List UInt8×List aG,(if 0<s.want.length then some (s.want,([]:List aG)) else none)=some y->y.1.length<=200/\y.2.length<=10/\∀v∈y.2,v.ok:=λy b=>by
  split at b
  .cases b;exact⟨h.want,by simp,by simp⟩
  .cases b
 split at a
 .split at a
  .cases a
  .rename_i l c
   split at a
   .split at a
    .cases a
     exact yb (λp d=>(h.mz _ (hN c)).2 p (gS.1 d))
    .exact hw y a
   .cases a
 .exact hw y a
theorem ai.nn{g:al}{s:ai}{m:aY}{to:Int}(c:m.x.length<=200)(a:m.l.length<=10)(b:∀v∈m.l,v.ok):(s.jn g m to).cP:=⟨al.ea _ _ _,b,c,a⟩
theorem ai.ok.gP{g:al}{N:Nat}{s:ai}{r:ai×List aY}(h:s.ok g N)(a:s.gP g=some r):r.1.ok g (N+1):=by
 unfold ai.gP at a
 split at a
 .cases a
 .split at a
  .cases a
  .rename_i y b
   cases a
   have:=h.gN b
   exact ai.ok.fZ (s:={s with prop:=s.view}) {h with} (ai.nn this.1 this.2.1 this.2.2)
theorem ai.ok.step{g:al}{N:Nat}{s:ai}{r:ai×List aY}(h:s.ok g N)(b:g.ok)(a:s.step g=some r):r.1.ok g (N+1):=by
 unfold ai.step at a
 split at a
 .rename_i e;cases a;exact(h.gQ b e).more (eo _)
 .split at a
  .rename_i e;cases a;exact h.gt e
  .split at a
   .rename_i e;cases a;exact h.gX b e
   .exact h.gP a
theorem ai.ok.go{g:al}(a:g.ok):∀(k:Nat){N:Nat}{s:ai}{l:List aY},s.ok g N->(ai.go g k s l).1.ok g (N+k)
 |0,_,_,_,h=>h
 |k+1,N,s,l,h=>by
  unfold ai.go
  split
  .exact h.more (by omega)
  .split
   .exact h.more (by omega)
   .rename_i eN b0 e
    have:=ai.ok.go a k (l:=l++b0) (h.step a e)
    rw [show N+(k+1)=N+1+k by omega]
    exact this
theorem ai.ok.steps{g:al}{N:Nat}{s:ai}(h:s.ok g N)(a:g.ok):(s.steps g).1.ok g (N+5):=ai.ok.go a 5 h
theorem ai.ok.fh{g:al}{N:Nat}{s:ai}{m:aY}(h:s.ok g N)(hm:m.cP):(s.fh g m).ok g (N+1):=by
 unfold ai.fh
 repeat' split
 .exact h.fZ hm
 .exact h.di hm
 .exact h.status hm
 .exact(h.decision hm).more (eo _)
 .exact h.more (eo _)
theorem ai.ok.take{g:al}{N:Nat}{s:ai}{m:aY}(h:s.ok g N)(a:g.ok)(hm:m.cP):(s.take g m).1.ok g (N+6):=by
 unfold ai.take
 split
 .exact h.more (by omega)
 .exact(h.fh hm).steps a
theorem ai.ok.hS{g:al}{N:Nat}{s:ai}{x:List UInt8}(h:s.ok g N)(a:g.ok):(s.hS g x).1.ok g (N+5):=by
 unfold ai.hS
 split
 .exact h.more (by omega)
 .split
  .rename_i b
   exact ai.ok.steps (s:={s with want:=x}) {h with want:=b.2} a
  .exact h.steps a
theorem ai.ok.gl{g:al}{N:Nat}{s:ai}(h:s.ok g N)(b:s.view<8):(s.gl g).1.ok g (N+1):=by
 unfold ai.gl
 have a:ai.ok g N ({s with view:=s.view+1}:ai):={h with view:=⟨show 0<=s.view+1 by have:=h.view;omega,show s.view+1<=8 by omega⟩}
 dsimp only
 split
 .exact a.status (ai.nn h.dF h.c3 h.k9)
 .exact a.more (eo _)
theorem ai.ok.tick{g:al}{N:Nat}{s:ai}(h:s.ok g N)(a:g.ok):(s.tick g).1.ok g (N+6):=by
 unfold ai.tick
 split
 .exact h.more (by omega)
 .rename_i aP
  have b:s.view<8:=by simp at aP;omega
  exact(h.gl b).steps a
def aB.s8(m:aB):List UInt8:=et [1,m.k,m.f,m.to,m.s,m.v]++(hs m.x++(jp m.l++m.tag))
theorem aB.rP(m:aB):∀i u,(aE m.tag)[i]? =some u->m.cs.toArray[0+7+i]? =some u:=λi u hu=>by
 rw [show 0+7+i=i+1+1+1+1+1+1+1 by omega]
 simp only [aB.cs,mY,nF]
 exact hu
theorem xC{o:World}{m:aB}(hm:m.ok o):Calls prog 144 #[.agg m.cs.toArray] o (aS λr w=>∃v G,r= .tuple #[v,.int .i64 (if i1 m then 0 else 1)]/\dN v (if i1 m then m.s8 else []) G/\C o [] [G] w):=by
 have a:Own [] o:=C.start o
 refine a1 [.agg m.cs.toArray] func144 ntmps144 results144 ?_
 refine bP 2 a j j (λax w a=>?_)
 refine bS 5 (U:=m.cs) j j (m.len hm) (zI a) ?_
 have g:=Em (hm.st a)
 refine bp 0 g j (λw ad=>?_)
 have a:=a.aN ad
 refine aT 1 j j (λdw=>?_) (λdw=>?_)
 .refine ao 4 j j ?_
  have p:i1 m=false:=by simpa using dw
  rw [p]
  exact⟨_,[],j,Row.nil _ _,a.bare.empty⟩
 refine cn 3 a j (λq w a=>?_)
 have a:C o [] (eZ q (.slice none 0 0)::_) w:=a
 have p:i1 m=true:=by simpa using dw
 have N:m.x.length<=200/\m.l.length<=10:=by
  have h:=p
  unfold i1 at h
  simp only [d8,gL] at h
  omega
 refine au 3 j (a.f1.cell m.gU) ?_
 refine au 1 j (a.f1.cell m.aZ) ?_
 refine au 1 j (a.f1.cell m.dn) ?_
 refine au 1 j (a.f1.cell m.gC) ?_
 refine au 1 j (a.f1.cell m.fA) ?_
 refine fe a j j j j j j bR (λK w a=>?_)
 have aP:=a.bN
 have y:=a.iS (off:=0) (sp:=none) (U:=[1,m.k,m.f,m.to,m.s,m.v].map ab)
 have a:=a.f1.empty.f1
 have g:=ld (aD:=[]) (dB:=[1,m.k,m.f,m.to,m.s,m.v]) (c:=6) a.cE (Row.nil _ _) aP (y.kR (by simp) (λb E=>fB (fs:=[eZ q (.slice none 0 0)]) (by simp) b (by simpa [av] using E))) (by simp)
 refine bp 0 g j (λw⟨v1,n,i,ad⟩=>?_)
 have a:=a.cD ad
 rw [kB] at i
 have H:=gq [1,m.k,m.f,m.to,m.s,m.v]
 simp only [ep,ga] at H
 refine au 3 j (a.f3.cell m.ge) ?_
 refine fe a j j j j j j bR (λt w a=>?_)
 have I:=a.bN
 have z:=a.iS (off:=0) (sp:=none) (U:=[.slice m.A m.x.length m.c])
 have a:=a.f1.f2.f1
 have D:=a.apart hm.x (bU.of_nil _ _)
 have F:kV w (some ⟨t,0,none⟩) [m.x] (av [eZ q v1,n]):=kV.one I j (z.sub (fB (by simp))) (a.rd hm.x (bU.of_nil _ _)) (D.sub (fB (by simp)))
 have g:=uc (c:=1) a.cE i F (by simp only [i6,jO,rk,List.sum_cons,List.sum_nil];omega)
 refine bp 0 g j (λw⟨v1,n,i,ad⟩=>?_)
 have a:=a.cD ad
 rw [show jC [m.x]=hs m.x from by simp [jC]] at i
 have L:=jB m.x (by omega)
 refine au 3 j (a.f4.cell m.eV) ?_
 have B:=a.apart hm.l (bU.of_nil _ _)
 have g:=zU (d:=m.d) a.cE i (a.rd hm.l (bU.of_nil _ _)) (B.sub (fB (by simp))) hm.aH (by omega) (by simp only [ca];omega)
 refine bp 0 g j (λw⟨v1,n,i,ad⟩=>?_)
 have a:=a.cD ad
 have M:=lm m.l hm.aH
 refine ar 3 j (mI j j j ?_)
 have J:=a.f4.i3 (off:=0+7) (U:=aE m.tag) m.rP
 have g:=qB (c:=32) a.cE i J (by simp only [ca,hm.tag];omega)
 rw [hm.tag] at g
 refine bp 0 g j (λw⟨v1,n,i,ad⟩=>?_)
 have a:=a.cD ad
 have g:=qw a.cE i (by simp only [ca,hm.tag];omega)
 refine bm 2 g j (λr w⟨G,u,ad⟩=>?_)
 have a:=(a.cD ad).h3
 refine ao 2 j j ?_
 rw [p]
 refine⟨_,G,j,?_,a⟩
 have e:m.s8=et [1,m.k,m.f,m.to,m.s,m.v]++hs m.x++jp m.l++m.tag:=by simp [aB.s8,dH]
 show dN _ m.s8 G
 rw [e]
 exact u
def hT:List Value->List (List UInt8)->List Chunk->Prop
 |[],[],G=>G=[]
 |u::us,x::l,G=>∃ah aA,G=ah++aA/\dN u x ah/\hT us l aA
 |[],_::_,_=>False
 |_::_,[],_=>False
def gm(v:Value)(l:List (List UInt8))(G:List Chunk):Prop:=∃ak H us,G=ak++H/\Row 30 1 v l.length us ak/\hT us l H
def ie(v:Value)(l:List aG)(G:List Chunk):Prop:=∃b u ak,v=Z b/\ej u l ak/\G=(b,.cells #[u] 384 (0,0))::ak
abbrev i8(v:Value)(t:List (Int×aY))(G:List Chunk):Prop:=fp 288 j9 v t G
structure eT where
 dF:Value
 c3:Value
 want:Value
 props:Value
 dg:Value
 cT:Value
 ax:Value
 dh:Value
 value:Value
 dI:Value
abbrev j4(g:al)(s:ai)(c:eT):List Value:=[g.p,ab s.am,ab s.slot,ab s.view,ab s.fQ,c.dF,c.c3,c.want,c.props,c.dg,c.cT,c.ax,c.dh,ab s.hO,ab s.comm,ab s.prop,c.value,c.dI,.bool s.dec]
abbrev bg(g:al)(aq:Nat)(s:ai)(c:eT):List Chunk:=R aq (j4 g s c).toArray 285
structure tt(s:ai)(c:eT)(ah aA bn cv cb bZ bW cc b8 b7:List Chunk):Prop where
 dF:dN c.dF s.dF ah
 c3:ej c.c3 s.c3 aA
 want:dN c.want s.want bn
 props:i8 c.props s.props cv
 dg:gm c.dg s.dg cb
 cT:fp 329 ie c.cT s.cT bZ
 ax:fp 329 ie c.ax s.ax bW
 dh:fp 326 i8 c.dh s.dh cc
 value:dN c.value s.value b8
 dI:ej c.dI s.dI b7
theorem zD{o:World}{aq:Nat}{g:al}{s:ai}{c:eT}(a:o.heap[aq]? =some (.cells (j4 g s c).toArray 285 (0,0)))(b:g.at o)(d:g.ok):Calls prog 299 #[Z aq] o (aS λr w=>r= .int .i64 (h8 g.n:Nat)/\w=o):=by
 refine a1 [Z aq] func299 ntmps299 results299 (au 8 j (aw a j) (bp 0 (ml b) j (λw hw=>?_)))
 subst hw
 refine bp 0 (zE (by have:=d.n10;omega)) j (λw hw=>?_)
 subst hw
 refine ao 1 j j ?_
 exact⟨j,j⟩
theorem uZ{o:World}{aq:Nat}{g:al}{s:ai}{c:eT}(b:o.heap[aq]? =some (.cells (j4 g s c).toArray 285 (0,0)))(f:g.at o)(e:g.ok){node view:Int}(aM:0<=s.slot/\s.slot<=63)(h:0<=view/\view<=8):Calls prog 230 #[Z aq,ab node,ab view] o (aS λr w=>r= .bool (s.leads g node view)/\C o [] [] w):=by
 have a:Own [] o:=C.start o
 refine a1 [Z aq,ab node,ab view] func230 ntmps230 results230 ?_
 have a:=a.drew
 refine bz 4 j (λw=>∃ae,C o [] ae w) ⟨_,a⟩ (af 0 4 j (bT 4 j (λw⟨_,a⟩=>aw (a.cd b) j) (af 5 4 j (bT 9 j (λw⟨_,a⟩=>aw (a.cd b) j) (aW 10 j (bF j j j (ml (f.st a (al.off.nil g))) (λw hw=>?_)))))))
 subst hw
 refine an ⟨⟨_,a⟩,?_⟩
 refine aW 11 j ?_
 have d:=yw (o:=o.drew) (s:=s.slot.toNat) (v:=view.toNat) (n:=g.keys.length) (by omega) (by omega) e.h4 (by have:=e.n10;omega)
 rw [show((s.slot.toNat:Nat):Int)=s.slot from pK aM.1,show((view.toNat:Nat):Int)=view from pK h.1] at d
 refine bF j j j d (λw ad=>?_)
 have a:=a.aN ad
 refine an ⟨⟨_,a⟩,?_⟩
 refine af 12 2 j (bO (ao 0 j j ?_))
 exact⟨j,a.bare⟩
theorem aB.G8(m:aB)(x:Int):m.cs.toArray.setIfInBounds 1 (ab x)=({m with f:=x}:aB).cs.toArray:=by
 apply fu
 simp [aB.cs]
theorem aB.Hc(m:aB)(x:Int):m.cs.toArray.setIfInBounds 2 (ab x)=({m with to:=x}:aB).cs.toArray:=by
 apply fu
 simp [aB.cs]
theorem aB.G9(m:aB)(x:Int):m.cs.toArray.setIfInBounds 3 (ab x)=({m with s:=x}:aB).cs.toArray:=by
 apply fu
 simp [aB.cs]
theorem aB.vC(m:aB){w:World}{b:Nat}{e:TypeId}{e2:Nat×Nat}(h:w.heap[b]? =some (.cells m.cs.toArray e e2)):Rd w (some ⟨b,0+7,none⟩) (aE m.tag):=λi v a=>⟨_,j,by
 rw [add_lit]
 refine aw h ?_
 rw [show 0+7+i=i+1+1+1+1+1+1+1 by omega]
 simp only [aB.cs,mY,nF]
 exact a⟩
theorem aB.yJ(m:aB)(h:i1 m=true):m.x.length<=200/\m.l.length<=10:=by
 unfold i1 at h
 simp only [d8,gL] at h
 exact⟨h.1.1.2,h.1.2⟩
theorem aB.o4(m:aB)(t:List UInt8)(h:m.tag.length=t.length):setCells m.cs.toArray 7 (aE t)=({m with tag:=t}:aB).cs.toArray:=
 G1 [ab m.k,ab m.f,ab m.to,ab m.s,ab m.v,.slice m.A m.x.length m.c,.slice m.B m.l.length m.d] (aE m.tag) (aE t) (by simp [h])
theorem sH{o:World}{aq:Nat}{g:al}{s:ai}{c:eT}{m:aB}{to:Int}(y:o.heap[aq]? =some (.cells (j4 g s c).toArray 285 (0,0)))(J:g.at o)(M:g.ok)(hm:m.ok o)(Q:m.x.length<=10000)(z:m.l.length<=1000):Calls prog 196 #[Z aq,.agg m.cs.toArray,ab to] o (aS λr w=>∃(q:aB)(G:List Chunk),r= .agg q.cs.toArray/\fw q G/\q.P=s.jn g m.P to/\C o [] [G] w):=by
 have a:Own [] o:=C.start o
 refine e7 [Z aq,.agg m.cs.toArray,ab to] (fn:=f196) func196 ntmps196 (bP 2 a j j (λn w a=>cn 0 a j (λp w a=>?_)))
 have a:C o [] [bi n m,bi p dM] w:=a.f1
 have a:=a.drew
 refine bz 1 j (λw=>∃ae,C o [] ae w) ⟨_,a⟩ (af 0 3 j (bT 3 j (λw⟨_,a⟩=>aw (a.cd y) j) (af 5 3 j (bT 8 j (λw⟨_,a⟩=>aw (a.cd y) j) (af 4 1 j (af 9 1 j (aW 10 j (cC (a.bf _) j j j j (by rw [hq,m.bY hm.tag];decide) (λw a=>?_)))))))))
 have a:=C.gk a (m.G8 s.am)
 refine an ⟨⟨_,a⟩,?_⟩
 refine af 11 1 j (aW 12 j (cC (a.bf _) j j j j (by rw [hq,({m with f:=s.am}:aB).bY hm.tag];decide) (λw a=>?_)))
 have a:=C.gk a (({m with f:=s.am}:aB).Hc to)
 refine an ⟨⟨_,a⟩,?_⟩
 refine af 13 1 j (aW 14 j (cC (a.bf _) j j j j (by rw [hq,({m with f:=s.am,to:=to}:aB).bY hm.tag];decide) (λw a=>?_)))
 have a:=C.gk a (({m with f:=s.am,to:=to}:aB).G9 s.slot)
 have a:C o [] [bi n ({m with f:=s.am,to:=to,s:=s.slot}:aB),bi p dM] w:=a
 refine an ⟨⟨_,a⟩,?_⟩
 refine bO (au 3 j (aw (C.aj a) ({m with f:=s.am,to:=to,s:=s.slot}:aB).ge) ?_)
 have t:=gW (c:=m.c) (hm.st a).x (by omega)
 refine bm 0 t j (λr w⟨ah,D,u⟩=>?_)
 obtain⟨b,aZ,rfl⟩:∃A c,r= .slice A m.x.length c:=by obtain⟨A,c,h,_⟩:=D.form;exact⟨A,c,h⟩
 have a:=a.aN u
 refine ar 1 j (cC (a.bf _) j j j j (by rw [hq,({m with f:=s.am,to:=to,s:=s.slot}:aB).bY hm.tag];decide) (λw a=>?_))
 have a:=C.gk a (({m with f:=s.am,to:=to,s:=s.slot}:aB).qJ b aZ)
 have a:C o [] [bi n ({m with f:=s.am,to:=to,s:=s.slot,A:=b,c:=aZ}:aB),bi p dM,ah] w:=a.as
 refine au 3 j (aw (C.aj a) ({m with f:=s.am,to:=to,s:=s.slot,A:=b,c:=aZ}:aB).eV) ?_
 have t:=k1 (d:=m.d) (hm.st a).l hm.aH z
 refine bm 0 t j (λr w⟨aA,E,u⟩=>?_)
 obtain⟨e,d1,rfl⟩:∃A c,r= .slice A m.l.length c:=by obtain⟨A,c,h,_⟩:=E.form;exact⟨A,c,h⟩
 have a:=a.aN u
 refine ar 1 j (cC (a.bf _) j j j j (by rw [hq,({m with f:=s.am,to:=to,s:=s.slot,A:=b,c:=aZ}:aB).bY hm.tag];decide) (λw a=>?_))
 have a:=C.gk a (({m with f:=s.am,to:=to,s:=s.slot,A:=b,c:=aZ}:aB).mx e d1)
 have a:C o [] [bi n ({m with f:=s.am,to:=to,s:=s.slot,A:=b,c:=aZ,B:=e,d:=d1}:aB),bi p dM,ah,aA] w:=a.as
 have N:({m with f:=s.am,to:=to,s:=s.slot,A:=b,c:=aZ,B:=e,d:=d1}:aB).own ah aA:=⟨D,E⟩
 have L:fw ({m with f:=s.am,to:=to,s:=s.slot,A:=b,c:=aZ,B:=e,d:=d1}:aB) (ah++aA):=⟨ah,aA,j,N,hm.tag,hm.aH,⟨by show m.x.length<=_;omega,z⟩⟩
 have a:=a.drew
 refine bz 1 j (λw=>∃ae,C o [] ([bi n ({m with f:=s.am,to:=to,s:=s.slot,A:=b,c:=aZ,B:=e,d:=d1}:aB)]++ae) w) ⟨_,a⟩ (af 0 3 j (bT 3 j (λw⟨_,a⟩=>aw (a.cd y) j) (af 4 3 j (bT 7 j (λw⟨_,a⟩=>aw (a.cd y) j) (aV 8 j (λw⟨_,a⟩=>dc (U:=({m with f:=s.am,to:=to,s:=s.slot,A:=b,c:=aZ,B:=e,d:=d1}:aB).cs) j j (({m with f:=s.am,to:=to,s:=s.slot,A:=b,c:=aZ,B:=e,d:=d1}:aB).bY hm.tag) (bq (C.aj a))) (aW 9 j ?_))))))
 have K:=(L.read (C.holds (G:=ah++aA) (a.perm (B:=[bi n ({m with f:=s.am,to:=to,s:=s.slot,A:=b,c:=aZ,B:=e,d:=d1}:aB),bi p dM,ah++aA]) (by simp)) (by simp))).1
 have t:=l7 K Q z
 refine cN j j j t (λr w⟨bn,H,u⟩=>?_)
 have a:=a.aN u
 have a:C o [] [bi n ({m with f:=s.am,to:=to,s:=s.slot,A:=b,c:=aZ,B:=e,d:=d1}:aB),bi p dM,ah,aA,bn] w:=a.as
 have I:({m with f:=s.am,to:=to,s:=s.slot,A:=b,c:=aZ,B:=e,d:=d1}:aB).body.length<=1000000:=by
  have S:=lm m.l hm.aH
  have T:=jB m.x (by omega)
  have F:=gq [4,m.k,s.am,s.slot,m.v]
  simp only [ep,ga] at F
  show(et [4,m.k,s.am,s.slot,m.v]++(hs m.x++jp m.l)).length<=_
  simp only [ca]
  omega
 obtain⟨R,a1,rfl,_,_,O,_⟩:=H.read (a.holds (by simp))
 refine an ⟨⟨_,a⟩,?_⟩
 refine aW 10 j ?_
 have t:=nm (J.st a (al.off.nil g)) M O I (i:=s.am) (d:=a1)
 refine bF j j j t (λw u=>?_)
 have a:=a.aN u
 have a:C o [] [bi n ({m with f:=s.am,to:=to,s:=s.slot,A:=b,c:=aZ,B:=e,d:=d1}:aB),bi p dM,ah,aA,bn] w:=a.as
 refine an ⟨⟨_,a⟩,?_⟩
 refine af 11 1 j (dy 12 j (c5 (a.bf _) j j j (by simpa using fH (g.cu s.am ({m with f:=s.am,to:=to,s:=s.slot,A:=b,c:=aZ,B:=e,d:=d1}:aB).body)) (by rw [List.size_toArray,ds,al.ea]) (by rw [List.size_toArray,({m with f:=s.am,to:=to,s:=s.slot,A:=b,c:=aZ,B:=e,d:=d1}:aB).bY hm.tag];decide) (λw a=>?_)))
 have a:=C.gk a (({m with f:=s.am,to:=to,s:=s.slot,A:=b,c:=aZ,B:=e,d:=d1}:aB).o4 (g.cu s.am ({m with f:=s.am,to:=to,s:=s.slot}:aB).body) (by rw [al.ea];exact hm.tag))
 have a:C o [] [bi n ({m with f:=s.am,to:=to,s:=s.slot,A:=b,c:=aZ,B:=e,d:=d1,tag:=g.cu s.am ({m with f:=s.am,to:=to,s:=s.slot}:aB).body}:aB),bi p dM,ah,aA] w:=a.as
 refine an (cX (bS 2 (U:=({m with f:=s.am,to:=to,s:=s.slot,A:=b,c:=aZ,B:=e,d:=d1,tag:=g.cu s.am ({m with f:=s.am,to:=to,s:=s.slot}:aB).body}:aB).cs) j j (({m with f:=s.am,to:=to,s:=s.slot,A:=b,c:=aZ,B:=e,d:=d1,tag:=g.cu s.am ({m with f:=s.am,to:=to,s:=s.slot}:aB).body}:aB).bY (al.ea _ _ _)) (bq (C.aj a)) ?_))
 refine c5 (a.bf p) j j j (by simpa using({m with f:=s.am,to:=to,s:=s.slot,A:=b,c:=aZ,B:=e,d:=d1,tag:=g.cu s.am ({m with f:=s.am,to:=to,s:=s.slot}:aB).body}:aB).one) (by rw [List.size_toArray];exact({m with f:=s.am,to:=to,s:=s.slot,A:=b,c:=aZ,B:=e,d:=d1,tag:=g.cu s.am ({m with f:=s.am,to:=to,s:=s.slot}:aB).body}:aB).bY (al.ea _ _ _)) (by decide) (λw a=>?_)
 have a:=C.whole (U:=({m with f:=s.am,to:=to,s:=s.slot,A:=b,c:=aZ,B:=e,d:=d1,tag:=g.cu s.am ({m with f:=s.am,to:=to,s:=s.slot}:aB).body}:aB).cs) a (by rw [({m with f:=s.am,to:=to,s:=s.slot,A:=b,c:=aZ,B:=e,d:=d1,tag:=g.cu s.am ({m with f:=s.am,to:=to,s:=s.slot}:aB).body}:aB).bY (al.ea _ _ _)];rfl)
 refine bJ 0 j ⟨_,hb (U:=({m with f:=s.am,to:=to,s:=s.slot,A:=b,c:=aZ,B:=e,d:=d1,tag:=g.cu s.am ({m with f:=s.am,to:=to,s:=s.slot}:aB).body}:aB).cs) results196 j j (({m with f:=s.am,to:=to,s:=s.slot,A:=b,c:=aZ,B:=e,d:=d1,tag:=g.cu s.am ({m with f:=s.am,to:=to,s:=s.slot}:aB).body}:aB).bY (al.ea _ _ _)) a.bN,?_⟩
 have a:C o [] [ah,aA] w:=a.as
 exact⟨({m with f:=s.am,to:=to,s:=s.slot,A:=b,c:=aZ,B:=e,d:=d1,tag:=g.cu s.am ({m with f:=s.am,to:=to,s:=s.slot}:aB).body}:aB),ah++aA,j,⟨ah,aA,j,⟨D,E⟩,al.ea _ _ _,hm.aH,⟨by show m.x.length<=_;omega,z⟩⟩,j,a.join⟩
theorem zl(am:Int)(n:Nat):mo am (n+1)=mo am n++(if((n:Int) !=am)=true then [(n:Int)] else []):=by
 unfold mo
 rw [nz,jP,List.filter_append]
 simp only [jO,rk,om,List.filter_nil]
theorem zk(am:Int)(n:Nat):(mo am n).length<=n:=by
 unfold mo
 refine ed (ol _ _) ?_
 simp
theorem tS{o:World}{aq:Nat}{g:al}{s:ai}{c:eT}{m:aB}(t:o.heap[aq]? =some (.cells (j4 g s c).toArray 285 (0,0)))(u:g.at o)(y:g.ok)(hm:m.ok o)(N:m.x.length<=10000)(K:m.l.length<=1000):Calls prog 273 #[Z aq,.agg m.cs.toArray] o (aS λr w=>∃G:List Chunk,cz r (s.all g m.P) G/\C o [] [G] w):=by
 have a:Own [] o:=C.start o
 refine a1 [Z aq,.agg m.cs.toArray] func273 ntmps273 results273 (bP 2 a j j (λb w a=>?_))
 have a:C o [] [bi b m] w:=a
 refine au 10 j (aw (a.cd t) j) (bp 0 (ml (u.st a (al.off.nil g))) j (λw hw=>?_))
 subst hw
 refine cY 2 j (cA:=Nat×Value×List Chunk×List Chunk×List aB) (λi=>[(0,Z aq),(3,Z b),(5,i.2.1),(11,.int .i64 (g.keys.length:Nat)),(12,.int .i64 (i.1:Nat))])
  (λi w=>i.1<=g.keys.length/\Row 94 39 i.2.1 i.2.2.2.2.length (fN i.2.2.2.2) i.2.2.1/\fx i.2.2.2.2 i.2.2.2.1/\i.2.2.2.2.map aB.P=(mo s.am i.1).map (λto=>s.jn g m.P to)/\C o [] [i.2.2.1,i.2.2.2.1,bi b m] w) (λi=>g.keys.length-i.1) (0,.slice none 0 0,[],[],[]) ⟨j,j,j,j,j,ba⟩ ⟨ch _,Row.nil _ _,j,j,a.empty.empty⟩ ?_
 have Q:=y.n10
 rintro⟨i,v,ak,aA,l⟩ w ⟨I,k,h,e,a⟩
 dsimp only at I k h e a⊢
 have O:l.length<=i:=by have E:=aL List.length e;rw [fy,fy] at E;have:=zk s.am i;omega
 refine aT 4 j j (λd=>?_) (λd=>?_)
 .refine au 13 j (aw (a.cd t) j) (aT 1 j j (λp=>?_) (λp=>?_))
  .refine bS 3 (U:=m.cs) j j (m.bY hm.tag) (bq (C.aj a)) ?_
   have H:=sH (a.cd t) (u.st a (al.off.nil g)) y (hm.st a) N K (to:=(i:Int))
   refine bm 1 H j (λr w⟨q,f,M,z,L,ad⟩=>?_)
   subst M
   have a:=a.aN ad
   have a:C o [] [ak,aA,bi b m,f] w:=a.as
   have B:q.tag.length=32:=(fx.one z).tag q (by simp)
   refine gv (U:=q.cs) a j j j (q.bY B) (by decide) (by decide) (λD w a=>?_)
   have aP:Rd w (some ⟨D,0,none⟩) q.cs:=a.bN
   refine eK (a.to ak) k j j (by decide) j j j (news:=q.cs) (q.bY B) aP (List.all_eq_true.1 q.one) (by omega) (by unfold maxLen;omega) (λv1 n w F a=>?_)
   have a:C o [] [n,aA,f,bi b m] w:=a.as
   refine bt 2 j j j (gh i 1 (by omega)) (bX 1 j (⟨(i+1,v1,n,aA++f,l++[q]),⟨j,j,j,j,j,ba⟩,⟨by have:=br d;dsimp only;omega,?_,h.app (fx.one z),?_,C.perm (A:=[n,aA,f,bi b m]) a (by simp)⟩,by have:=br d;dsimp only;omega⟩))
   .dsimp only
    rw [ca,List.length_singleton,qf,show fN [q]=q.cs by simp]
    exact F
   dsimp only
   rw [jP,e,zl,if_pos p,List.map_append]
   simp [L]
  refine bt 2 j j j (gh i 1 (by omega)) (bX 1 j (⟨(i+1,v,ak,aA,l),⟨j,j,j,j,j,ba⟩,⟨by have:=br d;dsimp only;omega,k,h,?_,a⟩,by have:=br d;dsimp only;omega⟩))
  dsimp only
  rw [e,zl,aF (by rw [p];decide),g6]
 refine ao 5 j j ?_
 have J:i=g.keys.length:=by have:=bw d;omega
 subst J
 have a:C o [] [ak,aA] w:=a.as
 exact⟨ak++aA,⟨l,e,ak,aA,j,k,h⟩,a.join⟩
theorem rW(b:Bool):((if b=true then(0:Int) else 1)==0)=b:=by cases b<;>rfl
theorem El{o:World}{aq:Nat}{g:al}{s:ai}{c:eT}{m:aB}(t:o.heap[aq]? =some (.cells (j4 g s c).toArray 285 (0,0)))(B:g.at o)(D:g.ok)(hm:m.ok o):Calls prog 186 #[Z aq,.agg m.cs.toArray] o (aS λr w=>r= .bool (s.mb g m.P)/\C o [] [] w):=by
 have a:Own [] o:=C.start o
 refine a1 [Z aq,.agg m.cs.toArray] func186 ntmps186 results186 (bP 2 a j j (λe w a=>?_))
 have a:C o [] [bi e m] w:=a
 refine bS 3 (U:=m.cs) j j (m.bY hm.tag) (bq (C.aj a)) ?_
 have n:=xC (hm.st a)
 refine bm 0 n j (λr w⟨v,G,E,K,ad⟩=>?_)
 subst E
 have a:=a.aN ad
 have a:C o [] [bi e m] w:=a.as
 have a:=a.drew
 refine bz 6 j (λw=>∃ae,C o [] ([bi e m]++ae) w) ⟨_,a⟩ (af 0 3 j (ef 14 j (λh=>?_) (λh=>?_)))
 .refine af 3 1 j (be 4 j a7 m.gC (af 5 3 j (bT 8 j (λw⟨_,a⟩=>aw (a.cd t) j) (af 9 3 j (ef 23 j (λp=>?_) (λp=>?_))))))
  .refine af 12 1 j (be 13 j a7 m.aZ (af 14 3 j (bT 17 j (λw⟨_,a⟩=>aw (a.cd t) j) (af 18 3 j (ef 32 j (λq=>?_) (λq=>?_))))))
   .refine af 21 3 j (bT 24 j (λw⟨_,a⟩=>aw (a.cd t) j) (af 25 1 j (be 26 j a7 m.aZ (aV 27 j (λw⟨_,a⟩=>dc (U:=m.cs) j j (m.bY hm.tag) (bq (C.aj a))) (af 29 1 j (aV 30 j (λw⟨_,a⟩=>dc (U:=aE m.tag) j j (by rw [ds];exact hm.tag) (m.vC (C.aj a))) (aW 28 j ?_)))))))
    have b:i1 m=true:=(rW _).symm.trans h
    have L:=m.yJ b
    have n:=l7 (hm.st a) (by omega) (by omega)
    refine cN j j j n (λr w⟨bn,z,u⟩=>?_)
    have a:=a.aN u
    have a:C o [] [bi e m,bn] w:=a.as
    have A:m.body.length<=1000000:=by
     have I:=lm m.l hm.aH
     have J:=jB m.x (by omega)
     have y:=gq [4,m.k,m.f,m.s,m.v]
     simp only [ep,ga] at y
     unfold aB.body
     simp only [ca]
     omega
    obtain⟨H,a1,rfl,_,_,F,_⟩:=z.read (a.holds (by simp))
    refine an ⟨⟨_,a⟩,?_⟩
    refine aW 31 j ?_
    have n:=rK (B.st a (al.off.nil g)) D F A hm.tag (i:=m.f) (d:=a1)
    refine bF j j j n (λw u=>?_)
    have a:=a.aN u
    have a:C o [] [bi e m,bn] w:=a.as
    refine an ⟨⟨_,a⟩,?_⟩
    refine af 32 2 j (bO (ao 0 j j (⟨aL Value.bool ?_,a.bare⟩)))
    unfold ai.mb
    rw [show m.P.may=true from b,show(m.P.s==s.slot)=true from p,show(m.P.f !=s.am)=true from q]
    rfl
   refine fz 13 [21,22,23,24,25,26,27,29,30,28,31,32,33] j (bO (ao 0 j j (⟨aL Value.bool ?_,a.bare⟩)))
   have b:m.P.may=true:=(rW _).symm.trans h
   unfold ai.mb
   rw [b,show(m.P.s==s.slot)=true from p,show(m.P.f !=s.am)=false from q]
   rfl
  refine fz 22 [12,13,14,15,16,17,18,19,20,21,22,23,24,25,26,27,29,30,28,31,32,33] j (bO (ao 0 j j (⟨aL Value.bool ?_,a.bare⟩)))
  have b:m.P.may=true:=(rW _).symm.trans h
  unfold ai.mb
  rw [b,show(m.P.s==s.slot)=false from p]
  rfl
 refine fz 31 [3,4,5,6,7,8,9,10,11,12,13,14,15,16,17,18,19,20,21,22,23,24,25,26,27,29,30,28,31,32,33] j (bO (ao 0 j j (⟨aL Value.bool ?_,a.bare⟩)))
 have b:m.P.may=false:=(rW _).symm.trans h
 unfold ai.mb
 rw [b]
 rfl
def f9(cV:Option Addr)(l:List aG)(F:List Nat)(w:World):Prop:=
 (cV=none/\l=[])\/∃b A d,cV=some ⟨b,0,none⟩/\w.heap[b]? =some (.cells #[.slice A l.length d] 384 (0,0))/\l.length<=d/\d<=maxLen/\Rd w A (vcs l)/\b∉F/\bU A (vcs l) F
theorem f9.st{cV:Option Addr}{l:List aG}{F eD:List Nat}{ae:List (List Chunk)}{w aI:World}(h:f9 cV l F w)(g:C w eD ae aI)(f:∀b∈eD,b∈F):f9 cV l F aI:=by
 rcases h with h|⟨b,A,d,rfl,a,i,k,m,c,e⟩
 .exact .inl h
 .exact .inr ⟨b,A,d,j,by rw [g.fP b (gp.1 a).1 (λn=>c (f _ n))];exact a,i,k,g.rd m (e.sub f),c,e⟩
theorem f9.grow{cV:Option Addr}{l:List aG}{F eD:List Nat}{w:World}(h:f9 cV l F w)(g:∀b∈eD,b∈F\/w.heap.size<=b):f9 cV l eD w:=by
 rcases h with h|⟨b,A,d,rfl,e,m,n,f,o,p⟩
 .exact .inl h
 .refine .inr ⟨b,A,d,j,e,m,n,f,λc=>(g _ c).elim o (λq=>?_),λk a i c=>(g _ c).elim (p k a i) (λq=>?_)⟩
  .have:=(gp.1 e).1;omega
  .have:=f.lt k i;omega
theorem f9.here{cV:Option Addr}{l:List aG}{ae:List (List Chunk)}{o w:World}(h:f9 cV l [] o)(a:C o [] ae w):f9 cV l (av ae) w:=
 (h.grow (λb c=>(a.own b c).elim (λh=>.inl h) .inr)).st a (by simp)
theorem f9.range{cV:Option Addr}{l:List aG}{H ae:List (List Chunk)}{L:List Chunk}{w aI:World}(h:f9 cV l (av (H++ae)) w)(c:C w [] [L] aI):f9 cV l (av (H++(ae++[L]))) aI:=by
 have d:f9 cV l (av (H++(ae++[L]))) w:=h.grow (λb a=>by
  rw [<-dH] at a
  rcases m9.1 a with a|a
  ·exact .inl a
  ·have:=c.own b a;exact .inr (by simpa using this))
 exact d.st c (by simp)
theorem ie.read{w:World}{v:Value}{l:List aG}{G:List Chunk}(h:ie v l G)(a:Holds w G):∃cV,v= .pointer cV/\f9 cV l [] w:=by
 obtain⟨b,u,ak,rfl,g,rfl⟩:=h
 obtain⟨A,d,rfl,c,e,f,_⟩:=g.read a.tail
 exact⟨_,j,.inr ⟨b,A,d,j,a.head,c,e,f,by simp,bU.of_nil _ _⟩⟩
theorem za{l:List aG}{sum:List UInt8}{i:Nat}(h:i<l.length)(a:(l[i].sum==sum)=true):e8 (l.take (i+1)) sum=e8 (l.take i) sum++[l[i]]:=by
 unfold e8
 rw [fF h,mP]
 simp [a]
theorem FN{l:List aG}{sum:List UInt8}{i:Nat}(h:i<l.length)(a:(l[i].sum==sum)=false):e8 (l.take (i+1)) sum=e8 (l.take i) sum:=by
 unfold e8
 rw [fF h,mP]
 simp [a]
theorem FO{l:List aG}{sum:List UInt8}{i:Nat}(h:i<l.length)(b:(l[i].sum==sum)=true):∃r,e8 l sum=e8 (l.take i) sum++l[i]::r:=by
 refine⟨e8 (l.drop (i+1)) sum,?_⟩
 have a:e8 l sum=e8 (l.take (i+1)) sum++e8 (l.drop (i+1)) sum:=by
  unfold e8
  rw [<-mP,List.take_append_drop]
 rw [a,za h b,dH]
 rfl
abbrev qs(l:List aG)(sum:List UInt8)(pre:List aG)(x:aG):Prop:=∃r,e8 l sum=pre++x::r
theorem qs.mem{l:List aG}{sum:List UInt8}{pre:List aG}{x:aG}(h:qs l sum pre x):x∈l:=by
 obtain⟨r,h⟩:=h
 have:x∈e8 l sum:=by rw [h];simp
 exact(hL.1 this).1
theorem qs.len{l:List aG}{sum:List UInt8}{pre:List aG}{x:aG}(h:qs l sum pre x):pre.length<(e8 l sum).length:=by
 obtain⟨r,h⟩:=h
 rw [h];simp
theorem ze{o:World}{cV:Option Addr}{sum:List UInt8}:Calls prog 294 #[.pointer cV,.agg (aE sum).toArray] o (aS λr w=>∃aJ b,r= .func (.func 318) #[] #[Z aJ,Z b]/\C o [] [R aJ #[.pointer cV] 282,R b (aE sum).toArray 66] w):=by
 have a:Own [] o:=C.start o
 refine a1 [.pointer cV,.agg (aE sum).toArray] func294 ntmps294 results294 (bP 2 a j j (λaJ w a=>bP 0 a j j (λb w a=>ar 3 j (gR j j j j ?_))))
 refine ao 1 j j ?_
 exact⟨aJ,b,j,a.f1⟩
theorem zd{aJ e:Nat}{cV:Option Addr}{l:List aG}{sum:List UInt8}(z:∀x∈l,x.ok)(F:sum.length=32):Iter prog 318 #[Z aJ,Z e] [R aJ #[.pointer cV] 282,R e (aE sum).toArray 66] (λae w=>f9 cV l (av ([R aJ #[.pointer cV] 282,R e (aE sum).toArray 66]++ae)) w) (λ_=>True) (λv:aG=> #[.agg v.cs.toArray]) (qs l sum) (λxs=>xs=e8 l sum):=by
 intro y T ac ae o a c t _ J Y O
 show Calls _ _ #[ey y,Z aJ,Z e] o _
 obtain⟨n,B⟩:∃n,n=av ([R aJ #[.pointer cV] 282,R e (aE sum).toArray 66]++ae):=⟨_,j⟩
 rw [<-B] at t⊢
 have a:C o n (R aJ #[.pointer cV] 282::R e (aE sum).toArray 66::ae) o:=B▸a
 refine a1 [ey y,Z aJ,Z e] func318 ntmps318 results318 (au 3 j (aw (C.aj a) j) (aT 1 j j (λdw=>?_) (λdw=>?_)))
 .refine ao 0 j j ?_
  obtain⟨rfl,rfl⟩:cV=none/\l=[]:=by
   rcases t with h|⟨b,A,d,rfl,_⟩
   .exact h
   .cases dw
  exact⟨ae,a,.inl ⟨[],j,c⟩⟩
 obtain⟨b,A,d,rfl,q,aa,D,M,W,I⟩:=t.resolve_left (λh=>by rw [h.1] at dw;cases dw)
 refine au 3 j (aw (C.aj a) j) (au 2 j (aw q j) ?_)
 refine cY 3 j (cA:=Nat×List (List Chunk)) (λi=>[(0,ey y),(1,Z aJ),(2,Z e),(11,.slice A l.length d),(12,.int .i64 (l.length:Nat)),(13,.int .i64 (i.1:Nat))])
  (λi w=>i.1<=l.length/\T (e8 (l.take i.1) sum) i.2 w/\C o n (R aJ #[Z b] 282::R e (aE sum).toArray 66::i.2) w) (λi=>l.length-i.1) (0,ae) ⟨j,j,j,j,j,j,ba⟩ ⟨ch _,c,a⟩ ?_
 rintro⟨i,ah⟩ w ⟨K,c,a⟩
 dsimp only at K c a⊢
 refine aT 4 j j (λr=>?_) (λr=>?_)
 .have f:i<l.length:=by have:=br r;omega
  have g:=z l[i] (ek f)
  have E:=a.rd M I
  refine ar 5 j (fL j j j j E (v:=ab l[i].k) (pf l z i f) f (λV G X=>?_))
  subst G
  refine bS 0 j j (l[i].len g) (pg E z i f) (cn 0 (C.start _) j (λbv w m=>cp 0 m j j j l[i].one (l[i].len g) (λw m=>?_)))
  have m:=C.whole (U:=l[i].cs) m (by rw [l[i].len g];rfl)
  have c:=J _ _ _ _ [] c m.bare (by simp)
  have a:=a.aN m
  refine bS 3 (U:=aE l[i].sum) j j (by rw [ds];exact g.1) (a.i3 (off:=0+3) (U:=aE l[i].sum) (l[i].p7 g)) (bS 0 (U:=aE sum) j j (by rw [ds];exact F) (bq (C.aj a)) (wn j j j j (by kernel_rfl) (λw=>p9 _ _ g.1 F 9998 w) (ar 1 j (c7 21 j (λp=>?_) (λp=>?_)))))
  .refine bS 1 (U:=l[i].cs) j j (l[i].len g) a.bN ?_
   obtain⟨S,N⟩:=FO f p
   have P:=O (e8 (l.take i) sum) l[i] ah _ ⟨S,N⟩ c (C.jl (H:=[_,_,_]) a)
   refine jN j j j j P (λb w⟨aA,Q,q⟩=>?_)
   have a:=C.jd (H:=[_,_,_]) a Q
   refine aT 2 j j (λs=>?_) (λs=>?_)
   .refine ao 0 j j ?_
    have u:b=false:=by cases b<;>first|rfl|exact absurd s (by decide)
    subst u
    exact⟨aA,a.drop,.inr (by simpa using q)⟩
   refine bt 2 j j j (c2 i (by have:=D;unfold maxLen at this;omega)) (bX 1 j ?_)
   have u:b=true:=by cases b<;>first|rfl|exact absurd s (by decide)
   subst u
   refine⟨(i+1,aA),⟨j,j,j,j,j,j,ba⟩,⟨f,?_,a.drop⟩,by dsimp only;omega⟩
   dsimp only
   rw [za f p]
   simpa using q
  refine bt 8 j j j (c2 i (by have:=D;unfold maxLen at this;omega)) (bX 1 j (⟨(i+1,ah),⟨j,j,j,j,j,j,ba⟩,⟨f,?_,a.drop⟩,by dsimp only;omega⟩))
  dsimp only
  rw [FN f p]
  exact c
 refine ao 1 j j ?_
 have L:i=l.length:=by have:=bw r;omega
 subst L
 rw [gy] at c
 exact⟨ah,a,.inl ⟨_,j,c⟩⟩
theorem B2{l:List aG}{f:Int}(h:∀x∈l,x.f≠f):(l.any λv=>v.f==f)=false:=by
 rw [<-Bool.not_eq_true,kf]
 rintro⟨x,a,he⟩
 exact h x a (dX.1 he)
theorem ya(l:List aG)(sum:List UInt8)(f:Int):oN l sum f=(e8 l sum).any λv=>v.f==f:=by
 unfold oN e8
 rw [List.any_filter]
theorem D2{o:World}{cV:Option Addr}{l:List aG}{sum:List UInt8}{f:Int}(B:f9 cV l [] o)(u:∀x∈l,x.ok)(t:sum.length=32):Calls prog 267 #[.pointer cV,.agg (aE sum).toArray,ab f] o (aS λr w=>r= .bool (oN l sum f)/\C o [] [] w):=by
 have a:Own [] o:=C.start o
 refine iq [.pointer cV,.agg (aE sum).toArray,ab f] (fn:=f267) func267 ntmps267 (bP 2 a j j (λc w a=>bP 0 a j j (λd w a=>cn 0 a j (λb w a=>?_))))
 have a:C o [] [R b #[.bool false] 4,R d #[ab f] 3,R c (aE sum).toArray 66] w:=a
 refine bS 4 (U:=aE sum) j j (by rw [ds];exact t) (bq (C.aj a)) ?_
 have I:=ze (o:=w) (cV:=cV) (sum:=sum)
 refine bm 0 I j (λr w⟨aJ,n,K,ad⟩=>?_)
 subst K
 have a:=a.aN ad
 have a:C o [] [R aJ #[.pointer cV] 282,R n (aE sum).toArray 66,R c (aE sum).toArray 66,R d #[ab f] 3,R b #[.bool false] 4] w:=a.as
 have a:C o [] ([R aJ #[.pointer cV] 282,R n (aE sum).toArray 66]++[R c (aE sum).toArray 66,R d #[ab f] 3,R b #[.bool false] 4]) w:=a
 have D:=B.here a
 refine jY 1 j (zd u t) j (by have:=a.size;simpa using this) a j (λ_=>rfl) (by intro p s;simp at s;subst s;rfl)
  (λpre ae=>ae=[R c (aE sum).toArray 66,R d #[ab f] 3,R b #[.bool false] 4]/\∀x∈pre,x.f≠f) (λe ae=>match e with| .ret=>ae=[R c (aE sum).toArray 66,R d #[ab f] 3,R b #[.bool true] 4]/\∃x∈e8 l sum,x.f=f|_=>False) ⟨j,by simp⟩ (λL aI E=>D.range E) (λ_ _ _ _=>trivial) ?_ ?_ ?_ (λ_ _ _ h=>h.elim)
 .rintro y pre x P L S q ⟨rfl,J⟩ a
  have m:=u x q.mem
  have a:=C.gs a
  refine cn 1 a j (λA w a=>cp 0 (a.bf A) j j j (by simpa using(x).one) (by rw [List.size_toArray];exact(x).len m) (λw a=>?_))
  have a:=C.whole (U:=(x).cs) a (by rw [(x).len m];rfl)
  refine bJ 0 j (⟨j,_,a,λL w a=>?_⟩)
  have a:=C.gs a
  refine au 4 j (aw (C.aj a) (x.eM m)) (au 0 j (aw (C.aj a) j) (aT 1 j j (λi=>?_) (λi=>?_)))
  .refine dD 2 (a.bf b) j j j j (λw a=>?_)
   have a:C _ _ (R b #[.bool true] 4::_) w:=a
   refine bJ 0 j (⟨[R c (aE sum).toArray 66,R d #[ab f] 3,R b #[.bool true] 4],a.as,j,x,?_,br i⟩)
   obtain⟨Q,M⟩:=q
   rw [M];simp
  refine bJ 1 j (⟨[R c (aE sum).toArray 66,R d #[ab f] 3,R b #[.bool false] 4],a.as,j,λz g=>?_⟩)
  rcases dA.1 g with g|g
  .exact J z g
  rw [gb.1 g];exact bw i
 .rintro xs v w F ⟨rfl,H⟩ a
  refine dD 2 (a.bf b) j j j j (λw a=>?_)
  have a:C _ _ (R b #[.bool false] 4::_) w:=a
  refine bJ 0 j ⟨.bool false,λw k=>?_⟩
  have a:=k.st a (cB _)
  refine⟨sG results267 j j (aw (C.aj a) j),?_⟩
  refine⟨aL Value.bool ?_,a.bare⟩
  rw [ya,<-F]
  exact(B2 H).symm
 rintro v w G a
 obtain⟨rfl,x,N,O⟩:=G
 refine⟨.bool true,λw k=>?_⟩
 have a:=k.st a (cB _)
 refine⟨sG results267 j j (aw (C.aj a) j),?_⟩
 refine⟨aL Value.bool ?_,a.bare⟩
 rw [ya]
 exact(kf.2 ⟨x,N,by simp [O]⟩).symm
theorem f9.now{cV:Option Addr}{l:List aG}{F:List Nat}{ae:List (List Chunk)}{o w:World}(h:f9 cV l F o)(c:C o F ae w):f9 cV l (av ae) w:=by
 have d:f9 cV l (F++av ae) o:=h.grow (λb a=>(dA.1 a).elim .inl (λa=>(c.own b a)))
 have e:=d.st c (λb a=>dA.2 (.inl a))
 exact e.grow (λb a=>.inl (dA.2 (.inr a)))
theorem sZ(l:List aG)(x:aG):vcs (l++[x])=vcs l++x.cs:=by simp
theorem B8{o:World}{aJ c:Nat}{cV:Option Addr}{l:List aG}{sum:List UInt8}(m:f9 cV l (av [R aJ #[.pointer cV] 282,R c (aE sum).toArray 66]) o)(t:∀x∈l,x.ok)(H:sum.length=32)(K:l.length<=1000000)(b:Own [R aJ #[.pointer cV] 282,R c (aE sum).toArray 66] o):Calls prog 336 #[.slice none 0 0,.func (.func 318) #[] #[Z aJ,Z c]] o (aS λr w=>∃ak,ej r (e8 l sum) ak/\C o (av [R aJ #[.pointer cV] 282,R c (aE sum).toArray 66]) ([R aJ #[.pointer cV] 282,R c (aE sum).toArray 66]++[ak]) w):=by
 obtain⟨e,n⟩:∃e,e=av [R aJ #[.pointer cV] 282,R c (aE sum).toArray 66]:=⟨_,j⟩
 rw [<-n] at m⊢
 have b:C o e [R aJ #[.pointer cV] 282,R c (aE sum).toArray 66] o:=n▸b
 refine iq [.slice none 0 0,.func (.func 318) #[] #[Z aJ,Z c]] (fn:=f336) func336 ntmps336 (bP 2 b j j (λd w b=>?_))
 have b:C o e (R d #[.slice none 0 0] 92::R aJ #[.pointer cV] 282::R c (aE sum).toArray 66::[]) w:=b
 have b:C o e ([R aJ #[.pointer cV] 282,R c (aE sum).toArray 66]++[R d #[.slice none 0 0] 92,[]]) w:=(b.empty.f1).swap (A:=[_,_])
 have B:=m.now b
 refine jY 6 j (zd t H) j (by have:=b.size;simpa using this) b j (λ_=>rfl) (by intro p s;simp at s;subst s;rfl)
  (λpre ae=>∃v ak,ae=[R d #[v] 92,ak]/\ej v pre ak) (λ_ _=>False) ⟨_,_,j,Row.nil 108 68⟩ (λL aI D=>B.range D) (λ_ _ _ _=>trivial) ?_ ?_ (λ_ _ h=>h.elim) (λ_ _ _ h=>h.elim)
 .rintro y pre x I L M k ⟨v,ak,rfl,g⟩ b
  have f:=t x k.mem
  have hlen:pre.length<l.length:=tI k.len (ol _ _)
  have b:=C.gs b
  refine cn 1 b j (λz w b=>cp 0 (b.bf z) j j j (by simpa using(x).one) (by rw [List.size_toArray];exact(x).len f) (λw b=>?_))
  have b:=C.whole (U:=(x).cs) b (by rw [(x).len f];rfl)
  refine bJ 0 j (⟨j,_,b,λL w b=>?_⟩)
  have b:=C.gs b
  refine au 2 j (aw (C.aj b) j) (bS 0 (U:=x.cs) j j (x.len f) (bq (C.aj b)) (gv (U:=x.cs) b j j j (x.len f) (by decide) (by decide) (λu w b=>?_)))
  have aP:Rd w (some ⟨u,0,none⟩) x.cs:=b.bN
  refine eK (b.to ak) g j j (by decide) j j j (news:=x.cs) (x.len f) aP (List.all_eq_true.1 x.one) (by omega) (by unfold maxLen;omega) (λv1 i w q b=>dD 0 (b.bf d) j j j q.one (λw b=>?_))
  have b:C _ _ (R d #[v1] 92::_) w:=b
  refine bJ 0 j (⟨_,b.as (cI:=[R d #[v1] 92,i]),v1,i,j,?_⟩)
  unfold ej
  rw [ca,List.length_singleton,sZ]
  exact q
 rintro xs J w E ⟨v,ak,rfl,g⟩ b
 refine au 2 j (aw (C.aj b) j) (bJ 1 j ⟨v,λw G=>?_⟩)
 have b:=G.st b (cB _)
 refine⟨λa F=>i4 (fn:=f336) F j _ _,?_⟩
 rw [E] at g
 exact⟨ak,g,C.perm (A:=[R aJ #[.pointer cV] 282,R c (aE sum).toArray 66,ak]) b.as (by simp)⟩
theorem C1{o:World}{aJ a:Nat}{cV:Option Addr}{l:List aG}{sum:List UInt8}(b:f9 cV l (av [R aJ #[.pointer cV] 282,R a (aE sum).toArray 66]) o)(h:∀x∈l,x.ok)(g:sum.length=32)(e:l.length<=1000000)(c:Own [R aJ #[.pointer cV] 282,R a (aE sum).toArray 66] o):Calls prog 322 #[.func (.func 318) #[] #[Z aJ,Z a]] o (aS λr w=>∃ak,ej r (e8 l sum) ak/\C o (av [R aJ #[.pointer cV] 282,R a (aE sum).toArray 66]) ([R aJ #[.pointer cV] 282,R a (aE sum).toArray 66]++[ak]) w):=by
 refine a1 [.func (.func 318) #[] #[Z aJ,Z a]] func322 ntmps322 results322 ?_
 have d:=B8 b h g e c
 refine bm 6 d j (λr w f=>ao 1 j j ?_)
 exact f
theorem DJ{a b:Int}(c:0<=a/\a<=1000)(d:0<=b/\b<=1000):evalBin .sub .i64 a b=some (.int .i64 (a-b)):=by
 show some (Value.int .i64 (IntKind.i64.wrap (a-b)))=_
 rw [jR]
 exact aL (λz=>some (Value.int .i64 z)) (by omega)
section
variable {P:Program} {n:Fr} {aa:Env} {w:World} {Q:d5} {ops:Array Oper} {rest:List Oper} {dst:Option Nat} {ty:TypeId} {pos:String} {after:Array Edge} {g:Option (Nat×Bool)}
theorem hG{t e:TypeId}{x y:Operand}{b I l c J:Nat}{k:IntKind}{z:Value}{size bytes:Nat}[hu:bC P t (.slice e)][m:cq P e z size bytes](f:cW ops aa g=some true)(d:c8 n dst=true)
 (i:bs aa x=some (.slice (some ⟨b,I,none⟩) l c)) (j:bs aa y=some (.int k J)) (a:J<l)
 (h:O P n ops rest (cF aa dst (.pointer (some ⟨b,I+J*size,none⟩))) w Q):O P n ops (⟨dst,.indexAddr t x y,ty,pos,after,g⟩::rest) aa w Q:=dO f d (gI i j a) h
end
theorem flat_lit{α:Type}{f:α->List Value}{n:Nat}{w:World}{b:Nat}{l:List α}(c:Rd w (some ⟨b,0,none⟩) (l.flatMap f))(h:∀x∈l,(f x).length=n)(i:Nat)(a:i<l.length):Rd w (some ⟨b,0+i*n,none⟩) (f l[i]):=by
 have:=jE c h i a
 rw [add_lit] at this
 exact this
theorem xW{α:Type}{f:α->List Value}{n:Nat}:∀(l:List α),(∀x∈l,(f x).length=n)->∀(i:Nat)(y:α),i<l.length->(f y).length=n->∀J,((l.set i y).flatMap f)[J]? =if i*n<=J/\J<i*n+n then(f y)[J-i*n]? else(l.flatMap f)[J]?
 |[],_,i,_,a,_,_=>by simp at a
 |x::r,h,0,y,_,c,J=>by
  have b:=h x (by simp)
  simp only [rl,jS,od,fk,ch,true_and,Nat.sub_zero]
  split
  .rw [iz (by omega)]
  .rw [jy (by omega),jy (by omega),c,b]
 |x::r,h,i+1,y,a,c,J=>by
  have b:=h x (by simp)
  have j:=xW r (λz g=>h z (by simp [g])) i y (by simpa using a) c (J-n)
  simp only [List.set_cons_succ,jS]
  have e:(i+1)*n=i*n+n:=by rw [mT];omega
  rw [e]
  by_cases k:J<n
  .rw [iz (by omega),iz (by omega),aF (by omega)]
  .rw [jy (by omega),jy (by omega),b,j]
   by_cases d:i*n<=J-n/\J-n<i*n+n
   .rw [a6 d,a6 (by omega),show J-n-i*n=J-(i*n+n) by omega]
   .rw [aF d,aF (by omega)]
theorem Row.z5{α:Type}{f:α->List Value}{e:TypeId}{size g cap:Nat}{l:List α}{cur:Array Value}{n:Nat}(aP:l.length=n)(h:Row e size (.slice (some ⟨g,0,none⟩) n cap) n (l.flatMap f) [(g,.cells cur e (0,0))])(bx:∀x∈l,(f x).length=size)(J:Nat)(o:J<l.length)(y:α)(c:(f y).length=size):
 Row e size (.slice (some ⟨g,0,none⟩) n cap) n ((l.set J y).flatMap f) [(g,.cells (setCells cur (J*size) (f y)) e (0,0))]:=by
 subst aP
 obtain⟨z,p⟩:=h
 have s:∀x∈l.set J y,(f x).length=size:=λx t=>(pL t).elim (bx x) (λe=>by rw [e];exact c)
 refine⟨by rw [oM _ s,hp],?_⟩
 rcases p with⟨b,_,_⟩|⟨w,u,v,b,r,d,q,k,m⟩
 .cases b
 .cases b
  cases r
  have A:J*size+size<=l.length*size:=by
   have:=ke size (show J+1<=l.length from o)
   rw [mT,Nat.one_mul] at this
   exact this
  have B:l.length*size<=cur.size:=ed (ke _ d) k
  refine .inr ⟨g,cap,_,j,j,d,q,by rw [sI];exact k,?_⟩
  apply ny
  intro i
  rw [xW l bx J y o c i,jw,pE,o3 _ _ _ (by omega),c]
  by_cases a:i<l.length*size
  .rw [a6 a]
   split
   .rfl
   .rw [<-m,jw,a6 a,pE]
  .rw [aF a,aF (by omega),<-m,jw,aF a]
def mM(l:List aG)(i J:Nat):Prop:=∀(a b:Nat)(c:a<l.length)(d:b<l.length),a<b->b<=i->b≠J->l[a].f<=l[b].f
theorem mM.swap{l:List aG}{i J:Nat}(h:mM l i J)(s:0<J)(t:J<=i)(r:J<l.length)(u:l[J].f<l[J-1].f):mM ((l.set J l[J-1]).set (J-1) l[J]) i (J-1):=by
 intro a b g d p k q
 simp only [hp] at g d
 simp only [List.getElem_set]
 have o:J-1<l.length:=by omega
 by_cases m:J-1=a
 .subst m
  rw [a6 j]
  by_cases c:J=b
  .subst c
   rw [aF (by omega),a6 j];omega
  .rw [aF (by omega),aF c]
   exact h J b r d (by omega) k (by omega)
 .rw [aF m,aF (show¬J-1=b from λe=>q e.symm)]
  by_cases c:J=b
  .subst c
   rw [aF (show¬J=a by omega),a6 j]
   exact h a (J-1) g o (by omega) (by omega) (by omega)
  .rw [aF c]
   by_cases n:J=a
   .subst n
    rw [a6 j]
    exact h (J-1) b o d (by omega) k (λe=>c e.symm)
   .rw [aF n]
    exact h a b g d p k (λe=>c e.symm)
theorem mM.put{l:List aG}{i J:Nat}(h:mM l i J)(p:J<=i)(o:J<l.length)(hle:J=0\/l[J-1].f<=l[J].f):mM l (i+1) (i+1):=by
 intro a b c j g m n
 by_cases e:b=J
 .subst e
  rcases hle with k|hle
  .omega
  .by_cases d:a=b-1
   .subst d;exact hle
   .exact rm (h a (b-1) c (by omega) (by omega) (by omega) (by omega)) hle
 .exact h a b c j g (by omega) e
theorem CF{l m:List aG}(n:m.Perm l)(aM:∀(a b:Nat)(d:a<m.length)(e:b<m.length),a<b->m[a].f<=m[b].f)(aP:(l.map aG.f).Nodup):m=jU l:=by
 have le:∀a b:aG,decide (a.f<=b.f)=true↔a.f<=b.f:=λa b=>decide_eq_true_iff
 have i:m.Pairwise λa b=>a.f<=b.f:=ob.2 λa b d e g=>aM a b d e g
 have j:=tA (le:=λx y:aG=>decide (x.f<=y.f)) (by intro a b c;simp only [le];omega) (by intro a b;simp only [mW,le];omega) l
 have hu:∀a∈l,∀b∈l,a.f=b.f->a=b:=by
  clear n aM i j
  induction l with
  |nil=>intro a d;simp at d
  |cons x r t=>
   have k:=l6.1 (by simpa using aP:(x.f::r.map aG.f).Nodup)
   intro a d b e g
   rcases gd.1 d with o|q<;>rcases gd.1 e with p|s
   .rw [o,p]
   .exact absurd (dT.2 ⟨b,s,by rw [<-g,o]⟩) k.1
   .exact absurd (dT.2 ⟨a,q,by rw [g,p]⟩) k.1
   .exact t k.2 a q b s g
 refine List.Perm.eq_of_pairwise (le:=λa b:aG=>a.f<=b.f) (λa b d e i j=>hu a (n.mem_iff.1 d) b (ub.1 e) (by omega)) i (j.imp λh=>(le _ _).1 h) (n.trans (oj l _).symm)
theorem CZ{o:World}{x y:aG}(c:x.ok)(e:y.ok)(d:0<=x.f/\x.f<=1000)(g:0<=y.f/\y.f<=1000):Calls prog 298 #[.agg x.cs.toArray,.agg y.cs.toArray] o (aS λr w=>r= .int .i64 (x.f-y.f)/\C o [] [] w):=by
 have a:Own [] o:=C.start o
 refine a1 [.agg x.cs.toArray,.agg y.cs.toArray] func298 ntmps298 results298 (bP 2 a j j (λaJ w a=>bP 0 a j j (λb w a=>?_)))
 have a:C o [] [R b y.cs.toArray 108,R aJ x.cs.toArray 108] w:=a
 refine au 4 j (aw (C.aj a) (x.eM c)) (au 1 j (aw (C.aj a) (y.eM e)) (bt 0 j j j (DJ d g) (ao 1 j j ?_)))
 exact⟨j,a.bare⟩
theorem Ej{o:World}{v:Value}{d:List aG}{ak:List Chunk}(q:ej v d ak)(ar:∀x∈d,x.ok)(bx:∀x∈d,0<=x.f/\x.f<=1000)(az:d.length<=1000000)(c:Own [ak] o):Calls prog 340 #[v,.int .i64 (0:Nat),.int .i64 d.length,.func (.func 298) #[] #[]] o (aS λr w=>r= .tuple #[]/\∃l P,l.Perm d/\(∀(a b:Nat)(A:a<l.length)(t:b<l.length),a<b->l[a].f<=l[b].f)/\ej v l P/\C o (av [ak]) [P] w):=by
 obtain⟨z,S⟩:∃z,z=av [ak]:=⟨_,j⟩
 rw [<-S]
 have c:C o z [ak] o:=S▸c
 refine a1 [v,.int .i64 (0:Nat),.int .i64 d.length,.func (.func 298) #[] #[]] func340 ntmps340 results340 (bt 3 j j j (gh 0 1 (by omega)) ?_)
 refine cY 2 j (cA:=Nat×List aG×List Chunk) (λi=>[(0,v),(2,.int .i64 (d.length:Nat)),(1,.int .i64 (0:Nat)),(3,.func (.func 298) #[] #[]),(8,.int .i64 (i.1:Nat))])
  (λi w=>1<=i.1/\(i.1<=d.length\/i.1=1)/\i.2.1.Perm d/\mM i.2.1 (i.1-1) i.1/\ej v i.2.1 i.2.2/\C o z [i.2.2] w) (λi=>d.length-i.1) (1,d,ak) ⟨j,j,j,j,j,ba⟩ ⟨cB _,.inr j,oe _,by intro a b _ _ B t _;omega,q,c⟩ ?_
 rintro⟨i,l,ak⟩ w ⟨aa,ai,F,aM,q,c⟩
 dsimp only at aa ai F aM q c⊢
 refine aT 6 j j (λI=>?_) (λI=>?_)
 .have ay:i<d.length:=by have:=br I;omega
  have hlen:=F.length_eq
  obtain⟨p,cap,Q,X,rfl,_,_,_,_⟩:=q.2.resolve_left (λh=>by have:=h.2.1;omega)
  rw [hlen] at X
  subst X
  have q:Row 108 68 (.slice (some ⟨p,0,none⟩) d.length cap) d.length (vcs l) (R p Q 108):=hlen▸q
  refine cY 8 j (cA:=Nat×List aG×Array Value) (λk=>[(0,.slice (some ⟨p,0,none⟩) d.length cap),(2,.int .i64 (d.length:Nat)),(1,.int .i64 (0:Nat)),(3,.func (.func 298) #[] #[]),(8,.int .i64 (i:Nat)),(9,.int .i64 (k.1:Nat))])
   (λk w=>k.1<=i/\k.2.1.Perm d/\mM k.2.1 i k.1/\Row 108 68 (.slice (some ⟨p,0,none⟩) d.length cap) d.length (vcs k.2.1) (R p k.2.2 108)/\C o z [R p k.2.2 108] w) (λk=>k.1) (i,l,Q) ⟨j,j,j,j,j,j,ba⟩ ⟨cB _,F,by intro a b A t B T M;exact aM a b A t B (by omega) M,q,c⟩ ?_
  rintro⟨J,m,cur⟩ w ⟨G,D,H,g,c⟩
  dsimp only at G D H g c⊢
  have N:=D.length_eq
  have n:J<m.length:=by omega
  have O:∀x∈m,x.ok:=λx u=>ar x (D.mem_iff.1 u)
  have V:∀x∈m,0<=x.f/\x.f<=1000:=λx u=>bx x (D.mem_iff.1 u)
  have E:=O m[J] (ek n)
  have s:∀x∈m,x.cs.length=68:=λx u=>x.len (O x u)
  have y:=O m[J-1] (ek (by omega))
  have c:=c.drew
  refine bz 2 j (λw=>∃ae,C o z (R p cur 108::ae) w) ⟨_,c⟩ (af 0 4 j (ef 21 j (λK=>?_) (λK=>?_)))
  have aj:0<J:=by have:=br K;omega
  refine af 4 3 j (aV 7 j (λw⟨_,c⟩=>gI j j (show J<d.length by omega)) (aV 8 j (λw⟨_,c⟩=>dc (U:=m[J].cs) j j (m[J].len E) (flat_lit (by obtain⟨_,_,e,_,_,h,_⟩:=g.rd c;cases e;exact h) s J n)) ?_))
  refine af 9 2 j (aV 11 j (λw⟨_,c⟩=>dr j j (hv J 1 (by omega) (by omega))) (aV 12 j (λw⟨_,c⟩=>gI j j (show J-1<d.length by omega)) (aV 13 j (λw⟨_,c⟩=>dc (U:=m[J-1].cs) j j (m[J-1].len y) (flat_lit (by obtain⟨_,_,e,_,_,h,_⟩:=g.rd c;cases e;exact h) s (J-1) (by omega))) (aW 14 j (hE j j j j (CZ E y (V _ (ek n)) (V _ (ek (by omega)))) (λr w⟨aq,ad⟩=>?_))))))
  subst aq
  have c:=c.aN ad
  refine an ⟨⟨_,c⟩,?_⟩
  refine af 15 2 j (bO (aT 0 j j (λL=>?_) (λL=>?_)))
  .have c:=c.drew
   refine bz 3 j (λw=>True) ba (af 0 4 j (aV 4 j (λw _=>dr j j (hv J 1 (by omega) (by omega))) (af 5 2 j (aV 7 j (λw _=>dr j j (hv J 1 (by omega) (by omega))) (aV 8 j (λw _=>gI j j (show J-1<d.length by omega)) (af 10 2 j (aV 12 j (λw _=>gI j j (show J<d.length by omega)) (aJ 9 13 j j ?_ ?_))))))))
   refine lZ (U:=m[J-1].cs) j j j j (m[J-1].len y) (flat_lit (by obtain⟨_,_,e,_,_,h,_⟩:=g.rd c;cases e;exact h) s (J-1) (by omega)) (an ⟨ba,?_⟩)
   refine aW 13 j (lZ (U:=m[J].cs) j j j j (m[J].len E) (flat_lit (by obtain⟨_,_,e,_,_,h,_⟩:=g.rd c;cases e;exact h) s J n) ?_)
   rotate_left
   refine lZ (U:=m[J].cs) j j j j (m[J].len E) (flat_lit (by obtain⟨_,_,e,_,_,h,_⟩:=g.rd c;cases e;exact h) s J n) (an ⟨ba,?_⟩)
   refine aW 9 j (lZ (U:=m[J-1].cs) j j j j (m[J-1].len y) (flat_lit (by obtain⟨_,_,e,_,_,h,_⟩:=g.rd c;cases e;exact h) s (J-1) (by omega)) ?_)
   rotate_left
   all_goals
    refine an ⟨ba,?_⟩
    refine aV 14 j (λw _=>gI j j (show J<d.length by omega)) (aW 15 j ?_)
    have ah:0+J*68+68<=cur.size:=by
     obtain⟨_,ap⟩:=g
     obtain⟨_,_,_,Y,Z,au,_,aw,_⟩:=ap.resolve_left (λh=>by have:=h.2.1;omega)
     cases Y;cases Z
     have:=ke 68 (show J+1<=cap by omega)
     omega
    refine c5 c j j j (by simpa using m[J-1].one) (by rw [List.size_toArray];exact m[J-1].len y) ah (λw c=>?_)
    have ab:=g.z5 N s J n m[J-1] (m[J-1].len y)
    have c:=C.gk c (show setCells cur (0+J*68) m[J-1].cs=setCells cur (J*68) m[J-1].cs by rw [fk])
    refine an ⟨ba,?_⟩
    refine aV 16 j (λw _=>gI j j (show J-1<d.length by omega)) (aW 17 j (c5 c j j j (by simpa using m[J].one) (by rw [List.size_toArray];exact m[J].len E) (by rw [sI];omega) (λw c=>?_)))
    have ag:∀x∈m.set J m[J-1],x.cs.length=68:=λx u=>(pL u).elim (s x) (λe=>by rw [e];exact m[J-1].len y)
    have ac:=ab.z5 (by rw [hp];exact N) ag (J-1) (by rw [hp];omega) m[J] (m[J].len E)
    have c:=C.gk c (show setCells (setCells cur (J*68) m[J-1].cs) (0+(J-1)*68) m[J].cs=setCells (setCells cur (J*68) m[J-1].cs) ((J-1)*68) m[J].cs by rw [fk])
    refine an ⟨ba,?_⟩
    refine bO (bt 2 j j j (hv J 1 (by omega) (by omega)) (bX 1 j ?_))
    have al:m[J].f<m[J-1].f:=by have:=br L;omega
    have am:((m.set J m[J-1]).set (J-1) m[J]).Perm m:=List.set_set_perm n (by omega)
    refine⟨(J-1,(m.set J m[J-1]).set (J-1) m[J],_),⟨j,j,j,j,j,j,ba⟩,⟨by dsimp only;omega,am.trans D,H.swap aj G n al,ac,c⟩,by dsimp only;omega⟩
  refine bt 3 j j j (gh i 1 (by omega)) (bX 1 j ?_)
  have W:=H.put G n (.inr (by have:=bw L;omega))
  rotate_left
  refine af 4 13 j (bO (bt 4 j j j (gh i 1 (by omega)) (bX 1 j ?_)))
  have W:=H.put G n (.inl (by have:=bw K;omega))
  rotate_left
  all_goals
   refine⟨(i+1,m,_),⟨j,j,j,j,j,ba⟩,⟨by dsimp only;omega,by dsimp only;omega,D,λa b A t B T M=>W a b A t B (by dsimp only at T;omega) M,N▸g,c.as (cI:=[R p cur 108])⟩,by dsimp only;omega⟩
 refine ao 1 j j ?_
 have hlen:=F.length_eq
 have ax:d.length<=i:=by have:=bw I;omega
 exact⟨j,l,ak,F,λa b A t B=>aM a b A t B (by omega) (by omega),q,c⟩
theorem ER{o:World}{x:Nat}(a:x<=12):Calls prog 315 #[.int .u64 x] o (aS λr w=>(∃z,r= .int .i64 z)/\w=o):=by
 refine a1 [.int .u64 x] func315 ntmps315 results315 ?_
 refine iW 8 j j (ff (by omega)) ?_
 refine iW 6 j j (ff (by omega)) ?_
 refine iW 6 j j (ff (by omega)) ?_
 refine ar 5 j (hF j j j j ?_)
 refine b2 21 (.int .u8 (x:Nat)) j (aL (Value.int .u8) (by show IntKind.u8.wrap (x:Int)=_;rw [l4];omega)) ?_
 refine ra j j j j (Nat.lt_of_le_of_lt a bR) ?_
 refine hF j j j j ?_
 refine ao 2 j j ?_
 exact⟨⟨_,j⟩,j⟩
theorem ES{o:World}{x:Nat}(b:x<=12):Calls prog 284 #[.int .u64 x] o (aS λr w=>(∃z,r= .int .i64 z)/\w=o):=by
 refine a1 [.int .u64 x] func284 ntmps284 results284 (bm 9 (ER b) j (λr w⟨⟨z,a⟩,hw⟩=>?_))
 subst a
 subst hw
 refine ao 1 j j ?_
 exact⟨⟨_,j⟩,j⟩
theorem Gg{o:World}{v:Value}{a:List aG}{ak:List Chunk}(c:ej v a ak)(k:∀x∈a,x.ok)(bx:∀x∈a,0<=x.f/\x.f<=1000)(m:a.length<=12)(aP:(a.map aG.f).Nodup)(g:Own [ak] o){z:Int}:Calls prog 337 #[v,.int .i64 (0:Nat),.int .i64 a.length,.int .i64 z,.func (.func 298) #[] #[]] o (aS λr w=>r= .tuple #[]/\∃b,ej v (jU a) b/\C o (av [ak]) [b] w):=by
 refine a1 [v,.int .i64 (0:Nat),.int .i64 a.length,.int .i64 z,.func (.func 298) #[] #[]] func337 ntmps337 results337 (cY 7 j (cA:=Unit) (λ_=>[(0,v),(1,.int .i64 (0:Nat)),(2,.int .i64 (a.length:Nat)),(3,.int .i64 z),(4,.func (.func 298) #[] #[]),(10,.bool true),(11,.bool true)]) (λ_ w=>w=o) (λ_=>0) () ⟨j,j,j,j,j,j,j,ba⟩ j ?_)
 rintro _ w hw
 subst hw
 refine bt 5 j j j (hv a.length 0 (by omega) (by omega)) (md 6 j j (jb (by omega)) ?_)
 have h:=Ej c k bx (by omega) g
 refine bp 6 h j (λw⟨l,b,i,aM,d,ad⟩=>ao 0 j j ?_)
 have e:=CF i aM aP
 subst e
 exact⟨j,b,d,ad⟩
theorem He{o:World}{v:Value}{a:List aG}{ak:List Chunk}(d:ej v a ak)(l:∀x∈a,x.ok)(bx:∀x∈a,0<=x.f/\x.f<=1000)(e:a.length<=12)(aP:(a.map aG.f).Nodup)(h:Own [ak] o):Calls prog 323 #[v,.func (.func 298) #[] #[]] o (aS λr w=>r= .tuple #[]/\∃b,ej v (jU a) b/\C o (av [ak]) [b] w):=by
 obtain⟨A,c,rfl,_⟩:=d.form
 refine a1 [.slice A a.length c,.func (.func 298) #[] #[]] func323 ntmps323 results323 (ar 9 j (hF j j j j ?_))
 refine b2 10 (.int .u64 (a.length:Nat)) j (aL (Value.int .u64) (by show IntKind.u64.wrap (a.length:Int)=_;rw [oA];omega)) (bm 0 (ES e) j (λr w⟨⟨z,k⟩,hw⟩=>?_))
 subst k
 subst hw
 have i:=Gg d l bx e aP h (z:=z)
 refine bp 1 i j (λw⟨b,g,ad⟩=>ao 0 j j ?_)
 exact⟨j,b,g,ad⟩
theorem Hf{o:World}{aJ a:Nat}{cV:Option Addr}{l:List aG}{sum:List UInt8}(g:f9 cV l (av [R aJ #[.pointer cV] 282,R a (aE sum).toArray 66]) o)(d:∀x∈l,x.ok)(p:sum.length=32)(m:l.length<=1000000)(bx:∀x∈l,0<=x.f/\x.f<=1000)(n:(e8 l sum).length<=12)(aP:((e8 l sum).map aG.f).Nodup)(b:Own [R aJ #[.pointer cV] 282,R a (aE sum).toArray 66] o):Calls prog 297 #[.func (.func 318) #[] #[Z aJ,Z a],.func (.func 298) #[] #[]] o (aS λr w=>∃ak,ej r (jU (e8 l sum)) ak/\C o (av [R aJ #[.pointer cV] 282,R a (aE sum).toArray 66]) ([R aJ #[.pointer cV] 282,R a (aE sum).toArray 66]++[ak]) w):=by
 refine a1 [.func (.func 318) #[] #[Z aJ,Z a],.func (.func 298) #[] #[]] func297 ntmps297 results297 ?_
 have c:=C1 g d p m b
 refine bm 6 c j (λr w⟨ak,i,b⟩=>?_)
 have c:=He i (λx h=>d x (hL.1 h).1) (λx h=>bx x (hL.1 h).1) n aP (C.jl b)
 refine bm 5 c j (λs w⟨q,e,k,ad⟩=>?_)
 have b:=C.jd b ad
 refine ao 4 j j ?_
 exact⟨e,k,b⟩
theorem hT.len:∀{us:List Value}{l:List (List UInt8)}{H:List Chunk},hT us l H->us.length=l.length
 |[],[],_,_=>rfl
 |[],_::_,_,h=>h.elim
 |_::_,[],_,h=>h.elim
 |_::us,_::l,_,⟨_,_,_,_,h⟩=>by simp [h.len]
theorem hT.read{w:World}:∀{us:List Value}{l:List (List UInt8)}{H:List Chunk},hT us l H->Holds w H->∀(i:Nat)(a:i<l.length),∃A c,us[i]? =some (.slice A l[i].length c)/\l[i].length<=c/\c<=maxLen/\Rd w A (aE l[i])
 |[],[],_,_,_,i,a=>by simp at a
 |[],_::_,_,h,_,_,_=>h.elim
 |_::_,[],_,h,_,_,_=>h.elim
 |u::us,x::l,_,⟨ah,aA,rfl,hu,h⟩,b,0,_=>by
  obtain⟨A,c,rfl,d,e,f,_⟩:=hu.read b.left
  exact⟨A,c,j,d,e,f⟩
 |u::us,x::l,_,⟨ah,aA,rfl,hu,h⟩,b,i+1,a=>by
  have:=h.read b.right i (by simpa using a)
  simpa using this
theorem Row.nL{e:TypeId}{size n c m:Nat}{A:Option Addr}{xs:List Value}{G:List Chunk}(h:Row e size (.slice A m c) n xs G):∀a,A=some a->a.block∈av [G]:=λa d=>by
 rcases h.2 with⟨b,_⟩|⟨g,_,_,b,rfl,_⟩
 .cases b;cases d
 .cases b;cases d;simp [av]
theorem hT.nL:∀{us:List Value}{l:List (List UInt8)}{H:List Chunk},hT us l H->∀(i:Nat)(A:Option Addr)(n c:Nat),us[i]? =some (.slice A n c)->∀a,A=some a->a.block∈av [H]
 |[],[],_,_,i,_,_,_,b,_,_=>by simp at b
 |[],_::_,_,h,_,_,_,_,_,_,_=>h.elim
 |_::_,[],_,h,_,_,_,_,_,_,_=>h.elim
 |u::us,x::l,_,⟨ah,aA,rfl,hu,h⟩,0,A,n,c,b,a,d=>by
  simp at b
  subst b
  have:=hu.nL a d
  simp [av] at this⊢
  exact .inl this
 |u::us,x::l,_,⟨ah,aA,rfl,hu,h⟩,i+1,A,n,c,b,a,d=>by
  have:=h.nL i A n c (by simpa using b) a d
  simp [av] at this⊢
  exact .inr this
theorem C.k0{o w:World}{F:List Nat}{G:List Chunk}{ae:List (List Chunk)}{b:Nat}(h:C o F (G::ae) w)(a:b∈av [G]):b∉av ae:=λc=>by
 have:=h.nodup
 rw [oP] at this
 exact(iy.1 this).2.2 b a b c j
theorem uC{α β:Type}{f:α->Option β}:∀{l:List α}{i:Nat},(l.take i).findSome? f=none->∀(b:i<l.length)(y:β),f l[i]=some y->l.findSome? f=some y
 |[],_,_,b,_,_=>by simp at b
 |a::r,0,_,_,y,h=>by have h:f a=some y:=h;simp [h]
 |a::r,i+1,h,b,y,c=>by
  simp only [List.take_succ_cons,List.findSome?_cons] at h⊢
  cases bx:f a with
  |some z=>rw [bx] at h;cases h
  |none=>
   rw [bx] at h
   exact uC h (by simpa using b) y c
theorem xQ{α β:Type}{f:α->Option β}{l:List α}{i:Nat}(h:(l.take i).findSome? f=none)(a:i<l.length)(aP:f l[i]=none):(l.take (i+1)).findSome? f=none:=by
 rw [fF a,List.findSome?_append,h]
 simp [aP]
def oK(g:al)(b:List aG)(x:List UInt8):Option (List UInt8×List aG):=if h8 g.n<=(jU (e8 b (bL x))).length then some (x,jU (e8 b (bL x))) else none
theorem Dz(g:al)(s:ai)(b:List aG):s.fl g b=s.dg.findSome? (oK g b):=rfl
theorem xF{o:World}{aq:Nat}{g:al}{s:ai}{c:eT}(K:o.heap[aq]? =some (.cells (j4 g s c).toArray 285 (0,0)))(X:g.at o)(E:g.ok){c1:List Chunk}(T:gm c.dg s.dg c1)(D:Holds o c1)(am:∀x∈s.dg,x.length<=200){cV:Option Addr}{l:List aG}{N:Nat}(P:f9 cV l [] o)(k:fD g N l)(R:N<=1000000):Calls prog 269 #[Z aq,.pointer cV] o (aS λr w=>∃v1 v2 ak,r= .tuple #[v1,v2,.bool (s.fl g l).isSome]/\C o [] [ak] w/\∀y,s.fl g l=some y->(∃A c,v1= .slice A y.1.length c/\y.1.length<=c/\c<=maxLen/\Rd w A (aE y.1)/\∀a,A=some a->a.block∈av [c1])/\ej v2 y.2 ak):=by
 have b:Own [] o:=C.start o
 obtain⟨aC,aB,us,rfl,S,B⟩:=T
 obtain⟨H,I,W,aM,aj,ag,_⟩:=S.read D.left
 have ap:∀x∈l,x.ok:=k.ok
 have bx:∀x∈l,0<=x.f/\x.f<=1000:=λx h=>by have:=r4 (k.cP x h);have O:g.n<=10:=E.n10;omega
 have ac:l.length<=1000000:=ed k.len R
 refine a1 [Z aq,.pointer cV] func269 ntmps269 results269 (au 11 j (aw (b.cd K) (show(j4 g s c).toArray[0+9]? =some (.slice H s.dg.length I) by rw [<-W];rfl)) ?_)
 refine cY 3 j (cA:=Nat) (λi=>[(0,Z aq),(1,.pointer cV),(4,.slice none 0 0),(5,.slice none 0 0),(6,.bool false),(13,.slice H s.dg.length I),(14,.int .i64 (s.dg.length:Nat)),(15,.int .i64 (i:Nat))])
  (λi w=>i<=s.dg.length/\(s.dg.take i).findSome? (oK g l)=none/\C o [] [] w) (λi=>s.dg.length-i) 0 ⟨j,j,j,j,j,j,j,j,ba⟩ ⟨ch _,j,b⟩ ?_
 rintro i w ⟨aK,e,b⟩
 refine aT 4 j j (λu=>?_) (λu=>?_)
 .have d:i<s.dg.length:=by have:=br u;omega
  obtain⟨M,ci,G,Y,aL,ah⟩:=B.read (D.right.st b) i d
  have aO:=am s.dg[i] (ek d)
  refine ar 5 j (fL j j j j (b.rd ag (bU.of_nil _ _)) (v:=.slice M s.dg[i].length ci) (by rw [gT];exact G) d (λaD aI V=>?_))
  refine au 0 j V ?_
  have m:=np (p:=s.dg[i]) ah (by omega) Y
  refine bm 5 m j (λr w⟨F,ab⟩=>?_)
  have F:r= .agg (aE (bL s.dg[i])).toArray:=F
  subst F
  have b:=b.aN ab
  have m:=ze (o:=w) (cV:=cV) (sum:=bL s.dg[i])
  refine bm 0 m j (λr w⟨aJ,aF,af,ad⟩=>?_)
  subst af
  have Q:=(P.st b (by simp)).here ad
  have b:=b.aN ad
  have m:=Hf Q ap (e4 _) ac bx (ed (y9 k _) (by have O:g.n<=10:=E.n10;omega)) (vp k _) b.cE
  refine bm 0 m j (λr w⟨ak,J,ad⟩=>?_)
  have b:C o [] [ak] w:=(b.cD ad).as
  obtain⟨aA,dn,rfl,_⟩:=J.form
  refine bp 6 (zD (b.cd K) (X.st b (al.off.nil g)) E) j (λaP an=>?_)
  subst an
  refine aT 1 j j (λz=>?_) (λz=>?_)
  .refine ao 7 j j ?_
   have t:oK g l s.dg[i]=some (s.dg[i],jU (e8 l (bL s.dg[i]))):=by unfold oK;exact if_pos (by have:=of_decide_eq_true z;omega)
   have t:=uC e d _ t
   rw [<-Dz] at t
   refine⟨_,_,ak,by rw [t];rfl,b,λy q=>?_⟩
   rw [t] at q
   cases q
   obtain⟨g1,aH,L,ax,ay,az⟩:=B.read (D.right.st b) i d
   rw [G] at L
   cases L
   refine⟨⟨_,_,j,ax,ay,az,λa U=>?_⟩,J⟩
   have:=B.nL i _ _ _ G a U
   simp [av] at this⊢
   exact .inr this
  refine bt 2 j j j (gh i 1 (by unfold maxLen at aj;omega)) (bX 1 j ?_)
  have ae:oK g l s.dg[i]=none:=by unfold oK;exact if_neg (by have:=of_decide_eq_false z;omega)
  refine⟨i+1,⟨j,j,j,j,j,j,j,j,ba⟩,⟨d,xQ e d ae,b.bare⟩,by omega⟩
 refine ao 6 j j ?_
 have aa:i=s.dg.length:=by have:=bw u;omega
 subst aa
 rw [gy] at e
 have e:s.fl g l=none:=e
 refine⟨.slice none 0 0,.slice none 0 0,[],by rw [e];rfl,b.empty,λy q=>?_⟩
 rw [e] at q;cases q
abbrev eT.oF(c:eT)(k:Nat):Value:=if k=0 then c.cT else c.ax
theorem zH(g:al)(s:ai)(c:eT){k:Nat}(ad:k<2):(j4 g s c).toArray[0+10+k*1]? =some (c.oF k):=by
 match k,ad with
 |0,_=>rfl
 |1,_=>rfl
theorem Ai(k:Nat)(ad:k<2):evalBin .sub .i64 ((k+1:Nat):Int) 1=some (.int .i64 (k:Int)):=by
 match k,ad with
 |0,_=>rfl
 |1,_=>rfl
abbrev jA(bh:Nat)(u:Value):Chunk:=(bh,.cells #[u] 384 (0,0))
theorem wZ{m:List (Int×Value)}{t:List (Int×List aG)}{G:List Chunk}(h:c6 ie m t G)(k:Int):∃cV,(a2 m k).getD tb= .pointer cV/\((cV=none/\a2 t k=none)\/
 ∃bh u l ak H1 c,cV=some ⟨bh,0,none⟩/\a2 t k=some l/\ej u l ak/\G=H1++((jA bh u::ak)++c)/\∀b0 b a,ej b b0 a->c6 ie m (cj t k b0) (H1++((jA bh b::a)++c))):=by
 cases ad:a2 t k with
 |none=>rw [h.ng ad];exact⟨none,j,.inl ⟨j,j⟩⟩
 |some l=>
  obtain⟨v,ah,i,aA,e,rfl,⟨bh,u,ak,rfl,d,rfl⟩,g⟩:=h.find ad
  rw [e]
  exact⟨_,j,.inr ⟨bh,u,l,ak,ah,aA,j,j,d,j,λb0 b a f=>g b0 _ ⟨bh,b,a,j,f,j⟩⟩⟩
theorem f9.ofRow{w:World}{bh:Nat}{u:Value}{l:List aG}{ak:List Chunk}(f:ej u l ak)(g:w.heap[bh]? =some (.cells #[u] 384 (0,0)))(e:Holds w ak):f9 (some ⟨bh,0,none⟩) l [] w:=by
 obtain⟨A,d,rfl,a,b,c,_⟩:=f.read e
 exact .inr ⟨bh,A,d,j,g,a,b,c,by simp,bU.of_nil _ _⟩
theorem ie.GC{w:World}{m:List (Int×Value)}{t:List (Int×List aG)}{G:List Chunk}(h:c6 ie m t G)(k:Int)(b:Holds w G):∃cV,(a2 m k).getD tb= .pointer cV/\f9 cV ((a2 t k).getD []) [] w:=by
 obtain⟨cV,c,d⟩:=wZ h k
 refine⟨cV,c,?_⟩
 rcases d with⟨rfl,a⟩|⟨bh,u,l,ak,H1,f,rfl,a,e,rfl,_⟩
 .rw [a];exact .inl ⟨j,j⟩
 .rw [a];exact f9.ofRow e (b.right.left.head) b.right.left.tail
theorem aG.sF(v:aG)(a:v.ok){w:World}{b:Nat}{e:TypeId}{e2:Nat×Nat}(h:w.heap[b]? =some (.cells v.cs.toArray e e2)):Rd w (some ⟨b,0+3,none⟩) (aE v.sum):=λi x c=>⟨_,j,by
 rw [add_lit]
 exact aw h (v.p7 a i x c)⟩
theorem w0{o:World}{aq:Nat}{g:al}{s:ai}{c:eT}(e:o.heap[aq]? =some (.cells (j4 g s c).toArray 285 (0,0))){k:Nat}(ad:k<2){view:Int}{a:Option Addr}{m:List (Int×Value)}(f:c.oF k= .pointer a)(d:dG 329 o a m):Calls prog 265 #[Z aq,.int .i64 (k+1:Nat),ab view] o (aS λr w=>r=(a2 m view).getD tb/\C o [] [] w):=by
 have b:Own [] o:=C.start o
 refine a1 [Z aq,.int .i64 (k+1:Nat),ab view] func265 ntmps265 results265 (bt 7 j j j (Ai k ad) (ar 2 j (q9 j j j j ad ?_)))
 refine au 0 j (aw (b.cd e) ((zH g s c ad).trans (aL some f))) ?_
 have h:=DT (k:=view) d
 refine bp 1 h j (λw i=>?_)
 have b:=b.aN i
 refine ao 9 j j ?_
 exact⟨j,b.bare⟩
theorem rM{o:World}{aq:Nat}{g:al}{s:ai}{c:eT}{v:aG}{k:Nat}(ad:k<2)(am:v.k=(k+1:Nat))(x:v.ok){t:List (Int×List aG)}{bd:List Chunk}{N:Nat}(az:fp 329 ie (c.oF k) t bd)(aH:∀p∈t,fD g N p.2)(aJ:N<=1000000)(a:Own [bg g aq s c,bd] o):Calls prog 232 #[Z aq,.agg v.cs.toArray] o (aS λr w=>r= .tuple #[]/\∃V,fp 329 ie (c.oF k) (cj t v.v (iR ((a2 t v.v).getD []) v)) V/\C o (av [bg g aq s c,bd]) [bg g aq s c,V] w):=by
 obtain⟨d,ag,I,m,H,J,hm,ah,rfl⟩:=az
 obtain⟨e,X⟩:∃e,e=av [bg g aq s c,ay 329 d ag I++H]:=⟨_,j⟩
 rw [<-X]
 have a:C o e [bg g aq s c,ay 329 d ag I++H] o:=X▸a
 have a:C o e [bg g aq s c,ay 329 d ag I,H] o:=a.perm (by simp)
 refine a1 [Z aq,.agg v.cs.toArray] func232 ntmps232 results232 (bP 2 a j j (λq w a=>?_))
 have a:C o e [R q v.cs.toArray 108,bg g aq s c,ay 329 d ag I,H] w:=a
 refine au 4 j (aw (C.aj a) v.gU) (b2 7 (.int .i64 (k+1:Nat)) j (aL (Value.int .i64) am) (au 1 j (aw (C.aj a) v.dn) ?_))
 have z:=w0 (aq:=aq) (s:=s) (g:=g) (c:=c) (C.aj a) ad J (dG.own (a.to (ay 329 d ag I)) hm) (view:=v.v)
 refine bp 0 z j (λw B=>?_)
 have a:=a.aN B
 obtain⟨cV,aB,aa⟩:=wZ ah v.v
 refine b2 10 (.pointer cV) j aB (aT 6 j j (λF=>?_) (λF=>?_))
 refine ar 2 j (cO (c:= #[.slice none 0 0]) j j j (λ_=>by kernel_rfl) ?_)
 refine bP 0 a j j (λy w a=>?_)
 have a:C o e ([jA y (.slice none 0 0)]::_) w:=a
 have a:C o e [R q v.cs.toArray 108,bg g aq s c,ay 329 d ag I,H,[jA y (.slice none 0 0)]] w:=a.as
 have a:=a.drew
 refine bz 1 j (λw=>∃ae,C o e ([R q v.cs.toArray 108,bg g aq s c]++ae) w) ⟨_,a⟩ (af 0 2 j (be 2 j a7 v.gU (aV 3 j (λw⟨_,a⟩=>dr j j (show evalBin .sub .i64 v.k 1=some (.int .i64 (k:Int)) by rw [am];exact Ai k ad)) (af 4 2 j (aV 6 j (λw⟨_,a⟩=>v4 j j ad) (be 7 j a7 ((zH g s c ad).trans (aL some J)) (af 8 1 j (be 9 j a7 v.dn (af 10 1 j (aW 11 j ?_))))))))))
 have z:=G0 (k:=v.v) (v:=Z y) (a.ours (cI:=[ay 329 d ag I])) hm
 refine bF j j j z (λw⟨T,aC,B⟩=>?_)
 have a:=a.b4 B
 have a:C o e [R q v.cs.toArray 108,bg g aq s c,ay 329 d ag T,H,[jA y (.slice none 0 0)]] w:=a.as
 refine an ⟨⟨_,a⟩,?_⟩
 refine bO ?_
 have ab:a2 t v.v=none:=by
  rcases aa with h|⟨_,_,_,_,_,_,rfl,_⟩
  .exact h.2
  .cases F
 obtain⟨bh,aA⟩:∃bh,bh=y:=⟨_,j⟩
 subst aA
 obtain⟨u,l,ak,H1,n,S,i,P,G,M,O,Q,a⟩:∃u l ak H1 n S i,cf bu i S/\ej u l ak/\(a2 t v.v).getD []=l/\fD g N l/\(∀b0 K D,ej K b0 D->c6 ie S (cj t v.v b0) (H1++((jA bh K::D)++n)))/\C o e [R q v.cs.toArray 108,R bh #[u] 384,bg g aq s c,ay 329 d ag i,H1,ak,n] w:=
  ⟨.slice none 0 0,[],[],H,[],_,T,aC,Row.nil _ _,by rw [ab];rfl,fD.nil g N,λb0 K D ax=>by rw [g6];exact ah.add ab ⟨bh,K,D,j,ax,j⟩,C.perm (A:=[R q v.cs.toArray 108,[jA bh (.slice none 0 0)],bg g aq s c,ay 329 d ag T,H]) a.as (by simp)⟩
 refine bS 4 (U:=aE v.sum) j j (by rw [ds];exact x.1) (v.sF x (C.aj a)) ?_
 rotate_left
 obtain⟨bh,u,l,ak,H1,n,rfl,ac,G,ap,Q⟩:=aa.resolve_left (λh=>by rw [h.1] at F;cases F)
 rw [ap] at a
 have a:C o e [ay 329 d ag I,R q v.cs.toArray 108,bg g aq s c,H1,R bh #[u] 384,ak,n] w:=C.perm (A:=[ay 329 d ag I,R q v.cs.toArray 108,bg g aq s c,H1++((jA bh u::ak)++n)]) a.as (by simp)
 have a:C o e [R q v.cs.toArray 108,R bh #[u] 384,bg g aq s c,ay 329 d ag I,H1,ak,n] w:=a.as
 have M:(a2 t v.v).getD []=l:=by rw [ac];rfl
 have O:fD g N l:=aH _ (hN ac)
 obtain⟨i,P,a⟩:∃i,cf bu i m/\C o e [R q v.cs.toArray 108,R bh #[u] 384,bg g aq s c,ay 329 d ag i,H1,ak,n] w:=⟨I,hm,a⟩
 refine bS 5 (U:=aE v.sum) j j (by rw [ds];exact x.1) (v.sF x (C.aj a)) ?_
 rotate_left
 all_goals
  refine au 1 j (aw (C.aj a) (v.eM x)) ?_
  have z:=D2 (f:=v.f) (f9.ofRow G (C.aj (b:=bh) a) (a.holds (by simp))) O.ok x.1
  refine bp 0 z j (λw B=>?_)
  have a:=a.aN B
  refine aT 1 j j (λL=>?_) (λL=>?_)
  .have a:C o e [R q v.cs.toArray 108,R bh #[u] 384,bg g aq s c,ay 329 d ag i,H1,ak,n] w:=a.as
   have a:=a.drew
   have hlen:=O.len
   refine bz 0 j (λw=>∃ae,C o e ([R q v.cs.toArray 108,R bh #[u] 384]++ae) w) ⟨_,a⟩ (af 0 4 j (be 4 j a7 j (aV 5 j (λw⟨_,a⟩=>dc (U:=v.cs) j j (v.len x) (bq (C.aj a))) (aW 6 j (gv (U:=v.cs) a j j j (v.len x) (by decide) (by decide) (λW w a=>?_))))))
   have aP:=bq (C.aj (b:=W) a)
   have a:C o e [R q v.cs.toArray 108,R bh #[u] 384,R W v.cs.toArray 108,bg g aq s c,ay 329 d ag i,H1,ak,n] w:=a.as
   refine an ⟨⟨_,a⟩,?_⟩
   refine aW 7 j (eK (a.to ak) G j j (by decide) j j j (news:=v.cs) (v.len x) aP (List.all_eq_true.1 v.one) (by omega) (by unfold maxLen;omega) (λv1 E w Y a=>?_))
   have a:C o e [R q v.cs.toArray 108,R bh #[u] 384,bg g aq s c,ay 329 d ag i,H1,E,n] w:=a.as
   refine an ⟨⟨_,a⟩,?_⟩
   refine af 8 2 j (dy 10 j (cC (a.bf bh) j j j Y.one bR (λw a=>?_)))
   have a:C o e ([jA bh v1]::_) w:=a
   have a:C o e [bg g aq s c,ay 329 d ag i,H1,[jA bh v1],E,n] w:=a.as
   refine an (cX (ao 0 j j ?_))
   have aD:oN l v.sum v.f=false:=by simpa using L
   refine⟨j,ay 329 d ag i++(H1++((jA bh v1::E)++n)),⟨d,ag,i,_,_,J,P,?_,j⟩,C.perm (A:=[bg g aq s c,ay 329 d ag i,H1,[jA bh v1],E,n]) a (by simp)⟩
   rw [M]
   unfold iR
   rw [aF (by rw [aD];decide)]
   refine Q _ _ _ ?_
   unfold ej
   rw [ca,List.length_singleton,sZ]
   exact Y
  refine ao 1 j j ?_
  have aI:oN l v.sum v.f=true:=by simpa using L
  have a:C o e [bg g aq s c,ay 329 d ag i,H1,[jA bh u],ak,n] w:=a.as
  refine⟨j,ay 329 d ag i++(H1++((jA bh u::ak)++n)),⟨d,ag,i,_,_,J,P,?_,j⟩,C.perm (A:=[bg g aq s c,ay 329 d ag i,H1,[jA bh u],ak,n]) a (by simp)⟩
  rw [M]
  unfold iR
  rw [a6 aI]
  exact Q _ _ _ G
theorem AG{o:World}{aq:Nat}{g:al}{s:ai}{c:eT}{k:Nat}(ad:k<2){t:List (Int×List aG)}{bd:List Chunk}{N:Nat}{A:Option Addr}{x:List UInt8}{g7:Nat}(M:fp 329 ie (c.oF k) t bd)(O:∀p∈t,fD g N p.2)(L:N<=1000000)(a:Own [bg g aq s c,bd] o)(D:g.at o)(E:g.ok)(z:g.off (av [bg g aq s c,bd]))(P:Rd o A (aE x))(H:bU A (aE x) (av [bg g aq s c,bd]))(S:x.length<=10000)(Q:x.length<=g7):Calls prog 271 #[Z aq,.int .i64 (k+1:Nat),.slice A x.length g7] o (aS λr w=>∃n bl,cz r (s.aH g (k+1:Nat) x).2 bl/\fp 329 ie (c.oF k) (cj t s.view (iR ((a2 t s.view).getD []) (cU g (k+1:Nat) s.slot s.view (bL x) s.am))) n/\C o (av [bg g aq s c,bd]) [bg g aq s c,n,bl] w):=by
 obtain⟨d,K⟩:∃d,d=av [bg g aq s c,bd]:=⟨_,j⟩
 rw [<-K] at z H⊢
 have a:C o d [bg g aq s c,bd] o:=K▸a
 have m:(cU g (k+1:Nat) s.slot s.view (bL x) s.am).ok:=iU _ _ _ _ _ _ (e4 _)
 refine a1 [Z aq,.int .i64 (k+1:Nat),.slice A x.length g7] func271 ntmps271 results271 ?_
 have a:=a.drew
 refine bz 4 j (λw=>∃ae,C o d ([bg g aq s c]++ae) w) ⟨_,a⟩ (af 0 3 j (be 3 j a7 j (af 4 4 j (be 8 j a7 j (af 9 3 j (be 12 j a7 j (af 13 1 j (af 15 3 j (be 18 j a7 j (aJ 14 20 j j ?_ ?_))))))))))
 .have h:=np (p:=x) (a.rd P H) (by omega) Q
  refine cN j j j h (λr w⟨u,i⟩=>?_)
  have u:r= .agg (aE (bL x)).toArray:=u
  subst u
  have a:=a.aN i
  have a:C o d ([bg g aq s c,bd]) w:=a.as
  refine an ⟨⟨_,a⟩,?_⟩
  refine aJ 19 20 j j ?_ ?_
  have h:=oH (D.st a z) E (k:=(k+1:Nat)) (s:=s.slot) (v:=s.view) (f:=s.am) (e4 x)
  refine bF j j j h (λw i=>?_)
  have a:=a.aN i
  have a:C o d ([bg g aq s c,bd]) w:=a.as
  refine an ⟨⟨_,a⟩,?_⟩
  refine aW 20 j (en a j j (λe w a=>?_))
  obtain⟨l,a,B⟩:∃l:Array Value,C o d (R e l 108::_) w/\l.size=68:=⟨_,a,j⟩
  have a:C o d [bg g aq s c,bd,R e l 108] w:=a.as
  rotate_left
  refine en a j j (λe w a=>?_)
  obtain⟨l,a,B⟩:∃l:Array Value,C o d (R e l 108::_) w/\l.size=68:=⟨_,a,j⟩
  have a:C o d [bg g aq s c,bd,R e l 108] w:=a.as
  refine an ⟨⟨_,a⟩,?_⟩
  refine aW 19 j ?_
  have h:=oH (D.st a z) E (k:=(k+1:Nat)) (s:=s.slot) (v:=s.view) (f:=s.am) (e4 x)
  refine bF j j j h (λw i=>?_)
  have a:=a.aN i
  have a:C o d ([bg g aq s c,bd,R e l 108]) w:=a.as
  rotate_left
  all_goals
   refine an ⟨⟨_,a⟩,?_⟩
   refine dy 21 j (c5 (a.bf e) j j j (by simpa using(cU g (k+1:Nat) s.slot s.view (bL x) s.am).one) (by rw [List.size_toArray];exact(cU g (k+1:Nat) s.slot s.view (bL x) s.am).len m) (by rw [B];decide) (λw a=>?_))
   have a:=C.whole (U:=(cU g (k+1:Nat) s.slot s.view (bL x) s.am).cs) a (by rw [(cU g (k+1:Nat) s.slot s.view (bL x) s.am).len m];exact B)
   have a:C o d [bg g aq s c,bd,R e (cU g (k+1:Nat) s.slot s.view (bL x) s.am).cs.toArray 108] w:=a.as
   refine an (cX (bS 3 (U:=(cU g (k+1:Nat) s.slot s.view (bL x) s.am).cs) j j ((cU g (k+1:Nat) s.slot s.view (bL x) s.am).len m) (bq (C.aj a)) ?_))
   have h:=rM (aq:=aq) (s:=s) (c:=c) ad (show(cU g (k+1:Nat) s.slot s.view (bL x) s.am).k=_ from j) m M O L a.ours
   refine bp 0 h j (λw⟨n,G,i⟩=>?_)
   have a:=a.b4 i
   have a:C o d [bg g aq s c,R e (cU g (k+1:Nat) s.slot s.view (bL x) s.am).cs.toArray 108,n] w:=a.as
   have a:=a.drew
   refine bz 1 j (λw=>∃ae,C o d ([bg g aq s c,R e (cU g (k+1:Nat) s.slot s.view (bL x) s.am).cs.toArray 108]++ae) w) ⟨_,a⟩ (af 0 4 j (be 4 j a7 j (aV 5 j (λw⟨_,a⟩=>dc (U:=(cU g (k+1:Nat) s.slot s.view (bL x) s.am).cs) j j ((cU g (k+1:Nat) s.slot s.view (bL x) s.am).len m) (bq (C.aj a))) (aW 6 j (gv (U:=(cU g (k+1:Nat) s.slot s.view (bL x) s.am).cs) a j j j ((cU g (k+1:Nat) s.slot s.view (bL x) s.am).len m) (by decide) (by decide) (λq w a=>?_))))))
   have a:C o d [bg g aq s c,R e (cU g (k+1:Nat) s.slot s.view (bL x) s.am).cs.toArray 108,R q (cU g (k+1:Nat) s.slot s.view (bL x) s.am).cs.toArray 108,n] w:=a.as
   refine an ⟨⟨_,a⟩,?_⟩
   refine aV 7 j (λw _=>e0 (c:=(⟨3,0,0,0,s.view,none,[],0,some ⟨q,0,none⟩,[(cU g (k+1:Nat) s.slot s.view (bL x) s.am)],1,cK⟩:aB).cs.toArray) j (λ_=>by kernel_rfl)) (aW 8 j ?_)
   have I:(⟨3,0,0,0,s.view,none,[],0,some ⟨q,0,none⟩,[(cU g (k+1:Nat) s.slot s.view (bL x) s.am)],1,cK⟩:aB).ok _:=⟨Rd.nil _ _,by have:=bq (C.aj (b:=q) a);simpa using this,by intro y J;rw [List.mem_singleton.1 J];exact m,j⟩
   have h:=tS (aq:=aq) (s:=s) (c:=c) (C.aj a) (D.st a z) E I (ch _) bR
   refine cN j j j h (λr w⟨bl,F,i⟩=>?_)
   have a:=a.aN i
   have a:C o d [bg g aq s c,R e (cU g (k+1:Nat) s.slot s.view (bL x) s.am).cs.toArray 108,n,bl] w:=a.as
   refine an ⟨⟨_,a⟩,?_⟩
   refine af 9 1 j (bO (ao 0 j j ?_))
   exact⟨n,bl,F,G,a.as⟩
 refine en a j j (λe w a=>?_)
 obtain⟨l,a,B⟩:∃l:Array Value,C o d (R e l 108::_) w/\l.size=68:=⟨_,a,j⟩
 have a:C o d [bg g aq s c,bd,R e l 108] w:=a.as
 refine an ⟨⟨_,a⟩,?_⟩
 refine aW 14 j ?_
 have h:=np (p:=x) (a.rd P H) (by omega) Q
 refine cN j j j h (λr w⟨u,i⟩=>?_)
 have u:r= .agg (aE (bL x)).toArray:=u
 subst u
 have a:=a.aN i
 have a:C o d ([bg g aq s c,bd,R e l 108]) w:=a.as
 refine an ⟨⟨_,a⟩,?_⟩
 refine aW 19 j ?_
 have h:=oH (D.st a z) E (k:=(k+1:Nat)) (s:=s.slot) (v:=s.view) (f:=s.am) (e4 x)
 refine bF j j j h (λw i=>?_)
 have a:=a.aN i
 have a:C o d ([bg g aq s c,bd,R e l 108]) w:=a.as
 refine an ⟨⟨_,a⟩,?_⟩
 refine dy 21 j (c5 (a.bf e) j j j (by simpa using(cU g (k+1:Nat) s.slot s.view (bL x) s.am).one) (by rw [List.size_toArray];exact(cU g (k+1:Nat) s.slot s.view (bL x) s.am).len m) (by rw [B];decide) (λw a=>?_))
 have a:=C.whole (U:=(cU g (k+1:Nat) s.slot s.view (bL x) s.am).cs) a (by rw [(cU g (k+1:Nat) s.slot s.view (bL x) s.am).len m];exact B)
 have a:C o d [bg g aq s c,bd,R e (cU g (k+1:Nat) s.slot s.view (bL x) s.am).cs.toArray 108] w:=a.as
 refine an (cX (bS 3 (U:=(cU g (k+1:Nat) s.slot s.view (bL x) s.am).cs) j j ((cU g (k+1:Nat) s.slot s.view (bL x) s.am).len m) (bq (C.aj a)) ?_))
 have h:=rM (aq:=aq) (s:=s) (c:=c) ad (show(cU g (k+1:Nat) s.slot s.view (bL x) s.am).k=_ from j) m M O L a.ours
 refine bp 0 h j (λw⟨n,G,i⟩=>?_)
 have a:=a.b4 i
 have a:C o d [bg g aq s c,R e (cU g (k+1:Nat) s.slot s.view (bL x) s.am).cs.toArray 108,n] w:=a.as
 have a:=a.drew
 refine bz 1 j (λw=>∃ae,C o d ([bg g aq s c,R e (cU g (k+1:Nat) s.slot s.view (bL x) s.am).cs.toArray 108]++ae) w) ⟨_,a⟩ (af 0 4 j (be 4 j a7 j (aV 5 j (λw⟨_,a⟩=>dc (U:=(cU g (k+1:Nat) s.slot s.view (bL x) s.am).cs) j j ((cU g (k+1:Nat) s.slot s.view (bL x) s.am).len m) (bq (C.aj a))) (aW 6 j (gv (U:=(cU g (k+1:Nat) s.slot s.view (bL x) s.am).cs) a j j j ((cU g (k+1:Nat) s.slot s.view (bL x) s.am).len m) (by decide) (by decide) (λq w a=>?_))))))
 have a:C o d [bg g aq s c,R e (cU g (k+1:Nat) s.slot s.view (bL x) s.am).cs.toArray 108,R q (cU g (k+1:Nat) s.slot s.view (bL x) s.am).cs.toArray 108,n] w:=a.as
 refine an ⟨⟨_,a⟩,?_⟩
 refine aV 7 j (λw _=>e0 (c:=(⟨3,0,0,0,s.view,none,[],0,some ⟨q,0,none⟩,[(cU g (k+1:Nat) s.slot s.view (bL x) s.am)],1,cK⟩:aB).cs.toArray) j (λ_=>by kernel_rfl)) (aW 8 j ?_)
 have I:(⟨3,0,0,0,s.view,none,[],0,some ⟨q,0,none⟩,[(cU g (k+1:Nat) s.slot s.view (bL x) s.am)],1,cK⟩:aB).ok _:=⟨Rd.nil _ _,by have:=bq (C.aj (b:=q) a);simpa using this,by intro y J;rw [List.mem_singleton.1 J];exact m,j⟩
 have h:=tS (aq:=aq) (s:=s) (c:=c) (C.aj a) (D.st a z) E I (ch _) bR
 refine cN j j j h (λr w⟨bl,F,i⟩=>?_)
 have a:=a.aN i
 have a:C o d [bg g aq s c,R e (cU g (k+1:Nat) s.slot s.view (bL x) s.am).cs.toArray 108,n,bl] w:=a.as
 refine an ⟨⟨_,a⟩,?_⟩
 refine af 9 1 j (bO (ao 0 j j ?_))
 exact⟨n,bl,F,G,a.as⟩
theorem Eb{o:World}{dY:FuncId}[Entry prog dY]{bc:Array Value}{p:List UInt8->Bool}(s:∀(A:Option Addr)(x:List UInt8)(bH:Nat),Rd o A (aE x)->Calls prog dY (#[]++ #[.slice A x.length bH]++bc) o (aS λr w=>r= .bool (p x)/\w=o)){v:Value}{l:List (List UInt8)}{G:List Chunk}(n:gm v l G)(h:Holds o G):Calls prog 226 #[v,.func (.func dY) #[] bc] o (aS λr w=>(∃z:Int,r= .int .i64 z/\decide (z>=0)=l.any p)/\w=o):=by
 obtain⟨F,E,us,rfl,m,k⟩:=n
 obtain⟨e,g,rfl,M,C,u,_⟩:=m.read h.left
 refine a1 [.slice e l.length g,.func (.func dY) #[] bc] func226 ntmps226 results226 ?_
 refine cY 10 j (cA:=Nat) (λi=>[(0,.slice e l.length g),(1,.func (.func dY) #[] bc),(7,.int .i64 (l.length:Nat)),(8,.int .i64 (i:Nat))])
  (λi w=>i<=l.length/\(l.take i).any p=false/\w=o) (λi=>l.length-i) 0 ⟨j,j,j,j,ba⟩ ⟨ch _,j,j⟩ ?_
 rintro i w ⟨J,d,hw⟩
 subst hw
 refine aT 4 j j (λc=>?_) (λc=>?_)
 .have a:i<l.length:=by have:=br c;omega
  obtain⟨f,ci,B,K,L,y⟩:=k.read h.right i a
  refine ar 12 j (fL j j j j u (v:=.slice f l[i].length ci) (by rw [gT];exact B) a (λH I q=>?_))
  refine au 0 j q (hE j j j j (s f l[i] ci y) (λr w⟨D,hw⟩=>?_))
  subst D
  subst hw
  refine aT 0 j j (λb=>?_) (λb=>?_)
  .refine ao 4 j j (⟨⟨_,j,?_⟩,j⟩)
   rw [jb (by omega)]
   exact(kf.2 ⟨_,ek a,b⟩).symm
  refine bt 2 j j j (c2 i (by unfold maxLen at C;omega)) (bX 1 j (⟨i+1,⟨j,j,j,j,ba⟩,⟨a,?_,j⟩,by omega⟩))
  rw [fF a,rn,d]
  simp [b]
 refine ao 4 j j ?_
 have t:i=l.length:=by have:=bw c;omega
 rw [t,gy] at d
 exact⟨⟨_,j,by rw [d];rfl⟩,j⟩
theorem xj{o:World}{dY:FuncId}[Entry prog dY]{bc:Array Value}{p:List UInt8->Bool}(c:∀(A:Option Addr)(x:List UInt8)(bH:Nat),Rd o A (aE x)->Calls prog dY (#[]++ #[.slice A x.length bH]++bc) o (aS λr w=>r= .bool (p x)/\w=o)){v:Value}{l:List (List UInt8)}{G:List Chunk}(b:gm v l G)(a:Holds o G):Calls prog 210 #[v,.func (.func dY) #[] bc] o (aS λr w=>r= .bool (l.any p)/\w=o):=by
 refine a1 [v,.func (.func dY) #[] bc] func210 ntmps210 results210 (bm 7 (Eb c b a) j (λr w⟨⟨z,d,e⟩,hw⟩=>?_))
 subst d
 subst hw
 refine ao 2 j j ?_
 exact⟨aL Value.bool e,j⟩
theorem EF{o:World}{a:Nat}{A B:Option Addr}{xs cR:List UInt8}{bH d:Nat}(e:o.heap[a]? =some (.cells #[.slice B cR.length d] 30 (0,0)))(b:Rd o A (aE xs))(c:Rd o B (aE cR)):Calls prog 264 (#[]++ #[.slice A xs.length bH]++ #[Z a]) o (aS λr w=>r= .bool (decide (xs=cR))/\w=o):=by
 refine a1 [.slice A xs.length bH,Z a] func264 ntmps264 results264 (au 6 j (aw e j) (bp 0 (qa b c) j (λw hw=>?_)))
 subst hw
 refine ao 1 j j ?_
 exact⟨j,j⟩
theorem wK(l:List (List UInt8))(x:List UInt8):(l.any λy=>decide (y=x))=decide (x∈l):=by
 rw [mX]
 simp only [kf,gL]
 exact⟨λ⟨y,a,b⟩=>b▸a,λh=>⟨x,h,j⟩⟩
theorem hT.app:∀{us c:List Value}{l b0:List (List UInt8)}{G a:List Chunk},hT us l G->hT c b0 a->hT (us++c) (l++b0) (G++a)
 |[],_,[],_,_,_,h,b=>by have h:_=[]:=h;subst h;exact b
 |[],_,_::_,_,_,_,h,_=>h.elim
 |_::_,_,[],_,_,_,h,_=>h.elim
 |_::_,_,_::_,_,_,a,⟨ah,aA,rfl,hu,h⟩,b=>⟨ah,aA++a,by rw [dH],hu,h.app b⟩
theorem hT.one{u:Value}{x:List UInt8}{G:List Chunk}(h:dN u x G):hT [u] [x] G:=⟨G,[],by simp,h,j⟩
def pW(l:List (List UInt8))(x:List UInt8):List (List UInt8):=if x∈l then l else l++[x]
theorem ai.EI(s:ai)(x:List UInt8):(s.jF x).dg=pW s.dg x:=by unfold ai.jF pW;split<;>rfl
theorem EH{o:World}{aq:Nat}{g:al}{s:ai}{c:eT}{c1:List Chunk}(n:gm c.dg s.dg c1)(M:s.dg.length<=1000000){A:Option Addr}{x:List UInt8}{bH:Nat}(E:Rd o A (aE x))(q:bU A (aE x) (av [bg g aq s c,c1]))(N:x.length<=1000000)(a:Own [bg g aq s c,c1] o):Calls prog 231 #[Z aq,.slice A x.length bH] o (aS λr w=>r= .tuple #[]/\∃v1 v,gm v1 (pW s.dg x) v/\C o (av [bg g aq s c,c1]) [bg g aq s {c with dg:=v1},v] w):=by
 obtain⟨d,B⟩:∃d,d=av [bg g aq s c,c1]:=⟨_,j⟩
 rw [<-B] at q⊢
 have a:C o d [bg g aq s c,c1] o:=B▸a
 refine a1 [Z aq,.slice A x.length bH] func231 ntmps231 results231 (bP 2 a j j (λf w a=>?_))
 have a:C o d [R f #[.slice A x.length bH] 30,bg g aq s c,c1] w:=a
 refine au 5 j (aw (C.aj a) j) (gR j j j j ?_)
 have t:=xj (p:=λy=>decide (y=x)) (bc:= #[Z f]) (dY:=264) (λg1 eO L F=>EF (C.aj a) F (a.rd E q)) n (a.holds (by simp))
 refine bp 0 t j (λw hw=>?_)
 subst hw
 refine aT 1 j j (λi=>?_) (λi=>?_)
 .have a:=a.drew
  refine bz 0 j (λw=>∃ae,C o d ([R f #[.slice A x.length bH] 30,bg g aq s c]++ae) w) ⟨_,a⟩ (af 0 4 j (be 4 j a7 j (be 5 j a7 j (aW 6 j ?_))))
  have t:=gW (c:=bH) (a.rd E q) (by omega)
  refine cN j j j t (λr w⟨e,m,I⟩=>?_)
  have a:=a.aN I
  have a:C o d [R f #[.slice A x.length bH] 30,bg g aq s c,c1,e] w:=a.as
  refine an ⟨⟨_,a⟩,?_⟩
  refine aW 7 j (fe (U:=[r]) a j j j j j (by simpa using m.one) bR (λl w a=>?_))
  have aP:=bq (C.aj (b:=l) a)
  have a:C o d [R f #[.slice A x.length bH] 30,bg g aq s c,c1,e,R l #[r] 30] w:=a.as
  refine an ⟨⟨_,a⟩,?_⟩
  refine aW 8 j ?_
  obtain⟨z,h,us,rfl,H,G⟩:=n
  have a:C o d [R f #[.slice A x.length bH] 30,bg g aq s c,z,h,e,R l #[r] 30] w:=a.perm (by simp)
  refine eK (a.to z) H j j (by decide) j j j (news:=[r]) j aP (by intro u hu;rw [List.mem_singleton.1 hu];exact m.one) (by omega) (by unfold maxLen;omega) (λv1 k w D a=>?_)
  have a:C o d [R f #[.slice A x.length bH] 30,bg g aq s c,k,h,e] w:=a.as
  refine an ⟨⟨_,a⟩,?_⟩
  refine af 9 2 j (dy 11 j (cC (a.bf aq) j j j D.one bR (λw a=>?_)))
  have a:C o d (bg g aq s {c with dg:=v1}::_) w:=a
  refine an (cX (ao 0 j j ?_))
  have J:x∉s.dg:=by rw [wK] at i;simpa using i
  unfold pW
  rw [aF J]
  refine⟨j,v1,k++(h++e),⟨k,h++e,us++[r],j,?_,G.app (hT.one m)⟩,C.perm (A:=[bg g aq s {c with dg:=v1},k,h,e]) a.as (by simp)⟩
  rw [ca,List.length_singleton]
  exact D
 refine ao 1 j j ?_
 have K:x∈s.dg:=by rw [wK] at i;simpa using i
 unfold pW
 rw [a6 K]
 exact⟨j,c.dg,c1,n,a.as⟩
theorem xx{o:World}{aq:Nat}{g:al}{s:ai}{c:eT}{A B:Option Addr}{x:List UInt8}{l:List aG}{bH d:Nat}(D:Rd o A (aE x))(u:Rd o B (vcs l))(z:∀v∈l,v.ok)(E:x.length<=1000000)(y:l.length<=1000)(a:Own [bg g aq s c] o):Calls prog 235 #[Z aq,.slice A x.length bH,.slice B l.length d] o (aS λr w=>r= .tuple #[]/\∃v1 v2 e f,dN v1 x e/\ej v2 l f/\C o (av [bg g aq s c]) [bg g aq (s.gg x l) {c with value:=v1,dI:=v2},e,f] w):=by
 obtain⟨b,m⟩:∃b,b=av [bg g aq s c]:=⟨_,j⟩
 rw [<-m]
 have a:C o b [bg g aq s c] o:=m▸a
 refine a1 [Z aq,.slice A x.length bH,.slice B l.length d] func235 ntmps235 results235 ?_
 have i:=gW (c:=bH) D (by omega)
 refine bm 5 i j (λh w⟨e,n,q⟩=>?_)
 have a:=a.aN q
 have i:=k1 (d:=d) (q.rd u (bU.of_nil _ _)) z y
 refine bm 1 i j (λk w⟨f,p,t⟩=>?_)
 have a:=a.aN t
 have a:C o b [bg g aq s c,e,f] w:=a.as
 refine dD 2 a j j j n.one (λw a=>?_)
 have a:C o b (bg g aq s {c with value:=h}::_) w:=a
 refine dD 2 a j j j p.one (λw a=>?_)
 have a:C o b (bg g aq s {c with value:=h,dI:=k}::_) w:=a
 refine dD 2 a j j j j (λw a=>?_)
 have a:C o b (bg g aq (s.gg x l) {c with value:=h,dI:=k}::_) w:=a
 refine ao 0 j j ?_
 exact⟨j,h,k,e,f,n,p,a⟩
theorem c6.isSome{α:Type}{V:Value->α->List Chunk->Prop}{m:List (Int×Value)}{t:List (Int×α)}{G:List Chunk}(h:c6 V m t G)(k:Int):(a2 m k).isSome=(a2 t k).isSome:=by
 cases ad:a2 t k with
 |none=>rw [h.ng ad];rfl
 |some a=>obtain⟨v,_,_,_,e,_⟩:=h.find ad;rw [e];rfl
theorem ai.EG(s:ai)(x:List UInt8):(s.jF x).props=s.props:=by unfold ai.jF;split<;>rfl
theorem mh{β:Type}{m:List (Int×β)}{k:Int}(h:(a2 m k).isSome=false):a2 m k=none:=by cases ad:a2 m k with|none=>rfl|some _=>rw [ad] at h;cases h
theorem fw.apart{m:aB}{b:List Chunk}{ae:List (List Chunk)}{o w:World}{F:List Nat}(h:fw m b)(f:C o F (b::ae) w):bU m.A (aE m.x) (av ae)/\bU m.B (vcs m.l) (av ae):=by
 obtain⟨ah,aA,rfl,d,_⟩:=h
 have c:=f.split
 obtain⟨_,_,e,_,_,_,g⟩:=d.x.rd c
 cases e
 obtain⟨_,_,e,_,_,_,i⟩:=d.l.rd c.f1
 cases e
 exact⟨g.sub (fB (by intro G a;simp [a])),i.sub (fB (by intro G a;simp [a]))⟩
theorem zx{o:World}{aq:Nat}{g:al}{s:ai}{c:eT}{m:aB}{e:List Chunk}(E:fw m e)(N:m.P.cP)(ap:0<=s.slot/\s.slot<=63)(ah:0<=m.v/\m.v<=8){bQ c1:List Chunk}(V:i8 c.props s.props bQ)(B:gm c.dg s.dg c1)(aa:s.dg.length<=1000000)(Y:g.at o)(ak:g.ok)(Q:g.off (av [bg g aq s c,bQ,c1,e]))(a:Own [bg g aq s c,bQ,c1,e] o):Calls prog 188 #[Z aq,.agg m.cs.toArray] o (aS λr w=>r= .tuple #[]/\∃v1 F p,i8 c.props (s.fZ g m.P).props F/\gm v1 (s.fZ g m.P).dg p/\C o (av [bg g aq s c,bQ,c1,e]) [bg g aq s {c with dg:=v1},F,p] w):=by
 obtain⟨b,ag,I,T,H,q,hm,n,rfl⟩:=V
 have R:m.tag.length=32:=N.tag
 have hw:=n.wide j9.wide
 obtain⟨S,M,ab,ac⟩:=gx.get pj hw m.v
 obtain⟨d,K⟩:∃d,d=av [bg g aq s c,ay 288 b ag I++H,c1,e]:=⟨_,j⟩
 rw [<-K] at Q⊢
 have a:C o d [bg g aq s c,ay 288 b ag I++H,c1,e] o:=K▸a
 have a:C o d [bg g aq s c,ay 288 b ag I,H,c1,e] o:=a.perm (by simp)
 refine a1 [Z aq,.agg m.cs.toArray] func188 ntmps188 results188 (bP 2 a j j (λh w a=>?_))
 have a:C o d [bi h m,bg g aq s c,ay 288 b ag I,H,c1,e] w:=a
 have a:=a.drew
 refine bz 2 j (λw=>∃ae,C o d ([bi h m,bg g aq s c]++ae) w) ⟨_,a⟩ (af 0 3 j (be 3 j a7 (aL some q) (af 4 1 j (be 5 j a7 m.fA (aJ 6 10 j j ?_ ?_)))))
 have i:=nJ (k:=m.v) hw (dG.own (a.to (ay 288 b ag I)) hm)
 refine bF j j j i (λw l=>?_)
 have a:=a.aN l
 have a:C o d ([bi h m,bg g aq s c]++_) w:=a.front
 refine an ⟨⟨_,a⟩,?_⟩
 refine af 7 2 j (iT 14 (.agg S.toArray) j M (af 9 1 j (aW 10 j (en a j j (λJ w a=>?_)))))
 have a:C o d ([bi h m,bg g aq s c]++_) w:=a.front
 refine an ⟨⟨_,a⟩,?_⟩
 rotate_left
 refine en a j j (λJ w a=>?_)
 have a:C o d ([bi h m,bg g aq s c]++_) w:=a.front
 refine an ⟨⟨_,a⟩,?_⟩
 refine aW 6 j ?_
 have i:=nJ (k:=m.v) hw (dG.own (a.to (ay 288 b ag I)) hm)
 refine bF j j j i (λw l=>?_)
 have a:=a.aN l
 have a:C o d ([bi h m,bg g aq s c]++_) w:=a.front
 refine an ⟨⟨_,a⟩,?_⟩
 refine af 7 2 j (iT 14 (.agg S.toArray) j M (af 9 1 j ?_))
 rotate_left
 all_goals
  refine aW 11 j (c5 (a.bf J) j j j ac ab (by decide) (λw a=>?_))
  have a:C o d ([bi h m,bg g aq s c]++_) w:=a.front
  refine an ⟨⟨_,a⟩,?_⟩
  refine af 12 1 j (bO (ar 4 j (c7 17 j (λy=>?_) (λy=>?_))))
  .refine ao 9 j j ?_
   have ax:(a2 s.props m.v).isSome=true:=(n.isSome m.v).symm.trans y
   have t:s.fZ g m.P=s:=a6 (by rw [show m.P.v=m.v from j,ax];rfl)
   rw [t]
   exact⟨j,c.dg,ay 288 b ag I++H,c1,⟨b,ag,I,T,H,q,hm,n,j⟩,B,C.perm (A:=[bg g aq s c,ay 288 b ag I,H,c1]) a.as (by simp)⟩
  refine au 2 j (aw (C.aj a) m.aZ) (au 1 j (aw (C.aj a) m.fA) ?_)
  have i:=uZ (aq:=aq) (s:=s) (c:=c) (C.aj a) (Y.st a Q) ak (node:=m.f) (view:=m.v) ap ah
  refine bp 0 i j (λw l=>?_)
  have a:=a.aN l
  refine aT 2 j j (λz=>?_) (λz=>?_)
  .refine ao 0 j j ?_
   have D:s.leads g m.f m.v=false:=by simpa using z
   have t:s.fZ g m.P=s:=a6 (by rw [show s.leads g m.P.f m.P.v=false from D];simp)
   rw [t]
   exact⟨j,c.dg,ay 288 b ag I++H,c1,⟨b,ag,I,T,H,q,hm,n,j⟩,B,C.perm (A:=[bg g aq s c,ay 288 b ag I,H,c1]) a.as (by simp)⟩
  have a:C o d [bi h m,bg g aq s c,ay 288 b ag I,H,c1,e] w:=a.as
  have a:=a.drew
  have O:a2 s.props m.v=none:=mh ((n.isSome m.v).symm.trans y)
  refine bz 2 j (λw=>∃ae,C o d ([bi h m,bg g aq s c]++ae) w) ⟨_,a⟩ (af 0 3 j (be 3 j a7 (aL some q) (af 4 1 j (be 5 j a7 m.fA (aV 6 j (λw⟨_,a⟩=>dc (U:=m.cs) j j (m.bY R) (bq (C.aj a))) (aW 7 j ?_))))))
  have i:=vL (k:=m.v) (m.bY R) m.one (a.ours (cI:=[ay 288 b ag I])) hm
  refine bF j j j i (λw⟨u,ad,l⟩=>?_)
  have a:=a.b4 l
  have a:C o d [bi h m,bg g aq s c,ay 288 b ag u,H,c1,e] w:=a.as
  refine an ⟨⟨_,a⟩,?_⟩
  refine bO (au 3 j (aw (C.aj a) m.ge) ?_)
  have X:=(E.apart (a.to e)).1.sub (eD:=av [bg g aq s c,c1]) (fB (by intro G L;simp at L⊢;rcases L with rfl|rfl<;>simp))
  have am:=(E.read (a.holds (by simp))).1.x
  have i:=EH (aq:=aq) (s:=s) (c:=c) (g:=g) (bH:=m.c) B aa am X (by have az:m.x.length<=200:=N.x;omega) a.ours
  refine bp 0 i j (λw⟨v1,p,W,l⟩=>?_)
  have a:=a.b4 l
  refine ao 0 j j ?_
  have D:s.leads g m.f m.v=true:=by simpa using z
  have t:s.fZ g m.P=({s with props:=cj s.props m.v m.P}:ai).jF m.x:=aF (by rw [show s.leads g m.P.f m.P.v=true from D,show a2 s.props m.P.v=none from O];simp)
  rw [t,ai.EI,ai.EG]
  exact⟨j,v1,ay 288 b ag u++(H++e),p,⟨b,ag,u,_,_,q,ad,n.add O ⟨m,j,j,E⟩,j⟩,W,C.perm (A:=[bg g aq s {c with dg:=v1},ay 288 b ag u,H,e,p]) a.as (by simp)⟩
theorem H6{o:World}{aq:Nat}{g:al}{s:ai}{c:eT}{m:aB}{n:List Chunk}(ag:fw m n)(Q:m.P.cP){bZ bW:List Chunk}{N:Nat}(A:fp 329 ie c.cT s.cT bZ)(B:fp 329 ie c.ax s.ax bW)(ah:∀p∈s.cT,fD g N p.2)(am:∀p∈s.ax,fD g N p.2)(X:N<=1000000)(Y:g.at o)(ac:g.ok)(S:g.off (av [bg g aq s c,bZ,bW,n]))(a:Own [bg g aq s c,bZ,bW,n] o):Calls prog 189 #[Z aq,.agg m.cs.toArray] o (aS λr w=>r= .tuple #[]/\∃T V,fp 329 ie c.cT (s.di g m.P).cT T/\fp 329 ie c.ax (s.di g m.P).ax V/\C o (av [bg g aq s c,bZ,bW,n]) [bg g aq s c,T,V] w):=by
 obtain⟨i,W⟩:∃i,i=av [bg g aq s c,bZ,bW,n]:=⟨_,j⟩
 rw [<-W] at S⊢
 have a:C o i [bg g aq s c,bZ,bW,n] o:=W▸a
 have az:m.tag.length=32:=Q.tag
 refine a1 [Z aq,.agg m.cs.toArray] func189 ntmps189 results189 (bP 2 a j j (λG w a=>?_))
 have a:C o i [bi G m,bg g aq s c,bZ,bW,n] w:=a
 refine au 4 j (aw (C.aj a) m.eV) (aT 2 j j (λeP=>?_) (λeP=>?_))
 .refine ao 0 j j ?_
  have h:m.P.l=[]:=yB eP
  have e:s.di g m.P=s:=by unfold ai.di;rw [h]
  rw [e]
  exact⟨j,bZ,bW,A,B,a.as⟩
 obtain⟨v,q,h⟩:=yA eP
 have d:v.ok:=Q.aH v (by show v∈m.l;rw [h];simp)
 have aa:∀x∈v::q,x.ok:=λx ap=>Q.aH x (by show x∈m.l;rw [h];exact ap)
 refine au 4 j (aw (C.aj a) m.eV) ?_
 have L:=(ag.read (a.holds (by simp))).1.l
 rw [h] at L
 refine fL j j j j L (v:=ab v.k) (pf (v::q) aa 0 (by simp)) (J:=0) (by rw [h];simp) (λar ad ay=>?_)
 rw [ad] at L
 refine bS 0 j j (v.len d) (pg L aa 0 (by simp)) (cn 0 a j (λH w a=>c5 (a.bf H) j j j (by simpa using v.one) (by rw [List.size_toArray];exact v.len d) (by decide) (λw a=>?_)))
 have a:=C.whole (U:=v.cs) a (by rw [v.len d];rfl)
 have a:C o i [R H v.cs.toArray 108,bi G m,bg g aq s c,bZ,bW,n] w:=a.as
 have a:=a.drew
 refine bz 1 j (λw=>∃ae,C o i ([R H v.cs.toArray 108,bi G m,bg g aq s c]++ae) w) ⟨_,a⟩ (af 0 1 j (be 1 j a7 v.gU (af 2 2 j (ef 16 j (λI=>?_) (λI=>?_)))))
 .refine af 4 6 j (be 10 j a7 v.aZ (af 11 3 j (be 14 j a7 j (af 15 3 j (ef 30 j (λu=>?_) (λu=>?_))))))
  .refine af 18 1 j (be 19 j a7 (v.eM d) (af 20 1 j (be 21 j a7 m.aZ (af 22 3 j (ef 37 j (λy=>?_) (λy=>?_))))))
   refine af 25 3 j (be 28 j a7 j (aV 29 j (λw⟨_,a⟩=>dc (U:=v.cs) j j (v.len d) (bq (C.aj a))) (aW 30 j ?_)))
   have D:=r3 (Y.st a S) ac d
   refine bF j j j D (λw E=>?_)
   have a:=a.aN E
   have a:C o i [R H v.cs.toArray 108,bi G m,bg g aq s c,bZ,bW,n] w:=a.as
   refine an ⟨⟨_,a⟩,?_⟩
   refine af 31 1 j (bO (aT 0 j j (λz=>?_) (λz=>?_)))
   .refine bS 2 (U:=v.cs) j j (v.len d) (bq (C.aj a)) ?_
    have D:=rM (aq:=aq) (s:=s) (c:=c) (k:=0) (t:=s.cT) (by decide) (dX.1 I) d A ah X a.ours
    refine bp 0 D j (λw⟨F,M,E⟩=>?_)
    have a:=a.b4 E
    have a:C o i [bg g aq s c,F,bW] w:=a.as
    refine ao 0 j j ?_
    have b:s.hR g m.P v=true:=by unfold ai.hR;rw [show _root_.Go.Proofs.YtdcbpdlhhkcjnaaGreatDoor.R.cP g v=true from z,show(v.f==m.P.f)=true from y,show(v.s==s.slot)=true from u,show(v.k==1)=true from I];rfl
    have e:s.di g m.P=s.counts v:=by
     unfold ai.di
     rw [show m.P.l=v::q from h]
     exact a6 b
    have O:s.counts v={s with cT:=cj s.cT v.v (iR (s.ip 1 v.v) v)}:=a6 (dX.1 I)
    rw [e,O]
    exact⟨j,F,bW,M,B,a⟩
   refine ao 1 j j ?_
   have b:s.hR g m.P v=false:=by unfold ai.hR;rw [show _root_.Go.Proofs.YtdcbpdlhhkcjnaaGreatDoor.R.cP g v=false from z];simp
   rotate_left
   refine af 25 7 j (bO (ao 2 j j ?_))
   have b:s.hR g m.P v=false:=by unfold ai.hR;rw [show(v.f==m.P.f)=false from y];simp
   rotate_left
   all_goals
    have e:s.di g m.P=s:=by
     unfold ai.di
     rw [show m.P.l=v::q from h]
     exact aF (by rw [b];decide)
    rw [e]
    exact⟨j,bZ,bW,A,B,a.as⟩
  refine af 18 14 j (bO (ao 2 j j ?_))
  have b:s.hR g m.P v=false:=by unfold ai.hR;rw [show(v.s==s.slot)=false from u];simp
  have e:s.di g m.P=s:=by
   unfold ai.di
   rw [show m.P.l=v::q from h]
   exact aF (by rw [b];decide)
  rw [e]
  exact⟨j,bZ,bW,A,B,a.as⟩
 refine af 4 1 j (be 5 j a7 v.gU (af 6 3 j (ef 21 j (λK=>?_) (λK=>?_))))
 refine af 9 1 j (be 10 j a7 v.aZ (af 11 3 j (be 14 j a7 j (af 15 3 j (ef 30 j (λu=>?_) (λu=>?_))))))
 .refine af 18 1 j (be 19 j a7 (v.eM d) (af 20 1 j (be 21 j a7 m.aZ (af 22 3 j (ef 37 j (λy=>?_) (λy=>?_))))))
  refine af 25 3 j (be 28 j a7 j (aV 29 j (λw⟨_,a⟩=>dc (U:=v.cs) j j (v.len d) (bq (C.aj a))) (aW 30 j ?_)))
  have D:=r3 (Y.st a S) ac d
  refine bF j j j D (λw E=>?_)
  have a:=a.aN E
  have a:C o i [R H v.cs.toArray 108,bi G m,bg g aq s c,bZ,bW,n] w:=a.as
  refine an ⟨⟨_,a⟩,?_⟩
  refine af 31 1 j (bO (aT 0 j j (λz=>?_) (λz=>?_)))
  .refine bS 2 (U:=v.cs) j j (v.len d) (bq (C.aj a)) ?_
   have D:=rM (aq:=aq) (s:=s) (c:=c) (k:=1) (t:=s.ax) (by decide) (dX.1 K) d B am X a.ours
   refine bp 0 D j (λw⟨F,M,E⟩=>?_)
   have a:=a.b4 E
   have a:C o i [bg g aq s c,bZ,F] w:=a.as
   refine ao 0 j j ?_
   have b:s.hR g m.P v=true:=by unfold ai.hR;rw [show _root_.Go.Proofs.YtdcbpdlhhkcjnaaGreatDoor.R.cP g v=true from z,show(v.f==m.P.f)=true from y,show(v.s==s.slot)=true from u,show(v.k==2)=true from K];simp
   have e:s.di g m.P=s.counts v:=by
    unfold ai.di
    rw [show m.P.l=v::q from h]
    exact a6 b
   have O:s.counts v={s with ax:=cj s.ax v.v (iR (s.ip 2 v.v) v)}:=aF (by rw [dX.1 K];decide)
   rw [e,O]
   exact⟨j,bZ,F,A,M,a⟩
  refine ao 1 j j ?_
  have b:s.hR g m.P v=false:=by unfold ai.hR;rw [show _root_.Go.Proofs.YtdcbpdlhhkcjnaaGreatDoor.R.cP g v=false from z];simp
  rotate_left
  refine af 25 7 j (bO (ao 2 j j ?_))
  have b:s.hR g m.P v=false:=by unfold ai.hR;rw [show(v.f==m.P.f)=false from y];simp
  rotate_left
  all_goals
   have e:s.di g m.P=s:=by
    unfold ai.di
    rw [show m.P.l=v::q from h]
    exact aF (by rw [b];decide)
   rw [e]
   exact⟨j,bZ,bW,A,B,a.as⟩
 refine af 18 14 j (bO (ao 2 j j ?_))
 have b:s.hR g m.P v=false:=by unfold ai.hR;rw [show(v.s==s.slot)=false from u];simp
 rotate_left
 refine af 9 23 j (bO (ao 2 j j ?_))
 have b:s.hR g m.P v=false:=by unfold ai.hR;rw [show(v.k==1)=false from I,show(v.k==2)=false from K];rfl
 rotate_left
 all_goals
  have e:s.di g m.P=s:=by
   unfold ai.di
   rw [show m.P.l=v::q from h]
   exact aF (by rw [b];decide)
  rw [e]
  exact⟨j,bZ,bW,A,B,a.as⟩
theorem Ah{m:List (Int×Value)}{t:List (Int×List (Int×aY))}{G:List Chunk}(h:c6 i8 m t G)(k:Int):∃p,(a2 m k).getD vZ= .pointer p/\((p=none/\a2 t k=none)\/
 ∃a ag I b l H ah aA,p=some ⟨a,0,none⟩/\a2 t k=some l/\cf bu I b/\c6 j9 b l H/\G=ah++((ay 288 a ag I++H)++aA)/\∀b0 c,i8 (Z a) b0 c->c6 i8 m (cj t k b0) (ah++(c++aA))):=by
 cases ad:a2 t k with
 |none=>rw [h.ng ad];exact⟨none,j,.inl ⟨j,j⟩⟩
 |some l=>
  obtain⟨v,ah,i,aA,e,rfl,⟨a,ag,I,b,H,rfl,d,g,rfl⟩,f⟩:=h.find ad
  rw [e]
  exact⟨_,j,.inr ⟨a,ag,I,b,l,H,ah,aA,j,j,d,g,j,f⟩⟩
theorem Ae{o:World}{aq:Nat}{g:al}{s:ai}{c:eT}{m:aB}{d:List Chunk}(aH:fw m d)(aG:m.P.cP)(aP:0<=s.slot/\s.slot<=63)(aI:0<=m.v/\m.v<=8){cc:List Chunk}(ap:fp 326 i8 c.dh s.dh cc)(az:g.at o)(aK:g.ok)(ab:g.off (av [bg g aq s c,cc,d]))(a:Own [bg g aq s c,cc,d] o):Calls prog 190 #[Z aq,.agg m.cs.toArray] o (aS λr w=>r= .tuple #[]/\∃W,fp 326 i8 c.dh (s.status g m.P).dh W/\C o (av [bg g aq s c,cc,d]) [bg g aq s c,W] w):=by
 obtain⟨b,ag,I,ad,H,F,hm,M,rfl⟩:=ap
 have ac:m.tag.length=32:=aG.tag
 obtain⟨l,Y⟩:∃l,l=av [bg g aq s c,ay 326 b ag I++H,d]:=⟨_,j⟩
 rw [<-Y] at ab⊢
 have a:C o l [bg g aq s c,ay 326 b ag I++H,d] o:=Y▸a
 have a:C o l [bg g aq s c,ay 326 b ag I,H,d] o:=a.perm (by simp)
 refine a1 [Z aq,.agg m.cs.toArray] func190 ntmps190 results190 (bP 2 a j j (λq w a=>?_))
 have a:C o l [bi q m,bg g aq s c,ay 326 b ag I,H,d] w:=a
 have a:=a.drew
 refine bz 2 j (λw=>∃ae,C o l ([bi q m,bg g aq s c]++ae) w) ⟨_,a⟩ (af 0 4 j (be 4 j a7 j (af 5 1 j (be 6 j a7 m.fA (aW 7 j ?_)))))
 have z:=uZ (aq:=aq) (s:=s) (c:=c) (C.aj a) (az.st a ab) aK (node:=s.am) (view:=m.v) aP aI
 refine bF j j j z (λw y=>?_)
 have a:=a.aN y
 have a:C o l [bi q m,bg g aq s c,ay 326 b ag I,H,d] w:=a.as
 refine an ⟨⟨_,a⟩,?_⟩
 refine af 8 1 j (bO (aT 0 j j (λN=>?_) (λN=>?_)))
 .refine ao 0 j j ?_
  have G:s.leads g s.am m.P.v=false:=by simpa using N
  have L:s.status g m.P=s:=aF (by rw [G];decide)
  rw [L]
  exact⟨j,ay 326 b ag I++H,⟨b,ag,I,ad,H,F,hm,M,j⟩,C.perm (A:=[bg g aq s c,ay 326 b ag I,H]) a.as (by simp)⟩
 have a:C o l [bi q m,bg g aq s c,ay 326 b ag I,H,d] w:=a.as
 have a:=a.drew
 refine bz 2 j (λw=>∃ae,C o l ([bi q m,bg g aq s c]++ae) w) ⟨_,a⟩ (af 0 3 j (be 3 j a7 (aL some F) (af 4 1 j (be 5 j a7 m.fA (aW 6 j ?_)))))
 have z:=x4 (k:=m.v) (dG.own (a.to (ay 326 b ag I)) hm)
 refine bF j j j z (λw y=>?_)
 have a:=a.aN y
 have a:C o l [bi q m,bg g aq s c,ay 326 b ag I,H,d] w:=a.as
 obtain⟨p,aM,ax⟩:=Ah M m.v
 refine an ⟨⟨_,a⟩,?_⟩
 refine af 7 2 j (iT 25 (.pointer p) j aM (af 9 3 j (bO (aT 5 j j (λO=>?_) (λO=>?_)))))
 refine bm 2 vg j (λr w⟨e,n,aO,aJ,y⟩=>?_)
 subst aO
 have a:=a.aN y
 have a:C o l [bi q m,bg g aq s c,ay 326 b ag I,H,d,ay 288 e n (.map #[] 0)] w:=a.as
 have a:=a.drew
 refine bz 1 j (λw=>∃ae,C o l ([bi q m,bg g aq s c]++ae) w) ⟨_,a⟩ (af 0 3 j (be 3 j a7 (aL some F) (af 4 1 j (be 5 j a7 m.fA (af 6 1 j (aW 7 j ?_))))))
 have z:=G6 (k:=m.v) (v:=Z e) (a.ours (cI:=[ay 326 b ag I])) hm
 refine bF j j j z (λw⟨i,J,y⟩=>?_)
 have a:=a.b4 y
 have a:C o l [bi q m,bg g aq s c,ay 326 b ag i,H,d,ay 288 e n (.map #[] 0)] w:=a.as
 refine an ⟨⟨_,a⟩,?_⟩
 refine bO ?_
 have aa:a2 s.dh m.v=none:=mh ((M.isSome m.v).symm.trans (by simpa using O))
 obtain⟨B,i,u,R,dz,H1,x,t,J,Q,E,T,K,a⟩:∃B i u R dz H1 x t,cf bu i B/\cf bu u R/\c6 j9 R dz x/\(a2 s.dh m.v).getD []=dz/\(∀b0 D,i8 (Z e) b0 D->c6 i8 B (cj s.dh m.v b0) (H1++(D++t)))/\C o l [bi q m,bg g aq s c,ay 326 b ag i,H1,ay 288 e n u,x,t,d] w:=
  ⟨_,i,_,[],[],H,[],[],J,aJ,j,by rw [aa];rfl,λb0 D h=>by rw [g6];exact M.add aa h,C.perm (A:=[bi q m,bg g aq s c,ay 326 b ag i,H,ay 288 e n (.map #[] 0),d]) a.as (by simp)⟩
 refine au 4 j (aw (C.aj a) m.aZ) ?_
 rotate_left
 obtain⟨e,n,u,R,dz,x,H1,t,rfl,aQ,Q,E,ak,K⟩:=ax.resolve_left (λh=>by have X:=M.isSome m.v;rw [h.2] at X;rw [X] at O;cases O)
 rw [ak] at a
 obtain⟨i,B,J,K,a⟩:∃i B,cf bu i B/\(∀b0 D,i8 (Z e) b0 D->c6 i8 B (cj s.dh m.v b0) (H1++(D++t)))/\C o l [bi q m,bg g aq s c,ay 326 b ag i,H1,ay 288 e n u,x,t,d] w:=⟨I,ad,hm,K,C.perm (A:=[bi q m,bg g aq s c,ay 326 b ag I,H1++((ay 288 e n u++x)++t),d]) a.as (by simp)⟩
 have T:(a2 s.dh m.v).getD []=dz:=by rw [aQ];rfl
 refine au 5 j (aw (C.aj a) m.aZ) ?_
 rotate_left
 all_goals
  have hw:=E.wide j9.wide
  obtain⟨aR,aA,aC,aD⟩:=gx.get pj hw m.f
  have z:=nJ (k:=m.f) hw (dG.own (a.to (ay 288 e n u)) Q)
  refine bp 0 z j (λw y=>?_)
  have a:=a.aN y
  refine ar 2 j (b2 43 (.agg aR.toArray) j aA ?_)
  refine cn 1 a j (λah w a=>c5 (a.bf ah) j j j aD aC (by decide) (λw a=>?_))
  have a:C o l [bi q m,bg g aq s c,ay 326 b ag i,H1,ay 288 e n u,x,t,d] w:=a.as
  refine aT 5 j j (λS=>?_) (λS=>?_)
  .refine au 3 j (aw (C.aj a) m.aZ) (bS 0 (U:=m.cs) j j (m.bY ac) (bq (C.aj a)) ?_)
   have z:=vL (k:=m.f) (m.bY ac) m.one (a.ours (cI:=[ay 288 e n u])) Q
   refine bp 0 z j (λw⟨V,aE,y⟩=>?_)
   have a:=a.b4 y
   refine ao 0 j j ?_
   have G:s.leads g s.am m.P.v=true:=by simpa using N
   have bx:(a2 dz m.f).isSome=false:=(E.isSome m.f).symm.trans (by simpa using S)
   have L:s.status g m.P={s with dh:=cj s.dh m.v (cj dz m.f m.P)}:=by
    unfold ai.status
    rw [a6 G,show(a2 s.dh m.P.v).getD []=dz from T]
    rw [show(a2 dz m.P.f).isSome=false from bx];rfl
   rw [L]
   refine⟨j,ay 326 b ag i++(H1++((ay 288 e n V++(x++d))++t)),⟨b,ag,i,B,_,F,J,K _ _ ⟨e,n,V,_,_,j,aE,E.add (mh bx) ⟨m,j,j,aH⟩,j⟩,j⟩,C.perm (A:=[bg g aq s c,ay 326 b ag i,H1,ay 288 e n V,x,d,t]) a.as (by simp)⟩
  refine ao 1 j j ?_
  have G:s.leads g s.am m.P.v=true:=by simpa using N
  have bx:(a2 dz m.f).isSome=true:=(E.isSome m.f).symm.trans (by simpa using S)
  have L:s.status g m.P={s with dh:=cj s.dh m.v (dz)}:=by
   unfold ai.status
   rw [a6 G,show(a2 s.dh m.P.v).getD []=dz from T]
   rw [show(a2 dz m.P.f).isSome=true from bx];rfl
  rw [L]
  refine⟨j,ay 326 b ag i++(H1++((ay 288 e n u++(x))++t)),⟨b,ag,i,B,_,F,J,K _ _ ⟨e,n,u,_,_,j,Q,E,j⟩,j⟩,C.perm (A:=[bg g aq s c,ay 326 b ag i,H1,ay 288 e n u,x,t]) a.as (by simp)⟩
theorem Dg{o:World}{aq:Nat}{g:al}{s:ai}{c:eT}{m:aB}{b:List Chunk}(k:fw m b)(y:m.P.cP){b8 b7:List Chunk}(G:dN c.value s.value b8)(F:ej c.dI s.dI b7)(T:g.at o)(V:g.ok)(K:g.off (av [bg g aq s c,b8,b7,b]))(a:Own [bg g aq s c,b8,b7,b] o):Calls prog 191 #[Z aq,.agg m.cs.toArray] o (aS λr w=>r= .tuple #[]/\∃v1 v2 E D,dN v1 (s.decision g m.P).value E/\ej v2 (s.decision g m.P).dI D/\C o (av [bg g aq s c,b8,b7,b]) [bg g aq (s.decision g m.P) {c with value:=v1,dI:=v2},E,D] w):=by
 obtain⟨i,I⟩:∃i,i=av [bg g aq s c,b8,b7,b]:=⟨_,j⟩
 rw [<-I] at K⊢
 have a:C o i [bg g aq s c,b8,b7,b] o:=I▸a
 have aa:m.tag.length=32:=y.tag
 obtain⟨W,U,_,S⟩:=k.ud
 have ab:m.x.length<=200:=y.x
 have Y:m.l.length<=10:=y.l
 refine a1 [Z aq,.agg m.cs.toArray] func191 ntmps191 results191 (bP 2 a j j (λn w a=>?_))
 have a:C o i [bi n m,bg g aq s c,b,b8,b7] w:=C.as (ae:=bi n m::[bg g aq s c,b8,b7,b]) a
 have a:=a.drew
 refine bz 1 j (λw=>∃ae,C o i ([bi n m,bg g aq s c,b]++ae) w) ⟨_,a⟩ (af 0 1 j (be 1 j a7 m.eV (af 2 3 j (ef 8 j (λeP=>?_) (λeP=>?_)))))
 .obtain⟨v,f,e⟩:∃v f,m.l=v::f:=by
   cases hm:m.l with
   |nil=>rw [hm] at eP;cases eP
   |cons v f=>exact⟨v,f,j⟩
  obtain⟨O,X,H⟩:=uE S (show Rd _ m.B ((v::f).flatMap aG.cs) by have h:=(k.read (a.holds (by simp))).1.l;rw [e] at h;exact h)
  refine af 5 3 j (be 8 j a7 j (af 9 1 j (be 10 j a7 m.eV (af 11 3 j (be 14 j a7 j (af 15 1 j (be 16 j a7 m.eV (iT 20 (.slice (some ⟨O,X,none⟩) m.l.length m.d) j (by rw [H]) (aV 17 j (λw _=>gI (J:=0) j j (by rw [e];simp)) (af 18 1 j (bT 19 j (λw⟨_,a⟩=>qV (by have h:=(k.read (a.holds (by simp))).1.l;rw [e,H] at h;exact h)) (af 20 1 j (be 21 j a7 m.ge (aW 22 j ?_))))))))))))))
  have q:=np (p:=m.x) (k.read (a.holds (by simp))).1.x (by omega) W
  refine cN j j j q (λr w⟨A,u⟩=>?_)
  have A:r= .agg (aE (bL m.x)).toArray:=A
  subst A
  have a:=a.aN u
  have a:C o i [bi n m,bg g aq s c,b,b8,b7] w:=a.as
  refine an ⟨⟨_,a⟩,?_⟩
  refine aW 23 j ?_
  have q:=u5 (g:=g) (B:=m.B) (l:=m.l) (d:=m.d) (kind:=2) (slot:=s.slot) (view:=v.v) (sum:=bL m.x) V y.aH (e4 _) U (by omega) ⟨T.st a K,(k.read (a.holds (by simp))).1.l,al.off.nil g,bU.of_nil _ _⟩
  refine bF j j j q (λw u=>?_)
  have a:=a.aN u
  have a:C o i [bi n m,bg g aq s c,b,b8,b7] w:=a.as
  refine an ⟨⟨_,a⟩,?_⟩
  refine af 24 1 j (bO (aT 0 j j (λz=>?_) (λz=>?_)))
  .refine au 3 j (aw (C.aj a) m.ge) (au 1 j (aw (C.aj a) m.eV) ?_)
   have L:=(k.read (a.holds (by simp))).1
   have q:=xx (aq:=aq) (g:=g) (s:=s) (c:=c) (bH:=m.c) (d:=m.d) L.x L.l y.aH (by omega) (by omega) a.ours
   refine bp 0 q j (λw⟨v1,v2,M,N,Q,R,u⟩=>?_)
   have a:=a.b4 u
   refine ao 0 j j ?_
   have t:s.decision g m.P=s.gg m.x m.l:=by
    unfold ai.decision
    rw [show m.P.l=v::f from e]
    exact(a6 (by rw [<-e];exact z)).trans (by rw [<-e])
   rw [t]
   exact⟨j,v1,v2,M,N,Q,R,a.as⟩
  refine ao 1 j j ?_
  have t:s.decision g m.P=s:=by
   unfold ai.decision
   rw [show m.P.l=v::f from e]
   exact aF (by rw [<-e];show¬meets g m.l 2 s.slot v.v (bL m.x)=true;rw [z];decide)
  rw [t]
  exact⟨j,c.value,c.dI,b8,b7,G,F,a.as⟩
 refine af 5 20 j (bO (ao 2 j j ?_))
 have e:m.P.l=[]:=by
  cases hm:m.l with
  |nil=>exact hm
  |cons v f=>rw [hm] at eP;simp at eP
 have t:s.decision g m.P=s:=by unfold ai.decision;rw [e]
 rw [t]
 exact⟨j,c.value,c.dI,b8,b7,G,F,a.as⟩
def ft(g:al)(aq:Nat)(s:ai)(G:List Chunk):Prop:=∃(c:eT)(ah aA bn cv cb bZ bW cc b8 b7:List Chunk),tt s c ah aA bn cv cb bZ bW cc b8 b7/\G=bg g aq s c++(ah++(aA++(bn++(cv++(cb++(bZ++(bW++(cc++(b8++b7)))))))))
theorem C.nU{g:al}{aq:Nat}{s:ai}{c:eT}{ah aA bn cv cb bZ bW cc b8 b7:List Chunk}{ae:List (List Chunk)}{o w:World}{F:List Nat}(h:C o F ((bg g aq s c++(ah++(aA++(bn++(cv++(cb++(bZ++(bW++(cc++(b8++b7))))))))))::ae) w):C o F (bg g aq s c::ah::aA::bn::cv::cb::bZ::bW::cc::b8::b7::ae) w:=h.perm (by simp)
theorem C.gr{g:al}{aq:Nat}{s:ai}{c:eT}{ah aA bn cv cb bZ bW cc b8 b7:List Chunk}{ae:List (List Chunk)}{o w:World}{F:List Nat}(h:C o F (bg g aq s c::ah::aA::bn::cv::cb::bZ::bW::cc::b8::b7::ae) w):C o F ((bg g aq s c++(ah++(aA++(bn++(cv++(cb++(bZ++(bW++(cc++(b8++b7))))))))))::ae) w:=h.perm (by simp)
theorem qk{ae cI ak:List (List Chunk)}[h:kz ae cI ak]:∀b∈av cI,b∈av ae:=λb a=>by
 obtain⟨I,c⟩:=nS.1 a
 refine nS.2 ⟨I,(h.perm.flatten.mem_iff).2 ?_⟩
 rw [g5]
 exact dA.2 (.inl c)
theorem C.ex{ae cI ak:List (List Chunk)}[h:kz ae cI ak]{g:al}{o w:World}{F:List Nat}(a:C o F ae w)(b:g.at o)(c:g.off F):g.off (av cI):=(b.apart a c).sub qk
theorem C.pZ{ae cI ak:List (List Chunk)}[h:kz ae cI ak]{A:Option Addr}{U:List Value}(a:bU A U (av ae)):bU A U (av cI):=a.sub qk
theorem AD(g:al)(s:ai)(x:List UInt8):(s.aH g 1 x).1={s with cT:=cj s.cT s.view (iR ((a2 s.cT s.view).getD []) (cU g 1 s.slot s.view (bL x) s.am))}:=by
 unfold ai.aH ai.counts
 dsimp only
 rw [a6 (show(cU g 1 s.slot s.view (bL x) s.am).k=1 from j)]
 rfl
theorem AE(g:al)(s:ai)(x:List UInt8):(s.aH g 2 x).1={s with ax:=cj s.ax s.view (iR ((a2 s.ax s.view).getD []) (cU g 2 s.slot s.view (bL x) s.am))}:=by
 unfold ai.aH ai.counts
 dsimp only
 rw [aF (show¬(cU g 2 s.slot s.view (bL x) s.am).k=1 from by show¬(2:Int)=1;decide)]
 rfl
theorem E5(g:al)(s:ai)(c:eT){w:World}{aq:Nat}{e:TypeId}{e2:Nat×Nat}(h:w.heap[aq]? =some (.cells (j4 g s c).toArray e e2)):Rd w (some ⟨aq,0+4,none⟩) [ab s.fQ,c.dF,c.c3]:=λi v a=>⟨_,j,by
 rw [add_lit]
 refine aw h ?_
 match i,a with
 |0,a=>exact a
 |1,a=>exact a
 |2,a=>exact a⟩
theorem Gk{o:World}{aq:Nat}{g:al}{s:ai}{G:List Chunk}(aC:ft g aq s G){N:Nat}(E:s.ok g N)(aB:N<=1000000)(Y:g.at o)(am:g.ok)(O:g.off (av [G]))(a:Own [G] o):Calls prog 237 #[Z aq] o (aS λr w=>∃v bl ah,r= .tuple #[v,.bool (s.gt g).isSome]/\cz v (((s.gt g).map Prod.snd).getD []) bl/\ft g aq (((s.gt g).map Prod.fst).getD s) ah/\C o (av [G]) [ah,bl] w):=by
 obtain⟨c,ah,aA,bn,cv,cb,bZ,bW,cc,b8,b7,n,rfl⟩:=aC
 obtain⟨f,ad⟩:∃f,f=av [bg g aq s c++(ah++(aA++(bn++(cv++(cb++(bZ++(bW++(cc++(b8++b7)))))))))]:=⟨_,j⟩
 rw [<-ad] at O⊢
 have a:C o f [bg g aq s c++(ah++(aA++(bn++(cv++(cb++(bZ++(bW++(cc++(b8++b7)))))))))] o:=ad▸a
 have a:=a.nU
 obtain⟨e,ag,I,bb,H,aG,hm,Q,ax⟩:=n.props
 subst ax
 have a:C o f [bg g aq s c,ay 288 e ag I,H,ah,aA,bn,cb,bZ,bW,cc,b8,b7] o:=C.perm (A:=[bg g aq s c,ay 288 e ag I++H,ah,aA,bn,cb,bZ,bW,cc,b8,b7]) a.as (by simp)
 have hw:=Q.wide j9.wide
 obtain⟨p,L,ak,aQ⟩:=gx.get pj hw s.view
 refine a1 [Z aq] func237 ntmps237 results237 ?_
 have a:=a.drew
 refine bz 5 j (λw=>∃ae,C o f ([bg g aq s c]++ae) w) ⟨_,a⟩ (af 0 3 j (be 3 j a7 (aL some aG) (af 4 3 j (be 7 j a7 j (aJ 8 12 j j ?_ ?_)))))
 have t:=nJ (k:=s.view) hw (dG.own (a.to (ay 288 e ag I)) hm)
 refine bF j j j t (λw u=>?_)
 have a:=a.aN u
 have a:C o f ([bg g aq s c]++_) w:=a.front
 refine an ⟨⟨_,a⟩,?_⟩
 refine af 9 2 j (iT 16 (.agg p.toArray) j L (af 11 1 j (aW 12 j (en a j j (λy w a=>?_)))))
 have a:C o f ([bg g aq s c]++_) w:=a.front
 refine an ⟨⟨_,a⟩,?_⟩
 rotate_left
 refine en a j j (λy w a=>?_)
 have a:C o f ([bg g aq s c]++_) w:=a.front
 refine an ⟨⟨_,a⟩,?_⟩
 refine aW 8 j ?_
 have t:=nJ (k:=s.view) hw (dG.own (a.to (ay 288 e ag I)) hm)
 refine bF j j j t (λw u=>?_)
 have a:=a.aN u
 have a:C o f ([bg g aq s c]++_) w:=a.front
 refine an ⟨⟨_,a⟩,?_⟩
 refine af 9 2 j (iT 16 (.agg p.toArray) j L (af 11 1 j ?_))
 rotate_left
 all_goals
  refine aW 13 j (c5 (a.bf y) j j j aQ ak (by decide) (λw a=>?_))
  have a:=C.whole (U:=p) a (by rw [ak];rfl)
  have a:C o f [bg g aq s c,R y p.toArray 94,ay 288 e ag I,H,ah,aA,bn,cb,bZ,bW,cc,b8,b7] w:=a.as
  refine an ⟨⟨_,a⟩,?_⟩
  refine af 14 1 j (bO ?_)
  have a:C o f [bg g aq s c,R y p.toArray 94,H,ah,aA,ay 288 e ag I,bn,cb,bZ,bW,cc,b8,b7] w:=a.as
  have a:=a.drew
  refine bz 2 j (λw=>∃ae,C o f ([bg g aq s c,R y p.toArray 94,H,ah,aA]++ae) w) ⟨_,a⟩ (af 0 3 j (ef 20 j (λJ=>?_) (λJ=>?_)))
  .refine af 3 34 j (bO (ao 5 j j ?_))
   have a:C o f [bg g aq s c,ah,aA,bn,ay 288 e ag I++(H),cb,bZ,bW,cc,b8,b7] _:=C.perm (A:=[bg g aq s c,ah,aA,bn,ay 288 e ag I,H,cb,bZ,bW,cc,b8,b7]) a.as (by simp)
   have D:s.gt g=none:=by
    unfold ai.gt
    rw [show a2 s.props s.view=none from mh ((Q.isSome s.view).symm.trans (by simpa using J))]
   rw [D]
   exact⟨_,[],_,j,cz.nil,⟨c,ah,aA,bn,ay 288 e ag I++(H),cb,bZ,bW,cc,b8,b7,n,j⟩,(C.gr a).empty.f1⟩
  obtain⟨q,F⟩:∃q,a2 s.props s.view=some q:=by
   have z:=Q.isSome s.view
   cases ar:a2 s.props s.view with
   |none=>rw [ar] at z;rw [z] at J;cases J
   |some q=>exact⟨q,j⟩
  obtain⟨v,H1,i,m,aY,rfl,⟨bk,rfl,rfl,M⟩,ba⟩:=Q.find F
  obtain rfl:p=bk.cs:=by
   rw [aY] at L
   have z:Value.agg bk.cs.toArray=Value.agg p.toArray:=L
   injection z with z
   have:=aL Array.toList z
   simpa using this.symm
  refine af 3 3 j (be 6 j a7 j (af 7 3 j (be 10 j a7 j (af 11 3 j (ef 31 j (λK=>?_) (λK=>?_))))))
  .refine af 14 23 j (bO (ao 5 j j ?_))
   have a:C o f [bg g aq s c,ah,aA,bn,ay 288 e ag I++(H1++(i++m)),cb,bZ,bW,cc,b8,b7] _:=C.perm (A:=[bg g aq s c,ah,aA,bn,ay 288 e ag I,H1++(i++m),cb,bZ,bW,cc,b8,b7]) a.as (by simp)
   have D:s.gt g=none:=by
    unfold ai.gt
    rw [F]
    exact a6 (br K)
   rw [D]
   exact⟨_,[],_,j,cz.nil,⟨c,ah,aA,bn,ay 288 e ag I++(H1++(i++m)),cb,bZ,bW,cc,b8,b7,n,j⟩,(C.gr a).empty.f1⟩
  refine af 14 3 j (be 17 j a7 j (af 18 3 j (aV 21 j (λw⟨_,a⟩=>dc (U:=[ab s.fQ,c.dF,c.c3]) j j j (E5 g s c (C.aj (b:=aq) a))) (af 22 3 j (be 25 j a7 j (af 26 3 j (be 29 j a7 j (af 30 1 j (be 31 j a7 bk.ge (af 32 1 j (be 33 j a7 bk.eV ?_)))))))))))
  obtain⟨ap,aR,a4,aI⟩:=M.ud
  obtain⟨ac,a9⟩:=M.read (show Holds _ i from(a.holds (G:=H1++(i++m)) (by simp)).right.left)
  obtain⟨S,X,aX,aO,_,aZ,a5⟩:=n.dF.read (a.holds (by simp))
  obtain⟨T,dl,aU,aP,_,a0,aK⟩:=n.c3.read (a.holds (by simp))
  have aM:(⟨s.fQ,S,s.dF,X,T,s.c3,dl⟩:gu).cs=[ab s.fQ,c.dF,c.c3]:=by rw [aX,aU]
  refine iT 39 (.agg (⟨s.fQ,S,s.dF,X,T,s.c3,dl⟩:gu).cs.toArray) j (by rw [aM]) (aW 34 j ?_)
  have aa:bk.P.cP:=E.sz _ (hN F)
  have t:=Fj (g:=g) (k:=⟨s.fQ,S,s.dF,X,T,s.c3,dl⟩) (B:=bk.B) (a8:=bk.A) (l:=bk.l) (value:=bk.x) (d:=bk.d) (c:=bk.c) (slot:=s.slot) (view:=s.view) am ⟨aZ,a0,E.k9,aO,aP,by have:=E.dF;show s.dF.length<=1000;omega,by have:=E.c3;show s.c3.length<=1000;omega,aK⟩ ac.aH aI aR (by have h:bk.l.length<=10:=aa.l;omega) ⟨Y.st a O,ac.l,al.off.nil g,bU.of_nil _ _⟩ ac.x (by have h:bk.x.length<=200:=aa.x;omega) ap
  refine bF j j j t (λw u=>?_)
  have a:=a.aN u
  have a:C o f [bg g aq s c,R y bk.cs.toArray 94,H1++(i++m),ah,aA,ay 288 e ag I,bn,cb,bZ,bW,cc,b8,b7] w:=a.as
  refine an ⟨⟨_,a⟩,?_⟩
  refine af 35 2 j (bO (aT 0 j j (λW=>?_) (λW=>?_)))
  .refine ao 4 j j ?_
   have a:C o f [bg g aq s c,ah,aA,bn,ay 288 e ag I++(H1++(i++m)),cb,bZ,bW,cc,b8,b7] _:=C.perm (A:=[bg g aq s c,ah,aA,bn,ay 288 e ag I,H1++(i++m),cb,bZ,bW,cc,b8,b7]) a.as (by simp)
   have D:s.gt g=none:=by
    unfold ai.gt
    rw [F]
    exact(aF (bw K)).trans (aF (by simpa using W))
   rw [D]
   exact⟨_,[],_,j,cz.nil,⟨c,ah,aA,bn,ay 288 e ag I++(H1++(i++m)),cb,bZ,bW,cc,b8,b7,n,j⟩,(C.gr a).empty.f1⟩
  refine au 7 j (aw (C.aj a) j) (dD 2 (a.bf aq) j j j j (λw a=>?_))
  have a:C o f (bg g aq {s with hO:=s.view} c::_) w:=a
  refine au 4 j (aw (C.aj a) bk.ge) ?_
  have a:C o f [H1,i,m,bg g aq {s with hO:=s.view} c,bZ,ay 288 e ag I,ah,aA,bn,cb,bW,cc,b8,b7] w:=C.perm (A:=[H1++(i++m),bg g aq {s with hO:=s.view} c,bZ,ay 288 e ag I,ah,aA,bn,cb,bW,cc,b8,b7]) a.as (by simp)
  have a:C o f [i,bg g aq {s with hO:=s.view} c,bZ,ay 288 e ag I,H1,m,ah,aA,bn,cb,bW,cc,b8,b7] w:=a.as
  have aE:=(M.apart a).1
  have t:=AG (aq:=aq) (g:=g) (s:={s with hO:=s.view}) (c:=c) (k:=0) (g7:=bk.c) (by decide) n.cT E.lA aB a.ours (Y.st a O) am (a.ex Y O) (M.read (a.holds (by simp))).1.x (C.pZ aE) (by have h:bk.x.length<=200:=aa.x;omega) ap
  refine bm 0 t j (λr w⟨V,bl,az,aD,u⟩=>?_)
  have a:=a.b4 u
  refine ao 2 j j ?_
  have a3:s.gt g=some (({s with hO:=s.view}:ai).aH g 1 bk.x):=by
   unfold ai.gt
   rw [F]
   exact(aF (bw K)).trans (a6 (by simpa using W))
  rw [a3]
  have a:C o f [bg g aq {s with hO:=s.view} c,ah,aA,bn,ay 288 e ag I++(H1++(i++m)),cb,V,bW,cc,b8,b7,bl] w:=C.perm (A:=[bg g aq {s with hO:=s.view} c,ah,aA,bn,ay 288 e ag I,H1,i,m,cb,V,bW,cc,b8,b7,bl]) (C.as a) (by simp)
  refine⟨_,bl,_,j,az,⟨c,ah,aA,bn,ay 288 e ag I++(H1++(i++m)),cb,V,bW,cc,b8,b7,?_,j⟩,C.gr a⟩
  show tt (({s with hO:=s.view}:ai).aH g 1 bk.x).1 c _ _ _ _ _ _ _ _ _ _
  rw [AD]
  exact{n with cT:=aD}
theorem Rd.move{A:Option Addr}{xs:List Value}{G:List Chunk}{w aI:World}(h:Rd w A xs)(g:∀a,A=some a->a.block∈av [G])(d:Holds w G)(e:Holds aI G):Rd aI A xs:=λi v j=>by
 obtain⟨a,c,f⟩:=h i v j
 refine⟨a,c,?_⟩
 obtain⟨I,b⟩:=nS.1 (g a c)
 have b:(a.block,I)∈G:=by simpa using b
 rw [World.cell?_of_block (w:=w) (by rw [wB,e _ b,d _ b])]
 exact f
theorem C2{o:World}{aq:Nat}{g:al}{s:ai}{G:List Chunk}(S:ft g aq s G){N:Nat}(m:s.ok g N)(J:N<=1000000)(u:g.at o)(z:g.ok)(q:g.off (av [G]))(b:Own [G] o):Calls prog 238 #[Z aq] o (aS λr w=>∃v bl ah,r= .tuple #[v,.bool (s.gX g).isSome]/\cz v (((s.gX g).map Prod.snd).getD []) bl/\ft g aq (((s.gX g).map Prod.fst).getD s) ah/\C o (av [G]) [ah,bl] w):=by
 obtain⟨c,ah,aA,bn,cv,cb,bZ,bW,cc,b8,b7,l,rfl⟩:=S
 obtain⟨d,F⟩:∃d,d=av [bg g aq s c++(ah++(aA++(bn++(cv++(cb++(bZ++(bW++(cc++(b8++b7)))))))))]:=⟨_,j⟩
 rw [<-F] at q⊢
 have b:C o d [bg g aq s c++(ah++(aA++(bn++(cv++(cb++(bZ++(bW++(cc++(b8++b7)))))))))] o:=F▸b
 have b:=b.nU
 refine a1 [Z aq] func238 ntmps238 results238 ?_
 have b:=b.drew
 refine bz 6 j (λw=>∃ae,C o d ([bg g aq s c]++ae) w) ⟨_,b⟩ (af 0 3 j (be 3 j a7 j (af 4 3 j (be 7 j a7 j (af 8 1 j (bO (aT 0 j j (λp=>?_) (λp=>?_))))))))
 .refine ao 4 j j ?_
  have b:C o d [bg g aq s c,ah,aA,bn,cv,cb,bZ,bW,cc,b8,b7] _:=b.as
  have x:s.gX g=none:=by
   unfold ai.gX
   exact a6 (br p)
  rw [x]
  exact⟨_,[],_,j,cz.nil,⟨c,ah,aA,bn,cv,cb,bZ,bW,cc,b8,b7,l,j⟩,(C.gr b).empty.f1⟩
 refine au 8 j (aw (C.aj b) j) ?_
 obtain⟨a,aC,H,aa,V,ap,R⟩:=l.cT.read (b.holds (by simp))
 have h:=w0 (aq:=aq) (g:=g) (s:=s) (c:=c) (k:=0) (C.aj b) (by decide) aa V (view:=s.view)
 refine bp 0 h j (λw i=>?_)
 have b:=b.aN i
 obtain⟨cV,Y,P⟩:=ie.GC ap s.view (R.st i)
 refine b2 23 (.pointer cV) j Y ?_
 have h:=xF (aq:=aq) (g:=g) (s:=s) (c:=c) (C.aj b) (u.st b q) z l.dg (b.holds (by simp)) m.pd P (fD.sj m.lA s.view) J
 refine bm 0 h j (λr w⟨v1,v2,ak,ag,i,az⟩=>?_)
 subst ag
 have b:=b.aN i
 refine aT 12 j j (λt=>?_) (λt=>?_)
 .refine ao 4 j j ?_
  have b:C o d [bg g aq s c,ah,aA,bn,cv,cb,bZ,bW,cc,b8,b7] _:=b.as
  have x:s.gX g=none:=by
   unfold ai.gX
   rw [aF (bw p),show s.fl g (s.ip 1 s.view)=none from(show s.fl g ((a2 s.cT s.view).getD [])=none by simpa using t)]
  rw [x]
  exact⟨_,[],_,j,cz.nil,⟨c,ah,aA,bn,cv,cb,bZ,bW,cc,b8,b7,l,j⟩,(C.gr b).empty.f1⟩
 obtain⟨y,B⟩:∃y,s.fl g ((a2 s.cT s.view).getD [])=some y:=g4.1 (by simpa using t)
 obtain⟨⟨A,g7,rfl,ar,aB,M,D⟩,K⟩:=az y B
 obtain⟨f,d2,rfl,_,_⟩:=K.form
 have O:=m.fl z (fD.sj m.lA s.view) B
 have L:=b.holds (G:=cb) (by simp)
 refine au 7 j (aw (C.aj b) j) (dD 2 (b.bf aq) j j j j (λw b=>?_))
 have b:C o d (bg g aq {s with comm:=s.view} c::_) w:=b
 have b:C o d [bg g aq {s with comm:=s.view} c,ah,aA,bn,cv,cb,bZ,bW,cc,b8,b7,ak] w:=b.as
 have b:=b.drew
 refine bz 1 j (λw=>∃ae,C o d ([bg g aq {s with comm:=s.view} c]++ae) w) ⟨_,b⟩ (af 0 4 j (be 4 j a7 j (af 5 1 j (af 7 1 j (aW 6 j ?_)))))
 have h:=gW (c:=g7) (M.move D L (b.holds (by simp))) (by have:=O.1;omega)
 refine cN j j j h (λr w⟨n,I,i⟩=>?_)
 obtain⟨e,aZ,rfl,_,_⟩:=I.form
 have b:=b.aN i
 have b:C o d [bg g aq {s with comm:=s.view} c,ah,aA,bn,cv,cb,bZ,bW,cc,b8,b7,ak,n] w:=b.as
 refine an ⟨⟨_,b⟩,?_⟩
 refine aV 8 j (λw _=>e0 (c:= #[ab s.view,.slice e y.1.length aZ,.slice f y.2.length d2]) j (λ_=>by kernel_rfl)) (af 9 2 j (dy 11 j (c5 (U:= #[ab s.view,.slice e y.1.length aZ,.slice f y.2.length d2]) (b.bf aq) j j j j j bR (λw b=>?_))))
 have b:C o d (bg g aq {s with comm:=s.view,fQ:=s.view,dF:=y.1,c3:=y.2} {c with dF:=.slice e y.1.length aZ,c3:=.slice f y.2.length d2}::_) w:=b
 have b:C o d [bg g aq {s with comm:=s.view,fQ:=s.view,dF:=y.1,c3:=y.2} {c with dF:=.slice e y.1.length aZ,c3:=.slice f y.2.length d2},n,ak,bn,cv,cb,bZ,bW,cc,b8,b7] w:=b.as
 refine an (cX ?_)
 have am:=M.move D L (b.holds (by simp))
 have X:bU A (aE y.1) (av [bg g aq {s with comm:=s.view,fQ:=s.view,dF:=y.1,c3:=y.2} {c with dF:=.slice e y.1.length aZ,c3:=.slice f y.2.length d2},bW]):=λ_ a W ac=>(b.to cb).k0 (D a W) (qk _ ac)
 have h:=AG (aq:=aq) (g:=g) (s:={s with comm:=s.view,fQ:=s.view,dF:=y.1,c3:=y.2}) (c:={c with dF:=.slice e y.1.length aZ,c3:=.slice f y.2.length d2}) (k:=1) (g7:=g7) (by decide) l.ax m.jT J b.ours (u.st b q) z (b.ex u q) am X (by have:=O.1;omega) ar
 refine bm 4 h j (λaD w⟨E,bl,Q,T,ad⟩=>?_)
 have b:=b.b4 ad
 refine ao 2 j j ?_
 have ay:s.gX g=some (({s with comm:=s.view,fQ:=s.view,dF:=y.1,c3:=y.2}:ai).aH g 2 y.1):=by
  unfold ai.gX
  rw [aF (bw p),show s.fl g (s.ip 1 s.view)=some y from B]
 rw [ay]
 have b:C o d [bg g aq {s with comm:=s.view,fQ:=s.view,dF:=y.1,c3:=y.2} {c with dF:=.slice e y.1.length aZ,c3:=.slice f y.2.length d2},n,ak,bn,cv,cb,bZ,E,cc,b8,b7,bl] w:=b.as
 refine⟨_,bl,_,j,Q,⟨{c with dF:=.slice e y.1.length aZ,c3:=.slice f y.2.length d2},n,ak,bn,cv,cb,bZ,E,cc,b8,b7,?_,j⟩,C.gr b⟩
 show tt (({s with comm:=s.view,fQ:=s.view,dF:=y.1,c3:=y.2}:ai).aH g 2 y.1).1 _ _ _ _ _ _ _ _ _ _ _
 rw [AE]
 exact{l with dF:=I,c3:=K,ax:=T}
end Go.Proofs.YtdcbpdlhhkcjnaaGreatDoor.R
