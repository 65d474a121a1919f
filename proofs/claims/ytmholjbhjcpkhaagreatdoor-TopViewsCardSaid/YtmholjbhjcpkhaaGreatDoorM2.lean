/- Part 2 of the proof. -/
import Derived.Test.YtmholjbhjcpkhaaGreatDoorM1
set_option linter.unusedVariables false
set_option linter.unusedSimpArgs false
set_option linter.unusedSectionVars false
set_option maxRecDepth 20000
set_option maxHeartbeats 4000000
namespace Go.Proofs.YtmholjbhjcpkhaaGreatDoor.R
open Go.Proofs.Tryz Go Go.RowKit Go.Proofs
structure b7 where
 k:Int
 p:Int
 e:Int
 t:Int
 deriving DecidableEq
abbrev b7.cs(m:b7):List Value:=[ab m.k,ab m.p,ab m.e,ab m.t]
abbrev b7.ok(m:b7):Bool:=iM m.k m.p m.e m.t
def b7.enc(m:b7):List UInt8:=ep [3,m.k,m.p,m.e,m.t]
def b7.sum(m:b7):List UInt8:=ca m.enc
theorem b7.vv(m:b7):m.sum.length=32:=fm _
theorem b7.rD(m:b7):m.enc.length<=50:=by have:=gb [3,m.k,m.p,m.e,m.t];simp only [ex,fW] at this;unfold b7.enc;omega
def lG:aN:=⟨0,0,0,cD,0,cD⟩
def dr(g:al)(m:b7)(f:Int):aN:=if m.ok then cT g 3 0 0 m.sum f else lG
theorem HW:lG.ok:=⟨j,j⟩
theorem iL(g:al)(m:b7)(f:Int):(dr g m f).ok:=by unfold dr;split;exact jm _ _ _ _ _ _ m.vv;exact HW
def pq(g:al)(m:b7)(l:List aN):Bool:=m.ok&&meets g l 3 0 0 m.sum
theorem rt{m:b7}{u v:Value}{i:Nat}(h:m.cs[i]? =some v):(m.cs++[u]).toArray[i]? =some v:=by
 simp only [mJ];rw [jG (e8.1 h).1];exact h
theorem u2{b:Bool}(h:((if b=true then(0:Int) else 1) !=0)=true):b=false:=by cases b<;>simp_all
theorem u3{b:Bool}(h:((if b=true then(0:Int) else 1) !=0)=false):b=true:=by cases b<;>simp_all
theorem u1(b:Bool):((if b=true then(0:Int) else 1)==0)=b:=by cases b<;>rfl
theorem rX{o:World}{g:al}(x:g.at o)(y:g.ok){m:b7}{f:Int}:Calls prog 139 #[g.p,.agg m.cs.toArray,ab f] o λr w=>r= .tuple #[.agg (dr g m f).cs.toArray,.bool m.ok]/\C o [] [] w:=by
 have a:Own [] o:=C.start o;refine fj func139 (bJ 2 a j j (λD w a=>cx 0 a j (λq w a=>?_)));have a:C o [] (J q (lG).cs.toArray 115::_) w:=a;refine bP 3 (U:=m.cs) j j j a.f1.bQ ?_;have d:=t6 (o:=w) (k:=m.k) (p:=m.p) (e:=m.e) (t:=m.t);refine bk 0 d j (λr w⟨v,G,z,i,ad⟩=>?_);subst z;have a:=a.aO ad;refine bo 10 j j (λl=>?_) (λl=>?_)
 .have h:m.ok=false:=u2 l;refine aq 2 j (cP (c:=lG.cs.toArray) j j j (λ_=>by kernel_rfl) ?_);refine c6 a.f1 j j j (by decide) (by decide) (by decide) (λw a=>?_);have a:=C.whole (U:=lG.cs) a j;refine bH 1 j ⟨_,ds (U:=lG.cs) results139 j j j j a.bQ,?_⟩;refine⟨?_,a.bare⟩;unfold dr;rw [h];rfl
 have h:m.ok=true:=u3 l
 have i:d6 v m.enc G:=by
  have e:(if iM m.k m.p m.e m.t=true then ep [3,m.k,m.p,m.e,m.t] else [])=m.enc:=aR h;rw [e] at i;exact i
 obtain⟨B,gV,rfl,u,_,A,_⟩:=i.rd a;have d:=mZ (p:=m.enc) A (by have:=m.rD;omega) u;refine bk 5 d j (λr w⟨b,n⟩=>?_);have b:r= .agg (aP m.sum).toArray:=b;subst b;have a:=a.aO n;have d:=n9 (x.st a (al.off.nil g)) y (k:=3) (s:=0) (v:=0) (f:=f) m.vv;refine bk 1 d j (λr w⟨b,n⟩=>?_);have b:r= .agg (dr g m f).cs.toArray:=by rw [b];unfold dr;rw [if_pos h]
 subst b;have a:=(a.aO n).f1;refine cv 0 a j j j (by simpa using(dr g m f).one) (by rw [List.size_toArray];exact(dr g m f).len (iL g m f)) (λw a=>?_);have a:=C.whole (U:=(dr g m f).cs) a (by rw [(dr g m f).len (iL g m f)];rfl);refine bH 1 j ⟨_,ds (U:=(dr g m f).cs) results139 j j j ((dr g m f).len (iL g m f)) a.bQ,?_⟩;refine⟨?_,a.bare⟩;rw [h]
theorem tx{o:World}{g:al}{B:Option Addr}{l:List aN}{d:Nat}{m:b7}(E:g.ok)(K:∀x∈l,x.ok)(A:l.length<=d)(D:l.length<=1000)(y:Ext g B (l.flatMap aN.cs) [] o):Calls prog 101 #[g.p,.agg (m.cs++[Value.slice B l.length d]).toArray] o λr w=>r= .bool (pq g m l)/\C o [] [] w:=by
 have a:Own [] o:=C.start o;refine a6 func101 ?_;refine bJ 2 a j j (λu w a=>?_);refine bP 4 (U:=m.cs) j j j (a.i9 (off:=0) (U:=m.cs) (λi v I=>by rw [fe];exact rt I)) ?_;have b:=t6 (o:=w) (k:=m.k) (p:=m.p) (e:=m.e) (t:=m.t);refine bk 0 b j (λr w⟨v,G,F,c,ad⟩=>?_);subst F;have a:=a.aO ad;have a:=a.f1;have a:=a.drew;refine bx 6 j (λw=>∃ae,C o [] ([J u (m.cs++[Value.slice B l.length d]).toArray 121]++ae) w) ⟨_,a⟩ ?_;refine ag 0 3 j ?_;refine ek 15 j (λh=>?_) (λh=>?_)
 .refine ag 3 2 j ?_;refine b4 5 j (λw⟨_,a⟩=>a.cell j) ?_;refine ag 6 1 j ?_;refine aX 7 j ?_;have f:m.ok=true:=by have n:=u1 (iM m.k m.p m.e m.t);exact n.symm.trans h
  have c:d6 v m.enc G:=by
   have e:(if iM m.k m.p m.e m.t=true then ep [3,m.k,m.p,m.e,m.t] else [])=m.enc:=aR f;rw [e] at c;exact c
  obtain⟨L,gV,rfl,z,_,H,_⟩:=c.rd a.f1;have b:=mZ (p:=m.enc) H (by have:=m.rD;omega) z;refine cS j j j b (λr w⟨s,q⟩=>?_);have s:r= .agg (aP m.sum).toArray:=s;subst s;have a:=a.aO q;refine ao ⟨⟨_,a⟩,?_⟩;refine aX 8 j ?_;have b:=uK E K m.vv A D (y.st a (by simp [au])) (kind:=3) (slot:=0) (view:=0);refine bK j j j b (λw q=>?_);have a:=a.aO q;refine ao ⟨⟨_,a⟩,?_⟩;refine ag 9 2 j ?_;refine bL ?_;refine an 0 j j ?_;refine⟨aK Value.bool ?_,a.bare⟩;unfold pq;rw [f,na]
 refine ag 3 8 j ?_;refine bL ?_;refine an 0 j j ?_;refine⟨aK Value.bool ?_,a.bare⟩;have f:m.ok=false:=by have n:=u1 (iM m.k m.p m.e m.t);exact n.symm.trans h
 unfold pq;rw [f,nU]
section
variable {P:Program} {n:Nat} {Z:Env} {w:World} {dst:Option Nat} {ty:TypeId} {pos:String} {after:Array Edge} {g:Option (Nat×Bool)}
theorem oN{t k:TypeId}{x y:Operand}{i R:Nat}(h:bt Z x=some (.int .i64 i))(j:bt Z y=some (.int .i64 R))(l:0<R):
 ∀a,cN Z n a->(execOp a.eval ⟨dst,.binOp .rem t x y k,ty,pos,after,g⟩).run P w= .ok (.value (.int .i64 ((i%R:Nat):Int))) w:=λa b=>by
 have c:¬(R:Int)=0:=by omega
 have d:(i:Int).tmod (R:Int)=((i%R:Nat):Int):=rfl;simp only [execOp,b.eval h,b.eval j];have e:eqGuard .rem t x y (.int .i64 (i:Int)) (.int .i64 (R:Int))=pure ():=rfl
 have f:(binOp .rem t (.int .i64 (i:Int)) (.int .i64 (R:Int))).run P w= .ok (.int .i64 ((i%R:Nat):Int)) w:=by
  show(Op.intDiv .rem .i64 (i:Int) (R:Int)).run P w=_;unfold Op.intDiv;simp only [d,az c,ew]
 simp only [e,dW,ew,dZ,f]
theorem g4{t e:TypeId}{x y:Operand}{b I l c R:Nat}{k:IntKind}{z:Value}{size bytes:Nat}[hu:bC P t (.slice e)][i:cq P e z size bytes]
 (f:bt Z x=some (.slice (some ⟨b,I,none⟩) l c)) (h:bt Z y=some (.int k R)) (d:R<l):
 ∀a,cN Z n a->(execOp a.eval ⟨dst,.indexAddr t x y,ty,pos,after,g⟩).run P w= .ok (.value (.pointer (some ⟨b,I+R*size,none⟩))) w:=by
 have:=qD (P:=P) (n:=n) (w:=w) (dst:=dst) (ty:=ty) (pos:=pos) (after:=after) (g:=g) (Z:=Z) (t:=t) (e:=e) (z:=z) (size:=size) (bytes:=bytes) f h d;rw [add_lit] at this;exact this
end
def Flat(A:Option Addr):Prop:=A=none\/∃b I,A=some ⟨b,I,none⟩
theorem Row.flat{e:TypeId}{size:Nat}{A:Option Addr}{n m c:Nat}{xs:List Value}{G:List Chunk}(h:Row e size (.slice A m c) n xs G):Flat A:=by
 rcases h.2 with⟨a,_⟩|⟨g,_,_,a,_⟩
 .cases a;exact .inl j
 .cases a;exact .inr ⟨_,_,j⟩
def j8(s v n:Nat):Nat:=(s%n+v%n)%n
def kb(g:al)(l:List aN)(slot below:Int)(value:List UInt8):Option Int:=match l with
 |[]=>none
 |x::_=>if 0<=x.v/\x.v<below/\meets g l 1 slot x.v (ca value)=true then some x.v else none
theorem free_spec{o:World}:Calls prog 158 #[] o λr w=>r= .agg #[ab (-1),.slice none 0 0,.slice none 0 0]/\C o [] [] w:=by
 have a:Own [] o:=C.start o;refine fj func158 (cx 2 a j (λdw w a=>aq 2 j (cP (c:= #[ab (-1),.slice none 0 0,.slice none 0 0]) j j j (λ_=>by kernel_rfl) ?_)));refine cv 0 a j j j j j (λw a=>bH 0 j ⟨_,hW results158 j j j (a.bQ),?_⟩);exact⟨j,a.bare⟩
theorem x2{o:World}{s v n:Nat}(aF:s<=1000000)(e:v<=1000000)(a:1<=n)(aT:n<=1000):Calls prog 191 #[.int .i64 s,.int .i64 v,.int .i64 n] o λr w=>r= .int .i64 (j8 s v n)/\C o [] [] w:=by
 have b:Own [] o:=C.start o;have c:=jE s a;have d:=jE v a;refine a6 func191 ?_;refine aq 9 j (bY 9 (.bool false) j (aK Value.bool (e7 (by omega))) ?_);refine aq 4 j (bY 13 (.bool false) j (aK Value.bool (e7 (by omega))) ?_);refine ij 3 j j (e7 (by omega)) ?_;have b:=b.drew;refine bx 2 j (λw=>∃F ae,C o F ae w) ⟨_,_,b⟩ ?_;refine ag 0 2 j ?_;refine bl 2 j (λw _=>oN j j a) ?_;refine ag 3 2 j ?_;refine bl 5 j (λw _=>oN j j a) ?_;refine bl 6 j (λw _=>fr j j (gX (s%n) (v%n) (by omega))) ?_;refine ag 7 1 j ?_;refine bl 8 j (λw _=>oN j j a) ?_;refine ag 9 1 j ?_;refine bL ?_;refine an 0 j j ?_;exact⟨j,b.bare⟩
theorem qv{w:World}{b I:Nat}{x:aN}{l:List aN}(h:Rd w (some ⟨b,I,none⟩) ((x::l).flatMap aN.cs)):w.cell? ⟨b,I+0*68+2,none⟩=some (ab x.v):=by
 have a:=h.cell (R:=2) (v:=ab x.v) (by simp [aN.cs]);rw [add_lit] at a;simpa using a
theorem x7{l:List aN}(h:((l.length:Int)==0)=true):l=[]:=lP (by have:=ea.1 h;omega)
theorem x6{l:List aN}(h:((l.length:Int)==0)=false):∃x r,l=x::r:=by
 cases l with
 |nil=>simp at h
 |cons x r=>exact⟨x,r,j⟩
theorem uj{B:Option Addr}{w:World}{x:aN}{r:List aN}(d:Flat B)(h:Rd w B ((x::r).flatMap aN.cs)):∃b I,B=some ⟨b,I,none⟩:=by
 rcases d with rfl|c
 .obtain⟨a,e,_⟩:=h 0 (ab x.k) (by simp [aN.cs]);cases e
 .exact c
theorem y5{o:World}{g:al}{B a7:Option Addr}{l:List aN}{value:List UInt8}{d c:Nat}{slot below:Int}(D:g.ok)(G:∀x∈l,x.ok)(q:Flat B)(u:l.length<=d)(z:l.length<=1000)(f:Ext g B (l.flatMap aN.cs) [] o)(s:Rd o a7 (aP value))(F:value.length<=1000000)(E:value.length<=c):Calls prog 296 #[g.p,.slice B l.length d,ab slot,ab below,.slice a7 value.length c] o λr w=>r= .tuple #[ab ((kb g l slot below value).getD (-1)),.bool (kb g l slot below value).isSome]/\C o [] [] w:=by
 have a:Own [] o:=C.start o;refine a6 func296 ?_;have a:=a.drew;refine bx 6 j (λw=>∃ae,C o [] ae w) ⟨_,a⟩ (ag 0 4 j (ek 15 j (λi=>?_) (λi=>?_)))
 .refine ag 4 27 j (bL (an 5 j j ?_));have A:=x7 i;subst A;exact⟨j,a.bare⟩
 obtain⟨x,l,rfl⟩:=x6 i;obtain⟨b,I,rfl⟩:=uj q f.rd;refine ag 4 1 j (bl 5 j (λw _=>g4 (R:=0) j j (by simp)) (ag 6 1 j (b4 7 j (λw⟨_,a⟩=>qv (f.st a (by simp [au])).rd) (ag 8 3 j (ek 22 j (λk=>?_) (λk=>?_))))))
 .refine ag 11 20 j (bL (an 5 j j ?_));have e:kb g (x::l) slot below value=none:=az (λh=>by have:=dV k;omega);rw [e];exact⟨j,a.bare⟩
 refine ag 11 1 j (bl 12 j (λw _=>g4 (R:=0) j j (by simp)) (ag 13 1 j (b4 14 j (λw⟨_,a⟩=>qv (f.st a (by simp [au])).rd) (ag 15 4 j (ek 30 j (λm=>?_) (λm=>?_))))))
 .refine ag 19 12 j (bL (an 5 j j ?_));have e:kb g (x::l) slot below value=none:=az (λh=>by have:=dV m;omega);rw [e];exact⟨j,a.bare⟩
 refine ag 19 4 j (bl 23 j (λw _=>g4 (R:=0) j j (by simp)) (ag 24 1 j (b4 25 j (λw⟨_,a⟩=>qv (f.st a (by simp [au])).rd) (ag 26 1 j (aX 27 j (bK j j j (mZ (a.rd s (cc.of_nil _ _)) F E) (λw ad=>?_)))))));have a:=a.aO ad;refine ao ⟨⟨_,a⟩,?_⟩;refine aX 28 j ?_;have t:=uK D G (fm value) u z (f.st a (by simp [au])) (kind:=1) (slot:=slot) (view:=x.v);refine bK j j j t (λw y=>?_);have a:=a.aO y;refine ao ⟨⟨_,a⟩,?_⟩;refine ag 29 2 j (bL (bo 0 j j (λn=>?_) (λn=>?_)))
 .refine an 4 j j ?_;have hm:meets g (x::l) 1 slot x.v (ca value)=false:=by simpa using n
  have e:kb g (x::l) slot below value=none:=az (λh=>by rw [hm] at h;exact absurd h.2.2 (by decide));rw [e];exact⟨j,a.bare⟩
 refine aq 4 j (dR j j (g4 (R:=0) j j (by simp)) ?_);refine ar 1 j (qv (f.st a (by simp [au])).rd) (an 2 j j ?_);have hm:meets g (x::l) 1 slot x.v (ca value)=true:=by simpa using n
 have e:kb g (x::l) slot below value=some x.v:=aR ⟨by have:=dY k;omega,by have:=dY m;omega,hm⟩;rw [e];exact⟨j,a.bare⟩
abbrev vcs(l:List aN):List Value:=l.flatMap aN.cs
abbrev en(v:Value)(l:List aN)(G:List Chunk):Prop:=Row 115 68 v l.length (vcs l) G
theorem sF:∀(l:List aN),(∀x∈l,x.ok)->(vcs l).length=l.length*68
 |[],_=>rfl
 |x::r,h=>by
  show(x.cs++vcs r).length=_;rw [cj,x.len (h x (by simp)),sF r (λy a=>h y (by simp [a])),List.length_cons];omega
theorem sG(l:List aN):∀u∈vcs l,u.oneCell'=true:=by
 intro u hu;obtain⟨x,_,a⟩:=o7.1 hu;exact ji.1 x.one u a
theorem pF{o:World}{A B:Option Addr}{xs dh:List UInt8}{c d:Nat}(a:Rd o A (aP xs))(b:Rd o B (aP dh)):Calls prog 172 #[.slice A xs.length c,.slice B dh.length d] o λr w=>r= .bool (decide (xs=dh))/\w=o:=by
 refine a6 func172 (aq 6 j (vZ j j j a ?_));refine aq 1 j (vZ j j j b ?_);exact nH j j j j (an 1 j j ⟨aK Value.bool (mY xs dh),j⟩)
theorem kO{o:World}{B:Option Addr}{l:List aN}{d:Nat}(h:Rd o B (vcs l))(q:∀x∈l,x.ok)(s:l.length<=1000):Calls prog 105 #[.slice B l.length d] o λr w=>∃G,en r l G/\C o [] [G] w:=by
 have b:Own [] o:=C.start o;refine a6 func105 (aq 7 j (vV j j j ?_));refine bo 0 j j (λfA=>?_) (λfA=>?_)
 .refine an 3 j j ?_
  have p:l=[]:=by
   cases l with
   |nil=>rfl
   |cons x r=>obtain⟨a,n,_⟩:=h 0 (ab x.k) (by simp [aN.cs]);rw [n] at fA;cases fA
  subst p;exact⟨[],Row.nil _ _,b.empty⟩
 refine aq 3 j (oR (e:=115) (c:= #[]) b j j j (λw=>by kernel_rfl) (λf w b=>?_));have m:Row 115 68 (.slice (some ⟨f,0,none⟩) 0 0) 0 [] (J f #[] 115):=Row.made (by decide) (by decide);refine aq 1 j (e6 b m j j (by decide) j j j (news:=vcs l) (sF l q) (b.rd h (cc.of_nil _ _)) (sG l) (by omega) (by unfold maxLen;omega) (λv1 i w g b=>?_));refine an 1 j j (⟨i,?_,b⟩);rw [fe,kl] at g;exact g
structure gi where
 v:Int
 A:Option Addr
 x:List UInt8
 c:Nat
 B:Option Addr
 l:List aN
 d:Nat
abbrev gi.cs(k:gi):List Value:=[ab k.v,.slice k.A k.x.length k.c,.slice k.B k.l.length k.d]
structure gi.ok(k:gi)(w:World):Prop where
 qa:Rd w k.A (aP k.x)
 sk:Rd w k.B (vcs k.l)
 r4:∀x∈k.l,x.ok
 oJ:k.x.length<=k.c
 x0:k.l.length<=k.d
 sP:k.x.length<=1000
 aZ:k.l.length<=1000
 hg:Flat k.B
theorem gi.ok.st{k:gi}{o w:World}{ae:List (List Chunk)}(h:k.ok o)(a:C o [] ae w):k.ok w:=
 ⟨a.rd h.qa (cc.of_nil _ _),a.rd h.sk (cc.of_nil _ _),h.r4,h.oJ,h.x0,h.sP,h.aZ,h.hg⟩
def may(g:al)(a:Int)(b:List UInt8)(slot view:Int)(value:List UInt8)(et:List aN):Bool:=
 a== -1||(decide (b=value)||match kb g et slot view value with|some v=>decide (v>a)|none=>false)
theorem EP{o:World}{g:al}{k:gi}{B a7:Option Addr}{l:List aN}{value:List UInt8}{d c:Nat}{slot view:Int}(z:g.ok)(ad:k.ok o)(E:∀x∈l,x.ok)(n:Flat B)(t:l.length<=d)(y:l.length<=1000)(q:Ext g B (l.flatMap aN.cs) [] o)(m:Rd o a7 (aP value))(D:value.length<=1000000)(A:value.length<=c):Calls prog 266 #[g.p,.agg k.cs.toArray,ab slot,ab view,.slice a7 value.length c,.slice B l.length d] o λr w=>r= .bool (may g k.v k.x slot view value l)/\C o [] [] w:=by
 have a:Own [] o:=C.start o;refine a6 func266 (bJ 2 a j j (λi w a=>?_));have a:C o [] [J i k.cs.toArray 275] w:=a;refine ar 5 j (ax (C.aj a) j) (aq 2 j (c9 18 j (λb=>?_) (λb=>?_)))
 .refine an 9 j j (⟨aK Value.bool ?_,a.bare⟩);unfold may;rw [b];rfl
 refine ar 1 j (ax (C.aj a) j) (br 1 (pF (ad.st a).qa (a.rd m (cc.of_nil _ _))) j (λw hw=>?_));subst hw;refine bo 1 j j (λe=>?_) (λe=>?_)
 .refine an 3 j j (⟨aK Value.bool ?_,a.bare⟩);unfold may;rw [b,e];rfl
 have s:=y5 z E n t y (q.st a (by simp)) (a.rd m (cc.of_nil _ _)) D A (slot:=slot) (below:=view);refine br 8 s j (λw u=>?_);have a:=a.aO u;have a:C o [] ([J i k.cs.toArray 275]++_) w:=a;refine aq 1 j (bY 24 (.tuple #[ab ((kb g l slot view value).getD (-1)),.bool (kb g l slot view value).isSome]) j j ?_);refine aq 8 j (c9 34 j (λf=>?_) (λf=>?_))
 .refine ar 2 j (ax (C.aj a) j) (an 3 j j (⟨aK Value.bool ?_,a.bare⟩));obtain⟨v,h⟩:=g8.1 f;unfold may;rw [b,e,h];rfl
 refine an 6 j j (⟨aK Value.bool ?_,a.bare⟩);have h:kb g l slot view value=none:=by simpa using f
 unfold may;rw [b,e,h];rfl
def kw(g:al)(slot below:Int)(x:List UInt8)(l:List aN):Int×List UInt8×List aN:=match kb g l slot below x with
 |some v=>(v,x,l)
 |none=>(-1,[],[])
structure gi.own(k:gi)(af aB:List Chunk):Prop where
 x:d6 (.slice k.A k.x.length k.c) k.x af
 l:en (.slice k.B k.l.length k.d) k.l aB
abbrev gi.P(k:gi):Int×List UInt8×List aN:=(k.v,k.x,k.l)
def pU:List Value:=[ab 0,.slice none 0 0,.slice none 0 0]
def l5:gi:=⟨-1,none,[],0,none,[],0⟩
theorem x8:l5.own [] []:=⟨Row.nil _ _,Row.nil _ _⟩
theorem y4{o:World}{g:al}{k:gi}{slot below:Int}(G:g.ok)(ad:k.ok o)(F:Ext g k.B (k.l.flatMap aN.cs) [] o):Calls prog 320 #[g.p,ab slot,ab below,.agg k.cs.toArray] o λr w=>∃(q:gi)(af aB:List Chunk),r= .agg q.cs.toArray/\q.own af aB/\q.P=kw g slot below k.x k.l/\C o [] [af,aB] w:=by
 have a:Own [] o:=C.start o;refine fj func320 (bJ 2 a j j (λy w a=>cx 0 a j (λn w a=>?_)));have a:C o [] [J y k.cs.toArray 275,J n (pU).toArray 275] w:=a.f1;refine ar 4 j (ax (C.aj a) j) (ar 3 j (ax (C.aj a) j) ?_);have m:=y5 G ad.r4 ad.hg ad.x0 ad.aZ (F.st a (by simp)) (ad.st a).qa (by have:=ad.sP;omega) ad.oJ (slot:=slot) (below:=below);refine br 0 m j (λw b=>?_);have a:=a.aO b;have a:C o [] [J y k.cs.toArray 275,J n (pU).toArray 275] w:=a;refine bo 10 j j (λz=>?_) (λz=>?_)
 .refine br 2 free_spec j (λw b=>?_);have a:=(a.aO b).f1;refine c6 a j j j j j (by decide) (λw a=>?_);have a:=C.whole (U:=l5.cs) a j;refine bH 0 j ⟨_,hW (U:=l5.cs) results320 j j j a.bQ,?_⟩;have u:kb g k.l slot below k.x=none:=by simpa using z
  exact⟨l5,[],[],j,x8,by unfold kw;rw [u];rfl,a.bare.empty.empty⟩
 obtain⟨v,u⟩:=g8.1 (show(kb g k.l slot below k.x).isSome=true by simpa using z);have a:=a.drew;refine bx 2 j (λw=>∃ae,C o [] ([J y k.cs.toArray 275,J n (pU).toArray 275]++ae) w) ⟨_,a⟩ (iF 9 (ab v) j (by rw [u];rfl) (ag 0 2 j (b4 2 j (λw⟨_,a⟩=>a.cell j) (ag 5 1 j (b4 6 j (λw⟨_,a⟩=>a.cell j) (aS 3 4 j j ?_ ?_))))));have m:=gN (c:=k.c) (ad.st a).qa (by have:=ad.sP;omega);refine cS j j j m (λr w⟨af,s,b⟩=>?_);have a:=(a.aO b).f1.f2.f1;obtain⟨d,aH,rfl⟩:∃A c,r= .slice A k.x.length c:=by obtain⟨A,c,h,_⟩:=s.form;exact⟨A,c,h⟩
 refine ao ⟨⟨_,a⟩,?_⟩;refine aX 4 j (oR (e:=115) (c:= #[]) a j j j (λw=>by kernel_rfl) (λi w a=>?_));have D:Row 115 68 (.slice (some ⟨i,0,none⟩) 0 0) 0 [] (J i #[] 115):=Row.made (by decide) (by decide);have a:=a.f1.f2.f1;refine ao ⟨⟨_,a⟩,?_⟩;refine aX 7 j (e6 a.f2 D j j (by decide) j j j (news:=vcs k.l) (sF k.l ad.r4) (ad.st a).sk (sG k.l) (by have:=ad.aZ;omega) (by have:=ad.aZ;unfold maxLen;omega) (λv2 E w t a=>?_));rotate_left
 refine oR (e:=115) (c:= #[]) a j j j (λw=>by kernel_rfl) (λi w a=>?_);have D:Row 115 68 (.slice (some ⟨i,0,none⟩) 0 0) 0 [] (J i #[] 115):=Row.made (by decide) (by decide);have a:=a.f1.f2.f1;refine ao ⟨⟨_,a⟩,?_⟩;refine aX 3 j ?_;have m:=gN (c:=k.c) (ad.st a).qa (by have:=ad.sP;omega);refine cS j j j m (λr w⟨af,s,b⟩=>?_);have a:=(a.aO b).f1.f2.f1;obtain⟨d,aH,rfl⟩:∃A c,r= .slice A k.x.length c:=by obtain⟨A,c,h,_⟩:=s.form;exact⟨A,c,h⟩
 refine ao ⟨⟨_,a⟩,?_⟩;refine aX 7 j (e6 a.f3 D j j (by decide) j j j (news:=vcs k.l) (sF k.l ad.r4) (ad.st a).sk (sG k.l) (by have:=ad.aZ;omega) (by have:=ad.aZ;unfold maxLen;omega) (λv2 E w t a=>?_));rotate_left
 all_goals
  have a:=a.f1.f2.f1;rw [fe,kl] at t;obtain⟨f,dy,rfl⟩:∃A c,v2= .slice A k.l.length c:=by obtain⟨A,c,h,_⟩:=t.form;exact⟨A,c,h⟩
  refine ao ⟨⟨_,a⟩,?_⟩;refine bl 8 j (λw _=>eX (c:=(⟨v,d,k.x,aH,f,k.l,dy⟩:gi).cs.toArray) j (λ_=>by kernel_rfl)) (dK 9 j (c6 a.f1 j j j j j bO (λw a=>?_)));have a:C o [] (J n ((⟨v,d,k.x,aH,f,k.l,dy⟩:gi).cs).toArray 275::_) w:=C.whole (U:=(⟨v,d,k.x,aH,f,k.l,dy⟩:gi).cs) a j;refine ao (c5 (bH 0 j ⟨_,hW (U:=(⟨v,d,k.x,aH,f,k.l,dy⟩:gi).cs) results320 j j j a.bQ,?_⟩));exact⟨(⟨v,d,k.x,aH,f,k.l,dy⟩:gi),af,E,j,⟨s,t⟩,by unfold kw;rw [u],C.ks (a.f2.f3)⟩
def j7(g:al)(slot below:Int)(b:List UInt8)(a:List aN)(c:List UInt8)(a8:List aN):Int×List UInt8×List aN:=
 if(kw g slot below c a8).1>(kw g slot below b a).1 then kw g slot below c a8 else kw g slot below b a
theorem DD{o:World}{g:al}{a b:gi}{slot below:Int}(u:g.ok)(E:a.ok o)(F:b.ok o)(z:Ext g a.B (a.l.flatMap aN.cs) [] o)(D:Ext g b.B (b.l.flatMap aN.cs) [] o):Calls prog 297 #[g.p,ab slot,ab below,.agg a.cs.toArray,.agg b.cs.toArray] o λr w=>∃(q:gi)(af aB:List Chunk),r= .agg q.cs.toArray/\q.own af aB/\q.P=j7 g slot below a.x a.l b.x b.l/\C o [] [af,aB] w:=by
 have c:Own [] o:=C.start o;refine fj func297 (bJ 2 c j j (λf w c=>bJ 0 c j j (λh w c=>cx 0 c j (λt w c=>?_))));have c:C o [] ([J f (a.cs).toArray 275,J h (b.cs).toArray 275,J t (pU).toArray 275]++[]) w:=c.f1.f2;have c:=c.drew;refine bx 1 j (λw=>∃ae,C o [] ([J f (a.cs).toArray 275,J h (b.cs).toArray 275,J t (pU).toArray 275]++ae) w) ⟨_,c⟩ (ag 0 3 j (bl 3 j (λw⟨_,c⟩=>dd (U:=a.cs) j j j c.bQ) (ag 5 3 j (bl 8 j (λw⟨_,c⟩=>dd (U:=b.cs) j j j (C.f1 c).bQ) (aX 4 j ?_)))));have m:=y4 u (E.st c) (z.st c (by simp)) (slot:=slot) (below:=below);refine cS j j j m (λr w⟨d,af,aB,s,G,v,n⟩=>?_);subst s;have c:=C.swap (A:=[af,aB]) (c.aO n);refine ao ⟨⟨_,c⟩,?_⟩;refine aX 9 j ?_;have m:=y4 u (F.st c) (D.st c (by simp)) (slot:=slot) (below:=below);refine cS j j j m (λr w⟨e,bn,cw,s,H,y,n⟩=>?_);subst s;have c:=C.swap (A:=[bn,cw]) (c.aO n);refine ao ⟨⟨_,c⟩,?_⟩;refine dK 10 j (c6 c j j j j j bO (λw c=>?_));have c:C o [] (J f (d.cs).toArray 275::_) w:=C.whole (U:=d.cs) c j;refine ao (jN 11 j (c6 c.f1 j j j j j bO (λw c=>?_)));have c:C o [] (J h (e.cs).toArray 275::_) w:=C.whole (U:=e.cs) c j;have c:=c.f1;refine ao (c5 (ar 4 j (c.f1.cell j) (ar 1 j (c.cell j) (cy 1 j j (λi=>?_) (λi=>?_)))))
 .refine bP 2 (U:=e.cs) j j j c.f1.bQ (cv 0 c.f2 j j j j j (λw c=>?_));have c:=C.whole (U:=e.cs) c j;refine bH 0 j ⟨_,hW (U:=e.cs) results297 j j j c.bQ,?_⟩;have k:=i;refine⟨e,bn,cw,j,H,?_,c.drop.drop.drop.drop.drop⟩;unfold j7;rw [<-v,<-y,aR k]
 refine bP 3 (U:=d.cs) j j j c.bQ (cv 0 c.f2 j j j j j (λw c=>?_));have c:=C.whole (U:=d.cs) c j;refine bH 0 j ⟨_,hW (U:=d.cs) results297 j j j c.bQ,?_⟩;have k:=i;refine⟨d,af,aB,j,G,?_,c.drop.drop.drop.ks⟩;unfold j7;rw [<-v,<-y,az k]
structure aY where
 k:Int
 f:Int
 to:Int
 s:Int
 v:Int
 x:List UInt8
 l:List aN
 tag:List UInt8
abbrev aD.P(m:aD):aY:=⟨m.k,m.f,m.to,m.s,m.v,m.x,m.l,m.tag⟩
structure aD.own(m:aD)(af aB:List Chunk):Prop where
 x:d6 (.slice m.A m.x.length m.c) m.x af
 l:en (.slice m.B m.l.length m.d) m.l aB
structure aD.fit(m:aD):Prop where
 x:m.x.length<=1000000
 l:m.l.length<=1000
abbrev bf(b:Nat)(m:aD):List Chunk:=J b m.cs.toArray 101
theorem aD.qj(m:aD)(A:Option Addr)(c:Nat):m.cs.toArray.setIfInBounds 5 (.slice A m.x.length c)=({m with A:=A,c:=c}:aD).cs.toArray:=by
 apply fz;simp [aD.cs]
theorem aD.mj(m:aD)(B:Option Addr)(d:Nat):m.cs.toArray.setIfInBounds 6 (.slice B m.l.length d)=({m with B:=B,d:=d}:aD).cs.toArray:=by
 apply fz;simp [aD.cs]
def dO:aD:=⟨0,0,0,0,0,none,[],0,none,[],0,cD⟩
theorem aD.bU(m:aD)(h:m.tag.length=32):m.cs.length=39:=by simp [aD.cs,h]
theorem wY{o:World}{m:aD}(hm:m.ok o)(n:m.fit):Calls prog 129 #[.agg m.cs.toArray] o λr w=>∃(q:aD)(af aB:List Chunk),r= .agg q.cs.toArray/\q.own af aB/\q.P=m.P/\C o [] [af,aB] w:=by
 have a:Own [] o:=C.start o;refine fj func129 (bJ 2 a j j (λaC w a=>cx 0 a j (λaS w a=>?_)));have a:C o [] ([bf aC m,bf aS dO]++[]) w:=a.f1;have a:=a.drew;refine bx 1 j (λw=>∃ae,C o [] ([bf aC m,bf aS dO]++ae) w) ⟨_,a⟩ (ag 0 1 j (b4 1 j (λw⟨_,a⟩=>a.cell m.fY) (ag 3 1 j (b4 4 j (λw⟨_,a⟩=>a.cell m.eZ) (aX 2 j ?_)))));have f:=gN (c:=m.c) (hm.st a).x (by have:=n.x;omega);refine cS j j j f (λr w⟨af,i,g⟩=>?_);obtain⟨b,aH,rfl⟩:∃A c,r= .slice A m.x.length c:=by obtain⟨A,c,h,_⟩:=i.form;exact⟨A,c,h⟩
 have a:=C.swap (A:=[af]) (a.aO g);refine ao ⟨⟨_,a⟩,?_⟩;refine ag 6 1 j (aX 5 j ?_);have f:=kO (d:=m.d) (hm.st a).l hm.aI n.l;refine cS j j j f (λr w⟨aB,k,g⟩=>?_);obtain⟨e,d1,rfl⟩:∃A c,r= .slice A m.l.length c:=by obtain⟨A,c,h,_⟩:=k.form;exact⟨A,c,h⟩
 have a:=C.swap (A:=[aB]) (a.aO g);refine ao ⟨⟨_,a⟩,?_⟩;refine dK 7 j (cO a j j j j (by rw [hl,m.bU hm.tag];decide) (λw a=>?_));have a:C o [] (bf aC ({m with A:=b,c:=aH}:aD)::_) w:=C.f9 a (m.qj b aH);refine ao (jN 8 j (qI j j j (ao (jN 9 j (cO a j j j j (by rw [List.size_toArray,(({m with A:=b,c:=aH}:aD)).bU hm.tag];decide) (λw a=>?_))))));have a:C o [] (bf aC ({m with A:=b,c:=aH,B:=e,d:=d1}:aD)::_) w:=C.f9 a ((({m with A:=b,c:=aH}:aD)).mj e d1);refine ao (c5 (bP 2 (U:=({m with A:=b,c:=aH,B:=e,d:=d1}:aD).cs) j j ((({m with A:=b,c:=aH,B:=e,d:=d1}:aD)).bU hm.tag) a.bQ (c6 a.f1 j j j (by simpa using({m with A:=b,c:=aH,B:=e,d:=d1}:aD).one) (by rw [List.size_toArray];exact(({m with A:=b,c:=aH,B:=e,d:=d1}:aD)).bU hm.tag) (by decide) (λw a=>?_))));have a:=C.whole (U:=({m with A:=b,c:=aH,B:=e,d:=d1}:aD).cs) a (by rw [(({m with A:=b,c:=aH,B:=e,d:=d1}:aD)).bU hm.tag];rfl);refine bH 0 j ⟨_,hW (U:=({m with A:=b,c:=aH,B:=e,d:=d1}:aD).cs) results129 j j ((({m with A:=b,c:=aH,B:=e,d:=d1}:aD)).bU hm.tag) a.bQ,?_⟩;exact⟨({m with A:=b,c:=aH,B:=e,d:=d1}:aD),af,aB,j,⟨i,k⟩,j,a.drop.drop.ks⟩
theorem CB{o:World}{m:aD}(hm:m.ok o)(n:m.fit):Calls prog 76 #[.agg m.cs.toArray] o λr w=>∃(q:aD)(af aB:List Chunk),r= .agg q.cs.toArray/\q.own af aB/\q.P=m.P/\C o [] [af,aB] w:=by
 have a:Own [] o:=C.start o;refine fj func76 (bJ 2 a j j (λaC w a=>cx 0 a j (λaS w a=>?_)));have a:C o [] ([bf aC m,bf aS dO]++[]) w:=a.f1;have a:=a.drew;refine bx 1 j (λw=>∃ae,C o [] ([bf aC m,bf aS dO]++ae) w) ⟨_,a⟩ (ag 0 1 j (b4 1 j (λw⟨_,a⟩=>a.cell m.fY) (ag 3 1 j (b4 4 j (λw⟨_,a⟩=>a.cell m.eZ) (aX 2 j ?_)))));have f:=gN (c:=m.c) (hm.st a).x (by have:=n.x;omega);refine cS j j j f (λr w⟨af,i,g⟩=>?_);obtain⟨b,aH,rfl⟩:∃A c,r= .slice A m.x.length c:=by obtain⟨A,c,h,_⟩:=i.form;exact⟨A,c,h⟩
 have a:=C.swap (A:=[af]) (a.aO g);refine ao ⟨⟨_,a⟩,?_⟩;refine ag 6 1 j (aX 5 j ?_);have f:=kO (d:=m.d) (hm.st a).l hm.aI n.l;refine cS j j j f (λr w⟨aB,k,g⟩=>?_);obtain⟨e,d1,rfl⟩:∃A c,r= .slice A m.l.length c:=by obtain⟨A,c,h,_⟩:=k.form;exact⟨A,c,h⟩
 have a:=C.swap (A:=[aB]) (a.aO g);refine ao ⟨⟨_,a⟩,?_⟩;refine dK 7 j (cO a j j j j (by rw [hl,m.bU hm.tag];decide) (λw a=>?_));have a:C o [] (bf aC ({m with A:=b,c:=aH}:aD)::_) w:=C.f9 a (m.qj b aH);refine ao (jN 8 j (qI j j j (ao (jN 9 j (cO a j j j j (by rw [List.size_toArray,(({m with A:=b,c:=aH}:aD)).bU hm.tag];decide) (λw a=>?_))))));have a:C o [] (bf aC ({m with A:=b,c:=aH,B:=e,d:=d1}:aD)::_) w:=C.f9 a ((({m with A:=b,c:=aH}:aD)).mj e d1);refine ao (c5 (bP 2 (U:=({m with A:=b,c:=aH,B:=e,d:=d1}:aD).cs) j j ((({m with A:=b,c:=aH,B:=e,d:=d1}:aD)).bU hm.tag) a.bQ (c6 a.f1 j j j (by simpa using({m with A:=b,c:=aH,B:=e,d:=d1}:aD).one) (by rw [List.size_toArray];exact(({m with A:=b,c:=aH,B:=e,d:=d1}:aD)).bU hm.tag) (by decide) (λw a=>?_))));have a:=C.whole (U:=({m with A:=b,c:=aH,B:=e,d:=d1}:aD).cs) a (by rw [(({m with A:=b,c:=aH,B:=e,d:=d1}:aD)).bU hm.tag];rfl);refine bH 0 j ⟨_,hW (U:=({m with A:=b,c:=aH,B:=e,d:=d1}:aD).cs) results76 j j ((({m with A:=b,c:=aH,B:=e,d:=d1}:aD)).bU hm.tag) a.bQ,?_⟩;exact⟨({m with A:=b,c:=aH,B:=e,d:=d1}:aD),af,aB,j,⟨i,k⟩,j,a.drop.drop.ks⟩
theorem CC{o:World}{m:aD}(hm:m.ok o)(n:m.fit):Calls prog 183 #[.agg m.cs.toArray] o λr w=>∃(q:aD)(af aB:List Chunk),r= .agg q.cs.toArray/\q.own af aB/\q.P=m.P/\C o [] [af,aB] w:=by
 have a:Own [] o:=C.start o;refine fj func183 (bJ 2 a j j (λaC w a=>cx 0 a j (λaS w a=>?_)));have a:C o [] ([bf aC m,bf aS dO]++[]) w:=a.f1;have a:=a.drew;refine bx 1 j (λw=>∃ae,C o [] ([bf aC m,bf aS dO]++ae) w) ⟨_,a⟩ (ag 0 1 j (b4 1 j (λw⟨_,a⟩=>a.cell m.fY) (ag 3 1 j (b4 4 j (λw⟨_,a⟩=>a.cell m.eZ) (aX 2 j ?_)))));have f:=gN (c:=m.c) (hm.st a).x (by have:=n.x;omega);refine cS j j j f (λr w⟨af,i,g⟩=>?_);obtain⟨b,aH,rfl⟩:∃A c,r= .slice A m.x.length c:=by obtain⟨A,c,h,_⟩:=i.form;exact⟨A,c,h⟩
 have a:=C.swap (A:=[af]) (a.aO g);refine ao ⟨⟨_,a⟩,?_⟩;refine ag 6 1 j (aX 5 j ?_);have f:=kO (d:=m.d) (hm.st a).l hm.aI n.l;refine cS j j j f (λr w⟨aB,k,g⟩=>?_);obtain⟨e,d1,rfl⟩:∃A c,r= .slice A m.l.length c:=by obtain⟨A,c,h,_⟩:=k.form;exact⟨A,c,h⟩
 have a:=C.swap (A:=[aB]) (a.aO g);refine ao ⟨⟨_,a⟩,?_⟩;refine dK 7 j (cO a j j j j (by rw [hl,m.bU hm.tag];decide) (λw a=>?_));have a:C o [] (bf aC ({m with A:=b,c:=aH}:aD)::_) w:=C.f9 a (m.qj b aH);refine ao (jN 8 j (qI j j j (ao (jN 9 j (cO a j j j j (by rw [List.size_toArray,(({m with A:=b,c:=aH}:aD)).bU hm.tag];decide) (λw a=>?_))))));have a:C o [] (bf aC ({m with A:=b,c:=aH,B:=e,d:=d1}:aD)::_) w:=C.f9 a ((({m with A:=b,c:=aH}:aD)).mj e d1);refine ao (c5 (bP 2 (U:=({m with A:=b,c:=aH,B:=e,d:=d1}:aD).cs) j j ((({m with A:=b,c:=aH,B:=e,d:=d1}:aD)).bU hm.tag) a.bQ (c6 a.f1 j j j (by simpa using({m with A:=b,c:=aH,B:=e,d:=d1}:aD).one) (by rw [List.size_toArray];exact(({m with A:=b,c:=aH,B:=e,d:=d1}:aD)).bU hm.tag) (by decide) (λw a=>?_))));have a:=C.whole (U:=({m with A:=b,c:=aH,B:=e,d:=d1}:aD).cs) a (by rw [(({m with A:=b,c:=aH,B:=e,d:=d1}:aD)).bU hm.tag];rfl);refine bH 0 j ⟨_,hW (U:=({m with A:=b,c:=aH,B:=e,d:=d1}:aD).cs) results183 j j ((({m with A:=b,c:=aH,B:=e,d:=d1}:aD)).bU hm.tag) a.bQ,?_⟩;exact⟨({m with A:=b,c:=aH,B:=e,d:=d1}:aD),af,aB,j,⟨i,k⟩,j,a.drop.drop.ks⟩
def fw(q:aD)(G:List Chunk):Prop:=∃af aB,G=af++aB/\q.own af aB/\q.tag.length=32/\(∀x∈q.l,x.ok)/\q.fit
def fy:List aD->List Chunk->Prop
 |[],G=>G=[]
 |q::r,G=>∃af aB,G=af++aB/\fw q af/\fy r aB
abbrev fN(l:List aD):List Value:=l.flatMap aD.cs
def lK(v:Value)(l:List aD)(G:List Chunk):Prop:=∃ak aB,G=ak++aB/\Row 101 39 v l.length (fN l) ak/\fy l aB
theorem fy.tag:∀{l:List aD}{G:List Chunk},fy l G->∀q∈l,q.tag.length=32
 |[],_,_,q,b=>by simp at b
 |a::r,_,⟨_,_,_,⟨_,_,_,_,d,_⟩,c⟩,q,b=>by
  rcases hD.1 b with rfl|b
  .exact d
  .exact c.tag q b
theorem fy.app:∀{l m:List aD}{G H:List Chunk},fy l G->fy m H->fy (l++m) (G++H)
 |[],m,G,H,h,k=>by have:G=[]:=h;subst this;exact k
 |a::r,m,_,H,⟨af,aB,rfl,b,c⟩,k=>⟨af,aB++H,by rw [dS],b,c.app k⟩
theorem fy.one{q:aD}{G:List Chunk}(h:fw q G):fy [q] G:=⟨G,[],by simp,h,j⟩
theorem xz:∀(l:List aD),(∀q∈l,q.tag.length=32)->(fN l).length=l.length*39
 |[],_=>rfl
 |q::r,h=>by
  show(q.cs++fN r).length=_;rw [cj,q.bU (h q (by simp)),xz r (λy a=>h y (by simp [a])),List.length_cons];omega
theorem um(l:List aD):∀u∈fN l,u.oneCell'=true:=by
 intro u hu;obtain⟨x,_,a⟩:=o7.1 hu;exact ji.1 x.one u a
theorem lK.nil:lK (.slice none 0 0) [] []:=⟨[],[],j,Row.nil _ _,j⟩
section
variable {α:Type} {V:Value->α->List Chunk->Prop}
def c4(V:Value->α->List Chunk->Prop):List (Int×Value)->List (Int×α)->List Chunk->Prop
 |[],[],G=>G=[]
 |p::m,q::t,G=>p.1=q.1/\∃af aB,G=af++aB/\V p.2 q.2 af/\c4 V m t aB
 |[],_::_,_=>False
 |_::_,[],_=>False
theorem c4.keys:∀{m:List (Int×Value)}{t:List (Int×α)}{G:List Chunk},c4 V m t G->m.map Prod.fst=t.map Prod.fst
 |[],[],_,_=>rfl
 |[],_::_,_,h=>h.elim
 |_::_,[],_,h=>h.elim
 |p::m,q::t,_,⟨a,_,_,_,_,b⟩=>by rw [jh,jh,a,b.keys]
theorem c4.len{m:List (Int×Value)}{t:List (Int×α)}{G:List Chunk}(h:c4 V m t G):m.length=t.length:=by
 have:=aK List.length h.keys;simpa using this
theorem c4.mT:∀{m:List (Int×Value)}{t:List (Int×α)}{G:List Chunk}{k:Int},c4 V m t G->aV t k=none->aV m k=none
 |[],[],_,_,_,_=>rfl
 |[],_::_,_,_,h,_=>h.elim
 |_::_,[],_,_,h,_=>h.elim
 |p::m,q::t,_,k,⟨c,_,_,_,_,d⟩,ad=>by
  obtain⟨a,v⟩:=p;obtain⟨b,u⟩:=q;have c:a=b:=c;subst c;simp only [aV] at ad⊢;split at ad
  .cases ad
  .rename_i e;rw [az e];exact d.mT ad
theorem c4.find:∀{m:List (Int×Value)}{t:List (Int×α)}{G:List Chunk}{k:Int}{a:α},c4 V m t G->aV t k=some a->
 ∃v af f aB,aV m k=some v/\G=af++(f++aB)/\V v a f/\∀eK c,V v eK c->c4 V m (bV t k eK) (af++(c++aB))
 |[],[],_,_,_,_,h=>by cases h
 |[],_::_,_,_,_,h,_=>h.elim
 |_::_,[],_,_,_,h,_=>h.elim
 |p::m,q::t,_,k,a,⟨d,af,aB,rfl,n,i⟩,ad=>by
  obtain⟨R,v⟩:=p;obtain⟨b,u⟩:=q;have d:R=b:=d;subst d;simp only [aV] at ad⊢;split at ad
  .rename_i he;cases ad;rw [aR he];refine⟨v,[],af,aB,j,j,n,λeK c e=>?_⟩;simp only [bV,aR he];exact⟨he,c,aB,j,e,i⟩
  .rename_i l;rw [az l];obtain⟨y,H1,o,g,r,s,w,x⟩:=i.find ad;refine⟨y,af++H1,o,g,r,by rw [s,dS],w,λeK c e=>?_⟩;simp only [bV,az l];exact⟨j,af,H1++(c++g),by rw [dS],n,x eK c e⟩
theorem c4.app:∀{m c:List (Int×Value)}{t d:List (Int×α)}{G a:List Chunk},c4 V m t G->c4 V c d a->c4 V (m++c) (t++d) (G++a)
 |[],_,[],_,_,_,h,b=>by have h:_=[]:=h;subst h;exact b
 |[],_,_::_,_,_,_,h,_=>h.elim
 |_::_,_,[],_,_,_,h,_=>h.elim
 |p::m,_,q::t,_,_,a,⟨e,af,aB,rfl,g,f⟩,b=>⟨e,af,aB++a,by rw [dS],g,f.app b⟩
theorem c4.one{k:Int}{v:Value}{a:α}{G:List Chunk}(h:V v a G):c4 V [(k,v)] [(k,a)] G:=⟨j,G,[],by simp,h,j⟩
theorem yj{β:Type}{m:List (Int×β)}{k:Int}(h:aV m k=none):∀p∈m,p.1≠k:=by
 rcases nw m k with⟨_,b⟩|⟨R,u,a,_⟩
 .exact b
 .rw [a] at h;cases h
theorem uQ{β:Type}{m:List (Int×β)}{k:Int}{v:β}(h:aV m k=none):bV m k v=m++[(k,v)]:=uR m k v (yj h)
theorem c4.add{m:List (Int×Value)}{t:List (Int×α)}{G b:List Chunk}{k:Int}{v:Value}{a:α}(h:c4 V m t G)(ad:aV t k=none)(c:V v a b):c4 V (bV m k v) (bV t k a) (G++b):=by
 rw [uQ ad,uQ (h.mT ad)];exact h.app (c4.one c)
theorem c4.put:∀{m:List (Int×Value)}{t:List (Int×α)}{G c:List Chunk}{k:Int}{v:Value}{a:α},c4 V m t G->V v a c->∃d ak,c4 V (bV m k v) (bV t k a) d/\(G++c).Perm (ak++d)
 |[],[],_,c,k,v,a,h,e=>by have h:_=[]:=h;subst h;exact⟨c,[],c4.one e,by simp⟩
 |[],_::_,_,_,_,_,_,h,_=>h.elim
 |_::_,[],_,_,_,_,_,h,_=>h.elim
 |p::m,q::t,_,c,k,v,a,⟨f,af,aB,rfl,n,g⟩,e=>by
  obtain⟨R,x⟩:=p;obtain⟨b,u⟩:=q;have f:R=b:=f;subst f;simp only [bV];by_cases he:R=k
  .rw [aR he,aR he];refine⟨c++aB,af,⟨j,c,aB,j,e,g⟩,?_⟩;rw [dS];exact o8 _ ll
  .rw [az he,az he];obtain⟨d,ak,i,l⟩:=g.put (k:=k) e;refine⟨af++d,ak,⟨j,af,d,j,n,i⟩,?_⟩;rw [dS];refine(o8 af l).trans ?_;rw [<-dS,<-dS];exact n3 _ ll
theorem c4.del:∀{m:List (Int×Value)}{t:List (Int×α)}{G:List Chunk}{k:Int},c4 V m t G->∃a ak,c4 V (fU m k) (fU t k) a/\G.Perm (ak++a)
 |[],[],_,_,h=>⟨[],[],j,by have h:_=[]:=h;subst h;exact nQ _⟩
 |[],_::_,_,_,h=>h.elim
 |_::_,[],_,_,h=>h.elim
 |p::m,q::t,_,k,⟨c,af,aB,rfl,g,d⟩=>by
  obtain⟨R,x⟩:=p;obtain⟨b,u⟩:=q;have c:R=b:=c;subst c;simp only [fU];by_cases he:R=k
  .rw [aR he,aR he];exact⟨aB,af,d,nQ _⟩
  .rw [az he,az he];obtain⟨a,ak,e,f⟩:=d.del (k:=k);refine⟨af++a,ak,⟨j,af,a,j,g,e⟩,?_⟩;refine(o8 af f).trans ?_;rw [<-dS,<-dS];exact n3 _ ll
theorem c4.cut:∀{m nt:List (Int×Value)}{t:List (Int×α)}{G:List Chunk},c4 V (m++nt) t G->∃t1 t2 af aB,t=t1++t2/\G=af++aB/\t1.length=m.length/\c4 V m t1 af/\c4 V nt t2 aB
 |[],nt,t,G,h=>⟨[],t,[],G,j,j,j,j,h⟩
 |p::m,nt,[],G,h=>h.elim
 |p::m,nt,q::t,_,⟨d,af,aB,rfl,g,f⟩=>by
  obtain⟨t1,t2,H1,a,rfl,rfl,e,b,c⟩:=c4.cut (m:=m) (nt:=nt) f;exact⟨q::t1,t2,af++H1,a,j,by rw [dS],by simp [e],⟨d,af,H1,j,g,b⟩,c⟩
abbrev cW{β:Type}(t:List (Int×β)):List (Int×β):=t.mergeSort λa b=>decide (a.1<=b.1)
theorem c4.zip:∀{m:List (Int×Value)}{t:List (Int×α)}{G:List Chunk},c4 V m t G->∃z:List (Int×Value×α×List Chunk),m=z.map (λx=>(x.1,x.2.1))/\t=z.map (λx=>(x.1,x.2.2.1))/\G=z.flatMap (λx=>x.2.2.2)/\∀x∈z,V x.2.1 x.2.2.1 x.2.2.2
 |[],[],_,h=>⟨[],j,j,h,by simp⟩
 |[],_::_,_,h=>h.elim
 |_::_,[],_,h=>h.elim
 |p::m,q::t,_,⟨a,af,aB,rfl,k,i⟩=>by
  obtain⟨z,d,e,f,g⟩:=i.zip;obtain⟨R,x⟩:=p;obtain⟨b,u⟩:=q;have a:R=b:=a;subst a;refine⟨(R,x,u,af)::z,by rw [d];rfl,by rw [e];rfl,by rw [f];rfl,λy c=>?_⟩;rcases hD.1 c with rfl|c
  .exact k
  .exact g y c
theorem c4.yB:∀(z:List (Int×Value×α×List Chunk)),(∀x∈z,V x.2.1 x.2.2.1 x.2.2.2)->c4 V (z.map (λx=>(x.1,x.2.1))) (z.map (λx=>(x.1,x.2.2.1))) (z.flatMap (λx=>x.2.2.2))
 |[],_=>rfl
 |x::z,h=>⟨j,x.2.2.2,_,j,h x (by simp),c4.yB z (λy a=>h y (by simp [a]))⟩
theorem c4.sort{m:List (Int×Value)}{t:List (Int×α)}{G:List Chunk}(h:c4 V m t G):∃c,G.Perm c/\c4 V (dp m) (cW t) c:=by
 obtain⟨z,rfl,rfl,rfl,e⟩:=h.zip;refine⟨(z.mergeSort λa b=>decide (a.1<=b.1)).flatMap (λx=>x.2.2.2),(List.Perm.flatMap_right _ (o6 z _)).symm,?_⟩;have:=c4.yB (V:=V) (z.mergeSort λa b=>decide (a.1<=b.1)) (λx d=>e x (g7.1 d));rw [tf (s:=λa b:Int×Value=>decide (a.1<=b.1)) (λ_ _ _ _=>rfl),tf (s:=λa b:Int×α=>decide (a.1<=b.1)) (λ_ _ _ _=>rfl)] at this;exact this
theorem c4.nC{m:List (Int×Value)}{t:List (Int×α)}{G:List Chunk}(h:c4 V m t G){pre:List (Int×Value)}{q:Int×Value}(g:oC m pre q):∃t1 t2 a af b aB,cW t=t1++(q.1,a)::t2/\t1.length=pre.length/\G.Perm (af++(b++aB))/\V q.2 a b:=by
 obtain⟨r,j⟩:=g;obtain⟨n,i,aF⟩:=h.sort;rw [j] at aF;obtain⟨t1,t2,af,aB,e,rfl,f,_,d⟩:=aF.cut;cases t2 with
 |nil=>exact d.elim
 |cons x t2=>
  obtain⟨c,b,bn,rfl,l,_⟩:=d;obtain⟨k,a⟩:=x;have c:q.1=k:=c;subst c;exact⟨t1,t2,a,af,b,bn,e,f,i,l⟩
def fo(T:TypeId)(V:Value->α->List Chunk->Prop)(p:Value)(t:List (Int×α))(G:List Chunk):Prop:=
 ∃b ah I m H,p=aa b/\cf bG I m/\c4 V m t H/\G=ay T b ah I++H
theorem fo.new{T:TypeId}{b ah:Nat}:cf bG (.map #[] 0) ([]:List (Int×Value))->fo T V (aa b) [] (ay T b ah (.map #[] 0)):=λh=>⟨b,ah,_,[],[],j,h,j,by simp⟩
theorem c4.wide{n:Nat}(b:∀v a G,V v a G->gl n v){m:List (Int×Value)}{t:List (Int×α)}{G:List Chunk}(h:c4 V m t G):∀q∈m,gl n q.2:=by
 obtain⟨z,rfl,_,_,e⟩:=h.zip;intro q c;obtain⟨x,d,rfl⟩:=ee.1 c;exact b _ _ _ (e x d)
end
def jT(v:Value)(q:aY)(G:List Chunk):Prop:=∃m:aD,v= .agg m.cs.toArray/\m.P=q/\fw m G
theorem jT.wide(v:Value)(q:aY)(G:List Chunk)(h:jT v q G):gl 39 v:=by
 obtain⟨m,rfl,_,_,_,_,_,a,_⟩:=h;exact⟨m.cs,j,m.bU a,m.one⟩
def cC(v:Value)(l:List aY)(G:List Chunk):Prop:=∃bZ:List aD,bZ.map aD.P=l/\lK v bZ G
theorem cC.nil:cC (.slice none 0 0) [] []:=⟨[],j,lK.nil⟩
def Holds(w:World)(G:List Chunk):Prop:=∀c∈G,w.heap[c.1]? =some c.2
section
variable {o w aJ:World} {F:List Nat} {ae:List (List Chunk)} {A B G:List Chunk}
theorem Holds.left(h:Holds w (A++B)):Holds w A:=λc a=>h c (fL.2 (.inl a))
theorem Holds.right(h:Holds w (A++B)):Holds w B:=λc a=>h c (fL.2 (.inr a))
theorem Holds.perm(h:Holds w A)(b:A.Perm B):Holds w B:=λc a=>h c (b.mem_iff.2 a)
theorem C.holds(h:C o F ae w)(a:G∈ae):Holds w G:=λc b=>h.here c (List.mem_flatten.2 ⟨G,a,b⟩)
theorem C.uv(h:C o F (G::ae) w):Holds w G:=h.holds (by simp)
theorem Holds.st(h:Holds o G)(a:C o [] ae w):Holds w G:=λc b=>a.b8 (h c b)
theorem Holds.head{b:Nat}{I:Obj}(h:Holds w ((b,I)::G)):w.heap[b]? =some I:=h (b,I) (by simp)
theorem Holds.tail{b:Nat}{I:Obj}(h:Holds w ((b,I)::G)):Holds w G:=λc a=>h c (by simp [a])
theorem Holds.kept(h:Holds o G)(b:C o F ae w)(d:∀c∈G,c.1∉F):Holds w G:=λc a=>by
 rw [b.fT c.1 (gq.1 (h c a)).1 (d c a)];exact h c a
theorem dI.st{T:TypeId}{p:Option Addr}{m:List (Int×Value)}(h:dI T o p m)(a:C o [] ae w):dI T w p m:=by
 rcases h with h|⟨b,ah,I,rfl,c,d,e⟩
 .exact .inl h
 .exact .inr ⟨b,ah,I,j,a.b8 c,a.b8 d,e⟩
theorem Row.read{e:TypeId}{size:Nat}{v:Value}{n:Nat}{xs:List Value}(h:Row e size v n xs G)(f:Holds w G):∃A c,v= .slice A n c/\n<=c/\c<=maxLen/\Rd w A xs/\Flat A:=by
 rcases h.2 with⟨rfl,rfl,rfl⟩|⟨g,cap,cur,rfl,rfl,a,b,_,d⟩
 .have:xs=[]:=lP (by simpa using h.1);subst this;exact⟨none,0,j,cF _,by simp [maxLen],Rd.nil _ _,.inl j⟩
 .refine⟨_,_,j,a,b,λi u hu=>⟨_,j,?_⟩,.inr ⟨_,_,j⟩⟩;rw [<-d,kJ] at hu;split at hu
  .rw [add_lit];exact cell_of f.head (by simpa using hu)
  .cases hu
theorem fo.read{α:Type}{V:Value->α->List Chunk->Prop}{T:TypeId}{p:Value}{t:List (Int×α)}(h:fo T V p t G)(c:Holds w G):∃a m H,p= .pointer a/\dI T w a m/\c4 V m t H/\Holds w H:=by
 obtain⟨b,ah,I,m,H,rfl,d,e,rfl⟩:=h;exact⟨_,m,H,j,.inr ⟨b,ah,I,j,c.left (b,_) (by simp),c.left (ah,I) (by simp),d⟩,e,c.right⟩
theorem fw.read{m:aD}(h:fw m G)(b:Holds w G):m.ok w/\m.fit:=by
 obtain⟨af,aB,rfl,d,g,i,f⟩:=h;refine⟨⟨?_,?_,i,g⟩,f⟩
 .obtain⟨A,c,e,_,_,a,_⟩:=d.x.read b.left;cases e;exact a
 .obtain⟨A,c,e,_,_,a,_⟩:=d.l.read b.right;cases e;exact a
theorem fw.tQ{m:aD}(h:fw m G):m.x.length<=m.c/\m.l.length<=m.d/\Flat m.A/\Flat m.B:=by
 obtain⟨af,aB,rfl,a,_⟩:=h;refine⟨?_,?_,a.x.flat,a.l.flat⟩
 .obtain⟨A,c,e,b,_⟩:=a.x.form;cases e;exact b
 .obtain⟨A,c,e,b,_⟩:=a.l.form;cases e;exact b
theorem ui{α:Type}{f:α->List Value}{n:Nat}:∀(l:List α),(∀x∈l,(f x).length=n)->∀(i:Nat)(a:i<l.length),((l.flatMap f).drop (i*n)).take n=f l[i]
 |[],_,i,a=>by simp at a
 |x::r,h,0,_=>by
  have b:=h x (by simp);rw [nP,List.drop_zero,jj,List.take_append_of_le_length (by omega),ic (by omega)];rfl
 |x::r,h,i+1,a=>by
  have b:=h x (by simp);have d:=ui r (λy c=>h y (by simp [c])) i (by simpa using a);rw [jj,show(i+1)*n=(f x).length+i*n by rw [b,mG];omega,List.drop_append];rw [td (by omega),kl,show(f x).length+i*n-(f x).length=i*n by omega];exact d
theorem j6{α:Type}{f:α->List Value}{n:Nat}{w:World}{a:Addr}{l:List α}(d:Rd w (some a) (l.flatMap f))(h:∀x∈l,(f x).length=n)(i:Nat)(c:i<l.length):Rd w (some (a.add (i*n))) (f l[i]):=by
 have b:=(d.drop (i*n)).take n;rw [ui l h i c] at b;exact b
theorem rK{α:Type}{f:α->List Value}{n:Nat}:∀(l:List α),(∀x∈l,(f x).length=n)->(l.flatMap f).length=l.length*n
 |[],_=>by simp
 |x::r,h=>by
  rw [jj,cj,h x (by simp),rK r (λy a=>h y (by simp [a])),List.length_cons,Nat.add_mul];omega
theorem iI{α:Type}{f:α->List Value}{n R:Nat}{v:Value}(l:List α)(h:∀x∈l,(f x).length=n)(i:Nat)(b:i<l.length)(c:R<n)(d:(f l[i])[R]? =some v):(l.flatMap f)[i*n+R]? =some v:=by
 have a:=aK (λz=>z[R]?) (ui l h i b);simp only [kJ,mI,c,ib] at a;rw [a,d]
theorem xr{α:Type}{f:α->List Value}{n:Nat}:∀(l:List α),(∀x∈l,(f x).length=n)->∀(i:Nat),i<l.length->(l.eraseIdx i).flatMap f=(l.flatMap f).take (i*n)++(l.flatMap f).drop ((i+1)*n)
 |[],_,i,b=>by simp at b
 |x::r,h,0,_=>by
  have a:=h x (by simp);simp only [List.eraseIdx_cons_zero,nP,List.take_zero,kl,List.flatMap_cons,Nat.zero_add,Nat.one_mul];rw [<-a,List.drop_left]
 |x::r,h,i+1,b=>by
  have a:=h x (by simp);have g:=xr r (λy e=>h y (by simp [e])) i (by simpa using b);rw [List.eraseIdx_cons_succ,jj,jj,g]
  have c:(f x++r.flatMap f).take ((i+1)*n)=f x++(r.flatMap f).take (i*n):=by
   rw [show(i+1)*n=(f x).length+i*n by rw [a,mG];omega,o9,List.take_of_length_le (by omega),show(f x).length+i*n-(f x).length=i*n by omega]
  have d:(f x++r.flatMap f).drop ((i+1+1)*n)=(r.flatMap f).drop ((i+1)*n):=by
   rw [show(i+1+1)*n=(f x).length+(i+1)*n by rw [a,mG (i+1)];omega,List.drop_append,List.drop_of_length_le (by omega),List.nil_append,show(f x).length+(i+1)*n-(f x).length=(i+1)*n by omega]
  rw [c,d,dS]
theorem fy.at{l:List aD}{G:List Chunk}(h:fy l G):∀(i:Nat)(c:i<l.length),∃af b aB,G=af++(b++aB)/\fw l[i] b/\fy (l.eraseIdx i) (af++aB):=by
 induction l generalizing G with
 |nil=>intro i c;simp at c
 |cons a r m=>
  obtain⟨H1,f,rfl,d,e⟩:=h;intro i c;cases i with
  |zero=>exact⟨[],H1,f,j,d,by simpa using e⟩
  |succ i=>
   obtain⟨af,b,aB,rfl,g,k⟩:=m e i (by simpa using c);exact⟨H1++af,b,aB,by rw [dS],g,H1,af++aB,by rw [dS],d,k⟩
theorem lK.form{v:Value}{l:List aD}{G:List Chunk}(h:lK v l G):∃A c,v= .slice A l.length c/\l.length<=c/\c<=maxLen:=by
 obtain⟨ak,aB,_,a,_⟩:=h;exact a.form
theorem pJ(l m:List aD):fN (l++m)=fN l++fN m:=o4
end
abbrev fc(b:Nat)(v:Value)(lost:Int):List Chunk:=J b #[v,ab 512,ab lost] 64
def gH(p:Value)(l:List aY)(lost:Nat)(G:List Chunk):Prop:=∃b v H,p=aa b/\cC v l H/\G=fc b v lost++H
theorem lK.snoc{v:Value}{l:List aD}{m:aD}{ak aB a:List Chunk}(b:Row 101 39 v (l.length+1) (fN l++m.cs) ak)(c:fy l aB)(hm:fw m a):lK v (l++[m]) (ak++(aB++a)):=
 ⟨ak,aB++a,j,by rw [cj,List.length_singleton,pJ,show fN [m]=m.cs by simp];exact b,c.app (fy.one hm)⟩
theorem y7{o:World}{b:Nat}{v:Value}{lost:Int}{l:List aD}{ak aB q:List Chunk}{m:aD}(i:Row 101 39 v l.length (fN l) ak)(y:fy l aB)(hm:fw m q)(a:Own [fc b v lost,ak] o):Calls prog 73 #[aa b,.agg m.cs.toArray] o λr w=>r= .bool (decide (l.length<512))/\∃v1 e,(if l.length<512 then Row 101 39 v1 (l.length+1) (fN l++m.cs) e else v1=v/\e=ak)/\C o (au [fc b v lost,ak]) [fc b v1 lost,e] w:=by
 obtain⟨d,h⟩:∃d,d=au [fc b v lost,ak]:=⟨_,j⟩;rw [<-h];have a:C o d [fc b v lost,ak] o:=h▸a;have g:m.tag.length=32:=hm.choose_spec.choose_spec.2.2.1;obtain⟨A,c,rfl,x,u⟩:=i.form;refine a6 func73 (bJ 2 a j j (λf w a=>?_));have a:C o d ([fc b (.slice A l.length c) lost,bf f m]++[ak]) w:=a.f1;have a:=a.drew;refine bx 3 j (λw=>∃ae,C o d ([fc b (.slice A l.length c) lost,bf f m]++ae) w) ⟨_,a⟩ (ag 0 3 j (a8 3 j a2 j (ag 4 4 j (a8 8 j a2 j (ag 9 1 j (bL (cy 0 j j (λs=>?_) (λs=>?_))))))))
 .refine an 3 j j ?_;have n:¬l.length<512:=by omega
  exact⟨aK Value.bool (e7 n).symm,_,ak,by rw [az n];exact⟨j,j⟩,a.f2.f2.drop.f1⟩
 have a:=a.drew;have p:l.length<512:=by omega
 refine bx 2 j (λw=>∃ae,C o d ([fc b (.slice A l.length c) lost,bf f m]++ae) w) ⟨_,a⟩ (ag 0 4 j (a8 4 j a2 j (bl 5 j (λw⟨_,a⟩=>dd (U:=m.cs) j j (m.bU g) (C.f1 a).bQ) (aX 6 j (gj (U:=m.cs) a j j j (m.bU g) (by decide) (by decide) (λt w a=>?_))))));have aT:=a.bQ;have a:=a.f2.f2;refine ao ⟨⟨_,a⟩,?_⟩;refine aX 7 j (e6 a.f3 i j j (by decide) j j j (news:=m.cs) (m.bU g) aT (List.all_eq_true.1 m.one) (by omega) (by unfold maxLen;omega) (λv1 e w k a=>?_));have a:=a.f2.f2;refine ao ⟨⟨_,a⟩,?_⟩;refine ag 8 2 j (dK 10 j (cO a j j j k.one bO (λw a=>?_)));have a:C o d (fc b v1 lost::_) w:=a;exact ao (c5 (an 3 j j ⟨congrArg Value.bool (decide_eq_true p).symm,v1,e,by rw [if_pos p];exact k,a.f2.f1.ks⟩))
theorem wz{o:World}{b:Nat}{v:Value}{lost:Int}{l:List aD}{ak:List Chunk}(p:Row 101 39 v l.length (fN l) ak)(n:∀q∈l,q.tag.length=32)(g:o.heap[b]? =some (.cells #[v,ab 512,ab lost] 64 (0,0)))(m:Holds o ak){i:Nat}(f:i<l.length):Calls prog 128 #[aa b,.int .i64 i] o λr w=>r= .tuple #[.agg l[i].cs.toArray,.bool true]/\C o [] [] w:=by
 have d:Own [] o:=C.start o;obtain⟨A,c,rfl,z,x,h,y⟩:=p.read m;have hlen:∀q∈l,q.cs.length=39:=λq t=>q.bU (n q t)
 have e:=hlen l[i] (eB f);obtain⟨a,rfl⟩:∃a,A=some a:=by obtain⟨a,s,_⟩:=h (i*39+0) (ab l[i].k) (iI l hlen i f (by decide) (by simp [aD.cs]));exact⟨a,s⟩
 refine fj func128 ?_;refine cx 2 d j (λu w d=>?_);refine aq 7 j (bY 8 (.bool false) j (aK Value.bool (e7 (by omega))) ?_);refine ar 4 j (cell_of (d.b8 g) j) ?_;refine ij 3 j j (e7 (by omega)) ?_;refine ar 6 j (cell_of (d.b8 g) j) ?_;refine aq 1 j (oU j j j j (by omega) (by omega) ?_);refine bP 0 (U:=l[i].cs) j j e (j6 (d.rd h (cc.of_nil _ _)) hlen i f) ?_;refine c6 d j j j (by simpa using l[i].one) (by rw [List.size_toArray];exact e) (by decide) (λw d=>?_);have d:=C.whole (U:=l[i].cs) d (by rw [e];rfl);refine bH 1 j ⟨_,ds (U:=l[i].cs) results128 j j j e d.bQ,?_⟩;exact⟨j,d.bare⟩
theorem CL{o:World}{b cap:Nat}{l:List aD}{ak:List Chunk}(D:Row 101 39 (.slice (some ⟨b,0,none⟩) l.length cap) l.length (fN l) ak)(B:∀q∈l,q.tag.length=32)(a:Own [ak] o){i:Nat}(v:i<l.length):Calls prog 130 #[.slice (some ⟨b,0,none⟩) l.length cap,.int .i64 i,.int .i64 (i+1:Nat)] o λr w=>∃n,Row 101 39 r (l.eraseIdx i).length (fN (l.eraseIdx i)) n/\C o (au [ak]) [n] w:=by
 obtain⟨c,p⟩:∃c,c=au [ak]:=⟨_,j⟩;rw [<-p];have a:C o c [ak] o:=p▸a;have hlen:∀q∈l,q.cs.length=39:=λq m=>q.bU (B q m)
 have H:l.length≠0:=by omega
 obtain⟨O,E⟩:=D;obtain⟨S,P,cur,N,rfl,y,f,d,z⟩:=E.resolve_left (λh=>H h.2.1);cases N;have U:l.length-1<cap:=by omega
 have x:(fN l).length=l.length*39:=rK l hlen;have V:(l.length:Int)<=9223372036854775807:=by have:=f;unfold maxLen at this;omega
 refine a6 func130 ?_;refine aq 10 j (AU j j j j j j (by omega) (by omega) (by omega) (by omega) ?_);refine ij 6 j j ((show decide ((i:Int)=((i+1:Nat):Int))=false from e7 (by omega))) ?_;have a:=a.drew;refine bx 7 j (λw=>∃cur ae,C o c (J b cur 101::ae) w) ⟨_,_,a⟩ ?_;refine ag 0 2 j ?_;refine bl 2 j (λw⟨_,a⟩=>AH (i:=i) j j (by omega)) ?_;refine ag 3 2 j ?_;refine bl 5 j (λw⟨_,a⟩=>AG (i:=i+1) j j (by omega)) ?_;refine aX 6 j ?_;have L:Row 101 39 (.slice (some ⟨b,0,none⟩) l.length cap) l.length (fN l) (J b cur 101):=⟨O,.inr ⟨b,cap,cur,j,j,y,f,d,z⟩⟩;have K:Rd o.drew (some ⟨b,0,none⟩) (fN l):=by obtain⟨_,_,e,_,_,h,_⟩:=L.rd a;cases e;exact h
 have I:Rd o.drew (if cap=i+1 then some ⟨b,0,none⟩ else(some (⟨b,0,none⟩:Addr)).map (·.add ((i+1)*39))) ((fN l).drop ((i+1)*39)):=by
  split
  .rename_i T;rw [td (by rw [x,show l.length=i+1 by omega];exact cF _)];exact Rd.nil _ _
  .exact K.drop _
 refine AN a j (by decide) j j j (news:=(fN l).drop ((i+1)*39)) (by rw [iC,x,<-Nat.sub_mul]) I (λu hu=>um l u (List.mem_of_mem_drop hu)) (by omega) d (λQ w t g a=>?_);have G:i+(l.length-(i+1))=l.length-1:=by omega
 rw [G] at g⊢;have hle:=j1 39 (show l.length<=cap from y);have M:cur.toList.take (i*39)=(fN l).take (i*39):=by rw [<-z,List.take_take,mD (j1 _ (by omega))]
 rw [M,<-xr l hlen i v] at g;refine ao ⟨⟨_,_,a⟩,?_⟩;refine ag 7 1 j ?_;refine bL ?_;refine aq 6 j (AT (i:=l.length-1) (R:=l.length) j j j j j (by omega) (by omega) (by omega) ?_);refine vQ (size:=39) a j j (by decide) j j j (by rw [t,fe,<-mG];exact ej (j1 _ (by omega)) d) (λA w F s a=>?_);rw [fe,g] at s;refine an 4 j j ?_;have k:(l.eraseIdx i).length=l.length-1:=List.length_eraseIdx_of_lt v;refine⟨_,⟨?_,.inr ⟨b,cap,A,by rw [k],j,by rw [k];omega,f,by rw [F,t];exact d,by rw [k];exact s⟩⟩,a⟩;exact rK _ (λq m=>hlen q (List.mem_of_mem_eraseIdx m))
theorem FP{o:World}{b:Nat}{v:Value}{lost:Int}{l:List aD}{ak:List Chunk}(f:Row 101 39 v l.length (fN l) ak)(g:∀q∈l,q.tag.length=32)(a:Own [fc b v lost,ak] o){i:Nat}(m:i<l.length):Calls prog 74 #[aa b,.int .i64 i] o λr w=>r= .tuple #[.agg l[i].cs.toArray,.bool true]/\∃v1 e,Row 101 39 v1 (l.eraseIdx i).length (fN (l.eraseIdx i)) e/\C o (au [fc b v lost,ak]) [fc b v1 lost,e] w:=by
 obtain⟨d,n⟩:∃d,d=au [fc b v lost,ak]:=⟨_,j⟩;rw [<-n];have a:C o d [fc b v lost,ak] o:=n▸a;have c:=l[i].bU (g l[i] (eB m));have A:i<9223372036854775807:=by obtain⟨_,_,_,y,s⟩:=f.form;unfold maxLen at s;omega
 refine fj func74 (cx 2 a j (λt w a=>?_));have k:=wz f g (a.f1.uv.head) (a.f1.f1.f2.uv) m;refine br 5 k j (λw ad=>?_);have a:=a.aO ad;refine cx 3 a j (λu w a=>c6 a j j j (by simpa using l[i].one) (by rw [List.size_toArray];exact c) (by decide) (λw a=>?_));have a:=C.whole (U:=l[i].cs) a (by rw [c];rfl);refine ar 11 j (ax (C.aj a) j) (bE 2 j j j (gX i 1 (by omega)) ?_);obtain⟨x,cap,cur,rfl,z,_⟩:=f.2.resolve_left (λh=>by have:=h.2.1;omega);have a:=a.f3;have k:=CL f g a.h7 m;refine bk 0 k j (λr w⟨e,p,ad⟩=>?_);have a:=(a.gT ad).f3;refine dE 2 a j j j p.one (λw a=>?_);have a:C o d (fc b r lost::_) w:=a;refine bP 2 (U:=l[i].cs) j j c (C.f2 a).bQ (aq 1 j (c6 (C.f3 a) j j j (by simpa using l[i].one) (by rw [List.size_toArray];exact c) (by decide) (λw a=>?_)));have a:=C.whole (U:=l[i].cs) a (by rw [c];rfl);refine bH 1 j ⟨_,ds (U:=l[i].cs) results74 j j j c a.bQ,?_⟩;exact⟨j,_,e,p,a.drop.f2.drop.ks⟩
theorem cC.len{v:Value}{l:List aY}{G:List Chunk}(h:cC v l G):∃A c,v= .slice A l.length c/\l.length<=c/\c<=maxLen:=by
 obtain⟨bZ,rfl,a⟩:=h;rw [fa];exact a.form
theorem fy.read{w:World}:∀{l:List aD}{G:List Chunk},fy l G->Holds w G->∀q∈l,q.ok w/\q.fit
 |[],_,_,_,q,b=>by simp at b
 |a::r,_,⟨af,aB,rfl,d,e⟩,c,q,b=>by
  rcases hD.1 b with rfl|b
  .exact d.read c.left
  .exact e.read c.right q b
theorem fw.r2{q m:aD}{af aB:List Chunk}{w:World}(h:q.own af aB)(a:q.P=m.P)(hm:m.ok w)(c:m.fit):fw q (af++aB):=by
 have d:q.tag=m.tag:=aK aY.tag a;have b:q.l=m.l:=aK aY.l a;have e:q.x=m.x:=aK aY.x a;exact⟨af,aB,j,h,by rw [d];exact hm.tag,by rw [b];exact hm.aI,⟨by rw [e];exact c.x,by rw [b];exact c.l⟩⟩
theorem gH.open{p:Value}{l:List aY}{lost:Nat}{G:List Chunk}(h:gH p l lost G):∃b v bZ ak aB,p=aa b/\bZ.map aD.P=l/\Row 101 39 v bZ.length (fN bZ) ak/\fy bZ aB/\G=fc b v lost++(ak++aB):=by
 obtain⟨b,v,H,rfl,⟨bZ,rfl,ak,aB,rfl,c,a⟩,rfl⟩:=h;exact⟨b,v,bZ,ak,aB,j,j,c,a,j⟩
theorem gH.close{b:Nat}{v:Value}{bZ:List aD}{lost:Nat}{ak aB:List Chunk}(c:Row 101 39 v bZ.length (fN bZ) ak)(a:fy bZ aB):gH (aa b) (bZ.map aD.P) lost (fc b v lost++(ak++aB)):=
 ⟨b,v,_,j,⟨bZ,j,ak,aB,j,c,a⟩,j⟩
theorem C.zC{o w:World}{F:List Nat}{A B a7:List Chunk}{ae:List (List Chunk)}(h:C o F ((A++(B++a7))::ae) w):C o F (A::B::a7::ae) w:=h.perm (by simp)
theorem C.D1{o w:World}{F:List Nat}{A B a7:List Chunk}{ae:List (List Chunk)}(h:C o F (A::B::a7::ae) w):C o F ((A++(B++a7))::ae) w:=h.perm (by simp)
theorem yc{α β:Type}(f:α->β):∀(l:List α)(i:Nat),(l.eraseIdx i).map f=(l.map f).eraseIdx i
 |[],_=>rfl
 |a::r,0=>rfl
 |a::r,i+1=>by simp [yc f r i]
theorem r0{o:World}:Calls prog 29 #[] o λr w=>∃G,gH r [] 0 G/\C o [] [G] w:=by
 have a:Own [] o:=C.start o;refine a6 func29 (aq 5 j (cP (c:= #[.slice none 0 0,ab 512]) j j j (λ_=>by kernel_rfl) ?_));exact cP (c:= #[.slice none 0 0,ab 512,ab 0]) j j j (λ_=>by kernel_rfl) (bJ 0 a j j (λb w a=>an 1 j j ⟨_,gH.close (bZ:=[]) (Row.nil _ _) j,a.perm (by simp;rfl)⟩))
theorem rm{o:World}{p:Value}{l:List aY}{lost:Nat}{G:List Chunk}(h:gH p l lost G)(a:Holds o G):Calls prog 7 #[p] o λr w=>r= .int .i64 l.length/\w=o:=by
 obtain⟨b,v,l,ak,aB,rfl,rfl,d,e,rfl⟩:=h.open;obtain⟨A,c,rfl,_⟩:=d.form;rw [fa];refine a6 func7 ?_;refine ar 16 j (cell_of (a.left.head) j) ?_;refine an 2 j j ?_;exact⟨j,j⟩
theorem BN{o:World}{p:Value}{l:List aY}{lost:Nat}{G:List Chunk}(h:gH p l lost G)(a:Own [G] o){i:Nat}(c:i<l.length):Calls prog 40 #[p,.int .i64 i] o λr w=>∃(m:aD)(g af:List Chunk),r= .tuple #[.agg m.cs.toArray,.bool true]/\m.P=l[i]/\fw m g/\gH p (l.eraseIdx i) lost af/\C o (au [G]) [af,g] w:=by
 obtain⟨b,v,l,ak,aB,rfl,rfl,x,e,rfl⟩:=h.open;have c:i<l.length:=by simpa using c
 obtain⟨d,q⟩:∃d,d=au [fc b v lost++(ak++aB)]:=⟨_,j⟩;rw [<-q];have a:C o d [fc b v lost++(ak++aB)] o:=q▸a;have a:=a.zC;have f:=l[i].bU (e.tag l[i] (eB c));refine fj func40 (cx 2 a j (λA w a=>?_));have z:=FP (b:=b) (lost:=(lost:Int)) x e.tag a.ours c;refine br 14 z j (λw⟨v1,n,y,ad⟩=>?_);have a:=a.b1 ad;refine aq 2 j (c6 (a.bc _) j j j (by simpa using l[i].one) (by rw [List.size_toArray];exact f) (by decide) (λw a=>?_));have a:=C.whole (U:=l[i].cs) a (by rw [f];rfl);refine bH 1 j ⟨_,ds (U:=l[i].cs) results40 j j j f a.bQ,?_⟩;obtain⟨H1,k,s,t,hm,u⟩:=e.at i c;have a:C o d [fc b v1 lost,n,aB] w:=a.as;rw [t] at a;refine⟨l[i],k,_,j,by simp,hm,?_,a.perm (B:=[fc b v1 lost++(n++(H1++s)),k]) ?_⟩
 .have:=gH.close (b:=b) (lost:=lost) y u;rw [yc] at this;exact this
 simp only [jZ,mF,gA,dS];exact .append_left _ (.append_left _ (.append_left _ ll))
theorem BO{o:World}{p ai:Value}{d ms:List aY}{lost:Nat}{G E:List Chunk}(h:gH p d lost G)(am:cC ai ms E)(c:Own [G,E] o)(aI:lost<=1000000000)(aC:ms.length<=1000000):Calls prog 75 #[p,ai] o λr w=>r= .int .i64 (min ms.length (512-d.length):Nat)/\∃af,gH p (d++ms.take (512-d.length)) (lost+(ms.length-(512-d.length))) af/\C o (au [G,E]) [af,E] w:=by
 obtain⟨b,v0,d,K,J,rfl,rfl,av,ap,rfl⟩:=h.open;obtain⟨ms,rfl,g,f,rfl,X,M⟩:=am;obtain⟨A,cu,rfl,aJ,aL⟩:=X.form;rw [fa] at aC;simp only [fa];obtain⟨s,W⟩:∃s,s=au [fc b v0 lost++(K++J),g++f]:=⟨_,j⟩;rw [<-W];have c:C o s [fc b v0 lost++(K++J),g++f] o:=W▸c;have c:=c.zC;have hlen:∀q∈ms,q.cs.length=39:=λq V=>q.bU (M.tag q V)
 refine a6 func75 ?_
 refine dj 20 j (cU:=Nat×Nat×Nat×Value×List Chunk×List Chunk×List aD) (λi=>[(0,aa b),(5,.int .i64 (i.2.1:Nat)),(10,.slice A ms.length cu),(11,.int .i64 (ms.length:Nat)),(12,.int .i64 (i.1:Nat))])
  (λi w=>i.1<=ms.length/\i.2.1=min i.1 (512-d.length)/\i.2.2.1=lost+(i.1-i.2.1)/\Row 101 39 i.2.2.2.1 i.2.2.2.2.2.2.length (fN i.2.2.2.2.2.2) i.2.2.2.2.1/\fy i.2.2.2.2.2.2 i.2.2.2.2.2.1/\i.2.2.2.2.2.2.map aD.P=d.map aD.P++(ms.map aD.P).take i.2.1/\C o s [fc b i.2.2.2.1 (i.2.2.1:Nat),i.2.2.2.2.1,i.2.2.2.2.2.1,g++f] w) (λi=>ms.length-i.1) (0,0,lost,v0,K,J,d) ⟨j,j,j,j,j,bb⟩ ⟨cp _,by simp,by simp,av,ap,by simp,c.as⟩ ?_
 rintro⟨i,n,m,v,ak,aB,l⟩ w ⟨ay,aT,Q,H,y,u,c⟩;dsimp only at ay aT Q H y u c⊢;refine cy 4 j j (λal=>?_) (λal=>?_)
 .have t:i<ms.length:=by omega
  have I:=hlen ms[i] (eB t);obtain⟨_,_,e,_,_,ah,_⟩:=X.read (C.holds c (G:=g++f) (by simp)).left;cases e;obtain⟨aH,rfl⟩:∃a,A=some a:=by obtain⟨a,aw,_⟩:=ah (i*39+0) (ab ms[i].k) (iI ms hlen i t (by decide) (by simp [aD.cs]));exact⟨a,aw⟩
  obtain⟨T,S⟩:=M.read (C.holds c (G:=g++f) (by simp)).right ms[i] (eB t);refine aq 5 j (oU j j j j (by omega) (by omega) ?_);refine bP 0 (U:=ms[i].cs) j j I (j6 ah hlen i t) (cx 0 c j (λx w c=>c6 (c.bc x) j j j (by simpa using ms[i].one) (by rw [List.size_toArray];exact I) (by decide) (λw c=>?_)));have c:=C.whole (U:=ms[i].cs) c (by rw [I];rfl);have c:C o s [bf x ms[i],fc b v m,ak,aB,g++f] w:=c.as;have c:=c.drew;refine bx 1 j (λw=>∃ae,C o s ([bf x ms[i]]++ae) w) ⟨_,c⟩ (ag 0 3 j (bl 3 j (λw⟨_,c⟩=>dd (U:=ms[i].cs) j j I (bq (C.aj c))) (aX 4 j ?_)));obtain⟨T,S⟩:=M.read (C.holds c (G:=g++f) (by simp)).right ms[i] (eB t);have N:=wY T S;refine cS j j j N (λr w⟨q,B,D,aF,V,Z,ad⟩=>?_);subst aF;have ac:=fw.r2 V Z T S;have c:=c.aO ad;have c:C o s [bf x ms[i],fc b v m,ak,aB,g++f,B,D] w:=c.as;refine ao ⟨⟨_,c⟩,?_⟩;refine aX 5 j ?_;have N:=y7 (b:=b) (lost:=(m:Int)) H y ac c.ours;refine bK j j j N (λw⟨v1,F,z,ad⟩=>?_);have c:=c.b1 ad;have c:C o s [bf x ms[i],fc b v1 m,F,aB,g++f,B,D] w:=c.as;refine ao ⟨⟨_,c⟩,?_⟩;refine bL (cy 0 j j (λL=>?_) (λL=>?_))
  .refine bE 2 j j j (gX n 1 (by omega)) (bE 2 j j j (gX i 1 (by omega)) (bW 1 j ?_));have R:l.length<512:=L;rw [aR R] at z;have O:=aK List.length u;rw [cj,List.length_take,List.length_map,List.length_map,List.length_map] at O;have aE:n=i/\i<512-d.length:=by omega
   refine⟨(i+1,n+1,m,v1,F,aB++(B++D),l++[q]),⟨j,j,j,j,j,bb⟩,⟨t,by dsimp only;omega,by dsimp only;omega,?_,y.app (fy.one ac),?_,C.perm (A:=[fc b v1 m,F,aB,B,D,g++f]) c.as (by simp)⟩,by dsimp only;omega⟩
   .dsimp only;rw [cj,List.length_singleton,pJ,show fN [q]=q.cs by simp];exact z
   dsimp only;rw [iB,u,List.append_assoc,aE.1,List.take_add_one];simp [t,Z]
  refine ar 4 j (ax (C.aj c) j) (bE 0 j j j (gX m 1 (by omega)) (dE 2 (c.bc _) j j j j (λw c=>?_)));have c:C o s (fc b v1 (m+1:Nat)::_) w:=c;have c:C o s [fc b v1 (m+1:Nat),F,aB,g++f] w:=c.as;refine bE 1 j j j (gX i 1 (by omega)) (bW 1 j ?_);have R:¬l.length<512:=L;rw [az R] at z;rw [z.1,z.2] at c;have O:=aK List.length u;rw [cj,List.length_take,List.length_map,List.length_map,List.length_map] at O;refine⟨(i+1,n,m+1,v,ak,aB,l),⟨j,j,j,j,j,bb⟩,⟨t,by dsimp only;omega,by dsimp only;omega,H,y,u,c⟩,by dsimp only;omega⟩
 refine an 5 j j ?_;have aA:i=ms.length:=by omega
 subst aA
 have aG:(ms.map aD.P).take n=(ms.map aD.P).take (512-d.length):=by
  rw [aT];rcases Nat.le_total ms.length (512-d.length) with h|h
  .rw [mD h,ic (by simp),ic (by simpa using h)]
  .rw [Nat.min_eq_right h]
 rw [aG] at u;have Y:=gH.close (b:=b) (lost:=m) H y;rw [u,Q,show ms.length-n=ms.length-(512-d.length) by omega] at Y;rw [Q,show ms.length-n=ms.length-(512-d.length) by omega] at c;exact⟨by rw [aT],_,Y,c.D1⟩
abbrev aY.body(m:aY):List UInt8:=ep [4,m.k,m.f,m.s,m.v]++(hd m.x++ja m.l)
def aY.may(m:aY):Bool:=eD m.k 1 6&&eD m.f 0 9&&eD m.to 0 9&&eD m.s 0 63&&eD m.v 0 8&&decide (m.x.length<=200)&&decide (m.l.length<=10)&&m.l.all hG
structure aY.dF(m:aY):Prop where
 tag:m.tag.length=32
 aI:∀x∈m.l,x.ok
 x:m.x.length<=200
 l:m.l.length<=10
structure ai where
 aw:Int
 slot:Int
 view:Int
 im:Int
 dT:List UInt8
 aZ:List aN
 want:List UInt8
 props:List (Int×aY)
 dg:List (List UInt8)
 dw:List (Int×List aN)
 aC:List (Int×List aN)
 dB:List (Int×List (Int×aY))
 iv:Int
 comm:Int
 prop:Int
 value:List UInt8
 et:List aN
 dec:Bool
def ai.new(aw slot:Int):ai:=⟨aw,slot,0,-1,[],[],[],[],[],[],[],[],-1,-1,-1,[],[],false⟩
abbrev al.n(g:al):Nat:=g.keys.length
def ai.leads(g:al)(s:ai)(node view:Int):Bool:=node==(j8 s.slot.toNat view.toNat g.n:Nat)
def ai.ju(g:al)(s:ai)(m:aY)(to:Int):aY:={m with f:=s.aw,to:=to,s:=s.slot,tag:=g.ct s.aw ({m with f:=s.aw,to:=to,s:=s.slot}:aY).body}
def me(aw:Int)(n:Nat):List Int:=((List.range n).map λi:Nat=>(i:Int)).filter λi=>i !=aw
def ai.all(g:al)(s:ai)(m:aY):List aY:=(me s.aw g.n).map λto=>s.ju g m to
def l1(l:List aN)(sum:List UInt8)(f:Int):Bool:=l.any λv=>v.sum==sum&&v.f==f
def hP(l:List aN)(v:aN):List aN:=if l1 l v.sum v.f then l else l++[v]
def ai.gU(s:ai)(kind view:Int):List aN:=(aV (if kind=1 then s.dw else s.aC) view).getD []
def ai.counts(s:ai)(v:aN):ai:=if v.k=1 then{s with dw:=bV s.dw v.v (hP (s.gU 1 v.v) v)} else{s with aC:=bV s.aC v.v (hP (s.gU 2 v.v) v)}
def ai.i1(s:ai)(x:List UInt8):ai:=if x∈s.dg then s else{s with dg:=s.dg++[x]}
def ai.hr(g:al)(s:ai)(m:aY):ai:=if(aV s.props m.v).isSome|| !s.leads g m.f m.v then s else({s with props:=bV s.props m.v m}:ai).i1 m.x
def ai.hs(g:al)(s:ai)(m:aY)(v:aN):Bool:=(v.k==1||v.k==2)&&(v.s==s.slot&&(v.f==m.f&&_root_.Go.Proofs.YtmholjbhjcpkhaaGreatDoor.R.dF g v))
def ai.dv(g:al)(s:ai)(m:aY):ai:=match m.l with
 |[]=>s
 |v::_=>if s.hs g m v then s.counts v else s
def ai.status(g:al)(s:ai)(m:aY):ai:=if s.leads g s.aw m.v then
 {s with dB:=bV s.dB m.v (if(aV ((aV s.dB m.v).getD []) m.f).isSome then(aV s.dB m.v).getD [] else bV ((aV s.dB m.v).getD []) m.f m)} else s
def ai.gD(s:ai)(x:List UInt8)(l:List aN):ai:={s with value:=x,et:=l,dec:=true}
def ai.decision(g:al)(s:ai)(m:aY):ai:=match m.l with
 |[]=>s
 |v::_=>if meets g m.l 2 s.slot v.v (ca m.x) then s.gD m.x m.l else s
def ai.kr(g:al)(s:ai)(m:aY):Bool:=m.may&&(m.s==s.slot&&(m.f !=s.aw&&g.check m.f m.body m.tag))
def iG(l:List aN):List aN:=l.mergeSort λa b=>decide (a.f<=b.f)
def fg(l:List aN)(sum:List UInt8):List aN:=l.filter λv=>v.sum==sum
def ai.fS(g:al)(s:ai)(b:List aN):Option (List UInt8×List aN):=s.dg.findSome? λx=>if dL g.n<=(iG (fg b (ca x))).length then some (x,iG (fg b (ca x))) else none
def ai.aI(g:al)(s:ai)(kind:Int)(x:List UInt8):ai×List aY:=
 (s.counts (cT g kind s.slot s.view (ca x) s.aw),s.all g ⟨3,0,0,0,s.view,[],[cT g kind s.slot s.view (ca x) s.aw],cD⟩)
def ai.gG(g:al)(s:ai):Option (ai×List aY):=((cW s.aC).findSome? λp=>s.fS g p.2).map λy=>(s.gD y.1 y.2,[])
def ai.fP(g:al)(s:ai):Option (ai×List aY):=match aV s.props s.view with
 |none=>none
 |some m=>if s.iv>=s.view then none else if _root_.Go.Proofs.YtmholjbhjcpkhaaGreatDoor.R.may g s.im s.dT s.slot s.view m.x m.l then some (({s with iv:=s.view}:ai).aI g 1 m.x) else none
def ai.gv(g:al)(s:ai):Option (ai×List aY):=if s.comm>=s.view then none else
 match s.fS g (s.gU 1 s.view) with
 |none=>none
 |some y=>some (({s with comm:=s.view,im:=s.view,dT:=y.1,aZ:=y.2}:ai).aI g 2 y.1)
def ii(g:al)(slot view:Int)(l:List (Int×aY)):Int×List UInt8×List aN:=l.foldl (λk p=>j7 g slot view k.2.1 k.2.2 p.2.x p.2.l) (-1,[],[])
def ai.gM(g:al)(s:ai):Option (List UInt8×List aN):=
 if 0<s.view then
  match aV s.dB s.view with
  |none=>none
  |some l=>if(aV l s.aw).isSome&&decide (dL g.n<=l.length) then
   (if(ii g s.slot s.view (cW l)).1>=0 then some (ii g s.slot s.view (cW l)).2 else if 0<s.want.length then some (s.want,[]) else none)
   else none
 else if 0<s.want.length then some (s.want,[]) else none
def ai.gh(g:al)(s:ai):Option (ai×List aY):=if s.leads g s.aw s.view=false\/s.prop>=s.view then none else
 match s.gM g with
 |none=>none
 |some y=>some (({s with prop:=s.view}:ai).hr g (s.ju g ⟨2,0,0,0,s.view,y.1,y.2,cD⟩ s.aw),s.all g ⟨2,0,0,0,s.view,y.1,y.2,cD⟩)
def ai.step(g:al)(s:ai):Option (ai×List aY):=match s.gG g with
 |some r=>some r
 |none=>match s.fP g with
  |some r=>some r
  |none=>match s.gv g with
   |some r=>some r
   |none=>s.gh g
def ai.left(s:ai):Nat:=(if s.dec then 0 else 1)+(if s.iv<s.view then 1 else 0)+(if s.comm<s.view then 1 else 0)+(if s.prop<s.view then 1 else 0)
def ai.go(g:al):Nat->ai->List aY->ai×List aY
 |0,s,l=>(s,l)
 |n+1,s,l=>if s.dec then(s,l) else match s.step g with
  |none=>(s,l)
  |some (lB,bZ)=>ai.go g n lB (l++bZ)
def ai.steps(g:al)(s:ai):ai×List aY:=ai.go g 5 s []
def ai.fd(g:al)(s:ai)(m:aY):ai:=if m.k=2 then s.hr g m else if m.k=3 then s.dv g m else if m.k=4 then s.status g m else if m.k=5 then s.decision g m else s
def ai.take(g:al)(s:ai)(m:aY):ai×List aY:=if s.dec|| !s.kr g m then(s,[]) else(s.fd g m).steps g
def ai.g2(g:al)(s:ai)(x:List UInt8):ai×List aY:=if s.dec then(s,[]) else(if 0<x.length/\x.length<=200 then{s with want:=x} else s:ai).steps g
def ai.gy(g:al)(s:ai):ai×List aY:=
 let s1:ai:={s with view:=s.view+1};let m:aY:=⟨4,0,0,0,s.view+1,s.dT,s.aZ,cD⟩;let to:Int:=(j8 s.slot.toNat (s.view+1).toNat g.n:Nat)
 if to=s.aw then(s1.status g (s1.ju g m to),[]) else(s1,[s1.ju g m to])
def ai.tick(g:al)(s:ai):ai×List aY:=if s.dec||decide (s.view>=8) then(s,[]) else
 (((s.gy g).1.steps g).1,(s.gy g).2++((s.gy g).1.steps g).2)
structure fH(g:al)(N:Nat)(l:List aN):Prop where
 len:l.length<=N
 ok:∀v∈l,v.ok
 dF:∀v∈l,_root_.Go.Proofs.YtmholjbhjcpkhaaGreatDoor.R.dF g v=true
 apart:l.Pairwise λa b=>¬(a.sum=b.sum/\a.f=b.f)
structure ai.ok(g:al)(N:Nat)(s:ai):Prop where
 aw:0<=s.aw/\s.aw<g.n
 slot:0<=s.slot/\s.slot<=63
 view:0<=s.view/\s.view<=8
 dT:s.dT.length<=200
 aZ:s.aZ.length<=10
 l6:∀x∈s.aZ,x.ok
 want:s.want.length<=200
 props:s.props.length<=N
 sf:∀p∈s.props,p.2.dF
 dg:s.dg.length<=N
 oD:∀x∈s.dg,x.length<=200
 dw:s.dw.length<=N
 ln:∀p∈s.dw,fH g N p.2
 aC:s.aC.length<=N
 lo:∀p∈s.aC,fH g N p.2
 dB:s.dB.length<=N
 mm:∀p∈s.dB,p.2.length<=N/\∀q∈p.2,q.2.dF
 value:s.value.length<=200
 et:s.et.length<=10
 sL:∀x∈s.et,x.ok
theorem fH.more{g:al}{N M:Nat}{l:List aN}(h:fH g N l)(a:N<=M):fH g M l:=⟨ej h.len a,h.ok,h.dF,h.apart⟩
theorem fH.nil(g:al)(N:Nat):fH g N []:=⟨by simp,by simp,by simp,by simp⟩
theorem ai.ok.more{g:al}{N M:Nat}{s:ai}(h:s.ok g N)(a:N<=M):s.ok g M:=
 {h with props:=ej h.props a,dg:=ej h.dg a,dw:=ej h.dw a,ln:=λp b=>(h.ln p b).more a,aC:=ej h.aC a,lo:=λp b=>(h.lo p b).more a,dB:=ej h.dB a,mm:=λp b=>⟨ej (h.mm p b).1 a,(h.mm p b).2⟩}
theorem l8{β:Type}:∀(m:List (Int×β))(k:Int)(v:β),(bV m k v).length<=m.length+1
 |[],_,_=>by simp [bV]
 |(R,u)::r,k,v=>by
  simp only [bV];split
  .simp
  .have:=l8 r k v;simp only [ex];omega
theorem kY{β:Type}:∀{m:List (Int×β)}{k:Int}{v:β}{p:Int×β},p∈bV m k v->p∈m\/p=(k,v)
 |[],k,v,p,h=>by simp [bV] at h;exact .inr h
 |(R,u)::r,k,v,p,h=>by
  simp only [bV] at h;split at h
  .rcases hD.1 h with h|h
   .exact .inr h
   .exact .inl (nR _ h)
  .rcases hD.1 h with h|h
   .exact .inl (h▸qS)
   .rcases kY h with h|h
    .exact .inl (nR _ h)
    .exact .inr h
theorem io{β:Type}{m:List (Int×β)}{k:Int}{v:β}(h:aV m k=some v):(k,v)∈m:=by
 rcases nw m k with⟨a,_⟩|⟨R,u,a,b,_⟩
 .rw [a] at h;cases h
 .rw [a] at h;cases h;exact ia b
theorem fH.r1{g:al}{N:Nat}{b:List (Int×List aN)}(h:∀p∈b,fH g N p.2)(k:Int):fH g N ((aV b k).getD []):=by
 cases ad:aV b k with
 |none=>exact fH.nil g N
 |some l=>exact h _ (io ad)
theorem ai.ok.gU{g:al}{N:Nat}{s:ai}(h:s.ok g N)(kind view:Int):fH g N (s.gU kind view):=by
 unfold ai.gU;split
 .exact fH.r1 h.ln view
 .exact fH.r1 h.lo view
theorem fH.hP{g:al}{N:Nat}{l:List aN}{v:aN}(h:fH g N l)(j:v.ok)(i:_root_.Go.Proofs.YtmholjbhjcpkhaaGreatDoor.R.dF g v=true):fH g (N+1) (hP l v):=by
 unfold _root_.Go.Proofs.YtmholjbhjcpkhaaGreatDoor.R.hP;split
 .exact h.more (ev _)
 .rename_i aT;refine⟨by rw [cj,List.length_singleton];have:=h.len;omega,?_,?_,?_⟩
  .intro x c;rcases fL.1 c with c|c
   .exact h.ok x c
   .rw [hO.1 c];exact j
  .intro x c;rcases fL.1 c with c|c
   .exact h.dF x c
   .rw [hO.1 c];exact i
  .refine List.pairwise_append.2 ⟨h.apart,by simp,λa e b f d=>aT ?_⟩;rw [hO.1 f] at d;exact j2.2 ⟨a,e,by simp [d.1,d.2]⟩
theorem ai.ok.counts{g:al}{N:Nat}{s:ai}{v:aN}(h:s.ok g N)(d:v.ok)(c:_root_.Go.Proofs.YtmholjbhjcpkhaaGreatDoor.R.dF g v=true):(s.counts v).ok g (N+1):=by
 unfold ai.counts;have a:=h.more (ev N);split
 .exact{a with dw:=ej (l8 _ _ _) (pa h.dw),ln:=λp b=>(kY b).elim (a.ln p) (λe=>by rw [e];exact(h.gU 1 v.v).hP d c)}
 .exact{a with aC:=ej (l8 _ _ _) (pa h.aC),lo:=λp b=>(kY b).elim (a.lo p) (λe=>by rw [e];exact(h.gU 2 v.v).hP d c)}
theorem ai.ok.i1{g:al}{N:Nat}{s:ai}{x:List UInt8}(h:s.ok g (N+1))(c:s.dg.length<=N)(a:x.length<=200):(s.i1 x).ok g (N+1):=by
 unfold ai.i1;split
 .exact h
 .exact{h with dg:=by simp only [cj,List.length_singleton];omega,oD:=λy b=>(List.mem_append.1 b).elim (h.oD y) (λe=>by rw [List.mem_singleton.1 e];exact a)}
theorem ai.ok.hr{g:al}{N:Nat}{s:ai}{m:aY}(h:s.ok g N)(hm:m.dF):(s.hr g m).ok g (N+1):=by
 unfold ai.hr;have a:=h.more (ev N);split
 .exact a
 .have b:ai.ok g (N+1) ({s with props:=bV s.props m.v m}:ai):=
   {a with props:=ej (l8 _ _ _) (pa h.props),sf:=λp c=>(kY c).elim (a.sf p) (λe=>by rw [e];exact hm)}
  exact b.i1 h.dg hm.x
theorem ai.ok.dv{g:al}{N:Nat}{s:ai}{m:aY}(h:s.ok g N)(hm:m.dF):(s.dv g m).ok g (N+1):=by
 unfold ai.dv;have b:=h.more (ev N);split
 .exact b
 .rename_i v r c;split
  .rename_i a;refine h.counts (hm.aI v (by rw [c];simp)) ?_;unfold ai.hs at a;simp only [d8] at a;exact a.2.2.2
  .exact b
theorem ai.ok.status{g:al}{N:Nat}{s:ai}{m:aY}(h:s.ok g N)(hm:m.dF):(s.status g m).ok g (N+1):=by
 unfold ai.status;have b:=h.more (ev N)
 have a:((aV s.dB m.v).getD []).length<=N/\∀q∈(aV s.dB m.v).getD [],q.2.dF:=by
  cases ad:aV s.dB m.v with
  |none=>exact⟨by simp,by simp⟩
  |some l=>exact h.mm _ (io ad)
 split
 .refine{b with dB:=ej (l8 _ _ _) (pa h.dB),mm:=λp c=>(kY c).elim (b.mm p) (λe=>?_)};rw [e];dsimp only;split
  .exact⟨ej a.1 (ev _),a.2⟩
  .exact⟨ej (l8 _ _ _) (pa a.1),λq d=>(kY d).elim (a.2 q) (λe=>by rw [e];exact hm)⟩
 .exact b
theorem ai.ok.gD{g:al}{N:Nat}{s:ai}{x:List UInt8}{l:List aN}(h:s.ok g N)(c:x.length<=200)(a:l.length<=10)(b:∀x∈l,x.ok):(s.gD x l).ok g N:=
 {h with value:=c,et:=a,sL:=b}
theorem ai.ok.decision{g:al}{N:Nat}{s:ai}{m:aY}(h:s.ok g N)(hm:m.dF):(s.decision g m).ok g N:=by
 unfold ai.decision;split
 .exact h
 .split
  .exact h.gD hm.x hm.l hm.aI
  .exact h
theorem uY:∀(n:Nat)(l:List Int),l.Nodup->(∀i∈l,0<=i/\i<n)->l.length<=n
 |0,l,_,h=>by
  cases l with
  |nil=>simp
  |cons a r=>have:=h a (by simp);omega
 |n+1,l,aT,h=>by
  have p:=uY n (l.filter λi=>decide (i≠(n:Int))) (aT.filter _) (λi f=>by
   have e:=kI.1 f;have m:=h i e.1;have c:i≠(n:Int):=by simpa using e.2
   omega)
  have e:l.length<=(l.filter λi=>decide (i≠(n:Int))).length+1:=by
   have m:(l.filter λi=>decide (i=(n:Int))).length<=1:=by
    have c:(l.filter λi=>decide (i=(n:Int))).Nodup:=aT.filter _;have d:∀i∈l.filter (λi=>decide (i=(n:Int))),i=(n:Int):=λi f=>by simpa using(List.mem_filter.1 f).2
    generalize l.filter (λi=>decide (i=(n:Int)))=z at c d
    match z,c,d with
    |[],_,_=>simp
    |[_],_,_=>simp
    |a::b::r,c,d=>
     have k:=d a (by simp);have aA:=d b (by simp);simp [k,aA] at c
   have o:∀z:List Int,z.length=(z.filter λi=>decide (i≠(n:Int))).length+(z.filter λi=>decide (i=(n:Int))).length:=by
    intro z;induction z with
    |nil=>rfl
    |cons a r j=>
     by_cases g:a=(n:Int)
     .simp [pb,g];simp at j;omega
     .simp [pb,g];simp at j;omega
   have:=o l;omega
  omega
theorem ut{g:al}{v:aN}(h:_root_.Go.Proofs.YtmholjbhjcpkhaaGreatDoor.R.dF g v=true):0<=v.f/\v.f<g.n:=by
 unfold _root_.Go.Proofs.YtmholjbhjcpkhaaGreatDoor.R.dF al.check at h;have:=(d8 _ _▸h).1;exact dV this
theorem Cd(g:al)(k s v:Int)(sum:List UInt8){f:Int}(c:0<=f/\f<g.n):_root_.Go.Proofs.YtmholjbhjcpkhaaGreatDoor.R.dF g (cT g k s v sum f)=true:=by
 unfold _root_.Go.Proofs.YtmholjbhjcpkhaaGreatDoor.R.dF al.check;have e:(cT g k s v sum f).lC=aN.lC ⟨k,s,v,sum,f,cD⟩:=rfl;rw [e];have a:(cT g k s v sum f).tag=g.ct f (aN.lC ⟨k,s,v,sum,f,cD⟩):=rfl;have b:(cT g k s v sum f).f=f:=rfl;rw [a,b];simp only [beq_self_eq_true,qV,gn];exact c
theorem yD{g:al}{N:Nat}{l:List aN}(h:fH g N l)(sum:List UInt8):((fg l sum).map aN.f).Nodup:=by
 unfold fg;refine List.pairwise_map.2 ?_;have d:(l.filter λv=>v.sum==sum).Pairwise λa b=>¬(a.sum=b.sum/\a.f=b.f):=h.apart.filter _
 refine List.Pairwise.imp_of_mem (fun{a b}i k j e=>j ⟨?_,e⟩) d;have c:=(kI.1 i).2;have aA:=(kI.1 k).2;rw [ea.1 c,ea.1 aA]
theorem yE{g:al}{N:Nat}{l:List aN}(h:fH g N l)(sum:List UInt8):(fg l sum).length<=g.n:=by
 have:=uY g.n ((fg l sum).map aN.f) (yD h sum) (λi a=>by
  obtain⟨v,b,rfl⟩:=ee.1 a;exact ut (h.dF v (kI.1 b).1))
 simpa using this
theorem B5(l:List aN):(iG l).length=l.length:=hN _
theorem wN{l:List aN}{v:aN}:v∈iG l↔v∈l:=g7
theorem ai.ok.fS{g:al}{N:Nat}{s:ai}{b:List aN}{y:List UInt8×List aN}(h:s.ok g N)(d:g.ok)(c:fH g N b)(he:s.fS g b=some y):y.1.length<=200/\y.2.length<=10/\∀v∈y.2,v.ok:=by
 obtain⟨x,f,a⟩:=tg he;split at a
 .cases a;refine⟨h.oD x f,?_,λv e=>c.ok v (kI.1 (wN.1 e)).1⟩;dsimp only;rw [B5];exact ej (yE c _) d.n10
 .cases a
theorem ai.ok.aI{g:al}{N:Nat}{s:ai}(h:s.ok g N)(kind:Int)(x:List UInt8):(s.aI g kind x).1.ok g (N+1):=
 h.counts (jm _ _ _ _ _ _ (fm _)) (Cd _ _ _ _ _ h.aw)
theorem ai.ok.gG{g:al}{N:Nat}{s:ai}{r:ai×List aY}(h:s.ok g N)(c:g.ok)(a:s.gG g=some r):r.1.ok g N:=by
 unfold ai.gG at a;cases b:(cW s.aC).findSome? λp=>s.fS g p.2 with
 |none=>rw [b] at a;cases a
 |some y=>
  rw [b] at a;cases a;obtain⟨p,d,e⟩:=tg b;have:=h.fS c (h.lo p (g7.1 d)) e;exact h.gD this.1 this.2.1 this.2.2
theorem ai.ok.fP{g:al}{N:Nat}{s:ai}{r:ai×List aY}(h:s.ok g N)(a:s.fP g=some r):r.1.ok g (N+1):=by
 unfold ai.fP at a;split at a
 .cases a
 .split at a
  .cases a
  .split at a
   .cases a;exact ai.ok.aI (s:={s with iv:=s.view}) {h with} 1 _
   .cases a
theorem ai.ok.gv{g:al}{N:Nat}{s:ai}{r:ai×List aY}(h:s.ok g N)(b:g.ok)(a:s.gv g=some r):r.1.ok g (N+1):=by
 unfold ai.gv at a;split at a
 .cases a
 .split at a
  .cases a
  .rename_i y he;cases a;have:=h.fS b (h.gU 1 s.view) he;exact ai.ok.aI (s:={s with comm:=s.view,im:=s.view,dT:=y.1,aZ:=y.2}) {h with dT:=this.1,aZ:=this.2.1,l6:=this.2.2} 2 _
theorem y3{g:al}{slot below:Int}{x:List UInt8}{l:List aN}(c:x.length<=200)(a:l.length<=10)(b:∀v∈l,v.ok):(kw g slot below x l).2.1.length<=200/\(kw g slot below x l).2.2.length<=10/\∀v∈(kw g slot below x l).2.2,v.ok:=by
 unfold kw;split
 .exact⟨c,a,b⟩
 .exact⟨by simp,by simp,by simp⟩
theorem xH{g:al}{slot view:Int}{l:List (Int×aY)}(h:∀p∈l,p.2.dF):(ii g slot view l).2.1.length<=200/\(ii g slot view l).2.2.length<=10/\∀v∈(ii g slot view l).2.2,v.ok:=by
 unfold ii
 have key:∀(l:List (Int×aY))(k:Int×List UInt8×List aN),(∀p∈l,p.2.dF)->(k.2.1.length<=200/\k.2.2.length<=10/\∀v∈k.2.2,v.ok)->
  (l.foldl (λk p=>j7 g slot view k.2.1 k.2.2 p.2.x p.2.l) k).2.1.length<=200/\(l.foldl (λk p=>j7 g slot view k.2.1 k.2.2 p.2.x p.2.l) k).2.2.length<=10/\∀v∈(l.foldl (λk p=>j7 g slot view k.2.1 k.2.2 p.2.x p.2.l) k).2.2,v.ok:=by
  intro l;induction l with
  |nil=>intro k _ ad;exact ad
  |cons p r d=>
   intro k b ad;refine d _ (λq c=>b q (by simp [c])) ?_;have a:=b p (by simp);unfold j7;dsimp only;split
   .exact y3 a.x a.l a.aI
   .exact y3 ad.1 ad.2.1 ad.2.2
 exact key l _ h ⟨by simp,by simp,by simp⟩
theorem ai.ok.gM{g:al}{N:Nat}{s:ai}{y:List UInt8×List aN}(h:s.ok g N)(a:s.gM g=some y):y.1.length<=200/\y.2.length<=10/\∀v∈y.2,v.ok:=by
 unfold ai.gM at a
 have hw:∀y:List UInt8×List aN,(if 0<s.want.length then some (s.want,([]:List aN)) else none)=some y->y.1.length<=200/\y.2.length<=10/\∀v∈y.2,v.ok:=λy b=>by
  split at b
  .cases b;exact⟨h.want,by simp,by simp⟩
  .cases b
 split at a
 .split at a
  .cases a
  .rename_i l c;split at a
   .split at a
    .cases a;exact xH (λp d=>(h.mm _ (io c)).2 p (g7.1 d))
    .exact hw y a
   .cases a
 .exact hw y a
theorem ai.qg{g:al}{s:ai}{m:aY}{to:Int}(c:m.x.length<=200)(a:m.l.length<=10)(b:∀v∈m.l,v.ok):(s.ju g m to).dF:=⟨al.ei _ _ _,b,c,a⟩
theorem ai.ok.gh{g:al}{N:Nat}{s:ai}{r:ai×List aY}(h:s.ok g N)(a:s.gh g=some r):r.1.ok g (N+1):=by
 unfold ai.gh at a;split at a
 .cases a
 .split at a
  .cases a
  .rename_i y b;cases a;have:=h.gM b;exact ai.ok.hr (s:={s with prop:=s.view}) {h with} (ai.qg this.1 this.2.1 this.2.2)
theorem ai.ok.step{g:al}{N:Nat}{s:ai}{r:ai×List aY}(h:s.ok g N)(b:g.ok)(a:s.step g=some r):r.1.ok g (N+1):=by
 unfold ai.step at a;split at a
 .rename_i e;cases a;exact(h.gG b e).more (ev _)
 .split at a
  .rename_i e;cases a;exact h.fP e
  .split at a
   .rename_i e;cases a;exact h.gv b e
   .exact h.gh a
theorem ai.ok.go{g:al}(a:g.ok):∀(k:Nat){N:Nat}{s:ai}{l:List aY},s.ok g N->(ai.go g k s l).1.ok g (N+k)
 |0,_,_,_,h=>h
 |k+1,N,s,l,h=>by
  unfold ai.go;split
  .exact h.more (by omega)
  .split
   .exact h.more (by omega)
   .rename_i lB bZ e;have:=ai.ok.go a k (l:=l++bZ) (h.step a e);rw [show N+(k+1)=N+1+k by omega];exact this
theorem ai.ok.steps{g:al}{N:Nat}{s:ai}(h:s.ok g N)(a:g.ok):(s.steps g).1.ok g (N+5):=ai.ok.go a 5 h
theorem ai.ok.fd{g:al}{N:Nat}{s:ai}{m:aY}(h:s.ok g N)(hm:m.dF):(s.fd g m).ok g (N+1):=by
 unfold ai.fd
 repeat' split
 .exact h.hr hm
 .exact h.dv hm
 .exact h.status hm
 .exact(h.decision hm).more (ev _)
 .exact h.more (ev _)
theorem ai.ok.take{g:al}{N:Nat}{s:ai}{m:aY}(h:s.ok g N)(a:g.ok)(hm:m.dF):(s.take g m).1.ok g (N+6):=by
 unfold ai.take;split
 .exact h.more (by omega)
 .exact(h.fd hm).steps a
theorem ai.ok.g2{g:al}{N:Nat}{s:ai}{x:List UInt8}(h:s.ok g N)(a:g.ok):(s.g2 g x).1.ok g (N+5):=by
 unfold ai.g2;split
 .exact h.more (by omega)
 .split
  .rename_i b;exact ai.ok.steps (s:={s with want:=x}) {h with want:=b.2} a
  .exact h.steps a
theorem ai.ok.gy{g:al}{N:Nat}{s:ai}(h:s.ok g N)(b:s.view<8):(s.gy g).1.ok g (N+1):=by
 unfold ai.gy;have a:ai.ok g N ({s with view:=s.view+1}:ai):={h with view:=⟨show 0<=s.view+1 by have:=h.view;omega,show s.view+1<=8 by omega⟩};dsimp only;split
 .exact a.status (ai.qg h.dT h.aZ h.l6)
 .exact a.more (ev _)
theorem ai.ok.tick{g:al}{N:Nat}{s:ai}(h:s.ok g N)(a:g.ok):(s.tick g).1.ok g (N+6):=by
 unfold ai.tick;split
 .exact h.more (by omega)
 .rename_i aT;have b:s.view<8:=by simp at aT;omega
  exact(h.gy b).steps a
def aD.sM(m:aD):List UInt8:=ep [1,m.k,m.f,m.to,m.s,m.v]++(hd m.x++(ja m.l++m.tag))
theorem aD.ru(m:aD):∀i u,(aP m.tag)[i]? =some u->m.cs.toArray[0+7+i]? =some u:=λi u hu=>by
 rw [show 0+7+i=i+1+1+1+1+1+1+1 by omega];simp only [aD.cs,mJ,ng];exact hu
theorem xb{o:World}{m:aD}(hm:m.ok o):Calls prog 141 #[.agg m.cs.toArray] o λr w=>∃v G,r= .tuple #[v,.int .i64 (if iN m then 0 else 1)]/\d6 v (if iN m then m.sM else []) G/\C o [] [G] w:=by
 have a:Own [] o:=C.start o;refine a6 func141 ?_;refine bJ 2 a j j (λaC w a=>?_);refine bP 5 (U:=m.cs) j j (m.len hm) (zd a) ?_;have g:=DV (hm.st a);refine br 0 g j (λw ad=>?_);have a:=a.aO ad;refine bo 1 j j (λdu=>?_) (λdu=>?_)
 .refine an 4 j j ?_;have p:iN m=false:=by simpa using du
  rw [p];exact⟨_,[],j,Row.nil _ _,a.bare.empty⟩
 refine cx 3 a j (λq w a=>?_);have a:C o [] (eW q (.slice none 0 0)::_) w:=a;have p:iN m=true:=by simpa using du
 have N:m.x.length<=200/\m.l.length<=10:=by
  have h:=p;unfold iN at h;simp only [d8,gn] at h;omega
 refine ar 3 j (a.f1.cell m.gL) ?_;refine ar 1 j (a.f1.cell m.aH) ?_;refine ar 1 j (a.f1.cell m.dy) ?_;refine ar 1 j (a.f1.cell m.gt) ?_;refine ar 1 j (a.f1.cell m.fA) ?_;refine fx a j j j j j j bO (λK w a=>?_);have aT:=a.bQ;have y:=a.iE (off:=0) (sp:=none) (U:=[1,m.k,m.f,m.to,m.s,m.v].map ab);have a:=a.f1.empty.f1;have g:=k0 (aG:=[]) (eR:=[1,m.k,m.f,m.to,m.s,m.v]) (c:=6) a.cH (Row.nil _ _) aT (y.kC (by simp) (λb E=>fE (fs:=[eW q (.slice none 0 0)]) (by simp) b (by simpa [au] using E))) (by simp);refine br 0 g j (λw⟨v1,n,i,ad⟩=>?_);have a:=a.cG ad;rw [kl] at i;have H:=gb [1,m.k,m.f,m.to,m.s,m.v];simp only [ex,fW] at H;refine ar 3 j (a.f3.cell m.fY) ?_;refine fx a j j j j j j bO (λt w a=>?_);have I:=a.bQ;have z:=a.iE (off:=0) (sp:=none) (U:=[.slice m.A m.x.length m.c]);have a:=a.f1.f2.f1;have D:=a.apart hm.x (cc.of_nil _ _);have F:kG w (some ⟨t,0,none⟩) [m.x] (au [eW q v1,n]):=kG.one I j (z.sub (fE (by simp))) (a.rd hm.x (cc.of_nil _ _)) (D.sub (fE (by simp)));have g:=tP (c:=1) a.cH i F (by simp only [iR,jh,o5,List.sum_cons,List.sum_nil];omega);refine br 0 g j (λw⟨v1,n,i,ad⟩=>?_);have a:=a.cG ad;rw [show jo [m.x]=hd m.x from by simp [jo]] at i;have L:=jn m.x (by omega);refine ar 3 j (a.f4.cell m.eZ) ?_;have B:=a.apart hm.l (cc.of_nil _ _);have g:=zl (d:=m.d) a.cH i (a.rd hm.l (cc.of_nil _ _)) (B.sub (fE (by simp))) hm.aI (by omega) (by simp only [cj];omega);refine br 0 g j (λw⟨v1,n,i,ad⟩=>?_);have a:=a.cG ad;have M:=lb m.l hm.aI;refine aq 3 j (mx j j j ?_);have J:=a.f4.i9 (off:=0+7) (U:=aP m.tag) m.ru;have g:=p8 (c:=32) a.cH i J (by simp only [cj,hm.tag];omega);rw [hm.tag] at g;refine br 0 g j (λw⟨v1,n,i,ad⟩=>?_);have a:=a.cG ad;have g:=p4 a.cH i (by simp only [cj,hm.tag];omega);refine bk 2 g j (λr w⟨G,u,ad⟩=>?_);have a:=(a.cG ad).hS;refine an 2 j j ?_;rw [p];refine⟨_,G,j,?_,a⟩;have e:m.sM=ep [1,m.k,m.f,m.to,m.s,m.v]++hd m.x++ja m.l++m.tag:=by simp [aD.sM,dS]
 show d6 _ m.sM G;rw [e];exact u
def hI:List Value->List (List UInt8)->List Chunk->Prop
 |[],[],G=>G=[]
 |u::us,x::l,G=>∃af aB,G=af++aB/\d6 u x af/\hI us l aB
 |[],_::_,_=>False
 |_::_,[],_=>False
def h1(v:Value)(l:List (List UInt8))(G:List Chunk):Prop:=∃ak H us,G=ak++H/\Row 26 1 v l.length us ak/\hI us l H
def hZ(v:Value)(l:List aN)(G:List Chunk):Prop:=∃b u ak,v=aa b/\en u l ak/\G=(b,.cells #[u] 383 (0,0))::ak
abbrev iT(v:Value)(t:List (Int×aY))(G:List Chunk):Prop:=fo 287 jT v t G
structure eU where
 dT:Value
 aZ:Value
 want:Value
 props:Value
 dg:Value
 dw:Value
 aC:Value
 dB:Value
 value:Value
 et:Value
abbrev jP(g:al)(s:ai)(c:eU):List Value:=[g.p,ab s.aw,ab s.slot,ab s.view,ab s.im,c.dT,c.aZ,c.want,c.props,c.dg,c.dw,c.aC,c.dB,ab s.iv,ab s.comm,ab s.prop,c.value,c.et,.bool s.dec]
abbrev bd(g:al)(av:Nat)(s:ai)(c:eU):List Chunk:=J av (jP g s c).toArray 284
structure tb(s:ai)(c:eU)(af aB bn cw cb bX bT cd b6 b5:List Chunk):Prop where
 dT:d6 c.dT s.dT af
 aZ:en c.aZ s.aZ aB
 want:d6 c.want s.want bn
 props:iT c.props s.props cw
 dg:h1 c.dg s.dg cb
 dw:fo 328 hZ c.dw s.dw bX
 aC:fo 328 hZ c.aC s.aC bT
 dB:fo 325 iT c.dB s.dB cd
 value:d6 c.value s.value b6
 et:en c.et s.et b5
theorem y8{o:World}{av:Nat}{g:al}{s:ai}{c:eU}(a:o.heap[av]? =some (.cells (jP g s c).toArray 284 (0,0)))(b:g.at o)(d:g.ok):Calls prog 295 #[aa av] o λr w=>r= .int .i64 (dL g.n:Nat)/\w=o:=by
 refine a6 func295 (ar 8 j (ax a j) (br 0 (mb b) j (λw hw=>?_)));subst hw;refine br 0 (y9 (by have:=d.n10;omega)) j (λw hw=>?_);subst hw;exact an 1 j j ⟨j,j⟩
theorem uF{o:World}{av:Nat}{g:al}{s:ai}{c:eU}(b:o.heap[av]? =some (.cells (jP g s c).toArray 284 (0,0)))(f:g.at o)(e:g.ok){node view:Int}(aF:0<=s.slot/\s.slot<=63)(h:0<=view/\view<=8):Calls prog 226 #[aa av,ab node,ab view] o λr w=>r= .bool (s.leads g node view)/\C o [] [] w:=by
 have a:Own [] o:=C.start o;refine a6 func226 ?_;have a:=a.drew;refine bx 4 j (λw=>∃ae,C o [] ae w) ⟨_,a⟩ (ag 0 4 j (b4 4 j (λw⟨_,a⟩=>ax (a.b8 b) j) (ag 5 4 j (b4 9 j (λw⟨_,a⟩=>ax (a.b8 b) j) (aX 10 j (bK j j j (mb (f.st a (al.off.nil g))) (λw hw=>?_)))))));subst hw;refine ao ⟨⟨_,a⟩,?_⟩;refine aX 11 j ?_;have d:=x2 (o:=o.drew) (s:=s.slot.toNat) (v:=view.toNat) (n:=g.keys.length) (by omega) (by omega) e.i2 (by have:=e.n10;omega);rw [show((s.slot.toNat:Nat):Int)=s.slot from pc aF.1,show((view.toNat:Nat):Int)=view from pc h.1] at d;refine bK j j j d (λw ad=>?_);have a:=a.aO ad;refine ao ⟨⟨_,a⟩,?_⟩;exact ag 12 2 j (bL (an 0 j j ⟨j,a.bare⟩))
theorem aD.GF(m:aD)(x:Int):m.cs.toArray.setIfInBounds 1 (ab x)=({m with f:=x}:aD).cs.toArray:=by
 apply fz;simp [aD.cs]
theorem aD.GJ(m:aD)(x:Int):m.cs.toArray.setIfInBounds 2 (ab x)=({m with to:=x}:aD).cs.toArray:=by
 apply fz;simp [aD.cs]
theorem aD.GG(m:aD)(x:Int):m.cs.toArray.setIfInBounds 3 (ab x)=({m with s:=x}:aD).cs.toArray:=by
 apply fz;simp [aD.cs]
theorem aD.vj(m:aD){w:World}{b:Nat}{e:TypeId}{e0:Nat×Nat}(h:w.heap[b]? =some (.cells m.cs.toArray e e0)):Rd w (some ⟨b,0+7,none⟩) (aP m.tag):=λi v a=>⟨_,j,by
 rw [add_lit];refine ax h ?_;rw [show 0+7+i=i+1+1+1+1+1+1+1 by omega];simp only [aD.cs,mJ,ng];exact a⟩
theorem aD.yf(m:aD)(h:iN m=true):m.x.length<=200/\m.l.length<=10:=by
 unfold iN at h;simp only [d8,gn] at h;exact⟨h.1.1.2,h.1.2⟩
theorem aD.ow(m:aD)(t:List UInt8)(h:m.tag.length=t.length):setCells m.cs.toArray 7 (aP t)=({m with tag:=t}:aD).cs.toArray:=
 Gx [ab m.k,ab m.f,ab m.to,ab m.s,ab m.v,.slice m.A m.x.length m.c,.slice m.B m.l.length m.d] (aP m.tag) (aP t) (by simp [h])
theorem so{o:World}{av:Nat}{g:al}{s:ai}{c:eU}{m:aD}{to:Int}(y:o.heap[av]? =some (.cells (jP g s c).toArray 284 (0,0)))(J:g.at o)(M:g.ok)(hm:m.ok o)(Q:m.x.length<=10000)(z:m.l.length<=1000):Calls prog 192 #[aa av,.agg m.cs.toArray,ab to] o λr w=>∃(q:aD)(G:List Chunk),r= .agg q.cs.toArray/\fw q G/\q.P=s.ju g m.P to/\C o [] [G] w:=by
 have a:Own [] o:=C.start o;refine fj func192 (bJ 2 a j j (λn w a=>cx 0 a j (λp w a=>?_)));have a:C o [] [bf n m,bf p dO] w:=a.f1;have a:=a.drew;refine bx 1 j (λw=>∃ae,C o [] ae w) ⟨_,a⟩ (ag 0 3 j (b4 3 j (λw⟨_,a⟩=>ax (a.b8 y) j) (ag 5 3 j (b4 8 j (λw⟨_,a⟩=>ax (a.b8 y) j) (ag 4 1 j (ag 9 1 j (aX 10 j (cO (a.bc _) j j j j (by rw [hl,m.bU hm.tag];decide) (λw a=>?_)))))))));have a:=C.f9 a (m.GF s.aw);refine ao ⟨⟨_,a⟩,?_⟩;refine ag 11 1 j (aX 12 j (cO (a.bc _) j j j j (by rw [hl,({m with f:=s.aw}:aD).bU hm.tag];decide) (λw a=>?_)));have a:=C.f9 a (({m with f:=s.aw}:aD).GJ to);refine ao ⟨⟨_,a⟩,?_⟩;refine ag 13 1 j (aX 14 j (cO (a.bc _) j j j j (by rw [hl,({m with f:=s.aw,to:=to}:aD).bU hm.tag];decide) (λw a=>?_)));have a:=C.f9 a (({m with f:=s.aw,to:=to}:aD).GG s.slot);have a:C o [] [bf n ({m with f:=s.aw,to:=to,s:=s.slot}:aD),bf p dO] w:=a;refine ao ⟨⟨_,a⟩,?_⟩;refine bL (ar 3 j (ax (C.aj a) ({m with f:=s.aw,to:=to,s:=s.slot}:aD).fY) ?_);have t:=gN (c:=m.c) (hm.st a).x (by omega);refine bk 0 t j (λr w⟨af,D,u⟩=>?_);obtain⟨b,aH,rfl⟩:∃A c,r= .slice A m.x.length c:=by obtain⟨A,c,h,_⟩:=D.form;exact⟨A,c,h⟩
 have a:=a.aO u;refine aq 1 j (cO (a.bc _) j j j j (by rw [hl,({m with f:=s.aw,to:=to,s:=s.slot}:aD).bU hm.tag];decide) (λw a=>?_));have a:=C.f9 a (({m with f:=s.aw,to:=to,s:=s.slot}:aD).qj b aH);have a:C o [] [bf n ({m with f:=s.aw,to:=to,s:=s.slot,A:=b,c:=aH}:aD),bf p dO,af] w:=a.as;refine ar 3 j (ax (C.aj a) ({m with f:=s.aw,to:=to,s:=s.slot,A:=b,c:=aH}:aD).eZ) ?_;have t:=kO (d:=m.d) (hm.st a).l hm.aI z;refine bk 0 t j (λr w⟨aB,E,u⟩=>?_);obtain⟨e,d1,rfl⟩:∃A c,r= .slice A m.l.length c:=by obtain⟨A,c,h,_⟩:=E.form;exact⟨A,c,h⟩
 have a:=a.aO u;refine aq 1 j (cO (a.bc _) j j j j (by rw [hl,({m with f:=s.aw,to:=to,s:=s.slot,A:=b,c:=aH}:aD).bU hm.tag];decide) (λw a=>?_));have a:=C.f9 a (({m with f:=s.aw,to:=to,s:=s.slot,A:=b,c:=aH}:aD).mj e d1);have a:C o [] [bf n ({m with f:=s.aw,to:=to,s:=s.slot,A:=b,c:=aH,B:=e,d:=d1}:aD),bf p dO,af,aB] w:=a.as;have N:({m with f:=s.aw,to:=to,s:=s.slot,A:=b,c:=aH,B:=e,d:=d1}:aD).own af aB:=⟨D,E⟩;have L:fw ({m with f:=s.aw,to:=to,s:=s.slot,A:=b,c:=aH,B:=e,d:=d1}:aD) (af++aB):=⟨af,aB,j,N,hm.tag,hm.aI,⟨by show m.x.length<=_;omega,z⟩⟩;have a:=a.drew;refine bx 1 j (λw=>∃ae,C o [] ([bf n ({m with f:=s.aw,to:=to,s:=s.slot,A:=b,c:=aH,B:=e,d:=d1}:aD)]++ae) w) ⟨_,a⟩ (ag 0 3 j (b4 3 j (λw⟨_,a⟩=>ax (a.b8 y) j) (ag 4 3 j (b4 7 j (λw⟨_,a⟩=>ax (a.b8 y) j) (bl 8 j (λw⟨_,a⟩=>dd (U:=({m with f:=s.aw,to:=to,s:=s.slot,A:=b,c:=aH,B:=e,d:=d1}:aD).cs) j j (({m with f:=s.aw,to:=to,s:=s.slot,A:=b,c:=aH,B:=e,d:=d1}:aD).bU hm.tag) (bq (C.aj a))) (aX 9 j ?_))))));have K:=(L.read (C.holds (G:=af++aB) (a.perm (B:=[bf n ({m with f:=s.aw,to:=to,s:=s.slot,A:=b,c:=aH,B:=e,d:=d1}:aD),bf p dO,af++aB]) (by simp)) (by simp))).1;have t:=lW K Q z;refine cS j j j t (λr w⟨bn,H,u⟩=>?_);have a:=a.aO u;have a:C o [] [bf n ({m with f:=s.aw,to:=to,s:=s.slot,A:=b,c:=aH,B:=e,d:=d1}:aD),bf p dO,af,aB,bn] w:=a.as
 have I:({m with f:=s.aw,to:=to,s:=s.slot,A:=b,c:=aH,B:=e,d:=d1}:aD).body.length<=1000000:=by
  have S:=lb m.l hm.aI;have T:=jn m.x (by omega);have F:=gb [4,m.k,s.aw,s.slot,m.v];simp only [ex,fW] at F;show(ep [4,m.k,s.aw,s.slot,m.v]++(hd m.x++ja m.l)).length<=_;simp only [cj];omega
 obtain⟨R,gV,rfl,_,_,O,_⟩:=H.read (a.holds (by simp));refine ao ⟨⟨_,a⟩,?_⟩;refine aX 10 j ?_;have t:=mX (J.st a (al.off.nil g)) M O I (i:=s.aw) (d:=gV);refine bK j j j t (λw u=>?_);have a:=a.aO u;have a:C o [] [bf n ({m with f:=s.aw,to:=to,s:=s.slot,A:=b,c:=aH,B:=e,d:=d1}:aD),bf p dO,af,aB,bn] w:=a.as;refine ao ⟨⟨_,a⟩,?_⟩;refine ag 11 1 j (dK 12 j (c6 (a.bc _) j j j (by simpa using gC (g.ct s.aw ({m with f:=s.aw,to:=to,s:=s.slot,A:=b,c:=aH,B:=e,d:=d1}:aD).body)) (by rw [List.size_toArray,dx,al.ei]) (by rw [List.size_toArray,({m with f:=s.aw,to:=to,s:=s.slot,A:=b,c:=aH,B:=e,d:=d1}:aD).bU hm.tag];decide) (λw a=>?_)));have a:=C.f9 a (({m with f:=s.aw,to:=to,s:=s.slot,A:=b,c:=aH,B:=e,d:=d1}:aD).ow (g.ct s.aw ({m with f:=s.aw,to:=to,s:=s.slot}:aD).body) (by rw [al.ei];exact hm.tag));have a:C o [] [bf n ({m with f:=s.aw,to:=to,s:=s.slot,A:=b,c:=aH,B:=e,d:=d1,tag:=g.ct s.aw ({m with f:=s.aw,to:=to,s:=s.slot}:aD).body}:aD),bf p dO,af,aB] w:=a.as;refine ao (c5 (bP 2 (U:=({m with f:=s.aw,to:=to,s:=s.slot,A:=b,c:=aH,B:=e,d:=d1,tag:=g.ct s.aw ({m with f:=s.aw,to:=to,s:=s.slot}:aD).body}:aD).cs) j j (({m with f:=s.aw,to:=to,s:=s.slot,A:=b,c:=aH,B:=e,d:=d1,tag:=g.ct s.aw ({m with f:=s.aw,to:=to,s:=s.slot}:aD).body}:aD).bU (al.ei _ _ _)) (bq (C.aj a)) ?_));refine c6 (a.bc p) j j j (by simpa using({m with f:=s.aw,to:=to,s:=s.slot,A:=b,c:=aH,B:=e,d:=d1,tag:=g.ct s.aw ({m with f:=s.aw,to:=to,s:=s.slot}:aD).body}:aD).one) (by rw [List.size_toArray];exact({m with f:=s.aw,to:=to,s:=s.slot,A:=b,c:=aH,B:=e,d:=d1,tag:=g.ct s.aw ({m with f:=s.aw,to:=to,s:=s.slot}:aD).body}:aD).bU (al.ei _ _ _)) (by decide) (λw a=>?_);have a:=C.whole (U:=({m with f:=s.aw,to:=to,s:=s.slot,A:=b,c:=aH,B:=e,d:=d1,tag:=g.ct s.aw ({m with f:=s.aw,to:=to,s:=s.slot}:aD).body}:aD).cs) a (by rw [({m with f:=s.aw,to:=to,s:=s.slot,A:=b,c:=aH,B:=e,d:=d1,tag:=g.ct s.aw ({m with f:=s.aw,to:=to,s:=s.slot}:aD).body}:aD).bU (al.ei _ _ _)];rfl);refine bH 0 j ⟨_,hW (U:=({m with f:=s.aw,to:=to,s:=s.slot,A:=b,c:=aH,B:=e,d:=d1,tag:=g.ct s.aw ({m with f:=s.aw,to:=to,s:=s.slot}:aD).body}:aD).cs) results192 j j (({m with f:=s.aw,to:=to,s:=s.slot,A:=b,c:=aH,B:=e,d:=d1,tag:=g.ct s.aw ({m with f:=s.aw,to:=to,s:=s.slot}:aD).body}:aD).bU (al.ei _ _ _)) a.bQ,?_⟩;have a:C o [] [af,aB] w:=a.as;exact⟨({m with f:=s.aw,to:=to,s:=s.slot,A:=b,c:=aH,B:=e,d:=d1,tag:=g.ct s.aw ({m with f:=s.aw,to:=to,s:=s.slot}:aD).body}:aD),af++aB,j,⟨af,aB,j,⟨D,E⟩,al.ei _ _ _,hm.aI,⟨by show m.x.length<=_;omega,z⟩⟩,j,a.join⟩
theorem yQ(aw:Int)(n:Nat):me aw (n+1)=me aw n++(if((n:Int) !=aw)=true then [(n:Int)] else []):=by
 unfold me;rw [m9,iB,List.filter_append];simp only [jh,o5,pb,List.filter_nil]
theorem yP(aw:Int)(n:Nat):(me aw n).length<=n:=by
 unfold me;refine ej (nV _ _) ?_;simp
theorem tB{o:World}{av:Nat}{g:al}{s:ai}{c:eU}{m:aD}(t:o.heap[av]? =some (.cells (jP g s c).toArray 284 (0,0)))(u:g.at o)(y:g.ok)(hm:m.ok o)(N:m.x.length<=10000)(K:m.l.length<=1000):Calls prog 269 #[aa av,.agg m.cs.toArray] o λr w=>∃G:List Chunk,cC r (s.all g m.P) G/\C o [] [G] w:=by
 have a:Own [] o:=C.start o;refine a6 func269 (bJ 2 a j j (λb w a=>?_));have a:C o [] [bf b m] w:=a;refine ar 10 j (ax (a.b8 t) j) (br 0 (mb (u.st a (al.off.nil g))) j (λw hw=>?_));subst hw
 refine dj 2 j (cU:=Nat×Value×List Chunk×List Chunk×List aD) (λi=>[(0,aa av),(3,aa b),(5,i.2.1),(11,.int .i64 (g.keys.length:Nat)),(12,.int .i64 (i.1:Nat))])
  (λi w=>i.1<=g.keys.length/\Row 101 39 i.2.1 i.2.2.2.2.length (fN i.2.2.2.2) i.2.2.1/\fy i.2.2.2.2 i.2.2.2.1/\i.2.2.2.2.map aD.P=(me s.aw i.1).map (λto=>s.ju g m.P to)/\C o [] [i.2.2.1,i.2.2.2.1,bf b m] w) (λi=>g.keys.length-i.1) (0,.slice none 0 0,[],[],[]) ⟨j,j,j,j,j,bb⟩ ⟨cp _,Row.nil _ _,j,j,a.empty.empty⟩ ?_
 have Q:=y.n10;rintro⟨i,v,ak,aB,l⟩ w ⟨I,k,h,e,a⟩;dsimp only at I k h e a⊢;have O:l.length<=i:=by have E:=aK List.length e;rw [fa,fa] at E;have:=yP s.aw i;omega
 refine cy 4 j j (λd=>?_) (λd=>?_)
 .refine ar 13 j (ax (a.b8 t) j) (bo 1 j j (λp=>?_) (λp=>?_))
  .refine bP 3 (U:=m.cs) j j (m.bU hm.tag) (bq (C.aj a)) ?_;have H:=so (a.b8 t) (u.st a (al.off.nil g)) y (hm.st a) N K (to:=(i:Int));refine bk 1 H j (λr w⟨q,f,M,z,L,ad⟩=>?_);subst M;have a:=a.aO ad;have a:C o [] [ak,aB,bf b m,f] w:=a.as;have B:q.tag.length=32:=(fy.one z).tag q (by simp);refine gj (U:=q.cs) a j j j (q.bU B) (by decide) (by decide) (λD w a=>?_);have aT:Rd w (some ⟨D,0,none⟩) q.cs:=a.bQ;refine e6 (a.to ak) k j j (by decide) j j j (news:=q.cs) (q.bU B) aT (List.all_eq_true.1 q.one) (by omega) (by unfold maxLen;omega) (λv1 n w F a=>?_);have a:C o [] [n,aB,f,bf b m] w:=a.as;refine bE 2 j j j (gX i 1 (by omega)) (bW 1 j (⟨(i+1,v1,n,aB++f,l++[q]),⟨j,j,j,j,j,bb⟩,⟨by have:=d;dsimp only;omega,?_,h.app (fy.one z),?_,C.perm (A:=[n,aB,f,bf b m]) a (by simp)⟩,by have:=d;dsimp only;omega⟩))
   .dsimp only;rw [cj,List.length_singleton,pJ,show fN [q]=q.cs by simp];exact F
   dsimp only;rw [iB,e,yQ,if_pos p,List.map_append];simp [L]
  refine bE 2 j j j (gX i 1 (by omega)) (bW 1 j (⟨(i+1,v,ak,aB,l),⟨j,j,j,j,j,bb⟩,⟨by have:=d;dsimp only;omega,k,h,?_,a⟩,by have:=d;dsimp only;omega⟩));dsimp only;rw [e,yQ,az (by rw [p];decide),gA]
 refine an 5 j j ?_;have J:i=g.keys.length:=by omega
 subst J;have a:C o [] [ak,aB] w:=a.as;exact⟨ak++aB,⟨l,e,ak,aB,j,k,h⟩,a.join⟩
theorem rF(b:Bool):((if b=true then(0:Int) else 1)==0)=b:=by cases b<;>rfl
theorem DT{o:World}{av:Nat}{g:al}{s:ai}{c:eU}{m:aD}(t:o.heap[av]? =some (.cells (jP g s c).toArray 284 (0,0)))(B:g.at o)(D:g.ok)(hm:m.ok o):Calls prog 182 #[aa av,.agg m.cs.toArray] o λr w=>r= .bool (s.kr g m.P)/\C o [] [] w:=by
 have a:Own [] o:=C.start o;refine a6 func182 (bJ 2 a j j (λe w a=>?_));have a:C o [] [bf e m] w:=a;refine bP 3 (U:=m.cs) j j (m.bU hm.tag) (bq (C.aj a)) ?_;have n:=xb (hm.st a);refine bk 0 n j (λr w⟨v,G,E,K,ad⟩=>?_);subst E;have a:=a.aO ad;have a:C o [] [bf e m] w:=a.as;have a:=a.drew;refine bx 6 j (λw=>∃ae,C o [] ([bf e m]++ae) w) ⟨_,a⟩ (ag 0 3 j (ek 14 j (λh=>?_) (λh=>?_)))
 .refine ag 3 1 j (a8 4 j a2 m.gt (ag 5 3 j (b4 8 j (λw⟨_,a⟩=>ax (a.b8 t) j) (ag 9 3 j (ek 23 j (λp=>?_) (λp=>?_))))))
  .refine ag 12 1 j (a8 13 j a2 m.aH (ag 14 3 j (b4 17 j (λw⟨_,a⟩=>ax (a.b8 t) j) (ag 18 3 j (ek 32 j (λq=>?_) (λq=>?_))))))
   .refine ag 21 3 j (b4 24 j (λw⟨_,a⟩=>ax (a.b8 t) j) (ag 25 1 j (a8 26 j a2 m.aH (bl 27 j (λw⟨_,a⟩=>dd (U:=m.cs) j j (m.bU hm.tag) (bq (C.aj a))) (ag 29 1 j (bl 30 j (λw⟨_,a⟩=>dd (U:=aP m.tag) j j (by rw [dx];exact hm.tag) (m.vj (C.aj a))) (aX 28 j ?_)))))));have b:iN m=true:=(rF _).symm.trans h;have L:=m.yf b;have n:=lW (hm.st a) (by omega) (by omega);refine cS j j j n (λr w⟨bn,z,u⟩=>?_);have a:=a.aO u;have a:C o [] [bf e m,bn] w:=a.as
    have A:m.body.length<=1000000:=by
     have I:=lb m.l hm.aI;have J:=jn m.x (by omega);have y:=gb [4,m.k,m.f,m.s,m.v];simp only [ex,fW] at y;unfold aD.body;simp only [cj];omega
    obtain⟨H,gV,rfl,_,_,F,_⟩:=z.read (a.holds (by simp));refine ao ⟨⟨_,a⟩,?_⟩;refine aX 31 j ?_;have n:=rn (B.st a (al.off.nil g)) D F A hm.tag (i:=m.f) (d:=gV);refine bK j j j n (λw u=>?_);have a:=a.aO u;have a:C o [] [bf e m,bn] w:=a.as;refine ao ⟨⟨_,a⟩,?_⟩;refine ag 32 2 j (bL (an 0 j j (⟨aK Value.bool ?_,a.bare⟩)));unfold ai.kr;rw [show m.P.may=true from b,show(m.P.s==s.slot)=true from p,show(m.P.f !=s.aw)=true from q];rfl
   refine ga 13 [21,22,23,24,25,26,27,29,30,28,31,32,33] j (bL (an 0 j j (⟨aK Value.bool ?_,a.bare⟩)));have b:m.P.may=true:=(rF _).symm.trans h;unfold ai.kr;rw [b,show(m.P.s==s.slot)=true from p,show(m.P.f !=s.aw)=false from q];rfl
  refine ga 22 [12,13,14,15,16,17,18,19,20,21,22,23,24,25,26,27,29,30,28,31,32,33] j (bL (an 0 j j (⟨aK Value.bool ?_,a.bare⟩)));have b:m.P.may=true:=(rF _).symm.trans h;unfold ai.kr;rw [b,show(m.P.s==s.slot)=false from p];rfl
 refine ga 31 [3,4,5,6,7,8,9,10,11,12,13,14,15,16,17,18,19,20,21,22,23,24,25,26,27,29,30,28,31,32,33] j (bL (an 0 j j (⟨aK Value.bool ?_,a.bare⟩)));have b:m.P.may=false:=(rF _).symm.trans h;unfold ai.kr;rw [b];rfl
def fV(c3:Option Addr)(l:List aN)(F:List Nat)(w:World):Prop:=
 (c3=none/\l=[])\/∃b A d,c3=some ⟨b,0,none⟩/\w.heap[b]? =some (.cells #[.slice A l.length d] 383 (0,0))/\l.length<=d/\d<=maxLen/\Rd w A (vcs l)/\b∉F/\cc A (vcs l) F
theorem fV.st{c3:Option Addr}{l:List aN}{F eJ:List Nat}{ae:List (List Chunk)}{w aJ:World}(h:fV c3 l F w)(g:C w eJ ae aJ)(f:∀b∈eJ,b∈F):fV c3 l F aJ:=by
 rcases h with h|⟨b,A,d,rfl,a,i,k,m,c,e⟩
 .exact .inl h
 .exact .inr ⟨b,A,d,j,by rw [g.fT b (gq.1 a).1 (λn=>c (f _ n))];exact a,i,k,g.rd m (e.sub f),c,e⟩
theorem fV.grow{c3:Option Addr}{l:List aN}{F eJ:List Nat}{w:World}(h:fV c3 l F w)(g:∀b∈eJ,b∈F\/w.heap.size<=b):fV c3 l eJ w:=by
 rcases h with h|⟨b,A,d,rfl,e,m,n,f,o,p⟩
 .exact .inl h
 .refine .inr ⟨b,A,d,j,e,m,n,f,λc=>(g _ c).elim o (λq=>?_),λk a i c=>(g _ c).elim (p k a i) (λq=>?_)⟩
  .have:=(gq.1 e).1;omega
  .have:=f.lt k i;omega
theorem fV.here{c3:Option Addr}{l:List aN}{ae:List (List Chunk)}{o w:World}(h:fV c3 l [] o)(a:C o [] ae w):fV c3 l (au ae) w:=
 (h.grow (λb c=>(a.own b c).elim (λh=>.inl h) .inr)).st a (by simp)
theorem fV.range{c3:Option Addr}{l:List aN}{H ae:List (List Chunk)}{L:List Chunk}{w aJ:World}(h:fV c3 l (au (H++ae)) w)(c:C w [] [L] aJ):fV c3 l (au (H++(ae++[L]))) aJ:=by
 have d:fV c3 l (au (H++(ae++[L]))) w:=h.grow (λb a=>by
  rw [<-dS] at a;rcases mO.1 a with a|a
  ·exact .inl a
  ·have:=c.own b a;exact .inr (by simpa using this))
 exact d.st c (by simp)
theorem hZ.read{w:World}{v:Value}{l:List aN}{G:List Chunk}(h:hZ v l G)(a:Holds w G):∃c3,v= .pointer c3/\fV c3 l [] w:=by
 obtain⟨b,u,ak,rfl,g,rfl⟩:=h;obtain⟨A,d,rfl,c,e,f,_⟩:=g.read a.tail;exact⟨_,j,.inr ⟨b,A,d,j,a.head,c,e,f,by simp,cc.of_nil _ _⟩⟩
theorem yF{l:List aN}{sum:List UInt8}{i:Nat}(h:i<l.length)(a:(l[i].sum==sum)=true):fg (l.take (i+1)) sum=fg (l.take i) sum++[l[i]]:=by
 unfold fg;rw [fK h,mE];simp [a]
theorem Fj{l:List aN}{sum:List UInt8}{i:Nat}(h:i<l.length)(a:(l[i].sum==sum)=false):fg (l.take (i+1)) sum=fg (l.take i) sum:=by
 unfold fg;rw [fK h,mE];simp [a]
theorem Fk{l:List aN}{sum:List UInt8}{i:Nat}(h:i<l.length)(b:(l[i].sum==sum)=true):∃r,fg l sum=fg (l.take i) sum++l[i]::r:=by
 refine⟨fg (l.drop (i+1)) sum,?_⟩
 have a:fg l sum=fg (l.take (i+1)) sum++fg (l.drop (i+1)) sum:=by
  unfold fg;rw [<-mE,List.take_append_drop]
 rw [a,yF h b,dS];rfl
abbrev pZ(l:List aN)(sum:List UInt8)(pre:List aN)(x:aN):Prop:=∃r,fg l sum=pre++x::r
theorem pZ.mem{l:List aN}{sum:List UInt8}{pre:List aN}{x:aN}(h:pZ l sum pre x):x∈l:=by
 obtain⟨r,h⟩:=h;have:x∈fg l sum:=by rw [h];simp
 exact(kI.1 this).1
theorem pZ.len{l:List aN}{sum:List UInt8}{pre:List aN}{x:aN}(h:pZ l sum pre x):pre.length<(fg l sum).length:=by
 obtain⟨r,h⟩:=h;rw [h];simp
theorem yJ{o:World}{c3:Option Addr}{sum:List UInt8}:Calls prog 290 #[.pointer c3,.agg (aP sum).toArray] o λr w=>∃aS b,r= .func (.func 314) #[] #[aa aS,aa b]/\C o [] [J aS #[.pointer c3] 281,J b (aP sum).toArray 80] w:=by
 have a:Own [] o:=C.start o;refine a6 func290 (bJ 2 a j j (λaS w a=>bJ 0 a j j (λb w a=>aq 3 j (gI j j j j ?_))));exact an 1 j j ⟨aS,b,j,a.f1⟩
theorem yI{aS f:Nat}{c3:Option Addr}{l:List aN}{sum:List UInt8}(u:∀x∈l,x.ok)(E:sum.length=32):Iter prog 314 #[aa aS,aa f] [J aS #[.pointer c3] 281,J f (aP sum).toArray 80] (λae w=>fV c3 l (au ([J aS #[.pointer c3] 281,J f (aP sum).toArray 80]++ae)) w) (λ_=>True) (λv:aN=> #[.agg v.cs.toArray]) (pZ l sum) (λxs=>xs=fg l sum):=by
 intro y T ac ae o a c s _ K Y P;show Calls _ _ #[fC y,aa aS,aa f] o _;obtain⟨n,z⟩:∃n,n=au ([J aS #[.pointer c3] 281,J f (aP sum).toArray 80]++ae):=⟨_,j⟩;rw [<-z] at s⊢;have a:C o n (J aS #[.pointer c3] 281::J f (aP sum).toArray 80::ae) o:=z▸a;refine a6 func314 (ar 3 j (ax (C.aj a) j) (bo 1 j j (λdu=>?_) (λdu=>?_)))
 .refine an 0 j j ?_
  obtain⟨rfl,rfl⟩:c3=none/\l=[]:=by
   rcases s with h|⟨b,A,d,rfl,_⟩
   .exact h
   .cases du
  exact⟨ae,a,.inl ⟨[],j,c⟩⟩
 obtain⟨b,A,d,rfl,q,Z,B,N,W,I⟩:=s.resolve_left (λh=>by rw [h.1] at du;cases du);refine ar 3 j (ax (C.aj a) j) (ar 2 j (ax q j) ?_)
 refine dj 3 j (cU:=Nat×List (List Chunk)) (λi=>[(0,fC y),(1,aa aS),(2,aa f),(11,.slice A l.length d),(12,.int .i64 (l.length:Nat)),(13,.int .i64 (i.1:Nat))])
  (λi w=>i.1<=l.length/\T (fg (l.take i.1) sum) i.2 w/\C o n (J aS #[aa b] 281::J f (aP sum).toArray 80::i.2) w) (λi=>l.length-i.1) (0,ae) ⟨j,j,j,j,j,j,bb⟩ ⟨cp _,c,a⟩ ?_
 rintro⟨i,af⟩ w ⟨L,c,a⟩;dsimp only at L c a⊢;refine cy 4 j j (λF=>?_) (λF=>?_)
 .have e:i<l.length:=by omega
  have g:=u l[i] (eB e);have D:=a.rd N I;refine aq 5 j (fJ j j j j D (v:=ab l[i].k) (oF l u i e) e (λV G X=>?_));subst G;refine bP 0 j j (l[i].len g) (oG D u i e) (cx 0 (C.start _) j (λbv w m=>cv 0 m j j j l[i].one (l[i].len g) (λw m=>?_)));have m:=C.whole (U:=l[i].cs) m (by rw [l[i].len g];rfl);have c:=K _ _ _ _ [] c m.bare (by simp);have a:=a.aO m;refine bP 3 (U:=aP l[i].sum) j j (by rw [dx];exact g.1) (a.i9 (off:=0+3) (U:=aP l[i].sum) (l[i].pB g)) (bP 0 (U:=aP sum) j j (by rw [dx];exact E) (bq (C.aj a)) (vU j j j j (by kernel_rfl) (λw=>rE _ _ g.1 E 9998 w) (aq 1 j (c9 21 j (λp=>?_) (λp=>?_)))))
  .refine bP 1 (U:=l[i].cs) j j (l[i].len g) a.bQ ?_;obtain⟨S,O⟩:=Fk e p;have Q:=P (fg (l.take i) sum) l[i] af _ ⟨S,O⟩ c (C.i8 (H:=[_,_,_]) a);refine jD j j j j Q (λb w⟨aB,R,q⟩=>?_);have a:=C.iZ (H:=[_,_,_]) a R;refine bo 2 j j (λr=>?_) (λr=>?_)
   .refine an 0 j j ?_;have t:b=false:=by cases b<;>first|rfl|exact absurd r (by decide)
    subst t;exact⟨aB,a.drop,.inr (by simpa using q)⟩
   refine bE 2 j j j (dn i (by have:=B;unfold maxLen at this;omega)) (bW 1 j ?_);have t:b=true:=by cases b<;>first|rfl|exact absurd r (by decide)
   subst t;refine⟨(i+1,aB),⟨j,j,j,j,j,j,bb⟩,⟨e,?_,a.drop⟩,by dsimp only;omega⟩;dsimp only;rw [yF e p];simpa using q
  refine bE 8 j j j (dn i (by have:=B;unfold maxLen at this;omega)) (bW 1 j (⟨(i+1,af),⟨j,j,j,j,j,j,bb⟩,⟨e,?_,a.drop⟩,by dsimp only;omega⟩));dsimp only;rw [Fj e p];exact c
 refine an 1 j j ?_;have M:i=l.length:=by omega
 subst M;rw [gm] at c;exact⟨af,a,.inl ⟨_,j,c⟩⟩
theorem Bs{l:List aN}{f:Int}(h:∀x∈l,x.f≠f):(l.any λv=>v.f==f)=false:=by
 rw [<-Bool.not_eq_true,j2];rintro⟨x,a,he⟩;exact h x a (ea.1 he)
theorem xF(l:List aN)(sum:List UInt8)(f:Int):l1 l sum f=(fg l sum).any λv=>v.f==f:=by
 unfold l1 fg;rw [List.any_filter]
theorem DB{o:World}{c3:Option Addr}{l:List aN}{sum:List UInt8}{f:Int}(B:fV c3 l [] o)(u:∀x∈l,x.ok)(t:sum.length=32):Calls prog 263 #[.pointer c3,.agg (aP sum).toArray,ab f] o λr w=>r= .bool (l1 l sum f)/\C o [] [] w:=by
 have a:Own [] o:=C.start o;refine jH func263 (bJ 2 a j j (λc w a=>bJ 0 a j j (λd w a=>cx 0 a j (λb w a=>?_))));have a:C o [] [J b #[.bool false] 4,J d #[ab f] 3,J c (aP sum).toArray 80] w:=a;refine bP 4 (U:=aP sum) j j (by rw [dx];exact t) (bq (C.aj a)) ?_;have I:=yJ (o:=w) (c3:=c3) (sum:=sum);refine bk 0 I j (λr w⟨aS,n,M,ad⟩=>?_);subst M;have a:=a.aO ad;have a:C o [] [J aS #[.pointer c3] 281,J n (aP sum).toArray 80,J c (aP sum).toArray 80,J d #[ab f] 3,J b #[.bool false] 4] w:=a.as;have a:C o [] ([J aS #[.pointer c3] 281,J n (aP sum).toArray 80]++[J c (aP sum).toArray 80,J d #[ab f] 3,J b #[.bool false] 4]) w:=a;have D:=B.here a
 refine jM 1 j (yI u t) j (by have:=a.size;simpa using this) a j (λ_=>rfl) (by intro p s;simp at s;subst s;rfl)
  (λpre ae=>ae=[J c (aP sum).toArray 80,J d #[ab f] 3,J b #[.bool false] 4]/\∀x∈pre,x.f≠f) (λe ae=>match e with| .ret=>ae=[J c (aP sum).toArray 80,J d #[ab f] 3,J b #[.bool true] 4]/\∃x∈fg l sum,x.f=f|_=>False) ⟨j,by simp⟩ (λL aJ E=>D.range E) (λ_ _ _ _=>trivial) ?_ ?_ ?_ (λ_ _ _ h=>h.elim)
 .rintro y pre x Q L S q ⟨rfl,K⟩ a;have m:=u x q.mem;have a:=C.gg a;refine cx 1 a j (λA w a=>cv 0 (a.bc A) j j j (by simpa using(x).one) (by rw [List.size_toArray];exact(x).len m) (λw a=>?_));have a:=C.whole (U:=(x).cs) a (by rw [(x).len m];rfl);refine bH 0 j (⟨j,_,a,λL w a=>?_⟩);have a:=C.gg a;refine ar 4 j (ax (C.aj a) (x.eN m)) (ar 0 j (ax (C.aj a) j) (cy 1 j j (λi=>?_) (λi=>?_)))
  .refine dE 2 (a.bc b) j j j j (λw a=>?_);have a:C _ _ (J b #[.bool true] 4::_) w:=a;refine bH 0 j (⟨[J c (aP sum).toArray 80,J d #[ab f] 3,J b #[.bool true] 4],a.as,j,x,?_,i⟩);obtain⟨R,N⟩:=q;rw [N];simp
  refine bH 1 j (⟨[J c (aP sum).toArray 80,J d #[ab f] 3,J b #[.bool false] 4],a.as,j,λz g=>?_⟩);rcases fL.1 g with g|g
  .exact K z g
  rw [hO.1 g];exact i
 .rintro xs v w F ⟨rfl,H⟩ a;refine dE 2 (a.bc b) j j j j (λw a=>?_);have a:C _ _ (J b #[.bool false] 4::_) w:=a;refine bH 0 j ⟨.bool false,λw k=>?_⟩;have a:=k.st a (cF _);refine⟨sn results263 j j (ax (C.aj a) j),?_⟩;refine⟨aK Value.bool ?_,a.bare⟩;rw [xF,<-F];exact(Bs H).symm
 rintro v w G a;obtain⟨rfl,x,O,P⟩:=G;refine⟨.bool true,λw k=>?_⟩;have a:=k.st a (cF _);refine⟨sn results263 j j (ax (C.aj a) j),?_⟩;refine⟨aK Value.bool ?_,a.bare⟩;rw [xF];exact(j2.2 ⟨x,O,by simp [P]⟩).symm
theorem fV.now{c3:Option Addr}{l:List aN}{F:List Nat}{ae:List (List Chunk)}{o w:World}(h:fV c3 l F o)(c:C o F ae w):fV c3 l (au ae) w:=by
 have d:fV c3 l (F++au ae) o:=h.grow (λb a=>(fL.1 a).elim .inl (λa=>(c.own b a)));have e:=d.st c (λb a=>fL.2 (.inl a));exact e.grow (λb a=>.inl (fL.2 (.inr a)))
theorem sH(l:List aN)(x:aN):vcs (l++[x])=vcs l++x.cs:=by simp
theorem By{o:World}{aS c:Nat}{c3:Option Addr}{l:List aN}{sum:List UInt8}(m:fV c3 l (au [J aS #[.pointer c3] 281,J c (aP sum).toArray 80]) o)(t:∀x∈l,x.ok)(H:sum.length=32)(M:l.length<=1000000)(b:Own [J aS #[.pointer c3] 281,J c (aP sum).toArray 80] o):Calls prog 332 #[.slice none 0 0,.func (.func 314) #[] #[aa aS,aa c]] o λr w=>∃ak,en r (fg l sum) ak/\C o (au [J aS #[.pointer c3] 281,J c (aP sum).toArray 80]) ([J aS #[.pointer c3] 281,J c (aP sum).toArray 80]++[ak]) w:=by
 obtain⟨e,n⟩:∃e,e=au [J aS #[.pointer c3] 281,J c (aP sum).toArray 80]:=⟨_,j⟩;rw [<-n] at m⊢;have b:C o e [J aS #[.pointer c3] 281,J c (aP sum).toArray 80] o:=n▸b;refine jH func332 (bJ 2 b j j (λd w b=>?_));have b:C o e (J d #[.slice none 0 0] 99::J aS #[.pointer c3] 281::J c (aP sum).toArray 80::[]) w:=b;have b:C o e ([J aS #[.pointer c3] 281,J c (aP sum).toArray 80]++[J d #[.slice none 0 0] 99,[]]) w:=(b.empty.f1).swap (A:=[_,_]);have B:=m.now b
 refine jM 6 j (yI t H) j (by have:=b.size;simpa using this) b j (λ_=>rfl) (by intro p s;simp at s;subst s;rfl)
  (λpre ae=>∃v ak,ae=[J d #[v] 99,ak]/\en v pre ak) (λ_ _=>False) ⟨_,_,j,Row.nil 115 68⟩ (λL aJ D=>B.range D) (λ_ _ _ _=>trivial) ?_ ?_ (λ_ _ h=>h.elim) (λ_ _ _ h=>h.elim)
 .rintro y pre x I L N k ⟨v,ak,rfl,g⟩ b;have f:=t x k.mem;have hlen:pre.length<l.length:=tp k.len (nV _ _);have b:=C.gg b;refine cx 1 b j (λz w b=>cv 0 (b.bc z) j j j (by simpa using(x).one) (by rw [List.size_toArray];exact(x).len f) (λw b=>?_));have b:=C.whole (U:=(x).cs) b (by rw [(x).len f];rfl);refine bH 0 j (⟨j,_,b,λL w b=>?_⟩);have b:=C.gg b;refine ar 2 j (ax (C.aj b) j) (bP 0 (U:=x.cs) j j (x.len f) (bq (C.aj b)) (gj (U:=x.cs) b j j j (x.len f) (by decide) (by decide) (λu w b=>?_)));have aT:Rd w (some ⟨u,0,none⟩) x.cs:=b.bQ;refine e6 (b.to ak) g j j (by decide) j j j (news:=x.cs) (x.len f) aT (List.all_eq_true.1 x.one) (by omega) (by unfold maxLen;omega) (λv1 i w q b=>dE 0 (b.bc d) j j j q.one (λw b=>?_));have b:C _ _ (J d #[v1] 99::_) w:=b;refine bH 0 j (⟨_,b.as (cM:=[J d #[v1] 99,i]),v1,i,j,?_⟩);unfold en;rw [cj,List.length_singleton,sH];exact q
 rintro xs K w E ⟨v,ak,rfl,g⟩ b;refine ar 2 j (ax (C.aj b) j) (bH 1 j ⟨v,λw G=>?_⟩);have b:=G.st b (cF _);refine⟨λa F=>iP (fn:=f332) F j _ _,?_⟩;rw [E] at g;exact⟨ak,g,C.perm (A:=[J aS #[.pointer c3] 281,J c (aP sum).toArray 80,ak]) b.as (by simp)⟩
theorem Cr{o:World}{aS a:Nat}{c3:Option Addr}{l:List aN}{sum:List UInt8}(b:fV c3 l (au [J aS #[.pointer c3] 281,J a (aP sum).toArray 80]) o)(h:∀x∈l,x.ok)(g:sum.length=32)(e:l.length<=1000000)(c:Own [J aS #[.pointer c3] 281,J a (aP sum).toArray 80] o):Calls prog 318 #[.func (.func 314) #[] #[aa aS,aa a]] o λr w=>∃ak,en r (fg l sum) ak/\C o (au [J aS #[.pointer c3] 281,J a (aP sum).toArray 80]) ([J aS #[.pointer c3] 281,J a (aP sum).toArray 80]++[ak]) w:=by
 refine a6 func318 ?_;have d:=By b h g e c;exact bk 6 d j (λr w f=>an 1 j j f)
theorem Df{a b:Int}(c:0<=a/\a<=1000)(d:0<=b/\b<=1000):evalBin .sub .i64 a b=some (.int .i64 (a-b)):=by
 show some (Value.int .i64 (IntKind.i64.wrap (a-b)))=_;rw [j3];exact aK (λz=>some (Value.int .i64 z)) (by omega)
section
variable {P:Program} {n:Fr} {Z:Env} {w:World} {Q:d7} {ops:Array Oper} {rest:List Oper} {dst:Option Nat} {ty:TypeId} {pos:String} {after:Array Edge} {g:Option (Nat×Bool)}
theorem hy{t e:TypeId}{x y:Operand}{b I l c R:Nat}{k:IntKind}{z:Value}{size bytes:Nat}[hu:bC P t (.slice e)][m:cq P e z size bytes](f:c0 ops Z g=some true)(d:da n dst=true)
 (i:bt Z x=some (.slice (some ⟨b,I,none⟩) l c)) (j:bt Z y=some (.int k R)) (a:R<l)
 (h:O P n ops rest (cK Z dst (.pointer (some ⟨b,I+R*size,none⟩))) w Q):O P n ops (⟨dst,.indexAddr t x y,ty,pos,after,g⟩::rest) Z w Q:=dR f d (g4 i j a) h
end
theorem flat_lit{α:Type}{f:α->List Value}{n:Nat}{w:World}{b:Nat}{l:List α}(c:Rd w (some ⟨b,0,none⟩) (l.flatMap f))(h:∀x∈l,(f x).length=n)(i:Nat)(a:i<l.length):Rd w (some ⟨b,0+i*n,none⟩) (f l[i]):=by
 have:=j6 c h i a;rw [add_lit] at this;exact this
theorem xt{α:Type}{f:α->List Value}{n:Nat}:∀(l:List α),(∀x∈l,(f x).length=n)->∀(i:Nat)(y:α),i<l.length->(f y).length=n->∀R,((l.set i y).flatMap f)[R]? =if i*n<=R/\R<i*n+n then(f y)[R-i*n]? else(l.flatMap f)[R]?
 |[],_,i,_,a,_,_=>by simp at a
 |x::r,h,0,y,_,c,R=>by
  have b:=h x (by simp);simp only [qW,jj,nP,fe,cp,true_and,Nat.sub_zero];split
  .rw [jG (by omega)]
  .rw [ko (by omega),ko (by omega),c,b]
 |x::r,h,i+1,y,a,c,R=>by
  have b:=h x (by simp);have j:=xt r (λz g=>h z (by simp [g])) i y (by simpa using a) c (R-n);simp only [List.set_cons_succ,jj];have e:(i+1)*n=i*n+n:=by rw [mG];omega
  rw [e];by_cases k:R<n
  .rw [jG (by omega),jG (by omega),az (by omega)]
  .rw [ko (by omega),ko (by omega),b,j];by_cases d:i*n<=R-n/\R-n<i*n+n
   .rw [aR d,aR (by omega),show R-n-i*n=R-(i*n+n) by omega]
   .rw [az d,az (by omega)]
theorem Row.zv{α:Type}{f:α->List Value}{e:TypeId}{size g cap:Nat}{l:List α}{cur:Array Value}{n:Nat}(aT:l.length=n)(h:Row e size (.slice (some ⟨g,0,none⟩) n cap) n (l.flatMap f) [(g,.cells cur e (0,0))])(o:∀x∈l,(f x).length=size)(R:Nat)(p:R<l.length)(y:α)(c:(f y).length=size):
 Row e size (.slice (some ⟨g,0,none⟩) n cap) n ((l.set R y).flatMap f) [(g,.cells (setCells cur (R*size) (f y)) e (0,0))]:=by
 subst aT;obtain⟨A,q⟩:=h;have t:∀x∈l.set R y,(f x).length=size:=λx u=>(pd u).elim (o x) (λe=>by rw [e];exact c)
 refine⟨by rw [rK _ t,gJ],?_⟩;rcases q with⟨b,_,_⟩|⟨z,v,w,b,s,d,r,k,m⟩
 .cases b
 .cases b;cases s
  have B:R*size+size<=l.length*size:=by
   have:=j1 size (show R+1<=l.length from p);rw [mG,Nat.one_mul] at this;exact this
  have C:l.length*size<=cur.size:=ej (j1 _ d) k;refine .inr ⟨g,cap,_,j,j,d,r,by rw [sq];exact k,?_⟩;apply nN;intro i;rw [xt l o R y p c i,kJ,o2,ov _ _ _ (by omega),c];by_cases a:i<l.length*size
  .rw [aR a];split
   .rfl
   .rw [<-m,kJ,aR a,o2]
  .rw [az a,az (by omega),<-m,kJ,az a]
def mB(l:List aN)(i R:Nat):Prop:=∀(a b:Nat)(c:a<l.length)(d:b<l.length),a<b->b<=i->b≠R->l[a].f<=l[b].f
theorem mB.swap{l:List aN}{i R:Nat}(h:mB l i R)(s:0<R)(t:R<=i)(r:R<l.length)(u:l[R].f<l[R-1].f):mB ((l.set R l[R-1]).set (R-1) l[R]) i (R-1):=by
 intro a b g d p k q;simp only [gJ] at g d;simp only [List.getElem_set];have o:R-1<l.length:=by omega
 by_cases m:R-1=a
 .subst m;rw [aR j];by_cases c:R=b
  .subst c;rw [az (by omega),aR j];omega
  .rw [az (by omega),az c];exact h R b r d (by omega) k (by omega)
 .rw [az m,az (show¬R-1=b from λe=>q e.symm)];by_cases c:R=b
  .subst c;rw [az (show¬R=a by omega),aR j];exact h a (R-1) g o (by omega) (by omega) (by omega)
  .rw [az c];by_cases n:R=a
   .subst n;rw [aR j];exact h (R-1) b o d (by omega) k (λe=>c e.symm)
   .rw [az n];exact h a b g d p k (λe=>c e.symm)
theorem mB.put{l:List aN}{i R:Nat}(h:mB l i R)(p:R<=i)(o:R<l.length)(hle:R=0\/l[R-1].f<=l[R].f):mB l (i+1) (i+1):=by
 intro a b c j g m n;by_cases e:b=R
 .subst e;rcases hle with k|hle
  .omega
  .by_cases d:a=b-1
   .subst d;exact hle
   .exact Int.le_trans (h a (b-1) c (by omega) (by omega) (by omega) (by omega)) hle
 .exact h a b c j g (by omega) e
theorem B6{l m:List aN}(n:m.Perm l)(aF:∀(a b:Nat)(d:a<m.length)(e:b<m.length),a<b->m[a].f<=m[b].f)(aT:(l.map aN.f).Nodup):m=iG l:=by
 have le:∀a b:aN,decide (a.f<=b.f)=true↔a.f<=b.f:=λa b=>decide_eq_true_iff
 have i:m.Pairwise λa b=>a.f<=b.f:=nM.2 λa b d e g=>aF a b d e g
 have j:=te (le:=λx y:aN=>decide (x.f<=y.f)) (by intro a b c;simp only [le];omega) (by intro a b;simp only [n1,le];omega) l
 have hu:∀a∈l,∀b∈l,a.f=b.f->a=b:=by
  clear n aF i j;induction l with
  |nil=>intro a d;simp at d
  |cons x r t=>
   have k:=lT.1 (by simpa using aT:(x.f::r.map aN.f).Nodup);intro a d b e g;rcases hD.1 d with o|q<;>rcases hD.1 e with p|s
   .rw [o,p]
   .exact absurd (ee.2 ⟨b,s,by rw [<-g,o]⟩) k.1
   .exact absurd (ee.2 ⟨a,q,by rw [g,p]⟩) k.1
   .exact t k.2 a q b s g
 refine List.Perm.eq_of_pairwise (le:=λa b:aN=>a.f<=b.f) (λa b d e i j=>hu a (n.mem_iff.1 d) b (wN.1 e) (by omega)) i (j.imp λh=>(le _ _).1 h) (n.trans (o6 l _).symm)
theorem Cp{o:World}{x y:aN}(c:x.ok)(e:y.ok)(d:0<=x.f/\x.f<=1000)(g:0<=y.f/\y.f<=1000):Calls prog 294 #[.agg x.cs.toArray,.agg y.cs.toArray] o λr w=>r= .int .i64 (x.f-y.f)/\C o [] [] w:=by
 have a:Own [] o:=C.start o;refine a6 func294 (bJ 2 a j j (λaS w a=>bJ 0 a j j (λb w a=>?_)));have a:C o [] [J b y.cs.toArray 115,J aS x.cs.toArray 115] w:=a;exact ar 4 j (ax (C.aj a) (x.eN c)) (ar 1 j (ax (C.aj a) (y.eN e)) (bE 0 j j j (Df d g) (an 1 j j ⟨j,a.bare⟩)))
theorem DR{o:World}{v:Value}{d:List aN}{ak:List Chunk}(q:en v d ak)(av:∀x∈d,x.ok)(ai:∀x∈d,0<=x.f/\x.f<=1000)(aA:d.length<=1000000)(c:Own [ak] o):Calls prog 336 #[v,.int .i64 (0:Nat),.int .i64 d.length,.func (.func 294) #[] #[]] o λr w=>r= .tuple #[]/\∃l N,l.Perm d/\(∀(a b:Nat)(A:a<l.length)(t:b<l.length),a<b->l[a].f<=l[b].f)/\en v l N/\C o (au [ak]) [N] w:=by
 obtain⟨z,P⟩:∃z,z=au [ak]:=⟨_,j⟩;rw [<-P];have c:C o z [ak] o:=P▸c;refine a6 func336 (bE 3 j j j (gX 0 1 (by omega)) ?_)
 refine dj 2 j (cU:=Nat×List aN×List Chunk) (λi=>[(0,v),(2,.int .i64 (d.length:Nat)),(1,.int .i64 (0:Nat)),(3,.func (.func 294) #[] #[]),(8,.int .i64 (i.1:Nat))])
  (λi w=>1<=i.1/\(i.1<=d.length\/i.1=1)/\i.2.1.Perm d/\mB i.2.1 (i.1-1) i.1/\en v i.2.1 i.2.2/\C o z [i.2.2] w) (λi=>d.length-i.1) (1,d,ak) ⟨j,j,j,j,j,bb⟩ ⟨cF _,.inr j,nQ _,by intro a b _ _ B t _;omega,q,c⟩ ?_
 rintro⟨i,l,ak⟩ w ⟨aa,aj,F,aF,q,c⟩;dsimp only at aa aj F aF q c⊢;refine cy 6 j j (λW=>?_) (λW=>?_)
 .have az:i<d.length:=by omega
  have hlen:=F.length_eq;obtain⟨p,cap,O,V,rfl,_,_,_,_⟩:=q.2.resolve_left (λh=>by have:=h.2.1;omega);rw [hlen] at V;subst V;have q:Row 115 68 (.slice (some ⟨p,0,none⟩) d.length cap) d.length (vcs l) (J p O 115):=hlen▸q
  refine dj 8 j (cU:=Nat×List aN×Array Value) (λk=>[(0,.slice (some ⟨p,0,none⟩) d.length cap),(2,.int .i64 (d.length:Nat)),(1,.int .i64 (0:Nat)),(3,.func (.func 294) #[] #[]),(8,.int .i64 (i:Nat)),(9,.int .i64 (k.1:Nat))])
   (λk w=>k.1<=i/\k.2.1.Perm d/\mB k.2.1 i k.1/\Row 115 68 (.slice (some ⟨p,0,none⟩) d.length cap) d.length (vcs k.2.1) (J p k.2.2 115)/\C o z [J p k.2.2 115] w) (λk=>k.1) (i,l,O) ⟨j,j,j,j,j,j,bb⟩ ⟨cF _,F,by intro a b A t B Q K;exact aF a b A t B (by omega) K,q,c⟩ ?_
  rintro⟨R,m,cur⟩ w ⟨G,D,H,g,c⟩;dsimp only at G D H g c⊢;have L:=D.length_eq;have n:R<m.length:=by omega
  have M:∀x∈m,x.ok:=λx u=>av x (D.mem_iff.1 u)
  have S:∀x∈m,0<=x.f/\x.f<=1000:=λx u=>ai x (D.mem_iff.1 u)
  have E:=M m[R] (eB n);have s:∀x∈m,x.cs.length=68:=λx u=>x.len (M x u)
  have y:=M m[R-1] (eB (by omega));have c:=c.drew;refine bx 2 j (λw=>∃ae,C o z (J p cur 115::ae) w) ⟨_,c⟩ (ag 0 4 j (ek 21 j (λI=>?_) (λI=>?_)));have al:0<R:=by have:=dV I;omega
  refine ag 4 3 j (bl 7 j (λw⟨_,c⟩=>g4 j j (show R<d.length by omega)) (bl 8 j (λw⟨_,c⟩=>dd (U:=m[R].cs) j j (m[R].len E) (flat_lit (by obtain⟨_,_,e,_,_,h,_⟩:=g.rd c;cases e;exact h) s R n)) ?_));refine ag 9 2 j (bl 11 j (λw⟨_,c⟩=>fr j j (iH R 1 (by omega) (by omega))) (bl 12 j (λw⟨_,c⟩=>g4 j j (show R-1<d.length by omega)) (bl 13 j (λw⟨_,c⟩=>dd (U:=m[R-1].cs) j j (m[R-1].len y) (flat_lit (by obtain⟨_,_,e,_,_,h,_⟩:=g.rd c;cases e;exact h) s (R-1) (by omega))) (aX 14 j (hx j j j j (Cp E y (S _ (eB n)) (S _ (eB (by omega)))) (λr w⟨ar,ad⟩=>?_))))));subst ar;have c:=c.aO ad;refine ao ⟨⟨_,c⟩,?_⟩;refine ag 15 2 j (bL (cy 0 j j (λX=>?_) (λX=>?_)))
  .have c:=c.drew;refine bx 3 j (λw=>True) bb (ag 0 4 j (bl 4 j (λw _=>fr j j (iH R 1 (by omega) (by omega))) (ag 5 2 j (bl 7 j (λw _=>fr j j (iH R 1 (by omega) (by omega))) (bl 8 j (λw _=>g4 j j (show R-1<d.length by omega)) (ag 10 2 j (bl 12 j (λw _=>g4 j j (show R<d.length by omega)) (aS 9 13 j j ?_ ?_))))))));refine lM (U:=m[R-1].cs) j j j j (m[R-1].len y) (flat_lit (by obtain⟨_,_,e,_,_,h,_⟩:=g.rd c;cases e;exact h) s (R-1) (by omega)) (ao ⟨bb,?_⟩);refine aX 13 j (lM (U:=m[R].cs) j j j j (m[R].len E) (flat_lit (by obtain⟨_,_,e,_,_,h,_⟩:=g.rd c;cases e;exact h) s R n) ?_);rotate_left
   refine lM (U:=m[R].cs) j j j j (m[R].len E) (flat_lit (by obtain⟨_,_,e,_,_,h,_⟩:=g.rd c;cases e;exact h) s R n) (ao ⟨bb,?_⟩);refine aX 9 j (lM (U:=m[R-1].cs) j j j j (m[R-1].len y) (flat_lit (by obtain⟨_,_,e,_,_,h,_⟩:=g.rd c;cases e;exact h) s (R-1) (by omega)) ?_);rotate_left
   all_goals
    refine ao ⟨bb,?_⟩;refine bl 14 j (λw _=>g4 j j (show R<d.length by omega)) (aX 15 j ?_)
    have ah:0+R*68+68<=cur.size:=by
     obtain⟨_,aq⟩:=g;obtain⟨_,_,_,Y,Z,aw,_,ax,_⟩:=aq.resolve_left (λh=>by have:=h.2.1;omega);cases Y;cases Z;have:=j1 68 (show R+1<=cap by omega);omega
    refine c6 c j j j (by simpa using m[R-1].one) (by rw [List.size_toArray];exact m[R-1].len y) ah (λw c=>?_);have ab:=g.zv L s R n m[R-1] (m[R-1].len y);have c:=C.f9 c (show setCells cur (0+R*68) m[R-1].cs=setCells cur (R*68) m[R-1].cs by rw [fe]);refine ao ⟨bb,?_⟩;refine bl 16 j (λw _=>g4 j j (show R-1<d.length by omega)) (aX 17 j (c6 c j j j (by simpa using m[R].one) (by rw [List.size_toArray];exact m[R].len E) (by rw [sq];omega) (λw c=>?_)));have af:∀x∈m.set R m[R-1],x.cs.length=68:=λx u=>(pd u).elim (s x) (λe=>by rw [e];exact m[R-1].len y)
    have ac:=ab.zv (by rw [gJ];exact L) af (R-1) (by rw [gJ];omega) m[R] (m[R].len E);have c:=C.f9 c (show setCells (setCells cur (R*68) m[R-1].cs) (0+(R-1)*68) m[R].cs=setCells (setCells cur (R*68) m[R-1].cs) ((R-1)*68) m[R].cs by rw [fe]);refine ao ⟨bb,?_⟩;refine bL (bE 2 j j j (iH R 1 (by omega) (by omega)) (bW 1 j ?_));have am:m[R].f<m[R-1].f:=by omega
    have ap:((m.set R m[R-1]).set (R-1) m[R]).Perm m:=List.set_set_perm n (by omega);refine⟨(R-1,(m.set R m[R-1]).set (R-1) m[R],_),⟨j,j,j,j,j,j,bb⟩,⟨by dsimp only;omega,ap.trans D,H.swap al G n am,ac,c⟩,by dsimp only;omega⟩
  refine bE 3 j j j (gX i 1 (by omega)) (bW 1 j ?_);have T:=H.put G n (.inr (by omega));rotate_left
  refine ag 4 13 j (bL (bE 4 j j j (gX i 1 (by omega)) (bW 1 j ?_)));have T:=H.put G n (.inl (by have:=dY I;omega));rotate_left
  all_goals
   refine⟨(i+1,m,_),⟨j,j,j,j,j,bb⟩,⟨by dsimp only;omega,by dsimp only;omega,D,λa b A t B Q K=>T a b A t B (by dsimp only at Q;omega) K,L▸g,c.as (cM:=[J p cur 115])⟩,by dsimp only;omega⟩
 refine an 1 j j ?_;have hlen:=F.length_eq;have ay:d.length<=i:=by omega
 exact⟨j,l,ak,F,λa b A t B=>aF a b A t B (by omega) (by omega),q,c⟩
theorem Er{o:World}{x:Nat}(a:x<=12):Calls prog 311 #[.int .u64 x] o λr w=>(∃z,r= .int .i64 z)/\w=o:=by
 refine a6 func311 ?_;refine ij 8 j j (e7 (by omega)) ?_;refine ij 6 j j (e7 (by omega)) ?_;refine ij 6 j j (e7 (by omega)) ?_;refine aq 5 j (iU j j j j ?_);refine bY 21 (.int .u8 (x:Nat)) j (aK (Value.int .u8) (by show IntKind.u8.wrap (x:Int)=_;rw [lS];omega)) ?_;refine qK j j j j (Nat.lt_of_le_of_lt a bO) ?_;refine iU j j j j ?_;refine an 2 j j ?_;exact⟨⟨_,j⟩,j⟩
theorem Es{o:World}{x:Nat}(b:x<=12):Calls prog 280 #[.int .u64 x] o λr w=>(∃z,r= .int .i64 z)/\w=o:=by
 refine a6 func280 (bk 9 (Er b) j (λr w⟨⟨z,a⟩,hw⟩=>?_));subst a;subst hw;exact an 1 j j ⟨⟨_,j⟩,j⟩
theorem FH{o:World}{v:Value}{a:List aN}{ak:List Chunk}(c:en v a ak)(m:∀x∈a,x.ok)(i:∀x∈a,0<=x.f/\x.f<=1000)(n:a.length<=12)(aT:(a.map aN.f).Nodup)(g:Own [ak] o){z:Int}:Calls prog 333 #[v,.int .i64 (0:Nat),.int .i64 a.length,.int .i64 z,.func (.func 294) #[] #[]] o λr w=>r= .tuple #[]/\∃b,en v (iG a) b/\C o (au [ak]) [b] w:=by
 refine a6 func333 (dj 7 j (cU:=Unit) (λ_=>[(0,v),(1,.int .i64 (0:Nat)),(2,.int .i64 (a.length:Nat)),(3,.int .i64 z),(4,.func (.func 294) #[] #[]),(10,.bool true),(11,.bool true)]) (λ_ w=>w=o) (λ_=>0) () ⟨j,j,j,j,j,j,j,bb⟩ j ?_);rintro _ w hw;subst hw;refine bE 5 j j j (iH a.length 0 (by omega) (by omega)) (l3 6 j j (hM (by omega)) ?_);have h:=DR c m i (by omega) g;refine br 6 h j (λw⟨l,b,k,aF,d,ad⟩=>an 0 j j ?_);have e:=B6 k aF aT;subst e;exact⟨j,b,d,ad⟩
theorem GL{o:World}{v:Value}{a:List aN}{ak:List Chunk}(d:en v a ak)(m:∀x∈a,x.ok)(k:∀x∈a,0<=x.f/\x.f<=1000)(e:a.length<=12)(aT:(a.map aN.f).Nodup)(h:Own [ak] o):Calls prog 319 #[v,.func (.func 294) #[] #[]] o λr w=>r= .tuple #[]/\∃b,en v (iG a) b/\C o (au [ak]) [b] w:=by
 obtain⟨A,c,rfl,_⟩:=d.form;refine a6 func319 (aq 9 j (iU j j j j ?_));refine bY 10 (.int .u64 (a.length:Nat)) j (aK (Value.int .u64) (by show IntKind.u64.wrap (a.length:Int)=_;rw [pn];omega)) (bk 0 (Es e) j (λr w⟨⟨z,l⟩,hw⟩=>?_));subst l;subst hw;have i:=FH d m k e aT h (z:=z);exact br 1 i j (λw⟨b,g,ad⟩=>an 0 j j ⟨j,b,g,ad⟩)
theorem GM{o:World}{aS b:Nat}{c3:Option Addr}{l:List aN}{sum:List UInt8}(g:fV c3 l (au [J aS #[.pointer c3] 281,J b (aP sum).toArray 80]) o)(d:∀x∈l,x.ok)(q:sum.length=32)(n:l.length<=1000000)(m:∀x∈l,0<=x.f/\x.f<=1000)(p:(fg l sum).length<=12)(aT:((fg l sum).map aN.f).Nodup)(a:Own [J aS #[.pointer c3] 281,J b (aP sum).toArray 80] o):Calls prog 293 #[.func (.func 314) #[] #[aa aS,aa b],.func (.func 294) #[] #[]] o λr w=>∃ak,en r (iG (fg l sum)) ak/\C o (au [J aS #[.pointer c3] 281,J b (aP sum).toArray 80]) ([J aS #[.pointer c3] 281,J b (aP sum).toArray 80]++[ak]) w:=by
 refine a6 func293 ?_;have c:=Cr g d q n a;refine bk 6 c j (λr w⟨ak,i,a⟩=>?_);have c:=GL i (λx h=>d x (kI.1 h).1) (λx h=>m x (kI.1 h).1) p aT (C.i8 a);refine bk 5 c j (λt w⟨s,e,k,ad⟩=>?_);have a:=C.iZ a ad;exact an 4 j j ⟨e,k,a⟩
theorem hI.len:∀{us:List Value}{l:List (List UInt8)}{H:List Chunk},hI us l H->us.length=l.length
 |[],[],_,_=>rfl
 |[],_::_,_,h=>h.elim
 |_::_,[],_,h=>h.elim
 |_::us,_::l,_,⟨_,_,_,_,h⟩=>by simp [h.len]
theorem hI.read{w:World}:∀{us:List Value}{l:List (List UInt8)}{H:List Chunk},hI us l H->Holds w H->∀(i:Nat)(a:i<l.length),∃A c,us[i]? =some (.slice A l[i].length c)/\l[i].length<=c/\c<=maxLen/\Rd w A (aP l[i])
 |[],[],_,_,_,i,a=>by simp at a
 |[],_::_,_,h,_,_,_=>h.elim
 |_::_,[],_,h,_,_,_=>h.elim
 |u::us,x::l,_,⟨af,aB,rfl,hu,h⟩,b,0,_=>by
  obtain⟨A,c,rfl,d,e,f,_⟩:=hu.read b.left;exact⟨A,c,j,d,e,f⟩
 |u::us,x::l,_,⟨af,aB,rfl,hu,h⟩,b,i+1,a=>by
  have:=h.read b.right i (by simpa using a);simpa using this
theorem Row.nn{e:TypeId}{size n c m:Nat}{A:Option Addr}{xs:List Value}{G:List Chunk}(h:Row e size (.slice A m c) n xs G):∀a,A=some a->a.block∈au [G]:=λa d=>by
 rcases h.2 with⟨b,_⟩|⟨g,_,_,b,rfl,_⟩
 .cases b;cases d
 .cases b;cases d;simp [au]
theorem hI.nn:∀{us:List Value}{l:List (List UInt8)}{H:List Chunk},hI us l H->∀(i:Nat)(A:Option Addr)(n c:Nat),us[i]? =some (.slice A n c)->∀a,A=some a->a.block∈au [H]
 |[],[],_,_,i,_,_,_,b,_,_=>by simp at b
 |[],_::_,_,h,_,_,_,_,_,_,_=>h.elim
 |_::_,[],_,h,_,_,_,_,_,_,_=>h.elim
 |u::us,x::l,_,⟨af,aB,rfl,hu,h⟩,0,A,n,c,b,a,d=>by
  simp at b;subst b;have:=hu.nn a d;simp [au] at this⊢;exact .inl this
 |u::us,x::l,_,⟨af,aB,rfl,hu,h⟩,i+1,A,n,c,b,a,d=>by
  have:=h.nn i A n c (by simpa using b) a d;simp [au] at this⊢;exact .inr this
theorem C.kN{o w:World}{F:List Nat}{G:List Chunk}{ae:List (List Chunk)}{b:Nat}(h:C o F (G::ae) w)(a:b∈au [G]):b∉au ae:=λc=>by
 have:=h.nodup;rw [of] at this;exact(iX.1 this).2.2 b a b c j
theorem uh{α β:Type}{f:α->Option β}:∀{l:List α}{i:Nat},(l.take i).findSome? f=none->∀(b:i<l.length)(y:β),f l[i]=some y->l.findSome? f=some y
 |[],_,_,b,_,_=>by simp at b
 |a::r,0,_,_,y,h=>by have h:f a=some y:=h;simp [h]
 |a::r,i+1,h,b,y,d=>by
  simp only [List.take_succ_cons,th] at h⊢;cases c:f a with
  |some z=>rw [c] at h;cases h
  |none=>
   rw [c] at h;exact uh h (by simpa using b) y d
theorem xm{α β:Type}{f:α->Option β}{l:List α}{i:Nat}(h:(l.take i).findSome? f=none)(a:i<l.length)(aT:f l[i]=none):(l.take (i+1)).findSome? f=none:=by
 rw [fK a,List.findSome?_append,h];simp [aT]
def oc(g:al)(b:List aN)(x:List UInt8):Option (List UInt8×List aN):=if dL g.n<=(iG (fg b (ca x))).length then some (x,iG (fg b (ca x))) else none
theorem C2(g:al)(s:ai)(b:List aN):s.fS g b=s.dg.findSome? (oc g b):=rfl
theorem xd{o:World}{av:Nat}{g:al}{s:ai}{c:eU}(I:o.heap[av]? =some (.cells (jP g s c).toArray 284 (0,0)))(Y:g.at o)(B:g.ok){c1:List Chunk}(T:h1 c.dg s.dg c1)(z:Holds o c1)(ao:∀x∈s.dg,x.length<=200){c3:Option Addr}{l:List aN}{N:Nat}(P:fV c3 l [] o)(k:fH g N l)(R:N<=1000000):Calls prog 265 #[aa av,.pointer c3] o λr w=>∃v1 v2 ak,r= .tuple #[v1,v2,.bool (s.fS g l).isSome]/\C o [] [ak] w/\∀y,s.fS g l=some y->(∃A c,v1= .slice A y.1.length c/\y.1.length<=c/\c<=maxLen/\Rd w A (aP y.1)/\∀a,A=some a->a.block∈au [c1])/\en v2 y.2 ak:=by
 have b:Own [] o:=C.start o;obtain⟨aD,aC,us,rfl,S,u⟩:=T;obtain⟨F,G,W,aK,am,ah,_⟩:=S.read z.left;have aw:∀x∈l,x.ok:=k.ok;have X:∀x∈l,0<=x.f/\x.f<=1000:=λx h=>by have:=ut (k.dF x h);have O:g.n<=10:=B.n10;omega
 have ae:l.length<=1000000:=ej k.len R;refine a6 func265 (ar 11 j (ax (b.b8 I) (show(jP g s c).toArray[0+9]? =some (.slice F s.dg.length G) by rw [<-W];rfl)) ?_)
 refine dj 3 j (cU:=Nat) (λi=>[(0,aa av),(1,.pointer c3),(4,.slice none 0 0),(5,.slice none 0 0),(6,.bool false),(13,.slice F s.dg.length G),(14,.int .i64 (s.dg.length:Nat)),(15,.int .i64 (i:Nat))])
  (λi w=>i<=s.dg.length/\(s.dg.take i).findSome? (oc g l)=none/\C o [] [] w) (λi=>s.dg.length-i) 0 ⟨j,j,j,j,j,j,j,j,bb⟩ ⟨cp _,j,b⟩ ?_
 rintro i w ⟨aI,e,b⟩;refine cy 4 j j (λL=>?_) (λL=>?_)
 .have d:i<s.dg.length:=by omega
  obtain⟨K,ci,E,Z,aJ,aj⟩:=u.read (z.right.st b) i d;have aL:=ao s.dg[i] (eB d);refine aq 5 j (fJ j j j j (b.rd ah (cc.of_nil _ _)) (v:=.slice K s.dg[i].length ci) (by rw [gK];exact E) d (λaE aH V=>?_));refine ar 0 j V ?_;have m:=mZ (p:=s.dg[i]) aj (by omega) Z;refine bk 5 m j (λr w⟨D,ac⟩=>?_);have D:r= .agg (aP (ca s.dg[i])).toArray:=D;subst D;have b:=b.aO ac;have m:=yJ (o:=w) (c3:=c3) (sum:=ca s.dg[i]);refine bk 0 m j (λr w⟨aS,aF,ag,ad⟩=>?_);subst ag;have Q:=(P.st b (by simp)).here ad;have b:=b.aO ad;have m:=GM Q aw (fm _) ae X (ej (yE k _) (by have O:g.n<=10:=B.n10;omega)) (yD k _) b.cH;refine bk 0 m j (λr w⟨ak,H,ad⟩=>?_);have b:C o [] [ak] w:=(b.cG ad).as;obtain⟨aB,dy,rfl,_⟩:=H.form;refine br 6 (y8 (b.b8 I) (Y.st b (al.off.nil g)) B) j (λaM ap=>?_);subst ap;refine cy 1 j j (λM=>?_) (λM=>?_)
  .refine an 7 j j ?_;have t:oc g l s.dg[i]=some (s.dg[i],iG (fg l (ca s.dg[i]))):=by unfold oc;exact if_pos (by omega)
   have t:=uh e d _ t;rw [<-C2] at t;refine⟨_,_,ak,by rw [t];rfl,b,λy q=>?_⟩;rw [t] at q;cases q;obtain⟨gP,aG,J,ay,az,aA⟩:=u.read (z.right.st b) i d;rw [E] at J;cases J;refine⟨⟨_,_,j,ay,az,aA,λa U=>?_⟩,H⟩;have:=u.nn i _ _ _ E a U;simp [au] at this⊢;exact .inr this
  refine bE 2 j j j (gX i 1 (by unfold maxLen at am;omega)) (bW 1 j ?_);have af:oc g l s.dg[i]=none:=by unfold oc;exact if_neg (by omega)
  refine⟨i+1,⟨j,j,j,j,j,j,j,j,bb⟩,⟨d,xm e d af,b.bare⟩,by omega⟩
 refine an 6 j j ?_;have ab:i=s.dg.length:=by omega
 subst ab;rw [gm] at e;have e:s.fS g l=none:=e;refine⟨.slice none 0 0,.slice none 0 0,[],by rw [e];rfl,b.empty,λy q=>?_⟩;rw [e] at q;cases q
abbrev eU.n6(c:eU)(k:Nat):Value:=if k=0 then c.dw else c.aC
theorem zc(g:al)(s:ai)(c:eU){k:Nat}(ad:k<2):(jP g s c).toArray[0+10+k*1]? =some (c.n6 k):=by
 match k,ad with
 |0,_=>rfl
 |1,_=>rfl
theorem zH(k:Nat)(ad:k<2):evalBin .sub .i64 ((k+1:Nat):Int) 1=some (.int .i64 (k:Int)):=by
 match k,ad with
 |0,_=>rfl
 |1,_=>rfl
abbrev jl(bh:Nat)(u:Value):Chunk:=(bh,.cells #[u] 383 (0,0))
theorem wB{m:List (Int×Value)}{t:List (Int×List aN)}{G:List Chunk}(h:c4 hZ m t G)(k:Int):∃c3,(aV m k).getD sQ= .pointer c3/\((c3=none/\aV t k=none)\/
 ∃bh u l ak H1 c,c3=some ⟨bh,0,none⟩/\aV t k=some l/\en u l ak/\G=H1++((jl bh u::ak)++c)/\∀bZ b a,en b bZ a->c4 hZ m (bV t k bZ) (H1++((jl bh b::a)++c))):=by
 cases ad:aV t k with
 |none=>rw [h.mT ad];exact⟨none,j,.inl ⟨j,j⟩⟩
 |some l=>
  obtain⟨v,af,i,aB,e,rfl,⟨bh,u,ak,rfl,d,rfl⟩,g⟩:=h.find ad;rw [e];exact⟨_,j,.inr ⟨bh,u,l,ak,af,aB,j,j,d,j,λbZ b a f=>g bZ _ ⟨bh,b,a,j,f,j⟩⟩⟩
theorem fV.ofRow{w:World}{bh:Nat}{u:Value}{l:List aN}{ak:List Chunk}(f:en u l ak)(g:w.heap[bh]? =some (.cells #[u] 383 (0,0)))(e:Holds w ak):fV (some ⟨bh,0,none⟩) l [] w:=by
 obtain⟨A,d,rfl,a,b,c,_⟩:=f.read e;exact .inr ⟨bh,A,d,j,g,a,b,c,by simp,cc.of_nil _ _⟩
theorem hZ.F2{w:World}{m:List (Int×Value)}{t:List (Int×List aN)}{G:List Chunk}(h:c4 hZ m t G)(k:Int)(b:Holds w G):∃c3,(aV m k).getD sQ= .pointer c3/\fV c3 ((aV t k).getD []) [] w:=by
 obtain⟨c3,c,d⟩:=wB h k;refine⟨c3,c,?_⟩;rcases d with⟨rfl,a⟩|⟨bh,u,l,ak,H1,f,rfl,a,e,rfl,_⟩
 .rw [a];exact .inl ⟨j,j⟩
 .rw [a];exact fV.ofRow e (b.right.left.head) b.right.left.tail
theorem aN.sl(v:aN)(a:v.ok){w:World}{b:Nat}{e:TypeId}{e0:Nat×Nat}(h:w.heap[b]? =some (.cells v.cs.toArray e e0)):Rd w (some ⟨b,0+3,none⟩) (aP v.sum):=λi x c=>⟨_,j,by
 rw [add_lit];exact ax h (v.pB a i x c)⟩
theorem wC{o:World}{av:Nat}{g:al}{s:ai}{c:eU}(e:o.heap[av]? =some (.cells (jP g s c).toArray 284 (0,0))){k:Nat}(ad:k<2){view:Int}{a:Option Addr}{m:List (Int×Value)}(f:c.n6 k= .pointer a)(d:dI 328 o a m):Calls prog 261 #[aa av,.int .i64 (k+1:Nat),ab view] o λr w=>r=(aV m view).getD sQ/\C o [] [] w:=by
 have b:Own [] o:=C.start o;refine a6 func261 (bE 7 j j j (zH k ad) (aq 2 j (qJ j j j j ad ?_)));refine ar 0 j (ax (b.b8 e) ((zc g s c ad).trans (aK some f))) ?_;have h:=Dp (k:=view) d;refine br 1 h j (λw i=>?_);have b:=b.aO i;exact an 9 j j ⟨j,b.bare⟩
theorem rr{o:World}{av:Nat}{g:al}{s:ai}{c:eU}{v:aN}{k:Nat}(ad:k<2)(af:v.k=(k+1:Nat))(q:v.ok){t:List (Int×List aN)}{a1:List Chunk}{N:Nat}(aA:fo 328 hZ (c.n6 k) t a1)(aF:∀p∈t,fH g N p.2)(aH:N<=1000000)(a:Own [bd g av s c,a1] o):Calls prog 228 #[aa av,.agg v.cs.toArray] o λr w=>r= .tuple #[]/\∃T,fo 328 hZ (c.n6 k) (bV t v.v (hP ((aV t v.v).getD []) v)) T/\C o (au [bd g av s c,a1]) [bd g av s c,T] w:=by
 obtain⟨am,ah,I,m,H,G,hm,ac,rfl⟩:=aA;obtain⟨d,W⟩:∃d,d=au [bd g av s c,ay 328 am ah I++H]:=⟨_,j⟩;rw [<-W];have a:C o d [bd g av s c,ay 328 am ah I++H] o:=W▸a;have a:C o d [bd g av s c,ay 328 am ah I,H] o:=a.perm (by simp);refine a6 func228 (bJ 2 a j j (λn w a=>?_));have a:C o d [J n v.cs.toArray 115,bd g av s c,ay 328 am ah I,H] w:=a;refine ar 4 j (ax (C.aj a) v.gL) (bY 7 (.int .i64 (k+1:Nat)) j (aK (Value.int .i64) af) (ar 1 j (ax (C.aj a) v.dy) ?_));have y:=wC (av:=av) (s:=s) (g:=g) (c:=c) (C.aj a) ad G (dI.own (a.to (ay 328 am ah I)) hm) (view:=v.v);refine br 0 y j (λw z=>?_);have a:=a.aO z;obtain⟨c3,aC,Y⟩:=wB ac v.v;refine bY 10 (.pointer c3) j aC (bo 6 j j (λE=>?_) (λE=>?_));refine aq 2 j (cP (c:= #[.slice none 0 0]) j j j (λ_=>by kernel_rfl) ?_);refine bJ 0 a j j (λx w a=>?_);have a:C o d ([jl x (.slice none 0 0)]::_) w:=a;have a:C o d [J n v.cs.toArray 115,bd g av s c,ay 328 am ah I,H,[jl x (.slice none 0 0)]] w:=a.as;have a:=a.drew;refine bx 1 j (λw=>∃ae,C o d ([J n v.cs.toArray 115,bd g av s c]++ae) w) ⟨_,a⟩ (ag 0 2 j (a8 2 j a2 v.gL (bl 3 j (λw⟨_,a⟩=>fr j j (show evalBin .sub .i64 v.k 1=some (.int .i64 (k:Int)) by rw [af];exact zH k ad)) (ag 4 2 j (bl 6 j (λw⟨_,a⟩=>vH j j ad) (a8 7 j a2 ((zc g s c ad).trans (aK some G)) (ag 8 1 j (a8 9 j a2 v.dy (ag 10 1 j (aX 11 j ?_))))))))));have y:=Gw (k:=v.v) (v:=aa x) (a.ours (cM:=[ay 328 am ah I])) hm;refine bK j j j y (λw⟨S,aD,z⟩=>?_);have a:=a.b1 z;have a:C o d [J n v.cs.toArray 115,bd g av s c,ay 328 am ah S,H,[jl x (.slice none 0 0)]] w:=a.as;refine ao ⟨⟨_,a⟩,?_⟩;refine bL ?_
 have Z:aV t v.v=none:=by
  rcases Y with h|⟨_,_,_,_,_,_,rfl,_⟩
  .exact h.2
  .cases E
 obtain⟨bh,aB⟩:∃bh,bh=x:=⟨_,j⟩;subst aB
 obtain⟨u,l,ak,H1,i,R,e,P,F,M,O,Q,a⟩:∃u l ak H1 i R e,cf bG e R/\en u l ak/\(aV t v.v).getD []=l/\fH g N l/\(∀bZ K B,en K bZ B->c4 hZ R (bV t v.v bZ) (H1++((jl bh K::B)++i)))/\C o d [J n v.cs.toArray 115,J bh #[u] 383,bd g av s c,ay 328 am ah e,H1,ak,i] w:=
  ⟨.slice none 0 0,[],[],H,[],_,S,aD,Row.nil _ _,by rw [Z];rfl,fH.nil g N,λbZ K B aw=>by rw [gA];exact ac.add Z ⟨bh,K,B,j,aw,j⟩,C.perm (A:=[J n v.cs.toArray 115,[jl bh (.slice none 0 0)],bd g av s c,ay 328 am ah S,H]) a.as (by simp)⟩
 refine bP 4 (U:=aP v.sum) j j (by rw [dx];exact q.1) (v.sl q (C.aj a)) ?_;rotate_left
 obtain⟨bh,u,l,ak,H1,i,rfl,ab,F,ap,Q⟩:=Y.resolve_left (λh=>by rw [h.1] at E;cases E);rw [ap] at a;have a:C o d [ay 328 am ah I,J n v.cs.toArray 115,bd g av s c,H1,J bh #[u] 383,ak,i] w:=C.perm (A:=[ay 328 am ah I,J n v.cs.toArray 115,bd g av s c,H1++((jl bh u::ak)++i)]) a.as (by simp);have a:C o d [J n v.cs.toArray 115,J bh #[u] 383,bd g av s c,ay 328 am ah I,H1,ak,i] w:=a.as;have M:(aV t v.v).getD []=l:=by rw [ab];rfl
 have O:fH g N l:=aF _ (io ab);obtain⟨e,P,a⟩:∃e,cf bG e m/\C o d [J n v.cs.toArray 115,J bh #[u] 383,bd g av s c,ay 328 am ah e,H1,ak,i] w:=⟨I,hm,a⟩;refine bP 5 (U:=aP v.sum) j j (by rw [dx];exact q.1) (v.sl q (C.aj a)) ?_;rotate_left
 all_goals
  refine ar 1 j (ax (C.aj a) (v.eN q)) ?_;have y:=DB (f:=v.f) (fV.ofRow F (C.aj (b:=bh) a) (a.holds (by simp))) O.ok q.1;refine br 0 y j (λw z=>?_);have a:=a.aO z;refine bo 1 j j (λL=>?_) (λL=>?_)
  .have a:C o d [J n v.cs.toArray 115,J bh #[u] 383,bd g av s c,ay 328 am ah e,H1,ak,i] w:=a.as;have a:=a.drew;have hlen:=O.len;refine bx 0 j (λw=>∃ae,C o d ([J n v.cs.toArray 115,J bh #[u] 383]++ae) w) ⟨_,a⟩ (ag 0 4 j (a8 4 j a2 j (bl 5 j (λw⟨_,a⟩=>dd (U:=v.cs) j j (v.len q) (bq (C.aj a))) (aX 6 j (gj (U:=v.cs) a j j j (v.len q) (by decide) (by decide) (λV w a=>?_))))));have aT:=bq (C.aj (b:=V) a);have a:C o d [J n v.cs.toArray 115,J bh #[u] 383,J V v.cs.toArray 115,bd g av s c,ay 328 am ah e,H1,ak,i] w:=a.as;refine ao ⟨⟨_,a⟩,?_⟩;refine aX 7 j (e6 (a.to ak) F j j (by decide) j j j (news:=v.cs) (v.len q) aT (List.all_eq_true.1 v.one) (by omega) (by unfold maxLen;omega) (λv1 D w X a=>?_));have a:C o d [J n v.cs.toArray 115,J bh #[u] 383,bd g av s c,ay 328 am ah e,H1,D,i] w:=a.as;refine ao ⟨⟨_,a⟩,?_⟩;refine ag 8 2 j (dK 10 j (cO (a.bc bh) j j j X.one bO (λw a=>?_)));have a:C o d ([jl bh v1]::_) w:=a;have a:C o d [bd g av s c,ay 328 am ah e,H1,[jl bh v1],D,i] w:=a.as;refine ao (c5 (an 0 j j ?_));have aE:l1 l v.sum v.f=false:=by simpa using L
   refine⟨j,ay 328 am ah e++(H1++((jl bh v1::D)++i)),⟨am,ah,e,_,_,G,P,?_,j⟩,C.perm (A:=[bd g av s c,ay 328 am ah e,H1,[jl bh v1],D,i]) a (by simp)⟩;rw [M];unfold hP;rw [az (by rw [aE];decide)];refine Q _ _ _ ?_;unfold en;rw [cj,List.length_singleton,sH];exact X
  refine an 1 j j ?_;have aG:l1 l v.sum v.f=true:=by simpa using L
  have a:C o d [bd g av s c,ay 328 am ah e,H1,[jl bh u],ak,i] w:=a.as;refine⟨j,ay 328 am ah e++(H1++((jl bh u::ak)++i)),⟨am,ah,e,_,_,G,P,?_,j⟩,C.perm (A:=[bd g av s c,ay 328 am ah e,H1,[jl bh u],ak,i]) a (by simp)⟩;rw [M];unfold hP;rw [aR aG];exact Q _ _ _ F
theorem z7{o:World}{av:Nat}{g:al}{s:ai}{c:eU}{k:Nat}(ad:k<2){t:List (Int×List aN)}{a1:List Chunk}{N:Nat}{A:Option Addr}{x:List UInt8}{hb:Nat}(O:fo 328 hZ (c.n6 k) t a1)(P:∀p∈t,fH g N p.2)(M:N<=1000000)(a:Own [bd g av s c,a1] o)(D:g.at o)(E:g.ok)(z:g.off (au [bd g av s c,a1]))(Q:Rd o A (aP x))(H:cc A (aP x) (au [bd g av s c,a1]))(S:x.length<=10000)(R:x.length<=hb):Calls prog 267 #[aa av,.int .i64 (k+1:Nat),.slice A x.length hb] o λr w=>∃n bj,cC r (s.aI g (k+1:Nat) x).2 bj/\fo 328 hZ (c.n6 k) (bV t s.view (hP ((aV t s.view).getD []) (cT g (k+1:Nat) s.slot s.view (ca x) s.aw))) n/\C o (au [bd g av s c,a1]) [bd g av s c,n,bj] w:=by
 obtain⟨d,L⟩:∃d,d=au [bd g av s c,a1]:=⟨_,j⟩;rw [<-L] at z H⊢;have a:C o d [bd g av s c,a1] o:=L▸a;have m:(cT g (k+1:Nat) s.slot s.view (ca x) s.aw).ok:=jm _ _ _ _ _ _ (fm _);refine a6 func267 ?_;have a:=a.drew;refine bx 4 j (λw=>∃ae,C o d ([bd g av s c]++ae) w) ⟨_,a⟩ (ag 0 3 j (a8 3 j a2 j (ag 4 4 j (a8 8 j a2 j (ag 9 3 j (a8 12 j a2 j (ag 13 1 j (ag 15 3 j (a8 18 j a2 j (aS 14 20 j j ?_ ?_))))))))))
 .have h:=mZ (p:=x) (a.rd Q H) (by omega) R;refine cS j j j h (λr w⟨u,i⟩=>?_);have u:r= .agg (aP (ca x)).toArray:=u;subst u;have a:=a.aO i;have a:C o d ([bd g av s c,a1]) w:=a.as;refine ao ⟨⟨_,a⟩,?_⟩;refine aS 19 20 j j ?_ ?_;have h:=n9 (D.st a z) E (k:=(k+1:Nat)) (s:=s.slot) (v:=s.view) (f:=s.aw) (fm x);refine bK j j j h (λw i=>?_);have a:=a.aO i;have a:C o d ([bd g av s c,a1]) w:=a.as;refine ao ⟨⟨_,a⟩,?_⟩;refine aX 20 j (eu a j j (λe w a=>?_));obtain⟨l,a,B⟩:∃l:Array Value,C o d (J e l 115::_) w/\l.size=68:=⟨_,a,j⟩;have a:C o d [bd g av s c,a1,J e l 115] w:=a.as;rotate_left
  refine eu a j j (λe w a=>?_);obtain⟨l,a,B⟩:∃l:Array Value,C o d (J e l 115::_) w/\l.size=68:=⟨_,a,j⟩;have a:C o d [bd g av s c,a1,J e l 115] w:=a.as;refine ao ⟨⟨_,a⟩,?_⟩;refine aX 19 j ?_;have h:=n9 (D.st a z) E (k:=(k+1:Nat)) (s:=s.slot) (v:=s.view) (f:=s.aw) (fm x);refine bK j j j h (λw i=>?_);have a:=a.aO i;have a:C o d ([bd g av s c,a1,J e l 115]) w:=a.as;rotate_left
  all_goals
   refine ao ⟨⟨_,a⟩,?_⟩;refine dK 21 j (c6 (a.bc e) j j j (by simpa using(cT g (k+1:Nat) s.slot s.view (ca x) s.aw).one) (by rw [List.size_toArray];exact(cT g (k+1:Nat) s.slot s.view (ca x) s.aw).len m) (by rw [B];decide) (λw a=>?_));have a:=C.whole (U:=(cT g (k+1:Nat) s.slot s.view (ca x) s.aw).cs) a (by rw [(cT g (k+1:Nat) s.slot s.view (ca x) s.aw).len m];exact B);have a:C o d [bd g av s c,a1,J e (cT g (k+1:Nat) s.slot s.view (ca x) s.aw).cs.toArray 115] w:=a.as;refine ao (c5 (bP 3 (U:=(cT g (k+1:Nat) s.slot s.view (ca x) s.aw).cs) j j ((cT g (k+1:Nat) s.slot s.view (ca x) s.aw).len m) (bq (C.aj a)) ?_));have h:=rr (av:=av) (s:=s) (c:=c) ad (show(cT g (k+1:Nat) s.slot s.view (ca x) s.aw).k=_ from j) m O P M a.ours;refine br 0 h j (λw⟨n,G,i⟩=>?_);have a:=a.b1 i;have a:C o d [bd g av s c,J e (cT g (k+1:Nat) s.slot s.view (ca x) s.aw).cs.toArray 115,n] w:=a.as;have a:=a.drew;refine bx 1 j (λw=>∃ae,C o d ([bd g av s c,J e (cT g (k+1:Nat) s.slot s.view (ca x) s.aw).cs.toArray 115]++ae) w) ⟨_,a⟩ (ag 0 4 j (a8 4 j a2 j (bl 5 j (λw⟨_,a⟩=>dd (U:=(cT g (k+1:Nat) s.slot s.view (ca x) s.aw).cs) j j ((cT g (k+1:Nat) s.slot s.view (ca x) s.aw).len m) (bq (C.aj a))) (aX 6 j (gj (U:=(cT g (k+1:Nat) s.slot s.view (ca x) s.aw).cs) a j j j ((cT g (k+1:Nat) s.slot s.view (ca x) s.aw).len m) (by decide) (by decide) (λq w a=>?_))))));have a:C o d [bd g av s c,J e (cT g (k+1:Nat) s.slot s.view (ca x) s.aw).cs.toArray 115,J q (cT g (k+1:Nat) s.slot s.view (ca x) s.aw).cs.toArray 115,n] w:=a.as;refine ao ⟨⟨_,a⟩,?_⟩;refine bl 7 j (λw _=>eX (c:=(⟨3,0,0,0,s.view,none,[],0,some ⟨q,0,none⟩,[(cT g (k+1:Nat) s.slot s.view (ca x) s.aw)],1,cD⟩:aD).cs.toArray) j (λ_=>by kernel_rfl)) (aX 8 j ?_);have I:(⟨3,0,0,0,s.view,none,[],0,some ⟨q,0,none⟩,[(cT g (k+1:Nat) s.slot s.view (ca x) s.aw)],1,cD⟩:aD).ok _:=⟨Rd.nil _ _,by have:=bq (C.aj (b:=q) a);simpa using this,by intro y K;rw [List.mem_singleton.1 K];exact m,j⟩;have h:=tB (av:=av) (s:=s) (c:=c) (C.aj a) (D.st a z) E I (cp _) bO;refine cS j j j h (λr w⟨bj,F,i⟩=>?_);have a:=a.aO i;have a:C o d [bd g av s c,J e (cT g (k+1:Nat) s.slot s.view (ca x) s.aw).cs.toArray 115,n,bj] w:=a.as;refine ao ⟨⟨_,a⟩,?_⟩;exact ag 9 1 j (bL (an 0 j j ⟨n,bj,F,G,a.as⟩))
 refine eu a j j (λe w a=>?_);obtain⟨l,a,B⟩:∃l:Array Value,C o d (J e l 115::_) w/\l.size=68:=⟨_,a,j⟩;have a:C o d [bd g av s c,a1,J e l 115] w:=a.as;refine ao ⟨⟨_,a⟩,?_⟩;refine aX 14 j ?_;have h:=mZ (p:=x) (a.rd Q H) (by omega) R;refine cS j j j h (λr w⟨u,i⟩=>?_);have u:r= .agg (aP (ca x)).toArray:=u;subst u;have a:=a.aO i;have a:C o d ([bd g av s c,a1,J e l 115]) w:=a.as;refine ao ⟨⟨_,a⟩,?_⟩;refine aX 19 j ?_;have h:=n9 (D.st a z) E (k:=(k+1:Nat)) (s:=s.slot) (v:=s.view) (f:=s.aw) (fm x);refine bK j j j h (λw i=>?_);have a:=a.aO i;have a:C o d ([bd g av s c,a1,J e l 115]) w:=a.as;refine ao ⟨⟨_,a⟩,?_⟩;refine dK 21 j (c6 (a.bc e) j j j (by simpa using(cT g (k+1:Nat) s.slot s.view (ca x) s.aw).one) (by rw [List.size_toArray];exact(cT g (k+1:Nat) s.slot s.view (ca x) s.aw).len m) (by rw [B];decide) (λw a=>?_));have a:=C.whole (U:=(cT g (k+1:Nat) s.slot s.view (ca x) s.aw).cs) a (by rw [(cT g (k+1:Nat) s.slot s.view (ca x) s.aw).len m];exact B);have a:C o d [bd g av s c,a1,J e (cT g (k+1:Nat) s.slot s.view (ca x) s.aw).cs.toArray 115] w:=a.as;refine ao (c5 (bP 3 (U:=(cT g (k+1:Nat) s.slot s.view (ca x) s.aw).cs) j j ((cT g (k+1:Nat) s.slot s.view (ca x) s.aw).len m) (bq (C.aj a)) ?_));have h:=rr (av:=av) (s:=s) (c:=c) ad (show(cT g (k+1:Nat) s.slot s.view (ca x) s.aw).k=_ from j) m O P M a.ours;refine br 0 h j (λw⟨n,G,i⟩=>?_);have a:=a.b1 i;have a:C o d [bd g av s c,J e (cT g (k+1:Nat) s.slot s.view (ca x) s.aw).cs.toArray 115,n] w:=a.as;have a:=a.drew;refine bx 1 j (λw=>∃ae,C o d ([bd g av s c,J e (cT g (k+1:Nat) s.slot s.view (ca x) s.aw).cs.toArray 115]++ae) w) ⟨_,a⟩ (ag 0 4 j (a8 4 j a2 j (bl 5 j (λw⟨_,a⟩=>dd (U:=(cT g (k+1:Nat) s.slot s.view (ca x) s.aw).cs) j j ((cT g (k+1:Nat) s.slot s.view (ca x) s.aw).len m) (bq (C.aj a))) (aX 6 j (gj (U:=(cT g (k+1:Nat) s.slot s.view (ca x) s.aw).cs) a j j j ((cT g (k+1:Nat) s.slot s.view (ca x) s.aw).len m) (by decide) (by decide) (λq w a=>?_))))));have a:C o d [bd g av s c,J e (cT g (k+1:Nat) s.slot s.view (ca x) s.aw).cs.toArray 115,J q (cT g (k+1:Nat) s.slot s.view (ca x) s.aw).cs.toArray 115,n] w:=a.as;refine ao ⟨⟨_,a⟩,?_⟩;refine bl 7 j (λw _=>eX (c:=(⟨3,0,0,0,s.view,none,[],0,some ⟨q,0,none⟩,[(cT g (k+1:Nat) s.slot s.view (ca x) s.aw)],1,cD⟩:aD).cs.toArray) j (λ_=>by kernel_rfl)) (aX 8 j ?_);have I:(⟨3,0,0,0,s.view,none,[],0,some ⟨q,0,none⟩,[(cT g (k+1:Nat) s.slot s.view (ca x) s.aw)],1,cD⟩:aD).ok _:=⟨Rd.nil _ _,by have:=bq (C.aj (b:=q) a);simpa using this,by intro y K;rw [List.mem_singleton.1 K];exact m,j⟩;have h:=tB (av:=av) (s:=s) (c:=c) (C.aj a) (D.st a z) E I (cp _) bO;refine cS j j j h (λr w⟨bj,F,i⟩=>?_);have a:=a.aO i;have a:C o d [bd g av s c,J e (cT g (k+1:Nat) s.slot s.view (ca x) s.aw).cs.toArray 115,n,bj] w:=a.as;refine ao ⟨⟨_,a⟩,?_⟩;exact ag 9 1 j (bL (an 0 j j ⟨n,bj,F,G,a.as⟩))
theorem DJ{o:World}{ez:FuncId}[Entry prog ez]{be:Array Value}{p:List UInt8->Bool}(s:∀(A:Option Addr)(x:List UInt8)(bN:Nat),Rd o A (aP x)->Calls prog ez (#[]++ #[.slice A x.length bN]++be) o (λr w=>r= .bool (p x)/\w=o)){v:Value}{l:List (List UInt8)}{G:List Chunk}(n:h1 v l G)(e:Holds o G):Calls prog 222 #[v,.func (.func ez) #[] be] o λr w=>(∃z:Int,r= .int .i64 z/\decide (z>=0)=l.any p)/\w=o:=by
 obtain⟨F,E,us,rfl,m,k⟩:=n;obtain⟨f,h,rfl,M,C,u,_⟩:=m.read e.left;refine a6 func222 ?_
 refine dj 10 j (cU:=Nat) (λi=>[(0,.slice f l.length h),(1,.func (.func ez) #[] be),(7,.int .i64 (l.length:Nat)),(8,.int .i64 (i:Nat))])
  (λi w=>i<=l.length/\(l.take i).any p=false/\w=o) (λi=>l.length-i) 0 ⟨j,j,j,j,bb⟩ ⟨cp _,j,j⟩ ?_
 rintro i w ⟨J,c,hw⟩;subst hw;refine cy 4 j j (λg=>?_) (λg=>?_)
 .have a:i<l.length:=by omega
  obtain⟨d,ci,B,K,L,y⟩:=k.read e.right i a;refine aq 12 j (fJ j j j j u (v:=.slice d l[i].length ci) (by rw [gK];exact B) a (λH I q=>?_));refine ar 0 j q (hx j j j j (s d l[i] ci y) (λr w⟨D,hw⟩=>?_));subst D;subst hw;refine bo 0 j j (λb=>?_) (λb=>?_)
  .refine an 4 j j (⟨⟨_,j,?_⟩,j⟩);rw [hM (by omega)];exact(j2.2 ⟨_,eB a,b⟩).symm
  refine bE 2 j j j (dn i (by unfold maxLen at C;omega)) (bW 1 j (⟨i+1,⟨j,j,j,j,bb⟩,⟨a,?_,j⟩,by omega⟩));rw [fK a,qX,c];simp [b]
 refine an 4 j j ?_;have t:i=l.length:=by omega
 rw [t,gm] at c;exact⟨⟨_,j,by rw [c];rfl⟩,j⟩
theorem wU{o:World}{ez:FuncId}[Entry prog ez]{be:Array Value}{p:List UInt8->Bool}(c:∀(A:Option Addr)(x:List UInt8)(bN:Nat),Rd o A (aP x)->Calls prog ez (#[]++ #[.slice A x.length bN]++be) o (λr w=>r= .bool (p x)/\w=o)){v:Value}{l:List (List UInt8)}{G:List Chunk}(b:h1 v l G)(a:Holds o G):Calls prog 206 #[v,.func (.func ez) #[] be] o λr w=>r= .bool (l.any p)/\w=o:=by
 refine a6 func206 (bk 7 (DJ c b a) j (λr w⟨⟨z,d,e⟩,hw⟩=>?_));subst d;subst hw;exact an 2 j j ⟨aK Value.bool e,j⟩
theorem Ee{o:World}{a:Nat}{A B:Option Addr}{xs dh:List UInt8}{bN d:Nat}(e:o.heap[a]? =some (.cells #[.slice B dh.length d] 26 (0,0)))(b:Rd o A (aP xs))(c:Rd o B (aP dh)):Calls prog 260 (#[]++ #[.slice A xs.length bN]++ #[aa a]) o λr w=>r= .bool (decide (xs=dh))/\w=o:=by
 refine a6 func260 (ar 6 j (ax e j) (br 0 (pF b c) j (λw hw=>?_)));subst hw;exact an 1 j j ⟨j,j⟩
theorem wl(l:List (List UInt8))(x:List UInt8):(l.any λy=>decide (y=x))=decide (x∈l):=by
 rw [lk];simp only [j2,gn];exact⟨λ⟨y,a,b⟩=>b▸a,λh=>⟨x,h,j⟩⟩
theorem hI.app:∀{us c:List Value}{l bZ:List (List UInt8)}{G a:List Chunk},hI us l G->hI c bZ a->hI (us++c) (l++bZ) (G++a)
 |[],_,[],_,_,_,h,b=>by have h:_=[]:=h;subst h;exact b
 |[],_,_::_,_,_,_,h,_=>h.elim
 |_::_,_,[],_,_,_,h,_=>h.elim
 |_::_,_,_::_,_,_,a,⟨af,aB,rfl,hu,h⟩,b=>⟨af,aB++a,by rw [dS],hu,h.app b⟩
theorem hI.one{u:Value}{x:List UInt8}{G:List Chunk}(h:d6 u x G):hI [u] [x] G:=⟨G,[],by simp,h,j⟩
def pr(l:List (List UInt8))(x:List UInt8):List (List UInt8):=if x∈l then l else l++[x]
theorem ai.Eh(s:ai)(x:List UInt8):(s.i1 x).dg=pr s.dg x:=by unfold ai.i1 pr;split<;>rfl
theorem Eg{o:World}{av:Nat}{g:al}{s:ai}{c:eU}{c1:List Chunk}(n:h1 c.dg s.dg c1)(N:s.dg.length<=1000000){A:Option Addr}{x:List UInt8}{bN:Nat}(E:Rd o A (aP x))(q:cc A (aP x) (au [bd g av s c,c1]))(O:x.length<=1000000)(a:Own [bd g av s c,c1] o):Calls prog 227 #[aa av,.slice A x.length bN] o λr w=>r= .tuple #[]/\∃v1 v,h1 v1 (pr s.dg x) v/\C o (au [bd g av s c,c1]) [bd g av s {c with dg:=v1},v] w:=by
 obtain⟨d,B⟩:∃d,d=au [bd g av s c,c1]:=⟨_,j⟩;rw [<-B] at q⊢;have a:C o d [bd g av s c,c1] o:=B▸a;refine a6 func227 (bJ 2 a j j (λf w a=>?_));have a:C o d [J f #[.slice A x.length bN] 26,bd g av s c,c1] w:=a;refine ar 5 j (ax (C.aj a) j) (gI j j j j ?_);have t:=wU (p:=λy=>decide (y=x)) (be:= #[aa f]) (ez:=260) (λgP P M F=>Ee (C.aj a) F (a.rd E q)) n (a.holds (by simp));refine br 0 t j (λw hw=>?_);subst hw;refine bo 1 j j (λi=>?_) (λi=>?_)
 .have a:=a.drew;refine bx 0 j (λw=>∃ae,C o d ([J f #[.slice A x.length bN] 26,bd g av s c]++ae) w) ⟨_,a⟩ (ag 0 4 j (a8 4 j a2 j (a8 5 j a2 j (aX 6 j ?_))));have t:=gN (c:=bN) (a.rd E q) (by omega);refine cS j j j t (λr w⟨e,m,I⟩=>?_);have a:=a.aO I;have a:C o d [J f #[.slice A x.length bN] 26,bd g av s c,c1,e] w:=a.as;refine ao ⟨⟨_,a⟩,?_⟩;refine aX 7 j (fx (U:=[r]) a j j j j j (by simpa using m.one) bO (λl w a=>?_));have aT:=bq (C.aj (b:=l) a);have a:C o d [J f #[.slice A x.length bN] 26,bd g av s c,c1,e,J l #[r] 26] w:=a.as;refine ao ⟨⟨_,a⟩,?_⟩;refine aX 8 j ?_;obtain⟨z,h,us,rfl,H,G⟩:=n;have a:C o d [J f #[.slice A x.length bN] 26,bd g av s c,z,h,e,J l #[r] 26] w:=a.perm (by simp);refine e6 (a.to z) H j j (by decide) j j j (news:=[r]) j aT (by intro u hu;rw [List.mem_singleton.1 hu];exact m.one) (by omega) (by unfold maxLen;omega) (λv1 k w D a=>?_);have a:C o d [J f #[.slice A x.length bN] 26,bd g av s c,k,h,e] w:=a.as;refine ao ⟨⟨_,a⟩,?_⟩;refine ag 9 2 j (dK 11 j (cO (a.bc av) j j j D.one bO (λw a=>?_)));have a:C o d (bd g av s {c with dg:=v1}::_) w:=a;refine ao (c5 (an 0 j j ?_));have K:x∉s.dg:=by rw [wl] at i;simpa using i
  unfold pr;rw [az K];refine⟨j,v1,k++(h++e),⟨k,h++e,us++[r],j,?_,G.app (hI.one m)⟩,C.perm (A:=[bd g av s {c with dg:=v1},k,h,e]) a.as (by simp)⟩;rw [cj,List.length_singleton];exact D
 refine an 1 j j ?_;have L:x∈s.dg:=by rw [wl] at i;simpa using i
 unfold pr;rw [aR L];exact⟨j,c.dg,c1,n,a.as⟩
theorem w7{o:World}{av:Nat}{g:al}{s:ai}{c:eU}{A B:Option Addr}{x:List UInt8}{l:List aN}{bN d:Nat}(D:Rd o A (aP x))(u:Rd o B (vcs l))(z:∀v∈l,v.ok)(E:x.length<=1000000)(y:l.length<=1000)(a:Own [bd g av s c] o):Calls prog 231 #[aa av,.slice A x.length bN,.slice B l.length d] o λr w=>r= .tuple #[]/\∃v1 v2 e f,d6 v1 x e/\en v2 l f/\C o (au [bd g av s c]) [bd g av (s.gD x l) {c with value:=v1,et:=v2},e,f] w:=by
 obtain⟨b,m⟩:∃b,b=au [bd g av s c]:=⟨_,j⟩;rw [<-m];have a:C o b [bd g av s c] o:=m▸a;refine a6 func231 ?_;have i:=gN (c:=bN) D (by omega);refine bk 5 i j (λh w⟨e,n,q⟩=>?_);have a:=a.aO q;have i:=kO (d:=d) (q.rd u (cc.of_nil _ _)) z y;refine bk 1 i j (λk w⟨f,p,t⟩=>?_);have a:=a.aO t;have a:C o b [bd g av s c,e,f] w:=a.as;refine dE 2 a j j j n.one (λw a=>?_);have a:C o b (bd g av s {c with value:=h}::_) w:=a;refine dE 2 a j j j p.one (λw a=>?_);have a:C o b (bd g av s {c with value:=h,et:=k}::_) w:=a;refine dE 2 a j j j j (λw a=>?_);have a:C o b (bd g av (s.gD x l) {c with value:=h,et:=k}::_) w:=a;exact an 0 j j ⟨j,h,k,e,f,n,p,a⟩
theorem c4.isSome{α:Type}{V:Value->α->List Chunk->Prop}{m:List (Int×Value)}{t:List (Int×α)}{G:List Chunk}(h:c4 V m t G)(k:Int):(aV m k).isSome=(aV t k).isSome:=by
 cases ad:aV t k with
 |none=>rw [h.mT ad];rfl
 |some a=>obtain⟨v,_,_,_,e,_⟩:=h.find ad;rw [e];rfl
theorem ai.Ef(s:ai)(x:List UInt8):(s.i1 x).props=s.props:=by unfold ai.i1;split<;>rfl
theorem l7{β:Type}{m:List (Int×β)}{k:Int}(h:(aV m k).isSome=false):aV m k=none:=by cases ad:aV m k with|none=>rfl|some _=>rw [ad] at h;cases h
theorem fw.apart{m:aD}{b:List Chunk}{ae:List (List Chunk)}{o w:World}{F:List Nat}(h:fw m b)(f:C o F (b::ae) w):cc m.A (aP m.x) (au ae)/\cc m.B (vcs m.l) (au ae):=by
 obtain⟨af,aB,rfl,d,_⟩:=h;have c:=f.split;obtain⟨_,_,e,_,_,_,g⟩:=d.x.rd c;cases e;obtain⟨_,_,e,_,_,_,i⟩:=d.l.rd c.f1;cases e;exact⟨g.sub (fE (by intro G a;simp [a])),i.sub (fE (by intro G a;simp [a]))⟩
theorem y0{o:World}{av:Nat}{g:al}{s:ai}{c:eU}{m:aD}{d:List Chunk}(D:fw m d)(M:m.P.dF)(ap:0<=s.slot/\s.slot<=63)(ad:0<=m.v/\m.v<=8){bI c1:List Chunk}(T:iT c.props s.props bI)(z:h1 c.dg s.dg c1)(Y:s.dg.length<=1000000)(X:g.at o)(af:g.ok)(O:g.off (au [bd g av s c,bI,c1,d]))(a:Own [bd g av s c,bI,c1,d] o):Calls prog 184 #[aa av,.agg m.cs.toArray] o λr w=>r= .tuple #[]/\∃v1 E n,iT c.props (s.hr g m.P).props E/\h1 v1 (s.hr g m.P).dg n/\C o (au [bd g av s c,bI,c1,d]) [bd g av s {c with dg:=v1},E,n] w:=by
 obtain⟨am,ah,I,S,H,p,hm,l,rfl⟩:=T;have Q:m.tag.length=32:=M.tag;have hw:=l.wide jT.wide;obtain⟨R,L,Z,ab⟩:=gl.get oI hw m.v;obtain⟨b,J⟩:∃b,b=au [bd g av s c,ay 287 am ah I++H,c1,d]:=⟨_,j⟩;rw [<-J] at O⊢;have a:C o b [bd g av s c,ay 287 am ah I++H,c1,d] o:=J▸a;have a:C o b [bd g av s c,ay 287 am ah I,H,c1,d] o:=a.perm (by simp);refine a6 func184 (bJ 2 a j j (λe w a=>?_));have a:C o b [bf e m,bd g av s c,ay 287 am ah I,H,c1,d] w:=a;have a:=a.drew;refine bx 2 j (λw=>∃ae,C o b ([bf e m,bd g av s c]++ae) w) ⟨_,a⟩ (ag 0 3 j (a8 3 j a2 (aK some p) (ag 4 1 j (a8 5 j a2 m.fA (aS 6 10 j j ?_ ?_)))));have h:=nl (k:=m.v) hw (dI.own (a.to (ay 287 am ah I)) hm);refine bK j j j h (λw i=>?_);have a:=a.aO i;have a:C o b ([bf e m,bd g av s c]++_) w:=a.front;refine ao ⟨⟨_,a⟩,?_⟩;refine ag 7 2 j (iF 14 (.agg R.toArray) j L (ag 9 1 j (aX 10 j (eu a j j (λF w a=>?_)))));have a:C o b ([bf e m,bd g av s c]++_) w:=a.front;refine ao ⟨⟨_,a⟩,?_⟩;rotate_left
 refine eu a j j (λF w a=>?_);have a:C o b ([bf e m,bd g av s c]++_) w:=a.front;refine ao ⟨⟨_,a⟩,?_⟩;refine aX 6 j ?_;have h:=nl (k:=m.v) hw (dI.own (a.to (ay 287 am ah I)) hm);refine bK j j j h (λw i=>?_);have a:=a.aO i;have a:C o b ([bf e m,bd g av s c]++_) w:=a.front;refine ao ⟨⟨_,a⟩,?_⟩;refine ag 7 2 j (iF 14 (.agg R.toArray) j L (ag 9 1 j ?_));rotate_left
 all_goals
  refine aX 11 j (c6 (a.bc F) j j j ab Z (by decide) (λw a=>?_));have a:C o b ([bf e m,bd g av s c]++_) w:=a.front;refine ao ⟨⟨_,a⟩,?_⟩;refine ag 12 1 j (bL (aq 4 j (c9 17 j (λu=>?_) (λu=>?_))))
  .refine an 9 j j ?_;have aw:(aV s.props m.v).isSome=true:=(l.isSome m.v).symm.trans u;have q:s.hr g m.P=s:=aR (by rw [show m.P.v=m.v from j,aw];rfl);rw [q];exact⟨j,c.dg,ay 287 am ah I++H,c1,⟨am,ah,I,S,H,p,hm,l,j⟩,z,C.perm (A:=[bd g av s c,ay 287 am ah I,H,c1]) a.as (by simp)⟩
  refine ar 2 j (ax (C.aj a) m.aH) (ar 1 j (ax (C.aj a) m.fA) ?_);have h:=uF (av:=av) (s:=s) (c:=c) (C.aj a) (X.st a O) af (node:=m.f) (view:=m.v) ap ad;refine br 0 h j (λw i=>?_);have a:=a.aO i;refine bo 2 j j (λy=>?_) (λy=>?_)
  .refine an 0 j j ?_;have B:s.leads g m.f m.v=false:=by simpa using y
   have q:s.hr g m.P=s:=aR (by rw [show s.leads g m.P.f m.P.v=false from B];simp);rw [q];exact⟨j,c.dg,ay 287 am ah I++H,c1,⟨am,ah,I,S,H,p,hm,l,j⟩,z,C.perm (A:=[bd g av s c,ay 287 am ah I,H,c1]) a.as (by simp)⟩
  have a:C o b [bf e m,bd g av s c,ay 287 am ah I,H,c1,d] w:=a.as;have a:=a.drew;have N:aV s.props m.v=none:=l7 ((l.isSome m.v).symm.trans u);refine bx 2 j (λw=>∃ae,C o b ([bf e m,bd g av s c]++ae) w) ⟨_,a⟩ (ag 0 3 j (a8 3 j a2 (aK some p) (ag 4 1 j (a8 5 j a2 m.fA (bl 6 j (λw⟨_,a⟩=>dd (U:=m.cs) j j (m.bU Q) (bq (C.aj a))) (aX 7 j ?_))))));have h:=vr (k:=m.v) (m.bU Q) m.one (a.ours (cM:=[ay 287 am ah I])) hm;refine bK j j j h (λw⟨t,ac,i⟩=>?_);have a:=a.b1 i;have a:C o b [bf e m,bd g av s c,ay 287 am ah t,H,c1,d] w:=a.as;refine ao ⟨⟨_,a⟩,?_⟩;refine bL (ar 3 j (ax (C.aj a) m.fY) ?_);have W:=(D.apart (a.to d)).1.sub (eJ:=au [bd g av s c,c1]) (fE (by intro G K;simp at K⊢;rcases K with rfl|rfl<;>simp));have ak:=(D.read (a.holds (by simp))).1.x;have h:=Eg (av:=av) (s:=s) (c:=c) (g:=g) (bN:=m.c) z Y ak W (by have aA:m.x.length<=200:=M.x;omega) a.ours;refine br 0 h j (λw⟨v1,n,V,i⟩=>?_);have a:=a.b1 i;refine an 0 j j ?_;have B:s.leads g m.f m.v=true:=by simpa using y
  have q:s.hr g m.P=({s with props:=bV s.props m.v m.P}:ai).i1 m.x:=az (by rw [show s.leads g m.P.f m.P.v=true from B,show aV s.props m.P.v=none from N];simp);rw [q,ai.Eh,ai.Ef];exact⟨j,v1,ay 287 am ah t++(H++d),n,⟨am,ah,t,_,_,p,ac,l.add N ⟨m,j,j,D⟩,j⟩,V,C.perm (A:=[bd g av s {c with dg:=v1},ay 287 am ah t,H,d,n]) a.as (by simp)⟩
theorem HB{o:World}{av:Nat}{g:al}{s:ai}{c:eU}{m:aD}{n:List Chunk}(af:fw m n)(Q:m.P.dF){bX bT:List Chunk}{N:Nat}(A:fo 328 hZ c.dw s.dw bX)(B:fo 328 hZ c.aC s.aC bT)(ah:∀p∈s.dw,fH g N p.2)(am:∀p∈s.aC,fH g N p.2)(X:N<=1000000)(Y:g.at o)(ac:g.ok)(S:g.off (au [bd g av s c,bX,bT,n]))(a:Own [bd g av s c,bX,bT,n] o):Calls prog 185 #[aa av,.agg m.cs.toArray] o λr w=>r= .tuple #[]/\∃T V,fo 328 hZ c.dw (s.dv g m.P).dw T/\fo 328 hZ c.aC (s.dv g m.P).aC V/\C o (au [bd g av s c,bX,bT,n]) [bd g av s c,T,V] w:=by
 obtain⟨i,W⟩:∃i,i=au [bd g av s c,bX,bT,n]:=⟨_,j⟩;rw [<-W] at S⊢;have a:C o i [bd g av s c,bX,bT,n] o:=W▸a;have ay:m.tag.length=32:=Q.tag;refine a6 func185 (bJ 2 a j j (λG w a=>?_));have a:C o i [bf G m,bd g av s c,bX,bT,n] w:=a;refine ar 4 j (ax (C.aj a) m.eZ) (bo 2 j j (λeQ=>?_) (λeQ=>?_))
 .refine an 0 j j ?_;have h:m.P.l=[]:=x7 eQ;have e:s.dv g m.P=s:=by unfold ai.dv;rw [h]
  rw [e];exact⟨j,bX,bT,A,B,a.as⟩
 obtain⟨v,q,h⟩:=x6 eQ;have d:v.ok:=Q.aI v (by show v∈m.l;rw [h];simp);have Z:∀x∈v::q,x.ok:=λx ap=>Q.aI x (by show x∈m.l;rw [h];exact ap)
 refine ar 4 j (ax (C.aj a) m.eZ) ?_;have L:=(af.read (a.holds (by simp))).1.l;rw [h] at L;refine fJ j j j j L (v:=ab v.k) (oF (v::q) Z 0 (by simp)) (R:=0) (by rw [h];simp) (λaq ad aw=>?_);rw [ad] at L;refine bP 0 j j (v.len d) (oG L Z 0 (by simp)) (cx 0 a j (λH w a=>c6 (a.bc H) j j j (by simpa using v.one) (by rw [List.size_toArray];exact v.len d) (by decide) (λw a=>?_)));have a:=C.whole (U:=v.cs) a (by rw [v.len d];rfl);have a:C o i [J H v.cs.toArray 115,bf G m,bd g av s c,bX,bT,n] w:=a.as;have a:=a.drew;refine bx 1 j (λw=>∃ae,C o i ([J H v.cs.toArray 115,bf G m,bd g av s c]++ae) w) ⟨_,a⟩ (ag 0 1 j (a8 1 j a2 v.gL (ag 2 2 j (ek 16 j (λI=>?_) (λI=>?_)))))
 .refine ag 4 6 j (a8 10 j a2 v.aH (ag 11 3 j (a8 14 j a2 j (ag 15 3 j (ek 30 j (λu=>?_) (λu=>?_))))))
  .refine ag 18 1 j (a8 19 j a2 (v.eN d) (ag 20 1 j (a8 21 j a2 m.aH (ag 22 3 j (ek 37 j (λy=>?_) (λy=>?_))))));refine ag 25 3 j (a8 28 j a2 j (bl 29 j (λw⟨_,a⟩=>dd (U:=v.cs) j j (v.len d) (bq (C.aj a))) (aX 30 j ?_)));have D:=rO (Y.st a S) ac d;refine bK j j j D (λw E=>?_);have a:=a.aO E;have a:C o i [J H v.cs.toArray 115,bf G m,bd g av s c,bX,bT,n] w:=a.as;refine ao ⟨⟨_,a⟩,?_⟩;refine ag 31 1 j (bL (bo 0 j j (λz=>?_) (λz=>?_)))
   .refine bP 2 (U:=v.cs) j j (v.len d) (bq (C.aj a)) ?_;have D:=rr (av:=av) (s:=s) (c:=c) (k:=0) (t:=s.dw) (by decide) (ea.1 I) d A ah X a.ours;refine br 0 D j (λw⟨F,M,E⟩=>?_);have a:=a.b1 E;have a:C o i [bd g av s c,F,bT] w:=a.as;refine an 0 j j ?_;have b:s.hs g m.P v=true:=by unfold ai.hs;rw [show _root_.Go.Proofs.YtmholjbhjcpkhaaGreatDoor.R.dF g v=true from z,show(v.f==m.P.f)=true from y,show(v.s==s.slot)=true from u,show(v.k==1)=true from I];rfl
    have e:s.dv g m.P=s.counts v:=by
     unfold ai.dv;rw [show m.P.l=v::q from h];exact aR b
    have O:s.counts v={s with dw:=bV s.dw v.v (hP (s.gU 1 v.v) v)}:=aR (ea.1 I);rw [e,O];exact⟨j,F,bT,M,B,a⟩
   refine an 1 j j ?_;have b:s.hs g m.P v=false:=by unfold ai.hs;rw [show _root_.Go.Proofs.YtmholjbhjcpkhaaGreatDoor.R.dF g v=false from z];simp
   rotate_left
   refine ag 25 7 j (bL (an 2 j j ?_));have b:s.hs g m.P v=false:=by unfold ai.hs;rw [show(v.f==m.P.f)=false from y];simp
   rotate_left
   all_goals
    have e:s.dv g m.P=s:=by
     unfold ai.dv;rw [show m.P.l=v::q from h];exact az (by rw [b];decide)
    rw [e];exact⟨j,bX,bT,A,B,a.as⟩
  refine ag 18 14 j (bL (an 2 j j ?_));have b:s.hs g m.P v=false:=by unfold ai.hs;rw [show(v.s==s.slot)=false from u];simp
  have e:s.dv g m.P=s:=by
   unfold ai.dv;rw [show m.P.l=v::q from h];exact az (by rw [b];decide)
  rw [e];exact⟨j,bX,bT,A,B,a.as⟩
 refine ag 4 1 j (a8 5 j a2 v.gL (ag 6 3 j (ek 21 j (λK=>?_) (λK=>?_))));refine ag 9 1 j (a8 10 j a2 v.aH (ag 11 3 j (a8 14 j a2 j (ag 15 3 j (ek 30 j (λu=>?_) (λu=>?_))))))
 .refine ag 18 1 j (a8 19 j a2 (v.eN d) (ag 20 1 j (a8 21 j a2 m.aH (ag 22 3 j (ek 37 j (λy=>?_) (λy=>?_))))));refine ag 25 3 j (a8 28 j a2 j (bl 29 j (λw⟨_,a⟩=>dd (U:=v.cs) j j (v.len d) (bq (C.aj a))) (aX 30 j ?_)));have D:=rO (Y.st a S) ac d;refine bK j j j D (λw E=>?_);have a:=a.aO E;have a:C o i [J H v.cs.toArray 115,bf G m,bd g av s c,bX,bT,n] w:=a.as;refine ao ⟨⟨_,a⟩,?_⟩;refine ag 31 1 j (bL (bo 0 j j (λz=>?_) (λz=>?_)))
  .refine bP 2 (U:=v.cs) j j (v.len d) (bq (C.aj a)) ?_;have D:=rr (av:=av) (s:=s) (c:=c) (k:=1) (t:=s.aC) (by decide) (ea.1 K) d B am X a.ours;refine br 0 D j (λw⟨F,M,E⟩=>?_);have a:=a.b1 E;have a:C o i [bd g av s c,bX,F] w:=a.as;refine an 0 j j ?_;have b:s.hs g m.P v=true:=by unfold ai.hs;rw [show _root_.Go.Proofs.YtmholjbhjcpkhaaGreatDoor.R.dF g v=true from z,show(v.f==m.P.f)=true from y,show(v.s==s.slot)=true from u,show(v.k==2)=true from K];simp
   have e:s.dv g m.P=s.counts v:=by
    unfold ai.dv;rw [show m.P.l=v::q from h];exact aR b
   have O:s.counts v={s with aC:=bV s.aC v.v (hP (s.gU 2 v.v) v)}:=az (by rw [ea.1 K];decide);rw [e,O];exact⟨j,bX,F,A,M,a⟩
  refine an 1 j j ?_;have b:s.hs g m.P v=false:=by unfold ai.hs;rw [show _root_.Go.Proofs.YtmholjbhjcpkhaaGreatDoor.R.dF g v=false from z];simp
  rotate_left
  refine ag 25 7 j (bL (an 2 j j ?_));have b:s.hs g m.P v=false:=by unfold ai.hs;rw [show(v.f==m.P.f)=false from y];simp
  rotate_left
  all_goals
   have e:s.dv g m.P=s:=by
    unfold ai.dv;rw [show m.P.l=v::q from h];exact az (by rw [b];decide)
   rw [e];exact⟨j,bX,bT,A,B,a.as⟩
 refine ag 18 14 j (bL (an 2 j j ?_));have b:s.hs g m.P v=false:=by unfold ai.hs;rw [show(v.s==s.slot)=false from u];simp
 rotate_left
 refine ag 9 23 j (bL (an 2 j j ?_));have b:s.hs g m.P v=false:=by unfold ai.hs;rw [show(v.k==1)=false from I,show(v.k==2)=false from K];rfl
 rotate_left
 all_goals
  have e:s.dv g m.P=s:=by
   unfold ai.dv;rw [show m.P.l=v::q from h];exact az (by rw [b];decide)
  rw [e];exact⟨j,bX,bT,A,B,a.as⟩
theorem zG{m:List (Int×Value)}{t:List (Int×List (Int×aY))}{G:List Chunk}(h:c4 iT m t G)(k:Int):∃p,(aV m k).getD vF= .pointer p/\((p=none/\aV t k=none)\/
 ∃am ah I a l H af aB,p=some ⟨am,0,none⟩/\aV t k=some l/\cf bG I a/\c4 jT a l H/\G=af++((ay 287 am ah I++H)++aB)/\∀bZ b,iT (aa am) bZ b->c4 iT m (bV t k bZ) (af++(b++aB))):=by
 cases ad:aV t k with
 |none=>rw [h.mT ad];exact⟨none,j,.inl ⟨j,j⟩⟩
 |some l=>
  obtain⟨v,af,g,aB,e,rfl,⟨am,ah,I,a,H,rfl,c,f,rfl⟩,d⟩:=h.find ad;rw [e];exact⟨_,j,.inr ⟨am,ah,I,a,l,H,af,aB,j,j,c,f,j,d⟩⟩
theorem zD{o:World}{av:Nat}{g:al}{s:ai}{c:eU}{m:aD}{b:List Chunk}(aJ:fw m b)(aI:m.P.dF)(aS:0<=s.slot/\s.slot<=63)(aL:0<=m.v/\m.v<=8){cd:List Chunk}(ap:fo 325 iT c.dB s.dB cd)(aB:g.at o)(aN:g.ok)(ab:g.off (au [bd g av s c,cd,b]))(a:Own [bd g av s c,cd,b] o):Calls prog 186 #[aa av,.agg m.cs.toArray] o λr w=>r= .tuple #[]/\∃W,fo 325 iT c.dB (s.status g m.P).dB W/\C o (au [bd g av s c,cd,b]) [bd g av s c,W] w:=by
 obtain⟨am,ah,I,ad,H,E,hm,L,rfl⟩:=ap;have ac:m.tag.length=32:=aI.tag;obtain⟨i,Y⟩:∃i,i=au [bd g av s c,ay 325 am ah I++H,b]:=⟨_,j⟩;rw [<-Y] at ab⊢;have a:C o i [bd g av s c,ay 325 am ah I++H,b] o:=Y▸a;have a:C o i [bd g av s c,ay 325 am ah I,H,b] o:=a.perm (by simp);refine a6 func186 (bJ 2 a j j (λn w a=>?_));have a:C o i [bf n m,bd g av s c,ay 325 am ah I,H,b] w:=a;have a:=a.drew;refine bx 2 j (λw=>∃ae,C o i ([bf n m,bd g av s c]++ae) w) ⟨_,a⟩ (ag 0 4 j (a8 4 j a2 j (ag 5 1 j (a8 6 j a2 m.fA (aX 7 j ?_)))));have y:=uF (av:=av) (s:=s) (c:=c) (C.aj a) (aB.st a ab) aN (node:=s.aw) (view:=m.v) aS aL;refine bK j j j y (λw x=>?_);have a:=a.aO x;have a:C o i [bf n m,bd g av s c,ay 325 am ah I,H,b] w:=a.as;refine ao ⟨⟨_,a⟩,?_⟩;refine ag 8 1 j (bL (bo 0 j j (λM=>?_) (λM=>?_)))
 .refine an 0 j j ?_;have F:s.leads g s.aw m.P.v=false:=by simpa using M
  have K:s.status g m.P=s:=az (by rw [F];decide);rw [K];exact⟨j,ay 325 am ah I++H,⟨am,ah,I,ad,H,E,hm,L,j⟩,C.perm (A:=[bd g av s c,ay 325 am ah I,H]) a.as (by simp)⟩
 have a:C o i [bf n m,bd g av s c,ay 325 am ah I,H,b] w:=a.as;have a:=a.drew;refine bx 2 j (λw=>∃ae,C o i ([bf n m,bd g av s c]++ae) w) ⟨_,a⟩ (ag 0 3 j (a8 3 j a2 (aK some E) (ag 4 1 j (a8 5 j a2 m.fA (aX 6 j ?_)))));have y:=xA (k:=m.v) (dI.own (a.to (ay 325 am ah I)) hm);refine bK j j j y (λw x=>?_);have a:=a.aO x;have a:C o i [bf n m,bd g av s c,ay 325 am ah I,H,b] w:=a.as;obtain⟨p,aP,aA⟩:=zG L m.v;refine ao ⟨⟨_,a⟩,?_⟩;refine ag 7 2 j (iF 25 (.pointer p) j aP (ag 9 3 j (bL (bo 5 j j (λN=>?_) (λN=>?_)))));refine bk 2 uV j (λr w⟨d,l,aQ,aM,x⟩=>?_);subst aQ;have a:=a.aO x;have a:C o i [bf n m,bd g av s c,ay 325 am ah I,H,b,ay 287 d l (.map #[] 0)] w:=a.as;have a:=a.drew;refine bx 1 j (λw=>∃ae,C o i ([bf n m,bd g av s c]++ae) w) ⟨_,a⟩ (ag 0 3 j (a8 3 j a2 (aK some E) (ag 4 1 j (a8 5 j a2 m.fA (ag 6 1 j (aX 7 j ?_))))));have y:=GC (k:=m.v) (v:=aa d) (a.ours (cM:=[ay 325 am ah I])) hm;refine bK j j j y (λw⟨e,G,x⟩=>?_);have a:=a.b1 x;have a:C o i [bf n m,bd g av s c,ay 325 am ah e,H,b,ay 287 d l (.map #[] 0)] w:=a.as;refine ao ⟨⟨_,a⟩,?_⟩;refine bL ?_;have Z:aV s.dB m.v=none:=l7 ((L.isSome m.v).symm.trans (by simpa using N))
 obtain⟨z,e,t,R,dG,H1,u,q,G,Q,D,T,J,a⟩:∃z e t R dG H1 u q,cf bG e z/\cf bG t R/\c4 jT R dG u/\(aV s.dB m.v).getD []=dG/\(∀bZ B,iT (aa d) bZ B->c4 iT z (bV s.dB m.v bZ) (H1++(B++q)))/\C o i [bf n m,bd g av s c,ay 325 am ah e,H1,ay 287 d l t,u,q,b] w:=
  ⟨_,e,_,[],[],H,[],[],G,aM,j,by rw [Z];rfl,λbZ B h=>by rw [gA];exact L.add Z h,C.perm (A:=[bf n m,bd g av s c,ay 325 am ah e,H,ay 287 d l (.map #[] 0),b]) a.as (by simp)⟩
 refine ar 4 j (ax (C.aj a) m.aH) ?_;rotate_left
 obtain⟨d,l,t,R,dG,u,H1,q,rfl,aT,Q,D,ak,J⟩:=aA.resolve_left (λh=>by have X:=L.isSome m.v;rw [h.2] at X;rw [X] at N;cases N);rw [ak] at a;obtain⟨e,z,G,J,a⟩:∃e z,cf bG e z/\(∀bZ B,iT (aa d) bZ B->c4 iT z (bV s.dB m.v bZ) (H1++(B++q)))/\C o i [bf n m,bd g av s c,ay 325 am ah e,H1,ay 287 d l t,u,q,b] w:=⟨I,ad,hm,J,C.perm (A:=[bf n m,bd g av s c,ay 325 am ah I,H1++((ay 287 d l t++u)++q),b]) a.as (by simp)⟩;have T:(aV s.dB m.v).getD []=dG:=by rw [aT];rfl
 refine ar 5 j (ax (C.aj a) m.aH) ?_;rotate_left
 all_goals
  have hw:=D.wide jT.wide;obtain⟨aU,aC,aE,aF⟩:=gl.get oI hw m.f;have y:=nl (k:=m.f) hw (dI.own (a.to (ay 287 d l t)) Q);refine br 0 y j (λw x=>?_);have a:=a.aO x;refine aq 2 j (bY 43 (.agg aU.toArray) j aC ?_);refine cx 1 a j (λaf w a=>c6 (a.bc af) j j j aF aE (by decide) (λw a=>?_));have a:C o i [bf n m,bd g av s c,ay 325 am ah e,H1,ay 287 d l t,u,q,b] w:=a.as;refine bo 5 j j (λS=>?_) (λS=>?_)
  .refine ar 3 j (ax (C.aj a) m.aH) (bP 0 (U:=m.cs) j j (m.bU ac) (bq (C.aj a)) ?_);have y:=vr (k:=m.f) (m.bU ac) m.one (a.ours (cM:=[ay 287 d l t])) Q;refine br 0 y j (λw⟨V,aG,x⟩=>?_);have a:=a.b1 x;refine an 0 j j ?_;have F:s.leads g s.aw m.P.v=true:=by simpa using M
   have O:(aV dG m.f).isSome=false:=(D.isSome m.f).symm.trans (by simpa using S)
   have K:s.status g m.P={s with dB:=bV s.dB m.v (bV dG m.f m.P)}:=by
    unfold ai.status;rw [aR F,show(aV s.dB m.P.v).getD []=dG from T];rw [show(aV dG m.P.f).isSome=false from O];rfl
   rw [K];refine⟨j,ay 325 am ah e++(H1++((ay 287 d l V++(u++b))++q)),⟨am,ah,e,z,_,E,G,J _ _ ⟨d,l,V,_,_,j,aG,D.add (l7 O) ⟨m,j,j,aJ⟩,j⟩,j⟩,C.perm (A:=[bd g av s c,ay 325 am ah e,H1,ay 287 d l V,u,b,q]) a.as (by simp)⟩
  refine an 1 j j ?_;have F:s.leads g s.aw m.P.v=true:=by simpa using M
  have O:(aV dG m.f).isSome=true:=(D.isSome m.f).symm.trans (by simpa using S)
  have K:s.status g m.P={s with dB:=bV s.dB m.v (dG)}:=by
   unfold ai.status;rw [aR F,show(aV s.dB m.P.v).getD []=dG from T];rw [show(aV dG m.P.f).isSome=true from O];rfl
  rw [K];refine⟨j,ay 325 am ah e++(H1++((ay 287 d l t++(u))++q)),⟨am,ah,e,z,_,E,G,J _ _ ⟨d,l,t,_,_,j,Q,D,j⟩,j⟩,C.perm (A:=[bd g av s c,ay 325 am ah e,H1,ay 287 d l t,u,q]) a.as (by simp)⟩
theorem CG{o:World}{av:Nat}{g:al}{s:ai}{c:eU}{m:aD}{b:List Chunk}(k:fw m b)(y:m.P.dF){b6 b5:List Chunk}(G:d6 c.value s.value b6)(F:en c.et s.et b5)(T:g.at o)(V:g.ok)(J:g.off (au [bd g av s c,b6,b5,b]))(a:Own [bd g av s c,b6,b5,b] o):Calls prog 187 #[aa av,.agg m.cs.toArray] o λr w=>r= .tuple #[]/\∃v1 v2 E D,d6 v1 (s.decision g m.P).value E/\en v2 (s.decision g m.P).et D/\C o (au [bd g av s c,b6,b5,b]) [bd g av (s.decision g m.P) {c with value:=v1,et:=v2},E,D] w:=by
 obtain⟨i,I⟩:∃i,i=au [bd g av s c,b6,b5,b]:=⟨_,j⟩;rw [<-I] at J⊢;have a:C o i [bd g av s c,b6,b5,b] o:=I▸a;have Z:m.tag.length=32:=y.tag;obtain⟨W,U,_,S⟩:=k.tQ;have ab:m.x.length<=200:=y.x;have Y:m.l.length<=10:=y.l;refine a6 func187 (bJ 2 a j j (λn w a=>?_));have a:C o i [bf n m,bd g av s c,b,b6,b5] w:=C.as (ae:=bf n m::[bd g av s c,b6,b5,b]) a;have a:=a.drew;refine bx 1 j (λw=>∃ae,C o i ([bf n m,bd g av s c,b]++ae) w) ⟨_,a⟩ (ag 0 1 j (a8 1 j a2 m.eZ (ag 2 3 j (ek 8 j (λeQ=>?_) (λeQ=>?_)))))
 .obtain⟨v,f,e⟩:∃v f,m.l=v::f:=by
   cases hm:m.l with
   |nil=>rw [hm] at eQ;cases eQ
   |cons v f=>exact⟨v,f,j⟩
  obtain⟨N,X,H⟩:=uj S (show Rd _ m.B ((v::f).flatMap aN.cs) by have h:=(k.read (a.holds (by simp))).1.l;rw [e] at h;exact h);refine ag 5 3 j (a8 8 j a2 j (ag 9 1 j (a8 10 j a2 m.eZ (ag 11 3 j (a8 14 j a2 j (ag 15 1 j (a8 16 j a2 m.eZ (iF 20 (.slice (some ⟨N,X,none⟩) m.l.length m.d) j (by rw [H]) (bl 17 j (λw _=>g4 (R:=0) j j (by rw [e];simp)) (ag 18 1 j (b4 19 j (λw⟨_,a⟩=>qv (by have h:=(k.read (a.holds (by simp))).1.l;rw [e,H] at h;exact h)) (ag 20 1 j (a8 21 j a2 m.fY (aX 22 j ?_))))))))))))));have q:=mZ (p:=m.x) (k.read (a.holds (by simp))).1.x (by omega) W;refine cS j j j q (λr w⟨A,u⟩=>?_);have A:r= .agg (aP (ca m.x)).toArray:=A;subst A;have a:=a.aO u;have a:C o i [bf n m,bd g av s c,b,b6,b5] w:=a.as;refine ao ⟨⟨_,a⟩,?_⟩;refine aX 23 j ?_;have q:=uK (g:=g) (B:=m.B) (l:=m.l) (d:=m.d) (kind:=2) (slot:=s.slot) (view:=v.v) (sum:=ca m.x) V y.aI (fm _) U (by omega) ⟨T.st a J,(k.read (a.holds (by simp))).1.l,al.off.nil g,cc.of_nil _ _⟩;refine bK j j j q (λw u=>?_);have a:=a.aO u;have a:C o i [bf n m,bd g av s c,b,b6,b5] w:=a.as;refine ao ⟨⟨_,a⟩,?_⟩;refine ag 24 1 j (bL (bo 0 j j (λz=>?_) (λz=>?_)))
  .refine ar 3 j (ax (C.aj a) m.fY) (ar 1 j (ax (C.aj a) m.eZ) ?_);have K:=(k.read (a.holds (by simp))).1;have q:=w7 (av:=av) (g:=g) (s:=s) (c:=c) (bN:=m.c) (d:=m.d) K.x K.l y.aI (by omega) (by omega) a.ours;refine br 0 q j (λw⟨v1,v2,L,M,O,Q,u⟩=>?_);have a:=a.b1 u;refine an 0 j j ?_
   have t:s.decision g m.P=s.gD m.x m.l:=by
    unfold ai.decision;rw [show m.P.l=v::f from e];exact(aR (by rw [<-e];exact z)).trans (by rw [<-e])
   rw [t];exact⟨j,v1,v2,L,M,O,Q,a.as⟩
  refine an 1 j j ?_
  have t:s.decision g m.P=s:=by
   unfold ai.decision;rw [show m.P.l=v::f from e];exact az (by rw [<-e];show¬meets g m.l 2 s.slot v.v (ca m.x)=true;rw [z];decide)
  rw [t];exact⟨j,c.value,c.et,b6,b5,G,F,a.as⟩
 refine ag 5 20 j (bL (an 2 j j ?_))
 have e:m.P.l=[]:=by
  cases hm:m.l with
  |nil=>exact hm
  |cons v f=>rw [hm] at eQ;simp at eQ
 have t:s.decision g m.P=s:=by unfold ai.decision;rw [e]
 rw [t];exact⟨j,c.value,c.et,b6,b5,G,F,a.as⟩
def ft(g:al)(av:Nat)(s:ai)(G:List Chunk):Prop:=∃(c:eU)(af aB bn cw cb bX bT cd b6 b5:List Chunk),tb s c af aB bn cw cb bX bT cd b6 b5/\G=bd g av s c++(af++(aB++(bn++(cw++(cb++(bX++(bT++(cd++(b6++b5)))))))))
theorem C.nx{g:al}{av:Nat}{s:ai}{c:eU}{af aB bn cw cb bX bT cd b6 b5:List Chunk}{ae:List (List Chunk)}{o w:World}{F:List Nat}(h:C o F ((bd g av s c++(af++(aB++(bn++(cw++(cb++(bX++(bT++(cd++(b6++b5))))))))))::ae) w):C o F (bd g av s c::af::aB::bn::cw::cb::bX::bT::cd::b6::b5::ae) w:=h.perm (by simp)
theorem C.gd{g:al}{av:Nat}{s:ai}{c:eU}{af aB bn cw cb bX bT cd b6 b5:List Chunk}{ae:List (List Chunk)}{o w:World}{F:List Nat}(h:C o F (bd g av s c::af::aB::bn::cw::cb::bX::bT::cd::b6::b5::ae) w):C o F ((bd g av s c++(af++(aB++(bn++(cw++(cb++(bX++(bT++(cd++(b6++b5))))))))))::ae) w:=h.perm (by simp)
theorem pP{ae cM ak:List (List Chunk)}[h:kk ae cM ak]:∀b∈au cM,b∈au ae:=λb a=>by
 obtain⟨I,c⟩:=nv.1 a;refine nv.2 ⟨I,(h.perm.flatten.mem_iff).2 ?_⟩;rw [gS];exact fL.2 (.inl c)
theorem C.eE{ae cM ak:List (List Chunk)}[h:kk ae cM ak]{g:al}{o w:World}{F:List Nat}(a:C o F ae w)(b:g.at o)(c:g.off F):g.off (au cM):=(b.apart a c).sub pP
theorem C.pv{ae cM ak:List (List Chunk)}[h:kk ae cM ak]{A:Option Addr}{U:List Value}(a:cc A U (au ae)):cc A U (au cM):=a.sub pP
theorem z4(g:al)(s:ai)(x:List UInt8):(s.aI g 1 x).1={s with dw:=bV s.dw s.view (hP ((aV s.dw s.view).getD []) (cT g 1 s.slot s.view (ca x) s.aw))}:=by
 unfold ai.aI ai.counts;dsimp only;rw [aR (show(cT g 1 s.slot s.view (ca x) s.aw).k=1 from j)];rfl
theorem z5(g:al)(s:ai)(x:List UInt8):(s.aI g 2 x).1={s with aC:=bV s.aC s.view (hP ((aV s.aC s.view).getD []) (cT g 2 s.slot s.view (ca x) s.aw))}:=by
 unfold ai.aI ai.counts;dsimp only;rw [az (show¬(cT g 2 s.slot s.view (ca x) s.aw).k=1 from by show¬(2:Int)=1;decide)];rfl
theorem EE(g:al)(s:ai)(c:eU){w:World}{av:Nat}{e:TypeId}{e0:Nat×Nat}(h:w.heap[av]? =some (.cells (jP g s c).toArray e e0)):Rd w (some ⟨av,0+4,none⟩) [ab s.im,c.dT,c.aZ]:=λi v a=>⟨_,j,by
 rw [add_lit];refine ax h ?_
 match i,a with
 |0,a=>exact a
 |1,a=>exact a
 |2,a=>exact a⟩
theorem FM{o:World}{av:Nat}{g:al}{s:ai}{G:List Chunk}(aD:ft g av s G){N:Nat}(D:s.ok g N)(aC:N<=1000000)(X:g.at o)(ak:g.ok)(O:g.off (au [G]))(a:Own [G] o):Calls prog 233 #[aa av] o λr w=>∃v bj af,r= .tuple #[v,.bool (s.fP g).isSome]/\cC v (((s.fP g).map Prod.snd).getD []) bj/\ft g av (((s.fP g).map Prod.fst).getD s) af/\C o (au [G]) [af,bj] w:=by
 obtain⟨c,af,aB,bn,cw,cb,bX,bT,cd,b6,b5,m,rfl⟩:=aD;obtain⟨e,ac⟩:∃e,e=au [bd g av s c++(af++(aB++(bn++(cw++(cb++(bX++(bT++(cd++(b6++b5)))))))))]:=⟨_,j⟩;rw [<-ac] at O⊢;have a:C o e [bd g av s c++(af++(aB++(bn++(cw++(cb++(bX++(bT++(cd++(b6++b5)))))))))] o:=ac▸a;have a:=a.nx;obtain⟨am,ah,I,ba,H,aG,hm,Q,aw⟩:=m.props;subst aw;have a:C o e [bd g av s c,ay 287 am ah I,H,af,aB,bn,cb,bX,bT,cd,b6,b5] o:=C.perm (A:=[bd g av s c,ay 287 am ah I++H,af,aB,bn,cb,bX,bT,cd,b6,b5]) a.as (by simp);have hw:=Q.wide jT.wide;obtain⟨n,L,ad,aP⟩:=gl.get oI hw s.view;refine a6 func233 ?_;have a:=a.drew;refine bx 5 j (λw=>∃ae,C o e ([bd g av s c]++ae) w) ⟨_,a⟩ (ag 0 3 j (a8 3 j a2 (aK some aG) (ag 4 3 j (a8 7 j a2 j (aS 8 12 j j ?_ ?_)))));have p:=nl (k:=s.view) hw (dI.own (a.to (ay 287 am ah I)) hm);refine bK j j j p (λw t=>?_);have a:=a.aO t;have a:C o e ([bd g av s c]++_) w:=a.front;refine ao ⟨⟨_,a⟩,?_⟩;refine ag 9 2 j (iF 16 (.agg n.toArray) j L (ag 11 1 j (aX 12 j (eu a j j (λu w a=>?_)))));have a:C o e ([bd g av s c]++_) w:=a.front;refine ao ⟨⟨_,a⟩,?_⟩;rotate_left
 refine eu a j j (λu w a=>?_);have a:C o e ([bd g av s c]++_) w:=a.front;refine ao ⟨⟨_,a⟩,?_⟩;refine aX 8 j ?_;have p:=nl (k:=s.view) hw (dI.own (a.to (ay 287 am ah I)) hm);refine bK j j j p (λw t=>?_);have a:=a.aO t;have a:C o e ([bd g av s c]++_) w:=a.front;refine ao ⟨⟨_,a⟩,?_⟩;refine ag 9 2 j (iF 16 (.agg n.toArray) j L (ag 11 1 j ?_));rotate_left
 all_goals
  refine aX 13 j (c6 (a.bc u) j j j aP ad (by decide) (λw a=>?_));have a:=C.whole (U:=n) a (by rw [ad];rfl);have a:C o e [bd g av s c,J u n.toArray 101,ay 287 am ah I,H,af,aB,bn,cb,bX,bT,cd,b6,b5] w:=a.as;refine ao ⟨⟨_,a⟩,?_⟩;refine ag 14 1 j (bL ?_);have a:C o e [bd g av s c,J u n.toArray 101,H,af,aB,ay 287 am ah I,bn,cb,bX,bT,cd,b6,b5] w:=a.as;have a:=a.drew;refine bx 2 j (λw=>∃ae,C o e ([bd g av s c,J u n.toArray 101,H,af,aB]++ae) w) ⟨_,a⟩ (ag 0 3 j (ek 20 j (λF=>?_) (λF=>?_)))
  .refine ag 3 34 j (bL (an 5 j j ?_));have a:C o e [bd g av s c,af,aB,bn,ay 287 am ah I++(H),cb,bX,bT,cd,b6,b5] _:=C.perm (A:=[bd g av s c,af,aB,bn,ay 287 am ah I,H,cb,bX,bT,cd,b6,b5]) a.as (by simp)
   have z:s.fP g=none:=by
    unfold ai.fP;rw [show aV s.props s.view=none from l7 ((Q.isSome s.view).symm.trans (by simpa using F))]
   rw [z];exact⟨_,[],_,j,cC.nil,⟨c,af,aB,bn,ay 287 am ah I++(H),cb,bX,bT,cd,b6,b5,m,j⟩,(C.gd a).empty.f1⟩
  obtain⟨q,E⟩:∃q,aV s.props s.view=some q:=by
   have y:=Q.isSome s.view;cases aq:aV s.props s.view with
   |none=>rw [aq] at y;rw [y] at F;cases F
   |some q=>exact⟨q,j⟩
  obtain⟨v,H1,f,i,aW,rfl,⟨bi,rfl,rfl,M⟩,a9⟩:=Q.find E
  obtain rfl:n=bi.cs:=by
   rw [aW] at L;have y:Value.agg bi.cs.toArray=Value.agg n.toArray:=L;injection y with y
   have:=aK Array.toList y;simpa using this.symm
  refine ag 3 3 j (a8 6 j a2 j (ag 7 3 j (a8 10 j a2 j (ag 11 3 j (ek 31 j (λK=>?_) (λK=>?_))))))
  .refine ag 14 23 j (bL (an 5 j j ?_));have a:C o e [bd g av s c,af,aB,bn,ay 287 am ah I++(H1++(f++i)),cb,bX,bT,cd,b6,b5] _:=C.perm (A:=[bd g av s c,af,aB,bn,ay 287 am ah I,H1++(f++i),cb,bX,bT,cd,b6,b5]) a.as (by simp)
   have z:s.fP g=none:=by
    unfold ai.fP;rw [E];exact aR (dV K)
   rw [z];exact⟨_,[],_,j,cC.nil,⟨c,af,aB,bn,ay 287 am ah I++(H1++(f++i)),cb,bX,bT,cd,b6,b5,m,j⟩,(C.gd a).empty.f1⟩
  refine ag 14 3 j (a8 17 j a2 j (ag 18 3 j (bl 21 j (λw⟨_,a⟩=>dd (U:=[ab s.im,c.dT,c.aZ]) j j j (EE g s c (C.aj (b:=av) a))) (ag 22 3 j (a8 25 j a2 j (ag 26 3 j (a8 29 j a2 j (ag 30 1 j (a8 31 j a2 bi.fY (ag 32 1 j (a8 33 j a2 bi.eZ ?_)))))))))));obtain⟨ap,aQ,a3,aH⟩:=M.tQ;obtain⟨Z,a5⟩:=M.read (show Holds _ f from(a.holds (G:=H1++(f++i)) (by simp)).right.left);obtain⟨R,W,aU,aM,_,aY,a4⟩:=m.dT.read (a.holds (by simp));obtain⟨S,dl,aT,aN,_,a0,aJ⟩:=m.aZ.read (a.holds (by simp));have aL:(⟨s.im,R,s.dT,W,S,s.aZ,dl⟩:gi).cs=[ab s.im,c.dT,c.aZ]:=by rw [aU,aT]
  refine iF 39 (.agg (⟨s.im,R,s.dT,W,S,s.aZ,dl⟩:gi).cs.toArray) j (by rw [aL]) (aX 34 j ?_);have Y:bi.P.dF:=D.sf _ (io E);have p:=EP (g:=g) (k:=⟨s.im,R,s.dT,W,S,s.aZ,dl⟩) (B:=bi.B) (a7:=bi.A) (l:=bi.l) (value:=bi.x) (d:=bi.d) (c:=bi.c) (slot:=s.slot) (view:=s.view) ak ⟨aY,a0,D.l6,aM,aN,by have:=D.dT;show s.dT.length<=1000;omega,by have:=D.aZ;show s.aZ.length<=1000;omega,aJ⟩ Z.aI aH aQ (by have h:bi.l.length<=10:=Y.l;omega) ⟨X.st a O,Z.l,al.off.nil g,cc.of_nil _ _⟩ Z.x (by have h:bi.x.length<=200:=Y.x;omega) ap;refine bK j j j p (λw t=>?_);have a:=a.aO t;have a:C o e [bd g av s c,J u bi.cs.toArray 101,H1++(f++i),af,aB,ay 287 am ah I,bn,cb,bX,bT,cd,b6,b5] w:=a.as;refine ao ⟨⟨_,a⟩,?_⟩;refine ag 35 2 j (bL (bo 0 j j (λV=>?_) (λV=>?_)))
  .refine an 4 j j ?_;have a:C o e [bd g av s c,af,aB,bn,ay 287 am ah I++(H1++(f++i)),cb,bX,bT,cd,b6,b5] _:=C.perm (A:=[bd g av s c,af,aB,bn,ay 287 am ah I,H1++(f++i),cb,bX,bT,cd,b6,b5]) a.as (by simp)
   have z:s.fP g=none:=by
    unfold ai.fP;rw [E];exact(az (dY K)).trans (az (by simpa using V))
   rw [z];exact⟨_,[],_,j,cC.nil,⟨c,af,aB,bn,ay 287 am ah I++(H1++(f++i)),cb,bX,bT,cd,b6,b5,m,j⟩,(C.gd a).empty.f1⟩
  refine ar 7 j (ax (C.aj a) j) (dE 2 (a.bc av) j j j j (λw a=>?_));have a:C o e (bd g av {s with iv:=s.view} c::_) w:=a;refine ar 4 j (ax (C.aj a) bi.fY) ?_;have a:C o e [H1,f,i,bd g av {s with iv:=s.view} c,bX,ay 287 am ah I,af,aB,bn,cb,bT,cd,b6,b5] w:=C.perm (A:=[H1++(f++i),bd g av {s with iv:=s.view} c,bX,ay 287 am ah I,af,aB,bn,cb,bT,cd,b6,b5]) a.as (by simp);have a:C o e [f,bd g av {s with iv:=s.view} c,bX,ay 287 am ah I,H1,i,af,aB,bn,cb,bT,cd,b6,b5] w:=a.as;have aF:=(M.apart a).1;have p:=z7 (av:=av) (g:=g) (s:={s with iv:=s.view}) (c:=c) (k:=0) (hb:=bi.c) (by decide) m.dw D.ln aC a.ours (X.st a O) ak (a.eE X O) (M.read (a.holds (by simp))).1.x (C.pv aF) (by have h:bi.x.length<=200:=Y.x;omega) ap;refine bk 0 p j (λr w⟨T,bj,aA,aE,t⟩=>?_);have a:=a.b1 t;refine an 2 j j ?_
  have a1:s.fP g=some (({s with iv:=s.view}:ai).aI g 1 bi.x):=by
   unfold ai.fP;rw [E];exact(az (dY K)).trans (aR (by simpa using V))
  rw [a1];have a:C o e [bd g av {s with iv:=s.view} c,af,aB,bn,ay 287 am ah I++(H1++(f++i)),cb,T,bT,cd,b6,b5,bj] w:=C.perm (A:=[bd g av {s with iv:=s.view} c,af,aB,bn,ay 287 am ah I,H1,f,i,cb,T,bT,cd,b6,b5,bj]) (C.as a) (by simp);refine⟨_,bj,_,j,aA,⟨c,af,aB,bn,ay 287 am ah I++(H1++(f++i)),cb,T,bT,cd,b6,b5,?_,j⟩,C.gd a⟩;show tb (({s with iv:=s.view}:ai).aI g 1 bi.x).1 c _ _ _ _ _ _ _ _ _ _;rw [z4];exact{m with dw:=aE}
theorem Rd.move{A:Option Addr}{xs:List Value}{G:List Chunk}{w aJ:World}(h:Rd w A xs)(g:∀a,A=some a->a.block∈au [G])(d:Holds w G)(e:Holds aJ G):Rd aJ A xs:=λi v j=>by
 obtain⟨a,c,f⟩:=h i v j;refine⟨a,c,?_⟩;obtain⟨I,b⟩:=nv.1 (g a c);have b:(a.block,I)∈G:=by simpa using b
 rw [World.cell?_of_block (w:=w) (by rw [wb,e _ b,d _ b])];exact f
theorem Ct{o:World}{av:Nat}{g:al}{s:ai}{G:List Chunk}(S:ft g av s G){N:Nat}(m:s.ok g N)(J:N<=1000000)(u:g.at o)(z:g.ok)(q:g.off (au [G]))(b:Own [G] o):Calls prog 234 #[aa av] o λr w=>∃v bj af,r= .tuple #[v,.bool (s.gv g).isSome]/\cC v (((s.gv g).map Prod.snd).getD []) bj/\ft g av (((s.gv g).map Prod.fst).getD s) af/\C o (au [G]) [af,bj] w:=by
 obtain⟨c,af,aB,bn,cw,cb,bX,bT,cd,b6,b5,l,rfl⟩:=S;obtain⟨d,F⟩:∃d,d=au [bd g av s c++(af++(aB++(bn++(cw++(cb++(bX++(bT++(cd++(b6++b5)))))))))]:=⟨_,j⟩;rw [<-F] at q⊢;have b:C o d [bd g av s c++(af++(aB++(bn++(cw++(cb++(bX++(bT++(cd++(b6++b5)))))))))] o:=F▸b;have b:=b.nx;refine a6 func234 ?_;have b:=b.drew;refine bx 6 j (λw=>∃ae,C o d ([bd g av s c]++ae) w) ⟨_,b⟩ (ag 0 3 j (a8 3 j a2 j (ag 4 3 j (a8 7 j a2 j (ag 8 1 j (bL (cy 0 j j (λp=>?_) (λp=>?_))))))))
 .refine an 4 j j ?_;have b:C o d [bd g av s c,af,aB,bn,cw,cb,bX,bT,cd,b6,b5] _:=b.as
  have x:s.gv g=none:=by
   unfold ai.gv;exact aR p
  rw [x];exact⟨_,[],_,j,cC.nil,⟨c,af,aB,bn,cw,cb,bX,bT,cd,b6,b5,l,j⟩,(C.gd b).empty.f1⟩
 refine ar 8 j (ax (C.aj b) j) ?_;obtain⟨a,aD,H,Z,V,ap,R⟩:=l.dw.read (b.holds (by simp));have h:=wC (av:=av) (g:=g) (s:=s) (c:=c) (k:=0) (C.aj b) (by decide) Z V (view:=s.view);refine br 0 h j (λw i=>?_);have b:=b.aO i;obtain⟨c3,Y,P⟩:=hZ.F2 ap s.view (R.st i);refine bY 23 (.pointer c3) j Y ?_;have h:=xd (av:=av) (g:=g) (s:=s) (c:=c) (C.aj b) (u.st b q) z l.dg (b.holds (by simp)) m.oD P (fH.r1 m.ln s.view) J;refine bk 0 h j (λr w⟨v1,v2,ak,ah,i,ay⟩=>?_);subst ah;have b:=b.aO i;refine bo 12 j j (λt=>?_) (λt=>?_)
 .refine an 4 j j ?_;have b:C o d [bd g av s c,af,aB,bn,cw,cb,bX,bT,cd,b6,b5] _:=b.as
  have x:s.gv g=none:=by
   unfold ai.gv;rw [az p,show s.fS g (s.gU 1 s.view)=none from(show s.fS g ((aV s.dw s.view).getD [])=none by simpa using t)]
  rw [x];exact⟨_,[],_,j,cC.nil,⟨c,af,aB,bn,cw,cb,bX,bT,cd,b6,b5,l,j⟩,(C.gd b).empty.f1⟩
 obtain⟨y,B⟩:∃y,s.fS g ((aV s.dw s.view).getD [])=some y:=g8.1 (by simpa using t);obtain⟨⟨A,hb,rfl,aq,aA,M,D⟩,K⟩:=ay y B;obtain⟨f,d2,rfl,_,_⟩:=K.form;have O:=m.fS z (fH.r1 m.ln s.view) B;have L:=b.holds (G:=cb) (by simp);refine ar 7 j (ax (C.aj b) j) (dE 2 (b.bc av) j j j j (λw b=>?_));have b:C o d (bd g av {s with comm:=s.view} c::_) w:=b;have b:C o d [bd g av {s with comm:=s.view} c,af,aB,bn,cw,cb,bX,bT,cd,b6,b5,ak] w:=b.as;have b:=b.drew;refine bx 1 j (λw=>∃ae,C o d ([bd g av {s with comm:=s.view} c]++ae) w) ⟨_,b⟩ (ag 0 4 j (a8 4 j a2 j (ag 5 1 j (ag 7 1 j (aX 6 j ?_)))));have h:=gN (c:=hb) (M.move D L (b.holds (by simp))) (by have:=O.1;omega);refine cS j j j h (λr w⟨n,I,i⟩=>?_);obtain⟨e,aH,rfl,_,_⟩:=I.form;have b:=b.aO i;have b:C o d [bd g av {s with comm:=s.view} c,af,aB,bn,cw,cb,bX,bT,cd,b6,b5,ak,n] w:=b.as;refine ao ⟨⟨_,b⟩,?_⟩;refine bl 8 j (λw _=>eX (c:= #[ab s.view,.slice e y.1.length aH,.slice f y.2.length d2]) j (λ_=>by kernel_rfl)) (ag 9 2 j (dK 11 j (c6 (U:= #[ab s.view,.slice e y.1.length aH,.slice f y.2.length d2]) (b.bc av) j j j j j bO (λw b=>?_))));have b:C o d (bd g av {s with comm:=s.view,im:=s.view,dT:=y.1,aZ:=y.2} {c with dT:=.slice e y.1.length aH,aZ:=.slice f y.2.length d2}::_) w:=b;have b:C o d [bd g av {s with comm:=s.view,im:=s.view,dT:=y.1,aZ:=y.2} {c with dT:=.slice e y.1.length aH,aZ:=.slice f y.2.length d2},n,ak,bn,cw,cb,bX,bT,cd,b6,b5] w:=b.as;refine ao (c5 ?_);have am:=M.move D L (b.holds (by simp));have X:cc A (aP y.1) (au [bd g av {s with comm:=s.view,im:=s.view,dT:=y.1,aZ:=y.2} {c with dT:=.slice e y.1.length aH,aZ:=.slice f y.2.length d2},bT]):=λ_ a W ac=>(b.to cb).kN (D a W) (pP _ ac)
 have h:=z7 (av:=av) (g:=g) (s:={s with comm:=s.view,im:=s.view,dT:=y.1,aZ:=y.2}) (c:={c with dT:=.slice e y.1.length aH,aZ:=.slice f y.2.length d2}) (k:=1) (hb:=hb) (by decide) l.aC m.lo J b.ours (u.st b q) z (b.eE u q) am X (by have:=O.1;omega) aq;refine bk 4 h j (λaE w⟨E,bj,Q,T,ad⟩=>?_);have b:=b.b1 ad;refine an 2 j j ?_
 have aw:s.gv g=some (({s with comm:=s.view,im:=s.view,dT:=y.1,aZ:=y.2}:ai).aI g 2 y.1):=by
  unfold ai.gv;rw [az p,show s.fS g (s.gU 1 s.view)=some y from B]
 rw [aw];have b:C o d [bd g av {s with comm:=s.view,im:=s.view,dT:=y.1,aZ:=y.2} {c with dT:=.slice e y.1.length aH,aZ:=.slice f y.2.length d2},n,ak,bn,cw,cb,bX,E,cd,b6,b5,bj] w:=b.as;refine⟨_,bj,_,j,Q,⟨{c with dT:=.slice e y.1.length aH,aZ:=.slice f y.2.length d2},n,ak,bn,cw,cb,bX,E,cd,b6,b5,?_,j⟩,C.gd b⟩;show tb (({s with comm:=s.view,im:=s.view,dT:=y.1,aZ:=y.2}:ai).aI g 2 y.1).1 _ _ _ _ _ _ _ _ _ _ _;rw [z5];exact{l with dT:=I,aZ:=K,aC:=T}
theorem Do(g:al)(slot view:Int)(l:List (Int×aY))(p:Int×aY):ii g slot view (l++[p])=j7 g slot view (ii g slot view l).2.1 (ii g slot view l).2.2 p.2.x p.2.l:=by
 unfold ii;rw [nb];rfl
theorem Ce{g:al}{s:ai}(h:¬0<s.view):s.gM g=if 0<s.want.length then some (s.want,[]) else none:=az h
theorem wP{g:al}{s:ai}{l:List (Int×aY)}(h:0<s.view)(b:aV s.dB s.view=some l)(a:((aV l s.aw).isSome&&decide (dL g.n<=l.length))=true):
 s.gM g=if(ii g s.slot s.view (cW l)).1>=0 then some (ii g s.slot s.view (cW l)).2 else if 0<s.want.length then some (s.want,[]) else none:=by
 unfold ai.gM;rw [aR h,b];exact aR a
theorem Cf{g:al}{s:ai}(h:0<s.view)(a:aV s.dB s.view=none):s.gM g=none:=by
 unfold ai.gM;rw [aR h,a]
theorem wQ{g:al}{s:ai}{l:List (Int×aY)}(h:0<s.view)(b:aV s.dB s.view=some l)(a:((aV l s.aw).isSome&&decide (dL g.n<=l.length))=false):s.gM g=none:=by
 unfold ai.gM;rw [aR h,b];exact az (by rw [a];decide)
theorem gi.own.Fh{k:gi}{c2 a1:List Chunk}{w:World}(h:k.own c2 a1)(e:Holds w c2)(f:Holds w a1)(o:k.x.length<=1000)(i:k.l.length<=1000)(n:∀x∈k.l,x.ok):k.ok w:=by
 obtain⟨_,_,a,c,_,j,_⟩:=h.x.read e;obtain⟨_,_,b,d,_,m,g⟩:=h.l.read f;cases a;cases b;exact⟨j,m,n,c,d,o,i,g⟩
theorem GY{m:List (Int×Value)}{t:List (Int×List (Int×aY))}{G:List Chunk}(h:c4 iT m t G)(k:Int){w:World}(i:Holds w G):∃p b dG a,(aV m k).getD vF= .pointer p/\dI 287 w p b/\c4 jT b dG a/\Holds w a/\(aV t k).getD []=dG:=by
 obtain⟨p,g,f⟩:=zG h k;rcases f with⟨rfl,d⟩|⟨am,ah,I,b,l,a,af,aB,rfl,d,n,o,rfl,_⟩
 .exact⟨none,[],[],[],g,.inl ⟨j,j⟩,j,by intro c f;simp at f,by rw [d];rfl⟩
 .have e:=i.right.left;exact⟨_,b,l,a,g,.inr ⟨am,ah,I,j,e.left (am,_) (by simp),e.left (ah,I) (by simp),n⟩,o,e.right,by rw [d];rfl⟩
theorem Cg{o:World}{av:Nat}{g:al}{s:ai}{c:eU}(D:o.heap[av]? =some (.cells (jP g s c).toArray 284 (0,0))){N:Nat}(bE:s.ok g N)(ca:N<=1000000)(aZ:g.at o)(a6:g.ok){bn cd:List Chunk}(aW:d6 c.want s.want bn)(bh:fo 325 iT c.dB s.dB cd)(bm:Holds o bn)(bo:Holds o cd):Calls prog 268 #[aa av] o λr w=>∃v1 v2 ak,r= .tuple #[v1,v2,.bool (s.gM g).isSome]/\C o [] [ak] w/\∀y,s.gM g=some y->∃A hb B bg,v1= .slice A y.1.length hb/\v2= .slice B y.2.length bg/\Rd w A (aP y.1)/\Rd w B (vcs y.2)/\(∀a,A=some a->a.block∈au [ak++bn])/\∀a,B=some a->a.block∈au [ak++bn]:=by
 have e:Own [] o:=C.start o;obtain⟨b6,cg,b3,bv,bu,X,bp⟩:=bh.read bo;obtain⟨p,Y,dG,b5,bG,aB,H,bs,M⟩:=GY X s.view bp;have hw:=H.wide jT.wide;obtain⟨bW,bS,bT,bV⟩:=gl.get oI hw s.aw;obtain⟨ab,gt,Z,b7,b9,bP,_⟩:=aW.read bm
 have a3:dG.length<=N/\∀q∈dG,q.2.dF:=by
  rw [<-M];cases ad:aV s.dB s.view with
  |none=>exact⟨cp _,by simp⟩
  |some l=>exact bE.mm _ (io ad)
 refine jH func268 (bJ 2 e j j (λaC w e=>?_));have e:C o [] [J aC #[aa av] 128] w:=e;refine ar 6 j (ax (C.aj e) j) (ar 2 j (ax (e.b8 D) j) (cy 1 j j (λR=>?_) (λR=>?_)));have e:=e.drew;refine bx 1 j (λw=>∃ae,C o [] ([J aC #[aa av] 128]++ae) w) ⟨_,e⟩ (a8 0 j a2 j (ag 1 2 j (b4 3 j (λw⟨_,e⟩=>ax (e.b8 D) (aK some bv)) (a8 4 j a2 j (ag 5 2 j (b4 7 j (λw⟨_,e⟩=>ax (e.b8 D) j) (aX 8 j ?_)))))));have K:=xA (k:=s.view) (bu.st e);refine bK j j j K (λw I=>?_);have e:=e.aO I;have e:C o [] [J aC #[aa av] 128] w:=e.as;refine ao ⟨⟨_,e⟩,?_⟩;refine ag 9 2 j (iF 27 (.pointer p) j bG (ag 11 3 j (bL (ar 4 j (ax (C.aj e) j) (ar 2 j (ax (e.b8 D) j) ?_)))));have K:=nl (k:=s.aw) hw (aB.st e);refine br 0 K j (λw I=>?_);have e:=e.aO I;refine aq 2 j (bY 36 (.agg bW.toArray) j bS ?_);refine cx 1 e j (λbf w e=>c6 (e.bc bf) j j j bV bT (by decide) (λw e=>?_));have e:C o [] [J aC #[aa av] 128] w:=e.as;have e:C o [] [J aC #[aa av] 128] w:=e.as;have e:=e.drew;refine bx 2 j (λw=>∃ae,C o [] ([J aC #[aa av] 128]++ae) w) ⟨_,e⟩ (ag 0 3 j (ek 40 j (λT=>?_) (λT=>?_)))
 .refine ga 10 [3,4,5,6,7,9,8,10,11,12] j (bL (bH 6 j ⟨.tuple #[.slice none 0 0,.slice none 0 0,.bool false],λw F=>?_⟩));have e:=F.st e (cF _);refine⟨λa i=>iP (fn:=f268) i j _ _,?_⟩
  have Q:s.gM g=none:=by
   have O:=R;exact Cf O (l7 ((X.isSome s.view).symm.trans (by simpa using T)))
  refine⟨_,_,[],by rw [Q];rfl,e.bare.empty,λy t=>?_⟩;rw [Q] at t;cases t
 refine ag 3 4 j (ek 44 j (λah=>?_) (λah=>?_))
 .refine ga 6 [7,9,8,10,11,12] j (bL (bH 6 j ⟨.tuple #[.slice none 0 0,.slice none 0 0,.bool false],λw F=>?_⟩));have e:=F.st e (cF _);refine⟨λa i=>iP (fn:=f268) i j _ _,?_⟩
  have Q:s.gM g=none:=by
   have O:=R;exact wQ O (by have u:(aV s.dB s.view).isSome=true:=(X.isSome s.view).symm.trans (by simpa using T);cases z:aV s.dB s.view with|none=>(rw [z] at u;cases u)|some l=>(rw [z] at M;exact congrArg some M)) (by rw [<-H.isSome s.aw,show(aV Y s.aw).isSome=false from by simpa using ah];rfl)
  refine⟨_,_,[],by rw [Q];rfl,e.bare.empty,λy t=>?_⟩;rw [Q] at t;cases t
 refine ag 7 1 j (a8 9 j a2 j (aX 8 j ?_));have K:=x4 (aB.st e);refine bK j j j K (λw I=>?_);have e:=e.aO I;have e:C o [] [J aC #[aa av] 128] w:=e.as;refine ao ⟨⟨_,e⟩,?_⟩;refine aX 10 j (bK j j j (y8 (e.b8 D) (aZ.st e (al.off.nil g)) a6) (λck bQ=>?_));subst bQ;refine ao ⟨⟨_,e⟩,?_⟩;refine ag 11 2 j (bL (cy 0 j j (λam=>?_) (λam=>?_)))
 .refine bH 5 j ⟨.tuple #[.slice none 0 0,.slice none 0 0,.bool false],λw F=>?_⟩;have e:=F.st e (cF _);refine⟨λa i=>iP (fn:=f268) i j _ _,?_⟩
  have Q:s.gM g=none:=by
   have O:=R;exact wQ O (by have u:(aV s.dB s.view).isSome=true:=(X.isSome s.view).symm.trans (by simpa using T);cases z:aV s.dB s.view with|none=>(rw [z] at u;cases u)|some l=>(rw [z] at M;exact congrArg some M)) (by rw [decide_eq_false (show¬dL g.n<=dG.length by have u:=H.len;have z:(Y.length:Int)<(dL g.n:Nat):=am;omega),Bool.and_false])
  refine⟨_,_,[],by rw [Q];rfl,e.bare.empty,λy t=>?_⟩;rw [Q] at t;cases t
 refine br 3 free_spec j (λw I=>?_);have e:=e.aO I;refine cx 0 e j (λm w e=>c6 (e.bc m) j j j j j (by decide) (λw e=>?_));have e:=C.whole (U:=l5.cs) e j;have e:C o [] [J aC #[aa av] 128,J m l5.cs.toArray 275] w:=e.as;have K:=wf (o:=w) (p:=p);refine bk 4 K j (λr w⟨bb,bd,aL,ad⟩=>?_);subst aL;have e:=e.aO ad;have e:C o [] [J bb #[.pointer p] 129,[(bd,.cells #[.func (.func 259) #[] #[]] 52 (0,0))],J aC #[aa av] 128,J m l5.cs.toArray 275,[],[]] w:=e.empty.empty.as;have e:C o [] ([J bb #[.pointer p] 129,[(bd,.cells #[.func (.func 259) #[] #[]] 52 (0,0))]]++[J aC #[aa av] 128,J m l5.cs.toArray 275,[],[]]) w:=e
 refine jM 1 j (za (by have:=H.len;omega)) j (by have:=e.size;simpa using this) e j (λ_=>rfl) (by intro p a7;simp at a7;rcases a7 with rfl|rfl<;>rfl)
  (λpre ae=>∃(k:gi)(c2 a1:List Chunk),ae=[J aC #[aa av] 128,J m k.cs.toArray 275,c2,a1]/\k.own c2 a1/\k.P=ii g s.slot s.view ((cW dG).take pre.length)) (λ_ _=>False) ⟨l5,[],[],j,x8,j⟩ (λL aJ bt=>(aB.st e).st bt) (λ_ _ _ _=>trivial) ?_ ?_ (λ_ _ h=>h.elim) (λ_ _ _ h=>h.elim)
 .rintro y pre ⟨aS,bX⟩ b1 L ci bj ⟨k,c2,a1,rfl,W,E⟩ e;obtain⟨t1,t2,ch,bZ,be,b0,aE,ba,bF,bi,aQ,rfl,aG⟩:=H.nC bj;have aQ:bX= .agg bi.cs.toArray:=aQ;subst aQ;have a9:bi.tag.length=32:=(fy.one aG).tag bi (by simp);have a4:bi.P.dF:=a3.2 (aS,bi.P) (g7.1 (show(aS,bi.P)∈cW dG by rw [aE];simp))
  have bC:k.x.length<=200/\k.l.length<=10/\∀v∈k.l,v.ok:=by
   have h:=xH (g:=g) (slot:=s.slot) (view:=s.view) (l:=(cW dG).take pre.length) (λq aH=>a3.2 q (g7.1 (pe aH)));rw [<-E] at h;exact h
  have e:=C.gg e;refine cx 1 e j (λS w e=>c6 (e.bc S) j j j (by simpa using bi.one) (by rw [List.size_toArray];exact bi.bU a9) (by decide) (λw e=>?_));have e:=C.whole (U:=bi.cs) e (by rw [bi.bU a9];rfl);refine bH 0 j (⟨j,_,e,λL aT e=>?_⟩);have f:=e.bare;have e:=C.gg e;have f:=f.drew;have e:=e.drew;refine bx 1 j (λw=>C o [] [] w/\∃ae,C aT (au [J S bi.cs.toArray 101,J aC #[aa av] 128,J m k.cs.toArray 275,c2,a1]) ([J S bi.cs.toArray 101,J aC #[aa av] 128,J m k.cs.toArray 275,c2,a1]++ae) w) ⟨f,_,e⟩ (b4 0 j (λw⟨f,_,e⟩=>ax (C.aj e) j) (ag 1 2 j (b4 3 j (λw⟨f,_,e⟩=>ax (f.b8 D) j) ?_)));refine b4 4 j (λw⟨f,_,e⟩=>ax (C.aj e) j) (ag 5 2 j (b4 7 j (λw⟨f,_,e⟩=>ax (f.b8 D) j) (b4 8 j (λw⟨f,_,e⟩=>ax (C.aj e) j) (ag 9 2 j (b4 11 j (λw⟨f,_,e⟩=>ax (f.b8 D) j) (bl 12 j (λw⟨f,_,e⟩=>dd (U:=k.cs) j j j (bq (C.aj (b:=m) e))) (ag 13 1 j (b4 14 j (λw⟨f,_,e⟩=>ax (C.aj e) bi.fY) (ag 15 1 j (b4 16 j (λw⟨f,_,e⟩=>ax (C.aj e) bi.eZ) (bl 17 j (λw _=>eX (c:=(⟨-1,bi.A,bi.x,bi.c,bi.B,bi.l,bi.d⟩:gi).cs.toArray) j (λ_=>by kernel_rfl)) (aX 18 j ?_))))))))))));have bA:=e.holds (G:=c2) (by simp);have bB:=e.holds (G:=a1) (by simp);have an:=(aG.read (show Holds _ be from((bs.st f).perm bF).right.left)).1;obtain⟨bR,bD,cb,bz⟩:=aG.tQ;have a5:=W.Fh bA bB (by omega) (by omega) bC.2.2;have cf:bi.x.length<=200:=a4.x;have ce:bi.l.length<=10:=a4.l;have a0:=aZ.st f (al.off.nil g);have K:=DD (a:=k) (b:=⟨-1,bi.A,bi.x,bi.c,bi.B,bi.l,bi.d⟩) (slot:=s.slot) (below:=s.view) a6 a5 ⟨an.x,an.l,an.aI,bR,bD,by show bi.x.length<=1000;omega,by show bi.l.length<=1000;omega,bz⟩ ⟨a0,a5.sk,al.off.nil g,cc.of_nil _ _⟩ ⟨a0,an.l,al.off.nil g,cc.of_nil _ _⟩;refine cS j j j K (λr w⟨q,ac,af,aL,aH,bI,I⟩=>?_);subst aL;have e:=e.aO I;have f:=f.aO I;have f:=f.bare;have e:C aT (au [J S bi.cs.toArray 101,J aC #[aa av] 128,J m k.cs.toArray 275,c2,a1]) [J S bi.cs.toArray 101,J aC #[aa av] 128,J m k.cs.toArray 275,c2,a1,ac,af] w:=e.as;refine ao ⟨⟨f,_,e⟩,?_⟩;refine dK 19 j (c6 (e.bc m) j j j j j bO (λw e=>?_));have e:=C.whole (U:=q.cs) e j;have e:C aT (au [J S bi.cs.toArray 101,J aC #[aa av] 128,J m k.cs.toArray 275,c2,a1]) [J aC #[aa av] 128,J m q.cs.toArray 275,ac,af] w:=e.as;refine ao (c5 (bH 0 j (⟨[J aC #[aa av] 128,J m q.cs.toArray 275,ac,af],e,q,ac,af,j,aH,?_⟩)));have ay:(cW dG).take pre.length=t1:=by rw [aE,<-ba,lQ]
  have aA:(cW dG).take (pre.length+1)=t1++[(aS,bi.P)]:=by
   rw [aE,<-ba,o9,List.take_of_length_le (by omega),show t1.length+1-t1.length=1 by omega];rfl
  rw [cj,List.length_singleton,aA,Do,bI];rw [ay] at E;rw [<-E]
 rintro xs b2 w aY ⟨k,c2,a1,rfl,W,E⟩ e;refine ar 3 j (ax (C.aj e) j) (cy 1 j j (λap=>?_) (λap=>?_))
 .have e:C o [] [J m k.cs.toArray 275,c2,a1] w:=e.as;have e:=e.drew;refine bx 1 j (λw=>∃ae,C o [] ([J m k.cs.toArray 275,c2,a1]++ae) w) ⟨_,e⟩ (ag 0 1 j (a8 1 j a2 j (ag 2 1 j (a8 3 j a2 j (ag 4 3 j (bL (bH 0 j ⟨.tuple #[.slice k.A k.x.length k.c,.slice k.B k.l.length k.d,.bool true],λw F=>?_⟩)))))));have e:=F.st e (cF _);refine⟨λa i=>iP (fn:=f268) i j _ _,?_⟩;have O:=R;have aM:aV s.dB s.view=some dG:=by have u:(aV s.dB s.view).isSome=true:=(X.isSome s.view).symm.trans (by simpa using T);cases z:aV s.dB s.view with|none=>(rw [z] at u;cases u)|some l=>(rw [z] at M;exact congrArg some M)
  have aN:xs.length=dG.length:=by rw [aY,h8,H.len]
  have E:k.P=ii g s.slot s.view (cW dG):=by rw [E,ic (by rw [hN,aN];exact cF _)]
  have aD:=wP (g:=g) O aM (by rw [<-H.isSome s.aw,show(aV Y s.aw).isSome=true from by simpa using ah,decide_eq_true (show dL g.n<=dG.length by have u:=H.len;have z:¬(Y.length:Int)<(dL g.n:Nat):=am;omega)];rfl);have aF:(ii g s.slot s.view (cW dG)).1>=0:=by rw [<-E];exact ap
  have V:s.gM g=some (k.x,k.l):=aD.trans ((aR aF).trans (by rw [<-E]));obtain⟨_,_,ay,_,_,bM,_⟩:=W.x.read (e.holds (G:=c2) (by simp));obtain⟨_,_,aA,_,_,bN,_⟩:=W.l.read (e.holds (G:=a1) (by simp));cases ay;cases aA;refine⟨_,_,c2++a1,by rw [V];rfl,C.perm (A:=[c2,a1]) e.as (by simp),λy t=>?_⟩;rw [V] at t;cases t;refine⟨_,_,_,_,j,j,bM,bN,λa i=>?_,λa i=>?_⟩
  .have:=W.x.nn a i;simp [au] at this⊢;exact .inl this
  have:=W.l.nn a i;simp [au] at this⊢;exact .inr (.inl this)
 have e:C o [] [J aC #[aa av] 128] w:=e.as;have e:=e.drew;refine bx 2 j (λw=>∃ae,C o [] ([J aC #[aa av] 128]++ae) w) ⟨_,e⟩ (a8 0 j a2 j (ag 1 2 j (b4 3 j (λw⟨_,e⟩=>ax (e.b8 D) (aK some Z)) (a8 4 j a2 j (ag 5 2 j (b4 7 j (λw⟨_,e⟩=>ax (e.b8 D) (aK some Z)) (ag 8 5 j (bL (bH 0 j ⟨.tuple #[.slice ab s.want.length gt,.slice none 0 0,.bool (decide ((s.want.length:Int)>0))],λw F=>?_⟩)))))))));have e:=F.st e (cF _);refine⟨λa i=>iP (fn:=f268) i j _ _,?_⟩;have O:=R;have aM:aV s.dB s.view=some dG:=by have u:(aV s.dB s.view).isSome=true:=(X.isSome s.view).symm.trans (by simpa using T);cases z:aV s.dB s.view with|none=>(rw [z] at u;cases u)|some l=>(rw [z] at M;exact congrArg some M)
 have aN:xs.length=dG.length:=by rw [aY,h8,H.len]
 have E:k.P=ii g s.slot s.view (cW dG):=by rw [E,ic (by rw [hN,aN];exact cF _)]
 have aD:=wP (g:=g) O aM (by rw [<-H.isSome s.aw,show(aV Y s.aw).isSome=true from by simpa using ah,decide_eq_true (show dL g.n<=dG.length by have u:=H.len;have z:¬(Y.length:Int)<(dL g.n:Nat):=am;omega)];rfl);have aF:¬(ii g s.slot s.view (cW dG)).1>=0:=by rw [<-E];exact ap
 have V:=aD.trans (az aF);rotate_left
 have e:C o [] [J aC #[aa av] 128] w:=e.as;have e:=e.drew;refine bx 2 j (λw=>∃ae,C o [] ([J aC #[aa av] 128]++ae) w) ⟨_,e⟩ (a8 0 j a2 j (ag 1 2 j (b4 3 j (λw⟨_,e⟩=>ax (e.b8 D) (aK some Z)) (a8 4 j a2 j (ag 5 2 j (b4 7 j (λw⟨_,e⟩=>ax (e.b8 D) (aK some Z)) (ag 8 5 j (bL (bH 0 j ⟨.tuple #[.slice ab s.want.length gt,.slice none 0 0,.bool (decide ((s.want.length:Int)>0))],λw F=>?_⟩)))))))));have e:=F.st e (cF _);refine⟨λa i=>iP (fn:=f268) i j _ _,?_⟩;have V:=Ce (g:=g) (s:=s) R;rotate_left
 all_goals
  have bw:(s.gM g).isSome=decide ((s.want.length:Int)>0):=by
   rw [V];by_cases aU:0<s.want.length
   .rw [aR aU,hM (by omega)];rfl
   .rw [az aU,e7 (by omega)];rfl
  refine⟨_,_,[],by rw [bw],e.bare.empty,λy t=>?_⟩;rw [V] at t;split at t
  .cases t;refine⟨ab,gt,none,0,j,j,e.rd bP (cc.of_nil _ _),Rd.nil _ _,λa i=>?_,λa i=>by cases i⟩;have:=(Z▸aW:d6 (.slice ab s.want.length gt) s.want bn).nn a i;simpa [au] using this
  cases t
theorem ai.p6(g:al)(s:ai)(m:aY):s.hr g m={s with props:=(s.hr g m).props,dg:=(s.hr g m).dg}:=by
 unfold ai.hr;split
 .rfl
 .unfold ai.i1;split<;>rfl
theorem ai.z3(g:al)(s:ai)(m:aY):s.dv g m={s with dw:=(s.dv g m).dw,aC:=(s.dv g m).aC}:=by
 unfold ai.dv;split
 .rfl
 .split
  .unfold ai.counts;split<;>rfl
  .rfl
theorem ai.sw(g:al)(s:ai)(m:aY):s.status g m={s with dB:=(s.status g m).dB}:=by
 unfold ai.status;split<;>rfl
theorem ai.CF(g:al)(s:ai)(m:aY):s.decision g m={s with value:=(s.decision g m).value,et:=(s.decision g m).et,dec:=(s.decision g m).dec}:=by
 unfold ai.decision;split
 .rfl
 .split<;>rfl
theorem Holds.app{w:World}{A B:List Chunk}(a:Holds w A)(b:Holds w B):Holds w (A++B):=λc d=>(fL.1 d).elim (a c) (b c)
theorem FO{o:World}{av:Nat}{g:al}{s:ai}{G:List Chunk}(ac:ft g av s G){N:Nat}(n:s.ok g N)(V:N<=1000000)(p:g.at o)(D:g.ok)(l:g.off (au [G]))(a:Own [G] o):Calls prog 235 #[aa av] o λr w=>∃v bj af,r= .tuple #[v,.bool (s.gh g).isSome]/\cC v (((s.gh g).map Prod.snd).getD []) bj/\ft g av (((s.gh g).map Prod.fst).getD s) af/\C o (au [G]) [af,bj] w:=by
 obtain⟨c,af,aB,bn,cw,cb,bX,bT,cd,b6,b5,k,rfl⟩:=ac;obtain⟨b,T⟩:∃b,b=au [bd g av s c++(af++(aB++(bn++(cw++(cb++(bX++(bT++(cd++(b6++b5)))))))))]:=⟨_,j⟩;rw [<-T] at l⊢;have a:C o b [bd g av s c++(af++(aB++(bn++(cw++(cb++(bX++(bT++(cd++(b6++b5)))))))))] o:=T▸a;have a:=a.nx;refine a6 func235 ?_;have a:=a.drew;refine bx 6 j (λw=>∃ae,C o b ([bd g av s c]++ae) w) ⟨_,a⟩ (ag 0 4 j (a8 4 j a2 j (ag 5 3 j (a8 8 j a2 j (aX 9 j ?_)))));have e:=uF (av:=av) (s:=s) (c:=c) (C.aj a) (p.st a l) D (node:=s.aw) (view:=s.view) n.slot n.view;refine bK j j j e (λw f=>?_);have a:=a.aO f;have a:C o b [bd g av s c,af,aB,bn,cw,cb,bX,bT,cd,b6,b5] w:=a.as;refine ao ⟨⟨_,a⟩,?_⟩;refine ag 10 2 j (ek 19 j (λE=>?_) (λE=>?_))
 .refine ag 12 10 j (bL (an 5 j j ?_));have a:C o b [bd g av s c,af,aB,bn,cw,cb,bX,bT,cd,b6,b5] _:=a.as
  have z:s.gh g=none:=by
   unfold ai.gh;exact aR (.inl (by simpa using E))
  rw [z];exact⟨_,[],_,j,cC.nil,⟨c,af,aB,bn,cw,cb,bX,bT,cd,b6,b5,k,j⟩,(C.gd a).empty.f1⟩
 refine ag 12 3 j (a8 15 j a2 j (ag 16 3 j (a8 19 j a2 j (ag 20 2 j (bL (cy 0 j j (λF=>?_) (λF=>?_)))))))
 .refine an 4 j j ?_;have a:C o b [bd g av s c,af,aB,bn,cw,cb,bX,bT,cd,b6,b5] _:=a.as
  have z:s.gh g=none:=by
   unfold ai.gh;exact aR (.inr F)
  rw [z];exact⟨_,[],_,j,cC.nil,⟨c,af,aB,bn,cw,cb,bX,bT,cd,b6,b5,k,j⟩,(C.gd a).empty.f1⟩
 have e:=Cg (av:=av) (s:=s) (c:=c) (C.aj a) n V (p.st a l) D k.want k.dB (a.holds (by simp)) (a.holds (by simp));refine bk 4 e j (λr w⟨v1,v2,ak,L,f,aE⟩=>?_);subst L;have a:=a.aO f;have a:C o b [bd g av s c,af,aB,bn,cw,cb,bX,bT,cd,b6,b5,ak] w:=a.as;refine bo 12 j j (λI=>?_) (λI=>?_)
 .refine an 4 j j ?_;have a:C o b [bd g av s c,af,aB,bn,cw,cb,bX,bT,cd,b6,b5] _:=a.as
  have z:s.gh g=none:=by
   unfold ai.gh;rw [az (by rintro(h|h);(have u:s.leads g s.aw s.view=true:=by simpa using E);(rw [h] at u;cases u);exact absurd h F),show s.gM g=none from by simpa using I]
  rw [z];exact⟨_,[],_,j,cC.nil,⟨c,af,aB,bn,cw,cb,bX,bT,cd,b6,b5,k,j⟩,(C.gd a).empty.f1⟩
 obtain⟨y,M⟩:∃y,s.gM g=some y:=g8.1 (by simpa using I);obtain⟨A,hb,B,d,rfl,rfl,W,X,R,S⟩:=aE y M;have i:=n.gM M;have H:=Holds.app (a.holds (G:=ak) (by simp)) (a.holds (G:=bn) (by simp));refine ar 7 j (ax (C.aj a) j) (dE 2 (a.bc av) j j j j (λw a=>?_));have a:C o b (bd g av {s with prop:=s.view} c::_) w:=a;refine ar 5 j (ax (C.aj a) j) (aq 2 j (cP (c:=(⟨2,0,0,0,s.view,A,y.1,hb,B,y.2,d,cD⟩:aD).cs.toArray) j j j (λ_=>by kernel_rfl) ?_));refine cx 0 a j (λt w a=>cv 0 (a.bc t) j j j (by simpa using(⟨2,0,0,0,s.view,A,y.1,hb,B,y.2,d,cD⟩:aD).one) j (λw a=>?_));have a:=C.whole (U:=(⟨2,0,0,0,s.view,A,y.1,hb,B,y.2,d,cD⟩:aD).cs) a j;have a:C o b [bd g av {s with prop:=s.view} c,bf t (⟨2,0,0,0,s.view,A,y.1,hb,B,y.2,d,cD⟩:aD),af,aB,bn,cw,cb,bX,bT,cd,b6,b5,ak] w:=a.as;have a:=a.drew;refine bx 1 j (λw=>∃c ae,C o b ([bd g av {s with prop:=s.view} c,bf t (⟨2,0,0,0,s.view,A,y.1,hb,B,y.2,d,cD⟩:aD)]++ae) w) ⟨_,_,a⟩ (ag 0 2 j (bl 2 j (λw⟨_,_,a⟩=>dd (U:=(⟨2,0,0,0,s.view,A,y.1,hb,B,y.2,d,cD⟩:aD).cs) j j j (bq (C.aj a))) (ag 3 3 j (b4 6 j (λw⟨_,_,a⟩=>ax (C.aj a) j) (aX 7 j ?_)))));have x:=Holds.app (a.holds (G:=ak) (by simp)) (a.holds (G:=bn) (by simp));have J:(⟨2,0,0,0,s.view,A,y.1,hb,B,y.2,d,cD⟩:aD).ok _:=⟨W.move R H x,X.move S H x,i.2.2,j⟩;have e:=so (av:=av) (s:={s with prop:=s.view}) (c:=c) (C.aj a) (p.st a l) D J (by show y.1.length<=10000;have:=i.1;omega) (by show y.2.length<=1000;have:=i.2.1;omega) (to:=s.aw);refine cS j j j e (λr w⟨q,Y,L,ay,K,f⟩=>?_);subst L;have a:=a.aO f;have a:C o b [bd g av {s with prop:=s.view} c,bf t (⟨2,0,0,0,s.view,A,y.1,hb,B,y.2,d,cD⟩:aD),af,aB,bn,cw,cb,bX,bT,cd,b6,b5,ak,Y] w:=a.as;refine ao ⟨⟨_,_,a⟩,?_⟩;refine aX 8 j ?_;have ap:q.P.dF:=by rw [K];exact ai.qg i.1 i.2.1 i.2.2
 have aA:q.v=s.view:=aK aY.v K;have e:=y0 (av:=av) (g:=g) (s:={s with prop:=s.view}) (c:=c) (m:=q) ay ap n.slot (by rw [aA];exact n.view) k.props k.dg (ej n.dg V) (p.st a l) D (a.eE p l) a.ours;refine bK j j j e (λw⟨v1,O,Q,ab,ah,f⟩=>?_);have a:=a.b1 f;have a:C o b ([bd g av {s with prop:=s.view} {c with dg:=v1},bf t (⟨2,0,0,0,s.view,A,y.1,hb,B,y.2,d,cD⟩:aD)]++_) w:=a.front;refine ao ⟨⟨_,_,a⟩,?_⟩;refine bL (bP 3 (U:=(⟨2,0,0,0,s.view,A,y.1,hb,B,y.2,d,cD⟩:aD).cs) j j j (bq (C.aj a)) ?_);have x:=Holds.app (a.holds (G:=ak) (by simp)) (a.holds (G:=bn) (by simp));have J:(⟨2,0,0,0,s.view,A,y.1,hb,B,y.2,d,cD⟩:aD).ok _:=⟨W.move R H x,X.move S H x,i.2.2,j⟩;have e:=tB (av:=av) (s:={s with prop:=s.view}) (c:={c with dg:=v1}) (C.aj a) (p.st a l) D J (by show y.1.length<=10000;have:=i.1;omega) (by show y.2.length<=1000;have:=i.2.1;omega);refine bk 0 e j (λr w⟨bj,Z,f⟩=>?_);have a:=a.aO f;refine an 2 j j ?_
 have aC:s.gh g=some (({s with prop:=s.view}:ai).hr g (s.ju g ⟨2,0,0,0,s.view,y.1,y.2,cD⟩ s.aw),s.all g ⟨2,0,0,0,s.view,y.1,y.2,cD⟩):=by
  unfold ai.gh;rw [az (by rintro(h|h);(have u:s.leads g s.aw s.view=true:=by simpa using E);(rw [h] at u;cases u);exact absurd h F),M]
 have am:s.ju g ⟨2,0,0,0,s.view,y.1,y.2,cD⟩ s.aw=q.P:=K.symm;rw [aC,am];have a:C o b [bd g av {s with prop:=s.view} {c with dg:=v1},af,aB,bn,O,Q,bX,bT,cd,b6,b5,bj] w:=a.as;have ad:ft g av (({s with prop:=s.view}:ai).hr g q.P) _:=⟨{c with dg:=v1},af,aB,bn,O,Q,bX,bT,cd,b6,b5,by rw [ai.p6];exact{k with props:=ab,dg:=ah},j⟩;refine⟨_,bj,_,j,Z,ad,?_⟩;rw [ai.p6];exact C.gd a
theorem xk{α β:Type}{f:α->Option β}{l t1 t2:List α}{p:α}{n:Nat}(a:l=t1++p::t2)(aT:t1.length=n)(h:(l.take n).findSome? f=none)(b:f p=none):(l.take (n+1)).findSome? f=none:=by
 subst a;subst aT;exact xm h (by simp) (by simpa using b)
theorem xl{α β:Type}{f:α->Option β}{l t1 t2:List α}{p:α}{n:Nat}{y:β}(a:l=t1++p::t2)(aT:t1.length=n)(h:(l.take n).findSome? f=none)(b:f p=some y):l.findSome? f=some y:=by
 subst a;subst aT;exact uh h (by simp) y (by simpa using b)
theorem GH{o:World}{av:Nat}{g:al}{s:ai}{G:List Chunk}(aG:ft g av s G){N:Nat}(E:s.ok g N)(aF:N<=1000000)(aN:g.at o)(ac:g.ok)(ag:g.off (au [G]))(f:Own [G] o):Calls prog 232 #[aa av] o λr w=>∃v bj af,r= .tuple #[v,.bool (s.gG g).isSome]/\cC v (((s.gG g).map Prod.snd).getD []) bj/\ft g av (((s.gG g).map Prod.fst).getD s) af/\C o (au [G]) [af,bj] w:=by
 obtain⟨c,af,aB,bn,cw,cb,bX,bT,cd,b6,b5,n,rfl⟩:=aG;obtain⟨k,Z⟩:∃k,k=au [bd g av s c++(af++(aB++(bn++(cw++(cb++(bX++(bT++(cd++(b6++b5)))))))))]:=⟨_,j⟩;rw [<-Z] at ag⊢;have f:C o k [bd g av s c++(af++(aB++(bn++(cw++(cb++(bX++(bT++(cd++(b6++b5)))))))))] o:=Z▸f;have f:=f.nx;obtain⟨am,ah,I,a0,F,P,aT,U,D⟩:=n.aC;subst D;refine jH func232 (bJ 2 f j j (λaC w f=>cx 0 f j (λaS w f=>cx 0 f j (λi w f=>?_))));have f:C o k (J i #[.bool false] 4::J aS #[.slice none 0 0] 58::J aC #[aa av] 128::_) w:=f;refine ar 3 j (ax (C.aj f) j) (aq 2 j (qJ (R:=1) j j j j (by decide) ?_));refine ar 0 j (ax (C.aj (b:=av) f) (aK some P)) ?_;obtain⟨a,O⟩:∃a:Option Addr,a=some ⟨am,0,none⟩:=⟨_,j⟩;have P:c.aC= .pointer a:=P.trans (by rw [O]);refine bY 13 (.pointer a) j (by rw [O]) ?_
 have aL:dI 328 w a a0:=by
  have h:=(f.holds (G:=ay 328 am ah I++F) (by simp)).left;exact .inr ⟨am,ah,I,O,h (am,_) (by simp),h (ah,I) (by simp),aT⟩
 have B:=Bj (o:=w) (p:=a);refine bk 0 B j (λr w⟨ap,aw,S,ad⟩=>?_);subst S;have aI:=aL.st ad;have f:=f.aO ad;have f:C o k [J ap #[.pointer a] 279,[(aw,.cells #[.func (.func 292) #[] #[]] 52 (0,0))],J aC #[aa av] 128,J aS #[.slice none 0 0] 58,J i #[.bool false] 4,bd g av s c,af,aB,bn,cw,cb,bX,ay 328 am ah I++F,cd,b6,b5] w:=f.as;obtain⟨bT,D⟩:∃bT,bT=ay 328 am ah I++F:=⟨_,j⟩;rw [<-D] at f n;have f:C o k ([J ap #[.pointer a] 279,[(aw,.cells #[.func (.func 292) #[] #[]] 52 (0,0))]]++[J aC #[aa av] 128,J aS #[.slice none 0 0] 58,J i #[.bool false] 4,bd g av s c,af,aB,bn,cw,cb,bX,bT,cd,b6,b5]) w:=f
 refine jM 1 j (FS (by have a7:=U.len;have a8:=E.aC;omega)) j (by have:=f.size;simpa using this) f j (λ_=>rfl) (by intro p n;simp at n;rcases n with rfl|rfl<;>rfl)
  (λpre ae=>ae=[J aC #[aa av] 128,J aS #[.slice none 0 0] 58,J i #[.bool false] 4,bd g av s c,af,aB,bn,cw,cb,bX,bT,cd,b6,b5]/\((cW s.aC).take pre.length).findSome? (λp=>s.fS g p.2)=none) (λe ae=>match e with| .ret=>∃y q t l m,(cW s.aC).findSome? (λp=>s.fS g p.2)=some y/\d6 q y.1 l/\en t y.2 m/\ae=[J aC #[aa av] 128,J aS #[.slice none 0 0] 58,J i #[.bool true] 4,bd g av (s.gD y.1 y.2) {c with value:=q,et:=t},af,aB,bn,cw,cb,bX,bT,cd,l,m]|_=>False) ⟨j,j⟩ (λL aJ aE=>aI.st aE) (λ_ _ _ _=>trivial) ?_ ?_ ?_ (λ_ _ _ h=>h.elim)
 .rintro y pre ⟨ao,a1⟩ a6 L be aA ⟨rfl,u⟩ f;obtain⟨t1,t2,x,a4,X,a5,Q,an,aV,K⟩:=U.nC aA;have K:hZ a1 x X:=K;have Y:fH g N x:=E.lo (ao,x) (g7.1 (show(ao,x)∈cW s.aC by rw [Q];simp));have f:=C.gg f;refine bH 2 j (⟨j,_,f,λL a2 f=>?_⟩);have aP:=aN.st f ag;have f:=C.gg f;obtain⟨c3,rfl,aD⟩:=K.read (show Holds a2 X by have h:=f.holds (G:=bT) (by simp);rw [D] at h;exact(h.right.perm aV).right.left);refine ar 3 j (ax (C.aj f) j) ?_;have B:=xd (av:=av) (g:=g) (s:=s) (c:=c) (C.aj f) aP ac n.dg (f.holds (by simp)) E.oD aD Y aF;refine bk 1 B j (λr w⟨v1,v2,ak,S,aQ,aZ⟩=>?_);subst S;have f:=f.aO aQ;refine bo 10 j j (λH=>?_) (λH=>?_)
  .obtain⟨y,V⟩:∃y,s.fS g x=some y:=g8.1 H;obtain⟨⟨A,hb,rfl,a9,bb,aX,ba⟩,ab⟩:=aZ y V;obtain⟨a3,d2,rfl,_,_⟩:=ab.form;have W:=E.fS ac Y V;refine ar 2 j (ax (C.aj f) j) ?_;have B:=w7 (av:=av) (g:=g) (s:=s) (c:=c) (bN:=hb) (d:=d2) aX (f.f1.f1.holds (G:=ak) (by simp)|>λh=>by obtain⟨_,_,e,_,_,aW,_⟩:=ab.read h;cases e;exact aW) W.2.2 (by have:=W.1;omega) (by have:=W.2.1;omega) f.ours;refine br 2 B j (λw⟨q,t,l,m,z,M,aR⟩=>?_);have f:=f.b1 aR;refine dE 2 (f.bc aS) j j j j (λw f=>?_);have f:C _ _ (J aS #[.slice none 0 0] 58::_) w:=f;refine dE 0 (f.bc i) j j j j (λw f=>?_);have f:C _ _ (J i #[.bool true] 4::_) w:=f;exact bH 0 j ⟨[J aC #[aa av] 128,J aS #[.slice none 0 0] 58,J i #[.bool true] 4,bd g av (s.gD y.1 y.2) {c with value:=q,et:=t},af,aB,bn,cw,cb,bX,bT,cd,l,m],f.as,y,q,t,l,m,xl Q an u V,z,M,j⟩
  refine bH 1 j ?_;have aU:s.fS g x=none:=by simpa using H
  refine⟨[J aC #[aa av] 128,J aS #[.slice none 0 0] 58,J i #[.bool false] 4,bd g av s c,af,aB,bn,cw,cb,bX,bT,cd,b6,b5],f.as,j,?_⟩;rw [cj,List.length_singleton];exact xk Q an u aU
 .rintro xs az w aH ⟨rfl,u⟩ f;refine dE 2 (f.bc aS) j j j j (λw f=>?_);have f:C _ _ (J aS #[.slice none 0 0] 58::_) w:=f;refine dE 0 (f.bc i) j j j j (λw f=>?_);have f:C _ _ (J i #[.bool false] 4::_) w:=f;refine bH 0 j ⟨.tuple #[.slice none 0 0,.bool false],λw T=>?_⟩;have f:=T.st f (cF _);refine⟨zh results232 j j (ax (C.aj f) j) j j (ax (C.aj f) j),?_⟩;rw [aH,h8,U.len,ic (by rw [hN];exact cF _)] at u;have f:C o k [bd g av s c,af,aB,bn,cw,cb,bX,bT,cd,b6,b5] _:=f.as
  have u:s.gG g=none:=by
   unfold ai.gG;rw [u];rfl
  rw [u];exact⟨_,[],_,j,cC.nil,⟨c,af,aB,bn,cw,cb,bX,bT,cd,b6,b5,n,j⟩,(C.gd f).empty.f1⟩
 rintro az w z f;obtain⟨y,q,t,l,m,aM,z,M,rfl⟩:=z;refine⟨.tuple #[.slice none 0 0,.bool true],λw T=>?_⟩;have f:=T.st f (cF _);refine⟨zh results232 j j (ax (C.aj f) j) j j (ax (C.aj f) j),?_⟩;have aY:s.gG g=some (s.gD y.1 y.2,[]):=by unfold ai.gG;rw [aM];rfl
 rw [aY];have f:C o k [bd g av (s.gD y.1 y.2) {c with value:=q,et:=t},af,aB,bn,cw,cb,bX,bT,cd,l,m] w:=f.as;exact⟨_,[],_,j,cC.nil,⟨{c with value:=q,et:=t},af,aB,bn,cw,cb,bX,bT,cd,l,m,{n with value:=z,et:=M},j⟩,(C.gd f).empty.f1⟩
end Go.Proofs.YtmholjbhjcpkhaaGreatDoor.R
