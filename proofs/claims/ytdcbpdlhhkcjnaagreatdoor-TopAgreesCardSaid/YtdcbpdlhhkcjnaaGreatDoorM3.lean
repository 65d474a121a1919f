/- Part 3 of the proof. -/
import Derived.Test.YtdcbpdlhhkcjnaaGreatDoorM2
set_option linter.unusedVariables false
set_option linter.unusedSimpArgs false
set_option linter.unusedSectionVars false
set_option maxRecDepth 20000
set_option maxHeartbeats 4000000
namespace Go.Proofs.YtdcbpdlhhkcjnaaGreatDoor.R
open Go.Proofs.Tryz Go Go.RowKit Go.Proofs
theorem DS(g:al)(slot view:Int)(l:List (Int×aY))(p:Int×aY):iD g slot view (l++[p])=k4 g slot view (iD g slot view l).2.1 (iD g slot view l).2.2 p.2.x p.2.l:=by
 unfold iD
 rw [nC]
 rfl
theorem CO{g:al}{s:ai}(h:¬0<s.view):s.gN g=if 0<s.want.length then some (s.want,[]) else none:=aF h
theorem xf{g:al}{s:ai}{l:List (Int×aY)}(h:0<s.view)(b:a2 s.dh s.view=some l)(a:((a2 l s.am).isSome&&decide (h8 g.n<=l.length))=true):
 s.gN g=if(iD g s.slot s.view (db l)).1>=0 then some (iD g s.slot s.view (db l)).2 else if 0<s.want.length then some (s.want,[]) else none:=by
 unfold ai.gN
 rw [a6 h,b]
 exact a6 a
theorem CP{g:al}{s:ai}(h:0<s.view)(a:a2 s.dh s.view=none):s.gN g=none:=by
 unfold ai.gN
 rw [a6 h,a]
theorem xg{g:al}{s:ai}{l:List (Int×aY)}(h:0<s.view)(b:a2 s.dh s.view=some l)(a:((a2 l s.am).isSome&&decide (h8 g.n<=l.length))=false):s.gN g=none:=by
 unfold ai.gN
 rw [a6 h,b]
 exact aF (by rw [a];decide)
theorem gu.own.FL{k:gu}{c4 bd:List Chunk}{w:World}(h:k.own c4 bd)(e:Holds w c4)(f:Holds w bd)(n:k.x.length<=1000)(g:k.l.length<=1000)(m:∀x∈k.l,x.ok):k.ok w:=by
 obtain⟨_,_,a,c,_,i,_⟩:=h.x.read e
 obtain⟨_,_,b,d,_,j,bx⟩:=h.l.read f
 cases a;cases b
 exact⟨i,j,m,c,d,n,g,bx⟩
theorem Ht{m:List (Int×Value)}{t:List (Int×List (Int×aY))}{G:List Chunk}(h:c6 i8 m t G)(k:Int){w:World}(n:Holds w G):∃p b dz a,(a2 m k).getD vZ= .pointer p/\dG 288 w p b/\c6 j9 b dz a/\Holds w a/\(a2 t k).getD []=dz:=by
 obtain⟨p,g,f⟩:=Ah h k
 rcases f with⟨rfl,d⟩|⟨i,ag,I,b,l,a,ah,aA,rfl,d,o,q,rfl,_⟩
 .exact⟨none,[],[],[],g,.inl ⟨j,j⟩,j,by intro c f;simp at f,by rw [d];rfl⟩
 .have e:=n.right.left
  exact⟨_,b,l,a,g,.inr ⟨i,ag,I,j,e.left (i,_) (by simp),e.left (ag,I) (by simp),o⟩,q,e.right,by rw [d];rfl⟩
theorem CR{o:World}{aq:Nat}{g:al}{s:ai}{c:eT}(D:o.heap[aq]? =some (.cells (j4 g s c).toArray 285 (0,0))){N:Nat}(bK:s.ok g N)(ci:N<=1000000)(a0:g.at o)(a8:g.ok){bn cc:List Chunk}(aY:dN c.want s.want bn)(bl:fp 326 i8 c.dh s.dh cc)(bs:Holds o bn)(bt:Holds o cc):Calls prog 272 #[Z aq] o (aS λr w=>∃v1 v2 ak,r= .tuple #[v1,v2,.bool (s.gN g).isSome]/\C o [] [ak] w/\∀y,s.gN g=some y->∃A g7 B bj,v1= .slice A y.1.length g7/\v2= .slice B y.2.length bj/\Rd w A (aE y.1)/\Rd w B (vcs y.2)/\(∀a,A=some a->a.block∈av [ak++bn])/\∀a,B=some a->a.block∈av [ak++bn]):=by
 have e:Own [] o:=C.start o
 obtain⟨ce,cm,b9,bB,bA,X,bu⟩:=bl.read bt
 obtain⟨p,Y,dz,cb,bM,aB,H,bv,K⟩:=Ht X s.view bu
 have hw:=H.wide j9.wide
 obtain⟨b3,bZ,b0,b1⟩:=gx.get pj hw s.am
 obtain⟨ab,gC,aa,cf,cg,bV,_⟩:=aY.read bs
 have a3:dz.length<=N/\∀q∈dz,q.2.cP:=by
  rw [<-K]
  cases ad:a2 s.dh s.view with
  |none=>exact⟨ch _,by simp⟩
  |some l=>exact bK.mz _ (hN ad)
 refine iq [Z aq] (fn:=f272) func272 ntmps272 (bP 2 e j j (λax w e=>?_))
 have e:C o [] [R ax #[Z aq] 121] w:=e
 refine au 6 j (aw (C.aj e) j) (au 2 j (aw (e.cd D) j) (aT 1 j j (λQ=>?_) (λQ=>?_)))
 have e:=e.drew
 refine bz 1 j (λw=>∃ae,C o [] ([R ax #[Z aq] 121]++ae) w) ⟨_,e⟩ (be 0 j a7 j (af 1 2 j (bT 3 j (λw⟨_,e⟩=>aw (e.cd D) (aL some bB)) (be 4 j a7 j (af 5 2 j (bT 7 j (λw⟨_,e⟩=>aw (e.cd D) j) (aW 8 j ?_)))))))
 have J:=x4 (k:=s.view) (bA.st e)
 refine bF j j j J (λw I=>?_)
 have e:=e.aN I
 have e:C o [] [R ax #[Z aq] 121] w:=e.as
 refine an ⟨⟨_,e⟩,?_⟩
 refine af 9 2 j (iT 27 (.pointer p) j bM (af 11 3 j (bO (au 4 j (aw (C.aj e) j) (au 2 j (aw (e.cd D) j) ?_)))))
 have J:=nJ (k:=s.am) hw (aB.st e)
 refine bp 0 J j (λw I=>?_)
 have e:=e.aN I
 refine ar 2 j (b2 36 (.agg b3.toArray) j bZ ?_)
 refine cn 1 e j (λbi w e=>c5 (e.bf bi) j j j b1 b0 (by decide) (λw e=>?_))
 have e:C o [] [R ax #[Z aq] 121] w:=e.as
 have e:C o [] [R ax #[Z aq] 121] w:=e.as
 have e:=e.drew
 refine bz 2 j (λw=>∃ae,C o [] ([R ax #[Z aq] 121]++ae) w) ⟨_,e⟩ (af 0 3 j (ef 40 j (λT=>?_) (λT=>?_)))
 .refine fz 10 [3,4,5,6,7,9,8,10,11,12] j (bO (bJ 6 j ⟨.tuple #[.slice none 0 0,.slice none 0 0,.bool false],λw F=>?_⟩))
  have e:=F.st e (cB _)
  refine⟨λa i=>i4 (fn:=f272) i j _ _,?_⟩
  have O:s.gN g=none:=by
   have M:=br Q
   exact CP M (mh ((X.isSome s.view).symm.trans (by simpa using T)))
  refine⟨_,_,[],by rw [O];rfl,e.bare.empty,λy t=>?_⟩
  rw [O] at t;cases t
 refine af 3 4 j (ef 44 j (λah=>?_) (λah=>?_))
 .refine fz 6 [7,9,8,10,11,12] j (bO (bJ 6 j ⟨.tuple #[.slice none 0 0,.slice none 0 0,.bool false],λw F=>?_⟩))
  have e:=F.st e (cB _)
  refine⟨λa i=>i4 (fn:=f272) i j _ _,?_⟩
  have O:s.gN g=none:=by
   have M:=br Q
   exact xg M (by have u:(a2 s.dh s.view).isSome=true:=(X.isSome s.view).symm.trans (by simpa using T);cases z:a2 s.dh s.view with|none=>(rw [z] at u;cases u)|some l=>(rw [z] at K;exact congrArg some K)) (by rw [<-H.isSome s.am,show(a2 Y s.am).isSome=false from by simpa using ah];rfl)
  refine⟨_,_,[],by rw [O];rfl,e.bare.empty,λy t=>?_⟩
  rw [O] at t;cases t
 refine af 7 1 j (be 9 j a7 j (aW 8 j ?_))
 have J:=yy (aB.st e)
 refine bF j j j J (λw I=>?_)
 have e:=e.aN I
 have e:C o [] [R ax #[Z aq] 121] w:=e.as
 refine an ⟨⟨_,e⟩,?_⟩
 refine aW 10 j (bF j j j (zD (e.cd D) (a0.st e (al.off.nil g)) a8) (λcq bW=>?_))
 subst bW
 refine an ⟨⟨_,e⟩,?_⟩
 refine af 11 2 j (bO (aT 0 j j (λao=>?_) (λao=>?_)))
 .refine bJ 5 j ⟨.tuple #[.slice none 0 0,.slice none 0 0,.bool false],λw F=>?_⟩
  have e:=F.st e (cB _)
  refine⟨λa i=>i4 (fn:=f272) i j _ _,?_⟩
  have O:s.gN g=none:=by
   have M:=br Q
   exact xg M (by have u:(a2 s.dh s.view).isSome=true:=(X.isSome s.view).symm.trans (by simpa using T);cases z:a2 s.dh s.view with|none=>(rw [z] at u;cases u)|some l=>(rw [z] at K;exact congrArg some K)) (by rw [decide_eq_false (show¬h8 g.n<=dz.length by have u:=H.len;have z:(Y.length:Int)<(h8 g.n:Nat):=of_decide_eq_true ao;omega),Bool.and_false])
  refine⟨_,_,[],by rw [O];rfl,e.bare.empty,λy t=>?_⟩
  rw [O] at t;cases t
 refine bp 3 free_spec j (λw I=>?_)
 have e:=e.aN I
 refine cn 0 e j (λm w e=>c5 (e.bf m) j j j j j (by decide) (λw e=>?_))
 have e:=C.whole (U:=mg.cs) e j
 have e:C o [] [R ax #[Z aq] 121,R m mg.cs.toArray 276] w:=e.as
 have J:=wF (o:=w) (p:=p)
 refine bm 4 J j (λr w⟨bc,bg,aM,ad⟩=>?_)
 subst aM
 have e:=e.aN ad
 have e:C o [] [R bc #[.pointer p] 122,[(bg,.cells #[.func (.func 263) #[] #[]] 36 (0,0))],R ax #[Z aq] 121,R m mg.cs.toArray 276,[],[]] w:=e.empty.empty.as
 have e:C o [] ([R bc #[.pointer p] 122,[(bg,.cells #[.func (.func 263) #[] #[]] 36 (0,0))]]++[R ax #[Z aq] 121,R m mg.cs.toArray 276,[],[]]) w:=e
 refine jY 1 j (zF (by have:=H.len;omega)) j (by have:=e.size;simpa using this) e j (λ_=>rfl) (by intro p a9;simp at a9;rcases a9 with rfl|rfl<;>rfl)
  (λpre ae=>∃(k:gu)(c4 bd:List Chunk),ae=[R ax #[Z aq] 121,R m k.cs.toArray 276,c4,bd]/\k.own c4 bd/\k.P=iD g s.slot s.view ((db dz).take pre.length)) (λ_ _=>False) ⟨mg,[],[],j,yD,j⟩ (λL aI bx=>(aB.st e).st bx) (λ_ _ _ _=>trivial) ?_ ?_ (λ_ _ h=>h.elim) (λ_ _ _ h=>h.elim)
 .rintro y pre ⟨aR,b4⟩ b7 L cp bo ⟨k,c4,bd,rfl,W,E⟩ e
  obtain⟨t1,t2,co,b5,bh,b6,aD,bb,bL,bk,aQ,rfl,aJ⟩:=H.n0 bo
  have aQ:b4= .agg bk.cs.toArray:=aQ
  subst aQ
  have ba:bk.tag.length=32:=(fx.one aJ).tag bk (by simp)
  have a4:bk.P.cP:=a3.2 (aR,bk.P) (gS.1 (show(aR,bk.P)∈db dz by rw [aD];simp))
  have bH:k.x.length<=200/\k.l.length<=10/\∀v∈k.l,v.ok:=by
   have h:=yb (g:=g) (slot:=s.slot) (view:=s.view) (l:=(db dz).take pre.length) (λq aK=>a3.2 q (gS.1 (mR aK)))
   rw [<-E] at h
   exact h
  have e:=C.gs e
  refine cn 1 e j (λS w e=>c5 (e.bf S) j j j (by simpa using bk.one) (by rw [List.size_toArray];exact bk.bY ba) (by decide) (λw e=>?_))
  have e:=C.whole (U:=bk.cs) e (by rw [bk.bY ba];rfl)
  refine bJ 0 j (⟨j,_,e,λL aU e=>?_⟩)
  have f:=e.bare
  have e:=C.gs e
  have f:=f.drew
  have e:=e.drew
  refine bz 1 j (λw=>C o [] [] w/\∃ae,C aU (av [R S bk.cs.toArray 94,R ax #[Z aq] 121,R m k.cs.toArray 276,c4,bd]) ([R S bk.cs.toArray 94,R ax #[Z aq] 121,R m k.cs.toArray 276,c4,bd]++ae) w) ⟨f,_,e⟩ (bT 0 j (λw⟨f,_,e⟩=>aw (C.aj e) j) (af 1 2 j (bT 3 j (λw⟨f,_,e⟩=>aw (f.cd D) j) ?_)))
  refine bT 4 j (λw⟨f,_,e⟩=>aw (C.aj e) j) (af 5 2 j (bT 7 j (λw⟨f,_,e⟩=>aw (f.cd D) j) (bT 8 j (λw⟨f,_,e⟩=>aw (C.aj e) j) (af 9 2 j (bT 11 j (λw⟨f,_,e⟩=>aw (f.cd D) j) (aV 12 j (λw⟨f,_,e⟩=>dc (U:=k.cs) j j j (bq (C.aj (b:=m) e))) (af 13 1 j (bT 14 j (λw⟨f,_,e⟩=>aw (C.aj e) bk.ge) (af 15 1 j (bT 16 j (λw⟨f,_,e⟩=>aw (C.aj e) bk.eV) (aV 17 j (λw _=>e0 (c:=(⟨-1,bk.A,bk.x,bk.c,bk.B,bk.l,bk.d⟩:gu).cs.toArray) j (λ_=>by kernel_rfl)) (aW 18 j ?_))))))))))))
  have bE:=e.holds (G:=c4) (by simp)
  have bG:=e.holds (G:=bd) (by simp)
  have ap:=(aJ.read (show Holds _ bh from((bv.st f).perm bL).right.left)).1
  obtain⟨bX,bI,cj,bD⟩:=aJ.ud
  have a5:=W.FL bE bG (by omega) (by omega) bH.2.2
  have cl:bk.x.length<=200:=a4.x
  have ck:bk.l.length<=10:=a4.l
  have a1:=a0.st f (al.off.nil g)
  have J:=D4 (a:=k) (b:=⟨-1,bk.A,bk.x,bk.c,bk.B,bk.l,bk.d⟩) (slot:=s.slot) (below:=s.view) a8 a5 ⟨ap.x,ap.l,ap.aH,bX,bI,by show bk.x.length<=1000;omega,by show bk.l.length<=1000;omega,bD⟩ ⟨a1,a5.sE,al.off.nil g,bU.of_nil _ _⟩ ⟨a1,ap.l,al.off.nil g,bU.of_nil _ _⟩
  refine cN j j j J (λr w⟨q,ac,ag,aM,aK,bN,I⟩=>?_)
  subst aM
  have e:=e.aN I
  have f:=f.aN I
  have f:=f.bare
  have e:C aU (av [R S bk.cs.toArray 94,R ax #[Z aq] 121,R m k.cs.toArray 276,c4,bd]) [R S bk.cs.toArray 94,R ax #[Z aq] 121,R m k.cs.toArray 276,c4,bd,ac,ag] w:=e.as
  refine an ⟨⟨f,_,e⟩,?_⟩
  refine dy 19 j (c5 (e.bf m) j j j j j bR (λw e=>?_))
  have e:=C.whole (U:=q.cs) e j
  have e:C aU (av [R S bk.cs.toArray 94,R ax #[Z aq] 121,R m k.cs.toArray 276,c4,bd]) [R ax #[Z aq] 121,R m q.cs.toArray 276,ac,ag] w:=e.as
  refine an (cX (bJ 0 j (⟨[R ax #[Z aq] 121,R m q.cs.toArray 276,ac,ag],e,q,ac,ag,j,aK,?_⟩)))
  have az:(db dz).take pre.length=t1:=by rw [aD,<-bb,l2]
  have aA:(db dz).take (pre.length+1)=t1++[(aR,bk.P)]:=by
   rw [aD,<-bb,pH,List.take_of_length_le (by omega),show t1.length+1-t1.length=1 by omega]
   rfl
  rw [ca,List.length_singleton,aA,DS,bN]
  rw [az] at E
  rw [<-E]
 rintro xs b8 w aZ ⟨k,c4,bd,rfl,W,E⟩ e
 refine au 3 j (aw (C.aj e) j) (aT 1 j j (λay=>?_) (λay=>?_))
 .have e:C o [] [R m k.cs.toArray 276,c4,bd] w:=e.as
  have e:=e.drew
  refine bz 1 j (λw=>∃ae,C o [] ([R m k.cs.toArray 276,c4,bd]++ae) w) ⟨_,e⟩ (af 0 1 j (be 1 j a7 j (af 2 1 j (be 3 j a7 j (af 4 3 j (bO (bJ 0 j ⟨.tuple #[.slice k.A k.x.length k.c,.slice k.B k.l.length k.d,.bool true],λw F=>?_⟩)))))))
  have e:=F.st e (cB _)
  refine⟨λa i=>i4 (fn:=f272) i j _ _,?_⟩
  have M:=br Q
  have aO:a2 s.dh s.view=some dz:=by have u:(a2 s.dh s.view).isSome=true:=(X.isSome s.view).symm.trans (by simpa using T);cases z:a2 s.dh s.view with|none=>(rw [z] at u;cases u)|some l=>(rw [z] at K;exact congrArg some K)
  have aP:xs.length=dz.length:=by rw [aZ,iv,H.len]
  have E:k.P=iD g s.slot s.view (db dz):=by rw [E,il (by rw [hM,aP];exact cB _)]
  have aC:=xf (g:=g) M aO (by rw [<-H.isSome s.am,show(a2 Y s.am).isSome=true from by simpa using ah,decide_eq_true (show h8 g.n<=dz.length by have u:=H.len;have z:¬(Y.length:Int)<(h8 g.n:Nat):=of_decide_eq_false ao;omega)];rfl)
  have aG:(iD g s.slot s.view (db dz)).1>=0:=by rw [<-E];exact br ay
  have V:s.gN g=some (k.x,k.l):=aC.trans ((a6 aG).trans (by rw [<-E]))
  obtain⟨_,_,az,_,_,bQ,_⟩:=W.x.read (e.holds (G:=c4) (by simp))
  obtain⟨_,_,aA,_,_,bS,_⟩:=W.l.read (e.holds (G:=bd) (by simp))
  cases az;cases aA
  refine⟨_,_,c4++bd,by rw [V];rfl,C.perm (A:=[c4,bd]) e.as (by simp),λy t=>?_⟩
  rw [V] at t
  cases t
  refine⟨_,_,_,_,j,j,bQ,bS,λa i=>?_,λa i=>?_⟩
  .have:=W.x.nL a i
   simp [av] at this⊢
   exact .inl this
  have:=W.l.nL a i
  simp [av] at this⊢
  exact .inr (.inl this)
 have e:C o [] [R ax #[Z aq] 121] w:=e.as
 have e:=e.drew
 refine bz 2 j (λw=>∃ae,C o [] ([R ax #[Z aq] 121]++ae) w) ⟨_,e⟩ (be 0 j a7 j (af 1 2 j (bT 3 j (λw⟨_,e⟩=>aw (e.cd D) (aL some aa)) (be 4 j a7 j (af 5 2 j (bT 7 j (λw⟨_,e⟩=>aw (e.cd D) (aL some aa)) (af 8 5 j (bO (bJ 0 j ⟨.tuple #[.slice ab s.want.length gC,.slice none 0 0,.bool (decide ((s.want.length:Int)>0))],λw F=>?_⟩)))))))))
 have e:=F.st e (cB _)
 refine⟨λa i=>i4 (fn:=f272) i j _ _,?_⟩
 have M:=br Q
 have aO:a2 s.dh s.view=some dz:=by have u:(a2 s.dh s.view).isSome=true:=(X.isSome s.view).symm.trans (by simpa using T);cases z:a2 s.dh s.view with|none=>(rw [z] at u;cases u)|some l=>(rw [z] at K;exact congrArg some K)
 have aP:xs.length=dz.length:=by rw [aZ,iv,H.len]
 have E:k.P=iD g s.slot s.view (db dz):=by rw [E,il (by rw [hM,aP];exact cB _)]
 have aC:=xf (g:=g) M aO (by rw [<-H.isSome s.am,show(a2 Y s.am).isSome=true from by simpa using ah,decide_eq_true (show h8 g.n<=dz.length by have u:=H.len;have z:¬(Y.length:Int)<(h8 g.n:Nat):=of_decide_eq_false ao;omega)];rfl)
 have aG:¬(iD g s.slot s.view (db dz)).1>=0:=by rw [<-E];exact bw ay
 have V:=aC.trans (aF aG)
 rotate_left
 have e:C o [] [R ax #[Z aq] 121] w:=e.as
 have e:=e.drew
 refine bz 2 j (λw=>∃ae,C o [] ([R ax #[Z aq] 121]++ae) w) ⟨_,e⟩ (be 0 j a7 j (af 1 2 j (bT 3 j (λw⟨_,e⟩=>aw (e.cd D) (aL some aa)) (be 4 j a7 j (af 5 2 j (bT 7 j (λw⟨_,e⟩=>aw (e.cd D) (aL some aa)) (af 8 5 j (bO (bJ 0 j ⟨.tuple #[.slice ab s.want.length gC,.slice none 0 0,.bool (decide ((s.want.length:Int)>0))],λw F=>?_⟩)))))))))
 have e:=F.st e (cB _)
 refine⟨λa i=>i4 (fn:=f272) i j _ _,?_⟩
 have V:=CO (g:=g) (s:=s) (bw Q)
 rotate_left
 all_goals
  have bC:(s.gN g).isSome=decide ((s.want.length:Int)>0):=by
   rw [V]
   by_cases aX:0<s.want.length
   .rw [a6 aX,jb (by omega)];rfl
   .rw [aF aX,ff (by omega)];rfl
  refine⟨_,_,[],by rw [bC],e.bare.empty,λy t=>?_⟩
  rw [V] at t
  split at t
  .cases t
   refine⟨ab,gC,none,0,j,j,e.rd bV (bU.of_nil _ _),Rd.nil _ _,λa i=>?_,λa i=>by cases i⟩
   have:=(aa▸aY:dN (.slice ab s.want.length gC) s.want bn).nL a i
   simpa [av] using this
  cases t
theorem ai.qz(g:al)(s:ai)(m:aY):s.fZ g m={s with props:=(s.fZ g m).props,dg:=(s.fZ g m).dg}:=by
 unfold ai.fZ
 split
 .rfl
 .unfold ai.jF
  split<;>rfl
theorem ai.AC(g:al)(s:ai)(m:aY):s.di g m={s with cT:=(s.di g m).cT,ax:=(s.di g m).ax}:=by
 unfold ai.di
 split
 .rfl
 .split
  .unfold ai.counts
   split<;>rfl
  .rfl
theorem ai.sL(g:al)(s:ai)(m:aY):s.status g m={s with dh:=(s.status g m).dh}:=by
 unfold ai.status
 split<;>rfl
theorem ai.Df(g:al)(s:ai)(m:aY):s.decision g m={s with value:=(s.decision g m).value,dI:=(s.decision g m).dI,dec:=(s.decision g m).dec}:=by
 unfold ai.decision
 split
 .rfl
 .split<;>rfl
theorem Holds.app{w:World}{A B:List Chunk}(a:Holds w A)(b:Holds w B):Holds w (A++B):=λc d=>(dA.1 d).elim (a c) (b c)
theorem Gm{o:World}{aq:Nat}{g:al}{s:ai}{G:List Chunk}(ac:ft g aq s G){N:Nat}(n:s.ok g N)(V:N<=1000000)(p:g.at o)(D:g.ok)(l:g.off (av [G]))(a:Own [G] o):Calls prog 239 #[Z aq] o (aS λr w=>∃v bl ah,r= .tuple #[v,.bool (s.gP g).isSome]/\cz v (((s.gP g).map Prod.snd).getD []) bl/\ft g aq (((s.gP g).map Prod.fst).getD s) ah/\C o (av [G]) [ah,bl] w):=by
 obtain⟨c,ah,aA,bn,cv,cb,bZ,bW,cc,b8,b7,k,rfl⟩:=ac
 obtain⟨b,T⟩:∃b,b=av [bg g aq s c++(ah++(aA++(bn++(cv++(cb++(bZ++(bW++(cc++(b8++b7)))))))))]:=⟨_,j⟩
 rw [<-T] at l⊢
 have a:C o b [bg g aq s c++(ah++(aA++(bn++(cv++(cb++(bZ++(bW++(cc++(b8++b7)))))))))] o:=T▸a
 have a:=a.nU
 refine a1 [Z aq] func239 ntmps239 results239 ?_
 have a:=a.drew
 refine bz 6 j (λw=>∃ae,C o b ([bg g aq s c]++ae) w) ⟨_,a⟩ (af 0 4 j (be 4 j a7 j (af 5 3 j (be 8 j a7 j (aW 9 j ?_)))))
 have e:=uZ (aq:=aq) (s:=s) (c:=c) (C.aj a) (p.st a l) D (node:=s.am) (view:=s.view) n.slot n.view
 refine bF j j j e (λw f=>?_)
 have a:=a.aN f
 have a:C o b [bg g aq s c,ah,aA,bn,cv,cb,bZ,bW,cc,b8,b7] w:=a.as
 refine an ⟨⟨_,a⟩,?_⟩
 refine af 10 2 j (ef 19 j (λE=>?_) (λE=>?_))
 .refine af 12 10 j (bO (ao 5 j j ?_))
  have a:C o b [bg g aq s c,ah,aA,bn,cv,cb,bZ,bW,cc,b8,b7] _:=a.as
  have z:s.gP g=none:=by
   unfold ai.gP
   exact a6 (.inl (by simpa using E))
  rw [z]
  exact⟨_,[],_,j,cz.nil,⟨c,ah,aA,bn,cv,cb,bZ,bW,cc,b8,b7,k,j⟩,(C.gr a).empty.f1⟩
 refine af 12 3 j (be 15 j a7 j (af 16 3 j (be 19 j a7 j (af 20 2 j (bO (aT 0 j j (λF=>?_) (λF=>?_)))))))
 .refine ao 4 j j ?_
  have a:C o b [bg g aq s c,ah,aA,bn,cv,cb,bZ,bW,cc,b8,b7] _:=a.as
  have z:s.gP g=none:=by
   unfold ai.gP
   exact a6 (.inr (br F))
  rw [z]
  exact⟨_,[],_,j,cz.nil,⟨c,ah,aA,bn,cv,cb,bZ,bW,cc,b8,b7,k,j⟩,(C.gr a).empty.f1⟩
 have e:=CR (aq:=aq) (s:=s) (c:=c) (C.aj a) n V (p.st a l) D k.want k.dh (a.holds (by simp)) (a.holds (by simp))
 refine bm 4 e j (λr w⟨v1,v2,ak,L,f,aD⟩=>?_)
 subst L
 have a:=a.aN f
 have a:C o b [bg g aq s c,ah,aA,bn,cv,cb,bZ,bW,cc,b8,b7,ak] w:=a.as
 refine aT 12 j j (λI=>?_) (λI=>?_)
 .refine ao 4 j j ?_
  have a:C o b [bg g aq s c,ah,aA,bn,cv,cb,bZ,bW,cc,b8,b7] _:=a.as
  have z:s.gP g=none:=by
   unfold ai.gP
   rw [aF (by rintro(h|h);(have u:s.leads g s.am s.view=true:=by simpa using E);(rw [h] at u;cases u);exact absurd h (of_decide_eq_false F)),show s.gN g=none from by simpa using I]
  rw [z]
  exact⟨_,[],_,j,cz.nil,⟨c,ah,aA,bn,cv,cb,bZ,bW,cc,b8,b7,k,j⟩,(C.gr a).empty.f1⟩
 obtain⟨y,M⟩:∃y,s.gN g=some y:=g4.1 (by simpa using I)
 obtain⟨A,g7,B,d,rfl,rfl,W,X,R,S⟩:=aD y M
 have i:=n.gN M
 have H:=Holds.app (a.holds (G:=ak) (by simp)) (a.holds (G:=bn) (by simp))
 refine au 7 j (aw (C.aj a) j) (dD 2 (a.bf aq) j j j j (λw a=>?_))
 have a:C o b (bg g aq {s with prop:=s.view} c::_) w:=a
 refine au 5 j (aw (C.aj a) j) (ar 2 j (cO (c:=(⟨2,0,0,0,s.view,A,y.1,g7,B,y.2,d,cK⟩:aB).cs.toArray) j j j (λ_=>by kernel_rfl) ?_))
 refine cn 0 a j (λt w a=>cp 0 (a.bf t) j j j (by simpa using(⟨2,0,0,0,s.view,A,y.1,g7,B,y.2,d,cK⟩:aB).one) j (λw a=>?_))
 have a:=C.whole (U:=(⟨2,0,0,0,s.view,A,y.1,g7,B,y.2,d,cK⟩:aB).cs) a j
 have a:C o b [bg g aq {s with prop:=s.view} c,bi t (⟨2,0,0,0,s.view,A,y.1,g7,B,y.2,d,cK⟩:aB),ah,aA,bn,cv,cb,bZ,bW,cc,b8,b7,ak] w:=a.as
 have a:=a.drew
 refine bz 1 j (λw=>∃c ae,C o b ([bg g aq {s with prop:=s.view} c,bi t (⟨2,0,0,0,s.view,A,y.1,g7,B,y.2,d,cK⟩:aB)]++ae) w) ⟨_,_,a⟩ (af 0 2 j (aV 2 j (λw⟨_,_,a⟩=>dc (U:=(⟨2,0,0,0,s.view,A,y.1,g7,B,y.2,d,cK⟩:aB).cs) j j j (bq (C.aj a))) (af 3 3 j (bT 6 j (λw⟨_,_,a⟩=>aw (C.aj a) j) (aW 7 j ?_)))))
 have x:=Holds.app (a.holds (G:=ak) (by simp)) (a.holds (G:=bn) (by simp))
 have J:(⟨2,0,0,0,s.view,A,y.1,g7,B,y.2,d,cK⟩:aB).ok _:=⟨W.move R H x,X.move S H x,i.2.2,j⟩
 have e:=sH (aq:=aq) (s:={s with prop:=s.view}) (c:=c) (C.aj a) (p.st a l) D J (by show y.1.length<=10000;have:=i.1;omega) (by show y.2.length<=1000;have:=i.2.1;omega) (to:=s.am)
 refine cN j j j e (λr w⟨q,Y,L,ay,K,f⟩=>?_)
 subst L
 have a:=a.aN f
 have a:C o b [bg g aq {s with prop:=s.view} c,bi t (⟨2,0,0,0,s.view,A,y.1,g7,B,y.2,d,cK⟩:aB),ah,aA,bn,cv,cb,bZ,bW,cc,b8,b7,ak,Y] w:=a.as
 refine an ⟨⟨_,_,a⟩,?_⟩
 refine aW 8 j ?_
 have ax:q.P.cP:=by rw [K];exact ai.nn i.1 i.2.1 i.2.2
 have az:q.v=s.view:=aL aY.v K
 have e:=zx (aq:=aq) (g:=g) (s:={s with prop:=s.view}) (c:=c) (m:=q) ay ax n.slot (by rw [az];exact n.view) k.props k.dg (ed n.dg V) (p.st a l) D (a.ex p l) a.ours
 refine bF j j j e (λw⟨v1,O,Q,ab,ag,f⟩=>?_)
 have a:=a.b4 f
 have a:C o b ([bg g aq {s with prop:=s.view} {c with dg:=v1},bi t (⟨2,0,0,0,s.view,A,y.1,g7,B,y.2,d,cK⟩:aB)]++_) w:=a.front
 refine an ⟨⟨_,_,a⟩,?_⟩
 refine bO (bS 3 (U:=(⟨2,0,0,0,s.view,A,y.1,g7,B,y.2,d,cK⟩:aB).cs) j j j (bq (C.aj a)) ?_)
 have x:=Holds.app (a.holds (G:=ak) (by simp)) (a.holds (G:=bn) (by simp))
 have J:(⟨2,0,0,0,s.view,A,y.1,g7,B,y.2,d,cK⟩:aB).ok _:=⟨W.move R H x,X.move S H x,i.2.2,j⟩
 have e:=tS (aq:=aq) (s:={s with prop:=s.view}) (c:={c with dg:=v1}) (C.aj a) (p.st a l) D J (by show y.1.length<=10000;have:=i.1;omega) (by show y.2.length<=1000;have:=i.2.1;omega)
 refine bm 0 e j (λr w⟨bl,aa,f⟩=>?_)
 have a:=a.aN f
 refine ao 2 j j ?_
 have aC:s.gP g=some (({s with prop:=s.view}:ai).fZ g (s.jn g ⟨2,0,0,0,s.view,y.1,y.2,cK⟩ s.am),s.all g ⟨2,0,0,0,s.view,y.1,y.2,cK⟩):=by
  unfold ai.gP
  rw [aF (by rintro(h|h);(have u:s.leads g s.am s.view=true:=by simpa using E);(rw [h] at u;cases u);exact absurd h (of_decide_eq_false F)),M]
 have ap:s.jn g ⟨2,0,0,0,s.view,y.1,y.2,cK⟩ s.am=q.P:=K.symm
 rw [aC,ap]
 have a:C o b [bg g aq {s with prop:=s.view} {c with dg:=v1},ah,aA,bn,O,Q,bZ,bW,cc,b8,b7,bl] w:=a.as
 have ad:ft g aq (({s with prop:=s.view}:ai).fZ g q.P) _:=⟨{c with dg:=v1},ah,aA,bn,O,Q,bZ,bW,cc,b8,b7,by rw [ai.qz];exact{k with props:=ab,dg:=ag},j⟩
 refine⟨_,bl,_,j,aa,ad,?_⟩
 rw [ai.qz]
 exact C.gr a
theorem xO{α β:Type}{f:α->Option β}{l t1 t2:List α}{p:α}{n:Nat}(a:l=t1++p::t2)(aP:t1.length=n)(h:(l.take n).findSome? f=none)(b:f p=none):(l.take (n+1)).findSome? f=none:=by
 subst a
 subst aP
 exact xQ h (by simp) (by simpa using b)
theorem xP{α β:Type}{f:α->Option β}{l t1 t2:List α}{p:α}{n:Nat}{y:β}(a:l=t1++p::t2)(aP:t1.length=n)(h:(l.take n).findSome? f=none)(b:f p=some y):l.findSome? f=some y:=by
 subst a
 subst aP
 exact uC h (by simp) y (by simpa using b)
theorem Ha{o:World}{aq:Nat}{g:al}{s:ai}{G:List Chunk}(aG:ft g aq s G){N:Nat}(F:s.ok g N)(aF:N<=1000000)(aP:g.at o)(af:g.ok)(am:g.off (av [G]))(f:Own [G] o):Calls prog 236 #[Z aq] o (aS λr w=>∃v bl ah,r= .tuple #[v,.bool (s.gQ g).isSome]/\cz v (((s.gQ g).map Prod.snd).getD []) bl/\ft g aq (((s.gQ g).map Prod.fst).getD s) ah/\C o (av [G]) [ah,bl] w):=by
 obtain⟨c,ah,aA,bn,cv,cb,bZ,bW,cc,b8,b7,n,rfl⟩:=aG
 obtain⟨k,ab⟩:∃k,k=av [bg g aq s c++(ah++(aA++(bn++(cv++(cb++(bZ++(bW++(cc++(b8++b7)))))))))]:=⟨_,j⟩
 rw [<-ab] at am⊢
 have f:C o k [bg g aq s c++(ah++(aA++(bn++(cv++(cb++(bZ++(bW++(cc++(b8++b7)))))))))] o:=ab▸f
 have f:=f.nU
 obtain⟨z,ag,I,a2,H,Q,aV,V,E⟩:=n.ax
 subst E
 refine iq [Z aq] (fn:=f236) func236 ntmps236 (bP 2 f j j (λax w f=>cn 0 f j (λaJ w f=>cn 0 f j (λi w f=>?_))))
 have f:C o k (R i #[.bool false] 4::R aJ #[.slice none 0 0] 56::R ax #[Z aq] 121::_) w:=f
 refine au 3 j (aw (C.aj f) j) (ar 2 j (q9 (J:=1) j j j j (by decide) ?_))
 refine au 0 j (aw (C.aj (b:=aq) f) (aL some Q)) ?_
 obtain⟨a,P⟩:∃a:Option Addr,a=some ⟨z,0,none⟩:=⟨_,j⟩
 have Q:c.ax= .pointer a:=Q.trans (by rw [P])
 refine b2 13 (.pointer a) j (by rw [P]) ?_
 have aM:dG 329 w a a2:=by
  have h:=(f.holds (G:=ay 329 z ag I++H) (by simp)).left
  exact .inr ⟨z,ag,I,P,h (z,_) (by simp),h (ag,I) (by simp),aV⟩
 have D:=BT (o:=w) (p:=a)
 refine bm 0 D j (λr w⟨ap,az,T,ad⟩=>?_)
 subst T
 have aK:=aM.st ad
 have f:=f.aN ad
 have f:C o k [R ap #[.pointer a] 280,[(az,.cells #[.func (.func 296) #[] #[]] 36 (0,0))],R ax #[Z aq] 121,R aJ #[.slice none 0 0] 56,R i #[.bool false] 4,bg g aq s c,ah,aA,bn,cv,cb,bZ,ay 329 z ag I++H,cc,b8,b7] w:=f.as
 obtain⟨bW,E⟩:∃bW,bW=ay 329 z ag I++H:=⟨_,j⟩
 rw [<-E] at f n
 have f:C o k ([R ap #[.pointer a] 280,[(az,.cells #[.func (.func 296) #[] #[]] 36 (0,0))]]++[R ax #[Z aq] 121,R aJ #[.slice none 0 0] 56,R i #[.bool false] 4,bg g aq s c,ah,aA,bn,cv,cb,bZ,bW,cc,b8,b7]) w:=f
 refine jY 1 j (Gs (by have a9:=V.len;have ba:=F.ax;omega)) j (by have:=f.size;simpa using this) f j (λ_=>rfl) (by intro p n;simp at n;rcases n with rfl|rfl<;>rfl)
  (λpre ae=>ae=[R ax #[Z aq] 121,R aJ #[.slice none 0 0] 56,R i #[.bool false] 4,bg g aq s c,ah,aA,bn,cv,cb,bZ,bW,cc,b8,b7]/\((db s.ax).take pre.length).findSome? (λp=>s.fl g p.2)=none) (λe ae=>match e with| .ret=>∃y q t l m,(db s.ax).findSome? (λp=>s.fl g p.2)=some y/\dN q y.1 l/\ej t y.2 m/\ae=[R ax #[Z aq] 121,R aJ #[.slice none 0 0] 56,R i #[.bool true] 4,bg g aq (s.gg y.1 y.2) {c with value:=q,dI:=t},ah,aA,bn,cv,cb,bZ,bW,cc,l,m]|_=>False) ⟨j,j⟩ (λL aI aE=>aK.st aE) (λ_ _ _ _=>trivial) ?_ ?_ ?_ (λ_ _ _ h=>h.elim)
 .rintro y pre ⟨ao,a3⟩ a8 L be aC ⟨rfl,u⟩ f
  obtain⟨t1,t2,x,a6,Y,a7,S,an,aX,M⟩:=V.n0 aC
  have M:ie a3 x Y:=M
  have aa:fD g N x:=F.jT (ao,x) (gS.1 (show(ao,x)∈db s.ax by rw [S];simp))
  have f:=C.gs f
  refine bJ 2 j (⟨j,_,f,λL a4 f=>?_⟩)
  have aQ:=aP.st f am
  have f:=C.gs f
  obtain⟨cV,rfl,aD⟩:=M.read (show Holds a4 Y by have h:=f.holds (G:=bW) (by simp);rw [E] at h;exact(h.right.perm aX).right.left)
  refine au 3 j (aw (C.aj f) j) ?_
  have D:=xF (aq:=aq) (g:=g) (s:=s) (c:=c) (C.aj f) aQ af n.dg (f.holds (by simp)) F.pd aD aa aF
  refine bm 1 D j (λr w⟨v1,v2,ak,T,aR,a1⟩=>?_)
  subst T
  have f:=f.aN aR
  refine aT 10 j j (λK=>?_) (λK=>?_)
  .obtain⟨y,W⟩:∃y,s.fl g x=some y:=g4.1 K
   obtain⟨⟨A,g7,rfl,bb,bd,aZ,bc⟩,ac⟩:=a1 y W
   obtain⟨a5,d2,rfl,_,_⟩:=ac.form
   have X:=F.fl af aa W
   refine au 2 j (aw (C.aj f) j) ?_
   have D:=xx (aq:=aq) (g:=g) (s:=s) (c:=c) (bH:=g7) (d:=d2) aZ (f.f1.f1.holds (G:=ak) (by simp)|>λh=>by obtain⟨_,_,e,_,_,aY,_⟩:=ac.read h;cases e;exact aY) X.2.2 (by have:=X.1;omega) (by have:=X.2.1;omega) f.ours
   refine bp 2 D j (λw⟨q,t,l,m,B,O,aU⟩=>?_)
   have f:=f.b4 aU
   refine dD 2 (f.bf aJ) j j j j (λw f=>?_)
   have f:C _ _ (R aJ #[.slice none 0 0] 56::_) w:=f
   refine dD 0 (f.bf i) j j j j (λw f=>?_)
   have f:C _ _ (R i #[.bool true] 4::_) w:=f
   refine bJ 0 j ?_
   exact⟨[R ax #[Z aq] 121,R aJ #[.slice none 0 0] 56,R i #[.bool true] 4,bg g aq (s.gg y.1 y.2) {c with value:=q,dI:=t},ah,aA,bn,cv,cb,bZ,bW,cc,l,m],f.as,y,q,t,l,m,xP S an u W,B,O,j⟩
  refine bJ 1 j ?_
  have aW:s.fl g x=none:=by simpa using K
  refine⟨[R ax #[Z aq] 121,R aJ #[.slice none 0 0] 56,R i #[.bool false] 4,bg g aq s c,ah,aA,bn,cv,cb,bZ,bW,cc,b8,b7],f.as,j,?_⟩
  rw [ca,List.length_singleton]
  exact xO S an u aW
 .rintro xs aB w aH ⟨rfl,u⟩ f
  refine dD 2 (f.bf aJ) j j j j (λw f=>?_)
  have f:C _ _ (R aJ #[.slice none 0 0] 56::_) w:=f
  refine dD 0 (f.bf i) j j j j (λw f=>?_)
  have f:C _ _ (R i #[.bool false] 4::_) w:=f
  refine bJ 0 j ⟨.tuple #[.slice none 0 0,.bool false],λw U=>?_⟩
  have f:=U.st f (cB _)
  refine⟨zQ results236 j j (aw (C.aj f) j) j j (aw (C.aj f) j),?_⟩
  rw [aH,iv,V.len,il (by rw [hM];exact cB _)] at u
  have f:C o k [bg g aq s c,ah,aA,bn,cv,cb,bZ,bW,cc,b8,b7] _:=f.as
  have u:s.gQ g=none:=by
   unfold ai.gQ
   rw [u]
   rfl
  rw [u]
  exact⟨_,[],_,j,cz.nil,⟨c,ah,aA,bn,cv,cb,bZ,bW,cc,b8,b7,n,j⟩,(C.gr f).empty.f1⟩
 rintro aB w B f
 obtain⟨y,q,t,l,m,aO,B,O,rfl⟩:=B
 refine⟨.tuple #[.slice none 0 0,.bool true],λw U=>?_⟩
 have f:=U.st f (cB _)
 refine⟨zQ results236 j j (aw (C.aj f) j) j j (aw (C.aj f) j),?_⟩
 have a0:s.gQ g=some (s.gg y.1 y.2,[]):=by unfold ai.gQ;rw [aO];rfl
 rw [a0]
 have f:C o k [bg g aq (s.gg y.1 y.2) {c with value:=q,dI:=t},ah,aA,bn,cv,cb,bZ,bW,cc,l,m] w:=f.as
 exact⟨_,[],_,j,cz.nil,⟨{c with value:=q,dI:=t},ah,aA,bn,cv,cb,bZ,bW,cc,l,m,{n with value:=B,dI:=O},j⟩,(C.gr f).empty.f1⟩
theorem ft.aj{g:al}{aq:Nat}{s:ai}{G:List Chunk}{w:World}(h:ft g aq s G)(a:Holds w G):∃c,w.heap[aq]? =some (.cells (j4 g s c).toArray 285 (0,0)):=by
 obtain⟨c,ah,aA,bn,cv,cb,bZ,bW,cc,b8,b7,b,rfl⟩:=h
 exact⟨c,a.left.head⟩
section
variable {P:Program} {n:Fr} {aa:Env} {w:World} {Q:d5} {ops:Array Oper} {rest:List Oper} {dst:Option Nat} {ty:TypeId} {pos:String} {after:Array Edge} {g:Option (Nat×Bool)}
theorem nv{t:TypeId}{f:Array TypeId}{args:Array Operand}{z:Value}{bytes:Nat}{o:World}{F:List Nat}{c4 bd:List Chunk}{ae:List (List Chunk)}{v1 v2:Value}{dz b:List aY}
 [hu:bC P t (.slice 94)] [L:cq P 94 z 39 bytes] (v:C o F (c4::bd::ae) w) (m:cz v1 dz c4) (p:cz v2 b bd) (G:f= #[t,t]) (I:z.cells.size=39) (y:bytes<=1000)
 (D:cW ops aa g=some true) (B:c8 n dst=true) (H:fo aa args.toList=some [v1,v2]) (e:dz.length+b.length<=1000000000)
 (h:∀v3 bn aI,cz v3 (dz++b) bn->C o F (bn::ae) aI->O P n ops rest (cF aa dst v3) aI Q):O P n ops (⟨dst,.call ⟨.builtin .append,args,f⟩,ty,pos,after,g⟩::rest) aa w Q:=by
 obtain⟨J,rfl,i,eJ,rfl,s,q⟩:=m
 obtain⟨bc,rfl,k,fK,rfl,u,c⟩:=p
 rw [fy,fy] at e
 have d:C o F (i::eJ::k::fK::ae) w:=v.perm (by simp)
 obtain⟨K,dn,rfl,_,_,E,_⟩:=u.read (d.holds (by simp))
 refine eK d s G I (by decide) D B H (news:=fN bc) (x3 bc c.tag) E (uH bc) ?_ ?_ (λv3 a aI r x=>?_)
 .have:=rv e y;omega
 .unfold maxLen;omega
 .refine h v3 (a++(eJ++fK)) aI ⟨J++bc,by simp,a,eJ++fK,j,?_,q.app c⟩ (C.perm (A:=a::eJ::fK::ae) (x.f2.drop.f1|>λh=>?_) (by simp))
  .rw [ca,qf];exact r
  .exact h.ji (by
    have l:List.Perm (eJ::a::fK::ae) (a::eJ::fK::ae):=.swap ..
    first|exact l|exact .refl _)
end
theorem ai.tR(g:al)(s:ai)(m:aY):(s.all g m).length<=g.n:=by unfold ai.all;rw [List.length_map];exact zk _ _
theorem ai.EP(s:ai):s.left<=4:=by unfold ai.left;split<;>split<;>split<;>split<;>omega
theorem ai.z8{g:al}{s:ai}{r:ai×List aY}(h:s.gQ g=some r)(a:s.dec=false):r.1.left<s.left/\r.2.length<=g.n:=by
 unfold ai.gQ at h
 cases bx:(db s.ax).findSome? λp=>s.fl g p.2 with
 |none=>rw [bx] at h;cases h
 |some y=>
  rw [bx] at h
  cases h
  refine⟨?_,ch _⟩
  unfold ai.left ai.gg
  rw [a]
  simp
theorem ai.vx{g:al}{s:ai}{r:ai×List aY}(h:s.gt g=some r):r.1.left<s.left/\r.2.length<=g.n:=by
 unfold ai.gt at h
 split at h
 .cases h
 .split at h
  .cases h
  .split at h
   .cases h
    refine⟨?_,ai.tR _ _ _⟩
    rw [AD]
    unfold ai.left
    dsimp only
    rw [aF (show¬s.view<s.view by omega),a6 (show s.hO<s.view by omega)]
    omega
   .cases h
theorem ai.ug{g:al}{s:ai}{r:ai×List aY}(h:s.gX g=some r):r.1.left<s.left/\r.2.length<=g.n:=by
 unfold ai.gX at h
 split at h
 .cases h
 .split at h
  .cases h
  .cases h
   refine⟨?_,ai.tR _ _ _⟩
   rw [AE]
   unfold ai.left
   dsimp only
   rw [aF (show¬s.view<s.view by omega),a6 (show s.comm<s.view by omega)]
   omega
theorem ai.vy{g:al}{s:ai}{r:ai×List aY}(h:s.gP g=some r):r.1.left<s.left/\r.2.length<=g.n:=by
 unfold ai.gP at h
 split at h
 .cases h
 .rename_i aP
  split at h
  .cases h
  .cases h
   refine⟨?_,ai.tR _ _ _⟩
   have a:s.prop<s.view:=by
    by_cases h:s.prop<s.view
    .exact h
    .exact absurd (.inr (by omega)) aP
   dsimp only
   rw [ai.qz]
   unfold ai.left
   dsimp only
   rw [aF (show¬s.view<s.view by omega),a6 a]
   omega
theorem ss{I:Option (ai×List aY)}{k:Nat}(h:∀r,I=some r->r.2.length<=k):((I.map Prod.snd).getD []).length<=k:=by
 cases I with
 |none=>exact ch _
 |some r=>exact h r j
theorem ai.Hj{g:al}{s:ai}{r:ai×List aY}(h:s.gQ g=some r):s.step g=some r:=by unfold ai.step;rw [h]
theorem ai.Hk{g:al}{s:ai}{r:ai×List aY}(a:s.gQ g=none)(h:s.gt g=some r):s.step g=some r:=by unfold ai.step;rw [a];dsimp only;rw [h]
theorem ai.Hl{g:al}{s:ai}{r:ai×List aY}(a:s.gQ g=none)(b:s.gt g=none)(h:s.gX g=some r):s.step g=some r:=by unfold ai.step;rw [a];dsimp only;rw [b];dsimp only;rw [h]
theorem ai.Af{g:al}{s:ai}(a:s.gQ g=none)(b:s.gt g=none)(c:s.gX g=none):s.step g=s.gP g:=by unfold ai.step;rw [a];dsimp only;rw [b];dsimp only;rw [c]
theorem ai.uJ{g:al}{n:Nat}{s:ai}{l:List aY}(h:s.dec=true):ai.go g n s l=(s,l):=by
 cases n with
 |zero=>rfl
 |succ n=>unfold ai.go;rw [if_pos h]
theorem ai.DY{g:al}{n:Nat}{s:ai}{l:List aY}(h:s.step g=none):ai.go g n s l=(s,l):=by
 cases n with
 |zero=>rfl
 |succ n=>
  unfold ai.go
  split
  .rfl
  .rw [h]
theorem ai.r2{g:al}{n:Nat}{s:ai}{l:List aY}{r:ai×List aY}(a:s.dec=false)(h:s.step g=some r):ai.go g (n+1) s l=ai.go g n r.1 (l++r.2):=by
 rw [ai.go,aF (by rw [a];decide),h]
theorem lQ{o:World}{aq:Nat}{g:al}{s:ai}{G:List Chunk}(an:ft g aq s G){N:Nat}(aA:s.ok g N)(aB:N+5<=1000000)(S:g.at o)(f:g.ok)(O:g.off (av [G]))(a:Own [G] o):Calls prog 192 #[Z aq] o (aS λr w=>∃bl ah,cz r (s.steps g).2 bl/\ft g aq (s.steps g).1 ah/\C o (av [G]) [ah,bl] w):=by
 obtain⟨P,ae⟩:∃P,P=av [G]:=⟨_,j⟩
 rw [<-ae] at O⊢
 have a:C o P [G] o:=ae▸a
 refine a1 [Z aq] func192 ntmps192 results192 ?_
 refine cY 11 j (cA:=Bool×Nat×ai×List aY×Value×List Chunk×List Chunk×Nat) (λi=>[(0,Z aq),(3,i.2.2.2.2.1),(4,.bool i.1)])
  (λi w=>i.2.2.1.ok g i.2.2.2.2.2.2.2/\i.2.2.2.2.2.2.2+i.2.1<=N+5/\i.2.2.2.1.length+10*i.2.1<=50/\ft g aq i.2.2.1 i.2.2.2.2.2.1/\cz i.2.2.2.2.1 i.2.2.2.1 i.2.2.2.2.2.2.1/\(if i.1=true then i.2.2.1.left<i.2.1/\s.steps g=ai.go g i.2.1 i.2.2.1 i.2.2.2.1 else s.steps g=(i.2.2.1,i.2.2.2.1))/\C o P [i.2.2.2.2.2.1,i.2.2.2.2.2.2.1] w) (λi=>2*i.2.1+(if i.1=true then 1 else 0)) (true,5,s,[],.slice none 0 0,G,[],N) ⟨j,j,j,ba⟩ ⟨aA,cB _,cB _,an,cz.nil,by rw [a6 j];exact⟨by have:=s.EP;dsimp only;omega,j⟩,a.empty.f1⟩ ?_
 rintro⟨again,h4,s1,dz,v1,W,z,Q⟩ w ⟨y,af,ak,R,A,e,a⟩
 dsimp only at y af ak R A e a⊢
 obtain⟨c,ap⟩:=R.aj (a.holds (by simp))
 refine ar 5 j (c7 10 j (λT=>?_) (λT=>?_))
 .refine au 3 j (aw ap j) (aT 2 j j (λX=>?_) (λX=>?_))
  .refine ar 8 j (gR j j j j ?_)
   refine ar 1 j (gR j j j j ?_)
   refine ar 1 j (gR j j j j ?_)
   refine ar 1 j (gR j j j j ?_)
   refine fe a j j j j j j bR (λad w a=>?_)
   have L:again=true:=T
   rw [a6 L] at e
   have B:s1.dec=false:=by simpa using X
   refine cY 3 j (cA:=Nat×List Chunk) (λk=>[(0,Z aq),(3,v1),(4,.bool false),(25,.slice (some ⟨ad,0,none⟩) 4 4),(26,.int .i64 (4:Nat)),(27,.int .i64 (k.1:Nat))])
    (λk w=>k.1<=4/\ft g aq s1 k.2/\(1<=k.1->s1.gQ g=none)/\(2<=k.1->s1.gt g=none)/\(3<=k.1->s1.gX g=none)/\(4<=k.1->s1.gP g=none)/\C o P [k.2,z,[(ad,.cells #[.func (.func 236) #[Z aq] #[],.func (.func 237) #[Z aq] #[],.func (.func 238) #[Z aq] #[],.func (.func 239) #[Z aq] #[]] 358 (0,0))]] w) (λk=>4-k.1) (0,W) ⟨j,j,j,j,j,j,ba⟩ ⟨ch _,R,λh=>by dsimp only at h;omega,λh=>by dsimp only at h;omega,λh=>by dsimp only at h;omega,λh=>by dsimp only at h;omega,a.as⟩ ?_
   rintro⟨i,am⟩ w ⟨ax,K,D,M,U,ag,a⟩
   dsimp only at ax K D M U ag a⊢
   have V:=S.st a O
   refine aT 4 j j (λY=>?_) (λY=>?_)
   .refine ar 5 j ?_
    have az:i=0\/i=1\/i=2\/i=3:=by have:=br Y;omega
    rcases az with rfl|rfl|rfl|rfl
    .refine hG (J:=0) j j j j (by decide) (au 0 j (aw (C.aj a) j) ?_)
     have H:=Ha K y (by omega) V f (a.ex S O) a.ours
     refine ar 4 j (hE j j j j H (λr w⟨v2,E,t,m,F,d,I⟩=>?_))
     subst m
     have a:=a.b4 I
     refine aT 8 j j (λl=>?_) (λl=>?_)
     .have ac:((Option.map Prod.snd (s1.gQ g)).getD []).length<=g.keys.length:=ss (λr m=>(ai.z8 m B).2)
      have aa:=f.n10
      refine ar 4 j (nv (dz:=dz) (a.front (cI:=[z,E])) A F j j (by decide) j j j (by omega) (λv3 bn w u a=>?_))
      refine bX 5 j ?_
      obtain⟨b,p⟩:∃b,s1.gQ g=some b:=g4.1 l
      have q:s1.step g=some b:=ai.Hj p
      have v:=ai.z8 p B
      rw [p] at u d
      obtain⟨n,rfl⟩:∃k,h4=k+1:=⟨h4-1,by have:=e.1;omega⟩
      have ab:b.2.length<=10:=ed v.2 f.n10
      refine⟨(true,n,b.1,dz++b.2,v3,t,bn,Q+1),⟨j,j,j,ba⟩,⟨y.step f q,by dsimp only;omega,by dsimp only;rw [ca];omega,d,u,?_,a.as⟩,by dsimp only;rw [if_pos j,if_pos L];omega⟩
      dsimp only
      rw [a6 j]
      exact⟨by have:=e.1;have:=v.1;omega,e.2.trans (ai.r2 B q)⟩
     refine bt 2 j j j (gh _ 1 (by decide)) (bX 1 j ?_)
     have x:s1.gQ g=none:=by simpa using l
     rw [x] at d
     refine⟨(0+1,t),⟨j,j,j,j,j,j,ba⟩,⟨by dsimp only;omega,d,λ_=>x,λh=>by dsimp only at h;omega,λh=>by dsimp only at h;omega,λh=>by dsimp only at h;omega,a.as⟩,by dsimp only;omega⟩
    .refine hG (J:=1) j j j j (by decide) (au 0 j (aw (C.aj a) j) ?_)
     have H:=Gk K y (by omega) V f (a.ex S O) a.ours
     refine ar 4 j (hE j j j j H (λr w⟨v2,E,t,m,F,d,I⟩=>?_))
     subst m
     have a:=a.b4 I
     refine aT 8 j j (λl=>?_) (λl=>?_)
     .have ac:((Option.map Prod.snd (s1.gt g)).getD []).length<=g.keys.length:=ss (λr m=>(ai.vx m).2)
      have aa:=f.n10
      refine ar 4 j (nv (dz:=dz) (a.front (cI:=[z,E])) A F j j (by decide) j j j (by omega) (λv3 bn w u a=>?_))
      refine bX 5 j ?_
      obtain⟨b,p⟩:∃b,s1.gt g=some b:=g4.1 l
      have q:s1.step g=some b:=ai.Hk (D (by decide)) p
      have v:=ai.vx p
      rw [p] at u d
      obtain⟨n,rfl⟩:∃k,h4=k+1:=⟨h4-1,by have:=e.1;omega⟩
      have ab:b.2.length<=10:=ed v.2 f.n10
      refine⟨(true,n,b.1,dz++b.2,v3,t,bn,Q+1),⟨j,j,j,ba⟩,⟨y.step f q,by dsimp only;omega,by dsimp only;rw [ca];omega,d,u,?_,a.as⟩,by dsimp only;rw [if_pos j,if_pos L];omega⟩
      dsimp only
      rw [a6 j]
      exact⟨by have:=e.1;have:=v.1;omega,e.2.trans (ai.r2 B q)⟩
     refine bt 2 j j j (gh _ 1 (by decide)) (bX 1 j ?_)
     have x:s1.gt g=none:=by simpa using l
     rw [x] at d
     refine⟨(1+1,t),⟨j,j,j,j,j,j,ba⟩,⟨by dsimp only;omega,d,λ_=>D (by decide),λ_=>x,λh=>by dsimp only at h;omega,λh=>by dsimp only at h;omega,a.as⟩,by dsimp only;omega⟩
    .refine hG (J:=2) j j j j (by decide) (au 0 j (aw (C.aj a) j) ?_)
     have H:=C2 K y (by omega) V f (a.ex S O) a.ours
     refine ar 4 j (hE j j j j H (λr w⟨v2,E,t,m,F,d,I⟩=>?_))
     subst m
     have a:=a.b4 I
     refine aT 8 j j (λl=>?_) (λl=>?_)
     .have ac:((Option.map Prod.snd (s1.gX g)).getD []).length<=g.keys.length:=ss (λr m=>(ai.ug m).2)
      have aa:=f.n10
      refine ar 4 j (nv (dz:=dz) (a.front (cI:=[z,E])) A F j j (by decide) j j j (by omega) (λv3 bn w u a=>?_))
      refine bX 5 j ?_
      obtain⟨b,p⟩:∃b,s1.gX g=some b:=g4.1 l
      have q:s1.step g=some b:=ai.Hl (D (by decide)) (M (by decide)) p
      have v:=ai.ug p
      rw [p] at u d
      obtain⟨n,rfl⟩:∃k,h4=k+1:=⟨h4-1,by have:=e.1;omega⟩
      have ab:b.2.length<=10:=ed v.2 f.n10
      refine⟨(true,n,b.1,dz++b.2,v3,t,bn,Q+1),⟨j,j,j,ba⟩,⟨y.step f q,by dsimp only;omega,by dsimp only;rw [ca];omega,d,u,?_,a.as⟩,by dsimp only;rw [if_pos j,if_pos L];omega⟩
      dsimp only
      rw [a6 j]
      exact⟨by have:=e.1;have:=v.1;omega,e.2.trans (ai.r2 B q)⟩
     refine bt 2 j j j (gh _ 1 (by decide)) (bX 1 j ?_)
     have x:s1.gX g=none:=by simpa using l
     rw [x] at d
     refine⟨(2+1,t),⟨j,j,j,j,j,j,ba⟩,⟨by dsimp only;omega,d,λ_=>D (by decide),λ_=>M (by decide),λ_=>x,λh=>by dsimp only at h;omega,a.as⟩,by dsimp only;omega⟩
    refine hG (J:=3) j j j j (by decide) (au 0 j (aw (C.aj a) j) ?_)
    have H:=Gm K y (by omega) V f (a.ex S O) a.ours
    refine ar 4 j (hE j j j j H (λr w⟨v2,E,t,m,F,d,I⟩=>?_))
    subst m
    have a:=a.b4 I
    refine aT 8 j j (λl=>?_) (λl=>?_)
    .have ac:((Option.map Prod.snd (s1.gP g)).getD []).length<=g.keys.length:=ss (λr m=>(ai.vy m).2)
     have aa:=f.n10
     refine ar 4 j (nv (dz:=dz) (a.front (cI:=[z,E])) A F j j (by decide) j j j (by omega) (λv3 bn w u a=>?_))
     refine bX 5 j ?_
     obtain⟨b,p⟩:∃b,s1.gP g=some b:=g4.1 l
     have q:s1.step g=some b:=(ai.Af (D (by decide)) (M (by decide)) (U (by decide))).trans p
     have v:=ai.vy p
     rw [p] at u d
     obtain⟨n,rfl⟩:∃k,h4=k+1:=⟨h4-1,by have:=e.1;omega⟩
     have ab:b.2.length<=10:=ed v.2 f.n10
     refine⟨(true,n,b.1,dz++b.2,v3,t,bn,Q+1),⟨j,j,j,ba⟩,⟨y.step f q,by dsimp only;omega,by dsimp only;rw [ca];omega,d,u,?_,a.as⟩,by dsimp only;rw [if_pos j,if_pos L];omega⟩
     dsimp only
     rw [a6 j]
     exact⟨by have:=e.1;have:=v.1;omega,e.2.trans (ai.r2 B q)⟩
    refine bt 2 j j j (gh _ 1 (by decide)) (bX 1 j ?_)
    have x:s1.gP g=none:=by simpa using l
    rw [x] at d
    refine⟨(3+1,t),⟨j,j,j,j,j,j,ba⟩,⟨by dsimp only;omega,d,λ_=>D (by decide),λ_=>M (by decide),λ_=>U (by decide),λ_=>x,a.as⟩,by dsimp only;omega⟩
   refine bX 1 j ?_
   have ay:i=4:=by have:=bw Y;omega
   subst ay
   have q:s1.step g=none:=(ai.Af (D (by decide)) (M (by decide)) (U (by decide))).trans (ag (by decide))
   refine⟨(false,h4,s1,dz,v1,am,z,Q),⟨j,j,j,ba⟩,⟨y,af,ak,K,A,?_,a.as⟩,by dsimp only;rw [L];simp⟩
   dsimp only
   rw [aF (by decide)]
   exact e.2.trans (ai.DY q)
  refine ao 5 j j ?_
  have B:s1.dec=true:=by simpa using X
  rw [a6 T] at e
  rw [e.2,ai.uJ B]
  exact⟨z,W,A,R,a⟩
 refine ao 12 j j ?_
 rw [aF (by rw [T];decide)] at e
 rw [e]
 exact⟨z,W,A,R,a⟩
theorem y2{o:World}{g:al}{am slot:Int}:Calls prog 117 #[g.p,ab am,ab slot] o (aS λr w=>∃aq G,r=Z aq/\ft g aq (ai.new am slot) G/\C o [] [G] w):=by
 have a:Own [] o:=C.start o
 refine a1 [g.p,ab am,ab slot] func117 ntmps117 results117 (bp 8 free_spec j (λw b=>?_))
 have a:=a.aN b
 refine bm 0 vg j (λr w⟨h,l,d,s,b⟩=>?_)
 subst d
 have a:=a.aN b
 refine bm 0 FB j (λr w⟨i,m,d,t,b⟩=>?_)
 subst d
 have a:=a.aN b
 refine bm 0 y1 j (λr w⟨e,n,d,u,b⟩=>?_)
 subst d
 have a:=a.aN b
 refine bm 0 y1 j (λr w⟨f,q,d,v,b⟩=>?_)
 subst d
 have a:=a.aN b
 refine cO (c:= #[Z e,Z f]) j j j (λ_=>by kernel_rfl) (cO (c:=(j4 g (ai.new am slot) (⟨.slice none 0 0,.slice none 0 0,.slice none 0 0,Z h,.slice none 0 0,Z e,Z f,Z i,.slice none 0 0,.slice none 0 0⟩:eT)).toArray) j j j (λ_=>by kernel_rfl) (bP 0 a j j (λk w a=>ao 1 j j ?_)))
 have a:C o [] (bg g k (ai.new am slot) (⟨.slice none 0 0,.slice none 0 0,.slice none 0 0,Z h,.slice none 0 0,Z e,Z f,Z i,.slice none 0 0,.slice none 0 0⟩:eT)::_) w:=a
 refine⟨k,_,j,⟨(⟨.slice none 0 0,.slice none 0 0,.slice none 0 0,Z h,.slice none 0 0,Z e,Z f,Z i,.slice none 0 0,.slice none 0 0⟩:eT),[],[],[],ay 288 h l (.map #[] 0),[],ay 329 e n (.map #[] 0),ay 329 f q (.map #[] 0),ay 326 i m (.map #[] 0),[],[],⟨Row.nil _ _,Row.nil _ _,Row.nil _ _,fp.new s,⟨[],[],[],j,Row.nil _ _,j⟩,fp.new u,fp.new v,fp.new t,Row.nil _ _,Row.nil _ _⟩,j⟩,?_⟩
 exact C.perm (A:=[bg g k (ai.new am slot) (⟨.slice none 0 0,.slice none 0 0,.slice none 0 0,Z h,.slice none 0 0,Z e,Z f,Z i,.slice none 0 0,.slice none 0 0⟩:eT),ay 288 h l (.map #[] 0),ay 329 e n (.map #[] 0),ay 329 f q (.map #[] 0),ay 326 i m (.map #[] 0)]) a.as (by simp)
theorem Hx{o:World}{aq:Nat}{g:al}{s:ai}{G:List Chunk}{m:aB}(hm:m.ok o)(aC:ft g aq s G){N:Nat}(B:s.ok g N)(aQ:N+10<=1000000)(n:g.at o)(y:g.ok)(i:g.off (av [G]))(a:Own [G] o):Calls prog 136 #[Z aq,.agg m.cs.toArray] o (aS λr w=>∃bl ah,cz r (s.take g m.P).2 bl/\ft g aq (s.take g m.P).1 ah/\C o (av [G]) [ah,bl] w):=by
 have aR:=a
 obtain⟨c,ah,aA,bn,cv,cb,bZ,bW,cc,b8,b7,t,rfl⟩:=aC
 obtain⟨p,ag⟩:∃p,p=av [bg g aq s c++(ah++(aA++(bn++(cv++(cb++(bZ++(bW++(cc++(b8++b7)))))))))]:=⟨_,j⟩
 rw [<-ag] at i⊢
 have a:C o p [bg g aq s c++(ah++(aA++(bn++(cv++(cb++(bZ++(bW++(cc++(b8++b7)))))))))] o:=ag▸a
 have a:=a.nU
 refine a1 [Z aq,.agg m.cs.toArray] func136 ntmps136 results136 (bP 2 (C.start _) j j (λO w R=>?_))
 have R:C _ [] [bi O m] w:=R
 have hm:=hm.st R
 have a:C o p [bi O m,bg g aq s c,ah,aA,bn,cv,cb,bZ,bW,cc,b8,b7] w:=a.aN R
 refine ar 7 j (b2 7 (.bool false) j (aL Value.bool (j)) ?_)
 refine au 3 j (aw (C.aj a) j) (ar 2 j (c7 13 j (λL=>?_) (λL=>?_)))
 .refine ao 9 j j ?_
  have f:s.take g m.P=(s,[]):=a6 (by rw [show s.dec=true from L];rfl)
  rw [f]
  exact⟨[],_,cz.nil,⟨c,ah,aA,bn,cv,cb,bZ,bW,cc,b8,b7,t,j⟩,(C.gr a.as).empty.f1⟩
 refine bS 1 (U:=m.cs) j j (m.bY hm.tag) (bq (C.aj a)) ?_
 have b:=El (aq:=aq) (g:=g) (s:=s) (c:=c) (C.aj a) (n.st a i) y hm
 refine bp 0 b j (λw d=>?_)
 have a:=a.aN d
 have hm:=hm.st d
 refine aT 2 j j (λV=>?_) (λV=>?_)
 .refine ao 3 j j ?_
  have aM:s.mb g m.P=false:=by simpa using V
  have f:s.take g m.P=(s,[]):=a6 (by rw [aM];simp)
  rw [f]
  exact⟨[],_,cz.nil,⟨c,ah,aA,bn,cv,cb,bZ,bW,cc,b8,b7,t,j⟩,(C.gr a.as).empty.f1⟩
 have K:s.mb g m.P=true:=by simpa using V
 have S:i1 m=true:=by unfold ai.mb at K;simp only [Bool.and_eq_true] at K;exact K.1
 have an:=m.yJ S
 refine bS 3 (U:=m.cs) j j (m.bY hm.tag) (bq (C.aj a)) ?_
 have b:=Da hm ⟨by omega,by omega⟩
 refine bm 0 b j (λr w⟨q,X,Y,aP,aO,J,d⟩=>?_)
 subst aP
 have T:=fw.sk aO J hm ⟨by omega,by omega⟩
 have ak:q.tag.length=32:=(aL (λz:aY=>z.tag.length) J).trans hm.tag
 have a:=a.aN d
 refine c5 (a.bf O) j j j (by simpa using q.one) (by rw [List.size_toArray];exact q.bY ak) (by rw [List.size_toArray,m.bY hm.tag];decide) (λw a=>?_)
 have a:=C.whole (U:=q.cs) a (by rw [hq,m.bY hm.tag,q.bY ak])
 have a:C o p [bi O q,bg g aq s c,ah,aA,bn,cv,cb,bZ,bW,cc,b8,b7,X++Y] w:=C.perm (A:=[bi O q,bg g aq s c,ah,aA,bn,cv,cb,bZ,bW,cc,b8,b7,X,Y]) a.as (by simp)
 have u:q.P.cP:=by rw [J];exact⟨hm.tag,hm.aH,an.1,an.2⟩
 have am:0<=q.v/\q.v<=8:=by
  have e:q.v=m.v:=aL aY.v J
  rw [e]
  unfold i1 at S
  simp only [d8] at S
  exact br S.1.1.1.2
 refine au 4 j (aw (C.aj a) q.gU) (aT 5 j j (λx=>?_) (λx=>?_))
 .refine bS 2 (U:=q.cs) j j (q.bY u.tag) (bq (C.aj a)) ?_
  have b:=zx (aq:=aq) (g:=g) (s:=s) (c:=c) (m:=q) T u B.slot am t.props t.dg (by have:=B.dg;omega) (n.st a i) y (a.ex n i) a.ours
  refine bp 0 b j (λw⟨v1,W,aa,az,aI,d⟩=>?_)
  have a:=a.b4 d
  obtain⟨l,D,a⟩:∃l,ft g aq (s.fh g q.P) l/\C o p [l] w:=by
   have f:s.fh g q.P=s.fZ g q.P:=by unfold ai.fh;rw [if_pos (show q.P.k=2 from beq_iff_eq.1 x)]
   rw [f]
   have a:C o p [bg g aq (s.fZ g q.P) {c with dg:=v1},ah,aA,bn,W,aa,bZ,bW,cc,b8,b7] w:=by rw [ai.qz];exact a.as
   exact⟨_,⟨{c with dg:=v1},ah,aA,bn,W,aa,bZ,bW,cc,b8,b7,by rw [ai.qz];exact{t with props:=az,dg:=aI},j⟩,C.gr a⟩
  have b:=lQ D (B.fh u) (by omega) (n.st a i) y (a.ex n i) a.ours
  refine bm 3 b j (λr w⟨bl,E,H,I,d⟩=>?_)
  have a:=a.b4 d
  refine ao 1 j j ?_
  have f:s.take g m.P=(s.fh g q.P).steps g:=by rw [J];exact aF (by rw [K,show s.dec=false from L];decide)
  rw [f]
  exact⟨bl,E,H,I,a⟩
 refine aT 4 j j (λF=>?_) (λF=>?_)
 .refine bS 2 (U:=q.cs) j j (q.bY u.tag) (bq (C.aj a)) ?_
  have b:=H6 (aq:=aq) (g:=g) (s:=s) (c:=c) (m:=q) T u t.cT t.ax B.lA B.jT (by omega) (n.st a i) y (a.ex n i) a.ours
  refine bp 0 b j (λw⟨ac,ad,aD,aE,d⟩=>?_)
  have a:=a.b4 d
  obtain⟨l,D,a⟩:∃l,ft g aq (s.fh g q.P) l/\C o p [l] w:=by
   have f:s.fh g q.P=s.di g q.P:=by unfold ai.fh;rw [if_neg (show¬q.P.k=2 from λh=>by rw [show(q.k==2)=true from beq_iff_eq.2 h] at x;cases x),if_pos (show q.P.k=3 from beq_iff_eq.1 F)]
   rw [f]
   have a:C o p [bg g aq (s.di g q.P) c,ah,aA,bn,cv,cb,ac,ad,cc,b8,b7] w:=by rw [ai.AC];exact a.as
   exact⟨_,⟨c,ah,aA,bn,cv,cb,ac,ad,cc,b8,b7,by rw [ai.AC];exact{t with cT:=aD,ax:=aE},j⟩,C.gr a⟩
  have b:=lQ D (B.fh u) (by omega) (n.st a i) y (a.ex n i) a.ours
  refine bm 3 b j (λr w⟨bl,E,H,I,d⟩=>?_)
  have a:=a.b4 d
  refine ao 1 j j ?_
  have f:s.take g m.P=(s.fh g q.P).steps g:=by rw [J];exact aF (by rw [K,show s.dec=false from L];decide)
  rw [f]
  exact⟨bl,E,H,I,a⟩
 refine aT 4 j j (λM=>?_) (λM=>?_)
 .refine bS 2 (U:=q.cs) j j (q.bY u.tag) (bq (C.aj a)) ?_
  have b:=Ae (aq:=aq) (g:=g) (s:=s) (c:=c) (m:=q) T u B.slot am t.dh (n.st a i) y (a.ex n i) a.ours
  refine bp 0 b j (λw⟨ae,aG,d⟩=>?_)
  have a:=a.b4 d
  obtain⟨l,D,a⟩:∃l,ft g aq (s.fh g q.P) l/\C o p [l] w:=by
   have f:s.fh g q.P=s.status g q.P:=by unfold ai.fh;rw [if_neg (show¬q.P.k=2 from λh=>by rw [show(q.k==2)=true from beq_iff_eq.2 h] at x;cases x),if_neg (show¬q.P.k=3 from λh=>by rw [show(q.k==3)=true from beq_iff_eq.2 h] at F;cases F),if_pos (show q.P.k=4 from beq_iff_eq.1 M)]
   rw [f]
   have a:C o p [bg g aq (s.status g q.P) c,ah,aA,bn,cv,cb,bZ,bW,ae,b8,b7] w:=by rw [ai.sL];exact a.as
   exact⟨_,⟨c,ah,aA,bn,cv,cb,bZ,bW,ae,b8,b7,by rw [ai.sL];exact{t with dh:=aG},j⟩,C.gr a⟩
  have b:=lQ D (B.fh u) (by omega) (n.st a i) y (a.ex n i) a.ours
  refine bm 3 b j (λr w⟨bl,E,H,I,d⟩=>?_)
  have a:=a.b4 d
  refine ao 1 j j ?_
  have f:s.take g m.P=(s.fh g q.P).steps g:=by rw [J];exact aF (by rw [K,show s.dec=false from L];decide)
  rw [f]
  exact⟨bl,E,H,I,a⟩
 refine aT 4 j j (λQ=>?_) (λQ=>?_)
 refine bS 2 (U:=q.cs) j j (q.bY u.tag) (bq (C.aj a)) ?_
 have b:=Dg (aq:=aq) (g:=g) (s:=s) (c:=c) (m:=q) T u t.value t.dI (n.st a i) y (a.ex n i) a.ours
 refine bp 0 b j (λw⟨ap,ay,af,ab,aJ,aK,d⟩=>?_)
 have a:=a.b4 d
 obtain⟨l,D,a⟩:∃l,ft g aq (s.fh g q.P) l/\C o p [l] w:=by
  have f:s.fh g q.P=s.decision g q.P:=by unfold ai.fh;rw [if_neg (show¬q.P.k=2 from λh=>by rw [show(q.k==2)=true from beq_iff_eq.2 h] at x;cases x),if_neg (show¬q.P.k=3 from λh=>by rw [show(q.k==3)=true from beq_iff_eq.2 h] at F;cases F),if_neg (show¬q.P.k=4 from λh=>by rw [show(q.k==4)=true from beq_iff_eq.2 h] at M;cases M),if_pos (show q.P.k=5 from beq_iff_eq.1 Q)]
  rw [f]
  have a:C o p [bg g aq (s.decision g q.P) {c with value:=ap,dI:=ay},ah,aA,bn,cv,cb,bZ,bW,cc,af,ab] w:=a.as
  exact⟨_,⟨{c with value:=ap,dI:=ay},ah,aA,bn,cv,cb,bZ,bW,cc,af,ab,by rw [ai.Df];exact{t with value:=aJ,dI:=aK},j⟩,C.gr a⟩
 have b:=lQ D (B.fh u) (by omega) (n.st a i) y (a.ex n i) a.ours
 refine bm 3 b j (λr w⟨bl,E,H,I,d⟩=>?_)
 rotate_left
 obtain⟨l,D,a⟩:∃l,ft g aq (s.fh g q.P) l/\C o p [l] w:=by
  have f:s.fh g q.P=s:=by unfold ai.fh;rw [if_neg (show¬q.P.k=2 from λh=>by rw [show(q.k==2)=true from beq_iff_eq.2 h] at x;cases x),if_neg (show¬q.P.k=3 from λh=>by rw [show(q.k==3)=true from beq_iff_eq.2 h] at F;cases F),if_neg (show¬q.P.k=4 from λh=>by rw [show(q.k==4)=true from beq_iff_eq.2 h] at M;cases M),if_neg (show¬q.P.k=5 from λh=>by rw [show(q.k==5)=true from beq_iff_eq.2 h] at Q;cases Q)]
  rw [f]
  exact⟨_,⟨c,ah,aA,bn,cv,cb,bZ,bW,cc,b8,b7,t,j⟩,C.gr a.as⟩
 have b:=lQ D (B.fh u) (by omega) (n.st a i) y (a.ex n i) a.ours
 refine bm 4 b j (λr w⟨bl,E,H,I,d⟩=>?_)
 rotate_left
 all_goals
  have a:=a.b4 d
  refine ao 1 j j ?_
  have f:s.take g m.P=(s.fh g q.P).steps g:=by rw [J];exact aF (by rw [K,show s.dec=false from L];decide)
  rw [f]
  exact⟨bl,E,H,I,a⟩
theorem Ia{o:World}{aq:Nat}{g:al}{s:ai}{G:List Chunk}{A:Option Addr}{x:List UInt8}{bH:Nat}(L:Rd o A (aE x))(O:x.length<=1000000)(K:ft g aq s G){N:Nat}(E:s.ok g N)(M:N+10<=1000000)(i:g.at o)(D:g.ok)(e:g.off (av [G]))(a:Own [G] o):Calls prog 173 #[Z aq,.slice A x.length bH] o (aS λr w=>∃bl ah,cz r (s.hS g x).2 bl/\ft g aq (s.hS g x).1 ah/\C o (av [G]) [ah,bl] w):=by
 obtain⟨c,ah,aA,bn,cv,cb,bZ,bW,cc,b8,b7,y,rfl⟩:=K
 obtain⟨d,H⟩:∃d,d=av [bg g aq s c++(ah++(aA++(bn++(cv++(cb++(bZ++(bW++(cc++(b8++b7)))))))))]:=⟨_,j⟩
 rw [<-H] at e⊢
 have a:C o d [bg g aq s c++(ah++(aA++(bn++(cv++(cb++(bZ++(bW++(cc++(b8++b7)))))))))] o:=H▸a
 have a:=a.nU
 refine a1 [Z aq,.slice A x.length bH] func173 ntmps173 results173 (ar 9 j (b2 7 (.bool false) j (aL Value.bool (j)) ?_))
 refine au 3 j (aw (C.aj a) j) (aT 1 j j (λt=>?_) (λt=>?_))
 .refine ao 3 j j ?_
  have p:s.hS g x=(s,[]):=a6 t
  rw [p]
  exact⟨[],_,cz.nil,⟨c,ah,aA,bn,cv,cb,bZ,bW,cc,b8,b7,y,j⟩,(C.gr a.as).empty.f1⟩
 refine ar 8 j (c7 16 j (λz=>?_) (λz=>?_))
 .refine aT 4 j j (λB=>?_) (λB=>?_)
  refine bm 3 (gW (c:=bH) L (by omega)) j (λr w⟨F,I,k⟩=>?_)
  have a:=a.aN k
  refine dD 2 (a.bf aq) j j j I.one (λw a=>?_)
  have a:C o d (bg g aq {s with want:=x} {c with want:=r}::_) w:=a
  obtain⟨b,l,n,J,a⟩:∃b,ft g aq (if 0<x.length/\x.length<=200 then{s with want:=x} else s:ai) b/\ai.ok g N (if 0<x.length/\x.length<=200 then{s with want:=x} else s:ai)/\True/\C o d [b] w:=by
   have f:0<x.length/\x.length<=200:=⟨by have:=br z;omega,by have:=br B;omega⟩
   rw [a6 f]
   have a:C o d [bg g aq {s with want:=x} {c with want:=r},ah,aA,F,cv,cb,bZ,bW,cc,b8,b7] w:=a.as
   exact⟨_,⟨{c with want:=r},ah,aA,F,cv,cb,bZ,bW,cc,b8,b7,{y with want:=I},j⟩,{E with want:=f.2},ba,C.gr a⟩
  have m:=lQ l n (by omega) (i.st a e) D (a.ex i e) a.ours
  refine bm 3 m j (λr w⟨bl,q,u,v,k⟩=>?_)
  rotate_left
  obtain⟨b,l,n,J,a⟩:∃b,ft g aq (if 0<x.length/\x.length<=200 then{s with want:=x} else s:ai) b/\ai.ok g N (if 0<x.length/\x.length<=200 then{s with want:=x} else s:ai)/\True/\C o d [b] o:=by
   have f:¬(0<x.length/\x.length<=200):=λh=>by have:=bw B;omega
   rw [aF f]
   exact⟨_,⟨c,ah,aA,bn,cv,cb,bZ,bW,cc,b8,b7,y,j⟩,E,ba,C.gr a.as⟩
  have m:=lQ l n (by omega) (i.st a e) D (a.ex i e) a.ours
  refine bm 4 m j (λr w⟨bl,q,u,v,k⟩=>?_)
  rotate_left
  all_goals
   have a:=a.b4 k
   refine ao 1 j j ?_
   have p:s.hS g x=(if 0<x.length/\x.length<=200 then{s with want:=x} else s:ai).steps g:=aF (by rw [t];decide)
   rw [p]
   exact⟨bl,q,u,v,a⟩
 obtain⟨b,l,n,J,a⟩:∃b,ft g aq (if 0<x.length/\x.length<=200 then{s with want:=x} else s:ai) b/\ai.ok g N (if 0<x.length/\x.length<=200 then{s with want:=x} else s:ai)/\True/\C o d [b] o:=by
  have f:¬(0<x.length/\x.length<=200):=λh=>by have:=bw z;omega
  rw [aF f]
  exact⟨_,⟨c,ah,aA,bn,cv,cb,bZ,bW,cc,b8,b7,y,j⟩,E,ba,C.gr a.as⟩
 have m:=lQ l n (by omega) (i.st a e) D (a.ex i e) a.ours
 refine bm 9 m j (λr w⟨bl,q,u,v,k⟩=>?_)
 have a:=a.b4 k
 refine ao 1 j j ?_
 have p:s.hS g x=(if 0<x.length/\x.length<=200 then{s with want:=x} else s:ai).steps g:=aF (by rw [t];decide)
 rw [p]
 exact⟨bl,q,u,v,a⟩
theorem De{o:World}{aq:Nat}{g:al}{s:ai}{G:List Chunk}(z:ft g aq s G){N:Nat}(i:s.ok g N)(f:Holds o G):Calls prog 182 #[Z aq] o (aS λr w=>∃v1 v2 b e,r= .tuple #[v1,v2,.bool s.dec]/\dN v1 s.value b/\ej v2 s.dI e/\C o [] [b,e] w):=by
 have a:Own [] o:=C.start o
 obtain⟨c,ah,aA,bn,cv,cb,bZ,bW,cc,b8,b7,l,rfl⟩:=z
 have h:=f.left.head
 have y:Holds o b8:=λx k=>f x (by simp [k])
 have v:Holds o b7:=λx k=>f x (by simp [k])
 obtain⟨J,n,q,_,_,E,_⟩:=l.value.read y
 obtain⟨I,m,p,_,_,D,_⟩:=l.dI.read v
 refine a1 [Z aq] func182 ntmps182 results182 ?_
 have a:=a.drew
 refine bz 13 j (λw=>∃ae,C o [] ae w) ⟨_,a⟩ (af 0 3 j (bT 3 j (λw⟨_,a⟩=>aw (a.cd h) (aL some q)) (af 5 3 j (bT 8 j (λw⟨_,a⟩=>aw (a.cd h) (aL some p)) (af 10 3 j (bT 13 j (λw⟨_,a⟩=>aw (a.cd h) j) (aW 4 j (cN j j j (gW (c:=n) (a.rd E (bU.of_nil _ _)) (by have:=i.value;omega)) (λF w⟨b,t,A⟩=>?_)))))))))
 have a:=a.aN A
 refine an ⟨⟨_,a⟩,?_⟩
 refine aW 9 j (cN j j j (k1 (d:=m) (a.rd D (bU.of_nil _ _)) i.qW (by have:=i.dI;omega)) (λH w⟨e,u,B⟩=>?_))
 have a:=a.aN B
 refine an ⟨⟨_,a⟩,?_⟩
 refine af 14 3 j (bO (ao 0 j j ?_))
 exact⟨F,H,b,e,j,t,u,a.as⟩
theorem ai.Hp{g:al}{s:ai}{r:ai×List aY}(h:s.step g=some r):r.2.length<=g.n:=by
 unfold ai.step at h
 split at h
 .rename_i e
  cases h
  unfold ai.gQ at e
  cases bx:(db s.ax).findSome? λp=>s.fl g p.2 with
  |none=>rw [bx] at e;cases e
  |some y=>rw [bx] at e;cases e;exact ch _
 .split at h
  .rename_i e;cases h;exact(ai.vx e).2
  .split at h
   .rename_i e;cases h;exact(ai.ug e).2
   .exact(ai.vy h).2
theorem ai.qi{g:al}(a:g.ok):∀(k:Nat)(s:ai)(l:List aY),(ai.go g k s l).2.length<=l.length+10*k
 |0,_,_=>by show _<=_;exact gz _ _
 |k+1,s,l=>by
  unfold ai.go
  split
  .exact gz _ _
  .split
   .exact gz _ _
   .rename_i eN b0 e
    have b:=ai.qi a k eN (l++b0)
    have c:b0.length<=g.keys.length:=ai.Hp e
    have d:=a.n10
    rw [ca] at b
    omega
theorem ai.sO{g:al}(a:g.ok)(s:ai):(s.steps g).2.length<=50:=ai.qi a 5 s []
theorem ai.Au(g:al)(s:ai):(s.gl g).2.length<=1:=by
 unfold ai.gl
 dsimp only
 split
 .exact ch _
 .exact cB _
theorem uz{a b:Int}(c: -1000<=a/\a<=1000)(d: -1000<=b/\b<=1000):evalBin .add .i64 a b=some (.int .i64 (a+b)):=by
 show some (Value.int .i64 (IntKind.i64.wrap (a+b)))=_
 rw [jR]
 exact aL (λz=>some (Value.int .i64 z)) (by omega)
theorem HL{o:World}{aq:Nat}{g:al}{s:ai}{G:List Chunk}(aH:ft g aq s G){N:Nat}(b:s.ok g N)(aU:N+10<=1000000)(t:g.at o)(z:g.ok)(p:g.off (av [G]))(a:Own [G] o):Calls prog 143 #[Z aq] o (aS λr w=>∃bl ah,cz r (s.tick g).2 bl/\ft g aq (s.tick g).1 ah/\C o (av [G]) [ah,bl] w):=by
 obtain⟨c,ah,aA,bn,cv,cb,bZ,bW,cc,b8,b7,l,rfl⟩:=aH
 obtain⟨d,ag⟩:∃d,d=av [bg g aq s c++(ah++(aA++(bn++(cv++(cb++(bZ++(bW++(cc++(b8++b7)))))))))]:=⟨_,j⟩
 rw [<-ag] at p⊢
 have a:C o d [bg g aq s c++(ah++(aA++(bn++(cv++(cb++(bZ++(bW++(cc++(b8++b7)))))))))] o:=ag▸a
 have a:=a.nU
 obtain⟨f,k,S,_⟩:=l.dF.form
 obtain⟨i,dl,R,_⟩:=l.c3.form
 refine a1 [Z aq] func143 ntmps143 results143 (ar 9 j (b2 8 (.bool false) j (aL Value.bool (j)) ?_))
 refine au 3 j (aw (C.aj a) j) (ar 2 j (c7 14 j (λO=>?_) (λO=>?_)))
 .refine ao 10 j j ?_
  have u:s.tick g=(s,[]):=a6 (by rw [show s.dec=true from O];rfl)
  rw [u]
  exact⟨[],_,cz.nil,⟨c,ah,aA,bn,cv,cb,bZ,bW,cc,b8,b7,l,j⟩,(C.gr a.as).empty.f1⟩
 refine au 3 j (aw (C.aj a) j) (aT 2 j j (λJ=>?_) (λJ=>?_))
 .refine ao 3 j j ?_
  have u:s.tick g=(s,[]):=a6 (by rw [show decide (s.view>=8)=true from J];simp)
  rw [u]
  exact⟨[],_,cz.nil,⟨c,ah,aA,bn,cv,cb,bZ,bW,cc,b8,b7,l,j⟩,(C.gr a.as).empty.f1⟩
 have az:s.view<8:=by have:=bw J;omega
 refine au 6 j (aw (C.aj a) j) (bt 0 j j j (uz (by have:=b.view;omega) (by omega)) (dD 2 (a.bf aq) j j j j (λw a=>?_)))
 have a:C o d (bg g aq {s with view:=s.view+1} c::_) w:=a
 have a:C o d [bg g aq {s with view:=s.view+1} c,ah,aA,bn,cv,cb,bZ,bW,cc,b8,b7] w:=a.as
 have a:=a.drew
 refine bz 1 j (λw=>∃ae,C o d ([bg g aq {s with view:=s.view+1} c]++ae) w) ⟨_,a⟩ (af 0 3 j (be 3 j a7 j (af 4 4 j (be 8 j a7 (aL some S) (af 9 4 j (be 13 j a7 (aL some R) (aV 14 j (λw _=>e0 (c:=(⟨4,0,0,0,s.view+1,f,s.dF,k,i,s.c3,dl,cK⟩:aB).cs.toArray) j (λ_=>by kernel_rfl)) (aW 15 j (en a j j (λM w a=>?_))))))))))
 have a:C o d ([bg g aq {s with view:=s.view+1} c]++_) w:=a.front
 refine an ⟨⟨_,a⟩,?_⟩
 refine dy 16 j (c5 (a.bf M) j j j (by simpa using(⟨4,0,0,0,s.view+1,f,s.dF,k,i,s.c3,dl,cK⟩:aB).one) j bR (λw a=>?_))
 have a:=C.whole (U:=(⟨4,0,0,0,s.view+1,f,s.dF,k,i,s.c3,dl,cK⟩:aB).cs) a j
 have a:C o d [bg g aq {s with view:=s.view+1} c,bi M (⟨4,0,0,0,s.view+1,f,s.dF,k,i,s.c3,dl,cK⟩:aB),ah,aA,bn,cv,cb,bZ,bW,cc,b8,b7] w:=a.as
 refine an (cX ?_)
 have a:=a.drew
 refine bz 1 j (λw=>∃ae,C o d ([bg g aq {s with view:=s.view+1} c]++ae) w) ⟨_,a⟩ (af 0 3 j (be 3 j a7 j (af 4 3 j (be 7 j a7 j (af 8 3 j (be 11 j a7 j (aW 12 j (bF j j j (ml (t.st a p)) (λw hw=>?_)))))))))
 subst hw
 refine an ⟨⟨_,a⟩,?_⟩
 refine aW 13 j ?_
 have e:=λo=>yw (o:=o) (s:=s.slot.toNat) (v:=(s.view+1).toNat) (n:=g.keys.length) (by have:=b.slot;omega) (by have:=b.view;omega) z.h4 (by have:=z.n10;omega)
 rw [show((s.slot.toNat:Nat):Int)=s.slot from pK b.slot.1,show(((s.view+1).toNat:Nat):Int)=s.view+1 from pK (by have:=b.view;omega)] at e
 refine bF j j j (e _) (λw ad=>?_)
 have a:=a.aN ad
 have a:C o d [bg g aq {s with view:=s.view+1} c,bi M (⟨4,0,0,0,s.view+1,f,s.dF,k,i,s.c3,dl,cK⟩:aB),ah,aA,bn,cv,cb,bZ,bW,cc,b8,b7] w:=a.as
 refine an ⟨⟨_,a⟩,?_⟩
 refine af 14 1 j (bO (au 10 j (aw (C.aj a) j) (aT 1 j j (λK=>?_) (λK=>?_))))
 refine bS 3 (U:=(⟨4,0,0,0,s.view+1,f,s.dF,k,i,s.c3,dl,cK⟩:aB).cs) j j j (bq (C.aj a)) ?_
 obtain⟨_,_,F,_,_,X,_⟩:=l.dF.read (a.holds (G:=ah) (by simp))
 obtain⟨_,_,H,_,_,Y,_⟩:=l.c3.read (a.holds (G:=aA) (by simp))
 rw [S] at F
 rw [R] at H
 cases F
 cases H
 have T:(⟨4,0,0,0,s.view+1,f,s.dF,k,i,s.c3,dl,cK⟩:aB).ok _:=⟨X,Y,b.k9,j⟩
 have e:=sH (aq:=aq) (s:={s with view:=s.view+1}) (c:=c) (C.aj a) (t.st a p) z T (by show s.dF.length<=10000;have:=b.dF;omega) (by show s.c3.length<=1000;have:=b.c3;omega) (to:=((nc s.slot.toNat (s.view+1).toNat g.keys.length:Nat):Int))
 refine bm 1 e j (λr w⟨q,D,W,L,I,y⟩=>?_)
 subst W
 have a:=a.aN y
 have aK:q.P.cP:=by rw [I];exact ai.nn b.dF b.c3 b.k9
 have aM:q.v=s.view+1:=aL aY.v I
 have e:=Ae (aq:=aq) (g:=g) (s:={s with view:=s.view+1}) (c:=c) (m:=q) L aK b.slot (by rw [aM];have:=b.view;omega) l.dh (t.st a p) z (a.ex t p) a.ours
 refine bp 0 e j (λw⟨ac,aJ,y⟩=>?_)
 have a:=a.b4 y
 obtain⟨B,aa,x,Q,ap,aO,a⟩:∃B aa x,ft g aq (s.gl g).1 B/\cz aa (s.gl g).2 x/\aa= .slice none 0 0/\C o d [B,x] w:=by
  have u:s.gl g=(({s with view:=s.view+1}:ai).status g q.P,[]):=by
   unfold ai.gl
   rw [show q.P=({s with view:=s.view+1}:ai).jn g (⟨4,0,0,0,s.view+1,f,s.dF,k,i,s.c3,dl,cK⟩:aB).P ((nc s.slot.toNat (s.view+1).toNat g.keys.length:Nat):Int) from I]
   exact a6 (dX.1 K)
  rw [u]
  have a:C o d [bg g aq (({s with view:=s.view+1}:ai).status g q.P) c,ah,aA,bn,cv,cb,bZ,bW,ac,b8,b7] w:=by rw [ai.sL];exact a.as
  exact⟨_,_,[],⟨c,ah,aA,bn,cv,cb,bZ,bW,ac,b8,b7,by rw [ai.sL];exact{l with dh:=aJ},j⟩,cz.nil,j,(C.gr a).empty.f1⟩
 subst aO
 have V:=b.gl az
 have e:=lQ Q V (by omega) (t.st a p) z (a.ex t p) a.ours
 refine bm 4 e j (λr w⟨bl,ab,ak,ax,y⟩=>?_)
 rotate_left
 refine bS 3 (U:=(⟨4,0,0,0,s.view+1,f,s.dF,k,i,s.c3,dl,cK⟩:aB).cs) j j j (bq (C.aj a)) ?_
 obtain⟨_,_,F,_,_,X,_⟩:=l.dF.read (a.holds (G:=ah) (by simp))
 obtain⟨_,_,H,_,_,Y,_⟩:=l.c3.read (a.holds (G:=aA) (by simp))
 rw [S] at F
 rw [R] at H
 cases F
 cases H
 have T:(⟨4,0,0,0,s.view+1,f,s.dF,k,i,s.c3,dl,cK⟩:aB).ok _:=⟨X,Y,b.k9,j⟩
 have e:=sH (aq:=aq) (s:={s with view:=s.view+1}) (c:=c) (C.aj a) (t.st a p) z T (by show s.dF.length<=10000;have:=b.dF;omega) (by show s.c3.length<=1000;have:=b.c3;omega) (to:=((nc s.slot.toNat (s.view+1).toNat g.keys.length:Nat):Int))
 refine bm 1 e j (λr w⟨q,D,W,L,I,y⟩=>?_)
 subst W
 have a:=a.aN y
 have ay:q.tag.length=32:=(fx.one L).tag q (by simp)
 refine gv (U:=q.cs) a j j j (q.bY ay) (by decide) (by decide) (λaD w a=>?_)
 have aP:Rd w (some ⟨aD,0,none⟩) q.cs:=a.bN
 refine eK (a.empty) (Row.nil 94 39) j j (by decide) j j j (news:=q.cs) (q.bY ay) aP (List.all_eq_true.1 q.one) (by omega) (by unfold maxLen;omega) (λv1 E w aI a=>?_)
 have a:C o d [bg g aq {s with view:=s.view+1} c,ah,aA,bn,cv,cb,bZ,bW,cc,b8,b7,E++D] w:=C.perm (A:=[bg g aq {s with view:=s.view+1} c,ah,aA,bn,cv,cb,bZ,bW,cc,b8,b7,E,D]) a.as (by simp)
 have aE:cz v1 [q.P] (E++D):=⟨[q],j,E,D,j,by simpa using aI,fx.one L⟩
 obtain⟨B,x,Q,ap,a⟩:∃B x,ft g aq (s.gl g).1 B/\cz v1 (s.gl g).2 x/\C o d [B,x] w:=by
  have u:s.gl g=({s with view:=s.view+1},[q.P]):=by
   unfold ai.gl
   rw [show q.P=({s with view:=s.view+1}:ai).jn g (⟨4,0,0,0,s.view+1,f,s.dF,k,i,s.c3,dl,cK⟩:aB).P ((nc s.slot.toNat (s.view+1).toNat g.keys.length:Nat):Int) from I]
   exact aF (λh=>by rw [show((((nc s.slot.toNat (s.view+1).toNat g.keys.length:Nat):Int):Int)==s.am)=true from dX.2 h] at K;cases K)
  rw [u]
  exact⟨_,E++D,⟨c,ah,aA,bn,cv,cb,bZ,bW,cc,b8,b7,{l with},j⟩,aE,C.gr a⟩
 have V:=b.gl az
 have e:=lQ Q V (by omega) (t.st a p) z (a.ex t p) a.ours
 refine bm 5 e j (λr w⟨bl,ab,ak,ax,y⟩=>?_)
 rotate_left
 all_goals
  have a:=a.b4 y
  refine nv (a.front (cI:=[x,bl])) ap ak j j (by decide) j j j (by have aQ:=ai.sO z (s.gl g).1;have aR:=ai.Au g s;omega) (λv3 aC w aG a=>ao 1 j j ?_)
  have u:s.tick g=(((s.gl g).1.steps g).1,(s.gl g).2++((s.gl g).1.steps g).2):=aF (by rw [show s.dec=false from O,show decide (s.view>=8)=false from J];decide)
  rw [u]
  exact⟨aC,ab,aG,ax,a.as⟩
structure aC where
 am:Int
 log:List (List UInt8×List aG)
 cur:Option ai
 cx:List (List UInt8)
 stored:List (Int×aY)
 eW:Int
def aC.new(am:Int):aC:=⟨am,[],some (ai.new am 0),[],[],0⟩
def aC.there(s:aC)(x:List UInt8):Bool:=(s.cx.any λy=>decide (y=x))||(s.log.any λe=>decide (e.1=x))
def g8(g:al)(c:Option ai)(m:aY):Option ai×List aY:=match c with
 |none=>(none,[])
 |some r=>(some (r.take g m).1,(r.take g m).2)
def fI(g:al)(c:Option ai)(x:List UInt8):Option ai×List aY:=match c with
 |none=>(none,[])
 |some r=>(some (r.hS g x).1,(r.hS g x).2)
def iB(g:al)(c:Option ai):Option ai×List aY:=match c with
 |none=>(none,[])
 |some r=>(some (r.tick g).1,(r.tick g).2)
def aC.slot(s:aC):Int:=(s.log.length:Int)
def aC.wanted(g:al)(s:aC):aC×List aY:=match s.cx with
 |[]=>(s,[])
 |x::_=>({s with cur:=(fI g s.cur x).1},(fI g s.cur x).2)
def aC.one(g:al)(a:aC×List aY)(p:Int×aY):aC×List aY:=
 if p.2.s=a.1.slot then({a.1 with stored:=fS a.1.stored p.1,cur:=(g8 g a.1.cur p.2).1},a.2++(g8 g a.1.cur p.2).2)
 else if p.2.s<=a.1.slot then({a.1 with stored:=fS a.1.stored p.1},a.2) else a
def aC.dd(g:al)(s:aC):aC×List aY:=(db s.stored).foldl (aC.one g) (s.wanted g)
def aC.next(s:aC)(r:ai):aC:={s with log:=s.log++[(r.value,r.dI)],cx:=s.cx.filter (λy=> !decide (y=r.value)),cur:=if s.log.length+1<64 then some (ai.new s.am (s.log.length+1:Nat)) else none}
def aC.go(g:al):Nat->aC->List aY->aC×List aY
 |0,s,l=>(s,l)
 |n+1,s,l=>match s.cur with
  |none=>(s,l)
  |some r=>if r.dec then aC.go g n ((s.next r).dd g).1 (l++((s.next r).dd g).2) else(s,l)
def aC.h0(g:al)(s:aC)(l:List aY):aC×List aY:=aC.go g 65 s l
def aC.eH(g:al)(s:aC)(x:List UInt8):aC×List aY×Int:=
 if x.length=0\/200<x.length then(s,[],1)
 else if s.there x then(s,[],0)
 else if 16<=s.cx.length\/s.cur.isNone then(s,[],3)
 else if 1<s.cx.length+1 then({s with cx:=s.cx++[x]},[],0)
 else((aC.h0 g {s with cx:=s.cx++[x],cur:=(fI g s.cur x).1} (fI g s.cur x).2).1,(aC.h0 g {s with cx:=s.cx++[x],cur:=(fI g s.cur x).1} (fI g s.cur x).2).2,0)
def aC.told(g:al)(s:aC)(m:aY):List aY:=
 if(m.k≠2/\m.k≠4)\/m.s<0\/m.f=s.am\/g.check m.f m.body m.tag=false then []
 else match s.log[m.s.toNat]? with
  |none=>[]
  |some e=>[⟨5,s.am,m.f,m.s,0,e.1,e.2,g.cu s.am (⟨5,s.am,m.f,m.s,0,e.1,e.2,[]⟩:aY).body⟩]
def aC.take(g:al)(s:aC)(m:aY):aC×List aY:=
 if m.k=1 then((s.eH g m.x).1,(s.eH g m.x).2.1)
 else if m.s<s.slot then(s,s.told g m)
 else if m.s=s.slot then aC.h0 g {s with cur:=(g8 g s.cur m).1} (g8 g s.cur m).2
 else if m.s-s.slot<=4/\s.stored.length<128 then({s with stored:=cj s.stored s.eW m,eW:=s.eW+1},[])
 else(s,[])
def aC.tick(g:al)(s:aC):aC×List aY:=aC.h0 g {s with cur:=(iB g s.cur).1} (iB g s.cur).2
structure aC.ok(g:al)(N:Nat)(s:aC):Prop where
 am:0<=s.am/\s.am<g.n
 log:s.log.length<=64
 nd:∀e∈s.log,e.1.length<=200/\e.2.length<=10/\∀v∈e.2,v.ok
 cur:∀r,s.cur=some r->r.ok g N/\s.log.length<64
 cx:s.cx.length<=16
 lg:∀x∈s.cx,x.length<=200
 stored:s.stored.length<=128
 lj:∀p∈s.stored,p.2.cP
 eW:0<=s.eW/\s.eW<=N
theorem aC.ok.more{g:al}{N M:Nat}{s:aC}(h:s.ok g N)(b:N<=M):s.ok g M:={h with cur:=λr a=>⟨(h.cur r a).1.more b,(h.cur r a).2⟩,eW:=⟨h.eW.1,by have:=h.eW.2;omega⟩}
theorem ai.lc{g:al}{am slot:Int}(hm:0<=am/\am<g.n)(aM:0<=slot/\slot<=63)(N:Nat):(ai.new am slot).ok g N:=
 {am:=hm,slot:=aM,view:=⟨ik _,by show(0:Int)<=8;omega⟩,dF:=ch _,c3:=ch _,k9:=(by intro x a;cases a),want:=ch _,props:=ch _,sz:=(by intro x a;cases a),dg:=ch _,pd:=(by intro x a;cases a),cT:=ch _,lA:=(by intro x a;cases a),ax:=ch _,jT:=(by intro x a;cases a),dh:=ch _,mz:=(by intro x a;cases a),value:=ch _,dI:=ch _,qW:=(by intro x a;cases a)}
theorem oV{β:Type}:∀{m:List (Int×β)}{k:Int}{p:Int×β},p∈fS m k->p∈m
 |[],_,_,h=>by cases h
 |(J,u)::r,k,p,h=>by
  simp only [fS] at h
  split at h
  .exact lr _ h
  .rcases gd.1 h with h|h
   .exact h▸of
   .exact lr _ (oV h)
theorem u3{β:Type}:∀(m:List (Int×β))(k:Int),(fS m k).length<=m.length
 |[],_=>cB _
 |(J,u)::r,k=>by
  simp only [fS]
  split
  .simp
  .have:=u3 r k;simp only [ep];omega
theorem aC.ok.wanted{g:al}{N M:Nat}{s:aC}(h:s.ok g N)(e:g.ok)(d:∀r,s.cur=some r->r.ok g M):(s.wanted g).1.am=s.am/\(s.wanted g).1.log=s.log/\(s.wanted g).1.cx=s.cx/\(s.wanted g).1.stored=s.stored/\(s.wanted g).1.eW=s.eW/\∀r,(s.wanted g).1.cur=some r->r.ok g (M+5)/\s.log.length<64:=by
 unfold aC.wanted
 split
 .exact⟨j,j,j,j,j,λr a=>⟨(d r a).more (by omega),(h.cur r a).2⟩⟩
 .refine⟨j,j,j,j,j,λr a=>?_⟩
  dsimp only at a
  unfold fI at a
  cases b:s.cur with
  |none=>rw [b] at a;cases a
  |some c=>
   rw [b] at a
   have a:(c.hS g _).1=r:=hr a
   rw [<-a]
   exact⟨(d c b).hS e,(h.cur c b).2⟩
theorem aC.zh(g:al)(a:aC×List aY)(p:Int×aY):((aC.one g a p).1.am=a.1.am/\(aC.one g a p).1.log=a.1.log/\(aC.one g a p).1.cx=a.1.cx/\(aC.one g a p).1.eW=a.1.eW)/\(aC.one g a p).1.stored.length<=a.1.stored.length/\(∀q∈(aC.one g a p).1.stored,q∈a.1.stored):=by
 unfold aC.one
 split
 .exact⟨⟨j,j,j,j⟩,u3 _ _,λq b=>oV b⟩
 .split
  .exact⟨⟨j,j,j,j⟩,u3 _ _,λq b=>oV b⟩
  .exact⟨⟨j,j,j,j⟩,cB _,λq b=>b⟩
theorem rR{g:al}{c:Option ai}{m:aY}{M:Nat}(e:g.ok)(hm:m.cP)(h:∀r,c=some r->r.ok g M):∀r,(g8 g c m).1=some r->r.ok g (M+6):=by
 intro r a
 unfold g8 at a
 cases b:c with
 |none=>rw [b] at a;cases a
 |some d=>
  rw [b] at a
  have a:(d.take g m).1=r:=hr a
  rw [<-a]
  exact(h d b).take e hm
theorem uh{g:al}{c:Option ai}{M:Nat}(e:g.ok)(h:∀r,c=some r->r.ok g M):∀r,(iB g c).1=some r->r.ok g (M+6):=by
 intro r a
 unfold iB at a
 cases b:c with
 |none=>rw [b] at a;cases a
 |some d=>
  rw [b] at a
  have a:(d.tick g).1=r:=hr a
  rw [<-a]
  exact(h d b).tick e
theorem uk{g:al}{c:Option ai}{x:List UInt8}{M:Nat}(e:g.ok)(h:∀r,c=some r->r.ok g M):∀r,(fI g c x).1=some r->r.ok g (M+5):=by
 intro r a
 unfold fI at a
 cases b:c with
 |none=>rw [b] at a;cases a
 |some d=>
  rw [b] at a
  have a:(d.hS g x).1=r:=hr a
  rw [<-a]
  exact(h d b).hS e
theorem rS{g:al}{c:Option ai}{m:aY}:(g8 g c m).1.isSome=c.isSome:=by cases c<;>rfl
theorem ui{g:al}{c:Option ai}:(iB g c).1.isSome=c.isSome:=by cases c<;>rfl
theorem rT{g:al}{c:Option ai}{x:List UInt8}:(fI g c x).1.isSome=c.isSome:=by cases c<;>rfl
theorem aC.zg{g:al}{a:aC×List aY}{p:Int×aY}{M:Nat}(c:g.ok)(d:p.2.cP)(h:∀r,a.1.cur=some r->r.ok g M):∀r,(aC.one g a p).1.cur=some r->r.ok g (M+6):=by
 unfold aC.one
 split
 .exact rR c d h
 .split
  .exact λr b=>(h r b).more (by omega)
  .exact λr b=>(h r b).more (by omega)
theorem aC.FU{g:al}{a:aC×List aY}{p:Int×aY}:(aC.one g a p).1.cur.isSome=a.1.cur.isSome:=by
 unfold aC.one
 split
 .exact rS
 .split<;>rfl
theorem aC.qe{g:al}(d:g.ok):∀(l:List (Int×aY))(a:aC×List aY)(M:Nat),(∀p∈l,p.2.cP)->(∀r,a.1.cur=some r->r.ok g M)->
 ((l.foldl (aC.one g) a).1.am=a.1.am/\(l.foldl (aC.one g) a).1.log=a.1.log/\(l.foldl (aC.one g) a).1.cx=a.1.cx/\(l.foldl (aC.one g) a).1.eW=a.1.eW)/\(l.foldl (aC.one g) a).1.stored.length<=a.1.stored.length/\(∀q∈(l.foldl (aC.one g) a).1.stored,q∈a.1.stored)/\(∀r,(l.foldl (aC.one g) a).1.cur=some r->r.ok g (M+6*l.length))/\(l.foldl (aC.one g) a).1.cur.isSome=a.1.cur.isSome
 |[],a,M,_,h=>⟨⟨j,j,j,j⟩,cB _,λq b=>b,h,j⟩
 |p::r,a,M,c,h=>by
  obtain⟨⟨e,f,i,k⟩,m,n⟩:=aC.zh g a p
  obtain⟨⟨f1,f2,f3,f4⟩,f5,f6,f7,f8⟩:=aC.qe d r (aC.one g a p) (M+6) (λq b=>c q (by simp [b])) (aC.zg d (c p (by simp)) h)
  rw [ix]
  refine⟨⟨f1.trans e,f2.trans f,f3.trans i,f4.trans k⟩,ed f5 m,λq b=>n q (f6 q b),λx o=>(f7 x o).more (by rw [ep];omega),f8.trans aC.FU⟩
theorem aC.Ib{g:al}{s:aC}:(s.wanted g).1.cur.isSome=s.cur.isSome:=by
 unfold aC.wanted
 split
 .rfl
 .exact rT
theorem aC.ok.dd{g:al}{N M:Nat}{s:aC}(h:s.ok g N)(f:g.ok)(n:∀r,s.cur=some r->r.ok g M)(t:M+773<=N):(s.dd g).1.ok g N:=by
 obtain⟨i,b,d,e,j,k⟩:=h.wanted f n
 have o:∀p∈db s.stored,p.2.cP:=λp c=>h.lj p (gS.1 c)
 obtain⟨⟨f1,f2,f3,f4⟩,f5,f6,f7,f8⟩:=aC.qe f (db s.stored) (s.wanted g) (M+5) o (λr a=>(k r a).1)
 have hlen:(db s.stored).length<=128:=by rw [hM];exact h.stored
 unfold aC.dd
 refine⟨by rw [f1,i];exact h.am,by rw [f2,b];exact h.log,by rw [f2,b];exact h.nd,λr a=>⟨(f7 r a).more (by omega),?_⟩,by rw [f3,d];exact h.cx,by rw [f3,d];exact h.lg,Nat.le_trans f5 (by rw [e];exact h.stored),λp c=>h.lj p (by have:=f6 p c;rwa [e] at this),by rw [f4,j];exact h.eW⟩
 rw [f2,b]
 have l:s.cur.isSome=true:=by rw [<-aC.Ib (g:=g),<-f8,a];rfl
 obtain⟨q,m⟩:=g4.1 l
 exact(h.cur q m).2
theorem aC.ko{g:al}{N:Nat}{s:aC}{r:ai}(h:s.ok g N)(i:s.cur=some r):(s.next r).ok g N/\∀q,(s.next r).cur=some q->q.ok g 0:=by
 have l:=(h.cur r i).2
 have d:=(h.cur r i).1
 have a:∀q,(s.next r).cur=some q->q=ai.new s.am (s.log.length+1:Nat)/\s.log.length+1<64:=λq a=>by
  unfold aC.next at a
  dsimp only at a
  split at a
  .cases a;exact⟨j,by assumption⟩
  .cases a
 have f:∀q(K:Nat),(s.next r).cur=some q->q.ok g K:=λq K b=>by
  obtain⟨rfl,c⟩:=a q b
  exact ai.lc h.am ⟨by omega,by omega⟩ K
 refine⟨⟨h.am,?_,?_,λq b=>⟨f q N b,?_⟩,?_,?_,h.stored,h.lj,h.eW⟩,λq b=>f q 0 b⟩
 .show(s.log++[(r.value,r.dI)]).length<=64
  rw [ca,List.length_singleton];omega
 .intro e he
  rcases dA.1 (show e∈s.log++[(r.value,r.dI)] from he) with c|c
  .exact h.nd e c
  .rw [gb.1 c];exact⟨d.value,d.dI,d.qW⟩
 .show(s.log++[(r.value,r.dI)]).length<64
  rw [ca,List.length_singleton];exact(a q b).2
 .exact ed (ol _ _) h.cx
 .exact λx k=>h.lg x (hL.1 k).1
theorem aC.x8{g:al}(a:g.ok):∀(k:Nat){N:Nat}{s:aC}{l:List aY},s.ok g N->773<=N->(aC.go g k s l).1.ok g N
 |0,_,_,_,h,_=>h
 |k+1,N,s,l,h,d=>by
  unfold aC.go
  split
  .exact h
  .rename_i r e
   split
   .obtain⟨b,c⟩:=aC.ko h e
    exact aC.x8 a k (b.dd a c (by omega)) d
   .exact h
theorem A5{n:Nat}{aa:Env}{w:World}{P:Program}{dst:Option Nat}{ty:TypeId}{pos:String}{after:Array Edge}{g:Option (Nat×Bool)}{f:FuncId}{aD cs:Array Operand}{xs cR:List Value}(e:fo aa aD.toList=some xs)(h:fo aa cs.toList=some cR):
 ∀a,cG aa n a->(execOp a.eval ⟨dst,.makeFunc (.func f) aD cs,ty,pos,after,g⟩).run P w= .ok (.value (.func (.func f) xs.toArray cR.toArray)) w:=λa b=>by
 have c:aD.map a.eval=xs.toArray:=by apply fu;rw [hj,b.hl e]
 have d:cs.map a.eval=cR.toArray:=by apply fu;rw [hj,b.hl h]
 simp [execOp,c,d,Instr.makeFunc,Act.eval,Result.andThen]
def j8:List (Value×Value)->List (List UInt8×List aG)->List Chunk->Prop
 |[],[],G=>G=[]
 |e::es,x::l,G=>∃ah aA bn,G=ah++(aA++bn)/\dN e.1 x.1 ah/\ej e.2 x.2 aA/\j8 es l bn
 |[],_::_,_=>False
 |_::_,[],_=>False
abbrev Dq(es:List (Value×Value)):List Value:=es.flatMap λe=>[e.1,e.2]
def ns(v:Value)(l:List (List UInt8×List aG))(G:List Chunk):Prop:=∃ak H es,G=ak++H/\Row 126 2 v l.length (Dq es) ak/\j8 es l H
theorem j8.len:∀{es:List (Value×Value)}{l:List (List UInt8×List aG)}{G:List Chunk},j8 es l G->es.length=l.length
 |[],[],_,_=>rfl
 |[],_::_,_,h=>h.elim
 |_::_,[],_,h=>h.elim
 |_::es,_::l,_,⟨_,_,_,_,_,_,h⟩=>by simp [h.len]
theorem j8.app:∀{es c:List (Value×Value)}{l b0:List (List UInt8×List aG)}{G a:List Chunk},j8 es l G->j8 c b0 a->j8 (es++c) (l++b0) (G++a)
 |[],_,[],_,_,_,h,b=>by have h:_=[]:=h;subst h;exact b
 |[],_,_::_,_,_,_,h,_=>h.elim
 |_::_,_,[],_,_,_,h,_=>h.elim
 |_::_,_,_::_,_,_,a,⟨ah,aA,bn,rfl,d,e,h⟩,b=>⟨ah,aA,bn++a,by simp [dH],d,e,h.app b⟩
theorem j8.one{e:Value×Value}{x:List UInt8×List aG}{ah aA:List Chunk}(a:dN e.1 x.1 ah)(b:ej e.2 x.2 aA):j8 [e] [x] (ah++aA):=⟨ah,aA,[],by simp,a,b,j⟩
theorem j8.read{w:World}:∀{es:List (Value×Value)}{l:List (List UInt8×List aG)}{G:List Chunk},j8 es l G->Holds w G->∀(i:Nat)(b:i<l.length),∃A c B d,es[i]? =some (.slice A l[i].1.length c,.slice B l[i].2.length d)/\l[i].1.length<=c/\c<=maxLen/\Rd w A (aE l[i].1)/\l[i].2.length<=d/\Rd w B (vcs l[i].2)
 |[],[],_,_,_,i,b=>by simp at b
 |[],_::_,_,h,_,_,_=>h.elim
 |_::_,[],_,h,_,_,_=>h.elim
 |(u,v)::es,x::l,_,⟨ah,aA,bn,rfl,hu,k,h⟩,a,0,_=>by
  obtain⟨A,c,f,m,n,o,_⟩:=hu.read a.left
  obtain⟨B,d,g,p,_,q,_⟩:=k.read a.right.left
  have f:u=_:=f
  have g:v=_:=g
  subst f
  subst g
  exact⟨A,c,B,d,j,m,n,o,p,q⟩
 |e::es,x::l,_,⟨ah,aA,bn,rfl,hu,k,h⟩,a,i+1,b=>by
  have:=h.read a.right.right i (by simpa using b)
  simpa using this
def kt(g:al)(v:Value)(c:Option ai)(G:List Chunk):Prop:=(c=none/\v= .pointer none/\G=[])\/∃r aq,c=some r/\v=Z aq/\ft g aq r G
structure kb where
 log:Value
 cur:Value
 cx:Value
 stored:Value
abbrev o8(g:al)(s:aC)(c:kb):List Value:=[g.p,ab s.am,c.log,c.cur,c.cx,c.stored,ab s.eW]
abbrev cy(g:al)(bb:Nat)(s:aC)(c:kb):List Chunk:=R bb (o8 g s c).toArray 124
structure Bz(g:al)(s:aC)(c:kb)(L a8 Q D:List Chunk):Prop where
 log:ns c.log s.log L
 cur:kt g c.cur s.cur a8
 cx:gm c.cx s.cx Q
 stored:i8 c.stored s.stored D
def ij(g:al)(bb:Nat)(s:aC)(G:List Chunk):Prop:=∃(c:kb)(L a8 Q D:List Chunk),Bz g s c L a8 Q D/\G=cy g bb s c++(L++(a8++(Q++D)))
theorem C.qv{g:al}{bb:Nat}{s:aC}{c:kb}{L a8 Q D:List Chunk}{ae:List (List Chunk)}{o w:World}{F:List Nat}(h:C o F ((cy g bb s c++(L++(a8++(Q++D))))::ae) w):C o F (cy g bb s c::L::a8::Q::D::ae) w:=h.perm (by simp)
theorem C.iE{g:al}{bb:Nat}{s:aC}{c:kb}{L a8 Q D:List Chunk}{ae:List (List Chunk)}{o w:World}{F:List Nat}(h:C o F (cy g bb s c::L::a8::Q::D::ae) w):C o F ((cy g bb s c++(L++(a8++(Q++D))))::ae) w:=h.perm (by simp)
theorem FA{o:World}{g:al}{am:Int}:Calls prog 55 #[g.p,ab am] o (aS λr w=>∃bb G,r=Z bb/\ij g bb (aC.new am) G/\C o [] [G] w):=by
 have a:Own [] o:=C.start o
 refine a1 [g.p,ab am] func55 ntmps55 results55 ?_
 refine bm 9 (y2 (slot:=0)) j (λr w⟨aq,cH,f,i,e⟩=>?_)
 subst f
 have a:=a.aN e
 refine bm 0 vg j (λr w⟨b,h,f,k,e⟩=>?_)
 subst f
 have a:=a.aN e
 refine cO (c:=(o8 g (aC.new am) (⟨.slice none 0 0,Z aq,.slice none 0 0,Z b⟩:kb)).toArray) j j j (λ_=>by kernel_rfl) ?_
 refine bP 0 a j j (λd w a=>?_)
 refine ao 1 j j ?_
 have a:C o [] (cy g d (aC.new am) (⟨.slice none 0 0,Z aq,.slice none 0 0,Z b⟩:kb)::_) w:=a
 refine⟨d,_,j,⟨(⟨.slice none 0 0,Z aq,.slice none 0 0,Z b⟩:kb),[],cH,[],ay 288 b h (.map #[] 0),⟨⟨[],[],[],j,Row.nil _ _,j⟩,.inr ⟨_,aq,j,j,i⟩,⟨[],[],[],j,Row.nil _ _,j⟩,fp.new k⟩,j⟩,?_⟩
 exact C.perm (A:=[cy g d (aC.new am) (⟨.slice none 0 0,Z aq,.slice none 0 0,Z b⟩:kb),cH,ay 288 b h (.map #[] 0)]) a.as (by simp)
theorem Ec{o:World}{dY:FuncId}[Entry prog dY]{bc:Array Value}{p:List UInt8->Bool}{T:World->Prop}(N:∀(g:World)(A B:Option Addr)(x:List UInt8)(l:List aG)(bH d:Nat),T g->Rd g A (aE x)->Calls prog dY (#[]++ #[.agg #[.slice A x.length bH,.slice B l.length d]]++bc) g (aS λr w=>r= .bool (p x)/\C g [] [] w))(L:∀w,C o [] [] w->T w){v:Value}{l:List (List UInt8×List aG)}{G:List Chunk}(M:ns v l G)(y:Holds o G):Calls prog 258 #[v,.func (.func dY) #[] bc] o (aS λr w=>(∃z:Int,r= .int .i64 z/\decide (z>=0)=l.any λe=>p e.1)/\C o [] [] w):=by
 have a:Own [] o:=C.start o
 obtain⟨X,W,es,rfl,K,u⟩:=M
 obtain⟨s,t,rfl,af,S,P,_⟩:=K.read y.left
 have aa:=u.len
 have D:∀e∈es,([e.1,e.2]:List Value).length=2:=λ_ _=>rfl
 refine a1 [.slice s l.length t,.func (.func dY) #[] bc] func258 ntmps258 results258 ?_
 refine cY 10 j (cA:=Nat) (λi=>[(0,.slice s l.length t),(1,.func (.func dY) #[] bc),(7,.int .i64 (l.length:Nat)),(8,.int .i64 (i:Nat))])
  (λi w=>i<=l.length/\((l.take i).any λe=>p e.1)=false/\C o [] [] w) (λi=>l.length-i) 0 ⟨j,j,j,j,ba⟩ ⟨ch _,j,a⟩ ?_
 rintro i w ⟨ab,q,a⟩
 refine aT 4 j j (λm=>?_) (λm=>?_)
 .have b:i<l.length:=by have:=br m;omega
  obtain⟨c,ci,h,n,R,ac,ae,Q,_,_⟩:=u.read (y.right.st a) i b
  have E:es[i]'(by omega)=(.slice c l[i].1.length ci,.slice h l[i].2.length n):=by have:=R;rw [ck (by omega)] at this;exact hr this
  have H:=a.rd P (bU.of_nil _ _)
  refine ar 12 j (fL j j j j H (v:=.slice c l[i].1.length ci) (iC (f:=λe:Value×Value=>[e.1,e.2]) (J:=0) es D i (by omega) (by decide) (by rw [E];rfl)) b (λY I Z=>?_))
  subst I
  have F:=jE (f:=λe:Value×Value=>[e.1,e.2]) H D i (by omega)
  rw [E] at F
  refine bS 0 (U:=[.slice c l[i].1.length ci,.slice h l[i].2.length n]) j j j F (hE j j j j (N _ c h l[i].1 l[i].2 ci n (L _ a) Q) (λr w⟨V,ad⟩=>?_))
  subst V
  have a:=(a.aN ad).bare
  refine aT 0 j j (λk=>?_) (λk=>?_)
  .refine ao 4 j j (⟨⟨_,j,?_⟩,a⟩)
   rw [jb (by omega)]
   exact(kf.2 ⟨_,ek b,k⟩).symm
  refine bt 2 j j j (c2 i (by unfold maxLen at S;omega)) (bX 1 j (⟨i+1,⟨j,j,j,j,ba⟩,⟨b,?_,a⟩,by omega⟩))
  rw [fF b,rn,q]
  simp [k]
 refine ao 4 j j ?_
 have O:i=l.length:=by have:=bw m;omega
 rw [O,gy] at q
 exact⟨⟨_,j,by rw [q];rfl⟩,a⟩
theorem C4{o:World}{dY:FuncId}[Entry prog dY]{bc:Array Value}{p:List UInt8->Bool}{T:World->Prop}(g:∀(a:World)(A B:Option Addr)(x:List UInt8)(l:List aG)(bH d:Nat),T a->Rd a A (aE x)->Calls prog dY (#[]++ #[.agg #[.slice A x.length bH,.slice B l.length d]]++bc) a (aS λr w=>r= .bool (p x)/\C a [] [] w))(c:∀w,C o [] [] w->T w){v:Value}{l:List (List UInt8×List aG)}{G:List Chunk}(f:ns v l G)(b:Holds o G):Calls prog 211 #[v,.func (.func dY) #[] bc] o (aS λr w=>r= .bool (l.any λe=>p e.1)/\C o [] [] w):=by
 refine a1 [v,.func (.func dY) #[] bc] func211 ntmps211 results211 (bm 7 (Ec g c f b) j (λr w⟨⟨z,h,i⟩,ad⟩=>?_))
 subst h
 refine ao 2 j j ?_
 exact⟨aL Value.bool i,ad⟩
theorem At{o:World}{a:Nat}{A B:Option Addr}{xs cR:List UInt8}{bH d:Nat}(e:o.heap[a]? =some (.cells #[.slice B cR.length d] 30 (0,0)))(b:Rd o A (aE xs))(c:Rd o B (aE cR)):Calls prog 209 (#[]++ #[.slice A xs.length bH]++ #[Z a]) o (aS λr w=>r= .bool (decide (xs=cR))/\w=o):=by
 refine a1 [.slice A xs.length bH,Z a] func209 ntmps209 results209 (au 6 j (aw e j) (bp 0 (qa b c) j (λw hw=>?_)))
 subst hw
 refine ao 1 j j ?_
 exact⟨j,j⟩
theorem HI{o:World}{c b:Nat}{A B a8:Option Addr}{xs cR:List UInt8}{l:List aG}{bH d dl:Nat}(g:o.heap[c]? =some (.cells #[.slice B cR.length d] 30 (0,0)))(h:o.heap[b]? =some (.cells #[.func (.func 209) #[] #[Z c]] 299 (0,0)))(e:Rd o A (aE xs))(f:Rd o B (aE cR)):Calls prog 212 (#[]++ #[.agg #[.slice A xs.length bH,.slice a8 l.length dl]]++ #[Z b]) o (aS λr w=>r= .bool (decide (xs=cR))/\C o [] [] w):=by
 have a:Own [] o:=C.start o
 refine a1 [.agg #[.slice A xs.length bH,.slice a8 l.length dl],Z b] func212 ntmps212 results212 (bP 2 a j j (λaJ w a=>au 3 j (aw (a.cd h) j) (au 1 j (aw (C.aj a) j) (hE j j j j (At (a.cd g) (a.rd e (bU.of_nil _ _)) (a.rd f (bU.of_nil _ _))) (λr w⟨i,hw⟩=>?_)))))
 subst i
 subst hw
 refine ao 1 j j ?_
 exact⟨j,a.bare⟩
theorem Eo{o:World}{bb:Nat}{g:al}{s:aC}{c:kb}(n:o.heap[bb]? =some (.cells (o8 g s c).toArray 124 (0,0))){L Q:List Chunk}(z:ns c.log s.log L)(B:gm c.cx s.cx Q)(u:Holds o L)(v:Holds o Q){A:Option Addr}{x:List UInt8}{bH:Nat}(q:Rd o A (aE x)):Calls prog 172 #[Z bb,.slice A x.length bH] o (aS λr w=>r= .bool (s.there x)/\C o [] [] w):=by
 have a:Own [] o:=C.start o
 refine a1 [Z bb,.slice A x.length bH] func172 ntmps172 results172 (bP 2 a j j (λd w a=>?_))
 have a:C o [] [R d #[.slice A x.length bH] 30] w:=a
 refine ar 3 j (gR j j j j ?_)
 refine cn 0 a j (λe w a=>dD 0 (a.bf e) j j j j (λw a=>?_))
 have a:C o [] ([(e,.cells #[.func (.func 209) #[] #[Z d]] 299 (0,0))]::_) w:=a
 have a:C o [] [R d #[.slice A x.length bH] 30,[(e,.cells #[.func (.func 209) #[] #[Z d]] 299 (0,0))]] w:=a.as
 have a:=a.drew
 refine bz 1 j (λw=>∃ae,C o [] ([R d #[.slice A x.length bH] 30,[(e,.cells #[.func (.func 209) #[] #[Z d]] 299 (0,0))]]++ae) w) ⟨_,a⟩ (af 0 3 j (bT 3 j (λw⟨_,a⟩=>aw (a.cd n) j) (be 4 j a7 j (aW 5 j ?_))))
 have l:=xj (p:=λy=>decide (y=x)) (bc:= #[Z d]) (dY:=209) (λg1 eO t i=>At (C.aj a) i (a.rd q (bU.of_nil _ _))) B (v.st a)
 refine bF j j j l (λw hw=>?_)
 subst hw
 refine an ⟨⟨_,a⟩,?_⟩
 refine af 6 1 j (ef 13 j (λm=>?_) (λm=>?_))
 refine af 7 8 j ?_
 rotate_left
 refine af 7 3 j (bT 10 j (λw⟨_,a⟩=>aw (a.cd n) j) (aV 11 j (λw⟨_,a⟩=>A5 j j) (aW 12 j ?_)))
 have D:=C.aj (b:=d) a
 have E:=C.aj (b:=e) a
 have l:=C4 (p:=λy=>decide (y=x)) (bc:= #[Z e]) (dY:=212) (T:=λf=>f.heap[d]? =some (.cells #[.slice A x.length bH] 30 (0,0))/\f.heap[e]? =some (.cells #[.func (.func 209) #[] #[Z d]] 299 (0,0))/\Rd f A (aE x)) (λf g1 F eO b0 t G k i=>HI k.1 k.2.1 i k.2.2) (λf h=>⟨h.cd D,h.cd E,h.rd (a.rd q (bU.of_nil _ _)) (bU.of_nil _ _)⟩) z (u.st a)
 refine bF j j j l (λw ad=>?_)
 have a:=a.aN ad
 have a:C o [] [R d #[.slice A x.length bH] 30,[(e,.cells #[.func (.func 209) #[] #[Z d]] 299 (0,0))]] w:=a.as
 refine an ⟨⟨_,a⟩,?_⟩
 refine af 13 2 j ?_
 rotate_left
 all_goals
  refine bO (ao 0 j j (⟨aL Value.bool ?_,a.bare⟩))
  unfold aC.there
  rw [m]
  rfl
abbrev nr(p:List UInt8->Bool)(us:List Value)(l:List (List UInt8))(J:Nat):List Value:=(((us.zip l).take J).filter λe=> !p e.2).map Prod.fst
theorem te{p:List UInt8->Bool}{us:List Value}{l:List (List UInt8)}{J:Nat}(c:us.length=l.length)(b:J<l.length):nr p us l (J+1)=nr p us l J++(if p l[J]=true then [] else [us[J]'(by omega)]):=by
 unfold nr
 rw [fF (by rw [oo];omega),mP,List.map_append,List.getElem_zip]
 by_cases a:p l[J]=true
 .rw [a6 a];simp [a]
 .rw [aF a];simp [a]
theorem AQ{p:List UInt8->Bool}{us:List Value}{l:List (List UInt8)}:∀{J:Nat},us.length=l.length->J<=l.length->(l.take J).any p=false->nr p us l J=us.take J
 |0,_,_,_=>by simp [nr]
 |J+1,a,d,h=>by
  have b:J<l.length:=d
  rw [fF b,rn] at h
  simp only [Bool.or_eq_false_iff] at h
  have c:p l[J]=false:=by simpa using h.2
  rw [te a b,AQ a (by omega) h.1,aF (by rw [c];decide),fF (show J<us.length by omega)]
theorem hT.xM{p:List UInt8->Bool}:∀{us:List Value}{l:List (List UInt8)}{H:List Chunk},hT us l H->∃H1 ak,H.Perm (H1++ak)/\hT (((us.zip l).filter λe=> !p e.2).map Prod.fst) (l.filter λx=> !p x) H1
 |[],[],_,h=>⟨[],[],by have h:_=[]:=h;subst h;exact .refl _,j⟩
 |[],_::_,_,h=>h.elim
 |_::_,[],_,h=>h.elim
 |u::us,x::l,_,⟨ah,aA,rfl,hu,h⟩=>by
  obtain⟨H1,ak,b,a⟩:=h.xM (p:=p)
  by_cases c:p x=true
  .refine⟨H1,ah++ak,?_,?_⟩
   .refine(pG ah b).trans ?_
    rw [<-dH,<-dH]
    exact oC _ ly
   .simpa [tK,om,c] using a
  .refine⟨ah++H1,ak,?_,?_⟩
   .rw [dH];exact pG ah b
   .simp only [tK,om,c,Bool.not_false,kh,jO]
    exact⟨ah,H1,j,hu,a⟩
theorem Ea{o:World}{dY:FuncId}[Entry prog dY]{bc:Array Value}{p:List UInt8->Bool}{T:World->Prop}(y:∀(c:World)(A:Option Addr)(x:List UInt8)(bH:Nat),T c->Rd c A (aE x)->Calls prog dY (#[]++ #[.slice A x.length bH]++bc) c (aS λr w=>r= .bool (p x)/\w=c))(s:T o){v:Value}{l:List (List UInt8)}{G:List Chunk}(t:gm v l G)(m:Holds o G):Calls prog 226 #[v,.func (.func dY) #[] bc] o (aS λr w=>(∃z:Int,r= .int .i64 z/\((z= -1/\l.any p=false)\/∃i:Nat,∃h:i<l.length,z=i/\(l.take i).any p=false/\p l[i]=true))/\w=o):=by
 obtain⟨J,I,us,rfl,q,n⟩:=t
 obtain⟨f,k,rfl,P,F,C,_⟩:=q.read m.left
 refine a1 [.slice f l.length k,.func (.func dY) #[] bc] func226 ntmps226 results226 ?_
 refine cY 10 j (cA:=Nat) (λi=>[(0,.slice f l.length k),(1,.func (.func dY) #[] bc),(7,.int .i64 (l.length:Nat)),(8,.int .i64 (i:Nat))])
  (λi w=>i<=l.length/\(l.take i).any p=false/\w=o) (λi=>l.length-i) 0 ⟨j,j,j,j,ba⟩ ⟨ch _,j,j⟩ ?_
 rintro i w ⟨M,b,hw⟩
 subst hw
 refine aT 4 j j (λe=>?_) (λe=>?_)
 .have a:i<l.length:=by have:=br e;omega
  obtain⟨g,ci,E,N,O,D⟩:=n.read m.right i a
  refine ar 12 j (fL j j j j C (v:=.slice g l[i].length ci) (by rw [gT];exact E) a (λK L u=>?_))
  refine au 0 j u (hE j j j j (y _ g l[i] ci s D) (λr w⟨H,hw⟩=>?_))
  subst H
  subst hw
  refine aT 0 j j (λd=>?_) (λd=>?_)
  .refine ao 4 j j ?_
   exact⟨⟨_,j,.inr ⟨i,a,j,b,d⟩⟩,j⟩
  refine bt 2 j j j (c2 i (by unfold maxLen at F;omega)) (bX 1 j (⟨i+1,⟨j,j,j,j,ba⟩,⟨a,?_,j⟩,by omega⟩))
  rw [fF a,rn,b]
  simp [d]
 refine ao 4 j j ?_
 have B:i=l.length:=by have:=bw e;omega
 rw [B,gy] at b
 exact⟨⟨_,j,.inl ⟨j,b⟩⟩,j⟩
theorem Dk{o:World}{dY:FuncId}[Entry prog dY]{bc:Array Value}{p:List UInt8->Bool}{T:World->Prop}(Z:∀(H:World)(A:Option Addr)(x:List UInt8)(bH:Nat),T H->Rd H A (aE x)->Calls prog dY (#[]++ #[.slice A x.length bH]++bc) H (aS λr w=>r= .bool (p x)/\w=H)){v:Value}{l:List (List UInt8)}{G:List Chunk}(Q:∀w ae,C o (av [G]) ae w->T w)(S:gm v l G)(a:Own [G] o):Calls prog 183 #[v,.func (.func dY) #[] bc] o (aS λr w=>∃ah,gm r (l.filter λx=> !p x) ah/\C o (av [G]) [ah] w):=by
 obtain⟨q,Y⟩:∃q,q=av [G]:=⟨_,j⟩
 rw [<-Y] at Q⊢
 have a:C o q [G] o:=Y▸a
 refine a1 [v,.func (.func dY) #[] bc] func183 ntmps183 results183 (bm 7 (Ea Z (Q _ _ a) S a.uP) j (λr w⟨⟨z,aB,F⟩,hw⟩=>?_))
 subst aB
 have hw:=hw.symm
 subst hw
 refine aT 6 j j (λt=>?_) (λt=>?_)
 .refine ao 4 j j ?_
  have ak:l.any p=false:=by
   rcases F with h|⟨i,_,rfl,_⟩
   .exact h.2
   .have:=dX.1 t;omega
  have e:(l.filter λx=> !p x)=l:=List.filter_eq_self.2 (λx E=>by
   rcases h:p x with _|_
   ·rfl
   ·have:=kf.2 ⟨x,E,h⟩;rw [ak] at this;cases this)
  rw [e]
  exact⟨G,S,a⟩
 obtain⟨V,ab,rfl,aw,ax⟩:=F.resolve_left (λh=>by rw [h.1] at t;cases t)
 obtain⟨aJ,ad,us,rfl,P,X⟩:=S
 obtain⟨E,ai⟩:=P
 obtain⟨b,cap,L,rfl,rfl,au,U,am,aD⟩:=ai.resolve_left (λh=>by have:=h.2.1;omega)
 have P:Row 30 1 (.slice (some ⟨b,0,none⟩) l.length cap) l.length us (R b L 30):=⟨E,.inr ⟨b,cap,L,j,j,au,U,am,aD⟩⟩
 have D:us.length=l.length:=by rw [E,gT]
 have a:=a.split
 have U:cap<=9223372036854775807:=by unfold maxLen at U;omega
 refine bt 5 j j j (c2 V (by omega)) ?_
 refine cY 2 j (cA:=Nat×Nat×List Value×Array Value) (λk=>[(0,.slice (some ⟨b,0,none⟩) l.length cap),(1,.func (.func dY) #[] bc),(5,.int .i64 (k.1:Nat)),(6,.int .i64 (k.2.1:Nat))])
  (λk w=>k.1<k.2.1/\k.2.1<=l.length/\k.2.2.1.take k.1=nr p us l k.2.1/\k.2.2.1.drop k.2.1=us.drop k.2.1/\Row 30 1 (.slice (some ⟨b,0,none⟩) l.length cap) l.length k.2.2.1 (R b k.2.2.2 30)/\C o q [R b k.2.2.2 30,ad] w) (λk=>l.length-k.2.1) (V,V+1,us,L) ⟨j,j,j,j,ba⟩ ⟨Nat.lt_succ_self _,ab,?_,j,P,a⟩ ?_
 .dsimp only
  rw [te D ab,a6 ax,g6,AQ D (by omega) aw]
 rintro⟨i,J,s,cur⟩ w ⟨an,ap,y,u,f,a⟩
 dsimp only at an ap y u f a⊢
 have aQ:s.length=l.length:=by rw [f.1,gT]
 have aM:cap<=cur.size:=by
  obtain⟨_,h|⟨_,_,_,M,N,_,_,aK,_⟩⟩:=f
  .have:=h.2.1;omega
  .cases M;cases N;omega
 refine aT 7 j j (λI=>?_) (λI=>?_)
 .have n:J<l.length:=by have:=br I;omega
  refine ar 7 j (hG j j j j n ?_)
  obtain⟨c,d,ac,aO,aP,aC⟩:=X.read (a.holds (by simp)) J n
  have aG:s[J]? =some (.slice c l[J].length d):=by
   have m:=aL (λz:List Value=>z[0]?) u
   simp only [lx,ov] at m
   rw [m];exact ac
  refine n7 j j j j (by
   obtain⟨_,_,e,_,_,h,_⟩:=f.rd a
   cases e
   have:=h.cell aG
   rw [add_lit] at this
   simpa using this) ?_
  refine ar 5 j (hE j j j j (Z _ c l[J] d (Q _ _ a) aC) (λr w⟨F,hw⟩=>?_))
  subst F
  have hw:=hw.symm
  subst hw
  refine aT 1 j j (λK=>?_) (λK=>?_)
  .refine ar 5 j (hG j j j j (show i<l.length by omega) ?_)
   refine cC a j j j j (by omega) (λw a=>?_)
   have ag:=f.set i (.slice c l[J].length d)
   have a:=C.gk a (show cur.setIfInBounds (0+i*1) (.slice c l[J].length d)=cur.setIfInBounds i (.slice c l[J].length d) by rw [fk,gT])
   refine bt 2 j j j (c2 i (by omega)) (bt 3 j j j (c2 J (by omega)) (bX 1 j ?_))
   have az:p l[J]=false:=by simpa using K
   refine⟨(i+1,J+1,s.set i (.slice c l[J].length d),_),⟨j,j,j,j,ba⟩,⟨by dsimp only;omega,n,?_,?_,ag,a⟩,by dsimp only;omega⟩
   .dsimp only
    have aH:us[J]'(by omega)= .slice c l[J].length d:=by have:=ac;rw [ck (by omega)] at this;exact hr this
    rw [te D n,aF (by rw [az];decide),<-y,aH]
    rw [fF (by rw [hp];omega),List.getElem_set_self,List.take_set_of_le (by omega)]
   dsimp only
   rw [List.drop_set_of_lt (by omega)]
   have m:=aL (List.drop 1) u
   simpa [ri] using m
  refine bt 3 j j j (c2 J (by omega)) (bX 1 j ?_)
  have aA:p l[J]=true:=by simpa using K
  refine⟨(i,J+1,s,cur),⟨j,j,j,j,ba⟩,⟨by dsimp only;omega,n,?_,?_,f,a⟩,by dsimp only;omega⟩
  .dsimp only
   rw [te D n,a6 aA,g6]
   exact y
  dsimp only
  have m:=aL (List.drop 1) u
  simpa [ri] using m
 have aq:J=l.length:=by have:=bw I;omega
 subst aq
 refine ar 5 j (n9 j j j j (show i<=l.length by omega) ?_)
 refine b2 38 (.slice (some ⟨b,0+i*1,none⟩) (l.length-i) (cap-i)) j (by rw [aF (by omega)];simp [add_lit]) (wj (size:=1) a j j (by decide) j j j (by omega) (λg w aN aa a=>ar 4 j (rc j j j j (show i<=cap by omega) ?_)))
 refine ao 1 j j ?_
 have aI:nr p us l l.length=((us.zip l).filter λe=> !p e.2).map Prod.fst:=by unfold nr;rw [List.take_of_length_le (by rw [List.length_zip];omega)]
 obtain⟨H1,W,ay,O⟩:=X.xM (p:=p)
 rw [<-aI,<-y] at O
 have al:i=(l.filter λx=> !p x).length:=by have:=O.len;rw [hi] at this;omega
 refine⟨R b g 30++H1,⟨R b g 30,H1,s.take i,j,?_,O⟩,?_⟩
 .rw [<-al]
  refine⟨by rw [hi];omega,.inr ⟨b,cap,g,j,j,by omega,by unfold maxLen;omega,by omega,?_⟩⟩
  obtain⟨_,h|⟨_,_,_,M,N,_,_,_,af⟩⟩:=f
  .have:=h.2.1;omega
  cases M
  cases N
  rw [gT,<-af]
  rw [fk,gT] at aa
  rw [aa,List.take_take,mO (by omega)]
 have aj:C o q [R b g 30,H1,W] w:=a.perm (B:=[R b g 30,H1,W]) (by simpa using ay)
 exact C.perm (A:=[R b g 30,H1]) aj.as (by simp)
theorem H9{o:World}{v:Value}:Calls prog 173 #[.pointer none,v] o (aS λr w=>r= .slice none 0 0/\C o [] [] w):=by
 have a:Own [] o:=C.start o
 refine a1 [.pointer none,v] func173 ntmps173 results173 (ar 9 j (b2 7 (.bool true) j (aL Value.bool (j)) ?_))
 refine ao 9 j j ?_
 exact⟨j,a⟩
theorem HK{o:World}:Calls prog 143 #[.pointer none] o (aS λr w=>r= .slice none 0 0/\C o [] [] w):=by
 have a:Own [] o:=C.start o
 refine a1 [.pointer none] func143 ntmps143 results143 (ar 9 j (b2 8 (.bool true) j (aL Value.bool (j)) ?_))
 refine ar 6 j (b2 14 (.bool true) j (aL Value.bool (j)) ?_)
 refine ao 10 j j ?_
 exact⟨j,a⟩
theorem Hu{o:World}{m:aB}:Calls prog 136 #[.pointer none,.agg m.cs.toArray] o (aS λr w=>r= .slice none 0 0/\C o [] [] w):=by
 have a:Own [] o:=C.start o
 refine a1 [.pointer none,.agg m.cs.toArray] func136 ntmps136 results136 (bP 2 a j j (λb w a=>ar 7 j (b2 7 (.bool true) j (aL Value.bool (j)) ?_)))
 refine ar 6 j (b2 13 (.bool true) j (aL Value.bool (j)) ?_)
 refine ao 9 j j ?_
 exact⟨j,a.bare⟩
theorem AJ{o:World}{g:al}{v:Value}{c:Option ai}{G:List Chunk}{A:Option Addr}{x:List UInt8}{bH:Nat}(s:Rd o A (aE x))(t:x.length<=1000000)(d:kt g v c G){N:Nat}(n:∀r,c=some r->r.ok g N)(f:N+10<=1000000)(k:g.at o)(l:g.ok)(m:g.off (av [G]))(a:Own [G] o):Calls prog 173 #[v,.slice A x.length bH] o (aS λr w=>∃bl ah,cz r (fI g c x).2 bl/\kt g v (fI g c x).1 ah/\C o (av [G]) [ah,bl] w):=by
 rcases d with⟨rfl,rfl,rfl⟩|⟨r,aq,rfl,rfl,h⟩
 .refine Calls.mono H9 (λr w⟨p,ad⟩=>⟨[],[],?_,.inl ⟨j,j,j⟩,?_⟩)
  .rw [p];exact cz.nil
  .exact(a.im (show C o (av [[]]) [[],[]] w from(by
    have b:C o [] [[],[]] w:=ad.empty.empty
    exact b)):_)
 .refine Calls.mono (Ia s t h (n r j) f k l m a) (λq w⟨bl,ah,e,i,ad⟩=>⟨bl,ah,e,.inr ⟨_,aq,j,j,i⟩,ad⟩)
theorem Ao{o:World}{g:al}{v:Value}{c:Option ai}{G:List Chunk}{m:aB}(hm:m.ok o)(d:kt g v c G){N:Nat}(p:∀r,c=some r->r.ok g N)(f:N+10<=1000000)(k:g.at o)(l:g.ok)(n:g.off (av [G]))(a:Own [G] o):Calls prog 136 #[v,.agg m.cs.toArray] o (aS λr w=>∃bl ah,cz r (g8 g c m.P).2 bl/\kt g v (g8 g c m.P).1 ah/\C o (av [G]) [ah,bl] w):=by
 rcases d with⟨rfl,rfl,rfl⟩|⟨r,aq,rfl,rfl,h⟩
 .refine Calls.mono Hu (λr w⟨s,ad⟩=>⟨[],[],?_,.inl ⟨j,j,j⟩,?_⟩)
  .rw [s];exact cz.nil
  .exact(a.im (show C o (av [[]]) [[],[]] w from(by
    have b:C o [] [[],[]] w:=ad.empty.empty
    exact b)):_)
 .refine Calls.mono (Hx hm h (p r j) f k l n a) (λq w⟨bl,ah,e,i,ad⟩=>⟨bl,ah,e,.inr ⟨_,aq,j,j,i⟩,ad⟩)
theorem HJ{o:World}{g:al}{v:Value}{c:Option ai}{G:List Chunk}(d:kt g v c G){N:Nat}(n:∀r,c=some r->r.ok g N)(f:N+10<=1000000)(k:g.at o)(l:g.ok)(m:g.off (av [G]))(a:Own [G] o):Calls prog 143 #[v] o (aS λr w=>∃bl ah,cz r (iB g c).2 bl/\kt g v (iB g c).1 ah/\C o (av [G]) [ah,bl] w):=by
 rcases d with⟨rfl,rfl,rfl⟩|⟨r,aq,rfl,rfl,h⟩
 .refine Calls.mono HK (λr w⟨p,ad⟩=>⟨[],[],?_,.inl ⟨j,j,j⟩,?_⟩)
  .rw [p];exact cz.nil
  .exact(a.im (show C o (av [[]]) [[],[]] w from(by
    have b:C o [] [[],[]] w:=ad.empty.empty
    exact b)):_)
 .refine Calls.mono (HL h (n r j) f k l m a) (λq w⟨bl,ah,e,i,ad⟩=>⟨bl,ah,e,.inr ⟨_,aq,j,j,i⟩,ad⟩)
theorem ai.HC{g:al}(a:g.ok)(s:ai)(m:aY):(s.take g m).2.length<=50:=by
 unfold ai.take
 split
 .exact ch _
 .exact ai.sO a _
theorem ai.Ie{g:al}(a:g.ok)(s:ai)(x:List UInt8):(s.hS g x).2.length<=50:=by
 unfold ai.hS
 split
 .exact ch _
 .exact ai.sO a _
theorem ai.HP{g:al}(a:g.ok)(s:ai):(s.tick g).2.length<=51:=by
 unfold ai.tick
 split
 .exact ch _
 .rw [ca]
  have b:=ai.Au g s
  have c:=ai.sO a (s.gl g).1
  omega
theorem rQ{g:al}(a:g.ok)(c:Option ai)(m:aY):(g8 g c m).2.length<=50:=by
 cases c with
 |none=>exact ch _
 |some r=>exact ai.HC a r m
theorem uj{g:al}(a:g.ok)(c:Option ai)(x:List UInt8):(fI g c x).2.length<=50:=by
 cases c with
 |none=>exact ch _
 |some r=>exact ai.Ie a r x
theorem xt{g:al}(a:g.ok)(c:Option ai):(iB g c).2.length<=51:=by
 cases c with
 |none=>exact ch _
 |some r=>exact ai.HP a r
theorem aC.FT{g:al}(b:g.ok)(a:aC×List aY)(p:Int×aY):(aC.one g a p).2.length<=a.2.length+50:=by
 unfold aC.one
 split
 .dsimp only
  rw [ca]
  have:=rQ b a.1.cur p.2
  omega
 .split<;>exact gz _ _
theorem aC.uG{g:al}(b:g.ok):∀(l:List (Int×aY))(a:aC×List aY),(l.foldl (aC.one g) a).2.length<=a.2.length+50*l.length
 |[],_=>by simp
 |p::r,a=>by
  rw [ix]
  have c:=aC.uG b r (aC.one g a p)
  have d:=aC.FT b a p
  rw [ep]
  omega
theorem aC.AK{g:al}(a:g.ok)(s:aC):(s.wanted g).2.length<=50:=by
 unfold aC.wanted
 split
 .exact ch _
 .exact uj a _ _
theorem aC.w3{g:al}(a:g.ok){s:aC}(h:s.stored.length<=128):(s.dd g).2.length<=6450:=by
 unfold aC.dd
 have b:=aC.uG a (db s.stored) (s.wanted g)
 have c:=aC.AK a s
 rw [hM] at b
 omega
theorem x1{α β:Type}{f:β->α->β}{b:β}{l t1 t2:List α}{p:α}{n:Nat}(a:l=t1++p::t2)(aP:t1.length=n):(l.take (n+1)).foldl f b=f ((l.take n).foldl f b) p:=by
 subst a
 subst aP
 rw [pH,List.take_append,List.take_of_length_le (by omega),List.take_of_length_le (Nat.le_refl _),show t1.length+1-t1.length=1 by omega,Nat.sub_self]
 simp [nC]
theorem w4{o:World}{g:al}{bb:Nat}{s:aC}{G:List Chunk}(ce:ij g bb s G){N M:Nat}(aa:s.ok g N)(bs:∀r,s.cur=some r->r.ok g M)(cY:M+783<=1000000)(aP:g.at o)(V:g.ok)(aD:g.off (av [G]))(d:Own [G] o):Calls prog 185 #[Z bb] o (aS λr w=>∃bl ah,cz r (s.dd g).2 bl/\ij g bb (s.dd g).1 ah/\C o (av [G]) [ah,bl] w):=by
 obtain⟨c,L,a8,Q,D,S,rfl⟩:=ce
 obtain⟨u,bo⟩:∃u,u=av [cy g bb s c++(L++(a8++(Q++D)))]:=⟨_,j⟩
 rw [<-bo] at aD⊢
 have d:C o u [cy g bb s c++(L++(a8++(Q++D)))] o:=bo▸d
 have d:=d.qv
 obtain⟨n,ag,I,bK,t,aA,bE,aU,cb⟩:=S.stored
 subst cb
 obtain⟨bh,bd,us,aM,a1,bj⟩:=S.cx
 obtain⟨bS,bZ,aO,c4,c7⟩:=a1.form
 obtain⟨cS,cR,es,cW,cg,cV⟩:=S.log
 obtain⟨cK,cU,cm,c1,c2⟩:=cg.form
 obtain⟨cE,bO,cF,cG,cH,bQ⟩:=aa.wanted V bs
 refine iq [Z bb] (fn:=f185) func185 ntmps185 (bP 2 d j j (λax w d=>?_))
 have d:C o u (R ax #[Z bb] 59::_) w:=d
 refine cn 3 d j (λl w d=>?_)
 have d:C o u (R l #[.slice none 0 0] 56::R ax #[Z bb] 59::_) w:=d
 refine au 3 j (aw (C.aj d) j) (au 2 j (aw (C.aj (b:=bb) d) (aL some aO)) (aT 2 j j (λaH=>?_) (λaH=>?_)))
 have d:C o u [R ax #[Z bb] 59,cy g bb s c,Q,R l #[.slice none 0 0] 56,L,a8,ay 288 n ag I++t] w:=d.as
 refine mc 0 j (λw=>∃ae,C o u ([R ax #[Z bb] 59,cy g bb s c,Q]++ae) w) ?_
 have d:=d.drew
 have ao:0<s.cx.length:=by have:=of_decide_eq_true aH;omega
 have bB:=d.holds (G:=Q) (by simp)
 obtain⟨bU,bH,a5,_,_,_⟩:=bj.read (show Holds _ bd by have h:=bB;rw [aM] at h;exact h.right) 0 ao
 obtain⟨aZ,bc,bi⟩:∃aZ bc,bS=some ⟨aZ,bc,none⟩:=by
  obtain⟨g1,cT,e,_,_,ct,cp⟩:=a1.read (show Holds _ bh by have h:=bB;rw [aM] at h;exact h.left)
  rw [aO] at e
  cases e
  rcases cp with rfl|h
  .obtain⟨_,h,_⟩:=ct 0 _ a5;cases h
  .exact h
 refine eI 0 j ⟨_,d⟩ (λw⟨_,d⟩=>hD j j (aw (C.aj d) j)) (fM 2 [1,2] j ⟨_,d⟩ (eI 3 j ⟨_,d⟩ (λw⟨_,d⟩=>hD j j (aw (C.aj d) j)) (eI 4 j ⟨_,d⟩ (λw⟨_,d⟩=>hD j j (aw (C.aj d) j)) ?_)))
 refine fM 2 [5,6] j ⟨_,d⟩ (eI 7 j ⟨_,d⟩ (λw⟨_,d⟩=>hD j j (aw (C.aj (b:=bb) d) (aL some aO))) (q6 20 (.slice (some ⟨aZ,bc,none⟩) s.cx.length bZ) j (by rw [bi]) (eI 8 j ⟨_,d⟩ (λw _=>gI (J:=0) j j (by simpa using ao)) (eI 9 j ⟨_,d⟩ (λw⟨_,d⟩=>hD j j (v:=.slice bU s.cx[0].length bH) (by obtain⟨_,_,e,_,_,h,_⟩:=a1.read (show Holds w bh by have h:=d.holds (G:=Q) (by simp);rw [aM] at h;exact h.left);rw [aO] at e;cases e;rw [bi] at h;have az:=h.cell a5;rw [add_lit] at az;simpa using az)) (dZ 10 j ?_)))))
 obtain⟨_,_,e,_,_,cu⟩:=bj.read (show Holds _ bd by have h:=d.holds (G:=Q) (by simp);rw [aM] at h;exact h.right) 0 ao
 rw [a5] at e
 cases e
 have Y:=AJ (g:=g) (bH:=bH) cu (by have:=aa.lg _ (ek ao);omega) S.cur bs (by omega) (aP.st d aD) V (d.ex aP aD) d.ours
 refine cN j j j Y (λr w⟨bl,i,bv,b8,aB⟩=>?_)
 have d:=d.b4 aB
 have d:C o u [R ax #[Z bb] 59,cy g bb s c,Q,R l #[.slice none 0 0] 56,L,i,ay 288 n ag I++t,bl] w:=d.as
 refine an ⟨⟨_,d⟩,?_⟩
 refine jZ 11 j ?_
 obtain⟨_,_,a7,_⟩:=bv.len
 refine cC (d.bf l) j j j (by rw [a7];rfl) bR (λw d=>?_)
 have d:C o u (R l #[r] 56::_) w:=d
 refine an (cX ?_)
 obtain⟨cJ,da,aX⟩:∃x r,s.cx=x::r:=by
  cases a2:s.cx with
  |nil=>rw [a2] at ao;simp at ao
  |cons x r=>exact⟨x,r,j⟩
 have a9:s.wanted g=({s with cur:=(fI g s.cur s.cx[0]).1},(fI g s.cur s.cx[0]).2):=by
  unfold aC.wanted
  have e:s.cx[0]=cJ:=by simp [aX]
  rw [e]
  rw [aX]
 obtain⟨v,i,bl,O,K,d⟩:∃v i bl,cz v (s.wanted g).2 bl/\kt g c.cur (s.wanted g).1.cur i/\C o u [R ax #[Z bb] 59,R l #[v] 56,cy g bb s c,L,i,Q,ay 288 n ag I,t,bl] w:=by
  rw [a9]
  exact⟨r,i,bl,bv,b8,C.perm (A:=[R ax #[Z bb] 59,R l #[r] 56,cy g bb s c,L,i,Q,ay 288 n ag I++t,bl]) d.as (by simp)⟩
 refine au 2 j (aw (C.aj d) j) ?_
 rotate_left
 have aX:s.cx=[]:=by
  cases a2:s.cx with
  |nil=>rfl
  |cons x r=>rw [a2] at aH;simp at aH
 have a9:s.wanted g=(s,[]):=by unfold aC.wanted;rw [aX]
 obtain⟨v,i,bl,O,K,d⟩:∃v i bl,cz v (s.wanted g).2 bl/\kt g c.cur (s.wanted g).1.cur i/\C o u [R ax #[Z bb] 59,R l #[v] 56,cy g bb s c,L,i,Q,ay 288 n ag I,t,bl] w:=by
  rw [a9]
  exact⟨_,a8,[],cz.nil,S.cur,C.perm (A:=[R ax #[Z bb] 59,R l #[.slice none 0 0] 56,cy g bb s c,L,a8,Q,ay 288 n ag I++t]) d.as (by simp)⟩
 refine au 3 j (aw (C.aj d) j) ?_
 rotate_left
 all_goals
  refine au 2 j (aw (C.aj (b:=bb) d) (aL some cm)) (cn 1 d j (λB w d=>dD 0 (d.bf B) j j j j (λw d=>?_)))
  have d:C o u (R B #[ab s.slot] 3::_) w:=d
  refine au 3 j (aw (C.aj d) j) ?_
  obtain⟨a,ak⟩:∃a:Option Addr,a=some ⟨n,0,none⟩:=⟨_,j⟩
  have aA:c.stored= .pointer a:=aA.trans (by rw [ak])
  refine au 2 j (aw (C.aj (b:=bb) d) (aL some aA)) ?_
  have cj:dG 288 w a bK:=ak▸dG.own (d.to (ay 288 n ag I)) bE
  have Y:=wF (o:=w) (p:=a)
  refine bm 0 Y j (λr w⟨bL,bM,ac,ad⟩=>?_)
  subst ac
  have ci:=cj.st ad
  have d:=d.aN ad
  have d:C o u [R bL #[.pointer a] 122,[(bM,.cells #[.func (.func 263) #[] #[]] 36 (0,0))],R ax #[Z bb] 59,R l #[v] 56,R B #[ab s.slot] 3,cy g bb s c,L,i,Q,ay 288 n ag I,t,bl] w:=d.as
  have d:C o u ([R bL #[.pointer a] 122,[(bM,.cells #[.func (.func 263) #[] #[]] 36 (0,0))]]++[R ax #[Z bb] 59,R l #[v] 56,R B #[ab s.slot] 3,cy g bb s c,L,i,Q,ay 288 n ag I,t,bl]) w:=d
  refine jY 1 j (zF (by have aK:=aU.len;have az:=aa.stored;omega)) j (by have:=d.size;simpa using this) d j (λ_=>rfl) (by intro p S;simp at S;rcases S with rfl|rfl<;>rfl)
   (λpre ae=>∃(v:Value)(z:Obj)(W:List (Int×Value))(i bl F X:List Chunk),ae=[R ax #[Z bb] 59,R l #[v] 56,R B #[ab s.slot] 3,cy g bb s c,L,i,Q,ay 288 n ag z,t,bl]/\cz v (((db s.stored).take pre.length).foldl (aC.one g) (s.wanted g)).2 bl/\kt g c.cur (((db s.stored).take pre.length).foldl (aC.one g) (s.wanted g)).1.cur i/\cf bu z W/\t.Perm (X++F)/\c6 j9 W (((db s.stored).take pre.length).foldl (aC.one g) (s.wanted g)).1.stored F) (λ_ _=>False) ⟨v,I,bK,i,bl,t,[],j,O,K,bE,.refl _,by rw [ga,List.take_zero,List.foldl_nil,cG];exact aU⟩ (λL aI cc=>ci.st cc) (λ_ _ _ _=>trivial) ?_ ?_ (λ_ _ h=>h.elim) (λ_ _ _ h=>h.elim)
  .rintro y pre ⟨E,cD⟩ cO bX de b7 ⟨v,z,W,i,bl,F,X,rfl,O,K,aQ,aG,ai⟩ d
   obtain⟨t1,t2,c9,cL,bW,cM,bC,cw,cr,bk,ba,rfl,bF⟩:=aU.n0 b7
   have ba:cD= .agg bk.cs.toArray:=ba
   subst ba
   have a4:bk.tag.length=32:=(fx.one bF).tag bk (by simp)
   have c0:bk.P.cP:=aa.lj (E,bk.P) (gS.1 (show(E,bk.P)∈db s.stored by rw [bC];simp))
   have T:=aC.qe V ((db s.stored).take pre.length) (s.wanted g) (M+5) (λq a3=>aa.lj q (gS.1 (mR a3))) (λr ac=>(bQ r ac).1)
   have co:=aC.uG V ((db s.stored).take pre.length) (s.wanted g)
   have c8:=aC.AK V s
   have c3:((db s.stored).take pre.length).length<=128:=by rw [hi,hM];have:=aa.stored;omega
   have aR:=x1 (f:=aC.one g) (b:=s.wanted g) bC cw
   have ap:(((db s.stored).take pre.length).foldl (aC.one g) (s.wanted g)).1.slot=s.slot:=by unfold aC.slot;rw [T.1.2.1,bO]
   obtain⟨a0,ck⟩:∃a0,a0=(((db s.stored).take pre.length).foldl (aC.one g) (s.wanted g)):=⟨_,j⟩
   rw [<-ck] at O K ai T co ap aR
   have d:=C.gs d
   refine cn 4 d j (λH w d=>c5 (d.bf H) j j j (by simpa using bk.one) (by rw [List.size_toArray];exact bk.bY a4) (by decide) (λw d=>?_))
   have d:=C.whole (U:=bk.cs) d (by rw [bk.bY a4];rfl)
   have d:C _ _ [R H bk.cs.toArray 94,R ax #[Z bb] 59,R l #[v] 56,R B #[ab s.slot] 3,cy g bb s c,L,i,Q,ay 288 n ag z,t,bl] w:=d.as
   refine bJ 0 j (⟨j,_,d,λbX bN d=>?_⟩)
   have bx:=aP.st d aD
   have bA:=(aP.apart d aD).sub (eD:=av [R H bk.cs.toArray 94,R ax #[Z bb] 59,R l #[v] 56,R B #[ab s.slot] 3,cy g bb s c,L,i,Q,ay 288 n ag z,t,bl]) (λb cl=>m9.2 (.inr (m9.2 (.inl cl))))
   have d:=C.gs d
   refine au 5 j (aw (C.aj d) bk.gC) (au 0 j (aw (C.aj d) j) (aT 1 j j (λar=>?_) (λar=>?_)))
   .refine au 1 j (aw (C.aj d) j) (au 2 j (aw (C.aj (b:=bb) d) (aL some aA)) (b2 43 (Z n) j (by rw [ak]) ?_))
    have cA:=ai.wide j9.wide
    obtain⟨be,bg,bI,bG⟩:=ai.del (k:=E)
    have Y:=Dj (k:=E) cA (d.ours (cI:=[ay 288 n ag z])) aQ
    refine bp 1 Y j (λw⟨aq,bD,aB⟩=>?_)
    have d:=d.b4 aB
    have d:C _ _ [R H bk.cs.toArray 94,R ax #[Z bb] 59,R l #[v] 56,R B #[ab s.slot] 3,cy g bb s c,L,i,Q,ay 288 n ag aq,t,bl] w:=d.as
    refine au 3 j (aw (C.aj d) bk.gC) (au 0 j (aw (C.aj d) j) (aT 1 j j (λaJ=>?_) (λaJ=>?_)))
    .have d:C bN (av [R H bk.cs.toArray 94,R ax #[Z bb] 59,R l #[v] 56,R B #[ab s.slot] 3,cy g bb s c,L,i,Q,ay 288 n ag z,t,bl]) ([R H bk.cs.toArray 94,R ax #[Z bb] 59,R l #[v] 56,cy g bb s c]++_) _:=d.front
     have d:=d.drew
     refine bz 0 j (λw=>∃ae,C bN (av [R H bk.cs.toArray 94,R ax #[Z bb] 59,R l #[v] 56,R B #[ab s.slot] 3,cy g bb s c,L,i,Q,ay 288 n ag z,t,bl]) ([R H bk.cs.toArray 94,R ax #[Z bb] 59,R l #[v] 56,cy g bb s c]++ae) w) ⟨_,d⟩ (bT 0 j (λw⟨_,d⟩=>aw (C.aj (b:=l) d) j) (bT 1 j (λw⟨_,d⟩=>aw (C.aj d) j) (af 2 2 j (bT 4 j (λw⟨_,d⟩=>aw (C.aj d) j) (aV 5 j (λw⟨_,d⟩=>dc (U:=bk.cs) j j (bk.bY a4) (bq (C.aj d))) (aW 6 j ?_))))))
     have cq:=(bF.read (show Holds _ bW from((d.holds (G:=t) (by simp)).perm cr).right.left)).1
     have Y:=Ao (m:=bk) cq K (N:=M+5+6*128) (λr ac=>(T.2.2.2.1 r ac).more (by omega)) (by omega) (bx.st d bA) V (d.ex bx bA) d.ours
     refine cN j j j Y (λr w⟨bV,aY,cd,b9,aB⟩=>?_)
     have d:=d.b4 aB
     have d:C _ _ ([R H bk.cs.toArray 94,R ax #[Z bb] 59,R l #[v] 56,cy g bb s c]++_) w:=d.front
     refine an ⟨⟨_,d⟩,?_⟩
     refine aW 7 j ?_
     have cZ:=rQ V a0.1.cur bk.P
     refine nv (d.front (cI:=[bl,bV])) O cd j j (by decide) j j j (by omega) (λv3 bn w bt d=>?_)
     have d:C _ _ ([R H bk.cs.toArray 94,R ax #[Z bb] 59,R l #[v] 56,cy g bb s c]++_) w:=d.front
     refine an ⟨⟨_,d⟩,?_⟩
     refine dy 8 j ?_
     obtain⟨_,_,a7,_⟩:=bt.len
     refine cC (d.bf l) j j j (by rw [a7];rfl) bR (λw d=>?_)
     have d:C _ _ (R l #[v3] 56::_) w:=d
     have d:C _ _ [R ax #[Z bb] 59,R l #[v3] 56,R B #[ab s.slot] 3,cy g bb s c,L,aY,Q,ay 288 n ag aq,t,bn] w:=d.as
     refine an (cX (bJ 0 j ?_))
     have aE:aC.one g a0 (E,bk.P)=({a0.1 with stored:=fS a0.1.stored E,cur:=(g8 g a0.1.cur bk.P).1},a0.2++(g8 g a0.1.cur bk.P).2):=a6 (by show bk.s=_;rw [ap];exact dX.1 aJ)
     refine⟨[R ax #[Z bb] 59,R l #[v3] 56,R B #[ab s.slot] 3,cy g bb s c,L,aY,Q,ay 288 n ag aq,t,bn],d,v3,aq,fS W E,aY,bn,be,X++bg,j,?_⟩
     rw [ca,List.length_singleton,aR,aE]
     exact⟨bt,b9,bD,aG.trans (by rw [dH];exact .append_left _ bG),bI⟩
    refine bJ 1 j ?_
    have aE:aC.one g a0 (E,bk.P)=({a0.1 with stored:=fS a0.1.stored E},a0.2):=(aF (by show¬bk.s=_;rw [ap];exact λh=>by rw [show(bk.s==s.slot)=true from dX.2 h] at aJ;cases aJ)).trans (a6 (by show bk.s<=_;rw [ap];exact br ar))
    refine⟨[R ax #[Z bb] 59,R l #[v] 56,R B #[ab s.slot] 3,cy g bb s c,L,i,Q,ay 288 n ag aq,t,bl],d.as,v,aq,fS W E,i,bl,be,X++bg,j,?_⟩
    rw [ca,List.length_singleton,aR,aE]
    exact⟨O,K,bD,aG.trans (by rw [dH];exact .append_left _ bG),bI⟩
   refine au 4 j (aw (C.aj d) bk.gC) (au 0 j (aw (C.aj d) j) (iW 1 j j ((by have aK:=bw ar;exact fq.2 (λh=>aK (by omega)))) (bJ 1 j ?_)))
   have aE:aC.one g a0 (E,bk.P)=a0:=(aF (by show¬bk.s=_;rw [ap];have:=bw ar;omega)).trans (aF (by show¬bk.s<=_;rw [ap];exact bw ar))
   refine⟨[R ax #[Z bb] 59,R l #[v] 56,R B #[ab s.slot] 3,cy g bb s c,L,i,Q,ay 288 n ag z,t,bl],d.as,v,z,W,i,bl,F,X,j,?_⟩
   rw [ca,List.length_singleton,aR,aE]
   exact⟨O,K,aQ,aG,ai⟩
  rintro xs cQ w ch ⟨v,z,W,i,bl,F,X,rfl,O,K,aQ,aG,ai⟩ d
  rw [ch,iv,aU.len,il (by rw [hM];exact cB _)] at O K ai
  refine au 2 j (aw (C.aj d) j) (bJ 1 j ⟨v,λw cv=>?_⟩)
  have d:=cv.st d (cB _)
  refine⟨λa ak=>i4 (fn:=f185) ak j _ _,?_⟩
  have T:=aC.qe V (db s.stored) (s.wanted g) (M+5) (λq a3=>aa.lj q (gS.1 a3)) (λr ac=>(bQ r ac).1)
  have b0:(s.dd g).1.am=s.am:=T.1.1.trans cE
  have b1:(s.dd g).1.log=s.log:=T.1.2.1.trans bO
  have b3:(s.dd g).1.cx=s.cx:=T.1.2.2.1.trans cF
  have b5:(s.dd g).1.eW=s.eW:=T.1.2.2.2.trans cH
  have b6:cy g bb s c=cy g bb (s.dd g).1 c:=by unfold cy o8;rw [b0,b5]
  have d:C o u [cy g bb (s.dd g).1 c,L,i,Q,ay 288 n ag z++F,bl] w:=by
   rw [<-b6]
   have aK:C o u [cy g bb s c,L,i,Q,ay 288 n ag z,t,bl] w:=d.as
   have az:C o u [cy g bb s c,L,i,Q,ay 288 n ag z,X,F,bl] w:=aK.perm (by
    simp only [kd,mQ,g6]
    have:=oC bl aG
    rw [dH] at this
    exact .append_left _ (.append_left _ (.append_left _ (.append_left _ (.append_left _ this)))))
   exact C.perm (A:=[cy g bb s c,L,i,Q,ay 288 n ag z,F,bl]) az.as (by simp)
  refine⟨bl,_,O,⟨c,L,i,Q,ay 288 n ag z++F,⟨by rw [b1];exact S.log,K,by rw [b3];exact S.cx,⟨n,ag,z,W,F,aA.trans (by rw [ak]),aQ,ai,j⟩⟩,j⟩,C.iE d⟩
theorem D0{o:World}{a:Nat}{A B:Option Addr}{xs cR:List UInt8}{bH d:Nat}(e:o.heap[a]? =some (.cells #[.slice B cR.length d] 30 (0,0)))(b:Rd o A (aE xs))(c:Rd o B (aE cR)):Calls prog 184 (#[]++ #[.slice A xs.length bH]++ #[Z a]) o (aS λr w=>r= .bool (decide (xs=cR))/\w=o):=by
 refine a1 [.slice A xs.length bH,Z a] func184 ntmps184 results184 (au 6 j (aw e j) (bp 0 (qa b c) j (λw hw=>?_)))
 subst hw
 refine ao 1 j j ?_
 exact⟨j,j⟩
theorem aC.DX{g:al}{n:Nat}{s:aC}{l:List aY}(h:s.cur=none):aC.go g n s l=(s,l):=by
 cases n with
 |zero=>rfl
 |succ n=>unfold aC.go;rw [h]
theorem aC.DZ{g:al}{n:Nat}{s:aC}{l:List aY}{r:ai}(h:s.cur=some r)(a:r.dec=false):aC.go g n s l=(s,l):=by
 cases n with
 |zero=>rfl
 |succ n=>
  unfold aC.go
  rw [h]
  exact aF (by rw [a];decide)
theorem aC.uJ{g:al}{n:Nat}{s:aC}{l:List aY}{r:ai}(h:s.cur=some r)(a:r.dec=true):aC.go g (n+1) s l=aC.go g n ((s.next r).dd g).1 (l++((s.next r).dd g).2):=by
 rw [aC.go,h]
 exact a6 a
theorem aC.Cu{g:al}{N M:Nat}{s:aC}(h:s.ok g N)(a:g.ok)(d:∀r,s.cur=some r->r.ok g M):(s.dd g).1.log=s.log:=by
 obtain⟨i,b,j,k,l,c⟩:=h.wanted a d
 exact(aC.qe a (db s.stored) (s.wanted g) (M+5) (λp e=>h.lj p (gS.1 e)) (λr f=>(c r f).1)).1.2.1.trans b
theorem uM{o:World}{g:al}{bb:Nat}{s:aC}{G E:List Chunk}{v0:Value}{l:List aY}(bi:ij g bb s G)(bg:cz v0 l E)(bM:l.length<=1000){N:Nat}(bD:s.ok g N)(bJ:773<=N)(bK:N+20<=1000000)(ac:g.at o)(S:g.ok)(V:g.off (av [G,E]))(a:Own [G,E] o):Calls prog 135 #[Z bb,v0] o (aS λr w=>∃bl ah,cz r (s.h0 g l).2 bl/\ij g bb (s.h0 g l).1 ah/\C o (av [G,E]) [ah,bl] w):=by
 obtain⟨e,aJ⟩:∃e,e=av [G,E]:=⟨_,j⟩
 rw [<-aJ] at V⊢
 have a:C o e [G,E] o:=aJ▸a
 refine a1 [Z bb,v0] func135 ntmps135 results135 ?_
 refine cY 5 j (cA:=Nat×aC×List aY×Value×List Chunk×List Chunk) (λi=>[(0,Z bb),(1,i.2.2.2.1)])
  (λi w=>i.2.1.ok g N/\s.h0 g l=aC.go g i.1 i.2.1 i.2.2.1/\65<=i.1+i.2.1.log.length/\i.2.2.1.length+6450*i.1<=500000/\ij g bb i.2.1 i.2.2.2.2.1/\cz i.2.2.2.1 i.2.2.1 i.2.2.2.2.2/\C o e [i.2.2.2.2.1,i.2.2.2.2.2] w) (λi=>i.1) (65,s,l,v0,G,E) ⟨j,j,ba⟩ ⟨bD,j,gz _ _,by dsimp only;omega,bi,bg,a⟩ ?_
 rintro⟨n,s1,dz,v1,ah,bl⟩ w ⟨O,ad,bC,bB,aR,Y,a⟩
 dsimp only at O ad bC bB aR Y a⊢
 obtain⟨c,L,a8,Q,D,K,rfl⟩:=aR
 have a:=a.qv
 refine ar 6 j ?_
 rcases K.cur with⟨B,ab,bI⟩|⟨d,aq,B,ab,bo⟩
 .refine au 0 j (aw (C.aj (b:=bb) a) (aL some ab)) (ao 7 j j ?_)
  rw [ad,aC.DX B]
  exact⟨bl,_,Y,⟨c,L,a8,Q,D,K,j⟩,a.iE⟩
 refine au 0 j (aw (C.aj (b:=bb) a) (aL some ab)) (au 9 j (aw (C.aj (b:=bb) a) (aL some ab)) ?_)
 have bF:=(O.cur d B).1
 have J:=De bo bF (a.holds (G:=a8) (by simp))
 refine bm 0 J j (λr w⟨v1,v2,H,M,aD,aA,aX,bv⟩=>?_)
 subst aD
 obtain⟨f,e1,rfl,bP,bS⟩:=aA.form
 obtain⟨W,X,rfl,bQ,_⟩:=aX.form
 have a:=a.aN bv
 refine cn 4 a j (λh w a=>dD 0 (a.bf h) j j j j (λw a=>?_))
 have a:C o e (R h #[.slice f d.value.length e1] 30::_) w:=a
 refine aT 7 j j (λap=>?_) (λap=>?_)
 .refine ao 5 j j ?_
  rw [ad,aC.DZ B (by simpa using ap)]
  have a:C o e [cy g bb s1 c,L,a8,Q,D,bl] w:=a.as
  exact⟨bl,_,Y,⟨c,L,a8,Q,D,K,j⟩,a.iE⟩
 have a:C o e [cy g bb s1 c,R h #[.slice f d.value.length e1] 30,L,a8,Q,D,bl,H,M] _:=a.as
 have a:=a.drew
 refine bz 2 j (λw=>∃ae,C o e ([cy g bb s1 c,R h #[.slice f d.value.length e1] 30]++ae) w) ⟨_,a⟩ (af 0 4 j (be 4 j a7 j (be 5 j a7 j (af 6 1 j (aV 7 j (λw _=>e0 (c:= #[.slice f d.value.length e1,.slice W d.dI.length X]) j (λ_=>by kernel_rfl)) (aW 8 j (gv (U:=[.slice f d.value.length e1,.slice W d.dI.length X]) a j j j j bR bR (λoE w a=>?_))))))))
 have aP:=bq (C.aj (b:=oE) a)
 have a:C o e ([cy g bb s1 c,R h #[.slice f d.value.length e1] 30]++_) w:=a.front
 refine an ⟨⟨_,a⟩,?_⟩
 refine aW 9 j ?_
 obtain⟨aH,P,es,rfl,bj,a9⟩:=K.log
 have bN:=O.log
 have a:C o e [aH,P,cy g bb s1 c,R h #[.slice f d.value.length e1] 30,a8,Q,D,bl,H,M] w:=C.perm (A:=[aH++P,cy g bb s1 c,R h #[.slice f d.value.length e1] 30,a8,Q,D,bl,H,M]) a.as (by simp)
 refine eK a bj j j (by decide) j j j (m:=1) (news:=[.slice f d.value.length e1,.slice W d.dI.length X]) j aP (by intro u hu;simp at hu;rcases hu with rfl|rfl<;>rfl) (by omega) (by unfold maxLen;omega) (λbT ak w ay a=>?_)
 obtain⟨q,t,rfl,_,_⟩:=ay.form
 have a:C o e ([cy g bb s1 c,R h #[.slice f d.value.length e1] 30]++_) w:=a.front
 refine an ⟨⟨_,a⟩,?_⟩
 refine af 10 2 j (dy 12 j (cC (a.bf bb) j j j ay.one bR (λw a=>?_)))
 have a:C o e (cy g bb s1 {c with log:=.slice q (s1.log.length+1) t}::_) w:=a
 obtain⟨_,_,a4,_,_,bE,bs⟩:=aA.rd (a.to H)
 cases a4
 obtain⟨z,aK,a⟩:∃z,ns (.slice q (s1.log.length+1) t) (s1.log++[(d.value,d.dI)]) z/\C o e [cy g bb s1 {c with log:=.slice q (s1.log.length+1) t},R h #[.slice f d.value.length e1] 30,z,a8,Q,D,bl] w:=
  ⟨ak++(P++(H++M)),⟨ak,P++(H++M),es++[(.slice f d.value.length e1,.slice W d.dI.length X)],j,by rw [ca,List.length_singleton];simpa using ay,a9.app (j8.one aA aX)⟩,C.perm (A:=[cy g bb s1 {c with log:=.slice q (s1.log.length+1) t},R h #[.slice f d.value.length e1] 30,ak,P,H,M,a8,Q,D,bl]) a.as (by simp)⟩
 have bp:bU f (aE d.value) (av [Q]):=C.pZ bs
 refine an (cX (au 6 j (aw (C.aj a) j) (gR j j j j ?_)))
 have aZ:=C.aj (b:=h) a
 have bt:h∉av [Q]:=λbu=>(a.bf h).jf (qk _ bu)
 have J:=Dk (p:=λy=>decide (y=d.value)) (bc:= #[Z h]) (dY:=184) (T:=λai=>ai.heap[h]? =some (.cells #[.slice f d.value.length e1] 30 (0,0))/\Rd ai f (aE d.value)) (λai g1 eO bH aU a5=>D0 aU.1 a5 aU.2) (λai ae aI=>⟨by rw [aI.fP h (gp.1 aZ).1 bt];exact aZ,aI.rd bE bp⟩) K.cx a.ours
 refine bm 0 J j (λv w⟨F,aa,bx⟩=>?_)
 have a:=a.b4 bx
 obtain⟨a3,a2,bG,bh,aQ,a6⟩:=aa
 refine dD 2 (a.bf bb) j j j aQ.one (λw a=>?_)
 have a:C o e (cy g bb s1 {c with log:=.slice q (s1.log.length+1) t,cx:=v}::_) w:=a
 have aa:gm v _ F:=⟨a3,a2,bG,bh,aQ,a6⟩
 refine dD 5 (a.bf bb) j j j j (λw a=>?_)
 have a:C o e (cy g bb s1 {c with log:=.slice q (s1.log.length+1) t,cx:=v,cur:=.pointer none}::_) w:=a
 have a:C o e [cy g bb s1 {c with log:=.slice q (s1.log.length+1) t,cx:=v,cur:=.pointer none},z,F,D,bl] w:=a.as
 refine au 6 j (aw (C.aj a) j) (aT 2 j j (λax=>?_) (λax=>?_))
 have a:=a.drew
 refine bz 0 j (λw=>∃ae,C o e ([cy g bb s1 {c with log:=.slice q (s1.log.length+1) t,cx:=v,cur:=.pointer none}]++ae) w) ⟨_,a⟩ (af 0 4 j (be 4 j a7 j (af 5 3 j (be 8 j a7 j (af 9 3 j (be 12 j a7 j (af 13 1 j (aW 14 j (cN j j j (y2 (g:=g) (am:=s1.am) (slot:=((s1.log.length+1:Nat):Int))) (λr w⟨ag,cH,aD,bk,bA⟩=>?_))))))))))
 subst aD
 have a:=a.aN bA
 have a:C o e [cy g bb s1 {c with log:=.slice q (s1.log.length+1) t,cx:=v,cur:=.pointer none},z,F,D,bl,cH] w:=a.as
 refine an ⟨⟨_,a⟩,?_⟩
 refine af 15 2 j (dy 17 j (cC (a.bf bb) j j j j bR (λw a=>?_)))
 have a:C o e (cy g bb s1 {c with log:=.slice q (s1.log.length+1) t,cx:=v,cur:=Z ag}::_) w:=a
 refine an (cX ?_)
 have aB:s1.log.length+1<64:=by have:=br ax;omega
 obtain⟨I,az,a⟩:∃I,ij g bb (s1.next d) I/\C o e [I,bl] w:=by
  have a:C o e [cy g bb s1 ({c with log:=.slice q (s1.log.length+1) t,cx:=v,cur:=Z ag}),z,cH,F,D,bl] w:=a.as
  exact⟨_,⟨{c with log:=.slice q (s1.log.length+1) t,cx:=v,cur:=Z ag},z,cH,F,D,⟨aK,.inr ⟨_,ag,if_pos aB,j,bk⟩,aa,K.stored⟩,j⟩,a.iE⟩
 have x:=aC.ko O B
 have J:=w4 az x.1 x.2 (by omega) (ac.st a V) S (a.ex ac V) a.ours
 refine bm 3 J j (λr w⟨aF,aG,aM,aO,a0⟩=>?_)
 rotate_left
 have aB:¬s1.log.length+1<64:=by have:=bw ax;omega
 obtain⟨I,az,a⟩:∃I,ij g bb (s1.next d) I/\C o e [I,bl] w:=by
  have a:C o e [cy g bb s1 ({c with log:=.slice q (s1.log.length+1) t,cx:=v,cur:=.pointer none}),z,[],F,D,bl] w:=(C.empty a).as
  exact⟨_,⟨{c with log:=.slice q (s1.log.length+1) t,cx:=v,cur:=.pointer none},z,[],F,D,⟨aK,.inl ⟨if_neg aB,j,j⟩,aa,K.stored⟩,j⟩,a.iE⟩
 have x:=aC.ko O B
 have J:=w4 az x.1 x.2 (by omega) (ac.st a V) S (a.ex ac V) a.ours
 refine bm 4 J j (λr w⟨aF,aG,aM,aO,a0⟩=>?_)
 rotate_left
 all_goals
  have a:=a.b4 a0
  obtain⟨n,rfl⟩:∃k,n=k+1:=⟨n-1,by have:=(O.cur d B).2;omega⟩
  have bL:=aC.w3 S (s:=s1.next d) x.1.stored
  refine nv (a.front (cI:=[bl,aF])) Y aM j j (by decide) j j j (by omega) (λv3 bn w bd a=>bX 1 j ?_)
  have bO:((s1.next d).dd g).1.log.length=s1.log.length+1:=by
   rw [aC.Cu x.1 S x.2]
   show(s1.log++[(d.value,d.dI)]).length=_
   rw [ca,List.length_singleton]
  refine⟨(n,((s1.next d).dd g).1,dz++((s1.next d).dd g).2,v3,aG,bn),⟨j,j,ba⟩,⟨x.1.dd S x.2 (by omega),ad.trans (aC.uJ B (by simpa using ap)),by dsimp only;omega,by dsimp only;rw [List.length_append];omega,aO,bd,a.as⟩,by dsimp only;omega⟩
theorem kt.ptr{g:al}{v:Value}{c:Option ai}{G:List Chunk}(h:kt g v c G):∃p:Option Addr,v= .pointer p/\p.isNone=c.isNone:=by
 rcases h with⟨rfl,rfl,_⟩|⟨r,aq,rfl,rfl,_⟩
 .exact⟨none,j,j⟩
 .exact⟨_,j,j⟩
theorem Al{o:World}{g:al}{bb:Nat}{s:aC}{G:List Chunk}(aB:ij g bb s G){A:Option Addr}{x:List UInt8}{bH:Nat}(ac:Rd o A (aE x))(K:bU A (aE x) (av [G]))(aX:x.length<=1000000){N:Nat}(t:s.ok g N)(a5:773<=N)(a7:N+40<=1000000)(M:g.at o)(O:g.ok)(E:g.off (av [G]))(a:Own [G] o):Calls prog 123 #[Z bb,.slice A x.length bH] o (aS λr w=>∃v bl ah,r= .tuple #[v,.int .i64 (s.eH g x).2.2]/\cz v (s.eH g x).2.1 bl/\ij g bb (s.eH g x).1 ah/\C o (av [G]) [ah,bl] w):=by
 obtain⟨c,L,a8,Q,D,d,rfl⟩:=aB
 obtain⟨e,ag⟩:∃e,e=av [cy g bb s c++(L++(a8++(Q++D)))]:=⟨_,j⟩
 rw [<-ag] at K E⊢
 have a:C o e [cy g bb s c++(L++(a8++(Q++D)))] o:=ag▸a
 have a:=a.qv
 obtain⟨aY,aO,am⟩:=d.cur.ptr
 refine a1 [Z bb,.slice A x.length bH] func123 ntmps123 results123 (ar 11 j (b2 9 (.bool false) j (aL Value.bool (j)) ?_))
 refine ar 5 j (c7 14 j (λV=>?_) (λV=>?_))
 .refine ao 10 j j ?_
  have f:s.eH g x=(s,[],1):=by
   unfold aC.eH
   exact a6 (.inl (by have:=dX.1 (show((x.length:Int)==0)=true from V);omega))
  rw [f]
  exact⟨_,[],_,j,cz.nil,⟨c,L,a8,Q,D,d,j⟩,(C.iE a.as).empty.f1⟩
 refine aT 5 j j (λeV=>?_) (λeV=>?_)
 .refine ao 4 j j ?_
  have f:s.eH g x=(s,[],1):=by
   unfold aC.eH
   exact a6 (.inr (by have:=br eV;omega))
  rw [f]
  exact⟨_,[],_,j,cz.nil,⟨c,L,a8,Q,D,d,j⟩,(C.iE a.as).empty.f1⟩
 have F:¬(x.length=0\/200<x.length):=by
  have m:((x.length:Int)==0)=false:=V
  have q:=bw eV
  have af:¬(x.length:Int)=0:=λh=>by rw [dX.2 h] at m;cases m
  omega
 have aW:x.length<=200:=by omega
 have n:=Eo (bb:=bb) (g:=g) (s:=s) (c:=c) (C.aj a) d.log d.cx (a.holds (by simp)) (a.holds (by simp)) (a.rd ac K) (bH:=bH)
 refine bp 4 n j (λw B=>?_)
 have a:=a.aN B
 have a:C o e [cy g bb s c,L,a8,Q,D] w:=a.as
 refine aT 1 j j (λW=>?_) (λW=>?_)
 .refine ao 4 j j ?_
  have f:s.eH g x=(s,[],0):=by
   unfold aC.eH
   rw [aF F]
   exact a6 W
  rw [f]
  exact⟨_,[],_,j,cz.nil,⟨c,L,a8,Q,D,d,j⟩,(C.iE a.as).empty.f1⟩
 have P:¬s.there x=true:=by rw [show s.there x=false from W];decide
 obtain⟨_,_,bc,_,aG,_⟩:=d.cx
 obtain⟨a0,a3,aK,ba,_⟩:=aG.form
 refine au 5 j (aw (C.aj (b:=bb) a) (aL some aK)) (ar 3 j (c7 30 j (λY=>?_) (λY=>?_)))
 .refine ao 12 j j ?_
  have f:s.eH g x=(s,[],3):=by
   unfold aC.eH
   rw [aF F,aF P]
   exact a6 (.inl (by have:=br Y;omega))
  rw [f]
  exact⟨_,[],_,j,cz.nil,⟨c,L,a8,Q,D,d,j⟩,(C.iE a.as).empty.f1⟩
 refine au 3 j (aw (C.aj (b:=bb) a) (aL some aO)) (aT 3 j j (λX=>?_) (λX=>?_))
 .refine ao 4 j j ?_
  have f:s.eH g x=(s,[],3):=by
   unfold aC.eH
   rw [aF F,aF P]
   exact a6 (.inr (by rw [<-am];exact X))
  rw [f]
  exact⟨_,[],_,j,cz.nil,⟨c,L,a8,Q,D,d,j⟩,(C.iE a.as).empty.f1⟩
 refine mc 2 j (λw=>∃ae,C o e ([cy g bb s c]++ae) w) ?_
 have a:=a.drew
 have ak:¬(16<=s.cx.length\/s.cur.isNone):=by
  have m:=bw Y
  have q:aY.isNone=false:=X
  rw [am] at q
  rw [q]
  simp
  omega
 refine fM 4 [0,1,2,3] j ⟨_,a⟩ (eI 4 j ⟨_,a⟩ (λw⟨_,a⟩=>hD j j (aw (C.aj a) j)) (fM 1 [5] j ⟨_,a⟩ (dZ 6 j ?_)))
 have n:=gW (c:=bH) (a.rd ac K) (by omega)
 refine cN j j j n (λr w⟨i,aa,B⟩=>?_)
 have a:=a.aN B
 have a:C o e [cy g bb s c,L,a8,Q,D,i] w:=a.as
 refine an ⟨⟨_,a⟩,?_⟩
 refine dZ 7 j (fe (U:=[r]) a j j j j j (by simpa using aa.one) bR (λI w a=>?_))
 have aP:=bq (C.aj (b:=I) a)
 have a:C o e [cy g bb s c,L,a8,Q,D,i,R I #[r] 30] w:=a.as
 refine an ⟨⟨_,a⟩,?_⟩
 refine dZ 8 j ?_
 obtain⟨T,k,us,rfl,aH,aq⟩:=d.cx
 have a:C o e [cy g bb s c,T,k,L,a8,D,i,R I #[r] 30] w:=C.perm (A:=[cy g bb s c,T++k,L,a8,D,i,R I #[r] 30]) a.as (by simp)
 have a9:=t.cx
 refine eK (a.to T) aH j j (by decide) j j j (news:=[r]) j aP (by intro u hu;rw [List.mem_singleton.1 hu];exact aa.one) (by omega) (by unfold maxLen;omega) (λp l w ab a=>?_)
 have a:C o e [cy g bb s c,l,k,L,a8,D,i] w:=a.as
 refine an ⟨⟨_,a⟩,?_⟩
 refine fM 2 [9,10] j ⟨_,a⟩ (jZ 11 j (cC (a.bf bb) j j j ab.one bR (λw a=>?_)))
 have a:C o e (cy g bb s {c with cx:=p}::_) w:=a
 have ai:gm p (s.cx++[x]) (l++(k++i)):=⟨l,k++i,us++[r],j,by rw [List.length_append,List.length_singleton];exact ab,aq.app (hT.one aa)⟩
 have a:C o e [cy g bb s {c with cx:=p},L,a8,l++(k++i),D] w:=C.perm (A:=[cy g bb s {c with cx:=p},L,a8,l,k,i,D]) a.as (by simp)
 obtain⟨a2,a4,aV,_,_⟩:=ab.form
 refine an (cX (au 6 j (aw (C.aj (b:=bb) a) (congrArg some aV)) (aT 2 j j (λJ=>?_) (λJ=>?_))))
 .refine ao 4 j j ?_
  have f:s.eH g x=({s with cx:=s.cx++[x]},[],0):=by
   unfold aC.eH
   rw [aF F,aF P,aF ak]
   exact a6 (by have m:decide (((s.cx.length+1:Nat):Int)>1)=true:=J;have:=of_decide_eq_true m;omega)
  rw [f]
  exact⟨_,[],_,j,cz.nil,⟨{c with cx:=p},L,a8,l++(k++i),D,⟨d.log,d.cur,ai,d.stored⟩,j⟩,(C.iE a).empty.f1⟩
 refine au 7 j (aw (C.aj a) j) ?_
 have n:=AJ (g:=g) (bH:=bH) (a.rd ac K) aX d.cur (λr z=>(t.cur r z).1) (by omega) (M.st a E) O (a.ex M E) a.ours
 refine bm 1 n j (λr w⟨bl,ad,az,ax,B⟩=>?_)
 have a:=a.b4 B
 have aQ:(s.cx++[x]).length<=16:=by rw [List.length_append,List.length_singleton];have:=of_decide_eq_false J;omega
 have aR:∀y∈s.cx++[x],y.length<=200:=λy H=>by
  rcases dA.1 H with H|H
  .exact t.lg y H
  .rw [gb.1 H];exact aW
 have aJ:∀r,(fI g s.cur x).1=some r->r.ok g (N+5)/\s.log.length<64:=λr z=>by
  refine⟨uk O (λr z=>(t.cur r z).1) r z,?_⟩
  have q:(fI g s.cur x).1.isSome=true:=by rw [z];rfl
  rw [rT] at q
  obtain⟨aZ,af⟩:=g4.1 q
  exact(t.cur aZ af).2
 have aU:aC.ok g (N+5) ({s with cx:=s.cx++[x],cur:=(fI g s.cur x).1}:aC):={t.more (Nat.le_add_right N 5) with cx:=aQ,lg:=aR,cur:=aJ}
 obtain⟨S,aI,a⟩:∃S,ij g bb ({s with cx:=s.cx++[x],cur:=(fI g s.cur x).1}:aC) S/\C o e [S,bl] w:=by
  have a:C o e [cy g bb s ({c with cx:=p}),L,ad,l++(k++i),D,bl] w:=a.as
  exact⟨_,⟨{c with cx:=p},L,ad,l++(k++i),D,⟨d.log,ax,ai,d.stored⟩,j⟩,a.iE⟩
 have n:=uM aI az (by have:=uj O s.cur x;omega) aU (by omega) (by omega) (M.st a E) O (a.ex M E) a.ours
 refine bm 0 n j (λr w⟨ap,aA,ay,aD,aM⟩=>?_)
 have a:=a.b4 aM
 refine ao 2 j j ?_
 have f:s.eH g x=((aC.h0 g {s with cx:=s.cx++[x],cur:=(fI g s.cur x).1} (fI g s.cur x).2).1,(aC.h0 g {s with cx:=s.cx++[x],cur:=(fI g s.cur x).1} (fI g s.cur x).2).2,0):=by
  unfold aC.eH
  rw [aF F,aF P,aF ak]
  exact aF (by have m:decide (((s.cx.length+1:Nat):Int)>1)=false:=J;have:=of_decide_eq_false m;omega)
 rw [f]
 exact⟨_,ap,aA,j,ay,aD,a⟩
theorem H0{o:World}{g:al}{bb:Nat}{s:aC}{c:kb}{L:List Chunk}(O:o.heap[bb]? =some (.cells (o8 g s c).toArray 124 (0,0)))(a4:ns c.log s.log L)(aQ:Holds o L){N:Nat}(bg:s.ok g N)(ai:g.at o)(ak:g.ok){m:aB}(hm:m.ok o)(aU:m.P.cP)(bx:m.s<(s.log.length:Int)):Calls prog 134 #[Z bb,.agg m.cs.toArray] o (aS λr w=>∃bl,cz r (s.told g m.P) bl/\C o [] [bl] w):=by
 have p:Own [] o:=C.start o
 have ac:m.tag.length=32:=hm.tag
 have bv:m.x.length<=200:=aU.x
 have bu:m.l.length<=10:=aU.l
 refine a1 [Z bb,.agg m.cs.toArray] func134 ntmps134 results134 (bP 2 p j j (λA w p=>?_))
 have p:C o [] [bi A m] w:=p
 have p:=p.drew
 refine bz 3 j (λw=>∃ae,C o [] ([bi A m]++ae) w) ⟨_,p⟩ (af 0 1 j (be 1 j a7 m.gU (af 2 2 j (ef 10 j (λar=>?_) (λar=>?_)))))
 refine af 4 1 j (be 5 j a7 m.gU (af 6 3 j (ef 15 j (λau=>?_) (λau=>?_))))
 .refine fz 27 [9,10,11,12,13,14,15,16,17,18,19,20,21,22,23,24,25,26,27,28,29,31,32,30,33,34,35] j (bO (ao 4 j j ?_))
  have E:s.told g m.P=[]:=a6 (.inl ⟨by simpa using ar,by simpa using au⟩)
  rw [E]
  exact⟨[],cz.nil,p.bare.empty⟩
 refine af 9 1 j (be 10 j a7 m.gC (af 11 3 j (ef 20 j (λV=>?_) (λV=>?_))))
 .refine fz 22 [14,15,16,17,18,19,20,21,22,23,24,25,26,27,28,29,31,32,30,33,34,35] j (bO (ao 4 j j ?_))
  have E:s.told g m.P=[]:=a6 (.inr (.inl (br V)))
  rw [E]
  exact⟨[],cz.nil,p.bare.empty⟩
 refine af 14 1 j (be 15 j a7 m.aZ (af 16 3 j (bT 19 j (λw⟨_,p⟩=>aw (p.cd O) j) (af 20 3 j (ef 29 j (λS=>?_) (λS=>?_))))))
 .refine fz 13 [23,24,25,26,27,28,29,31,32,30,33,34,35] j (bO (ao 4 j j ?_))
  have E:s.told g m.P=[]:=a6 (.inr (.inr (.inl (dX.1 S))))
  rw [E]
  exact⟨[],cz.nil,p.bare.empty⟩
 refine af 23 3 j (bT 26 j (λw⟨_,p⟩=>aw (p.cd O) j) (af 27 1 j (be 28 j a7 m.aZ (aV 29 j (λw⟨_,p⟩=>dc (U:=m.cs) j j (m.bY ac) (bq (C.aj p))) (af 31 1 j (aV 32 j (λw⟨_,p⟩=>dc (U:=aE m.tag) j j (by rw [ds];exact ac) (m.vC (C.aj p))) (aW 30 j ?_)))))))
 have H:=l7 (hm.st p) (by omega) (by omega)
 refine cN j j j H (λr w⟨bn,Y,B⟩=>?_)
 have p:=p.aN B
 have p:C o [] [bi A m,bn] w:=p.as
 have ay:m.body.length<=1000000:=by
  have av:=lm m.l hm.aH
  have ax:=jB m.x (by omega)
  have X:=gq [4,m.k,m.f,m.s,m.v]
  simp only [ep,ga] at X
  unfold aB.body
  simp only [ca]
  omega
 obtain⟨aq,a1,rfl,_,_,ab,_⟩:=Y.read (p.holds (by simp))
 refine an ⟨⟨_,p⟩,?_⟩
 refine aW 33 j ?_
 have H:=rK (ai.st p (al.off.nil g)) ak ab ay ac (i:=m.f) (d:=a1)
 refine bF j j j H (λw B=>?_)
 have p:=p.aN B
 have p:C o [] [bi A m,bn] w:=p.as
 refine an ⟨⟨_,p⟩,?_⟩
 refine af 34 2 j (bO (aT 0 j j (λW=>?_) (λW=>?_)))
 .refine ao 3 j j ?_
  have E:s.told g m.P=[]:=a6 (.inr (.inr (.inr (show g.check m.f m.body m.tag=false from by simpa using W))))
  rw [E]
  exact⟨[],cz.nil,p.bare.empty⟩
 have p:C o [] [bi A m] _:=p.as
 refine mc 2 j (λw=>∃ae,C o [] ([bi A m]++ae) w) ?_
 have p:=p.drew
 have aG:¬(m.k≠2/\m.k≠4):=λh=>h.2 (by simpa using au)
 rotate_left
 refine af 4 6 j (be 10 j a7 m.gC (af 11 3 j (ef 20 j (λV=>?_) (λV=>?_))))
 .refine fz 22 [14,15,16,17,18,19,20,21,22,23,24,25,26,27,28,29,31,32,30,33,34,35] j (bO (ao 4 j j ?_))
  have E:s.told g m.P=[]:=a6 (.inr (.inl (br V)))
  rw [E]
  exact⟨[],cz.nil,p.bare.empty⟩
 refine af 14 1 j (be 15 j a7 m.aZ (af 16 3 j (bT 19 j (λw⟨_,p⟩=>aw (p.cd O) j) (af 20 3 j (ef 29 j (λS=>?_) (λS=>?_))))))
 .refine fz 13 [23,24,25,26,27,28,29,31,32,30,33,34,35] j (bO (ao 4 j j ?_))
  have E:s.told g m.P=[]:=a6 (.inr (.inr (.inl (dX.1 S))))
  rw [E]
  exact⟨[],cz.nil,p.bare.empty⟩
 refine af 23 3 j (bT 26 j (λw⟨_,p⟩=>aw (p.cd O) j) (af 27 1 j (be 28 j a7 m.aZ (aV 29 j (λw⟨_,p⟩=>dc (U:=m.cs) j j (m.bY ac) (bq (C.aj p))) (af 31 1 j (aV 32 j (λw⟨_,p⟩=>dc (U:=aE m.tag) j j (by rw [ds];exact ac) (m.vC (C.aj p))) (aW 30 j ?_)))))))
 have H:=l7 (hm.st p) (by omega) (by omega)
 refine cN j j j H (λr w⟨bn,Y,B⟩=>?_)
 have p:=p.aN B
 have p:C o [] [bi A m,bn] w:=p.as
 have ay:m.body.length<=1000000:=by
  have av:=lm m.l hm.aH
  have ax:=jB m.x (by omega)
  have X:=gq [4,m.k,m.f,m.s,m.v]
  simp only [ep,ga] at X
  unfold aB.body
  simp only [ca]
  omega
 obtain⟨aq,a1,rfl,_,_,ab,_⟩:=Y.read (p.holds (by simp))
 refine an ⟨⟨_,p⟩,?_⟩
 refine aW 33 j ?_
 have H:=rK (ai.st p (al.off.nil g)) ak ab ay ac (i:=m.f) (d:=a1)
 refine bF j j j H (λw B=>?_)
 have p:=p.aN B
 have p:C o [] [bi A m,bn] w:=p.as
 refine an ⟨⟨_,p⟩,?_⟩
 refine af 34 2 j (bO (aT 0 j j (λW=>?_) (λW=>?_)))
 .refine ao 3 j j ?_
  have E:s.told g m.P=[]:=a6 (.inr (.inr (.inr (show g.check m.f m.body m.tag=false from by simpa using W))))
  rw [E]
  exact⟨[],cz.nil,p.bare.empty⟩
 have p:C o [] [bi A m] _:=p.as
 refine mc 2 j (λw=>∃ae,C o [] ([bi A m]++ae) w) ?_
 have p:=p.drew
 have aG:¬(m.k≠2/\m.k≠4):=λh=>h.1 (by simpa using ar)
 rotate_left
 all_goals
  have bh:0<=m.s:=by have:=bw V;omega
  obtain⟨i,aD⟩:∃i,i=m.s.toNat:=⟨_,j⟩
  have ad:i<s.log.length:=by omega
  obtain⟨bm,bk,es,rfl,a5,aP⟩:=a4
  obtain⟨a2,bo,ba,bs,bt,aX,_⟩:=a5.read aQ.left
  have bp:=aP.len
  obtain⟨I,ce,K,F,aR,a9,_,aM,bc,ap⟩:=aP.read aQ.right i ad
  obtain⟨e,ah⟩:∃e,s.log[i]=e:=⟨_,j⟩
  rw [ah] at aR a9 aM bc ap
  have u:=bg.nd e (ah▸ek ad)
  have bd:es[i]'(by omega)=(.slice I e.1.length ce,.slice K e.2.length F):=by have:=aR;rw [ck (by omega)] at this;exact hr this
  obtain⟨aO,a3⟩:∃aO,a2=some aO:=by
   obtain⟨a,a8,_⟩:=aX (i*2+0) _ (iC (f:=λe:Value×Value=>[e.1,e.2]) (J:=0) es (λ_ _=>rfl) i (by omega) (by decide) j)
   exact⟨a,a8⟩
  subst a3
  refine fM 3 [0,1,2] j ⟨_,p⟩ (eI 3 j ⟨_,p⟩ (λw⟨_,p⟩=>hD j j (aw (p.cd O) (aL some ba))) ?_)
  refine fM 1 [4] j ⟨_,p⟩ (eI 5 j ⟨_,p⟩ (λw⟨_,p⟩=>hD j j (aw (C.aj p) m.gC)) (q6 48 (.int .i64 (i:Nat)) j (aL (Value.int .i64) (by rw [aD];exact(pK bh).symm)) (eI 6 j ⟨_,p⟩ (λw _=>q3 j j ad) (eI 7 j ⟨_,p⟩ (λw⟨_,p⟩=>dc (U:=[.slice I e.1.length ce,.slice K e.2.length F]) j j j (by have h:=jE (n:=2) (f:=λe:Value×Value=>[e.1,e.2]) (p.rd aX (bU.of_nil _ _)) (λ_ _=>rfl) i (by omega);rw [bd] at h;exact h)) (dZ 8 j (en p j j (λM w p=>?_)))))))
  have p:C o [] ([bi A m]++_) w:=p.front
  refine an ⟨⟨_,p⟩,?_⟩
  refine jZ 9 j (c5 (p.bf M) j j j j j bR (λw p=>?_))
  have p:=C.whole (U:=[.slice I e.1.length ce,.slice K e.2.length F]) p j
  have p:C o [] [bi A m,R M #[.slice I e.1.length ce,.slice K e.2.length F] 126] w:=p.as
  refine an (cX ?_)
  have p:=p.drew
  refine bz 1 j (λw=>∃ae,C o [] ([bi A m,R M #[.slice I e.1.length ce,.slice K e.2.length F] 126]++ae) w) ⟨_,p⟩ (af 0 3 j (bT 3 j (λw⟨_,p⟩=>aw (p.cd O) j) (af 4 1 j (be 5 j a7 m.aZ (af 6 1 j (be 7 j a7 m.gC (af 8 1 j (be 9 j a7 j (af 11 1 j (be 12 j a7 j (aJ 10 15 j j ?_ ?_)))))))))))
  .refine cN j j j (gW (c:=ce) (p.rd aM (bU.of_nil _ _)) (by have:=u.1;omega)) (λbj w⟨z,aa,B⟩=>?_)
   obtain⟨t,aZ,rfl,_,_⟩:=aa.form
   have p:=p.aN B
   have p:C o [] ([bi A m,R M #[.slice I e.1.length ce,.slice K e.2.length F] 126]++_) w:=p.front
   refine an ⟨⟨_,p⟩,?_⟩
   refine aJ 13 15 j j ?_ ?_
   refine cN j j j (k1 (d:=F) (p.rd ap (bU.of_nil _ _)) u.2.2 (by have:=u.2.1;omega)) (λa0 w⟨y,T,ag⟩=>?_)
   obtain⟨q,d1,rfl,_,_⟩:=T.form
   have p:=p.aN ag
   have p:C o [] ([bi A m,R M #[.slice I e.1.length ce,.slice K e.2.length F] 126]++_) w:=p.front
   refine an ⟨⟨_,p⟩,?_⟩
   refine aV 14 j (λw _=>e0 (c:=(⟨5,s.am,m.f,m.s,0,t,e.1,aZ,q,e.2,d1,cK⟩:aB).cs.toArray) j (λ_=>by kernel_rfl)) (aW 15 j (en p j j (λD w p=>?_)))
   have p:C o [] ([bi A m,R M #[.slice I e.1.length ce,.slice K e.2.length F] 126]++_) w:=p.front
   refine an ⟨⟨_,p⟩,?_⟩
   rotate_left
   refine en p j j (λD w p=>?_)
   have p:C o [] ([bi A m,R M #[.slice I e.1.length ce,.slice K e.2.length F] 126]++_) w:=p.front
   refine an ⟨⟨_,p⟩,?_⟩
   refine aW 13 j (cN j j j (k1 (d:=F) (p.rd ap (bU.of_nil _ _)) u.2.2 (by have:=u.2.1;omega)) (λa0 w⟨y,T,ag⟩=>?_))
   obtain⟨q,d1,rfl,_,_⟩:=T.form
   have p:=p.aN ag
   have p:C o [] ([bi A m,R M #[.slice I e.1.length ce,.slice K e.2.length F] 126]++_) w:=p.front
   refine an ⟨⟨_,p⟩,?_⟩
   refine aV 14 j (λw _=>e0 (c:=(⟨5,s.am,m.f,m.s,0,t,e.1,aZ,q,e.2,d1,cK⟩:aB).cs.toArray) j (λ_=>by kernel_rfl)) ?_
   rotate_left
   all_goals
    refine dy 16 j (c5 (p.bf D) j j j (by simpa using(⟨5,s.am,m.f,m.s,0,t,e.1,aZ,q,e.2,d1,cK⟩:aB).one) j bR (λw p=>?_))
    have p:=C.whole (U:=(⟨5,s.am,m.f,m.s,0,t,e.1,aZ,q,e.2,d1,cK⟩:aB).cs) p j
    have p:C o [] [bi D (⟨5,s.am,m.f,m.s,0,t,e.1,aZ,q,e.2,d1,cK⟩:aB),z,y] w:=p.as
    have aK:fw (⟨5,s.am,m.f,m.s,0,t,e.1,aZ,q,e.2,d1,cK⟩:aB) (z++y):=⟨z,y,j,⟨aa,T⟩,j,u.2.2,⟨by show e.1.length<=_;have:=u.1;omega,by show e.2.length<=_;have:=u.2.1;omega⟩⟩
    refine an (cX ?_)
    have p:=p.drew
    refine bz 1 j (λw=>∃ae,C o [] ([bi D (⟨5,s.am,m.f,m.s,0,t,e.1,aZ,q,e.2,d1,cK⟩:aB)]++ae) w) ⟨_,p⟩ (af 0 3 j (bT 3 j (λw⟨_,p⟩=>aw (p.cd O) j) (af 4 3 j (bT 7 j (λw⟨_,p⟩=>aw (p.cd O) j) (aV 8 j (λw⟨_,p⟩=>dc (U:=(⟨5,s.am,m.f,m.s,0,t,e.1,aZ,q,e.2,d1,cK⟩:aB).cs) j j j (bq (C.aj p))) (aW 9 j ?_))))))
    have aI:=(aK.read (Holds.app (p.holds (G:=z) (by simp)) (p.holds (G:=y) (by simp)))).1
    have H:=l7 aI (by show e.1.length<=_;have:=u.1;omega) (by show e.2.length<=_;have:=u.2.1;omega)
    refine cN j j j H (λr w⟨bn,Y,B⟩=>?_)
    have p:=p.aN B
    have p:C o [] [bi D (⟨5,s.am,m.f,m.s,0,t,e.1,aZ,q,e.2,d1,cK⟩:aB),z,y,bn] w:=p.as
    have az:(⟨5,s.am,m.f,m.s,0,t,e.1,aZ,q,e.2,d1,cK⟩:aB).body.length<=1000000:=by
     have av:=lm e.2 u.2.2
     have ax:=jB e.1 (by have:=u.1;omega)
     have X:=gq [4,5,s.am,m.s,0]
     simp only [ep,ga] at X
     show(et [4,5,s.am,m.s,0]++(hs e.1++jp e.2)).length<=_
     simp only [ca]
     have:=u.1
     have:=u.2.1
     omega
    obtain⟨aq,a1,rfl,_,_,ab,_⟩:=Y.read (p.holds (by simp))
    refine an ⟨⟨_,p⟩,?_⟩
    refine aW 10 j ?_
    have H:=nm (ai.st p (al.off.nil g)) ak ab az (i:=s.am) (d:=a1)
    refine bF j j j H (λw B=>?_)
    have p:=p.aN B
    have p:C o [] [bi D (⟨5,s.am,m.f,m.s,0,t,e.1,aZ,q,e.2,d1,cK⟩:aB),z,y,bn] w:=p.as
    refine an ⟨⟨_,p⟩,?_⟩
    refine af 11 1 j (dy 12 j (c5 (p.bf D) j j j (by simpa using fH (g.cu s.am (⟨5,s.am,m.f,m.s,0,t,e.1,aZ,q,e.2,d1,cK⟩:aB).body)) (by rw [List.size_toArray,ds,al.ea]) (by rw [List.size_toArray,(⟨5,s.am,m.f,m.s,0,t,e.1,aZ,q,e.2,d1,cK⟩:aB).bY j];decide) (λw p=>?_)))
    have p:=C.gk p ((⟨5,s.am,m.f,m.s,0,t,e.1,aZ,q,e.2,d1,cK⟩:aB).o4 (g.cu s.am (⟨5,s.am,m.f,m.s,0,t,e.1,aZ,q,e.2,d1,cK⟩:aB).body) (by rw [al.ea];rfl))
    have p:C o [] (bi D (⟨5,s.am,m.f,m.s,0,t,e.1,aZ,q,e.2,d1,g.cu s.am (⟨5,s.am,m.f,m.s,0,e.1,e.2,[]⟩:aY).body⟩:aB)::_) w:=p
    have p:C o [] [bi D (⟨5,s.am,m.f,m.s,0,t,e.1,aZ,q,e.2,d1,g.cu s.am (⟨5,s.am,m.f,m.s,0,e.1,e.2,[]⟩:aY).body⟩:aB),z,y] w:=p.as
    refine an ?_
    refine cX (bS 2 (U:=(⟨5,s.am,m.f,m.s,0,t,e.1,aZ,q,e.2,d1,g.cu s.am (⟨5,s.am,m.f,m.s,0,e.1,e.2,[]⟩:aY).body⟩:aB).cs) j j ((⟨5,s.am,m.f,m.s,0,t,e.1,aZ,q,e.2,d1,g.cu s.am (⟨5,s.am,m.f,m.s,0,e.1,e.2,[]⟩:aY).body⟩:aB).bY (al.ea _ _ _)) (bq (C.aj p)) (gv (U:=(⟨5,s.am,m.f,m.s,0,t,e.1,aZ,q,e.2,d1,g.cu s.am (⟨5,s.am,m.f,m.s,0,e.1,e.2,[]⟩:aY).body⟩:aB).cs) p j j j ((⟨5,s.am,m.f,m.s,0,t,e.1,aZ,q,e.2,d1,g.cu s.am (⟨5,s.am,m.f,m.s,0,e.1,e.2,[]⟩:aY).body⟩:aB).bY (al.ea _ _ _)) (by decide) (by decide) (λQ w p=>ao 1 j j ?_)))
    have aA:g.check m.f m.body m.tag=true:=by simpa using W
    have E:s.told g m.P=[(⟨5,s.am,m.f,m.s,0,t,e.1,aZ,q,e.2,d1,g.cu s.am (⟨5,s.am,m.f,m.s,0,e.1,e.2,[]⟩:aY).body⟩:aB).P]:=by
     unfold aC.told
     rw [aF (by rintro(h|h|h|h);exact aG h;exact absurd h (bw V);(rw [show(m.f==s.am)=true from dX.2 h] at S;cases S);(have h:g.check m.f m.body m.tag=false:=h;rw [aA] at h;cases h))]
     rw [show s.log[m.P.s.toNat]? =some e from by show s.log[m.s.toNat]? =_;rw [<-aD,ck ad,ah]]
    rw [E]
    have p:C o [] [R Q (⟨5,s.am,m.f,m.s,0,t,e.1,aZ,q,e.2,d1,g.cu s.am (⟨5,s.am,m.f,m.s,0,e.1,e.2,[]⟩:aY).body⟩:aB).cs.toArray 94,z,y] w:=p.as
    refine⟨R Q (⟨5,s.am,m.f,m.s,0,t,e.1,aZ,q,e.2,d1,g.cu s.am (⟨5,s.am,m.f,m.s,0,e.1,e.2,[]⟩:aY).body⟩:aB).cs.toArray 94++(z++y),⟨[(⟨5,s.am,m.f,m.s,0,t,e.1,aZ,q,e.2,d1,g.cu s.am (⟨5,s.am,m.f,m.s,0,e.1,e.2,[]⟩:aY).body⟩:aB)],j,R Q (⟨5,s.am,m.f,m.s,0,t,e.1,aZ,q,e.2,d1,g.cu s.am (⟨5,s.am,m.f,m.s,0,e.1,e.2,[]⟩:aY).body⟩:aB).cs.toArray 94,z++y,j,?_,fx.one ⟨z,y,j,⟨aa,T⟩,al.ea _ _ _,u.2.2,⟨by show e.1.length<=_;have:=u.1;omega,by show e.2.length<=_;have:=u.2.1;omega⟩⟩⟩,p.perm (by simp)⟩
    have:=Row.full (e:=94) (size:=39) (b:=Q) (n:=1) (cur:=(⟨5,s.am,m.f,m.s,0,t,e.1,aZ,q,e.2,d1,g.cu s.am (⟨5,s.am,m.f,m.s,0,e.1,e.2,[]⟩:aY).body⟩:aB).cs.toArray) (by unfold maxLen;omega) (by rw [List.size_toArray,(⟨5,s.am,m.f,m.s,0,t,e.1,aZ,q,e.2,d1,g.cu s.am (⟨5,s.am,m.f,m.s,0,e.1,e.2,[]⟩:aY).body⟩:aB).bY (al.ea _ _ _)])
    simpa using this
  refine en p j j (λD w p=>?_)
  have p:C o [] ([bi A m,R M #[.slice I e.1.length ce,.slice K e.2.length F] 126]++_) w:=p.front
  refine an ⟨⟨_,p⟩,?_⟩
  refine aW 10 j (cN j j j (gW (c:=ce) (p.rd aM (bU.of_nil _ _)) (by have:=u.1;omega)) (λbj w⟨z,aa,B⟩=>?_))
  obtain⟨t,aZ,rfl,_,_⟩:=aa.form
  have p:=p.aN B
  have p:C o [] ([bi A m,R M #[.slice I e.1.length ce,.slice K e.2.length F] 126]++_) w:=p.front
  refine an ⟨⟨_,p⟩,?_⟩
  refine aW 13 j (cN j j j (k1 (d:=F) (p.rd ap (bU.of_nil _ _)) u.2.2 (by have:=u.2.1;omega)) (λa0 w⟨y,T,ag⟩=>?_))
  obtain⟨q,d1,rfl,_,_⟩:=T.form
  have p:=p.aN ag
  have p:C o [] ([bi A m,R M #[.slice I e.1.length ce,.slice K e.2.length F] 126]++_) w:=p.front
  refine an ⟨⟨_,p⟩,?_⟩
  refine aV 14 j (λw _=>e0 (c:=(⟨5,s.am,m.f,m.s,0,t,e.1,aZ,q,e.2,d1,cK⟩:aB).cs.toArray) j (λ_=>by kernel_rfl)) (dy 16 j (c5 (p.bf D) j j j (by simpa using(⟨5,s.am,m.f,m.s,0,t,e.1,aZ,q,e.2,d1,cK⟩:aB).one) j bR (λw p=>?_)))
  have p:=C.whole (U:=(⟨5,s.am,m.f,m.s,0,t,e.1,aZ,q,e.2,d1,cK⟩:aB).cs) p j
  have p:C o [] [bi D (⟨5,s.am,m.f,m.s,0,t,e.1,aZ,q,e.2,d1,cK⟩:aB),z,y] w:=p.as
  have aK:fw (⟨5,s.am,m.f,m.s,0,t,e.1,aZ,q,e.2,d1,cK⟩:aB) (z++y):=⟨z,y,j,⟨aa,T⟩,j,u.2.2,⟨by show e.1.length<=_;have:=u.1;omega,by show e.2.length<=_;have:=u.2.1;omega⟩⟩
  refine an (cX ?_)
  have p:=p.drew
  refine bz 1 j (λw=>∃ae,C o [] ([bi D (⟨5,s.am,m.f,m.s,0,t,e.1,aZ,q,e.2,d1,cK⟩:aB)]++ae) w) ⟨_,p⟩ (af 0 3 j (bT 3 j (λw⟨_,p⟩=>aw (p.cd O) j) (af 4 3 j (bT 7 j (λw⟨_,p⟩=>aw (p.cd O) j) (aV 8 j (λw⟨_,p⟩=>dc (U:=(⟨5,s.am,m.f,m.s,0,t,e.1,aZ,q,e.2,d1,cK⟩:aB).cs) j j j (bq (C.aj p))) (aW 9 j ?_))))))
  have aI:=(aK.read (Holds.app (p.holds (G:=z) (by simp)) (p.holds (G:=y) (by simp)))).1
  have H:=l7 aI (by show e.1.length<=_;have:=u.1;omega) (by show e.2.length<=_;have:=u.2.1;omega)
  refine cN j j j H (λr w⟨bn,Y,B⟩=>?_)
  have p:=p.aN B
  have p:C o [] [bi D (⟨5,s.am,m.f,m.s,0,t,e.1,aZ,q,e.2,d1,cK⟩:aB),z,y,bn] w:=p.as
  have az:(⟨5,s.am,m.f,m.s,0,t,e.1,aZ,q,e.2,d1,cK⟩:aB).body.length<=1000000:=by
   have av:=lm e.2 u.2.2
   have ax:=jB e.1 (by have:=u.1;omega)
   have X:=gq [4,5,s.am,m.s,0]
   simp only [ep,ga] at X
   show(et [4,5,s.am,m.s,0]++(hs e.1++jp e.2)).length<=_
   simp only [ca]
   have:=u.1
   have:=u.2.1
   omega
  obtain⟨aq,a1,rfl,_,_,ab,_⟩:=Y.read (p.holds (by simp))
  refine an ⟨⟨_,p⟩,?_⟩
  refine aW 10 j ?_
  have H:=nm (ai.st p (al.off.nil g)) ak ab az (i:=s.am) (d:=a1)
  refine bF j j j H (λw B=>?_)
  have p:=p.aN B
  have p:C o [] [bi D (⟨5,s.am,m.f,m.s,0,t,e.1,aZ,q,e.2,d1,cK⟩:aB),z,y,bn] w:=p.as
  refine an ⟨⟨_,p⟩,?_⟩
  refine af 11 1 j (dy 12 j (c5 (p.bf D) j j j (by simpa using fH (g.cu s.am (⟨5,s.am,m.f,m.s,0,t,e.1,aZ,q,e.2,d1,cK⟩:aB).body)) (by rw [List.size_toArray,ds,al.ea]) (by rw [List.size_toArray,(⟨5,s.am,m.f,m.s,0,t,e.1,aZ,q,e.2,d1,cK⟩:aB).bY j];decide) (λw p=>?_)))
  have p:=C.gk p ((⟨5,s.am,m.f,m.s,0,t,e.1,aZ,q,e.2,d1,cK⟩:aB).o4 (g.cu s.am (⟨5,s.am,m.f,m.s,0,t,e.1,aZ,q,e.2,d1,cK⟩:aB).body) (by rw [al.ea];rfl))
  have p:C o [] (bi D (⟨5,s.am,m.f,m.s,0,t,e.1,aZ,q,e.2,d1,g.cu s.am (⟨5,s.am,m.f,m.s,0,e.1,e.2,[]⟩:aY).body⟩:aB)::_) w:=p
  have p:C o [] [bi D (⟨5,s.am,m.f,m.s,0,t,e.1,aZ,q,e.2,d1,g.cu s.am (⟨5,s.am,m.f,m.s,0,e.1,e.2,[]⟩:aY).body⟩:aB),z,y] w:=p.as
  refine an (cX (bS 2 (U:=(⟨5,s.am,m.f,m.s,0,t,e.1,aZ,q,e.2,d1,g.cu s.am (⟨5,s.am,m.f,m.s,0,e.1,e.2,[]⟩:aY).body⟩:aB).cs) j j ((⟨5,s.am,m.f,m.s,0,t,e.1,aZ,q,e.2,d1,g.cu s.am (⟨5,s.am,m.f,m.s,0,e.1,e.2,[]⟩:aY).body⟩:aB).bY (al.ea _ _ _)) (bq (C.aj p)) (gv (U:=(⟨5,s.am,m.f,m.s,0,t,e.1,aZ,q,e.2,d1,g.cu s.am (⟨5,s.am,m.f,m.s,0,e.1,e.2,[]⟩:aY).body⟩:aB).cs) p j j j ((⟨5,s.am,m.f,m.s,0,t,e.1,aZ,q,e.2,d1,g.cu s.am (⟨5,s.am,m.f,m.s,0,e.1,e.2,[]⟩:aY).body⟩:aB).bY (al.ea _ _ _)) (by decide) (by decide) (λQ w p=>ao 1 j j ?_))))
  have aA:g.check m.f m.body m.tag=true:=by simpa using W
  have E:s.told g m.P=[(⟨5,s.am,m.f,m.s,0,t,e.1,aZ,q,e.2,d1,g.cu s.am (⟨5,s.am,m.f,m.s,0,e.1,e.2,[]⟩:aY).body⟩:aB).P]:=by
   unfold aC.told
   rw [aF (by rintro(h|h|h|h);exact aG h;exact absurd h (bw V);(rw [show(m.f==s.am)=true from dX.2 h] at S;cases S);(have h:g.check m.f m.body m.tag=false:=h;rw [aA] at h;cases h))]
   rw [show s.log[m.P.s.toNat]? =some e from by show s.log[m.s.toNat]? =_;rw [<-aD,ck ad,ah]]
  rw [E]
  have p:C o [] [R Q (⟨5,s.am,m.f,m.s,0,t,e.1,aZ,q,e.2,d1,g.cu s.am (⟨5,s.am,m.f,m.s,0,e.1,e.2,[]⟩:aY).body⟩:aB).cs.toArray 94,z,y] w:=p.as
  refine⟨R Q (⟨5,s.am,m.f,m.s,0,t,e.1,aZ,q,e.2,d1,g.cu s.am (⟨5,s.am,m.f,m.s,0,e.1,e.2,[]⟩:aY).body⟩:aB).cs.toArray 94++(z++y),⟨[(⟨5,s.am,m.f,m.s,0,t,e.1,aZ,q,e.2,d1,g.cu s.am (⟨5,s.am,m.f,m.s,0,e.1,e.2,[]⟩:aY).body⟩:aB)],j,R Q (⟨5,s.am,m.f,m.s,0,t,e.1,aZ,q,e.2,d1,g.cu s.am (⟨5,s.am,m.f,m.s,0,e.1,e.2,[]⟩:aY).body⟩:aB).cs.toArray 94,z++y,j,?_,fx.one ⟨z,y,j,⟨aa,T⟩,al.ea _ _ _,u.2.2,⟨by show e.1.length<=_;have:=u.1;omega,by show e.2.length<=_;have:=u.2.1;omega⟩⟩⟩,p.perm (by simp)⟩
  have:=Row.full (e:=94) (size:=39) (b:=Q) (n:=1) (cur:=(⟨5,s.am,m.f,m.s,0,t,e.1,aZ,q,e.2,d1,g.cu s.am (⟨5,s.am,m.f,m.s,0,e.1,e.2,[]⟩:aY).body⟩:aB).cs.toArray) (by unfold maxLen;omega) (by rw [List.size_toArray,(⟨5,s.am,m.f,m.s,0,t,e.1,aZ,q,e.2,d1,g.cu s.am (⟨5,s.am,m.f,m.s,0,e.1,e.2,[]⟩:aY).body⟩:aB).bY (al.ea _ _ _)])
  simpa using this
def aB.k0(m:aB)(F:List Nat):Prop:=bU m.A (aE m.x) F/\bU m.B (vcs m.l) F
theorem aB.k0.sub{m:aB}{F eD:List Nat}(h:m.k0 F)(aM:∀b∈eD,b∈F):m.k0 eD:=⟨h.1.sub aM,h.2.sub aM⟩
theorem aB.ok.qO{m:aB}{o w:World}{F:List Nat}{ae:List (List Chunk)}(h:m.ok o)(a:C o F ae w)(b:m.k0 F):m.ok w:=⟨a.rd h.x b.1,a.rd h.l b.2,h.aH,h.tag⟩
theorem aB.ok.Ci{m:aB}{o w:World}{F:List Nat}{ae:List (List Chunk)}(h:m.ok o)(a:C o F ae w)(b:m.k0 F):m.k0 (av ae):=⟨a.apart h.x b.1,a.apart h.l b.2⟩
theorem aC.HG{g:al}{s:aC}{m:aY}(h:m.k=1):s.take g m=((s.eH g m.x).1,(s.eH g m.x).2.1):=a6 h
theorem aC.HE{g:al}{s:aC}{m:aY}(h:¬m.k=1)(a:m.s<s.slot):s.take g m=(s,s.told g m):=(aF h).trans (a6 a)
theorem aC.HA{g:al}{s:aC}{m:aY}(h:¬m.k=1)(a:m.s=s.slot):s.take g m=aC.h0 g {s with cur:=(g8 g s.cur m).1} (g8 g s.cur m).2:=(aF h).trans ((aF (by omega)).trans (a6 a))
theorem aC.HF{g:al}{s:aC}{m:aY}(h:¬m.k=1)(b:s.slot<m.s)(a:m.s-s.slot<=4/\s.stored.length<128):s.take g m=({s with stored:=cj s.stored s.eW m,eW:=s.eW+1},[]):=(aF h).trans ((aF (by omega)).trans ((aF (by omega)).trans (a6 a)))
theorem aC.Ap{g:al}{s:aC}{m:aY}(h:¬m.k=1)(b:s.slot<m.s)(a:¬(m.s-s.slot<=4/\s.stored.length<128)):s.take g m=(s,[]):=(aF h).trans ((aF (by omega)).trans ((aF (by omega)).trans (aF a)))
theorem aC.ok.qX{g:al}{N M:Nat}{s:aC}{c:Option ai}(h:s.ok g N)(e:N<=M)(f:∀r,c=some r->r.ok g M)(aM:c.isSome=s.cur.isSome):aC.ok g M {s with cur:=c}:=
 {h.more e with cur:=λr a=>⟨f r a,by
   have b:s.cur.isSome=true:=by rw [<-aM,show c=some r from a];rfl
   obtain⟨i,d⟩:=g4.1 b
   exact(h.cur i d).2⟩}
theorem qb{a b:Int}(c: -2000000<=a/\a<=2000000)(d: -2000000<=b/\b<=2000000):evalBin .add .i64 a b=some (.int .i64 (a+b)):=by
 show some (Value.int .i64 (IntKind.i64.wrap (a+b)))=_
 rw [jR]
 exact aL (λz=>some (Value.int .i64 z)) (by omega)
theorem rX{a b:Int}(c: -2000000<=a/\a<=2000000)(d: -2000000<=b/\b<=2000000):evalBin .sub .i64 a b=some (.int .i64 (a-b)):=by
 show some (Value.int .i64 (IntKind.i64.wrap (a-b)))=_
 rw [jR]
 exact aL (λz=>some (Value.int .i64 z)) (by omega)
theorem Hy{o:World}{g:al}{bb:Nat}{s:aC}{G:List Chunk}(aR:ij g bb s G){m:aB}(hm:m.ok o)(K:m.k0 (av [G]))(ab:m.P.cP)(bC:m.s<=1000000){N:Nat}(M:s.ok g N)(aP:773<=N)(aQ:N+40<=1000000)(R:g.at o)(S:g.ok)(z:g.off (av [G]))(a:Own [G] o):Calls prog 78 #[Z bb,.agg m.cs.toArray] o (aS λr w=>∃bl ah,cz r (s.take g m.P).2 bl/\ij g bb (s.take g m.P).1 ah/\C o (av [G]) [ah,bl] w):=by
 have T:m.tag.length=32:=hm.tag
 have bD:m.x.length<=200:=ab.x
 have bB:m.l.length<=10:=ab.l
 have a3:=K
 have a9:=z
 obtain⟨c,L,a8,Q,D,t,rfl⟩:=aR
 obtain⟨e,aD⟩:∃e,e=av [cy g bb s c++(L++(a8++(Q++D)))]:=⟨_,j⟩
 rw [<-aD] at K z⊢
 have a:C o e [cy g bb s c++(L++(a8++(Q++D)))] o:=aD▸a
 have a:=a.qv
 obtain⟨u,ag,I,bE,V,ap,aG,aq,az⟩:=t.stored
 obtain⟨bn,bk,es,bu,aY,bs⟩:=t.log
 obtain⟨bj,bo,a4,bv,bA⟩:=aY.form
 have bx:=M.log
 refine a1 [Z bb,.agg m.cs.toArray] func78 ntmps78 results78 (bP 2 a j j (λf w a=>?_))
 have a:C o e (bi f m::_) w:=a
 refine au 13 j (aw (C.aj (b:=bb) a) (aL some a4)) (au 7 j (aw (C.aj a) m.gU) (aT 2 j j (λH=>?_) (λH=>?_)))
 .refine au 4 j (aw (C.aj a) m.ge) ?_
  have a:C o e [cy g bb s c,L,a8,Q,D,bi f m] w:=a.as
  have a:=a.iE
  have n:=Al (bH:=m.c) ⟨c,L,a8,Q,D,t,j⟩ (a.rd hm.x K.1) a3.1 (by omega) M aP aQ (R.st a z) S a9 a.ours
  refine bm 0 n j (λr w⟨v,bl,ah,ac,Y,aU,q⟩=>?_)
  subst ac
  have a:=a.b4 q
  refine ao 9 j j ?_
  rw [aC.HG (m:=m.P) (dX.1 H)]
  exact⟨bl,ah,Y,aU,a.as⟩
 refine au 3 j (aw (C.aj a) m.gC) (aT 3 j j (λJ=>?_) (λJ=>?_))
 .refine bS 3 (U:=m.cs) j j (m.bY T) (bq (C.aj a)) ?_
  have n:=H0 (bb:=bb) (C.aj (b:=bb) a) t.log (a.holds (by simp)) M (R.st a z) S (hm.qO a K) ab (br J)
  refine bm 0 n j (λr w⟨bl,Y,q⟩=>?_)
  have a:=a.aN q
  refine ao 1 j j ?_
  rw [aC.HE (m:=m.P) (by simpa using H) (of_decide_eq_true J)]
  have a:C o e [cy g bb s c,L,a8,Q,D,bl] w:=a.as
  exact⟨bl,_,Y,⟨c,L,a8,Q,D,t,j⟩,a.iE⟩
 refine au 3 j (aw (C.aj a) m.gC) (aT 3 j j (λeM=>?_) (λeM=>?_))
 .have a:C o e ([bi f m,cy g bb s c]++_) _:=a.front
  have a:=a.drew
  refine bz 1 j (λw=>True) ba (af 0 4 j (aJ 4 5 j j ?_ ?_))
  refine n7 j j j j (aw (C.aj (b:=bb) a) j) (an ⟨ba,?_⟩)
  refine aW 5 j (lZ (U:=m.cs) j j j j (m.bY T) (bq (C.aj a)) ?_)
  rotate_left
  refine lZ (U:=m.cs) j j j j (m.bY T) (bq (C.aj a)) (an ⟨ba,?_⟩)
  refine aW 4 j (n7 j j j j (aw (C.aj (b:=bb) a) j) ?_)
  rotate_left
  all_goals
   refine an ⟨ba,?_⟩
   refine aW 6 j ?_
   have n:=Ao (m:=m) (hm.qO a K) t.cur (λr ac=>(M.cur r ac).1) (by omega) (R.st a z) S (a.ex R z) a.ours
   refine cN j j j n (λr w⟨bl,ad,Y,aM,q⟩=>?_)
   have a:=a.b4 q
   have a:C o e [bi f m,cy g bb s c,L,ad,Q,D,bl] w:=a.as
   refine an ⟨ba,?_⟩
   refine aW 7 j ?_
   have bd:aC.ok g (N+6) ({s with cur:=(g8 g s.cur m.P).1}:aC):=M.qX (gz _ _) (rR S ab (λr ac=>(M.cur r ac).1)) rS
   obtain⟨ai,a0,a⟩:∃ai,ij g bb ({s with cur:=(g8 g s.cur m.P).1}:aC) ai/\C o e [ai,bl] w:=by
    have a:C o e [cy g bb s (c),L,ad,Q,D,bl] w:=a.as
    exact⟨_,⟨c,L,ad,Q,D,⟨t.log,aM,t.cx,t.stored⟩,j⟩,a.iE⟩
   have n:=uM a0 Y (by have:=rQ S s.cur m.P;omega) bd (by omega) (by omega) (R.st a z) S (a.ex R z) a.ours
   refine cN j j j n (λr w⟨aI,aA,aO,aX,a5⟩=>?_)
   have a:=a.b4 a5
   refine an ⟨ba,?_⟩
   refine af 8 1 j (bO (ao 0 j j ?_))
   rw [aC.HA (m:=m.P) (by simpa using H) (beq_iff_eq.1 eM)]
   exact⟨aI,aA,aO,aX,a.as⟩
 refine au 3 j (aw (C.aj a) m.gC) (bt 1 j j j (rX (by have:=bw J;omega) (by omega)) (ar 2 j (c7 54 j (λam=>?_) (λam=>?_))))
 refine au 3 j (aw (C.aj (b:=bb) a) (aL some ap)) ?_
 have a2:=dG.own (C.perm (B:=[ay 288 u ag I,V,bi f m,cy g bb s c,L,a8,Q]) (show C o e [D,bi f m,cy g bb s c,L,a8,Q] w from a.as) (by simp [az])) aG
 have n:=yy a2
 refine bp 0 n j (λw q=>?_)
 have a:=a.aN q
 refine aT 3 j j (λak=>?_) (λak=>?_)
 .have a:C o e ([bi f m,cy g bb s c]++_) _:=a.front
  have a:=a.drew
  refine bz 1 j (λw=>∃ae,C o e ([bi f m,cy g bb s c]++ae) w) ⟨_,a⟩ (af 0 1 j (be 1 j a7 m.ge (af 3 1 j (be 4 j a7 m.eV (aW 2 j ?_)))))
  have n:=gW (c:=m.c) (hm.qO a K).x (by omega)
  refine cN j j j n (λr w⟨E,aE,q⟩=>?_)
  obtain⟨i,aZ,rfl⟩:∃A c,r= .slice A m.x.length c:=by obtain⟨A,c,h,_⟩:=aE.form;exact⟨A,c,h⟩
  have a:=a.aN q
  have a:C o e ([bi f m,cy g bb s c]++_) w:=a.front
  refine an ⟨⟨_,a⟩,?_⟩
  refine af 6 1 j (aW 5 j ?_)
  have n:=k1 (d:=m.d) (hm.qO a K).l hm.aH (by omega)
  refine cN j j j n (λr w⟨F,aF,q⟩=>?_)
  obtain⟨p,d1,rfl⟩:∃A c,r= .slice A m.l.length c:=by obtain⟨A,c,h,_⟩:=aF.form;exact⟨A,c,h⟩
  have a:=a.aN q
  have a:C o e ([bi f m,cy g bb s c]++_) w:=a.front
  refine an ⟨⟨_,a⟩,?_⟩
  refine dy 7 j (cC (a.bf f) j j j j (by rw [hq,m.bY hm.tag];decide) (λw a=>?_))
  have a:C o e (bi f ({m with A:=i,c:=aZ}:aB)::_) w:=C.gk a (m.qJ i aZ)
  have a:C o e ([bi f ({m with A:=i,c:=aZ}:aB),cy g bb s c]++_) w:=a.front
  refine an (jZ 8 j (q8 j j j (an (jZ 9 j (cC (a.bf f) j j j j (by rw [List.size_toArray,(({m with A:=i,c:=aZ}:aB)).bY hm.tag];decide) (λw a=>?_))))))
  have a:C o e (bi f ({m with A:=i,c:=aZ,B:=p,d:=d1}:aB)::_) w:=C.gk a ((({m with A:=i,c:=aZ}:aB)).mx p d1)
  have a:C o e ([bi f ({m with A:=i,c:=aZ,B:=p,d:=d1}:aB),cy g bb s c]++_) w:=a.front
  refine an (cX ?_)
  have a:C o e [bi f ({m with A:=i,c:=aZ,B:=p,d:=d1}:aB),cy g bb s c,L,a8,Q,D,E,F] _:=a.as
  subst az
  have a:C o e [bi f ({m with A:=i,c:=aZ,B:=p,d:=d1}:aB),cy g bb s c,L,a8,Q,ay 288 u ag I,V,E,F] _:=C.perm (A:=[bi f ({m with A:=i,c:=aZ,B:=p,d:=d1}:aB),cy g bb s c,L,a8,Q,ay 288 u ag I++V,E,F]) a (by simp)
  have a:=a.drew
  refine bz 1 j (λw=>∃ae,C o e ([bi f ({m with A:=i,c:=aZ,B:=p,d:=d1}:aB),cy g bb s c]++ae) w) ⟨_,a⟩ (af 0 3 j (be 3 j a7 (aL some ap) (af 4 3 j (be 7 j a7 j (aV 8 j (λw⟨_,a⟩=>dc (U:=({m with A:=i,c:=aZ,B:=p,d:=d1}:aB).cs) j j (({m with A:=i,c:=aZ,B:=p,d:=d1}:aB).bY T) (bq (C.aj a))) (aW 9 j ?_))))))
  have n:=vL (k:=s.eW) (({m with A:=i,c:=aZ,B:=p,d:=d1}:aB).bY T) ({m with A:=i,c:=aZ,B:=p,d:=d1}:aB).one (a.ours (cI:=[ay 288 u ag I])) aG
  refine bF j j j n (λw⟨O,a6,q⟩=>?_)
  have a:=a.b4 q
  have a:C o e [bi f ({m with A:=i,c:=aZ,B:=p,d:=d1}:aB),cy g bb s c,L,a8,Q,ay 288 u ag O,V,E,F] w:=a.as
  refine an ⟨⟨_,a⟩,?_⟩
  refine bO (au 4 j (aw (C.aj a) j) (bt 0 j j j (qb (by have:=M.eW;omega) (by omega)) (dD 2 (a.bf bb) j j j j (λw a=>?_))))
  have a:C o e (cy g bb {s with eW:=s.eW+1} c::_) w:=a
  refine ao 3 j j ?_
  have aa:s.slot<m.P.s:=by have X:=bw J;have y:¬m.s=(s.log.length:Int):=(by simpa using eM);have y:¬m.P.s=s.slot:=y;have ax:¬m.P.s<s.slot:=X;omega
  have bh:m.P.s-s.slot<=4/\s.stored.length<128:=⟨br am,by have:=br ak;have:=aq.len;omega⟩
  rw [aC.HF (m:=m.P) (by simpa using H) aa bh]
  obtain⟨W,aK,bg,bc⟩:=aq.put (k:=s.eW) (show j9 (.agg ({m with A:=i,c:=aZ,B:=p,d:=d1}:aB).cs.toArray) m.P (E++F) from⟨({m with A:=i,c:=aZ,B:=p,d:=d1}:aB),j,j,E,F,j,⟨aE,aF⟩,T,ab.aH,⟨by show m.x.length<=_;omega,by show m.l.length<=_;omega⟩⟩)
  have a:C o e [cy g bb {s with eW:=s.eW+1} c,L,a8,Q,ay 288 u ag O,aK,W] w:=C.perm (A:=[cy g bb {s with eW:=s.eW+1} c,L,a8,Q,ay 288 u ag O,V,E,F]) a.as (by
   simp only [kd,mQ,g6]
   exact .append_left _ (.append_left _ (.append_left _ (.append_left _ (.append_left _ bc)))))
  have a:C o e [cy g bb {s with eW:=s.eW+1} c,L,a8,Q,ay 288 u ag O++W,[]] w:=C.perm (A:=[cy g bb {s with eW:=s.eW+1} c,L,a8,Q,ay 288 u ag O,W]) a.as (by simp)
  exact⟨[],_,cz.nil,⟨c,L,a8,Q,ay 288 u ag O++W,⟨t.log,t.cur,t.cx,⟨u,ag,O,_,W,ap,a6,bg,j⟩⟩,j⟩,a.iE⟩
 refine ao 4 j j ?_
 have aa:s.slot<m.P.s:=by have X:=bw J;have y:¬m.s=(s.log.length:Int):=(by simpa using eM);have y:¬m.P.s=s.slot:=y;have ax:¬m.P.s<s.slot:=X;omega
 rw [aC.Ap (m:=m.P) (by simpa using H) aa (by have:=of_decide_eq_false ak;have:=aq.len;exact λh=>absurd h.2 (by omega))]
 rotate_left
 refine ao 13 j j ?_
 have aa:s.slot<m.P.s:=by have X:=bw J;have y:¬m.s=(s.log.length:Int):=(by simpa using eM);have y:¬m.P.s=s.slot:=y;have ax:¬m.P.s<s.slot:=X;omega
 rw [aC.Ap (m:=m.P) (by simpa using H) aa (λh=>absurd h.1 (of_decide_eq_false am))]
 rotate_left
 all_goals
  have a:C o e [cy g bb s c,L,a8,Q,D,[]] w:=(C.empty a).as
  exact⟨[],_,cz.nil,⟨c,L,a8,Q,D,t,j⟩,a.iE⟩
theorem HM{o:World}{g:al}{bb:Nat}{s:aC}{G:List Chunk}(y:ij g bb s G){N:Nat}(n:s.ok g N)(H:773<=N)(I:N+40<=1000000)(f:g.at o)(h:g.ok)(e:g.off (av [G]))(a:Own [G] o):Calls prog 80 #[Z bb] o (aS λr w=>∃bl ah,cz r (s.tick g).2 bl/\ij g bb (s.tick g).1 ah/\C o (av [G]) [ah,bl] w):=by
 obtain⟨c,L,a8,Q,D,i,rfl⟩:=y
 obtain⟨d,q⟩:∃d,d=av [cy g bb s c++(L++(a8++(Q++D)))]:=⟨_,j⟩
 rw [<-q] at e⊢
 have a:C o d [cy g bb s c++(L++(a8++(Q++D)))] o:=q▸a
 have a:=a.qv
 refine a1 [Z bb] func80 ntmps80 results80 (au 16 j (aw (C.aj (b:=bb) a) j) ?_)
 have m:=HJ i.cur (λr p=>(n.cur r p).1) (by omega) (f.st a e) h (a.ex f e) a.ours
 refine bm 0 m j (λr w⟨bl,k,x,u,B⟩=>?_)
 have a:=a.b4 B
 have a:C o d [cy g bb s c,L,k,Q,D,bl] w:=a.as
 have F:aC.ok g (N+6) ({s with cur:=(iB g s.cur).1}:aC):=n.qX (gz _ _) (uh h (λr p=>(n.cur r p).1)) ui
 obtain⟨l,A,a⟩:∃l,ij g bb ({s with cur:=(iB g s.cur).1}:aC) l/\C o d [l,bl] w:=by
  have a:C o d [cy g bb s (c),L,k,Q,D,bl] w:=a.as
  exact⟨_,⟨c,L,k,Q,D,⟨i.log,u,i.cx,i.stored⟩,j⟩,a.iE⟩
 have m:=uM A x (by have:=xt h s.cur;omega) F (by omega) (by omega) (f.st a e) h (a.ex f e) a.ours
 refine bm 0 m j (λr w⟨t,aA,v,z,E⟩=>?_)
 have a:=a.b4 E
 refine ao 1 j j ?_
 exact⟨t,aA,v,z,a.as⟩
theorem yF{o:World}{g:al}{bb:Nat}{s:aC}{c:kb}{L:List Chunk}(Y:o.heap[bb]? =some (.cells (o8 g s c).toArray 124 (0,0)))(T:ns c.log s.log L)(E:Holds o L){N:Nat}(I:s.ok g N):Calls prog 22 #[Z bb] o (aS λr w=>∃bl,gm r (s.log.map Prod.fst) bl/\C o [] [bl] w):=by
 have a:Own [] o:=C.start o
 obtain⟨am,ak,es,rfl,X,D⟩:=T
 obtain⟨O,P,aa,aA,aB,af,_⟩:=X.read E.left
 have aq:=D.len
 have ay:=I.log
 have F:∀e∈es,([e.1,e.2]:List Value).length=2:=λ_ _=>rfl
 refine a1 [Z bb] func22 ntmps22 results22 (au 19 j (aw Y (aL some aa)) ?_)
 refine cY 3 j (cA:=Nat×Value×List Chunk) (λk=>[(0,Z bb),(3,k.2.1),(11,.slice O s.log.length P),(12,.int .i64 (s.log.length:Nat)),(13,.int .i64 (k.1:Nat))])
  (λk w=>k.1<=s.log.length/\gm k.2.1 ((s.log.take k.1).map Prod.fst) k.2.2/\C o [] [k.2.2] w) (λk=>s.log.length-k.1) (0,.slice none 0 0,[]) ⟨j,j,j,j,j,ba⟩ ⟨ch _,⟨[],[],[],j,Row.nil _ _,j⟩,a.empty⟩ ?_
 rintro⟨i,v,G⟩ w ⟨ab,q,a⟩
 dsimp only at ab q a⊢
 refine aT 4 j j (λx=>?_) (λx=>?_)
 .have l:i<s.log.length:=by have:=br x;omega
  obtain⟨h,ci,m,p,ah,av,ax,ag,_,_⟩:=D.read E.right i l
  have H:es[i]'(by omega)=(.slice h s.log[i].1.length ci,.slice m s.log[i].2.length p):=by have:=ah;rw [ck (by omega)] at this;exact hr this
  have ae:=I.nd _ (ek l)
  have M:=a.rd af (bU.of_nil _ _)
  refine ar 5 j (fL j j j j M (v:=.slice h s.log[i].1.length ci) (iC (f:=λe:Value×Value=>[e.1,e.2]) (J:=0) es F i (by omega) (by decide) (by rw [H];rfl)) l (λan Q ap=>?_))
  subst Q
  have K:=jE (f:=λe:Value×Value=>[e.1,e.2]) M F i (by omega)
  rw [H] at K
  refine bS 0 (U:=[.slice h s.log[i].1.length ci,.slice m s.log[i].2.length p]) j j j K (cn 0 a j (λB w a=>cp 0 (a.bf B) j j j j j (λw a=>?_)))
  have a:=C.whole (U:=[.slice h s.log[i].1.length ci,.slice m s.log[i].2.length p]) a j
  have a:C o [] [[(B,.cells #[.slice h s.log[i].1.length ci,.slice m s.log[i].2.length p] 126 (0,0))],G] w:=a.as
  refine au 3 j (aw (C.aj a) j) (bm 0 (gW (c:=ci) (a.rd ag (bU.of_nil _ _)) (by have:=ae.1;omega)) j (λr w⟨d,y,ad⟩=>?_))
  have a:=a.aN ad
  have a:C o [] [G,d] w:=a.as
  refine fe (U:=[r]) a j j j j j (by simpa using y.one) bR (λt w a=>?_)
  have aP:=bq (C.aj (b:=t) a)
  obtain⟨z,H1,us,rfl,V,S⟩:=q
  have a:C o [] [z,H1,d,R t #[r] 30] w:=C.perm (A:=[z++H1,d,R t #[r] 30]) a.as (by simp)
  have az:((s.log.take i).map Prod.fst).length=i:=by rw [fy,hi];omega
  refine eK a V j j (by decide) j j j (news:=[r]) j aP (by intro u hu;rw [List.mem_singleton.1 hu];exact y.one) (by omega) (by unfold maxLen;omega) (λv2 n w W a=>?_)
  have ai:gm v2 ((s.log.take (i+1)).map Prod.fst) (n++(H1++d)):=by
   rw [fF l,jP]
   exact⟨n,H1++d,us++[r],j,by rw [ca];exact W,S.app (hT.one y)⟩
  have a:C o [] [n++(H1++d)] w:=C.perm (A:=[n,H1,d]) a.as (by simp)
  refine bt 2 j j j (c2 i (by omega)) (bX 1 j ?_)
  exact⟨(i+1,v2,_),⟨j,j,j,j,j,ba⟩,⟨l,ai,a⟩,by dsimp only;omega⟩
 refine ao 5 j j ?_
 have ac:i=s.log.length:=by have:=bw x;omega
 rw [ac,gy] at q
 exact⟨G,q,a⟩
def kn:List UInt8:=[97,98,99,100,101,102,103,104,105,106,107,108,109,110,111,112,113,114,115,116,117,118,119,120,121,122]
def gj(b:UInt8):Bool:=decide (97<=b.toNat/\b.toNat<=122)
def iA(J:Nat):Array Value:=((List.range 256).map λi=>Value.bool (decide (97<=i/\i<97+J))).toArray
abbrev jc(b:Nat)(J:Nat):List Chunk:=R b (iA J) 294
theorem rI(J:Nat):(iA J).size=256:=by simp [iA]
theorem rH(J i:Nat)(a:i<256):(iA J)[i]? =some (.bool (decide (97<=i/\i<97+J))):=by
 simp [iA,List.getElem?_range a,a]
theorem Cc(J:Nat)(b:J<26):(iA J).setIfInBounds (97+J) (.bool true)=iA (J+1):=by
 apply rB
 intro i
 by_cases a:i<256
 .by_cases he:i=97+J
  .subst he
   rw [tL (by rw [rI];omega),rH _ _ a]
   congr 2
   symm
   rw [gL]
   omega
  .rw [pU (by omega),rH _ _ a,rH _ _ a]
   congr 2
   rw [oh]
   omega
 .rw [tN (by rw [Array.size_setIfInBounds,rI];omega),tN (by rw [rI];omega)]
theorem Cb(c:UInt8):(iA 26)[c.toNat]? =some (.bool (gj c)):=by
 have:=c.toNat_lt
 rw [rH _ _ (by omega)]
 unfold gj
 congr 2
 rw [oh]
 omega
theorem xl{o:World}{b:Nat}{c:UInt8}(a:Own [jc b 26] o):Calls prog 205 #[Z b,.int .u8 (c.toNat:Int)] o (aS λr w=>r= .bool (gj c)/\C o (av [jc b 26]) [jc b 26] w):=by
 refine a1 [Z b,.int .u8 (c.toNat:Int)] func205 ntmps205 results205 (ar 8 j (q9 (J:=c.toNat) j j j j (by have:=c.toNat_lt;omega) ?_))
 refine au 0 j (a.cell (v:=.bool (gj c)) (by rw [fk,gT];exact Cb c)) (ao 1 j j ?_)
 exact⟨j,a⟩
theorem H3{o:World}{b:Nat}{s:List UInt8}(a:Own [jc b 26] o):Calls prog 168 #[.string (strOf s),Z b] o (aS λr w=>r= .string (strOf (s.dropWhile gj))/\C o (av [jc b 26]) [jc b 26] w):=by
 refine a1 [.string (strOf s),Z b] func168 ntmps168 results168 ?_
 refine cY 5 j (cA:=List UInt8) (λi=>[(0,.string (strOf i)),(1,Z b)])
  (λi w=>i.dropWhile gj=s.dropWhile gj/\C o (av [jc b 26]) [jc b 26] w) (λi=>i.length) s ⟨j,j,ba⟩ ⟨j,a⟩ ?_
 rintro s1 w ⟨g,a⟩
 refine ar 4 j (mG j j j j ?_)
 refine aT 1 j j (λdw=>?_) (λdw=>?_)
 .have f:0<s1.length:=by have:=br dw;omega
  refine ar 7 j (ra (J:=0) j j j j f ?_)
  have k:=xl (c:=s1[0]) a.j1
  refine bm 0 k j (λr w⟨n,ad⟩=>?_)
  subst n
  have a:=a.im ad
  refine aT 1 j j (λd=>?_) (λd=>?_)
  .refine ao 5 j j ?_
   have e:gj s1[0]=false:=by simpa using d
   refine⟨?_,a⟩
   rw [<-g]
   cases s1 with
   |nil=>simp at f
   |cons x r=>
    have m:gj x=false:=e
    rw [tD,m]
    rfl
  refine ar 3 j (Bu (J:=1) j j j j (by omega) ?_)
  refine bX 1 j ?_
  have e:gj s1[0]=true:=by simpa using d
  have l:s1=s1[0]::s1.drop 1:=by cases s1 with|nil=>simp at f|cons x r=>rfl
  refine⟨s1.drop 1,⟨j,j,ba⟩,⟨?_,a⟩,by rw [iP];omega⟩
  rw [<-g]
  conv=>rhs;rw [l]
  rw [tD,a6 e]
 refine ao 5 j j ?_
 have h:s1=[]:=by
  have:=bw dw
  exact pM.1 (by omega)
 subst h
 refine⟨?_,a⟩
 rw [<-g]
 rfl
theorem yh(k:Nat)(a:0<k)(h:k<9223372036854775807):evalBin .sub .i64 (k:Int) 1=some (.int .i64 ((k-1:Nat):Int)):=by
 have:IntKind.i64.wrap ((k:Int)-1)=((k-1:Nat):Int):=by rw [jR];omega
 show some (Value.int .i64 (IntKind.i64.wrap ((k:Int)-1)))=_
 rw [this]
def kS(s:List UInt8):List UInt8:=(s.reverse.dropWhile gj).reverse
theorem Av(s:List UInt8)(h:0<s.length)(a:gj (s[s.length-1]'(by omega))=true):kS (s.take (s.length-1))=kS s:=by
 have e:s=s.take (s.length-1)++[s[s.length-1]'(by omega)]:=by
  rw [<-fF (by omega),show s.length-1+1=s.length by omega,gy]
 unfold kS
 conv=>rhs;rw [e]
 rw [List.reverse_append,List.reverse_singleton,List.singleton_append,List.dropWhile_cons,if_pos a]
theorem Aw(s:List UInt8)(h:0<s.length)(a:gj (s[s.length-1]'(by omega))=false):kS s=s:=by
 have e:s=s.take (s.length-1)++[s[s.length-1]'(by omega)]:=by
  rw [<-fF (by omega),show s.length-1+1=s.length by omega,gy]
 unfold kS
 rw [e,List.reverse_append,List.reverse_singleton,List.singleton_append,List.dropWhile_cons,a]
 simp
theorem E1(i:Nat)(a:i<26):(kn[i]'a).toNat=97+i:=by
 have:∀i:Fin 26,(kn[i.1]'i.2).toNat=97+i.1:=by decide
 exact this ⟨i,a⟩
theorem H4{o:World}{b:Nat}{s:List UInt8}(a:Own [jc b 26] o)(l:s.length<=1000000):Calls prog 169 #[.string (strOf s),Z b] o (aS λr w=>r= .string (strOf (kS s))/\C o (av [jc b 26]) [jc b 26] w):=by
 refine a1 [.string (strOf s),Z b] func169 ntmps169 results169 ?_
 refine cY 5 j (cA:=List UInt8) (λi=>[(0,.string (strOf i)),(1,Z b)])
  (λi w=>i.length<=1000000/\kS i=kS s/\C o (av [jc b 26]) [jc b 26] w) (λi=>i.length) s ⟨j,j,ba⟩ ⟨l,j,a⟩ ?_
 rintro s1 w ⟨m,g,a⟩
 refine ar 4 j (mG j j j j ?_)
 refine aT 1 j j (λdw=>?_) (λdw=>?_)
 .have d:0<s1.length:=by have:=br dw;omega
  refine ar 8 j (mG j j j j ?_)
  refine bt 0 j j j (yh s1.length d (by omega)) (ra (J:=s1.length-1) j j j j (by omega) ?_)
  have k:=xl (c:=s1[s1.length-1]) a.j1
  refine bp 0 k j (λw ad=>?_)
  have a:=a.im ad
  refine aT 1 j j (λe=>?_) (λe=>?_)
  .refine ao 5 j j ?_
   have f:gj s1[s1.length-1]=false:=by simpa using e
   refine⟨?_,a⟩
   rw [<-g,Aw s1 d f]
  refine ar 4 j (mG j j j j ?_)
  refine bt 0 j j j (yh s1.length d (by omega)) (Bv (J:=s1.length-1) j j j j (by omega) (bX 1 j ?_))
  have f:gj s1[s1.length-1]=true:=by simpa using e
  exact⟨s1.take (s1.length-1),⟨j,j,ba⟩,⟨by rw [hi];omega,(Av s1 d f).trans g,a⟩,by rw [hi];omega⟩
 refine ao 5 j j ?_
 have h:s1=[]:=by
  have:=bw dw
  exact pM.1 (by omega)
 subst h
 refine⟨?_,a⟩
 rw [<-g]
 rfl
theorem Fd{o:World}:Calls prog 167 #[.string (strOf kn)] o (aS λr w=>r= .tuple #[.agg (iA 26).toList.toArray,.bool true]/\C o [] [] w):=by
 have a:Own [] o:=C.start o
 refine e7 [.string (strOf kn)] (fn:=f167) func167 ntmps167 (cn 2 a j (λaJ w a=>?_))
 refine cY 6 j (cA:=Nat) (λi=>[(0,.string (strOf kn)),(2,Z aJ),(4,.int .i64 (i:Nat))])
  (λi w=>i<=26/\C o [] [jc aJ i] w) (λi=>26-i) 0 ⟨j,j,j,ba⟩ ⟨ch _,a⟩ ?_
 rintro i w ⟨f,a⟩
 refine ar 5 j (mG j j j j ?_)
 refine aT 1 j j (λc=>?_) (λc=>?_)
 .have b:i<26:=by have:=br c;have:kn.length=26:=rfl;omega
  have g:=E1 i b
  have e:decide (((kn[i]'b).toNat:Int)>=128)=false:=by rw [rj];omega
  refine ar 7 j (ra (J:=i) j j j j b ?_)
  refine iW 6 j j (e) (ar 3 j (q9 (J:=(kn[i]'b).toNat) j j j j (by omega) ?_))
  refine cC a j j j j (by rw [rI];omega) (λw a=>?_)
  have a:C o [] [jc aJ (i+1)] w:=by
   have h:=a
   rw [show 0+(kn[i]'b).toNat*1=97+i by omega,Cc i b] at h
   exact h
  refine bt 2 j j j (c2 i (by omega)) (bX 1 j ?_)
  exact⟨i+1,⟨j,j,j,ba⟩,⟨b,a⟩,by omega⟩
 have d:i=26:=by have:=bw c;have:kn.length=26:=rfl;omega
 subst d
 refine bS 3 (U:=(iA 26).toList) j j (by simp [iA]) a.bN (c5 a j j j (by kernel_rfl) (by simp [iA]) (by simp [iA]) (λw a=>?_))
 have a:=C.whole (U:=(iA 26).toList) a (by simp)
 refine bJ 1 j ⟨_,dp results167 j j j j (a.bN),?_⟩
 exact⟨j,a.bare⟩
def sU(s:List UInt8):List UInt8:=(kS s).dropWhile gj
theorem dropWhile_nil:∀l:List UInt8,l.dropWhile gj=[]↔l.all gj=true
 |[]=>by simp
 |x::r=>by
  rw [tD]
  by_cases h:gj x=true
  .rw [a6 h,dropWhile_nil r];simp [h]
  .rw [aF h];simp [h]
theorem sV(s:List UInt8):decide (sU s=[])=s.all gj:=by
 rw [mX,gL]
 unfold sU
 rw [dropWhile_nil]
 constructor
 .intro h
  rcases rt s.length with c|c
  .rw [pM.1 c];rfl
  .have key:∀(n:Nat)(s:List UInt8),s.length=n->(kS s).all gj=true->s.all gj=true:=by
    intro n
    induction n with
    |zero=>intro s aM _;rw [pM.1 aM];rfl
    |succ n g=>
     intro s aM h
     have d:0<s.length:=by omega
     by_cases b:gj (s[s.length-1]'(by omega))=true
     .rw [<-Av s d b] at h
      have a:=g (s.take (s.length-1)) (by rw [hi];omega) h
      have e:s=s.take (s.length-1)++[s[s.length-1]'(by omega)]:=by
       rw [<-fF (by omega),show s.length-1+1=s.length by omega,gy]
      rw [e,List.all_append,a]
      simp [b]
     .rw [Aw s d (by simpa using b)] at h
      exact h
   exact key _ s j h
 .intro h
  have a:s.reverse.all gj=true:=by rw [List.all_reverse];exact h
  have f:=(dropWhile_nil s.reverse).2 a
  unfold kS
  rw [f]
  rfl
theorem Ax{o:World}{s:List UInt8}(g:s≠[])(f:s.length<=1000000):Calls prog 122 #[.string (strOf s),.string (strOf kn)] o (aS λr w=>r= .string (strOf (sU s))/\C o [] [] w):=by
 have a:Own [] o:=C.start o
 have d:(strOf s==strOf [])=false:=by rw [my];simp [g]
 have e:(strOf kn==strOf [])=false:=by rw [my];decide
 refine a1 [.string (strOf s),.string (strOf kn)] func122 ntmps122 results122 (ar 7 j (n6 j j j j ?_))
 refine ar 1 j (b2 9 (.bool false) j (aL Value.bool (d)) ?_)
 refine ar 1 j (n6 j j j j ?_)
 refine iW 1 j j (e) (ar 5 j (mG j j j j ?_))
 refine ar 2 j (b2 17 (.bool false) j (aL Value.bool (j)) ?_)
 have b:=Fd (o:=o)
 refine bp 10 b j (λw ad=>?_)
 have a:=a.aN ad
 refine cn 3 a j (λc w a=>c5 a j j j (by kernel_rfl) (by simp [iA]) (by decide) (λw a=>?_))
 have a:C o [] (jc c 26::_) w:=C.whole (U:=(iA 26).toList) a (by rw [show(iA 26).toList.length=256 by simp [iA]];rfl)
 have b:=H4 a.j1 f
 refine bp 8 b j (λw ad=>?_)
 have a:=a.im ad
 have b:=H3 (s:=kS s) a.j1
 refine bp 0 b j (λw ad=>?_)
 have a:=a.im ad
 refine ao 1 j j ?_
 exact⟨j,a.bare⟩
def lb(s:List UInt8):Bool:=s.all gj&&decide (1<=s.length/\s.length<=8)
structure bG where
 k:Int
 c:Int
 s:Int
 eh:List UInt8
 p:Int
 e:Int
 t:Int
 q:Int
 dQ:Bool
abbrev bG.cs(I:bG):List Value:=[ab I.k,ab I.c,ab I.s,.string (strOf I.eh),ab I.p,ab I.e,ab I.t,ab I.q,.bool I.dQ]
abbrev bE(b:Nat)(I:bG):List Chunk:=R b I.cs.toArray 85
def c9:bG:=⟨0,0,0,[],0,0,0,0,false⟩
def bG.named(I:bG):bG:=
 if I.k=1 then⟨I.k,I.c,I.s,I.eh,0,0,0,0,false⟩
 else if I.k=2 then⟨I.k,I.c,I.s,[],I.p,I.e,I.t,I.q,false⟩
 else if I.k=3 then⟨I.k,I.c,I.s,[],I.p,I.e,I.t,0,I.dQ⟩
 else⟨I.k,I.c,I.s,[],0,0,0,0,false⟩
def bG.ids(I:bG):Bool:=I.p==0&&I.e==0&&I.t==0
def gO(I:bG):Bool:=fO I.c 0 15&&fO I.s 0 1048576&&
 (if I.k=1 then lb I.eh&&I.ids&&I.q==0&& !I.dQ
  else if I.k=4 then decide (I.eh=[])&&I.ids&&I.q==0&& !I.dQ
  else if I.k=2 then decide (I.eh=[])&&j2 I.p I.e I.t&&fO I.q 0 3&& !I.dQ
  else if I.k=3 then decide (I.eh=[])&&j2 I.p I.e I.t&&I.q==0
  else false)
def bG.eq(a b:bG):Bool:=(a.k==b.k)&&((a.c==b.c)&&((a.s==b.s)&&(decide (a.eh=b.eh)&&((a.p==b.p)&&((a.e==b.e)&&((a.t==b.t)&&((a.q==b.q)&&((a.dQ==b.dQ)&&true))))))))
def bG.mj(I:bG):Bool:=if I.k=1 then(!decide (I.eh=[]))&&decide (I.eh.length<=8)&&I.eh.all gj else decide (I.eh=[])
def lJ(I:bG):Bool:=fO I.k 1 4&&(fO I.c 0 15&&(fO I.s 0 1048576&&(I.mj&&(j2 I.p I.e I.t&&(fO I.q 0 3&&I.named.eq I)))))
theorem nM(n a b:Int):fO n a b=true↔a<=n/\n<=b:=by unfold fO;rw [decide_eq_true_eq]
theorem bG.eq_iff(a b:bG):a.eq b=true↔a=b:=by
 obtain⟨c,d,a3,a4,a5,e,f,g,a9⟩:=a
 obtain⟨ax,aJ,h,i,j,k,l,m,n⟩:=b
 simp only [bG.eq,Bool.and_true,d8,dX,gL,bG.mk.injEq]
theorem sr(I:bG):lJ I=gO I:=by
 rw [mX]
 obtain⟨k,c,s,eh,p,e,t,q,dQ⟩:=I
 by_cases f:k=1
 .subst f
  simp only [lJ,gO,bG.mj,bG.named,bG.ids,bG.eq_iff,lb,j2,nM,kh,d8,kc,gL,rj,dX,bG.mk.injEq]
  have aP:eh.length=0↔eh=[]:=pM
  constructor
  .rintro⟨_,a,aM,⟨⟨f,g⟩,i⟩,_,_,_,_,_,_,b,he,l,d,j⟩
   refine⟨⟨a,aM⟩,⟨⟨⟨i,?_,g⟩,⟨b.symm,he.symm⟩,l.symm⟩,d.symm⟩,j.symm⟩
   have:=mt aP.1 f
   omega
  .rintro⟨⟨a,aM⟩,⟨⟨⟨i,f,g⟩,⟨rfl,rfl⟩,rfl⟩,rfl⟩,rfl⟩
   refine⟨⟨by omega,by omega⟩,a,aM,⟨⟨λh=>?_,g⟩,i⟩,⟨⟨by omega,by omega⟩,by omega⟩,by omega,?_⟩
   .rw [h] at f
    exact absurd f (by decide)
   .simp
 .by_cases g:k=2
  .subst g
   simp only [lJ,gO,bG.mj,bG.named,bG.ids,bG.eq_iff,j2,nM,kh,lv,d8,kc,gL,dX,bG.mk.injEq,show¬(2:Int)=1 by decide,show¬(2:Int)=4 by decide]
   constructor
   .rintro⟨_,a,aM,aP,b,d,_,_,_,_,_,_,_,_,j⟩
    exact⟨⟨a,aM⟩,⟨⟨aP,b⟩,d⟩,j.symm⟩
   .rintro⟨⟨a,aM⟩,⟨⟨aP,b⟩,d⟩,rfl⟩
    refine⟨⟨by omega,by omega⟩,a,aM,aP,b,d,?_⟩
    simp [aP]
  .by_cases i:k=3
   .subst i
    simp only [lJ,gO,bG.mj,bG.named,bG.ids,bG.eq_iff,j2,nM,kh,lv,d8,kc,gL,dX,bG.mk.injEq,show¬(3:Int)=1 by decide,show¬(3:Int)=4 by decide,show¬(3:Int)=2 by decide]
    constructor
    .rintro⟨_,a,aM,aP,b,d,_,_,_,_,_,_,_,o,_⟩
     exact⟨⟨a,aM⟩,⟨aP,b⟩,o.symm⟩
    .rintro⟨⟨a,aM⟩,⟨aP,b⟩,rfl⟩
     refine⟨⟨by omega,by omega⟩,a,aM,aP,b,⟨by omega,by omega⟩,?_⟩
     simp [aP]
   .by_cases m:k=4
    .subst m
     simp only [lJ,gO,bG.mj,bG.named,bG.ids,bG.eq_iff,j2,nM,kh,lv,d8,kc,gL,dX,bG.mk.injEq,show¬(4:Int)=1 by decide,show¬(4:Int)=3 by decide,show¬(4:Int)=2 by decide]
     constructor
     .rintro⟨_,a,aM,aP,_,_,_,_,_,_,b,he,l,d,j⟩
      exact⟨⟨a,aM⟩,⟨⟨aP,⟨b.symm,he.symm⟩,l.symm⟩,d.symm⟩,j.symm⟩
     .rintro⟨⟨a,aM⟩,⟨⟨aP,⟨rfl,rfl⟩,rfl⟩,rfl⟩,rfl⟩
      refine⟨⟨by omega,by omega⟩,a,aM,aP,⟨⟨by omega,by omega⟩,by omega⟩,⟨by omega,by omega⟩,?_⟩
      simp [aP]
    .have n:¬(1<=k/\k<=4):=by omega
     simp only [lJ,gO,aF f,aF g,aF i,aF m,nM,d8,nD,n,false_and,Bool.false_eq_true]
theorem vO(s:List UInt8):(strOf s==⟨#[]⟩)=decide (s=[]):=my s []
theorem bG.gU(I:bG):I.cs.toArray[0]? =some (.int .i64 I.k):=rfl
theorem bG.aZ(I:bG):I.cs.toArray[1]? =some (.int .i64 I.c):=rfl
theorem bG.dn(I:bG):I.cs.toArray[2]? =some (.int .i64 I.s):=rfl
theorem bG.gC(I:bG):I.cs.toArray[3]? =some (.string (strOf I.eh)):=rfl
theorem bG.fA(I:bG):I.cs.toArray[4]? =some (.int .i64 I.p):=rfl
theorem bG.ge(I:bG):I.cs.toArray[5]? =some (.int .i64 I.e):=rfl
theorem bG.eV(I:bG):I.cs.toArray[6]? =some (.int .i64 I.t):=rfl
theorem bG.dw(I:bG):I.cs.toArray[7]? =some (.int .i64 I.q):=rfl
theorem bG.eP(I:bG):I.cs.toArray[8]? =some (.bool I.dQ):=rfl
theorem DG(a b:bG)(w:World):(Op.equalIn 10000 85 (.agg a.cs.toArray) (.agg b.cs.toArray)).run prog w= .ok (a.eq b) w:=by
 have hu:prog.underlying 3=some (.int .i64):=(inferInstance:bC prog 3 (.int .i64)).h
 have aM:prog.underlying 9=some .string:=(inferInstance:bC prog 9 .string).h
 have c:prog.underlying 4=some .bool:=(inferInstance:bC prog 4 .bool).h
 rw [run_equalIn_agg w 9999 85 _ _ (by kernel_rfl) (by kernel_rfl)]
 exact kl (by decide) hu j j (kl (by decide) hu j j (kl (by decide) hu j j (DD (by decide) aM j j (kl (by decide) hu j j (kl (by decide) hu j j (kl (by decide) hu j j (kl (by decide) hu j j (DC (by decide) c j j ux))))))))
theorem Ft{o:World}{I:bG}:Calls prog 129 #[.agg I.cs.toArray] o (aS λr w=>r= .agg I.named.cs.toArray/\C o [] [] w):=by
 have a:Own [] o:=C.start o
 refine e7 [.agg I.cs.toArray] (fn:=f129) func129 ntmps129 (bP 2 a j j (λax w a=>cn 0 a j (λaJ w a=>?_)))
 have a:=a.f1
 refine au 3 j (a.cell I.gU) (au 1 j (a.cell I.aZ) (au 1 j (a.cell I.dn) (cO (c:=(bG.mk I.k I.c I.s [] 0 0 0 0 false).cs.toArray) j j j (λ_=>by kernel_rfl) (cn 0 a j (λi w a=>cp 0 a j j j j j (λw a=>?_))))))
 have a:=C.whole (U:=(bG.mk I.k I.c I.s [] 0 0 0 0 false).cs) a j
 refine nb 0 j (λaa w=>sub aa [(1,Z ax),(2,Z aJ),(3,Z i)]/\C o [] [bE i I.named,bE ax I,bE aJ c9] w) ?_ ?_
 .refine au 3 j (a.f1.cell I.gU) (aT 5 j j (λd=>?_) (λd=>?_))
  .refine au 2 j (a.f1.cell I.gC) (dD 1 a j j j j (λw a=>bX 0 j (⟨⟨j,j,j,ba⟩,?_⟩)))
   unfold bG.named
   first
    |(have h:=dX.1 d;rw [a6 h];exact a)
    |(have b:=fq.1 d;have h:=dX.1 f;rw [aF b,a6 h];exact a)
    |(have b:=fq.1 d;have e:=fq.1 f;have h:=dX.1 g;rw [aF b,aF e,a6 h];exact a)
    |(have b:=fq.1 d;have e:=fq.1 f;have h:=fq.1 g;rw [aF b,aF e,aF h];exact a)
  refine aT 4 j j (λf=>?_) (λf=>?_)
  .have a:=a.drew
   refine bz 0 j (λw=>∃x,C o [] [R i x 85,bE ax I,bE aJ c9] w) ⟨_,a⟩ (af 0 1 j (bT 1 j (λw⟨_,a⟩=>C.cell (C.f1 a) I.fA) (af 2 1 j (bT 3 j (λw⟨_,a⟩=>C.cell (C.f1 a) I.ge) (af 4 1 j (bT 5 j (λw⟨_,a⟩=>C.cell (C.f1 a) I.eV) (af 6 1 j (bT 7 j (λw⟨_,a⟩=>C.cell (C.f1 a) I.dw) (af 8 1 j (aW 9 j (cC a j j j j bR (λw a=>an ⟨⟨_,a⟩,?_⟩))))))))))))
   refine af 10 1 j (aW 11 j (cC a j j j j bR (λw a=>an ⟨⟨_,a⟩,?_⟩)))
   refine af 12 1 j (aW 13 j (cC a j j j j bR (λw a=>an ⟨⟨_,a⟩,?_⟩)))
   refine af 14 1 j (aW 15 j (cC a j j j j bR (λw a=>an ⟨⟨_,a⟩,?_⟩)))
   refine bO (bX 0 j (⟨⟨j,j,j,ba⟩,?_⟩))
   unfold bG.named
   first
    |(have h:=dX.1 d;rw [a6 h];exact a)
    |(have b:=fq.1 d;have h:=dX.1 f;rw [aF b,a6 h];exact a)
    |(have b:=fq.1 d;have e:=fq.1 f;have h:=dX.1 g;rw [aF b,aF e,a6 h];exact a)
    |(have b:=fq.1 d;have e:=fq.1 f;have h:=fq.1 g;rw [aF b,aF e,aF h];exact a)
  refine aT 4 j j (λg=>?_) (λg=>?_)
  have a:=a.drew
  refine bz 0 j (λw=>∃x,C o [] [R i x 85,bE ax I,bE aJ c9] w) ⟨_,a⟩ (af 0 1 j (bT 1 j (λw⟨_,a⟩=>C.cell (C.f1 a) I.fA) (af 2 1 j (bT 3 j (λw⟨_,a⟩=>C.cell (C.f1 a) I.ge) (af 4 1 j (bT 5 j (λw⟨_,a⟩=>C.cell (C.f1 a) I.eV) (af 6 1 j (bT 7 j (λw⟨_,a⟩=>C.cell (C.f1 a) I.eP) (af 8 1 j (aW 9 j (cC a j j j j bR (λw a=>an ⟨⟨_,a⟩,?_⟩))))))))))))
  refine af 10 1 j (aW 11 j (cC a j j j j bR (λw a=>an ⟨⟨_,a⟩,?_⟩)))
  refine af 12 1 j (aW 13 j (cC a j j j j bR (λw a=>an ⟨⟨_,a⟩,?_⟩)))
  refine af 14 1 j (aW 15 j (cC a j j j j bR (λw a=>an ⟨⟨_,a⟩,?_⟩)))
  refine bO (bX 0 j ?_)
  rotate_left
  refine bX 1 j ?_
  rotate_left
  all_goals
   refine⟨⟨j,j,j,ba⟩,?_⟩
   unfold bG.named
   first
    |(have h:=dX.1 d;rw [a6 h];exact a)
    |(have b:=fq.1 d;have h:=dX.1 f;rw [aF b,a6 h];exact a)
    |(have b:=fq.1 d;have e:=fq.1 f;have h:=dX.1 g;rw [aF b,aF e,a6 h];exact a)
    |(have b:=fq.1 d;have e:=fq.1 f;have h:=fq.1 g;rw [aF b,aF e,aF h];exact a)
 rintro aa w ⟨aM,a⟩
 refine mJ [(1,Z ax),(2,Z aJ),(3,Z i)] aM (bS 2 (U:=I.named.cs) j j j a.bN (cp 0 a.f2 j j j j j (λw a=>?_)))
 have a:=C.whole (U:=I.named.cs) a j
 refine bJ 0 j ⟨_,hb results129 j j j (a.bN),?_⟩
 exact⟨j,a.bare⟩
theorem ym{o:World}{I:bG}:Calls prog 69 #[.agg I.cs.toArray] o (aS λr w=>r= .bool (gO I)/\C o [] [] w):=by
 have d:Own [] o:=C.start o
 refine a1 [.agg I.cs.toArray] func69 ntmps69 results69 (bP 2 d j j (λax w d=>au 4 j (d.cell I.gC) (n6 j j j j (b2 6 (.bool (decide (I.eh=[]))) j (aL Value.bool (vO I.eh)) (nb 1 j (λaa w=>sub aa [(1,Z ax),(3,.bool I.mj)]/\C o [] [bE ax I] w) ?_ ?_)))))
 .refine au 3 j (d.cell I.gU) (aT 1 j j (λz=>?_) (λz=>?_))
  refine au 2 j (d.cell I.gC) (wq j j j j (vO I.eh) (ar 1 j (c7 13 j (λg=>?_) (λg=>?_))))
  .refine au 1 j (d.cell I.gC) (mG j j j j (ar 3 j (c7 19 j (λi=>?_) (λi=>?_))))
   refine au 1 j (d.cell I.gC) ?_
   have A:I.eh≠[]:=by simpa using g
   have hle:I.eh.length<=8:=by have:=br i;omega
   have f:=Ax (o:=w) A (by omega)
   refine bp 0 f j (λw ad=>?_)
   have d:=d.aN ad
   refine n6 j j j j (b2 23 (.bool (I.eh.all gj)) j (aL Value.bool ((vO _).trans (sV I.eh))) (bX 2 j ?_))
   rotate_left
   refine bX 6 j ?_
   rotate_left
   all_goals
    refine⟨⟨j,aL (λb=>some (Value.bool b)) ?_,ba⟩,d⟩
    unfold bG.mj
    simp_all
    all_goals (intro h;omega)
  refine ar 6 j (b2 19 (.bool false) j (aL Value.bool (j)) ?_)
  refine bX 6 j ?_
  rotate_left
  refine bX 1 j ?_
  rotate_left
  all_goals
   refine⟨⟨j,aL (λb=>some (Value.bool b)) ?_,ba⟩,d⟩
   unfold bG.mj
   simp_all
   all_goals (intro h;omega)
 rintro aa w ⟨aM,d⟩
 refine mJ [(1,Z ax),(3,.bool I.mj)] aM ?_
 have d:=d.drew
 refine bz 1 j (λw=>∃ae,C o [] ([bE ax I]++ae) w) ⟨_,d⟩ (af 0 1 j (bT 1 j (λw⟨_,d⟩=>C.cell d I.gU) (aW 2 j ?_)))
 have f:=iV (o:=w.drew) (n:=I.k) (a:=1) (b:=4)
 refine bF j j j f (λw ad=>?_)
 have d:=d.aN ad
 refine an ⟨⟨_,d⟩,?_⟩
 refine af 3 1 j (ef 28 j (λl=>?_) (λl=>?_))
 .refine af 4 1 j (bT 5 j (λw⟨_,d⟩=>C.cell d I.aZ) (aW 6 j ?_))
  have f:=iV (o:=w) (n:=I.c) (a:=0) (b:=15)
  refine bF j j j f (λw ad=>?_)
  have d:=d.aN ad
  refine an ⟨⟨_,d⟩,?_⟩
  refine af 7 2 j (ef 33 j (λm=>?_) (λm=>?_))
  refine af 9 1 j (bT 10 j (λw⟨_,d⟩=>C.cell d I.dn) (aW 11 j ?_))
  have f:=iV (o:=w) (n:=I.s) (a:=0) (b:=1048576)
  refine bF j j j f (λw ad=>?_)
  have d:=d.aN ad
  refine an ⟨⟨_,d⟩,?_⟩
  refine af 12 2 j (ef 38 j (λu=>?_) (λu=>?_))
  .refine af 14 3 j (ef 41 j (λv=>?_) (λv=>?_))
   refine af 17 1 j (bT 18 j (λw⟨_,d⟩=>C.cell d I.fA) (af 19 1 j (bT 20 j (λw⟨_,d⟩=>C.cell d I.ge) (af 21 1 j (bT 22 j (λw⟨_,d⟩=>C.cell d I.eV) (aW 23 j ?_))))))
   have f:=yn (o:=w) (p:=I.p) (e:=I.e) (t:=I.t)
   refine bF j j j f (λw ad=>?_)
   have d:=d.aN ad
   refine an ⟨⟨_,d⟩,?_⟩
   refine af 24 2 j (ef 50 j (λx=>?_) (λx=>?_))
   .refine af 26 1 j (bT 27 j (λw⟨_,d⟩=>C.cell d I.dw) (aW 28 j ?_))
    have f:=iV (o:=w) (n:=I.q) (a:=0) (b:=3)
    refine bF j j j f (λw ad=>?_)
    have d:=d.aN ad
    refine an ⟨⟨_,d⟩,?_⟩
    refine af 29 2 j (ef 55 j (λy=>?_) (λy=>?_))
    refine aV 31 j (λw⟨_,d⟩=>dc (U:=I.cs) j j j (C.bN d)) (aV 33 j (λw⟨_,d⟩=>dc (U:=I.cs) j j j (C.bN d)) (aW 32 j ?_))
    have f:=Ft (o:=w) (I:=I)
    refine bF j j j f (λw ad=>?_)
    have d:=d.aN ad
    refine an ⟨⟨_,d⟩,?_⟩
    refine aV 34 j (λw⟨_,d⟩=>q2 j j (by kernel_rfl) (λw=>DG _ _ w)) (af 35 2 j ?_)
    rotate_left
    refine fz 6 [31,33,32,34,35,36] j ?_
    rotate_left
    all_goals
     refine bO (ao 0 j j (⟨aL Value.bool ?_,d.bare⟩))
     rw [<-sr]
     unfold lJ
     simp_all
   refine fz 11 [26,27,28,29,30,31,33,32,34,35,36] j ?_
   rotate_left
   refine fz 20 [17,18,19,20,21,22,23,24,25,26,27,28,29,30,31,33,32,34,35,36] j ?_
   rotate_left
   all_goals
    refine bO (ao 0 j j (⟨aL Value.bool ?_,d.bare⟩))
    rw [<-sr]
    unfold lJ
    simp_all
  refine fz 23 [14,15,16,17,18,19,20,21,22,23,24,25,26,27,28,29,30,31,33,32,34,35,36] j ?_
  rotate_left
  refine fz 28 [9,10,11,12,13,14,15,16,17,18,19,20,21,22,23,24,25,26,27,28,29,30,31,33,32,34,35,36] j ?_
  rotate_left
  all_goals
   refine bO (ao 0 j j (⟨aL Value.bool ?_,d.bare⟩))
   rw [<-sr]
   unfold lJ
   simp_all
 refine fz 33 [4,5,6,7,8,9,10,11,12,13,14,15,16,17,18,19,20,21,22,23,24,25,26,27,28,29,30,31,33,32,34,35,36] j (bO (ao 0 j j (⟨aL Value.bool ?_,d.bare⟩)))
 rw [<-sr]
 unfold lJ
 simp_all
def m2(b:Bool):Int:=if b then 1 else 0
def jk(I:bG):List UInt8:=et [2,I.k,I.c,I.s]++hs I.eh++et [I.p,I.e,I.t,I.q,m2 I.dQ]
theorem F2{I:bG}(h:gO I=true):I.eh.length<=8:=by
 unfold gO at h
 simp only [d8] at h
 obtain⟨_,h⟩:=h
 split at h
 .simp only [d8,lb,gL] at h
  omega
 .split at h
  .simp only [d8,gL] at h
   rw [h.1.1.1];decide
  .split at h
   .simp only [d8,gL] at h
    rw [h.1.1.1];decide
   .split at h
    .simp only [d8,gL] at h
     rw [h.1.1];decide
    .cases h
theorem FX{I:bG}(h:I.eh.length<=100):(jk I).length<=200:=by
 have a:=gq [2,I.k,I.c,I.s]
 have b:=gq [I.p,I.e,I.t,I.q,m2 I.dQ]
 have d:=jB I.eh (by omega)
 simp only [ep,ga] at a b
 unfold jk
 simp only [ca]
 omega
theorem ut{o:World}{I:bG}:Calls prog 37 #[.agg I.cs.toArray] o (aS λr w=>∃v G,r= .tuple #[v,.int .i64 (if gO I then 0 else 1)]/\dN v (if gO I then jk I else []) G/\C o [] [G] w):=by
 have a:Own [] o:=C.start o
 refine a1 [.agg I.cs.toArray] func37 ntmps37 results37 ?_
 refine bP 2 a j j (λax w a=>?_)
 refine bS 5 (U:=I.cs) j j j a.bN ?_
 have d:=ym (o:=w) (I:=I)
 refine bp 0 d j (λw ad=>?_)
 have a:=a.aN ad
 refine aT 1 j j (λeP=>?_) (λeP=>?_)
 .refine ao 4 j j ?_
  have hm:gO I=false:=by simpa using eP
  rw [hm]
  exact⟨_,[],j,Row.nil _ _,a.bare.empty⟩
 have hm:gO I=true:=by simpa using eP
 have M:=F2 hm
 have D:=gq [2,I.k,I.c,I.s]
 have E:=gq [I.p,I.e,I.t,I.q,m2 I.dQ]
 have L:=jB I.eh (by omega)
 simp only [ep,ga] at D E
 refine nb 4 j (λaa w=>sub aa [(1,Z ax),(4,.int .i64 (m2 I.dQ))]/\C o [] [bE ax I] w) ?_ ?_
 .refine au 3 j (a.cell I.eP) ?_
  refine aT 0 j j (λl=>?_) (λl=>?_)
  refine bX 2 j ?_
  rotate_left
  refine bX 1 j ?_
  rotate_left
  all_goals
   refine⟨⟨j,aL (λb=>some (Value.int .i64 b)) ?_,ba⟩,a⟩
   unfold m2
   first
    |rw [a6 l]
    |rw [aF (by rw [l];decide)]
 rintro aa w ⟨aM,a⟩
 refine mJ [(1,Z ax),(4,.int .i64 (m2 I.dQ))] aM ?_
 refine cn 2 a j (λi w a=>?_)
 have a:C o [] [eZ i (.slice none 0 0),bE ax I] w:=a
 have a:=a.f1
 refine au 3 j (a.cell I.gU) ?_
 refine au 1 j (a.cell I.aZ) ?_
 refine au 1 j (a.cell I.dn) ?_
 refine fe a j j j j j j bR (λH w a=>?_)
 have aP:=a.bN
 have g:=a.iS (off:=0) (sp:=none) (U:=[2,I.k,I.c,I.s].map ab)
 have a:=a.f2.empty.f1
 have d:=ld (aD:=[]) (dB:=[2,I.k,I.c,I.s]) (c:=4) a.cE (Row.nil _ _) aP (g.kR (by simp) (λb z=>fB (fs:=[eZ i (.slice none 0 0)]) (by simp) b (by simpa [av] using z))) (by simp)
 refine bp 0 d j (λw⟨v1,h,f,ad⟩=>?_)
 have a:=(a.cD ad).f2.drop
 rw [kB] at f
 refine au 3 j (a.f2.cell I.gC) ?_
 refine Bo a j j j (λm K u w B a=>?_)
 refine fe a j j j j j j bR (λn w a=>?_)
 have F:=a.f1.i3 B
 have y:=a.f1.iS (off:=0) (sp:=none) (U:=aE I.eh)
 have aP:=a.bN
 have g:=a.iS (off:=0) (sp:=none) (U:=[.slice (some ⟨m,0,none⟩) I.eh.length u])
 have a:=a.f2.f3.f1
 have A:kV w (some ⟨n,0,none⟩) [I.eh] (av [eZ i v1,h]):=kV.one aP j (g.sub (fB (by simp))) F (y.sub (fB (by simp)))
 have d:=uc (c:=1) a.cE f A (by simp only [i6,jO,rk,List.sum_cons,List.sum_nil];omega)
 refine bp 0 d j (λw⟨v1,h,f,ad⟩=>?_)
 have a:=(a.cD ad).f2.drop.f2.drop
 rw [show jC [I.eh]=hs I.eh from by simp [jC]] at f
 have a:=a.f2
 refine au 3 j (a.cell I.fA) ?_
 refine au 1 j (a.cell I.ge) ?_
 refine au 1 j (a.cell I.eV) ?_
 refine au 1 j (a.cell I.dw) ?_
 have a:=a.f2.f2
 refine ar 1 j (fe a j j j j j j bR (λJ w a=>?_))
 have aP:=a.bN
 have g:=a.iS (off:=0) (sp:=none) (U:=[I.p,I.e,I.t,I.q,m2 I.dQ].map ab)
 have a:=a.f1.f2.f1
 have d:=ld (aD:=et [2,I.k,I.c,I.s]++hs I.eh) (dB:=[I.p,I.e,I.t,I.q,m2 I.dQ]) (c:=5) a.cE f aP (g.kR (by simp) (fB (by simp))) (by simp only [ca,List.length_cons,List.length_nil];omega)
 refine bp 0 d j (λw⟨v1,h,f,ad⟩=>?_)
 have a:=(a.cD ad).f2.drop
 have d:=qw a.cE f (by simp only [ca];omega)
 refine bm 2 d j (λr w⟨G,x,ad⟩=>?_)
 have a:=(a.cD ad).h3
 refine ao 2 j j ?_
 rw [hm]
 exact⟨_,G,j,x,a⟩
theorem zS(s:eb)(a:s.left.length<=1000000000):(d9 s).2.left.length<=1000000000:=by
 have key:∀(l:List UInt8)(i u:Nat)(x:Nat×List UInt8),lE i u l=some x->x.2.length<=l.length:=by
  intro l
  induction l with
  |nil=>intro i u x h;simp [lE] at h
  |cons c r d=>
   intro i u x h
   rw [lF] at h
   split at h
   .cases h
   .split at h
    .split at h
     .cases h
     .cases h;simp
    .have:=d _ _ _ h;simp only [ep];omega
 cases s with
 |none=>exact a
 |some l=>
  unfold d9
  dsimp only
  cases b:dec l with
  |none=>simp [eb.left]
  |some x=>
   obtain⟨u,r⟩:=x
   have:=key l 0 0 (u,r) b
   dsimp only at this
   simp only [eb.left,l1] at a⊢
   omega
theorem qC{o:World}{r:Nat}{v0:Value}{cT:Bool}{G:List Chunk}{s:eb}(a:Own [ha r v0 cT,G] o)(f:hI v0 cT s G)(d:s.left.length<=1000000000):
 Calls prog 193 #[Z r] o (aS λx w=>∃v b c,dN x (lh s).1 c/\hI v b (lh s).2 G/\C o (av [ha r v0 cT,G]) [c,ha r v b,G] w):=by
 refine a1 [Z r] func193 ntmps193 results193 (bp 7 (eC a.cE f d) j (λw⟨v,b,g,ad⟩=>?_))
 have a:=a.cD ad
 refine bm 0 (GP a.cE g (zS s d)) j (λx w⟨v2,aJ,c,e,h,ad⟩=>?_)
 have a:=a.cD ad
 refine ao 1 j j ?_
 exact⟨v2,aJ,c,e,h,a⟩
theorem GO(s:eb)(n:Int)(a:s.left.length<=1000000000):(iI s n).2.left.length<=1000000000/\(iI s n).1.length<=1000000000:=by
 cases s with
 |none=>exact⟨by simp [iI,eb.left],by simp [iI]⟩
 |some l=>
  have a:l.length<=1000000000:=a
  unfold iI
  dsimp only
  split
  .exact⟨by simp [eb.left],by simp⟩
  .refine⟨?_,?_⟩
   .simp only [eb.left,l1,iP];omega
   .simp only [hi];omega
theorem Gz(s:eb)(a:s.left.length<=1000000000):(lh s).2.left.length<=1000000000/\(lh s).1.length<=1000000000:=GO _ _ (zS s a)
theorem el{o w:World}{F:List Nat}{ae:List (List Chunk)}{A:Option Addr}{n c:Nat}{aD:List UInt8}{G:List Chunk}(a:dN (.slice A n c) aD G)(h:C o F (G::ae) w):Rd w A (aE aD):=by
 obtain⟨_,_,b,_,_,aP,_⟩:=a.rd h
 cases b
 exact aP
def fC(s:eb):eb:=(lh (e3 s 3)).2
def h6(s:eb):bG:=⟨((d9 s).1:Nat),((d9 (e3 s 1)).1:Nat),((d9 (e3 s 2)).1:Nat),(lh (e3 s 3)).1,((d9 (fC s)).1:Nat),((d9 (e3 (fC s) 1)).1:Nat),((d9 (e3 (fC s) 2)).1:Nat),((d9 (e3 (fC s) 3)).1:Nat),false⟩
def mm(s:eb):Nat:=(d9 (e3 (fC s) 4)).1
def mn(s:eb):bG:={h6 s with dQ:=((mm s:Nat):Int)==1}
def y6(s:eb):eb:=e3 (fC s) 5
def j0(s:eb):Bool:=decide (y6 s=some [])&&(decide (mm s<=1)&&gO (mn s))
theorem Cx(aD:List UInt8)(k:Int)(a:aD.length<=1000000000):(b3 aD k).left.length<=1000000000:=by
 unfold b3
 split
 .exact vI (some aD) a
 .simp [eb.left]
theorem F5(s:eb)(a:s.left.length<=1000000000):(fC s).left.length<=1000000000:=(Gz _ (eS s a 3)).1
theorem Di{o:World}{A:Option Addr}{aD:List UInt8}{c:Nat}(u:Rd o A (aE aD))(t:aD.length<=1000000000):
 Calls prog 139 #[.slice A aD.length c] o (aS λx w=>x= .tuple #[.agg (if j0 (b3 aD 2) then mn (b3 aD 2) else c9).cs.toArray,.int .i64 (if j0 (b3 aD 2) then 0 else 2)]/\C o [] [] w):=by
 have a:Own [] o:=C.start o
 have l:=Cx aD 2 t
 have i:=F5 (b3 aD 2) l
 refine e7 [.slice A aD.length c] (fn:=f139) func139 ntmps139 ?_
 refine cn 2 a j (λaJ w a=>?_)
 have f:=w5 (c:=c) (k:=2) (a.rd u (bU.of_nil _ _)) t
 refine bm 4 f j (λx w⟨r,v,b,G,y,e,ad⟩=>?_)
 subst y
 have a:=a.aN ad
 refine nb 1 j (λaa w=>∃v b m,sub aa [(2,Z aJ),(3,.int .i64 0),(4,Z r),(5,Z m)]/\hI v b (e3 (fC (b3 aD 2)) 4) G/\C o [] [ha r v b,G,bE m (h6 (b3 aD 2)),bE aJ c9] w) ?_ ?_
 .skip
  refine mc 0 j (λw=>∃ae,C o [] ae w) ?_
  have a:=a.drew
  refine fM 8 [0,2,4,6,9,11,13,15] j ⟨_,a⟩ ?_
  refine lo 1 18 j j (by kernel_rfl) ?_ ?_
  .skip
   have f:=eC a.cE e (l)
   refine bF j j j f (λw⟨v,b,e,ad⟩=>?_)
   have a:=a.cD ad
   refine an ⟨⟨_,a⟩,?_⟩
   refine lo 3 18 j j (by kernel_rfl) ?_ ?_
   .skip
    have f:=eC a.cE e (eS (b3 aD 2) l 1)
    refine bF j j j f (λw⟨v,b,e,ad⟩=>?_)
    have a:=a.cD ad
    refine an ⟨⟨_,a⟩,?_⟩
    refine lo 5 18 j j (by kernel_rfl) ?_ ?_
    .skip
     have f:=eC a.cE e (eS (b3 aD 2) l 2)
     refine bF j j j f (λw⟨v,b,e,ad⟩=>?_)
     have a:=a.cD ad
     refine an ⟨⟨_,a⟩,?_⟩
     refine lo 7 18 j j (by kernel_rfl) ?_ ?_
     .skip
      have f:=qC a.cE e (eS (b3 aD 2) l 3)
      refine cN j j j f (λx w⟨v,b,bW,g,e,ad⟩=>?_)
      have a:=(a.cD ad).f1.f2.f1
      obtain⟨n,dw,rfl,_⟩:=g.form
      have d:=el g a.f2
      refine an ⟨⟨_,a⟩,?_⟩
      refine pq (λw=>(λw=>∃ae,C o [] ae w) w/\Rd w n (aE (lh (e3 (b3 aD 2) 3)).1)) (λw h=>h.1) ?_
      refine eI 8 j ⟨⟨_,a⟩,d⟩ (λw hw=>mD j hw.2) ?_
      refine lo 10 18 j j (by kernel_rfl) ?_ ?_
      .skip
       have f:=eC a.cE e (i)
       refine bF j j j f (λw⟨v,b,e,ad⟩=>?_)
       have a:=a.cD ad
       have d:=el g a.f2
       refine an ⟨⟨⟨_,a⟩,d⟩,?_⟩
       refine lo 12 18 j j (by kernel_rfl) ?_ ?_
       .skip
        have f:=eC a.cE e (eS (fC (b3 aD 2)) i 1)
        refine bF j j j f (λw⟨v,b,e,ad⟩=>?_)
        have a:=a.cD ad
        have d:=el g a.f2
        refine an ⟨⟨⟨_,a⟩,d⟩,?_⟩
        refine lo 14 18 j j (by kernel_rfl) ?_ ?_
        .skip
         have f:=eC a.cE e (eS (fC (b3 aD 2)) i 2)
         refine bF j j j f (λw⟨v,b,e,ad⟩=>?_)
         have a:=a.cD ad
         have d:=el g a.f2
         refine an ⟨⟨⟨_,a⟩,d⟩,?_⟩
         refine lo 16 18 j j (by kernel_rfl) ?_ ?_
         .skip
          have f:=eC a.cE e (eS (fC (b3 aD 2)) i 3)
          refine bF j j j f (λw⟨v,b,e,ad⟩=>?_)
          have a:=a.cD ad
          have d:=el g a.f2
          refine an ⟨⟨⟨_,a⟩,d⟩,?_⟩
          refine eI 17 j ⟨⟨_,a⟩,d⟩ (λw _=>e0 (c:=(h6 (b3 aD 2)).cs.toArray) j (λ_=>by kernel_rfl)) ?_
          refine dZ 18 j ?_
          refine en a j j (λm w a=>?_)
          have a:=a.f3.f3.f3
          have d:=el g a.f2
          refine an ⟨⟨⟨_,a⟩,d⟩,?_⟩
          refine dZ 19 j ?_
          refine c5 a.f3 j j j j j bR (λw a=>?_)
          have a:=(C.whole (U:=(h6 (b3 aD 2)).cs) a j).f3.f3.f3
          have d:=el g a.f2
          refine an ⟨⟨⟨_,a⟩,d⟩,?_⟩
          refine cX ?_
          refine bX 0 j ?_
          exact⟨_,_,_,⟨j,j,j,j,ba⟩,e,a.f2.drop⟩
         .skip
          refine en a j j (λm w a=>?_)
          have a:=a.f3.f3.f3
          have d:=el g a.f2
          refine an ⟨⟨⟨_,a⟩,d⟩,?_⟩
          refine dZ 16 j ?_
          have f:=eC a.cE e (eS (fC (b3 aD 2)) i 3)
          refine bF j j j f (λw⟨v,b,e,ad⟩=>?_)
          have a:=a.cD ad
          have d:=el g a.f2
          refine an ⟨⟨⟨_,a⟩,d⟩,?_⟩
          refine eI 17 j ⟨⟨_,a⟩,d⟩ (λw _=>e0 (c:=(h6 (b3 aD 2)).cs.toArray) j (λ_=>by kernel_rfl)) ?_
          refine dZ 19 j ?_
          refine c5 a.f3 j j j j j bR (λw a=>?_)
          have a:=(C.whole (U:=(h6 (b3 aD 2)).cs) a j).f3.f3.f3
          have d:=el g a.f2
          refine an ⟨⟨⟨_,a⟩,d⟩,?_⟩
          refine cX ?_
          refine bX 0 j ?_
          exact⟨_,_,_,⟨j,j,j,j,ba⟩,e,a.f2.drop⟩
        .skip
         refine en a j j (λm w a=>?_)
         have a:=a.f3.f3.f3
         have d:=el g a.f2
         refine an ⟨⟨⟨_,a⟩,d⟩,?_⟩
         refine dZ 14 j ?_
         have f:=eC a.cE e (eS (fC (b3 aD 2)) i 2)
         refine bF j j j f (λw⟨v,b,e,ad⟩=>?_)
         have a:=a.cD ad
         have d:=el g a.f2
         refine an ⟨⟨⟨_,a⟩,d⟩,?_⟩
         refine dZ 16 j ?_
         have f:=eC a.cE e (eS (fC (b3 aD 2)) i 3)
         refine bF j j j f (λw⟨v,b,e,ad⟩=>?_)
         have a:=a.cD ad
         have d:=el g a.f2
         refine an ⟨⟨⟨_,a⟩,d⟩,?_⟩
         refine eI 17 j ⟨⟨_,a⟩,d⟩ (λw _=>e0 (c:=(h6 (b3 aD 2)).cs.toArray) j (λ_=>by kernel_rfl)) ?_
         refine dZ 19 j ?_
         refine c5 a.f3 j j j j j bR (λw a=>?_)
         have a:=(C.whole (U:=(h6 (b3 aD 2)).cs) a j).f3.f3.f3
         have d:=el g a.f2
         refine an ⟨⟨⟨_,a⟩,d⟩,?_⟩
         refine cX ?_
         refine bX 0 j ?_
         exact⟨_,_,_,⟨j,j,j,j,ba⟩,e,a.f2.drop⟩
       .skip
        refine en a j j (λm w a=>?_)
        have a:=a.f3.f3.f3
        have d:=el g a.f2
        refine an ⟨⟨⟨_,a⟩,d⟩,?_⟩
        refine dZ 12 j ?_
        have f:=eC a.cE e (eS (fC (b3 aD 2)) i 1)
        refine bF j j j f (λw⟨v,b,e,ad⟩=>?_)
        have a:=a.cD ad
        have d:=el g a.f2
        refine an ⟨⟨⟨_,a⟩,d⟩,?_⟩
        refine dZ 14 j ?_
        have f:=eC a.cE e (eS (fC (b3 aD 2)) i 2)
        refine bF j j j f (λw⟨v,b,e,ad⟩=>?_)
        have a:=a.cD ad
        have d:=el g a.f2
        refine an ⟨⟨⟨_,a⟩,d⟩,?_⟩
        refine dZ 16 j ?_
        have f:=eC a.cE e (eS (fC (b3 aD 2)) i 3)
        refine bF j j j f (λw⟨v,b,e,ad⟩=>?_)
        have a:=a.cD ad
        have d:=el g a.f2
        refine an ⟨⟨⟨_,a⟩,d⟩,?_⟩
        refine eI 17 j ⟨⟨_,a⟩,d⟩ (λw _=>e0 (c:=(h6 (b3 aD 2)).cs.toArray) j (λ_=>by kernel_rfl)) ?_
        refine dZ 19 j ?_
        refine c5 a.f3 j j j j j bR (λw a=>?_)
        have a:=(C.whole (U:=(h6 (b3 aD 2)).cs) a j).f3.f3.f3
        have d:=el g a.f2
        refine an ⟨⟨⟨_,a⟩,d⟩,?_⟩
        refine cX ?_
        refine bX 0 j ?_
        exact⟨_,_,_,⟨j,j,j,j,ba⟩,e,a.f2.drop⟩
      .skip
       refine en a j j (λm w a=>?_)
       have a:=a.f3.f3.f3
       have d:=el g a.f2
       refine an ⟨⟨⟨_,a⟩,d⟩,?_⟩
       refine dZ 10 j ?_
       have f:=eC a.cE e (i)
       refine bF j j j f (λw⟨v,b,e,ad⟩=>?_)
       have a:=a.cD ad
       have d:=el g a.f2
       refine an ⟨⟨⟨_,a⟩,d⟩,?_⟩
       refine dZ 12 j ?_
       have f:=eC a.cE e (eS (fC (b3 aD 2)) i 1)
       refine bF j j j f (λw⟨v,b,e,ad⟩=>?_)
       have a:=a.cD ad
       have d:=el g a.f2
       refine an ⟨⟨⟨_,a⟩,d⟩,?_⟩
       refine dZ 14 j ?_
       have f:=eC a.cE e (eS (fC (b3 aD 2)) i 2)
       refine bF j j j f (λw⟨v,b,e,ad⟩=>?_)
       have a:=a.cD ad
       have d:=el g a.f2
       refine an ⟨⟨⟨_,a⟩,d⟩,?_⟩
       refine dZ 16 j ?_
       have f:=eC a.cE e (eS (fC (b3 aD 2)) i 3)
       refine bF j j j f (λw⟨v,b,e,ad⟩=>?_)
       have a:=a.cD ad
       have d:=el g a.f2
       refine an ⟨⟨⟨_,a⟩,d⟩,?_⟩
       refine eI 17 j ⟨⟨_,a⟩,d⟩ (λw _=>e0 (c:=(h6 (b3 aD 2)).cs.toArray) j (λ_=>by kernel_rfl)) ?_
       refine dZ 19 j ?_
       refine c5 a.f3 j j j j j bR (λw a=>?_)
       have a:=(C.whole (U:=(h6 (b3 aD 2)).cs) a j).f3.f3.f3
       have d:=el g a.f2
       refine an ⟨⟨⟨_,a⟩,d⟩,?_⟩
       refine cX ?_
       refine bX 0 j ?_
       exact⟨_,_,_,⟨j,j,j,j,ba⟩,e,a.f2.drop⟩
     .skip
      refine en a j j (λm w a=>?_)
      have a:=a.f1.f2.f1
      refine an ⟨⟨_,a⟩,?_⟩
      refine dZ 7 j ?_
      have f:=qC a.cE e (eS (b3 aD 2) l 3)
      refine cN j j j f (λx w⟨v,b,bW,g,e,ad⟩=>?_)
      have a:=(a.cD ad).f1.f2.f1
      obtain⟨n,dw,rfl,_⟩:=g.form
      have d:=el g a.f2
      refine an ⟨⟨_,a⟩,?_⟩
      refine pq (λw=>(λw=>∃ae,C o [] ae w) w/\Rd w n (aE (lh (e3 (b3 aD 2) 3)).1)) (λw h=>h.1) ?_
      refine eI 8 j ⟨⟨_,a⟩,d⟩ (λw hw=>mD j hw.2) ?_
      refine dZ 10 j ?_
      have f:=eC a.cE e (i)
      refine bF j j j f (λw⟨v,b,e,ad⟩=>?_)
      have a:=a.cD ad
      have d:=el g a.f2
      refine an ⟨⟨⟨_,a⟩,d⟩,?_⟩
      refine dZ 12 j ?_
      have f:=eC a.cE e (eS (fC (b3 aD 2)) i 1)
      refine bF j j j f (λw⟨v,b,e,ad⟩=>?_)
      have a:=a.cD ad
      have d:=el g a.f2
      refine an ⟨⟨⟨_,a⟩,d⟩,?_⟩
      refine dZ 14 j ?_
      have f:=eC a.cE e (eS (fC (b3 aD 2)) i 2)
      refine bF j j j f (λw⟨v,b,e,ad⟩=>?_)
      have a:=a.cD ad
      have d:=el g a.f2
      refine an ⟨⟨⟨_,a⟩,d⟩,?_⟩
      refine dZ 16 j ?_
      have f:=eC a.cE e (eS (fC (b3 aD 2)) i 3)
      refine bF j j j f (λw⟨v,b,e,ad⟩=>?_)
      have a:=a.cD ad
      have d:=el g a.f2
      refine an ⟨⟨⟨_,a⟩,d⟩,?_⟩
      refine eI 17 j ⟨⟨_,a⟩,d⟩ (λw _=>e0 (c:=(h6 (b3 aD 2)).cs.toArray) j (λ_=>by kernel_rfl)) ?_
      refine dZ 19 j ?_
      refine c5 a.f3 j j j j j bR (λw a=>?_)
      have a:=(C.whole (U:=(h6 (b3 aD 2)).cs) a j).f3.f3.f3
      have d:=el g a.f2
      refine an ⟨⟨⟨_,a⟩,d⟩,?_⟩
      refine cX ?_
      refine bX 0 j ?_
      exact⟨_,_,_,⟨j,j,j,j,ba⟩,e,a.f2.drop⟩
    .skip
     refine en a j j (λm w a=>?_)
     have a:=a.f1.f2.f1
     refine an ⟨⟨_,a⟩,?_⟩
     refine dZ 5 j ?_
     have f:=eC a.cE e (eS (b3 aD 2) l 2)
     refine bF j j j f (λw⟨v,b,e,ad⟩=>?_)
     have a:=a.cD ad
     refine an ⟨⟨_,a⟩,?_⟩
     refine dZ 7 j ?_
     have f:=qC a.cE e (eS (b3 aD 2) l 3)
     refine cN j j j f (λx w⟨v,b,bW,g,e,ad⟩=>?_)
     have a:=(a.cD ad).f1.f2.f1
     obtain⟨n,dw,rfl,_⟩:=g.form
     have d:=el g a.f2
     refine an ⟨⟨_,a⟩,?_⟩
     refine pq (λw=>(λw=>∃ae,C o [] ae w) w/\Rd w n (aE (lh (e3 (b3 aD 2) 3)).1)) (λw h=>h.1) ?_
     refine eI 8 j ⟨⟨_,a⟩,d⟩ (λw hw=>mD j hw.2) ?_
     refine dZ 10 j ?_
     have f:=eC a.cE e (i)
     refine bF j j j f (λw⟨v,b,e,ad⟩=>?_)
     have a:=a.cD ad
     have d:=el g a.f2
     refine an ⟨⟨⟨_,a⟩,d⟩,?_⟩
     refine dZ 12 j ?_
     have f:=eC a.cE e (eS (fC (b3 aD 2)) i 1)
     refine bF j j j f (λw⟨v,b,e,ad⟩=>?_)
     have a:=a.cD ad
     have d:=el g a.f2
     refine an ⟨⟨⟨_,a⟩,d⟩,?_⟩
     refine dZ 14 j ?_
     have f:=eC a.cE e (eS (fC (b3 aD 2)) i 2)
     refine bF j j j f (λw⟨v,b,e,ad⟩=>?_)
     have a:=a.cD ad
     have d:=el g a.f2
     refine an ⟨⟨⟨_,a⟩,d⟩,?_⟩
     refine dZ 16 j ?_
     have f:=eC a.cE e (eS (fC (b3 aD 2)) i 3)
     refine bF j j j f (λw⟨v,b,e,ad⟩=>?_)
     have a:=a.cD ad
     have d:=el g a.f2
     refine an ⟨⟨⟨_,a⟩,d⟩,?_⟩
     refine eI 17 j ⟨⟨_,a⟩,d⟩ (λw _=>e0 (c:=(h6 (b3 aD 2)).cs.toArray) j (λ_=>by kernel_rfl)) ?_
     refine dZ 19 j ?_
     refine c5 a.f3 j j j j j bR (λw a=>?_)
     have a:=(C.whole (U:=(h6 (b3 aD 2)).cs) a j).f3.f3.f3
     have d:=el g a.f2
     refine an ⟨⟨⟨_,a⟩,d⟩,?_⟩
     refine cX ?_
     refine bX 0 j ?_
     exact⟨_,_,_,⟨j,j,j,j,ba⟩,e,a.f2.drop⟩
   .skip
    refine en a j j (λm w a=>?_)
    have a:=a.f1.f2.f1
    refine an ⟨⟨_,a⟩,?_⟩
    refine dZ 3 j ?_
    have f:=eC a.cE e (eS (b3 aD 2) l 1)
    refine bF j j j f (λw⟨v,b,e,ad⟩=>?_)
    have a:=a.cD ad
    refine an ⟨⟨_,a⟩,?_⟩
    refine dZ 5 j ?_
    have f:=eC a.cE e (eS (b3 aD 2) l 2)
    refine bF j j j f (λw⟨v,b,e,ad⟩=>?_)
    have a:=a.cD ad
    refine an ⟨⟨_,a⟩,?_⟩
    refine dZ 7 j ?_
    have f:=qC a.cE e (eS (b3 aD 2) l 3)
    refine cN j j j f (λx w⟨v,b,bW,g,e,ad⟩=>?_)
    have a:=(a.cD ad).f1.f2.f1
    obtain⟨n,dw,rfl,_⟩:=g.form
    have d:=el g a.f2
    refine an ⟨⟨_,a⟩,?_⟩
    refine pq (λw=>(λw=>∃ae,C o [] ae w) w/\Rd w n (aE (lh (e3 (b3 aD 2) 3)).1)) (λw h=>h.1) ?_
    refine eI 8 j ⟨⟨_,a⟩,d⟩ (λw hw=>mD j hw.2) ?_
    refine dZ 10 j ?_
    have f:=eC a.cE e (i)
    refine bF j j j f (λw⟨v,b,e,ad⟩=>?_)
    have a:=a.cD ad
    have d:=el g a.f2
    refine an ⟨⟨⟨_,a⟩,d⟩,?_⟩
    refine dZ 12 j ?_
    have f:=eC a.cE e (eS (fC (b3 aD 2)) i 1)
    refine bF j j j f (λw⟨v,b,e,ad⟩=>?_)
    have a:=a.cD ad
    have d:=el g a.f2
    refine an ⟨⟨⟨_,a⟩,d⟩,?_⟩
    refine dZ 14 j ?_
    have f:=eC a.cE e (eS (fC (b3 aD 2)) i 2)
    refine bF j j j f (λw⟨v,b,e,ad⟩=>?_)
    have a:=a.cD ad
    have d:=el g a.f2
    refine an ⟨⟨⟨_,a⟩,d⟩,?_⟩
    refine dZ 16 j ?_
    have f:=eC a.cE e (eS (fC (b3 aD 2)) i 3)
    refine bF j j j f (λw⟨v,b,e,ad⟩=>?_)
    have a:=a.cD ad
    have d:=el g a.f2
    refine an ⟨⟨⟨_,a⟩,d⟩,?_⟩
    refine eI 17 j ⟨⟨_,a⟩,d⟩ (λw _=>e0 (c:=(h6 (b3 aD 2)).cs.toArray) j (λ_=>by kernel_rfl)) ?_
    refine dZ 19 j ?_
    refine c5 a.f3 j j j j j bR (λw a=>?_)
    have a:=(C.whole (U:=(h6 (b3 aD 2)).cs) a j).f3.f3.f3
    have d:=el g a.f2
    refine an ⟨⟨⟨_,a⟩,d⟩,?_⟩
    refine cX ?_
    refine bX 0 j ?_
    exact⟨_,_,_,⟨j,j,j,j,ba⟩,e,a.f2.drop⟩
  .skip
   refine en a j j (λm w a=>?_)
   have a:=a.f1.f2.f1
   refine an ⟨⟨_,a⟩,?_⟩
   refine dZ 1 j ?_
   have f:=eC a.cE e (l)
   refine bF j j j f (λw⟨v,b,e,ad⟩=>?_)
   have a:=a.cD ad
   refine an ⟨⟨_,a⟩,?_⟩
   refine dZ 3 j ?_
   have f:=eC a.cE e (eS (b3 aD 2) l 1)
   refine bF j j j f (λw⟨v,b,e,ad⟩=>?_)
   have a:=a.cD ad
   refine an ⟨⟨_,a⟩,?_⟩
   refine dZ 5 j ?_
   have f:=eC a.cE e (eS (b3 aD 2) l 2)
   refine bF j j j f (λw⟨v,b,e,ad⟩=>?_)
   have a:=a.cD ad
   refine an ⟨⟨_,a⟩,?_⟩
   refine dZ 7 j ?_
   have f:=qC a.cE e (eS (b3 aD 2) l 3)
   refine cN j j j f (λx w⟨v,b,bW,g,e,ad⟩=>?_)
   have a:=(a.cD ad).f1.f2.f1
   obtain⟨n,dw,rfl,_⟩:=g.form
   have d:=el g a.f2
   refine an ⟨⟨_,a⟩,?_⟩
   refine pq (λw=>(λw=>∃ae,C o [] ae w) w/\Rd w n (aE (lh (e3 (b3 aD 2) 3)).1)) (λw h=>h.1) ?_
   refine eI 8 j ⟨⟨_,a⟩,d⟩ (λw hw=>mD j hw.2) ?_
   refine dZ 10 j ?_
   have f:=eC a.cE e (i)
   refine bF j j j f (λw⟨v,b,e,ad⟩=>?_)
   have a:=a.cD ad
   have d:=el g a.f2
   refine an ⟨⟨⟨_,a⟩,d⟩,?_⟩
   refine dZ 12 j ?_
   have f:=eC a.cE e (eS (fC (b3 aD 2)) i 1)
   refine bF j j j f (λw⟨v,b,e,ad⟩=>?_)
   have a:=a.cD ad
   have d:=el g a.f2
   refine an ⟨⟨⟨_,a⟩,d⟩,?_⟩
   refine dZ 14 j ?_
   have f:=eC a.cE e (eS (fC (b3 aD 2)) i 2)
   refine bF j j j f (λw⟨v,b,e,ad⟩=>?_)
   have a:=a.cD ad
   have d:=el g a.f2
   refine an ⟨⟨⟨_,a⟩,d⟩,?_⟩
   refine dZ 16 j ?_
   have f:=eC a.cE e (eS (fC (b3 aD 2)) i 3)
   refine bF j j j f (λw⟨v,b,e,ad⟩=>?_)
   have a:=a.cD ad
   have d:=el g a.f2
   refine an ⟨⟨⟨_,a⟩,d⟩,?_⟩
   refine eI 17 j ⟨⟨_,a⟩,d⟩ (λw _=>e0 (c:=(h6 (b3 aD 2)).cs.toArray) j (λ_=>by kernel_rfl)) ?_
   refine dZ 19 j ?_
   refine c5 a.f3 j j j j j bR (λw a=>?_)
   have a:=(C.whole (U:=(h6 (b3 aD 2)).cs) a j).f3.f3.f3
   have d:=el g a.f2
   refine an ⟨⟨⟨_,a⟩,d⟩,?_⟩
   refine cX ?_
   refine bX 0 j ?_
   exact⟨_,_,_,⟨j,j,j,j,ba⟩,e,a.f2.drop⟩
 .skip
  rintro aa w ⟨v,b,m,aM,e,a⟩
  refine mJ [(2,Z aJ),(3,.int .i64 0),(4,Z r),(5,Z m)] aM ?_
  have f:=eC a.cE e (eS (fC (b3 aD 2)) i 4)
  refine bp 3 f j (λw⟨v,b,e,ad⟩=>?_)
  have a:=a.cD ad
  have e:hI v b (y6 (b3 aD 2)) G:=e
  refine dD 6 a.f2 j j j j (λw a=>?_)
  have a:C o [] [bE m (mn (b3 aD 2)),ha r v b,G,bE aJ c9] w:=a
  have a:=a.f1.f2.f1
  have f:=AL a.cE e
  refine bp 4 f j (λw ad=>?_)
  have a:=a.cD ad
  refine ar 2 j (c7 35 j (λeM=>?_) (λeM=>?_))
  .skip
   refine ar 4 j (b2 39 (.bool true) j (aL Value.bool (j)) ?_)
   refine ar 7 j (cO (c:=c9.cs.toArray) j j j (λ_=>by kernel_rfl) ?_)
   refine cp 0 a.f3 j j j j j (λw a=>?_)
   refine bJ 1 j ⟨_,dp results139 j j j j (a.bN),?_⟩
   have p:j0 (b3 aD 2)=false:=by
    unfold j0
    first
     |(have h:=s;rw [kc] at h;rw [h,nD,nD])
     |(have h:=br q;rw [ff (show¬mm (b3 aD 2)<=1 by unfold mm;omega),Bool.false_and,Bool.and_false])
     |(have h:=eM;rw [kc] at h;rw [h,oi])
   rw [p]
   exact⟨j,a.bare⟩
  .skip
   refine ar 4 j (c7 39 j (λq=>?_) (λq=>?_))
   .skip
    refine ar 7 j (cO (c:=c9.cs.toArray) j j j (λ_=>by kernel_rfl) ?_)
    refine cp 0 a.f3 j j j j j (λw a=>?_)
    refine bJ 1 j ⟨_,dp results139 j j j j (a.bN),?_⟩
    have p:j0 (b3 aD 2)=false:=by
     unfold j0
     first
      |(have h:=s;rw [kc] at h;rw [h,nD,nD])
      |(have h:=br q;rw [ff (show¬mm (b3 aD 2)<=1 by unfold mm;omega),Bool.false_and,Bool.and_false])
      |(have h:=eM;rw [kc] at h;rw [h,oi])
    rw [p]
    exact⟨j,a.bare⟩
   .skip
    refine bS 0 (U:=(mn (b3 aD 2)).cs) j j j a.f2.bN ?_
    have f:=ym (o:=w) (I:=mn (b3 aD 2))
    refine bp 0 f j (λw ad=>?_)
    have a:=a.aN ad
    refine aT 2 j j (λs=>?_) (λs=>?_)
    .skip
     refine ar 2 j (cO (c:=c9.cs.toArray) j j j (λ_=>by kernel_rfl) ?_)
     refine cp 0 a.f3 j j j j j (λw a=>?_)
     refine bJ 1 j ⟨_,dp results139 j j j j (a.bN),?_⟩
     have p:j0 (b3 aD 2)=false:=by
      unfold j0
      first
       |(have h:=s;rw [kc] at h;rw [h,nD,nD])
       |(have h:=br q;rw [ff (show¬mm (b3 aD 2)<=1 by unfold mm;omega),Bool.false_and,Bool.and_false])
       |(have h:=eM;rw [kc] at h;rw [h,oi])
     rw [p]
     exact⟨j,a.bare⟩
    .skip
     refine bS 3 (U:=(mn (b3 aD 2)).cs) j j j a.f2.bN ?_
     refine cp 0 a.f3 j j j j j (λw a=>?_)
     refine bJ 1 j ⟨_,dp results139 j j j j (a.bN),?_⟩
     have p:j0 (b3 aD 2)=true:=by
      unfold j0
      simp only [d8,gL]
      exact⟨by simpa using eM,by unfold mm;have:=of_decide_eq_false q;omega,by simpa using s⟩
     rw [p]
     exact⟨j,a.bare⟩
end Go.Proofs.YtdcbpdlhhkcjnaaGreatDoor.R
