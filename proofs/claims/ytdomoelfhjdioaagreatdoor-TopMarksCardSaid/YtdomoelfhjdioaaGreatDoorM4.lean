/- Part 4 of the proof. -/
import Derived.Test.YtdomoelfhjdioaaGreatDoorM3
set_option linter.unusedVariables false
set_option linter.unusedSimpArgs false
set_option linter.unusedSectionVars false
set_option maxRecDepth 20000
set_option maxHeartbeats 4000000
namespace Go.Proofs.YtdomoelfhjdioaaGreatDoor.R
open Go.Proofs.Tryz Go Go.RowKit Go.Proofs
theorem ID{o:World}{g:am}{ba:Nat}{s:aC}{c:kg}{L:List Chunk}(O:o.heap[ba]? =some (.cells (px g s c).toArray 224 (0,0)))(a3:nK c.log s.log L)(aQ:Holds o L){N:Nat}(bf:s.ok g N)(ai:g.at o)(aj:g.ok){m:aB}(hm:m.ok o)(aS:m.P.cR)(bu:m.s<(s.log.length:Int)):Calls prog 141 #[ab ba,.agg m.cs.toArray] o λr w=>∃be,cz r (s.told g m.P) be/\C o [] [be] w:=by
 have p:Own [] o:=C.start o;have ac:m.tag.length=32:=hm.tag;have bt:m.x.length<=200:=aS.x;have bs:m.l.length<=10:=aS.l;refine a2 func141 (bM 2 p j j (λA w p=>?_));have p:C o [] [bi A m] w:=p;have p:=p.drew;refine bw 3 j (λw=>∃ae,C o [] ([bi A m]++ae) w) ⟨_,p⟩ (af 0 1 j (a8 1 j a1 m.g1 (af 2 2 j (ef 10 j (λaq=>?_) (λaq=>?_)))));refine af 4 1 j (a8 5 j a1 m.g1 (af 6 3 j (ef 15 j (λau=>?_) (λau=>?_))))
 .refine fH 27 [9,10,11,12,13,14,15,16,17,18,19,20,21,22,23,24,25,26,27,28,29,31,32,30,33,34,35] j (bK (ao 4 j j ?_));have E:s.told g m.P=[]:=a6 (.inl ⟨by simpa using aq,by simpa using au⟩);rw [E];exact⟨[],cz.nil,p.bare.empty⟩
 refine af 9 1 j (a8 10 j a1 m.gI (af 11 3 j (ef 20 j (λV=>?_) (λV=>?_))))
 .refine fH 22 [14,15,16,17,18,19,20,21,22,23,24,25,26,27,28,29,31,32,30,33,34,35] j (bK (ao 4 j j ?_));have E:s.told g m.P=[]:=a6 (.inr (.inl (dj V)));rw [E];exact⟨[],cz.nil,p.bare.empty⟩
 refine af 14 1 j (a8 15 j a1 m.aX (af 16 3 j (bT 19 j (λw⟨_,p⟩=>aw (p.cg O) j) (af 20 3 j (ef 29 j (λS=>?_) (λS=>?_))))))
 .refine fH 13 [23,24,25,26,27,28,29,31,32,30,33,34,35] j (bK (ao 4 j j ?_));have E:s.told g m.P=[]:=a6 (.inr (.inr (.inl (dY.1 S))));rw [E];exact⟨[],cz.nil,p.bare.empty⟩
 refine af 23 3 j (bT 26 j (λw⟨_,p⟩=>aw (p.cg O) j) (af 27 1 j (a8 28 j a1 m.aX (aT 29 j (λw⟨_,p⟩=>c3 (U:=m.cs) j j (m.bW ac) (bp (C.ak p))) (af 31 1 j (aT 32 j (λw⟨_,p⟩=>c3 (U:=aG m.tag) j j (by rw [ds];exact ac) (m.v5 (C.ak p))) (aU 30 j ?_)))))));have H:=mg (hm.st p) (by omega) (by omega);refine cN j j j H (λr w⟨bn,Y,B⟩=>?_);have p:=p.aM B;have p:C o [] [bi A m,bn] w:=p.as
 have ay:m.body.length<=1000000:=by
  have av:=lo m.l hm.aE;have ax:=jH m.x (by omega);have X:=gg [4,m.k,m.f,m.s,m.v];simp only [ez,gk] at X;unfold aB.body;simp only [b4];omega
 obtain⟨ap,g2,rfl,_,_,aa,_⟩:=Y.read (p.holds (by simp));refine ar ⟨⟨_,p⟩,?_⟩;refine aU 33 j ?_;have H:=r0 (ai.st p (am.off.nil g)) aj aa ay ac (i:=m.f) (d:=g2);refine bF j j j H (λw B=>?_);have p:=p.aM B;have p:C o [] [bi A m,bn] w:=p.as;refine ar ⟨⟨_,p⟩,?_⟩;refine af 34 2 j (bK (bm 0 j j (λW=>?_) (λW=>?_)))
 .refine ao 3 j j ?_;have E:s.told g m.P=[]:=a6 (.inr (.inr (.inr (show g.check m.f m.body m.tag=false from by simpa using W))));rw [E];exact⟨[],cz.nil,p.bare.empty⟩
 have p:C o [] [bi A m] _:=p.as;refine mn 2 j (λw=>∃ae,C o [] ([bi A m]++ae) w) ?_;have p:=p.drew;have aF:¬(m.k≠2/\m.k≠4):=λh=>h.2 (by simpa using au)
 rotate_left
 refine af 4 6 j (a8 10 j a1 m.gI (af 11 3 j (ef 20 j (λV=>?_) (λV=>?_))))
 .refine fH 22 [14,15,16,17,18,19,20,21,22,23,24,25,26,27,28,29,31,32,30,33,34,35] j (bK (ao 4 j j ?_));have E:s.told g m.P=[]:=a6 (.inr (.inl (dj V)));rw [E];exact⟨[],cz.nil,p.bare.empty⟩
 refine af 14 1 j (a8 15 j a1 m.aX (af 16 3 j (bT 19 j (λw⟨_,p⟩=>aw (p.cg O) j) (af 20 3 j (ef 29 j (λS=>?_) (λS=>?_))))))
 .refine fH 13 [23,24,25,26,27,28,29,31,32,30,33,34,35] j (bK (ao 4 j j ?_));have E:s.told g m.P=[]:=a6 (.inr (.inr (.inl (dY.1 S))));rw [E];exact⟨[],cz.nil,p.bare.empty⟩
 refine af 23 3 j (bT 26 j (λw⟨_,p⟩=>aw (p.cg O) j) (af 27 1 j (a8 28 j a1 m.aX (aT 29 j (λw⟨_,p⟩=>c3 (U:=m.cs) j j (m.bW ac) (bp (C.ak p))) (af 31 1 j (aT 32 j (λw⟨_,p⟩=>c3 (U:=aG m.tag) j j (by rw [ds];exact ac) (m.v5 (C.ak p))) (aU 30 j ?_)))))));have H:=mg (hm.st p) (by omega) (by omega);refine cN j j j H (λr w⟨bn,Y,B⟩=>?_);have p:=p.aM B;have p:C o [] [bi A m,bn] w:=p.as
 have ay:m.body.length<=1000000:=by
  have av:=lo m.l hm.aE;have ax:=jH m.x (by omega);have X:=gg [4,m.k,m.f,m.s,m.v];simp only [ez,gk] at X;unfold aB.body;simp only [b4];omega
 obtain⟨ap,g2,rfl,_,_,aa,_⟩:=Y.read (p.holds (by simp));refine ar ⟨⟨_,p⟩,?_⟩;refine aU 33 j ?_;have H:=r0 (ai.st p (am.off.nil g)) aj aa ay ac (i:=m.f) (d:=g2);refine bF j j j H (λw B=>?_);have p:=p.aM B;have p:C o [] [bi A m,bn] w:=p.as;refine ar ⟨⟨_,p⟩,?_⟩;refine af 34 2 j (bK (bm 0 j j (λW=>?_) (λW=>?_)))
 .refine ao 3 j j ?_;have E:s.told g m.P=[]:=a6 (.inr (.inr (.inr (show g.check m.f m.body m.tag=false from by simpa using W))));rw [E];exact⟨[],cz.nil,p.bare.empty⟩
 have p:C o [] [bi A m] _:=p.as;refine mn 2 j (λw=>∃ae,C o [] ([bi A m]++ae) w) ?_;have p:=p.drew;have aF:¬(m.k≠2/\m.k≠4):=λh=>h.1 (by simpa using aq)
 rotate_left
 all_goals
  have bg:0<=m.s:=by have:=dN V;omega
  obtain⟨i,aD⟩:∃i,i=m.s.toNat:=⟨_,j⟩;have ad:i<s.log.length:=by omega
  obtain⟨bk,bj,es,rfl,a4,aP⟩:=a3;obtain⟨aZ,bl,a9,bq,br,aV,_⟩:=a4.read aQ.left;have bo:=aP.len;obtain⟨I,ce,K,F,aR,a7,_,aL,bb,al⟩:=aP.read aQ.right i ad;obtain⟨e,ah⟩:∃e,s.log[i]=e:=⟨_,j⟩;rw [ah] at aR a7 aL bb al;have u:=bf.od e (ah▸et ad);have bd:es[i]'(by omega)=(.slice I e.1.length ce,.slice K e.2.length F):=by have:=aR;rw [cf (by omega)] at this;exact hz this
  obtain⟨aN,a0⟩:∃aN,aZ=some aN:=by
   obtain⟨a,a5,_⟩:=aV (i*2+0) _ (h7 (f:=λe:Value×Value=>[e.1,e.2]) (J:=0) es (λ_ _=>rfl) i (by omega) (by decide) j);exact⟨a,a5⟩
  subst a0;refine fV 3 [0,1,2] j ⟨_,p⟩ (eM 3 j ⟨_,p⟩ (λw⟨_,p⟩=>hK j j (aw (p.cg O) (aH some a9))) ?_);refine fV 1 [4] j ⟨_,p⟩ (eM 5 j ⟨_,p⟩ (λw⟨_,p⟩=>hK j j (aw (C.ak p) m.gI)) (rn 48 (.int .i64 (i:Nat)) j (aH (Value.int .i64) (by rw [aD];exact(p5 bg).symm)) (eM 6 j ⟨_,p⟩ (λw _=>rl j j ad) (eM 7 j ⟨_,p⟩ (λw⟨_,p⟩=>c3 (U:=[.slice I e.1.length ce,.slice K e.2.length F]) j j j (by have h:=iY (n:=2) (f:=λe:Value×Value=>[e.1,e.2]) (p.rd aV (bX.of_nil _ _)) (λ_ _=>rfl) i (by omega);rw [bd] at h;exact h)) (dZ 8 j (ex p j j (λM w p=>?_)))))));have p:C o [] ([bi A m]++_) w:=p.front;refine ar ⟨⟨_,p⟩,?_⟩;refine j5 9 j (c4 (p.bc M) j j j j j bJ (λw p=>?_));have p:=C.whole (U:=[.slice I e.1.length ce,.slice K e.2.length F]) p j;have p:C o [] [bi A m,R M #[.slice I e.1.length ce,.slice K e.2.length F] 315] w:=p.as;refine ar (cX ?_);have p:=p.drew;refine bw 1 j (λw=>∃ae,C o [] ([bi A m,R M #[.slice I e.1.length ce,.slice K e.2.length F] 315]++ae) w) ⟨_,p⟩ (af 0 3 j (bT 3 j (λw⟨_,p⟩=>aw (p.cg O) j) (af 4 1 j (a8 5 j a1 m.aX (af 6 1 j (a8 7 j a1 m.gI (af 8 1 j (a8 9 j a1 j (af 11 1 j (a8 12 j a1 j (aO 10 15 j j ?_ ?_)))))))))))
  .refine cN j j j (g3 (c:=ce) (p.rd aL (bX.of_nil _ _)) (by have:=u.1;omega)) (λbh w⟨z,Z,B⟩=>?_);obtain⟨t,aX,rfl,_,_⟩:=Z.form;have p:=p.aM B;have p:C o [] ([bi A m,R M #[.slice I e.1.length ce,.slice K e.2.length F] 315]++_) w:=p.front;refine ar ⟨⟨_,p⟩,?_⟩;refine aO 13 15 j j ?_ ?_;refine cN j j j (k3 (d:=F) (p.rd al (bX.of_nil _ _)) u.2.2 (by have:=u.2.1;omega)) (λaY w⟨y,T,ag⟩=>?_);obtain⟨q,d1,rfl,_,_⟩:=T.form;have p:=p.aM ag;have p:C o [] ([bi A m,R M #[.slice I e.1.length ce,.slice K e.2.length F] 315]++_) w:=p.front;refine ar ⟨⟨_,p⟩,?_⟩;refine aT 14 j (λw _=>e1 (c:=(⟨5,s.an,m.f,m.s,0,t,e.1,aX,q,e.2,d1,cL⟩:aB).cs.toArray) j (λ_=>by kernel_rfl)) (aU 15 j (ex p j j (λD w p=>?_)));have p:C o [] ([bi A m,R M #[.slice I e.1.length ce,.slice K e.2.length F] 315]++_) w:=p.front;refine ar ⟨⟨_,p⟩,?_⟩;rotate_left
   refine ex p j j (λD w p=>?_);have p:C o [] ([bi A m,R M #[.slice I e.1.length ce,.slice K e.2.length F] 315]++_) w:=p.front;refine ar ⟨⟨_,p⟩,?_⟩;refine aU 13 j (cN j j j (k3 (d:=F) (p.rd al (bX.of_nil _ _)) u.2.2 (by have:=u.2.1;omega)) (λaY w⟨y,T,ag⟩=>?_));obtain⟨q,d1,rfl,_,_⟩:=T.form;have p:=p.aM ag;have p:C o [] ([bi A m,R M #[.slice I e.1.length ce,.slice K e.2.length F] 315]++_) w:=p.front;refine ar ⟨⟨_,p⟩,?_⟩;refine aT 14 j (λw _=>e1 (c:=(⟨5,s.an,m.f,m.s,0,t,e.1,aX,q,e.2,d1,cL⟩:aB).cs.toArray) j (λ_=>by kernel_rfl)) ?_;rotate_left
   all_goals
    refine dy 16 j (c4 (p.bc D) j j j (by simpa using(⟨5,s.an,m.f,m.s,0,t,e.1,aX,q,e.2,d1,cL⟩:aB).one) j bJ (λw p=>?_));have p:=C.whole (U:=(⟨5,s.an,m.f,m.s,0,t,e.1,aX,q,e.2,d1,cL⟩:aB).cs) p j;have p:C o [] [bi D (⟨5,s.an,m.f,m.s,0,t,e.1,aX,q,e.2,d1,cL⟩:aB),z,y] w:=p.as;have aK:fF (⟨5,s.an,m.f,m.s,0,t,e.1,aX,q,e.2,d1,cL⟩:aB) (z++y):=⟨z,y,j,⟨Z,T⟩,j,u.2.2,⟨by show e.1.length<=_;have:=u.1;omega,by show e.2.length<=_;have:=u.2.1;omega⟩⟩;refine ar (cX ?_);have p:=p.drew;refine bw 1 j (λw=>∃ae,C o [] ([bi D (⟨5,s.an,m.f,m.s,0,t,e.1,aX,q,e.2,d1,cL⟩:aB)]++ae) w) ⟨_,p⟩ (af 0 3 j (bT 3 j (λw⟨_,p⟩=>aw (p.cg O) j) (af 4 3 j (bT 7 j (λw⟨_,p⟩=>aw (p.cg O) j) (aT 8 j (λw⟨_,p⟩=>c3 (U:=(⟨5,s.an,m.f,m.s,0,t,e.1,aX,q,e.2,d1,cL⟩:aB).cs) j j j (bp (C.ak p))) (aU 9 j ?_))))));have aJ:=(aK.read (Holds.app (p.holds (G:=z) (by simp)) (p.holds (G:=y) (by simp)))).1;have H:=mg aJ (by show e.1.length<=_;have:=u.1;omega) (by show e.2.length<=_;have:=u.2.1;omega);refine cN j j j H (λr w⟨bn,Y,B⟩=>?_);have p:=p.aM B;have p:C o [] [bi D (⟨5,s.an,m.f,m.s,0,t,e.1,aX,q,e.2,d1,cL⟩:aB),z,y,bn] w:=p.as
    have az:(⟨5,s.an,m.f,m.s,0,t,e.1,aX,q,e.2,d1,cL⟩:aB).body.length<=1000000:=by
     have av:=lo e.2 u.2.2;have ax:=jH e.1 (by have:=u.1;omega);have X:=gg [4,5,s.an,m.s,0];simp only [ez,gk] at X;show(ea [4,5,s.an,m.s,0]++(hA e.1++jt e.2)).length<=_;simp only [b4];have:=u.1;have:=u.2.1;omega
    obtain⟨ap,g2,rfl,_,_,aa,_⟩:=Y.read (p.holds (by simp));refine ar ⟨⟨_,p⟩,?_⟩;refine aU 10 j ?_;have H:=nD (ai.st p (am.off.nil g)) aj aa az (i:=s.an) (d:=g2);refine bF j j j H (λw B=>?_);have p:=p.aM B;have p:C o [] [bi D (⟨5,s.an,m.f,m.s,0,t,e.1,aX,q,e.2,d1,cL⟩:aB),z,y,bn] w:=p.as;refine ar ⟨⟨_,p⟩,?_⟩;refine af 11 1 j (dy 12 j (c4 (p.bc D) j j j (by simpa using fc (g.cr s.an (⟨5,s.an,m.f,m.s,0,t,e.1,aX,q,e.2,d1,cL⟩:aB).body)) (by rw [List.size_toArray,ds,am.ec]) (by rw [List.size_toArray,(⟨5,s.an,m.f,m.s,0,t,e.1,aX,q,e.2,d1,cL⟩:aB).bW j];decide) (λw p=>?_)));have p:=C.gr p ((⟨5,s.an,m.f,m.s,0,t,e.1,aX,q,e.2,d1,cL⟩:aB).ps (g.cr s.an (⟨5,s.an,m.f,m.s,0,t,e.1,aX,q,e.2,d1,cL⟩:aB).body) (by rw [am.ec];rfl));have p:C o [] (bi D (⟨5,s.an,m.f,m.s,0,t,e.1,aX,q,e.2,d1,g.cr s.an (⟨5,s.an,m.f,m.s,0,e.1,e.2,[]⟩:aW).body⟩:aB)::_) w:=p;have p:C o [] [bi D (⟨5,s.an,m.f,m.s,0,t,e.1,aX,q,e.2,d1,g.cr s.an (⟨5,s.an,m.f,m.s,0,e.1,e.2,[]⟩:aW).body⟩:aB),z,y] w:=p.as;refine ar ?_;refine cX (bN 2 (U:=(⟨5,s.an,m.f,m.s,0,t,e.1,aX,q,e.2,d1,g.cr s.an (⟨5,s.an,m.f,m.s,0,e.1,e.2,[]⟩:aW).body⟩:aB).cs) j j ((⟨5,s.an,m.f,m.s,0,t,e.1,aX,q,e.2,d1,g.cr s.an (⟨5,s.an,m.f,m.s,0,e.1,e.2,[]⟩:aW).body⟩:aB).bW (am.ec _ _ _)) (bp (C.ak p)) (gC (U:=(⟨5,s.an,m.f,m.s,0,t,e.1,aX,q,e.2,d1,g.cr s.an (⟨5,s.an,m.f,m.s,0,e.1,e.2,[]⟩:aW).body⟩:aB).cs) p j j j ((⟨5,s.an,m.f,m.s,0,t,e.1,aX,q,e.2,d1,g.cr s.an (⟨5,s.an,m.f,m.s,0,e.1,e.2,[]⟩:aW).body⟩:aB).bW (am.ec _ _ _)) (by decide) (by decide) (λQ w p=>ao 1 j j ?_)));have aA:g.check m.f m.body m.tag=true:=by simpa using W
    have E:s.told g m.P=[(⟨5,s.an,m.f,m.s,0,t,e.1,aX,q,e.2,d1,g.cr s.an (⟨5,s.an,m.f,m.s,0,e.1,e.2,[]⟩:aW).body⟩:aB).P]:=by
     unfold aC.told;rw [aI (by rintro(h|h|h|h);exact aF h;exact absurd h (dN V);(rw [show(m.f==s.an)=true from dY.2 h] at S;cases S);(have h:g.check m.f m.body m.tag=false:=h;rw [aA] at h;cases h))];rw [show s.log[m.P.s.toNat]? =some e from by show s.log[m.s.toNat]? =_;rw [<-aD,cf ad,ah]]
    rw [E];have p:C o [] [R Q (⟨5,s.an,m.f,m.s,0,t,e.1,aX,q,e.2,d1,g.cr s.an (⟨5,s.an,m.f,m.s,0,e.1,e.2,[]⟩:aW).body⟩:aB).cs.toArray 103,z,y] w:=p.as;refine⟨R Q (⟨5,s.an,m.f,m.s,0,t,e.1,aX,q,e.2,d1,g.cr s.an (⟨5,s.an,m.f,m.s,0,e.1,e.2,[]⟩:aW).body⟩:aB).cs.toArray 103++(z++y),⟨[(⟨5,s.an,m.f,m.s,0,t,e.1,aX,q,e.2,d1,g.cr s.an (⟨5,s.an,m.f,m.s,0,e.1,e.2,[]⟩:aW).body⟩:aB)],j,R Q (⟨5,s.an,m.f,m.s,0,t,e.1,aX,q,e.2,d1,g.cr s.an (⟨5,s.an,m.f,m.s,0,e.1,e.2,[]⟩:aW).body⟩:aB).cs.toArray 103,z++y,j,?_,fG.one ⟨z,y,j,⟨Z,T⟩,am.ec _ _ _,u.2.2,⟨by show e.1.length<=_;have:=u.1;omega,by show e.2.length<=_;have:=u.2.1;omega⟩⟩⟩,p.perm (by simp)⟩;have:=Row.full (e:=103) (size:=39) (b:=Q) (n:=1) (cur:=(⟨5,s.an,m.f,m.s,0,t,e.1,aX,q,e.2,d1,g.cr s.an (⟨5,s.an,m.f,m.s,0,e.1,e.2,[]⟩:aW).body⟩:aB).cs.toArray) (by unfold maxLen;omega) (by rw [List.size_toArray,(⟨5,s.an,m.f,m.s,0,t,e.1,aX,q,e.2,d1,g.cr s.an (⟨5,s.an,m.f,m.s,0,e.1,e.2,[]⟩:aW).body⟩:aB).bW (am.ec _ _ _)]);simpa using this
  refine ex p j j (λD w p=>?_);have p:C o [] ([bi A m,R M #[.slice I e.1.length ce,.slice K e.2.length F] 315]++_) w:=p.front;refine ar ⟨⟨_,p⟩,?_⟩;refine aU 10 j (cN j j j (g3 (c:=ce) (p.rd aL (bX.of_nil _ _)) (by have:=u.1;omega)) (λbh w⟨z,Z,B⟩=>?_));obtain⟨t,aX,rfl,_,_⟩:=Z.form;have p:=p.aM B;have p:C o [] ([bi A m,R M #[.slice I e.1.length ce,.slice K e.2.length F] 315]++_) w:=p.front;refine ar ⟨⟨_,p⟩,?_⟩;refine aU 13 j (cN j j j (k3 (d:=F) (p.rd al (bX.of_nil _ _)) u.2.2 (by have:=u.2.1;omega)) (λaY w⟨y,T,ag⟩=>?_));obtain⟨q,d1,rfl,_,_⟩:=T.form;have p:=p.aM ag;have p:C o [] ([bi A m,R M #[.slice I e.1.length ce,.slice K e.2.length F] 315]++_) w:=p.front;refine ar ⟨⟨_,p⟩,?_⟩;refine aT 14 j (λw _=>e1 (c:=(⟨5,s.an,m.f,m.s,0,t,e.1,aX,q,e.2,d1,cL⟩:aB).cs.toArray) j (λ_=>by kernel_rfl)) (dy 16 j (c4 (p.bc D) j j j (by simpa using(⟨5,s.an,m.f,m.s,0,t,e.1,aX,q,e.2,d1,cL⟩:aB).one) j bJ (λw p=>?_)));have p:=C.whole (U:=(⟨5,s.an,m.f,m.s,0,t,e.1,aX,q,e.2,d1,cL⟩:aB).cs) p j;have p:C o [] [bi D (⟨5,s.an,m.f,m.s,0,t,e.1,aX,q,e.2,d1,cL⟩:aB),z,y] w:=p.as;have aK:fF (⟨5,s.an,m.f,m.s,0,t,e.1,aX,q,e.2,d1,cL⟩:aB) (z++y):=⟨z,y,j,⟨Z,T⟩,j,u.2.2,⟨by show e.1.length<=_;have:=u.1;omega,by show e.2.length<=_;have:=u.2.1;omega⟩⟩;refine ar (cX ?_);have p:=p.drew;refine bw 1 j (λw=>∃ae,C o [] ([bi D (⟨5,s.an,m.f,m.s,0,t,e.1,aX,q,e.2,d1,cL⟩:aB)]++ae) w) ⟨_,p⟩ (af 0 3 j (bT 3 j (λw⟨_,p⟩=>aw (p.cg O) j) (af 4 3 j (bT 7 j (λw⟨_,p⟩=>aw (p.cg O) j) (aT 8 j (λw⟨_,p⟩=>c3 (U:=(⟨5,s.an,m.f,m.s,0,t,e.1,aX,q,e.2,d1,cL⟩:aB).cs) j j j (bp (C.ak p))) (aU 9 j ?_))))));have aJ:=(aK.read (Holds.app (p.holds (G:=z) (by simp)) (p.holds (G:=y) (by simp)))).1;have H:=mg aJ (by show e.1.length<=_;have:=u.1;omega) (by show e.2.length<=_;have:=u.2.1;omega);refine cN j j j H (λr w⟨bn,Y,B⟩=>?_);have p:=p.aM B;have p:C o [] [bi D (⟨5,s.an,m.f,m.s,0,t,e.1,aX,q,e.2,d1,cL⟩:aB),z,y,bn] w:=p.as
  have az:(⟨5,s.an,m.f,m.s,0,t,e.1,aX,q,e.2,d1,cL⟩:aB).body.length<=1000000:=by
   have av:=lo e.2 u.2.2;have ax:=jH e.1 (by have:=u.1;omega);have X:=gg [4,5,s.an,m.s,0];simp only [ez,gk] at X;show(ea [4,5,s.an,m.s,0]++(hA e.1++jt e.2)).length<=_;simp only [b4];have:=u.1;have:=u.2.1;omega
  obtain⟨ap,g2,rfl,_,_,aa,_⟩:=Y.read (p.holds (by simp));refine ar ⟨⟨_,p⟩,?_⟩;refine aU 10 j ?_;have H:=nD (ai.st p (am.off.nil g)) aj aa az (i:=s.an) (d:=g2);refine bF j j j H (λw B=>?_);have p:=p.aM B;have p:C o [] [bi D (⟨5,s.an,m.f,m.s,0,t,e.1,aX,q,e.2,d1,cL⟩:aB),z,y,bn] w:=p.as;refine ar ⟨⟨_,p⟩,?_⟩;refine af 11 1 j (dy 12 j (c4 (p.bc D) j j j (by simpa using fc (g.cr s.an (⟨5,s.an,m.f,m.s,0,t,e.1,aX,q,e.2,d1,cL⟩:aB).body)) (by rw [List.size_toArray,ds,am.ec]) (by rw [List.size_toArray,(⟨5,s.an,m.f,m.s,0,t,e.1,aX,q,e.2,d1,cL⟩:aB).bW j];decide) (λw p=>?_)));have p:=C.gr p ((⟨5,s.an,m.f,m.s,0,t,e.1,aX,q,e.2,d1,cL⟩:aB).ps (g.cr s.an (⟨5,s.an,m.f,m.s,0,t,e.1,aX,q,e.2,d1,cL⟩:aB).body) (by rw [am.ec];rfl));have p:C o [] (bi D (⟨5,s.an,m.f,m.s,0,t,e.1,aX,q,e.2,d1,g.cr s.an (⟨5,s.an,m.f,m.s,0,e.1,e.2,[]⟩:aW).body⟩:aB)::_) w:=p;have p:C o [] [bi D (⟨5,s.an,m.f,m.s,0,t,e.1,aX,q,e.2,d1,g.cr s.an (⟨5,s.an,m.f,m.s,0,e.1,e.2,[]⟩:aW).body⟩:aB),z,y] w:=p.as;refine ar (cX (bN 2 (U:=(⟨5,s.an,m.f,m.s,0,t,e.1,aX,q,e.2,d1,g.cr s.an (⟨5,s.an,m.f,m.s,0,e.1,e.2,[]⟩:aW).body⟩:aB).cs) j j ((⟨5,s.an,m.f,m.s,0,t,e.1,aX,q,e.2,d1,g.cr s.an (⟨5,s.an,m.f,m.s,0,e.1,e.2,[]⟩:aW).body⟩:aB).bW (am.ec _ _ _)) (bp (C.ak p)) (gC (U:=(⟨5,s.an,m.f,m.s,0,t,e.1,aX,q,e.2,d1,g.cr s.an (⟨5,s.an,m.f,m.s,0,e.1,e.2,[]⟩:aW).body⟩:aB).cs) p j j j ((⟨5,s.an,m.f,m.s,0,t,e.1,aX,q,e.2,d1,g.cr s.an (⟨5,s.an,m.f,m.s,0,e.1,e.2,[]⟩:aW).body⟩:aB).bW (am.ec _ _ _)) (by decide) (by decide) (λQ w p=>ao 1 j j ?_))));have aA:g.check m.f m.body m.tag=true:=by simpa using W
  have E:s.told g m.P=[(⟨5,s.an,m.f,m.s,0,t,e.1,aX,q,e.2,d1,g.cr s.an (⟨5,s.an,m.f,m.s,0,e.1,e.2,[]⟩:aW).body⟩:aB).P]:=by
   unfold aC.told;rw [aI (by rintro(h|h|h|h);exact aF h;exact absurd h (dN V);(rw [show(m.f==s.an)=true from dY.2 h] at S;cases S);(have h:g.check m.f m.body m.tag=false:=h;rw [aA] at h;cases h))];rw [show s.log[m.P.s.toNat]? =some e from by show s.log[m.s.toNat]? =_;rw [<-aD,cf ad,ah]]
  rw [E];have p:C o [] [R Q (⟨5,s.an,m.f,m.s,0,t,e.1,aX,q,e.2,d1,g.cr s.an (⟨5,s.an,m.f,m.s,0,e.1,e.2,[]⟩:aW).body⟩:aB).cs.toArray 103,z,y] w:=p.as;refine⟨R Q (⟨5,s.an,m.f,m.s,0,t,e.1,aX,q,e.2,d1,g.cr s.an (⟨5,s.an,m.f,m.s,0,e.1,e.2,[]⟩:aW).body⟩:aB).cs.toArray 103++(z++y),⟨[(⟨5,s.an,m.f,m.s,0,t,e.1,aX,q,e.2,d1,g.cr s.an (⟨5,s.an,m.f,m.s,0,e.1,e.2,[]⟩:aW).body⟩:aB)],j,R Q (⟨5,s.an,m.f,m.s,0,t,e.1,aX,q,e.2,d1,g.cr s.an (⟨5,s.an,m.f,m.s,0,e.1,e.2,[]⟩:aW).body⟩:aB).cs.toArray 103,z++y,j,?_,fG.one ⟨z,y,j,⟨Z,T⟩,am.ec _ _ _,u.2.2,⟨by show e.1.length<=_;have:=u.1;omega,by show e.2.length<=_;have:=u.2.1;omega⟩⟩⟩,p.perm (by simp)⟩;have:=Row.full (e:=103) (size:=39) (b:=Q) (n:=1) (cur:=(⟨5,s.an,m.f,m.s,0,t,e.1,aX,q,e.2,d1,g.cr s.an (⟨5,s.an,m.f,m.s,0,e.1,e.2,[]⟩:aW).body⟩:aB).cs.toArray) (by unfold maxLen;omega) (by rw [List.size_toArray,(⟨5,s.an,m.f,m.s,0,t,e.1,aX,q,e.2,d1,g.cr s.an (⟨5,s.an,m.f,m.s,0,e.1,e.2,[]⟩:aW).body⟩:aB).bW (am.ec _ _ _)]);simpa using this
def aB.k2(m:aB)(F:List Nat):Prop:=bX m.A (aG m.x) F/\bX m.B (vcs m.l) F
theorem aB.k2.sub{m:aB}{F eJ:List Nat}(h:m.k2 F)(aL:∀b∈eJ,b∈F):m.k2 eJ:=⟨h.1.sub aL,h.2.sub aL⟩
theorem aB.ok.q5{m:aB}{o w:World}{F:List Nat}{ae:List (List Chunk)}(h:m.ok o)(a:C o F ae w)(b:m.k2 F):m.ok w:=⟨a.rd h.x b.1,a.rd h.l b.2,h.aE,h.tag⟩
theorem aB.ok.CQ{m:aB}{o w:World}{F:List Nat}{ae:List (List Chunk)}(h:m.ok o)(a:C o F ae w)(b:m.k2 F):m.k2 (au ae):=⟨a.apart h.x b.1,a.apart h.l b.2⟩
theorem aC.Ij{g:am}{s:aC}{m:aW}(h:m.k=1):s.take g m=((s.eI g m.x).1,(s.eI g m.x).2.1):=a6 h
theorem aC.Ih{g:am}{s:aC}{m:aW}(h:¬m.k=1)(a:m.s<s.slot):s.take g m=(s,s.told g m):=(aI h).trans (a6 a)
theorem aC.Id{g:am}{s:aC}{m:aW}(h:¬m.k=1)(a:m.s=s.slot):s.take g m=aC.h8 g {s with cur:=(hc g s.cur m).1} (hc g s.cur m).2:=(aI h).trans ((aI (by omega)).trans (a6 a))
theorem aC.Ii{g:am}{s:aC}{m:aW}(h:¬m.k=1)(b:s.slot<m.s)(a:m.s-s.slot<=4/\s.stored.length<128):s.take g m=({s with stored:=b9 s.stored s.eZ m,eZ:=s.eZ+1},[]):=(aI h).trans ((aI (by omega)).trans ((aI (by omega)).trans (a6 a)))
theorem aC.AO{g:am}{s:aC}{m:aW}(h:¬m.k=1)(b:s.slot<m.s)(a:¬(m.s-s.slot<=4/\s.stored.length<128)):s.take g m=(s,[]):=(aI h).trans ((aI (by omega)).trans ((aI (by omega)).trans (aI a)))
theorem aC.ok.rf{g:am}{N M:Nat}{s:aC}{c:Option aj}(h:s.ok g N)(e:N<=M)(f:∀r,c=some r->r.ok g M)(aL:c.isSome=s.cur.isSome):aC.ok g M {s with cur:=c}:=
 {h.more e with cur:=λr a=>⟨f r a,by
   have b:s.cur.isSome=true:=by rw [<-aL,show c=some r from a];rfl
   obtain⟨i,d⟩:=gX.1 b;exact(h.cur i d).2⟩}
theorem qs{a b:Int}(c: -2000000<=a/\a<=2000000)(d: -2000000<=b/\b<=2000000):evalBin .add .i64 a b=some (.int .i64 (a+b)):=by
 show some (Value.int .i64 (IntKind.i64.wrap (a+b)))=_;rw [jX];exact aH (λz=>some (Value.int .i64 z)) (by omega)
theorem sd{a b:Int}(c: -2000000<=a/\a<=2000000)(d: -2000000<=b/\b<=2000000):evalBin .sub .i64 a b=some (.int .i64 (a-b)):=by
 show some (Value.int .i64 (IntKind.i64.wrap (a-b)))=_;rw [jX];exact aH (λz=>some (Value.int .i64 z)) (by omega)
theorem Ib{o:World}{g:am}{ba:Nat}{s:aC}{G:List Chunk}(aR:iq g ba s G){m:aB}(hm:m.ok o)(J:m.k2 (au [G]))(aa:m.P.cR)(bz:m.s<=1000000){N:Nat}(K:s.ok g N)(aP:773<=N)(aQ:N+40<=1000000)(R:g.at o)(S:g.ok)(z:g.off (au [G]))(a:Own [G] o):Calls prog 82 #[ab ba,.agg m.cs.toArray] o λr w=>∃be ai,cz r (s.take g m.P).2 be/\iq g ba (s.take g m.P).1 ai/\C o (au [G]) [ai,be] w:=by
 have T:m.tag.length=32:=hm.tag;have bA:m.x.length<=200:=aa.x;have bx:m.l.length<=10:=aa.l;have a3:=J;have a7:=z;obtain⟨c,L,bb,Q,D,t,rfl⟩:=aR;obtain⟨e,aD⟩:∃e,e=au [cx g ba s c++(L++(bb++(Q++D)))]:=⟨_,j⟩;rw [<-aD] at J z⊢;have a:C o e [cx g ba s c++(L++(bb++(Q++D)))] o:=aD▸a;have a:=a.qL;obtain⟨u,ah,I,bB,V,ap,aI,av,az⟩:=t.stored;obtain⟨bl,bk,es,bs,aW,br⟩:=t.log;obtain⟨bj,bn,a4,bt,bv⟩:=aW.form;have bu:=K.log;refine a2 func82 (bM 2 a j j (λf w a=>?_));have a:C o e (bi f m::_) w:=a;refine al 13 j (aw (C.ak (b:=ba) a) (aH some a4)) (al 7 j (aw (C.ak a) m.g1) (bm 2 j j (λH=>?_) (λH=>?_)))
 .refine al 4 j (aw (C.ak a) m.gl) ?_;have a:C o e [cx g ba s c,L,bb,Q,D,bi f m] w:=a.as;have a:=a.iG;have n:=AK (bR:=m.c) ⟨c,L,bb,Q,D,t,j⟩ (a.rd hm.x J.1) a3.1 (by omega) K aP aQ (R.st a z) S a7 a.ours;refine bh 0 n j (λr w⟨v,be,ai,ac,Y,aS,q⟩=>?_);subst ac;have a:=a.b3 q;refine ao 9 j j ?_;rw [aC.Ij (m:=m.P) (dY.1 H)];exact⟨be,ai,Y,aS,a.as⟩
 refine al 3 j (aw (C.ak a) m.gI) (cm 3 j j (λO=>?_) (λO=>?_))
 .refine bN 3 (U:=m.cs) j j (m.bW T) (bp (C.ak a)) ?_;have n:=ID (ba:=ba) (C.ak (b:=ba) a) t.log (a.holds (by simp)) K (R.st a z) S (hm.q5 a J) aa O;refine bh 0 n j (λr w⟨be,Y,q⟩=>?_);have a:=a.aM q;refine ao 1 j j ?_;rw [aC.Ih (m:=m.P) (by simpa using H) O];have a:C o e [cx g ba s c,L,bb,Q,D,be] w:=a.as;exact⟨be,_,Y,⟨c,L,bb,Q,D,t,j⟩,a.iG⟩
 refine al 3 j (aw (C.ak a) m.gI) (bm 3 j j (λeS=>?_) (λeS=>?_))
 .have a:C o e ([bi f m,cx g ba s c]++_) _:=a.front;have a:=a.drew;refine bw 1 j (λw=>True) aY (af 0 4 j (aO 4 5 j j ?_ ?_));refine oB j j j j (aw (C.ak (b:=ba) a) j) (ar ⟨aY,?_⟩);refine aU 5 j (l3 (U:=m.cs) j j j j (m.bW T) (bp (C.ak a)) ?_);rotate_left
  refine l3 (U:=m.cs) j j j j (m.bW T) (bp (C.ak a)) (ar ⟨aY,?_⟩);refine aU 4 j (oB j j j j (aw (C.ak (b:=ba) a) j) ?_);rotate_left
  all_goals
   refine ar ⟨aY,?_⟩;refine aU 6 j ?_;have n:=AN (m:=m) (hm.q5 a J) t.cur (λr ac=>(K.cur r ac).1) (by omega) (R.st a z) S (a.eE R z) a.ours;refine cN j j j n (λr w⟨be,ad,Y,aL,q⟩=>?_);have a:=a.b3 q;have a:C o e [bi f m,cx g ba s c,L,ad,Q,D,be] w:=a.as;refine ar ⟨aY,?_⟩;refine aU 7 j ?_;have bd:aC.ok g (N+6) ({s with cur:=(hc g s.cur m.P).1}:aC):=K.rf (gG _ _) (r8 S aa (λr ac=>(K.cur r ac).1)) r9
   obtain⟨ag,aZ,a⟩:∃ag,iq g ba ({s with cur:=(hc g s.cur m.P).1}:aC) ag/\C o e [ag,be] w:=by
    have a:C o e [cx g ba s (c),L,ad,Q,D,be] w:=a.as;exact⟨_,⟨c,L,ad,Q,D,⟨t.log,aL,t.cw,t.stored⟩,j⟩,a.iG⟩
   have n:=va aZ Y (by have:=r7 S s.cur m.P;omega) bd (by omega) (by omega) (R.st a z) S (a.eE R z) a.ours;refine cN j j j n (λr w⟨aJ,aA,aN,aV,a5⟩=>?_);have a:=a.b3 a5;refine ar ⟨aY,?_⟩;refine af 8 1 j (bK (ao 0 j j ?_));rw [aC.Id (m:=m.P) (by simpa using H) (beq_iff_eq.1 eS)];exact⟨aJ,aA,aN,aV,a.as⟩
 refine al 3 j (aw (C.ak a) m.gI) (bq 1 j j j (sd (by omega) (by omega)) (aq 2 j (cQ 54 j (λan=>?_) (λan=>?_))));refine al 3 j (aw (C.ak (b:=ba) a) (aH some ap)) ?_;have a0:=dE.own (C.perm (B:=[ax 291 u ah I,V,bi f m,cx g ba s c,L,bb,Q]) (show C o e [D,bi f m,cx g ba s c,L,bb,Q] w from a.as) (by simp [az])) aI;have n:=y0 a0;refine bo 0 n j (λw q=>?_);have a:=a.aM q;refine cm 3 j j (λaj=>?_) (λaj=>?_)
 .have a:C o e ([bi f m,cx g ba s c]++_) _:=a.front;have a:=a.drew;refine bw 1 j (λw=>∃ae,C o e ([bi f m,cx g ba s c]++ae) w) ⟨_,a⟩ (af 0 1 j (a8 1 j a1 m.gl (af 3 1 j (a8 4 j a1 m.eu (aU 2 j ?_)))));have n:=g3 (c:=m.c) (hm.q5 a J).x (by omega);refine cN j j j n (λr w⟨E,aF,q⟩=>?_);obtain⟨i,aX,rfl⟩:∃A c,r= .slice A m.x.length c:=by obtain⟨A,c,h,_⟩:=aF.form;exact⟨A,c,h⟩
  have a:=a.aM q;have a:C o e ([bi f m,cx g ba s c]++_) w:=a.front;refine ar ⟨⟨_,a⟩,?_⟩;refine af 6 1 j (aU 5 j ?_);have n:=k3 (d:=m.d) (hm.q5 a J).l hm.aE (by omega);refine cN j j j n (λr w⟨F,aG,q⟩=>?_);obtain⟨p,d1,rfl⟩:∃A c,r= .slice A m.l.length c:=by obtain⟨A,c,h,_⟩:=aG.form;exact⟨A,c,h⟩
  have a:=a.aM q;have a:C o e ([bi f m,cx g ba s c]++_) w:=a.front;refine ar ⟨⟨_,a⟩,?_⟩;refine dy 7 j (cC (a.bc f) j j j j (by rw [hy,m.bW hm.tag];decide) (λw a=>?_));have a:C o e (bi f ({m with A:=i,c:=aX}:aB)::_) w:=C.gr a (m.q0 i aX);have a:C o e ([bi f ({m with A:=i,c:=aX}:aB),cx g ba s c]++_) w:=a.front;refine ar (j5 8 j (rq j j j (ar (j5 9 j (cC (a.bc f) j j j j (by rw [List.size_toArray,(({m with A:=i,c:=aX}:aB)).bW hm.tag];decide) (λw a=>?_))))));have a:C o e (bi f ({m with A:=i,c:=aX,B:=p,d:=d1}:aB)::_) w:=C.gr a ((({m with A:=i,c:=aX}:aB)).mH p d1);have a:C o e ([bi f ({m with A:=i,c:=aX,B:=p,d:=d1}:aB),cx g ba s c]++_) w:=a.front;refine ar (cX ?_);have a:C o e [bi f ({m with A:=i,c:=aX,B:=p,d:=d1}:aB),cx g ba s c,L,bb,Q,D,E,F] _:=a.as;subst az;have a:C o e [bi f ({m with A:=i,c:=aX,B:=p,d:=d1}:aB),cx g ba s c,L,bb,Q,ax 291 u ah I,V,E,F] _:=C.perm (A:=[bi f ({m with A:=i,c:=aX,B:=p,d:=d1}:aB),cx g ba s c,L,bb,Q,ax 291 u ah I++V,E,F]) a (by simp);have a:=a.drew;refine bw 1 j (λw=>∃ae,C o e ([bi f ({m with A:=i,c:=aX,B:=p,d:=d1}:aB),cx g ba s c]++ae) w) ⟨_,a⟩ (af 0 3 j (a8 3 j a1 (aH some ap) (af 4 3 j (a8 7 j a1 j (aT 8 j (λw⟨_,a⟩=>c3 (U:=({m with A:=i,c:=aX,B:=p,d:=d1}:aB).cs) j j (({m with A:=i,c:=aX,B:=p,d:=d1}:aB).bW T) (bp (C.ak a))) (aU 9 j ?_))))));have n:=wg (k:=s.eZ) (({m with A:=i,c:=aX,B:=p,d:=d1}:aB).bW T) ({m with A:=i,c:=aX,B:=p,d:=d1}:aB).one (a.ours (cI:=[ax 291 u ah I])) aI;refine bF j j j n (λw⟨M,a6,q⟩=>?_);have a:=a.b3 q;have a:C o e [bi f ({m with A:=i,c:=aX,B:=p,d:=d1}:aB),cx g ba s c,L,bb,Q,ax 291 u ah M,V,E,F] w:=a.as;refine ar ⟨⟨_,a⟩,?_⟩;refine bK (al 4 j (aw (C.ak a) j) (bq 0 j j j (qs (by have:=K.eZ;omega) (by omega)) (dB 2 (a.bc ba) j j j j (λw a=>?_))));have a:C o e (cx g ba {s with eZ:=s.eZ+1} c::_) w:=a;refine ao 3 j j ?_;have Z:s.slot<m.P.s:=by have X:=O;have y:¬m.s=(s.log.length:Int):=(by simpa using eS);have y:¬m.P.s=s.slot:=y;have ay:¬m.P.s<s.slot:=X;omega
  have bg:m.P.s-s.slot<=4/\s.stored.length<128:=⟨dj an,by have:=aj;have:=av.len;omega⟩;rw [aC.Ii (m:=m.P) (by simpa using H) Z bg];obtain⟨W,aK,bf,a9⟩:=av.put (k:=s.eZ) (show kd (.agg ({m with A:=i,c:=aX,B:=p,d:=d1}:aB).cs.toArray) m.P (E++F) from⟨({m with A:=i,c:=aX,B:=p,d:=d1}:aB),j,j,E,F,j,⟨aF,aG⟩,T,aa.aE,⟨by show m.x.length<=_;omega,by show m.l.length<=_;omega⟩⟩)
  have a:C o e [cx g ba {s with eZ:=s.eZ+1} c,L,bb,Q,ax 291 u ah M,aK,W] w:=C.perm (A:=[cx g ba {s with eZ:=s.eZ+1} c,L,bb,Q,ax 291 u ah M,V,E,F]) a.as (by
   simp only [kj,m1,gY];exact .append_left _ (.append_left _ (.append_left _ (.append_left _ (.append_left _ a9)))))
  have a:C o e [cx g ba {s with eZ:=s.eZ+1} c,L,bb,Q,ax 291 u ah M++W,[]] w:=C.perm (A:=[cx g ba {s with eZ:=s.eZ+1} c,L,bb,Q,ax 291 u ah M,W]) a.as (by simp);exact⟨[],_,cz.nil,⟨c,L,bb,Q,ax 291 u ah M++W,⟨t.log,t.cur,t.cw,⟨u,ah,M,_,W,ap,a6,bf,j⟩⟩,j⟩,a.iG⟩
 refine ao 4 j j ?_;have Z:s.slot<m.P.s:=by have X:=O;have y:¬m.s=(s.log.length:Int):=(by simpa using eS);have y:¬m.P.s=s.slot:=y;have ay:¬m.P.s<s.slot:=X;omega
 rw [aC.AO (m:=m.P) (by simpa using H) Z (by have:=aj;have:=av.len;exact λh=>absurd h.2 (by omega))];rotate_left
 refine ao 13 j j ?_;have Z:s.slot<m.P.s:=by have X:=O;have y:¬m.s=(s.log.length:Int):=(by simpa using eS);have y:¬m.P.s=s.slot:=y;have ay:¬m.P.s<s.slot:=X;omega
 rw [aC.AO (m:=m.P) (by simpa using H) Z (λh=>absurd h.1 (of_decide_eq_false an))];rotate_left
 all_goals
  have a:C o e [cx g ba s c,L,bb,Q,D,[]] w:=(C.empty a).as;exact⟨[],_,cz.nil,⟨c,L,bb,Q,D,t,j⟩,a.iG⟩
theorem Ip{o:World}{g:am}{ba:Nat}{s:aC}{G:List Chunk}(y:iq g ba s G){N:Nat}(n:s.ok g N)(H:773<=N)(I:N+40<=1000000)(f:g.at o)(h:g.ok)(e:g.off (au [G]))(a:Own [G] o):Calls prog 84 #[ab ba] o λr w=>∃be ai,cz r (s.tick g).2 be/\iq g ba (s.tick g).1 ai/\C o (au [G]) [ai,be] w:=by
 obtain⟨c,L,bb,Q,D,i,rfl⟩:=y;obtain⟨d,q⟩:∃d,d=au [cx g ba s c++(L++(bb++(Q++D)))]:=⟨_,j⟩;rw [<-q] at e⊢;have a:C o d [cx g ba s c++(L++(bb++(Q++D)))] o:=q▸a;have a:=a.qL;refine a2 func84 (al 16 j (aw (C.ak (b:=ba) a) j) ?_);have m:=Im i.cur (λr p=>(n.cur r p).1) (by omega) (f.st a e) h (a.eE f e) a.ours;refine bh 0 m j (λr w⟨be,k,x,u,B⟩=>?_);have a:=a.b3 B;have a:C o d [cx g ba s c,L,k,Q,D,be] w:=a.as;have F:aC.ok g (N+6) ({s with cur:=(iE g s.cur).1}:aC):=n.rf (gG _ _) (uE h (λr p=>(n.cur r p).1)) uF
 obtain⟨l,A,a⟩:∃l,iq g ba ({s with cur:=(iE g s.cur).1}:aC) l/\C o d [l,be] w:=by
  have a:C o d [cx g ba s (c),L,k,Q,D,be] w:=a.as;exact⟨_,⟨c,L,k,Q,D,⟨i.log,u,i.cw,i.stored⟩,j⟩,a.iG⟩
 have m:=va A x (by have:=xT h s.cur;omega) F (by omega) (by omega) (f.st a e) h (a.eE f e) a.ours;refine bh 0 m j (λr w⟨t,aA,v,z,E⟩=>?_);have a:=a.b3 E;exact ao 1 j j ⟨t,aA,v,z,a.as⟩
theorem FK{o:World}{g:am}{ba:Nat}{s:aC}{c:kg}{L:List Chunk}(Y:o.heap[ba]? =some (.cells (px g s c).toArray 224 (0,0)))(T:nK c.log s.log L)(D:Holds o L){N:Nat}(H:s.ok g N):Calls prog 146 #[ab ba] o λr w=>∃be,iB r (s.log.map Prod.fst) be/\C o [] [be] w:=by
 have a:Own [] o:=C.start o;obtain⟨an,aj,es,rfl,X,B⟩:=T;obtain⟨M,P,Z,aA,aB,af,_⟩:=X.read D.left;have au:=B.len;have ay:=H.log;have E:∀e∈es,([e.1,e.2]:List Value).length=2:=λ_ _=>rfl
 refine a2 func146 (al 19 j (aw Y (aH some Z)) ?_)
 refine cH 3 j (ct:=Nat×Value×List Chunk) (λk=>[(0,ab ba),(3,k.2.1),(11,.slice M s.log.length P),(12,.int .i64 (s.log.length:Nat)),(13,.int .i64 (k.1:Nat))])
  (λk w=>k.1<=s.log.length/\iB k.2.1 ((s.log.take k.1).map Prod.fst) k.2.2/\C o [] [k.2.2] w) (λk=>s.log.length-k.1) (0,.slice none 0 0,[]) ⟨j,j,j,j,j,aY⟩ ⟨b6 _,⟨[],[],[],j,Row.nil _ _,j⟩,a.empty⟩ ?_
 rintro⟨i,v,G⟩ w ⟨aa,q,a⟩;dsimp only at aa q a⊢;refine cm 4 j j (λO=>?_) (λO=>?_)
 .have l:i<s.log.length:=by omega
  obtain⟨h,ci,m,p,ah,av,ax,ag,_,_⟩:=B.read D.right i l;have F:es[i]'(by omega)=(.slice h s.log[i].1.length ci,.slice m s.log[i].2.length p):=by have:=ah;rw [cf (by omega)] at this;exact hz this
  have ae:=H.od _ (et l);have K:=a.rd af (bX.of_nil _ _);refine aq 5 j (fz j j j j K (v:=.slice h s.log[i].1.length ci) (h7 (f:=λe:Value×Value=>[e.1,e.2]) (J:=0) es E i (by omega) (by decide) (by rw [F];rfl)) l (λap Q ar=>?_));subst Q;have I:=iY (f:=λe:Value×Value=>[e.1,e.2]) K E i (by omega);rw [F] at I;refine bN 0 (U:=[.slice h s.log[i].1.length ci,.slice m s.log[i].2.length p]) j j j I (cl 0 a j (λz w a=>ck 0 (a.bc z) j j j j j (λw a=>?_)));have a:=C.whole (U:=[.slice h s.log[i].1.length ci,.slice m s.log[i].2.length p]) a j;have a:C o [] [[(z,.cells #[.slice h s.log[i].1.length ci,.slice m s.log[i].2.length p] 315 (0,0))],G] w:=a.as;refine al 3 j (aw (C.ak a) j) (bh 0 (g3 (c:=ci) (a.rd ag (bX.of_nil _ _)) (by have:=ae.1;omega)) j (λr w⟨d,x,ad⟩=>?_));have a:=a.aM ad;have a:C o [] [G,d] w:=a.as;refine eO (U:=[r]) a j j j j j (by simpa using x.one) bJ (λt w a=>?_);have aJ:=bp (C.ak (b:=t) a);obtain⟨y,H1,us,rfl,V,S⟩:=q;have a:C o [] [y,H1,d,R t #[r] 28] w:=C.perm (A:=[y++H1,d,R t #[r] 28]) a.as (by simp);have az:((s.log.take i).map Prod.fst).length=i:=by rw [fB,hl];omega
  refine d9 a V j j (by decide) j j j (news:=[r]) j aJ (by intro u hu;rw [List.mem_singleton.1 hu];exact x.one) (by omega) (by unfold maxLen;omega) (λv2 n w W a=>?_)
  have ai:iB v2 ((s.log.take (i+1)).map Prod.fst) (n++(H1++d)):=by
   rw [fu l,jU];exact⟨n,H1++d,us++[r],j,by rw [b4];exact W,S.app (h0.one x)⟩
  have a:C o [] [n++(H1++d)] w:=C.perm (A:=[n,H1,d]) a.as (by simp);exact bq 2 j j j (cM i (by omega)) (bP 1 j ⟨(i+1,v2,_),⟨j,j,j,j,j,aY⟩,⟨l,ai,a⟩,by dsimp only;omega⟩)
 refine ao 5 j j ?_;have ac:i=s.log.length:=by omega
 rw [ac,gu] at q;exact⟨G,q,a⟩
def la:List UInt8:=[97,98,99,100,101,102,103,104,105,106,107,108,109,110,111,112,113,114,115,116,117,118,119,120,121,122]
def gp(b:UInt8):Bool:=decide (97<=b.toNat/\b.toNat<=122)
def iD(J:Nat):Array Value:=((List.range 256).map λi=>Value.bool (decide (97<=i/\i<97+J))).toArray
abbrev jg(b:Nat)(J:Nat):List Chunk:=R b (iD J) 297
theorem rX(J:Nat):(iD J).size=256:=by simp [iD]
theorem rW(J i:Nat)(a:i<256):(iD J)[i]? =some (.bool (decide (97<=i/\i<97+J))):=by
 simp [iD,List.getElem?_range a,a]
theorem CJ(J:Nat)(b:J<26):(iD J).setIfInBounds (97+J) (.bool true)=iD (J+1):=by
 apply rR;intro i;by_cases a:i<256
 .by_cases he:i=97+J
  .subst he;rw [t8 (by rw [rX];omega),rW _ _ a]
   congr 2
   symm
   rw [gd];omega
  .rw [qc (by omega),rW _ _ a,rW _ _ a]
   congr 2
   rw [nS];omega
 .rw [ua (by rw [Array.size_setIfInBounds,rX];omega),ua (by rw [rX];omega)]
theorem CI(c:UInt8):(iD 26)[c.toNat]? =some (.bool (gp c)):=by
 have:=c.toNat_lt;rw [rW _ _ (by omega)];unfold gp
 congr 2
 rw [nS];omega
theorem xM{o:World}{b:Nat}{c:UInt8}(a:Own [jg b 26] o):Calls prog 213 #[ab b,.int .u8 (c.toNat:Int)] o λr w=>r= .bool (gp c)/\C o (au [jg b 26]) [jg b 26] w:=by
 refine a2 func213 (aq 8 j (rr (J:=c.toNat) j j j j (by have:=c.toNat_lt;omega) ?_));exact al 0 j (a.cell (v:=.bool (gp c)) (by rw [fg,gZ];exact CI c)) (ao 1 j j ⟨j,a⟩)
theorem IF{o:World}{b:Nat}{s:List UInt8}(a:Own [jg b 26] o):Calls prog 176 #[.string (strOf s),ab b] o λr w=>r= .string (strOf (s.dropWhile gp))/\C o (au [jg b 26]) [jg b 26] w:=by
 refine a2 func176 ?_
 refine cH 5 j (ct:=List UInt8) (λi=>[(0,.string (strOf i)),(1,ab b)])
  (λi w=>i.dropWhile gp=s.dropWhile gp/\C o (au [jg b 26]) [jg b 26] w) (λi=>i.length) s ⟨j,j,aY⟩ ⟨j,a⟩ ?_
 rintro s1 w ⟨g,a⟩;refine aq 4 j (mQ j j j j ?_);refine cm 1 j j (λdz=>?_) (λdz=>?_)
 .have f:0<s1.length:=by omega
  refine aq 7 j (rt (J:=0) j j j j f ?_);have k:=xM (c:=s1[0]) a.j7;refine bh 0 k j (λr w⟨n,aa⟩=>?_);subst n;have a:=a.iu aa;refine bm 1 j j (λd=>?_) (λd=>?_)
  .refine ao 5 j j ?_;have e:gp s1[0]=false:=by simpa using d
   refine⟨?_,a⟩;rw [<-g];cases s1 with
   |nil=>simp at f
   |cons x r=>
    have m:gp x=false:=e;rw [tX,m];rfl
  refine aq 3 j (BX (J:=1) j j j j (by omega) ?_);refine bP 1 j ?_;have e:gp s1[0]=true:=by simpa using d
  have l:s1=s1[0]::s1.drop 1:=by cases s1 with|nil=>simp at f|cons x r=>rfl
  refine⟨s1.drop 1,⟨j,j,aY⟩,⟨?_,a⟩,by rw [iT];omega⟩;rw [<-g]
  conv=>rhs;rw [l]
  rw [tX,a6 e]
 refine ao 5 j j ?_
 have h:s1=[]:=by
  have:=dz;exact p6.1 (by omega)
 subst h;refine⟨?_,a⟩;rw [<-g];rfl
theorem yJ(k:Nat)(a:0<k)(h:k<9223372036854775807):evalBin .sub .i64 (k:Int) 1=some (.int .i64 ((k-1:Nat):Int)):=by
 have:IntKind.i64.wrap ((k:Int)-1)=((k-1:Nat):Int):=by rw [jX];omega
 show some (Value.int .i64 (IntKind.i64.wrap ((k:Int)-1)))=_;rw [this]
def kV(s:List UInt8):List UInt8:=(s.reverse.dropWhile gp).reverse
theorem AU(s:List UInt8)(h:0<s.length)(a:gp (s[s.length-1]'(by omega))=true):kV (s.take (s.length-1))=kV s:=by
 have e:s=s.take (s.length-1)++[s[s.length-1]'(by omega)]:=by
  rw [<-fu (by omega),show s.length-1+1=s.length by omega,gu]
 unfold kV
 conv=>rhs;rw [e]
 rw [List.reverse_append,List.reverse_singleton,List.singleton_append,List.dropWhile_cons,if_pos a]
theorem AV(s:List UInt8)(h:0<s.length)(a:gp (s[s.length-1]'(by omega))=false):kV s=s:=by
 have e:s=s.take (s.length-1)++[s[s.length-1]'(by omega)]:=by
  rw [<-fu (by omega),show s.length-1+1=s.length by omega,gu]
 unfold kV;rw [e,List.reverse_append,List.reverse_singleton,List.singleton_append,List.dropWhile_cons,a];simp
theorem FE(i:Nat)(a:i<26):(la[i]'a).toNat=97+i:=by
 have:∀i:Fin 26,(la[i.1]'i.2).toNat=97+i.1:=by decide
 exact this ⟨i,a⟩
theorem IG{o:World}{b:Nat}{s:List UInt8}(a:Own [jg b 26] o)(l:s.length<=1000000):Calls prog 177 #[.string (strOf s),ab b] o λr w=>r= .string (strOf (kV s))/\C o (au [jg b 26]) [jg b 26] w:=by
 refine a2 func177 ?_
 refine cH 5 j (ct:=List UInt8) (λi=>[(0,.string (strOf i)),(1,ab b)])
  (λi w=>i.length<=1000000/\kV i=kV s/\C o (au [jg b 26]) [jg b 26] w) (λi=>i.length) s ⟨j,j,aY⟩ ⟨l,j,a⟩ ?_
 rintro s1 w ⟨m,g,a⟩;refine aq 4 j (mQ j j j j ?_);refine cm 1 j j (λdz=>?_) (λdz=>?_)
 .have d:0<s1.length:=by omega
  refine aq 8 j (mQ j j j j ?_);refine bq 0 j j j (yJ s1.length d (by omega)) (rt (J:=s1.length-1) j j j j (by omega) ?_);have k:=xM (c:=s1[s1.length-1]) a.j7;refine bo 0 k j (λw aa=>?_);have a:=a.iu aa;refine bm 1 j j (λe=>?_) (λe=>?_)
  .refine ao 5 j j ?_;have f:gp s1[s1.length-1]=false:=by simpa using e
   refine⟨?_,a⟩;rw [<-g,AV s1 d f]
  refine aq 4 j (mQ j j j j ?_);refine bq 0 j j j (yJ s1.length d (by omega)) (BY (J:=s1.length-1) j j j j (by omega) (bP 1 j ?_));have f:gp s1[s1.length-1]=true:=by simpa using e
  exact⟨s1.take (s1.length-1),⟨j,j,aY⟩,⟨by rw [hl];omega,(AU s1 d f).trans g,a⟩,by rw [hl];omega⟩
 refine ao 5 j j ?_
 have h:s1=[]:=by
  have:=dz;exact p6.1 (by omega)
 subst h;refine⟨?_,a⟩;rw [<-g];rfl
theorem FO{o:World}:Calls prog 175 #[.string (strOf la)] o λr w=>r= .tuple #[.agg (iD 26).toList.toArray,.bool true]/\C o [] [] w:=by
 have a:Own [] o:=C.start o;refine e9 func175 (cl 2 a j (λaO w a=>?_))
 refine cH 6 j (ct:=Nat) (λi=>[(0,.string (strOf la)),(2,ab aO),(4,.int .i64 (i:Nat))])
  (λi w=>i<=26/\C o [] [jg aO i] w) (λi=>26-i) 0 ⟨j,j,j,aY⟩ ⟨b6 _,a⟩ ?_
 rintro i w ⟨f,a⟩;refine aq 5 j (mQ j j j j ?_);refine cm 1 j j (λc=>?_) (λc=>?_)
 .have b:i<26:=by have:=c;have:la.length=26:=rfl;omega
  have g:=FE i b;have e:decide (((la[i]'b).toNat:Int)>=128)=false:=by rw [mY];omega
  refine aq 7 j (rt (J:=i) j j j j b ?_);refine i0 6 j j (e) (aq 3 j (rr (J:=(la[i]'b).toNat) j j j j (by omega) ?_));refine cC a j j j j (by rw [rX];omega) (λw a=>?_)
  have a:C o [] [jg aO (i+1)] w:=by
   have h:=a;rw [show 0+(la[i]'b).toNat*1=97+i by omega,CJ i b] at h;exact h
  exact bq 2 j j j (cM i (by omega)) (bP 1 j ⟨i+1,⟨j,j,j,aY⟩,⟨b,a⟩,by omega⟩)
 have d:i=26:=by have:=c;have:la.length=26:=rfl;omega
 subst d;refine bN 3 (U:=(iD 26).toList) j j (by simp [iD]) a.bE (c4 a j j j (by kernel_rfl) (by simp [iD]) (by simp [iD]) (λw a=>?_));have a:=C.whole (U:=(iD 26).toList) a (by simp);refine bI 1 j ⟨_,dp results175 j j j j (a.bE),?_⟩;exact⟨j,a.bare⟩
def tf(s:List UInt8):List UInt8:=(kV s).dropWhile gp
theorem dropWhile_nil:∀l:List UInt8,l.dropWhile gp=[]↔l.all gp=true
 |[]=>by simp
 |x::r=>by
  rw [tX];by_cases h:gp x=true
  .rw [a6 h,dropWhile_nil r];simp [h]
  .rw [aI h];simp [h]
theorem tg(s:List UInt8):decide (tf s=[])=s.all gp:=by
 rw [m9,gd];unfold tf;rw [dropWhile_nil];constructor
 .intro h;rcases rM s.length with c|c
  .rw [p6.1 c];rfl
  .have key:∀(n:Nat)(s:List UInt8),s.length=n->(kV s).all gp=true->s.all gp=true:=by
    intro n;induction n with
    |zero=>intro s aL _;rw [p6.1 aL];rfl
    |succ n g=>
     intro s aL h;have d:0<s.length:=by omega
     by_cases b:gp (s[s.length-1]'(by omega))=true
     .rw [<-AU s d b] at h;have a:=g (s.take (s.length-1)) (by rw [hl];omega) h
      have e:s=s.take (s.length-1)++[s[s.length-1]'(by omega)]:=by
       rw [<-fu (by omega),show s.length-1+1=s.length by omega,gu]
      rw [e,List.all_append,a];simp [b]
     .rw [AV s d (by simpa using b)] at h;exact h
   exact key _ s j h
 .intro h;have a:s.reverse.all gp=true:=by rw [List.all_reverse];exact h
  have f:=(dropWhile_nil s.reverse).2 a;unfold kV;rw [f];rfl
theorem AW{o:World}{s:List UInt8}(g:s≠[])(f:s.length<=1000000):Calls prog 129 #[.string (strOf s),.string (strOf la)] o λr w=>r= .string (strOf (tf s))/\C o [] [] w:=by
 have a:Own [] o:=C.start o;have d:(strOf s==strOf [])=false:=by rw [nG];simp [g]
 have e:(strOf la==strOf [])=false:=by rw [nG];decide
 refine a2 func129 (aq 7 j (oA j j j j ?_));refine aq 1 j (bS 9 (.bool false) j (aH Value.bool (d)) ?_);refine aq 1 j (oA j j j j ?_);refine i0 1 j j (e) (aq 5 j (mQ j j j j ?_));refine aq 2 j (bS 17 (.bool false) j (aH Value.bool (j)) ?_);have b:=FO (o:=o);refine bo 10 b j (λw aa=>?_);have a:=a.aM aa;refine cl 3 a j (λc w a=>c4 a j j j (by kernel_rfl) (by simp [iD]) (by decide) (λw a=>?_));have a:C o [] (jg c 26::_) w:=C.whole (U:=(iD 26).toList) a (by rw [show(iD 26).toList.length=256 by simp [iD]];rfl);have b:=IG a.j7 f;refine bo 8 b j (λw aa=>?_);have a:=a.iu aa;have b:=IF (s:=kV s) a.j7;refine bo 0 b j (λw aa=>?_);have a:=a.iu aa;exact ao 1 j j ⟨j,a.bare⟩
def ld(s:List UInt8):Bool:=s.all gp&&decide (1<=s.length/\s.length<=8)
structure bA where
 k:Int
 c:Int
 s:Int
 eo:List UInt8
 p:Int
 e:Int
 t:Int
 q:Int
 dI:Bool
abbrev bA.cs(I:bA):List Value:=[ad I.k,ad I.c,ad I.s,.string (strOf I.eo),ad I.p,ad I.e,ad I.t,ad I.q,.bool I.dI]
abbrev bD(b:Nat)(I:bA):List Chunk:=R b I.cs.toArray 94
def dd:bA:=⟨0,0,0,[],0,0,0,0,false⟩
def bA.named(I:bA):bA:=
 if I.k=1 then⟨I.k,I.c,I.s,I.eo,0,0,0,0,false⟩
 else if I.k=2 then⟨I.k,I.c,I.s,[],I.p,I.e,I.t,I.q,false⟩
 else if I.k=3 then⟨I.k,I.c,I.s,[],I.p,I.e,I.t,0,I.dI⟩
 else⟨I.k,I.c,I.s,[],0,0,0,0,false⟩
def bA.ids(I:bA):Bool:=I.p==0&&I.e==0&&I.t==0
def gR(I:bA):Bool:=fq I.c 0 15&&fq I.s 0 1048576&&
 (if I.k=1 then ld I.eo&&I.ids&&I.q==0&& !I.dI
  else if I.k=4 then decide (I.eo=[])&&I.ids&&I.q==0&& !I.dI
  else if I.k=2 then decide (I.eo=[])&&iK I.p I.e I.t&&fq I.q 0 3&& !I.dI
  else if I.k=3 then decide (I.eo=[])&&iK I.p I.e I.t&&I.q==0
  else false)
def bA.eq(a b:bA):Bool:=(a.k==b.k)&&((a.c==b.c)&&((a.s==b.s)&&(decide (a.eo=b.eo)&&((a.p==b.p)&&((a.e==b.e)&&((a.t==b.t)&&((a.q==b.q)&&((a.dI==b.dI)&&true))))))))
def bA.mx(I:bA):Bool:=if I.k=1 then(!decide (I.eo=[]))&&decide (I.eo.length<=8)&&I.eo.all gp else decide (I.eo=[])
def lN(I:bA):Bool:=fq I.k 1 4&&(fq I.c 0 15&&(fq I.s 0 1048576&&(I.mx&&(iK I.p I.e I.t&&(fq I.q 0 3&&I.named.eq I)))))
theorem oa(n a b:Int):fq n a b=true↔a<=n/\n<=b:=by unfold fq;rw [decide_eq_true_eq]
theorem bA.eq_iff(a b:bA):a.eq b=true↔a=b:=by
 obtain⟨c,d,a3,a4,a5,e,f,g,a9⟩:=a;obtain⟨ay,aO,h,i,j,k,l,m,n⟩:=b;simp only [bA.eq,Bool.and_true,d8,dY,gd,bA.mk.injEq]
theorem sK(I:bA):lN I=gR I:=by
 rw [m9];obtain⟨k,c,s,eo,p,e,t,q,dI⟩:=I;by_cases f:k=1
 .subst f;simp only [lN,gR,bA.mx,bA.named,bA.ids,bA.eq_iff,ld,iK,oa,kn,d8,ki,gd,mY,dY,bA.mk.injEq];have aJ:eo.length=0↔eo=[]:=p6;constructor
  .rintro⟨_,a,aL,⟨⟨f,g⟩,i⟩,_,_,_,_,_,_,b,he,l,d,j⟩;refine⟨⟨a,aL⟩,⟨⟨⟨i,?_,g⟩,⟨b.symm,he.symm⟩,l.symm⟩,d.symm⟩,j.symm⟩;have:=mt aJ.1 f;omega
  .rintro⟨⟨a,aL⟩,⟨⟨⟨i,f,g⟩,⟨rfl,rfl⟩,rfl⟩,rfl⟩,rfl⟩;refine⟨⟨by omega,by omega⟩,a,aL,⟨⟨λh=>?_,g⟩,i⟩,⟨⟨by omega,by omega⟩,by omega⟩,by omega,?_⟩
   .rw [h] at f;exact absurd f (by decide)
   .simp
 .by_cases g:k=2
  .subst g;simp only [lN,gR,bA.mx,bA.named,bA.ids,bA.eq_iff,iK,oa,kn,lx,d8,ki,gd,dY,bA.mk.injEq,show¬(2:Int)=1 by decide,show¬(2:Int)=4 by decide];constructor
   .rintro⟨_,a,aL,aJ,b,d,_,_,_,_,_,_,_,_,j⟩;exact⟨⟨a,aL⟩,⟨⟨aJ,b⟩,d⟩,j.symm⟩
   .rintro⟨⟨a,aL⟩,⟨⟨aJ,b⟩,d⟩,rfl⟩;refine⟨⟨by omega,by omega⟩,a,aL,aJ,b,d,?_⟩;simp [aJ]
  .by_cases i:k=3
   .subst i;simp only [lN,gR,bA.mx,bA.named,bA.ids,bA.eq_iff,iK,oa,kn,lx,d8,ki,gd,dY,bA.mk.injEq,show¬(3:Int)=1 by decide,show¬(3:Int)=4 by decide,show¬(3:Int)=2 by decide];constructor
    .rintro⟨_,a,aL,aJ,b,d,_,_,_,_,_,_,_,o,_⟩;exact⟨⟨a,aL⟩,⟨aJ,b⟩,o.symm⟩
    .rintro⟨⟨a,aL⟩,⟨aJ,b⟩,rfl⟩;refine⟨⟨by omega,by omega⟩,a,aL,aJ,b,⟨by omega,by omega⟩,?_⟩;simp [aJ]
   .by_cases m:k=4
    .subst m;simp only [lN,gR,bA.mx,bA.named,bA.ids,bA.eq_iff,iK,oa,kn,lx,d8,ki,gd,dY,bA.mk.injEq,show¬(4:Int)=1 by decide,show¬(4:Int)=3 by decide,show¬(4:Int)=2 by decide];constructor
     .rintro⟨_,a,aL,aJ,_,_,_,_,_,_,b,he,l,d,j⟩;exact⟨⟨a,aL⟩,⟨⟨aJ,⟨b.symm,he.symm⟩,l.symm⟩,d.symm⟩,j.symm⟩
     .rintro⟨⟨a,aL⟩,⟨⟨aJ,⟨rfl,rfl⟩,rfl⟩,rfl⟩,rfl⟩;refine⟨⟨by omega,by omega⟩,a,aL,aJ,⟨⟨by omega,by omega⟩,by omega⟩,⟨by omega,by omega⟩,?_⟩;simp [aJ]
    .have n:¬(1<=k/\k<=4):=by omega
     simp only [lN,gR,aI f,aI g,aI i,aI m,oa,d8,nU,n,false_and,Bool.false_eq_true]
theorem wi(s:List UInt8):(strOf s==⟨#[]⟩)=decide (s=[]):=nG s []
theorem bA.g1(I:bA):I.cs.toArray[0]? =some (.int .i64 I.k):=rfl
theorem bA.aX(I:bA):I.cs.toArray[1]? =some (.int .i64 I.c):=rfl
theorem bA.dv(I:bA):I.cs.toArray[2]? =some (.int .i64 I.s):=rfl
theorem bA.gI(I:bA):I.cs.toArray[3]? =some (.string (strOf I.eo)):=rfl
theorem bA.fl(I:bA):I.cs.toArray[4]? =some (.int .i64 I.p):=rfl
theorem bA.gl(I:bA):I.cs.toArray[5]? =some (.int .i64 I.e):=rfl
theorem bA.eu(I:bA):I.cs.toArray[6]? =some (.int .i64 I.t):=rfl
theorem bA.dz(I:bA):I.cs.toArray[7]? =some (.int .i64 I.q):=rfl
theorem bA.eC(I:bA):I.cs.toArray[8]? =some (.bool I.dI):=rfl
theorem Ei(a b:bA)(w:World):(Op.equalIn 10000 94 (.agg a.cs.toArray) (.agg b.cs.toArray)).run prog w= .ok (a.eq b) w:=by
 have hu:prog.underlying 3=some (.int .i64):=(inferInstance:bB prog 3 (.int .i64)).h;have aL:prog.underlying 9=some .string:=(inferInstance:bB prog 9 .string).h;have c:prog.underlying 4=some .bool:=(inferInstance:bB prog 4 .bool).h;rw [run_equalIn_agg w 9999 94 _ _ (by kernel_rfl) (by kernel_rfl)];exact kr (by decide) hu j j (kr (by decide) hu j j (kr (by decide) hu j j (Eg (by decide) aL j j (kr (by decide) hu j j (kr (by decide) hu j j (kr (by decide) hu j j (kr (by decide) hu j j (Ef (by decide) c j j uS))))))))
theorem F3{o:World}{I:bA}:Calls prog 136 #[.agg I.cs.toArray] o λr w=>r= .agg I.named.cs.toArray/\C o [] [] w:=by
 have a:Own [] o:=C.start o;refine e9 func136 (bM 2 a j j (λay w a=>cl 0 a j (λaO w a=>?_)));have a:=a.f1;refine al 3 j (a.cell I.g1) (al 1 j (a.cell I.aX) (al 1 j (a.cell I.dv) (cP (c:=(bA.mk I.k I.c I.s [] 0 0 0 0 false).cs.toArray) j j j (λ_=>by kernel_rfl) (cl 0 a j (λi w a=>ck 0 a j j j j j (λw a=>?_))))));have a:=C.whole (U:=(bA.mk I.k I.c I.s [] 0 0 0 0 false).cs) a j;refine mm 0 j (λZ w=>sub Z [(1,ab ay),(2,ab aO),(3,ab i)]/\C o [] [bD i I.named,bD ay I,bD aO dd] w) ?_ ?_
 .refine al 3 j (a.f1.cell I.g1) (bm 5 j j (λd=>?_) (λd=>?_))
  .refine al 2 j (a.f1.cell I.gI) (dB 1 a j j j j (λw a=>bP 0 j (⟨⟨j,j,j,aY⟩,?_⟩)));unfold bA.named
   first
    |(have h:=dY.1 d;rw [a6 h];exact a)
    |(have b:=ft.1 d;have h:=dY.1 f;rw [aI b,a6 h];exact a)
    |(have b:=ft.1 d;have e:=ft.1 f;have h:=dY.1 g;rw [aI b,aI e,a6 h];exact a)
    |(have b:=ft.1 d;have e:=ft.1 f;have h:=ft.1 g;rw [aI b,aI e,aI h];exact a)
  refine bm 4 j j (λf=>?_) (λf=>?_)
  .have a:=a.drew;refine bw 0 j (λw=>∃x,C o [] [R i x 94,bD ay I,bD aO dd] w) ⟨_,a⟩ (af 0 1 j (bT 1 j (λw⟨_,a⟩=>C.cell (C.f1 a) I.fl) (af 2 1 j (bT 3 j (λw⟨_,a⟩=>C.cell (C.f1 a) I.gl) (af 4 1 j (bT 5 j (λw⟨_,a⟩=>C.cell (C.f1 a) I.eu) (af 6 1 j (bT 7 j (λw⟨_,a⟩=>C.cell (C.f1 a) I.dz) (af 8 1 j (aU 9 j (cC a j j j j bJ (λw a=>ar ⟨⟨_,a⟩,?_⟩))))))))))));refine af 10 1 j (aU 11 j (cC a j j j j bJ (λw a=>ar ⟨⟨_,a⟩,?_⟩)));refine af 12 1 j (aU 13 j (cC a j j j j bJ (λw a=>ar ⟨⟨_,a⟩,?_⟩)));refine af 14 1 j (aU 15 j (cC a j j j j bJ (λw a=>ar ⟨⟨_,a⟩,?_⟩)));refine bK (bP 0 j (⟨⟨j,j,j,aY⟩,?_⟩));unfold bA.named
   first
    |(have h:=dY.1 d;rw [a6 h];exact a)
    |(have b:=ft.1 d;have h:=dY.1 f;rw [aI b,a6 h];exact a)
    |(have b:=ft.1 d;have e:=ft.1 f;have h:=dY.1 g;rw [aI b,aI e,a6 h];exact a)
    |(have b:=ft.1 d;have e:=ft.1 f;have h:=ft.1 g;rw [aI b,aI e,aI h];exact a)
  refine bm 4 j j (λg=>?_) (λg=>?_);have a:=a.drew;refine bw 0 j (λw=>∃x,C o [] [R i x 94,bD ay I,bD aO dd] w) ⟨_,a⟩ (af 0 1 j (bT 1 j (λw⟨_,a⟩=>C.cell (C.f1 a) I.fl) (af 2 1 j (bT 3 j (λw⟨_,a⟩=>C.cell (C.f1 a) I.gl) (af 4 1 j (bT 5 j (λw⟨_,a⟩=>C.cell (C.f1 a) I.eu) (af 6 1 j (bT 7 j (λw⟨_,a⟩=>C.cell (C.f1 a) I.eC) (af 8 1 j (aU 9 j (cC a j j j j bJ (λw a=>ar ⟨⟨_,a⟩,?_⟩))))))))))));refine af 10 1 j (aU 11 j (cC a j j j j bJ (λw a=>ar ⟨⟨_,a⟩,?_⟩)));refine af 12 1 j (aU 13 j (cC a j j j j bJ (λw a=>ar ⟨⟨_,a⟩,?_⟩)));refine af 14 1 j (aU 15 j (cC a j j j j bJ (λw a=>ar ⟨⟨_,a⟩,?_⟩)));refine bK (bP 0 j ?_);rotate_left
  refine bP 1 j ?_;rotate_left
  all_goals
   refine⟨⟨j,j,j,aY⟩,?_⟩;unfold bA.named
   first
    |(have h:=dY.1 d;rw [a6 h];exact a)
    |(have b:=ft.1 d;have h:=dY.1 f;rw [aI b,a6 h];exact a)
    |(have b:=ft.1 d;have e:=ft.1 f;have h:=dY.1 g;rw [aI b,aI e,a6 h];exact a)
    |(have b:=ft.1 d;have e:=ft.1 f;have h:=ft.1 g;rw [aI b,aI e,aI h];exact a)
 rintro Z w ⟨aL,a⟩;refine l4 [(1,ab ay),(2,ab aO),(3,ab i)] aL (bN 2 (U:=I.named.cs) j j j a.bE (ck 0 a.f2 j j j j j (λw a=>?_)));have a:=C.whole (U:=I.named.cs) a j;refine bI 0 j ⟨_,hf results136 j j j (a.bE),?_⟩;exact⟨j,a.bare⟩
theorem yO{o:World}{I:bA}:Calls prog 73 #[.agg I.cs.toArray] o λr w=>r= .bool (gR I)/\C o [] [] w:=by
 have d:Own [] o:=C.start o;refine a2 func73 (bM 2 d j j (λay w d=>al 4 j (d.cell I.gI) (oA j j j j (bS 6 (.bool (decide (I.eo=[]))) j (aH Value.bool (wi I.eo)) (mm 1 j (λZ w=>sub Z [(1,ab ay),(3,.bool I.mx)]/\C o [] [bD ay I] w) ?_ ?_)))))
 .refine al 3 j (d.cell I.g1) (bm 1 j j (λz=>?_) (λz=>?_));refine al 2 j (d.cell I.gI) (wM j j j j (wi I.eo) (aq 1 j (cQ 13 j (λg=>?_) (λg=>?_))))
  .refine al 1 j (d.cell I.gI) (mQ j j j j (aq 3 j (cQ 19 j (λi=>?_) (λi=>?_))));refine al 1 j (d.cell I.gI) ?_;have A:I.eo≠[]:=by simpa using g
   have hle:I.eo.length<=8:=by have:=dj i;omega
   have f:=AW (o:=w) A (by omega);refine bo 0 f j (λw aa=>?_);have d:=d.aM aa;refine oA j j j j (bS 23 (.bool (I.eo.all gp)) j (aH Value.bool ((wi _).trans (tg I.eo))) (bP 2 j ?_));rotate_left
   refine bP 6 j ?_;rotate_left
   all_goals
    refine⟨⟨j,aH (λb=>some (Value.bool b)) ?_,aY⟩,d⟩;unfold bA.mx
    simp_all
    all_goals (intro h;omega)
  refine aq 6 j (bS 19 (.bool false) j (aH Value.bool (j)) ?_);refine bP 6 j ?_;rotate_left
  refine bP 1 j ?_;rotate_left
  all_goals
   refine⟨⟨j,aH (λb=>some (Value.bool b)) ?_,aY⟩,d⟩;unfold bA.mx
   simp_all
   all_goals (intro h;omega)
 rintro Z w ⟨aL,d⟩;refine l4 [(1,ab ay),(3,.bool I.mx)] aL ?_;have d:=d.drew;refine bw 1 j (λw=>∃ae,C o [] ([bD ay I]++ae) w) ⟨_,d⟩ (af 0 1 j (bT 1 j (λw⟨_,d⟩=>C.cell d I.g1) (aU 2 j ?_)));have f:=iZ (o:=w.drew) (n:=I.k) (a:=1) (b:=4);refine bF j j j f (λw aa=>?_);have d:=d.aM aa;refine ar ⟨⟨_,d⟩,?_⟩;refine af 3 1 j (ef 28 j (λl=>?_) (λl=>?_))
 .refine af 4 1 j (bT 5 j (λw⟨_,d⟩=>C.cell d I.aX) (aU 6 j ?_));have f:=iZ (o:=w) (n:=I.c) (a:=0) (b:=15);refine bF j j j f (λw aa=>?_);have d:=d.aM aa;refine ar ⟨⟨_,d⟩,?_⟩;refine af 7 2 j (ef 33 j (λm=>?_) (λm=>?_));refine af 9 1 j (bT 10 j (λw⟨_,d⟩=>C.cell d I.dv) (aU 11 j ?_));have f:=iZ (o:=w) (n:=I.s) (a:=0) (b:=1048576);refine bF j j j f (λw aa=>?_);have d:=d.aM aa;refine ar ⟨⟨_,d⟩,?_⟩;refine af 12 2 j (ef 38 j (λu=>?_) (λu=>?_))
  .refine af 14 3 j (ef 41 j (λv=>?_) (λv=>?_));refine af 17 1 j (bT 18 j (λw⟨_,d⟩=>C.cell d I.fl) (af 19 1 j (bT 20 j (λw⟨_,d⟩=>C.cell d I.gl) (af 21 1 j (bT 22 j (λw⟨_,d⟩=>C.cell d I.eu) (aU 23 j ?_))))));have f:=yP (o:=w) (p:=I.p) (e:=I.e) (t:=I.t);refine bF j j j f (λw aa=>?_);have d:=d.aM aa;refine ar ⟨⟨_,d⟩,?_⟩;refine af 24 2 j (ef 50 j (λx=>?_) (λx=>?_))
   .refine af 26 1 j (bT 27 j (λw⟨_,d⟩=>C.cell d I.dz) (aU 28 j ?_));have f:=iZ (o:=w) (n:=I.q) (a:=0) (b:=3);refine bF j j j f (λw aa=>?_);have d:=d.aM aa;refine ar ⟨⟨_,d⟩,?_⟩;refine af 29 2 j (ef 55 j (λy=>?_) (λy=>?_));refine aT 31 j (λw⟨_,d⟩=>c3 (U:=I.cs) j j j (C.bE d)) (aT 33 j (λw⟨_,d⟩=>c3 (U:=I.cs) j j j (C.bE d)) (aU 32 j ?_));have f:=F3 (o:=w) (I:=I);refine bF j j j f (λw aa=>?_);have d:=d.aM aa;refine ar ⟨⟨_,d⟩,?_⟩;refine aT 34 j (λw⟨_,d⟩=>oy j j (by kernel_rfl) (λw=>Ei _ _ w)) (af 35 2 j ?_);rotate_left
    refine fH 6 [31,33,32,34,35,36] j ?_;rotate_left
    all_goals
     refine bK (ao 0 j j (⟨aH Value.bool ?_,d.bare⟩));rw [<-sK];unfold lN
     simp_all
   refine fH 11 [26,27,28,29,30,31,33,32,34,35,36] j ?_;rotate_left
   refine fH 20 [17,18,19,20,21,22,23,24,25,26,27,28,29,30,31,33,32,34,35,36] j ?_;rotate_left
   all_goals
    refine bK (ao 0 j j (⟨aH Value.bool ?_,d.bare⟩));rw [<-sK];unfold lN
    simp_all
  refine fH 23 [14,15,16,17,18,19,20,21,22,23,24,25,26,27,28,29,30,31,33,32,34,35,36] j ?_;rotate_left
  refine fH 28 [9,10,11,12,13,14,15,16,17,18,19,20,21,22,23,24,25,26,27,28,29,30,31,33,32,34,35,36] j ?_;rotate_left
  all_goals
   refine bK (ao 0 j j (⟨aH Value.bool ?_,d.bare⟩));rw [<-sK];unfold lN
   simp_all
 refine fH 33 [4,5,6,7,8,9,10,11,12,13,14,15,16,17,18,19,20,21,22,23,24,25,26,27,28,29,30,31,33,32,34,35,36] j (bK (ao 0 j j (⟨aH Value.bool ?_,d.bare⟩)));rw [<-sK];unfold lN
 simp_all
def ng(b:Bool):Int:=if b then 1 else 0
def i4(I:bA):List UInt8:=ea [2,I.k,I.c,I.s]++hA I.eo++ea [I.p,I.e,I.t,I.q,ng I.dI]
theorem GF{I:bA}(h:gR I=true):I.eo.length<=8:=by
 unfold gR at h;simp only [d8] at h;obtain⟨_,h⟩:=h;split at h
 .simp only [d8,ld,gd] at h;omega
 .split at h
  .simp only [d8,gd] at h;rw [h.1.1.1];decide
  .split at h
   .simp only [d8,gd] at h;rw [h.1.1.1];decide
   .split at h
    .simp only [d8,gd] at h;rw [h.1.1];decide
    .cases h
theorem Gz{I:bA}(h:I.eo.length<=100):(i4 I).length<=200:=by
 have a:=gg [2,I.k,I.c,I.s];have b:=gg [I.p,I.e,I.t,I.q,ng I.dI];have d:=jH I.eo (by omega);simp only [ez,gk] at a b;unfold i4;simp only [b4];omega
theorem uO{o:World}{I:bA}:Calls prog 40 #[.agg I.cs.toArray] o λr w=>∃v G,r= .tuple #[v,.int .i64 (if gR I then 0 else 1)]/\dt v (if gR I then i4 I else []) G/\C o [] [G] w:=by
 have a:Own [] o:=C.start o;refine a2 func40 ?_;refine bM 2 a j j (λay w a=>?_);refine bN 5 (U:=I.cs) j j j a.bE ?_;have d:=yO (o:=w) (I:=I);refine bo 0 d j (λw aa=>?_);have a:=a.aM aa;refine bm 1 j j (λeC=>?_) (λeC=>?_)
 .refine ao 4 j j ?_;have hm:gR I=false:=by simpa using eC
  rw [hm];exact⟨_,[],j,Row.nil _ _,a.bare.empty⟩
 have hm:gR I=true:=by simpa using eC
 have M:=GF hm;have D:=gg [2,I.k,I.c,I.s];have E:=gg [I.p,I.e,I.t,I.q,ng I.dI];have L:=jH I.eo (by omega);simp only [ez,gk] at D E;refine mm 4 j (λZ w=>sub Z [(1,ab ay),(4,.int .i64 (ng I.dI))]/\C o [] [bD ay I] w) ?_ ?_
 .refine al 3 j (a.cell I.eC) ?_;refine bm 0 j j (λl=>?_) (λl=>?_);refine bP 2 j ?_;rotate_left
  refine bP 1 j ?_;rotate_left
  all_goals
   refine⟨⟨j,aH (λb=>some (Value.int .i64 b)) ?_,aY⟩,a⟩;unfold ng
   first
    |rw [a6 l]
    |rw [aI (by rw [l];decide)]
 rintro Z w ⟨aL,a⟩;refine l4 [(1,ab ay),(4,.int .i64 (ng I.dI))] aL ?_;refine cl 2 a j (λi w a=>?_);have a:C o [] [e0 i (.slice none 0 0),bD ay I] w:=a;have a:=a.f1;refine al 3 j (a.cell I.g1) ?_;refine al 1 j (a.cell I.aX) ?_;refine al 1 j (a.cell I.dv) ?_;refine eO a j j j j j j bJ (λH w a=>?_);have aJ:=a.bE;have g:=a.iV (off:=0) (sp:=none) (U:=[2,I.k,I.c,I.s].map ad);have a:=a.f2.empty.f1;have d:=lg (aD:=[]) (cO:=[2,I.k,I.c,I.s]) (c:=4) a.cB (Row.nil _ _) aJ (g.kU (by simp) (λb z=>fI (fy:=[e0 i (.slice none 0 0)]) (by simp) b (by simpa [au] using z))) (by simp);refine bo 0 d j (λw⟨v1,h,f,aa⟩=>?_);have a:=(a.cA aa).f2.drop;rw [jV] at f;refine al 3 j (a.f2.cell I.gI) ?_;refine BR a j j j (λm K u w B a=>?_);refine eO a j j j j j j bJ (λn w a=>?_);have F:=a.f1.i6 B;have y:=a.f1.iV (off:=0) (sp:=none) (U:=aG I.eo);have aJ:=a.bE;have g:=a.iV (off:=0) (sp:=none) (U:=[.slice (some ⟨m,0,none⟩) I.eo.length u]);have a:=a.f2.f3.f1;have A:kX w (some ⟨n,0,none⟩) [I.eo] (au [e0 i v1,h]):=kX.one aJ j (g.sub (fI (by simp))) F (y.sub (fI (by simp)));have d:=uy (c:=1) a.cB f A (by simp only [i9,jT,rG,List.sum_cons,List.sum_nil];omega);refine bo 0 d j (λw⟨v1,h,f,aa⟩=>?_);have a:=(a.cA aa).f2.drop.f2.drop;rw [show jI [I.eo]=hA I.eo from by simp [jI]] at f;have a:=a.f2;refine al 3 j (a.cell I.fl) ?_;refine al 1 j (a.cell I.gl) ?_;refine al 1 j (a.cell I.eu) ?_;refine al 1 j (a.cell I.dz) ?_;have a:=a.f2.f2;refine aq 1 j (eO a j j j j j j bJ (λJ w a=>?_));have aJ:=a.bE;have g:=a.iV (off:=0) (sp:=none) (U:=[I.p,I.e,I.t,I.q,ng I.dI].map ad);have a:=a.f1.f2.f1;have d:=lg (aD:=ea [2,I.k,I.c,I.s]++hA I.eo) (cO:=[I.p,I.e,I.t,I.q,ng I.dI]) (c:=5) a.cB f aJ (g.kU (by simp) (fI (by simp))) (by simp only [b4,List.length_cons,List.length_nil];omega);refine bo 0 d j (λw⟨v1,h,f,aa⟩=>?_);have a:=(a.cA aa).f2.drop;have d:=qM a.cB f (by simp only [b4];omega);refine bh 2 d j (λr w⟨G,x,aa⟩=>?_);have a:=(a.cA aa).hT;refine ao 2 j j ?_;rw [hm];exact⟨_,G,j,x,a⟩
theorem Ai(s:ee)(a:s.left.length<=1000000000):(eb s).2.left.length<=1000000000:=by
 have key:∀(l:List UInt8)(i u:Nat)(x:Nat×List UInt8),lI i u l=some x->x.2.length<=l.length:=by
  intro l;induction l with
  |nil=>intro i u x h;simp [lI] at h
  |cons c r d=>
   intro i u x h;rw [lJ] at h;split at h
   .cases h
   .split at h
    .split at h
     .cases h
     .cases h;simp
    .have:=d _ _ _ h;simp only [ez];omega
 cases s with
 |none=>exact a
 |some l=>
  unfold eb;dsimp only;cases b:dec l with
  |none=>simp [ee.left]
  |some x=>
   obtain⟨u,r⟩:=x;have:=key l 0 0 (u,r) b;dsimp only at this;simp only [ee.left,l8] at a⊢;omega
theorem qS{o:World}{r:Nat}{v0:Value}{cU:Bool}{G:List Chunk}{s:ee}(a:Own [hd r v0 cU,G] o)(f:hO v0 cU s G)(d:s.left.length<=1000000000):
 Calls prog 201 #[ab r] o λx w=>∃v b c,dt x (lj s).1 c/\hO v b (lj s).2 G/\C o (au [hd r v0 cU,G]) [c,hd r v b,G] w:=by
 refine a2 func201 (bo 7 (eH a.cB f d) j (λw⟨v,b,g,aa⟩=>?_));have a:=a.cA aa;refine bh 0 (Hs a.cB g (Ai s d)) j (λx w⟨v2,aO,c,e,h,aa⟩=>?_);have a:=a.cA aa;exact ao 1 j j ⟨v2,aO,c,e,h,a⟩
theorem Hr(s:ee)(n:Int)(a:s.left.length<=1000000000):(iM s n).2.left.length<=1000000000/\(iM s n).1.length<=1000000000:=by
 cases s with
 |none=>exact⟨by simp [iM,ee.left],by simp [iM]⟩
 |some l=>
  have a:l.length<=1000000000:=a;unfold iM;dsimp only;split
  .exact⟨by simp [ee.left],by simp⟩
  .refine⟨?_,?_⟩
   .simp only [ee.left,l8,iT];omega
   .simp only [hl];omega
theorem Ha(s:ee)(a:s.left.length<=1000000000):(lj s).2.left.length<=1000000000/\(lj s).1.length<=1000000000:=Hr _ _ (Ai s a)
theorem ev{o w:World}{F:List Nat}{ae:List (List Chunk)}{A:Option Addr}{n c:Nat}{aD:List UInt8}{G:List Chunk}(a:dt (.slice A n c) aD G)(h:C o F (G::ae) w):Rd w A (aG aD):=by
 obtain⟨_,_,b,_,_,aJ,_⟩:=a.rd h;cases b;exact aJ
def fL(s:ee):ee:=(lj (e4 s 3)).2
def ie(s:ee):bA:=⟨((eb s).1:Nat),((eb (e4 s 1)).1:Nat),((eb (e4 s 2)).1:Nat),(lj (e4 s 3)).1,((eb (fL s)).1:Nat),((eb (e4 (fL s) 1)).1:Nat),((eb (e4 (fL s) 2)).1:Nat),((eb (e4 (fL s) 3)).1:Nat),false⟩
def mz(s:ee):Nat:=(eb (e4 (fL s) 4)).1
def mA(s:ee):bA:={ie s with dI:=((mz s:Nat):Int)==1}
def zw(s:ee):ee:=e4 (fL s) 5
def j6(s:ee):Bool:=decide (zw s=some [])&&(decide (mz s<=1)&&gR (mA s))
theorem C7(aD:List UInt8)(k:Int)(a:aD.length<=1000000000):(b2 aD k).left.length<=1000000000:=by
 unfold b2;split
 .exact wc (some aD) a
 .simp [ee.left]
theorem GI(s:ee)(a:s.left.length<=1000000000):(fL s).left.length<=1000000000:=(Ha _ (eV s a 3)).1
theorem DU{o:World}{A:Option Addr}{aD:List UInt8}{c:Nat}(u:Rd o A (aG aD))(t:aD.length<=1000000000):
 Calls prog 147 #[.slice A aD.length c] o λx w=>x= .tuple #[.agg (if j6 (b2 aD 2) then mA (b2 aD 2) else dd).cs.toArray,.int .i64 (if j6 (b2 aD 2) then 0 else 2)]/\C o [] [] w:=by
 have a:Own [] o:=C.start o;have l:=C7 aD 2 t;have i:=GI (b2 aD 2) l;refine e9 func147 ?_;refine cl 2 a j (λaO w a=>?_);have f:=xt (c:=c) (k:=2) (a.rd u (bX.of_nil _ _)) t;refine bh 4 f j (λx w⟨r,v,b,G,y,e,aa⟩=>?_);subst y;have a:=a.aM aa;refine mm 1 j (λZ w=>∃v b m,sub Z [(2,ab aO),(3,.int .i64 0),(4,ab r),(5,ab m)]/\hO v b (e4 (fL (b2 aD 2)) 4) G/\C o [] [hd r v b,G,bD m (ie (b2 aD 2)),bD aO dd] w) ?_ ?_
 .skip
  refine mn 0 j (λw=>∃ae,C o [] ae w) ?_;have a:=a.drew;refine fV 8 [0,2,4,6,9,11,13,15] j ⟨_,a⟩ ?_;refine lq 1 18 j j (by kernel_rfl) ?_ ?_
  .skip
   have f:=eH a.cB e (l);refine bF j j j f (λw⟨v,b,e,aa⟩=>?_);have a:=a.cA aa;refine ar ⟨⟨_,a⟩,?_⟩;refine lq 3 18 j j (by kernel_rfl) ?_ ?_
   .skip
    have f:=eH a.cB e (eV (b2 aD 2) l 1);refine bF j j j f (λw⟨v,b,e,aa⟩=>?_);have a:=a.cA aa;refine ar ⟨⟨_,a⟩,?_⟩;refine lq 5 18 j j (by kernel_rfl) ?_ ?_
    .skip
     have f:=eH a.cB e (eV (b2 aD 2) l 2);refine bF j j j f (λw⟨v,b,e,aa⟩=>?_);have a:=a.cA aa;refine ar ⟨⟨_,a⟩,?_⟩;refine lq 7 18 j j (by kernel_rfl) ?_ ?_
     .skip
      have f:=qS a.cB e (eV (b2 aD 2) l 3);refine cN j j j f (λx w⟨v,b,bV,g,e,aa⟩=>?_);have a:=(a.cA aa).f1.f2.f1;obtain⟨n,dz,rfl,_⟩:=g.form;have d:=ev g a.f2;refine ar ⟨⟨_,a⟩,?_⟩;refine pM (λw=>(λw=>∃ae,C o [] ae w) w/\Rd w n (aG (lj (e4 (b2 aD 2) 3)).1)) (λw h=>h.1) ?_;refine eM 8 j ⟨⟨_,a⟩,d⟩ (λw hw=>oz j hw.2) ?_;refine lq 10 18 j j (by kernel_rfl) ?_ ?_
      .skip
       have f:=eH a.cB e (i);refine bF j j j f (λw⟨v,b,e,aa⟩=>?_);have a:=a.cA aa;have d:=ev g a.f2;refine ar ⟨⟨⟨_,a⟩,d⟩,?_⟩;refine lq 12 18 j j (by kernel_rfl) ?_ ?_
       .skip
        have f:=eH a.cB e (eV (fL (b2 aD 2)) i 1);refine bF j j j f (λw⟨v,b,e,aa⟩=>?_);have a:=a.cA aa;have d:=ev g a.f2;refine ar ⟨⟨⟨_,a⟩,d⟩,?_⟩;refine lq 14 18 j j (by kernel_rfl) ?_ ?_
        .skip
         have f:=eH a.cB e (eV (fL (b2 aD 2)) i 2);refine bF j j j f (λw⟨v,b,e,aa⟩=>?_);have a:=a.cA aa;have d:=ev g a.f2;refine ar ⟨⟨⟨_,a⟩,d⟩,?_⟩;refine lq 16 18 j j (by kernel_rfl) ?_ ?_
         .skip
          have f:=eH a.cB e (eV (fL (b2 aD 2)) i 3);refine bF j j j f (λw⟨v,b,e,aa⟩=>?_);have a:=a.cA aa;have d:=ev g a.f2;refine ar ⟨⟨⟨_,a⟩,d⟩,?_⟩;refine eM 17 j ⟨⟨_,a⟩,d⟩ (λw _=>e1 (c:=(ie (b2 aD 2)).cs.toArray) j (λ_=>by kernel_rfl)) ?_;refine dZ 18 j ?_;refine ex a j j (λm w a=>?_);have a:=a.f3.f3.f3;have d:=ev g a.f2;refine ar ⟨⟨⟨_,a⟩,d⟩,?_⟩;refine dZ 19 j ?_;refine c4 a.f3 j j j j j bJ (λw a=>?_);have a:=(C.whole (U:=(ie (b2 aD 2)).cs) a j).f3.f3.f3;have d:=ev g a.f2;refine ar ⟨⟨⟨_,a⟩,d⟩,?_⟩;refine cX ?_;refine bP 0 j ?_;exact⟨_,_,_,⟨j,j,j,j,aY⟩,e,a.f2.drop⟩
         .skip
          refine ex a j j (λm w a=>?_);have a:=a.f3.f3.f3;have d:=ev g a.f2;refine ar ⟨⟨⟨_,a⟩,d⟩,?_⟩;refine dZ 16 j ?_;have f:=eH a.cB e (eV (fL (b2 aD 2)) i 3);refine bF j j j f (λw⟨v,b,e,aa⟩=>?_);have a:=a.cA aa;have d:=ev g a.f2;refine ar ⟨⟨⟨_,a⟩,d⟩,?_⟩;refine eM 17 j ⟨⟨_,a⟩,d⟩ (λw _=>e1 (c:=(ie (b2 aD 2)).cs.toArray) j (λ_=>by kernel_rfl)) ?_;refine dZ 19 j ?_;refine c4 a.f3 j j j j j bJ (λw a=>?_);have a:=(C.whole (U:=(ie (b2 aD 2)).cs) a j).f3.f3.f3;have d:=ev g a.f2;refine ar ⟨⟨⟨_,a⟩,d⟩,?_⟩;refine cX ?_;refine bP 0 j ?_;exact⟨_,_,_,⟨j,j,j,j,aY⟩,e,a.f2.drop⟩
        .skip
         refine ex a j j (λm w a=>?_);have a:=a.f3.f3.f3;have d:=ev g a.f2;refine ar ⟨⟨⟨_,a⟩,d⟩,?_⟩;refine dZ 14 j ?_;have f:=eH a.cB e (eV (fL (b2 aD 2)) i 2);refine bF j j j f (λw⟨v,b,e,aa⟩=>?_);have a:=a.cA aa;have d:=ev g a.f2;refine ar ⟨⟨⟨_,a⟩,d⟩,?_⟩;refine dZ 16 j ?_;have f:=eH a.cB e (eV (fL (b2 aD 2)) i 3);refine bF j j j f (λw⟨v,b,e,aa⟩=>?_);have a:=a.cA aa;have d:=ev g a.f2;refine ar ⟨⟨⟨_,a⟩,d⟩,?_⟩;refine eM 17 j ⟨⟨_,a⟩,d⟩ (λw _=>e1 (c:=(ie (b2 aD 2)).cs.toArray) j (λ_=>by kernel_rfl)) ?_;refine dZ 19 j ?_;refine c4 a.f3 j j j j j bJ (λw a=>?_);have a:=(C.whole (U:=(ie (b2 aD 2)).cs) a j).f3.f3.f3;have d:=ev g a.f2;refine ar ⟨⟨⟨_,a⟩,d⟩,?_⟩;refine cX ?_;refine bP 0 j ?_;exact⟨_,_,_,⟨j,j,j,j,aY⟩,e,a.f2.drop⟩
       .skip
        refine ex a j j (λm w a=>?_);have a:=a.f3.f3.f3;have d:=ev g a.f2;refine ar ⟨⟨⟨_,a⟩,d⟩,?_⟩;refine dZ 12 j ?_;have f:=eH a.cB e (eV (fL (b2 aD 2)) i 1);refine bF j j j f (λw⟨v,b,e,aa⟩=>?_);have a:=a.cA aa;have d:=ev g a.f2;refine ar ⟨⟨⟨_,a⟩,d⟩,?_⟩;refine dZ 14 j ?_;have f:=eH a.cB e (eV (fL (b2 aD 2)) i 2);refine bF j j j f (λw⟨v,b,e,aa⟩=>?_);have a:=a.cA aa;have d:=ev g a.f2;refine ar ⟨⟨⟨_,a⟩,d⟩,?_⟩;refine dZ 16 j ?_;have f:=eH a.cB e (eV (fL (b2 aD 2)) i 3);refine bF j j j f (λw⟨v,b,e,aa⟩=>?_);have a:=a.cA aa;have d:=ev g a.f2;refine ar ⟨⟨⟨_,a⟩,d⟩,?_⟩;refine eM 17 j ⟨⟨_,a⟩,d⟩ (λw _=>e1 (c:=(ie (b2 aD 2)).cs.toArray) j (λ_=>by kernel_rfl)) ?_;refine dZ 19 j ?_;refine c4 a.f3 j j j j j bJ (λw a=>?_);have a:=(C.whole (U:=(ie (b2 aD 2)).cs) a j).f3.f3.f3;have d:=ev g a.f2;refine ar ⟨⟨⟨_,a⟩,d⟩,?_⟩;refine cX ?_;refine bP 0 j ?_;exact⟨_,_,_,⟨j,j,j,j,aY⟩,e,a.f2.drop⟩
      .skip
       refine ex a j j (λm w a=>?_);have a:=a.f3.f3.f3;have d:=ev g a.f2;refine ar ⟨⟨⟨_,a⟩,d⟩,?_⟩;refine dZ 10 j ?_;have f:=eH a.cB e (i);refine bF j j j f (λw⟨v,b,e,aa⟩=>?_);have a:=a.cA aa;have d:=ev g a.f2;refine ar ⟨⟨⟨_,a⟩,d⟩,?_⟩;refine dZ 12 j ?_;have f:=eH a.cB e (eV (fL (b2 aD 2)) i 1);refine bF j j j f (λw⟨v,b,e,aa⟩=>?_);have a:=a.cA aa;have d:=ev g a.f2;refine ar ⟨⟨⟨_,a⟩,d⟩,?_⟩;refine dZ 14 j ?_;have f:=eH a.cB e (eV (fL (b2 aD 2)) i 2);refine bF j j j f (λw⟨v,b,e,aa⟩=>?_);have a:=a.cA aa;have d:=ev g a.f2;refine ar ⟨⟨⟨_,a⟩,d⟩,?_⟩;refine dZ 16 j ?_;have f:=eH a.cB e (eV (fL (b2 aD 2)) i 3);refine bF j j j f (λw⟨v,b,e,aa⟩=>?_);have a:=a.cA aa;have d:=ev g a.f2;refine ar ⟨⟨⟨_,a⟩,d⟩,?_⟩;refine eM 17 j ⟨⟨_,a⟩,d⟩ (λw _=>e1 (c:=(ie (b2 aD 2)).cs.toArray) j (λ_=>by kernel_rfl)) ?_;refine dZ 19 j ?_;refine c4 a.f3 j j j j j bJ (λw a=>?_);have a:=(C.whole (U:=(ie (b2 aD 2)).cs) a j).f3.f3.f3;have d:=ev g a.f2;refine ar ⟨⟨⟨_,a⟩,d⟩,?_⟩;refine cX ?_;refine bP 0 j ?_;exact⟨_,_,_,⟨j,j,j,j,aY⟩,e,a.f2.drop⟩
     .skip
      refine ex a j j (λm w a=>?_);have a:=a.f1.f2.f1;refine ar ⟨⟨_,a⟩,?_⟩;refine dZ 7 j ?_;have f:=qS a.cB e (eV (b2 aD 2) l 3);refine cN j j j f (λx w⟨v,b,bV,g,e,aa⟩=>?_);have a:=(a.cA aa).f1.f2.f1;obtain⟨n,dz,rfl,_⟩:=g.form;have d:=ev g a.f2;refine ar ⟨⟨_,a⟩,?_⟩;refine pM (λw=>(λw=>∃ae,C o [] ae w) w/\Rd w n (aG (lj (e4 (b2 aD 2) 3)).1)) (λw h=>h.1) ?_;refine eM 8 j ⟨⟨_,a⟩,d⟩ (λw hw=>oz j hw.2) ?_;refine dZ 10 j ?_;have f:=eH a.cB e (i);refine bF j j j f (λw⟨v,b,e,aa⟩=>?_);have a:=a.cA aa;have d:=ev g a.f2;refine ar ⟨⟨⟨_,a⟩,d⟩,?_⟩;refine dZ 12 j ?_;have f:=eH a.cB e (eV (fL (b2 aD 2)) i 1);refine bF j j j f (λw⟨v,b,e,aa⟩=>?_);have a:=a.cA aa;have d:=ev g a.f2;refine ar ⟨⟨⟨_,a⟩,d⟩,?_⟩;refine dZ 14 j ?_;have f:=eH a.cB e (eV (fL (b2 aD 2)) i 2);refine bF j j j f (λw⟨v,b,e,aa⟩=>?_);have a:=a.cA aa;have d:=ev g a.f2;refine ar ⟨⟨⟨_,a⟩,d⟩,?_⟩;refine dZ 16 j ?_;have f:=eH a.cB e (eV (fL (b2 aD 2)) i 3);refine bF j j j f (λw⟨v,b,e,aa⟩=>?_);have a:=a.cA aa;have d:=ev g a.f2;refine ar ⟨⟨⟨_,a⟩,d⟩,?_⟩;refine eM 17 j ⟨⟨_,a⟩,d⟩ (λw _=>e1 (c:=(ie (b2 aD 2)).cs.toArray) j (λ_=>by kernel_rfl)) ?_;refine dZ 19 j ?_;refine c4 a.f3 j j j j j bJ (λw a=>?_);have a:=(C.whole (U:=(ie (b2 aD 2)).cs) a j).f3.f3.f3;have d:=ev g a.f2;refine ar ⟨⟨⟨_,a⟩,d⟩,?_⟩;refine cX ?_;refine bP 0 j ?_;exact⟨_,_,_,⟨j,j,j,j,aY⟩,e,a.f2.drop⟩
    .skip
     refine ex a j j (λm w a=>?_);have a:=a.f1.f2.f1;refine ar ⟨⟨_,a⟩,?_⟩;refine dZ 5 j ?_;have f:=eH a.cB e (eV (b2 aD 2) l 2);refine bF j j j f (λw⟨v,b,e,aa⟩=>?_);have a:=a.cA aa;refine ar ⟨⟨_,a⟩,?_⟩;refine dZ 7 j ?_;have f:=qS a.cB e (eV (b2 aD 2) l 3);refine cN j j j f (λx w⟨v,b,bV,g,e,aa⟩=>?_);have a:=(a.cA aa).f1.f2.f1;obtain⟨n,dz,rfl,_⟩:=g.form;have d:=ev g a.f2;refine ar ⟨⟨_,a⟩,?_⟩;refine pM (λw=>(λw=>∃ae,C o [] ae w) w/\Rd w n (aG (lj (e4 (b2 aD 2) 3)).1)) (λw h=>h.1) ?_;refine eM 8 j ⟨⟨_,a⟩,d⟩ (λw hw=>oz j hw.2) ?_;refine dZ 10 j ?_;have f:=eH a.cB e (i);refine bF j j j f (λw⟨v,b,e,aa⟩=>?_);have a:=a.cA aa;have d:=ev g a.f2;refine ar ⟨⟨⟨_,a⟩,d⟩,?_⟩;refine dZ 12 j ?_;have f:=eH a.cB e (eV (fL (b2 aD 2)) i 1);refine bF j j j f (λw⟨v,b,e,aa⟩=>?_);have a:=a.cA aa;have d:=ev g a.f2;refine ar ⟨⟨⟨_,a⟩,d⟩,?_⟩;refine dZ 14 j ?_;have f:=eH a.cB e (eV (fL (b2 aD 2)) i 2);refine bF j j j f (λw⟨v,b,e,aa⟩=>?_);have a:=a.cA aa;have d:=ev g a.f2;refine ar ⟨⟨⟨_,a⟩,d⟩,?_⟩;refine dZ 16 j ?_;have f:=eH a.cB e (eV (fL (b2 aD 2)) i 3);refine bF j j j f (λw⟨v,b,e,aa⟩=>?_);have a:=a.cA aa;have d:=ev g a.f2;refine ar ⟨⟨⟨_,a⟩,d⟩,?_⟩;refine eM 17 j ⟨⟨_,a⟩,d⟩ (λw _=>e1 (c:=(ie (b2 aD 2)).cs.toArray) j (λ_=>by kernel_rfl)) ?_;refine dZ 19 j ?_;refine c4 a.f3 j j j j j bJ (λw a=>?_);have a:=(C.whole (U:=(ie (b2 aD 2)).cs) a j).f3.f3.f3;have d:=ev g a.f2;refine ar ⟨⟨⟨_,a⟩,d⟩,?_⟩;refine cX ?_;refine bP 0 j ?_;exact⟨_,_,_,⟨j,j,j,j,aY⟩,e,a.f2.drop⟩
   .skip
    refine ex a j j (λm w a=>?_);have a:=a.f1.f2.f1;refine ar ⟨⟨_,a⟩,?_⟩;refine dZ 3 j ?_;have f:=eH a.cB e (eV (b2 aD 2) l 1);refine bF j j j f (λw⟨v,b,e,aa⟩=>?_);have a:=a.cA aa;refine ar ⟨⟨_,a⟩,?_⟩;refine dZ 5 j ?_;have f:=eH a.cB e (eV (b2 aD 2) l 2);refine bF j j j f (λw⟨v,b,e,aa⟩=>?_);have a:=a.cA aa;refine ar ⟨⟨_,a⟩,?_⟩;refine dZ 7 j ?_;have f:=qS a.cB e (eV (b2 aD 2) l 3);refine cN j j j f (λx w⟨v,b,bV,g,e,aa⟩=>?_);have a:=(a.cA aa).f1.f2.f1;obtain⟨n,dz,rfl,_⟩:=g.form;have d:=ev g a.f2;refine ar ⟨⟨_,a⟩,?_⟩;refine pM (λw=>(λw=>∃ae,C o [] ae w) w/\Rd w n (aG (lj (e4 (b2 aD 2) 3)).1)) (λw h=>h.1) ?_;refine eM 8 j ⟨⟨_,a⟩,d⟩ (λw hw=>oz j hw.2) ?_;refine dZ 10 j ?_;have f:=eH a.cB e (i);refine bF j j j f (λw⟨v,b,e,aa⟩=>?_);have a:=a.cA aa;have d:=ev g a.f2;refine ar ⟨⟨⟨_,a⟩,d⟩,?_⟩;refine dZ 12 j ?_;have f:=eH a.cB e (eV (fL (b2 aD 2)) i 1);refine bF j j j f (λw⟨v,b,e,aa⟩=>?_);have a:=a.cA aa;have d:=ev g a.f2;refine ar ⟨⟨⟨_,a⟩,d⟩,?_⟩;refine dZ 14 j ?_;have f:=eH a.cB e (eV (fL (b2 aD 2)) i 2);refine bF j j j f (λw⟨v,b,e,aa⟩=>?_);have a:=a.cA aa;have d:=ev g a.f2;refine ar ⟨⟨⟨_,a⟩,d⟩,?_⟩;refine dZ 16 j ?_;have f:=eH a.cB e (eV (fL (b2 aD 2)) i 3);refine bF j j j f (λw⟨v,b,e,aa⟩=>?_);have a:=a.cA aa;have d:=ev g a.f2;refine ar ⟨⟨⟨_,a⟩,d⟩,?_⟩;refine eM 17 j ⟨⟨_,a⟩,d⟩ (λw _=>e1 (c:=(ie (b2 aD 2)).cs.toArray) j (λ_=>by kernel_rfl)) ?_;refine dZ 19 j ?_;refine c4 a.f3 j j j j j bJ (λw a=>?_);have a:=(C.whole (U:=(ie (b2 aD 2)).cs) a j).f3.f3.f3;have d:=ev g a.f2;refine ar ⟨⟨⟨_,a⟩,d⟩,?_⟩;refine cX ?_;refine bP 0 j ?_;exact⟨_,_,_,⟨j,j,j,j,aY⟩,e,a.f2.drop⟩
  .skip
   refine ex a j j (λm w a=>?_);have a:=a.f1.f2.f1;refine ar ⟨⟨_,a⟩,?_⟩;refine dZ 1 j ?_;have f:=eH a.cB e (l);refine bF j j j f (λw⟨v,b,e,aa⟩=>?_);have a:=a.cA aa;refine ar ⟨⟨_,a⟩,?_⟩;refine dZ 3 j ?_;have f:=eH a.cB e (eV (b2 aD 2) l 1);refine bF j j j f (λw⟨v,b,e,aa⟩=>?_);have a:=a.cA aa;refine ar ⟨⟨_,a⟩,?_⟩;refine dZ 5 j ?_;have f:=eH a.cB e (eV (b2 aD 2) l 2);refine bF j j j f (λw⟨v,b,e,aa⟩=>?_);have a:=a.cA aa;refine ar ⟨⟨_,a⟩,?_⟩;refine dZ 7 j ?_;have f:=qS a.cB e (eV (b2 aD 2) l 3);refine cN j j j f (λx w⟨v,b,bV,g,e,aa⟩=>?_);have a:=(a.cA aa).f1.f2.f1;obtain⟨n,dz,rfl,_⟩:=g.form;have d:=ev g a.f2;refine ar ⟨⟨_,a⟩,?_⟩;refine pM (λw=>(λw=>∃ae,C o [] ae w) w/\Rd w n (aG (lj (e4 (b2 aD 2) 3)).1)) (λw h=>h.1) ?_;refine eM 8 j ⟨⟨_,a⟩,d⟩ (λw hw=>oz j hw.2) ?_;refine dZ 10 j ?_;have f:=eH a.cB e (i);refine bF j j j f (λw⟨v,b,e,aa⟩=>?_);have a:=a.cA aa;have d:=ev g a.f2;refine ar ⟨⟨⟨_,a⟩,d⟩,?_⟩;refine dZ 12 j ?_;have f:=eH a.cB e (eV (fL (b2 aD 2)) i 1);refine bF j j j f (λw⟨v,b,e,aa⟩=>?_);have a:=a.cA aa;have d:=ev g a.f2;refine ar ⟨⟨⟨_,a⟩,d⟩,?_⟩;refine dZ 14 j ?_;have f:=eH a.cB e (eV (fL (b2 aD 2)) i 2);refine bF j j j f (λw⟨v,b,e,aa⟩=>?_);have a:=a.cA aa;have d:=ev g a.f2;refine ar ⟨⟨⟨_,a⟩,d⟩,?_⟩;refine dZ 16 j ?_;have f:=eH a.cB e (eV (fL (b2 aD 2)) i 3);refine bF j j j f (λw⟨v,b,e,aa⟩=>?_);have a:=a.cA aa;have d:=ev g a.f2;refine ar ⟨⟨⟨_,a⟩,d⟩,?_⟩;refine eM 17 j ⟨⟨_,a⟩,d⟩ (λw _=>e1 (c:=(ie (b2 aD 2)).cs.toArray) j (λ_=>by kernel_rfl)) ?_;refine dZ 19 j ?_;refine c4 a.f3 j j j j j bJ (λw a=>?_);have a:=(C.whole (U:=(ie (b2 aD 2)).cs) a j).f3.f3.f3;have d:=ev g a.f2;refine ar ⟨⟨⟨_,a⟩,d⟩,?_⟩;refine cX ?_;refine bP 0 j ?_;exact⟨_,_,_,⟨j,j,j,j,aY⟩,e,a.f2.drop⟩
 .skip
  rintro Z w ⟨v,b,m,aL,e,a⟩;refine l4 [(2,ab aO),(3,.int .i64 0),(4,ab r),(5,ab m)] aL ?_;have f:=eH a.cB e (eV (fL (b2 aD 2)) i 4);refine bo 3 f j (λw⟨v,b,e,aa⟩=>?_);have a:=a.cA aa;have e:hO v b (zw (b2 aD 2)) G:=e;refine dB 6 a.f2 j j j j (λw a=>?_);have a:C o [] [bD m (mA (b2 aD 2)),hd r v b,G,bD aO dd] w:=a;have a:=a.f1.f2.f1;have f:=Bc a.cB e;refine bo 4 f j (λw aa=>?_);have a:=a.cA aa;refine aq 2 j (cQ 35 j (λeS=>?_) (λeS=>?_))
  .skip
   refine aq 4 j (bS 39 (.bool true) j (aH Value.bool (j)) ?_);refine aq 7 j (cP (c:=dd.cs.toArray) j j j (λ_=>by kernel_rfl) ?_);refine ck 0 a.f3 j j j j j (λw a=>?_);refine bI 1 j ⟨_,dp results147 j j j j (a.bE),?_⟩
   have p:j6 (b2 aD 2)=false:=by
    unfold j6
    first
     |(have h:=s;rw [ki] at h;rw [h,nU,nU])
     |(have h:=dj q;rw [fj (show¬mz (b2 aD 2)<=1 by unfold mz;omega),Bool.false_and,Bool.and_false])
     |(have h:=eS;rw [ki] at h;rw [h,oN])
   rw [p];exact⟨j,a.bare⟩
  .skip
   refine aq 4 j (cQ 39 j (λq=>?_) (λq=>?_))
   .skip
    refine aq 7 j (cP (c:=dd.cs.toArray) j j j (λ_=>by kernel_rfl) ?_);refine ck 0 a.f3 j j j j j (λw a=>?_);refine bI 1 j ⟨_,dp results147 j j j j (a.bE),?_⟩
    have p:j6 (b2 aD 2)=false:=by
     unfold j6
     first
      |(have h:=s;rw [ki] at h;rw [h,nU,nU])
      |(have h:=dj q;rw [fj (show¬mz (b2 aD 2)<=1 by unfold mz;omega),Bool.false_and,Bool.and_false])
      |(have h:=eS;rw [ki] at h;rw [h,oN])
    rw [p];exact⟨j,a.bare⟩
   .skip
    refine bN 0 (U:=(mA (b2 aD 2)).cs) j j j a.f2.bE ?_;have f:=yO (o:=w) (I:=mA (b2 aD 2));refine bo 0 f j (λw aa=>?_);have a:=a.aM aa;refine bm 2 j j (λs=>?_) (λs=>?_)
    .skip
     refine aq 2 j (cP (c:=dd.cs.toArray) j j j (λ_=>by kernel_rfl) ?_);refine ck 0 a.f3 j j j j j (λw a=>?_);refine bI 1 j ⟨_,dp results147 j j j j (a.bE),?_⟩
     have p:j6 (b2 aD 2)=false:=by
      unfold j6
      first
       |(have h:=s;rw [ki] at h;rw [h,nU,nU])
       |(have h:=dj q;rw [fj (show¬mz (b2 aD 2)<=1 by unfold mz;omega),Bool.false_and,Bool.and_false])
       |(have h:=eS;rw [ki] at h;rw [h,oN])
     rw [p];exact⟨j,a.bare⟩
    .skip
     refine bN 3 (U:=(mA (b2 aD 2)).cs) j j j a.f2.bE ?_;refine ck 0 a.f3 j j j j j (λw a=>?_);refine bI 1 j ⟨_,dp results147 j j j j (a.bE),?_⟩
     have p:j6 (b2 aD 2)=true:=by
      unfold j6;simp only [d8,gd];exact⟨by simpa using eS,by unfold mz;have:=of_decide_eq_false q;omega,by simpa using s⟩
     rw [p];exact⟨j,a.bare⟩
theorem Al{P:Program}{w:World}{em:Bool}{n:Nat}{t:TypeId}{gK:Array Field}{cs:Array Value}(g k:Nat)(hu:P.underlying t=some (.struct gK))(m:P.underlying g=some (.int .i64))(c:(gK.toList.all λf=>(f.type==g)&&Nat.blt f.offset k)=true)(d:∀J,J<k->∃i,cs[J]? =some (.int .i64 i)):(Instr.checkKey em (n+2) t (.agg cs)).run P w= .ok () w:=by
 have h:∀f∈gK.toList,P.underlying f.type=some (.int .i64)/\∃i,cs[f.offset]? =some (.int .i64 i):=λf br=>by
  have a:=jW.1 c f br;simp only [d8,dY] at a;exact⟨by rw [a.1];exact m,d _ (Nat.blt_eq▸a.2)⟩
 clear c d;rw [Instr.checkKey];simp only [dQ,d7 hu,dU];rw [<-Array.forIn_toList];generalize gK.toList=L at h;induction L with
 |nil=>simp
 |cons f L e=>
  obtain⟨a,i,l⟩:=h f (by simp);have o:=nB (P:=P) (w:=w) a j l;have p:(Instr.checkKey em (n+1) f.type (.int .i64 i)).run P w= .ok () w:=MapKept.run_checkKey a (show MapKept.IsKey (.int .i64) (.int .i64 i) from j) em n;by_cases aJ:f.name= "_"
  .simp only [List.forIn_cons,dQ,aJ,ne_eq,not_true_eq_false,lx,dU,ei];exact e (λy b=>h y (by simp [b]))
  .simp only [List.forIn_cons,dQ,aJ,ne_eq,not_false_eq_true,kn,dU,o,p,ei];exact e (λy b=>h y (by simp [b]))
theorem An{cv:Type}[DecidableEq cv]{P:Program}{w:World}{t:TypeId}{key:cv->Value}(he:∀a b,(Op.equal t (key a) (key b)).run P w= .ok (decide (a=b)) w)(o:∀a b,key a=key b->a=b)(k:cv):
 ∀(es:List MapEntry)(i:Nat),(∀e∈es,∃J,e.key=key J)->
  ((Instr.findAsking t (key k) es i).run P w= .ok none w/\∀e∈es,e.key≠key k)\/∃(J:Nat)(e:MapEntry),(Instr.findAsking t (key k) es i).run P w= .ok (some (i+J,e.val)) w/\es[J]? =some e/\e.key=key k
 |[],i,_=>Or.inl ⟨by simp [Instr.findAsking],by simp⟩
 |e::es,i,n=>by
  obtain⟨J,c⟩:=n e (by simp);have m:=he k J;by_cases f:k=J
  .right
   subst f;refine⟨0,e,?_,j,c⟩;simp [Instr.findAsking,c,m]
  .have r:e.key≠key k:=λh=>f (o _ _ (h.symm.trans c))
   rcases An he o k es (i+1) (λy d=>n y (by simp [d])) with⟨g,l⟩|⟨q,hq,g,l,p⟩
   .left
    refine⟨by simp [Instr.findAsking,c,m,f,g],λy d=>?_⟩;rcases g0.1 d with rfl|d
    .exact r
    .exact l y d
   .right
    exact⟨q+1,hq,by simp [Instr.findAsking,c,m,f,g,rN,Nat.add_comm 1 q],by simpa using l,p⟩
theorem Ao{cv:Type}[DecidableEq cv]{P:Program}{w:World}{t:TypeId}{gK:Array Field}{key:cv->Value}{c:cv->Array Value}(hu:P.underlying t=some (.struct gK))(g:∀a,key a= .agg (c a))(he:∀a b,(Op.equal t (key a) (key b)).run P w= .ok (decide (a=b)) w)(h:∀a b,key a=key b->a=b)(k:cv)(es:List MapEntry)(f:∀e∈es,∃J,e.key=key J):
 ((Instr.findKey t (key k) es).run P w= .ok none w/\∀e∈es,e.key≠key k)\/∃(J:Nat)(e:MapEntry),(Instr.findKey t (key k) es).run P w= .ok (some (J,e.val)) w/\es[J]? =some e/\e.key=key k:=by
 have d:(Instr.findKey t (key k) es).run P w=(Instr.findAsking t (key k) es 0).run P w:=by
  unfold Instr.findKey;simp only [dQ,d7 hu,dU];cases es with
  |nil=>simp [Instr.findNow,Instr.findAsking]
  |cons e es=>rw [g k];simp [Instr.findNow,Instr.sameNow]
 rw [d];have:=An he h k es 0 f;simpa using this
theorem Ap(n:Nat)(a:Int):Instr.sameBits n (ad a) (ad a)=true:=by cases n<;>simp [Instr.sameBits,ad]
abbrev ht(m:bH):Value:=.agg m.cs.toArray
abbrev k0(a:Int×Int):Value:=.agg #[ad a.1,ad a.2]
theorem zj(a b:bH)(h:ht a=ht b):a=b:=by
 obtain⟨g,i,a3,a4⟩:=a;obtain⟨ay,aO,j,k⟩:=b;simp [ht,bH.cs] at h;obtain⟨c,d,e,f⟩:=h;cases c;cases d;cases e;cases f;rfl
theorem w0(a b:Int×Int)(h:k0 a=k0 b):a=b:=by
 obtain⟨e,f⟩:=a;obtain⟨ay,aO⟩:=b;simp [k0] at h;obtain⟨c,d⟩:=h;cases c;cases d;rfl
theorem x8(a b:bH)(w:World):(Op.equal 44 (ht a) (ht b)).run prog w= .ok (decide (a=b)) w:=by
 have hu:prog.underlying 3=some (.int .i64):=(inferInstance:bB prog 3 (.int .i64)).h
 have e:decide (a=b)=((a.k==b.k)&&((a.p==b.p)&&((a.e==b.e)&&((a.t==b.t)&&true)))):=by
  rw [m9];obtain⟨c,d,a3,a4⟩:=a;obtain⟨ay,aO,f,g⟩:=b;simp
 rw [e];show(Op.equalIn 10000 44 _ _).run _ _=_;rw [run_equalIn_agg w 9999 44 _ _ (by kernel_rfl) (by kernel_rfl)];exact kr (by decide) hu j j (kr (by decide) hu j j (kr (by decide) hu j j (kr (by decide) hu j j uS)))
theorem Eh(a b:Int×Int)(w:World):(Op.equal 321 (k0 a) (k0 b)).run prog w= .ok (decide (a=b)) w:=by
 have hu:prog.underlying 3=some (.int .i64):=(inferInstance:bB prog 3 (.int .i64)).h
 have e:decide (a=b)=((a.1==b.1)&&((a.2==b.2)&&true)):=by
  rw [m9];obtain⟨c,d⟩:=a;obtain⟨ay,aO⟩:=b;simp
 rw [e];show(Op.equalIn 10000 321 _ _).run _ _=_;rw [run_equalIn_agg w 9999 321 _ _ (by kernel_rfl) (by kernel_rfl)];exact kr (by decide) hu j j (kr (by decide) hu j j uS)
instance:Keys prog 44 ht where
 inj:=zj
 check:=λw em k=>Al (n:=9998) 3 4 (inferInstance:bB prog 44 _).h (inferInstance:bB prog 3 (.int .i64)).h (by kernel_rfl) (λJ d=>by
  rcases(show J=0\/J=1\/J=2\/J=3 by omega) with rfl|rfl|rfl|rfl<;>exact⟨_,j⟩)
 find:=λw k es h=>Ao (P:=prog) (w:=w) (t:=44) (key:=ht) (c:=λm=>m.cs.toArray) (inferInstance:bB prog 44 _).h (λ_=>rfl) (λa b=>x8 a b w) zj k es h
 stays:=λw k=>by simp [Instr.keyThatStays,Instr.sameBits,bH.cs,Ap]
instance:Keys prog 321 k0 where
 inj:=w0
 check:=λw em k=>Al (n:=9998) 3 2 (inferInstance:bB prog 321 _).h (inferInstance:bB prog 3 (.int .i64)).h (by kernel_rfl) (λJ d=>by
  rcases(show J=0\/J=1 by omega) with rfl|rfl<;>exact⟨_,j⟩)
 find:=λw k es h=>Ao (P:=prog) (w:=w) (t:=321) (key:=k0) (c:=λa=> #[ad a.1,ad a.2]) (inferInstance:bB prog 321 _).h (λ_=>rfl) (λa b=>Eh a b w) w0 k es h
 stays:=λw k=>by simp [Instr.keyThatStays,Instr.sameBits,Ap]
structure du where
 name:List UInt8
 b5:Int
 last:Int
 dg:Bool
 parts:Option (List Int)
 fk:Int
def du.new(x:List UInt8):du:=⟨x,0,0,false,none,0⟩
structure bt where
 cK:List (Int×du)
 marks:List bH
 fD:List bH
 answers:List ((Int×Int)×(Int×Int×Int))
 now:Int
def bt.new:bt:=⟨[],[],[],[],0⟩
def once{α:Type}[DecidableEq α](l:List α)(a:α):List α:=if a∈l then l else l++[a]
def du.mark(p:du)(n k:Int):bH:=⟨k,n,p.b5,p.last⟩
def du.shut(p:du):du:={p with dg:=false,parts:=none}
def bt.gf(s:bt)(n:Int)(p:du)(k:Int):bt:={s with cK:=b9 s.cK n p.shut,fD:=once s.fD (p.mark n k),marks:=s.marks++[p.mark n k]}
def bt.named(s:bt)(x:List UInt8):Option (Int×du):=(dc s.cK).findSome? λq=>if q.2.name=x then some q else none
def bt.c9(s:bt)(I:bA):bt×(Int×Int×Int)×List bH:=
 match s.named I.eo with
 |none=>if 8<=s.cK.length then(s,(3,0,0),[])
  else({s with cK:=b9 s.cK (s.cK.length:Int) (du.new I.eo),marks:=s.marks++[⟨1,(s.cK.length:Int),0,0⟩]},(0,(s.cK.length:Int),0),[⟨1,(s.cK.length:Int),0,0⟩])
 |some (n,p)=>if 100<=p.b5 then(s,(7,0,0),[])
  else if p.dg=true then({s with cK:=b9 s.cK n {p.shut with b5:=p.b5+1,last:=0},fD:=once s.fD (p.mark n 3),marks:=s.marks++[p.mark n 3]++[⟨1,n,p.b5+1,0⟩]},(0,n,p.b5+1),[p.mark n 3]++[⟨1,n,p.b5+1,0⟩])
  else({s with cK:=b9 s.cK n {p with b5:=p.b5+1,last:=0},marks:=s.marks++[⟨1,n,p.b5+1,0⟩]},(0,n,p.b5+1),[⟨1,n,p.b5+1,0⟩])
def du.add(now:Int)(I:bA)(p:du):du×Int:=
 if p.dg=true/\I.t=p.last then({p with parts:=some (once (p.parts.getD []) I.q)},0)
 else if p.dg=true then(p,6)
 else if 100<=p.last then(p,7)
 else if I.t-1≠p.last then(p,6)
 else({p with dg:=true,last:=I.t,fk:=now,parts:=some [I.q]},0)
def bt.o0(s:bt)(I:bA)(p:du):bt×Int:=({s with cK:=b9 s.cK I.p (p.add s.now I).1},(p.add s.now I).2)
def iJ(I:bA):Int:=if I.dI=true then 2 else 3
def bt.ends(s:bt)(I:bA)(p:du):bt×Int×List bH:=
 if p.dg=true/\I.t=p.last then(s.gf I.p p (iJ I),0,[p.mark I.p (iJ I)])
 else if⟨iJ I,I.p,I.e,I.t⟩∈s.fD then(s,0,[]) else(s,6,[])
def bt.fv(now:Int)(a:bt×List bH)(q:Int×du):bt×List bH:=
 if q.2.dg=true/\5<=now-q.2.fk then(a.1.gf q.1 q.2 3,a.2++[q.2.mark q.1 3]) else a
def bt.fx(s:bt):bt×List bH:=(dc s.cK).foldl (bt.fv (s.now+1)) ({s with now:=s.now+1},[])
def bt.bY(s:bt)(I:bA):bt×(Int×Int×Int)×List bH:=
 if I.k=1 then s.c9 I
 else if I.k=4 then((s.fx).1,(0,0,0),(s.fx).2)
 else match aZ s.cK I.p with
  |none=>(s,(4,0,0),[])
  |some p=>if I.e≠p.b5 then(s,(5,0,0),[])
   else if I.k=2 then((s.o0 I p).1,((s.o0 I p).2,0,0),[])
   else((s.ends I p).1,((s.ends I p).2.1,0,0),(s.ends I p).2.2)
def bt.apply(s:bt)(I:bA):bt×(Int×Int×Int)×List bH:=
 if gR I=false then(s,(6,0,0),[])
 else match aZ s.answers (I.c,I.s) with
  |some a=>(s,a,[])
  |none=>({(s.bY I).1 with answers:=b9 (s.bY I).1.answers (I.c,I.s) (s.bY I).2.1},(s.bY I).2.1,(s.bY I).2.2)
def tO(v:Value)(l:Option (List Int))(G:List Chunk):Prop:=match l with
 |none=>v= .map none/\G=[]
 |some l=>∃ah I,v= .map (some ah)/\G=[(ah,I)]/\cc bL I (l.map λk=>(k,Value.bool true))
abbrev sN(q:du)(cq:Value):List Value:=[.string (strOf q.name),ad q.b5,ad q.last,.bool q.dg,cq,ad q.fk]
abbrev cp(aN:Nat)(q:du)(cq:Value):List Chunk:=R aN (sN q cq).toArray 370
def ry(v:Value)(q:du)(G:List Chunk):Prop:=∃aN cq a,v=ab aN/\tO cq q.parts a/\G=cp aN q cq++a
structure ja where
 l:Value
 marks:Value
 fD:Value
 answers:Value
abbrev uA(now:Int)(c:ja):List Value:=[c.l,c.marks,c.fD,c.answers,ad now]
abbrev bU(aV:Nat)(now:Int)(c:ja):List Chunk:=R aV (uA now c).toArray 75
def dX(v:Value)(l:List bH)(G:List Chunk):Prop:=Row 44 4 v l.length (l.flatMap bH.cs) G
theorem dX.nil:dX (.slice none 0 0) [] []:=Row.nil _ _
theorem vv(l:List bH):(l.flatMap bH.cs).length=l.length*4:=by induction l with|nil=>rfl|cons m r a=>simp only [je,b4,a,List.length_cons];simp;omega
theorem mv(l:List bH):∀v∈l.flatMap bH.cs,v.oneCell'=true:=by
 intro v a;obtain⟨m,_,hm⟩:=m0.1 a;simp [bH.cs] at hm;rcases hm with rfl|rfl|rfl|rfl<;>rfl
def mP{cv:Type}(key:cv->Value)(v:Value)(m:List (cv×Value))(G:List Chunk):Prop:=∃b I,v= .map (some b)/\G=[(b,I)]/\cc key I m
abbrev o8(l:List bH):List (bH×Value):=l.map λk=>(k,Value.bool true)
abbrev kx(a:Int×Int×Int):Value:=.agg #[ad a.1,ad a.2.1,ad a.2.2]
abbrev n1(l:List ((Int×Int)×(Int×Int×Int))):List ((Int×Int)×Value):=l.map λa=>(a.1,kx a.2)
structure Bl(s:bt)(c:ja)(gW M D W:List Chunk):Prop where
 l:fs 294 ry c.l s.cK gW
 marks:dX c.marks s.marks M
 fD:mP ht c.fD (o8 s.fD) D
 answers:mP k0 c.answers (n1 s.answers) W
def kc(aV:Nat)(s:bt)(G:List Chunk):Prop:=∃(c:ja)(gW M D W:List Chunk),Bl s c gW M D W/\G=bU aV s.now c++(gW++(M++(D++W)))
theorem C.qK{aV:Nat}{now:Int}{c:ja}{gW M D W:List Chunk}{ae:List (List Chunk)}{o w:World}{F:List Nat}(h:C o F ((bU aV now c++(gW++(M++(D++W))))::ae) w):C o F (bU aV now c::gW::M::D::W::ae) w:=h.perm (by simp)
theorem C.yR{aV:Nat}{now:Int}{c:ja}{gW M D W:List Chunk}{ae:List (List Chunk)}{o w:World}{F:List Nat}(h:C o F (bU aV now c::gW::M::D::W::ae) w):C o F ((bU aV now c++(gW++(M++(D++W))))::ae) w:=h.perm (by simp)
theorem nt{cv β a:Type}[DecidableEq cv](f:β->a):∀(m:List (cv×β))(k:cv),aZ (m.map λp=>(p.1,f p.2)) k=(aZ m k).map f
 |[],_=>rfl
 |(J,v)::r,k=>by
  simp only [jT,aZ];split
  .rfl
  .exact nt f r k
theorem vz{cv β a:Type}[DecidableEq cv](f:β->a):∀(m:List (cv×β))(k:cv)(v:β),b9 (m.map λp=>(p.1,f p.2)) k (f v)=(b9 m k v).map λp=>(p.1,f p.2)
 |[],_,_=>rfl
 |(J,u)::r,k,v=>by
  simp only [jT,b9];split
  .rfl
  .rw [vz f r k v];rfl
theorem zd{cv:Type}[DecidableEq cv]:∀(l:List cv)(k:cv),(aZ (l.map λk=>(k,Value.bool true)) k).getD (.bool false)= .bool (decide (k∈l))
 |[],_=>rfl
 |J::r,k=>by
  simp only [jT,aZ];by_cases h:J=k
  .rw [a6 h];simp [h]
  .rw [aI h,zd r k];have:(k∈J::r)↔k∈r:=by simp [g0,Ne.symm h]
   simp only [this]
theorem vC{cv:Type}[DecidableEq cv]:∀(l:List cv)(k:cv),b9 (l.map λk=>(k,Value.bool true)) k (.bool true)=(once l k).map λk=>(k,Value.bool true)
 |[],_=>rfl
 |J::r,k=>by
  simp only [jT,b9];by_cases h:J=k
  .rw [a6 h];unfold once;rw [a6 (by simp [h])];simp [h]
  .rw [aI h,vC r k];unfold once;by_cases aa:k∈r
   .rw [a6 aa,a6 (by simp [aa])];rfl
   .rw [aI aa,aI (by simp [aa,Ne.symm h])];simp
theorem F4{o:World}:Calls prog 60 #[] o λr w=>∃aV G,r=ab aV/\kc aV bt.new G/\C o [] [G] w:=by
 have a:Own [] o:=C.start o;refine a2 func60 (bh 5 F6 j (λr w⟨d,f,i,h,g⟩=>?_));subst i;have a:=a.aM g;refine jx j a j j (λaO w a=>jx j a j j (λb w a=>cP (c:=(uA 0 (⟨ab d,.slice none 0 0,.map (some aO),.map (some b)⟩:ja)).toArray) j j j (λ_=>by kernel_rfl) (bM 0 a j j (λe w a=>ao 1 j j ?_))));have a:C o [] (bU e 0 (⟨ab d,.slice none 0 0,.map (some aO),.map (some b)⟩:ja)::_) w:=a;exact⟨e,_,j,⟨(⟨ab d,.slice none 0 0,.map (some aO),.map (some b)⟩:ja),ax 294 d f (.map #[] 0),[],[(aO,.map #[] 0)],[(b,.map #[] 0)],⟨fs.new h,dX.nil,⟨aO,_,j,j,cc.new⟩,⟨b,_,j,j,cc.new⟩⟩,j⟩,C.perm (A:=[bU e 0 (⟨ab d,.slice none 0 0,.map (some aO),.map (some b)⟩:ja),ax 294 d f (.map #[] 0),[(aO,.map #[] 0)],[(b,.map #[] 0)]]) a.as (by simp [bt.new])⟩
theorem te{o:World}{aV:Nat}{now:Int}{c:ja}{l:List bH}{M:List Chunk}{m:bH}(h:dX c.marks l M)(z:l.length<=1000000)(a:Own [bU aV now c,M] o):Calls prog 285 #[ab aV,ht m] o λr w=>∃v1 f k,dX v1 (l++[m]) f/\dX r [m] k/\C o (au [bU aV now c,M]) [bU aV now {c with marks:=v1},f,k] w:=by
 obtain⟨d,q⟩:∃d,d=au [bU aV now c,M]:=⟨_,j⟩;rw [<-q];have a:C o d [bU aV now c,M] o:=q▸a;obtain⟨t,o5,s,x,y⟩:=h.form;have h:dX (.slice t l.length o5) l M:=s▸h;refine a2 func285 (bM 2 a j j (λg w a=>?_));have a:C o d [R g m.cs.toArray 44,bU aV now c,M] w:=a;have a:=a.drew;refine bw 2 j (λw=>∃ae,C o d ([R g m.cs.toArray 44,bU aV now c]++ae) w) ⟨_,a⟩ (af 0 4 j (a8 4 j a1 (aH some s) (aT 5 j (λw⟨_,a⟩=>c3 (U:=m.cs) j j j (bp (C.ak (b:=g) a))) (aU 6 j (gC (U:=m.cs) a j j j j bJ bJ (λv w a=>?_))))));have aJ:=bp (C.ak (b:=v) a);have a:C o d ([R g m.cs.toArray 44,bU aV now c]++_) w:=a.front;refine ar ⟨⟨_,a⟩,?_⟩;refine aU 7 j (d9 (a.to M) h j j (by decide) j j j (m:=1) (news:=m.cs) j aJ (by intro u hu;exact mv [m] u (by simpa using hu)) (by omega) (by unfold maxLen;omega) (λv1 f w i a=>?_))
 have i:dX v1 (l++[m]) f:=by
  unfold dX;rw [b4,List.flatMap_append];simpa using i
 have a:C o d ([R g m.cs.toArray 44,bU aV now c]++_) w:=a.front;refine ar ⟨⟨_,a⟩,?_⟩;refine af 8 2 j (dy 10 j (cC (a.bc aV) j j j i.one bJ (λw a=>?_)));have a:C o d (bU aV now {c with marks:=v1}::_) w:=a;have a:C o d [bU aV now {c with marks:=v1},R g m.cs.toArray 44,f] w:=a.as;refine ar (cX (bN 2 (U:=m.cs) j j j (bp (C.ak (b:=g) a)) (gC (U:=m.cs) a j j j j bJ bJ (λp w a=>ao 1 j j ?_))));have a:C o d [bU aV now {c with marks:=v1},f,R p m.cs.toArray 44] w:=a.as;refine⟨v1,f,_,i,?_,a⟩;have:=Row.full (e:=44) (size:=4) (b:=p) (n:=1) (cur:=m.cs.toArray) (by unfold maxLen;omega) (by rw [List.size_toArray];rfl);unfold dX;simpa using this
theorem uI{o:World}{aV aN:Nat}{now n k:Int}{c:ja}{l dl:List bH}{M D:List Chunk}{q:du}{cq:Value}(x:dX c.marks l M)(v:mP ht c.fD (o8 dl) D)(E:l.length<=1000000)(a:Own [bU aV now c,M,D,cp aN q cq] o):Calls prog 284 #[ab aV,ad n,ab aN,ad k] o λr w=>∃v1 f i g,dX v1 (l++[q.mark n k]) f/\mP ht c.fD (o8 (once dl (q.mark n k))) i/\dX r [q.mark n k] g/\C o (au [bU aV now c,M,D,cp aN q cq]) [bU aV now {c with marks:=v1},f,i,cp aN q.shut (.map none),g] w:=by
 obtain⟨d,p⟩:∃d,d=au [bU aV now c,M,D,cp aN q cq]:=⟨_,j⟩;rw [<-p];have a:C o d [bU aV now c,M,D,cp aN q cq] o:=p▸a;obtain⟨h,I,s,rfl,F⟩:=v;refine a2 func284 ?_;have a:C o d ([cp aN q cq]++_) _:=a.front;have a:=a.drew;refine bw 4 j (λw=>∃ae,C o d ([cp aN q cq]++ae) w) ⟨_,a⟩ (af 0 5 j (a8 5 j a1 j (af 6 3 j (a8 9 j a1 j (aT 10 j (λw _=>e1 (c:=(q.mark n k).cs.toArray) j (λ_=>by kernel_rfl)) (aU 11 j (ex a j j (λe w a=>?_))))))));have a:C o d ([cp aN q cq]++_) w:=a.front;refine ar ⟨⟨_,a⟩,?_⟩;refine dy 12 j (c4 (a.bc e) j j j (by rfl) j bJ (λw a=>?_));have a:=C.whole (U:=(q.mark n k).cs) a j;have a:C o d [R e (q.mark n k).cs.toArray 44,bU aV now c,M,[(h,I)],cp aN q cq] w:=a.as;refine ar (cX (dB 6 (a.bc aN) j j j j (λw a=>?_)));have a:C o d (cp aN {q with dg:=false} cq::_) w:=a;refine dB 2 (a.bc aN) j j j j (λw a=>?_);have a:C o d (cp aN q.shut (.map none)::_) w:=a;have a:C o d ([R e (q.mark n k).cs.toArray 44,bU aV now c]++_) _:=a.front;have a:=a.drew;refine bw 1 j (λw=>∃ae,C o d ([R e (q.mark n k).cs.toArray 44,bU aV now c]++ae) w) ⟨_,a⟩ (af 0 3 j (a8 3 j a1 (aH some s) (aT 4 j (λw⟨_,a⟩=>c3 (U:=(q.mark n k).cs) j j j (bp (C.ak (b:=e) a))) (aU 5 j (jy (k:=q.mark n k) F (a.to [(h,I)]) j j j j (λu w t a=>?_))))));rw [vC] at t;have a:C o d ([R e (q.mark n k).cs.toArray 44,bU aV now c]++_) w:=a.front;refine ar ⟨⟨_,a⟩,?_⟩;refine bK (bN 3 (U:=(q.mark n k).cs) j j j (bp (C.ak (b:=e) a)) ?_);have A:=te (aV:=aV) (now:=now) (c:=c) (m:=q.mark n k) x E a.ours;refine bh 0 A j (λr w⟨v1,f,g,y,z,B⟩=>?_);have a:=a.b3 B;exact ao 1 j j ⟨v1,f,[(h,u)],g,y,⟨h,u,s,j,t⟩,z,a.as⟩
theorem vu{α:Type}:∀{m:List (Int×α)}{q:Int×α},(m.map Prod.fst).Nodup->q∈m->aZ m q.1=some q.2
 |(J,v)::r,q,aJ,a=>by
  have b:=l6.1 (by simpa using aJ:(J::r.map Prod.fst).Nodup);rcases g0.1 a with rfl|a
  .simp [aZ]
  .have:J≠q.1:=λe=>b.1 (by rw [e];exact dO.2 ⟨q,a,j⟩)
   simp only [aZ,this,lx];exact vu b.2 a
theorem zp{o:World}{aV G ah:Nat}{now:Int}{c:ja}{I:Obj}{m:List (Int×Value)}{t:List (Int×du)}{H:List Chunk}{x:List UInt8}(X:o.heap[aV]? =some (.cells (uA now c).toArray 75 (0,0)))(J:c.l=ab G)(hm:cc bL I m)(A:c6 ry m t H)(M:Holds o (ax 294 G ah I++H))(aP:t.length<=1000000):Calls prog 282 #[ab aV,.string (strOf x)] o λr w=>(∃k v q,r= .tuple #[ad k,v,.bool true]/\aZ m k=some v/\aZ t k=some q/\(dc t).findSome? (λq:Int×du=>if q.2.name=x then some q else none)=some (k,q)/\C o [] [] w)\/∃b,r= .tuple #[ad (t.length:Int),ab b,.bool false]/\(dc t).findSome? (λq:Int×du=>if q.2.name=x then some q else none)=none/\C o [] [cp b (du.new x) (.map none)] w:=by
 have d:Own [] o:=C.start o;have Y:(m.map (·.1)).Nodup:=hm.nodup (P:=prog) (cY:=3);have az:(t.map Prod.fst).Nodup:=by have:=A.keys;rw [<-this];exact Y
 obtain⟨a,W⟩:∃a:Option Addr,a=some ⟨G,0,none⟩:=⟨_,j⟩;have J:c.l= .pointer a:=J.trans (by rw [W]);have N:dE 294 o a m:=.inr ⟨G,ah,I,W,M (G,_) (by simp),M (ah,I) (by simp),hm⟩;refine j0 func282 (bM 2 d j j (λf w d=>cl 0 d j (λg w d=>cl 0 d j (λi w d=>cl 0 d j (λn w d=>?_)))));have d:C o [] [R n #[.bool false] 4,R i #[.pointer none] 226,R g #[ad 0] 3,R f #[.string (strOf x)] 9] w:=d;have d:C o [] [R f #[.string (strOf x)] 9,R g #[ad 0] 3,R i #[.pointer none] 226,R n #[.bool false] 4] w:=d.as;refine al 6 j (aw (d.cg X) (aH some J)) ?_;have E:=w2 (o:=w) (p:=a);refine bh 0 E j (λr w⟨ag,ai,aB,aa⟩=>?_);subst aB;have ap:=(N.st d).st aa;have d:=d.aM aa;have d:C o [] ([R ag #[.pointer a] 71,[(ai,.cells #[.func (.func 312) #[] #[]] 38 (0,0))]]++[R f #[.string (strOf x)] 9,R g #[ad 0] 3,R i #[.pointer none] 226,R n #[.bool false] 4]) w:=d
 refine j4 1 j (z6 (by have aL:=A.len;omega)) j (by have:=d.size;simpa using this) d j (λ_=>rfl) (by intro p Z;simp at Z;rcases Z with rfl|rfl<;>rfl)
  (λpre ae=>ae=[R f #[.string (strOf x)] 9,R g #[ad 0] 3,R i #[.pointer none] 226,R n #[.bool false] 4]/\((dc t).take pre.length).findSome? (λq:Int×du=>if q.2.name=x then some q else none)=none) (λe ae=>match e with| .ret=>∃k v q,aZ m k=some v/\aZ t k=some q/\(dc t).findSome? (λq:Int×du=>if q.2.name=x then some q else none)=some (k,q)/\ae=[R f #[.string (strOf x)] 9,R g #[ad k] 3,R i #[v] 226,R n #[.bool true] 4]|_=>False) ⟨j,j⟩ (λL aK ao=>ap.st ao) (λ_ _ _ _=>trivial) ?_ ?_ ?_ (λ_ _ _ h=>h.elim)
 .rintro y pre ⟨u,aj⟩ aG L aR U ⟨rfl,z⟩ d;obtain⟨t1,t2,B,aE,aJ,aF,T,ac,aA,aq⟩:=A.oq U
  have O:aZ m u=some aj:=by
   obtain⟨aQ,aC⟩:=U;exact nu (q:=(u,aj)) Y (ot.1 (by rw [aC];simp))
  have Q:aZ t u=some B:=vu (q:=(u,B)) az (gO.1 (show(u,B)∈dc t by rw [T];simp));obtain⟨aN,cq,aD,rfl,_,rfl⟩:=aq;have D:o.heap[aN]? =some (.cells (sN B cq).toArray 370 (0,0)):=((M.right.perm aA).right.left) (aN,_) (by simp);have d:=C.gy d;refine bI 5 j (⟨j,_,d,λL am d=>?_⟩);have D:=d.cg D;have d:=C.gy d;have d:C am (au [R f #[.string (strOf x)] 9,R g #[ad 0] 3,R i #[.pointer none] 226,R n #[.bool false] 4]) ([R f #[.string (strOf x)] 9]++_) _:=d.front;have d:=d.drew;refine bw 2 j (λw=>(∃ae,C am (au [R f #[.string (strOf x)] 9,R g #[ad 0] 3,R i #[.pointer none] 226,R n #[.bool false] 4]) ([R f #[.string (strOf x)] 9]++ae) w)/\w.heap[aN]? =some (.cells (sN B cq).toArray 370 (0,0))) ⟨⟨_,d⟩,D⟩ (af 0 3 j (bT 3 j (λw⟨⟨_,d⟩,D⟩=>aw D j) (bT 4 j (λw⟨⟨_,d⟩,D⟩=>aw (C.ak (b:=f) d) j) (aT 5 j (λw _=>Bo j j (nG B.name x)) (bK (bm 0 j j (λK=>?_) (λK=>?_)))))))
  .refine dB 4 (d.bc g) j j j j (λw d=>?_);have d:C _ _ (R g #[ad u] 3::_) w:=d;refine dB 0 (d.bc i) j j j j (λw d=>?_);have d:C _ _ (R i #[ab aN] 226::_) w:=d;refine dB 0 (d.bc n) j j j j (λw d=>?_);have d:C _ _ (R n #[.bool true] 4::_) w:=d;exact bI 0 j ⟨[R f #[.string (strOf x)] 9,R g #[ad u] 3,R i #[ab aN] 226,R n #[.bool true] 4],d.as,u,_,B,O,Q,yh T ac z (a6 (by simpa using K)),j⟩
  refine bI 1 j (⟨[R f #[.string (strOf x)] 9,R g #[ad 0] 3,R i #[.pointer none] 226,R n #[.bool false] 4],d.as,j,?_⟩);rw [b4,List.length_singleton];exact yg T ac z (aI (by simpa using K))
 .rintro xs an w V ⟨rfl,z⟩ d;have d:C o [] [R ag #[.pointer a] 71,[(ai,.cells #[.func (.func 312) #[] #[]] 38 (0,0))],R f #[.string (strOf x)] 9,R g #[ad 0] 3,R i #[.pointer none] 226,R n #[.bool false] 4] w:=d;have d:C o [] ([R f #[.string (strOf x)] 9]++_) _:=d.front;have d:=d.drew;refine bw 1 j (λw=>∃ae,C o [] ([R f #[.string (strOf x)] 9]++ae) w) ⟨_,d⟩ (af 0 3 j (bT 3 j (λw⟨_,d⟩=>aw (d.cg X) (aH some J)) (a8 5 j a1 j (aT 6 j (λw _=>e1 (c:=(sN (du.new x) (.map none)).toArray) j (λ_=>by kernel_rfl)) (aO 4 7 j j ?_ ?_)))))
  .have E:=y1 (N.st d);refine bF j j j E (λw S=>?_);have d:=d.aM S;have d:C o [] ([R f #[.string (strOf x)] 9]++_) w:=d.front;refine ar ⟨⟨_,d⟩,?_⟩;refine aO 7 8 j j ?_ ?_;refine lr d j j j (λs w d=>?_);have d:C o [] (cp s (du.new x) (.map none)::_) w:=d;have d:C o [] ([R f #[.string (strOf x)] 9]++_) w:=d.front;refine ar ⟨⟨_,d⟩,?_⟩;refine aU 8 j (cC (d.bc g) j j j j bJ (λw d=>?_));have d:C _ _ (R g #[ad (m.length:Nat)] 3::_) w:=d;rotate_left
   refine cC (d.bc g) j j j j bJ (λw d=>?_);have d:C _ _ (R g #[ad (m.length:Nat)] 3::_) w:=d;have d:C o [] ([R f #[.string (strOf x)] 9]++_) w:=d.front;refine ar ⟨⟨_,d⟩,?_⟩;refine aU 7 j (lr d j j j (λs w d=>?_));have d:C o [] (cp s (du.new x) (.map none)::_) w:=d;rotate_left
   all_goals
    have d:C o [] ([R f #[.string (strOf x)] 9]++_) w:=d.front;refine ar ⟨⟨_,d⟩,?_⟩;refine aU 9 j (cC (d.bc i) j j j j bJ (λw d=>?_));have d:C _ _ (R i #[ab s] 226::_) w:=d;have d:C o [] ([R f #[.string (strOf x)] 9]++_) w:=d.front;refine ar ⟨⟨_,d⟩,?_⟩;refine dy 10 j (cC (d.bc n) j j j j bJ (λw d=>?_));have d:C _ _ (R n #[.bool false] 4::_) w:=d;have d:C o [] [R f #[.string (strOf x)] 9,R g #[ad (m.length:Nat)] 3,R i #[ab s] 226,R n #[.bool false] 4,cp s (du.new x) (.map none)] w:=d.as;refine ar (cX (bI 0 j ⟨.tuple #[ad (m.length:Nat),ab s,.bool false],λw F=>?_⟩));have d:=F.st d (cD _);refine⟨wa results282 j j (aw (C.ak (b:=g) d) j) j j (aw (C.ak (b:=i) d) j) j j (aw (C.ak (b:=n) d) j),?_⟩;rw [V,iA,A.len,ir (by rw [hR];exact cD _)] at z;exact .inr ⟨s,by rw [A.len],z,d.as⟩
  refine lr d j j j (λs w d=>?_);have d:C o [] (cp s (du.new x) (.map none)::_) w:=d;have d:C o [] ([R f #[.string (strOf x)] 9]++_) w:=d.front;refine ar ⟨⟨_,d⟩,?_⟩;refine aU 4 j ?_;have E:=y1 (N.st d);refine bF j j j E (λw S=>?_);have d:=d.aM S;have d:C o [] ([R f #[.string (strOf x)] 9]++_) w:=d.front;refine ar ⟨⟨_,d⟩,?_⟩;refine aU 8 j (cC (d.bc g) j j j j bJ (λw d=>?_));have d:C _ _ (R g #[ad (m.length:Nat)] 3::_) w:=d;have d:C o [] ([R f #[.string (strOf x)] 9]++_) w:=d.front;refine ar ⟨⟨_,d⟩,?_⟩;refine aU 9 j (cC (d.bc i) j j j j bJ (λw d=>?_));have d:C _ _ (R i #[ab s] 226::_) w:=d;have d:C o [] ([R f #[.string (strOf x)] 9]++_) w:=d.front;refine ar ⟨⟨_,d⟩,?_⟩;refine dy 10 j (cC (d.bc n) j j j j bJ (λw d=>?_));have d:C _ _ (R n #[.bool false] 4::_) w:=d;have d:C o [] [R f #[.string (strOf x)] 9,R g #[ad (m.length:Nat)] 3,R i #[ab s] 226,R n #[.bool false] 4,cp s (du.new x) (.map none)] w:=d.as;refine ar (cX (bI 0 j ⟨.tuple #[ad (m.length:Nat),ab s,.bool false],λw F=>?_⟩));have d:=F.st d (cD _);refine⟨wa results282 j j (aw (C.ak (b:=g) d) j) j j (aw (C.ak (b:=i) d) j) j j (aw (C.ak (b:=n) d) j),?_⟩;rw [V,iA,A.len,ir (by rw [hR];exact cD _)] at z;exact .inr ⟨s,by rw [A.len],z,d.as⟩
 rintro an w av d;obtain⟨k,v,q,O,Q,ay,rfl⟩:=av;refine⟨.tuple #[ad k,v,.bool true],λw F=>?_⟩;have d:=F.st d (cD _);refine⟨wa results282 j j (aw (C.ak (b:=g) d) j) j j (aw (C.ak (b:=i) d) j) j j (aw (C.ak (b:=n) d) j),?_⟩;exact .inl ⟨k,v,q,j,O,Q,ay,d.bare⟩
section
variable {P:Program} {n:Fr} {Z:Env} {w:World} {Q:d6} {ops:Array Oper} {rest:List Oper} {dst:Option Nat} {ty:TypeId} {pos:String} {after:Array Edge} {g:Option (Nat×Bool)}
theorem rp{t e:TypeId}{d:Array TypeId}{args:Array Operand}{z:Value}{size bytes:Nat}{o:World}{F:List Nat}{cV a7:List Chunk}{ae:List (List Chunk)}{v1 v2:Value}{ib a:Nat}{xs c0:List Value}
 [hu:bB P t (.slice e)] [D:cn P e z size bytes] (c:C o F (cV::a7::ae) w) (i:Row e size v1 ib xs cV) (b:Row e size v2 a c0 a7) (y:∀u∈c0,u.oneCell'=true) (v:d= #[t,t]) (A:z.cells.size=size) (s:0<size) (m:bytes<=1000)
 (q:cW ops Z g=some true) (p:da n dst=true) (x:fr Z args.toList=some [v1,v2]) (l:ib+a<=1000000000)
 (h:∀v3 bn aK,Row e size v3 (ib+a) (xs++c0) bn->C o F (bn::ae) aK->O P n ops rest (cE Z dst v3) aK Q):O P n ops (⟨dst,.call ⟨.builtin .append,args,d⟩,ty,pos,after,g⟩::rest) Z w Q:=by
 obtain⟨B,dv,rfl,_,_,r,_⟩:=b.read (c.holds (G:=a7) (by simp));refine d9 c i v A s q p x (news:=c0) b.1 r y ?_ ?_ (λv3 f aK j k=>?_)
 .have:=rO l m;omega
 .unfold maxLen;omega
 .exact h v3 f aK j (k.f1.drop)
end
theorem dX.sq{v:Value}{dA a:List bH}{G:List Chunk}(h:Row 44 4 v (dA.length+a.length) (dA.flatMap bH.cs++a.flatMap bH.cs) G):dX v (dA++a) G:=by
 unfold dX;rw [b4,List.flatMap_append];exact h
structure du.ok(now:Int)(q:du):Prop where
 b5:0<=q.b5/\q.b5<=100
 last:0<=q.last/\q.last<=100
 fk:0<=q.fk/\q.fk<=now
 parts:q.dg=true->q.parts.isSome=true
structure bt.ok(N:Nat)(s:bt):Prop where
 cK:s.cK.length<=8
 kO:∀q∈s.cK,q.2.ok s.now
 marks:s.marks.length<=10*N
 now:0<=s.now/\s.now<=N
theorem du.ok.mono{a b:Int}{q:du}(h:q.ok a)(c:a<=b):q.ok b:={h with fk:=⟨h.fk.1,by have:=h.fk.2;omega⟩}
theorem bt.ok.mono{N M:Nat}{s:bt}(h:s.ok N)(a:N<=M):s.ok M:={h with marks:=by have:=h.marks;omega,now:=⟨h.now.1,by have:=h.now.2;omega⟩}
theorem sB{α:Type}:∀{m:List (Int×α)}{k:Int}{a:α},aZ m k=some a->b9 m k a=m
 |[],_,_,h=>by cases h
 |(J,u)::r,k,a,h=>by
  simp only [aZ] at h;simp only [b9];split
  .rename_i he;rw [a6 he] at h;cases h;rw [he]
  .rename_i b;rw [aI b] at h;rw [sB h]
theorem bt.zq{s:bt}{x:List UInt8}{n:Int}{p:du}(h:s.named x=some (n,p)):(n,p)∈s.cK/\p.name=x:=by
 unfold bt.named at h;obtain⟨q,a,h⟩:=p4 h;split at h
 .cases h;exact⟨gO.1 a,by assumption⟩
 .cases h
theorem C1{o:World}{aV:Nat}{s:bt}{G:List Chunk}{I:bA}(aB:kc aV s G){N:Nat}(L:s.ok N)(aR:N<=10000)(a:Own [G] o):Calls prog 249 #[ab aV,.agg I.cs.toArray] o λr w=>∃v ai S,r= .tuple #[kx (s.c9 I).2.1,v]/\dX v (s.c9 I).2.2 S/\kc aV (s.c9 I).1 ai/\C o (au [G]) [ai,S] w:=by
 obtain⟨c,gW,M,D,W,g,rfl⟩:=aB;obtain⟨e,aj⟩:∃e,e=au [bU aV s.now c++(gW++(M++(D++W)))]:=⟨_,j⟩;rw [<-aj];have a:C o e [bU aV s.now c++(gW++(M++(D++W)))] o:=aj▸a;have a:=a.qK;obtain⟨d,ah,b1,ac,H,J,K,P,rfl⟩:=g.l;have hlen:=P.len;refine e9 func249 (bM 2 a j j (λF w a=>?_));have a:C o e (bD F I::_) w:=a;refine cl 0 a j (λf w a=>?_);have a:C o e [R f #[ad 0,ad 0,ad 0] 123,bD F I,bU aV s.now c,ax 294 d ah b1++H,M,D,W] w:=a;refine al 5 j (aw (C.ak a) j) ?_;rcases E:s.named I.eo with _|⟨n,p⟩
 .have t:=zp (aV:=aV) (now:=s.now) (c:=c) (x:=I.eo) (C.ak (b:=aV) a) J K P (a.holds (G:=ax 294 d ah b1++H) (by simp)) (by have:=L.cK;omega);refine bh 0 t j (λr w O=>?_);obtain⟨aN,O,_,aa⟩:=O.resolve_left (λ⟨k,v,q,_,_,_,h,_⟩=>by rw [show(dc s.cK).findSome? _=none from E] at h;cases h);subst O;have a:=a.aM aa;have a:C o e [R f #[ad 0,ad 0,ad 0] 123,bD F I,bU aV s.now c,ax 294 d ah b1,H,M,D,W,cp aN (du.new I.eo) (.map none)] w:=C.perm (A:=[R f #[ad 0,ad 0,ad 0] 123,bD F I,bU aV s.now c,ax 294 d ah b1++H,M,D,W,cp aN (du.new I.eo) (.map none)]) a.as (by simp);refine aq 17 j (bS 39 (.bool true) j (aH Value.bool (j)) ?_);refine cm 4 j j (λav=>?_) (λav=>?_)
  .refine aq 2 j (cP (c:= #[ad 3,ad 0,ad 0]) j j j (λ_=>by kernel_rfl) ?_);refine ck 0 (a.bc f) j j j j j (λw a=>?_);have a:=C.whole (U:=[ad 3,ad 0,ad 0]) a j;have a:C o e (R f #[ad 3,ad 0,ad 0] 123::_) w:=a;refine bI 1 j ⟨_,dp results249 j j j j a.bE,?_⟩
   have z:s.c9 I=(s,(3,0,0),[]):=by
    unfold bt.c9;rw [E];exact a6 (by omega)
   rw [z];have a:C o e [bU aV s.now c,ax 294 d ah b1,H,M,D,W,[]] w:=C.perm (A:=[bU aV s.now c,ax 294 d ah b1,H,M,D,W]) a.as (by simp);exact⟨_,_,[],j,dX.nil,⟨c,ax 294 d ah b1++H,M,D,W,⟨⟨d,ah,b1,ac,_,J,K,P,j⟩,g.marks,g.fD,g.answers⟩,j⟩,C.perm (A:=[bU aV s.now c,ax 294 d ah b1,H,M,D,W,[]]) a (by simp)⟩
  refine al 10 j (aw (C.ak (b:=aV) a) (aH some J)) ?_;have t:=HG (k:=(s.cK.length:Int)) (v:=ab aN) (a.ours (cI:=[ax 294 d ah b1])) K;refine bo 2 t j (λw⟨Q,aG,B⟩=>?_);have a:=a.b3 B;have a:C o e [R f #[ad 0,ad 0,ad 0] 123,bD F I,bU aV s.now c,ax 294 d ah Q,H,M,D,W,cp aN (du.new I.eo) (.map none)] w:=a.as;refine al 8 j (aw (C.ak a) j) (cP (c:=(⟨1,(s.cK.length:Int),0,0⟩:bH).cs.toArray) j j j (λ_=>by kernel_rfl) ?_);have t:=te (aV:=aV) (now:=s.now) (c:=c) (m:=(⟨1,(s.cK.length:Int),0,0⟩:bH)) g.marks (by have:=L.marks;first|omega|(simp only [b4,List.length_singleton];omega)) a.ours;refine bh 0 t j (λr w⟨v2,M2,T,V,X,B⟩=>?_);have a:=a.b3 B;have a:=(a.front (cI:=[T])).empty;refine rp a dX.nil X (mv _) j j (by decide) (by decide) j j j (by simp) (λv3 bn w y a=>?_);have y:=dX.sq y;refine al 7 j (aw (C.ak a) j) (cP (c:= #[ad 0,ad (s.cK.length:Int),ad 0]) j j j (λ_=>by kernel_rfl) (ck 1 (a.bc f) j j j j j (λw a=>?_)));have a:=C.whole (U:=[ad 0,ad (s.cK.length:Int),ad 0]) a j;have a:C o e (R f #[ad 0,ad (s.cK.length:Int),ad 0] 123::_) w:=a;refine bI 1 j ⟨_,dp results249 j j j j a.bE,?_⟩;obtain⟨Z,ag,aL,aK⟩:=P.put (k:=(s.cK.length:Int)) (show ry (ab aN) (du.new I.eo) (cp aN (du.new I.eo) (.map none)) from⟨aN,.map none,[],j,⟨j,j⟩,j⟩)
  have z:s.c9 I=({s with cK:=b9 s.cK (s.cK.length:Int) (du.new I.eo),marks:=s.marks++[(⟨1,(s.cK.length:Int),0,0⟩:bH)]},(0,(s.cK.length:Int),0),[(⟨1,(s.cK.length:Int),0,0⟩:bH)]):=by
   unfold bt.c9;rw [E];exact aI (by omega)
  rw [z];have a:C o e [bU aV s.now {c with marks:=v2},ax 294 d ah Q,M2,D,W,bn,H,cp aN (du.new I.eo) (.map none)] w:=a.as
  have a:C o e [bU aV s.now {c with marks:=v2},ax 294 d ah Q,M2,D,W,bn,ag,Z] w:=a.perm (by
   simp only [kj,m1,gY];exact .append_left _ (.append_left _ (.append_left _ (.append_left _ (.append_left _ (.append_left _ aK))))))
  exact⟨v3,_,bn,j,y,⟨{c with marks:=v2},ax 294 d ah Q++Z,M2,D,W,⟨⟨d,ah,Q,_,Z,J,aG,aL,j⟩,V,g.fD,g.answers⟩,j⟩,C.perm (A:=[bU aV s.now {c with marks:=v2},ax 294 d ah Q,Z,M2,D,W,bn]) a.as (by simp)⟩
 have t:=zp (aV:=aV) (now:=s.now) (c:=c) (x:=I.eo) (C.ak (b:=aV) a) J K P (a.holds (G:=ax 294 d ah b1++H) (by simp)) (by have:=L.cK;omega);refine bh 0 t j (λr w O=>?_);obtain⟨aO,v0,aP,O,aF,ao,br,aa⟩:=O.resolve_right (λ⟨b,_,h,_⟩=>by rw [show(dc s.cK).findSome? _=some (n,p) from E] at h;cases h);subst O;have aE:some (n,p)=some (aO,aP):=E.symm.trans br;cases aE;obtain⟨v1,H1,aQ,i,an,rfl,aD,af⟩:=P.find ao;rw [aF] at an;cases an;obtain⟨aN,cq,u,rfl,am,rfl⟩:=aD;have ap:p.ok s.now:=L.kO _ (bt.zq E).1;have a:=a.aM aa;have a:C o e [R f #[ad 0,ad 0,ad 0] 123,bD F I,bU aV s.now c,ax 294 d ah b1,H1,cp aN p cq,u,i,M,D,W] w:=C.perm (A:=[R f #[ad 0,ad 0,ad 0] 123,bD F I,bU aV s.now c,ax 294 d ah b1++(H1++((cp aN p cq++u)++i)),M,D,W]) a.as (by simp);refine aq 17 j (bS 39 (.bool false) j (aH Value.bool (j)) ?_);refine al 16 j (aw (C.ak a) j) (cm 2 j j (λay=>?_) (λay=>?_))
 .refine aq 2 j (cP (c:= #[ad 7,ad 0,ad 0]) j j j (λ_=>by kernel_rfl) ?_);refine ck 0 (a.bc f) j j j j j (λw a=>?_);have a:=C.whole (U:=[ad 7,ad 0,ad 0]) a j;have a:C o e (R f #[ad 7,ad 0,ad 0] 123::_) w:=a;refine bI 1 j ⟨_,dp results249 j j j j a.bE,?_⟩
  have z:s.c9 I=(s,(7,0,0),[]):=by
   unfold bt.c9;rw [E];exact a6 (by omega)
  rw [z];have a:C o e [bU aV s.now c,ax 294 d ah b1,H1,cp aN p cq,u,i,M,D,W,[]] w:=C.perm (A:=[bU aV s.now c,ax 294 d ah b1,H1,cp aN p cq,u,i,M,D,W]) a.as (by simp);exact⟨_,_,[],j,dX.nil,⟨c,ax 294 d ah b1++(H1++((cp aN p cq++u)++i)),M,D,W,⟨⟨d,ah,b1,ac,_,J,K,af p _ ⟨aN,cq,u,j,am,j⟩|>λh=>by rwa [sB ao] at h,j⟩,g.marks,g.fD,g.answers⟩,j⟩,C.perm (A:=[bU aV s.now c,ax 294 d ah b1,H1,cp aN p cq,u,i,M,D,W,[]]) a (by simp)⟩
 refine al 6 j (aw (C.ak a) j) (bm 0 j j (λae=>?_) (λae=>?_))
 .have t:=uI (aV:=aV) (aN:=aN) (now:=s.now) (n:=n) (k:=3) (c:=c) (q:=p) (cq:=cq) g.marks g.fD (by have:=L.marks;omega) a.ours;refine bh 4 t j (λr w⟨v1,ar,Y,S,aA,az,aC,B⟩=>?_);have a:=a.b3 B;have a:C o e [R f #[ad 0,ad 0,ad 0] 123,bD F I,bU aV s.now {c with marks:=v1},ax 294 d ah b1,H1,cp aN p.shut (.map none),i,ar,Y,W,S] w:=a.as;refine al 6 j (aw (C.ak a) j) (bq 0 j j j (uV (by have:=ap.b5;have:p.shut.b5=p.b5:=rfl;omega) (by omega)) (dB 2 (a.bc aN) j j j j (λw a=>?_)));have a:C o e (cp aN {p.shut with b5:=p.b5+1} (.map none)::_) w:=a;refine dB 4 (a.bc aN) j j j j (λw a=>?_);have a:C o e (cp aN {p.shut with b5:=p.b5+1,last:=0} (.map none)::_) w:=a;refine al 8 j (aw (C.ak a) j) (cP (c:=(⟨1,n,p.b5+1,0⟩:bH).cs.toArray) j j j (λ_=>by kernel_rfl) ?_);have t:=te (aV:=aV) (now:=s.now) (c:={c with marks:=v1}) (m:=(⟨1,n,p.b5+1,0⟩:bH)) aA (by have:=L.marks;first|omega|(simp only [b4,List.length_singleton];omega)) a.ours;refine bh 0 t j (λr w⟨v2,M2,T,V,X,B⟩=>?_);have a:=a.b3 B;have a:=a.front (cI:=[S,T]);refine rp a aC X (mv _) j j (by decide) (by decide) j j j (by simp) (λv3 bn w y a=>?_);have y:=dX.sq y;refine al 7 j (aw (C.ak a) j) (cP (c:= #[ad 0,ad n,ad (p.b5+1)]) j j j (λ_=>by kernel_rfl) (ck 1 (a.bc f) j j j j j (λw a=>?_)));have a:=C.whole (U:=[ad 0,ad n,ad (p.b5+1)]) a j;have a:C o e (R f #[ad 0,ad n,ad (p.b5+1)] 123::_) w:=a;refine bI 1 j ⟨_,dp results249 j j j j a.bE,?_⟩
  have z:s.c9 I=({s with cK:=b9 s.cK n {p.shut with b5:=p.b5+1,last:=0},fD:=once s.fD (p.mark n 3),marks:=s.marks++[p.mark n 3]++[(⟨1,n,p.b5+1,0⟩:bH)]},(0,n,p.b5+1),[p.mark n 3]++[(⟨1,n,p.b5+1,0⟩:bH)]):=by
   unfold bt.c9;rw [E];exact(aI (by omega)).trans (a6 (show p.dg=true from ae))
  rw [z];have a:C o e [bU aV s.now {c with marks:=v2},ax 294 d ah b1,M2,Y,W,bn,H1,cp aN {p.shut with b5:=p.b5+1,last:=0} (.map none),i] w:=a.as;exact⟨v3,_,bn,j,y,⟨{c with marks:=v2},ax 294 d ah b1++(H1++((cp aN {p.shut with b5:=p.b5+1,last:=0} (.map none)++[])++i)),M2,Y,W,⟨⟨d,ah,b1,ac,_,J,K,af {p.shut with b5:=p.b5+1,last:=0} _ ⟨aN,.map none,[],j,⟨j,j⟩,j⟩,j⟩,V,az,g.answers⟩,j⟩,C.perm (A:=[bU aV s.now {c with marks:=v2},ax 294 d ah b1,H1,cp aN {p.shut with b5:=p.b5+1,last:=0} (.map none),i,M2,Y,W,bn]) a.as (by simp)⟩
 refine al 6 j (aw (C.ak a) j) (bq 0 j j j (uV (by have:=ap.b5;have:p.shut.b5=p.b5:=rfl;omega) (by omega)) (dB 2 (a.bc aN) j j j j (λw a=>?_)));have a:C o e (cp aN {p with b5:=p.b5+1} cq::_) w:=a;refine dB 4 (a.bc aN) j j j j (λw a=>?_);have a:C o e (cp aN {p with b5:=p.b5+1,last:=0} cq::_) w:=a;refine al 8 j (aw (C.ak a) j) (cP (c:=(⟨1,n,p.b5+1,0⟩:bH).cs.toArray) j j j (λ_=>by kernel_rfl) ?_);have t:=te (aV:=aV) (now:=s.now) (c:=c) (m:=(⟨1,n,p.b5+1,0⟩:bH)) g.marks (by have:=L.marks;first|omega|(simp only [b4,List.length_singleton];omega)) a.ours;refine bh 0 t j (λr w⟨v2,M2,T,V,X,B⟩=>?_);have a:=a.b3 B;have a:=(a.front (cI:=[T])).empty;refine rp a dX.nil X (mv _) j j (by decide) (by decide) j j j (by simp) (λv3 bn w y a=>?_);have y:=dX.sq y;refine al 7 j (aw (C.ak a) j) (cP (c:= #[ad 0,ad n,ad (p.b5+1)]) j j j (λ_=>by kernel_rfl) (ck 1 (a.bc f) j j j j j (λw a=>?_)));have a:=C.whole (U:=[ad 0,ad n,ad (p.b5+1)]) a j;have a:C o e (R f #[ad 0,ad n,ad (p.b5+1)] 123::_) w:=a;refine bI 1 j ⟨_,dp results249 j j j j a.bE,?_⟩;have aJ:¬p.dg=true:=by rw [show p.dg=false from ae];decide
 have z:s.c9 I=({s with cK:=b9 s.cK n {p with b5:=p.b5+1,last:=0},marks:=s.marks++[(⟨1,n,p.b5+1,0⟩:bH)]},(0,n,p.b5+1),[(⟨1,n,p.b5+1,0⟩:bH)]):=by
  unfold bt.c9;rw [E];exact(aI (by omega)).trans (aI aJ)
 rw [z];have a:C o e [bU aV s.now {c with marks:=v2},ax 294 d ah b1,M2,D,W,bn,H1,cp aN {p with b5:=p.b5+1,last:=0} cq,u,i] w:=a.as;exact⟨v3,_,bn,j,y,⟨{c with marks:=v2},ax 294 d ah b1++(H1++((cp aN {p with b5:=p.b5+1,last:=0} cq++u)++i)),M2,D,W,⟨⟨d,ah,b1,ac,_,J,K,af {p with b5:=p.b5+1,last:=0} _ ⟨aN,cq,u,j,am,j⟩,j⟩,V,g.fD,g.answers⟩,j⟩,C.perm (A:=[bU aV s.now {c with marks:=v2},ax 294 d ah b1,H1,cp aN {p with b5:=p.b5+1,last:=0} cq,u,i,M2,D,W,bn]) a.as (by simp)⟩
theorem Cg{o:World}{aV aN:Nat}{now:Int}{c:ja}{p:du}{cq:Value}{m:List Chunk}{I:bA}(v:tO cq p.parts m)(F:p.ok now)(H:now<=1000000)(J: -1000<=I.t/\I.t<=1000)(a:Own [bU aV now c,cp aN p cq,m] o):Calls prog 252 #[ab aV,.agg I.cs.toArray,ab aN] o λr w=>r=ad (p.add now I).2/\∃B y,tO B (p.add now I).1.parts y/\C o (au [bU aV now c,cp aN p cq,m]) [bU aV now c,cp aN (p.add now I).1 B,y] w:=by
 obtain⟨b,z⟩:∃b,b=au [bU aV now c,cp aN p cq,m]:=⟨_,j⟩;rw [<-z];have a:C o b [bU aV now c,cp aN p cq,m] o:=z▸a;refine a2 func252 (bM 2 a j j (λd w a=>?_));have a:C o b [bD d I,bU aV now c,cp aN p cq,m] w:=a;have a:C o b ([bD d I,cp aN p cq]++_) _:=a.front;have a:=a.drew;refine bw 4 j (λw=>∃ae,C o b ([bD d I,cp aN p cq]++ae) w) ⟨_,a⟩ (af 0 3 j (a8 3 j a1 j (af 4 1 j (ef 31 j (λs=>?_) (λs=>?_)))))
 .refine af 5 1 j (a8 6 j a1 j (af 7 3 j (a8 10 j a1 j (af 11 3 j (bK (bm 0 j j (λx=>?_) (λx=>?_)))))))
  .obtain⟨l,A⟩:∃l,p.parts=some l:=gX.1 (F.parts s);rw [A] at v;obtain⟨ah,G,rfl,rfl,E⟩:=v;have a:C o b ([bD d I,cp aN p (.map (some ah))]++_) _:=a.front;have a:=a.drew;refine bw 2 j (λw=>∃ae,C o b ([bD d I,cp aN p (.map (some ah))]++ae) w) ⟨_,a⟩ (af 0 3 j (a8 3 j a1 j (af 4 1 j (a8 5 j a1 j (aU 6 j (jy (k:=I.q) E (a.to [(ah,G)]) j j j j (λg w n a=>?_)))))));rw [vC] at n;have a:C o b ([bD d I,cp aN p (.map (some ah))]++_) w:=a.front;refine ar ⟨⟨_,a⟩,?_⟩;refine bK (ao 3 j j ?_)
   have f:p.add now I=({p with parts:=some (once l I.q)},0):=by
    unfold du.add;rw [a6 ⟨s,dY.1 x⟩,A];rfl
   rw [f];exact⟨j,.map (some ah),[(ah,g)],⟨ah,g,j,j,n⟩,a.as⟩
  refine al 5 j (aw (C.ak a) j) (mo 1 j j (s) (ao 3 j j ?_))
  have f:p.add now I=(p,6):=by
   unfold du.add;exact(aI (by rintro⟨_,h⟩;rw [dY.2 h] at x;cases x)).trans (a6 s)
  rw [f];exact⟨j,cq,m,v,a.as⟩
 refine af 5 9 j (bK (al 6 j (aw (C.ak a) j) (i0 1 j j (s) ?_)));have i:p.dg=false:=s;refine al 5 j (aw (C.ak a) j) (cm 2 j j (λD=>?_) (λD=>?_))
 .refine ao 3 j j ?_
  have f:p.add now I=(p,7):=by
   unfold du.add;exact(aI (by rintro⟨h,_⟩;rw [i] at h;cases h)).trans ((aI (by rw [i];decide)).trans (a6 (by omega)))
  rw [f];exact⟨j,cq,m,v,a.as⟩
 have a:C o b ([bD d I,cp aN p cq]++_) _:=a.front;have a:=a.drew;refine bw 1 j (λw=>∃ae,C o b ([bD d I,cp aN p cq]++ae) w) ⟨_,a⟩ (af 0 1 j (a8 1 j a1 j (aT 2 j (λw _=>dq j j (sd (by omega) (by omega))) (af 3 3 j (a8 6 j a1 j (af 7 2 j (bK (bm 0 j j (λu=>?_) (λu=>?_)))))))))
 .refine ao 3 j j ?_
  have f:p.add now I=(p,6):=by
   unfold du.add;exact(aI (by rintro⟨h,_⟩;rw [i] at h;cases h)).trans ((aI (by rw [i];decide)).trans ((aI (by omega)).trans (a6 (by simpa using u))))
  rw [f];exact⟨j,cq,m,v,a.as⟩
 have a:C o b ([bD d I,bU aV now c]++_) _:=a.front;have a:=a.drew;refine bw 0 j (λw=>∃ae,C o b ([bD d I,bU aV now c]++ae) w) ⟨_,a⟩ (af 0 5 j (a8 5 j a1 j (af 6 3 j (a8 9 j a1 j (af 11 2 j (aO 10 13 j j ?_ ?_))))))
 .refine jx j a j j (λe w a=>?_);have a:C o b ([bD d I,bU aV now c]++_) w:=a.front;refine ar ⟨⟨_,a⟩,?_⟩;refine aU 13 j (cC (a.bc aN) j j j j bJ (λw a=>?_));have a:C o b (cp aN {p with dg:=true} cq::_) w:=a;have a:C o b ([bD d I,bU aV now c]++_) w:=a.front;refine ar ⟨⟨_,a⟩,?_⟩;refine af 14 2 j (aU 16 j (cC (a.bc aN) j j j j bJ (λw a=>?_)));have a:C o b (cp aN {p with dg:=true,last:=I.t} cq::_) w:=a;have a:C o b ([bD d I,bU aV now c]++_) w:=a.front;refine ar ⟨⟨_,a⟩,?_⟩;refine af 17 2 j (aU 19 j (cC (a.bc aN) j j j j bJ (λw a=>?_)));have a:C o b (cp aN {p with dg:=true,last:=I.t,fk:=now} cq::_) w:=a;have a:C o b ([bD d I,bU aV now c]++_) w:=a.front;refine ar ⟨⟨_,a⟩,?_⟩;refine af 20 2 j (dy 22 j (cC (a.bc aN) j j j j bJ (λw a=>?_)));have a:C o b (cp aN {p with dg:=true,last:=I.t,fk:=now,parts:=some [I.q]} (.map (some e))::_) w:=a;have a:C o b [bD d I,cp aN {p with dg:=true,last:=I.t,fk:=now,parts:=some [I.q]} (.map (some e)),bU aV now c,[(e,.map #[] 0)]] w:=a.as;refine ar (cX ?_);have a:C o b ([bD d I,cp aN {p with dg:=true,last:=I.t,fk:=now,parts:=some [I.q]} (.map (some e))]++_) _:=a.front;have a:=a.drew;refine bw 1 j (λw=>∃ae,C o b ([bD d I,cp aN {p with dg:=true,last:=I.t,fk:=now,parts:=some [I.q]} (.map (some e))]++ae) w) ⟨_,a⟩ (af 0 3 j (a8 3 j a1 j (af 4 1 j (a8 5 j a1 j (aU 6 j (jy (k:=I.q) cc.new (a.to [(e,.map #[] 0)]) j j j j (λg w n a=>?_)))))));have a:C o b ([bD d I,cp aN {p with dg:=true,last:=I.t,fk:=now,parts:=some [I.q]} (.map (some e))]++_) w:=a.front;refine ar ⟨⟨_,a⟩,?_⟩;refine bK (ao 3 j j ?_)
  have f:p.add now I=({p with dg:=true,last:=I.t,fk:=now,parts:=some [I.q]},0):=by
   unfold du.add;exact(aI (by rintro⟨h,_⟩;rw [i] at h;cases h)).trans ((aI (by rw [i];decide)).trans ((aI (by omega)).trans (aI (by simpa using u))))
  rw [f];exact⟨j,.map (some e),[(e,g)],⟨e,g,j,j,n⟩,a.as⟩
 refine cC (a.bc aN) j j j j bJ (λw a=>?_);have a:C o b (cp aN {p with dg:=true} cq::_) w:=a;have a:C o b ([bD d I,bU aV now c]++_) w:=a.front;refine ar ⟨⟨_,a⟩,?_⟩;refine af 14 2 j (aO 10 16 j j ?_ ?_)
 .refine jx j a j j (λe w a=>?_);have a:C o b ([bD d I,bU aV now c]++_) w:=a.front;refine ar ⟨⟨_,a⟩,?_⟩;refine aU 16 j (cC (a.bc aN) j j j j bJ (λw a=>?_));have a:C o b (cp aN {p with dg:=true,last:=I.t} cq::_) w:=a;have a:C o b ([bD d I,bU aV now c]++_) w:=a.front;refine ar ⟨⟨_,a⟩,?_⟩;refine af 17 2 j (aU 19 j (cC (a.bc aN) j j j j bJ (λw a=>?_)));have a:C o b (cp aN {p with dg:=true,last:=I.t,fk:=now} cq::_) w:=a;have a:C o b ([bD d I,bU aV now c]++_) w:=a.front;refine ar ⟨⟨_,a⟩,?_⟩;refine af 20 2 j (dy 22 j (cC (a.bc aN) j j j j bJ (λw a=>?_)));have a:C o b (cp aN {p with dg:=true,last:=I.t,fk:=now,parts:=some [I.q]} (.map (some e))::_) w:=a;have a:C o b [bD d I,cp aN {p with dg:=true,last:=I.t,fk:=now,parts:=some [I.q]} (.map (some e)),bU aV now c,[(e,.map #[] 0)]] w:=a.as;refine ar (cX ?_);have a:C o b ([bD d I,cp aN {p with dg:=true,last:=I.t,fk:=now,parts:=some [I.q]} (.map (some e))]++_) _:=a.front;have a:=a.drew;refine bw 1 j (λw=>∃ae,C o b ([bD d I,cp aN {p with dg:=true,last:=I.t,fk:=now,parts:=some [I.q]} (.map (some e))]++ae) w) ⟨_,a⟩ (af 0 3 j (a8 3 j a1 j (af 4 1 j (a8 5 j a1 j (aU 6 j (jy (k:=I.q) cc.new (a.to [(e,.map #[] 0)]) j j j j (λg w n a=>?_)))))));have a:C o b ([bD d I,cp aN {p with dg:=true,last:=I.t,fk:=now,parts:=some [I.q]} (.map (some e))]++_) w:=a.front;refine ar ⟨⟨_,a⟩,?_⟩;refine bK (ao 3 j j ?_)
  have f:p.add now I=({p with dg:=true,last:=I.t,fk:=now,parts:=some [I.q]},0):=by
   unfold du.add;exact(aI (by rintro⟨h,_⟩;rw [i] at h;cases h)).trans ((aI (by rw [i];decide)).trans ((aI (by omega)).trans (aI (by simpa using u))))
  rw [f];exact⟨j,.map (some e),[(e,g)],⟨e,g,j,j,n⟩,a.as⟩
 refine cC (a.bc aN) j j j j bJ (λw a=>?_);have a:C o b (cp aN {p with dg:=true,last:=I.t} cq::_) w:=a;have a:C o b ([bD d I,bU aV now c]++_) w:=a.front;refine ar ⟨⟨_,a⟩,?_⟩;refine af 17 2 j (aO 10 19 j j ?_ ?_);refine jx j a j j (λe w a=>?_);have a:C o b ([bD d I,bU aV now c]++_) w:=a.front;refine ar ⟨⟨_,a⟩,?_⟩;refine aU 19 j (cC (a.bc aN) j j j j bJ (λw a=>?_));have a:C o b (cp aN {p with dg:=true,last:=I.t,fk:=now} cq::_) w:=a;rotate_left
 refine cC (a.bc aN) j j j j bJ (λw a=>?_);have a:C o b (cp aN {p with dg:=true,last:=I.t,fk:=now} cq::_) w:=a;have a:C o b ([bD d I,bU aV now c]++_) w:=a.front;refine ar ⟨⟨_,a⟩,?_⟩;refine aU 10 j (jx j a j j (λe w a=>?_));rotate_left
 all_goals
  have a:C o b ([bD d I,bU aV now c]++_) w:=a.front;refine ar ⟨⟨_,a⟩,?_⟩;refine af 20 2 j (dy 22 j (cC (a.bc aN) j j j j bJ (λw a=>?_)));have a:C o b (cp aN {p with dg:=true,last:=I.t,fk:=now,parts:=some [I.q]} (.map (some e))::_) w:=a;have a:C o b [bD d I,cp aN {p with dg:=true,last:=I.t,fk:=now,parts:=some [I.q]} (.map (some e)),bU aV now c,[(e,.map #[] 0)]] w:=a.as;refine ar (cX ?_);have a:C o b ([bD d I,cp aN {p with dg:=true,last:=I.t,fk:=now,parts:=some [I.q]} (.map (some e))]++_) _:=a.front;have a:=a.drew;refine bw 1 j (λw=>∃ae,C o b ([bD d I,cp aN {p with dg:=true,last:=I.t,fk:=now,parts:=some [I.q]} (.map (some e))]++ae) w) ⟨_,a⟩ (af 0 3 j (a8 3 j a1 j (af 4 1 j (a8 5 j a1 j (aU 6 j (jy (k:=I.q) cc.new (a.to [(e,.map #[] 0)]) j j j j (λg w n a=>?_)))))));have a:C o b ([bD d I,cp aN {p with dg:=true,last:=I.t,fk:=now,parts:=some [I.q]} (.map (some e))]++_) w:=a.front;refine ar ⟨⟨_,a⟩,?_⟩;refine bK (ao 3 j j ?_)
  have f:p.add now I=({p with dg:=true,last:=I.t,fk:=now,parts:=some [I.q]},0):=by
   unfold du.add;exact(aI (by rintro⟨h,_⟩;rw [i] at h;cases h)).trans ((aI (by rw [i];decide)).trans ((aI (by omega)).trans (aI (by simpa using u))))
  rw [f];exact⟨j,.map (some e),[(e,g)],⟨e,g,j,j,n⟩,a.as⟩
section
variable {P:Program} {n:Fr} {Z:Env} {w:World} {dst:Option Nat} {ty:TypeId} {pos:String} {after:Array Edge} {g:Option (Nat×Bool)} {cv:Type} [DecidableEq cv] {key:cv->Value} {I:Obj} {b:Nat}
theorem BC{t cY eG:TypeId}{x y:Operand}{size bytes:Nat}{l:List cv}[hu:bB P t (.map cY eG)][aa:Keys P cY key][i:cn P eG (.bool false) size bytes](hm:cc key I (l.map λk=>(k,Value.bool true)))(d:w.heap[b]? =some I){k:cv}(e:bs Z x=some (.map (some b)))(f:bs Z y=some (key k)):
 ∀a,cF Z n.n a->(execOp a.eval ⟨dst,.lookup t x y false,ty,pos,after,g⟩).run P w= .ok (.value (.bool (decide (k∈l)))) w:=λa c=>by
 have h:=tB (P:=P) (n:=n) (Z:=Z) (t:=t) (cY:=cY) (eG:=eG) (x:=x) (y:=y) (z:=.bool false) (k:=k) (key:=key) (dst:=dst) (ty:=ty) (pos:=pos) (after:=after) (g:=g) hm d e f a c;rw [zd] at h;exact h
end
theorem zf{α:Type}:∀{m:List (Int×α)}{k J:Int}{v:α},J≠k->aZ (b9 m J v) k=aZ m k
 |[],k,J,v,h=>by simp [b9,aZ,h]
 |(i,u)::r,k,J,v,h=>by
  simp only [b9];split
  .rename_i he;subst he;simp only [aZ];rw [aI h,aI h]
  .simp only [aZ];split
   .rfl
   .exact zf h
theorem bt.wY{now:Int}{k:Int}:∀(l:List (Int×du))(a:bt×List bH),(∀p∈l,p.1≠k)->aZ (l.foldl (bt.fv now) a).1.cK k=aZ a.1.cK k
 |[],_,_=>rfl
 |p::r,a,h=>by
  rw [hQ,bt.wY r _ (λq b=>h q (by simp [b]))];unfold bt.fv;split
  .exact zf (h p (by simp))
  .rfl
theorem bt.qf{now:Int}:∀(l:List (Int×du))(a:bt×List bH),(l.foldl (bt.fv now) a).1.now=a.1.now/\(l.foldl (bt.fv now) a).1.answers=a.1.answers/\(l.foldl (bt.fv now) a).1.marks.length<=a.1.marks.length+l.length/\(l.foldl (bt.fv now) a).2.length<=a.2.length+l.length
 |[],_=>⟨j,j,cD _,cD _⟩
 |p::r,a=>by
  rw [hQ];obtain⟨c,d,e,f⟩:=bt.qf r (bt.fv now a p)
  have b:(bt.fv now a p).1.now=a.1.now/\(bt.fv now a p).1.answers=a.1.answers/\(bt.fv now a p).1.marks.length<=a.1.marks.length+1/\(bt.fv now a p).2.length<=a.2.length+1:=by
   unfold bt.fv;split
   .exact⟨j,j,by unfold bt.gf;simp,by simp⟩
   .exact⟨j,j,by omega,by omega⟩
  refine⟨c.trans b.1,d.trans b.2.1,?_,?_⟩<;>rw [ez]<;>omega
theorem x5{o:World}{aV aN:Nat}{now:Int}{c:ja}{p:du}{cq:Value}{l dl:List bH}{M D:List Chunk}{I:bA}(L:dX c.marks l M)(F:mP ht c.fD (o8 dl) D)(R:l.length<=1000000)(a:Own [bU aV now c,M,D,cp aN p cq] o):Calls prog 253 #[ab aV,.agg I.cs.toArray,ab aN] o λr w=>∃v,(p.dg=true/\I.t=p.last/\r= .tuple #[ad 0,v]/\∃v1 s m u,dX v [p.mark I.p (iJ I)] u/\dX v1 (l++[p.mark I.p (iJ I)]) s/\mP ht c.fD (o8 (once dl (p.mark I.p (iJ I)))) m/\C o (au [bU aV now c,M,D,cp aN p cq]) [bU aV now {c with marks:=v1},s,m,cp aN p.shut (.map none),u] w)\/(¬(p.dg=true/\I.t=p.last)/\r= .tuple #[ad (if(⟨iJ I,I.p,I.e,I.t⟩:bH)∈dl then 0 else 6),.slice none 0 0]/\C o (au [bU aV now c,M,D,cp aN p cq]) [bU aV now c,M,D,cp aN p cq] w):=by
 obtain⟨d,G⟩:∃d,d=au [bU aV now c,M,D,cp aN p cq]:=⟨_,j⟩;rw [<-G];have a:C o d [bU aV now c,M,D,cp aN p cq] o:=G▸a;have J:=F;obtain⟨h,i,P,rfl,S⟩:=F;refine a2 func253 (bM 2 a j j (λf w a=>?_));have a:C o d [bD f I,bU aV now c,M,[(h,i)],cp aN p cq] w:=a;refine al 9 j (aw (C.ak a) j) (bm 0 j j (λz=>?_) (λz=>?_));have a:C o d ([bD f I,cp aN p cq]++_) _:=a.front;have a:=a.drew;have y:iJ I=2:=a6 z;refine bw 5 j (λw=>∃ae,C o d ([bD f I,cp aN p cq]++ae) w) ⟨_,a⟩ ?_;rotate_left
 have a:C o d ([bD f I,cp aN p cq]++_) _:=a.front;have a:=a.drew;have y:iJ I=3:=aI (by rw [show I.dI=false from z];decide);refine bw 4 j (λw=>∃ae,C o d ([bD f I,cp aN p cq]++ae) w) ⟨_,a⟩ ?_;rotate_left
 all_goals
  refine af 0 3 j (a8 3 j a1 j (af 4 1 j (ef 16 j (λx=>?_) (λx=>?_))));refine af 5 1 j (a8 6 j a1 j (af 7 3 j (a8 10 j a1 j (af 11 3 j (bK (bm 0 j j (λg=>?_) (λg=>?_)))))))
  .refine al 4 j (aw (C.ak a) j) ?_;have H:=uI (aV:=aV) (aN:=aN) (now:=now) (n:=I.p) (k:=iJ I) (c:=c) (q:=p) (cq:=cq) L J R a.ours;rw [y] at H;refine bh 2 H j (λr w⟨v1,s,m,u,N,K,O,Q⟩=>?_);have a:=a.b3 Q;refine ao 2 j j ?_;rw [y];exact⟨_,.inl ⟨x,dY.1 g,j,v1,s,m,u,O,N,K,a.as⟩⟩
  have a:C o d ([bD f I,bU aV now c,[(h,i)]]++_) _:=a.front;have a:=a.drew;refine bw 1 j (λw=>∃ae,C o d ([bD f I,bU aV now c,[(h,i)]]++ae) w) ⟨_,a⟩ ?_;rotate_left
  refine af 5 9 j (bK ?_);have a:C o d ([bD f I,bU aV now c,[(h,i)]]++_) _:=a.front;have a:=a.drew;refine bw 2 j (λw=>∃ae,C o d ([bD f I,bU aV now c,[(h,i)]]++ae) w) ⟨_,a⟩ ?_;rotate_left
  all_goals
   refine af 0 3 j (a8 3 j a1 (aH some P) (af 4 2 j (a8 6 j a1 j (af 7 1 j (a8 8 j a1 j (af 9 1 j (a8 10 j a1 j (aT 11 j (λw _=>e1 (c:=(⟨iJ I,I.p,I.e,I.t⟩:bH).cs.toArray) j (λ_=>by rw [y];kernel_rfl)) (aT 12 j (λw⟨_,a⟩=>BC (k:=(⟨iJ I,I.p,I.e,I.t⟩:bH)) (key:=ht) S (C.ak (b:=h) a) j j) (af 13 1 j (bK (cm 0 j j (λA=>?_) (λA=>?_)))))))))))))
   .exact ao 4 j j ⟨.slice none 0 0,.inr ⟨(by rintro⟨B,E⟩;first|exact absurd (B.symm.trans x) (by decide)|(rw [dY.2 E] at g;cases g)),by rw [a6 A];rfl,a.as⟩⟩
   exact ao 5 j j ⟨.slice none 0 0,.inr ⟨(by rintro⟨B,E⟩;first|exact absurd (B.symm.trans x) (by decide)|(rw [dY.2 E] at g;cases g)),by rw [aI A];rfl,a.as⟩⟩
theorem Iv{o:World}{aV:Nat}{s:bt}{G:List Chunk}(ba:kc aV s G){N:Nat}(T:s.ok N)(bD:N<=10000)(d:Own [G] o):Calls prog 250 #[ab aV] o λr w=>∃ai t,dX r (s.fx).2 t/\kc aV (s.fx).1 ai/\C o (au [G]) [ai,t] w:=by
 obtain⟨c,gW,M,D,W,F,rfl⟩:=ba;obtain⟨E,aD⟩:∃E,E=au [bU aV s.now c++(gW++(M++(D++W)))]:=⟨_,j⟩;rw [<-aD];have d:C o E [bU aV s.now c++(gW++(M++(D++W)))] o:=aD▸d;have d:=d.qK;obtain⟨m,ah,b1,Z,H,an,az,ao,rfl⟩:=F.l;have hlen:=ao.len;have bG:=T.cK;have aJ:(Z.map (·.1)).Nodup:=az.nodup (P:=prog) (cY:=3);have aO:(s.cK.map Prod.fst).Nodup:=by have:=ao.keys;rw [<-this];exact aJ
 have aL:((dc s.cK).map Prod.fst).Nodup:=(List.Perm.map _ (oO _ _)).nodup_iff.2 aO;refine j0 func250 (bM 2 d j j (λay w d=>?_));have d:C o E (R ay #[ab aV] 39::_) w:=d;refine al 3 j (aw (C.ak d) j) (al 2 j (aw (C.ak d) j) (bq 0 j j j (qs (by have:=T.now;omega) (by omega)) (dB 2 (d.bc aV) j j j j (λw d=>?_))));have d:C o E (bU aV (s.now+1) c::_) w:=d;refine cl 2 d j (λg w d=>?_);have d:C o E (R g #[.slice none 0 0] 34::_) w:=d;have d:C o E [R ay #[ab aV] 39,R g #[.slice none 0 0] 34,bU aV (s.now+1) c,M,D,W,ax 294 m ah b1,H,[]] w:=C.perm (A:=[R ay #[ab aV] 39,R g #[.slice none 0 0] 34,bU aV (s.now+1) c,M,D,W,ax 294 m ah b1++H]) d.as (by simp);refine al 3 j (aw (C.ak d) j) ?_;obtain⟨a,X⟩:∃a:Option Addr,a=some ⟨m,0,none⟩:=⟨_,j⟩;have an:c.l= .pointer a:=an.trans (by rw [X]);refine al 2 j (aw (C.ak (b:=aV) d) (aH some an)) ?_;have bf:dE 294 w a Z:=X▸dE.own (d.to (ax 294 m ah b1)) az;have aq:=w2 (o:=w) (p:=a);refine bh 0 aq j (λr w⟨aR,aS,bp,aa⟩=>?_);subst bp;have be:=bf.st aa;have d:=d.aM aa;have d:C o E ([R aR #[.pointer a] 71,[(aS,.cells #[.func (.func 312) #[] #[]] 38 (0,0))]]++[R ay #[ab aV] 39,R g #[.slice none 0 0] 34,bU aV (s.now+1) c,M,D,W,ax 294 m ah b1,H,[]]) w:=d
 refine j4 1 j (z6 (by omega)) j (by have:=d.size;simpa using this) d j (λ_=>rfl) (by intro p F;simp at F;rcases F with rfl|rfl<;>rfl)
  (λpre ae=>∃(v:Value)(aX:ja)(z u x t:List Chunk),ae=[R ay #[ab aV] 39,R g #[v] 34,bU aV (s.now+1) aX,z,u,W,ax 294 m ah b1,x,t]/\dX v (((dc s.cK).take pre.length).foldl (bt.fv (s.now+1)) (({s with now:=s.now+1}:bt),[])).2 t/\dX aX.marks (((dc s.cK).take pre.length).foldl (bt.fv (s.now+1)) (({s with now:=s.now+1}:bt),[])).1.marks z/\mP ht aX.fD (o8 (((dc s.cK).take pre.length).foldl (bt.fv (s.now+1)) (({s with now:=s.now+1}:bt),[])).1.fD) u/\aX.l=c.l/\aX.answers=c.answers/\c6 ry Z (((dc s.cK).take pre.length).foldl (bt.fv (s.now+1)) (({s with now:=s.now+1}:bt),[])).1.cK x) (λ_ _=>False) ⟨_,c,M,D,H,[],j,dX.nil,F.marks,F.fD,j,j,ao⟩ (λL aK a7=>be.st a7) (λ_ _ _ _=>trivial) ?_ ?_ (λ_ _ h=>h.elim) (λ_ _ _ h=>h.elim)
 .rintro y pre ⟨B,aW⟩ bv L bO aC ⟨v,aX,z,u,x,t,rfl,S,Q,O,aj,am,Y⟩ d;obtain⟨t1,t2,i,bA,bz,bB,K,aQ,bF,bE⟩:=ao.oq aC;have K:dc s.cK=t1++(B,i)::t2:=K;have bo:i.ok s.now:=T.kO (B,i) (gO.1 (show(B,i)∈dc s.cK by rw [K];simp))
  have bl:aZ Z B=some aW:=by
   obtain⟨bN,br⟩:=aC;exact nu (q:=(B,aW)) aJ (ot.1 (by rw [br];simp))
  have bu:(dc s.cK).take pre.length=t1:=by rw [K,<-aQ,md]
  have av:aZ (((dc s.cK).take pre.length).foldl (bt.fv (s.now+1)) (({s with now:=s.now+1}:bt),[])).1.cK B=some i:=by
   rw [bu,bt.wY _ _ (λp F=>by
    rw [K,jU,List.map_cons] at aL;have:=(iR.1 aL).2.2;exact λe=>this p.1 (dO.2 ⟨p,F,j⟩) B (by simp) e)]
   exact vu (q:=(B,i)) aO (gO.1 (show(B,i)∈dc s.cK by rw [K];simp))
  have aE:=bt.qf (now:=(s.now+1)) ((dc s.cK).take pre.length) (({s with now:=s.now+1}:bt),[]);have bL:((dc s.cK).take pre.length).length<=8:=by rw [hl,hR];omega
  have aA:=yt (f:=bt.fv (s.now+1)) (b:=((({s with now:=s.now+1}:bt),[]):bt×List bH)) K aQ;have bj:(((dc s.cK).take pre.length).foldl (bt.fv (s.now+1)) (({s with now:=s.now+1}:bt),[])).1.marks.length<=s.marks.length+8:=eh aE.2.2.1 (by show s.marks.length+_<=_;omega);have bk:(((dc s.cK).take pre.length).foldl (bt.fv (s.now+1)) (({s with now:=s.now+1}:bt),[])).2.length<=8:=eh aE.2.2.2 (by show 0+_<=_;omega);obtain⟨a0,bi⟩:∃a0,a0=(((dc s.cK).take pre.length).foldl (bt.fv (s.now+1)) (({s with now:=s.now+1}:bt),[])):=⟨_,j⟩;rw [<-bi] at S Q O Y av aA bj bk;obtain⟨v0,I,bC,J,aG,rfl,bg,aP⟩:=Y.find av;rw [bl] at aG;cases aG;obtain⟨aN,cq,V,rfl,a9,rfl⟩:=bg;have d:=C.gy d;refine bI 5 j (⟨j,_,d,λL U d=>?_⟩);obtain⟨x,ad⟩:∃x,x=I++((cp aN i cq++V)++J):=⟨_,j⟩;rw [<-ad] at d;have d:=C.gy d;have d:C U (au [R ay #[ab aV] 39,R g #[v] 34,bU aV (s.now+1) aX,z,u,W,ax 294 m ah b1,x,t]) [R ay #[ab aV] 39,R g #[v] 34,bU aV (s.now+1) aX,z,u,W,ax 294 m ah b1,I,cp aN i cq,V,J,t] U:=C.perm (A:=[R ay #[ab aV] 39,R g #[v] 34,bU aV (s.now+1) aX,z,u,W,ax 294 m ah b1,x,t]) d (by rw [ad];simp);have d:C U (au [R ay #[ab aV] 39,R g #[v] 34,bU aV (s.now+1) aX,z,u,W,ax 294 m ah b1,x,t]) ([R ay #[ab aV] 39,bU aV (s.now+1) aX,cp aN i cq]++_) _:=d.front;have d:=d.drew;refine bw 2 j (λw=>∃ae,C U (au [R ay #[ab aV] 39,R g #[v] 34,bU aV (s.now+1) aX,z,u,W,ax 294 m ah b1,x,t]) ([R ay #[ab aV] 39,bU aV (s.now+1) aX,cp aN i cq]++ae) w) ⟨_,d⟩ (af 0 3 j (bT 3 j (λw⟨_,d⟩=>aw (C.ak (b:=aN) d) j) (af 4 1 j (ef 24 j (λap=>?_) (λap=>?_)))));refine bT 5 j (λw⟨_,d⟩=>aw (C.ak (b:=ay) d) j) (af 6 2 j (bT 8 j (λw⟨_,d⟩=>aw (C.ak (b:=aV) d) j) (af 9 3 j (bT 12 j (λw⟨_,d⟩=>aw (C.ak (b:=aN) d) j) (aT 13 j (λw _=>dq j j (sd (by have:=T.now;omega) (by have:=bo.fk;have:=T.now;omega))) (af 14 2 j (bK (cm 0 j j (λeS=>?_) (λeS=>?_)))))))))
  .have d:C U (au [R ay #[ab aV] 39,R g #[v] 34,bU aV (s.now+1) aX,z,u,W,ax 294 m ah b1,x,t]) ([R ay #[ab aV] 39,R g #[v] 34]++_) _:=d.front;have d:=d.drew;refine bw 0 j (λw=>∃ae,C U (au [R ay #[ab aV] 39,R g #[v] 34,bU aV (s.now+1) aX,z,u,W,ax 294 m ah b1,x,t]) ([R ay #[ab aV] 39,R g #[v] 34]++ae) w) ⟨_,d⟩ (bT 0 j (λw⟨_,d⟩=>aw (C.ak (b:=g) d) j) (bT 1 j (λw⟨_,d⟩=>aw (C.ak (b:=ay) d) j) (af 2 2 j (aU 4 j ?_))));have aq:=uI (aV:=aV) (aN:=aN) (now:=(s.now+1)) (n:=B) (k:=3) (c:=aX) (q:=i) (cq:=cq) Q O (by have:=T.marks;omega) d.ours;refine cN j j j aq (λr w⟨v1,M2,ac,aY,a8,a5,bb,bm⟩=>?_);have d:=d.b3 bm;have d:C _ _ ([R ay #[ab aV] 39,R g #[v] 34]++_) w:=d.front;refine ar ⟨⟨_,d⟩,?_⟩;refine aU 5 j (rp (d.front (cI:=[t,aY])) S bb (mv _) j j (by decide) (by decide) j j j (by simp;omega) (λv3 bn w ag d=>?_));have ag:=dX.sq ag;have d:C _ _ ([R ay #[ab aV] 39,R g #[v] 34]++_) w:=d.front;refine ar ⟨⟨_,d⟩,?_⟩;refine dy 6 j (cC (d.bc g) j j j ag.one bJ (λw d=>?_));have d:C _ _ (R g #[v3] 34::_) w:=d;have d:C _ _ [R ay #[ab aV] 39,R g #[v3] 34,bU aV (s.now+1) {aX with marks:=v1},M2,ac,W,ax 294 m ah b1,I,cp aN i.shut (.map none),J,bn] w:=d.as;refine ar (cX (bI 0 j ?_));have aB:bt.fv (s.now+1) a0 (B,i)=(a0.1.gf B i 3,a0.2++[i.mark B 3]):=a6 ⟨ap,eS⟩;subst ad;refine⟨[R ay #[ab aV] 39,R g #[v3] 34,bU aV (s.now+1) {aX with marks:=v1},M2,ac,W,ax 294 m ah b1,(I++((cp aN i.shut (.map none)++[])++J)),bn],C.perm (A:=[R ay #[ab aV] 39,R g #[v3] 34,bU aV (s.now+1) {aX with marks:=v1},M2,ac,W,ax 294 m ah b1,I,cp aN i.shut (.map none),J,bn]) d (by simp),v3,{aX with marks:=v1},M2,ac,_,bn,j,?_⟩;rw [b4,List.length_singleton,aA,aB];exact⟨ag,a8,a5,aj,am,aP i.shut _ ⟨aN,.map none,[],j,⟨j,j⟩,j⟩⟩
  refine bI 1 j ?_;rotate_left
  refine af 5 11 j (bK (bI 2 j ?_));rotate_left
  all_goals
   have aB:bt.fv (s.now+1) a0 (B,i)=a0:=aI (by rintro⟨a3,a4⟩;first|exact absurd (a3.symm.trans ap) (by decide)|exact absurd a4 eS);subst ad;refine⟨[R ay #[ab aV] 39,R g #[v] 34,bU aV (s.now+1) aX,z,u,W,ax 294 m ah b1,(I++((cp aN i cq++V)++J)),t],C.perm (A:=[R ay #[ab aV] 39,R g #[v] 34,bU aV (s.now+1) aX,z,u,W,ax 294 m ah b1,I,cp aN i cq,V,J,t]) d.as (by simp),v,aX,z,u,_,t,j,?_⟩;rw [b4,List.length_singleton,aA,aB];refine⟨S,Q,O,aj,am,?_⟩;have:=aP i _ ⟨aN,cq,V,j,a9,j⟩
   rwa [sB av] at this
 rintro xs bx w bd ⟨v,aX,z,u,x,t,rfl,S,Q,O,aj,am,Y⟩ d;rw [bd,iA,hlen,ir (by rw [hR];exact cD _)] at S Q O Y;have d:C o E [R aR #[.pointer a] 71,[(aS,.cells #[.func (.func 312) #[] #[]] 38 (0,0))],R ay #[ab aV] 39,R g #[v] 34,bU aV (s.now+1) aX,z,u,W,ax 294 m ah b1,x,t] w:=d;refine al 2 j (aw (C.ak (b:=g) d) j) (bI 1 j ⟨v,λw bs=>?_⟩);have d:=bs.st d (cD _);refine⟨λa X=>i7 (fn:=f250) X j _ _,?_⟩;have aF:=bt.qf (now:=(s.now+1)) (dc s.cK) (({s with now:=s.now+1}:bt),[]);have a1:(s.fx).1.now=s.now+1:=aF.1;have a2:(s.fx).1.answers=s.answers:=aF.2.1;have d:C o E [bU aV (s.now+1) aX,ax 294 m ah b1,x,z,u,W,t] w:=d.as;refine⟨_,t,S,⟨aX,ax 294 m ah b1++x,z,u,W,⟨⟨m,ah,b1,Z,x,by rw [aj,an,X],az,Y,j⟩,Q,O,by rw [am,a2];exact F.answers⟩,j⟩,?_⟩;rw [a1];exact C.perm (A:=[bU aV (s.now+1) aX,ax 294 m ah b1,x,z,u,W,t]) d (by simp)
theorem GH{I:bA}(h:gR I=true): -1000<=I.t/\I.t<=1000:=by
 unfold gR at h;simp only [d8] at h;have a:=h.2;split at a
 .simp only [bA.ids,d8,dY] at a;obtain⟨⟨⟨_,⟨_,b⟩⟩,_⟩,_⟩:=a;omega
 .split at a
  .simp only [bA.ids,d8,dY] at a;obtain⟨⟨⟨_,⟨_,b⟩⟩,_⟩,_⟩:=a;omega
  .split at a
   .simp only [iK,oa,d8] at a;omega
   .split at a
    .simp only [iK,oa,d8] at a;omega
    .cases a
theorem D0{o:World}{aV:Nat}{s:bt}{G:List Chunk}{I:bA}(aA:kc aV s G){N:Nat}(L:s.ok N)(ay:N<=10000)(aL:gR I=true)(a:Own [G] o):Calls prog 202 #[ab aV,.agg I.cs.toArray] o λr w=>∃v ai F,r= .tuple #[kx (s.bY I).2.1,v]/\dX v (s.bY I).2.2 F/\kc aV (s.bY I).1 ai/\C o (au [G]) [ai,F] w:=by
 have aB:=aA;obtain⟨c,gW,M,D,W,m,aD⟩:=aA;obtain⟨d,av⟩:∃d,d=au [G]:=⟨_,j⟩;rw [<-av];have a:C o d [G] o:=av▸a;refine e9 func202 (bM 2 a j j (λi w a=>?_));have a:C o d (bD i I::_) w:=a;refine cl 0 a j (λf w a=>?_);have a:C o d (R f #[ad 0,ad 0,ad 0] 123::_) w:=a;refine al 5 j (aw (C.ak (b:=i) a) j) (bm 5 j j (λn=>?_) (λn=>?_))
 .refine bN 3 (U:=I.cs) j j j (bp (C.ak (b:=i) a)) ?_;have z:=C1 (I:=I) aB L ay a.ours;refine bh 0 z j (λr w⟨v,ai,F,V,Q,an,E⟩=>?_);subst V;have a:=a.b3 E;refine ck 2 (a.bc f) j j j j j (λw a=>?_);have a:=C.whole (U:=[ad (s.c9 I).2.1.1,ad (s.c9 I).2.1.2.1,ad (s.c9 I).2.1.2.2]) a j;have a:C o d (R f #[ad (s.c9 I).2.1.1,ad (s.c9 I).2.1.2.1,ad (s.c9 I).2.1.2.2] 123::_) w:=a;refine bI 1 j ⟨_,dp results202 j j j j a.bE,?_⟩
  have x:s.bY I=s.c9 I:=by
   unfold bt.bY;exact a6 (dY.1 n)
  rw [x];exact⟨v,ai,F,j,Q,an,a.as⟩
 refine bm 4 j j (λq=>?_) (λq=>?_)
 .refine aq 2 j (cP (c:= #[ad 0,ad 0,ad 0]) j j j (λ_=>by kernel_rfl) ?_);have z:=Iv aB L ay a.ours;refine bh 1 z j (λr w⟨ai,F,Q,an,E⟩=>?_);have a:=a.b3 E;refine ck 0 (a.bc f) j j j j j (λw a=>?_);have a:=C.whole (U:=[ad 0,ad 0,ad 0]) a j;have a:C o d (R f #[ad 0,ad 0,ad 0] 123::_) w:=a;refine bI 1 j ⟨_,dp results202 j j j j a.bE,?_⟩
  have x:s.bY I=((s.fx).1,(0,0,0),(s.fx).2):=by
   unfold bt.bY;exact(aI (by rw [ft] at n;exact n)).trans (a6 (dY.1 q))
  rw [x];exact⟨_,ai,F,j,Q,an,a.as⟩
 rw [aD] at a;have a:C o d [bU aV s.now c++(gW++(M++(D++W))),R f #[ad 0,ad 0,ad 0] 123,bD i I] _:=a.as;have a:C o d [bU aV s.now c,gW,M,D,W,R f #[ad 0,ad 0,ad 0] 123,bD i I] _:=a.qK;obtain⟨g,ah,b1,O,H,S,T,aa,rfl⟩:=m.l;have a:C o d ([bD i I,bU aV s.now c]++_) _:=a.front;have a:=a.drew;refine bw 2 j (λw=>∃ae,C o d ([bD i I,bU aV s.now c]++ae) w) ⟨_,a⟩ (af 0 3 j (a8 3 j a1 (aH some S) (af 4 1 j (a8 5 j a1 j (aU 6 j ?_)))));have aG:=dE.own (C.perm (A:=[ax 294 g ah b1++H,bD i I,bU aV s.now c]) (B:=[ax 294 g ah b1,H,bD i I,bU aV s.now c]) a.as (by simp)) T;have z:=Ex (k:=I.p) aG;refine bF j j j z (λw E=>?_);have a:=a.aM E;have a:C o d ([bD i I,bU aV s.now c]++_) w:=a.front;refine ar ⟨⟨_,a⟩,?_⟩;refine af 7 5 j (bK (bm 7 j j (λam=>?_) (λam=>?_)))
 .refine aq 2 j (cP (c:= #[ad 4,ad 0,ad 0]) j j j (λ_=>by kernel_rfl) ?_);refine ck 0 (a.bc f) j j j j j (λw a=>?_);have a:=C.whole (U:=[ad 4,ad 0,ad 0]) a j;have a:C o d (R f #[ad 4,ad 0,ad 0] 123::_) w:=a;refine bI 1 j ⟨_,dp results202 j j j j a.bE,?_⟩
  have x:s.bY I=(s,(4,0,0),[]):=by
   unfold bt.bY;refine(aI (by rw [ft] at n;exact n)).trans ((aI (by rw [ft] at q;exact q)).trans ?_);have u:(aZ O I.p).isSome=false:=by simpa using am
   rw [aa.isSome] at u;rw [mu u]
  rw [x];have a:C o d [bU aV s.now c,ax 294 g ah b1++H,M,D,W,[]] w:=(C.empty a).as;exact⟨_,_,[],j,dX.nil,⟨c,ax 294 g ah b1++H,M,D,W,⟨⟨g,ah,b1,O,H,S,T,aa,j⟩,m.marks,m.fD,m.answers⟩,j⟩,a.yR⟩
 obtain⟨p,J⟩:∃p,aZ s.cK I.p=some p:=by
  have u:(aZ O I.p).isSome=true:=by simpa using am
  rw [aa.isSome] at u;exact gX.1 u
 obtain⟨v0,H1,aP,y,aK,rfl,aJ,ap⟩:=aa.find J;obtain⟨aN,cq,K,rfl,az,rfl⟩:=aJ;have aO:p.ok s.now:=L.kO _ (hF J);have a:C o d [bU aV s.now c,ax 294 g ah b1,H1,cp aN p cq,K,y,M,D,W,R f #[ad 0,ad 0,ad 0] 123,bD i I] _:=C.perm (A:=[bU aV s.now c,ax 294 g ah b1++(H1++((cp aN p cq++K)++y)),M,D,W,R f #[ad 0,ad 0,ad 0] 123,bD i I]) a.as (by simp);have a:C o d ([bD i I,cp aN p cq]++_) _:=a.front;have a:=a.drew;refine bw 1 j (λw=>∃ae,C o d ([bD i I,cp aN p cq]++ae) w) ⟨_,a⟩ (iW 6 (ab aN) j (by rw [aK];rfl) (af 0 1 j (a8 1 j a1 j (af 2 3 j (a8 5 j a1 j (af 6 2 j (bK (bm 0 j j (λP=>?_) (λP=>?_)))))))));refine aq 2 j (cP (c:= #[ad 5,ad 0,ad 0]) j j j (λ_=>by kernel_rfl) ?_);refine ck 0 (a.bc f) j j j j j (λw a=>?_);have a:=C.whole (U:=[ad 5,ad 0,ad 0]) a j;have a:C o d (R f #[ad 5,ad 0,ad 0] 123::_) w:=a;refine bI 1 j ⟨_,dp results202 j j j j a.bE,?_⟩
 have x:s.bY I=(s,(5,0,0),[]):=by
  unfold bt.bY;refine(aI (by rw [ft] at n;exact n)).trans ((aI (by rw [ft] at q;exact q)).trans ?_);rw [J];exact a6 (by simpa using P)
 rotate_left
 refine al 3 j (aw (C.ak (b:=i) a) j) (bm 2 j j (λY=>?_) (λY=>?_))
 .refine bN 3 (U:=I.cs) j j j (bp (C.ak (b:=i) a)) ?_;have z:=Cg (aV:=aV) (aN:=aN) (c:=c) (I:=I) az aO (by have:=L.now;omega) (GH aL) a.ours;refine bo 1 z j (λw⟨ac,X,aF,E⟩=>?_);have a:=a.b3 E;refine cP (c:= #[ad (p.add s.now I).2,ad 0,ad 0]) j j j (λ_=>by kernel_rfl) (ck 0 (a.bc f) j j j j j (λw a=>?_));have a:=C.whole (U:=[ad (p.add s.now I).2,ad 0,ad 0]) a j;have a:C o d (R f #[ad (p.add s.now I).2,ad 0,ad 0] 123::_) w:=a;refine bI 1 j ⟨_,dp results202 j j j j a.bE,?_⟩
  have x:s.bY I=((s.o0 I p).1,((s.o0 I p).2,0,0),[]):=by
   unfold bt.bY;refine(aI (by rw [ft] at n;exact n)).trans ((aI (by rw [ft] at q;exact q)).trans ?_);rw [J];exact(aI (by simpa using P)).trans (if_pos (beq_iff_eq.1 Y))
  rw [x];have a:C o d [bU aV s.now c,ax 294 g ah b1,H1,cp aN (p.add s.now I).1 ac,X,y,M,D,W,[]] w:=(C.empty a).as;have u:=ap (p.add s.now I).1 _ ⟨aN,ac,X,j,aF,j⟩;exact⟨_,_,[],j,dX.nil,⟨c,ax 294 g ah b1++(H1++((cp aN (p.add s.now I).1 ac++X)++y)),M,D,W,⟨⟨g,ah,b1,O,_,S,T,u,j⟩,m.marks,m.fD,m.answers⟩,j⟩,C.perm (A:=[bU aV s.now c,ax 294 g ah b1,H1,cp aN (p.add s.now I).1 ac,X,y,M,D,W,[]]) a (by simp [bt.o0])⟩
 refine bN 4 (U:=I.cs) j j j (bp (C.ak (b:=i) a)) (aq 1 j ?_);by_cases Z:p.dg=true/\I.t=p.last
 .have z:=x5 (aV:=aV) (aN:=aN) (now:=s.now) (c:=c) (p:=p) (cq:=cq) (I:=I) m.marks m.fD (by have:=L.marks;omega) a.ours;refine bh 0 z j (λr w⟨v,ao⟩=>?_);obtain⟨_,_,V,v1,aj,ag,F,Q,aE,aC,E⟩:=ao.resolve_right (λh=>h.1 Z);subst V;have a:=a.b3 E;refine aq 8 j (cP (c:= #[ad 0,ad 0,ad 0]) j j j (λ_=>by kernel_rfl) ?_);refine ck 1 (a.bc f) j j j j j (λw a=>?_);have a:=C.whole (U:=[ad 0,ad 0,ad 0]) a j;have a:C o d (R f #[ad 0,ad 0,ad 0] 123::_) w:=a;refine bI 1 j ⟨_,dp results202 j j j j a.bE,?_⟩
  have x:s.bY I=(s.gf I.p p (iJ I),(0,0,0),[p.mark I.p (iJ I)]):=by
   unfold bt.bY;refine(aI (by rw [ft] at n;exact n)).trans ((aI (by rw [ft] at q;exact q)).trans ?_);rw [J];refine(aI (by simpa using P)).trans ((if_neg (by simpa using Y)).trans ?_);unfold bt.ends;rw [a6 Z]
  rw [x];have a:C o d [bU aV s.now {c with marks:=v1},ax 294 g ah b1,H1,cp aN p.shut (.map none),y,aj,ag,W,F] w:=a.as;have u:=ap p.shut _ ⟨aN,.map none,[],j,⟨j,j⟩,j⟩;exact⟨_,_,F,j,Q,⟨{c with marks:=v1},ax 294 g ah b1++(H1++((cp aN p.shut (.map none)++[])++y)),aj,ag,W,⟨⟨g,ah,b1,O,_,S,T,u,j⟩,aE,aC,m.answers⟩,j⟩,C.perm (A:=[bU aV s.now {c with marks:=v1},ax 294 g ah b1,H1,cp aN p.shut (.map none),y,aj,ag,W,F]) a (by simp [bt.gf])⟩
 have z:=x5 (aV:=aV) (aN:=aN) (now:=s.now) (c:=c) (p:=p) (cq:=cq) (I:=I) m.marks m.fD (by have:=L.marks;omega) a.ours;refine bh 0 z j (λr w⟨v,ao⟩=>?_);obtain⟨_,V,E⟩:=ao.resolve_left (λh=>Z ⟨h.1,h.2.1⟩);subst V;have a:=a.b3 E;refine aq 8 j (cP (c:= #[ad (if(⟨iJ I,I.p,I.e,I.t⟩:bH)∈s.fD then 0 else 6),ad 0,ad 0]) j j j (λ_=>by kernel_rfl) ?_);refine ck 1 (a.bc f) j j j j j (λw a=>?_);have a:=C.whole (U:=[ad (if(⟨iJ I,I.p,I.e,I.t⟩:bH)∈s.fD then 0 else 6),ad 0,ad 0]) a j;have a:C o d (R f #[ad (if(⟨iJ I,I.p,I.e,I.t⟩:bH)∈s.fD then 0 else 6),ad 0,ad 0] 123::_) w:=a;refine bI 1 j ⟨_,dp results202 j j j j a.bE,?_⟩
 have x:s.bY I=(s,((if(⟨iJ I,I.p,I.e,I.t⟩:bH)∈s.fD then 0 else 6),0,0),[]):=by
  unfold bt.bY;refine(aI (by rw [ft] at n;exact n)).trans ((aI (by rw [ft] at q;exact q)).trans ?_);rw [J];refine(aI (by simpa using P)).trans ((if_neg (by simpa using Y)).trans ?_);unfold bt.ends;rw [aI Z];split<;>rfl
 rotate_left
 all_goals
  rw [x];have a:C o d [bU aV s.now c,ax 294 g ah b1,H1,cp aN p cq,K,y,M,D,W,[]] w:=(C.empty a).as;have u:=ap p _ ⟨aN,cq,K,j,az,j⟩;rw [sB J] at u;exact⟨_,_,[],j,dX.nil,⟨c,ax 294 g ah b1++(H1++((cp aN p cq++K)++y)),M,D,W,⟨⟨g,ah,b1,O,_,S,T,u,j⟩,m.marks,m.fD,m.answers⟩,j⟩,C.perm (A:=[bU aV s.now c,ax 294 g ah b1,H1,cp aN p cq,K,y,M,D,W,[]]) a (by simp)⟩
theorem FW(l:List ((Int×Int)×(Int×Int×Int)))(k:Int×Int):(aZ (n1 l) k).getD (kx (0,0,0))=kx ((aZ l k).getD (0,0,0)):=by
 unfold n1;rw [nt];cases aZ l k<;>rfl
theorem zc(l:List ((Int×Int)×(Int×Int×Int)))(k:Int×Int):(aZ (n1 l) k).isSome=(aZ l k).isSome:=by
 unfold n1;rw [nt];cases aZ l k<;>rfl
theorem xa{o:World}{aV:Nat}{s:bt}{G:List Chunk}{I:bA}(Y:kc aV s G){N:Nat}(aA:s.ok N)(aj:N<=10000)(d:Own [G] o):Calls prog 148 #[ab aV,.agg I.cs.toArray] o λr w=>∃v ai m,r= .tuple #[kx (s.apply I).2.1,v]/\dX v (s.apply I).2.2 m/\kc aV (s.apply I).1 ai/\C o (au [G]) [ai,m] w:=by
 have O:=Y;obtain⟨c,gW,M,D,W,aB,L⟩:=Y;obtain⟨e,X⟩:∃e,e=au [G]:=⟨_,j⟩;rw [<-X];have d:C o e [G] o:=X▸d;refine e9 func148 (bM 2 d j j (λh w d=>?_));have d:C o e (bD h I::_) w:=d;refine cl 0 d j (λg w d=>?_);have d:C o e [R g #[ad 0,ad 0,ad 0] 123,bD h I,G] w:=d;refine bN 4 (U:=I.cs) j j j (bp (C.ak (b:=h) d)) (bh 0 (uO (I:=I)) j (λr w⟨aF,aD,T,aE,P⟩=>?_));subst T;have d:=d.aM P;refine aq 10 j (bS 20 (.bool false) j (aH Value.bool (j)) ?_);refine bm 3 j j (λJ=>?_) (λJ=>?_)
 .have az:gR I=false:=vM J;refine aq 2 j (cP (c:= #[ad 6,ad 0,ad 0]) j j j (λ_=>by kernel_rfl) ?_);refine ck 0 (d.bc g) j j j j j (λw d=>?_);have d:=C.whole (U:=[ad 6,ad 0,ad 0]) d j;have d:C o e (R g #[ad 6,ad 0,ad 0] 123::_) w:=d;refine bI 1 j ⟨_,dp results148 j j j j d.bE,?_⟩
  have u:s.apply I=(s,(6,0,0),[]):=by
   unfold bt.apply;exact a6 az
  rw [u];exact⟨_,G,[],j,dX.nil,O,(C.empty d).as⟩
 have S:gR I=true:=vN J;refine al 4 j (aw (C.ak (b:=h) d) j) (al 1 j (aw (C.ak (b:=h) d) j) (cP (c:= #[ad I.c,ad I.s]) j j j (λ_=>by kernel_rfl) (cl 0 d j (λf w d=>ck 0 (d.bc f) j j j j j (λw d=>?_)))));have d:=C.whole (U:=[ad I.c,ad I.s]) d j;have d:C o e (R f #[ad I.c,ad I.s] 321::_) w:=d;rw [L] at d;have d:C o e [bU aV s.now c++(gW++(M++(D++W))),R f #[ad I.c,ad I.s] 321,R g #[ad 0,ad 0,ad 0] 123,bD h I] _:=d.as;have d:C o e [bU aV s.now c,gW,M,D,W,R f #[ad I.c,ad I.s] 321,R g #[ad 0,ad 0,ad 0] 123,bD h I] _:=d.qK;obtain⟨n,t,ao,rfl,av⟩:=aB.answers;have d:C o e ([bU aV s.now c,R f #[ad I.c,ad I.s] 321,[(n,t)]]++_) _:=d.front;have d:=d.drew;refine bw 2 j (λw=>∃ae,C o e ([bU aV s.now c,R f #[ad I.c,ad I.s] 321,[(n,t)]]++ae) w) ⟨_,d⟩ (af 0 3 j (a8 3 j a1 (aH some ao) (aT 4 j (λw⟨_,d⟩=>c3 (U:=[ad I.c,ad I.s]) j j j (bp (C.ak (b:=f) d))) (aT 5 j (λw⟨_,d⟩=>tC (key:=k0) (k:=(I.c,I.s)) av (C.ak (b:=n) d) j j) (af 6 3 j (aU 9 j (ex d j j (λH w d=>?_))))))));have d:C o e ([bU aV s.now c,R f #[ad I.c,ad I.s] 321,[(n,t)]]++_) w:=d.front;refine ar ⟨⟨_,d⟩,?_⟩;obtain⟨a,aa⟩:∃a,a=((aZ s.answers (I.c,I.s)).getD (0,0,0)):=⟨_,j⟩;refine iW 37 (kx a) j (by rw [aa];exact FW _ _) (aU 10 j (c4 (d.bc H) j j j j j bJ (λw d=>?_)));have d:=C.whole (U:=[ad a.1,ad a.2.1,ad a.2.2]) d j;have d:C o e (R H #[ad a.1,ad a.2.1,ad a.2.2] 123::_) w:=d;have d:C o e ([bU aV s.now c,R f #[ad I.c,ad I.s] 321,[(n,t)]]++_) w:=d.front;refine ar ⟨⟨_,d⟩,?_⟩;refine af 11 1 j (bK (bm 3 j j (λK=>?_) (λK=>?_)))
 .refine bN 2 (U:=[ad a.1,ad a.2.1,ad a.2.2]) j j j (bp (C.ak (b:=H) d)) (ck 0 (d.bc g) j j j j j (λw d=>?_));have d:=C.whole (U:=[ad a.1,ad a.2.1,ad a.2.2]) d j;have d:C o e (R g #[ad a.1,ad a.2.1,ad a.2.2] 123::_) w:=d;refine bI 1 j ⟨_,dp results148 j j j j d.bE,?_⟩
  obtain⟨F,Z⟩:∃F,aZ s.answers (I.c,I.s)=some F:=by
   have q:=K;rw [zc] at q;exact gX.1 q
  have an:a=F:=by rw [aa,Z];rfl
  have u:s.apply I=(s,a,[]):=by
   unfold bt.apply;rw [aI (by rw [S];decide),Z,an]
  rw [u];refine⟨_,G,[],j,dX.nil,O,?_⟩;rw [L];exact C.perm (A:=[bU aV s.now c,gW,M,D,[(n,t)],[]]) (C.empty d).as (by simp)
 refine bN 4 (U:=I.cs) j j j (bp (C.ak (b:=h) d)) ?_;have d:C o e [G,R g #[ad 0,ad 0,ad 0] 123,bD h I,R f #[ad I.c,ad I.s] 321] w:=by rw [L];exact C.perm (A:=[bU aV s.now c,gW,M,D,[(n,t)],R g #[ad 0,ad 0,ad 0] 123,bD h I,R f #[ad I.c,ad I.s] 321]) d.as (by simp)
 have ap:=D0 (I:=I) O aA aj S d.ours;refine bh 0 ap j (λr w⟨v,ai,m,T,am,ah,P⟩=>?_);subst T;have d:=d.b3 P;refine cl 3 d j (λi w d=>ck 0 (d.bc i) j j j j j (λw d=>?_));have d:=C.whole (U:=[ad (s.bY I).2.1.1,ad (s.bY I).2.1.2.1,ad (s.bY I).2.1.2.2]) d j;have d:C o e (R i #[ad (s.bY I).2.1.1,ad (s.bY I).2.1.2.1,ad (s.bY I).2.1.2.2] 123::_) w:=d;obtain⟨aX,B,z,y,ag,E,rfl⟩:=ah;have d:C o e [bU aV (s.bY I).1.now aX++(B++(z++(y++ag))),R i #[ad (s.bY I).2.1.1,ad (s.bY I).2.1.2.1,ad (s.bY I).2.1.2.2] 123,m,R f #[ad I.c,ad I.s] 321,R g #[ad 0,ad 0,ad 0] 123,bD h I] _:=d.as;have d:=d.qK;obtain⟨p,V,ac,rfl,ax⟩:=E.answers;have d:C o e ([bU aV (s.bY I).1.now aX,R f #[ad I.c,ad I.s] 321,R i #[ad (s.bY I).2.1.1,ad (s.bY I).2.1.2.1,ad (s.bY I).2.1.2.2] 123,[(p,V)]]++_) _:=d.front;have d:=d.drew;refine bw 2 j (λw=>∃ae,C o e ([bU aV (s.bY I).1.now aX,R f #[ad I.c,ad I.s] 321,R i #[ad (s.bY I).2.1.1,ad (s.bY I).2.1.2.1,ad (s.bY I).2.1.2.2] 123,[(p,V)]]++ae) w) ⟨_,d⟩ (af 0 3 j (a8 3 j a1 (aH some ac) (aT 4 j (λw⟨_,d⟩=>c3 (U:=[ad I.c,ad I.s]) j j j (bp (C.ak (b:=f) d))) (aT 5 j (λw⟨_,d⟩=>c3 (U:=[ad (s.bY I).2.1.1,ad (s.bY I).2.1.2.1,ad (s.bY I).2.1.2.2]) j j j (bp (C.ak (b:=i) d))) (dy 6 j (jy (key:=k0) (k:=(I.c,I.s)) ax (d.to [(p,V)]) j j j j (λx w Q d=>?_)))))))
 have Q:cc k0 x (n1 (b9 (s.bY I).1.answers (I.c,I.s) (s.bY I).2.1)):=by
  unfold n1;rw [<-vz];exact Q
 have d:C o e [bU aV (s.bY I).1.now aX,B,z,y,[(p,x)],R i #[ad (s.bY I).2.1.1,ad (s.bY I).2.1.2.1,ad (s.bY I).2.1.2.2] 123,m,R f #[ad I.c,ad I.s] 321,R g #[ad 0,ad 0,ad 0] 123,bD h I] w:=d.as;refine ar (cX (bN 2 (U:=[ad (s.bY I).2.1.1,ad (s.bY I).2.1.2.1,ad (s.bY I).2.1.2.2]) j j j (bp (C.ak (b:=i) d)) (ck 1 (d.bc g) j j j j j (λw d=>?_))));have d:=C.whole (U:=[ad (s.bY I).2.1.1,ad (s.bY I).2.1.2.1,ad (s.bY I).2.1.2.2]) d j;have d:C o e (R g #[ad (s.bY I).2.1.1,ad (s.bY I).2.1.2.1,ad (s.bY I).2.1.2.2] 123::_) w:=d;refine bI 1 j ⟨_,dp results148 j j j j d.bE,?_⟩
 have ay:aZ s.answers (I.c,I.s)=none:=by
  have q:=K;rw [zc] at q;cases aC:aZ s.answers (I.c,I.s) with
  |none=>rfl
  |some _=>rw [aC] at q;cases q
 have u:s.apply I=({(s.bY I).1 with answers:=b9 (s.bY I).1.answers (I.c,I.s) (s.bY I).2.1},(s.bY I).2.1,(s.bY I).2.2):=by
  unfold bt.apply;rw [aI (by rw [S];decide),ay]
 rw [u];have d:C o e [bU aV (s.bY I).1.now aX,B,z,y,[(p,x)],m] w:=d.as;exact⟨v,_,m,j,am,⟨aX,B,z,y,[(p,x)],⟨E.l,E.marks,E.fD,⟨p,x,ac,j,Q⟩⟩,j⟩,d.yR⟩
theorem sA{α:Type}:∀{m:List (Int×α)}{k:Int}{v:α},k∈m.map Prod.fst->(b9 m k v).map Prod.fst=m.map Prod.fst
 |[],_,_,h=>by simp at h
 |(J,u)::r,k,v,h=>by
  simp only [b9];split
  .rename_i he;simp [he]
  .rename_i a;simp only [jT]
   rw [sA (by
    rcases g0.1 (show k∈J::r.map Prod.fst from h) with h|h
    ·exact absurd h.symm a
    ·exact h)]
theorem FX{α:Type}{m:List (Int×α)}{k:Int}{a:α}(h:aZ m k=some a):k∈m.map Prod.fst:=dO.2 ⟨_,hF h,j⟩
theorem du.ok.shut{now:Int}{p:du}(h:p.ok now):p.shut.ok now:=⟨h.b5,h.last,h.fk,λh=>by cases h⟩
theorem pl{α:Type}{P:α->Prop}{m:List (Int×α)}{k:Int}{v:α}(h:∀q∈m,P q.2)(c:P v):∀q∈b9 m k v,P q.2:=λq b=>by
 rcases iy b with a|a
 .exact h q a
 .rw [a];exact c
theorem bt.ok.fv{N:Nat}:∀(l:List (Int×du))(a:bt×List bH),a.1.cK.length<=8->(∀q∈a.1.cK,q.2.ok a.1.now)->(∀p∈l,p.1∈a.1.cK.map Prod.fst/\p.2.ok a.1.now)->((l.foldl (bt.fv N) a).1.cK.length<=8/\∀q∈(l.foldl (bt.fv N) a).1.cK,q.2.ok a.1.now)
 |[],a,f,b,_=>⟨f,b⟩
 |p::r,a,f,b,c=>by
  rw [hQ];obtain⟨h,i⟩:=c p (by simp);by_cases g:p.2.dg=true/\5<=(N:Int)-p.2.fk
  .have e:bt.fv N a p=(a.1.gf p.1 p.2 3,a.2++[p.2.mark p.1 3]):=a6 g;rw [e];have aa:(b9 a.1.cK p.1 p.2.shut).map Prod.fst=a.1.cK.map Prod.fst:=sA h;have j:(b9 a.1.cK p.1 p.2.shut).length=a.1.cK.length:=by have:=aH List.length aa;simpa using this
   exact bt.ok.fv r (a.1.gf p.1 p.2 3,_) (by show(b9 _ _ _).length<=8;omega) (pl (P:=du.ok a.1.now) b i.shut) (λq d=>⟨by show q.1∈(b9 _ _ _).map Prod.fst;rw [aa];exact(c q (by simp [d])).1,(c q (by simp [d])).2⟩)
  .have e:bt.fv N a p=a:=aI g;rw [e];exact bt.ok.fv r a f b (λq d=>c q (by simp [d]))
theorem bt.ok.fx{N:Nat}{s:bt}(h:s.ok N):(s.fx).1.ok (N+1):=by
 have aL:=bt.qf (now:=s.now+1) (dc s.cK) (({s with now:=s.now+1}:bt),[]);have aJ:0<=s.now:=h.now.1;obtain⟨K,e⟩:∃K:Nat,(K:Int)=s.now+1:=⟨(s.now+1).toNat,by omega⟩
 have b:=bt.ok.fv (N:=K) (dc s.cK) (({s with now:=s.now+1}:bt),[]) h.cK (λq c=>(h.kO q c).mono (by show s.now<=s.now+1;omega)) (λp a=>by
  have a:=gO.1 a;exact⟨dO.2 ⟨p,a,j⟩,(h.kO p a).mono (by show s.now<=s.now+1;omega)⟩)
 rw [e] at b
 have f:(s.fx).1.marks.length<=s.marks.length+8:=eh aL.2.2.1 (by
  rw [hR];have:=h.cK;show s.marks.length+_<=_;omega)
 have d:(s.fx).1.now=s.now+1:=aL.1;exact⟨b.1,λq c=>by rw [d];exact b.2 q c,by have:=h.marks;omega,by rw [d];exact⟨by omega,by have:=h.now.2;omega⟩⟩
theorem bt.ok.c9{N:Nat}{s:bt}(h:s.ok N)(I:bA):(s.c9 I).1.ok (N+1):=by
 unfold bt.c9;cases aJ:s.named I.eo with
 |none=>
  dsimp only;split
  .exact h.mono (ey _)
  .rename_i b;refine⟨?_,?_,?_,?_⟩
   .have:=mw s.cK (s.cK.length:Int) (du.new I.eo);show(b9 _ _ _).length<=8;omega
   .exact pl (P:=du.ok s.now) h.kO ⟨⟨h6 _,show(0:Int)<=100 by decide⟩,⟨h6 _,show(0:Int)<=100 by decide⟩,⟨h6 _,h.now.1⟩,λh=>by cases h⟩
   .have:=h.marks;simp only [b4,List.length_singleton];omega
   .exact⟨h.now.1,by have:=h.now.2;show s.now<=_;omega⟩
 |some d=>
  obtain⟨n,p⟩:=d;have c:=(bt.zq aJ).1;have a:p.ok s.now:=h.kO _ c;have aa:n∈s.cK.map Prod.fst:=dO.2 ⟨_,c,j⟩;have b:∀v,(b9 s.cK n v).length<=8:=λv=>by have:=aH List.length (sA (v:=v) aa);have e:=h.cK;simp only [fB] at this;omega
  dsimp only;split
  .exact h.mono (ey _)
  .rename_i he;split
   .refine⟨b _,pl (P:=du.ok s.now) h.kO ⟨?_,⟨h6 _,show(0:Int)<=100 by decide⟩,a.fk,λh=>by cases h⟩,?_,?_⟩
    .have:=a.b5;show 0<=p.b5+1/\p.b5+1<=100;omega
    .have:=h.marks;simp only [b4,List.length_singleton];omega
    .exact⟨h.now.1,by have:=h.now.2;show s.now<=_;omega⟩
   .refine⟨b _,pl (P:=du.ok s.now) h.kO ⟨?_,⟨h6 _,show(0:Int)<=100 by decide⟩,a.fk,a.parts⟩,?_,?_⟩
    .have:=a.b5;show 0<=p.b5+1/\p.b5+1<=100;omega
    .have:=h.marks;simp only [b4,List.length_singleton];omega
    .exact⟨h.now.1,by have:=h.now.2;show s.now<=_;omega⟩
theorem du.ok.add{now:Int}{p:du}{I:bA}(h:p.ok now)(aJ:0<=now):(p.add now I).1.ok now:=by
 unfold du.add;split
 .exact⟨h.b5,h.last,h.fk,λ_=>rfl⟩
 .split
  .exact h
  .split
   .exact h
   .split
    .exact h
    .rename_i a b c d;have:=h.last;exact⟨h.b5,⟨by show 0<=I.t;omega,by show I.t<=100;omega⟩,⟨aJ,h6 _⟩,λ_=>rfl⟩
theorem bt.ok.bY{N:Nat}{s:bt}(h:s.ok N)(I:bA):(s.bY I).1.ok (N+1):=by
 unfold bt.bY;split
 .exact h.c9 I
 .split
  .exact h.fx
  .cases a:aZ s.cK I.p with
   |none=>exact h.mono (ey _)
   |some p=>
    dsimp only;have aa:I.p∈s.cK.map Prod.fst:=FX a;have c:p.ok s.now:=h.kO _ (hF a);have b:∀v,(b9 s.cK I.p v).length<=8:=λv=>by have:=aH List.length (sA (v:=v) aa);have d:=h.cK;simp only [fB] at this;omega
    split
    .exact h.mono (ey _)
    .split
     .exact⟨b _,pl (P:=du.ok s.now) h.kO (c.add h.now.1),by have:=h.marks;show s.marks.length<=_;omega,⟨h.now.1,by have:=h.now.2;show s.now<=_;omega⟩⟩
     .unfold bt.ends;split
      .refine⟨b _,pl (P:=du.ok s.now) h.kO c.shut,?_,⟨h.now.1,by have:=h.now.2;show s.now<=_;omega⟩⟩;have:=h.marks;show(s.marks++[_]).length<=_;simp only [b4,List.length_singleton];omega
      .split<;>exact h.mono (ey _)
theorem bt.ok.apply{N:Nat}{s:bt}(h:s.ok N)(I:bA):(s.apply I).1.ok (N+1):=by
 unfold bt.apply;split
 .exact h.mono (ey _)
 .split
  .exact h.mono (ey _)
  .exact{h.bY I with}
theorem bt.lf(N:Nat):bt.new.ok N:=⟨b6 _,(by intro q a;cases a),b6 _,⟨h6 _,by show(0:Int)<=N;omega⟩⟩
theorem bt.Ix{N:Nat}{s:bt}(h:s.ok N):(s.fx).2.length<=8:=by
 have aL:=bt.qf (now:=s.now+1) (dc s.cK) (({s with now:=s.now+1}:bt),[]);refine eh aL.2.2.2 ?_;rw [hR];have:=h.cK;show 0+_<=8;omega
theorem bt.uK{N:Nat}{s:bt}(h:s.ok N)(I:bA):(s.bY I).2.2.length<=8:=by
 unfold bt.bY;split
 .unfold bt.c9;split
  .split<;>simp
  .split
   .simp
   .split<;>simp
 .split
  .exact bt.Ix h
  .split
   .simp
   .split
    .simp
    .split
     .simp
     .unfold bt.ends;split
      .simp
      .split<;>simp
theorem bt.xb{N:Nat}{s:bt}(h:s.ok N)(I:bA):(s.apply I).2.2.length<=8:=by
 unfold bt.apply;split
 .simp
 .split
  .simp
  .exact bt.uK h I
structure bk where
 an:Int
 s:aC
 c:bt
 dr:Nat
 aE:List bH
 answers:List (Int×(Int×Int×Int))
def bk.new(an:Int):bk:=⟨an,aC.new an,bt.new,0,[],[]⟩
def ff(c s:Int):Int:=IntKind.i64.wrap (IntKind.i64.wrap (c*1048577)+s)
abbrev ord(b:List UInt8):bA:=mA (b2 b 2)
def bk.fU(x:bk)(b:List UInt8):bk:=
 if j6 (b2 b 2)=true then{x with c:=(x.c.apply (ord b)).1,answers:=b9 x.answers (ff (ord b).c (ord b).s) (x.c.apply (ord b)).2.1,aE:=x.aE++(x.c.apply (ord b)).2.2.filter (·.ok)} else x
def bk.hS(x:bk):bk:={((x.s.log.map Prod.fst).drop x.dr).foldl bk.fU x with dr:=x.s.log.length}
def bk.ask(g:am)(x:bk)(I:bA):bk×List aW×Int:=
 if gR I=true then(bk.hS {x with s:=(x.s.eI g (i4 I)).1},(x.s.eI g (i4 I)).2.1,(x.s.eI g (i4 I)).2.2) else(x,[],1)
def bk.take(g:am)(x:bk)(m:aW):bk×List aW:=(bk.hS {x with s:=(x.s.take g m).1},(x.s.take g m).2)
def bk.tick(g:am)(x:bk):bk×List aW:=(bk.hS {x with s:=(x.s.tick g).1},(x.s.tick g).2)
structure bk.ok(g:am)(N:Nat)(x:bk):Prop where
 s:x.s.ok g N
 c:x.c.ok x.dr
 aE:x.aE.length<=8*x.dr
 dr:x.dr<=x.s.log.length
 an:x.s.an=x.an
def jQ(g:am)(an:Int):List Value->List bH->List Chunk->Prop
 |[],[],G=>G=[]
 |u::us,m::ms,G=>∃ai aA,G=ai++aA/\er u [dm g m an] ai/\jQ g an us ms aA
 |[],_::_,_=>False
 |_::_,[],_=>False
abbrev n3(us:List Value)(ms:List bH):List Value:=(us.zip ms).flatMap λe=>e.2.cs++[e.1]
def mK(g:am)(an:Int)(v:Value)(ms:List bH)(G:List Chunk):Prop:=∃ag H us,G=ag++H/\Row 121 5 v ms.length (n3 us ms) ag/\jQ g an us ms H
theorem jQ.len{g:am}{an:Int}:∀{us:List Value}{ms:List bH}{G:List Chunk},jQ g an us ms G->us.length=ms.length
 |[],[],_,_=>rfl
 |[],_::_,_,h=>h.elim
 |_::_,[],_,h=>h.elim
 |_::us,_::ms,_,⟨_,_,_,_,h⟩=>by simp [h.len]
theorem jQ.app{g:am}{an:Int}:∀{us d:List Value}{ms c:List bH}{G a:List Chunk},jQ g an us ms G->jQ g an d c a->jQ g an (us++d) (ms++c) (G++a)
 |[],_,[],_,_,_,h,b=>by have h:_=[]:=h;subst h;exact b
 |[],_,_::_,_,_,_,h,_=>h.elim
 |_::_,_,[],_,_,_,h,_=>h.elim
 |_::_,_,_::_,_,_,a,⟨ai,aA,rfl,e,h⟩,b=>⟨ai,aA++a,by simp [dF],e,h.app b⟩
theorem jQ.one{g:am}{an:Int}{u:Value}{m:bH}{G:List Chunk}(h:er u [dm g m an] G):jQ g an [u] [m] G:=⟨G,[],by simp,h,j⟩
def nR(v:Value)(a:Int×Int×Int)(G:List Chunk):Prop:=v=kx a/\G=[]
structure kY where
 ba:Nat
 ej:Nat
 aE:Value
 answers:Value
abbrev rg(g:am)(x:bk)(c:kY):List Value:=[g.p,ad x.an,.pointer (some ⟨c.ba,0,none⟩),.pointer (some ⟨c.ej,0,none⟩),ad (x.dr:Int),c.aE,c.answers]
abbrev dJ(g:am)(a:Nat)(x:bk)(c:kY):List Chunk:=R a (rg g x c).toArray 70
structure Cb(g:am)(x:bk)(c:kY)(be d5 c1 cV:List Chunk):Prop where
 s:iq g c.ba x.s be
 k:kc c.ej x.c d5
 aE:mK g x.an c.aE x.aE c1
 answers:fs 229 nR c.answers x.answers cV
def g8(g:am)(a:Nat)(x:bk)(G:List Chunk):Prop:=∃(c:kY)(be d5 c1 cV:List Chunk),Cb g x c be d5 c1 cV/\G=dJ g a x c++(be++(d5++(c1++cV)))
theorem C.sJ{g:am}{a:Nat}{x:bk}{c:kY}{be d5 c1 cV:List Chunk}{ae:List (List Chunk)}{o w:World}{F:List Nat}(h:C o F ((dJ g a x c++(be++(d5++(c1++cV))))::ae) w):C o F (dJ g a x c::be::d5::c1::cV::ae) w:=h.perm (by simp)
theorem C.pg{g:am}{a:Nat}{x:bk}{c:kY}{be d5 c1 cV:List Chunk}{ae:List (List Chunk)}{o w:World}{F:List Nat}(h:C o F (dJ g a x c::be::d5::c1::cV::ae) w):C o F ((dJ g a x c++(be++(d5++(c1++cV))))::ae) w:=h.perm (by simp)
theorem Rd.from{w:World}{A:Option Addr}{us:List Value}{n c k:Nat}(h:Rd w A us)(f:Flat A)(aJ:us.length=n)(aa:k<=n)(g:n<=c):Rd w (if c=k then A else A.map (·.add (k*1))) (us.drop k):=λi v d=>by
 rw [lA] at d;have l:k+i<us.length:=(eY.1 d).1;rw [aI (by omega)];obtain⟨a,e,h9⟩:=h (k+i) v d;rcases f with rfl|⟨b,I,rfl⟩
 .cases e
 .cases e;refine⟨_,j,?_⟩;rw [add_lit] at h9;show w.cell? (((⟨b,I,none⟩:Addr).add (k*1)).add i)=some v;rw [gZ,add_lit,add_lit,rN];exact h9
theorem bk.CA(x:bk)(b:List UInt8):(x.fU b).s=x.s/\(x.fU b).an=x.an/\(x.fU b).dr=x.dr:=by
 unfold bk.fU;split<;>exact⟨j,j,j⟩
theorem bk.qi:∀(l:List (List UInt8))(x:bk),(l.foldl bk.fU x).s=x.s/\(l.foldl bk.fU x).an=x.an/\(l.foldl bk.fU x).dr=x.dr
 |[],_=>⟨j,j,j⟩
 |b::r,x=>by
  rw [hQ];have a:=bk.qi r (x.fU b);have c:=x.CA b;exact⟨a.1.trans c.1,a.2.1.trans c.2.1,a.2.2.trans c.2.2⟩
theorem bk.uk:∀(l:List (List UInt8))(x:bk)(N:Nat),x.c.ok N->x.aE.length<=8*N->(l.foldl bk.fU x).c.ok (N+l.length)/\(l.foldl bk.fU x).aE.length<=8*(N+l.length)
 |[],_,_,h,a=>⟨h,a⟩
 |b::r,x,N,h,a=>by
  rw [hQ,ez]
  have d:(x.fU b).c.ok (N+1)/\(x.fU b).aE.length<=8*(N+1):=by
   unfold bk.fU;split
   .refine⟨h.apply _,?_⟩;show(x.aE++_).length<=_;rw [b4];have f:=bt.xb h (ord b);have g:=oP (·.ok) (x.c.apply (ord b)).2.2;omega
   .exact⟨h.mono (ey _),by omega⟩
  have f:=bk.uk r (x.fU b) (N+1) d.1 d.2;have e:N+(r.length+1)=N+1+r.length:=by omega
  rw [e];exact f
theorem bk.ok.hS{g:am}{N:Nat}{x:bk}(aL:x.s.ok g N)(h:x.c.ok x.dr)(i:x.aE.length<=8*x.dr)(m:x.dr<=x.s.log.length)(hm:x.s.an=x.an):x.hS.ok g N:=by
 obtain⟨a,f,l⟩:=bk.qi ((x.s.log.map Prod.fst).drop x.dr) x;obtain⟨b,d⟩:=bk.uk ((x.s.log.map Prod.fst).drop x.dr) x x.dr h i;have e:x.dr+((x.s.log.map Prod.fst).drop x.dr).length=x.s.log.length:=by rw [iT,fB];omega
 rw [e] at b d;unfold bk.hS;obtain⟨y,k⟩:∃y,y=((x.s.log.map Prod.fst).drop x.dr).foldl bk.fU x:=⟨_,j⟩;rw [<-k] at a f b d⊢;exact⟨by show y.s.ok g N;rw [a];exact aL,b,d,by show x.s.log.length<=y.s.log.length;rw [a];exact cD _,by show y.s.an=y.an;rw [a,f];exact hm⟩
theorem yS{o:World}{c s:Int}:Calls prog 113 #[ad c,ad s] o λr w=>r=ad (ff c s)/\w=o:=by
 refine a2 func113 ?_;refine ao 10 j j ?_;exact⟨j,j⟩
theorem vH{o:World}{g:am}{an:Int}:Calls prog 32 #[g.p,ad an] o λr w=>∃i G,r=ab i/\g8 g i (bk.new an) G/\C o [] [G] w:=by
 have a:Own [] o:=C.start o;refine a2 func32 (bh 9 (Ga (g:=g) (an:=an)) j (λr w⟨ba,be,e,aL,d⟩=>?_));subst e;have a:=a.aM d;refine bh 0 F4 j (λr w⟨ej,d5,e,aa,d⟩=>?_);subst e;have a:=a.aM d;refine bh 0 F9 j (λr w⟨b,h,e,k,d⟩=>?_);subst e;have a:=a.aM d;refine cP (c:=(rg g (bk.new an) (⟨ba,ej,.slice none 0 0,ab b⟩:kY)).toArray) j j j (λ_=>by kernel_rfl) (bM 0 a j j (λf w a=>ao 1 j j ?_));have a:C o [] (dJ g f (bk.new an) (⟨ba,ej,.slice none 0 0,ab b⟩:kY)::_) w:=a;have a:C o [] [dJ g f (bk.new an) (⟨ba,ej,.slice none 0 0,ab b⟩:kY),be,d5,[],ax 229 b h (.map #[] 0)] w:=C.perm (A:=[dJ g f (bk.new an) (⟨ba,ej,.slice none 0 0,ab b⟩:kY),be,d5,ax 229 b h (.map #[] 0)]) a.as (by simp);exact⟨f,_,j,⟨(⟨ba,ej,.slice none 0 0,ab b⟩:kY),be,d5,[],_,⟨aL,aa,⟨[],[],[],j,Row.nil _ _,j⟩,fs.new k⟩,j⟩,a.pg⟩
theorem Gk{b:Bool}(h:((if b=true then(0:Int) else 2) !=0)=true):b=false:=by cases b<;>simp_all
theorem Gl{b:Bool}(h:((if b=true then(0:Int) else 2) !=0)=false):b=true:=by cases b<;>simp_all
theorem yf{α:Type}{p:α->Bool}{l:List α}{J:Nat}(h:J<l.length):(l.take (J+1)).filter p=(l.take J).filter p++(if p l[J]=true then [l[J]] else []):=by
 rw [fu h,mZ];by_cases a:p l[J]=true
 .rw [a6 a];simp [a]
 .rw [aI a];simp [a]
theorem uj{o:World}{g:am}{d:Nat}{x:bk}{G:List Chunk}(bY:g8 g d x G){N:Nat}(aL:x.s.ok g N)(b7:x.c.ok x.dr)(cu:x.aE.length<=8*x.dr)(cE:x.dr<=x.s.log.length)(bx:g.at o)(bA:g.ok)(aZ:g.off (au [G]))(a:Own [G] o):Calls prog 83 #[ab d] o λr w=>r= .tuple #[]/\∃ai,g8 g d x.hS ai/\C o (au [G]) [ai] w:=by
 obtain⟨c,be,d5,c1,cV,aG,rfl⟩:=bY;obtain⟨z,bd⟩:∃z,z=au [dJ g d x c++(be++(d5++(c1++cV)))]:=⟨_,j⟩;rw [<-bd] at aZ⊢;have a:C o z [dJ g d x c++(be++(d5++(c1++cV)))] o:=bd▸a;have a:=a.sJ;have cK:=aL.log;have cf:(x.s.log.map Prod.fst).length=x.s.log.length:=fB _;refine a2 func83 ?_;refine al 5 j (aw (C.ak (b:=d) a) j) ?_;obtain⟨cv,bQ,cy,cA,cz,cp,bi⟩:=aG.s;have Q:=FK (ba:=c.ba) (g:=g) (s:=x.s) (c:=cv) (L:=bQ) (by have h:=a.holds (G:=be) (by simp);rw [bi] at h;exact h.left.head) cp.log (by have h:=a.holds (G:=be) (by simp);rw [bi] at h;exact h.right.left) aL;refine bh 0 Q j (λr w⟨cx,bW,R⟩=>?_);obtain⟨M,K,us,rfl,bl,a9⟩:=bW;obtain⟨av,ay,rfl,bX,cB⟩:=bl.form;have a:=a.aM R;have a:C o z [dJ g d x c,be,d5,c1,cV,M,K] w:=C.perm (A:=[dJ g d x c,be,d5,c1,cV,M++K]) a.as (by simp);have cq:us.length=(x.s.log.map Prod.fst).length:=a9.len;refine al 8 j (aw (C.ak (b:=d) a) j) ?_;refine oD j j j j (show x.dr<=_ by omega) ?_
 refine cH 3 j (ct:=Nat×Value×List Chunk×List Chunk×List Chunk) (λk=>[(0,ab d),(2,.slice av (x.s.log.map Prod.fst).length ay),(23,.slice (if ay=x.dr then av else av.map (·.add (x.dr*1))) ((x.s.log.map Prod.fst).length-x.dr) (ay-x.dr)),(24,.int .i64 ((x.s.log.map Prod.fst).length-x.dr:Nat)),(25,.int .i64 (k.1:Nat))])
  (λk w=>k.1<=(x.s.log.map Prod.fst).length-x.dr/\kc c.ej ((((x.s.log.map Prod.fst).drop x.dr).take k.1).foldl bk.fU x).c k.2.2.1/\mK g x.an k.2.1 ((((x.s.log.map Prod.fst).drop x.dr).take k.1).foldl bk.fU x).aE k.2.2.2.1/\fs 229 nR c.answers ((((x.s.log.map Prod.fst).drop x.dr).take k.1).foldl bk.fU x).answers k.2.2.2.2/\C o z [dJ g d x {c with aE:=k.2.1},be,k.2.2.1,k.2.2.2.1,k.2.2.2.2,M,K] w) (λk=>(x.s.log.map Prod.fst).length-x.dr-k.1) (0,c.aE,d5,c1,cV) ⟨j,j,j,j,j,aY⟩ ⟨b6 _,aG.k,aG.aE,aG.answers,a⟩ ?_
 rintro⟨i,B,d5,c1,cV⟩ w ⟨ca,aa,V,aD,a⟩;dsimp only at ca aa V aD a⊢;have aH:=bk.uk (((x.s.log.map Prod.fst).drop x.dr).take i) x x.dr b7 cu;rw [show x.dr+(((x.s.log.map Prod.fst).drop x.dr).take i).length=x.dr+i by rw [hl,iT];omega] at aH
 have aX:∀(aj:i<(x.s.log.map Prod.fst).length-x.dr),((((x.s.log.map Prod.fst).drop x.dr).take (i+1)).foldl bk.fU x)=((((x.s.log.map Prod.fst).drop x.dr).take i).foldl bk.fU x).fU ((x.s.log.map Prod.fst)[x.dr+i]'(by omega)):=λaj=>by
  rw [fu (by rw [iT];omega),nT,List.getElem_drop];rfl
 obtain⟨y,bL⟩:∃y,y=((((x.s.log.map Prod.fst).drop x.dr).take i).foldl bk.fU x):=⟨_,j⟩;rw [<-bL] at aa V aD aH aX;refine bm 4 j j (λaS=>?_) (λaS=>?_)
 .have aj:i<(x.s.log.map Prod.fst).length-x.dr:=by have:=dj aS;omega
  obtain⟨_,_,e,_,_,co,b8⟩:=bl.read (a.holds (G:=M) (by simp));cases e;have cn:=Rd.from co b8 cq (show x.dr<=(x.s.log.map Prod.fst).length by omega) bX;obtain⟨b,aN⟩:∃b,b=(x.s.log.map Prod.fst)[x.dr+i]'(by omega):=⟨_,j⟩;obtain⟨bM,ci,bI,cc,cJ,bG⟩:=a9.read (a.holds (G:=K) (by simp)) (x.dr+i) (by omega);rw [<-aN] at bI cc bG
  have cF:b.length<=200:=by
   obtain⟨e,he,bV⟩:=dO.1 (show b∈(x.s.log.map Prod.fst) by rw [aN];exact et _);rw [<-bV];exact(aL.od e he).1
  refine aq 5 j (fz j j j j cn (v:=.slice bM b.length ci) (by rw [gZ,lA];exact bI) aj (λbR a5 bu=>?_));refine al 0 j bu ?_;have Q:=DU (c:=ci) bG (by omega);refine bh 4 Q j (λr w⟨W,R⟩=>?_);obtain⟨D,bB⟩:∃D,D=(if j6 (b2 b 2) then mA (b2 b 2) else dd):=⟨_,j⟩;rw [<-bB] at W;subst W;have a:=a.aM R;have a:C o z [dJ g d x {c with aE:=B},be,d5,c1,cV,M,K] w:=a.as;refine cl 3 a j (λE w a=>?_);have a:C o z (bD E dd::_) w:=a;refine ck 0 (a.bc E) j j j j j (λw a=>?_);have a:=C.whole (U:=D.cs) a j;have a:C o z (bD E D::_) w:=a;refine bm 6 j j (λeS=>?_) (λeS=>?_)
  .refine bq 2 j j j (cM i (by omega)) ?_;refine bP 1 j ?_;have b5:j6 (b2 b 2)=false:=Gk eS;have a0:y.fU b=y:=aI (by rw [b5];decide);refine⟨(i+1,B,d5,c1,cV),⟨j,j,j,j,j,aY⟩,⟨aj,?_⟩,by dsimp only;omega⟩;dsimp only;rw [aX aj,<-aN,a0];exact⟨aa,V,aD,a.as⟩
  have a:C o z ([dJ g d x {c with aE:=B},bD E D]++_) _:=a.front;have a:=a.drew;have br:j6 (b2 b 2)=true:=Gl eS;have cj:D=mA (b2 b 2):=by rw [bB,a6 br]
  refine bw 2 j (λw=>∃ae,C o z ([dJ g d x {c with aE:=B},bD E D]++ae) w) ⟨_,a⟩ ?_;refine af 0 3 j ?_;refine a8 3 j a1 j ?_;refine aT 4 j (λw⟨_,a⟩=>c3 (U:=D.cs) j j j (bp (C.ak (b:=E) a))) ?_;refine aO 5 9 j j ?_ ?_;have Q:=xa (I:=D) aa (N:=x.dr+i) aH.1 (by omega) (a.ours (cI:=[d5]));refine cN j j j Q (λr w⟨cw,O,P,W,az,bz,R⟩=>?_);obtain⟨a4,o5,rfl,_,_⟩:=az.form;obtain⟨ms,aF⟩:∃ms,ms=(y.c.apply D).2.2:=⟨_,j⟩;obtain⟨q,aP⟩:∃q,q=(y.c.apply D).2.1:=⟨_,j⟩;rw [<-aF] at az W;rw [<-aP] at W;subst W;have a:=a.b3 R;have a:C o z ([dJ g d x {c with aE:=B},bD E D]++_) w:=a.front;refine ar ⟨⟨_,a⟩,?_⟩;refine af 6 3 j ?_;refine aU 9 j ?_;refine ex a j j (λT w a=>?_);have a:C o z ([dJ g d x {c with aE:=B},bD E D]++_) w:=a.front;refine ar ⟨⟨_,a⟩,?_⟩;rotate_left
  refine ex a j j (λT w a=>?_);have a:C o z ([dJ g d x {c with aE:=B},bD E D]++_) w:=a.front;refine ar ⟨⟨_,a⟩,?_⟩;refine aU 5 j ?_;have Q:=xa (I:=D) aa (N:=x.dr+i) aH.1 (by omega) (a.ours (cI:=[d5]));refine cN j j j Q (λr w⟨cw,O,P,W,az,bz,R⟩=>?_);obtain⟨a4,o5,rfl,_,_⟩:=az.form;obtain⟨ms,aF⟩:∃ms,ms=(y.c.apply D).2.2:=⟨_,j⟩;obtain⟨q,aP⟩:∃q,q=(y.c.apply D).2.1:=⟨_,j⟩;rw [<-aF] at az W;rw [<-aP] at W;subst W;have a:=a.b3 R;have a:C o z ([dJ g d x {c with aE:=B},bD E D]++_) w:=a.front;refine ar ⟨⟨_,a⟩,?_⟩;refine af 6 3 j ?_;rotate_left
  all_goals
   refine aU 10 j ?_;refine c4 (a.bc T) j j j j j bJ (λw a=>?_);have a:=C.whole (U:=[ad q.1,ad q.2.1,ad q.2.2]) a j;have a:C o z ([(T,.cells #[ad q.1,ad q.2.1,ad q.2.2] 123 (0,0))]::_) w:=a;have a:C o z ([dJ g d x {c with aE:=B},bD E D]++_) w:=a.front;refine ar ⟨⟨_,a⟩,?_⟩;refine af 11 1 j ?_;refine bK ?_;have a:C o z ([dJ g d x {c with aE:=B},bD E D,[(T,.cells #[ad q.1,ad q.2.1,ad q.2.2] 123 (0,0))]]++_) _:=a.front;have a:=a.drew;refine bw 1 j (λw=>∃ae,C o z ([dJ g d x {c with aE:=B},bD E D,[(T,.cells #[ad q.1,ad q.2.1,ad q.2.2] 123 (0,0))]]++ae) w) ⟨_,a⟩ ?_;refine af 0 3 j ?_;refine a8 3 j a1 j ?_;refine af 4 1 j ?_;refine a8 5 j a1 j ?_;refine af 6 1 j ?_;refine a8 7 j a1 j ?_;refine aT 9 j (λw⟨_,a⟩=>c3 (U:=[ad q.1,ad q.2.1,ad q.2.2]) j j j (bp (C.ak (b:=T) a))) ?_;refine aU 8 j ?_;refine bF j j j (yS (c:=D.c) (s:=D.s)) (λw hw=>?_);have hw:=hw.symm;subst hw;refine ar ⟨⟨_,a⟩,?_⟩;refine aU 10 j ?_;obtain⟨X,ah,b1,cQ,H,bs,ch,cr,rfl⟩:=aD;have a:C o z [dJ g d x {c with aE:=B},bD E D,[(T,.cells #[ad q.1,ad q.2.1,ad q.2.2] 123 (0,0))],be,O,c1,ax 229 X ah b1,H,M,K,P] _:=C.perm (A:=[dJ g d x {c with aE:=B},bD E D,[(T,.cells #[ad q.1,ad q.2.1,ad q.2.2] 123 (0,0))],be,O,c1,ax 229 X ah b1++H,M,K,P]) a.as (by simp);have Q:=HI (k:=ff D.c D.s) (l:=[ad q.1,ad q.2.1,ad q.2.2]) j j (a.ours (cI:=[ax 229 X ah b1])) ch;refine bS 48 (ab X) j bs ?_;refine bF j j j Q (λw⟨aA,cg,R⟩=>?_);have a:=a.b3 R;obtain⟨aB,bO,a3,bC⟩:=cr.put (k:=ff D.c D.s) (show nR (kx q) q [] from⟨j,j⟩);rw [gY] at bC;have a7:fs 229 nR c.answers (b9 y.answers (ff D.c D.s) q) (ax 229 X ah aA++aB):=⟨X,ah,aA,_,aB,bs,cg,a3,j⟩;have a:C o z [dJ g d x {c with aE:=B},bD E D,[(T,.cells #[ad q.1,ad q.2.1,ad q.2.2] 123 (0,0))],be,O,c1,ax 229 X ah aA,M,K,P,H] w:=a.as
   have a:C o z [dJ g d x {c with aE:=B},bD E D,[(T,.cells #[ad q.1,ad q.2.1,ad q.2.2] 123 (0,0))],be,O,c1,ax 229 X ah aA,M,K,P,bO,aB] w:=a.perm (by
    simp only [kj,m1,gY];exact .append_left _ (.append_left _ (.append_left _ (.append_left _ (.append_left _ (.append_left _ (.append_left _ (.append_left _ (.append_left _ (.append_left _ bC))))))))))
   obtain⟨Y,bg⟩:∃Y,Y=ax 229 X ah aA++aB:=⟨_,j⟩;rw [<-bg] at a7;have a:C o z [dJ g d x {c with aE:=B},bD E D,[(T,.cells #[ad q.1,ad q.2.1,ad q.2.2] 123 (0,0))],be,O,c1,Y,M,K,P] w:=C.perm (A:=[dJ g d x {c with aE:=B},bD E D,[(T,.cells #[ad q.1,ad q.2.1,ad q.2.2] 123 (0,0))],be,O,c1,ax 229 X ah aA,aB,M,K,P]) a.as (by rw [bg];simp);refine ar ⟨⟨_,a⟩,?_⟩;refine bK ?_;have cL:ms.length<=8:=by rw [aF];exact bt.xb aH.1 D
   have bv:∀e∈ms,(bH.cs e).length=4:=λ_ _=>rfl
   refine cH 6 j (ct:=Nat×Value×List Chunk) (λk=>[(0,ab d),(2,.slice av (x.s.log.map Prod.fst).length ay),(23,.slice (if ay=x.dr then av else av.map (·.add (x.dr*1))) ((x.s.log.map Prod.fst).length-x.dr) (ay-x.dr)),(24,.int .i64 ((x.s.log.map Prod.fst).length-x.dr:Nat)),(25,.int .i64 (i:Nat)),(56,.slice a4 ms.length o5),(57,.int .i64 (ms.length:Nat)),(58,.int .i64 (k.1:Nat))])
    (λk w=>k.1<=ms.length/\mK g x.an k.2.1 (y.aE++(ms.take k.1).filter (·.ok)) k.2.2/\C o z [dJ g d x {c with aE:=k.2.1},be,O,k.2.2,Y,M,K,P] w) (λk=>ms.length-k.1) (0,B,c1) ⟨j,j,j,j,j,j,j,j,aY⟩ ⟨b6 _,by simpa using V,a.as⟩ ?_
   rintro⟨J,B,c1⟩ w ⟨cd,V,a⟩;dsimp only at cd V a⊢;refine bm 4 j j (λaV=>?_) (λaV=>?_)
   .refine aq 5 j ?_;have ap:J<ms.length:=by have:=dj aV;omega
    obtain⟨_,_,e,_,_,bE,_⟩:=az.read (a.holds (G:=P) (by simp));cases e;refine fz j j j j bE (v:=ad ms[J].k) (h7 (f:=bH.cs) (J:=0) ms bv J ap (by decide) j) ap (λbR a5 bu=>?_);subst a5;refine bN 0 (U:=ms[J].cs) j j j (iY (f:=bH.cs) bE bv J ap) ?_;refine cl 0 a j (λF w a=>?_);refine ck 0 (a.bc F) j j j j j (λw a=>?_);have a:=C.whole (U:=ms[J].cs) a j;have a:C o z ([(F,.cells ms[J].cs.toArray 44 (0,0))]::_) w:=a;have a:C o z ([dJ g d x {c with aE:=B},[(F,.cells ms[J].cs.toArray 44 (0,0))]]++_) _:=a.front;have a:=a.drew;refine bw 1 j (λw=>∃ae,C o z ([dJ g d x {c with aE:=B},[(F,.cells ms[J].cs.toArray 44 (0,0))]]++ae) w) ⟨_,a⟩ ?_;refine af 0 3 j ?_;refine a8 3 j a1 j ?_;refine aT 4 j (λw⟨_,a⟩=>c3 (U:=ms[J].cs) j j j (bp (C.ak (b:=F) a))) ?_;refine af 5 3 j ?_;refine a8 8 j a1 j ?_;refine aO 9 13 j j ?_ ?_;have Q:=sy (bx.st a aZ) bA (m:=ms[J]) (f:=x.an);refine bF j j j Q (λw R=>?_);have a:=a.aM R;have a:C o z ([dJ g d x {c with aE:=B},[(F,.cells ms[J].cs.toArray 44 (0,0))]]++_) w:=a.front;refine ar ⟨⟨_,a⟩,?_⟩;refine af 10 3 j ?_;refine aU 13 j ?_;refine ex a j j (λS w a=>?_);have a:C o z ([(S,.cells lX.cs.toArray 115 (0,0))]::_) w:=a;have a:C o z ([dJ g d x {c with aE:=B},[(F,.cells ms[J].cs.toArray 44 (0,0))]]++_) w:=a.front;refine ar ⟨⟨_,a⟩,?_⟩;rotate_left
    refine ex a j j (λS w a=>?_);have a:C o z ([(S,.cells lX.cs.toArray 115 (0,0))]::_) w:=a;have a:C o z ([dJ g d x {c with aE:=B},[(F,.cells ms[J].cs.toArray 44 (0,0))]]++_) w:=a.front;refine ar ⟨⟨_,a⟩,?_⟩;refine aU 9 j ?_;have Q:=sy (bx.st a aZ) bA (m:=ms[J]) (f:=x.an);refine bF j j j Q (λw R=>?_);have a:=a.aM R;have a:C o z ([dJ g d x {c with aE:=B},[(F,.cells ms[J].cs.toArray 44 (0,0))]]++_) w:=a.front;refine ar ⟨⟨_,a⟩,?_⟩;refine af 10 3 j ?_;rotate_left
    all_goals
     refine aU 14 j ?_;refine c4 (a.bc S) j j j (by simpa using(dm g ms[J] x.an).one) (by rw [List.size_toArray];exact(dm g ms[J] x.an).len (i2 g ms[J] x.an)) bJ (λw a=>?_);have a:=C.whole (U:=(dm g ms[J] x.an).cs) a (by rw [(dm g ms[J] x.an).len (i2 g ms[J] x.an)];rfl);have a:C o z ([(S,.cells (dm g ms[J] x.an).cs.toArray 115 (0,0))]::_) w:=a;have a:C o z ([dJ g d x {c with aE:=B},[(F,.cells ms[J].cs.toArray 44 (0,0))]]++_) w:=a.front;refine ar ⟨⟨_,a⟩,?_⟩;refine af 15 1 j ?_;refine bK ?_;refine bm 3 j j (λaW=>?_) (λaW=>?_)
     .have cm:ms[J].ok=true:=aW;have cP:((dm g ms[J] x.an)).ok:=(i2 g ms[J] x.an);obtain⟨aR,ag,U,rfl,bZ,bb⟩:=V;have cG:=oP (·.ok) (ms.take J);have cO:(ms.take J).length<=8:=by rw [hl];omega
      have a:C o z [dJ g d x {c with aE:=B},[(F,.cells ms[J].cs.toArray 44 (0,0))],[(S,.cells (dm g ms[J] x.an).cs.toArray 115 (0,0))],be,O,aR,ag,Y,M,K,P] _:=C.perm (A:=[dJ g d x {c with aE:=B},[(F,.cells ms[J].cs.toArray 44 (0,0))],[(S,.cells (dm g ms[J] x.an).cs.toArray 115 (0,0))],be,O,aR++ag,Y,M,K,P]) a.as (by simp);have a:=a.drew;refine bw 0 j (λw=>∃ae,C o z ([dJ g d x {c with aE:=B},[(F,.cells ms[J].cs.toArray 44 (0,0))],[(S,.cells (dm g ms[J] x.an).cs.toArray 115 (0,0))]]++ae) w) ⟨_,a⟩ ?_;refine af 0 4 j ?_;refine a8 4 j a1 j ?_;refine aT 5 j (λw⟨_,a⟩=>c3 (U:=ms[J].cs) j j j (bp (C.ak (b:=F) a))) ?_;refine aT 6 j (λw⟨_,a⟩=>c3 (U:=(dm g ms[J] x.an).cs) j j ((dm g ms[J] x.an).len (i2 g ms[J] x.an)) (bp (C.ak (b:=S) a))) ?_;refine aU 7 j ?_;refine gC (U:=(dm g ms[J] x.an).cs) a j j j ((dm g ms[J] x.an).len (i2 g ms[J] x.an)) (by decide) (by decide) (λZ w a=>?_);have a:C o z ([dJ g d x {c with aE:=B},[(F,.cells ms[J].cs.toArray 44 (0,0))],[(S,.cells (dm g ms[J] x.an).cs.toArray 115 (0,0))]]++_) w:=a.front;refine ar ⟨⟨_,a⟩,?_⟩;refine aT 8 j (λw _=>e1 (c:=([ad ms[J].k,ad ms[J].p,ad ms[J].e,ad ms[J].t,Value.slice (some ⟨Z,0,none⟩) 1 1]).toArray) j (λ_=>by kernel_rfl)) ?_;refine aU 9 j ?_;refine gC (U:=([ad ms[J].k,ad ms[J].p,ad ms[J].e,ad ms[J].t,Value.slice (some ⟨Z,0,none⟩) 1 1])) a j j j j bJ bJ (λbT w a=>?_);have aJ:=bp (C.ak (b:=bT) a);have a:C o z ([dJ g d x {c with aE:=B},[(F,.cells ms[J].cs.toArray 44 (0,0))],[(S,.cells (dm g ms[J] x.an).cs.toArray 115 (0,0))]]++_) w:=a.front;refine ar ⟨⟨_,a⟩,?_⟩;refine aU 10 j ?_;refine d9 (a.to aR) bZ j j (by decide) j j j (m:=1) (news:=([ad ms[J].k,ad ms[J].p,ad ms[J].e,ad ms[J].t,Value.slice (some ⟨Z,0,none⟩) 1 1])) j aJ (by intro u hu;simp [bH.cs] at hu;rcases hu with rfl|rfl|rfl|rfl|rfl<;>rfl) (by simp only [List.length_append];omega) (by unfold maxLen;simp only [List.length_append];omega) (λaK aC w bj a=>?_);have a:C o z ([dJ g d x {c with aE:=B},[(F,.cells ms[J].cs.toArray 44 (0,0))],[(S,.cells (dm g ms[J] x.an).cs.toArray 115 (0,0))]]++_) w:=a.front;refine ar ⟨⟨_,a⟩,?_⟩;refine af 11 2 j ?_;refine dy 13 j ?_;refine cC (a.bc d) j j j bj.one bJ (λw a=>?_);have a:C o z (dJ g d x {c with aE:=aK}::_) w:=a;obtain⟨ac,bf⟩:∃ac:List Chunk,ac=[(Z,.cells (dm g ms[J] x.an).cs.toArray 115 (0,0))]:=⟨_,j⟩;rw [<-bf] at a
      have b0:er (.slice (some ⟨Z,0,none⟩) 1 1) [(dm g ms[J] x.an)] ac:=by
       rw [bf];have:=Row.full (e:=115) (size:=68) (b:=Z) (n:=1) (cur:=(dm g ms[J] x.an).cs.toArray) (by unfold maxLen;omega) (by rw [List.size_toArray,(dm g ms[J] x.an).len (i2 g ms[J] x.an)]);show Row 115 68 _ 1 (vcs [(dm g ms[J] x.an)]) _;rw [show vcs [(dm g ms[J] x.an)]=(dm g ms[J] x.an).cs by simp [vcs]];simpa using this
      have a3:mK g x.an aK (y.aE++(ms.take J).filter (·.ok)++[ms[J]]) (aC++(ag++ac)):=by
       refine⟨aC,ag++ac,U++[.slice (some ⟨Z,0,none⟩) 1 1],j,?_,bb.app (jQ.one b0)⟩;rw [b4,List.length_singleton]
       have e:n3 (U++[.slice (some ⟨Z,0,none⟩) 1 1]) (y.aE++(ms.take J).filter (·.ok)++[ms[J]])=n3 U (y.aE++(ms.take J).filter (·.ok))++([ad ms[J].k,ad ms[J].p,ad ms[J].e,ad ms[J].t,Value.slice (some ⟨Z,0,none⟩) 1 1]):=by
        unfold n3;rw [List.zip_append bb.len,List.flatMap_append];simp
       rw [e];exact bj
      have a:C o z [dJ g d x {c with aE:=aK},be,O,aC++(ag++ac),Y,M,K,P] w:=C.perm (A:=[dJ g d x {c with aE:=aK},be,O,aC,ag,ac,Y,M,K,P]) a.as (by simp);refine ar ?_;refine cX ?_;refine bq 1 j j j (cM J (by omega)) ?_;refine bP 1 j ?_;refine⟨(J+1,aK,aC++(ag++ac)),⟨j,j,j,j,j,j,j,j,aY⟩,⟨ap,?_,a⟩,by dsimp only;omega⟩;dsimp only;rw [yf ap,a6 cm,<-dF];exact a3
     refine bq 2 j j j (cM J (by omega)) ?_;refine bP 1 j ?_;refine⟨(J+1,B,c1),⟨j,j,j,j,j,j,j,j,aY⟩,⟨ap,?_,a.as⟩,by dsimp only;omega⟩;dsimp only;rw [yf ap,aI (by rw [show ms[J].ok=false from aW];decide),gY];exact V
   refine bq 2 j j j (cM i (by omega)) ?_;refine bP 1 j ?_;have ce:J=ms.length:=by have:=dN aV;omega
   rw [ce,gu] at V
   have a0:y.fU b={y with c:=(y.c.apply D).1,answers:=b9 y.answers (ff D.c D.s) q,aE:=y.aE++ms.filter (·.ok)}:=by
    rw [aF,aP,cj];exact a6 br
   refine⟨(i+1,B,O,c1,Y),⟨j,j,j,j,j,aY⟩,⟨aj,?_⟩,by dsimp only;omega⟩;dsimp only;rw [aX aj,<-aN,a0];exact⟨bz,V,a7,a.as⟩
 refine dB 7 (a.bc d) j j j j (λw a=>?_);have a:C o z (dJ g d {x with dr:=(x.s.log.map Prod.fst).length} {c with aE:=B}::_) w:=a;refine ao 0 j j ?_;have cb:i=(x.s.log.map Prod.fst).length-x.dr:=by have:=dN aS;omega
 have bn:y=((x.s.log.map Prod.fst).drop x.dr).foldl bk.fU x:=by
  rw [bL,cb,ir (by rw [iT];exact cD _)]
 have aQ:=bk.qi ((x.s.log.map Prod.fst).drop x.dr) x;rw [<-bn] at aQ;have bo:x.hS={y with dr:=x.s.log.length}:=by unfold bk.hS;rw [bn]
 have bU:dJ g d {x with dr:=(x.s.log.map Prod.fst).length} {c with aE:=B}=dJ g d x.hS {c with aE:=B}:=by
  rw [bo];unfold dJ rg;dsimp only;rw [aQ.2.1,cf]
 have a:C o z [dJ g d {x with dr:=(x.s.log.map Prod.fst).length} {c with aE:=B},be,d5,c1,cV] w:=a.as;rw [bU] at a;refine⟨j,_,⟨{c with aE:=B},be,d5,c1,cV,?_,j⟩,a.pg⟩;rw [bo];exact⟨by show iq g c.ba y.s be;rw [aQ.1];exact aG.s,aa,by show mK g y.an B y.aE c1;rw [aQ.2.1];exact V,aD⟩
def aC.gn(s e5:aC):Prop:=e5.an=s.an/\s.log<+:e5.log
theorem aC.gn.refl(s:aC):s.gn s:=⟨j,mb _⟩
theorem aC.gn.trans{a b c:aC}(h:a.gn b)(d:b.gn c):a.gn c:=⟨d.1.trans h.1,h.2.trans d.2⟩
theorem aC.yr{g:am}:∀(l:List (Int×aW))(a:aC×List aW),(l.foldl (aC.one g) a).1.an=a.1.an/\(l.foldl (aC.one g) a).1.log=a.1.log
 |[],_=>⟨j,j⟩
 |p::r,a=>by
  rw [hQ];have b:=aC.yr (g:=g) r (aC.one g a p);have c:=aC.zH g a p;exact⟨b.1.trans c.1.1,b.2.trans c.1.2.1⟩
theorem aC.C5{g:am}(s:aC):(s.c9 g).1.an=s.an/\(s.c9 g).1.log=s.log:=by
 unfold aC.c9;have a:=aC.yr (g:=g) (dc s.stored) (s.wanted g);have b:(s.wanted g).1.an=s.an/\(s.wanted g).1.log=s.log:=by unfold aC.wanted;split<;>exact⟨j,j⟩
 exact⟨a.1.trans b.1,a.2.trans b.2⟩
theorem aC.yz{g:am}:∀(k:Nat)(s:aC)(l:List aW),s.gn (aC.go g k s l).1
 |0,s,_=>aC.gn.refl s
 |k+1,s,l=>by
  unfold aC.go;split
  .exact aC.gn.refl s
  .rename_i r c;split
   .have a:=aC.C5 (g:=g) (s.next r);exact aC.gn.trans (b:=((s.next r).c9 g).1) ⟨a.1,by rw [a.2];exact List.prefix_append _ _⟩ (aC.yz k _ _)
   .exact aC.gn.refl s
theorem aC.u7{g:am}(s:aC)(l:List aW):s.gn (s.h8 g l).1:=aC.yz 65 s l
theorem aC.tb{g:am}(s:aC)(x:List UInt8):s.gn (s.eI g x).1:=by
 unfold aC.eI;split
 .exact aC.gn.refl s
 .split
  .exact aC.gn.refl s
  .split
   .exact aC.gn.refl s
   .split
    .exact⟨j,mb _⟩
    .exact aC.u7 (g:=g) {s with cw:=s.cw++[x],cur:=(fR g s.cur x).1} _
theorem aC.wk{g:am}(s:aC)(m:aW):s.gn (s.take g m).1:=by
 unfold aC.take;split
 .exact aC.tb s m.x
 .split
  .exact aC.gn.refl s
  .split
   .exact aC.u7 (g:=g) {s with cur:=(hc g s.cur m).1} _
   .split
    .exact⟨j,mb _⟩
    .exact aC.gn.refl s
theorem aC.wl{g:am}(s:aC):s.gn (s.tick g).1:=aC.u7 (g:=g) {s with cur:=(iE g s.cur).1} _
theorem aC.ok.h8{g:am}{N:Nat}{s:aC}(h:s.ok g N)(b:g.ok)(a:773<=N)(l:List aW):(s.h8 g l).1.ok g N:=aC.yA b 65 h a
theorem aC.ok.eI{g:am}{N:Nat}{s:aC}(h:s.ok g N)(c:g.ok)(k:773<=N)(x:List UInt8):(s.eI g x).1.ok g (N+6):=by
 unfold aC.eI;split
 .exact h.more (by omega)
 .rename_i i;split
  .exact h.more (by omega)
  .split
   .exact h.more (by omega)
   .rename_i j;have d:(s.cw++[x]).length<=16:=by rw [List.length_append,List.length_singleton];omega
    have e:∀y∈s.cw++[x],y.length<=200:=λy a=>by
     rcases dw.1 a with a|a
     .exact h.li y a
     .rw [fT.1 a];omega
    split
    .exact{h.more (show N<=N+6 by omega) with cw:=d,li:=e}
    .have f:aC.ok g (N+6) {s with cur:=(fR g s.cur x).1}:=h.rf (by omega) (λr b=>(uH c (λr b=>(h.cur r b).1) r b).more (by omega)) sa;exact aC.ok.h8 (s:={s with cw:=s.cw++[x],cur:=(fR g s.cur x).1}) {f with cw:=d,li:=e} c (by omega) _
theorem aC.ok.take{g:am}{N:Nat}{s:aC}(h:s.ok g N)(b:g.ok)(c:773<=N){m:aW}(hm:m.cR):(s.take g m).1.ok g (N+6):=by
 unfold aC.take;split
 .exact h.eI b c m.x
 .split
  .exact h.more (by omega)
  .split
   .exact aC.ok.h8 (s:={s with cur:=(hc g s.cur m).1}) (h.rf (by omega) (r8 b hm (λr e=>(h.cur r e).1)) r9) b (by omega) _
   .split
    .rename_i f;refine{h.more (show N<=N+6 by omega) with stored:=?_,ll:=?_,eZ:=?_}
     .have:=mw s.stored s.eZ m;show(b9 _ _ _).length<=128;omega
     .intro p d;rcases iy d with a|a
      .exact h.ll p a
      .rw [a];exact hm
     .have:=h.eZ;show 0<=s.eZ+1/\s.eZ+1<=_;omega
    .exact h.more (by omega)
theorem aC.ok.tick{g:am}{N:Nat}{s:aC}(h:s.ok g N)(a:g.ok)(c:773<=N):(s.tick g).1.ok g (N+6):=
 aC.ok.h8 (s:={s with cur:=(iE g s.cur).1}) (h.rf (by omega) (uE a (λr b=>(h.cur r b).1)) uF) a (by omega) _
theorem bk.ok.step{g:am}{N M:Nat}{x:bk}{s:aC}(h:x.ok g N)(aL:s.ok g M)(a:x.s.gn s):(bk.hS {x with s:=s}).ok g M:=
 bk.ok.hS (x:={x with s:=s}) aL h.c h.aE (eh h.dr a.2.length_le) (a.1.trans h.an)
theorem bk.ok.more{g:am}{N M:Nat}{x:bk}(h:x.ok g N)(a:N<=M):x.ok g M:={h with s:=h.s.more a}
theorem bk.ok.take{g:am}{N:Nat}{x:bk}(h:x.ok g N)(b:g.ok)(a:773<=N){m:aW}(hm:m.cR):(x.take g m).1.ok g (N+6):=h.step (h.s.take b a hm) (aC.wk _ _)
theorem bk.ok.tick{g:am}{N:Nat}{x:bk}(h:x.ok g N)(b:g.ok)(a:773<=N):(x.tick g).1.ok g (N+6):=h.step (h.s.tick b a) (aC.wl _)
theorem bk.ok.ask{g:am}{N:Nat}{x:bk}(h:x.ok g N)(b:g.ok)(a:773<=N)(I:bA):(x.ask g I).1.ok g (N+6):=by
 unfold bk.ask;split
 .exact h.step (h.s.eI b a _) (aC.tb _ _)
 .exact h.more (by omega)
theorem bk.lf{g:am}{an:Int}(hm:0<=an/\an<g.n)(N:Nat):(bk.new an).ok g N where
 s:={an:=hm,log:=b6 _,od:=(by intro e he;cases he),cur:=(by intro r a;cases a;exact⟨aj.lf hm ⟨h6 _,by decide⟩ N,by show(0:Nat)<64;decide⟩),cw:=Nat.zero_le _,li:=(by intro e he;cases he),stored:=Nat.zero_le _,ll:=(by intro e he;cases he),eZ:=⟨Int.le_refl _,by show(0:Int)<=N;omega⟩}
 c:=bt.lf _
 aE:=b6 _
 dr:=b6 _
 an:=rfl
theorem GG{I:bA}(h:gR I=true):I.eo.length<=100:=by
 unfold gR at h;simp only [d8] at h;have a:=h.2;split at a
 .simp only [ld,d8,gd] at a;omega
 .have b:I.eo=[]:=by
   split at a
   .simp only [d8,gd] at a;exact a.1.1.1
   .split at a
    .simp only [d8,gd] at a;exact a.1.1.1
    .split at a
     .simp only [d8,gd] at a;exact a.1.1
     .cases a
  rw [b];exact b6 _
theorem Iq{o:World}{g:am}{d:Nat}{x:bk}{G:List Chunk}(y:g8 g d x G){N:Nat}(i:x.ok g N)(v:773<=N)(J:N+50<=1000000)(l:g.at o)(q:g.ok)(f:g.off (au [G]))(a:Own [G] o):Calls prog 46 #[ab d] o λr w=>∃e ai,cz r (x.tick g).2 e/\g8 g d (x.tick g).1 ai/\C o (au [G]) [ai,e] w:=by
 have K:=y;obtain⟨c,be,d5,c1,cV,m,rfl⟩:=y;obtain⟨h,u⟩:∃h,h=au [dJ g d x c++(be++(d5++(c1++cV)))]:=⟨_,j⟩;have L:=f;rw [<-u] at f⊢;have a:C o h [dJ g d x c++(be++(d5++(c1++cV)))] o:=u▸a;have a:=a.sJ;refine a2 func46 (al 15 j (aw (C.ak (b:=d) a) j) ?_);have p:=Ip m.s i.s v (by omega) (l.st a f) q (a.eE l f) a.ours;refine bh 0 p j (λr w⟨e,t,z,A,F⟩=>?_);have a:=a.b3 F
 obtain⟨n,D,a⟩:∃n,g8 g d {x with s:=(x.s.tick g).1} n/\C o h [n,e] w:=by
  have a:C o h [dJ g d {x with s:=(x.s.tick g).1} c,t,d5,c1,cV,e] w:=a.as;exact⟨_,⟨c,t,d5,c1,cV,⟨A,m.k,m.aE,m.answers⟩,j⟩,a.pg⟩
 have I:aC.ok g (N+6) ((x.s.tick g).1):=i.s.tick q v;have E:x.s.gn ((x.s.tick g).1):=aC.wl _;have p:=uj (x:={x with s:=(x.s.tick g).1}) D I i.c i.aE (eh i.dr E.2.length_le) (l.st a f) q (a.eE l f) a.ours;refine bo 4 p j (λw⟨ai,B,H⟩=>?_);have a:=a.b3 H;exact ao 4 j j ⟨e,ai,z,B,a.as⟩
theorem Ic{o:World}{g:am}{d:Nat}{x:bk}{G:List Chunk}{m:aB}(hm:m.ok o)(t:m.k2 (au [G]))(D:m.P.cR)(Q:m.s<=1000000)(B:g8 g d x G){N:Nat}(i:x.ok g N)(A:773<=N)(S:N+50<=1000000)(l:g.at o)(v:g.ok)(h:g.off (au [G]))(a:Own [G] o):Calls prog 45 #[ab d,.agg m.cs.toArray] o λr w=>∃f ai,cz r (x.take g m.P).2 f/\g8 g d (x.take g m.P).1 ai/\C o (au [G]) [ai,f] w:=by
 have E:m.tag.length=32:=hm.tag;have T:=B;obtain⟨c,be,d5,c1,cV,n,rfl⟩:=B;obtain⟨e,z⟩:∃e,e=au [dJ g d x c++(be++(d5++(c1++cV)))]:=⟨_,j⟩;have V:=h;rw [<-z] at h t⊢;have a:C o e [dJ g d x c++(be++(d5++(c1++cV)))] o:=z▸a;have a:=a.sJ;refine a2 func45 (bM 2 a j j (λq w a=>?_));have a:C o e (bi q m::_) w:=a;have a:=a.drew;refine bw 9 j (λw=>True) aY (af 0 3 j (aO 3 4 j j ?_ ?_));refine oB j j j j (aw (C.ak (b:=d) a) j) (ar ⟨aY,?_⟩);refine aU 4 j (l3 (U:=m.cs) j j j j (m.bW E) (bp (C.ak (b:=q) a)) ?_);rotate_left
 refine l3 (U:=m.cs) j j j j (m.bW E) (bp (C.ak (b:=q) a)) (ar ⟨aY,?_⟩);refine aU 3 j (oB j j j j (aw (C.ak (b:=d) a) j) ?_);rotate_left
 all_goals
  refine ar ⟨aY,?_⟩;refine aU 5 j ?_;have u:=Ib (m:=m) n.s (hm.q5 a t) ((hm.CQ a t).sub (λb K=>qB _ K)) D Q i.s A (by omega) (l.st a h) v (a.eE l h) a.ours;refine cN j j j u (λr w⟨f,y,F,H,M⟩=>?_);have a:=a.b3 M;refine ar ⟨aY,?_⟩;refine af 6 1 j (bK ?_)
  obtain⟨p,J,a⟩:∃p,g8 g d {x with s:=(x.s.take g m.P).1} p/\C o e [p,f] w:=by
   have a:C o e [dJ g d {x with s:=(x.s.take g m.P).1} c,y,d5,c1,cV,f] w:=a.as;exact⟨_,⟨c,y,d5,c1,cV,⟨H,n.k,n.aE,n.answers⟩,j⟩,a.pg⟩
  have R:aC.ok g (N+6) ((x.s.take g m.P).1):=i.s.take v A D;have L:x.s.gn ((x.s.take g m.P).1):=aC.wk _ _;have u:=uj (x:={x with s:=(x.s.take g m.P).1}) J R i.c i.aE (eh i.dr L.2.length_le) (l.st a h) v (a.eE l h) a.ours;refine bo 3 u j (λw⟨ai,I,O⟩=>?_);have a:=a.b3 O;exact ao 4 j j ⟨f,ai,F,I,a.as⟩
theorem CN{o:World}{g:am}{d:Nat}{x:bk}{G:List Chunk}{I:bA}(L:g8 g d x G){N:Nat}(l:x.ok g N)(K:773<=N)(ac:N+50<=1000000)(m:g.at o)(A:g.ok)(i:g.off (au [G]))(a:Own [G] o):Calls prog 66 #[ab d,.agg I.cs.toArray] o λr w=>∃v h ai,r= .tuple #[v,ad (x.ask g I).2.2]/\cz v (x.ask g I).2.1 h/\g8 g d (x.ask g I).1 ai/\C o (au [G]) [ai,h] w:=by
 have O:=L;obtain⟨c,be,d5,c1,cV,n,rfl⟩:=L;obtain⟨f,J⟩:∃f,f=au [dJ g d x c++(be++(d5++(c1++cV)))]:=⟨_,j⟩;have ae:=i;rw [<-J] at i⊢;have a:C o f [dJ g d x c++(be++(d5++(c1++cV)))] o:=J▸a;have a:=a.sJ;refine a2 func66 (bM 2 a j j (λH w a=>?_));have a:C o f (bD H I::_) w:=a;refine bN 4 (U:=I.cs) j j j (bp (C.ak (b:=H) a)) (bh 0 (uO (I:=I)) j (λr w⟨af,F,D,t,z⟩=>?_));subst D;have a:=a.aM z;refine aq 11 j (bS 16 (.bool false) j (aH Value.bool (j)) ?_);refine bm 3 j j (λq=>?_) (λq=>?_)
 .have W:gR I=false:=vM q;refine ao 4 j j ?_;have u:x.ask g I=(x,[],1):=aI (by rw [W];decide);rw [u];have a:C o f [dJ g d x c,be,d5,c1,cV,[]] w:=(C.empty a).as;exact⟨_,[],_,j,cz.nil,O,a.pg⟩
 have B:gR I=true:=vN q;rw [a6 B] at t;refine al 6 j (aw (C.ak (b:=d) a) j) ?_;obtain⟨aa,ce,rfl,_,_⟩:=t.form;have a:C o f [dJ g d x c,be,d5,c1,cV,F] w:=a.as;obtain⟨_,_,e,_,_,X,S⟩:=t.rd (a.to F);cases e;have y:=AK (x:=i4 I) (bR:=ce) n.s X (C.qg S) (eh (Gz (GG B)) (by decide)) l.s K (by omega) (m.st a i) A (a.eE m i) a.ours;refine bh 1 y j (λr w⟨Z,h,E,D,M,P,z⟩=>?_);subst D;have a:=a.b3 z
 obtain⟨p,R,a⟩:∃p,g8 g d {x with s:=(x.s.eI g (i4 I)).1} p/\C o f [p,h] w:=by
  have a:C o f [dJ g d {x with s:=(x.s.eI g (i4 I)).1} c,E,d5,c1,cV,h] w:=a.as;exact⟨_,⟨c,E,d5,c1,cV,⟨P,n.k,n.aE,n.answers⟩,j⟩,a.pg⟩
 have Y:aC.ok g (N+6) ((x.s.eI g (i4 I)).1):=l.s.eI A K _;have T:x.s.gn ((x.s.eI g (i4 I)).1):=aC.tb _ _;have y:=uj (x:={x with s:=(x.s.eI g (i4 I)).1}) R Y l.c l.aE (eh l.dr T.2.length_le) (m.st a i) A (a.eE m i) a.ours;refine bo 8 y j (λw⟨ai,Q,V⟩=>?_);have a:=a.b3 V;refine ao 6 j j ?_;have u:x.ask g I=(bk.hS {x with s:=(x.s.eI g (i4 I)).1},(x.s.eI g (i4 I)).2.1,(x.s.eI g (i4 I)).2.2):=a6 B;rw [u];exact⟨Z,h,ai,j,M,Q,a.as⟩
theorem nR.dh{m:List (Int×Value)}:∀{t:List (Int×(Int×Int×Int))}{H:List Chunk},c6 nR m t H->m=t.map λp=>(p.1,kx p.2):=by
 induction m with
 |nil=>intro t H h;cases t with|nil=>rfl|cons _ _=>exact h.elim
 |cons p m f=>
  intro t H h;cases t with
  |nil=>exact h.elim
  |cons q t=>
   obtain⟨c,_,_,_,d,e⟩:=h;rw [jT,<-f e];obtain⟨a,b⟩:=p;have c:a=q.1:=c;have d:b=kx q.2:=d.1;rw [c,d]
theorem w5{o:World}{g:am}{p:Nat}{x:bk}{G:List Chunk}{c s:Int}(F:g8 g p x G)(u:Holds o G):Calls prog 52 #[ab p,ad c,ad s] o λr w=>r= .tuple #[kx (if 0<=c/\c<=15/\0<=s/\s<=1048576 then((aZ x.answers (ff c s)).getD (0,0,0)) else(0,0,0)),.bool (decide (0<=c/\c<=15/\0<=s/\s<=1048576)&&(aZ x.answers (ff c s)).isSome)]/\C o [] [] w:=by
 have b:Own [] o:=C.start o;obtain⟨hb,be,d5,c1,cV,P,rfl⟩:=F;have S:o.heap[p]? =some (.cells (rg g x hb).toArray 70 (0,0)):=u.left.head;refine e9 func52 (cl 2 b j (λd w b=>?_));have b:C o [] (R d #[ad 0,ad 0,ad 0] 123::_) w:=b;refine aq 7 j (bS 10 (.bool false) j (aH Value.bool (j)) ?_);refine aq 4 j (cQ 14 j (λi=>?_) (λi=>?_))
 .refine aq 14 j (cP (c:= #[ad 0,ad 0,ad 0]) j j j (λ_=>by kernel_rfl) ?_);refine ck 0 (b.bc d) j j j j j (λw b=>?_);have b:=C.whole (U:=[ad 0,ad 0,ad 0]) b j;have b:C o [] (R d #[ad 0,ad 0,ad 0] 123::_) w:=b;refine bI 1 j ⟨_,dp results52 j j j j b.bE,?_⟩;have e:¬(0<=c/\c<=15/\0<=s/\s<=1048576):=λh=>by have:=dj i;omega
  rw [aI e,fj e];exact⟨by simp,b.bare⟩
 refine aq 4 j (cQ 18 j (λl=>?_) (λl=>?_))
 .refine aq 10 j (cP (c:= #[ad 0,ad 0,ad 0]) j j j (λ_=>by kernel_rfl) ?_);refine ck 0 (b.bc d) j j j j j (λw b=>?_);have b:=C.whole (U:=[ad 0,ad 0,ad 0]) b j;have b:C o [] (R d #[ad 0,ad 0,ad 0] 123::_) w:=b;refine bI 1 j ⟨_,dp results52 j j j j b.bE,?_⟩;have e:¬(0<=c/\c<=15/\0<=s/\s<=1048576):=λh=>by have:=dj l;omega
  rw [aI e,fj e];exact⟨by simp,b.bare⟩
 refine aq 4 j (cQ 22 j (λm=>?_) (λm=>?_))
 .refine aq 6 j (cP (c:= #[ad 0,ad 0,ad 0]) j j j (λ_=>by kernel_rfl) ?_);refine ck 0 (b.bc d) j j j j j (λw b=>?_);have b:=C.whole (U:=[ad 0,ad 0,ad 0]) b j;have b:C o [] (R d #[ad 0,ad 0,ad 0] 123::_) w:=b;refine bI 1 j ⟨_,dp results52 j j j j b.bE,?_⟩;have e:¬(0<=c/\c<=15/\0<=s/\s<=1048576):=λh=>by have:=dj m;omega
  rw [aI e,fj e];exact⟨by simp,b.bare⟩
 refine cm 3 j j (λt=>?_) (λt=>?_)
 .refine aq 2 j (cP (c:= #[ad 0,ad 0,ad 0]) j j j (λ_=>by kernel_rfl) ?_);refine ck 0 (b.bc d) j j j j j (λw b=>?_);have b:=C.whole (U:=[ad 0,ad 0,ad 0]) b j;have b:C o [] (R d #[ad 0,ad 0,ad 0] 123::_) w:=b;refine bI 1 j ⟨_,dp results52 j j j j b.bE,?_⟩;have e:¬(0<=c/\c<=15/\0<=s/\s<=1048576):=λh=>by omega
  rw [aI e,fj e];exact⟨by simp,b.bare⟩
 have b:=b.drew;obtain⟨n,ah,b1,f,H,J,O,D,rfl⟩:=P.answers;have y:=u.right.right.right.right;have I:dE 229 o (some ⟨n,0,none⟩) f:=.inr ⟨n,ah,b1,j,y (n,_) (by simp),y (ah,b1) (by simp),O⟩;have Q:∀q∈f,gE 3 q.2:=D.wide (λv a G h=>by rw [h.1];exact⟨[ad a.1,ad a.2.1,ad a.2.2],j,j,j⟩);have A:=nR.dh D;obtain⟨a,z⟩:∃a,a=((aZ x.answers (ff c s)).getD (0,0,0)):=⟨_,j⟩
 have L:(aZ f (ff c s)).getD rk= .agg #[ad a.1,ad a.2.1,ad a.2.2]:=by
  rw [A,nt,z];cases aZ x.answers (ff c s)<;>rfl
 have M:(aZ f (ff c s)).isSome=(aZ x.answers (ff c s)).isSome:=by
  rw [A,nt];cases aZ x.answers (ff c s)<;>rfl
 refine bw 2 j (λw=>∃ae,C o [] ae w) ⟨_,b⟩ (af 0 3 j (bT 3 j (λw⟨_,b⟩=>aw (b.cg S) (aH some J)) (af 4 2 j (aU 6 j (bF j j j (yS (c:=c) (s:=s)) (λw hw=>?_))))));have hw:=hw.symm;subst hw;refine ar ⟨⟨_,b⟩,?_⟩;refine aU 7 j ?_;have K:=Ey (k:=ff c s) Q (I.st b);refine cN j j j K (λr w⟨B,N⟩=>?_);rw [L,M] at B;subst B;have b:=b.aM N;refine ar ⟨⟨_,b⟩,?_⟩;refine af 8 2 j (aU 10 j (c4 (b.bc d) j j j j j bJ (λw b=>?_)));have b:=C.whole (U:=[ad a.1,ad a.2.1,ad a.2.2]) b j;have b:C o [] (R d #[ad a.1,ad a.2.1,ad a.2.2] 123::_) w:=b;refine ar ⟨⟨_,b⟩,?_⟩;refine af 11 1 j (bK (bI 0 j ⟨_,dp results52 j j j j b.bE,?_⟩));have E:0<=c/\c<=15/\0<=s/\s<=1048576:=by have T:=dN i;have V:=dN l;have W:=dN m;have X:=t;omega
 rw [a6 E,jC E,<-z];exact⟨by simp,b.bare⟩
theorem jQ.read{g:am}{an:Int}{w:World}:∀{us:List Value}{ms:List bH}{G:List Chunk},jQ g an us ms G->Holds w G->∀(i:Nat)(a:i<ms.length),∃A c,us[i]? =some (.slice A 1 c)/\1<=c/\c<=maxLen/\Rd w A (vcs [dm g ms[i] an])/\Flat A
 |[],[],_,_,_,i,a=>by simp at a
 |[],_::_,_,h,_,_,_=>h.elim
 |_::_,[],_,h,_,_,_=>h.elim
 |u::us,m::ms,_,⟨ai,aA,rfl,hu,h⟩,d,0,_=>by
  obtain⟨A,c,b,e,f,k,l⟩:=hu.read d.left;have b:u= .slice A 1 c:=b;subst b;exact⟨A,c,j,e,f,k,l⟩
 |u::us,m::ms,_,⟨ai,aA,rfl,hu,h⟩,d,i+1,a=>by
  have:=h.read d.right i (by simpa using a);simpa using this
theorem A8{o:World}{g:am}{E:Nat}{x:bk}{G:List Chunk}(aa:g8 g E x G)(N:Holds o G)(aR:x.aE.length<=100000):Calls prog 51 #[ab E] o λr w=>∃be,mK g x.an r x.aE be/\C o [] [be] w:=by
 have a:Own [] o:=C.start o;obtain⟨c,be,d5,c1,cV,ay,rfl⟩:=aa;have aF:o.heap[E]? =some (.cells (rg g x c).toArray 70 (0,0)):=N.left.head;obtain⟨W,V,us,Z,ah,L⟩:=ay.aE;have O:Holds o (W++V):=Z▸N.right.right.right.left;obtain⟨T,X,aj,aQ,aS,az,_⟩:=ah.read O.left;have aP:=L.len;have P:∀e∈us.zip x.aE,((λe:Value×bH=>e.2.cs++[e.1]) e).length=5:=λ_ _=>rfl
 have aV:(us.zip x.aE).length=x.aE.length:=by rw [oR];omega
 refine a2 func51 ?_;refine al 19 j (aw (a.cg aF) (aH some aj)) ?_
 refine cH 3 j (ct:=Nat×Value×List Chunk) (λk=>[(0,ab E),(3,k.2.1),(11,.slice T x.aE.length X),(12,.int .i64 (x.aE.length:Nat)),(13,.int .i64 (k.1:Nat))])
  (λk w=>k.1<=x.aE.length/\mK g x.an k.2.1 (x.aE.take k.1) k.2.2/\C o [] [k.2.2] w) (λk=>x.aE.length-k.1) (0,.slice none 0 0,[]) ⟨j,j,j,j,j,aY⟩ ⟨b6 _,⟨[],[],[],j,Row.nil _ _,j⟩,a.empty⟩ ?_
 rintro⟨i,v,G⟩ w ⟨ap,z,a⟩;dsimp only at ap z a⊢;refine bm 4 j j (λH=>?_) (λH=>?_)
 .have D:i<x.aE.length:=by have:=dj H;omega
  obtain⟨h,ci,aB,aL,aN,aA,_⟩:=L.read O.right i D;have aC:us[i]'(by omega)= .slice h 1 ci:=by have:=aB;rw [cf (by omega)] at this;exact hz this
  have Q:(us.zip x.aE)[i]'(by omega)=(.slice h 1 ci,x.aE[i]):=by rw [List.getElem_zip,aC]
  have S:=a.rd az (bX.of_nil _ _);refine aq 5 j (fz j j j j S (v:=ad x.aE[i].k) (h7 (f:=(λe:Value×bH=>e.2.cs++[e.1])) (J:=0) (us.zip x.aE) P i (by omega) (by decide) (by rw [Q];rfl)) D (λaI Y aK=>?_));subst Y;have R:=iY (f:=(λe:Value×bH=>e.2.cs++[e.1])) S P i (by omega);rw [Q] at R;refine bN 0 (U:=[ad x.aE[i].k,ad x.aE[i].p,ad x.aE[i].e,ad x.aE[i].t,Value.slice h 1 ci]) j j j R ?_;refine cl 0 a j (λn w a=>?_);refine ck 0 (a.bc n) j j j j j (λw a=>?_);have a:=C.whole (U:=[ad x.aE[i].k,ad x.aE[i].p,ad x.aE[i].e,ad x.aE[i].t,Value.slice h 1 ci]) a j;have a:C o [] [[(n,.cells #[ad x.aE[i].k,ad x.aE[i].p,ad x.aE[i].e,ad x.aE[i].t,Value.slice h 1 ci] 121 (0,0))],G] w:=a.as;have a:C o [] ([[(n,.cells #[ad x.aE[i].k,ad x.aE[i].p,ad x.aE[i].e,ad x.aE[i].t,Value.slice h 1 ci] 121 (0,0))]]++_) _:=a.front;have a:=a.drew;refine bw 0 j (λw=>∃ae,C o [] ([[(n,.cells #[ad x.aE[i].k,ad x.aE[i].p,ad x.aE[i].e,ad x.aE[i].t,Value.slice h 1 ci] 121 (0,0))]]++ae) w) ⟨_,a⟩ ?_;refine af 0 2 j ?_;refine aT 2 j (λw⟨_,a⟩=>c3 (U:=x.aE[i].cs) j j j ((a.bc n).i6 (off:=0) (U:=x.aE[i].cs) (λJ v z=>by rw [fg];exact r5 (m:=x.aE[i]) (u:=.slice h 1 ci) z))) ?_;refine af 3 1 j ?_;refine a8 4 j a1 j ?_;refine aU 5 j ?_;have ax:∀y∈[dm g x.aE[i] x.an],y.ok:=λy aG=>by rw [fT.1 aG];exact i2 _ _ _
  have ai:=k3 (l:=[dm g x.aE[i] x.an]) (d:=ci) (a.rd aA (bX.of_nil _ _)) ax (by simp);refine cN j j j ai (λr w⟨s,M,av⟩=>?_);obtain⟨q,dv,rfl,_,_⟩:=M.form;have a:=a.aM av;have a:C o [] ([[(n,.cells #[ad x.aE[i].k,ad x.aE[i].p,ad x.aE[i].e,ad x.aE[i].t,Value.slice h 1 ci] 121 (0,0))]]++_) w:=a.front;refine ar ⟨⟨_,a⟩,?_⟩;refine aT 6 j (λw _=>e1 (c:=[ad x.aE[i].k,ad x.aE[i].p,ad x.aE[i].e,ad x.aE[i].t,Value.slice q 1 dv].toArray) j (λ_=>by kernel_rfl)) ?_;refine aU 7 j ?_;refine gC (U:=[ad x.aE[i].k,ad x.aE[i].p,ad x.aE[i].e,ad x.aE[i].t,Value.slice q 1 dv]) a j j j j bJ bJ (λF w a=>?_);have aJ:=bp (C.ak (b:=F) a);have a:C o [] ([[(n,.cells #[ad x.aE[i].k,ad x.aE[i].p,ad x.aE[i].e,ad x.aE[i].t,Value.slice h 1 ci] 121 (0,0))]]++_) w:=a.front;refine ar ⟨⟨_,a⟩,?_⟩;refine aU 8 j ?_;obtain⟨I,H1,U,rfl,ac,K⟩:=z;have a:C o [] [I,H1,[(n,.cells #[ad x.aE[i].k,ad x.aE[i].p,ad x.aE[i].e,ad x.aE[i].t,Value.slice h 1 ci] 121 (0,0))],s,[(F,.cells #[ad x.aE[i].k,ad x.aE[i].p,ad x.aE[i].e,ad x.aE[i].t,Value.slice q 1 dv] 121 (0,0))]] w:=C.perm (A:=[I++H1,[(n,.cells #[ad x.aE[i].k,ad x.aE[i].p,ad x.aE[i].e,ad x.aE[i].t,Value.slice h 1 ci] 121 (0,0))],s,[(F,.cells #[ad x.aE[i].k,ad x.aE[i].p,ad x.aE[i].e,ad x.aE[i].t,Value.slice q 1 dv] 121 (0,0))]]) a.as (by simp);have aO:(x.aE.take i).length=i:=by rw [hl];omega
  refine d9 a ac j j (by decide) j j j (m:=1) (news:=[ad x.aE[i].k,ad x.aE[i].p,ad x.aE[i].e,ad x.aE[i].t,Value.slice q 1 dv]) j aJ (by intro u hu;simp at hu;rcases hu with rfl|rfl|rfl|rfl|rfl<;>rfl) (by omega) (by unfold maxLen;omega) (λv2 B w ag a=>?_)
  have aD:mK g x.an v2 (x.aE.take (i+1)) (B++(H1++s)):=by
   rw [fu D];refine⟨B,H1++s,U++[.slice q 1 dv],j,?_,K.app (jQ.one M)⟩;rw [b4,List.length_singleton]
   have e:n3 (U++[.slice q 1 dv]) (x.aE.take i++[x.aE[i]])=n3 U (x.aE.take i)++[ad x.aE[i].k,ad x.aE[i].p,ad x.aE[i].e,ad x.aE[i].t,Value.slice q 1 dv]:=by
    unfold n3;rw [List.zip_append K.len,List.flatMap_append];simp
   rw [e];exact ag
  have a:C o [] [[(n,.cells #[ad x.aE[i].k,ad x.aE[i].p,ad x.aE[i].e,ad x.aE[i].t,Value.slice h 1 ci] 121 (0,0))],B++(H1++s)] w:=C.perm (A:=[[(n,.cells #[ad x.aE[i].k,ad x.aE[i].p,ad x.aE[i].e,ad x.aE[i].t,Value.slice h 1 ci] 121 (0,0))],B,H1,s]) a.as (by simp);refine ar ⟨⟨_,a⟩,?_⟩;refine af 9 1 j ?_;refine bK ?_;refine bq 1 j j j (cM i (by omega)) ?_;refine bP 1 j ?_;exact⟨(i+1,v2,_),⟨j,j,j,j,j,aY⟩,⟨D,aD,a.as⟩,by dsimp only;omega⟩
 refine ao 5 j j ?_;have au:i=x.aE.length:=by have:=dN H;omega
 rw [au,gu] at z;exact⟨G,z,a⟩
end Go.Proofs.YtdomoelfhjdioaaGreatDoor.R
