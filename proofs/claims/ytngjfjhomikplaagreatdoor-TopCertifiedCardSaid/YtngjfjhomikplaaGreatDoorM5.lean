/- Part 5 of the proof. -/
import Derived.Test.YtngjfjhomikplaaGreatDoorM4
set_option linter.unusedVariables false
set_option linter.unusedSimpArgs false
set_option linter.unusedSectionVars false
set_option maxRecDepth 20000
set_option maxHeartbeats 4000000
namespace Go.Proofs.YtngjfjhomikplaaGreatDoor.R
open Go.Proofs.Tryz Go Go.RowKit Go.Proofs
theorem Row.setCell{e:TypeId}{size g n cap:Nat}{cur:Array Value}{xs:List Value}(h:Row e size (.slice (some ⟨g,0,none⟩) n cap) n xs [(g,.cells cur e (0,0))])(J:Nat)(u:Value):
 Row e size (.slice (some ⟨g,0,none⟩) n cap) n (xs.set J u) [(g,.cells (cur.setIfInBounds J u) e (0,0))]:=by
 obtain⟨b,c⟩:=h;refine⟨by simpa using b,?_⟩;rcases c with⟨a,_,_⟩|⟨p,m,o,a,l,d,f,i,k⟩
 .cases a
 .cases a;cases l;refine .inr ⟨g,cap,_,j,j,d,f,by simpa using i,?_⟩;rw [<-k];simp [List.take_set]
theorem si{α:Type}{f:α->List Value}{n:Nat}:∀(l:List α),(∀x∈l,(f x).length=n)->∀(i:Nat)(a:i<l.length)(J:Nat),J<n->∀(v:Value)(y:α),f y=(f l[i]).set J v->(l.flatMap f).set (i*n+J) v=(l.set i y).flatMap f
 |[],_,i,a,_,_,_,_,_=>by simp at a
 |x::r,h,0,_,J,d,v,y,c=>by
  have b:=h x (by simp);simp only [jZ,rM,oD,fj];rw [List.set_append_left _ _ (by omega)];exact aG (·++_) c.symm
 |x::r,h,i+1,a,J,d,v,y,c=>by
  have b:=h x (by simp);simp only [jZ,List.set_cons_succ];rw [t4 _ _ (by rw [b,Nat.succ_mul];omega),b,show(i+1)*n+J-n=i*n+J by rw [Nat.succ_mul];omega];exact aG (_++·) (si r (λz e=>h z (by simp [e])) i (by simpa using a) J d v y (by simpa using c))
theorem Row.block{e:TypeId}{size n:Nat}{v:Value}{xs:List Value}{G:List Chunk}(h:Row e size v n xs G)(aJ:0<n):∃g cap cur,v= .slice (some ⟨g,0,none⟩) n cap/\G=[(g,.cells cur e (0,0))]/\n<=cap/\cap<=maxLen/\cap*size<=cur.size:=by
 rcases h.2 with⟨_,a,_⟩|⟨g,cap,cur,a,b,c,d,f,_⟩
 .omega
 .exact⟨g,cap,cur,a,b,c,d,f⟩
theorem yh{α:Type}{p:α->Bool}{l:List α}{i:Nat}(h:∀J(a:J<l.length),J<i->p l[J]=false)(c:l.length<=i):l.findIdx? p=none:=by
 rw [List.findIdx?_eq_none_iff];intro x b;obtain⟨J,a,rfl⟩:=t5.1 b;exact h J a (by omega)
theorem yi{α:Type}{p:α->Bool}{l:List α}{i:Nat}(h:∀J(d:J<l.length),J<i->p l[J]=false)(a:i<l.length)(c:p l[i]=true):l.findIdx? p=some i:=by
 rw [p8];exact⟨a,c,λJ b=>by rw [h J (by omega) b];decide⟩
theorem yI{o:World}{ez:FuncId}[Entry prog ez]{be:Array Value}{q:dL->Bool}{T:World->Prop}(D:∀(g:World)(s:dL),T g->Calls prog ez (#[]++ #[.agg s.cs.toArray]++be) g (λr w=>r= .bool (q s)/\C g [] [] w))(A:∀w,C o [] [] w->T w){v:Value}{l:List dL}{G:List Chunk}(B:gC v l G)(z:Holds o G):Calls prog 230 #[v,.func (.func ez) #[] be] o λr w=>((∃i:Nat,r= .int .i64 (i:Nat)/\l.findIdx? q=some i)\/(r= .int .i64 (-1)/\l.findIdx? q=none))/\C o [] [] w:=by
 have a:Own [] o:=C.start o;obtain⟨t,x,rfl,N,H,F,_⟩:=Row.read B z;have k:∀e∈l,(dL.cs e).length=5:=λ_ _=>rfl
 refine a2 func230 ?_
 refine cJ 10 j (ct:=Nat) (λi=>[(0,.slice t l.length x),(1,.func (.func ez) #[] be),(7,.int .i64 (l.length:Nat)),(8,.int .i64 (i:Nat))])
  (λi w=>i<=l.length/\(∀J(m:J<l.length),J<i->q l[J]=false)/\C o [] [] w) (λi=>l.length-i) 0 ⟨j,j,j,j,aX⟩ ⟨b4 _,λJ _ h=>by omega,a⟩ ?_
 rintro i w ⟨M,d,a⟩;refine b8 4 j j (λu=>?_) (λu=>?_)
 .have b:i<l.length:=by omega
  have n:=a.rd F (bT.of_nil _ _);refine am 12 j (fp j j j j n (v:=ae l[i].p) (h8 (f:=dL.cs) (J:=0) l k i b (by decide) j) b (λK y L=>?_));subst y;refine bM 0 (U:=l[i].cs) j j j (i0 (f:=dL.cs) n k i b) (hL j j j j (D _ l[i] (A _ a)) (λr w⟨I,aa⟩=>?_));subst I;have a:=(a.aL aa).bare;refine bm 0 j j (λc=>?_) (λc=>?_)
  .exact aq 4 j j ⟨.inl ⟨i,j,yi d b c⟩,a⟩
  refine bq 2 j j j (cE i (by unfold maxLen at H;omega)) (bI 1 j (⟨i+1,⟨j,j,j,j,aX⟩,⟨b,λJ m E=>?_,a⟩,by omega⟩));rcases Nat.lt_succ_iff_lt_or_eq.1 E with h|rfl
  .exact d J m h
  exact c
 exact aq 4 j j ⟨.inr ⟨j,yh d (by omega)⟩,a⟩
theorem HP{o:World}{f g i:Nat}{p e t:Int}{s:dL}(m:o.heap[f]? =some (.cells #[ae p] 3 (0,0)))(n:o.heap[g]? =some (.cells #[ae e] 3 (0,0)))(q:o.heap[i]? =some (.cells #[ae t] 3 (0,0))):Calls prog 231 (#[]++ #[.agg s.cs.toArray]++ #[ab f,ab g,ab i]) o λr w=>r= .bool (kV p e t s)/\C o [] [] w:=by
 have a:Own [] o:=C.start o;refine a2 func231 (bL 2 a j j (λk w a=>?_));have a:C o [] (R k s.cs.toArray 316::_) w:=a;refine ar 4 j (ax (C.aj a) j) (ar 0 j (ax (a.cc m) j) (am 2 j (cT 10 j (λc=>?_) (λc=>?_))))
 .refine ar 1 j (ax (C.aj a) j) (ar 0 j (ax (a.cc n) j) (am 3 j (cT 16 j (λd=>?_) (λd=>?_))))
  .refine ar 1 j (ax (C.aj a) j) (ar 0 j (ax (a.cc q) j) (aq 3 j j (⟨aG Value.bool ?_,a.bare⟩)));unfold kV;have b:s.p=p:=d5.1 c;have l:s.e=e:=d5.1 d;rw [na];simp [b,l]
  refine aq 6 j j (⟨aG Value.bool ?_,a.bare⟩);unfold kV;exact(e4 (by have b:(s.e==e)=false:=d;rw [fw] at b;exact λh=>b (by simp [h]))).symm
 refine aq 12 j j (⟨aG Value.bool ?_,a.bare⟩);unfold kV;exact(e4 (by have b:(s.p==p)=false:=c;rw [fw] at b;exact λh=>b (by simp [h]))).symm
theorem pr{o:World}{be:Nat}{c:iQ}{p e t:Int}{S:List Chunk}{l:List dL}(v:o.heap[be]? =some (.cells (lcs c).toArray 147 (0,0)))(u:gC c.ck l S)(n:Holds o S):Calls prog 188 #[ab be,ae p,ae e,ae t] o λr w=>((∃i:Nat,r= .int .i64 (i:Nat)/\l.findIdx? (kV p e t)=some i)\/(r= .int .i64 (-1)/\l.findIdx? (kV p e t)=none))/\C o [] [] w:=by
 have a:Own [] o:=C.start o;refine a2 func188 (bL 2 a j j (λf w a=>bL 0 a j j (λg w a=>bL 0 a j j (λh w a=>?_))));have a:C o [] [R h #[ae t] 3,R g #[ae e] 3,R f #[ae p] 3] w:=a;refine ar 6 j (ax (a.cc v) j) (gZ j j j j ?_);have x:=yI (ez:=231) (be:= #[ab f,ab g,ab h]) (q:=kV p e t) (T:=λd=>d.heap[f]? =some (.cells #[ae p] 3 (0,0))/\d.heap[g]? =some (.cells #[ae e] 3 (0,0))/\d.heap[h]? =some (.cells #[ae t] 3 (0,0))) (λd s m=>HP m.1 m.2.1 m.2.2) (λd k=>⟨k.cc (C.aj (b:=f) a),k.cc (C.aj (b:=g) a),k.cc (C.aj (b:=h) a)⟩) u (n.st a);refine bk 0 x j (λr w⟨z,y⟩=>?_);have a:=a.aL y;exact aq 1 j j ⟨z,a.bare⟩
theorem D3{o:World}{be:Nat}{l:dQ}{G:List Chunk}{p e t:Int}{dT:Bool}(aC:kG be l G)(aN:l.ck.length<=1000000)(a:Own [G] o):Calls prog 214 #[ab be,ae p,ae e,ae t,.bool dT] o λr w=>r=ae (l.end_ p e t dT).2/\∃ai,kG be (l.end_ p e t dT).1 ai/\C o (av [G]) [ai] w:=by
 have aD:=aC;obtain⟨c,ag,S,E,q,rfl⟩:=aC;obtain⟨v,aB⟩:∃v,v=av [dG be c++(ag++(S++E))]:=⟨_,j⟩;rw [<-aB];have a:C o v [dG be c++(ag++(S++E))] o:=aB▸a;have a:=a.vR;obtain⟨d,Z⟩:∃d:Int,d=if dT=true then 2 else 3:=⟨_,j⟩
 refine a2 func214 (am 9 j (bS 15 (.bool false) j (aG Value.bool (j)) ?_));refine bp 2 (vh (p:=p) (e:=e)) j (λw hw=>?_);have hw:=hw.symm;subst hw;refine am 3 j (cT 21 j (λT=>?_) (λT=>?_))
 .refine aq 8 j j ?_;have D:l.end_ p e t dT=(l,1):=if_pos (by rw [show j5 p e=false from by simpa using T];rfl);rw [D];exact⟨j,_,aD,a.i2⟩
 refine bp 1 (yO (t:=t)) j (λw hw=>?_);have hw:=hw.symm;subst hw;refine bm 2 j j (λV=>?_) (λV=>?_)
 .refine aq 3 j j ?_;have D:l.end_ p e t dT=(l,1):=if_pos (by rw [show lg t=false from by simpa using V];exact Bool.and_false _);rw [D];exact⟨j,_,aD,a.i2⟩
 refine bm 8 j j (λap=>?_) (λap=>?_);have ah:d=2:=by rw [Z];exact a6 ap
 refine am 8 j ?_;rcases A:l.ck.findIdx? (kV p e t) with _|Q
 .have X:=pr (be:=be) (c:=c) (p:=p) (e:=e) (t:=t) (C.aj (b:=be) a) q.ck (a.holds (G:=S) (by simp));refine bk 0 X j (λr w⟨y,Y⟩=>?_);obtain⟨y,_⟩:=y.resolve_left (λ⟨_,_,h⟩=>by rw [A] at h;cases h);subst y;have a:=a.aL Y;obtain⟨aE,aF,aw,_,_⟩:=Row.form q.ck;refine ar 12 j (ax (C.aj (b:=be) a) (aG some aw)) (ar 7 j (ax (C.aj (b:=be) a) j) (am 3 j (cN (c:=(⟨p,e,t,-1,0⟩:dL).cs.toArray) j j j (λ_=>by kernel_rfl) ?_)));refine gi (U:=(⟨p,e,t,-1,0⟩:dL).cs) a j j j j bG bG (λao w a=>?_);have aJ:=bn (C.aj (b:=ao) a);refine dR (a.to S) q.ck j j (by decide) j j j (m:=1) (news:=(⟨p,e,t,-1,0⟩:dL).cs) j aJ (wg [(⟨p,e,t,-1,0⟩:dL)]) (by omega) (by unfold maxLen;omega) (λv1 n w M a=>?_)
  have M:gC v1 (l.ck++[(⟨p,e,t,-1,0⟩:dL)]) n:=by
   unfold gC;rw [b0,List.flatMap_append];simpa using M
  refine dF 2 (a.bc be) j j j (Row.one M) (λw a=>?_);have a:C o v (dG be ({c with ck:=v1})::_) w:=a;obtain⟨aV,L,n,i,P,O,H,B,F,u,a⟩:∃(aV:iQ)(L:List dL)(n:List Chunk)(i:Nat),aV.c0=c.c0/\aV.eE=c.eE/\L=(l.ck++[(⟨p,e,t,-1,0⟩:dL)])/\l.ck.length=i/\gC aV.ck L n/\i<L.length/\C o v [dG be aV,ag,n,E] w:=⟨{c with ck:=v1},(l.ck++[(⟨p,e,t,-1,0⟩:dL)]),n,l.ck.length,j,j,j,j,M,by rw [b0,List.length_singleton];omega,a.as⟩;refine am 3 j (bS 12 (.int .i64 (i:Nat)) j (by rw [B]) ?_);obtain⟨g,cap,cur,s,rfl,aA,au,ay⟩:=Row.block F (by omega);have I:∀x∈L,(dL.cs x).length=5:=λ_ _=>rfl
  have K:gC (.slice (some ⟨g,0,none⟩) L.length cap) L (R g cur 316):=s▸F
  have ia:C o v [dG be aV,ag,R g cur 316,E] w->World.cell? w ⟨g,i*5+4,none⟩=some (ae L[i].k):=λa=>by
   obtain⟨_,_,W,_,_,aa,_⟩:=Row.read K (a.holds (G:=R g cur 316) (by simp));cases W;have h:=aa.cell (h8 (f:=dL.cs) (J:=4) L I i u (by decide) j);rw [add_lit] at h;simpa using h
  have az:L[i].k=0:=by simp only [H,<-B];simp
  refine ar 3 j (ax (C.aj (b:=be) a) (aG some s)) (am 1 j (hl j j j j u ?_));refine ar 1 j (by have h:=ia a;simpa [add_lit] using h) (am 2 j (bS 61 (.bool false) j (congrArg Value.bool ((by rw [az];rfl))) ?_));refine am 15 j (bS 11 (ae d) j (by rw [ah];rfl) ?_);refine ar 3 j (ax (C.aj (b:=be) a) (aG some s)) (am 2 j (hl j j j j u ?_));refine am 1 j (cB (a.bc g) j j j j (by omega) (λw a=>?_));have N:=Row.setCell K (i*5+4) (ae d);rw [si (f:=dL.cs) L I i u 4 (by decide) (ae d) {L[i] with k:=d} j] at N
  have an:gC aV.ck (L.set i {L[i] with k:=d}) (R g (cur.setIfInBounds (i*5+4) (ae d)) 316):=by
   unfold gC;rw [s,hp];exact N
  have a:=C.gg a (show cur.setIfInBounds (0+i*5+4) (ae d)=cur.setIfInBounds (i*5+4) (ae d) by rw [fj]);refine aq 3 j j ?_
  have D:l.end_ p e t dT=({l with ck:=L.set i {L[i] with k:=d}},0):=by
   unfold dQ.end_;rw [aI (by rw [show j5 p e=true from by simpa using T,show lg t=true from by simpa using V];decide)];rw [show l.span p e t=none from A];dsimp only;rw [<-Z];refine aG (λz=>(({l with ck:=z}:dQ),(0:Int))) ?_;simp only [H,<-B];simp
  rw [D];have a:C o v [dG be aV,ag,R g (cur.setIfInBounds (i*5+4) (ae d)) 316,E] w:=a.as;exact⟨j,_,⟨aV,ag,_,E,⟨P▸q.c0,an,O▸q.eE⟩,j⟩,a.i2⟩
 have X:=pr (be:=be) (c:=c) (p:=p) (e:=e) (t:=t) (C.aj (b:=be) a) q.ck (a.holds (G:=S) (by simp));refine bk 0 X j (λr w⟨y,Y⟩=>?_);obtain⟨aM,y,al⟩:=y.resolve_right (λh=>by rw [A] at h;cases h.2);rw [A] at al;cases al;subst y;have a:=a.aL Y;refine iI 6 j j ((e4 (by omega))) ?_;obtain⟨af,aH,aK⟩:=p8.1 A;obtain⟨aV,L,n,i,P,O,H,B,F,u,a⟩:∃(aV:iQ)(L:List dL)(n:List Chunk)(i:Nat),aV.c0=c.c0/\aV.eE=c.eE/\L=l.ck/\Q=i/\gC aV.ck L n/\i<L.length/\C o v [dG be aV,ag,n,E] w:=⟨c,l.ck,S,Q,j,j,j,j,q.ck,af,a.as⟩;refine am 4 j (bS 12 (.int .i64 (i:Nat)) j (by rw [B]) ?_);obtain⟨g,cap,cur,s,rfl,aA,au,ay⟩:=Row.block F (by omega);have I:∀x∈L,(dL.cs x).length=5:=λ_ _=>rfl
 have K:gC (.slice (some ⟨g,0,none⟩) L.length cap) L (R g cur 316):=s▸F
 have ia:C o v [dG be aV,ag,R g cur 316,E] w->World.cell? w ⟨g,i*5+4,none⟩=some (ae L[i].k):=λa=>by
  obtain⟨_,_,W,_,_,aa,_⟩:=Row.read K (a.holds (G:=R g cur 316) (by simp));cases W;have h:=aa.cell (h8 (f:=dL.cs) (J:=4) L I i u (by decide) j);rw [add_lit] at h;simpa using h
 refine ar 3 j (ax (C.aj (b:=be) a) (aG some s)) (am 1 j (hl j j j j u ?_));refine ar 1 j (by have h:=ia a;simpa [add_lit] using h) (am 2 j (cT 61 j (λac=>?_) (λac=>?_)));refine ar 3 j (ax (C.aj (b:=be) a) (aG some s)) (am 1 j (hl j j j j u ?_));refine ar 1 j (by have h:=ia a;simpa [add_lit] using h) (bm 3 j j (λad=>?_) (λad=>?_))
 .refine aq 3 j j ?_
  have D:l.end_ p e t dT=(l,6):=by
   unfold dQ.end_;rw [aI (by rw [show j5 p e=true from by simpa using T,show lg t=true from by simpa using V];decide)];rw [show l.span p e t=some Q from A];dsimp only;rw [nc af,<-Z];subst B;subst H;refine a6 ⟨by simpa using ac,?_⟩;first|rw [ah]|rw [ak]
   simpa using ad
  rw [D];have a:C o v [dG be aV,ag,R g cur 316,E] w:=a.as;exact⟨j,_,⟨aV,ag,_,E,⟨P▸q.c0,H▸F,O▸q.eE⟩,j⟩,a.i2⟩
 refine am 3 j (bS 11 (ae d) j (by rw [ah];rfl) ?_);rotate_left
 refine am 15 j (bS 11 (ae d) j (by rw [ah];rfl) ?_);rotate_left
 have ak:d=3:=by rw [Z];exact aI (by rw [show dT=false from ap];decide)
 refine am 7 j ?_;rcases A:l.ck.findIdx? (kV p e t) with _|Q
 .have X:=pr (be:=be) (c:=c) (p:=p) (e:=e) (t:=t) (C.aj (b:=be) a) q.ck (a.holds (G:=S) (by simp));refine bk 0 X j (λr w⟨y,Y⟩=>?_);obtain⟨y,_⟩:=y.resolve_left (λ⟨_,_,h⟩=>by rw [A] at h;cases h);subst y;have a:=a.aL Y;obtain⟨aE,aF,aw,_,_⟩:=Row.form q.ck;refine ar 12 j (ax (C.aj (b:=be) a) (aG some aw)) (ar 7 j (ax (C.aj (b:=be) a) j) (am 3 j (cN (c:=(⟨p,e,t,-1,0⟩:dL).cs.toArray) j j j (λ_=>by kernel_rfl) ?_)));refine gi (U:=(⟨p,e,t,-1,0⟩:dL).cs) a j j j j bG bG (λao w a=>?_);have aJ:=bn (C.aj (b:=ao) a);refine dR (a.to S) q.ck j j (by decide) j j j (m:=1) (news:=(⟨p,e,t,-1,0⟩:dL).cs) j aJ (wg [(⟨p,e,t,-1,0⟩:dL)]) (by omega) (by unfold maxLen;omega) (λv1 n w M a=>?_)
  have M:gC v1 (l.ck++[(⟨p,e,t,-1,0⟩:dL)]) n:=by
   unfold gC;rw [b0,List.flatMap_append];simpa using M
  refine dF 2 (a.bc be) j j j (Row.one M) (λw a=>?_);have a:C o v (dG be ({c with ck:=v1})::_) w:=a;obtain⟨aV,L,n,i,P,O,H,B,F,u,a⟩:∃(aV:iQ)(L:List dL)(n:List Chunk)(i:Nat),aV.c0=c.c0/\aV.eE=c.eE/\L=(l.ck++[(⟨p,e,t,-1,0⟩:dL)])/\l.ck.length=i/\gC aV.ck L n/\i<L.length/\C o v [dG be aV,ag,n,E] w:=⟨{c with ck:=v1},(l.ck++[(⟨p,e,t,-1,0⟩:dL)]),n,l.ck.length,j,j,j,j,M,by rw [b0,List.length_singleton];omega,a.as⟩;refine am 3 j (bS 12 (.int .i64 (i:Nat)) j (by rw [B]) ?_);obtain⟨g,cap,cur,s,rfl,aA,au,ay⟩:=Row.block F (by omega);have I:∀x∈L,(dL.cs x).length=5:=λ_ _=>rfl
  have K:gC (.slice (some ⟨g,0,none⟩) L.length cap) L (R g cur 316):=s▸F
  have ia:C o v [dG be aV,ag,R g cur 316,E] w->World.cell? w ⟨g,i*5+4,none⟩=some (ae L[i].k):=λa=>by
   obtain⟨_,_,W,_,_,aa,_⟩:=Row.read K (a.holds (G:=R g cur 316) (by simp));cases W;have h:=aa.cell (h8 (f:=dL.cs) (J:=4) L I i u (by decide) j);rw [add_lit] at h;simpa using h
  have az:L[i].k=0:=by simp only [H,<-B];simp
  refine ar 3 j (ax (C.aj (b:=be) a) (aG some s)) (am 1 j (hl j j j j u ?_));refine ar 1 j (by have h:=ia a;simpa [add_lit] using h) (am 2 j (bS 61 (.bool false) j (congrArg Value.bool ((by rw [az];rfl))) ?_));refine am 15 j (bS 11 (ae d) j (by rw [ak];rfl) ?_);refine ar 3 j (ax (C.aj (b:=be) a) (aG some s)) (am 2 j (hl j j j j u ?_));refine am 1 j (cB (a.bc g) j j j j (by omega) (λw a=>?_));have N:=Row.setCell K (i*5+4) (ae d);rw [si (f:=dL.cs) L I i u 4 (by decide) (ae d) {L[i] with k:=d} j] at N
  have an:gC aV.ck (L.set i {L[i] with k:=d}) (R g (cur.setIfInBounds (i*5+4) (ae d)) 316):=by
   unfold gC;rw [s,hp];exact N
  have a:=C.gg a (show cur.setIfInBounds (0+i*5+4) (ae d)=cur.setIfInBounds (i*5+4) (ae d) by rw [fj]);refine aq 3 j j ?_
  have D:l.end_ p e t dT=({l with ck:=L.set i {L[i] with k:=d}},0):=by
   unfold dQ.end_;rw [aI (by rw [show j5 p e=true from by simpa using T,show lg t=true from by simpa using V];decide)];rw [show l.span p e t=none from A];dsimp only;rw [<-Z];refine aG (λz=>(({l with ck:=z}:dQ),(0:Int))) ?_;simp only [H,<-B];simp
  rw [D];have a:C o v [dG be aV,ag,R g (cur.setIfInBounds (i*5+4) (ae d)) 316,E] w:=a.as;exact⟨j,_,⟨aV,ag,_,E,⟨P▸q.c0,an,O▸q.eE⟩,j⟩,a.i2⟩
 have X:=pr (be:=be) (c:=c) (p:=p) (e:=e) (t:=t) (C.aj (b:=be) a) q.ck (a.holds (G:=S) (by simp));refine bk 0 X j (λr w⟨y,Y⟩=>?_);obtain⟨aM,y,al⟩:=y.resolve_right (λh=>by rw [A] at h;cases h.2);rw [A] at al;cases al;subst y;have a:=a.aL Y;refine iI 6 j j ((e4 (by omega))) ?_;obtain⟨af,aH,aK⟩:=p8.1 A;obtain⟨aV,L,n,i,P,O,H,B,F,u,a⟩:∃(aV:iQ)(L:List dL)(n:List Chunk)(i:Nat),aV.c0=c.c0/\aV.eE=c.eE/\L=l.ck/\Q=i/\gC aV.ck L n/\i<L.length/\C o v [dG be aV,ag,n,E] w:=⟨c,l.ck,S,Q,j,j,j,j,q.ck,af,a.as⟩;refine am 4 j (bS 12 (.int .i64 (i:Nat)) j (by rw [B]) ?_);obtain⟨g,cap,cur,s,rfl,aA,au,ay⟩:=Row.block F (by omega);have I:∀x∈L,(dL.cs x).length=5:=λ_ _=>rfl
 have K:gC (.slice (some ⟨g,0,none⟩) L.length cap) L (R g cur 316):=s▸F
 have ia:C o v [dG be aV,ag,R g cur 316,E] w->World.cell? w ⟨g,i*5+4,none⟩=some (ae L[i].k):=λa=>by
  obtain⟨_,_,W,_,_,aa,_⟩:=Row.read K (a.holds (G:=R g cur 316) (by simp));cases W;have h:=aa.cell (h8 (f:=dL.cs) (J:=4) L I i u (by decide) j);rw [add_lit] at h;simpa using h
 refine ar 3 j (ax (C.aj (b:=be) a) (aG some s)) (am 1 j (hl j j j j u ?_));refine ar 1 j (by have h:=ia a;simpa [add_lit] using h) (am 2 j (cT 61 j (λac=>?_) (λac=>?_)));refine ar 3 j (ax (C.aj (b:=be) a) (aG some s)) (am 1 j (hl j j j j u ?_));refine ar 1 j (by have h:=ia a;simpa [add_lit] using h) (bm 3 j j (λad=>?_) (λad=>?_))
 .refine aq 3 j j ?_
  have D:l.end_ p e t dT=(l,6):=by
   unfold dQ.end_;rw [aI (by rw [show j5 p e=true from by simpa using T,show lg t=true from by simpa using V];decide)];rw [show l.span p e t=some Q from A];dsimp only;rw [nc af,<-Z];subst B;subst H;refine a6 ⟨by simpa using ac,?_⟩;first|rw [ah]|rw [ak]
   simpa using ad
  rw [D];have a:C o v [dG be aV,ag,R g cur 316,E] w:=a.as;exact⟨j,_,⟨aV,ag,_,E,⟨P▸q.c0,H▸F,O▸q.eE⟩,j⟩,a.i2⟩
 refine am 3 j (bS 11 (ae d) j (by rw [ak];rfl) ?_);rotate_left
 refine am 15 j (bS 11 (ae d) j (by rw [ak];rfl) ?_);rotate_left
 all_goals
  rotate_left
  all_goals
   refine ar 3 j (ax (C.aj (b:=be) a) (aG some s)) (am 2 j (hl j j j j u ?_));refine am 1 j (cB (a.bc g) j j j j (by omega) (λw a=>?_));have N:=Row.setCell K (i*5+4) (ae d);rw [si (f:=dL.cs) L I i u 4 (by decide) (ae d) {L[i] with k:=d} j] at N
   have an:gC aV.ck (L.set i {L[i] with k:=d}) (R g (cur.setIfInBounds (i*5+4) (ae d)) 316):=by
    unfold gC;rw [s,hp];exact N
   have a:=C.gg a (show cur.setIfInBounds (0+i*5+4) (ae d)=cur.setIfInBounds (i*5+4) (ae d) by rw [fj]);refine aq 3 j j ?_
   have D:l.end_ p e t dT=({l with ck:=L.set i {L[i] with k:=d}},0):=by
    unfold dQ.end_;rw [aI (by rw [show j5 p e=true from by simpa using T,show lg t=true from by simpa using V];decide)];rw [show l.span p e t=some Q from A];dsimp only;rw [nc af,<-Z];subst B;subst H;refine aI ?_;first|exact λh=>h.1 (by simpa using ac)|(rintro⟨_,h⟩;(first|rw [ah] at h|rw [ak] at h);exact h (by simpa using ad))
   rw [D];have a:C o v [dG be aV,ag,R g (cur.setIfInBounds (i*5+4) (ae d)) 316,E] w:=a.as;exact⟨j,_,⟨aV,ag,_,E,⟨P▸q.c0,an,O▸q.eE⟩,j⟩,a.i2⟩
structure cR where
 log:dQ
 acc:List cb
 aH:List (Int×List (Int×aE))
def cR.new:cR:=⟨dQ.new,[],[]⟩
abbrev pA(z:Int):Int:=IntKind.i64.wrap z
def ey(m:cb):Int:=pA (pA (pA (pA (pA (pA (m.k*8)+m.p)*101)+m.e)*101)+m.t)
def lh(g:al)(m:cb)(v:aE):Bool:=m.ok&&(v.k==(dq g m v.f).k)&&(v.s==(dq g m v.f).s)&&(v.v==(dq g m v.f).v)&&(v.sum==(dq g m v.f).sum)&&cQ g v
def cR.b3(b:cR)(m:cb):cR×Int:=
 if m.k=1 then({b with log:=(b.log.kQ m.p m.e).1},(b.log.kQ m.p m.e).2)
 else({b with log:=(b.log.end_ m.p m.e m.t (m.k==2)).1},(b.log.end_ m.p m.e m.t (m.k==2)).2)
def cR.accept(g:al)(b:cR)(m:cb)(l:List aE):cR×Int:=
 if m.ok=false then(b,1) else if qi g m l=false then(b,9) else if m∈b.acc then(b,0)
 else if(b.b3 m).2≠0 then b.b3 m
 else({(b.b3 m).1 with acc:=b.acc++[m],aH:=fY b.aH (ey m)},0)
def fQ(l:List (Int×aE)):List aE:=(dd l).map Prod.snd
def iV(l:List (Int×aE))(v:aE):List (Int×aE):=if(aZ l v.f).isSome=true then l else cj l v.f v
def cR.dk(g:al)(b:cR)(m:cb)(v:aE):cR×Int:=
 if m.ok=false then(b,1) else if lh g m v=false then(b,9) else if m∈b.acc then(b,0)
 else if(aZ b.aH (ey m)).isSome=false/\64<=b.aH.length then(b,3)
 else if qi g m (fQ (iV ((aZ b.aH (ey m)).getD []) v))=true then
  ((cR.accept g {b with aH:=fY (cj b.aH (ey m) (iV ((aZ b.aH (ey m)).getD []) v)) (ey m)} m (fQ (iV ((aZ b.aH (ey m)).getD []) v))).1,0)
 else({b with aH:=cj b.aH (ey m) (iV ((aZ b.aH (ey m)).getD []) v)},0)
def jd(v:Value)(x:aE)(G:List Chunk):Prop:=v= .agg x.cs.toArray/\G=[]/\x.ok
def pW(v:Value)(l:List (Int×aE))(G:List Chunk):Prop:=fv 277 jd v l G
structure kf where
 be:Nat
 acc:Value
 aH:Value
abbrev uu(g:al)(c:kf):List Value:=[g.p,.pointer (some ⟨c.be,0,none⟩),c.acc,c.aH]
abbrev cl(g:al)(bi:Nat)(c:kf):List Chunk:=R bi (uu g c).toArray 100
structure Bn(g:al)(b:cR)(c:kf)(L M V:List Chunk):Prop where
 log:kG c.be b.log L
 acc:eH c.acc b.acc M
 aH:fv 240 pW c.aH b.aH V
def jS(g:al)(bi:Nat)(b:cR)(G:List Chunk):Prop:=∃(c:kf)(L M V:List Chunk),Bn g b c L M V/\G=cl g bi c++(L++(M++V))
theorem C.vQ{g:al}{bi:Nat}{c:kf}{L M V:List Chunk}{ad:List (List Chunk)}{o w:World}{F:List Nat}(h:C o F ((cl g bi c++(L++(M++V)))::ad) w):C o F (cl g bi c::L::M::V::ad) w:=h.perm (by simp)
theorem C.li{g:al}{bi:Nat}{c:kf}{L M V:List Chunk}{ad:List (List Chunk)}{o w:World}{F:List Nat}(h:C o F (cl g bi c::L::M::V::ad) w):C o F ((cl g bi c++(L++(M++V)))::ad) w:=h.perm (by simp)
theorem vB{o:World}{g:al}:Calls prog 38 #[g.p] o λr w=>∃bi G,r=ab bi/\jS g bi cR.new G/\C o [] [G] w:=by
 have a:Own [] o:=C.start o;refine a2 func38 (bk 6 FX j (λr w⟨be,e,h,k,f⟩=>?_));subst h;have a:=a.aL f;refine bk 0 F4 j (λr w⟨b,i,h,l,f⟩=>?_);subst h;have a:=a.aL f;refine cN (c:=(uu g (⟨be,.slice none 0 0,ab b⟩:kf)).toArray) j j j (λ_=>by kernel_rfl) (bL 0 a j j (λd w a=>aq 1 j j ?_));have a:C o [] (cl g d (⟨be,.slice none 0 0,ab b⟩:kf)::_) w:=a;have a:C o [] [cl g d (⟨be,.slice none 0 0,ab b⟩:kf),e,[],ay 240 b i (.map #[] 0)] w:=C.perm (A:=[cl g d (⟨be,.slice none 0 0,ab b⟩:kf),e,ay 240 b i (.map #[] 0)]) a.as (by simp);exact⟨d,_,j,⟨(⟨be,.slice none 0 0,ab b⟩:kf),e,[],_,⟨k,eH.nil,fv.new l⟩,j⟩,a.li⟩
theorem qK{o:World}{m:cb}:Calls prog 107 #[hy m] o λr w=>r=ae (ey m)/\C o [] [] w:=by
 have a:Own [] o:=C.start o;refine a2 func107 (bL 2 a j j (λaz w a=>?_));have a:C o [] (R az m.cs.toArray 118::_) w:=a;exact ar 4 j (ax (C.aj a) j) (ar 2 j (ax (C.aj a) j) (ar 3 j (ax (C.aj a) j) (ar 3 j (ax (C.aj a) j) (aq 2 j j ⟨j,a.bare⟩))))
theorem yK{o:World}{m:cb}:Calls prog 103 #[hy m] o λr w=>r= .bool m.ok/\C o [] [] w:=by
 have a:Own [] o:=C.start o;refine a2 func103 (bL 2 a j j (λaz w a=>?_));have a:C o [] (R az m.cs.toArray 118::_) w:=a;refine bM 3 (U:=m.cs) j j j (bn (C.aj (b:=az) a)) ?_;have c:=uM (o:=w) (k:=m.k) (p:=m.p) (e:=m.e) (t:=m.t);refine bk 0 c j (λr w⟨v,G,d,f,aa⟩=>?_);subst d;have a:=a.aL aa;exact aq 10 j j ⟨aG Value.bool (vK m.ok),a.bare⟩
theorem Ea(a b:cb)(w:World):(Op.equalIn 10000 118 (.agg a.cs.toArray) (.agg b.cs.toArray)).run prog w= .ok (decide (a=b)) w:=x6 a b w
theorem EG{l:List cb}{k:cb}{i:Nat}(h:i=l.length)(aJ:k∉l.take i):k∉l:=by subst h;rwa [gj] at aJ
theorem EM{o:World}{v:Value}{l:List cb}{G:List Chunk}{m:cb}(z:eH v l G)(y:Holds o G):Calls prog 167 #[v,hy m] o λr w=>(∃J:Int,r= .int .i64 J/\(0<=J↔m∈l))/\C o [] [] w:=by
 have c:Own [] o:=C.start o;obtain⟨k,u,rfl,H,F,t,_⟩:=Row.read z y;have s:∀e∈l,(cb.cs e).length=4:=λ_ _=>rfl
 refine a2 func167 ?_;refine bL 2 c j j (λd w c=>?_);have c:C o [] (R d m.cs.toArray 118::_) w:=c;refine cJ 8 j (ct:=Nat×Option Addr) (λi=>[(0,.slice k l.length u),(3,ab d),(7,.int .i64 (l.length:Nat)),(8,.int .i64 (i.1:Nat))]) (λi w=>i.1<=l.length/\m∉l.take i.1/\C o [] [R d m.cs.toArray 118] w) (λi=>l.length-i.1) (0,k) ⟨j,j,j,j,aX⟩ ⟨b4 _,by simp,c⟩ ?_;rintro⟨i,_⟩ w ⟨B,aJ,c⟩;dsimp only at B aJ c⊢;refine bm 4 j j (λp=>?_) (λp=>?_)
 .have g:i<l.length:=by have:=dz p;omega
  have c:C o [] ([R d m.cs.toArray 118]++_) _:=c.front;have c:=c.drew;refine bt 8 j (λw=>(∃ad,C o [] ([R d m.cs.toArray 118]++ad) w)) ⟨_,c⟩ ?_;refine aT 0 j (λw⟨_,c⟩=>c4 (U:=m.cs) j j j (bn (C.aj (b:=d) c))) ?_;refine af 1 2 j ?_
  obtain⟨q,x⟩:∃q,k=some q:=by
   obtain⟨a,A,_⟩:=t (i*4+0) _ (h8 (f:=cb.cs) (J:=0) l s i g (by decide) j);exact⟨a,A⟩
  subst x;refine aT 3 j (λw _=>rp j j g) ?_;refine aT 4 j (λw⟨_,c⟩=>c4 (U:=l[i].cs) j j j (i0 (f:=cb.cs) (c.rd t (bT.of_nil _ _)) s i g)) ?_;refine aT 5 j (λw _=>pG j j (by kernel_rfl) (λw=>Ea m l[i] w)) ?_;refine bK ?_;refine bm 0 j j (λn=>?_) (λn=>?_)
  .refine aq 4 j j ?_;have he:m=l[i]:=dz n;refine⟨⟨_,j,?_⟩,c.bare⟩;constructor
   .intro _;rw [he];exact d9 g
   intro _;omega
  refine bq 2 j j j (cE i (by unfold maxLen at F;omega)) ?_;refine bI 1 j ?_;refine⟨(i+1,none),⟨j,j,j,j,aX⟩,⟨g,?_,c.as⟩,by dsimp only;omega⟩;dsimp only;rw [fr g,dv];have E:m≠l[i]:=dM n;simp [aJ,E]
 refine aq 4 j j ?_;have D:i=l.length:=by have:=dM p;omega
 refine⟨⟨-1,j,?_⟩,c.bare⟩;constructor
 .intro h;omega
 intro h;exact absurd h (EG D aJ)
theorem xH{o:World}{v:Value}{l:List cb}{G:List Chunk}{m:cb}(g:eH v l G)(f:Holds o G):Calls prog 105 #[v,hy m] o λr w=>r= .bool (decide (m∈l))/\C o [] [] w:=by
 have a:Own [] o:=C.start o;refine a2 func105 ?_;refine bL 2 a j j (λc w a=>?_);have a:C o [] (R c m.cs.toArray 118::_) w:=a;refine bM 4 (U:=m.cs) j j j (bn (C.aj (b:=c) a)) ?_;have i:=EM (m:=m) g (f.st a);refine bk 0 i j (λr w⟨⟨J,k,d⟩,aa⟩=>?_);subst k;have a:=a.aL aa;refine aq 2 j j ?_;refine⟨aG Value.bool ?_,a.bare⟩;by_cases h:m∈l
 .rw [je h];exact je (d.2 h)
 rw [e4 h];exact e4 (λe=>h (d.1 e))
theorem EW{o:World}{g:al}{bi:Nat}{c:kf}{m:cb}{v:aE}(A:o.heap[bi]? =some (.cells (uu g c).toArray 100 (0,0)))(y:g.at o)(z:g.ok)(l:v.ok):Calls prog 104 #[ab bi,hy m,.agg v.cs.toArray] o λr w=>r= .bool (lh g m v)/\C o [] [] w:=by
 have a:Own [] o:=C.start o;refine a2 func104 (bL 2 a j j (λe w a=>?_));have a:C o [] (R e m.cs.toArray 118::_) w:=a;refine bL 0 a j j (λd w a=>?_);have a:C o [] [R d v.cs.toArray 55,R e m.cs.toArray 118] w:=a;have a:C o [] ([R e m.cs.toArray 118,R d v.cs.toArray 55]++_) _:=a.front;have a:=a.drew;refine bt 2 j (λw=>∃ad,C o [] ([R e m.cs.toArray 118,R d v.cs.toArray 55]++ad) w) ⟨_,a⟩ (af 0 3 j (bR 3 j (λw⟨_,a⟩=>ax (a.cc A) j) (aT 4 j (λw⟨_,a⟩=>c4 (U:=m.cs) j j j (bn (C.aj (b:=e) a))) (af 5 1 j (a8 6 j a1 (v.eo l) (aO 7 11 j j ?_ ?_))))));have n:=sC (y.st a (al.off.nil g)) z (m:=m) (f:=v.f);refine bB j j j n (λw p=>?_);have a:=a.aL p;have a:C o [] ([R e m.cs.toArray 118,R d v.cs.toArray 55]++_) w:=a.front;refine an ⟨⟨_,a⟩,?_⟩;refine af 8 3 j (aR 11 j (ew a j j (λh w a=>?_)));have a:C o [] (R h l7.cs.toArray 55::_) w:=a;have a:C o [] ([R e m.cs.toArray 118,R d v.cs.toArray 55]++_) w:=a.front;refine an ⟨⟨_,a⟩,?_⟩;rotate_left
 refine ew a j j (λh w a=>?_);have a:C o [] (R h l7.cs.toArray 55::_) w:=a;have a:C o [] ([R e m.cs.toArray 118,R d v.cs.toArray 55]++_) w:=a.front;refine an ⟨⟨_,a⟩,?_⟩;refine aR 7 j ?_;have n:=sC (y.st a (al.off.nil g)) z (m:=m) (f:=v.f);refine bB j j j n (λw p=>?_);have a:=a.aL p;have a:C o [] ([R e m.cs.toArray 118,R d v.cs.toArray 55]++_) w:=a.front;refine an ⟨⟨_,a⟩,?_⟩;refine af 8 3 j ?_;rotate_left
 all_goals
  refine aR 12 j (c2 (a.bc h) j j j (by simpa using(dq g m v.f).one) (by rw [List.size_toArray];exact(dq g m v.f).len (i3 g m v.f)) bG (λw a=>?_));have a:=C.whole (U:=(dq g m v.f).cs) a (by rw [(dq g m v.f).len (i3 g m v.f)];rfl);have a:C o [] (R h (dq g m v.f).cs.toArray 55::_) w:=a;have a:C o [] ([R e m.cs.toArray 118,R d v.cs.toArray 55]++_) w:=a.front;refine an ⟨⟨_,a⟩,?_⟩;refine af 13 1 j (bK ?_);have a:C o [] ([R d v.cs.toArray 55,R h (dq g m v.f).cs.toArray 55]++_) _:=a.front;have a:=a.drew;refine bt 1 j (λw=>∃ad,C o [] ([R d v.cs.toArray 55,R h (dq g m v.f).cs.toArray 55]++ad) w) ⟨_,a⟩ (af 0 2 j (ef 21 j (λq=>?_) (λq=>?_)))
  .refine af 2 1 j (a8 3 j a1 v.gJ (af 4 1 j (a8 5 j a1 (dq g m v.f).gJ (af 6 3 j (ef 28 j (λt=>?_) (λt=>?_))))))
   .refine af 9 1 j (a8 10 j a1 v.aV (af 11 1 j (a8 12 j a1 (dq g m v.f).aV (af 13 3 j (ef 35 j (λeo=>?_) (λeo=>?_))))))
    .refine af 16 1 j (a8 17 j a1 v.dp (af 18 1 j (a8 19 j a1 (dq g m v.f).dp (af 20 3 j (ef 42 j (λu=>?_) (λu=>?_))))))
     .refine af 23 1 j (aT 24 j (λw⟨_,a⟩=>c4 (U:=au v.sum) j j (by rw [cL];exact l.1) (v.sZ l (C.aj (b:=d) a))) (af 25 1 j (aT 26 j (λw⟨_,a⟩=>c4 (U:=au (dq g m v.f).sum) j j (by rw [cL];exact(i3 g m v.f).1) ((dq g m v.f).sZ (i3 g m v.f) (C.aj (b:=h) a))) (aT 27 j (λw _=>pG j j (by kernel_rfl) (λw=>o4 v.sum (dq g m v.f).sum l.1 (i3 g m v.f).1 9998 w)) (af 28 2 j (ef 49 j (λx=>?_) (λx=>?_)))))))
      .refine af 30 3 j (bR 33 j (λw⟨_,a⟩=>ax (a.cc A) j) (aT 34 j (λw⟨_,a⟩=>c4 (U:=v.cs) j j (v.len l) (bn (C.aj (b:=d) a))) (aR 35 j ?_)));have n:=so (y.st a (al.off.nil g)) z l;refine bB j j j n (λw p=>?_);have a:=a.aL p;have a:C o [] ([R d v.cs.toArray 55,R h (dq g m v.f).cs.toArray 55]++_) w:=a.front;refine an ⟨⟨_,a⟩,?_⟩;refine af 36 2 j (bK (aq 0 j j (⟨aG Value.bool ?_,a.bare⟩)));unfold lh;rw [show m.ok=true from q,show(v.k==(dq g m v.f).k)=true from t,show(v.s==(dq g m v.f).s)=true from eo,show(v.v==(dq g m v.f).v)=true from u,show(v.sum==(dq g m v.f).sum)=true from x];simp
      refine af 30 8 j (bK (aq 0 j j (⟨aG Value.bool ?_,a.bare⟩)));unfold lh;have i:(v.sum==(dq g m v.f).sum)=false:=x;rw [i];simp
     refine af 23 15 j (bK (aq 0 j j (⟨aG Value.bool ?_,a.bare⟩)));unfold lh;have i:(v.v==(dq g m v.f).v)=false:=u;rw [i];simp
    refine af 16 22 j (bK (aq 0 j j (⟨aG Value.bool ?_,a.bare⟩)));unfold lh;have i:(v.s==(dq g m v.f).s)=false:=eo;rw [i];simp
   refine af 9 29 j (bK (aq 0 j j (⟨aG Value.bool ?_,a.bare⟩)));unfold lh;have i:(v.k==(dq g m v.f).k)=false:=t;rw [i];simp
  refine af 2 36 j (bK (aq 0 j j (⟨aG Value.bool ?_,a.bare⟩)));unfold lh;rw [show m.ok=false from q];rfl
theorem sw{o:World}{p:Option Addr}{m:List (Int×Value)}{t:List (Int×aE)}{H:List Chunk}(E:dI 277 o p m)(q:c7 jd m t H)(X:t.length<=100000):Calls prog 113 #[.pointer p] o λr w=>∃ag,et r (fQ t) ag/\C o [] [ag] w:=by
 have c:Own [] o:=C.start o;refine j2 func113 (b7 5 c j (λe w c=>?_));have c:C o [] [R e #[.slice none 0 0] 51,[]] w:=(C.empty c).f1;refine bk 4 (Cn (o:=w) (p:=p)) j (λr w⟨u,x,K,aa⟩=>?_);subst K;have F:=(E.st c).st aa;have c:=c.aL aa;have c:C o [] ([R u #[.pointer p] 167,[(x,.cells #[.func (.func 210) #[] #[]] 45 (0,0))]]++[R e #[.slice none 0 0] 51,[]]) w:=c
 refine j6 1 j (GY (by have W:=q.len;omega)) j (by have:=c.size;simpa using this) c j (λ_=>rfl) (by intro p s;simp at s;rcases s with rfl|rfl<;>rfl)
  (λpre ad=>∃v ag,ad=[R e #[v] 51,ag]/\et v (((dd t).take pre.length).map Prod.snd) ag) (λ_ _=>False) ⟨_,[],j,Row.nil 55 68⟩ (λL aK B=>F.st B) (λ_ _ _ _=>trivial) ?_ ?_ (λ_ _ h=>h.elim) (λ_ _ _ h=>h.elim)
 .rintro y pre ⟨O,ab⟩ P L ac A ⟨v,ag,rfl,i⟩ c;obtain⟨t1,t2,d,T,S,V,n,N,Y,G⟩:=q.oi A;obtain⟨rfl,rfl,g⟩:=G;have n:dd t=t1++(O,d)::t2:=n;have Z:((dd t).take pre.length).length<=100000:=by rw [g9,hQ];omega
  have J:(((dd t).take (pre.length+1)).map Prod.snd)=(((dd t).take pre.length).map Prod.snd)++[d]:=by
   rw [n,<-N,mg,p1,List.take_of_length_le (by omega)];simp
  have c:=C.gy c;refine b7 1 c j (λl w c=>b6 0 (c.bc l) j j j (by simpa using d.one) (by rw [List.size_toArray];exact d.len g) (λw c=>?_));have c:=C.whole (U:=d.cs) c (by rw [d.len g];rfl);have c:C _ _ [R l d.cs.toArray 55,R e #[v] 51,ag] w:=c.as;refine bD 0 j (⟨j,_,c,λL ae c=>?_⟩);have c:=C.gy c;refine ar 2 j (ax (C.aj (b:=e) c) j) (bM 0 (U:=d.cs) j j (d.len g) (bn (C.aj (b:=l) c)) (gi (U:=d.cs) c j j j (d.len g) (by decide) (by decide) (λz w c=>?_)));have aJ:=bn (C.aj (b:=z) c);refine dR (c.to ag) i j j (by decide) j j j (m:=1) (news:=d.cs) (d.len g) aJ (by have:=tq [d];simpa [vcs] using this) (by simp only [List.length_map];omega) (by unfold maxLen;simp only [List.length_map];omega) (λv1 f w k c=>?_)
  have k:et v1 ((((dd t).take pre.length).map Prod.snd)++[d]) f:=by
   show Row 55 68 v1 _ (vcs _) f;rw [b0,List.length_singleton,tr];exact k
  refine dF 0 (c.bc e) j j j (Row.one k) (λw c=>?_);have c:C _ _ (R e #[v1] 51::_) w:=c;have c:C _ _ [R e #[v1] 51,f] w:=c.as;refine bD 0 j (⟨[R e #[v1] 51,f],c,v1,f,j,?_⟩);rw [b0,List.length_singleton,J];exact k
 rintro xs Q w D ⟨v,ag,rfl,i⟩ c;rw [D,iB,q.len,h7 (by rw [hQ];exact cI _)] at i;have c:C o [] [R u #[.pointer p] 167,[(x,.cells #[.func (.func 210) #[] #[]] 45 (0,0))],R e #[v] 51,ag] w:=c;refine ar 2 j (ax (C.aj (b:=e) c) j) (bD 1 j ⟨v,λw M=>?_⟩);have c:=M.st c (cI _);refine⟨λa I=>i8 (fn:=f113) I j _ _,?_⟩;exact⟨ag,i,c.as⟩
theorem DS{o:World}{g:al}{bi:Nat}{b:cR}{c:kf}{L:List Chunk}{m:cb}(u:kG c.be b.log L)(v:b.log.ck.length<=1000000)(a:Own [cl g bi c,L] o):Calls prog 170 #[ab bi,hy m] o λr w=>r=ae (b.b3 m).2/\∃h,kG c.be (b.b3 m).1.log h/\C o (av [cl g bi c,L]) [cl g bi c,h] w:=by
 obtain⟨d,s⟩:∃d,d=av [cl g bi c,L]:=⟨_,j⟩;rw [<-s];have a:C o d [cl g bi c,L] o:=s▸a;refine a2 func170 (bL 2 a j j (λf w a=>?_));have a:C o d [R f m.cs.toArray 118,cl g bi c,L] w:=a;refine ar 5 j (ax (C.aj (b:=f) a) j) (bm 1 j j (λdB=>?_) (λdB=>?_))
 .have a:C o d ([R f m.cs.toArray 118,cl g bi c]++_) _:=a.front;have a:=a.drew;refine bt 1 j (λw=>∃ad,C o d ([R f m.cs.toArray 118,cl g bi c]++ad) w) ⟨_,a⟩ (af 0 3 j (a8 3 j a1 j (af 4 1 j (a8 5 j a1 j (af 6 1 j (a8 7 j a1 j (aR 8 j ?_)))))));have l:=Fk (p:=m.p) (e:=m.e) u (a.ours (cC:=[L]));refine bB j j j l (λw⟨h,i,q⟩=>?_);have a:=a.b2 q;have a:C o d ([R f m.cs.toArray 118,cl g bi c]++_) w:=a.front;refine an ⟨⟨_,a⟩,?_⟩;refine af 9 1 j (bK (aq 0 j j ?_));have n:b.b3 m=({b with log:=(b.log.kQ m.p m.e).1},(b.log.kQ m.p m.e).2):=a6 (d5.1 dB);rw [n];exact⟨j,h,i,a.as⟩
 have a:C o d ([R f m.cs.toArray 118,cl g bi c]++_) _:=a.front;have a:=a.drew;refine bt 2 j (λw=>∃ad,C o d ([R f m.cs.toArray 118,cl g bi c]++ad) w) ⟨_,a⟩ (af 0 3 j (a8 3 j a1 j (af 4 1 j (a8 5 j a1 j (af 6 1 j (a8 7 j a1 j (af 8 1 j (a8 9 j a1 j (af 10 1 j (a8 11 j a1 j (af 12 1 j (aR 13 j ?_))))))))))));have l:=D3 (p:=m.p) (e:=m.e) (t:=m.t) (dT:=m.k==2) u v (a.ours (cC:=[L]));refine bB j j j l (λw⟨h,i,q⟩=>?_);have a:=a.b2 q;have a:C o d ([R f m.cs.toArray 118,cl g bi c]++_) w:=a.front;refine an ⟨⟨_,a⟩,?_⟩;refine af 14 1 j (bK (aq 0 j j ?_));have n:b.b3 m=({b with log:=(b.log.end_ m.p m.e m.t (m.k==2)).1},(b.log.end_ m.p m.e m.t (m.k==2)).2):=aI (by simpa using dB);rw [n];exact⟨j,h,i,a.as⟩
theorem cR.xX(b:cR)(m:cb):(b.b3 m).1.acc=b.acc/\(b.b3 m).1.aH=b.aH:=by unfold cR.b3;split<;>exact⟨j,j⟩
theorem qr{o w:World}{F:List Nat}{ad:List (List Chunk)}{a:Nat}{e:TypeId}{m:cb}{u:Value}(b:C o F ([(a,.cells (m.cs++[u]).toArray e (0,0))]::ad) w):Rd w (some ⟨a,0,none⟩) m.cs:=b.ij (off:=0) (U:=m.cs) (λJ v c=>by rw [fj];exact r8 c)
theorem wW{o:World}{g:al}{bi:Nat}{b:cR}{G:List Chunk}{m:cb}{B:Option Addr}{l:List aE}{d:Nat}(N:jS g bi b G)(Y:b.log.ck.length<=1000000)(aw:b.acc.length<=1000000)(X:g.at o)(ag:g.ok)(Q:g.off (av [G]))(ao:Rd o B (l.flatMap aE.cs))(O:bT B (l.flatMap aE.cs) (av [G]))(au:∀x∈l,x.ok)(W:l.length<=d)(Z:l.length<=1000)(a:Own [G] o):Calls prog 116 #[ab bi,.agg (m.cs++[Value.slice B l.length d]).toArray] o λr w=>r=ae (b.accept g m l).2/\∃ai,jS g bi (b.accept g m l).1 ai/\C o (av [G]) [ai] w:=by
 have I:=N;obtain⟨c,L,M,V,t,rfl⟩:=N;obtain⟨e,J⟩:∃e,e=av [cl g bi c++(L++(M++V))]:=⟨_,j⟩;rw [<-J] at Q O⊢;have a:C o e [cl g bi c++(L++(M++V))] o:=J▸a;have a:=a.vQ;refine a2 func116 (bL 2 a j j (λf w a=>?_));have a:C o e [R f (m.cs++[Value.slice B l.length d]).toArray 127,cl g bi c,L,M,V] w:=a;refine am 8 j (bS 9 (.bool false) j (aG Value.bool (j)) ?_);refine bM 1 (U:=m.cs) j j j ((a.bc f)|>qr) (bp 0 (yK (m:=m)) j (λw i=>?_));have a:=a.aL i;refine bm 3 j j (λeU=>?_) (λeU=>?_)
 .refine aq 3 j j ?_
  have p:b.accept g m l=(b,1):=by
   unfold cR.accept;exact a6 (by simpa using eU)
  rw [p];have a:C o e [cl g bi c,L,M,V] w:=a.as;exact⟨j,_,I,a.li⟩
 have a:C o e ([R f (m.cs++[Value.slice B l.length d]).toArray 127,cl g bi c]++_) _:=a.front;have a:=a.drew;refine bt 1 j (λw=>∃ad,C o e ([R f (m.cs++[Value.slice B l.length d]).toArray 127,cl g bi c]++ad) w) ⟨_,a⟩ (af 0 3 j (a8 3 j a1 j (aT 4 j (λw⟨_,a⟩=>c4 (U:=(m.cs++[Value.slice B l.length d])) j j j (bn (C.aj (b:=f) a))) (aR 5 j ?_))));have s:=uf (m:=m) (d:=d) ag au W Z (⟨X.st a Q,a.rd ao O,al.off.nil g,bT.of_nil _ _⟩:Ext g B (l.flatMap aE.cs) [] _);refine bB j j j s (λw i=>?_);have a:=a.aL i;have a:C o e ([R f (m.cs++[Value.slice B l.length d]).toArray 127,cl g bi c]++_) w:=a.front;refine an ⟨⟨_,a⟩,?_⟩;refine af 6 2 j (bK (bm 0 j j (λy=>?_) (λy=>?_)))
 .refine aq 3 j j ?_
  have p:b.accept g m l=(b,9):=by
   unfold cR.accept;exact(aI (by simpa using eU)).trans (if_pos (by simpa using y))
  rw [p];have a:C o e [cl g bi c,L,M,V] w:=a.as;exact⟨j,_,I,a.li⟩
 have a:C o e ([R f (m.cs++[Value.slice B l.length d]).toArray 127,cl g bi c]++_) _:=a.front;have a:=a.drew;refine bt 1 j (λw=>∃ad,C o e ([R f (m.cs++[Value.slice B l.length d]).toArray 127,cl g bi c]++ad) w) ⟨_,a⟩ (af 0 3 j (a8 3 j a1 j (af 4 1 j (aT 5 j (λw⟨_,a⟩=>c4 (U:=m.cs) j j j ((a.bc f)|>qr)) (aR 6 j ?_)))));have s:=xH (m:=m) t.acc (a.holds (G:=M) (by simp));refine bB j j j s (λw i=>?_);have a:=a.aL i;have a:C o e ([R f (m.cs++[Value.slice B l.length d]).toArray 127,cl g bi c]++_) w:=a.front;refine an ⟨⟨_,a⟩,?_⟩;refine af 7 1 j (bK (b8 0 j j (λD=>?_) (λD=>?_)))
 .refine aq 3 j j ?_
  have p:b.accept g m l=(b,0):=by
   unfold cR.accept;exact(aI (by simpa using eU)).trans ((if_neg (by simpa using y)).trans (if_pos D))
  rw [p];have a:C o e [cl g bi c,L,M,V] w:=a.as;exact⟨j,_,I,a.li⟩
 refine bM 6 (U:=m.cs) j j j ((a.bc f)|>qr) ?_;have s:=DS (g:=g) (bi:=bi) (m:=m) t.log Y a.ours;refine bp 0 s j (λw⟨h,K,i⟩=>?_);have a:=a.b2 i;have a:C o e [R f (m.cs++[Value.slice B l.length d]).toArray 127,cl g bi c,h,M,V] w:=a.as;refine bm 5 j j (λF=>?_) (λF=>?_)
 .refine aq 4 j j ?_
  have p:b.accept g m l=b.b3 m:=by
   unfold cR.accept;exact(aI (by simpa using eU)).trans ((if_neg (by simpa using y)).trans ((if_neg D).trans (if_pos (by simpa using F))))
  rw [p];have a:C o e [cl g bi c,h,M,V] w:=a.as;exact⟨j,_,⟨c,h,M,V,⟨K,by rw [(b.xX m).1];exact t.acc,by rw [(b.xX m).2];exact t.aH⟩,j⟩,a.li⟩
 have a:C o e ([R f (m.cs++[Value.slice B l.length d]).toArray 127,cl g bi c]++_) _:=a.front;have a:=a.drew;refine bt 2 j (λw=>∃ad,C o e ([R f (m.cs++[Value.slice B l.length d]).toArray 127,cl g bi c]++ad) w) ⟨_,a⟩ (af 0 4 j (a8 4 j a1 j (af 5 1 j (aT 6 j (λw⟨_,a⟩=>c4 (U:=m.cs) j j j ((a.bc f)|>qr)) (aR 7 j (gi (U:=m.cs) a j j j j bG bG (λT w a=>?_)))))));have aJ:=bn (C.aj (b:=T) a);have a:C o e ([R f (m.cs++[Value.slice B l.length d]).toArray 127,cl g bi c]++_) w:=a.front;refine an ⟨⟨_,a⟩,?_⟩;refine aR 8 j (dR (a.to M) t.acc j j (by decide) j j j (m:=1) (news:=m.cs) j aJ (by intro u hu;exact pg [m] u (by simpa using hu)) (by omega) (by unfold maxLen;omega) (λv1 n w E a=>?_))
 have E:eH v1 (b.acc++[m]) n:=by
  unfold eH;rw [b0,List.flatMap_append];simpa using E
 have a:C o e ([R f (m.cs++[Value.slice B l.length d]).toArray 127,cl g bi c]++_) w:=a.front;refine an ⟨⟨_,a⟩,?_⟩;refine af 9 2 j (dA 11 j (cB (a.bc bi) j j j E.one bG (λw a=>?_)));have a:C o e (cl g bi ({c with acc:=v1})::_) w:=a;have a:C o e [R f (m.cs++[Value.slice B l.length d]).toArray 127,cl g bi ({c with acc:=v1}),h,n,V] w:=a.as;refine an (cU ?_);obtain⟨q,ah,bZ,ax,H,P,ac,ar,rfl⟩:=t.aH;have a:C o e [R f (m.cs++[Value.slice B l.length d]).toArray 127,cl g bi ({c with acc:=v1}),h,n,ay 240 q ah bZ,H] _:=C.perm (A:=[R f (m.cs++[Value.slice B l.length d]).toArray 127,cl g bi ({c with acc:=v1}),h,n,ay 240 q ah bZ++H]) a.as (by simp);have a:=a.drew;refine bt 1 j (λw=>∃ad,C o e ([R f (m.cs++[Value.slice B l.length d]).toArray 127,cl g bi ({c with acc:=v1})]++ad) w) ⟨_,a⟩ (af 0 3 j (a8 3 j a1 (aG some P) (af 4 1 j (aT 5 j (λw⟨_,a⟩=>c4 (U:=m.cs) j j j ((a.bc f)|>qr)) (aR 6 j (bB j j j (qK (m:=m)) (λw i=>?_)))))));have a:=a.aL i;have a:C o e ([R f (m.cs++[Value.slice B l.length d]).toArray 127,cl g bi ({c with acc:=v1})]++_) w:=a.front;refine an ⟨⟨_,a⟩,?_⟩;refine aR 7 j ?_;have s:=uJ (k:=ey m) (a.ours (cC:=[ay 240 q ah bZ])) ac;refine bB j j j s (λw⟨v,aa,i⟩=>?_);have a:=a.b2 i;have a:C o e [R f (m.cs++[Value.slice B l.length d]).toArray 127,cl g bi ({c with acc:=v1}),h,n,ay 240 q ah v,H] w:=a.as;refine an ⟨⟨_,a⟩,?_⟩;refine bK (aq 3 j j ?_)
 have p:b.accept g m l=({(b.b3 m).1 with acc:=b.acc++[m],aH:=fY b.aH (ey m)},0):=by
  unfold cR.accept;exact(aI (by simpa using eU)).trans ((if_neg (by simpa using y)).trans ((if_neg D).trans (if_neg (by simpa using F))))
 rw [p];obtain⟨z,S,ap,ak⟩:=ar.del (k:=ey m);have a:C o e [cl g bi ({c with acc:=v1}),h,n,ay 240 q ah v,H] w:=a.as
 have a:C o e [cl g bi ({c with acc:=v1}),h,n,ay 240 q ah v,S,z] w:=a.perm (by
  simp only [km,m2,hc];exact .append_left _ (.append_left _ (.append_left _ (.append_left _ ak))))
 exact⟨j,_,⟨{c with acc:=v1},h,n,ay 240 q ah v++z,⟨K,E,⟨q,ah,v,_,z,P,aa,ap,j⟩⟩,j⟩,C.perm (A:=[cl g bi ({c with acc:=v1}),h,n,ay 240 q ah v,z]) a.as (by simp)⟩
theorem jd.all{m:List (Int×Value)}:∀{t:List (Int×aE)}{H:List Chunk},c7 jd m t H->∀q∈t,q.2.ok:=by
 induction m with
 |nil=>intro t H h;cases t with|nil=>intro q d;cases d|cons _ _=>exact h.elim
 |cons p m e=>
  intro t H h;cases t with
  |nil=>exact h.elim
  |cons q t=>
   obtain⟨_,_,_,_,b,c⟩:=h;intro x a;rcases g1.1 a with rfl|a
   .exact b.2.2
   .exact e c x a
theorem sv{t:List (Int×aE)}(h:∀q∈t,q.2.ok):∀x∈fQ t,x.ok:=λx b=>by
 obtain⟨q,a,rfl⟩:=dV.1 b;exact h q (g0.1 a)
theorem su(t:List (Int×aE)):(fQ t).length=t.length:=by unfold fQ;rw [List.length_map,List.length_mergeSort]
theorem rZ(l:List (Int×aE))(v:aE):(iV l v).length<=l.length+1:=by
 unfold iV;split
 .omega
 .exact my _ _ _
theorem A3{o:World}{g:al}{bi:Nat}{b:cR}{G:List Chunk}{m:cb}{v:aE}(bP:jS g bi b G)(bU:b.log.ck.length<=1000000)(bQ:b.acc.length<=1000000)(bW:∀p∈b.aH,p.2.length<=100)(aW:g.at o)(a5:g.ok)(aP:g.off (av [G]))(Z:v.ok)(e:Own [G] o):Calls prog 54 #[ab bi,hy m,.agg v.cs.toArray] o λr w=>r=ae (b.dk g m v).2/\∃ai,jS g bi (b.dk g m v).1 ai/\C o (av [G]) [ai] w:=by
 have bb:=bP;obtain⟨c,L,M,V,ao,rfl⟩:=bP;obtain⟨i,bO⟩:∃i,i=av [cl g bi c++(L++(M++V))]:=⟨_,j⟩;rw [<-bO] at aP⊢;have e:C o i [cl g bi c++(L++(M++V))] o:=bO▸e;have e:=e.vQ;refine a2 func54 (bL 2 e j j (λn w e=>?_));have e:C o i (R n m.cs.toArray 118::_) w:=e;refine bL 0 e j j (λN w e=>?_);have e:C o i [R N v.cs.toArray 55,R n m.cs.toArray 118,cl g bi c,L,M,V] w:=e;refine am 8 j (bS 15 (.bool false) j (aG Value.bool (j)) ?_);refine bM 0 (U:=m.cs) j j j (bn (C.aj (b:=n) e)) (bp 0 (yK (m:=m)) j (λw t=>?_));have e:=e.aL t;refine bm 3 j j (λaw=>?_) (λaw=>?_)
 .refine aq 3 j j ?_
  have W:b.dk g m v=(b,1):=by
   unfold cR.dk;exact a6 (by simpa using aw)
  rw [W];have e:C o i [cl g bi c,L,M,V] w:=e.as;exact⟨j,_,bb,e.li⟩
 refine bM 3 (U:=m.cs) j j j (bn (C.aj (b:=n) e)) (bM 0 (U:=v.cs) j j (v.len Z) (bn (C.aj (b:=N) e)) (bp 0 (EW (c:=c) (m:=m) (v:=v) (C.aj (b:=bi) e) (aW.st e aP) a5 Z) j (λw t=>?_)));have e:=e.aL t;refine bm 2 j j (λaM=>?_) (λaM=>?_)
 .refine aq 3 j j ?_
  have W:b.dk g m v=(b,9):=by
   unfold cR.dk;exact(aI (by simpa using aw)).trans (if_pos (by simpa using aM))
  rw [W];have e:C o i [cl g bi c,L,M,V] w:=e.as;exact⟨j,_,bb,e.li⟩
 have e:C o i ([R n m.cs.toArray 118,cl g bi c]++_) _:=e.front;have e:=e.drew;refine bt 1 j (λw=>∃ad,C o i ([R n m.cs.toArray 118,cl g bi c]++ad) w) ⟨_,e⟩ (af 0 3 j (a8 3 j a1 j (aT 4 j (λw⟨_,e⟩=>c4 (U:=m.cs) j j j (bn (C.aj (b:=n) e))) (aR 5 j ?_))));have z:=xH (m:=m) ao.acc (e.holds (G:=M) (by simp));refine bB j j j z (λw t=>?_);have e:=e.aL t;have e:C o i ([R n m.cs.toArray 118,cl g bi c]++_) w:=e.front;refine an ⟨⟨_,e⟩,?_⟩;refine af 6 1 j (bK (b8 0 j j (λaQ=>?_) (λaQ=>?_)))
 .refine aq 3 j j ?_
  have W:b.dk g m v=(b,0):=by
   unfold cR.dk;exact(aI (by simpa using aw)).trans ((if_neg (by simpa using aM)).trans (if_pos aQ))
  rw [W];have e:C o i [cl g bi c,L,M,V] w:=e.as;exact⟨j,_,bb,e.li⟩
 obtain⟨x,ah,bZ,bJ,H,aB,bd,ap,rfl⟩:=ao.aH;have e:C o i [R n m.cs.toArray 118,cl g bi c,R N v.cs.toArray 55,L,M,ay 240 x ah bZ,H] _:=C.perm (A:=[R n m.cs.toArray 118,cl g bi c,R N v.cs.toArray 55,L,M,ay 240 x ah bZ++H]) e.as (by simp);have e:=e.drew;refine bt 2 j (λw=>∃ad,C o i ([R n m.cs.toArray 118,cl g bi c]++ad) w) ⟨_,e⟩ (af 0 3 j (a8 3 j a1 (aG some aB) (aT 4 j (λw⟨_,e⟩=>c4 (U:=m.cs) j j j (bn (C.aj (b:=n) e))) (aR 5 j (bB j j j (qK (m:=m)) (λw t=>?_))))));have e:=e.aL t;have e:C o i ([R n m.cs.toArray 118,cl g bi c]++_) w:=e.front;refine an ⟨⟨_,e⟩,?_⟩;refine aR 6 j ?_;have z:=yv (k:=ey m) (dI.own (e.to (ay 240 x ah bZ)) bd);refine bB j j j z (λw t=>?_);have e:=e.aL t;have e:C o i ([R n m.cs.toArray 118,cl g bi c]++_) w:=e.front;refine an ⟨⟨_,e⟩,?_⟩;refine af 7 5 j (bK (bm 5 j j (λaN=>?_) (λaN=>?_)))
 .refine ar 6 j (ax (C.aj (b:=bi) e) (aG some aB)) ?_;have z:=Fq (dI.own (e.to (ay 240 x ah bZ)) bd);refine bp 0 z j (λw t=>?_);have e:=e.aL t;refine b8 1 j j (λba=>?_) (λba=>?_)
  .refine aq 3 j j ?_
   have W:b.dk g m v=(b,3):=by
    unfold cR.dk;refine(aI (by simpa using aw)).trans ((if_neg (by simpa using aM)).trans ((if_neg aQ).trans ?_));exact a6 ⟨(ap.isSome (ey m)).symm.trans (by simpa using aN),by have:=ba;have:=ap.len;omega⟩
   rw [W];exact⟨j,_,bb,C.perm (A:=[cl g bi c,L,M,ay 240 x ah bZ,H]) e.as (by simp)⟩
  refine bk 3 F5 j (λr w⟨be,bX,aD,b9,t⟩=>?_);subst aD;have e:=e.aL t;have e:C o i ([R n m.cs.toArray 118,cl g bi c]++_) _:=e.front;have e:=e.drew;refine bt 1 j (λw=>∃ad,C o i ([R n m.cs.toArray 118,cl g bi c]++ad) w) ⟨_,e⟩ (af 0 3 j (a8 3 j a1 (aG some aB) (aT 4 j (λw⟨_,e⟩=>c4 (U:=m.cs) j j j (bn (C.aj (b:=n) e))) (af 6 1 j (aR 5 j (bB j j j (qK (m:=m)) (λw t=>?_)))))));have e:=e.aL t;have e:C o i ([R n m.cs.toArray 118,cl g bi c]++_) w:=e.front;refine an ⟨⟨_,e⟩,?_⟩;refine aR 7 j ?_;have z:=HG (k:=ey m) (v:=ab be) (e.ours (cC:=[ay 240 x ah bZ])) bd;refine bB j j j z (λw⟨b0,b6,t⟩=>?_);have e:=e.b2 t;have e:C o i ([R n m.cs.toArray 118,cl g bi c]++_) w:=e.front;refine an ⟨⟨_,e⟩,?_⟩;refine bK ?_
  obtain⟨F,aF,H1,u,y,Q,iL,T,E,K,a4,aC,Y,aX,a0,e,bD⟩:∃(F:Obj)(aF:List (Int×Value))(H1:List Chunk)(u y:Nat)(Q:Obj)(iL:List (Int×Value))(T E:List Chunk)(K:List (Int×aE)),cg bN F aF/\cg bN Q iL/\c7 jd iL K T/\(aZ b.aH (ey m)).getD []=K/\(∀bY aK,pW (ab u) bY aK->c7 pW aF (cj b.aH (ey m) bY) (H1++(aK++E)))/\C o i [R n m.cs.toArray 118,R N v.cs.toArray 55,cl g bi c,L,M,ay 240 x ah F,H1,ay 277 u y Q,T,E] w/\Value.pointer (some ⟨be,0,none⟩)=ab u:=by
   have bV:aZ b.aH (ey m)=none:=mx ((ap.isSome (ey m)).symm.trans (by simpa using aN));refine⟨b0,_,H,be,bX,.map #[] 0,[],[],[],[],b6,b9,j,by rw [bV];rfl,λbY aK bA=>?_,?_,j⟩
   .have:=ap.add bV bA;rw [hc];exact this
   .exact C.perm (A:=[R n m.cs.toArray 118,R N v.cs.toArray 55,cl g bi c,L,M,ay 240 x ah b0,H,ay 277 be bX (.map #[] 0)]) e.as (by simp)
  refine am 3 j (bS 7 (ab u) j bD ?_);have a7:∀q∈iL,gD 68 q.2:=Y.wide (λv a G h=>by rw [h.1];exact⟨a.cs,j,a.len h.2.2,a.one⟩);obtain⟨ca,bF,bH,bI⟩:=gD.get wr a7 v.f
  have b5:K.length<=100:=by
   rw [<-aX];cases bw:aZ b.aH (ey m) with
   |none=>exact b4 _
   |some dC=>exact bW _ (hS bw)
  refine ar 2 j (ax (C.aj (b:=N) e) (v.eo Z)) ?_;have z:=yw (k:=v.f) a7 (dI.own (e.to (ay 277 u y Q)) aC);refine bk 0 z j (λr w⟨aD,t⟩=>?_);rw [bF] at aD;subst aD;have e:=e.aL t;refine b7 3 e j (λbg w e=>c2 (e.bc bg) j j j bI bH (by decide) (λw e=>?_));have e:C o i [R n m.cs.toArray 118,R N v.cs.toArray 55,cl g bi c,L,M,ay 240 x ah F,H1,ay 277 u y Q,T,E] w:=e.as;refine bm 5 j j (λaS=>?_) (λaS=>?_);refine ar 3 j (ax (C.aj (b:=N) e) (v.eo Z)) (bM 0 (U:=v.cs) j j (v.len Z) (bn (C.aj (b:=N) e)) ?_);have z:=AA (k:=v.f) (v.len Z) v.one (e.ours (cC:=[ay 277 u y Q])) aC;refine bp 0 z j (λw⟨a9,bu,t⟩=>?_);have e:=e.b2 t
  obtain⟨B,P,D,s,ag,X,ac,e⟩:∃(B:Obj)(P:List (Int×Value))(D:List Chunk)(s:List (Int×aE)),cg bN B P/\c7 jd P s D/\iV K v=s/\C o i [R n m.cs.toArray 118,R N v.cs.toArray 55,cl g bi c,L,M,ay 240 x ah F,H1,ay 277 u y B,D,E] w:=by
   have aJ:aZ K v.f=none:=mx ((Y.isSome v.f).symm.trans (by simpa using aS));exact⟨a9,_,_,_,bu,Y.add aJ (show jd (.agg v.cs.toArray) v [] from⟨j,j,Z⟩),by unfold iV;rw [if_neg (by rw [aJ];decide)],C.perm (A:=[R n m.cs.toArray 118,R N v.cs.toArray 55,cl g bi c,L,M,ay 240 x ah F,H1,ay 277 u y a9,T,E]) e.as (by simp)⟩
  have br:s.length<=101:=by rw [<-ac];have:=rZ K v;omega
  have aY:=jd.all X;have e:C o i ([R n m.cs.toArray 118]++_) _:=e.front;have e:=e.drew;refine bt 2 j (λw=>∃ad,C o i ([R n m.cs.toArray 118]++ad) w) ⟨_,e⟩ ?_;rotate_left
  obtain⟨B,P,D,s,ag,X,ac,e⟩:∃(B:Obj)(P:List (Int×Value))(D:List Chunk)(s:List (Int×aE)),cg bN B P/\c7 jd P s D/\iV K v=s/\C o i [R n m.cs.toArray 118,R N v.cs.toArray 55,cl g bi c,L,M,ay 240 x ah F,H1,ay 277 u y B,D,E] w:=by
   have bE:(aZ K v.f).isSome=true:=(Y.isSome v.f).symm.trans (by simpa using aS);exact⟨Q,iL,T,K,aC,Y,by unfold iV;rw [if_pos bE],e.as⟩
  have br:s.length<=101:=by rw [<-ac];have:=rZ K v;omega
  have aY:=jd.all X;have e:C o i ([R n m.cs.toArray 118]++_) _:=e.front;have e:=e.drew;refine bt 3 j (λw=>∃ad,C o i ([R n m.cs.toArray 118]++ad) w) ⟨_,e⟩ ?_;rotate_left
  all_goals
   refine aT 0 j (λw⟨_,e⟩=>c4 (U:=m.cs) j j j (bn (C.aj (b:=n) e))) (af 1 1 j (aO 2 4 j j ?_ ?_));have z:=sw (dI.own (e.to (ay 277 u y B)) ag) X (by omega);refine cO j j j z (λr w⟨O,aa,t⟩=>?_);obtain⟨J,I,rfl,aV,_⟩:=Row.form aa;have e:=e.aL t;have e:C o i ([R n m.cs.toArray 118]++_) w:=e.front;refine an ⟨⟨_,e⟩,?_⟩;refine aT 3 j (λw _=>e3 (c:=(m.cs++[Value.slice J (fQ s).length I]).toArray) j (λ_=>by kernel_rfl)) (aR 4 j (ew e j j (λS w e=>?_)));have e:C o i ([R n m.cs.toArray 118]++_) w:=e.front;refine an ⟨⟨_,e⟩,?_⟩;rotate_left
   refine ew e j j (λS w e=>?_);have e:C o i ([R n m.cs.toArray 118]++_) w:=e.front;refine an ⟨⟨_,e⟩,?_⟩;refine aR 2 j ?_;have z:=sw (dI.own (e.to (ay 277 u y B)) ag) X (by omega);refine cO j j j z (λr w⟨O,aa,t⟩=>?_);obtain⟨J,I,rfl,aV,_⟩:=Row.form aa;have e:=e.aL t;have e:C o i ([R n m.cs.toArray 118]++_) w:=e.front;refine an ⟨⟨_,e⟩,?_⟩;refine aT 3 j (λw _=>e3 (c:=(m.cs++[Value.slice J (fQ s).length I]).toArray) j (λ_=>by kernel_rfl)) ?_;rotate_left
   all_goals
    refine dA 5 j (c2 (e.bc S) j j j j j bG (λw e=>?_));have e:=C.whole (U:=(m.cs++[Value.slice J (fQ s).length I])) e j;have e:C o i [R S (m.cs++[Value.slice J (fQ s).length I]).toArray 127,R n m.cs.toArray 118,cl g bi c,L,M,ay 240 x ah F,H1,ay 277 u y B,D,E,O] w:=e.as;refine an (cU ?_);have e:C o i ([R S (m.cs++[Value.slice J (fQ s).length I]).toArray 127,cl g bi c]++_) _:=e.front;have e:=e.drew;refine bt 1 j (λw=>∃ad,C o i ([R S (m.cs++[Value.slice J (fQ s).length I]).toArray 127,cl g bi c]++ad) w) ⟨_,e⟩ (af 0 3 j (a8 3 j a1 j (aT 4 j (λw⟨_,e⟩=>c4 (U:=(m.cs++[Value.slice J (fQ s).length I])) j j j (bn (C.aj (b:=S) e))) (aR 5 j ?_))));obtain⟨_,_,bh,_,_,bx,_⟩:=Row.read aa (e.holds (G:=O) (by simp));cases bh;have z:=uf (m:=m) (l:=fQ s) (d:=I) a5 (sv aY) aV (by rw [su];omega) (⟨aW.st e aP,bx,al.off.nil g,bT.of_nil _ _⟩:Ext g J ((fQ s).flatMap aE.cs) [] _);refine bB j j j z (λw t=>?_);have e:=e.aL t;have e:C o i ([R S (m.cs++[Value.slice J (fQ s).length I]).toArray 127,cl g bi c]++_) w:=e.front;refine an ⟨⟨_,e⟩,?_⟩;refine bK (bm 0 j j (λaU=>?_) (λaU=>?_))
    .have e:C o i ([R n m.cs.toArray 118,cl g bi c]++_) _:=e.front;have e:=e.drew;refine bt 1 j (λw=>∃ad,C o i ([R n m.cs.toArray 118,cl g bi c]++ad) w) ⟨_,e⟩ (af 0 3 j (a8 3 j a1 (aG some aB) (aT 4 j (λw⟨_,e⟩=>c4 (U:=m.cs) j j j (bn (C.aj (b:=n) e))) (aR 5 j (bB j j j (qK (m:=m)) (λw t=>?_))))));have e:=e.aL t;have e:C o i ([R n m.cs.toArray 118,cl g bi c]++_) w:=e.front;refine an ⟨⟨_,e⟩,?_⟩;refine aR 6 j ?_;have z:=uJ (k:=ey m) (e.ours (cC:=[ay 240 x ah F])) a4;refine bB j j j z (λw⟨ak,bs,t⟩=>?_);have e:=e.b2 t;have e:C o i ([R n m.cs.toArray 118,cl g bi c]++_) w:=e.front;refine an ⟨⟨_,e⟩,?_⟩;refine bK (bM 2 (U:=(m.cs++[Value.slice J (fQ s).length I])) j j j (bn (C.aj (b:=S) e)) ?_);obtain⟨au,bf,bC,bv⟩:=c7.del (k:=ey m) (a0 s (ay 277 u y B++D) ⟨u,y,B,P,D,j,ag,X,j⟩);obtain⟨aO,az⟩:∃aO,aO=({b with aH:=fY (cj b.aH (ey m) s) (ey m)}:cR):=⟨_,j⟩
     obtain⟨aA,bo,e⟩:∃aA,jS g bi aO aA/\C o i [aA,O] w:=by
      have e:C o i [cl g bi c,L,M,ay 240 x ah ak,O,H1,ay 277 u y B,D,E] w:=e.as
      have e:C o i [cl g bi c,L,M,ay 240 x ah ak,O,bf,au] w:=e.perm (by
       simp only [km,m2,hc];refine .append_left _ (.append_left _ (.append_left _ (.append_left _ (.append_left _ ?_))));simpa using bv)
      have e:C o i [cl g bi c,L,M,ay 240 x ah ak++au,O] w:=C.perm (A:=[cl g bi c,L,M,ay 240 x ah ak,au,O]) e.as (by simp);rw [az];exact⟨_,⟨c,L,M,_,⟨ao.log,ao.acc,⟨x,ah,ak,_,au,aB,bs,bC,j⟩⟩,j⟩,e.li⟩
     obtain⟨_,_,bj,_,_,bz,bq⟩:=Row.rd aa (e.to O);cases bj;have z:=wW (m:=m) (l:=fQ s) (d:=I) bo (by rw [az];exact bU) (by rw [az];exact bQ) (aW.st e aP) a5 (e.eF aW aP) bz (C.qm bq) (sv aY) aV (by rw [su];omega) e.ours;refine bk 0 z j (λr w⟨aD,ai,bl,t⟩=>?_);have e:=e.b2 t;refine aq 3 j j ?_
     have W:b.dk g m v=((cR.accept g aO m (fQ s)).1,0):=by
      unfold cR.dk;refine(aI (by simpa using aw)).trans ((if_neg (by simpa using aM)).trans ((if_neg aQ).trans ?_));refine(aI (λh=>absurd h.2 (by have:=ba;have:=ap.len;omega))).trans ?_;rw [aX,ac,az];exact a6 aU
     rw [W];exact⟨j,ai,bl,e.as⟩
    refine aq 4 j j ?_
    have W:b.dk g m v=({b with aH:=cj b.aH (ey m) s},0):=by
     unfold cR.dk;refine(aI (by simpa using aw)).trans ((if_neg (by simpa using aM)).trans ((if_neg aQ).trans ?_));refine(aI (λh=>absurd h.2 (by have:=ba;have:=ap.len;omega))).trans ?_;rw [aX,ac];exact aI (by rw [aU];decide)
    rw [W];have e:C o i [cl g bi c,L,M,ay 240 x ah F,H1,ay 277 u y B,D,E] w:=e.as;exact⟨j,_,⟨c,L,M,ay 240 x ah F++(H1++((ay 277 u y B++D)++E)),⟨ao.log,ao.acc,⟨x,ah,F,aF,_,aB,a4,a0 s _ ⟨u,y,B,P,D,j,ag,X,j⟩,j⟩⟩,j⟩,C.perm (A:=[cl g bi c,L,M,ay 240 x ah F,H1,ay 277 u y B,D,E]) e (by simp)⟩
 obtain⟨F,aF,H1,u,y,Q,iL,T,E,K,a4,aC,Y,aX,a0,e,bD⟩:∃(F:Obj)(aF:List (Int×Value))(H1:List Chunk)(u y:Nat)(Q:Obj)(iL:List (Int×Value))(T E:List Chunk)(K:List (Int×aE)),cg bN F aF/\cg bN Q iL/\c7 jd iL K T/\(aZ b.aH (ey m)).getD []=K/\(∀bY aK,pW (ab u) bY aK->c7 pW aF (cj b.aH (ey m) bY) (H1++(aK++E)))/\C o i [R n m.cs.toArray 118,R N v.cs.toArray 55,cl g bi c,L,M,ay 240 x ah F,H1,ay 277 u y Q,T,E] w/\(aZ bJ (ey m)).getD Bj=ab u:=by
  obtain⟨dC,bR⟩:∃dC,aZ b.aH (ey m)=some dC:=by
   have a3:(aZ bJ (ey m)).isSome=true:=by simpa using aN
   rw [ap.isSome] at a3;exact ha.1 a3
  obtain⟨v0,H1,cc,E,b3,rfl,b1,a0⟩:=ap.find bR;obtain⟨u,y,Q,iL,T,rfl,aC,Y,rfl⟩:=b1;refine⟨bZ,bJ,H1,u,y,Q,iL,T,E,dC,bd,aC,Y,by rw [bR];rfl,λbY aK bA=>a0 bY aK bA,?_,by rw [b3];rfl⟩;exact C.perm (A:=[R n m.cs.toArray 118,R N v.cs.toArray 55,cl g bi c,L,M,ay 240 x ah bZ,H1++((ay 277 u y Q++T)++E)]) e.as (by simp)
 refine am 4 j (bS 7 (ab u) j bD ?_);have a7:∀q∈iL,gD 68 q.2:=Y.wide (λv a G h=>by rw [h.1];exact⟨a.cs,j,a.len h.2.2,a.one⟩);obtain⟨ca,bF,bH,bI⟩:=gD.get wr a7 v.f
 have b5:K.length<=100:=by
  rw [<-aX];cases bw:aZ b.aH (ey m) with
  |none=>exact b4 _
  |some dC=>exact bW _ (hS bw)
 refine ar 2 j (ax (C.aj (b:=N) e) (v.eo Z)) ?_;have z:=yw (k:=v.f) a7 (dI.own (e.to (ay 277 u y Q)) aC);refine bk 0 z j (λr w⟨aD,t⟩=>?_);rw [bF] at aD;subst aD;have e:=e.aL t;refine b7 3 e j (λbg w e=>c2 (e.bc bg) j j j bI bH (by decide) (λw e=>?_));have e:C o i [R n m.cs.toArray 118,R N v.cs.toArray 55,cl g bi c,L,M,ay 240 x ah F,H1,ay 277 u y Q,T,E] w:=e.as;refine bm 5 j j (λaS=>?_) (λaS=>?_);refine ar 3 j (ax (C.aj (b:=N) e) (v.eo Z)) (bM 0 (U:=v.cs) j j (v.len Z) (bn (C.aj (b:=N) e)) ?_);have z:=AA (k:=v.f) (v.len Z) v.one (e.ours (cC:=[ay 277 u y Q])) aC;refine bp 0 z j (λw⟨a9,bu,t⟩=>?_);have e:=e.b2 t
 obtain⟨B,P,D,s,ag,X,ac,e⟩:∃(B:Obj)(P:List (Int×Value))(D:List Chunk)(s:List (Int×aE)),cg bN B P/\c7 jd P s D/\iV K v=s/\C o i [R n m.cs.toArray 118,R N v.cs.toArray 55,cl g bi c,L,M,ay 240 x ah F,H1,ay 277 u y B,D,E] w:=by
  have aJ:aZ K v.f=none:=mx ((Y.isSome v.f).symm.trans (by simpa using aS));exact⟨a9,_,_,_,bu,Y.add aJ (show jd (.agg v.cs.toArray) v [] from⟨j,j,Z⟩),by unfold iV;rw [if_neg (by rw [aJ];decide)],C.perm (A:=[R n m.cs.toArray 118,R N v.cs.toArray 55,cl g bi c,L,M,ay 240 x ah F,H1,ay 277 u y a9,T,E]) e.as (by simp)⟩
 have br:s.length<=101:=by rw [<-ac];have:=rZ K v;omega
 have aY:=jd.all X;have e:C o i ([R n m.cs.toArray 118]++_) _:=e.front;have e:=e.drew;refine bt 2 j (λw=>∃ad,C o i ([R n m.cs.toArray 118]++ad) w) ⟨_,e⟩ ?_;rotate_left
 obtain⟨B,P,D,s,ag,X,ac,e⟩:∃(B:Obj)(P:List (Int×Value))(D:List Chunk)(s:List (Int×aE)),cg bN B P/\c7 jd P s D/\iV K v=s/\C o i [R n m.cs.toArray 118,R N v.cs.toArray 55,cl g bi c,L,M,ay 240 x ah F,H1,ay 277 u y B,D,E] w:=by
  have bE:(aZ K v.f).isSome=true:=(Y.isSome v.f).symm.trans (by simpa using aS);exact⟨Q,iL,T,K,aC,Y,by unfold iV;rw [if_pos bE],e.as⟩
 have br:s.length<=101:=by rw [<-ac];have:=rZ K v;omega
 have aY:=jd.all X;have e:C o i ([R n m.cs.toArray 118]++_) _:=e.front;have e:=e.drew;refine bt 3 j (λw=>∃ad,C o i ([R n m.cs.toArray 118]++ad) w) ⟨_,e⟩ ?_;rotate_left
 all_goals
  refine aT 0 j (λw⟨_,e⟩=>c4 (U:=m.cs) j j j (bn (C.aj (b:=n) e))) (af 1 1 j (aO 2 4 j j ?_ ?_));have z:=sw (dI.own (e.to (ay 277 u y B)) ag) X (by omega);refine cO j j j z (λr w⟨O,aa,t⟩=>?_);obtain⟨J,I,rfl,aV,_⟩:=Row.form aa;have e:=e.aL t;have e:C o i ([R n m.cs.toArray 118]++_) w:=e.front;refine an ⟨⟨_,e⟩,?_⟩;refine aT 3 j (λw _=>e3 (c:=(m.cs++[Value.slice J (fQ s).length I]).toArray) j (λ_=>by kernel_rfl)) (aR 4 j (ew e j j (λS w e=>?_)));have e:C o i ([R n m.cs.toArray 118]++_) w:=e.front;refine an ⟨⟨_,e⟩,?_⟩;rotate_left
  refine ew e j j (λS w e=>?_);have e:C o i ([R n m.cs.toArray 118]++_) w:=e.front;refine an ⟨⟨_,e⟩,?_⟩;refine aR 2 j ?_;have z:=sw (dI.own (e.to (ay 277 u y B)) ag) X (by omega);refine cO j j j z (λr w⟨O,aa,t⟩=>?_);obtain⟨J,I,rfl,aV,_⟩:=Row.form aa;have e:=e.aL t;have e:C o i ([R n m.cs.toArray 118]++_) w:=e.front;refine an ⟨⟨_,e⟩,?_⟩;refine aT 3 j (λw _=>e3 (c:=(m.cs++[Value.slice J (fQ s).length I]).toArray) j (λ_=>by kernel_rfl)) ?_;rotate_left
  all_goals
   refine dA 5 j (c2 (e.bc S) j j j j j bG (λw e=>?_));have e:=C.whole (U:=(m.cs++[Value.slice J (fQ s).length I])) e j;have e:C o i [R S (m.cs++[Value.slice J (fQ s).length I]).toArray 127,R n m.cs.toArray 118,cl g bi c,L,M,ay 240 x ah F,H1,ay 277 u y B,D,E,O] w:=e.as;refine an (cU ?_);have e:C o i ([R S (m.cs++[Value.slice J (fQ s).length I]).toArray 127,cl g bi c]++_) _:=e.front;have e:=e.drew;refine bt 1 j (λw=>∃ad,C o i ([R S (m.cs++[Value.slice J (fQ s).length I]).toArray 127,cl g bi c]++ad) w) ⟨_,e⟩ (af 0 3 j (a8 3 j a1 j (aT 4 j (λw⟨_,e⟩=>c4 (U:=(m.cs++[Value.slice J (fQ s).length I])) j j j (bn (C.aj (b:=S) e))) (aR 5 j ?_))));obtain⟨_,_,bh,_,_,bx,_⟩:=Row.read aa (e.holds (G:=O) (by simp));cases bh;have z:=uf (m:=m) (l:=fQ s) (d:=I) a5 (sv aY) aV (by rw [su];omega) (⟨aW.st e aP,bx,al.off.nil g,bT.of_nil _ _⟩:Ext g J ((fQ s).flatMap aE.cs) [] _);refine bB j j j z (λw t=>?_);have e:=e.aL t;have e:C o i ([R S (m.cs++[Value.slice J (fQ s).length I]).toArray 127,cl g bi c]++_) w:=e.front;refine an ⟨⟨_,e⟩,?_⟩;refine bK (bm 0 j j (λaU=>?_) (λaU=>?_))
   .have e:C o i ([R n m.cs.toArray 118,cl g bi c]++_) _:=e.front;have e:=e.drew;refine bt 1 j (λw=>∃ad,C o i ([R n m.cs.toArray 118,cl g bi c]++ad) w) ⟨_,e⟩ (af 0 3 j (a8 3 j a1 (aG some aB) (aT 4 j (λw⟨_,e⟩=>c4 (U:=m.cs) j j j (bn (C.aj (b:=n) e))) (aR 5 j (bB j j j (qK (m:=m)) (λw t=>?_))))));have e:=e.aL t;have e:C o i ([R n m.cs.toArray 118,cl g bi c]++_) w:=e.front;refine an ⟨⟨_,e⟩,?_⟩;refine aR 6 j ?_;have z:=uJ (k:=ey m) (e.ours (cC:=[ay 240 x ah F])) a4;refine bB j j j z (λw⟨ak,bs,t⟩=>?_);have e:=e.b2 t;have e:C o i ([R n m.cs.toArray 118,cl g bi c]++_) w:=e.front;refine an ⟨⟨_,e⟩,?_⟩;refine bK (bM 2 (U:=(m.cs++[Value.slice J (fQ s).length I])) j j j (bn (C.aj (b:=S) e)) ?_);obtain⟨au,bf,bC,bv⟩:=c7.del (k:=ey m) (a0 s (ay 277 u y B++D) ⟨u,y,B,P,D,j,ag,X,j⟩);obtain⟨aO,az⟩:∃aO,aO=({b with aH:=fY (cj b.aH (ey m) s) (ey m)}:cR):=⟨_,j⟩
    obtain⟨aA,bo,e⟩:∃aA,jS g bi aO aA/\C o i [aA,O] w:=by
     have e:C o i [cl g bi c,L,M,ay 240 x ah ak,O,H1,ay 277 u y B,D,E] w:=e.as
     have e:C o i [cl g bi c,L,M,ay 240 x ah ak,O,bf,au] w:=e.perm (by
      simp only [km,m2,hc];refine .append_left _ (.append_left _ (.append_left _ (.append_left _ (.append_left _ ?_))));simpa using bv)
     have e:C o i [cl g bi c,L,M,ay 240 x ah ak++au,O] w:=C.perm (A:=[cl g bi c,L,M,ay 240 x ah ak,au,O]) e.as (by simp);rw [az];exact⟨_,⟨c,L,M,_,⟨ao.log,ao.acc,⟨x,ah,ak,_,au,aB,bs,bC,j⟩⟩,j⟩,e.li⟩
    obtain⟨_,_,bj,_,_,bz,bq⟩:=Row.rd aa (e.to O);cases bj;have z:=wW (m:=m) (l:=fQ s) (d:=I) bo (by rw [az];exact bU) (by rw [az];exact bQ) (aW.st e aP) a5 (e.eF aW aP) bz (C.qm bq) (sv aY) aV (by rw [su];omega) e.ours;refine bk 0 z j (λr w⟨aD,ai,bl,t⟩=>?_);have e:=e.b2 t;refine aq 3 j j ?_
    have W:b.dk g m v=((cR.accept g aO m (fQ s)).1,0):=by
     unfold cR.dk;refine(aI (by simpa using aw)).trans ((if_neg (by simpa using aM)).trans ((if_neg aQ).trans ?_));refine(aI (λh=>by have a3:=(ap.isSome (ey m)).trans h.1;rw [a3] at aN;cases aN)).trans ?_;rw [aX,ac,az];exact a6 aU
    rw [W];exact⟨j,ai,bl,e.as⟩
   refine aq 4 j j ?_
   have W:b.dk g m v=({b with aH:=cj b.aH (ey m) s},0):=by
    unfold cR.dk;refine(aI (by simpa using aw)).trans ((if_neg (by simpa using aM)).trans ((if_neg aQ).trans ?_));refine(aI (λh=>by have a3:=(ap.isSome (ey m)).trans h.1;rw [a3] at aN;cases aN)).trans ?_;rw [aX,ac];exact aI (by rw [aU];decide)
   rw [W];have e:C o i [cl g bi c,L,M,ay 240 x ah F,H1,ay 277 u y B,D,E] w:=e.as;exact⟨j,_,⟨c,L,M,ay 240 x ah F++(H1++((ay 277 u y B++D)++E)),⟨ao.log,ao.acc,⟨x,ah,F,aF,_,aB,a4,a0 s _ ⟨u,y,B,P,D,j,ag,X,j⟩,j⟩⟩,j⟩,C.perm (A:=[cl g bi c,L,M,ay 240 x ah F,H1,ay 277 u y B,D,E]) e (by simp)⟩
structure hn where
 begun:Int
 next:Int
 out:Option ei
def hn.new:hn:=⟨0,0,none⟩
structure bH where
 number:Int
 name:List UInt8
 next:Int
 asked:Int
 known:Bool
 prod:Int
 b5:Int
 last:Int
 dg:Bool
 parts:List (Int×hn)
def mE:List (Int×hn):=[(0,hn.new),(1,hn.new),(2,hn.new),(3,hn.new)]
def bH.new(n:Int)(x:List UInt8):bH:=⟨n,x,0,-1,false,0,0,0,false,mE⟩
def bH.zero(n:Int)(x:List UInt8):bH:=⟨n,x,0,-1,false,0,0,0,false,[]⟩
def bH.de(e:bH):bH:={e with last:=0,dg:=false,parts:=mE}
def bH.op(e:bH)(I:bF):bH×bF×Int:=
 if 1048576<e.next then(e,db,7) else({e with next:=e.next+1},{I with c:=e.number,s:=e.next},0)
def bH.init(e:bH):bH×bF×Int:=
 if 0<=e.number/\e.number<=15/\ln e.name=true then
  (if 1048576<e.next then(e,db,7) else({e with next:=e.next+1,asked:=e.next},⟨1,e.number,e.next,e.name,0,0,0,0,false⟩,0))
 else(e,db,1)
def bH.told(e:bH)(s:Int)(r:Int×Int×Int):bH×Int:=
 if e.asked<0\/s≠e.asked then(e,6)
 else if r.1=0 then(bH.de {e with known:=true,prod:=r.2.1,b5:=r.2.2,asked:= -1},0) else(e,0)
def mU(v:Value)(r:Option ei)(G:List Chunk):Prop:=match r with
 |none=>v= .pointer none/\G=[]
 |some r=>∃b u ai,v=ab b/\du u r.x ai/\G=R b #[ae r.p,ae r.e,ae r.t,ae r.s,u] 182++ai
abbrev vX(q:hn)(u:Value):List Value:=[ae q.begun,ae q.next,u]
abbrev dX(b:Nat)(q:hn)(u:Value):List Chunk:=R b (vX q u).toArray 180
def nL(v:Value)(q:hn)(G:List Chunk):Prop:=∃b u ai,v=ab b/\mU u q.out ai/\G=dX b q u++ai
abbrev uL(e:bH)(u:Value):List Value:=[ae e.number,.string (strOf e.name),ae e.next,ae e.asked,.bool e.known,ae e.prod,ae e.b5,ae e.last,.bool e.dg,u]
abbrev bC(aB:Nat)(e:bH)(u:Value):List Chunk:=R aB (uL e u).toArray 170
def h0(aB:Nat)(e:bH)(G:List Chunk):Prop:=∃u bP,fv 247 nL u e.parts bP/\G=bC aB e u++bP
theorem zT{i:Nat}(h:i<4):aZ (mE.take i) (i:Int)=none/\cj (mE.take i) (i:Int) hn.new=mE.take (i+1):=by
 rcases(show i=0\/i=1\/i=2\/i=3 by omega) with rfl|rfl|rfl|rfl<;>exact⟨j,j⟩
theorem xp{o:World}{aB:Nat}{e:bH}{u:Value}(a:Own [bC aB e u] o):Calls prog 73 #[ab aB] o λr w=>r= .tuple #[]/\∃t bP,fv 247 nL t mE bP/\C o (av [bC aB e u]) [bC aB e.de t,bP] w:=by
 obtain⟨f,q⟩:∃f,f=av [bC aB e u]:=⟨_,j⟩;rw [<-q];have a:C o f [bC aB e u] o:=q▸a;refine a2 func73 (bk 5 FZ j (λr w⟨d,g,F,D,m⟩=>?_));subst F;have a:=a.aL m;refine dF 2 (a.bc aB) j j j j (λw a=>?_);have a:C o f (bC aB {e with last:=0} u::_) w:=a;refine dF 2 (a.bc aB) j j j j (λw a=>?_);have a:C o f (bC aB {e with last:=0,dg:=false} u::_) w:=a;refine dF 2 (a.bc aB) j j j j (λw a=>?_);have a:C o f (bC aB e.de (ab d)::_) w:=a;have a:C o f [bC aB e.de (ab d),ay 247 d g (.map #[] 0),[]] w:=(C.empty a).as
 refine cJ 4 j (ct:=Nat×Obj×List (Int×Value)×List Chunk) (λk=>[(0,ab aB),(13,.int .i64 (k.1:Nat))])
  (λk w=>k.1<=4/\cg bN k.2.1 k.2.2.1/\c7 nL k.2.2.1 (mE.take k.1) k.2.2.2/\C o f [bC aB e.de (ab d),ay 247 d g k.2.1,k.2.2.2] w) (λk=>4-k.1) (0,.map #[] 0,[],[]) ⟨j,j,aX⟩ ⟨b4 _,D,j,a⟩ ?_
 rintro⟨i,I,G,H⟩ w ⟨z,hm,n,a⟩;dsimp only at z hm n a⊢;refine b8 4 j j (λx=>?_) (λx=>?_)
 .refine ar 11 j (ax (C.aj (b:=aB) a) j) (am 1 j (cN (c:=(vX hn.new (.pointer none)).toArray) j j j (λ_=>by kernel_rfl) ?_));refine bL 0 a j j (λh w a=>?_);have a:C o f (dX h hn.new (.pointer none)::_) w:=a;have y:=HD (k:=(i:Int)) (v:=ab h) (a.ours (cC:=[ay 247 d g I])) hm;refine bp 0 y j (λw⟨p,E,m⟩=>?_);have a:=a.b2 m;have l:i<4:=by omega
  have s:=n.add (zT l).1 (show nL (ab h) hn.new (dX h hn.new (.pointer none)) from⟨h,.pointer none,[],j,⟨j,j⟩,j⟩);rw [(zT l).2] at s;have a:C o f [bC aB e.de (ab d),ay 247 d g p,H++dX h hn.new (.pointer none)] w:=C.perm (A:=[bC aB e.de (ab d),ay 247 d g p,H,dX h hn.new (.pointer none)]) a.as (by simp);exact bq 1 j j j (cE i (by omega)) (bI 1 j ⟨(i+1,p,_,_),⟨j,j,aX⟩,⟨l,E,s,a⟩,by dsimp only;omega⟩)
 refine aq 1 j j ?_;have B:i=4:=by omega
 subst B;exact⟨j,(ab d),ay 247 d g I++H,⟨d,g,I,G,H,j,hm,n,j⟩,C.perm (A:=[bC aB e.de (ab d),ay 247 d g I,H]) a (by simp)⟩
theorem vC{o:World}{n:Int}{x:List UInt8}:Calls prog 39 #[ae n,.string (strOf x)] o λr w=>∃aB G,r=ab aB/\h0 aB (bH.new n x) G/\C o [] [G] w:=by
 have a:Own [] o:=C.start o;refine a2 func39 (am 7 j (cN (c:=(uL (bH.zero n x) (.pointer none)).toArray) j j j (λ_=>by kernel_rfl) ?_));refine bL 0 a j j (λb w a=>?_);have a:C o [] (bC b (bH.zero n x) (.pointer none)::_) w:=a;have g:=xp (aB:=b) (u:=.pointer none) (e:=bH.zero n x) a.ours;refine bp 4 g j (λw⟨d,bP,f,h⟩=>?_);have a:=a.b2 h;refine aq 4 j j ?_;have a:C o [] [bC b (bH.new n x) d,bP] w:=a;exact⟨b,_,j,⟨d,bP,f,j⟩,C.perm (A:=[bC b (bH.new n x) d,bP]) a (by simp)⟩
theorem qQ{o:World}{aB:Nat}{e:bH}{u:Value}{I:bF}(aJ:0<=e.next)(a:Own [bC aB e u] o):Calls prog 77 #[ab aB,.agg I.cs.toArray] o λr w=>r= .tuple #[.agg (e.op I).2.1.cs.toArray,ae (e.op I).2.2]/\C o (av [bC aB e u]) [bC aB (e.op I).1 u] w:=by
 obtain⟨d,i⟩:∃d,d=av [bC aB e u]:=⟨_,j⟩;rw [<-i];have a:C o d [bC aB e u] o:=i▸a;refine eV func77 (bL 2 a j j (λf w a=>?_));have a:C o d (bE f I::_) w:=a;refine b7 0 a j (λg w a=>?_);have a:C o d [bE g db,bE f I,bC aB e u] w:=a;refine ar 7 j (ax (C.aj (b:=aB) a) j) (b8 1 j j (λk=>?_) (λk=>?_))
 .refine am 2 j (cN (c:=db.cs.toArray) j j j (λ_=>by kernel_rfl) ?_);refine b6 0 (a.bc g) j j j j j (λw a=>?_);have a:=C.whole (U:=(db:bF).cs) a j;have a:C o d (bE g db::_) w:=a;refine bD 1 j ⟨_,dr results77 j j j j a.bz,?_⟩;have h:e.op I=(e,db,7):=a6 (by omega);rw [h];exact⟨j,a.as⟩
 have a:C o d ([bC aB e u]++_) _:=a.front;have a:=a.drew;refine bt 2 j (λw=>∃ad,C o d ([bC aB e u]++ad) w) ⟨_,a⟩ (af 0 3 j (a8 3 j a1 j (af 4 3 j (a8 7 j a1 j (af 8 1 j (aR 9 j (cB (a.bc f) j j j j bG (λw a=>?_))))))));have a:C o d (bE f {I with c:=e.number}::_) w:=a;have a:C o d ([bC aB e u]++_) w:=a.front;refine an ⟨⟨_,a⟩,?_⟩;refine af 10 1 j (dA 11 j (cB (a.bc f) j j j j bG (λw a=>?_)));have a:C o d (bE f {I with c:=e.number,s:=e.next}::_) w:=a;refine an (cU (ar 5 j (ax (C.aj (b:=aB) a) j) (bq 0 j j j (qy (by omega) (by omega)) (dF 2 (a.bc aB) j j j j (λw a=>?_)))));have a:C o d (bC aB {e with next:=e.next+1} u::_) w:=a;refine bM 2 (U:=({I with c:=e.number,s:=e.next}:bF).cs) j j j (bn (C.aj (b:=f) a)) (b6 0 (a.bc g) j j j j j (λw a=>?_));have a:=C.whole (U:=({I with c:=e.number,s:=e.next}:bF).cs) a j;have a:C o d (bE g {I with c:=e.number,s:=e.next}::_) w:=a;refine bD 1 j ⟨_,dr results77 j j j j a.bz,?_⟩;have h:e.op I=({e with next:=e.next+1},{I with c:=e.number,s:=e.next},0):=aI (by omega);rw [h];exact⟨j,a.as⟩
theorem EO{o:World}{aB:Nat}{e:bH}{u:Value}(aJ:0<=e.next)(G:e.name.length<=1000)(a:Own [bC aB e u] o):Calls prog 74 #[ab aB] o λr w=>r= .tuple #[.agg e.init.2.1.cs.toArray,ae e.init.2.2]/\C o (av [bC aB e u]) [bC aB e.init.1 u] w:=by
 obtain⟨f,E⟩:∃f,f=av [bC aB e u]:=⟨_,j⟩;rw [<-E];have a:C o f [bC aB e u] o:=E▸a;refine eV func74 (b7 2 a j (λaO w a=>?_));have a:C o f [bE aO db,bC aB e u] w:=a;refine am 7 j (bS 8 (.bool false) j (aG Value.bool (j)) ?_);refine ar 3 j (ax (C.aj (b:=aB) a) j) (am 3 j (cT 15 j (λp=>?_) (λp=>?_)))
 .refine am 32 j (cN (c:=db.cs.toArray) j j j (λ_=>by kernel_rfl) ?_);refine b6 0 (a.bc aO) j j j j j (λw a=>?_);have a:=C.whole (U:=(db:bF).cs) a j;have a:C o f (bE aO db::_) w:=a;refine bD 1 j ⟨_,dr results74 j j j j a.bz,?_⟩;have i:e.init=(e,db,1):=aI (λdt=>by have:=dz p;omega);rw [i];exact⟨j,a.as⟩
 refine ar 3 j (ax (C.aj (b:=aB) a) j) (am 3 j (cT 22 j (λq=>?_) (λq=>?_)))
 .refine am 25 j (cN (c:=db.cs.toArray) j j j (λ_=>by kernel_rfl) ?_);refine b6 0 (a.bc aO) j j j j j (λw a=>?_);have a:=C.whole (U:=(db:bF).cs) a j;have a:C o f (bE aO db::_) w:=a;refine bD 1 j ⟨_,dr results74 j j j j a.bz,?_⟩;have i:e.init=(e,db,1):=aI (λdt=>by have:=dz q;omega);rw [i];exact⟨j,a.as⟩
 refine ar 3 j (ax (C.aj (b:=aB) a) j) (ov j j j j (am 2 j (cT 29 j (λt=>?_) (λt=>?_))))
 .refine am 18 j (cN (c:=db.cs.toArray) j j j (λ_=>by kernel_rfl) ?_);refine b6 0 (a.bc aO) j j j j j (λw a=>?_);have a:=C.whole (U:=(db:bF).cs) a j;have a:C o f (bE aO db::_) w:=a;refine bD 1 j ⟨_,dr results74 j j j j a.bz,?_⟩;have i:e.init=(e,db,1):=aI (λdt=>by have g:=t;rw [show(⟨#[]⟩:ByteArray)=strOf [] from j,nD] at g;rw [dz g] at dt;exact absurd dt.2.2 (by decide));rw [i];exact⟨j,a.as⟩
 refine ar 3 j (ax (C.aj (b:=aB) a) j) (mS j j j j (am 3 j (cT 37 j (λv=>?_) (λv=>?_))))
 .refine am 10 j (cN (c:=db.cs.toArray) j j j (λ_=>by kernel_rfl) ?_);refine b6 0 (a.bc aO) j j j j j (λw a=>?_);have a:=C.whole (U:=(db:bF).cs) a j;have a:C o f (bE aO db::_) w:=a;refine bD 1 j ⟨_,dr results74 j j j j a.bz,?_⟩;have i:e.init=(e,db,1):=aI (λdt=>by have g:=dz v;have y:=dt.2.2;simp only [ln,ea,gd] at y;omega);rw [i];exact⟨j,a.as⟩
 refine ar 3 j (ax (C.aj (b:=aB) a) j) ?_;have B:e.name≠[]:=λh=>by rw [h] at t;exact absurd t (by decide)
 refine bp 0 (A0 B (by omega)) j (λw A=>?_);have a:=a.aL A;refine wO j j j j (nD (tk e.name) []) (bm 1 j j (λx=>?_) (λx=>?_))
 .refine am 2 j (cN (c:=db.cs.toArray) j j j (λ_=>by kernel_rfl) ?_);refine b6 0 (a.bc aO) j j j j j (λw a=>?_);have a:=C.whole (U:=(db:bF).cs) a j;have a:C o f (bE aO db::_) w:=a;refine bD 1 j ⟨_,dr results74 j j j j a.bz,?_⟩;have i:e.init=(e,db,1):=aI (λdt=>by have g:=x;rw [tl] at g;have y:=dt.2.2;simp only [ln,ea] at y;rw [y.1] at g;cases g);rw [i];exact⟨j,a.as⟩
 refine ar 7 j (ax (C.aj (b:=aB) a) j) (cN (c:=(⟨1,0,0,e.name,0,0,0,0,false⟩:bF).cs.toArray) j j j (λ_=>by kernel_rfl) ?_);have F:=qQ (aB:=aB) (e:=e) (u:=u) (I:=(⟨1,0,0,e.name,0,0,0,0,false⟩:bF)) aJ a.ours;obtain⟨n,d,l,k⟩:∃n d l,e.op (⟨1,0,0,e.name,0,0,0,0,false⟩:bF)=(n,d,l):=⟨_,_,_,j⟩;rw [k] at F;refine bp 0 F j (λw A=>?_);have a:=a.b2 A;refine b7 3 a j (λm w a=>b6 0 (a.bc m) j j j j j (λw a=>?_));have a:=C.whole (U:=d.cs) a j;have a:C o f (bE m d::_) w:=a;refine bm 6 j j (λz=>?_) (λz=>?_)
 .refine ar 3 j (ax (C.aj (b:=m) a) j) (dF 2 (a.bc aB) j j j j (λw a=>?_));have a:C o f (bC aB {n with asked:=d.s} u::_) w:=a;refine bM 2 (U:=d.cs) j j j (bn (C.aj (b:=m) a)) (b6 1 (a.bc aO) j j j j j (λw a=>?_));have a:=C.whole (U:=d.cs) a j;have a:C o f (bE aO d::_) w:=a;refine bD 1 j ⟨_,dr results74 j j j j a.bz,?_⟩;have D:l=0:=d5.1 z
  have i:e.init=({n with asked:=d.s},d,l):=by
   unfold bH.init;rw [a6 (⟨by have:=dM p;omega,by have:=dM q;omega,by unfold ln;have g:=x;rw [tl] at g;rw [show e.name.all gp=true by simpa using g,Bool.true_and];exact decide_eq_true ⟨List.length_pos_iff.2 B,by have:=of_decide_eq_false v;omega⟩⟩:0<=e.number/\e.number<=15/\ln e.name=true)];unfold bH.op at k;split
   .rename_i h;rw [a6 h] at k;cases k;cases D
   .rename_i h;rw [aI h] at k;cases k;rfl
  rw [i];exact⟨j,a.as⟩
 refine bM 3 (U:=d.cs) j j j (bn (C.aj (b:=m) a)) (b6 1 (a.bc aO) j j j j j (λw a=>?_));have a:=C.whole (U:=d.cs) a j;have a:C o f (bE aO d::_) w:=a;refine bD 1 j ⟨_,dr results74 j j j j a.bz,?_⟩;have D:l≠0:=by simpa using z
 have i:e.init=(n,d,l):=by
  unfold bH.init;rw [a6 (⟨by have:=dM p;omega,by have:=dM q;omega,by unfold ln;have g:=x;rw [tl] at g;rw [show e.name.all gp=true by simpa using g,Bool.true_and];exact decide_eq_true ⟨List.length_pos_iff.2 B,by have:=of_decide_eq_false v;omega⟩⟩:0<=e.number/\e.number<=15/\ln e.name=true)];unfold bH.op at k;split
  .rename_i h;rw [a6 h] at k;cases k;rfl
  .rename_i h;rw [aI h] at k;cases k;exact absurd j D
 rw [i];exact⟨j,a.as⟩
theorem Iw{o:World}{aB:Nat}{e:bH}{G:List Chunk}{s:Int}{a:Int×Int×Int}(v:h0 aB e G)(c:Own [G] o):Calls prog 58 #[ab aB,ae s,kz a] o λr w=>r=ae (e.told s a).2/\∃ai,h0 aB (e.told s a).1 ai/\C o (av [G]) [ai] w:=by
 obtain⟨u,bP,q,rfl⟩:=v;obtain⟨d,p⟩:∃d,d=av [bC aB e u++bP]:=⟨_,j⟩;rw [<-p];have c:C o d [bC aB e u++bP] o:=p▸c;have c:C o d [bC aB e u,bP] o:=c.perm (by simp);refine a2 func58 (bL 2 c j j (λf w c=>?_));have c:C o d [R f #[ae a.1,ae a.2.1,ae a.2.2] 129,bC aB e u,bP] w:=c;refine ar 14 j (ax (C.aj (b:=aB) c) j) (am 2 j (cT 16 j (λk=>?_) (λk=>?_)))
 .refine aq 12 j j ?_
  have g:e.told s a=(e,6):=by
   unfold bH.told;exact a6 (.inl (dz k))
  rw [g];have c:C o d [bC aB e u,bP] w:=c.as;exact⟨j,_,⟨u,bP,q,j⟩,C.perm (A:=[bC aB e u,bP]) c (by simp)⟩
 refine ar 4 j (ax (C.aj (b:=aB) c) j) (bm 3 j j (λi=>?_) (λi=>?_));refine aq 3 j j ?_
 have g:e.told s a=(e,6):=by
  unfold bH.told;exact a6 (.inr (by simpa using i))
 rotate_left
 refine ar 3 j (ax (C.aj (b:=f) c) j) (bm 2 j j (λm=>?_) (λm=>?_))
 .have c:=c.drew;refine bt 1 j (λw=>∃ad,C o d ([R f #[ae a.1,ae a.2.1,ae a.2.2] 129]++ad) w) ⟨_,c⟩ (af 0 5 j (a8 5 j a1 j (af 6 1 j (a8 7 j a1 j (af 8 2 j (aR 10 j (cB (c.bc aB) j j j j bG (λw c=>?_))))))));have c:C o d (bC aB {e with known:=true} u::_) w:=c;have c:C o d ([R f #[ae a.1,ae a.2.1,ae a.2.2] 129]++_) w:=c.front;refine an ⟨⟨_,c⟩,?_⟩;refine af 11 2 j (aR 13 j (cB (c.bc aB) j j j j bG (λw c=>?_)));have c:C o d (bC aB {e with known:=true,prod:=a.2.1} u::_) w:=c;have c:C o d ([R f #[ae a.1,ae a.2.1,ae a.2.2] 129]++_) w:=c.front;refine an ⟨⟨_,c⟩,?_⟩;refine af 14 2 j (aR 16 j (cB (c.bc aB) j j j j bG (λw c=>?_)));have c:C o d (bC aB {e with known:=true,prod:=a.2.1,b5:=a.2.2} u::_) w:=c;have c:C o d ([R f #[ae a.1,ae a.2.1,ae a.2.2] 129]++_) w:=c.front;refine an ⟨⟨_,c⟩,?_⟩;refine af 17 2 j (dA 19 j (cB (c.bc aB) j j j j bG (λw c=>?_)));have c:C o d (bC aB {e with known:=true,prod:=a.2.1,b5:=a.2.2,asked:= -1} u::_) w:=c;refine an (cU ?_);have x:=xp (aB:=aB) (e:={e with known:=true,prod:=a.2.1,b5:=a.2.2,asked:= -1}) (u:=u) c.ours;refine bp 2 x j (λw⟨n,l,t,y⟩=>?_);have c:=c.b2 y;refine aq 3 j j ?_
  have g:e.told s a=(bH.de {e with known:=true,prod:=a.2.1,b5:=a.2.2,asked:= -1},0):=by
   unfold bH.told;exact(aI (by rintro(h|h);exact absurd h (dM k);exact h (by simpa using i))).trans (if_pos (by simpa using m))
  rw [g];have c:C o d [bC aB (bH.de {e with known:=true,prod:=a.2.1,b5:=a.2.2,asked:= -1}) n,l] w:=c.as;exact⟨j,_,⟨n,l,t,j⟩,C.perm (A:=[bC aB (bH.de {e with known:=true,prod:=a.2.1,b5:=a.2.2,asked:= -1}) n,l]) c (by simp)⟩
 refine aq 4 j j ?_
 have g:e.told s a=(e,0):=by
  unfold bH.told;exact(aI (by rintro(h|h);exact absurd h (dM k);exact h (by simpa using i))).trans (if_neg (by simpa using m))
 rotate_left
 all_goals
  rw [g];have c:C o d [bC aB e u,bP] w:=c.as;exact⟨j,_,⟨u,bP,q,j⟩,C.perm (A:=[bC aB e u,bP]) c (by simp)⟩
section
variable {α:Type}
def ed(V:Value->α->List Chunk->Prop):List Value->List α->List Chunk->Prop
 |[],[],G=>G=[]
 |v::U,x::xs,G=>∃ai aA,G=ai++aA/\V v x ai/\ed V U xs aA
 |[],_::_,_=>False
 |_::_,[],_=>False
variable {V:Value->α->List Chunk->Prop}
theorem ed.len:∀{U:List Value}{xs:List α}{G:List Chunk},ed V U xs G->U.length=xs.length
 |[],[],_,_=>rfl
 |[],_::_,_,h=>h.elim
 |_::_,[],_,h=>h.elim
 |_::U,_::xs,_,⟨_,_,_,_,h⟩=>by simp [h.len]
theorem ed.app:∀{U c:List Value}{xs d:List α}{G a:List Chunk},ed V U xs G->ed V c d a->ed V (U++c) (xs++d) (G++a)
 |[],_,[],_,_,_,h,b=>by have h:_=[]:=h;subst h;exact b
 |[],_,_::_,_,_,_,h,_=>h.elim
 |_::_,_,[],_,_,_,h,_=>h.elim
 |_::_,_,_::_,_,_,a,⟨ai,aA,rfl,e,h⟩,b=>⟨ai,aA++a,by simp [dJ],e,h.app b⟩
theorem ed.one{v:Value}{x:α}{G:List Chunk}(h:V v x G):ed V [v] [x] G:=⟨G,[],by simp,h,j⟩
theorem ed.at:∀{U:List Value}{xs:List α}{G:List Chunk},ed V U xs G->∀(i:Nat)(b:i<xs.length),∃v ai e aA,U[i]? =some v/\G=ai++(e++aA)/\V v xs[i] e/\∀e9 a,V v e9 a->ed V U (xs.set i e9) (ai++(a++aA))
 |[],[],_,_,i,b=>by simp at b
 |[],_::_,_,h,_,_=>h.elim
 |_::_,[],_,h,_,_=>h.elim
 |v::U,x::xs,_,⟨ai,aA,rfl,c,h⟩,0,_=>⟨v,[],ai,aA,j,j,c,λe9 a d=>⟨a,aA,j,d,h⟩⟩
 |v::U,x::xs,_,⟨ai,aA,rfl,c,h⟩,i+1,b=>by
  obtain⟨u,H1,g,f,k,l,m,n⟩:=h.at i (by simpa using b);refine⟨u,ai++H1,g,f,by simpa using k,by rw [l,List.append_assoc],by simpa using m,λe9 a d=>?_⟩;exact⟨ai,H1++(a++f),by rw [dJ],c,n e9 a d⟩
def pV(e:TypeId)(V:Value->α->List Chunk->Prop)(v:Value)(xs:List α)(G:List Chunk):Prop:=∃ag H U,G=ag++H/\Row e 1 v xs.length U ag/\ed V U xs H
end
structure aY where
 bO:List (Option bo)
 parts:List cR
 cM:List (bH×Int)
 bx:List aW
 lost:Nat
 heard:List aW
def aY.g6(z:aY)(l:List aW):aY:=
 {z with bx:=z.bx++l.take (512-z.bx.length),lost:=z.lost+(l.length-(512-z.bx.length)),heard:=z.heard++l.take (min (min l.length (512-z.bx.length)) (1000-z.heard.length))}
def aY.gH(g:al)(I:bF)(z:aY)(i:Nat):aY:=match z.bO[i]? with
 |some (some x)=>aY.g6 {z with bO:=z.bO.set i (some (x.ask g I).1)} (x.ask g I).2.1
 |_=>z
def aY.asks(g:al)(z:aY)(I:bF)(e:Int):aY×Int:=if e≠0 then(z,e) else((List.range z.bO.length).foldl (aY.gH g I) z,0)
def h4(g:al)(v:Value)(I:Option bo)(G:List Chunk):Prop:=match I with
 |none=>v= .pointer none/\G=[]
 |some x=>∃a,v=ab a/\hP g a x G
def jv(g:al)(v:Value)(b:cR)(G:List Chunk):Prop:=∃bi,v=ab bi/\jS g bi b G
abbrev dc(aN aB:Nat)(i:Int):List Chunk:=R aN #[ab aB,ae i] 96
def ma(v:Value)(e:bH×Int)(G:List Chunk):Prop:=∃aN aB GE,v=ab aN/\h0 aB e.1 GE/\G=dc aN aB e.2++GE
structure ch where
 bO:Value
 parts:Value
 cM:Value
 bx:Value
 heard:Value
abbrev l8(g:al)(c:ch):List Value:=[g.p,c.bO,c.parts,c.cM,c.bx,c.heard]
abbrev bh(g:al)(aQ:Nat)(c:ch):List Chunk:=R aQ (l8 g c).toArray 74
structure wV(g:al)(z:aY)(c:ch)(cH bP dx a7 bu:List Chunk):Prop where
 bO:pV 47 (h4 g) c.bO z.bO cH
 parts:pV 60 (jv g) c.parts z.parts bP
 cM:pV 92 ma c.cM z.cM dx
 bx:gS c.bx z.bx z.lost a7
 heard:cw c.heard z.heard bu
def eP(g:al)(aQ:Nat)(z:aY)(G:List Chunk):Prop:=∃(c:ch)(cH bP dx a7 bu:List Chunk),wV g z c cH bP dx a7 bu/\G=bh g aQ c++(cH++(bP++(dx++(a7++bu))))
theorem C.zI{g:al}{aQ:Nat}{c:ch}{cH bP dx a7 bu:List Chunk}{ad:List (List Chunk)}{o w:World}{F:List Nat}(h:C o F ((bh g aQ c++(cH++(bP++(dx++(a7++bu)))))::ad) w):C o F (bh g aQ c::cH::bP::dx::a7::bu::ad) w:=h.perm (by simp)
theorem C.sr{g:al}{aQ:Nat}{c:ch}{cH bP dx a7 bu:List Chunk}{ad:List (List Chunk)}{o w:World}{F:List Nat}(h:C o F (bh g aQ c::cH::bP::dx::a7::bu::ad) w):C o F ((bh g aQ c++(cH++(bP++(dx++(a7++bu)))))::ad) w:=h.perm (by simp)
def nq:Value->Bool
 | .pointer none=>true
 |_=>false
def fg:Nat->List Value->List (Int×Value)
 |_,[]=>[]
 |k,v::r=>if nq v=true then fg (k+1) r else((k:Int),v)::fg (k+1) r
theorem vd:∀(a b:List Value)(k:Nat),fg k (a++b)=fg k a++fg (k+a.length) b
 |[],_,_=>by simp [fg]
 |v::a,b,k=>by
  rw [List.cons_append,fg,fg,vd a b (k+1),List.length_cons,show k+1+a.length=k+(a.length+1) by omega];split<;>simp
theorem yF{U:List Value}{i:Nat}(a:i<U.length):fg 0 (U.take (i+1))=fg 0 (U.take i)++(if nq U[i]=true then [] else [((i:Int),U[i])]):=by
 rw [fr a,vd];rw [g9,mY (Nat.le_of_lt a),fj]
 congr 1
theorem EE{U:List Value}{i:Nat}(a:i<U.length)(aJ:nq U[i]=false):∃r,fg 0 U=fg 0 (U.take i)++((i:Int),U[i])::r:=by
 refine⟨fg (i+1) (U.drop (i+1)),?_⟩;have e:U=U.take i++(U[i]::U.drop (i+1)):=by rw [<-kp a,m6]
 have b:fg 0 U=fg 0 (U.take i++(U[i]::U.drop (i+1))):=aG (fg 0) e;rw [b,vd,g9,mY (Nat.le_of_lt a),fj,fg,aI (by rw [aJ];decide)]
abbrev ED(U:List Value)(pre:List (Int×Value))(q:Int×Value):Prop:=∃r,fg 0 U=pre++q::r
theorem ed.qX{g:al}:∀{U:List Value}{xs:List (Option bo)}{G:List Chunk},ed (h4 g) U xs G->∀v∈U,∃p,v= .pointer p
 |[],_,_,_=>by intro v a;cases a
 |u::us,[],_,h=>h.elim
 |u::us,x::xs,_,⟨_,_,_,hu,h⟩=>by
  intro v a;rcases g1.1 a with rfl|a
  .cases x with
   |none=>exact⟨none,hu.1⟩
   |some y=>obtain⟨c,b,_⟩:=hu;exact⟨_,b⟩
  .exact h.qX v a
theorem yD{o:World}{aQ:Nat}:Calls prog 55 #[ab aQ] o λr w=>∃az,r= .func (.func 117) #[] #[ab az]/\C o [] [R az #[ab aQ] 24] w:=by
 have a:Own [] o:=C.start o;refine a2 func55 (bL 2 a j j (λaz w a=>am 3 j (gZ j j j j ?_)));exact aq 1 j j ⟨az,j,a⟩
theorem yC{az aQ h cap:Nat}{g:al}{c:ch}{cur:Array Value}{U:List Value}(G:c.bO= .slice (some ⟨h,0,none⟩) U.length cap)(L:Row 47 1 (.slice (some ⟨h,0,none⟩) U.length cap) U.length U (R h cur 47))(M:∀v∈U,∃p,v= .pointer p)(W:U.length<=1000):Iter prog 117 #[ab az] [R az #[ab aQ] 24] (λ_ w=>w.heap[aQ]? =some (.cells (l8 g c).toArray 74 (0,0))) (λad=>(h,.cells cur 47 (0,0))∈ad.flatten) (λq:Int×Value=> #[bN q.1,q.2]) (ED U) (λxs=>xs=fg 0 U):=by
 intro l P X ad o a f B E T V N;show Calls _ _ #[fL l,ab az] o _;obtain⟨m,x⟩:∃m,m=av ([R az #[ab aQ] 24]++ad):=⟨_,j⟩;have a:C o m (R az #[ab aQ] 24::ad) o:=x▸a;rw [<-x];have D:=B;refine a2 func117 (ar 2 j (a.cell j) (ar 2 j (ax D (aG some G)) ?_))
 refine cJ 3 j (ct:=Nat×List (List Chunk)) (λi=>[(0,fL l),(8,.slice (some ⟨h,0,none⟩) U.length cap),(9,.int .i64 (U.length:Nat)),(10,.int .i64 (i.1:Nat))])
  (λi w=>i.1<=U.length/\P (fg 0 (U.take i.1)) i.2 w/\C o m (R az #[ab aQ] 24::i.2) w) (λi=>U.length-i.1) (0,ad) ⟨j,j,j,j,aX⟩ ⟨b4 _,by simpa [fg] using f,a⟩ ?_
 rintro⟨i,ai⟩ w ⟨I,f,a⟩;dsimp only at I f a⊢;refine b8 4 j j (λA=>?_) (λA=>?_)
 .have d:i<U.length:=by omega
  have F:w.heap[h]? =some (.cells cur 47 (0,0)):=a.here (h,.cells cur 47 (0,0)) (by rw [km];exact dv.2 (.inr (E _ _ _ f)));obtain⟨_,_,e,_,_,K,_⟩:=Row.read L (show Holds w (R h cur 47) from λc u=>by rw [fT.1 u];exact F);cases e;obtain⟨p,k⟩:=M _ (d9 d);refine am 6 j (fp j j j j K (v:=.pointer p) (by rw [gG,cn d,k]) d (λQ S u=>?_));refine ar 0 j u (am 7 j (cT 17 j (λr=>?_) (λr=>?_)))
  .have n:nq U[i]=false:=by rw [k];cases p with|none=>cases r|some _=>rfl
   have z:=N (fg 0 (U.take i)) ((i:Int),U[i]) ai _ (EE d n) f (C.jp (H:=[R az #[ab aQ] 24]) a);rw [k] at z;refine am 3 j (jV j j j j z (λb w⟨aA,O,y⟩=>?_));have a:=C.jh (H:=[R az #[ab aQ] 24]) a O;refine bm 2 j j (λs=>?_) (λs=>?_)
   .refine aq 0 j j ?_;have t:b=false:=by cases b<;>first|rfl|exact absurd s (by decide)
    subst t;exact⟨aA,a,.inr (by simpa using y)⟩
   refine bq 2 j j j (cE i (by omega)) (bI 1 j ?_);have t:b=true:=by cases b<;>first|rfl|exact absurd s (by decide)
   subst t;refine⟨(i+1,aA),⟨j,j,j,j,aX⟩,⟨d,?_,a⟩,by dsimp only;omega⟩;dsimp only;rw [yF d,aI (by rw [n];decide),k];simpa using y
  refine bq 9 j j j (cE i (by omega)) (bI 1 j ?_);have n:nq U[i]=true:=by rw [k];cases p with|none=>rfl|some _=>cases r
  refine⟨(i+1,ai),⟨j,j,j,j,aX⟩,⟨d,?_,a⟩,by dsimp only;omega⟩;dsimp only;rw [yF d,a6 n,hc];exact f
 refine aq 1 j j ?_;have J:i=U.length:=by omega
 subst J;rw [gj] at f;exact⟨ai,a,.inl ⟨_,j,f⟩⟩
theorem sW{o:World}{g:al}{aQ:Nat}{c:ch}{aD:Value}{bx aM B:List aW}{lost:Nat}{a7 bu F:List Chunk}(aE:gS c.bx bx lost a7)(aH:cw c.heard aM bu)(ak:cw aD B F)(aV:lost<=1000000000)(aw:B.length<=1000000)(a3:aM.length<=1000)(d:Own [bh g aQ c,a7,bu,F] o):Calls prog 49 #[ab aQ,aD] o λr w=>r= .tuple #[]/\∃s l ag,gS c.bx (bx++B.take (512-bx.length)) (lost+(B.length-(512-bx.length))) l/\cw s (aM++B.take (min (min B.length (512-bx.length)) (1000-aM.length))) ag/\C o (av [bh g aQ c,a7,bu,F]) [bh g aQ {c with heard:=s},l,ag] w:=by
 obtain⟨f,ai⟩:∃f,f=av [bh g aQ c,a7,bu,F]:=⟨_,j⟩;rw [<-ai];have d:C o f [bh g aQ c,a7,bu,F] o:=ai▸d;have aF:=ak;obtain⟨ms,rfl,p,n,rfl,ap,V⟩:=ak;obtain⟨A,dT,rfl,a5,a6⟩:=ap.form;rw [ff] at aw;simp only [ff];have hlen:∀q∈ms,q.cs.length=39:=λq ac=>q.bU (V.tag q ac)
 obtain⟨t,X⟩:∃t,t=(min (min ms.length (512-bx.length)) (1000-aM.length)):=⟨_,j⟩;have a4:t<=ms.length:=by rw [X];omega
 refine a2 func49 ?_;refine ar 5 j (ax (C.aj (b:=aQ) d) j) ?_;have W:=CR aE aF (d.ours (cC:=[a7,p++n])) aV (by rw [ff];exact aw);refine bk 1 W j (λr w⟨L,l,ah,aU⟩=>?_);simp only [ff] at L ah;subst L;have d:=d.b2 aU;have d:C o f [bh g aQ c,l,bu,p++n] w:=d.as;obtain⟨N,I,H,x,S,J,T⟩:=aH;have au:aM.length=N.length:=by rw [<-I,ff]
 obtain⟨gR,a0,aO,_,_⟩:=J.form;refine ar 8 j (ax (C.aj (b:=aQ) d) (aG some aO)) ?_;refine bq 1 j j j (sg (by omega) (by omega)) ?_;refine pS j j j ?_;refine bS 21 (.int .i64 (t:Nat)) j (aG (Value.int .i64) (by rw [X];omega)) ?_;refine rz j j j j (show t<=dT by omega) ?_;have aI:cw c.heard aM bu:=⟨N,I,H,x,S,J,T⟩
 refine cJ 3 j (ct:=Nat×Value×List Chunk) (λk=>[(0,ab aQ),(22,.slice A t dT),(23,.int .i64 (t:Nat)),(24,.int .i64 (k.1:Nat))])
  (λk w=>k.1<=t/\cw k.2.1 (aM++(ms.map aC.P).take k.1) k.2.2/\C o f [bh g aQ {c with heard:=k.2.1},l,k.2.2,p++n] w) (λk=>t-k.1) (0,c.heard,bu) ⟨j,j,j,j,aX⟩ ⟨b4 _,by simpa using aI,d⟩ ?_
 rintro⟨i,s,bu⟩ w ⟨aP,M,d⟩;dsimp only at aP M d⊢;refine bm 4 j j (λy=>?_) (λy=>?_)
 .have z:i<ms.length:=by have:=dz y;omega
  have K:=hlen ms[i] (d9 z);obtain⟨_,_,e,_,_,aB,_⟩:=ap.read (C.holds d (G:=p++n) (by simp)).left;cases e;obtain⟨aZ,rfl⟩:∃a,A=some a:=by obtain⟨a,aN,_⟩:=aB (i*39+0) (ae ms[i].k) (h8 ms hlen i z (by decide) (by simp [aC.cs]));exact⟨a,aN⟩
  obtain⟨Z,Y⟩:=V.read (C.holds d (G:=p++n) (by simp)).right ms[i] (d9 z);refine am 5 j (ow j j j j (by omega) (by have:=dz y;omega) ?_);refine bM 0 (U:=ms[i].cs) j j K (i0 aB hlen i z) ?_;refine b7 0 d j (λv w d=>?_);refine c2 (d.bc v) j j j (by simpa using ms[i].one) (by rw [List.size_toArray];exact K) (by decide) (λw d=>?_);have d:=C.whole (U:=ms[i].cs) d (by rw [K];rfl);have d:C o f [bf v ms[i],bh g aQ {c with heard:=s},l,bu,p++n] w:=d.as;have d:=d.drew;refine bt 0 j (λw=>∃ad,C o f ([bf v ms[i],bh g aQ {c with heard:=s}]++ad) w) ⟨_,d⟩ ?_;refine af 0 4 j ?_;refine a8 4 j a1 j ?_;refine aT 5 j (λw⟨_,d⟩=>c4 (U:=ms[i].cs) j j K (bn (C.aj (b:=v) d))) ?_;refine aR 6 j ?_;obtain⟨Z,Y⟩:=V.read (C.holds d (G:=p++n) (by simp)).right ms[i] (d9 z);have W:=xM Z Y;refine cO j j j W (λr w⟨q,D,E,L,ac,ay,aa⟩=>?_);subst L;have az:=fA.qO ac ay Z Y;have aA:q.tag.length=32:=by obtain⟨_,_,_,_,h,_⟩:=az;exact h
  have d:=d.aL aa;have d:C o f ([bf v ms[i],bh g aQ {c with heard:=s}]++_) w:=d.front;refine an ⟨⟨_,d⟩,?_⟩;refine aR 7 j ?_;refine gi (U:=q.cs) d j j j (q.bU aA) (by decide) (by decide) (λQ w d=>?_);have aJ:=bn (C.aj (b:=Q) d);have d:C o f ([bf v ms[i],bh g aQ {c with heard:=s}]++_) w:=d.front;refine an ⟨⟨_,d⟩,?_⟩;refine aR 8 j ?_;obtain⟨N,I,H,x,S,J,T⟩:=M;have au:=aG List.length I;rw [ff,b0,List.length_take,List.length_map] at au
  have d:C o f [bf v ms[i],bh g aQ {c with heard:=s},l,H,x,p++n,D,E,R Q q.cs.toArray 53] w:=by
   rw [S] at d;exact C.perm (A:=[bf v ms[i],bh g aQ {c with heard:=s},l,H++x,p++n,D,E,R Q q.cs.toArray 53]) d.as (by simp)
  refine dR (d.to H) J j j (by decide) j j j (m:=1) (news:=q.cs) (q.bU aA) aJ (by intro u hu;exact sk [q] u (by simpa using hu)) (by omega) (by unfold maxLen;omega) (λv2 O w aK d=>?_)
  have ao:cw v2 (aM++(ms.map aC.P).take (i+1)) (O++(x++(D++E))):=by
   refine⟨N++[q],?_,lA.snoc aK T az⟩;rw [jD,I,List.append_assoc,List.take_add_one];simp [z,ay]
  have d:C o f ([bf v ms[i],bh g aQ {c with heard:=s}]++_) w:=d.front;refine an ⟨⟨_,d⟩,?_⟩;refine af 9 2 j ?_;refine dA 11 j ?_;obtain⟨_,_,aY,_⟩:=ao.len;refine cB (d.bc aQ) j j j (by rw [aY];rfl) bG (λw d=>?_);have d:C o f (bh g aQ {c with heard:=v2}::_) w:=d;have d:C o f [bh g aQ {c with heard:=v2},l,O++(x++(D++E)),p++n] w:=C.perm (A:=[bh g aQ {c with heard:=v2},l,O,x,D,E,p++n]) d.as (by simp);refine an ?_;refine cU ?_;refine bq 1 j j j (cE i (by omega)) ?_;refine bI 1 j ?_;exact⟨(i+1,v2,_),⟨j,j,j,j,aX⟩,⟨by have:=dz y;dsimp only;omega,ao,d⟩,by have:=dz y;dsimp only;omega⟩
 refine aq 1 j j ?_;have aS:i=t:=by have:=dM y;omega
 rw [aS,X] at M;exact⟨j,s,l,bu,ah,M,d.as⟩
theorem v6{o:World}{g:al}{aQ:Nat}{c:ch}{α:Type}{V:Value->α->List Chunk->Prop}{xs:List α}{ag:List Chunk}{U:List Value}{i:Int}(e:o.heap[aQ]? =some (.cells (l8 g c).toArray 74 (0,0)))(s:Row 47 1 c.bO xs.length U ag)(k:Holds o ag)(E:U.length=xs.length)(t:∀v∈U,∃p,v= .pointer p):Calls prog 14 #[ab aQ,ae i] o λr w=>r=(if 0<=i/\i<(xs.length:Int) then U.getD i.toNat (.pointer none) else .pointer none)/\w=o:=by
 obtain⟨u,y,f,C,D,q,_⟩:=Row.read s k;refine a2 func14 (am 9 j (bS 7 (.bool false) j (aG Value.bool (j)) ?_));refine am 4 j (cT 11 j (λa=>?_) (λa=>?_))
 .refine aq 12 j j (⟨?_,j⟩);rw [aI (by have:=dz a;omega)]
 refine ar 4 j (ax e (aG some f)) (b8 3 j j (λd=>?_) (λd=>?_))
 .refine aq 3 j j (⟨?_,j⟩);rw [aI (by omega)]
 refine ar 6 j (ax e (aG some f)) ?_;have m:0<=i/\i<(xs.length:Int):=by have z:=dM a;have A:=d;omega
 obtain⟨n,rfl⟩:∃n:Nat,i=n:=⟨i.toNat,by omega⟩;have b:n<U.length:=by omega
 obtain⟨p,h⟩:=t _ (d9 b);refine am 1 j (fp j j j j q (v:=.pointer p) (by rw [gG,cn b,h]) (by omega) (λx B l=>?_));refine ar 0 j l (aq 1 j j (⟨?_,j⟩));rw [a6 m];simp [List.getD,b,h]
theorem zR{o:World}{g:al}{aQ:Nat}{c:ch}{α:Type}{V:Value->α->List Chunk->Prop}{xs:List α}{ag:List Chunk}{U:List Value}{i:Int}(e:o.heap[aQ]? =some (.cells (l8 g c).toArray 74 (0,0)))(s:Row 60 1 c.parts xs.length U ag)(k:Holds o ag)(E:U.length=xs.length)(t:∀v∈U,∃p,v= .pointer p):Calls prog 18 #[ab aQ,ae i] o λr w=>r=(if 0<=i/\i<(xs.length:Int) then U.getD i.toNat (.pointer none) else .pointer none)/\w=o:=by
 obtain⟨u,y,f,C,D,q,_⟩:=Row.read s k;refine a2 func18 (am 9 j (bS 7 (.bool false) j (aG Value.bool (j)) ?_));refine am 4 j (cT 11 j (λa=>?_) (λa=>?_))
 .refine aq 12 j j (⟨?_,j⟩);rw [aI (by have:=dz a;omega)]
 refine ar 4 j (ax e (aG some f)) (b8 3 j j (λd=>?_) (λd=>?_))
 .refine aq 3 j j (⟨?_,j⟩);rw [aI (by omega)]
 refine ar 6 j (ax e (aG some f)) ?_;have m:0<=i/\i<(xs.length:Int):=by have z:=dM a;have A:=d;omega
 obtain⟨n,rfl⟩:∃n:Nat,i=n:=⟨i.toNat,by omega⟩;have b:n<U.length:=by omega
 obtain⟨p,h⟩:=t _ (d9 b);refine am 1 j (fp j j j j q (v:=.pointer p) (by rw [gG,cn b,h]) (by omega) (λx B l=>?_));refine ar 0 j l (aq 1 j j (⟨?_,j⟩));rw [a6 m];simp [List.getD,b,h]
abbrev rcc(r:ei)(u:Value):List Value:=[ae r.p,ae r.e,ae r.t,ae r.s,u]
def ei.j3(r:ei):Bool:=j5 r.p r.e&&(lg r.t&&(decide (r.s>=0)&&(decide (r.s<=1048576)&&decide ((r.x.length:Int)<=200))))
def mG(r x:ei):Bool:=(x.p==r.p)&&((x.e==r.e)&&(x.s==r.s))
def nx(p e:Int)(x:ei):Bool:=(x.p==p)&&(x.e==e)
def pi(r:ei)(s:dL):Bool:=(s.p==r.p)&&((s.e==r.e)&&((s.t==r.t)==(s.k !=0)))
def dQ.next(l:dQ)(r:ei):Int:=match l.c0.reverse.find? (nx r.p r.e) with
 |none=>0
 |some x=>IntKind.i64.wrap (x.s+1)
def dQ.fits(l:dQ)(r:ei):Int:=if r.s≠l.next r then 8 else if l.ck.any (pi r)=true then 6 else if 128<=l.c0.length then 3 else 0
def dQ.append(l:dQ)(r:ei):dQ×Int×Int:=
 if r.j3=false then(l,0,1)
 else match aZ l.eE r.p with
  |none=>(l,0,4)
  |some a=>if r.e<a then(l,0,5) else if r.e>a then(l,0,6)
   else match l.c0.findIdx? (mG r) with
    |some i=>if h:i<l.c0.length then(if l.c0[i].t≠r.t\/l.c0[i].x≠r.x then(l,0,1) else(l,(i:Int),0)) else(l,0,0)
    |none=>if l.fits r≠0 then(l,0,l.fits r)
     else({l with ck:=if(l.span r.p r.e r.t).isSome=true then l.ck else l.ck++[⟨r.p,r.e,r.t,(l.c0.length:Int),0⟩],c0:=l.c0++[r]},(l.c0.length:Int),0)
theorem kj.len:∀{us:List Value}{rs:List ei}{G:List Chunk},kj us rs G->us.length=rs.length
 |[],[],_,_=>rfl
 |[],_::_,_,h=>h.elim
 |_::_,[],_,h=>h.elim
 |_::us,_::rs,_,⟨_,_,_,_,h⟩=>by simp [h.len]
theorem kj.app:∀{us d:List Value}{rs c:List ei}{G a:List Chunk},kj us rs G->kj d c a->kj (us++d) (rs++c) (G++a)
 |[],_,[],_,_,_,h,b=>by have h:_=[]:=h;subst h;exact b
 |[],_,_::_,_,_,_,h,_=>h.elim
 |_::_,_,[],_,_,_,h,_=>h.elim
 |_::_,_,_::_,_,_,a,⟨ai,aA,rfl,e,h⟩,b=>⟨ai,aA++a,by simp [dJ],e,h.app b⟩
theorem kj.one{u:Value}{r:ei}{G:List Chunk}(h:du u r.x G):kj [u] [r] G:=⟨G,[],by simp,h,j⟩
theorem kj.form:∀{us:List Value}{rs:List ei}{G:List Chunk},kj us rs G->∀(i:Nat)(a:i<rs.length),∃B c,us[i]? =some (.slice B rs[i].x.length c)/\rs[i].x.length<=c/\c<=maxLen/\∀w,Holds w G->Rd w B (au rs[i].x)
 |[],[],_,_,i,a=>by simp at a
 |[],_::_,_,h,_,_=>h.elim
 |_::_,[],_,h,_,_=>h.elim
 |u::us,r::rs,_,⟨ai,aA,rfl,hu,_⟩,0,_=>by
  obtain⟨B,c,rfl,b,d⟩:=Row.form hu;refine⟨B,c,j,b,d,λw g=>?_⟩;obtain⟨_,_,e,_,_,f,_⟩:=Row.read hu g.left;cases e;exact f
 |u::us,r::rs,_,⟨ai,aA,rfl,_,h⟩,i+1,a=>by
  obtain⟨B,c,b,d,f,k⟩:=h.form i (by simpa using a);exact⟨B,c,by simpa using b,by simpa using d,f,λw g=>by simpa using k w g.right⟩
abbrev e6:Value×ei->List Value:=λe=>[ae e.2.p,ae e.2.e,ae e.2.t,ae e.2.s,e.1]
theorem G4(us:List Value)(rs:List ei):sX us rs=(us.zip rs).flatMap e6:=rfl
theorem Bl{us:List Value}{rs:List ei}(b:us.length=rs.length){i:Nat}(a:i<rs.length):(us.zip rs)[i]'(by rw [oL];omega)=(us[i]'(by omega),rs[i]):=List.getElem_zip
theorem Eg{q:ei->Bool}{l:List ei}{i:Nat}(d:i<l.length)(f:q l[i]=true)(h:∀J(a:J<l.length),i<J->q l[J]=false):l.reverse.find? q=some l[i]:=by
 have e:l=l.take i++(l[i]::l.drop (i+1)):=by rw [<-kp d,m6]
 have b:l.reverse=(l.drop (i+1)).reverse++(l[i]::(l.take i).reverse):=by
  have:=aG List.reverse e;rw [this];simp
 rw [b,List.find?_append]
 have c:(l.drop (i+1)).reverse.find? q=none:=by
  rw [List.find?_eq_none];intro x g;obtain⟨J,a,rfl⟩:=t5.1 (List.mem_reverse.1 g);rw [iT] at a;rw [List.getElem_drop,h _ (by omega) (by omega)];decide
 rw [c];simp [f]
theorem Eh{q:ei->Bool}{l:List ei}(h:∀J(a:J<l.length),q l[J]=false):l.reverse.find? q=none:=by
 rw [List.find?_eq_none];intro x b;obtain⟨J,a,rfl⟩:=t5.1 (List.mem_reverse.1 b);rw [h J a];decide
theorem mV.form{v:Value}{l:List ei}{G:List Chunk}(t:mV v l G):∃(A:Option Addr)(c:Nat),v= .slice A l.length c/\l.length<=c/\c<=maxLen/\
 ∀n(aJ:n<l.length),∃b I B aU,A=some ⟨b,I,none⟩/\l[n].x.length<=aU/\aU<=maxLen/\∀w,Holds w G->Rd w B (au l[n].x)/\∀J z,J<5->(rcc l[n] (.slice B l[n].x.length aU))[J]? =some z->w.cell? ⟨b,I+n*5+J,none⟩=some z:=by
 obtain⟨ag,H,us,rfl,d,i⟩:=t;obtain⟨A,c,rfl,F,K⟩:=Row.form d;have D:=i.len;have L:∀e∈us.zip l,(e6 e).length=5:=λ_ _=>rfl
 have N:(us.zip l).length=l.length:=by rw [oL];omega
 refine⟨A,c,j,F,K,λn aJ=>?_⟩;obtain⟨m,cap,cur,s,M,_⟩:=Row.block d (by omega);cases s;obtain⟨B,aU,g,o,p,q⟩:=i.form n aJ
 have r:us[n]'(by omega)= .slice B l[n].x.length aU:=by
  rw [cn (by omega)] at g;exact hB g
 refine⟨m,0,B,aU,j,o,p,λw h=>⟨q w h.right,λJ z y E=>?_⟩⟩;obtain⟨_,_,e,_,_,C,_⟩:=Row.read d h.left;cases e;obtain⟨a,u,k⟩:=C _ _ (h8 (f:=e6) (us.zip l) L n (by omega) y (by rw [Bl D aJ,r];exact E));cases u;rw [add_lit,<-rT] at k;exact k
theorem uV{a b:Int}(h: -9223372036854775808<=a-b)(c:a-b<9223372036854775808):evalBin .sub .i64 a b=some (.int .i64 (a-b)):=by
 have e:IntKind.i64.wrap (a-b)=a-b:=by rw [jY];omega
 show some (Value.int .i64 (IntKind.i64.wrap (a-b)))=_;rw [e]
theorem Ei{r:ei}(h:r.j3=true):r.x.length<=200:=by
 unfold ei.j3 at h;simp only [ea] at h;have:=dz h.2.2.2.2;omega
theorem Cs{α:Type}{p:α->Bool}{l:List α}{i:Nat}(h:l.findIdx? p=some i):l.any p=true:=by
 obtain⟨a,b,_⟩:=p8.1 h;exact ko.2 ⟨_,d9 a,b⟩
theorem Ct{α:Type}{p:α->Bool}{l:List α}(h:l.findIdx? p=none):l.any p=false:=by
 rw [List.findIdx?_eq_none_iff] at h;rw [List.any_eq_false];exact λx a=>by rw [h x a];decide
theorem EU{o:World}{r:ei}{B:Option Addr}{aU:Nat}:Calls prog 184 #[.agg (rcc r (.slice B r.x.length aU)).toArray] o λz w=>z= .bool r.j3/\C o [] [] w:=by
 have a:Own [] o:=C.start o;refine a2 func184 (bL 2 a j j (λaz w a=>?_));have a:C o [] (R az (rcc r (.slice B r.x.length aU)).toArray 182::_) w:=a;refine ar 4 j (ax (C.aj a) j) (ar 1 j (ax (C.aj a) j) (bp 0 (vh (p:=r.p) (e:=r.e)) j (λw hw=>?_)));have hw:=hw.symm;subst hw;refine am 1 j (cT 8 j (λeD=>?_) (λeD=>?_))
 .refine ar 1 j (ax (C.aj a) j) (bp 0 (yO (t:=r.t)) j (λw hw=>?_));have hw:=hw.symm;subst hw;refine am 2 j (cT 13 j (λb=>?_) (λb=>?_))
  .refine ar 1 j (ax (C.aj a) j) (am 3 j (cT 18 j (λc=>?_) (λc=>?_)))
   .refine ar 1 j (ax (C.aj a) j) (am 3 j (cT 23 j (λd=>?_) (λd=>?_)));refine ar 1 j (ax (C.aj a) j) (aq 4 j j ?_);rotate_left
    refine aq 6 j j ?_;rotate_left
    all_goals
     refine⟨aG Value.bool ?_,a.bare⟩;unfold ei.j3;rw [eD];rw [b];rw [c];rw [d];rfl
   refine aq 11 j j (⟨aG Value.bool ?_,a.bare⟩);unfold ei.j3;rw [eD];rw [b];rw [c];rfl
  refine aq 16 j j (⟨aG Value.bool ?_,a.bare⟩);unfold ei.j3;rw [eD];rw [b];rfl
 refine aq 21 j j (⟨aG Value.bool ?_,a.bare⟩);unfold ei.j3;rw [eD];rfl
theorem Ce{o:World}{e:Nat}{r x:ei}{u:Value}{B:Option Addr}{aU:Nat}(d:o.heap[e]? =some (.cells (rcc r (.slice B r.x.length aU)).toArray 182 (0,0))):Calls prog 226 (#[]++ #[.agg (rcc x u).toArray]++ #[ab e]) o λz w=>z= .bool (mG r x)/\C o [] [] w:=by
 have a:Own [] o:=C.start o;refine a2 func226 (bL 2 a j j (λaO w a=>ar 4 j (ax (C.aj a) j) (ar 1 j (ax (a.cc d) j) (am 2 j (cT 9 j (λb=>?_) (λb=>?_))))))
 .refine ar 1 j (ax (C.aj a) j) (ar 1 j (ax (a.cc d) j) (am 3 j (cT 16 j (λc=>?_) (λc=>?_))))
  .refine ar 1 j (ax (C.aj a) j) (ar 1 j (ax (a.cc d) j) (aq 3 j j (⟨aG Value.bool ?_,a.bare⟩)));unfold mG;rw [b,c];rfl
  refine aq 7 j j (⟨aG Value.bool ?_,a.bare⟩);unfold mG;rw [b,c];rfl
 refine aq 14 j j (⟨aG Value.bool ?_,a.bare⟩);unfold mG;rw [b];rfl
theorem GA{o:World}{e:Nat}{r:ei}{s:dL}{B:Option Addr}{aU:Nat}(d:o.heap[e]? =some (.cells (rcc r (.slice B r.x.length aU)).toArray 182 (0,0))):Calls prog 228 (#[]++ #[.agg s.cs.toArray]++ #[ab e]) o λz w=>z= .bool (pi r s)/\C o [] [] w:=by
 have a:Own [] o:=C.start o;refine a2 func228 (bL 2 a j j (λaO w a=>ar 4 j (ax (C.aj a) j) (ar 1 j (ax (a.cc d) j) (am 2 j (cT 9 j (λb=>?_) (λb=>?_))))))
 .refine ar 1 j (ax (C.aj a) j) (ar 1 j (ax (a.cc d) j) (am 3 j (cT 16 j (λc=>?_) (λc=>?_))))
  .refine ar 1 j (ax (C.aj a) j) (ar 1 j (ax (a.cc d) j) (ar 2 j (ax (C.aj a) j) (aq 4 j j (⟨aG Value.bool ?_,a.bare⟩))));unfold pi;rw [b,c];rfl
  refine aq 11 j j (⟨aG Value.bool ?_,a.bare⟩);unfold pi;rw [b,c];rfl
 refine aq 18 j j (⟨aG Value.bool ?_,a.bare⟩);unfold pi;rw [b];rfl
theorem EN{o:World}{ez:FuncId}[Entry prog ez]{be:Array Value}{q:ei->Bool}{T:World->Prop}(L:∀(g:World)(x:ei)(u:Value),T g->Calls prog ez (#[]++ #[.agg (rcc x u).toArray]++be) g (λr w=>r= .bool (q x)/\C g [] [] w))(I:∀w,C o [] [] w->T w){v:Value}{l:List ei}{G:List Chunk}(K:mV v l G)(D:Holds o G):Calls prog 225 #[v,.func (.func ez) #[] be] o λr w=>((∃i:Nat,r= .int .i64 (i:Nat)/\l.findIdx? q=some i)\/(r= .int .i64 (-1)/\l.findIdx? q=none))/\C o [] [] w:=by
 have a:Own [] o:=C.start o;obtain⟨ag,H,us,rfl,F,E⟩:=K;obtain⟨y,A,rfl,W,P,N,_⟩:=Row.read F D.left;have O:=E.len;have k:∀e∈us.zip l,(e6 e).length=5:=λ_ _=>rfl
 have X:(us.zip l).length=l.length:=by rw [oL];omega
 refine a2 func225 ?_
 refine cJ 10 j (ct:=Nat) (λi=>[(0,.slice y l.length A),(1,.func (.func ez) #[] be),(7,.int .i64 (l.length:Nat)),(8,.int .i64 (i:Nat))])
  (λi w=>i<=l.length/\(∀J(n:J<l.length),J<i->q l[J]=false)/\C o [] [] w) (λi=>l.length-i) 0 ⟨j,j,j,j,aX⟩ ⟨b4 _,λJ _ h=>by omega,a⟩ ?_
 rintro i w ⟨V,d,a⟩;refine b8 4 j j (λz=>?_) (λz=>?_)
 .have b:i<l.length:=by omega
  have t:=a.rd N (bT.of_nil _ _);have m:=Bl O b;refine am 12 j (fp j j j j t (v:=ae l[i].p) (h8 (f:=e6) (J:=0) (us.zip l) k i (by omega) (by decide) (by rw [m];rfl)) b (λR B S=>?_));subst B;have s:=i0 (f:=e6) t k i (by omega);rw [m] at s;refine bM 0 (U:=rcc l[i] us[i]) j j j s (hL j j j j (L _ l[i] us[i] (I _ a)) (λr w⟨Q,aa⟩=>?_));subst Q;have a:=(a.aL aa).bare;refine bm 0 j j (λc=>?_) (λc=>?_)
  .exact aq 4 j j ⟨.inl ⟨i,j,yi d b c⟩,a⟩
  refine bq 2 j j j (cE i (by unfold maxLen at P;omega)) (bI 1 j (⟨i+1,⟨j,j,j,j,aX⟩,⟨b,λJ n M=>?_,a⟩,by omega⟩));rcases Nat.lt_succ_iff_lt_or_eq.1 M with h|rfl
  .exact d J n h
  exact c
 exact aq 4 j j ⟨.inr ⟨j,yh d (by omega)⟩,a⟩
theorem wZ{o:World}{be:Nat}{c:iQ}{r:ei}{B:Option Addr}{aU:Nat}{G:List Chunk}{l:List ei}(m:o.heap[be]? =some (.cells (lcs c).toArray 147 (0,0)))(k:mV c.c0 l G)(g:Holds o G):Calls prog 185 #[ab be,.agg (rcc r (.slice B r.x.length aU)).toArray] o λz w=>((∃i:Nat,z= .int .i64 (i:Nat)/\l.findIdx? (mG r)=some i)\/(z= .int .i64 (-1)/\l.findIdx? (mG r)=none))/\C o [] [] w:=by
 have a:Own [] o:=C.start o;refine a2 func185 (bL 2 a j j (λd w a=>?_));have a:C o [] [R d (rcc r (.slice B r.x.length aU)).toArray 182] w:=a;refine ar 6 j (ax (a.cc m) j) (gZ j j j j ?_);have n:=EN (ez:=226) (be:= #[ab d]) (q:=mG r) (T:=λe=>e.heap[d]? =some (.cells (rcc r (.slice B r.x.length aU)).toArray 182 (0,0))) (λe x u h=>Ce h) (λe f=>f.cc (C.aj (b:=d) a)) k (g.st a);refine bk 0 n j (λz w⟨s,p⟩=>?_);have a:=a.aL p;exact aq 1 j j ⟨s,a.bare⟩
theorem DE{o:World}{ez:FuncId}[Entry prog ez]{be:Array Value}{q:dL->Bool}{T:World->Prop}(m:∀(e:World)(s:dL),T e->Calls prog ez (#[]++ #[.agg s.cs.toArray]++be) e (λr w=>r= .bool (q s)/\C e [] [] w))(h:∀w,C o [] [] w->T w){v:Value}{l:List dL}{G:List Chunk}(g:gC v l G)(f:Holds o G):Calls prog 229 #[v,.func (.func ez) #[] be] o λr w=>r= .bool (l.any q)/\C o [] [] w:=by
 have c:Own [] o:=C.start o;obtain⟨u,x,rfl,A,B,y,_⟩:=Row.read g f;refine a2 func229 ?_;have k:=yI m h g f;refine bk 7 k j (λz w⟨t,p⟩=>?_);have c:=c.aL p
 obtain⟨d,rfl,n⟩:∃d:Int,z= .int .i64 d/\l.any q=decide (d>=0):=by
  rcases t with⟨i,a,b⟩|⟨a,b⟩
  .exact⟨_,a,(Cs b).trans (je (by omega)).symm⟩
  .exact⟨_,a,(Ct b).trans (by decide)⟩
 exact aq 2 j j ⟨aG Value.bool n.symm,c.bare⟩
theorem yS{o:World}{be:Nat}{c:iQ}{p e:Int}{G:List Chunk}{l:List ei}(k:o.heap[be]? =some (.cells (lcs c).toArray 147 (0,0)))(x:mV c.c0 l G)(u:Holds o G):Calls prog 227 #[ab be,ae p,ae e] o λz w=>((∃i:Nat,z= .int .i64 (i:Nat)/\∃B:i<l.length,l.reverse.find? (nx p e)=some l[i])\/(z= .int .i64 (-1)/\l.reverse.find? (nx p e)=none))/\w=o:=by
 obtain⟨D,F,q,L,C,y⟩:=x.form;have K:l.length<=9223372036854775807:=by unfold maxLen at C;omega
 refine a2 func227 (ar 9 j (ax k (aG some q)) (bq 1 j j j (v:=.int .i64 ((l.length:Int)-1)) (uV (by omega) (by omega)) ?_))
 refine cJ 2 j (ct:=Nat) (λn=>[(0,ab be),(1,ae p),(2,ae e),(7,.int .i64 ((n:Int)-1))])
  (λn w=>n<=l.length/\(∀J(a:J<l.length),n<=J->nx p e l[J]=false)/\w=o) (λn=>n) l.length ⟨j,j,j,j,aX⟩ ⟨cI _,λJ a h=>by omega,j⟩ ?_
 rintro n w ⟨B,f,hw⟩;have hw:=hw.symm;subst hw;refine b8 5 j j (λt=>?_) (λt=>?_)
 .refine ar 8 j (ax k (aG some q)) ?_;obtain⟨m,rfl⟩:∃m,n=m+1:=⟨n-1,by omega⟩;have b:m<l.length:=by omega
  obtain⟨H,go,E,dT,rfl,_,_,A⟩:=y m b;have s:=(A _ u).2;refine am 1 j (bS 22 (.int .i64 (m:Nat)) j (aG (Value.int .i64) (by omega)) ?_);refine hl j j j j b (ar 1 j (s 0 _ (by decide) j) (am 3 j (cT 28 j (λd=>?_) (λd=>?_))))
  .refine ar 3 j (ax k (aG some q)) (am 1 j (bS 33 (.int .i64 (m:Nat)) j (aG (Value.int .i64) (by omega)) ?_));refine hl j j j j b (ar 1 j (s 1 _ (by decide) j) (bm 3 j j (λg=>?_) (λg=>?_)))
   .refine am 2 j (bS 7 (.int .i64 (m:Nat)) j (aG (Value.int .i64) (by omega)) ?_);exact aq 2 j j ⟨.inl ⟨m,j,b,Eg b (by unfold nx;rw [d,g];rfl) (λJ a I=>f J a (by omega))⟩,j⟩
   refine bq 3 j j j (v:=.int .i64 ((m:Int)-1)) (by rw [uV (by omega) (by omega)];exact aG (λz=>some (Value.int .i64 z)) (by omega)) (bI 1 j (⟨m,⟨j,j,j,j,aX⟩,⟨by omega,λJ a r=>?_,j⟩,Nat.lt_succ_self m⟩));rcases Nat.eq_or_lt_of_le r with h|h
   .subst h;unfold nx;rw [d,g];rfl
   exact f J a h
  refine bq 15 j j j (v:=.int .i64 ((m:Int)-1)) (by rw [uV (by omega) (by omega)];exact aG (λz=>some (Value.int .i64 z)) (by omega)) (bI 1 j (⟨m,⟨j,j,j,j,aX⟩,⟨by omega,λJ a r=>?_,j⟩,Nat.lt_succ_self m⟩));rcases Nat.eq_or_lt_of_le r with h|h
  .subst h;unfold nx;rw [d];rfl
  exact f J a h
 exact aq 4 j j ⟨.inr ⟨j,Eh (λJ a=>f J a (by omega))⟩,j⟩
theorem Ej{o:World}{be:Nat}{c:iQ}{r:ei}{B:Option Addr}{aU:Nat}{G S:List Chunk}{l:dQ}(k:o.heap[be]? =some (.cells (lcs c).toArray 147 (0,0)))(y:mV c.c0 l.c0 G)(v:Holds o G)(D:gC c.ck l.ck S)(L:Holds o S):Calls prog 187 #[ab be,.agg (rcc r (.slice B r.x.length aU)).toArray] o λz w=>z=ae (l.fits r)/\C o [] [] w:=by
 have a:Own [] o:=C.start o;obtain⟨V,Y,F,aa,ac,N⟩:=y.form;obtain⟨U,X,E,_,_⟩:=Row.form D;refine a2 func187 (bL 2 a j j (λt w a=>?_));have a:C o [] [R t (rcc r (.slice B r.x.length aU)).toArray 182] w:=a;refine ar 9 j (ax (C.aj a) j) (ar 1 j (ax (C.aj a) j) ?_);rcases n:l.c0.reverse.find? (nx r.p r.e) with _|x;have m:=yS (be:=be) (c:=c) (p:=r.p) (e:=r.e) (a.cc k) y (v.st a);refine bk 0 m j (λz Q⟨d,f⟩=>?_);have f:=f.symm;subst f;obtain⟨d,_⟩:=d.resolve_left (λ⟨_,_,_,h⟩=>by rw [n] at h;cases h);subst d;refine am 9 j (bS 5 (ae (l.next r)) j (by unfold dQ.next;rw [n];rfl) ?_);rotate_left
 have m:=yS (be:=be) (c:=c) (p:=r.p) (e:=r.e) (a.cc k) y (v.st a);refine bk 0 m j (λz Q⟨d,f⟩=>?_);have f:=f.symm;subst f;obtain⟨i,d,H,I⟩:=d.resolve_right (λh=>by rw [n] at h;cases h.2);rw [n] at I;cases I;subst d;refine mq 5 j j ((je (Int.natCast_nonneg i))) (ar 4 j (ax (a.cc k) (aG some F)) ?_);obtain⟨Z,go,W,dT,rfl,_,_,O⟩:=N i H;refine am 1 j (hl j j j j H ?_);refine ar 1 j ((O _ (v.st a)).2 3 _ (by decide) j) (am 4 j (bS 5 (ae (l.next r)) j (by unfold dQ.next;rw [n];rfl) ?_));rotate_left
 all_goals
  refine gZ j j j j (ar 6 j (ax (C.aj a) j) (bm 3 j j (λg=>?_) (λg=>?_)))
  .refine aq 3 j j (⟨aG ae ?_,a.bare⟩);unfold dQ.fits;rw [a6 (by simpa using g)]
  refine ar 5 j (ax (a.cc k) (aG some E)) ?_;have m:=DE (ez:=228) (be:= #[ab t]) (q:=pi r) (T:=λA=>A.heap[t]? =some (.cells (rcc r (.slice B r.x.length aU)).toArray 182 (0,0))) (λA s M=>GA M) (λA K=>K.cc (C.aj (b:=t) a)) (E▸D) (L.st a);refine bp 1 m j (λw P=>?_);have a:=a.aL P;refine bm 1 j j (λu=>?_) (λu=>?_)
  .refine aq 3 j j (⟨aG ae ?_,a.bare⟩);unfold dQ.fits;rw [aI (by simpa using g),if_pos u]
  refine ar 5 j (ax (a.cc k) (aG some F)) (b8 3 j j (λJ=>?_) (λJ=>?_))
  .refine aq 3 j j (⟨aG ae ?_,a.bare⟩);unfold dQ.fits;rw [aI (by simpa using g),if_neg (by rw [u];decide),if_pos (by omega)]
  refine aq 4 j j (⟨aG ae ?_,a.bare⟩);unfold dQ.fits;rw [aI (by simpa using g),if_neg (by rw [u];decide),if_neg (by omega)]
theorem Cy{o:World}{be:Nat}{l:dQ}{G:List Chunk}{r:ei}{B:Option Addr}{aU:Nat}(aK:kG be l G)(bl:l.ck.length<=1000000)(bo:l.c0.length<=1000000)(aV:Rd o B (au r.x))(ap:bT B (au r.x) (av [G]))(bv:r.x.length<=aU)(a:Own [G] o):Calls prog 136 #[ab be,.agg (rcc r (.slice B r.x.length aU)).toArray] o λz w=>z= .tuple #[ae (l.append r).2.1,ae (l.append r).2.2]/\∃ai,kG be (l.append r).1 ai/\C o (av [G]) [ai] w:=by
 have O:=aK;obtain⟨c,ag,S,E,D,rfl⟩:=aK;obtain⟨d,aE⟩:∃d,d=av [dG be c++(ag++(S++E))]:=⟨_,j⟩;rw [<-aE] at ap⊢;have a:C o d [dG be c++(ag++(S++E))] o:=aE▸a;have a:=a.vR;obtain⟨aB,g,aN,rfl,aQ⟩:=D.eE;obtain⟨bb,bg,W,bs,bu,aY⟩:=D.c0.form;obtain⟨ba,bf,aO,bq,br⟩:=Row.form D.ck
 have a0:(aZ (mm l.eE) r.p).getD (ae 0)=ae ((aZ l.eE r.p).getD 0):=by
  unfold mm;rw [nt];cases aZ l.eE r.p<;>rfl
 have aP:(aZ (mm l.eE) r.p).isSome=(aZ l.eE r.p).isSome:=by
  unfold mm;rw [nt];cases aZ l.eE r.p<;>rfl
 refine a2 func136 (bL 2 a j j (λf w a=>?_));have a:C o d [R f (rcc r (.slice B r.x.length aU)).toArray 182,dG be c,ag,S,[(aB,g)]] w:=a;refine am 8 j (bS 13 (.bool false) j (aG Value.bool (j)) ?_);refine bM 0 (U:=rcc r (.slice B r.x.length aU)) j j j (bn (C.aj (b:=f) a)) ?_;have F:=EU (o:=w) (r:=r) (B:=B) (aU:=aU);refine bp 0 F j (λw y=>?_);have a:=a.aL y;have a:C o d [R f (rcc r (.slice B r.x.length aU)).toArray 182,dG be c,ag,S,[(aB,g)]] w:=a.as;refine bm 2 j j (λah=>?_) (λah=>?_)
 .refine aq 4 j j ?_
  have q:l.append r=(l,0,1):=by
   unfold dQ.append;rw [a6 (by simpa using ah)]
  rw [q];have a:C o d [dG be c,ag,S,[(aB,g)]] _:=a.as;exact⟨j,_,O,a.i2⟩
 have a:C o d ([R f (rcc r (.slice B r.x.length aU)).toArray 182,dG be c,ag,S,[(aB,g)]]++_) _:=a.front;have a:=a.drew;have J:r.j3=true:=by simpa using ah
 refine bt 2 j (λw=>∃ad,C o d ([R f (rcc r (.slice B r.x.length aU)).toArray 182,dG be c,ag,S,[(aB,g)]]++ad) w) ⟨_,a⟩ (af 0 3 j (a8 3 j a1 (aG some aN) (af 4 1 j (a8 5 j a1 j (aT 6 j (λw⟨_,a⟩=>tH (key:=bN) (k:=r.p) aQ (C.aj (b:=aB) a) j j) (af 7 5 j (bK (bm 7 j j (λak=>?_) (λak=>?_)))))))))
 .refine aq 4 j j ?_
  have q:l.append r=(l,0,4):=by
   unfold dQ.append;rw [aI (by rw [J];decide)];rw [show aZ l.eE r.p=none from Option.isNone_iff_eq_none.1 (by have V:(aZ l.eE r.p).isSome=false:=aP.symm.trans (by simpa using ak);cases a5:aZ l.eE r.p with|none=>rfl|some _=>rw [a5] at V;cases V)]
  rw [q];have a:C o d [dG be c,ag,S,[(aB,g)]] _:=a.as;exact⟨j,_,O,a.i2⟩
 obtain⟨ao,L⟩:∃ao,aZ l.eE r.p=some ao:=ha.1 (aP.symm.trans (by simpa using ak));refine am 2 j (bS 6 (ae ao) j (a0.trans (by rw [L];rfl)) ?_);refine ar 1 j (ax (C.aj a) j) (b8 3 j j (λK=>?_) (λK=>?_))
 .refine aq 4 j j ?_
  have q:l.append r=(l,0,5):=by
   unfold dQ.append;rw [aI (by rw [J];decide)];rw [L];dsimp only;rw [a6 K]
  rw [q];have a:C o d [dG be c,ag,S,[(aB,g)]] _:=a.as;exact⟨j,_,O,a.i2⟩
 refine ar 3 j (ax (C.aj a) j) (b8 3 j j (λN=>?_) (λN=>?_))
 .refine aq 4 j j ?_
  have q:l.append r=(l,0,6):=by
   unfold dQ.append;rw [aI (by rw [J];decide)];rw [L];dsimp only;rw [aI K,a6 N]
  rw [q];have a:C o d [dG be c,ag,S,[(aB,g)]] _:=a.as;exact⟨j,_,O,a.i2⟩
 refine bM 5 (U:=rcc r (.slice B r.x.length aU)) j j j (bn (C.aj (b:=f) a)) ?_;rcases I:l.c0.findIdx? (mG r) with _|ay
 .have F:=wZ (be:=be) (c:=c) (r:=r) (B:=B) (aU:=aU) (C.aj (b:=be) a) D.c0 (a.holds (G:=ag) (by simp));refine bk 0 F j (λz w⟨v,y⟩=>?_);obtain⟨v,_⟩:=v.resolve_left (λ⟨_,_,h⟩=>by rw [I] at h;cases h);subst v;have a:=a.aL y;have a:C o d [R f (rcc r (.slice B r.x.length aU)).toArray 182,dG be c,ag,S,[(aB,g)]] w:=a.as;refine bM 11 (U:=rcc r (.slice B r.x.length aU)) j j j (bn (C.aj (b:=f) a)) ?_;have F:=Ej (l:=l) (r:=r) (B:=B) (aU:=aU) (C.aj (b:=be) a) D.c0 (a.holds (G:=ag) (by simp)) D.ck (a.holds (G:=S) (by simp));refine bp 0 F j (λw y=>?_);have a:=a.aL y;have a:C o d [R f (rcc r (.slice B r.x.length aU)).toArray 182,dG be c,ag,S,[(aB,g)]] w:=a.as;refine bm 5 j j (λal=>?_) (λal=>?_)
  .refine aq 5 j j ?_
   have q:l.append r=(l,0,l.fits r):=by
    unfold dQ.append;rw [aI (by rw [J];decide)];rw [L];dsimp only;rw [aI K,aI N];rw [I];dsimp only;rw [a6 (by simpa using al)]
   rw [q];have a:C o d [dG be c,ag,S,[(aB,g)]] _:=a.as;exact⟨j,_,O,a.i2⟩
  refine ar 6 j (ax (C.aj (b:=be) a) (aG some W)) (ar 7 j (ax (C.aj (b:=f) a) j) (ar 1 j (ax (C.aj (b:=f) a) j) (ar 1 j (ax (C.aj (b:=f) a) j) ?_)));rcases Z:l.span r.p r.e r.t with _|a9;have F:=pr (be:=be) (c:=c) (p:=r.p) (e:=r.e) (t:=r.t) (C.aj (b:=be) a) D.ck (a.holds (G:=S) (by simp));refine bk 0 F j (λz w⟨v,y⟩=>?_);obtain⟨v,_⟩:=v.resolve_left (λ⟨_,_,h⟩=>by rw [show l.ck.findIdx? (kV r.p r.e r.t)=none from Z] at h;cases h);subst v;have a:=a.aL y;have a:C o d [R f (rcc r (.slice B r.x.length aU)).toArray 182,dG be c,ag,S,[(aB,g)]] w:=a.as;have a:C o d ([R f (rcc r (.slice B r.x.length aU)).toArray 182,dG be c,ag,[(aB,g)]]++_) _:=a.front;have a:=a.drew;refine bt 2 j (λw=>∃ad,C o d ([R f (rcc r (.slice B r.x.length aU)).toArray 182,dG be c,ag,[(aB,g)]]++ad) w) ⟨_,a⟩ (af 0 4 j (a8 4 j a1 (aG some aO) (af 5 1 j (a8 6 j a1 j (af 7 1 j (a8 8 j a1 j (af 9 1 j (a8 10 j a1 j (af 11 1 j (aT 12 j (λw _=>e3 (c:=(⟨r.p,r.e,r.t,(l.c0.length:Int),0⟩:dL).cs.toArray) j (λ_=>by kernel_rfl)) (aR 13 j (gi (U:=(⟨r.p,r.e,r.t,(l.c0.length:Int),0⟩:dL).cs) a j j j j bG bG (λaW w a=>?_)))))))))))));have aJ:=bn (C.aj (b:=aW) a);have a:C o d ([R f (rcc r (.slice B r.x.length aU)).toArray 182,dG be c,ag,[(aB,g)]]++_) w:=a.front;refine an ⟨⟨_,a⟩,?_⟩;refine aR 14 j (dR (a.to S) (aO▸D.ck) j j (by decide) j j j (m:=1) (news:=(⟨r.p,r.e,r.t,(l.c0.length:Int),0⟩:dL).cs) j aJ (wg [(⟨r.p,r.e,r.t,(l.c0.length:Int),0⟩:dL)]) (by omega) (by unfold maxLen;omega) (λv1 aa w P a=>?_));have P:Row 316 5 v1 (l.ck.length+1) (l.ck.flatMap dL.cs++(⟨r.p,r.e,r.t,(l.c0.length:Int),0⟩:dL).cs) aa:=P
  have P:gC v1 (l.ck++[(⟨r.p,r.e,r.t,(l.c0.length:Int),0⟩:dL)]) aa:=by
   unfold gC;rw [b0,List.flatMap_append];simpa using P
  have a:C o d ([R f (rcc r (.slice B r.x.length aU)).toArray 182,dG be c,ag,[(aB,g)]]++_) w:=a.front;refine an ⟨⟨_,a⟩,?_⟩;refine af 15 2 j (dA 17 j (cB (a.bc be) j j j (Row.one P) bG (λw a=>?_)));have a:C o d (dG be ({c with ck:=v1})::_) w:=a;refine an (cU ?_);obtain⟨dp,H,n,aC,aA,aH,aS,a3,a⟩:∃(dp:iQ)(H:List dL)(n:List Chunk),dp.c0=c.c0/\dp.eE=c.eE/\(if(l.span r.p r.e r.t).isSome=true then l.ck else l.ck++[(⟨r.p,r.e,r.t,(l.c0.length:Int),0⟩:dL)])=H/\gC dp.ck H n/\H.length<=l.ck.length+1/\C o d [R f (rcc r (.slice B r.x.length aU)).toArray 182,dG be dp,ag,n,[(aB,g)]] w:=⟨{c with ck:=v1},l.ck++[(⟨r.p,r.e,r.t,(l.c0.length:Int),0⟩:dL)],aa,j,j,aI (by rw [Z];decide),P,by rw [b0,List.length_singleton];omega,a.as⟩;refine ar 3 j (ax (C.aj (b:=f) a) j) ?_;rotate_left
  have F:=pr (be:=be) (c:=c) (p:=r.p) (e:=r.e) (t:=r.t) (C.aj (b:=be) a) D.ck (a.holds (G:=S) (by simp));refine bk 0 F j (λz w⟨v,y⟩=>?_);obtain⟨bw,v,_⟩:=v.resolve_right (λh=>by rw [show l.ck.findIdx? (kV r.p r.e r.t)=some a9 from Z] at h;cases h.2);subst v;have a:=a.aL y;have a:C o d [R f (rcc r (.slice B r.x.length aU)).toArray 182,dG be c,ag,S,[(aB,g)]] w:=a.as;refine iI 1 j j ((e4 (by omega))) ?_;obtain⟨dp,H,n,aC,aA,aH,aS,a3,a⟩:∃(dp:iQ)(H:List dL)(n:List Chunk),dp.c0=c.c0/\dp.eE=c.eE/\(if(l.span r.p r.e r.t).isSome=true then l.ck else l.ck++[(⟨r.p,r.e,r.t,(l.c0.length:Int),0⟩:dL)])=H/\gC dp.ck H n/\H.length<=l.ck.length+1/\C o d [R f (rcc r (.slice B r.x.length aU)).toArray 182,dG be dp,ag,n,[(aB,g)]] w:=⟨c,l.ck,S,j,j,a6 (by rw [Z];rfl),D.ck,ex _,a.as⟩;refine ar 4 j (ax (C.aj (b:=f) a) j) ?_;rotate_left
  all_goals
   refine bk 0 (g2 (c:=aU) (a.rd aV ap) (by have:=Ei J;omega)) j (λz w⟨M,aF,y⟩=>?_);obtain⟨s,bQ,rfl,_,_⟩:=aF.form;have a:=a.aL y;refine dF 1 (a.bc f) j j j j (λw a=>?_);have a:C o d (R f (rcc r (.slice s r.x.length bQ)).toArray 182::_) w:=a;have a:C o d ([R f (rcc r (.slice s r.x.length bQ)).toArray 182,dG be dp,n,[(aB,g)]]++_) _:=a.front;have a:=a.drew;refine bt 1 j (λw=>∃ad,C o d ([R f (rcc r (.slice s r.x.length bQ)).toArray 182,dG be dp,n,[(aB,g)]]++ad) w) ⟨_,a⟩ (af 0 4 j (a8 4 j a1 (aG some (aC.trans W)) (aT 5 j (λw⟨_,a⟩=>c4 (U:=rcc r (.slice s r.x.length bQ)) j j j (bn (C.aj (b:=f) a))) (aR 6 j (gi (U:=rcc r (.slice s r.x.length bQ)) a j j j j bG bG (λac w a=>?_))))));have aJ:=bn (C.aj (b:=ac) a);have a:C o d ([R f (rcc r (.slice s r.x.length bQ)).toArray 182,dG be dp,n,[(aB,g)]]++_) w:=a.front;refine an ⟨⟨_,a⟩,?_⟩;refine aR 7 j ?_;obtain⟨az,H1,us,rfl,aX,aD⟩:=D.c0;have a:C o d [az,H1,R f (rcc r (.slice s r.x.length bQ)).toArray 182,dG be dp,n,[(aB,g)],M,R ac (rcc r (.slice s r.x.length bQ)).toArray 182] w:=C.perm (A:=[az++H1,R f (rcc r (.slice s r.x.length bQ)).toArray 182,dG be dp,n,[(aB,g)],M,R ac (rcc r (.slice s r.x.length bQ)).toArray 182]) a.as (by simp);refine dR a (W▸aX) j j (by decide) j j j (m:=1) (news:=rcc r (.slice s r.x.length bQ)) j aJ (by intro u hu;simp at hu;rcases hu with rfl|rfl|rfl|rfl|rfl<;>rfl) (by omega) (by unfold maxLen;omega) (λv2 T w aM a=>?_);have a4:v2.oneCell'=true:=Row.one aM
   have a7:mV v2 (l.c0++[r]) (T++(H1++M)):=by
    refine⟨T,H1++M,us++[(.slice s r.x.length bQ)],j,?_,aD.app (kj.one aF)⟩;rw [b0,List.length_singleton]
    have e:sX (us++[(.slice s r.x.length bQ)]) (l.c0++[r])=sX us l.c0++rcc r (.slice s r.x.length bQ):=by
     rw [G4,List.zip_append aD.len,List.flatMap_append];simp
    rw [e];exact aM
   have a:C o d ([R f (rcc r (.slice s r.x.length bQ)).toArray 182,dG be dp,n,[(aB,g)]]++_) w:=a.front;refine an ⟨⟨_,a⟩,?_⟩;refine af 8 2 j (dA 10 j (cB (a.bc be) j j j a4 bG (λw a=>?_)));have a:C o d (dG be {dp with c0:=v2}::_) w:=a;refine an (cU (aq 5 j j ?_))
   have q:l.append r=({l with ck:=H,c0:=l.c0++[r]},(l.c0.length:Int),0):=by
    unfold dQ.append;rw [aI (by rw [J];decide)];rw [L];dsimp only;rw [aI K,aI N];rw [I];dsimp only;rw [aI (by simpa using al),aH]
   rw [q];have a:C o d [dG be {dp with c0:=v2},T,H1,M,n,[(aB,g)]] w:=a.as;exact⟨j,_,⟨{dp with c0:=v2},T++(H1++M),n,[(aB,g)],⟨a7,aS,⟨aB,g,aA.trans aN,j,aQ⟩⟩,j⟩,C.i2 (C.perm (A:=[dG be {dp with c0:=v2},T,H1,M,n,[(aB,g)]]) a (by simp))⟩
 have F:=wZ (be:=be) (c:=c) (r:=r) (B:=B) (aU:=aU) (C.aj (b:=be) a) D.c0 (a.holds (G:=ag) (by simp));refine bk 0 F j (λz w⟨v,y⟩=>?_);obtain⟨i,v,V⟩:=v.resolve_right (λh=>by rw [I] at h;cases h.2);rw [I] at V;cases V;obtain⟨Q,_,_⟩:=p8.1 I;subst v;have a:=a.aL y;have a:C o d [R f (rcc r (.slice B r.x.length aU)).toArray 182,dG be c,ag,S,[(aB,g)]] w:=a.as;refine mq 5 j j ((je (Int.natCast_nonneg ay))) ?_;have a:C o d ([R f (rcc r (.slice B r.x.length aU)).toArray 182,dG be c,ag,S,[(aB,g)]]++_) _:=a.front;obtain⟨bh,go,bd,dT,rfl,bi,bj,aw⟩:=aY ay Q;have a:=a.drew;refine bt 2 j (λw=>∃ad,C o d ([R f (rcc r (.slice B r.x.length aU)).toArray 182,dG be c,ag,S,[(aB,g)]]++ad) w) ⟨_,a⟩ (af 0 3 j (a8 3 j a1 (aG some W) (af 4 1 j (aT 5 j (λw _=>gA j j Q) (af 6 1 j (bR 7 j (λw⟨_,a⟩=>(aw _ (a.holds (G:=ag) (by simp))).2 2 _ (by decide) j) (af 8 1 j (a8 9 j a1 j (af 10 2 j (ef 57 j (λX=>?_) (λX=>?_)))))))))))
 .refine af 12 13 j (bK (aq 5 j j ?_))
  have q:l.append r=(l,0,1):=by
   unfold dQ.append;rw [aI (by rw [J];decide)];rw [L];dsimp only;rw [aI K,aI N];rw [I];dsimp only;rw [nc Q];refine a6 ?_;first|exact .inl (by simpa using X)|exact .inr (by simpa using Y)
  rw [q];have a:C o d [dG be c,ag,S,[(aB,g)]] _:=a.as;exact⟨j,_,O,a.i2⟩
 refine af 12 3 j (a8 15 j a1 (aG some W) (af 16 1 j (aT 17 j (λw _=>gA j j Q) (af 18 1 j (bR 19 j (λw⟨_,a⟩=>(aw _ (a.holds (G:=ag) (by simp))).2 4 _ (by decide) j) (af 20 1 j (a8 21 j a1 j (aR 22 j (bB j j j (qx (aw _ (a.holds (G:=ag) (by simp))).1 (a.rd aV ap)) (λw hw=>?_))))))))));subst hw;refine an ⟨⟨_,a⟩,?_⟩;refine af 23 2 j (bK (bm 0 j j (λY=>?_) (λY=>?_)));refine aq 4 j j ?_
 have q:l.append r=(l,0,1):=by
  unfold dQ.append;rw [aI (by rw [J];decide)];rw [L];dsimp only;rw [aI K,aI N];rw [I];dsimp only;rw [nc Q];refine a6 ?_;first|exact .inl (by simpa using X)|exact .inr (by simpa using Y)
 rotate_left
 refine aq 6 j j ?_
 have q:l.append r=(l,(ay:Int),0):=by
  unfold dQ.append;rw [aI (by rw [J];decide)];rw [L];dsimp only;rw [aI K,aI N];rw [I];dsimp only;rw [nc Q];refine aI (λh=>?_);rcases h with h|h
  .exact h (by simpa using X)
  .exact h (by simpa using Y)
 rotate_left
 all_goals
  rw [q];have a:C o d [dG be c,ag,S,[(aB,g)]] _:=a.as;exact⟨j,_,O,a.i2⟩
def bH.jG(e:bH)(n:Int):bH×Int:=match aZ e.parts n with
 |none=>(e,6)
 |some q=>if q.out.isNone=true then(e,6) else({e with parts:=cj e.parts n {q with out:=none}},0)
def bH.waits(e:bH):Bool:=e.parts.any λp=>p.2.out.isSome
def bH.end_(e:bH)(c:Bool):bH×bF×Int:=
 if e.dg=false\/e.waits=true then(e,db,6)
 else if 1048576<e.next then(e,db,7)
 else({e with next:=e.next+1,dg:=false},⟨3,e.number,e.next,[],e.prod,e.b5,e.last,0,c⟩,0)
def bH.ga(e:bH):Int:=if e.dg=true then e.last else e.last+1
def bH.gI(e:bH)(n:Int):bH×bF×Int:=
 if e.known=false then(e,db,6)
 else match aZ e.parts n with
  |none=>(e,db,1)
  |some q=>if e.dg=false/\100<=e.last then(e,db,7)
   else if 1048576<e.next then(e,db,7)
   else({e with next:=e.next+1,last:=e.ga,dg:=true,parts:=cj e.parts n {q with begun:=e.ga}},⟨2,e.number,e.next,[],e.prod,e.b5,e.ga,n,false⟩,0)
theorem zS(l:List (Int×hn))(n:Int):aZ l n=none\/(∃q,aZ l n=some q/\q.out=none)\/∃q r,aZ l n=some q/\q.out=some r:=by
 cases b:aZ l n with
 |none=>exact .inl j
 |some q=>
  cases a:q.out with
  |none=>exact .inr (.inl ⟨q,j,a⟩)
  |some r=>exact .inr (.inr ⟨q,r,j,a⟩)
theorem Cc{o:World}{aB:Nat}{e:bH}{G:List Chunk}{n:Int}(O:h0 aB e G)(a:Own [G] o):Calls prog 80 #[ab aB,ae n] o λr w=>r=ae (e.jG n).2/\∃ai,h0 aB (e.jG n).1 ai/\C o (av [G]) [ai] w:=by
 obtain⟨u,bP,J,rfl⟩:=O;have K:h0 aB e (bC aB e u++bP):=⟨u,bP,J,j⟩;obtain⟨d,F⟩:∃d,d=av [bC aB e u++bP]:=⟨_,j⟩;rw [<-F];have a:C o d [bC aB e u++bP] o:=F▸a;obtain⟨c,ah,I,Q,H,rfl,hm,E,rfl⟩:=J;have a:C o d [bC aB e (ab c),ay 247 c ah I,H] o:=C.perm (B:=[bC aB e (ab c),ay 247 c ah I,H]) a (by simp);refine a2 func80 (ar 15 j (ax (C.aj (b:=aB) a) j) (am 1 j ?_));rcases zS e.parts n with g|⟨q,g,y⟩|⟨q,ro,g,y⟩
 .have m:=nm (k:=n) (dI.own (a.to (ay 247 c ah I)) hm);refine bk 0 m j (λr w⟨h,v⟩=>?_);have a:=a.aL v;have P:=E.nv g;simp only [P,rE,rF] at h;subst h;have a:C o d [bC aB e (ab c),ay 247 c ah I,H] w:=a.as;refine am 11 j (bS 20 (.bool true) j (aG Value.bool (j)) ?_);refine aq 10 j j ?_;have l:e.jG n=(e,6):=by unfold bH.jG;rw [g]
  rw [l];have a:C o d [bC aB e (ab c),ay 247 c ah I,H] w:=a.as;exact⟨j,_,K,C.perm (A:=[bC aB e (ab c),ay 247 c ah I,H]) a (by simp)⟩
 .have m:=nm (k:=n) (dI.own (a.to (ay 247 c ah I)) hm);refine bk 0 m j (λr w⟨h,v⟩=>?_);have a:=a.aL v;obtain⟨v0,H1,N,f,D,rfl,⟨aN,pu,z,rfl,i,rfl⟩,L⟩:=E.find g;simp only [D,me,oC] at h;subst h;obtain⟨rfl,rfl⟩:pu= .pointer none/\z=[]:=by unfold mU at i;rw [y] at i;exact i
  have a:C o d [bC aB e (ab c),ay 247 c ah I,H1,dX aN q (.pointer none),[],f] w:=C.perm (A:=[bC aB e (ab c),ay 247 c ah I,H1++((dX aN q (.pointer none)++([]))++f)]) a.as (by simp);refine am 11 j (bS 20 (.bool false) j (aG Value.bool (j)) ?_);refine ar 3 j (ax (C.aj (b:=aN) a) j) (aq 6 j j ?_);have l:e.jG n=(e,6):=by unfold bH.jG;rw [g];exact if_pos (by rw [y];rfl)
  rw [l];have a:C o d [bC aB e (ab c),ay 247 c ah I,H1,dX aN q (.pointer none),[],f] w:=a.as;exact⟨j,_,K,C.perm (A:=[bC aB e (ab c),ay 247 c ah I,H1,dX aN q (.pointer none),[],f]) a (by simp)⟩
 have m:=nm (k:=n) (dI.own (a.to (ay 247 c ah I)) hm);refine bk 0 m j (λr w⟨h,v⟩=>?_);have a:=a.aL v;obtain⟨v0,H1,N,f,D,rfl,⟨aN,pu,z,rfl,i,rfl⟩,L⟩:=E.find g;simp only [D,me,oC] at h;subst h;obtain⟨bZ,M,ai,rfl,S,rfl⟩:∃b u ai,pu=ab b/\du u ro.x ai/\z=R b #[ae ro.p,ae ro.e,ae ro.t,ae ro.s,u] 182++ai:=by unfold mU at i;rw [y] at i;exact i
 have a:C o d [bC aB e (ab c),ay 247 c ah I,H1,dX aN q (ab bZ),R bZ #[ae ro.p,ae ro.e,ae ro.t,ae ro.s,M] 182++ai,f] w:=C.perm (A:=[bC aB e (ab c),ay 247 c ah I,H1++((dX aN q (ab bZ)++(R bZ #[ae ro.p,ae ro.e,ae ro.t,ae ro.s,M] 182++ai))++f)]) a.as (by simp);refine am 11 j (bS 20 (.bool false) j (aG Value.bool (j)) ?_);refine ar 3 j (ax (C.aj (b:=aN) a) j) (dF 9 (a.bc aN) j j j j (λw a=>?_));have a:C o d (dX aN ({q with out:=none}) (.pointer none)::_) w:=a;refine aq 3 j j ?_;have l:e.jG n=({e with parts:=cj e.parts n ({q with out:=none})},0):=by unfold bH.jG;rw [g];exact if_neg (by rw [y];simp)
 rw [l];have a:C o d [bC aB e (ab c),ay 247 c ah I,H1,dX aN ({q with out:=none}) (.pointer none),[],f] w:=a.empty.as;exact⟨j,_,⟨_,_,⟨c,ah,I,Q,_,j,hm,L _ _ ⟨aN,.pointer none,[],j,⟨j,j⟩,j⟩,j⟩,j⟩,C.perm (A:=[bC aB e (ab c),ay 247 c ah I,H1,dX aN ({q with out:=none}) (.pointer none),[],f]) a (by simp)⟩
theorem mU.ptr{v:Value}{r:Option ei}{G:List Chunk}(h:mU v r G):∃p,v= .pointer p/\p.isSome=r.isSome:=by
 unfold mU at h;cases r with
 |none=>exact⟨none,h.1,j⟩
 |some r=>obtain⟨b,u,ai,a,_⟩:=h;exact⟨_,a,j⟩
theorem w8{α:Type}(l:List (Int×α))(p:Int×α->Bool):(dd l).any p=l.any p:=by
 rw [na,ko,ko];exact⟨λ⟨x,a,b⟩=>⟨x,g0.1 a,b⟩,λ⟨x,a,b⟩=>⟨x,g0.2 a,b⟩⟩
theorem Cr{α:Type}{l t1 t2:List (Int×α)}{q:Int×α}{p:Int×α->Bool}(h:dd l=t1++q::t2)(a:p q=true):l.any p=true:=by
 rw [<-w8,h];simp [a]
theorem bH.sI(e:bH)(I:bF):(e.op I).1.prod=e.prod/\(e.op I).1.b5=e.b5/\(e.op I).1.last=e.last/\(e.op I).1.dg=e.dg/\(e.op I).1.parts=e.parts:=by
 unfold bH.op;split<;>exact⟨j,j,j,j,j⟩
theorem IJ{o:World}{aB f ah:Nat}{e:bH}{I:Obj}{m:List (Int×Value)}{H:List Chunk}(Q:o.heap[aB]? =some (.cells (uL e (ab f)).toArray 170 (0,0)))(hm:cg bN I m)(s:c7 nL m e.parts H)(k:Holds o (ay 247 f ah I++H))(af:e.parts.length<=1000000):Calls prog 81 #[ab aB] o λr w=>r= .bool e.waits/\C o [] [] w:=by
 have c:Own [] o:=C.start o;obtain⟨a,u⟩:∃a:Option Addr,a=some ⟨f,0,none⟩:=⟨_,j⟩;have N:dI 247 o a m:=.inr ⟨f,ah,I,u,k (f,_) (by simp),k (ah,I) (by simp),hm⟩;refine j2 func81 (b7 2 c j (λaO w c=>?_));have c:C o [] [R aO #[.bool false] 4] w:=c;refine ar 6 j (ax (c.cc Q) (aG (λz=>some (Value.pointer z)) u.symm)) ?_;have S:=Cm (o:=w) (p:=a);refine bk 0 S j (λr w⟨B,D,U,aa⟩=>?_);subst U;have M:=(N.st c).st aa;have c:=c.aL aa;have c:C o [] ([R B #[.pointer a] 168,[(D,.cells #[.func (.func 190) #[] #[]] 45 (0,0))]]++[R aO #[.bool false] 4]) w:=c
 refine j6 1 j (GX (by have ae:=s.len;omega)) j (by have:=c.size;simpa using this) c j (λ_=>rfl) (by intro p v;simp at v;rcases v with rfl|rfl<;>rfl)
  (λpre ad=>ad=[R aO #[.bool false] 4]/\((dd e.parts).take pre.length).any (λp:Int×hn=>p.2.out.isSome)=false) (λi ad=>match i with| .ret=>e.waits=true/\ad=[R aO #[.bool true] 4]|_=>False) ⟨j,j⟩ (λL aK G=>M.st G) (λ_ _ _ _=>trivial) ?_ ?_ ?_ (λ_ _ _ h=>h.elim)
 .rintro y pre ⟨ag,ai⟩ Z L ak F ⟨rfl,d⟩ c;obtain⟨t1,t2,t,X,ac,Y,l,A,T,O⟩:=s.oi F;obtain⟨aN,pu,W,rfl,J,rfl⟩:=O;obtain⟨pp,rfl,x⟩:=J.ptr;have n:o.heap[aN]? =some (.cells (vX t (.pointer pp)).toArray 180 (0,0)):=((k.right.perm T).right.left) (aN,_) (by simp);have c:=C.gy c;refine bD 2 j (⟨j,_,c,λL al c=>?_⟩);have n:=c.cc n;have c:=C.gy c;refine ar 6 j (ax n j) (bm 1 j j (λg=>?_) (λg=>?_))
  .refine dF 2 (c.bc aO) j j j j (λw c=>?_);have c:C _ _ (R aO #[.bool true] 4::_) w:=c;exact bD 0 j ⟨[R aO #[.bool true] 4],c.as,Cr l (show t.out.isSome=true by rw [<-x];simpa using g),j⟩
  refine bD 1 j (⟨[R aO #[.bool false] 4],c.as,j,?_⟩);rw [b0,List.length_singleton,l,<-A];rw [l,<-A,mg] at d;rw [p1,List.take_of_length_le (by omega)];have i:t.out.isSome=false:=by rw [<-x];simpa using g
  simp [d,i]
 .rintro xs E w K ⟨rfl,d⟩ c;have c:C o [] ([R B #[.pointer a] 168,[(D,.cells #[.func (.func 190) #[] #[]] 45 (0,0))]]++[R aO #[.bool false] 4]) w:=c;refine dF 2 (c.bc aO) j j j j (λw c=>?_);have c:C _ _ (R aO #[.bool false] 4::_) w:=c;refine bD 0 j ⟨.bool false,λw q=>?_⟩;have c:=q.st c (cI _);refine⟨s3 results81 j j (ax (C.aj (b:=aO) c) j),?_⟩;rw [K,iB,s.len,h7 (by rw [hQ];exact cI _),w8] at d;exact⟨aG Value.bool d.symm,c.bare⟩
 rintro E w P c;obtain⟨V,rfl⟩:=P;refine⟨.bool true,λw q=>?_⟩;have c:=q.st c (cI _);refine⟨s3 results81 j j (ax (C.aj (b:=aO) c) j),?_⟩;exact⟨by rw [V],c.bare⟩
theorem D1{o:World}{aB:Nat}{e:bH}{G:List Chunk}{dT:Bool}(O:h0 aB e G)(aJ:0<=e.next)(Q:e.parts.length<=1000000)(a:Own [G] o):Calls prog 44 #[ab aB,.bool dT] o λr w=>r= .tuple #[.agg (e.end_ dT).2.1.cs.toArray,ae (e.end_ dT).2.2]/\∃ai,h0 aB (e.end_ dT).1 ai/\C o (av [G]) [ai] w:=by
 obtain⟨u,bP,F,rfl⟩:=O;have J:h0 aB e (bC aB e u++bP):=⟨u,bP,F,j⟩;obtain⟨f,E⟩:∃f,f=av [bC aB e u++bP]:=⟨_,j⟩;rw [<-E];have a:C o f [bC aB e u++bP] o:=E▸a;obtain⟨d,ah,I,L,H,rfl,hm,K,rfl⟩:=F;have a:C o f [bC aB e (ab d),ay 247 d ah I,H] o:=C.perm (B:=[bC aB e (ab d),ay 247 d ah I,H]) a (by simp);refine eV func44 (b7 2 a j (λm w a=>?_));have a:C o f [bE m db,bC aB e (ab d),ay 247 d ah I,H] w:=a;refine ar 14 j (ax (C.aj (b:=aB) a) j) (am 2 j (cT 18 j (λy=>?_) (λy=>?_)))
 .refine am 7 j (cN (c:=db.cs.toArray) j j j (λ_=>by kernel_rfl) ?_);refine b6 0 (a.bc m) j j j j j (λw a=>?_);have a:=C.whole (U:=(db:bF).cs) a j;have a:C o f (bE m db::_) w:=a;refine bD 1 j ⟨_,dr results44 j j j j (bn (C.aj (b:=m) a)),?_⟩;have he:e.end_ dT=(e,db,6):=a6 (.inl (by simpa using y));rw [he];have a:C o f [bC aB e (ab d),ay 247 d ah I,H] w:=a.as;exact⟨j,_,J,C.perm (A:=[bC aB e (ab d),ay 247 d ah I,H]) a (by simp)⟩
 have q:=IJ (aB:=aB) (e:=e) (C.aj (b:=aB) a) hm K (λc P=>(dv.1 P).elim (a.holds (G:=ay 247 d ah I) (by simp) c) (a.holds (G:=H) (by simp) c)) Q;refine bp 1 q j (λw t=>?_);have a:=a.aL t;refine bm 2 j j (λx=>?_) (λx=>?_)
 .refine am 2 j (cN (c:=db.cs.toArray) j j j (λ_=>by kernel_rfl) ?_);refine b6 0 (a.bc m) j j j j j (λw a=>?_);have a:=C.whole (U:=(db:bF).cs) a j;have a:C o f (bE m db::_) w:=a;refine bD 1 j ⟨_,dr results44 j j j j (bn (C.aj (b:=m) a)),?_⟩;have he:e.end_ dT=(e,db,6):=a6 (.inr (by first|exact x|exact M));rw [he];have a:C o f [bC aB e (ab d),ay 247 d ah I,H] w:=a.as;exact⟨j,_,J,C.perm (A:=[bC aB e (ab d),ay 247 d ah I,H]) a (by simp)⟩
 have i:e.prod=e.prod/\e.b5=e.b5/\e.last=e.last:=⟨j,j,j⟩;have a:C o f ([bC aB e (ab d)]++_) _:=a.front;have a:=a.drew;have D:e.dg=true:=by simpa using y
 have R:e.waits=false:=by first|exact x|exact M
 refine bt 2 j (λw=>∃v ad,(v.prod=e.prod/\v.b5=e.b5/\v.last=e.last)/\C o f ([bC aB v (ab d)]++ad) w) ⟨_,_,i,a⟩ ?_;refine af 0 4 j (bR 4 j (λw⟨_,_,i,a⟩=>ax (C.aj (b:=aB) a) (aG (λz=>some (ae z)) i.1)) (af 5 3 j (bR 8 j (λw⟨_,_,i,a⟩=>ax (C.aj (b:=aB) a) (aG (λz=>some (ae z)) i.2.1)) (af 9 3 j (bR 12 j (λw⟨_,_,i,a⟩=>ax (C.aj (b:=aB) a) (aG (λz=>some (ae z)) i.2.2)) (af 13 1 j (aT 14 j (λw _=>e3 (c:=(⟨3,0,0,[],e.prod,e.b5,e.last,0,dT⟩:bF).cs.toArray) j (λ_=>by kernel_rfl)) (aO 15 19 j j ?_ ?_))))))));have k:=bH.sI e (⟨3,0,0,[],e.prod,e.b5,e.last,0,dT⟩:bF);obtain⟨g,l,p,n⟩:∃g l p,e.op (⟨3,0,0,[],e.prod,e.b5,e.last,0,dT⟩:bF)=(g,l,p):=⟨_,_,_,j⟩;rw [n] at k;have q:=qQ (aB:=aB) (e:=e) (u:=(ab d)) (I:=(⟨3,0,0,[],e.prod,e.b5,e.last,0,dT⟩:bF)) aJ a.ours;rw [n] at q;refine bB j j j q (λw t=>?_);have a:=a.b2 t;have i:g.prod=e.prod/\g.b5=e.b5/\g.last=e.last:=⟨k.1,k.2.1,k.2.2.1⟩;have a:C o f ([bC aB g (ab d)]++_) w:=a.front;refine an ⟨⟨_,_,i,a⟩,?_⟩;refine af 16 3 j (aR 19 j (ew a j j (λs w a=>?_)));have a:C o f (bE s db::_) w:=a;have a:C o f ([bC aB g (ab d)]++_) w:=a.front;refine an ⟨⟨_,_,i,a⟩,?_⟩;rotate_left
 refine ew a j j (λs w a=>?_);have a:C o f (bE s db::_) w:=a;have a:C o f ([bC aB e (ab d)]++_) w:=a.front;refine an ⟨⟨_,_,i,a⟩,?_⟩;refine aR 15 j ?_;have k:=bH.sI e (⟨3,0,0,[],e.prod,e.b5,e.last,0,dT⟩:bF);obtain⟨g,l,p,n⟩:∃g l p,e.op (⟨3,0,0,[],e.prod,e.b5,e.last,0,dT⟩:bF)=(g,l,p):=⟨_,_,_,j⟩;rw [n] at k;have q:=qQ (aB:=aB) (e:=e) (u:=(ab d)) (I:=(⟨3,0,0,[],e.prod,e.b5,e.last,0,dT⟩:bF)) aJ a.ours;rw [n] at q;refine bB j j j q (λw t=>?_);have a:=a.b2 t;have i:g.prod=e.prod/\g.b5=e.b5/\g.last=e.last:=⟨k.1,k.2.1,k.2.2.1⟩;have a:C o f ([bC aB g (ab d)]++_) w:=a.front;refine an ⟨⟨_,_,i,a⟩,?_⟩;refine af 16 3 j ?_;rotate_left
 all_goals
  refine aR 20 j (c2 (a.bc s) j j j j j bG (λw a=>?_));have a:=C.whole (U:=l.cs) a j;have a:C o f (bE s l::_) w:=a;have a:C o f ([bC aB g (ab d)]++_) w:=a.front;refine an ⟨⟨_,_,i,a⟩,?_⟩;refine af 21 1 j (bK (ar 6 j (ax (C.aj (b:=aB) a) j) (am 1 j (bS 47 (.bool true) j (aG Value.bool ((k.2.2.2.1.trans D))) ?_))));refine dF 5 (a.bc aB) j j j j (λw a=>?_);have a:C o f (bC aB {g with dg:=(p !=0)} (ab d)::_) w:=a;refine bM 2 (U:=l.cs) j j j (bn (C.aj (b:=s) a)) (b6 1 (a.bc m) j j j j j (λw a=>?_));have a:=C.whole (U:=l.cs) a j;have a:C o f (bE m l::_) w:=a;refine bD 1 j ⟨_,dr results44 j j j j (bn (C.aj (b:=m) a)),?_⟩
  have he:e.end_ dT=({g with dg:=(p !=0)},l,p):=by
   unfold bH.end_;rw [aI (by rw [D,R];decide)];unfold bH.op at n;split
   .rename_i h;rw [a6 h] at n;cases n;have N:((7:Int) !=0)=true:=by decide
    rw [N,<-D]
   .rename_i h;rw [aI h] at n;cases n;rfl
  rw [he];have a:C o f [bC aB {g with dg:=(p !=0)} (ab d),ay 247 d ah I,H] w:=a.as;exact⟨j,_,⟨_,_,⟨d,ah,I,L,H,j,hm,show c7 nL L g.parts H from k.2.2.2.2.symm▸K,j⟩,j⟩,C.perm (A:=[bC aB {g with dg:=(p !=0)} (ab d),ay 247 d ah I,H]) a (by simp)⟩
theorem CV{o:World}{aB:Nat}{e:bH}{G:List Chunk}{n:Int}(ag:h0 aB e G)(aJ:0<=e.next)(au:0<=e.last)(a:Own [G] o):Calls prog 42 #[ab aB,ae n] o λr w=>r= .tuple #[.agg (e.gI n).2.1.cs.toArray,ae (e.gI n).2.2]/\∃ai,h0 aB (e.gI n).1 ai/\C o (av [G]) [ai] w:=by
 obtain⟨u,bP,Z,rfl⟩:=ag;have S:h0 aB e (bC aB e u++bP):=⟨u,bP,Z,j⟩;obtain⟨f,Y⟩:∃f,f=av [bC aB e u++bP]:=⟨_,j⟩;rw [<-Y];have a:C o f [bC aB e u++bP] o:=Y▸a;obtain⟨d,ah,I,W,H,rfl,hm,T,rfl⟩:=Z;have a:C o f [bC aB e (ab d),ay 247 d ah I,H] o:=C.perm (B:=[bC aB e (ab d),ay 247 d ah I,H]) a (by simp);have aa:=T;refine eV func42 (b7 2 a j (λi w a=>?_));have a:C o f [bE i db,bC aB e (ab d),ay 247 d ah I,H] w:=a;refine ar 13 j (ax (C.aj (b:=aB) a) j) (am 1 j ?_);rcases L:aZ e.parts n with _|q
 .have E:=nm (k:=n) (dI.own (a.to (ay 247 d ah I)) hm);refine bk 0 E j (λr w⟨M,K⟩=>?_);have a:=a.aL K;have al:=T.nv L;simp only [al,rE,rF] at M;subst M;have a:C o f [bE i db,bC aB e (ab d),ay 247 d ah I,H] w:=a.as;refine ar 12 j (ax (C.aj (b:=aB) a) j) (bm 2 j j (λy=>?_) (λy=>?_));refine am 2 j (cN (c:=db.cs.toArray) j j j (λ_=>by kernel_rfl) ?_);refine b6 0 (a.bc i) j j j j j (λw a=>?_);have a:=C.whole (U:=(db:bF).cs) a j;have a:C o f (bE i db::_) w:=a;refine bD 1 j ⟨_,dr results42 j j j j (bn (C.aj (b:=i) a)),?_⟩;have v:e.gI n=(e,db,6):=a6 (by simpa using y);rotate_left
  refine am 8 j (cN (c:=db.cs.toArray) j j j (λ_=>by kernel_rfl) ?_);refine b6 0 (a.bc i) j j j j j (λw a=>?_);have a:=C.whole (U:=(db:bF).cs) a j;have a:C o f (bE i db::_) w:=a;refine bD 1 j ⟨_,dr results42 j j j j (bn (C.aj (b:=i) a)),?_⟩
  have v:e.gI n=(e,db,1):=by
   unfold bH.gI;rw [aI (by rw [show e.known=true from by simpa using y];decide),L]
  rotate_left
  all_goals
   rw [v];have a:C o f [bC aB e (ab d),ay 247 d ah I,H] w:=a.as;exact⟨j,_,S,C.perm (A:=[bC aB e (ab d),ay 247 d ah I,H]) a (by simp)⟩
 have E:=nm (k:=n) (dI.own (a.to (ay 247 d ah I)) hm);refine bk 0 E j (λr w⟨M,K⟩=>?_);have a:=a.aL K;obtain⟨v0,H1,ap,t,ak,rfl,⟨aN,pu,s,rfl,ac,rfl⟩,ao⟩:=T.find L;simp only [ak,me,oC] at M;subst M;have a:C o f [bE i db,bC aB e (ab d),ay 247 d ah I,H1,dX aN q pu,s,t] w:=C.perm (A:=[bE i db,bC aB e (ab d),ay 247 d ah I,H1++((dX aN q pu++s)++t)]) a.as (by simp);refine ar 12 j (ax (C.aj (b:=aB) a) j) (bm 2 j j (λy=>?_) (λy=>?_))
 .refine am 2 j (cN (c:=db.cs.toArray) j j j (λ_=>by kernel_rfl) ?_);refine b6 0 (a.bc i) j j j j j (λw a=>?_);have a:=C.whole (U:=(db:bF).cs) a j;have a:C o f (bE i db::_) w:=a;refine bD 1 j ⟨_,dr results42 j j j j (bn (C.aj (b:=i) a)),?_⟩;have v:e.gI n=(e,db,6):=a6 (by simpa using y);rw [v];have a:C o f [bC aB e (ab d),ay 247 d ah I,H1,dX aN q pu,s,t] w:=a.as;exact⟨j,_,S,C.perm (A:=[bC aB e (ab d),ay 247 d ah I,H1,dX aN q pu,s,t]) a (by simp)⟩
 refine ar 11 j (ax (C.aj (b:=aB) a) j) (am 2 j (cT 40 j (λO=>?_) (λO=>?_)));refine ar 3 j (ax (C.aj (b:=aB) a) j) (b8 3 j j (λN=>?_) (λN=>?_))
 .refine am 2 j (cN (c:=db.cs.toArray) j j j (λ_=>by kernel_rfl) ?_);refine b6 0 (a.bc i) j j j j j (λw a=>?_);have a:=C.whole (U:=(db:bF).cs) a j;have a:C o f (bE i db::_) w:=a;refine bD 1 j ⟨_,dr results42 j j j j (bn (C.aj (b:=i) a)),?_⟩
  have v:e.gI n=(e,db,7):=by
   unfold bH.gI;rw [aI (by rw [show e.known=true from by simpa using y];decide),L];exact a6 ⟨by simpa using O,by first|(have:=N;omega)|(have:=of_decide_eq_true X;omega)⟩
  rw [v];have a:C o f [bC aB e (ab d),ay 247 d ah I,H1,dX aN q pu,s,t] w:=a.as;exact⟨j,_,S,C.perm (A:=[bC aB e (ab d),ay 247 d ah I,H1,dX aN q pu,s,t]) a (by simp)⟩
 have Q:e.dg=false->e.last<100:=λbw=>by
  first|(exact absurd bw (by rw [show e.dg=true from by simpa using O];decide))|(have:=N;omega)|(have:=of_decide_eq_false X;omega)
 refine ar 6 j (ax (C.aj (b:=aB) a) j) ?_;rotate_left
 have Q:e.dg=false->e.last<100:=λbw=>by
  first|(exact absurd bw (by rw [show e.dg=true from by simpa using O];decide))|(have:=N;omega)|(have:=of_decide_eq_false X;omega)
 refine ar 14 j (ax (C.aj (b:=aB) a) j) ?_;rotate_left
 all_goals
  refine ar 7 j (ax (C.aj (b:=aB) a) j) (bm 1 j j (λP=>?_) (λP=>?_));have aq:e.last<100:=Q (by simpa using P);refine bq 2 j j j (qy (by omega) (by omega)) ?_;have p:e.prod=e.prod/\e.b5=e.b5/\e.last=e.last:=⟨j,j,j⟩;have a:C o f ([bC aB e (ab d)]++_) _:=a.front;have a:=a.drew;refine bt 2 j (λw=>∃D ad,(D.prod=e.prod/\D.b5=e.b5/\D.last=e.last)/\C o f ([bC aB D (ab d)]++ad) w) ⟨_,_,p,a⟩ (iY 8 (ae e.ga) j (aG ae (show e.last+1=e.ga by unfold bH.ga;rw [if_neg (by rw [show e.dg=false from by simpa using P];decide)])) ?_);rotate_left
  have p:e.prod=e.prod/\e.b5=e.b5/\e.last=e.last:=⟨j,j,j⟩;have a:C o f ([bC aB e (ab d)]++_) _:=a.front;have a:=a.drew;refine bt 2 j (λw=>∃D ad,(D.prod=e.prod/\D.b5=e.b5/\D.last=e.last)/\C o f ([bC aB D (ab d)]++ad) w) ⟨_,_,p,a⟩ (iY 8 (ae e.ga) j (aG ae (show e.last=e.ga by unfold bH.ga;rw [if_pos (by simpa using P)])) ?_);rotate_left
  all_goals
   refine af 0 4 j (bR 4 j (λw⟨_,_,p,a⟩=>ax (C.aj (b:=aB) a) (aG (λz=>some (ae z)) p.1)) (af 5 3 j (bR 8 j (λw⟨_,_,p,a⟩=>ax (C.aj (b:=aB) a) (aG (λz=>some (ae z)) p.2.1)) (af 9 2 j (aT 11 j (λw _=>e3 (c:=(⟨2,0,0,[],e.prod,e.b5,e.ga,n,false⟩:bF).cs.toArray) j (λ_=>by kernel_rfl)) (aO 12 16 j j ?_ ?_))))));have x:=bH.sI e (⟨2,0,0,[],e.prod,e.b5,e.ga,n,false⟩:bF);obtain⟨g,m,F,l⟩:∃g m F,e.op (⟨2,0,0,[],e.prod,e.b5,e.ga,n,false⟩:bF)=(g,m,F):=⟨_,_,_,j⟩;rw [l] at x;have E:=qQ (aB:=aB) (e:=e) (u:=(ab d)) (I:=(⟨2,0,0,[],e.prod,e.b5,e.ga,n,false⟩:bF)) aJ a.ours;rw [l] at E;refine bB j j j E (λw K=>?_);have a:=a.b2 K;have p:g.prod=e.prod/\g.b5=e.b5/\g.last=e.last:=⟨x.1,x.2.1,x.2.2.1⟩;have a:C o f ([bC aB g (ab d)]++_) w:=a.front;refine an ⟨⟨_,_,p,a⟩,?_⟩;refine af 13 3 j (aR 16 j (ew a j j (λJ w a=>?_)));have a:C o f (bE J db::_) w:=a;have a:C o f ([bC aB g (ab d)]++_) w:=a.front;refine an ⟨⟨_,_,p,a⟩,?_⟩;rotate_left
   refine ew a j j (λJ w a=>?_);have a:C o f (bE J db::_) w:=a;have a:C o f ([bC aB e (ab d)]++_) w:=a.front;refine an ⟨⟨_,_,p,a⟩,?_⟩;refine aR 12 j ?_;have x:=bH.sI e (⟨2,0,0,[],e.prod,e.b5,e.ga,n,false⟩:bF);obtain⟨g,m,F,l⟩:∃g m F,e.op (⟨2,0,0,[],e.prod,e.b5,e.ga,n,false⟩:bF)=(g,m,F):=⟨_,_,_,j⟩;rw [l] at x;have E:=qQ (aB:=aB) (e:=e) (u:=(ab d)) (I:=(⟨2,0,0,[],e.prod,e.b5,e.ga,n,false⟩:bF)) aJ a.ours;rw [l] at E;refine bB j j j E (λw K=>?_);have a:=a.b2 K;have p:g.prod=e.prod/\g.b5=e.b5/\g.last=e.last:=⟨x.1,x.2.1,x.2.2.1⟩;have a:C o f ([bC aB g (ab d)]++_) w:=a.front;refine an ⟨⟨_,_,p,a⟩,?_⟩;refine af 13 3 j ?_;rotate_left
   all_goals
    refine aR 17 j (c2 (a.bc J) j j j j j bG (λw a=>?_));have a:=C.whole (U:=m.cs) a j;have a:C o f (bE J m::_) w:=a;have a:C o f ([bC aB g (ab d)]++_) w:=a.front;refine an ⟨⟨_,_,p,a⟩,?_⟩;refine af 18 1 j (bK (bm 5 j j (λR=>?_) (λR=>?_)))
    .refine dF 8 (a.bc aB) j j j j (λw a=>?_);have a:C o f (bC aB {g with last:=e.ga} (ab d)::_) w:=a;refine dF 2 (a.bc aB) j j j j (λw a=>?_);have a:C o f (bC aB {g with last:=e.ga,dg:=true} (ab d)::_) w:=a;refine dF 2 (a.bc aN) j j j j (λw a=>?_);have a:C o f (dX aN ({q with begun:=e.ga}) pu::_) w:=a;refine bM 2 (U:=m.cs) j j j (bn (C.aj (b:=J) a)) (b6 1 (a.bc i) j j j j j (λw a=>?_));have a:=C.whole (U:=m.cs) a j;have a:C o f (bE i m::_) w:=a;refine bD 1 j ⟨_,dr results42 j j j j (bn (C.aj (b:=i) a)),?_⟩;have V:F=0:=d5.1 R
     have v:e.gI n=({g with last:=e.ga,dg:=true,parts:=cj e.parts n ({q with begun:=e.ga})},m,F):=by
      unfold bH.gI;rw [aI (by rw [show e.known=true from by simpa using y];decide),L];dsimp only;rw [aI (λh=>absurd h.2 (by have:=Q h.1;omega))];unfold bH.op at l;split
      .rename_i h;rw [a6 h] at l;cases l;cases V
      .rename_i h;rw [aI h] at l;cases l;rfl
     rw [v];have a:C o f [bC aB {g with last:=e.ga,dg:=true} (ab d),ay 247 d ah I,H1,dX aN ({q with begun:=e.ga}) pu,s,t] w:=a.as;exact⟨j,_,⟨_,_,⟨d,ah,I,W,_,j,hm,ao ({q with begun:=e.ga}) _ ⟨aN,pu,s,j,ac,j⟩,j⟩,j⟩,C.perm (A:=[bC aB {g with last:=e.ga,dg:=true} (ab d),ay 247 d ah I,H1,dX aN ({q with begun:=e.ga}) pu,s,t]) a (by simp)⟩
    refine bM 3 (U:=m.cs) j j j (bn (C.aj (b:=J) a)) (b6 1 (a.bc i) j j j j j (λw a=>?_));have a:=C.whole (U:=m.cs) a j;have a:C o f (bE i m::_) w:=a;refine bD 1 j ⟨_,dr results42 j j j j (bn (C.aj (b:=i) a)),?_⟩;have V:F≠0:=by simpa using R
    have v:e.gI n=(g,m,F):=by
     unfold bH.gI;rw [aI (by rw [show e.known=true from by simpa using y];decide),L];dsimp only;rw [aI (λh=>absurd h.2 (by have:=Q h.1;omega))];unfold bH.op at l;split
     .rename_i h;rw [a6 h] at l;cases l;rfl
     .rename_i h;rw [aI h] at l;cases l;exact absurd j V
    rw [v];have a:C o f [bC aB g (ab d),ay 247 d ah I,H1,dX aN q pu,s,t] w:=a.as;exact⟨j,_,⟨_,_,⟨d,ah,I,W,_,j,hm,show c7 nL W g.parts (H1++((dX aN q pu++s)++t)) from x.2.2.2.2.symm▸aa,j⟩,j⟩,C.perm (A:=[bC aB g (ab d),ay 247 d ah I,H1,dX aN q pu,s,t]) a (by simp)⟩
def eW:ei:=⟨0,0,0,0,[]⟩
def bH.ik(e:bH)(q:hn)(x:List UInt8):ei:=⟨e.prod,e.b5,e.last,q.next,x⟩
def bH.record(e:bH)(n:Int)(x:List UInt8):bH×ei×Int:=match aZ e.parts n with
 |none=>(e,eW,6)
 |some q=>if e.dg=false\/q.begun≠e.last then(e,eW,6)
  else match q.out with
   |some r=>(e,r,0)
   |none=>if 200<x.length then(e,eW,1) else if 1048576<q.next then(e,eW,7)
    else({e with parts:=cj e.parts n {q with next:=q.next+1,out:=some (e.ik q x)}},e.ik q x,0)
theorem xO{o:World}{r:ei}{B:Option Addr}{aU:Nat}(i:Rd o B (au r.x))(h:r.x.length<=1000000000):Calls prog 135 #[.agg (rcc r (.slice B r.x.length aU)).toArray] o λz w=>∃u G,z= .agg (rcc r u).toArray/\du u r.x G/\C o [] [G] w:=by
 have a:Own [] o:=C.start o;refine eV func135 (bL 2 a j j (λaz w a=>b7 0 a j (λaO w a=>?_)));have a:C o [] [R aO (rcc eW (.slice none 0 0)).toArray 182,R az (rcc r (.slice B r.x.length aU)).toArray 182] w:=a;refine ar 3 j (ax (C.aj (b:=az) a) j) (bk 0 (g2 (c:=aU) (a.rd i (bT.of_nil _ _)) h) j (λz w⟨f,e,g⟩=>?_));obtain⟨d,bQ,rfl,_,_⟩:=e.form;have a:=a.aL g;refine dF 1 (a.bc az) j j j j (λw a=>?_);have a:C o [] (R az (rcc r (.slice d r.x.length bQ)).toArray 182::_) w:=a;refine bM 2 (U:=rcc r (.slice d r.x.length bQ)) j j j (bn (C.aj (b:=az) a)) (b6 0 (a.bc aO) j j j j j (λw a=>?_));have a:=C.whole (U:=rcc r (.slice d r.x.length bQ)) a j;have a:C o [] (R aO (rcc r (.slice d r.x.length bQ)).toArray 182::_) w:=a;refine bD 0 j ⟨_,gr results135 j j j (a.bz),?_⟩;exact⟨.slice d r.x.length bQ,f,j,e,a.as⟩
theorem Ab{o:World}{aB:Nat}{e:bH}{G:List Chunk}{n:Int}{x:List UInt8}{bb:Option Addr}{hd:Nat}(aG:h0 aB e G)(aC:∀p∈e.parts,0<=p.2.next/\∀r,p.2.out=some r->r.x.length<=200)(aE:Rd o bb (au x))(ag:bT bb (au x) (av [G]))(a:Own [G] o):Calls prog 78 #[ab aB,ae n,.slice bb x.length hd] o λz w=>∃u ao,z= .tuple #[.agg (rcc (e.record n x).2.1 u).toArray,ae (e.record n x).2.2]/\du u (e.record n x).2.1.x ao/\∃ai,h0 aB (e.record n x).1 ai/\C o (av [G]) [ai,ao] w:=by
 obtain⟨u,bP,az,rfl⟩:=aG;have J:h0 aB e (bC aB e u++bP):=⟨u,bP,az,j⟩;obtain⟨f,aw⟩:∃f,f=av [bC aB e u++bP]:=⟨_,j⟩;rw [<-aw] at ag⊢;have a:C o f [bC aB e u++bP] o:=aw▸a;obtain⟨d,ah,I,aM,H,rfl,hm,al,rfl⟩:=az;have a:C o f [bC aB e (ab d),ay 247 d ah I,H] o:=C.perm (B:=[bC aB e (ab d),ay 247 d ah I,H]) a (by simp);refine eV func78 (b7 2 a j (λg w a=>?_));have a:C o f [R g (rcc eW (.slice none 0 0)).toArray 182,bC aB e (ab d),ay 247 d ah I,H] w:=a;refine ar 13 j (ax (C.aj (b:=aB) a) j) (am 1 j ?_);rcases zS e.parts n with m|⟨q,m,K⟩|⟨q,ro,m,K⟩
 .have X:=nm (k:=n) (dI.own (a.to (ay 247 d ah I)) hm);refine bk 0 X j (λr w⟨D,y⟩=>?_);have a:=a.aL y;have aH:=al.nv m;simp only [aH,rE,rF] at D;subst D;have a:C o f [R g (rcc eW (.slice none 0 0)).toArray 182,bC aB e (ab d),ay 247 d ah I,H] w:=a.as;have a:C o f ([bC aB e (ab d)]++_) _:=a.front;have a:=a.drew;refine bt 8 j (λw=>∃ad,C o f ([bC aB e (ab d)]++ad) w) ⟨_,a⟩ (af 0 21 j (bK (am 3 j (cN (c:=(rcc eW (.slice none 0 0)).toArray) j j j (λ_=>by kernel_rfl) ?_))));refine b6 0 (a.bc g) j j j j j (λw a=>?_);have a:=C.whole (U:=rcc eW (.slice none 0 0)) a j;have a:C o f (R g (rcc eW (.slice none 0 0)).toArray 182::_) w:=a;refine bD 1 j ⟨_,dr results78 j j j j (bn (C.aj (b:=g) a)),?_⟩
  have l:e.record n x=(e,eW,6):=by
   unfold bH.record;rw [m];all_goals rfl
  rw [l];have a:C o f [bC aB e (ab d),ay 247 d ah I,H,[]] _:=a.empty.as;exact⟨.slice none 0 0,[],j,Row.nil _ _,_,J,C.perm (A:=[bC aB e (ab d),ay 247 d ah I,H,[]]) a (by simp)⟩
 .have X:=nm (k:=n) (dI.own (a.to (ay 247 d ah I)) hm);refine bk 0 X j (λr w⟨D,y⟩=>?_);have a:=a.aL y;obtain⟨v0,H1,aF,i,ak,rfl,⟨aN,pu,Z,rfl,O,rfl⟩,aD⟩:=al.find m;simp only [ak,me,oC] at D;subst D;obtain⟨rfl,rfl⟩:pu= .pointer none/\Z=[]:=by unfold mU at O;rw [K] at O;exact O
  have a:C o f [R g (rcc eW (.slice none 0 0)).toArray 182,bC aB e (ab d),ay 247 d ah I,H1,dX aN q (.pointer none),[],i] w:=C.perm (A:=[R g (rcc eW (.slice none 0 0)).toArray 182,bC aB e (ab d),ay 247 d ah I,H1++((dX aN q (.pointer none)++([]))++i)]) a.as (by simp);have a:C o f ([bC aB e (ab d),dX aN q (.pointer none)]++_) _:=a.front;have a:=a.drew;refine bt 8 j (λw=>∃ad,C o f ([bC aB e (ab d),dX aN q (.pointer none)]++ad) w) ⟨_,a⟩ (af 0 6 j (a8 6 j a1 j (af 7 3 j (ef 33 j (λN=>?_) (λN=>?_)))))
  .refine af 10 11 j (bK (am 3 j (cN (c:=(rcc eW (.slice none 0 0)).toArray) j j j (λ_=>by kernel_rfl) ?_)));refine b6 0 (a.bc g) j j j j j (λw a=>?_);have a:=C.whole (U:=rcc eW (.slice none 0 0)) a j;have a:C o f (R g (rcc eW (.slice none 0 0)).toArray 182::_) w:=a;refine bD 1 j ⟨_,dr results78 j j j j (bn (C.aj (b:=g) a)),?_⟩
   have l:e.record n x=(e,eW,6):=by
    unfold bH.record;rw [m];exact a6 (.inl (by simpa using N))
   rw [l];have a:C o f [bC aB e (ab d),ay 247 d ah I,H1,dX aN q (.pointer none),[],i] _:=a.as;exact⟨.slice none 0 0,[],j,Row.nil _ _,_,J,C.perm (A:=[bC aB e (ab d),ay 247 d ah I,H1,dX aN q (.pointer none),[],i]) a (by simp)⟩
  refine af 10 3 j (a8 13 j a1 j (af 14 3 j (a8 17 j a1 j (af 18 3 j (bK (bm 0 j j (λM=>?_) (λM=>?_)))))))
  .refine am 2 j (cN (c:=(rcc eW (.slice none 0 0)).toArray) j j j (λ_=>by kernel_rfl) ?_);refine b6 0 (a.bc g) j j j j j (λw a=>?_);have a:=C.whole (U:=rcc eW (.slice none 0 0)) a j;have a:C o f (R g (rcc eW (.slice none 0 0)).toArray 182::_) w:=a;refine bD 1 j ⟨_,dr results78 j j j j (bn (C.aj (b:=g) a)),?_⟩
   have l:e.record n x=(e,eW,6):=by
    unfold bH.record;rw [m];exact a6 (.inr (by first|simpa using aa|simpa using M))
   rw [l];have a:C o f [bC aB e (ab d),ay 247 d ah I,H1,dX aN q (.pointer none),[],i] _:=a.as;exact⟨.slice none 0 0,[],j,Row.nil _ _,_,J,C.perm (A:=[bC aB e (ab d),ay 247 d ah I,H1,dX aN q (.pointer none),[],i]) a (by simp)⟩
  have Y:e.dg=true:=by simpa using N
  have W:q.begun=e.last:=by first|simpa using aa|simpa using M
  refine ar 5 j (ax (C.aj (b:=aN) a) j) (b8 9 j j (λap=>?_) (λap=>?_))
  .refine am 2 j (cN (c:=(rcc eW (.slice none 0 0)).toArray) j j j (λ_=>by kernel_rfl) ?_);refine b6 0 (a.bc g) j j j j j (λw a=>?_);have a:=C.whole (U:=rcc eW (.slice none 0 0)) a j;have a:C o f (R g (rcc eW (.slice none 0 0)).toArray 182::_) w:=a;refine bD 1 j ⟨_,dr results78 j j j j (bn (C.aj (b:=g) a)),?_⟩
   have l:e.record n x=(e,eW,1):=by
    unfold bH.record;rw [m];dsimp only;rw [aI (λh=>h.elim (λh=>by rw [show e.dg=true from Y] at h;cases h) (λh=>h W)),K];exact a6 (by omega)
   rw [l];have a:C o f [bC aB e (ab d),ay 247 d ah I,H1,dX aN q (.pointer none),[],i] _:=a.as;exact⟨.slice none 0 0,[],j,Row.nil _ _,_,J,C.perm (A:=[bC aB e (ab d),ay 247 d ah I,H1,dX aN q (.pointer none),[],i]) a (by simp)⟩
  refine ar 5 j (ax (C.aj (b:=aN) a) j) (b8 2 j j (λaq=>?_) (λaq=>?_))
  .refine am 2 j (cN (c:=(rcc eW (.slice none 0 0)).toArray) j j j (λ_=>by kernel_rfl) ?_);refine b6 0 (a.bc g) j j j j j (λw a=>?_);have a:=C.whole (U:=rcc eW (.slice none 0 0)) a j;have a:C o f (R g (rcc eW (.slice none 0 0)).toArray 182::_) w:=a;refine bD 1 j ⟨_,dr results78 j j j j (bn (C.aj (b:=g) a)),?_⟩
   have l:e.record n x=(e,eW,7):=by
    unfold bH.record;rw [m];dsimp only;rw [aI (λh=>h.elim (λh=>by rw [show e.dg=true from Y] at h;cases h) (λh=>h W)),K];dsimp only;rw [aI (by omega)];exact a6 (by omega)
   rw [l];have a:C o f [bC aB e (ab d),ay 247 d ah I,H1,dX aN q (.pointer none),[],i] _:=a.as;exact⟨.slice none 0 0,[],j,Row.nil _ _,_,J,C.perm (A:=[bC aB e (ab d),ay 247 d ah I,H1,dX aN q (.pointer none),[],i]) a (by simp)⟩
  have a:C o f ([bC aB e (ab d),dX aN q (.pointer none)]++_) _:=a.front;have a:=a.drew;refine bt 2 j (λw=>∃ad,C o f ([bC aB e (ab d),dX aN q (.pointer none)]++ad) w) ⟨_,a⟩ (af 0 3 j (a8 3 j a1 j (af 4 3 j (a8 7 j a1 j (af 8 3 j (a8 11 j a1 j (af 12 3 j (a8 15 j a1 j (af 16 1 j (aO 17 19 j j ?_ ?_))))))))));refine cO j j j (g2 (c:=hd) (a.rd aE ag) (by omega)) (λz w⟨S,V,y⟩=>?_);obtain⟨E,bQ,rfl,_,_⟩:=V.form;have a:=a.aL y;have a:C o f ([bC aB e (ab d),dX aN q (.pointer none)]++_) w:=a.front;refine an ⟨⟨_,a⟩,?_⟩;refine aT 18 j (λw _=>e3 (c:=(rcc (e.ik q x) (.slice E x.length bQ)).toArray) j (λ_=>by kernel_rfl)) (aR 19 j (ew a j j (λv w a=>?_)));have a:C o f (R v (rcc eW (.slice none 0 0)).toArray 182::_) w:=a;have a:C o f ([bC aB e (ab d),dX aN q (.pointer none)]++_) w:=a.front;refine an ⟨⟨_,a⟩,?_⟩;rotate_left
  refine ew a j j (λv w a=>?_);have a:C o f (R v (rcc eW (.slice none 0 0)).toArray 182::_) w:=a;have a:C o f ([bC aB e (ab d),dX aN q (.pointer none)]++_) w:=a.front;refine an ⟨⟨_,a⟩,?_⟩;refine aR 17 j (cO j j j (g2 (c:=hd) (a.rd aE ag) (by omega)) (λz w⟨S,V,y⟩=>?_));obtain⟨E,bQ,rfl,_,_⟩:=V.form;have a:=a.aL y;have a:C o f ([bC aB e (ab d),dX aN q (.pointer none)]++_) w:=a.front;refine an ⟨⟨_,a⟩,?_⟩;refine aT 18 j (λw _=>e3 (c:=(rcc (e.ik q x) (.slice E x.length bQ)).toArray) j (λ_=>by kernel_rfl)) ?_;rotate_left
  all_goals
   refine dA 20 j (c2 (a.bc v) j j j j j bG (λw a=>?_));have a:=C.whole (U:=rcc (e.ik q x) (.slice E x.length bQ)) a j;have a:C o f (R v (rcc (e.ik q x) (.slice E x.length bQ)).toArray 182::_) w:=a;refine an (cU (ar 5 j (ax (C.aj (b:=aN) a) j) (bq 0 j j j (qy (by have:0<=q.next:=(aC _ (hS m)).1;have:=aq;omega) (by omega)) (dF 2 (a.bc aN) j j j j (λw a=>?_)))));have a:C o f (dX aN ({q with next:=q.next+1,out:=some (e.ik q x)}) (.pointer none)::_) w:=a;refine dF 5 (a.bc aN) j j j j (λw a=>?_);have a:C o f (dX aN ({q with next:=q.next+1,out:=some (e.ik q x)}) (ab v)::_) w:=a;refine bM 2 (U:=rcc (e.ik q x) (.slice E x.length bQ)) j j j (bn (C.aj (b:=v) a)) ?_;obtain⟨_,_,ac,_,_,aK,_⟩:=Row.read V (a.holds (G:=S) (by simp));cases ac;refine bk 0 (xO (r:=(e.ik q x)) (B:=E) (aU:=bQ) aK (by have:=ap;show x.length<=_;omega)) j (λz w⟨aP,L,D,P,y⟩=>?_);subst D;obtain⟨Q,T,rfl,_,_⟩:=Row.form P;have a:=a.aL y;refine b6 0 (a.bc g) j j j j j (λw a=>?_);have a:=C.whole (U:=rcc (e.ik q x) (.slice Q x.length T)) a j;have a:C o f (R g (rcc (e.ik q x) (.slice Q x.length T)).toArray 182::_) w:=a;refine bD 1 j ⟨_,dr results78 j j j j (bn (C.aj (b:=g) a)),?_⟩
   have l:e.record n x=({e with parts:=cj e.parts n ({q with next:=q.next+1,out:=some (e.ik q x)})},(e.ik q x),0):=by
    unfold bH.record;rw [m];dsimp only;rw [aI (λh=>h.elim (λh=>by rw [show e.dg=true from Y] at h;cases h) (λh=>h W)),K];dsimp only;rw [aI (by omega),aI (by omega)]
   rw [l];have a:C o f [bC aB e (ab d),ay 247 d ah I,H1,dX aN ({q with next:=q.next+1,out:=some (e.ik q x)}) (ab v),R v (rcc (e.ik q x) (.slice E x.length bQ)).toArray 182,S,i,L] _:=a.as;exact⟨_,L,j,P,_,⟨_,_,⟨d,ah,I,aM,_,j,hm,aD ({q with next:=q.next+1,out:=some (e.ik q x)}) _ ⟨aN,ab v,_,j,⟨v,(.slice E x.length bQ),S,j,V,j⟩,j⟩,j⟩,j⟩,C.perm (A:=[bC aB e (ab d),ay 247 d ah I,H1,dX aN ({q with next:=q.next+1,out:=some (e.ik q x)}) (ab v),R v (rcc (e.ik q x) (.slice E x.length bQ)).toArray 182,S,i,L]) a (by simp)⟩
 have X:=nm (k:=n) (dI.own (a.to (ay 247 d ah I)) hm);refine bk 0 X j (λr w⟨D,y⟩=>?_);have a:=a.aL y;obtain⟨v0,H1,aF,i,ak,rfl,⟨aN,pu,Z,rfl,O,rfl⟩,aD⟩:=al.find m;simp only [ak,me,oC] at D;subst D;obtain⟨bZ,aV,ai,rfl,aA,rfl⟩:∃b u ai,pu=ab b/\du u ro.x ai/\Z=R b #[ae ro.p,ae ro.e,ae ro.t,ae ro.s,u] 182++ai:=by unfold mU at O;rw [K] at O;exact O
 obtain⟨F,co,rfl,_,aQ⟩:=Row.form aA;have a:C o f [R g (rcc eW (.slice none 0 0)).toArray 182,bC aB e (ab d),ay 247 d ah I,H1,dX aN q (ab bZ),R bZ (rcc ro (.slice F ro.x.length co)).toArray 182,ai,i] w:=C.perm (A:=[R g (rcc eW (.slice none 0 0)).toArray 182,bC aB e (ab d),ay 247 d ah I,H1++((dX aN q (ab bZ)++(R bZ (rcc ro (.slice F ro.x.length co)).toArray 182++ai))++i)]) a.as (by simp);have a:C o f ([bC aB e (ab d),dX aN q (ab bZ)]++_) _:=a.front;have a:=a.drew;refine bt 8 j (λw=>∃ad,C o f ([bC aB e (ab d),dX aN q (ab bZ)]++ad) w) ⟨_,a⟩ (af 0 6 j (a8 6 j a1 j (af 7 3 j (ef 33 j (λN=>?_) (λN=>?_)))))
 .refine af 10 11 j (bK (am 3 j (cN (c:=(rcc eW (.slice none 0 0)).toArray) j j j (λ_=>by kernel_rfl) ?_)));refine b6 0 (a.bc g) j j j j j (λw a=>?_);have a:=C.whole (U:=rcc eW (.slice none 0 0)) a j;have a:C o f (R g (rcc eW (.slice none 0 0)).toArray 182::_) w:=a;refine bD 1 j ⟨_,dr results78 j j j j (bn (C.aj (b:=g) a)),?_⟩
  have l:e.record n x=(e,eW,6):=by
   unfold bH.record;rw [m];exact a6 (.inl (by simpa using N))
  rw [l];have a:C o f [bC aB e (ab d),ay 247 d ah I,H1,dX aN q (ab bZ),R bZ (rcc ro (.slice F ro.x.length co)).toArray 182,ai,i] _:=a.as;exact⟨.slice none 0 0,[],j,Row.nil _ _,_,J,C.perm (A:=[bC aB e (ab d),ay 247 d ah I,H1,dX aN q (ab bZ),R bZ (rcc ro (.slice F ro.x.length co)).toArray 182,ai,i]) a (by simp)⟩
 refine af 10 3 j (a8 13 j a1 j (af 14 3 j (a8 17 j a1 j (af 18 3 j (bK (bm 0 j j (λM=>?_) (λM=>?_)))))))
 .refine am 2 j (cN (c:=(rcc eW (.slice none 0 0)).toArray) j j j (λ_=>by kernel_rfl) ?_);refine b6 0 (a.bc g) j j j j j (λw a=>?_);have a:=C.whole (U:=rcc eW (.slice none 0 0)) a j;have a:C o f (R g (rcc eW (.slice none 0 0)).toArray 182::_) w:=a;refine bD 1 j ⟨_,dr results78 j j j j (bn (C.aj (b:=g) a)),?_⟩
  have l:e.record n x=(e,eW,6):=by
   unfold bH.record;rw [m];exact a6 (.inr (by first|simpa using aa|simpa using M))
  rw [l];have a:C o f [bC aB e (ab d),ay 247 d ah I,H1,dX aN q (ab bZ),R bZ (rcc ro (.slice F ro.x.length co)).toArray 182,ai,i] _:=a.as;exact⟨.slice none 0 0,[],j,Row.nil _ _,_,J,C.perm (A:=[bC aB e (ab d),ay 247 d ah I,H1,dX aN q (ab bZ),R bZ (rcc ro (.slice F ro.x.length co)).toArray 182,ai,i]) a (by simp)⟩
 have Y:e.dg=true:=by simpa using N
 have W:q.begun=e.last:=by first|simpa using aa|simpa using M
 refine ar 5 j (ax (C.aj (b:=aN) a) j) (ar 8 j (ax (C.aj (b:=aN) a) j) (bM 1 (U:=rcc ro (.slice F ro.x.length co)) j j j (bn (C.aj (b:=bZ) a)) ?_));obtain⟨_,_,ac,_,_,aJ,_⟩:=Row.read aA (a.holds (G:=ai) (by simp));cases ac;refine bk 0 (xO (r:=ro) (B:=F) (aU:=co) aJ (by have:=(aC _ (hS m)).2 _ K;omega)) j (λz w⟨aP,L,D,P,y⟩=>?_);subst D;have aS:=Row.one P;obtain⟨Q,T,rfl,_,_⟩:=Row.form P;have a:=a.aL y;refine b6 0 (a.bc g) j j j j j (λw a=>?_);have a:=C.whole (U:=rcc ro (.slice Q ro.x.length T)) a j;have a:C o f (R g (rcc ro (.slice Q ro.x.length T)).toArray 182::_) w:=a;refine bD 1 j ⟨_,dr results78 j j j j (bn (C.aj (b:=g) a)),?_⟩
 have l:e.record n x=(e,ro,0):=by
  unfold bH.record;rw [m];dsimp only;rw [aI (λh=>h.elim (λh=>by rw [show e.dg=true from Y] at h;cases h) (λh=>h W)),K]
 rw [l];have a:C o f [bC aB e (ab d),ay 247 d ah I,H1,dX aN q (ab bZ),R bZ (rcc ro (.slice F ro.x.length co)).toArray 182,ai,i,L] _:=a.as;exact⟨_,L,j,P,_,J,C.perm (A:=[bC aB e (ab d),ay 247 d ah I,H1,dX aN q (ab bZ),R bZ (rcc ro (.slice F ro.x.length co)).toArray 182,ai,i,L]) a (by simp)⟩
theorem Cx{o:World}{g:al}{bi:Nat}{b:cR}{G:List Chunk}{r:ei}{B:Option Addr}{aU:Nat}(n:jS g bi b G)(s:b.log.ck.length<=1000000)(t:b.log.c0.length<=1000000)(l:Rd o B (au r.x))(f:bT B (au r.x) (av [G]))(u:r.x.length<=aU)(a:Own [G] o):Calls prog 79 #[ab bi,.agg (rcc r (.slice B r.x.length aU)).toArray] o λz w=>z= .tuple #[ae (b.log.append r).2.1,ae (b.log.append r).2.2]/\∃ai,jS g bi {b with log:=(b.log.append r).1} ai/\C o (av [G]) [ai] w:=by
 obtain⟨c,L,M,V,h,rfl⟩:=n;obtain⟨d,k⟩:∃d,d=av [cl g bi c++(L++(M++V))]:=⟨_,j⟩;rw [<-k] at f⊢;have a:C o d [cl g bi c++(L++(M++V))] o:=k▸a;have a:=a.vQ;refine a2 func79 (bL 2 a j j (λe w a=>?_));have a:C o d [R e (rcc r (.slice B r.x.length aU)).toArray 182,cl g bi c,L,M,V] w:=a;have a:C o d ([R e (rcc r (.slice B r.x.length aU)).toArray 182,cl g bi c]++_) _:=a.front;have a:=a.drew;refine bt 10 j (λw=>∃ad,C o d ([R e (rcc r (.slice B r.x.length aU)).toArray 182,cl g bi c]++ad) w) ⟨_,a⟩ (af 0 3 j (a8 3 j a1 j (aT 4 j (λw⟨_,a⟩=>c4 (U:=rcc r (.slice B r.x.length aU)) j j j (bn (C.aj (b:=e) a))) (aR 5 j ?_))));have a:C o d (L::_) _:=a.to L;have p:=Cy (r:=r) (B:=B) (aU:=aU) h.log s t (a.rd l f) ((a.apart l f).sub (fI (by simp))) u a.ours;refine bB j j j p (λw⟨i,m,q⟩=>?_);have a:=a.b2 q;have a:C o d ([R e (rcc r (.slice B r.x.length aU)).toArray 182,cl g bi c]++_) w:=a.front;refine an ⟨⟨_,a⟩,?_⟩;refine af 6 4 j (bK (aq 0 j j ?_));have a:C o d [cl g bi c,i,M,V] _:=a.as;exact⟨j,_,⟨c,i,M,V,⟨m,h.acc,h.aH⟩,j⟩,a.li⟩
theorem CO{o:World}{p:Value}{l:List aW}{lost:Nat}{G:List Chunk}(D:gS p l lost G)(g:Holds o G){i:Nat}(u:i<l.length):Calls prog 86 #[p,.int .i64 i] o λr w=>∃(q:aC)(t:List Chunk),r= .tuple #[.agg q.cs.toArray,.bool true]/\q.P=l[i]/\fA q t/\C o [] [t] w:=by
 have a:Own [] o:=C.start o;obtain⟨b,v,bY,ag,aA,rfl,rfl,E,k,rfl⟩:=D.open;have m:i<bY.length:=by rw [ff] at u;exact u
 have s:=k.tag bY[i] (d9 m);have F:o.heap[b]? =some (.cells #[v,ae 512,ae lost] 79 (0,0)):=g.left.head;rw [rP];refine eV func86 (b7 2 a j (λc w a=>?_));have a:C o [] [bf c dP] w:=a;have H:=xj E k.tag (a.cc F) (g.right.left.st a) m;refine bp 14 H j (λw I=>?_);have a:=a.aL I;refine b7 3 a j (λd w a=>?_);have a:C o [] (bf d dP::_) w:=a;refine b6 0 (a.bc d) j j j (by simpa using(bY[i]).one) (by rw [List.size_toArray];exact(bY[i]).bU s) (λw a=>?_);have a:=C.whole (U:=(bY[i]).cs) a (by rw [(bY[i]).bU s];rfl);have a:C o [] (bf d (bY[i])::_) w:=a;refine bM 3 (U:=bY[i].cs) j j (bY[i].bU s) (bn (C.aj (b:=d) a)) ?_;obtain⟨y,x⟩:=k.read (g.right.right.st a) bY[i] (d9 m);refine bk 0 (xN y x) j (λr w⟨q,e,f,K,J,z,aa⟩=>?_);subst K;have B:=fA.qO J z y x;have n:q.tag.length=32:=by obtain⟨_,_,_,_,h,_⟩:=B;exact h
 have a:=a.aL aa;refine b6 1 (a.bc c) j j j (by simpa using(q).one) (by rw [List.size_toArray];exact(q).bU n) (λw a=>?_);have a:=C.whole (U:=(q).cs) a (by rw [(q).bU n];rfl);have a:C o [] (bf c (q)::_) w:=a;refine bD 1 j ⟨_,dr (U:=q.cs) results86 j j j (q.bU n) (bn (C.aj (b:=c) a)),?_⟩;have a:C o [] [e,f] w:=a.as;exact⟨q,e++f,j,z,B,C.perm (A:=[e,f]) a (by simp)⟩
theorem CS{o:World}{p:Value}{l:List aW}{lost:Nat}{G:List Chunk}(x:gS p l lost G)(a:Own [G] o){i:Nat}(m:i<l.length):Calls prog 47 #[p,.int .i64 i] o λr w=>r= .bool (decide (l.length<512))/\∃ai,gS p (if l.length<512 then l++[l[i]] else l) lost ai/\C o (av [G]) [ai] w:=by
 obtain⟨c,y⟩:∃c,c=av [G]:=⟨_,j⟩;rw [<-y];have a:C o c [G] o:=y▸a;have D:=x;obtain⟨b,v,bY,ag,aA,rfl,rfl,z,k,rfl⟩:=x.open;have I:i<bY.length:=by rw [ff] at m;exact m
 simp only [rP,ff];refine a2 func47 (bk 7 (CO D (a.holds (by simp)) m) j (λr w⟨q,e,H,B,t,aa⟩=>?_));subst H;rw [rP] at B;have u:q.tag.length=32:=by obtain⟨_,_,_,_,h,_⟩:=t;exact h
 have a:=a.aL aa;refine b7 3 a j (λd w a=>?_);have a:C o c (bf d dP::_) w:=a;refine b6 0 (a.bc d) j j j (by simpa using(q).one) (by rw [List.size_toArray];exact(q).bU u) (λw a=>?_);have a:=C.whole (U:=(q).cs) a (by rw [(q).bU u];rfl);have a:C o c (bf d (q)::_) w:=a;have a:C o c ([bf d q]++_) _:=a.front;have a:=a.drew;refine bt 2 j (λw=>∃ad,C o c ([bf d q]++ad) w) ⟨_,a⟩ (af 0 5 j (aT 5 j (λw⟨_,a⟩=>c4 (U:=q.cs) j j (q.bU u) (bn (C.aj (b:=d) a))) (aR 6 j ?_)));have a:C o c [fi b v lost,ag,aA,bf d q,e] _:=C.perm (A:=[fi b v lost++(ag++aA),bf d q,e]) a.as (by simp);have E:=z4 (b:=b) (lost:=lost) z k t (a.ours (cC:=[fi b v lost,ag]));refine bB j j j E (λw⟨v1,f,n,aa⟩=>?_);have a:=a.b2 aa;have a:C o c ([bf d q]++_) w:=a.front;refine an ⟨⟨_,a⟩,?_⟩;refine af 7 2 j (bK (aq 0 j j (⟨j,?_⟩)));have g:C o c [fi b v1 lost,f,aA,e] _:=a.as;clear a;split at n
 .rename_i s;rw [a6 s];have F:(bY++[q]).map aC.P=bY.map aC.P++[bY[i].P]:=by rw [jD,List.map_cons,B];rfl
  rw [<-F];refine⟨_,gS.close (bY:=bY++[q]) (by rw [b0,List.length_singleton,qC];simpa using n) (k.app (fF.one t)),C.perm (A:=[fi b v1 lost,f,aA,e]) g (by simp)⟩
 rename_i s;rw [aI s];obtain⟨rfl,rfl⟩:=n;have g:C o c [fi b v1 lost,f,aA] _:=g.as;exact⟨_,gS.close z k,C.perm (A:=[fi b v1 lost,f,aA]) g (by simp)⟩
def lj(aM:List aW)(i:Int):List aE:=if 0<=i/\i<(aM.length:Int) then(aM[i.toNat]?.map aW.l).getD [] else []
def iz(aM:List aW)(use:List Int):List aE:=use.flatMap (lj aM)
theorem vn{aM:List aW}{use:List Int}{i:Nat}(h:i<use.length):iz aM (use.take (i+1))=iz aM (use.take i)++lj aM use[i]:=by
 unfold iz;rw [fr h,mZ];simp
theorem Fu{aM:List aW}{use:List Int}{i:Nat}(h:i<use.length):∃r,iz aM use=iz aM (use.take i)++(lj aM use[i]++r):=by
 refine⟨iz aM (use.drop (i+1)),?_⟩;unfold iz;rw [<-dJ,<-List.flatMap_singleton (f:=lj aM) (x:=use[i]),<-mZ,<-List.flatMap_append,<-List.take_succ_eq_append_getElem h,List.take_append_drop]
theorem Fv{aM:List aW}{J:Nat}(h:J<aM.length):lj aM (J:Int)=aM[J].l:=by
 unfold lj;rw [a6 ⟨by omega,by omega⟩];simp [h]
abbrev Fs(aM:List aW)(use:List Int)(pre:List aE)(x:aE):Prop:=∃r,iz aM use=pre++x::r
structure nI(bu:List Chunk)(aP:Option Addr)(us:List Value)(F:List Nat)(w:World):Prop where
 holds:Holds w bu
 off:∀c∈bu,c.1∉F
 rd:Rd w aP us
 ap:bT aP us F
section
variable {bu:List Chunk} {aP:Option Addr} {us:List Value} {F eL:List Nat} {ad H:List (List Chunk)} {L:List Chunk} {o w aK:World}
theorem nI.st(h:nI bu aP us F w)(d:C w eL ad aK)(a:∀b∈eL,b∈F):nI bu aP us F aK:=
 ⟨h.holds.kept d (λc e f=>h.off c e (a _ f)),h.off,d.rd h.rd (h.ap.sub a),h.ap⟩
theorem Holds.lt(h:Holds w bu):∀c∈bu,c.1<w.heap.size:=λc a=>by
 have:=h c a;exact(gv.1 this).1
theorem Rd.Cv(h:Rd w aP us)(i:∀b∈F,w.heap.size<=b):bT aP us F:=λl a g k=>by
 cases us with
 |nil=>exact l j
 |cons v r=>
  obtain⟨b,d,c⟩:=h 0 v j;rw [g] at d;cases d;have m:=i _ k
  have n:a.block<w.heap.size:=by
   unfold World.cell? at c;have e:(a.add 0).block=a.block:=by unfold Addr.add;split<;>rfl
   rw [e] at c;cases f:w.heap[a.block]? with
   |none=>rw [f] at c;cases c
   |some I=>exact(gv.1 f).1
  omega
theorem C.snoc(h:C o F ad w)(a:C w [] [L] aK):C o F (ad++[L]) aK:=(h.aL a).perm (by simp only [hb,List.flatten_cons,List.flatten_nil,List.append_nil];exact List.perm_append_comm)
theorem nI.new(d:Holds o bu)(e:Rd o aP us)(a:C o [] ad w):nI bu aP us (av ad) w:=
 have aJ:∀b∈av ad,o.heap.size<=b:=λb f=>(a.own b f).elim (λh=>by cases h) id
 ⟨d.st a,λc g i=>absurd (d.lt c g) (by have:=aJ _ i;omega),a.rd e (bT.of_nil _ _),Rd.Cv e aJ⟩
end
theorem Fw{o:World}{aM:List aW}{gR aP:Option Addr}{gM dU:Nat}{use:List Int}:Calls prog 96 #[.slice gR aM.length gM,.slice aP use.length dU] o λr w=>∃aO b,r= .func (.func 158) #[] #[ab b,ab aO]/\C o [] [R b #[.slice aP use.length dU] 29,R aO #[.slice gR aM.length gM] 39] w:=by
 have a:Own [] o:=C.start o;refine a2 func96 (bL 2 a j j (λaO w a=>bL 0 a j j (λb w a=>am 3 j (gZ j j j j ?_))));exact aq 1 j j ⟨aO,b,j,a⟩
theorem Ft{aO g:Nat}{aM:List aW}{bu:List Chunk}{gR aP:Option Addr}{gM dU:Nat}{use:List Int}(aj:cw (.slice gR aM.length gM) aM bu):Iter prog 158 #[ab g,ab aO] [R g #[.slice aP use.length dU] 29,R aO #[.slice gR aM.length gM] 39] (λad w=>nI bu aP (use.map bN) (av ([R g #[.slice aP use.length dU] 29,R aO #[.slice gR aM.length gM] 39]++ad)) w/\use.length<=maxLen/\aM.length<=maxLen/\use.length<=dU/\∀m∈aM,m.l.length<=1000) (λ_=>True) (λv:aE=> #[.agg v.cs.toArray]) (Fs aM use) (λxs=>xs=iz aM use):=by
 intro y X aY ad o a c x _ al aT aB;show Calls _ _ #[fL y,ab g,ab aO] o _;obtain⟨u,M⟩:∃u,u=av ([R g #[.slice aP use.length dU] 29,R aO #[.slice gR aM.length gM] 39]++ad):=⟨_,j⟩;rw [<-M] at x⊢;have a:C o u (R g #[.slice aP use.length dU] 29::R aO #[.slice gR aM.length gM] 39::ad) o:=M▸a;obtain⟨x,K,aU,aS,aV⟩:=x;obtain⟨bY,T,ag,aA,rfl,N,F⟩:=aj;have hlen:aM.length=bY.length:=by rw [<-T,ff]
 have az:∀q∈bY,q.cs.length=39:=λq aw=>q.bU (F.tag q aw)
 refine a2 func158 (ar 2 j (a.cell j) ?_)
 refine cJ 3 j (ct:=Nat×List (List Chunk)) (λi=>[(0,fL y),(1,ab g),(2,ab aO),(8,.slice aP use.length dU),(9,.int .i64 (use.length:Nat)),(10,.int .i64 (i.1:Nat))])
  (λi w=>i.1<=use.length/\X (iz aM (use.take i.1)) i.2 w/\C o u (R g #[.slice aP use.length dU] 29::R aO #[.slice gR aM.length gM] 39::i.2) w) (λi=>use.length-i.1) (0,ad) ⟨j,j,j,j,j,j,aX⟩ ⟨b4 _,c,a⟩ ?_
 rintro⟨i,ai⟩ w ⟨an,c,a⟩;dsimp only at an c a⊢;refine b8 4 j j (λY=>?_) (λY=>?_)
 .have n:i<use.length:=by omega
  have A:=x.st a (λb s=>s);refine am 5 j (fp j j j j A.rd (v:=bN use[i]) (by rw [gG,gE,cn n];rfl) n (λaK aQ ak=>?_));refine ar 0 j ak (am 7 j (cT 16 j (λE=>?_) (λE=>?_)))
  .refine bq 8 j j j (cE i (by unfold maxLen at K;omega)) (bI 1 j (⟨(i+1,ai),⟨j,j,j,j,j,j,aX⟩,⟨n,?_,a⟩,by dsimp only;omega⟩));dsimp only;rw [vn n,show lj aM use[i]=[] from aI (λh=>by have:=dz E;omega),hc];exact c
  refine ar 1 j (C.f1 a|>.cell rfl) (b8 3 j j (λZ=>?_) (λZ=>?_))
  .refine bq 2 j j j (cE i (by unfold maxLen at K;omega)) (bI 1 j (⟨(i+1,ai),⟨j,j,j,j,j,j,aX⟩,⟨n,?_,a⟩,by dsimp only;omega⟩));dsimp only;rw [vn n,show lj aM use[i]=[] from aI (λh=>by omega),hc];exact c
  refine ar 3 j (C.f1 a|>.cell rfl) ?_;obtain⟨J,Q⟩:∃J:Nat,use[i]=J:=⟨use[i].toNat,by have:=dM E;omega⟩;have S:J<aM.length:=by omega
  have I:J<bY.length:=by omega
  obtain⟨_,_,e,_,_,W,_⟩:=Row.read N A.holds.left;simp only [p9] at e;obtain⟨rfl,_,rfl⟩:=e;refine am 1 j (bS 23 (.int .i64 (J:Nat)) j (aG (Value.int .i64) Q) ?_);obtain⟨af,_,_,O,_⟩:=Row.block N (by omega);simp only [p9] at O;have L:=O.1;rw [L] at W;refine bS 22 (.slice (some ⟨af,0,none⟩) aM.length gM) j (aG (λz=>Value.slice z aM.length gM) L) (hl j j j j S ?_);obtain⟨t,au⟩:=F.read A.holds.right bY[J] (d9 I)
  have V:lj aM use[i]=bY[J].l:=by
   rw [Q,Fv S];have:aM[J]=bY[J].P:=by simp only [<-T,rP]
   rw [this]
  have ax:=flat_lit (f:=aC.cs) W az J I;refine ar 1 j (by have h:=ax.cell (J:=6) (v:=.slice bY[J].B bY[J].l.length bY[J].d) (by simp [aC.cs]);rw [add_lit] at h;exact h) ?_
  refine cJ 3 j (ct:=Nat×List (List Chunk)) (λk=>[(0,fL y),(1,ab g),(2,ab aO),(8,.slice aP use.length dU),(9,.int .i64 (use.length:Nat)),(10,.int .i64 (i:Nat)),(26,.slice bY[J].B bY[J].l.length bY[J].d),(27,.int .i64 (bY[J].l.length:Nat)),(28,.int .i64 (k.1:Nat))])
   (λk w=>k.1<=bY[J].l.length/\X (iz aM (use.take i)++bY[J].l.take k.1) k.2 w/\C o u (R g #[.slice aP use.length dU] 29::R aO #[.slice gR aM.length gM] 39::k.2) w) (λk=>bY[J].l.length-k.1) (0,ai) ⟨j,j,j,j,j,j,j,j,j,aX⟩ ⟨b4 _,by simpa using c,a⟩ ?_
  rintro⟨k,bl⟩ w ⟨aa,c,a⟩;dsimp only at aa c a⊢;refine b8 4 j j (λac=>?_) (λac=>?_)
  .have p:k<bY[J].l.length:=by omega
   have A:=x.st a (λb s=>s);obtain⟨t,_⟩:=F.read A.holds.right bY[J] (d9 I);have D:=t.aH bY[J].l[k] (d9 p);refine am 5 j (fp j j j j t.l (v:=ae bY[J].l[k].k) (ol bY[J].l t.aH k p) p (λaN ah aR=>?_));refine bM 0 j j (bY[J].l[k].len D) (om (ah▸t.l) t.aH k p) (b7 0 (C.start _) j (λbv w r=>b6 0 r j j j bY[J].l[k].one (bY[J].l[k].len D) (λw r=>?_)));have r:=C.whole (U:=bY[J].l[k].cs) r (by rw [bY[J].l[k].len D];rfl);have c:=al _ _ _ _ [] c r.bare (by simp);have a:=a.aL r;refine bM 3 (U:=bY[J].l[k].cs) j j (bY[J].l[k].len D) a.bz ?_;obtain⟨aJ,ay⟩:=Fu (aM:=aM) n
   have aD:=aB (iz aM (use.take i)++bY[J].l.take k) bY[J].l[k] bl _ ⟨bY[J].l.drop (k+1)++aJ,by
    rw [ay,V,dJ,<-List.cons_append,<-List.append_assoc (bY[J].l.take k),<-List.drop_eq_getElem_cons p,List.take_append_drop]⟩ c (C.jp (H:=[_,_,_]) a)
   refine jV j j j j aD (λb w⟨cv,aF,s⟩=>?_);have a:=C.jh (H:=[_,_,_]) a aF;refine bm 1 j j (λeo=>?_) (λeo=>?_)
   .refine aq 0 j j ?_;have G:b=false:=by cases b<;>first|rfl|exact absurd eo (by decide)
    subst G;exact⟨cv,a.drop,.inr (by simpa using s)⟩
   refine bq 2 j j j (cE k (by have:=au.l;omega)) (bI 1 j ?_);have G:b=true:=by cases b<;>first|rfl|exact absurd eo (by decide)
   subst G;refine⟨(k+1,cv),⟨j,j,j,j,j,j,j,j,j,aX⟩,⟨p,?_,a.drop⟩,by dsimp only;omega⟩;dsimp only;rw [fr p,<-dJ];simpa using s
  refine bq 2 j j j (cE i (by unfold maxLen at K;omega)) (bI 1 j ?_);have ap:k=bY[J].l.length:=by omega
  rw [ap,gj] at c;refine⟨(i+1,bl),⟨j,j,j,j,j,j,aX⟩,⟨n,?_,a⟩,by dsimp only;omega⟩;dsimp only;rw [vn n,V];exact c
 refine aq 1 j j ?_;have ao:i=use.length:=by omega
 subst ao;rw [gj] at c;exact⟨ai,a,.inl ⟨_,j,c⟩⟩
structure eG where
 k:Int
 to:Int
 s:Int
 v:Int
 x:List UInt8
 dk:Int
 use:List Int
abbrev gq(l:eG)(X:Option Addr)(bQ:Nat)(aP:Option Addr)(dU:Nat):List Value:=[ae l.k,ae l.to,ae l.s,ae l.v,.slice X l.x.length bQ,ae l.dk,.slice aP l.use.length dU]
def eG.msg(l:eG)(f:Int)(U:List aE):aW:=⟨l.k,f,l.to,l.s,l.v,l.x,U,cA⟩
def eG.may(g:al)(f:Int)(l:eG):Bool:=(l.msg f []).may&&((l.k !=1)&&(decide (f<(g.keys.length:Int))&&decide (l.to<(g.keys.length:Int))))
def eG.aH(g:al)(f:Int)(aM:List aW)(l:eG):Option (List aE):=
 if l.k=6 then some [cX g 3 0 0 (br l.x) f]
 else if l.k=3 then(if l.dk<1\/l.dk>3 then none else some [cX g l.dk l.s l.v (br l.x) f])
 else some ((iz aM l.use).take 10)
def aW.cu(g:al)(m:aW):aW:={m with tag:=g.cu m.f m.body}
def e1(g:al)(f:Int)(aM:List aW)(l:eG):Option aW:=if l.may g f=true then(l.aH g f aM).map λU=>(l.msg f U).cu g else none
abbrev eG.bj(l:eG)(f:Int)(X:Option Addr)(bQ:Nat)(B:Option Addr)(U:List aE)(d:Nat):aC:=⟨l.k,f,l.to,l.s,l.v,X,l.x,bQ,B,U,d,cA⟩
theorem ok_none{b:Bool}(h:((if b=true then(0:Int) else 1)==0)=false):b=false:=by cases b<;>simp_all
theorem zy{b:Bool}(h:((if b=true then(0:Int) else 1)==0)=true):b=true:=by cases b<;>simp_all
theorem eG.vp{g:al}{f:Int}{l:eG}(h:l.may g f=true):l.x.length<=200:=by
 unfold eG.may aW.may at h;simp only [ea,gd] at h;exact h.1.1.1.2
theorem sx{aM:List aW}(h:∀m∈aM,∀v∈m.l,v.ok)(use:List Int):∀v∈iz aM use,v.ok:=λv c=>by
 obtain⟨i,_,a⟩:=nQ.1 c;unfold lj at a;split at a
 .cases b:aM[i.toNat]? with
  |none=>rw [b] at a;cases a
  |some m=>rw [b] at a;exact h m (h5 b) v a
 .cases a
theorem ER{o:World}{g:al}{f:Int}{l:eG}{X aP:Option Addr}{bQ dU:Nat}(n:g.at o)(B:g.ok)(y:Rd o X (au l.x)):Calls prog 93 #[g.p,ae f,.agg (gq l X bQ aP dU).toArray] o λr w=>r= .bool (l.may g f)/\C o [] [] w:=by
 have a:Own [] o:=C.start o;refine a2 func93 (bL 2 a j j (λd w a=>?_));have a:C o [] [R d (gq l X bQ aP dU).toArray 31] w:=a;refine ar 4 j (ax (C.aj (b:=d) a) j) (ar 2 j (ax (C.aj (b:=d) a) j) (ar 1 j (ax (C.aj (b:=d) a) j) (ar 1 j (ax (C.aj (b:=d) a) j) (ar 1 j (ax (C.aj (b:=d) a) j) (cN (c:=(l.bj f X bQ none [] 0).cs.toArray) j j j (λ_=>by kernel_rfl) ?_)))));have t:aC.ok (l.bj f X bQ none [] 0) w:=⟨a.rd y (bT.of_nil _ _),Rd.nil _ _,(by intro v q;cases q),j⟩;refine bk 0 (x0 t) j (λr w⟨v,G,u,q,s⟩=>?_);subst u;have a:=a.aL s;have A:i6 (l.bj f X bQ none [] 0)=(l.msg f []).may:=rfl;have a:C o [] ([R d (gq l X bQ aP dU).toArray 31]++_) _:=a.front;have a:=a.drew;refine bt 6 j (λw=>∃ad,C o [] ([R d (gq l X bQ aP dU).toArray 31]++ad) w) ⟨_,a⟩ (af 0 3 j (ef 27 j (λi=>?_) (λi=>?_)))
 .refine af 3 1 j (a8 4 j a1 j (af 5 3 j (ef 32 j (λk=>?_) (λk=>?_))))
  .refine af 8 2 j (aR 10 j (bB j j j (mA (n.st a (al.off.nil g))) (λz e=>?_)));have e:=e.symm;subst e;refine an ⟨⟨_,a⟩,?_⟩;refine af 11 3 j (ef 38 j (λm=>?_) (λm=>?_));refine af 14 1 j (a8 15 j a1 j (af 16 1 j (aR 17 j (bB j j j (mA (n.st a (al.off.nil g))) (λz e=>?_)))));have e:=e.symm;subst e;refine an ⟨⟨_,a⟩,?_⟩;refine af 18 3 j ?_;rotate_left
   refine af 14 7 j ?_;rotate_left
   all_goals
    refine bK (aq 0 j j (⟨aG Value.bool ?_,a.bare⟩));unfold eG.may;have h:(l.msg f []).may=true:=zy i;rw [h,k,m];rfl
  refine af 8 13 j (bK (aq 0 j j (⟨aG Value.bool ?_,a.bare⟩)));unfold eG.may;have h:(l.msg f []).may=true:=zy i;rw [h,k];rfl
 refine af 3 18 j (bK (aq 0 j j (⟨aG Value.bool ?_,a.bare⟩)));unfold eG.may;have h:(l.msg f []).may=false:=ok_none i;rw [h];rfl
theorem eG.mJ(l:eG)(f:Int)(X:Option Addr)(bQ:Nat)(B a:Option Addr)(U c:List aE)(d b:Nat):(l.bj f X bQ B U d).cs.toArray.setIfInBounds 6 (.slice a c.length b)=(l.bj f X bQ a c b).cs.toArray:=by
 apply fx;simp [aC.cs]
theorem et.lit{b:Nat}{c:aE}(h:c.ok):et (.slice (some ⟨b,0,none⟩) 1 1) [c] (R b c.cs.toArray 55):=by
 have a:=Row.full (e:=55) (size:=68) (b:=b) (n:=1) (cur:=c.cs.toArray) (by decide) (by rw [hA,c.len h]);have e:vcs [c]=c.cs:=by simp
 show Row 55 68 _ 1 (vcs [c]) _;rw [e];exact a
theorem y5{o:World}{g:al}{f:Int}{l:eG}{X aP gR:Option Addr}{bQ dU gM:Nat}{aM:List aW}{bu:List Chunk}(Y:g.at o)(aa:g.ok)(az:Rd o X (au l.x))(bx:l.x.length<=bQ)(hu:Rd o aP (l.use.map bN))(bh:l.use.length<=dU)(bv:l.use.length<=maxLen)(bd:cw (.slice gR aM.length gM) aM bu)(a2:Holds o bu)(bi:aM.length<=maxLen)(bo:∀m∈aM,m.l.length<=1000)(aV:∀m∈aM,∀v∈m.l,v.ok):Calls prog 52 #[g.p,ae f,.agg (gq l X bQ aP dU).toArray,.slice gR aM.length gM] o λr w=>∃(q:aC)(aY:List Chunk),r= .tuple #[.agg q.cs.toArray,ae (if(e1 g f aM l).isSome=true then 0 else 1)]/\(∀m,e1 g f aM l=some m->q.P=m/\fA q aY)/\q.tag.length=32/\C o [] [aY] w:=by
 have a:Own [] o:=C.start o;refine j2 func52 (bL 2 a j j (λH w a=>b7 0 a j (λF w a=>?_)));have a:C o [] [bf F dP,R H (gq l X bQ aP dU).toArray 31] w:=a;refine bM 6 (U:=gq l X bQ aP dU) j j j (bn (C.aj (b:=H) a)) (bp 0 (ER (Y.st a (al.off.nil g)) aa (a.rd az (bT.of_nil _ _))) j (λw I=>?_));have a:=a.aL I;refine bm 1 j j (λaD=>?_) (λaD=>?_)
 .refine am 2 j (cN (c:=dP.cs.toArray) j j j (λ_=>by kernel_rfl) ?_);refine b6 0 (a.bc F) j j j (by simpa using(dP).one) (by rw [List.size_toArray];exact(dP).bU j) (λw a=>?_);have a:=C.whole (U:=(dP).cs) a (by rw [(dP).bU j];rfl);have a:C o [] (bf F (dP)::_) w:=a;refine bD 1 j ⟨.tuple #[.agg dP.cs.toArray,ae 1],λw N=>?_⟩;have a:=N.st a (cI _);refine⟨dr (U:=dP.cs) results52 j j j j (bn (C.aj (b:=F) a)),?_⟩;have M:e1 g f aM l=none:=aI (by rw [show l.may g f=false from by simpa using aD];decide);rw [M];exact⟨dP,[],j,(by intro m hm;cases hm),j,a.bare.empty⟩
 have a:C o [] ([R H (gq l X bQ aP dU).toArray 31]++_) _:=a.front;have a:=a.drew;have Z:l.may g f=true:=by simpa using aD
 have bE:l.x.length<=200:=eG.vp Z;refine bt 2 j (λw=>∃ad,C o [] ([R H (gq l X bQ aP dU).toArray 31]++ad) w) ⟨_,a⟩ (af 0 1 j (a8 1 j a1 j (af 2 2 j (a8 4 j a1 j (af 5 1 j (a8 6 j a1 j (af 7 1 j (a8 8 j a1 j (af 9 1 j (a8 10 j a1 j (aO 11 13 j j ?_ ?_)))))))))));refine cO j j j (g2 (c:=bQ) (a.rd az (bT.of_nil _ _)) (by omega)) (λr w⟨E,O,I⟩=>?_);obtain⟨n,t,rfl,_,_⟩:=O.form;have a:=a.aL I;have a:C o [] ([R H (gq l X bQ aP dU).toArray 31]++_) w:=a.front;refine an ⟨⟨_,a⟩,?_⟩;refine aT 12 j (λw _=>e3 (c:=(l.bj f n t none [] 0).cs.toArray) j (λ_=>by kernel_rfl)) (aR 13 j (ew a j j (λD w a=>?_)));have a:C o [] (bf D dP::_) w:=a;have a:C o [] ([R H (gq l X bQ aP dU).toArray 31]++_) w:=a.front;refine an ⟨⟨_,a⟩,?_⟩;rotate_left
 refine ew a j j (λD w a=>?_);have a:C o [] (bf D dP::_) w:=a;have a:C o [] ([R H (gq l X bQ aP dU).toArray 31]++_) w:=a.front;refine an ⟨⟨_,a⟩,?_⟩;refine aR 11 j (cO j j j (g2 (c:=bQ) (a.rd az (bT.of_nil _ _)) (by omega)) (λr w⟨E,O,I⟩=>?_));obtain⟨n,t,rfl,_,_⟩:=O.form;have a:=a.aL I;have a:C o [] ([R H (gq l X bQ aP dU).toArray 31]++_) w:=a.front;refine an ⟨⟨_,a⟩,?_⟩;refine aT 12 j (λw _=>e3 (c:=(l.bj f n t none [] 0).cs.toArray) j (λ_=>by kernel_rfl)) ?_;rotate_left
 all_goals
  refine dA 14 j (c2 (a.bc D) j j j (by simpa using((l.bj f n t none [] 0)).one) (by rw [List.size_toArray];exact((l.bj f n t none [] 0)).bU j) bG (λw a=>?_));have a:=C.whole (U:=((l.bj f n t none [] 0)).cs) a (by rw [((l.bj f n t none [] 0)).bU j];rfl);have a:C o [] (bf D ((l.bj f n t none [] 0))::_) w:=a;refine an (cU (ar 3 j (ax (C.aj (b:=H) a) j) (bp 0 (nE (a.rd az (bT.of_nil _ _)) (by omega) bx) j (λw I=>?_))));have a:=a.aL I;refine b7 0 a j (λaA w a=>b6 0 a j j j (by simpa using eg (br l.x)) (by rw [List.size_toArray,cL,eK]) (λw a=>?_));have a:=C.whole (U:=au (br l.x)) a (by rw [cL,eK];rfl);have a:C o [] [bf D (l.bj f n t none [] 0),R H (gq l X bQ aP dU).toArray 31,bf F dP,E,R aA (au (br l.x)).toArray 37] w:=a.as;refine ar 4 j (ax (C.aj (b:=H) a) j) (bm 5 j j (λQ=>?_) (λQ=>?_))
  .refine bM 2 (U:=au (br l.x)) j j (by rw [cL,eK]) (bn (C.aj (b:=aA) a)) (bp 1 (oZ (Y.st a (al.off.nil g)) aa (eK _)) j (λw I=>?_));have a:=a.aL I;have S:(cX g 3 0 0 (br l.x) f).ok:=iZ _ _ _ _ _ _ (eK _);refine gi (U:=(cX g 3 0 0 (br l.x) f).cs) a j j j ((cX g 3 0 0 (br l.x) f).len S) (by decide) (by decide) (λav w a=>?_);have a:C o [] (R av (cX g 3 0 0 (br l.x) f).cs.toArray 55::_) w:=a;refine am 1 j (cB (a.bc D) j j j j (by rw [hA,(l.bj f n t none [] 0).bU j];decide) (λw a=>?_));have a:=C.gg a (eG.mJ l f n t none (some ⟨av,0,none⟩) [] [(cX g 3 0 0 (br l.x) f)] 0 1);have a:C o [] (bf D (l.bj f n t (some ⟨av,0,none⟩) [(cX g 3 0 0 (br l.x) f)] 1)::_) w:=a;obtain⟨B,d,z,U,ab,J,aU,K,a⟩:∃(B:Option Addr)(d:Nat)(z:List Chunk)(U:List aE),l.aH g f aM=some U/\et (.slice B U.length d) U z/\U.length<=10/\(∀v∈U,v.ok)/\C o [] [bf D (l.bj f n t B U d),R H (gq l X bQ aP dU).toArray 31,bf F dP,E,z] w:=⟨some ⟨av,0,none⟩,1,_,[(cX g 3 0 0 (br l.x) f)],by unfold eG.aH;rw [if_pos (by simpa using Q)],et.lit S,by simp,(by intro v T;rw [List.mem_singleton.1 T];exact S),a.as⟩;have ak:fA (l.bj f n t B U d) (E++z):=⟨E,z,j,⟨O,J⟩,j,K,⟨show l.x.length<=1000000 by omega,show U.length<=1000 by omega⟩⟩;refine bM 4 (U:=(l.bj f n t B U d).cs) j j ((l.bj f n t B U d).bU j) (bn (C.aj (b:=D) a)) ?_;have ai:=(ak.read (Holds.app (a.holds (G:=E) (by simp)) (a.holds (G:=z) (by simp)))).1;refine bk 0 (mj ai (show l.x.length<=_ by omega) (show U.length<=_ by omega)) j (λr w⟨bl,ag,I⟩=>?_);have a:=a.aL I
   have ah:(l.bj f n t B U d).body.length<=1000000:=by
    have aZ:=lz U K;have a0:=jI l.x (by omega);have ac:=fU [4,l.k,f,l.s,l.v];simp only [eu,ge] at ac;show(d7 [4,l.k,f,l.s,l.v]++(hC l.x++ju U)).length<=_;simp only [b0];omega
   obtain⟨aX,gL,rfl,_,_,ao,_⟩:=ag.read (a.holds (by simp));refine bp 0 (nB (Y.st a (al.off.nil g)) aa ao ah (i:=f) (d:=gL)) j (λw I=>?_);have a:=a.aL I;refine am 1 j (c2 (a.bc D) j j j (by simpa using eg (g.cu f (l.bj f n t B U d).body)) (by rw [List.size_toArray,cL,al.ec]) (by rw [List.size_toArray,(l.bj f n t B U d).bU j];decide) (λw a=>?_));have a:=C.gg a ((l.bj f n t B U d).pn (g.cu f (l.bj f n t B U d).body) (by rw [al.ec];rfl));have a:C o [] (bf D ({l.bj f n t B U d with tag:=g.cu f (l.bj f n t B U d).body}:aC)::_) w:=a;refine bM 2 (U:=({l.bj f n t B U d with tag:=g.cu f (l.bj f n t B U d).body}:aC).cs) j j (({l.bj f n t B U d with tag:=g.cu f (l.bj f n t B U d).body}:aC).bU (al.ec _ _ _)) (bn (C.aj (b:=D) a)) (b6 0 (a.bc F) j j j (by simpa using(({l.bj f n t B U d with tag:=g.cu f (l.bj f n t B U d).body}:aC)).one) (by rw [List.size_toArray];exact(({l.bj f n t B U d with tag:=g.cu f (l.bj f n t B U d).body}:aC)).bU (al.ec _ _ _)) (λw a=>?_));have a:=C.whole (U:=(({l.bj f n t B U d with tag:=g.cu f (l.bj f n t B U d).body}:aC)).cs) a (by rw [(({l.bj f n t B U d with tag:=g.cu f (l.bj f n t B U d).body}:aC)).bU (al.ec _ _ _)];rfl);have a:C o [] (bf F (({l.bj f n t B U d with tag:=g.cu f (l.bj f n t B U d).body}:aC))::_) w:=a;refine bD 1 j ⟨.tuple #[.agg ({l.bj f n t B U d with tag:=g.cu f (l.bj f n t B U d).body}:aC).cs.toArray,ae 0],λw N=>?_⟩;have a:=N.st a (cI _);refine⟨dr (U:=({l.bj f n t B U d with tag:=g.cu f (l.bj f n t B U d).body}:aC).cs) results52 j j j (({l.bj f n t B U d with tag:=g.cu f (l.bj f n t B U d).body}:aC).bU (al.ec _ _ _)) (bn (C.aj (b:=F) a)),?_⟩
   have M:e1 g f aM l=some ((l.msg f U).cu g):=by
    unfold e1;rw [a6 Z,ab];rfl
   rw [M];have a:C o [] [E,z] w:=a.as;exact⟨({l.bj f n t B U d with tag:=g.cu f (l.bj f n t B U d).body}:aC),E++z,j,(λm hm=>by cases hm;exact⟨j,E,z,j,⟨O,J⟩,al.ec _ _ _,K,⟨show l.x.length<=1000000 by omega,show U.length<=1000 by omega⟩⟩),al.ec _ _ _,C.perm (A:=[E,z]) a (by simp)⟩
  refine bm 4 j j (λW=>?_) (λW=>?_);refine ar 4 j (ax (C.aj (b:=H) a) j) (am 2 j (cT 65 j (λaG=>?_) (λaG=>?_)))
  .refine am 7 j (cN (c:=dP.cs.toArray) j j j (λ_=>by kernel_rfl) ?_);refine b6 0 (a.bc F) j j j (by simpa using(dP).one) (by rw [List.size_toArray];exact(dP).bU j) (λw a=>?_);have a:=C.whole (U:=(dP).cs) a (by rw [(dP).bU j];rfl);have a:C o [] (bf F (dP)::_) w:=a;refine bD 1 j ⟨.tuple #[.agg dP.cs.toArray,ae 1],λw N=>?_⟩;have a:=N.st a (cI _);refine⟨dr (U:=dP.cs) results52 j j j j (bn (C.aj (b:=F) a)),?_⟩
   have M:e1 g f aM l=none:=by
    unfold e1 eG.aH;rw [a6 Z,aI (by simpa using Q),if_pos (by simpa using W),if_pos (.inl (of_decide_eq_true aG))];rfl
   rw [M];exact⟨dP,[],j,(by intro m hm;cases hm),j,a.bare.empty⟩
  refine ar 1 j (ax (C.aj (b:=H) a) j) (b8 2 j j (λaN=>?_) (λaN=>?_))
  .refine am 2 j (cN (c:=dP.cs.toArray) j j j (λ_=>by kernel_rfl) ?_);refine b6 0 (a.bc F) j j j (by simpa using(dP).one) (by rw [List.size_toArray];exact(dP).bU j) (λw a=>?_);have a:=C.whole (U:=(dP).cs) a (by rw [(dP).bU j];rfl);have a:C o [] (bf F (dP)::_) w:=a;refine bD 1 j ⟨.tuple #[.agg dP.cs.toArray,ae 1],λw N=>?_⟩;have a:=N.st a (cI _);refine⟨dr (U:=dP.cs) results52 j j j j (bn (C.aj (b:=F) a)),?_⟩
   have M:e1 g f aM l=none:=by
    unfold e1 eG.aH;rw [a6 Z,aI (by simpa using Q),if_pos (by simpa using W),if_pos (.inr aN)];rfl
   rw [M];exact⟨dP,[],j,(by intro m hm;cases hm),j,a.bare.empty⟩
  refine ar 4 j (ax (C.aj (b:=H) a) j) (ar 1 j (ax (C.aj (b:=H) a) j) (ar 1 j (ax (C.aj (b:=H) a) j) (bM 0 (U:=au (br l.x)) j j (by rw [cL,eK]) (bn (C.aj (b:=aA) a)) (bp 1 (oZ (Y.st a (al.off.nil g)) aa (eK _)) j (λw I=>?_)))));have a:=a.aL I;have S:(cX g l.dk l.s l.v (br l.x) f).ok:=iZ _ _ _ _ _ _ (eK _);refine gi (U:=(cX g l.dk l.s l.v (br l.x) f).cs) a j j j ((cX g l.dk l.s l.v (br l.x) f).len S) (by decide) (by decide) (λaw w a=>?_);have a:C o [] (R aw (cX g l.dk l.s l.v (br l.x) f).cs.toArray 55::_) w:=a;refine am 1 j (cB (a.bc D) j j j j (by rw [hA,(l.bj f n t none [] 0).bU j];decide) (λw a=>?_));have a:=C.gg a (eG.mJ l f n t none (some ⟨aw,0,none⟩) [] [(cX g l.dk l.s l.v (br l.x) f)] 0 1);have a:C o [] (bf D (l.bj f n t (some ⟨aw,0,none⟩) [(cX g l.dk l.s l.v (br l.x) f)] 1)::_) w:=a;obtain⟨B,d,z,U,ab,J,aU,K,a⟩:∃(B:Option Addr)(d:Nat)(z:List Chunk)(U:List aE),l.aH g f aM=some U/\et (.slice B U.length d) U z/\U.length<=10/\(∀v∈U,v.ok)/\C o [] [bf D (l.bj f n t B U d),R H (gq l X bQ aP dU).toArray 31,bf F dP,E,z] w:=⟨some ⟨aw,0,none⟩,1,_,[(cX g l.dk l.s l.v (br l.x) f)],by unfold eG.aH;rw [if_neg (by simpa using Q),if_pos (by simpa using W),if_neg (λh=>h.elim (λh=>absurd h (of_decide_eq_false aG)) (λh=>absurd h aN))],et.lit S,by simp,(by intro v T;rw [List.mem_singleton.1 T];exact S),a.as⟩;rotate_left
  refine ar 4 j (ax (C.aj (b:=H) a) j) (bk 0 (Fw (o:=w) (aM:=aM) (gR:=gR) (aP:=aP) (gM:=gM) (dU:=dU) (use:=l.use)) j (λr w⟨a5,a7,bs,I⟩=>?_));subst bs;have bA:=(a2.st a).st I;have bB:=I.rd (a.rd hu (bT.of_nil _ _)) (bT.of_nil _ _);have a:=(a.aL I).empty;have a:C o [] [R a7 #[.slice aP l.use.length dU] 29,R a5 #[.slice gR aM.length gM] 39,bf D (l.bj f n t none [] 0),R H (gq l X bQ aP dU).toArray 31,bf F dP,E,[]] w:=a.as;have a:C o [] ([R a7 #[.slice aP l.use.length dU] 29,R a5 #[.slice gR aM.length gM] 39]++[bf D (l.bj f n t none [] 0),R H (gq l X bQ aP dU).toArray 31,bf F dP,E,[]]) w:=a
  refine j6 1 j (Ft bd) j (by have:=a.size;simpa using this) a j (λ_=>rfl) (by intro p a4;simp at a4;rcases a4 with rfl<;>rfl)
   (λpre ad=>∃B d z,ad=[bf D (l.bj f n t B pre d),R H (gq l X bQ aP dU).toArray 31,bf F dP,E,z]/\et (.slice B pre.length d) pre z/\pre.length<=10/\∃r,iz aM l.use=pre++r) (λe ad=>match e with| .exit id=>id=1/\∃B d z,∃pre:List aE,ad=[bf D (l.bj f n t B pre d),R H (gq l X bQ aP dU).toArray 31,bf F dP,E,z]/\et (.slice B pre.length d) pre z/\pre=(iz aM l.use).take 10|_=>False) ⟨none,0,[],j,Row.nil _ _,b4 _,_,j⟩ (λL aK bb=>⟨nI.new a2 hu (by rw [<-dJ];exact a.snoc bb),bv,bi,bh,bo⟩) (λ_ _ _ _=>trivial) ?_ ?_ (λ_ _ h=>h.elim) ?_
  .rintro y pre x bz L bF ⟨rx,ay⟩ ⟨B,d,z,rfl,J,aQ,_⟩ a;have ap:x.ok:=sx aV l.use x (by rw [ay];simp);have a:=C.gy a;have bC:pre.length<(iz aM l.use).length:=by rw [ay];simp
   refine b7 1 a j (λaB w a=>b6 0 (a.bc aB) j j j (by simpa using x.one) (by rw [List.size_toArray];exact x.len ap) (λw a=>?_));have a:=C.whole (U:=x.cs) a (by rw [x.len ap];rfl);have a:C _ _ [R aB x.cs.toArray 55,bf D (l.bj f n t B pre d),R H (gq l X bQ aP dU).toArray 31,bf F dP,E,z] w:=a.as;refine bD 0 j (⟨j,_,a,λL bH a=>?_⟩);have a:=C.gy a;refine ar 5 j (ax (C.aj (b:=D) a) (show(l.bj f n t B pre d).cs.toArray[6]? =some (.slice B pre.length d) from aC.eU _)) (b8 2 j j (λaF=>?_) (λaF=>?_))
   .refine bD 0 j (⟨[bf D (l.bj f n t B pre d),R H (gq l X bQ aP dU).toArray 31,bf F dP,E,z],a.as,j,B,d,z,pre,j,J,?_⟩);have bq:pre.length=10:=by omega
    rw [ay,<-bq,mg]
   refine ar 3 j (ax (C.aj (b:=D) a) (show(l.bj f n t B pre d).cs.toArray[6]? =some (.slice B pre.length d) from aC.eU _)) (bM 0 (U:=x.cs) j j (x.len ap) (bn (C.aj (b:=aB) a)) (gi (U:=x.cs) a j j j (x.len ap) (by decide) (by decide) (λba w a=>?_)));have aJ:=bn (C.aj (b:=ba) a);refine dR (a.to z) J j j (by decide) j j j (m:=1) (news:=x.cs) (x.len ap) aJ (by intro u hu;exact List.all_eq_true.1 x.one u (by simpa using hu)) (by omega) (by unfold maxLen;have:=aF;omega) (λv2 aq w a3 a=>?_);obtain⟨V,dp,rfl,_,_⟩:=Row.form a3
   have bw:et (.slice V (pre++[x]).length dp) (pre++[x]) aq:=by
    show Row 55 68 _ (pre++[x]).length (vcs (pre++[x])) aq;rw [b0,List.length_singleton,tr];exact a3
   refine am 1 j (cB (a.bc D) j j j j (by rw [hA,(l.bj f n t B pre d).bU j];decide) (λw a=>?_));have a:=C.gg a (show _=(l.bj f n t V (pre++[x]) dp).cs.toArray from by have:=eG.mJ l f n t B V pre (pre++[x]) d dp;rw [b0,List.length_singleton] at this;exact this);have a:C _ _ (bf D (l.bj f n t V (pre++[x]) dp)::_) w:=a;refine bD 0 j (⟨[bf D (l.bj f n t V (pre++[x]) dp),R H (gq l X bQ aP dU).toArray 31,bf F dP,E,aq],a.as,V,dp,aq,j,bw,by rw [b0,List.length_singleton];have:=aF;omega,⟨rx,by rw [ay,List.append_assoc];rfl⟩⟩)
  .rintro xs a9 w be ⟨B,d,z,rfl,J,aQ,_⟩ a;subst be;obtain⟨B,d,z,U,ab,J,aU,K,a⟩:∃(B:Option Addr)(d:Nat)(z:List Chunk)(U:List aE),l.aH g f aM=some U/\et (.slice B U.length d) U z/\U.length<=10/\(∀v∈U,v.ok)/\C o [] [bf D (l.bj f n t B U d),R H (gq l X bQ aP dU).toArray 31,bf F dP,E,z] w:=⟨B,d,z,iz aM l.use,by unfold eG.aH;rw [if_neg (by simpa using Q),if_neg (by simpa using W),List.take_of_length_le aQ],J,aQ,(λv T=>sx aV l.use v T),a.as⟩;have ak:fA (l.bj f n t B U d) (E++z):=⟨E,z,j,⟨O,J⟩,j,K,⟨show l.x.length<=1000000 by omega,show U.length<=1000 by omega⟩⟩;refine bM 4 (U:=(l.bj f n t B U d).cs) j j ((l.bj f n t B U d).bU j) (bn (C.aj (b:=D) a)) ?_;have ai:=(ak.read (Holds.app (a.holds (G:=E) (by simp)) (a.holds (G:=z) (by simp)))).1;refine bk 0 (mj ai (show l.x.length<=_ by omega) (show U.length<=_ by omega)) j (λr w⟨bl,ag,I⟩=>?_);have a:=a.aL I
   have ah:(l.bj f n t B U d).body.length<=1000000:=by
    have aZ:=lz U K;have a0:=jI l.x (by omega);have ac:=fU [4,l.k,f,l.s,l.v];simp only [eu,ge] at ac;show(d7 [4,l.k,f,l.s,l.v]++(hC l.x++ju U)).length<=_;simp only [b0];omega
   obtain⟨aX,gL,rfl,_,_,ao,_⟩:=ag.read (a.holds (by simp));refine bp 0 (nB (Y.st a (al.off.nil g)) aa ao ah (i:=f) (d:=gL)) j (λw I=>?_);have a:=a.aL I;refine am 1 j (c2 (a.bc D) j j j (by simpa using eg (g.cu f (l.bj f n t B U d).body)) (by rw [List.size_toArray,cL,al.ec]) (by rw [List.size_toArray,(l.bj f n t B U d).bU j];decide) (λw a=>?_));have a:=C.gg a ((l.bj f n t B U d).pn (g.cu f (l.bj f n t B U d).body) (by rw [al.ec];rfl));have a:C o [] (bf D ({l.bj f n t B U d with tag:=g.cu f (l.bj f n t B U d).body}:aC)::_) w:=a;refine bM 2 (U:=({l.bj f n t B U d with tag:=g.cu f (l.bj f n t B U d).body}:aC).cs) j j (({l.bj f n t B U d with tag:=g.cu f (l.bj f n t B U d).body}:aC).bU (al.ec _ _ _)) (bn (C.aj (b:=D) a)) (b6 0 (a.bc F) j j j (by simpa using(({l.bj f n t B U d with tag:=g.cu f (l.bj f n t B U d).body}:aC)).one) (by rw [List.size_toArray];exact(({l.bj f n t B U d with tag:=g.cu f (l.bj f n t B U d).body}:aC)).bU (al.ec _ _ _)) (λw a=>?_));have a:=C.whole (U:=(({l.bj f n t B U d with tag:=g.cu f (l.bj f n t B U d).body}:aC)).cs) a (by rw [(({l.bj f n t B U d with tag:=g.cu f (l.bj f n t B U d).body}:aC)).bU (al.ec _ _ _)];rfl);have a:C o [] (bf F (({l.bj f n t B U d with tag:=g.cu f (l.bj f n t B U d).body}:aC))::_) w:=a;refine bD 1 j ⟨.tuple #[.agg ({l.bj f n t B U d with tag:=g.cu f (l.bj f n t B U d).body}:aC).cs.toArray,ae 0],λw N=>?_⟩;have a:=N.st a (cI _);refine⟨dr (U:=({l.bj f n t B U d with tag:=g.cu f (l.bj f n t B U d).body}:aC).cs) results52 j j j (({l.bj f n t B U d with tag:=g.cu f (l.bj f n t B U d).body}:aC).bU (al.ec _ _ _)) (bn (C.aj (b:=F) a)),?_⟩
   have M:e1 g f aM l=some ((l.msg f U).cu g):=by
    unfold e1;rw [a6 Z,ab];rfl
   rw [M];have a:C o [] [E,z] w:=a.as;exact⟨({l.bj f n t B U d with tag:=g.cu f (l.bj f n t B U d).body}:aC),E++z,j,(λm hm=>by cases hm;exact⟨j,E,z,j,⟨O,J⟩,al.ec _ _ _,K,⟨show l.x.length<=1000000 by omega,show U.length<=1000 by omega⟩⟩),al.ec _ _ _,C.perm (A:=[E,z]) a (by simp)⟩
  rintro id a9 w bg a;obtain⟨rfl,B,d,z,pre,rfl,J,aS⟩:=bg;refine⟨_,j,?_⟩;obtain⟨B,d,z,U,ab,J,aU,K,a⟩:∃(B:Option Addr)(d:Nat)(z:List Chunk)(U:List aE),l.aH g f aM=some U/\et (.slice B U.length d) U z/\U.length<=10/\(∀v∈U,v.ok)/\C o [] [bf D (l.bj f n t B U d),R H (gq l X bQ aP dU).toArray 31,bf F dP,E,z] w:=⟨B,d,z,pre,by unfold eG.aH;rw [if_neg (by simpa using Q),if_neg (by simpa using W),aS],J,by rw [aS,List.length_take];omega,(λv T=>sx aV l.use v (List.mem_of_mem_take (aS▸T))),a.as⟩;rotate_left
  all_goals
   have ak:fA (l.bj f n t B U d) (E++z):=⟨E,z,j,⟨O,J⟩,j,K,⟨show l.x.length<=1000000 by omega,show U.length<=1000 by omega⟩⟩;refine bM 4 (U:=(l.bj f n t B U d).cs) j j ((l.bj f n t B U d).bU j) (bn (C.aj (b:=D) a)) ?_;have ai:=(ak.read (Holds.app (a.holds (G:=E) (by simp)) (a.holds (G:=z) (by simp)))).1;refine bk 0 (mj ai (show l.x.length<=_ by omega) (show U.length<=_ by omega)) j (λr w⟨bl,ag,I⟩=>?_);have a:=a.aL I
   have ah:(l.bj f n t B U d).body.length<=1000000:=by
    have aZ:=lz U K;have a0:=jI l.x (by omega);have ac:=fU [4,l.k,f,l.s,l.v];simp only [eu,ge] at ac;show(d7 [4,l.k,f,l.s,l.v]++(hC l.x++ju U)).length<=_;simp only [b0];omega
   obtain⟨aX,gL,rfl,_,_,ao,_⟩:=ag.read (a.holds (by simp));refine bp 0 (nB (Y.st a (al.off.nil g)) aa ao ah (i:=f) (d:=gL)) j (λw I=>?_);have a:=a.aL I;refine am 1 j (c2 (a.bc D) j j j (by simpa using eg (g.cu f (l.bj f n t B U d).body)) (by rw [List.size_toArray,cL,al.ec]) (by rw [List.size_toArray,(l.bj f n t B U d).bU j];decide) (λw a=>?_));have a:=C.gg a ((l.bj f n t B U d).pn (g.cu f (l.bj f n t B U d).body) (by rw [al.ec];rfl));have a:C o [] (bf D ({l.bj f n t B U d with tag:=g.cu f (l.bj f n t B U d).body}:aC)::_) w:=a;refine bM 2 (U:=({l.bj f n t B U d with tag:=g.cu f (l.bj f n t B U d).body}:aC).cs) j j (({l.bj f n t B U d with tag:=g.cu f (l.bj f n t B U d).body}:aC).bU (al.ec _ _ _)) (bn (C.aj (b:=D) a)) (b6 0 (a.bc F) j j j (by simpa using(({l.bj f n t B U d with tag:=g.cu f (l.bj f n t B U d).body}:aC)).one) (by rw [List.size_toArray];exact(({l.bj f n t B U d with tag:=g.cu f (l.bj f n t B U d).body}:aC)).bU (al.ec _ _ _)) (λw a=>?_));have a:=C.whole (U:=(({l.bj f n t B U d with tag:=g.cu f (l.bj f n t B U d).body}:aC)).cs) a (by rw [(({l.bj f n t B U d with tag:=g.cu f (l.bj f n t B U d).body}:aC)).bU (al.ec _ _ _)];rfl);have a:C o [] (bf F (({l.bj f n t B U d with tag:=g.cu f (l.bj f n t B U d).body}:aC))::_) w:=a;refine bD 1 j ⟨.tuple #[.agg ({l.bj f n t B U d with tag:=g.cu f (l.bj f n t B U d).body}:aC).cs.toArray,ae 0],λw N=>?_⟩;have a:=N.st a (cI _);refine⟨dr (U:=({l.bj f n t B U d with tag:=g.cu f (l.bj f n t B U d).body}:aC).cs) results52 j j j (({l.bj f n t B U d with tag:=g.cu f (l.bj f n t B U d).body}:aC).bU (al.ec _ _ _)) (bn (C.aj (b:=F) a)),?_⟩
   have M:e1 g f aM l=some ((l.msg f U).cu g):=by
    unfold e1;rw [a6 Z,ab];rfl
   rw [M];have a:C o [] [E,z] w:=a.as;exact⟨({l.bj f n t B U d with tag:=g.cu f (l.bj f n t B U d).body}:aC),E++z,j,(λm hm=>by cases hm;exact⟨j,E,z,j,⟨O,J⟩,al.ec _ _ _,K,⟨show l.x.length<=1000000 by omega,show U.length<=1000 by omega⟩⟩),al.ec _ _ _,C.perm (A:=[E,z]) a (by simp)⟩
def aW.j3(m:aW):Prop:=m.cQ/\m.s<=63
abbrev er(l:List aW):Prop:=∀m∈l,m.j3
theorem er.nil:er []:=by intro m hm;cases hm
theorem er.app{a b:List aW}(c:er a)(d:er b):er (a++b):=λm hm=>(dv.1 hm).elim (c m) (d m)
section
variable {g:al} {N:Nat} {s:ak}
theorem ak.Aw(h:s.ok g N){m:aW}{t:Int}(c:m.x.length<=200)(a:m.l.length<=10)(b:∀v∈m.l,v.ok):(s.js g m t).j3:=⟨ak.nC c a b,h.slot.2⟩
theorem ak.w4(h:s.ok g N){m:aW}(c:m.x.length<=200)(a:m.l.length<=10)(b:∀v∈m.l,v.ok):er (s.all g m):=λd hm=>by
 unfold ak.all at hm;obtain⟨t,_,rfl⟩:=dV.1 hm;exact ak.Aw h c a b
theorem ak.Bb(h:s.ok g N)(k:Int)(x:List UInt8):er (s.aH g k x).2:=
 ak.w4 h (b4 _) (by show 1<=10;omega) (λv a=>by rw [fT.1 a];exact iZ _ _ _ _ _ _ (eK _))
theorem ak.HW(b:g.ok)(h:s.ok g N){r:ak×List aW}(a:s.step g=some r):er r.2:=by
 unfold ak.step at a;split at a
 .rename_i e;cases a;unfold ak.gX at e;cases bw:(dd s.az).findSome? λp=>s.fs g p.2 with
  |none=>rw [bw] at e;cases e
  |some y=>rw [bw] at e;cases e;exact er.nil
 .split at a
  .rename_i e;cases a;unfold ak.gz at e;split at e
   .cases e
   .split at e
    .cases e
    .split at e
     .cases e;exact ak.Bb (s:={s with hT:=s.view}) {h with} 1 _
     .cases e
  .split at a
   .rename_i e;cases a;unfold ak.g3 at e;split at e
    .cases e
    .split at e
     .cases e
     .rename_i y he;cases e;have:=h.fs b (h.iy 1 s.view) he;exact ak.Bb (s:={s with comm:=s.view,fX:=s.view,dH:=y.1,c3:=y.2}) {h with dH:=this.1,c3:=this.2.1,ll:=this.2.2} 2 _
   .unfold ak.gW at a;split at a
    .cases a
    .split at a
     .cases a
     .rename_i y c;cases a;have:=h.gU c;exact ak.w4 h this.1 this.2.1 this.2.2
theorem ak.qE(b:g.ok):∀(k:Nat){N:Nat}{s:ak}{l:List aW},s.ok g N->er l->er (ak.go g k s l).2
 |0,_,_,_,_,a=>a
 |k+1,N,s,l,h,a=>by
  rw [ak.go];split
  .exact a
  .split
   .exact a
   .rename_i e8 bY e;exact ak.qE b k (h.step b e) (a.app (ak.HW b h e))
theorem ak.td(a:g.ok)(h:s.ok g N):er (s.steps g).2:=ak.qE a 5 h er.nil
theorem ak.Ia(a:g.ok)(h:s.ok g N){m:aW}(hm:m.cQ):er (s.take g m).2:=by
 unfold ak.take;split
 .exact er.nil
 .exact ak.td a (h.fm hm)
theorem ak.IO(a:g.ok)(h:s.ok g N)(x:List UInt8):er (s.hX g x).2:=by
 unfold ak.hX;split
 .exact er.nil
 .split
  .rename_i b;exact ak.td (s:={s with want:=x}) a {h with want:=b.2}
  .exact ak.td a h
theorem ak.In(b:g.ok)(h:s.ok g N):er (s.tick g).2:=by
 unfold ak.tick;split
 .exact er.nil
 .rename_i aJ;have c:s.view<8:=by simp at aJ;omega
  refine er.app ?_ (ak.td b (h.gs c));have a:ak.ok g N ({s with view:=s.view+1}:ak):={h with view:=⟨show 0<=s.view+1 by have:=h.view;omega,show s.view+1<=8 by omega⟩};unfold ak.gs;dsimp only;split
  .exact er.nil
  .intro m hm;rw [fT.1 hm];exact ak.Aw a h.dH h.c3 h.ll
end
section
variable {g:al} {N M:Nat}
theorem xP(a:g.ok){c:Option ak}(h:∀r,c=some r->r.ok g M){m:aW}(hm:m.cQ):er (hf g c m).2:=by
 unfold hf;cases c with
 |none=>exact er.nil
 |some r=>exact ak.Ia a (h r j) hm
theorem xS(a:g.ok){c:Option ak}(h:∀r,c=some r->r.ok g M)(x:List UInt8):er (fP g c x).2:=by
 unfold fP;cases c with
 |none=>exact er.nil
 |some r=>exact ak.IO a (h r j) x
theorem DG(a:g.ok){c:Option ak}(h:∀r,c=some r->r.ok g M):er (iG g c).2:=by
 unfold iG;cases c with
 |none=>exact er.nil
 |some r=>exact ak.In a (h r j)
theorem aF.Gk(c:g.ok){a:aF×List aW}{p:Int×aW}(d:p.2.cQ)(h:∀r,a.1.cur=some r->r.ok g M)(b:er a.2):er (aF.one g a p).2:=by
 unfold aF.one;split
 .exact b.app (xP c h d)
 .split<;>exact b
theorem aF.yo(d:g.ok):∀(l:List (Int×aW))(a:aF×List aW)(M:Nat),(∀p∈l,p.2.cQ)->(∀r,a.1.cur=some r->r.ok g M)->er a.2->er (l.foldl (aF.one g) a).2
 |[],_,_,_,_,c=>c
 |p::r,a,M,b,h,c=>by
  rw [iC];exact aF.yo d r _ (M+6) (λq e=>b q (by simp [e])) (aF.zG d (b p (by simp)) h) (aF.Gk d (b p (by simp)) h c)
theorem aF.CX(a:g.ok){s:aF}(h:s.ok g N)(b:∀r,s.cur=some r->r.ok g M):er (s.de g).2:=by
 obtain⟨_,_,_,_,_,c⟩:=h.wanted a b;unfold aF.de;refine aF.yo a _ _ (M+5) (λp d=>h.lw p (g0.1 d)) (λr e=>(c r e).1) ?_;unfold aF.wanted;split
 .exact er.nil
 .exact xS a b _
theorem aF.qE(b:g.ok):∀(k:Nat){N:Nat}{s:aF}{l:List aW},s.ok g N->773<=N->er l->er (aF.go g k s l).2
 |0,_,_,_,_,_,a=>a
 |k+1,N,s,l,h,e,a=>by
  rw [aF.go];split
  .exact a
  .rename_i r f;split
   .obtain⟨c,d⟩:=aF.kw h f;exact aF.qE b k (c.de b d (by omega)) e (a.app (aF.CX b c d))
   .exact a
theorem aF.qF(a:g.ok):∀(k:Nat){N:Nat}{s:aF}{l:List aW},s.ok g N->773<=N->(aF.go g k s l).2.length<=l.length+6450*k
 |0,_,_,l,_,_=>by show l.length<=_;omega
 |k+1,N,s,l,h,e=>by
  rw [aF.go];split
  .show l.length<=_;omega
  .rename_i r f;split
   .obtain⟨b,c⟩:=aF.kw h f;have d:=aF.qF a k (l:=l++((s.next r).de g).2) (b.de a c (by omega)) e;have i:=aF.xq (g:=g) a b.stored;rw [b0] at d;omega
   .show l.length<=_;omega
def h3(l:List aW):Prop:=er l/\l.length<=420000
theorem h3.nil:h3 []:=⟨er.nil,b4 _⟩
theorem aF.u6(b:g.ok){s:aF}{l:List aW}(h:s.ok g N)(a:773<=N)(c:er l)(aa:l.length<=51):h3 (s.h9 g l).2:=
 ⟨aF.qE b 65 h a c,by have:=aF.qF (l:=l) b 65 h a;show(aF.go g 65 s l).2.length<=_;omega⟩
theorem aF.AN(c:g.ok){s:aF}(h:s.ok g N)(k:773<=N)(x:List UInt8):h3 (s.eQ g x).2.1:=by
 unfold aF.eQ;split
 .exact h3.nil
 .rename_i m;split
  .exact h3.nil
  .split
   .exact h3.nil
   .rename_i l;split
    .exact h3.nil
    .have i:aF.ok g (N+5) ({s with cy:=s.cy++[x],cur:=(fP g s.cur x).1}:aF):=by
      have d:=h.more (gF N 5);refine{d with cur:=λr a=>⟨uH c (λr a=>(h.cur r a).1) r a,?_⟩,cy:=?_,lr:=λy b=>?_}
      .have e:s.cur.isSome=true:=by rw [<-sc (g:=g) (x:=x),show(fP g s.cur x).1=some r from a];rfl
       obtain⟨j,f⟩:=ha.1 e;exact(h.cur j f).2
      .show(s.cy++[x]).length<=16;rw [b0,List.length_singleton];omega
      .rcases dv.1 (show y∈s.cy++[x] from b) with b|b
       .exact h.lr y b
       .rw [fT.1 b];omega
     exact aF.u6 c i (by omega) (xS c (λr a=>(h.cur r a).1) x) (ek (uG c _ _) (by omega))
theorem aF.Iy{s:aF}(h:s.ok g N)(m:aW):h3 (s.told g m):=by
 unfold aF.told;split
 .exact h3.nil
 .rename_i d;split
  .exact h3.nil
  .rename_i e he;have hm:=h5 he;obtain⟨a,b,c⟩:=h.ns e hm;have i:=(fk.1 he).1;have j:=h.log;have k:¬m.s<0:=λdt=>d (.inr (.inl dt))
   refine⟨λq f=>?_,by simp⟩;rw [fT.1 f];exact⟨⟨al.ec _ _ _,c,a,b⟩,show m.s<=63 by omega⟩
theorem aF.th(b:g.ok){s:aF}(h:s.ok g N)(f:773<=N){m:aW}(hm:m.cQ):h3 (s.take g m).2:=by
 unfold aF.take;split
 .exact aF.AN b h f _
 .split
  .exact aF.Iy h m
  .split
   .have i:aF.ok g (N+6) ({s with cur:=(hf g s.cur m).1}:aF):=by
     have c:=h.more (gF N 6);refine{c with cur:=λr a=>⟨sa b hm (λr a=>(h.cur r a).1) r a,?_⟩};have d:s.cur.isSome=true:=by rw [<-sb (g:=g) (m:=m),show(hf g s.cur m).1=some r from a];rfl
     obtain⟨j,e⟩:=ha.1 d;exact(h.cur j e).2
    exact aF.u6 b i (by omega) (xP b (λr a=>(h.cur r a).1) hm) (ek (r9 b _ _) (by omega))
   .split<;>exact h3.nil
theorem aF.ti(b:g.ok){s:aF}(h:s.ok g N)(j:773<=N):h3 (s.tick g).2:=by
 have f:aF.ok g (N+6) ({s with cur:=(iG g s.cur).1}:aF):=by
  have c:=h.more (gF N 6);refine{c with cur:=λr a=>⟨uE b (λr a=>(h.cur r a).1) r a,?_⟩};have d:s.cur.isSome=true:=by rw [<-uF (g:=g),show(iG g s.cur).1=some r from a];rfl
  obtain⟨i,e⟩:=ha.1 d;exact(h.cur i e).2
 exact aF.u6 b f (by omega) (DG b (λr a=>(h.cur r a).1)) (xR b _)
theorem bo.um(b:g.ok){x:bo}(h:x.ok g N)(a:773<=N)(I:bF):h3 (x.ask g I).2.1:=by
 unfold bo.ask;split
 .exact aF.AN b h.s a _
 .exact h3.nil
theorem bo.th(b:g.ok){x:bo}(h:x.ok g N)(a:773<=N){m:aW}(hm:m.cQ):h3 (x.take g m).2:=aF.th b h.s a hm
theorem bo.ti(b:g.ok){x:bo}(h:x.ok g N)(a:773<=N):h3 (x.tick g).2:=aF.ti b h.s a
end
end Go.Proofs.YtngjfjhomikplaaGreatDoor.R
