/- Part 5 of the proof. -/
import Derived.Test.YtdomoelfhjdioaaGreatDoorM4
set_option linter.unusedVariables false
set_option linter.unusedSimpArgs false
set_option linter.unusedSectionVars false
set_option maxRecDepth 20000
set_option maxHeartbeats 4000000
namespace Go.Proofs.YtdomoelfhjdioaaGreatDoor.R
open Go.Proofs.Tryz Go Go.RowKit Go.Proofs
structure dH where
 p:Int
 e:Int
 t:Int
 at_:Int
 k:Int
 deriving DecidableEq
abbrev dH.cs(s:dH):List Value:=[ad s.p,ad s.e,ad s.t,ad s.at_,ad s.k]
structure eg where
 p:Int
 e:Int
 t:Int
 s:Int
 x:List UInt8
structure dM where
 cZ:List eg
 ch:List dH
 eD:List (Int×Int)
def dM.new:dM:=⟨[],[],[]⟩
def j3(p e:Int):Bool:=decide (0<=p/\p<8/\0<=e/\e<=100)
def k7(t:Int):Bool:=decide (1<=t/\t<=100)
def dM.kN(l:dM)(p e:Int):dM×Int:=
 if j3 p e=true then({l with eD:=b9 l.eD p (max ((aZ l.eD p).getD 0) e)},0) else(l,1)
def kS(p e t:Int)(s:dH):Bool:=decide (s.p=p/\s.e=e/\s.t=t)
def dM.span(l:dM)(p e t:Int):Option Nat:=l.ch.findIdx? (kS p e t)
def dM.end_(l:dM)(p e t:Int)(c:Bool):dM×Int:=
 if(j3 p e&&k7 t)=false then(l,1)
 else match l.span p e t with
  |none=>({l with ch:=l.ch++[⟨p,e,t,-1,if c=true then 2 else 3⟩]},0)
  |some i=>if h:i<l.ch.length then
   (if l.ch[i].k≠0/\l.ch[i].k≠(if c=true then 2 else 3) then(l,6)
    else({l with ch:=l.ch.set i {l.ch[i] with k:=if c=true then 2 else 3}},0)) else(l,0)
def kf:List Value->List eg->List Chunk->Prop
 |[],[],G=>G=[]
 |u::us,r::rs,G=>∃ai aA,G=ai++aA/\dt u r.x ai/\kf us rs aA
 |[],_::_,_=>False
 |_::_,[],_=>False
abbrev sV(us:List Value)(rs:List eg):List Value:=(us.zip rs).flatMap λe=>[ad e.2.p,ad e.2.e,ad e.2.t,ad e.2.s,e.1]
def mU(v:Value)(rs:List eg)(G:List Chunk):Prop:=∃ag H us,G=ag++H/\Row 169 5 v rs.length (sV us rs) ag/\kf us rs H
def gD(v:Value)(l:List dH)(G:List Chunk):Prop:=Row 311 5 v l.length (l.flatMap dH.cs) G
abbrev mh(l:List (Int×Int)):List (Int×Value):=l.map λp=>(p.1,ad p.2)
structure iO where
 cZ:Value
 ch:Value
 eD:Value
abbrev lcs(c:iO):List Value:=[c.cZ,c.ch,c.eD]
abbrev dC(bf:Nat)(c:iO):List Chunk:=R bf (lcs c).toArray 133
structure BM(l:dM)(c:iO)(ag S E:List Chunk):Prop where
 cZ:mU c.cZ l.cZ ag
 ch:gD c.ch l.ch S
 eD:mP bL c.eD (mh l.eD) E
def kF(bf:Nat)(l:dM)(G:List Chunk):Prop:=∃(c:iO)(ag S E:List Chunk),BM l c ag S E/\G=dC bf c++(ag++(S++E))
theorem C.vS{bf:Nat}{c:iO}{ag S E:List Chunk}{ae:List (List Chunk)}{o w:World}{F:List Nat}(h:C o F ((dC bf c++(ag++(S++E)))::ae) w):C o F (dC bf c::ag::S::E::ae) w:=h.perm (by simp)
theorem C.i1{bf:Nat}{c:iO}{ag S E:List Chunk}{ae:List (List Chunk)}{o w:World}{F:List Nat}(h:C o F (dC bf c::ag::S::E::ae) w):C o F ((dC bf c++(ag++(S++E)))::ae) w:=h.perm (by simp)
theorem wh(l:List dH):∀v∈l.flatMap dH.cs,v.oneCell'=true:=by
 intro v a;obtain⟨m,_,hm⟩:=m0.1 a;simp [dH.cs] at hm;rcases hm with rfl|rfl|rfl|rfl|rfl<;>rfl
theorem F5{o:World}:Calls prog 62 #[] o λr w=>∃bf G,r=ab bf/\kF bf dM.new G/\C o [] [G] w:=by
 have a:Own [] o:=C.start o;refine a2 func62 (aq 5 j (jx j a j j (λay w a=>?_)));refine cP (c:=(lcs ⟨.slice none 0 0,.slice none 0 0,.map (some ay)⟩).toArray) j j j (λ_=>by kernel_rfl) (bM 0 a j j (λb w a=>ao 1 j j ?_));have a:C o [] (dC b ⟨.slice none 0 0,.slice none 0 0,.map (some ay)⟩::_) w:=a;exact⟨b,_,j,⟨(⟨.slice none 0 0,.slice none 0 0,.map (some ay)⟩:iO),[],[],[(ay,.map #[] 0)],⟨⟨[],[],[],j,Row.nil _ _,j⟩,Row.nil 311 5,⟨ay,_,j,j,cc.new⟩⟩,j⟩,C.perm (A:=[dC b ⟨.slice none 0 0,.slice none 0 0,.map (some ay)⟩,[(ay,.map #[] 0)]]) a.as (by simp)⟩
theorem vi{o:World}{p e:Int}:Calls prog 221 #[ad p,ad e] o λr w=>r= .bool (j3 p e)/\w=o:=by
 refine a2 func221 (aq 8 j (cQ 7 j (λdz=>?_) (λdz=>?_)))
 .refine aq 4 j (cQ 11 j (λa=>?_) (λa=>?_))
  .refine aq 4 j (cQ 15 j (λb=>?_) (λb=>?_))
   .refine ao 4 j j (⟨?_,j⟩);unfold j3;exact aH Value.bool (by rw [nS];have c:=dj dz;have d:=dj a;have f:=dj b;omega)
   refine ao 4 j j (⟨?_,j⟩);unfold j3;rw [fj (by have:=dN b;omega)]
  refine ao 8 j j (⟨?_,j⟩);unfold j3;rw [fj (by have:=dN a;omega)]
 refine ao 12 j j (⟨?_,j⟩);unfold j3;rw [fj (by have:=dN dz;omega)]
theorem yQ{o:World}{t:Int}:Calls prog 222 #[ad t] o λr w=>r= .bool (k7 t)/\w=o:=by
 refine a2 func222 (aq 8 j (cQ 5 j (λgl=>?_) (λgl=>?_)))
 .refine ao 4 j j (⟨?_,j⟩);unfold k7;exact aH Value.bool (by rw [nS];have a:=dj gl;omega)
 refine ao 4 j j (⟨?_,j⟩);unfold k7;rw [fj (by have:=dN gl;omega)]
theorem Fq{o:World}{bf:Nat}{l:dM}{G:List Chunk}{p e:Int}(s:kF bf l G)(a:Own [G] o):Calls prog 211 #[ab bf,ad p,ad e] o λr w=>r=ad (l.kN p e).2/\∃ai,kF bf (l.kN p e).1 ai/\C o (au [G]) [ai] w:=by
 have u:=s;obtain⟨c,ag,S,E,n,rfl⟩:=s;obtain⟨d,q⟩:∃d,d=au [dC bf c++(ag++(S++E))]:=⟨_,j⟩;rw [<-q];have a:C o d [dC bf c++(ag++(S++E))] o:=q▸a;have a:=a.vS;refine a2 func211 (aq 9 j (bS 9 (.bool false) j (aH Value.bool (j)) ?_));refine bo 2 (vi (p:=p) (e:=e)) j (λw hw=>?_);have hw:=hw.symm;subst hw;refine bm 2 j j (λg=>?_) (λg=>?_)
 .refine ao 3 j j ?_;have hle:l.kN p e=(l,1):=aI (by simpa using g);rw [hle];exact⟨j,_,u,a.i1⟩
 obtain⟨az,h,i,rfl,t⟩:=n.eD
 have v:(aZ (mh l.eD) p).getD (ad 0)=ad ((aZ l.eD p).getD 0):=by
  unfold mh;rw [nt];cases aZ l.eD p<;>rfl
 have a:C o d ([dC bf c,[(az,h)]]++_) _:=a.front;have a:=a.drew;refine bw 2 j (λw=>∃ae,C o d ([dC bf c,[(az,h)]]++ae) w) ⟨_,a⟩ (af 0 3 j (a8 3 j a1 (aH some i) (af 4 4 j (a8 8 j a1 (aH some i) (af 9 1 j (aT 10 j (λw⟨_,a⟩=>tB (key:=bL) (k:=p) t (C.ak (b:=az) a) j j) (af 11 1 j (iW 25 (ad ((aZ l.eD p).getD 0)) j v (aT 12 j (λw _=>wx j) (dy 13 j (jy (key:=bL) (k:=p) t (a.to [(az,h)]) j j j j (λf w m a=>?_))))))))))))
 have m:cc bL f (mh (b9 l.eD p (max ((aZ l.eD p).getD 0) e))):=by
  unfold mh;rw [<-vz];exact m
 have a:C o d [dC bf c,ag,S,[(az,f)]] w:=a.as;refine ar (cX (ao 3 j j ?_));have hle:l.kN p e=({l with eD:=b9 l.eD p (max ((aZ l.eD p).getD 0) e)},0):=a6 (by simpa using g);rw [hle];exact⟨j,_,⟨c,ag,S,[(az,f)],⟨n.cZ,n.ch,⟨az,f,i,j,m⟩⟩,j⟩,a.i1⟩
theorem Row.setCell{e:TypeId}{size g n cap:Nat}{cur:Array Value}{xs:List Value}(h:Row e size (.slice (some ⟨g,0,none⟩) n cap) n xs [(g,.cells cur e (0,0))])(J:Nat)(u:Value):
 Row e size (.slice (some ⟨g,0,none⟩) n cap) n (xs.set J u) [(g,.cells (cur.setIfInBounds J u) e (0,0))]:=by
 obtain⟨b,c⟩:=h;refine⟨by simpa using b,?_⟩;rcases c with⟨a,_,_⟩|⟨p,m,o,a,l,d,f,i,k⟩
 .cases a
 .cases a;cases l;refine .inr ⟨g,cap,_,j,j,d,f,by simpa using i,?_⟩;rw [<-k];simp [List.take_set]
theorem sf{α:Type}{f:α->List Value}{n:Nat}:∀(l:List α),(∀x∈l,(f x).length=n)->∀(i:Nat)(a:i<l.length)(J:Nat),J<n->∀(v:Value)(y:α),f y=(f l[i]).set J v->(l.flatMap f).set (i*n+J) v=(l.set i y).flatMap f
 |[],_,i,a,_,_,_,_,_=>by simp at a
 |x::r,h,0,_,J,d,v,y,c=>by
  have b:=h x (by simp);simp only [je,rH,oJ,fg];rw [List.set_append_left _ _ (by omega)];exact aH (·++_) c.symm
 |x::r,h,i+1,a,J,d,v,y,c=>by
  have b:=h x (by simp);simp only [je,List.set_cons_succ];rw [tY _ _ (by rw [b,Nat.succ_mul];omega),b,show(i+1)*n+J-n=i*n+J by rw [Nat.succ_mul];omega];exact aH (_++·) (sf r (λz e=>h z (by simp [e])) i (by simpa using a) J d v y (by simpa using c))
theorem Row.block{e:TypeId}{size n:Nat}{v:Value}{xs:List Value}{G:List Chunk}(h:Row e size v n xs G)(aJ:0<n):∃g cap cur,v= .slice (some ⟨g,0,none⟩) n cap/\G=[(g,.cells cur e (0,0))]/\n<=cap/\cap<=maxLen/\cap*size<=cur.size:=by
 rcases h.2 with⟨_,a,_⟩|⟨g,cap,cur,a,b,c,d,f,_⟩
 .omega
 .exact⟨g,cap,cur,a,b,c,d,f⟩
theorem yj{α:Type}{p:α->Bool}{l:List α}{i:Nat}(h:∀J(a:J<l.length),J<i->p l[J]=false)(c:l.length<=i):l.findIdx? p=none:=by
 rw [List.findIdx?_eq_none_iff];intro x b;obtain⟨J,a,rfl⟩:=tZ.1 b;exact h J a (by omega)
theorem yk{α:Type}{p:α->Bool}{l:List α}{i:Nat}(h:∀J(d:J<l.length),J<i->p l[J]=false)(a:i<l.length)(c:p l[i]=true):l.findIdx? p=some i:=by
 rw [p7];exact⟨a,c,λJ b=>by rw [h J (by omega) b];decide⟩
theorem yK{o:World}{eA:FuncId}[Entry prog eA]{bf:Array Value}{q:dH->Bool}{T:World->Prop}(D:∀(g:World)(s:dH),T g->Calls prog eA (#[]++ #[.agg s.cs.toArray]++bf) g (λr w=>r= .bool (q s)/\C g [] [] w))(A:∀w,C o [] [] w->T w){v:Value}{l:List dH}{G:List Chunk}(B:gD v l G)(z:Holds o G):Calls prog 228 #[v,.func (.func eA) #[] bf] o λr w=>((∃i:Nat,r= .int .i64 (i:Nat)/\l.findIdx? q=some i)\/(r= .int .i64 (-1)/\l.findIdx? q=none))/\C o [] [] w:=by
 have a:Own [] o:=C.start o;obtain⟨t,x,rfl,N,H,F,_⟩:=Row.read B z;have k:∀e∈l,(dH.cs e).length=5:=λ_ _=>rfl
 refine a2 func228 ?_
 refine cH 10 j (ct:=Nat) (λi=>[(0,.slice t l.length x),(1,.func (.func eA) #[] bf),(7,.int .i64 (l.length:Nat)),(8,.int .i64 (i:Nat))])
  (λi w=>i<=l.length/\(∀J(m:J<l.length),J<i->q l[J]=false)/\C o [] [] w) (λi=>l.length-i) 0 ⟨j,j,j,j,aY⟩ ⟨b6 _,λJ _ h=>by omega,a⟩ ?_
 rintro i w ⟨M,d,a⟩;refine cm 4 j j (λu=>?_) (λu=>?_)
 .have b:i<l.length:=by omega
  have n:=a.rd F (bX.of_nil _ _);refine aq 12 j (fz j j j j n (v:=ad l[i].p) (h7 (f:=dH.cs) (J:=0) l k i b (by decide) j) b (λK y L=>?_));subst y;refine bN 0 (U:=l[i].cs) j j j (iY (f:=dH.cs) n k i b) (hL j j j j (D _ l[i] (A _ a)) (λr w⟨I,aa⟩=>?_));subst I;have a:=(a.aM aa).bare;refine bm 0 j j (λc=>?_) (λc=>?_)
  .exact ao 4 j j ⟨.inl ⟨i,j,yk d b c⟩,a⟩
  refine bq 2 j j j (cM i (by unfold maxLen at H;omega)) (bP 1 j (⟨i+1,⟨j,j,j,j,aY⟩,⟨b,λJ m E=>?_,a⟩,by omega⟩));rcases Nat.lt_succ_iff_lt_or_eq.1 E with h|rfl
  .exact d J m h
  exact c
 exact ao 4 j j ⟨.inr ⟨j,yj d (by omega)⟩,a⟩
theorem HT{o:World}{f g i:Nat}{p e t:Int}{s:dH}(m:o.heap[f]? =some (.cells #[ad p] 3 (0,0)))(n:o.heap[g]? =some (.cells #[ad e] 3 (0,0)))(q:o.heap[i]? =some (.cells #[ad t] 3 (0,0))):Calls prog 229 (#[]++ #[.agg s.cs.toArray]++ #[ab f,ab g,ab i]) o λr w=>r= .bool (kS p e t s)/\C o [] [] w:=by
 have a:Own [] o:=C.start o;refine a2 func229 (bM 2 a j j (λk w a=>?_));have a:C o [] (R k s.cs.toArray 311::_) w:=a;refine al 4 j (aw (C.ak a) j) (al 0 j (aw (a.cg m) j) (aq 2 j (cQ 10 j (λc=>?_) (λc=>?_))))
 .refine al 1 j (aw (C.ak a) j) (al 0 j (aw (a.cg n) j) (aq 3 j (cQ 16 j (λd=>?_) (λd=>?_))))
  .refine al 1 j (aw (C.ak a) j) (al 0 j (aw (a.cg q) j) (ao 3 j j (⟨aH Value.bool ?_,a.bare⟩)));unfold kS;have b:s.p=p:=dY.1 c;have l:s.e=e:=dY.1 d;rw [m9];simp [b,l]
  refine ao 6 j j (⟨aH Value.bool ?_,a.bare⟩);unfold kS;exact(fj (by have b:(s.e==e)=false:=d;rw [ft] at b;exact λh=>b (by simp [h]))).symm
 refine ao 12 j j (⟨aH Value.bool ?_,a.bare⟩);unfold kS;exact(fj (by have b:(s.p==p)=false:=c;rw [ft] at b;exact λh=>b (by simp [h]))).symm
theorem pw{o:World}{bf:Nat}{c:iO}{p e t:Int}{S:List Chunk}{l:List dH}(v:o.heap[bf]? =some (.cells (lcs c).toArray 133 (0,0)))(u:gD c.ch l S)(n:Holds o S):Calls prog 186 #[ab bf,ad p,ad e,ad t] o λr w=>((∃i:Nat,r= .int .i64 (i:Nat)/\l.findIdx? (kS p e t)=some i)\/(r= .int .i64 (-1)/\l.findIdx? (kS p e t)=none))/\C o [] [] w:=by
 have a:Own [] o:=C.start o;refine a2 func186 (bM 2 a j j (λf w a=>bM 0 a j j (λg w a=>bM 0 a j j (λh w a=>?_))));have a:C o [] [R h #[ad t] 3,R g #[ad e] 3,R f #[ad p] 3] w:=a;refine al 6 j (aw (a.cg v) j) (gV j j j j ?_);have x:=yK (eA:=229) (bf:= #[ab f,ab g,ab h]) (q:=kS p e t) (T:=λd=>d.heap[f]? =some (.cells #[ad p] 3 (0,0))/\d.heap[g]? =some (.cells #[ad e] 3 (0,0))/\d.heap[h]? =some (.cells #[ad t] 3 (0,0))) (λd s m=>HT m.1 m.2.1 m.2.2) (λd k=>⟨k.cg (C.ak (b:=f) a),k.cg (C.ak (b:=g) a),k.cg (C.ak (b:=h) a)⟩) u (n.st a);refine bh 0 x j (λr w⟨z,y⟩=>?_);have a:=a.aM y;exact ao 1 j j ⟨z,a.bare⟩
theorem Ea{o:World}{bf:Nat}{l:dM}{G:List Chunk}{p e t:Int}{dI:Bool}(aC:kF bf l G)(aN:l.ch.length<=1000000)(a:Own [G] o):Calls prog 212 #[ab bf,ad p,ad e,ad t,.bool dI] o λr w=>r=ad (l.end_ p e t dI).2/\∃ai,kF bf (l.end_ p e t dI).1 ai/\C o (au [G]) [ai] w:=by
 have aD:=aC;obtain⟨c,ag,S,E,q,rfl⟩:=aC;obtain⟨v,aB⟩:∃v,v=au [dC bf c++(ag++(S++E))]:=⟨_,j⟩;rw [<-aB];have a:C o v [dC bf c++(ag++(S++E))] o:=aB▸a;have a:=a.vS;obtain⟨d,Z⟩:∃d:Int,d=if dI=true then 2 else 3:=⟨_,j⟩
 refine a2 func212 (aq 9 j (bS 15 (.bool false) j (aH Value.bool (j)) ?_));refine bo 2 (vi (p:=p) (e:=e)) j (λw hw=>?_);have hw:=hw.symm;subst hw;refine aq 3 j (cQ 21 j (λT=>?_) (λT=>?_))
 .refine ao 8 j j ?_;have D:l.end_ p e t dI=(l,1):=if_pos (by rw [show j3 p e=false from by simpa using T];rfl);rw [D];exact⟨j,_,aD,a.i1⟩
 refine bo 1 (yQ (t:=t)) j (λw hw=>?_);have hw:=hw.symm;subst hw;refine bm 2 j j (λV=>?_) (λV=>?_)
 .refine ao 3 j j ?_;have D:l.end_ p e t dI=(l,1):=if_pos (by rw [show k7 t=false from by simpa using V];exact Bool.and_false _);rw [D];exact⟨j,_,aD,a.i1⟩
 refine bm 8 j j (λar=>?_) (λar=>?_);have ah:d=2:=by rw [Z];exact a6 ar
 refine aq 8 j ?_;rcases A:l.ch.findIdx? (kS p e t) with _|Q
 .have X:=pw (bf:=bf) (c:=c) (p:=p) (e:=e) (t:=t) (C.ak (b:=bf) a) q.ch (a.holds (G:=S) (by simp));refine bh 0 X j (λr w⟨y,Y⟩=>?_);obtain⟨y,_⟩:=y.resolve_left (λ⟨_,_,h⟩=>by rw [A] at h;cases h);subst y;have a:=a.aM Y;obtain⟨aE,aF,ax,_,_⟩:=Row.form q.ch;refine al 12 j (aw (C.ak (b:=bf) a) (aH some ax)) (al 7 j (aw (C.ak (b:=bf) a) j) (aq 3 j (cP (c:=(⟨p,e,t,-1,0⟩:dH).cs.toArray) j j j (λ_=>by kernel_rfl) ?_)));refine gC (U:=(⟨p,e,t,-1,0⟩:dH).cs) a j j j j bJ bJ (λap w a=>?_);have aJ:=bp (C.ak (b:=ap) a);refine d9 (a.to S) q.ch j j (by decide) j j j (m:=1) (news:=(⟨p,e,t,-1,0⟩:dH).cs) j aJ (wh [(⟨p,e,t,-1,0⟩:dH)]) (by omega) (by unfold maxLen;omega) (λv1 n w M a=>?_)
  have M:gD v1 (l.ch++[(⟨p,e,t,-1,0⟩:dH)]) n:=by
   unfold gD;rw [b4,List.flatMap_append];simpa using M
  refine dB 2 (a.bc bf) j j j (Row.one M) (λw a=>?_);have a:C o v (dC bf ({c with ch:=v1})::_) w:=a;obtain⟨aX,L,n,i,P,O,H,B,F,u,a⟩:∃(aX:iO)(L:List dH)(n:List Chunk)(i:Nat),aX.cZ=c.cZ/\aX.eD=c.eD/\L=(l.ch++[(⟨p,e,t,-1,0⟩:dH)])/\l.ch.length=i/\gD aX.ch L n/\i<L.length/\C o v [dC bf aX,ag,n,E] w:=⟨{c with ch:=v1},(l.ch++[(⟨p,e,t,-1,0⟩:dH)]),n,l.ch.length,j,j,j,j,M,by rw [b4,List.length_singleton];omega,a.as⟩;refine aq 3 j (bS 12 (.int .i64 (i:Nat)) j (by rw [B]) ?_);obtain⟨g,cap,cur,s,rfl,aA,av,ay⟩:=Row.block F (by omega);have I:∀x∈L,(dH.cs x).length=5:=λ_ _=>rfl
  have K:gD (.slice (some ⟨g,0,none⟩) L.length cap) L (R g cur 311):=s▸F
  have h9:C o v [dC bf aX,ag,R g cur 311,E] w->World.cell? w ⟨g,i*5+4,none⟩=some (ad L[i].k):=λa=>by
   obtain⟨_,_,W,_,_,aa,_⟩:=Row.read K (a.holds (G:=R g cur 311) (by simp));cases W;have h:=aa.cell (h7 (f:=dH.cs) (J:=4) L I i u (by decide) j);rw [add_lit] at h;simpa using h
  have az:L[i].k=0:=by simp only [H,<-B];simp
  refine al 3 j (aw (C.ak (b:=bf) a) (aH some s)) (aq 1 j (hM j j j j u ?_));refine al 1 j (by have h:=h9 a;simpa [add_lit] using h) (aq 2 j (bS 61 (.bool false) j (congrArg Value.bool ((by rw [az];rfl))) ?_));refine aq 15 j (bS 11 (ad d) j (by rw [ah];rfl) ?_);refine al 3 j (aw (C.ak (b:=bf) a) (aH some s)) (aq 2 j (hM j j j j u ?_));refine aq 1 j (cC (a.bc g) j j j j (by omega) (λw a=>?_));have N:=Row.setCell K (i*5+4) (ad d);rw [sf (f:=dH.cs) L I i u 4 (by decide) (ad d) {L[i] with k:=d} j] at N
  have an:gD aX.ch (L.set i {L[i] with k:=d}) (R g (cur.setIfInBounds (i*5+4) (ad d)) 311):=by
   unfold gD;rw [s,hx];exact N
  have a:=C.gr a (show cur.setIfInBounds (0+i*5+4) (ad d)=cur.setIfInBounds (i*5+4) (ad d) by rw [fg]);refine ao 3 j j ?_
  have D:l.end_ p e t dI=({l with ch:=L.set i {L[i] with k:=d}},0):=by
   unfold dM.end_;rw [aI (by rw [show j3 p e=true from by simpa using T,show k7 t=true from by simpa using V];decide)];rw [show l.span p e t=none from A];dsimp only;rw [<-Z];refine aH (λz=>(({l with ch:=z}:dM),(0:Int))) ?_;simp only [H,<-B];simp
  rw [D];have a:C o v [dC bf aX,ag,R g (cur.setIfInBounds (i*5+4) (ad d)) 311,E] w:=a.as;exact⟨j,_,⟨aX,ag,_,E,⟨P▸q.cZ,an,O▸q.eD⟩,j⟩,a.i1⟩
 have X:=pw (bf:=bf) (c:=c) (p:=p) (e:=e) (t:=t) (C.ak (b:=bf) a) q.ch (a.holds (G:=S) (by simp));refine bh 0 X j (λr w⟨y,Y⟩=>?_);obtain⟨aL,y,am⟩:=y.resolve_right (λh=>by rw [A] at h;cases h.2);rw [A] at am;cases am;subst y;have a:=a.aM Y;refine i0 6 j j ((fj (by omega))) ?_;obtain⟨af,aG,aK⟩:=p7.1 A;obtain⟨aX,L,n,i,P,O,H,B,F,u,a⟩:∃(aX:iO)(L:List dH)(n:List Chunk)(i:Nat),aX.cZ=c.cZ/\aX.eD=c.eD/\L=l.ch/\Q=i/\gD aX.ch L n/\i<L.length/\C o v [dC bf aX,ag,n,E] w:=⟨c,l.ch,S,Q,j,j,j,j,q.ch,af,a.as⟩;refine aq 4 j (bS 12 (.int .i64 (i:Nat)) j (by rw [B]) ?_);obtain⟨g,cap,cur,s,rfl,aA,av,ay⟩:=Row.block F (by omega);have I:∀x∈L,(dH.cs x).length=5:=λ_ _=>rfl
 have K:gD (.slice (some ⟨g,0,none⟩) L.length cap) L (R g cur 311):=s▸F
 have h9:C o v [dC bf aX,ag,R g cur 311,E] w->World.cell? w ⟨g,i*5+4,none⟩=some (ad L[i].k):=λa=>by
  obtain⟨_,_,W,_,_,aa,_⟩:=Row.read K (a.holds (G:=R g cur 311) (by simp));cases W;have h:=aa.cell (h7 (f:=dH.cs) (J:=4) L I i u (by decide) j);rw [add_lit] at h;simpa using h
 refine al 3 j (aw (C.ak (b:=bf) a) (aH some s)) (aq 1 j (hM j j j j u ?_));refine al 1 j (by have h:=h9 a;simpa [add_lit] using h) (aq 2 j (cQ 61 j (λac=>?_) (λac=>?_)));refine al 3 j (aw (C.ak (b:=bf) a) (aH some s)) (aq 1 j (hM j j j j u ?_));refine al 1 j (by have h:=h9 a;simpa [add_lit] using h) (bm 3 j j (λae=>?_) (λae=>?_))
 .refine ao 3 j j ?_
  have D:l.end_ p e t dI=(l,6):=by
   unfold dM.end_;rw [aI (by rw [show j3 p e=true from by simpa using T,show k7 t=true from by simpa using V];decide)];rw [show l.span p e t=some Q from A];dsimp only;rw [nb af,<-Z];subst B;subst H;refine a6 ⟨by simpa using ac,?_⟩;first|rw [ah]|rw [aj]
   simpa using ae
  rw [D];have a:C o v [dC bf aX,ag,R g cur 311,E] w:=a.as;exact⟨j,_,⟨aX,ag,_,E,⟨P▸q.cZ,H▸F,O▸q.eD⟩,j⟩,a.i1⟩
 refine aq 3 j (bS 11 (ad d) j (by rw [ah];rfl) ?_);rotate_left
 refine aq 15 j (bS 11 (ad d) j (by rw [ah];rfl) ?_);rotate_left
 have aj:d=3:=by rw [Z];exact aI (by rw [show dI=false from ar];decide)
 refine aq 7 j ?_;rcases A:l.ch.findIdx? (kS p e t) with _|Q
 .have X:=pw (bf:=bf) (c:=c) (p:=p) (e:=e) (t:=t) (C.ak (b:=bf) a) q.ch (a.holds (G:=S) (by simp));refine bh 0 X j (λr w⟨y,Y⟩=>?_);obtain⟨y,_⟩:=y.resolve_left (λ⟨_,_,h⟩=>by rw [A] at h;cases h);subst y;have a:=a.aM Y;obtain⟨aE,aF,ax,_,_⟩:=Row.form q.ch;refine al 12 j (aw (C.ak (b:=bf) a) (aH some ax)) (al 7 j (aw (C.ak (b:=bf) a) j) (aq 3 j (cP (c:=(⟨p,e,t,-1,0⟩:dH).cs.toArray) j j j (λ_=>by kernel_rfl) ?_)));refine gC (U:=(⟨p,e,t,-1,0⟩:dH).cs) a j j j j bJ bJ (λap w a=>?_);have aJ:=bp (C.ak (b:=ap) a);refine d9 (a.to S) q.ch j j (by decide) j j j (m:=1) (news:=(⟨p,e,t,-1,0⟩:dH).cs) j aJ (wh [(⟨p,e,t,-1,0⟩:dH)]) (by omega) (by unfold maxLen;omega) (λv1 n w M a=>?_)
  have M:gD v1 (l.ch++[(⟨p,e,t,-1,0⟩:dH)]) n:=by
   unfold gD;rw [b4,List.flatMap_append];simpa using M
  refine dB 2 (a.bc bf) j j j (Row.one M) (λw a=>?_);have a:C o v (dC bf ({c with ch:=v1})::_) w:=a;obtain⟨aX,L,n,i,P,O,H,B,F,u,a⟩:∃(aX:iO)(L:List dH)(n:List Chunk)(i:Nat),aX.cZ=c.cZ/\aX.eD=c.eD/\L=(l.ch++[(⟨p,e,t,-1,0⟩:dH)])/\l.ch.length=i/\gD aX.ch L n/\i<L.length/\C o v [dC bf aX,ag,n,E] w:=⟨{c with ch:=v1},(l.ch++[(⟨p,e,t,-1,0⟩:dH)]),n,l.ch.length,j,j,j,j,M,by rw [b4,List.length_singleton];omega,a.as⟩;refine aq 3 j (bS 12 (.int .i64 (i:Nat)) j (by rw [B]) ?_);obtain⟨g,cap,cur,s,rfl,aA,av,ay⟩:=Row.block F (by omega);have I:∀x∈L,(dH.cs x).length=5:=λ_ _=>rfl
  have K:gD (.slice (some ⟨g,0,none⟩) L.length cap) L (R g cur 311):=s▸F
  have h9:C o v [dC bf aX,ag,R g cur 311,E] w->World.cell? w ⟨g,i*5+4,none⟩=some (ad L[i].k):=λa=>by
   obtain⟨_,_,W,_,_,aa,_⟩:=Row.read K (a.holds (G:=R g cur 311) (by simp));cases W;have h:=aa.cell (h7 (f:=dH.cs) (J:=4) L I i u (by decide) j);rw [add_lit] at h;simpa using h
  have az:L[i].k=0:=by simp only [H,<-B];simp
  refine al 3 j (aw (C.ak (b:=bf) a) (aH some s)) (aq 1 j (hM j j j j u ?_));refine al 1 j (by have h:=h9 a;simpa [add_lit] using h) (aq 2 j (bS 61 (.bool false) j (congrArg Value.bool ((by rw [az];rfl))) ?_));refine aq 15 j (bS 11 (ad d) j (by rw [aj];rfl) ?_);refine al 3 j (aw (C.ak (b:=bf) a) (aH some s)) (aq 2 j (hM j j j j u ?_));refine aq 1 j (cC (a.bc g) j j j j (by omega) (λw a=>?_));have N:=Row.setCell K (i*5+4) (ad d);rw [sf (f:=dH.cs) L I i u 4 (by decide) (ad d) {L[i] with k:=d} j] at N
  have an:gD aX.ch (L.set i {L[i] with k:=d}) (R g (cur.setIfInBounds (i*5+4) (ad d)) 311):=by
   unfold gD;rw [s,hx];exact N
  have a:=C.gr a (show cur.setIfInBounds (0+i*5+4) (ad d)=cur.setIfInBounds (i*5+4) (ad d) by rw [fg]);refine ao 3 j j ?_
  have D:l.end_ p e t dI=({l with ch:=L.set i {L[i] with k:=d}},0):=by
   unfold dM.end_;rw [aI (by rw [show j3 p e=true from by simpa using T,show k7 t=true from by simpa using V];decide)];rw [show l.span p e t=none from A];dsimp only;rw [<-Z];refine aH (λz=>(({l with ch:=z}:dM),(0:Int))) ?_;simp only [H,<-B];simp
  rw [D];have a:C o v [dC bf aX,ag,R g (cur.setIfInBounds (i*5+4) (ad d)) 311,E] w:=a.as;exact⟨j,_,⟨aX,ag,_,E,⟨P▸q.cZ,an,O▸q.eD⟩,j⟩,a.i1⟩
 have X:=pw (bf:=bf) (c:=c) (p:=p) (e:=e) (t:=t) (C.ak (b:=bf) a) q.ch (a.holds (G:=S) (by simp));refine bh 0 X j (λr w⟨y,Y⟩=>?_);obtain⟨aL,y,am⟩:=y.resolve_right (λh=>by rw [A] at h;cases h.2);rw [A] at am;cases am;subst y;have a:=a.aM Y;refine i0 6 j j ((fj (by omega))) ?_;obtain⟨af,aG,aK⟩:=p7.1 A;obtain⟨aX,L,n,i,P,O,H,B,F,u,a⟩:∃(aX:iO)(L:List dH)(n:List Chunk)(i:Nat),aX.cZ=c.cZ/\aX.eD=c.eD/\L=l.ch/\Q=i/\gD aX.ch L n/\i<L.length/\C o v [dC bf aX,ag,n,E] w:=⟨c,l.ch,S,Q,j,j,j,j,q.ch,af,a.as⟩;refine aq 4 j (bS 12 (.int .i64 (i:Nat)) j (by rw [B]) ?_);obtain⟨g,cap,cur,s,rfl,aA,av,ay⟩:=Row.block F (by omega);have I:∀x∈L,(dH.cs x).length=5:=λ_ _=>rfl
 have K:gD (.slice (some ⟨g,0,none⟩) L.length cap) L (R g cur 311):=s▸F
 have h9:C o v [dC bf aX,ag,R g cur 311,E] w->World.cell? w ⟨g,i*5+4,none⟩=some (ad L[i].k):=λa=>by
  obtain⟨_,_,W,_,_,aa,_⟩:=Row.read K (a.holds (G:=R g cur 311) (by simp));cases W;have h:=aa.cell (h7 (f:=dH.cs) (J:=4) L I i u (by decide) j);rw [add_lit] at h;simpa using h
 refine al 3 j (aw (C.ak (b:=bf) a) (aH some s)) (aq 1 j (hM j j j j u ?_));refine al 1 j (by have h:=h9 a;simpa [add_lit] using h) (aq 2 j (cQ 61 j (λac=>?_) (λac=>?_)));refine al 3 j (aw (C.ak (b:=bf) a) (aH some s)) (aq 1 j (hM j j j j u ?_));refine al 1 j (by have h:=h9 a;simpa [add_lit] using h) (bm 3 j j (λae=>?_) (λae=>?_))
 .refine ao 3 j j ?_
  have D:l.end_ p e t dI=(l,6):=by
   unfold dM.end_;rw [aI (by rw [show j3 p e=true from by simpa using T,show k7 t=true from by simpa using V];decide)];rw [show l.span p e t=some Q from A];dsimp only;rw [nb af,<-Z];subst B;subst H;refine a6 ⟨by simpa using ac,?_⟩;first|rw [ah]|rw [aj]
   simpa using ae
  rw [D];have a:C o v [dC bf aX,ag,R g cur 311,E] w:=a.as;exact⟨j,_,⟨aX,ag,_,E,⟨P▸q.cZ,H▸F,O▸q.eD⟩,j⟩,a.i1⟩
 refine aq 3 j (bS 11 (ad d) j (by rw [aj];rfl) ?_);rotate_left
 refine aq 15 j (bS 11 (ad d) j (by rw [aj];rfl) ?_);rotate_left
 all_goals
  rotate_left
  all_goals
   refine al 3 j (aw (C.ak (b:=bf) a) (aH some s)) (aq 2 j (hM j j j j u ?_));refine aq 1 j (cC (a.bc g) j j j j (by omega) (λw a=>?_));have N:=Row.setCell K (i*5+4) (ad d);rw [sf (f:=dH.cs) L I i u 4 (by decide) (ad d) {L[i] with k:=d} j] at N
   have an:gD aX.ch (L.set i {L[i] with k:=d}) (R g (cur.setIfInBounds (i*5+4) (ad d)) 311):=by
    unfold gD;rw [s,hx];exact N
   have a:=C.gr a (show cur.setIfInBounds (0+i*5+4) (ad d)=cur.setIfInBounds (i*5+4) (ad d) by rw [fg]);refine ao 3 j j ?_
   have D:l.end_ p e t dI=({l with ch:=L.set i {L[i] with k:=d}},0):=by
    unfold dM.end_;rw [aI (by rw [show j3 p e=true from by simpa using T,show k7 t=true from by simpa using V];decide)];rw [show l.span p e t=some Q from A];dsimp only;rw [nb af,<-Z];subst B;subst H;refine aI ?_;first|exact λh=>h.1 (by simpa using ac)|(rintro⟨_,h⟩;(first|rw [ah] at h|rw [aj] at h);exact h (by simpa using ae))
   rw [D];have a:C o v [dC bf aX,ag,R g (cur.setIfInBounds (i*5+4) (ad d)) 311,E] w:=a.as;exact⟨j,_,⟨aX,ag,_,E,⟨P▸q.cZ,an,O▸q.eD⟩,j⟩,a.i1⟩
structure cy where
 log:dM
 acc:List bH
 aE:List (Int×List (Int×aF))
def cy.new:cy:=⟨dM.new,[],[]⟩
abbrev pF(z:Int):Int:=IntKind.i64.wrap z
def dS(m:bH):Int:=pF (pF (pF (pF (pF (pF (m.k*8)+m.p)*101)+m.e)*101)+m.t)
def kJ(g:am)(m:bH)(v:aF):Bool:=m.ok&&(v.k==(dm g m v.f).k)&&(v.s==(dm g m v.f).s)&&(v.v==(dm g m v.f).v)&&(v.sum==(dm g m v.f).sum)&&cR g v
def cy.bY(b:cy)(m:bH):cy×Int:=
 if m.k=1 then({b with log:=(b.log.kN m.p m.e).1},(b.log.kN m.p m.e).2)
 else({b with log:=(b.log.end_ m.p m.e m.t (m.k==2)).1},(b.log.end_ m.p m.e m.t (m.k==2)).2)
def cy.accept(g:am)(b:cy)(m:bH)(l:List aF):cy×Int:=
 if m.ok=false then(b,1) else if n0 g m l=false then(b,9) else if m∈b.acc then(b,0)
 else if(b.bY m).2≠0 then b.bY m
 else({(b.bY m).1 with acc:=b.acc++[m],aE:=fK b.aE (dS m)},0)
def fJ(l:List (Int×aF)):List aF:=(dc l).map Prod.snd
def ha(l:List (Int×aF))(v:aF):List (Int×aF):=if(aZ l v.f).isSome=true then l else b9 l v.f v
def cy.c8(g:am)(b:cy)(m:bH)(v:aF):cy×Int:=
 if m.ok=false then(b,1) else if kJ g m v=false then(b,9) else if m∈b.acc then(b,0)
 else if(aZ b.aE (dS m)).isSome=false/\64<=b.aE.length then(b,3)
 else if n0 g m (fJ (ha ((aZ b.aE (dS m)).getD []) v))=true then
  ((cy.accept g {b with aE:=fK (b9 b.aE (dS m) (ha ((aZ b.aE (dS m)).getD []) v)) (dS m)} m (fJ (ha ((aZ b.aE (dS m)).getD []) v))).1,0)
 else({b with aE:=b9 b.aE (dS m) (ha ((aZ b.aE (dS m)).getD []) v)},0)
def jc(v:Value)(x:aF)(G:List Chunk):Prop:=v= .agg x.cs.toArray/\G=[]/\x.ok
def pX(v:Value)(l:List (Int×aF))(G:List Chunk):Prop:=fs 271 jc v l G
structure ka where
 bf:Nat
 acc:Value
 aE:Value
abbrev ut(g:am)(c:ka):List Value:=[g.p,.pointer (some ⟨c.bf,0,none⟩),c.acc,c.aE]
abbrev cj(g:am)(bg:Nat)(c:ka):List Chunk:=R bg (ut g c).toArray 65
structure Bk(g:am)(b:cy)(c:ka)(L M V:List Chunk):Prop where
 log:kF c.bf b.log L
 acc:dX c.acc b.acc M
 aE:fs 232 pX c.aE b.aE V
def ju(g:am)(bg:Nat)(b:cy)(G:List Chunk):Prop:=∃(c:ka)(L M V:List Chunk),Bk g b c L M V/\G=cj g bg c++(L++(M++V))
theorem C.vR{g:am}{bg:Nat}{c:ka}{L M V:List Chunk}{ae:List (List Chunk)}{o w:World}{F:List Nat}(h:C o F ((cj g bg c++(L++(M++V)))::ae) w):C o F (cj g bg c::L::M::V::ae) w:=h.perm (by simp)
theorem C.k8{g:am}{bg:Nat}{c:ka}{L M V:List Chunk}{ae:List (List Chunk)}{o w:World}{F:List Nat}(h:C o F (cj g bg c::L::M::V::ae) w):C o F ((cj g bg c++(L++(M++V)))::ae) w:=h.perm (by simp)
theorem vD{o:World}{g:am}:Calls prog 33 #[g.p] o λr w=>∃bg G,r=ab bg/\ju g bg cy.new G/\C o [] [G] w:=by
 have a:Own [] o:=C.start o;refine a2 func33 (bh 6 F5 j (λr w⟨bf,e,h,k,f⟩=>?_));subst h;have a:=a.aM f;refine bh 0 Gc j (λr w⟨b,i,h,l,f⟩=>?_);subst h;have a:=a.aM f;refine cP (c:=(ut g (⟨bf,.slice none 0 0,ab b⟩:ka)).toArray) j j j (λ_=>by kernel_rfl) (bM 0 a j j (λd w a=>ao 1 j j ?_));have a:C o [] (cj g d (⟨bf,.slice none 0 0,ab b⟩:ka)::_) w:=a;have a:C o [] [cj g d (⟨bf,.slice none 0 0,ab b⟩:ka),e,[],ax 232 b i (.map #[] 0)] w:=C.perm (A:=[cj g d (⟨bf,.slice none 0 0,ab b⟩:ka),e,ax 232 b i (.map #[] 0)]) a.as (by simp);exact⟨d,_,j,⟨(⟨bf,.slice none 0 0,ab b⟩:ka),e,[],_,⟨k,dX.nil,fs.new l⟩,j⟩,a.k8⟩
theorem qD{o:World}{m:bH}:Calls prog 100 #[ht m] o λr w=>r=ad (dS m)/\C o [] [] w:=by
 have a:Own [] o:=C.start o;refine a2 func100 (bM 2 a j j (λay w a=>?_));have a:C o [] (R ay m.cs.toArray 44::_) w:=a;exact al 4 j (aw (C.ak a) j) (al 2 j (aw (C.ak a) j) (al 3 j (aw (C.ak a) j) (al 3 j (aw (C.ak a) j) (ao 2 j j ⟨j,a.bare⟩))))
theorem yM{o:World}{m:bH}:Calls prog 96 #[ht m] o λr w=>r= .bool m.ok/\C o [] [] w:=by
 have a:Own [] o:=C.start o;refine a2 func96 (bM 2 a j j (λay w a=>?_));have a:C o [] (R ay m.cs.toArray 44::_) w:=a;refine bN 3 (U:=m.cs) j j j (bp (C.ak (b:=ay) a)) ?_;have c:=uN (o:=w) (k:=m.k) (p:=m.p) (e:=m.e) (t:=m.t);refine bh 0 c j (λr w⟨v,G,d,f,aa⟩=>?_);subst d;have a:=a.aM aa;exact ao 10 j j ⟨aH Value.bool (vL m.ok),a.bare⟩
theorem uU(a b:bH)(w:World):(Op.equalIn 10000 44 (.agg a.cs.toArray) (.agg b.cs.toArray)).run prog w= .ok (decide (a=b)) w:=x8 a b w
theorem EM{l:List bH}{k:bH}{i:Nat}(h:i=l.length)(aJ:k∉l.take i):k∉l:=by subst h;rwa [gu] at aJ
theorem ES{o:World}{v:Value}{l:List bH}{G:List Chunk}{m:bH}(z:dX v l G)(y:Holds o G):Calls prog 164 #[v,ht m] o λr w=>(∃J:Int,r= .int .i64 J/\(0<=J↔m∈l))/\C o [] [] w:=by
 have c:Own [] o:=C.start o;obtain⟨k,u,rfl,H,F,t,_⟩:=Row.read z y;have s:∀e∈l,(bH.cs e).length=4:=λ_ _=>rfl
 refine a2 func164 ?_;refine bM 2 c j j (λd w c=>?_);have c:C o [] (R d m.cs.toArray 44::_) w:=c;refine cH 8 j (ct:=Nat×Option Addr) (λi=>[(0,.slice k l.length u),(3,ab d),(7,.int .i64 (l.length:Nat)),(8,.int .i64 (i.1:Nat))]) (λi w=>i.1<=l.length/\m∉l.take i.1/\C o [] [R d m.cs.toArray 44] w) (λi=>l.length-i.1) (0,k) ⟨j,j,j,j,aY⟩ ⟨b6 _,by simp,c⟩ ?_;rintro⟨i,_⟩ w ⟨B,aJ,c⟩;dsimp only at B aJ c⊢;refine bm 4 j j (λp=>?_) (λp=>?_)
 .have g:i<l.length:=by have:=dj p;omega
  have c:C o [] ([R d m.cs.toArray 44]++_) _:=c.front;have c:=c.drew;refine bw 8 j (λw=>(∃ae,C o [] ([R d m.cs.toArray 44]++ae) w)) ⟨_,c⟩ ?_;refine aT 0 j (λw⟨_,c⟩=>c3 (U:=m.cs) j j j (bp (C.ak (b:=d) c))) ?_;refine af 1 2 j ?_
  obtain⟨q,x⟩:∃q,k=some q:=by
   obtain⟨a,A,_⟩:=t (i*4+0) _ (h7 (f:=bH.cs) (J:=0) l s i g (by decide) j);exact⟨a,A⟩
  subst x;refine aT 3 j (λw _=>rl j j g) ?_;refine aT 4 j (λw⟨_,c⟩=>c3 (U:=l[i].cs) j j j (iY (f:=bH.cs) (c.rd t (bX.of_nil _ _)) s i g)) ?_;refine aT 5 j (λw _=>oy j j (by kernel_rfl) (λw=>uU m l[i] w)) ?_;refine bK ?_;refine bm 0 j j (λn=>?_) (λn=>?_)
  .refine ao 4 j j ?_;have he:m=l[i]:=dj n;refine⟨⟨_,j,?_⟩,c.bare⟩;constructor
   .intro _;rw [he];exact et g
   intro _;omega
  refine bq 2 j j j (cM i (by unfold maxLen at F;omega)) ?_;refine bP 1 j ?_;refine⟨(i+1,none),⟨j,j,j,j,aY⟩,⟨g,?_,c.as⟩,by dsimp only;omega⟩;dsimp only;rw [fu g,dw];have E:m≠l[i]:=dN n;simp [aJ,E]
 refine ao 4 j j ?_;have D:i=l.length:=by have:=dN p;omega
 refine⟨⟨-1,j,?_⟩,c.bare⟩;constructor
 .intro h;omega
 intro h;exact absurd h (EM D aJ)
theorem xL{o:World}{v:Value}{l:List bH}{G:List Chunk}{m:bH}(g:dX v l G)(f:Holds o G):Calls prog 98 #[v,ht m] o λr w=>r= .bool (decide (m∈l))/\C o [] [] w:=by
 have a:Own [] o:=C.start o;refine a2 func98 ?_;refine bM 2 a j j (λc w a=>?_);have a:C o [] (R c m.cs.toArray 44::_) w:=a;refine bN 4 (U:=m.cs) j j j (bp (C.ak (b:=c) a)) ?_;have i:=ES (m:=m) g (f.st a);refine bh 0 i j (λr w⟨⟨J,k,d⟩,aa⟩=>?_);subst k;have a:=a.aM aa;refine ao 2 j j ?_;refine⟨aH Value.bool ?_,a.bare⟩;by_cases h:m∈l
 .rw [jC h];exact jC (d.2 h)
 rw [fj h];exact fj (λe=>h (d.1 e))
theorem E2{o:World}{g:am}{bg:Nat}{c:ka}{m:bH}{v:aF}(A:o.heap[bg]? =some (.cells (ut g c).toArray 65 (0,0)))(y:g.at o)(z:g.ok)(l:v.ok):Calls prog 97 #[ab bg,ht m,.agg v.cs.toArray] o λr w=>r= .bool (kJ g m v)/\C o [] [] w:=by
 have a:Own [] o:=C.start o;refine a2 func97 (bM 2 a j j (λe w a=>?_));have a:C o [] (R e m.cs.toArray 44::_) w:=a;refine bM 0 a j j (λd w a=>?_);have a:C o [] [R d v.cs.toArray 115,R e m.cs.toArray 44] w:=a;have a:C o [] ([R e m.cs.toArray 44,R d v.cs.toArray 115]++_) _:=a.front;have a:=a.drew;refine bw 2 j (λw=>∃ae,C o [] ([R e m.cs.toArray 44,R d v.cs.toArray 115]++ae) w) ⟨_,a⟩ (af 0 3 j (bT 3 j (λw⟨_,a⟩=>aw (a.cg A) j) (aT 4 j (λw⟨_,a⟩=>c3 (U:=m.cs) j j j (bp (C.ak (b:=e) a))) (af 5 1 j (a8 6 j a1 (v.eS l) (aO 7 11 j j ?_ ?_))))));have n:=sy (y.st a (am.off.nil g)) z (m:=m) (f:=v.f);refine bF j j j n (λw p=>?_);have a:=a.aM p;have a:C o [] ([R e m.cs.toArray 44,R d v.cs.toArray 115]++_) w:=a.front;refine ar ⟨⟨_,a⟩,?_⟩;refine af 8 3 j (aU 11 j (ex a j j (λh w a=>?_)));have a:C o [] (R h lX.cs.toArray 115::_) w:=a;have a:C o [] ([R e m.cs.toArray 44,R d v.cs.toArray 115]++_) w:=a.front;refine ar ⟨⟨_,a⟩,?_⟩;rotate_left
 refine ex a j j (λh w a=>?_);have a:C o [] (R h lX.cs.toArray 115::_) w:=a;have a:C o [] ([R e m.cs.toArray 44,R d v.cs.toArray 115]++_) w:=a.front;refine ar ⟨⟨_,a⟩,?_⟩;refine aU 7 j ?_;have n:=sy (y.st a (am.off.nil g)) z (m:=m) (f:=v.f);refine bF j j j n (λw p=>?_);have a:=a.aM p;have a:C o [] ([R e m.cs.toArray 44,R d v.cs.toArray 115]++_) w:=a.front;refine ar ⟨⟨_,a⟩,?_⟩;refine af 8 3 j ?_;rotate_left
 all_goals
  refine aU 12 j (c4 (a.bc h) j j j (by simpa using(dm g m v.f).one) (by rw [List.size_toArray];exact(dm g m v.f).len (i2 g m v.f)) bJ (λw a=>?_));have a:=C.whole (U:=(dm g m v.f).cs) a (by rw [(dm g m v.f).len (i2 g m v.f)];rfl);have a:C o [] (R h (dm g m v.f).cs.toArray 115::_) w:=a;have a:C o [] ([R e m.cs.toArray 44,R d v.cs.toArray 115]++_) w:=a.front;refine ar ⟨⟨_,a⟩,?_⟩;refine af 13 1 j (bK ?_);have a:C o [] ([R d v.cs.toArray 115,R h (dm g m v.f).cs.toArray 115]++_) _:=a.front;have a:=a.drew;refine bw 1 j (λw=>∃ae,C o [] ([R d v.cs.toArray 115,R h (dm g m v.f).cs.toArray 115]++ae) w) ⟨_,a⟩ (af 0 2 j (ef 21 j (λq=>?_) (λq=>?_)))
  .refine af 2 1 j (a8 3 j a1 v.g1 (af 4 1 j (a8 5 j a1 (dm g m v.f).g1 (af 6 3 j (ef 28 j (λt=>?_) (λt=>?_))))))
   .refine af 9 1 j (a8 10 j a1 v.aX (af 11 1 j (a8 12 j a1 (dm g m v.f).aX (af 13 3 j (ef 35 j (λeS=>?_) (λeS=>?_))))))
    .refine af 16 1 j (a8 17 j a1 v.dv (af 18 1 j (a8 19 j a1 (dm g m v.f).dv (af 20 3 j (ef 42 j (λu=>?_) (λu=>?_))))))
     .refine af 23 1 j (aT 24 j (λw⟨_,a⟩=>c3 (U:=aG v.sum) j j (by rw [ds];exact l.1) (v.sX l (C.ak (b:=d) a))) (af 25 1 j (aT 26 j (λw⟨_,a⟩=>c3 (U:=aG (dm g m v.f).sum) j j (by rw [ds];exact(i2 g m v.f).1) ((dm g m v.f).sX (i2 g m v.f) (C.ak (b:=h) a))) (aT 27 j (λw _=>oy j j (by kernel_rfl) (λw=>qq v.sum (dm g m v.f).sum l.1 (i2 g m v.f).1 9998 w)) (af 28 2 j (ef 49 j (λx=>?_) (λx=>?_)))))))
      .refine af 30 3 j (bT 33 j (λw⟨_,a⟩=>aw (a.cg A) j) (aT 34 j (λw⟨_,a⟩=>c3 (U:=v.cs) j j (v.len l) (bp (C.ak (b:=d) a))) (aU 35 j ?_)));have n:=sj (y.st a (am.off.nil g)) z l;refine bF j j j n (λw p=>?_);have a:=a.aM p;have a:C o [] ([R d v.cs.toArray 115,R h (dm g m v.f).cs.toArray 115]++_) w:=a.front;refine ar ⟨⟨_,a⟩,?_⟩;refine af 36 2 j (bK (ao 0 j j (⟨aH Value.bool ?_,a.bare⟩)));unfold kJ;rw [show m.ok=true from q,show(v.k==(dm g m v.f).k)=true from t,show(v.s==(dm g m v.f).s)=true from eS,show(v.v==(dm g m v.f).v)=true from u,show(v.sum==(dm g m v.f).sum)=true from x];simp
      refine af 30 8 j (bK (ao 0 j j (⟨aH Value.bool ?_,a.bare⟩)));unfold kJ;have i:(v.sum==(dm g m v.f).sum)=false:=x;rw [i];simp
     refine af 23 15 j (bK (ao 0 j j (⟨aH Value.bool ?_,a.bare⟩)));unfold kJ;have i:(v.v==(dm g m v.f).v)=false:=u;rw [i];simp
    refine af 16 22 j (bK (ao 0 j j (⟨aH Value.bool ?_,a.bare⟩)));unfold kJ;have i:(v.s==(dm g m v.f).s)=false:=eS;rw [i];simp
   refine af 9 29 j (bK (ao 0 j j (⟨aH Value.bool ?_,a.bare⟩)));unfold kJ;have i:(v.k==(dm g m v.f).k)=false:=t;rw [i];simp
  refine af 2 36 j (bK (ao 0 j j (⟨aH Value.bool ?_,a.bare⟩)));unfold kJ;rw [show m.ok=false from q];rfl
theorem su{o:World}{p:Option Addr}{m:List (Int×Value)}{t:List (Int×aF)}{H:List Chunk}(E:dE 271 o p m)(q:c6 jc m t H)(X:t.length<=100000):Calls prog 106 #[.pointer p] o λr w=>∃ag,er r (fJ t) ag/\C o [] [ag] w:=by
 have c:Own [] o:=C.start o;refine j0 func106 (cl 5 c j (λe w c=>?_));have c:C o [] [R e #[.slice none 0 0] 101,[]] w:=(C.empty c).f1;refine bh 4 (Cq (o:=w) (p:=p)) j (λr w⟨u,x,K,aa⟩=>?_);subst K;have F:=(E.st c).st aa;have c:=c.aM aa;have c:C o [] ([R u #[.pointer p] 154,[(x,.cells #[.func (.func 208) #[] #[]] 38 (0,0))]]++[R e #[.slice none 0 0] 101,[]]) w:=c
 refine j4 1 j (G5 (by have W:=q.len;omega)) j (by have:=c.size;simpa using this) c j (λ_=>rfl) (by intro p s;simp at s;rcases s with rfl|rfl<;>rfl)
  (λpre ae=>∃v ag,ae=[R e #[v] 101,ag]/\er v (((dc t).take pre.length).map Prod.snd) ag) (λ_ _=>False) ⟨_,[],j,Row.nil 115 68⟩ (λL aK B=>F.st B) (λ_ _ _ _=>trivial) ?_ ?_ (λ_ _ h=>h.elim) (λ_ _ _ h=>h.elim)
 .rintro y pre ⟨O,ab⟩ P L ac A ⟨v,ag,rfl,i⟩ c;obtain⟨t1,t2,d,T,S,V,n,N,Y,G⟩:=q.oq A;obtain⟨rfl,rfl,g⟩:=G;have n:dc t=t1++(O,d)::t2:=n;have Z:((dc t).take pre.length).length<=100000:=by rw [hl,hR];omega
  have J:(((dc t).take (pre.length+1)).map Prod.snd)=(((dc t).take pre.length).map Prod.snd)++[d]:=by
   rw [n,<-N,md,p1,List.take_of_length_le (by omega)];simp
  have c:=C.gy c;refine cl 1 c j (λl w c=>ck 0 (c.bc l) j j j (by simpa using d.one) (by rw [List.size_toArray];exact d.len g) (λw c=>?_));have c:=C.whole (U:=d.cs) c (by rw [d.len g];rfl);have c:C _ _ [R l d.cs.toArray 115,R e #[v] 101,ag] w:=c.as;refine bI 0 j (⟨j,_,c,λL ad c=>?_⟩);have c:=C.gy c;refine al 2 j (aw (C.ak (b:=e) c) j) (bN 0 (U:=d.cs) j j (d.len g) (bp (C.ak (b:=l) c)) (gC (U:=d.cs) c j j j (d.len g) (by decide) (by decide) (λz w c=>?_)));have aJ:=bp (C.ak (b:=z) c);refine d9 (c.to ag) i j j (by decide) j j j (m:=1) (news:=d.cs) (d.len g) aJ (by have:=tj [d];simpa [vcs] using this) (by simp only [List.length_map];omega) (by unfold maxLen;simp only [List.length_map];omega) (λv1 f w k c=>?_)
  have k:er v1 ((((dc t).take pre.length).map Prod.snd)++[d]) f:=by
   show Row 115 68 v1 _ (vcs _) f;rw [b4,List.length_singleton,tk];exact k
  refine dB 0 (c.bc e) j j j (Row.one k) (λw c=>?_);have c:C _ _ (R e #[v1] 101::_) w:=c;have c:C _ _ [R e #[v1] 101,f] w:=c.as;refine bI 0 j (⟨[R e #[v1] 101,f],c,v1,f,j,?_⟩);rw [b4,List.length_singleton,J];exact k
 rintro xs Q w D ⟨v,ag,rfl,i⟩ c;rw [D,iA,q.len,ir (by rw [hR];exact cD _)] at i;have c:C o [] [R u #[.pointer p] 154,[(x,.cells #[.func (.func 208) #[] #[]] 38 (0,0))],R e #[v] 101,ag] w:=c;refine al 2 j (aw (C.ak (b:=e) c) j) (bI 1 j ⟨v,λw M=>?_⟩);have c:=M.st c (cD _);refine⟨λa I=>i7 (fn:=f106) I j _ _,?_⟩;exact⟨ag,i,c.as⟩
theorem DZ{o:World}{g:am}{bg:Nat}{b:cy}{c:ka}{L:List Chunk}{m:bH}(u:kF c.bf b.log L)(v:b.log.ch.length<=1000000)(a:Own [cj g bg c,L] o):Calls prog 167 #[ab bg,ht m] o λr w=>r=ad (b.bY m).2/\∃h,kF c.bf (b.bY m).1.log h/\C o (au [cj g bg c,L]) [cj g bg c,h] w:=by
 obtain⟨d,s⟩:∃d,d=au [cj g bg c,L]:=⟨_,j⟩;rw [<-s];have a:C o d [cj g bg c,L] o:=s▸a;refine a2 func167 (bM 2 a j j (λf w a=>?_));have a:C o d [R f m.cs.toArray 44,cj g bg c,L] w:=a;refine al 5 j (aw (C.ak (b:=f) a) j) (bm 1 j j (λdz=>?_) (λdz=>?_))
 .have a:C o d ([R f m.cs.toArray 44,cj g bg c]++_) _:=a.front;have a:=a.drew;refine bw 1 j (λw=>∃ae,C o d ([R f m.cs.toArray 44,cj g bg c]++ae) w) ⟨_,a⟩ (af 0 3 j (a8 3 j a1 j (af 4 1 j (a8 5 j a1 j (af 6 1 j (a8 7 j a1 j (aU 8 j ?_)))))));have l:=Fq (p:=m.p) (e:=m.e) u (a.ours (cI:=[L]));refine bF j j j l (λw⟨h,i,q⟩=>?_);have a:=a.b3 q;have a:C o d ([R f m.cs.toArray 44,cj g bg c]++_) w:=a.front;refine ar ⟨⟨_,a⟩,?_⟩;refine af 9 1 j (bK (ao 0 j j ?_));have n:b.bY m=({b with log:=(b.log.kN m.p m.e).1},(b.log.kN m.p m.e).2):=a6 (dY.1 dz);rw [n];exact⟨j,h,i,a.as⟩
 have a:C o d ([R f m.cs.toArray 44,cj g bg c]++_) _:=a.front;have a:=a.drew;refine bw 2 j (λw=>∃ae,C o d ([R f m.cs.toArray 44,cj g bg c]++ae) w) ⟨_,a⟩ (af 0 3 j (a8 3 j a1 j (af 4 1 j (a8 5 j a1 j (af 6 1 j (a8 7 j a1 j (af 8 1 j (a8 9 j a1 j (af 10 1 j (a8 11 j a1 j (af 12 1 j (aU 13 j ?_))))))))))));have l:=Ea (p:=m.p) (e:=m.e) (t:=m.t) (dI:=m.k==2) u v (a.ours (cI:=[L]));refine bF j j j l (λw⟨h,i,q⟩=>?_);have a:=a.b3 q;have a:C o d ([R f m.cs.toArray 44,cj g bg c]++_) w:=a.front;refine ar ⟨⟨_,a⟩,?_⟩;refine af 14 1 j (bK (ao 0 j j ?_));have n:b.bY m=({b with log:=(b.log.end_ m.p m.e m.t (m.k==2)).1},(b.log.end_ m.p m.e m.t (m.k==2)).2):=aI (by simpa using dz);rw [n];exact⟨j,h,i,a.as⟩
theorem cy.uL(b:cy)(m:bH):(b.bY m).1.acc=b.acc/\(b.bY m).1.aE=b.aE:=by unfold cy.bY;split<;>exact⟨j,j⟩
theorem qk{o w:World}{F:List Nat}{ae:List (List Chunk)}{a:Nat}{e:TypeId}{m:bH}{u:Value}(b:C o F ([(a,.cells (m.cs++[u]).toArray e (0,0))]::ae) w):Rd w (some ⟨a,0,none⟩) m.cs:=b.i6 (off:=0) (U:=m.cs) (λJ v c=>by rw [fg];exact r5 c)
theorem wU{o:World}{g:am}{bg:Nat}{b:cy}{G:List Chunk}{m:bH}{B:Option Addr}{l:List aF}{d:Nat}(N:ju g bg b G)(Y:b.log.ch.length<=1000000)(aw:b.acc.length<=1000000)(X:g.at o)(ag:g.ok)(Q:g.off (au [G]))(al:Rd o B (l.flatMap aF.cs))(O:bX B (l.flatMap aF.cs) (au [G]))(av:∀x∈l,x.ok)(W:l.length<=d)(Z:l.length<=1000)(a:Own [G] o):Calls prog 109 #[ab bg,.agg (m.cs++[Value.slice B l.length d]).toArray] o λr w=>r=ad (b.accept g m l).2/\∃ai,ju g bg (b.accept g m l).1 ai/\C o (au [G]) [ai] w:=by
 have I:=N;obtain⟨c,L,M,V,t,rfl⟩:=N;obtain⟨e,J⟩:∃e,e=au [cj g bg c++(L++(M++V))]:=⟨_,j⟩;rw [<-J] at Q O⊢;have a:C o e [cj g bg c++(L++(M++V))] o:=J▸a;have a:=a.vR;refine a2 func109 (bM 2 a j j (λf w a=>?_));have a:C o e [R f (m.cs++[Value.slice B l.length d]).toArray 121,cj g bg c,L,M,V] w:=a;refine aq 8 j (bS 9 (.bool false) j (aH Value.bool (j)) ?_);refine bN 1 (U:=m.cs) j j j ((a.bc f)|>qk) (bo 0 (yM (m:=m)) j (λw i=>?_));have a:=a.aM i;refine bm 3 j j (λeu=>?_) (λeu=>?_)
 .refine ao 3 j j ?_
  have p:b.accept g m l=(b,1):=by
   unfold cy.accept;exact a6 (by simpa using eu)
  rw [p];have a:C o e [cj g bg c,L,M,V] w:=a.as;exact⟨j,_,I,a.k8⟩
 have a:C o e ([R f (m.cs++[Value.slice B l.length d]).toArray 121,cj g bg c]++_) _:=a.front;have a:=a.drew;refine bw 1 j (λw=>∃ae,C o e ([R f (m.cs++[Value.slice B l.length d]).toArray 121,cj g bg c]++ae) w) ⟨_,a⟩ (af 0 3 j (a8 3 j a1 j (aT 4 j (λw⟨_,a⟩=>c3 (U:=(m.cs++[Value.slice B l.length d])) j j j (bp (C.ak (b:=f) a))) (aU 5 j ?_))));have s:=ud (m:=m) (d:=d) ag av W Z (⟨X.st a Q,a.rd al O,am.off.nil g,bX.of_nil _ _⟩:Ext g B (l.flatMap aF.cs) [] _);refine bF j j j s (λw i=>?_);have a:=a.aM i;have a:C o e ([R f (m.cs++[Value.slice B l.length d]).toArray 121,cj g bg c]++_) w:=a.front;refine ar ⟨⟨_,a⟩,?_⟩;refine af 6 2 j (bK (bm 0 j j (λy=>?_) (λy=>?_)))
 .refine ao 3 j j ?_
  have p:b.accept g m l=(b,9):=by
   unfold cy.accept;exact(aI (by simpa using eu)).trans (if_pos (by simpa using y))
  rw [p];have a:C o e [cj g bg c,L,M,V] w:=a.as;exact⟨j,_,I,a.k8⟩
 have a:C o e ([R f (m.cs++[Value.slice B l.length d]).toArray 121,cj g bg c]++_) _:=a.front;have a:=a.drew;refine bw 1 j (λw=>∃ae,C o e ([R f (m.cs++[Value.slice B l.length d]).toArray 121,cj g bg c]++ae) w) ⟨_,a⟩ (af 0 3 j (a8 3 j a1 j (af 4 1 j (aT 5 j (λw⟨_,a⟩=>c3 (U:=m.cs) j j j ((a.bc f)|>qk)) (aU 6 j ?_)))));have s:=xL (m:=m) t.acc (a.holds (G:=M) (by simp));refine bF j j j s (λw i=>?_);have a:=a.aM i;have a:C o e ([R f (m.cs++[Value.slice B l.length d]).toArray 121,cj g bg c]++_) w:=a.front;refine ar ⟨⟨_,a⟩,?_⟩;refine af 7 1 j (bK (cm 0 j j (λD=>?_) (λD=>?_)))
 .refine ao 3 j j ?_
  have p:b.accept g m l=(b,0):=by
   unfold cy.accept;exact(aI (by simpa using eu)).trans ((if_neg (by simpa using y)).trans (if_pos D))
  rw [p];have a:C o e [cj g bg c,L,M,V] w:=a.as;exact⟨j,_,I,a.k8⟩
 refine bN 6 (U:=m.cs) j j j ((a.bc f)|>qk) ?_;have s:=DZ (g:=g) (bg:=bg) (m:=m) t.log Y a.ours;refine bo 0 s j (λw⟨h,K,i⟩=>?_);have a:=a.b3 i;have a:C o e [R f (m.cs++[Value.slice B l.length d]).toArray 121,cj g bg c,h,M,V] w:=a.as;refine bm 5 j j (λF=>?_) (λF=>?_)
 .refine ao 4 j j ?_
  have p:b.accept g m l=b.bY m:=by
   unfold cy.accept;exact(aI (by simpa using eu)).trans ((if_neg (by simpa using y)).trans ((if_neg D).trans (if_pos (by simpa using F))))
  rw [p];have a:C o e [cj g bg c,h,M,V] w:=a.as;exact⟨j,_,⟨c,h,M,V,⟨K,by rw [(b.uL m).1];exact t.acc,by rw [(b.uL m).2];exact t.aE⟩,j⟩,a.k8⟩
 have a:C o e ([R f (m.cs++[Value.slice B l.length d]).toArray 121,cj g bg c]++_) _:=a.front;have a:=a.drew;refine bw 2 j (λw=>∃ae,C o e ([R f (m.cs++[Value.slice B l.length d]).toArray 121,cj g bg c]++ae) w) ⟨_,a⟩ (af 0 4 j (a8 4 j a1 j (af 5 1 j (aT 6 j (λw⟨_,a⟩=>c3 (U:=m.cs) j j j ((a.bc f)|>qk)) (aU 7 j (gC (U:=m.cs) a j j j j bJ bJ (λT w a=>?_)))))));have aJ:=bp (C.ak (b:=T) a);have a:C o e ([R f (m.cs++[Value.slice B l.length d]).toArray 121,cj g bg c]++_) w:=a.front;refine ar ⟨⟨_,a⟩,?_⟩;refine aU 8 j (d9 (a.to M) t.acc j j (by decide) j j j (m:=1) (news:=m.cs) j aJ (by intro u hu;exact mv [m] u (by simpa using hu)) (by omega) (by unfold maxLen;omega) (λv1 n w E a=>?_))
 have E:dX v1 (b.acc++[m]) n:=by
  unfold dX;rw [b4,List.flatMap_append];simpa using E
 have a:C o e ([R f (m.cs++[Value.slice B l.length d]).toArray 121,cj g bg c]++_) w:=a.front;refine ar ⟨⟨_,a⟩,?_⟩;refine af 9 2 j (dy 11 j (cC (a.bc bg) j j j E.one bJ (λw a=>?_)));have a:C o e (cj g bg ({c with acc:=v1})::_) w:=a;have a:C o e [R f (m.cs++[Value.slice B l.length d]).toArray 121,cj g bg ({c with acc:=v1}),h,n,V] w:=a.as;refine ar (cX ?_);obtain⟨q,ah,b1,ay,H,P,ac,ap,rfl⟩:=t.aE;have a:C o e [R f (m.cs++[Value.slice B l.length d]).toArray 121,cj g bg ({c with acc:=v1}),h,n,ax 232 q ah b1,H] _:=C.perm (A:=[R f (m.cs++[Value.slice B l.length d]).toArray 121,cj g bg ({c with acc:=v1}),h,n,ax 232 q ah b1++H]) a.as (by simp);have a:=a.drew;refine bw 1 j (λw=>∃ae,C o e ([R f (m.cs++[Value.slice B l.length d]).toArray 121,cj g bg ({c with acc:=v1})]++ae) w) ⟨_,a⟩ (af 0 3 j (a8 3 j a1 (aH some P) (af 4 1 j (aT 5 j (λw⟨_,a⟩=>c3 (U:=m.cs) j j j ((a.bc f)|>qk)) (aU 6 j (bF j j j (qD (m:=m)) (λw i=>?_)))))));have a:=a.aM i;have a:C o e ([R f (m.cs++[Value.slice B l.length d]).toArray 121,cj g bg ({c with acc:=v1})]++_) w:=a.front;refine ar ⟨⟨_,a⟩,?_⟩;refine aU 7 j ?_;have s:=uJ (k:=dS m) (a.ours (cI:=[ax 232 q ah b1])) ac;refine bF j j j s (λw⟨v,aa,i⟩=>?_);have a:=a.b3 i;have a:C o e [R f (m.cs++[Value.slice B l.length d]).toArray 121,cj g bg ({c with acc:=v1}),h,n,ax 232 q ah v,H] w:=a.as;refine ar ⟨⟨_,a⟩,?_⟩;refine bK (ao 3 j j ?_)
 have p:b.accept g m l=({(b.bY m).1 with acc:=b.acc++[m],aE:=fK b.aE (dS m)},0):=by
  unfold cy.accept;exact(aI (by simpa using eu)).trans ((if_neg (by simpa using y)).trans ((if_neg D).trans (if_neg (by simpa using F))))
 rw [p];obtain⟨z,S,an,aj⟩:=ap.del (k:=dS m);have a:C o e [cj g bg ({c with acc:=v1}),h,n,ax 232 q ah v,H] w:=a.as
 have a:C o e [cj g bg ({c with acc:=v1}),h,n,ax 232 q ah v,S,z] w:=a.perm (by
  simp only [kj,m1,gY];exact .append_left _ (.append_left _ (.append_left _ (.append_left _ aj))))
 exact⟨j,_,⟨{c with acc:=v1},h,n,ax 232 q ah v++z,⟨K,E,⟨q,ah,v,_,z,P,aa,an,j⟩⟩,j⟩,C.perm (A:=[cj g bg ({c with acc:=v1}),h,n,ax 232 q ah v,z]) a.as (by simp)⟩
theorem jc.all{m:List (Int×Value)}:∀{t:List (Int×aF)}{H:List Chunk},c6 jc m t H->∀q∈t,q.2.ok:=by
 induction m with
 |nil=>intro t H h;cases t with|nil=>intro q d;cases d|cons _ _=>exact h.elim
 |cons p m e=>
  intro t H h;cases t with
  |nil=>exact h.elim
  |cons q t=>
   obtain⟨_,_,_,_,b,c⟩:=h;intro x a;rcases g0.1 a with rfl|a
   .exact b.2.2
   .exact e c x a
theorem ss{t:List (Int×aF)}(h:∀q∈t,q.2.ok):∀x∈fJ t,x.ok:=λx b=>by
 obtain⟨q,a,rfl⟩:=dO.1 b;exact h q (gO.1 a)
theorem sr(t:List (Int×aF)):(fJ t).length=t.length:=by unfold fJ;rw [List.length_map,List.length_mergeSort]
theorem rT(l:List (Int×aF))(v:aF):(ha l v).length<=l.length+1:=by
 unfold ha;split
 .omega
 .exact mw _ _ _
theorem A1{o:World}{g:am}{bg:Nat}{b:cy}{G:List Chunk}{m:bH}{v:aF}(bQ:ju g bg b G)(bU:b.log.ch.length<=1000000)(bR:b.acc.length<=1000000)(bW:∀p∈b.aE,p.2.length<=100)(aW:g.at o)(a5:g.ok)(aP:g.off (au [G]))(Z:v.ok)(e:Own [G] o):Calls prog 49 #[ab bg,ht m,.agg v.cs.toArray] o λr w=>r=ad (b.c8 g m v).2/\∃ai,ju g bg (b.c8 g m v).1 ai/\C o (au [G]) [ai] w:=by
 have bb:=bQ;obtain⟨c,L,M,V,an,rfl⟩:=bQ;obtain⟨i,bP⟩:∃i,i=au [cj g bg c++(L++(M++V))]:=⟨_,j⟩;rw [<-bP] at aP⊢;have e:C o i [cj g bg c++(L++(M++V))] o:=bP▸e;have e:=e.vR;refine a2 func49 (bM 2 e j j (λn w e=>?_));have e:C o i (R n m.cs.toArray 44::_) w:=e;refine bM 0 e j j (λN w e=>?_);have e:C o i [R N v.cs.toArray 115,R n m.cs.toArray 44,cj g bg c,L,M,V] w:=e;refine aq 8 j (bS 15 (.bool false) j (aH Value.bool (j)) ?_);refine bN 0 (U:=m.cs) j j j (bp (C.ak (b:=n) e)) (bo 0 (yM (m:=m)) j (λw t=>?_));have e:=e.aM t;refine bm 3 j j (λay=>?_) (λay=>?_)
 .refine ao 3 j j ?_
  have W:b.c8 g m v=(b,1):=by
   unfold cy.c8;exact a6 (by simpa using ay)
  rw [W];have e:C o i [cj g bg c,L,M,V] w:=e.as;exact⟨j,_,bb,e.k8⟩
 refine bN 3 (U:=m.cs) j j j (bp (C.ak (b:=n) e)) (bN 0 (U:=v.cs) j j (v.len Z) (bp (C.ak (b:=N) e)) (bo 0 (E2 (c:=c) (m:=m) (v:=v) (C.ak (b:=bg) e) (aW.st e aP) a5 Z) j (λw t=>?_)));have e:=e.aM t;refine bm 2 j j (λaL=>?_) (λaL=>?_)
 .refine ao 3 j j ?_
  have W:b.c8 g m v=(b,9):=by
   unfold cy.c8;exact(aI (by simpa using ay)).trans (if_pos (by simpa using aL))
  rw [W];have e:C o i [cj g bg c,L,M,V] w:=e.as;exact⟨j,_,bb,e.k8⟩
 have e:C o i ([R n m.cs.toArray 44,cj g bg c]++_) _:=e.front;have e:=e.drew;refine bw 1 j (λw=>∃ae,C o i ([R n m.cs.toArray 44,cj g bg c]++ae) w) ⟨_,e⟩ (af 0 3 j (a8 3 j a1 j (aT 4 j (λw⟨_,e⟩=>c3 (U:=m.cs) j j j (bp (C.ak (b:=n) e))) (aU 5 j ?_))));have z:=xL (m:=m) an.acc (e.holds (G:=M) (by simp));refine bF j j j z (λw t=>?_);have e:=e.aM t;have e:C o i ([R n m.cs.toArray 44,cj g bg c]++_) w:=e.front;refine ar ⟨⟨_,e⟩,?_⟩;refine af 6 1 j (bK (cm 0 j j (λaQ=>?_) (λaQ=>?_)))
 .refine ao 3 j j ?_
  have W:b.c8 g m v=(b,0):=by
   unfold cy.c8;exact(aI (by simpa using ay)).trans ((if_neg (by simpa using aL)).trans (if_pos aQ))
  rw [W];have e:C o i [cj g bg c,L,M,V] w:=e.as;exact⟨j,_,bb,e.k8⟩
 obtain⟨x,ah,b1,bO,H,aB,bd,ap,rfl⟩:=an.aE;have e:C o i [R n m.cs.toArray 44,cj g bg c,R N v.cs.toArray 115,L,M,ax 232 x ah b1,H] _:=C.perm (A:=[R n m.cs.toArray 44,cj g bg c,R N v.cs.toArray 115,L,M,ax 232 x ah b1++H]) e.as (by simp);have e:=e.drew;refine bw 2 j (λw=>∃ae,C o i ([R n m.cs.toArray 44,cj g bg c]++ae) w) ⟨_,e⟩ (af 0 3 j (a8 3 j a1 (aH some aB) (aT 4 j (λw⟨_,e⟩=>c3 (U:=m.cs) j j j (bp (C.ak (b:=n) e))) (aU 5 j (bF j j j (qD (m:=m)) (λw t=>?_))))));have e:=e.aM t;have e:C o i ([R n m.cs.toArray 44,cj g bg c]++_) w:=e.front;refine ar ⟨⟨_,e⟩,?_⟩;refine aU 6 j ?_;have z:=yx (k:=dS m) (dE.own (e.to (ax 232 x ah b1)) bd);refine bF j j j z (λw t=>?_);have e:=e.aM t;have e:C o i ([R n m.cs.toArray 44,cj g bg c]++_) w:=e.front;refine ar ⟨⟨_,e⟩,?_⟩;refine af 7 5 j (bK (bm 5 j j (λaN=>?_) (λaN=>?_)))
 .refine al 6 j (aw (C.ak (b:=bg) e) (aH some aB)) ?_;have z:=Fx (dE.own (e.to (ax 232 x ah b1)) bd);refine bo 0 z j (λw t=>?_);have e:=e.aM t;refine cm 1 j j (λba=>?_) (λba=>?_)
  .refine ao 3 j j ?_
   have W:b.c8 g m v=(b,3):=by
    unfold cy.c8;refine(aI (by simpa using ay)).trans ((if_neg (by simpa using aL)).trans ((if_neg aQ).trans ?_));exact a6 ⟨(ap.isSome (dS m)).symm.trans (by simpa using aN),by have:=ba;have:=ap.len;omega⟩
   rw [W];exact⟨j,_,bb,C.perm (A:=[cj g bg c,L,M,ax 232 x ah b1,H]) e.as (by simp)⟩
  refine bh 3 Gd j (λr w⟨be,bY,aD,b8,t⟩=>?_);subst aD;have e:=e.aM t;have e:C o i ([R n m.cs.toArray 44,cj g bg c]++_) _:=e.front;have e:=e.drew;refine bw 1 j (λw=>∃ae,C o i ([R n m.cs.toArray 44,cj g bg c]++ae) w) ⟨_,e⟩ (af 0 3 j (a8 3 j a1 (aH some aB) (aT 4 j (λw⟨_,e⟩=>c3 (U:=m.cs) j j j (bp (C.ak (b:=n) e))) (af 6 1 j (aU 5 j (bF j j j (qD (m:=m)) (λw t=>?_)))))));have e:=e.aM t;have e:C o i ([R n m.cs.toArray 44,cj g bg c]++_) w:=e.front;refine ar ⟨⟨_,e⟩,?_⟩;refine aU 7 j ?_;have z:=HK (k:=dS m) (v:=ab be) (e.ours (cI:=[ax 232 x ah b1])) bd;refine bF j j j z (λw⟨bZ,b7,t⟩=>?_);have e:=e.b3 t;have e:C o i ([R n m.cs.toArray 44,cj g bg c]++_) w:=e.front;refine ar ⟨⟨_,e⟩,?_⟩;refine bK ?_
  obtain⟨F,aG,H1,u,y,Q,iI,T,E,K,a4,aC,Y,aX,a0,e,bC⟩:∃(F:Obj)(aG:List (Int×Value))(H1:List Chunk)(u y:Nat)(Q:Obj)(iI:List (Int×Value))(T E:List Chunk)(K:List (Int×aF)),cc bL F aG/\cc bL Q iI/\c6 jc iI K T/\(aZ b.aE (dS m)).getD []=K/\(∀b0 aK,pX (ab u) b0 aK->c6 pX aG (b9 b.aE (dS m) b0) (H1++(aK++E)))/\C o i [R n m.cs.toArray 44,R N v.cs.toArray 115,cj g bg c,L,M,ax 232 x ah F,H1,ax 271 u y Q,T,E] w/\Value.pointer (some ⟨be,0,none⟩)=ab u:=by
   have bV:aZ b.aE (dS m)=none:=mu ((ap.isSome (dS m)).symm.trans (by simpa using aN));refine⟨bZ,_,H,be,bY,.map #[] 0,[],[],[],[],b7,b8,j,by rw [bV];rfl,λb0 aK bA=>?_,?_,j⟩
   .have:=ap.add bV bA;rw [gY];exact this
   .exact C.perm (A:=[R n m.cs.toArray 44,R N v.cs.toArray 115,cj g bg c,L,M,ax 232 x ah bZ,H,ax 271 be bY (.map #[] 0)]) e.as (by simp)
  refine aq 3 j (bS 7 (ab u) j bC ?_);have a7:∀q∈iI,gE 68 q.2:=Y.wide (λv a G h=>by rw [h.1];exact⟨a.cs,j,a.len h.2.2,a.one⟩);obtain⟨ca,bE,bG,bI⟩:=gE.get wr a7 v.f
  have b5:K.length<=100:=by
   rw [<-aX];cases bv:aZ b.aE (dS m) with
   |none=>exact b6 _
   |some dA=>exact bW _ (hF bv)
  refine al 2 j (aw (C.ak (b:=N) e) (v.eS Z)) ?_;have z:=yy (k:=v.f) a7 (dE.own (e.to (ax 271 u y Q)) aC);refine bh 0 z j (λr w⟨aD,t⟩=>?_);rw [bE] at aD;subst aD;have e:=e.aM t;refine cl 3 e j (λbi w e=>c4 (e.bc bi) j j j bI bG (by decide) (λw e=>?_));have e:C o i [R n m.cs.toArray 44,R N v.cs.toArray 115,cj g bg c,L,M,ax 232 x ah F,H1,ax 271 u y Q,T,E] w:=e.as;refine bm 5 j j (λaR=>?_) (λaR=>?_);refine al 3 j (aw (C.ak (b:=N) e) (v.eS Z)) (bN 0 (U:=v.cs) j j (v.len Z) (bp (C.ak (b:=N) e)) ?_);have z:=Aw (k:=v.f) (v.len Z) v.one (e.ours (cI:=[ax 271 u y Q])) aC;refine bo 0 z j (λw⟨a9,bt,t⟩=>?_);have e:=e.b3 t
  obtain⟨B,P,D,s,ag,X,ac,e⟩:∃(B:Obj)(P:List (Int×Value))(D:List Chunk)(s:List (Int×aF)),cc bL B P/\c6 jc P s D/\ha K v=s/\C o i [R n m.cs.toArray 44,R N v.cs.toArray 115,cj g bg c,L,M,ax 232 x ah F,H1,ax 271 u y B,D,E] w:=by
   have aJ:aZ K v.f=none:=mu ((Y.isSome v.f).symm.trans (by simpa using aR));exact⟨a9,_,_,_,bt,Y.add aJ (show jc (.agg v.cs.toArray) v [] from⟨j,j,Z⟩),by unfold ha;rw [if_neg (by rw [aJ];decide)],C.perm (A:=[R n m.cs.toArray 44,R N v.cs.toArray 115,cj g bg c,L,M,ax 232 x ah F,H1,ax 271 u y a9,T,E]) e.as (by simp)⟩
  have br:s.length<=101:=by rw [<-ac];have:=rT K v;omega
  have aY:=jc.all X;have e:C o i ([R n m.cs.toArray 44]++_) _:=e.front;have e:=e.drew;refine bw 2 j (λw=>∃ae,C o i ([R n m.cs.toArray 44]++ae) w) ⟨_,e⟩ ?_;rotate_left
  obtain⟨B,P,D,s,ag,X,ac,e⟩:∃(B:Obj)(P:List (Int×Value))(D:List Chunk)(s:List (Int×aF)),cc bL B P/\c6 jc P s D/\ha K v=s/\C o i [R n m.cs.toArray 44,R N v.cs.toArray 115,cj g bg c,L,M,ax 232 x ah F,H1,ax 271 u y B,D,E] w:=by
   have bD:(aZ K v.f).isSome=true:=(Y.isSome v.f).symm.trans (by simpa using aR);exact⟨Q,iI,T,K,aC,Y,by unfold ha;rw [if_pos bD],e.as⟩
  have br:s.length<=101:=by rw [<-ac];have:=rT K v;omega
  have aY:=jc.all X;have e:C o i ([R n m.cs.toArray 44]++_) _:=e.front;have e:=e.drew;refine bw 3 j (λw=>∃ae,C o i ([R n m.cs.toArray 44]++ae) w) ⟨_,e⟩ ?_;rotate_left
  all_goals
   refine aT 0 j (λw⟨_,e⟩=>c3 (U:=m.cs) j j j (bp (C.ak (b:=n) e))) (af 1 1 j (aO 2 4 j j ?_ ?_));have z:=su (dE.own (e.to (ax 271 u y B)) ag) X (by omega);refine cN j j j z (λr w⟨O,aa,t⟩=>?_);obtain⟨J,I,rfl,aV,_⟩:=Row.form aa;have e:=e.aM t;have e:C o i ([R n m.cs.toArray 44]++_) w:=e.front;refine ar ⟨⟨_,e⟩,?_⟩;refine aT 3 j (λw _=>e1 (c:=(m.cs++[Value.slice J (fJ s).length I]).toArray) j (λ_=>by kernel_rfl)) (aU 4 j (ex e j j (λS w e=>?_)));have e:C o i ([R n m.cs.toArray 44]++_) w:=e.front;refine ar ⟨⟨_,e⟩,?_⟩;rotate_left
   refine ex e j j (λS w e=>?_);have e:C o i ([R n m.cs.toArray 44]++_) w:=e.front;refine ar ⟨⟨_,e⟩,?_⟩;refine aU 2 j ?_;have z:=su (dE.own (e.to (ax 271 u y B)) ag) X (by omega);refine cN j j j z (λr w⟨O,aa,t⟩=>?_);obtain⟨J,I,rfl,aV,_⟩:=Row.form aa;have e:=e.aM t;have e:C o i ([R n m.cs.toArray 44]++_) w:=e.front;refine ar ⟨⟨_,e⟩,?_⟩;refine aT 3 j (λw _=>e1 (c:=(m.cs++[Value.slice J (fJ s).length I]).toArray) j (λ_=>by kernel_rfl)) ?_;rotate_left
   all_goals
    refine dy 5 j (c4 (e.bc S) j j j j j bJ (λw e=>?_));have e:=C.whole (U:=(m.cs++[Value.slice J (fJ s).length I])) e j;have e:C o i [R S (m.cs++[Value.slice J (fJ s).length I]).toArray 121,R n m.cs.toArray 44,cj g bg c,L,M,ax 232 x ah F,H1,ax 271 u y B,D,E,O] w:=e.as;refine ar (cX ?_);have e:C o i ([R S (m.cs++[Value.slice J (fJ s).length I]).toArray 121,cj g bg c]++_) _:=e.front;have e:=e.drew;refine bw 1 j (λw=>∃ae,C o i ([R S (m.cs++[Value.slice J (fJ s).length I]).toArray 121,cj g bg c]++ae) w) ⟨_,e⟩ (af 0 3 j (a8 3 j a1 j (aT 4 j (λw⟨_,e⟩=>c3 (U:=(m.cs++[Value.slice J (fJ s).length I])) j j j (bp (C.ak (b:=S) e))) (aU 5 j ?_))));obtain⟨_,_,bj,_,_,bx,_⟩:=Row.read aa (e.holds (G:=O) (by simp));cases bj;have z:=ud (m:=m) (l:=fJ s) (d:=I) a5 (ss aY) aV (by rw [sr];omega) (⟨aW.st e aP,bx,am.off.nil g,bX.of_nil _ _⟩:Ext g J ((fJ s).flatMap aF.cs) [] _);refine bF j j j z (λw t=>?_);have e:=e.aM t;have e:C o i ([R S (m.cs++[Value.slice J (fJ s).length I]).toArray 121,cj g bg c]++_) w:=e.front;refine ar ⟨⟨_,e⟩,?_⟩;refine bK (bm 0 j j (λaS=>?_) (λaS=>?_))
    .have e:C o i ([R n m.cs.toArray 44,cj g bg c]++_) _:=e.front;have e:=e.drew;refine bw 1 j (λw=>∃ae,C o i ([R n m.cs.toArray 44,cj g bg c]++ae) w) ⟨_,e⟩ (af 0 3 j (a8 3 j a1 (aH some aB) (aT 4 j (λw⟨_,e⟩=>c3 (U:=m.cs) j j j (bp (C.ak (b:=n) e))) (aU 5 j (bF j j j (qD (m:=m)) (λw t=>?_))))));have e:=e.aM t;have e:C o i ([R n m.cs.toArray 44,cj g bg c]++_) w:=e.front;refine ar ⟨⟨_,e⟩,?_⟩;refine aU 6 j ?_;have z:=uJ (k:=dS m) (e.ours (cI:=[ax 232 x ah F])) a4;refine bF j j j z (λw⟨aj,bs,t⟩=>?_);have e:=e.b3 t;have e:C o i ([R n m.cs.toArray 44,cj g bg c]++_) w:=e.front;refine ar ⟨⟨_,e⟩,?_⟩;refine bK (bN 2 (U:=(m.cs++[Value.slice J (fJ s).length I])) j j j (bp (C.ak (b:=S) e)) ?_);obtain⟨av,bf,bB,bu⟩:=c6.del (k:=dS m) (a0 s (ax 271 u y B++D) ⟨u,y,B,P,D,j,ag,X,j⟩);obtain⟨aO,az⟩:∃aO,aO=({b with aE:=fK (b9 b.aE (dS m) s) (dS m)}:cy):=⟨_,j⟩
     obtain⟨aA,bn,e⟩:∃aA,ju g bg aO aA/\C o i [aA,O] w:=by
      have e:C o i [cj g bg c,L,M,ax 232 x ah aj,O,H1,ax 271 u y B,D,E] w:=e.as
      have e:C o i [cj g bg c,L,M,ax 232 x ah aj,O,bf,av] w:=e.perm (by
       simp only [kj,m1,gY];refine .append_left _ (.append_left _ (.append_left _ (.append_left _ (.append_left _ ?_))));simpa using bu)
      have e:C o i [cj g bg c,L,M,ax 232 x ah aj++av,O] w:=C.perm (A:=[cj g bg c,L,M,ax 232 x ah aj,av,O]) e.as (by simp);rw [az];exact⟨_,⟨c,L,M,_,⟨an.log,an.acc,⟨x,ah,aj,_,av,aB,bs,bB,j⟩⟩,j⟩,e.k8⟩
     obtain⟨_,_,bk,_,_,bz,bq⟩:=Row.rd aa (e.to O);cases bk;have z:=wU (m:=m) (l:=fJ s) (d:=I) bn (by rw [az];exact bU) (by rw [az];exact bR) (aW.st e aP) a5 (e.eE aW aP) bz (C.qg bq) (ss aY) aV (by rw [sr];omega) e.ours;refine bh 0 z j (λr w⟨aD,ai,bl,t⟩=>?_);have e:=e.b3 t;refine ao 3 j j ?_
     have W:b.c8 g m v=((cy.accept g aO m (fJ s)).1,0):=by
      unfold cy.c8;refine(aI (by simpa using ay)).trans ((if_neg (by simpa using aL)).trans ((if_neg aQ).trans ?_));refine(aI (λh=>absurd h.2 (by have:=ba;have:=ap.len;omega))).trans ?_;rw [aX,ac,az];exact a6 aS
     rw [W];exact⟨j,ai,bl,e.as⟩
    refine ao 4 j j ?_
    have W:b.c8 g m v=({b with aE:=b9 b.aE (dS m) s},0):=by
     unfold cy.c8;refine(aI (by simpa using ay)).trans ((if_neg (by simpa using aL)).trans ((if_neg aQ).trans ?_));refine(aI (λh=>absurd h.2 (by have:=ba;have:=ap.len;omega))).trans ?_;rw [aX,ac];exact aI (by rw [aS];decide)
    rw [W];have e:C o i [cj g bg c,L,M,ax 232 x ah F,H1,ax 271 u y B,D,E] w:=e.as;exact⟨j,_,⟨c,L,M,ax 232 x ah F++(H1++((ax 271 u y B++D)++E)),⟨an.log,an.acc,⟨x,ah,F,aG,_,aB,a4,a0 s _ ⟨u,y,B,P,D,j,ag,X,j⟩,j⟩⟩,j⟩,C.perm (A:=[cj g bg c,L,M,ax 232 x ah F,H1,ax 271 u y B,D,E]) e (by simp)⟩
 obtain⟨F,aG,H1,u,y,Q,iI,T,E,K,a4,aC,Y,aX,a0,e,bC⟩:∃(F:Obj)(aG:List (Int×Value))(H1:List Chunk)(u y:Nat)(Q:Obj)(iI:List (Int×Value))(T E:List Chunk)(K:List (Int×aF)),cc bL F aG/\cc bL Q iI/\c6 jc iI K T/\(aZ b.aE (dS m)).getD []=K/\(∀b0 aK,pX (ab u) b0 aK->c6 pX aG (b9 b.aE (dS m) b0) (H1++(aK++E)))/\C o i [R n m.cs.toArray 44,R N v.cs.toArray 115,cj g bg c,L,M,ax 232 x ah F,H1,ax 271 u y Q,T,E] w/\(aZ bO (dS m)).getD Bg=ab u:=by
  obtain⟨dA,bT⟩:∃dA,aZ b.aE (dS m)=some dA:=by
   have a3:(aZ bO (dS m)).isSome=true:=by simpa using aN
   rw [ap.isSome] at a3;exact gX.1 a3
  obtain⟨v0,H1,cb,E,b4,rfl,b2,a0⟩:=ap.find bT;obtain⟨u,y,Q,iI,T,rfl,aC,Y,rfl⟩:=b2;refine⟨b1,bO,H1,u,y,Q,iI,T,E,dA,bd,aC,Y,by rw [bT];rfl,λb0 aK bA=>a0 b0 aK bA,?_,by rw [b4];rfl⟩;exact C.perm (A:=[R n m.cs.toArray 44,R N v.cs.toArray 115,cj g bg c,L,M,ax 232 x ah b1,H1++((ax 271 u y Q++T)++E)]) e.as (by simp)
 refine aq 4 j (bS 7 (ab u) j bC ?_);have a7:∀q∈iI,gE 68 q.2:=Y.wide (λv a G h=>by rw [h.1];exact⟨a.cs,j,a.len h.2.2,a.one⟩);obtain⟨ca,bE,bG,bI⟩:=gE.get wr a7 v.f
 have b5:K.length<=100:=by
  rw [<-aX];cases bv:aZ b.aE (dS m) with
  |none=>exact b6 _
  |some dA=>exact bW _ (hF bv)
 refine al 2 j (aw (C.ak (b:=N) e) (v.eS Z)) ?_;have z:=yy (k:=v.f) a7 (dE.own (e.to (ax 271 u y Q)) aC);refine bh 0 z j (λr w⟨aD,t⟩=>?_);rw [bE] at aD;subst aD;have e:=e.aM t;refine cl 3 e j (λbi w e=>c4 (e.bc bi) j j j bI bG (by decide) (λw e=>?_));have e:C o i [R n m.cs.toArray 44,R N v.cs.toArray 115,cj g bg c,L,M,ax 232 x ah F,H1,ax 271 u y Q,T,E] w:=e.as;refine bm 5 j j (λaR=>?_) (λaR=>?_);refine al 3 j (aw (C.ak (b:=N) e) (v.eS Z)) (bN 0 (U:=v.cs) j j (v.len Z) (bp (C.ak (b:=N) e)) ?_);have z:=Aw (k:=v.f) (v.len Z) v.one (e.ours (cI:=[ax 271 u y Q])) aC;refine bo 0 z j (λw⟨a9,bt,t⟩=>?_);have e:=e.b3 t
 obtain⟨B,P,D,s,ag,X,ac,e⟩:∃(B:Obj)(P:List (Int×Value))(D:List Chunk)(s:List (Int×aF)),cc bL B P/\c6 jc P s D/\ha K v=s/\C o i [R n m.cs.toArray 44,R N v.cs.toArray 115,cj g bg c,L,M,ax 232 x ah F,H1,ax 271 u y B,D,E] w:=by
  have aJ:aZ K v.f=none:=mu ((Y.isSome v.f).symm.trans (by simpa using aR));exact⟨a9,_,_,_,bt,Y.add aJ (show jc (.agg v.cs.toArray) v [] from⟨j,j,Z⟩),by unfold ha;rw [if_neg (by rw [aJ];decide)],C.perm (A:=[R n m.cs.toArray 44,R N v.cs.toArray 115,cj g bg c,L,M,ax 232 x ah F,H1,ax 271 u y a9,T,E]) e.as (by simp)⟩
 have br:s.length<=101:=by rw [<-ac];have:=rT K v;omega
 have aY:=jc.all X;have e:C o i ([R n m.cs.toArray 44]++_) _:=e.front;have e:=e.drew;refine bw 2 j (λw=>∃ae,C o i ([R n m.cs.toArray 44]++ae) w) ⟨_,e⟩ ?_;rotate_left
 obtain⟨B,P,D,s,ag,X,ac,e⟩:∃(B:Obj)(P:List (Int×Value))(D:List Chunk)(s:List (Int×aF)),cc bL B P/\c6 jc P s D/\ha K v=s/\C o i [R n m.cs.toArray 44,R N v.cs.toArray 115,cj g bg c,L,M,ax 232 x ah F,H1,ax 271 u y B,D,E] w:=by
  have bD:(aZ K v.f).isSome=true:=(Y.isSome v.f).symm.trans (by simpa using aR);exact⟨Q,iI,T,K,aC,Y,by unfold ha;rw [if_pos bD],e.as⟩
 have br:s.length<=101:=by rw [<-ac];have:=rT K v;omega
 have aY:=jc.all X;have e:C o i ([R n m.cs.toArray 44]++_) _:=e.front;have e:=e.drew;refine bw 3 j (λw=>∃ae,C o i ([R n m.cs.toArray 44]++ae) w) ⟨_,e⟩ ?_;rotate_left
 all_goals
  refine aT 0 j (λw⟨_,e⟩=>c3 (U:=m.cs) j j j (bp (C.ak (b:=n) e))) (af 1 1 j (aO 2 4 j j ?_ ?_));have z:=su (dE.own (e.to (ax 271 u y B)) ag) X (by omega);refine cN j j j z (λr w⟨O,aa,t⟩=>?_);obtain⟨J,I,rfl,aV,_⟩:=Row.form aa;have e:=e.aM t;have e:C o i ([R n m.cs.toArray 44]++_) w:=e.front;refine ar ⟨⟨_,e⟩,?_⟩;refine aT 3 j (λw _=>e1 (c:=(m.cs++[Value.slice J (fJ s).length I]).toArray) j (λ_=>by kernel_rfl)) (aU 4 j (ex e j j (λS w e=>?_)));have e:C o i ([R n m.cs.toArray 44]++_) w:=e.front;refine ar ⟨⟨_,e⟩,?_⟩;rotate_left
  refine ex e j j (λS w e=>?_);have e:C o i ([R n m.cs.toArray 44]++_) w:=e.front;refine ar ⟨⟨_,e⟩,?_⟩;refine aU 2 j ?_;have z:=su (dE.own (e.to (ax 271 u y B)) ag) X (by omega);refine cN j j j z (λr w⟨O,aa,t⟩=>?_);obtain⟨J,I,rfl,aV,_⟩:=Row.form aa;have e:=e.aM t;have e:C o i ([R n m.cs.toArray 44]++_) w:=e.front;refine ar ⟨⟨_,e⟩,?_⟩;refine aT 3 j (λw _=>e1 (c:=(m.cs++[Value.slice J (fJ s).length I]).toArray) j (λ_=>by kernel_rfl)) ?_;rotate_left
  all_goals
   refine dy 5 j (c4 (e.bc S) j j j j j bJ (λw e=>?_));have e:=C.whole (U:=(m.cs++[Value.slice J (fJ s).length I])) e j;have e:C o i [R S (m.cs++[Value.slice J (fJ s).length I]).toArray 121,R n m.cs.toArray 44,cj g bg c,L,M,ax 232 x ah F,H1,ax 271 u y B,D,E,O] w:=e.as;refine ar (cX ?_);have e:C o i ([R S (m.cs++[Value.slice J (fJ s).length I]).toArray 121,cj g bg c]++_) _:=e.front;have e:=e.drew;refine bw 1 j (λw=>∃ae,C o i ([R S (m.cs++[Value.slice J (fJ s).length I]).toArray 121,cj g bg c]++ae) w) ⟨_,e⟩ (af 0 3 j (a8 3 j a1 j (aT 4 j (λw⟨_,e⟩=>c3 (U:=(m.cs++[Value.slice J (fJ s).length I])) j j j (bp (C.ak (b:=S) e))) (aU 5 j ?_))));obtain⟨_,_,bj,_,_,bx,_⟩:=Row.read aa (e.holds (G:=O) (by simp));cases bj;have z:=ud (m:=m) (l:=fJ s) (d:=I) a5 (ss aY) aV (by rw [sr];omega) (⟨aW.st e aP,bx,am.off.nil g,bX.of_nil _ _⟩:Ext g J ((fJ s).flatMap aF.cs) [] _);refine bF j j j z (λw t=>?_);have e:=e.aM t;have e:C o i ([R S (m.cs++[Value.slice J (fJ s).length I]).toArray 121,cj g bg c]++_) w:=e.front;refine ar ⟨⟨_,e⟩,?_⟩;refine bK (bm 0 j j (λaS=>?_) (λaS=>?_))
   .have e:C o i ([R n m.cs.toArray 44,cj g bg c]++_) _:=e.front;have e:=e.drew;refine bw 1 j (λw=>∃ae,C o i ([R n m.cs.toArray 44,cj g bg c]++ae) w) ⟨_,e⟩ (af 0 3 j (a8 3 j a1 (aH some aB) (aT 4 j (λw⟨_,e⟩=>c3 (U:=m.cs) j j j (bp (C.ak (b:=n) e))) (aU 5 j (bF j j j (qD (m:=m)) (λw t=>?_))))));have e:=e.aM t;have e:C o i ([R n m.cs.toArray 44,cj g bg c]++_) w:=e.front;refine ar ⟨⟨_,e⟩,?_⟩;refine aU 6 j ?_;have z:=uJ (k:=dS m) (e.ours (cI:=[ax 232 x ah F])) a4;refine bF j j j z (λw⟨aj,bs,t⟩=>?_);have e:=e.b3 t;have e:C o i ([R n m.cs.toArray 44,cj g bg c]++_) w:=e.front;refine ar ⟨⟨_,e⟩,?_⟩;refine bK (bN 2 (U:=(m.cs++[Value.slice J (fJ s).length I])) j j j (bp (C.ak (b:=S) e)) ?_);obtain⟨av,bf,bB,bu⟩:=c6.del (k:=dS m) (a0 s (ax 271 u y B++D) ⟨u,y,B,P,D,j,ag,X,j⟩);obtain⟨aO,az⟩:∃aO,aO=({b with aE:=fK (b9 b.aE (dS m) s) (dS m)}:cy):=⟨_,j⟩
    obtain⟨aA,bn,e⟩:∃aA,ju g bg aO aA/\C o i [aA,O] w:=by
     have e:C o i [cj g bg c,L,M,ax 232 x ah aj,O,H1,ax 271 u y B,D,E] w:=e.as
     have e:C o i [cj g bg c,L,M,ax 232 x ah aj,O,bf,av] w:=e.perm (by
      simp only [kj,m1,gY];refine .append_left _ (.append_left _ (.append_left _ (.append_left _ (.append_left _ ?_))));simpa using bu)
     have e:C o i [cj g bg c,L,M,ax 232 x ah aj++av,O] w:=C.perm (A:=[cj g bg c,L,M,ax 232 x ah aj,av,O]) e.as (by simp);rw [az];exact⟨_,⟨c,L,M,_,⟨an.log,an.acc,⟨x,ah,aj,_,av,aB,bs,bB,j⟩⟩,j⟩,e.k8⟩
    obtain⟨_,_,bk,_,_,bz,bq⟩:=Row.rd aa (e.to O);cases bk;have z:=wU (m:=m) (l:=fJ s) (d:=I) bn (by rw [az];exact bU) (by rw [az];exact bR) (aW.st e aP) a5 (e.eE aW aP) bz (C.qg bq) (ss aY) aV (by rw [sr];omega) e.ours;refine bh 0 z j (λr w⟨aD,ai,bl,t⟩=>?_);have e:=e.b3 t;refine ao 3 j j ?_
    have W:b.c8 g m v=((cy.accept g aO m (fJ s)).1,0):=by
     unfold cy.c8;refine(aI (by simpa using ay)).trans ((if_neg (by simpa using aL)).trans ((if_neg aQ).trans ?_));refine(aI (λh=>by have a3:=(ap.isSome (dS m)).trans h.1;rw [a3] at aN;cases aN)).trans ?_;rw [aX,ac,az];exact a6 aS
    rw [W];exact⟨j,ai,bl,e.as⟩
   refine ao 4 j j ?_
   have W:b.c8 g m v=({b with aE:=b9 b.aE (dS m) s},0):=by
    unfold cy.c8;refine(aI (by simpa using ay)).trans ((if_neg (by simpa using aL)).trans ((if_neg aQ).trans ?_));refine(aI (λh=>by have a3:=(ap.isSome (dS m)).trans h.1;rw [a3] at aN;cases aN)).trans ?_;rw [aX,ac];exact aI (by rw [aS];decide)
   rw [W];have e:C o i [cj g bg c,L,M,ax 232 x ah F,H1,ax 271 u y B,D,E] w:=e.as;exact⟨j,_,⟨c,L,M,ax 232 x ah F++(H1++((ax 271 u y B++D)++E)),⟨an.log,an.acc,⟨x,ah,F,aG,_,aB,a4,a0 s _ ⟨u,y,B,P,D,j,ag,X,j⟩,j⟩⟩,j⟩,C.perm (A:=[cj g bg c,L,M,ax 232 x ah F,H1,ax 271 u y B,D,E]) e (by simp)⟩
structure hi where
 begun:Int
 next:Int
 out:Option eg
def hi.new:hi:=⟨0,0,none⟩
structure bG where
 number:Int
 name:List UInt8
 next:Int
 asked:Int
 known:Bool
 prod:Int
 b5:Int
 last:Int
 dg:Bool
 parts:List (Int×hi)
def mD:List (Int×hi):=[(0,hi.new),(1,hi.new),(2,hi.new),(3,hi.new)]
def bG.new(n:Int)(x:List UInt8):bG:=⟨n,x,0,-1,false,0,0,0,false,mD⟩
def bG.zero(n:Int)(x:List UInt8):bG:=⟨n,x,0,-1,false,0,0,0,false,[]⟩
def bG.c9(e:bG):bG:={e with last:=0,dg:=false,parts:=mD}
def bG.op(e:bG)(I:bA):bG×bA×Int:=
 if 1048576<e.next then(e,dd,7) else({e with next:=e.next+1},{I with c:=e.number,s:=e.next},0)
def bG.init(e:bG):bG×bA×Int:=
 if 0<=e.number/\e.number<=15/\ld e.name=true then
  (if 1048576<e.next then(e,dd,7) else({e with next:=e.next+1,asked:=e.next},⟨1,e.number,e.next,e.name,0,0,0,0,false⟩,0))
 else(e,dd,1)
def bG.told(e:bG)(s:Int)(r:Int×Int×Int):bG×Int:=
 if e.asked<0\/s≠e.asked then(e,6)
 else if r.1=0 then(bG.c9 {e with known:=true,prod:=r.2.1,b5:=r.2.2,asked:= -1},0) else(e,0)
def mT(v:Value)(r:Option eg)(G:List Chunk):Prop:=match r with
 |none=>v= .pointer none/\G=[]
 |some r=>∃b u ai,v=ab b/\dt u r.x ai/\G=R b #[ad r.p,ad r.e,ad r.t,ad r.s,u] 169++ai
abbrev vY(q:hi)(u:Value):List Value:=[ad q.begun,ad q.next,u]
abbrev dV(b:Nat)(q:hi)(u:Value):List Chunk:=R b (vY q u).toArray 167
def nP(v:Value)(q:hi)(G:List Chunk):Prop:=∃b u ai,v=ab b/\mT u q.out ai/\G=dV b q u++ai
abbrev uM(e:bG)(u:Value):List Value:=[ad e.number,.string (strOf e.name),ad e.next,ad e.asked,.bool e.known,ad e.prod,ad e.b5,ad e.last,.bool e.dg,u]
abbrev bC(az:Nat)(e:bG)(u:Value):List Chunk:=R az (uM e u).toArray 157
def h1(az:Nat)(e:bG)(G:List Chunk):Prop:=∃u bQ,fs 239 nP u e.parts bQ/\G=bC az e u++bQ
theorem zR{i:Nat}(h:i<4):aZ (mD.take i) (i:Int)=none/\b9 (mD.take i) (i:Int) hi.new=mD.take (i+1):=by
 rcases(show i=0\/i=1\/i=2\/i=3 by omega) with rfl|rfl|rfl|rfl<;>exact⟨j,j⟩
theorem xp{o:World}{az:Nat}{e:bG}{u:Value}(a:Own [bC az e u] o):Calls prog 64 #[ab az] o λr w=>r= .tuple #[]/\∃t bQ,fs 239 nP t mD bQ/\C o (au [bC az e u]) [bC az e.c9 t,bQ] w:=by
 obtain⟨f,q⟩:∃f,f=au [bC az e u]:=⟨_,j⟩;rw [<-q];have a:C o f [bC az e u] o:=q▸a;refine a2 func64 (bh 5 F7 j (λr w⟨d,g,F,D,m⟩=>?_));subst F;have a:=a.aM m;refine dB 2 (a.bc az) j j j j (λw a=>?_);have a:C o f (bC az {e with last:=0} u::_) w:=a;refine dB 2 (a.bc az) j j j j (λw a=>?_);have a:C o f (bC az {e with last:=0,dg:=false} u::_) w:=a;refine dB 2 (a.bc az) j j j j (λw a=>?_);have a:C o f (bC az e.c9 (ab d)::_) w:=a;have a:C o f [bC az e.c9 (ab d),ax 239 d g (.map #[] 0),[]] w:=(C.empty a).as
 refine cH 4 j (ct:=Nat×Obj×List (Int×Value)×List Chunk) (λk=>[(0,ab az),(13,.int .i64 (k.1:Nat))])
  (λk w=>k.1<=4/\cc bL k.2.1 k.2.2.1/\c6 nP k.2.2.1 (mD.take k.1) k.2.2.2/\C o f [bC az e.c9 (ab d),ax 239 d g k.2.1,k.2.2.2] w) (λk=>4-k.1) (0,.map #[] 0,[],[]) ⟨j,j,aY⟩ ⟨b6 _,D,j,a⟩ ?_
 rintro⟨i,I,G,H⟩ w ⟨z,hm,n,a⟩;dsimp only at z hm n a⊢;refine cm 4 j j (λx=>?_) (λx=>?_)
 .refine al 11 j (aw (C.ak (b:=az) a) j) (aq 1 j (cP (c:=(vY hi.new (.pointer none)).toArray) j j j (λ_=>by kernel_rfl) ?_));refine bM 0 a j j (λh w a=>?_);have a:C o f (dV h hi.new (.pointer none)::_) w:=a;have y:=HH (k:=(i:Int)) (v:=ab h) (a.ours (cI:=[ax 239 d g I])) hm;refine bo 0 y j (λw⟨p,E,m⟩=>?_);have a:=a.b3 m;have l:i<4:=by omega
  have s:=n.add (zR l).1 (show nP (ab h) hi.new (dV h hi.new (.pointer none)) from⟨h,.pointer none,[],j,⟨j,j⟩,j⟩);rw [(zR l).2] at s;have a:C o f [bC az e.c9 (ab d),ax 239 d g p,H++dV h hi.new (.pointer none)] w:=C.perm (A:=[bC az e.c9 (ab d),ax 239 d g p,H,dV h hi.new (.pointer none)]) a.as (by simp);exact bq 1 j j j (cM i (by omega)) (bP 1 j ⟨(i+1,p,_,_),⟨j,j,aY⟩,⟨l,E,s,a⟩,by dsimp only;omega⟩)
 refine ao 1 j j ?_;have B:i=4:=by omega
 subst B;exact⟨j,(ab d),ax 239 d g I++H,⟨d,g,I,G,H,j,hm,n,j⟩,C.perm (A:=[bC az e.c9 (ab d),ax 239 d g I,H]) a (by simp)⟩
theorem vE{o:World}{n:Int}{x:List UInt8}:Calls prog 34 #[ad n,.string (strOf x)] o λr w=>∃az G,r=ab az/\h1 az (bG.new n x) G/\C o [] [G] w:=by
 have a:Own [] o:=C.start o;refine a2 func34 (aq 7 j (cP (c:=(uM (bG.zero n x) (.pointer none)).toArray) j j j (λ_=>by kernel_rfl) ?_));refine bM 0 a j j (λb w a=>?_);have a:C o [] (bC b (bG.zero n x) (.pointer none)::_) w:=a;have g:=xp (az:=b) (u:=.pointer none) (e:=bG.zero n x) a.ours;refine bo 4 g j (λw⟨d,bQ,f,h⟩=>?_);have a:=a.b3 h;refine ao 4 j j ?_;have a:C o [] [bC b (bG.new n x) d,bQ] w:=a;exact⟨b,_,j,⟨d,bQ,f,j⟩,C.perm (A:=[bC b (bG.new n x) d,bQ]) a (by simp)⟩
theorem qJ{o:World}{az:Nat}{e:bG}{u:Value}{I:bA}(aJ:0<=e.next)(a:Own [bC az e u] o):Calls prog 68 #[ab az,.agg I.cs.toArray] o λr w=>r= .tuple #[.agg (e.op I).2.1.cs.toArray,ad (e.op I).2.2]/\C o (au [bC az e u]) [bC az (e.op I).1 u] w:=by
 obtain⟨d,i⟩:∃d,d=au [bC az e u]:=⟨_,j⟩;rw [<-i];have a:C o d [bC az e u] o:=i▸a;refine e9 func68 (bM 2 a j j (λf w a=>?_));have a:C o d (bD f I::_) w:=a;refine cl 0 a j (λg w a=>?_);have a:C o d [bD g dd,bD f I,bC az e u] w:=a;refine al 7 j (aw (C.ak (b:=az) a) j) (cm 1 j j (λk=>?_) (λk=>?_))
 .refine aq 2 j (cP (c:=dd.cs.toArray) j j j (λ_=>by kernel_rfl) ?_);refine ck 0 (a.bc g) j j j j j (λw a=>?_);have a:=C.whole (U:=(dd:bA).cs) a j;have a:C o d (bD g dd::_) w:=a;refine bI 1 j ⟨_,dp results68 j j j j a.bE,?_⟩;have h:e.op I=(e,dd,7):=a6 (by omega);rw [h];exact⟨j,a.as⟩
 have a:C o d ([bC az e u]++_) _:=a.front;have a:=a.drew;refine bw 2 j (λw=>∃ae,C o d ([bC az e u]++ae) w) ⟨_,a⟩ (af 0 3 j (a8 3 j a1 j (af 4 3 j (a8 7 j a1 j (af 8 1 j (aU 9 j (cC (a.bc f) j j j j bJ (λw a=>?_))))))));have a:C o d (bD f {I with c:=e.number}::_) w:=a;have a:C o d ([bC az e u]++_) w:=a.front;refine ar ⟨⟨_,a⟩,?_⟩;refine af 10 1 j (dy 11 j (cC (a.bc f) j j j j bJ (λw a=>?_)));have a:C o d (bD f {I with c:=e.number,s:=e.next}::_) w:=a;refine ar (cX (al 5 j (aw (C.ak (b:=az) a) j) (bq 0 j j j (qs (by omega) (by omega)) (dB 2 (a.bc az) j j j j (λw a=>?_)))));have a:C o d (bC az {e with next:=e.next+1} u::_) w:=a;refine bN 2 (U:=({I with c:=e.number,s:=e.next}:bA).cs) j j j (bp (C.ak (b:=f) a)) (ck 0 (a.bc g) j j j j j (λw a=>?_));have a:=C.whole (U:=({I with c:=e.number,s:=e.next}:bA).cs) a j;have a:C o d (bD g {I with c:=e.number,s:=e.next}::_) w:=a;refine bI 1 j ⟨_,dp results68 j j j j a.bE,?_⟩;have h:e.op I=({e with next:=e.next+1},{I with c:=e.number,s:=e.next},0):=aI (by omega);rw [h];exact⟨j,a.as⟩
theorem EU{o:World}{az:Nat}{e:bG}{u:Value}(aJ:0<=e.next)(H:e.name.length<=1000)(a:Own [bC az e u] o):Calls prog 65 #[ab az] o λr w=>r= .tuple #[.agg e.init.2.1.cs.toArray,ad e.init.2.2]/\C o (au [bC az e u]) [bC az e.init.1 u] w:=by
 obtain⟨f,F⟩:∃f,f=au [bC az e u]:=⟨_,j⟩;rw [<-F];have a:C o f [bC az e u] o:=F▸a;refine e9 func65 (cl 2 a j (λaO w a=>?_));have a:C o f [bD aO dd,bC az e u] w:=a;refine aq 7 j (bS 8 (.bool false) j (aH Value.bool (j)) ?_);refine al 3 j (aw (C.ak (b:=az) a) j) (aq 3 j (cQ 15 j (λq=>?_) (λq=>?_)))
 .refine aq 32 j (cP (c:=dd.cs.toArray) j j j (λ_=>by kernel_rfl) ?_);refine ck 0 (a.bc aO) j j j j j (λw a=>?_);have a:=C.whole (U:=(dd:bA).cs) a j;have a:C o f (bD aO dd::_) w:=a;refine bI 1 j ⟨_,dp results65 j j j j a.bE,?_⟩;have i:e.init=(e,dd,1):=aI (λl=>by have:=dj q;omega);rw [i];exact⟨j,a.as⟩
 refine al 3 j (aw (C.ak (b:=az) a) j) (aq 3 j (cQ 22 j (λt=>?_) (λt=>?_)))
 .refine aq 25 j (cP (c:=dd.cs.toArray) j j j (λ_=>by kernel_rfl) ?_);refine ck 0 (a.bc aO) j j j j j (λw a=>?_);have a:=C.whole (U:=(dd:bA).cs) a j;have a:C o f (bD aO dd::_) w:=a;refine bI 1 j ⟨_,dp results65 j j j j a.bE,?_⟩;have i:e.init=(e,dd,1):=aI (λl=>by have:=dj t;omega);rw [i];exact⟨j,a.as⟩
 refine al 3 j (aw (C.ak (b:=az) a) j) (oA j j j j (aq 2 j (cQ 29 j (λv=>?_) (λv=>?_))))
 .refine aq 18 j (cP (c:=dd.cs.toArray) j j j (λ_=>by kernel_rfl) ?_);refine ck 0 (a.bc aO) j j j j j (λw a=>?_);have a:=C.whole (U:=(dd:bA).cs) a j;have a:C o f (bD aO dd::_) w:=a;refine bI 1 j ⟨_,dp results65 j j j j a.bE,?_⟩;have i:e.init=(e,dd,1):=aI (λl=>by have g:=v;rw [show(⟨#[]⟩:ByteArray)=strOf [] from j,nG] at g;rw [dj g] at l;exact absurd l.2.2 (by decide));rw [i];exact⟨j,a.as⟩
 refine al 3 j (aw (C.ak (b:=az) a) j) (mQ j j j j (aq 3 j (cQ 37 j (λx=>?_) (λx=>?_))))
 .refine aq 10 j (cP (c:=dd.cs.toArray) j j j (λ_=>by kernel_rfl) ?_);refine ck 0 (a.bc aO) j j j j j (λw a=>?_);have a:=C.whole (U:=(dd:bA).cs) a j;have a:C o f (bD aO dd::_) w:=a;refine bI 1 j ⟨_,dp results65 j j j j a.bE,?_⟩;have i:e.init=(e,dd,1):=aI (λl=>by have g:=dj x;have z:=l.2.2;simp only [ld,d8,gd] at z;omega);rw [i];exact⟨j,a.as⟩
 refine al 3 j (aw (C.ak (b:=az) a) j) ?_;have D:e.name≠[]:=λh=>by rw [h] at v;exact absurd v (by decide)
 refine bo 0 (AW D (by omega)) j (λw B=>?_);have a:=a.aM B;refine wM j j j j (nG (tf e.name) []) (bm 1 j j (λy=>?_) (λy=>?_))
 .refine aq 2 j (cP (c:=dd.cs.toArray) j j j (λ_=>by kernel_rfl) ?_);refine ck 0 (a.bc aO) j j j j j (λw a=>?_);have a:=C.whole (U:=(dd:bA).cs) a j;have a:C o f (bD aO dd::_) w:=a;refine bI 1 j ⟨_,dp results65 j j j j a.bE,?_⟩;have i:e.init=(e,dd,1):=aI (λl=>by have g:=y;rw [tg] at g;have z:=l.2.2;simp only [ld,d8] at z;rw [z.1] at g;cases g);rw [i];exact⟨j,a.as⟩
 refine al 7 j (aw (C.ak (b:=az) a) j) (cP (c:=(⟨1,0,0,e.name,0,0,0,0,false⟩:bA).cs.toArray) j j j (λ_=>by kernel_rfl) ?_);have G:=qJ (az:=az) (e:=e) (u:=u) (I:=(⟨1,0,0,e.name,0,0,0,0,false⟩:bA)) aJ a.ours;obtain⟨p,d,m,k⟩:∃p d m,e.op (⟨1,0,0,e.name,0,0,0,0,false⟩:bA)=(p,d,m):=⟨_,_,_,j⟩;rw [k] at G;refine bo 0 G j (λw B=>?_);have a:=a.b3 B;refine cl 3 a j (λn w a=>ck 0 (a.bc n) j j j j j (λw a=>?_));have a:=C.whole (U:=d.cs) a j;have a:C o f (bD n d::_) w:=a;refine bm 6 j j (λA=>?_) (λA=>?_)
 .refine al 3 j (aw (C.ak (b:=n) a) j) (dB 2 (a.bc az) j j j j (λw a=>?_));have a:C o f (bC az {p with asked:=d.s} u::_) w:=a;refine bN 2 (U:=d.cs) j j j (bp (C.ak (b:=n) a)) (ck 1 (a.bc aO) j j j j j (λw a=>?_));have a:=C.whole (U:=d.cs) a j;have a:C o f (bD aO d::_) w:=a;refine bI 1 j ⟨_,dp results65 j j j j a.bE,?_⟩;have E:m=0:=dY.1 A
  have i:e.init=({p with asked:=d.s},d,m):=by
   unfold bG.init;rw [a6 (⟨by have:=dN q;omega,by have:=dN t;omega,by unfold ld;have g:=y;rw [tg] at g;rw [show e.name.all gp=true by simpa using g,Bool.true_and];exact decide_eq_true ⟨List.length_pos_iff.2 D,by have:=of_decide_eq_false x;omega⟩⟩:0<=e.number/\e.number<=15/\ld e.name=true)];unfold bG.op at k;split
   .rename_i h;rw [a6 h] at k;cases k;cases E
   .rename_i h;rw [aI h] at k;cases k;rfl
  rw [i];exact⟨j,a.as⟩
 refine bN 3 (U:=d.cs) j j j (bp (C.ak (b:=n) a)) (ck 1 (a.bc aO) j j j j j (λw a=>?_));have a:=C.whole (U:=d.cs) a j;have a:C o f (bD aO d::_) w:=a;refine bI 1 j ⟨_,dp results65 j j j j a.bE,?_⟩;have E:m≠0:=by simpa using A
 have i:e.init=(p,d,m):=by
  unfold bG.init;rw [a6 (⟨by have:=dN q;omega,by have:=dN t;omega,by unfold ld;have g:=y;rw [tg] at g;rw [show e.name.all gp=true by simpa using g,Bool.true_and];exact decide_eq_true ⟨List.length_pos_iff.2 D,by have:=of_decide_eq_false x;omega⟩⟩:0<=e.number/\e.number<=15/\ld e.name=true)];unfold bG.op at k;split
  .rename_i h;rw [a6 h] at k;cases k;rfl
  .rename_i h;rw [aI h] at k;cases k;exact absurd j E
 rw [i];exact⟨j,a.as⟩
theorem IA{o:World}{az:Nat}{e:bG}{G:List Chunk}{s:Int}{a:Int×Int×Int}(v:h1 az e G)(c:Own [G] o):Calls prog 53 #[ab az,ad s,kx a] o λr w=>r=ad (e.told s a).2/\∃ai,h1 az (e.told s a).1 ai/\C o (au [G]) [ai] w:=by
 obtain⟨u,bQ,q,rfl⟩:=v;obtain⟨d,p⟩:∃d,d=au [bC az e u++bQ]:=⟨_,j⟩;rw [<-p];have c:C o d [bC az e u++bQ] o:=p▸c;have c:C o d [bC az e u,bQ] o:=c.perm (by simp);refine a2 func53 (bM 2 c j j (λf w c=>?_));have c:C o d [R f #[ad a.1,ad a.2.1,ad a.2.2] 123,bC az e u,bQ] w:=c;refine al 14 j (aw (C.ak (b:=az) c) j) (aq 2 j (cQ 16 j (λk=>?_) (λk=>?_)))
 .refine ao 12 j j ?_
  have g:e.told s a=(e,6):=by
   unfold bG.told;exact a6 (.inl (dj k))
  rw [g];have c:C o d [bC az e u,bQ] w:=c.as;exact⟨j,_,⟨u,bQ,q,j⟩,C.perm (A:=[bC az e u,bQ]) c (by simp)⟩
 refine al 4 j (aw (C.ak (b:=az) c) j) (bm 3 j j (λi=>?_) (λi=>?_));refine ao 3 j j ?_
 have g:e.told s a=(e,6):=by
  unfold bG.told;exact a6 (.inr (by simpa using i))
 rotate_left
 refine al 3 j (aw (C.ak (b:=f) c) j) (bm 2 j j (λm=>?_) (λm=>?_))
 .have c:=c.drew;refine bw 1 j (λw=>∃ae,C o d ([R f #[ad a.1,ad a.2.1,ad a.2.2] 123]++ae) w) ⟨_,c⟩ (af 0 5 j (a8 5 j a1 j (af 6 1 j (a8 7 j a1 j (af 8 2 j (aU 10 j (cC (c.bc az) j j j j bJ (λw c=>?_))))))));have c:C o d (bC az {e with known:=true} u::_) w:=c;have c:C o d ([R f #[ad a.1,ad a.2.1,ad a.2.2] 123]++_) w:=c.front;refine ar ⟨⟨_,c⟩,?_⟩;refine af 11 2 j (aU 13 j (cC (c.bc az) j j j j bJ (λw c=>?_)));have c:C o d (bC az {e with known:=true,prod:=a.2.1} u::_) w:=c;have c:C o d ([R f #[ad a.1,ad a.2.1,ad a.2.2] 123]++_) w:=c.front;refine ar ⟨⟨_,c⟩,?_⟩;refine af 14 2 j (aU 16 j (cC (c.bc az) j j j j bJ (λw c=>?_)));have c:C o d (bC az {e with known:=true,prod:=a.2.1,b5:=a.2.2} u::_) w:=c;have c:C o d ([R f #[ad a.1,ad a.2.1,ad a.2.2] 123]++_) w:=c.front;refine ar ⟨⟨_,c⟩,?_⟩;refine af 17 2 j (dy 19 j (cC (c.bc az) j j j j bJ (λw c=>?_)));have c:C o d (bC az {e with known:=true,prod:=a.2.1,b5:=a.2.2,asked:= -1} u::_) w:=c;refine ar (cX ?_);have x:=xp (az:=az) (e:={e with known:=true,prod:=a.2.1,b5:=a.2.2,asked:= -1}) (u:=u) c.ours;refine bo 2 x j (λw⟨n,l,t,y⟩=>?_);have c:=c.b3 y;refine ao 3 j j ?_
  have g:e.told s a=(bG.c9 {e with known:=true,prod:=a.2.1,b5:=a.2.2,asked:= -1},0):=by
   unfold bG.told;exact(aI (by rintro(h|h);exact absurd h (dN k);exact h (by simpa using i))).trans (if_pos (by simpa using m))
  rw [g];have c:C o d [bC az (bG.c9 {e with known:=true,prod:=a.2.1,b5:=a.2.2,asked:= -1}) n,l] w:=c.as;exact⟨j,_,⟨n,l,t,j⟩,C.perm (A:=[bC az (bG.c9 {e with known:=true,prod:=a.2.1,b5:=a.2.2,asked:= -1}) n,l]) c (by simp)⟩
 refine ao 4 j j ?_
 have g:e.told s a=(e,0):=by
  unfold bG.told;exact(aI (by rintro(h|h);exact absurd h (dN k);exact h (by simpa using i))).trans (if_neg (by simpa using m))
 rotate_left
 all_goals
  rw [g];have c:C o d [bC az e u,bQ] w:=c.as;exact⟨j,_,⟨u,bQ,q,j⟩,C.perm (A:=[bC az e u,bQ]) c (by simp)⟩
section
variable {α:Type}
def ed(V:Value->α->List Chunk->Prop):List Value->List α->List Chunk->Prop
 |[],[],G=>G=[]
 |v::U,x::xs,G=>∃ai aA,G=ai++aA/\V v x ai/\ed V U xs aA
 |[],_::_,_=>False
 |_::_,[],_=>False
variable {V:Value->α->List Chunk->Prop}
theorem ed.len:∀{U:List Value}{xs:List α}{G:List Chunk},ed V U xs G->U.length=xs.length
 |[],[],_,_=>rfl
 |[],_::_,_,h=>h.elim
 |_::_,[],_,h=>h.elim
 |_::U,_::xs,_,⟨_,_,_,_,h⟩=>by simp [h.len]
theorem ed.app:∀{U c:List Value}{xs d:List α}{G a:List Chunk},ed V U xs G->ed V c d a->ed V (U++c) (xs++d) (G++a)
 |[],_,[],_,_,_,h,b=>by have h:_=[]:=h;subst h;exact b
 |[],_,_::_,_,_,_,h,_=>h.elim
 |_::_,_,[],_,_,_,h,_=>h.elim
 |_::_,_,_::_,_,_,a,⟨ai,aA,rfl,e,h⟩,b=>⟨ai,aA++a,by simp [dF],e,h.app b⟩
theorem ed.one{v:Value}{x:α}{G:List Chunk}(h:V v x G):ed V [v] [x] G:=⟨G,[],by simp,h,j⟩
theorem ed.at:∀{U:List Value}{xs:List α}{G:List Chunk},ed V U xs G->∀(i:Nat)(b:i<xs.length),∃v ai e aA,U[i]? =some v/\G=ai++(e++aA)/\V v xs[i] e/\∀dP a,V v dP a->ed V U (xs.set i dP) (ai++(a++aA))
 |[],[],_,_,i,b=>by simp at b
 |[],_::_,_,h,_,_=>h.elim
 |_::_,[],_,h,_,_=>h.elim
 |v::U,x::xs,_,⟨ai,aA,rfl,c,h⟩,0,_=>⟨v,[],ai,aA,j,j,c,λdP a d=>⟨a,aA,j,d,h⟩⟩
 |v::U,x::xs,_,⟨ai,aA,rfl,c,h⟩,i+1,b=>by
  obtain⟨u,H1,g,f,k,l,m,n⟩:=h.at i (by simpa using b);refine⟨u,ai++H1,g,f,by simpa using k,by rw [l,List.append_assoc],by simpa using m,λdP a d=>?_⟩;exact⟨ai,H1++(a++f),by rw [dF],c,n dP a d⟩
def pW(e:TypeId)(V:Value->α->List Chunk->Prop)(v:Value)(xs:List α)(G:List Chunk):Prop:=∃ag H U,G=ag++H/\Row e 1 v xs.length U ag/\ed V U xs H
end
structure aS where
 bu:List (Option bk)
 parts:List cy
 cJ:List (bG×Int)
 bz:List aW
 lost:Nat
 heard:List aW
def aS.g6(z:aS)(l:List aW):aS:=
 {z with bz:=z.bz++l.take (512-z.bz.length),lost:=z.lost+(l.length-(512-z.bz.length)),heard:=z.heard++l.take (min (min l.length (512-z.bz.length)) (1000-z.heard.length))}
def aS.fQ(g:am)(I:bA)(z:aS)(i:Nat):aS:=match z.bu[i]? with
 |some (some x)=>aS.g6 {z with bu:=z.bu.set i (some (x.ask g I).1)} (x.ask g I).2.1
 |_=>z
def aS.asks(g:am)(z:aS)(I:bA)(e:Int):aS×Int:=if e≠0 then(z,e) else((List.range z.bu.length).foldl (aS.fQ g I) z,0)
def h5(g:am)(v:Value)(I:Option bk)(G:List Chunk):Prop:=match I with
 |none=>v= .pointer none/\G=[]
 |some x=>∃a,v=ab a/\g8 g a x G
def jv(g:am)(v:Value)(b:cy)(G:List Chunk):Prop:=∃bg,v=ab bg/\ju g bg b G
abbrev de(aN az:Nat)(i:Int):List Chunk:=R aN #[ab az,ad i] 90
def l0(v:Value)(e:bG×Int)(G:List Chunk):Prop:=∃aN az GE,v=ab aN/\h1 az e.1 GE/\G=de aN az e.2++GE
structure cd where
 bu:Value
 parts:Value
 cJ:Value
 bz:Value
 heard:Value
abbrev lY(g:am)(c:cd):List Value:=[g.p,c.bu,c.parts,c.cJ,c.bz,c.heard]
abbrev bj(g:am)(aQ:Nat)(c:cd):List Chunk:=R aQ (lY g c).toArray 61
structure wT(g:am)(z:aS)(c:cd)(cG bQ dx a7 bx:List Chunk):Prop where
 bu:pW 40 (h5 g) c.bu z.bu cG
 parts:pW 35 (jv g) c.parts z.parts bQ
 cJ:pW 86 l0 c.cJ z.cJ dx
 bz:g7 c.bz z.bz z.lost a7
 heard:cz c.heard z.heard bx
def eR(g:am)(aQ:Nat)(z:aS)(G:List Chunk):Prop:=∃(c:cd)(cG bQ dx a7 bx:List Chunk),wT g z c cG bQ dx a7 bx/\G=bj g aQ c++(cG++(bQ++(dx++(a7++bx))))
theorem C.zI{g:am}{aQ:Nat}{c:cd}{cG bQ dx a7 bx:List Chunk}{ae:List (List Chunk)}{o w:World}{F:List Nat}(h:C o F ((bj g aQ c++(cG++(bQ++(dx++(a7++bx)))))::ae) w):C o F (bj g aQ c::cG::bQ::dx::a7::bx::ae) w:=h.perm (by simp)
theorem C.so{g:am}{aQ:Nat}{c:cd}{cG bQ dx a7 bx:List Chunk}{ae:List (List Chunk)}{o w:World}{F:List Nat}(h:C o F (bj g aQ c::cG::bQ::dx::a7::bx::ae) w):C o F ((bj g aQ c++(cG++(bQ++(dx++(a7++bx)))))::ae) w:=h.perm (by simp)
def nq:Value->Bool
 | .pointer none=>true
 |_=>false
def fe:Nat->List Value->List (Int×Value)
 |_,[]=>[]
 |k,v::r=>if nq v=true then fe (k+1) r else((k:Int),v)::fe (k+1) r
theorem ve:∀(a b:List Value)(k:Nat),fe k (a++b)=fe k a++fe (k+a.length) b
 |[],_,_=>by simp [fe]
 |v::a,b,k=>by
  rw [List.cons_append,fe,fe,ve a b (k+1),List.length_cons,show k+1+a.length=k+(a.length+1) by omega];split<;>simp
theorem yH{U:List Value}{i:Nat}(a:i<U.length):fe 0 (U.take (i+1))=fe 0 (U.take i)++(if nq U[i]=true then [] else [((i:Int),U[i])]):=by
 rw [fu a,ve];rw [hl,mX (Nat.le_of_lt a),fg]
 congr 1
theorem EK{U:List Value}{i:Nat}(a:i<U.length)(aJ:nq U[i]=false):∃r,fe 0 U=fe 0 (U.take i)++((i:Int),U[i])::r:=by
 refine⟨fe (i+1) (U.drop (i+1)),?_⟩;have e:U=U.take i++(U[i]::U.drop (i+1)):=by rw [<-km a,m5]
 have b:fe 0 U=fe 0 (U.take i++(U[i]::U.drop (i+1))):=aH (fe 0) e;rw [b,ve,hl,mX (Nat.le_of_lt a),fg,fe,aI (by rw [aJ];decide)]
abbrev EJ(U:List Value)(pre:List (Int×Value))(q:Int×Value):Prop:=∃r,fe 0 U=pre++q::r
theorem ed.qQ{g:am}:∀{U:List Value}{xs:List (Option bk)}{G:List Chunk},ed (h5 g) U xs G->∀v∈U,∃p,v= .pointer p
 |[],_,_,_=>by intro v a;cases a
 |u::us,[],_,h=>h.elim
 |u::us,x::xs,_,⟨_,_,_,hu,h⟩=>by
  intro v a;rcases g0.1 a with rfl|a
  .cases x with
   |none=>exact⟨none,hu.1⟩
   |some y=>obtain⟨c,b,_⟩:=hu;exact⟨_,b⟩
  .exact h.qQ v a
theorem yF{o:World}{aQ:Nat}:Calls prog 50 #[ab aQ] o λr w=>∃ay,r= .func (.func 110) #[] #[ab ay]/\C o [] [R ay #[ab aQ] 24] w:=by
 have a:Own [] o:=C.start o;refine a2 func50 (bM 2 a j j (λay w a=>aq 3 j (gV j j j j ?_)));exact ao 1 j j ⟨ay,j,a⟩
theorem yE{ay aQ h cap:Nat}{g:am}{c:cd}{cur:Array Value}{U:List Value}(G:c.bu= .slice (some ⟨h,0,none⟩) U.length cap)(L:Row 40 1 (.slice (some ⟨h,0,none⟩) U.length cap) U.length U (R h cur 40))(M:∀v∈U,∃p,v= .pointer p)(W:U.length<=1000):Iter prog 110 #[ab ay] [R ay #[ab aQ] 24] (λ_ w=>w.heap[aQ]? =some (.cells (lY g c).toArray 61 (0,0))) (λae=>(h,.cells cur 40 (0,0))∈ae.flatten) (λq:Int×Value=> #[bL q.1,q.2]) (EJ U) (λxs=>xs=fe 0 U):=by
 intro l P X ae o a f B E T V N;show Calls _ _ #[fN l,ab ay] o _;obtain⟨m,x⟩:∃m,m=au ([R ay #[ab aQ] 24]++ae):=⟨_,j⟩;have a:C o m (R ay #[ab aQ] 24::ae) o:=x▸a;rw [<-x];have D:=B;refine a2 func110 (al 2 j (a.cell j) (al 2 j (aw D (aH some G)) ?_))
 refine cH 3 j (ct:=Nat×List (List Chunk)) (λi=>[(0,fN l),(8,.slice (some ⟨h,0,none⟩) U.length cap),(9,.int .i64 (U.length:Nat)),(10,.int .i64 (i.1:Nat))])
  (λi w=>i.1<=U.length/\P (fe 0 (U.take i.1)) i.2 w/\C o m (R ay #[ab aQ] 24::i.2) w) (λi=>U.length-i.1) (0,ae) ⟨j,j,j,j,aY⟩ ⟨b6 _,by simpa [fe] using f,a⟩ ?_
 rintro⟨i,ai⟩ w ⟨I,f,a⟩;dsimp only at I f a⊢;refine cm 4 j j (λA=>?_) (λA=>?_)
 .have d:i<U.length:=by omega
  have F:w.heap[h]? =some (.cells cur 40 (0,0)):=a.here (h,.cells cur 40 (0,0)) (by rw [kj];exact dw.2 (.inr (E _ _ _ f)));obtain⟨_,_,e,_,_,K,_⟩:=Row.read L (show Holds w (R h cur 40) from λc u=>by rw [fT.1 u];exact F);cases e;obtain⟨p,k⟩:=M _ (et d);refine aq 6 j (fz j j j j K (v:=.pointer p) (by rw [gZ,cf d,k]) d (λQ S u=>?_));refine al 0 j u (aq 7 j (cQ 17 j (λr=>?_) (λr=>?_)))
  .have n:nq U[i]=false:=by rw [k];cases p with|none=>cases r|some _=>rfl
   have z:=N (fe 0 (U.take i)) ((i:Int),U[i]) ai _ (EK d n) f (C.jo (H:=[R ay #[ab aQ] 24]) a);rw [k] at z;refine aq 3 j (jS j j j j z (λb w⟨aA,O,y⟩=>?_));have a:=C.jh (H:=[R ay #[ab aQ] 24]) a O;refine bm 2 j j (λs=>?_) (λs=>?_)
   .refine ao 0 j j ?_;have t:b=false:=by cases b<;>first|rfl|exact absurd s (by decide)
    subst t;exact⟨aA,a,.inr (by simpa using y)⟩
   refine bq 2 j j j (cM i (by omega)) (bP 1 j ?_);have t:b=true:=by cases b<;>first|rfl|exact absurd s (by decide)
   subst t;refine⟨(i+1,aA),⟨j,j,j,j,aY⟩,⟨d,?_,a⟩,by dsimp only;omega⟩;dsimp only;rw [yH d,aI (by rw [n];decide),k];simpa using y
  refine bq 9 j j j (cM i (by omega)) (bP 1 j ?_);have n:nq U[i]=true:=by rw [k];cases p with|none=>rfl|some _=>cases r
  refine⟨(i+1,ai),⟨j,j,j,j,aY⟩,⟨d,?_,a⟩,by dsimp only;omega⟩;dsimp only;rw [yH d,a6 n,gY];exact f
 refine ao 1 j j ?_;have J:i=U.length:=by omega
 subst J;rw [gu] at f;exact⟨ai,a,.inl ⟨_,j,f⟩⟩
theorem sU{o:World}{g:am}{aQ:Nat}{c:cd}{aD:Value}{bz aL B:List aW}{lost:Nat}{a7 bx F:List Chunk}(aE:g7 c.bz bz lost a7)(aG:cz c.heard aL bx)(aj:cz aD B F)(aV:lost<=1000000000)(ax:B.length<=1000000)(a3:aL.length<=1000)(d:Own [bj g aQ c,a7,bx,F] o):Calls prog 44 #[ab aQ,aD] o λr w=>r= .tuple #[]/\∃s l ag,g7 c.bz (bz++B.take (512-bz.length)) (lost+(B.length-(512-bz.length))) l/\cz s (aL++B.take (min (min B.length (512-bz.length)) (1000-aL.length))) ag/\C o (au [bj g aQ c,a7,bx,F]) [bj g aQ {c with heard:=s},l,ag] w:=by
 obtain⟨f,ai⟩:∃f,f=au [bj g aQ c,a7,bx,F]:=⟨_,j⟩;rw [<-ai];have d:C o f [bj g aQ c,a7,bx,F] o:=ai▸d;have aF:=aj;obtain⟨ms,rfl,p,n,rfl,ap,V⟩:=aj;obtain⟨A,dI,rfl,a5,a6⟩:=ap.form;rw [fB] at ax;simp only [fB];have hlen:∀q∈ms,q.cs.length=39:=λq ac=>q.bW (V.tag q ac)
 obtain⟨t,X⟩:∃t,t=(min (min ms.length (512-bz.length)) (1000-aL.length)):=⟨_,j⟩;have a4:t<=ms.length:=by rw [X];omega
 refine a2 func44 ?_;refine al 5 j (aw (C.ak (b:=aQ) d) j) ?_;have W:=CX aE aF (d.ours (cI:=[a7,p++n])) aV (by rw [fB];exact ax);refine bh 1 W j (λr w⟨L,l,ah,aS⟩=>?_);simp only [fB] at L ah;subst L;have d:=d.b3 aS;have d:C o f [bj g aQ c,l,bx,p++n] w:=d.as;obtain⟨N,I,H,x,S,J,T⟩:=aG;have av:aL.length=N.length:=by rw [<-I,fB]
 obtain⟨hZ,a0,aO,_,_⟩:=J.form;refine al 8 j (aw (C.ak (b:=aQ) d) (aH some aO)) ?_;refine bq 1 j j j (sd (by omega) (by omega)) ?_;refine ru j j j ?_;refine bS 21 (.int .i64 (t:Nat)) j (aH (Value.int .i64) (by rw [X];omega)) ?_;refine rv j j j j (show t<=dI by omega) ?_;have aI:cz c.heard aL bx:=⟨N,I,H,x,S,J,T⟩
 refine cH 3 j (ct:=Nat×Value×List Chunk) (λk=>[(0,ab aQ),(22,.slice A t dI),(23,.int .i64 (t:Nat)),(24,.int .i64 (k.1:Nat))])
  (λk w=>k.1<=t/\cz k.2.1 (aL++(ms.map aB.P).take k.1) k.2.2/\C o f [bj g aQ {c with heard:=k.2.1},l,k.2.2,p++n] w) (λk=>t-k.1) (0,c.heard,bx) ⟨j,j,j,j,aY⟩ ⟨b6 _,by simpa using aI,d⟩ ?_
 rintro⟨i,s,bx⟩ w ⟨aP,M,d⟩;dsimp only at aP M d⊢;refine bm 4 j j (λy=>?_) (λy=>?_)
 .have z:i<ms.length:=by have:=dj y;omega
  have K:=hlen ms[i] (et z);obtain⟨_,_,e,_,_,aC,_⟩:=ap.read (C.holds d (G:=p++n) (by simp)).left;cases e;obtain⟨aZ,rfl⟩:∃a,A=some a:=by obtain⟨a,aN,_⟩:=aC (i*39+0) (ad ms[i].k) (h7 ms hlen i z (by decide) (by simp [aB.cs]));exact⟨a,aN⟩
  obtain⟨Z,Y⟩:=V.read (C.holds d (G:=p++n) (by simp)).right ms[i] (et z);refine aq 5 j (pQ j j j j (by omega) (by have:=dj y;omega) ?_);refine bN 0 (U:=ms[i].cs) j j K (iY aC hlen i z) ?_;refine cl 0 d j (λv w d=>?_);refine c4 (d.bc v) j j j (by simpa using ms[i].one) (by rw [List.size_toArray];exact K) (by decide) (λw d=>?_);have d:=C.whole (U:=ms[i].cs) d (by rw [K];rfl);have d:C o f [bi v ms[i],bj g aQ {c with heard:=s},l,bx,p++n] w:=d.as;have d:=d.drew;refine bw 0 j (λw=>∃ae,C o f ([bi v ms[i],bj g aQ {c with heard:=s}]++ae) w) ⟨_,d⟩ ?_;refine af 0 4 j ?_;refine a8 4 j a1 j ?_;refine aT 5 j (λw⟨_,d⟩=>c3 (U:=ms[i].cs) j j K (bp (C.ak (b:=v) d))) ?_;refine aU 6 j ?_;obtain⟨Z,Y⟩:=V.read (C.holds d (G:=p++n) (by simp)).right ms[i] (et z);have W:=DL Z Y;refine cN j j j W (λr w⟨q,D,E,L,ac,ay,aa⟩=>?_);subst L;have az:=fF.sF ac ay Z Y;have aA:q.tag.length=32:=by obtain⟨_,_,_,_,h,_⟩:=az;exact h
  have d:=d.aM aa;have d:C o f ([bi v ms[i],bj g aQ {c with heard:=s}]++_) w:=d.front;refine ar ⟨⟨_,d⟩,?_⟩;refine aU 7 j ?_;refine gC (U:=q.cs) d j j j (q.bW aA) (by decide) (by decide) (λQ w d=>?_);have aJ:=bp (C.ak (b:=Q) d);have d:C o f ([bi v ms[i],bj g aQ {c with heard:=s}]++_) w:=d.front;refine ar ⟨⟨_,d⟩,?_⟩;refine aU 8 j ?_;obtain⟨N,I,H,x,S,J,T⟩:=M;have av:=aH List.length I;rw [fB,b4,List.length_take,List.length_map] at av
  have d:C o f [bi v ms[i],bj g aQ {c with heard:=s},l,H,x,p++n,D,E,R Q q.cs.toArray 103] w:=by
   rw [S] at d;exact C.perm (A:=[bi v ms[i],bj g aQ {c with heard:=s},l,H++x,p++n,D,E,R Q q.cs.toArray 103]) d.as (by simp)
  refine d9 (d.to H) J j j (by decide) j j j (m:=1) (news:=q.cs) (q.bW aA) aJ (by intro u hu;exact u4 [q] u (by simpa using hu)) (by omega) (by unfold maxLen;omega) (λv2 O w aK d=>?_)
  have an:cz v2 (aL++(ms.map aB.P).take (i+1)) (O++(x++(D++E))):=by
   refine⟨N++[q],?_,l1.snoc aK T az⟩;rw [jU,I,List.append_assoc,List.take_add_one];simp [z,ay]
  have d:C o f ([bi v ms[i],bj g aQ {c with heard:=s}]++_) w:=d.front;refine ar ⟨⟨_,d⟩,?_⟩;refine af 9 2 j ?_;refine dy 11 j ?_;obtain⟨_,_,aX,_⟩:=an.len;refine cC (d.bc aQ) j j j (by rw [aX];rfl) bJ (λw d=>?_);have d:C o f (bj g aQ {c with heard:=v2}::_) w:=d;have d:C o f [bj g aQ {c with heard:=v2},l,O++(x++(D++E)),p++n] w:=C.perm (A:=[bj g aQ {c with heard:=v2},l,O,x,D,E,p++n]) d.as (by simp);refine ar ?_;refine cX ?_;refine bq 1 j j j (cM i (by omega)) ?_;refine bP 1 j ?_;exact⟨(i+1,v2,_),⟨j,j,j,j,aY⟩,⟨by have:=dj y;dsimp only;omega,an,d⟩,by have:=dj y;dsimp only;omega⟩
 refine ao 1 j j ?_;have aR:i=t:=by have:=dN y;omega
 rw [aR,X] at M;exact⟨j,s,l,bx,ah,M,d.as⟩
theorem v6{o:World}{g:am}{aQ:Nat}{c:cd}{α:Type}{V:Value->α->List Chunk->Prop}{xs:List α}{ag:List Chunk}{U:List Value}{i:Int}(e:o.heap[aQ]? =some (.cells (lY g c).toArray 61 (0,0)))(s:Row 40 1 c.bu xs.length U ag)(k:Holds o ag)(E:U.length=xs.length)(t:∀v∈U,∃p,v= .pointer p):Calls prog 10 #[ab aQ,ad i] o λr w=>r=(if 0<=i/\i<(xs.length:Int) then U.getD i.toNat (.pointer none) else .pointer none)/\w=o:=by
 obtain⟨u,y,f,C,D,q,_⟩:=Row.read s k;refine a2 func10 (aq 9 j (bS 7 (.bool false) j (aH Value.bool (j)) ?_));refine aq 4 j (cQ 11 j (λa=>?_) (λa=>?_))
 .refine ao 12 j j (⟨?_,j⟩);rw [aI (by have:=dj a;omega)]
 refine al 4 j (aw e (aH some f)) (cm 3 j j (λd=>?_) (λd=>?_))
 .refine ao 3 j j (⟨?_,j⟩);rw [aI (by omega)]
 refine al 6 j (aw e (aH some f)) ?_;have m:0<=i/\i<(xs.length:Int):=by have z:=dN a;have A:=d;omega
 obtain⟨n,rfl⟩:∃n:Nat,i=n:=⟨i.toNat,by omega⟩;have b:n<U.length:=by omega
 obtain⟨p,h⟩:=t _ (et b);refine aq 1 j (fz j j j j q (v:=.pointer p) (by rw [gZ,cf b,h]) (by omega) (λx B l=>?_));refine al 0 j l (ao 1 j j (⟨?_,j⟩));rw [a6 m];simp [List.getD,b,h]
theorem zP{o:World}{g:am}{aQ:Nat}{c:cd}{α:Type}{V:Value->α->List Chunk->Prop}{xs:List α}{ag:List Chunk}{U:List Value}{i:Int}(e:o.heap[aQ]? =some (.cells (lY g c).toArray 61 (0,0)))(s:Row 35 1 c.parts xs.length U ag)(k:Holds o ag)(E:U.length=xs.length)(t:∀v∈U,∃p,v= .pointer p):Calls prog 7 #[ab aQ,ad i] o λr w=>r=(if 0<=i/\i<(xs.length:Int) then U.getD i.toNat (.pointer none) else .pointer none)/\w=o:=by
 obtain⟨u,y,f,C,D,q,_⟩:=Row.read s k;refine a2 func7 (aq 9 j (bS 7 (.bool false) j (aH Value.bool (j)) ?_));refine aq 4 j (cQ 11 j (λa=>?_) (λa=>?_))
 .refine ao 12 j j (⟨?_,j⟩);rw [aI (by have:=dj a;omega)]
 refine al 4 j (aw e (aH some f)) (cm 3 j j (λd=>?_) (λd=>?_))
 .refine ao 3 j j (⟨?_,j⟩);rw [aI (by omega)]
 refine al 6 j (aw e (aH some f)) ?_;have m:0<=i/\i<(xs.length:Int):=by have z:=dN a;have A:=d;omega
 obtain⟨n,rfl⟩:∃n:Nat,i=n:=⟨i.toNat,by omega⟩;have b:n<U.length:=by omega
 obtain⟨p,h⟩:=t _ (et b);refine aq 1 j (fz j j j j q (v:=.pointer p) (by rw [gZ,cf b,h]) (by omega) (λx B l=>?_));refine al 0 j l (ao 1 j j (⟨?_,j⟩));rw [a6 m];simp [List.getD,b,h]
abbrev rcc(r:eg)(u:Value):List Value:=[ad r.p,ad r.e,ad r.t,ad r.s,u]
def eg.j1(r:eg):Bool:=j3 r.p r.e&&(k7 r.t&&(decide (r.s>=0)&&(decide (r.s<=1048576)&&decide ((r.x.length:Int)<=200))))
def mF(r x:eg):Bool:=(x.p==r.p)&&((x.e==r.e)&&(x.s==r.s))
def ny(p e:Int)(x:eg):Bool:=(x.p==p)&&(x.e==e)
def pm(r:eg)(s:dH):Bool:=(s.p==r.p)&&((s.e==r.e)&&((s.t==r.t)==(s.k !=0)))
def dM.next(l:dM)(r:eg):Int:=match l.cZ.reverse.find? (ny r.p r.e) with
 |none=>0
 |some x=>IntKind.i64.wrap (x.s+1)
def dM.fits(l:dM)(r:eg):Int:=if r.s≠l.next r then 8 else if l.ch.any (pm r)=true then 6 else if 128<=l.cZ.length then 3 else 0
def dM.append(l:dM)(r:eg):dM×Int×Int:=
 if r.j1=false then(l,0,1)
 else match aZ l.eD r.p with
  |none=>(l,0,4)
  |some a=>if r.e<a then(l,0,5) else if r.e>a then(l,0,6)
   else match l.cZ.findIdx? (mF r) with
    |some i=>if h:i<l.cZ.length then(if l.cZ[i].t≠r.t\/l.cZ[i].x≠r.x then(l,0,1) else(l,(i:Int),0)) else(l,0,0)
    |none=>if l.fits r≠0 then(l,0,l.fits r)
     else({l with ch:=if(l.span r.p r.e r.t).isSome=true then l.ch else l.ch++[⟨r.p,r.e,r.t,(l.cZ.length:Int),0⟩],cZ:=l.cZ++[r]},(l.cZ.length:Int),0)
theorem kf.len:∀{us:List Value}{rs:List eg}{G:List Chunk},kf us rs G->us.length=rs.length
 |[],[],_,_=>rfl
 |[],_::_,_,h=>h.elim
 |_::_,[],_,h=>h.elim
 |_::us,_::rs,_,⟨_,_,_,_,h⟩=>by simp [h.len]
theorem kf.app:∀{us d:List Value}{rs c:List eg}{G a:List Chunk},kf us rs G->kf d c a->kf (us++d) (rs++c) (G++a)
 |[],_,[],_,_,_,h,b=>by have h:_=[]:=h;subst h;exact b
 |[],_,_::_,_,_,_,h,_=>h.elim
 |_::_,_,[],_,_,_,h,_=>h.elim
 |_::_,_,_::_,_,_,a,⟨ai,aA,rfl,e,h⟩,b=>⟨ai,aA++a,by simp [dF],e,h.app b⟩
theorem kf.one{u:Value}{r:eg}{G:List Chunk}(h:dt u r.x G):kf [u] [r] G:=⟨G,[],by simp,h,j⟩
theorem kf.form:∀{us:List Value}{rs:List eg}{G:List Chunk},kf us rs G->∀(i:Nat)(a:i<rs.length),∃B c,us[i]? =some (.slice B rs[i].x.length c)/\rs[i].x.length<=c/\c<=maxLen/\∀w,Holds w G->Rd w B (aG rs[i].x)
 |[],[],_,_,i,a=>by simp at a
 |[],_::_,_,h,_,_=>h.elim
 |_::_,[],_,h,_,_=>h.elim
 |u::us,r::rs,_,⟨ai,aA,rfl,hu,_⟩,0,_=>by
  obtain⟨B,c,rfl,b,d⟩:=Row.form hu;refine⟨B,c,j,b,d,λw g=>?_⟩;obtain⟨_,_,e,_,_,f,_⟩:=Row.read hu g.left;cases e;exact f
 |u::us,r::rs,_,⟨ai,aA,rfl,_,h⟩,i+1,a=>by
  obtain⟨B,c,b,d,f,k⟩:=h.form i (by simpa using a);exact⟨B,c,by simpa using b,by simpa using d,f,λw g=>by simpa using k w g.right⟩
abbrev e3:Value×eg->List Value:=λe=>[ad e.2.p,ad e.2.e,ad e.2.t,ad e.2.s,e.1]
theorem Hb(us:List Value)(rs:List eg):sV us rs=(us.zip rs).flatMap e3:=rfl
theorem Bi{us:List Value}{rs:List eg}(b:us.length=rs.length){i:Nat}(a:i<rs.length):(us.zip rs)[i]'(by rw [oR];omega)=(us[i]'(by omega),rs[i]):=List.getElem_zip
theorem Eo{q:eg->Bool}{l:List eg}{i:Nat}(d:i<l.length)(f:q l[i]=true)(h:∀J(a:J<l.length),i<J->q l[J]=false):l.reverse.find? q=some l[i]:=by
 have e:l=l.take i++(l[i]::l.drop (i+1)):=by rw [<-km d,m5]
 have b:l.reverse=(l.drop (i+1)).reverse++(l[i]::(l.take i).reverse):=by
  have:=aH List.reverse e;rw [this];simp
 rw [b,List.find?_append]
 have c:(l.drop (i+1)).reverse.find? q=none:=by
  rw [List.find?_eq_none];intro x g;obtain⟨J,a,rfl⟩:=tZ.1 (List.mem_reverse.1 g);rw [iT] at a;rw [List.getElem_drop,h _ (by omega) (by omega)];decide
 rw [c];simp [f]
theorem Ep{q:eg->Bool}{l:List eg}(h:∀J(a:J<l.length),q l[J]=false):l.reverse.find? q=none:=by
 rw [List.find?_eq_none];intro x b;obtain⟨J,a,rfl⟩:=tZ.1 (List.mem_reverse.1 b);rw [h J a];decide
theorem mU.form{v:Value}{l:List eg}{G:List Chunk}(t:mU v l G):∃(A:Option Addr)(c:Nat),v= .slice A l.length c/\l.length<=c/\c<=maxLen/\
 ∀n(aJ:n<l.length),∃b I B aV,A=some ⟨b,I,none⟩/\l[n].x.length<=aV/\aV<=maxLen/\∀w,Holds w G->Rd w B (aG l[n].x)/\∀J z,J<5->(rcc l[n] (.slice B l[n].x.length aV))[J]? =some z->w.cell? ⟨b,I+n*5+J,none⟩=some z:=by
 obtain⟨ag,H,us,rfl,d,i⟩:=t;obtain⟨A,c,rfl,F,K⟩:=Row.form d;have D:=i.len;have L:∀e∈us.zip l,(e3 e).length=5:=λ_ _=>rfl
 have N:(us.zip l).length=l.length:=by rw [oR];omega
 refine⟨A,c,j,F,K,λn aJ=>?_⟩;obtain⟨m,cap,cur,s,M,_⟩:=Row.block d (by omega);cases s;obtain⟨B,aV,g,o,p,q⟩:=i.form n aJ
 have r:us[n]'(by omega)= .slice B l[n].x.length aV:=by
  rw [cf (by omega)] at g;exact hz g
 refine⟨m,0,B,aV,j,o,p,λw h=>⟨q w h.right,λJ z y E=>?_⟩⟩;obtain⟨_,_,e,_,_,C,_⟩:=Row.read d h.left;cases e;obtain⟨a,u,k⟩:=C _ _ (h7 (f:=e3) (us.zip l) L n (by omega) y (by rw [Bi D aJ,r];exact E));cases u;rw [add_lit,<-rN] at k;exact k
theorem uX{a b:Int}(h: -9223372036854775808<=a-b)(c:a-b<9223372036854775808):evalBin .sub .i64 a b=some (.int .i64 (a-b)):=by
 have e:IntKind.i64.wrap (a-b)=a-b:=by rw [jX];omega
 show some (Value.int .i64 (IntKind.i64.wrap (a-b)))=_;rw [e]
theorem Er{r:eg}(h:r.j1=true):r.x.length<=200:=by
 unfold eg.j1 at h;simp only [d8] at h;have:=dj h.2.2.2.2;omega
theorem Cv{α:Type}{p:α->Bool}{l:List α}{i:Nat}(h:l.findIdx? p=some i):l.any p=true:=by
 obtain⟨a,b,_⟩:=p7.1 h;exact kl.2 ⟨_,et a,b⟩
theorem Cw{α:Type}{p:α->Bool}{l:List α}(h:l.findIdx? p=none):l.any p=false:=by
 rw [List.findIdx?_eq_none_iff] at h;rw [List.any_eq_false];exact λx a=>by rw [h x a];decide
theorem E0{o:World}{r:eg}{B:Option Addr}{aV:Nat}:Calls prog 182 #[.agg (rcc r (.slice B r.x.length aV)).toArray] o λz w=>z= .bool r.j1/\C o [] [] w:=by
 have a:Own [] o:=C.start o;refine a2 func182 (bM 2 a j j (λay w a=>?_));have a:C o [] (R ay (rcc r (.slice B r.x.length aV)).toArray 169::_) w:=a;refine al 4 j (aw (C.ak a) j) (al 1 j (aw (C.ak a) j) (bo 0 (vi (p:=r.p) (e:=r.e)) j (λw hw=>?_)));have hw:=hw.symm;subst hw;refine aq 1 j (cQ 8 j (λeC=>?_) (λeC=>?_))
 .refine al 1 j (aw (C.ak a) j) (bo 0 (yQ (t:=r.t)) j (λw hw=>?_));have hw:=hw.symm;subst hw;refine aq 2 j (cQ 13 j (λb=>?_) (λb=>?_))
  .refine al 1 j (aw (C.ak a) j) (aq 3 j (cQ 18 j (λc=>?_) (λc=>?_)))
   .refine al 1 j (aw (C.ak a) j) (aq 3 j (cQ 23 j (λd=>?_) (λd=>?_)));refine al 1 j (aw (C.ak a) j) (ao 4 j j ?_);rotate_left
    refine ao 6 j j ?_;rotate_left
    all_goals
     refine⟨aH Value.bool ?_,a.bare⟩;unfold eg.j1;rw [eC];rw [b];rw [c];rw [d];rfl
   refine ao 11 j j (⟨aH Value.bool ?_,a.bare⟩);unfold eg.j1;rw [eC];rw [b];rw [c];rfl
  refine ao 16 j j (⟨aH Value.bool ?_,a.bare⟩);unfold eg.j1;rw [eC];rw [b];rfl
 refine ao 21 j j (⟨aH Value.bool ?_,a.bare⟩);unfold eg.j1;rw [eC];rfl
theorem Ch{o:World}{e:Nat}{r x:eg}{u:Value}{B:Option Addr}{aV:Nat}(d:o.heap[e]? =some (.cells (rcc r (.slice B r.x.length aV)).toArray 169 (0,0))):Calls prog 224 (#[]++ #[.agg (rcc x u).toArray]++ #[ab e]) o λz w=>z= .bool (mF r x)/\C o [] [] w:=by
 have a:Own [] o:=C.start o;refine a2 func224 (bM 2 a j j (λaO w a=>al 4 j (aw (C.ak a) j) (al 1 j (aw (a.cg d) j) (aq 2 j (cQ 9 j (λb=>?_) (λb=>?_))))))
 .refine al 1 j (aw (C.ak a) j) (al 1 j (aw (a.cg d) j) (aq 3 j (cQ 16 j (λc=>?_) (λc=>?_))))
  .refine al 1 j (aw (C.ak a) j) (al 1 j (aw (a.cg d) j) (ao 3 j j (⟨aH Value.bool ?_,a.bare⟩)));unfold mF;rw [b,c];rfl
  refine ao 7 j j (⟨aH Value.bool ?_,a.bare⟩);unfold mF;rw [b,c];rfl
 refine ao 14 j j (⟨aH Value.bool ?_,a.bare⟩);unfold mF;rw [b];rfl
theorem GK{o:World}{e:Nat}{r:eg}{s:dH}{B:Option Addr}{aV:Nat}(d:o.heap[e]? =some (.cells (rcc r (.slice B r.x.length aV)).toArray 169 (0,0))):Calls prog 226 (#[]++ #[.agg s.cs.toArray]++ #[ab e]) o λz w=>z= .bool (pm r s)/\C o [] [] w:=by
 have a:Own [] o:=C.start o;refine a2 func226 (bM 2 a j j (λaO w a=>al 4 j (aw (C.ak a) j) (al 1 j (aw (a.cg d) j) (aq 2 j (cQ 9 j (λb=>?_) (λb=>?_))))))
 .refine al 1 j (aw (C.ak a) j) (al 1 j (aw (a.cg d) j) (aq 3 j (cQ 16 j (λc=>?_) (λc=>?_))))
  .refine al 1 j (aw (C.ak a) j) (al 1 j (aw (a.cg d) j) (al 2 j (aw (C.ak a) j) (ao 4 j j (⟨aH Value.bool ?_,a.bare⟩))));unfold pm;rw [b,c];rfl
  refine ao 11 j j (⟨aH Value.bool ?_,a.bare⟩);unfold pm;rw [b,c];rfl
 refine ao 18 j j (⟨aH Value.bool ?_,a.bare⟩);unfold pm;rw [b];rfl
theorem ET{o:World}{eA:FuncId}[Entry prog eA]{bf:Array Value}{q:eg->Bool}{T:World->Prop}(L:∀(g:World)(x:eg)(u:Value),T g->Calls prog eA (#[]++ #[.agg (rcc x u).toArray]++bf) g (λr w=>r= .bool (q x)/\C g [] [] w))(I:∀w,C o [] [] w->T w){v:Value}{l:List eg}{G:List Chunk}(K:mU v l G)(D:Holds o G):Calls prog 223 #[v,.func (.func eA) #[] bf] o λr w=>((∃i:Nat,r= .int .i64 (i:Nat)/\l.findIdx? q=some i)\/(r= .int .i64 (-1)/\l.findIdx? q=none))/\C o [] [] w:=by
 have a:Own [] o:=C.start o;obtain⟨ag,H,us,rfl,F,E⟩:=K;obtain⟨y,A,rfl,W,P,N,_⟩:=Row.read F D.left;have O:=E.len;have k:∀e∈us.zip l,(e3 e).length=5:=λ_ _=>rfl
 have X:(us.zip l).length=l.length:=by rw [oR];omega
 refine a2 func223 ?_
 refine cH 10 j (ct:=Nat) (λi=>[(0,.slice y l.length A),(1,.func (.func eA) #[] bf),(7,.int .i64 (l.length:Nat)),(8,.int .i64 (i:Nat))])
  (λi w=>i<=l.length/\(∀J(n:J<l.length),J<i->q l[J]=false)/\C o [] [] w) (λi=>l.length-i) 0 ⟨j,j,j,j,aY⟩ ⟨b6 _,λJ _ h=>by omega,a⟩ ?_
 rintro i w ⟨V,d,a⟩;refine cm 4 j j (λz=>?_) (λz=>?_)
 .have b:i<l.length:=by omega
  have t:=a.rd N (bX.of_nil _ _);have m:=Bi O b;refine aq 12 j (fz j j j j t (v:=ad l[i].p) (h7 (f:=e3) (J:=0) (us.zip l) k i (by omega) (by decide) (by rw [m];rfl)) b (λR B S=>?_));subst B;have s:=iY (f:=e3) t k i (by omega);rw [m] at s;refine bN 0 (U:=rcc l[i] us[i]) j j j s (hL j j j j (L _ l[i] us[i] (I _ a)) (λr w⟨Q,aa⟩=>?_));subst Q;have a:=(a.aM aa).bare;refine bm 0 j j (λc=>?_) (λc=>?_)
  .exact ao 4 j j ⟨.inl ⟨i,j,yk d b c⟩,a⟩
  refine bq 2 j j j (cM i (by unfold maxLen at P;omega)) (bP 1 j (⟨i+1,⟨j,j,j,j,aY⟩,⟨b,λJ n M=>?_,a⟩,by omega⟩));rcases Nat.lt_succ_iff_lt_or_eq.1 M with h|rfl
  .exact d J n h
  exact c
 exact ao 4 j j ⟨.inr ⟨j,yj d (by omega)⟩,a⟩
theorem wX{o:World}{bf:Nat}{c:iO}{r:eg}{B:Option Addr}{aV:Nat}{G:List Chunk}{l:List eg}(m:o.heap[bf]? =some (.cells (lcs c).toArray 133 (0,0)))(k:mU c.cZ l G)(g:Holds o G):Calls prog 183 #[ab bf,.agg (rcc r (.slice B r.x.length aV)).toArray] o λz w=>((∃i:Nat,z= .int .i64 (i:Nat)/\l.findIdx? (mF r)=some i)\/(z= .int .i64 (-1)/\l.findIdx? (mF r)=none))/\C o [] [] w:=by
 have a:Own [] o:=C.start o;refine a2 func183 (bM 2 a j j (λd w a=>?_));have a:C o [] [R d (rcc r (.slice B r.x.length aV)).toArray 169] w:=a;refine al 6 j (aw (a.cg m) j) (gV j j j j ?_);have n:=ET (eA:=224) (bf:= #[ab d]) (q:=mF r) (T:=λe=>e.heap[d]? =some (.cells (rcc r (.slice B r.x.length aV)).toArray 169 (0,0))) (λe x u h=>Ch h) (λe f=>f.cg (C.ak (b:=d) a)) k (g.st a);refine bh 0 n j (λz w⟨s,p⟩=>?_);have a:=a.aM p;exact ao 1 j j ⟨s,a.bare⟩
theorem DJ{o:World}{eA:FuncId}[Entry prog eA]{bf:Array Value}{q:dH->Bool}{T:World->Prop}(m:∀(e:World)(s:dH),T e->Calls prog eA (#[]++ #[.agg s.cs.toArray]++bf) e (λr w=>r= .bool (q s)/\C e [] [] w))(h:∀w,C o [] [] w->T w){v:Value}{l:List dH}{G:List Chunk}(g:gD v l G)(f:Holds o G):Calls prog 227 #[v,.func (.func eA) #[] bf] o λr w=>r= .bool (l.any q)/\C o [] [] w:=by
 have c:Own [] o:=C.start o;obtain⟨u,x,rfl,A,B,y,_⟩:=Row.read g f;refine a2 func227 ?_;have k:=yK m h g f;refine bh 7 k j (λz w⟨t,p⟩=>?_);have c:=c.aM p
 obtain⟨d,rfl,n⟩:∃d:Int,z= .int .i64 d/\l.any q=decide (d>=0):=by
  rcases t with⟨i,a,b⟩|⟨a,b⟩
  .exact⟨_,a,(Cv b).trans (jC (by omega)).symm⟩
  .exact⟨_,a,(Cw b).trans (by decide)⟩
 exact ao 2 j j ⟨aH Value.bool n.symm,c.bare⟩
theorem yV{o:World}{bf:Nat}{c:iO}{p e:Int}{G:List Chunk}{l:List eg}(k:o.heap[bf]? =some (.cells (lcs c).toArray 133 (0,0)))(x:mU c.cZ l G)(u:Holds o G):Calls prog 225 #[ab bf,ad p,ad e] o λz w=>((∃i:Nat,z= .int .i64 (i:Nat)/\∃B:i<l.length,l.reverse.find? (ny p e)=some l[i])\/(z= .int .i64 (-1)/\l.reverse.find? (ny p e)=none))/\w=o:=by
 obtain⟨D,F,q,L,C,y⟩:=x.form;have K:l.length<=9223372036854775807:=by unfold maxLen at C;omega
 refine a2 func225 (al 9 j (aw k (aH some q)) (bq 1 j j j (v:=.int .i64 ((l.length:Int)-1)) (uX (by omega) (by omega)) ?_))
 refine cH 2 j (ct:=Nat) (λn=>[(0,ab bf),(1,ad p),(2,ad e),(7,.int .i64 ((n:Int)-1))])
  (λn w=>n<=l.length/\(∀J(a:J<l.length),n<=J->ny p e l[J]=false)/\w=o) (λn=>n) l.length ⟨j,j,j,j,aY⟩ ⟨cD _,λJ a h=>by omega,j⟩ ?_
 rintro n w ⟨B,f,hw⟩;have hw:=hw.symm;subst hw;refine cm 5 j j (λt=>?_) (λt=>?_)
 .refine al 8 j (aw k (aH some q)) ?_;obtain⟨m,rfl⟩:∃m,n=m+1:=⟨n-1,by omega⟩;have b:m<l.length:=by omega
  obtain⟨H,go,E,dI,rfl,_,_,A⟩:=y m b;have s:=(A _ u).2;refine aq 1 j (bS 22 (.int .i64 (m:Nat)) j (aH (Value.int .i64) (by omega)) ?_);refine hM j j j j b (al 1 j (s 0 _ (by decide) j) (aq 3 j (cQ 28 j (λd=>?_) (λd=>?_))))
  .refine al 3 j (aw k (aH some q)) (aq 1 j (bS 33 (.int .i64 (m:Nat)) j (aH (Value.int .i64) (by omega)) ?_));refine hM j j j j b (al 1 j (s 1 _ (by decide) j) (bm 3 j j (λg=>?_) (λg=>?_)))
   .refine aq 2 j (bS 7 (.int .i64 (m:Nat)) j (aH (Value.int .i64) (by omega)) ?_);exact ao 2 j j ⟨.inl ⟨m,j,b,Eo b (by unfold ny;rw [d,g];rfl) (λJ a I=>f J a (by omega))⟩,j⟩
   refine bq 3 j j j (v:=.int .i64 ((m:Int)-1)) (by rw [uX (by omega) (by omega)];exact aH (λz=>some (Value.int .i64 z)) (by omega)) (bP 1 j (⟨m,⟨j,j,j,j,aY⟩,⟨by omega,λJ a r=>?_,j⟩,Nat.lt_succ_self m⟩));rcases Nat.eq_or_lt_of_le r with h|h
   .subst h;unfold ny;rw [d,g];rfl
   exact f J a h
  refine bq 15 j j j (v:=.int .i64 ((m:Int)-1)) (by rw [uX (by omega) (by omega)];exact aH (λz=>some (Value.int .i64 z)) (by omega)) (bP 1 j (⟨m,⟨j,j,j,j,aY⟩,⟨by omega,λJ a r=>?_,j⟩,Nat.lt_succ_self m⟩));rcases Nat.eq_or_lt_of_le r with h|h
  .subst h;unfold ny;rw [d];rfl
  exact f J a h
 exact ao 4 j j ⟨.inr ⟨j,Ep (λJ a=>f J a (by omega))⟩,j⟩
theorem Es{o:World}{bf:Nat}{c:iO}{r:eg}{B:Option Addr}{aV:Nat}{G S:List Chunk}{l:dM}(k:o.heap[bf]? =some (.cells (lcs c).toArray 133 (0,0)))(y:mU c.cZ l.cZ G)(v:Holds o G)(D:gD c.ch l.ch S)(L:Holds o S):Calls prog 185 #[ab bf,.agg (rcc r (.slice B r.x.length aV)).toArray] o λz w=>z=ad (l.fits r)/\C o [] [] w:=by
 have a:Own [] o:=C.start o;obtain⟨V,Y,F,aa,ac,N⟩:=y.form;obtain⟨U,X,E,_,_⟩:=Row.form D;refine a2 func185 (bM 2 a j j (λt w a=>?_));have a:C o [] [R t (rcc r (.slice B r.x.length aV)).toArray 169] w:=a;refine al 9 j (aw (C.ak a) j) (al 1 j (aw (C.ak a) j) ?_);rcases n:l.cZ.reverse.find? (ny r.p r.e) with _|x;have m:=yV (bf:=bf) (c:=c) (p:=r.p) (e:=r.e) (a.cg k) y (v.st a);refine bh 0 m j (λz Q⟨d,f⟩=>?_);have f:=f.symm;subst f;obtain⟨d,_⟩:=d.resolve_left (λ⟨_,_,_,h⟩=>by rw [n] at h;cases h);subst d;refine aq 9 j (bS 5 (ad (l.next r)) j (by unfold dM.next;rw [n];rfl) ?_);rotate_left
 have m:=yV (bf:=bf) (c:=c) (p:=r.p) (e:=r.e) (a.cg k) y (v.st a);refine bh 0 m j (λz Q⟨d,f⟩=>?_);have f:=f.symm;subst f;obtain⟨i,d,H,I⟩:=d.resolve_right (λh=>by rw [n] at h;cases h.2);rw [n] at I;cases I;subst d;refine mo 5 j j ((jC (Int.natCast_nonneg i))) (al 4 j (aw (a.cg k) (aH some F)) ?_);obtain⟨Z,go,W,dI,rfl,_,_,O⟩:=N i H;refine aq 1 j (hM j j j j H ?_);refine al 1 j ((O _ (v.st a)).2 3 _ (by decide) j) (aq 4 j (bS 5 (ad (l.next r)) j (by unfold dM.next;rw [n];rfl) ?_));rotate_left
 all_goals
  refine gV j j j j (al 6 j (aw (C.ak a) j) (bm 3 j j (λg=>?_) (λg=>?_)))
  .refine ao 3 j j (⟨aH ad ?_,a.bare⟩);unfold dM.fits;rw [a6 (by simpa using g)]
  refine al 5 j (aw (a.cg k) (aH some E)) ?_;have m:=DJ (eA:=226) (bf:= #[ab t]) (q:=pm r) (T:=λA=>A.heap[t]? =some (.cells (rcc r (.slice B r.x.length aV)).toArray 169 (0,0))) (λA s M=>GK M) (λA K=>K.cg (C.ak (b:=t) a)) (E▸D) (L.st a);refine bo 1 m j (λw P=>?_);have a:=a.aM P;refine bm 1 j j (λu=>?_) (λu=>?_)
  .refine ao 3 j j (⟨aH ad ?_,a.bare⟩);unfold dM.fits;rw [aI (by simpa using g),if_pos u]
  refine al 5 j (aw (a.cg k) (aH some F)) (cm 3 j j (λJ=>?_) (λJ=>?_))
  .refine ao 3 j j (⟨aH ad ?_,a.bare⟩);unfold dM.fits;rw [aI (by simpa using g),if_neg (by rw [u];decide),if_pos (by omega)]
  refine ao 4 j j (⟨aH ad ?_,a.bare⟩);unfold dM.fits;rw [aI (by simpa using g),if_neg (by rw [u];decide),if_neg (by omega)]
theorem CC{o:World}{bf:Nat}{l:dM}{G:List Chunk}{r:eg}{B:Option Addr}{aV:Nat}(aK:kF bf l G)(bl:l.ch.length<=1000000)(bn:l.cZ.length<=1000000)(aS:Rd o B (aG r.x))(ap:bX B (aG r.x) (au [G]))(bu:r.x.length<=aV)(a:Own [G] o):Calls prog 132 #[ab bf,.agg (rcc r (.slice B r.x.length aV)).toArray] o λz w=>z= .tuple #[ad (l.append r).2.1,ad (l.append r).2.2]/\∃ai,kF bf (l.append r).1 ai/\C o (au [G]) [ai] w:=by
 have O:=aK;obtain⟨c,ag,S,E,D,rfl⟩:=aK;obtain⟨d,aD⟩:∃d,d=au [dC bf c++(ag++(S++E))]:=⟨_,j⟩;rw [<-aD] at ap⊢;have a:C o d [dC bf c++(ag++(S++E))] o:=aD▸a;have a:=a.vS;obtain⟨az,g,aN,rfl,aQ⟩:=D.eD;obtain⟨bb,bg,W,bs,bt,aY⟩:=D.cZ.form;obtain⟨ba,be,aO,bq,br⟩:=Row.form D.ch
 have a0:(aZ (mh l.eD) r.p).getD (ad 0)=ad ((aZ l.eD r.p).getD 0):=by
  unfold mh;rw [nt];cases aZ l.eD r.p<;>rfl
 have aP:(aZ (mh l.eD) r.p).isSome=(aZ l.eD r.p).isSome:=by
  unfold mh;rw [nt];cases aZ l.eD r.p<;>rfl
 refine a2 func132 (bM 2 a j j (λf w a=>?_));have a:C o d [R f (rcc r (.slice B r.x.length aV)).toArray 169,dC bf c,ag,S,[(az,g)]] w:=a;refine aq 8 j (bS 13 (.bool false) j (aH Value.bool (j)) ?_);refine bN 0 (U:=rcc r (.slice B r.x.length aV)) j j j (bp (C.ak (b:=f) a)) ?_;have F:=E0 (o:=w) (r:=r) (B:=B) (aV:=aV);refine bo 0 F j (λw y=>?_);have a:=a.aM y;have a:C o d [R f (rcc r (.slice B r.x.length aV)).toArray 169,dC bf c,ag,S,[(az,g)]] w:=a.as;refine bm 2 j j (λah=>?_) (λah=>?_)
 .refine ao 4 j j ?_
  have q:l.append r=(l,0,1):=by
   unfold dM.append;rw [a6 (by simpa using ah)]
  rw [q];have a:C o d [dC bf c,ag,S,[(az,g)]] _:=a.as;exact⟨j,_,O,a.i1⟩
 have a:C o d ([R f (rcc r (.slice B r.x.length aV)).toArray 169,dC bf c,ag,S,[(az,g)]]++_) _:=a.front;have a:=a.drew;have J:r.j1=true:=by simpa using ah
 refine bw 2 j (λw=>∃ae,C o d ([R f (rcc r (.slice B r.x.length aV)).toArray 169,dC bf c,ag,S,[(az,g)]]++ae) w) ⟨_,a⟩ (af 0 3 j (a8 3 j a1 (aH some aN) (af 4 1 j (a8 5 j a1 j (aT 6 j (λw⟨_,a⟩=>tC (key:=bL) (k:=r.p) aQ (C.ak (b:=az) a) j j) (af 7 5 j (bK (bm 7 j j (λaj=>?_) (λaj=>?_)))))))))
 .refine ao 4 j j ?_
  have q:l.append r=(l,0,4):=by
   unfold dM.append;rw [aI (by rw [J];decide)];rw [show aZ l.eD r.p=none from Option.isNone_iff_eq_none.1 (by have V:(aZ l.eD r.p).isSome=false:=aP.symm.trans (by simpa using aj);cases a5:aZ l.eD r.p with|none=>rfl|some _=>rw [a5] at V;cases V)]
  rw [q];have a:C o d [dC bf c,ag,S,[(az,g)]] _:=a.as;exact⟨j,_,O,a.i1⟩
 obtain⟨an,L⟩:∃an,aZ l.eD r.p=some an:=gX.1 (aP.symm.trans (by simpa using aj));refine aq 2 j (bS 6 (ad an) j (a0.trans (by rw [L];rfl)) ?_);refine al 1 j (aw (C.ak a) j) (cm 3 j j (λK=>?_) (λK=>?_))
 .refine ao 4 j j ?_
  have q:l.append r=(l,0,5):=by
   unfold dM.append;rw [aI (by rw [J];decide)];rw [L];dsimp only;rw [a6 K]
  rw [q];have a:C o d [dC bf c,ag,S,[(az,g)]] _:=a.as;exact⟨j,_,O,a.i1⟩
 refine al 3 j (aw (C.ak a) j) (cm 3 j j (λN=>?_) (λN=>?_))
 .refine ao 4 j j ?_
  have q:l.append r=(l,0,6):=by
   unfold dM.append;rw [aI (by rw [J];decide)];rw [L];dsimp only;rw [aI K,a6 N]
  rw [q];have a:C o d [dC bf c,ag,S,[(az,g)]] _:=a.as;exact⟨j,_,O,a.i1⟩
 refine bN 5 (U:=rcc r (.slice B r.x.length aV)) j j j (bp (C.ak (b:=f) a)) ?_;rcases I:l.cZ.findIdx? (mF r) with _|ax
 .have F:=wX (bf:=bf) (c:=c) (r:=r) (B:=B) (aV:=aV) (C.ak (b:=bf) a) D.cZ (a.holds (G:=ag) (by simp));refine bh 0 F j (λz w⟨v,y⟩=>?_);obtain⟨v,_⟩:=v.resolve_left (λ⟨_,_,h⟩=>by rw [I] at h;cases h);subst v;have a:=a.aM y;have a:C o d [R f (rcc r (.slice B r.x.length aV)).toArray 169,dC bf c,ag,S,[(az,g)]] w:=a.as;refine bN 11 (U:=rcc r (.slice B r.x.length aV)) j j j (bp (C.ak (b:=f) a)) ?_;have F:=Es (l:=l) (r:=r) (B:=B) (aV:=aV) (C.ak (b:=bf) a) D.cZ (a.holds (G:=ag) (by simp)) D.ch (a.holds (G:=S) (by simp));refine bo 0 F j (λw y=>?_);have a:=a.aM y;have a:C o d [R f (rcc r (.slice B r.x.length aV)).toArray 169,dC bf c,ag,S,[(az,g)]] w:=a.as;refine bm 5 j j (λam=>?_) (λam=>?_)
  .refine ao 5 j j ?_
   have q:l.append r=(l,0,l.fits r):=by
    unfold dM.append;rw [aI (by rw [J];decide)];rw [L];dsimp only;rw [aI K,aI N];rw [I];dsimp only;rw [a6 (by simpa using am)]
   rw [q];have a:C o d [dC bf c,ag,S,[(az,g)]] _:=a.as;exact⟨j,_,O,a.i1⟩
  refine al 6 j (aw (C.ak (b:=bf) a) (aH some W)) (al 7 j (aw (C.ak (b:=f) a) j) (al 1 j (aw (C.ak (b:=f) a) j) (al 1 j (aw (C.ak (b:=f) a) j) ?_)));rcases Z:l.span r.p r.e r.t with _|a9;have F:=pw (bf:=bf) (c:=c) (p:=r.p) (e:=r.e) (t:=r.t) (C.ak (b:=bf) a) D.ch (a.holds (G:=S) (by simp));refine bh 0 F j (λz w⟨v,y⟩=>?_);obtain⟨v,_⟩:=v.resolve_left (λ⟨_,_,h⟩=>by rw [show l.ch.findIdx? (kS r.p r.e r.t)=none from Z] at h;cases h);subst v;have a:=a.aM y;have a:C o d [R f (rcc r (.slice B r.x.length aV)).toArray 169,dC bf c,ag,S,[(az,g)]] w:=a.as;have a:C o d ([R f (rcc r (.slice B r.x.length aV)).toArray 169,dC bf c,ag,[(az,g)]]++_) _:=a.front;have a:=a.drew;refine bw 2 j (λw=>∃ae,C o d ([R f (rcc r (.slice B r.x.length aV)).toArray 169,dC bf c,ag,[(az,g)]]++ae) w) ⟨_,a⟩ (af 0 4 j (a8 4 j a1 (aH some aO) (af 5 1 j (a8 6 j a1 j (af 7 1 j (a8 8 j a1 j (af 9 1 j (a8 10 j a1 j (af 11 1 j (aT 12 j (λw _=>e1 (c:=(⟨r.p,r.e,r.t,(l.cZ.length:Int),0⟩:dH).cs.toArray) j (λ_=>by kernel_rfl)) (aU 13 j (gC (U:=(⟨r.p,r.e,r.t,(l.cZ.length:Int),0⟩:dH).cs) a j j j j bJ bJ (λaW w a=>?_)))))))))))));have aJ:=bp (C.ak (b:=aW) a);have a:C o d ([R f (rcc r (.slice B r.x.length aV)).toArray 169,dC bf c,ag,[(az,g)]]++_) w:=a.front;refine ar ⟨⟨_,a⟩,?_⟩;refine aU 14 j (d9 (a.to S) (aO▸D.ch) j j (by decide) j j j (m:=1) (news:=(⟨r.p,r.e,r.t,(l.cZ.length:Int),0⟩:dH).cs) j aJ (wh [(⟨r.p,r.e,r.t,(l.cZ.length:Int),0⟩:dH)]) (by omega) (by unfold maxLen;omega) (λv1 aa w P a=>?_));have P:Row 311 5 v1 (l.ch.length+1) (l.ch.flatMap dH.cs++(⟨r.p,r.e,r.t,(l.cZ.length:Int),0⟩:dH).cs) aa:=P
  have P:gD v1 (l.ch++[(⟨r.p,r.e,r.t,(l.cZ.length:Int),0⟩:dH)]) aa:=by
   unfold gD;rw [b4,List.flatMap_append];simpa using P
  have a:C o d ([R f (rcc r (.slice B r.x.length aV)).toArray 169,dC bf c,ag,[(az,g)]]++_) w:=a.front;refine ar ⟨⟨_,a⟩,?_⟩;refine af 15 2 j (dy 17 j (cC (a.bc bf) j j j (Row.one P) bJ (λw a=>?_)));have a:C o d (dC bf ({c with ch:=v1})::_) w:=a;refine ar (cX ?_);obtain⟨dv,H,n,aB,aA,aF,aR,a3,a⟩:∃(dv:iO)(H:List dH)(n:List Chunk),dv.cZ=c.cZ/\dv.eD=c.eD/\(if(l.span r.p r.e r.t).isSome=true then l.ch else l.ch++[(⟨r.p,r.e,r.t,(l.cZ.length:Int),0⟩:dH)])=H/\gD dv.ch H n/\H.length<=l.ch.length+1/\C o d [R f (rcc r (.slice B r.x.length aV)).toArray 169,dC bf dv,ag,n,[(az,g)]] w:=⟨{c with ch:=v1},l.ch++[(⟨r.p,r.e,r.t,(l.cZ.length:Int),0⟩:dH)],aa,j,j,aI (by rw [Z];decide),P,by rw [b4,List.length_singleton];omega,a.as⟩;refine al 3 j (aw (C.ak (b:=f) a) j) ?_;rotate_left
  have F:=pw (bf:=bf) (c:=c) (p:=r.p) (e:=r.e) (t:=r.t) (C.ak (b:=bf) a) D.ch (a.holds (G:=S) (by simp));refine bh 0 F j (λz w⟨v,y⟩=>?_);obtain⟨bv,v,_⟩:=v.resolve_right (λh=>by rw [show l.ch.findIdx? (kS r.p r.e r.t)=some a9 from Z] at h;cases h.2);subst v;have a:=a.aM y;have a:C o d [R f (rcc r (.slice B r.x.length aV)).toArray 169,dC bf c,ag,S,[(az,g)]] w:=a.as;refine i0 1 j j ((fj (by omega))) ?_;obtain⟨dv,H,n,aB,aA,aF,aR,a3,a⟩:∃(dv:iO)(H:List dH)(n:List Chunk),dv.cZ=c.cZ/\dv.eD=c.eD/\(if(l.span r.p r.e r.t).isSome=true then l.ch else l.ch++[(⟨r.p,r.e,r.t,(l.cZ.length:Int),0⟩:dH)])=H/\gD dv.ch H n/\H.length<=l.ch.length+1/\C o d [R f (rcc r (.slice B r.x.length aV)).toArray 169,dC bf dv,ag,n,[(az,g)]] w:=⟨c,l.ch,S,j,j,a6 (by rw [Z];rfl),D.ch,ey _,a.as⟩;refine al 4 j (aw (C.ak (b:=f) a) j) ?_;rotate_left
  all_goals
   refine bh 0 (g3 (c:=aV) (a.rd aS ap) (by have:=Er J;omega)) j (λz w⟨M,aE,y⟩=>?_);obtain⟨s,bR,rfl,_,_⟩:=aE.form;have a:=a.aM y;refine dB 1 (a.bc f) j j j j (λw a=>?_);have a:C o d (R f (rcc r (.slice s r.x.length bR)).toArray 169::_) w:=a;have a:C o d ([R f (rcc r (.slice s r.x.length bR)).toArray 169,dC bf dv,n,[(az,g)]]++_) _:=a.front;have a:=a.drew;refine bw 1 j (λw=>∃ae,C o d ([R f (rcc r (.slice s r.x.length bR)).toArray 169,dC bf dv,n,[(az,g)]]++ae) w) ⟨_,a⟩ (af 0 4 j (a8 4 j a1 (aH some (aB.trans W)) (aT 5 j (λw⟨_,a⟩=>c3 (U:=rcc r (.slice s r.x.length bR)) j j j (bp (C.ak (b:=f) a))) (aU 6 j (gC (U:=rcc r (.slice s r.x.length bR)) a j j j j bJ bJ (λac w a=>?_))))));have aJ:=bp (C.ak (b:=ac) a);have a:C o d ([R f (rcc r (.slice s r.x.length bR)).toArray 169,dC bf dv,n,[(az,g)]]++_) w:=a.front;refine ar ⟨⟨_,a⟩,?_⟩;refine aU 7 j ?_;obtain⟨ay,H1,us,rfl,aX,aC⟩:=D.cZ;have a:C o d [ay,H1,R f (rcc r (.slice s r.x.length bR)).toArray 169,dC bf dv,n,[(az,g)],M,R ac (rcc r (.slice s r.x.length bR)).toArray 169] w:=C.perm (A:=[ay++H1,R f (rcc r (.slice s r.x.length bR)).toArray 169,dC bf dv,n,[(az,g)],M,R ac (rcc r (.slice s r.x.length bR)).toArray 169]) a.as (by simp);refine d9 a (W▸aX) j j (by decide) j j j (m:=1) (news:=rcc r (.slice s r.x.length bR)) j aJ (by intro u hu;simp at hu;rcases hu with rfl|rfl|rfl|rfl|rfl<;>rfl) (by omega) (by unfold maxLen;omega) (λv2 T w aL a=>?_);have a4:v2.oneCell'=true:=Row.one aL
   have a7:mU v2 (l.cZ++[r]) (T++(H1++M)):=by
    refine⟨T,H1++M,us++[(.slice s r.x.length bR)],j,?_,aC.app (kf.one aE)⟩;rw [b4,List.length_singleton]
    have e:sV (us++[(.slice s r.x.length bR)]) (l.cZ++[r])=sV us l.cZ++rcc r (.slice s r.x.length bR):=by
     rw [Hb,List.zip_append aC.len,List.flatMap_append];simp
    rw [e];exact aL
   have a:C o d ([R f (rcc r (.slice s r.x.length bR)).toArray 169,dC bf dv,n,[(az,g)]]++_) w:=a.front;refine ar ⟨⟨_,a⟩,?_⟩;refine af 8 2 j (dy 10 j (cC (a.bc bf) j j j a4 bJ (λw a=>?_)));have a:C o d (dC bf {dv with cZ:=v2}::_) w:=a;refine ar (cX (ao 5 j j ?_))
   have q:l.append r=({l with ch:=H,cZ:=l.cZ++[r]},(l.cZ.length:Int),0):=by
    unfold dM.append;rw [aI (by rw [J];decide)];rw [L];dsimp only;rw [aI K,aI N];rw [I];dsimp only;rw [aI (by simpa using am),aF]
   rw [q];have a:C o d [dC bf {dv with cZ:=v2},T,H1,M,n,[(az,g)]] w:=a.as;exact⟨j,_,⟨{dv with cZ:=v2},T++(H1++M),n,[(az,g)],⟨a7,aR,⟨az,g,aA.trans aN,j,aQ⟩⟩,j⟩,C.i1 (C.perm (A:=[dC bf {dv with cZ:=v2},T,H1,M,n,[(az,g)]]) a (by simp))⟩
 have F:=wX (bf:=bf) (c:=c) (r:=r) (B:=B) (aV:=aV) (C.ak (b:=bf) a) D.cZ (a.holds (G:=ag) (by simp));refine bh 0 F j (λz w⟨v,y⟩=>?_);obtain⟨i,v,V⟩:=v.resolve_right (λh=>by rw [I] at h;cases h.2);rw [I] at V;cases V;obtain⟨Q,_,_⟩:=p7.1 I;subst v;have a:=a.aM y;have a:C o d [R f (rcc r (.slice B r.x.length aV)).toArray 169,dC bf c,ag,S,[(az,g)]] w:=a.as;refine mo 5 j j ((jC (Int.natCast_nonneg ax))) ?_;have a:C o d ([R f (rcc r (.slice B r.x.length aV)).toArray 169,dC bf c,ag,S,[(az,g)]]++_) _:=a.front;obtain⟨bi,go,bd,dI,rfl,bj,bk,av⟩:=aY ax Q;have a:=a.drew;refine bw 2 j (λw=>∃ae,C o d ([R f (rcc r (.slice B r.x.length aV)).toArray 169,dC bf c,ag,S,[(az,g)]]++ae) w) ⟨_,a⟩ (af 0 3 j (a8 3 j a1 (aH some W) (af 4 1 j (aT 5 j (λw _=>gb j j Q) (af 6 1 j (bT 7 j (λw⟨_,a⟩=>(av _ (a.holds (G:=ag) (by simp))).2 2 _ (by decide) j) (af 8 1 j (a8 9 j a1 j (af 10 2 j (ef 57 j (λX=>?_) (λX=>?_)))))))))))
 .refine af 12 13 j (bK (ao 5 j j ?_))
  have q:l.append r=(l,0,1):=by
   unfold dM.append;rw [aI (by rw [J];decide)];rw [L];dsimp only;rw [aI K,aI N];rw [I];dsimp only;rw [nb Q];refine a6 ?_;first|exact .inl (by simpa using X)|exact .inr (by simpa using Y)
  rw [q];have a:C o d [dC bf c,ag,S,[(az,g)]] _:=a.as;exact⟨j,_,O,a.i1⟩
 refine af 12 3 j (a8 15 j a1 (aH some W) (af 16 1 j (aT 17 j (λw _=>gb j j Q) (af 18 1 j (bT 19 j (λw⟨_,a⟩=>(av _ (a.holds (G:=ag) (by simp))).2 4 _ (by decide) j) (af 20 1 j (a8 21 j a1 j (aU 22 j (bF j j j (qr (av _ (a.holds (G:=ag) (by simp))).1 (a.rd aS ap)) (λw hw=>?_))))))))));subst hw;refine ar ⟨⟨_,a⟩,?_⟩;refine af 23 2 j (bK (bm 0 j j (λY=>?_) (λY=>?_)));refine ao 4 j j ?_
 have q:l.append r=(l,0,1):=by
  unfold dM.append;rw [aI (by rw [J];decide)];rw [L];dsimp only;rw [aI K,aI N];rw [I];dsimp only;rw [nb Q];refine a6 ?_;first|exact .inl (by simpa using X)|exact .inr (by simpa using Y)
 rotate_left
 refine ao 6 j j ?_
 have q:l.append r=(l,(ax:Int),0):=by
  unfold dM.append;rw [aI (by rw [J];decide)];rw [L];dsimp only;rw [aI K,aI N];rw [I];dsimp only;rw [nb Q];refine aI (λh=>?_);rcases h with h|h
  .exact h (by simpa using X)
  .exact h (by simpa using Y)
 rotate_left
 all_goals
  rw [q];have a:C o d [dC bf c,ag,S,[(az,g)]] _:=a.as;exact⟨j,_,O,a.i1⟩
def bG.jF(e:bG)(n:Int):bG×Int:=match aZ e.parts n with
 |none=>(e,6)
 |some q=>if q.out.isNone=true then(e,6) else({e with parts:=b9 e.parts n {q with out:=none}},0)
def bG.waits(e:bG):Bool:=e.parts.any λp=>p.2.out.isSome
def bG.end_(e:bG)(c:Bool):bG×bA×Int:=
 if e.dg=false\/e.waits=true then(e,dd,6)
 else if 1048576<e.next then(e,dd,7)
 else({e with next:=e.next+1,dg:=false},⟨3,e.number,e.next,[],e.prod,e.b5,e.last,0,c⟩,0)
def bG.f9(e:bG):Int:=if e.dg=true then e.last else e.last+1
def bG.gH(e:bG)(n:Int):bG×bA×Int:=
 if e.known=false then(e,dd,6)
 else match aZ e.parts n with
  |none=>(e,dd,1)
  |some q=>if e.dg=false/\100<=e.last then(e,dd,7)
   else if 1048576<e.next then(e,dd,7)
   else({e with next:=e.next+1,last:=e.f9,dg:=true,parts:=b9 e.parts n {q with begun:=e.f9}},⟨2,e.number,e.next,[],e.prod,e.b5,e.f9,n,false⟩,0)
theorem zQ(l:List (Int×hi))(n:Int):aZ l n=none\/(∃q,aZ l n=some q/\q.out=none)\/∃q r,aZ l n=some q/\q.out=some r:=by
 cases b:aZ l n with
 |none=>exact .inl j
 |some q=>
  cases a:q.out with
  |none=>exact .inr (.inl ⟨q,j,a⟩)
  |some r=>exact .inr (.inr ⟨q,r,j,a⟩)
theorem Ce{o:World}{az:Nat}{e:bG}{G:List Chunk}{n:Int}(O:h1 az e G)(a:Own [G] o):Calls prog 71 #[ab az,ad n] o λr w=>r=ad (e.jF n).2/\∃ai,h1 az (e.jF n).1 ai/\C o (au [G]) [ai] w:=by
 obtain⟨u,bQ,J,rfl⟩:=O;have K:h1 az e (bC az e u++bQ):=⟨u,bQ,J,j⟩;obtain⟨d,F⟩:∃d,d=au [bC az e u++bQ]:=⟨_,j⟩;rw [<-F];have a:C o d [bC az e u++bQ] o:=F▸a;obtain⟨c,ah,I,Q,H,rfl,hm,E,rfl⟩:=J;have a:C o d [bC az e (ab c),ax 239 c ah I,H] o:=C.perm (B:=[bC az e (ab c),ax 239 c ah I,H]) a (by simp);refine a2 func71 (al 15 j (aw (C.ak (b:=az) a) j) (aq 1 j ?_));rcases zQ e.parts n with g|⟨q,g,y⟩|⟨q,ro,g,y⟩
 .have m:=nm (k:=n) (dE.own (a.to (ax 239 c ah I)) hm);refine bh 0 m j (λr w⟨h,v⟩=>?_);have a:=a.aM v;have P:=E.nv g;simp only [P,rD,rE] at h;subst h;have a:C o d [bC az e (ab c),ax 239 c ah I,H] w:=a.as;refine aq 11 j (bS 20 (.bool true) j (aH Value.bool (j)) ?_);refine ao 10 j j ?_;have l:e.jF n=(e,6):=by unfold bG.jF;rw [g]
  rw [l];have a:C o d [bC az e (ab c),ax 239 c ah I,H] w:=a.as;exact⟨j,_,K,C.perm (A:=[bC az e (ab c),ax 239 c ah I,H]) a (by simp)⟩
 .have m:=nm (k:=n) (dE.own (a.to (ax 239 c ah I)) hm);refine bh 0 m j (λr w⟨h,v⟩=>?_);have a:=a.aM v;obtain⟨v0,H1,N,f,D,rfl,⟨aN,pu,z,rfl,i,rfl⟩,L⟩:=E.find g;simp only [D,l8,oI] at h;subst h;obtain⟨rfl,rfl⟩:pu= .pointer none/\z=[]:=by unfold mT at i;rw [y] at i;exact i
  have a:C o d [bC az e (ab c),ax 239 c ah I,H1,dV aN q (.pointer none),[],f] w:=C.perm (A:=[bC az e (ab c),ax 239 c ah I,H1++((dV aN q (.pointer none)++([]))++f)]) a.as (by simp);refine aq 11 j (bS 20 (.bool false) j (aH Value.bool (j)) ?_);refine al 3 j (aw (C.ak (b:=aN) a) j) (ao 6 j j ?_);have l:e.jF n=(e,6):=by unfold bG.jF;rw [g];exact if_pos (by rw [y];rfl)
  rw [l];have a:C o d [bC az e (ab c),ax 239 c ah I,H1,dV aN q (.pointer none),[],f] w:=a.as;exact⟨j,_,K,C.perm (A:=[bC az e (ab c),ax 239 c ah I,H1,dV aN q (.pointer none),[],f]) a (by simp)⟩
 have m:=nm (k:=n) (dE.own (a.to (ax 239 c ah I)) hm);refine bh 0 m j (λr w⟨h,v⟩=>?_);have a:=a.aM v;obtain⟨v0,H1,N,f,D,rfl,⟨aN,pu,z,rfl,i,rfl⟩,L⟩:=E.find g;simp only [D,l8,oI] at h;subst h;obtain⟨b1,M,ai,rfl,S,rfl⟩:∃b u ai,pu=ab b/\dt u ro.x ai/\z=R b #[ad ro.p,ad ro.e,ad ro.t,ad ro.s,u] 169++ai:=by unfold mT at i;rw [y] at i;exact i
 have a:C o d [bC az e (ab c),ax 239 c ah I,H1,dV aN q (ab b1),R b1 #[ad ro.p,ad ro.e,ad ro.t,ad ro.s,M] 169++ai,f] w:=C.perm (A:=[bC az e (ab c),ax 239 c ah I,H1++((dV aN q (ab b1)++(R b1 #[ad ro.p,ad ro.e,ad ro.t,ad ro.s,M] 169++ai))++f)]) a.as (by simp);refine aq 11 j (bS 20 (.bool false) j (aH Value.bool (j)) ?_);refine al 3 j (aw (C.ak (b:=aN) a) j) (dB 9 (a.bc aN) j j j j (λw a=>?_));have a:C o d (dV aN ({q with out:=none}) (.pointer none)::_) w:=a;refine ao 3 j j ?_;have l:e.jF n=({e with parts:=b9 e.parts n ({q with out:=none})},0):=by unfold bG.jF;rw [g];exact if_neg (by rw [y];simp)
 rw [l];have a:C o d [bC az e (ab c),ax 239 c ah I,H1,dV aN ({q with out:=none}) (.pointer none),[],f] w:=a.empty.as;exact⟨j,_,⟨_,_,⟨c,ah,I,Q,_,j,hm,L _ _ ⟨aN,.pointer none,[],j,⟨j,j⟩,j⟩,j⟩,j⟩,C.perm (A:=[bC az e (ab c),ax 239 c ah I,H1,dV aN ({q with out:=none}) (.pointer none),[],f]) a (by simp)⟩
theorem mT.ptr{v:Value}{r:Option eg}{G:List Chunk}(h:mT v r G):∃p,v= .pointer p/\p.isSome=r.isSome:=by
 unfold mT at h;cases r with
 |none=>exact⟨none,h.1,j⟩
 |some r=>obtain⟨b,u,ai,a,_⟩:=h;exact⟨_,a,j⟩
theorem w7{α:Type}(l:List (Int×α))(p:Int×α->Bool):(dc l).any p=l.any p:=by
 rw [m9,kl,kl];exact⟨λ⟨x,a,b⟩=>⟨x,gO.1 a,b⟩,λ⟨x,a,b⟩=>⟨x,gO.2 a,b⟩⟩
theorem Cu{α:Type}{l t1 t2:List (Int×α)}{q:Int×α}{p:Int×α->Bool}(h:dc l=t1++q::t2)(a:p q=true):l.any p=true:=by
 rw [<-w7,h];simp [a]
theorem bG.sH(e:bG)(I:bA):(e.op I).1.prod=e.prod/\(e.op I).1.b5=e.b5/\(e.op I).1.last=e.last/\(e.op I).1.dg=e.dg/\(e.op I).1.parts=e.parts:=by
 unfold bG.op;split<;>exact⟨j,j,j,j,j⟩
theorem IL{o:World}{az f ah:Nat}{e:bG}{I:Obj}{m:List (Int×Value)}{H:List Chunk}(Q:o.heap[az]? =some (.cells (uM e (ab f)).toArray 157 (0,0)))(hm:cc bL I m)(s:c6 nP m e.parts H)(k:Holds o (ax 239 f ah I++H))(af:e.parts.length<=1000000):Calls prog 72 #[ab az] o λr w=>r= .bool e.waits/\C o [] [] w:=by
 have c:Own [] o:=C.start o;obtain⟨a,u⟩:∃a:Option Addr,a=some ⟨f,0,none⟩:=⟨_,j⟩;have N:dE 239 o a m:=.inr ⟨f,ah,I,u,k (f,_) (by simp),k (ah,I) (by simp),hm⟩;refine j0 func72 (cl 2 c j (λaO w c=>?_));have c:C o [] [R aO #[.bool false] 4] w:=c;refine al 6 j (aw (c.cg Q) (aH (λz=>some (Value.pointer z)) u.symm)) ?_;have S:=Cp (o:=w) (p:=a);refine bh 0 S j (λr w⟨B,D,U,aa⟩=>?_);subst U;have M:=(N.st c).st aa;have c:=c.aM aa;have c:C o [] ([R B #[.pointer a] 155,[(D,.cells #[.func (.func 188) #[] #[]] 38 (0,0))]]++[R aO #[.bool false] 4]) w:=c
 refine j4 1 j (G4 (by have ad:=s.len;omega)) j (by have:=c.size;simpa using this) c j (λ_=>rfl) (by intro p v;simp at v;rcases v with rfl|rfl<;>rfl)
  (λpre ae=>ae=[R aO #[.bool false] 4]/\((dc e.parts).take pre.length).any (λp:Int×hi=>p.2.out.isSome)=false) (λi ae=>match i with| .ret=>e.waits=true/\ae=[R aO #[.bool true] 4]|_=>False) ⟨j,j⟩ (λL aK G=>M.st G) (λ_ _ _ _=>trivial) ?_ ?_ ?_ (λ_ _ _ h=>h.elim)
 .rintro y pre ⟨ag,ai⟩ Z L aj F ⟨rfl,d⟩ c;obtain⟨t1,t2,t,X,ac,Y,l,A,T,O⟩:=s.oq F;obtain⟨aN,pu,W,rfl,J,rfl⟩:=O;obtain⟨pp,rfl,x⟩:=J.ptr;have n:o.heap[aN]? =some (.cells (vY t (.pointer pp)).toArray 167 (0,0)):=((k.right.perm T).right.left) (aN,_) (by simp);have c:=C.gy c;refine bI 2 j (⟨j,_,c,λL am c=>?_⟩);have n:=c.cg n;have c:=C.gy c;refine al 6 j (aw n j) (bm 1 j j (λg=>?_) (λg=>?_))
  .refine dB 2 (c.bc aO) j j j j (λw c=>?_);have c:C _ _ (R aO #[.bool true] 4::_) w:=c;exact bI 0 j ⟨[R aO #[.bool true] 4],c.as,Cu l (show t.out.isSome=true by rw [<-x];simpa using g),j⟩
  refine bI 1 j (⟨[R aO #[.bool false] 4],c.as,j,?_⟩);rw [b4,List.length_singleton,l,<-A];rw [l,<-A,md] at d;rw [p1,List.take_of_length_le (by omega)];have i:t.out.isSome=false:=by rw [<-x];simpa using g
  simp [d,i]
 .rintro xs E w K ⟨rfl,d⟩ c;have c:C o [] ([R B #[.pointer a] 155,[(D,.cells #[.func (.func 188) #[] #[]] 38 (0,0))]]++[R aO #[.bool false] 4]) w:=c;refine dB 2 (c.bc aO) j j j j (λw c=>?_);have c:C _ _ (R aO #[.bool false] 4::_) w:=c;refine bI 0 j ⟨.bool false,λw q=>?_⟩;have c:=q.st c (cD _);refine⟨sY results72 j j (aw (C.ak (b:=aO) c) j),?_⟩;rw [K,iA,s.len,ir (by rw [hR];exact cD _),w7] at d;exact⟨aH Value.bool d.symm,c.bare⟩
 rintro E w P c;obtain⟨V,rfl⟩:=P;refine⟨.bool true,λw q=>?_⟩;have c:=q.st c (cD _);refine⟨sY results72 j j (aw (C.ak (b:=aO) c) j),?_⟩;exact⟨by rw [V],c.bare⟩
theorem D8{o:World}{az:Nat}{e:bG}{G:List Chunk}{dI:Bool}(O:h1 az e G)(aJ:0<=e.next)(Q:e.parts.length<=1000000)(a:Own [G] o):Calls prog 39 #[ab az,.bool dI] o λr w=>r= .tuple #[.agg (e.end_ dI).2.1.cs.toArray,ad (e.end_ dI).2.2]/\∃ai,h1 az (e.end_ dI).1 ai/\C o (au [G]) [ai] w:=by
 obtain⟨u,bQ,F,rfl⟩:=O;have J:h1 az e (bC az e u++bQ):=⟨u,bQ,F,j⟩;obtain⟨f,E⟩:∃f,f=au [bC az e u++bQ]:=⟨_,j⟩;rw [<-E];have a:C o f [bC az e u++bQ] o:=E▸a;obtain⟨d,ah,I,L,H,rfl,hm,K,rfl⟩:=F;have a:C o f [bC az e (ab d),ax 239 d ah I,H] o:=C.perm (B:=[bC az e (ab d),ax 239 d ah I,H]) a (by simp);refine e9 func39 (cl 2 a j (λm w a=>?_));have a:C o f [bD m dd,bC az e (ab d),ax 239 d ah I,H] w:=a;refine al 14 j (aw (C.ak (b:=az) a) j) (aq 2 j (cQ 18 j (λy=>?_) (λy=>?_)))
 .refine aq 7 j (cP (c:=dd.cs.toArray) j j j (λ_=>by kernel_rfl) ?_);refine ck 0 (a.bc m) j j j j j (λw a=>?_);have a:=C.whole (U:=(dd:bA).cs) a j;have a:C o f (bD m dd::_) w:=a;refine bI 1 j ⟨_,dp results39 j j j j (bp (C.ak (b:=m) a)),?_⟩;have he:e.end_ dI=(e,dd,6):=a6 (.inl (by simpa using y));rw [he];have a:C o f [bC az e (ab d),ax 239 d ah I,H] w:=a.as;exact⟨j,_,J,C.perm (A:=[bC az e (ab d),ax 239 d ah I,H]) a (by simp)⟩
 have q:=IL (az:=az) (e:=e) (C.ak (b:=az) a) hm K (λc P=>(dw.1 P).elim (a.holds (G:=ax 239 d ah I) (by simp) c) (a.holds (G:=H) (by simp) c)) Q;refine bo 1 q j (λw t=>?_);have a:=a.aM t;refine bm 2 j j (λx=>?_) (λx=>?_)
 .refine aq 2 j (cP (c:=dd.cs.toArray) j j j (λ_=>by kernel_rfl) ?_);refine ck 0 (a.bc m) j j j j j (λw a=>?_);have a:=C.whole (U:=(dd:bA).cs) a j;have a:C o f (bD m dd::_) w:=a;refine bI 1 j ⟨_,dp results39 j j j j (bp (C.ak (b:=m) a)),?_⟩;have he:e.end_ dI=(e,dd,6):=a6 (.inr (by first|exact x|exact M));rw [he];have a:C o f [bC az e (ab d),ax 239 d ah I,H] w:=a.as;exact⟨j,_,J,C.perm (A:=[bC az e (ab d),ax 239 d ah I,H]) a (by simp)⟩
 have i:e.prod=e.prod/\e.b5=e.b5/\e.last=e.last:=⟨j,j,j⟩;have a:C o f ([bC az e (ab d)]++_) _:=a.front;have a:=a.drew;have D:e.dg=true:=by simpa using y
 have R:e.waits=false:=by first|exact x|exact M
 refine bw 2 j (λw=>∃v ae,(v.prod=e.prod/\v.b5=e.b5/\v.last=e.last)/\C o f ([bC az v (ab d)]++ae) w) ⟨_,_,i,a⟩ ?_;refine af 0 4 j (bT 4 j (λw⟨_,_,i,a⟩=>aw (C.ak (b:=az) a) (aH (λz=>some (ad z)) i.1)) (af 5 3 j (bT 8 j (λw⟨_,_,i,a⟩=>aw (C.ak (b:=az) a) (aH (λz=>some (ad z)) i.2.1)) (af 9 3 j (bT 12 j (λw⟨_,_,i,a⟩=>aw (C.ak (b:=az) a) (aH (λz=>some (ad z)) i.2.2)) (af 13 1 j (aT 14 j (λw _=>e1 (c:=(⟨3,0,0,[],e.prod,e.b5,e.last,0,dI⟩:bA).cs.toArray) j (λ_=>by kernel_rfl)) (aO 15 19 j j ?_ ?_))))))));have k:=bG.sH e (⟨3,0,0,[],e.prod,e.b5,e.last,0,dI⟩:bA);obtain⟨g,l,p,n⟩:∃g l p,e.op (⟨3,0,0,[],e.prod,e.b5,e.last,0,dI⟩:bA)=(g,l,p):=⟨_,_,_,j⟩;rw [n] at k;have q:=qJ (az:=az) (e:=e) (u:=(ab d)) (I:=(⟨3,0,0,[],e.prod,e.b5,e.last,0,dI⟩:bA)) aJ a.ours;rw [n] at q;refine bF j j j q (λw t=>?_);have a:=a.b3 t;have i:g.prod=e.prod/\g.b5=e.b5/\g.last=e.last:=⟨k.1,k.2.1,k.2.2.1⟩;have a:C o f ([bC az g (ab d)]++_) w:=a.front;refine ar ⟨⟨_,_,i,a⟩,?_⟩;refine af 16 3 j (aU 19 j (ex a j j (λs w a=>?_)));have a:C o f (bD s dd::_) w:=a;have a:C o f ([bC az g (ab d)]++_) w:=a.front;refine ar ⟨⟨_,_,i,a⟩,?_⟩;rotate_left
 refine ex a j j (λs w a=>?_);have a:C o f (bD s dd::_) w:=a;have a:C o f ([bC az e (ab d)]++_) w:=a.front;refine ar ⟨⟨_,_,i,a⟩,?_⟩;refine aU 15 j ?_;have k:=bG.sH e (⟨3,0,0,[],e.prod,e.b5,e.last,0,dI⟩:bA);obtain⟨g,l,p,n⟩:∃g l p,e.op (⟨3,0,0,[],e.prod,e.b5,e.last,0,dI⟩:bA)=(g,l,p):=⟨_,_,_,j⟩;rw [n] at k;have q:=qJ (az:=az) (e:=e) (u:=(ab d)) (I:=(⟨3,0,0,[],e.prod,e.b5,e.last,0,dI⟩:bA)) aJ a.ours;rw [n] at q;refine bF j j j q (λw t=>?_);have a:=a.b3 t;have i:g.prod=e.prod/\g.b5=e.b5/\g.last=e.last:=⟨k.1,k.2.1,k.2.2.1⟩;have a:C o f ([bC az g (ab d)]++_) w:=a.front;refine ar ⟨⟨_,_,i,a⟩,?_⟩;refine af 16 3 j ?_;rotate_left
 all_goals
  refine aU 20 j (c4 (a.bc s) j j j j j bJ (λw a=>?_));have a:=C.whole (U:=l.cs) a j;have a:C o f (bD s l::_) w:=a;have a:C o f ([bC az g (ab d)]++_) w:=a.front;refine ar ⟨⟨_,_,i,a⟩,?_⟩;refine af 21 1 j (bK (al 6 j (aw (C.ak (b:=az) a) j) (aq 1 j (bS 47 (.bool true) j (aH Value.bool ((k.2.2.2.1.trans D))) ?_))));refine dB 5 (a.bc az) j j j j (λw a=>?_);have a:C o f (bC az {g with dg:=(p !=0)} (ab d)::_) w:=a;refine bN 2 (U:=l.cs) j j j (bp (C.ak (b:=s) a)) (ck 1 (a.bc m) j j j j j (λw a=>?_));have a:=C.whole (U:=l.cs) a j;have a:C o f (bD m l::_) w:=a;refine bI 1 j ⟨_,dp results39 j j j j (bp (C.ak (b:=m) a)),?_⟩
  have he:e.end_ dI=({g with dg:=(p !=0)},l,p):=by
   unfold bG.end_;rw [aI (by rw [D,R];decide)];unfold bG.op at n;split
   .rename_i h;rw [a6 h] at n;cases n;have N:((7:Int) !=0)=true:=by decide
    rw [N,<-D]
   .rename_i h;rw [aI h] at n;cases n;rfl
  rw [he];have a:C o f [bC az {g with dg:=(p !=0)} (ab d),ax 239 d ah I,H] w:=a.as;exact⟨j,_,⟨_,_,⟨d,ah,I,L,H,j,hm,show c6 nP L g.parts H from k.2.2.2.2.symm▸K,j⟩,j⟩,C.perm (A:=[bC az {g with dg:=(p !=0)} (ab d),ax 239 d ah I,H]) a (by simp)⟩
theorem C0{o:World}{az:Nat}{e:bG}{G:List Chunk}{n:Int}(ag:h1 az e G)(aJ:0<=e.next)(av:0<=e.last)(a:Own [G] o):Calls prog 37 #[ab az,ad n] o λr w=>r= .tuple #[.agg (e.gH n).2.1.cs.toArray,ad (e.gH n).2.2]/\∃ai,h1 az (e.gH n).1 ai/\C o (au [G]) [ai] w:=by
 obtain⟨u,bQ,Z,rfl⟩:=ag;have S:h1 az e (bC az e u++bQ):=⟨u,bQ,Z,j⟩;obtain⟨f,Y⟩:∃f,f=au [bC az e u++bQ]:=⟨_,j⟩;rw [<-Y];have a:C o f [bC az e u++bQ] o:=Y▸a;obtain⟨d,ah,I,W,H,rfl,hm,T,rfl⟩:=Z;have a:C o f [bC az e (ab d),ax 239 d ah I,H] o:=C.perm (B:=[bC az e (ab d),ax 239 d ah I,H]) a (by simp);have aa:=T;refine e9 func37 (cl 2 a j (λi w a=>?_));have a:C o f [bD i dd,bC az e (ab d),ax 239 d ah I,H] w:=a;refine al 13 j (aw (C.ak (b:=az) a) j) (aq 1 j ?_);rcases L:aZ e.parts n with _|q
 .have E:=nm (k:=n) (dE.own (a.to (ax 239 d ah I)) hm);refine bh 0 E j (λr w⟨M,K⟩=>?_);have a:=a.aM K;have am:=T.nv L;simp only [am,rD,rE] at M;subst M;have a:C o f [bD i dd,bC az e (ab d),ax 239 d ah I,H] w:=a.as;refine al 12 j (aw (C.ak (b:=az) a) j) (bm 2 j j (λy=>?_) (λy=>?_));refine aq 2 j (cP (c:=dd.cs.toArray) j j j (λ_=>by kernel_rfl) ?_);refine ck 0 (a.bc i) j j j j j (λw a=>?_);have a:=C.whole (U:=(dd:bA).cs) a j;have a:C o f (bD i dd::_) w:=a;refine bI 1 j ⟨_,dp results37 j j j j (bp (C.ak (b:=i) a)),?_⟩;have v:e.gH n=(e,dd,6):=a6 (by simpa using y);rotate_left
  refine aq 8 j (cP (c:=dd.cs.toArray) j j j (λ_=>by kernel_rfl) ?_);refine ck 0 (a.bc i) j j j j j (λw a=>?_);have a:=C.whole (U:=(dd:bA).cs) a j;have a:C o f (bD i dd::_) w:=a;refine bI 1 j ⟨_,dp results37 j j j j (bp (C.ak (b:=i) a)),?_⟩
  have v:e.gH n=(e,dd,1):=by
   unfold bG.gH;rw [aI (by rw [show e.known=true from by simpa using y];decide),L]
  rotate_left
  all_goals
   rw [v];have a:C o f [bC az e (ab d),ax 239 d ah I,H] w:=a.as;exact⟨j,_,S,C.perm (A:=[bC az e (ab d),ax 239 d ah I,H]) a (by simp)⟩
 have E:=nm (k:=n) (dE.own (a.to (ax 239 d ah I)) hm);refine bh 0 E j (λr w⟨M,K⟩=>?_);have a:=a.aM K;obtain⟨v0,H1,ao,t,aj,rfl,⟨aN,pu,s,rfl,ac,rfl⟩,an⟩:=T.find L;simp only [aj,l8,oI] at M;subst M;have a:C o f [bD i dd,bC az e (ab d),ax 239 d ah I,H1,dV aN q pu,s,t] w:=C.perm (A:=[bD i dd,bC az e (ab d),ax 239 d ah I,H1++((dV aN q pu++s)++t)]) a.as (by simp);refine al 12 j (aw (C.ak (b:=az) a) j) (bm 2 j j (λy=>?_) (λy=>?_))
 .refine aq 2 j (cP (c:=dd.cs.toArray) j j j (λ_=>by kernel_rfl) ?_);refine ck 0 (a.bc i) j j j j j (λw a=>?_);have a:=C.whole (U:=(dd:bA).cs) a j;have a:C o f (bD i dd::_) w:=a;refine bI 1 j ⟨_,dp results37 j j j j (bp (C.ak (b:=i) a)),?_⟩;have v:e.gH n=(e,dd,6):=a6 (by simpa using y);rw [v];have a:C o f [bC az e (ab d),ax 239 d ah I,H1,dV aN q pu,s,t] w:=a.as;exact⟨j,_,S,C.perm (A:=[bC az e (ab d),ax 239 d ah I,H1,dV aN q pu,s,t]) a (by simp)⟩
 refine al 11 j (aw (C.ak (b:=az) a) j) (aq 2 j (cQ 40 j (λO=>?_) (λO=>?_)));refine al 3 j (aw (C.ak (b:=az) a) j) (cm 3 j j (λN=>?_) (λN=>?_))
 .refine aq 2 j (cP (c:=dd.cs.toArray) j j j (λ_=>by kernel_rfl) ?_);refine ck 0 (a.bc i) j j j j j (λw a=>?_);have a:=C.whole (U:=(dd:bA).cs) a j;have a:C o f (bD i dd::_) w:=a;refine bI 1 j ⟨_,dp results37 j j j j (bp (C.ak (b:=i) a)),?_⟩
  have v:e.gH n=(e,dd,7):=by
   unfold bG.gH;rw [aI (by rw [show e.known=true from by simpa using y];decide),L];exact a6 ⟨by simpa using O,by first|(have:=N;omega)|(have:=of_decide_eq_true X;omega)⟩
  rw [v];have a:C o f [bC az e (ab d),ax 239 d ah I,H1,dV aN q pu,s,t] w:=a.as;exact⟨j,_,S,C.perm (A:=[bC az e (ab d),ax 239 d ah I,H1,dV aN q pu,s,t]) a (by simp)⟩
 have Q:e.dg=false->e.last<100:=λbr=>by
  first|(exact absurd br (by rw [show e.dg=true from by simpa using O];decide))|(have:=N;omega)|(have:=of_decide_eq_false X;omega)
 refine al 6 j (aw (C.ak (b:=az) a) j) ?_;rotate_left
 have Q:e.dg=false->e.last<100:=λbr=>by
  first|(exact absurd br (by rw [show e.dg=true from by simpa using O];decide))|(have:=N;omega)|(have:=of_decide_eq_false X;omega)
 refine al 14 j (aw (C.ak (b:=az) a) j) ?_;rotate_left
 all_goals
  refine al 7 j (aw (C.ak (b:=az) a) j) (bm 1 j j (λP=>?_) (λP=>?_));have ap:e.last<100:=Q (by simpa using P);refine bq 2 j j j (qs (by omega) (by omega)) ?_;have p:e.prod=e.prod/\e.b5=e.b5/\e.last=e.last:=⟨j,j,j⟩;have a:C o f ([bC az e (ab d)]++_) _:=a.front;have a:=a.drew;refine bw 2 j (λw=>∃D ae,(D.prod=e.prod/\D.b5=e.b5/\D.last=e.last)/\C o f ([bC az D (ab d)]++ae) w) ⟨_,_,p,a⟩ (iW 8 (ad e.f9) j (aH ad (show e.last+1=e.f9 by unfold bG.f9;rw [if_neg (by rw [show e.dg=false from by simpa using P];decide)])) ?_);rotate_left
  have p:e.prod=e.prod/\e.b5=e.b5/\e.last=e.last:=⟨j,j,j⟩;have a:C o f ([bC az e (ab d)]++_) _:=a.front;have a:=a.drew;refine bw 2 j (λw=>∃D ae,(D.prod=e.prod/\D.b5=e.b5/\D.last=e.last)/\C o f ([bC az D (ab d)]++ae) w) ⟨_,_,p,a⟩ (iW 8 (ad e.f9) j (aH ad (show e.last=e.f9 by unfold bG.f9;rw [if_pos (by simpa using P)])) ?_);rotate_left
  all_goals
   refine af 0 4 j (bT 4 j (λw⟨_,_,p,a⟩=>aw (C.ak (b:=az) a) (aH (λz=>some (ad z)) p.1)) (af 5 3 j (bT 8 j (λw⟨_,_,p,a⟩=>aw (C.ak (b:=az) a) (aH (λz=>some (ad z)) p.2.1)) (af 9 2 j (aT 11 j (λw _=>e1 (c:=(⟨2,0,0,[],e.prod,e.b5,e.f9,n,false⟩:bA).cs.toArray) j (λ_=>by kernel_rfl)) (aO 12 16 j j ?_ ?_))))));have x:=bG.sH e (⟨2,0,0,[],e.prod,e.b5,e.f9,n,false⟩:bA);obtain⟨g,m,F,l⟩:∃g m F,e.op (⟨2,0,0,[],e.prod,e.b5,e.f9,n,false⟩:bA)=(g,m,F):=⟨_,_,_,j⟩;rw [l] at x;have E:=qJ (az:=az) (e:=e) (u:=(ab d)) (I:=(⟨2,0,0,[],e.prod,e.b5,e.f9,n,false⟩:bA)) aJ a.ours;rw [l] at E;refine bF j j j E (λw K=>?_);have a:=a.b3 K;have p:g.prod=e.prod/\g.b5=e.b5/\g.last=e.last:=⟨x.1,x.2.1,x.2.2.1⟩;have a:C o f ([bC az g (ab d)]++_) w:=a.front;refine ar ⟨⟨_,_,p,a⟩,?_⟩;refine af 13 3 j (aU 16 j (ex a j j (λJ w a=>?_)));have a:C o f (bD J dd::_) w:=a;have a:C o f ([bC az g (ab d)]++_) w:=a.front;refine ar ⟨⟨_,_,p,a⟩,?_⟩;rotate_left
   refine ex a j j (λJ w a=>?_);have a:C o f (bD J dd::_) w:=a;have a:C o f ([bC az e (ab d)]++_) w:=a.front;refine ar ⟨⟨_,_,p,a⟩,?_⟩;refine aU 12 j ?_;have x:=bG.sH e (⟨2,0,0,[],e.prod,e.b5,e.f9,n,false⟩:bA);obtain⟨g,m,F,l⟩:∃g m F,e.op (⟨2,0,0,[],e.prod,e.b5,e.f9,n,false⟩:bA)=(g,m,F):=⟨_,_,_,j⟩;rw [l] at x;have E:=qJ (az:=az) (e:=e) (u:=(ab d)) (I:=(⟨2,0,0,[],e.prod,e.b5,e.f9,n,false⟩:bA)) aJ a.ours;rw [l] at E;refine bF j j j E (λw K=>?_);have a:=a.b3 K;have p:g.prod=e.prod/\g.b5=e.b5/\g.last=e.last:=⟨x.1,x.2.1,x.2.2.1⟩;have a:C o f ([bC az g (ab d)]++_) w:=a.front;refine ar ⟨⟨_,_,p,a⟩,?_⟩;refine af 13 3 j ?_;rotate_left
   all_goals
    refine aU 17 j (c4 (a.bc J) j j j j j bJ (λw a=>?_));have a:=C.whole (U:=m.cs) a j;have a:C o f (bD J m::_) w:=a;have a:C o f ([bC az g (ab d)]++_) w:=a.front;refine ar ⟨⟨_,_,p,a⟩,?_⟩;refine af 18 1 j (bK (bm 5 j j (λR=>?_) (λR=>?_)))
    .refine dB 8 (a.bc az) j j j j (λw a=>?_);have a:C o f (bC az {g with last:=e.f9} (ab d)::_) w:=a;refine dB 2 (a.bc az) j j j j (λw a=>?_);have a:C o f (bC az {g with last:=e.f9,dg:=true} (ab d)::_) w:=a;refine dB 2 (a.bc aN) j j j j (λw a=>?_);have a:C o f (dV aN ({q with begun:=e.f9}) pu::_) w:=a;refine bN 2 (U:=m.cs) j j j (bp (C.ak (b:=J) a)) (ck 1 (a.bc i) j j j j j (λw a=>?_));have a:=C.whole (U:=m.cs) a j;have a:C o f (bD i m::_) w:=a;refine bI 1 j ⟨_,dp results37 j j j j (bp (C.ak (b:=i) a)),?_⟩;have V:F=0:=dY.1 R
     have v:e.gH n=({g with last:=e.f9,dg:=true,parts:=b9 e.parts n ({q with begun:=e.f9})},m,F):=by
      unfold bG.gH;rw [aI (by rw [show e.known=true from by simpa using y];decide),L];dsimp only;rw [aI (λh=>absurd h.2 (by have:=Q h.1;omega))];unfold bG.op at l;split
      .rename_i h;rw [a6 h] at l;cases l;cases V
      .rename_i h;rw [aI h] at l;cases l;rfl
     rw [v];have a:C o f [bC az {g with last:=e.f9,dg:=true} (ab d),ax 239 d ah I,H1,dV aN ({q with begun:=e.f9}) pu,s,t] w:=a.as;exact⟨j,_,⟨_,_,⟨d,ah,I,W,_,j,hm,an ({q with begun:=e.f9}) _ ⟨aN,pu,s,j,ac,j⟩,j⟩,j⟩,C.perm (A:=[bC az {g with last:=e.f9,dg:=true} (ab d),ax 239 d ah I,H1,dV aN ({q with begun:=e.f9}) pu,s,t]) a (by simp)⟩
    refine bN 3 (U:=m.cs) j j j (bp (C.ak (b:=J) a)) (ck 1 (a.bc i) j j j j j (λw a=>?_));have a:=C.whole (U:=m.cs) a j;have a:C o f (bD i m::_) w:=a;refine bI 1 j ⟨_,dp results37 j j j j (bp (C.ak (b:=i) a)),?_⟩;have V:F≠0:=by simpa using R
    have v:e.gH n=(g,m,F):=by
     unfold bG.gH;rw [aI (by rw [show e.known=true from by simpa using y];decide),L];dsimp only;rw [aI (λh=>absurd h.2 (by have:=Q h.1;omega))];unfold bG.op at l;split
     .rename_i h;rw [a6 h] at l;cases l;rfl
     .rename_i h;rw [aI h] at l;cases l;exact absurd j V
    rw [v];have a:C o f [bC az g (ab d),ax 239 d ah I,H1,dV aN q pu,s,t] w:=a.as;exact⟨j,_,⟨_,_,⟨d,ah,I,W,_,j,hm,show c6 nP W g.parts (H1++((dV aN q pu++s)++t)) from x.2.2.2.2.symm▸aa,j⟩,j⟩,C.perm (A:=[bC az g (ab d),ax 239 d ah I,H1,dV aN q pu,s,t]) a (by simp)⟩
def eU:eg:=⟨0,0,0,0,[]⟩
def bG.ih(e:bG)(q:hi)(x:List UInt8):eg:=⟨e.prod,e.b5,e.last,q.next,x⟩
def bG.record(e:bG)(n:Int)(x:List UInt8):bG×eg×Int:=match aZ e.parts n with
 |none=>(e,eU,6)
 |some q=>if e.dg=false\/q.begun≠e.last then(e,eU,6)
  else match q.out with
   |some r=>(e,r,0)
   |none=>if 200<x.length then(e,eU,1) else if 1048576<q.next then(e,eU,7)
    else({e with parts:=b9 e.parts n {q with next:=q.next+1,out:=some (e.ih q x)}},e.ih q x,0)
theorem xQ{o:World}{r:eg}{B:Option Addr}{aV:Nat}(i:Rd o B (aG r.x))(h:r.x.length<=1000000000):Calls prog 131 #[.agg (rcc r (.slice B r.x.length aV)).toArray] o λz w=>∃u G,z= .agg (rcc r u).toArray/\dt u r.x G/\C o [] [G] w:=by
 have a:Own [] o:=C.start o;refine e9 func131 (bM 2 a j j (λay w a=>cl 0 a j (λaO w a=>?_)));have a:C o [] [R aO (rcc eU (.slice none 0 0)).toArray 169,R ay (rcc r (.slice B r.x.length aV)).toArray 169] w:=a;refine al 3 j (aw (C.ak (b:=ay) a) j) (bh 0 (g3 (c:=aV) (a.rd i (bX.of_nil _ _)) h) j (λz w⟨f,e,g⟩=>?_));obtain⟨d,bR,rfl,_,_⟩:=e.form;have a:=a.aM g;refine dB 1 (a.bc ay) j j j j (λw a=>?_);have a:C o [] (R ay (rcc r (.slice d r.x.length bR)).toArray 169::_) w:=a;refine bN 2 (U:=rcc r (.slice d r.x.length bR)) j j j (bp (C.ak (b:=ay) a)) (ck 0 (a.bc aO) j j j j j (λw a=>?_));have a:=C.whole (U:=rcc r (.slice d r.x.length bR)) a j;have a:C o [] (R aO (rcc r (.slice d r.x.length bR)).toArray 169::_) w:=a;refine bI 0 j ⟨_,hf results131 j j j (a.bE),?_⟩;exact⟨.slice d r.x.length bR,f,j,e,a.as⟩
theorem z9{o:World}{az:Nat}{e:bG}{G:List Chunk}{n:Int}{x:List UInt8}{bb:Option Addr}{hb:Nat}(aF:h1 az e G)(aB:∀p∈e.parts,0<=p.2.next/\∀r,p.2.out=some r->r.x.length<=200)(aD:Rd o bb (aG x))(ag:bX bb (aG x) (au [G]))(a:Own [G] o):Calls prog 69 #[ab az,ad n,.slice bb x.length hb] o λz w=>∃u an,z= .tuple #[.agg (rcc (e.record n x).2.1 u).toArray,ad (e.record n x).2.2]/\dt u (e.record n x).2.1.x an/\∃ai,h1 az (e.record n x).1 ai/\C o (au [G]) [ai,an] w:=by
 obtain⟨u,bQ,ay,rfl⟩:=aF;have J:h1 az e (bC az e u++bQ):=⟨u,bQ,ay,j⟩;obtain⟨f,av⟩:∃f,f=au [bC az e u++bQ]:=⟨_,j⟩;rw [<-av] at ag⊢;have a:C o f [bC az e u++bQ] o:=av▸a;obtain⟨d,ah,I,aL,H,rfl,hm,am,rfl⟩:=ay;have a:C o f [bC az e (ab d),ax 239 d ah I,H] o:=C.perm (B:=[bC az e (ab d),ax 239 d ah I,H]) a (by simp);refine e9 func69 (cl 2 a j (λg w a=>?_));have a:C o f [R g (rcc eU (.slice none 0 0)).toArray 169,bC az e (ab d),ax 239 d ah I,H] w:=a;refine al 13 j (aw (C.ak (b:=az) a) j) (aq 1 j ?_);rcases zQ e.parts n with m|⟨q,m,K⟩|⟨q,ro,m,K⟩
 .have X:=nm (k:=n) (dE.own (a.to (ax 239 d ah I)) hm);refine bh 0 X j (λr w⟨D,y⟩=>?_);have a:=a.aM y;have aH:=am.nv m;simp only [aH,rD,rE] at D;subst D;have a:C o f [R g (rcc eU (.slice none 0 0)).toArray 169,bC az e (ab d),ax 239 d ah I,H] w:=a.as;have a:C o f ([bC az e (ab d)]++_) _:=a.front;have a:=a.drew;refine bw 8 j (λw=>∃ae,C o f ([bC az e (ab d)]++ae) w) ⟨_,a⟩ (af 0 21 j (bK (aq 3 j (cP (c:=(rcc eU (.slice none 0 0)).toArray) j j j (λ_=>by kernel_rfl) ?_))));refine ck 0 (a.bc g) j j j j j (λw a=>?_);have a:=C.whole (U:=rcc eU (.slice none 0 0)) a j;have a:C o f (R g (rcc eU (.slice none 0 0)).toArray 169::_) w:=a;refine bI 1 j ⟨_,dp results69 j j j j (bp (C.ak (b:=g) a)),?_⟩
  have l:e.record n x=(e,eU,6):=by
   unfold bG.record;rw [m];all_goals rfl
  rw [l];have a:C o f [bC az e (ab d),ax 239 d ah I,H,[]] _:=a.empty.as;exact⟨.slice none 0 0,[],j,Row.nil _ _,_,J,C.perm (A:=[bC az e (ab d),ax 239 d ah I,H,[]]) a (by simp)⟩
 .have X:=nm (k:=n) (dE.own (a.to (ax 239 d ah I)) hm);refine bh 0 X j (λr w⟨D,y⟩=>?_);have a:=a.aM y;obtain⟨v0,H1,aE,i,aj,rfl,⟨aN,pu,Z,rfl,O,rfl⟩,aC⟩:=am.find m;simp only [aj,l8,oI] at D;subst D;obtain⟨rfl,rfl⟩:pu= .pointer none/\Z=[]:=by unfold mT at O;rw [K] at O;exact O
  have a:C o f [R g (rcc eU (.slice none 0 0)).toArray 169,bC az e (ab d),ax 239 d ah I,H1,dV aN q (.pointer none),[],i] w:=C.perm (A:=[R g (rcc eU (.slice none 0 0)).toArray 169,bC az e (ab d),ax 239 d ah I,H1++((dV aN q (.pointer none)++([]))++i)]) a.as (by simp);have a:C o f ([bC az e (ab d),dV aN q (.pointer none)]++_) _:=a.front;have a:=a.drew;refine bw 8 j (λw=>∃ae,C o f ([bC az e (ab d),dV aN q (.pointer none)]++ae) w) ⟨_,a⟩ (af 0 6 j (a8 6 j a1 j (af 7 3 j (ef 33 j (λN=>?_) (λN=>?_)))))
  .refine af 10 11 j (bK (aq 3 j (cP (c:=(rcc eU (.slice none 0 0)).toArray) j j j (λ_=>by kernel_rfl) ?_)));refine ck 0 (a.bc g) j j j j j (λw a=>?_);have a:=C.whole (U:=rcc eU (.slice none 0 0)) a j;have a:C o f (R g (rcc eU (.slice none 0 0)).toArray 169::_) w:=a;refine bI 1 j ⟨_,dp results69 j j j j (bp (C.ak (b:=g) a)),?_⟩
   have l:e.record n x=(e,eU,6):=by
    unfold bG.record;rw [m];exact a6 (.inl (by simpa using N))
   rw [l];have a:C o f [bC az e (ab d),ax 239 d ah I,H1,dV aN q (.pointer none),[],i] _:=a.as;exact⟨.slice none 0 0,[],j,Row.nil _ _,_,J,C.perm (A:=[bC az e (ab d),ax 239 d ah I,H1,dV aN q (.pointer none),[],i]) a (by simp)⟩
  refine af 10 3 j (a8 13 j a1 j (af 14 3 j (a8 17 j a1 j (af 18 3 j (bK (bm 0 j j (λM=>?_) (λM=>?_)))))))
  .refine aq 2 j (cP (c:=(rcc eU (.slice none 0 0)).toArray) j j j (λ_=>by kernel_rfl) ?_);refine ck 0 (a.bc g) j j j j j (λw a=>?_);have a:=C.whole (U:=rcc eU (.slice none 0 0)) a j;have a:C o f (R g (rcc eU (.slice none 0 0)).toArray 169::_) w:=a;refine bI 1 j ⟨_,dp results69 j j j j (bp (C.ak (b:=g) a)),?_⟩
   have l:e.record n x=(e,eU,6):=by
    unfold bG.record;rw [m];exact a6 (.inr (by first|simpa using aa|simpa using M))
   rw [l];have a:C o f [bC az e (ab d),ax 239 d ah I,H1,dV aN q (.pointer none),[],i] _:=a.as;exact⟨.slice none 0 0,[],j,Row.nil _ _,_,J,C.perm (A:=[bC az e (ab d),ax 239 d ah I,H1,dV aN q (.pointer none),[],i]) a (by simp)⟩
  have Y:e.dg=true:=by simpa using N
  have W:q.begun=e.last:=by first|simpa using aa|simpa using M
  refine al 5 j (aw (C.ak (b:=aN) a) j) (cm 9 j j (λao=>?_) (λao=>?_))
  .refine aq 2 j (cP (c:=(rcc eU (.slice none 0 0)).toArray) j j j (λ_=>by kernel_rfl) ?_);refine ck 0 (a.bc g) j j j j j (λw a=>?_);have a:=C.whole (U:=rcc eU (.slice none 0 0)) a j;have a:C o f (R g (rcc eU (.slice none 0 0)).toArray 169::_) w:=a;refine bI 1 j ⟨_,dp results69 j j j j (bp (C.ak (b:=g) a)),?_⟩
   have l:e.record n x=(e,eU,1):=by
    unfold bG.record;rw [m];dsimp only;rw [aI (λh=>h.elim (λh=>by rw [show e.dg=true from Y] at h;cases h) (λh=>h W)),K];exact a6 (by omega)
   rw [l];have a:C o f [bC az e (ab d),ax 239 d ah I,H1,dV aN q (.pointer none),[],i] _:=a.as;exact⟨.slice none 0 0,[],j,Row.nil _ _,_,J,C.perm (A:=[bC az e (ab d),ax 239 d ah I,H1,dV aN q (.pointer none),[],i]) a (by simp)⟩
  refine al 5 j (aw (C.ak (b:=aN) a) j) (cm 2 j j (λap=>?_) (λap=>?_))
  .refine aq 2 j (cP (c:=(rcc eU (.slice none 0 0)).toArray) j j j (λ_=>by kernel_rfl) ?_);refine ck 0 (a.bc g) j j j j j (λw a=>?_);have a:=C.whole (U:=rcc eU (.slice none 0 0)) a j;have a:C o f (R g (rcc eU (.slice none 0 0)).toArray 169::_) w:=a;refine bI 1 j ⟨_,dp results69 j j j j (bp (C.ak (b:=g) a)),?_⟩
   have l:e.record n x=(e,eU,7):=by
    unfold bG.record;rw [m];dsimp only;rw [aI (λh=>h.elim (λh=>by rw [show e.dg=true from Y] at h;cases h) (λh=>h W)),K];dsimp only;rw [aI (by omega)];exact a6 (by omega)
   rw [l];have a:C o f [bC az e (ab d),ax 239 d ah I,H1,dV aN q (.pointer none),[],i] _:=a.as;exact⟨.slice none 0 0,[],j,Row.nil _ _,_,J,C.perm (A:=[bC az e (ab d),ax 239 d ah I,H1,dV aN q (.pointer none),[],i]) a (by simp)⟩
  have a:C o f ([bC az e (ab d),dV aN q (.pointer none)]++_) _:=a.front;have a:=a.drew;refine bw 2 j (λw=>∃ae,C o f ([bC az e (ab d),dV aN q (.pointer none)]++ae) w) ⟨_,a⟩ (af 0 3 j (a8 3 j a1 j (af 4 3 j (a8 7 j a1 j (af 8 3 j (a8 11 j a1 j (af 12 3 j (a8 15 j a1 j (af 16 1 j (aO 17 19 j j ?_ ?_))))))))));refine cN j j j (g3 (c:=hb) (a.rd aD ag) (by omega)) (λz w⟨S,V,y⟩=>?_);obtain⟨E,bR,rfl,_,_⟩:=V.form;have a:=a.aM y;have a:C o f ([bC az e (ab d),dV aN q (.pointer none)]++_) w:=a.front;refine ar ⟨⟨_,a⟩,?_⟩;refine aT 18 j (λw _=>e1 (c:=(rcc (e.ih q x) (.slice E x.length bR)).toArray) j (λ_=>by kernel_rfl)) (aU 19 j (ex a j j (λv w a=>?_)));have a:C o f (R v (rcc eU (.slice none 0 0)).toArray 169::_) w:=a;have a:C o f ([bC az e (ab d),dV aN q (.pointer none)]++_) w:=a.front;refine ar ⟨⟨_,a⟩,?_⟩;rotate_left
  refine ex a j j (λv w a=>?_);have a:C o f (R v (rcc eU (.slice none 0 0)).toArray 169::_) w:=a;have a:C o f ([bC az e (ab d),dV aN q (.pointer none)]++_) w:=a.front;refine ar ⟨⟨_,a⟩,?_⟩;refine aU 17 j (cN j j j (g3 (c:=hb) (a.rd aD ag) (by omega)) (λz w⟨S,V,y⟩=>?_));obtain⟨E,bR,rfl,_,_⟩:=V.form;have a:=a.aM y;have a:C o f ([bC az e (ab d),dV aN q (.pointer none)]++_) w:=a.front;refine ar ⟨⟨_,a⟩,?_⟩;refine aT 18 j (λw _=>e1 (c:=(rcc (e.ih q x) (.slice E x.length bR)).toArray) j (λ_=>by kernel_rfl)) ?_;rotate_left
  all_goals
   refine dy 20 j (c4 (a.bc v) j j j j j bJ (λw a=>?_));have a:=C.whole (U:=rcc (e.ih q x) (.slice E x.length bR)) a j;have a:C o f (R v (rcc (e.ih q x) (.slice E x.length bR)).toArray 169::_) w:=a;refine ar (cX (al 5 j (aw (C.ak (b:=aN) a) j) (bq 0 j j j (qs (by have:0<=q.next:=(aB _ (hF m)).1;have:=ap;omega) (by omega)) (dB 2 (a.bc aN) j j j j (λw a=>?_)))));have a:C o f (dV aN ({q with next:=q.next+1,out:=some (e.ih q x)}) (.pointer none)::_) w:=a;refine dB 5 (a.bc aN) j j j j (λw a=>?_);have a:C o f (dV aN ({q with next:=q.next+1,out:=some (e.ih q x)}) (ab v)::_) w:=a;refine bN 2 (U:=rcc (e.ih q x) (.slice E x.length bR)) j j j (bp (C.ak (b:=v) a)) ?_;obtain⟨_,_,ac,_,_,aK,_⟩:=Row.read V (a.holds (G:=S) (by simp));cases ac;refine bh 0 (xQ (r:=(e.ih q x)) (B:=E) (aV:=bR) aK (by have:=ao;show x.length<=_;omega)) j (λz w⟨aP,L,D,P,y⟩=>?_);subst D;obtain⟨Q,T,rfl,_,_⟩:=Row.form P;have a:=a.aM y;refine ck 0 (a.bc g) j j j j j (λw a=>?_);have a:=C.whole (U:=rcc (e.ih q x) (.slice Q x.length T)) a j;have a:C o f (R g (rcc (e.ih q x) (.slice Q x.length T)).toArray 169::_) w:=a;refine bI 1 j ⟨_,dp results69 j j j j (bp (C.ak (b:=g) a)),?_⟩
   have l:e.record n x=({e with parts:=b9 e.parts n ({q with next:=q.next+1,out:=some (e.ih q x)})},(e.ih q x),0):=by
    unfold bG.record;rw [m];dsimp only;rw [aI (λh=>h.elim (λh=>by rw [show e.dg=true from Y] at h;cases h) (λh=>h W)),K];dsimp only;rw [aI (by omega),aI (by omega)]
   rw [l];have a:C o f [bC az e (ab d),ax 239 d ah I,H1,dV aN ({q with next:=q.next+1,out:=some (e.ih q x)}) (ab v),R v (rcc (e.ih q x) (.slice E x.length bR)).toArray 169,S,i,L] _:=a.as;exact⟨_,L,j,P,_,⟨_,_,⟨d,ah,I,aL,_,j,hm,aC ({q with next:=q.next+1,out:=some (e.ih q x)}) _ ⟨aN,ab v,_,j,⟨v,(.slice E x.length bR),S,j,V,j⟩,j⟩,j⟩,j⟩,C.perm (A:=[bC az e (ab d),ax 239 d ah I,H1,dV aN ({q with next:=q.next+1,out:=some (e.ih q x)}) (ab v),R v (rcc (e.ih q x) (.slice E x.length bR)).toArray 169,S,i,L]) a (by simp)⟩
 have X:=nm (k:=n) (dE.own (a.to (ax 239 d ah I)) hm);refine bh 0 X j (λr w⟨D,y⟩=>?_);have a:=a.aM y;obtain⟨v0,H1,aE,i,aj,rfl,⟨aN,pu,Z,rfl,O,rfl⟩,aC⟩:=am.find m;simp only [aj,l8,oI] at D;subst D;obtain⟨b1,aS,ai,rfl,aA,rfl⟩:∃b u ai,pu=ab b/\dt u ro.x ai/\Z=R b #[ad ro.p,ad ro.e,ad ro.t,ad ro.s,u] 169++ai:=by unfold mT at O;rw [K] at O;exact O
 obtain⟨F,co,rfl,_,aQ⟩:=Row.form aA;have a:C o f [R g (rcc eU (.slice none 0 0)).toArray 169,bC az e (ab d),ax 239 d ah I,H1,dV aN q (ab b1),R b1 (rcc ro (.slice F ro.x.length co)).toArray 169,ai,i] w:=C.perm (A:=[R g (rcc eU (.slice none 0 0)).toArray 169,bC az e (ab d),ax 239 d ah I,H1++((dV aN q (ab b1)++(R b1 (rcc ro (.slice F ro.x.length co)).toArray 169++ai))++i)]) a.as (by simp);have a:C o f ([bC az e (ab d),dV aN q (ab b1)]++_) _:=a.front;have a:=a.drew;refine bw 8 j (λw=>∃ae,C o f ([bC az e (ab d),dV aN q (ab b1)]++ae) w) ⟨_,a⟩ (af 0 6 j (a8 6 j a1 j (af 7 3 j (ef 33 j (λN=>?_) (λN=>?_)))))
 .refine af 10 11 j (bK (aq 3 j (cP (c:=(rcc eU (.slice none 0 0)).toArray) j j j (λ_=>by kernel_rfl) ?_)));refine ck 0 (a.bc g) j j j j j (λw a=>?_);have a:=C.whole (U:=rcc eU (.slice none 0 0)) a j;have a:C o f (R g (rcc eU (.slice none 0 0)).toArray 169::_) w:=a;refine bI 1 j ⟨_,dp results69 j j j j (bp (C.ak (b:=g) a)),?_⟩
  have l:e.record n x=(e,eU,6):=by
   unfold bG.record;rw [m];exact a6 (.inl (by simpa using N))
  rw [l];have a:C o f [bC az e (ab d),ax 239 d ah I,H1,dV aN q (ab b1),R b1 (rcc ro (.slice F ro.x.length co)).toArray 169,ai,i] _:=a.as;exact⟨.slice none 0 0,[],j,Row.nil _ _,_,J,C.perm (A:=[bC az e (ab d),ax 239 d ah I,H1,dV aN q (ab b1),R b1 (rcc ro (.slice F ro.x.length co)).toArray 169,ai,i]) a (by simp)⟩
 refine af 10 3 j (a8 13 j a1 j (af 14 3 j (a8 17 j a1 j (af 18 3 j (bK (bm 0 j j (λM=>?_) (λM=>?_)))))))
 .refine aq 2 j (cP (c:=(rcc eU (.slice none 0 0)).toArray) j j j (λ_=>by kernel_rfl) ?_);refine ck 0 (a.bc g) j j j j j (λw a=>?_);have a:=C.whole (U:=rcc eU (.slice none 0 0)) a j;have a:C o f (R g (rcc eU (.slice none 0 0)).toArray 169::_) w:=a;refine bI 1 j ⟨_,dp results69 j j j j (bp (C.ak (b:=g) a)),?_⟩
  have l:e.record n x=(e,eU,6):=by
   unfold bG.record;rw [m];exact a6 (.inr (by first|simpa using aa|simpa using M))
  rw [l];have a:C o f [bC az e (ab d),ax 239 d ah I,H1,dV aN q (ab b1),R b1 (rcc ro (.slice F ro.x.length co)).toArray 169,ai,i] _:=a.as;exact⟨.slice none 0 0,[],j,Row.nil _ _,_,J,C.perm (A:=[bC az e (ab d),ax 239 d ah I,H1,dV aN q (ab b1),R b1 (rcc ro (.slice F ro.x.length co)).toArray 169,ai,i]) a (by simp)⟩
 have Y:e.dg=true:=by simpa using N
 have W:q.begun=e.last:=by first|simpa using aa|simpa using M
 refine al 5 j (aw (C.ak (b:=aN) a) j) (al 8 j (aw (C.ak (b:=aN) a) j) (bN 1 (U:=rcc ro (.slice F ro.x.length co)) j j j (bp (C.ak (b:=b1) a)) ?_));obtain⟨_,_,ac,_,_,aJ,_⟩:=Row.read aA (a.holds (G:=ai) (by simp));cases ac;refine bh 0 (xQ (r:=ro) (B:=F) (aV:=co) aJ (by have:=(aB _ (hF m)).2 _ K;omega)) j (λz w⟨aP,L,D,P,y⟩=>?_);subst D;have aR:=Row.one P;obtain⟨Q,T,rfl,_,_⟩:=Row.form P;have a:=a.aM y;refine ck 0 (a.bc g) j j j j j (λw a=>?_);have a:=C.whole (U:=rcc ro (.slice Q ro.x.length T)) a j;have a:C o f (R g (rcc ro (.slice Q ro.x.length T)).toArray 169::_) w:=a;refine bI 1 j ⟨_,dp results69 j j j j (bp (C.ak (b:=g) a)),?_⟩
 have l:e.record n x=(e,ro,0):=by
  unfold bG.record;rw [m];dsimp only;rw [aI (λh=>h.elim (λh=>by rw [show e.dg=true from Y] at h;cases h) (λh=>h W)),K]
 rw [l];have a:C o f [bC az e (ab d),ax 239 d ah I,H1,dV aN q (ab b1),R b1 (rcc ro (.slice F ro.x.length co)).toArray 169,ai,i,L] _:=a.as;exact⟨_,L,j,P,_,J,C.perm (A:=[bC az e (ab d),ax 239 d ah I,H1,dV aN q (ab b1),R b1 (rcc ro (.slice F ro.x.length co)).toArray 169,ai,i,L]) a (by simp)⟩
theorem CB{o:World}{g:am}{bg:Nat}{b:cy}{G:List Chunk}{r:eg}{B:Option Addr}{aV:Nat}(n:ju g bg b G)(s:b.log.ch.length<=1000000)(t:b.log.cZ.length<=1000000)(l:Rd o B (aG r.x))(f:bX B (aG r.x) (au [G]))(u:r.x.length<=aV)(a:Own [G] o):Calls prog 70 #[ab bg,.agg (rcc r (.slice B r.x.length aV)).toArray] o λz w=>z= .tuple #[ad (b.log.append r).2.1,ad (b.log.append r).2.2]/\∃ai,ju g bg {b with log:=(b.log.append r).1} ai/\C o (au [G]) [ai] w:=by
 obtain⟨c,L,M,V,h,rfl⟩:=n;obtain⟨d,k⟩:∃d,d=au [cj g bg c++(L++(M++V))]:=⟨_,j⟩;rw [<-k] at f⊢;have a:C o d [cj g bg c++(L++(M++V))] o:=k▸a;have a:=a.vR;refine a2 func70 (bM 2 a j j (λe w a=>?_));have a:C o d [R e (rcc r (.slice B r.x.length aV)).toArray 169,cj g bg c,L,M,V] w:=a;have a:C o d ([R e (rcc r (.slice B r.x.length aV)).toArray 169,cj g bg c]++_) _:=a.front;have a:=a.drew;refine bw 10 j (λw=>∃ae,C o d ([R e (rcc r (.slice B r.x.length aV)).toArray 169,cj g bg c]++ae) w) ⟨_,a⟩ (af 0 3 j (a8 3 j a1 j (aT 4 j (λw⟨_,a⟩=>c3 (U:=rcc r (.slice B r.x.length aV)) j j j (bp (C.ak (b:=e) a))) (aU 5 j ?_))));have a:C o d (L::_) _:=a.to L;have p:=CC (r:=r) (B:=B) (aV:=aV) h.log s t (a.rd l f) ((a.apart l f).sub (fI (by simp))) u a.ours;refine bF j j j p (λw⟨i,m,q⟩=>?_);have a:=a.b3 q;have a:C o d ([R e (rcc r (.slice B r.x.length aV)).toArray 169,cj g bg c]++_) w:=a.front;refine ar ⟨⟨_,a⟩,?_⟩;refine af 6 4 j (bK (ao 0 j j ?_));have a:C o d [cj g bg c,i,M,V] _:=a.as;exact⟨j,_,⟨c,i,M,V,⟨m,h.acc,h.aE⟩,j⟩,a.k8⟩
theorem CV{o:World}{p:Value}{l:List aW}{lost:Nat}{G:List Chunk}(D:g7 p l lost G)(g:Holds o G){i:Nat}(u:i<l.length):Calls prog 77 #[p,.int .i64 i] o λr w=>∃(q:aB)(t:List Chunk),r= .tuple #[.agg q.cs.toArray,.bool true]/\q.P=l[i]/\fF q t/\C o [] [t] w:=by
 have a:Own [] o:=C.start o;obtain⟨b,v,b0,ag,aA,rfl,rfl,E,k,rfl⟩:=D.open;have m:i<b0.length:=by rw [fB] at u;exact u
 have s:=k.tag b0[i] (et m);have F:o.heap[b]? =some (.cells #[v,ad 512,ad lost] 150 (0,0)):=g.left.head;rw [rK];refine e9 func77 (cl 2 a j (λc w a=>?_));have a:C o [] [bi c dK] w:=a;have H:=xj E k.tag (a.cg F) (g.right.left.st a) m;refine bo 14 H j (λw I=>?_);have a:=a.aM I;refine cl 3 a j (λd w a=>?_);have a:C o [] (bi d dK::_) w:=a;refine ck 0 (a.bc d) j j j (by simpa using(b0[i]).one) (by rw [List.size_toArray];exact(b0[i]).bW s) (λw a=>?_);have a:=C.whole (U:=(b0[i]).cs) a (by rw [(b0[i]).bW s];rfl);have a:C o [] (bi d (b0[i])::_) w:=a;refine bN 3 (U:=b0[i].cs) j j (b0[i].bW s) (bp (C.ak (b:=d) a)) ?_;obtain⟨y,x⟩:=k.read (g.right.right.st a) b0[i] (et m);refine bh 0 (xP y x) j (λr w⟨q,e,f,K,J,z,aa⟩=>?_);subst K;have B:=fF.sF J z y x;have n:q.tag.length=32:=by obtain⟨_,_,_,_,h,_⟩:=B;exact h
 have a:=a.aM aa;refine ck 1 (a.bc c) j j j (by simpa using(q).one) (by rw [List.size_toArray];exact(q).bW n) (λw a=>?_);have a:=C.whole (U:=(q).cs) a (by rw [(q).bW n];rfl);have a:C o [] (bi c (q)::_) w:=a;refine bI 1 j ⟨_,dp (U:=q.cs) results77 j j j (q.bW n) (bp (C.ak (b:=c) a)),?_⟩;have a:C o [] [e,f] w:=a.as;exact⟨q,e++f,j,z,B,C.perm (A:=[e,f]) a (by simp)⟩
theorem CY{o:World}{p:Value}{l:List aW}{lost:Nat}{G:List Chunk}(x:g7 p l lost G)(a:Own [G] o){i:Nat}(m:i<l.length):Calls prog 42 #[p,.int .i64 i] o λr w=>r= .bool (decide (l.length<512))/\∃ai,g7 p (if l.length<512 then l++[l[i]] else l) lost ai/\C o (au [G]) [ai] w:=by
 obtain⟨c,y⟩:∃c,c=au [G]:=⟨_,j⟩;rw [<-y];have a:C o c [G] o:=y▸a;have D:=x;obtain⟨b,v,b0,ag,aA,rfl,rfl,z,k,rfl⟩:=x.open;have I:i<b0.length:=by rw [fB] at m;exact m
 simp only [rK,fB];refine a2 func42 (bh 7 (CV D (a.holds (by simp)) m) j (λr w⟨q,e,H,B,t,aa⟩=>?_));subst H;rw [rK] at B;have u:q.tag.length=32:=by obtain⟨_,_,_,_,h,_⟩:=t;exact h
 have a:=a.aM aa;refine cl 3 a j (λd w a=>?_);have a:C o c (bi d dK::_) w:=a;refine ck 0 (a.bc d) j j j (by simpa using(q).one) (by rw [List.size_toArray];exact(q).bW u) (λw a=>?_);have a:=C.whole (U:=(q).cs) a (by rw [(q).bW u];rfl);have a:C o c (bi d (q)::_) w:=a;have a:C o c ([bi d q]++_) _:=a.front;have a:=a.drew;refine bw 2 j (λw=>∃ae,C o c ([bi d q]++ae) w) ⟨_,a⟩ (af 0 5 j (aT 5 j (λw⟨_,a⟩=>c3 (U:=q.cs) j j (q.bW u) (bp (C.ak (b:=d) a))) (aU 6 j ?_)));have a:C o c [fh b v lost,ag,aA,bi d q,e] _:=C.perm (A:=[fh b v lost++(ag++aA),bi d q,e]) a.as (by simp);have E:=z2 (b:=b) (lost:=lost) z k t (a.ours (cI:=[fh b v lost,ag]));refine bF j j j E (λw⟨v1,f,n,aa⟩=>?_);have a:=a.b3 aa;have a:C o c ([bi d q]++_) w:=a.front;refine ar ⟨⟨_,a⟩,?_⟩;refine af 7 2 j (bK (ao 0 j j (⟨j,?_⟩)));have g:C o c [fh b v1 lost,f,aA,e] _:=a.as;clear a;split at n
 .rename_i s;rw [a6 s];have F:(b0++[q]).map aB.P=b0.map aB.P++[b0[i].P]:=by rw [jU,List.map_cons,B];rfl
  rw [<-F];refine⟨_,g7.close (b0:=b0++[q]) (by rw [b4,List.length_singleton,qw];simpa using n) (k.app (fG.one t)),C.perm (A:=[fh b v1 lost,f,aA,e]) g (by simp)⟩
 rename_i s;rw [aI s];obtain⟨rfl,rfl⟩:=n;have g:C o c [fh b v1 lost,f,aA] _:=g.as;exact⟨_,g7.close z k,C.perm (A:=[fh b v1 lost,f,aA]) g (by simp)⟩
def k9(aL:List aW)(i:Int):List aF:=if 0<=i/\i<(aL.length:Int) then(aL[i.toNat]?.map aW.l).getD [] else []
def ix(aL:List aW)(use:List Int):List aF:=use.flatMap (k9 aL)
theorem vn{aL:List aW}{use:List Int}{i:Nat}(h:i<use.length):ix aL (use.take (i+1))=ix aL (use.take i)++k9 aL use[i]:=by
 unfold ix;rw [fu h,ma];simp
theorem FA{aL:List aW}{use:List Int}{i:Nat}(h:i<use.length):∃r,ix aL use=ix aL (use.take i)++(k9 aL use[i]++r):=by
 refine⟨ix aL (use.drop (i+1)),?_⟩;unfold ix;rw [<-dF,<-List.flatMap_singleton (f:=k9 aL) (x:=use[i]),<-ma,<-List.flatMap_append,<-List.take_succ_eq_append_getElem h,List.take_append_drop]
theorem FB{aL:List aW}{J:Nat}(h:J<aL.length):k9 aL (J:Int)=aL[J].l:=by
 unfold k9;rw [a6 ⟨by omega,by omega⟩];simp [h]
abbrev Fy(aL:List aW)(use:List Int)(pre:List aF)(x:aF):Prop:=∃r,ix aL use=pre++x::r
structure nL(bx:List Chunk)(aP:Option Addr)(us:List Value)(F:List Nat)(w:World):Prop where
 holds:Holds w bx
 off:∀c∈bx,c.1∉F
 rd:Rd w aP us
 ap:bX aP us F
section
variable {bx:List Chunk} {aP:Option Addr} {us:List Value} {F eJ:List Nat} {ae H:List (List Chunk)} {L:List Chunk} {o w aK:World}
theorem nL.st(h:nL bx aP us F w)(d:C w eJ ae aK)(a:∀b∈eJ,b∈F):nL bx aP us F aK:=
 ⟨h.holds.kept d (λc e f=>h.off c e (a _ f)),h.off,d.rd h.rd (h.ap.sub a),h.ap⟩
theorem Holds.lt(h:Holds w bx):∀c∈bx,c.1<w.heap.size:=λc a=>by
 have:=h c a;exact(gv.1 this).1
theorem Rd.Cy(h:Rd w aP us)(i:∀b∈F,w.heap.size<=b):bX aP us F:=λl a g k=>by
 cases us with
 |nil=>exact l j
 |cons v r=>
  obtain⟨b,d,c⟩:=h 0 v j;rw [g] at d;cases d;have m:=i _ k
  have n:a.block<w.heap.size:=by
   unfold World.cell? at c;have e:(a.add 0).block=a.block:=by unfold Addr.add;split<;>rfl
   rw [e] at c;cases f:w.heap[a.block]? with
   |none=>rw [f] at c;cases c
   |some I=>exact(gv.1 f).1
  omega
theorem C.snoc(h:C o F ae w)(a:C w [] [L] aK):C o F (ae++[L]) aK:=(h.aM a).perm (by simp only [g9,List.flatten_cons,List.flatten_nil,List.append_nil];exact List.perm_append_comm)
theorem nL.new(d:Holds o bx)(e:Rd o aP us)(a:C o [] ae w):nL bx aP us (au ae) w:=
 have aJ:∀b∈au ae,o.heap.size<=b:=λb f=>(a.own b f).elim (λh=>by cases h) id
 ⟨d.st a,λc g i=>absurd (d.lt c g) (by have:=aJ _ i;omega),a.rd e (bX.of_nil _ _),Rd.Cy e aJ⟩
end
theorem FC{o:World}{aL:List aW}{hZ aP:Option Addr}{gJ dT:Nat}{use:List Int}:Calls prog 89 #[.slice hZ aL.length gJ,.slice aP use.length dT] o λr w=>∃aO b,r= .func (.func 155) #[] #[ab b,ab aO]/\C o [] [R b #[.slice aP use.length dT] 29,R aO #[.slice hZ aL.length gJ] 59] w:=by
 have a:Own [] o:=C.start o;refine a2 func89 (bM 2 a j j (λaO w a=>bM 0 a j j (λb w a=>aq 3 j (gV j j j j ?_))));exact ao 1 j j ⟨aO,b,j,a⟩
theorem Fz{aO g:Nat}{aL:List aW}{bx:List Chunk}{hZ aP:Option Addr}{gJ dT:Nat}{use:List Int}(aj:cz (.slice hZ aL.length gJ) aL bx):Iter prog 155 #[ab g,ab aO] [R g #[.slice aP use.length dT] 29,R aO #[.slice hZ aL.length gJ] 59] (λae w=>nL bx aP (use.map bL) (au ([R g #[.slice aP use.length dT] 29,R aO #[.slice hZ aL.length gJ] 59]++ae)) w/\use.length<=maxLen/\aL.length<=maxLen/\use.length<=dT/\∀m∈aL,m.l.length<=1000) (λ_=>True) (λv:aF=> #[.agg v.cs.toArray]) (Fy aL use) (λxs=>xs=ix aL use):=by
 intro y X aX ae o a c x _ am aT aC;show Calls _ _ #[fN y,ab g,ab aO] o _;obtain⟨u,M⟩:∃u,u=au ([R g #[.slice aP use.length dT] 29,R aO #[.slice hZ aL.length gJ] 59]++ae):=⟨_,j⟩;rw [<-M] at x⊢;have a:C o u (R g #[.slice aP use.length dT] 29::R aO #[.slice hZ aL.length gJ] 59::ae) o:=M▸a;obtain⟨x,K,aU,aS,aV⟩:=x;obtain⟨b0,T,ag,aA,rfl,N,F⟩:=aj;have hlen:aL.length=b0.length:=by rw [<-T,fB]
 have az:∀q∈b0,q.cs.length=39:=λq aw=>q.bW (F.tag q aw)
 refine a2 func155 (al 2 j (a.cell j) ?_)
 refine cH 3 j (ct:=Nat×List (List Chunk)) (λi=>[(0,fN y),(1,ab g),(2,ab aO),(8,.slice aP use.length dT),(9,.int .i64 (use.length:Nat)),(10,.int .i64 (i.1:Nat))])
  (λi w=>i.1<=use.length/\X (ix aL (use.take i.1)) i.2 w/\C o u (R g #[.slice aP use.length dT] 29::R aO #[.slice hZ aL.length gJ] 59::i.2) w) (λi=>use.length-i.1) (0,ae) ⟨j,j,j,j,j,j,aY⟩ ⟨b6 _,c,a⟩ ?_
 rintro⟨i,ai⟩ w ⟨an,c,a⟩;dsimp only at an c a⊢;refine cm 4 j j (λY=>?_) (λY=>?_)
 .have n:i<use.length:=by omega
  have A:=x.st a (λb s=>s);refine aq 5 j (fz j j j j A.rd (v:=bL use[i]) (by rw [gZ,gN,cf n];rfl) n (λaK aQ ak=>?_));refine al 0 j ak (aq 7 j (cQ 16 j (λE=>?_) (λE=>?_)))
  .refine bq 8 j j j (cM i (by unfold maxLen at K;omega)) (bP 1 j (⟨(i+1,ai),⟨j,j,j,j,j,j,aY⟩,⟨n,?_,a⟩,by dsimp only;omega⟩));dsimp only;rw [vn n,show k9 aL use[i]=[] from aI (λh=>by have:=dj E;omega),gY];exact c
  refine al 1 j (C.f1 a|>.cell rfl) (cm 3 j j (λZ=>?_) (λZ=>?_))
  .refine bq 2 j j j (cM i (by unfold maxLen at K;omega)) (bP 1 j (⟨(i+1,ai),⟨j,j,j,j,j,j,aY⟩,⟨n,?_,a⟩,by dsimp only;omega⟩));dsimp only;rw [vn n,show k9 aL use[i]=[] from aI (λh=>by omega),gY];exact c
  refine al 3 j (C.f1 a|>.cell rfl) ?_;obtain⟨J,Q⟩:∃J:Nat,use[i]=J:=⟨use[i].toNat,by have:=dN E;omega⟩;have S:J<aL.length:=by omega
  have I:J<b0.length:=by omega
  obtain⟨_,_,e,_,_,W,_⟩:=Row.read N A.holds.left;simp only [oS] at e;obtain⟨rfl,_,rfl⟩:=e;refine aq 1 j (bS 23 (.int .i64 (J:Nat)) j (aH (Value.int .i64) Q) ?_);obtain⟨af,_,_,O,_⟩:=Row.block N (by omega);simp only [oS] at O;have L:=O.1;rw [L] at W;refine bS 22 (.slice (some ⟨af,0,none⟩) aL.length gJ) j (aH (λz=>Value.slice z aL.length gJ) L) (hM j j j j S ?_);obtain⟨t,av⟩:=F.read A.holds.right b0[J] (et I)
  have V:k9 aL use[i]=b0[J].l:=by
   rw [Q,FB S];have:aL[J]=b0[J].P:=by simp only [<-T,rK]
   rw [this]
  have ax:=flat_lit (f:=aB.cs) W az J I;refine al 1 j (by have h:=ax.cell (J:=6) (v:=.slice b0[J].B b0[J].l.length b0[J].d) (by simp [aB.cs]);rw [add_lit] at h;exact h) ?_
  refine cH 3 j (ct:=Nat×List (List Chunk)) (λk=>[(0,fN y),(1,ab g),(2,ab aO),(8,.slice aP use.length dT),(9,.int .i64 (use.length:Nat)),(10,.int .i64 (i:Nat)),(26,.slice b0[J].B b0[J].l.length b0[J].d),(27,.int .i64 (b0[J].l.length:Nat)),(28,.int .i64 (k.1:Nat))])
   (λk w=>k.1<=b0[J].l.length/\X (ix aL (use.take i)++b0[J].l.take k.1) k.2 w/\C o u (R g #[.slice aP use.length dT] 29::R aO #[.slice hZ aL.length gJ] 59::k.2) w) (λk=>b0[J].l.length-k.1) (0,ai) ⟨j,j,j,j,j,j,j,j,j,aY⟩ ⟨b6 _,by simpa using c,a⟩ ?_
  rintro⟨k,bn⟩ w ⟨aa,c,a⟩;dsimp only at aa c a⊢;refine cm 4 j j (λac=>?_) (λac=>?_)
  .have p:k<b0[J].l.length:=by omega
   have A:=x.st a (λb s=>s);obtain⟨t,_⟩:=F.read A.holds.right b0[J] (et I);have D:=t.aE b0[J].l[k] (et p);refine aq 5 j (fz j j j j t.l (v:=ad b0[J].l[k].k) (pD b0[J].l t.aE k p) p (λaN ah aR=>?_));refine bN 0 j j (b0[J].l[k].len D) (pE (ah▸t.l) t.aE k p) (cl 0 (C.start _) j (λbv w r=>ck 0 r j j j b0[J].l[k].one (b0[J].l[k].len D) (λw r=>?_)));have r:=C.whole (U:=b0[J].l[k].cs) r (by rw [b0[J].l[k].len D];rfl);have c:=am _ _ _ _ [] c r.bare (by simp);have a:=a.aM r;refine bN 3 (U:=b0[J].l[k].cs) j j (b0[J].l[k].len D) a.bE ?_;obtain⟨aJ,ay⟩:=FA (aL:=aL) n
   have aD:=aC (ix aL (use.take i)++b0[J].l.take k) b0[J].l[k] bn _ ⟨b0[J].l.drop (k+1)++aJ,by
    rw [ay,V,dF,<-List.cons_append,<-List.append_assoc (b0[J].l.take k),<-List.drop_eq_getElem_cons p,List.take_append_drop]⟩ c (C.jo (H:=[_,_,_]) a)
   refine jS j j j j aD (λb w⟨cu,aG,s⟩=>?_);have a:=C.jh (H:=[_,_,_]) a aG;refine bm 1 j j (λeS=>?_) (λeS=>?_)
   .refine ao 0 j j ?_;have G:b=false:=by cases b<;>first|rfl|exact absurd eS (by decide)
    subst G;exact⟨cu,a.drop,.inr (by simpa using s)⟩
   refine bq 2 j j j (cM k (by have:=av.l;omega)) (bP 1 j ?_);have G:b=true:=by cases b<;>first|rfl|exact absurd eS (by decide)
   subst G;refine⟨(k+1,cu),⟨j,j,j,j,j,j,j,j,j,aY⟩,⟨p,?_,a.drop⟩,by dsimp only;omega⟩;dsimp only;rw [fu p,<-dF];simpa using s
  refine bq 2 j j j (cM i (by unfold maxLen at K;omega)) (bP 1 j ?_);have ar:k=b0[J].l.length:=by omega
  rw [ar,gu] at c;refine⟨(i+1,bn),⟨j,j,j,j,j,j,aY⟩,⟨n,?_,a⟩,by dsimp only;omega⟩;dsimp only;rw [vn n,V];exact c
 refine ao 1 j j ?_;have ap:i=use.length:=by omega
 subst ap;rw [gu] at c;exact⟨ai,a,.inl ⟨_,j,c⟩⟩
structure ew where
 k:Int
 to:Int
 s:Int
 v:Int
 x:List UInt8
 c8:Int
 use:List Int
abbrev gq(l:ew)(X:Option Addr)(bR:Nat)(aP:Option Addr)(dT:Nat):List Value:=[ad l.k,ad l.to,ad l.s,ad l.v,.slice X l.x.length bR,ad l.c8,.slice aP l.use.length dT]
def ew.msg(l:ew)(f:Int)(U:List aF):aW:=⟨l.k,f,l.to,l.s,l.v,l.x,U,cL⟩
def ew.may(g:am)(f:Int)(l:ew):Bool:=(l.msg f []).may&&((l.k !=1)&&(decide (f<(g.keys.length:Int))&&decide (l.to<(g.keys.length:Int))))
def ew.aE(g:am)(f:Int)(aL:List aW)(l:ew):Option (List aF):=
 if l.k=6 then some [cS g 3 0 0 (bO l.x) f]
 else if l.k=3 then(if l.c8<1\/l.c8>3 then none else some [cS g l.c8 l.s l.v (bO l.x) f])
 else some ((ix aL l.use).take 10)
def aW.cr(g:am)(m:aW):aW:={m with tag:=g.cr m.f m.body}
def eT(g:am)(f:Int)(aL:List aW)(l:ew):Option aW:=if l.may g f=true then(l.aE g f aL).map λU=>(l.msg f U).cr g else none
abbrev ew.bl(l:ew)(f:Int)(X:Option Addr)(bR:Nat)(B:Option Addr)(U:List aF)(d:Nat):aB:=⟨l.k,f,l.to,l.s,l.v,X,l.x,bR,B,U,d,cL⟩
theorem ok_none{b:Bool}(h:((if b=true then(0:Int) else 1)==0)=false):b=false:=by cases b<;>simp_all
theorem zy{b:Bool}(h:((if b=true then(0:Int) else 1)==0)=true):b=true:=by cases b<;>simp_all
theorem ew.vp{g:am}{f:Int}{l:ew}(h:l.may g f=true):l.x.length<=200:=by
 unfold ew.may aW.may at h;simp only [d8,gd] at h;exact h.1.1.1.2
theorem sv{aL:List aW}(h:∀m∈aL,∀v∈m.l,v.ok)(use:List Int):∀v∈ix aL use,v.ok:=λv c=>by
 obtain⟨i,_,a⟩:=m0.1 c;unfold k9 at a;split at a
 .cases b:aL[i.toNat]? with
  |none=>rw [b] at a;cases a
  |some m=>rw [b] at a;exact h m (hk b) v a
 .cases a
theorem EX{o:World}{g:am}{f:Int}{l:ew}{X aP:Option Addr}{bR dT:Nat}(n:g.at o)(B:g.ok)(y:Rd o X (aG l.x)):Calls prog 85 #[g.p,ad f,.agg (gq l X bR aP dT).toArray] o λr w=>r= .bool (l.may g f)/\C o [] [] w:=by
 have a:Own [] o:=C.start o;refine a2 func85 (bM 2 a j j (λd w a=>?_));have a:C o [] [R d (gq l X bR aP dT).toArray 31] w:=a;refine al 4 j (aw (C.ak (b:=d) a) j) (al 2 j (aw (C.ak (b:=d) a) j) (al 1 j (aw (C.ak (b:=d) a) j) (al 1 j (aw (C.ak (b:=d) a) j) (al 1 j (aw (C.ak (b:=d) a) j) (cP (c:=(l.bl f X bR none [] 0).cs.toArray) j j j (λ_=>by kernel_rfl) ?_)))));have t:aB.ok (l.bl f X bR none [] 0) w:=⟨a.rd y (bX.of_nil _ _),Rd.nil _ _,(by intro v q;cases q),j⟩;refine bh 0 (x2 t) j (λr w⟨v,G,u,q,s⟩=>?_);subst u;have a:=a.aM s;have A:i3 (l.bl f X bR none [] 0)=(l.msg f []).may:=rfl;have a:C o [] ([R d (gq l X bR aP dT).toArray 31]++_) _:=a.front;have a:=a.drew;refine bw 6 j (λw=>∃ae,C o [] ([R d (gq l X bR aP dT).toArray 31]++ae) w) ⟨_,a⟩ (af 0 3 j (ef 27 j (λi=>?_) (λi=>?_)))
 .refine af 3 1 j (a8 4 j a1 j (af 5 3 j (ef 32 j (λk=>?_) (λk=>?_))))
  .refine af 8 2 j (aU 10 j (bF j j j (my (n.st a (am.off.nil g))) (λz e=>?_)));have e:=e.symm;subst e;refine ar ⟨⟨_,a⟩,?_⟩;refine af 11 3 j (ef 38 j (λm=>?_) (λm=>?_));refine af 14 1 j (a8 15 j a1 j (af 16 1 j (aU 17 j (bF j j j (my (n.st a (am.off.nil g))) (λz e=>?_)))));have e:=e.symm;subst e;refine ar ⟨⟨_,a⟩,?_⟩;refine af 18 3 j ?_;rotate_left
   refine af 14 7 j ?_;rotate_left
   all_goals
    refine bK (ao 0 j j (⟨aH Value.bool ?_,a.bare⟩));unfold ew.may;have h:(l.msg f []).may=true:=zy i;rw [h,k,m];rfl
  refine af 8 13 j (bK (ao 0 j j (⟨aH Value.bool ?_,a.bare⟩)));unfold ew.may;have h:(l.msg f []).may=true:=zy i;rw [h,k];rfl
 refine af 3 18 j (bK (ao 0 j j (⟨aH Value.bool ?_,a.bare⟩)));unfold ew.may;have h:(l.msg f []).may=false:=ok_none i;rw [h];rfl
theorem ew.mH(l:ew)(f:Int)(X:Option Addr)(bR:Nat)(B a:Option Addr)(U c:List aF)(d b:Nat):(l.bl f X bR B U d).cs.toArray.setIfInBounds 6 (.slice a c.length b)=(l.bl f X bR a c b).cs.toArray:=by
 apply fC;simp [aB.cs]
theorem er.lit{b:Nat}{c:aF}(h:c.ok):er (.slice (some ⟨b,0,none⟩) 1 1) [c] (R b c.cs.toArray 115):=by
 have a:=Row.full (e:=115) (size:=68) (b:=b) (n:=1) (cur:=c.cs.toArray) (by decide) (by rw [hy,c.len h]);have e:vcs [c]=c.cs:=by simp
 show Row 115 68 _ 1 (vcs [c]) _;rw [e];exact a
theorem y7{o:World}{g:am}{f:Int}{l:ew}{X aP hZ:Option Addr}{bR dT gJ:Nat}{aL:List aW}{bx:List Chunk}(Y:g.at o)(aa:g.ok)(ay:Rd o X (aG l.x))(bu:l.x.length<=bR)(hu:Rd o aP (l.use.map bL))(bg:l.use.length<=dT)(bs:l.use.length<=maxLen)(bd:cz (.slice hZ aL.length gJ) aL bx)(a2:Holds o bx)(bj:aL.length<=maxLen)(bk:∀m∈aL,m.l.length<=1000)(aV:∀m∈aL,∀v∈m.l,v.ok):Calls prog 47 #[g.p,ad f,.agg (gq l X bR aP dT).toArray,.slice hZ aL.length gJ] o λr w=>∃(q:aB)(aY:List Chunk),r= .tuple #[.agg q.cs.toArray,ad (if(eT g f aL l).isSome=true then 0 else 1)]/\(∀m,eT g f aL l=some m->q.P=m/\fF q aY)/\q.tag.length=32/\C o [] [aY] w:=by
 have a:Own [] o:=C.start o;refine j0 func47 (bM 2 a j j (λH w a=>cl 0 a j (λF w a=>?_)));have a:C o [] [bi F dK,R H (gq l X bR aP dT).toArray 31] w:=a;refine bN 6 (U:=gq l X bR aP dT) j j j (bp (C.ak (b:=H) a)) (bo 0 (EX (Y.st a (am.off.nil g)) aa (a.rd ay (bX.of_nil _ _))) j (λw I=>?_));have a:=a.aM I;refine bm 1 j j (λaC=>?_) (λaC=>?_)
 .refine aq 2 j (cP (c:=dK.cs.toArray) j j j (λ_=>by kernel_rfl) ?_);refine ck 0 (a.bc F) j j j (by simpa using(dK).one) (by rw [List.size_toArray];exact(dK).bW j) (λw a=>?_);have a:=C.whole (U:=(dK).cs) a (by rw [(dK).bW j];rfl);have a:C o [] (bi F (dK)::_) w:=a;refine bI 1 j ⟨.tuple #[.agg dK.cs.toArray,ad 1],λw N=>?_⟩;have a:=N.st a (cD _);refine⟨dp (U:=dK.cs) results47 j j j j (bp (C.ak (b:=F) a)),?_⟩;have M:eT g f aL l=none:=aI (by rw [show l.may g f=false from by simpa using aC];decide);rw [M];exact⟨dK,[],j,(by intro m hm;cases hm),j,a.bare.empty⟩
 have a:C o [] ([R H (gq l X bR aP dT).toArray 31]++_) _:=a.front;have a:=a.drew;have Z:l.may g f=true:=by simpa using aC
 have bC:l.x.length<=200:=ew.vp Z;refine bw 2 j (λw=>∃ae,C o [] ([R H (gq l X bR aP dT).toArray 31]++ae) w) ⟨_,a⟩ (af 0 1 j (a8 1 j a1 j (af 2 2 j (a8 4 j a1 j (af 5 1 j (a8 6 j a1 j (af 7 1 j (a8 8 j a1 j (af 9 1 j (a8 10 j a1 j (aO 11 13 j j ?_ ?_)))))))))));refine cN j j j (g3 (c:=bR) (a.rd ay (bX.of_nil _ _)) (by omega)) (λr w⟨E,O,I⟩=>?_);obtain⟨n,t,rfl,_,_⟩:=O.form;have a:=a.aM I;have a:C o [] ([R H (gq l X bR aP dT).toArray 31]++_) w:=a.front;refine ar ⟨⟨_,a⟩,?_⟩;refine aT 12 j (λw _=>e1 (c:=(l.bl f n t none [] 0).cs.toArray) j (λ_=>by kernel_rfl)) (aU 13 j (ex a j j (λD w a=>?_)));have a:C o [] (bi D dK::_) w:=a;have a:C o [] ([R H (gq l X bR aP dT).toArray 31]++_) w:=a.front;refine ar ⟨⟨_,a⟩,?_⟩;rotate_left
 refine ex a j j (λD w a=>?_);have a:C o [] (bi D dK::_) w:=a;have a:C o [] ([R H (gq l X bR aP dT).toArray 31]++_) w:=a.front;refine ar ⟨⟨_,a⟩,?_⟩;refine aU 11 j (cN j j j (g3 (c:=bR) (a.rd ay (bX.of_nil _ _)) (by omega)) (λr w⟨E,O,I⟩=>?_));obtain⟨n,t,rfl,_,_⟩:=O.form;have a:=a.aM I;have a:C o [] ([R H (gq l X bR aP dT).toArray 31]++_) w:=a.front;refine ar ⟨⟨_,a⟩,?_⟩;refine aT 12 j (λw _=>e1 (c:=(l.bl f n t none [] 0).cs.toArray) j (λ_=>by kernel_rfl)) ?_;rotate_left
 all_goals
  refine dy 14 j (c4 (a.bc D) j j j (by simpa using((l.bl f n t none [] 0)).one) (by rw [List.size_toArray];exact((l.bl f n t none [] 0)).bW j) bJ (λw a=>?_));have a:=C.whole (U:=((l.bl f n t none [] 0)).cs) a (by rw [((l.bl f n t none [] 0)).bW j];rfl);have a:C o [] (bi D ((l.bl f n t none [] 0))::_) w:=a;refine ar (cX (al 3 j (aw (C.ak (b:=H) a) j) (bo 0 (nH (a.rd ay (bX.of_nil _ _)) (by omega) bu) j (λw I=>?_))));have a:=a.aM I;refine cl 0 a j (λaz w a=>ck 0 a j j j (by simpa using fc (bO l.x)) (by rw [List.size_toArray,ds,e7]) (λw a=>?_));have a:=C.whole (U:=aG (bO l.x)) a (by rw [ds,e7];rfl);have a:C o [] [bi D (l.bl f n t none [] 0),R H (gq l X bR aP dT).toArray 31,bi F dK,E,R az (aG (bO l.x)).toArray 79] w:=a.as;refine al 4 j (aw (C.ak (b:=H) a) j) (bm 5 j j (λQ=>?_) (λQ=>?_))
  .refine bN 2 (U:=aG (bO l.x)) j j (by rw [ds,e7]) (bp (C.ak (b:=az) a)) (bo 1 (o6 (Y.st a (am.off.nil g)) aa (e7 _)) j (λw I=>?_));have a:=a.aM I;have S:(cS g 3 0 0 (bO l.x) f).ok:=iX _ _ _ _ _ _ (e7 _);refine gC (U:=(cS g 3 0 0 (bO l.x) f).cs) a j j j ((cS g 3 0 0 (bO l.x) f).len S) (by decide) (by decide) (λau w a=>?_);have a:C o [] (R au (cS g 3 0 0 (bO l.x) f).cs.toArray 115::_) w:=a;refine aq 1 j (cC (a.bc D) j j j j (by rw [hy,(l.bl f n t none [] 0).bW j];decide) (λw a=>?_));have a:=C.gr a (ew.mH l f n t none (some ⟨au,0,none⟩) [] [(cS g 3 0 0 (bO l.x) f)] 0 1);have a:C o [] (bi D (l.bl f n t (some ⟨au,0,none⟩) [(cS g 3 0 0 (bO l.x) f)] 1)::_) w:=a;obtain⟨B,d,z,U,ab,J,aS,K,a⟩:∃(B:Option Addr)(d:Nat)(z:List Chunk)(U:List aF),l.aE g f aL=some U/\er (.slice B U.length d) U z/\U.length<=10/\(∀v∈U,v.ok)/\C o [] [bi D (l.bl f n t B U d),R H (gq l X bR aP dT).toArray 31,bi F dK,E,z] w:=⟨some ⟨au,0,none⟩,1,_,[(cS g 3 0 0 (bO l.x) f)],by unfold ew.aE;rw [if_pos (by simpa using Q)],er.lit S,by simp,(by intro v T;rw [List.mem_singleton.1 T];exact S),a.as⟩;have aj:fF (l.bl f n t B U d) (E++z):=⟨E,z,j,⟨O,J⟩,j,K,⟨show l.x.length<=1000000 by omega,show U.length<=1000 by omega⟩⟩;refine bN 4 (U:=(l.bl f n t B U d).cs) j j ((l.bl f n t B U d).bW j) (bp (C.ak (b:=D) a)) ?_;have ai:=(aj.read (Holds.app (a.holds (G:=E) (by simp)) (a.holds (G:=z) (by simp)))).1;refine bh 0 (mg ai (show l.x.length<=_ by omega) (show U.length<=_ by omega)) j (λr w⟨bn,ag,I⟩=>?_);have a:=a.aM I
   have ah:(l.bl f n t B U d).body.length<=1000000:=by
    have aZ:=lo U K;have a0:=jH l.x (by omega);have ac:=gg [4,l.k,f,l.s,l.v];simp only [ez,gk] at ac;show(ea [4,l.k,f,l.s,l.v]++(hA l.x++jt U)).length<=_;simp only [b4];omega
   obtain⟨aX,g2,rfl,_,_,an,_⟩:=ag.read (a.holds (by simp));refine bo 0 (nD (Y.st a (am.off.nil g)) aa an ah (i:=f) (d:=g2)) j (λw I=>?_);have a:=a.aM I;refine aq 1 j (c4 (a.bc D) j j j (by simpa using fc (g.cr f (l.bl f n t B U d).body)) (by rw [List.size_toArray,ds,am.ec]) (by rw [List.size_toArray,(l.bl f n t B U d).bW j];decide) (λw a=>?_));have a:=C.gr a ((l.bl f n t B U d).ps (g.cr f (l.bl f n t B U d).body) (by rw [am.ec];rfl));have a:C o [] (bi D ({l.bl f n t B U d with tag:=g.cr f (l.bl f n t B U d).body}:aB)::_) w:=a;refine bN 2 (U:=({l.bl f n t B U d with tag:=g.cr f (l.bl f n t B U d).body}:aB).cs) j j (({l.bl f n t B U d with tag:=g.cr f (l.bl f n t B U d).body}:aB).bW (am.ec _ _ _)) (bp (C.ak (b:=D) a)) (ck 0 (a.bc F) j j j (by simpa using(({l.bl f n t B U d with tag:=g.cr f (l.bl f n t B U d).body}:aB)).one) (by rw [List.size_toArray];exact(({l.bl f n t B U d with tag:=g.cr f (l.bl f n t B U d).body}:aB)).bW (am.ec _ _ _)) (λw a=>?_));have a:=C.whole (U:=(({l.bl f n t B U d with tag:=g.cr f (l.bl f n t B U d).body}:aB)).cs) a (by rw [(({l.bl f n t B U d with tag:=g.cr f (l.bl f n t B U d).body}:aB)).bW (am.ec _ _ _)];rfl);have a:C o [] (bi F (({l.bl f n t B U d with tag:=g.cr f (l.bl f n t B U d).body}:aB))::_) w:=a;refine bI 1 j ⟨.tuple #[.agg ({l.bl f n t B U d with tag:=g.cr f (l.bl f n t B U d).body}:aB).cs.toArray,ad 0],λw N=>?_⟩;have a:=N.st a (cD _);refine⟨dp (U:=({l.bl f n t B U d with tag:=g.cr f (l.bl f n t B U d).body}:aB).cs) results47 j j j (({l.bl f n t B U d with tag:=g.cr f (l.bl f n t B U d).body}:aB).bW (am.ec _ _ _)) (bp (C.ak (b:=F) a)),?_⟩
   have M:eT g f aL l=some ((l.msg f U).cr g):=by
    unfold eT;rw [a6 Z,ab];rfl
   rw [M];have a:C o [] [E,z] w:=a.as;exact⟨({l.bl f n t B U d with tag:=g.cr f (l.bl f n t B U d).body}:aB),E++z,j,(λm hm=>by cases hm;exact⟨j,E,z,j,⟨O,J⟩,am.ec _ _ _,K,⟨show l.x.length<=1000000 by omega,show U.length<=1000 by omega⟩⟩),am.ec _ _ _,C.perm (A:=[E,z]) a (by simp)⟩
  refine bm 4 j j (λW=>?_) (λW=>?_);refine al 4 j (aw (C.ak (b:=H) a) j) (aq 2 j (cQ 65 j (λaH=>?_) (λaH=>?_)))
  .refine aq 7 j (cP (c:=dK.cs.toArray) j j j (λ_=>by kernel_rfl) ?_);refine ck 0 (a.bc F) j j j (by simpa using(dK).one) (by rw [List.size_toArray];exact(dK).bW j) (λw a=>?_);have a:=C.whole (U:=(dK).cs) a (by rw [(dK).bW j];rfl);have a:C o [] (bi F (dK)::_) w:=a;refine bI 1 j ⟨.tuple #[.agg dK.cs.toArray,ad 1],λw N=>?_⟩;have a:=N.st a (cD _);refine⟨dp (U:=dK.cs) results47 j j j j (bp (C.ak (b:=F) a)),?_⟩
   have M:eT g f aL l=none:=by
    unfold eT ew.aE;rw [a6 Z,aI (by simpa using Q),if_pos (by simpa using W),if_pos (.inl (of_decide_eq_true aH))];rfl
   rw [M];exact⟨dK,[],j,(by intro m hm;cases hm),j,a.bare.empty⟩
  refine al 1 j (aw (C.ak (b:=H) a) j) (cm 2 j j (λaN=>?_) (λaN=>?_))
  .refine aq 2 j (cP (c:=dK.cs.toArray) j j j (λ_=>by kernel_rfl) ?_);refine ck 0 (a.bc F) j j j (by simpa using(dK).one) (by rw [List.size_toArray];exact(dK).bW j) (λw a=>?_);have a:=C.whole (U:=(dK).cs) a (by rw [(dK).bW j];rfl);have a:C o [] (bi F (dK)::_) w:=a;refine bI 1 j ⟨.tuple #[.agg dK.cs.toArray,ad 1],λw N=>?_⟩;have a:=N.st a (cD _);refine⟨dp (U:=dK.cs) results47 j j j j (bp (C.ak (b:=F) a)),?_⟩
   have M:eT g f aL l=none:=by
    unfold eT ew.aE;rw [a6 Z,aI (by simpa using Q),if_pos (by simpa using W),if_pos (.inr aN)];rfl
   rw [M];exact⟨dK,[],j,(by intro m hm;cases hm),j,a.bare.empty⟩
  refine al 4 j (aw (C.ak (b:=H) a) j) (al 1 j (aw (C.ak (b:=H) a) j) (al 1 j (aw (C.ak (b:=H) a) j) (bN 0 (U:=aG (bO l.x)) j j (by rw [ds,e7]) (bp (C.ak (b:=az) a)) (bo 1 (o6 (Y.st a (am.off.nil g)) aa (e7 _)) j (λw I=>?_)))));have a:=a.aM I;have S:(cS g l.c8 l.s l.v (bO l.x) f).ok:=iX _ _ _ _ _ _ (e7 _);refine gC (U:=(cS g l.c8 l.s l.v (bO l.x) f).cs) a j j j ((cS g l.c8 l.s l.v (bO l.x) f).len S) (by decide) (by decide) (λav w a=>?_);have a:C o [] (R av (cS g l.c8 l.s l.v (bO l.x) f).cs.toArray 115::_) w:=a;refine aq 1 j (cC (a.bc D) j j j j (by rw [hy,(l.bl f n t none [] 0).bW j];decide) (λw a=>?_));have a:=C.gr a (ew.mH l f n t none (some ⟨av,0,none⟩) [] [(cS g l.c8 l.s l.v (bO l.x) f)] 0 1);have a:C o [] (bi D (l.bl f n t (some ⟨av,0,none⟩) [(cS g l.c8 l.s l.v (bO l.x) f)] 1)::_) w:=a;obtain⟨B,d,z,U,ab,J,aS,K,a⟩:∃(B:Option Addr)(d:Nat)(z:List Chunk)(U:List aF),l.aE g f aL=some U/\er (.slice B U.length d) U z/\U.length<=10/\(∀v∈U,v.ok)/\C o [] [bi D (l.bl f n t B U d),R H (gq l X bR aP dT).toArray 31,bi F dK,E,z] w:=⟨some ⟨av,0,none⟩,1,_,[(cS g l.c8 l.s l.v (bO l.x) f)],by unfold ew.aE;rw [if_neg (by simpa using Q),if_pos (by simpa using W),if_neg (λh=>h.elim (λh=>absurd h (of_decide_eq_false aH)) (λh=>absurd h aN))],er.lit S,by simp,(by intro v T;rw [List.mem_singleton.1 T];exact S),a.as⟩;rotate_left
  refine al 4 j (aw (C.ak (b:=H) a) j) (bh 0 (FC (o:=w) (aL:=aL) (hZ:=hZ) (aP:=aP) (gJ:=gJ) (dT:=dT) (use:=l.use)) j (λr w⟨a5,a7,br,I⟩=>?_));subst br;have bz:=(a2.st a).st I;have bA:=I.rd (a.rd hu (bX.of_nil _ _)) (bX.of_nil _ _);have a:=(a.aM I).empty;have a:C o [] [R a7 #[.slice aP l.use.length dT] 29,R a5 #[.slice hZ aL.length gJ] 59,bi D (l.bl f n t none [] 0),R H (gq l X bR aP dT).toArray 31,bi F dK,E,[]] w:=a.as;have a:C o [] ([R a7 #[.slice aP l.use.length dT] 29,R a5 #[.slice hZ aL.length gJ] 59]++[bi D (l.bl f n t none [] 0),R H (gq l X bR aP dT).toArray 31,bi F dK,E,[]]) w:=a
  refine j4 1 j (Fz bd) j (by have:=a.size;simpa using this) a j (λ_=>rfl) (by intro p a4;simp at a4;rcases a4 with rfl<;>rfl)
   (λpre ae=>∃B d z,ae=[bi D (l.bl f n t B pre d),R H (gq l X bR aP dT).toArray 31,bi F dK,E,z]/\er (.slice B pre.length d) pre z/\pre.length<=10/\∃r,ix aL l.use=pre++r) (λe ae=>match e with| .exit id=>id=1/\∃B d z,∃pre:List aF,ae=[bi D (l.bl f n t B pre d),R H (gq l X bR aP dT).toArray 31,bi F dK,E,z]/\er (.slice B pre.length d) pre z/\pre=(ix aL l.use).take 10|_=>False) ⟨none,0,[],j,Row.nil _ _,b6 _,_,j⟩ (λL aK bb=>⟨nL.new a2 hu (by rw [<-dF];exact a.snoc bb),bs,bj,bg,bk⟩) (λ_ _ _ _=>trivial) ?_ ?_ (λ_ _ h=>h.elim) ?_
  .rintro y pre x bv L bD ⟨rx,ax⟩ ⟨B,d,z,rfl,J,aQ,_⟩ a;have ao:x.ok:=sv aV l.use x (by rw [ax];simp);have a:=C.gy a;have bB:pre.length<(ix aL l.use).length:=by rw [ax];simp
   refine cl 1 a j (λaA w a=>ck 0 (a.bc aA) j j j (by simpa using x.one) (by rw [List.size_toArray];exact x.len ao) (λw a=>?_));have a:=C.whole (U:=x.cs) a (by rw [x.len ao];rfl);have a:C _ _ [R aA x.cs.toArray 115,bi D (l.bl f n t B pre d),R H (gq l X bR aP dT).toArray 31,bi F dK,E,z] w:=a.as;refine bI 0 j (⟨j,_,a,λL bE a=>?_⟩);have a:=C.gy a;refine al 5 j (aw (C.ak (b:=D) a) (show(l.bl f n t B pre d).cs.toArray[6]? =some (.slice B pre.length d) from aB.eu _)) (cm 2 j j (λaD=>?_) (λaD=>?_))
   .refine bI 0 j (⟨[bi D (l.bl f n t B pre d),R H (gq l X bR aP dT).toArray 31,bi F dK,E,z],a.as,j,B,d,z,pre,j,J,?_⟩);have bq:pre.length=10:=by omega
    rw [ax,<-bq,md]
   refine al 3 j (aw (C.ak (b:=D) a) (show(l.bl f n t B pre d).cs.toArray[6]? =some (.slice B pre.length d) from aB.eu _)) (bN 0 (U:=x.cs) j j (x.len ao) (bp (C.ak (b:=aA) a)) (gC (U:=x.cs) a j j j (x.len ao) (by decide) (by decide) (λba w a=>?_)));have aJ:=bp (C.ak (b:=ba) a);refine d9 (a.to z) J j j (by decide) j j j (m:=1) (news:=x.cs) (x.len ao) aJ (by intro u hu;exact List.all_eq_true.1 x.one u (by simpa using hu)) (by omega) (by unfold maxLen;have:=aD;omega) (λv2 ap w a3 a=>?_);obtain⟨V,dv,rfl,_,_⟩:=Row.form a3
   have bt:er (.slice V (pre++[x]).length dv) (pre++[x]) ap:=by
    show Row 115 68 _ (pre++[x]).length (vcs (pre++[x])) ap;rw [b4,List.length_singleton,tk];exact a3
   refine aq 1 j (cC (a.bc D) j j j j (by rw [hy,(l.bl f n t B pre d).bW j];decide) (λw a=>?_));have a:=C.gr a (show _=(l.bl f n t V (pre++[x]) dv).cs.toArray from by have:=ew.mH l f n t B V pre (pre++[x]) d dv;rw [b4,List.length_singleton] at this;exact this);have a:C _ _ (bi D (l.bl f n t V (pre++[x]) dv)::_) w:=a;refine bI 0 j (⟨[bi D (l.bl f n t V (pre++[x]) dv),R H (gq l X bR aP dT).toArray 31,bi F dK,E,ap],a.as,V,dv,ap,j,bt,by rw [b4,List.length_singleton];have:=aD;omega,⟨rx,by rw [ax,List.append_assoc];rfl⟩⟩)
  .rintro xs a9 w be ⟨B,d,z,rfl,J,aQ,_⟩ a;subst be;obtain⟨B,d,z,U,ab,J,aS,K,a⟩:∃(B:Option Addr)(d:Nat)(z:List Chunk)(U:List aF),l.aE g f aL=some U/\er (.slice B U.length d) U z/\U.length<=10/\(∀v∈U,v.ok)/\C o [] [bi D (l.bl f n t B U d),R H (gq l X bR aP dT).toArray 31,bi F dK,E,z] w:=⟨B,d,z,ix aL l.use,by unfold ew.aE;rw [if_neg (by simpa using Q),if_neg (by simpa using W),List.take_of_length_le aQ],J,aQ,(λv T=>sv aV l.use v T),a.as⟩;have aj:fF (l.bl f n t B U d) (E++z):=⟨E,z,j,⟨O,J⟩,j,K,⟨show l.x.length<=1000000 by omega,show U.length<=1000 by omega⟩⟩;refine bN 4 (U:=(l.bl f n t B U d).cs) j j ((l.bl f n t B U d).bW j) (bp (C.ak (b:=D) a)) ?_;have ai:=(aj.read (Holds.app (a.holds (G:=E) (by simp)) (a.holds (G:=z) (by simp)))).1;refine bh 0 (mg ai (show l.x.length<=_ by omega) (show U.length<=_ by omega)) j (λr w⟨bn,ag,I⟩=>?_);have a:=a.aM I
   have ah:(l.bl f n t B U d).body.length<=1000000:=by
    have aZ:=lo U K;have a0:=jH l.x (by omega);have ac:=gg [4,l.k,f,l.s,l.v];simp only [ez,gk] at ac;show(ea [4,l.k,f,l.s,l.v]++(hA l.x++jt U)).length<=_;simp only [b4];omega
   obtain⟨aX,g2,rfl,_,_,an,_⟩:=ag.read (a.holds (by simp));refine bo 0 (nD (Y.st a (am.off.nil g)) aa an ah (i:=f) (d:=g2)) j (λw I=>?_);have a:=a.aM I;refine aq 1 j (c4 (a.bc D) j j j (by simpa using fc (g.cr f (l.bl f n t B U d).body)) (by rw [List.size_toArray,ds,am.ec]) (by rw [List.size_toArray,(l.bl f n t B U d).bW j];decide) (λw a=>?_));have a:=C.gr a ((l.bl f n t B U d).ps (g.cr f (l.bl f n t B U d).body) (by rw [am.ec];rfl));have a:C o [] (bi D ({l.bl f n t B U d with tag:=g.cr f (l.bl f n t B U d).body}:aB)::_) w:=a;refine bN 2 (U:=({l.bl f n t B U d with tag:=g.cr f (l.bl f n t B U d).body}:aB).cs) j j (({l.bl f n t B U d with tag:=g.cr f (l.bl f n t B U d).body}:aB).bW (am.ec _ _ _)) (bp (C.ak (b:=D) a)) (ck 0 (a.bc F) j j j (by simpa using(({l.bl f n t B U d with tag:=g.cr f (l.bl f n t B U d).body}:aB)).one) (by rw [List.size_toArray];exact(({l.bl f n t B U d with tag:=g.cr f (l.bl f n t B U d).body}:aB)).bW (am.ec _ _ _)) (λw a=>?_));have a:=C.whole (U:=(({l.bl f n t B U d with tag:=g.cr f (l.bl f n t B U d).body}:aB)).cs) a (by rw [(({l.bl f n t B U d with tag:=g.cr f (l.bl f n t B U d).body}:aB)).bW (am.ec _ _ _)];rfl);have a:C o [] (bi F (({l.bl f n t B U d with tag:=g.cr f (l.bl f n t B U d).body}:aB))::_) w:=a;refine bI 1 j ⟨.tuple #[.agg ({l.bl f n t B U d with tag:=g.cr f (l.bl f n t B U d).body}:aB).cs.toArray,ad 0],λw N=>?_⟩;have a:=N.st a (cD _);refine⟨dp (U:=({l.bl f n t B U d with tag:=g.cr f (l.bl f n t B U d).body}:aB).cs) results47 j j j (({l.bl f n t B U d with tag:=g.cr f (l.bl f n t B U d).body}:aB).bW (am.ec _ _ _)) (bp (C.ak (b:=F) a)),?_⟩
   have M:eT g f aL l=some ((l.msg f U).cr g):=by
    unfold eT;rw [a6 Z,ab];rfl
   rw [M];have a:C o [] [E,z] w:=a.as;exact⟨({l.bl f n t B U d with tag:=g.cr f (l.bl f n t B U d).body}:aB),E++z,j,(λm hm=>by cases hm;exact⟨j,E,z,j,⟨O,J⟩,am.ec _ _ _,K,⟨show l.x.length<=1000000 by omega,show U.length<=1000 by omega⟩⟩),am.ec _ _ _,C.perm (A:=[E,z]) a (by simp)⟩
  rintro id a9 w bf a;obtain⟨rfl,B,d,z,pre,rfl,J,aR⟩:=bf;refine⟨_,j,?_⟩;obtain⟨B,d,z,U,ab,J,aS,K,a⟩:∃(B:Option Addr)(d:Nat)(z:List Chunk)(U:List aF),l.aE g f aL=some U/\er (.slice B U.length d) U z/\U.length<=10/\(∀v∈U,v.ok)/\C o [] [bi D (l.bl f n t B U d),R H (gq l X bR aP dT).toArray 31,bi F dK,E,z] w:=⟨B,d,z,pre,by unfold ew.aE;rw [if_neg (by simpa using Q),if_neg (by simpa using W),aR],J,by rw [aR,List.length_take];omega,(λv T=>sv aV l.use v (List.mem_of_mem_take (aR▸T))),a.as⟩;rotate_left
  all_goals
   have aj:fF (l.bl f n t B U d) (E++z):=⟨E,z,j,⟨O,J⟩,j,K,⟨show l.x.length<=1000000 by omega,show U.length<=1000 by omega⟩⟩;refine bN 4 (U:=(l.bl f n t B U d).cs) j j ((l.bl f n t B U d).bW j) (bp (C.ak (b:=D) a)) ?_;have ai:=(aj.read (Holds.app (a.holds (G:=E) (by simp)) (a.holds (G:=z) (by simp)))).1;refine bh 0 (mg ai (show l.x.length<=_ by omega) (show U.length<=_ by omega)) j (λr w⟨bn,ag,I⟩=>?_);have a:=a.aM I
   have ah:(l.bl f n t B U d).body.length<=1000000:=by
    have aZ:=lo U K;have a0:=jH l.x (by omega);have ac:=gg [4,l.k,f,l.s,l.v];simp only [ez,gk] at ac;show(ea [4,l.k,f,l.s,l.v]++(hA l.x++jt U)).length<=_;simp only [b4];omega
   obtain⟨aX,g2,rfl,_,_,an,_⟩:=ag.read (a.holds (by simp));refine bo 0 (nD (Y.st a (am.off.nil g)) aa an ah (i:=f) (d:=g2)) j (λw I=>?_);have a:=a.aM I;refine aq 1 j (c4 (a.bc D) j j j (by simpa using fc (g.cr f (l.bl f n t B U d).body)) (by rw [List.size_toArray,ds,am.ec]) (by rw [List.size_toArray,(l.bl f n t B U d).bW j];decide) (λw a=>?_));have a:=C.gr a ((l.bl f n t B U d).ps (g.cr f (l.bl f n t B U d).body) (by rw [am.ec];rfl));have a:C o [] (bi D ({l.bl f n t B U d with tag:=g.cr f (l.bl f n t B U d).body}:aB)::_) w:=a;refine bN 2 (U:=({l.bl f n t B U d with tag:=g.cr f (l.bl f n t B U d).body}:aB).cs) j j (({l.bl f n t B U d with tag:=g.cr f (l.bl f n t B U d).body}:aB).bW (am.ec _ _ _)) (bp (C.ak (b:=D) a)) (ck 0 (a.bc F) j j j (by simpa using(({l.bl f n t B U d with tag:=g.cr f (l.bl f n t B U d).body}:aB)).one) (by rw [List.size_toArray];exact(({l.bl f n t B U d with tag:=g.cr f (l.bl f n t B U d).body}:aB)).bW (am.ec _ _ _)) (λw a=>?_));have a:=C.whole (U:=(({l.bl f n t B U d with tag:=g.cr f (l.bl f n t B U d).body}:aB)).cs) a (by rw [(({l.bl f n t B U d with tag:=g.cr f (l.bl f n t B U d).body}:aB)).bW (am.ec _ _ _)];rfl);have a:C o [] (bi F (({l.bl f n t B U d with tag:=g.cr f (l.bl f n t B U d).body}:aB))::_) w:=a;refine bI 1 j ⟨.tuple #[.agg ({l.bl f n t B U d with tag:=g.cr f (l.bl f n t B U d).body}:aB).cs.toArray,ad 0],λw N=>?_⟩;have a:=N.st a (cD _);refine⟨dp (U:=({l.bl f n t B U d with tag:=g.cr f (l.bl f n t B U d).body}:aB).cs) results47 j j j (({l.bl f n t B U d with tag:=g.cr f (l.bl f n t B U d).body}:aB).bW (am.ec _ _ _)) (bp (C.ak (b:=F) a)),?_⟩
   have M:eT g f aL l=some ((l.msg f U).cr g):=by
    unfold eT;rw [a6 Z,ab];rfl
   rw [M];have a:C o [] [E,z] w:=a.as;exact⟨({l.bl f n t B U d with tag:=g.cr f (l.bl f n t B U d).body}:aB),E++z,j,(λm hm=>by cases hm;exact⟨j,E,z,j,⟨O,J⟩,am.ec _ _ _,K,⟨show l.x.length<=1000000 by omega,show U.length<=1000 by omega⟩⟩),am.ec _ _ _,C.perm (A:=[E,z]) a (by simp)⟩
def aW.j1(m:aW):Prop:=m.cR/\m.s<=63
abbrev ep(l:List aW):Prop:=∀m∈l,m.j1
theorem ep.nil:ep []:=by intro m hm;cases hm
theorem ep.app{a b:List aW}(c:ep a)(d:ep b):ep (a++b):=λm hm=>(dw.1 hm).elim (c m) (d m)
section
variable {g:am} {N:Nat} {s:aj}
theorem aj.As(h:s.ok g N){m:aW}{t:Int}(c:m.x.length<=200)(a:m.l.length<=10)(b:∀v∈m.l,v.ok):(s.jr g m t).j1:=⟨aj.nE c a b,h.slot.2⟩
theorem aj.w3(h:s.ok g N){m:aW}(c:m.x.length<=200)(a:m.l.length<=10)(b:∀v∈m.l,v.ok):ep (s.all g m):=λd hm=>by
 unfold aj.all at hm;obtain⟨t,_,rfl⟩:=dO.1 hm;exact aj.As h c a b
theorem aj.A9(h:s.ok g N)(k:Int)(x:List UInt8):ep (s.aE g k x).2:=
 aj.w3 h (b6 _) (by show 1<=10;omega) (λv a=>by rw [fT.1 a];exact iX _ _ _ _ _ _ (e7 _))
theorem aj.H0(b:g.ok)(h:s.ok g N){r:aj×List aW}(a:s.step g=some r):ep r.2:=by
 unfold aj.step at a;split at a
 .rename_i e;cases a;unfold aj.gT at e;cases br:(dc s.ay).findSome? λp=>s.fE g p.2 with
  |none=>rw [br] at e;cases e
  |some y=>rw [br] at e;cases e;exact ep.nil
 .split at a
  .rename_i e;cases a;unfold aj.gz at e;split at e
   .cases e
   .split at e
    .cases e
    .split at e
     .cases e;exact aj.A9 (s:={s with hU:=s.view}) {h with} 1 _
     .cases e
  .split at a
   .rename_i e;cases a;unfold aj.g4 at e;split at e
    .cases e
    .split at e
     .cases e
     .rename_i y he;cases e;have:=h.fE b (h.iv 1 s.view) he;exact aj.A9 (s:={s with comm:=s.view,fY:=s.view,dD:=y.1,c2:=y.2}) {h with dD:=this.1,c2:=this.2.1,lb:=this.2.2} 2 _
   .unfold aj.gS at a;split at a
    .cases a
    .split at a
     .cases a
     .rename_i y c;cases a;have:=h.gP c;exact aj.w3 h this.1 this.2.1 this.2.2
theorem aj.qy(b:g.ok):∀(k:Nat){N:Nat}{s:aj}{l:List aW},s.ok g N->ep l->ep (aj.go g k s l).2
 |0,_,_,_,_,a=>a
 |k+1,N,s,l,h,a=>by
  rw [aj.go];split
  .exact a
  .split
   .exact a
   .rename_i e5 b0 e;exact aj.qy b k (h.step b e) (a.app (aj.H0 b h e))
theorem aj.s8(a:g.ok)(h:s.ok g N):ep (s.steps g).2:=aj.qy a 5 h ep.nil
theorem aj.Ie(a:g.ok)(h:s.ok g N){m:aW}(hm:m.cR):ep (s.take g m).2:=by
 unfold aj.take;split
 .exact ep.nil
 .exact aj.s8 a (h.fm hm)
theorem aj.IQ(a:g.ok)(h:s.ok g N)(x:List UInt8):ep (s.hY g x).2:=by
 unfold aj.hY;split
 .exact ep.nil
 .split
  .rename_i b;exact aj.s8 (s:={s with want:=x}) a {h with want:=b.2}
  .exact aj.s8 a h
theorem aj.Ir(b:g.ok)(h:s.ok g N):ep (s.tick g).2:=by
 unfold aj.tick;split
 .exact ep.nil
 .rename_i aJ;have c:s.view<8:=by simp at aJ;omega
  refine ep.app ?_ (aj.s8 b (h.gs c));have a:aj.ok g N ({s with view:=s.view+1}:aj):={h with view:=⟨show 0<=s.view+1 by have:=h.view;omega,show s.view+1<=8 by omega⟩};unfold aj.gs;dsimp only;split
  .exact ep.nil
  .intro m hm;rw [fT.1 hm];exact aj.As a h.dD h.c2 h.lb
end
section
variable {g:am} {N M:Nat}
theorem xR(a:g.ok){c:Option aj}(h:∀r,c=some r->r.ok g M){m:aW}(hm:m.cR):ep (hc g c m).2:=by
 unfold hc;cases c with
 |none=>exact ep.nil
 |some r=>exact aj.Ie a (h r j) hm
theorem xU(a:g.ok){c:Option aj}(h:∀r,c=some r->r.ok g M)(x:List UInt8):ep (fR g c x).2:=by
 unfold fR;cases c with
 |none=>exact ep.nil
 |some r=>exact aj.IQ a (h r j) x
theorem DN(a:g.ok){c:Option aj}(h:∀r,c=some r->r.ok g M):ep (iE g c).2:=by
 unfold iE;cases c with
 |none=>exact ep.nil
 |some r=>exact aj.Ir a (h r j)
theorem aC.Gu(c:g.ok){a:aC×List aW}{p:Int×aW}(d:p.2.cR)(h:∀r,a.1.cur=some r->r.ok g M)(b:ep a.2):ep (aC.one g a p).2:=by
 unfold aC.one;split
 .exact b.app (xR c h d)
 .split<;>exact b
theorem aC.yq(d:g.ok):∀(l:List (Int×aW))(a:aC×List aW)(M:Nat),(∀p∈l,p.2.cR)->(∀r,a.1.cur=some r->r.ok g M)->ep a.2->ep (l.foldl (aC.one g) a).2
 |[],_,_,_,_,c=>c
 |p::r,a,M,b,h,c=>by
  rw [hQ];exact aC.yq d r _ (M+6) (λq e=>b q (by simp [e])) (aC.zG d (b p (by simp)) h) (aC.Gu d (b p (by simp)) h c)
theorem aC.C2(a:g.ok){s:aC}(h:s.ok g N)(b:∀r,s.cur=some r->r.ok g M):ep (s.c9 g).2:=by
 obtain⟨_,_,_,_,_,c⟩:=h.wanted a b;unfold aC.c9;refine aC.yq a _ _ (M+5) (λp d=>h.ll p (gO.1 d)) (λr e=>(c r e).1) ?_;unfold aC.wanted;split
 .exact ep.nil
 .exact xU a b _
theorem aC.qy(b:g.ok):∀(k:Nat){N:Nat}{s:aC}{l:List aW},s.ok g N->773<=N->ep l->ep (aC.go g k s l).2
 |0,_,_,_,_,_,a=>a
 |k+1,N,s,l,h,e,a=>by
  rw [aC.go];split
  .exact a
  .rename_i r f;split
   .obtain⟨c,d⟩:=aC.ku h f;exact aC.qy b k (c.c9 b d (by omega)) e (a.app (aC.C2 b c d))
   .exact a
theorem aC.qz(a:g.ok):∀(k:Nat){N:Nat}{s:aC}{l:List aW},s.ok g N->773<=N->(aC.go g k s l).2.length<=l.length+6450*k
 |0,_,_,l,_,_=>by show l.length<=_;omega
 |k+1,N,s,l,h,e=>by
  rw [aC.go];split
  .show l.length<=_;omega
  .rename_i r f;split
   .obtain⟨b,c⟩:=aC.ku h f;have d:=aC.qz a k (l:=l++((s.next r).c9 g).2) (b.c9 a c (by omega)) e;have i:=aC.xq (g:=g) a b.stored;rw [b4] at d;omega
   .show l.length<=_;omega
def h4(l:List aW):Prop:=ep l/\l.length<=420000
theorem h4.nil:h4 []:=⟨ep.nil,b6 _⟩
theorem aC.u9(b:g.ok){s:aC}{l:List aW}(h:s.ok g N)(a:773<=N)(c:ep l)(aa:l.length<=51):h4 (s.h8 g l).2:=
 ⟨aC.qy b 65 h a c,by have:=aC.qz (l:=l) b 65 h a;show(aC.go g 65 s l).2.length<=_;omega⟩
theorem aC.AJ(c:g.ok){s:aC}(h:s.ok g N)(k:773<=N)(x:List UInt8):h4 (s.eI g x).2.1:=by
 unfold aC.eI;split
 .exact h4.nil
 .rename_i m;split
  .exact h4.nil
  .split
   .exact h4.nil
   .rename_i l;split
    .exact h4.nil
    .have i:aC.ok g (N+5) ({s with cw:=s.cw++[x],cur:=(fR g s.cur x).1}:aC):=by
      have d:=h.more (gG N 5);refine{d with cur:=λr a=>⟨uH c (λr a=>(h.cur r a).1) r a,?_⟩,cw:=?_,li:=λy b=>?_}
      .have e:s.cur.isSome=true:=by rw [<-sa (g:=g) (x:=x),show(fR g s.cur x).1=some r from a];rfl
       obtain⟨j,f⟩:=gX.1 e;exact(h.cur j f).2
      .show(s.cw++[x]).length<=16;rw [b4,List.length_singleton];omega
      .rcases dw.1 (show y∈s.cw++[x] from b) with b|b
       .exact h.li y b
       .rw [fT.1 b];omega
     exact aC.u9 c i (by omega) (xU c (λr a=>(h.cur r a).1) x) (eh (uG c _ _) (by omega))
theorem aC.IC{s:aC}(h:s.ok g N)(m:aW):h4 (s.told g m):=by
 unfold aC.told;split
 .exact h4.nil
 .rename_i d;split
  .exact h4.nil
  .rename_i e he;have hm:=hk he;obtain⟨a,b,c⟩:=h.od e hm;have j:=(eY.1 he).1;have k:=h.log;have l:¬m.s<0:=λf=>d (.inr (.inl f))
   refine⟨λq i=>?_,by simp⟩;rw [fT.1 i];exact⟨⟨am.ec _ _ _,c,a,b⟩,show m.s<=63 by omega⟩
theorem aC.tc(b:g.ok){s:aC}(h:s.ok g N)(f:773<=N){m:aW}(hm:m.cR):h4 (s.take g m).2:=by
 unfold aC.take;split
 .exact aC.AJ b h f _
 .split
  .exact aC.IC h m
  .split
   .have i:aC.ok g (N+6) ({s with cur:=(hc g s.cur m).1}:aC):=by
     have c:=h.more (gG N 6);refine{c with cur:=λr a=>⟨r8 b hm (λr a=>(h.cur r a).1) r a,?_⟩};have d:s.cur.isSome=true:=by rw [<-r9 (g:=g) (m:=m),show(hc g s.cur m).1=some r from a];rfl
     obtain⟨j,e⟩:=gX.1 d;exact(h.cur j e).2
    exact aC.u9 b i (by omega) (xR b (λr a=>(h.cur r a).1) hm) (eh (r7 b _ _) (by omega))
   .split<;>exact h4.nil
theorem aC.td(b:g.ok){s:aC}(h:s.ok g N)(j:773<=N):h4 (s.tick g).2:=by
 have f:aC.ok g (N+6) ({s with cur:=(iE g s.cur).1}:aC):=by
  have c:=h.more (gG N 6);refine{c with cur:=λr a=>⟨uE b (λr a=>(h.cur r a).1) r a,?_⟩};have d:s.cur.isSome=true:=by rw [<-uF (g:=g),show(iE g s.cur).1=some r from a];rfl
  obtain⟨i,e⟩:=gX.1 d;exact(h.cur i e).2
 exact aC.u9 b f (by omega) (DN b (λr a=>(h.cur r a).1)) (xT b _)
theorem bk.ul(b:g.ok){x:bk}(h:x.ok g N)(a:773<=N)(I:bA):h4 (x.ask g I).2.1:=by
 unfold bk.ask;split
 .exact aC.AJ b h.s a _
 .exact h4.nil
theorem bk.tc(b:g.ok){x:bk}(h:x.ok g N)(a:773<=N){m:aW}(hm:m.cR):h4 (x.take g m).2:=aC.tc b h.s a hm
theorem bk.td(b:g.ok){x:bk}(h:x.ok g N)(a:773<=N):h4 (x.tick g).2:=aC.td b h.s a
end
end Go.Proofs.YtdomoelfhjdioaaGreatDoor.R
