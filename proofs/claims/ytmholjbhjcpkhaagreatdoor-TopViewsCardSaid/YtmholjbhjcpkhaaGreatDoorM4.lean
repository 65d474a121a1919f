/- Part 4 of the proof. -/
import Derived.Test.YtmholjbhjcpkhaaGreatDoorM3
set_option linter.unusedVariables false
set_option linter.unusedSimpArgs false
set_option linter.unusedSectionVars false
set_option maxRecDepth 20000
set_option maxHeartbeats 4000000
namespace Go.Proofs.YtmholjbhjcpkhaaGreatDoor.R
open Go.Proofs.Tryz Go Go.RowKit Go.Proofs
section
variable {P:Program} {n:Fr} {Z:Env} {w:World} {Q:d7} {ops:Array Oper} {rest:List Oper} {dst:Option Nat} {ty:TypeId} {pos:String} {after:Array Edge} {g:Option (Nat×Bool)}
theorem qH{t e:TypeId}{d:Array TypeId}{args:Array Operand}{z:Value}{size bytes:Nat}{o:World}{F:List Nat}{c2 a1:List Chunk}{ae:List (List Chunk)}{v1 v2:Value}{i2 a:Nat}{xs dh:List Value}
 [hu:bC P t (.slice e)] [D:cq P e z size bytes] (c:C o F (c2::a1::ae) w) (i:Row e size v1 i2 xs c2) (b:Row e size v2 a dh a1) (y:∀u∈dh,u.oneCell'=true) (v:d= #[t,t]) (A:z.cells.size=size) (s:0<size) (m:bytes<=1000)
 (q:c0 ops Z g=some true) (p:da n dst=true) (x:fl Z args.toList=some [v1,v2]) (l:i2+a<=1000000000)
 (h:∀v3 bn aJ,Row e size v3 (i2+a) (xs++dh) bn->C o F (bn::ae) aJ->O P n ops rest (cK Z dst v3) aJ Q):O P n ops (⟨dst,.call ⟨.builtin .append,args,d⟩,ty,pos,after,g⟩::rest) Z w Q:=by
 obtain⟨B,dy,rfl,_,_,r,_⟩:=b.read (c.holds (G:=a1) (by simp));refine e6 c i v A s q p x (news:=dh) b.1 r y ?_ ?_ (λv3 f aJ j k=>?_)
 .have:=q6 l m;omega
 .unfold maxLen;omega
 .exact h v3 f aJ j (k.f1.drop)
end
theorem eG.rR{v:Value}{dG a:List b7}{G:List Chunk}(h:Row 110 4 v (dG.length+a.length) (dG.flatMap b7.cs++a.flatMap b7.cs) G):eG v (dG++a) G:=by
 unfold eG;rw [cj,List.flatMap_append];exact h
structure dt.ok(now:Int)(q:dt):Prop where
 b3:0<=q.b3/\q.b3<=100
 last:0<=q.last/\q.last<=100
 ff:0<=q.ff/\q.ff<=now
 parts:q.df=true->q.parts.isSome=true
structure bu.ok(N:Nat)(s:bu):Prop where
 cL:s.cL.length<=8
 kv:∀q∈s.cL,q.2.ok s.now
 marks:s.marks.length<=10*N
 now:0<=s.now/\s.now<=N
theorem dt.ok.mono{a b:Int}{q:dt}(h:q.ok a)(c:a<=b):q.ok b:={h with ff:=⟨h.ff.1,by have:=h.ff.2;omega⟩}
theorem bu.ok.mono{N M:Nat}{s:bu}(h:s.ok N)(a:N<=M):s.ok M:={h with marks:=by have:=h.marks;omega,now:=⟨h.now.1,by have:=h.now.2;omega⟩}
theorem rZ{α:Type}:∀{m:List (Int×α)}{k:Int}{a:α},aV m k=some a->bV m k a=m
 |[],_,_,h=>by cases h
 |(R,u)::r,k,a,h=>by
  simp only [aV] at h;simp only [bV];split
  .rename_i he;rw [aR he] at h;cases h;rw [he]
  .rename_i b;rw [az b] at h;rw [rZ h]
theorem bu.yt{s:bu}{x:List UInt8}{n:Int}{p:dt}(h:s.named x=some (n,p)):(n,p)∈s.cL/\p.name=x:=by
 unfold bu.named at h;obtain⟨q,a,h⟩:=tg h;split at h
 .cases h;exact⟨g7.1 a,by assumption⟩
 .cases h
theorem BT{o:World}{aW:Nat}{s:bu}{G:List Chunk}{I:bD}(aC:kF aW s G){N:Nat}(L:s.ok N)(aT:N<=10000)(a:Own [G] o):Calls prog 237 #[aa aW,.agg I.cs.toArray] o λr w=>∃v af R,r= .tuple #[kc (s.dc I).2.1,v]/\eG v (s.dc I).2.2 R/\kF aW (s.dc I).1 af/\C o (au [G]) [af,R] w:=by
 obtain⟨c,gQ,M,D,W,f,rfl⟩:=aC;obtain⟨d,ag⟩:∃d,d=au [bR aW s.now c++(gQ++(M++(D++W)))]:=⟨_,j⟩;rw [<-ag];have a:C o d [bR aW s.now c++(gQ++(M++(D++W)))] o:=ag▸a;have a:=a.p1;obtain⟨am,ah,b2,Z,H,F,K,P,rfl⟩:=f.l;have hlen:=P.len;refine fj func237 (bJ 2 a j j (λE w a=>?_));have a:C o d (bB E I::_) w:=a;refine cx 0 a j (λe w a=>?_);have a:C o d [J e #[ab 0,ab 0,ab 0] 123,bB E I,bR aW s.now c,ay 290 am ah b2++H,M,D,W] w:=a;refine ar 5 j (ax (C.aj a) j) ?_;rcases B:s.named I.ef with _|⟨n,p⟩
 .have i:=ys (aW:=aW) (now:=s.now) (c:=c) (x:=I.ef) (C.aj (b:=aW) a) F K P (a.holds (G:=ay 290 am ah b2++H) (by simp)) (by have:=L.cL;omega);refine bk 0 i j (λr w O=>?_);obtain⟨aL,O,_,ad⟩:=O.resolve_left (λ⟨k,v,q,_,_,_,h,_⟩=>by rw [show(cW s.cL).findSome? _=none from B] at h;cases h);subst O;have a:=a.aO ad;have a:C o d [J e #[ab 0,ab 0,ab 0] 123,bB E I,bR aW s.now c,ay 290 am ah b2,H,M,D,W,cm aL (dt.new I.ef) (.map none)] w:=C.perm (A:=[J e #[ab 0,ab 0,ab 0] 123,bB E I,bR aW s.now c,ay 290 am ah b2++H,M,D,W,cm aL (dt.new I.ef) (.map none)]) a.as (by simp);refine aq 17 j (bY 39 (.bool true) j (aK Value.bool (j)) ?_);refine cy 4 j j (λav=>?_) (λav=>?_)
  .refine aq 2 j (cP (c:= #[ab 3,ab 0,ab 0]) j j j (λ_=>by kernel_rfl) ?_);refine cv 0 (a.bc e) j j j j j (λw a=>?_);have a:=C.whole (U:=[ab 3,ab 0,ab 0]) a j;have a:C o d (J e #[ab 3,ab 0,ab 0] 123::_) w:=a;refine bH 1 j ⟨_,ds results237 j j j j a.bQ,?_⟩
   have y:s.dc I=(s,(3,0,0),[]):=by
    unfold bu.dc;rw [B];exact aR (by omega)
   rw [y];have a:C o d [bR aW s.now c,ay 290 am ah b2,H,M,D,W,[]] w:=C.perm (A:=[bR aW s.now c,ay 290 am ah b2,H,M,D,W]) a.as (by simp);exact⟨_,_,[],j,eG.nil,⟨c,ay 290 am ah b2++H,M,D,W,⟨⟨am,ah,b2,Z,_,F,K,P,j⟩,f.marks,f.fv,f.answers⟩,j⟩,C.perm (A:=[bR aW s.now c,ay 290 am ah b2,H,M,D,W,[]]) a (by simp)⟩
  refine ar 10 j (ax (C.aj (b:=aW) a) (aK some F)) ?_;have i:=Gz (k:=(s.cL.length:Int)) (v:=aa aL) (a.ours (cM:=[ay 290 am ah b2])) K;refine br 2 i j (λw⟨Q,aI,z⟩=>?_);have a:=a.b1 z;have a:C o d [J e #[ab 0,ab 0,ab 0] 123,bB E I,bR aW s.now c,ay 290 am ah Q,H,M,D,W,cm aL (dt.new I.ef) (.map none)] w:=a.as;refine ar 8 j (ax (C.aj a) j) (cP (c:=(⟨1,(s.cL.length:Int),0,0⟩:b7).cs.toArray) j j j (λ_=>by kernel_rfl) ?_);have i:=sB (aW:=aW) (now:=s.now) (c:=c) (m:=(⟨1,(s.cL.length:Int),0,0⟩:b7)) f.marks (by have:=L.marks;first|omega|(simp only [cj,List.length_singleton];omega)) a.ours;refine bk 0 i j (λr w⟨v2,M2,S,T,V,z⟩=>?_);have a:=a.b1 z;have a:=(a.front (cM:=[S])).empty;refine qH a eG.nil V (ol _) j j (by decide) (by decide) j j j (by simp) (λv3 bn w u a=>?_);have u:=eG.rR u;refine ar 7 j (ax (C.aj a) j) (cP (c:= #[ab 0,ab (s.cL.length:Int),ab 0]) j j j (λ_=>by kernel_rfl) (cv 1 (a.bc e) j j j j j (λw a=>?_)));have a:=C.whole (U:=[ab 0,ab (s.cL.length:Int),ab 0]) a j;have a:C o d (J e #[ab 0,ab (s.cL.length:Int),ab 0] 123::_) w:=a;refine bH 1 j ⟨_,ds results237 j j j j a.bQ,?_⟩;obtain⟨Y,ak,aN,aM⟩:=P.put (k:=(s.cL.length:Int)) (show qN (aa aL) (dt.new I.ef) (cm aL (dt.new I.ef) (.map none)) from⟨aL,.map none,[],j,⟨j,j⟩,j⟩)
  have y:s.dc I=({s with cL:=bV s.cL (s.cL.length:Int) (dt.new I.ef),marks:=s.marks++[(⟨1,(s.cL.length:Int),0,0⟩:b7)]},(0,(s.cL.length:Int),0),[(⟨1,(s.cL.length:Int),0,0⟩:b7)]):=by
   unfold bu.dc;rw [B];exact az (by omega)
  rw [y];have a:C o d [bR aW s.now {c with marks:=v2},ay 290 am ah Q,M2,D,W,bn,H,cm aL (dt.new I.ef) (.map none)] w:=a.as
  have a:C o d [bR aW s.now {c with marks:=v2},ay 290 am ah Q,M2,D,W,bn,ak,Y] w:=a.perm (by
   simp only [jZ,mF,gA];exact .append_left _ (.append_left _ (.append_left _ (.append_left _ (.append_left _ (.append_left _ aM))))))
  exact⟨v3,_,bn,j,u,⟨{c with marks:=v2},ay 290 am ah Q++Y,M2,D,W,⟨⟨am,ah,Q,_,Y,F,aI,aN,j⟩,T,f.fv,f.answers⟩,j⟩,C.perm (A:=[bR aW s.now {c with marks:=v2},ay 290 am ah Q,Y,M2,D,W,bn]) a.as (by simp)⟩
 have i:=ys (aW:=aW) (now:=s.now) (c:=c) (x:=I.ef) (C.aj (b:=aW) a) F K P (a.holds (G:=ay 290 am ah b2++H) (by simp)) (by have:=L.cL;omega);refine bk 0 i j (λr w O=>?_);obtain⟨aP,v0,aQ,O,aH,an,aF,ad⟩:=O.resolve_right (λ⟨b,_,h,_⟩=>by rw [show(cW s.cL).findSome? _=some (n,p) from B] at h;cases h);subst O;have aG:some (n,p)=some (aP,aQ):=B.symm.trans aF;cases aG;obtain⟨v1,H1,aS,g,al,rfl,aE,ae⟩:=P.find an;rw [aH] at al;cases al;obtain⟨aL,cJ,t,rfl,ai,rfl⟩:=aE;have ao:p.ok s.now:=L.kv _ (bu.yt B).1;have a:=a.aO ad;have a:C o d [J e #[ab 0,ab 0,ab 0] 123,bB E I,bR aW s.now c,ay 290 am ah b2,H1,cm aL p cJ,t,g,M,D,W] w:=C.perm (A:=[J e #[ab 0,ab 0,ab 0] 123,bB E I,bR aW s.now c,ay 290 am ah b2++(H1++((cm aL p cJ++t)++g)),M,D,W]) a.as (by simp);refine aq 17 j (bY 39 (.bool false) j (aK Value.bool (j)) ?_);refine ar 16 j (ax (C.aj a) j) (cy 2 j j (λaw=>?_) (λaw=>?_))
 .refine aq 2 j (cP (c:= #[ab 7,ab 0,ab 0]) j j j (λ_=>by kernel_rfl) ?_);refine cv 0 (a.bc e) j j j j j (λw a=>?_);have a:=C.whole (U:=[ab 7,ab 0,ab 0]) a j;have a:C o d (J e #[ab 7,ab 0,ab 0] 123::_) w:=a;refine bH 1 j ⟨_,ds results237 j j j j a.bQ,?_⟩
  have y:s.dc I=(s,(7,0,0),[]):=by
   unfold bu.dc;rw [B];exact aR (by omega)
  rw [y];have a:C o d [bR aW s.now c,ay 290 am ah b2,H1,cm aL p cJ,t,g,M,D,W,[]] w:=C.perm (A:=[bR aW s.now c,ay 290 am ah b2,H1,cm aL p cJ,t,g,M,D,W]) a.as (by simp);exact⟨_,_,[],j,eG.nil,⟨c,ay 290 am ah b2++(H1++((cm aL p cJ++t)++g)),M,D,W,⟨⟨am,ah,b2,Z,_,F,K,ae p _ ⟨aL,cJ,t,j,ai,j⟩|>λh=>by rwa [rZ an] at h,j⟩,f.marks,f.fv,f.answers⟩,j⟩,C.perm (A:=[bR aW s.now c,ay 290 am ah b2,H1,cm aL p cJ,t,g,M,D,W,[]]) a (by simp)⟩
 refine ar 6 j (ax (C.aj a) j) (bo 0 j j (λac=>?_) (λac=>?_))
 .have i:=tY (aW:=aW) (aL:=aL) (now:=s.now) (n:=n) (k:=3) (c:=c) (q:=p) (cJ:=cJ) f.marks f.fv (by have:=L.marks;omega) a.ours;refine bk 4 i j (λr w⟨v1,ap,X,R,aB,aA,aD,z⟩=>?_);have a:=a.b1 z;have a:C o d [J e #[ab 0,ab 0,ab 0] 123,bB E I,bR aW s.now {c with marks:=v1},ay 290 am ah b2,H1,cm aL p.shut (.map none),g,ap,X,W,R] w:=a.as;refine ar 6 j (ax (C.aj a) j) (bE 0 j j j (ue (by have:=ao.b3;have:p.shut.b3=p.b3:=rfl;omega) (by omega)) (dE 2 (a.bc aL) j j j j (λw a=>?_)));have a:C o d (cm aL {p.shut with b3:=p.b3+1} (.map none)::_) w:=a;refine dE 4 (a.bc aL) j j j j (λw a=>?_);have a:C o d (cm aL {p.shut with b3:=p.b3+1,last:=0} (.map none)::_) w:=a;refine ar 8 j (ax (C.aj a) j) (cP (c:=(⟨1,n,p.b3+1,0⟩:b7).cs.toArray) j j j (λ_=>by kernel_rfl) ?_);have i:=sB (aW:=aW) (now:=s.now) (c:={c with marks:=v1}) (m:=(⟨1,n,p.b3+1,0⟩:b7)) aB (by have:=L.marks;first|omega|(simp only [cj,List.length_singleton];omega)) a.ours;refine bk 0 i j (λr w⟨v2,M2,S,T,V,z⟩=>?_);have a:=a.b1 z;have a:=a.front (cM:=[R,S]);refine qH a aD V (ol _) j j (by decide) (by decide) j j j (by simp) (λv3 bn w u a=>?_);have u:=eG.rR u;refine ar 7 j (ax (C.aj a) j) (cP (c:= #[ab 0,ab n,ab (p.b3+1)]) j j j (λ_=>by kernel_rfl) (cv 1 (a.bc e) j j j j j (λw a=>?_)));have a:=C.whole (U:=[ab 0,ab n,ab (p.b3+1)]) a j;have a:C o d (J e #[ab 0,ab n,ab (p.b3+1)] 123::_) w:=a;refine bH 1 j ⟨_,ds results237 j j j j a.bQ,?_⟩
  have y:s.dc I=({s with cL:=bV s.cL n {p.shut with b3:=p.b3+1,last:=0},fv:=once s.fv (p.mark n 3),marks:=s.marks++[p.mark n 3]++[(⟨1,n,p.b3+1,0⟩:b7)]},(0,n,p.b3+1),[p.mark n 3]++[(⟨1,n,p.b3+1,0⟩:b7)]):=by
   unfold bu.dc;rw [B];exact(az (by omega)).trans (aR (show p.df=true from ac))
  rw [y];have a:C o d [bR aW s.now {c with marks:=v2},ay 290 am ah b2,M2,X,W,bn,H1,cm aL {p.shut with b3:=p.b3+1,last:=0} (.map none),g] w:=a.as;exact⟨v3,_,bn,j,u,⟨{c with marks:=v2},ay 290 am ah b2++(H1++((cm aL {p.shut with b3:=p.b3+1,last:=0} (.map none)++[])++g)),M2,X,W,⟨⟨am,ah,b2,Z,_,F,K,ae {p.shut with b3:=p.b3+1,last:=0} _ ⟨aL,.map none,[],j,⟨j,j⟩,j⟩,j⟩,T,aA,f.answers⟩,j⟩,C.perm (A:=[bR aW s.now {c with marks:=v2},ay 290 am ah b2,H1,cm aL {p.shut with b3:=p.b3+1,last:=0} (.map none),g,M2,X,W,bn]) a.as (by simp)⟩
 refine ar 6 j (ax (C.aj a) j) (bE 0 j j j (ue (by have:=ao.b3;have:p.shut.b3=p.b3:=rfl;omega) (by omega)) (dE 2 (a.bc aL) j j j j (λw a=>?_)));have a:C o d (cm aL {p with b3:=p.b3+1} cJ::_) w:=a;refine dE 4 (a.bc aL) j j j j (λw a=>?_);have a:C o d (cm aL {p with b3:=p.b3+1,last:=0} cJ::_) w:=a;refine ar 8 j (ax (C.aj a) j) (cP (c:=(⟨1,n,p.b3+1,0⟩:b7).cs.toArray) j j j (λ_=>by kernel_rfl) ?_);have i:=sB (aW:=aW) (now:=s.now) (c:=c) (m:=(⟨1,n,p.b3+1,0⟩:b7)) f.marks (by have:=L.marks;first|omega|(simp only [cj,List.length_singleton];omega)) a.ours;refine bk 0 i j (λr w⟨v2,M2,S,T,V,z⟩=>?_);have a:=a.b1 z;have a:=(a.front (cM:=[S])).empty;refine qH a eG.nil V (ol _) j j (by decide) (by decide) j j j (by simp) (λv3 bn w u a=>?_);have u:=eG.rR u;refine ar 7 j (ax (C.aj a) j) (cP (c:= #[ab 0,ab n,ab (p.b3+1)]) j j j (λ_=>by kernel_rfl) (cv 1 (a.bc e) j j j j j (λw a=>?_)));have a:=C.whole (U:=[ab 0,ab n,ab (p.b3+1)]) a j;have a:C o d (J e #[ab 0,ab n,ab (p.b3+1)] 123::_) w:=a;refine bH 1 j ⟨_,ds results237 j j j j a.bQ,?_⟩;have aJ:¬p.df=true:=by rw [show p.df=false from ac];decide
 have y:s.dc I=({s with cL:=bV s.cL n {p with b3:=p.b3+1,last:=0},marks:=s.marks++[(⟨1,n,p.b3+1,0⟩:b7)]},(0,n,p.b3+1),[(⟨1,n,p.b3+1,0⟩:b7)]):=by
  unfold bu.dc;rw [B];exact(az (by omega)).trans (az aJ)
 rw [y];have a:C o d [bR aW s.now {c with marks:=v2},ay 290 am ah b2,M2,D,W,bn,H1,cm aL {p with b3:=p.b3+1,last:=0} cJ,t,g] w:=a.as;exact⟨v3,_,bn,j,u,⟨{c with marks:=v2},ay 290 am ah b2++(H1++((cm aL {p with b3:=p.b3+1,last:=0} cJ++t)++g)),M2,D,W,⟨⟨am,ah,b2,Z,_,F,K,ae {p with b3:=p.b3+1,last:=0} _ ⟨aL,cJ,t,j,ai,j⟩,j⟩,T,f.fv,f.answers⟩,j⟩,C.perm (A:=[bR aW s.now {c with marks:=v2},ay 290 am ah b2,H1,cm aL {p with b3:=p.b3+1,last:=0} cJ,t,g,M2,D,W,bn]) a.as (by simp)⟩
theorem Bb{o:World}{aW aL:Nat}{now:Int}{c:iS}{p:dt}{cJ:Value}{m:List Chunk}{I:bD}(v:ta cJ p.parts m)(F:p.ok now)(H:now<=1000000)(J: -1000<=I.t/\I.t<=1000)(a:Own [bR aW now c,cm aL p cJ,m] o):Calls prog 240 #[aa aW,.agg I.cs.toArray,aa aL] o λr w=>r=ab (p.add now I).2/\∃B y,ta B (p.add now I).1.parts y/\C o (au [bR aW now c,cm aL p cJ,m]) [bR aW now c,cm aL (p.add now I).1 B,y] w:=by
 obtain⟨b,z⟩:∃b,b=au [bR aW now c,cm aL p cJ,m]:=⟨_,j⟩;rw [<-z];have a:C o b [bR aW now c,cm aL p cJ,m] o:=z▸a;refine a6 func240 (bJ 2 a j j (λd w a=>?_));have a:C o b [bB d I,bR aW now c,cm aL p cJ,m] w:=a;have a:C o b ([bB d I,cm aL p cJ]++_) _:=a.front;have a:=a.drew;refine bx 4 j (λw=>∃ae,C o b ([bB d I,cm aL p cJ]++ae) w) ⟨_,a⟩ (ag 0 3 j (a8 3 j a2 j (ag 4 1 j (ek 31 j (λs=>?_) (λs=>?_)))))
 .refine ag 5 1 j (a8 6 j a2 j (ag 7 3 j (a8 10 j a2 j (ag 11 3 j (bL (bo 0 j j (λx=>?_) (λx=>?_)))))))
  .obtain⟨l,A⟩:∃l,p.parts=some l:=g8.1 (F.parts s);rw [A] at v;obtain⟨ah,G,rfl,rfl,E⟩:=v;have a:C o b ([bB d I,cm aL p (.map (some ah))]++_) _:=a.front;have a:=a.drew;refine bx 2 j (λw=>∃ae,C o b ([bB d I,cm aL p (.map (some ah))]++ae) w) ⟨_,a⟩ (ag 0 3 j (a8 3 j a2 j (ag 4 1 j (a8 5 j a2 j (aX 6 j (je (k:=I.q) E (a.to [(ah,G)]) j j j j (λg w n a=>?_)))))));rw [uS] at n;have a:C o b ([bB d I,cm aL p (.map (some ah))]++_) w:=a.front;refine ao ⟨⟨_,a⟩,?_⟩;refine bL (an 3 j j ?_)
   have f:p.add now I=({p with parts:=some (once l I.q)},0):=by
    unfold dt.add;rw [aR ⟨s,ea.1 x⟩,A];rfl
   rw [f];exact⟨j,.map (some ah),[(ah,g)],⟨ah,g,j,j,n⟩,a.as⟩
  refine ar 5 j (ax (C.aj a) j) (l3 1 j j (s) (an 3 j j ?_))
  have f:p.add now I=(p,6):=by
   unfold dt.add;exact(az (by rintro⟨_,h⟩;rw [ea.2 h] at x;cases x)).trans (aR s)
  rw [f];exact⟨j,cJ,m,v,a.as⟩
 refine ag 5 9 j (bL (ar 6 j (ax (C.aj a) j) (ij 1 j j (s) ?_)));have i:p.df=false:=s;refine ar 5 j (ax (C.aj a) j) (cy 2 j j (λD=>?_) (λD=>?_))
 .refine an 3 j j ?_
  have f:p.add now I=(p,7):=by
   unfold dt.add;exact(az (by rintro⟨h,_⟩;rw [i] at h;cases h)).trans ((az (by rw [i];decide)).trans (aR (by omega)))
  rw [f];exact⟨j,cJ,m,v,a.as⟩
 have a:C o b ([bB d I,cm aL p cJ]++_) _:=a.front;have a:=a.drew;refine bx 1 j (λw=>∃ae,C o b ([bB d I,cm aL p cJ]++ae) w) ⟨_,a⟩ (ag 0 1 j (a8 1 j a2 j (bl 2 j (λw _=>fr j j (rI (by omega) (by omega))) (ag 3 3 j (a8 6 j a2 j (ag 7 2 j (bL (bo 0 j j (λu=>?_) (λu=>?_)))))))))
 .refine an 3 j j ?_
  have f:p.add now I=(p,6):=by
   unfold dt.add;exact(az (by rintro⟨h,_⟩;rw [i] at h;cases h)).trans ((az (by rw [i];decide)).trans ((az (by omega)).trans (aR (by simpa using u))))
  rw [f];exact⟨j,cJ,m,v,a.as⟩
 have a:C o b ([bB d I,bR aW now c]++_) _:=a.front;have a:=a.drew;refine bx 0 j (λw=>∃ae,C o b ([bB d I,bR aW now c]++ae) w) ⟨_,a⟩ (ag 0 5 j (a8 5 j a2 j (ag 6 3 j (a8 9 j a2 j (ag 11 2 j (aS 10 13 j j ?_ ?_))))))
 .refine jd j a j j (λe w a=>?_);have a:C o b ([bB d I,bR aW now c]++_) w:=a.front;refine ao ⟨⟨_,a⟩,?_⟩;refine aX 13 j (cO (a.bc aL) j j j j bO (λw a=>?_));have a:C o b (cm aL {p with df:=true} cJ::_) w:=a;have a:C o b ([bB d I,bR aW now c]++_) w:=a.front;refine ao ⟨⟨_,a⟩,?_⟩;refine ag 14 2 j (aX 16 j (cO (a.bc aL) j j j j bO (λw a=>?_)));have a:C o b (cm aL {p with df:=true,last:=I.t} cJ::_) w:=a;have a:C o b ([bB d I,bR aW now c]++_) w:=a.front;refine ao ⟨⟨_,a⟩,?_⟩;refine ag 17 2 j (aX 19 j (cO (a.bc aL) j j j j bO (λw a=>?_)));have a:C o b (cm aL {p with df:=true,last:=I.t,ff:=now} cJ::_) w:=a;have a:C o b ([bB d I,bR aW now c]++_) w:=a.front;refine ao ⟨⟨_,a⟩,?_⟩;refine ag 20 2 j (dK 22 j (cO (a.bc aL) j j j j bO (λw a=>?_)));have a:C o b (cm aL {p with df:=true,last:=I.t,ff:=now,parts:=some [I.q]} (.map (some e))::_) w:=a;have a:C o b [bB d I,cm aL {p with df:=true,last:=I.t,ff:=now,parts:=some [I.q]} (.map (some e)),bR aW now c,[(e,.map #[] 0)]] w:=a.as;refine ao (c5 ?_);have a:C o b ([bB d I,cm aL {p with df:=true,last:=I.t,ff:=now,parts:=some [I.q]} (.map (some e))]++_) _:=a.front;have a:=a.drew;refine bx 1 j (λw=>∃ae,C o b ([bB d I,cm aL {p with df:=true,last:=I.t,ff:=now,parts:=some [I.q]} (.map (some e))]++ae) w) ⟨_,a⟩ (ag 0 3 j (a8 3 j a2 j (ag 4 1 j (a8 5 j a2 j (aX 6 j (je (k:=I.q) cf.new (a.to [(e,.map #[] 0)]) j j j j (λg w n a=>?_)))))));have a:C o b ([bB d I,cm aL {p with df:=true,last:=I.t,ff:=now,parts:=some [I.q]} (.map (some e))]++_) w:=a.front;refine ao ⟨⟨_,a⟩,?_⟩;refine bL (an 3 j j ?_)
  have f:p.add now I=({p with df:=true,last:=I.t,ff:=now,parts:=some [I.q]},0):=by
   unfold dt.add;exact(az (by rintro⟨h,_⟩;rw [i] at h;cases h)).trans ((az (by rw [i];decide)).trans ((az (by omega)).trans (az (by simpa using u))))
  rw [f];exact⟨j,.map (some e),[(e,g)],⟨e,g,j,j,n⟩,a.as⟩
 refine cO (a.bc aL) j j j j bO (λw a=>?_);have a:C o b (cm aL {p with df:=true} cJ::_) w:=a;have a:C o b ([bB d I,bR aW now c]++_) w:=a.front;refine ao ⟨⟨_,a⟩,?_⟩;refine ag 14 2 j (aS 10 16 j j ?_ ?_)
 .refine jd j a j j (λe w a=>?_);have a:C o b ([bB d I,bR aW now c]++_) w:=a.front;refine ao ⟨⟨_,a⟩,?_⟩;refine aX 16 j (cO (a.bc aL) j j j j bO (λw a=>?_));have a:C o b (cm aL {p with df:=true,last:=I.t} cJ::_) w:=a;have a:C o b ([bB d I,bR aW now c]++_) w:=a.front;refine ao ⟨⟨_,a⟩,?_⟩;refine ag 17 2 j (aX 19 j (cO (a.bc aL) j j j j bO (λw a=>?_)));have a:C o b (cm aL {p with df:=true,last:=I.t,ff:=now} cJ::_) w:=a;have a:C o b ([bB d I,bR aW now c]++_) w:=a.front;refine ao ⟨⟨_,a⟩,?_⟩;refine ag 20 2 j (dK 22 j (cO (a.bc aL) j j j j bO (λw a=>?_)));have a:C o b (cm aL {p with df:=true,last:=I.t,ff:=now,parts:=some [I.q]} (.map (some e))::_) w:=a;have a:C o b [bB d I,cm aL {p with df:=true,last:=I.t,ff:=now,parts:=some [I.q]} (.map (some e)),bR aW now c,[(e,.map #[] 0)]] w:=a.as;refine ao (c5 ?_);have a:C o b ([bB d I,cm aL {p with df:=true,last:=I.t,ff:=now,parts:=some [I.q]} (.map (some e))]++_) _:=a.front;have a:=a.drew;refine bx 1 j (λw=>∃ae,C o b ([bB d I,cm aL {p with df:=true,last:=I.t,ff:=now,parts:=some [I.q]} (.map (some e))]++ae) w) ⟨_,a⟩ (ag 0 3 j (a8 3 j a2 j (ag 4 1 j (a8 5 j a2 j (aX 6 j (je (k:=I.q) cf.new (a.to [(e,.map #[] 0)]) j j j j (λg w n a=>?_)))))));have a:C o b ([bB d I,cm aL {p with df:=true,last:=I.t,ff:=now,parts:=some [I.q]} (.map (some e))]++_) w:=a.front;refine ao ⟨⟨_,a⟩,?_⟩;refine bL (an 3 j j ?_)
  have f:p.add now I=({p with df:=true,last:=I.t,ff:=now,parts:=some [I.q]},0):=by
   unfold dt.add;exact(az (by rintro⟨h,_⟩;rw [i] at h;cases h)).trans ((az (by rw [i];decide)).trans ((az (by omega)).trans (az (by simpa using u))))
  rw [f];exact⟨j,.map (some e),[(e,g)],⟨e,g,j,j,n⟩,a.as⟩
 refine cO (a.bc aL) j j j j bO (λw a=>?_);have a:C o b (cm aL {p with df:=true,last:=I.t} cJ::_) w:=a;have a:C o b ([bB d I,bR aW now c]++_) w:=a.front;refine ao ⟨⟨_,a⟩,?_⟩;refine ag 17 2 j (aS 10 19 j j ?_ ?_);refine jd j a j j (λe w a=>?_);have a:C o b ([bB d I,bR aW now c]++_) w:=a.front;refine ao ⟨⟨_,a⟩,?_⟩;refine aX 19 j (cO (a.bc aL) j j j j bO (λw a=>?_));have a:C o b (cm aL {p with df:=true,last:=I.t,ff:=now} cJ::_) w:=a;rotate_left
 refine cO (a.bc aL) j j j j bO (λw a=>?_);have a:C o b (cm aL {p with df:=true,last:=I.t,ff:=now} cJ::_) w:=a;have a:C o b ([bB d I,bR aW now c]++_) w:=a.front;refine ao ⟨⟨_,a⟩,?_⟩;refine aX 10 j (jd j a j j (λe w a=>?_));rotate_left
 all_goals
  have a:C o b ([bB d I,bR aW now c]++_) w:=a.front;refine ao ⟨⟨_,a⟩,?_⟩;refine ag 20 2 j (dK 22 j (cO (a.bc aL) j j j j bO (λw a=>?_)));have a:C o b (cm aL {p with df:=true,last:=I.t,ff:=now,parts:=some [I.q]} (.map (some e))::_) w:=a;have a:C o b [bB d I,cm aL {p with df:=true,last:=I.t,ff:=now,parts:=some [I.q]} (.map (some e)),bR aW now c,[(e,.map #[] 0)]] w:=a.as;refine ao (c5 ?_);have a:C o b ([bB d I,cm aL {p with df:=true,last:=I.t,ff:=now,parts:=some [I.q]} (.map (some e))]++_) _:=a.front;have a:=a.drew;refine bx 1 j (λw=>∃ae,C o b ([bB d I,cm aL {p with df:=true,last:=I.t,ff:=now,parts:=some [I.q]} (.map (some e))]++ae) w) ⟨_,a⟩ (ag 0 3 j (a8 3 j a2 j (ag 4 1 j (a8 5 j a2 j (aX 6 j (je (k:=I.q) cf.new (a.to [(e,.map #[] 0)]) j j j j (λg w n a=>?_)))))));have a:C o b ([bB d I,cm aL {p with df:=true,last:=I.t,ff:=now,parts:=some [I.q]} (.map (some e))]++_) w:=a.front;refine ao ⟨⟨_,a⟩,?_⟩;refine bL (an 3 j j ?_)
  have f:p.add now I=({p with df:=true,last:=I.t,ff:=now,parts:=some [I.q]},0):=by
   unfold dt.add;exact(az (by rintro⟨h,_⟩;rw [i] at h;cases h)).trans ((az (by rw [i];decide)).trans ((az (by omega)).trans (az (by simpa using u))))
  rw [f];exact⟨j,.map (some e),[(e,g)],⟨e,g,j,j,n⟩,a.as⟩
section
variable {P:Program} {n:Fr} {Z:Env} {w:World} {dst:Option Nat} {ty:TypeId} {pos:String} {after:Array Edge} {g:Option (Nat×Bool)} {cz:Type} [DecidableEq cz] {key:cz->Value} {I:Obj} {b:Nat}
theorem AC{t cX eH:TypeId}{x y:Operand}{size bytes:Nat}{l:List cz}[hu:bC P t (.map cX eH)][ad:Keys P cX key][i:cq P eH (.bool false) size bytes](hm:cf key I (l.map λk=>(k,Value.bool true)))(d:w.heap[b]? =some I){k:cz}(e:bt Z x=some (.map (some b)))(f:bt Z y=some (key k)):
 ∀a,cN Z n.n a->(execOp a.eval ⟨dst,.lookup t x y false,ty,pos,after,g⟩).run P w= .ok (.value (.bool (decide (k∈l)))) w:=λa c=>by
 have h:=sW (P:=P) (n:=n) (Z:=Z) (t:=t) (cX:=cX) (eH:=eH) (x:=x) (y:=y) (z:=.bool false) (k:=k) (key:=key) (dst:=dst) (ty:=ty) (pos:=pos) (after:=after) (g:=g) hm d e f a c;rw [yi] at h;exact h
end
theorem yk{α:Type}:∀{m:List (Int×α)}{k R:Int}{v:α},R≠k->aV (bV m R v) k=aV m k
 |[],k,R,v,h=>by simp [bV,aV,h]
 |(i,u)::r,k,R,v,h=>by
  simp only [bV];split
  .rename_i he;subst he;simp only [aV];rw [az h,az h]
  .simp only [aV];split
   .rfl
   .exact yk h
theorem bu.wd{now:Int}{k:Int}:∀(l:List (Int×dt))(a:bu×List b7),(∀p∈l,p.1≠k)->aV (l.foldl (bu.fD now) a).1.cL k=aV a.1.cL k
 |[],_,_=>rfl
 |p::r,a,h=>by
  rw [h5,bu.wd r _ (λq b=>h q (by simp [b]))];unfold bu.fD;split
  .exact yk (h p (by simp))
  .rfl
theorem bu.pt{now:Int}:∀(l:List (Int×dt))(a:bu×List b7),(l.foldl (bu.fD now) a).1.now=a.1.now/\(l.foldl (bu.fD now) a).1.answers=a.1.answers/\(l.foldl (bu.fD now) a).1.marks.length<=a.1.marks.length+l.length/\(l.foldl (bu.fD now) a).2.length<=a.2.length+l.length
 |[],_=>⟨j,j,cF _,cF _⟩
 |p::r,a=>by
  rw [h5];obtain⟨c,d,e,f⟩:=bu.pt r (bu.fD now a p)
  have b:(bu.fD now a p).1.now=a.1.now/\(bu.fD now a p).1.answers=a.1.answers/\(bu.fD now a p).1.marks.length<=a.1.marks.length+1/\(bu.fD now a p).2.length<=a.2.length+1:=by
   unfold bu.fD;split
   .exact⟨j,j,by unfold bu.gD;simp,by simp⟩
   .exact⟨j,j,by omega,by omega⟩
  refine⟨c.trans b.1,d.trans b.2.1,?_,?_⟩<;>rw [ex]<;>omega
theorem xc{o:World}{aW aL:Nat}{now:Int}{c:iS}{p:dt}{cJ:Value}{l dl:List b7}{M D:List Chunk}{I:bD}(L:eG c.marks l M)(F:mu hh c.fv (ob dl) D)(R:l.length<=1000000)(a:Own [bR aW now c,M,D,cm aL p cJ] o):Calls prog 241 #[aa aW,.agg I.cs.toArray,aa aL] o λr w=>∃v,(p.df=true/\I.t=p.last/\r= .tuple #[ab 0,v]/\∃v1 s m u,eG v [p.mark I.p (iq I)] u/\eG v1 (l++[p.mark I.p (iq I)]) s/\mu hh c.fv (ob (once dl (p.mark I.p (iq I)))) m/\C o (au [bR aW now c,M,D,cm aL p cJ]) [bR aW now {c with marks:=v1},s,m,cm aL p.shut (.map none),u] w)\/(¬(p.df=true/\I.t=p.last)/\r= .tuple #[ab (if(⟨iq I,I.p,I.e,I.t⟩:b7)∈dl then 0 else 6),.slice none 0 0]/\C o (au [bR aW now c,M,D,cm aL p cJ]) [bR aW now c,M,D,cm aL p cJ] w):=by
 obtain⟨d,G⟩:∃d,d=au [bR aW now c,M,D,cm aL p cJ]:=⟨_,j⟩;rw [<-G];have a:C o d [bR aW now c,M,D,cm aL p cJ] o:=G▸a;have J:=F;obtain⟨h,i,P,rfl,S⟩:=F;refine a6 func241 (bJ 2 a j j (λf w a=>?_));have a:C o d [bB f I,bR aW now c,M,[(h,i)],cm aL p cJ] w:=a;refine ar 9 j (ax (C.aj a) j) (bo 0 j j (λz=>?_) (λz=>?_));have a:C o d ([bB f I,cm aL p cJ]++_) _:=a.front;have a:=a.drew;have y:iq I=2:=aR z;refine bx 5 j (λw=>∃ae,C o d ([bB f I,cm aL p cJ]++ae) w) ⟨_,a⟩ ?_;rotate_left
 have a:C o d ([bB f I,cm aL p cJ]++_) _:=a.front;have a:=a.drew;have y:iq I=3:=az (by rw [show I.cu=false from z];decide);refine bx 4 j (λw=>∃ae,C o d ([bB f I,cm aL p cJ]++ae) w) ⟨_,a⟩ ?_;rotate_left
 all_goals
  refine ag 0 3 j (a8 3 j a2 j (ag 4 1 j (ek 16 j (λx=>?_) (λx=>?_))));refine ag 5 1 j (a8 6 j a2 j (ag 7 3 j (a8 10 j a2 j (ag 11 3 j (bL (bo 0 j j (λg=>?_) (λg=>?_)))))))
  .refine ar 4 j (ax (C.aj a) j) ?_;have H:=tY (aW:=aW) (aL:=aL) (now:=now) (n:=I.p) (k:=iq I) (c:=c) (q:=p) (cJ:=cJ) L J R a.ours;rw [y] at H;refine bk 2 H j (λr w⟨v1,s,m,u,N,K,O,Q⟩=>?_);have a:=a.b1 Q;refine an 2 j j ?_;rw [y];exact⟨_,.inl ⟨x,ea.1 g,j,v1,s,m,u,O,N,K,a.as⟩⟩
  have a:C o d ([bB f I,bR aW now c,[(h,i)]]++_) _:=a.front;have a:=a.drew;refine bx 1 j (λw=>∃ae,C o d ([bB f I,bR aW now c,[(h,i)]]++ae) w) ⟨_,a⟩ ?_;rotate_left
  refine ag 5 9 j (bL ?_);have a:C o d ([bB f I,bR aW now c,[(h,i)]]++_) _:=a.front;have a:=a.drew;refine bx 2 j (λw=>∃ae,C o d ([bB f I,bR aW now c,[(h,i)]]++ae) w) ⟨_,a⟩ ?_;rotate_left
  all_goals
   refine ag 0 3 j (a8 3 j a2 (aK some P) (ag 4 2 j (a8 6 j a2 j (ag 7 1 j (a8 8 j a2 j (ag 9 1 j (a8 10 j a2 j (bl 11 j (λw _=>eX (c:=(⟨iq I,I.p,I.e,I.t⟩:b7).cs.toArray) j (λ_=>by rw [y];kernel_rfl)) (bl 12 j (λw⟨_,a⟩=>AC (k:=(⟨iq I,I.p,I.e,I.t⟩:b7)) (key:=hh) S (C.aj (b:=h) a) j j) (ag 13 1 j (bL (cy 0 j j (λA=>?_) (λA=>?_)))))))))))))
   .exact an 4 j j ⟨.slice none 0 0,.inr ⟨(by rintro⟨B,E⟩;first|exact absurd (B.symm.trans x) (by decide)|(rw [ea.2 E] at g;cases g)),by rw [aR A];rfl,a.as⟩⟩
   exact an 5 j j ⟨.slice none 0 0,.inr ⟨(by rintro⟨B,E⟩;first|exact absurd (B.symm.trans x) (by decide)|(rw [ea.2 E] at g;cases g)),by rw [az A];rfl,a.as⟩⟩
theorem Hn{o:World}{aW:Nat}{s:bu}{G:List Chunk}(a9:kF aW s G){N:Nat}(S:s.ok N)(bC:N<=10000)(d:Own [G] o):Calls prog 238 #[aa aW] o λr w=>∃af m,eG r (s.e4).2 m/\kF aW (s.e4).1 af/\C o (au [G]) [af,m] w:=by
 obtain⟨c,gQ,M,D,W,E,rfl⟩:=a9;obtain⟨B,aE⟩:∃B,B=au [bR aW s.now c++(gQ++(M++(D++W)))]:=⟨_,j⟩;rw [<-aE];have d:C o B [bR aW s.now c++(gQ++(M++(D++W)))] o:=aE▸d;have d:=d.p1;obtain⟨am,ah,b2,Y,H,al,aw,an,rfl⟩:=E.l;have hlen:=an.len;have bG:=S.cL;have aM:(Y.map (·.1)).Nodup:=aw.nodup (P:=prog) (cX:=3);have aP:(s.cL.map Prod.fst).Nodup:=by have:=an.keys;rw [<-this];exact aM
 have aN:((cW s.cL).map Prod.fst).Nodup:=(List.Perm.map _ (o6 _ _)).nodup_iff.2 aP;refine jH func238 (bJ 2 d j j (λaC w d=>?_));have d:C o B (J aC #[aa aW] 66::_) w:=d;refine ar 3 j (ax (C.aj d) j) (ar 2 j (ax (C.aj d) j) (bE 0 j j j (pG (by have:=S.now;omega) (by omega)) (dE 2 (d.bc aW) j j j j (λw d=>?_))));have d:C o B (bR aW (s.now+1) c::_) w:=d;refine cx 2 d j (λg w d=>?_);have d:C o B (J g #[.slice none 0 0] 85::_) w:=d;have d:C o B [J aC #[aa aW] 66,J g #[.slice none 0 0] 85,bR aW (s.now+1) c,M,D,W,ay 290 am ah b2,H,[]] w:=C.perm (A:=[J aC #[aa aW] 66,J g #[.slice none 0 0] 85,bR aW (s.now+1) c,M,D,W,ay 290 am ah b2++H]) d.as (by simp);refine ar 3 j (ax (C.aj d) j) ?_;obtain⟨a,V⟩:∃a:Option Addr,a=some ⟨am,0,none⟩:=⟨_,j⟩;have al:c.l= .pointer a:=al.trans (by rw [V]);refine ar 2 j (ax (C.aj (b:=aW) d) (aK some al)) ?_;have be:dI 290 w a Y:=V▸dI.own (d.to (ay 290 am ah b2)) aw;have aq:=wg (o:=w) (p:=a);refine bk 0 aq j (λr w⟨aT,aU,bp,ad⟩=>?_);subst bp;have bd:=be.st ad;have d:=d.aO ad;have d:C o B ([J aT #[.pointer a] 216,[(aU,.cells #[.func (.func 300) #[] #[]] 52 (0,0))]]++[J aC #[aa aW] 66,J g #[.slice none 0 0] 85,bR aW (s.now+1) c,M,D,W,ay 290 am ah b2,H,[]]) w:=d
 refine jM 1 j (zb (by omega)) j (by have:=d.size;simpa using this) d j (λ_=>rfl) (by intro p E;simp at E;rcases E with rfl|rfl<;>rfl)
  (λpre ae=>∃(v:Value)(aH:iS)(x t u m:List Chunk),ae=[J aC #[aa aW] 66,J g #[v] 85,bR aW (s.now+1) aH,x,t,W,ay 290 am ah b2,u,m]/\eG v (((cW s.cL).take pre.length).foldl (bu.fD (s.now+1)) (({s with now:=s.now+1}:bu),[])).2 m/\eG aH.marks (((cW s.cL).take pre.length).foldl (bu.fD (s.now+1)) (({s with now:=s.now+1}:bu),[])).1.marks x/\mu hh aH.fv (ob (((cW s.cL).take pre.length).foldl (bu.fD (s.now+1)) (({s with now:=s.now+1}:bu),[])).1.fv) t/\aH.l=c.l/\aH.answers=c.answers/\c4 qN Y (((cW s.cL).take pre.length).foldl (bu.fD (s.now+1)) (({s with now:=s.now+1}:bu),[])).1.cL u) (λ_ _=>False) ⟨_,c,M,D,H,[],j,eG.nil,E.marks,E.fv,j,j,an⟩ (λL aJ a6=>bd.st a6) (λ_ _ _ _=>trivial) ?_ ?_ (λ_ _ h=>h.elim) (λ_ _ _ h=>h.elim)
 .rintro y pre ⟨z,aY⟩ bt L bM aD ⟨v,aH,x,t,u,m,rfl,R,Q,O,ai,ak,X⟩ d;obtain⟨t1,t2,i,bz,bw,bA,K,aS,bF,bD⟩:=an.nC aD;have K:cW s.cL=t1++(z,i)::t2:=K;have bo:i.ok s.now:=S.kv (z,i) (g7.1 (show(z,i)∈cW s.cL by rw [K];simp))
  have bj:aV Y z=some aY:=by
   obtain⟨bK,bq⟩:=aD;exact mS (q:=(z,aY)) aM (nD.1 (by rw [bq];simp))
  have bs:(cW s.cL).take pre.length=t1:=by rw [K,<-aS,lQ]
  have av:aV (((cW s.cL).take pre.length).foldl (bu.fD (s.now+1)) (({s with now:=s.now+1}:bu),[])).1.cL z=some i:=by
   rw [bs,bu.wd _ _ (λp E=>by
    rw [K,iB,List.map_cons] at aN;have:=(iX.1 aN).2.2;exact λe=>this p.1 (ee.2 ⟨p,E,j⟩) z (by simp) e)]
   exact uL (q:=(z,i)) aP (g7.1 (show(z,i)∈cW s.cL by rw [K];simp))
  have aF:=bu.pt (now:=(s.now+1)) ((cW s.cL).take pre.length) (({s with now:=s.now+1}:bu),[]);have bI:((cW s.cL).take pre.length).length<=8:=by rw [hC,hN];omega
  have aA:=xx (f:=bu.fD (s.now+1)) (b:=((({s with now:=s.now+1}:bu),[]):bu×List b7)) K aS;have bh:(((cW s.cL).take pre.length).foldl (bu.fD (s.now+1)) (({s with now:=s.now+1}:bu),[])).1.marks.length<=s.marks.length+8:=ej aF.2.2.1 (by show s.marks.length+_<=_;omega);have bi:(((cW s.cL).take pre.length).foldl (bu.fD (s.now+1)) (({s with now:=s.now+1}:bu),[])).2.length<=8:=ej aF.2.2.2 (by show 0+_<=_;omega);obtain⟨a0,bg⟩:∃a0,a0=(((cW s.cL).take pre.length).foldl (bu.fD (s.now+1)) (({s with now:=s.now+1}:bu),[])):=⟨_,j⟩;rw [<-bg] at R Q O X av aA bh bi;obtain⟨v0,F,bB,I,aI,rfl,bf,aQ⟩:=X.find av;rw [bj] at aI;cases aI;obtain⟨aL,cJ,U,rfl,a8,rfl⟩:=bf;have d:=C.gg d;refine bH 5 j (⟨j,_,d,λL T d=>?_⟩);obtain⟨u,ab⟩:∃u,u=F++((cm aL i cJ++U)++I):=⟨_,j⟩;rw [<-ab] at d;have d:=C.gg d;have d:C T (au [J aC #[aa aW] 66,J g #[v] 85,bR aW (s.now+1) aH,x,t,W,ay 290 am ah b2,u,m]) [J aC #[aa aW] 66,J g #[v] 85,bR aW (s.now+1) aH,x,t,W,ay 290 am ah b2,F,cm aL i cJ,U,I,m] T:=C.perm (A:=[J aC #[aa aW] 66,J g #[v] 85,bR aW (s.now+1) aH,x,t,W,ay 290 am ah b2,u,m]) d (by rw [ab];simp);have d:C T (au [J aC #[aa aW] 66,J g #[v] 85,bR aW (s.now+1) aH,x,t,W,ay 290 am ah b2,u,m]) ([J aC #[aa aW] 66,bR aW (s.now+1) aH,cm aL i cJ]++_) _:=d.front;have d:=d.drew;refine bx 2 j (λw=>∃ae,C T (au [J aC #[aa aW] 66,J g #[v] 85,bR aW (s.now+1) aH,x,t,W,ay 290 am ah b2,u,m]) ([J aC #[aa aW] 66,bR aW (s.now+1) aH,cm aL i cJ]++ae) w) ⟨_,d⟩ (ag 0 3 j (b4 3 j (λw⟨_,d⟩=>ax (C.aj (b:=aL) d) j) (ag 4 1 j (ek 24 j (λap=>?_) (λap=>?_)))));refine b4 5 j (λw⟨_,d⟩=>ax (C.aj (b:=aC) d) j) (ag 6 2 j (b4 8 j (λw⟨_,d⟩=>ax (C.aj (b:=aW) d) j) (ag 9 3 j (b4 12 j (λw⟨_,d⟩=>ax (C.aj (b:=aL) d) j) (bl 13 j (λw _=>fr j j (rI (by have:=S.now;omega) (by have:=bo.ff;have:=S.now;omega))) (ag 14 2 j (bL (cy 0 j j (λeN=>?_) (λeN=>?_)))))))))
  .have d:C T (au [J aC #[aa aW] 66,J g #[v] 85,bR aW (s.now+1) aH,x,t,W,ay 290 am ah b2,u,m]) ([J aC #[aa aW] 66,J g #[v] 85]++_) _:=d.front;have d:=d.drew;refine bx 0 j (λw=>∃ae,C T (au [J aC #[aa aW] 66,J g #[v] 85,bR aW (s.now+1) aH,x,t,W,ay 290 am ah b2,u,m]) ([J aC #[aa aW] 66,J g #[v] 85]++ae) w) ⟨_,d⟩ (b4 0 j (λw⟨_,d⟩=>ax (C.aj (b:=g) d) j) (b4 1 j (λw⟨_,d⟩=>ax (C.aj (b:=aC) d) j) (ag 2 2 j (aX 4 j ?_))));have aq:=tY (aW:=aW) (aL:=aL) (now:=(s.now+1)) (n:=z) (k:=3) (c:=aH) (q:=i) (cJ:=cJ) Q O (by have:=S.marks;omega) d.ours;refine cS j j j aq (λr w⟨v1,M2,Z,aZ,a7,a5,ba,bm⟩=>?_);have d:=d.b1 bm;have d:C _ _ ([J aC #[aa aW] 66,J g #[v] 85]++_) w:=d.front;refine ao ⟨⟨_,d⟩,?_⟩;refine aX 5 j (qH (d.front (cM:=[m,aZ])) R ba (ol _) j j (by decide) (by decide) j j j (by simp;omega) (λv3 bn w ac d=>?_));have ac:=eG.rR ac;have d:C _ _ ([J aC #[aa aW] 66,J g #[v] 85]++_) w:=d.front;refine ao ⟨⟨_,d⟩,?_⟩;refine dK 6 j (cO (d.bc g) j j j ac.one bO (λw d=>?_));have d:C _ _ (J g #[v3] 85::_) w:=d;have d:C _ _ [J aC #[aa aW] 66,J g #[v3] 85,bR aW (s.now+1) {aH with marks:=v1},M2,Z,W,ay 290 am ah b2,F,cm aL i.shut (.map none),I,bn] w:=d.as;refine ao (c5 (bH 0 j ?_));have aB:bu.fD (s.now+1) a0 (z,i)=(a0.1.gD z i 3,a0.2++[i.mark z 3]):=aR ⟨ap,eN⟩;subst ab;refine⟨[J aC #[aa aW] 66,J g #[v3] 85,bR aW (s.now+1) {aH with marks:=v1},M2,Z,W,ay 290 am ah b2,(F++((cm aL i.shut (.map none)++[])++I)),bn],C.perm (A:=[J aC #[aa aW] 66,J g #[v3] 85,bR aW (s.now+1) {aH with marks:=v1},M2,Z,W,ay 290 am ah b2,F,cm aL i.shut (.map none),I,bn]) d (by simp),v3,{aH with marks:=v1},M2,Z,_,bn,j,?_⟩;rw [cj,List.length_singleton,aA,aB];exact⟨ac,a7,a5,ai,ak,aQ i.shut _ ⟨aL,.map none,[],j,⟨j,j⟩,j⟩⟩
  refine bH 1 j ?_;rotate_left
  refine ag 5 11 j (bL (bH 2 j ?_));rotate_left
  all_goals
   have aB:bu.fD (s.now+1) a0 (z,i)=a0:=az (by rintro⟨a3,a4⟩;first|exact absurd (a3.symm.trans ap) (by decide)|exact absurd a4 eN);subst ab;refine⟨[J aC #[aa aW] 66,J g #[v] 85,bR aW (s.now+1) aH,x,t,W,ay 290 am ah b2,(F++((cm aL i cJ++U)++I)),m],C.perm (A:=[J aC #[aa aW] 66,J g #[v] 85,bR aW (s.now+1) aH,x,t,W,ay 290 am ah b2,F,cm aL i cJ,U,I,m]) d.as (by simp),v,aH,x,t,_,m,j,?_⟩;rw [cj,List.length_singleton,aA,aB];refine⟨R,Q,O,ai,ak,?_⟩;have:=aQ i _ ⟨aL,cJ,U,j,a8,j⟩
   rwa [rZ av] at this
 rintro xs bv w bb ⟨v,aH,x,t,u,m,rfl,R,Q,O,ai,ak,X⟩ d;rw [bb,h8,hlen,ic (by rw [hN];exact cF _)] at R Q O X;have d:C o B [J aT #[.pointer a] 216,[(aU,.cells #[.func (.func 300) #[] #[]] 52 (0,0))],J aC #[aa aW] 66,J g #[v] 85,bR aW (s.now+1) aH,x,t,W,ay 290 am ah b2,u,m] w:=d;refine ar 2 j (ax (C.aj (b:=g) d) j) (bH 1 j ⟨v,λw br=>?_⟩);have d:=br.st d (cF _);refine⟨λa V=>iP (fn:=f238) V j _ _,?_⟩;have aG:=bu.pt (now:=(s.now+1)) (cW s.cL) (({s with now:=s.now+1}:bu),[]);have a1:(s.e4).1.now=s.now+1:=aG.1;have a2:(s.e4).1.answers=s.answers:=aG.2.1;have d:C o B [bR aW (s.now+1) aH,ay 290 am ah b2,u,x,t,W,m] w:=d.as;refine⟨_,m,R,⟨aH,ay 290 am ah b2++u,x,t,W,⟨⟨am,ah,b2,Y,u,by rw [ai,al,V],aw,X,j⟩,Q,O,by rw [ak,a2];exact E.answers⟩,j⟩,?_⟩;rw [a1];exact C.perm (A:=[bR aW (s.now+1) aH,ay 290 am ah b2,u,x,t,W,m]) d (by simp)
theorem Fz{I:bD}(h:gf I=true): -1000<=I.t/\I.t<=1000:=by
 unfold gf at h;simp only [d8] at h;have a:=h.2;split at a
 .simp only [bD.ids,d8,ea] at a;obtain⟨⟨⟨_,⟨_,b⟩⟩,_⟩,_⟩:=a;omega
 .split at a
  .simp only [bD.ids,d8,ea] at a;obtain⟨⟨⟨_,⟨_,b⟩⟩,_⟩,_⟩:=a;omega
  .split at a
   .simp only [jO,np,d8] at a;omega
   .split at a
    .simp only [jO,np,d8] at a;omega
    .cases a
theorem CO{o:World}{aW:Nat}{s:bu}{G:List Chunk}{I:bD}(aB:kF aW s G){N:Nat}(L:s.ok N)(aw:N<=10000)(aM:gf I=true)(a:Own [G] o):Calls prog 190 #[aa aW,.agg I.cs.toArray] o λr w=>∃v af E,r= .tuple #[kc (s.bF I).2.1,v]/\eG v (s.bF I).2.2 E/\kF aW (s.bF I).1 af/\C o (au [G]) [af,E] w:=by
 have aC:=aB;obtain⟨c,gQ,M,D,W,i,aE⟩:=aB;obtain⟨d,av⟩:∃d,d=au [G]:=⟨_,j⟩;rw [<-av];have a:C o d [G] o:=av▸a;refine fj func190 (bJ 2 a j j (λg w a=>?_));have a:C o d (bB g I::_) w:=a;refine cx 0 a j (λf w a=>?_);have a:C o d (J f #[ab 0,ab 0,ab 0] 123::_) w:=a;refine ar 5 j (ax (C.aj (b:=g) a) j) (bo 5 j j (λm=>?_) (λm=>?_))
 .refine bP 3 (U:=I.cs) j j j (bq (C.aj (b:=g) a)) ?_;have y:=BT (I:=I) aC L aw a.ours;refine bk 0 y j (λr w⟨v,af,E,T,Q,al,z⟩=>?_);subst T;have a:=a.b1 z;refine cv 2 (a.bc f) j j j j j (λw a=>?_);have a:=C.whole (U:=[ab (s.dc I).2.1.1,ab (s.dc I).2.1.2.1,ab (s.dc I).2.1.2.2]) a j;have a:C o d (J f #[ab (s.dc I).2.1.1,ab (s.dc I).2.1.2.1,ab (s.dc I).2.1.2.2] 123::_) w:=a;refine bH 1 j ⟨_,ds results190 j j j j a.bQ,?_⟩
  have u:s.bF I=s.dc I:=by
   unfold bu.bF;exact aR (ea.1 m)
  rw [u];exact⟨v,af,E,j,Q,al,a.as⟩
 refine bo 4 j j (λn=>?_) (λn=>?_)
 .refine aq 2 j (cP (c:= #[ab 0,ab 0,ab 0]) j j j (λ_=>by kernel_rfl) ?_);have y:=Hn aC L aw a.ours;refine bk 1 y j (λr w⟨af,E,Q,al,z⟩=>?_);have a:=a.b1 z;refine cv 0 (a.bc f) j j j j j (λw a=>?_);have a:=C.whole (U:=[ab 0,ab 0,ab 0]) a j;have a:C o d (J f #[ab 0,ab 0,ab 0] 123::_) w:=a;refine bH 1 j ⟨_,ds results190 j j j j a.bQ,?_⟩
  have u:s.bF I=((s.e4).1,(0,0,0),(s.e4).2):=by
   unfold bu.bF;exact(az (by rw [fp] at m;exact m)).trans (aR (ea.1 n))
  rw [u];exact⟨_,af,E,j,Q,al,a.as⟩
 rw [aE] at a;have a:C o d [bR aW s.now c++(gQ++(M++(D++W))),J f #[ab 0,ab 0,ab 0] 123,bB g I] _:=a.as;have a:C o d [bR aW s.now c,gQ,M,D,W,J f #[ab 0,ab 0,ab 0] 123,bB g I] _:=a.p1;obtain⟨am,ah,b2,O,H,R,S,Z,rfl⟩:=i.l;have a:C o d ([bB g I,bR aW s.now c]++_) _:=a.front;have a:=a.drew;refine bx 2 j (λw=>∃ae,C o d ([bB g I,bR aW s.now c]++ae) w) ⟨_,a⟩ (ag 0 3 j (a8 3 j a2 (aK some R) (ag 4 1 j (a8 5 j a2 j (aX 6 j ?_)))));have aH:=dI.own (C.perm (A:=[ay 290 am ah b2++H,bB g I,bR aW s.now c]) (B:=[ay 290 am ah b2,H,bB g I,bR aW s.now c]) a.as (by simp)) S;have y:=Dq (k:=I.p) aH;refine bK j j j y (λw z=>?_);have a:=a.aO z;have a:C o d ([bB g I,bR aW s.now c]++_) w:=a.front;refine ao ⟨⟨_,a⟩,?_⟩;refine ag 7 5 j (bL (bo 7 j j (λak=>?_) (λak=>?_)))
 .refine aq 2 j (cP (c:= #[ab 4,ab 0,ab 0]) j j j (λ_=>by kernel_rfl) ?_);refine cv 0 (a.bc f) j j j j j (λw a=>?_);have a:=C.whole (U:=[ab 4,ab 0,ab 0]) a j;have a:C o d (J f #[ab 4,ab 0,ab 0] 123::_) w:=a;refine bH 1 j ⟨_,ds results190 j j j j a.bQ,?_⟩
  have u:s.bF I=(s,(4,0,0),[]):=by
   unfold bu.bF;refine(az (by rw [fp] at m;exact m)).trans ((az (by rw [fp] at n;exact n)).trans ?_);have q:(aV O I.p).isSome=false:=by simpa using ak
   rw [Z.isSome] at q;rw [l7 q]
  rw [u];have a:C o d [bR aW s.now c,ay 290 am ah b2++H,M,D,W,[]] w:=(C.empty a).as;exact⟨_,_,[],j,eG.nil,⟨c,ay 290 am ah b2++H,M,D,W,⟨⟨am,ah,b2,O,H,R,S,Z,j⟩,i.marks,i.fv,i.answers⟩,j⟩,a.xV⟩
 obtain⟨p,F⟩:∃p,aV s.cL I.p=some p:=by
  have q:(aV O I.p).isSome=true:=by simpa using ak
  rw [Z.isSome] at q;exact g8.1 q
 obtain⟨v0,H1,aP,x,aJ,rfl,aI,ap⟩:=Z.find F;obtain⟨aL,cJ,K,rfl,aA,rfl⟩:=aI;have aN:p.ok s.now:=L.kv _ (io F);have a:C o d [bR aW s.now c,ay 290 am ah b2,H1,cm aL p cJ,K,x,M,D,W,J f #[ab 0,ab 0,ab 0] 123,bB g I] _:=C.perm (A:=[bR aW s.now c,ay 290 am ah b2++(H1++((cm aL p cJ++K)++x)),M,D,W,J f #[ab 0,ab 0,ab 0] 123,bB g I]) a.as (by simp);have a:C o d ([bB g I,cm aL p cJ]++_) _:=a.front;have a:=a.drew;refine bx 1 j (λw=>∃ae,C o d ([bB g I,cm aL p cJ]++ae) w) ⟨_,a⟩ (iF 6 (aa aL) j (by rw [aJ];rfl) (ag 0 1 j (a8 1 j a2 j (ag 2 3 j (a8 5 j a2 j (ag 6 2 j (bL (bo 0 j j (λP=>?_) (λP=>?_)))))))));refine aq 2 j (cP (c:= #[ab 5,ab 0,ab 0]) j j j (λ_=>by kernel_rfl) ?_);refine cv 0 (a.bc f) j j j j j (λw a=>?_);have a:=C.whole (U:=[ab 5,ab 0,ab 0]) a j;have a:C o d (J f #[ab 5,ab 0,ab 0] 123::_) w:=a;refine bH 1 j ⟨_,ds results190 j j j j a.bQ,?_⟩
 have u:s.bF I=(s,(5,0,0),[]):=by
  unfold bu.bF;refine(az (by rw [fp] at m;exact m)).trans ((az (by rw [fp] at n;exact n)).trans ?_);rw [F];exact aR (by simpa using P)
 rotate_left
 refine ar 3 j (ax (C.aj (b:=g) a) j) (bo 2 j j (λX=>?_) (λX=>?_))
 .refine bP 3 (U:=I.cs) j j j (bq (C.aj (b:=g) a)) ?_;have y:=Bb (aW:=aW) (aL:=aL) (c:=c) (I:=I) aA aN (by have:=L.now;omega) (Fz aM) a.ours;refine br 1 y j (λw⟨ac,V,aG,z⟩=>?_);have a:=a.b1 z;refine cP (c:= #[ab (p.add s.now I).2,ab 0,ab 0]) j j j (λ_=>by kernel_rfl) (cv 0 (a.bc f) j j j j j (λw a=>?_));have a:=C.whole (U:=[ab (p.add s.now I).2,ab 0,ab 0]) a j;have a:C o d (J f #[ab (p.add s.now I).2,ab 0,ab 0] 123::_) w:=a;refine bH 1 j ⟨_,ds results190 j j j j a.bQ,?_⟩
  have u:s.bF I=((s.ps I p).1,((s.ps I p).2,0,0),[]):=by
   unfold bu.bF;refine(az (by rw [fp] at m;exact m)).trans ((az (by rw [fp] at n;exact n)).trans ?_);rw [F];exact(az (by simpa using P)).trans (if_pos (beq_iff_eq.1 X))
  rw [u];have a:C o d [bR aW s.now c,ay 290 am ah b2,H1,cm aL (p.add s.now I).1 ac,V,x,M,D,W,[]] w:=(C.empty a).as;have q:=ap (p.add s.now I).1 _ ⟨aL,ac,V,j,aG,j⟩;exact⟨_,_,[],j,eG.nil,⟨c,ay 290 am ah b2++(H1++((cm aL (p.add s.now I).1 ac++V)++x)),M,D,W,⟨⟨am,ah,b2,O,_,R,S,q,j⟩,i.marks,i.fv,i.answers⟩,j⟩,C.perm (A:=[bR aW s.now c,ay 290 am ah b2,H1,cm aL (p.add s.now I).1 ac,V,x,M,D,W,[]]) a (by simp [bu.ps])⟩
 refine bP 4 (U:=I.cs) j j j (bq (C.aj (b:=g) a)) (aq 1 j ?_);by_cases Y:p.df=true/\I.t=p.last
 .have y:=xc (aW:=aW) (aL:=aL) (now:=s.now) (c:=c) (p:=p) (cJ:=cJ) (I:=I) i.marks i.fv (by have:=L.marks;omega) a.ours;refine bk 0 y j (λr w⟨v,an⟩=>?_);obtain⟨_,_,T,v1,ai,ad,E,Q,aF,aD,z⟩:=an.resolve_right (λh=>h.1 Y);subst T;have a:=a.b1 z;refine aq 8 j (cP (c:= #[ab 0,ab 0,ab 0]) j j j (λ_=>by kernel_rfl) ?_);refine cv 1 (a.bc f) j j j j j (λw a=>?_);have a:=C.whole (U:=[ab 0,ab 0,ab 0]) a j;have a:C o d (J f #[ab 0,ab 0,ab 0] 123::_) w:=a;refine bH 1 j ⟨_,ds results190 j j j j a.bQ,?_⟩
  have u:s.bF I=(s.gD I.p p (iq I),(0,0,0),[p.mark I.p (iq I)]):=by
   unfold bu.bF;refine(az (by rw [fp] at m;exact m)).trans ((az (by rw [fp] at n;exact n)).trans ?_);rw [F];refine(az (by simpa using P)).trans ((if_neg (by simpa using X)).trans ?_);unfold bu.ends;rw [aR Y]
  rw [u];have a:C o d [bR aW s.now {c with marks:=v1},ay 290 am ah b2,H1,cm aL p.shut (.map none),x,ai,ad,W,E] w:=a.as;have q:=ap p.shut _ ⟨aL,.map none,[],j,⟨j,j⟩,j⟩;exact⟨_,_,E,j,Q,⟨{c with marks:=v1},ay 290 am ah b2++(H1++((cm aL p.shut (.map none)++[])++x)),ai,ad,W,⟨⟨am,ah,b2,O,_,R,S,q,j⟩,aF,aD,i.answers⟩,j⟩,C.perm (A:=[bR aW s.now {c with marks:=v1},ay 290 am ah b2,H1,cm aL p.shut (.map none),x,ai,ad,W,E]) a (by simp [bu.gD])⟩
 have y:=xc (aW:=aW) (aL:=aL) (now:=s.now) (c:=c) (p:=p) (cJ:=cJ) (I:=I) i.marks i.fv (by have:=L.marks;omega) a.ours;refine bk 0 y j (λr w⟨v,an⟩=>?_);obtain⟨_,T,z⟩:=an.resolve_left (λh=>Y ⟨h.1,h.2.1⟩);subst T;have a:=a.b1 z;refine aq 8 j (cP (c:= #[ab (if(⟨iq I,I.p,I.e,I.t⟩:b7)∈s.fv then 0 else 6),ab 0,ab 0]) j j j (λ_=>by kernel_rfl) ?_);refine cv 1 (a.bc f) j j j j j (λw a=>?_);have a:=C.whole (U:=[ab (if(⟨iq I,I.p,I.e,I.t⟩:b7)∈s.fv then 0 else 6),ab 0,ab 0]) a j;have a:C o d (J f #[ab (if(⟨iq I,I.p,I.e,I.t⟩:b7)∈s.fv then 0 else 6),ab 0,ab 0] 123::_) w:=a;refine bH 1 j ⟨_,ds results190 j j j j a.bQ,?_⟩
 have u:s.bF I=(s,((if(⟨iq I,I.p,I.e,I.t⟩:b7)∈s.fv then 0 else 6),0,0),[]):=by
  unfold bu.bF;refine(az (by rw [fp] at m;exact m)).trans ((az (by rw [fp] at n;exact n)).trans ?_);rw [F];refine(az (by simpa using P)).trans ((if_neg (by simpa using X)).trans ?_);unfold bu.ends;rw [az Y];split<;>rfl
 rotate_left
 all_goals
  rw [u];have a:C o d [bR aW s.now c,ay 290 am ah b2,H1,cm aL p cJ,K,x,M,D,W,[]] w:=(C.empty a).as;have q:=ap p _ ⟨aL,cJ,K,j,aA,j⟩;rw [rZ F] at q;exact⟨_,_,[],j,eG.nil,⟨c,ay 290 am ah b2++(H1++((cm aL p cJ++K)++x)),M,D,W,⟨⟨am,ah,b2,O,_,R,S,q,j⟩,i.marks,i.fv,i.answers⟩,j⟩,C.perm (A:=[bR aW s.now c,ay 290 am ah b2,H1,cm aL p cJ,K,x,M,D,W,[]]) a (by simp)⟩
theorem EQ(l:List ((Int×Int)×(Int×Int×Int)))(k:Int×Int):(aV (ni l) k).getD (kc (0,0,0))=kc ((aV l k).getD (0,0,0)):=by
 unfold ni;rw [mR];cases aV l k<;>rfl
theorem yh(l:List ((Int×Int)×(Int×Int×Int)))(k:Int×Int):(aV (ni l) k).isSome=(aV l k).isSome:=by
 unfold ni;rw [mR];cases aV l k<;>rfl
theorem wp{o:World}{aW:Nat}{s:bu}{G:List Chunk}{I:bD}(X:kF aW s G){N:Nat}(aA:s.ok N)(ai:N<=10000)(d:Own [G] o):Calls prog 137 #[aa aW,.agg I.cs.toArray] o λr w=>∃v af m,r= .tuple #[kc (s.apply I).2.1,v]/\eG v (s.apply I).2.2 m/\kF aW (s.apply I).1 af/\C o (au [G]) [af,m] w:=by
 have O:=X;obtain⟨c,gQ,M,D,W,aB,L⟩:=X;obtain⟨e,V⟩:∃e,e=au [G]:=⟨_,j⟩;rw [<-V];have d:C o e [G] o:=V▸d;refine fj func137 (bJ 2 d j j (λh w d=>?_));have d:C o e (bB h I::_) w:=d;refine cx 0 d j (λg w d=>?_);have d:C o e [J g #[ab 0,ab 0,ab 0] 123,bB h I,G] w:=d;refine bP 4 (U:=I.cs) j j j (bq (C.aj (b:=h) d)) (bk 0 (t7 (I:=I)) j (λr w⟨aF,aD,S,aE,P⟩=>?_));subst S;have d:=d.aO P;refine aq 10 j (bY 20 (.bool false) j (aK Value.bool (j)) ?_);refine bo 3 j j (λH=>?_) (λH=>?_)
 .have ay:gf I=false:=u2 H;refine aq 2 j (cP (c:= #[ab 6,ab 0,ab 0]) j j j (λ_=>by kernel_rfl) ?_);refine cv 0 (d.bc g) j j j j j (λw d=>?_);have d:=C.whole (U:=[ab 6,ab 0,ab 0]) d j;have d:C o e (J g #[ab 6,ab 0,ab 0] 123::_) w:=d;refine bH 1 j ⟨_,ds results137 j j j j d.bQ,?_⟩
  have u:s.apply I=(s,(6,0,0),[]):=by
   unfold bu.apply;exact aR ay
  rw [u];exact⟨_,G,[],j,eG.nil,O,(C.empty d).as⟩
 have R:gf I=true:=u3 H;refine ar 4 j (ax (C.aj (b:=h) d) j) (ar 1 j (ax (C.aj (b:=h) d) j) (cP (c:= #[ab I.c,ab I.s]) j j j (λ_=>by kernel_rfl) (cx 0 d j (λf w d=>cv 0 (d.bc f) j j j j j (λw d=>?_)))));have d:=C.whole (U:=[ab I.c,ab I.s]) d j;have d:C o e (J f #[ab I.c,ab I.s] 315::_) w:=d;rw [L] at d;have d:C o e [bR aW s.now c++(gQ++(M++(D++W))),J f #[ab I.c,ab I.s] 315,J g #[ab 0,ab 0,ab 0] 123,bB h I] _:=d.as;have d:C o e [bR aW s.now c,gQ,M,D,W,J f #[ab I.c,ab I.s] 315,J g #[ab 0,ab 0,ab 0] 123,bB h I] _:=d.p1;obtain⟨n,t,am,rfl,ap⟩:=aB.answers;have d:C o e ([bR aW s.now c,J f #[ab I.c,ab I.s] 315,[(n,t)]]++_) _:=d.front;have d:=d.drew;refine bx 2 j (λw=>∃ae,C o e ([bR aW s.now c,J f #[ab I.c,ab I.s] 315,[(n,t)]]++ae) w) ⟨_,d⟩ (ag 0 3 j (a8 3 j a2 (aK some am) (bl 4 j (λw⟨_,d⟩=>dd (U:=[ab I.c,ab I.s]) j j j (bq (C.aj (b:=f) d))) (bl 5 j (λw⟨_,d⟩=>sX (key:=kL) (k:=(I.c,I.s)) ap (C.aj (b:=n) d) j j) (ag 6 3 j (aX 9 j (eu d j j (λF w d=>?_))))))));have d:C o e ([bR aW s.now c,J f #[ab I.c,ab I.s] 315,[(n,t)]]++_) w:=d.front;refine ao ⟨⟨_,d⟩,?_⟩;obtain⟨a,Z⟩:∃a,a=((aV s.answers (I.c,I.s)).getD (0,0,0)):=⟨_,j⟩;refine iF 37 (kc a) j (by rw [Z];exact EQ _ _) (aX 10 j (c6 (d.bc F) j j j j j bO (λw d=>?_)));have d:=C.whole (U:=[ab a.1,ab a.2.1,ab a.2.2]) d j;have d:C o e (J F #[ab a.1,ab a.2.1,ab a.2.2] 123::_) w:=d;have d:C o e ([bR aW s.now c,J f #[ab I.c,ab I.s] 315,[(n,t)]]++_) w:=d.front;refine ao ⟨⟨_,d⟩,?_⟩;refine ag 11 1 j (bL (bo 3 j j (λK=>?_) (λK=>?_)))
 .refine bP 2 (U:=[ab a.1,ab a.2.1,ab a.2.2]) j j j (bq (C.aj (b:=F) d)) (cv 0 (d.bc g) j j j j j (λw d=>?_));have d:=C.whole (U:=[ab a.1,ab a.2.1,ab a.2.2]) d j;have d:C o e (J g #[ab a.1,ab a.2.1,ab a.2.2] 123::_) w:=d;refine bH 1 j ⟨_,ds results137 j j j j d.bQ,?_⟩
  obtain⟨eK,Y⟩:∃eK,aV s.answers (I.c,I.s)=some eK:=by
   have q:=K;rw [yh] at q;exact g8.1 q
  have al:a=eK:=by rw [Z,Y];rfl
  have u:s.apply I=(s,a,[]):=by
   unfold bu.apply;rw [az (by rw [R];decide),Y,al]
  rw [u];refine⟨_,G,[],j,eG.nil,O,?_⟩;rw [L];exact C.perm (A:=[bR aW s.now c,gQ,M,D,[(n,t)],[]]) (C.empty d).as (by simp)
 refine bP 4 (U:=I.cs) j j j (bq (C.aj (b:=h) d)) ?_;have d:C o e [G,J g #[ab 0,ab 0,ab 0] 123,bB h I,J f #[ab I.c,ab I.s] 315] w:=by rw [L];exact C.perm (A:=[bR aW s.now c,gQ,M,D,[(n,t)],J g #[ab 0,ab 0,ab 0] 123,bB h I,J f #[ab I.c,ab I.s] 315]) d.as (by simp)
 have an:=CO (I:=I) O aA ai R d.ours;refine bk 0 an j (λr w⟨v,af,m,S,ak,ah,P⟩=>?_);subst S;have d:=d.b1 P;refine cx 3 d j (λi w d=>cv 0 (d.bc i) j j j j j (λw d=>?_));have d:=C.whole (U:=[ab (s.bF I).2.1.1,ab (s.bF I).2.1.2.1,ab (s.bF I).2.1.2.2]) d j;have d:C o e (J i #[ab (s.bF I).2.1.1,ab (s.bF I).2.1.2.1,ab (s.bF I).2.1.2.2] 123::_) w:=d;obtain⟨aH,B,z,y,ad,E,rfl⟩:=ah;have d:C o e [bR aW (s.bF I).1.now aH++(B++(z++(y++ad))),J i #[ab (s.bF I).2.1.1,ab (s.bF I).2.1.2.1,ab (s.bF I).2.1.2.2] 123,m,J f #[ab I.c,ab I.s] 315,J g #[ab 0,ab 0,ab 0] 123,bB h I] _:=d.as;have d:=d.p1;obtain⟨p,T,ac,rfl,av⟩:=E.answers;have d:C o e ([bR aW (s.bF I).1.now aH,J f #[ab I.c,ab I.s] 315,J i #[ab (s.bF I).2.1.1,ab (s.bF I).2.1.2.1,ab (s.bF I).2.1.2.2] 123,[(p,T)]]++_) _:=d.front;have d:=d.drew;refine bx 2 j (λw=>∃ae,C o e ([bR aW (s.bF I).1.now aH,J f #[ab I.c,ab I.s] 315,J i #[ab (s.bF I).2.1.1,ab (s.bF I).2.1.2.1,ab (s.bF I).2.1.2.2] 123,[(p,T)]]++ae) w) ⟨_,d⟩ (ag 0 3 j (a8 3 j a2 (aK some ac) (bl 4 j (λw⟨_,d⟩=>dd (U:=[ab I.c,ab I.s]) j j j (bq (C.aj (b:=f) d))) (bl 5 j (λw⟨_,d⟩=>dd (U:=[ab (s.bF I).2.1.1,ab (s.bF I).2.1.2.1,ab (s.bF I).2.1.2.2]) j j j (bq (C.aj (b:=i) d))) (dK 6 j (je (key:=kL) (k:=(I.c,I.s)) av (d.to [(p,T)]) j j j j (λx w Q d=>?_)))))))
 have Q:cf kL x (ni (bV (s.bF I).1.answers (I.c,I.s) (s.bF I).2.1)):=by
  unfold ni;rw [<-uP];exact Q
 have d:C o e [bR aW (s.bF I).1.now aH,B,z,y,[(p,x)],J i #[ab (s.bF I).2.1.1,ab (s.bF I).2.1.2.1,ab (s.bF I).2.1.2.2] 123,m,J f #[ab I.c,ab I.s] 315,J g #[ab 0,ab 0,ab 0] 123,bB h I] w:=d.as;refine ao (c5 (bP 2 (U:=[ab (s.bF I).2.1.1,ab (s.bF I).2.1.2.1,ab (s.bF I).2.1.2.2]) j j j (bq (C.aj (b:=i) d)) (cv 1 (d.bc g) j j j j j (λw d=>?_))));have d:=C.whole (U:=[ab (s.bF I).2.1.1,ab (s.bF I).2.1.2.1,ab (s.bF I).2.1.2.2]) d j;have d:C o e (J g #[ab (s.bF I).2.1.1,ab (s.bF I).2.1.2.1,ab (s.bF I).2.1.2.2] 123::_) w:=d;refine bH 1 j ⟨_,ds results137 j j j j d.bQ,?_⟩
 have aw:aV s.answers (I.c,I.s)=none:=by
  have q:=K;rw [yh] at q;cases aC:aV s.answers (I.c,I.s) with
  |none=>rfl
  |some _=>rw [aC] at q;cases q
 have u:s.apply I=({(s.bF I).1 with answers:=bV (s.bF I).1.answers (I.c,I.s) (s.bF I).2.1},(s.bF I).2.1,(s.bF I).2.2):=by
  unfold bu.apply;rw [az (by rw [R];decide),aw]
 rw [u];have d:C o e [bR aW (s.bF I).1.now aH,B,z,y,[(p,x)],m] w:=d.as;exact⟨v,_,m,j,ak,⟨aH,B,z,y,[(p,x)],⟨E.l,E.marks,E.fv,⟨p,x,ac,j,Q⟩⟩,j⟩,d.xV⟩
theorem rY{α:Type}:∀{m:List (Int×α)}{k:Int}{v:α},k∈m.map Prod.fst->(bV m k v).map Prod.fst=m.map Prod.fst
 |[],_,_,h=>by simp at h
 |(R,u)::r,k,v,h=>by
  simp only [bV];split
  .rename_i he;simp [he]
  .rename_i a;simp only [jh]
   rw [rY (by
    rcases hD.1 (show k∈R::r.map Prod.fst from h) with h|h
    ·exact absurd h.symm a
    ·exact h)]
theorem ER{α:Type}{m:List (Int×α)}{k:Int}{a:α}(h:aV m k=some a):k∈m.map Prod.fst:=ee.2 ⟨_,io h,j⟩
theorem dt.ok.shut{now:Int}{p:dt}(h:p.ok now):p.shut.ok now:=⟨h.b3,h.last,h.ff,λh=>by cases h⟩
theorem om{α:Type}{P:α->Prop}{m:List (Int×α)}{k:Int}{v:α}(h:∀q∈m,P q.2)(c:P v):∀q∈bV m k v,P q.2:=λq b=>by
 rcases kY b with a|a
 .exact h q a
 .rw [a];exact c
theorem bu.ok.fD{N:Nat}:∀(l:List (Int×dt))(a:bu×List b7),a.1.cL.length<=8->(∀q∈a.1.cL,q.2.ok a.1.now)->(∀p∈l,p.1∈a.1.cL.map Prod.fst/\p.2.ok a.1.now)->((l.foldl (bu.fD N) a).1.cL.length<=8/\∀q∈(l.foldl (bu.fD N) a).1.cL,q.2.ok a.1.now)
 |[],a,f,b,_=>⟨f,b⟩
 |p::r,a,f,b,c=>by
  rw [h5];obtain⟨h,i⟩:=c p (by simp);by_cases g:p.2.df=true/\5<=(N:Int)-p.2.ff
  .have e:bu.fD N a p=(a.1.gD p.1 p.2 3,a.2++[p.2.mark p.1 3]):=aR g;rw [e];have ad:(bV a.1.cL p.1 p.2.shut).map Prod.fst=a.1.cL.map Prod.fst:=rY h;have j:(bV a.1.cL p.1 p.2.shut).length=a.1.cL.length:=by have:=aK List.length ad;simpa using this
   exact bu.ok.fD r (a.1.gD p.1 p.2 3,_) (by show(bV _ _ _).length<=8;omega) (om (P:=dt.ok a.1.now) b i.shut) (λq d=>⟨by show q.1∈(bV _ _ _).map Prod.fst;rw [ad];exact(c q (by simp [d])).1,(c q (by simp [d])).2⟩)
  .have e:bu.fD N a p=a:=az g;rw [e];exact bu.ok.fD r a f b (λq d=>c q (by simp [d]))
theorem bu.ok.e4{N:Nat}{s:bu}(h:s.ok N):(s.e4).1.ok (N+1):=by
 have aF:=bu.pt (now:=s.now+1) (cW s.cL) (({s with now:=s.now+1}:bu),[]);have aT:0<=s.now:=h.now.1;obtain⟨K,e⟩:∃K:Nat,(K:Int)=s.now+1:=⟨(s.now+1).toNat,by omega⟩
 have b:=bu.ok.fD (N:=K) (cW s.cL) (({s with now:=s.now+1}:bu),[]) h.cL (λq c=>(h.kv q c).mono (by show s.now<=s.now+1;omega)) (λp a=>by
  have a:=g7.1 a;exact⟨ee.2 ⟨p,a,j⟩,(h.kv p a).mono (by show s.now<=s.now+1;omega)⟩)
 rw [e] at b
 have f:(s.e4).1.marks.length<=s.marks.length+8:=ej aF.2.2.1 (by
  rw [hN];have:=h.cL;show s.marks.length+_<=_;omega)
 have d:(s.e4).1.now=s.now+1:=aF.1;exact⟨b.1,λq c=>by rw [d];exact b.2 q c,by have:=h.marks;omega,by rw [d];exact⟨by omega,by have:=h.now.2;omega⟩⟩
theorem bu.ok.dc{N:Nat}{s:bu}(h:s.ok N)(I:bD):(s.dc I).1.ok (N+1):=by
 unfold bu.dc;cases aT:s.named I.ef with
 |none=>
  dsimp only;split
  .exact h.mono (ev _)
  .rename_i b;refine⟨?_,?_,?_,?_⟩
   .have:=l8 s.cL (s.cL.length:Int) (dt.new I.ef);show(bV _ _ _).length<=8;omega
   .exact om (P:=dt.ok s.now) h.kv ⟨⟨j0 _,show(0:Int)<=100 by decide⟩,⟨j0 _,show(0:Int)<=100 by decide⟩,⟨j0 _,h.now.1⟩,λh=>by cases h⟩
   .have:=h.marks;simp only [cj,List.length_singleton];omega
   .exact⟨h.now.1,by have:=h.now.2;show s.now<=_;omega⟩
 |some d=>
  obtain⟨n,p⟩:=d;have c:=(bu.yt aT).1;have a:p.ok s.now:=h.kv _ c;have ad:n∈s.cL.map Prod.fst:=ee.2 ⟨_,c,j⟩;have b:∀v,(bV s.cL n v).length<=8:=λv=>by have:=aK List.length (rY (v:=v) ad);have e:=h.cL;simp only [fa] at this;omega
  dsimp only;split
  .exact h.mono (ev _)
  .rename_i he;split
   .refine⟨b _,om (P:=dt.ok s.now) h.kv ⟨?_,⟨j0 _,show(0:Int)<=100 by decide⟩,a.ff,λh=>by cases h⟩,?_,?_⟩
    .have:=a.b3;show 0<=p.b3+1/\p.b3+1<=100;omega
    .have:=h.marks;simp only [cj,List.length_singleton];omega
    .exact⟨h.now.1,by have:=h.now.2;show s.now<=_;omega⟩
   .refine⟨b _,om (P:=dt.ok s.now) h.kv ⟨?_,⟨j0 _,show(0:Int)<=100 by decide⟩,a.ff,a.parts⟩,?_,?_⟩
    .have:=a.b3;show 0<=p.b3+1/\p.b3+1<=100;omega
    .have:=h.marks;simp only [cj,List.length_singleton];omega
    .exact⟨h.now.1,by have:=h.now.2;show s.now<=_;omega⟩
theorem dt.ok.add{now:Int}{p:dt}{I:bD}(h:p.ok now)(aT:0<=now):(p.add now I).1.ok now:=by
 unfold dt.add;split
 .exact⟨h.b3,h.last,h.ff,λ_=>rfl⟩
 .split
  .exact h
  .split
   .exact h
   .split
    .exact h
    .rename_i a b c d;have:=h.last;exact⟨h.b3,⟨by show 0<=I.t;omega,by show I.t<=100;omega⟩,⟨aT,j0 _⟩,λ_=>rfl⟩
theorem bu.ok.bF{N:Nat}{s:bu}(h:s.ok N)(I:bD):(s.bF I).1.ok (N+1):=by
 unfold bu.bF;split
 .exact h.dc I
 .split
  .exact h.e4
  .cases a:aV s.cL I.p with
   |none=>exact h.mono (ev _)
   |some p=>
    dsimp only;have ad:I.p∈s.cL.map Prod.fst:=ER a;have c:p.ok s.now:=h.kv _ (io a);have b:∀v,(bV s.cL I.p v).length<=8:=λv=>by have:=aK List.length (rY (v:=v) ad);have d:=h.cL;simp only [fa] at this;omega
    split
    .exact h.mono (ev _)
    .split
     .exact⟨b _,om (P:=dt.ok s.now) h.kv (c.add h.now.1),by have:=h.marks;show s.marks.length<=_;omega,⟨h.now.1,by have:=h.now.2;show s.now<=_;omega⟩⟩
     .unfold bu.ends;split
      .refine⟨b _,om (P:=dt.ok s.now) h.kv c.shut,?_,⟨h.now.1,by have:=h.now.2;show s.now<=_;omega⟩⟩;have:=h.marks;show(s.marks++[_]).length<=_;simp only [cj,List.length_singleton];omega
      .split<;>exact h.mono (ev _)
theorem bu.ok.apply{N:Nat}{s:bu}(h:s.ok N)(I:bD):(s.apply I).1.ok (N+1):=by
 unfold bu.apply;split
 .exact h.mono (ev _)
 .split
  .exact h.mono (ev _)
  .exact{h.bF I with}
theorem bu.lz(N:Nat):bu.new.ok N:=⟨cp _,(by intro q a;cases a),cp _,⟨j0 _,by show(0:Int)<=N;omega⟩⟩
theorem bu.Hp{N:Nat}{s:bu}(h:s.ok N):(s.e4).2.length<=8:=by
 have aF:=bu.pt (now:=s.now+1) (cW s.cL) (({s with now:=s.now+1}:bu),[]);refine ej aF.2.2.2 ?_;rw [hN];have:=h.cL;show 0+_<=8;omega
theorem bu.t3{N:Nat}{s:bu}(h:s.ok N)(I:bD):(s.bF I).2.2.length<=8:=by
 unfold bu.bF;split
 .unfold bu.dc;split
  .split<;>simp
  .split
   .simp
   .split<;>simp
 .split
  .exact bu.Hp h
  .split
   .simp
   .split
    .simp
    .split
     .simp
     .unfold bu.ends;split
      .simp
      .split<;>simp
theorem bu.wq{N:Nat}{s:bu}(h:s.ok N)(I:bD):(s.apply I).2.2.length<=8:=by
 unfold bu.apply;split
 .simp
 .split
  .simp
  .exact bu.t3 h I
structure bm where
 aw:Int
 s:aE
 c:bu
 dq:Nat
 aI:List b7
 answers:List (Int×(Int×Int×Int))
def bm.new(aw:Int):bm:=⟨aw,aE.new aw,bu.new,0,[],[]⟩
def e1(c s:Int):Int:=IntKind.i64.wrap (IntKind.i64.wrap (c*1048577)+s)
abbrev ord(b:List UInt8):bD:=md (b0 b 2)
def bm.fX(x:bm)(b:List UInt8):bm:=
 if jr (b0 b 2)=true then{x with c:=(x.c.apply (ord b)).1,answers:=bV x.answers (e1 (ord b).c (ord b).s) (x.c.apply (ord b)).2.1,aI:=x.aI++(x.c.apply (ord b)).2.2.filter (·.ok)} else x
def bm.gB(x:bm):bm:={((x.s.log.map Prod.fst).drop x.dq).foldl bm.fX x with dq:=x.s.log.length}
def bm.ask(g:al)(x:bm)(I:bD):bm×List aY×Int:=
 if gf I=true then(bm.gB {x with s:=(x.s.eF g (h6 I)).1},(x.s.eF g (h6 I)).2.1,(x.s.eF g (h6 I)).2.2) else(x,[],1)
def bm.take(g:al)(x:bm)(m:aY):bm×List aY:=(bm.gB {x with s:=(x.s.take g m).1},(x.s.take g m).2)
def bm.tick(g:al)(x:bm):bm×List aY:=(bm.gB {x with s:=(x.s.tick g).1},(x.s.tick g).2)
structure bm.ok(g:al)(N:Nat)(x:bm):Prop where
 s:x.s.ok g N
 c:x.c.ok x.dq
 aI:x.aI.length<=8*x.dq
 dq:x.dq<=x.s.log.length
 aw:x.s.aw=x.aw
def jB(g:al)(aw:Int):List Value->List b7->List Chunk->Prop
 |[],[],G=>G=[]
 |u::us,m::ms,G=>∃af aB,G=af++aB/\en u [dr g m aw] af/\jB g aw us ms aB
 |[],_::_,_=>False
 |_::_,[],_=>False
abbrev nj(us:List Value)(ms:List b7):List Value:=(us.zip ms).flatMap λe=>e.2.cs++[e.1]
def mp(g:al)(aw:Int)(v:Value)(ms:List b7)(G:List Chunk):Prop:=∃ak H us,G=ak++H/\Row 121 5 v ms.length (nj us ms) ak/\jB g aw us ms H
theorem jB.len{g:al}{aw:Int}:∀{us:List Value}{ms:List b7}{G:List Chunk},jB g aw us ms G->us.length=ms.length
 |[],[],_,_=>rfl
 |[],_::_,_,h=>h.elim
 |_::_,[],_,h=>h.elim
 |_::us,_::ms,_,⟨_,_,_,_,h⟩=>by simp [h.len]
theorem jB.app{g:al}{aw:Int}:∀{us d:List Value}{ms c:List b7}{G a:List Chunk},jB g aw us ms G->jB g aw d c a->jB g aw (us++d) (ms++c) (G++a)
 |[],_,[],_,_,_,h,b=>by have h:_=[]:=h;subst h;exact b
 |[],_,_::_,_,_,_,h,_=>h.elim
 |_::_,_,[],_,_,_,h,_=>h.elim
 |_::_,_,_::_,_,_,a,⟨af,aB,rfl,e,h⟩,b=>⟨af,aB++a,by simp [dS],e,h.app b⟩
theorem jB.one{g:al}{aw:Int}{u:Value}{m:b7}{G:List Chunk}(h:en u [dr g m aw] G):jB g aw [u] [m] G:=⟨G,[],by simp,h,j⟩
def m8(v:Value)(a:Int×Int×Int)(G:List Chunk):Prop:=v=kc a/\G=[]
structure kH where
 ba:Nat
 fO:Nat
 aI:Value
 answers:Value
abbrev oK(g:al)(x:bm)(c:kH):List Value:=[g.p,ab x.aw,.pointer (some ⟨c.ba,0,none⟩),.pointer (some ⟨c.fO,0,none⟩),ab (x.dq:Int),c.aI,c.answers]
abbrev dN(g:al)(a:Nat)(x:bm)(c:kH):List Chunk:=J a (oK g x c).toArray 70
structure A9(g:al)(x:bm)(c:kH)(bj eA c1 c2:List Chunk):Prop where
 s:h3 g c.ba x.s bj
 k:kF c.fO x.c eA
 aI:mp g x.aw c.aI x.aI c1
 answers:fo 225 m8 c.answers x.answers c2
def hB(g:al)(a:Nat)(x:bm)(G:List Chunk):Prop:=∃(c:kH)(bj eA c1 c2:List Chunk),A9 g x c bj eA c1 c2/\G=dN g a x c++(bj++(eA++(c1++c2)))
theorem C.r7{g:al}{a:Nat}{x:bm}{c:kH}{bj eA c1 c2:List Chunk}{ae:List (List Chunk)}{o w:World}{F:List Nat}(h:C o F ((dN g a x c++(bj++(eA++(c1++c2))))::ae) w):C o F (dN g a x c::bj::eA::c1::c2::ae) w:=h.perm (by simp)
theorem C.og{g:al}{a:Nat}{x:bm}{c:kH}{bj eA c1 c2:List Chunk}{ae:List (List Chunk)}{o w:World}{F:List Nat}(h:C o F (dN g a x c::bj::eA::c1::c2::ae) w):C o F ((dN g a x c++(bj++(eA++(c1++c2))))::ae) w:=h.perm (by simp)
theorem Rd.from{w:World}{A:Option Addr}{us:List Value}{n c k:Nat}(h:Rd w A us)(f:Flat A)(aT:us.length=n)(ad:k<=n)(g:n<=c):Rd w (if c=k then A else A.map (·.add (k*1))) (us.drop k):=λi v d=>by
 rw [mI] at d;have l:k+i<us.length:=(e8.1 d).1;rw [az (by omega)];obtain⟨a,e,ih⟩:=h (k+i) v d;rcases f with rfl|⟨b,I,rfl⟩
 .cases e
 .cases e;refine⟨_,j,?_⟩;rw [add_lit] at ih;show w.cell? (((⟨b,I,none⟩:Addr).add (k*1)).add i)=some v;rw [gK,add_lit,add_lit,q5];exact ih
theorem bm.Bu(x:bm)(b:List UInt8):(x.fX b).s=x.s/\(x.fX b).aw=x.aw/\(x.fX b).dq=x.dq:=by
 unfold bm.fX;split<;>exact⟨j,j,j⟩
theorem bm.rg:∀(l:List (List UInt8))(x:bm),(l.foldl bm.fX x).s=x.s/\(l.foldl bm.fX x).aw=x.aw/\(l.foldl bm.fX x).dq=x.dq
 |[],_=>⟨j,j,j⟩
 |b::r,x=>by
  rw [h5];have a:=bm.rg r (x.fX b);have c:=x.Bu b;exact⟨a.1.trans c.1,a.2.1.trans c.2.1,a.2.2.trans c.2.2⟩
theorem bm.tF:∀(l:List (List UInt8))(x:bm)(N:Nat),x.c.ok N->x.aI.length<=8*N->(l.foldl bm.fX x).c.ok (N+l.length)/\(l.foldl bm.fX x).aI.length<=8*(N+l.length)
 |[],_,_,h,a=>⟨h,a⟩
 |b::r,x,N,h,a=>by
  rw [h5,ex]
  have d:(x.fX b).c.ok (N+1)/\(x.fX b).aI.length<=8*(N+1):=by
   unfold bm.fX;split
   .refine⟨h.apply _,?_⟩;show(x.aI++_).length<=_;rw [cj];have f:=bu.wq h (ord b);have g:=nV (·.ok) (x.c.apply (ord b)).2.2;omega
   .exact⟨h.mono (ev _),by omega⟩
  have f:=bm.tF r (x.fX b) (N+1) d.1 d.2;have e:N+(r.length+1)=N+1+r.length:=by omega
  rw [e];exact f
theorem bm.ok.gB{g:al}{N:Nat}{x:bm}(aF:x.s.ok g N)(h:x.c.ok x.dq)(i:x.aI.length<=8*x.dq)(m:x.dq<=x.s.log.length)(hm:x.s.aw=x.aw):x.gB.ok g N:=by
 obtain⟨a,f,l⟩:=bm.rg ((x.s.log.map Prod.fst).drop x.dq) x;obtain⟨b,d⟩:=bm.tF ((x.s.log.map Prod.fst).drop x.dq) x x.dq h i;have e:x.dq+((x.s.log.map Prod.fst).drop x.dq).length=x.s.log.length:=by rw [iC,fa];omega
 rw [e] at b d;unfold bm.gB;obtain⟨y,k⟩:∃y,y=((x.s.log.map Prod.fst).drop x.dq).foldl bm.fX x:=⟨_,j⟩;rw [<-k] at a f b d⊢;exact⟨by show y.s.ok g N;rw [a];exact aF,b,d,by show x.s.log.length<=y.s.log.length;rw [a];exact cF _,by show y.s.aw=y.aw;rw [a,f];exact hm⟩
theorem xW{o:World}{c s:Int}:Calls prog 107 #[ab c,ab s] o λr w=>r=ab (e1 c s)/\w=o:=by
 refine a6 func107 ?_;refine an 10 j j ?_;exact⟨j,j⟩
theorem uX{o:World}{g:al}{aw:Int}:Calls prog 30 #[g.p,ab aw] o λr w=>∃h G,r=aa h/\hB g h (bm.new aw) G/\C o [] [G] w:=by
 have a:Own [] o:=C.start o;refine a6 func30 (bk 9 (E8 (g:=g) (aw:=aw)) j (λr w⟨ba,bj,d,aF,b⟩=>?_));subst d;have a:=a.aO b;refine bk 0 E2 j (λr w⟨fO,eA,d,ad,b⟩=>?_);subst d;have a:=a.aO b;refine bk 0 E7 j (λr w⟨bS,f,d,i,b⟩=>?_);subst d;have a:=a.aO b;refine cP (c:=(oK g (bm.new aw) (⟨ba,fO,.slice none 0 0,aa bS⟩:kH)).toArray) j j j (λ_=>by kernel_rfl) (bJ 0 a j j (λe w a=>an 1 j j ?_));have a:C o [] (dN g e (bm.new aw) (⟨ba,fO,.slice none 0 0,aa bS⟩:kH)::_) w:=a;have a:C o [] [dN g e (bm.new aw) (⟨ba,fO,.slice none 0 0,aa bS⟩:kH),bj,eA,[],ay 225 bS f (.map #[] 0)] w:=C.perm (A:=[dN g e (bm.new aw) (⟨ba,fO,.slice none 0 0,aa bS⟩:kH),bj,eA,ay 225 bS f (.map #[] 0)]) a.as (by simp);exact⟨e,_,j,⟨(⟨ba,fO,.slice none 0 0,aa bS⟩:kH),bj,eA,[],_,⟨aF,ad,⟨[],[],[],j,Row.nil _ _,j⟩,fo.new i⟩,j⟩,a.og⟩
theorem Ff{b:Bool}(h:((if b=true then(0:Int) else 2) !=0)=true):b=false:=by cases b<;>simp_all
theorem Fg{b:Bool}(h:((if b=true then(0:Int) else 2) !=0)=false):b=true:=by cases b<;>simp_all
theorem xj{α:Type}{p:α->Bool}{l:List α}{R:Nat}(h:R<l.length):(l.take (R+1)).filter p=(l.take R).filter p++(if p l[R]=true then [l[R]] else []):=by
 rw [fK h,mE];by_cases a:p l[R]=true
 .rw [aR a];simp [a]
 .rw [az a];simp [a]
theorem tE{o:World}{g:al}{d:Nat}{x:bm}{G:List Chunk}(bU:hB g d x G){N:Nat}(aF:x.s.ok g N)(b4:x.c.ok x.dq)(cq:x.aI.length<=8*x.dq)(cB:x.dq<=x.s.log.length)(bt:g.at o)(bw:g.ok)(aY:g.off (au [G]))(a:Own [G] o):Calls prog 78 #[aa d] o λr w=>r= .tuple #[]/\∃af,hB g d x.gB af/\C o (au [G]) [af] w:=by
 obtain⟨c,bj,eA,c1,c2,aH,rfl⟩:=bU;obtain⟨z,a7⟩:∃z,z=au [dN g d x c++(bj++(eA++(c1++c2)))]:=⟨_,j⟩;rw [<-a7] at aY⊢;have a:C o z [dN g d x c++(bj++(eA++(c1++c2)))] o:=a7▸a;have a:=a.r7;have cG:=aF.log;have cc:(x.s.log.map Prod.fst).length=x.s.log.length:=fa _;refine a6 func78 ?_;refine ar 5 j (ax (C.aj (b:=d) a) j) ?_;obtain⟨cr,bJ,cw,cz,cy,cl,be⟩:=aH.s;have P:=ya (ba:=c.ba) (g:=g) (s:=x.s) (c:=cr) (L:=bJ) (by have h:=a.holds (G:=bj) (by simp);rw [be] at h;exact h.left.head) cl.log (by have h:=a.holds (G:=bj) (by simp);rw [be] at h;exact h.right.left) aF;refine bk 0 P j (λr w⟨cu,bS,Q⟩=>?_);obtain⟨K,J,us,rfl,bg,a4⟩:=bS;obtain⟨ap,av,rfl,bT,cA⟩:=bg.form;have a:=a.aO Q;have a:C o z [dN g d x c,bj,eA,c1,c2,K,J] w:=C.perm (A:=[dN g d x c,bj,eA,c1,c2,K++J]) a.as (by simp);have cm:us.length=(x.s.log.map Prod.fst).length:=a4.len;refine ar 8 j (ax (C.aj (b:=d) a) j) ?_;refine nK j j j j (show x.dq<=_ by omega) ?_
 refine dj 3 j (cU:=Nat×Value×List Chunk×List Chunk×List Chunk) (λk=>[(0,aa d),(2,.slice ap (x.s.log.map Prod.fst).length av),(23,.slice (if av=x.dq then ap else ap.map (·.add (x.dq*1))) ((x.s.log.map Prod.fst).length-x.dq) (av-x.dq)),(24,.int .i64 ((x.s.log.map Prod.fst).length-x.dq:Nat)),(25,.int .i64 (k.1:Nat))])
  (λk w=>k.1<=(x.s.log.map Prod.fst).length-x.dq/\kF c.fO ((((x.s.log.map Prod.fst).drop x.dq).take k.1).foldl bm.fX x).c k.2.2.1/\mp g x.aw k.2.1 ((((x.s.log.map Prod.fst).drop x.dq).take k.1).foldl bm.fX x).aI k.2.2.2.1/\fo 225 m8 c.answers ((((x.s.log.map Prod.fst).drop x.dq).take k.1).foldl bm.fX x).answers k.2.2.2.2/\C o z [dN g d x {c with aI:=k.2.1},bj,k.2.2.1,k.2.2.2.1,k.2.2.2.2,K,J] w) (λk=>(x.s.log.map Prod.fst).length-x.dq-k.1) (0,c.aI,eA,c1,c2) ⟨j,j,j,j,j,bb⟩ ⟨cp _,aH.k,aH.aI,aH.answers,a⟩ ?_
 rintro⟨i,B,eA,c1,c2⟩ w ⟨b6,ad,V,aE,a⟩;dsimp only at b6 ad V aE a⊢;have aJ:=bm.tF (((x.s.log.map Prod.fst).drop x.dq).take i) x x.dq b4 cq;rw [show x.dq+(((x.s.log.map Prod.fst).drop x.dq).take i).length=x.dq+i by rw [hC,iC];omega] at aJ
 have aW:∀(ai:i<(x.s.log.map Prod.fst).length-x.dq),((((x.s.log.map Prod.fst).drop x.dq).take (i+1)).foldl bm.fX x)=((((x.s.log.map Prod.fst).drop x.dq).take i).foldl bm.fX x).fX ((x.s.log.map Prod.fst)[x.dq+i]'(by omega)):=λai=>by
  rw [fK (by rw [iC];omega),nb,List.getElem_drop];rfl
 obtain⟨y,bG⟩:∃y,y=((((x.s.log.map Prod.fst).drop x.dq).take i).foldl bm.fX x):=⟨_,j⟩;rw [<-bG] at ad V aE aJ aW;refine bo 4 j j (λaQ=>?_) (λaQ=>?_)
 .have ai:i<(x.s.log.map Prod.fst).length-x.dq:=by have:=dV aQ;omega
  obtain⟨_,_,e,_,_,ck,b5⟩:=bg.read (a.holds (G:=K) (by simp));cases e;have ch:=Rd.from ck b5 cm (show x.dq<=(x.s.log.map Prod.fst).length by omega) bT;obtain⟨b,aL⟩:∃b,b=(x.s.log.map Prod.fst)[x.dq+i]'(by omega):=⟨_,j⟩;obtain⟨bH,ci,bF,b9,cE,bD⟩:=a4.read (a.holds (G:=J) (by simp)) (x.dq+i) (by omega);rw [<-aL] at bF b9 bD
  have cC:b.length<=200:=by
   obtain⟨e,he,bR⟩:=ee.1 (show b∈(x.s.log.map Prod.fst) by rw [aL];exact eB _);rw [<-bR];exact(aF.ns e he).1
  refine aq 5 j (fJ j j j j ch (v:=.slice bH b.length ci) (by rw [gK,mI];exact bF) ai (λbM a1 br=>?_));refine ar 0 j br ?_;have P:=CI (c:=ci) bD (by omega);refine bk 4 P j (λr w⟨W,Q⟩=>?_);obtain⟨D,bz⟩:∃D,D=(if jr (b0 b 2) then md (b0 b 2) else c7):=⟨_,j⟩;rw [<-bz] at W;subst W;have a:=a.aO Q;have a:C o z [dN g d x {c with aI:=B},bj,eA,c1,c2,K,J] w:=a.as;refine cx 3 a j (λE w a=>?_);have a:C o z (bB E c7::_) w:=a;refine cv 0 (a.bc E) j j j j j (λw a=>?_);have a:=C.whole (U:=D.cs) a j;have a:C o z (bB E D::_) w:=a;refine bo 6 j j (λeN=>?_) (λeN=>?_)
  .refine bE 2 j j j (dn i (by omega)) ?_;refine bW 1 j ?_;have b3:jr (b0 b 2)=false:=Ff eN;have aZ:y.fX b=y:=az (by rw [b3];decide);refine⟨(i+1,B,eA,c1,c2),⟨j,j,j,j,j,bb⟩,⟨ai,?_⟩,by dsimp only;omega⟩;dsimp only;rw [aW ai,<-aL,aZ];exact⟨ad,V,aE,a.as⟩
  have a:C o z ([dN g d x {c with aI:=B},bB E D]++_) _:=a.front;have a:=a.drew;have bn:jr (b0 b 2)=true:=Fg eN;have cf:D=md (b0 b 2):=by rw [bz,aR bn]
  refine bx 2 j (λw=>∃ae,C o z ([dN g d x {c with aI:=B},bB E D]++ae) w) ⟨_,a⟩ ?_;refine ag 0 3 j ?_;refine a8 3 j a2 j ?_;refine bl 4 j (λw⟨_,a⟩=>dd (U:=D.cs) j j j (bq (C.aj (b:=E) a))) ?_;refine aS 5 9 j j ?_ ?_;have P:=wp (I:=D) ad (N:=x.dq+i) aJ.1 (by omega) (a.ours (cM:=[eA]));refine cS j j j P (λr w⟨ct,M,O,W,aA,bv,Q⟩=>?_);obtain⟨cn,n8,rfl,_,_⟩:=aA.form;obtain⟨ms,aG⟩:∃ms,ms=(y.c.apply D).2.2:=⟨_,j⟩;obtain⟨q,aM⟩:∃q,q=(y.c.apply D).2.1:=⟨_,j⟩;rw [<-aG] at aA W;rw [<-aM] at W;subst W;have a:=a.b1 Q;have a:C o z ([dN g d x {c with aI:=B},bB E D]++_) w:=a.front;refine ao ⟨⟨_,a⟩,?_⟩;refine ag 6 3 j ?_;refine aX 9 j ?_;refine eu a j j (λT w a=>?_);have a:C o z ([dN g d x {c with aI:=B},bB E D]++_) w:=a.front;refine ao ⟨⟨_,a⟩,?_⟩;rotate_left
  refine eu a j j (λT w a=>?_);have a:C o z ([dN g d x {c with aI:=B},bB E D]++_) w:=a.front;refine ao ⟨⟨_,a⟩,?_⟩;refine aX 5 j ?_;have P:=wp (I:=D) ad (N:=x.dq+i) aJ.1 (by omega) (a.ours (cM:=[eA]));refine cS j j j P (λr w⟨ct,M,O,W,aA,bv,Q⟩=>?_);obtain⟨cn,n8,rfl,_,_⟩:=aA.form;obtain⟨ms,aG⟩:∃ms,ms=(y.c.apply D).2.2:=⟨_,j⟩;obtain⟨q,aM⟩:∃q,q=(y.c.apply D).2.1:=⟨_,j⟩;rw [<-aG] at aA W;rw [<-aM] at W;subst W;have a:=a.b1 Q;have a:C o z ([dN g d x {c with aI:=B},bB E D]++_) w:=a.front;refine ao ⟨⟨_,a⟩,?_⟩;refine ag 6 3 j ?_;rotate_left
  all_goals
   refine aX 10 j ?_;refine c6 (a.bc T) j j j j j bO (λw a=>?_);have a:=C.whole (U:=[ab q.1,ab q.2.1,ab q.2.2]) a j;have a:C o z ([(T,.cells #[ab q.1,ab q.2.1,ab q.2.2] 123 (0,0))]::_) w:=a;have a:C o z ([dN g d x {c with aI:=B},bB E D]++_) w:=a.front;refine ao ⟨⟨_,a⟩,?_⟩;refine ag 11 1 j ?_;refine bL ?_;have a:C o z ([dN g d x {c with aI:=B},bB E D,[(T,.cells #[ab q.1,ab q.2.1,ab q.2.2] 123 (0,0))]]++_) _:=a.front;have a:=a.drew;refine bx 1 j (λw=>∃ae,C o z ([dN g d x {c with aI:=B},bB E D,[(T,.cells #[ab q.1,ab q.2.1,ab q.2.2] 123 (0,0))]]++ae) w) ⟨_,a⟩ ?_;refine ag 0 3 j ?_;refine a8 3 j a2 j ?_;refine ag 4 1 j ?_;refine a8 5 j a2 j ?_;refine ag 6 1 j ?_;refine a8 7 j a2 j ?_;refine bl 9 j (λw⟨_,a⟩=>dd (U:=[ab q.1,ab q.2.1,ab q.2.2]) j j j (bq (C.aj (b:=T) a))) ?_;refine aX 8 j ?_;refine bK j j j (xW (c:=D.c) (s:=D.s)) (λw hw=>?_);have hw:=hw.symm;subst hw;refine ao ⟨⟨_,a⟩,?_⟩;refine aX 10 j ?_;obtain⟨am,ah,b2,cK,H,bp,ce,co,rfl⟩:=aE;have a:C o z [dN g d x {c with aI:=B},bB E D,[(T,.cells #[ab q.1,ab q.2.1,ab q.2.2] 123 (0,0))],bj,M,c1,ay 225 am ah b2,H,K,J,O] _:=C.perm (A:=[dN g d x {c with aI:=B},bB E D,[(T,.cells #[ab q.1,ab q.2.1,ab q.2.2] 123 (0,0))],bj,M,c1,ay 225 am ah b2++H,K,J,O]) a.as (by simp);have P:=GB (k:=e1 D.c D.s) (l:=[ab q.1,ab q.2.1,ab q.2.2]) j j (a.ours (cM:=[ay 225 am ah b2])) ce;refine bY 48 (aa am) j bp ?_;refine bK j j j P (λw⟨aB,cd,Q⟩=>?_);have a:=a.b1 Q;obtain⟨aC,bI,a0,bA⟩:=co.put (k:=e1 D.c D.s) (show m8 (kc q) q [] from⟨j,j⟩);rw [gA] at bA;have a3:fo 225 m8 c.answers (bV y.answers (e1 D.c D.s) q) (ay 225 am ah aB++aC):=⟨am,ah,aB,_,aC,bp,cd,a0,j⟩;have a:C o z [dN g d x {c with aI:=B},bB E D,[(T,.cells #[ab q.1,ab q.2.1,ab q.2.2] 123 (0,0))],bj,M,c1,ay 225 am ah aB,K,J,O,H] w:=a.as
   have a:C o z [dN g d x {c with aI:=B},bB E D,[(T,.cells #[ab q.1,ab q.2.1,ab q.2.2] 123 (0,0))],bj,M,c1,ay 225 am ah aB,K,J,O,bI,aC] w:=a.perm (by
    simp only [jZ,mF,gA];exact .append_left _ (.append_left _ (.append_left _ (.append_left _ (.append_left _ (.append_left _ (.append_left _ (.append_left _ (.append_left _ (.append_left _ bA))))))))))
   obtain⟨X,bd⟩:∃X,X=ay 225 am ah aB++aC:=⟨_,j⟩;rw [<-bd] at a3;have a:C o z [dN g d x {c with aI:=B},bB E D,[(T,.cells #[ab q.1,ab q.2.1,ab q.2.2] 123 (0,0))],bj,M,c1,X,K,J,O] w:=C.perm (A:=[dN g d x {c with aI:=B},bB E D,[(T,.cells #[ab q.1,ab q.2.1,ab q.2.2] 123 (0,0))],bj,M,c1,ay 225 am ah aB,aC,K,J,O]) a.as (by rw [bd];simp);refine ao ⟨⟨_,a⟩,?_⟩;refine bL ?_;have cH:ms.length<=8:=by rw [aG];exact bu.wq aJ.1 D
   have bs:∀e∈ms,(b7.cs e).length=4:=λ_ _=>rfl
   refine dj 6 j (cU:=Nat×Value×List Chunk) (λk=>[(0,aa d),(2,.slice ap (x.s.log.map Prod.fst).length av),(23,.slice (if av=x.dq then ap else ap.map (·.add (x.dq*1))) ((x.s.log.map Prod.fst).length-x.dq) (av-x.dq)),(24,.int .i64 ((x.s.log.map Prod.fst).length-x.dq:Nat)),(25,.int .i64 (i:Nat)),(56,.slice cn ms.length n8),(57,.int .i64 (ms.length:Nat)),(58,.int .i64 (k.1:Nat))])
    (λk w=>k.1<=ms.length/\mp g x.aw k.2.1 (y.aI++(ms.take k.1).filter (·.ok)) k.2.2/\C o z [dN g d x {c with aI:=k.2.1},bj,M,k.2.2,X,K,J,O] w) (λk=>ms.length-k.1) (0,B,c1) ⟨j,j,j,j,j,j,j,j,bb⟩ ⟨cp _,by simpa using V,a.as⟩ ?_
   rintro⟨R,B,c1⟩ w ⟨ca,V,a⟩;dsimp only at ca V a⊢;refine bo 4 j j (λaU=>?_) (λaU=>?_)
   .refine aq 5 j ?_;have ak:R<ms.length:=by have:=dV aU;omega
    obtain⟨_,_,e,_,_,bC,_⟩:=aA.read (a.holds (G:=O) (by simp));cases e;refine fJ j j j j bC (v:=ab ms[R].k) (iI (f:=b7.cs) (R:=0) ms bs R ak (by decide) j) ak (λbM a1 br=>?_);subst a1;refine bP 0 (U:=ms[R].cs) j j j (j6 (f:=b7.cs) bC bs R ak) ?_;refine cx 0 a j (λF w a=>?_);refine cv 0 (a.bc F) j j j j j (λw a=>?_);have a:=C.whole (U:=ms[R].cs) a j;have a:C o z ([(F,.cells ms[R].cs.toArray 110 (0,0))]::_) w:=a;have a:C o z ([dN g d x {c with aI:=B},[(F,.cells ms[R].cs.toArray 110 (0,0))]]++_) _:=a.front;have a:=a.drew;refine bx 1 j (λw=>∃ae,C o z ([dN g d x {c with aI:=B},[(F,.cells ms[R].cs.toArray 110 (0,0))]]++ae) w) ⟨_,a⟩ ?_;refine ag 0 3 j ?_;refine a8 3 j a2 j ?_;refine bl 4 j (λw⟨_,a⟩=>dd (U:=ms[R].cs) j j j (bq (C.aj (b:=F) a))) ?_;refine ag 5 3 j ?_;refine a8 8 j a2 j ?_;refine aS 9 13 j j ?_ ?_;have P:=rX (bt.st a aY) bw (m:=ms[R]) (f:=x.aw);refine bK j j j P (λw Q=>?_);have a:=a.aO Q;have a:C o z ([dN g d x {c with aI:=B},[(F,.cells ms[R].cs.toArray 110 (0,0))]]++_) w:=a.front;refine ao ⟨⟨_,a⟩,?_⟩;refine ag 10 3 j ?_;refine aX 13 j ?_;refine eu a j j (λS w a=>?_);have a:C o z ([(S,.cells lG.cs.toArray 115 (0,0))]::_) w:=a;have a:C o z ([dN g d x {c with aI:=B},[(F,.cells ms[R].cs.toArray 110 (0,0))]]++_) w:=a.front;refine ao ⟨⟨_,a⟩,?_⟩;rotate_left
    refine eu a j j (λS w a=>?_);have a:C o z ([(S,.cells lG.cs.toArray 115 (0,0))]::_) w:=a;have a:C o z ([dN g d x {c with aI:=B},[(F,.cells ms[R].cs.toArray 110 (0,0))]]++_) w:=a.front;refine ao ⟨⟨_,a⟩,?_⟩;refine aX 9 j ?_;have P:=rX (bt.st a aY) bw (m:=ms[R]) (f:=x.aw);refine bK j j j P (λw Q=>?_);have a:=a.aO Q;have a:C o z ([dN g d x {c with aI:=B},[(F,.cells ms[R].cs.toArray 110 (0,0))]]++_) w:=a.front;refine ao ⟨⟨_,a⟩,?_⟩;refine ag 10 3 j ?_;rotate_left
    all_goals
     refine aX 14 j ?_;refine c6 (a.bc S) j j j (by simpa using(dr g ms[R] x.aw).one) (by rw [List.size_toArray];exact(dr g ms[R] x.aw).len (iL g ms[R] x.aw)) bO (λw a=>?_);have a:=C.whole (U:=(dr g ms[R] x.aw).cs) a (by rw [(dr g ms[R] x.aw).len (iL g ms[R] x.aw)];rfl);have a:C o z ([(S,.cells (dr g ms[R] x.aw).cs.toArray 115 (0,0))]::_) w:=a;have a:C o z ([dN g d x {c with aI:=B},[(F,.cells ms[R].cs.toArray 110 (0,0))]]++_) w:=a.front;refine ao ⟨⟨_,a⟩,?_⟩;refine ag 15 1 j ?_;refine bL ?_;refine bo 3 j j (λaV=>?_) (λaV=>?_)
     .have cg:ms[R].ok=true:=aV;have cJ:((dr g ms[R] x.aw)).ok:=(iL g ms[R] x.aw);obtain⟨aP,ac,U,rfl,bX,a5⟩:=V;have cD:=nV (·.ok) (ms.take R);have cI:(ms.take R).length<=8:=by rw [hC];omega
      have a:C o z [dN g d x {c with aI:=B},[(F,.cells ms[R].cs.toArray 110 (0,0))],[(S,.cells (dr g ms[R] x.aw).cs.toArray 115 (0,0))],bj,M,aP,ac,X,K,J,O] _:=C.perm (A:=[dN g d x {c with aI:=B},[(F,.cells ms[R].cs.toArray 110 (0,0))],[(S,.cells (dr g ms[R] x.aw).cs.toArray 115 (0,0))],bj,M,aP++ac,X,K,J,O]) a.as (by simp);have a:=a.drew;refine bx 0 j (λw=>∃ae,C o z ([dN g d x {c with aI:=B},[(F,.cells ms[R].cs.toArray 110 (0,0))],[(S,.cells (dr g ms[R] x.aw).cs.toArray 115 (0,0))]]++ae) w) ⟨_,a⟩ ?_;refine ag 0 4 j ?_;refine a8 4 j a2 j ?_;refine bl 5 j (λw⟨_,a⟩=>dd (U:=ms[R].cs) j j j (bq (C.aj (b:=F) a))) ?_;refine bl 6 j (λw⟨_,a⟩=>dd (U:=(dr g ms[R] x.aw).cs) j j ((dr g ms[R] x.aw).len (iL g ms[R] x.aw)) (bq (C.aj (b:=S) a))) ?_;refine aX 7 j ?_;refine gj (U:=(dr g ms[R] x.aw).cs) a j j j ((dr g ms[R] x.aw).len (iL g ms[R] x.aw)) (by decide) (by decide) (λY w a=>?_);have a:C o z ([dN g d x {c with aI:=B},[(F,.cells ms[R].cs.toArray 110 (0,0))],[(S,.cells (dr g ms[R] x.aw).cs.toArray 115 (0,0))]]++_) w:=a.front;refine ao ⟨⟨_,a⟩,?_⟩;refine bl 8 j (λw _=>eX (c:=([ab ms[R].k,ab ms[R].p,ab ms[R].e,ab ms[R].t,Value.slice (some ⟨Y,0,none⟩) 1 1]).toArray) j (λ_=>by kernel_rfl)) ?_;refine aX 9 j ?_;refine gj (U:=([ab ms[R].k,ab ms[R].p,ab ms[R].e,ab ms[R].t,Value.slice (some ⟨Y,0,none⟩) 1 1])) a j j j j bO bO (λbN w a=>?_);have aT:=bq (C.aj (b:=bN) a);have a:C o z ([dN g d x {c with aI:=B},[(F,.cells ms[R].cs.toArray 110 (0,0))],[(S,.cells (dr g ms[R] x.aw).cs.toArray 115 (0,0))]]++_) w:=a.front;refine ao ⟨⟨_,a⟩,?_⟩;refine aX 10 j ?_;refine e6 (a.to aP) bX j j (by decide) j j j (m:=1) (news:=([ab ms[R].k,ab ms[R].p,ab ms[R].e,ab ms[R].t,Value.slice (some ⟨Y,0,none⟩) 1 1])) j aT (by intro u hu;simp [b7.cs] at hu;rcases hu with rfl|rfl|rfl|rfl|rfl<;>rfl) (by simp only [List.length_append];omega) (by unfold maxLen;simp only [List.length_append];omega) (λaK aD w bf a=>?_);have a:C o z ([dN g d x {c with aI:=B},[(F,.cells ms[R].cs.toArray 110 (0,0))],[(S,.cells (dr g ms[R] x.aw).cs.toArray 115 (0,0))]]++_) w:=a.front;refine ao ⟨⟨_,a⟩,?_⟩;refine ag 11 2 j ?_;refine dK 13 j ?_;refine cO (a.bc d) j j j bf.one bO (λw a=>?_);have a:C o z (dN g d x {c with aI:=aK}::_) w:=a;obtain⟨Z,a9⟩:∃Z:List Chunk,Z=[(Y,.cells (dr g ms[R] x.aw).cs.toArray 115 (0,0))]:=⟨_,j⟩;rw [<-a9] at a
      have bZ:en (.slice (some ⟨Y,0,none⟩) 1 1) [(dr g ms[R] x.aw)] Z:=by
       rw [a9];have:=Row.full (e:=115) (size:=68) (b:=Y) (n:=1) (cur:=(dr g ms[R] x.aw).cs.toArray) (by unfold maxLen;omega) (by rw [List.size_toArray,(dr g ms[R] x.aw).len (iL g ms[R] x.aw)]);show Row 115 68 _ 1 (vcs [(dr g ms[R] x.aw)]) _;rw [show vcs [(dr g ms[R] x.aw)]=(dr g ms[R] x.aw).cs by simp [vcs]];simpa using this
      have a0:mp g x.aw aK (y.aI++(ms.take R).filter (·.ok)++[ms[R]]) (aD++(ac++Z)):=by
       refine⟨aD,ac++Z,U++[.slice (some ⟨Y,0,none⟩) 1 1],j,?_,a5.app (jB.one bZ)⟩;rw [cj,List.length_singleton]
       have e:nj (U++[.slice (some ⟨Y,0,none⟩) 1 1]) (y.aI++(ms.take R).filter (·.ok)++[ms[R]])=nj U (y.aI++(ms.take R).filter (·.ok))++([ab ms[R].k,ab ms[R].p,ab ms[R].e,ab ms[R].t,Value.slice (some ⟨Y,0,none⟩) 1 1]):=by
        unfold nj;rw [List.zip_append a5.len,List.flatMap_append];simp
       rw [e];exact bf
      have a:C o z [dN g d x {c with aI:=aK},bj,M,aD++(ac++Z),X,K,J,O] w:=C.perm (A:=[dN g d x {c with aI:=aK},bj,M,aD,ac,Z,X,K,J,O]) a.as (by simp);refine ao ?_;refine c5 ?_;refine bE 1 j j j (dn R (by omega)) ?_;refine bW 1 j ?_;refine⟨(R+1,aK,aD++(ac++Z)),⟨j,j,j,j,j,j,j,j,bb⟩,⟨ak,?_,a⟩,by dsimp only;omega⟩;dsimp only;rw [xj ak,aR cg,<-dS];exact a0
     refine bE 2 j j j (dn R (by omega)) ?_;refine bW 1 j ?_;refine⟨(R+1,B,c1),⟨j,j,j,j,j,j,j,j,bb⟩,⟨ak,?_,a.as⟩,by dsimp only;omega⟩;dsimp only;rw [xj ak,az (by rw [show ms[R].ok=false from aV];decide),gA];exact V
   refine bE 2 j j j (dn i (by omega)) ?_;refine bW 1 j ?_;have cb:R=ms.length:=by have:=dY aU;omega
   rw [cb,gm] at V
   have aZ:y.fX b={y with c:=(y.c.apply D).1,answers:=bV y.answers (e1 D.c D.s) q,aI:=y.aI++ms.filter (·.ok)}:=by
    rw [aG,aM,cf];exact aR bn
   refine⟨(i+1,B,M,c1,X),⟨j,j,j,j,j,bb⟩,⟨ai,?_⟩,by dsimp only;omega⟩;dsimp only;rw [aW ai,<-aL,aZ];exact⟨bv,V,a3,a.as⟩
 refine dE 7 (a.bc d) j j j j (λw a=>?_);have a:C o z (dN g d {x with dq:=(x.s.log.map Prod.fst).length} {c with aI:=B}::_) w:=a;refine an 0 j j ?_;have b8:i=(x.s.log.map Prod.fst).length-x.dq:=by have:=dY aQ;omega
 have bh:y=((x.s.log.map Prod.fst).drop x.dq).foldl bm.fX x:=by
  rw [bG,b8,ic (by rw [iC];exact cF _)]
 have aN:=bm.rg ((x.s.log.map Prod.fst).drop x.dq) x;rw [<-bh] at aN;have bi:x.gB={y with dq:=x.s.log.length}:=by unfold bm.gB;rw [bh]
 have bQ:dN g d {x with dq:=(x.s.log.map Prod.fst).length} {c with aI:=B}=dN g d x.gB {c with aI:=B}:=by
  rw [bi];unfold dN oK;dsimp only;rw [aN.2.1,cc]
 have a:C o z [dN g d {x with dq:=(x.s.log.map Prod.fst).length} {c with aI:=B},bj,eA,c1,c2] w:=a.as;rw [bQ] at a;refine⟨j,_,⟨{c with aI:=B},bj,eA,c1,c2,?_,j⟩,a.og⟩;rw [bi];exact⟨by show h3 g c.ba y.s bj;rw [aN.1];exact aH.s,ad,by show mp g y.aw B y.aI c1;rw [aN.2.1];exact V,aE⟩
def aE.gY(s lB:aE):Prop:=lB.aw=s.aw/\s.log<+:lB.log
theorem aE.gY.refl(s:aE):s.gY s:=⟨j,List.prefix_refl _⟩
theorem aE.gY.trans{a b c:aE}(h:a.gY b)(d:b.gY c):a.gY c:=⟨d.1.trans h.1,h.2.trans d.2⟩
theorem aE.xw{g:al}:∀(l:List (Int×aY))(a:aE×List aY),(l.foldl (aE.one g) a).1.aw=a.1.aw/\(l.foldl (aE.one g) a).1.log=a.1.log
 |[],_=>⟨j,j⟩
 |p::r,a=>by
  rw [h5];have b:=aE.xw (g:=g) r (aE.one g a p);have c:=aE.yM g a p;exact⟨b.1.trans c.1.1,b.2.trans c.1.2.1⟩
theorem aE.BW{g:al}(s:aE):(s.dc g).1.aw=s.aw/\(s.dc g).1.log=s.log:=by
 unfold aE.dc;have a:=aE.xw (g:=g) (cW s.stored) (s.wanted g);have b:(s.wanted g).1.aw=s.aw/\(s.wanted g).1.log=s.log:=by unfold aE.wanted;split<;>exact⟨j,j⟩
 exact⟨a.1.trans b.1,a.2.trans b.2⟩
theorem aE.xD{g:al}:∀(k:Nat)(s:aE)(l:List aY),s.gY (aE.go g k s l).1
 |0,s,_=>aE.gY.refl s
 |k+1,s,l=>by
  unfold aE.go;split
  .exact aE.gY.refl s
  .rename_i r c;split
   .have a:=aE.BW (g:=g) (s.next r);exact aE.gY.trans (b:=((s.next r).dc g).1) ⟨a.1,by rw [a.2];exact List.prefix_append _ _⟩ (aE.xD k _ _)
   .exact aE.gY.refl s
theorem aE.up{g:al}(s:aE)(l:List aY):s.gY (s.gE g l).1:=aE.xD 65 s l
theorem aE.vu{g:al}(s:aE)(x:List UInt8):s.gY (s.eF g x).1:=by
 unfold aE.eF;split
 .exact aE.gY.refl s
 .split
  .exact aE.gY.refl s
  .split
   .exact aE.gY.refl s
   .split
    .exact⟨j,List.prefix_refl _⟩
    .exact aE.up (g:=g) {s with cA:=s.cA++[x],cur:=(fR g s.cur x).1} _
theorem aE.zM{g:al}(s:aE)(m:aY):s.gY (s.take g m).1:=by
 unfold aE.take;split
 .exact aE.vu s m.x
 .split
  .exact aE.gY.refl s
  .split
   .exact aE.up (g:=g) {s with cur:=(ho g s.cur m).1} _
   .split
    .exact⟨j,List.prefix_refl _⟩
    .exact aE.gY.refl s
theorem aE.zR{g:al}(s:aE):s.gY (s.tick g).1:=aE.up (g:=g) {s with cur:=(i0 g s.cur).1} _
theorem aE.ok.gE{g:al}{N:Nat}{s:aE}(h:s.ok g N)(b:g.ok)(a:773<=N)(l:List aY):(s.gE g l).1.ok g N:=aE.xE b 65 h a
theorem aE.ok.eF{g:al}{N:Nat}{s:aE}(h:s.ok g N)(c:g.ok)(k:773<=N)(x:List UInt8):(s.eF g x).1.ok g (N+6):=by
 unfold aE.eF;split
 .exact h.more (by omega)
 .rename_i i;split
  .exact h.more (by omega)
  .split
   .exact h.more (by omega)
   .rename_i j;have d:(s.cA++[x]).length<=16:=by rw [List.length_append,List.length_singleton];omega
    have e:∀y∈s.cA++[x],y.length<=200:=λy a=>by
     rcases fL.1 a with a|a
     .exact h.k2 y a
     .rw [hO.1 a];omega
    split
    .exact{h.more (show N<=N+6 by omega) with cA:=d,k2:=e}
    .have f:aE.ok g (N+6) {s with cur:=(fR g s.cur x).1}:=h.qx (by omega) (λr b=>(tX c (λr b=>(h.cur r b).1) r b).more (by omega)) rA;exact aE.ok.gE (s:={s with cA:=s.cA++[x],cur:=(fR g s.cur x).1}) {f with cA:=d,k2:=e} c (by omega) _
theorem aE.ok.take{g:al}{N:Nat}{s:aE}(h:s.ok g N)(b:g.ok)(c:773<=N){m:aY}(hm:m.dF):(s.take g m).1.ok g (N+6):=by
 unfold aE.take;split
 .exact h.eF b c m.x
 .split
  .exact h.more (by omega)
  .split
   .exact aE.ok.gE (s:={s with cur:=(ho g s.cur m).1}) (h.qx (by omega) (ry b hm (λr e=>(h.cur r e).1)) rz) b (by omega) _
   .split
    .rename_i f;refine{h.more (show N<=N+6 by omega) with stored:=?_,k8:=?_,eV:=?_}
     .have:=l8 s.stored s.eV m;show(bV _ _ _).length<=128;omega
     .intro p d;rcases kY d with a|a
      .exact h.k8 p a
      .rw [a];exact hm
     .have:=h.eV;show 0<=s.eV+1/\s.eV+1<=_;omega
    .exact h.more (by omega)
theorem aE.ok.tick{g:al}{N:Nat}{s:aE}(h:s.ok g N)(a:g.ok)(c:773<=N):(s.tick g).1.ok g (N+6):=
 aE.ok.gE (s:={s with cur:=(i0 g s.cur).1}) (h.qx (by omega) (tU a (λr b=>(h.cur r b).1)) tV) a (by omega) _
theorem bm.ok.step{g:al}{N M:Nat}{x:bm}{s:aE}(h:x.ok g N)(aF:s.ok g M)(a:x.s.gY s):(bm.gB {x with s:=s}).ok g M:=
 bm.ok.gB (x:={x with s:=s}) aF h.c h.aI (ej h.dq a.2.length_le) (a.1.trans h.aw)
theorem bm.ok.more{g:al}{N M:Nat}{x:bm}(h:x.ok g N)(a:N<=M):x.ok g M:={h with s:=h.s.more a}
theorem bm.ok.take{g:al}{N:Nat}{x:bm}(h:x.ok g N)(b:g.ok)(a:773<=N){m:aY}(hm:m.dF):(x.take g m).1.ok g (N+6):=h.step (h.s.take b a hm) (aE.zM _ _)
theorem bm.ok.tick{g:al}{N:Nat}{x:bm}(h:x.ok g N)(b:g.ok)(a:773<=N):(x.tick g).1.ok g (N+6):=h.step (h.s.tick b a) (aE.zR _)
theorem bm.ok.ask{g:al}{N:Nat}{x:bm}(h:x.ok g N)(b:g.ok)(a:773<=N)(I:bD):(x.ask g I).1.ok g (N+6):=by
 unfold bm.ask;split
 .exact h.step (h.s.eF b a _) (aE.vu _ _)
 .exact h.more (by omega)
theorem bm.lz{g:al}{aw:Int}(hm:0<=aw/\aw<g.n)(N:Nat):(bm.new aw).ok g N where
 s:={aw:=hm,log:=cp _,ns:=(by intro e he;cases he),cur:=(by intro r a;cases a;exact⟨ai.lz hm ⟨j0 _,by decide⟩ N,by show(0:Nat)<64;decide⟩),cA:=Nat.zero_le _,k2:=(by intro e he;cases he),stored:=Nat.zero_le _,k8:=(by intro e he;cases he),eV:=⟨Int.le_refl _,by show(0:Int)<=N;omega⟩}
 c:=bu.lz _
 aI:=cp _
 dq:=cp _
 aw:=rfl
theorem Fy{I:bD}(h:gf I=true):I.ef.length<=100:=by
 unfold gf at h;simp only [d8] at h;have a:=h.2;split at a
 .simp only [kZ,d8,gn] at a;omega
 .have b:I.ef=[]:=by
   split at a
   .simp only [d8,gn] at a;exact a.1.1.1
   .split at a
    .simp only [d8,gn] at a;exact a.1.1.1
    .split at a
     .simp only [d8,gn] at a;exact a.1.1
     .cases a
  rw [b];exact cp _
theorem Hi{o:World}{g:al}{d:Nat}{x:bm}{G:List Chunk}(y:hB g d x G){N:Nat}(i:x.ok g N)(v:773<=N)(J:N+50<=1000000)(l:g.at o)(q:g.ok)(f:g.off (au [G]))(a:Own [G] o):Calls prog 43 #[aa d] o λr w=>∃e af,cC r (x.tick g).2 e/\hB g d (x.tick g).1 af/\C o (au [G]) [af,e] w:=by
 have K:=y;obtain⟨c,bj,eA,c1,c2,m,rfl⟩:=y;obtain⟨h,u⟩:∃h,h=au [dN g d x c++(bj++(eA++(c1++c2)))]:=⟨_,j⟩;have L:=f;rw [<-u] at f⊢;have a:C o h [dN g d x c++(bj++(eA++(c1++c2)))] o:=u▸a;have a:=a.r7;refine a6 func43 (ar 15 j (ax (C.aj (b:=d) a) j) ?_);have p:=Hh m.s i.s v (by omega) (l.st a f) q (a.eE l f) a.ours;refine bk 0 p j (λr w⟨e,t,z,A,F⟩=>?_);have a:=a.b1 F
 obtain⟨n,D,a⟩:∃n,hB g d {x with s:=(x.s.tick g).1} n/\C o h [n,e] w:=by
  have a:C o h [dN g d {x with s:=(x.s.tick g).1} c,t,eA,c1,c2,e] w:=a.as;exact⟨_,⟨c,t,eA,c1,c2,⟨A,m.k,m.aI,m.answers⟩,j⟩,a.og⟩
 have I:aE.ok g (N+6) ((x.s.tick g).1):=i.s.tick q v;have E:x.s.gY ((x.s.tick g).1):=aE.zR _;have p:=tE (x:={x with s:=(x.s.tick g).1}) D I i.c i.aI (ej i.dq E.2.length_le) (l.st a f) q (a.eE l f) a.ours;refine br 4 p j (λw⟨af,B,H⟩=>?_);have a:=a.b1 H;exact an 4 j j ⟨e,af,z,B,a.as⟩
theorem G4{o:World}{g:al}{d:Nat}{x:bm}{G:List Chunk}{m:aD}(hm:m.ok o)(t:m.kN (au [G]))(D:m.P.dF)(Q:m.s<=1000000)(B:hB g d x G){N:Nat}(i:x.ok g N)(A:773<=N)(S:N+50<=1000000)(l:g.at o)(v:g.ok)(h:g.off (au [G]))(a:Own [G] o):Calls prog 42 #[aa d,.agg m.cs.toArray] o λr w=>∃f af,cC r (x.take g m.P).2 f/\hB g d (x.take g m.P).1 af/\C o (au [G]) [af,f] w:=by
 have E:m.tag.length=32:=hm.tag;have T:=B;obtain⟨c,bj,eA,c1,c2,n,rfl⟩:=B;obtain⟨e,z⟩:∃e,e=au [dN g d x c++(bj++(eA++(c1++c2)))]:=⟨_,j⟩;have V:=h;rw [<-z] at h t⊢;have a:C o e [dN g d x c++(bj++(eA++(c1++c2)))] o:=z▸a;have a:=a.r7;refine a6 func42 (bJ 2 a j j (λq w a=>?_));have a:C o e (bf q m::_) w:=a;have a:=a.drew;refine bx 9 j (λw=>True) bb (ag 0 3 j (aS 3 4 j j ?_ ?_));refine nI j j j j (ax (C.aj (b:=d) a) j) (ao ⟨bb,?_⟩);refine aX 4 j (lM (U:=m.cs) j j j j (m.bU E) (bq (C.aj (b:=q) a)) ?_);rotate_left
 refine lM (U:=m.cs) j j j j (m.bU E) (bq (C.aj (b:=q) a)) (ao ⟨bb,?_⟩);refine aX 3 j (nI j j j j (ax (C.aj (b:=d) a) j) ?_);rotate_left
 all_goals
  refine ao ⟨bb,?_⟩;refine aX 5 j ?_;have u:=G3 (m:=m) n.s (hm.qo a t) ((hm.BI a t).sub (λb K=>pP _ K)) D Q i.s A (by omega) (l.st a h) v (a.eE l h) a.ours;refine cS j j j u (λr w⟨f,y,F,H,M⟩=>?_);have a:=a.b1 M;refine ao ⟨bb,?_⟩;refine ag 6 1 j (bL ?_)
  obtain⟨p,J,a⟩:∃p,hB g d {x with s:=(x.s.take g m.P).1} p/\C o e [p,f] w:=by
   have a:C o e [dN g d {x with s:=(x.s.take g m.P).1} c,y,eA,c1,c2,f] w:=a.as;exact⟨_,⟨c,y,eA,c1,c2,⟨H,n.k,n.aI,n.answers⟩,j⟩,a.og⟩
  have R:aE.ok g (N+6) ((x.s.take g m.P).1):=i.s.take v A D;have L:x.s.gY ((x.s.take g m.P).1):=aE.zM _ _;have u:=tE (x:={x with s:=(x.s.take g m.P).1}) J R i.c i.aI (ej i.dq L.2.length_le) (l.st a h) v (a.eE l h) a.ours;refine br 3 u j (λw⟨af,I,O⟩=>?_);have a:=a.b1 O;exact an 4 j j ⟨f,af,F,I,a.as⟩
theorem BG{o:World}{g:al}{d:Nat}{x:bm}{G:List Chunk}{I:bD}(L:hB g d x G){N:Nat}(l:x.ok g N)(K:773<=N)(ad:N+50<=1000000)(m:g.at o)(A:g.ok)(i:g.off (au [G]))(a:Own [G] o):Calls prog 61 #[aa d,.agg I.cs.toArray] o λr w=>∃v h af,r= .tuple #[v,ab (x.ask g I).2.2]/\cC v (x.ask g I).2.1 h/\hB g d (x.ask g I).1 af/\C o (au [G]) [af,h] w:=by
 have O:=L;obtain⟨c,bj,eA,c1,c2,n,rfl⟩:=L;obtain⟨f,J⟩:∃f,f=au [dN g d x c++(bj++(eA++(c1++c2)))]:=⟨_,j⟩;have ae:=i;rw [<-J] at i⊢;have a:C o f [dN g d x c++(bj++(eA++(c1++c2)))] o:=J▸a;have a:=a.r7;refine a6 func61 (bJ 2 a j j (λH w a=>?_));have a:C o f (bB H I::_) w:=a;refine bP 4 (U:=I.cs) j j j (bq (C.aj (b:=H) a)) (bk 0 (t7 (I:=I)) j (λr w⟨ag,F,D,t,z⟩=>?_));subst D;have a:=a.aO z;refine aq 11 j (bY 16 (.bool false) j (aK Value.bool (j)) ?_);refine bo 3 j j (λq=>?_) (λq=>?_)
 .have W:gf I=false:=u2 q;refine an 4 j j ?_;have u:x.ask g I=(x,[],1):=az (by rw [W];decide);rw [u];have a:C o f [dN g d x c,bj,eA,c1,c2,[]] w:=(C.empty a).as;exact⟨_,[],_,j,cC.nil,O,a.og⟩
 have B:gf I=true:=u3 q;rw [aR B] at t;refine ar 6 j (ax (C.aj (b:=d) a) j) ?_;obtain⟨ac,ce,rfl,_,_⟩:=t.form;have a:C o f [dN g d x c,bj,eA,c1,c2,F] w:=a.as;obtain⟨_,_,e,_,_,X,S⟩:=t.rd (a.to F);cases e;have y:=zK (x:=h6 I) (bN:=ce) n.s X (C.pv S) (ej (Fu (Fy B)) (by decide)) l.s K (by omega) (m.st a i) A (a.eE m i) a.ours;refine bk 1 y j (λr w⟨Z,h,E,D,M,P,z⟩=>?_);subst D;have a:=a.b1 z
 obtain⟨p,R,a⟩:∃p,hB g d {x with s:=(x.s.eF g (h6 I)).1} p/\C o f [p,h] w:=by
  have a:C o f [dN g d {x with s:=(x.s.eF g (h6 I)).1} c,E,eA,c1,c2,h] w:=a.as;exact⟨_,⟨c,E,eA,c1,c2,⟨P,n.k,n.aI,n.answers⟩,j⟩,a.og⟩
 have Y:aE.ok g (N+6) ((x.s.eF g (h6 I)).1):=l.s.eF A K _;have T:x.s.gY ((x.s.eF g (h6 I)).1):=aE.vu _ _;have y:=tE (x:={x with s:=(x.s.eF g (h6 I)).1}) R Y l.c l.aI (ej l.dq T.2.length_le) (m.st a i) A (a.eE m i) a.ours;refine br 8 y j (λw⟨af,Q,V⟩=>?_);have a:=a.b1 V;refine an 6 j j ?_;have u:x.ask g I=(bm.gB {x with s:=(x.s.eF g (h6 I)).1},(x.s.eF g (h6 I)).2.1,(x.s.eF g (h6 I)).2.2):=aR B;rw [u];exact⟨Z,h,af,j,M,Q,a.as⟩
theorem EF{o:World}{g:al}{d:Nat}{x:bm}{G:List Chunk}(k:hB g d x G)(e:Holds o G){N:Nat}(aF:x.s.ok g N):Calls prog 10 #[aa d] o λr w=>∃b,h1 r (x.s.log.map Prod.fst) b/\C o [] [b] w:=by
 have a:Own [] o:=C.start o;obtain⟨c,bj,eA,c1,c2,n,rfl⟩:=k;have q:o.heap[d]? =some (.cells (oK g x c).toArray 70 (0,0)):=e.left.head;refine a6 func10 (ar 15 j (ax (a.b8 q) j) ?_);obtain⟨t,h,u,y,v,p,rfl⟩:=n.s;have f:=e.right.left;have l:=ya (ba:=c.ba) (g:=g) (s:=x.s) (c:=t) (L:=h) (a.b8 f.left.head) p.log (f.right.left.st a) aF;refine bk 0 l j (λr w⟨b,i,m⟩=>?_);have a:=a.aO m;exact an 1 j j ⟨b,i,a.as⟩
theorem m8.dg{m:List (Int×Value)}:∀{t:List (Int×(Int×Int×Int))}{H:List Chunk},c4 m8 m t H->m=t.map λp=>(p.1,kc p.2):=by
 induction m with
 |nil=>intro t H h;cases t with|nil=>rfl|cons _ _=>exact h.elim
 |cons p m f=>
  intro t H h;cases t with
  |nil=>exact h.elim
  |cons q t=>
   obtain⟨c,_,_,_,d,e⟩:=h;rw [jh,<-f e];obtain⟨a,b⟩:=p;have c:a=q.1:=c;have d:b=kc q.2:=d.1;rw [c,d]
theorem wk{o:World}{g:al}{n:Nat}{x:bm}{G:List Chunk}{c s:Int}(E:hB g n x G)(t:Holds o G):Calls prog 49 #[aa n,ab c,ab s] o λr w=>r= .tuple #[kc (if 0<=c/\c<=15/\0<=s/\s<=1048576 then((aV x.answers (e1 c s)).getD (0,0,0)) else(0,0,0)),.bool (decide (0<=c/\c<=15/\0<=s/\s<=1048576)&&(aV x.answers (e1 c s)).isSome)]/\C o [] [] w:=by
 have b:Own [] o:=C.start o;obtain⟨gW,bj,eA,c1,c2,P,rfl⟩:=E;have R:o.heap[n]? =some (.cells (oK g x gW).toArray 70 (0,0)):=t.left.head;refine fj func49 (cx 2 b j (λd w b=>?_));have b:C o [] (J d #[ab 0,ab 0,ab 0] 123::_) w:=b;refine aq 7 j (bY 10 (.bool false) j (aK Value.bool (j)) ?_);refine aq 4 j (c9 14 j (λi=>?_) (λi=>?_))
 .refine aq 14 j (cP (c:= #[ab 0,ab 0,ab 0]) j j j (λ_=>by kernel_rfl) ?_);refine cv 0 (b.bc d) j j j j j (λw b=>?_);have b:=C.whole (U:=[ab 0,ab 0,ab 0]) b j;have b:C o [] (J d #[ab 0,ab 0,ab 0] 123::_) w:=b;refine bH 1 j ⟨_,ds results49 j j j j b.bQ,?_⟩;have e:¬(0<=c/\c<=15/\0<=s/\s<=1048576):=λh=>by have:=dV i;omega
  rw [az e,e7 e];exact⟨by simp,b.bare⟩
 refine aq 4 j (c9 18 j (λl=>?_) (λl=>?_))
 .refine aq 10 j (cP (c:= #[ab 0,ab 0,ab 0]) j j j (λ_=>by kernel_rfl) ?_);refine cv 0 (b.bc d) j j j j j (λw b=>?_);have b:=C.whole (U:=[ab 0,ab 0,ab 0]) b j;have b:C o [] (J d #[ab 0,ab 0,ab 0] 123::_) w:=b;refine bH 1 j ⟨_,ds results49 j j j j b.bQ,?_⟩;have e:¬(0<=c/\c<=15/\0<=s/\s<=1048576):=λh=>by have:=dV l;omega
  rw [az e,e7 e];exact⟨by simp,b.bare⟩
 refine aq 4 j (c9 22 j (λm=>?_) (λm=>?_))
 .refine aq 6 j (cP (c:= #[ab 0,ab 0,ab 0]) j j j (λ_=>by kernel_rfl) ?_);refine cv 0 (b.bc d) j j j j j (λw b=>?_);have b:=C.whole (U:=[ab 0,ab 0,ab 0]) b j;have b:C o [] (J d #[ab 0,ab 0,ab 0] 123::_) w:=b;refine bH 1 j ⟨_,ds results49 j j j j b.bQ,?_⟩;have e:¬(0<=c/\c<=15/\0<=s/\s<=1048576):=λh=>by have:=dV m;omega
  rw [az e,e7 e];exact⟨by simp,b.bare⟩
 refine cy 3 j j (λp=>?_) (λp=>?_)
 .refine aq 2 j (cP (c:= #[ab 0,ab 0,ab 0]) j j j (λ_=>by kernel_rfl) ?_);refine cv 0 (b.bc d) j j j j j (λw b=>?_);have b:=C.whole (U:=[ab 0,ab 0,ab 0]) b j;have b:C o [] (J d #[ab 0,ab 0,ab 0] 123::_) w:=b;refine bH 1 j ⟨_,ds results49 j j j j b.bQ,?_⟩;have e:¬(0<=c/\c<=15/\0<=s/\s<=1048576):=λh=>by omega
  rw [az e,e7 e];exact⟨by simp,b.bare⟩
 have b:=b.drew;obtain⟨am,ah,b2,f,H,I,O,B,rfl⟩:=P.answers;have u:=t.right.right.right.right;have F:dI 225 o (some ⟨am,0,none⟩) f:=.inr ⟨am,ah,b2,j,u (am,_) (by simp),u (ah,b2) (by simp),O⟩;have Q:∀q∈f,gl 3 q.2:=B.wide (λv a G h=>by rw [h.1];exact⟨[ab a.1,ab a.2.1,ab a.2.2],j,j,j⟩);have z:=m8.dg B;obtain⟨a,y⟩:∃a,a=((aV x.answers (e1 c s)).getD (0,0,0)):=⟨_,j⟩
 have L:(aV f (e1 c s)).getD qB= .agg #[ab a.1,ab a.2.1,ab a.2.2]:=by
  rw [z,mR,y];cases aV x.answers (e1 c s)<;>rfl
 have M:(aV f (e1 c s)).isSome=(aV x.answers (e1 c s)).isSome:=by
  rw [z,mR];cases aV x.answers (e1 c s)<;>rfl
 refine bx 2 j (λw=>∃ae,C o [] ae w) ⟨_,b⟩ (ag 0 3 j (b4 3 j (λw⟨_,b⟩=>ax (b.b8 R) (aK some I)) (ag 4 2 j (aX 6 j (bK j j j (xW (c:=c) (s:=s)) (λw hw=>?_))))));have hw:=hw.symm;subst hw;refine ao ⟨⟨_,b⟩,?_⟩;refine aX 7 j ?_;have K:=Dr (k:=e1 c s) Q (F.st b);refine cS j j j K (λr w⟨A,N⟩=>?_);rw [L,M] at A;subst A;have b:=b.aO N;refine ao ⟨⟨_,b⟩,?_⟩;refine ag 8 2 j (aX 10 j (c6 (b.bc d) j j j j j bO (λw b=>?_)));have b:=C.whole (U:=[ab a.1,ab a.2.1,ab a.2.2]) b j;have b:C o [] (J d #[ab a.1,ab a.2.1,ab a.2.2] 123::_) w:=b;refine ao ⟨⟨_,b⟩,?_⟩;refine ag 11 1 j (bL (bH 0 j ⟨_,ds results49 j j j j b.bQ,?_⟩));have D:0<=c/\c<=15/\0<=s/\s<=1048576:=by have S:=dY i;have T:=dY l;have V:=dY m;have W:=p;omega
 rw [aR D,hM D,<-y];exact⟨by simp,b.bare⟩
theorem jB.read{g:al}{aw:Int}{w:World}:∀{us:List Value}{ms:List b7}{G:List Chunk},jB g aw us ms G->Holds w G->∀(i:Nat)(a:i<ms.length),∃A c,us[i]? =some (.slice A 1 c)/\1<=c/\c<=maxLen/\Rd w A (vcs [dr g ms[i] aw])/\Flat A
 |[],[],_,_,_,i,a=>by simp at a
 |[],_::_,_,h,_,_,_=>h.elim
 |_::_,[],_,h,_,_,_=>h.elim
 |u::us,m::ms,_,⟨af,aB,rfl,hu,h⟩,d,0,_=>by
  obtain⟨A,c,b,e,f,k,l⟩:=hu.read d.left;have b:u= .slice A 1 c:=b;subst b;exact⟨A,c,j,e,f,k,l⟩
 |u::us,m::ms,_,⟨af,aB,rfl,hu,h⟩,d,i+1,a=>by
  have:=h.read d.right i (by simpa using a);simpa using this
theorem z8{o:World}{g:al}{E:Nat}{x:bm}{G:List Chunk}(ac:hB g E x G)(M:Holds o G)(aQ:x.aI.length<=100000):Calls prog 48 #[aa E] o λr w=>∃bj,mp g x.aw r x.aI bj/\C o [] [bj] w:=by
 have a:Own [] o:=C.start o;obtain⟨c,bj,eA,c1,c2,ay,rfl⟩:=ac;have aE:o.heap[E]? =some (.cells (oK g x c).toArray 70 (0,0)):=M.left.head;obtain⟨W,V,us,Z,ah,K⟩:=ay.aI;have N:Holds o (W++V):=Z▸M.right.right.right.left;obtain⟨T,X,ak,aP,aR,az,_⟩:=ah.read N.left;have aN:=K.len;have O:∀e∈us.zip x.aI,((λe:Value×b7=>e.2.cs++[e.1]) e).length=5:=λ_ _=>rfl
 have aS:(us.zip x.aI).length=x.aI.length:=by rw [nW];omega
 refine a6 func48 ?_;refine ar 19 j (ax (a.b8 aE) (aK some ak)) ?_
 refine dj 3 j (cU:=Nat×Value×List Chunk) (λk=>[(0,aa E),(3,k.2.1),(11,.slice T x.aI.length X),(12,.int .i64 (x.aI.length:Nat)),(13,.int .i64 (k.1:Nat))])
  (λk w=>k.1<=x.aI.length/\mp g x.aw k.2.1 (x.aI.take k.1) k.2.2/\C o [] [k.2.2] w) (λk=>x.aI.length-k.1) (0,.slice none 0 0,[]) ⟨j,j,j,j,j,bb⟩ ⟨cp _,⟨[],[],[],j,Row.nil _ _,j⟩,a.empty⟩ ?_
 rintro⟨i,v,G⟩ w ⟨am,z,a⟩;dsimp only at am z a⊢;refine bo 4 j j (λH=>?_) (λH=>?_)
 .have D:i<x.aI.length:=by have:=dV H;omega
  obtain⟨h,ci,aB,aJ,aL,aA,_⟩:=K.read N.right i D;have aC:us[i]'(by omega)= .slice h 1 ci:=by have:=aB;rw [cr (by omega)] at this;exact hn this
  have P:(us.zip x.aI)[i]'(by omega)=(.slice h 1 ci,x.aI[i]):=by rw [List.getElem_zip,aC]
  have S:=a.rd az (cc.of_nil _ _);refine aq 5 j (fJ j j j j S (v:=ab x.aI[i].k) (iI (f:=(λe:Value×b7=>e.2.cs++[e.1])) (R:=0) (us.zip x.aI) O i (by omega) (by decide) (by rw [P];rfl)) D (λaG Y aH=>?_));subst Y;have Q:=j6 (f:=(λe:Value×b7=>e.2.cs++[e.1])) S O i (by omega);rw [P] at Q;refine bP 0 (U:=[ab x.aI[i].k,ab x.aI[i].p,ab x.aI[i].e,ab x.aI[i].t,Value.slice h 1 ci]) j j j Q ?_;refine cx 0 a j (λn w a=>?_);refine cv 0 (a.bc n) j j j j j (λw a=>?_);have a:=C.whole (U:=[ab x.aI[i].k,ab x.aI[i].p,ab x.aI[i].e,ab x.aI[i].t,Value.slice h 1 ci]) a j;have a:C o [] [[(n,.cells #[ab x.aI[i].k,ab x.aI[i].p,ab x.aI[i].e,ab x.aI[i].t,Value.slice h 1 ci] 121 (0,0))],G] w:=a.as;have a:C o [] ([[(n,.cells #[ab x.aI[i].k,ab x.aI[i].p,ab x.aI[i].e,ab x.aI[i].t,Value.slice h 1 ci] 121 (0,0))]]++_) _:=a.front;have a:=a.drew;refine bx 0 j (λw=>∃ae,C o [] ([[(n,.cells #[ab x.aI[i].k,ab x.aI[i].p,ab x.aI[i].e,ab x.aI[i].t,Value.slice h 1 ci] 121 (0,0))]]++ae) w) ⟨_,a⟩ ?_;refine ag 0 2 j ?_;refine bl 2 j (λw⟨_,a⟩=>dd (U:=x.aI[i].cs) j j j ((a.bc n).i9 (off:=0) (U:=x.aI[i].cs) (λR v z=>by rw [fe];exact rt (m:=x.aI[i]) (u:=.slice h 1 ci) z))) ?_;refine ag 3 1 j ?_;refine a8 4 j a2 j ?_;refine aX 5 j ?_;have av:∀y∈[dr g x.aI[i] x.aw],y.ok:=λy aF=>by rw [hO.1 aF];exact iL _ _ _
  have ai:=kO (l:=[dr g x.aI[i] x.aw]) (d:=ci) (a.rd aA (cc.of_nil _ _)) av (by simp);refine cS j j j ai (λr w⟨s,L,au⟩=>?_);obtain⟨q,dy,rfl,_,_⟩:=L.form;have a:=a.aO au;have a:C o [] ([[(n,.cells #[ab x.aI[i].k,ab x.aI[i].p,ab x.aI[i].e,ab x.aI[i].t,Value.slice h 1 ci] 121 (0,0))]]++_) w:=a.front;refine ao ⟨⟨_,a⟩,?_⟩;refine bl 6 j (λw _=>eX (c:=[ab x.aI[i].k,ab x.aI[i].p,ab x.aI[i].e,ab x.aI[i].t,Value.slice q 1 dy].toArray) j (λ_=>by kernel_rfl)) ?_;refine aX 7 j ?_;refine gj (U:=[ab x.aI[i].k,ab x.aI[i].p,ab x.aI[i].e,ab x.aI[i].t,Value.slice q 1 dy]) a j j j j bO bO (λF w a=>?_);have aT:=bq (C.aj (b:=F) a);have a:C o [] ([[(n,.cells #[ab x.aI[i].k,ab x.aI[i].p,ab x.aI[i].e,ab x.aI[i].t,Value.slice h 1 ci] 121 (0,0))]]++_) w:=a.front;refine ao ⟨⟨_,a⟩,?_⟩;refine aX 8 j ?_;obtain⟨I,H1,U,rfl,ad,J⟩:=z;have a:C o [] [I,H1,[(n,.cells #[ab x.aI[i].k,ab x.aI[i].p,ab x.aI[i].e,ab x.aI[i].t,Value.slice h 1 ci] 121 (0,0))],s,[(F,.cells #[ab x.aI[i].k,ab x.aI[i].p,ab x.aI[i].e,ab x.aI[i].t,Value.slice q 1 dy] 121 (0,0))]] w:=C.perm (A:=[I++H1,[(n,.cells #[ab x.aI[i].k,ab x.aI[i].p,ab x.aI[i].e,ab x.aI[i].t,Value.slice h 1 ci] 121 (0,0))],s,[(F,.cells #[ab x.aI[i].k,ab x.aI[i].p,ab x.aI[i].e,ab x.aI[i].t,Value.slice q 1 dy] 121 (0,0))]]) a.as (by simp);have aM:(x.aI.take i).length=i:=by rw [hC];omega
  refine e6 a ad j j (by decide) j j j (m:=1) (news:=[ab x.aI[i].k,ab x.aI[i].p,ab x.aI[i].e,ab x.aI[i].t,Value.slice q 1 dy]) j aT (by intro u hu;simp at hu;rcases hu with rfl|rfl|rfl|rfl|rfl<;>rfl) (by omega) (by unfold maxLen;omega) (λv2 B w af a=>?_)
  have aD:mp g x.aw v2 (x.aI.take (i+1)) (B++(H1++s)):=by
   rw [fK D];refine⟨B,H1++s,U++[.slice q 1 dy],j,?_,J.app (jB.one L)⟩;rw [cj,List.length_singleton]
   have e:nj (U++[.slice q 1 dy]) (x.aI.take i++[x.aI[i]])=nj U (x.aI.take i)++[ab x.aI[i].k,ab x.aI[i].p,ab x.aI[i].e,ab x.aI[i].t,Value.slice q 1 dy]:=by
    unfold nj;rw [List.zip_append J.len,List.flatMap_append];simp
   rw [e];exact af
  have a:C o [] [[(n,.cells #[ab x.aI[i].k,ab x.aI[i].p,ab x.aI[i].e,ab x.aI[i].t,Value.slice h 1 ci] 121 (0,0))],B++(H1++s)] w:=C.perm (A:=[[(n,.cells #[ab x.aI[i].k,ab x.aI[i].p,ab x.aI[i].e,ab x.aI[i].t,Value.slice h 1 ci] 121 (0,0))],B,H1,s]) a.as (by simp);refine ao ⟨⟨_,a⟩,?_⟩;refine ag 9 1 j ?_;refine bL ?_;refine bE 1 j j j (dn i (by omega)) ?_;refine bW 1 j ?_;exact⟨(i+1,v2,_),⟨j,j,j,j,j,bb⟩,⟨D,aD,a.as⟩,by dsimp only;omega⟩
 refine an 5 j j ?_;have ap:i=x.aI.length:=by have:=dY H;omega
 rw [ap,gm] at z;exact⟨G,z,a⟩
structure dJ where
 p:Int
 e:Int
 t:Int
 at_:Int
 k:Int
 deriving DecidableEq
abbrev dJ.cs(s:dJ):List Value:=[ab s.p,ab s.e,ab s.t,ab s.at_,ab s.k]
structure eg where
 p:Int
 e:Int
 t:Int
 s:Int
 x:List UInt8
structure dQ where
 cY:List eg
 ch:List dJ
 eC:List (Int×Int)
def dQ.new:dQ:=⟨[],[],[]⟩
def jL(p e:Int):Bool:=decide (0<=p/\p<8/\0<=e/\e<=100)
def kT(t:Int):Bool:=decide (1<=t/\t<=100)
def dQ.ku(l:dQ)(p e:Int):dQ×Int:=
 if jL p e=true then({l with eC:=bV l.eC p (max ((aV l.eC p).getD 0) e)},0) else(l,1)
def kB(p e t:Int)(s:dJ):Bool:=decide (s.p=p/\s.e=e/\s.t=t)
def dQ.span(l:dQ)(p e t:Int):Option Nat:=l.ch.findIdx? (kB p e t)
def dQ.end_(l:dQ)(p e t:Int)(c:Bool):dQ×Int:=
 if(jL p e&&kT t)=false then(l,1)
 else match l.span p e t with
  |none=>({l with ch:=l.ch++[⟨p,e,t,-1,if c=true then 2 else 3⟩]},0)
  |some i=>if h:i<l.ch.length then
   (if l.ch[i].k≠0/\l.ch[i].k≠(if c=true then 2 else 3) then(l,6)
    else({l with ch:=l.ch.set i {l.ch[i] with k:=if c=true then 2 else 3}},0)) else(l,0)
def jV:List Value->List eg->List Chunk->Prop
 |[],[],G=>G=[]
 |u::us,r::rs,G=>∃af aB,G=af++aB/\d6 u r.x af/\jV us rs aB
 |[],_::_,_=>False
 |_::_,[],_=>False
abbrev sj(us:List Value)(rs:List eg):List Value:=(us.zip rs).flatMap λe=>[ab e.2.p,ab e.2.e,ab e.2.t,ab e.2.s,e.1]
def mA(v:Value)(rs:List eg)(G:List Chunk):Prop:=∃ak H us,G=ak++H/\Row 169 5 v rs.length (sj us rs) ak/\jV us rs H
def gk(v:Value)(l:List dJ)(G:List Chunk):Prop:=Row 307 5 v l.length (l.flatMap dJ.cs) G
abbrev lY(l:List (Int×Int)):List (Int×Value):=l.map λp=>(p.1,ab p.2)
structure iz where
 cY:Value
 ch:Value
 eC:Value
abbrev lcs(c:iz):List Value:=[c.cY,c.ch,c.eC]
abbrev dH(be:Nat)(c:iz):List Chunk:=J be (lcs c).toArray 139
structure AK(l:dQ)(c:iz)(ak S E:List Chunk):Prop where
 cY:mA c.cY l.cY ak
 ch:gk c.ch l.ch S
 eC:mu bG c.eC (lY l.eC) E
def kh(be:Nat)(l:dQ)(G:List Chunk):Prop:=∃(c:iz)(ak S E:List Chunk),AK l c ak S E/\G=dH be c++(ak++(S++E))
theorem C.u9{be:Nat}{c:iz}{ak S E:List Chunk}{ae:List (List Chunk)}{o w:World}{F:List Nat}(h:C o F ((dH be c++(ak++(S++E)))::ae) w):C o F (dH be c::ak::S::E::ae) w:=h.perm (by simp)
theorem C.iK{be:Nat}{c:iz}{ak S E:List Chunk}{ae:List (List Chunk)}{o w:World}{F:List Nat}(h:C o F (dH be c::ak::S::E::ae) w):C o F ((dH be c++(ak++(S++E)))::ae) w:=h.perm (by simp)
theorem vs(l:List dJ):∀v∈l.flatMap dJ.cs,v.oneCell'=true:=by
 intro v a;obtain⟨m,_,hm⟩:=o7.1 a;simp [dJ.cs] at hm;rcases hm with rfl|rfl|rfl|rfl|rfl<;>rfl
theorem E3{o:World}:Calls prog 57 #[] o λr w=>∃be G,r=aa be/\kh be dQ.new G/\C o [] [G] w:=by
 have a:Own [] o:=C.start o;refine a6 func57 (aq 5 j (jd j a j j (λaC w a=>?_)));refine cP (c:=(lcs ⟨.slice none 0 0,.slice none 0 0,.map (some aC)⟩).toArray) j j j (λ_=>by kernel_rfl) (bJ 0 a j j (λb w a=>an 1 j j ?_));have a:C o [] (dH b ⟨.slice none 0 0,.slice none 0 0,.map (some aC)⟩::_) w:=a;exact⟨b,_,j,⟨(⟨.slice none 0 0,.slice none 0 0,.map (some aC)⟩:iz),[],[],[(aC,.map #[] 0)],⟨⟨[],[],[],j,Row.nil _ _,j⟩,Row.nil 307 5,⟨aC,_,j,j,cf.new⟩⟩,j⟩,C.perm (A:=[dH b ⟨.slice none 0 0,.slice none 0 0,.map (some aC)⟩,[(aC,.map #[] 0)]]) a.as (by simp)⟩
theorem uA{o:World}{p e:Int}:Calls prog 209 #[ab p,ab e] o λr w=>r= .bool (jL p e)/\w=o:=by
 refine a6 func209 (aq 8 j (c9 7 j (λdu=>?_) (λdu=>?_)))
 .refine aq 4 j (c9 11 j (λa=>?_) (λa=>?_))
  .refine aq 4 j (c9 15 j (λb=>?_) (λb=>?_))
   .refine an 4 j j (⟨?_,j⟩);unfold jL;exact aK Value.bool (by rw [nT];have c:=dV du;have d:=dV a;have f:=dV b;omega)
   refine an 4 j j (⟨?_,j⟩);unfold jL;rw [e7 (by have:=dY b;omega)]
  refine an 8 j j (⟨?_,j⟩);unfold jL;rw [e7 (by have:=dY a;omega)]
 refine an 12 j j (⟨?_,j⟩);unfold jL;rw [e7 (by have:=dY du;omega)]
theorem xU{o:World}{t:Int}:Calls prog 210 #[ab t] o λr w=>r= .bool (kT t)/\w=o:=by
 refine a6 func210 (aq 8 j (c9 5 j (λfY=>?_) (λfY=>?_)))
 .refine an 4 j j (⟨?_,j⟩);unfold kT;exact aK Value.bool (by rw [nT];have a:=dV fY;omega)
 refine an 4 j j (⟨?_,j⟩);unfold kT;rw [e7 (by have:=dY fY;omega)]
theorem En{o:World}{be:Nat}{l:dQ}{G:List Chunk}{p e:Int}(s:kh be l G)(a:Own [G] o):Calls prog 199 #[aa be,ab p,ab e] o λr w=>r=ab (l.ku p e).2/\∃af,kh be (l.ku p e).1 af/\C o (au [G]) [af] w:=by
 have u:=s;obtain⟨c,ak,S,E,n,rfl⟩:=s;obtain⟨d,q⟩:∃d,d=au [dH be c++(ak++(S++E))]:=⟨_,j⟩;rw [<-q];have a:C o d [dH be c++(ak++(S++E))] o:=q▸a;have a:=a.u9;refine a6 func199 (aq 9 j (bY 9 (.bool false) j (aK Value.bool (j)) ?_));refine br 2 (uA (p:=p) (e:=e)) j (λw hw=>?_);have hw:=hw.symm;subst hw;refine bo 2 j j (λg=>?_) (λg=>?_)
 .refine an 3 j j ?_;have hle:l.ku p e=(l,1):=az (by simpa using g);rw [hle];exact⟨j,_,u,a.iK⟩
 obtain⟨aA,h,i,rfl,t⟩:=n.eC
 have v:(aV (lY l.eC) p).getD (ab 0)=ab ((aV l.eC p).getD 0):=by
  unfold lY;rw [mR];cases aV l.eC p<;>rfl
 have a:C o d ([dH be c,[(aA,h)]]++_) _:=a.front;have a:=a.drew;refine bx 2 j (λw=>∃ae,C o d ([dH be c,[(aA,h)]]++ae) w) ⟨_,a⟩ (ag 0 3 j (a8 3 j a2 (aK some i) (ag 4 4 j (a8 8 j a2 (aK some i) (ag 9 1 j (bl 10 j (λw⟨_,a⟩=>sW (key:=bG) (k:=p) t (C.aj (b:=aA) a) j j) (ag 11 1 j (iF 25 (ab ((aV l.eC p).getD 0)) j v (bl 12 j (λw _=>vJ j) (dK 13 j (je (key:=bG) (k:=p) t (a.to [(aA,h)]) j j j j (λf w m a=>?_))))))))))))
 have m:cf bG f (lY (bV l.eC p (max ((aV l.eC p).getD 0) e))):=by
  unfold lY;rw [<-uP];exact m
 have a:C o d [dH be c,ak,S,[(aA,f)]] w:=a.as;refine ao (c5 (an 3 j j ?_));have hle:l.ku p e=({l with eC:=bV l.eC p (max ((aV l.eC p).getD 0) e)},0):=aR (by simpa using g);rw [hle];exact⟨j,_,⟨c,ak,S,[(aA,f)],⟨n.cY,n.ch,⟨aA,f,i,j,m⟩⟩,j⟩,a.iK⟩
theorem Row.setCell{e:TypeId}{size g n cap:Nat}{cur:Array Value}{xs:List Value}(h:Row e size (.slice (some ⟨g,0,none⟩) n cap) n xs [(g,.cells cur e (0,0))])(R:Nat)(u:Value):
 Row e size (.slice (some ⟨g,0,none⟩) n cap) n (xs.set R u) [(g,.cells (cur.setIfInBounds R u) e (0,0))]:=by
 obtain⟨b,c⟩:=h;refine⟨by simpa using b,?_⟩;rcases c with⟨a,_,_⟩|⟨p,m,o,a,l,d,f,i,k⟩
 .cases a
 .cases a;cases l;refine .inr ⟨g,cap,_,j,j,d,f,by simpa using i,?_⟩;rw [<-k];simp [List.take_set]
theorem rL{α:Type}{f:α->List Value}{n:Nat}:∀(l:List α),(∀x∈l,(f x).length=n)->∀(i:Nat)(a:i<l.length)(R:Nat),R<n->∀(v:Value)(y:α),f y=(f l[i]).set R v->(l.flatMap f).set (i*n+R) v=(l.set i y).flatMap f
 |[],_,i,a,_,_,_,_,_=>by simp at a
 |x::r,h,0,_,R,d,v,y,c=>by
  have b:=h x (by simp);simp only [jj,qW,nP,fe];rw [List.set_append_left _ _ (by omega)];exact aK (·++_) c.symm
 |x::r,h,i+1,a,R,d,v,y,c=>by
  have b:=h x (by simp);simp only [jj,List.set_cons_succ];rw [tj _ _ (by rw [b,Nat.succ_mul];omega),b,show(i+1)*n+R-n=i*n+R by rw [Nat.succ_mul];omega];exact aK (_++·) (rL r (λz e=>h z (by simp [e])) i (by simpa using a) R d v y (by simpa using c))
theorem Row.block{e:TypeId}{size n:Nat}{v:Value}{xs:List Value}{G:List Chunk}(h:Row e size v n xs G)(aT:0<n):∃g cap cur,v= .slice (some ⟨g,0,none⟩) n cap/\G=[(g,.cells cur e (0,0))]/\n<=cap/\cap<=maxLen/\cap*size<=cur.size:=by
 rcases h.2 with⟨_,a,_⟩|⟨g,cap,cur,a,b,c,d,f,_⟩
 .omega
 .exact⟨g,cap,cur,a,b,c,d,f⟩
theorem xn{α:Type}{p:α->Bool}{l:List α}{i:Nat}(h:∀R(a:R<l.length),R<i->p l[R]=false)(c:l.length<=i):l.findIdx? p=none:=by
 rw [List.findIdx?_eq_none_iff];intro x b;obtain⟨R,a,rfl⟩:=tk.1 b;exact h R a (by omega)
theorem xo{α:Type}{p:α->Bool}{l:List α}{i:Nat}(h:∀R(d:R<l.length),R<i->p l[R]=false)(a:i<l.length)(c:p l[i]=true):l.findIdx? p=some i:=by
 rw [pf];exact⟨a,c,λR b=>by rw [h R (by omega) b];decide⟩
theorem xO{o:World}{ez:FuncId}[Entry prog ez]{be:Array Value}{q:dJ->Bool}{T:World->Prop}(D:∀(g:World)(s:dJ),T g->Calls prog ez (#[]++ #[.agg s.cs.toArray]++be) g (λr w=>r= .bool (q s)/\C g [] [] w))(A:∀w,C o [] [] w->T w){v:Value}{l:List dJ}{G:List Chunk}(B:gk v l G)(z:Holds o G):Calls prog 216 #[v,.func (.func ez) #[] be] o λr w=>((∃i:Nat,r= .int .i64 (i:Nat)/\l.findIdx? q=some i)\/(r= .int .i64 (-1)/\l.findIdx? q=none))/\C o [] [] w:=by
 have a:Own [] o:=C.start o;obtain⟨t,x,rfl,M,H,F,_⟩:=Row.read B z;have k:∀e∈l,(dJ.cs e).length=5:=λ_ _=>rfl
 refine a6 func216 ?_
 refine dj 10 j (cU:=Nat) (λi=>[(0,.slice t l.length x),(1,.func (.func ez) #[] be),(7,.int .i64 (l.length:Nat)),(8,.int .i64 (i:Nat))])
  (λi w=>i<=l.length/\(∀R(m:R<l.length),R<i->q l[R]=false)/\C o [] [] w) (λi=>l.length-i) 0 ⟨j,j,j,j,bb⟩ ⟨cp _,λR _ h=>by omega,a⟩ ?_
 rintro i w ⟨L,d,a⟩;refine cy 4 j j (λu=>?_) (λu=>?_)
 .have b:i<l.length:=by omega
  have n:=a.rd F (cc.of_nil _ _);refine aq 12 j (fJ j j j j n (v:=ab l[i].p) (iI (f:=dJ.cs) (R:=0) l k i b (by decide) j) b (λJ y K=>?_));subst y;refine bP 0 (U:=l[i].cs) j j j (j6 (f:=dJ.cs) n k i b) (hx j j j j (D _ l[i] (A _ a)) (λr w⟨I,ad⟩=>?_));subst I;have a:=(a.aO ad).bare;refine bo 0 j j (λc=>?_) (λc=>?_)
  .exact an 4 j j ⟨.inl ⟨i,j,xo d b c⟩,a⟩
  refine bE 2 j j j (dn i (by unfold maxLen at H;omega)) (bW 1 j (⟨i+1,⟨j,j,j,j,bb⟩,⟨b,λR m E=>?_,a⟩,by omega⟩));rcases Nat.lt_succ_iff_lt_or_eq.1 E with h|rfl
  .exact d R m h
  exact c
 exact an 4 j j ⟨.inr ⟨j,xn d (by omega)⟩,a⟩
theorem GO{o:World}{f g i:Nat}{p e t:Int}{s:dJ}(m:o.heap[f]? =some (.cells #[ab p] 3 (0,0)))(n:o.heap[g]? =some (.cells #[ab e] 3 (0,0)))(q:o.heap[i]? =some (.cells #[ab t] 3 (0,0))):Calls prog 217 (#[]++ #[.agg s.cs.toArray]++ #[aa f,aa g,aa i]) o λr w=>r= .bool (kB p e t s)/\C o [] [] w:=by
 have a:Own [] o:=C.start o;refine a6 func217 (bJ 2 a j j (λk w a=>?_));have a:C o [] (J k s.cs.toArray 307::_) w:=a;refine ar 4 j (ax (C.aj a) j) (ar 0 j (ax (a.b8 m) j) (aq 2 j (c9 10 j (λc=>?_) (λc=>?_))))
 .refine ar 1 j (ax (C.aj a) j) (ar 0 j (ax (a.b8 n) j) (aq 3 j (c9 16 j (λd=>?_) (λd=>?_))))
  .refine ar 1 j (ax (C.aj a) j) (ar 0 j (ax (a.b8 q) j) (an 3 j j (⟨aK Value.bool ?_,a.bare⟩)));unfold kB;have b:s.p=p:=ea.1 c;have l:s.e=e:=ea.1 d;rw [lk];simp [b,l]
  refine an 6 j j (⟨aK Value.bool ?_,a.bare⟩);unfold kB;exact(e7 (by have b:(s.e==e)=false:=d;rw [fp] at b;exact λh=>b (by simp [h]))).symm
 refine an 12 j j (⟨aK Value.bool ?_,a.bare⟩);unfold kB;exact(e7 (by have b:(s.p==p)=false:=c;rw [fp] at b;exact λh=>b (by simp [h]))).symm
theorem ox{o:World}{be:Nat}{c:iz}{p e t:Int}{S:List Chunk}{l:List dJ}(v:o.heap[be]? =some (.cells (lcs c).toArray 139 (0,0)))(u:gk c.ch l S)(n:Holds o S):Calls prog 174 #[aa be,ab p,ab e,ab t] o λr w=>((∃i:Nat,r= .int .i64 (i:Nat)/\l.findIdx? (kB p e t)=some i)\/(r= .int .i64 (-1)/\l.findIdx? (kB p e t)=none))/\C o [] [] w:=by
 have a:Own [] o:=C.start o;refine a6 func174 (bJ 2 a j j (λf w a=>bJ 0 a j j (λg w a=>bJ 0 a j j (λh w a=>?_))));have a:C o [] [J h #[ab t] 3,J g #[ab e] 3,J f #[ab p] 3] w:=a;refine ar 6 j (ax (a.b8 v) j) (gI j j j j ?_);have x:=xO (ez:=217) (be:= #[aa f,aa g,aa h]) (q:=kB p e t) (T:=λd=>d.heap[f]? =some (.cells #[ab p] 3 (0,0))/\d.heap[g]? =some (.cells #[ab e] 3 (0,0))/\d.heap[h]? =some (.cells #[ab t] 3 (0,0))) (λd s m=>GO m.1 m.2.1 m.2.2) (λd k=>⟨k.b8 (C.aj (b:=f) a),k.b8 (C.aj (b:=g) a),k.b8 (C.aj (b:=h) a)⟩) u (n.st a);refine bk 0 x j (λr w⟨z,y⟩=>?_);have a:=a.aO y;exact an 1 j j ⟨z,a.bare⟩
theorem CZ{o:World}{be:Nat}{l:dQ}{G:List Chunk}{p e t:Int}{cu:Bool}(aC:kh be l G)(aJ:l.ch.length<=1000000)(a:Own [G] o):Calls prog 200 #[aa be,ab p,ab e,ab t,.bool cu] o λr w=>r=ab (l.end_ p e t cu).2/\∃af,kh be (l.end_ p e t cu).1 af/\C o (au [G]) [af] w:=by
 have aD:=aC;obtain⟨c,ak,S,E,n,rfl⟩:=aC;obtain⟨u,aB⟩:∃u,u=au [dH be c++(ak++(S++E))]:=⟨_,j⟩;rw [<-aB];have a:C o u [dH be c++(ak++(S++E))] o:=aB▸a;have a:=a.u9;obtain⟨dM,Y⟩:∃dM:Int,dM=if cu=true then 2 else 3:=⟨_,j⟩
 refine a6 func200 (aq 9 j (bY 15 (.bool false) j (aK Value.bool (j)) ?_));refine br 2 (uA (p:=p) (e:=e)) j (λw hw=>?_);have hw:=hw.symm;subst hw;refine aq 3 j (c9 21 j (λQ=>?_) (λQ=>?_))
 .refine an 8 j j ?_;have B:l.end_ p e t cu=(l,1):=if_pos (by rw [show jL p e=false from by simpa using Q];rfl);rw [B];exact⟨j,_,aD,a.iK⟩
 refine br 1 (xU (t:=t)) j (λw hw=>?_);have hw:=hw.symm;subst hw;refine bo 2 j j (λT=>?_) (λT=>?_)
 .refine an 3 j j ?_;have B:l.end_ p e t cu=(l,1):=if_pos (by rw [show kT t=false from by simpa using T];exact Bool.and_false _);rw [B];exact⟨j,_,aD,a.iK⟩
 refine bo 8 j j (λao=>?_) (λao=>?_);have ag:dM=2:=by rw [Y];exact aR ao
 refine aq 8 j ?_;rcases y:l.ch.findIdx? (kB p e t) with _|P
 .have W:=ox (be:=be) (c:=c) (p:=p) (e:=e) (t:=t) (C.aj (b:=be) a) n.ch (a.holds (G:=S) (by simp));refine bk 0 W j (λr w⟨v,X⟩=>?_);obtain⟨v,_⟩:=v.resolve_left (λ⟨_,_,h⟩=>by rw [y] at h;cases h);subst v;have a:=a.aO X;obtain⟨dP,aE,av,_,_⟩:=Row.form n.ch;refine ar 12 j (ax (C.aj (b:=be) a) (aK some av)) (ar 7 j (ax (C.aj (b:=be) a) j) (aq 3 j (cP (c:=(⟨p,e,t,-1,0⟩:dJ).cs.toArray) j j j (λ_=>by kernel_rfl) ?_)));refine gj (U:=(⟨p,e,t,-1,0⟩:dJ).cs) a j j j j bO bO (λam w a=>?_);have aT:=bq (C.aj (b:=am) a);refine e6 (a.to S) n.ch j j (by decide) j j j (m:=1) (news:=(⟨p,e,t,-1,0⟩:dJ).cs) j aT (vs [(⟨p,e,t,-1,0⟩:dJ)]) (by omega) (by unfold maxLen;omega) (λv1 g w K a=>?_)
  have K:gk v1 (l.ch++[(⟨p,e,t,-1,0⟩:dJ)]) g:=by
   unfold gk;rw [cj,List.flatMap_append];simpa using K
  refine dE 2 (a.bc be) j j j (Row.one K) (λw a=>?_);have a:C o u (dH be ({c with ch:=v1})::_) w:=a;obtain⟨aH,L,g,i,O,N,F,A,D,s,a⟩:∃(aH:iz)(L:List dJ)(g:List Chunk)(i:Nat),aH.cY=c.cY/\aH.eC=c.eC/\L=(l.ch++[(⟨p,e,t,-1,0⟩:dJ)])/\l.ch.length=i/\gk aH.ch L g/\i<L.length/\C o u [dH be aH,ak,g,E] w:=⟨{c with ch:=v1},(l.ch++[(⟨p,e,t,-1,0⟩:dJ)]),g,l.ch.length,j,j,j,j,K,by rw [cj,List.length_singleton];omega,a.as⟩;refine aq 3 j (bY 12 (.int .i64 (i:Nat)) j (by rw [A]) ?_);obtain⟨d,cap,cur,q,rfl,aA,ap,aw⟩:=Row.block D (by omega);have H:∀x∈L,(dJ.cs x).length=5:=λ_ _=>rfl
  have I:gk (.slice (some ⟨d,0,none⟩) L.length cap) L (J d cur 307):=q▸D
  have ih:C o u [dH be aH,ak,J d cur 307,E] w->World.cell? w ⟨d,i*5+4,none⟩=some (ab L[i].k):=λa=>by
   obtain⟨_,_,V,_,_,Z,_⟩:=Row.read I (a.holds (G:=J d cur 307) (by simp));cases V;have h:=Z.cell (iI (f:=dJ.cs) (R:=4) L H i s (by decide) j);rw [add_lit] at h;simpa using h
  have ay:L[i].k=0:=by simp only [F,<-A];simp
  refine ar 3 j (ax (C.aj (b:=be) a) (aK some q)) (aq 1 j (hy j j j j s ?_));refine ar 1 j (by have h:=ih a;simpa [add_lit] using h) (aq 2 j (bY 61 (.bool false) j (congrArg Value.bool ((by rw [ay];rfl))) ?_));refine aq 15 j (bY 11 (ab dM) j (by rw [ag];rfl) ?_);refine ar 3 j (ax (C.aj (b:=be) a) (aK some q)) (aq 2 j (hy j j j j s ?_));refine aq 1 j (cO (a.bc d) j j j j (by omega) (λw a=>?_));have M:=Row.setCell I (i*5+4) (ab dM);rw [rL (f:=dJ.cs) L H i s 4 (by decide) (ab dM) {L[i] with k:=dM} j] at M
  have al:gk aH.ch (L.set i {L[i] with k:=dM}) (J d (cur.setIfInBounds (i*5+4) (ab dM)) 307):=by
   unfold gk;rw [q,gJ];exact M
  have a:=C.f9 a (show cur.setIfInBounds (0+i*5+4) (ab dM)=cur.setIfInBounds (i*5+4) (ab dM) by rw [fe]);refine an 3 j j ?_
  have B:l.end_ p e t cu=({l with ch:=L.set i {L[i] with k:=dM}},0):=by
   unfold dQ.end_;rw [az (by rw [show jL p e=true from by simpa using Q,show kT t=true from by simpa using T];decide)];rw [show l.span p e t=none from y];dsimp only;rw [<-Y];refine aK (λz=>(({l with ch:=z}:dQ),(0:Int))) ?_;simp only [F,<-A];simp
  rw [B];have a:C o u [dH be aH,ak,J d (cur.setIfInBounds (i*5+4) (ab dM)) 307,E] w:=a.as;exact⟨j,_,⟨aH,ak,_,E,⟨O▸n.cY,al,N▸n.eC⟩,j⟩,a.iK⟩
 have W:=ox (be:=be) (c:=c) (p:=p) (e:=e) (t:=t) (C.aj (b:=be) a) n.ch (a.holds (G:=S) (by simp));refine bk 0 W j (λr w⟨v,X⟩=>?_);obtain⟨aI,v,ai⟩:=v.resolve_right (λh=>by rw [y] at h;cases h.2);rw [y] at ai;cases ai;subst v;have a:=a.aO X;refine ij 6 j j ((e7 (by omega))) ?_;obtain⟨ae,aF,aG⟩:=pf.1 y;obtain⟨aH,L,g,i,O,N,F,A,D,s,a⟩:∃(aH:iz)(L:List dJ)(g:List Chunk)(i:Nat),aH.cY=c.cY/\aH.eC=c.eC/\L=l.ch/\P=i/\gk aH.ch L g/\i<L.length/\C o u [dH be aH,ak,g,E] w:=⟨c,l.ch,S,P,j,j,j,j,n.ch,ae,a.as⟩;refine aq 4 j (bY 12 (.int .i64 (i:Nat)) j (by rw [A]) ?_);obtain⟨d,cap,cur,q,rfl,aA,ap,aw⟩:=Row.block D (by omega);have H:∀x∈L,(dJ.cs x).length=5:=λ_ _=>rfl
 have I:gk (.slice (some ⟨d,0,none⟩) L.length cap) L (J d cur 307):=q▸D
 have ih:C o u [dH be aH,ak,J d cur 307,E] w->World.cell? w ⟨d,i*5+4,none⟩=some (ab L[i].k):=λa=>by
  obtain⟨_,_,V,_,_,Z,_⟩:=Row.read I (a.holds (G:=J d cur 307) (by simp));cases V;have h:=Z.cell (iI (f:=dJ.cs) (R:=4) L H i s (by decide) j);rw [add_lit] at h;simpa using h
 refine ar 3 j (ax (C.aj (b:=be) a) (aK some q)) (aq 1 j (hy j j j j s ?_));refine ar 1 j (by have h:=ih a;simpa [add_lit] using h) (aq 2 j (c9 61 j (λac=>?_) (λac=>?_)));refine ar 3 j (ax (C.aj (b:=be) a) (aK some q)) (aq 1 j (hy j j j j s ?_));refine ar 1 j (by have h:=ih a;simpa [add_lit] using h) (bo 3 j j (λad=>?_) (λad=>?_))
 .refine an 3 j j ?_
  have B:l.end_ p e t cu=(l,6):=by
   unfold dQ.end_;rw [az (by rw [show jL p e=true from by simpa using Q,show kT t=true from by simpa using T];decide)];rw [show l.span p e t=some P from y];dsimp only;rw [mK ae,<-Y];subst A;subst F;refine aR ⟨by simpa using ac,?_⟩;first|rw [ag]|rw [ah]
   simpa using ad
  rw [B];have a:C o u [dH be aH,ak,J d cur 307,E] w:=a.as;exact⟨j,_,⟨aH,ak,_,E,⟨O▸n.cY,F▸D,N▸n.eC⟩,j⟩,a.iK⟩
 refine aq 3 j (bY 11 (ab dM) j (by rw [ag];rfl) ?_);rotate_left
 refine aq 15 j (bY 11 (ab dM) j (by rw [ag];rfl) ?_);rotate_left
 have ah:dM=3:=by rw [Y];exact az (by rw [show cu=false from ao];decide)
 refine aq 7 j ?_;rcases y:l.ch.findIdx? (kB p e t) with _|P
 .have W:=ox (be:=be) (c:=c) (p:=p) (e:=e) (t:=t) (C.aj (b:=be) a) n.ch (a.holds (G:=S) (by simp));refine bk 0 W j (λr w⟨v,X⟩=>?_);obtain⟨v,_⟩:=v.resolve_left (λ⟨_,_,h⟩=>by rw [y] at h;cases h);subst v;have a:=a.aO X;obtain⟨dP,aE,av,_,_⟩:=Row.form n.ch;refine ar 12 j (ax (C.aj (b:=be) a) (aK some av)) (ar 7 j (ax (C.aj (b:=be) a) j) (aq 3 j (cP (c:=(⟨p,e,t,-1,0⟩:dJ).cs.toArray) j j j (λ_=>by kernel_rfl) ?_)));refine gj (U:=(⟨p,e,t,-1,0⟩:dJ).cs) a j j j j bO bO (λam w a=>?_);have aT:=bq (C.aj (b:=am) a);refine e6 (a.to S) n.ch j j (by decide) j j j (m:=1) (news:=(⟨p,e,t,-1,0⟩:dJ).cs) j aT (vs [(⟨p,e,t,-1,0⟩:dJ)]) (by omega) (by unfold maxLen;omega) (λv1 g w K a=>?_)
  have K:gk v1 (l.ch++[(⟨p,e,t,-1,0⟩:dJ)]) g:=by
   unfold gk;rw [cj,List.flatMap_append];simpa using K
  refine dE 2 (a.bc be) j j j (Row.one K) (λw a=>?_);have a:C o u (dH be ({c with ch:=v1})::_) w:=a;obtain⟨aH,L,g,i,O,N,F,A,D,s,a⟩:∃(aH:iz)(L:List dJ)(g:List Chunk)(i:Nat),aH.cY=c.cY/\aH.eC=c.eC/\L=(l.ch++[(⟨p,e,t,-1,0⟩:dJ)])/\l.ch.length=i/\gk aH.ch L g/\i<L.length/\C o u [dH be aH,ak,g,E] w:=⟨{c with ch:=v1},(l.ch++[(⟨p,e,t,-1,0⟩:dJ)]),g,l.ch.length,j,j,j,j,K,by rw [cj,List.length_singleton];omega,a.as⟩;refine aq 3 j (bY 12 (.int .i64 (i:Nat)) j (by rw [A]) ?_);obtain⟨d,cap,cur,q,rfl,aA,ap,aw⟩:=Row.block D (by omega);have H:∀x∈L,(dJ.cs x).length=5:=λ_ _=>rfl
  have I:gk (.slice (some ⟨d,0,none⟩) L.length cap) L (J d cur 307):=q▸D
  have ih:C o u [dH be aH,ak,J d cur 307,E] w->World.cell? w ⟨d,i*5+4,none⟩=some (ab L[i].k):=λa=>by
   obtain⟨_,_,V,_,_,Z,_⟩:=Row.read I (a.holds (G:=J d cur 307) (by simp));cases V;have h:=Z.cell (iI (f:=dJ.cs) (R:=4) L H i s (by decide) j);rw [add_lit] at h;simpa using h
  have ay:L[i].k=0:=by simp only [F,<-A];simp
  refine ar 3 j (ax (C.aj (b:=be) a) (aK some q)) (aq 1 j (hy j j j j s ?_));refine ar 1 j (by have h:=ih a;simpa [add_lit] using h) (aq 2 j (bY 61 (.bool false) j (congrArg Value.bool ((by rw [ay];rfl))) ?_));refine aq 15 j (bY 11 (ab dM) j (by rw [ah];rfl) ?_);refine ar 3 j (ax (C.aj (b:=be) a) (aK some q)) (aq 2 j (hy j j j j s ?_));refine aq 1 j (cO (a.bc d) j j j j (by omega) (λw a=>?_));have M:=Row.setCell I (i*5+4) (ab dM);rw [rL (f:=dJ.cs) L H i s 4 (by decide) (ab dM) {L[i] with k:=dM} j] at M
  have al:gk aH.ch (L.set i {L[i] with k:=dM}) (J d (cur.setIfInBounds (i*5+4) (ab dM)) 307):=by
   unfold gk;rw [q,gJ];exact M
  have a:=C.f9 a (show cur.setIfInBounds (0+i*5+4) (ab dM)=cur.setIfInBounds (i*5+4) (ab dM) by rw [fe]);refine an 3 j j ?_
  have B:l.end_ p e t cu=({l with ch:=L.set i {L[i] with k:=dM}},0):=by
   unfold dQ.end_;rw [az (by rw [show jL p e=true from by simpa using Q,show kT t=true from by simpa using T];decide)];rw [show l.span p e t=none from y];dsimp only;rw [<-Y];refine aK (λz=>(({l with ch:=z}:dQ),(0:Int))) ?_;simp only [F,<-A];simp
  rw [B];have a:C o u [dH be aH,ak,J d (cur.setIfInBounds (i*5+4) (ab dM)) 307,E] w:=a.as;exact⟨j,_,⟨aH,ak,_,E,⟨O▸n.cY,al,N▸n.eC⟩,j⟩,a.iK⟩
 have W:=ox (be:=be) (c:=c) (p:=p) (e:=e) (t:=t) (C.aj (b:=be) a) n.ch (a.holds (G:=S) (by simp));refine bk 0 W j (λr w⟨v,X⟩=>?_);obtain⟨aI,v,ai⟩:=v.resolve_right (λh=>by rw [y] at h;cases h.2);rw [y] at ai;cases ai;subst v;have a:=a.aO X;refine ij 6 j j ((e7 (by omega))) ?_;obtain⟨ae,aF,aG⟩:=pf.1 y;obtain⟨aH,L,g,i,O,N,F,A,D,s,a⟩:∃(aH:iz)(L:List dJ)(g:List Chunk)(i:Nat),aH.cY=c.cY/\aH.eC=c.eC/\L=l.ch/\P=i/\gk aH.ch L g/\i<L.length/\C o u [dH be aH,ak,g,E] w:=⟨c,l.ch,S,P,j,j,j,j,n.ch,ae,a.as⟩;refine aq 4 j (bY 12 (.int .i64 (i:Nat)) j (by rw [A]) ?_);obtain⟨d,cap,cur,q,rfl,aA,ap,aw⟩:=Row.block D (by omega);have H:∀x∈L,(dJ.cs x).length=5:=λ_ _=>rfl
 have I:gk (.slice (some ⟨d,0,none⟩) L.length cap) L (J d cur 307):=q▸D
 have ih:C o u [dH be aH,ak,J d cur 307,E] w->World.cell? w ⟨d,i*5+4,none⟩=some (ab L[i].k):=λa=>by
  obtain⟨_,_,V,_,_,Z,_⟩:=Row.read I (a.holds (G:=J d cur 307) (by simp));cases V;have h:=Z.cell (iI (f:=dJ.cs) (R:=4) L H i s (by decide) j);rw [add_lit] at h;simpa using h
 refine ar 3 j (ax (C.aj (b:=be) a) (aK some q)) (aq 1 j (hy j j j j s ?_));refine ar 1 j (by have h:=ih a;simpa [add_lit] using h) (aq 2 j (c9 61 j (λac=>?_) (λac=>?_)));refine ar 3 j (ax (C.aj (b:=be) a) (aK some q)) (aq 1 j (hy j j j j s ?_));refine ar 1 j (by have h:=ih a;simpa [add_lit] using h) (bo 3 j j (λad=>?_) (λad=>?_))
 .refine an 3 j j ?_
  have B:l.end_ p e t cu=(l,6):=by
   unfold dQ.end_;rw [az (by rw [show jL p e=true from by simpa using Q,show kT t=true from by simpa using T];decide)];rw [show l.span p e t=some P from y];dsimp only;rw [mK ae,<-Y];subst A;subst F;refine aR ⟨by simpa using ac,?_⟩;first|rw [ag]|rw [ah]
   simpa using ad
  rw [B];have a:C o u [dH be aH,ak,J d cur 307,E] w:=a.as;exact⟨j,_,⟨aH,ak,_,E,⟨O▸n.cY,F▸D,N▸n.eC⟩,j⟩,a.iK⟩
 refine aq 3 j (bY 11 (ab dM) j (by rw [ah];rfl) ?_);rotate_left
 refine aq 15 j (bY 11 (ab dM) j (by rw [ah];rfl) ?_);rotate_left
 all_goals
  rotate_left
  all_goals
   refine ar 3 j (ax (C.aj (b:=be) a) (aK some q)) (aq 2 j (hy j j j j s ?_));refine aq 1 j (cO (a.bc d) j j j j (by omega) (λw a=>?_));have M:=Row.setCell I (i*5+4) (ab dM);rw [rL (f:=dJ.cs) L H i s 4 (by decide) (ab dM) {L[i] with k:=dM} j] at M
   have al:gk aH.ch (L.set i {L[i] with k:=dM}) (J d (cur.setIfInBounds (i*5+4) (ab dM)) 307):=by
    unfold gk;rw [q,gJ];exact M
   have a:=C.f9 a (show cur.setIfInBounds (0+i*5+4) (ab dM)=cur.setIfInBounds (i*5+4) (ab dM) by rw [fe]);refine an 3 j j ?_
   have B:l.end_ p e t cu=({l with ch:=L.set i {L[i] with k:=dM}},0):=by
    unfold dQ.end_;rw [az (by rw [show jL p e=true from by simpa using Q,show kT t=true from by simpa using T];decide)];rw [show l.span p e t=some P from y];dsimp only;rw [mK ae,<-Y];subst A;subst F;refine az ?_;first|exact λh=>h.1 (by simpa using ac)|(rintro⟨_,h⟩;(first|rw [ag] at h|rw [ah] at h);exact h (by simpa using ad))
   rw [B];have a:C o u [dH be aH,ak,J d (cur.setIfInBounds (i*5+4) (ab dM)) 307,E] w:=a.as;exact⟨j,_,⟨aH,ak,_,E,⟨O▸n.cY,al,N▸n.eC⟩,j⟩,a.iK⟩
structure cR where
 log:dQ
 acc:List b7
 aI:List (Int×List (Int×aN))
def cR.new:cR:=⟨dQ.new,[],[]⟩
abbrev oH(z:Int):Int:=IntKind.i64.wrap z
def ey(m:b7):Int:=oH (oH (oH (oH (oH (oH (m.k*8)+m.p)*101)+m.e)*101)+m.t)
def kU(g:al)(m:b7)(v:aN):Bool:=m.ok&&(v.k==(dr g m v.f).k)&&(v.s==(dr g m v.f).s)&&(v.v==(dr g m v.f).v)&&(v.sum==(dr g m v.f).sum)&&dF g v
def cR.bF(b:cR)(m:b7):cR×Int:=
 if m.k=1 then({b with log:=(b.log.ku m.p m.e).1},(b.log.ku m.p m.e).2)
 else({b with log:=(b.log.end_ m.p m.e m.t (m.k==2)).1},(b.log.end_ m.p m.e m.t (m.k==2)).2)
def cR.accept(g:al)(b:cR)(m:b7)(l:List aN):cR×Int:=
 if m.ok=false then(b,1) else if pq g m l=false then(b,9) else if m∈b.acc then(b,0)
 else if(b.bF m).2≠0 then b.bF m
 else({(b.bF m).1 with acc:=b.acc++[m],aI:=fU b.aI (ey m)},0)
def fF(l:List (Int×aN)):List aN:=(cW l).map Prod.snd
def iD(l:List (Int×aN))(v:aN):List (Int×aN):=if(aV l v.f).isSome=true then l else bV l v.f v
def cR.dv(g:al)(b:cR)(m:b7)(v:aN):cR×Int:=
 if m.ok=false then(b,1) else if kU g m v=false then(b,9) else if m∈b.acc then(b,0)
 else if(aV b.aI (ey m)).isSome=false/\64<=b.aI.length then(b,3)
 else if pq g m (fF (iD ((aV b.aI (ey m)).getD []) v))=true then
  ((cR.accept g {b with aI:=fU (bV b.aI (ey m) (iD ((aV b.aI (ey m)).getD []) v)) (ey m)} m (fF (iD ((aV b.aI (ey m)).getD []) v))).1,0)
 else({b with aI:=bV b.aI (ey m) (iD ((aV b.aI (ey m)).getD []) v)},0)
def iW(v:Value)(x:aN)(G:List Chunk):Prop:=v= .agg x.cs.toArray/\G=[]/\x.ok
def o1(v:Value)(l:List (Int×aN))(G:List Chunk):Prop:=fo 267 iW v l G
structure jR where
 be:Nat
 acc:Value
 aI:Value
abbrev tM(g:al)(c:jR):List Value:=[g.p,.pointer (some ⟨c.be,0,none⟩),c.acc,c.aI]
abbrev ck(g:al)(bh:Nat)(c:jR):List Chunk:=J bh (tM g c).toArray 88
structure Al(g:al)(b:cR)(c:jR)(L M V:List Chunk):Prop where
 log:kh c.be b.log L
 acc:eG c.acc b.acc M
 aI:fo 228 o1 c.aI b.aI V
def jA(g:al)(bh:Nat)(b:cR)(G:List Chunk):Prop:=∃(c:jR)(L M V:List Chunk),Al g b c L M V/\G=ck g bh c++(L++(M++V))
theorem C.u7{g:al}{bh:Nat}{c:jR}{L M V:List Chunk}{ae:List (List Chunk)}{o w:World}{F:List Nat}(h:C o F ((ck g bh c++(L++(M++V)))::ae) w):C o F (ck g bh c::L::M::V::ae) w:=h.perm (by simp)
theorem C.kV{g:al}{bh:Nat}{c:jR}{L M V:List Chunk}{ae:List (List Chunk)}{o w:World}{F:List Nat}(h:C o F (ck g bh c::L::M::V::ae) w):C o F ((ck g bh c++(L++(M++V)))::ae) w:=h.perm (by simp)
theorem uT{o:World}{g:al}:Calls prog 31 #[g.p] o λr w=>∃bh G,r=aa bh/\jA g bh cR.new G/\C o [] [G] w:=by
 have a:Own [] o:=C.start o;refine a6 func31 (bk 6 E3 j (λr w⟨be,d,f,i,e⟩=>?_));subst f;have a:=a.aO e;refine bk 0 Fa j (λr w⟨bS,h,f,k,e⟩=>?_);subst f;have a:=a.aO e;refine cP (c:=(tM g (⟨be,.slice none 0 0,aa bS⟩:jR)).toArray) j j j (λ_=>by kernel_rfl) (bJ 0 a j j (λb w a=>an 1 j j ?_));have a:C o [] (ck g b (⟨be,.slice none 0 0,aa bS⟩:jR)::_) w:=a;have a:C o [] [ck g b (⟨be,.slice none 0 0,aa bS⟩:jR),d,[],ay 228 bS h (.map #[] 0)] w:=C.perm (A:=[ck g b (⟨be,.slice none 0 0,aa bS⟩:jR),d,ay 228 bS h (.map #[] 0)]) a.as (by simp);exact⟨b,_,j,⟨(⟨be,.slice none 0 0,aa bS⟩:jR),d,[],_,⟨i,eG.nil,fo.new k⟩,j⟩,a.kV⟩
theorem pS{o:World}{m:b7}:Calls prog 94 #[hh m] o λr w=>r=ab (ey m)/\C o [] [] w:=by
 have a:Own [] o:=C.start o;refine a6 func94 (bJ 2 a j j (λaC w a=>?_));have a:C o [] (J aC m.cs.toArray 110::_) w:=a;exact ar 4 j (ax (C.aj a) j) (ar 2 j (ax (C.aj a) j) (ar 3 j (ax (C.aj a) j) (ar 3 j (ax (C.aj a) j) (an 2 j j ⟨j,a.bare⟩))))
theorem xQ{o:World}{m:b7}:Calls prog 90 #[hh m] o λr w=>r= .bool m.ok/\C o [] [] w:=by
 have a:Own [] o:=C.start o;refine a6 func90 (bJ 2 a j j (λaC w a=>?_));have a:C o [] (J aC m.cs.toArray 110::_) w:=a;refine bP 3 (U:=m.cs) j j j (bq (C.aj (b:=aC) a)) ?_;have c:=t6 (o:=w) (k:=m.k) (p:=m.p) (e:=m.e) (t:=m.t);refine bk 0 c j (λr w⟨v,G,d,f,ad⟩=>?_);subst d;have a:=a.aO ad;exact an 10 j j ⟨aK Value.bool (u1 m.ok),a.bare⟩
theorem C9(a b:b7)(w:World):(Op.equalIn 10000 110 (.agg a.cs.toArray) (.agg b.cs.toArray)).run prog w= .ok (decide (a=b)) w:=xe a b w
theorem DH{l:List b7}{k:b7}{i:Nat}(h:i=l.length)(aT:k∉l.take i):k∉l:=by subst h;rwa [gm] at aT
theorem DN{o:World}{v:Value}{l:List b7}{G:List Chunk}{m:b7}(z:eG v l G)(y:Holds o G):Calls prog 153 #[v,hh m] o λr w=>(∃R:Int,r= .int .i64 R/\(0<=R↔m∈l))/\C o [] [] w:=by
 have c:Own [] o:=C.start o;obtain⟨k,u,rfl,H,F,t,_⟩:=Row.read z y;have s:∀e∈l,(b7.cs e).length=4:=λ_ _=>rfl
 refine a6 func153 ?_;refine bJ 2 c j j (λd w c=>?_);have c:C o [] (J d m.cs.toArray 110::_) w:=c;refine dj 8 j (cU:=Nat×Option Addr) (λi=>[(0,.slice k l.length u),(3,aa d),(7,.int .i64 (l.length:Nat)),(8,.int .i64 (i.1:Nat))]) (λi w=>i.1<=l.length/\m∉l.take i.1/\C o [] [J d m.cs.toArray 110] w) (λi=>l.length-i.1) (0,k) ⟨j,j,j,j,bb⟩ ⟨cp _,by simp,c⟩ ?_;rintro⟨i,_⟩ w ⟨B,aT,c⟩;dsimp only at B aT c⊢;refine bo 4 j j (λp=>?_) (λp=>?_)
 .have g:i<l.length:=by have:=dV p;omega
  have c:C o [] ([J d m.cs.toArray 110]++_) _:=c.front;have c:=c.drew;refine bx 8 j (λw=>(∃ae,C o [] ([J d m.cs.toArray 110]++ae) w)) ⟨_,c⟩ ?_;refine bl 0 j (λw⟨_,c⟩=>dd (U:=m.cs) j j j (bq (C.aj (b:=d) c))) ?_;refine ag 1 2 j ?_
  obtain⟨q,x⟩:∃q,k=some q:=by
   obtain⟨a,A,_⟩:=t (i*4+0) _ (iI (f:=b7.cs) (R:=0) l s i g (by decide) j);exact⟨a,A⟩
  subst x;refine bl 3 j (λw _=>qD j j g) ?_;refine bl 4 j (λw⟨_,c⟩=>dd (U:=l[i].cs) j j j (j6 (f:=b7.cs) (c.rd t (cc.of_nil _ _)) s i g)) ?_;refine bl 5 j (λw _=>qC j j (by kernel_rfl) (λw=>C9 m l[i] w)) ?_;refine bL ?_;refine bo 0 j j (λn=>?_) (λn=>?_)
  .refine an 4 j j ?_;have he:m=l[i]:=dV n;refine⟨⟨_,j,?_⟩,c.bare⟩;constructor
   .intro _;rw [he];exact eB g
   intro _;omega
  refine bE 2 j j j (dn i (by unfold maxLen at F;omega)) ?_;refine bW 1 j ?_;refine⟨(i+1,none),⟨j,j,j,j,bb⟩,⟨g,?_,c.as⟩,by dsimp only;omega⟩;dsimp only;rw [fK g,fL];have E:m≠l[i]:=dY n;simp [aT,E]
 refine an 4 j j ?_;have D:i=l.length:=by have:=dY p;omega
 refine⟨⟨-1,j,?_⟩,c.bare⟩;constructor
 .intro h;omega
 intro h;exact absurd h (DH D aT)
theorem wV{o:World}{v:Value}{l:List b7}{G:List Chunk}{m:b7}(g:eG v l G)(f:Holds o G):Calls prog 92 #[v,hh m] o λr w=>r= .bool (decide (m∈l))/\C o [] [] w:=by
 have a:Own [] o:=C.start o;refine a6 func92 ?_;refine bJ 2 a j j (λc w a=>?_);have a:C o [] (J c m.cs.toArray 110::_) w:=a;refine bP 4 (U:=m.cs) j j j (bq (C.aj (b:=c) a)) ?_;have i:=DN (m:=m) g (f.st a);refine bk 0 i j (λr w⟨⟨R,k,d⟩,ad⟩=>?_);subst k;have a:=a.aO ad;refine an 2 j j ?_;refine⟨aK Value.bool ?_,a.bare⟩;by_cases h:m∈l
 .rw [hM h];exact hM (d.2 h)
 rw [e7 h];exact e7 (λe=>h (d.1 e))
theorem DY{o:World}{g:al}{bh:Nat}{c:jR}{m:b7}{v:aN}(A:o.heap[bh]? =some (.cells (tM g c).toArray 88 (0,0)))(y:g.at o)(z:g.ok)(l:v.ok):Calls prog 91 #[aa bh,hh m,.agg v.cs.toArray] o λr w=>r= .bool (kU g m v)/\C o [] [] w:=by
 have a:Own [] o:=C.start o;refine a6 func91 (bJ 2 a j j (λe w a=>?_));have a:C o [] (J e m.cs.toArray 110::_) w:=a;refine bJ 0 a j j (λd w a=>?_);have a:C o [] [J d v.cs.toArray 115,J e m.cs.toArray 110] w:=a;have a:C o [] ([J e m.cs.toArray 110,J d v.cs.toArray 115]++_) _:=a.front;have a:=a.drew;refine bx 2 j (λw=>∃ae,C o [] ([J e m.cs.toArray 110,J d v.cs.toArray 115]++ae) w) ⟨_,a⟩ (ag 0 3 j (b4 3 j (λw⟨_,a⟩=>ax (a.b8 A) j) (bl 4 j (λw⟨_,a⟩=>dd (U:=m.cs) j j j (bq (C.aj (b:=e) a))) (ag 5 1 j (a8 6 j a2 (v.eN l) (aS 7 11 j j ?_ ?_))))));have n:=rX (y.st a (al.off.nil g)) z (m:=m) (f:=v.f);refine bK j j j n (λw p=>?_);have a:=a.aO p;have a:C o [] ([J e m.cs.toArray 110,J d v.cs.toArray 115]++_) w:=a.front;refine ao ⟨⟨_,a⟩,?_⟩;refine ag 8 3 j (aX 11 j (eu a j j (λh w a=>?_)));have a:C o [] (J h lG.cs.toArray 115::_) w:=a;have a:C o [] ([J e m.cs.toArray 110,J d v.cs.toArray 115]++_) w:=a.front;refine ao ⟨⟨_,a⟩,?_⟩;rotate_left
 refine eu a j j (λh w a=>?_);have a:C o [] (J h lG.cs.toArray 115::_) w:=a;have a:C o [] ([J e m.cs.toArray 110,J d v.cs.toArray 115]++_) w:=a.front;refine ao ⟨⟨_,a⟩,?_⟩;refine aX 7 j ?_;have n:=rX (y.st a (al.off.nil g)) z (m:=m) (f:=v.f);refine bK j j j n (λw p=>?_);have a:=a.aO p;have a:C o [] ([J e m.cs.toArray 110,J d v.cs.toArray 115]++_) w:=a.front;refine ao ⟨⟨_,a⟩,?_⟩;refine ag 8 3 j ?_;rotate_left
 all_goals
  refine aX 12 j (c6 (a.bc h) j j j (by simpa using(dr g m v.f).one) (by rw [List.size_toArray];exact(dr g m v.f).len (iL g m v.f)) bO (λw a=>?_));have a:=C.whole (U:=(dr g m v.f).cs) a (by rw [(dr g m v.f).len (iL g m v.f)];rfl);have a:C o [] (J h (dr g m v.f).cs.toArray 115::_) w:=a;have a:C o [] ([J e m.cs.toArray 110,J d v.cs.toArray 115]++_) w:=a.front;refine ao ⟨⟨_,a⟩,?_⟩;refine ag 13 1 j (bL ?_);have a:C o [] ([J d v.cs.toArray 115,J h (dr g m v.f).cs.toArray 115]++_) _:=a.front;have a:=a.drew;refine bx 1 j (λw=>∃ae,C o [] ([J d v.cs.toArray 115,J h (dr g m v.f).cs.toArray 115]++ae) w) ⟨_,a⟩ (ag 0 2 j (ek 21 j (λq=>?_) (λq=>?_)))
  .refine ag 2 1 j (a8 3 j a2 v.gL (ag 4 1 j (a8 5 j a2 (dr g m v.f).gL (ag 6 3 j (ek 28 j (λt=>?_) (λt=>?_))))))
   .refine ag 9 1 j (a8 10 j a2 v.aH (ag 11 1 j (a8 12 j a2 (dr g m v.f).aH (ag 13 3 j (ek 35 j (λeN=>?_) (λeN=>?_))))))
    .refine ag 16 1 j (a8 17 j a2 v.dy (ag 18 1 j (a8 19 j a2 (dr g m v.f).dy (ag 20 3 j (ek 42 j (λu=>?_) (λu=>?_))))))
     .refine ag 23 1 j (bl 24 j (λw⟨_,a⟩=>dd (U:=aP v.sum) j j (by rw [dx];exact l.1) (v.sl l (C.aj (b:=d) a))) (ag 25 1 j (bl 26 j (λw⟨_,a⟩=>dd (U:=aP (dr g m v.f).sum) j j (by rw [dx];exact(iL g m v.f).1) ((dr g m v.f).sl (iL g m v.f) (C.aj (b:=h) a))) (bl 27 j (λw _=>qC j j (by kernel_rfl) (λw=>rE v.sum (dr g m v.f).sum l.1 (iL g m v.f).1 9998 w)) (ag 28 2 j (ek 49 j (λx=>?_) (λx=>?_)))))))
      .refine ag 30 3 j (b4 33 j (λw⟨_,a⟩=>ax (a.b8 A) j) (bl 34 j (λw⟨_,a⟩=>dd (U:=v.cs) j j (v.len l) (bq (C.aj (b:=d) a))) (aX 35 j ?_)));have n:=rO (y.st a (al.off.nil g)) z l;refine bK j j j n (λw p=>?_);have a:=a.aO p;have a:C o [] ([J d v.cs.toArray 115,J h (dr g m v.f).cs.toArray 115]++_) w:=a.front;refine ao ⟨⟨_,a⟩,?_⟩;refine ag 36 2 j (bL (an 0 j j (⟨aK Value.bool ?_,a.bare⟩)));unfold kU;rw [show m.ok=true from q,show(v.k==(dr g m v.f).k)=true from t,show(v.s==(dr g m v.f).s)=true from eN,show(v.v==(dr g m v.f).v)=true from u,show(v.sum==(dr g m v.f).sum)=true from x];simp
      refine ag 30 8 j (bL (an 0 j j (⟨aK Value.bool ?_,a.bare⟩)));unfold kU;have i:(v.sum==(dr g m v.f).sum)=false:=x;rw [i];simp
     refine ag 23 15 j (bL (an 0 j j (⟨aK Value.bool ?_,a.bare⟩)));unfold kU;have i:(v.v==(dr g m v.f).v)=false:=u;rw [i];simp
    refine ag 16 22 j (bL (an 0 j j (⟨aK Value.bool ?_,a.bare⟩)));unfold kU;have i:(v.s==(dr g m v.f).s)=false:=eN;rw [i];simp
   refine ag 9 29 j (bL (an 0 j j (⟨aK Value.bool ?_,a.bare⟩)));unfold kU;have i:(v.k==(dr g m v.f).k)=false:=t;rw [i];simp
  refine ag 2 36 j (bL (an 0 j j (⟨aK Value.bool ?_,a.bare⟩)));unfold kU;rw [show m.ok=false from q];rfl
theorem rU{o:World}{p:Option Addr}{m:List (Int×Value)}{t:List (Int×aN)}{H:List Chunk}(E:dI 267 o p m)(q:c4 iW m t H)(X:t.length<=100000):Calls prog 100 #[.pointer p] o λr w=>∃ak,en r (fF t) ak/\C o [] [ak] w:=by
 have c:Own [] o:=C.start o;refine jH func100 (cx 5 c j (λe w c=>?_));have c:C o [] [J e #[.slice none 0 0] 99,[]] w:=(C.empty c).f1;refine bk 4 (Bl (o:=w) (p:=p)) j (λr w⟨u,x,M,ad⟩=>?_);subst M;have F:=(E.st c).st ad;have c:=c.aO ad;have c:C o [] ([J u #[.pointer p] 157,[(x,.cells #[.func (.func 196) #[] #[]] 52 (0,0))]]++[J e #[.slice none 0 0] 99,[]]) w:=c
 refine jM 1 j (FU (by have W:=q.len;omega)) j (by have:=c.size;simpa using this) c j (λ_=>rfl) (by intro p s;simp at s;rcases s with rfl|rfl<;>rfl)
  (λpre ae=>∃v ak,ae=[J e #[v] 99,ak]/\en v (((cW t).take pre.length).map Prod.snd) ak) (λ_ _=>False) ⟨_,[],j,Row.nil 115 68⟩ (λL aJ B=>F.st B) (λ_ _ _ _=>trivial) ?_ ?_ (λ_ _ h=>h.elim) (λ_ _ _ h=>h.elim)
 .rintro y pre ⟨P,aa⟩ Q L ab A ⟨v,ak,rfl,i⟩ c;obtain⟨t1,t2,d,T,S,V,n,O,Y,G⟩:=q.nC A;obtain⟨rfl,rfl,g⟩:=G;have n:cW t=t1++(P,d)::t2:=n;have Z:((cW t).take pre.length).length<=100000:=by rw [hC,hN];omega
  have K:(((cW t).take (pre.length+1)).map Prod.snd)=(((cW t).take pre.length).map Prod.snd)++[d]:=by
   rw [n,<-O,lQ,o9,List.take_of_length_le (by omega)];simp
  have c:=C.gg c;refine cx 1 c j (λl w c=>cv 0 (c.bc l) j j j (by simpa using d.one) (by rw [List.size_toArray];exact d.len g) (λw c=>?_));have c:=C.whole (U:=d.cs) c (by rw [d.len g];rfl);have c:C _ _ [J l d.cs.toArray 115,J e #[v] 99,ak] w:=c.as;refine bH 0 j (⟨j,_,c,λL ac c=>?_⟩);have c:=C.gg c;refine ar 2 j (ax (C.aj (b:=e) c) j) (bP 0 (U:=d.cs) j j (d.len g) (bq (C.aj (b:=l) c)) (gj (U:=d.cs) c j j j (d.len g) (by decide) (by decide) (λz w c=>?_)));have aT:=bq (C.aj (b:=z) c);refine e6 (c.to ak) i j j (by decide) j j j (m:=1) (news:=d.cs) (d.len g) aT (by have:=sG [d];simpa [vcs] using this) (by simp only [List.length_map];omega) (by unfold maxLen;simp only [List.length_map];omega) (λv1 f w k c=>?_)
  have k:en v1 ((((cW t).take pre.length).map Prod.snd)++[d]) f:=by
   show Row 115 68 v1 _ (vcs _) f;rw [cj,List.length_singleton,sH];exact k
  refine dE 0 (c.bc e) j j j (Row.one k) (λw c=>?_);have c:C _ _ (J e #[v1] 99::_) w:=c;have c:C _ _ [J e #[v1] 99,f] w:=c.as;refine bH 0 j (⟨[J e #[v1] 99,f],c,v1,f,j,?_⟩);rw [cj,List.length_singleton,K];exact k
 rintro xs R w D ⟨v,ak,rfl,i⟩ c;rw [D,h8,q.len,ic (by rw [hN];exact cF _)] at i;have c:C o [] [J u #[.pointer p] 157,[(x,.cells #[.func (.func 196) #[] #[]] 52 (0,0))],J e #[v] 99,ak] w:=c;refine ar 2 j (ax (C.aj (b:=e) c) j) (bH 1 j ⟨v,λw N=>?_⟩);have c:=N.st c (cF _);refine⟨λa I=>iP (fn:=f100) I j _ _,?_⟩;exact⟨ak,i,c.as⟩
theorem CN{o:World}{g:al}{bh:Nat}{b:cR}{c:jR}{L:List Chunk}{m:b7}(u:kh c.be b.log L)(v:b.log.ch.length<=1000000)(a:Own [ck g bh c,L] o):Calls prog 156 #[aa bh,hh m] o λr w=>r=ab (b.bF m).2/\∃h,kh c.be (b.bF m).1.log h/\C o (au [ck g bh c,L]) [ck g bh c,h] w:=by
 obtain⟨d,s⟩:∃d,d=au [ck g bh c,L]:=⟨_,j⟩;rw [<-s];have a:C o d [ck g bh c,L] o:=s▸a;refine a6 func156 (bJ 2 a j j (λf w a=>?_));have a:C o d [J f m.cs.toArray 110,ck g bh c,L] w:=a;refine ar 5 j (ax (C.aj (b:=f) a) j) (bo 1 j j (λdu=>?_) (λdu=>?_))
 .have a:C o d ([J f m.cs.toArray 110,ck g bh c]++_) _:=a.front;have a:=a.drew;refine bx 1 j (λw=>∃ae,C o d ([J f m.cs.toArray 110,ck g bh c]++ae) w) ⟨_,a⟩ (ag 0 3 j (a8 3 j a2 j (ag 4 1 j (a8 5 j a2 j (ag 6 1 j (a8 7 j a2 j (aX 8 j ?_)))))));have l:=En (p:=m.p) (e:=m.e) u (a.ours (cM:=[L]));refine bK j j j l (λw⟨h,i,q⟩=>?_);have a:=a.b1 q;have a:C o d ([J f m.cs.toArray 110,ck g bh c]++_) w:=a.front;refine ao ⟨⟨_,a⟩,?_⟩;refine ag 9 1 j (bL (an 0 j j ?_));have n:b.bF m=({b with log:=(b.log.ku m.p m.e).1},(b.log.ku m.p m.e).2):=aR (ea.1 du);rw [n];exact⟨j,h,i,a.as⟩
 have a:C o d ([J f m.cs.toArray 110,ck g bh c]++_) _:=a.front;have a:=a.drew;refine bx 2 j (λw=>∃ae,C o d ([J f m.cs.toArray 110,ck g bh c]++ae) w) ⟨_,a⟩ (ag 0 3 j (a8 3 j a2 j (ag 4 1 j (a8 5 j a2 j (ag 6 1 j (a8 7 j a2 j (ag 8 1 j (a8 9 j a2 j (ag 10 1 j (a8 11 j a2 j (ag 12 1 j (aX 13 j ?_))))))))))));have l:=CZ (p:=m.p) (e:=m.e) (t:=m.t) (cu:=m.k==2) u v (a.ours (cM:=[L]));refine bK j j j l (λw⟨h,i,q⟩=>?_);have a:=a.b1 q;have a:C o d ([J f m.cs.toArray 110,ck g bh c]++_) w:=a.front;refine ao ⟨⟨_,a⟩,?_⟩;refine ag 14 1 j (bL (an 0 j j ?_));have n:b.bF m=({b with log:=(b.log.end_ m.p m.e m.t (m.k==2)).1},(b.log.end_ m.p m.e m.t (m.k==2)).2):=az (by simpa using du);rw [n];exact⟨j,h,i,a.as⟩
theorem cR.w9(b:cR)(m:b7):(b.bF m).1.acc=b.acc/\(b.bF m).1.aI=b.aI:=by unfold cR.bF;split<;>exact⟨j,j⟩
theorem py{o w:World}{F:List Nat}{ae:List (List Chunk)}{a:Nat}{e:TypeId}{m:b7}{u:Value}(b:C o F ([(a,.cells (m.cs++[u]).toArray e (0,0))]::ae) w):Rd w (some ⟨a,0,none⟩) m.cs:=b.i9 (off:=0) (U:=m.cs) (λR v c=>by rw [fe];exact rt c)
theorem wa{o:World}{g:al}{bh:Nat}{b:cR}{G:List Chunk}{m:b7}{B:Option Addr}{l:List aN}{d:Nat}(N:jA g bh b G)(X:b.log.ch.length<=1000000)(aw:b.acc.length<=1000000)(W:g.at o)(ad:g.ok)(Q:g.off (au [G]))(ak:Rd o B (l.flatMap aN.cs))(O:cc B (l.flatMap aN.cs) (au [G]))(av:∀x∈l,x.ok)(T:l.length<=d)(Y:l.length<=1000)(a:Own [G] o):Calls prog 103 #[aa bh,.agg (m.cs++[Value.slice B l.length d]).toArray] o λr w=>r=ab (b.accept g m l).2/\∃af,jA g bh (b.accept g m l).1 af/\C o (au [G]) [af] w:=by
 have F:=N;obtain⟨c,L,M,V,s,rfl⟩:=N;obtain⟨e,I⟩:∃e,e=au [ck g bh c++(L++(M++V))]:=⟨_,j⟩;rw [<-I] at Q O⊢;have a:C o e [ck g bh c++(L++(M++V))] o:=I▸a;have a:=a.u7;refine a6 func103 (bJ 2 a j j (λf w a=>?_));have a:C o e [J f (m.cs++[Value.slice B l.length d]).toArray 121,ck g bh c,L,M,V] w:=a;refine aq 8 j (bY 9 (.bool false) j (aK Value.bool (j)) ?_);refine bP 1 (U:=m.cs) j j j ((a.bc f)|>py) (br 0 (xQ (m:=m)) j (λw i=>?_));have a:=a.aO i;refine bo 3 j j (λeZ=>?_) (λeZ=>?_)
 .refine an 3 j j ?_
  have p:b.accept g m l=(b,1):=by
   unfold cR.accept;exact aR (by simpa using eZ)
  rw [p];have a:C o e [ck g bh c,L,M,V] w:=a.as;exact⟨j,_,F,a.kV⟩
 have a:C o e ([J f (m.cs++[Value.slice B l.length d]).toArray 121,ck g bh c]++_) _:=a.front;have a:=a.drew;refine bx 1 j (λw=>∃ae,C o e ([J f (m.cs++[Value.slice B l.length d]).toArray 121,ck g bh c]++ae) w) ⟨_,a⟩ (ag 0 3 j (a8 3 j a2 j (bl 4 j (λw⟨_,a⟩=>dd (U:=(m.cs++[Value.slice B l.length d])) j j j (bq (C.aj (b:=f) a))) (aX 5 j ?_))));have q:=tx (m:=m) (d:=d) ad av T Y (⟨W.st a Q,a.rd ak O,al.off.nil g,cc.of_nil _ _⟩:Ext g B (l.flatMap aN.cs) [] _);refine bK j j j q (λw i=>?_);have a:=a.aO i;have a:C o e ([J f (m.cs++[Value.slice B l.length d]).toArray 121,ck g bh c]++_) w:=a.front;refine ao ⟨⟨_,a⟩,?_⟩;refine ag 6 2 j (bL (bo 0 j j (λv=>?_) (λv=>?_)))
 .refine an 3 j j ?_
  have p:b.accept g m l=(b,9):=by
   unfold cR.accept;exact(az (by simpa using eZ)).trans (if_pos (by simpa using v))
  rw [p];have a:C o e [ck g bh c,L,M,V] w:=a.as;exact⟨j,_,F,a.kV⟩
 have a:C o e ([J f (m.cs++[Value.slice B l.length d]).toArray 121,ck g bh c]++_) _:=a.front;have a:=a.drew;refine bx 1 j (λw=>∃ae,C o e ([J f (m.cs++[Value.slice B l.length d]).toArray 121,ck g bh c]++ae) w) ⟨_,a⟩ (ag 0 3 j (a8 3 j a2 j (ag 4 1 j (bl 5 j (λw⟨_,a⟩=>dd (U:=m.cs) j j j ((a.bc f)|>py)) (aX 6 j ?_)))));have q:=wV (m:=m) s.acc (a.holds (G:=M) (by simp));refine bK j j j q (λw i=>?_);have a:=a.aO i;have a:C o e ([J f (m.cs++[Value.slice B l.length d]).toArray 121,ck g bh c]++_) w:=a.front;refine ao ⟨⟨_,a⟩,?_⟩;refine ag 7 1 j (bL (cy 0 j j (λz=>?_) (λz=>?_)))
 .refine an 3 j j ?_
  have p:b.accept g m l=(b,0):=by
   unfold cR.accept;exact(az (by simpa using eZ)).trans ((if_neg (by simpa using v)).trans (if_pos z))
  rw [p];have a:C o e [ck g bh c,L,M,V] w:=a.as;exact⟨j,_,F,a.kV⟩
 refine bP 6 (U:=m.cs) j j j ((a.bc f)|>py) ?_;have q:=CN (g:=g) (bh:=bh) (m:=m) s.log X a.ours;refine br 0 q j (λw⟨h,K,i⟩=>?_);have a:=a.b1 i;have a:C o e [J f (m.cs++[Value.slice B l.length d]).toArray 121,ck g bh c,h,M,V] w:=a.as;refine bo 5 j j (λE=>?_) (λE=>?_)
 .refine an 4 j j ?_
  have p:b.accept g m l=b.bF m:=by
   unfold cR.accept;exact(az (by simpa using eZ)).trans ((if_neg (by simpa using v)).trans ((if_neg z).trans (if_pos (by simpa using E))))
  rw [p];have a:C o e [ck g bh c,h,M,V] w:=a.as;exact⟨j,_,⟨c,h,M,V,⟨K,by rw [(b.w9 m).1];exact s.acc,by rw [(b.w9 m).2];exact s.aI⟩,j⟩,a.kV⟩
 have a:C o e ([J f (m.cs++[Value.slice B l.length d]).toArray 121,ck g bh c]++_) _:=a.front;have a:=a.drew;refine bx 2 j (λw=>∃ae,C o e ([J f (m.cs++[Value.slice B l.length d]).toArray 121,ck g bh c]++ae) w) ⟨_,a⟩ (ag 0 4 j (a8 4 j a2 j (ag 5 1 j (bl 6 j (λw⟨_,a⟩=>dd (U:=m.cs) j j j ((a.bc f)|>py)) (aX 7 j (gj (U:=m.cs) a j j j j bO bO (λS w a=>?_)))))));have aT:=bq (C.aj (b:=S) a);have a:C o e ([J f (m.cs++[Value.slice B l.length d]).toArray 121,ck g bh c]++_) w:=a.front;refine ao ⟨⟨_,a⟩,?_⟩;refine aX 8 j (e6 (a.to M) s.acc j j (by decide) j j j (m:=1) (news:=m.cs) j aT (by intro u hu;exact ol [m] u (by simpa using hu)) (by omega) (by unfold maxLen;omega) (λv1 n w D a=>?_))
 have D:eG v1 (b.acc++[m]) n:=by
  unfold eG;rw [cj,List.flatMap_append];simpa using D
 have a:C o e ([J f (m.cs++[Value.slice B l.length d]).toArray 121,ck g bh c]++_) w:=a.front;refine ao ⟨⟨_,a⟩,?_⟩;refine ag 9 2 j (dK 11 j (cO (a.bc bh) j j j D.one bO (λw a=>?_)));have a:C o e (ck g bh ({c with acc:=v1})::_) w:=a;have a:C o e [J f (m.cs++[Value.slice B l.length d]).toArray 121,ck g bh ({c with acc:=v1}),h,n,V] w:=a.as;refine ao (c5 ?_);obtain⟨am,ah,b2,ax,H,P,ac,ar,rfl⟩:=s.aI;have a:C o e [J f (m.cs++[Value.slice B l.length d]).toArray 121,ck g bh ({c with acc:=v1}),h,n,ay 228 am ah b2,H] _:=C.perm (A:=[J f (m.cs++[Value.slice B l.length d]).toArray 121,ck g bh ({c with acc:=v1}),h,n,ay 228 am ah b2++H]) a.as (by simp);have a:=a.drew;refine bx 1 j (λw=>∃ae,C o e ([J f (m.cs++[Value.slice B l.length d]).toArray 121,ck g bh ({c with acc:=v1})]++ae) w) ⟨_,a⟩ (ag 0 3 j (a8 3 j a2 (aK some P) (ag 4 1 j (bl 5 j (λw⟨_,a⟩=>dd (U:=m.cs) j j j ((a.bc f)|>py)) (aX 6 j (bK j j j (pS (m:=m)) (λw i=>?_)))))));have a:=a.aO i;have a:C o e ([J f (m.cs++[Value.slice B l.length d]).toArray 121,ck g bh ({c with acc:=v1})]++_) w:=a.front;refine ao ⟨⟨_,a⟩,?_⟩;refine aX 7 j ?_;have q:=tZ (k:=ey m) (a.ours (cM:=[ay 228 am ah b2])) ac;refine bK j j j q (λw⟨t,Z,i⟩=>?_);have a:=a.b1 i;have a:C o e [J f (m.cs++[Value.slice B l.length d]).toArray 121,ck g bh ({c with acc:=v1}),h,n,ay 228 am ah t,H] w:=a.as;refine ao ⟨⟨_,a⟩,?_⟩;refine bL (an 3 j j ?_)
 have p:b.accept g m l=({(b.bF m).1 with acc:=b.acc++[m],aI:=fU b.aI (ey m)},0):=by
  unfold cR.accept;exact(az (by simpa using eZ)).trans ((if_neg (by simpa using v)).trans ((if_neg z).trans (if_neg (by simpa using E))))
 rw [p];obtain⟨y,R,ap,ai⟩:=ar.del (k:=ey m);have a:C o e [ck g bh ({c with acc:=v1}),h,n,ay 228 am ah t,H] w:=a.as
 have a:C o e [ck g bh ({c with acc:=v1}),h,n,ay 228 am ah t,R,y] w:=a.perm (by
  simp only [jZ,mF,gA];exact .append_left _ (.append_left _ (.append_left _ (.append_left _ ai))))
 exact⟨j,_,⟨{c with acc:=v1},h,n,ay 228 am ah t++y,⟨K,D,⟨am,ah,t,_,y,P,Z,ap,j⟩⟩,j⟩,C.perm (A:=[ck g bh ({c with acc:=v1}),h,n,ay 228 am ah t,y]) a.as (by simp)⟩
theorem iW.all{m:List (Int×Value)}:∀{t:List (Int×aN)}{H:List Chunk},c4 iW m t H->∀q∈t,q.2.ok:=by
 induction m with
 |nil=>intro t H h;cases t with|nil=>intro q d;cases d|cons _ _=>exact h.elim
 |cons p m e=>
  intro t H h;cases t with
  |nil=>exact h.elim
  |cons q t=>
   obtain⟨_,_,_,_,b,c⟩:=h;intro x a;rcases hD.1 a with rfl|a
   .exact b.2.2
   .exact e c x a
theorem rT{t:List (Int×aN)}(h:∀q∈t,q.2.ok):∀x∈fF t,x.ok:=λx b=>by
 obtain⟨q,a,rfl⟩:=ee.1 b;exact h q (g7.1 a)
theorem rS(t:List (Int×aN)):(fF t).length=t.length:=by unfold fF;rw [List.length_map,List.length_mergeSort]
theorem rc(l:List (Int×aN))(v:aN):(iD l v).length<=l.length+1:=by
 unfold iD;split
 .omega
 .exact l8 _ _ _
theorem z0{o:World}{g:al}{bh:Nat}{b:cR}{G:List Chunk}{m:b7}{v:aN}(bN:jA g bh b G)(bS:b.log.ch.length<=1000000)(bQ:b.acc.length<=1000000)(bU:∀p∈b.aI,p.2.length<=100)(aW:g.at o)(a4:g.ok)(aL:g.off (au [G]))(Y:v.ok)(e:Own [G] o):Calls prog 46 #[aa bh,hh m,.agg v.cs.toArray] o λr w=>r=ab (b.dv g m v).2/\∃af,jA g bh (b.dv g m v).1 af/\C o (au [G]) [af] w:=by
 have ba:=bN;obtain⟨c,L,M,V,ak,rfl⟩:=bN;obtain⟨i,bM⟩:∃i,i=au [ck g bh c++(L++(M++V))]:=⟨_,j⟩;rw [<-bM] at aL⊢;have e:C o i [ck g bh c++(L++(M++V))] o:=bM▸e;have e:=e.u7;refine a6 func46 (bJ 2 e j j (λn w e=>?_));have e:C o i (J n m.cs.toArray 110::_) w:=e;refine bJ 0 e j j (λN w e=>?_);have e:C o i [J N v.cs.toArray 115,J n m.cs.toArray 110,ck g bh c,L,M,V] w:=e;refine aq 8 j (bY 15 (.bool false) j (aK Value.bool (j)) ?_);refine bP 0 (U:=m.cs) j j j (bq (C.aj (b:=n) e)) (br 0 (xQ (m:=m)) j (λw t=>?_));have e:=e.aO t;refine bo 3 j j (λaw=>?_) (λaw=>?_)
 .refine an 3 j j ?_
  have T:b.dv g m v=(b,1):=by
   unfold cR.dv;exact aR (by simpa using aw)
  rw [T];have e:C o i [ck g bh c,L,M,V] w:=e.as;exact⟨j,_,ba,e.kV⟩
 refine bP 3 (U:=m.cs) j j j (bq (C.aj (b:=n) e)) (bP 0 (U:=v.cs) j j (v.len Y) (bq (C.aj (b:=N) e)) (br 0 (DY (c:=c) (m:=m) (v:=v) (C.aj (b:=bh) e) (aW.st e aL) a4 Y) j (λw t=>?_)));have e:=e.aO t;refine bo 2 j j (λaH=>?_) (λaH=>?_)
 .refine an 3 j j ?_
  have T:b.dv g m v=(b,9):=by
   unfold cR.dv;exact(az (by simpa using aw)).trans (if_pos (by simpa using aH))
  rw [T];have e:C o i [ck g bh c,L,M,V] w:=e.as;exact⟨j,_,ba,e.kV⟩
 have e:C o i ([J n m.cs.toArray 110,ck g bh c]++_) _:=e.front;have e:=e.drew;refine bx 1 j (λw=>∃ae,C o i ([J n m.cs.toArray 110,ck g bh c]++ae) w) ⟨_,e⟩ (ag 0 3 j (a8 3 j a2 j (bl 4 j (λw⟨_,e⟩=>dd (U:=m.cs) j j j (bq (C.aj (b:=n) e))) (aX 5 j ?_))));have y:=wV (m:=m) ak.acc (e.holds (G:=M) (by simp));refine bK j j j y (λw t=>?_);have e:=e.aO t;have e:C o i ([J n m.cs.toArray 110,ck g bh c]++_) w:=e.front;refine ao ⟨⟨_,e⟩,?_⟩;refine ag 6 1 j (bL (cy 0 j j (λaM=>?_) (λaM=>?_)))
 .refine an 3 j j ?_
  have T:b.dv g m v=(b,0):=by
   unfold cR.dv;exact(az (by simpa using aw)).trans ((if_neg (by simpa using aH)).trans (if_pos aM))
  rw [T];have e:C o i [ck g bh c,L,M,V] w:=e.as;exact⟨j,_,ba,e.kV⟩
 obtain⟨am,ah,b2,bI,H,aC,bb,ap,rfl⟩:=ak.aI;have e:C o i [J n m.cs.toArray 110,ck g bh c,J N v.cs.toArray 115,L,M,ay 228 am ah b2,H] _:=C.perm (A:=[J n m.cs.toArray 110,ck g bh c,J N v.cs.toArray 115,L,M,ay 228 am ah b2++H]) e.as (by simp);have e:=e.drew;refine bx 2 j (λw=>∃ae,C o i ([J n m.cs.toArray 110,ck g bh c]++ae) w) ⟨_,e⟩ (ag 0 3 j (a8 3 j a2 (aK some aC) (bl 4 j (λw⟨_,e⟩=>dd (U:=m.cs) j j j (bq (C.aj (b:=n) e))) (aX 5 j (bK j j j (pS (m:=m)) (λw t=>?_))))));have e:=e.aO t;have e:C o i ([J n m.cs.toArray 110,ck g bh c]++_) w:=e.front;refine ao ⟨⟨_,e⟩,?_⟩;refine aX 6 j ?_;have y:=xB (k:=ey m) (dI.own (e.to (ay 228 am ah b2)) bb);refine bK j j j y (λw t=>?_);have e:=e.aO t;have e:C o i ([J n m.cs.toArray 110,ck g bh c]++_) w:=e.front;refine ao ⟨⟨_,e⟩,?_⟩;refine ag 7 5 j (bL (bo 5 j j (λaJ=>?_) (λaJ=>?_)))
 .refine ar 6 j (ax (C.aj (b:=bh) e) (aK some aC)) ?_;have y:=Eu (dI.own (e.to (ay 228 am ah b2)) bb);refine br 0 y j (λw t=>?_);have e:=e.aO t;refine cy 1 j j (λa9=>?_) (λa9=>?_)
  .refine an 3 j j ?_
   have T:b.dv g m v=(b,3):=by
    unfold cR.dv;refine(az (by simpa using aw)).trans ((if_neg (by simpa using aH)).trans ((if_neg aM).trans ?_));exact aR ⟨(ap.isSome (ey m)).symm.trans (by simpa using aJ),by have:=a9;have:=ap.len;omega⟩
   rw [T];exact⟨j,_,ba,C.perm (A:=[ck g bh c,L,M,ay 228 am ah b2,H]) e.as (by simp)⟩
  refine bk 3 Fb j (λr w⟨bd,bW,aE,b6,t⟩=>?_);subst aE;have e:=e.aO t;have e:C o i ([J n m.cs.toArray 110,ck g bh c]++_) _:=e.front;have e:=e.drew;refine bx 1 j (λw=>∃ae,C o i ([J n m.cs.toArray 110,ck g bh c]++ae) w) ⟨_,e⟩ (ag 0 3 j (a8 3 j a2 (aK some aC) (bl 4 j (λw⟨_,e⟩=>dd (U:=m.cs) j j j (bq (C.aj (b:=n) e))) (ag 6 1 j (aX 5 j (bK j j j (pS (m:=m)) (λw t=>?_)))))));have e:=e.aO t;have e:C o i ([J n m.cs.toArray 110,ck g bh c]++_) w:=e.front;refine ao ⟨⟨_,e⟩,?_⟩;refine aX 7 j ?_;have y:=GD (k:=ey m) (v:=aa bd) (e.ours (cM:=[ay 228 am ah b2])) bb;refine bK j j j y (λw⟨bX,b5,t⟩=>?_);have e:=e.b1 t;have e:C o i ([J n m.cs.toArray 110,ck g bh c]++_) w:=e.front;refine ao ⟨⟨_,e⟩,?_⟩;refine bL ?_
  obtain⟨E,aF,H1,u,x,Q,ip,S,D,K,a3,aD,X,aY,a0,e,bC⟩:∃(E:Obj)(aF:List (Int×Value))(H1:List Chunk)(u x:Nat)(Q:Obj)(ip:List (Int×Value))(S D:List Chunk)(K:List (Int×aN)),cf bG E aF/\cf bG Q ip/\c4 iW ip K S/\(aV b.aI (ey m)).getD []=K/\(∀bZ aG,o1 (aa u) bZ aG->c4 o1 aF (bV b.aI (ey m) bZ) (H1++(aG++D)))/\C o i [J n m.cs.toArray 110,J N v.cs.toArray 115,ck g bh c,L,M,ay 228 am ah E,H1,ay 267 u x Q,S,D] w/\Value.pointer (some ⟨bd,0,none⟩)=aa u:=by
   have bT:aV b.aI (ey m)=none:=l7 ((ap.isSome (ey m)).symm.trans (by simpa using aJ));refine⟨bX,_,H,bd,bW,.map #[] 0,[],[],[],[],b5,b6,j,by rw [bT];rfl,λbZ aG bA=>?_,?_,j⟩
   .have:=ap.add bT bA;rw [gA];exact this
   .exact C.perm (A:=[J n m.cs.toArray 110,J N v.cs.toArray 115,ck g bh c,L,M,ay 228 am ah bX,H,ay 267 bd bW (.map #[] 0)]) e.as (by simp)
  refine aq 3 j (bY 7 (aa u) j bC ?_);have a5:∀q∈ip,gl 68 q.2:=X.wide (λv a G h=>by rw [h.1];exact⟨a.cs,j,a.len h.2.2,a.one⟩);obtain⟨b8,bE,bF,bH⟩:=gl.get vD a5 v.f
  have b4:K.length<=100:=by
   rw [<-aY];cases bv:aV b.aI (ey m) with
   |none=>exact cp _
   |some dG=>exact bU _ (io bv)
  refine ar 2 j (ax (C.aj (b:=N) e) (v.eN Y)) ?_;have y:=xC (k:=v.f) a5 (dI.own (e.to (ay 267 u x Q)) aD);refine bk 0 y j (λr w⟨aE,t⟩=>?_);rw [bE] at aE;subst aE;have e:=e.aO t;refine cx 3 e j (λbf w e=>c6 (e.bc bf) j j j bH bF (by decide) (λw e=>?_));have e:C o i [J n m.cs.toArray 110,J N v.cs.toArray 115,ck g bh c,L,M,ay 228 am ah E,H1,ay 267 u x Q,S,D] w:=e.as;refine bo 5 j j (λaP=>?_) (λaP=>?_);refine ar 3 j (ax (C.aj (b:=N) e) (v.eN Y)) (bP 0 (U:=v.cs) j j (v.len Y) (bq (C.aj (b:=N) e)) ?_);have y:=zx (k:=v.f) (v.len Y) v.one (e.ours (cM:=[ay 267 u x Q])) aD;refine br 0 y j (λw⟨a7,bt,t⟩=>?_);have e:=e.b1 t
  obtain⟨z,P,B,s,ad,W,ac,e⟩:∃(z:Obj)(P:List (Int×Value))(B:List Chunk)(s:List (Int×aN)),cf bG z P/\c4 iW P s B/\iD K v=s/\C o i [J n m.cs.toArray 110,J N v.cs.toArray 115,ck g bh c,L,M,ay 228 am ah E,H1,ay 267 u x z,B,D] w:=by
   have aT:aV K v.f=none:=l7 ((X.isSome v.f).symm.trans (by simpa using aP));exact⟨a7,_,_,_,bt,X.add aT (show iW (.agg v.cs.toArray) v [] from⟨j,j,Y⟩),by unfold iD;rw [if_neg (by rw [aT];decide)],C.perm (A:=[J n m.cs.toArray 110,J N v.cs.toArray 115,ck g bh c,L,M,ay 228 am ah E,H1,ay 267 u x a7,S,D]) e.as (by simp)⟩
  have bp:s.length<=101:=by rw [<-ac];have:=rc K v;omega
  have aZ:=iW.all W;have e:C o i ([J n m.cs.toArray 110]++_) _:=e.front;have e:=e.drew;refine bx 2 j (λw=>∃ae,C o i ([J n m.cs.toArray 110]++ae) w) ⟨_,e⟩ ?_;rotate_left
  obtain⟨z,P,B,s,ad,W,ac,e⟩:∃(z:Obj)(P:List (Int×Value))(B:List Chunk)(s:List (Int×aN)),cf bG z P/\c4 iW P s B/\iD K v=s/\C o i [J n m.cs.toArray 110,J N v.cs.toArray 115,ck g bh c,L,M,ay 228 am ah E,H1,ay 267 u x z,B,D] w:=by
   have bD:(aV K v.f).isSome=true:=(X.isSome v.f).symm.trans (by simpa using aP);exact⟨Q,ip,S,K,aD,X,by unfold iD;rw [if_pos bD],e.as⟩
  have bp:s.length<=101:=by rw [<-ac];have:=rc K v;omega
  have aZ:=iW.all W;have e:C o i ([J n m.cs.toArray 110]++_) _:=e.front;have e:=e.drew;refine bx 3 j (λw=>∃ae,C o i ([J n m.cs.toArray 110]++ae) w) ⟨_,e⟩ ?_;rotate_left
  all_goals
   refine bl 0 j (λw⟨_,e⟩=>dd (U:=m.cs) j j j (bq (C.aj (b:=n) e))) (ag 1 1 j (aS 2 4 j j ?_ ?_));have y:=rU (dI.own (e.to (ay 267 u x z)) ad) W (by omega);refine cS j j j y (λr w⟨O,Z,t⟩=>?_);obtain⟨I,F,rfl,aU,_⟩:=Row.form Z;have e:=e.aO t;have e:C o i ([J n m.cs.toArray 110]++_) w:=e.front;refine ao ⟨⟨_,e⟩,?_⟩;refine bl 3 j (λw _=>eX (c:=(m.cs++[Value.slice I (fF s).length F]).toArray) j (λ_=>by kernel_rfl)) (aX 4 j (eu e j j (λR w e=>?_)));have e:C o i ([J n m.cs.toArray 110]++_) w:=e.front;refine ao ⟨⟨_,e⟩,?_⟩;rotate_left
   refine eu e j j (λR w e=>?_);have e:C o i ([J n m.cs.toArray 110]++_) w:=e.front;refine ao ⟨⟨_,e⟩,?_⟩;refine aX 2 j ?_;have y:=rU (dI.own (e.to (ay 267 u x z)) ad) W (by omega);refine cS j j j y (λr w⟨O,Z,t⟩=>?_);obtain⟨I,F,rfl,aU,_⟩:=Row.form Z;have e:=e.aO t;have e:C o i ([J n m.cs.toArray 110]++_) w:=e.front;refine ao ⟨⟨_,e⟩,?_⟩;refine bl 3 j (λw _=>eX (c:=(m.cs++[Value.slice I (fF s).length F]).toArray) j (λ_=>by kernel_rfl)) ?_;rotate_left
   all_goals
    refine dK 5 j (c6 (e.bc R) j j j j j bO (λw e=>?_));have e:=C.whole (U:=(m.cs++[Value.slice I (fF s).length F])) e j;have e:C o i [J R (m.cs++[Value.slice I (fF s).length F]).toArray 121,J n m.cs.toArray 110,ck g bh c,L,M,ay 228 am ah E,H1,ay 267 u x z,B,D,O] w:=e.as;refine ao (c5 ?_);have e:C o i ([J R (m.cs++[Value.slice I (fF s).length F]).toArray 121,ck g bh c]++_) _:=e.front;have e:=e.drew;refine bx 1 j (λw=>∃ae,C o i ([J R (m.cs++[Value.slice I (fF s).length F]).toArray 121,ck g bh c]++ae) w) ⟨_,e⟩ (ag 0 3 j (a8 3 j a2 j (bl 4 j (λw⟨_,e⟩=>dd (U:=(m.cs++[Value.slice I (fF s).length F])) j j j (bq (C.aj (b:=R) e))) (aX 5 j ?_))));obtain⟨_,_,bg,_,_,bw,_⟩:=Row.read Z (e.holds (G:=O) (by simp));cases bg;have y:=tx (m:=m) (l:=fF s) (d:=F) a4 (rT aZ) aU (by rw [rS];omega) (⟨aW.st e aL,bw,al.off.nil g,cc.of_nil _ _⟩:Ext g I ((fF s).flatMap aN.cs) [] _);refine bK j j j y (λw t=>?_);have e:=e.aO t;have e:C o i ([J R (m.cs++[Value.slice I (fF s).length F]).toArray 121,ck g bh c]++_) w:=e.front;refine ao ⟨⟨_,e⟩,?_⟩;refine bL (bo 0 j j (λaQ=>?_) (λaQ=>?_))
    .have e:C o i ([J n m.cs.toArray 110,ck g bh c]++_) _:=e.front;have e:=e.drew;refine bx 1 j (λw=>∃ae,C o i ([J n m.cs.toArray 110,ck g bh c]++ae) w) ⟨_,e⟩ (ag 0 3 j (a8 3 j a2 (aK some aC) (bl 4 j (λw⟨_,e⟩=>dd (U:=m.cs) j j j (bq (C.aj (b:=n) e))) (aX 5 j (bK j j j (pS (m:=m)) (λw t=>?_))))));have e:=e.aO t;have e:C o i ([J n m.cs.toArray 110,ck g bh c]++_) w:=e.front;refine ao ⟨⟨_,e⟩,?_⟩;refine aX 6 j ?_;have y:=tZ (k:=ey m) (e.ours (cM:=[ay 228 am ah E])) a3;refine bK j j j y (λw⟨ai,bs,t⟩=>?_);have e:=e.b1 t;have e:C o i ([J n m.cs.toArray 110,ck g bh c]++_) w:=e.front;refine ao ⟨⟨_,e⟩,?_⟩;refine bL (bP 2 (U:=(m.cs++[Value.slice I (fF s).length F])) j j j (bq (C.aj (b:=R) e)) ?_);obtain⟨av,be,bB,bu⟩:=c4.del (k:=ey m) (a0 s (ay 267 u x z++B) ⟨u,x,z,P,B,j,ad,W,j⟩);obtain⟨aS,aA⟩:∃aS,aS=({b with aI:=fU (bV b.aI (ey m) s) (ey m)}:cR):=⟨_,j⟩
     obtain⟨aB,bm,e⟩:∃aB,jA g bh aS aB/\C o i [aB,O] w:=by
      have e:C o i [ck g bh c,L,M,ay 228 am ah ai,O,H1,ay 267 u x z,B,D] w:=e.as
      have e:C o i [ck g bh c,L,M,ay 228 am ah ai,O,be,av] w:=e.perm (by
       simp only [jZ,mF,gA];refine .append_left _ (.append_left _ (.append_left _ (.append_left _ (.append_left _ ?_))));simpa using bu)
      have e:C o i [ck g bh c,L,M,ay 228 am ah ai++av,O] w:=C.perm (A:=[ck g bh c,L,M,ay 228 am ah ai,av,O]) e.as (by simp);rw [aA];exact⟨_,⟨c,L,M,_,⟨ak.log,ak.acc,⟨am,ah,ai,_,av,aC,bs,bB,j⟩⟩,j⟩,e.kV⟩
     obtain⟨_,_,bi,_,_,bz,bn⟩:=Row.rd Z (e.to O);cases bi;have y:=wa (m:=m) (l:=fF s) (d:=F) bm (by rw [aA];exact bS) (by rw [aA];exact bQ) (aW.st e aL) a4 (e.eE aW aL) bz (C.pv bn) (rT aZ) aU (by rw [rS];omega) e.ours;refine bk 0 y j (λr w⟨aE,af,bj,t⟩=>?_);have e:=e.b1 t;refine an 3 j j ?_
     have T:b.dv g m v=((cR.accept g aS m (fF s)).1,0):=by
      unfold cR.dv;refine(az (by simpa using aw)).trans ((if_neg (by simpa using aH)).trans ((if_neg aM).trans ?_));refine(az (λh=>absurd h.2 (by have:=a9;have:=ap.len;omega))).trans ?_;rw [aY,ac,aA];exact aR aQ
     rw [T];exact⟨j,af,bj,e.as⟩
    refine an 4 j j ?_
    have T:b.dv g m v=({b with aI:=bV b.aI (ey m) s},0):=by
     unfold cR.dv;refine(az (by simpa using aw)).trans ((if_neg (by simpa using aH)).trans ((if_neg aM).trans ?_));refine(az (λh=>absurd h.2 (by have:=a9;have:=ap.len;omega))).trans ?_;rw [aY,ac];exact az (by rw [aQ];decide)
    rw [T];have e:C o i [ck g bh c,L,M,ay 228 am ah E,H1,ay 267 u x z,B,D] w:=e.as;exact⟨j,_,⟨c,L,M,ay 228 am ah E++(H1++((ay 267 u x z++B)++D)),⟨ak.log,ak.acc,⟨am,ah,E,aF,_,aC,a3,a0 s _ ⟨u,x,z,P,B,j,ad,W,j⟩,j⟩⟩,j⟩,C.perm (A:=[ck g bh c,L,M,ay 228 am ah E,H1,ay 267 u x z,B,D]) e (by simp)⟩
 obtain⟨E,aF,H1,u,x,Q,ip,S,D,K,a3,aD,X,aY,a0,e,bC⟩:∃(E:Obj)(aF:List (Int×Value))(H1:List Chunk)(u x:Nat)(Q:Obj)(ip:List (Int×Value))(S D:List Chunk)(K:List (Int×aN)),cf bG E aF/\cf bG Q ip/\c4 iW ip K S/\(aV b.aI (ey m)).getD []=K/\(∀bZ aG,o1 (aa u) bZ aG->c4 o1 aF (bV b.aI (ey m) bZ) (H1++(aG++D)))/\C o i [J n m.cs.toArray 110,J N v.cs.toArray 115,ck g bh c,L,M,ay 228 am ah E,H1,ay 267 u x Q,S,D] w/\(aV bI (ey m)).getD Ah=aa u:=by
  obtain⟨dG,bR⟩:∃dG,aV b.aI (ey m)=some dG:=by
   have a1:(aV bI (ey m)).isSome=true:=by simpa using aJ
   rw [ap.isSome] at a1;exact g8.1 a1
  obtain⟨v0,H1,b9,D,b3,rfl,b0,a0⟩:=ap.find bR;obtain⟨u,x,Q,ip,S,rfl,aD,X,rfl⟩:=b0;refine⟨b2,bI,H1,u,x,Q,ip,S,D,dG,bb,aD,X,by rw [bR];rfl,λbZ aG bA=>a0 bZ aG bA,?_,by rw [b3];rfl⟩;exact C.perm (A:=[J n m.cs.toArray 110,J N v.cs.toArray 115,ck g bh c,L,M,ay 228 am ah b2,H1++((ay 267 u x Q++S)++D)]) e.as (by simp)
 refine aq 4 j (bY 7 (aa u) j bC ?_);have a5:∀q∈ip,gl 68 q.2:=X.wide (λv a G h=>by rw [h.1];exact⟨a.cs,j,a.len h.2.2,a.one⟩);obtain⟨b8,bE,bF,bH⟩:=gl.get vD a5 v.f
 have b4:K.length<=100:=by
  rw [<-aY];cases bv:aV b.aI (ey m) with
  |none=>exact cp _
  |some dG=>exact bU _ (io bv)
 refine ar 2 j (ax (C.aj (b:=N) e) (v.eN Y)) ?_;have y:=xC (k:=v.f) a5 (dI.own (e.to (ay 267 u x Q)) aD);refine bk 0 y j (λr w⟨aE,t⟩=>?_);rw [bE] at aE;subst aE;have e:=e.aO t;refine cx 3 e j (λbf w e=>c6 (e.bc bf) j j j bH bF (by decide) (λw e=>?_));have e:C o i [J n m.cs.toArray 110,J N v.cs.toArray 115,ck g bh c,L,M,ay 228 am ah E,H1,ay 267 u x Q,S,D] w:=e.as;refine bo 5 j j (λaP=>?_) (λaP=>?_);refine ar 3 j (ax (C.aj (b:=N) e) (v.eN Y)) (bP 0 (U:=v.cs) j j (v.len Y) (bq (C.aj (b:=N) e)) ?_);have y:=zx (k:=v.f) (v.len Y) v.one (e.ours (cM:=[ay 267 u x Q])) aD;refine br 0 y j (λw⟨a7,bt,t⟩=>?_);have e:=e.b1 t
 obtain⟨z,P,B,s,ad,W,ac,e⟩:∃(z:Obj)(P:List (Int×Value))(B:List Chunk)(s:List (Int×aN)),cf bG z P/\c4 iW P s B/\iD K v=s/\C o i [J n m.cs.toArray 110,J N v.cs.toArray 115,ck g bh c,L,M,ay 228 am ah E,H1,ay 267 u x z,B,D] w:=by
  have aT:aV K v.f=none:=l7 ((X.isSome v.f).symm.trans (by simpa using aP));exact⟨a7,_,_,_,bt,X.add aT (show iW (.agg v.cs.toArray) v [] from⟨j,j,Y⟩),by unfold iD;rw [if_neg (by rw [aT];decide)],C.perm (A:=[J n m.cs.toArray 110,J N v.cs.toArray 115,ck g bh c,L,M,ay 228 am ah E,H1,ay 267 u x a7,S,D]) e.as (by simp)⟩
 have bp:s.length<=101:=by rw [<-ac];have:=rc K v;omega
 have aZ:=iW.all W;have e:C o i ([J n m.cs.toArray 110]++_) _:=e.front;have e:=e.drew;refine bx 2 j (λw=>∃ae,C o i ([J n m.cs.toArray 110]++ae) w) ⟨_,e⟩ ?_;rotate_left
 obtain⟨z,P,B,s,ad,W,ac,e⟩:∃(z:Obj)(P:List (Int×Value))(B:List Chunk)(s:List (Int×aN)),cf bG z P/\c4 iW P s B/\iD K v=s/\C o i [J n m.cs.toArray 110,J N v.cs.toArray 115,ck g bh c,L,M,ay 228 am ah E,H1,ay 267 u x z,B,D] w:=by
  have bD:(aV K v.f).isSome=true:=(X.isSome v.f).symm.trans (by simpa using aP);exact⟨Q,ip,S,K,aD,X,by unfold iD;rw [if_pos bD],e.as⟩
 have bp:s.length<=101:=by rw [<-ac];have:=rc K v;omega
 have aZ:=iW.all W;have e:C o i ([J n m.cs.toArray 110]++_) _:=e.front;have e:=e.drew;refine bx 3 j (λw=>∃ae,C o i ([J n m.cs.toArray 110]++ae) w) ⟨_,e⟩ ?_;rotate_left
 all_goals
  refine bl 0 j (λw⟨_,e⟩=>dd (U:=m.cs) j j j (bq (C.aj (b:=n) e))) (ag 1 1 j (aS 2 4 j j ?_ ?_));have y:=rU (dI.own (e.to (ay 267 u x z)) ad) W (by omega);refine cS j j j y (λr w⟨O,Z,t⟩=>?_);obtain⟨I,F,rfl,aU,_⟩:=Row.form Z;have e:=e.aO t;have e:C o i ([J n m.cs.toArray 110]++_) w:=e.front;refine ao ⟨⟨_,e⟩,?_⟩;refine bl 3 j (λw _=>eX (c:=(m.cs++[Value.slice I (fF s).length F]).toArray) j (λ_=>by kernel_rfl)) (aX 4 j (eu e j j (λR w e=>?_)));have e:C o i ([J n m.cs.toArray 110]++_) w:=e.front;refine ao ⟨⟨_,e⟩,?_⟩;rotate_left
  refine eu e j j (λR w e=>?_);have e:C o i ([J n m.cs.toArray 110]++_) w:=e.front;refine ao ⟨⟨_,e⟩,?_⟩;refine aX 2 j ?_;have y:=rU (dI.own (e.to (ay 267 u x z)) ad) W (by omega);refine cS j j j y (λr w⟨O,Z,t⟩=>?_);obtain⟨I,F,rfl,aU,_⟩:=Row.form Z;have e:=e.aO t;have e:C o i ([J n m.cs.toArray 110]++_) w:=e.front;refine ao ⟨⟨_,e⟩,?_⟩;refine bl 3 j (λw _=>eX (c:=(m.cs++[Value.slice I (fF s).length F]).toArray) j (λ_=>by kernel_rfl)) ?_;rotate_left
  all_goals
   refine dK 5 j (c6 (e.bc R) j j j j j bO (λw e=>?_));have e:=C.whole (U:=(m.cs++[Value.slice I (fF s).length F])) e j;have e:C o i [J R (m.cs++[Value.slice I (fF s).length F]).toArray 121,J n m.cs.toArray 110,ck g bh c,L,M,ay 228 am ah E,H1,ay 267 u x z,B,D,O] w:=e.as;refine ao (c5 ?_);have e:C o i ([J R (m.cs++[Value.slice I (fF s).length F]).toArray 121,ck g bh c]++_) _:=e.front;have e:=e.drew;refine bx 1 j (λw=>∃ae,C o i ([J R (m.cs++[Value.slice I (fF s).length F]).toArray 121,ck g bh c]++ae) w) ⟨_,e⟩ (ag 0 3 j (a8 3 j a2 j (bl 4 j (λw⟨_,e⟩=>dd (U:=(m.cs++[Value.slice I (fF s).length F])) j j j (bq (C.aj (b:=R) e))) (aX 5 j ?_))));obtain⟨_,_,bg,_,_,bw,_⟩:=Row.read Z (e.holds (G:=O) (by simp));cases bg;have y:=tx (m:=m) (l:=fF s) (d:=F) a4 (rT aZ) aU (by rw [rS];omega) (⟨aW.st e aL,bw,al.off.nil g,cc.of_nil _ _⟩:Ext g I ((fF s).flatMap aN.cs) [] _);refine bK j j j y (λw t=>?_);have e:=e.aO t;have e:C o i ([J R (m.cs++[Value.slice I (fF s).length F]).toArray 121,ck g bh c]++_) w:=e.front;refine ao ⟨⟨_,e⟩,?_⟩;refine bL (bo 0 j j (λaQ=>?_) (λaQ=>?_))
   .have e:C o i ([J n m.cs.toArray 110,ck g bh c]++_) _:=e.front;have e:=e.drew;refine bx 1 j (λw=>∃ae,C o i ([J n m.cs.toArray 110,ck g bh c]++ae) w) ⟨_,e⟩ (ag 0 3 j (a8 3 j a2 (aK some aC) (bl 4 j (λw⟨_,e⟩=>dd (U:=m.cs) j j j (bq (C.aj (b:=n) e))) (aX 5 j (bK j j j (pS (m:=m)) (λw t=>?_))))));have e:=e.aO t;have e:C o i ([J n m.cs.toArray 110,ck g bh c]++_) w:=e.front;refine ao ⟨⟨_,e⟩,?_⟩;refine aX 6 j ?_;have y:=tZ (k:=ey m) (e.ours (cM:=[ay 228 am ah E])) a3;refine bK j j j y (λw⟨ai,bs,t⟩=>?_);have e:=e.b1 t;have e:C o i ([J n m.cs.toArray 110,ck g bh c]++_) w:=e.front;refine ao ⟨⟨_,e⟩,?_⟩;refine bL (bP 2 (U:=(m.cs++[Value.slice I (fF s).length F])) j j j (bq (C.aj (b:=R) e)) ?_);obtain⟨av,be,bB,bu⟩:=c4.del (k:=ey m) (a0 s (ay 267 u x z++B) ⟨u,x,z,P,B,j,ad,W,j⟩);obtain⟨aS,aA⟩:∃aS,aS=({b with aI:=fU (bV b.aI (ey m) s) (ey m)}:cR):=⟨_,j⟩
    obtain⟨aB,bm,e⟩:∃aB,jA g bh aS aB/\C o i [aB,O] w:=by
     have e:C o i [ck g bh c,L,M,ay 228 am ah ai,O,H1,ay 267 u x z,B,D] w:=e.as
     have e:C o i [ck g bh c,L,M,ay 228 am ah ai,O,be,av] w:=e.perm (by
      simp only [jZ,mF,gA];refine .append_left _ (.append_left _ (.append_left _ (.append_left _ (.append_left _ ?_))));simpa using bu)
     have e:C o i [ck g bh c,L,M,ay 228 am ah ai++av,O] w:=C.perm (A:=[ck g bh c,L,M,ay 228 am ah ai,av,O]) e.as (by simp);rw [aA];exact⟨_,⟨c,L,M,_,⟨ak.log,ak.acc,⟨am,ah,ai,_,av,aC,bs,bB,j⟩⟩,j⟩,e.kV⟩
    obtain⟨_,_,bi,_,_,bz,bn⟩:=Row.rd Z (e.to O);cases bi;have y:=wa (m:=m) (l:=fF s) (d:=F) bm (by rw [aA];exact bS) (by rw [aA];exact bQ) (aW.st e aL) a4 (e.eE aW aL) bz (C.pv bn) (rT aZ) aU (by rw [rS];omega) e.ours;refine bk 0 y j (λr w⟨aE,af,bj,t⟩=>?_);have e:=e.b1 t;refine an 3 j j ?_
    have T:b.dv g m v=((cR.accept g aS m (fF s)).1,0):=by
     unfold cR.dv;refine(az (by simpa using aw)).trans ((if_neg (by simpa using aH)).trans ((if_neg aM).trans ?_));refine(az (λh=>by have a1:=(ap.isSome (ey m)).trans h.1;rw [a1] at aJ;cases aJ)).trans ?_;rw [aY,ac,aA];exact aR aQ
    rw [T];exact⟨j,af,bj,e.as⟩
   refine an 4 j j ?_
   have T:b.dv g m v=({b with aI:=bV b.aI (ey m) s},0):=by
    unfold cR.dv;refine(az (by simpa using aw)).trans ((if_neg (by simpa using aH)).trans ((if_neg aM).trans ?_));refine(az (λh=>by have a1:=(ap.isSome (ey m)).trans h.1;rw [a1] at aJ;cases aJ)).trans ?_;rw [aY,ac];exact az (by rw [aQ];decide)
   rw [T];have e:C o i [ck g bh c,L,M,ay 228 am ah E,H1,ay 267 u x z,B,D] w:=e.as;exact⟨j,_,⟨c,L,M,ay 228 am ah E++(H1++((ay 267 u x z++B)++D)),⟨ak.log,ak.acc,⟨am,ah,E,aF,_,aC,a3,a0 s _ ⟨u,x,z,P,B,j,ad,W,j⟩,j⟩⟩,j⟩,C.perm (A:=[ck g bh c,L,M,ay 228 am ah E,H1,ay 267 u x z,B,D]) e (by simp)⟩
structure g6 where
 begun:Int
 next:Int
 out:Option eg
def g6.new:g6:=⟨0,0,none⟩
structure bw where
 number:Int
 name:List UInt8
 next:Int
 asked:Int
 known:Bool
 prod:Int
 b3:Int
 last:Int
 df:Bool
 parts:List (Int×g6)
def mg:List (Int×g6):=[(0,g6.new),(1,g6.new),(2,g6.new),(3,g6.new)]
def bw.new(n:Int)(x:List UInt8):bw:=⟨n,x,0,-1,false,0,0,0,false,mg⟩
def bw.zero(n:Int)(x:List UInt8):bw:=⟨n,x,0,-1,false,0,0,0,false,[]⟩
def bw.dc(e:bw):bw:={e with last:=0,df:=false,parts:=mg}
def bw.op(e:bw)(I:bD):bw×bD×Int:=
 if 1048576<e.next then(e,c7,7) else({e with next:=e.next+1},{I with c:=e.number,s:=e.next},0)
def bw.init(e:bw):bw×bD×Int:=
 if 0<=e.number/\e.number<=15/\kZ e.name=true then
  (if 1048576<e.next then(e,c7,7) else({e with next:=e.next+1,asked:=e.next},⟨1,e.number,e.next,e.name,0,0,0,0,false⟩,0))
 else(e,c7,1)
def bw.told(e:bw)(s:Int)(r:Int×Int×Int):bw×Int:=
 if e.asked<0\/s≠e.asked then(e,6)
 else if r.1=0 then(bw.dc {e with known:=true,prod:=r.2.1,b3:=r.2.2,asked:= -1},0) else(e,0)
def mz(v:Value)(r:Option eg)(G:List Chunk):Prop:=match r with
 |none=>v= .pointer none/\G=[]
 |some r=>∃b u af,v=aa b/\d6 u r.x af/\G=J b #[ab r.p,ab r.e,ab r.t,ab r.s,u] 169++af
abbrev vg(q:g6)(u:Value):List Value:=[ab q.begun,ab q.next,u]
abbrev dX(b:Nat)(q:g6)(u:Value):List Chunk:=J b (vg q u).toArray 167
def m6(v:Value)(q:g6)(G:List Chunk):Prop:=∃b u af,v=aa b/\mz u q.out af/\G=dX b q u++af
abbrev rC(e:bw)(u:Value):List Value:=[ab e.number,.string (cQ e.name),ab e.next,ab e.asked,.bool e.known,ab e.prod,ab e.b3,ab e.last,.bool e.df,u]
abbrev bA(aA:Nat)(e:bw)(u:Value):List Chunk:=J aA (rC e u).toArray 76
def hk(aA:Nat)(e:bw)(G:List Chunk):Prop:=∃u bI,fo 235 m6 u e.parts bI/\G=bA aA e u++bI
theorem yU{i:Nat}(h:i<4):aV (mg.take i) (i:Int)=none/\bV (mg.take i) (i:Int) g6.new=mg.take (i+1):=by
 rcases(show i=0\/i=1\/i=2\/i=3 by omega) with rfl|rfl|rfl|rfl<;>exact⟨j,j⟩
theorem wE{o:World}{aA:Nat}{e:bw}{u:Value}(a:Own [bA aA e u] o):Calls prog 59 #[aa aA] o λr w=>r= .tuple #[]/\∃s bI,fo 235 m6 s mg bI/\C o (au [bA aA e u]) [bA aA e.dc s,bI] w:=by
 obtain⟨d,p⟩:∃d,d=au [bA aA e u]:=⟨_,j⟩;rw [<-p];have a:C o d [bA aA e u] o:=p▸a;refine a6 func59 (bk 5 E5 j (λr w⟨bS,f,E,B,l⟩=>?_));subst E;have a:=a.aO l;refine dE 2 (a.bc aA) j j j j (λw a=>?_);have a:C o d (bA aA {e with last:=0} u::_) w:=a;refine dE 2 (a.bc aA) j j j j (λw a=>?_);have a:C o d (bA aA {e with last:=0,df:=false} u::_) w:=a;refine dE 2 (a.bc aA) j j j j (λw a=>?_);have a:C o d (bA aA e.dc (aa bS)::_) w:=a;have a:C o d [bA aA e.dc (aa bS),ay 235 bS f (.map #[] 0),[]] w:=(C.empty a).as
 refine dj 4 j (cU:=Nat×Obj×List (Int×Value)×List Chunk) (λk=>[(0,aa aA),(13,.int .i64 (k.1:Nat))])
  (λk w=>k.1<=4/\cf bG k.2.1 k.2.2.1/\c4 m6 k.2.2.1 (mg.take k.1) k.2.2.2/\C o d [bA aA e.dc (aa bS),ay 235 bS f k.2.1,k.2.2.2] w) (λk=>4-k.1) (0,.map #[] 0,[],[]) ⟨j,j,bb⟩ ⟨cp _,B,j,a⟩ ?_
 rintro⟨i,I,F,H⟩ w ⟨y,hm,m,a⟩;dsimp only at y hm m a⊢;refine cy 4 j j (λt=>?_) (λt=>?_)
 .refine ar 11 j (ax (C.aj (b:=aA) a) j) (aq 1 j (cP (c:=(vg g6.new (.pointer none)).toArray) j j j (λ_=>by kernel_rfl) ?_));refine bJ 0 a j j (λg w a=>?_);have a:C o d (dX g g6.new (.pointer none)::_) w:=a;have x:=GA (k:=(i:Int)) (v:=aa g) (a.ours (cM:=[ay 235 bS f I])) hm;refine br 0 x j (λw⟨n,D,l⟩=>?_);have a:=a.b1 l;have h:i<4:=by omega
  have q:=m.add (yU h).1 (show m6 (aa g) g6.new (dX g g6.new (.pointer none)) from⟨g,.pointer none,[],j,⟨j,j⟩,j⟩);rw [(yU h).2] at q;have a:C o d [bA aA e.dc (aa bS),ay 235 bS f n,H++dX g g6.new (.pointer none)] w:=C.perm (A:=[bA aA e.dc (aa bS),ay 235 bS f n,H,dX g g6.new (.pointer none)]) a.as (by simp);exact bE 1 j j j (dn i (by omega)) (bW 1 j ⟨(i+1,n,_,_),⟨j,j,bb⟩,⟨h,D,q,a⟩,by dsimp only;omega⟩)
 refine an 1 j j ?_;have z:i=4:=by omega
 subst z;exact⟨j,(aa bS),ay 235 bS f I++H,⟨bS,f,I,F,H,j,hm,m,j⟩,C.perm (A:=[bA aA e.dc (aa bS),ay 235 bS f I,H]) a (by simp)⟩
theorem uU{o:World}{n:Int}{x:List UInt8}:Calls prog 32 #[ab n,.string (cQ x)] o λr w=>∃aA G,r=aa aA/\hk aA (bw.new n x) G/\C o [] [G] w:=by
 have a:Own [] o:=C.start o;refine a6 func32 (aq 7 j (cP (c:=(rC (bw.zero n x) (.pointer none)).toArray) j j j (λ_=>by kernel_rfl) ?_));refine bJ 0 a j j (λb w a=>?_);have a:C o [] (bA b (bw.zero n x) (.pointer none)::_) w:=a;have g:=wE (aA:=b) (u:=.pointer none) (e:=bw.zero n x) a.ours;refine br 4 g j (λw⟨d,bI,f,h⟩=>?_);have a:=a.b1 h;refine an 4 j j ?_;have a:C o [] [bA b (bw.new n x) d,bI] w:=a;exact⟨b,_,j,⟨d,bI,f,j⟩,C.perm (A:=[bA b (bw.new n x) d,bI]) a (by simp)⟩
theorem p0{o:World}{aA:Nat}{e:bw}{u:Value}{I:bD}(aT:0<=e.next)(a:Own [bA aA e u] o):Calls prog 63 #[aa aA,.agg I.cs.toArray] o λr w=>r= .tuple #[.agg (e.op I).2.1.cs.toArray,ab (e.op I).2.2]/\C o (au [bA aA e u]) [bA aA (e.op I).1 u] w:=by
 obtain⟨d,i⟩:∃d,d=au [bA aA e u]:=⟨_,j⟩;rw [<-i];have a:C o d [bA aA e u] o:=i▸a;refine fj func63 (bJ 2 a j j (λf w a=>?_));have a:C o d (bB f I::_) w:=a;refine cx 0 a j (λg w a=>?_);have a:C o d [bB g c7,bB f I,bA aA e u] w:=a;refine ar 7 j (ax (C.aj (b:=aA) a) j) (cy 1 j j (λk=>?_) (λk=>?_))
 .refine aq 2 j (cP (c:=c7.cs.toArray) j j j (λ_=>by kernel_rfl) ?_);refine cv 0 (a.bc g) j j j j j (λw a=>?_);have a:=C.whole (U:=(c7:bD).cs) a j;have a:C o d (bB g c7::_) w:=a;refine bH 1 j ⟨_,ds results63 j j j j a.bQ,?_⟩;have h:e.op I=(e,c7,7):=aR (by omega);rw [h];exact⟨j,a.as⟩
 have a:C o d ([bA aA e u]++_) _:=a.front;have a:=a.drew;refine bx 2 j (λw=>∃ae,C o d ([bA aA e u]++ae) w) ⟨_,a⟩ (ag 0 3 j (a8 3 j a2 j (ag 4 3 j (a8 7 j a2 j (ag 8 1 j (aX 9 j (cO (a.bc f) j j j j bO (λw a=>?_))))))));have a:C o d (bB f {I with c:=e.number}::_) w:=a;have a:C o d ([bA aA e u]++_) w:=a.front;refine ao ⟨⟨_,a⟩,?_⟩;refine ag 10 1 j (dK 11 j (cO (a.bc f) j j j j bO (λw a=>?_)));have a:C o d (bB f {I with c:=e.number,s:=e.next}::_) w:=a;refine ao (c5 (ar 5 j (ax (C.aj (b:=aA) a) j) (bE 0 j j j (pG (by omega) (by omega)) (dE 2 (a.bc aA) j j j j (λw a=>?_)))));have a:C o d (bA aA {e with next:=e.next+1} u::_) w:=a;refine bP 2 (U:=({I with c:=e.number,s:=e.next}:bD).cs) j j j (bq (C.aj (b:=f) a)) (cv 0 (a.bc g) j j j j j (λw a=>?_));have a:=C.whole (U:=({I with c:=e.number,s:=e.next}:bD).cs) a j;have a:C o d (bB g {I with c:=e.number,s:=e.next}::_) w:=a;refine bH 1 j ⟨_,ds results63 j j j j a.bQ,?_⟩;have h:e.op I=({e with next:=e.next+1},{I with c:=e.number,s:=e.next},0):=az (by omega);rw [h];exact⟨j,a.as⟩
theorem DP{o:World}{aA:Nat}{e:bw}{u:Value}(aT:0<=e.next)(H:e.name.length<=1000)(a:Own [bA aA e u] o):Calls prog 60 #[aa aA] o λr w=>r= .tuple #[.agg e.init.2.1.cs.toArray,ab e.init.2.2]/\C o (au [bA aA e u]) [bA aA e.init.1 u] w:=by
 obtain⟨f,F⟩:∃f,f=au [bA aA e u]:=⟨_,j⟩;rw [<-F];have a:C o f [bA aA e u] o:=F▸a;refine fj func60 (cx 2 a j (λaS w a=>?_));have a:C o f [bB aS c7,bA aA e u] w:=a;refine aq 7 j (bY 8 (.bool false) j (aK Value.bool (j)) ?_);refine ar 3 j (ax (C.aj (b:=aA) a) j) (aq 3 j (c9 15 j (λq=>?_) (λq=>?_)))
 .refine aq 32 j (cP (c:=c7.cs.toArray) j j j (λ_=>by kernel_rfl) ?_);refine cv 0 (a.bc aS) j j j j j (λw a=>?_);have a:=C.whole (U:=(c7:bD).cs) a j;have a:C o f (bB aS c7::_) w:=a;refine bH 1 j ⟨_,ds results60 j j j j a.bQ,?_⟩;have i:e.init=(e,c7,1):=az (λl=>by have:=dV q;omega);rw [i];exact⟨j,a.as⟩
 refine ar 3 j (ax (C.aj (b:=aA) a) j) (aq 3 j (c9 22 j (λt=>?_) (λt=>?_)))
 .refine aq 25 j (cP (c:=c7.cs.toArray) j j j (λ_=>by kernel_rfl) ?_);refine cv 0 (a.bc aS) j j j j j (λw a=>?_);have a:=C.whole (U:=(c7:bD).cs) a j;have a:C o f (bB aS c7::_) w:=a;refine bH 1 j ⟨_,ds results60 j j j j a.bQ,?_⟩;have i:e.init=(e,c7,1):=az (λl=>by have:=dV t;omega);rw [i];exact⟨j,a.as⟩
 refine ar 3 j (ax (C.aj (b:=aA) a) j) (nH j j j j (aq 2 j (c9 29 j (λv=>?_) (λv=>?_))))
 .refine aq 18 j (cP (c:=c7.cs.toArray) j j j (λ_=>by kernel_rfl) ?_);refine cv 0 (a.bc aS) j j j j j (λw a=>?_);have a:=C.whole (U:=(c7:bD).cs) a j;have a:C o f (bB aS c7::_) w:=a;refine bH 1 j ⟨_,ds results60 j j j j a.bQ,?_⟩;have i:e.init=(e,c7,1):=az (λl=>by have g:=v;rw [show(⟨#[]⟩:ByteArray)=cQ [] from j,mY] at g;rw [dV g] at l;exact absurd l.2.2 (by decide));rw [i];exact⟨j,a.as⟩
 refine ar 3 j (ax (C.aj (b:=aA) a) j) (mv j j j j (aq 3 j (c9 37 j (λx=>?_) (λx=>?_))))
 .refine aq 10 j (cP (c:=c7.cs.toArray) j j j (λ_=>by kernel_rfl) ?_);refine cv 0 (a.bc aS) j j j j j (λw a=>?_);have a:=C.whole (U:=(c7:bD).cs) a j;have a:C o f (bB aS c7::_) w:=a;refine bH 1 j ⟨_,ds results60 j j j j a.bQ,?_⟩;have i:e.init=(e,c7,1):=az (λl=>by have g:=dV x;have z:=l.2.2;simp only [kZ,d8,gn] at z;omega);rw [i];exact⟨j,a.as⟩
 refine ar 3 j (ax (C.aj (b:=aA) a) j) ?_;have D:e.name≠[]:=λh=>by rw [h] at v;exact absurd v (by decide)
 refine br 0 (zX D (by omega)) j (λw B=>?_);have a:=a.aO B;refine vX j j j j (mY (sC e.name) []) (bo 1 j j (λy=>?_) (λy=>?_))
 .refine aq 2 j (cP (c:=c7.cs.toArray) j j j (λ_=>by kernel_rfl) ?_);refine cv 0 (a.bc aS) j j j j j (λw a=>?_);have a:=C.whole (U:=(c7:bD).cs) a j;have a:C o f (bB aS c7::_) w:=a;refine bH 1 j ⟨_,ds results60 j j j j a.bQ,?_⟩;have i:e.init=(e,c7,1):=az (λl=>by have g:=y;rw [sD] at g;have z:=l.2.2;simp only [kZ,d8] at z;rw [z.1] at g;cases g);rw [i];exact⟨j,a.as⟩
 refine ar 7 j (ax (C.aj (b:=aA) a) j) (cP (c:=(⟨1,0,0,e.name,0,0,0,0,false⟩:bD).cs.toArray) j j j (λ_=>by kernel_rfl) ?_);have G:=p0 (aA:=aA) (e:=e) (u:=u) (I:=(⟨1,0,0,e.name,0,0,0,0,false⟩:bD)) aT a.ours;obtain⟨p,d,m,k⟩:∃p d m,e.op (⟨1,0,0,e.name,0,0,0,0,false⟩:bD)=(p,d,m):=⟨_,_,_,j⟩;rw [k] at G;refine br 0 G j (λw B=>?_);have a:=a.b1 B;refine cx 3 a j (λn w a=>cv 0 (a.bc n) j j j j j (λw a=>?_));have a:=C.whole (U:=d.cs) a j;have a:C o f (bB n d::_) w:=a;refine bo 6 j j (λA=>?_) (λA=>?_)
 .refine ar 3 j (ax (C.aj (b:=n) a) j) (dE 2 (a.bc aA) j j j j (λw a=>?_));have a:C o f (bA aA {p with asked:=d.s} u::_) w:=a;refine bP 2 (U:=d.cs) j j j (bq (C.aj (b:=n) a)) (cv 1 (a.bc aS) j j j j j (λw a=>?_));have a:=C.whole (U:=d.cs) a j;have a:C o f (bB aS d::_) w:=a;refine bH 1 j ⟨_,ds results60 j j j j a.bQ,?_⟩;have E:m=0:=ea.1 A
  have i:e.init=({p with asked:=d.s},d,m):=by
   unfold bw.init;rw [aR (⟨by have:=dY q;omega,by have:=dY t;omega,by unfold kZ;have g:=y;rw [sD] at g;rw [show e.name.all fZ=true by simpa using g,Bool.true_and];exact decide_eq_true ⟨List.length_pos_iff.2 D,by have:=of_decide_eq_false x;omega⟩⟩:0<=e.number/\e.number<=15/\kZ e.name=true)];unfold bw.op at k;split
   .rename_i h;rw [aR h] at k;cases k;cases E
   .rename_i h;rw [az h] at k;cases k;rfl
  rw [i];exact⟨j,a.as⟩
 refine bP 3 (U:=d.cs) j j j (bq (C.aj (b:=n) a)) (cv 1 (a.bc aS) j j j j j (λw a=>?_));have a:=C.whole (U:=d.cs) a j;have a:C o f (bB aS d::_) w:=a;refine bH 1 j ⟨_,ds results60 j j j j a.bQ,?_⟩;have E:m≠0:=by simpa using A
 have i:e.init=(p,d,m):=by
  unfold bw.init;rw [aR (⟨by have:=dY q;omega,by have:=dY t;omega,by unfold kZ;have g:=y;rw [sD] at g;rw [show e.name.all fZ=true by simpa using g,Bool.true_and];exact decide_eq_true ⟨List.length_pos_iff.2 D,by have:=of_decide_eq_false x;omega⟩⟩:0<=e.number/\e.number<=15/\kZ e.name=true)];unfold bw.op at k;split
  .rename_i h;rw [aR h] at k;cases k;rfl
  .rename_i h;rw [az h] at k;cases k;exact absurd j E
 rw [i];exact⟨j,a.as⟩
theorem Hs{o:World}{aA:Nat}{e:bw}{G:List Chunk}{s:Int}{a:Int×Int×Int}(v:hk aA e G)(c:Own [G] o):Calls prog 50 #[aa aA,ab s,kc a] o λr w=>r=ab (e.told s a).2/\∃af,hk aA (e.told s a).1 af/\C o (au [G]) [af] w:=by
 obtain⟨u,bI,q,rfl⟩:=v;obtain⟨d,p⟩:∃d,d=au [bA aA e u++bI]:=⟨_,j⟩;rw [<-p];have c:C o d [bA aA e u++bI] o:=p▸c;have c:C o d [bA aA e u,bI] o:=c.perm (by simp);refine a6 func50 (bJ 2 c j j (λf w c=>?_));have c:C o d [J f #[ab a.1,ab a.2.1,ab a.2.2] 123,bA aA e u,bI] w:=c;refine ar 14 j (ax (C.aj (b:=aA) c) j) (aq 2 j (c9 16 j (λk=>?_) (λk=>?_)))
 .refine an 12 j j ?_
  have g:e.told s a=(e,6):=by
   unfold bw.told;exact aR (.inl (dV k))
  rw [g];have c:C o d [bA aA e u,bI] w:=c.as;exact⟨j,_,⟨u,bI,q,j⟩,C.perm (A:=[bA aA e u,bI]) c (by simp)⟩
 refine ar 4 j (ax (C.aj (b:=aA) c) j) (bo 3 j j (λi=>?_) (λi=>?_));refine an 3 j j ?_
 have g:e.told s a=(e,6):=by
  unfold bw.told;exact aR (.inr (by simpa using i))
 rotate_left
 refine ar 3 j (ax (C.aj (b:=f) c) j) (bo 2 j j (λm=>?_) (λm=>?_))
 .have c:=c.drew;refine bx 1 j (λw=>∃ae,C o d ([J f #[ab a.1,ab a.2.1,ab a.2.2] 123]++ae) w) ⟨_,c⟩ (ag 0 5 j (a8 5 j a2 j (ag 6 1 j (a8 7 j a2 j (ag 8 2 j (aX 10 j (cO (c.bc aA) j j j j bO (λw c=>?_))))))));have c:C o d (bA aA {e with known:=true} u::_) w:=c;have c:C o d ([J f #[ab a.1,ab a.2.1,ab a.2.2] 123]++_) w:=c.front;refine ao ⟨⟨_,c⟩,?_⟩;refine ag 11 2 j (aX 13 j (cO (c.bc aA) j j j j bO (λw c=>?_)));have c:C o d (bA aA {e with known:=true,prod:=a.2.1} u::_) w:=c;have c:C o d ([J f #[ab a.1,ab a.2.1,ab a.2.2] 123]++_) w:=c.front;refine ao ⟨⟨_,c⟩,?_⟩;refine ag 14 2 j (aX 16 j (cO (c.bc aA) j j j j bO (λw c=>?_)));have c:C o d (bA aA {e with known:=true,prod:=a.2.1,b3:=a.2.2} u::_) w:=c;have c:C o d ([J f #[ab a.1,ab a.2.1,ab a.2.2] 123]++_) w:=c.front;refine ao ⟨⟨_,c⟩,?_⟩;refine ag 17 2 j (dK 19 j (cO (c.bc aA) j j j j bO (λw c=>?_)));have c:C o d (bA aA {e with known:=true,prod:=a.2.1,b3:=a.2.2,asked:= -1} u::_) w:=c;refine ao (c5 ?_);have x:=wE (aA:=aA) (e:={e with known:=true,prod:=a.2.1,b3:=a.2.2,asked:= -1}) (u:=u) c.ours;refine br 2 x j (λw⟨n,l,t,y⟩=>?_);have c:=c.b1 y;refine an 3 j j ?_
  have g:e.told s a=(bw.dc {e with known:=true,prod:=a.2.1,b3:=a.2.2,asked:= -1},0):=by
   unfold bw.told;exact(az (by rintro(h|h);exact absurd h (dY k);exact h (by simpa using i))).trans (if_pos (by simpa using m))
  rw [g];have c:C o d [bA aA (bw.dc {e with known:=true,prod:=a.2.1,b3:=a.2.2,asked:= -1}) n,l] w:=c.as;exact⟨j,_,⟨n,l,t,j⟩,C.perm (A:=[bA aA (bw.dc {e with known:=true,prod:=a.2.1,b3:=a.2.2,asked:= -1}) n,l]) c (by simp)⟩
 refine an 4 j j ?_
 have g:e.told s a=(e,0):=by
  unfold bw.told;exact(az (by rintro(h|h);exact absurd h (dY k);exact h (by simpa using i))).trans (if_neg (by simpa using m))
 rotate_left
 all_goals
  rw [g];have c:C o d [bA aA e u,bI] w:=c.as;exact⟨j,_,⟨u,bI,q,j⟩,C.perm (A:=[bA aA e u,bI]) c (by simp)⟩
theorem C5{o:World}{aA:Nat}{e:bw}{G:List Chunk}(d:hk aA e G)(c:Holds o G):Calls prog 12 #[aa aA] o λr w=>r= .tuple #[ab e.prod,ab e.b3,.bool e.known]/\C o [] [] w:=by
 have a:Own [] o:=C.start o;obtain⟨u,bI,f,rfl⟩:=d;have b:o.heap[aA]? =some (.cells (rC e u).toArray 76 (0,0)):=c.left.head;refine a6 func12 ?_;have a:=a.drew;exact bx 13 j (λw=>C o [] [] w) a (ag 0 3 j (b4 3 j (λw a=>ax (a.b8 b) j) (ag 4 3 j (b4 7 j (λw a=>ax (a.b8 b) j) (ag 8 3 j (b4 11 j (λw a=>ax (a.b8 b) j) (ag 12 3 j (bL (an 0 j j ⟨j,a⟩)))))))))
section
variable {α:Type}
def ec(V:Value->α->List Chunk->Prop):List Value->List α->List Chunk->Prop
 |[],[],G=>G=[]
 |v::U,x::xs,G=>∃af aB,G=af++aB/\V v x af/\ec V U xs aB
 |[],_::_,_=>False
 |_::_,[],_=>False
variable {V:Value->α->List Chunk->Prop}
theorem ec.len:∀{U:List Value}{xs:List α}{G:List Chunk},ec V U xs G->U.length=xs.length
 |[],[],_,_=>rfl
 |[],_::_,_,h=>h.elim
 |_::_,[],_,h=>h.elim
 |_::U,_::xs,_,⟨_,_,_,_,h⟩=>by simp [h.len]
theorem ec.app:∀{U c:List Value}{xs d:List α}{G a:List Chunk},ec V U xs G->ec V c d a->ec V (U++c) (xs++d) (G++a)
 |[],_,[],_,_,_,h,b=>by have h:_=[]:=h;subst h;exact b
 |[],_,_::_,_,_,_,h,_=>h.elim
 |_::_,_,[],_,_,_,h,_=>h.elim
 |_::_,_,_::_,_,_,a,⟨af,aB,rfl,e,h⟩,b=>⟨af,aB++a,by simp [dS],e,h.app b⟩
theorem ec.one{v:Value}{x:α}{G:List Chunk}(h:V v x G):ec V [v] [x] G:=⟨G,[],by simp,h,j⟩
theorem ec.at:∀{U:List Value}{xs:List α}{G:List Chunk},ec V U xs G->∀(i:Nat)(c:i<xs.length),∃v af f aB,U[i]? =some v/\G=af++(f++aB)/\V v xs[i] f/\∀b a,V v b a->ec V U (xs.set i b) (af++(a++aB))
 |[],[],_,_,i,c=>by simp at c
 |[],_::_,_,h,_,_=>h.elim
 |_::_,[],_,h,_,_=>h.elim
 |v::U,x::xs,_,⟨af,aB,rfl,d,h⟩,0,_=>⟨v,[],af,aB,j,j,d,λb a e=>⟨a,aB,j,e,h⟩⟩
 |v::U,x::xs,_,⟨af,aB,rfl,d,h⟩,i+1,c=>by
  obtain⟨u,H1,k,g,l,m,n,o⟩:=h.at i (by simpa using c);refine⟨u,af++H1,k,g,by simpa using l,by rw [m,List.append_assoc],by simpa using n,λb a e=>?_⟩;exact⟨af,H1++(a++g),by rw [dS],d,o b a e⟩
def o0(e:TypeId)(V:Value->α->List Chunk->Prop)(v:Value)(xs:List α)(G:List Chunk):Prop:=∃ak H U,G=ak++H/\Row e 1 v xs.length U ak/\ec V U xs H
end
structure aU where
 bz:List (Option bm)
 parts:List cR
 b9:List (bw×Int)
 bp:List aY
 lost:Nat
 heard:List aY
def aU.f0(z:aU)(l:List aY):aU:=
 {z with bp:=z.bp++l.take (512-z.bp.length),lost:=z.lost+(l.length-(512-z.bp.length)),heard:=z.heard++l.take (min (min l.length (512-z.bp.length)) (1000-z.heard.length))}
def aU.gr(g:al)(I:bD)(z:aU)(i:Nat):aU:=match z.bz[i]? with
 |some (some x)=>aU.f0 {z with bz:=z.bz.set i (some (x.ask g I).1)} (x.ask g I).2.1
 |_=>z
def aU.asks(g:al)(z:aU)(I:bD)(e:Int):aU×Int:=if e≠0 then(z,e) else((List.range z.bz.length).foldl (aU.gr g I) z,0)
def hL(g:al)(v:Value)(I:Option bm)(G:List Chunk):Prop:=match I with
 |none=>v= .pointer none/\G=[]
 |some x=>∃a,v=aa a/\hB g a x G
def jb(g:al)(v:Value)(b:cR)(G:List Chunk):Prop:=∃bh,v=aa bh/\jA g bh b G
abbrev db(aL aA:Nat)(i:Int):List Chunk:=J aL #[aa aA,ab i] 72
def lJ(v:Value)(e:bw×Int)(G:List Chunk):Prop:=∃aL aA GE,v=aa aL/\hk aA e.1 GE/\G=db aL aA e.2++GE
structure cg where
 bz:Value
 parts:Value
 b9:Value
 bp:Value
 heard:Value
abbrev lH(g:al)(c:cg):List Value:=[g.p,c.bz,c.parts,c.b9,c.bp,c.heard]
abbrev bg(g:al)(aM:Nat)(c:cg):List Chunk:=J aM (lH g c).toArray 60
structure v8(g:al)(z:aU)(c:cg)(cI bI dA a1 bs:List Chunk):Prop where
 bz:o0 37 (hL g) c.bz z.bz cI
 parts:o0 48 (jb g) c.parts z.parts bI
 b9:o0 73 lJ c.b9 z.b9 dA
 bp:gH c.bp z.bp z.lost a1
 heard:cC c.heard z.heard bs
def eo(g:al)(aM:Nat)(z:aU)(G:List Chunk):Prop:=∃(c:cg)(cI bI dA a1 bs:List Chunk),v8 g z c cI bI dA a1 bs/\G=bg g aM c++(cI++(bI++(dA++(a1++bs))))
theorem C.yN{g:al}{aM:Nat}{c:cg}{cI bI dA a1 bs:List Chunk}{ae:List (List Chunk)}{o w:World}{F:List Nat}(h:C o F ((bg g aM c++(cI++(bI++(dA++(a1++bs)))))::ae) w):C o F (bg g aM c::cI::bI::dA::a1::bs::ae) w:=h.perm (by simp)
theorem C.rQ{g:al}{aM:Nat}{c:cg}{cI bI dA a1 bs:List Chunk}{ae:List (List Chunk)}{o w:World}{F:List Nat}(h:C o F (bg g aM c::cI::bI::dA::a1::bs::ae) w):C o F ((bg g aM c++(cI++(bI++(dA++(a1++bs)))))::ae) w:=h.perm (by simp)
def mP:Value->Bool
 | .pointer none=>true
 |_=>false
def fb:Nat->List Value->List (Int×Value)
 |_,[]=>[]
 |k,v::r=>if mP v=true then fb (k+1) r else((k:Int),v)::fb (k+1) r
theorem uw:∀(a b:List Value)(k:Nat),fb k (a++b)=fb k a++fb (k+a.length) b
 |[],_,_=>by simp [fb]
 |v::a,b,k=>by
  rw [List.cons_append,fb,fb,uw a b (k+1),List.length_cons,show k+1+a.length=k+(a.length+1) by omega];split<;>simp
theorem xL{U:List Value}{i:Nat}(a:i<U.length):fb 0 (U.take (i+1))=fb 0 (U.take i)++(if mP U[i]=true then [] else [((i:Int),U[i])]):=by
 rw [fK a,uw];rw [hC,mD (Nat.le_of_lt a),fe]
 congr 1
theorem DF{U:List Value}{i:Nat}(a:i<U.length)(aT:mP U[i]=false):∃r,fb 0 U=fb 0 (U.take i)++((i:Int),U[i])::r:=by
 refine⟨fb (i+1) (U.drop (i+1)),?_⟩;have e:U=U.take i++(U[i]::U.drop (i+1)):=by rw [<-jF a,ne]
 have b:fb 0 U=fb 0 (U.take i++(U[i]::U.drop (i+1))):=aK (fb 0) e;rw [b,uw,hC,mD (Nat.le_of_lt a),fe,fb,az (by rw [aT];decide)]
abbrev DE(U:List Value)(pre:List (Int×Value))(q:Int×Value):Prop:=∃r,fb 0 U=pre++q::r
theorem ec.p7{g:al}:∀{U:List Value}{xs:List (Option bm)}{G:List Chunk},ec (hL g) U xs G->∀v∈U,∃p,v= .pointer p
 |[],_,_,_=>by intro v a;cases a
 |u::us,[],_,h=>h.elim
 |u::us,x::xs,_,⟨_,_,_,hu,h⟩=>by
  intro v a;rcases hD.1 a with rfl|a
  .cases x with
   |none=>exact⟨none,hu.1⟩
   |some y=>obtain⟨c,b,_⟩:=hu;exact⟨_,b⟩
  .exact h.p7 v a
theorem xJ{o:World}{aM:Nat}:Calls prog 47 #[aa aM] o λr w=>∃aC,r= .func (.func 104) #[] #[aa aC]/\C o [] [J aC #[aa aM] 22] w:=by
 have a:Own [] o:=C.start o;refine a6 func47 (bJ 2 a j j (λaC w a=>aq 3 j (gI j j j j ?_)));exact an 1 j j ⟨aC,j,a⟩
theorem xI{aC aM h cap:Nat}{g:al}{c:cg}{cur:Array Value}{U:List Value}(G:c.bz= .slice (some ⟨h,0,none⟩) U.length cap)(M:Row 37 1 (.slice (some ⟨h,0,none⟩) U.length cap) U.length U (J h cur 37))(N:∀v∈U,∃p,v= .pointer p)(W:U.length<=1000):Iter prog 104 #[aa aC] [J aC #[aa aM] 22] (λ_ w=>w.heap[aM]? =some (.cells (lH g c).toArray 60 (0,0))) (λae=>(h,.cells cur 37 (0,0))∈ae.flatten) (λq:Int×Value=> #[bG q.1,q.2]) (DE U) (λxs=>xs=fb 0 U):=by
 intro l Q X ae o a f B E T V O;show Calls _ _ #[fC l,aa aC] o _;obtain⟨m,x⟩:∃m,m=au ([J aC #[aa aM] 22]++ae):=⟨_,j⟩;have a:C o m (J aC #[aa aM] 22::ae) o:=x▸a;rw [<-x];have D:=B;refine a6 func104 (ar 2 j (a.cell j) (ar 2 j (ax D (aK some G)) ?_))
 refine dj 3 j (cU:=Nat×List (List Chunk)) (λi=>[(0,fC l),(8,.slice (some ⟨h,0,none⟩) U.length cap),(9,.int .i64 (U.length:Nat)),(10,.int .i64 (i.1:Nat))])
  (λi w=>i.1<=U.length/\Q (fb 0 (U.take i.1)) i.2 w/\C o m (J aC #[aa aM] 22::i.2) w) (λi=>U.length-i.1) (0,ae) ⟨j,j,j,j,bb⟩ ⟨cp _,by simpa [fb] using f,a⟩ ?_
 rintro⟨i,af⟩ w ⟨I,f,a⟩;dsimp only at I f a⊢;refine cy 4 j j (λA=>?_) (λA=>?_)
 .have d:i<U.length:=by omega
  have F:w.heap[h]? =some (.cells cur 37 (0,0)):=a.here (h,.cells cur 37 (0,0)) (by rw [jZ];exact fL.2 (.inr (E _ _ _ f)));obtain⟨_,_,e,_,_,L,_⟩:=Row.read M (show Holds w (J h cur 37) from λc u=>by rw [hO.1 u];exact F);cases e;obtain⟨p,k⟩:=N _ (eB d);refine aq 6 j (fJ j j j j L (v:=.pointer p) (by rw [gK,cr d,k]) d (λR S u=>?_));refine ar 0 j u (aq 7 j (c9 17 j (λr=>?_) (λr=>?_)))
  .have n:mP U[i]=false:=by rw [k];cases p with|none=>cases r|some _=>rfl
   have z:=O (fb 0 (U.take i)) ((i:Int),U[i]) af _ (DF d n) f (C.i8 (H:=[J aC #[aa aM] 22]) a);rw [k] at z;refine aq 3 j (jD j j j j z (λb w⟨aB,P,y⟩=>?_));have a:=C.iZ (H:=[J aC #[aa aM] 22]) a P;refine bo 2 j j (λs=>?_) (λs=>?_)
   .refine an 0 j j ?_;have t:b=false:=by cases b<;>first|rfl|exact absurd s (by decide)
    subst t;exact⟨aB,a,.inr (by simpa using y)⟩
   refine bE 2 j j j (dn i (by omega)) (bW 1 j ?_);have t:b=true:=by cases b<;>first|rfl|exact absurd s (by decide)
   subst t;refine⟨(i+1,aB),⟨j,j,j,j,bb⟩,⟨d,?_,a⟩,by dsimp only;omega⟩;dsimp only;rw [xL d,az (by rw [n];decide),k];simpa using y
  refine bE 9 j j j (dn i (by omega)) (bW 1 j ?_);have n:mP U[i]=true:=by rw [k];cases p with|none=>rfl|some _=>cases r
  refine⟨(i+1,af),⟨j,j,j,j,bb⟩,⟨d,?_,a⟩,by dsimp only;omega⟩;dsimp only;rw [xL d,aR n,gA];exact f
 refine an 1 j j ?_;have K:i=U.length:=by omega
 subst K;rw [gm] at f;exact⟨af,a,.inl ⟨_,j,f⟩⟩
theorem si{o:World}{g:al}{aM:Nat}{c:cg}{aB:Value}{bp aF z:List aY}{lost:Nat}{a1 bs E:List Chunk}(aC:gH c.bp bp lost a1)(aG:cC c.heard aF bs)(ai:cC aB z E)(aR:lost<=1000000000)(av:z.length<=1000000)(aW:aF.length<=1000)(d:Own [bg g aM c,a1,bs,E] o):Calls prog 41 #[aa aM,aB] o λr w=>r= .tuple #[]/\∃s l ac,gH c.bp (bp++z.take (512-bp.length)) (lost+(z.length-(512-bp.length))) l/\cC s (aF++z.take (min (min z.length (512-bp.length)) (1000-aF.length))) ac/\C o (au [bg g aM c,a1,bs,E]) [bg g aM {c with heard:=s},l,ac] w:=by
 obtain⟨f,ah⟩:∃f,f=au [bg g aM c,a1,bs,E]:=⟨_,j⟩;rw [<-ah];have d:C o f [bg g aM c,a1,bs,E] o:=ah▸d;have aE:=ai;obtain⟨ms,rfl,p,n,rfl,am,T⟩:=ai;obtain⟨A,cu,rfl,a0,a3⟩:=am.form;rw [fa] at av;simp only [fa];have hlen:∀q∈ms,q.cs.length=39:=λq Z=>q.bU (T.tag q Z)
 obtain⟨dM,W⟩:∃dM,dM=(min (min ms.length (512-bp.length)) (1000-aF.length)):=⟨_,j⟩;have aZ:dM<=ms.length:=by rw [W];omega
 refine a6 func41 ?_;refine ar 5 j (ax (C.aj (b:=aM) d) j) ?_;have V:=BO aC aE (d.ours (cM:=[a1,p++n])) aR (by rw [fa];exact av);refine bk 1 V j (λr w⟨L,l,af,aQ⟩=>?_);simp only [fa] at L af;subst L;have d:=d.b1 aQ;have d:C o f [bg g aM c,l,bs,p++n] w:=d.as;obtain⟨N,H,F,v,R,I,S⟩:=aG;have ap:aF.length=N.length:=by rw [<-H,fa]
 obtain⟨hH,aV,aL,_,_⟩:=I.form;refine ar 8 j (ax (C.aj (b:=aM) d) (aK some aL)) ?_;refine bE 1 j j j (rI (by omega) (by omega)) ?_;refine qL j j j ?_;refine bY 21 (.int .i64 (dM:Nat)) j (aK (Value.int .i64) (by rw [W];omega)) ?_;refine qM j j j j (show dM<=cu by omega) ?_;have aH:cC c.heard aF bs:=⟨N,H,F,v,R,I,S⟩
 refine dj 3 j (cU:=Nat×Value×List Chunk) (λk=>[(0,aa aM),(22,.slice A dM cu),(23,.int .i64 (dM:Nat)),(24,.int .i64 (k.1:Nat))])
  (λk w=>k.1<=dM/\cC k.2.1 (aF++(ms.map aD.P).take k.1) k.2.2/\C o f [bg g aM {c with heard:=k.2.1},l,k.2.2,p++n] w) (λk=>dM-k.1) (0,c.heard,bs) ⟨j,j,j,j,bb⟩ ⟨cp _,by simpa using aH,d⟩ ?_
 rintro⟨i,s,bs⟩ w ⟨aN,M,d⟩;dsimp only at aN M d⊢;refine bo 4 j j (λx=>?_) (λx=>?_)
 .have y:i<ms.length:=by have:=dV x;omega
  have K:=hlen ms[i] (eB y);obtain⟨_,_,e,_,_,aA,_⟩:=am.read (C.holds d (G:=p++n) (by simp)).left;cases e;obtain⟨aU,rfl⟩:∃a,A=some a:=by obtain⟨a,aJ,_⟩:=aA (i*39+0) (ab ms[i].k) (iI ms hlen i y (by decide) (by simp [aD.cs]));exact⟨a,aJ⟩
  obtain⟨Y,X⟩:=T.read (C.holds d (G:=p++n) (by simp)).right ms[i] (eB y);refine aq 5 j (oU j j j j (by omega) (by have:=dV x;omega) ?_);refine bP 0 (U:=ms[i].cs) j j K (j6 aA hlen i y) ?_;refine cx 0 d j (λt w d=>?_);refine c6 (d.bc t) j j j (by simpa using ms[i].one) (by rw [List.size_toArray];exact K) (by decide) (λw d=>?_);have d:=C.whole (U:=ms[i].cs) d (by rw [K];rfl);have d:C o f [bf t ms[i],bg g aM {c with heard:=s},l,bs,p++n] w:=d.as;have d:=d.drew;refine bx 0 j (λw=>∃ae,C o f ([bf t ms[i],bg g aM {c with heard:=s}]++ae) w) ⟨_,d⟩ ?_;refine ag 0 4 j ?_;refine a8 4 j a2 j ?_;refine bl 5 j (λw⟨_,d⟩=>dd (U:=ms[i].cs) j j K (bq (C.aj (b:=t) d))) ?_;refine aX 6 j ?_;obtain⟨Y,X⟩:=T.read (C.holds d (G:=p++n) (by simp)).right ms[i] (eB y);have V:=CB Y X;refine cS j j j V (λr w⟨q,B,D,L,Z,aw,ad⟩=>?_);subst L;have ay:=fw.r2 Z aw Y X;have az:q.tag.length=32:=by obtain⟨_,_,_,_,h,_⟩:=ay;exact h
  have d:=d.aO ad;have d:C o f ([bf t ms[i],bg g aM {c with heard:=s}]++_) w:=d.front;refine ao ⟨⟨_,d⟩,?_⟩;refine aX 7 j ?_;refine gj (U:=q.cs) d j j j (q.bU az) (by decide) (by decide) (λQ w d=>?_);have aT:=bq (C.aj (b:=Q) d);have d:C o f ([bf t ms[i],bg g aM {c with heard:=s}]++_) w:=d.front;refine ao ⟨⟨_,d⟩,?_⟩;refine aX 8 j ?_;obtain⟨N,H,F,v,R,I,S⟩:=M;have ap:=aK List.length H;rw [fa,cj,List.length_take,List.length_map] at ap
  have d:C o f [bf t ms[i],bg g aM {c with heard:=s},l,F,v,p++n,B,D,J Q q.cs.toArray 101] w:=by
   rw [R] at d;exact C.perm (A:=[bf t ms[i],bg g aM {c with heard:=s},l,F++v,p++n,B,D,J Q q.cs.toArray 101]) d.as (by simp)
  refine e6 (d.to F) I j j (by decide) j j j (m:=1) (news:=q.cs) (q.bU az) aT (by intro u hu;exact um [q] u (by simpa using hu)) (by omega) (by unfold maxLen;omega) (λv2 O w aI d=>?_)
  have ak:cC v2 (aF++(ms.map aD.P).take (i+1)) (O++(v++(B++D))):=by
   refine⟨N++[q],?_,lK.snoc aI S ay⟩;rw [iB,H,List.append_assoc,List.take_add_one];simp [y,aw]
  have d:C o f ([bf t ms[i],bg g aM {c with heard:=s}]++_) w:=d.front;refine ao ⟨⟨_,d⟩,?_⟩;refine ag 9 2 j ?_;refine dK 11 j ?_;obtain⟨_,_,aS,_⟩:=ak.len;refine cO (d.bc aM) j j j (by rw [aS];rfl) bO (λw d=>?_);have d:C o f (bg g aM {c with heard:=v2}::_) w:=d;have d:C o f [bg g aM {c with heard:=v2},l,O++(v++(B++D)),p++n] w:=C.perm (A:=[bg g aM {c with heard:=v2},l,O,v,B,D,p++n]) d.as (by simp);refine ao ?_;refine c5 ?_;refine bE 1 j j j (dn i (by omega)) ?_;refine bW 1 j ?_;exact⟨(i+1,v2,_),⟨j,j,j,j,bb⟩,⟨by have:=dV x;dsimp only;omega,ak,d⟩,by have:=dV x;dsimp only;omega⟩
 refine an 1 j j ?_;have aP:i=dM:=by have:=dY x;omega
 rw [aP,W] at M;exact⟨j,s,l,bs,af,M,d.as⟩
theorem vl{o:World}{g:al}{aM:Nat}{c:cg}{α:Type}{V:Value->α->List Chunk->Prop}{xs:List α}{ak:List Chunk}{U:List Value}{i:Int}(e:o.heap[aM]? =some (.cells (lH g c).toArray 60 (0,0)))(s:Row 37 1 c.bz xs.length U ak)(k:Holds o ak)(D:U.length=xs.length)(t:∀v∈U,∃p,v= .pointer p):Calls prog 9 #[aa aM,ab i] o λr w=>r=(if 0<=i/\i<(xs.length:Int) then U.getD i.toNat (.pointer none) else .pointer none)/\w=o:=by
 obtain⟨mo,x,f,B,C,q,_⟩:=Row.read s k;refine a6 func9 (aq 9 j (bY 7 (.bool false) j (aK Value.bool (j)) ?_));refine aq 4 j (c9 11 j (λa=>?_) (λa=>?_))
 .refine an 12 j j (⟨?_,j⟩);rw [az (by have:=dV a;omega)]
 refine ar 4 j (ax e (aK some f)) (cy 3 j j (λd=>?_) (λd=>?_))
 .refine an 3 j j (⟨?_,j⟩);rw [az (by omega)]
 refine ar 6 j (ax e (aK some f)) ?_;have m:0<=i/\i<(xs.length:Int):=by have y:=dY a;have z:=d;omega
 obtain⟨n,rfl⟩:∃n:Nat,i=n:=⟨i.toNat,by omega⟩;have b:n<U.length:=by omega
 obtain⟨p,h⟩:=t _ (eB b);refine aq 1 j (fJ j j j j q (v:=.pointer p) (by rw [gK,cr b,h]) (by omega) (λu A l=>?_));refine ar 0 j l (an 1 j j (⟨?_,j⟩));rw [aR m];simp [List.getD,b,h]
theorem yS{o:World}{g:al}{aM:Nat}{c:cg}{α:Type}{V:Value->α->List Chunk->Prop}{xs:List α}{ak:List Chunk}{U:List Value}{i:Int}(e:o.heap[aM]? =some (.cells (lH g c).toArray 60 (0,0)))(s:Row 48 1 c.parts xs.length U ak)(k:Holds o ak)(D:U.length=xs.length)(t:∀v∈U,∃p,v= .pointer p):Calls prog 15 #[aa aM,ab i] o λr w=>r=(if 0<=i/\i<(xs.length:Int) then U.getD i.toNat (.pointer none) else .pointer none)/\w=o:=by
 obtain⟨mo,x,f,B,C,q,_⟩:=Row.read s k;refine a6 func15 (aq 9 j (bY 7 (.bool false) j (aK Value.bool (j)) ?_));refine aq 4 j (c9 11 j (λa=>?_) (λa=>?_))
 .refine an 12 j j (⟨?_,j⟩);rw [az (by have:=dV a;omega)]
 refine ar 4 j (ax e (aK some f)) (cy 3 j j (λd=>?_) (λd=>?_))
 .refine an 3 j j (⟨?_,j⟩);rw [az (by omega)]
 refine ar 6 j (ax e (aK some f)) ?_;have m:0<=i/\i<(xs.length:Int):=by have y:=dY a;have z:=d;omega
 obtain⟨n,rfl⟩:∃n:Nat,i=n:=⟨i.toNat,by omega⟩;have b:n<U.length:=by omega
 obtain⟨p,h⟩:=t _ (eB b);refine aq 1 j (fJ j j j j q (v:=.pointer p) (by rw [gK,cr b,h]) (by omega) (λu A l=>?_));refine ar 0 j l (an 1 j j (⟨?_,j⟩));rw [aR m];simp [List.getD,b,h]
end Go.Proofs.YtmholjbhjcpkhaaGreatDoor.R
