/- Part 7 of the proof. -/
import Derived.Test.YtdomoelfhjdioaaGreatDoorM6
set_option linter.unusedVariables false
set_option linter.unusedSimpArgs false
set_option linter.unusedSectionVars false
set_option maxRecDepth 20000
set_option maxHeartbeats 4000000
namespace Go.Proofs.YtdomoelfhjdioaaGreatDoor.R
open Go.Proofs.Tryz Go Go.RowKit Go.Proofs
def ig(p:List UInt8)(J:Nat):List UInt8:=(p++[128])++List.replicate J 0
def kv(p:List UInt8)(J:Nat):List UInt8:=ig p (jp p.length)++(List.range J).map (lP p.length)
theorem nx(p:List UInt8)(J:Nat):(ig p J).length=p.length+1+J:=by simp [ig];omega
theorem GP(p:List UInt8)(J:Nat):ig p J++[0]=ig p (J+1):=by unfold ig;rw [List.append_assoc,<-List.replicate_succ']
theorem GQ(p:List UInt8)(J:Nat):kv p J++[lP p.length J]=kv p (J+1):=by unfold kv;rw [List.append_assoc,List.range_succ,List.map_append];rfl
theorem qN(p:List UInt8)(J:Nat):(kv p J).length=p.length+1+jp p.length+J:=by unfold kv;rw [List.length_append,nx,List.length_map,List.length_range]
theorem zN(p:List UInt8):kv p 8=eB p:=by unfold kv ig eB;rw [List.append_assoc]
theorem GR(n:Nat):jp n<=63:=by unfold jp;split<;>omega
theorem Ej(n:Nat)(h:n<=1000000000):evalBin .mul .u64 (n:Int) 8=some (.int .u64 ((8*n:Nat):Int)):=by
 show some (Value.int .u64 (IntKind.u64.wrap ((n:Int)*8)))=_;rw [lz];exact aH (λz=>some (Value.int .u64 z)) (by omega)
theorem D2(J:Nat)(h:J<9):evalBin .sub .i64 (7-(J:Int)) 1=some (.int .i64 (7-((J+1:Nat):Int))):=by
 show some (Value.int .i64 (IntKind.i64.wrap ((7-(J:Int))-1)))=_;rw [jX];exact aH (λz=>some (Value.int .i64 z)) (by omega)
theorem BF{P:Program}{n:Fr}{Z:Env}{w:World}{dst:Option Nat}{ty:TypeId}{pos:String}{after:Array Edge}{g:Option (Nat×Bool)}{t e:TypeId}{x y f:Operand}{b l c:Nat}{k db:IntKind}{i J:Nat}(m:Nat){z:Value}{bytes:Nat}[hu:bB P t (.slice e)][u:cn P e z 1 bytes]
 (B:bs Z x=some (.slice (some ⟨b,0,none⟩) l c)) (C:bs Z y=some (.int k i)) (D:bs Z f=some (.int db J)) (F:J=i+m) (p:J<=c) (E:i<c):
 ∀a,cF Z n.n a->(execOp a.eval ⟨dst,.slice t x (some y) (some f) none,ty,pos,after,g⟩).run P w= .ok (.value (.slice (some ⟨b,i,none⟩) m (c-i))) w:=λa d=>by
 obtain⟨inf,v,_,A,_⟩:=u.parts;have q:¬c<J:=by omega
 have r:¬J<i:=by omega
 have s:¬c=i:=by omega
 have j:((⟨b,0,none⟩:Addr).add i)=⟨b,i,none⟩:=by rw [add_lit,fg]
 have o:J-i=m:=by omega
 simp [execOp,d.eval B,d.eval C,d.eval D,Instr.sliceAt,Instr.slice,Instr.sliceBounds,Instr.sliceBound,asIntOf,d7 hu.h,sizeOf,typeInfo,v,A,q,r,s,j,o];rw [a6 p,a6 (by omega)]
theorem DP{cur:Array Value}{n:Nat}{M:List UInt8}(h:cur.toList.take n=aG M){k i:Nat}{v:Value}(a:(aG ((M.drop k).take 64))[i]? =some v):cur[k+i]? =some v:=by
 rw [xy,uw,jD] at a;split at a
 .rw [lA,<-h,jD] at a;split at a
  .simpa using a
  .cases a
 .cases a
def lO(s:eP)(i:Nat):List UInt8:=s.out.take i++List.replicate (32-i) 0
theorem GN(s:eP){i:Nat}(h:i<32):s.out.getD i 0=b1 (s.ws.getD (i/4) 0>>>(24-8*(i%4))):=by
 obtain⟨q,r,b,c,rfl⟩:∃q r,q<8/\r<4/\i=4*q+r:=⟨i/4,i%4,by omega,by omega,by omega⟩;have a:r=0\/r=1\/r=2\/r=3:=by omega
 rw [show(4*q+r)/4=q by omega,show(4*q+r)%4=r by omega];rcases pk b with rfl|rfl|rfl|rfl|rfl|rfl|rfl|rfl<;>rcases a with rfl|rfl|rfl|rfl<;>rfl
theorem GL(s:eP){i:Nat}(h:i<=32):(lO s i).length=32:=by
 unfold lO;rw [b4,List.length_take,List.length_replicate,eP.vU];omega
theorem GM(s:eP){i:Nat}(h:i<32):(aG (lO s i)).toArray.setIfInBounds i (bv (b1 (s.ws.getD (i/4) 0>>>(24-8*(i%4)))))=(aG (lO s (i+1))).toArray:=by
 have a:i<s.out.length:=by rw [eP.vU];exact h
 rw [<-GN s h];apply fC;unfold lO;rw [show 32-i=(32-(i+1))+1 by omega,tS];simp [aG,List.set_append,List.getD,a,Nat.min_eq_left (Nat.le_of_lt a)];rw [fu (by simpa using a)];simp
theorem Hl{o:World}{A:Option Addr}{p:List UInt8}{c:Nat}(V:Rd o A (aG p))(M:p.length<=1000000000):Calls prog 56 #[.slice A p.length c] o λr w=>r= .agg (aG (bO p)).toArray/\C o [] [] w:=by
 have a:Own [] o:=C.start o;have aj:=GR p.length;have ai:=Ab p;have y:=qN p 8;rw [zN] at y;refine e9 func56 (cl 2 a j (λaO w a=>?_));have a:C o [] [R aO (aG (gL gM 0)).toArray 79] w:=a;refine aq 2 j (eO a j j j j j j bJ (λY w a=>?_));refine aq 1 j (d9 a (Row.made (size:=1) (by simp [maxLen]) (Nat.zero_le _)) j j (by decide) j j j (news:=aG p) (by simp) (a.rd V (bX.of_nil _ _)) (fc p) (by omega) (by unfold maxLen;omega) (λv ag w b a=>?_));refine eO a j j j j j j bJ (λD w a=>?_);have aJ:Rd w (some ⟨D,0,none⟩) [bv 128]:=a.bE;have a:=a.f1;refine d9 a b j j (by decide) j j j (m:=1) (news:=[bv 128]) j aJ (fc [128]) (by omega) (by unfold maxLen;omega) (λv ag w b a=>?_);have a:=a.f1.drop
 have b:dt v (ig p 0) ag:=by
  have K:aG (ig p 0)=[]++aG p++[bv 128]:=by simp [ig,aG]
  have L:(ig p 0).length=0+p.length+1:=by rw [nx];omega
  show Row 5 1 v (ig p 0).length (aG (ig p 0)) ag;rw [K,L];exact b
 refine cH 3 j (ct:=Nat×Value×List Chunk) (λi=>[(0,.slice A p.length c),(2,ab aO),(3,i.2.1)]) (λi w=>i.1<=jp p.length/\dt i.2.1 (ig p i.1) i.2.2/\C o [] [i.2.2,R aO (aG (gL gM 0)).toArray 79] w) (λi=>jp p.length-i.1) (0,v,ag) ⟨j,j,j,aY⟩ ⟨b6 _,b,a⟩ ?_;rintro⟨J,v,ag⟩ w ⟨t,b,a⟩;dsimp only at t b a⊢;obtain⟨B,e2,rfl,ak,am,_,_⟩:=b.rd a;refine aq 5 j (wN (J:=64) j j j j (by decide) ?_);refine bm 1 j j (λu=>?_) (λu=>?_)
 .have l:J<jp p.length:=by
   have n:(ig p J).length%64≠56:=by have:=u;simp at this;omega
   rw [nx] at n;have Z:J≠jp p.length:=λe=>by rw [e] at n;unfold jp at n;split at n<;>omega
   omega
  refine aq 4 j (eO a j j j j j j bJ (λE w a=>?_));have aJ:Rd w (some ⟨E,0,none⟩) [bv (0)]:=a.bE;have a:=a.f1;refine d9 a b j j (by decide) j j j (m:=1) (news:=[bv (0)]) j aJ (fc [0]) (by simp only [nx,qN];omega) (by simp only [nx,qN];unfold maxLen;omega) (λv ag w b a=>?_);have a:=a.f1.drop
  have b:dt v (ig p (J+1)) ag:=by
   rw [<-GP];show Row 5 1 v (ig p J++[0]).length (aG (ig p J++[0])) ag;rw [b4,uv];exact b
  exact bP 1 j ⟨(J+1,v,ag),⟨j,j,j,aY⟩,⟨l,b,a⟩,by dsimp only;omega⟩
 have P:J=jp p.length:=by
  have n:(ig p J).length%64=56:=by have:=u;simp at this;omega
  rw [nx] at n;unfold jp at t⊢;split at t<;>(split<;>omega)
 subst P;have b:dt (.slice B (ig p (jp p.length)).length e2) (kv p 0) ag:=by unfold kv;simpa using b
 refine aq 5 j (gt j j j (nh p.length (by omega)) ?_);refine bq 0 j j j (Ej p.length M) (cH 6 j (ct:=Nat×Value×List Chunk) (λi=>[(2,ab aO),(3,i.2.1),(4,.int .u64 ((8*p.length:Nat):Int)),(5,.int .i64 (7-(i.1:Int)))]) (λi w=>i.1<=8/\dt i.2.1 (kv p i.1) i.2.2/\C o [] [i.2.2,R aO (aG (gL gM 0)).toArray 79] w) (λi=>8-i.1) (0,_,ag) ⟨j,j,j,j,aY⟩ ⟨b6 _,b,a⟩ ?_);rintro⟨J,v,ag⟩ w ⟨t,b,a⟩;dsimp only at t b a⊢;refine cm 5 j j (λG=>?_) (λG=>?_)
 .have l:J<8:=by omega
  refine aq 7 j (bS 33 (.int .i64 ((7-J:Nat):Int)) j (aH (Value.int .i64) (by omega)) ?_);refine bq 0 j j j (jK 8 (7-J) (by omega)) (gt j j j (nh (8*(7-J)) (by omega)) (io j j j j (by omega) (yb (8*p.length) (8*(7-J)) (by omega)) (gt j j j (xO _) (eO a j j j j j j bJ (λF w a=>?_)))));have aJ:Rd w (some ⟨F,0,none⟩) [bv (lP p.length J)]:=a.bE;have a:=a.f1;refine d9 a b j j (by decide) j j j (m:=1) (news:=[bv (lP p.length J)]) j aJ (fc [lP p.length J]) (by simp only [nx,qN];omega) (by simp only [nx,qN];unfold maxLen;omega) (λv ag w b a=>?_);have a:=a.f1.drop
  have b:dt v (kv p (J+1)) ag:=by
   rw [<-GQ];show Row 5 1 v (kv p J++[lP p.length J]).length (aG (kv p J++[lP p.length J])) ag;rw [b4,uv];exact b
  exact bq 3 j j j (D2 J (by omega)) (bP 1 j ⟨(J+1,v,ag),⟨j,j,j,j,aY⟩,⟨l,b,a⟩,by dsimp only;omega⟩)
 have Q:J=8:=by omega
 subst Q;rw [zN] at b;refine aq 3 j (cP (c:=gM.cs.toArray) j j j (λ_=>by kernel_rfl) ?_);refine cl 0 a j (λd w a=>ck 0 a j j j j j (λw a=>?_));have a:C o [] [R d (hI (eB p) 0).cs.toArray 138,ag,R aO (aG (gL gM 0)).toArray 79] w:=C.whole (U:=gM.cs) a (Eq.refl 8);refine bo 2 (Hg (o:=w)) j (λw aa=>?_);have a:=a.aM aa;refine cl 0 a j (λg w a=>ck 0 a j j j (by decide) (by decide) (λw a=>?_));have a:=C.whole (U:=ga fP) a j;obtain⟨_,b|⟨f,cap,cur,rfl,rfl,ac,ad,ae,z⟩⟩:=b
 .exact absurd b.2.1 (by rw [y];omega)
 rw [gZ] at z;have ah:(eB p).length%64=0:=by rcases ii p with h|h<;>omega
 refine cH 5 j (ct:=Nat) (λk=>[(2,ab aO),(3,.slice (some ⟨f,0,none⟩) (eB p).length cap),(6,ab d),(7,ab g),(8,.int .i64 (64*k:Nat))]) (λk w=>64*k<=(eB p).length/\C o [] [R g (ga fP).toArray 140,R d (hI (eB p) k).cs.toArray 138,R f cur 5,R aO (aG (gL gM 0)).toArray 79] w) (λk=>(eB p).length-64*k) 0 ⟨j,j,j,j,j,aY⟩ ⟨b6 _,a⟩ ?_;rintro k w ⟨aa,a⟩;refine cm 7 j j (λH=>?_) (λH=>?_)
 .have l:64*k<(eB p).length:=by omega
  have a:=a.drew;refine bw 3 j (λw=>C o [] [R g (ga fP).toArray 140,R d (hI (eB p) k).cs.toArray 138,R f cur 5,R aO (aG (gL gM 0)).toArray 79] w) a (aT 0 j (λw h=>c3 (U:=(hI (eB p) k).cs) j j j h.f1.bE) (af 1 3 j (aT 4 j (λw _=>dq j j (gm (64*k) 64 (by omega))) (aT 5 j (λw _=>BF 64 (i:=64*k) (J:=64*k+64) j j j j (by omega) (by omega)) (aU 6 j ?_)))));have W:Rd _ (some ⟨f,64*k,none⟩) (aG (((eB p).drop (64*k)).take 64)):=a.f2.i6 (λi v X=>DP z X);have T:(((eB p).drop (64*k)).take 64).length=64:=by rw [hl,iT];omega
  have x:=Dc (s:=hI (eB p) k) (p:=((eB p).drop (64*k)).take 64) (c:=cap-64*k) W a.first (by omega);rw [T] at x;refine bF j j j x (λw aa=>?_);have a:=a.aM aa;refine ar ⟨a,?_⟩;refine dy 7 j ?_;have a:C o [] [R d (hI (eB p) k).cs.toArray 138,R g (ga fP).toArray 140,R f cur 5,R aO (aG (gL gM 0)).toArray 79] w:=a.f1;refine c4 a j j j j (Eq.refl 8) bJ (λw a=>?_);have a:C o [] [R d (hI (eB p) (k+1)).cs.toArray 138,R g (ga fP).toArray 140,R f cur 5,R aO (aG (gL gM 0)).toArray 79] w:=C.whole (U:=(hI (eB p) (k+1)).cs) a (Eq.refl 8);have a:=a.f1;exact ar (cX (bq 2 j j j (gm (64*k) 64 (by omega)) (bP 1 j ⟨k+1,⟨j,j,j,j,j,aY⟩,⟨by omega,a⟩,by omega⟩)))
 have S:k=(eB p).length/64:=by omega
 subst S;refine cl 3 a j (λq w a=>?_);have a:C o [] [[(q,.cells (aG (lO ((hI (eB p) ((eB p).length/64))) 0)).toArray 79 (0,0))],R g (ga fP).toArray 140,[(d,.cells (hI (eB p) ((eB p).length/64)).cs.toArray 138 (0,0))],R f cur 5,R aO (aG (gL gM 0)).toArray 79] w:=a;refine cH 5 j (ct:=Nat) (λi=>[(2,ab aO),(6,ab d),(9,ab q),(10,.int .i64 (i:Nat))]) (λi w=>i<=32/\C o [] [[(q,.cells (aG (lO ((hI (eB p) ((eB p).length/64))) i)).toArray 79 (0,0))],R g (ga fP).toArray 140,[(d,.cells (hI (eB p) ((eB p).length/64)).cs.toArray 138 (0,0))],R f cur 5,R aO (aG (gL gM 0)).toArray 79] w) (λi=>32-i) 0 ⟨j,j,j,j,aY⟩ ⟨b6 _,a⟩ ?_;rintro i w ⟨N,a⟩;refine cm 5 j j (λI=>?_) (λI=>?_)
 .have l:i<32:=by omega
  refine aq 6 j (tN (J:=4) j j j j (by decide) (by omega) ?_);refine hv (J:=i/4) j j j j (by omega) (al 0 j (a.f2.cell (r4 _ (by omega))) (aq 1 j (wN (J:=4) j j j j (by decide) ?_)));refine bq 0 j j j (jK 8 (i%4) (by omega)) (bq 0 j j j (hC 24 (8*(i%4)) (by omega) (by omega)) (gt j j j (nh (24-8*(i%4)) (by omega)) (io j j j j (by omega) (lL _ (24-8*(i%4)) (by omega)) (gt j j j (qm _) (hv (J:=i) j j j j (by omega) (cC a j j j j (by simp [ds,GL _ N];omega) (λw a=>?_)))))));have a:C o [] [[(q,.cells (aG (lO ((hI (eB p) ((eB p).length/64))) (i+1))).toArray 79 (0,0))],R g (ga fP).toArray 140,[(d,.cells (hI (eB p) ((eB p).length/64)).cs.toArray 138 (0,0))],R f cur 5,R aO (aG (gL gM 0)).toArray 79] w:=by rw [<-GM _ l];exact a
  exact bq 2 j j j (cM i (by omega)) (bP 1 j ⟨i+1,⟨j,j,j,j,aY⟩,⟨l,a⟩,by omega⟩)
 have O:i=32:=by omega
 subst O
 have a:C o [] [R q (aG (bO p)).toArray 79,R g (ga fP).toArray 140,[(d,.cells (hI (eB p) ((eB p).length/64)).cs.toArray 138 (0,0))],R f cur 5,R aO (aG (gL gM 0)).toArray 79] w:=by
  have e:lO (hI (eB p) ((eB p).length/64)) 32=bO p:=by
   unfold lO;rw [Hi,ir (by rw [e7];omega)];simp
  rw [<-e];exact a
 refine bN 3 (U:=aG (bO p)) j j (q2 p) a.bE (c4 a.f4 j j j (by simpa using fc (bO p)) (q2 p) (by simp [ds,pn _ (Nat.zero_le 8)]) (λw a=>?_));have a:=C.whole (U:=aG (bO p)) a j;refine bI 0 j ⟨_,hf (U:=aG (bO p)) results56 j j j a.bE,?_⟩;exact⟨j,a.bare⟩
theorem AY{o:World}{A:Option Addr}{p:List UInt8}{c:Nat}(d:Rd o A (aG p))(b:p.length<=1000000000):Calls prog 26 #[.slice A p.length c] o λr w=>r= .agg (aG (bO p)).toArray/\C o [] [] w:=by
 have a:Own [] o:=C.start o;refine e9 func26 (cl 2 a j (λaO w a=>bo 3 (Hl (c:=c) (a.rd d (bX.of_nil _ _)) b) j (λw aa=>?_)));have a:=a.aM aa;refine ck 0 a j j j (by simpa using fc (bO p)) (q2 p) (λw a=>?_);have a:=C.whole (U:=aG (bO p)) a j;refine bI 0 j ⟨_,hf (U:=aG (bO p)) results26 j j j a.bE,?_⟩;exact⟨j,a.bare⟩
abbrev kT(e:eF×hP):List Value:=c7 e.1 e.2
theorem s7(l:List (eF×hP)):∀e∈l,(kT e).length=11:=λ_ _=>rfl
theorem Rd.plain{w:World}{A:Option Addr}{U:List Value}(h:Rd w A U)(aJ:0<U.length):∃b I,A=some ⟨b,I,none⟩:=by
 obtain⟨a,rfl,c⟩:=h 0 U[0] (cf aJ);have aL:a.spot=none:=World.cell?_spot (a:=a) (by simpa [Addr.add] using c);obtain⟨b,I,s⟩:=a;cases aL;exact⟨b,I,j⟩
theorem Rd.step{w:World}{b I:Nat}{l:List (eF×hP)}(h:Rd w (some ⟨b,I,none⟩) (l.flatMap kT)){i J:Nat}(c:i<l.length){v:Value}(d:(kT l[i])[J]? =some v):w.cell? ⟨b,I+i*11+J,none⟩=some v:=by
 have a:=(iY h (s7 l) i c).cell d;rw [add_lit,add_lit] at a;exact a
section
variable {P:Program} {n:Nat} {Z:Env} {w:World} {dst:Option Nat} {ty:TypeId} {pos:String} {after:Array Edge} {g:Option (Nat×Bool)}
theorem By{t f:TypeId}{x y:Operand}{xs c0:Array Value}{b:Bool}(d:bs Z x=some (.agg xs))(e:bs Z y=some (.agg c0))(hm:P.eqGuardType P.depth t=false)(c:∀w,(Op.equalIn 10000 t (.agg xs) (.agg c0)).run P w= .ok b w):
 ∀ac,cF Z n ac->(execOp ac.eval ⟨dst,.binOp .neq t x y f,ty,pos,after,g⟩).run P w= .ok (.value (.bool (!b))) w:=λac a=>by
 simp only [execOp,a.eval d,a.eval e,dQ,run_eqGuard_agg w .neq t x y xs c0 hm,dU,run_neq_struct,c,ei]
end
theorem FL{o:World}{A:Option Addr}{ls:List (eF×hP)}{c:Nat}(e:Rd o A (ls.flatMap kT)):Calls prog 4 #[.slice A ls.length c] o λr w=>(∃b:Bool,r= .bool b)/\C o [] [] w:=by
 have a:Own [] o:=C.start o;refine a2 func4 (cH 11 j (ct:=Nat×Int) (λi=>[(0,.slice A ls.length c),(3,.int .i64 i.2),(4,.int .i64 (i.1:Nat))]) (λi w=>i.1<=120/\C o [] [] w) (λi=>120-i.1) (0,0) ⟨j,j,j,aY⟩ ⟨b6 _,a⟩ ?_);rintro⟨i,m⟩ w ⟨n,a⟩;dsimp only at n a⊢;refine aq 8 j (cQ 9 j (λf=>?_) (λf=>?_))
 .refine cm 3 j j (λg=>?_) (λg=>?_)
  .have d:i<ls.length:=by have:=dj f;omega
   have s:i<120:=by omega
   have l:=pc ls (s7 ls);obtain⟨p,q,rfl⟩:=e.plain (by rw [l];omega);have a:=a.drew;refine bw 4 j (λw=>∃ae,C o [] ae w) ⟨_,a⟩ (af 0 4 j (aT 4 j (λw _=>gb (J:=i) j j d) (af 5 1 j (bT 6 j (λw⟨_,h⟩=>Rd.step (h.rd e (bX.of_nil _ _)) d (J:=3) j) (af 7 4 j (aT 11 j (λw _=>gb (J:=i) j j d) (af 12 2 j (bT 14 j (λw⟨_,h⟩=>Rd.step (h.rd e (bX.of_nil _ _)) d (J:=8) j) (af 15 4 j (aT 19 j (λw _=>gb (J:=i) j j d) (af 20 2 j (bT 22 j (λw⟨_,h⟩=>Rd.step (h.rd e (bX.of_nil _ _)) d (J:=10) j) (af 23 3 j (bK (bm 4 j j (λk=>?_) (λk=>?_))))))))))))))))
   .exact ao 3 j j ⟨⟨_,j⟩,a⟩
   exact bq 3 j j j (cM i (by omega)) (bP 1 j ⟨(i+1,_),⟨j,j,j,aY⟩,⟨by dsimp only;omega,a⟩,by dsimp only;omega⟩)
  exact ao 4 j j ⟨⟨_,j⟩,a⟩
 exact ao 8 j j ⟨⟨_,j⟩,a⟩
theorem Aa{o:World}{k p e t:Int}:Calls prog 25 #[sz k p e t] o λr w=>∃v G,r= .tuple #[v,.int .i64 (if gQ k p e t then 0 else 1)]/\dt v (if gQ k p e t then ea [3,k,p,e,t] else []) G/\C o [] [G] w:=by
 have a:Own [] o:=C.start o;refine a2 func25 ?_;refine bM 2 a j j (λay w a=>?_);refine bN 5 j j j a.bE ?_;have b:=BK (o:=w) (k:=k) (p:=p) (e:=e) (t:=t);refine bo 0 b j (λw aa=>?_);have a:=a.aM aa;refine bm 1 j j (λeu=>?_) (λeu=>?_)
 .refine ao 4 j j ?_;have hm:gQ k p e t=false:=by simpa using eu
  rw [hm];exact⟨_,[],j,Row.nil _ _,a.bare.empty⟩
 refine al 4 j (aw (C.ak a) j) ?_;refine al 1 j (aw (C.ak a) j) ?_;refine al 1 j (aw (C.ak a) j) ?_;refine al 1 j (aw (C.ak a) j) ?_;refine eO a j j j j j j bJ (λg w a=>?_);have aJ:=a.bE;have b:=Hk (cO:=[3,k,p,e,t]) (c:=5) aJ (by simp);refine bh 0 b j (λr w⟨G,d,aa⟩=>?_);have a:=a.aM aa;obtain⟨f,g2,rfl,_⟩:=d.form;refine ao 2 j j ?_;have hm:gQ k p e t=true:=by simpa using eu
 rw [hm];exact⟨_,G,j,d,a.hT⟩
theorem xG{o:World}{v:Value}{l:List bH}{G:List Chunk}(n:dX v l G)(i:Holds o G)(u:l.length<=10000000):Calls prog 24 #[v] o λr w=>∃be,dX r l be/\C o [] [be] w:=by
 have b:Own [] o:=C.start o;obtain⟨s,t,rfl,y,z,g,_⟩:=Row.read n i;refine a2 func24 (aq 7 j (tJ j j j ?_));refine bm 0 j j (λfl=>?_) (λfl=>?_)
 .refine ao 3 j j ?_
  have q:l=[]:=by
   cases l with
   |nil=>rfl
   |cons x r=>obtain⟨a,p,_⟩:=g 0 (ad x.k) j;rw [p] at fl;cases fl
  subst q;exact⟨[],Row.nil _ _,b.empty⟩
 refine aq 3 j (nO (e:=44) (c:= #[]) b j j j (λw=>by kernel_rfl) (λd w b=>?_));have m:Row 44 4 (.slice (some ⟨d,0,none⟩) 0 0) 0 [] (R d #[] 44):=Row.made (by decide) (by decide);refine aq 1 j (d9 b m j j (by decide) j j j (news:=l.flatMap bH.cs) (vv l) (b.rd g (bX.of_nil _ _)) (mv l) (by omega) (by unfold maxLen;omega) (λv1 h w f b=>?_));refine ao 1 j j (⟨h,?_,b⟩);rw [fg,jV] at f;exact f
theorem Cc{o:World}{g:am}{bg:Nat}{b:cy}{G:List Chunk}(e:ju g bg b G)(a:Holds o G)(h:b.acc.length<=10000000):Calls prog 8 #[ab bg] o λr w=>∃be,dX r b.acc be/\C o [] [be] w:=by
 obtain⟨c,L,M,V,i,rfl⟩:=e;have f:=a.left.head;refine a2 func8 ?_;refine al 15 j (aw f j) ?_;refine bh 0 (xG i.acc a.right.right.left h) j (λr w⟨be,d,aa⟩=>?_);refine ao 1 j j ?_;exact⟨be,d,aa⟩
theorem r2{o:World}{g:am}{b:Nat}{x:bk}{G:List Chunk}(d:g8 g b x G)(a:Holds o G):Calls prog 11 #[ab b] o λr w=>∃(ej:Nat)(d5:List Chunk),r=ab ej/\kc ej x.c d5/\Holds o d5/\w=o:=by
 obtain⟨c,be,d5,c1,cV,f,rfl⟩:=d;have e:=a.left.head;refine a2 func11 ?_;refine al 15 j (aw e j) ?_;refine ao 1 j j ?_;exact⟨c.ej,d5,j,f.k,a.right.right.left,j⟩
theorem y9{o:World}{ej:Nat}{s:bt}{G:List Chunk}(d:kc ej s G)(a:Holds o G)(f:s.marks.length<=10000000):Calls prog 12 #[ab ej] o λr w=>∃be,dX r s.marks be/\C o [] [be] w:=by
 obtain⟨c,gW,M,D,W,g,rfl⟩:=d;have e:=a.left.head;refine a2 func12 ?_;refine al 15 j (aw e j) ?_;refine bh 0 (xG g.marks a.right.right.left f) j (λr w⟨be,b,aa⟩=>?_);refine ao 1 j j ?_;exact⟨be,b,aa⟩
theorem xH{z:aS}{a:Nat}(h:(z.rep (a:Int)).isSome=false):iw z a=[]:=by
 unfold iw;cases b:z.rep (a:Int) with
 |none=>rfl
 |some x=>rw [b] at h;cases h
def Small(z:aS):Prop:=∀(a:Nat)(x:bk),z.rep (a:Int)=some x->x.c.marks.length<=1000000
theorem DA{z:aS}(h:Small z)(a:Nat):(iw z a).length<=1000000:=by
 unfold iw;split
 .rename_i x b;exact h a x b
 .exact b6 _
theorem uC{z:aS}(h:Small z):∀n,((List.range n).flatMap (iw z)).length<=n*1000000
 |0=>b6 _
 |n+1=>by
  rw [l9,ma,List.length_append];have a:=uC h n;have b:=DA h n;simp only [je,List.flatMap_nil,gY];omega
theorem xI(z:aS)(a:Nat):(List.range (a+1)).flatMap (iw z)=(List.range a).flatMap (iw z)++iw z a:=by
 rw [l9,ma];simp
theorem oi{w:World}{A:Option Addr}{n c:Nat}{l:List bH}{ag:List Chunk}(b:dX (.slice A n c) l ag)(a:Holds w ag):Rd w A (l.flatMap bH.cs):=by
 obtain⟨_,_,e,_,_,d,_⟩:=Row.read b a;cases e;exact d
theorem xw{w:World}{A:Option Addr}{n c:Nat}{l:List UInt8}{ag:List Chunk}(b:dt (.slice A n c) l ag)(a:Holds w ag):Rd w A (aG l):=by
 obtain⟨_,_,e,_,_,d,_⟩:=Row.read b a;cases e;exact d
theorem nw(l:List bH):∀e∈l,(bH.cs e).length=4:=λ_ _=>rfl
theorem x1(m:bH):m.az.length<=50:=by unfold bH.az;split;exact m.qo;exact Nat.zero_le _
theorem IH{o:World}{g:am}{aQ:Nat}{z:aS}{G cV:List Chunk}{aJ:Value}{acc:List bH}(an:eR g aQ z G)(ak:Holds o G)(a3:dX aJ acc cV)(aR:Holds o cV)(bi:acc.length<=1000000)(aL:Small z)(av:∃i k,k<i/\rA (acc++(List.range 7).flatMap (iw z)) i k):Calls prog 13 #[ab aQ,aJ] o λr w=>r= .bool true/\C o [] [] w:=by
 have b:Own [] o:=C.start o;obtain⟨bc,bf,rfl,bp,br,ba,_⟩:=Row.read a3 aR;refine a2 func13 ?_;refine aq 5 j (nO (e:=44) (c:= #[]) b j j j (λw=>by kernel_rfl) (λax w b=>?_));have a0:Row 44 4 (.slice (some ⟨ax,0,none⟩) 0 0) 0 [] (R ax #[] 44):=Row.made (by decide) (by decide);refine aq 1 j (d9 b a0 j j (by decide) j j j (news:=acc.flatMap bH.cs) (vv acc) (b.rd ba (bX.of_nil _ _)) (mv acc) (by omega) (by unfold maxLen;omega) (λv1 W w aG b=>?_))
 have aX:dX v1 (acc++(List.range 0).flatMap (iw z)) W:=by
  rw [fg,jV] at aG;simpa [dX] using aG
 have b:C o [] [W] w:=b.as;refine cH 6 j (ct:=Nat×Value×List Chunk) (λq=>[(0,ab aQ),(5,q.2.1),(6,.int .i64 (q.1:Nat))]) (λq w=>q.1<=7/\dX q.2.1 (acc++(List.range q.1).flatMap (iw z)) q.2.2/\C o [] [q.2.2] w) (λq=>7-q.1) (0,v1,W) ⟨j,j,j,aY⟩ ⟨b6 _,aX,b⟩ ?_;rintro⟨a,v,ag⟩ w ⟨a4,A,b⟩;dsimp only at a4 A b⊢;refine bm 5 j j (λI=>?_) (λI=>?_)
 .refine bo 7 (n8 (i:=((a:Nat):Int)) an (ak.st b)) j (λB T=>?_);subst B;refine aq 1 j (cQ 23 j (λY=>?_) (λY=>?_))
  .obtain⟨x,n⟩:∃x,z.rep ((a:Nat):Int)=some x:=gX.1 (by simpa using Y);refine bh 2 (qU (i:=((a:Nat):Int)) an (ak.st b)) j (λr B⟨p,V,l,M,al,T⟩=>?_);subst l;subst B;rw [n] at M
   obtain⟨s,rfl,ap⟩:∃s,p=some ⟨s,0,none⟩/\g8 g s x V:=by
    rcases M with⟨_,h,_⟩|⟨y,s,ai,D,d⟩
    .cases h
    .cases D;exact⟨s,ai,d⟩
   refine bh 0 (r2 ap al) j (λr B⟨ej,d5,l,aF,aE,T⟩=>?_);subst l;subst B;refine bh 7 (qU (i:=((a:Nat):Int)) an (ak.st b)) j (λr B⟨p,V,l,M,al,T⟩=>?_);subst l;subst B;rw [n] at M
   obtain⟨s,rfl,ap⟩:∃s,p=some ⟨s,0,none⟩/\g8 g s x V:=by
    rcases M with⟨_,h,_⟩|⟨y,s,ai,D,d⟩
    .cases h
    .cases D;exact⟨s,ai,d⟩
   refine bh 0 (r2 ap al) j (λr B⟨ej,d5,l,aF,aE,T⟩=>?_);subst l;subst B;refine bh 0 (y9 aF aE (by have:=aL a x n;omega)) j (λr w⟨aN,aD,aa⟩=>?_);have b:=b.aM aa;obtain⟨be,dI,O,_,_⟩:=Row.form aD;subst O;have bj:=uC aL a;have bk:=aL a x n;refine d9 (b.to ag) A j j (by decide) j j j (m:=x.c.marks.length) (news:=x.c.marks.flatMap bH.cs) (vv _) (oi aD (b.holds (G:=aN) (by simp))) (mv _) (by rw [List.length_append];omega) (by rw [List.length_append];unfold maxLen;omega) (λv2 X w a1 b=>?_)
   have aZ:dX v2 (acc++(List.range (a+1)).flatMap (iw z)) X:=by
    rw [xI,r1 n,<-dF];unfold dX;rw [b4,List.flatMap_append];exact a1
   have b:C o [] [X] w:=b.as;refine bq 3 j j j (cM a (by omega)) ?_;refine bP 1 j ?_;exact⟨(a+1,v2,X),⟨j,j,j,aY⟩,⟨by have:=dj I;dsimp only;omega,aZ,b⟩,by have:=dj I;dsimp only;omega⟩
  refine bq 10 j j j (cM a (by omega)) ?_;refine bP 1 j ?_;exact⟨(a+1,v,ag),⟨j,j,j,aY⟩,⟨by have:=dj I;dsimp only;omega,by dsimp only;rw [xI,xH (by simpa using Y),List.append_nil];exact A,b⟩,by have:=of_decide_eq_true I;dsimp only;omega⟩
 have a5:a=7:=by have:=dN I;omega
 subst a5;have aW:=uC aL 7;generalize aV:acc++(List.range 7).flatMap (iw z)=L at A av;have aW:L.length<=9000000:=by rw [<-aV,b4];omega
 have a9:0<L.length:=by obtain⟨_,_,_,_,_,h,_⟩:=av;have:=(eY.1 h).1;omega
 obtain⟨aC,aB,_,bb,_,_⟩:=Row.block A a9;subst bb;refine cH 6 j (ct:=Nat) (λq=>[(5,.slice (some ⟨aC,0,none⟩) L.length aB),(7,.int .i64 (q:Nat))]) (λq w=>q<=L.length/\(∀i k,i<q->k<i->¬rA L i k)/\C o [] [ag] w) (λq=>L.length-q) 0 ⟨j,j,aY⟩ ⟨b6 _,λi k h=>absurd h (Nat.not_lt_zero _),b⟩ ?_;rintro i w ⟨bl,aI,b⟩;refine bm 7 j j (λZ=>?_) (λZ=>?_)
 .have E:i<L.length:=by have:=dj Z;omega
  have N:=oi A (b.holds (G:=ag) (by simp));refine aq 7 j (fz j j j j N (v:=ad L[i].k) (h7 (f:=bH.cs) (J:=0) L (nw L) i E (by decide) j) E (λaO aj a6=>?_));refine bN 0 (U:=L[i].cs) j j j (iY (f:=bH.cs) (aj▸N) (nw L) i E) ?_;refine bh 0 (Aa (k:=L[i].k) (p:=L[i].p) (e:=L[i].e) (t:=L[i].t)) j (λr w⟨aw,u,l,Q,aa⟩=>?_);subst l;have Q:dt aw L[i].az u:=Q;obtain⟨aK,aA,O,_,_⟩:=Row.form Q;subst O;have b:=b.aM aa;have b:C o [] [u,ag] w:=b.as;refine cH 9 j (ct:=Nat) (λq=>[(5,.slice (some ⟨aC,0,none⟩) L.length aB),(7,.int .i64 (i:Nat)),(8,.slice aK L[i].az.length aA),(10,.int .i64 (q:Nat))]) (λq w=>q<=i/\(∀k,k<q->¬rA L i k)/\C o [] [u,ag] w) (λq=>i-q) 0 ⟨j,j,j,j,aY⟩ ⟨b6 _,λk h=>absurd h (Nat.not_lt_zero _),b⟩ ?_;rintro J w ⟨bn,au,b⟩;refine bm 6 j j (λac=>?_) (λac=>?_)
  .have aH:J<i:=by have:=dj ac;omega
   have H:J<L.length:=by omega
   have N:=oi A (b.holds (G:=ag) (by simp));refine aq 7 j (fz j j j j N (v:=ad L[J].k) (h7 (f:=bH.cs) (J:=0) L (nw L) J H (by decide) j) H (λaO aj a6=>?_));refine bN 0 (U:=L[J].cs) j j j (iY (f:=bH.cs) (aj▸N) (nw L) J H) ?_;refine bh 0 (Aa (k:=L[J].k) (p:=L[J].p) (e:=L[J].e) (t:=L[J].t)) j (λr w⟨aw,F,l,S,aa⟩=>?_);subst l;have S:dt aw L[J].az F:=S;obtain⟨bd,aP,O,_,_⟩:=Row.form S;subst O;have b:=b.aM aa;have b:C o [] [u,F,ag] w:=b.as;have b:C o [] ([u,F,ag]++[]) w:=b;have b:=b.drew;refine bw 6 j (λw=>∃ae,C o [] ([u,F,ag]++ae) w) ⟨_,b⟩ ?_;refine af 0 2 j ?_;refine aT 2 j (λw _=>gb (J:=i) j j E) ?_;refine aT 3 j (λw⟨_,h⟩=>c3 (U:=L[i].cs) j j j (flat_lit (f:=bH.cs) (oi A (h.holds (G:=ag) (by simp))) (nw L) i E)) ?_;refine af 4 2 j ?_;refine aT 6 j (λw _=>gb (J:=J) j j H) ?_;refine aT 7 j (λw⟨_,h⟩=>c3 (U:=L[J].cs) j j j (flat_lit (f:=bH.cs) (oi A (h.holds (G:=ag) (by simp))) (nw L) J H)) ?_;refine aT 8 j (λw _=>By j j (by kernel_rfl) (λw=>uU L[i] L[J] w)) ?_;refine af 9 1 j ?_;refine ef 73 j (λay=>?_) (λay=>?_)
   .refine af 10 1 j ?_;refine af 12 1 j ?_;refine aU 11 j ?_;refine bF j j j (AY (c:=aA) (xw Q (b.holds (G:=u) (by simp))) (by have:=x1 L[i];omega)) (λw aa=>?_);have b:=b.aM aa;have b:C o [] ([u,F,ag]++_) w:=b;refine ar ⟨⟨_,b⟩,?_⟩;refine aU 13 j ?_;refine bF j j j (AY (c:=aP) (xw S (b.holds (G:=F) (by simp))) (by have:=x1 L[J];omega)) (λw aa=>?_);have b:=b.aM aa;have b:C o [] ([u,F,ag]++_) w:=b;refine ar ⟨⟨_,b⟩,?_⟩;refine aT 14 j (λw _=>oy j j (by kernel_rfl) (λw=>qq _ _ (e7 _) (e7 _) 9998 w)) ?_;refine af 15 1 j ?_;refine bK ?_;refine bm 0 j j (λah=>?_) (λah=>?_)
    .refine ao 3 j j ?_;exact⟨j,b.bare⟩
    refine bq 3 j j j (cM J (by omega)) ?_;refine bP 1 j ?_
    exact⟨J+1,⟨j,j,j,j,aY⟩,⟨aH,λk h=>(oH k J).elim (au k) (λd=>by
     obtain rfl:k=J:=by omega
     rintro⟨x,y,n,P,_,he⟩;rw [cf E] at n;rw [cf H] at P;cases n;cases P;rw [he] at ah;simp at ah),b.as⟩,by omega⟩
   refine fH 6 [10,12,11,13,14,15] j ?_;refine bK ?_;refine bq 4 j j j (cM J (by omega)) ?_;refine bP 1 j ?_
   exact⟨J+1,⟨j,j,j,j,aY⟩,⟨aH,λk h=>(oH k J).elim (au k) (λd=>by
    obtain rfl:k=J:=by omega
    rintro⟨x,y,n,P,a8,_⟩;rw [cf E] at n;rw [cf H] at P;cases n;cases P;simp [a8] at ay),b.as⟩,by omega⟩
  refine bq 3 j j j (cM i (by omega)) ?_;refine bP 1 j ?_;have a7:J=i:=by have:=dN ac;omega
  subst a7;exact⟨J+1,⟨j,j,aY⟩,⟨E,λK db h D=>(oH K J).elim (λd=>aI K db d D) (λd=>by obtain rfl:K=J:=(by omega);exact au db D),b.as⟩,by omega⟩
 refine ao 4 j j ?_;obtain⟨K,db,D,d⟩:=av;have bg:K<L.length:=by obtain⟨_,_,h,_⟩:=d;exact(eY.1 h).1
 exact absurd d (aI K db (by have:=dN Z;omega) D)
theorem FS{o:World}{nF fi:Bool}{A:Option Addr}{ls:List (eF×hP)}{c:Nat}(a8:Rd o A (ls.flatMap kT))(bn:∀e∈ls,h3 e.1 e.2 [] o):Calls prog 3 #[.bool nF,.bool fi,.slice A ls.length c] o λr w=>r= .bool true/\C o [] [] w:=by
 have d:Own [] o:=C.start o;refine a2 func3 ?_;refine bh 7 (FL (c:=c) (d.rd a8 (bX.of_nil _ _))) j (λr w⟨⟨b,m⟩,aa⟩=>?_);subst m;have d:=d.aM aa;refine bm 0 j j (λbc=>?_) (λbc=>?_)
 .refine ao 3 j j ?_;exact⟨j,d.bare⟩
 obtain⟨aR,a5⟩:∃aR,aR=if nF=true then 7 else 4:=⟨_,j⟩
 obtain⟨k,a4⟩:∃k,k=if fi=true then hE aR else 0:=⟨_,j⟩
 have bF:aR=4\/aR=7:=by rw [a5];split<;>simp
 have a3:k<=hE aR:=by rw [a4];split<;>omega
 have bt:k<=aR:=by have:=uY (n:=aR) (by omega);omega
 refine bh 5 (xo a5 a4) j (λr w⟨aQ,g,G,m,aB,bl,t,aa⟩=>?_);subst m;have d:C o [] [G,dR g] w:=(d.aM aa).as;have a0:g.n=aR:=by show g.keys.length=aR;rw [bl,Ho];omega
 have bk:2<=g.n:=by omega
 refine mm 8 j (λZ w=>sub Z [(7,ab aQ)]/\∃(z:aS)(G:List Chunk)(n:Nat),n<=120/\eR g aQ z G/\(∃H aP,eQ g (aR-k) H aP z/\gF aP z)/\z.ok g n/\en (aR-k) z/\C o [] [G,dR g] w) ?_ ?_
 .refine cH 4 j (ct:=Nat×aS×List Chunk) (λi=>[(2,.slice A ls.length c),(7,ab aQ),(8,.int .i64 (i.1:Nat))])
   (λi w=>i.1<=120/\eR g aQ i.2.1 i.2.2/\(∃H aP,eQ g (aR-k) H aP i.2.1/\gF aP i.2.1)/\i.2.1.ok g i.1/\en (aR-k) i.2.1/\C o [] [i.2.2,dR g] w) (λi=>120-i.1) (0,aS.new aR k,G) ⟨j,j,j,aY⟩ ⟨b6 _,t,⟨[],[],aS.vI a0 a3 (by omega)⟩,aS.lf a0 a3 (by omega),en.new bt,d⟩ ?_
  rintro⟨i,z,G⟩ w ⟨aj,t,a1,K,Q,d⟩;dsimp only at aj t a1 K Q d⊢;refine aq 8 j (cQ 27 j (λaE=>?_) (λaE=>?_))
  .refine bm 3 j j (λaF=>?_) (λaF=>?_)
   .have I:i<ls.length:=by have:=dj aE;omega
    have bD:i<120:=by have:=dj aF;omega
    have ak:=d.rd a8 (bX.of_nil _ _);refine aq 7 j (fz j j j j ak (v:=ad ls[i].1.k) (h7 (f:=kT) (J:=0) ls (s7 ls) i I (by decide) j) I (λbb av bB=>?_));have ak:Rd w (some bb) (ls.flatMap kT):=av▸ak;refine bN 0 (U:=kT ls[i]) j j j (iY ak (s7 ls) i I) ?_;have bi:=DY (s:=ls[i].1) (a:=ls[i].2) t (((bn _ (et I)).apart d).sub (fI (by simp))) K.F (by omega) (by omega) (by omega) (by omega) (am.CP d (by simp)) aB (am.Gj d (by simp)) d.j7;refine bh 0 bi j (λr w⟨_,ai,aX,aa⟩=>?_);have d:C o [] [ai,dR g] w:=d.iu aa;obtain⟨H,aP,a1,av⟩:=a1;have aW:=en.bY a1.aJ a1.br (by omega) a1.sk (λJ x L=>(K.iz J x L).2) Q ls[i].1;obtain⟨H1,ba,aU,aN,_⟩:=a1.bY aB bk av ls[i].1;have a6:=K.bY aB ls[i].1;generalize (z.bY g ls[i].1).1=bv at aX aU aN a6 aW;refine bq 2 j j j (cM i (by omega)) ?_;refine bP 1 j ?_;exact⟨(i+1,bv,ai),⟨j,j,j,aY⟩,⟨by dsimp only;omega,aX,⟨H1,ba,aU,aN⟩,a6,aW,d⟩,by dsimp only;omega⟩
   refine bP 1 j ?_;exact⟨⟨j,aY⟩,z,G,i,aj,t,a1,K,Q,d⟩
  refine bP 5 j ?_;exact⟨⟨j,aY⟩,z,G,i,aj,t,a1,K,Q,d⟩
 rintro Z w ⟨aL,z,G,n,bE,t,_,K,Q,d⟩
 have aD:Small z:=λa x L=>by
  have u:=(K.iz a x (aS.Hm L)).1;have l:=u.c.marks;have X:=u.dr;have bz:=u.s.log;omega
 refine l4 [(7,ab aQ)] aL ?_;refine cH 5 j (ct:=Nat) (λq=>[(7,ab aQ),(9,.int .i64 (q:Nat))]) (λq w=>q<=4/\C o [] [G,dR g] w) (λq=>4-q) 0 ⟨j,j,aY⟩ ⟨b6 _,d⟩ ?_;rintro p w ⟨bG,d⟩;refine bm 5 j j (λW=>?_) (λW=>?_)
 .have bI:p<z.parts.length:=by have:=dj W;rw [K.parts];omega
  refine bh 7 (partAt (i:=(p:Int)) t (d.holds (G:=G) (by simp)) ⟨by omega,by omega⟩) j (λr D⟨bg,b,a7,m,bu,bd,be,V⟩=>?_);subst m;subst D;have aZ:b∈z.parts:=hk bu;have bA:=(K.jq b aZ).acc;refine bh 0 (Cc bd be (by omega)) j (λr w⟨M,Y,aa⟩=>?_);obtain⟨al,dI,aC,_,bC⟩:=Row.form Y;subst aC;have d:C o [] [M,G,dR g] w:=d.aM aa;refine cH 5 j (ct:=Nat) (λq=>[(7,ab aQ),(9,.int .i64 (p:Nat)),(10,.slice al b.acc.length dI),(11,.int .i64 (q:Nat))]) (λq w=>q<=b.acc.length/\C o [] [M,G,dR g] w) (λq=>b.acc.length-q) 0 ⟨j,j,j,j,aY⟩ ⟨b6 _,d⟩ ?_;rintro i w ⟨aj,d⟩;refine bm 7 j j (λaG=>?_) (λaG=>?_)
  .have I:i<b.acc.length:=by have:=dj aG;omega
   refine cH 11 j (ct:=Nat×Bool) (λq=>[(7,ab aQ),(9,.int .i64 (p:Nat)),(10,.slice al b.acc.length dI),(11,.int .i64 (i:Nat)),(12,.bool q.2),(13,.int .i64 (q.1:Nat))]) (λq w=>q.1<=7/\(q.2=true↔∃a,a<q.1/\b.acc[i]∈iw z a)/\C o [] [M,G,dR g] w) (λq=>7-q.1) (0,false) ⟨j,j,j,j,j,j,aY⟩ ⟨b6 _,⟨λh=>(by cases h),λ⟨a,h,_⟩=>absurd h (Nat.not_lt_zero _)⟩,d⟩ ?_;rintro⟨a,fd⟩ w ⟨az,ac,d⟩;dsimp only at az ac d⊢;refine aq 6 j (cQ 55 j (λP=>?_) (λP=>?_));refine bm 3 j j (λaI=>?_) (λaI=>?_)
   .refine bo 8 (n8 (i:=((a:Nat):Int)) t (d.holds (G:=G) (by simp))) j (λD V=>?_);subst D;refine aq 2 j (cQ 65 j (λap=>?_) (λap=>?_))
    .refine bq 10 j j j (cM a (by omega)) ?_;refine bP 1 j ?_
     exact⟨(a+1,fd),⟨j,j,j,j,j,j,aY⟩,⟨by have:=dj P;dsimp only;omega,by
      dsimp only;rw [ac];constructor
      ·rintro⟨N,u,l⟩;exact⟨N,by omega,l⟩
      ·rintro⟨N,u,l⟩;by_cases he:N=a
       ·subst he;rw [xH (by simpa using ap)] at l;cases l
       ·exact⟨N,by omega,l⟩,d⟩,by have:=dj P;dsimp only;omega⟩
    obtain⟨x,L⟩:∃x,z.rep ((a:Nat):Int)=some x:=gX.1 (by simpa using ap);refine bh 2 (qU (i:=((a:Nat):Int)) t (d.holds (G:=G) (by simp))) j (λr D⟨p,an,m,T,ax,V⟩=>?_);subst m;subst D;rw [L] at T
    obtain⟨E,rfl,ay⟩:∃E,p=some ⟨E,0,none⟩/\g8 g E x an:=by
     rcases T with⟨_,h,_⟩|⟨y,E,u,l,X⟩
     .cases h
     .cases l;exact⟨E,u,X⟩
    refine bh 0 (r2 ay ax) j (λr D⟨ej,d5,m,aV,aO,V⟩=>?_);subst m;subst D;refine bh 8 (qU (i:=((a:Nat):Int)) t (d.holds (G:=G) (by simp))) j (λr D⟨p,an,m,T,ax,V⟩=>?_);subst m;subst D;rw [L] at T
    obtain⟨E,rfl,ay⟩:∃E,p=some ⟨E,0,none⟩/\g8 g E x an:=by
     rcases T with⟨_,h,_⟩|⟨y,E,u,l,X⟩
     .cases h
     .cases l;exact⟨E,u,X⟩
    refine bh 0 (r2 ay ax) j (λr D⟨ej,d5,m,aV,aO,V⟩=>?_);subst m;subst D;refine bh 0 (y9 aV aO (by have:=aD a x L;omega)) j (λr w⟨S,aw,aa⟩=>?_);have bJ:=aD a x L;obtain⟨a9,co,aC,_,_⟩:=Row.form aw;subst aC;have d:C o [] [S,M,G,dR g] w:=d.aM aa;refine cH 5 j (ct:=Nat×Bool) (λq=>[(7,ab aQ),(9,.int .i64 (p:Nat)),(10,.slice al b.acc.length dI),(11,.int .i64 (i:Nat)),(12,.bool q.2),(13,.int .i64 (a:Nat)),(14,.slice a9 x.c.marks.length co),(15,.int .i64 (q.1:Nat))]) (λq w=>q.1<=x.c.marks.length/\(q.2=true↔fd=true\/b.acc[i]∈x.c.marks.take q.1)/\C o [] [S,M,G,dR g] w) (λq=>x.c.marks.length-q.1) (0,fd) ⟨j,j,j,j,j,j,j,j,aY⟩ ⟨b6 _,by simp,d⟩ ?_;rintro⟨B,f2⟩ w ⟨bs,O,d⟩;dsimp only at bs O d⊢;refine bm 7 j j (λar=>?_) (λar=>?_)
    .have R:B<x.c.marks.length:=by have:=dj ar;omega
     obtain⟨go,_,_,ah,_,_⟩:=Row.block aw (by omega);simp only [oS] at ah;obtain⟨ah,-,-⟩:=ah;subst ah;obtain⟨bx,_,_,ag,_,_⟩:=Row.block Y (by omega);simp only [oS] at ag;obtain⟨ag,-,-⟩:=ag;subst ag;have d:C o [] ([S,M]++[G,dR g]) _:=d;have d:=d.drew;refine bw 3 j (λw=>∃ae,C o [] ([S,M]++ae) w) ⟨_,d⟩ ?_;refine af 0 2 j ?_;refine ef 84 j (λau=>?_) (λau=>?_)
     .refine af 2 11 j ?_;refine bK ?_;refine bq 2 j j j (cM B (by omega)) ?_;refine bP 1 j ?_
      exact⟨(B+1,true),⟨j,j,j,j,j,j,j,j,aY⟩,⟨R,by
       dsimp only;have aA:f2=true:=au;rw [aA] at O;rw [fu R,dw];exact⟨λ_=>(O.1 j).imp id .inl,λ_=>rfl⟩,d.as⟩,by dsimp only;omega⟩
     refine af 2 2 j ?_;refine aT 4 j (λw _=>gb (J:=B) j j R) ?_;refine aT 5 j (λw⟨_,h⟩=>c3 (U:=x.c.marks[B].cs) j j j (flat_lit (f:=bH.cs) (oi aw (h.holds (G:=S) (by simp))) (nw _) B R)) ?_;refine af 6 2 j ?_;refine aT 8 j (λw _=>gb (J:=i) j j I) ?_;refine aT 9 j (λw⟨_,h⟩=>c3 (U:=b.acc[i].cs) j j j (flat_lit (f:=bH.cs) (oi Y (h.holds (G:=M) (by simp))) (nw _) i I)) ?_;refine aT 10 j (λw _=>oy j j (by kernel_rfl) (λw=>uU x.c.marks[B] b.acc[i] w)) ?_;refine af 11 2 j ?_;refine bK ?_;refine bq 2 j j j (cM B (by omega)) ?_;refine bP 1 j ?_
     exact⟨(B+1,decide (x.c.marks[B]=b.acc[i])),⟨j,j,j,j,j,j,j,j,aY⟩,⟨R,by
      dsimp only;have aA:f2=false:=au;rw [aA] at O;rw [fu R,dw,List.mem_singleton,decide_eq_true_eq];constructor
      ·intro h;exact .inr (.inr h.symm)
      ·rintro(h|h|h)
       ·exact absurd (O.2 (.inl h)) (by decide)
       ·exact absurd (O.2 (.inr h)) (by decide)
       ·exact h.symm,d.as⟩,by dsimp only;omega⟩
    refine bq 3 j j j (cM a (by omega)) ?_;refine bP 1 j ?_;have bp:B=x.c.marks.length:=by have:=dN ar;omega
    rw [bp,gu] at O
    exact⟨(a+1,f2),⟨j,j,j,j,j,j,aY⟩,⟨by have:=dj P;dsimp only;omega,by
     dsimp only;rw [O,ac];constructor
     ·rintro(⟨N,u,l⟩|h)
      ·exact⟨N,by omega,l⟩
      ·exact⟨a,by omega,by rw [r1 L];exact h⟩
     ·rintro⟨N,u,l⟩;by_cases he:N=a
      ·subst he;rw [r1 L] at l;exact .inr l
      ·exact .inl ⟨N,by omega,l⟩,d.as⟩,by have:=dj P;dsimp only;omega⟩
   refine i0 5 j j ((by simpa using aI)) ?_;rotate_left
   refine bm 9 j j (λaK=>?_) (λaK=>?_)
   .have bf:a=7:=by have:=dN P;omega
    subst bf;have bj:fd=false:=by simpa using aK
    refine bo 4 (IH t (d.holds (G:=G) (by simp)) Y (d.holds (G:=M) (by simp)) (by omega) aD (CT (h:=aR-k) (by omega) (et I) ((Q.parts b aZ).acc _ (et I)) (λa az h=>by have:=ac.2 ⟨a,az,h⟩;rw [bj] at this;cases this))) j (λw aa=>?_);have d:=d.aM aa;refine aq 1 j (bS 100 (.bool true) j (aH Value.bool (j)) ?_);refine bo 0 yT j (λw aa=>?_);have d:=d.aM aa;refine ao 2 j j ?_;exact⟨j,d.bare⟩
   rotate_left
   all_goals
    refine bq 3 j j j (cM i (by omega)) ?_;refine bP 1 j ?_;exact⟨i+1,⟨j,j,j,j,aY⟩,⟨I,d⟩,by omega⟩
  refine bq 3 j j j (cM p (by omega)) ?_;refine bP 1 j ?_;exact⟨p+1,⟨j,j,aY⟩,⟨by have:=dj W;omega,d.as⟩,by have:=dj W;omega⟩
 refine bo 3 yT j (λw aa=>?_);have d:=d.aM aa;refine ao 1 j j ?_;exact⟨j,d.bare⟩
theorem marks_law{o:World}{nF fi:Bool}{A:Option Addr}{ls:List (eF×hP)}{c:Nat}(b:Rd o A (ls.flatMap kT))(a:∀e∈ls,h3 e.1 e.2 [] o):Go.Calls prog 3 #[.bool nF,.bool fi,.slice A ls.length c] o (λe w=>∃r,e= .returned r/\r= .bool true/\∃ae,C o [] ae w):=
 (Calls.mono (FS b a) λ_ _ h=>⟨h.1,_,h.2⟩).plain
end Go.Proofs.YtdomoelfhjdioaaGreatDoor.R
namespace Go.Proofs.YtdomoelfhjdioaaGreatDoor.R
open Go.Proofs.Tryz Go Go.RowKit Go.ChangeShapes
section
variable {H:Type} {enc:TypeId×Value->H} {P:Program} {W:World} {t e q:TypeId} {fuel len cap:Nat} {a:Option Addr} {x:DataW H×List MemPlace}
theorem xd{k:IntKind}(o:P.underlying t=some (.slice e))(he:P.underlying e=some (.int k))(g:P.cellsOf e=1)
 (h:DataW.trod enc P W 0 (λ_=>true) true fuel t (Value.slice a len cap).cells.toList=some x):
 ∃cO:List Int,cO.length=len/\len<=cap/\cap<=maxLen/\Rd W a (cO.map (Value.int k))/\∀n∈cO,(Lit.int k n).wf=true:=by
 rcases open_ints o he g h with⟨b,_⟩|⟨y,l,c,ik,b,_,m,hm,q,_,h9,p⟩
 .simp [Value.cells] at b;obtain⟨rfl,rfl,rfl⟩:=b;exact⟨[],j,cD _,b6 _,Rd.nil _ _,by simp⟩
 .simp [Value.cells] at b;obtain⟨rfl,rfl,rfl⟩:=b;simp only [kn] at q;refine⟨ik.take len,by rw [hl];omega,m,hm,λi v d=>?_,λn aJ=>p n (m2 aJ)⟩;rw [List.map_take,jD] at d;split at d
  .rename_i r;refine⟨y,j,?_⟩;have f:i<ik.length:=by omega
   rw [h9 i f];rw [gN,cf f] at d;rw [iS,cf f];simpa using d
  .cases d
theorem Dh(cO:List Int)(h:∀n∈cO,(Lit.int .u8 n).wf=true):∃aD:List UInt8,aD.length=cO.length/\cO.map (Value.int .u8)=aG aD:=by
 induction cO with
 |nil=>exact⟨[],j,j⟩
 |cons n r c=>
  obtain⟨aD,a,b⟩:=c (λm hm=>h m (by simp [hm]));have aJ:=h n (by simp)
  have d:0<=n/\n<256:=by
   simp [Lit.wf,IntKind.min,IntKind.max,IntKind.bits,IntKind.signed] at aJ;omega
  refine⟨UInt8.ofNat n.toNat::aD,by simp [a],?_⟩;rw [jT,b];show Value.int .u8 n::aG aD=bv (UInt8.ofNat n.toNat)::aG aD
  congr 1
  unfold bv;rw [oY]
  congr 1
  omega
theorem CH(j:P.underlying t=some (.slice e))(he:P.underlying e=some (.int .u8))(i:P.cellsOf e=1)
 (h:DataW.trod enc P W 0 (λ_=>true) true fuel t (Value.slice a len cap).cells.toList=some x):
 ∃aD:List UInt8,aD.length=len/\len<=cap/\cap<=maxLen/\Rd W a (aG aD):=by
 obtain⟨cO,k,b,c,d,f⟩:=xd j he i h;obtain⟨aD,l,g⟩:=Dh cO f;exact⟨aD,by omega,b,c,g▸d⟩
end
end Go.Proofs.YtdomoelfhjdioaaGreatDoor.R
namespace Go.Proofs.YtdomoelfhjdioaaGreatDoor.R
open Go.Proofs.Tryz Go Go.RowKit Go.Proofs
open Go.WideShapes Go.ChangeShapes
section
variable {H:Type} {enc:TypeId×Value->H} {W:World} {fuel:Nat} {cs:List Value} {x:DataW H×List MemPlace}
theorem lH{cs c:List Value}{a b:Nat}(h:(cs.drop a).take b=c):cs.drop a=c++cs.drop (a+b):=by
 rw [<-h,<-rF,m5]
theorem xW{cs c:List Value}{a b:Nat}(h:(cs.drop a).take b=c)(d:cs.length=a+b):cs.drop a=c:=by
 rw [<-h,ir (by rw [iT];omega)]
theorem Do{base:Nat}{a:Addr}{n:Nat}{cs:List Value}(h:W.cells? base a n=some cs):∀J v,cs[J]? =some v->W.cell? (a.add J)=some v:=by
 unfold World.cells? at h;split at h
 .intro J v b;have hlen:=mapM_some_length h;have c:J<cs.length:=(eY.1 b).1;have d:J<n:=by simpa [hlen] using c
  have:=mapM_some_get h J J (by simp [d]);rw [b] at this;exact this
 .cases h
end
section
variable {H:Type} {enc:TypeId×Value->H} {W:World} {fuel:Nat} {cs:List Value} {x:DataW H×List MemPlace}
theorem xB(h:DataW.trod enc prog W 0 (λ_=>true) true fuel 28 cs=some x):∃(a:Option Addr)(aD:List UInt8)(c:Nat),cs=[.slice a aD.length c]/\aD.length<=c/\Rd W a (aG aD):=by
 obtain⟨a,len,cap,rfl⟩:∃a len cap,cs=[.slice a len cap]:=by
  rcases open_ints underlying28 underlying5 (by kernel_rfl) h with⟨b,_⟩|⟨y,l,c,ik,b,_⟩
  .exact⟨_,_,_,b⟩
  .exact⟨_,_,_,b⟩
 obtain⟨aD,rfl,d,_,e⟩:=CH underlying28 underlying5 (by kernel_rfl) (show DataW.trod enc prog W 0 (λ_=>true) true fuel 28 (Value.slice a len cap).cells.toList=some x from h);exact⟨a,aD,cap,j,d,e⟩
theorem Dn(h:DataW.trod enc prog W 0 (λ_=>true) true fuel 29 cs=some x):∃(a:Option Addr)(cO:List Int)(c:Nat),cs=[.slice a cO.length c]/\cO.length<=c/\c<=maxLen/\Rd W a (cO.map bL):=by
 obtain⟨a,len,cap,rfl⟩:∃a len cap,cs=[.slice a len cap]:=by
  rcases open_ints underlying29 underlying3 (by kernel_rfl) h with⟨b,_⟩|⟨y,l,c,ik,b,_⟩
  .exact⟨_,_,_,b⟩
  .exact⟨_,_,_,b⟩
 obtain⟨cO,rfl,d,e,f,_⟩:=xd underlying29 underlying3 (by kernel_rfl) (show DataW.trod enc prog W 0 (λ_=>true) true fuel 29 (Value.slice a len cap).cells.toList=some x from h);exact⟨a,cO,cap,j,d,e,f⟩
theorem GC(h:DataW.trod enc prog W 0 (λ_=>true) true fuel 31 cs=some x):∃(l:ew)(Y:Option Addr)(k4:Nat)(V:Option Addr)(dT:Nat),cs=gq l Y k4 V dT/\l.x.length<=k4/\Rd W Y (aG l.x)/\l.use.length<=dT/\dT<=maxLen/\Rd W V (l.use.map bL):=by
 obtain⟨xs,m,_,_,a,w,br⟩:=DataW.trod_struct underlying31 h;have a:cs.length=7:=a.trans (by kernel_rfl);have aX:prog.cellsOf 3=1:=by kernel_rfl
 have o:prog.cellsOf 28=1:=by kernel_rfl
 have n:prog.cellsOf 29=1:=by kernel_rfl
 match xs,w with
 |[E,F,G,H,I,J,K],_=>
  have b:DataW.trod enc prog W 0 (λ_=>true) true m 3 ((cs.drop 0).take (prog.cellsOf 3))=some E:=br 0 _ j;have c:DataW.trod enc prog W 0 (λ_=>true) true m 3 ((cs.drop 1).take (prog.cellsOf 3))=some F:=br 1 _ j;have d:DataW.trod enc prog W 0 (λ_=>true) true m 3 ((cs.drop 2).take (prog.cellsOf 3))=some G:=br 2 _ j;have e:DataW.trod enc prog W 0 (λ_=>true) true m 3 ((cs.drop 3).take (prog.cellsOf 3))=some H:=br 3 _ j;have f:DataW.trod enc prog W 0 (λ_=>true) true m 28 ((cs.drop 4).take (prog.cellsOf 28))=some I:=br 4 _ j;have g:DataW.trod enc prog W 0 (λ_=>true) true m 3 ((cs.drop 5).take (prog.cellsOf 3))=some J:=br 5 _ j;have i:DataW.trod enc prog W 0 (λ_=>true) true m 29 ((cs.drop 6).take (prog.cellsOf 29))=some K:=br 6 _ j;rw [aX] at b c d e g;rw [o] at f;rw [n] at i;obtain⟨y,p,_,_⟩:=m3 underlying3 b;obtain⟨ib,q,_,_⟩:=m3 underlying3 c;obtain⟨z,r,_,_⟩:=m3 underlying3 d;obtain⟨A,s,_,_⟩:=m3 underlying3 e;obtain⟨n5,u,_,_⟩:=m3 underlying3 g;obtain⟨Y,aD,k4,t,ay,aO⟩:=xB f;obtain⟨V,us,dT,v,B,C,D⟩:=Dn i;refine⟨⟨y,ib,z,A,aD,n5,us⟩,Y,k4,V,dT,?_,ay,aO,B,C,D⟩;have k:=lH p;rw [lH q,lH r,lH s,lH t,lH u,xW v a,List.drop_zero] at k;rw [k];rfl
theorem GD(h:DataW.trod enc prog W 0 (λ_=>true) true fuel 33 cs=some x):∃e:eF×hP,h3 e.1 e.2 [] W/\cs=kT e:=by
 obtain⟨xs,m,_,_,a,u,br⟩:=DataW.trod_struct underlying33 h;have a:cs.length=11:=a.trans (by kernel_rfl);have aX:prog.cellsOf 3=1:=by kernel_rfl
 have o:prog.cellsOf 28=1:=by kernel_rfl
 have n:prog.cellsOf 31=7:=by kernel_rfl
 match xs,u with
 |[B,C,D,E,F],_=>
  have b:DataW.trod enc prog W 0 (λ_=>true) true m 3 ((cs.drop 0).take (prog.cellsOf 3))=some B:=br 0 _ j;have c:DataW.trod enc prog W 0 (λ_=>true) true m 3 ((cs.drop 1).take (prog.cellsOf 3))=some C:=br 1 _ j;have d:DataW.trod enc prog W 0 (λ_=>true) true m 3 ((cs.drop 2).take (prog.cellsOf 3))=some D:=br 2 _ j;have f:DataW.trod enc prog W 0 (λ_=>true) true m 28 ((cs.drop 3).take (prog.cellsOf 28))=some E:=br 3 _ j;have g:DataW.trod enc prog W 0 (λ_=>true) true m 31 ((cs.drop 4).take (prog.cellsOf 31))=some F:=br 4 _ j;rw [aX] at b c d;rw [o] at f;rw [n] at g;obtain⟨z,p,_,_⟩:=m3 underlying3 b;obtain⟨ib,q,_,_⟩:=m3 underlying3 c;obtain⟨A,r,_,_⟩:=m3 underlying3 d;obtain⟨X,aD,bR,s,ay,aO⟩:=xB f;obtain⟨l,Y,k4,V,dT,t,dA,v,k,w,y⟩:=GC g;refine⟨(⟨z,ib,A,aD,l⟩,⟨X,bR,Y,k4,V,dT⟩),⟨aO,bX.of_nil _ _,ay,v,bX.of_nil _ _,dA,y,bX.of_nil _ _,k,eh k w⟩,?_⟩;have i:=lH p;rw [lH q,lH r,lH s,xW t a,List.drop_zero] at i;rw [i];rfl
theorem x0{α:Type}{f:α->List Value}{k:Nat}{Q:α->Prop}{a:Addr}(aa:∀y,(f y).length=k):∀n,(∀i,i<n->∃y,Q y/\∀J u,(f y)[J]? =some u->W.cell? ((a.add (i*k)).add J)=some u)->∃l:List α,l.length=n/\(∀y∈l,Q y)/\Rd W (some a) (l.flatMap f)
 |0,_=>⟨[],j,by simp,Rd.nil _ _⟩
 |n+1,each=>by
  obtain⟨l,b,h,m⟩:=x0 aa n (λi c=>each i (by omega));obtain⟨y,o,p⟩:=each n (by omega);have g:=pc l (λy _=>aa y);refine⟨l++[y],by simp [b],λz d=>(dw.1 d).elim (h z) (λd=>by obtain rfl:=List.mem_singleton.1 d;exact o),λi u hu=>⟨a,j,?_⟩⟩;rw [ma,List.flatMap_cons,List.flatMap_nil,List.append_nil] at hu;by_cases c:i<(l.flatMap f).length
  .rw [iC c] at hu;obtain⟨s,q,r⟩:=m i u hu;cases q;exact r
  .rw [jf (by omega),g,b] at hu;rw [g,b] at c;have e:=p _ _ hu;rw [Addr.add_add,show n*k+(i-n*k)=i by omega] at e;exact e
theorem arg_steps{a:Option Addr}{len cap:Nat}(h:DataW.trod enc prog W 0 (λ_=>true) true fuel 22 (Value.slice a len cap).cells.toList=some x):∃ls:List (eF×hP),ls.length=len/\Rd W a (ls.flatMap kT)/\∀e∈ls,h3 e.1 e.2 [] W:=by
 rcases DataW.trod_slice underlying22 h with⟨he,_⟩|⟨o,bW,s,elems,rest,n,_,he,_,_,t,_,hlen,m,_⟩
 .simp [Value.cells] at he;obtain⟨rfl,rfl,rfl⟩:=he;exact⟨[],j,Rd.nil _ _,by simp⟩
 .simp [Value.cells] at he;obtain⟨rfl,rfl,rfl⟩:=he;have q:prog.cellsOf 33=11:=by kernel_rfl
  rw [q] at m
  obtain⟨l,b,d,g⟩:=x0 (W:=W) (a:=o) (f:=kT) (k:=11) (Q:=λe:eF×hP=>h3 e.1 e.2 [] W) (λ_=>rfl) len (λi r=>by
   have b:=m i r;rw [cf (by omega),Option.bind_eq_some_iff] at b;obtain⟨c,d,g⟩:=b;obtain⟨e,p,rfl⟩:=GD g;exact⟨e,p,Do d⟩)
  exact⟨l,b,g,d⟩
end
end Go.Proofs.YtdomoelfhjdioaaGreatDoor.R
