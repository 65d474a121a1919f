/- Part 2 of the proof. -/
import Derived.Test.YtngjfjhomikplaaGreatDoorM1
set_option linter.unusedVariables false
set_option linter.unusedSimpArgs false
set_option linter.unusedSectionVars false
set_option maxRecDepth 20000
set_option maxHeartbeats 4000000
namespace Go.Proofs.YtngjfjhomikplaaGreatDoor.R
open Go.Proofs.Tryz Go Go.RowKit Go.Proofs
theorem C.jh{o w aK:World}{F:List Nat}{H A bb:List (List Chunk)}(h:C o F (H++A) w)(k:C w (av A) bb aK):C o F (H++bb) aK:=by
 have a:=C.r0 (H:=H) (A:=A) (L:=[]) (by simpa using h) k;simpa using a
theorem C.jj{o w:World}{F:List Nat}{ad:List (List Chunk)}{b:Nat}{I:Obj}(h:C o F ([(b,I)]::ad) w):b∉av ad:=λa=>by
 have:=h.nodup;rw [o9] at this;exact(iE.1 this).2.2 b (by simp [av]) b a j
theorem np{A B:List (List Chunk)}{b:Nat}:b∈av (A++B)↔b∈av A\/b∈av B:=by simp [av]
theorem fy{A:List Chunk}{B:List (List Chunk)}{b:Nat}(h:b∉av (A::B)):b∉av B:=λa=>h (by rw [o9];exact dv.2 (.inr a))
theorem AM:∀{pre l:List Int},pre.Nodup->(∀k∈pre,k∈l)->pre.length<=l.length
 |[],l,_,_=>b4 _
 |k::r,l,c,a=>by
  have aJ:=k6.1 c;have aa:k∈l:=a k (by simp);have:=AM (pre:=r) (l:=l.erase k) aJ.2 (λx b=>(List.mem_erase_of_ne (λe=>aJ.1 (by rw [<-e];exact b))).2 (a x (by simp [b])));rw [List.length_erase_of_mem aa] at this;have:=List.length_pos_of_mem aa;simp only [eu];omega
theorem sub_lt{pre l:List Int}{k:Int}(b:pre.Nodup)(c:∀k∈pre,k∈l)(aa:k∈l)(aJ:k∉pre):pre.length<l.length:=by
 have:=AM (pre:=k::pre) (l:=l) (k6.2 ⟨aJ,b⟩) (by intro x a;rcases g1.1 a with rfl|a<;>first|exact aa|exact c x a);simp only [eu] at this;omega
abbrev pc(m:List (Int×Value))(pre:List Int)(k:Int):Prop:=k∈m.map Prod.fst/\k∉pre/\pre.length<m.length
instance:MapsClone prog 269:=⟨_,func269,by kernel_rfl,by kernel_rfl,by kernel_rfl,by kernel_rfl⟩
theorem Du{o:World}{ah:Nat}{I:Obj}{m:List (Int×Value)}(hm:cg bN I m)(c:o.heap[ah]? =some I):Calls prog 233 #[.map (some ah)] o λr w=>∃b,r= .map (some b)/\C o [] [[(b,I)]] w:=by
 have a:Own [] o:=C.start o;refine a2 func233 (am 7 j (pN j j j j ?_));refine am 5 j (pP (by intro ms h;cases h) j j j ?_);exact pQ hm c a j j j (λb w a=>pK (by intro ms h;cases h) j j j (aq 1 j j ⟨b,j,a⟩))
theorem E9{o:World}{ah:Nat}:Calls prog 235 #[.map (some ah)] o λr w=>∃b,r= .func (.func 271) #[] #[ab b]/\C o [] [R b #[.map (some ah)] 245] w:=by
 have a:Own [] o:=C.start o;refine a2 func235 (bL 2 a j j (λaz w a=>am 3 j (gZ j j j j ?_)));exact aq 1 j j ⟨az,j,a⟩
theorem E5{az ah:Nat}{I:Obj}{m:List (Int×Value)}(hm:cg bN I m):Iter prog 271 #[ab az] [R az #[.map (some ah)] 245,[(ah,I)]] (λ_ _=>True) (λ_=>True) (λk:Int=> #[bN k]) (pc m) (λxs=>xs.Perm (m.map Prod.fst)):=by
 intro l X ae ad o d f _ _ E Z U;show Calls _ _ #[fL l,ab az] o _;obtain⟨q,B⟩:∃q,q=av ([[(az,Obj.cells #[.map (some ah)] 245 (0,0))],[(ah,I)]]++ad):=⟨_,j⟩;have d:C o q (R az #[.map (some ah)] 245::[(ah,I)]::ad) o:=B▸d;rw [<-B];have Q:(m.map Prod.fst).Nodup:=hm.nodup (P:=prog) (cZ:=3);refine a2 func271 (ar 2 j (ax (C.aj d) j) (pU hm (d.here (ah,I) (by simp)) (C.start _) j j j (λr it w s k=>?_)));have T:o.heap.size<=r:=by have K:=k.own r (by simp [av]);have Y:=d.size;simp at K;omega
 have f:=E _ _ _ _ [] f k.bare (by simp);have d:=d.aL k
 refine cJ 1 j (ct:=List Int×List (List Chunk)×Obj) (λi=>[(0,fL l),(1,ab az),(5,ab r)])
  (λi w=>mb bN ah I m i.1 i.2.2/\i.1.Nodup/\(∀k∈i.1,k∈m.map Prod.fst)/\X i.1 i.2.1 w/\C o q ([(r,i.2.2)]::R az #[.map (some ah)] 245::[(ah,I)]::i.2.1) w) (λi=>m.length-i.1.length) ([],ad,it) ⟨j,j,j,aX⟩ ⟨s,by simp,by simp,f,d⟩ ?_
 rintro⟨pre,ai,it⟩ w ⟨s,t,u,f,d⟩;dsimp only at s t u f d⊢;refine am 2 j (pT s (λa c h=>by cases h;rfl) (d.here (ah,I) (by simp)) d.j9 j j j (λL=>?_) (λk v A w M z F G=>?_))
 .exact aq 4 j j ⟨ai,d.drop,.inl ⟨pre,qV Q t u (λk aa=>by obtain⟨p,S,rfl⟩:=dV.1 aa;exact L p S),f⟩⟩
 have O:r∉av ai:=fy (fy d.jj);have f:=E _ _ _ _ [r] f G.bare (by intro b n;simp at n;subst n;exact⟨T,O⟩);have d:=d.iw G;refine am 7 j (pM F (λa c h=>by cases h;rfl) (d.here (ah,I) (by simp)) (C.f1 (C.f1 d)) j j j (λv2 ac=>?_));have y:k∈m.map Prod.fst:=dV.2 ⟨_,M,j⟩;have N:pre.length<m.length:=by have:=sub_lt t u y z;simpa using this
 have V:=U pre k ai _ ⟨y,z,N⟩ f (C.jp (H:=[[(r,A)],R az #[.map (some ah)] 245,[(ah,I)]]) d);refine am 6 j (jV j j j j V (λb w⟨aA,W,n⟩=>?_));have d:=C.jh (H:=[[(r,A)],R az #[.map (some ah)] 245,[(ah,I)]]) d W;refine bm 1 j j (λJ=>?_) (λJ=>?_)
 .refine aq 0 j j ?_;have x:b=false:=by cases b<;>simp_all
  subst x;exact⟨aA,d.drop,.inr (by simpa using n)⟩
 refine bI 1 j ?_;have x:b=true:=by cases b<;>simp_all
 subst x;refine⟨(pre++[k],aA,A),⟨j,j,j,aX⟩,⟨F,?_,?_,by simpa using n,d⟩,by dsimp only;simp only [List.length_append,List.length_cons,List.length_nil];omega⟩
 .exact iE.2 ⟨t,by simp,by intro a g c D;simp at D;subst D;exact λe=>z (e▸g)⟩
 intro a g;rcases dv.1 g with g|g
 .exact u a g
 simp at g;subst g;exact y
theorem Dv{o:World}{ah:Nat}{I:Obj}{m:List (Int×Value)}(hm:cg bN I m)(c:o.heap[ah]? =some I):Calls prog 260 #[.map (some ah)] o λr w=>∃b,r= .map (some b)/\C o [] [[(b,I)]] w:=by
 have a:Own [] o:=C.start o;refine a2 func260 (am 7 j (pN j j j j ?_));refine am 5 j (pP (by intro ms h;cases h) j j j ?_);exact pQ hm c a j j j (λb w a=>pK (by intro ms h;cases h) j j j (aq 1 j j ⟨b,j,a⟩))
theorem Fa{o:World}{ah:Nat}:Calls prog 261 #[.map (some ah)] o λr w=>∃b,r= .func (.func 290) #[] #[ab b]/\C o [] [R b #[.map (some ah)] 275] w:=by
 have a:Own [] o:=C.start o;refine a2 func261 (bL 2 a j j (λaz w a=>am 3 j (gZ j j j j ?_)));exact aq 1 j j ⟨az,j,a⟩
theorem E6{az ah:Nat}{I:Obj}{m:List (Int×Value)}(hm:cg bN I m):Iter prog 290 #[ab az] [R az #[.map (some ah)] 275,[(ah,I)]] (λ_ _=>True) (λ_=>True) (λk:Int=> #[bN k]) (pc m) (λxs=>xs.Perm (m.map Prod.fst)):=by
 intro l X ae ad o d f _ _ E Z U;show Calls _ _ #[fL l,ab az] o _;obtain⟨q,B⟩:∃q,q=av ([[(az,Obj.cells #[.map (some ah)] 275 (0,0))],[(ah,I)]]++ad):=⟨_,j⟩;have d:C o q (R az #[.map (some ah)] 275::[(ah,I)]::ad) o:=B▸d;rw [<-B];have Q:(m.map Prod.fst).Nodup:=hm.nodup (P:=prog) (cZ:=3);refine a2 func290 (ar 2 j (ax (C.aj d) j) (pU hm (d.here (ah,I) (by simp)) (C.start _) j j j (λr it w s k=>?_)));have T:o.heap.size<=r:=by have K:=k.own r (by simp [av]);have Y:=d.size;simp at K;omega
 have f:=E _ _ _ _ [] f k.bare (by simp);have d:=d.aL k
 refine cJ 1 j (ct:=List Int×List (List Chunk)×Obj) (λi=>[(0,fL l),(1,ab az),(5,ab r)])
  (λi w=>mb bN ah I m i.1 i.2.2/\i.1.Nodup/\(∀k∈i.1,k∈m.map Prod.fst)/\X i.1 i.2.1 w/\C o q ([(r,i.2.2)]::R az #[.map (some ah)] 275::[(ah,I)]::i.2.1) w) (λi=>m.length-i.1.length) ([],ad,it) ⟨j,j,j,aX⟩ ⟨s,by simp,by simp,f,d⟩ ?_
 rintro⟨pre,ai,it⟩ w ⟨s,t,u,f,d⟩;dsimp only at s t u f d⊢;refine am 2 j (pT s (λa c h=>by cases h;rfl) (d.here (ah,I) (by simp)) d.j9 j j j (λL=>?_) (λk v A w M z F G=>?_))
 .exact aq 4 j j ⟨ai,d.drop,.inl ⟨pre,qV Q t u (λk aa=>by obtain⟨p,S,rfl⟩:=dV.1 aa;exact L p S),f⟩⟩
 have O:r∉av ai:=fy (fy d.jj);have f:=E _ _ _ _ [r] f G.bare (by intro b n;simp at n;subst n;exact⟨T,O⟩);have d:=d.iw G;refine am 7 j (pM F (λa c h=>by cases h;rfl) (d.here (ah,I) (by simp)) (C.f1 (C.f1 d)) j j j (λv2 ac=>?_));have y:k∈m.map Prod.fst:=dV.2 ⟨_,M,j⟩;have N:pre.length<m.length:=by have:=sub_lt t u y z;simpa using this
 have V:=U pre k ai _ ⟨y,z,N⟩ f (C.jp (H:=[[(r,A)],R az #[.map (some ah)] 275,[(ah,I)]]) d);refine am 6 j (jV j j j j V (λb w⟨aA,W,n⟩=>?_));have d:=C.jh (H:=[[(r,A)],R az #[.map (some ah)] 275,[(ah,I)]]) d W;refine bm 1 j j (λJ=>?_) (λJ=>?_)
 .refine aq 0 j j ?_;have x:b=false:=by cases b<;>simp_all
  subst x;exact⟨aA,d.drop,.inr (by simpa using n)⟩
 refine bI 1 j ?_;have x:b=true:=by cases b<;>simp_all
 subst x;refine⟨(pre++[k],aA,A),⟨j,j,j,aX⟩,⟨F,?_,?_,by simpa using n,d⟩,by dsimp only;simp only [List.length_append,List.length_cons,List.length_nil];omega⟩
 .exact iE.2 ⟨t,by simp,by intro a g c D;simp at D;subst D;exact λe=>z (e▸g)⟩
 intro a g;rcases dv.1 g with g|g
 .exact u a g
 simp at g;subst g;exact y
theorem Ds{o:World}{ah:Nat}{I:Obj}{m:List (Int×Value)}(hm:cg bN I m)(c:o.heap[ah]? =some I):Calls prog 301 #[.map (some ah)] o λr w=>∃b,r= .map (some b)/\C o [] [[(b,I)]] w:=by
 have a:Own [] o:=C.start o;refine a2 func301 (am 7 j (pN j j j j ?_));refine am 5 j (pP (by intro ms h;cases h) j j j ?_);exact pQ hm c a j j j (λb w a=>pK (by intro ms h;cases h) j j j (aq 1 j j ⟨b,j,a⟩))
theorem E7{o:World}{ah:Nat}:Calls prog 302 #[.map (some ah)] o λr w=>∃b,r= .func (.func 327) #[] #[ab b]/\C o [] [R b #[.map (some ah)] 294] w:=by
 have a:Own [] o:=C.start o;refine a2 func302 (bL 2 a j j (λaz w a=>am 3 j (gZ j j j j ?_)));exact aq 1 j j ⟨az,j,a⟩
theorem E3{az ah:Nat}{I:Obj}{m:List (Int×Value)}(hm:cg bN I m):Iter prog 327 #[ab az] [R az #[.map (some ah)] 294,[(ah,I)]] (λ_ _=>True) (λ_=>True) (λk:Int=> #[bN k]) (pc m) (λxs=>xs.Perm (m.map Prod.fst)):=by
 intro l X ae ad o d f _ _ E Z U;show Calls _ _ #[fL l,ab az] o _;obtain⟨q,B⟩:∃q,q=av ([[(az,Obj.cells #[.map (some ah)] 294 (0,0))],[(ah,I)]]++ad):=⟨_,j⟩;have d:C o q (R az #[.map (some ah)] 294::[(ah,I)]::ad) o:=B▸d;rw [<-B];have Q:(m.map Prod.fst).Nodup:=hm.nodup (P:=prog) (cZ:=3);refine a2 func327 (ar 2 j (ax (C.aj d) j) (pU hm (d.here (ah,I) (by simp)) (C.start _) j j j (λr it w s k=>?_)));have T:o.heap.size<=r:=by have K:=k.own r (by simp [av]);have Y:=d.size;simp at K;omega
 have f:=E _ _ _ _ [] f k.bare (by simp);have d:=d.aL k
 refine cJ 1 j (ct:=List Int×List (List Chunk)×Obj) (λi=>[(0,fL l),(1,ab az),(5,ab r)])
  (λi w=>mb bN ah I m i.1 i.2.2/\i.1.Nodup/\(∀k∈i.1,k∈m.map Prod.fst)/\X i.1 i.2.1 w/\C o q ([(r,i.2.2)]::R az #[.map (some ah)] 294::[(ah,I)]::i.2.1) w) (λi=>m.length-i.1.length) ([],ad,it) ⟨j,j,j,aX⟩ ⟨s,by simp,by simp,f,d⟩ ?_
 rintro⟨pre,ai,it⟩ w ⟨s,t,u,f,d⟩;dsimp only at s t u f d⊢;refine am 2 j (pT s (λa c h=>by cases h;rfl) (d.here (ah,I) (by simp)) d.j9 j j j (λL=>?_) (λk v A w M z F G=>?_))
 .exact aq 4 j j ⟨ai,d.drop,.inl ⟨pre,qV Q t u (λk aa=>by obtain⟨p,S,rfl⟩:=dV.1 aa;exact L p S),f⟩⟩
 have O:r∉av ai:=fy (fy d.jj);have f:=E _ _ _ _ [r] f G.bare (by intro b n;simp at n;subst n;exact⟨T,O⟩);have d:=d.iw G;refine am 7 j (pM F (λa c h=>by cases h;rfl) (d.here (ah,I) (by simp)) (C.f1 (C.f1 d)) j j j (λv2 ac=>?_));have y:k∈m.map Prod.fst:=dV.2 ⟨_,M,j⟩;have N:pre.length<m.length:=by have:=sub_lt t u y z;simpa using this
 have V:=U pre k ai _ ⟨y,z,N⟩ f (C.jp (H:=[[(r,A)],R az #[.map (some ah)] 294,[(ah,I)]]) d);refine am 6 j (jV j j j j V (λb w⟨aA,W,n⟩=>?_));have d:=C.jh (H:=[[(r,A)],R az #[.map (some ah)] 294,[(ah,I)]]) d W;refine bm 1 j j (λJ=>?_) (λJ=>?_)
 .refine aq 0 j j ?_;have x:b=false:=by cases b<;>simp_all
  subst x;exact⟨aA,d.drop,.inr (by simpa using n)⟩
 refine bI 1 j ?_;have x:b=true:=by cases b<;>simp_all
 subst x;refine⟨(pre++[k],aA,A),⟨j,j,j,aX⟩,⟨F,?_,?_,by simpa using n,d⟩,by dsimp only;simp only [List.length_append,List.length_cons,List.length_nil];omega⟩
 .exact iE.2 ⟨t,by simp,by intro a g c D;simp at D;subst D;exact λe=>z (e▸g)⟩
 intro a g;rcases dv.1 g with g|g
 .exact u a g
 simp at g;subst g;exact y
theorem Dr{o:World}{ah:Nat}{I:Obj}{m:List (Int×Value)}(hm:cg bN I m)(c:o.heap[ah]? =some I):Calls prog 330 #[.map (some ah)] o λr w=>∃b,r= .map (some b)/\C o [] [[(b,I)]] w:=by
 have a:Own [] o:=C.start o;refine a2 func330 (am 7 j (pN j j j j ?_));refine am 5 j (pP (by intro ms h;cases h) j j j ?_);exact pQ hm c a j j j (λb w a=>pK (by intro ms h;cases h) j j j (aq 1 j j ⟨b,j,a⟩))
theorem E1{o:World}{ah:Nat}:Calls prog 331 #[.map (some ah)] o λr w=>∃b,r= .func (.func 345) #[] #[ab b]/\C o [] [R b #[.map (some ah)] 334] w:=by
 have a:Own [] o:=C.start o;refine a2 func331 (bL 2 a j j (λaz w a=>am 3 j (gZ j j j j ?_)));exact aq 1 j j ⟨az,j,a⟩
theorem E2{az ah:Nat}{I:Obj}{m:List (Int×Value)}(hm:cg bN I m):Iter prog 345 #[ab az] [R az #[.map (some ah)] 334,[(ah,I)]] (λ_ _=>True) (λ_=>True) (λk:Int=> #[bN k]) (pc m) (λxs=>xs.Perm (m.map Prod.fst)):=by
 intro l X ae ad o d f _ _ E Z U;show Calls _ _ #[fL l,ab az] o _;obtain⟨q,B⟩:∃q,q=av ([[(az,Obj.cells #[.map (some ah)] 334 (0,0))],[(ah,I)]]++ad):=⟨_,j⟩;have d:C o q (R az #[.map (some ah)] 334::[(ah,I)]::ad) o:=B▸d;rw [<-B];have Q:(m.map Prod.fst).Nodup:=hm.nodup (P:=prog) (cZ:=3);refine a2 func345 (ar 2 j (ax (C.aj d) j) (pU hm (d.here (ah,I) (by simp)) (C.start _) j j j (λr it w s k=>?_)));have T:o.heap.size<=r:=by have K:=k.own r (by simp [av]);have Y:=d.size;simp at K;omega
 have f:=E _ _ _ _ [] f k.bare (by simp);have d:=d.aL k
 refine cJ 1 j (ct:=List Int×List (List Chunk)×Obj) (λi=>[(0,fL l),(1,ab az),(5,ab r)])
  (λi w=>mb bN ah I m i.1 i.2.2/\i.1.Nodup/\(∀k∈i.1,k∈m.map Prod.fst)/\X i.1 i.2.1 w/\C o q ([(r,i.2.2)]::R az #[.map (some ah)] 334::[(ah,I)]::i.2.1) w) (λi=>m.length-i.1.length) ([],ad,it) ⟨j,j,j,aX⟩ ⟨s,by simp,by simp,f,d⟩ ?_
 rintro⟨pre,ai,it⟩ w ⟨s,t,u,f,d⟩;dsimp only at s t u f d⊢;refine am 2 j (pT s (λa c h=>by cases h;rfl) (d.here (ah,I) (by simp)) d.j9 j j j (λL=>?_) (λk v A w M z F G=>?_))
 .exact aq 4 j j ⟨ai,d.drop,.inl ⟨pre,qV Q t u (λk aa=>by obtain⟨p,S,rfl⟩:=dV.1 aa;exact L p S),f⟩⟩
 have O:r∉av ai:=fy (fy d.jj);have f:=E _ _ _ _ [r] f G.bare (by intro b n;simp at n;subst n;exact⟨T,O⟩);have d:=d.iw G;refine am 7 j (pM F (λa c h=>by cases h;rfl) (d.here (ah,I) (by simp)) (C.f1 (C.f1 d)) j j j (λv2 ac=>?_));have y:k∈m.map Prod.fst:=dV.2 ⟨_,M,j⟩;have N:pre.length<m.length:=by have:=sub_lt t u y z;simpa using this
 have V:=U pre k ai _ ⟨y,z,N⟩ f (C.jp (H:=[[(r,A)],R az #[.map (some ah)] 334,[(ah,I)]]) d);refine am 6 j (jV j j j j V (λb w⟨aA,W,n⟩=>?_));have d:=C.jh (H:=[[(r,A)],R az #[.map (some ah)] 334,[(ah,I)]]) d W;refine bm 1 j j (λJ=>?_) (λJ=>?_)
 .refine aq 0 j j ?_;have x:b=false:=by cases b<;>simp_all
  subst x;exact⟨aA,d.drop,.inr (by simpa using n)⟩
 refine bI 1 j ?_;have x:b=true:=by cases b<;>simp_all
 subst x;refine⟨(pre++[k],aA,A),⟨j,j,j,aX⟩,⟨F,?_,?_,by simpa using n,d⟩,by dsimp only;simp only [List.length_append,List.length_cons,List.length_nil];omega⟩
 .exact iE.2 ⟨t,by simp,by intro a g c D;simp at D;subst D;exact λe=>z (e▸g)⟩
 intro a g;rcases dv.1 g with g|g
 .exact u a g
 simp at g;subst g;exact y
theorem Dt{o:World}{ah:Nat}{I:Obj}{m:List (Int×Value)}(hm:cg bN I m)(c:o.heap[ah]? =some I):Calls prog 336 #[.map (some ah)] o λr w=>∃b,r= .map (some b)/\C o [] [[(b,I)]] w:=by
 have a:Own [] o:=C.start o;refine a2 func336 (am 7 j (pN j j j j ?_));refine am 5 j (pP (by intro ms h;cases h) j j j ?_);exact pQ hm c a j j j (λb w a=>pK (by intro ms h;cases h) j j j (aq 1 j j ⟨b,j,a⟩))
theorem E8{o:World}{ah:Nat}:Calls prog 337 #[.map (some ah)] o λr w=>∃b,r= .func (.func 348) #[] #[ab b]/\C o [] [R b #[.map (some ah)] 297] w:=by
 have a:Own [] o:=C.start o;refine a2 func337 (bL 2 a j j (λaz w a=>am 3 j (gZ j j j j ?_)));exact aq 1 j j ⟨az,j,a⟩
theorem E4{az ah:Nat}{I:Obj}{m:List (Int×Value)}(hm:cg bN I m):Iter prog 348 #[ab az] [R az #[.map (some ah)] 297,[(ah,I)]] (λ_ _=>True) (λ_=>True) (λk:Int=> #[bN k]) (pc m) (λxs=>xs.Perm (m.map Prod.fst)):=by
 intro l X ae ad o d f _ _ E Z U;show Calls _ _ #[fL l,ab az] o _;obtain⟨q,B⟩:∃q,q=av ([[(az,Obj.cells #[.map (some ah)] 297 (0,0))],[(ah,I)]]++ad):=⟨_,j⟩;have d:C o q (R az #[.map (some ah)] 297::[(ah,I)]::ad) o:=B▸d;rw [<-B];have Q:(m.map Prod.fst).Nodup:=hm.nodup (P:=prog) (cZ:=3);refine a2 func348 (ar 2 j (ax (C.aj d) j) (pU hm (d.here (ah,I) (by simp)) (C.start _) j j j (λr it w s k=>?_)));have T:o.heap.size<=r:=by have K:=k.own r (by simp [av]);have Y:=d.size;simp at K;omega
 have f:=E _ _ _ _ [] f k.bare (by simp);have d:=d.aL k
 refine cJ 1 j (ct:=List Int×List (List Chunk)×Obj) (λi=>[(0,fL l),(1,ab az),(5,ab r)])
  (λi w=>mb bN ah I m i.1 i.2.2/\i.1.Nodup/\(∀k∈i.1,k∈m.map Prod.fst)/\X i.1 i.2.1 w/\C o q ([(r,i.2.2)]::R az #[.map (some ah)] 297::[(ah,I)]::i.2.1) w) (λi=>m.length-i.1.length) ([],ad,it) ⟨j,j,j,aX⟩ ⟨s,by simp,by simp,f,d⟩ ?_
 rintro⟨pre,ai,it⟩ w ⟨s,t,u,f,d⟩;dsimp only at s t u f d⊢;refine am 2 j (pT s (λa c h=>by cases h;rfl) (d.here (ah,I) (by simp)) d.j9 j j j (λL=>?_) (λk v A w M z F G=>?_))
 .exact aq 4 j j ⟨ai,d.drop,.inl ⟨pre,qV Q t u (λk aa=>by obtain⟨p,S,rfl⟩:=dV.1 aa;exact L p S),f⟩⟩
 have O:r∉av ai:=fy (fy d.jj);have f:=E _ _ _ _ [r] f G.bare (by intro b n;simp at n;subst n;exact⟨T,O⟩);have d:=d.iw G;refine am 7 j (pM F (λa c h=>by cases h;rfl) (d.here (ah,I) (by simp)) (C.f1 (C.f1 d)) j j j (λv2 ac=>?_));have y:k∈m.map Prod.fst:=dV.2 ⟨_,M,j⟩;have N:pre.length<m.length:=by have:=sub_lt t u y z;simpa using this
 have V:=U pre k ai _ ⟨y,z,N⟩ f (C.jp (H:=[[(r,A)],R az #[.map (some ah)] 297,[(ah,I)]]) d);refine am 6 j (jV j j j j V (λb w⟨aA,W,n⟩=>?_));have d:=C.jh (H:=[[(r,A)],R az #[.map (some ah)] 297,[(ah,I)]]) d W;refine bm 1 j j (λJ=>?_) (λJ=>?_)
 .refine aq 0 j j ?_;have x:b=false:=by cases b<;>simp_all
  subst x;exact⟨aA,d.drop,.inr (by simpa using n)⟩
 refine bI 1 j ?_;have x:b=true:=by cases b<;>simp_all
 subst x;refine⟨(pre++[k],aA,A),⟨j,j,j,aX⟩,⟨F,?_,?_,by simpa using n,d⟩,by dsimp only;simp only [List.length_append,List.length_cons,List.length_nil];omega⟩
 .exact iE.2 ⟨t,by simp,by intro a g c D;simp at D;subst D;exact λe=>z (e▸g)⟩
 intro a g;rcases dv.1 g with g|g
 .exact u a g
 simp at g;subst g;exact y
end Go.Proofs.YtngjfjhomikplaaGreatDoor.R
namespace Go.Proofs.YtngjfjhomikplaaGreatDoor.R
open Go.Proofs.Tryz Go Go.RowKit Go.Proofs
open Go.Sort
abbrev jQ(io:List Int):List Int:=io.mergeSort λx y=>decide (x<=y)
theorem E0{w:World}{g n:Nat}{os:Array Obj}{cur:Array Value}{e:TypeId}{a:Nat×Nat}(d:Array Int)(b:w.heap[g]? =some (.cells cur e a)):cV w (grow (putRow (Value.int .i64) (Sort.ahead w n) g 0 d) os):=
 cV.grown b λk aa c=>(grownBy_sortedI (w:=w) (n:=n) (os:=os) (g:=g) d).block k aa (by simpa using λh=>c h)
theorem AF{o:World}{v:Value}{io:List Int}{ag:List Chunk}(a:Own [ag] o)(k:Row 3 1 v io.length (io.map bN) ag)(t:io.length<=1000000000):Calls prog 264 #[v] o λr w=>r= .tuple #[]/\∃f,Row 3 1 v io.length ((jQ io).map bN) f/\C o (av [ag]) [f] w:=by
 obtain⟨s,h⟩:=k;rcases h with⟨rfl,aJ,rfl⟩|⟨g,cap,cur,rfl,rfl,l,hm,m,p⟩
 .have q:io=[]:=mf aJ;subst q;have d:=AnyM.slices_Sort_int_none sm none 0 o;refine lJ (callsIn_wide.2 d) λe aK⟨he,hw⟩=>?_
  subst hw;exact⟨cV.refl _,_,he,j,[],⟨by simp,.inl ⟨j,j,j⟩⟩,a⟩
 .have b:=a.first;have i:Holds (Value.int .i64) o g 0 io.toArray:=holds_of_blockI b (by simpa using p);have d:=AnyM.slices_Sort_int sm g 0 cap io o i (a.oW (c:=(g,.cells cur 3 (0,0))) (by simp)) (by omega);refine lJ (callsIn_wide.2 d) λe aK⟨he,n,os,hw⟩=>?_
  subst hw;have hlen:(jQ io).length=io.length:=hQ _;refine⟨E0 _ b,_,he,j,R g (putCells (Value.int .i64) 0 (jQ io).toArray cur) 3,⟨by simp [hlen],.inr ⟨g,cap,_,j,j,l,hm,by simpa [putCells] using m,?_⟩⟩,?_⟩
  .have:=take_putCellsI cur (jQ io) (by omega);rw [hlen] at this;simpa using this
  .exact a.grown (grownBy_sortedI _) (heap_sortedI _ b)
end Go.Proofs.YtngjfjhomikplaaGreatDoor.R
namespace Go.Proofs.YtngjfjhomikplaaGreatDoor.R
open Go.Proofs.Tryz Go Go.RowKit Go.Proofs
theorem HO{xs da:List Int}(h:xs.Perm da):jQ xs=jQ da:=by
 have le:∀a b:Int,decide (a<=b)=true↔a<=b:=λa b=>decide_eq_true_iff
 have d:=tX (le:=λx y:Int=>decide (x<=y)) (by intro a b c;simp only [le];omega) (by intro a b;simp only [m7,le];omega) xs;have e:=tX (le:=λx y:Int=>decide (x<=y)) (by intro a b c;simp only [le];omega) (by intro a b;simp only [m7,le];omega) da;exact List.Perm.eq_of_pairwise (λa b _ _ d e=>by simp only [le] at d e;omega) d e (((oJ xs _).trans h).trans (oJ da _).symm)
abbrev dn(m:List (Int×Value)):List (Int×Value):=m.mergeSort λa b=>decide (a.1<=b.1)
theorem rb(m:List (Int×Value)):(dn m).map Prod.fst=jQ (m.map Prod.fst):=tY (λ_ _ _ _=>rfl)
theorem iB(m:List (Int×Value)):(dn m).length=m.length:=hQ _
theorem oj{m:List (Int×Value)}{q:Int×Value}:q∈dn m↔q∈m:=g0
theorem nu:∀{m:List (Int×Value)}{q:Int×Value},(m.map Prod.fst).Nodup->q∈m->aZ m q.1=some q.2
 |(J,v)::r,q,aJ,a=>by
  have b:=k6.1 (by simpa using aJ:(J::r.map Prod.fst).Nodup);rcases g1.1 a with rfl|a
  .simp [aZ]
  .have:J≠q.1:=λe=>b.1 (by rw [e];exact dV.2 ⟨q,a,j⟩)
   simp only [aZ,this,lI];exact nu b.2 a
theorem ra{α:Type}{l:List α}{i:Nat}(h:i<l.length):l.take (i+1)=l.take i++[l[i]]:=by rw [List.take_add_one];simp [h]
theorem q8{α:Type}{l:List α}{i:Nat}(h:i<l.length):∃r,l=l.take i++l[i]::r:=⟨l.drop (i+1),by rw [<-kp h,m6]⟩
abbrev px(m:List (Int×Value))(pre:List (Int×Value))(q:Int×Value):Prop:=∃r,dn m=pre++q::r
theorem Cz{c:FuncId}{be:Array Value}[Entry prog c]{H:List (List Chunk)}{A:List Int->Int->Prop}{S:List Int->Prop}{o:World}(s:Iter prog c be H (λ_ _=>True) (λ_=>True) (λk:Int=> #[bN k]) A S)(i:∀pre x,A pre x->pre.length<1000000)(b:Own H o):Calls prog 299 #[.slice none 0 0,.func (.func c) #[] be] o λr w=>∃xs ag,S xs/\Row 3 1 r xs.length (xs.map bN) ag/\C o (av H) (H++[ag]) w:=by
 refine j2 func299 ?_;refine bL 2 b j j (λaO w b=>?_);have b:C o (av H) (H++[R aO #[.slice none 0 0] 29,[]]) w:=(b.empty.f1).swap (A:=[_,_])
 refine j6 6 j s j (by have:=b.size;simpa using this) b j (λ_=>rfl) (by intro p f;simp at f;subst f;rfl)
  (λpre ad=>∃v ag,ad=[R aO #[v] 29,ag]/\Row 3 1 v pre.length (pre.map bN) ag) (λ_ _=>False) ⟨_,_,j,Row.nil 3 1⟩ (λ_ _ _=>trivial) (λ_ _ _ _=>trivial) ?_ ?_ (λ_ _ h=>h.elim) (λ_ _ _ h=>h.elim)
 .rintro l pre x u L B m ⟨v,ag,rfl,d⟩ b;have hlen:=i pre x m;refine bD 2 j ?_;refine⟨j,_,C.gy b,λL w b=>?_⟩;have b:=C.gy b;refine ar 2 j (ax (C.aj b) j) ?_;refine am 1 j (eC b j j j j j j bG (λz w b=>?_));have aJ:=b.bz;refine dR b.f2 d j j (by decide) j j j (news:=[bN x]) j aJ (by simp [Value.oneCell']) (by omega) (by unfold maxLen;omega) (λv1 g w e b=>?_);have b:=b.f2;refine cB b j j j e.one (by simp) (λw b=>?_);have b:C _ _ (R aO #[v1] 29::_) w:=b;refine bD 0 j ?_;refine⟨_,b.kM,v1,g,j,?_⟩;simpa using e
 rintro xs y w n ⟨v,ag,rfl,d⟩ b;have b:=b.swap;refine ar 2 j (ax (C.aj b) j) ?_;refine bD 1 j ⟨v,λw t=>?_⟩;have b:=t.st b (cI _);refine⟨λa q=>i8 (fn:=f299) q j _ _,?_⟩;exact⟨xs,ag,n,d,b.drop.swap (A:=[ag])⟩
theorem Dx{a:FuncId}{be:Array Value}[Entry prog a]{H:List (List Chunk)}{A:List Int->Int->Prop}{S:List Int->Prop}{o:World}(e:Iter prog a be H (λ_ _=>True) (λ_=>True) (λk:Int=> #[bN k]) A S)(b:∀pre x,A pre x->pre.length<1000000)(c:Own H o):Calls prog 270 #[.func (.func a) #[] be] o λr w=>∃xs ag,S xs/\Row 3 1 r xs.length (xs.map bN) ag/\C o (av H) (H++[ag]) w:=by
 refine a2 func270 ?_;have d:=Cz e b c;exact bk 6 d j (λr w f=>aq 1 j j f)
theorem q7{b:FuncId}{be:Array Value}[Entry prog b]{H:List (List Chunk)}{o:World}{m:List (Int×Value)}(i:Iter prog b be H (λ_ _=>True) (λ_=>True) (λk:Int=> #[bN k]) (pc m) (λxs=>xs.Perm (m.map Prod.fst)))(n:m.length<=1000000)(a:Own H o):Calls prog 234 #[.func (.func b) #[] be] o λr w=>∃ag,Row 3 1 r m.length ((jQ (m.map Prod.fst)).map bN) ag/\C o (av H) (H++[ag]) w:=by
 refine a2 func234 ?_;have c:=Dx i (λpre x h=>by have:=h.2.2;omega) a;refine bk 6 c j (λr w⟨xs,ag,d,f,a⟩=>?_);have l:xs.length=m.length:=by have:=d.length_eq;simpa using this
 have c:=AF (C.jp a) f (by omega);refine bk 4 c j (λp w⟨_,e,g,aa⟩=>?_);have a:=C.jh a aa;refine aq 4 j j (⟨e,?_,a⟩);rw [<-l,<-HO d];exact g
theorem Cj{o:World}{k:Value}:Calls prog 190 #[k] o λr w=>r= .bool true/\w=o:=by
 refine a2 func190 ?_;refine aq 6 j j ?_;exact⟨j,j⟩
theorem G1{o:World}{p:Option Addr}{u:Value}(c:u.cells= #[u]):Calls prog 189 #[.pointer p,u] o λr w=>∃az aO,r= .func (.func 232) #[] #[ab az,ab aO]/\C o [] [R az #[.pointer p] 168,R aO #[u] 45] w:=by
 have a:Own [] o:=C.start o;refine a2 func189 (bL 2 a j j (λaO w a=>bL 0 a j j (λb w a=>am 3 j (gZ j j j j ?_))));refine aq 1 j j (⟨aO,b,j,?_⟩);rw [c] at a;exact a.f1
theorem Cm{o:World}{p:Option Addr}:Calls prog 137 #[.pointer p] o λr w=>∃az aO,r= .func (.func 232) #[] #[ab az,ab aO]/\C o [] [R az #[.pointer p] 168,[(aO,.cells #[.func (.func 190) #[] #[]] 45 (0,0))]] w:=by
 refine a2 func137 ?_;have a:=G1 (o:=o) (p:=p) (u:=.func (.func 190) #[] #[]) j;exact bk 6 a j (λr w b=>aq 1 j j b)
theorem GX{az aO:Nat}{p:Option Addr}{m:List (Int×Value)}(V:m.length<=1000000):Iter prog 232 #[ab az,ab aO] [R az #[.pointer p] 168,[(aO,.cells #[.func (.func 190) #[] #[]] 45 (0,0))]] (λ_ w=>dI 247 w p m) (λ_=>True) (λq:Int×Value=> #[bN q.1,q.2]) (px m) (λxs=>xs=dn m):=by
 intro l ao aC ad o a c Q _ z ay af;show Calls _ _ #[fL l,ab az,ab aO] o _;obtain⟨h,B⟩:∃h,h=av ([R az #[.pointer p] 168,[(aO,.cells #[.func (.func 190) #[] #[]] 45 (0,0))]]++ad):=⟨_,j⟩;have a:C o h (R az #[.pointer p] 168::[(aO,.cells #[.func (.func 190) #[] #[]] 45 (0,0))]::ad) o:=B▸a;rw [<-B];have E:=Q;refine a2 func232 (ar 3 j (ax (C.aj a) j) (bm 1 j j (λeD=>?_) (λeD=>?_)))
 .refine aq 0 j j ?_;obtain⟨rfl,rfl⟩:=E.jk eD;exact⟨ad,a,.inl ⟨[],(by show []=dn [];simp),c⟩⟩
 obtain⟨u,ah,I,rfl,f,Y,hm⟩:=E.jn eD;have X:(m.map Prod.fst).Nodup:=hm.nodup (P:=prog) (cZ:=3);refine ar 3 j (ax (C.aj a) j) (ar 2 j (cell_of f j) ?_);have g:=Du hm Y;refine bk 0 g j (λr w⟨d,s,aa⟩=>?_);subst s;have c:=z _ _ _ _ [] c aa.bare (by simp);have a:=a.aL aa;have G:=aa;have g:=E9 (o:=w) (ah:=d);refine bk 4 g j (λr w⟨n,s,aa⟩=>?_);subst s;have c:=z _ _ _ _ [] c aa.bare (by simp);have a:=a.aL aa
 have F:o.heap.size<=n/\o.heap.size<=d:=by
  have M:=aa.own n (by simp [av]);have N:=G.own d (by simp [av]);have au:=G.size;simp at M N;omega
 have g:=q7 (E5 (az:=n) (ah:=d) hm) V a.cF;refine bk 0 g j (λr w⟨ag,D,aa⟩=>?_);have J:n∉av ad/\d∉av ad:=⟨fy (fy (fy a.jj)),fy (fy a.drop.jj)⟩;have c:=z _ _ _ _ [n,d] c aa.bare (by intro b f;simp at f;rcases f with rfl|rfl<;>first|exact⟨F.1,J.1⟩|exact⟨F.2,J.2⟩);have a:=a.cD aa;have a:C o h (R az #[ab u] 168::[(aO,.cells #[.func (.func 190) #[] #[]] 45 (0,0))]::[(d,I)]::ag::ad) w:=a.drop.f2.f3.f1;obtain⟨K,hd,rfl,_,_,_,_⟩:=D.rd a.f3
 refine cJ 3 j (ct:=Nat×List (List Chunk)) (λi=>[(0,fL l),(2,ab aO),(4,.map (some d)),(16,.slice K m.length hd),(17,.int .i64 (m.length:Nat)),(18,.int .i64 (i.1:Nat))])
  (λi w=>i.1<=m.length/\ao ((dn m).take i.1) i.2 w/\C o h (R az #[ab u] 168::[(aO,.cells #[.func (.func 190) #[] #[]] 45 (0,0))]::[(d,I)]::ag::i.2) w) (λi=>m.length-i.1) (0,ad) ⟨j,j,j,j,j,j,aX⟩ ⟨b4 _,by simpa using c,a⟩ ?_
 rintro⟨i,ai⟩ w ⟨S,c,a⟩;dsimp only at S c a⊢;refine b8 4 j j (λL=>?_) (λL=>?_)
 .have A:i<m.length:=by omega
  have t:i<(dn m).length:=by rw [iB];exact A
  obtain⟨_,_,e,_,_,Z,_⟩:=D.rd a.f3;cases e
  have U:((jQ (m.map Prod.fst)).map bN)[i]? =some (bN (dn m)[i].1):=by
   rw [<-rb,gE,gE,cn t];rfl
  refine am 5 j (fp j j j j Z (v:=bN (dn m)[i].1) (by simpa using U) A (λap O aw=>?_));subst O;refine ar 0 j (by assumption) (ar 3 j (a.f1.cell j) ?_);have g:=Cj (o:=w) (k:=bN (dn m)[i].1);refine am 1 j (hL j j j j g (λr aB⟨s,hw⟩=>?_));subst s;subst hw;refine am 1 j (bS 25 (.bool true) j (aG Value.bool (j)) ?_);have W:aZ m (dn m)[i].1=some (dn m)[i].2:=nu X (oj.1 (d9 t));refine am 4 j (pO hm (a.f2.first) j j j j ?_);refine bS 30 ((dn m)[i].2) j (by rw [W];rfl) ?_;obtain⟨an,ac⟩:=q8 t;have ak:=af ((dn m).take i) (dn m)[i] ai _ ⟨an,ac⟩ c (C.jp (H:=[R az #[ab u] 168,[(aO,.cells #[.func (.func 190) #[] #[]] 45 (0,0))],[(d,I)],ag]) a);refine jV j j j j ak (λb w⟨aA,al,f⟩=>?_);have a:=C.jh (H:=[R az #[ab u] 168,[(aO,.cells #[.func (.func 190) #[] #[]] 45 (0,0))],[(d,I)],ag]) a al;refine bm 2 j j (λx=>?_) (λx=>?_)
  .refine aq 0 j j ?_;have y:b=false:=by cases b<;>first|rfl|exact absurd x (by decide)
   subst y;exact⟨aA,a.f3.drop.f2.drop,.inr (by simpa using f)⟩
  refine bq 2 j j j (cE i (by omega)) (bI 1 j ?_);have y:b=true:=by cases b<;>first|rfl|exact absurd x (by decide)
  subst y;refine⟨(i+1,aA),⟨j,j,j,j,j,j,aX⟩,⟨A,?_,a⟩,by dsimp only;omega⟩;dsimp only;rw [ra t];simpa using f
 refine aq 1 j j ?_;have T:i=m.length:=by omega
 subst T;have ae:(dn m).take m.length=dn m:=by rw [<-iB m,gj]
 rw [ae] at c;exact⟨ai,a.f3.drop.f2.drop,.inl ⟨_,j,c⟩⟩
theorem Ck{o:World}{k:Value}:Calls prog 210 #[k] o λr w=>r= .bool true/\w=o:=by
 refine a2 func210 ?_;refine aq 6 j j ?_;exact⟨j,j⟩
theorem G2{o:World}{p:Option Addr}{u:Value}(c:u.cells= #[u]):Calls prog 209 #[.pointer p,u] o λr w=>∃az aO,r= .func (.func 259) #[] #[ab az,ab aO]/\C o [] [R az #[.pointer p] 167,R aO #[u] 45] w:=by
 have a:Own [] o:=C.start o;refine a2 func209 (bL 2 a j j (λaO w a=>bL 0 a j j (λb w a=>am 3 j (gZ j j j j ?_))));refine aq 1 j j (⟨aO,b,j,?_⟩);rw [c] at a;exact a.f1
theorem Cn{o:World}{p:Option Addr}:Calls prog 168 #[.pointer p] o λr w=>∃az aO,r= .func (.func 259) #[] #[ab az,ab aO]/\C o [] [R az #[.pointer p] 167,[(aO,.cells #[.func (.func 210) #[] #[]] 45 (0,0))]] w:=by
 refine a2 func168 ?_;have a:=G2 (o:=o) (p:=p) (u:=.func (.func 210) #[] #[]) j;exact bk 6 a j (λr w b=>aq 1 j j b)
theorem GY{az aO:Nat}{p:Option Addr}{m:List (Int×Value)}(V:m.length<=1000000):Iter prog 259 #[ab az,ab aO] [R az #[.pointer p] 167,[(aO,.cells #[.func (.func 210) #[] #[]] 45 (0,0))]] (λ_ w=>dI 277 w p m) (λ_=>True) (λq:Int×Value=> #[bN q.1,q.2]) (px m) (λxs=>xs=dn m):=by
 intro l ao aC ad o a c Q _ z ay af;show Calls _ _ #[fL l,ab az,ab aO] o _;obtain⟨h,B⟩:∃h,h=av ([R az #[.pointer p] 167,[(aO,.cells #[.func (.func 210) #[] #[]] 45 (0,0))]]++ad):=⟨_,j⟩;have a:C o h (R az #[.pointer p] 167::[(aO,.cells #[.func (.func 210) #[] #[]] 45 (0,0))]::ad) o:=B▸a;rw [<-B];have E:=Q;refine a2 func259 (ar 3 j (ax (C.aj a) j) (bm 1 j j (λeD=>?_) (λeD=>?_)))
 .refine aq 0 j j ?_;obtain⟨rfl,rfl⟩:=E.jk eD;exact⟨ad,a,.inl ⟨[],(by show []=dn [];simp),c⟩⟩
 obtain⟨u,ah,I,rfl,f,Y,hm⟩:=E.jn eD;have X:(m.map Prod.fst).Nodup:=hm.nodup (P:=prog) (cZ:=3);refine ar 3 j (ax (C.aj a) j) (ar 2 j (cell_of f j) ?_);have g:=Dv hm Y;refine bk 0 g j (λr w⟨d,s,aa⟩=>?_);subst s;have c:=z _ _ _ _ [] c aa.bare (by simp);have a:=a.aL aa;have G:=aa;have g:=Fa (o:=w) (ah:=d);refine bk 4 g j (λr w⟨n,s,aa⟩=>?_);subst s;have c:=z _ _ _ _ [] c aa.bare (by simp);have a:=a.aL aa
 have F:o.heap.size<=n/\o.heap.size<=d:=by
  have M:=aa.own n (by simp [av]);have N:=G.own d (by simp [av]);have au:=G.size;simp at M N;omega
 have g:=q7 (E6 (az:=n) (ah:=d) hm) V a.cF;refine bk 0 g j (λr w⟨ag,D,aa⟩=>?_);have J:n∉av ad/\d∉av ad:=⟨fy (fy (fy a.jj)),fy (fy a.drop.jj)⟩;have c:=z _ _ _ _ [n,d] c aa.bare (by intro b f;simp at f;rcases f with rfl|rfl<;>first|exact⟨F.1,J.1⟩|exact⟨F.2,J.2⟩);have a:=a.cD aa;have a:C o h (R az #[ab u] 167::[(aO,.cells #[.func (.func 210) #[] #[]] 45 (0,0))]::[(d,I)]::ag::ad) w:=a.drop.f2.f3.f1;obtain⟨K,hd,rfl,_,_,_,_⟩:=D.rd a.f3
 refine cJ 3 j (ct:=Nat×List (List Chunk)) (λi=>[(0,fL l),(2,ab aO),(4,.map (some d)),(16,.slice K m.length hd),(17,.int .i64 (m.length:Nat)),(18,.int .i64 (i.1:Nat))])
  (λi w=>i.1<=m.length/\ao ((dn m).take i.1) i.2 w/\C o h (R az #[ab u] 167::[(aO,.cells #[.func (.func 210) #[] #[]] 45 (0,0))]::[(d,I)]::ag::i.2) w) (λi=>m.length-i.1) (0,ad) ⟨j,j,j,j,j,j,aX⟩ ⟨b4 _,by simpa using c,a⟩ ?_
 rintro⟨i,ai⟩ w ⟨S,c,a⟩;dsimp only at S c a⊢;refine b8 4 j j (λL=>?_) (λL=>?_)
 .have A:i<m.length:=by omega
  have t:i<(dn m).length:=by rw [iB];exact A
  obtain⟨_,_,e,_,_,Z,_⟩:=D.rd a.f3;cases e
  have U:((jQ (m.map Prod.fst)).map bN)[i]? =some (bN (dn m)[i].1):=by
   rw [<-rb,gE,gE,cn t];rfl
  refine am 5 j (fp j j j j Z (v:=bN (dn m)[i].1) (by simpa using U) A (λap O aw=>?_));subst O;refine ar 0 j (by assumption) (ar 3 j (a.f1.cell j) ?_);have g:=Ck (o:=w) (k:=bN (dn m)[i].1);refine am 1 j (hL j j j j g (λr aB⟨s,hw⟩=>?_));subst s;subst hw;refine am 1 j (bS 25 (.bool true) j (aG Value.bool (j)) ?_);have W:aZ m (dn m)[i].1=some (dn m)[i].2:=nu X (oj.1 (d9 t));refine am 4 j (pO hm (a.f2.first) j j j j ?_);refine bS 30 ((dn m)[i].2) j (by rw [W];rfl) ?_;obtain⟨an,ac⟩:=q8 t;have ak:=af ((dn m).take i) (dn m)[i] ai _ ⟨an,ac⟩ c (C.jp (H:=[R az #[ab u] 167,[(aO,.cells #[.func (.func 210) #[] #[]] 45 (0,0))],[(d,I)],ag]) a);refine jV j j j j ak (λb w⟨aA,al,f⟩=>?_);have a:=C.jh (H:=[R az #[ab u] 167,[(aO,.cells #[.func (.func 210) #[] #[]] 45 (0,0))],[(d,I)],ag]) a al;refine bm 2 j j (λx=>?_) (λx=>?_)
  .refine aq 0 j j ?_;have y:b=false:=by cases b<;>first|rfl|exact absurd x (by decide)
   subst y;exact⟨aA,a.f3.drop.f2.drop,.inr (by simpa using f)⟩
  refine bq 2 j j j (cE i (by omega)) (bI 1 j ?_);have y:b=true:=by cases b<;>first|rfl|exact absurd x (by decide)
  subst y;refine⟨(i+1,aA),⟨j,j,j,j,j,j,aX⟩,⟨A,?_,a⟩,by dsimp only;omega⟩;dsimp only;rw [ra t];simpa using f
 refine aq 1 j j ?_;have T:i=m.length:=by omega
 subst T;have ae:(dn m).take m.length=dn m:=by rw [<-iB m,gj]
 rw [ae] at c;exact⟨ai,a.f3.drop.f2.drop,.inl ⟨_,j,c⟩⟩
theorem Ch{o:World}{k:Value}:Calls prog 273 #[k] o λr w=>r= .bool true/\w=o:=by
 refine a2 func273 ?_;refine aq 6 j j ?_;exact⟨j,j⟩
theorem GZ{o:World}{p:Option Addr}{u:Value}(c:u.cells= #[u]):Calls prog 272 #[.pointer p,u] o λr w=>∃az aO,r= .func (.func 300) #[] #[ab az,ab aO]/\C o [] [R az #[.pointer p] 150,R aO #[u] 45] w:=by
 have a:Own [] o:=C.start o;refine a2 func272 (bL 2 a j j (λaO w a=>bL 0 a j j (λb w a=>am 3 j (gZ j j j j ?_))));refine aq 1 j j (⟨aO,b,j,?_⟩);rw [c] at a;exact a.f1
theorem w2{o:World}{p:Option Addr}:Calls prog 237 #[.pointer p] o λr w=>∃az aO,r= .func (.func 300) #[] #[ab az,ab aO]/\C o [] [R az #[.pointer p] 150,[(aO,.cells #[.func (.func 273) #[] #[]] 45 (0,0))]] w:=by
 refine a2 func237 ?_;have a:=GZ (o:=o) (p:=p) (u:=.func (.func 273) #[] #[]) j;exact bk 6 a j (λr w b=>aq 1 j j b)
theorem z7{az aO:Nat}{p:Option Addr}{m:List (Int×Value)}(V:m.length<=1000000):Iter prog 300 #[ab az,ab aO] [R az #[.pointer p] 150,[(aO,.cells #[.func (.func 273) #[] #[]] 45 (0,0))]] (λ_ w=>dI 296 w p m) (λ_=>True) (λq:Int×Value=> #[bN q.1,q.2]) (px m) (λxs=>xs=dn m):=by
 intro l ao aC ad o a c Q _ z ay af;show Calls _ _ #[fL l,ab az,ab aO] o _;obtain⟨h,B⟩:∃h,h=av ([R az #[.pointer p] 150,[(aO,.cells #[.func (.func 273) #[] #[]] 45 (0,0))]]++ad):=⟨_,j⟩;have a:C o h (R az #[.pointer p] 150::[(aO,.cells #[.func (.func 273) #[] #[]] 45 (0,0))]::ad) o:=B▸a;rw [<-B];have E:=Q;refine a2 func300 (ar 3 j (ax (C.aj a) j) (bm 1 j j (λeD=>?_) (λeD=>?_)))
 .refine aq 0 j j ?_;obtain⟨rfl,rfl⟩:=E.jk eD;exact⟨ad,a,.inl ⟨[],(by show []=dn [];simp),c⟩⟩
 obtain⟨u,ah,I,rfl,f,Y,hm⟩:=E.jn eD;have X:(m.map Prod.fst).Nodup:=hm.nodup (P:=prog) (cZ:=3);refine ar 3 j (ax (C.aj a) j) (ar 2 j (cell_of f j) ?_);have g:=Ds hm Y;refine bk 0 g j (λr w⟨d,s,aa⟩=>?_);subst s;have c:=z _ _ _ _ [] c aa.bare (by simp);have a:=a.aL aa;have G:=aa;have g:=E7 (o:=w) (ah:=d);refine bk 4 g j (λr w⟨n,s,aa⟩=>?_);subst s;have c:=z _ _ _ _ [] c aa.bare (by simp);have a:=a.aL aa
 have F:o.heap.size<=n/\o.heap.size<=d:=by
  have M:=aa.own n (by simp [av]);have N:=G.own d (by simp [av]);have au:=G.size;simp at M N;omega
 have g:=q7 (E3 (az:=n) (ah:=d) hm) V a.cF;refine bk 0 g j (λr w⟨ag,D,aa⟩=>?_);have J:n∉av ad/\d∉av ad:=⟨fy (fy (fy a.jj)),fy (fy a.drop.jj)⟩;have c:=z _ _ _ _ [n,d] c aa.bare (by intro b f;simp at f;rcases f with rfl|rfl<;>first|exact⟨F.1,J.1⟩|exact⟨F.2,J.2⟩);have a:=a.cD aa;have a:C o h (R az #[ab u] 150::[(aO,.cells #[.func (.func 273) #[] #[]] 45 (0,0))]::[(d,I)]::ag::ad) w:=a.drop.f2.f3.f1;obtain⟨K,hd,rfl,_,_,_,_⟩:=D.rd a.f3
 refine cJ 3 j (ct:=Nat×List (List Chunk)) (λi=>[(0,fL l),(2,ab aO),(4,.map (some d)),(16,.slice K m.length hd),(17,.int .i64 (m.length:Nat)),(18,.int .i64 (i.1:Nat))])
  (λi w=>i.1<=m.length/\ao ((dn m).take i.1) i.2 w/\C o h (R az #[ab u] 150::[(aO,.cells #[.func (.func 273) #[] #[]] 45 (0,0))]::[(d,I)]::ag::i.2) w) (λi=>m.length-i.1) (0,ad) ⟨j,j,j,j,j,j,aX⟩ ⟨b4 _,by simpa using c,a⟩ ?_
 rintro⟨i,ai⟩ w ⟨S,c,a⟩;dsimp only at S c a⊢;refine b8 4 j j (λL=>?_) (λL=>?_)
 .have A:i<m.length:=by omega
  have t:i<(dn m).length:=by rw [iB];exact A
  obtain⟨_,_,e,_,_,Z,_⟩:=D.rd a.f3;cases e
  have U:((jQ (m.map Prod.fst)).map bN)[i]? =some (bN (dn m)[i].1):=by
   rw [<-rb,gE,gE,cn t];rfl
  refine am 5 j (fp j j j j Z (v:=bN (dn m)[i].1) (by simpa using U) A (λap O aw=>?_));subst O;refine ar 0 j (by assumption) (ar 3 j (a.f1.cell j) ?_);have g:=Ch (o:=w) (k:=bN (dn m)[i].1);refine am 1 j (hL j j j j g (λr aB⟨s,hw⟩=>?_));subst s;subst hw;refine am 1 j (bS 25 (.bool true) j (aG Value.bool (j)) ?_);have W:aZ m (dn m)[i].1=some (dn m)[i].2:=nu X (oj.1 (d9 t));refine am 4 j (pO hm (a.f2.first) j j j j ?_);refine bS 30 ((dn m)[i].2) j (by rw [W];rfl) ?_;obtain⟨an,ac⟩:=q8 t;have ak:=af ((dn m).take i) (dn m)[i] ai _ ⟨an,ac⟩ c (C.jp (H:=[R az #[ab u] 150,[(aO,.cells #[.func (.func 273) #[] #[]] 45 (0,0))],[(d,I)],ag]) a);refine jV j j j j ak (λb w⟨aA,al,f⟩=>?_);have a:=C.jh (H:=[R az #[ab u] 150,[(aO,.cells #[.func (.func 273) #[] #[]] 45 (0,0))],[(d,I)],ag]) a al;refine bm 2 j j (λx=>?_) (λx=>?_)
  .refine aq 0 j j ?_;have y:b=false:=by cases b<;>first|rfl|exact absurd x (by decide)
   subst y;exact⟨aA,a.f3.drop.f2.drop,.inr (by simpa using f)⟩
  refine bq 2 j j j (cE i (by omega)) (bI 1 j ?_);have y:b=true:=by cases b<;>first|rfl|exact absurd x (by decide)
  subst y;refine⟨(i+1,aA),⟨j,j,j,j,j,j,aX⟩,⟨A,?_,a⟩,by dsimp only;omega⟩;dsimp only;rw [ra t];simpa using f
 refine aq 1 j j ?_;have T:i=m.length:=by omega
 subst T;have ae:(dn m).take m.length=dn m:=by rw [<-iB m,gj]
 rw [ae] at c;exact⟨ai,a.f3.drop.f2.drop,.inl ⟨_,j,c⟩⟩
theorem Cg{o:World}{k:Value}:Calls prog 306 #[k] o λr w=>r= .bool true/\w=o:=by
 refine a2 func306 ?_;refine aq 6 j j ?_;exact⟨j,j⟩
theorem GV{o:World}{p:Option Addr}{u:Value}(c:u.cells= #[u]):Calls prog 305 #[.pointer p,u] o λr w=>∃az aO,r= .func (.func 329) #[] #[ab az,ab aO]/\C o [] [R az #[.pointer p] 288,R aO #[u] 45] w:=by
 have a:Own [] o:=C.start o;refine a2 func305 (bL 2 a j j (λaO w a=>bL 0 a j j (λb w a=>am 3 j (gZ j j j j ?_))));refine aq 1 j j (⟨aO,b,j,?_⟩);rw [c] at a;exact a.f1
theorem Cl{o:World}{p:Option Addr}:Calls prog 278 #[.pointer p] o λr w=>∃az aO,r= .func (.func 329) #[] #[ab az,ab aO]/\C o [] [R az #[.pointer p] 288,[(aO,.cells #[.func (.func 306) #[] #[]] 45 (0,0))]] w:=by
 refine a2 func278 ?_;have a:=GV (o:=o) (p:=p) (u:=.func (.func 306) #[] #[]) j;exact bk 6 a j (λr w b=>aq 1 j j b)
theorem GW{az aO:Nat}{p:Option Addr}{m:List (Int×Value)}(V:m.length<=1000000):Iter prog 329 #[ab az,ab aO] [R az #[.pointer p] 288,[(aO,.cells #[.func (.func 306) #[] #[]] 45 (0,0))]] (λ_ w=>dI 336 w p m) (λ_=>True) (λq:Int×Value=> #[bN q.1,q.2]) (px m) (λxs=>xs=dn m):=by
 intro l ao aC ad o a c Q _ z ay af;show Calls _ _ #[fL l,ab az,ab aO] o _;obtain⟨h,B⟩:∃h,h=av ([R az #[.pointer p] 288,[(aO,.cells #[.func (.func 306) #[] #[]] 45 (0,0))]]++ad):=⟨_,j⟩;have a:C o h (R az #[.pointer p] 288::[(aO,.cells #[.func (.func 306) #[] #[]] 45 (0,0))]::ad) o:=B▸a;rw [<-B];have E:=Q;refine a2 func329 (ar 3 j (ax (C.aj a) j) (bm 1 j j (λeD=>?_) (λeD=>?_)))
 .refine aq 0 j j ?_;obtain⟨rfl,rfl⟩:=E.jk eD;exact⟨ad,a,.inl ⟨[],(by show []=dn [];simp),c⟩⟩
 obtain⟨u,ah,I,rfl,f,Y,hm⟩:=E.jn eD;have X:(m.map Prod.fst).Nodup:=hm.nodup (P:=prog) (cZ:=3);refine ar 3 j (ax (C.aj a) j) (ar 2 j (cell_of f j) ?_);have g:=Dr hm Y;refine bk 0 g j (λr w⟨d,s,aa⟩=>?_);subst s;have c:=z _ _ _ _ [] c aa.bare (by simp);have a:=a.aL aa;have G:=aa;have g:=E1 (o:=w) (ah:=d);refine bk 4 g j (λr w⟨n,s,aa⟩=>?_);subst s;have c:=z _ _ _ _ [] c aa.bare (by simp);have a:=a.aL aa
 have F:o.heap.size<=n/\o.heap.size<=d:=by
  have M:=aa.own n (by simp [av]);have N:=G.own d (by simp [av]);have au:=G.size;simp at M N;omega
 have g:=q7 (E2 (az:=n) (ah:=d) hm) V a.cF;refine bk 0 g j (λr w⟨ag,D,aa⟩=>?_);have J:n∉av ad/\d∉av ad:=⟨fy (fy (fy a.jj)),fy (fy a.drop.jj)⟩;have c:=z _ _ _ _ [n,d] c aa.bare (by intro b f;simp at f;rcases f with rfl|rfl<;>first|exact⟨F.1,J.1⟩|exact⟨F.2,J.2⟩);have a:=a.cD aa;have a:C o h (R az #[ab u] 288::[(aO,.cells #[.func (.func 306) #[] #[]] 45 (0,0))]::[(d,I)]::ag::ad) w:=a.drop.f2.f3.f1;obtain⟨K,hd,rfl,_,_,_,_⟩:=D.rd a.f3
 refine cJ 3 j (ct:=Nat×List (List Chunk)) (λi=>[(0,fL l),(2,ab aO),(4,.map (some d)),(16,.slice K m.length hd),(17,.int .i64 (m.length:Nat)),(18,.int .i64 (i.1:Nat))])
  (λi w=>i.1<=m.length/\ao ((dn m).take i.1) i.2 w/\C o h (R az #[ab u] 288::[(aO,.cells #[.func (.func 306) #[] #[]] 45 (0,0))]::[(d,I)]::ag::i.2) w) (λi=>m.length-i.1) (0,ad) ⟨j,j,j,j,j,j,aX⟩ ⟨b4 _,by simpa using c,a⟩ ?_
 rintro⟨i,ai⟩ w ⟨S,c,a⟩;dsimp only at S c a⊢;refine b8 4 j j (λL=>?_) (λL=>?_)
 .have A:i<m.length:=by omega
  have t:i<(dn m).length:=by rw [iB];exact A
  obtain⟨_,_,e,_,_,Z,_⟩:=D.rd a.f3;cases e
  have U:((jQ (m.map Prod.fst)).map bN)[i]? =some (bN (dn m)[i].1):=by
   rw [<-rb,gE,gE,cn t];rfl
  refine am 5 j (fp j j j j Z (v:=bN (dn m)[i].1) (by simpa using U) A (λap O aw=>?_));subst O;refine ar 0 j (by assumption) (ar 3 j (a.f1.cell j) ?_);have g:=Cg (o:=w) (k:=bN (dn m)[i].1);refine am 1 j (hL j j j j g (λr aB⟨s,hw⟩=>?_));subst s;subst hw;refine am 1 j (bS 25 (.bool true) j (aG Value.bool (j)) ?_);have W:aZ m (dn m)[i].1=some (dn m)[i].2:=nu X (oj.1 (d9 t));refine am 4 j (pO hm (a.f2.first) j j j j ?_);refine bS 30 ((dn m)[i].2) j (by rw [W];rfl) ?_;obtain⟨an,ac⟩:=q8 t;have ak:=af ((dn m).take i) (dn m)[i] ai _ ⟨an,ac⟩ c (C.jp (H:=[R az #[ab u] 288,[(aO,.cells #[.func (.func 306) #[] #[]] 45 (0,0))],[(d,I)],ag]) a);refine jV j j j j ak (λb w⟨aA,al,f⟩=>?_);have a:=C.jh (H:=[R az #[ab u] 288,[(aO,.cells #[.func (.func 306) #[] #[]] 45 (0,0))],[(d,I)],ag]) a al;refine bm 2 j j (λx=>?_) (λx=>?_)
  .refine aq 0 j j ?_;have y:b=false:=by cases b<;>first|rfl|exact absurd x (by decide)
   subst y;exact⟨aA,a.f3.drop.f2.drop,.inr (by simpa using f)⟩
  refine bq 2 j j j (cE i (by omega)) (bI 1 j ?_);have y:b=true:=by cases b<;>first|rfl|exact absurd x (by decide)
  subst y;refine⟨(i+1,aA),⟨j,j,j,j,j,j,aX⟩,⟨A,?_,a⟩,by dsimp only;omega⟩;dsimp only;rw [ra t];simpa using f
 refine aq 1 j j ?_;have T:i=m.length:=by omega
 subst T;have ae:(dn m).take m.length=dn m:=by rw [<-iB m,gj]
 rw [ae] at c;exact⟨ai,a.f3.drop.f2.drop,.inl ⟨_,j,c⟩⟩
theorem Ci{o:World}{k:Value}:Calls prog 314 #[k] o λr w=>r= .bool true/\w=o:=by
 refine a2 func314 ?_;refine aq 6 j j ?_;exact⟨j,j⟩
theorem G0{o:World}{p:Option Addr}{u:Value}(c:u.cells= #[u]):Calls prog 313 #[.pointer p,u] o λr w=>∃az aO,r= .func (.func 335) #[] #[ab az,ab aO]/\C o [] [R az #[.pointer p] 228,R aO #[u] 45] w:=by
 have a:Own [] o:=C.start o;refine a2 func313 (bL 2 a j j (λaO w a=>bL 0 a j j (λb w a=>am 3 j (gZ j j j j ?_))));refine aq 1 j j (⟨aO,b,j,?_⟩);rw [c] at a;exact a.f1
theorem w3{o:World}{p:Option Addr}:Calls prog 288 #[.pointer p] o λr w=>∃az aO,r= .func (.func 335) #[] #[ab az,ab aO]/\C o [] [R az #[.pointer p] 228,[(aO,.cells #[.func (.func 314) #[] #[]] 45 (0,0))]] w:=by
 refine a2 func288 ?_;have a:=G0 (o:=o) (p:=p) (u:=.func (.func 314) #[] #[]) j;exact bk 6 a j (λr w b=>aq 1 j j b)
theorem z8{az aO:Nat}{p:Option Addr}{m:List (Int×Value)}(V:m.length<=1000000):Iter prog 335 #[ab az,ab aO] [R az #[.pointer p] 228,[(aO,.cells #[.func (.func 314) #[] #[]] 45 (0,0))]] (λ_ w=>dI 299 w p m) (λ_=>True) (λq:Int×Value=> #[bN q.1,q.2]) (px m) (λxs=>xs=dn m):=by
 intro l ao aC ad o a c Q _ z ay af;show Calls _ _ #[fL l,ab az,ab aO] o _;obtain⟨h,B⟩:∃h,h=av ([R az #[.pointer p] 228,[(aO,.cells #[.func (.func 314) #[] #[]] 45 (0,0))]]++ad):=⟨_,j⟩;have a:C o h (R az #[.pointer p] 228::[(aO,.cells #[.func (.func 314) #[] #[]] 45 (0,0))]::ad) o:=B▸a;rw [<-B];have E:=Q;refine a2 func335 (ar 3 j (ax (C.aj a) j) (bm 1 j j (λeD=>?_) (λeD=>?_)))
 .refine aq 0 j j ?_;obtain⟨rfl,rfl⟩:=E.jk eD;exact⟨ad,a,.inl ⟨[],(by show []=dn [];simp),c⟩⟩
 obtain⟨u,ah,I,rfl,f,Y,hm⟩:=E.jn eD;have X:(m.map Prod.fst).Nodup:=hm.nodup (P:=prog) (cZ:=3);refine ar 3 j (ax (C.aj a) j) (ar 2 j (cell_of f j) ?_);have g:=Dt hm Y;refine bk 0 g j (λr w⟨d,s,aa⟩=>?_);subst s;have c:=z _ _ _ _ [] c aa.bare (by simp);have a:=a.aL aa;have G:=aa;have g:=E8 (o:=w) (ah:=d);refine bk 4 g j (λr w⟨n,s,aa⟩=>?_);subst s;have c:=z _ _ _ _ [] c aa.bare (by simp);have a:=a.aL aa
 have F:o.heap.size<=n/\o.heap.size<=d:=by
  have M:=aa.own n (by simp [av]);have N:=G.own d (by simp [av]);have au:=G.size;simp at M N;omega
 have g:=q7 (E4 (az:=n) (ah:=d) hm) V a.cF;refine bk 0 g j (λr w⟨ag,D,aa⟩=>?_);have J:n∉av ad/\d∉av ad:=⟨fy (fy (fy a.jj)),fy (fy a.drop.jj)⟩;have c:=z _ _ _ _ [n,d] c aa.bare (by intro b f;simp at f;rcases f with rfl|rfl<;>first|exact⟨F.1,J.1⟩|exact⟨F.2,J.2⟩);have a:=a.cD aa;have a:C o h (R az #[ab u] 228::[(aO,.cells #[.func (.func 314) #[] #[]] 45 (0,0))]::[(d,I)]::ag::ad) w:=a.drop.f2.f3.f1;obtain⟨K,hd,rfl,_,_,_,_⟩:=D.rd a.f3
 refine cJ 3 j (ct:=Nat×List (List Chunk)) (λi=>[(0,fL l),(2,ab aO),(4,.map (some d)),(16,.slice K m.length hd),(17,.int .i64 (m.length:Nat)),(18,.int .i64 (i.1:Nat))])
  (λi w=>i.1<=m.length/\ao ((dn m).take i.1) i.2 w/\C o h (R az #[ab u] 228::[(aO,.cells #[.func (.func 314) #[] #[]] 45 (0,0))]::[(d,I)]::ag::i.2) w) (λi=>m.length-i.1) (0,ad) ⟨j,j,j,j,j,j,aX⟩ ⟨b4 _,by simpa using c,a⟩ ?_
 rintro⟨i,ai⟩ w ⟨S,c,a⟩;dsimp only at S c a⊢;refine b8 4 j j (λL=>?_) (λL=>?_)
 .have A:i<m.length:=by omega
  have t:i<(dn m).length:=by rw [iB];exact A
  obtain⟨_,_,e,_,_,Z,_⟩:=D.rd a.f3;cases e
  have U:((jQ (m.map Prod.fst)).map bN)[i]? =some (bN (dn m)[i].1):=by
   rw [<-rb,gE,gE,cn t];rfl
  refine am 5 j (fp j j j j Z (v:=bN (dn m)[i].1) (by simpa using U) A (λap O aw=>?_));subst O;refine ar 0 j (by assumption) (ar 3 j (a.f1.cell j) ?_);have g:=Ci (o:=w) (k:=bN (dn m)[i].1);refine am 1 j (hL j j j j g (λr aB⟨s,hw⟩=>?_));subst s;subst hw;refine am 1 j (bS 25 (.bool true) j (aG Value.bool (j)) ?_);have W:aZ m (dn m)[i].1=some (dn m)[i].2:=nu X (oj.1 (d9 t));refine am 4 j (pO hm (a.f2.first) j j j j ?_);refine bS 30 ((dn m)[i].2) j (by rw [W];rfl) ?_;obtain⟨an,ac⟩:=q8 t;have ak:=af ((dn m).take i) (dn m)[i] ai _ ⟨an,ac⟩ c (C.jp (H:=[R az #[ab u] 228,[(aO,.cells #[.func (.func 314) #[] #[]] 45 (0,0))],[(d,I)],ag]) a);refine jV j j j j ak (λb w⟨aA,al,f⟩=>?_);have a:=C.jh (H:=[R az #[ab u] 228,[(aO,.cells #[.func (.func 314) #[] #[]] 45 (0,0))],[(d,I)],ag]) a al;refine bm 2 j j (λx=>?_) (λx=>?_)
  .refine aq 0 j j ?_;have y:b=false:=by cases b<;>first|rfl|exact absurd x (by decide)
   subst y;exact⟨aA,a.f3.drop.f2.drop,.inr (by simpa using f)⟩
  refine bq 2 j j j (cE i (by omega)) (bI 1 j ?_);have y:b=true:=by cases b<;>first|rfl|exact absurd x (by decide)
  subst y;refine⟨(i+1,aA),⟨j,j,j,j,j,j,aX⟩,⟨A,?_,a⟩,by dsimp only;omega⟩;dsimp only;rw [ra t];simpa using f
 refine aq 1 j j ?_;have T:i=m.length:=by omega
 subst T;have ae:(dn m).take m.length=dn m:=by rw [<-iB m,gj]
 rw [ae] at c;exact⟨ai,a.f3.drop.f2.drop,.inl ⟨_,j,c⟩⟩
theorem Fm{l:List UInt8}(h:l.length=32):l=[l.getD 0 0,l.getD 1 0,l.getD 2 0,l.getD 3 0,l.getD 4 0,l.getD 5 0,l.getD 6 0,l.getD 7 0,l.getD 8 0,l.getD 9 0,l.getD 10 0,l.getD 11 0,l.getD 12 0,l.getD 13 0,l.getD 14 0,l.getD 15 0,l.getD 16 0,l.getD 17 0,l.getD 18 0,l.getD 19 0,l.getD 20 0,l.getD 21 0,l.getD 22 0,l.getD 23 0,l.getD 24 0,l.getD 25 0,l.getD 26 0,l.getD 27 0,l.getD 28 0,l.getD 29 0,l.getD 30 0,l.getD 31 0]:=by
 apply oB;intro i
 match i with
 |0=>rw [cn (show 0<l.length by omega)];simp [List.getD,cn (show 0<l.length by omega)]
 |1=>rw [cn (show 1<l.length by omega)];simp [List.getD,cn (show 1<l.length by omega)]
 |2=>rw [cn (show 2<l.length by omega)];simp [List.getD,cn (show 2<l.length by omega)]
 |3=>rw [cn (show 3<l.length by omega)];simp [List.getD,cn (show 3<l.length by omega)]
 |4=>rw [cn (show 4<l.length by omega)];simp [List.getD,cn (show 4<l.length by omega)]
 |5=>rw [cn (show 5<l.length by omega)];simp [List.getD,cn (show 5<l.length by omega)]
 |6=>rw [cn (show 6<l.length by omega)];simp [List.getD,cn (show 6<l.length by omega)]
 |7=>rw [cn (show 7<l.length by omega)];simp [List.getD,cn (show 7<l.length by omega)]
 |8=>rw [cn (show 8<l.length by omega)];simp [List.getD,cn (show 8<l.length by omega)]
 |9=>rw [cn (show 9<l.length by omega)];simp [List.getD,cn (show 9<l.length by omega)]
 |10=>rw [cn (show 10<l.length by omega)];simp [List.getD,cn (show 10<l.length by omega)]
 |11=>rw [cn (show 11<l.length by omega)];simp [List.getD,cn (show 11<l.length by omega)]
 |12=>rw [cn (show 12<l.length by omega)];simp [List.getD,cn (show 12<l.length by omega)]
 |13=>rw [cn (show 13<l.length by omega)];simp [List.getD,cn (show 13<l.length by omega)]
 |14=>rw [cn (show 14<l.length by omega)];simp [List.getD,cn (show 14<l.length by omega)]
 |15=>rw [cn (show 15<l.length by omega)];simp [List.getD,cn (show 15<l.length by omega)]
 |16=>rw [cn (show 16<l.length by omega)];simp [List.getD,cn (show 16<l.length by omega)]
 |17=>rw [cn (show 17<l.length by omega)];simp [List.getD,cn (show 17<l.length by omega)]
 |18=>rw [cn (show 18<l.length by omega)];simp [List.getD,cn (show 18<l.length by omega)]
 |19=>rw [cn (show 19<l.length by omega)];simp [List.getD,cn (show 19<l.length by omega)]
 |20=>rw [cn (show 20<l.length by omega)];simp [List.getD,cn (show 20<l.length by omega)]
 |21=>rw [cn (show 21<l.length by omega)];simp [List.getD,cn (show 21<l.length by omega)]
 |22=>rw [cn (show 22<l.length by omega)];simp [List.getD,cn (show 22<l.length by omega)]
 |23=>rw [cn (show 23<l.length by omega)];simp [List.getD,cn (show 23<l.length by omega)]
 |24=>rw [cn (show 24<l.length by omega)];simp [List.getD,cn (show 24<l.length by omega)]
 |25=>rw [cn (show 25<l.length by omega)];simp [List.getD,cn (show 25<l.length by omega)]
 |26=>rw [cn (show 26<l.length by omega)];simp [List.getD,cn (show 26<l.length by omega)]
 |27=>rw [cn (show 27<l.length by omega)];simp [List.getD,cn (show 27<l.length by omega)]
 |28=>rw [cn (show 28<l.length by omega)];simp [List.getD,cn (show 28<l.length by omega)]
 |29=>rw [cn (show 29<l.length by omega)];simp [List.getD,cn (show 29<l.length by omega)]
 |30=>rw [cn (show 30<l.length by omega)];simp [List.getD,cn (show 30<l.length by omega)]
 |31=>rw [cn (show 31<l.length by omega)];simp [List.getD,cn (show 31<l.length by omega)]
 |i+32=>rw [lH (by omega),lH (by simp)]
theorem C.gg{o w:World}{F:List Nat}{ad:List (List Chunk)}{b:Nat}{c a:Array Value}{e:TypeId}{e6:Nat×Nat}(h:C o F ([(b,.cells c e e6)]::ad) w)(d:c=a):C o F ([(b,.cells a e e6)]::ad) w:=d▸h
def cX(g:al)(k s v:Int)(sum:List UInt8)(f:Int):aE:=⟨k,s,v,sum,f,g.cu f (aE.kd ⟨k,s,v,sum,f,cA⟩)⟩
theorem iZ(g:al)(k s v:Int)(sum:List UInt8)(f:Int)(h:sum.length=32):(cX g k s v sum f).ok:=⟨h,al.ec _ _ _⟩
def cQ(g:al)(x:aE):Bool:=g.check x.f x.kd x.tag
theorem wd(x:aE)(h:x.ok):x.kd.length<=100:=by
 have a:=fU [5,x.k,x.s,x.v];have b:=fU [x.f];simp only [aE.kd,b0,h.1];simp only [eu,ge] at a b;omega
theorem aE.Iv(x:aE)(d:x.ok)(t:List UInt8)(c:t.length=32):setCells x.cs.toArray 36 (au t)=({x with tag:=t}:aE).cs.toArray:=by
 apply rX;intro i;have g:x.cs.length=68:=x.len d;have j:x.cs=(ae x.k::ae x.s::ae x.v::(au x.sum++[ae x.f]))++au x.tag:=by simp [aE.cs]
 have h:({x with tag:=t}:aE).cs=(ae x.k::ae x.s::ae x.v::(au x.sum++[ae x.f]))++au t:=by simp [aE.cs]
 have a:(ae x.k::ae x.s::ae x.v::(au x.sum++[ae x.f])).length=36:=by simp [cL,d.1]
 rw [pm _ _ _ (by rw [cL,c,hA,g];decide)];simp only [nb];rw [j,h,cL,c];by_cases b:36<=i/\i<36+32
 .rw [a6 b,jf (by rw [a];exact b.1),a]
 .rw [aI b];by_cases e:i<36
  .rw [iU (by rw [a];exact e),iU (by rw [a];exact e)]
  .rw [lH (by rw [b0,a,cL,d.2];omega),List.getElem?_eq_none (by rw [List.length_append,a,cL,c];omega)]
theorem oZ{o:World}{g:al}(n:g.at o)(t:g.ok){k s v f:Int}{sum:List UInt8}(aM:sum.length=32):Calls prog 95 #[g.p,ae k,ae s,ae v,.agg (au sum).toArray,ae f] o λr w=>r= .agg (cX g k s v sum f).cs.toArray/\C o [] [] w:=by
 have a:Own [] o:=C.start o;have b:(⟨k,s,v,sum,f,cA⟩:aE).ok:=⟨aM,j⟩;have x:(au sum).length=32:=by rw [cL,aM]
 refine eV func95 ?_;refine bL 2 a j j (λz w a=>?_);refine b7 0 a j (λA w a=>?_);refine bM 5 (U:=au sum) j j x a.f1.bz ?_;refine am 1 j (cN (c:=(⟨k,s,v,sum,f,cA⟩:aE).cs.toArray) j j j (λ_=>by rw [Fm aM];kernel_rfl) ?_);refine b7 0 a j (λl w a=>?_);refine b6 0 a j j j (by simpa using(⟨k,s,v,sum,f,cA⟩:aE).one) (by rw [List.size_toArray];exact(⟨k,s,v,sum,f,cA⟩:aE).len b) (λw a=>?_);have a:=C.whole (U:=(⟨k,s,v,sum,f,cA⟩:aE).cs) a (by rw [(⟨k,s,v,sum,f,cA⟩:aE).len b];rfl);refine bM 4 (U:=(⟨k,s,v,sum,f,cA⟩:aE).cs) j j ((⟨k,s,v,sum,f,cA⟩:aE).len b) a.bz ?_;have e:=A4 (o:=w) b;refine bk 0 e j (λr w⟨G,m,aa⟩=>?_);have a:=a.aL aa;obtain⟨y,gL,rfl,B,_,u,_⟩:=m.rd a;have e:=nB (n.st a (al.off.nil g)) t (i:=f) u (by have:=wd _ b;omega) (d:=gL);refine bk 0 e j (λr w⟨h,q⟩=>?_);have h:r= .agg (au (cX g k s v sum f).tag).toArray:=h;subst h;have a:=(a.aL q).f1;refine am 1 j (c2 a j j j (by simpa using eg (cX g k s v sum f).tag) (by rw [List.size_toArray,cL];exact(iZ g k s v sum f aM).2) (by rw [List.size_toArray,(⟨k,s,v,sum,f,cA⟩:aE).len b];decide) (λw a=>?_));have a:=C.gg a ((⟨k,s,v,sum,f,cA⟩:aE).Iv b (cX g k s v sum f).tag (iZ g k s v sum f aM).2);have a:C o [] (R l (cX g k s v sum f).cs.toArray 55::_) w:=a;refine bM 2 (U:=(cX g k s v sum f).cs) j j ((cX g k s v sum f).len (iZ g k s v sum f aM)) a.bz ?_;have a:=a.f2;refine b6 0 a j j j (by simpa using(cX g k s v sum f).one) (by rw [List.size_toArray];exact(cX g k s v sum f).len (iZ g k s v sum f aM)) (λw a=>?_);have a:=C.whole (U:=(cX g k s v sum f).cs) a (by rw [(cX g k s v sum f).len (iZ g k s v sum f aM)];rfl);refine bD 0 j ⟨_,gr (U:=(cX g k s v sum f).cs) results95 j j ((cX g k s v sum f).len (iZ g k s v sum f aM)) a.bz,?_⟩;exact⟨j,a.bare⟩
theorem so{o:World}{g:al}(e:g.at o)(h:g.ok){x:aE}(b:x.ok):Calls prog 166 #[g.p,.agg x.cs.toArray] o λr w=>r= .bool (cQ g x)/\C o [] [] w:=by
 have a:Own [] o:=C.start o;refine a2 func166 (bL 2 a j j (λc w a=>?_));have a:=a.drew;refine bt 2 j (λw=>∃ad,C o [] ([R c (x).cs.toArray 55]++ad) w) ⟨_,a⟩ (af 0 2 j (bR 2 j (λw⟨_,a⟩=>a.cell (x.eo b)) (aT 3 j (λw⟨_,a⟩=>c4 (U:=x.cs) j j (x.len b) a.bz) (af 5 1 j (aT 6 j (λw⟨_,a⟩=>c4 (U:=au x.tag) j j (by rw [cL];exact b.2) (a.ij (off:=0+36) (U:=au x.tag) (x.qv b))) (aR 4 j (cO j j j (A4 b) (λr w⟨G,d,aa⟩=>?_))))))));have a:=a.aL aa;obtain⟨k,gL,rfl,l,_,i,_⟩:=d.rd a;have a:=a.f1;refine an ⟨⟨_,a⟩,?_⟩;refine aR 7 j (bB j j j (r5 (e.st a (al.off.nil g)) h i (by have:=wd _ b;omega) b.2) (λw f=>?_));have a:=(a.aL f);refine an ⟨⟨_,a⟩,?_⟩;exact af 8 1 j (bK (aq 0 j j ⟨j,a.bare⟩))
theorem EF{l:List Int}{k:Int}{i:Nat}(h:i=l.length)(aJ:k∉l.take i):k∉l:=by subst h;rwa [gj] at aJ
theorem EL{o:World}{B:Option Addr}{l:List Int}{c:Nat}{k:Int}(m:Rd o B (l.map bN))(s:l.length<=1000000):Calls prog 292 #[.slice B l.length c,bN k] o λr w=>(∃J:Int,r= .int .i64 J/\(0<=J↔k∈l))/\w=o:=by
 refine a2 func292 (cJ 10 j (ct:=Nat) (λi=>[(0,.slice B l.length c),(1,bN k),(7,.int .i64 (l.length:Nat)),(8,.int .i64 (i:Nat))]) (λi w=>i<=l.length/\k∉l.take i/\w=o) (λi=>l.length-i) 0 ⟨j,j,j,j,aX⟩ ⟨b4 _,by simp,j⟩ ?_);rintro i w ⟨q,aJ,rfl⟩;refine b8 4 j j (λd=>?_) (λd=>?_)
 .have a:i<l.length:=by omega
  refine am 12 j (fp j j j j m (v:=bN l[i]) (by simp [a]) a (λn e p=>?_));subst e;refine ar 0 j (by assumption) (bm 1 j j (λb=>?_) (λb=>?_))
  .refine aq 4 j j ?_;have he:k=l[i]:=d5.1 b;exact⟨⟨_,j,⟨λ_=>by rw [he];exact d9 a,λ_=>by omega⟩⟩,j⟩
  refine bq 2 j j j (cE i (by omega)) (bI 1 j (⟨i+1,⟨j,j,j,j,aX⟩,⟨a,?_,j⟩,by omega⟩));rw [fr a,dv];have g:k≠l[i]:=by have:=fw.1 b;exact this
  simp [aJ,g]
 refine aq 4 j j ?_;have f:i=l.length:=by omega
 exact⟨⟨-1,j,⟨λh=>by omega,λh=>absurd h (EF f aJ)⟩⟩,j⟩
theorem DD{o:World}{B:Option Addr}{l:List Int}{c:Nat}{k:Int}(g:Rd o B (l.map bN))(f:l.length<=1000000):Calls prog 263 #[.slice B l.length c,bN k] o λr w=>r= .bool (decide (k∈l))/\w=o:=by
 refine a2 func263 ?_;have d:=EL (c:=c) (k:=k) g f;refine bk 7 d j (λr w⟨⟨J,e,a⟩,hw⟩=>?_);subst e;subst hw;refine aq 2 j j (⟨aG Value.bool ?_,j⟩);by_cases h:k∈l
 .rw [je h];exact je (a.2 h)
 rw [e4 h];exact e4 (λb=>h (a.1 b))
structure Ext(g:al)(B:Option Addr)(U:List Value)(F:List Nat)(w:World):Prop where
 ring:g.at w
 rd:Rd w B U
 off:g.off F
 ap:bT B U F
theorem Ext.st{g:al}{B:Option Addr}{U:List Value}{F eL:List Nat}{ad:List (List Chunk)}{w aK:World}(h:Ext g B U F w)(c:C w eL ad aK)(a:∀b∈eL,b∈F):Ext g B U F aK:=
 ⟨h.ring.st c (h.off.sub a),c.rd h.rd (h.ap.sub a),h.off,h.ap⟩
theorem Ext.grow{g:al}{B:Option Addr}{U:List Value}{F eL:List Nat}{w:World}(h:Ext g B U F w)(d:∀b∈eL,b∈F\/w.heap.size<=b):Ext g B U eL w:=by
 refine⟨h.ring,h.rd,⟨λc=>(d _ c).elim h.off.r (λf=>?_),λc=>(d _ c).elim h.off.k (λf=>?_)⟩,λi a e c=>(d _ c).elim (h.ap i a e) (λf=>?_)⟩
 .have:=(gv.1 h.ring.ring).1;omega
 .have:=(gv.1 h.ring.keys).1;omega
 .have:=h.rd.lt i e;omega
def ie(g:al)(kind slot view:Int)(sum:List UInt8)(x:aE):Bool:=x.k==kind&&(x.s==slot&&(x.v==view&&(x.sum==sum&&cQ g x)))
def hG(g:al)(kind slot view:Int)(sum:List UInt8)(l:List aE)(i:Nat):List Int:=((l.take i).filter (ie g kind slot view sum)).map aE.f
theorem zC{g:al}{kind slot view:Int}{sum:List UInt8}{l:List aE}{i:Nat}(h:i<l.length)(a:ie g kind slot view sum l[i]=true):hG g kind slot view sum l (i+1)=hG g kind slot view sum l i++[l[i].f]:=by
 unfold hG;rw [fr h,m1,List.map_append];simp [a]
theorem vO{g:al}{kind slot view:Int}{sum:List UInt8}{l:List aE}{i:Nat}(h:i<l.length)(a:ie g kind slot view sum l[i]=false):hG g kind slot view sum l (i+1)=hG g kind slot view sum l i:=by
 unfold hG;rw [fr h,m1,List.map_append];simp [a]
theorem Gi{g:al}{kind slot view:Int}{sum:List UInt8}{l:List aE}{i n:Nat}(h:i<l.length)(aJ:i<n)(d:ie g kind slot view sum l[i]=true):∃r,hG g kind slot view sum l n=hG g kind slot view sum l i++l[i].f::r:=by
 refine⟨(((l.take n).drop (i+1)).filter (ie g kind slot view sum)).map aE.f,?_⟩
 have e:l.take n=l.take (i+1)++(l.take n).drop (i+1):=by
  have b:(l.take n).take (i+1)=l.take (i+1):=by rw [List.take_take,mY (by omega)]
  rw [<-b,m6]
 have a:hG g kind slot view sum l n=hG g kind slot view sum l (i+1)++(((l.take n).drop (i+1)).filter (ie g kind slot view sum)).map aE.f:=by
  unfold hG;rw [e,m1,List.map_append];have c:(l.take (i+1)++(l.take n).drop (i+1)).drop (i+1)=(l.take n).drop (i+1):=by rw [<-e]
  rw [c]
 rw [a,zC h d,dJ];rfl
theorem Gj{o:World}{g:al}{B:Option Addr}{l:List aE}{d:Nat}{kind slot view:Int}{sum:List UInt8}:Calls prog 262 #[g.p,.slice B l.length d,ae kind,ae slot,ae view,.agg (au sum).toArray] o λr w=>∃e f h i b c,r= .func (.func 291) #[] #[ab f,ab h,ab i,ab b,ab c,ab e]/\C o [] [R f #[.slice B l.length d] 51,R h #[ae kind] 3,R i #[ae slot] 3,R b #[ae view] 3,R c (au sum).toArray 37,R e #[g.p] 69] w:=by
 have a:Own [] o:=C.start o;refine a2 func262 (bL 2 a j j (λe w a=>bL 0 a j j (λf w a=>bL 0 a j j (λh w a=>bL 0 a j j (λi w a=>bL 0 a j j (λb w a=>bL 0 a j j (λc w a=>am 3 j (gZ j j j j ?_))))))));exact aq 1 j j ⟨e,f,h,i,b,c,j,a.f1.f2.f3.f4⟩
theorem Gh{q s t u h m:Nat}{g:al}{B:Option Addr}{l:List aE}{d:Nat}{kind slot view:Int}{sum:List UInt8}(aj:g.ok)(Q:∀x∈l,x.ok)(X:sum.length=32)(aB:l.length<=d)(aD:l.length<=1000):Iter prog 291 #[ab s,ab t,ab u,ab h,ab m,ab q] [R s #[.slice B l.length d] 51,R t #[ae kind] 3,R u #[ae slot] 3,R h #[ae view] 3,R m (au sum).toArray 37,R q #[g.p] 69] (λad w=>Ext g B (l.flatMap aE.cs) (av ([R s #[.slice B l.length d] 51,R t #[ae kind] 3,R u #[ae slot] 3,R h #[ae view] 3,R m (au sum).toArray 37,R q #[g.p] 69]++ad)) w) (λ_=>True) (λk:Int=> #[bN k]) (λpre k=>∃r,hG g kind slot view sum l (min l.length 10)=pre++k::r) (λxs=>xs=hG g kind slot view sum l (min l.length 10)):=by
 intro y ax aF ad o a c O _ T aC an;show Calls _ _ #[fL y,ab s,ab t,ab u,ab h,ab m,ab q] o _;obtain⟨K,S⟩:∃K,K=av ([R s #[.slice B l.length d] 51,R t #[ae kind] 3,R u #[ae slot] 3,R h #[ae view] 3,R m (au sum).toArray 37,R q #[g.p] 69]++ad):=⟨_,j⟩;rw [<-S] at O⊢;have a:C o K (R s #[.slice B l.length d] 51::R t #[ae kind] 3::R u #[ae slot] 3::R h #[ae view] 3::R m (au sum).toArray 37::R q #[g.p] 69::ad) o:=S▸a;refine a2 func291 (ar 2 j (a.cell j) (ar 0 j (a.cell j) (am 1 j (pS j j j ?_))));refine bS 13 (.int .i64 ((min l.length 10):Nat)) j (aG (Value.int .i64) (by show min (l.length:Int) 10=_;omega)) (rz (i:=(min l.length 10)) j j j j (by omega) ?_)
 refine cJ 3 j (ct:=Nat×List (List Chunk)) (λi=>[(0,fL y),(1,ab s),(2,ab t),(3,ab u),(4,ab h),(5,ab m),(6,ab q),(14,.slice B (min l.length 10) d),(15,.int .i64 ((min l.length 10):Nat)),(16,.int .i64 (i.1:Nat))])
  (λi w=>i.1<=(min l.length 10)/\ax (hG g kind slot view sum l i.1) i.2 w/\C o K (R s #[.slice B l.length d] 51::R t #[ae kind] 3::R u #[ae slot] 3::R h #[ae view] 3::R m (au sum).toArray 37::R q #[g.p] 69::i.2) w) (λi=>(min l.length 10)-i.1) (0,ad) ⟨j,j,j,j,j,j,j,j,j,j,aX⟩ ⟨b4 _,c,a⟩ ?_
 rintro⟨i,ai⟩ w ⟨ag,c,a⟩;dsimp only at ag c a⊢;refine b8 4 j j (λZ=>?_) (λZ=>?_)
 .have I:i<(min l.length 10):=by omega
  have z:i<l.length:=by omega
  have e:=Q l[i] (d9 z);have ac:=O.st a (λb G=>G);have W:=ac.rd;refine am 5 j (fp j j j j W (v:=ae l[i].k) (ol l Q i z) I (λay aa az=>?_));subst aa;refine bM 0 j j (l[i].len e) (om W Q i z) (b7 0 (C.start _) j (λbv w F=>b6 0 F j j j l[i].one (l[i].len e) (λw F=>?_)));have F:=C.whole (U:=l[i].cs) F (by rw [l[i].len e];rfl);have c:=T _ _ _ _ [] c F.bare (by simp);have a:=a.aL F;refine ar 3 j (a.cell l[i].gJ) (ar 0 j (a.f2.cell j) (am 2 j (cT 24 j (λA=>?_) (λA=>?_))))
  .refine ar 1 j (a.cell l[i].aV) (ar 0 j (a.f3.cell j) (am 3 j (cT 30 j (λE=>?_) (λE=>?_))));refine ar 1 j (a.cell l[i].dp) (ar 0 j (a.f4.cell j) (am 3 j (cT 36 j (λJ=>?_) (λJ=>?_))))
   .refine bM 1 (U:=au l[i].sum) j j (by rw [cL];exact e.1) (a.ij (off:=0+3) (U:=au l[i].sum) (l[i].nY e)) (bM 0 (U:=au sum) j j (by rw [cL];exact X) a.f5.bz (tO j j j j (by kernel_rfl) (λw=>o4 _ _ e.1 X 9998 w) (am 2 j (cT 42 j (λL=>?_) (λL=>?_)))));refine ar 0 j (a.f6.cell j) (bM 0 (U:=l[i].cs) j j (l[i].len e) a.bz ?_);have af:=so ((O.st a (λb G=>G)).ring) aj e;refine bp 0 af j (λw V=>?_);have c:=T _ _ _ _ [] c V (by simp);have a:=a.aL V;refine am 2 j (cT 47 j (λM=>?_) (λM=>?_))
    .refine ar 2 j (a.cell (l[i].eo e)) ?_;have Y:ie g kind slot view sum l[i]=true:=by unfold ie;rw [A,E,J,L,M];rfl
     obtain⟨aw,ak⟩:=Gi (n:=(min l.length 10)) z I Y;have ao:=an (hG g kind slot view sum l i) l[i].f ai _ ⟨aw,ak⟩ c (C.jp (H:=[_,_,_,_,_,_,_]) a);refine jV j j j j ao (λb w⟨aA,ap,G⟩=>?_);have a:=C.jh (H:=[_,_,_,_,_,_,_]) a ap;refine bm 2 j j (λN=>?_) (λN=>?_)
     .refine aq 0 j j ?_;have P:b=false:=by cases b<;>first|rfl|exact absurd N (by decide)
      subst P;exact⟨aA,a.drop,.inr (by simpa using G)⟩
     refine bq 2 j j j (cE i (by omega)) (bI 1 j ?_);have P:b=true:=by cases b<;>first|rfl|exact absurd N (by decide)
     subst P;refine⟨(i+1,aA),⟨j,j,j,j,j,j,j,j,j,j,aX⟩,⟨I,?_,a.drop⟩,by dsimp only;omega⟩;dsimp only;rw [zC z Y];simpa using G
    refine bq 9 j j j (cE i (by omega)) (bI 1 j ?_);have D:ie g kind slot view sum l[i]=false:=by unfold ie;rw [A,E,J,L,M];rfl
    rotate_left
    refine bq 14 j j j (cE i (by omega)) (bI 1 j ?_);have D:ie g kind slot view sum l[i]=false:=by unfold ie;rw [A,E,J,L];rfl
    rotate_left
    all_goals
     refine⟨(i+1,ai),⟨j,j,j,j,j,j,j,j,j,j,aX⟩,⟨I,?_,a.drop⟩,by dsimp only;omega⟩;dsimp only;rw [vO z D];exact c
   refine bq 20 j j j (cE i (by omega)) (bI 1 j ?_);have D:ie g kind slot view sum l[i]=false:=by unfold ie;rw [A,E,J];rfl
   rotate_left
   refine bq 26 j j j (cE i (by omega)) (bI 1 j ?_);have D:ie g kind slot view sum l[i]=false:=by unfold ie;rw [A,E];rfl
   rotate_left
   all_goals
    refine⟨(i+1,ai),⟨j,j,j,j,j,j,j,j,j,j,aX⟩,⟨I,?_,a.drop⟩,by dsimp only;omega⟩;dsimp only;rw [vO z D];exact c
  refine bq 32 j j j (cE i (by omega)) (bI 1 j ?_);have D:ie g kind slot view sum l[i]=false:=by unfold ie;rw [A];rfl
  refine⟨(i+1,ai),⟨j,j,j,j,j,j,j,j,j,j,aX⟩,⟨I,?_,a.drop⟩,by dsimp only;omega⟩;dsimp only;rw [vO z D];exact c
 refine aq 1 j j ?_;have ah:i=(min l.length 10):=by omega
 subst ah;exact⟨ai,a,.inl ⟨_,j,c⟩⟩
theorem Ext.range{g:al}{B:Option Addr}{U:List Value}{H ad:List (List Chunk)}{L:List Chunk}{w aK:World}(h:Ext g B U (av (H++ad)) w)(c:C w [] [L] aK):Ext g B U (av (H++(ad++[L]))) aK:=by
 have d:Ext g B U (av (H++(ad++[L]))) w:=h.grow (λb a=>by
  rw [<-dJ] at a;rcases np.1 a with a|a
  ·exact .inl a
  ·have:=c.own b a;exact .inr (by simpa using this))
 exact d.st c (by simp)
theorem Ext.here{g:al}{B:Option Addr}{U:List Value}{ad:List (List Chunk)}{o w:World}(h:Ext g B U [] o)(a:C o [] ad w):Ext g B U (av ad) w:=
 (h.grow (λb c=>(a.own b c).elim (λh=>.inl h) .inr)).st a (by simp)
def uniq(xs:List Int):List Int:=xs.foldl (λacc k=>if k∈acc then acc else acc++[k]) []
theorem A1(xs:List Int)(k:Int):uniq (xs++[k])=if k∈uniq xs then uniq xs else uniq xs++[k]:=by unfold uniq;rw [List.foldl_append];rfl
theorem tm(xs:List Int):(uniq xs).length<=xs.length:=by
 have:∀(da acc:List Int),(da.foldl (λacc k=>if k∈acc then acc else acc++[k]) acc).length<=acc.length+da.length:=by
  intro da;induction da with
  |nil=>intro acc;simp
  |cons y r a=>
   intro acc;rw [iC];refine ek (a _) ?_;split<;>simp<;>omega
 have h:=this xs [];simp only [ge,fj] at h;exact h
def pB(g:al)(l:List aE)(kind slot view:Int)(sum:List UInt8):List Int:=jQ (uniq (hG g kind slot view sum l (min l.length 10)))
def meets(g:al)(l:List aE)(kind slot view:Int)(sum:List UInt8):Bool:=decide (ii g.keys.length<=(pB g l kind slot view sum).length)
theorem zB(g:al)(l:List aE)(kind slot view:Int)(sum:List UInt8):(hG g kind slot view sum l (min l.length 10)).length<=10:=by
 unfold hG;rw [ff];refine ek (oK _ _) ?_;rw [g9];omega
theorem IR(g:al)(l:List aE)(kind slot view:Int)(sum:List UInt8):(pB g l kind slot view sum).length=(uniq (hG g kind slot view sum l (min l.length 10))).length:=hQ _
theorem IS{o:World}{g:al}{B:Option Addr}{l:List aE}{d:Nat}{kind slot view:Int}{sum:List UInt8}(X:g.ok)(af:∀x∈l,x.ok)(I:sum.length=32)(S:l.length<=d)(V:l.length<=1000)(M:Ext g B (l.flatMap aE.cs) [] o):Calls prog 211 #[g.p,.slice B l.length d,ae kind,ae slot,ae view,.agg (au sum).toArray] o λr w=>∃ag,Row 3 1 r (pB g l kind slot view sum).length ((pB g l kind slot view sum).map bN) ag/\C o [] [ag] w:=by
 have b:Own [] o:=C.start o;refine j2 func211 ?_;refine bL 2 b j j (λq w b=>?_);refine b7 3 b j (λn w b=>?_);have b:C o [] (R n #[.slice none 0 0] 29::_) w:=b;refine bM 8 (U:=au sum) j j (by rw [cL];exact I) b.f1.bz ?_;have m:=Gj (o:=w) (g:=g) (B:=B) (l:=l) (d:=d) (kind:=kind) (slot:=slot) (view:=view) (sum:=sum);refine bk 0 m j (λr w⟨t,u,z,D,s,q,Y,aa⟩=>?_);subst Y;have b:=b.aL aa;have b:C o [] ([R u #[.slice B l.length d] 51,R z #[ae kind] 3,R D #[ae slot] 3,R s #[ae view] 3,R q (au sum).toArray 37,R t #[g.p] 69]++[R n #[.slice none 0 0] 29,[]]) w:=(C.sj (A:=[R u #[.slice B l.length d] 51,R z #[ae kind] 3,R D #[ae slot] 3,R s #[ae view] 3,R q (au sum).toArray 37,R t #[g.p] 69]++[R n #[.slice none 0 0] 29]) b).empty.swap (A:=[[]])|>.perm (by simp)
 have N:=M.here b
 refine j6 1 j (Gh X af I S V) j (by have:=b.size;simpa using this) b j (λ_=>rfl) (by intro p H;simp at H;subst H;rfl)
  (λpre ad=>∃v ag,ad=[R n #[v] 29,ag]/\Row 3 1 v (uniq pre).length ((uniq pre).map bN) ag) (λ_ _=>False) ⟨_,_,j,Row.nil 3 1⟩ (λL aK O=>N.range O) (λ_ _ _ _=>trivial) ?_ ?_ (λ_ _ h=>h.elim) (λ_ _ _ h=>h.elim)
 .rintro y pre x ai L aq ⟨ap,ab⟩ ⟨v,ag,rfl,i⟩ b;have hlen:pre.length<10:=by have E:=zB g l kind slot view sum;rw [ab] at E;simp only [b0,List.length_cons] at E;omega
  refine bD 2 j ?_;refine⟨j,_,C.gy b,λL w b=>?_⟩;have b:=C.gy b;refine ar 3 j (ax (C.aj b) j) ?_;obtain⟨ah,aV,rfl,_,_,Z,_⟩:=i.rd b.f1;have m:=DD (c:=aV) (k:=x) Z (by have:=tm pre;omega);refine bp 1 m j (λw hw=>?_);subst hw;refine bm 1 j j (λf=>?_) (λf=>?_)
  .refine ar 1 j (ax (C.aj b) j) ?_;refine am 1 j (eC b j j j j j j bG (λan w b=>?_));have aJ:=b.bz;refine dR b.f2 i j j (by decide) j j j (news:=[bN x]) j aJ (by simp [Value.oneCell']) (by have:=tm pre;omega) (by have:=tm pre;unfold maxLen;omega) (λv1 J w F b=>?_);have b:=b.f2;refine cB b j j j F.one (by simp) (λw b=>?_);refine bD 0 j ?_;refine⟨_,b.kM,v1,J,j,?_⟩;have W:x∉uniq pre:=by intro h;rw [je h] at f;cases f
   rw [A1,aI W];simpa using F
  refine bD 1 j ?_;refine⟨_,b,_,ag,j,?_⟩
  have T:x∈uniq pre:=by
   rcases oQ (x∈uniq pre) with h|h
   .exact h
   .rw [e4 h] at f;cases f
  rw [A1,a6 T];exact i
 rintro xs ak w G ⟨v,ag,rfl,i⟩ b;have ao:xs.length<=10:=by rw [G];exact zB g l kind slot view sum
 have b:=b.swap;refine ar 2 j (ax (C.aj b) j) ?_;have b:=b.f1;have m:=AF (io:=uniq xs) b.j9 i (by have:=tm xs;omega);refine bk 0 m j (λr w⟨_,K,P,aa⟩=>?_);have b:=(b.iw aa).f1;refine ar 2 j (ax (C.aj b) j) ?_;refine bD 1 j ⟨v,λw ac=>?_⟩;have b:=ac.st b (cI _);refine⟨λa Q=>i8 (fn:=f211) Q j _ _,?_⟩;refine⟨K,?_,b.f1.hR⟩;have e:pB g l kind slot view sum=jQ (uniq xs):=by rw [G];rfl
 rw [e,hQ];exact P
theorem vs{o:World}{g:al}{B:Option Addr}{l:List aE}{d:Nat}{kind slot view:Int}{sum:List UInt8}(c:g.ok)(m:∀x∈l,x.ok)(e:sum.length=32)(i:l.length<=d)(k:l.length<=1000)(b:Ext g B (l.flatMap aE.cs) [] o):Calls prog 169 #[g.p,.slice B l.length d,ae kind,ae slot,ae view,.agg (au sum).toArray] o λr w=>r= .bool (meets g l kind slot view sum)/\C o [] [] w:=by
 have a:Own [] o:=C.start o;refine a2 func169 (bL 2 a j j (λq w a=>am 6 j (bS 15 (.bool true) j (aG Value.bool (j)) ?_)));refine bM 5 (U:=au sum) j j (by rw [cL];exact e) a.bz ?_;have h:=IS c m e i k (b.st a (by simp [av])) (kind:=kind) (slot:=slot) (view:=view);refine bk 0 h j (λr w⟨ag,f,aa⟩=>?_);have a:=a.aL aa;obtain⟨n,aV,rfl,_⟩:=f.rd a;refine bp 2 (mA (b.ring.st a (al.off.nil g))) j (λw hw=>?_);subst hw;refine bp 0 (z6 (by have:=c.n10;omega)) j (λw hw=>?_);subst hw;refine aq 3 j j (⟨aG Value.bool ?_,a.bare⟩);unfold meets;exact oH.2 (by omega)
structure cb where
 k:Int
 p:Int
 e:Int
 t:Int
 deriving DecidableEq
abbrev cb.cs(m:cb):List Value:=[ae m.k,ae m.p,ae m.e,ae m.t]
abbrev cb.ok(m:cb):Bool:=i4 m.k m.p m.e m.t
def cb.enc(m:cb):List UInt8:=d7 [3,m.k,m.p,m.e,m.t]
def cb.sum(m:cb):List UInt8:=br m.enc
theorem cb.wj(m:cb):m.sum.length=32:=eK _
theorem cb.sd(m:cb):m.enc.length<=50:=by have:=fU [3,m.k,m.p,m.e,m.t];simp only [eu,ge] at this;unfold cb.enc;omega
def l7:aE:=⟨0,0,0,cA,0,cA⟩
def dq(g:al)(m:cb)(f:Int):aE:=if m.ok then cX g 3 0 0 m.sum f else l7
theorem I2:l7.ok:=⟨j,j⟩
theorem i3(g:al)(m:cb)(f:Int):(dq g m f).ok:=by unfold dq;split;exact iZ _ _ _ _ _ _ m.wj;exact I2
def qi(g:al)(m:cb)(l:List aE):Bool:=m.ok&&meets g l 3 0 0 m.sum
theorem r8{m:cb}{u v:Value}{i:Nat}(h:m.cs[i]? =some v):(m.cs++[u]).toArray[i]? =some v:=by
 simp only [nb];rw [iU (fk.1 h).1];exact h
theorem vL{b:Bool}(h:((if b=true then(0:Int) else 1) !=0)=true):b=false:=by cases b<;>simp_all
theorem vM{b:Bool}(h:((if b=true then(0:Int) else 1) !=0)=false):b=true:=by cases b<;>simp_all
theorem vK(b:Bool):((if b=true then(0:Int) else 1)==0)=b:=by cases b<;>rfl
theorem sC{o:World}{g:al}(x:g.at o)(y:g.ok){m:cb}{f:Int}:Calls prog 153 #[g.p,.agg m.cs.toArray,ae f] o λr w=>r= .tuple #[.agg (dq g m f).cs.toArray,.bool m.ok]/\C o [] [] w:=by
 have a:Own [] o:=C.start o;refine eV func153 (bL 2 a j j (λD w a=>b7 0 a j (λq w a=>?_)));have a:C o [] (R q (l7).cs.toArray 55::_) w:=a;refine bM 3 (U:=m.cs) j j j a.f1.bz ?_;have d:=uM (o:=w) (k:=m.k) (p:=m.p) (e:=m.e) (t:=m.t);refine bk 0 d j (λr w⟨v,G,z,i,aa⟩=>?_);subst z;have a:=a.aL aa;refine bm 10 j j (λl=>?_) (λl=>?_)
 .have h:m.ok=false:=vL l;refine am 2 j (cN (c:=l7.cs.toArray) j j j (λ_=>by kernel_rfl) ?_);refine c2 a.f1 j j j (by decide) (by decide) (by decide) (λw a=>?_);have a:=C.whole (U:=l7.cs) a j;refine bD 1 j ⟨_,dr (U:=l7.cs) results153 j j j j a.bz,?_⟩;refine⟨?_,a.bare⟩;unfold dq;rw [h];rfl
 have h:m.ok=true:=vM l
 have i:du v m.enc G:=by
  have e:(if i4 m.k m.p m.e m.t=true then d7 [3,m.k,m.p,m.e,m.t] else [])=m.enc:=a6 h;rw [e] at i;exact i
 obtain⟨B,gL,rfl,u,_,A,_⟩:=i.rd a;have d:=nE (p:=m.enc) A (by have:=m.sd;omega) u;refine bk 5 d j (λr w⟨b,n⟩=>?_);have b:r= .agg (au m.sum).toArray:=b;subst b;have a:=a.aL n;have d:=oZ (x.st a (al.off.nil g)) y (k:=3) (s:=0) (v:=0) (f:=f) m.wj;refine bk 1 d j (λr w⟨b,n⟩=>?_);have b:r= .agg (dq g m f).cs.toArray:=by rw [b];unfold dq;rw [if_pos h]
 subst b;have a:=(a.aL n).f1;refine b6 0 a j j j (by simpa using(dq g m f).one) (by rw [List.size_toArray];exact(dq g m f).len (i3 g m f)) (λw a=>?_);have a:=C.whole (U:=(dq g m f).cs) a (by rw [(dq g m f).len (i3 g m f)];rfl);refine bD 1 j ⟨_,dr (U:=(dq g m f).cs) results153 j j j ((dq g m f).len (i3 g m f)) a.bz,?_⟩;refine⟨?_,a.bare⟩;rw [h]
theorem uf{o:World}{g:al}{B:Option Addr}{l:List aE}{d:Nat}{m:cb}(E:g.ok)(J:∀x∈l,x.ok)(A:l.length<=d)(D:l.length<=1000)(y:Ext g B (l.flatMap aE.cs) [] o):Calls prog 114 #[g.p,.agg (m.cs++[Value.slice B l.length d]).toArray] o λr w=>r= .bool (qi g m l)/\C o [] [] w:=by
 have a:Own [] o:=C.start o;refine a2 func114 ?_;refine bL 2 a j j (λu w a=>?_);refine bM 4 (U:=m.cs) j j j (a.ij (off:=0) (U:=m.cs) (λi v I=>by rw [fj];exact r8 I)) ?_;have b:=uM (o:=w) (k:=m.k) (p:=m.p) (e:=m.e) (t:=m.t);refine bk 0 b j (λr w⟨v,G,F,c,aa⟩=>?_);subst F;have a:=a.aL aa;have a:=a.f1;have a:=a.drew;refine bt 6 j (λw=>∃ad,C o [] ([R u (m.cs++[Value.slice B l.length d]).toArray 127]++ad) w) ⟨_,a⟩ ?_;refine af 0 3 j ?_;refine ef 15 j (λh=>?_) (λh=>?_)
 .refine af 3 2 j ?_;refine bR 5 j (λw⟨_,a⟩=>a.cell j) ?_;refine af 6 1 j ?_;refine aR 7 j ?_;have f:m.ok=true:=by have n:=vK (i4 m.k m.p m.e m.t);exact n.symm.trans h
  have c:du v m.enc G:=by
   have e:(if i4 m.k m.p m.e m.t=true then d7 [3,m.k,m.p,m.e,m.t] else [])=m.enc:=a6 f;rw [e] at c;exact c
  obtain⟨K,gL,rfl,z,_,H,_⟩:=c.rd a.f1;have b:=nE (p:=m.enc) H (by have:=m.sd;omega) z;refine cO j j j b (λr w⟨s,q⟩=>?_);have s:r= .agg (au m.sum).toArray:=s;subst s;have a:=a.aL q;refine an ⟨⟨_,a⟩,?_⟩;refine aR 8 j ?_;have b:=vs E J m.wj A D (y.st a (by simp [av])) (kind:=3) (slot:=0) (view:=0);refine bB j j j b (λw q=>?_);have a:=a.aL q;refine an ⟨⟨_,a⟩,?_⟩;refine af 9 2 j ?_;refine bK ?_;refine aq 0 j j ?_;refine⟨aG Value.bool ?_,a.bare⟩;unfold qi;rw [f,rK]
 refine af 3 8 j ?_;refine bK ?_;refine aq 0 j j ?_;refine⟨aG Value.bool ?_,a.bare⟩;have f:m.ok=false:=by have n:=vK (i4 m.k m.p m.e m.t);exact n.symm.trans h
 unfold qi;rw [f,m0]
section
variable {P:Program} {n:Nat} {Z:Env} {w:World} {dst:Option Nat} {ty:TypeId} {pos:String} {after:Array Edge} {g:Option (Nat×Bool)}
theorem pH{t k:TypeId}{x y:Operand}{i J:Nat}(h:bs Z x=some (.int .i64 i))(j:bs Z y=some (.int .i64 J))(l:0<J):
 ∀a,cK Z n a->(execOp a.eval ⟨dst,.binOp .rem t x y k,ty,pos,after,g⟩).run P w= .ok (.value (.int .i64 ((i%J:Nat):Int))) w:=λa b=>by
 have c:¬(J:Int)=0:=by omega
 have d:(i:Int).tmod (J:Int)=((i%J:Nat):Int):=rfl;simp only [execOp,b.eval h,b.eval j];have e:eqGuard .rem t x y (.int .i64 (i:Int)) (.int .i64 (J:Int))=pure ():=rfl
 have f:(binOp .rem t (.int .i64 (i:Int)) (.int .i64 (J:Int))).run P w= .ok (.int .i64 ((i%J:Nat):Int)) w:=by
  show(Op.intDiv .rem .i64 (i:Int) (J:Int)).run P w=_;unfold Op.intDiv;simp only [d,aI c,en]
 simp only [e,dS,en,dZ,f]
theorem gA{t e:TypeId}{x y:Operand}{b I l c J:Nat}{k:IntKind}{z:Value}{size bytes:Nat}[hu:bA P t (.slice e)][i:cm P e z size bytes]
 (f:bs Z x=some (.slice (some ⟨b,I,none⟩) l c)) (h:bs Z y=some (.int k J)) (d:J<l):
 ∀a,cK Z n a->(execOp a.eval ⟨dst,.indexAddr t x y,ty,pos,after,g⟩).run P w= .ok (.value (.pointer (some ⟨b,I+J*size,none⟩))) w:=by
 have:=rp (P:=P) (n:=n) (w:=w) (dst:=dst) (ty:=ty) (pos:=pos) (after:=after) (g:=g) (Z:=Z) (t:=t) (e:=e) (z:=z) (size:=size) (bytes:=bytes) f h d;rw [add_lit] at this;exact this
end
def Flat(A:Option Addr):Prop:=A=none\/∃b I,A=some ⟨b,I,none⟩
theorem Row.flat{e:TypeId}{size:Nat}{A:Option Addr}{n m c:Nat}{xs:List Value}{G:List Chunk}(h:Row e size (.slice A m c) n xs G):Flat A:=by
 rcases h.2 with⟨a,_⟩|⟨g,_,_,a,_⟩
 .cases a;exact .inl j
 .cases a;exact .inr ⟨_,_,j⟩
def nr(s v n:Nat):Nat:=(s%n+v%n)%n
def kb(g:al)(l:List aE)(slot below:Int)(value:List UInt8):Option Int:=match l with
 |[]=>none
 |x::_=>if 0<=x.v/\x.v<below/\meets g l 1 slot x.v (br value)=true then some x.v else none
theorem free_spec{o:World}:Calls prog 172 #[] o λr w=>r= .agg #[ae (-1),.slice none 0 0,.slice none 0 0]/\C o [] [] w:=by
 have a:Own [] o:=C.start o;refine eV func172 (b7 2 a j (λcW w a=>am 2 j (cN (c:= #[ae (-1),.slice none 0 0,.slice none 0 0]) j j j (λ_=>by kernel_rfl) ?_)));refine b6 0 a j j j j j (λw a=>bD 0 j ⟨_,gr results172 j j j (a.bz),?_⟩);exact⟨j,a.bare⟩
theorem yV{o:World}{s v n:Nat}(aM:s<=1000000)(e:v<=1000000)(a:1<=n)(aJ:n<=1000):Calls prog 205 #[.int .i64 s,.int .i64 v,.int .i64 n] o λr w=>r= .int .i64 (nr s v n)/\C o [] [] w:=by
 have b:Own [] o:=C.start o;have c:=jF s a;have d:=jF v a;refine a2 func205 ?_;refine am 9 j (bS 9 (.bool false) j (aG Value.bool (e4 (by omega))) ?_);refine am 4 j (bS 13 (.bool false) j (aG Value.bool (e4 (by omega))) ?_);refine iI 3 j j (e4 (by omega)) ?_;have b:=b.drew;refine bt 2 j (λw=>∃F ad,C o F ad w) ⟨_,_,b⟩ ?_;refine af 0 2 j ?_;refine aT 2 j (λw _=>pH j j a) ?_;refine af 3 2 j ?_;refine aT 5 j (λw _=>pH j j a) ?_;refine aT 6 j (λw _=>ds j j (gm (s%n) (v%n) (by omega))) ?_;refine af 7 1 j ?_;refine aT 8 j (λw _=>pH j j a) ?_;refine af 9 1 j ?_;refine bK ?_;refine aq 0 j j ?_;exact⟨j,b.bare⟩
theorem rh{w:World}{b I:Nat}{x:aE}{l:List aE}(h:Rd w (some ⟨b,I,none⟩) ((x::l).flatMap aE.cs)):w.cell? ⟨b,I+0*68+2,none⟩=some (ae x.v):=by
 have a:=h.cell (J:=2) (v:=ae x.v) (by simp [aE.cs]);rw [add_lit] at a;simpa using a
theorem y0{l:List aE}(h:((l.length:Int)==0)=true):l=[]:=mf (by have:=d5.1 h;omega)
theorem yZ{l:List aE}(h:((l.length:Int)==0)=false):∃x r,l=x::r:=by
 cases l with
 |nil=>simp at h
 |cons x r=>exact⟨x,r,j⟩
theorem u0{B:Option Addr}{w:World}{x:aE}{r:List aE}(d:Flat B)(h:Rd w B ((x::r).flatMap aE.cs)):∃b I,B=some ⟨b,I,none⟩:=by
 rcases d with rfl|c
 .obtain⟨a,e,_⟩:=h 0 (ae x.k) (by simp [aE.cs]);cases e
 .exact c
theorem z2{o:World}{g:al}{B bb:Option Addr}{l:List aE}{value:List UInt8}{d c:Nat}{slot below:Int}(D:g.ok)(G:∀x∈l,x.ok)(q:Flat B)(u:l.length<=d)(z:l.length<=1000)(f:Ext g B (l.flatMap aE.cs) [] o)(s:Rd o bb (au value))(F:value.length<=1000000)(E:value.length<=c):Calls prog 310 #[g.p,.slice B l.length d,ae slot,ae below,.slice bb value.length c] o λr w=>r= .tuple #[ae ((kb g l slot below value).getD (-1)),.bool (kb g l slot below value).isSome]/\C o [] [] w:=by
 have a:Own [] o:=C.start o;refine a2 func310 ?_;have a:=a.drew;refine bt 6 j (λw=>∃ad,C o [] ad w) ⟨_,a⟩ (af 0 4 j (ef 15 j (λi=>?_) (λi=>?_)))
 .refine af 4 27 j (bK (aq 5 j j ?_));have A:=y0 i;subst A;exact⟨j,a.bare⟩
 obtain⟨x,l,rfl⟩:=yZ i;obtain⟨b,I,rfl⟩:=u0 q f.rd;refine af 4 1 j (aT 5 j (λw _=>gA (J:=0) j j (by simp)) (af 6 1 j (bR 7 j (λw⟨_,a⟩=>rh (f.st a (by simp [av])).rd) (af 8 3 j (ef 22 j (λk=>?_) (λk=>?_))))))
 .refine af 11 20 j (bK (aq 5 j j ?_));have e:kb g (x::l) slot below value=none:=aI (λh=>by have:=dz k;omega);rw [e];exact⟨j,a.bare⟩
 refine af 11 1 j (aT 12 j (λw _=>gA (J:=0) j j (by simp)) (af 13 1 j (bR 14 j (λw⟨_,a⟩=>rh (f.st a (by simp [av])).rd) (af 15 4 j (ef 30 j (λm=>?_) (λm=>?_))))))
 .refine af 19 12 j (bK (aq 5 j j ?_));have e:kb g (x::l) slot below value=none:=aI (λh=>by have:=dz m;omega);rw [e];exact⟨j,a.bare⟩
 refine af 19 4 j (aT 23 j (λw _=>gA (J:=0) j j (by simp)) (af 24 1 j (bR 25 j (λw⟨_,a⟩=>rh (f.st a (by simp [av])).rd) (af 26 1 j (aR 27 j (bB j j j (nE (a.rd s (bT.of_nil _ _)) F E) (λw aa=>?_)))))));have a:=a.aL aa;refine an ⟨⟨_,a⟩,?_⟩;refine aR 28 j ?_;have t:=vs D G (eK value) u z (f.st a (by simp [av])) (kind:=1) (slot:=slot) (view:=x.v);refine bB j j j t (λw y=>?_);have a:=a.aL y;refine an ⟨⟨_,a⟩,?_⟩;refine af 29 2 j (bK (bm 0 j j (λn=>?_) (λn=>?_)))
 .refine aq 4 j j ?_;have hm:meets g (x::l) 1 slot x.v (br value)=false:=by simpa using n
  have e:kb g (x::l) slot below value=none:=aI (λh=>by rw [hm] at h;exact absurd h.2.2 (by decide));rw [e];exact⟨j,a.bare⟩
 refine am 4 j (dN j j (gA (J:=0) j j (by simp)) ?_);refine ar 1 j (rh (f.st a (by simp [av])).rd) (aq 2 j j ?_);have hm:meets g (x::l) 1 slot x.v (br value)=true:=by simpa using n
 have e:kb g (x::l) slot below value=some x.v:=a6 ⟨by have:=dM k;omega,by have:=dM m;omega,hm⟩;rw [e];exact⟨j,a.bare⟩
abbrev vcs(l:List aE):List Value:=l.flatMap aE.cs
abbrev et(v:Value)(l:List aE)(G:List Chunk):Prop:=Row 55 68 v l.length (vcs l) G
theorem tp:∀(l:List aE),(∀x∈l,x.ok)->(vcs l).length=l.length*68
 |[],_=>rfl
 |x::r,h=>by
  show(x.cs++vcs r).length=_;rw [b0,x.len (h x (by simp)),tp r (λy a=>h y (by simp [a])),List.length_cons];omega
theorem tq(l:List aE):∀u∈vcs l,u.oneCell'=true:=by
 intro u hu;obtain⟨x,_,a⟩:=nQ.1 hu;exact jX.1 x.one u a
theorem qx{o:World}{A B:Option Addr}{xs da:List UInt8}{c d:Nat}(a:Rd o A (au xs))(b:Rd o B (au da)):Calls prog 186 #[.slice A xs.length c,.slice B da.length d] o λr w=>r= .bool (decide (xs=da))/\w=o:=by
 refine a2 func186 (am 6 j (wQ j j j a ?_));refine am 1 j (wQ j j j b ?_);exact ov j j j j (aq 1 j j ⟨aG Value.bool (nD xs da),j⟩)
theorem lb{o:World}{B:Option Addr}{l:List aE}{d:Nat}(h:Rd o B (vcs l))(q:∀x∈l,x.ok)(s:l.length<=1000):Calls prog 62 #[.slice B l.length d] o λr w=>∃G,et r l G/\C o [] [G] w:=by
 have b:Own [] o:=C.start o;refine a2 func62 (am 7 j (wL j j j ?_));refine bm 0 j j (λfG=>?_) (λfG=>?_)
 .refine aq 3 j j ?_
  have p:l=[]:=by
   cases l with
   |nil=>rfl
   |cons x r=>obtain⟨a,n,_⟩:=h 0 (ae x.k) (by simp [aE.cs]);rw [n] at fG;cases fG
  subst p;exact⟨[],Row.nil _ _,b.empty⟩
 refine am 3 j (pL (e:=55) (c:= #[]) b j j j (λw=>by kernel_rfl) (λf w b=>?_));have m:Row 55 68 (.slice (some ⟨f,0,none⟩) 0 0) 0 [] (R f #[] 55):=Row.made (by decide) (by decide);refine am 1 j (dR b m j j (by decide) j j j (news:=vcs l) (tp l q) (b.rd h (bT.of_nil _ _)) (tq l) (by omega) (by unfold maxLen;omega) (λv1 i w g b=>?_));refine aq 1 j j (⟨i,?_,b⟩);rw [fj,kI] at g;exact g
structure gB where
 v:Int
 A:Option Addr
 x:List UInt8
 c:Nat
 B:Option Addr
 l:List aE
 d:Nat
abbrev gB.cs(k:gB):List Value:=[ae k.v,.slice k.A k.x.length k.c,.slice k.B k.l.length k.d]
structure gB.ok(k:gB)(w:World):Prop where
 q0:Rd w k.A (au k.x)
 sY:Rd w k.B (vcs k.l)
 sH:∀x∈k.l,x.ok
 pD:k.x.length<=k.c
 yU:k.l.length<=k.d
 tz:k.x.length<=1000
 c3:k.l.length<=1000
 hx:Flat k.B
theorem gB.ok.st{k:gB}{o w:World}{ad:List (List Chunk)}(h:k.ok o)(a:C o [] ad w):k.ok w:=
 ⟨a.rd h.q0 (bT.of_nil _ _),a.rd h.sY (bT.of_nil _ _),h.sH,h.pD,h.yU,h.tz,h.c3,h.hx⟩
def may(g:al)(a:Int)(b:List UInt8)(slot view:Int)(value:List UInt8)(dK:List aE):Bool:=
 a== -1||(decide (b=value)||match kb g dK slot view value with|some v=>decide (v>a)|none=>false)
theorem FO{o:World}{g:al}{k:gB}{B bb:Option Addr}{l:List aE}{value:List UInt8}{d c:Nat}{slot view:Int}(z:g.ok)(aa:k.ok o)(E:∀x∈l,x.ok)(n:Flat B)(t:l.length<=d)(y:l.length<=1000)(q:Ext g B (l.flatMap aE.cs) [] o)(m:Rd o bb (au value))(D:value.length<=1000000)(A:value.length<=c):Calls prog 280 #[g.p,.agg k.cs.toArray,ae slot,ae view,.slice bb value.length c,.slice B l.length d] o λr w=>r= .bool (may g k.v k.x slot view value l)/\C o [] [] w:=by
 have a:Own [] o:=C.start o;refine a2 func280 (bL 2 a j j (λi w a=>?_));have a:C o [] [R i k.cs.toArray 284] w:=a;refine ar 5 j (ax (C.aj a) j) (am 2 j (cT 18 j (λb=>?_) (λb=>?_)))
 .refine aq 9 j j (⟨aG Value.bool ?_,a.bare⟩);unfold may;rw [b];rfl
 refine ar 1 j (ax (C.aj a) j) (bp 1 (qx (aa.st a).q0 (a.rd m (bT.of_nil _ _))) j (λw hw=>?_));subst hw;refine bm 1 j j (λe=>?_) (λe=>?_)
 .refine aq 3 j j (⟨aG Value.bool ?_,a.bare⟩);unfold may;rw [b,e];rfl
 have s:=z2 z E n t y (q.st a (by simp)) (a.rd m (bT.of_nil _ _)) D A (slot:=slot) (below:=view);refine bp 8 s j (λw u=>?_);have a:=a.aL u;have a:C o [] ([R i k.cs.toArray 284]++_) w:=a;refine am 1 j (bS 24 (.tuple #[ae ((kb g l slot view value).getD (-1)),.bool (kb g l slot view value).isSome]) j j ?_);refine am 8 j (cT 34 j (λf=>?_) (λf=>?_))
 .refine ar 2 j (ax (C.aj a) j) (aq 3 j j (⟨aG Value.bool ?_,a.bare⟩));obtain⟨v,h⟩:=ha.1 f;unfold may;rw [b,e,h];rfl
 refine aq 6 j j (⟨aG Value.bool ?_,a.bare⟩);have h:kb g l slot view value=none:=by simpa using f
 unfold may;rw [b,e,h];rfl
def ky(g:al)(slot below:Int)(x:List UInt8)(l:List aE):Int×List UInt8×List aE:=match kb g l slot below x with
 |some v=>(v,x,l)
 |none=>(-1,[],[])
structure gB.own(k:gB)(ai aA:List Chunk):Prop where
 x:du (.slice k.A k.x.length k.c) k.x ai
 l:et (.slice k.B k.l.length k.d) k.l aA
abbrev gB.P(k:gB):Int×List UInt8×List aE:=(k.v,k.x,k.l)
def qM:List Value:=[ae 0,.slice none 0 0,.slice none 0 0]
def mv:gB:=⟨-1,none,[],0,none,[],0⟩
theorem y2:mv.own [] []:=⟨Row.nil _ _,Row.nil _ _⟩
theorem z1{o:World}{g:al}{k:gB}{slot below:Int}(G:g.ok)(aa:k.ok o)(F:Ext g k.B (k.l.flatMap aE.cs) [] o):Calls prog 334 #[g.p,ae slot,ae below,.agg k.cs.toArray] o λr w=>∃(q:gB)(ai aA:List Chunk),r= .agg q.cs.toArray/\q.own ai aA/\q.P=ky g slot below k.x k.l/\C o [] [ai,aA] w:=by
 have a:Own [] o:=C.start o;refine eV func334 (bL 2 a j j (λy w a=>b7 0 a j (λn w a=>?_)));have a:C o [] [R y k.cs.toArray 284,R n (qM).toArray 284] w:=a.f1;refine ar 4 j (ax (C.aj a) j) (ar 3 j (ax (C.aj a) j) ?_);have m:=z2 G aa.sH aa.hx aa.yU aa.c3 (F.st a (by simp)) (aa.st a).q0 (by have:=aa.tz;omega) aa.pD (slot:=slot) (below:=below);refine bp 0 m j (λw b=>?_);have a:=a.aL b;have a:C o [] [R y k.cs.toArray 284,R n (qM).toArray 284] w:=a;refine bm 10 j j (λz=>?_) (λz=>?_)
 .refine bp 2 free_spec j (λw b=>?_);have a:=(a.aL b).f1;refine c2 a j j j j j (by decide) (λw a=>?_);have a:=C.whole (U:=mv.cs) a j;refine bD 0 j ⟨_,gr (U:=mv.cs) results334 j j j a.bz,?_⟩;have u:kb g k.l slot below k.x=none:=by simpa using z
  exact⟨mv,[],[],j,y2,by unfold ky;rw [u];rfl,a.bare.empty.empty⟩
 obtain⟨v,u⟩:=ha.1 (show(kb g k.l slot below k.x).isSome=true by simpa using z);have a:=a.drew;refine bt 2 j (λw=>∃ad,C o [] ([R y k.cs.toArray 284,R n (qM).toArray 284]++ad) w) ⟨_,a⟩ (iY 9 (ae v) j (by rw [u];rfl) (af 0 2 j (bR 2 j (λw⟨_,a⟩=>a.cell j) (af 5 1 j (bR 6 j (λw⟨_,a⟩=>a.cell j) (aO 3 4 j j ?_ ?_))))));have m:=g2 (c:=k.c) (aa.st a).q0 (by have:=aa.tz;omega);refine cO j j j m (λr w⟨ai,s,b⟩=>?_);have a:=(a.aL b).f1.f2.f1;obtain⟨d,aV,rfl⟩:∃A c,r= .slice A k.x.length c:=by obtain⟨A,c,h,_⟩:=s.form;exact⟨A,c,h⟩
 refine an ⟨⟨_,a⟩,?_⟩;refine aR 4 j (pL (e:=55) (c:= #[]) a j j j (λw=>by kernel_rfl) (λi w a=>?_));have D:Row 55 68 (.slice (some ⟨i,0,none⟩) 0 0) 0 [] (R i #[] 55):=Row.made (by decide) (by decide);have a:=a.f1.f2.f1;refine an ⟨⟨_,a⟩,?_⟩;refine aR 7 j (dR a.f2 D j j (by decide) j j j (news:=vcs k.l) (tp k.l aa.sH) (aa.st a).sY (tq k.l) (by have:=aa.c3;omega) (by have:=aa.c3;unfold maxLen;omega) (λv2 E w t a=>?_));rotate_left
 refine pL (e:=55) (c:= #[]) a j j j (λw=>by kernel_rfl) (λi w a=>?_);have D:Row 55 68 (.slice (some ⟨i,0,none⟩) 0 0) 0 [] (R i #[] 55):=Row.made (by decide) (by decide);have a:=a.f1.f2.f1;refine an ⟨⟨_,a⟩,?_⟩;refine aR 3 j ?_;have m:=g2 (c:=k.c) (aa.st a).q0 (by have:=aa.tz;omega);refine cO j j j m (λr w⟨ai,s,b⟩=>?_);have a:=(a.aL b).f1.f2.f1;obtain⟨d,aV,rfl⟩:∃A c,r= .slice A k.x.length c:=by obtain⟨A,c,h,_⟩:=s.form;exact⟨A,c,h⟩
 refine an ⟨⟨_,a⟩,?_⟩;refine aR 7 j (dR a.f3 D j j (by decide) j j j (news:=vcs k.l) (tp k.l aa.sH) (aa.st a).sY (tq k.l) (by have:=aa.c3;omega) (by have:=aa.c3;unfold maxLen;omega) (λv2 E w t a=>?_));rotate_left
 all_goals
  have a:=a.f1.f2.f1;rw [fj,kI] at t;obtain⟨f,dp,rfl⟩:∃A c,v2= .slice A k.l.length c:=by obtain⟨A,c,h,_⟩:=t.form;exact⟨A,c,h⟩
  refine an ⟨⟨_,a⟩,?_⟩;refine aT 8 j (λw _=>e3 (c:=(⟨v,d,k.x,aV,f,k.l,dp⟩:gB).cs.toArray) j (λ_=>by kernel_rfl)) (dA 9 j (c2 a.f1 j j j j j bG (λw a=>?_)));have a:C o [] (R n ((⟨v,d,k.x,aV,f,k.l,dp⟩:gB).cs).toArray 284::_) w:=C.whole (U:=(⟨v,d,k.x,aV,f,k.l,dp⟩:gB).cs) a j;refine an (cU (bD 0 j ⟨_,gr (U:=(⟨v,d,k.x,aV,f,k.l,dp⟩:gB).cs) results334 j j j a.bz,?_⟩));exact⟨(⟨v,d,k.x,aV,f,k.l,dp⟩:gB),ai,E,j,⟨s,t⟩,by unfold ky;rw [u],C.kM (a.f2.f3)⟩
def lf(g:al)(slot below:Int)(b:List UInt8)(a:List aE)(c:List UInt8)(a8:List aE):Int×List UInt8×List aE:=
 if(ky g slot below c a8).1>(ky g slot below b a).1 then ky g slot below c a8 else ky g slot below b a
theorem EB{o:World}{g:al}{a b:gB}{slot below:Int}(u:g.ok)(E:a.ok o)(F:b.ok o)(z:Ext g a.B (a.l.flatMap aE.cs) [] o)(D:Ext g b.B (b.l.flatMap aE.cs) [] o):Calls prog 311 #[g.p,ae slot,ae below,.agg a.cs.toArray,.agg b.cs.toArray] o λr w=>∃(q:gB)(ai aA:List Chunk),r= .agg q.cs.toArray/\q.own ai aA/\q.P=lf g slot below a.x a.l b.x b.l/\C o [] [ai,aA] w:=by
 have c:Own [] o:=C.start o;refine eV func311 (bL 2 c j j (λf w c=>bL 0 c j j (λh w c=>b7 0 c j (λt w c=>?_))));have c:C o [] ([R f (a.cs).toArray 284,R h (b.cs).toArray 284,R t (qM).toArray 284]++[]) w:=c.f1.f2;have c:=c.drew;refine bt 1 j (λw=>∃ad,C o [] ([R f (a.cs).toArray 284,R h (b.cs).toArray 284,R t (qM).toArray 284]++ad) w) ⟨_,c⟩ (af 0 3 j (aT 3 j (λw⟨_,c⟩=>c4 (U:=a.cs) j j j c.bz) (af 5 3 j (aT 8 j (λw⟨_,c⟩=>c4 (U:=b.cs) j j j (C.f1 c).bz) (aR 4 j ?_)))));have m:=z1 u (E.st c) (z.st c (by simp)) (slot:=slot) (below:=below);refine cO j j j m (λr w⟨d,ai,aA,s,G,v,n⟩=>?_);subst s;have c:=C.swap (A:=[ai,aA]) (c.aL n);refine an ⟨⟨_,c⟩,?_⟩;refine aR 9 j ?_;have m:=z1 u (F.st c) (D.st c (by simp)) (slot:=slot) (below:=below);refine cO j j j m (λr w⟨e,bl,cv,s,H,y,n⟩=>?_);subst s;have c:=C.swap (A:=[bl,cv]) (c.aL n);refine an ⟨⟨_,c⟩,?_⟩;refine dA 10 j (c2 c j j j j j bG (λw c=>?_));have c:C o [] (R f (d.cs).toArray 284::_) w:=C.whole (U:=d.cs) c j;refine an (j7 11 j (c2 c.f1 j j j j j bG (λw c=>?_)));have c:C o [] (R h (e.cs).toArray 284::_) w:=C.whole (U:=e.cs) c j;have c:=c.f1;refine an (cU (ar 4 j (c.f1.cell j) (ar 1 j (c.cell j) (b8 1 j j (λi=>?_) (λi=>?_)))))
 .refine bM 2 (U:=e.cs) j j j c.f1.bz (b6 0 c.f2 j j j j j (λw c=>?_));have c:=C.whole (U:=e.cs) c j;refine bD 0 j ⟨_,gr (U:=e.cs) results311 j j j c.bz,?_⟩;have k:=i;refine⟨e,bl,cv,j,H,?_,c.drop.drop.drop.drop.drop⟩;unfold lf;rw [<-v,<-y,a6 k]
 refine bM 3 (U:=d.cs) j j j c.bz (b6 0 c.f2 j j j j j (λw c=>?_));have c:=C.whole (U:=d.cs) c j;refine bD 0 j ⟨_,gr (U:=d.cs) results311 j j j c.bz,?_⟩;have k:=i;refine⟨d,ai,aA,j,G,?_,c.drop.drop.drop.kM⟩;unfold lf;rw [<-v,<-y,aI k]
structure aW where
 k:Int
 f:Int
 to:Int
 s:Int
 v:Int
 x:List UInt8
 l:List aE
 tag:List UInt8
abbrev aC.P(m:aC):aW:=⟨m.k,m.f,m.to,m.s,m.v,m.x,m.l,m.tag⟩
structure aC.own(m:aC)(ai aA:List Chunk):Prop where
 x:du (.slice m.A m.x.length m.c) m.x ai
 l:et (.slice m.B m.l.length m.d) m.l aA
structure aC.fit(m:aC):Prop where
 x:m.x.length<=1000000
 l:m.l.length<=1000
abbrev bf(b:Nat)(m:aC):List Chunk:=R b m.cs.toArray 53
theorem aC.q5(m:aC)(A:Option Addr)(c:Nat):m.cs.toArray.setIfInBounds 5 (.slice A m.x.length c)=({m with A:=A,c:=c}:aC).cs.toArray:=by
 apply fx;simp [aC.cs]
theorem aC.mJ(m:aC)(B:Option Addr)(d:Nat):m.cs.toArray.setIfInBounds 6 (.slice B m.l.length d)=({m with B:=B,d:=d}:aC).cs.toArray:=by
 apply fx;simp [aC.cs]
def dP:aC:=⟨0,0,0,0,0,none,[],0,none,[],0,cA⟩
theorem aC.bU(m:aC)(h:m.tag.length=32):m.cs.length=39:=by simp [aC.cs,h]
theorem xN{o:World}{m:aC}(hm:m.ok o)(bw:m.fit):Calls prog 143 #[.agg m.cs.toArray] o λr w=>∃(q:aC)(ai aA:List Chunk),r= .agg q.cs.toArray/\q.own ai aA/\q.P=m.P/\C o [] [ai,aA] w:=by
 have a:Own [] o:=C.start o;refine eV func143 (bL 2 a j j (λaz w a=>b7 0 a j (λaO w a=>?_)));have a:C o [] ([bf az m,bf aO dP]++[]) w:=a.f1;have a:=a.drew;refine bt 1 j (λw=>∃ad,C o [] ([bf az m,bf aO dP]++ad) w) ⟨_,a⟩ (af 0 1 j (bR 1 j (λw⟨_,a⟩=>a.cell m.gk) (af 3 1 j (bR 4 j (λw⟨_,a⟩=>a.cell m.eU) (aR 2 j ?_)))));have f:=g2 (c:=m.c) (hm.st a).x (by have:=bw.x;omega);refine cO j j j f (λr w⟨ai,i,g⟩=>?_);obtain⟨b,aV,rfl⟩:∃A c,r= .slice A m.x.length c:=by obtain⟨A,c,h,_⟩:=i.form;exact⟨A,c,h⟩
 have a:=C.swap (A:=[ai]) (a.aL g);refine an ⟨⟨_,a⟩,?_⟩;refine af 6 1 j (aR 5 j ?_);have f:=lb (d:=m.d) (hm.st a).l hm.aH bw.l;refine cO j j j f (λr w⟨aA,k,g⟩=>?_);obtain⟨e,d1,rfl⟩:∃A c,r= .slice A m.l.length c:=by obtain⟨A,c,h,_⟩:=k.form;exact⟨A,c,h⟩
 have a:=C.swap (A:=[aA]) (a.aL g);refine an ⟨⟨_,a⟩,?_⟩;refine dA 7 j (cB a j j j j (by rw [hA,m.bU hm.tag];decide) (λw a=>?_));have a:C o [] (bf az ({m with A:=b,c:=aV}:aC)::_) w:=C.gg a (m.q5 b aV);refine an (j7 8 j (ru j j j (an (j7 9 j (cB a j j j j (by rw [List.size_toArray,(({m with A:=b,c:=aV}:aC)).bU hm.tag];decide) (λw a=>?_))))));have a:C o [] (bf az ({m with A:=b,c:=aV,B:=e,d:=d1}:aC)::_) w:=C.gg a ((({m with A:=b,c:=aV}:aC)).mJ e d1);refine an (cU (bM 2 (U:=({m with A:=b,c:=aV,B:=e,d:=d1}:aC).cs) j j ((({m with A:=b,c:=aV,B:=e,d:=d1}:aC)).bU hm.tag) a.bz (c2 a.f1 j j j (by simpa using({m with A:=b,c:=aV,B:=e,d:=d1}:aC).one) (by rw [List.size_toArray];exact(({m with A:=b,c:=aV,B:=e,d:=d1}:aC)).bU hm.tag) (by decide) (λw a=>?_))));have a:=C.whole (U:=({m with A:=b,c:=aV,B:=e,d:=d1}:aC).cs) a (by rw [(({m with A:=b,c:=aV,B:=e,d:=d1}:aC)).bU hm.tag];rfl);refine bD 0 j ⟨_,gr (U:=({m with A:=b,c:=aV,B:=e,d:=d1}:aC).cs) results143 j j ((({m with A:=b,c:=aV,B:=e,d:=d1}:aC)).bU hm.tag) a.bz,?_⟩;exact⟨({m with A:=b,c:=aV,B:=e,d:=d1}:aC),ai,aA,j,⟨i,k⟩,j,a.drop.drop.kM⟩
theorem xM{o:World}{m:aC}(hm:m.ok o)(bw:m.fit):Calls prog 28 #[.agg m.cs.toArray] o λr w=>∃(q:aC)(ai aA:List Chunk),r= .agg q.cs.toArray/\q.own ai aA/\q.P=m.P/\C o [] [ai,aA] w:=by
 have a:Own [] o:=C.start o;refine eV func28 (bL 2 a j j (λaz w a=>b7 0 a j (λaO w a=>?_)));have a:C o [] ([bf az m,bf aO dP]++[]) w:=a.f1;have a:=a.drew;refine bt 1 j (λw=>∃ad,C o [] ([bf az m,bf aO dP]++ad) w) ⟨_,a⟩ (af 0 1 j (bR 1 j (λw⟨_,a⟩=>a.cell m.gk) (af 3 1 j (bR 4 j (λw⟨_,a⟩=>a.cell m.eU) (aR 2 j ?_)))));have f:=g2 (c:=m.c) (hm.st a).x (by have:=bw.x;omega);refine cO j j j f (λr w⟨ai,i,g⟩=>?_);obtain⟨b,aV,rfl⟩:∃A c,r= .slice A m.x.length c:=by obtain⟨A,c,h,_⟩:=i.form;exact⟨A,c,h⟩
 have a:=C.swap (A:=[ai]) (a.aL g);refine an ⟨⟨_,a⟩,?_⟩;refine af 6 1 j (aR 5 j ?_);have f:=lb (d:=m.d) (hm.st a).l hm.aH bw.l;refine cO j j j f (λr w⟨aA,k,g⟩=>?_);obtain⟨e,d1,rfl⟩:∃A c,r= .slice A m.l.length c:=by obtain⟨A,c,h,_⟩:=k.form;exact⟨A,c,h⟩
 have a:=C.swap (A:=[aA]) (a.aL g);refine an ⟨⟨_,a⟩,?_⟩;refine dA 7 j (cB a j j j j (by rw [hA,m.bU hm.tag];decide) (λw a=>?_));have a:C o [] (bf az ({m with A:=b,c:=aV}:aC)::_) w:=C.gg a (m.q5 b aV);refine an (j7 8 j (ru j j j (an (j7 9 j (cB a j j j j (by rw [List.size_toArray,(({m with A:=b,c:=aV}:aC)).bU hm.tag];decide) (λw a=>?_))))));have a:C o [] (bf az ({m with A:=b,c:=aV,B:=e,d:=d1}:aC)::_) w:=C.gg a ((({m with A:=b,c:=aV}:aC)).mJ e d1);refine an (cU (bM 2 (U:=({m with A:=b,c:=aV,B:=e,d:=d1}:aC).cs) j j ((({m with A:=b,c:=aV,B:=e,d:=d1}:aC)).bU hm.tag) a.bz (c2 a.f1 j j j (by simpa using({m with A:=b,c:=aV,B:=e,d:=d1}:aC).one) (by rw [List.size_toArray];exact(({m with A:=b,c:=aV,B:=e,d:=d1}:aC)).bU hm.tag) (by decide) (λw a=>?_))));have a:=C.whole (U:=({m with A:=b,c:=aV,B:=e,d:=d1}:aC).cs) a (by rw [(({m with A:=b,c:=aV,B:=e,d:=d1}:aC)).bU hm.tag];rfl);refine bD 0 j ⟨_,gr (U:=({m with A:=b,c:=aV,B:=e,d:=d1}:aC).cs) results28 j j ((({m with A:=b,c:=aV,B:=e,d:=d1}:aC)).bU hm.tag) a.bz,?_⟩;exact⟨({m with A:=b,c:=aV,B:=e,d:=d1}:aC),ai,aA,j,⟨i,k⟩,j,a.drop.drop.kM⟩
theorem DF{o:World}{m:aC}(hm:m.ok o)(bw:m.fit):Calls prog 197 #[.agg m.cs.toArray] o λr w=>∃(q:aC)(ai aA:List Chunk),r= .agg q.cs.toArray/\q.own ai aA/\q.P=m.P/\C o [] [ai,aA] w:=by
 have a:Own [] o:=C.start o;refine eV func197 (bL 2 a j j (λaz w a=>b7 0 a j (λaO w a=>?_)));have a:C o [] ([bf az m,bf aO dP]++[]) w:=a.f1;have a:=a.drew;refine bt 1 j (λw=>∃ad,C o [] ([bf az m,bf aO dP]++ad) w) ⟨_,a⟩ (af 0 1 j (bR 1 j (λw⟨_,a⟩=>a.cell m.gk) (af 3 1 j (bR 4 j (λw⟨_,a⟩=>a.cell m.eU) (aR 2 j ?_)))));have f:=g2 (c:=m.c) (hm.st a).x (by have:=bw.x;omega);refine cO j j j f (λr w⟨ai,i,g⟩=>?_);obtain⟨b,aV,rfl⟩:∃A c,r= .slice A m.x.length c:=by obtain⟨A,c,h,_⟩:=i.form;exact⟨A,c,h⟩
 have a:=C.swap (A:=[ai]) (a.aL g);refine an ⟨⟨_,a⟩,?_⟩;refine af 6 1 j (aR 5 j ?_);have f:=lb (d:=m.d) (hm.st a).l hm.aH bw.l;refine cO j j j f (λr w⟨aA,k,g⟩=>?_);obtain⟨e,d1,rfl⟩:∃A c,r= .slice A m.l.length c:=by obtain⟨A,c,h,_⟩:=k.form;exact⟨A,c,h⟩
 have a:=C.swap (A:=[aA]) (a.aL g);refine an ⟨⟨_,a⟩,?_⟩;refine dA 7 j (cB a j j j j (by rw [hA,m.bU hm.tag];decide) (λw a=>?_));have a:C o [] (bf az ({m with A:=b,c:=aV}:aC)::_) w:=C.gg a (m.q5 b aV);refine an (j7 8 j (ru j j j (an (j7 9 j (cB a j j j j (by rw [List.size_toArray,(({m with A:=b,c:=aV}:aC)).bU hm.tag];decide) (λw a=>?_))))));have a:C o [] (bf az ({m with A:=b,c:=aV,B:=e,d:=d1}:aC)::_) w:=C.gg a ((({m with A:=b,c:=aV}:aC)).mJ e d1);refine an (cU (bM 2 (U:=({m with A:=b,c:=aV,B:=e,d:=d1}:aC).cs) j j ((({m with A:=b,c:=aV,B:=e,d:=d1}:aC)).bU hm.tag) a.bz (c2 a.f1 j j j (by simpa using({m with A:=b,c:=aV,B:=e,d:=d1}:aC).one) (by rw [List.size_toArray];exact(({m with A:=b,c:=aV,B:=e,d:=d1}:aC)).bU hm.tag) (by decide) (λw a=>?_))));have a:=C.whole (U:=({m with A:=b,c:=aV,B:=e,d:=d1}:aC).cs) a (by rw [(({m with A:=b,c:=aV,B:=e,d:=d1}:aC)).bU hm.tag];rfl);refine bD 0 j ⟨_,gr (U:=({m with A:=b,c:=aV,B:=e,d:=d1}:aC).cs) results197 j j ((({m with A:=b,c:=aV,B:=e,d:=d1}:aC)).bU hm.tag) a.bz,?_⟩;exact⟨({m with A:=b,c:=aV,B:=e,d:=d1}:aC),ai,aA,j,⟨i,k⟩,j,a.drop.drop.kM⟩
def fA(q:aC)(G:List Chunk):Prop:=∃ai aA,G=ai++aA/\q.own ai aA/\q.tag.length=32/\(∀x∈q.l,x.ok)/\q.fit
def fF:List aC->List Chunk->Prop
 |[],G=>G=[]
 |q::r,G=>∃ai aA,G=ai++aA/\fA q ai/\fF r aA
abbrev fV(l:List aC):List Value:=l.flatMap aC.cs
def lA(v:Value)(l:List aC)(G:List Chunk):Prop:=∃ag aA,G=ag++aA/\Row 53 39 v l.length (fV l) ag/\fF l aA
theorem fF.tag:∀{l:List aC}{G:List Chunk},fF l G->∀q∈l,q.tag.length=32
 |[],_,_,q,b=>by simp at b
 |a::r,_,⟨_,_,_,⟨_,_,_,_,d,_⟩,c⟩,q,b=>by
  rcases g1.1 b with rfl|b
  .exact d
  .exact c.tag q b
theorem fF.app:∀{l m:List aC}{G H:List Chunk},fF l G->fF m H->fF (l++m) (G++H)
 |[],m,G,H,h,k=>by have:G=[]:=h;subst this;exact k
 |a::r,m,_,H,⟨ai,aA,rfl,b,c⟩,k=>⟨ai,aA++H,by rw [dJ],b,c.app k⟩
theorem fF.one{q:aC}{G:List Chunk}(h:fA q G):fF [q] G:=⟨G,[],by simp,h,j⟩
theorem yt:∀(l:List aC),(∀q∈l,q.tag.length=32)->(fV l).length=l.length*39
 |[],_=>rfl
 |q::r,h=>by
  show(q.cs++fV r).length=_;rw [b0,q.bU (h q (by simp)),yt r (λy a=>h y (by simp [a])),List.length_cons];omega
theorem sk(l:List aC):∀u∈fV l,u.oneCell'=true:=by
 intro u hu;obtain⟨x,_,a⟩:=nQ.1 hu;exact jX.1 x.one u a
theorem lA.nil:lA (.slice none 0 0) [] []:=⟨[],[],j,Row.nil _ _,j⟩
section
variable {α:Type} {V:Value->α->List Chunk->Prop}
def c7(V:Value->α->List Chunk->Prop):List (Int×Value)->List (Int×α)->List Chunk->Prop
 |[],[],G=>G=[]
 |p::m,q::t,G=>p.1=q.1/\∃ai aA,G=ai++aA/\V p.2 q.2 ai/\c7 V m t aA
 |[],_::_,_=>False
 |_::_,[],_=>False
theorem c7.keys:∀{m:List (Int×Value)}{t:List (Int×α)}{G:List Chunk},c7 V m t G->m.map Prod.fst=t.map Prod.fst
 |[],[],_,_=>rfl
 |[],_::_,_,h=>h.elim
 |_::_,[],_,h=>h.elim
 |p::m,q::t,_,⟨a,_,_,_,_,b⟩=>by rw [jW,jW,a,b.keys]
theorem c7.len{m:List (Int×Value)}{t:List (Int×α)}{G:List Chunk}(h:c7 V m t G):m.length=t.length:=by
 have:=aG List.length h.keys;simpa using this
theorem c7.nv:∀{m:List (Int×Value)}{t:List (Int×α)}{G:List Chunk}{k:Int},c7 V m t G->aZ t k=none->aZ m k=none
 |[],[],_,_,_,_=>rfl
 |[],_::_,_,_,h,_=>h.elim
 |_::_,[],_,_,h,_=>h.elim
 |p::m,q::t,_,k,⟨c,_,_,_,_,d⟩,aa=>by
  obtain⟨a,v⟩:=p;obtain⟨b,u⟩:=q;have c:a=b:=c;subst c;simp only [aZ] at aa⊢;split at aa
  .cases aa
  .rename_i e;rw [aI e];exact d.nv aa
theorem c7.find:∀{m:List (Int×Value)}{t:List (Int×α)}{G:List Chunk}{k:Int}{a:α},c7 V m t G->aZ t k=some a->
 ∃v ai g aA,aZ m k=some v/\G=ai++(g++aA)/\V v a g/\∀d c,V v d c->c7 V m (cj t k d) (ai++(c++aA))
 |[],[],_,_,_,_,h=>by cases h
 |[],_::_,_,_,_,h,_=>h.elim
 |_::_,[],_,_,_,h,_=>h.elim
 |p::m,q::t,_,k,a,⟨e,ai,aA,rfl,o,l⟩,aa=>by
  obtain⟨J,v⟩:=p;obtain⟨b,u⟩:=q;have e:J=b:=e;subst e;simp only [aZ] at aa⊢;split at aa
  .rename_i he;cases aa;rw [a6 he];refine⟨v,[],ai,aA,j,j,o,λd c f=>?_⟩;simp only [cj,a6 he];exact⟨he,c,aA,j,f,l⟩
  .rename_i n;rw [aI n];obtain⟨z,H1,r,i,s,w,x,y⟩:=l.find aa;refine⟨z,ai++H1,r,i,s,by rw [w,dJ],x,λd c f=>?_⟩;simp only [cj,aI n];exact⟨j,ai,H1++(c++i),by rw [dJ],o,y d c f⟩
theorem c7.app:∀{m c:List (Int×Value)}{t d:List (Int×α)}{G a:List Chunk},c7 V m t G->c7 V c d a->c7 V (m++c) (t++d) (G++a)
 |[],_,[],_,_,_,h,b=>by have h:_=[]:=h;subst h;exact b
 |[],_,_::_,_,_,_,h,_=>h.elim
 |_::_,_,[],_,_,_,h,_=>h.elim
 |p::m,_,q::t,_,_,a,⟨e,ai,aA,rfl,g,f⟩,b=>⟨e,ai,aA++a,by rw [dJ],g,f.app b⟩
theorem c7.one{k:Int}{v:Value}{a:α}{G:List Chunk}(h:V v a G):c7 V [(k,v)] [(k,a)] G:=⟨j,G,[],by simp,h,j⟩
theorem zd{β:Type}{m:List (Int×β)}{k:Int}(h:aZ m k=none):∀p∈m,p.1≠k:=by
 rcases n9 m k with⟨_,b⟩|⟨J,u,a,_⟩
 .exact b
 .rw [a] at h;cases h
theorem vy{β:Type}{m:List (Int×β)}{k:Int}{v:β}(h:aZ m k=none):cj m k v=m++[(k,v)]:=vz m k v (zd h)
theorem c7.add{m:List (Int×Value)}{t:List (Int×α)}{G b:List Chunk}{k:Int}{v:Value}{a:α}(h:c7 V m t G)(aa:aZ t k=none)(c:V v a b):c7 V (cj m k v) (cj t k a) (G++b):=by
 rw [vy aa,vy (h.nv aa)];exact h.app (c7.one c)
theorem c7.put:∀{m:List (Int×Value)}{t:List (Int×α)}{G c:List Chunk}{k:Int}{v:Value}{a:α},c7 V m t G->V v a c->∃d ag,c7 V (cj m k v) (cj t k a) d/\(G++c).Perm (ag++d)
 |[],[],_,c,k,v,a,h,e=>by have h:_=[]:=h;subst h;exact⟨c,[],c7.one e,by simp⟩
 |[],_::_,_,_,_,_,_,h,_=>h.elim
 |_::_,[],_,_,_,_,_,h,_=>h.elim
 |p::m,q::t,_,c,k,v,a,⟨f,ai,aA,rfl,n,g⟩,e=>by
  obtain⟨J,x⟩:=p;obtain⟨b,u⟩:=q;have f:J=b:=f;subst f;simp only [cj];by_cases he:J=k
  .rw [a6 he,a6 he];refine⟨c++aA,ai,⟨j,c,aA,j,e,g⟩,?_⟩;rw [dJ];exact p0 _ lF
  .rw [aI he,aI he];obtain⟨d,ag,i,l⟩:=g.put (k:=k) e;refine⟨ai++d,ag,⟨j,ai,d,j,n,i⟩,?_⟩;rw [dJ];refine(p0 ai l).trans ?_;rw [<-dJ,<-dJ];exact oS _ lF
theorem c7.del:∀{m:List (Int×Value)}{t:List (Int×α)}{G:List Chunk}{k:Int},c7 V m t G->∃a ag,c7 V (fY m k) (fY t k) a/\G.Perm (ag++a)
 |[],[],_,_,h=>⟨[],[],j,by have h:_=[]:=h;subst h;exact oE _⟩
 |[],_::_,_,_,h=>h.elim
 |_::_,[],_,_,h=>h.elim
 |p::m,q::t,_,k,⟨c,ai,aA,rfl,g,d⟩=>by
  obtain⟨J,x⟩:=p;obtain⟨b,u⟩:=q;have c:J=b:=c;subst c;simp only [fY];by_cases he:J=k
  .rw [a6 he,a6 he];exact⟨aA,ai,d,oE _⟩
  .rw [aI he,aI he];obtain⟨a,ag,e,f⟩:=d.del (k:=k);refine⟨ai++a,ag,⟨j,ai,a,j,g,e⟩,?_⟩;refine(p0 ai f).trans ?_;rw [<-dJ,<-dJ];exact oS _ lF
theorem c7.cut:∀{m n7:List (Int×Value)}{t:List (Int×α)}{G:List Chunk},c7 V (m++n7) t G->∃t1 t2 ai aA,t=t1++t2/\G=ai++aA/\t1.length=m.length/\c7 V m t1 ai/\c7 V n7 t2 aA
 |[],n7,t,G,h=>⟨[],t,[],G,j,j,j,j,h⟩
 |p::m,n7,[],G,h=>h.elim
 |p::m,n7,q::t,_,⟨d,ai,aA,rfl,g,f⟩=>by
  obtain⟨t1,t2,H1,a,rfl,rfl,e,b,c⟩:=c7.cut (m:=m) (n7:=n7) f;exact⟨q::t1,t2,ai++H1,a,j,by rw [dJ],by simp [e],⟨d,ai,H1,j,g,b⟩,c⟩
abbrev dd{β:Type}(t:List (Int×β)):List (Int×β):=t.mergeSort λa b=>decide (a.1<=b.1)
theorem c7.zip:∀{m:List (Int×Value)}{t:List (Int×α)}{G:List Chunk},c7 V m t G->∃z:List (Int×Value×α×List Chunk),m=z.map (λx=>(x.1,x.2.1))/\t=z.map (λx=>(x.1,x.2.2.1))/\G=z.flatMap (λx=>x.2.2.2)/\∀x∈z,V x.2.1 x.2.2.1 x.2.2.2
 |[],[],_,h=>⟨[],j,j,h,by simp⟩
 |[],_::_,_,h=>h.elim
 |_::_,[],_,h=>h.elim
 |p::m,q::t,_,⟨a,ai,aA,rfl,k,i⟩=>by
  obtain⟨z,d,e,f,g⟩:=i.zip;obtain⟨J,x⟩:=p;obtain⟨b,u⟩:=q;have a:J=b:=a;subst a;refine⟨(J,x,u,ai)::z,by rw [d];rfl,by rw [e];rfl,by rw [f];rfl,λy c=>?_⟩;rcases g1.1 c with rfl|c
  .exact k
  .exact g y c
theorem c7.zx:∀(z:List (Int×Value×α×List Chunk)),(∀x∈z,V x.2.1 x.2.2.1 x.2.2.2)->c7 V (z.map (λx=>(x.1,x.2.1))) (z.map (λx=>(x.1,x.2.2.1))) (z.flatMap (λx=>x.2.2.2))
 |[],_=>rfl
 |x::z,h=>⟨j,x.2.2.2,_,j,h x (by simp),c7.zx z (λy a=>h y (by simp [a]))⟩
theorem c7.sort{m:List (Int×Value)}{t:List (Int×α)}{G:List Chunk}(h:c7 V m t G):∃c,G.Perm c/\c7 V (dn m) (dd t) c:=by
 obtain⟨z,rfl,rfl,rfl,e⟩:=h.zip;refine⟨(z.mergeSort λa b=>decide (a.1<=b.1)).flatMap (λx=>x.2.2.2),(List.Perm.flatMap_right _ (oJ z _)).symm,?_⟩;have:=c7.zx (V:=V) (z.mergeSort λa b=>decide (a.1<=b.1)) (λx d=>e x (g0.1 d));rw [tY (s:=λa b:Int×Value=>decide (a.1<=b.1)) (λ_ _ _ _=>rfl),tY (s:=λa b:Int×α=>decide (a.1<=b.1)) (λ_ _ _ _=>rfl)] at this;exact this
theorem c7.oi{m:List (Int×Value)}{t:List (Int×α)}{G:List Chunk}(h:c7 V m t G){pre:List (Int×Value)}{q:Int×Value}(g:px m pre q):∃t1 t2 a ai b aA,dd t=t1++(q.1,a)::t2/\t1.length=pre.length/\G.Perm (ai++(b++aA))/\V q.2 a b:=by
 obtain⟨r,j⟩:=g;obtain⟨n,i,aM⟩:=h.sort;rw [j] at aM;obtain⟨t1,t2,ai,aA,e,rfl,f,_,d⟩:=aM.cut;cases t2 with
 |nil=>exact d.elim
 |cons x t2=>
  obtain⟨c,b,bl,rfl,l,_⟩:=d;obtain⟨k,a⟩:=x;have c:q.1=k:=c;subst c;exact⟨t1,t2,a,ai,b,bl,e,f,i,l⟩
def fv(T:TypeId)(V:Value->α->List Chunk->Prop)(p:Value)(t:List (Int×α))(G:List Chunk):Prop:=
 ∃b ah I m H,p=ab b/\cg bN I m/\c7 V m t H/\G=ay T b ah I++H
theorem fv.new{T:TypeId}{b ah:Nat}:cg bN (.map #[] 0) ([]:List (Int×Value))->fv T V (ab b) [] (ay T b ah (.map #[] 0)):=λh=>⟨b,ah,_,[],[],j,h,j,by simp⟩
theorem c7.wide{n:Nat}(b:∀v a G,V v a G->gD n v){m:List (Int×Value)}{t:List (Int×α)}{G:List Chunk}(h:c7 V m t G):∀q∈m,gD n q.2:=by
 obtain⟨z,rfl,_,_,e⟩:=h.zip;intro q c;obtain⟨x,d,rfl⟩:=dV.1 c;exact b _ _ _ (e x d)
end
def ki(v:Value)(q:aW)(G:List Chunk):Prop:=∃m:aC,v= .agg m.cs.toArray/\m.P=q/\fA m G
theorem ki.wide(v:Value)(q:aW)(G:List Chunk)(h:ki v q G):gD 39 v:=by
 obtain⟨m,rfl,_,_,_,_,_,a,_⟩:=h;exact⟨m.cs,j,m.bU a,m.one⟩
def cw(v:Value)(l:List aW)(G:List Chunk):Prop:=∃bY:List aC,bY.map aC.P=l/\lA v bY G
theorem cw.nil:cw (.slice none 0 0) [] []:=⟨[],j,lA.nil⟩
def Holds(w:World)(G:List Chunk):Prop:=∀c∈G,w.heap[c.1]? =some c.2
section
variable {o w aK:World} {F:List Nat} {ad:List (List Chunk)} {A B G:List Chunk}
theorem Holds.left(h:Holds w (A++B)):Holds w A:=λc a=>h c (dv.2 (.inl a))
theorem Holds.right(h:Holds w (A++B)):Holds w B:=λc a=>h c (dv.2 (.inr a))
theorem Holds.perm(h:Holds w A)(b:A.Perm B):Holds w B:=λc a=>h c (b.mem_iff.2 a)
theorem C.holds(h:C o F ad w)(a:G∈ad):Holds w G:=λc b=>h.here c (List.mem_flatten.2 ⟨G,a,b⟩)
theorem C.vb(h:C o F (G::ad) w):Holds w G:=h.holds (by simp)
theorem Holds.st(h:Holds o G)(a:C o [] ad w):Holds w G:=λc b=>a.cc (h c b)
theorem Holds.head{b:Nat}{I:Obj}(h:Holds w ((b,I)::G)):w.heap[b]? =some I:=h (b,I) (by simp)
theorem Holds.tail{b:Nat}{I:Obj}(h:Holds w ((b,I)::G)):Holds w G:=λc a=>h c (by simp [a])
theorem Holds.kept(h:Holds o G)(b:C o F ad w)(d:∀c∈G,c.1∉F):Holds w G:=λc a=>by
 rw [b.fW c.1 (gv.1 (h c a)).1 (d c a)];exact h c a
theorem dI.st{T:TypeId}{p:Option Addr}{m:List (Int×Value)}(h:dI T o p m)(a:C o [] ad w):dI T w p m:=by
 rcases h with h|⟨b,ah,I,rfl,c,d,e⟩
 .exact .inl h
 .exact .inr ⟨b,ah,I,j,a.cc c,a.cc d,e⟩
theorem Row.read{e:TypeId}{size:Nat}{v:Value}{n:Nat}{xs:List Value}(h:Row e size v n xs G)(f:Holds w G):∃A c,v= .slice A n c/\n<=c/\c<=maxLen/\Rd w A xs/\Flat A:=by
 rcases h.2 with⟨rfl,rfl,rfl⟩|⟨g,cap,cur,rfl,rfl,a,b,_,d⟩
 .have:xs=[]:=mf (by simpa using h.1);subst this;exact⟨none,0,j,cI _,by simp [maxLen],Rd.nil _ _,.inl j⟩
 .refine⟨_,_,j,a,b,λi u hu=>⟨_,j,?_⟩,.inr ⟨_,_,j⟩⟩;rw [<-d,jE] at hu;split at hu
  .rw [add_lit];exact cell_of f.head (by simpa using hu)
  .cases hu
theorem fv.read{α:Type}{V:Value->α->List Chunk->Prop}{T:TypeId}{p:Value}{t:List (Int×α)}(h:fv T V p t G)(c:Holds w G):∃a m H,p= .pointer a/\dI T w a m/\c7 V m t H/\Holds w H:=by
 obtain⟨b,ah,I,m,H,rfl,d,e,rfl⟩:=h;exact⟨_,m,H,j,.inr ⟨b,ah,I,j,c.left (b,_) (by simp),c.left (ah,I) (by simp),d⟩,e,c.right⟩
theorem fA.read{m:aC}(h:fA m G)(b:Holds w G):m.ok w/\m.fit:=by
 obtain⟨ai,aA,rfl,d,f,g,bw⟩:=h;refine⟨⟨?_,?_,g,f⟩,bw⟩
 .obtain⟨A,c,e,_,_,a,_⟩:=d.x.read b.left;cases e;exact a
 .obtain⟨A,c,e,_,_,a,_⟩:=d.l.read b.right;cases e;exact a
theorem fA.uA{m:aC}(h:fA m G):m.x.length<=m.c/\m.l.length<=m.d/\Flat m.A/\Flat m.B:=by
 obtain⟨ai,aA,rfl,a,_⟩:=h;refine⟨?_,?_,a.x.flat,a.l.flat⟩
 .obtain⟨A,c,e,b,_⟩:=a.x.form;cases e;exact b
 .obtain⟨A,c,e,b,_⟩:=a.l.form;cases e;exact b
theorem uZ{α:Type}{f:α->List Value}{n:Nat}:∀(l:List α),(∀x∈l,(f x).length=n)->∀(i:Nat)(a:i<l.length),((l.flatMap f).drop (i*n)).take n=f l[i]
 |[],_,i,a=>by simp at a
 |x::r,h,0,_=>by
  have b:=h x (by simp);rw [oD,List.drop_zero,jZ,List.take_append_of_le_length (by omega),h7 (by omega)];rfl
 |x::r,h,i+1,a=>by
  have b:=h x (by simp);have d:=uZ r (λy c=>h y (by simp [c])) i (by simpa using a);rw [jZ,show(i+1)*n=(f x).length+i*n by rw [b,m5];omega,List.drop_append];rw [tW (by omega),kI,show(f x).length+i*n-(f x).length=i*n by omega];exact d
theorem i0{α:Type}{f:α->List Value}{n:Nat}{w:World}{a:Addr}{l:List α}(d:Rd w (some a) (l.flatMap f))(h:∀x∈l,(f x).length=n)(i:Nat)(c:i<l.length):Rd w (some (a.add (i*n))) (f l[i]):=by
 have b:=(d.drop (i*n)).take n;rw [uZ l h i c] at b;exact b
theorem o6{α:Type}{f:α->List Value}{n:Nat}:∀(l:List α),(∀x∈l,(f x).length=n)->(l.flatMap f).length=l.length*n
 |[],_=>by simp
 |x::r,h=>by
  rw [jZ,b0,h x (by simp),o6 r (λy a=>h y (by simp [a])),List.length_cons,Nat.add_mul];omega
theorem h8{α:Type}{f:α->List Value}{n J:Nat}{v:Value}(l:List α)(h:∀x∈l,(f x).length=n)(i:Nat)(b:i<l.length)(c:J<n)(d:(f l[i])[J]? =some v):(l.flatMap f)[i*n+J]? =some v:=by
 have a:=aG (λz=>z[J]?) (uZ l h i b);simp only [jE,lL,c,kq] at a;rw [a,d]
theorem yl{α:Type}{f:α->List Value}{n:Nat}:∀(l:List α),(∀x∈l,(f x).length=n)->∀(i:Nat),i<l.length->(l.eraseIdx i).flatMap f=(l.flatMap f).take (i*n)++(l.flatMap f).drop ((i+1)*n)
 |[],_,i,b=>by simp at b
 |x::r,h,0,_=>by
  have a:=h x (by simp);simp only [List.eraseIdx_cons_zero,oD,List.take_zero,kI,List.flatMap_cons,Nat.zero_add,Nat.one_mul];rw [<-a,List.drop_left]
 |x::r,h,i+1,b=>by
  have a:=h x (by simp);have g:=yl r (λy e=>h y (by simp [e])) i (by simpa using b);rw [List.eraseIdx_cons_succ,jZ,jZ,g]
  have c:(f x++r.flatMap f).take ((i+1)*n)=f x++(r.flatMap f).take (i*n):=by
   rw [show(i+1)*n=(f x).length+i*n by rw [a,m5];omega,p1,List.take_of_length_le (by omega),show(f x).length+i*n-(f x).length=i*n by omega]
  have d:(f x++r.flatMap f).drop ((i+1+1)*n)=(r.flatMap f).drop ((i+1)*n):=by
   rw [show(i+1+1)*n=(f x).length+(i+1)*n by rw [a,m5 (i+1)];omega,List.drop_append,List.drop_of_length_le (by omega),List.nil_append,show(f x).length+(i+1)*n-(f x).length=(i+1)*n by omega]
  rw [c,d,dJ]
theorem fF.at{l:List aC}{G:List Chunk}(h:fF l G):∀(i:Nat)(c:i<l.length),∃ai b aA,G=ai++(b++aA)/\fA l[i] b/\fF (l.eraseIdx i) (ai++aA):=by
 induction l generalizing G with
 |nil=>intro i c;simp at c
 |cons a r m=>
  obtain⟨H1,f,rfl,d,e⟩:=h;intro i c;cases i with
  |zero=>exact⟨[],H1,f,j,d,by simpa using e⟩
  |succ i=>
   obtain⟨ai,b,aA,rfl,g,k⟩:=m e i (by simpa using c);exact⟨H1++ai,b,aA,by rw [dJ],g,H1,ai++aA,by rw [dJ],d,k⟩
theorem lA.form{v:Value}{l:List aC}{G:List Chunk}(h:lA v l G):∃A c,v= .slice A l.length c/\l.length<=c/\c<=maxLen:=by
 obtain⟨ag,aA,_,a,_⟩:=h;exact a.form
theorem qC(l m:List aC):fV (l++m)=fV l++fV m:=mZ
end
abbrev fi(b:Nat)(v:Value)(lost:Int):List Chunk:=R b #[v,ae 512,ae lost] 79
def gS(p:Value)(l:List aW)(lost:Nat)(G:List Chunk):Prop:=∃b v H,p=ab b/\cw v l H/\G=fi b v lost++H
theorem lA.snoc{v:Value}{l:List aC}{m:aC}{ag aA a:List Chunk}(b:Row 53 39 v (l.length+1) (fV l++m.cs) ag)(c:fF l aA)(hm:fA m a):lA v (l++[m]) (ag++(aA++a)):=
 ⟨ag,aA++a,j,by rw [b0,List.length_singleton,qC,show fV [m]=m.cs by simp];exact b,c.app (fF.one hm)⟩
theorem z4{o:World}{b:Nat}{v:Value}{lost:Int}{l:List aC}{ag aA q:List Chunk}{m:aC}(i:Row 53 39 v l.length (fV l) ag)(y:fF l aA)(hm:fA m q)(a:Own [fi b v lost,ag] o):Calls prog 87 #[ab b,.agg m.cs.toArray] o λr w=>r= .bool (decide (l.length<512))/\∃v1 e,(if l.length<512 then Row 53 39 v1 (l.length+1) (fV l++m.cs) e else v1=v/\e=ag)/\C o (av [fi b v lost,ag]) [fi b v1 lost,e] w:=by
 obtain⟨d,h⟩:∃d,d=av [fi b v lost,ag]:=⟨_,j⟩;rw [<-h];have a:C o d [fi b v lost,ag] o:=h▸a;have g:m.tag.length=32:=hm.choose_spec.choose_spec.2.2.1;obtain⟨A,c,rfl,x,u⟩:=i.form;refine a2 func87 (bL 2 a j j (λf w a=>?_));have a:C o d ([fi b (.slice A l.length c) lost,bf f m]++[ag]) w:=a.f1;have a:=a.drew;refine bt 3 j (λw=>∃ad,C o d ([fi b (.slice A l.length c) lost,bf f m]++ad) w) ⟨_,a⟩ (af 0 3 j (a8 3 j a1 j (af 4 4 j (a8 8 j a1 j (af 9 1 j (bK (b8 0 j j (λs=>?_) (λs=>?_))))))))
 .refine aq 3 j j ?_;have n:¬l.length<512:=by omega
  exact⟨aG Value.bool (e4 n).symm,_,ag,by rw [aI n];exact⟨j,j⟩,a.f2.f2.drop.f1⟩
 have a:=a.drew;have p:l.length<512:=by omega
 refine bt 2 j (λw=>∃ad,C o d ([fi b (.slice A l.length c) lost,bf f m]++ad) w) ⟨_,a⟩ (af 0 4 j (a8 4 j a1 j (aT 5 j (λw⟨_,a⟩=>c4 (U:=m.cs) j j (m.bU g) (C.f1 a).bz) (aR 6 j (gi (U:=m.cs) a j j j (m.bU g) (by decide) (by decide) (λt w a=>?_))))));have aJ:=a.bz;have a:=a.f2.f2;refine an ⟨⟨_,a⟩,?_⟩;refine aR 7 j (dR a.f3 i j j (by decide) j j j (news:=m.cs) (m.bU g) aJ (List.all_eq_true.1 m.one) (by omega) (by unfold maxLen;omega) (λv1 e w k a=>?_));have a:=a.f2.f2;refine an ⟨⟨_,a⟩,?_⟩;refine af 8 2 j (dA 10 j (cB a j j j k.one bG (λw a=>?_)));have a:C o d (fi b v1 lost::_) w:=a;exact an (cU (aq 3 j j ⟨congrArg Value.bool (decide_eq_true p).symm,v1,e,by rw [if_pos p];exact k,a.f2.f1.kM⟩))
theorem xj{o:World}{b:Nat}{v:Value}{lost:Int}{l:List aC}{ag:List Chunk}(p:Row 53 39 v l.length (fV l) ag)(n:∀q∈l,q.tag.length=32)(g:o.heap[b]? =some (.cells #[v,ae 512,ae lost] 79 (0,0)))(m:Holds o ag){i:Nat}(f:i<l.length):Calls prog 142 #[ab b,.int .i64 i] o λr w=>r= .tuple #[.agg l[i].cs.toArray,.bool true]/\C o [] [] w:=by
 have d:Own [] o:=C.start o;obtain⟨A,c,rfl,z,x,h,y⟩:=p.read m;have hlen:∀q∈l,q.cs.length=39:=λq t=>q.bU (n q t)
 have e:=hlen l[i] (d9 f);obtain⟨a,rfl⟩:∃a,A=some a:=by obtain⟨a,s,_⟩:=h (i*39+0) (ae l[i].k) (h8 l hlen i f (by decide) (by simp [aC.cs]));exact⟨a,s⟩
 refine eV func142 ?_;refine b7 2 d j (λu w d=>?_);refine am 7 j (bS 8 (.bool false) j (aG Value.bool (e4 (by omega))) ?_);refine ar 4 j (cell_of (d.cc g) j) ?_;refine iI 3 j j (e4 (by omega)) ?_;refine ar 6 j (cell_of (d.cc g) j) ?_;refine am 1 j (ow j j j j (by omega) (by omega) ?_);refine bM 0 (U:=l[i].cs) j j e (i0 (d.rd h (bT.of_nil _ _)) hlen i f) ?_;refine c2 d j j j (by simpa using l[i].one) (by rw [List.size_toArray];exact e) (by decide) (λw d=>?_);have d:=C.whole (U:=l[i].cs) d (by rw [e];rfl);refine bD 1 j ⟨_,dr (U:=l[i].cs) results142 j j j e d.bz,?_⟩;exact⟨j,d.bare⟩
theorem DQ{o:World}{b cap:Nat}{l:List aC}{ag:List Chunk}(D:Row 53 39 (.slice (some ⟨b,0,none⟩) l.length cap) l.length (fV l) ag)(B:∀q∈l,q.tag.length=32)(a:Own [ag] o){i:Nat}(v:i<l.length):Calls prog 144 #[.slice (some ⟨b,0,none⟩) l.length cap,.int .i64 i,.int .i64 (i+1:Nat)] o λr w=>∃n,Row 53 39 r (l.eraseIdx i).length (fV (l.eraseIdx i)) n/\C o (av [ag]) [n] w:=by
 obtain⟨c,p⟩:∃c,c=av [ag]:=⟨_,j⟩;rw [<-p];have a:C o c [ag] o:=p▸a;have hlen:∀q∈l,q.cs.length=39:=λq m=>q.bU (B q m)
 have H:l.length≠0:=by omega
 obtain⟨O,E⟩:=D;obtain⟨S,P,cur,N,rfl,y,f,d,z⟩:=E.resolve_left (λh=>H h.2.1);cases N;have U:l.length-1<cap:=by omega
 have x:(fV l).length=l.length*39:=o6 l hlen;have V:(l.length:Int)<=9223372036854775807:=by have:=f;unfold maxLen at this;omega
 refine a2 func144 ?_;refine am 10 j (BW j j j j j j (by omega) (by omega) (by omega) (by omega) ?_);refine iI 6 j j ((show decide ((i:Int)=((i+1:Nat):Int))=false from e4 (by omega))) ?_;have a:=a.drew;refine bt 7 j (λw=>∃cur ad,C o c (R b cur 53::ad) w) ⟨_,_,a⟩ ?_;refine af 0 2 j ?_;refine aT 2 j (λw⟨_,a⟩=>BJ (i:=i) j j (by omega)) ?_;refine af 3 2 j ?_;refine aT 5 j (λw⟨_,a⟩=>BI (i:=i+1) j j (by omega)) ?_;refine aR 6 j ?_;have L:Row 53 39 (.slice (some ⟨b,0,none⟩) l.length cap) l.length (fV l) (R b cur 53):=⟨O,.inr ⟨b,cap,cur,j,j,y,f,d,z⟩⟩;have K:Rd o.drew (some ⟨b,0,none⟩) (fV l):=by obtain⟨_,_,e,_,_,h,_⟩:=L.rd a;cases e;exact h
 have I:Rd o.drew (if cap=i+1 then some ⟨b,0,none⟩ else(some (⟨b,0,none⟩:Addr)).map (·.add ((i+1)*39))) ((fV l).drop ((i+1)*39)):=by
  split
  .rename_i T;rw [tW (by rw [x,show l.length=i+1 by omega];exact cI _)];exact Rd.nil _ _
  .exact K.drop _
 refine BP a j (by decide) j j j (news:=(fV l).drop ((i+1)*39)) (by rw [iT,x,<-Nat.sub_mul]) I (λu hu=>sk l u (List.mem_of_mem_drop hu)) (by omega) d (λQ w t g a=>?_);have G:i+(l.length-(i+1))=l.length-1:=by omega
 rw [G] at g⊢;have hle:=kn 39 (show l.length<=cap from y);have M:cur.toList.take (i*39)=(fV l).take (i*39):=by rw [<-z,List.take_take,mY (kn _ (by omega))]
 rw [M,<-yl l hlen i v] at g;refine an ⟨⟨_,_,a⟩,?_⟩;refine af 7 1 j ?_;refine bK ?_;refine am 6 j (BV (i:=l.length-1) (J:=l.length) j j j j j (by omega) (by omega) (by omega) ?_);refine wH (size:=39) a j j (by decide) j j j (by rw [t,fj,<-m5];exact ek (kn _ (by omega)) d) (λA w F s a=>?_);rw [fj,g] at s;refine aq 4 j j ?_;have k:(l.eraseIdx i).length=l.length-1:=List.length_eraseIdx_of_lt v;refine⟨_,⟨?_,.inr ⟨b,cap,A,by rw [k],j,by rw [k];omega,f,by rw [F,t];exact d,by rw [k];exact s⟩⟩,a⟩;exact o6 _ (λq m=>hlen q (tZ m))
theorem GT{o:World}{b:Nat}{v:Value}{lost:Int}{l:List aC}{ag:List Chunk}(f:Row 53 39 v l.length (fV l) ag)(g:∀q∈l,q.tag.length=32)(a:Own [fi b v lost,ag] o){i:Nat}(m:i<l.length):Calls prog 88 #[ab b,.int .i64 i] o λr w=>r= .tuple #[.agg l[i].cs.toArray,.bool true]/\∃v1 e,Row 53 39 v1 (l.eraseIdx i).length (fV (l.eraseIdx i)) e/\C o (av [fi b v lost,ag]) [fi b v1 lost,e] w:=by
 obtain⟨d,n⟩:∃d,d=av [fi b v lost,ag]:=⟨_,j⟩;rw [<-n];have a:C o d [fi b v lost,ag] o:=n▸a;have c:=l[i].bU (g l[i] (d9 m));have A:i<9223372036854775807:=by obtain⟨_,_,_,y,s⟩:=f.form;unfold maxLen at s;omega
 refine eV func88 (b7 2 a j (λt w a=>?_));have k:=xj f g (a.f1.vb.head) (a.f1.f1.f2.vb) m;refine bp 5 k j (λw aa=>?_);have a:=a.aL aa;refine b7 3 a j (λu w a=>c2 a j j j (by simpa using l[i].one) (by rw [List.size_toArray];exact c) (by decide) (λw a=>?_));have a:=C.whole (U:=l[i].cs) a (by rw [c];rfl);refine ar 11 j (ax (C.aj a) j) (bq 2 j j j (gm i 1 (by omega)) ?_);obtain⟨x,cap,cur,rfl,z,_⟩:=f.2.resolve_left (λh=>by have:=h.2.1;omega);have a:=a.f3;have k:=DQ f g a.j9 m;refine bk 0 k j (λr w⟨e,p,aa⟩=>?_);have a:=(a.iw aa).f3;refine dF 2 a j j j p.one (λw a=>?_);have a:C o d (fi b r lost::_) w:=a;refine bM 2 (U:=l[i].cs) j j c (C.f2 a).bz (am 1 j (c2 (C.f3 a) j j j (by simpa using l[i].one) (by rw [List.size_toArray];exact c) (by decide) (λw a=>?_)));have a:=C.whole (U:=l[i].cs) a (by rw [c];rfl);refine bD 1 j ⟨_,dr (U:=l[i].cs) results88 j j j c a.bz,?_⟩;exact⟨j,_,e,p,a.drop.f2.drop.kM⟩
theorem cw.len{v:Value}{l:List aW}{G:List Chunk}(h:cw v l G):∃A c,v= .slice A l.length c/\l.length<=c/\c<=maxLen:=by
 obtain⟨bY,rfl,a⟩:=h;rw [ff];exact a.form
theorem fF.read{w:World}:∀{l:List aC}{G:List Chunk},fF l G->Holds w G->∀q∈l,q.ok w/\q.fit
 |[],_,_,_,q,b=>by simp at b
 |a::r,_,⟨ai,aA,rfl,d,e⟩,c,q,b=>by
  rcases g1.1 b with rfl|b
  .exact d.read c.left
  .exact e.read c.right q b
theorem fA.qO{q m:aC}{ai aA:List Chunk}{w:World}(h:q.own ai aA)(a:q.P=m.P)(hm:m.ok w)(bw:m.fit):fA q (ai++aA):=by
 have c:q.tag=m.tag:=aG aW.tag a;have b:q.l=m.l:=aG aW.l a;have d:q.x=m.x:=aG aW.x a;exact⟨ai,aA,j,h,by rw [c];exact hm.tag,by rw [b];exact hm.aH,⟨by rw [d];exact bw.x,by rw [b];exact bw.l⟩⟩
theorem gS.open{p:Value}{l:List aW}{lost:Nat}{G:List Chunk}(h:gS p l lost G):∃b v bY ag aA,p=ab b/\bY.map aC.P=l/\Row 53 39 v bY.length (fV bY) ag/\fF bY aA/\G=fi b v lost++(ag++aA):=by
 obtain⟨b,v,H,rfl,⟨bY,rfl,ag,aA,rfl,c,a⟩,rfl⟩:=h;exact⟨b,v,bY,ag,aA,j,j,c,a,j⟩
theorem gS.close{b:Nat}{v:Value}{bY:List aC}{lost:Nat}{ag aA:List Chunk}(c:Row 53 39 v bY.length (fV bY) ag)(a:fF bY aA):gS (ab b) (bY.map aC.P) lost (fi b v lost++(ag++aA)):=
 ⟨b,v,_,j,⟨bY,j,ag,aA,j,c,a⟩,j⟩
theorem C.AG{o w:World}{F:List Nat}{A B bb:List Chunk}{ad:List (List Chunk)}(h:C o F ((A++(B++bb))::ad) w):C o F (A::B::bb::ad) w:=h.perm (by simp)
theorem C.EZ{o w:World}{F:List Nat}{A B bb:List Chunk}{ad:List (List Chunk)}(h:C o F (A::B::bb::ad) w):C o F ((A++(B++bb))::ad) w:=h.perm (by simp)
theorem y6{α β:Type}(f:α->β):∀(l:List α)(i:Nat),(l.eraseIdx i).map f=(l.map f).eraseIdx i
 |[],_=>rfl
 |a::r,0=>rfl
 |a::r,i+1=>by simp [y6 f r i]
theorem sF{o:World}:Calls prog 36 #[] o λr w=>∃G,gS r [] 0 G/\C o [] [G] w:=by
 have a:Own [] o:=C.start o;refine a2 func36 (am 5 j (cN (c:= #[.slice none 0 0,ae 512]) j j j (λ_=>by kernel_rfl) ?_));exact cN (c:= #[.slice none 0 0,ae 512,ae 0]) j j j (λ_=>by kernel_rfl) (bL 0 a j j (λb w a=>aq 1 j j ⟨_,gS.close (bY:=[]) (Row.nil _ _) j,a.perm (by simp;rfl)⟩))
theorem xk{o:World}{p:Value}{l:List aW}{lost:Nat}{G:List Chunk}(h:gS p l lost G)(a:Holds o G):Calls prog 46 #[p] o λr w=>r= .int .i64 l.length/\w=o:=by
 obtain⟨b,v,l,ag,aA,rfl,rfl,d,e,rfl⟩:=h.open;obtain⟨A,c,rfl,_⟩:=d.form;rw [ff];refine a2 func46 ?_;refine ar 16 j (cell_of (a.left.head) j) ?_;refine aq 2 j j ?_;exact⟨j,j⟩
theorem CQ{o:World}{p:Value}{l:List aW}{lost:Nat}{G:List Chunk}(h:gS p l lost G)(a:Own [G] o){i:Nat}(c:i<l.length):Calls prog 48 #[p,.int .i64 i] o λr w=>∃(m:aC)(g ai:List Chunk),r= .tuple #[.agg m.cs.toArray,.bool true]/\m.P=l[i]/\fA m g/\gS p (l.eraseIdx i) lost ai/\C o (av [G]) [ai,g] w:=by
 obtain⟨b,v,l,ag,aA,rfl,rfl,x,e,rfl⟩:=h.open;have c:i<l.length:=by simpa using c
 obtain⟨d,q⟩:∃d,d=av [fi b v lost++(ag++aA)]:=⟨_,j⟩;rw [<-q];have a:C o d [fi b v lost++(ag++aA)] o:=q▸a;have a:=a.AG;have f:=l[i].bU (e.tag l[i] (d9 c));refine eV func48 (b7 2 a j (λA w a=>?_));have z:=GT (b:=b) (lost:=(lost:Int)) x e.tag a.ours c;refine bp 14 z j (λw⟨v1,n,y,aa⟩=>?_);have a:=a.b2 aa;refine am 2 j (c2 (a.bc _) j j j (by simpa using l[i].one) (by rw [List.size_toArray];exact f) (by decide) (λw a=>?_));have a:=C.whole (U:=l[i].cs) a (by rw [f];rfl);refine bD 1 j ⟨_,dr (U:=l[i].cs) results48 j j j f a.bz,?_⟩;obtain⟨H1,k,s,t,hm,u⟩:=e.at i c;have a:C o d [fi b v1 lost,n,aA] w:=a.as;rw [t] at a;refine⟨l[i],k,_,j,by simp,hm,?_,a.perm (B:=[fi b v1 lost++(n++(H1++s)),k]) ?_⟩
 .have:=gS.close (b:=b) (lost:=lost) y u;rw [y6] at this;exact this
 simp only [km,m2,hc,dJ];exact .append_left _ (.append_left _ (.append_left _ lF))
theorem CR{o:World}{p ak:Value}{d ms:List aW}{lost:Nat}{G E:List Chunk}(h:gS p d lost G)(ao:cw ak ms E)(c:Own [G,E] o)(aK:lost<=1000000000)(aB:ms.length<=1000000):Calls prog 89 #[p,ak] o λr w=>r= .int .i64 (min ms.length (512-d.length):Nat)/\∃ai,gS p (d++ms.take (512-d.length)) (lost+(ms.length-(512-d.length))) ai/\C o (av [G,E]) [ai,E] w:=by
 obtain⟨b,v0,d,K,J,rfl,rfl,au,ap,rfl⟩:=h.open;obtain⟨ms,rfl,g,f,rfl,X,M⟩:=ao;obtain⟨A,dT,rfl,aM,aN⟩:=X.form;rw [ff] at aB;simp only [ff];obtain⟨s,W⟩:∃s,s=av [fi b v0 lost++(K++J),g++f]:=⟨_,j⟩;rw [<-W];have c:C o s [fi b v0 lost++(K++J),g++f] o:=W▸c;have c:=c.AG;have hlen:∀q∈ms,q.cs.length=39:=λq V=>q.bU (M.tag q V)
 refine a2 func89 ?_
 refine cJ 20 j (ct:=Nat×Nat×Nat×Value×List Chunk×List Chunk×List aC) (λi=>[(0,ab b),(5,.int .i64 (i.2.1:Nat)),(10,.slice A ms.length dT),(11,.int .i64 (ms.length:Nat)),(12,.int .i64 (i.1:Nat))])
  (λi w=>i.1<=ms.length/\i.2.1=min i.1 (512-d.length)/\i.2.2.1=lost+(i.1-i.2.1)/\Row 53 39 i.2.2.2.1 i.2.2.2.2.2.2.length (fV i.2.2.2.2.2.2) i.2.2.2.2.1/\fF i.2.2.2.2.2.2 i.2.2.2.2.2.1/\i.2.2.2.2.2.2.map aC.P=d.map aC.P++(ms.map aC.P).take i.2.1/\C o s [fi b i.2.2.2.1 (i.2.2.1:Nat),i.2.2.2.2.1,i.2.2.2.2.2.1,g++f] w) (λi=>ms.length-i.1) (0,0,lost,v0,K,J,d) ⟨j,j,j,j,j,aX⟩ ⟨b4 _,by simp,by simp,au,ap,by simp,c.as⟩ ?_
 rintro⟨i,n,m,v,ag,aA,l⟩ w ⟨ay,aJ,Q,H,y,u,c⟩;dsimp only at ay aJ Q H y u c⊢;refine b8 4 j j (λal=>?_) (λal=>?_)
 .have t:i<ms.length:=by omega
  have I:=hlen ms[i] (d9 t);obtain⟨_,_,e,_,_,ah,_⟩:=X.read (C.holds c (G:=g++f) (by simp)).left;cases e;obtain⟨aH,rfl⟩:∃a,A=some a:=by obtain⟨a,aw,_⟩:=ah (i*39+0) (ae ms[i].k) (h8 ms hlen i t (by decide) (by simp [aC.cs]));exact⟨a,aw⟩
  obtain⟨T,S⟩:=M.read (C.holds c (G:=g++f) (by simp)).right ms[i] (d9 t);refine am 5 j (ow j j j j (by omega) (by omega) ?_);refine bM 0 (U:=ms[i].cs) j j I (i0 ah hlen i t) (b7 0 c j (λx w c=>c2 (c.bc x) j j j (by simpa using ms[i].one) (by rw [List.size_toArray];exact I) (by decide) (λw c=>?_)));have c:=C.whole (U:=ms[i].cs) c (by rw [I];rfl);have c:C o s [bf x ms[i],fi b v m,ag,aA,g++f] w:=c.as;have c:=c.drew;refine bt 1 j (λw=>∃ad,C o s ([bf x ms[i]]++ad) w) ⟨_,c⟩ (af 0 3 j (aT 3 j (λw⟨_,c⟩=>c4 (U:=ms[i].cs) j j I (bn (C.aj c))) (aR 4 j ?_)));obtain⟨T,S⟩:=M.read (C.holds c (G:=g++f) (by simp)).right ms[i] (d9 t);have N:=xN T S;refine cO j j j N (λr w⟨q,B,D,aE,V,Z,aa⟩=>?_);subst aE;have ac:=fA.qO V Z T S;have c:=c.aL aa;have c:C o s [bf x ms[i],fi b v m,ag,aA,g++f,B,D] w:=c.as;refine an ⟨⟨_,c⟩,?_⟩;refine aR 5 j ?_;have N:=z4 (b:=b) (lost:=(m:Int)) H y ac c.ours;refine bB j j j N (λw⟨v1,F,z,aa⟩=>?_);have c:=c.b2 aa;have c:C o s [bf x ms[i],fi b v1 m,F,aA,g++f,B,D] w:=c.as;refine an ⟨⟨_,c⟩,?_⟩;refine bK (b8 0 j j (λL=>?_) (λL=>?_))
  .refine bq 2 j j j (gm n 1 (by omega)) (bq 2 j j j (gm i 1 (by omega)) (bI 1 j ?_));have R:l.length<512:=L;rw [a6 R] at z;have O:=aG List.length u;rw [b0,List.length_take,List.length_map,List.length_map,List.length_map] at O;have aD:n=i/\i<512-d.length:=by omega
   refine⟨(i+1,n+1,m,v1,F,aA++(B++D),l++[q]),⟨j,j,j,j,j,aX⟩,⟨t,by dsimp only;omega,by dsimp only;omega,?_,y.app (fF.one ac),?_,C.perm (A:=[fi b v1 m,F,aA,B,D,g++f]) c.as (by simp)⟩,by dsimp only;omega⟩
   .dsimp only;rw [b0,List.length_singleton,qC,show fV [q]=q.cs by simp];exact z
   dsimp only;rw [jD,u,List.append_assoc,aD.1,List.take_add_one];simp [t,Z]
  refine ar 4 j (ax (C.aj c) j) (bq 0 j j j (gm m 1 (by omega)) (dF 2 (c.bc _) j j j j (λw c=>?_)));have c:C o s (fi b v1 (m+1:Nat)::_) w:=c;have c:C o s [fi b v1 (m+1:Nat),F,aA,g++f] w:=c.as;refine bq 1 j j j (gm i 1 (by omega)) (bI 1 j ?_);have R:¬l.length<512:=L;rw [aI R] at z;rw [z.1,z.2] at c;have O:=aG List.length u;rw [b0,List.length_take,List.length_map,List.length_map,List.length_map] at O;refine⟨(i+1,n,m+1,v,ag,aA,l),⟨j,j,j,j,j,aX⟩,⟨t,by dsimp only;omega,by dsimp only;omega,H,y,u,c⟩,by dsimp only;omega⟩
 refine aq 5 j j ?_;have az:i=ms.length:=by omega
 subst az
 have aF:(ms.map aC.P).take n=(ms.map aC.P).take (512-d.length):=by
  rw [aJ];rcases Nat.le_total ms.length (512-d.length) with h|h
  .rw [mY h,h7 (by simp),h7 (by simpa using h)]
  .rw [Nat.min_eq_right h]
 rw [aF] at u;have Y:=gS.close (b:=b) (lost:=m) H y;rw [u,Q,show ms.length-n=ms.length-(512-d.length) by omega] at Y;rw [Q,show ms.length-n=ms.length-(512-d.length) by omega] at c;exact⟨by rw [aJ],_,Y,c.EZ⟩
theorem CP{o:World}{p:Value}{l:List aW}{lost:Nat}{G:List Chunk}(a:gS p l lost G)(c:Holds o G):Calls prog 11 #[p] o λr w=>r= .int .i64 lost/\w=o:=by
 obtain⟨b,v,H,rfl,_,rfl⟩:=a;have d:=c.left.head;refine a2 func11 ?_;refine ar 15 j (ax d j) ?_;refine aq 1 j j ?_;exact⟨j,j⟩
theorem Hc{o:World}{dt p:List UInt8}{B:Option Addr}{d:Nat}(f:dt.length=32)(k:Rd o B (au p))(t:p.length<=1000000):Calls prog 26 #[.agg (au dt).toArray,.slice B p.length d] o λr w=>r= .agg (au (br (dt++p))).toArray/\C o [] [] w:=by
 have a:Own [] o:=C.start o;refine eV func26 ?_;refine bL 2 a j j (λaO w a=>?_);refine b7 0 a j (λg w a=>?_);refine am 2 j (eC a j j j j j j bG (λs w a=>?_));refine k3 j j j ?_;have n:Rd w (some ⟨aO,0,none⟩) (au dt):=bn (C.aj (b:=aO) a);refine dR a (Row.made (size:=1) (by simp [maxLen]) (Nat.zero_le _)) j j (by decide) j j j (m:=32) (news:=au dt) (by rw [cL,f]) n (eg dt) (by omega) (by unfold maxLen;omega) (λv ag w e a=>?_);refine am 1 j (dR a e j j (by decide) j j j (news:=au p) (by simp) (a.rd k (bT.of_nil _ _)) (eg p) (by omega) (by unfold maxLen;omega) (λv ag w e a=>?_))
 have e:du v (dt++p) ag:=by
  have h:au (dt++p)=[]++au dt++au p:=by simp [au]
  have i:(dt++p).length=0+32+p.length:=by simp [f]
  show Row 5 1 v (dt++p).length (au (dt++p)) ag;rw [h,i];exact e
 obtain⟨q,aV,rfl,u,_,l,_⟩:=e.rd a;refine bp 0 (s0 (c:=aV) l (by rw [b0,f];omega)) j (λw aa=>?_);have a:=a.aL aa;refine b6 0 (a.bc g) j j j (by simpa using eg (br (dt++p))) (l3 _) (λw a=>?_);have a:=C.whole (U:=au (br (dt++p))) a j;refine bD 0 j ⟨_,gr (U:=au (br (dt++p))) results26 j j j a.bz,?_⟩;exact⟨j,a.bare⟩
def rB(b:Nat)(keys:List (List UInt8))(G:List Chunk):Prop:=∃a ag,G=R b #[a] 67++ag/\Row 37 32 a keys.length (kN keys) ag
theorem Hg{o:World}{n:Nat}{dE:List UInt8}(aJ:n<=1000)(aM:dE.length=32):Calls prog 7 #[.int .i64 n,.agg (au dE).toArray] o λr w=>∃q G,r=ab q/\rB q (of n dE) G/\C o [] [G] w:=by
 have a:Own [] o:=C.start o;refine a2 func7 (bL 2 a j j (λf w a=>?_));have a:C o [] [R f (au dE).toArray 37] w:=a;refine am 3 j (cN (c:= #[.slice none 0 0]) j j j (λ_=>by kernel_rfl) ?_);refine bL 0 a j j (λg w a=>?_);have a:C o [] [R g #[.slice none 0 0] 67,R f (au dE).toArray 37] w:=a
 refine cJ 6 j (ct:=Nat×Value×List Chunk) (λi=>[(0,.int .i64 n),(3,ab f),(5,ab g),(6,.int .i64 (i.1:Nat))])
  (λi w=>i.1<=min (max n 1) 10/\Row 37 32 i.2.1 i.1 (kN (jr dE i.1)) i.2.2/\C o [] [R g #[i.2.1] 67,R f (au dE).toArray 37,i.2.2] w) (λi=>10-i.1) (0,.slice none 0 0,[]) ⟨j,j,j,j,aX⟩ ⟨b4 _,Row.nil 37 32,a.empty.f2.f2⟩ ?_
 rintro⟨i,v,ag⟩ w ⟨x,h,a⟩;dsimp only at x h a⊢;refine am 5 j (pR j j j ?_);refine pS j j j (bS 12 (.int .i64 (min (max n 1) 10:Nat)) j (aG (Value.int .i64) (zf n)) (b8 1 j j (λt=>?_) (λt=>?_)))
 .have A:i<min (max n 1) 10:=by omega
  have a:C o [] ([R g #[v] 67,R f (au dE).toArray 37]++_) w:=a.front;have a:=a.drew;refine bt 3 j (λw=>∃ad,C o [] ([R g #[v] 67,R f (au dE).toArray 37]++ad) w) ⟨_,a⟩ (af 0 4 j (a8 4 j a1 j (aT 5 j (λw⟨_,a⟩=>c4 (U:=au dE) j j (by rw [cL,aM]) (bn (C.aj (b:=f) a))) (af 6 1 j (aT 7 j (λw _=>kg j (xK i)) (aR 8 j (eC a j j j j j j bG (λs w a=>?_))))))));have B:Rd w (some ⟨s,0,none⟩) (au [UInt8.ofNat i]):=a.bz;have a:=a.front (cC:=[R g #[v] 67,R f (au dE).toArray 37]);refine an ⟨⟨_,a⟩,?_⟩;refine aR 9 j (bB j j j (Hc (dt:=dE) (p:=[UInt8.ofNat i]) (d:=1) aM B (by simp)) (λw z=>?_));have a:=a.aL z;have a:=a.front (cC:=[R g #[v] 67,R f (au dE).toArray 37]);refine an ⟨⟨_,a⟩,?_⟩;refine aR 10 j (gi (U:=au (br (dE++[UInt8.ofNat i]))) a j j j (by rw [cL,eK]) (by decide) (by decide) (λE w a=>?_));have D:=a.bz;have a:=a.front (cC:=[R g #[v] 67,R f (au dE).toArray 37]);refine an ⟨⟨_,a⟩,?_⟩;refine aR 11 j (dR (a.front (cC:=[ag])) h j j (by decide) j j j (news:=au (br (dE++[UInt8.ofNat i]))) (m:=1) (by rw [cL,eK]) D (eg _) (by omega) (by unfold maxLen;omega) (λv1 k w l a=>?_));have a:=a.front (cC:=[R g #[v] 67,R f (au dE).toArray 37]);refine an ⟨⟨_,a⟩,?_⟩;refine af 12 2 j (dA 14 j (cB a j j j l.one (by simp) (λw a=>?_)));have a:C o [] (R g #[v1] 67::_) w:=a;refine an (cU (bq 2 j j j (cE i (by omega)) (bI 1 j ?_)));have a:C o [] [R g #[v1] 67,R f (au dE).toArray 37,k] w:=a.as;refine⟨(i+1,v1,k),⟨j,j,j,j,aX⟩,⟨A,?_,a⟩,by dsimp only;omega⟩;dsimp only;have e:kN (jr dE (i+1))=kN (jr dE i)++au (br (dE++[UInt8.ofNat i])):=by rw [Am];simp [kN]
  rw [e];exact l
 refine aq 5 j j ?_;have y:i=min (max n 1) 10:=by omega
 have e:of n dE=jr dE i:=by rw [y];rfl
 refine⟨g,_,j,⟨v,ag,j,?_⟩,?_⟩
 .rw [e,s4];exact h
 have u:=a.f1.drop;exact u.join
def g5(l:List UInt8)(i:Nat):List UInt8:=l.take i++List.replicate (64-i) 0
theorem zP{l:List UInt8}(a:l.length=64){i:Nat}(h:i<=64):(g5 l i).length=64:=by
 unfold g5;rw [b0,List.length_take,List.length_replicate,a];omega
theorem zQ{l:List UInt8}(b:l.length=64){i:Nat}(h:i<64):(au (g5 l i)).toArray.setIfInBounds i (bv (l.getD i 0))=(au (g5 l (i+1))).toArray:=by
 have a:i<l.length:=by omega
 apply fx;unfold g5;rw [show 64-i=(64-(i+1))+1 by omega,rH];simp [au,List.set_append,List.getD,a,Nat.min_eq_left (Nat.le_of_lt a)];rw [fr (by simpa using a)];simp
theorem zO{l:List UInt8}(a:l.length=64):g5 l 64=l:=by unfold g5;rw [List.take_of_length_le (by omega)];simp
def eh(key:List UInt8)(m:UInt8):List UInt8:=(iN key).map (·^^^m)
theorem k0{key:List UInt8}(m:UInt8)(h:key.length<=64):(eh key m).length=64:=by unfold eh;rw [List.length_map,sO key h]
theorem Bi{key:List UInt8}(m:UInt8)(h:key.length<=64){i:Nat}(b:i<64):(eh key m).getD i 0=(iN key).getD i 0^^^m:=by
 have a:i<(iN key).length:=by rw [sO key h];exact b
 unfold eh;simp [List.getD,a]
theorem wM{P:Program}{n:Fr}{Z:Env}{w:World}{Q:d6}{ops:Array Oper}{rest:List Oper}{dst:Option Nat}{ty:TypeId}{pos:String}{after:Array Edge}{g:Option (Nat×Bool)}{t e:TypeId}{x y:Operand}{b l c J:Nat}{k:IntKind}{z:Value}{bytes:Nat}[hu:bA P t (.slice e)][p:cm P e z 1 bytes]
 (j:cY ops Z g=some true) (i:c8 n dst=true) (m:bs Z x=some (.slice (some ⟨b,0,none⟩) l c)) (o:bs Z y=some (.int k J)) (d:J<l)
 (h:O P n ops rest (cG Z dst (.pointer (some ⟨b,J,none⟩))) w Q):O P n ops (⟨dst,.indexAddr t x y,ty,pos,after,g⟩::rest) Z w Q:=
 dN j i (λa f=>by
  have:=gA (P:=P) (n:=n.n) (w:=w) (dst:=dst) (ty:=ty) (pos:=pos) (after:=after) (g:=g) (t:=t) (e:=e) (size:=1) (bytes:=bytes) (z:=z) m o d a f;rw [fj,gG] at this;exact this) h
theorem GL{key:List UInt8}{i:Nat}(h:i<key.length):(iN key).getD i 0=key[i]:=by unfold iN;rw [List.getD_eq_getElem?_getD,List.getElem?_append_left h,List.getElem?_eq_getElem h];rfl
theorem sB(l:List UInt8):madeCells (Value.int IntKind.u8 0).cells (64*1)=(au (g5 l 0)).toArray:=by unfold g5;rw [List.take_zero];kernel_rfl
theorem GK{key:List UInt8}{i:Nat}(h:key.length<=i):(iN key).getD i 0=0:=by
 unfold iN;rw [iD,jf h,rL];split<;>rfl
theorem He{o:World}{t B:Option Addr}{key p:List UInt8}{qu d:Nat}(O:Rd o t (au key))(aa:key.length<=64)(L:Rd o B (au p))(X:p.length<=1000000):Calls prog 121 #[.slice t key.length qu,.slice B p.length d] o λr w=>r= .agg (au (kR key p)).toArray/\C o [] [] w:=by
 have a:Own [] o:=C.start o;refine eV func121 ?_;refine b7 2 a j (λh w a=>?_);have a:C o [] [R h (Array.replicate 32 (bv 0)) 37] w:=a;refine iI 6 j j ((e4 (by omega))) ?_;refine lW 2 j (λw=>∃ad,C o [] ad w) ?_;have a:=a.drew;refine k2 0 1 j j (by kernel_rfl) ?_ ?_;refine lC (l:=64) (c:=64) a j j j j (by omega) (by omega) (by unfold maxLen;omega) (λg cs w _ f a=>?_);have f:cs=(au (g5 (eh key 92) 0)).toArray:=f.trans (sB _);subst f;refine an ⟨⟨_,a⟩,?_⟩;refine fD 1 [2] j ⟨_,a⟩ ?_;refine dW 1 j ?_;refine lC (l:=64) (c:=64) a j j j j (by omega) (by omega) (by unfold maxLen;omega) (λk cs w _ f a=>?_);have f:cs=(au (g5 (eh key 54) 0)).toArray:=f.trans (sB _);subst f;refine an ⟨⟨_,a⟩,?_⟩;refine fD 1 [3] j ⟨_,a⟩ ?_;rotate_left
 refine lC (l:=64) (c:=64) a j j j j (by omega) (by omega) (by unfold maxLen;omega) (λk cs w _ f a=>?_);have f:cs=(au (g5 (eh key 54) 0)).toArray:=f.trans (sB _);subst f;refine an ⟨⟨_,a⟩,?_⟩;refine dW 0 j ?_;refine lC (l:=64) (c:=64) a j j j j (by omega) (by omega) (by unfold maxLen;omega) (λg cs w _ f a=>?_);have f:cs=(au (g5 (eh key 92) 0)).toArray:=f.trans (sB _);subst f;refine an ⟨⟨_,a⟩,?_⟩;refine fD 2 [2,3] j ⟨_,a⟩ ?_;rotate_left
 all_goals
  refine cU ?_;have a:C o [] [[(g,.cells (au (g5 (eh key 92) 0)).toArray 5 (0,0))],[(k,.cells (au (g5 (eh key 54) 0)).toArray 5 (0,0))],R h (Array.replicate 32 (bv 0)) 37] _:=a.as;refine cJ 5 j (ct:=Nat) (λi=>[(0,.slice t key.length qu),(1,.slice B p.length d),(4,ab h),(6,.slice (some ⟨g,0,none⟩) 64 64),(7,.slice (some ⟨k,0,none⟩) 64 64),(8,.int .i64 (i:Nat))]) (λi w=>i<=64/\C o [] [[(g,.cells (au (g5 (eh key 92) i)).toArray 5 (0,0))],[(k,.cells (au (g5 (eh key 54) i)).toArray 5 (0,0))],R h (Array.replicate 32 (bv 0)) 37] w) (λi=>64-i) 0 ⟨j,j,j,j,j,j,aX⟩ ⟨b4 _,a⟩ ?_;rintro i w ⟨H,a⟩;refine bm 5 j j (λu=>?_) (λu=>?_)
  .refine lV 6 j (λZ w=>sub Z [(0,.slice t key.length qu),(1,.slice B p.length d),(4,ab h),(6,.slice (some ⟨g,0,none⟩) 64 64),(7,.slice (some ⟨k,0,none⟩) 64 64),(8,.int .i64 (i:Nat)),(9,bv ((iN key).getD i 0))]/\C o [] [[(g,.cells (au (g5 (eh key 92) i)).toArray 5 (0,0))],[(k,.cells (au (g5 (eh key 54) i)).toArray 5 (0,0))],R h (Array.replicate 32 (bv 0)) 37] w) ?_ ?_
   .refine bm 6 j j (λz=>?_) (λz=>?_)
    .have F:i<key.length:=by have:=dz z;omega
     refine am 3 j (fp j j j j (a.rd O (bT.of_nil _ _)) (v:=bv key[i]) (by simp [au,F]) F (λS T I=>?_));refine ar 0 j I ?_;refine bI 1 j ?_;refine⟨⟨j,j,j,j,j,j,?_,aX⟩,a⟩;exact aG (λx=>some (bv x)) (GL F).symm
    refine bI 1 j ?_;refine⟨⟨j,j,j,j,j,j,?_,aX⟩,a⟩;exact aG (λx=>some (bv x)) (GK (by have:=dM z;omega)).symm
   rintro Z w ⟨aM,a⟩;refine lD [(0,.slice t key.length qu),(1,.slice B p.length d),(4,ab h),(6,.slice (some ⟨g,0,none⟩) 64 64),(7,.slice (some ⟨k,0,none⟩) 64 64),(8,.int .i64 (i:Nat)),(9,bv ((iN key).getD i 0))] aM ?_;have s:i<64:=by have:=dz u;omega
   refine bq 6 j j j (uW _ 92) ?_;refine bq 1 j j j (uW _ 54) ?_;refine wM j j j j s ?_;refine cB a j j j j (by simp [cL,zP (k0 92 aa) H];omega) (λw a=>?_);have a:C o [] [[(g,.cells (au (g5 (eh key 92) (i+1))).toArray 5 (0,0))],[(k,.cells (au (g5 (eh key 54) i)).toArray 5 (0,0))],R h (Array.replicate 32 (bv 0)) 37] w:=by rw [<-zQ (k0 92 aa) s,Bi 92 aa s];exact a
   refine wM j j j j s ?_;refine cB a.f1 j j j j (by simp [cL,zP (k0 54 aa) H];omega) (λw a=>?_);have a:C o [] [[(k,.cells (au (g5 (eh key 54) (i+1))).toArray 5 (0,0))],[(g,.cells (au (g5 (eh key 92) (i+1))).toArray 5 (0,0))],R h (Array.replicate 32 (bv 0)) 37] w:=by rw [<-zQ (k0 54 aa) s,Bi 54 aa s];exact a
   have a:C o [] [[(g,.cells (au (g5 (eh key 92) (i+1))).toArray 5 (0,0))],[(k,.cells (au (g5 (eh key 54) (i+1))).toArray 5 (0,0))],R h (Array.replicate 32 (bv 0)) 37] w:=a.f1;refine bq 2 j j j (cE i (by omega)) ?_;refine bI 1 j ?_;exact⟨i+1,⟨j,j,j,j,j,j,aX⟩,⟨by have:=dz u;omega,a⟩,by have:=dz u;omega⟩
  have J:i=64:=by have:=dM u;omega
  subst J;rw [zO (k0 92 aa),zO (k0 54 aa)] at a;refine am 5 j (dR a.f1 (Row.full (e:=5) (size:=1) (b:=k) (n:=64) (cur:=(au (eh key 54)).toArray) (by unfold maxLen;omega) (by simp [cL,k0 _ aa])) j j (by decide) j j j (news:=au p) (by simp) (a.rd L (bT.of_nil _ _)) (eg p) (by omega) (by unfold maxLen;omega) (λv ag w q a=>?_))
  have q:du v (eh key 54++p) ag:=by
   have A:au (eh key 54++p)=au (eh key 54)++au p:=by simp [au]
   have D:(eh key 54++p).length=64+p.length:=by rw [b0,k0 54 aa]
   show Row 5 1 v (eh key 54++p).length (au (eh key 54++p)) ag;rw [A,D];exact q
  obtain⟨P,aV,rfl,V,_,M,_⟩:=q.rd a;refine bp 0 (s0 (c:=aV) M (by rw [b0,k0 54 aa];omega)) j (λw E=>?_);have a:=a.aL E;refine b7 0 a j (λy w a=>?_);refine b6 0 a j j j (by simpa using eg (br (eh key 54++p))) (l3 _) (λw a=>?_);have a:=C.whole (U:=au (br (eh key 54++p))) a j;have a:C o [] [R g (au (eh key 92)).toArray 5,[(y,.cells (au (br (eh key 54++p))).toArray 37 (0,0))],R h (Array.replicate 32 (bv 0)) 37] w:=a.as;refine am 3 j (k3 j j j ?_);have K:Rd w (some ⟨y,0,none⟩) (au (br (eh key 54++p))):=bn (C.aj (b:=y) a);refine dR a (Row.full (e:=5) (size:=1) (b:=g) (n:=64) (cur:=(au (eh key 92)).toArray) (by unfold maxLen;omega) (by simp [cL,k0 _ aa])) j j (by decide) j j j (m:=32) (news:=au (br (eh key 54++p))) (by rw [l3]) K (eg _) (by omega) (by unfold maxLen;omega) (λv G w q a=>?_)
  have q:du v (eh key 92++br (eh key 54++p)) G:=by
   have A:au (eh key 92++br (eh key 54++p))=au (eh key 92)++au (br (eh key 54++p)):=by simp [au]
   have D:(eh key 92++br (eh key 54++p)).length=64+32:=by rw [b0,k0 92 aa,eK]
   show Row 5 1 v (eh key 92++br (eh key 54++p)).length (au (eh key 92++br (eh key 54++p))) G;rw [A,D];exact q
  obtain⟨Q,dp,rfl,W,_,N,_⟩:=q.rd a;refine bp 0 (s0 (c:=dp) N (by rw [b0,k0 92 aa,eK];omega)) j (λw E=>?_);have a:=a.aL E;refine b6 0 (a.bc h) j j j (by simpa using eg (br (eh key 92++br (eh key 54++p)))) (l3 _) (λw a=>?_);have a:=C.whole (U:=au (br (eh key 92++br (eh key 54++p)))) a j;refine bD 0 j ⟨_,gr (U:=au (br (eh key 92++br (eh key 54++p)))) results121 j j j a.bz,?_⟩;exact⟨j,a.bare⟩
def og(keys:List (List UInt8))(i:Int)(b:List UInt8):List UInt8:=if 0<=i/\i<(keys.length:Int) then kR (keys.getD i.toNat []) b else cA
theorem Hy(keys:List (List UInt8))(i:Int)(b:List UInt8):(og keys i b).length=32:=by unfold og;split;exact mw _ _;rfl
theorem Hi{o:World}{D:Nat}{keys:List (List UInt8)}{G:List Chunk}{i:Int}{B:Option Addr}{p:List UInt8}{d:Nat}(H:rB D keys G)(u:Holds o G)(l:∀k∈keys,k.length=32)(N:Rd o B (au p))(M:p.length<=1000000):Calls prog 63 #[ab D,ae i,.slice B p.length d] o λr w=>r= .agg (au (og keys i p)).toArray/\C o [] [] w:=by
 have a:Own [] o:=C.start o;obtain⟨aa,ag,rfl,P⟩:=H;have y:=u.left.head;obtain⟨Q,T,rfl,X,Y,O,_⟩:=P.read u.right;refine eV func63 (b7 2 a j (λq w a=>?_));have a:C o [] [R q (au cA).toArray 37] w:=a;refine am 6 j (cT 10 j (λh=>?_) (λh=>?_))
 .refine am 11 j (cN (c:=(au cA).toArray) j j j (λ_=>by kernel_rfl) ?_);refine b6 0 a j j j (by decide) (by decide) (λw a=>?_);have a:=C.whole (U:=au cA) a j;refine bD 0 j ⟨_,gr (U:=au cA) results63 j j j a.bz,?_⟩;refine⟨?_,a.bare⟩;unfold og;rw [aI (by have:=dz h;omega)]
 refine ar 4 j (ax (a.cc y) j) (b8 3 j j (λt=>?_) (λt=>?_))
 .refine am 2 j (cN (c:=(au cA).toArray) j j j (λ_=>by kernel_rfl) ?_);refine b6 0 a j j j (by decide) (by decide) (λw a=>?_);have a:=C.whole (U:=au cA) a j;refine bD 0 j ⟨_,gr (U:=au cA) results63 j j j a.bz,?_⟩;refine⟨?_,a.bare⟩;unfold og;rw [aI (by omega)]
 refine ar 6 j (ax (a.cc y) j) ?_;have I:0<=i/\i<(keys.length:Int):=by have V:=dM h;have W:=t;omega
 obtain⟨n,rfl⟩:∃n:Nat,i=n:=⟨i.toNat,by omega⟩;have g:n<keys.length:=by omega
 have e:=l _ (d9 g);have A:=a.rd O (bT.of_nil _ _);have E:(au keys[n])[0]? =some (bv keys[n][0]):=by simp [au,e]
 refine am 1 j (fp j j j j A (v:=bv keys[n][0]) (by have:=h8 (f:=au) (n:=32) (J:=0) keys (λx m=>by rw [cL];exact l x m) n g (by decide) E;simpa using this) g (λS F Z=>?_));subst F;refine bM 0 (U:=au keys[n]) j j (by rw [cL,e]) (i0 (f:=au) A (λx m=>by rw [cL];exact l x m) n g) (b7 0 a j (λs w a=>b6 0 a j j j (by simpa using eg keys[n]) (by rw [List.size_toArray,cL,e]) (λw a=>?_)));have a:=C.whole (U:=au keys[n]) a (by rw [cL,e];rfl);refine am 2 j (k3 j j j ?_);have L:Rd w (some ⟨s,0,none⟩) (au keys[n]):=bn (C.aj (b:=s) a);have z:=He (qu:=32) (d:=d) L (by omega) (a.rd N (bT.of_nil _ _)) M;rw [e] at z;refine bp 1 z j (λw K=>?_);have a:=a.aL K;refine b6 0 (a.bc q) j j j (by simpa using eg (kR keys[n] p)) (by rw [List.size_toArray,cL,mw]) (λw a=>?_);have a:=C.whole (U:=au (kR keys[n] p)) a (by rw [cL,mw];rfl);refine bD 0 j ⟨_,gr (U:=au (kR keys[n] p)) results63 j j (by rw [cL,mw]) a.bz,?_⟩;refine⟨?_,a.bare⟩;unfold og;rw [a6 I];simp [List.getD,g]
theorem G9{o:World}{n:Nat}{keys:List (List UInt8)}{G:List Chunk}{i:Int}{B:Option Addr}{p tag:List UInt8}{d:Nat}(l:rB n keys G)(g:Holds o G)(q:∀k∈keys,k.length=32)(x:Rd o B (au p))(v:p.length<=1000000)(m:tag.length=32):Calls prog 31 #[ab n,ae i,.slice B p.length d,.agg (au tag).toArray] o λr w=>r= .bool (decide (0<=i/\i<(keys.length:Int))&&(og keys i p==tag))/\C o [] [] w:=by
 have a:Own [] o:=C.start o;have s:=l;obtain⟨H,ag,rfl,y⟩:=l;have t:=g.left.head;obtain⟨z,A,rfl,D,E,F,_⟩:=y.read g.right;refine a2 func31 (bL 2 a j j (λc w a=>?_));have a:C o [] ([R c (au tag).toArray 37]++[]) w:=a;have a:=a.drew;refine bt 2 j (λw=>∃ad,C o [] ([R c (au tag).toArray 37]++ad) w) ⟨_,a⟩ (af 0 3 j (ef 11 j (λe=>?_) (λe=>?_)))
 .refine af 3 4 j (bR 7 j (λw⟨_,h⟩=>ax (h.cc t) j) (af 8 4 j (ef 20 j (λf=>?_) (λf=>?_))))
  .refine af 12 3 j (aT 16 j (λw⟨_,h⟩=>c4 (U:=au tag) j j (by rw [cL,m]) (bn (C.aj (b:=c) h))) (aR 15 j (bB j j j (Hi (i:=i) (d:=d) s (g.st a) q (a.rd x (bT.of_nil _ _)) v) (λw u=>?_))));have a:=a.aL u;refine an ⟨⟨_,a⟩,?_⟩;refine aT 17 j (λw _=>pG j j (by kernel_rfl) (λw=>o4 _ _ (Hy _ _ _) m 9998 w)) (af 18 2 j (bK (aq 0 j j (⟨aG Value.bool ?_,a.bare⟩))));rw [je (show 0<=i/\i<(keys.length:Int) from⟨by have:=dz e;omega,by have:=dz f;omega⟩),rK]
  refine fC 8 [12,13,14,16,15,17,18,19] j (bK (aq 0 j j (⟨aG Value.bool ?_,a.bare⟩)));rw [e4 (λh=>absurd h.2 (by have:=dM f;omega)),m0]
 refine fC 17 [3,4,5,6,7,8,9,10,11,12,13,14,16,15,17,18,19] j (bK (aq 0 j j (⟨aG Value.bool ?_,a.bare⟩)));rw [e4 (λh=>absurd h.1 (by have:=dM e;omega)),m0]
abbrev aW.body(m:aW):List UInt8:=d7 [4,m.k,m.f,m.s,m.v]++(hC m.x++ju m.l)
def aW.may(m:aW):Bool:=fJ m.k 1 6&&fJ m.f 0 9&&fJ m.to 0 9&&fJ m.s 0 63&&fJ m.v 0 8&&decide (m.x.length<=200)&&decide (m.l.length<=10)&&m.l.all i9
structure aW.cQ(m:aW):Prop where
 tag:m.tag.length=32
 aH:∀x∈m.l,x.ok
 x:m.x.length<=200
 l:m.l.length<=10
structure ak where
 ao:Int
 slot:Int
 view:Int
 fX:Int
 dH:List UInt8
 c3:List aE
 want:List UInt8
 props:List (Int×aW)
 dh:List (List UInt8)
 cW:List (Int×List aE)
 az:List (Int×List aE)
 dj:List (Int×List (Int×aW))
 hT:Int
 comm:Int
 prop:Int
 value:List UInt8
 dK:List aE
 dec:Bool
def ak.new(ao slot:Int):ak:=⟨ao,slot,0,-1,[],[],[],[],[],[],[],[],-1,-1,-1,[],[],false⟩
abbrev al.n(g:al):Nat:=g.keys.length
def ak.leads(g:al)(s:ak)(node view:Int):Bool:=node==(nr s.slot.toNat view.toNat g.n:Nat)
def ak.js(g:al)(s:ak)(m:aW)(to:Int):aW:={m with f:=s.ao,to:=to,s:=s.slot,tag:=g.cu s.ao ({m with f:=s.ao,to:=to,s:=s.slot}:aW).body}
def mD(ao:Int)(n:Nat):List Int:=((List.range n).map λi:Nat=>(i:Int)).filter λi=>i !=ao
def ak.all(g:al)(s:ak)(m:aW):List aW:=(mD s.ao g.n).map λto=>s.js g m to
def o7(l:List aE)(sum:List UInt8)(f:Int):Bool:=l.any λv=>v.sum==sum&&v.f==f
def iW(l:List aE)(v:aE):List aE:=if o7 l v.sum v.f then l else l++[v]
def ak.iy(s:ak)(kind view:Int):List aE:=(aZ (if kind=1 then s.cW else s.az) view).getD []
def ak.counts(s:ak)(v:aE):ak:=if v.k=1 then{s with cW:=cj s.cW v.v (iW (s.iy 1 v.v) v)} else{s with az:=cj s.az v.v (iW (s.iy 2 v.v) v)}
def ak.jN(s:ak)(x:List UInt8):ak:=if x∈s.dh then s else{s with dh:=s.dh++[x]}
def ak.gf(g:al)(s:ak)(m:aW):ak:=if(aZ s.props m.v).isSome|| !s.leads g m.f m.v then s else({s with props:=cj s.props m.v m}:ak).jN m.x
def ak.hW(g:al)(s:ak)(m:aW)(v:aE):Bool:=(v.k==1||v.k==2)&&(v.s==s.slot&&(v.f==m.f&&_root_.Go.Proofs.YtngjfjhomikplaaGreatDoor.R.cQ g v))
def ak.dk(g:al)(s:ak)(m:aW):ak:=match m.l with
 |[]=>s
 |v::_=>if s.hW g m v then s.counts v else s
def ak.status(g:al)(s:ak)(m:aW):ak:=if s.leads g s.ao m.v then
 {s with dj:=cj s.dj m.v (if(aZ ((aZ s.dj m.v).getD []) m.f).isSome then(aZ s.dj m.v).getD [] else cj ((aZ s.dj m.v).getD []) m.f m)} else s
def ak.gl(s:ak)(x:List UInt8)(l:List aE):ak:={s with value:=x,dK:=l,dec:=true}
def ak.decision(g:al)(s:ak)(m:aW):ak:=match m.l with
 |[]=>s
 |v::_=>if meets g m.l 2 s.slot v.v (br m.x) then s.gl m.x m.l else s
def ak.mp(g:al)(s:ak)(m:aW):Bool:=m.may&&(m.s==s.slot&&(m.f !=s.ao&&g.check m.f m.body m.tag))
def j1(l:List aE):List aE:=l.mergeSort λa b=>decide (a.f<=b.f)
def fd(l:List aE)(sum:List UInt8):List aE:=l.filter λv=>v.sum==sum
def ak.fs(g:al)(s:ak)(b:List aE):Option (List UInt8×List aE):=s.dh.findSome? λx=>if ii g.n<=(j1 (fd b (br x))).length then some (x,j1 (fd b (br x))) else none
def ak.aH(g:al)(s:ak)(kind:Int)(x:List UInt8):ak×List aW:=
 (s.counts (cX g kind s.slot s.view (br x) s.ao),s.all g ⟨3,0,0,0,s.view,[],[cX g kind s.slot s.view (br x) s.ao],cA⟩)
def ak.gX(g:al)(s:ak):Option (ak×List aW):=((dd s.az).findSome? λp=>s.fs g p.2).map λy=>(s.gl y.1 y.2,[])
def ak.gz(g:al)(s:ak):Option (ak×List aW):=match aZ s.props s.view with
 |none=>none
 |some m=>if s.hT>=s.view then none else if _root_.Go.Proofs.YtngjfjhomikplaaGreatDoor.R.may g s.fX s.dH s.slot s.view m.x m.l then some (({s with hT:=s.view}:ak).aH g 1 m.x) else none
def ak.g3(g:al)(s:ak):Option (ak×List aW):=if s.comm>=s.view then none else
 match s.fs g (s.iy 1 s.view) with
 |none=>none
 |some y=>some (({s with comm:=s.view,fX:=s.view,dH:=y.1,c3:=y.2}:ak).aH g 2 y.1)
def iH(g:al)(slot view:Int)(l:List (Int×aW)):Int×List UInt8×List aE:=l.foldl (λk p=>lf g slot view k.2.1 k.2.2 p.2.x p.2.l) (-1,[],[])
def ak.gU(g:al)(s:ak):Option (List UInt8×List aE):=
 if 0<s.view then
  match aZ s.dj s.view with
  |none=>none
  |some l=>if(aZ l s.ao).isSome&&decide (ii g.n<=l.length) then
   (if(iH g s.slot s.view (dd l)).1>=0 then some (iH g s.slot s.view (dd l)).2 else if 0<s.want.length then some (s.want,[]) else none)
   else none
 else if 0<s.want.length then some (s.want,[]) else none
def ak.gW(g:al)(s:ak):Option (ak×List aW):=if s.leads g s.ao s.view=false\/s.prop>=s.view then none else
 match s.gU g with
 |none=>none
 |some y=>some (({s with prop:=s.view}:ak).gf g (s.js g ⟨2,0,0,0,s.view,y.1,y.2,cA⟩ s.ao),s.all g ⟨2,0,0,0,s.view,y.1,y.2,cA⟩)
def ak.step(g:al)(s:ak):Option (ak×List aW):=match s.gX g with
 |some r=>some r
 |none=>match s.gz g with
  |some r=>some r
  |none=>match s.g3 g with
   |some r=>some r
   |none=>s.gW g
def ak.left(s:ak):Nat:=(if s.dec then 0 else 1)+(if s.hT<s.view then 1 else 0)+(if s.comm<s.view then 1 else 0)+(if s.prop<s.view then 1 else 0)
def ak.go(g:al):Nat->ak->List aW->ak×List aW
 |0,s,l=>(s,l)
 |n+1,s,l=>if s.dec then(s,l) else match s.step g with
  |none=>(s,l)
  |some (e8,bY)=>ak.go g n e8 (l++bY)
def ak.steps(g:al)(s:ak):ak×List aW:=ak.go g 5 s []
def ak.fm(g:al)(s:ak)(m:aW):ak:=if m.k=2 then s.gf g m else if m.k=3 then s.dk g m else if m.k=4 then s.status g m else if m.k=5 then s.decision g m else s
def ak.take(g:al)(s:ak)(m:aW):ak×List aW:=if s.dec|| !s.mp g m then(s,[]) else(s.fm g m).steps g
def ak.hX(g:al)(s:ak)(x:List UInt8):ak×List aW:=if s.dec then(s,[]) else(if 0<x.length/\x.length<=200 then{s with want:=x} else s:ak).steps g
def ak.gs(g:al)(s:ak):ak×List aW:=
 let s1:ak:={s with view:=s.view+1};let m:aW:=⟨4,0,0,0,s.view+1,s.dH,s.c3,cA⟩;let to:Int:=(nr s.slot.toNat (s.view+1).toNat g.n:Nat)
 if to=s.ao then(s1.status g (s1.js g m to),[]) else(s1,[s1.js g m to])
def ak.tick(g:al)(s:ak):ak×List aW:=if s.dec||decide (s.view>=8) then(s,[]) else
 (((s.gs g).1.steps g).1,(s.gs g).2++((s.gs g).1.steps g).2)
structure fM(g:al)(N:Nat)(l:List aE):Prop where
 len:l.length<=N
 ok:∀v∈l,v.ok
 cQ:∀v∈l,_root_.Go.Proofs.YtngjfjhomikplaaGreatDoor.R.cQ g v=true
 apart:l.Pairwise λa b=>¬(a.sum=b.sum/\a.f=b.f)
structure ak.ok(g:al)(N:Nat)(s:ak):Prop where
 ao:0<=s.ao/\s.ao<g.n
 slot:0<=s.slot/\s.slot<=63
 view:0<=s.view/\s.view<=8
 dH:s.dH.length<=200
 c3:s.c3.length<=10
 ll:∀x∈s.c3,x.ok
 want:s.want.length<=200
 props:s.props.length<=N
 sT:∀p∈s.props,p.2.cQ
 dh:s.dh.length<=N
 py:∀x∈s.dh,x.length<=200
 cW:s.cW.length<=N
 lN:∀p∈s.cW,fM g N p.2
 az:s.az.length<=N
 j0:∀p∈s.az,fM g N p.2
 dj:s.dj.length<=N
 mK:∀p∈s.dj,p.2.length<=N/\∀q∈p.2,q.2.cQ
 value:s.value.length<=200
 dK:s.dK.length<=10
 ri:∀x∈s.dK,x.ok
theorem fM.more{g:al}{N M:Nat}{l:List aE}(h:fM g N l)(a:N<=M):fM g M l:=⟨ek h.len a,h.ok,h.cQ,h.apart⟩
theorem fM.nil(g:al)(N:Nat):fM g N []:=⟨by simp,by simp,by simp,by simp⟩
theorem ak.ok.more{g:al}{N M:Nat}{s:ak}(h:s.ok g N)(a:N<=M):s.ok g M:=
 {h with props:=ek h.props a,dh:=ek h.dh a,cW:=ek h.cW a,lN:=λp b=>(h.lN p b).more a,az:=ek h.az a,j0:=λp b=>(h.j0 p b).more a,dj:=ek h.dj a,mK:=λp b=>⟨ek (h.mK p b).1 a,(h.mK p b).2⟩}
theorem my{β:Type}:∀(m:List (Int×β))(k:Int)(v:β),(cj m k v).length<=m.length+1
 |[],_,_=>by simp [cj]
 |(J,u)::r,k,v=>by
  simp only [cj];split
  .simp
  .have:=my r k v;simp only [eu];omega
theorem i5{β:Type}:∀{m:List (Int×β)}{k:Int}{v:β}{p:Int×β},p∈cj m k v->p∈m\/p=(k,v)
 |[],k,v,p,h=>by simp [cj] at h;exact .inr h
 |(J,u)::r,k,v,p,h=>by
  simp only [cj] at h;split at h
  .rcases g1.1 h with h|h
   .exact .inr h
   .exact .inl (lG _ h)
  .rcases g1.1 h with h|h
   .exact .inl (h▸oF)
   .rcases i5 h with h|h
    .exact .inl (lG _ h)
    .exact .inr h
theorem hS{β:Type}{m:List (Int×β)}{k:Int}{v:β}(h:aZ m k=some v):(k,v)∈m:=by
 rcases n9 m k with⟨a,_⟩|⟨J,u,a,b,_⟩
 .rw [a] at h;cases h
 .rw [a] at h;cases h;exact h5 b
theorem fM.sG{g:al}{N:Nat}{b:List (Int×List aE)}(h:∀p∈b,fM g N p.2)(k:Int):fM g N ((aZ b k).getD []):=by
 cases aa:aZ b k with
 |none=>exact fM.nil g N
 |some l=>exact h _ (hS aa)
theorem ak.ok.iy{g:al}{N:Nat}{s:ak}(h:s.ok g N)(kind view:Int):fM g N (s.iy kind view):=by
 unfold ak.iy;split
 .exact fM.sG h.lN view
 .exact fM.sG h.j0 view
theorem fM.iW{g:al}{N:Nat}{l:List aE}{v:aE}(h:fM g N l)(j:v.ok)(i:_root_.Go.Proofs.YtngjfjhomikplaaGreatDoor.R.cQ g v=true):fM g (N+1) (iW l v):=by
 unfold _root_.Go.Proofs.YtngjfjhomikplaaGreatDoor.R.iW;split
 .exact h.more (ex _)
 .rename_i aJ;refine⟨by rw [b0,List.length_singleton];have:=h.len;omega,?_,?_,?_⟩
  .intro x c;rcases dv.1 c with c|c
   .exact h.ok x c
   .rw [fT.1 c];exact j
  .intro x c;rcases dv.1 c with c|c
   .exact h.cQ x c
   .rw [fT.1 c];exact i
  .refine List.pairwise_append.2 ⟨h.apart,by simp,λa e b f d=>aJ ?_⟩;rw [fT.1 f] at d;exact ko.2 ⟨a,e,by simp [d.1,d.2]⟩
theorem ak.ok.counts{g:al}{N:Nat}{s:ak}{v:aE}(h:s.ok g N)(d:v.ok)(c:_root_.Go.Proofs.YtngjfjhomikplaaGreatDoor.R.cQ g v=true):(s.counts v).ok g (N+1):=by
 unfold ak.counts;have a:=h.more (ex N);split
 .exact{a with cW:=ek (my _ _ _) (p2 h.cW),lN:=λp b=>(i5 b).elim (a.lN p) (λe=>by rw [e];exact(h.iy 1 v.v).iW d c)}
 .exact{a with az:=ek (my _ _ _) (p2 h.az),j0:=λp b=>(i5 b).elim (a.j0 p) (λe=>by rw [e];exact(h.iy 2 v.v).iW d c)}
theorem ak.ok.jN{g:al}{N:Nat}{s:ak}{x:List UInt8}(h:s.ok g (N+1))(c:s.dh.length<=N)(a:x.length<=200):(s.jN x).ok g (N+1):=by
 unfold ak.jN;split
 .exact h
 .exact{h with dh:=by simp only [b0,List.length_singleton];omega,py:=λy b=>(List.mem_append.1 b).elim (h.py y) (λe=>by rw [List.mem_singleton.1 e];exact a)}
theorem ak.ok.gf{g:al}{N:Nat}{s:ak}{m:aW}(h:s.ok g N)(hm:m.cQ):(s.gf g m).ok g (N+1):=by
 unfold ak.gf;have a:=h.more (ex N);split
 .exact a
 .have b:ak.ok g (N+1) ({s with props:=cj s.props m.v m}:ak):=
   {a with props:=ek (my _ _ _) (p2 h.props),sT:=λp c=>(i5 c).elim (a.sT p) (λe=>by rw [e];exact hm)}
  exact b.jN h.dh hm.x
theorem ak.ok.dk{g:al}{N:Nat}{s:ak}{m:aW}(h:s.ok g N)(hm:m.cQ):(s.dk g m).ok g (N+1):=by
 unfold ak.dk;have b:=h.more (ex N);split
 .exact b
 .rename_i v r c;split
  .rename_i a;refine h.counts (hm.aH v (by rw [c];simp)) ?_;unfold ak.hW at a;simp only [ea] at a;exact a.2.2.2
  .exact b
theorem ak.ok.status{g:al}{N:Nat}{s:ak}{m:aW}(h:s.ok g N)(hm:m.cQ):(s.status g m).ok g (N+1):=by
 unfold ak.status;have b:=h.more (ex N)
 have a:((aZ s.dj m.v).getD []).length<=N/\∀q∈(aZ s.dj m.v).getD [],q.2.cQ:=by
  cases aa:aZ s.dj m.v with
  |none=>exact⟨by simp,by simp⟩
  |some l=>exact h.mK _ (hS aa)
 split
 .refine{b with dj:=ek (my _ _ _) (p2 h.dj),mK:=λp c=>(i5 c).elim (b.mK p) (λe=>?_)};rw [e];dsimp only;split
  .exact⟨ek a.1 (ex _),a.2⟩
  .exact⟨ek (my _ _ _) (p2 a.1),λq d=>(i5 d).elim (a.2 q) (λe=>by rw [e];exact hm)⟩
 .exact b
theorem ak.ok.gl{g:al}{N:Nat}{s:ak}{x:List UInt8}{l:List aE}(h:s.ok g N)(c:x.length<=200)(a:l.length<=10)(b:∀x∈l,x.ok):(s.gl x l).ok g N:=
 {h with value:=c,dK:=a,ri:=b}
theorem ak.ok.decision{g:al}{N:Nat}{s:ak}{m:aW}(h:s.ok g N)(hm:m.cQ):(s.decision g m).ok g N:=by
 unfold ak.decision;split
 .exact h
 .split
  .exact h.gl hm.x hm.l hm.aH
  .exact h
theorem vH:∀(n:Nat)(l:List Int),l.Nodup->(∀i∈l,0<=i/\i<n)->l.length<=n
 |0,l,_,h=>by
  cases l with
  |nil=>simp
  |cons a r=>have:=h a (by simp);omega
 |n+1,l,aJ,h=>by
  have p:=vH n (l.filter λi=>decide (i≠(n:Int))) (aJ.filter _) (λi f=>by
   have e:=jC.1 f;have m:=h i e.1;have c:i≠(n:Int):=by simpa using e.2
   omega)
  have e:l.length<=(l.filter λi=>decide (i≠(n:Int))).length+1:=by
   have m:(l.filter λi=>decide (i=(n:Int))).length<=1:=by
    have c:(l.filter λi=>decide (i=(n:Int))).Nodup:=aJ.filter _;have d:∀i∈l.filter (λi=>decide (i=(n:Int))),i=(n:Int):=λi f=>by simpa using(List.mem_filter.1 f).2
    generalize l.filter (λi=>decide (i=(n:Int)))=z at c d
    match z,c,d with
    |[],_,_=>simp
    |[_],_,_=>simp
    |a::b::r,c,d=>
     have k:=d a (by simp);have aB:=d b (by simp);simp [k,aB] at c
   have o:∀z:List Int,z.length=(z.filter λi=>decide (i≠(n:Int))).length+(z.filter λi=>decide (i=(n:Int))).length:=by
    intro z;induction z with
    |nil=>rfl
    |cons a r j=>
     by_cases g:a=(n:Int)
     .simp [p3,g];simp at j;omega
     .simp [p3,g];simp at j;omega
   have:=o l;omega
  omega
theorem qG{g:al}{v:aE}(h:_root_.Go.Proofs.YtngjfjhomikplaaGreatDoor.R.cQ g v=true):0<=v.f/\v.f<g.n:=by
 unfold _root_.Go.Proofs.YtngjfjhomikplaaGreatDoor.R.cQ al.check at h;have:=(ea _ _▸h).1;exact dz this
theorem xy(g:al)(k s v:Int)(sum:List UInt8){f:Int}(bw:0<=f/\f<g.n):_root_.Go.Proofs.YtngjfjhomikplaaGreatDoor.R.cQ g (cX g k s v sum f)=true:=by
 unfold _root_.Go.Proofs.YtngjfjhomikplaaGreatDoor.R.cQ al.check;have e:(cX g k s v sum f).kd=aE.kd ⟨k,s,v,sum,f,cA⟩:=rfl;rw [e];have a:(cX g k s v sum f).tag=g.cu f (aE.kd ⟨k,s,v,sum,f,cA⟩):=rfl;have b:(cX g k s v sum f).f=f:=rfl;rw [a,b];simp only [beq_self_eq_true,Bool.and_true,gd];exact bw
theorem vN{g:al}{N:Nat}{l:List aE}(h:fM g N l)(sum:List UInt8):((fd l sum).map aE.f).Nodup:=by
 unfold fd;refine List.pairwise_map.2 ?_;have d:(l.filter λv=>v.sum==sum).Pairwise λa b=>¬(a.sum=b.sum/\a.f=b.f):=h.apart.filter _
 refine List.Pairwise.imp_of_mem (fun{a b}i k j e=>j ⟨?_,e⟩) d;have c:=(jC.1 i).2;have aB:=(jC.1 k).2;rw [d5.1 c,d5.1 aB]
theorem zz{g:al}{N:Nat}{l:List aE}(h:fM g N l)(sum:List UInt8):(fd l sum).length<=g.n:=by
 have:=vH g.n ((fd l sum).map aE.f) (vN h sum) (λi a=>by
  obtain⟨v,b,rfl⟩:=dV.1 a;exact qG (h.cQ v (jC.1 b).1))
 simpa using this
theorem C8(l:List aE):(j1 l).length=l.length:=hQ _
theorem uy{l:List aE}{v:aE}:v∈j1 l↔v∈l:=g0
theorem ak.ok.fs{g:al}{N:Nat}{s:ak}{b:List aE}{y:List UInt8×List aE}(h:s.ok g N)(d:g.ok)(c:fM g N b)(he:s.fs g b=some y):y.1.length<=200/\y.2.length<=10/\∀v∈y.2,v.ok:=by
 obtain⟨x,f,a⟩:=p4 he;split at a
 .cases a;refine⟨h.py x f,?_,λv e=>c.ok v (jC.1 (uy.1 e)).1⟩;dsimp only;rw [C8];exact ek (zz c _) d.n10
 .cases a
theorem ak.ok.aH{g:al}{N:Nat}{s:ak}(h:s.ok g N)(kind:Int)(x:List UInt8):(s.aH g kind x).1.ok g (N+1):=
 h.counts (iZ _ _ _ _ _ _ (eK _)) (xy _ _ _ _ _ h.ao)
theorem ak.ok.gX{g:al}{N:Nat}{s:ak}{r:ak×List aW}(h:s.ok g N)(b:g.ok)(a:s.gX g=some r):r.1.ok g N:=by
 unfold ak.gX at a;cases bw:(dd s.az).findSome? λp=>s.fs g p.2 with
 |none=>rw [bw] at a;cases a
 |some y=>
  rw [bw] at a;cases a;obtain⟨p,c,d⟩:=p4 bw;have:=h.fs b (h.j0 p (g0.1 c)) d;exact h.gl this.1 this.2.1 this.2.2
theorem ak.ok.gz{g:al}{N:Nat}{s:ak}{r:ak×List aW}(h:s.ok g N)(a:s.gz g=some r):r.1.ok g (N+1):=by
 unfold ak.gz at a;split at a
 .cases a
 .split at a
  .cases a
  .split at a
   .cases a;exact ak.ok.aH (s:={s with hT:=s.view}) {h with} 1 _
   .cases a
theorem ak.ok.g3{g:al}{N:Nat}{s:ak}{r:ak×List aW}(h:s.ok g N)(b:g.ok)(a:s.g3 g=some r):r.1.ok g (N+1):=by
 unfold ak.g3 at a;split at a
 .cases a
 .split at a
  .cases a
  .rename_i y he;cases a;have:=h.fs b (h.iy 1 s.view) he;exact ak.ok.aH (s:={s with comm:=s.view,fX:=s.view,dH:=y.1,c3:=y.2}) {h with dH:=this.1,c3:=this.2.1,ll:=this.2.2} 2 _
theorem zZ{g:al}{slot below:Int}{x:List UInt8}{l:List aE}(c:x.length<=200)(a:l.length<=10)(b:∀v∈l,v.ok):(ky g slot below x l).2.1.length<=200/\(ky g slot below x l).2.2.length<=10/\∀v∈(ky g slot below x l).2.2,v.ok:=by
 unfold ky;split
 .exact⟨c,a,b⟩
 .exact⟨by simp,by simp,by simp⟩
theorem yB{g:al}{slot view:Int}{l:List (Int×aW)}(h:∀p∈l,p.2.cQ):(iH g slot view l).2.1.length<=200/\(iH g slot view l).2.2.length<=10/\∀v∈(iH g slot view l).2.2,v.ok:=by
 unfold iH
 have key:∀(l:List (Int×aW))(k:Int×List UInt8×List aE),(∀p∈l,p.2.cQ)->(k.2.1.length<=200/\k.2.2.length<=10/\∀v∈k.2.2,v.ok)->
  (l.foldl (λk p=>lf g slot view k.2.1 k.2.2 p.2.x p.2.l) k).2.1.length<=200/\(l.foldl (λk p=>lf g slot view k.2.1 k.2.2 p.2.x p.2.l) k).2.2.length<=10/\∀v∈(l.foldl (λk p=>lf g slot view k.2.1 k.2.2 p.2.x p.2.l) k).2.2,v.ok:=by
  intro l;induction l with
  |nil=>intro k _ aa;exact aa
  |cons p r d=>
   intro k b aa;refine d _ (λq c=>b q (by simp [c])) ?_;have a:=b p (by simp);unfold lf;dsimp only;split
   .exact zZ a.x a.l a.aH
   .exact zZ aa.1 aa.2.1 aa.2.2
 exact key l _ h ⟨by simp,by simp,by simp⟩
theorem ak.ok.gU{g:al}{N:Nat}{s:ak}{y:List UInt8×List aE}(h:s.ok g N)(a:s.gU g=some y):y.1.length<=200/\y.2.length<=10/\∀v∈y.2,v.ok:=by
 unfold ak.gU at a
 have hw:∀y:List UInt8×List aE,(if 0<s.want.length then some (s.want,([]:List aE)) else none)=some y->y.1.length<=200/\y.2.length<=10/\∀v∈y.2,v.ok:=λy b=>by
  split at b
  .cases b;exact⟨h.want,by simp,by simp⟩
  .cases b
 split at a
 .split at a
  .cases a
  .rename_i l c;split at a
   .split at a
    .cases a;exact yB (λp d=>(h.mK _ (hS c)).2 p (g0.1 d))
    .exact hw y a
   .cases a
 .exact hw y a
theorem ak.nC{g:al}{s:ak}{m:aW}{to:Int}(c:m.x.length<=200)(a:m.l.length<=10)(b:∀v∈m.l,v.ok):(s.js g m to).cQ:=⟨al.ec _ _ _,b,c,a⟩
theorem ak.ok.gW{g:al}{N:Nat}{s:ak}{r:ak×List aW}(h:s.ok g N)(a:s.gW g=some r):r.1.ok g (N+1):=by
 unfold ak.gW at a;split at a
 .cases a
 .split at a
  .cases a
  .rename_i y b;cases a;have:=h.gU b;exact ak.ok.gf (s:={s with prop:=s.view}) {h with} (ak.nC this.1 this.2.1 this.2.2)
theorem ak.ok.step{g:al}{N:Nat}{s:ak}{r:ak×List aW}(h:s.ok g N)(b:g.ok)(a:s.step g=some r):r.1.ok g (N+1):=by
 unfold ak.step at a;split at a
 .rename_i e;cases a;exact(h.gX b e).more (ex _)
 .split at a
  .rename_i e;cases a;exact h.gz e
  .split at a
   .rename_i e;cases a;exact h.g3 b e
   .exact h.gW a
theorem ak.ok.go{g:al}(a:g.ok):∀(k:Nat){N:Nat}{s:ak}{l:List aW},s.ok g N->(ak.go g k s l).1.ok g (N+k)
 |0,_,_,_,h=>h
 |k+1,N,s,l,h=>by
  unfold ak.go;split
  .exact h.more (by omega)
  .split
   .exact h.more (by omega)
   .rename_i e8 bY e;have:=ak.ok.go a k (l:=l++bY) (h.step a e);rw [show N+(k+1)=N+1+k by omega];exact this
theorem ak.ok.steps{g:al}{N:Nat}{s:ak}(h:s.ok g N)(a:g.ok):(s.steps g).1.ok g (N+5):=ak.ok.go a 5 h
theorem ak.ok.fm{g:al}{N:Nat}{s:ak}{m:aW}(h:s.ok g N)(hm:m.cQ):(s.fm g m).ok g (N+1):=by
 unfold ak.fm
 repeat' split
 .exact h.gf hm
 .exact h.dk hm
 .exact h.status hm
 .exact(h.decision hm).more (ex _)
 .exact h.more (ex _)
theorem ak.ok.take{g:al}{N:Nat}{s:ak}{m:aW}(h:s.ok g N)(a:g.ok)(hm:m.cQ):(s.take g m).1.ok g (N+6):=by
 unfold ak.take;split
 .exact h.more (by omega)
 .exact(h.fm hm).steps a
theorem ak.ok.hX{g:al}{N:Nat}{s:ak}{x:List UInt8}(h:s.ok g N)(a:g.ok):(s.hX g x).1.ok g (N+5):=by
 unfold ak.hX;split
 .exact h.more (by omega)
 .split
  .rename_i b;exact ak.ok.steps (s:={s with want:=x}) {h with want:=b.2} a
  .exact h.steps a
theorem ak.ok.gs{g:al}{N:Nat}{s:ak}(h:s.ok g N)(b:s.view<8):(s.gs g).1.ok g (N+1):=by
 unfold ak.gs;have a:ak.ok g N ({s with view:=s.view+1}:ak):={h with view:=⟨show 0<=s.view+1 by have:=h.view;omega,show s.view+1<=8 by omega⟩};dsimp only;split
 .exact a.status (ak.nC h.dH h.c3 h.ll)
 .exact a.more (ex _)
theorem ak.ok.tick{g:al}{N:Nat}{s:ak}(h:s.ok g N)(a:g.ok):(s.tick g).1.ok g (N+6):=by
 unfold ak.tick;split
 .exact h.more (by omega)
 .rename_i aJ;have b:s.view<8:=by simp at aJ;omega
  exact(h.gs b).steps a
def aC.tw(m:aC):List UInt8:=d7 [1,m.k,m.f,m.to,m.s,m.v]++(hC m.x++(ju m.l++m.tag))
theorem aC.qv(m:aC):∀i u,(au m.tag)[i]? =some u->m.cs.toArray[0+7+i]? =some u:=λi u hu=>by
 rw [show 0+7+i=i+1+1+1+1+1+1+1 by omega];simp only [aC.cs,nb,nV];exact hu
theorem x0{o:World}{m:aC}(hm:m.ok o):Calls prog 155 #[.agg m.cs.toArray] o λr w=>∃v G,r= .tuple #[v,.int .i64 (if i6 m then 0 else 1)]/\du v (if i6 m then m.tw else []) G/\C o [] [G] w:=by
 have a:Own [] o:=C.start o;refine a2 func155 ?_;refine bL 2 a j j (λaz w a=>?_);refine bM 5 (U:=m.cs) j j (m.len hm) (Aa a) ?_;have g:=ET (hm.st a);refine bp 0 g j (λw aa=>?_);have a:=a.aL aa;refine bm 1 j j (λdB=>?_) (λdB=>?_)
 .refine aq 4 j j ?_;have p:i6 m=false:=by simpa using dB
  rw [p];exact⟨_,[],j,Row.nil _ _,a.bare.empty⟩
 refine b7 3 a j (λq w a=>?_);have a:C o [] (e2 q (.slice none 0 0)::_) w:=a;have p:i6 m=true:=by simpa using dB
 have N:m.x.length<=200/\m.l.length<=10:=by
  have h:=p;unfold i6 at h;simp only [ea,gd] at h;omega
 refine ar 3 j (a.f1.cell m.gJ) ?_;refine ar 1 j (a.f1.cell m.aV) ?_;refine ar 1 j (a.f1.cell m.dp) ?_;refine ar 1 j (a.f1.cell m.gK) ?_;refine ar 1 j (a.f1.cell m.fG) ?_;refine eC a j j j j j j bG (λK w a=>?_);have aJ:=a.bz;have y:=a.iX (off:=0) (sp:=none) (U:=[1,m.k,m.f,m.to,m.s,m.v].map ae);have a:=a.f1.empty.f1;have g:=lp (aD:=[]) (cS:=[1,m.k,m.f,m.to,m.s,m.v]) (c:=6) a.cF (Row.nil _ _) aJ (y.kX (by simp) (λb E=>fI (fz:=[e2 q (.slice none 0 0)]) (by simp) b (by simpa [av] using E))) (by simp);refine bp 0 g j (λw⟨v1,n,i,aa⟩=>?_);have a:=a.cD aa;rw [kI] at i;have H:=fU [1,m.k,m.f,m.to,m.s,m.v];simp only [eu,ge] at H;refine ar 3 j (a.f3.cell m.gk) ?_;refine eC a j j j j j j bG (λt w a=>?_);have I:=a.bz;have z:=a.iX (off:=0) (sp:=none) (U:=[.slice m.A m.x.length m.c]);have a:=a.f1.f2.f1;have D:=a.apart hm.x (bT.of_nil _ _);have F:k4 w (some ⟨t,0,none⟩) [m.x] (av [e2 q v1,n]):=k4.one I j (z.sub (fI (by simp))) (a.rd hm.x (bT.of_nil _ _)) (D.sub (fI (by simp)));have g:=uz (c:=1) a.cF i F (by simp only [ja,jW,rJ,List.sum_cons,List.sum_nil];omega);refine bp 0 g j (λw⟨v1,n,i,aa⟩=>?_);have a:=a.cD aa;rw [show jJ [m.x]=hC m.x from by simp [jJ]] at i;have L:=jI m.x (by omega);refine ar 3 j (a.f4.cell m.eU) ?_;have B:=a.apart hm.l (bT.of_nil _ _);have g:=Ap (d:=m.d) a.cF i (a.rd hm.l (bT.of_nil _ _)) (B.sub (fI (by simp))) hm.aH (by omega) (by simp only [b0];omega);refine bp 0 g j (λw⟨v1,n,i,aa⟩=>?_);have a:=a.cD aa;have M:=lz m.l hm.aH;refine am 3 j (k3 j j j ?_);have J:=a.f4.ij (off:=0+7) (U:=au m.tag) m.qv;have g:=qY (c:=32) a.cF i J (by simp only [b0,hm.tag];omega);rw [hm.tag] at g;refine bp 0 g j (λw⟨v1,n,i,aa⟩=>?_);have a:=a.cD aa;have g:=qT a.cF i (by simp only [b0,hm.tag];omega);refine bk 2 g j (λr w⟨G,u,aa⟩=>?_);have a:=(a.cD aa).hR;refine aq 2 j j ?_;rw [p];refine⟨_,G,j,?_,a⟩;have e:m.tw=d7 [1,m.k,m.f,m.to,m.s,m.v]++hC m.x++ju m.l++m.tag:=by simp [aC.tw,dJ]
 show du _ m.tw G;rw [e];exact u
def hY:List Value->List (List UInt8)->List Chunk->Prop
 |[],[],G=>G=[]
 |u::us,x::l,G=>∃ai aA,G=ai++aA/\du u x ai/\hY us l aA
 |[],_::_,_=>False
 |_::_,[],_=>False
def ir(v:Value)(l:List (List UInt8))(G:List Chunk):Prop:=∃ag H us,G=ag++H/\Row 28 1 v l.length us ag/\hY us l H
def ip(v:Value)(l:List aE)(G:List Chunk):Prop:=∃b u ag,v=ab b/\et u l ag/\G=(b,.cells #[u] 390 (0,0))::ag
abbrev jc(v:Value)(t:List (Int×aW))(G:List Chunk):Prop:=fv 296 ki v t G
structure eZ where
 dH:Value
 c3:Value
 want:Value
 props:Value
 dh:Value
 cW:Value
 az:Value
 dj:Value
 value:Value
 dK:Value
abbrev kc(g:al)(s:ak)(c:eZ):List Value:=[g.p,ae s.ao,ae s.slot,ae s.view,ae s.fX,c.dH,c.c3,c.want,c.props,c.dh,c.cW,c.az,c.dj,ae s.hT,ae s.comm,ae s.prop,c.value,c.dK,.bool s.dec]
abbrev bd(g:al)(aw:Nat)(s:ak)(c:eZ):List Chunk:=R aw (kc g s c).toArray 293
structure tT(s:ak)(c:eZ)(ai aA bl cv cd bX bW cf ca b9:List Chunk):Prop where
 dH:du c.dH s.dH ai
 c3:et c.c3 s.c3 aA
 want:du c.want s.want bl
 props:jc c.props s.props cv
 dh:ir c.dh s.dh cd
 cW:fv 336 ip c.cW s.cW bX
 az:fv 336 ip c.az s.az bW
 dj:fv 333 jc c.dj s.dj cf
 value:du c.value s.value ca
 dK:et c.dK s.dK b9
theorem z5{o:World}{aw:Nat}{g:al}{s:ak}{c:eZ}(a:o.heap[aw]? =some (.cells (kc g s c).toArray 293 (0,0)))(b:g.at o)(d:g.ok):Calls prog 309 #[ab aw] o λr w=>r= .int .i64 (ii g.n:Nat)/\w=o:=by
 refine a2 func309 (ar 8 j (ax a j) (bp 0 (mA b) j (λw hw=>?_)));subst hw;refine bp 0 (z6 (by have:=d.n10;omega)) j (λw hw=>?_);subst hw;exact aq 1 j j ⟨j,j⟩
theorem vm{o:World}{aw:Nat}{g:al}{s:ak}{c:eZ}(b:o.heap[aw]? =some (.cells (kc g s c).toArray 293 (0,0)))(f:g.at o)(e:g.ok){node view:Int}(aM:0<=s.slot/\s.slot<=63)(h:0<=view/\view<=8):Calls prog 240 #[ab aw,ae node,ae view] o λr w=>r= .bool (s.leads g node view)/\C o [] [] w:=by
 have a:Own [] o:=C.start o;refine a2 func240 ?_;have a:=a.drew;refine bt 4 j (λw=>∃ad,C o [] ad w) ⟨_,a⟩ (af 0 4 j (bR 4 j (λw⟨_,a⟩=>ax (a.cc b) j) (af 5 4 j (bR 9 j (λw⟨_,a⟩=>ax (a.cc b) j) (aR 10 j (bB j j j (mA (f.st a (al.off.nil g))) (λw hw=>?_)))))));subst hw;refine an ⟨⟨_,a⟩,?_⟩;refine aR 11 j ?_;have d:=yV (o:=o.drew) (s:=s.slot.toNat) (v:=view.toNat) (n:=g.keys.length) (by omega) (by omega) e.ic (by have:=e.n10;omega);rw [show((s.slot.toNat:Nat):Int)=s.slot from p5 aM.1,show((view.toNat:Nat):Int)=view from p5 h.1] at d;refine bB j j j d (λw aa=>?_);have a:=a.aL aa;refine an ⟨⟨_,a⟩,?_⟩;exact af 12 2 j (bK (aq 0 j j ⟨j,a.bare⟩))
theorem aC.HH(m:aC)(x:Int):m.cs.toArray.setIfInBounds 1 (ae x)=({m with f:=x}:aC).cs.toArray:=by
 apply fx;simp [aC.cs]
theorem aC.HL(m:aC)(x:Int):m.cs.toArray.setIfInBounds 2 (ae x)=({m with to:=x}:aC).cs.toArray:=by
 apply fx;simp [aC.cs]
theorem aC.HI(m:aC)(x:Int):m.cs.toArray.setIfInBounds 3 (ae x)=({m with s:=x}:aC).cs.toArray:=by
 apply fx;simp [aC.cs]
theorem aC.v4(m:aC){w:World}{b:Nat}{e:TypeId}{e6:Nat×Nat}(h:w.heap[b]? =some (.cells m.cs.toArray e e6)):Rd w (some ⟨b,0+7,none⟩) (au m.tag):=λi v a=>⟨_,j,by
 rw [add_lit];refine ax h ?_;rw [show 0+7+i=i+1+1+1+1+1+1+1 by omega];simp only [aC.cs,nb,nV];exact a⟩
theorem aC.y8(m:aC)(h:i6 m=true):m.x.length<=200/\m.l.length<=10:=by
 unfold i6 at h;simp only [ea,gd] at h;exact⟨h.1.1.2,h.1.2⟩
theorem aC.pn(m:aC)(t:List UInt8)(h:m.tag.length=t.length):setCells m.cs.toArray 7 (au t)=({m with tag:=t}:aC).cs.toArray:=
 HA [ae m.k,ae m.f,ae m.to,ae m.s,ae m.v,.slice m.A m.x.length m.c,.slice m.B m.l.length m.d] (au m.tag) (au t) (by simp [h])
theorem s5{o:World}{aw:Nat}{g:al}{s:ak}{c:eZ}{m:aC}{to:Int}(y:o.heap[aw]? =some (.cells (kc g s c).toArray 293 (0,0)))(J:g.at o)(M:g.ok)(hm:m.ok o)(Q:m.x.length<=10000)(z:m.l.length<=1000):Calls prog 206 #[ab aw,.agg m.cs.toArray,ae to] o λr w=>∃(q:aC)(G:List Chunk),r= .agg q.cs.toArray/\fA q G/\q.P=s.js g m.P to/\C o [] [G] w:=by
 have a:Own [] o:=C.start o;refine eV func206 (bL 2 a j j (λn w a=>b7 0 a j (λp w a=>?_)));have a:C o [] [bf n m,bf p dP] w:=a.f1;have a:=a.drew;refine bt 1 j (λw=>∃ad,C o [] ad w) ⟨_,a⟩ (af 0 3 j (bR 3 j (λw⟨_,a⟩=>ax (a.cc y) j) (af 5 3 j (bR 8 j (λw⟨_,a⟩=>ax (a.cc y) j) (af 4 1 j (af 9 1 j (aR 10 j (cB (a.bc _) j j j j (by rw [hA,m.bU hm.tag];decide) (λw a=>?_)))))))));have a:=C.gg a (m.HH s.ao);refine an ⟨⟨_,a⟩,?_⟩;refine af 11 1 j (aR 12 j (cB (a.bc _) j j j j (by rw [hA,({m with f:=s.ao}:aC).bU hm.tag];decide) (λw a=>?_)));have a:=C.gg a (({m with f:=s.ao}:aC).HL to);refine an ⟨⟨_,a⟩,?_⟩;refine af 13 1 j (aR 14 j (cB (a.bc _) j j j j (by rw [hA,({m with f:=s.ao,to:=to}:aC).bU hm.tag];decide) (λw a=>?_)));have a:=C.gg a (({m with f:=s.ao,to:=to}:aC).HI s.slot);have a:C o [] [bf n ({m with f:=s.ao,to:=to,s:=s.slot}:aC),bf p dP] w:=a;refine an ⟨⟨_,a⟩,?_⟩;refine bK (ar 3 j (ax (C.aj a) ({m with f:=s.ao,to:=to,s:=s.slot}:aC).gk) ?_);have t:=g2 (c:=m.c) (hm.st a).x (by omega);refine bk 0 t j (λr w⟨ai,D,u⟩=>?_);obtain⟨b,aV,rfl⟩:∃A c,r= .slice A m.x.length c:=by obtain⟨A,c,h,_⟩:=D.form;exact⟨A,c,h⟩
 have a:=a.aL u;refine am 1 j (cB (a.bc _) j j j j (by rw [hA,({m with f:=s.ao,to:=to,s:=s.slot}:aC).bU hm.tag];decide) (λw a=>?_));have a:=C.gg a (({m with f:=s.ao,to:=to,s:=s.slot}:aC).q5 b aV);have a:C o [] [bf n ({m with f:=s.ao,to:=to,s:=s.slot,A:=b,c:=aV}:aC),bf p dP,ai] w:=a.as;refine ar 3 j (ax (C.aj a) ({m with f:=s.ao,to:=to,s:=s.slot,A:=b,c:=aV}:aC).eU) ?_;have t:=lb (d:=m.d) (hm.st a).l hm.aH z;refine bk 0 t j (λr w⟨aA,E,u⟩=>?_);obtain⟨e,d1,rfl⟩:∃A c,r= .slice A m.l.length c:=by obtain⟨A,c,h,_⟩:=E.form;exact⟨A,c,h⟩
 have a:=a.aL u;refine am 1 j (cB (a.bc _) j j j j (by rw [hA,({m with f:=s.ao,to:=to,s:=s.slot,A:=b,c:=aV}:aC).bU hm.tag];decide) (λw a=>?_));have a:=C.gg a (({m with f:=s.ao,to:=to,s:=s.slot,A:=b,c:=aV}:aC).mJ e d1);have a:C o [] [bf n ({m with f:=s.ao,to:=to,s:=s.slot,A:=b,c:=aV,B:=e,d:=d1}:aC),bf p dP,ai,aA] w:=a.as;have N:({m with f:=s.ao,to:=to,s:=s.slot,A:=b,c:=aV,B:=e,d:=d1}:aC).own ai aA:=⟨D,E⟩;have L:fA ({m with f:=s.ao,to:=to,s:=s.slot,A:=b,c:=aV,B:=e,d:=d1}:aC) (ai++aA):=⟨ai,aA,j,N,hm.tag,hm.aH,⟨by show m.x.length<=_;omega,z⟩⟩;have a:=a.drew;refine bt 1 j (λw=>∃ad,C o [] ([bf n ({m with f:=s.ao,to:=to,s:=s.slot,A:=b,c:=aV,B:=e,d:=d1}:aC)]++ad) w) ⟨_,a⟩ (af 0 3 j (bR 3 j (λw⟨_,a⟩=>ax (a.cc y) j) (af 4 3 j (bR 7 j (λw⟨_,a⟩=>ax (a.cc y) j) (aT 8 j (λw⟨_,a⟩=>c4 (U:=({m with f:=s.ao,to:=to,s:=s.slot,A:=b,c:=aV,B:=e,d:=d1}:aC).cs) j j (({m with f:=s.ao,to:=to,s:=s.slot,A:=b,c:=aV,B:=e,d:=d1}:aC).bU hm.tag) (bn (C.aj a))) (aR 9 j ?_))))));have K:=(L.read (C.holds (G:=ai++aA) (a.perm (B:=[bf n ({m with f:=s.ao,to:=to,s:=s.slot,A:=b,c:=aV,B:=e,d:=d1}:aC),bf p dP,ai++aA]) (by simp)) (by simp))).1;have t:=mj K Q z;refine cO j j j t (λr w⟨bl,H,u⟩=>?_);have a:=a.aL u;have a:C o [] [bf n ({m with f:=s.ao,to:=to,s:=s.slot,A:=b,c:=aV,B:=e,d:=d1}:aC),bf p dP,ai,aA,bl] w:=a.as
 have I:({m with f:=s.ao,to:=to,s:=s.slot,A:=b,c:=aV,B:=e,d:=d1}:aC).body.length<=1000000:=by
  have S:=lz m.l hm.aH;have T:=jI m.x (by omega);have F:=fU [4,m.k,s.ao,s.slot,m.v];simp only [eu,ge] at F;show(d7 [4,m.k,s.ao,s.slot,m.v]++(hC m.x++ju m.l)).length<=_;simp only [b0];omega
 obtain⟨R,gL,rfl,_,_,O,_⟩:=H.read (a.holds (by simp));refine an ⟨⟨_,a⟩,?_⟩;refine aR 10 j ?_;have t:=nB (J.st a (al.off.nil g)) M O I (i:=s.ao) (d:=gL);refine bB j j j t (λw u=>?_);have a:=a.aL u;have a:C o [] [bf n ({m with f:=s.ao,to:=to,s:=s.slot,A:=b,c:=aV,B:=e,d:=d1}:aC),bf p dP,ai,aA,bl] w:=a.as;refine an ⟨⟨_,a⟩,?_⟩;refine af 11 1 j (dA 12 j (c2 (a.bc _) j j j (by simpa using eg (g.cu s.ao ({m with f:=s.ao,to:=to,s:=s.slot,A:=b,c:=aV,B:=e,d:=d1}:aC).body)) (by rw [List.size_toArray,cL,al.ec]) (by rw [List.size_toArray,({m with f:=s.ao,to:=to,s:=s.slot,A:=b,c:=aV,B:=e,d:=d1}:aC).bU hm.tag];decide) (λw a=>?_)));have a:=C.gg a (({m with f:=s.ao,to:=to,s:=s.slot,A:=b,c:=aV,B:=e,d:=d1}:aC).pn (g.cu s.ao ({m with f:=s.ao,to:=to,s:=s.slot}:aC).body) (by rw [al.ec];exact hm.tag));have a:C o [] [bf n ({m with f:=s.ao,to:=to,s:=s.slot,A:=b,c:=aV,B:=e,d:=d1,tag:=g.cu s.ao ({m with f:=s.ao,to:=to,s:=s.slot}:aC).body}:aC),bf p dP,ai,aA] w:=a.as;refine an (cU (bM 2 (U:=({m with f:=s.ao,to:=to,s:=s.slot,A:=b,c:=aV,B:=e,d:=d1,tag:=g.cu s.ao ({m with f:=s.ao,to:=to,s:=s.slot}:aC).body}:aC).cs) j j (({m with f:=s.ao,to:=to,s:=s.slot,A:=b,c:=aV,B:=e,d:=d1,tag:=g.cu s.ao ({m with f:=s.ao,to:=to,s:=s.slot}:aC).body}:aC).bU (al.ec _ _ _)) (bn (C.aj a)) ?_));refine c2 (a.bc p) j j j (by simpa using({m with f:=s.ao,to:=to,s:=s.slot,A:=b,c:=aV,B:=e,d:=d1,tag:=g.cu s.ao ({m with f:=s.ao,to:=to,s:=s.slot}:aC).body}:aC).one) (by rw [List.size_toArray];exact({m with f:=s.ao,to:=to,s:=s.slot,A:=b,c:=aV,B:=e,d:=d1,tag:=g.cu s.ao ({m with f:=s.ao,to:=to,s:=s.slot}:aC).body}:aC).bU (al.ec _ _ _)) (by decide) (λw a=>?_);have a:=C.whole (U:=({m with f:=s.ao,to:=to,s:=s.slot,A:=b,c:=aV,B:=e,d:=d1,tag:=g.cu s.ao ({m with f:=s.ao,to:=to,s:=s.slot}:aC).body}:aC).cs) a (by rw [({m with f:=s.ao,to:=to,s:=s.slot,A:=b,c:=aV,B:=e,d:=d1,tag:=g.cu s.ao ({m with f:=s.ao,to:=to,s:=s.slot}:aC).body}:aC).bU (al.ec _ _ _)];rfl);refine bD 0 j ⟨_,gr (U:=({m with f:=s.ao,to:=to,s:=s.slot,A:=b,c:=aV,B:=e,d:=d1,tag:=g.cu s.ao ({m with f:=s.ao,to:=to,s:=s.slot}:aC).body}:aC).cs) results206 j j (({m with f:=s.ao,to:=to,s:=s.slot,A:=b,c:=aV,B:=e,d:=d1,tag:=g.cu s.ao ({m with f:=s.ao,to:=to,s:=s.slot}:aC).body}:aC).bU (al.ec _ _ _)) a.bz,?_⟩;have a:C o [] [ai,aA] w:=a.as;exact⟨({m with f:=s.ao,to:=to,s:=s.slot,A:=b,c:=aV,B:=e,d:=d1,tag:=g.cu s.ao ({m with f:=s.ao,to:=to,s:=s.slot}:aC).body}:aC),ai++aA,j,⟨ai,aA,j,⟨D,E⟩,al.ec _ _ _,hm.aH,⟨by show m.x.length<=_;omega,z⟩⟩,j,a.join⟩
theorem zL(ao:Int)(n:Nat):mD ao (n+1)=mD ao n++(if((n:Int) !=ao)=true then [(n:Int)] else []):=by
 unfold mD;rw [nO,jD,List.filter_append];simp only [jW,rJ,p3,List.filter_nil]
theorem zK(ao:Int)(n:Nat):(mD ao n).length<=n:=by
 unfold mD;refine ek (oK _ _) ?_;simp
theorem ui{o:World}{aw:Nat}{g:al}{s:ak}{c:eZ}{m:aC}(t:o.heap[aw]? =some (.cells (kc g s c).toArray 293 (0,0)))(u:g.at o)(y:g.ok)(hm:m.ok o)(N:m.x.length<=10000)(K:m.l.length<=1000):Calls prog 283 #[ab aw,.agg m.cs.toArray] o λr w=>∃G:List Chunk,cw r (s.all g m.P) G/\C o [] [G] w:=by
 have a:Own [] o:=C.start o;refine a2 func283 (bL 2 a j j (λb w a=>?_));have a:C o [] [bf b m] w:=a;refine ar 10 j (ax (a.cc t) j) (bp 0 (mA (u.st a (al.off.nil g))) j (λw hw=>?_));subst hw
 refine cJ 2 j (ct:=Nat×Value×List Chunk×List Chunk×List aC) (λi=>[(0,ab aw),(3,ab b),(5,i.2.1),(11,.int .i64 (g.keys.length:Nat)),(12,.int .i64 (i.1:Nat))])
  (λi w=>i.1<=g.keys.length/\Row 53 39 i.2.1 i.2.2.2.2.length (fV i.2.2.2.2) i.2.2.1/\fF i.2.2.2.2 i.2.2.2.1/\i.2.2.2.2.map aC.P=(mD s.ao i.1).map (λto=>s.js g m.P to)/\C o [] [i.2.2.1,i.2.2.2.1,bf b m] w) (λi=>g.keys.length-i.1) (0,.slice none 0 0,[],[],[]) ⟨j,j,j,j,j,aX⟩ ⟨b4 _,Row.nil _ _,j,j,a.empty.empty⟩ ?_
 have Q:=y.n10;rintro⟨i,v,ag,aA,l⟩ w ⟨I,k,h,e,a⟩;dsimp only at I k h e a⊢;have O:l.length<=i:=by have E:=aG List.length e;rw [ff,ff] at E;have:=zK s.ao i;omega
 refine b8 4 j j (λd=>?_) (λd=>?_)
 .refine ar 13 j (ax (a.cc t) j) (bm 1 j j (λp=>?_) (λp=>?_))
  .refine bM 3 (U:=m.cs) j j (m.bU hm.tag) (bn (C.aj a)) ?_;have H:=s5 (a.cc t) (u.st a (al.off.nil g)) y (hm.st a) N K (to:=(i:Int));refine bk 1 H j (λr w⟨q,f,M,z,L,aa⟩=>?_);subst M;have a:=a.aL aa;have a:C o [] [ag,aA,bf b m,f] w:=a.as;have B:q.tag.length=32:=(fF.one z).tag q (by simp);refine gi (U:=q.cs) a j j j (q.bU B) (by decide) (by decide) (λD w a=>?_);have aJ:Rd w (some ⟨D,0,none⟩) q.cs:=a.bz;refine dR (a.to ag) k j j (by decide) j j j (news:=q.cs) (q.bU B) aJ (List.all_eq_true.1 q.one) (by omega) (by unfold maxLen;omega) (λv1 n w F a=>?_);have a:C o [] [n,aA,f,bf b m] w:=a.as;refine bq 2 j j j (gm i 1 (by omega)) (bI 1 j (⟨(i+1,v1,n,aA++f,l++[q]),⟨j,j,j,j,j,aX⟩,⟨by have:=d;dsimp only;omega,?_,h.app (fF.one z),?_,C.perm (A:=[n,aA,f,bf b m]) a (by simp)⟩,by have:=d;dsimp only;omega⟩))
   .dsimp only;rw [b0,List.length_singleton,qC,show fV [q]=q.cs by simp];exact F
   dsimp only;rw [jD,e,zL,if_pos p,List.map_append];simp [L]
  refine bq 2 j j j (gm i 1 (by omega)) (bI 1 j (⟨(i+1,v,ag,aA,l),⟨j,j,j,j,j,aX⟩,⟨by have:=d;dsimp only;omega,k,h,?_,a⟩,by have:=d;dsimp only;omega⟩));dsimp only;rw [e,zL,aI (by rw [p];decide),hc]
 refine aq 5 j j ?_;have J:i=g.keys.length:=by omega
 subst J;have a:C o [] [ag,aA] w:=a.as;exact⟨ag++aA,⟨l,e,ag,aA,j,k,h⟩,a.join⟩
theorem sf(b:Bool):((if b=true then(0:Int) else 1)==0)=b:=by cases b<;>rfl
theorem ES{o:World}{aw:Nat}{g:al}{s:ak}{c:eZ}{m:aC}(t:o.heap[aw]? =some (.cells (kc g s c).toArray 293 (0,0)))(B:g.at o)(D:g.ok)(hm:m.ok o):Calls prog 196 #[ab aw,.agg m.cs.toArray] o λr w=>r= .bool (s.mp g m.P)/\C o [] [] w:=by
 have a:Own [] o:=C.start o;refine a2 func196 (bL 2 a j j (λe w a=>?_));have a:C o [] [bf e m] w:=a;refine bM 3 (U:=m.cs) j j (m.bU hm.tag) (bn (C.aj a)) ?_;have n:=x0 (hm.st a);refine bk 0 n j (λr w⟨v,G,E,K,aa⟩=>?_);subst E;have a:=a.aL aa;have a:C o [] [bf e m] w:=a.as;have a:=a.drew;refine bt 6 j (λw=>∃ad,C o [] ([bf e m]++ad) w) ⟨_,a⟩ (af 0 3 j (ef 14 j (λh=>?_) (λh=>?_)))
 .refine af 3 1 j (a8 4 j a1 m.gK (af 5 3 j (bR 8 j (λw⟨_,a⟩=>ax (a.cc t) j) (af 9 3 j (ef 23 j (λp=>?_) (λp=>?_))))))
  .refine af 12 1 j (a8 13 j a1 m.aV (af 14 3 j (bR 17 j (λw⟨_,a⟩=>ax (a.cc t) j) (af 18 3 j (ef 32 j (λq=>?_) (λq=>?_))))))
   .refine af 21 3 j (bR 24 j (λw⟨_,a⟩=>ax (a.cc t) j) (af 25 1 j (a8 26 j a1 m.aV (aT 27 j (λw⟨_,a⟩=>c4 (U:=m.cs) j j (m.bU hm.tag) (bn (C.aj a))) (af 29 1 j (aT 30 j (λw⟨_,a⟩=>c4 (U:=au m.tag) j j (by rw [cL];exact hm.tag) (m.v4 (C.aj a))) (aR 28 j ?_)))))));have b:i6 m=true:=(sf _).symm.trans h;have L:=m.y8 b;have n:=mj (hm.st a) (by omega) (by omega);refine cO j j j n (λr w⟨bl,z,u⟩=>?_);have a:=a.aL u;have a:C o [] [bf e m,bl] w:=a.as
    have A:m.body.length<=1000000:=by
     have I:=lz m.l hm.aH;have J:=jI m.x (by omega);have y:=fU [4,m.k,m.f,m.s,m.v];simp only [eu,ge] at y;unfold aC.body;simp only [b0];omega
    obtain⟨H,gL,rfl,_,_,F,_⟩:=z.read (a.holds (by simp));refine an ⟨⟨_,a⟩,?_⟩;refine aR 31 j ?_;have n:=r5 (B.st a (al.off.nil g)) D F A hm.tag (i:=m.f) (d:=gL);refine bB j j j n (λw u=>?_);have a:=a.aL u;have a:C o [] [bf e m,bl] w:=a.as;refine an ⟨⟨_,a⟩,?_⟩;refine af 32 2 j (bK (aq 0 j j (⟨aG Value.bool ?_,a.bare⟩)));unfold ak.mp;rw [show m.P.may=true from b,show(m.P.s==s.slot)=true from p,show(m.P.f !=s.ao)=true from q];rfl
   refine fC 13 [21,22,23,24,25,26,27,29,30,28,31,32,33] j (bK (aq 0 j j (⟨aG Value.bool ?_,a.bare⟩)));have b:m.P.may=true:=(sf _).symm.trans h;unfold ak.mp;rw [b,show(m.P.s==s.slot)=true from p,show(m.P.f !=s.ao)=false from q];rfl
  refine fC 22 [12,13,14,15,16,17,18,19,20,21,22,23,24,25,26,27,29,30,28,31,32,33] j (bK (aq 0 j j (⟨aG Value.bool ?_,a.bare⟩)));have b:m.P.may=true:=(sf _).symm.trans h;unfold ak.mp;rw [b,show(m.P.s==s.slot)=false from p];rfl
 refine fC 31 [3,4,5,6,7,8,9,10,11,12,13,14,15,16,17,18,19,20,21,22,23,24,25,26,27,29,30,28,31,32,33] j (bK (aq 0 j j (⟨aG Value.bool ?_,a.bare⟩)));have b:m.P.may=false:=(sf _).symm.trans h;unfold ak.mp;rw [b];rfl
def gh(c6:Option Addr)(l:List aE)(F:List Nat)(w:World):Prop:=
 (c6=none/\l=[])\/∃b A d,c6=some ⟨b,0,none⟩/\w.heap[b]? =some (.cells #[.slice A l.length d] 390 (0,0))/\l.length<=d/\d<=maxLen/\Rd w A (vcs l)/\b∉F/\bT A (vcs l) F
theorem gh.st{c6:Option Addr}{l:List aE}{F eL:List Nat}{ad:List (List Chunk)}{w aK:World}(h:gh c6 l F w)(g:C w eL ad aK)(f:∀b∈eL,b∈F):gh c6 l F aK:=by
 rcases h with h|⟨b,A,d,rfl,a,i,k,m,c,e⟩
 .exact .inl h
 .exact .inr ⟨b,A,d,j,by rw [g.fW b (gv.1 a).1 (λn=>c (f _ n))];exact a,i,k,g.rd m (e.sub f),c,e⟩
theorem gh.grow{c6:Option Addr}{l:List aE}{F eL:List Nat}{w:World}(h:gh c6 l F w)(g:∀b∈eL,b∈F\/w.heap.size<=b):gh c6 l eL w:=by
 rcases h with h|⟨b,A,d,rfl,e,m,n,f,o,p⟩
 .exact .inl h
 .refine .inr ⟨b,A,d,j,e,m,n,f,λc=>(g _ c).elim o (λq=>?_),λk a i c=>(g _ c).elim (p k a i) (λq=>?_)⟩
  .have:=(gv.1 e).1;omega
  .have:=f.lt k i;omega
theorem gh.here{c6:Option Addr}{l:List aE}{ad:List (List Chunk)}{o w:World}(h:gh c6 l [] o)(a:C o [] ad w):gh c6 l (av ad) w:=
 (h.grow (λb c=>(a.own b c).elim (λh=>.inl h) .inr)).st a (by simp)
theorem gh.range{c6:Option Addr}{l:List aE}{H ad:List (List Chunk)}{L:List Chunk}{w aK:World}(h:gh c6 l (av (H++ad)) w)(c:C w [] [L] aK):gh c6 l (av (H++(ad++[L]))) aK:=by
 have d:gh c6 l (av (H++(ad++[L]))) w:=h.grow (λb a=>by
  rw [<-dJ] at a;rcases np.1 a with a|a
  ·exact .inl a
  ·have:=c.own b a;exact .inr (by simpa using this))
 exact d.st c (by simp)
theorem ip.read{w:World}{v:Value}{l:List aE}{G:List Chunk}(h:ip v l G)(a:Holds w G):∃c6,v= .pointer c6/\gh c6 l [] w:=by
 obtain⟨b,u,ag,rfl,g,rfl⟩:=h;obtain⟨A,d,rfl,c,e,f,_⟩:=g.read a.tail;exact⟨_,j,.inr ⟨b,A,d,j,a.head,c,e,f,by simp,bT.of_nil _ _⟩⟩
theorem zA{l:List aE}{sum:List UInt8}{i:Nat}(h:i<l.length)(a:(l[i].sum==sum)=true):fd (l.take (i+1)) sum=fd (l.take i) sum++[l[i]]:=by
 unfold fd;rw [fr h,m1];simp [a]
theorem Gf{l:List aE}{sum:List UInt8}{i:Nat}(h:i<l.length)(a:(l[i].sum==sum)=false):fd (l.take (i+1)) sum=fd (l.take i) sum:=by
 unfold fd;rw [fr h,m1];simp [a]
theorem Gg{l:List aE}{sum:List UInt8}{i:Nat}(h:i<l.length)(b:(l[i].sum==sum)=true):∃r,fd l sum=fd (l.take i) sum++l[i]::r:=by
 refine⟨fd (l.drop (i+1)) sum,?_⟩
 have a:fd l sum=fd (l.take (i+1)) sum++fd (l.drop (i+1)) sum:=by
  unfold fd;rw [<-m1,List.take_append_drop]
 rw [a,zA h b,dJ];rfl
abbrev qP(l:List aE)(sum:List UInt8)(pre:List aE)(x:aE):Prop:=∃r,fd l sum=pre++x::r
theorem qP.mem{l:List aE}{sum:List UInt8}{pre:List aE}{x:aE}(h:qP l sum pre x):x∈l:=by
 obtain⟨r,h⟩:=h;have:x∈fd l sum:=by rw [h];simp
 exact(jC.1 this).1
theorem qP.len{l:List aE}{sum:List UInt8}{pre:List aE}{x:aE}(h:qP l sum pre x):pre.length<(fd l sum).length:=by
 obtain⟨r,h⟩:=h;rw [h];simp
theorem zE{o:World}{c6:Option Addr}{sum:List UInt8}:Calls prog 304 #[.pointer c6,.agg (au sum).toArray] o λr w=>∃aO b,r= .func (.func 328) #[] #[ab aO,ab b]/\C o [] [R aO #[.pointer c6] 290,R b (au sum).toArray 37] w:=by
 have a:Own [] o:=C.start o;refine a2 func304 (bL 2 a j j (λaO w a=>bL 0 a j j (λb w a=>am 3 j (gZ j j j j ?_))));exact aq 1 j j ⟨aO,b,j,a.f1⟩
theorem zD{aO f:Nat}{c6:Option Addr}{l:List aE}{sum:List UInt8}(u:∀x∈l,x.ok)(E:sum.length=32):Iter prog 328 #[ab aO,ab f] [R aO #[.pointer c6] 290,R f (au sum).toArray 37] (λad w=>gh c6 l (av ([R aO #[.pointer c6] 290,R f (au sum).toArray 37]++ad)) w) (λ_=>True) (λv:aE=> #[.agg v.cs.toArray]) (qP l sum) (λxs=>xs=fd l sum):=by
 intro y T aa ad o a c s _ J Y O;show Calls _ _ #[fL y,ab aO,ab f] o _;obtain⟨n,z⟩:∃n,n=av ([R aO #[.pointer c6] 290,R f (au sum).toArray 37]++ad):=⟨_,j⟩;rw [<-z] at s⊢;have a:C o n (R aO #[.pointer c6] 290::R f (au sum).toArray 37::ad) o:=z▸a;refine a2 func328 (ar 3 j (ax (C.aj a) j) (bm 1 j j (λdB=>?_) (λdB=>?_)))
 .refine aq 0 j j ?_
  obtain⟨rfl,rfl⟩:c6=none/\l=[]:=by
   rcases s with h|⟨b,A,d,rfl,_⟩
   .exact h
   .cases dB
  exact⟨ad,a,.inl ⟨[],j,c⟩⟩
 obtain⟨b,A,d,rfl,q,Z,B,M,W,I⟩:=s.resolve_left (λh=>by rw [h.1] at dB;cases dB);refine ar 3 j (ax (C.aj a) j) (ar 2 j (ax q j) ?_)
 refine cJ 3 j (ct:=Nat×List (List Chunk)) (λi=>[(0,fL y),(1,ab aO),(2,ab f),(11,.slice A l.length d),(12,.int .i64 (l.length:Nat)),(13,.int .i64 (i.1:Nat))])
  (λi w=>i.1<=l.length/\T (fd (l.take i.1) sum) i.2 w/\C o n (R aO #[ab b] 290::R f (au sum).toArray 37::i.2) w) (λi=>l.length-i.1) (0,ad) ⟨j,j,j,j,j,j,aX⟩ ⟨b4 _,c,a⟩ ?_
 rintro⟨i,ai⟩ w ⟨K,c,a⟩;dsimp only at K c a⊢;refine b8 4 j j (λF=>?_) (λF=>?_)
 .have e:i<l.length:=by omega
  have g:=u l[i] (d9 e);have D:=a.rd M I;refine am 5 j (fp j j j j D (v:=ae l[i].k) (ol l u i e) e (λV G X=>?_));subst G;refine bM 0 j j (l[i].len g) (om D u i e) (b7 0 (C.start _) j (λbv w m=>b6 0 m j j j l[i].one (l[i].len g) (λw m=>?_)));have m:=C.whole (U:=l[i].cs) m (by rw [l[i].len g];rfl);have c:=J _ _ _ _ [] c m.bare (by simp);have a:=a.aL m;refine bM 3 (U:=au l[i].sum) j j (by rw [cL];exact g.1) (a.ij (off:=0+3) (U:=au l[i].sum) (l[i].nY g)) (bM 0 (U:=au sum) j j (by rw [cL];exact E) (bn (C.aj a)) (tO j j j j (by kernel_rfl) (λw=>o4 _ _ g.1 E 9998 w) (am 1 j (cT 21 j (λp=>?_) (λp=>?_)))))
  .refine bM 1 (U:=l[i].cs) j j (l[i].len g) a.bz ?_;obtain⟨S,N⟩:=Gg e p;have P:=O (fd (l.take i) sum) l[i] ai _ ⟨S,N⟩ c (C.jp (H:=[_,_,_]) a);refine jV j j j j P (λb w⟨aA,Q,q⟩=>?_);have a:=C.jh (H:=[_,_,_]) a Q;refine bm 2 j j (λr=>?_) (λr=>?_)
   .refine aq 0 j j ?_;have t:b=false:=by cases b<;>first|rfl|exact absurd r (by decide)
    subst t;exact⟨aA,a.drop,.inr (by simpa using q)⟩
   refine bq 2 j j j (cE i (by have:=B;unfold maxLen at this;omega)) (bI 1 j ?_);have t:b=true:=by cases b<;>first|rfl|exact absurd r (by decide)
   subst t;refine⟨(i+1,aA),⟨j,j,j,j,j,j,aX⟩,⟨e,?_,a.drop⟩,by dsimp only;omega⟩;dsimp only;rw [zA e p];simpa using q
  refine bq 8 j j j (cE i (by have:=B;unfold maxLen at this;omega)) (bI 1 j (⟨(i+1,ai),⟨j,j,j,j,j,j,aX⟩,⟨e,?_,a.drop⟩,by dsimp only;omega⟩));dsimp only;rw [Gf e p];exact c
 refine aq 1 j j ?_;have L:i=l.length:=by omega
 subst L;rw [gj] at c;exact⟨ai,a,.inl ⟨_,j,c⟩⟩
theorem Cu{l:List aE}{f:Int}(h:∀x∈l,x.f≠f):(l.any λv=>v.f==f)=false:=by
 rw [<-Bool.not_eq_true,ko];rintro⟨x,a,he⟩;exact h x a (d5.1 he)
theorem yA(l:List aE)(sum:List UInt8)(f:Int):o7 l sum f=(fd l sum).any λv=>v.f==f:=by
 unfold o7 fd;rw [List.any_filter]
theorem Ey{o:World}{c6:Option Addr}{l:List aE}{sum:List UInt8}{f:Int}(B:gh c6 l [] o)(u:∀x∈l,x.ok)(t:sum.length=32):Calls prog 277 #[.pointer c6,.agg (au sum).toArray,ae f] o λr w=>r= .bool (o7 l sum f)/\C o [] [] w:=by
 have a:Own [] o:=C.start o;refine j2 func277 (bL 2 a j j (λc w a=>bL 0 a j j (λd w a=>b7 0 a j (λb w a=>?_))));have a:C o [] [R b #[.bool false] 4,R d #[ae f] 3,R c (au sum).toArray 37] w:=a;refine bM 4 (U:=au sum) j j (by rw [cL];exact t) (bn (C.aj a)) ?_;have I:=zE (o:=w) (c6:=c6) (sum:=sum);refine bk 0 I j (λr w⟨aO,n,K,aa⟩=>?_);subst K;have a:=a.aL aa;have a:C o [] [R aO #[.pointer c6] 290,R n (au sum).toArray 37,R c (au sum).toArray 37,R d #[ae f] 3,R b #[.bool false] 4] w:=a.as;have a:C o [] ([R aO #[.pointer c6] 290,R n (au sum).toArray 37]++[R c (au sum).toArray 37,R d #[ae f] 3,R b #[.bool false] 4]) w:=a;have D:=B.here a
 refine j6 1 j (zD u t) j (by have:=a.size;simpa using this) a j (λ_=>rfl) (by intro p s;simp at s;subst s;rfl)
  (λpre ad=>ad=[R c (au sum).toArray 37,R d #[ae f] 3,R b #[.bool false] 4]/\∀x∈pre,x.f≠f) (λe ad=>match e with| .ret=>ad=[R c (au sum).toArray 37,R d #[ae f] 3,R b #[.bool true] 4]/\∃x∈fd l sum,x.f=f|_=>False) ⟨j,by simp⟩ (λL aK E=>D.range E) (λ_ _ _ _=>trivial) ?_ ?_ ?_ (λ_ _ _ h=>h.elim)
 .rintro y pre x P L S q ⟨rfl,J⟩ a;have m:=u x q.mem;have a:=C.gy a;refine b7 1 a j (λA w a=>b6 0 (a.bc A) j j j (by simpa using(x).one) (by rw [List.size_toArray];exact(x).len m) (λw a=>?_));have a:=C.whole (U:=(x).cs) a (by rw [(x).len m];rfl);refine bD 0 j (⟨j,_,a,λL w a=>?_⟩);have a:=C.gy a;refine ar 4 j (ax (C.aj a) (x.eo m)) (ar 0 j (ax (C.aj a) j) (b8 1 j j (λi=>?_) (λi=>?_)))
  .refine dF 2 (a.bc b) j j j j (λw a=>?_);have a:C _ _ (R b #[.bool true] 4::_) w:=a;refine bD 0 j (⟨[R c (au sum).toArray 37,R d #[ae f] 3,R b #[.bool true] 4],a.as,j,x,?_,i⟩);obtain⟨Q,M⟩:=q;rw [M];simp
  refine bD 1 j (⟨[R c (au sum).toArray 37,R d #[ae f] 3,R b #[.bool false] 4],a.as,j,λz g=>?_⟩);rcases dv.1 g with g|g
  .exact J z g
  rw [fT.1 g];exact i
 .rintro xs v w F ⟨rfl,H⟩ a;refine dF 2 (a.bc b) j j j j (λw a=>?_);have a:C _ _ (R b #[.bool false] 4::_) w:=a;refine bD 0 j ⟨.bool false,λw k=>?_⟩;have a:=k.st a (cI _);refine⟨s3 results277 j j (ax (C.aj a) j),?_⟩;refine⟨aG Value.bool ?_,a.bare⟩;rw [yA,<-F];exact(Cu H).symm
 rintro v w G a;obtain⟨rfl,x,N,O⟩:=G;refine⟨.bool true,λw k=>?_⟩;have a:=k.st a (cI _);refine⟨s3 results277 j j (ax (C.aj a) j),?_⟩;refine⟨aG Value.bool ?_,a.bare⟩;rw [yA];exact(ko.2 ⟨x,N,by simp [O]⟩).symm
theorem gh.now{c6:Option Addr}{l:List aE}{F:List Nat}{ad:List (List Chunk)}{o w:World}(h:gh c6 l F o)(c:C o F ad w):gh c6 l (av ad) w:=by
 have d:gh c6 l (F++av ad) o:=h.grow (λb a=>(dv.1 a).elim .inl (λa=>(c.own b a)));have e:=d.st c (λb a=>dv.2 (.inl a));exact e.grow (λb a=>.inl (dv.2 (.inr a)))
theorem tr(l:List aE)(x:aE):vcs (l++[x])=vcs l++x.cs:=by simp
theorem CA{o:World}{aO c:Nat}{c6:Option Addr}{l:List aE}{sum:List UInt8}(m:gh c6 l (av [R aO #[.pointer c6] 290,R c (au sum).toArray 37]) o)(t:∀x∈l,x.ok)(H:sum.length=32)(K:l.length<=1000000)(b:Own [R aO #[.pointer c6] 290,R c (au sum).toArray 37] o):Calls prog 346 #[.slice none 0 0,.func (.func 328) #[] #[ab aO,ab c]] o λr w=>∃ag,et r (fd l sum) ag/\C o (av [R aO #[.pointer c6] 290,R c (au sum).toArray 37]) ([R aO #[.pointer c6] 290,R c (au sum).toArray 37]++[ag]) w:=by
 obtain⟨e,n⟩:∃e,e=av [R aO #[.pointer c6] 290,R c (au sum).toArray 37]:=⟨_,j⟩;rw [<-n] at m⊢;have b:C o e [R aO #[.pointer c6] 290,R c (au sum).toArray 37] o:=n▸b;refine j2 func346 (bL 2 b j j (λd w b=>?_));have b:C o e (R d #[.slice none 0 0] 51::R aO #[.pointer c6] 290::R c (au sum).toArray 37::[]) w:=b;have b:C o e ([R aO #[.pointer c6] 290,R c (au sum).toArray 37]++[R d #[.slice none 0 0] 51,[]]) w:=(b.empty.f1).swap (A:=[_,_]);have B:=m.now b
 refine j6 6 j (zD t H) j (by have:=b.size;simpa using this) b j (λ_=>rfl) (by intro p s;simp at s;subst s;rfl)
  (λpre ad=>∃v ag,ad=[R d #[v] 51,ag]/\et v pre ag) (λ_ _=>False) ⟨_,_,j,Row.nil 55 68⟩ (λL aK D=>B.range D) (λ_ _ _ _=>trivial) ?_ ?_ (λ_ _ h=>h.elim) (λ_ _ _ h=>h.elim)
 .rintro y pre x I L M k ⟨v,ag,rfl,g⟩ b;have f:=t x k.mem;have hlen:pre.length<l.length:=t8 k.len (oK _ _);have b:=C.gy b;refine b7 1 b j (λz w b=>b6 0 (b.bc z) j j j (by simpa using(x).one) (by rw [List.size_toArray];exact(x).len f) (λw b=>?_));have b:=C.whole (U:=(x).cs) b (by rw [(x).len f];rfl);refine bD 0 j (⟨j,_,b,λL w b=>?_⟩);have b:=C.gy b;refine ar 2 j (ax (C.aj b) j) (bM 0 (U:=x.cs) j j (x.len f) (bn (C.aj b)) (gi (U:=x.cs) b j j j (x.len f) (by decide) (by decide) (λu w b=>?_)));have aJ:Rd w (some ⟨u,0,none⟩) x.cs:=b.bz;refine dR (b.to ag) g j j (by decide) j j j (news:=x.cs) (x.len f) aJ (List.all_eq_true.1 x.one) (by omega) (by unfold maxLen;omega) (λv1 i w q b=>dF 0 (b.bc d) j j j q.one (λw b=>?_));have b:C _ _ (R d #[v1] 51::_) w:=b;refine bD 0 j (⟨_,b.as (cC:=[R d #[v1] 51,i]),v1,i,j,?_⟩);unfold et;rw [b0,List.length_singleton,tr];exact q
 rintro xs J w E ⟨v,ag,rfl,g⟩ b;refine ar 2 j (ax (C.aj b) j) (bD 1 j ⟨v,λw G=>?_⟩);have b:=G.st b (cI _);refine⟨λa F=>i8 (fn:=f346) F j _ _,?_⟩;rw [E] at g;exact⟨ag,g,C.perm (A:=[R aO #[.pointer c6] 290,R c (au sum).toArray 37,ag]) b.as (by simp)⟩
theorem Dy{o:World}{aO a:Nat}{c6:Option Addr}{l:List aE}{sum:List UInt8}(b:gh c6 l (av [R aO #[.pointer c6] 290,R a (au sum).toArray 37]) o)(h:∀x∈l,x.ok)(g:sum.length=32)(e:l.length<=1000000)(c:Own [R aO #[.pointer c6] 290,R a (au sum).toArray 37] o):Calls prog 332 #[.func (.func 328) #[] #[ab aO,ab a]] o λr w=>∃ag,et r (fd l sum) ag/\C o (av [R aO #[.pointer c6] 290,R a (au sum).toArray 37]) ([R aO #[.pointer c6] 290,R a (au sum).toArray 37]++[ag]) w:=by
 refine a2 func332 ?_;have d:=CA b h g e c;exact bk 6 d j (λr w f=>aq 1 j j f)
theorem Ee{a b:Int}(c:0<=a/\a<=1000)(d:0<=b/\b<=1000):evalBin .sub .i64 a b=some (.int .i64 (a-b)):=by
 show some (Value.int .i64 (IntKind.i64.wrap (a-b)))=_;rw [jY];exact aG (λz=>some (Value.int .i64 z)) (by omega)
section
variable {P:Program} {n:Fr} {Z:Env} {w:World} {Q:d6} {ops:Array Oper} {rest:List Oper} {dst:Option Nat} {ty:TypeId} {pos:String} {after:Array Edge} {g:Option (Nat×Bool)}
theorem hl{t e:TypeId}{x y:Operand}{b I l c J:Nat}{k:IntKind}{z:Value}{size bytes:Nat}[hu:bA P t (.slice e)][m:cm P e z size bytes](f:cY ops Z g=some true)(d:c8 n dst=true)
 (i:bs Z x=some (.slice (some ⟨b,I,none⟩) l c)) (j:bs Z y=some (.int k J)) (a:J<l)
 (h:O P n ops rest (cG Z dst (.pointer (some ⟨b,I+J*size,none⟩))) w Q):O P n ops (⟨dst,.indexAddr t x y,ty,pos,after,g⟩::rest) Z w Q:=dN f d (gA i j a) h
end
theorem flat_lit{α:Type}{f:α->List Value}{n:Nat}{w:World}{b:Nat}{l:List α}(c:Rd w (some ⟨b,0,none⟩) (l.flatMap f))(h:∀x∈l,(f x).length=n)(i:Nat)(a:i<l.length):Rd w (some ⟨b,0+i*n,none⟩) (f l[i]):=by
 have:=i0 c h i a;rw [add_lit] at this;exact this
theorem ym{α:Type}{f:α->List Value}{n:Nat}:∀(l:List α),(∀x∈l,(f x).length=n)->∀(i:Nat)(y:α),i<l.length->(f y).length=n->∀J,((l.set i y).flatMap f)[J]? =if i*n<=J/\J<i*n+n then(f y)[J-i*n]? else(l.flatMap f)[J]?
 |[],_,i,_,a,_,_=>by simp at a
 |x::r,h,0,y,_,c,J=>by
  have b:=h x (by simp);simp only [rM,jZ,oD,fj,b4,true_and,Nat.sub_zero];split
  .rw [iU (by omega)]
  .rw [jf (by omega),jf (by omega),c,b]
 |x::r,h,i+1,y,a,c,J=>by
  have b:=h x (by simp);have j:=ym r (λz g=>h z (by simp [g])) i y (by simpa using a) c (J-n);simp only [List.set_cons_succ,jZ];have e:(i+1)*n=i*n+n:=by rw [m5];omega
  rw [e];by_cases k:J<n
  .rw [iU (by omega),iU (by omega),aI (by omega)]
  .rw [jf (by omega),jf (by omega),b,j];by_cases d:i*n<=J-n/\J-n<i*n+n
   .rw [a6 d,a6 (by omega),show J-n-i*n=J-(i*n+n) by omega]
   .rw [aI d,aI (by omega)]
theorem Row.Ay{α:Type}{f:α->List Value}{e:TypeId}{size g cap:Nat}{l:List α}{cur:Array Value}{n:Nat}(aJ:l.length=n)(h:Row e size (.slice (some ⟨g,0,none⟩) n cap) n (l.flatMap f) [(g,.cells cur e (0,0))])(bw:∀x∈l,(f x).length=size)(J:Nat)(o:J<l.length)(y:α)(c:(f y).length=size):
 Row e size (.slice (some ⟨g,0,none⟩) n cap) n ((l.set J y).flatMap f) [(g,.cells (setCells cur (J*size) (f y)) e (0,0))]:=by
 subst aJ;obtain⟨z,p⟩:=h;have s:∀x∈l.set J y,(f x).length=size:=λx t=>(p6 t).elim (bw x) (λe=>by rw [e];exact c)
 refine⟨by rw [o6 _ s,hp],?_⟩;rcases p with⟨b,_,_⟩|⟨w,u,v,b,r,d,q,k,m⟩
 .cases b
 .cases b;cases r
  have A:J*size+size<=l.length*size:=by
   have:=kn size (show J+1<=l.length from o);rw [m5,Nat.one_mul] at this;exact this
  have B:l.length*size<=cur.size:=ek (kn _ d) k;refine .inr ⟨g,cap,_,j,j,d,q,by rw [s6];exact k,?_⟩;apply oB;intro i;rw [ym l bw J y o c i,jE,pX,pm _ _ _ (by omega),c];by_cases a:i<l.length*size
  .rw [a6 a];split
   .rfl
   .rw [<-m,jE,a6 a,pX]
  .rw [aI a,aI (by omega),<-m,jE,aI a]
def mW(l:List aE)(i J:Nat):Prop:=∀(a b:Nat)(c:a<l.length)(d:b<l.length),a<b->b<=i->b≠J->l[a].f<=l[b].f
theorem mW.swap{l:List aE}{i J:Nat}(h:mW l i J)(s:0<J)(t:J<=i)(r:J<l.length)(u:l[J].f<l[J-1].f):mW ((l.set J l[J-1]).set (J-1) l[J]) i (J-1):=by
 intro a b g d p k q;simp only [hp] at g d;simp only [List.getElem_set];have o:J-1<l.length:=by omega
 by_cases m:J-1=a
 .subst m;rw [a6 j];by_cases c:J=b
  .subst c;rw [aI (by omega),a6 j];omega
  .rw [aI (by omega),aI c];exact h J b r d (by omega) k (by omega)
 .rw [aI m,aI (show¬J-1=b from λe=>q e.symm)];by_cases c:J=b
  .subst c;rw [aI (show¬J=a by omega),a6 j];exact h a (J-1) g o (by omega) (by omega) (by omega)
  .rw [aI c];by_cases n:J=a
   .subst n;rw [a6 j];exact h (J-1) b o d (by omega) k (λe=>c e.symm)
   .rw [aI n];exact h a b g d p k (λe=>c e.symm)
theorem mW.put{l:List aE}{i J:Nat}(h:mW l i J)(p:J<=i)(o:J<l.length)(hle:J=0\/l[J-1].f<=l[J].f):mW l (i+1) (i+1):=by
 intro a b c j g m n;by_cases e:b=J
 .subst e;rcases hle with k|hle
  .omega
  .by_cases d:a=b-1
   .subst d;exact hle
   .exact rN (h a (b-1) c (by omega) (by omega) (by omega) (by omega)) hle
 .exact h a b c j g (by omega) e
theorem C9{l m:List aE}(n:m.Perm l)(aM:∀(a b:Nat)(d:a<m.length)(e:b<m.length),a<b->m[a].f<=m[b].f)(aJ:(l.map aE.f).Nodup):m=j1 l:=by
 have le:∀a b:aE,decide (a.f<=b.f)=true↔a.f<=b.f:=λa b=>decide_eq_true_iff
 have i:m.Pairwise λa b=>a.f<=b.f:=oA.2 λa b d e g=>aM a b d e g
 have j:=tX (le:=λx y:aE=>decide (x.f<=y.f)) (by intro a b c;simp only [le];omega) (by intro a b;simp only [m7,le];omega) l
 have hu:∀a∈l,∀b∈l,a.f=b.f->a=b:=by
  clear n aM i j;induction l with
  |nil=>intro a d;simp at d
  |cons x r t=>
   have k:=k6.1 (by simpa using aJ:(x.f::r.map aE.f).Nodup);intro a d b e g;rcases g1.1 d with o|q<;>rcases g1.1 e with p|s
   .rw [o,p]
   .exact absurd (dV.2 ⟨b,s,by rw [<-g,o]⟩) k.1
   .exact absurd (dV.2 ⟨a,q,by rw [g,p]⟩) k.1
   .exact t k.2 a q b s g
 refine List.Perm.eq_of_pairwise (le:=λa b:aE=>a.f<=b.f) (λa b d e i j=>hu a (n.mem_iff.1 d) b (uy.1 e) (by omega)) i (j.imp λh=>(le _ _).1 h) (n.trans (oJ l _).symm)
theorem Dw{o:World}{x y:aE}(c:x.ok)(e:y.ok)(d:0<=x.f/\x.f<=1000)(g:0<=y.f/\y.f<=1000):Calls prog 308 #[.agg x.cs.toArray,.agg y.cs.toArray] o λr w=>r= .int .i64 (x.f-y.f)/\C o [] [] w:=by
 have a:Own [] o:=C.start o;refine a2 func308 (bL 2 a j j (λaO w a=>bL 0 a j j (λb w a=>?_)));have a:C o [] [R b y.cs.toArray 55,R aO x.cs.toArray 55] w:=a;exact ar 4 j (ax (C.aj a) (x.eo c)) (ar 1 j (ax (C.aj a) (y.eo e)) (bq 0 j j j (Ee d g) (aq 1 j j ⟨j,a.bare⟩)))
theorem EQ{o:World}{v:Value}{d:List aE}{ag:List Chunk}(q:et v d ag)(ar:∀x∈d,x.ok)(bw:∀x∈d,0<=x.f/\x.f<=1000)(az:d.length<=1000000)(c:Own [ag] o):Calls prog 350 #[v,.int .i64 (0:Nat),.int .i64 d.length,.func (.func 308) #[] #[]] o λr w=>r= .tuple #[]/\∃l N,l.Perm d/\(∀(a b:Nat)(A:a<l.length)(t:b<l.length),a<b->l[a].f<=l[b].f)/\et v l N/\C o (av [ag]) [N] w:=by
 obtain⟨z,P⟩:∃z,z=av [ag]:=⟨_,j⟩;rw [<-P];have c:C o z [ag] o:=P▸c;refine a2 func350 (bq 3 j j j (gm 0 1 (by omega)) ?_)
 refine cJ 2 j (ct:=Nat×List aE×List Chunk) (λi=>[(0,v),(2,.int .i64 (d.length:Nat)),(1,.int .i64 (0:Nat)),(3,.func (.func 308) #[] #[]),(8,.int .i64 (i.1:Nat))])
  (λi w=>1<=i.1/\(i.1<=d.length\/i.1=1)/\i.2.1.Perm d/\mW i.2.1 (i.1-1) i.1/\et v i.2.1 i.2.2/\C o z [i.2.2] w) (λi=>d.length-i.1) (1,d,ag) ⟨j,j,j,j,j,aX⟩ ⟨cI _,.inr j,oE _,by intro a b _ _ B t _;omega,q,c⟩ ?_
 rintro⟨i,l,ag⟩ w ⟨ab,aj,F,aM,q,c⟩;dsimp only at ab aj F aM q c⊢;refine b8 6 j j (λW=>?_) (λW=>?_)
 .have ay:i<d.length:=by omega
  have hlen:=F.length_eq;obtain⟨p,cap,O,V,rfl,_,_,_,_⟩:=q.2.resolve_left (λh=>by have:=h.2.1;omega);rw [hlen] at V;subst V;have q:Row 55 68 (.slice (some ⟨p,0,none⟩) d.length cap) d.length (vcs l) (R p O 55):=hlen▸q
  refine cJ 8 j (ct:=Nat×List aE×Array Value) (λk=>[(0,.slice (some ⟨p,0,none⟩) d.length cap),(2,.int .i64 (d.length:Nat)),(1,.int .i64 (0:Nat)),(3,.func (.func 308) #[] #[]),(8,.int .i64 (i:Nat)),(9,.int .i64 (k.1:Nat))])
   (λk w=>k.1<=i/\k.2.1.Perm d/\mW k.2.1 i k.1/\Row 55 68 (.slice (some ⟨p,0,none⟩) d.length cap) d.length (vcs k.2.1) (R p k.2.2 55)/\C o z [R p k.2.2 55] w) (λk=>k.1) (i,l,O) ⟨j,j,j,j,j,j,aX⟩ ⟨cI _,F,by intro a b A t B Q K;exact aM a b A t B (by omega) K,q,c⟩ ?_
  rintro⟨J,m,cur⟩ w ⟨G,D,H,g,c⟩;dsimp only at G D H g c⊢;have L:=D.length_eq;have n:J<m.length:=by omega
  have M:∀x∈m,x.ok:=λx u=>ar x (D.mem_iff.1 u)
  have S:∀x∈m,0<=x.f/\x.f<=1000:=λx u=>bw x (D.mem_iff.1 u)
  have E:=M m[J] (d9 n);have s:∀x∈m,x.cs.length=68:=λx u=>x.len (M x u)
  have y:=M m[J-1] (d9 (by omega));have c:=c.drew;refine bt 2 j (λw=>∃ad,C o z (R p cur 55::ad) w) ⟨_,c⟩ (af 0 4 j (ef 21 j (λI=>?_) (λI=>?_)));have ak:0<J:=by have:=dz I;omega
  refine af 4 3 j (aT 7 j (λw⟨_,c⟩=>gA j j (show J<d.length by omega)) (aT 8 j (λw⟨_,c⟩=>c4 (U:=m[J].cs) j j (m[J].len E) (flat_lit (by obtain⟨_,_,e,_,_,h,_⟩:=g.rd c;cases e;exact h) s J n)) ?_));refine af 9 2 j (aT 11 j (λw⟨_,c⟩=>ds j j (hE J 1 (by omega) (by omega))) (aT 12 j (λw⟨_,c⟩=>gA j j (show J-1<d.length by omega)) (aT 13 j (λw⟨_,c⟩=>c4 (U:=m[J-1].cs) j j (m[J-1].len y) (flat_lit (by obtain⟨_,_,e,_,_,h,_⟩:=g.rd c;cases e;exact h) s (J-1) (by omega))) (aR 14 j (hL j j j j (Dw E y (S _ (d9 n)) (S _ (d9 (by omega)))) (λr w⟨ap,aa⟩=>?_))))));subst ap;have c:=c.aL aa;refine an ⟨⟨_,c⟩,?_⟩;refine af 15 2 j (bK (b8 0 j j (λX=>?_) (λX=>?_)))
  .have c:=c.drew;refine bt 3 j (λw=>True) aX (af 0 4 j (aT 4 j (λw _=>ds j j (hE J 1 (by omega) (by omega))) (af 5 2 j (aT 7 j (λw _=>ds j j (hE J 1 (by omega) (by omega))) (aT 8 j (λw _=>gA j j (show J-1<d.length by omega)) (af 10 2 j (aT 12 j (λw _=>gA j j (show J<d.length by omega)) (aO 9 13 j j ?_ ?_))))))));refine mc (U:=m[J-1].cs) j j j j (m[J-1].len y) (flat_lit (by obtain⟨_,_,e,_,_,h,_⟩:=g.rd c;cases e;exact h) s (J-1) (by omega)) (an ⟨aX,?_⟩);refine aR 13 j (mc (U:=m[J].cs) j j j j (m[J].len E) (flat_lit (by obtain⟨_,_,e,_,_,h,_⟩:=g.rd c;cases e;exact h) s J n) ?_);rotate_left
   refine mc (U:=m[J].cs) j j j j (m[J].len E) (flat_lit (by obtain⟨_,_,e,_,_,h,_⟩:=g.rd c;cases e;exact h) s J n) (an ⟨aX,?_⟩);refine aR 9 j (mc (U:=m[J-1].cs) j j j j (m[J-1].len y) (flat_lit (by obtain⟨_,_,e,_,_,h,_⟩:=g.rd c;cases e;exact h) s (J-1) (by omega)) ?_);rotate_left
   all_goals
    refine an ⟨aX,?_⟩;refine aT 14 j (λw _=>gA j j (show J<d.length by omega)) (aR 15 j ?_)
    have ai:0+J*68+68<=cur.size:=by
     obtain⟨_,ao⟩:=g;obtain⟨_,_,_,Y,Z,au,_,aw,_⟩:=ao.resolve_left (λh=>by have:=h.2.1;omega);cases Y;cases Z;have:=kn 68 (show J+1<=cap by omega);omega
    refine c2 c j j j (by simpa using m[J-1].one) (by rw [List.size_toArray];exact m[J-1].len y) ai (λw c=>?_);have ac:=g.Ay L s J n m[J-1] (m[J-1].len y);have c:=C.gg c (show setCells cur (0+J*68) m[J-1].cs=setCells cur (J*68) m[J-1].cs by rw [fj]);refine an ⟨aX,?_⟩;refine aT 16 j (λw _=>gA j j (show J-1<d.length by omega)) (aR 17 j (c2 c j j j (by simpa using m[J].one) (by rw [List.size_toArray];exact m[J].len E) (by rw [s6];omega) (λw c=>?_)));have ah:∀x∈m.set J m[J-1],x.cs.length=68:=λx u=>(p6 u).elim (s x) (λe=>by rw [e];exact m[J-1].len y)
    have ae:=ac.Ay (by rw [hp];exact L) ah (J-1) (by rw [hp];omega) m[J] (m[J].len E);have c:=C.gg c (show setCells (setCells cur (J*68) m[J-1].cs) (0+(J-1)*68) m[J].cs=setCells (setCells cur (J*68) m[J-1].cs) ((J-1)*68) m[J].cs by rw [fj]);refine an ⟨aX,?_⟩;refine bK (bq 2 j j j (hE J 1 (by omega) (by omega)) (bI 1 j ?_));have al:m[J].f<m[J-1].f:=by omega
    have am:((m.set J m[J-1]).set (J-1) m[J]).Perm m:=List.set_set_perm n (by omega);refine⟨(J-1,(m.set J m[J-1]).set (J-1) m[J],_),⟨j,j,j,j,j,j,aX⟩,⟨by dsimp only;omega,am.trans D,H.swap ak G n al,ae,c⟩,by dsimp only;omega⟩
  refine bq 3 j j j (gm i 1 (by omega)) (bI 1 j ?_);have T:=H.put G n (.inr (by omega));rotate_left
  refine af 4 13 j (bK (bq 4 j j j (gm i 1 (by omega)) (bI 1 j ?_)));have T:=H.put G n (.inl (by have:=dM I;omega));rotate_left
  all_goals
   refine⟨(i+1,m,_),⟨j,j,j,j,j,aX⟩,⟨by dsimp only;omega,by dsimp only;omega,D,λa b A t B Q K=>T a b A t B (by dsimp only at Q;omega) K,L▸g,c.as (cC:=[R p cur 55])⟩,by dsimp only;omega⟩
 refine aq 1 j j ?_;have hlen:=F.length_eq;have ax:d.length<=i:=by omega
 exact⟨j,l,ag,F,λa b A t B=>aM a b A t B (by omega) (by omega),q,c⟩
theorem Fn{o:World}{x:Nat}(a:x<=12):Calls prog 325 #[.int .u64 x] o λr w=>(∃z,r= .int .i64 z)/\w=o:=by
 refine a2 func325 ?_;refine iI 8 j j (e4 (by omega)) ?_;refine iI 6 j j (e4 (by omega)) ?_;refine iI 6 j j (e4 (by omega)) ?_;refine am 5 j (gt j j j j ?_);refine bS 21 (.int .u8 (x:Nat)) j (aG (Value.int .u8) (by show IntKind.u8.wrap (x:Int)=_;rw [mi];omega)) ?_;refine ry j j j j (Nat.lt_of_le_of_lt a bG) ?_;refine gt j j j j ?_;refine aq 2 j j ?_;exact⟨⟨_,j⟩,j⟩
theorem Fo{o:World}{x:Nat}(b:x<=12):Calls prog 294 #[.int .u64 x] o λr w=>(∃z,r= .int .i64 z)/\w=o:=by
 refine a2 func294 (bk 9 (Fn b) j (λr w⟨⟨z,a⟩,hw⟩=>?_));subst a;subst hw;exact aq 1 j j ⟨⟨_,j⟩,j⟩
theorem GM{o:World}{v:Value}{a:List aE}{ag:List Chunk}(c:et v a ag)(k:∀x∈a,x.ok)(bw:∀x∈a,0<=x.f/\x.f<=1000)(m:a.length<=12)(aJ:(a.map aE.f).Nodup)(g:Own [ag] o){z:Int}:Calls prog 347 #[v,.int .i64 (0:Nat),.int .i64 a.length,.int .i64 z,.func (.func 308) #[] #[]] o λr w=>r= .tuple #[]/\∃b,et v (j1 a) b/\C o (av [ag]) [b] w:=by
 refine a2 func347 (cJ 7 j (ct:=Unit) (λ_=>[(0,v),(1,.int .i64 (0:Nat)),(2,.int .i64 (a.length:Nat)),(3,.int .i64 z),(4,.func (.func 308) #[] #[]),(10,.bool true),(11,.bool true)]) (λ_ w=>w=o) (λ_=>0) () ⟨j,j,j,j,j,j,j,aX⟩ j ?_);rintro _ w hw;subst hw;refine bq 5 j j j (hE a.length 0 (by omega) (by omega)) (mq 6 j j (je (by omega)) ?_);have h:=EQ c k bw (by omega) g;refine bp 6 h j (λw⟨l,b,i,aM,d,aa⟩=>aq 0 j j ?_);have e:=C9 i aM aJ;subst e;exact⟨j,b,d,aa⟩
theorem HM{o:World}{v:Value}{a:List aE}{ag:List Chunk}(d:et v a ag)(l:∀x∈a,x.ok)(bw:∀x∈a,0<=x.f/\x.f<=1000)(e:a.length<=12)(aJ:(a.map aE.f).Nodup)(h:Own [ag] o):Calls prog 333 #[v,.func (.func 308) #[] #[]] o λr w=>r= .tuple #[]/\∃b,et v (j1 a) b/\C o (av [ag]) [b] w:=by
 obtain⟨A,c,rfl,_⟩:=d.form;refine a2 func333 (am 9 j (gt j j j j ?_));refine bS 10 (.int .u64 (a.length:Nat)) j (aG (Value.int .u64) (by show IntKind.u64.wrap (a.length:Int)=_;rw [lK];omega)) (bk 0 (Fo e) j (λr w⟨⟨z,k⟩,hw⟩=>?_));subst k;subst hw;have i:=GM d l bw e aJ h (z:=z);exact bp 1 i j (λw⟨b,g,aa⟩=>aq 0 j j ⟨j,b,g,aa⟩)
theorem HN{o:World}{aO b:Nat}{c6:Option Addr}{l:List aE}{sum:List UInt8}(g:gh c6 l (av [R aO #[.pointer c6] 290,R b (au sum).toArray 37]) o)(d:∀x∈l,x.ok)(p:sum.length=32)(m:l.length<=1000000)(bw:∀x∈l,0<=x.f/\x.f<=1000)(n:(fd l sum).length<=12)(aJ:((fd l sum).map aE.f).Nodup)(a:Own [R aO #[.pointer c6] 290,R b (au sum).toArray 37] o):Calls prog 307 #[.func (.func 328) #[] #[ab aO,ab b],.func (.func 308) #[] #[]] o λr w=>∃ag,et r (j1 (fd l sum)) ag/\C o (av [R aO #[.pointer c6] 290,R b (au sum).toArray 37]) ([R aO #[.pointer c6] 290,R b (au sum).toArray 37]++[ag]) w:=by
 refine a2 func307 ?_;have c:=Dy g d p m a;refine bk 6 c j (λr w⟨ag,i,a⟩=>?_);have c:=HM i (λx h=>d x (jC.1 h).1) (λx h=>bw x (jC.1 h).1) n aJ (C.jp a);refine bk 5 c j (λs w⟨q,e,k,aa⟩=>?_);have a:=C.jh a aa;exact aq 4 j j ⟨e,k,a⟩
end Go.Proofs.YtngjfjhomikplaaGreatDoor.R
