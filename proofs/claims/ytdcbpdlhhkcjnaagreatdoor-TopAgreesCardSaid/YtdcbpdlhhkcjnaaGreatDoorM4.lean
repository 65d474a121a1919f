/- Part 4 of the proof. -/
import Derived.Test.YtdcbpdlhhkcjnaaGreatDoorM3
set_option linter.unusedVariables false
set_option linter.unusedSimpArgs false
set_option linter.unusedSectionVars false
set_option maxRecDepth 20000
set_option maxHeartbeats 4000000
namespace Go.Proofs.YtdcbpdlhhkcjnaaGreatDoor.R
open Go.Proofs.Tryz Go Go.RowKit Go.Proofs
theorem zV{P:Program}{w:World}{em:Bool}{n:Nat}{t:TypeId}{gD:Array Field}{cs:Array Value}(g k:Nat)(hu:P.underlying t=some (.struct gD))(m:P.underlying g=some (.int .i64))(c:(gD.toList.all λf=>(f.type==g)&&Nat.blt f.offset k)=true)(d:∀J,J<k->∃i,cs[J]? =some (.int .i64 i)):(Instr.checkKey em (n+2) t (.agg cs)).run P w= .ok () w:=by
 have h:∀f∈gD.toList,P.underlying f.type=some (.int .i64)/\∃i,cs[f.offset]? =some (.int .i64 i):=λf bx=>by
  have a:=jQ.1 c f bx
  simp only [d8,dX] at a
  exact⟨by rw [a.1];exact m,d _ (Nat.blt_eq▸a.2)⟩
 clear c d
 rw [Instr.checkKey]
 simp only [dR,d6 hu,dU]
 rw [<-Array.forIn_toList]
 generalize gD.toList=L at h
 induction L with
 |nil=>simp
 |cons f L e=>
  obtain⟨a,i,l⟩:=h f (by simp)
  have o:=nk (P:=P) (w:=w) a j l
  have p:(Instr.checkKey em (n+1) f.type (.int .i64 i)).run P w= .ok () w:=MapKept.run_checkKey a (show MapKept.IsKey (.int .i64) (.int .i64 i) from j) em n
  by_cases aP:f.name= "_"
  .simp only [List.forIn_cons,dR,aP,ne_eq,not_true_eq_false,lv,dU,ee]
   exact e (λy b=>h y (by simp [b]))
  .simp only [List.forIn_cons,dR,aP,ne_eq,not_false_eq_true,kh,dU,o,p,ee]
   exact e (λy b=>h y (by simp [b]))
theorem zX{cw:Type}[DecidableEq cw]{P:Program}{w:World}{t:TypeId}{key:cw->Value}(he:∀a b,(Op.equal t (key a) (key b)).run P w= .ok (decide (a=b)) w)(o:∀a b,key a=key b->a=b)(k:cw):
 ∀(es:List MapEntry)(i:Nat),(∀e∈es,∃J,e.key=key J)->
  ((Instr.findAsking t (key k) es i).run P w= .ok none w/\∀e∈es,e.key≠key k)\/∃(J:Nat)(e:MapEntry),(Instr.findAsking t (key k) es i).run P w= .ok (some (i+J,e.val)) w/\es[J]? =some e/\e.key=key k
 |[],i,_=>Or.inl ⟨by simp [Instr.findAsking],by simp⟩
 |e::es,i,n=>by
  obtain⟨J,c⟩:=n e (by simp)
  have m:=he k J
  by_cases f:k=J
  .right
   subst f
   refine⟨0,e,?_,j,c⟩
   simp [Instr.findAsking,c,m]
  .have r:e.key≠key k:=λh=>f (o _ _ (h.symm.trans c))
   rcases zX he o k es (i+1) (λy d=>n y (by simp [d])) with⟨g,l⟩|⟨q,gY,g,l,p⟩
   .left
    refine⟨by simp [Instr.findAsking,c,m,f,g],λy d=>?_⟩
    rcases gd.1 d with rfl|d
    .exact r
    .exact l y d
   .right
    exact⟨q+1,gY,by simp [Instr.findAsking,c,m,f,g,ru,Nat.add_comm 1 q],by simpa using l,p⟩
theorem zY{cw:Type}[DecidableEq cw]{P:Program}{w:World}{t:TypeId}{gD:Array Field}{key:cw->Value}{c:cw->Array Value}(hu:P.underlying t=some (.struct gD))(g:∀a,key a= .agg (c a))(he:∀a b,(Op.equal t (key a) (key b)).run P w= .ok (decide (a=b)) w)(h:∀a b,key a=key b->a=b)(k:cw)(es:List MapEntry)(f:∀e∈es,∃J,e.key=key J):
 ((Instr.findKey t (key k) es).run P w= .ok none w/\∀e∈es,e.key≠key k)\/∃(J:Nat)(e:MapEntry),(Instr.findKey t (key k) es).run P w= .ok (some (J,e.val)) w/\es[J]? =some e/\e.key=key k:=by
 have d:(Instr.findKey t (key k) es).run P w=(Instr.findAsking t (key k) es 0).run P w:=by
  unfold Instr.findKey
  simp only [dR,d6 hu,dU]
  cases es with
  |nil=>simp [Instr.findNow,Instr.findAsking]
  |cons e es=>rw [g k];simp [Instr.findNow,Instr.sameNow]
 rw [d]
 have:=zX he h k es 0 f
 simpa using this
theorem zZ(n:Nat)(a:Int):Instr.sameBits n (ab a) (ab a)=true:=by cases n<;>simp [Instr.sameBits,ab]
abbrev fT(m:b9):Value:=.agg m.cs.toArray
abbrev kY(a:Int×Int):Value:=.agg #[ab a.1,ab a.2]
theorem yT(a b:b9)(h:fT a=fT b):a=b:=by
 obtain⟨g,i,a3,a4⟩:=a
 obtain⟨ax,aJ,j,k⟩:=b
 simp [fT,b9.cs] at h
 obtain⟨c,d,e,f⟩:=h
 cases c;cases d;cases e;cases f
 rfl
theorem wE(a b:Int×Int)(h:kY a=kY b):a=b:=by
 obtain⟨e,f⟩:=a
 obtain⟨ax,aJ⟩:=b
 simp [kY] at h
 obtain⟨c,d⟩:=h
 cases c;cases d
 rfl
theorem xG(a b:b9)(w:World):(Op.equal 103 (fT a) (fT b)).run prog w= .ok (decide (a=b)) w:=by
 have hu:prog.underlying 3=some (.int .i64):=(inferInstance:bC prog 3 (.int .i64)).h
 have e:decide (a=b)=((a.k==b.k)&&((a.p==b.p)&&((a.e==b.e)&&((a.t==b.t)&&true)))):=by
  rw [mX]
  obtain⟨c,d,a3,a4⟩:=a
  obtain⟨ax,aJ,f,g⟩:=b
  simp
 rw [e]
 show(Op.equalIn 10000 103 _ _).run _ _=_
 rw [run_equalIn_agg w 9999 103 _ _ (by kernel_rfl) (by kernel_rfl)]
 exact kl (by decide) hu j j (kl (by decide) hu j j (kl (by decide) hu j j (kl (by decide) hu j j ux)))
theorem DE(a b:Int×Int)(w:World):(Op.equal 316 (kY a) (kY b)).run prog w= .ok (decide (a=b)) w:=by
 have hu:prog.underlying 3=some (.int .i64):=(inferInstance:bC prog 3 (.int .i64)).h
 have e:decide (a=b)=((a.1==b.1)&&((a.2==b.2)&&true)):=by
  rw [mX]
  obtain⟨c,d⟩:=a
  obtain⟨ax,aJ⟩:=b
  simp
 rw [e]
 show(Op.equalIn 10000 316 _ _).run _ _=_
 rw [run_equalIn_agg w 9999 316 _ _ (by kernel_rfl) (by kernel_rfl)]
 exact kl (by decide) hu j j (kl (by decide) hu j j ux)
instance:Keys prog 103 fT where
 inj:=yT
 check:=λw em k=>zV (n:=9998) 3 4 (inferInstance:bC prog 103 _).h (inferInstance:bC prog 3 (.int .i64)).h (by kernel_rfl) (λJ d=>by
  rcases(show J=0\/J=1\/J=2\/J=3 by omega) with rfl|rfl|rfl|rfl<;>exact⟨_,j⟩)
 find:=λw k es h=>zY (P:=prog) (w:=w) (t:=103) (key:=fT) (c:=λm=>m.cs.toArray) (inferInstance:bC prog 103 _).h (λ_=>rfl) (λa b=>xG a b w) yT k es h
 stays:=λw k=>by simp [Instr.keyThatStays,Instr.sameBits,b9.cs,zZ]
instance:Keys prog 316 kY where
 inj:=wE
 check:=λw em k=>zV (n:=9998) 3 2 (inferInstance:bC prog 316 _).h (inferInstance:bC prog 3 (.int .i64)).h (by kernel_rfl) (λJ d=>by
  rcases(show J=0\/J=1 by omega) with rfl|rfl<;>exact⟨_,j⟩)
 find:=λw k es h=>zY (P:=prog) (w:=w) (t:=316) (key:=kY) (c:=λa=> #[ab a.1,ab a.2]) (inferInstance:bC prog 316 _).h (λ_=>rfl) (λa b=>DE a b w) wE k es h
 stays:=λw k=>by simp [Instr.keyThatStays,Instr.sameBits,zZ]
structure du where
 name:List UInt8
 b6:Int
 last:Int
 df:Bool
 parts:Option (List Int)
 fg:Int
def du.new(x:List UInt8):du:=⟨x,0,0,false,none,0⟩
structure bK where
 cL:List (Int×du)
 marks:List b9
 fv:List b9
 answers:List ((Int×Int)×(Int×Int×Int))
 now:Int
def bK.new:bK:=⟨[],[],[],[],0⟩
def once{α:Type}[DecidableEq α](l:List α)(a:α):List α:=if a∈l then l else l++[a]
def du.mark(p:du)(n k:Int):b9:=⟨k,n,p.b6,p.last⟩
def du.shut(p:du):du:={p with df:=false,parts:=none}
def bK.gg(s:bK)(n:Int)(p:du)(k:Int):bK:={s with cL:=cj s.cL n p.shut,fv:=once s.fv (p.mark n k),marks:=s.marks++[p.mark n k]}
def bK.named(s:bK)(x:List UInt8):Option (Int×du):=(db s.cL).findSome? λq=>if q.2.name=x then some q else none
def bK.dd(s:bK)(I:bG):bK×(Int×Int×Int)×List b9:=
 match s.named I.eh with
 |none=>if 8<=s.cL.length then(s,(3,0,0),[])
  else({s with cL:=cj s.cL (s.cL.length:Int) (du.new I.eh),marks:=s.marks++[⟨1,(s.cL.length:Int),0,0⟩]},(0,(s.cL.length:Int),0),[⟨1,(s.cL.length:Int),0,0⟩])
 |some (n,p)=>if 100<=p.b6 then(s,(7,0,0),[])
  else if p.df=true then({s with cL:=cj s.cL n {p.shut with b6:=p.b6+1,last:=0},fv:=once s.fv (p.mark n 3),marks:=s.marks++[p.mark n 3]++[⟨1,n,p.b6+1,0⟩]},(0,n,p.b6+1),[p.mark n 3]++[⟨1,n,p.b6+1,0⟩])
  else({s with cL:=cj s.cL n {p with b6:=p.b6+1,last:=0},marks:=s.marks++[⟨1,n,p.b6+1,0⟩]},(0,n,p.b6+1),[⟨1,n,p.b6+1,0⟩])
def du.add(now:Int)(I:bG)(p:du):du×Int:=
 if p.df=true/\I.t=p.last then({p with parts:=some (once (p.parts.getD []) I.q)},0)
 else if p.df=true then(p,6)
 else if 100<=p.last then(p,7)
 else if I.t-1≠p.last then(p,6)
 else({p with df:=true,last:=I.t,fg:=now,parts:=some [I.q]},0)
def bK.pX(s:bK)(I:bG)(p:du):bK×Int:=({s with cL:=cj s.cL I.p (p.add s.now I).1},(p.add s.now I).2)
def iH(I:bG):Int:=if I.dQ=true then 2 else 3
def bK.ends(s:bK)(I:bG)(p:du):bK×Int×List b9:=
 if p.df=true/\I.t=p.last then(s.gg I.p p (iH I),0,[p.mark I.p (iH I)])
 else if⟨iH I,I.p,I.e,I.t⟩∈s.fv then(s,0,[]) else(s,6,[])
def bK.fG(now:Int)(a:bK×List b9)(q:Int×du):bK×List b9:=
 if q.2.df=true/\5<=now-q.2.fg then(a.1.gg q.1 q.2 3,a.2++[q.2.mark q.1 3]) else a
def bK.fW(s:bK):bK×List b9:=(db s.cL).foldl (bK.fG (s.now+1)) ({s with now:=s.now+1},[])
def bK.b5(s:bK)(I:bG):bK×(Int×Int×Int)×List b9:=
 if I.k=1 then s.dd I
 else if I.k=4 then((s.fW).1,(0,0,0),(s.fW).2)
 else match a2 s.cL I.p with
  |none=>(s,(4,0,0),[])
  |some p=>if I.e≠p.b6 then(s,(5,0,0),[])
   else if I.k=2 then((s.pX I p).1,((s.pX I p).2,0,0),[])
   else((s.ends I p).1,((s.ends I p).2.1,0,0),(s.ends I p).2.2)
def bK.apply(s:bK)(I:bG):bK×(Int×Int×Int)×List b9:=
 if gO I=false then(s,(6,0,0),[])
 else match a2 s.answers (I.c,I.s) with
  |some a=>(s,a,[])
  |none=>({(s.b5 I).1 with answers:=cj (s.b5 I).1.answers (I.c,I.s) (s.b5 I).2.1},(s.b5 I).2.1,(s.b5 I).2.2)
def ts(v:Value)(l:Option (List Int))(G:List Chunk):Prop:=match l with
 |none=>v= .map none/\G=[]
 |some l=>∃ag I,v= .map (some ag)/\G=[(ag,I)]/\cf bu I (l.map λk=>(k,Value.bool true))
abbrev sv(q:du)(ct:Value):List Value:=[.string (strOf q.name),ab q.b6,ab q.last,.bool q.df,ct,ab q.fg]
abbrev cr(aK:Nat)(q:du)(ct:Value):List Chunk:=R aK (sv q ct).toArray 367
def re(v:Value)(q:du)(G:List Chunk):Prop:=∃aK ct a,v=Z aK/\ts ct q.parts a/\G=cr aK q ct++a
structure i7 where
 l:Value
 marks:Value
 fv:Value
 answers:Value
abbrev ue(now:Int)(c:i7):List Value:=[c.l,c.marks,c.fv,c.answers,ab now]
abbrev bV(aU:Nat)(now:Int)(c:i7):List Chunk:=R aU (ue now c).toArray 223
def ez(v:Value)(l:List b9)(G:List Chunk):Prop:=Row 103 4 v l.length (l.flatMap b9.cs) G
theorem ez.nil:ez (.slice none 0 0) [] []:=Row.nil _ _
theorem oW(l:List b9):∀v∈l.flatMap b9.cs,v.oneCell'=true:=by
 intro v a
 obtain⟨m,_,hm⟩:=nB.1 a
 simp [b9.cs] at hm
 rcases hm with rfl|rfl|rfl|rfl<;>rfl
def mF{cw:Type}(key:cw->Value)(v:Value)(m:List (cw×Value))(G:List Chunk):Prop:=∃b I,v= .map (some b)/\G=[(b,I)]/\cf key I m
abbrev oJ(l:List b9):List (b9×Value):=l.map λk=>(k,Value.bool true)
abbrev j5(a:Int×Int×Int):Value:=.agg #[ab a.1,ab a.2.1,ab a.2.2]
abbrev nH(l:List ((Int×Int)×(Int×Int×Int))):List ((Int×Int)×Value):=l.map λa=>(a.1,j5 a.2)
structure AU(s:bK)(c:i7)(g3 M D W:List Chunk):Prop where
 l:fp 291 re c.l s.cL g3
 marks:ez c.marks s.marks M
 fv:mF fT c.fv (oJ s.fv) D
 answers:mF kY c.answers (nH s.answers) W
def kU(aU:Nat)(s:bK)(G:List Chunk):Prop:=∃(c:i7)(g3 M D W:List Chunk),AU s c g3 M D W/\G=bV aU s.now c++(g3++(M++(D++W)))
theorem C.qu{aU:Nat}{now:Int}{c:i7}{g3 M D W:List Chunk}{ae:List (List Chunk)}{o w:World}{F:List Nat}(h:C o F ((bV aU now c++(g3++(M++(D++W))))::ae) w):C o F (bV aU now c::g3::M::D::W::ae) w:=h.perm (by simp)
theorem C.yp{aU:Nat}{now:Int}{c:i7}{g3 M D W:List Chunk}{ae:List (List Chunk)}{o w:World}{F:List Nat}(h:C o F (bV aU now c::g3::M::D::W::ae) w):C o F ((bV aU now c++(g3++(M++(D++W))))::ae) w:=h.perm (by simp)
theorem ne{cw β a:Type}[DecidableEq cw](f:β->a):∀(m:List (cw×β))(k:cw),a2 (m.map λp=>(p.1,f p.2)) k=(a2 m k).map f
 |[],_=>rfl
 |(J,v)::r,k=>by
  simp only [jO,a2]
  split
  .rfl
  .exact ne f r k
theorem va{cw β a:Type}[DecidableEq cw](f:β->a):∀(m:List (cw×β))(k:cw)(v:β),cj (m.map λp=>(p.1,f p.2)) k (f v)=(cj m k v).map λp=>(p.1,f p.2)
 |[],_,_=>rfl
 |(J,u)::r,k,v=>by
  simp only [jO,cj]
  split
  .rfl
  .rw [va f r k v];rfl
theorem yN{cw:Type}[DecidableEq cw]:∀(l:List cw)(k:cw),(a2 (l.map λk=>(k,Value.bool true)) k).getD (.bool false)= .bool (decide (k∈l))
 |[],_=>rfl
 |J::r,k=>by
  simp only [jO,a2]
  by_cases h:J=k
  .rw [a6 h];simp [h]
  .rw [aF h,yN r k]
   have:(k∈J::r)↔k∈r:=by simp [gd,Ne.symm h]
   simp only [this]
theorem vd{cw:Type}[DecidableEq cw]:∀(l:List cw)(k:cw),cj (l.map λk=>(k,Value.bool true)) k (.bool true)=(once l k).map λk=>(k,Value.bool true)
 |[],_=>rfl
 |J::r,k=>by
  simp only [jO,cj]
  by_cases h:J=k
  .rw [a6 h]
   unfold once
   rw [a6 (by simp [h])]
   simp [h]
  .rw [aF h,vd r k]
   unfold once
   by_cases ad:k∈r
   .rw [a6 ad,a6 (by simp [ad])];rfl
   .rw [aF ad,aF (by simp [ad,Ne.symm h])];simp
theorem Fu{o:World}:Calls prog 56 #[] o (aS λr w=>∃aU G,r=Z aU/\kU aU bK.new G/\C o [] [G] w):=by
 have a:Own [] o:=C.start o
 refine a1 [] func56 ntmps56 results56 (bm 5 Fw j (λr w⟨d,f,i,h,g⟩=>?_))
 subst i
 have a:=a.aN g
 refine js j a j j (λaJ w a=>js j a j j (λb w a=>cO (c:=(ue 0 (⟨Z d,.slice none 0 0,.map (some aJ),.map (some b)⟩:i7)).toArray) j j j (λ_=>by kernel_rfl) (bP 0 a j j (λe w a=>ao 1 j j ?_))))
 have a:C o [] (bV e 0 (⟨Z d,.slice none 0 0,.map (some aJ),.map (some b)⟩:i7)::_) w:=a
 exact⟨e,_,j,⟨(⟨Z d,.slice none 0 0,.map (some aJ),.map (some b)⟩:i7),ay 291 d f (.map #[] 0),[],[(aJ,.map #[] 0)],[(b,.map #[] 0)],⟨fp.new h,ez.nil,⟨aJ,_,j,j,cf.new⟩,⟨b,_,j,j,cf.new⟩⟩,j⟩,C.perm (A:=[bV e 0 (⟨Z d,.slice none 0 0,.map (some aJ),.map (some b)⟩:i7),ay 291 d f (.map #[] 0),[(aJ,.map #[] 0)],[(b,.map #[] 0)]]) a.as (by simp [bK.new])⟩
theorem sT{o:World}{aU:Nat}{now:Int}{c:i7}{l:List b9}{M:List Chunk}{m:b9}(h:ez c.marks l M)(z:l.length<=1000000)(a:Own [bV aU now c,M] o):Calls prog 277 #[Z aU,fT m] o (aS λr w=>∃v1 f k,ez v1 (l++[m]) f/\ez r [m] k/\C o (av [bV aU now c,M]) [bV aU now {c with marks:=v1},f,k] w):=by
 obtain⟨d,q⟩:∃d,d=av [bV aU now c,M]:=⟨_,j⟩
 rw [<-q]
 have a:C o d [bV aU now c,M] o:=q▸a
 obtain⟨t,iq,s,x,y⟩:=h.form
 have h:ez (.slice t l.length iq) l M:=s▸h
 refine a1 [Z aU,fT m] func277 ntmps277 results277 (bP 2 a j j (λg w a=>?_))
 have a:C o d [R g m.cs.toArray 103,bV aU now c,M] w:=a
 have a:=a.drew
 refine bz 2 j (λw=>∃ae,C o d ([R g m.cs.toArray 103,bV aU now c]++ae) w) ⟨_,a⟩ (af 0 4 j (be 4 j a7 (aL some s) (aV 5 j (λw⟨_,a⟩=>dc (U:=m.cs) j j j (bq (C.aj (b:=g) a))) (aW 6 j (gv (U:=m.cs) a j j j j bR bR (λv w a=>?_))))))
 have aP:=bq (C.aj (b:=v) a)
 have a:C o d ([R g m.cs.toArray 103,bV aU now c]++_) w:=a.front
 refine an ⟨⟨_,a⟩,?_⟩
 refine aW 7 j (eK (a.to M) h j j (by decide) j j j (m:=1) (news:=m.cs) j aP (by intro u hu;exact oW [m] u (by simpa using hu)) (by omega) (by unfold maxLen;omega) (λv1 f w i a=>?_))
 have i:ez v1 (l++[m]) f:=by
  unfold ez
  rw [ca,List.flatMap_append]
  simpa using i
 have a:C o d ([R g m.cs.toArray 103,bV aU now c]++_) w:=a.front
 refine an ⟨⟨_,a⟩,?_⟩
 refine af 8 2 j (dy 10 j (cC (a.bf aU) j j j i.one bR (λw a=>?_)))
 have a:C o d (bV aU now {c with marks:=v1}::_) w:=a
 have a:C o d [bV aU now {c with marks:=v1},R g m.cs.toArray 103,f] w:=a.as
 refine an (cX (bS 2 (U:=m.cs) j j j (bq (C.aj (b:=g) a)) (gv (U:=m.cs) a j j j j bR bR (λp w a=>ao 1 j j ?_))))
 have a:C o d [bV aU now {c with marks:=v1},f,R p m.cs.toArray 103] w:=a.as
 refine⟨v1,f,_,i,?_,a⟩
 have:=Row.full (e:=103) (size:=4) (b:=p) (n:=1) (cur:=m.cs.toArray) (by unfold maxLen;omega) (by rw [List.size_toArray];rfl)
 unfold ez
 simpa using this
theorem ul{o:World}{aU aK:Nat}{now n k:Int}{c:i7}{l dl:List b9}{M D:List Chunk}{q:du}{ct:Value}(x:ez c.marks l M)(v:mF fT c.fv (oJ dl) D)(E:l.length<=1000000)(a:Own [bV aU now c,M,D,cr aK q ct] o):Calls prog 276 #[Z aU,ab n,Z aK,ab k] o (aS λr w=>∃v1 f i g,ez v1 (l++[q.mark n k]) f/\mF fT c.fv (oJ (once dl (q.mark n k))) i/\ez r [q.mark n k] g/\C o (av [bV aU now c,M,D,cr aK q ct]) [bV aU now {c with marks:=v1},f,i,cr aK q.shut (.map none),g] w):=by
 obtain⟨d,p⟩:∃d,d=av [bV aU now c,M,D,cr aK q ct]:=⟨_,j⟩
 rw [<-p]
 have a:C o d [bV aU now c,M,D,cr aK q ct] o:=p▸a
 obtain⟨h,I,s,rfl,F⟩:=v
 refine a1 [Z aU,ab n,Z aK,ab k] func276 ntmps276 results276 ?_
 have a:C o d ([cr aK q ct]++_) _:=a.front
 have a:=a.drew
 refine bz 4 j (λw=>∃ae,C o d ([cr aK q ct]++ae) w) ⟨_,a⟩ (af 0 5 j (be 5 j a7 j (af 6 3 j (be 9 j a7 j (aV 10 j (λw _=>e0 (c:=(q.mark n k).cs.toArray) j (λ_=>by kernel_rfl)) (aW 11 j (en a j j (λe w a=>?_))))))))
 have a:C o d ([cr aK q ct]++_) w:=a.front
 refine an ⟨⟨_,a⟩,?_⟩
 refine dy 12 j (c5 (a.bf e) j j j (by rfl) j bR (λw a=>?_))
 have a:=C.whole (U:=(q.mark n k).cs) a j
 have a:C o d [R e (q.mark n k).cs.toArray 103,bV aU now c,M,[(h,I)],cr aK q ct] w:=a.as
 refine an (cX (dD 6 (a.bf aK) j j j j (λw a=>?_)))
 have a:C o d (cr aK {q with df:=false} ct::_) w:=a
 refine dD 2 (a.bf aK) j j j j (λw a=>?_)
 have a:C o d (cr aK q.shut (.map none)::_) w:=a
 have a:C o d ([R e (q.mark n k).cs.toArray 103,bV aU now c]++_) _:=a.front
 have a:=a.drew
 refine bz 1 j (λw=>∃ae,C o d ([R e (q.mark n k).cs.toArray 103,bV aU now c]++ae) w) ⟨_,a⟩ (af 0 3 j (be 3 j a7 (aL some s) (aV 4 j (λw⟨_,a⟩=>dc (U:=(q.mark n k).cs) j j j (bq (C.aj (b:=e) a))) (aW 5 j (jt (k:=q.mark n k) F (a.to [(h,I)]) j j j j (λu w t a=>?_))))))
 rw [vd] at t
 have a:C o d ([R e (q.mark n k).cs.toArray 103,bV aU now c]++_) w:=a.front
 refine an ⟨⟨_,a⟩,?_⟩
 refine bO (bS 3 (U:=(q.mark n k).cs) j j j (bq (C.aj (b:=e) a)) ?_)
 have A:=sT (aU:=aU) (now:=now) (c:=c) (m:=q.mark n k) x E a.ours
 refine bm 0 A j (λr w⟨v1,f,g,y,z,B⟩=>?_)
 have a:=a.b4 B
 refine ao 1 j j ?_
 exact⟨v1,f,[(h,u)],g,y,⟨h,u,s,j,t⟩,z,a.as⟩
theorem u6{α:Type}:∀{m:List (Int×α)}{q:Int×α},(m.map Prod.fst).Nodup->q∈m->a2 m q.1=some q.2
 |(J,v)::r,q,aP,a=>by
  have b:=l6.1 (by simpa using aP:(J::r.map Prod.fst).Nodup)
  rcases gd.1 a with rfl|a
  .simp [a2]
  .have:J≠q.1:=λe=>b.1 (by rw [e];exact dT.2 ⟨q,a,j⟩)
   simp only [a2,this,lv]
   exact u6 b.2 a
theorem yY{o:World}{aU G ag:Nat}{now:Int}{c:i7}{I:Obj}{m:List (Int×Value)}{t:List (Int×du)}{H:List Chunk}{x:List UInt8}(X:o.heap[aU]? =some (.cells (ue now c).toArray 223 (0,0)))(J:c.l=Z G)(hm:cf bu I m)(A:c6 re m t H)(M:Holds o (ay 291 G ag I++H))(aP:t.length<=1000000):Calls prog 274 #[Z aU,.string (strOf x)] o (aS λr w=>(∃k v q,r= .tuple #[ab k,v,.bool true]/\a2 m k=some v/\a2 t k=some q/\(db t).findSome? (λq:Int×du=>if q.2.name=x then some q else none)=some (k,q)/\C o [] [] w)\/∃b,r= .tuple #[ab (t.length:Int),Z b,.bool false]/\(db t).findSome? (λq:Int×du=>if q.2.name=x then some q else none)=none/\C o [] [cr b (du.new x) (.map none)] w):=by
 have d:Own [] o:=C.start o
 have Y:(m.map (·.1)).Nodup:=hm.nodup (P:=prog) (cZ:=3)
 have az:(t.map Prod.fst).Nodup:=by have:=A.keys;rw [<-this];exact Y
 obtain⟨a,W⟩:∃a:Option Addr,a=some ⟨G,0,none⟩:=⟨_,j⟩
 have J:c.l= .pointer a:=J.trans (by rw [W])
 have N:dG 291 o a m:=.inr ⟨G,ag,I,W,M (G,_) (by simp),M (ag,I) (by simp),hm⟩
 refine iq [Z aU,.string (strOf x)] (fn:=f274) func274 ntmps274 (bP 2 d j j (λf w d=>cn 0 d j (λg w d=>cn 0 d j (λi w d=>cn 0 d j (λn w d=>?_)))))
 have d:C o [] [R n #[.bool false] 4,R i #[.pointer none] 219,R g #[ab 0] 3,R f #[.string (strOf x)] 9] w:=d
 have d:C o [] [R f #[.string (strOf x)] 9,R g #[ab 0] 3,R i #[.pointer none] 219,R n #[.bool false] 4] w:=d.as
 refine au 6 j (aw (d.cd X) (aL some J)) ?_
 have E:=wG (o:=w) (p:=a)
 refine bm 0 E j (λr w⟨ah,ai,aB,ad⟩=>?_)
 subst aB
 have ap:=(N.st d).st ad
 have d:=d.aN ad
 have d:C o [] ([R ah #[.pointer a] 217,[(ai,.cells #[.func (.func 304) #[] #[]] 36 (0,0))]]++[R f #[.string (strOf x)] 9,R g #[ab 0] 3,R i #[.pointer none] 219,R n #[.bool false] 4]) w:=d
 refine jY 1 j (zG (by have aO:=A.len;omega)) j (by have:=d.size;simpa using this) d j (λ_=>rfl) (by intro p aa;simp at aa;rcases aa with rfl|rfl<;>rfl)
  (λpre ae=>ae=[R f #[.string (strOf x)] 9,R g #[ab 0] 3,R i #[.pointer none] 219,R n #[.bool false] 4]/\((db t).take pre.length).findSome? (λq:Int×du=>if q.2.name=x then some q else none)=none) (λe ae=>match e with| .ret=>∃k v q,a2 m k=some v/\a2 t k=some q/\(db t).findSome? (λq:Int×du=>if q.2.name=x then some q else none)=some (k,q)/\ae=[R f #[.string (strOf x)] 9,R g #[ab k] 3,R i #[v] 219,R n #[.bool true] 4]|_=>False) ⟨j,j⟩ (λL aI ao=>ap.st ao) (λ_ _ _ _=>trivial) ?_ ?_ ?_ (λ_ _ _ h=>h.elim)
 .rintro y pre ⟨u,ak⟩ aH L aR U ⟨rfl,z⟩ d
  obtain⟨t1,t2,B,aE,aM,aG,T,ac,aA,aq⟩:=A.n0 U
  have O:a2 m u=some ak:=by
   obtain⟨aQ,aC⟩:=U
   exact nf (q:=(u,ak)) Y (n1.1 (by rw [aC];simp))
  have Q:a2 t u=some B:=u6 (q:=(u,B)) az (gS.1 (show(u,B)∈db t by rw [T];simp))
  obtain⟨aK,ct,aD,rfl,_,rfl⟩:=aq
  have D:o.heap[aK]? =some (.cells (sv B ct).toArray 367 (0,0)):=((M.right.perm aA).right.left) (aK,_) (by simp)
  have d:=C.gs d
  refine bJ 5 j (⟨j,_,d,λL al d=>?_⟩)
  have D:=d.cd D
  have d:=C.gs d
  have d:C al (av [R f #[.string (strOf x)] 9,R g #[ab 0] 3,R i #[.pointer none] 219,R n #[.bool false] 4]) ([R f #[.string (strOf x)] 9]++_) _:=d.front
  have d:=d.drew
  refine bz 2 j (λw=>(∃ae,C al (av [R f #[.string (strOf x)] 9,R g #[ab 0] 3,R i #[.pointer none] 219,R n #[.bool false] 4]) ([R f #[.string (strOf x)] 9]++ae) w)/\w.heap[aK]? =some (.cells (sv B ct).toArray 367 (0,0))) ⟨⟨_,d⟩,D⟩ (af 0 3 j (bT 3 j (λw⟨⟨_,d⟩,D⟩=>aw D j) (bT 4 j (λw⟨⟨_,d⟩,D⟩=>aw (C.aj (b:=f) d) j) (aV 5 j (λw _=>AX j j (my B.name x)) (bO (aT 0 j j (λK=>?_) (λK=>?_)))))))
  .refine dD 4 (d.bf g) j j j j (λw d=>?_)
   have d:C _ _ (R g #[ab u] 3::_) w:=d
   refine dD 0 (d.bf i) j j j j (λw d=>?_)
   have d:C _ _ (R i #[Z aK] 219::_) w:=d
   refine dD 0 (d.bf n) j j j j (λw d=>?_)
   have d:C _ _ (R n #[.bool true] 4::_) w:=d
   refine bJ 0 j ?_
   exact⟨[R f #[.string (strOf x)] 9,R g #[ab u] 3,R i #[Z aK] 219,R n #[.bool true] 4],d.as,u,_,B,O,Q,xP T ac z (a6 (by simpa using K)),j⟩
  refine bJ 1 j (⟨[R f #[.string (strOf x)] 9,R g #[ab 0] 3,R i #[.pointer none] 219,R n #[.bool false] 4],d.as,j,?_⟩)
  rw [ca,List.length_singleton]
  exact xO T ac z (aF (by simpa using K))
 .rintro xs am w V ⟨rfl,z⟩ d
  have d:C o [] [R ah #[.pointer a] 217,[(ai,.cells #[.func (.func 304) #[] #[]] 36 (0,0))],R f #[.string (strOf x)] 9,R g #[ab 0] 3,R i #[.pointer none] 219,R n #[.bool false] 4] w:=d
  have d:C o [] ([R f #[.string (strOf x)] 9]++_) _:=d.front
  have d:=d.drew
  refine bz 1 j (λw=>∃ae,C o [] ([R f #[.string (strOf x)] 9]++ae) w) ⟨_,d⟩ (af 0 3 j (bT 3 j (λw⟨_,d⟩=>aw (d.cd X) (aL some J)) (be 5 j a7 j (aV 6 j (λw _=>e0 (c:=(sv (du.new x) (.map none)).toArray) j (λ_=>by kernel_rfl)) (aJ 4 7 j j ?_ ?_)))))
  .have E:=yz (N.st d)
   refine bF j j j E (λw S=>?_)
   have d:=d.aN S
   have d:C o [] ([R f #[.string (strOf x)] 9]++_) w:=d.front
   refine an ⟨⟨_,d⟩,?_⟩
   refine aJ 7 8 j j ?_ ?_
   refine lp d j j j (λs w d=>?_)
   have d:C o [] (cr s (du.new x) (.map none)::_) w:=d
   have d:C o [] ([R f #[.string (strOf x)] 9]++_) w:=d.front
   refine an ⟨⟨_,d⟩,?_⟩
   refine aW 8 j (cC (d.bf g) j j j j bR (λw d=>?_))
   have d:C _ _ (R g #[ab (m.length:Nat)] 3::_) w:=d
   rotate_left
   refine cC (d.bf g) j j j j bR (λw d=>?_)
   have d:C _ _ (R g #[ab (m.length:Nat)] 3::_) w:=d
   have d:C o [] ([R f #[.string (strOf x)] 9]++_) w:=d.front
   refine an ⟨⟨_,d⟩,?_⟩
   refine aW 7 j (lp d j j j (λs w d=>?_))
   have d:C o [] (cr s (du.new x) (.map none)::_) w:=d
   rotate_left
   all_goals
    have d:C o [] ([R f #[.string (strOf x)] 9]++_) w:=d.front
    refine an ⟨⟨_,d⟩,?_⟩
    refine aW 9 j (cC (d.bf i) j j j j bR (λw d=>?_))
    have d:C _ _ (R i #[Z s] 219::_) w:=d
    have d:C o [] ([R f #[.string (strOf x)] 9]++_) w:=d.front
    refine an ⟨⟨_,d⟩,?_⟩
    refine dy 10 j (cC (d.bf n) j j j j bR (λw d=>?_))
    have d:C _ _ (R n #[.bool false] 4::_) w:=d
    have d:C o [] [R f #[.string (strOf x)] 9,R g #[ab (m.length:Nat)] 3,R i #[Z s] 219,R n #[.bool false] 4,cr s (du.new x) (.map none)] w:=d.as
    refine an (cX (bJ 0 j ⟨.tuple #[ab (m.length:Nat),Z s,.bool false],λw F=>?_⟩))
    have d:=F.st d (cB _)
    refine⟨vG results274 j j (aw (C.aj (b:=g) d) j) j j (aw (C.aj (b:=i) d) j) j j (aw (C.aj (b:=n) d) j),?_⟩
    rw [V,iv,A.len,il (by rw [hM];exact cB _)] at z
    exact .inr ⟨s,by rw [A.len],z,d.as⟩
  refine lp d j j j (λs w d=>?_)
  have d:C o [] (cr s (du.new x) (.map none)::_) w:=d
  have d:C o [] ([R f #[.string (strOf x)] 9]++_) w:=d.front
  refine an ⟨⟨_,d⟩,?_⟩
  refine aW 4 j ?_
  have E:=yz (N.st d)
  refine bF j j j E (λw S=>?_)
  have d:=d.aN S
  have d:C o [] ([R f #[.string (strOf x)] 9]++_) w:=d.front
  refine an ⟨⟨_,d⟩,?_⟩
  refine aW 8 j (cC (d.bf g) j j j j bR (λw d=>?_))
  have d:C _ _ (R g #[ab (m.length:Nat)] 3::_) w:=d
  have d:C o [] ([R f #[.string (strOf x)] 9]++_) w:=d.front
  refine an ⟨⟨_,d⟩,?_⟩
  refine aW 9 j (cC (d.bf i) j j j j bR (λw d=>?_))
  have d:C _ _ (R i #[Z s] 219::_) w:=d
  have d:C o [] ([R f #[.string (strOf x)] 9]++_) w:=d.front
  refine an ⟨⟨_,d⟩,?_⟩
  refine dy 10 j (cC (d.bf n) j j j j bR (λw d=>?_))
  have d:C _ _ (R n #[.bool false] 4::_) w:=d
  have d:C o [] [R f #[.string (strOf x)] 9,R g #[ab (m.length:Nat)] 3,R i #[Z s] 219,R n #[.bool false] 4,cr s (du.new x) (.map none)] w:=d.as
  refine an (cX (bJ 0 j ⟨.tuple #[ab (m.length:Nat),Z s,.bool false],λw F=>?_⟩))
  have d:=F.st d (cB _)
  refine⟨vG results274 j j (aw (C.aj (b:=g) d) j) j j (aw (C.aj (b:=i) d) j) j j (aw (C.aj (b:=n) d) j),?_⟩
  rw [V,iv,A.len,il (by rw [hM];exact cB _)] at z
  exact .inr ⟨s,by rw [A.len],z,d.as⟩
 rintro am w ar d
 obtain⟨k,v,q,O,Q,ax,rfl⟩:=ar
 refine⟨.tuple #[ab k,v,.bool true],λw F=>?_⟩
 have d:=F.st d (cB _)
 refine⟨vG results274 j j (aw (C.aj (b:=g) d) j) j j (aw (C.aj (b:=i) d) j) j j (aw (C.aj (b:=n) d) j),?_⟩
 exact .inl ⟨k,v,q,j,O,Q,ax,d.bare⟩
section
variable {P:Program} {n:Fr} {aa:Env} {w:World} {Q:d5} {ops:Array Oper} {rest:List Oper} {dst:Option Nat} {ty:TypeId} {pos:String} {after:Array Edge} {g:Option (Nat×Bool)}
theorem q7{t e:TypeId}{d:Array TypeId}{args:Array Operand}{z:Value}{size bytes:Nat}{o:World}{F:List Nat}{c4 bd:List Chunk}{ae:List (List Chunk)}{v1 v2:Value}{h4 a:Nat}{xs cR:List Value}
 [hu:bC P t (.slice e)] [D:cq P e z size bytes] (c:C o F (c4::bd::ae) w) (i:Row e size v1 h4 xs c4) (b:Row e size v2 a cR bd) (y:∀u∈cR,u.oneCell'=true) (v:d= #[t,t]) (A:z.cells.size=size) (s:0<size) (m:bytes<=1000)
 (q:cW ops aa g=some true) (p:c8 n dst=true) (x:fo aa args.toList=some [v1,v2]) (l:h4+a<=1000000000)
 (h:∀v3 bn aI,Row e size v3 (h4+a) (xs++cR) bn->C o F (bn::ae) aI->O P n ops rest (cF aa dst v3) aI Q):O P n ops (⟨dst,.call ⟨.builtin .append,args,d⟩,ty,pos,after,g⟩::rest) aa w Q:=by
 obtain⟨B,dn,rfl,_,_,r,_⟩:=b.read (c.holds (G:=bd) (by simp))
 refine eK c i v A s q p x (news:=cR) b.1 r y ?_ ?_ (λv3 f aI j k=>?_)
 .have:=rv l m;omega
 .unfold maxLen;omega
 .exact h v3 f aI j (k.f1.drop)
end
theorem ez.r7{v:Value}{dz a:List b9}{G:List Chunk}(h:Row 103 4 v (dz.length+a.length) (dz.flatMap b9.cs++a.flatMap b9.cs) G):ez v (dz++a) G:=by
 unfold ez
 rw [ca,List.flatMap_append]
 exact h
structure du.ok(now:Int)(q:du):Prop where
 b6:0<=q.b6/\q.b6<=100
 last:0<=q.last/\q.last<=100
 fg:0<=q.fg/\q.fg<=now
 parts:q.df=true->q.parts.isSome=true
structure bK.ok(N:Nat)(s:bK):Prop where
 cL:s.cL.length<=8
 kL:∀q∈s.cL,q.2.ok s.now
 marks:s.marks.length<=10*N
 now:0<=s.now/\s.now<=N
theorem du.ok.mono{a b:Int}{q:du}(h:q.ok a)(c:a<=b):q.ok b:={h with fg:=⟨h.fg.1,by have:=h.fg.2;omega⟩}
theorem bK.ok.mono{N M:Nat}{s:bK}(h:s.ok N)(a:N<=M):s.ok M:={h with marks:=by have:=h.marks;omega,now:=⟨h.now.1,by have:=h.now.2;omega⟩}
theorem sh{α:Type}:∀{m:List (Int×α)}{k:Int}{a:α},a2 m k=some a->cj m k a=m
 |[],_,_,h=>by cases h
 |(J,u)::r,k,a,h=>by
  simp only [a2] at h
  simp only [cj]
  split
  .rename_i he;rw [a6 he] at h;cases h;rw [he]
  .rename_i b;rw [aF b] at h;rw [sh h]
theorem bK.yZ{s:bK}{x:List UInt8}{n:Int}{p:du}(h:s.named x=some (n,p)):(n,p)∈s.cL/\p.name=x:=by
 unfold bK.named at h
 obtain⟨q,a,h⟩:=pJ h
 split at h
 .cases h;exact⟨gS.1 a,by assumption⟩
 .cases h
theorem Cs{o:World}{aU:Nat}{s:bK}{G:List Chunk}{I:bG}(aB:kU aU s G){N:Nat}(L:s.ok N)(aR:N<=10000)(a:Own [G] o):Calls prog 241 #[Z aU,.agg I.cs.toArray] o (aS λr w=>∃v ah S,r= .tuple #[j5 (s.dd I).2.1,v]/\ez v (s.dd I).2.2 S/\kU aU (s.dd I).1 ah/\C o (av [G]) [ah,S] w):=by
 obtain⟨c,g3,M,D,W,g,rfl⟩:=aB
 obtain⟨e,am⟩:∃e,e=av [bV aU s.now c++(g3++(M++(D++W)))]:=⟨_,j⟩
 rw [<-am]
 have a:C o e [bV aU s.now c++(g3++(M++(D++W)))] o:=am▸a
 have a:=a.qu
 obtain⟨d,ag,b1,ae,H,J,K,P,rfl⟩:=g.l
 have hlen:=P.len
 refine e7 [Z aU,.agg I.cs.toArray] (fn:=f241) func241 ntmps241 (bP 2 a j j (λF w a=>?_))
 have a:C o e (bE F I::_) w:=a
 refine cn 0 a j (λf w a=>?_)
 have a:C o e [R f #[ab 0,ab 0,ab 0] 116,bE F I,bV aU s.now c,ay 291 d ag b1++H,M,D,W] w:=a
 refine au 5 j (aw (C.aj a) j) ?_
 rcases E:s.named I.eh with _|⟨n,p⟩
 .have t:=yY (aU:=aU) (now:=s.now) (c:=c) (x:=I.eh) (C.aj (b:=aU) a) J K P (a.holds (G:=ay 291 d ag b1++H) (by simp)) (by have:=L.cL;omega)
  refine bm 0 t j (λr w O=>?_)
  obtain⟨aK,O,_,ad⟩:=O.resolve_left (λ⟨k,v,q,_,_,_,h,_⟩=>by rw [show(db s.cL).findSome? _=none from E] at h;cases h)
  subst O
  have a:=a.aN ad
  have a:C o e [R f #[ab 0,ab 0,ab 0] 116,bE F I,bV aU s.now c,ay 291 d ag b1,H,M,D,W,cr aK (du.new I.eh) (.map none)] w:=C.perm (A:=[R f #[ab 0,ab 0,ab 0] 116,bE F I,bV aU s.now c,ay 291 d ag b1++H,M,D,W,cr aK (du.new I.eh) (.map none)]) a.as (by simp)
  refine ar 17 j (b2 39 (.bool true) j (aL Value.bool (j)) ?_)
  refine aT 4 j j (λai=>?_) (λai=>?_)
  .refine ar 2 j (cO (c:= #[ab 3,ab 0,ab 0]) j j j (λ_=>by kernel_rfl) ?_)
   refine cp 0 (a.bf f) j j j j j (λw a=>?_)
   have a:=C.whole (U:=[ab 3,ab 0,ab 0]) a j
   have a:C o e (R f #[ab 3,ab 0,ab 0] 116::_) w:=a
   refine bJ 1 j ⟨_,dp results241 j j j j a.bN,?_⟩
   have z:s.dd I=(s,(3,0,0),[]):=by
    unfold bK.dd
    rw [E]
    exact a6 (by have:=br ai;omega)
   rw [z]
   have a:C o e [bV aU s.now c,ay 291 d ag b1,H,M,D,W,[]] w:=C.perm (A:=[bV aU s.now c,ay 291 d ag b1,H,M,D,W]) a.as (by simp)
   exact⟨_,_,[],j,ez.nil,⟨c,ay 291 d ag b1++H,M,D,W,⟨⟨d,ag,b1,ae,_,J,K,P,j⟩,g.marks,g.fv,g.answers⟩,j⟩,C.perm (A:=[bV aU s.now c,ay 291 d ag b1,H,M,D,W,[]]) a (by simp)⟩
  refine au 10 j (aw (C.aj (b:=aU) a) (aL some J)) ?_
  have t:=G3 (k:=(s.cL.length:Int)) (v:=Z aK) (a.ours (cI:=[ay 291 d ag b1])) K
  refine bp 2 t j (λw⟨Q,aH,B⟩=>?_)
  have a:=a.b4 B
  have a:C o e [R f #[ab 0,ab 0,ab 0] 116,bE F I,bV aU s.now c,ay 291 d ag Q,H,M,D,W,cr aK (du.new I.eh) (.map none)] w:=a.as
  refine au 8 j (aw (C.aj a) j) (cO (c:=(⟨1,(s.cL.length:Int),0,0⟩:b9).cs.toArray) j j j (λ_=>by kernel_rfl) ?_)
  have t:=sT (aU:=aU) (now:=s.now) (c:=c) (m:=(⟨1,(s.cL.length:Int),0,0⟩:b9)) g.marks (by have:=L.marks;first|omega|(simp only [ca,List.length_singleton];omega)) a.ours
  refine bm 0 t j (λr w⟨v2,M2,T,V,X,B⟩=>?_)
  have a:=a.b4 B
  have a:=(a.front (cI:=[T])).empty
  refine q7 a ez.nil X (oW _) j j (by decide) (by decide) j j j (by simp) (λv3 bn w y a=>?_)
  have y:=ez.r7 y
  refine au 7 j (aw (C.aj a) j) (cO (c:= #[ab 0,ab (s.cL.length:Int),ab 0]) j j j (λ_=>by kernel_rfl) (cp 1 (a.bf f) j j j j j (λw a=>?_)))
  have a:=C.whole (U:=[ab 0,ab (s.cL.length:Int),ab 0]) a j
  have a:C o e (R f #[ab 0,ab (s.cL.length:Int),ab 0] 116::_) w:=a
  refine bJ 1 j ⟨_,dp results241 j j j j a.bN,?_⟩
  obtain⟨aa,ak,aM,aJ⟩:=P.put (k:=(s.cL.length:Int)) (show re (Z aK) (du.new I.eh) (cr aK (du.new I.eh) (.map none)) from⟨aK,.map none,[],j,⟨j,j⟩,j⟩)
  have z:s.dd I=({s with cL:=cj s.cL (s.cL.length:Int) (du.new I.eh),marks:=s.marks++[(⟨1,(s.cL.length:Int),0,0⟩:b9)]},(0,(s.cL.length:Int),0),[(⟨1,(s.cL.length:Int),0,0⟩:b9)]):=by
   unfold bK.dd
   rw [E]
   exact aF (by have:=bw ai;omega)
  rw [z]
  have a:C o e [bV aU s.now {c with marks:=v2},ay 291 d ag Q,M2,D,W,bn,H,cr aK (du.new I.eh) (.map none)] w:=a.as
  have a:C o e [bV aU s.now {c with marks:=v2},ay 291 d ag Q,M2,D,W,bn,ak,aa] w:=a.perm (by
   simp only [kd,mQ,g6]
   exact .append_left _ (.append_left _ (.append_left _ (.append_left _ (.append_left _ (.append_left _ aJ))))))
  exact⟨v3,_,bn,j,y,⟨{c with marks:=v2},ay 291 d ag Q++aa,M2,D,W,⟨⟨d,ag,Q,_,aa,J,aH,aM,j⟩,V,g.fv,g.answers⟩,j⟩,C.perm (A:=[bV aU s.now {c with marks:=v2},ay 291 d ag Q,aa,M2,D,W,bn]) a.as (by simp)⟩
 have t:=yY (aU:=aU) (now:=s.now) (c:=c) (x:=I.eh) (C.aj (b:=aU) a) J K P (a.holds (G:=ay 291 d ag b1++H) (by simp)) (by have:=L.cL;omega)
 refine bm 0 t j (λr w O=>?_)
 obtain⟨aO,v0,aP,O,aG,ap,bx,ad⟩:=O.resolve_right (λ⟨b,_,h,_⟩=>by rw [show(db s.cL).findSome? _=some (n,p) from E] at h;cases h)
 subst O
 have aE:some (n,p)=some (aO,aP):=E.symm.trans bx
 cases aE
 obtain⟨v1,H1,aQ,i,ao,rfl,aD,al⟩:=P.find ap
 rw [aG] at ao
 cases ao
 obtain⟨aK,ct,u,rfl,an,rfl⟩:=aD
 have aq:p.ok s.now:=L.kL _ (bK.yZ E).1
 have a:=a.aN ad
 have a:C o e [R f #[ab 0,ab 0,ab 0] 116,bE F I,bV aU s.now c,ay 291 d ag b1,H1,cr aK p ct,u,i,M,D,W] w:=C.perm (A:=[R f #[ab 0,ab 0,ab 0] 116,bE F I,bV aU s.now c,ay 291 d ag b1++(H1++((cr aK p ct++u)++i)),M,D,W]) a.as (by simp)
 refine ar 17 j (b2 39 (.bool false) j (aL Value.bool (j)) ?_)
 refine au 16 j (aw (C.aj a) j) (aT 2 j j (λac=>?_) (λac=>?_))
 .refine ar 2 j (cO (c:= #[ab 7,ab 0,ab 0]) j j j (λ_=>by kernel_rfl) ?_)
  refine cp 0 (a.bf f) j j j j j (λw a=>?_)
  have a:=C.whole (U:=[ab 7,ab 0,ab 0]) a j
  have a:C o e (R f #[ab 7,ab 0,ab 0] 116::_) w:=a
  refine bJ 1 j ⟨_,dp results241 j j j j a.bN,?_⟩
  have z:s.dd I=(s,(7,0,0),[]):=by
   unfold bK.dd
   rw [E]
   exact a6 (by have:=br ac;omega)
  rw [z]
  have a:C o e [bV aU s.now c,ay 291 d ag b1,H1,cr aK p ct,u,i,M,D,W,[]] w:=C.perm (A:=[bV aU s.now c,ay 291 d ag b1,H1,cr aK p ct,u,i,M,D,W]) a.as (by simp)
  exact⟨_,_,[],j,ez.nil,⟨c,ay 291 d ag b1++(H1++((cr aK p ct++u)++i)),M,D,W,⟨⟨d,ag,b1,ae,_,J,K,al p _ ⟨aK,ct,u,j,an,j⟩|>λh=>by rwa [sh ap] at h,j⟩,g.marks,g.fv,g.answers⟩,j⟩,C.perm (A:=[bV aU s.now c,ay 291 d ag b1,H1,cr aK p ct,u,i,M,D,W,[]]) a (by simp)⟩
 refine au 6 j (aw (C.aj a) j) (aT 0 j j (λaf=>?_) (λaf=>?_))
 .have t:=ul (aU:=aU) (aK:=aK) (now:=s.now) (n:=n) (k:=3) (c:=c) (q:=p) (ct:=ct) g.marks g.fv (by have:=L.marks;omega) a.ours
  refine bm 4 t j (λr w⟨v1,ax,Y,S,aA,az,aC,B⟩=>?_)
  have a:=a.b4 B
  have a:C o e [R f #[ab 0,ab 0,ab 0] 116,bE F I,bV aU s.now {c with marks:=v1},ay 291 d ag b1,H1,cr aK p.shut (.map none),i,ax,Y,W,S] w:=a.as
  refine au 6 j (aw (C.aj a) j) (bt 0 j j j (uz (by have:=aq.b6;have:p.shut.b6=p.b6:=rfl;omega) (by omega)) (dD 2 (a.bf aK) j j j j (λw a=>?_)))
  have a:C o e (cr aK {p.shut with b6:=p.b6+1} (.map none)::_) w:=a
  refine dD 4 (a.bf aK) j j j j (λw a=>?_)
  have a:C o e (cr aK {p.shut with b6:=p.b6+1,last:=0} (.map none)::_) w:=a
  refine au 8 j (aw (C.aj a) j) (cO (c:=(⟨1,n,p.b6+1,0⟩:b9).cs.toArray) j j j (λ_=>by kernel_rfl) ?_)
  have t:=sT (aU:=aU) (now:=s.now) (c:={c with marks:=v1}) (m:=(⟨1,n,p.b6+1,0⟩:b9)) aA (by have:=L.marks;first|omega|(simp only [ca,List.length_singleton];omega)) a.ours
  refine bm 0 t j (λr w⟨v2,M2,T,V,X,B⟩=>?_)
  have a:=a.b4 B
  have a:=a.front (cI:=[S,T])
  refine q7 a aC X (oW _) j j (by decide) (by decide) j j j (by simp) (λv3 bn w y a=>?_)
  have y:=ez.r7 y
  refine au 7 j (aw (C.aj a) j) (cO (c:= #[ab 0,ab n,ab (p.b6+1)]) j j j (λ_=>by kernel_rfl) (cp 1 (a.bf f) j j j j j (λw a=>?_)))
  have a:=C.whole (U:=[ab 0,ab n,ab (p.b6+1)]) a j
  have a:C o e (R f #[ab 0,ab n,ab (p.b6+1)] 116::_) w:=a
  refine bJ 1 j ⟨_,dp results241 j j j j a.bN,?_⟩
  have z:s.dd I=({s with cL:=cj s.cL n {p.shut with b6:=p.b6+1,last:=0},fv:=once s.fv (p.mark n 3),marks:=s.marks++[p.mark n 3]++[(⟨1,n,p.b6+1,0⟩:b9)]},(0,n,p.b6+1),[p.mark n 3]++[(⟨1,n,p.b6+1,0⟩:b9)]):=by
   unfold bK.dd
   rw [E]
   exact(aF (by have:=bw ac;omega)).trans (a6 (show p.df=true from af))
  rw [z]
  have a:C o e [bV aU s.now {c with marks:=v2},ay 291 d ag b1,M2,Y,W,bn,H1,cr aK {p.shut with b6:=p.b6+1,last:=0} (.map none),i] w:=a.as
  exact⟨v3,_,bn,j,y,⟨{c with marks:=v2},ay 291 d ag b1++(H1++((cr aK {p.shut with b6:=p.b6+1,last:=0} (.map none)++[])++i)),M2,Y,W,⟨⟨d,ag,b1,ae,_,J,K,al {p.shut with b6:=p.b6+1,last:=0} _ ⟨aK,.map none,[],j,⟨j,j⟩,j⟩,j⟩,V,az,g.answers⟩,j⟩,C.perm (A:=[bV aU s.now {c with marks:=v2},ay 291 d ag b1,H1,cr aK {p.shut with b6:=p.b6+1,last:=0} (.map none),i,M2,Y,W,bn]) a.as (by simp)⟩
 refine au 6 j (aw (C.aj a) j) (bt 0 j j j (uz (by have:=aq.b6;have:p.shut.b6=p.b6:=rfl;omega) (by omega)) (dD 2 (a.bf aK) j j j j (λw a=>?_)))
 have a:C o e (cr aK {p with b6:=p.b6+1} ct::_) w:=a
 refine dD 4 (a.bf aK) j j j j (λw a=>?_)
 have a:C o e (cr aK {p with b6:=p.b6+1,last:=0} ct::_) w:=a
 refine au 8 j (aw (C.aj a) j) (cO (c:=(⟨1,n,p.b6+1,0⟩:b9).cs.toArray) j j j (λ_=>by kernel_rfl) ?_)
 have t:=sT (aU:=aU) (now:=s.now) (c:=c) (m:=(⟨1,n,p.b6+1,0⟩:b9)) g.marks (by have:=L.marks;first|omega|(simp only [ca,List.length_singleton];omega)) a.ours
 refine bm 0 t j (λr w⟨v2,M2,T,V,X,B⟩=>?_)
 have a:=a.b4 B
 have a:=(a.front (cI:=[T])).empty
 refine q7 a ez.nil X (oW _) j j (by decide) (by decide) j j j (by simp) (λv3 bn w y a=>?_)
 have y:=ez.r7 y
 refine au 7 j (aw (C.aj a) j) (cO (c:= #[ab 0,ab n,ab (p.b6+1)]) j j j (λ_=>by kernel_rfl) (cp 1 (a.bf f) j j j j j (λw a=>?_)))
 have a:=C.whole (U:=[ab 0,ab n,ab (p.b6+1)]) a j
 have a:C o e (R f #[ab 0,ab n,ab (p.b6+1)] 116::_) w:=a
 refine bJ 1 j ⟨_,dp results241 j j j j a.bN,?_⟩
 have aI:¬p.df=true:=by rw [show p.df=false from af];decide
 have z:s.dd I=({s with cL:=cj s.cL n {p with b6:=p.b6+1,last:=0},marks:=s.marks++[(⟨1,n,p.b6+1,0⟩:b9)]},(0,n,p.b6+1),[(⟨1,n,p.b6+1,0⟩:b9)]):=by
  unfold bK.dd
  rw [E]
  exact(aF (by have:=bw ac;omega)).trans (aF aI)
 rw [z]
 have a:C o e [bV aU s.now {c with marks:=v2},ay 291 d ag b1,M2,D,W,bn,H1,cr aK {p with b6:=p.b6+1,last:=0} ct,u,i] w:=a.as
 exact⟨v3,_,bn,j,y,⟨{c with marks:=v2},ay 291 d ag b1++(H1++((cr aK {p with b6:=p.b6+1,last:=0} ct++u)++i)),M2,D,W,⟨⟨d,ag,b1,ae,_,J,K,al {p with b6:=p.b6+1,last:=0} _ ⟨aK,ct,u,j,an,j⟩,j⟩,V,g.fv,g.answers⟩,j⟩,C.perm (A:=[bV aU s.now {c with marks:=v2},ay 291 d ag b1,H1,cr aK {p with b6:=p.b6+1,last:=0} ct,u,i,M2,D,W,bn]) a.as (by simp)⟩
theorem BK{o:World}{aU aK:Nat}{now:Int}{c:i7}{p:du}{ct:Value}{m:List Chunk}{I:bG}(x:ts ct p.parts m)(F:p.ok now)(H:now<=1000000)(J: -1000<=I.t/\I.t<=1000)(a:Own [bV aU now c,cr aK p ct,m] o):Calls prog 244 #[Z aU,.agg I.cs.toArray,Z aK] o (aS λr w=>r=ab (p.add now I).2/\∃D z,ts D (p.add now I).1.parts z/\C o (av [bV aU now c,cr aK p ct,m]) [bV aU now c,cr aK (p.add now I).1 D,z] w):=by
 obtain⟨b,A⟩:∃b,b=av [bV aU now c,cr aK p ct,m]:=⟨_,j⟩
 rw [<-A]
 have a:C o b [bV aU now c,cr aK p ct,m] o:=A▸a
 refine a1 [Z aU,.agg I.cs.toArray,Z aK] func244 ntmps244 results244 (bP 2 a j j (λd w a=>?_))
 have a:C o b [bE d I,bV aU now c,cr aK p ct,m] w:=a
 have a:C o b ([bE d I,cr aK p ct]++_) _:=a.front
 have a:=a.drew
 refine bz 4 j (λw=>∃ae,C o b ([bE d I,cr aK p ct]++ae) w) ⟨_,a⟩ (af 0 3 j (be 3 j a7 j (af 4 1 j (ef 31 j (λs=>?_) (λs=>?_)))))
 .refine af 5 1 j (be 6 j a7 j (af 7 3 j (be 10 j a7 j (af 11 3 j (bO (aT 0 j j (λy=>?_) (λy=>?_)))))))
  .obtain⟨l,B⟩:∃l,p.parts=some l:=g4.1 (F.parts s)
   rw [B] at x
   obtain⟨ag,G,rfl,rfl,E⟩:=x
   have a:C o b ([bE d I,cr aK p (.map (some ag))]++_) _:=a.front
   have a:=a.drew
   refine bz 2 j (λw=>∃ae,C o b ([bE d I,cr aK p (.map (some ag))]++ae) w) ⟨_,a⟩ (af 0 3 j (be 3 j a7 j (af 4 1 j (be 5 j a7 j (aW 6 j (jt (k:=I.q) E (a.to [(ag,G)]) j j j j (λg w n a=>?_)))))))
   rw [vd] at n
   have a:C o b ([bE d I,cr aK p (.map (some ag))]++_) w:=a.front
   refine an ⟨⟨_,a⟩,?_⟩
   refine bO (ao 3 j j ?_)
   have f:p.add now I=({p with parts:=some (once l I.q)},0):=by
    unfold du.add
    rw [a6 ⟨s,dX.1 y⟩,B]
    rfl
   rw [f]
   exact⟨j,.map (some ag),[(ag,g)],⟨ag,g,j,j,n⟩,a.as⟩
  refine au 5 j (aw (C.aj a) j) (md 1 j j (s) (ao 3 j j ?_))
  have f:p.add now I=(p,6):=by
   unfold du.add
   exact(aF (by rintro⟨_,h⟩;rw [dX.2 h] at y;cases y)).trans (a6 s)
  rw [f]
  exact⟨j,ct,m,x,a.as⟩
 refine af 5 9 j (bO (au 6 j (aw (C.aj a) j) (iW 1 j j (s) ?_)))
 have i:p.df=false:=s
 refine au 5 j (aw (C.aj a) j) (aT 2 j j (λu=>?_) (λu=>?_))
 .refine ao 3 j j ?_
  have f:p.add now I=(p,7):=by
   unfold du.add
   exact(aF (by rintro⟨h,_⟩;rw [i] at h;cases h)).trans ((aF (by rw [i];decide)).trans (a6 (by have:=br u;omega)))
  rw [f]
  exact⟨j,ct,m,x,a.as⟩
 have a:C o b ([bE d I,cr aK p ct]++_) _:=a.front
 have a:=a.drew
 refine bz 1 j (λw=>∃ae,C o b ([bE d I,cr aK p ct]++ae) w) ⟨_,a⟩ (af 0 1 j (be 1 j a7 j (aV 2 j (λw _=>dr j j (rX (by omega) (by omega))) (af 3 3 j (be 6 j a7 j (af 7 2 j (bO (aT 0 j j (λv=>?_) (λv=>?_)))))))))
 .refine ao 3 j j ?_
  have f:p.add now I=(p,6):=by
   unfold du.add
   exact(aF (by rintro⟨h,_⟩;rw [i] at h;cases h)).trans ((aF (by rw [i];decide)).trans ((aF (by have:=bw u;omega)).trans (a6 (by simpa using v))))
  rw [f]
  exact⟨j,ct,m,x,a.as⟩
 have a:C o b ([bE d I,bV aU now c]++_) _:=a.front
 have a:=a.drew
 refine bz 0 j (λw=>∃ae,C o b ([bE d I,bV aU now c]++ae) w) ⟨_,a⟩ (af 0 5 j (be 5 j a7 j (af 6 3 j (be 9 j a7 j (af 11 2 j (aJ 10 13 j j ?_ ?_))))))
 .refine js j a j j (λe w a=>?_)
  have a:C o b ([bE d I,bV aU now c]++_) w:=a.front
  refine an ⟨⟨_,a⟩,?_⟩
  refine aW 13 j (cC (a.bf aK) j j j j bR (λw a=>?_))
  have a:C o b (cr aK {p with df:=true} ct::_) w:=a
  have a:C o b ([bE d I,bV aU now c]++_) w:=a.front
  refine an ⟨⟨_,a⟩,?_⟩
  refine af 14 2 j (aW 16 j (cC (a.bf aK) j j j j bR (λw a=>?_)))
  have a:C o b (cr aK {p with df:=true,last:=I.t} ct::_) w:=a
  have a:C o b ([bE d I,bV aU now c]++_) w:=a.front
  refine an ⟨⟨_,a⟩,?_⟩
  refine af 17 2 j (aW 19 j (cC (a.bf aK) j j j j bR (λw a=>?_)))
  have a:C o b (cr aK {p with df:=true,last:=I.t,fg:=now} ct::_) w:=a
  have a:C o b ([bE d I,bV aU now c]++_) w:=a.front
  refine an ⟨⟨_,a⟩,?_⟩
  refine af 20 2 j (dy 22 j (cC (a.bf aK) j j j j bR (λw a=>?_)))
  have a:C o b (cr aK {p with df:=true,last:=I.t,fg:=now,parts:=some [I.q]} (.map (some e))::_) w:=a
  have a:C o b [bE d I,cr aK {p with df:=true,last:=I.t,fg:=now,parts:=some [I.q]} (.map (some e)),bV aU now c,[(e,.map #[] 0)]] w:=a.as
  refine an (cX ?_)
  have a:C o b ([bE d I,cr aK {p with df:=true,last:=I.t,fg:=now,parts:=some [I.q]} (.map (some e))]++_) _:=a.front
  have a:=a.drew
  refine bz 1 j (λw=>∃ae,C o b ([bE d I,cr aK {p with df:=true,last:=I.t,fg:=now,parts:=some [I.q]} (.map (some e))]++ae) w) ⟨_,a⟩ (af 0 3 j (be 3 j a7 j (af 4 1 j (be 5 j a7 j (aW 6 j (jt (k:=I.q) cf.new (a.to [(e,.map #[] 0)]) j j j j (λg w n a=>?_)))))))
  have a:C o b ([bE d I,cr aK {p with df:=true,last:=I.t,fg:=now,parts:=some [I.q]} (.map (some e))]++_) w:=a.front
  refine an ⟨⟨_,a⟩,?_⟩
  refine bO (ao 3 j j ?_)
  have f:p.add now I=({p with df:=true,last:=I.t,fg:=now,parts:=some [I.q]},0):=by
   unfold du.add
   exact(aF (by rintro⟨h,_⟩;rw [i] at h;cases h)).trans ((aF (by rw [i];decide)).trans ((aF (by have:=bw u;omega)).trans (aF (by simpa using v))))
  rw [f]
  exact⟨j,.map (some e),[(e,g)],⟨e,g,j,j,n⟩,a.as⟩
 refine cC (a.bf aK) j j j j bR (λw a=>?_)
 have a:C o b (cr aK {p with df:=true} ct::_) w:=a
 have a:C o b ([bE d I,bV aU now c]++_) w:=a.front
 refine an ⟨⟨_,a⟩,?_⟩
 refine af 14 2 j (aJ 10 16 j j ?_ ?_)
 .refine js j a j j (λe w a=>?_)
  have a:C o b ([bE d I,bV aU now c]++_) w:=a.front
  refine an ⟨⟨_,a⟩,?_⟩
  refine aW 16 j (cC (a.bf aK) j j j j bR (λw a=>?_))
  have a:C o b (cr aK {p with df:=true,last:=I.t} ct::_) w:=a
  have a:C o b ([bE d I,bV aU now c]++_) w:=a.front
  refine an ⟨⟨_,a⟩,?_⟩
  refine af 17 2 j (aW 19 j (cC (a.bf aK) j j j j bR (λw a=>?_)))
  have a:C o b (cr aK {p with df:=true,last:=I.t,fg:=now} ct::_) w:=a
  have a:C o b ([bE d I,bV aU now c]++_) w:=a.front
  refine an ⟨⟨_,a⟩,?_⟩
  refine af 20 2 j (dy 22 j (cC (a.bf aK) j j j j bR (λw a=>?_)))
  have a:C o b (cr aK {p with df:=true,last:=I.t,fg:=now,parts:=some [I.q]} (.map (some e))::_) w:=a
  have a:C o b [bE d I,cr aK {p with df:=true,last:=I.t,fg:=now,parts:=some [I.q]} (.map (some e)),bV aU now c,[(e,.map #[] 0)]] w:=a.as
  refine an (cX ?_)
  have a:C o b ([bE d I,cr aK {p with df:=true,last:=I.t,fg:=now,parts:=some [I.q]} (.map (some e))]++_) _:=a.front
  have a:=a.drew
  refine bz 1 j (λw=>∃ae,C o b ([bE d I,cr aK {p with df:=true,last:=I.t,fg:=now,parts:=some [I.q]} (.map (some e))]++ae) w) ⟨_,a⟩ (af 0 3 j (be 3 j a7 j (af 4 1 j (be 5 j a7 j (aW 6 j (jt (k:=I.q) cf.new (a.to [(e,.map #[] 0)]) j j j j (λg w n a=>?_)))))))
  have a:C o b ([bE d I,cr aK {p with df:=true,last:=I.t,fg:=now,parts:=some [I.q]} (.map (some e))]++_) w:=a.front
  refine an ⟨⟨_,a⟩,?_⟩
  refine bO (ao 3 j j ?_)
  have f:p.add now I=({p with df:=true,last:=I.t,fg:=now,parts:=some [I.q]},0):=by
   unfold du.add
   exact(aF (by rintro⟨h,_⟩;rw [i] at h;cases h)).trans ((aF (by rw [i];decide)).trans ((aF (by have:=bw u;omega)).trans (aF (by simpa using v))))
  rw [f]
  exact⟨j,.map (some e),[(e,g)],⟨e,g,j,j,n⟩,a.as⟩
 refine cC (a.bf aK) j j j j bR (λw a=>?_)
 have a:C o b (cr aK {p with df:=true,last:=I.t} ct::_) w:=a
 have a:C o b ([bE d I,bV aU now c]++_) w:=a.front
 refine an ⟨⟨_,a⟩,?_⟩
 refine af 17 2 j (aJ 10 19 j j ?_ ?_)
 refine js j a j j (λe w a=>?_)
 have a:C o b ([bE d I,bV aU now c]++_) w:=a.front
 refine an ⟨⟨_,a⟩,?_⟩
 refine aW 19 j (cC (a.bf aK) j j j j bR (λw a=>?_))
 have a:C o b (cr aK {p with df:=true,last:=I.t,fg:=now} ct::_) w:=a
 rotate_left
 refine cC (a.bf aK) j j j j bR (λw a=>?_)
 have a:C o b (cr aK {p with df:=true,last:=I.t,fg:=now} ct::_) w:=a
 have a:C o b ([bE d I,bV aU now c]++_) w:=a.front
 refine an ⟨⟨_,a⟩,?_⟩
 refine aW 10 j (js j a j j (λe w a=>?_))
 rotate_left
 all_goals
  have a:C o b ([bE d I,bV aU now c]++_) w:=a.front
  refine an ⟨⟨_,a⟩,?_⟩
  refine af 20 2 j (dy 22 j (cC (a.bf aK) j j j j bR (λw a=>?_)))
  have a:C o b (cr aK {p with df:=true,last:=I.t,fg:=now,parts:=some [I.q]} (.map (some e))::_) w:=a
  have a:C o b [bE d I,cr aK {p with df:=true,last:=I.t,fg:=now,parts:=some [I.q]} (.map (some e)),bV aU now c,[(e,.map #[] 0)]] w:=a.as
  refine an (cX ?_)
  have a:C o b ([bE d I,cr aK {p with df:=true,last:=I.t,fg:=now,parts:=some [I.q]} (.map (some e))]++_) _:=a.front
  have a:=a.drew
  refine bz 1 j (λw=>∃ae,C o b ([bE d I,cr aK {p with df:=true,last:=I.t,fg:=now,parts:=some [I.q]} (.map (some e))]++ae) w) ⟨_,a⟩ (af 0 3 j (be 3 j a7 j (af 4 1 j (be 5 j a7 j (aW 6 j (jt (k:=I.q) cf.new (a.to [(e,.map #[] 0)]) j j j j (λg w n a=>?_)))))))
  have a:C o b ([bE d I,cr aK {p with df:=true,last:=I.t,fg:=now,parts:=some [I.q]} (.map (some e))]++_) w:=a.front
  refine an ⟨⟨_,a⟩,?_⟩
  refine bO (ao 3 j j ?_)
  have f:p.add now I=({p with df:=true,last:=I.t,fg:=now,parts:=some [I.q]},0):=by
   unfold du.add
   exact(aF (by rintro⟨h,_⟩;rw [i] at h;cases h)).trans ((aF (by rw [i];decide)).trans ((aF (by have:=bw u;omega)).trans (aF (by simpa using v))))
  rw [f]
  exact⟨j,.map (some e),[(e,g)],⟨e,g,j,j,n⟩,a.as⟩
section
variable {P:Program} {n:Fr} {aa:Env} {w:World} {dst:Option Nat} {ty:TypeId} {pos:String} {after:Array Edge} {g:Option (Nat×Bool)} {cw:Type} [DecidableEq cw] {key:cw->Value} {I:Obj} {b:Nat}
theorem Ba{t cZ eB:TypeId}{x y:Operand}{size bytes:Nat}{l:List cw}[hu:bC P t (.map cZ eB)][ad:Keys P cZ key][i:cq P eB (.bool false) size bytes](hm:cf key I (l.map λk=>(k,Value.bool true)))(d:w.heap[b]? =some I){k:cw}(e:bs aa x=some (.map (some b)))(f:bs aa y=some (key k)):
 ∀a,cG aa n.n a->(execOp a.eval ⟨dst,.lookup t x y false,ty,pos,after,g⟩).run P w= .ok (.value (.bool (decide (k∈l)))) w:=λa c=>by
 have h:=th (P:=P) (n:=n) (aa:=aa) (t:=t) (cZ:=cZ) (eB:=eB) (x:=x) (y:=y) (z:=.bool false) (k:=k) (key:=key) (dst:=dst) (ty:=ty) (pos:=pos) (after:=after) (g:=g) hm d e f a c
 rw [yN] at h
 exact h
end
theorem yP{α:Type}:∀{m:List (Int×α)}{k J:Int}{v:α},J≠k->a2 (cj m J v) k=a2 m k
 |[],k,J,v,h=>by simp [cj,a2,h]
 |(i,u)::r,k,J,v,h=>by
  simp only [cj]
  split
  .rename_i he
   subst he
   simp only [a2]
   rw [aF h,aF h]
  .simp only [a2]
   split
   .rfl
   .exact yP h
theorem bK.wD{now:Int}{k:Int}:∀(l:List (Int×du))(a:bK×List b9),(∀p∈l,p.1≠k)->a2 (l.foldl (bK.fG now) a).1.cL k=a2 a.1.cL k
 |[],_,_=>rfl
 |p::r,a,h=>by
  rw [ix,bK.wD r _ (λq b=>h q (by simp [b]))]
  unfold bK.fG
  split
  .exact yP (h p (by simp))
  .rfl
theorem bK.pY{now:Int}:∀(l:List (Int×du))(a:bK×List b9),(l.foldl (bK.fG now) a).1.now=a.1.now/\(l.foldl (bK.fG now) a).1.answers=a.1.answers/\(l.foldl (bK.fG now) a).1.marks.length<=a.1.marks.length+l.length/\(l.foldl (bK.fG now) a).2.length<=a.2.length+l.length
 |[],_=>⟨j,j,cB _,cB _⟩
 |p::r,a=>by
  rw [ix]
  obtain⟨c,d,e,f⟩:=bK.pY r (bK.fG now a p)
  have b:(bK.fG now a p).1.now=a.1.now/\(bK.fG now a p).1.answers=a.1.answers/\(bK.fG now a p).1.marks.length<=a.1.marks.length+1/\(bK.fG now a p).2.length<=a.2.length+1:=by
   unfold bK.fG
   split
   .exact⟨j,j,by unfold bK.gg;simp,by simp⟩
   .exact⟨j,j,by omega,by omega⟩
  refine⟨c.trans b.1,d.trans b.2.1,?_,?_⟩<;>rw [ep]<;>omega
theorem xD{o:World}{aU aK:Nat}{now:Int}{c:i7}{p:du}{ct:Value}{l dl:List b9}{M D:List Chunk}{I:bG}(L:ez c.marks l M)(F:mF fT c.fv (oJ dl) D)(R:l.length<=1000000)(a:Own [bV aU now c,M,D,cr aK p ct] o):Calls prog 245 #[Z aU,.agg I.cs.toArray,Z aK] o (aS λr w=>∃v,(p.df=true/\I.t=p.last/\r= .tuple #[ab 0,v]/\∃v1 s m u,ez v [p.mark I.p (iH I)] u/\ez v1 (l++[p.mark I.p (iH I)]) s/\mF fT c.fv (oJ (once dl (p.mark I.p (iH I)))) m/\C o (av [bV aU now c,M,D,cr aK p ct]) [bV aU now {c with marks:=v1},s,m,cr aK p.shut (.map none),u] w)\/(¬(p.df=true/\I.t=p.last)/\r= .tuple #[ab (if(⟨iH I,I.p,I.e,I.t⟩:b9)∈dl then 0 else 6),.slice none 0 0]/\C o (av [bV aU now c,M,D,cr aK p ct]) [bV aU now c,M,D,cr aK p ct] w)):=by
 obtain⟨d,G⟩:∃d,d=av [bV aU now c,M,D,cr aK p ct]:=⟨_,j⟩
 rw [<-G]
 have a:C o d [bV aU now c,M,D,cr aK p ct] o:=G▸a
 have J:=F
 obtain⟨h,i,P,rfl,S⟩:=F
 refine a1 [Z aU,.agg I.cs.toArray,Z aK] func245 ntmps245 results245 (bP 2 a j j (λf w a=>?_))
 have a:C o d [bE f I,bV aU now c,M,[(h,i)],cr aK p ct] w:=a
 refine au 9 j (aw (C.aj a) j) (aT 0 j j (λz=>?_) (λz=>?_))
 have a:C o d ([bE f I,cr aK p ct]++_) _:=a.front
 have a:=a.drew
 have y:iH I=2:=a6 z
 refine bz 5 j (λw=>∃ae,C o d ([bE f I,cr aK p ct]++ae) w) ⟨_,a⟩ ?_
 rotate_left
 have a:C o d ([bE f I,cr aK p ct]++_) _:=a.front
 have a:=a.drew
 have y:iH I=3:=aF (by rw [show I.dQ=false from z];decide)
 refine bz 4 j (λw=>∃ae,C o d ([bE f I,cr aK p ct]++ae) w) ⟨_,a⟩ ?_
 rotate_left
 all_goals
  refine af 0 3 j (be 3 j a7 j (af 4 1 j (ef 16 j (λx=>?_) (λx=>?_))))
  refine af 5 1 j (be 6 j a7 j (af 7 3 j (be 10 j a7 j (af 11 3 j (bO (aT 0 j j (λg=>?_) (λg=>?_)))))))
  .refine au 4 j (aw (C.aj a) j) ?_
   have H:=ul (aU:=aU) (aK:=aK) (now:=now) (n:=I.p) (k:=iH I) (c:=c) (q:=p) (ct:=ct) L J R a.ours
   rw [y] at H
   refine bm 2 H j (λr w⟨v1,s,m,u,N,K,O,Q⟩=>?_)
   have a:=a.b4 Q
   refine ao 2 j j ?_
   rw [y]
   exact⟨_,.inl ⟨x,dX.1 g,j,v1,s,m,u,O,N,K,a.as⟩⟩
  have a:C o d ([bE f I,bV aU now c,[(h,i)]]++_) _:=a.front
  have a:=a.drew
  refine bz 1 j (λw=>∃ae,C o d ([bE f I,bV aU now c,[(h,i)]]++ae) w) ⟨_,a⟩ ?_
  rotate_left
  refine af 5 9 j (bO ?_)
  have a:C o d ([bE f I,bV aU now c,[(h,i)]]++_) _:=a.front
  have a:=a.drew
  refine bz 2 j (λw=>∃ae,C o d ([bE f I,bV aU now c,[(h,i)]]++ae) w) ⟨_,a⟩ ?_
  rotate_left
  all_goals
   refine af 0 3 j (be 3 j a7 (aL some P) (af 4 2 j (be 6 j a7 j (af 7 1 j (be 8 j a7 j (af 9 1 j (be 10 j a7 j (aV 11 j (λw _=>e0 (c:=(⟨iH I,I.p,I.e,I.t⟩:b9).cs.toArray) j (λ_=>by rw [y];kernel_rfl)) (aV 12 j (λw⟨_,a⟩=>Ba (k:=(⟨iH I,I.p,I.e,I.t⟩:b9)) (key:=fT) S (C.aj (b:=h) a) j j) (af 13 1 j (bO (aT 0 j j (λA=>?_) (λA=>?_)))))))))))))
   .refine ao 4 j j ?_
    exact⟨.slice none 0 0,.inr ⟨(by rintro⟨B,E⟩;first|exact absurd (B.symm.trans x) (by decide)|(rw [dX.2 E] at g;cases g)),by rw [a6 (br A)];rfl,a.as⟩⟩
   refine ao 5 j j ?_
   exact⟨.slice none 0 0,.inr ⟨(by rintro⟨B,E⟩;first|exact absurd (B.symm.trans x) (by decide)|(rw [dX.2 E] at g;cases g)),by rw [aF (bw A)];rfl,a.as⟩⟩
theorem HS{o:World}{aU:Nat}{s:bK}{G:List Chunk}(bc:kU aU s G){N:Nat}(T:s.ok N)(bG:N<=10000)(d:Own [G] o):Calls prog 242 #[Z aU] o (aS λr w=>∃ah t,ez r (s.fW).2 t/\kU aU (s.fW).1 ah/\C o (av [G]) [ah,t] w):=by
 obtain⟨c,g3,M,D,W,F,rfl⟩:=bc
 obtain⟨E,aD⟩:∃E,E=av [bV aU s.now c++(g3++(M++(D++W)))]:=⟨_,j⟩
 rw [<-aD]
 have d:C o E [bV aU s.now c++(g3++(M++(D++W)))] o:=aD▸d
 have d:=d.qu
 obtain⟨m,ag,b1,aa,H,am,az,ao,rfl⟩:=F.l
 have hlen:=ao.len
 have bL:=T.cL
 have aJ:(aa.map (·.1)).Nodup:=az.nodup (P:=prog) (cZ:=3)
 have aO:(s.cL.map Prod.fst).Nodup:=by have:=ao.keys;rw [<-this];exact aJ
 have aM:((db s.cL).map Prod.fst).Nodup:=(List.Perm.map _ (oj _ _)).nodup_iff.2 aO
 refine iq [Z aU] (fn:=f242) func242 ntmps242 (bP 2 d j j (λax w d=>?_))
 have d:C o E (R ax #[Z aU] 60::_) w:=d
 refine au 3 j (aw (C.aj d) j) (au 2 j (aw (C.aj d) j) (bt 0 j j j (qb (by have:=T.now;omega) (by omega)) (dD 2 (d.bf aU) j j j j (λw d=>?_))))
 have d:C o E (bV aU (s.now+1) c::_) w:=d
 refine cn 2 d j (λg w d=>?_)
 have d:C o E (R g #[.slice none 0 0] 78::_) w:=d
 have d:C o E [R ax #[Z aU] 60,R g #[.slice none 0 0] 78,bV aU (s.now+1) c,M,D,W,ay 291 m ag b1,H,[]] w:=C.perm (A:=[R ax #[Z aU] 60,R g #[.slice none 0 0] 78,bV aU (s.now+1) c,M,D,W,ay 291 m ag b1++H]) d.as (by simp)
 refine au 3 j (aw (C.aj d) j) ?_
 obtain⟨a,X⟩:∃a:Option Addr,a=some ⟨m,0,none⟩:=⟨_,j⟩
 have am:c.l= .pointer a:=am.trans (by rw [X])
 refine au 2 j (aw (C.aj (b:=aU) d) (aL some am)) ?_
 have bh:dG 291 w a aa:=X▸dG.own (d.to (ay 291 m ag b1)) az
 have aq:=wG (o:=w) (p:=a)
 refine bm 0 aq j (λr w⟨aR,aX,bs,ad⟩=>?_)
 subst bs
 have bg:=bh.st ad
 have d:=d.aN ad
 have d:C o E ([R aR #[.pointer a] 217,[(aX,.cells #[.func (.func 304) #[] #[]] 36 (0,0))]]++[R ax #[Z aU] 60,R g #[.slice none 0 0] 78,bV aU (s.now+1) c,M,D,W,ay 291 m ag b1,H,[]]) w:=d
 refine jY 1 j (zG (by omega)) j (by have:=d.size;simpa using this) d j (λ_=>rfl) (by intro p F;simp at F;rcases F with rfl|rfl<;>rfl)
  (λpre ae=>∃(v:Value)(aZ:i7)(z u x t:List Chunk),ae=[R ax #[Z aU] 60,R g #[v] 78,bV aU (s.now+1) aZ,z,u,W,ay 291 m ag b1,x,t]/\ez v (((db s.cL).take pre.length).foldl (bK.fG (s.now+1)) (({s with now:=s.now+1}:bK),[])).2 t/\ez aZ.marks (((db s.cL).take pre.length).foldl (bK.fG (s.now+1)) (({s with now:=s.now+1}:bK),[])).1.marks z/\mF fT aZ.fv (oJ (((db s.cL).take pre.length).foldl (bK.fG (s.now+1)) (({s with now:=s.now+1}:bK),[])).1.fv) u/\aZ.l=c.l/\aZ.answers=c.answers/\c6 re aa (((db s.cL).take pre.length).foldl (bK.fG (s.now+1)) (({s with now:=s.now+1}:bK),[])).1.cL x) (λ_ _=>False) ⟨_,c,M,D,H,[],j,ez.nil,F.marks,F.fv,j,j,ao⟩ (λL aI a9=>bg.st a9) (λ_ _ _ _=>trivial) ?_ ?_ (λ_ _ h=>h.elim) (λ_ _ _ h=>h.elim)
 .rintro y pre ⟨B,aY⟩ bA L bQ aC ⟨v,aZ,z,u,x,t,rfl,S,Q,O,ak,al,Y⟩ d
  obtain⟨t1,t2,i,bD,bC,bE,K,aQ,bI,bH⟩:=ao.n0 aC
  have K:db s.cL=t1++(B,i)::t2:=K
  have bq:i.ok s.now:=T.kL (B,i) (gS.1 (show(B,i)∈db s.cL by rw [K];simp))
  have bo:a2 aa B=some aY:=by
   obtain⟨bN,bu⟩:=aC
   exact nf (q:=(B,aY)) aJ (n1.1 (by rw [bu];simp))
  have bx:(db s.cL).take pre.length=t1:=by rw [K,<-aQ,l2]
  have ar:a2 (((db s.cL).take pre.length).foldl (bK.fG (s.now+1)) (({s with now:=s.now+1}:bK),[])).1.cL B=some i:=by
   rw [bx,bK.wD _ _ (λp F=>by
    rw [K,jP,List.map_cons] at aM
    have:=(iy.1 aM).2.2
    exact λe=>this p.1 (dT.2 ⟨p,F,j⟩) B (by simp) e)]
   exact u6 (q:=(B,i)) aO (gS.1 (show(B,i)∈db s.cL by rw [K];simp))
  have aE:=bK.pY (now:=(s.now+1)) ((db s.cL).take pre.length) (({s with now:=s.now+1}:bK),[])
  have bM:((db s.cL).take pre.length).length<=8:=by rw [hi,hM];omega
  have aA:=x1 (f:=bK.fG (s.now+1)) (b:=((({s with now:=s.now+1}:bK),[]):bK×List b9)) K aQ
  have bk:(((db s.cL).take pre.length).foldl (bK.fG (s.now+1)) (({s with now:=s.now+1}:bK),[])).1.marks.length<=s.marks.length+8:=ed aE.2.2.1 (by show s.marks.length+_<=_;omega)
  have bl:(((db s.cL).take pre.length).foldl (bK.fG (s.now+1)) (({s with now:=s.now+1}:bK),[])).2.length<=8:=ed aE.2.2.2 (by show 0+_<=_;omega)
  obtain⟨a0,bj⟩:∃a0,a0=(((db s.cL).take pre.length).foldl (bK.fG (s.now+1)) (({s with now:=s.now+1}:bK),[])):=⟨_,j⟩
  rw [<-bj] at S Q O Y ar aA bk bl
  obtain⟨v0,I,bF,J,aH,rfl,bi,aP⟩:=Y.find ar
  rw [bo] at aH
  cases aH
  obtain⟨aK,ct,V,rfl,bb,rfl⟩:=bi
  have d:=C.gs d
  refine bJ 5 j (⟨j,_,d,λL U d=>?_⟩)
  obtain⟨x,ac⟩:∃x,x=I++((cr aK i ct++V)++J):=⟨_,j⟩
  rw [<-ac] at d
  have d:=C.gs d
  have d:C U (av [R ax #[Z aU] 60,R g #[v] 78,bV aU (s.now+1) aZ,z,u,W,ay 291 m ag b1,x,t]) [R ax #[Z aU] 60,R g #[v] 78,bV aU (s.now+1) aZ,z,u,W,ay 291 m ag b1,I,cr aK i ct,V,J,t] U:=C.perm (A:=[R ax #[Z aU] 60,R g #[v] 78,bV aU (s.now+1) aZ,z,u,W,ay 291 m ag b1,x,t]) d (by rw [ac];simp)
  have d:C U (av [R ax #[Z aU] 60,R g #[v] 78,bV aU (s.now+1) aZ,z,u,W,ay 291 m ag b1,x,t]) ([R ax #[Z aU] 60,bV aU (s.now+1) aZ,cr aK i ct]++_) _:=d.front
  have d:=d.drew
  refine bz 2 j (λw=>∃ae,C U (av [R ax #[Z aU] 60,R g #[v] 78,bV aU (s.now+1) aZ,z,u,W,ay 291 m ag b1,x,t]) ([R ax #[Z aU] 60,bV aU (s.now+1) aZ,cr aK i ct]++ae) w) ⟨_,d⟩ (af 0 3 j (bT 3 j (λw⟨_,d⟩=>aw (C.aj (b:=aK) d) j) (af 4 1 j (ef 24 j (λap=>?_) (λap=>?_)))))
  refine bT 5 j (λw⟨_,d⟩=>aw (C.aj (b:=ax) d) j) (af 6 2 j (bT 8 j (λw⟨_,d⟩=>aw (C.aj (b:=aU) d) j) (af 9 3 j (bT 12 j (λw⟨_,d⟩=>aw (C.aj (b:=aK) d) j) (aV 13 j (λw _=>dr j j (rX (by have:=T.now;omega) (by have:=bq.fg;have:=T.now;omega))) (af 14 2 j (bO (aT 0 j j (λeM=>?_) (λeM=>?_)))))))))
  .have d:C U (av [R ax #[Z aU] 60,R g #[v] 78,bV aU (s.now+1) aZ,z,u,W,ay 291 m ag b1,x,t]) ([R ax #[Z aU] 60,R g #[v] 78]++_) _:=d.front
   have d:=d.drew
   refine bz 0 j (λw=>∃ae,C U (av [R ax #[Z aU] 60,R g #[v] 78,bV aU (s.now+1) aZ,z,u,W,ay 291 m ag b1,x,t]) ([R ax #[Z aU] 60,R g #[v] 78]++ae) w) ⟨_,d⟩ (bT 0 j (λw⟨_,d⟩=>aw (C.aj (b:=g) d) j) (bT 1 j (λw⟨_,d⟩=>aw (C.aj (b:=ax) d) j) (af 2 2 j (aW 4 j ?_))))
   have aq:=ul (aU:=aU) (aK:=aK) (now:=(s.now+1)) (n:=B) (k:=3) (c:=aZ) (q:=i) (ct:=ct) Q O (by have:=T.marks;omega) d.ours
   refine cN j j j aq (λr w⟨v1,M2,ab,a1,ba,a8,bd,bp⟩=>?_)
   have d:=d.b4 bp
   have d:C _ _ ([R ax #[Z aU] 60,R g #[v] 78]++_) w:=d.front
   refine an ⟨⟨_,d⟩,?_⟩
   refine aW 5 j (q7 (d.front (cI:=[t,a1])) S bd (oW _) j j (by decide) (by decide) j j j (by simp;omega) (λv3 bn w ai d=>?_))
   have ai:=ez.r7 ai
   have d:C _ _ ([R ax #[Z aU] 60,R g #[v] 78]++_) w:=d.front
   refine an ⟨⟨_,d⟩,?_⟩
   refine dy 6 j (cC (d.bf g) j j j ai.one bR (λw d=>?_))
   have d:C _ _ (R g #[v3] 78::_) w:=d
   have d:C _ _ [R ax #[Z aU] 60,R g #[v3] 78,bV aU (s.now+1) {aZ with marks:=v1},M2,ab,W,ay 291 m ag b1,I,cr aK i.shut (.map none),J,bn] w:=d.as
   refine an (cX (bJ 0 j ?_))
   have aB:bK.fG (s.now+1) a0 (B,i)=(a0.1.gg B i 3,a0.2++[i.mark B 3]):=a6 ⟨ap,br eM⟩
   subst ac
   refine⟨[R ax #[Z aU] 60,R g #[v3] 78,bV aU (s.now+1) {aZ with marks:=v1},M2,ab,W,ay 291 m ag b1,(I++((cr aK i.shut (.map none)++[])++J)),bn],C.perm (A:=[R ax #[Z aU] 60,R g #[v3] 78,bV aU (s.now+1) {aZ with marks:=v1},M2,ab,W,ay 291 m ag b1,I,cr aK i.shut (.map none),J,bn]) d (by simp),v3,{aZ with marks:=v1},M2,ab,_,bn,j,?_⟩
   rw [ca,List.length_singleton,aA,aB]
   exact⟨ai,ba,a8,ak,al,aP i.shut _ ⟨aK,.map none,[],j,⟨j,j⟩,j⟩⟩
  refine bJ 1 j ?_
  rotate_left
  refine af 5 11 j (bO (bJ 2 j ?_))
  rotate_left
  all_goals
   have aB:bK.fG (s.now+1) a0 (B,i)=a0:=aF (by rintro⟨a5,a7⟩;first|exact absurd (a5.symm.trans ap) (by decide)|exact absurd a7 (bw eM))
   subst ac
   refine⟨[R ax #[Z aU] 60,R g #[v] 78,bV aU (s.now+1) aZ,z,u,W,ay 291 m ag b1,(I++((cr aK i ct++V)++J)),t],C.perm (A:=[R ax #[Z aU] 60,R g #[v] 78,bV aU (s.now+1) aZ,z,u,W,ay 291 m ag b1,I,cr aK i ct,V,J,t]) d.as (by simp),v,aZ,z,u,_,t,j,?_⟩
   rw [ca,List.length_singleton,aA,aB]
   refine⟨S,Q,O,ak,al,?_⟩
   have:=aP i _ ⟨aK,ct,V,j,bb,j⟩
   rwa [sh ar] at this
 rintro xs bB w be ⟨v,aZ,z,u,x,t,rfl,S,Q,O,ak,al,Y⟩ d
 rw [be,iv,hlen,il (by rw [hM];exact cB _)] at S Q O Y
 have d:C o E [R aR #[.pointer a] 217,[(aX,.cells #[.func (.func 304) #[] #[]] 36 (0,0))],R ax #[Z aU] 60,R g #[v] 78,bV aU (s.now+1) aZ,z,u,W,ay 291 m ag b1,x,t] w:=d
 refine au 2 j (aw (C.aj (b:=g) d) j) (bJ 1 j ⟨v,λw bv=>?_⟩)
 have d:=bv.st d (cB _)
 refine⟨λa X=>i4 (fn:=f242) X j _ _,?_⟩
 have aG:=bK.pY (now:=(s.now+1)) (db s.cL) (({s with now:=s.now+1}:bK),[])
 have a3:(s.fW).1.now=s.now+1:=aG.1
 have a4:(s.fW).1.answers=s.answers:=aG.2.1
 have d:C o E [bV aU (s.now+1) aZ,ay 291 m ag b1,x,z,u,W,t] w:=d.as
 refine⟨_,t,S,⟨aZ,ay 291 m ag b1++x,z,u,W,⟨⟨m,ag,b1,aa,x,by rw [ak,am,X],az,Y,j⟩,Q,O,by rw [al,a4];exact F.answers⟩,j⟩,?_⟩
 rw [a3]
 exact C.perm (A:=[bV aU (s.now+1) aZ,ay 291 m ag b1,x,z,u,W,t]) d (by simp)
theorem F4{I:bG}(h:gO I=true): -1000<=I.t/\I.t<=1000:=by
 unfold gO at h
 simp only [d8] at h
 have a:=h.2
 split at a
 .simp only [bG.ids,d8,dX] at a
  obtain⟨⟨⟨_,⟨_,b⟩⟩,_⟩,_⟩:=a
  omega
 .split at a
  .simp only [bG.ids,d8,dX] at a
   obtain⟨⟨⟨_,⟨_,b⟩⟩,_⟩,_⟩:=a
   omega
  .split at a
   .simp only [j2,nM,d8] at a
    omega
   .split at a
    .simp only [j2,nM,d8] at a
     omega
    .cases a
theorem Do{o:World}{aU:Nat}{s:bK}{G:List Chunk}{I:bG}(aA:kU aU s G){N:Nat}(L:s.ok N)(ax:N<=10000)(aM:gO I=true)(a:Own [G] o):Calls prog 194 #[Z aU,.agg I.cs.toArray] o (aS λr w=>∃v ah F,r= .tuple #[j5 (s.b5 I).2.1,v]/\ez v (s.b5 I).2.2 F/\kU aU (s.b5 I).1 ah/\C o (av [G]) [ah,F] w):=by
 have aB:=aA
 obtain⟨c,g3,M,D,W,m,aD⟩:=aA
 obtain⟨d,aq⟩:∃d,d=av [G]:=⟨_,j⟩
 rw [<-aq]
 have a:C o d [G] o:=aq▸a
 refine e7 [Z aU,.agg I.cs.toArray] (fn:=f194) func194 ntmps194 (bP 2 a j j (λi w a=>?_))
 have a:C o d (bE i I::_) w:=a
 refine cn 0 a j (λf w a=>?_)
 have a:C o d (R f #[ab 0,ab 0,ab 0] 116::_) w:=a
 refine au 5 j (aw (C.aj (b:=i) a) j) (aT 5 j j (λn=>?_) (λn=>?_))
 .refine bS 3 (U:=I.cs) j j j (bq (C.aj (b:=i) a)) ?_
  have z:=Cs (I:=I) aB L ax a.ours
  refine bm 0 z j (λr w⟨v,ah,F,V,Q,am,E⟩=>?_)
  subst V
  have a:=a.b4 E
  refine cp 2 (a.bf f) j j j j j (λw a=>?_)
  have a:=C.whole (U:=[ab (s.dd I).2.1.1,ab (s.dd I).2.1.2.1,ab (s.dd I).2.1.2.2]) a j
  have a:C o d (R f #[ab (s.dd I).2.1.1,ab (s.dd I).2.1.2.1,ab (s.dd I).2.1.2.2] 116::_) w:=a
  refine bJ 1 j ⟨_,dp results194 j j j j a.bN,?_⟩
  have x:s.b5 I=s.dd I:=by
   unfold bK.b5
   exact a6 (dX.1 n)
  rw [x]
  exact⟨v,ah,F,j,Q,am,a.as⟩
 refine aT 4 j j (λq=>?_) (λq=>?_)
 .refine ar 2 j (cO (c:= #[ab 0,ab 0,ab 0]) j j j (λ_=>by kernel_rfl) ?_)
  have z:=HS aB L ax a.ours
  refine bm 1 z j (λr w⟨ah,F,Q,am,E⟩=>?_)
  have a:=a.b4 E
  refine cp 0 (a.bf f) j j j j j (λw a=>?_)
  have a:=C.whole (U:=[ab 0,ab 0,ab 0]) a j
  have a:C o d (R f #[ab 0,ab 0,ab 0] 116::_) w:=a
  refine bJ 1 j ⟨_,dp results194 j j j j a.bN,?_⟩
  have x:s.b5 I=((s.fW).1,(0,0,0),(s.fW).2):=by
   unfold bK.b5
   exact(aF (by rw [fq] at n;exact n)).trans (a6 (dX.1 q))
  rw [x]
  exact⟨_,ah,F,j,Q,am,a.as⟩
 rw [aD] at a
 have a:C o d [bV aU s.now c++(g3++(M++(D++W))),R f #[ab 0,ab 0,ab 0] 116,bE i I] _:=a.as
 have a:C o d [bV aU s.now c,g3,M,D,W,R f #[ab 0,ab 0,ab 0] 116,bE i I] _:=a.qu
 obtain⟨g,ag,b1,O,H,S,T,ac,rfl⟩:=m.l
 have a:C o d ([bE i I,bV aU s.now c]++_) _:=a.front
 have a:=a.drew
 refine bz 2 j (λw=>∃ae,C o d ([bE i I,bV aU s.now c]++ae) w) ⟨_,a⟩ (af 0 3 j (be 3 j a7 (aL some S) (af 4 1 j (be 5 j a7 j (aW 6 j ?_)))))
 have aH:=dG.own (C.perm (A:=[ay 291 g ag b1++H,bE i I,bV aU s.now c]) (B:=[ay 291 g ag b1,H,bE i I,bV aU s.now c]) a.as (by simp)) T
 have z:=DU (k:=I.p) aH
 refine bF j j j z (λw E=>?_)
 have a:=a.aN E
 have a:C o d ([bE i I,bV aU s.now c]++_) w:=a.front
 refine an ⟨⟨_,a⟩,?_⟩
 refine af 7 5 j (bO (aT 7 j j (λal=>?_) (λal=>?_)))
 .refine ar 2 j (cO (c:= #[ab 4,ab 0,ab 0]) j j j (λ_=>by kernel_rfl) ?_)
  refine cp 0 (a.bf f) j j j j j (λw a=>?_)
  have a:=C.whole (U:=[ab 4,ab 0,ab 0]) a j
  have a:C o d (R f #[ab 4,ab 0,ab 0] 116::_) w:=a
  refine bJ 1 j ⟨_,dp results194 j j j j a.bN,?_⟩
  have x:s.b5 I=(s,(4,0,0),[]):=by
   unfold bK.b5
   refine(aF (by rw [fq] at n;exact n)).trans ((aF (by rw [fq] at q;exact q)).trans ?_)
   have u:(a2 O I.p).isSome=false:=by simpa using al
   rw [ac.isSome] at u
   rw [mh u]
  rw [x]
  have a:C o d [bV aU s.now c,ay 291 g ag b1++H,M,D,W,[]] w:=(C.empty a).as
  exact⟨_,_,[],j,ez.nil,⟨c,ay 291 g ag b1++H,M,D,W,⟨⟨g,ag,b1,O,H,S,T,ac,j⟩,m.marks,m.fv,m.answers⟩,j⟩,a.yp⟩
 obtain⟨p,J⟩:∃p,a2 s.cL I.p=some p:=by
  have u:(a2 O I.p).isSome=true:=by simpa using al
  rw [ac.isSome] at u
  exact g4.1 u
 obtain⟨v0,H1,aP,y,aJ,rfl,aI,ap⟩:=ac.find J
 obtain⟨aK,ct,K,rfl,az,rfl⟩:=aI
 have aO:p.ok s.now:=L.kL _ (hN J)
 have a:C o d [bV aU s.now c,ay 291 g ag b1,H1,cr aK p ct,K,y,M,D,W,R f #[ab 0,ab 0,ab 0] 116,bE i I] _:=C.perm (A:=[bV aU s.now c,ay 291 g ag b1++(H1++((cr aK p ct++K)++y)),M,D,W,R f #[ab 0,ab 0,ab 0] 116,bE i I]) a.as (by simp)
 have a:C o d ([bE i I,cr aK p ct]++_) _:=a.front
 have a:=a.drew
 refine bz 1 j (λw=>∃ae,C o d ([bE i I,cr aK p ct]++ae) w) ⟨_,a⟩ (iT 6 (Z aK) j (by rw [aJ];rfl) (af 0 1 j (be 1 j a7 j (af 2 3 j (be 5 j a7 j (af 6 2 j (bO (aT 0 j j (λP=>?_) (λP=>?_)))))))))
 refine ar 2 j (cO (c:= #[ab 5,ab 0,ab 0]) j j j (λ_=>by kernel_rfl) ?_)
 refine cp 0 (a.bf f) j j j j j (λw a=>?_)
 have a:=C.whole (U:=[ab 5,ab 0,ab 0]) a j
 have a:C o d (R f #[ab 5,ab 0,ab 0] 116::_) w:=a
 refine bJ 1 j ⟨_,dp results194 j j j j a.bN,?_⟩
 have x:s.b5 I=(s,(5,0,0),[]):=by
  unfold bK.b5
  refine(aF (by rw [fq] at n;exact n)).trans ((aF (by rw [fq] at q;exact q)).trans ?_)
  rw [J]
  exact a6 (by simpa using P)
 rotate_left
 refine au 3 j (aw (C.aj (b:=i) a) j) (aT 2 j j (λY=>?_) (λY=>?_))
 .refine bS 3 (U:=I.cs) j j j (bq (C.aj (b:=i) a)) ?_
  have z:=BK (aU:=aU) (aK:=aK) (c:=c) (I:=I) az aO (by have:=L.now;omega) (F4 aM) a.ours
  refine bp 1 z j (λw⟨ad,X,aG,E⟩=>?_)
  have a:=a.b4 E
  refine cO (c:= #[ab (p.add s.now I).2,ab 0,ab 0]) j j j (λ_=>by kernel_rfl) (cp 0 (a.bf f) j j j j j (λw a=>?_))
  have a:=C.whole (U:=[ab (p.add s.now I).2,ab 0,ab 0]) a j
  have a:C o d (R f #[ab (p.add s.now I).2,ab 0,ab 0] 116::_) w:=a
  refine bJ 1 j ⟨_,dp results194 j j j j a.bN,?_⟩
  have x:s.b5 I=((s.pX I p).1,((s.pX I p).2,0,0),[]):=by
   unfold bK.b5
   refine(aF (by rw [fq] at n;exact n)).trans ((aF (by rw [fq] at q;exact q)).trans ?_)
   rw [J]
   exact(aF (by simpa using P)).trans (if_pos (beq_iff_eq.1 Y))
  rw [x]
  have a:C o d [bV aU s.now c,ay 291 g ag b1,H1,cr aK (p.add s.now I).1 ad,X,y,M,D,W,[]] w:=(C.empty a).as
  have u:=ap (p.add s.now I).1 _ ⟨aK,ad,X,j,aG,j⟩
  exact⟨_,_,[],j,ez.nil,⟨c,ay 291 g ag b1++(H1++((cr aK (p.add s.now I).1 ad++X)++y)),M,D,W,⟨⟨g,ag,b1,O,_,S,T,u,j⟩,m.marks,m.fv,m.answers⟩,j⟩,C.perm (A:=[bV aU s.now c,ay 291 g ag b1,H1,cr aK (p.add s.now I).1 ad,X,y,M,D,W,[]]) a (by simp [bK.pX])⟩
 refine bS 4 (U:=I.cs) j j j (bq (C.aj (b:=i) a)) (ar 1 j ?_)
 by_cases aa:p.df=true/\I.t=p.last
 .have z:=xD (aU:=aU) (aK:=aK) (now:=s.now) (c:=c) (p:=p) (ct:=ct) (I:=I) m.marks m.fv (by have:=L.marks;omega) a.ours
  refine bm 0 z j (λr w⟨v,ao⟩=>?_)
  obtain⟨_,_,V,v1,ak,ai,F,Q,aE,aC,E⟩:=ao.resolve_right (λh=>h.1 aa)
  subst V
  have a:=a.b4 E
  refine ar 8 j (cO (c:= #[ab 0,ab 0,ab 0]) j j j (λ_=>by kernel_rfl) ?_)
  refine cp 1 (a.bf f) j j j j j (λw a=>?_)
  have a:=C.whole (U:=[ab 0,ab 0,ab 0]) a j
  have a:C o d (R f #[ab 0,ab 0,ab 0] 116::_) w:=a
  refine bJ 1 j ⟨_,dp results194 j j j j a.bN,?_⟩
  have x:s.b5 I=(s.gg I.p p (iH I),(0,0,0),[p.mark I.p (iH I)]):=by
   unfold bK.b5
   refine(aF (by rw [fq] at n;exact n)).trans ((aF (by rw [fq] at q;exact q)).trans ?_)
   rw [J]
   refine(aF (by simpa using P)).trans ((if_neg (by simpa using Y)).trans ?_)
   unfold bK.ends
   rw [a6 aa]
  rw [x]
  have a:C o d [bV aU s.now {c with marks:=v1},ay 291 g ag b1,H1,cr aK p.shut (.map none),y,ak,ai,W,F] w:=a.as
  have u:=ap p.shut _ ⟨aK,.map none,[],j,⟨j,j⟩,j⟩
  exact⟨_,_,F,j,Q,⟨{c with marks:=v1},ay 291 g ag b1++(H1++((cr aK p.shut (.map none)++[])++y)),ak,ai,W,⟨⟨g,ag,b1,O,_,S,T,u,j⟩,aE,aC,m.answers⟩,j⟩,C.perm (A:=[bV aU s.now {c with marks:=v1},ay 291 g ag b1,H1,cr aK p.shut (.map none),y,ak,ai,W,F]) a (by simp [bK.gg])⟩
 have z:=xD (aU:=aU) (aK:=aK) (now:=s.now) (c:=c) (p:=p) (ct:=ct) (I:=I) m.marks m.fv (by have:=L.marks;omega) a.ours
 refine bm 0 z j (λr w⟨v,ao⟩=>?_)
 obtain⟨_,V,E⟩:=ao.resolve_left (λh=>aa ⟨h.1,h.2.1⟩)
 subst V
 have a:=a.b4 E
 refine ar 8 j (cO (c:= #[ab (if(⟨iH I,I.p,I.e,I.t⟩:b9)∈s.fv then 0 else 6),ab 0,ab 0]) j j j (λ_=>by kernel_rfl) ?_)
 refine cp 1 (a.bf f) j j j j j (λw a=>?_)
 have a:=C.whole (U:=[ab (if(⟨iH I,I.p,I.e,I.t⟩:b9)∈s.fv then 0 else 6),ab 0,ab 0]) a j
 have a:C o d (R f #[ab (if(⟨iH I,I.p,I.e,I.t⟩:b9)∈s.fv then 0 else 6),ab 0,ab 0] 116::_) w:=a
 refine bJ 1 j ⟨_,dp results194 j j j j a.bN,?_⟩
 have x:s.b5 I=(s,((if(⟨iH I,I.p,I.e,I.t⟩:b9)∈s.fv then 0 else 6),0,0),[]):=by
  unfold bK.b5
  refine(aF (by rw [fq] at n;exact n)).trans ((aF (by rw [fq] at q;exact q)).trans ?_)
  rw [J]
  refine(aF (by simpa using P)).trans ((if_neg (by simpa using Y)).trans ?_)
  unfold bK.ends
  rw [aF aa]
  split<;>rfl
 rotate_left
 all_goals
  rw [x]
  have a:C o d [bV aU s.now c,ay 291 g ag b1,H1,cr aK p ct,K,y,M,D,W,[]] w:=(C.empty a).as
  have u:=ap p _ ⟨aK,ct,K,j,az,j⟩
  rw [sh J] at u
  exact⟨_,_,[],j,ez.nil,⟨c,ay 291 g ag b1++(H1++((cr aK p ct++K)++y)),M,D,W,⟨⟨g,ag,b1,O,_,S,T,u,j⟩,m.marks,m.fv,m.answers⟩,j⟩,C.perm (A:=[bV aU s.now c,ay 291 g ag b1,H1,cr aK p ct,K,y,M,D,W,[]]) a (by simp)⟩
theorem Fk(l:List ((Int×Int)×(Int×Int×Int)))(k:Int×Int):(a2 (nH l) k).getD (j5 (0,0,0))=j5 ((a2 l k).getD (0,0,0)):=by
 unfold nH
 rw [ne]
 cases a2 l k<;>rfl
theorem yM(l:List ((Int×Int)×(Int×Int×Int)))(k:Int×Int):(a2 (nH l) k).isSome=(a2 l k).isSome:=by
 unfold nH
 rw [ne]
 cases a2 l k<;>rfl
theorem wO{o:World}{aU:Nat}{s:bK}{G:List Chunk}{I:bG}(Y:kU aU s G){N:Nat}(aA:s.ok N)(ak:N<=10000)(d:Own [G] o):Calls prog 140 #[Z aU,.agg I.cs.toArray] o (aS λr w=>∃v ah m,r= .tuple #[j5 (s.apply I).2.1,v]/\ez v (s.apply I).2.2 m/\kU aU (s.apply I).1 ah/\C o (av [G]) [ah,m] w):=by
 have O:=Y
 obtain⟨c,g3,M,D,W,aB,L⟩:=Y
 obtain⟨e,X⟩:∃e,e=av [G]:=⟨_,j⟩
 rw [<-X]
 have d:C o e [G] o:=X▸d
 refine e7 [Z aU,.agg I.cs.toArray] (fn:=f140) func140 ntmps140 (bP 2 d j j (λh w d=>?_))
 have d:C o e (bE h I::_) w:=d
 refine cn 0 d j (λg w d=>?_)
 have d:C o e [R g #[ab 0,ab 0,ab 0] 116,bE h I,G] w:=d
 refine bS 4 (U:=I.cs) j j j (bq (C.aj (b:=h) d)) (bm 0 (ut (I:=I)) j (λr w⟨aG,aD,T,aE,P⟩=>?_))
 subst T
 have d:=d.aN P
 refine ar 10 j (b2 20 (.bool false) j (aL Value.bool (j)) ?_)
 refine aT 3 j j (λJ=>?_) (λJ=>?_)
 .have az:gO I=false:=vn J
  refine ar 2 j (cO (c:= #[ab 6,ab 0,ab 0]) j j j (λ_=>by kernel_rfl) ?_)
  refine cp 0 (d.bf g) j j j j j (λw d=>?_)
  have d:=C.whole (U:=[ab 6,ab 0,ab 0]) d j
  have d:C o e (R g #[ab 6,ab 0,ab 0] 116::_) w:=d
  refine bJ 1 j ⟨_,dp results140 j j j j d.bN,?_⟩
  have u:s.apply I=(s,(6,0,0),[]):=by
   unfold bK.apply
   exact a6 az
  rw [u]
  exact⟨_,G,[],j,ez.nil,O,(C.empty d).as⟩
 have S:gO I=true:=vo J
 refine au 4 j (aw (C.aj (b:=h) d) j) (au 1 j (aw (C.aj (b:=h) d) j) (cO (c:= #[ab I.c,ab I.s]) j j j (λ_=>by kernel_rfl) (cn 0 d j (λf w d=>cp 0 (d.bf f) j j j j j (λw d=>?_)))))
 have d:=C.whole (U:=[ab I.c,ab I.s]) d j
 have d:C o e (R f #[ab I.c,ab I.s] 316::_) w:=d
 rw [L] at d
 have d:C o e [bV aU s.now c++(g3++(M++(D++W))),R f #[ab I.c,ab I.s] 316,R g #[ab 0,ab 0,ab 0] 116,bE h I] _:=d.as
 have d:C o e [bV aU s.now c,g3,M,D,W,R f #[ab I.c,ab I.s] 316,R g #[ab 0,ab 0,ab 0] 116,bE h I] _:=d.qu
 obtain⟨n,t,ao,rfl,aq⟩:=aB.answers
 have d:C o e ([bV aU s.now c,R f #[ab I.c,ab I.s] 316,[(n,t)]]++_) _:=d.front
 have d:=d.drew
 refine bz 2 j (λw=>∃ae,C o e ([bV aU s.now c,R f #[ab I.c,ab I.s] 316,[(n,t)]]++ae) w) ⟨_,d⟩ (af 0 3 j (be 3 j a7 (aL some ao) (aV 4 j (λw⟨_,d⟩=>dc (U:=[ab I.c,ab I.s]) j j j (bq (C.aj (b:=f) d))) (aV 5 j (λw⟨_,d⟩=>ti (key:=kY) (k:=(I.c,I.s)) aq (C.aj (b:=n) d) j j) (af 6 3 j (aW 9 j (en d j j (λH w d=>?_))))))))
 have d:C o e ([bV aU s.now c,R f #[ab I.c,ab I.s] 316,[(n,t)]]++_) w:=d.front
 refine an ⟨⟨_,d⟩,?_⟩
 obtain⟨a,ac⟩:∃a,a=((a2 s.answers (I.c,I.s)).getD (0,0,0)):=⟨_,j⟩
 refine iT 37 (j5 a) j (by rw [ac];exact Fk _ _) (aW 10 j (c5 (d.bf H) j j j j j bR (λw d=>?_)))
 have d:=C.whole (U:=[ab a.1,ab a.2.1,ab a.2.2]) d j
 have d:C o e (R H #[ab a.1,ab a.2.1,ab a.2.2] 116::_) w:=d
 have d:C o e ([bV aU s.now c,R f #[ab I.c,ab I.s] 316,[(n,t)]]++_) w:=d.front
 refine an ⟨⟨_,d⟩,?_⟩
 refine af 11 1 j (bO (aT 3 j j (λK=>?_) (λK=>?_)))
 .refine bS 2 (U:=[ab a.1,ab a.2.1,ab a.2.2]) j j j (bq (C.aj (b:=H) d)) (cp 0 (d.bf g) j j j j j (λw d=>?_))
  have d:=C.whole (U:=[ab a.1,ab a.2.1,ab a.2.2]) d j
  have d:C o e (R g #[ab a.1,ab a.2.1,ab a.2.2] 116::_) w:=d
  refine bJ 1 j ⟨_,dp results140 j j j j d.bN,?_⟩
  obtain⟨F,aa⟩:∃F,a2 s.answers (I.c,I.s)=some F:=by
   have q:=K
   rw [yM] at q
   exact g4.1 q
  have am:a=F:=by rw [ac,aa];rfl
  have u:s.apply I=(s,a,[]):=by
   unfold bK.apply
   rw [aF (by rw [S];decide),aa,am]
  rw [u]
  refine⟨_,G,[],j,ez.nil,O,?_⟩
  rw [L]
  exact C.perm (A:=[bV aU s.now c,g3,M,D,[(n,t)],[]]) (C.empty d).as (by simp)
 refine bS 4 (U:=I.cs) j j j (bq (C.aj (b:=h) d)) ?_
 have d:C o e [G,R g #[ab 0,ab 0,ab 0] 116,bE h I,R f #[ab I.c,ab I.s] 316] w:=by rw [L];exact C.perm (A:=[bV aU s.now c,g3,M,D,[(n,t)],R g #[ab 0,ab 0,ab 0] 116,bE h I,R f #[ab I.c,ab I.s] 316]) d.as (by simp)
 have ap:=Do (I:=I) O aA ak S d.ours
 refine bm 0 ap j (λr w⟨v,ah,m,T,al,ai,P⟩=>?_)
 subst T
 have d:=d.b4 P
 refine cn 3 d j (λi w d=>cp 0 (d.bf i) j j j j j (λw d=>?_))
 have d:=C.whole (U:=[ab (s.b5 I).2.1.1,ab (s.b5 I).2.1.2.1,ab (s.b5 I).2.1.2.2]) d j
 have d:C o e (R i #[ab (s.b5 I).2.1.1,ab (s.b5 I).2.1.2.1,ab (s.b5 I).2.1.2.2] 116::_) w:=d
 obtain⟨aZ,B,z,y,ag,E,rfl⟩:=ai
 have d:C o e [bV aU (s.b5 I).1.now aZ++(B++(z++(y++ag))),R i #[ab (s.b5 I).2.1.1,ab (s.b5 I).2.1.2.1,ab (s.b5 I).2.1.2.2] 116,m,R f #[ab I.c,ab I.s] 316,R g #[ab 0,ab 0,ab 0] 116,bE h I] _:=d.as
 have d:=d.qu
 obtain⟨p,V,ad,rfl,ax⟩:=E.answers
 have d:C o e ([bV aU (s.b5 I).1.now aZ,R f #[ab I.c,ab I.s] 316,R i #[ab (s.b5 I).2.1.1,ab (s.b5 I).2.1.2.1,ab (s.b5 I).2.1.2.2] 116,[(p,V)]]++_) _:=d.front
 have d:=d.drew
 refine bz 2 j (λw=>∃ae,C o e ([bV aU (s.b5 I).1.now aZ,R f #[ab I.c,ab I.s] 316,R i #[ab (s.b5 I).2.1.1,ab (s.b5 I).2.1.2.1,ab (s.b5 I).2.1.2.2] 116,[(p,V)]]++ae) w) ⟨_,d⟩ (af 0 3 j (be 3 j a7 (aL some ad) (aV 4 j (λw⟨_,d⟩=>dc (U:=[ab I.c,ab I.s]) j j j (bq (C.aj (b:=f) d))) (aV 5 j (λw⟨_,d⟩=>dc (U:=[ab (s.b5 I).2.1.1,ab (s.b5 I).2.1.2.1,ab (s.b5 I).2.1.2.2]) j j j (bq (C.aj (b:=i) d))) (dy 6 j (jt (key:=kY) (k:=(I.c,I.s)) ax (d.to [(p,V)]) j j j j (λx w Q d=>?_)))))))
 have Q:cf kY x (nH (cj (s.b5 I).1.answers (I.c,I.s) (s.b5 I).2.1)):=by
  unfold nH
  rw [<-va]
  exact Q
 have d:C o e [bV aU (s.b5 I).1.now aZ,B,z,y,[(p,x)],R i #[ab (s.b5 I).2.1.1,ab (s.b5 I).2.1.2.1,ab (s.b5 I).2.1.2.2] 116,m,R f #[ab I.c,ab I.s] 316,R g #[ab 0,ab 0,ab 0] 116,bE h I] w:=d.as
 refine an (cX (bS 2 (U:=[ab (s.b5 I).2.1.1,ab (s.b5 I).2.1.2.1,ab (s.b5 I).2.1.2.2]) j j j (bq (C.aj (b:=i) d)) (cp 1 (d.bf g) j j j j j (λw d=>?_))))
 have d:=C.whole (U:=[ab (s.b5 I).2.1.1,ab (s.b5 I).2.1.2.1,ab (s.b5 I).2.1.2.2]) d j
 have d:C o e (R g #[ab (s.b5 I).2.1.1,ab (s.b5 I).2.1.2.1,ab (s.b5 I).2.1.2.2] 116::_) w:=d
 refine bJ 1 j ⟨_,dp results140 j j j j d.bN,?_⟩
 have ay:a2 s.answers (I.c,I.s)=none:=by
  have q:=K
  rw [yM] at q
  cases aC:a2 s.answers (I.c,I.s) with
  |none=>rfl
  |some _=>rw [aC] at q;cases q
 have u:s.apply I=({(s.b5 I).1 with answers:=cj (s.b5 I).1.answers (I.c,I.s) (s.b5 I).2.1},(s.b5 I).2.1,(s.b5 I).2.2):=by
  unfold bK.apply
  rw [aF (by rw [S];decide),ay]
 rw [u]
 have d:C o e [bV aU (s.b5 I).1.now aZ,B,z,y,[(p,x)],m] w:=d.as
 exact⟨v,_,m,j,al,⟨aZ,B,z,y,[(p,x)],⟨E.l,E.marks,E.fv,⟨p,x,ad,j,Q⟩⟩,j⟩,d.yp⟩
theorem sg{α:Type}:∀{m:List (Int×α)}{k:Int}{v:α},k∈m.map Prod.fst->(cj m k v).map Prod.fst=m.map Prod.fst
 |[],_,_,h=>by simp at h
 |(J,u)::r,k,v,h=>by
  simp only [cj]
  split
  .rename_i he;simp [he]
  .rename_i a
   simp only [jO]
   rw [sg (by
    rcases gd.1 (show k∈J::r.map Prod.fst from h) with h|h
    ·exact absurd h.symm a
    ·exact h)]
theorem Fl{α:Type}{m:List (Int×α)}{k:Int}{a:α}(h:a2 m k=some a):k∈m.map Prod.fst:=dT.2 ⟨_,hN h,j⟩
theorem du.ok.shut{now:Int}{p:du}(h:p.ok now):p.shut.ok now:=⟨h.b6,h.last,h.fg,λh=>by cases h⟩
theorem oX{α:Type}{P:α->Prop}{m:List (Int×α)}{k:Int}{v:α}(h:∀q∈m,P q.2)(c:P v):∀q∈cj m k v,P q.2:=λq b=>by
 rcases i0 b with a|a
 .exact h q a
 .rw [a];exact c
theorem bK.ok.fG{N:Nat}:∀(l:List (Int×du))(a:bK×List b9),a.1.cL.length<=8->(∀q∈a.1.cL,q.2.ok a.1.now)->(∀p∈l,p.1∈a.1.cL.map Prod.fst/\p.2.ok a.1.now)->((l.foldl (bK.fG N) a).1.cL.length<=8/\∀q∈(l.foldl (bK.fG N) a).1.cL,q.2.ok a.1.now)
 |[],a,f,b,_=>⟨f,b⟩
 |p::r,a,f,b,c=>by
  rw [ix]
  obtain⟨h,i⟩:=c p (by simp)
  by_cases g:p.2.df=true/\5<=(N:Int)-p.2.fg
  .have e:bK.fG N a p=(a.1.gg p.1 p.2 3,a.2++[p.2.mark p.1 3]):=a6 g
   rw [e]
   have ad:(cj a.1.cL p.1 p.2.shut).map Prod.fst=a.1.cL.map Prod.fst:=sg h
   have j:(cj a.1.cL p.1 p.2.shut).length=a.1.cL.length:=by have:=aL List.length ad;simpa using this
   exact bK.ok.fG r (a.1.gg p.1 p.2 3,_) (by show(cj _ _ _).length<=8;omega) (oX (P:=du.ok a.1.now) b i.shut) (λq d=>⟨by show q.1∈(cj _ _ _).map Prod.fst;rw [ad];exact(c q (by simp [d])).1,(c q (by simp [d])).2⟩)
  .have e:bK.fG N a p=a:=aF g
   rw [e]
   exact bK.ok.fG r a f b (λq d=>c q (by simp [d]))
theorem bK.ok.fW{N:Nat}{s:bK}(h:s.ok N):(s.fW).1.ok (N+1):=by
 have aM:=bK.pY (now:=s.now+1) (db s.cL) (({s with now:=s.now+1}:bK),[])
 have aP:0<=s.now:=h.now.1
 obtain⟨K,e⟩:∃K:Nat,(K:Int)=s.now+1:=⟨(s.now+1).toNat,by omega⟩
 have b:=bK.ok.fG (N:=K) (db s.cL) (({s with now:=s.now+1}:bK),[]) h.cL (λq c=>(h.kL q c).mono (by show s.now<=s.now+1;omega)) (λp a=>by
  have a:=gS.1 a
  exact⟨dT.2 ⟨p,a,j⟩,(h.kL p a).mono (by show s.now<=s.now+1;omega)⟩)
 rw [e] at b
 have f:(s.fW).1.marks.length<=s.marks.length+8:=ed aM.2.2.1 (by
  rw [hM]
  have:=h.cL
  show s.marks.length+_<=_
  omega)
 have d:(s.fW).1.now=s.now+1:=aM.1
 exact⟨b.1,λq c=>by rw [d];exact b.2 q c,by have:=h.marks;omega,by rw [d];exact⟨by omega,by have:=h.now.2;omega⟩⟩
theorem bK.ok.dd{N:Nat}{s:bK}(h:s.ok N)(I:bG):(s.dd I).1.ok (N+1):=by
 unfold bK.dd
 cases aP:s.named I.eh with
 |none=>
  dsimp only
  split
  .exact h.mono (eo _)
  .rename_i b
   refine⟨?_,?_,?_,?_⟩
   .have:=mi s.cL (s.cL.length:Int) (du.new I.eh)
    show(cj _ _ _).length<=8
    omega
   .exact oX (P:=du.ok s.now) h.kL ⟨⟨ik _,show(0:Int)<=100 by decide⟩,⟨ik _,show(0:Int)<=100 by decide⟩,⟨ik _,h.now.1⟩,λh=>by cases h⟩
   .have:=h.marks;simp only [ca,List.length_singleton];omega
   .exact⟨h.now.1,by have:=h.now.2;show s.now<=_;omega⟩
 |some d=>
  obtain⟨n,p⟩:=d
  have c:=(bK.yZ aP).1
  have a:p.ok s.now:=h.kL _ c
  have ad:n∈s.cL.map Prod.fst:=dT.2 ⟨_,c,j⟩
  have b:∀v,(cj s.cL n v).length<=8:=λv=>by have:=aL List.length (sg (v:=v) ad);have e:=h.cL;simp only [fy] at this;omega
  dsimp only
  split
  .exact h.mono (eo _)
  .rename_i he
   split
   .refine⟨b _,oX (P:=du.ok s.now) h.kL ⟨?_,⟨ik _,show(0:Int)<=100 by decide⟩,a.fg,λh=>by cases h⟩,?_,?_⟩
    .have:=a.b6;show 0<=p.b6+1/\p.b6+1<=100;omega
    .have:=h.marks;simp only [ca,List.length_singleton];omega
    .exact⟨h.now.1,by have:=h.now.2;show s.now<=_;omega⟩
   .refine⟨b _,oX (P:=du.ok s.now) h.kL ⟨?_,⟨ik _,show(0:Int)<=100 by decide⟩,a.fg,a.parts⟩,?_,?_⟩
    .have:=a.b6;show 0<=p.b6+1/\p.b6+1<=100;omega
    .have:=h.marks;simp only [ca,List.length_singleton];omega
    .exact⟨h.now.1,by have:=h.now.2;show s.now<=_;omega⟩
theorem du.ok.add{now:Int}{p:du}{I:bG}(h:p.ok now)(aP:0<=now):(p.add now I).1.ok now:=by
 unfold du.add
 split
 .exact⟨h.b6,h.last,h.fg,λ_=>rfl⟩
 .split
  .exact h
  .split
   .exact h
   .split
    .exact h
    .rename_i a b c d
     have:=h.last
     exact⟨h.b6,⟨by show 0<=I.t;omega,by show I.t<=100;omega⟩,⟨aP,ik _⟩,λ_=>rfl⟩
theorem bK.ok.b5{N:Nat}{s:bK}(h:s.ok N)(I:bG):(s.b5 I).1.ok (N+1):=by
 unfold bK.b5
 split
 .exact h.dd I
 .split
  .exact h.fW
  .cases a:a2 s.cL I.p with
   |none=>exact h.mono (eo _)
   |some p=>
    dsimp only
    have ad:I.p∈s.cL.map Prod.fst:=Fl a
    have c:p.ok s.now:=h.kL _ (hN a)
    have b:∀v,(cj s.cL I.p v).length<=8:=λv=>by have:=aL List.length (sg (v:=v) ad);have d:=h.cL;simp only [fy] at this;omega
    split
    .exact h.mono (eo _)
    .split
     .exact⟨b _,oX (P:=du.ok s.now) h.kL (c.add h.now.1),by have:=h.marks;show s.marks.length<=_;omega,⟨h.now.1,by have:=h.now.2;show s.now<=_;omega⟩⟩
     .unfold bK.ends
      split
      .refine⟨b _,oX (P:=du.ok s.now) h.kL c.shut,?_,⟨h.now.1,by have:=h.now.2;show s.now<=_;omega⟩⟩
       have:=h.marks
       show(s.marks++[_]).length<=_
       simp only [ca,List.length_singleton];omega
      .split<;>exact h.mono (eo _)
theorem bK.ok.apply{N:Nat}{s:bK}(h:s.ok N)(I:bG):(s.apply I).1.ok (N+1):=by
 unfold bK.apply
 split
 .exact h.mono (eo _)
 .split
  .exact h.mono (eo _)
  .exact{h.b5 I with}
theorem bK.lc(N:Nat):bK.new.ok N:=⟨ch _,(by intro q a;cases a),ch _,⟨ik _,by show(0:Int)<=N;omega⟩⟩
theorem bK.HU{N:Nat}{s:bK}(h:s.ok N):(s.fW).2.length<=8:=by
 have aM:=bK.pY (now:=s.now+1) (db s.cL) (({s with now:=s.now+1}:bK),[])
 refine ed aM.2.2.2 ?_
 rw [hM]
 have:=h.cL
 show 0+_<=8
 omega
theorem bK.un{N:Nat}{s:bK}(h:s.ok N)(I:bG):(s.b5 I).2.2.length<=8:=by
 unfold bK.b5
 split
 .unfold bK.dd
  split
  .split<;>simp
  .split
   .simp
   .split<;>simp
 .split
  .exact bK.HU h
  .split
   .simp
   .split
    .simp
    .split
     .simp
     .unfold bK.ends
      split
      .simp
      .split<;>simp
theorem bK.wP{N:Nat}{s:bK}(h:s.ok N)(I:bG):(s.apply I).2.2.length<=8:=by
 unfold bK.apply
 split
 .simp
 .split
  .simp
  .exact bK.un h I
structure bo where
 am:Int
 s:aC
 c:bK
 dt:Nat
 aH:List b9
 answers:List (Int×(Int×Int×Int))
def bo.new(am:Int):bo:=⟨am,aC.new am,bK.new,0,[],[]⟩
def fc(c s:Int):Int:=IntKind.i64.wrap (IntKind.i64.wrap (c*1048577)+s)
abbrev ord(b:List UInt8):bG:=mn (b3 b 2)
def bo.gM(x:bo)(b:List UInt8):bo:=
 if j0 (b3 b 2)=true then{x with c:=(x.c.apply (ord b)).1,answers:=cj x.answers (fc (ord b).c (ord b).s) (x.c.apply (ord b)).2.1,aH:=x.aH++(x.c.apply (ord b)).2.2.filter (·.ok)} else x
def bo.io(x:bo):bo:={((x.s.log.map Prod.fst).drop x.dt).foldl bo.gM x with dt:=x.s.log.length}
def bo.ask(g:al)(x:bo)(I:bG):bo×List aY×Int:=
 if gO I=true then(bo.io {x with s:=(x.s.eH g (jk I)).1},(x.s.eH g (jk I)).2.1,(x.s.eH g (jk I)).2.2) else(x,[],1)
def bo.take(g:al)(x:bo)(m:aY):bo×List aY:=(bo.io {x with s:=(x.s.take g m).1},(x.s.take g m).2)
def bo.tick(g:al)(x:bo):bo×List aY:=(bo.io {x with s:=(x.s.tick g).1},(x.s.tick g).2)
structure bo.ok(g:al)(N:Nat)(x:bo):Prop where
 s:x.s.ok g N
 c:x.c.ok x.dt
 aH:x.aH.length<=8*x.dt
 dt:x.dt<=x.s.log.length
 am:x.s.am=x.am
def jL(g:al)(am:Int):List Value->List b9->List Chunk->Prop
 |[],[],G=>G=[]
 |u::us,m::ms,G=>∃ah aA,G=ah++aA/\ej u [dm g m am] ah/\jL g am us ms aA
 |[],_::_,_=>False
 |_::_,[],_=>False
abbrev nI(us:List Value)(ms:List b9):List Value:=(us.zip ms).flatMap λe=>e.2.cs++[e.1]
def mB(g:al)(am:Int)(v:Value)(ms:List b9)(G:List Chunk):Prop:=∃ak H us,G=ak++H/\Row 114 5 v ms.length (nI us ms) ak/\jL g am us ms H
theorem jL.len{g:al}{am:Int}:∀{us:List Value}{ms:List b9}{G:List Chunk},jL g am us ms G->us.length=ms.length
 |[],[],_,_=>rfl
 |[],_::_,_,h=>h.elim
 |_::_,[],_,h=>h.elim
 |_::us,_::ms,_,⟨_,_,_,_,h⟩=>by simp [h.len]
theorem jL.app{g:al}{am:Int}:∀{us d:List Value}{ms c:List b9}{G a:List Chunk},jL g am us ms G->jL g am d c a->jL g am (us++d) (ms++c) (G++a)
 |[],_,[],_,_,_,h,b=>by have h:_=[]:=h;subst h;exact b
 |[],_,_::_,_,_,_,h,_=>h.elim
 |_::_,_,[],_,_,_,h,_=>h.elim
 |_::_,_,_::_,_,_,a,⟨ah,aA,rfl,e,h⟩,b=>⟨ah,aA++a,by simp [dH],e,h.app b⟩
theorem jL.one{g:al}{am:Int}{u:Value}{m:b9}{G:List Chunk}(h:ej u [dm g m am] G):jL g am [u] [m] G:=⟨G,[],by simp,h,j⟩
def nx(v:Value)(a:Int×Int×Int)(G:List Chunk):Prop:=v=j5 a/\G=[]
structure kW where
 bb:Nat
 eQ:Nat
 aH:Value
 answers:Value
abbrev pl(g:al)(x:bo)(c:kW):List Value:=[g.p,ab x.am,.pointer (some ⟨c.bb,0,none⟩),.pointer (some ⟨c.eQ,0,none⟩),ab (x.dt:Int),c.aH,c.answers]
abbrev dL(g:al)(a:Nat)(x:bo)(c:kW):List Chunk:=R a (pl g x c).toArray 64
structure BI(g:al)(x:bo)(c:kW)(bl ev c1 c4:List Chunk):Prop where
 s:ij g c.bb x.s bl
 k:kU c.eQ x.c ev
 aH:mB g x.am c.aH x.aH c1
 answers:fp 226 nx c.answers x.answers c4
def hK(g:al)(a:Nat)(x:bo)(G:List Chunk):Prop:=∃(c:kW)(bl ev c1 c4:List Chunk),BI g x c bl ev c1 c4/\G=dL g a x c++(bl++(ev++(c1++c4)))
theorem C.sq{g:al}{a:Nat}{x:bo}{c:kW}{bl ev c1 c4:List Chunk}{ae:List (List Chunk)}{o w:World}{F:List Nat}(h:C o F ((dL g a x c++(bl++(ev++(c1++c4))))::ae) w):C o F (dL g a x c::bl::ev::c1::c4::ae) w:=h.perm (by simp)
theorem C.oQ{g:al}{a:Nat}{x:bo}{c:kW}{bl ev c1 c4:List Chunk}{ae:List (List Chunk)}{o w:World}{F:List Nat}(h:C o F (dL g a x c::bl::ev::c1::c4::ae) w):C o F ((dL g a x c++(bl++(ev++(c1++c4))))::ae) w:=h.perm (by simp)
theorem Rd.from{w:World}{A:Option Addr}{us:List Value}{n c k:Nat}(h:Rd w A us)(f:Flat A)(aP:us.length=n)(ad:k<=n)(g:n<=c):Rd w (if c=k then A else A.map (·.add (k*1))) (us.drop k):=λi v d=>by
 rw [lx] at d
 have l:k+i<us.length:=(fa.1 d).1
 rw [aF (by omega)]
 obtain⟨a,e,h1⟩:=h (k+i) v d
 rcases f with rfl|⟨b,I,rfl⟩
 .cases e
 .cases e
  refine⟨_,j,?_⟩
  rw [add_lit] at h1
  show w.cell? (((⟨b,I,none⟩:Addr).add (k*1)).add i)=some v
  rw [gT,add_lit,add_lit,ru]
  exact h1
theorem bo.B4(x:bo)(b:List UInt8):(x.gM b).s=x.s/\(x.gM b).am=x.am/\(x.gM b).dt=x.dt:=by
 unfold bo.gM
 split<;>exact⟨j,j,j⟩
theorem bo.p1:∀(l:List (List UInt8))(x:bo),(l.foldl bo.gM x).s=x.s/\(l.foldl bo.gM x).am=x.am/\(l.foldl bo.gM x).dt=x.dt
 |[],_=>⟨j,j,j⟩
 |b::r,x=>by
  rw [ix]
  have a:=bo.p1 r (x.gM b)
  have c:=x.B4 b
  exact⟨a.1.trans c.1,a.2.1.trans c.2.1,a.2.2.trans c.2.2⟩
theorem bo.tV:∀(l:List (List UInt8))(x:bo)(N:Nat),x.c.ok N->x.aH.length<=8*N->(l.foldl bo.gM x).c.ok (N+l.length)/\(l.foldl bo.gM x).aH.length<=8*(N+l.length)
 |[],_,_,h,a=>⟨h,a⟩
 |b::r,x,N,h,a=>by
  rw [ix,ep]
  have d:(x.gM b).c.ok (N+1)/\(x.gM b).aH.length<=8*(N+1):=by
   unfold bo.gM
   split
   .refine⟨h.apply _,?_⟩
    show(x.aH++_).length<=_
    rw [ca]
    have f:=bK.wP h (ord b)
    have g:=ol (·.ok) (x.c.apply (ord b)).2.2
    omega
   .exact⟨h.mono (eo _),by omega⟩
  have f:=bo.tV r (x.gM b) (N+1) d.1 d.2
  have e:N+(r.length+1)=N+1+r.length:=by omega
  rw [e]
  exact f
theorem bo.ok.io{g:al}{N:Nat}{x:bo}(aM:x.s.ok g N)(h:x.c.ok x.dt)(i:x.aH.length<=8*x.dt)(m:x.dt<=x.s.log.length)(hm:x.s.am=x.am):x.io.ok g N:=by
 obtain⟨a,f,l⟩:=bo.p1 ((x.s.log.map Prod.fst).drop x.dt) x
 obtain⟨b,d⟩:=bo.tV ((x.s.log.map Prod.fst).drop x.dt) x x.dt h i
 have e:x.dt+((x.s.log.map Prod.fst).drop x.dt).length=x.s.log.length:=by rw [iP,fy];omega
 rw [e] at b d
 unfold bo.io
 obtain⟨y,k⟩:∃y,y=((x.s.log.map Prod.fst).drop x.dt).foldl bo.gM x:=⟨_,j⟩
 rw [<-k] at a f b d⊢
 exact⟨by show y.s.ok g N;rw [a];exact aM,b,d,by show x.s.log.length<=y.s.log.length;rw [a];exact cB _,by show y.s.am=y.am;rw [a,f];exact hm⟩
theorem yq{o:World}{c s:Int}:Calls prog 108 #[ab c,ab s] o (aS λr w=>r=ab (fc c s)/\w=o):=by
 refine a1 [ab c,ab s] func108 ntmps108 results108 ?_
 refine ao 10 j j ?_
 exact⟨j,j⟩
theorem vi{o:World}{g:al}{am:Int}:Calls prog 29 #[g.p,ab am] o (aS λr w=>∃i G,r=Z i/\hK g i (bo.new am) G/\C o [] [G] w):=by
 have a:Own [] o:=C.start o
 refine a1 [g.p,ab am] func29 ntmps29 results29 (bm 9 (FA (g:=g) (am:=am)) j (λr w⟨bb,bl,e,aM,d⟩=>?_))
 subst e
 have a:=a.aN d
 refine bm 0 Fu j (λr w⟨eQ,ev,e,ad,d⟩=>?_)
 subst e
 have a:=a.aN d
 refine bm 0 Fz j (λr w⟨b,h,e,k,d⟩=>?_)
 subst e
 have a:=a.aN d
 refine cO (c:=(pl g (bo.new am) (⟨bb,eQ,.slice none 0 0,Z b⟩:kW)).toArray) j j j (λ_=>by kernel_rfl) (bP 0 a j j (λf w a=>ao 1 j j ?_))
 have a:C o [] (dL g f (bo.new am) (⟨bb,eQ,.slice none 0 0,Z b⟩:kW)::_) w:=a
 have a:C o [] [dL g f (bo.new am) (⟨bb,eQ,.slice none 0 0,Z b⟩:kW),bl,ev,[],ay 226 b h (.map #[] 0)] w:=C.perm (A:=[dL g f (bo.new am) (⟨bb,eQ,.slice none 0 0,Z b⟩:kW),bl,ev,ay 226 b h (.map #[] 0)]) a.as (by simp)
 exact⟨f,_,j,⟨(⟨bb,eQ,.slice none 0 0,Z b⟩:kW),bl,ev,[],_,⟨aM,ad,⟨[],[],[],j,Row.nil _ _,j⟩,fp.new k⟩,j⟩,a.oQ⟩
theorem FJ{b:Bool}(h:((if b=true then(0:Int) else 2) !=0)=true):b=false:=by cases b<;>simp_all
theorem FK{b:Bool}(h:((if b=true then(0:Int) else 2) !=0)=false):b=true:=by cases b<;>simp_all
theorem xN{α:Type}{p:α->Bool}{l:List α}{J:Nat}(h:J<l.length):(l.take (J+1)).filter p=(l.take J).filter p++(if p l[J]=true then [l[J]] else []):=by
 rw [fF h,mP]
 by_cases a:p l[J]=true
 .rw [a6 a];simp [a]
 .rw [aF a];simp [a]
theorem tU{o:World}{g:al}{d:Nat}{x:bo}{G:List Chunk}(bZ:hK g d x G){N:Nat}(aM:x.s.ok g N)(b7:x.c.ok x.dt)(cw:x.aH.length<=8*x.dt)(cH:x.dt<=x.s.log.length)(bA:g.at o)(bC:g.ok)(a0:g.off (av [G]))(a:Own [G] o):Calls prog 79 #[Z d] o (aS λr w=>r= .tuple #[]/\∃ah,hK g d x.io ah/\C o (av [G]) [ah] w):=by
 obtain⟨c,bl,ev,c1,c4,aG,rfl⟩:=bZ
 obtain⟨z,bd⟩:∃z,z=av [dL g d x c++(bl++(ev++(c1++c4)))]:=⟨_,j⟩
 rw [<-bd] at a0⊢
 have a:C o z [dL g d x c++(bl++(ev++(c1++c4)))] o:=bd▸a
 have a:=a.sq
 have cM:=aM.log
 have cg:(x.s.log.map Prod.fst).length=x.s.log.length:=fy _
 refine a1 [Z d] func79 ntmps79 results79 ?_
 refine au 5 j (aw (C.aj (b:=d) a) j) ?_
 obtain⟨cx,bP,cD,cF,cE,ct,bi⟩:=aG.s
 have Q:=yF (bb:=c.bb) (g:=g) (s:=x.s) (c:=cx) (L:=bP) (by have h:=a.holds (G:=bl) (by simp);rw [bi] at h;exact h.left.head) ct.log (by have h:=a.holds (G:=bl) (by simp);rw [bi] at h;exact h.right.left) aM
 refine bm 0 Q j (λr w⟨cz,bW,R⟩=>?_)
 obtain⟨M,K,us,rfl,bk,a9⟩:=bW
 obtain⟨aq,ax,rfl,bY,cG⟩:=bk.form
 have a:=a.aN R
 have a:C o z [dL g d x c,bl,ev,c1,c4,M,K] w:=C.perm (A:=[dL g d x c,bl,ev,c1,c4,M++K]) a.as (by simp)
 have cu:us.length=(x.s.log.map Prod.fst).length:=a9.len
 refine au 8 j (aw (C.aj (b:=d) a) j) ?_
 refine n9 j j j j (show x.dt<=_ by omega) ?_
 refine cY 3 j (cA:=Nat×Value×List Chunk×List Chunk×List Chunk) (λk=>[(0,Z d),(2,.slice aq (x.s.log.map Prod.fst).length ax),(23,.slice (if ax=x.dt then aq else aq.map (·.add (x.dt*1))) ((x.s.log.map Prod.fst).length-x.dt) (ax-x.dt)),(24,.int .i64 ((x.s.log.map Prod.fst).length-x.dt:Nat)),(25,.int .i64 (k.1:Nat))])
  (λk w=>k.1<=(x.s.log.map Prod.fst).length-x.dt/\kU c.eQ ((((x.s.log.map Prod.fst).drop x.dt).take k.1).foldl bo.gM x).c k.2.2.1/\mB g x.am k.2.1 ((((x.s.log.map Prod.fst).drop x.dt).take k.1).foldl bo.gM x).aH k.2.2.2.1/\fp 226 nx c.answers ((((x.s.log.map Prod.fst).drop x.dt).take k.1).foldl bo.gM x).answers k.2.2.2.2/\C o z [dL g d x {c with aH:=k.2.1},bl,k.2.2.1,k.2.2.2.1,k.2.2.2.2,M,K] w) (λk=>(x.s.log.map Prod.fst).length-x.dt-k.1) (0,c.aH,ev,c1,c4) ⟨j,j,j,j,j,ba⟩ ⟨ch _,aG.k,aG.aH,aG.answers,a⟩ ?_
 rintro⟨i,B,ev,c1,c4⟩ w ⟨cb,ad,V,aD,a⟩
 dsimp only at cb ad V aD a⊢
 have aI:=bo.tV (((x.s.log.map Prod.fst).drop x.dt).take i) x x.dt b7 cw
 rw [show x.dt+(((x.s.log.map Prod.fst).drop x.dt).take i).length=x.dt+i by rw [hi,iP];omega] at aI
 have aZ:∀(ak:i<(x.s.log.map Prod.fst).length-x.dt),((((x.s.log.map Prod.fst).drop x.dt).take (i+1)).foldl bo.gM x)=((((x.s.log.map Prod.fst).drop x.dt).take i).foldl bo.gM x).gM ((x.s.log.map Prod.fst)[x.dt+i]'(by omega)):=λak=>by
  rw [fF (by rw [iP];omega),nC,List.getElem_drop]
  rfl
 obtain⟨y,bL⟩:∃y,y=((((x.s.log.map Prod.fst).drop x.dt).take i).foldl bo.gM x):=⟨_,j⟩
 rw [<-bL] at ad V aD aI aZ
 refine aT 4 j j (λaU=>?_) (λaU=>?_)
 .have ak:i<(x.s.log.map Prod.fst).length-x.dt:=by have:=br aU;omega
  obtain⟨_,_,e,_,_,cr,b8⟩:=bk.read (a.holds (G:=M) (by simp))
  cases e
  have cq:=Rd.from cr b8 cu (show x.dt<=(x.s.log.map Prod.fst).length by omega) bY
  obtain⟨b,aL⟩:∃b,b=(x.s.log.map Prod.fst)[x.dt+i]'(by omega):=⟨_,j⟩
  obtain⟨bM,ci,bJ,cd,cL,bI⟩:=a9.read (a.holds (G:=K) (by simp)) (x.dt+i) (by omega)
  rw [<-aL] at bJ cd bI
  have cJ:b.length<=200:=by
   obtain⟨e,he,bV⟩:=dT.1 (show b∈(x.s.log.map Prod.fst) by rw [aL];exact ek _)
   rw [<-bV];exact(aM.nd e he).1
  refine ar 5 j (fL j j j j cq (v:=.slice bM b.length ci) (by rw [gT,lx];exact bJ) ak (λbQ a5 bv=>?_))
  refine au 0 j bv ?_
  have Q:=Di (c:=ci) bI (by omega)
  refine bm 4 Q j (λr w⟨W,R⟩=>?_)
  obtain⟨D,bD⟩:∃D,D=(if j0 (b3 b 2) then mn (b3 b 2) else c9):=⟨_,j⟩
  rw [<-bD] at W
  subst W
  have a:=a.aN R
  have a:C o z [dL g d x {c with aH:=B},bl,ev,c1,c4,M,K] w:=a.as
  refine cn 3 a j (λE w a=>?_)
  have a:C o z (bE E c9::_) w:=a
  refine cp 0 (a.bf E) j j j j j (λw a=>?_)
  have a:=C.whole (U:=D.cs) a j
  have a:C o z (bE E D::_) w:=a
  refine aT 6 j j (λeM=>?_) (λeM=>?_)
  .refine bt 2 j j j (c2 i (by omega)) ?_
   refine bX 1 j ?_
   have b6:j0 (b3 b 2)=false:=FJ eM
   have a2:y.gM b=y:=aF (by rw [b6];decide)
   refine⟨(i+1,B,ev,c1,c4),⟨j,j,j,j,j,ba⟩,⟨ak,?_⟩,by dsimp only;omega⟩
   dsimp only
   rw [aZ ak,<-aL,a2]
   exact⟨ad,V,aD,a.as⟩
  have a:C o z ([dL g d x {c with aH:=B},bE E D]++_) _:=a.front
  have a:=a.drew
  have bs:j0 (b3 b 2)=true:=FK eM
  have cm:D=mn (b3 b 2):=by rw [bD,a6 bs]
  refine bz 2 j (λw=>∃ae,C o z ([dL g d x {c with aH:=B},bE E D]++ae) w) ⟨_,a⟩ ?_
  refine af 0 3 j ?_
  refine be 3 j a7 j ?_
  refine aV 4 j (λw⟨_,a⟩=>dc (U:=D.cs) j j j (bq (C.aj (b:=E) a))) ?_
  refine aJ 5 9 j j ?_ ?_
  have Q:=wO (I:=D) ad (N:=x.dt+i) aI.1 (by omega) (a.ours (cI:=[ev]))
  refine cN j j j Q (λr w⟨cy,O,P,W,az,bB,R⟩=>?_)
  obtain⟨a4,iq,rfl,_,_⟩:=az.form
  obtain⟨ms,aE⟩:∃ms,ms=(y.c.apply D).2.2:=⟨_,j⟩
  obtain⟨q,aO⟩:∃q,q=(y.c.apply D).2.1:=⟨_,j⟩
  rw [<-aE] at az W
  rw [<-aO] at W
  subst W
  have a:=a.b4 R
  have a:C o z ([dL g d x {c with aH:=B},bE E D]++_) w:=a.front
  refine an ⟨⟨_,a⟩,?_⟩
  refine af 6 3 j ?_
  refine aW 9 j ?_
  refine en a j j (λT w a=>?_)
  have a:C o z ([dL g d x {c with aH:=B},bE E D]++_) w:=a.front
  refine an ⟨⟨_,a⟩,?_⟩
  rotate_left
  refine en a j j (λT w a=>?_)
  have a:C o z ([dL g d x {c with aH:=B},bE E D]++_) w:=a.front
  refine an ⟨⟨_,a⟩,?_⟩
  refine aW 5 j ?_
  have Q:=wO (I:=D) ad (N:=x.dt+i) aI.1 (by omega) (a.ours (cI:=[ev]))
  refine cN j j j Q (λr w⟨cy,O,P,W,az,bB,R⟩=>?_)
  obtain⟨a4,iq,rfl,_,_⟩:=az.form
  obtain⟨ms,aE⟩:∃ms,ms=(y.c.apply D).2.2:=⟨_,j⟩
  obtain⟨q,aO⟩:∃q,q=(y.c.apply D).2.1:=⟨_,j⟩
  rw [<-aE] at az W
  rw [<-aO] at W
  subst W
  have a:=a.b4 R
  have a:C o z ([dL g d x {c with aH:=B},bE E D]++_) w:=a.front
  refine an ⟨⟨_,a⟩,?_⟩
  refine af 6 3 j ?_
  rotate_left
  all_goals
   refine aW 10 j ?_
   refine c5 (a.bf T) j j j j j bR (λw a=>?_)
   have a:=C.whole (U:=[ab q.1,ab q.2.1,ab q.2.2]) a j
   have a:C o z ([(T,.cells #[ab q.1,ab q.2.1,ab q.2.2] 116 (0,0))]::_) w:=a
   have a:C o z ([dL g d x {c with aH:=B},bE E D]++_) w:=a.front
   refine an ⟨⟨_,a⟩,?_⟩
   refine af 11 1 j ?_
   refine bO ?_
   have a:C o z ([dL g d x {c with aH:=B},bE E D,[(T,.cells #[ab q.1,ab q.2.1,ab q.2.2] 116 (0,0))]]++_) _:=a.front
   have a:=a.drew
   refine bz 1 j (λw=>∃ae,C o z ([dL g d x {c with aH:=B},bE E D,[(T,.cells #[ab q.1,ab q.2.1,ab q.2.2] 116 (0,0))]]++ae) w) ⟨_,a⟩ ?_
   refine af 0 3 j ?_
   refine be 3 j a7 j ?_
   refine af 4 1 j ?_
   refine be 5 j a7 j ?_
   refine af 6 1 j ?_
   refine be 7 j a7 j ?_
   refine aV 9 j (λw⟨_,a⟩=>dc (U:=[ab q.1,ab q.2.1,ab q.2.2]) j j j (bq (C.aj (b:=T) a))) ?_
   refine aW 8 j ?_
   refine bF j j j (yq (c:=D.c) (s:=D.s)) (λw hw=>?_)
   have hw:=hw.symm
   subst hw
   refine an ⟨⟨_,a⟩,?_⟩
   refine aW 10 j ?_
   obtain⟨X,ag,b1,cR,H,bu,cl,cv,rfl⟩:=aD
   have a:C o z [dL g d x {c with aH:=B},bE E D,[(T,.cells #[ab q.1,ab q.2.1,ab q.2.2] 116 (0,0))],bl,O,c1,ay 226 X ag b1,H,M,K,P] _:=C.perm (A:=[dL g d x {c with aH:=B},bE E D,[(T,.cells #[ab q.1,ab q.2.1,ab q.2.2] 116 (0,0))],bl,O,c1,ay 226 X ag b1++H,M,K,P]) a.as (by simp)
   have Q:=G5 (k:=fc D.c D.s) (l:=[ab q.1,ab q.2.1,ab q.2.2]) j j (a.ours (cI:=[ay 226 X ag b1])) cl
   refine b2 48 (Z X) j bu ?_
   refine bF j j j Q (λw⟨aA,ck,R⟩=>?_)
   have a:=a.b4 R
   obtain⟨aB,bN,a3,bG⟩:=cv.put (k:=fc D.c D.s) (show nx (j5 q) q [] from⟨j,j⟩)
   rw [g6] at bG
   have a8:fp 226 nx c.answers (cj y.answers (fc D.c D.s) q) (ay 226 X ag aA++aB):=⟨X,ag,aA,_,aB,bu,ck,a3,j⟩
   have a:C o z [dL g d x {c with aH:=B},bE E D,[(T,.cells #[ab q.1,ab q.2.1,ab q.2.2] 116 (0,0))],bl,O,c1,ay 226 X ag aA,M,K,P,H] w:=a.as
   have a:C o z [dL g d x {c with aH:=B},bE E D,[(T,.cells #[ab q.1,ab q.2.1,ab q.2.2] 116 (0,0))],bl,O,c1,ay 226 X ag aA,M,K,P,bN,aB] w:=a.perm (by
    simp only [kd,mQ,g6]
    exact .append_left _ (.append_left _ (.append_left _ (.append_left _ (.append_left _ (.append_left _ (.append_left _ (.append_left _ (.append_left _ (.append_left _ bG))))))))))
   obtain⟨Y,bh⟩:∃Y,Y=ay 226 X ag aA++aB:=⟨_,j⟩
   rw [<-bh] at a8
   have a:C o z [dL g d x {c with aH:=B},bE E D,[(T,.cells #[ab q.1,ab q.2.1,ab q.2.2] 116 (0,0))],bl,O,c1,Y,M,K,P] w:=C.perm (A:=[dL g d x {c with aH:=B},bE E D,[(T,.cells #[ab q.1,ab q.2.1,ab q.2.2] 116 (0,0))],bl,O,c1,ay 226 X ag aA,aB,M,K,P]) a.as (by rw [bh];simp)
   refine an ⟨⟨_,a⟩,?_⟩
   refine bO ?_
   have cO:ms.length<=8:=by rw [aE];exact bK.wP aI.1 D
   have bx:∀e∈ms,(b9.cs e).length=4:=λ_ _=>rfl
   refine cY 6 j (cA:=Nat×Value×List Chunk) (λk=>[(0,Z d),(2,.slice aq (x.s.log.map Prod.fst).length ax),(23,.slice (if ax=x.dt then aq else aq.map (·.add (x.dt*1))) ((x.s.log.map Prod.fst).length-x.dt) (ax-x.dt)),(24,.int .i64 ((x.s.log.map Prod.fst).length-x.dt:Nat)),(25,.int .i64 (i:Nat)),(56,.slice a4 ms.length iq),(57,.int .i64 (ms.length:Nat)),(58,.int .i64 (k.1:Nat))])
    (λk w=>k.1<=ms.length/\mB g x.am k.2.1 (y.aH++(ms.take k.1).filter (·.ok)) k.2.2/\C o z [dL g d x {c with aH:=k.2.1},bl,O,k.2.2,Y,M,K,P] w) (λk=>ms.length-k.1) (0,B,c1) ⟨j,j,j,j,j,j,j,j,ba⟩ ⟨ch _,by simpa using V,a.as⟩ ?_
   rintro⟨J,B,c1⟩ w ⟨ce,V,a⟩
   dsimp only at ce V a⊢
   refine aT 4 j j (λaX=>?_) (λaX=>?_)
   .refine ar 5 j ?_
    have ap:J<ms.length:=by have:=br aX;omega
    obtain⟨_,_,e,_,_,bH,_⟩:=az.read (a.holds (G:=P) (by simp))
    cases e
    refine fL j j j j bH (v:=ab ms[J].k) (iC (f:=b9.cs) (J:=0) ms bx J ap (by decide) j) ap (λbQ a5 bv=>?_)
    subst a5
    refine bS 0 (U:=ms[J].cs) j j j (jE (f:=b9.cs) bH bx J ap) ?_
    refine cn 0 a j (λF w a=>?_)
    refine cp 0 (a.bf F) j j j j j (λw a=>?_)
    have a:=C.whole (U:=ms[J].cs) a j
    have a:C o z ([(F,.cells ms[J].cs.toArray 103 (0,0))]::_) w:=a
    have a:C o z ([dL g d x {c with aH:=B},[(F,.cells ms[J].cs.toArray 103 (0,0))]]++_) _:=a.front
    have a:=a.drew
    refine bz 1 j (λw=>∃ae,C o z ([dL g d x {c with aH:=B},[(F,.cells ms[J].cs.toArray 103 (0,0))]]++ae) w) ⟨_,a⟩ ?_
    refine af 0 3 j ?_
    refine be 3 j a7 j ?_
    refine aV 4 j (λw⟨_,a⟩=>dc (U:=ms[J].cs) j j j (bq (C.aj (b:=F) a))) ?_
    refine af 5 3 j ?_
    refine be 8 j a7 j ?_
    refine aJ 9 13 j j ?_ ?_
    have Q:=se (bA.st a a0) bC (m:=ms[J]) (f:=x.am)
    refine bF j j j Q (λw R=>?_)
    have a:=a.aN R
    have a:C o z ([dL g d x {c with aH:=B},[(F,.cells ms[J].cs.toArray 103 (0,0))]]++_) w:=a.front
    refine an ⟨⟨_,a⟩,?_⟩
    refine af 10 3 j ?_
    refine aW 13 j ?_
    refine en a j j (λS w a=>?_)
    have a:C o z ([(S,.cells lT.cs.toArray 108 (0,0))]::_) w:=a
    have a:C o z ([dL g d x {c with aH:=B},[(F,.cells ms[J].cs.toArray 103 (0,0))]]++_) w:=a.front
    refine an ⟨⟨_,a⟩,?_⟩
    rotate_left
    refine en a j j (λS w a=>?_)
    have a:C o z ([(S,.cells lT.cs.toArray 108 (0,0))]::_) w:=a
    have a:C o z ([dL g d x {c with aH:=B},[(F,.cells ms[J].cs.toArray 103 (0,0))]]++_) w:=a.front
    refine an ⟨⟨_,a⟩,?_⟩
    refine aW 9 j ?_
    have Q:=se (bA.st a a0) bC (m:=ms[J]) (f:=x.am)
    refine bF j j j Q (λw R=>?_)
    have a:=a.aN R
    have a:C o z ([dL g d x {c with aH:=B},[(F,.cells ms[J].cs.toArray 103 (0,0))]]++_) w:=a.front
    refine an ⟨⟨_,a⟩,?_⟩
    refine af 10 3 j ?_
    rotate_left
    all_goals
     refine aW 14 j ?_
     refine c5 (a.bf S) j j j (by simpa using(dm g ms[J] x.am).one) (by rw [List.size_toArray];exact(dm g ms[J] x.am).len (iY g ms[J] x.am)) bR (λw a=>?_)
     have a:=C.whole (U:=(dm g ms[J] x.am).cs) a (by rw [(dm g ms[J] x.am).len (iY g ms[J] x.am)];rfl)
     have a:C o z ([(S,.cells (dm g ms[J] x.am).cs.toArray 108 (0,0))]::_) w:=a
     have a:C o z ([dL g d x {c with aH:=B},[(F,.cells ms[J].cs.toArray 103 (0,0))]]++_) w:=a.front
     refine an ⟨⟨_,a⟩,?_⟩
     refine af 15 1 j ?_
     refine bO ?_
     refine aT 3 j j (λaY=>?_) (λaY=>?_)
     .have co:ms[J].ok=true:=aY
      have cQ:((dm g ms[J] x.am)).ok:=(iY g ms[J] x.am)
      obtain⟨aR,ai,U,rfl,b0,bc⟩:=V
      have cK:=ol (·.ok) (ms.take J)
      have cP:(ms.take J).length<=8:=by rw [hi];omega
      have a:C o z [dL g d x {c with aH:=B},[(F,.cells ms[J].cs.toArray 103 (0,0))],[(S,.cells (dm g ms[J] x.am).cs.toArray 108 (0,0))],bl,O,aR,ai,Y,M,K,P] _:=C.perm (A:=[dL g d x {c with aH:=B},[(F,.cells ms[J].cs.toArray 103 (0,0))],[(S,.cells (dm g ms[J] x.am).cs.toArray 108 (0,0))],bl,O,aR++ai,Y,M,K,P]) a.as (by simp)
      have a:=a.drew
      refine bz 0 j (λw=>∃ae,C o z ([dL g d x {c with aH:=B},[(F,.cells ms[J].cs.toArray 103 (0,0))],[(S,.cells (dm g ms[J] x.am).cs.toArray 108 (0,0))]]++ae) w) ⟨_,a⟩ ?_
      refine af 0 4 j ?_
      refine be 4 j a7 j ?_
      refine aV 5 j (λw⟨_,a⟩=>dc (U:=ms[J].cs) j j j (bq (C.aj (b:=F) a))) ?_
      refine aV 6 j (λw⟨_,a⟩=>dc (U:=(dm g ms[J] x.am).cs) j j ((dm g ms[J] x.am).len (iY g ms[J] x.am)) (bq (C.aj (b:=S) a))) ?_
      refine aW 7 j ?_
      refine gv (U:=(dm g ms[J] x.am).cs) a j j j ((dm g ms[J] x.am).len (iY g ms[J] x.am)) (by decide) (by decide) (λaa w a=>?_)
      have a:C o z ([dL g d x {c with aH:=B},[(F,.cells ms[J].cs.toArray 103 (0,0))],[(S,.cells (dm g ms[J] x.am).cs.toArray 108 (0,0))]]++_) w:=a.front
      refine an ⟨⟨_,a⟩,?_⟩
      refine aV 8 j (λw _=>e0 (c:=([ab ms[J].k,ab ms[J].p,ab ms[J].e,ab ms[J].t,Value.slice (some ⟨aa,0,none⟩) 1 1]).toArray) j (λ_=>by kernel_rfl)) ?_
      refine aW 9 j ?_
      refine gv (U:=([ab ms[J].k,ab ms[J].p,ab ms[J].e,ab ms[J].t,Value.slice (some ⟨aa,0,none⟩) 1 1])) a j j j j bR bR (λbT w a=>?_)
      have aP:=bq (C.aj (b:=bT) a)
      have a:C o z ([dL g d x {c with aH:=B},[(F,.cells ms[J].cs.toArray 103 (0,0))],[(S,.cells (dm g ms[J] x.am).cs.toArray 108 (0,0))]]++_) w:=a.front
      refine an ⟨⟨_,a⟩,?_⟩
      refine aW 10 j ?_
      refine eK (a.to aR) b0 j j (by decide) j j j (m:=1) (news:=([ab ms[J].k,ab ms[J].p,ab ms[J].e,ab ms[J].t,Value.slice (some ⟨aa,0,none⟩) 1 1])) j aP (by intro u hu;simp [b9.cs] at hu;rcases hu with rfl|rfl|rfl|rfl|rfl<;>rfl) (by simp only [List.length_append];omega) (by unfold maxLen;simp only [List.length_append];omega) (λaK aC w bj a=>?_)
      have a:C o z ([dL g d x {c with aH:=B},[(F,.cells ms[J].cs.toArray 103 (0,0))],[(S,.cells (dm g ms[J] x.am).cs.toArray 108 (0,0))]]++_) w:=a.front
      refine an ⟨⟨_,a⟩,?_⟩
      refine af 11 2 j ?_
      refine dy 13 j ?_
      refine cC (a.bf d) j j j bj.one bR (λw a=>?_)
      have a:C o z (dL g d x {c with aH:=aK}::_) w:=a
      obtain⟨ac,bg⟩:∃ac:List Chunk,ac=[(aa,.cells (dm g ms[J] x.am).cs.toArray 108 (0,0))]:=⟨_,j⟩
      rw [<-bg] at a
      have b5:ej (.slice (some ⟨aa,0,none⟩) 1 1) [(dm g ms[J] x.am)] ac:=by
       rw [bg]
       have:=Row.full (e:=108) (size:=68) (b:=aa) (n:=1) (cur:=(dm g ms[J] x.am).cs.toArray) (by unfold maxLen;omega) (by rw [List.size_toArray,(dm g ms[J] x.am).len (iY g ms[J] x.am)])
       show Row 108 68 _ 1 (vcs [(dm g ms[J] x.am)]) _
       rw [show vcs [(dm g ms[J] x.am)]=(dm g ms[J] x.am).cs by simp [vcs]]
       simpa using this
      have a3:mB g x.am aK (y.aH++(ms.take J).filter (·.ok)++[ms[J]]) (aC++(ai++ac)):=by
       refine⟨aC,ai++ac,U++[.slice (some ⟨aa,0,none⟩) 1 1],j,?_,bc.app (jL.one b5)⟩
       rw [ca,List.length_singleton]
       have e:nI (U++[.slice (some ⟨aa,0,none⟩) 1 1]) (y.aH++(ms.take J).filter (·.ok)++[ms[J]])=nI U (y.aH++(ms.take J).filter (·.ok))++([ab ms[J].k,ab ms[J].p,ab ms[J].e,ab ms[J].t,Value.slice (some ⟨aa,0,none⟩) 1 1]):=by
        unfold nI
        rw [List.zip_append bc.len,List.flatMap_append]
        simp
       rw [e]
       exact bj
      have a:C o z [dL g d x {c with aH:=aK},bl,O,aC++(ai++ac),Y,M,K,P] w:=C.perm (A:=[dL g d x {c with aH:=aK},bl,O,aC,ai,ac,Y,M,K,P]) a.as (by simp)
      refine an ?_
      refine cX ?_
      refine bt 1 j j j (c2 J (by omega)) ?_
      refine bX 1 j ?_
      refine⟨(J+1,aK,aC++(ai++ac)),⟨j,j,j,j,j,j,j,j,ba⟩,⟨ap,?_,a⟩,by dsimp only;omega⟩
      dsimp only
      rw [xN ap,a6 co,<-dH]
      exact a3
     refine bt 2 j j j (c2 J (by omega)) ?_
     refine bX 1 j ?_
     refine⟨(J+1,B,c1),⟨j,j,j,j,j,j,j,j,ba⟩,⟨ap,?_,a.as⟩,by dsimp only;omega⟩
     dsimp only
     rw [xN ap,aF (by rw [show ms[J].ok=false from aY];decide),g6]
     exact V
   refine bt 2 j j j (c2 i (by omega)) ?_
   refine bX 1 j ?_
   have cf:J=ms.length:=by have:=bw aX;omega
   rw [cf,gy] at V
   have a2:y.gM b={y with c:=(y.c.apply D).1,answers:=cj y.answers (fc D.c D.s) q,aH:=y.aH++ms.filter (·.ok)}:=by
    rw [aE,aO,cm]
    exact a6 bs
   refine⟨(i+1,B,O,c1,Y),⟨j,j,j,j,j,ba⟩,⟨ak,?_⟩,by dsimp only;omega⟩
   dsimp only
   rw [aZ ak,<-aL,a2]
   exact⟨bB,V,a8,a.as⟩
 refine dD 7 (a.bf d) j j j j (λw a=>?_)
 have a:C o z (dL g d {x with dt:=(x.s.log.map Prod.fst).length} {c with aH:=B}::_) w:=a
 refine ao 0 j j ?_
 have cc:i=(x.s.log.map Prod.fst).length-x.dt:=by have:=bw aU;omega
 have bn:y=((x.s.log.map Prod.fst).drop x.dt).foldl bo.gM x:=by
  rw [bL,cc,il (by rw [iP];exact cB _)]
 have aQ:=bo.p1 ((x.s.log.map Prod.fst).drop x.dt) x
 rw [<-bn] at aQ
 have bp:x.io={y with dt:=x.s.log.length}:=by unfold bo.io;rw [bn]
 have bU:dL g d {x with dt:=(x.s.log.map Prod.fst).length} {c with aH:=B}=dL g d x.io {c with aH:=B}:=by
  rw [bp]
  unfold dL pl
  dsimp only
  rw [aQ.2.1,cg]
 have a:C o z [dL g d {x with dt:=(x.s.log.map Prod.fst).length} {c with aH:=B},bl,ev,c1,c4] w:=a.as
 rw [bU] at a
 refine⟨j,_,⟨{c with aH:=B},bl,ev,c1,c4,?_,j⟩,a.oQ⟩
 rw [bp]
 exact⟨by show ij g c.bb y.s bl;rw [aQ.1];exact aG.s,ad,by show mB g y.am B y.aH c1;rw [aQ.2.1];exact V,aD⟩
def aC.gi(s eN:aC):Prop:=eN.am=s.am/\s.log<+:eN.log
theorem aC.gi.refl(s:aC):s.gi s:=⟨j,oq _⟩
theorem aC.gi.trans{a b c:aC}(h:a.gi b)(d:b.gi c):a.gi c:=⟨d.1.trans h.1,h.2.trans d.2⟩
theorem aC.xZ{g:al}:∀(l:List (Int×aY))(a:aC×List aY),(l.foldl (aC.one g) a).1.am=a.1.am/\(l.foldl (aC.one g) a).1.log=a.1.log
 |[],_=>⟨j,j⟩
 |p::r,a=>by
  rw [ix]
  have b:=aC.xZ (g:=g) r (aC.one g a p)
  have c:=aC.zh g a p
  exact⟨b.1.trans c.1.1,b.2.trans c.1.2.1⟩
theorem aC.Cv{g:al}(s:aC):(s.dd g).1.am=s.am/\(s.dd g).1.log=s.log:=by
 unfold aC.dd
 have a:=aC.xZ (g:=g) (db s.stored) (s.wanted g)
 have b:(s.wanted g).1.am=s.am/\(s.wanted g).1.log=s.log:=by unfold aC.wanted;split<;>exact⟨j,j⟩
 exact⟨a.1.trans b.1,a.2.trans b.2⟩
theorem aC.x7{g:al}:∀(k:Nat)(s:aC)(l:List aY),s.gi (aC.go g k s l).1
 |0,s,_=>aC.gi.refl s
 |k+1,s,l=>by
  unfold aC.go
  split
  .exact aC.gi.refl s
  .rename_i r c
   split
   .have a:=aC.Cv (g:=g) (s.next r)
    exact aC.gi.trans (b:=((s.next r).dd g).1) ⟨a.1,by rw [a.2];exact List.prefix_append _ _⟩ (aC.x7 k _ _)
   .exact aC.gi.refl s
theorem aC.uK{g:al}(s:aC)(l:List aY):s.gi (s.h0 g l).1:=aC.x7 65 s l
theorem aC.sQ{g:al}(s:aC)(x:List UInt8):s.gi (s.eH g x).1:=by
 unfold aC.eH
 split
 .exact aC.gi.refl s
 .split
  .exact aC.gi.refl s
  .split
   .exact aC.gi.refl s
   .split
    .exact⟨j,oq _⟩
    .exact aC.uK (g:=g) {s with cx:=s.cx++[x],cur:=(fI g s.cur x).1} _
theorem aC.vQ{g:al}(s:aC)(m:aY):s.gi (s.take g m).1:=by
 unfold aC.take
 split
 .exact aC.sQ s m.x
 .split
  .exact aC.gi.refl s
  .split
   .exact aC.uK (g:=g) {s with cur:=(g8 g s.cur m).1} _
   .split
    .exact⟨j,oq _⟩
    .exact aC.gi.refl s
theorem aC.vR{g:al}(s:aC):s.gi (s.tick g).1:=aC.uK (g:=g) {s with cur:=(iB g s.cur).1} _
theorem aC.ok.h0{g:al}{N:Nat}{s:aC}(h:s.ok g N)(b:g.ok)(a:773<=N)(l:List aY):(s.h0 g l).1.ok g N:=aC.x8 b 65 h a
theorem aC.ok.eH{g:al}{N:Nat}{s:aC}(h:s.ok g N)(c:g.ok)(k:773<=N)(x:List UInt8):(s.eH g x).1.ok g (N+6):=by
 unfold aC.eH
 split
 .exact h.more (by omega)
 .rename_i i
  split
  .exact h.more (by omega)
  .split
   .exact h.more (by omega)
   .rename_i j
    have d:(s.cx++[x]).length<=16:=by rw [List.length_append,List.length_singleton];omega
    have e:∀y∈s.cx++[x],y.length<=200:=λy a=>by
     rcases dA.1 a with a|a
     .exact h.lg y a
     .rw [gb.1 a];omega
    split
    .exact{h.more (show N<=N+6 by omega) with cx:=d,lg:=e}
    .have f:aC.ok g (N+6) {s with cur:=(fI g s.cur x).1}:=h.qX (by omega) (λr b=>(uk c (λr b=>(h.cur r b).1) r b).more (by omega)) rT
     exact aC.ok.h0 (s:={s with cx:=s.cx++[x],cur:=(fI g s.cur x).1}) {f with cx:=d,lg:=e} c (by omega) _
theorem aC.ok.take{g:al}{N:Nat}{s:aC}(h:s.ok g N)(b:g.ok)(c:773<=N){m:aY}(hm:m.cP):(s.take g m).1.ok g (N+6):=by
 unfold aC.take
 split
 .exact h.eH b c m.x
 .split
  .exact h.more (by omega)
  .split
   .exact aC.ok.h0 (s:={s with cur:=(g8 g s.cur m).1}) (h.qX (by omega) (rR b hm (λr e=>(h.cur r e).1)) rS) b (by omega) _
   .split
    .rename_i f
     refine{h.more (show N<=N+6 by omega) with stored:=?_,lj:=?_,eW:=?_}
     .have:=mi s.stored s.eW m
      show(cj _ _ _).length<=128
      omega
     .intro p d
      rcases i0 d with a|a
      .exact h.lj p a
      .rw [a];exact hm
     .have:=h.eW
      show 0<=s.eW+1/\s.eW+1<=_
      omega
    .exact h.more (by omega)
theorem aC.ok.tick{g:al}{N:Nat}{s:aC}(h:s.ok g N)(a:g.ok)(c:773<=N):(s.tick g).1.ok g (N+6):=
 aC.ok.h0 (s:={s with cur:=(iB g s.cur).1}) (h.qX (by omega) (uh a (λr b=>(h.cur r b).1)) ui) a (by omega) _
theorem bo.ok.step{g:al}{N M:Nat}{x:bo}{s:aC}(h:x.ok g N)(aM:s.ok g M)(a:x.s.gi s):(bo.io {x with s:=s}).ok g M:=
 bo.ok.io (x:={x with s:=s}) aM h.c h.aH (ed h.dt a.2.length_le) (a.1.trans h.am)
theorem bo.ok.more{g:al}{N M:Nat}{x:bo}(h:x.ok g N)(a:N<=M):x.ok g M:={h with s:=h.s.more a}
theorem bo.ok.take{g:al}{N:Nat}{x:bo}(h:x.ok g N)(b:g.ok)(a:773<=N){m:aY}(hm:m.cP):(x.take g m).1.ok g (N+6):=h.step (h.s.take b a hm) (aC.vQ _ _)
theorem bo.ok.tick{g:al}{N:Nat}{x:bo}(h:x.ok g N)(b:g.ok)(a:773<=N):(x.tick g).1.ok g (N+6):=h.step (h.s.tick b a) (aC.vR _)
theorem bo.ok.ask{g:al}{N:Nat}{x:bo}(h:x.ok g N)(b:g.ok)(a:773<=N)(I:bG):(x.ask g I).1.ok g (N+6):=by
 unfold bo.ask
 split
 .exact h.step (h.s.eH b a _) (aC.sQ _ _)
 .exact h.more (by omega)
theorem bo.lc{g:al}{am:Int}(hm:0<=am/\am<g.n)(N:Nat):(bo.new am).ok g N where
 s:={am:=hm,log:=ch _,nd:=(by intro e he;cases he),cur:=(by intro r a;cases a;exact⟨ai.lc hm ⟨ik _,by decide⟩ N,by show(0:Nat)<64;decide⟩),cx:=Nat.zero_le _,lg:=(by intro e he;cases he),stored:=Nat.zero_le _,lj:=(by intro e he;cases he),eW:=⟨Int.le_refl _,by show(0:Int)<=N;omega⟩}
 c:=bK.lc _
 aH:=ch _
 dt:=ch _
 am:=rfl
theorem F3{I:bG}(h:gO I=true):I.eh.length<=100:=by
 unfold gO at h
 simp only [d8] at h
 have a:=h.2
 split at a
 .simp only [lb,d8,gL] at a
  omega
 .have b:I.eh=[]:=by
   split at a
   .simp only [d8,gL] at a;exact a.1.1.1
   .split at a
    .simp only [d8,gL] at a;exact a.1.1.1
    .split at a
     .simp only [d8,gL] at a;exact a.1.1
     .cases a
  rw [b];exact ch _
theorem HN{o:World}{g:al}{d:Nat}{x:bo}{G:List Chunk}(y:hK g d x G){N:Nat}(i:x.ok g N)(v:773<=N)(J:N+50<=1000000)(l:g.at o)(q:g.ok)(f:g.off (av [G]))(a:Own [G] o):Calls prog 43 #[Z d] o (aS λr w=>∃e ah,cz r (x.tick g).2 e/\hK g d (x.tick g).1 ah/\C o (av [G]) [ah,e] w):=by
 have K:=y
 obtain⟨c,bl,ev,c1,c4,m,rfl⟩:=y
 obtain⟨h,u⟩:∃h,h=av [dL g d x c++(bl++(ev++(c1++c4)))]:=⟨_,j⟩
 have L:=f
 rw [<-u] at f⊢
 have a:C o h [dL g d x c++(bl++(ev++(c1++c4)))] o:=u▸a
 have a:=a.sq
 refine a1 [Z d] func43 ntmps43 results43 (au 15 j (aw (C.aj (b:=d) a) j) ?_)
 have p:=HM m.s i.s v (by omega) (l.st a f) q (a.ex l f) a.ours
 refine bm 0 p j (λr w⟨e,t,z,A,F⟩=>?_)
 have a:=a.b4 F
 obtain⟨n,D,a⟩:∃n,hK g d {x with s:=(x.s.tick g).1} n/\C o h [n,e] w:=by
  have a:C o h [dL g d {x with s:=(x.s.tick g).1} c,t,ev,c1,c4,e] w:=a.as
  exact⟨_,⟨c,t,ev,c1,c4,⟨A,m.k,m.aH,m.answers⟩,j⟩,a.oQ⟩
 have I:aC.ok g (N+6) ((x.s.tick g).1):=i.s.tick q v
 have E:x.s.gi ((x.s.tick g).1):=aC.vR _
 have p:=tU (x:={x with s:=(x.s.tick g).1}) D I i.c i.aH (ed i.dt E.2.length_le) (l.st a f) q (a.ex l f) a.ours
 refine bp 4 p j (λw⟨ah,B,H⟩=>?_)
 have a:=a.b4 H
 refine ao 4 j j ?_
 exact⟨e,ah,z,B,a.as⟩
theorem Hz{o:World}{g:al}{d:Nat}{x:bo}{G:List Chunk}{m:aB}(hm:m.ok o)(t:m.k0 (av [G]))(D:m.P.cP)(Q:m.s<=1000000)(B:hK g d x G){N:Nat}(i:x.ok g N)(A:773<=N)(S:N+50<=1000000)(l:g.at o)(v:g.ok)(h:g.off (av [G]))(a:Own [G] o):Calls prog 42 #[Z d,.agg m.cs.toArray] o (aS λr w=>∃f ah,cz r (x.take g m.P).2 f/\hK g d (x.take g m.P).1 ah/\C o (av [G]) [ah,f] w):=by
 have E:m.tag.length=32:=hm.tag
 have T:=B
 obtain⟨c,bl,ev,c1,c4,n,rfl⟩:=B
 obtain⟨e,z⟩:∃e,e=av [dL g d x c++(bl++(ev++(c1++c4)))]:=⟨_,j⟩
 have V:=h
 rw [<-z] at h t⊢
 have a:C o e [dL g d x c++(bl++(ev++(c1++c4)))] o:=z▸a
 have a:=a.sq
 refine a1 [Z d,.agg m.cs.toArray] func42 ntmps42 results42 (bP 2 a j j (λq w a=>?_))
 have a:C o e (bi q m::_) w:=a
 have a:=a.drew
 refine bz 9 j (λw=>True) ba (af 0 3 j (aJ 3 4 j j ?_ ?_))
 refine n7 j j j j (aw (C.aj (b:=d) a) j) (an ⟨ba,?_⟩)
 refine aW 4 j (lZ (U:=m.cs) j j j j (m.bY E) (bq (C.aj (b:=q) a)) ?_)
 rotate_left
 refine lZ (U:=m.cs) j j j j (m.bY E) (bq (C.aj (b:=q) a)) (an ⟨ba,?_⟩)
 refine aW 3 j (n7 j j j j (aw (C.aj (b:=d) a) j) ?_)
 rotate_left
 all_goals
  refine an ⟨ba,?_⟩
  refine aW 5 j ?_
  have u:=Hy (m:=m) n.s (hm.qO a t) ((hm.Ci a t).sub (λb K=>qk _ K)) D Q i.s A (by omega) (l.st a h) v (a.ex l h) a.ours
  refine cN j j j u (λr w⟨f,y,F,H,M⟩=>?_)
  have a:=a.b4 M
  refine an ⟨ba,?_⟩
  refine af 6 1 j (bO ?_)
  obtain⟨p,J,a⟩:∃p,hK g d {x with s:=(x.s.take g m.P).1} p/\C o e [p,f] w:=by
   have a:C o e [dL g d {x with s:=(x.s.take g m.P).1} c,y,ev,c1,c4,f] w:=a.as
   exact⟨_,⟨c,y,ev,c1,c4,⟨H,n.k,n.aH,n.answers⟩,j⟩,a.oQ⟩
  have R:aC.ok g (N+6) ((x.s.take g m.P).1):=i.s.take v A D
  have L:x.s.gi ((x.s.take g m.P).1):=aC.vQ _ _
  have u:=tU (x:={x with s:=(x.s.take g m.P).1}) J R i.c i.aH (ed i.dt L.2.length_le) (l.st a h) v (a.ex l h) a.ours
  refine bp 3 u j (λw⟨ah,I,O⟩=>?_)
  have a:=a.b4 O
  refine ao 4 j j ?_
  exact⟨f,ah,F,I,a.as⟩
theorem Cg{o:World}{g:al}{d:Nat}{x:bo}{G:List Chunk}{I:bG}(L:hK g d x G){N:Nat}(l:x.ok g N)(K:773<=N)(ad:N+50<=1000000)(m:g.at o)(A:g.ok)(i:g.off (av [G]))(a:Own [G] o):Calls prog 62 #[Z d,.agg I.cs.toArray] o (aS λr w=>∃v h ah,r= .tuple #[v,ab (x.ask g I).2.2]/\cz v (x.ask g I).2.1 h/\hK g d (x.ask g I).1 ah/\C o (av [G]) [ah,h] w):=by
 have O:=L
 obtain⟨c,bl,ev,c1,c4,n,rfl⟩:=L
 obtain⟨f,J⟩:∃f,f=av [dL g d x c++(bl++(ev++(c1++c4)))]:=⟨_,j⟩
 have ae:=i
 rw [<-J] at i⊢
 have a:C o f [dL g d x c++(bl++(ev++(c1++c4)))] o:=J▸a
 have a:=a.sq
 refine a1 [Z d,.agg I.cs.toArray] func62 ntmps62 results62 (bP 2 a j j (λH w a=>?_))
 have a:C o f (bE H I::_) w:=a
 refine bS 4 (U:=I.cs) j j j (bq (C.aj (b:=H) a)) (bm 0 (ut (I:=I)) j (λr w⟨af,F,D,t,z⟩=>?_))
 subst D
 have a:=a.aN z
 refine ar 11 j (b2 16 (.bool false) j (aL Value.bool (j)) ?_)
 refine aT 3 j j (λq=>?_) (λq=>?_)
 .have W:gO I=false:=vn q
  refine ao 4 j j ?_
  have u:x.ask g I=(x,[],1):=aF (by rw [W];decide)
  rw [u]
  have a:C o f [dL g d x c,bl,ev,c1,c4,[]] w:=(C.empty a).as
  exact⟨_,[],_,j,cz.nil,O,a.oQ⟩
 have B:gO I=true:=vo q
 rw [a6 B] at t
 refine au 6 j (aw (C.aj (b:=d) a) j) ?_
 obtain⟨ac,ce,rfl,_,_⟩:=t.form
 have a:C o f [dL g d x c,bl,ev,c1,c4,F] w:=a.as
 obtain⟨_,_,e,_,_,X,S⟩:=t.rd (a.to F)
 cases e
 have y:=Al (x:=jk I) (bH:=ce) n.s X (C.pZ S) (ed (FX (F3 B)) (by decide)) l.s K (by omega) (m.st a i) A (a.ex m i) a.ours
 refine bm 1 y j (λr w⟨aa,h,E,D,M,P,z⟩=>?_)
 subst D
 have a:=a.b4 z
 obtain⟨p,R,a⟩:∃p,hK g d {x with s:=(x.s.eH g (jk I)).1} p/\C o f [p,h] w:=by
  have a:C o f [dL g d {x with s:=(x.s.eH g (jk I)).1} c,E,ev,c1,c4,h] w:=a.as
  exact⟨_,⟨c,E,ev,c1,c4,⟨P,n.k,n.aH,n.answers⟩,j⟩,a.oQ⟩
 have Y:aC.ok g (N+6) ((x.s.eH g (jk I)).1):=l.s.eH A K _
 have T:x.s.gi ((x.s.eH g (jk I)).1):=aC.sQ _ _
 have y:=tU (x:={x with s:=(x.s.eH g (jk I)).1}) R Y l.c l.aH (ed l.dt T.2.length_le) (m.st a i) A (a.ex m i) a.ours
 refine bp 8 y j (λw⟨ah,Q,V⟩=>?_)
 have a:=a.b4 V
 refine ao 6 j j ?_
 have u:x.ask g I=(bo.io {x with s:=(x.s.eH g (jk I)).1},(x.s.eH g (jk I)).2.1,(x.s.eH g (jk I)).2.2):=a6 B
 rw [u]
 exact⟨aa,h,ah,j,M,Q,a.as⟩
theorem E7{o:World}{g:al}{d:Nat}{x:bo}{G:List Chunk}(k:hK g d x G)(e:Holds o G){N:Nat}(aM:x.s.ok g N):Calls prog 9 #[Z d] o (aS λr w=>∃b,gm r (x.s.log.map Prod.fst) b/\C o [] [b] w):=by
 have a:Own [] o:=C.start o
 obtain⟨c,bl,ev,c1,c4,n,rfl⟩:=k
 have q:o.heap[d]? =some (.cells (pl g x c).toArray 64 (0,0)):=e.left.head
 refine a1 [Z d] func9 ntmps9 results9 (au 15 j (aw (a.cd q) j) ?_)
 obtain⟨t,h,u,y,v,p,rfl⟩:=n.s
 have f:=e.right.left
 have l:=yF (bb:=c.bb) (g:=g) (s:=x.s) (c:=t) (L:=h) (a.cd f.left.head) p.log (f.right.left.st a) aM
 refine bm 0 l j (λr w⟨b,i,m⟩=>?_)
 have a:=a.aN m
 refine ao 1 j j ?_
 exact⟨b,i,a.as⟩
theorem nx.dg{m:List (Int×Value)}:∀{t:List (Int×(Int×Int×Int))}{H:List Chunk},c6 nx m t H->m=t.map λp=>(p.1,j5 p.2):=by
 induction m with
 |nil=>intro t H h;cases t with|nil=>rfl|cons _ _=>exact h.elim
 |cons p m f=>
  intro t H h
  cases t with
  |nil=>exact h.elim
  |cons q t=>
   obtain⟨c,_,_,_,d,e⟩:=h
   rw [jO,<-f e]
   obtain⟨a,b⟩:=p
   have c:a=q.1:=c
   have d:b=j5 q.2:=d.1
   rw [c,d]
theorem wJ{o:World}{g:al}{i:Nat}{x:bo}{G:List Chunk}{c s:Int}(F:hK g i x G)(u:Holds o G):Calls prog 49 #[Z i,ab c,ab s] o (aS λr w=>r= .tuple #[j5 (if 0<=c/\c<=15/\0<=s/\s<=1048576 then((a2 x.answers (fc c s)).getD (0,0,0)) else(0,0,0)),.bool (decide (0<=c/\c<=15/\0<=s/\s<=1048576)&&(a2 x.answers (fc c s)).isSome)]/\C o [] [] w):=by
 have b:Own [] o:=C.start o
 obtain⟨gV,bl,ev,c1,c4,P,rfl⟩:=F
 have S:o.heap[i]? =some (.cells (pl g x gV).toArray 64 (0,0)):=u.left.head
 refine e7 [Z i,ab c,ab s] (fn:=f49) func49 ntmps49 (cn 2 b j (λd w b=>?_))
 have b:C o [] (R d #[ab 0,ab 0,ab 0] 116::_) w:=b
 refine ar 7 j (b2 10 (.bool false) j (aL Value.bool (j)) ?_)
 refine ar 4 j (c7 14 j (λl=>?_) (λl=>?_))
 .refine ar 14 j (cO (c:= #[ab 0,ab 0,ab 0]) j j j (λ_=>by kernel_rfl) ?_)
  refine cp 0 (b.bf d) j j j j j (λw b=>?_)
  have b:=C.whole (U:=[ab 0,ab 0,ab 0]) b j
  have b:C o [] (R d #[ab 0,ab 0,ab 0] 116::_) w:=b
  refine bJ 1 j ⟨_,dp results49 j j j j b.bN,?_⟩
  have e:¬(0<=c/\c<=15/\0<=s/\s<=1048576):=λh=>by have:=br l;omega
  rw [aF e,ff e]
  exact⟨by simp,b.bare⟩
 refine ar 4 j (c7 18 j (λm=>?_) (λm=>?_))
 .refine ar 10 j (cO (c:= #[ab 0,ab 0,ab 0]) j j j (λ_=>by kernel_rfl) ?_)
  refine cp 0 (b.bf d) j j j j j (λw b=>?_)
  have b:=C.whole (U:=[ab 0,ab 0,ab 0]) b j
  have b:C o [] (R d #[ab 0,ab 0,ab 0] 116::_) w:=b
  refine bJ 1 j ⟨_,dp results49 j j j j b.bN,?_⟩
  have e:¬(0<=c/\c<=15/\0<=s/\s<=1048576):=λh=>by have:=br m;omega
  rw [aF e,ff e]
  exact⟨by simp,b.bare⟩
 refine ar 4 j (c7 22 j (λn=>?_) (λn=>?_))
 .refine ar 6 j (cO (c:= #[ab 0,ab 0,ab 0]) j j j (λ_=>by kernel_rfl) ?_)
  refine cp 0 (b.bf d) j j j j j (λw b=>?_)
  have b:=C.whole (U:=[ab 0,ab 0,ab 0]) b j
  have b:C o [] (R d #[ab 0,ab 0,ab 0] 116::_) w:=b
  refine bJ 1 j ⟨_,dp results49 j j j j b.bN,?_⟩
  have e:¬(0<=c/\c<=15/\0<=s/\s<=1048576):=λh=>by have:=br n;omega
  rw [aF e,ff e]
  exact⟨by simp,b.bare⟩
 refine aT 3 j j (λp=>?_) (λp=>?_)
 .refine ar 2 j (cO (c:= #[ab 0,ab 0,ab 0]) j j j (λ_=>by kernel_rfl) ?_)
  refine cp 0 (b.bf d) j j j j j (λw b=>?_)
  have b:=C.whole (U:=[ab 0,ab 0,ab 0]) b j
  have b:C o [] (R d #[ab 0,ab 0,ab 0] 116::_) w:=b
  refine bJ 1 j ⟨_,dp results49 j j j j b.bN,?_⟩
  have e:¬(0<=c/\c<=15/\0<=s/\s<=1048576):=λh=>by have:=br p;omega
  rw [aF e,ff e]
  exact⟨by simp,b.bare⟩
 have b:=b.drew
 obtain⟨t,ag,b1,f,H,J,O,D,rfl⟩:=P.answers
 have y:=u.right.right.right.right
 have I:dG 226 o (some ⟨t,0,none⟩) f:=.inr ⟨t,ag,b1,j,y (t,_) (by simp),y (ag,b1) (by simp),O⟩
 have Q:∀q∈f,gx 3 q.2:=D.wide (λv a G h=>by rw [h.1];exact⟨[ab a.1,ab a.2.1,ab a.2.2],j,j,j⟩)
 have A:=nx.dg D
 obtain⟨a,z⟩:∃a,a=((a2 x.answers (fc c s)).getD (0,0,0)):=⟨_,j⟩
 have L:(a2 f (fc c s)).getD q1= .agg #[ab a.1,ab a.2.1,ab a.2.2]:=by
  rw [A,ne,z]
  cases a2 x.answers (fc c s)<;>rfl
 have M:(a2 f (fc c s)).isSome=(a2 x.answers (fc c s)).isSome:=by
  rw [A,ne]
  cases a2 x.answers (fc c s)<;>rfl
 refine bz 2 j (λw=>∃ae,C o [] ae w) ⟨_,b⟩ (af 0 3 j (bT 3 j (λw⟨_,b⟩=>aw (b.cd S) (aL some J)) (af 4 2 j (aW 6 j (bF j j j (yq (c:=c) (s:=s)) (λw hw=>?_))))))
 have hw:=hw.symm
 subst hw
 refine an ⟨⟨_,b⟩,?_⟩
 refine aW 7 j ?_
 have K:=DV (k:=fc c s) Q (I.st b)
 refine cN j j j K (λr w⟨B,N⟩=>?_)
 rw [L,M] at B
 subst B
 have b:=b.aN N
 refine an ⟨⟨_,b⟩,?_⟩
 refine af 8 2 j (aW 10 j (c5 (b.bf d) j j j j j bR (λw b=>?_)))
 have b:=C.whole (U:=[ab a.1,ab a.2.1,ab a.2.2]) b j
 have b:C o [] (R d #[ab a.1,ab a.2.1,ab a.2.2] 116::_) w:=b
 refine an ⟨⟨_,b⟩,?_⟩
 refine af 11 1 j (bO (bJ 0 j ⟨_,dp results49 j j j j b.bN,?_⟩))
 have E:0<=c/\c<=15/\0<=s/\s<=1048576:=by have T:=bw l;have V:=bw m;have W:=bw n;have X:=bw p;omega
 rw [a6 E,jb E,<-z]
 exact⟨by simp,b.bare⟩
theorem jL.read{g:al}{am:Int}{w:World}:∀{us:List Value}{ms:List b9}{G:List Chunk},jL g am us ms G->Holds w G->∀(i:Nat)(a:i<ms.length),∃A c,us[i]? =some (.slice A 1 c)/\1<=c/\c<=maxLen/\Rd w A (vcs [dm g ms[i] am])/\Flat A
 |[],[],_,_,_,i,a=>by simp at a
 |[],_::_,_,h,_,_,_=>h.elim
 |_::_,[],_,h,_,_,_=>h.elim
 |u::us,m::ms,_,⟨ah,aA,rfl,hu,h⟩,d,0,_=>by
  obtain⟨A,c,b,e,f,k,l⟩:=hu.read d.left
  have b:u= .slice A 1 c:=b
  subst b
  exact⟨A,c,j,e,f,k,l⟩
 |u::us,m::ms,_,⟨ah,aA,rfl,hu,h⟩,d,i+1,a=>by
  have:=h.read d.right i (by simpa using a)
  simpa using this
theorem AH{o:World}{g:al}{B:Nat}{x:bo}{G:List Chunk}(ac:hK g B x G)(N:Holds o G)(aR:x.aH.length<=100000):Calls prog 48 #[Z B] o (aS λr w=>∃bl,mB g x.am r x.aH bl/\C o [] [bl] w):=by
 have a:Own [] o:=C.start o
 obtain⟨c,bl,ev,c1,c4,ay,rfl⟩:=ac
 have aE:o.heap[B]? =some (.cells (pl g x c).toArray 64 (0,0)):=N.left.head
 obtain⟨W,V,us,aa,ah,L⟩:=ay.aH
 have O:Holds o (W++V):=aa▸N.right.right.right.left
 obtain⟨T,X,ak,aQ,aU,az,_⟩:=ah.read O.left
 have aO:=L.len
 have P:∀e∈us.zip x.aH,((λe:Value×b9=>e.2.cs++[e.1]) e).length=5:=λ_ _=>rfl
 have aX:(us.zip x.aH).length=x.aH.length:=by rw [oo];omega
 refine a1 [Z B] func48 ntmps48 results48 ?_
 refine au 19 j (aw (a.cd aE) (aL some ak)) ?_
 refine cY 3 j (cA:=Nat×Value×List Chunk) (λk=>[(0,Z B),(3,k.2.1),(11,.slice T x.aH.length X),(12,.int .i64 (x.aH.length:Nat)),(13,.int .i64 (k.1:Nat))])
  (λk w=>k.1<=x.aH.length/\mB g x.am k.2.1 (x.aH.take k.1) k.2.2/\C o [] [k.2.2] w) (λk=>x.aH.length-k.1) (0,.slice none 0 0,[]) ⟨j,j,j,j,j,ba⟩ ⟨ch _,⟨[],[],[],j,Row.nil _ _,j⟩,a.empty⟩ ?_
 rintro⟨i,v,G⟩ w ⟨ap,z,a⟩
 dsimp only at ap z a⊢
 refine aT 4 j j (λH=>?_) (λH=>?_)
 .have E:i<x.aH.length:=by have:=br H;omega
  obtain⟨h,ci,aB,aJ,aK,aA,_⟩:=L.read O.right i E
  have aC:us[i]'(by omega)= .slice h 1 ci:=by have:=aB;rw [ck (by omega)] at this;exact hr this
  have Q:(us.zip x.aH)[i]'(by omega)=(.slice h 1 ci,x.aH[i]):=by rw [List.getElem_zip,aC]
  have S:=a.rd az (bU.of_nil _ _)
  refine ar 5 j (fL j j j j S (v:=ab x.aH[i].k) (iC (f:=(λe:Value×b9=>e.2.cs++[e.1])) (J:=0) (us.zip x.aH) P i (by omega) (by decide) (by rw [Q];rfl)) E (λaG Y aI=>?_))
  subst Y
  have R:=jE (f:=(λe:Value×b9=>e.2.cs++[e.1])) S P i (by omega)
  rw [Q] at R
  refine bS 0 (U:=[ab x.aH[i].k,ab x.aH[i].p,ab x.aH[i].e,ab x.aH[i].t,Value.slice h 1 ci]) j j j R ?_
  refine cn 0 a j (λn w a=>?_)
  refine cp 0 (a.bf n) j j j j j (λw a=>?_)
  have a:=C.whole (U:=[ab x.aH[i].k,ab x.aH[i].p,ab x.aH[i].e,ab x.aH[i].t,Value.slice h 1 ci]) a j
  have a:C o [] [[(n,.cells #[ab x.aH[i].k,ab x.aH[i].p,ab x.aH[i].e,ab x.aH[i].t,Value.slice h 1 ci] 114 (0,0))],G] w:=a.as
  have a:C o [] ([[(n,.cells #[ab x.aH[i].k,ab x.aH[i].p,ab x.aH[i].e,ab x.aH[i].t,Value.slice h 1 ci] 114 (0,0))]]++_) _:=a.front
  have a:=a.drew
  refine bz 0 j (λw=>∃ae,C o [] ([[(n,.cells #[ab x.aH[i].k,ab x.aH[i].p,ab x.aH[i].e,ab x.aH[i].t,Value.slice h 1 ci] 114 (0,0))]]++ae) w) ⟨_,a⟩ ?_
  refine af 0 2 j ?_
  refine aV 2 j (λw⟨_,a⟩=>dc (U:=x.aH[i].cs) j j j ((a.bf n).i3 (off:=0) (U:=x.aH[i].cs) (λJ v z=>by rw [fk];exact rO (m:=x.aH[i]) (u:=.slice h 1 ci) z))) ?_
  refine af 3 1 j ?_
  refine be 4 j a7 j ?_
  refine aW 5 j ?_
  have ax:∀y∈[dm g x.aH[i] x.am],y.ok:=λy aF=>by rw [gb.1 aF];exact iY _ _ _
  have ai:=k1 (l:=[dm g x.aH[i] x.am]) (d:=ci) (a.rd aA (bU.of_nil _ _)) ax (by simp)
  refine cN j j j ai (λr w⟨s,M,av⟩=>?_)
  obtain⟨q,dn,rfl,_,_⟩:=M.form
  have a:=a.aN av
  have a:C o [] ([[(n,.cells #[ab x.aH[i].k,ab x.aH[i].p,ab x.aH[i].e,ab x.aH[i].t,Value.slice h 1 ci] 114 (0,0))]]++_) w:=a.front
  refine an ⟨⟨_,a⟩,?_⟩
  refine aV 6 j (λw _=>e0 (c:=[ab x.aH[i].k,ab x.aH[i].p,ab x.aH[i].e,ab x.aH[i].t,Value.slice q 1 dn].toArray) j (λ_=>by kernel_rfl)) ?_
  refine aW 7 j ?_
  refine gv (U:=[ab x.aH[i].k,ab x.aH[i].p,ab x.aH[i].e,ab x.aH[i].t,Value.slice q 1 dn]) a j j j j bR bR (λF w a=>?_)
  have aP:=bq (C.aj (b:=F) a)
  have a:C o [] ([[(n,.cells #[ab x.aH[i].k,ab x.aH[i].p,ab x.aH[i].e,ab x.aH[i].t,Value.slice h 1 ci] 114 (0,0))]]++_) w:=a.front
  refine an ⟨⟨_,a⟩,?_⟩
  refine aW 8 j ?_
  obtain⟨I,H1,U,rfl,ad,K⟩:=z
  have a:C o [] [I,H1,[(n,.cells #[ab x.aH[i].k,ab x.aH[i].p,ab x.aH[i].e,ab x.aH[i].t,Value.slice h 1 ci] 114 (0,0))],s,[(F,.cells #[ab x.aH[i].k,ab x.aH[i].p,ab x.aH[i].e,ab x.aH[i].t,Value.slice q 1 dn] 114 (0,0))]] w:=C.perm (A:=[I++H1,[(n,.cells #[ab x.aH[i].k,ab x.aH[i].p,ab x.aH[i].e,ab x.aH[i].t,Value.slice h 1 ci] 114 (0,0))],s,[(F,.cells #[ab x.aH[i].k,ab x.aH[i].p,ab x.aH[i].e,ab x.aH[i].t,Value.slice q 1 dn] 114 (0,0))]]) a.as (by simp)
  have aM:(x.aH.take i).length=i:=by rw [hi];omega
  refine eK a ad j j (by decide) j j j (m:=1) (news:=[ab x.aH[i].k,ab x.aH[i].p,ab x.aH[i].e,ab x.aH[i].t,Value.slice q 1 dn]) j aP (by intro u hu;simp at hu;rcases hu with rfl|rfl|rfl|rfl|rfl<;>rfl) (by omega) (by unfold maxLen;omega) (λv2 D w ag a=>?_)
  have aD:mB g x.am v2 (x.aH.take (i+1)) (D++(H1++s)):=by
   rw [fF E]
   refine⟨D,H1++s,U++[.slice q 1 dn],j,?_,K.app (jL.one M)⟩
   rw [ca,List.length_singleton]
   have e:nI (U++[.slice q 1 dn]) (x.aH.take i++[x.aH[i]])=nI U (x.aH.take i)++[ab x.aH[i].k,ab x.aH[i].p,ab x.aH[i].e,ab x.aH[i].t,Value.slice q 1 dn]:=by
    unfold nI
    rw [List.zip_append K.len,List.flatMap_append]
    simp
   rw [e]
   exact ag
  have a:C o [] [[(n,.cells #[ab x.aH[i].k,ab x.aH[i].p,ab x.aH[i].e,ab x.aH[i].t,Value.slice h 1 ci] 114 (0,0))],D++(H1++s)] w:=C.perm (A:=[[(n,.cells #[ab x.aH[i].k,ab x.aH[i].p,ab x.aH[i].e,ab x.aH[i].t,Value.slice h 1 ci] 114 (0,0))],D,H1,s]) a.as (by simp)
  refine an ⟨⟨_,a⟩,?_⟩
  refine af 9 1 j ?_
  refine bO ?_
  refine bt 1 j j j (c2 i (by omega)) ?_
  refine bX 1 j ?_
  exact⟨(i+1,v2,_),⟨j,j,j,j,j,ba⟩,⟨E,aD,a.as⟩,by dsimp only;omega⟩
 refine ao 5 j j ?_
 have aq:i=x.aH.length:=by have:=bw H;omega
 rw [aq,gy] at z
 exact⟨G,z,a⟩
structure dJ where
 p:Int
 e:Int
 t:Int
 at_:Int
 k:Int
 deriving DecidableEq
abbrev dJ.cs(s:dJ):List Value:=[ab s.p,ab s.e,ab s.t,ab s.at_,ab s.k]
structure ec where
 p:Int
 e:Int
 t:Int
 s:Int
 x:List UInt8
structure dP where
 c0:List ec
 cl:List dJ
 ew:List (Int×Int)
def dP.new:dP:=⟨[],[],[]⟩
def jX(p e:Int):Bool:=decide (0<=p/\p<8/\0<=e/\e<=100)
def k5(t:Int):Bool:=decide (1<=t/\t<=100)
def dP.kK(l:dP)(p e:Int):dP×Int:=
 if jX p e=true then({l with ew:=cj l.ew p (max ((a2 l.ew p).getD 0) e)},0) else(l,1)
def kP(p e t:Int)(s:dJ):Bool:=decide (s.p=p/\s.e=e/\s.t=t)
def dP.span(l:dP)(p e t:Int):Option Nat:=l.cl.findIdx? (kP p e t)
def dP.end_(l:dP)(p e t:Int)(c:Bool):dP×Int:=
 if(jX p e&&k5 t)=false then(l,1)
 else match l.span p e t with
  |none=>({l with cl:=l.cl++[⟨p,e,t,-1,if c=true then 2 else 3⟩]},0)
  |some i=>if h:i<l.cl.length then
   (if l.cl[i].k≠0/\l.cl[i].k≠(if c=true then 2 else 3) then(l,6)
    else({l with cl:=l.cl.set i {l.cl[i] with k:=if c=true then 2 else 3}},0)) else(l,0)
def ka:List Value->List ec->List Chunk->Prop
 |[],[],G=>G=[]
 |u::us,r::rs,G=>∃ah aA,G=ah++aA/\dN u r.x ah/\ka us rs aA
 |[],_::_,_=>False
 |_::_,[],_=>False
abbrev sD(us:List Value)(rs:List ec):List Value:=(us.zip rs).flatMap λe=>[ab e.2.p,ab e.2.e,ab e.2.t,ab e.2.s,e.1]
def mL(v:Value)(rs:List ec)(G:List Chunk):Prop:=∃ak H us,G=ak++H/\Row 169 5 v rs.length (sD us rs) ak/\ka us rs H
def gw(v:Value)(l:List dJ)(G:List Chunk):Prop:=Row 308 5 v l.length (l.flatMap dJ.cs) G
abbrev l8(l:List (Int×Int)):List (Int×Value):=l.map λp=>(p.1,ab p.2)
structure iL where
 c0:Value
 cl:Value
 ew:Value
abbrev lcs(c:iL):List Value:=[c.c0,c.cl,c.ew]
abbrev dE(bc:Nat)(c:iL):List Chunk:=R bc (lcs c).toArray 132
structure Bj(l:dP)(c:iL)(ak S E:List Chunk):Prop where
 c0:mL c.c0 l.c0 ak
 cl:gw c.cl l.cl S
 ew:mF bu c.ew (l8 l.ew) E
def ky(bc:Nat)(l:dP)(G:List Chunk):Prop:=∃(c:iL)(ak S E:List Chunk),Bj l c ak S E/\G=dE bc c++(ak++(S++E))
theorem C.vt{bc:Nat}{c:iL}{ak S E:List Chunk}{ae:List (List Chunk)}{o w:World}{F:List Nat}(h:C o F ((dE bc c++(ak++(S++E)))::ae) w):C o F (dE bc c::ak::S::E::ae) w:=h.perm (by simp)
theorem C.iX{bc:Nat}{c:iL}{ak S E:List Chunk}{ae:List (List Chunk)}{o w:World}{F:List Nat}(h:C o F (dE bc c::ak::S::E::ae) w):C o F ((dE bc c++(ak++(S++E)))::ae) w:=h.perm (by simp)
theorem vN(l:List dJ):∀v∈l.flatMap dJ.cs,v.oneCell'=true:=by
 intro v a
 obtain⟨m,_,hm⟩:=nB.1 a
 simp [dJ.cs] at hm
 rcases hm with rfl|rfl|rfl|rfl|rfl<;>rfl
theorem Fv{o:World}:Calls prog 58 #[] o (aS λr w=>∃bc G,r=Z bc/\ky bc dP.new G/\C o [] [G] w):=by
 have a:Own [] o:=C.start o
 refine a1 [] func58 ntmps58 results58 (ar 5 j (js j a j j (λax w a=>?_)))
 refine cO (c:=(lcs ⟨.slice none 0 0,.slice none 0 0,.map (some ax)⟩).toArray) j j j (λ_=>by kernel_rfl) (bP 0 a j j (λb w a=>ao 1 j j ?_))
 have a:C o [] (dE b ⟨.slice none 0 0,.slice none 0 0,.map (some ax)⟩::_) w:=a
 exact⟨b,_,j,⟨(⟨.slice none 0 0,.slice none 0 0,.map (some ax)⟩:iL),[],[],[(ax,.map #[] 0)],⟨⟨[],[],[],j,Row.nil _ _,j⟩,Row.nil 308 5,⟨ax,_,j,j,cf.new⟩⟩,j⟩,C.perm (A:=[dE b ⟨.slice none 0 0,.slice none 0 0,.map (some ax)⟩,[(ax,.map #[] 0)]]) a.as (by simp)⟩
theorem uV{o:World}{p e:Int}:Calls prog 213 #[ab p,ab e] o (aS λr w=>r= .bool (jX p e)/\w=o):=by
 refine a1 [ab p,ab e] func213 ntmps213 results213 (ar 8 j (c7 7 j (λdw=>?_) (λdw=>?_)))
 .refine ar 4 j (c7 11 j (λa=>?_) (λa=>?_))
  .refine ar 4 j (c7 15 j (λb=>?_) (λb=>?_))
   .refine ao 4 j j (⟨?_,j⟩)
    unfold jX
    exact aL Value.bool (by rw [oh];have c:=br dw;have d:=br a;have f:=br b;omega)
   refine ao 4 j j (⟨?_,j⟩)
   unfold jX
   rw [ff (by have:=bw b;omega)]
  refine ao 8 j j (⟨?_,j⟩)
  unfold jX
  rw [ff (by have:=bw a;omega)]
 refine ao 12 j j (⟨?_,j⟩)
 unfold jX
 rw [ff (by have:=bw dw;omega)]
theorem yo{o:World}{t:Int}:Calls prog 214 #[ab t] o (aS λr w=>r= .bool (k5 t)/\w=o):=by
 refine a1 [ab t] func214 ntmps214 results214 (ar 8 j (c7 5 j (λge=>?_) (λge=>?_)))
 .refine ao 4 j j (⟨?_,j⟩)
  unfold k5
  exact aL Value.bool (by rw [oh];have a:=br ge;omega)
 refine ao 4 j j (⟨?_,j⟩)
 unfold k5
 rw [ff (by have:=bw ge;omega)]
theorem EO{o:World}{bc:Nat}{l:dP}{G:List Chunk}{p e:Int}(s:ky bc l G)(a:Own [G] o):Calls prog 203 #[Z bc,ab p,ab e] o (aS λr w=>r=ab (l.kK p e).2/\∃ah,ky bc (l.kK p e).1 ah/\C o (av [G]) [ah] w):=by
 have u:=s
 obtain⟨c,ak,S,E,n,rfl⟩:=s
 obtain⟨d,q⟩:∃d,d=av [dE bc c++(ak++(S++E))]:=⟨_,j⟩
 rw [<-q]
 have a:C o d [dE bc c++(ak++(S++E))] o:=q▸a
 have a:=a.vt
 refine a1 [Z bc,ab p,ab e] func203 ntmps203 results203 (ar 9 j (b2 9 (.bool false) j (aL Value.bool (j)) ?_))
 refine bp 2 (uV (p:=p) (e:=e)) j (λw hw=>?_)
 have hw:=hw.symm
 subst hw
 refine aT 2 j j (λg=>?_) (λg=>?_)
 .refine ao 3 j j ?_
  have hle:l.kK p e=(l,1):=aF (by simpa using g)
  rw [hle]
  exact⟨j,_,u,a.iX⟩
 obtain⟨az,h,i,rfl,t⟩:=n.ew
 have v:(a2 (l8 l.ew) p).getD (ab 0)=ab ((a2 l.ew p).getD 0):=by
  unfold l8
  rw [ne]
  cases a2 l.ew p<;>rfl
 have a:C o d ([dE bc c,[(az,h)]]++_) _:=a.front
 have a:=a.drew
 refine bz 2 j (λw=>∃ae,C o d ([dE bc c,[(az,h)]]++ae) w) ⟨_,a⟩ (af 0 3 j (be 3 j a7 (aL some i) (af 4 4 j (be 8 j a7 (aL some i) (af 9 1 j (aV 10 j (λw⟨_,a⟩=>th (key:=bu) (k:=p) t (C.aj (b:=az) a) j j) (af 11 1 j (iT 25 (ab ((a2 l.ew p).getD 0)) j v (aV 12 j (λw _=>v6 j) (dy 13 j (jt (key:=bu) (k:=p) t (a.to [(az,h)]) j j j j (λf w m a=>?_))))))))))))
 have m:cf bu f (l8 (cj l.ew p (max ((a2 l.ew p).getD 0) e))):=by
  unfold l8
  rw [<-va]
  exact m
 have a:C o d [dE bc c,ak,S,[(az,f)]] w:=a.as
 refine an (cX (ao 3 j j ?_))
 have hle:l.kK p e=({l with ew:=cj l.ew p (max ((a2 l.ew p).getD 0) e)},0):=a6 (by simpa using g)
 rw [hle]
 exact⟨j,_,⟨c,ak,S,[(az,f)],⟨n.c0,n.cl,⟨az,f,i,j,m⟩⟩,j⟩,a.iX⟩
theorem Row.setCell{e:TypeId}{size g n cap:Nat}{cur:Array Value}{xs:List Value}(h:Row e size (.slice (some ⟨g,0,none⟩) n cap) n xs [(g,.cells cur e (0,0))])(J:Nat)(u:Value):
 Row e size (.slice (some ⟨g,0,none⟩) n cap) n (xs.set J u) [(g,.cells (cur.setIfInBounds J u) e (0,0))]:=by
 obtain⟨b,c⟩:=h
 refine⟨by simpa using b,?_⟩
 rcases c with⟨a,_,_⟩|⟨p,m,o,a,l,d,f,i,k⟩
 .cases a
 .cases a
  cases l
  refine .inr ⟨g,cap,_,j,j,d,f,by simpa using i,?_⟩
  rw [<-k]
  simp [List.take_set]
theorem rZ{α:Type}{f:α->List Value}{n:Nat}:∀(l:List α),(∀x∈l,(f x).length=n)->∀(i:Nat)(a:i<l.length)(J:Nat),J<n->∀(v:Value)(y:α),f y=(f l[i]).set J v->(l.flatMap f).set (i*n+J) v=(l.set i y).flatMap f
 |[],_,i,a,_,_,_,_,_=>by simp at a
 |x::r,h,0,_,J,d,v,y,c=>by
  have b:=h x (by simp)
  simp only [jS,rl,od,fk]
  rw [List.set_append_left _ _ (by omega)]
  exact aL (·++_) c.symm
 |x::r,h,i+1,a,J,d,v,y,c=>by
  have b:=h x (by simp)
  simp only [jS,List.set_cons_succ]
  rw [tE _ _ (by rw [b,Nat.succ_mul];omega),b,show(i+1)*n+J-n=i*n+J by rw [Nat.succ_mul];omega]
  exact aL (_++·) (rZ r (λz e=>h z (by simp [e])) i (by simpa using a) J d v y (by simpa using c))
theorem Row.block{e:TypeId}{size n:Nat}{v:Value}{xs:List Value}{G:List Chunk}(h:Row e size v n xs G)(aP:0<n):∃g cap cur,v= .slice (some ⟨g,0,none⟩) n cap/\G=[(g,.cells cur e (0,0))]/\n<=cap/\cap<=maxLen/\cap*size<=cur.size:=by
 rcases h.2 with⟨_,a,_⟩|⟨g,cap,cur,a,b,c,d,f,_⟩
 .omega
 .exact⟨g,cap,cur,a,b,c,d,f⟩
theorem xR{α:Type}{p:α->Bool}{l:List α}{i:Nat}(h:∀J(a:J<l.length),J<i->p l[J]=false)(c:l.length<=i):l.findIdx? p=none:=by
 rw [List.findIdx?_eq_none_iff]
 intro x b
 obtain⟨J,a,rfl⟩:=tF.1 b
 exact h J a (by omega)
theorem xS{α:Type}{p:α->Bool}{l:List α}{i:Nat}(h:∀J(d:J<l.length),J<i->p l[J]=false)(a:i<l.length)(c:p l[i]=true):l.findIdx? p=some i:=by
 rw [pN]
 exact⟨a,c,λJ b=>by rw [h J (by omega) b];decide⟩
theorem yi{o:World}{dY:FuncId}[Entry prog dY]{bc:Array Value}{q:dJ->Bool}{T:World->Prop}(D:∀(k:World)(s:dJ),T k->Calls prog dY (#[]++ #[.agg s.cs.toArray]++bc) k (aS λr w=>r= .bool (q s)/\C k [] [] w))(A:∀w,C o [] [] w->T w){v:Value}{l:List dJ}{G:List Chunk}(B:gw v l G)(z:Holds o G):Calls prog 220 #[v,.func (.func dY) #[] bc] o (aS λr w=>((∃i:Nat,r= .int .i64 (i:Nat)/\l.findIdx? q=some i)\/(r= .int .i64 (-1)/\l.findIdx? q=none))/\C o [] [] w):=by
 have a:Own [] o:=C.start o
 obtain⟨m,n,rfl,N,H,F,_⟩:=Row.read B z
 have t:∀e∈l,(dJ.cs e).length=5:=λ_ _=>rfl
 refine a1 [.slice m l.length n,.func (.func dY) #[] bc] func220 ntmps220 results220 ?_
 refine cY 10 j (cA:=Nat) (λi=>[(0,.slice m l.length n),(1,.func (.func dY) #[] bc),(7,.int .i64 (l.length:Nat)),(8,.int .i64 (i:Nat))])
  (λi w=>i<=l.length/\(∀J(u:J<l.length),J<i->q l[J]=false)/\C o [] [] w) (λi=>l.length-i) 0 ⟨j,j,j,j,ba⟩ ⟨ch _,λJ _ h=>by omega,a⟩ ?_
 rintro i w ⟨M,g,a⟩
 refine aT 4 j j (λd=>?_) (λd=>?_)
 .have b:i<l.length:=by have:=br d;omega
  have x:=a.rd F (bU.of_nil _ _)
  refine ar 12 j (fL j j j j x (v:=ab l[i].p) (iC (f:=dJ.cs) (J:=0) l t i b (by decide) j) b (λK y L=>?_))
  subst y
  refine bS 0 (U:=l[i].cs) j j j (jE (f:=dJ.cs) x t i b) (hE j j j j (D _ l[i] (A _ a)) (λr w⟨I,ad⟩=>?_))
  subst I
  have a:=(a.aN ad).bare
  refine aT 0 j j (λc=>?_) (λc=>?_)
  .refine ao 4 j j ?_
   exact⟨.inl ⟨i,j,xS g b c⟩,a⟩
  refine bt 2 j j j (c2 i (by unfold maxLen at H;omega)) (bX 1 j (⟨i+1,⟨j,j,j,j,ba⟩,⟨b,λJ u E=>?_,a⟩,by omega⟩))
  rcases Nat.lt_succ_iff_lt_or_eq.1 E with h|rfl
  .exact g J u h
  exact c
 refine ao 4 j j ?_
 exact⟨.inr ⟨j,xR g (by have:=bw d;omega)⟩,a⟩
theorem Hh{o:World}{c d f:Nat}{p e t:Int}{s:dJ}(m:o.heap[c]? =some (.cells #[ab p] 3 (0,0)))(n:o.heap[d]? =some (.cells #[ab e] 3 (0,0)))(q:o.heap[f]? =some (.cells #[ab t] 3 (0,0))):Calls prog 221 (#[]++ #[.agg s.cs.toArray]++ #[Z c,Z d,Z f]) o (aS λr w=>r= .bool (kP p e t s)/\C o [] [] w):=by
 have a:Own [] o:=C.start o
 refine a1 [.agg s.cs.toArray,Z c,Z d,Z f] func221 ntmps221 results221 (bP 2 a j j (λk w a=>?_))
 have a:C o [] (R k s.cs.toArray 308::_) w:=a
 refine au 4 j (aw (C.aj a) j) (au 0 j (aw (a.cd m) j) (ar 2 j (c7 10 j (λg=>?_) (λg=>?_))))
 .refine au 1 j (aw (C.aj a) j) (au 0 j (aw (a.cd n) j) (ar 3 j (c7 16 j (λi=>?_) (λi=>?_))))
  .refine au 1 j (aw (C.aj a) j) (au 0 j (aw (a.cd q) j) (ao 3 j j (⟨aL Value.bool ?_,a.bare⟩)))
   unfold kP
   have b:s.p=p:=dX.1 g
   have l:s.e=e:=dX.1 i
   rw [mX]
   simp [b,l]
  refine ao 6 j j (⟨aL Value.bool ?_,a.bare⟩)
  unfold kP
  exact(ff (by have b:(s.e==e)=false:=i;rw [fq] at b;exact λh=>b (by simp [h]))).symm
 refine ao 12 j j (⟨aL Value.bool ?_,a.bare⟩)
 unfold kP
 exact(ff (by have b:(s.p==p)=false:=g;rw [fq] at b;exact λh=>b (by simp [h]))).symm
theorem o7{o:World}{bc:Nat}{c:iL}{p e t:Int}{S:List Chunk}{l:List dJ}(v:o.heap[bc]? =some (.cells (lcs c).toArray 132 (0,0)))(u:gw c.cl l S)(n:Holds o S):Calls prog 178 #[Z bc,ab p,ab e,ab t] o (aS λr w=>((∃i:Nat,r= .int .i64 (i:Nat)/\l.findIdx? (kP p e t)=some i)\/(r= .int .i64 (-1)/\l.findIdx? (kP p e t)=none))/\C o [] [] w):=by
 have a:Own [] o:=C.start o
 refine a1 [Z bc,ab p,ab e,ab t] func178 ntmps178 results178 (bP 2 a j j (λf w a=>bP 0 a j j (λg w a=>bP 0 a j j (λh w a=>?_))))
 have a:C o [] [R h #[ab t] 3,R g #[ab e] 3,R f #[ab p] 3] w:=a
 refine au 6 j (aw (a.cd v) j) (gR j j j j ?_)
 have x:=yi (dY:=221) (bc:= #[Z f,Z g,Z h]) (q:=kP p e t) (T:=λd=>d.heap[f]? =some (.cells #[ab p] 3 (0,0))/\d.heap[g]? =some (.cells #[ab e] 3 (0,0))/\d.heap[h]? =some (.cells #[ab t] 3 (0,0))) (λd s m=>Hh m.1 m.2.1 m.2.2) (λd k=>⟨k.cd (C.aj (b:=f) a),k.cd (C.aj (b:=g) a),k.cd (C.aj (b:=h) a)⟩) u (n.st a)
 refine bm 0 x j (λr w⟨z,y⟩=>?_)
 have a:=a.aN y
 refine ao 1 j j ?_
 exact⟨z,a.bare⟩
theorem Dy{o:World}{bc:Nat}{l:dP}{G:List Chunk}{p e t:Int}{dQ:Bool}(aC:ky bc l G)(aK:l.cl.length<=1000000)(a:Own [G] o):Calls prog 204 #[Z bc,ab p,ab e,ab t,.bool dQ] o (aS λr w=>r=ab (l.end_ p e t dQ).2/\∃ah,ky bc (l.end_ p e t dQ).1 ah/\C o (av [G]) [ah] w):=by
 have aD:=aC
 obtain⟨c,ak,S,E,q,rfl⟩:=aC
 obtain⟨v,aB⟩:∃v,v=av [dE bc c++(ak++(S++E))]:=⟨_,j⟩
 rw [<-aB]
 have a:C o v [dE bc c++(ak++(S++E))] o:=aB▸a
 have a:=a.vt
 obtain⟨d,aa⟩:∃d:Int,d=if dQ=true then 2 else 3:=⟨_,j⟩
 refine a1 [Z bc,ab p,ab e,ab t,.bool dQ] func204 ntmps204 results204 (ar 9 j (b2 15 (.bool false) j (aL Value.bool (j)) ?_))
 refine bp 2 (uV (p:=p) (e:=e)) j (λw hw=>?_)
 have hw:=hw.symm
 subst hw
 refine ar 3 j (c7 21 j (λT=>?_) (λT=>?_))
 .refine ao 8 j j ?_
  have D:l.end_ p e t dQ=(l,1):=if_pos (by rw [show jX p e=false from by simpa using T];rfl)
  rw [D]
  exact⟨j,_,aD,a.iX⟩
 refine bp 1 (yo (t:=t)) j (λw hw=>?_)
 have hw:=hw.symm
 subst hw
 refine aT 2 j j (λV=>?_) (λV=>?_)
 .refine ao 3 j j ?_
  have D:l.end_ p e t dQ=(l,1):=if_pos (by rw [show k5 t=false from by simpa using V];exact Bool.and_false _)
  rw [D]
  exact⟨j,_,aD,a.iX⟩
 refine aT 8 j j (λap=>?_) (λap=>?_)
 have ag:d=2:=by rw [aa];exact a6 ap
 refine ar 8 j ?_
 rcases A:l.cl.findIdx? (kP p e t) with _|Q
 .have X:=o7 (bc:=bc) (c:=c) (p:=p) (e:=e) (t:=t) (C.aj (b:=bc) a) q.cl (a.holds (G:=S) (by simp))
  refine bm 0 X j (λr w⟨y,Y⟩=>?_)
  obtain⟨y,_⟩:=y.resolve_left (λ⟨_,_,h⟩=>by rw [A] at h;cases h)
  subst y
  have a:=a.aN Y
  obtain⟨aE,aG,ax,_,_⟩:=Row.form q.cl
  refine au 12 j (aw (C.aj (b:=bc) a) (aL some ax)) (au 7 j (aw (C.aj (b:=bc) a) j) (ar 3 j (cO (c:=(⟨p,e,t,-1,0⟩:dJ).cs.toArray) j j j (λ_=>by kernel_rfl) ?_)))
  refine gv (U:=(⟨p,e,t,-1,0⟩:dJ).cs) a j j j j bR bR (λan w a=>?_)
  have aP:=bq (C.aj (b:=an) a)
  refine eK (a.to S) q.cl j j (by decide) j j j (m:=1) (news:=(⟨p,e,t,-1,0⟩:dJ).cs) j aP (vN [(⟨p,e,t,-1,0⟩:dJ)]) (by omega) (by unfold maxLen;omega) (λv1 n w M a=>?_)
  have M:gw v1 (l.cl++[(⟨p,e,t,-1,0⟩:dJ)]) n:=by
   unfold gw
   rw [ca,List.flatMap_append]
   simpa using M
  refine dD 2 (a.bf bc) j j j (Row.one M) (λw a=>?_)
  have a:C o v (dE bc ({c with cl:=v1})::_) w:=a
  obtain⟨aZ,L,n,i,P,O,H,B,F,u,a⟩:∃(aZ:iL)(L:List dJ)(n:List Chunk)(i:Nat),aZ.c0=c.c0/\aZ.ew=c.ew/\L=(l.cl++[(⟨p,e,t,-1,0⟩:dJ)])/\l.cl.length=i/\gw aZ.cl L n/\i<L.length/\C o v [dE bc aZ,ak,n,E] w:=⟨{c with cl:=v1},(l.cl++[(⟨p,e,t,-1,0⟩:dJ)]),n,l.cl.length,j,j,j,j,M,by rw [ca,List.length_singleton];omega,a.as⟩
  refine ar 3 j (b2 12 (.int .i64 (i:Nat)) j (by rw [B]) ?_)
  obtain⟨g,cap,cur,s,rfl,aA,aq,ay⟩:=Row.block F (by omega)
  have I:∀x∈L,(dJ.cs x).length=5:=λ_ _=>rfl
  have K:gw (.slice (some ⟨g,0,none⟩) L.length cap) L (R g cur 308):=s▸F
  have h1:C o v [dE bc aZ,ak,R g cur 308,E] w->World.cell? w ⟨g,i*5+4,none⟩=some (ab L[i].k):=λa=>by
   obtain⟨_,_,W,_,_,ac,_⟩:=Row.read K (a.holds (G:=R g cur 308) (by simp))
   cases W
   have h:=ac.cell (iC (f:=dJ.cs) (J:=4) L I i u (by decide) j)
   rw [add_lit] at h
   simpa using h
  have az:L[i].k=0:=by simp only [H,<-B];simp
  refine au 3 j (aw (C.aj (b:=bc) a) (aL some s)) (ar 1 j (hG j j j j u ?_))
  refine au 1 j (by have h:=h1 a;simpa [add_lit] using h) (ar 2 j (b2 61 (.bool false) j (congrArg Value.bool ((by rw [az];rfl))) ?_))
  refine ar 15 j (b2 11 (ab d) j (by rw [ag];rfl) ?_)
  refine au 3 j (aw (C.aj (b:=bc) a) (aL some s)) (ar 2 j (hG j j j j u ?_))
  refine ar 1 j (cC (a.bf g) j j j j (by omega) (λw a=>?_))
  have N:=Row.setCell K (i*5+4) (ab d)
  rw [rZ (f:=dJ.cs) L I i u 4 (by decide) (ab d) {L[i] with k:=d} j] at N
  have am:gw aZ.cl (L.set i {L[i] with k:=d}) (R g (cur.setIfInBounds (i*5+4) (ab d)) 308):=by
   unfold gw
   rw [s,hp]
   exact N
  have a:=C.gk a (show cur.setIfInBounds (0+i*5+4) (ab d)=cur.setIfInBounds (i*5+4) (ab d) by rw [fk])
  refine ao 3 j j ?_
  have D:l.end_ p e t dQ=({l with cl:=L.set i {L[i] with k:=d}},0):=by
   unfold dP.end_
   rw [aF (by rw [show jX p e=true from by simpa using T,show k5 t=true from by simpa using V];decide)]
   rw [show l.span p e t=none from A]
   dsimp only
   rw [<-aa]
   refine aL (λz=>(({l with cl:=z}:dP),(0:Int))) ?_
   simp only [H,<-B]
   simp
  rw [D]
  have a:C o v [dE bc aZ,ak,R g (cur.setIfInBounds (i*5+4) (ab d)) 308,E] w:=a.as
  exact⟨j,_,⟨aZ,ak,_,E,⟨P▸q.c0,am,O▸q.ew⟩,j⟩,a.iX⟩
 have X:=o7 (bc:=bc) (c:=c) (p:=p) (e:=e) (t:=t) (C.aj (b:=bc) a) q.cl (a.holds (G:=S) (by simp))
 refine bm 0 X j (λr w⟨y,Y⟩=>?_)
 obtain⟨aJ,y,al⟩:=y.resolve_right (λh=>by rw [A] at h;cases h.2)
 rw [A] at al
 cases al
 subst y
 have a:=a.aN Y
 refine iW 6 j j ((ff (by omega))) ?_
 obtain⟨af,aH,aI⟩:=pN.1 A
 obtain⟨aZ,L,n,i,P,O,H,B,F,u,a⟩:∃(aZ:iL)(L:List dJ)(n:List Chunk)(i:Nat),aZ.c0=c.c0/\aZ.ew=c.ew/\L=l.cl/\Q=i/\gw aZ.cl L n/\i<L.length/\C o v [dE bc aZ,ak,n,E] w:=⟨c,l.cl,S,Q,j,j,j,j,q.cl,af,a.as⟩
 refine ar 4 j (b2 12 (.int .i64 (i:Nat)) j (by rw [B]) ?_)
 obtain⟨g,cap,cur,s,rfl,aA,aq,ay⟩:=Row.block F (by omega)
 have I:∀x∈L,(dJ.cs x).length=5:=λ_ _=>rfl
 have K:gw (.slice (some ⟨g,0,none⟩) L.length cap) L (R g cur 308):=s▸F
 have h1:C o v [dE bc aZ,ak,R g cur 308,E] w->World.cell? w ⟨g,i*5+4,none⟩=some (ab L[i].k):=λa=>by
  obtain⟨_,_,W,_,_,ac,_⟩:=Row.read K (a.holds (G:=R g cur 308) (by simp))
  cases W
  have h:=ac.cell (iC (f:=dJ.cs) (J:=4) L I i u (by decide) j)
  rw [add_lit] at h
  simpa using h
 refine au 3 j (aw (C.aj (b:=bc) a) (aL some s)) (ar 1 j (hG j j j j u ?_))
 refine au 1 j (by have h:=h1 a;simpa [add_lit] using h) (ar 2 j (c7 61 j (λad=>?_) (λad=>?_)))
 refine au 3 j (aw (C.aj (b:=bc) a) (aL some s)) (ar 1 j (hG j j j j u ?_))
 refine au 1 j (by have h:=h1 a;simpa [add_lit] using h) (aT 3 j j (λae=>?_) (λae=>?_))
 .refine ao 3 j j ?_
  have D:l.end_ p e t dQ=(l,6):=by
   unfold dP.end_
   rw [aF (by rw [show jX p e=true from by simpa using T,show k5 t=true from by simpa using V];decide)]
   rw [show l.span p e t=some Q from A]
   dsimp only
   rw [mZ af,<-aa]
   subst B
   subst H
   refine a6 ⟨by simpa using ad,?_⟩
   first|rw [ag]|rw [ai]
   simpa using ae
  rw [D]
  have a:C o v [dE bc aZ,ak,R g cur 308,E] w:=a.as
  exact⟨j,_,⟨aZ,ak,_,E,⟨P▸q.c0,H▸F,O▸q.ew⟩,j⟩,a.iX⟩
 refine ar 3 j (b2 11 (ab d) j (by rw [ag];rfl) ?_)
 rotate_left
 refine ar 15 j (b2 11 (ab d) j (by rw [ag];rfl) ?_)
 rotate_left
 have ai:d=3:=by rw [aa];exact aF (by rw [show dQ=false from ap];decide)
 refine ar 7 j ?_
 rcases A:l.cl.findIdx? (kP p e t) with _|Q
 .have X:=o7 (bc:=bc) (c:=c) (p:=p) (e:=e) (t:=t) (C.aj (b:=bc) a) q.cl (a.holds (G:=S) (by simp))
  refine bm 0 X j (λr w⟨y,Y⟩=>?_)
  obtain⟨y,_⟩:=y.resolve_left (λ⟨_,_,h⟩=>by rw [A] at h;cases h)
  subst y
  have a:=a.aN Y
  obtain⟨aE,aG,ax,_,_⟩:=Row.form q.cl
  refine au 12 j (aw (C.aj (b:=bc) a) (aL some ax)) (au 7 j (aw (C.aj (b:=bc) a) j) (ar 3 j (cO (c:=(⟨p,e,t,-1,0⟩:dJ).cs.toArray) j j j (λ_=>by kernel_rfl) ?_)))
  refine gv (U:=(⟨p,e,t,-1,0⟩:dJ).cs) a j j j j bR bR (λan w a=>?_)
  have aP:=bq (C.aj (b:=an) a)
  refine eK (a.to S) q.cl j j (by decide) j j j (m:=1) (news:=(⟨p,e,t,-1,0⟩:dJ).cs) j aP (vN [(⟨p,e,t,-1,0⟩:dJ)]) (by omega) (by unfold maxLen;omega) (λv1 n w M a=>?_)
  have M:gw v1 (l.cl++[(⟨p,e,t,-1,0⟩:dJ)]) n:=by
   unfold gw
   rw [ca,List.flatMap_append]
   simpa using M
  refine dD 2 (a.bf bc) j j j (Row.one M) (λw a=>?_)
  have a:C o v (dE bc ({c with cl:=v1})::_) w:=a
  obtain⟨aZ,L,n,i,P,O,H,B,F,u,a⟩:∃(aZ:iL)(L:List dJ)(n:List Chunk)(i:Nat),aZ.c0=c.c0/\aZ.ew=c.ew/\L=(l.cl++[(⟨p,e,t,-1,0⟩:dJ)])/\l.cl.length=i/\gw aZ.cl L n/\i<L.length/\C o v [dE bc aZ,ak,n,E] w:=⟨{c with cl:=v1},(l.cl++[(⟨p,e,t,-1,0⟩:dJ)]),n,l.cl.length,j,j,j,j,M,by rw [ca,List.length_singleton];omega,a.as⟩
  refine ar 3 j (b2 12 (.int .i64 (i:Nat)) j (by rw [B]) ?_)
  obtain⟨g,cap,cur,s,rfl,aA,aq,ay⟩:=Row.block F (by omega)
  have I:∀x∈L,(dJ.cs x).length=5:=λ_ _=>rfl
  have K:gw (.slice (some ⟨g,0,none⟩) L.length cap) L (R g cur 308):=s▸F
  have h1:C o v [dE bc aZ,ak,R g cur 308,E] w->World.cell? w ⟨g,i*5+4,none⟩=some (ab L[i].k):=λa=>by
   obtain⟨_,_,W,_,_,ac,_⟩:=Row.read K (a.holds (G:=R g cur 308) (by simp))
   cases W
   have h:=ac.cell (iC (f:=dJ.cs) (J:=4) L I i u (by decide) j)
   rw [add_lit] at h
   simpa using h
  have az:L[i].k=0:=by simp only [H,<-B];simp
  refine au 3 j (aw (C.aj (b:=bc) a) (aL some s)) (ar 1 j (hG j j j j u ?_))
  refine au 1 j (by have h:=h1 a;simpa [add_lit] using h) (ar 2 j (b2 61 (.bool false) j (congrArg Value.bool ((by rw [az];rfl))) ?_))
  refine ar 15 j (b2 11 (ab d) j (by rw [ai];rfl) ?_)
  refine au 3 j (aw (C.aj (b:=bc) a) (aL some s)) (ar 2 j (hG j j j j u ?_))
  refine ar 1 j (cC (a.bf g) j j j j (by omega) (λw a=>?_))
  have N:=Row.setCell K (i*5+4) (ab d)
  rw [rZ (f:=dJ.cs) L I i u 4 (by decide) (ab d) {L[i] with k:=d} j] at N
  have am:gw aZ.cl (L.set i {L[i] with k:=d}) (R g (cur.setIfInBounds (i*5+4) (ab d)) 308):=by
   unfold gw
   rw [s,hp]
   exact N
  have a:=C.gk a (show cur.setIfInBounds (0+i*5+4) (ab d)=cur.setIfInBounds (i*5+4) (ab d) by rw [fk])
  refine ao 3 j j ?_
  have D:l.end_ p e t dQ=({l with cl:=L.set i {L[i] with k:=d}},0):=by
   unfold dP.end_
   rw [aF (by rw [show jX p e=true from by simpa using T,show k5 t=true from by simpa using V];decide)]
   rw [show l.span p e t=none from A]
   dsimp only
   rw [<-aa]
   refine aL (λz=>(({l with cl:=z}:dP),(0:Int))) ?_
   simp only [H,<-B]
   simp
  rw [D]
  have a:C o v [dE bc aZ,ak,R g (cur.setIfInBounds (i*5+4) (ab d)) 308,E] w:=a.as
  exact⟨j,_,⟨aZ,ak,_,E,⟨P▸q.c0,am,O▸q.ew⟩,j⟩,a.iX⟩
 have X:=o7 (bc:=bc) (c:=c) (p:=p) (e:=e) (t:=t) (C.aj (b:=bc) a) q.cl (a.holds (G:=S) (by simp))
 refine bm 0 X j (λr w⟨y,Y⟩=>?_)
 obtain⟨aJ,y,al⟩:=y.resolve_right (λh=>by rw [A] at h;cases h.2)
 rw [A] at al
 cases al
 subst y
 have a:=a.aN Y
 refine iW 6 j j ((ff (by omega))) ?_
 obtain⟨af,aH,aI⟩:=pN.1 A
 obtain⟨aZ,L,n,i,P,O,H,B,F,u,a⟩:∃(aZ:iL)(L:List dJ)(n:List Chunk)(i:Nat),aZ.c0=c.c0/\aZ.ew=c.ew/\L=l.cl/\Q=i/\gw aZ.cl L n/\i<L.length/\C o v [dE bc aZ,ak,n,E] w:=⟨c,l.cl,S,Q,j,j,j,j,q.cl,af,a.as⟩
 refine ar 4 j (b2 12 (.int .i64 (i:Nat)) j (by rw [B]) ?_)
 obtain⟨g,cap,cur,s,rfl,aA,aq,ay⟩:=Row.block F (by omega)
 have I:∀x∈L,(dJ.cs x).length=5:=λ_ _=>rfl
 have K:gw (.slice (some ⟨g,0,none⟩) L.length cap) L (R g cur 308):=s▸F
 have h1:C o v [dE bc aZ,ak,R g cur 308,E] w->World.cell? w ⟨g,i*5+4,none⟩=some (ab L[i].k):=λa=>by
  obtain⟨_,_,W,_,_,ac,_⟩:=Row.read K (a.holds (G:=R g cur 308) (by simp))
  cases W
  have h:=ac.cell (iC (f:=dJ.cs) (J:=4) L I i u (by decide) j)
  rw [add_lit] at h
  simpa using h
 refine au 3 j (aw (C.aj (b:=bc) a) (aL some s)) (ar 1 j (hG j j j j u ?_))
 refine au 1 j (by have h:=h1 a;simpa [add_lit] using h) (ar 2 j (c7 61 j (λad=>?_) (λad=>?_)))
 refine au 3 j (aw (C.aj (b:=bc) a) (aL some s)) (ar 1 j (hG j j j j u ?_))
 refine au 1 j (by have h:=h1 a;simpa [add_lit] using h) (aT 3 j j (λae=>?_) (λae=>?_))
 .refine ao 3 j j ?_
  have D:l.end_ p e t dQ=(l,6):=by
   unfold dP.end_
   rw [aF (by rw [show jX p e=true from by simpa using T,show k5 t=true from by simpa using V];decide)]
   rw [show l.span p e t=some Q from A]
   dsimp only
   rw [mZ af,<-aa]
   subst B
   subst H
   refine a6 ⟨by simpa using ad,?_⟩
   first|rw [ag]|rw [ai]
   simpa using ae
  rw [D]
  have a:C o v [dE bc aZ,ak,R g cur 308,E] w:=a.as
  exact⟨j,_,⟨aZ,ak,_,E,⟨P▸q.c0,H▸F,O▸q.ew⟩,j⟩,a.iX⟩
 refine ar 3 j (b2 11 (ab d) j (by rw [ai];rfl) ?_)
 rotate_left
 refine ar 15 j (b2 11 (ab d) j (by rw [ai];rfl) ?_)
 rotate_left
 all_goals
  rotate_left
  all_goals
   refine au 3 j (aw (C.aj (b:=bc) a) (aL some s)) (ar 2 j (hG j j j j u ?_))
   refine ar 1 j (cC (a.bf g) j j j j (by omega) (λw a=>?_))
   have N:=Row.setCell K (i*5+4) (ab d)
   rw [rZ (f:=dJ.cs) L I i u 4 (by decide) (ab d) {L[i] with k:=d} j] at N
   have am:gw aZ.cl (L.set i {L[i] with k:=d}) (R g (cur.setIfInBounds (i*5+4) (ab d)) 308):=by
    unfold gw
    rw [s,hp]
    exact N
   have a:=C.gk a (show cur.setIfInBounds (0+i*5+4) (ab d)=cur.setIfInBounds (i*5+4) (ab d) by rw [fk])
   refine ao 3 j j ?_
   have D:l.end_ p e t dQ=({l with cl:=L.set i {L[i] with k:=d}},0):=by
    unfold dP.end_
    rw [aF (by rw [show jX p e=true from by simpa using T,show k5 t=true from by simpa using V];decide)]
    rw [show l.span p e t=some Q from A]
    dsimp only
    rw [mZ af,<-aa]
    subst B
    subst H
    refine aF ?_
    first|exact λh=>h.1 (by simpa using ad)|(rintro⟨_,h⟩;(first|rw [ag] at h|rw [ai] at h);exact h (by simpa using ae))
   rw [D]
   have a:C o v [dE bc aZ,ak,R g (cur.setIfInBounds (i*5+4) (ab d)) 308,E] w:=a.as
   exact⟨j,_,⟨aZ,ak,_,E,⟨P▸q.c0,am,O▸q.ew⟩,j⟩,a.iX⟩
structure cM where
 log:dP
 acc:List b9
 aH:List (Int×List (Int×aG))
def cM.new:cM:=⟨dP.new,[],[]⟩
abbrev ph(z:Int):Int:=IntKind.i64.wrap z
def er(m:b9):Int:=ph (ph (ph (ph (ph (ph (m.k*8)+m.p)*101)+m.e)*101)+m.t)
def k6(g:al)(m:b9)(v:aG):Bool:=m.ok&&(v.k==(dm g m v.f).k)&&(v.s==(dm g m v.f).s)&&(v.v==(dm g m v.f).v)&&(v.sum==(dm g m v.f).sum)&&cP g v
def cM.b5(b:cM)(m:b9):cM×Int:=
 if m.k=1 then({b with log:=(b.log.kK m.p m.e).1},(b.log.kK m.p m.e).2)
 else({b with log:=(b.log.end_ m.p m.e m.t (m.k==2)).1},(b.log.end_ m.p m.e m.t (m.k==2)).2)
def cM.accept(g:al)(b:cM)(m:b9)(l:List aG):cM×Int:=
 if m.ok=false then(b,1) else if pV g m l=false then(b,9) else if m∈b.acc then(b,0)
 else if(b.b5 m).2≠0 then b.b5 m
 else({(b.b5 m).1 with acc:=b.acc++[m],aH:=fS b.aH (er m)},0)
def fJ(l:List (Int×aG)):List aG:=(db l).map Prod.snd
def iQ(l:List (Int×aG))(v:aG):List (Int×aG):=if(a2 l v.f).isSome=true then l else cj l v.f v
def cM.di(g:al)(b:cM)(m:b9)(v:aG):cM×Int:=
 if m.ok=false then(b,1) else if k6 g m v=false then(b,9) else if m∈b.acc then(b,0)
 else if(a2 b.aH (er m)).isSome=false/\64<=b.aH.length then(b,3)
 else if pV g m (fJ (iQ ((a2 b.aH (er m)).getD []) v))=true then
  ((cM.accept g {b with aH:=fS (cj b.aH (er m) (iQ ((a2 b.aH (er m)).getD []) v)) (er m)} m (fJ (iQ ((a2 b.aH (er m)).getD []) v))).1,0)
 else({b with aH:=cj b.aH (er m) (iQ ((a2 b.aH (er m)).getD []) v)},0)
def ja(v:Value)(x:aG)(G:List Chunk):Prop:=v= .agg x.cs.toArray/\G=[]/\x.ok
def pD(v:Value)(l:List (Int×aG))(G:List Chunk):Prop:=fp 268 ja v l G
structure j7 where
 bc:Nat
 acc:Value
 aH:Value
abbrev t6(g:al)(c:j7):List Value:=[g.p,.pointer (some ⟨c.bc,0,none⟩),c.acc,c.aH]
abbrev cm(g:al)(bh:Nat)(c:j7):List Chunk:=R bh (t6 g c).toArray 81
structure AT(g:al)(b:cM)(c:j7)(L M V:List Chunk):Prop where
 log:ky c.bc b.log L
 acc:ez c.acc b.acc M
 aH:fp 229 pD c.aH b.aH V
def jK(g:al)(bh:Nat)(b:cM)(G:List Chunk):Prop:=∃(c:j7)(L M V:List Chunk),AT g b c L M V/\G=cm g bh c++(L++(M++V))
theorem C.vs{g:al}{bh:Nat}{c:j7}{L M V:List Chunk}{ae:List (List Chunk)}{o w:World}{F:List Nat}(h:C o F ((cm g bh c++(L++(M++V)))::ae) w):C o F (cm g bh c::L::M::V::ae) w:=h.perm (by simp)
theorem C.k7{g:al}{bh:Nat}{c:j7}{L M V:List Chunk}{ae:List (List Chunk)}{o w:World}{F:List Nat}(h:C o F (cm g bh c::L::M::V::ae) w):C o F ((cm g bh c++(L++(M++V)))::ae) w:=h.perm (by simp)
theorem ve{o:World}{g:al}:Calls prog 30 #[g.p] o (aS λr w=>∃bh G,r=Z bh/\jK g bh cM.new G/\C o [] [G] w):=by
 have a:Own [] o:=C.start o
 refine a1 [g.p] func30 ntmps30 results30 (bm 6 Fv j (λr w⟨bc,e,h,k,f⟩=>?_))
 subst h
 have a:=a.aN f
 refine bm 0 FC j (λr w⟨b,i,h,l,f⟩=>?_)
 subst h
 have a:=a.aN f
 refine cO (c:=(t6 g (⟨bc,.slice none 0 0,Z b⟩:j7)).toArray) j j j (λ_=>by kernel_rfl) (bP 0 a j j (λd w a=>ao 1 j j ?_))
 have a:C o [] (cm g d (⟨bc,.slice none 0 0,Z b⟩:j7)::_) w:=a
 have a:C o [] [cm g d (⟨bc,.slice none 0 0,Z b⟩:j7),e,[],ay 229 b i (.map #[] 0)] w:=C.perm (A:=[cm g d (⟨bc,.slice none 0 0,Z b⟩:j7),e,ay 229 b i (.map #[] 0)]) a.as (by simp)
 exact⟨d,_,j,⟨(⟨bc,.slice none 0 0,Z b⟩:j7),e,[],_,⟨k,ez.nil,fp.new l⟩,j⟩,a.k7⟩
theorem qm{o:World}{m:b9}:Calls prog 95 #[fT m] o (aS λr w=>r=ab (er m)/\C o [] [] w):=by
 have a:Own [] o:=C.start o
 refine a1 [fT m] func95 ntmps95 results95 (bP 2 a j j (λax w a=>?_))
 have a:C o [] (R ax m.cs.toArray 103::_) w:=a
 refine au 4 j (aw (C.aj a) j) (au 2 j (aw (C.aj a) j) (au 3 j (aw (C.aj a) j) (au 3 j (aw (C.aj a) j) (ao 2 j j ?_))))
 exact⟨j,a.bare⟩
theorem yk{o:World}{m:b9}:Calls prog 91 #[fT m] o (aS λr w=>r= .bool m.ok/\C o [] [] w):=by
 have a:Own [] o:=C.start o
 refine a1 [fT m] func91 ntmps91 results91 (bP 2 a j j (λax w a=>?_))
 have a:C o [] (R ax m.cs.toArray 103::_) w:=a
 refine bS 3 (U:=m.cs) j j j (bq (C.aj (b:=ax) a)) ?_
 have c:=ur (o:=w) (k:=m.k) (p:=m.p) (e:=m.e) (t:=m.t)
 refine bm 0 c j (λr w⟨v,G,d,f,ad⟩=>?_)
 subst d
 have a:=a.aN ad
 refine ao 10 j j ?_
 exact⟨aL Value.bool (vm m.ok),a.bare⟩
theorem DF(a b:b9)(w:World):(Op.equalIn 10000 103 (.agg a.cs.toArray) (.agg b.cs.toArray)).run prog w= .ok (decide (a=b)) w:=xG a b w
theorem D9{l:List b9}{k:b9}{i:Nat}(h:i=l.length)(aP:k∉l.take i):k∉l:=by subst h;rwa [gy] at aP
theorem Ef{o:World}{v:Value}{l:List b9}{G:List Chunk}{m:b9}(z:ez v l G)(y:Holds o G):Calls prog 156 #[v,fT m] o (aS λr w=>(∃J:Int,r= .int .i64 J/\(0<=J↔m∈l))/\C o [] [] w):=by
 have c:Own [] o:=C.start o
 obtain⟨k,s,rfl,H,F,u,_⟩:=Row.read z y
 have t:∀e∈l,(b9.cs e).length=4:=λ_ _=>rfl
 refine a1 [.slice k l.length s,fT m] func156 ntmps156 results156 ?_
 refine bP 2 c j j (λd w c=>?_)
 have c:C o [] (R d m.cs.toArray 103::_) w:=c
 refine cY 8 j (cA:=Nat×Option Addr) (λi=>[(0,.slice k l.length s),(3,Z d),(7,.int .i64 (l.length:Nat)),(8,.int .i64 (i.1:Nat))]) (λi w=>i.1<=l.length/\m∉l.take i.1/\C o [] [R d m.cs.toArray 103] w) (λi=>l.length-i.1) (0,k) ⟨j,j,j,j,ba⟩ ⟨ch _,by simp,c⟩ ?_
 rintro⟨i,_⟩ w ⟨B,aP,c⟩
 dsimp only at B aP c⊢
 refine aT 4 j j (λp=>?_) (λp=>?_)
 .have g:i<l.length:=by have:=br p;omega
  have c:C o [] ([R d m.cs.toArray 103]++_) _:=c.front
  have c:=c.drew
  refine bz 8 j (λw=>(∃ae,C o [] ([R d m.cs.toArray 103]++ae) w)) ⟨_,c⟩ ?_
  refine aV 0 j (λw⟨_,c⟩=>dc (U:=m.cs) j j j (bq (C.aj (b:=d) c))) ?_
  refine af 1 2 j ?_
  obtain⟨q,x⟩:∃q,k=some q:=by
   obtain⟨a,A,_⟩:=u (i*4+0) _ (iC (f:=b9.cs) (J:=0) l t i g (by decide) j)
   exact⟨a,A⟩
  subst x
  refine aV 3 j (λw _=>q3 j j g) ?_
  refine aV 4 j (λw⟨_,c⟩=>dc (U:=l[i].cs) j j j (jE (f:=b9.cs) (c.rd u (bU.of_nil _ _)) t i g)) ?_
  refine aV 5 j (λw _=>q2 j j (by kernel_rfl) (λw=>DF m l[i] w)) ?_
  refine bO ?_
  refine aT 0 j j (λn=>?_) (λn=>?_)
  .refine ao 4 j j ?_
   have he:m=l[i]:=br n
   refine⟨⟨_,j,?_⟩,c.bare⟩
   constructor
   .intro _;rw [he];exact ek g
   intro _;omega
  refine bt 2 j j j (c2 i (by unfold maxLen at F;omega)) ?_
  refine bX 1 j ?_
  refine⟨(i+1,none),⟨j,j,j,j,ba⟩,⟨g,?_,c.as⟩,by dsimp only;omega⟩
  dsimp only
  rw [fF g,dA]
  have E:m≠l[i]:=bw n
  simp [aP,E]
 refine ao 4 j j ?_
 have D:i=l.length:=by have:=bw p;omega
 refine⟨⟨-1,j,?_⟩,c.bare⟩
 constructor
 .intro h;omega
 intro h;exact absurd h (D9 D aP)
theorem xk{o:World}{v:Value}{l:List b9}{G:List Chunk}{m:b9}(g:ez v l G)(f:Holds o G):Calls prog 93 #[v,fT m] o (aS λr w=>r= .bool (decide (m∈l))/\C o [] [] w):=by
 have a:Own [] o:=C.start o
 refine a1 [v,fT m] func93 ntmps93 results93 ?_
 refine bP 2 a j j (λc w a=>?_)
 have a:C o [] (R c m.cs.toArray 103::_) w:=a
 refine bS 4 (U:=m.cs) j j j (bq (C.aj (b:=c) a)) ?_
 have i:=Ef (m:=m) g (f.st a)
 refine bm 0 i j (λr w⟨⟨J,k,d⟩,ad⟩=>?_)
 subst k
 have a:=a.aN ad
 refine ao 2 j j ?_
 refine⟨aL Value.bool ?_,a.bare⟩
 by_cases h:m∈l
 .rw [jb h];exact jb (d.2 h)
 rw [ff h];exact ff (λe=>h (d.1 e))
theorem Ep{o:World}{g:al}{bh:Nat}{c:j7}{m:b9}{v:aG}(A:o.heap[bh]? =some (.cells (t6 g c).toArray 81 (0,0)))(y:g.at o)(z:g.ok)(l:v.ok):Calls prog 92 #[Z bh,fT m,.agg v.cs.toArray] o (aS λr w=>r= .bool (k6 g m v)/\C o [] [] w):=by
 have a:Own [] o:=C.start o
 refine a1 [Z bh,fT m,.agg v.cs.toArray] func92 ntmps92 results92 (bP 2 a j j (λe w a=>?_))
 have a:C o [] (R e m.cs.toArray 103::_) w:=a
 refine bP 0 a j j (λd w a=>?_)
 have a:C o [] [R d v.cs.toArray 108,R e m.cs.toArray 103] w:=a
 have a:C o [] ([R e m.cs.toArray 103,R d v.cs.toArray 108]++_) _:=a.front
 have a:=a.drew
 refine bz 2 j (λw=>∃ae,C o [] ([R e m.cs.toArray 103,R d v.cs.toArray 108]++ae) w) ⟨_,a⟩ (af 0 3 j (bT 3 j (λw⟨_,a⟩=>aw (a.cd A) j) (aV 4 j (λw⟨_,a⟩=>dc (U:=m.cs) j j j (bq (C.aj (b:=e) a))) (af 5 1 j (be 6 j a7 (v.eM l) (aJ 7 11 j j ?_ ?_))))))
 have n:=se (y.st a (al.off.nil g)) z (m:=m) (f:=v.f)
 refine bF j j j n (λw p=>?_)
 have a:=a.aN p
 have a:C o [] ([R e m.cs.toArray 103,R d v.cs.toArray 108]++_) w:=a.front
 refine an ⟨⟨_,a⟩,?_⟩
 refine af 8 3 j (aW 11 j (en a j j (λh w a=>?_)))
 have a:C o [] (R h lT.cs.toArray 108::_) w:=a
 have a:C o [] ([R e m.cs.toArray 103,R d v.cs.toArray 108]++_) w:=a.front
 refine an ⟨⟨_,a⟩,?_⟩
 rotate_left
 refine en a j j (λh w a=>?_)
 have a:C o [] (R h lT.cs.toArray 108::_) w:=a
 have a:C o [] ([R e m.cs.toArray 103,R d v.cs.toArray 108]++_) w:=a.front
 refine an ⟨⟨_,a⟩,?_⟩
 refine aW 7 j ?_
 have n:=se (y.st a (al.off.nil g)) z (m:=m) (f:=v.f)
 refine bF j j j n (λw p=>?_)
 have a:=a.aN p
 have a:C o [] ([R e m.cs.toArray 103,R d v.cs.toArray 108]++_) w:=a.front
 refine an ⟨⟨_,a⟩,?_⟩
 refine af 8 3 j ?_
 rotate_left
 all_goals
  refine aW 12 j (c5 (a.bf h) j j j (by simpa using(dm g m v.f).one) (by rw [List.size_toArray];exact(dm g m v.f).len (iY g m v.f)) bR (λw a=>?_))
  have a:=C.whole (U:=(dm g m v.f).cs) a (by rw [(dm g m v.f).len (iY g m v.f)];rfl)
  have a:C o [] (R h (dm g m v.f).cs.toArray 108::_) w:=a
  have a:C o [] ([R e m.cs.toArray 103,R d v.cs.toArray 108]++_) w:=a.front
  refine an ⟨⟨_,a⟩,?_⟩
  refine af 13 1 j (bO ?_)
  have a:C o [] ([R d v.cs.toArray 108,R h (dm g m v.f).cs.toArray 108]++_) _:=a.front
  have a:=a.drew
  refine bz 1 j (λw=>∃ae,C o [] ([R d v.cs.toArray 108,R h (dm g m v.f).cs.toArray 108]++ae) w) ⟨_,a⟩ (af 0 2 j (ef 21 j (λq=>?_) (λq=>?_)))
  .refine af 2 1 j (be 3 j a7 v.gU (af 4 1 j (be 5 j a7 (dm g m v.f).gU (af 6 3 j (ef 28 j (λt=>?_) (λt=>?_))))))
   .refine af 9 1 j (be 10 j a7 v.aZ (af 11 1 j (be 12 j a7 (dm g m v.f).aZ (af 13 3 j (ef 35 j (λeM=>?_) (λeM=>?_))))))
    .refine af 16 1 j (be 17 j a7 v.dn (af 18 1 j (be 19 j a7 (dm g m v.f).dn (af 20 3 j (ef 42 j (λu=>?_) (λu=>?_))))))
     .refine af 23 1 j (aV 24 j (λw⟨_,a⟩=>dc (U:=aE v.sum) j j (by rw [ds];exact l.1) (v.sF l (C.aj (b:=d) a))) (af 25 1 j (aV 26 j (λw⟨_,a⟩=>dc (U:=aE (dm g m v.f).sum) j j (by rw [ds];exact(iY g m v.f).1) ((dm g m v.f).sF (iY g m v.f) (C.aj (b:=h) a))) (aV 27 j (λw _=>q2 j j (by kernel_rfl) (λw=>p9 v.sum (dm g m v.f).sum l.1 (iY g m v.f).1 9998 w)) (af 28 2 j (ef 49 j (λx=>?_) (λx=>?_)))))))
      .refine af 30 3 j (bT 33 j (λw⟨_,a⟩=>aw (a.cd A) j) (aV 34 j (λw⟨_,a⟩=>dc (U:=v.cs) j j (v.len l) (bq (C.aj (b:=d) a))) (aW 35 j ?_)))
       have n:=r3 (y.st a (al.off.nil g)) z l
       refine bF j j j n (λw p=>?_)
       have a:=a.aN p
       have a:C o [] ([R d v.cs.toArray 108,R h (dm g m v.f).cs.toArray 108]++_) w:=a.front
       refine an ⟨⟨_,a⟩,?_⟩
       refine af 36 2 j (bO (ao 0 j j (⟨aL Value.bool ?_,a.bare⟩)))
       unfold k6
       rw [show m.ok=true from q,show(v.k==(dm g m v.f).k)=true from t,show(v.s==(dm g m v.f).s)=true from eM,show(v.v==(dm g m v.f).v)=true from u,show(v.sum==(dm g m v.f).sum)=true from x]
       simp
      refine af 30 8 j (bO (ao 0 j j (⟨aL Value.bool ?_,a.bare⟩)))
      unfold k6
      have i:(v.sum==(dm g m v.f).sum)=false:=x
      rw [i]
      simp
     refine af 23 15 j (bO (ao 0 j j (⟨aL Value.bool ?_,a.bare⟩)))
     unfold k6
     have i:(v.v==(dm g m v.f).v)=false:=u
     rw [i]
     simp
    refine af 16 22 j (bO (ao 0 j j (⟨aL Value.bool ?_,a.bare⟩)))
    unfold k6
    have i:(v.s==(dm g m v.f).s)=false:=eM
    rw [i]
    simp
   refine af 9 29 j (bO (ao 0 j j (⟨aL Value.bool ?_,a.bare⟩)))
   unfold k6
   have i:(v.k==(dm g m v.f).k)=false:=t
   rw [i]
   simp
  refine af 2 36 j (bO (ao 0 j j (⟨aL Value.bool ?_,a.bare⟩)))
  unfold k6
  rw [show m.ok=false from q]
  rfl
theorem sa{o:World}{p:Option Addr}{m:List (Int×Value)}{t:List (Int×aG)}{H:List Chunk}(E:dG 268 o p m)(q:c6 ja m t H)(X:t.length<=100000):Calls prog 101 #[.pointer p] o (aS λr w=>∃ak,ej r (fJ t) ak/\C o [] [ak] w):=by
 have c:Own [] o:=C.start o
 refine iq [.pointer p] (fn:=f101) func101 ntmps101 (cn 5 c j (λe w c=>?_))
 have c:C o [] [R e #[.slice none 0 0] 92,[]] w:=(C.empty c).f1
 refine bm 4 (BV (o:=w) (p:=p)) j (λr w⟨u,x,K,ad⟩=>?_)
 subst K
 have F:=(E.st c).st ad
 have c:=c.aN ad
 have c:C o [] ([R u #[.pointer p] 154,[(x,.cells #[.func (.func 200) #[] #[]] 36 (0,0))]]++[R e #[.slice none 0 0] 92,[]]) w:=c
 refine jY 1 j (Gu (by have W:=q.len;omega)) j (by have:=c.size;simpa using this) c j (λ_=>rfl) (by intro p s;simp at s;rcases s with rfl|rfl<;>rfl)
  (λpre ae=>∃v ak,ae=[R e #[v] 92,ak]/\ej v (((db t).take pre.length).map Prod.snd) ak) (λ_ _=>False) ⟨_,[],j,Row.nil 108 68⟩ (λL aI B=>F.st B) (λ_ _ _ _=>trivial) ?_ ?_ (λ_ _ h=>h.elim) (λ_ _ _ h=>h.elim)
 .rintro y pre ⟨O,aa⟩ P L ab A ⟨v,ak,rfl,i⟩ c
  obtain⟨t1,t2,d,T,S,V,n,N,Y,G⟩:=q.n0 A
  obtain⟨rfl,rfl,g⟩:=G
  have n:db t=t1++(O,d)::t2:=n
  have Z:((db t).take pre.length).length<=100000:=by rw [hi,hM];omega
  have J:(((db t).take (pre.length+1)).map Prod.snd)=(((db t).take pre.length).map Prod.snd)++[d]:=by
   rw [n,<-N,l2,pH,List.take_of_length_le (by omega)]
   simp
  have c:=C.gs c
  refine cn 1 c j (λl w c=>cp 0 (c.bf l) j j j (by simpa using d.one) (by rw [List.size_toArray];exact d.len g) (λw c=>?_))
  have c:=C.whole (U:=d.cs) c (by rw [d.len g];rfl)
  have c:C _ _ [R l d.cs.toArray 108,R e #[v] 92,ak] w:=c.as
  refine bJ 0 j (⟨j,_,c,λL ac c=>?_⟩)
  have c:=C.gs c
  refine au 2 j (aw (C.aj (b:=e) c) j) (bS 0 (U:=d.cs) j j (d.len g) (bq (C.aj (b:=l) c)) (gv (U:=d.cs) c j j j (d.len g) (by decide) (by decide) (λz w c=>?_)))
  have aP:=bq (C.aj (b:=z) c)
  refine eK (c.to ak) i j j (by decide) j j j (m:=1) (news:=d.cs) (d.len g) aP (by have:=sY [d];simpa [vcs] using this) (by simp only [List.length_map];omega) (by unfold maxLen;simp only [List.length_map];omega) (λv1 f w k c=>?_)
  have k:ej v1 ((((db t).take pre.length).map Prod.snd)++[d]) f:=by
   show Row 108 68 v1 _ (vcs _) f
   rw [ca,List.length_singleton,sZ]
   exact k
  refine dD 0 (c.bf e) j j j (Row.one k) (λw c=>?_)
  have c:C _ _ (R e #[v1] 92::_) w:=c
  have c:C _ _ [R e #[v1] 92,f] w:=c.as
  refine bJ 0 j (⟨[R e #[v1] 92,f],c,v1,f,j,?_⟩)
  rw [ca,List.length_singleton,J]
  exact k
 rintro xs Q w D ⟨v,ak,rfl,i⟩ c
 rw [D,iv,q.len,il (by rw [hM];exact cB _)] at i
 have c:C o [] [R u #[.pointer p] 154,[(x,.cells #[.func (.func 200) #[] #[]] 36 (0,0))],R e #[v] 92,ak] w:=c
 refine au 2 j (aw (C.aj (b:=e) c) j) (bJ 1 j ⟨v,λw M=>?_⟩)
 have c:=M.st c (cB _)
 refine⟨λa I=>i4 (fn:=f101) I j _ _,?_⟩
 exact⟨ak,i,c.as⟩
theorem Dn{o:World}{g:al}{bh:Nat}{b:cM}{c:j7}{L:List Chunk}{m:b9}(u:ky c.bc b.log L)(v:b.log.cl.length<=1000000)(a:Own [cm g bh c,L] o):Calls prog 159 #[Z bh,fT m] o (aS λr w=>r=ab (b.b5 m).2/\∃h,ky c.bc (b.b5 m).1.log h/\C o (av [cm g bh c,L]) [cm g bh c,h] w):=by
 obtain⟨d,s⟩:∃d,d=av [cm g bh c,L]:=⟨_,j⟩
 rw [<-s]
 have a:C o d [cm g bh c,L] o:=s▸a
 refine a1 [Z bh,fT m] func159 ntmps159 results159 (bP 2 a j j (λf w a=>?_))
 have a:C o d [R f m.cs.toArray 103,cm g bh c,L] w:=a
 refine au 5 j (aw (C.aj (b:=f) a) j) (aT 1 j j (λdw=>?_) (λdw=>?_))
 .have a:C o d ([R f m.cs.toArray 103,cm g bh c]++_) _:=a.front
  have a:=a.drew
  refine bz 1 j (λw=>∃ae,C o d ([R f m.cs.toArray 103,cm g bh c]++ae) w) ⟨_,a⟩ (af 0 3 j (be 3 j a7 j (af 4 1 j (be 5 j a7 j (af 6 1 j (be 7 j a7 j (aW 8 j ?_)))))))
  have l:=EO (p:=m.p) (e:=m.e) u (a.ours (cI:=[L]))
  refine bF j j j l (λw⟨h,i,q⟩=>?_)
  have a:=a.b4 q
  have a:C o d ([R f m.cs.toArray 103,cm g bh c]++_) w:=a.front
  refine an ⟨⟨_,a⟩,?_⟩
  refine af 9 1 j (bO (ao 0 j j ?_))
  have n:b.b5 m=({b with log:=(b.log.kK m.p m.e).1},(b.log.kK m.p m.e).2):=a6 (dX.1 dw)
  rw [n]
  exact⟨j,h,i,a.as⟩
 have a:C o d ([R f m.cs.toArray 103,cm g bh c]++_) _:=a.front
 have a:=a.drew
 refine bz 2 j (λw=>∃ae,C o d ([R f m.cs.toArray 103,cm g bh c]++ae) w) ⟨_,a⟩ (af 0 3 j (be 3 j a7 j (af 4 1 j (be 5 j a7 j (af 6 1 j (be 7 j a7 j (af 8 1 j (be 9 j a7 j (af 10 1 j (be 11 j a7 j (af 12 1 j (aW 13 j ?_))))))))))))
 have l:=Dy (p:=m.p) (e:=m.e) (t:=m.t) (dQ:=m.k==2) u v (a.ours (cI:=[L]))
 refine bF j j j l (λw⟨h,i,q⟩=>?_)
 have a:=a.b4 q
 have a:C o d ([R f m.cs.toArray 103,cm g bh c]++_) w:=a.front
 refine an ⟨⟨_,a⟩,?_⟩
 refine af 14 1 j (bO (ao 0 j j ?_))
 have n:b.b5 m=({b with log:=(b.log.end_ m.p m.e m.t (m.k==2)).1},(b.log.end_ m.p m.e m.t (m.k==2)).2):=aF (by simpa using dw)
 rw [n]
 exact⟨j,h,i,a.as⟩
theorem cM.xz(b:cM)(m:b9):(b.b5 m).1.acc=b.acc/\(b.b5 m).1.aH=b.aH:=by unfold cM.b5;split<;>exact⟨j,j⟩
theorem p4{o w:World}{F:List Nat}{ae:List (List Chunk)}{a:Nat}{e:TypeId}{m:b9}{u:Value}(b:C o F ([(a,.cells (m.cs++[u]).toArray e (0,0))]::ae) w):Rd w (some ⟨a,0,none⟩) m.cs:=b.i3 (off:=0) (U:=m.cs) (λJ v c=>by rw [fk];exact rO c)
theorem wz{o:World}{g:al}{bh:Nat}{b:cM}{G:List Chunk}{m:b9}{B:Option Addr}{l:List aG}{d:Nat}(N:jK g bh b G)(Y:b.log.cl.length<=1000000)(aw:b.acc.length<=1000000)(X:g.at o)(ai:g.ok)(Q:g.off (av [G]))(am:Rd o B (l.flatMap aG.cs))(O:bU B (l.flatMap aG.cs) (av [G]))(au:∀x∈l,x.ok)(W:l.length<=d)(aa:l.length<=1000)(a:Own [G] o):Calls prog 104 #[Z bh,.agg (m.cs++[Value.slice B l.length d]).toArray] o (aS λr w=>r=ab (b.accept g m l).2/\∃ah,jK g bh (b.accept g m l).1 ah/\C o (av [G]) [ah] w):=by
 have I:=N
 obtain⟨c,L,M,V,t,rfl⟩:=N
 obtain⟨e,J⟩:∃e,e=av [cm g bh c++(L++(M++V))]:=⟨_,j⟩
 rw [<-J] at Q O⊢
 have a:C o e [cm g bh c++(L++(M++V))] o:=J▸a
 have a:=a.vs
 refine a1 [Z bh,.agg (m.cs++[Value.slice B l.length d]).toArray] func104 ntmps104 results104 (bP 2 a j j (λf w a=>?_))
 have a:C o e [R f (m.cs++[Value.slice B l.length d]).toArray 114,cm g bh c,L,M,V] w:=a
 refine ar 8 j (b2 9 (.bool false) j (aL Value.bool (j)) ?_)
 refine bS 1 (U:=m.cs) j j j ((a.bf f)|>p4) (bp 0 (yk (m:=m)) j (λw i=>?_))
 have a:=a.aN i
 refine aT 3 j j (λeV=>?_) (λeV=>?_)
 .refine ao 3 j j ?_
  have p:b.accept g m l=(b,1):=by
   unfold cM.accept
   exact a6 (by simpa using eV)
  rw [p]
  have a:C o e [cm g bh c,L,M,V] w:=a.as
  exact⟨j,_,I,a.k7⟩
 have a:C o e ([R f (m.cs++[Value.slice B l.length d]).toArray 114,cm g bh c]++_) _:=a.front
 have a:=a.drew
 refine bz 1 j (λw=>∃ae,C o e ([R f (m.cs++[Value.slice B l.length d]).toArray 114,cm g bh c]++ae) w) ⟨_,a⟩ (af 0 3 j (be 3 j a7 j (aV 4 j (λw⟨_,a⟩=>dc (U:=(m.cs++[Value.slice B l.length d])) j j j (bq (C.aj (b:=f) a))) (aW 5 j ?_))))
 have s:=tP (m:=m) (d:=d) ai au W aa (⟨X.st a Q,a.rd am O,al.off.nil g,bU.of_nil _ _⟩:Ext g B (l.flatMap aG.cs) [] _)
 refine bF j j j s (λw i=>?_)
 have a:=a.aN i
 have a:C o e ([R f (m.cs++[Value.slice B l.length d]).toArray 114,cm g bh c]++_) w:=a.front
 refine an ⟨⟨_,a⟩,?_⟩
 refine af 6 2 j (bO (aT 0 j j (λy=>?_) (λy=>?_)))
 .refine ao 3 j j ?_
  have p:b.accept g m l=(b,9):=by
   unfold cM.accept
   exact(aF (by simpa using eV)).trans (if_pos (by simpa using y))
  rw [p]
  have a:C o e [cm g bh c,L,M,V] w:=a.as
  exact⟨j,_,I,a.k7⟩
 have a:C o e ([R f (m.cs++[Value.slice B l.length d]).toArray 114,cm g bh c]++_) _:=a.front
 have a:=a.drew
 refine bz 1 j (λw=>∃ae,C o e ([R f (m.cs++[Value.slice B l.length d]).toArray 114,cm g bh c]++ae) w) ⟨_,a⟩ (af 0 3 j (be 3 j a7 j (af 4 1 j (aV 5 j (λw⟨_,a⟩=>dc (U:=m.cs) j j j ((a.bf f)|>p4)) (aW 6 j ?_)))))
 have s:=xk (m:=m) t.acc (a.holds (G:=M) (by simp))
 refine bF j j j s (λw i=>?_)
 have a:=a.aN i
 have a:C o e ([R f (m.cs++[Value.slice B l.length d]).toArray 114,cm g bh c]++_) w:=a.front
 refine an ⟨⟨_,a⟩,?_⟩
 refine af 7 1 j (bO (aT 0 j j (λD=>?_) (λD=>?_)))
 .refine ao 3 j j ?_
  have p:b.accept g m l=(b,0):=by
   unfold cM.accept
   exact(aF (by simpa using eV)).trans ((if_neg (by simpa using y)).trans (if_pos (of_decide_eq_true D)))
  rw [p]
  have a:C o e [cm g bh c,L,M,V] w:=a.as
  exact⟨j,_,I,a.k7⟩
 refine bS 6 (U:=m.cs) j j j ((a.bf f)|>p4) ?_
 have s:=Dn (g:=g) (bh:=bh) (m:=m) t.log Y a.ours
 refine bp 0 s j (λw⟨h,K,i⟩=>?_)
 have a:=a.b4 i
 have a:C o e [R f (m.cs++[Value.slice B l.length d]).toArray 114,cm g bh c,h,M,V] w:=a.as
 refine aT 5 j j (λF=>?_) (λF=>?_)
 .refine ao 4 j j ?_
  have p:b.accept g m l=b.b5 m:=by
   unfold cM.accept
   exact(aF (by simpa using eV)).trans ((if_neg (by simpa using y)).trans ((if_neg (of_decide_eq_false D)).trans (if_pos (by simpa using F))))
  rw [p]
  have a:C o e [cm g bh c,h,M,V] w:=a.as
  exact⟨j,_,⟨c,h,M,V,⟨K,by rw [(b.xz m).1];exact t.acc,by rw [(b.xz m).2];exact t.aH⟩,j⟩,a.k7⟩
 have a:C o e ([R f (m.cs++[Value.slice B l.length d]).toArray 114,cm g bh c]++_) _:=a.front
 have a:=a.drew
 refine bz 2 j (λw=>∃ae,C o e ([R f (m.cs++[Value.slice B l.length d]).toArray 114,cm g bh c]++ae) w) ⟨_,a⟩ (af 0 4 j (be 4 j a7 j (af 5 1 j (aV 6 j (λw⟨_,a⟩=>dc (U:=m.cs) j j j ((a.bf f)|>p4)) (aW 7 j (gv (U:=m.cs) a j j j j bR bR (λT w a=>?_)))))))
 have aP:=bq (C.aj (b:=T) a)
 have a:C o e ([R f (m.cs++[Value.slice B l.length d]).toArray 114,cm g bh c]++_) w:=a.front
 refine an ⟨⟨_,a⟩,?_⟩
 refine aW 8 j (eK (a.to M) t.acc j j (by decide) j j j (m:=1) (news:=m.cs) j aP (by intro u hu;exact oW [m] u (by simpa using hu)) (by omega) (by unfold maxLen;omega) (λv1 n w E a=>?_))
 have E:ez v1 (b.acc++[m]) n:=by
  unfold ez
  rw [ca,List.flatMap_append]
  simpa using E
 have a:C o e ([R f (m.cs++[Value.slice B l.length d]).toArray 114,cm g bh c]++_) w:=a.front
 refine an ⟨⟨_,a⟩,?_⟩
 refine af 9 2 j (dy 11 j (cC (a.bf bh) j j j E.one bR (λw a=>?_)))
 have a:C o e (cm g bh ({c with acc:=v1})::_) w:=a
 have a:C o e [R f (m.cs++[Value.slice B l.length d]).toArray 114,cm g bh ({c with acc:=v1}),h,n,V] w:=a.as
 refine an (cX ?_)
 obtain⟨q,ag,b1,ax,H,P,ad,aq,rfl⟩:=t.aH
 have a:C o e [R f (m.cs++[Value.slice B l.length d]).toArray 114,cm g bh ({c with acc:=v1}),h,n,ay 229 q ag b1,H] _:=C.perm (A:=[R f (m.cs++[Value.slice B l.length d]).toArray 114,cm g bh ({c with acc:=v1}),h,n,ay 229 q ag b1++H]) a.as (by simp)
 have a:=a.drew
 refine bz 1 j (λw=>∃ae,C o e ([R f (m.cs++[Value.slice B l.length d]).toArray 114,cm g bh ({c with acc:=v1})]++ae) w) ⟨_,a⟩ (af 0 3 j (be 3 j a7 (aL some P) (af 4 1 j (aV 5 j (λw⟨_,a⟩=>dc (U:=m.cs) j j j ((a.bf f)|>p4)) (aW 6 j (bF j j j (qm (m:=m)) (λw i=>?_)))))))
 have a:=a.aN i
 have a:C o e ([R f (m.cs++[Value.slice B l.length d]).toArray 114,cm g bh ({c with acc:=v1})]++_) w:=a.front
 refine an ⟨⟨_,a⟩,?_⟩
 refine aW 7 j ?_
 have s:=um (k:=er m) (a.ours (cI:=[ay 229 q ag b1])) ad
 refine bF j j j s (λw⟨v,ac,i⟩=>?_)
 have a:=a.b4 i
 have a:C o e [R f (m.cs++[Value.slice B l.length d]).toArray 114,cm g bh ({c with acc:=v1}),h,n,ay 229 q ag v,H] w:=a.as
 refine an ⟨⟨_,a⟩,?_⟩
 refine bO (ao 3 j j ?_)
 have p:b.accept g m l=({(b.b5 m).1 with acc:=b.acc++[m],aH:=fS b.aH (er m)},0):=by
  unfold cM.accept
  exact(aF (by simpa using eV)).trans ((if_neg (by simpa using y)).trans ((if_neg (of_decide_eq_false D)).trans (if_neg (by simpa using F))))
 rw [p]
 obtain⟨z,S,ap,ak⟩:=aq.del (k:=er m)
 have a:C o e [cm g bh ({c with acc:=v1}),h,n,ay 229 q ag v,H] w:=a.as
 have a:C o e [cm g bh ({c with acc:=v1}),h,n,ay 229 q ag v,S,z] w:=a.perm (by
  simp only [kd,mQ,g6]
  exact .append_left _ (.append_left _ (.append_left _ (.append_left _ ak))))
 exact⟨j,_,⟨{c with acc:=v1},h,n,ay 229 q ag v++z,⟨K,E,⟨q,ag,v,_,z,P,ac,ap,j⟩⟩,j⟩,C.perm (A:=[cm g bh ({c with acc:=v1}),h,n,ay 229 q ag v,z]) a.as (by simp)⟩
theorem ja.all{m:List (Int×Value)}:∀{t:List (Int×aG)}{H:List Chunk},c6 ja m t H->∀q∈t,q.2.ok:=by
 induction m with
 |nil=>intro t H h;cases t with|nil=>intro q d;cases d|cons _ _=>exact h.elim
 |cons p m e=>
  intro t H h
  cases t with
  |nil=>exact h.elim
  |cons q t=>
   obtain⟨_,_,_,_,b,c⟩:=h
   intro x a
   rcases gd.1 a with rfl|a
   .exact b.2.2
   .exact e c x a
theorem r9{t:List (Int×aG)}(h:∀q∈t,q.2.ok):∀x∈fJ t,x.ok:=λx b=>by
 obtain⟨q,a,rfl⟩:=dT.1 b
 exact h q (gS.1 a)
theorem r8(t:List (Int×aG)):(fJ t).length=t.length:=by unfold fJ;rw [List.length_map,List.length_mergeSort]
theorem rE(l:List (Int×aG))(v:aG):(iQ l v).length<=l.length+1:=by
 unfold iQ;split
 .omega
 .exact mi _ _ _
theorem AA{o:World}{g:al}{bh:Nat}{b:cM}{G:List Chunk}{m:b9}{v:aG}(bN:jK g bh b G)(bV:b.log.cl.length<=1000000)(bQ:b.acc.length<=1000000)(bX:∀p∈b.aH,p.2.length<=100)(aY:g.at o)(a8:g.ok)(aO:g.off (av [G]))(aa:v.ok)(e:Own [G] o):Calls prog 46 #[Z bh,fT m,.agg v.cs.toArray] o (aS λr w=>r=ab (b.di g m v).2/\∃ah,jK g bh (b.di g m v).1 ah/\C o (av [G]) [ah] w):=by
 have bc:=bN
 obtain⟨c,L,M,V,am,rfl⟩:=bN
 obtain⟨i,bM⟩:∃i,i=av [cm g bh c++(L++(M++V))]:=⟨_,j⟩
 rw [<-bM] at aO⊢
 have e:C o i [cm g bh c++(L++(M++V))] o:=bM▸e
 have e:=e.vs
 refine a1 [Z bh,fT m,.agg v.cs.toArray] func46 ntmps46 results46 (bP 2 e j j (λn w e=>?_))
 have e:C o i (R n m.cs.toArray 103::_) w:=e
 refine bP 0 e j j (λN w e=>?_)
 have e:C o i [R N v.cs.toArray 108,R n m.cs.toArray 103,cm g bh c,L,M,V] w:=e
 refine ar 8 j (b2 15 (.bool false) j (aL Value.bool (j)) ?_)
 refine bS 0 (U:=m.cs) j j j (bq (C.aj (b:=n) e)) (bp 0 (yk (m:=m)) j (λw t=>?_))
 have e:=e.aN t
 refine aT 3 j j (λax=>?_) (λax=>?_)
 .refine ao 3 j j ?_
  have W:b.di g m v=(b,1):=by
   unfold cM.di
   exact a6 (by simpa using ax)
  rw [W]
  have e:C o i [cm g bh c,L,M,V] w:=e.as
  exact⟨j,_,bc,e.k7⟩
 refine bS 3 (U:=m.cs) j j j (bq (C.aj (b:=n) e)) (bS 0 (U:=v.cs) j j (v.len aa) (bq (C.aj (b:=N) e)) (bp 0 (Ep (c:=c) (m:=m) (v:=v) (C.aj (b:=bh) e) (aY.st e aO) a8 aa) j (λw t=>?_)))
 have e:=e.aN t
 refine aT 2 j j (λaK=>?_) (λaK=>?_)
 .refine ao 3 j j ?_
  have W:b.di g m v=(b,9):=by
   unfold cM.di
   exact(aF (by simpa using ax)).trans (if_pos (by simpa using aK))
  rw [W]
  have e:C o i [cm g bh c,L,M,V] w:=e.as
  exact⟨j,_,bc,e.k7⟩
 have e:C o i ([R n m.cs.toArray 103,cm g bh c]++_) _:=e.front
 have e:=e.drew
 refine bz 1 j (λw=>∃ae,C o i ([R n m.cs.toArray 103,cm g bh c]++ae) w) ⟨_,e⟩ (af 0 3 j (be 3 j a7 j (aV 4 j (λw⟨_,e⟩=>dc (U:=m.cs) j j j (bq (C.aj (b:=n) e))) (aW 5 j ?_))))
 have z:=xk (m:=m) am.acc (e.holds (G:=M) (by simp))
 refine bF j j j z (λw t=>?_)
 have e:=e.aN t
 have e:C o i ([R n m.cs.toArray 103,cm g bh c]++_) w:=e.front
 refine an ⟨⟨_,e⟩,?_⟩
 refine af 6 1 j (bO (aT 0 j j (λaQ=>?_) (λaQ=>?_)))
 .refine ao 3 j j ?_
  have W:b.di g m v=(b,0):=by
   unfold cM.di
   exact(aF (by simpa using ax)).trans ((if_neg (by simpa using aK)).trans (if_pos (of_decide_eq_true aQ)))
  rw [W]
  have e:C o i [cm g bh c,L,M,V] w:=e.as
  exact⟨j,_,bc,e.k7⟩
 obtain⟨x,ag,b1,bL,H,aB,bd,ap,rfl⟩:=am.aH
 have e:C o i [R n m.cs.toArray 103,cm g bh c,R N v.cs.toArray 108,L,M,ay 229 x ag b1,H] _:=C.perm (A:=[R n m.cs.toArray 103,cm g bh c,R N v.cs.toArray 108,L,M,ay 229 x ag b1++H]) e.as (by simp)
 have e:=e.drew
 refine bz 2 j (λw=>∃ae,C o i ([R n m.cs.toArray 103,cm g bh c]++ae) w) ⟨_,e⟩ (af 0 3 j (be 3 j a7 (aL some aB) (aV 4 j (λw⟨_,e⟩=>dc (U:=m.cs) j j j (bq (C.aj (b:=n) e))) (aW 5 j (bF j j j (qm (m:=m)) (λw t=>?_))))))
 have e:=e.aN t
 have e:C o i ([R n m.cs.toArray 103,cm g bh c]++_) w:=e.front
 refine an ⟨⟨_,e⟩,?_⟩
 refine aW 6 j ?_
 have z:=x5 (k:=er m) (dG.own (e.to (ay 229 x ag b1)) bd)
 refine bF j j j z (λw t=>?_)
 have e:=e.aN t
 have e:C o i ([R n m.cs.toArray 103,cm g bh c]++_) w:=e.front
 refine an ⟨⟨_,e⟩,?_⟩
 refine af 7 5 j (bO (aT 5 j j (λaM=>?_) (λaM=>?_)))
 .refine au 6 j (aw (C.aj (b:=bh) e) (aL some aB)) ?_
  have z:=EU (dG.own (e.to (ay 229 x ag b1)) bd)
  refine bp 0 z j (λw t=>?_)
  have e:=e.aN t
  refine aT 1 j j (λbb=>?_) (λbb=>?_)
  .refine ao 3 j j ?_
   have W:b.di g m v=(b,3):=by
    unfold cM.di
    refine(aF (by simpa using ax)).trans ((if_neg (by simpa using aK)).trans ((if_neg (of_decide_eq_false aQ)).trans ?_))
    exact a6 ⟨(ap.isSome (er m)).symm.trans (by simpa using aM),by have:=of_decide_eq_true bb;have:=ap.len;omega⟩
   rw [W]
   exact⟨j,_,bc,C.perm (A:=[cm g bh c,L,M,ay 229 x ag b1,H]) e.as (by simp)⟩
  refine bm 3 FD j (λr w⟨bg,bY,aD,b8,t⟩=>?_)
  subst aD
  have e:=e.aN t
  have e:C o i ([R n m.cs.toArray 103,cm g bh c]++_) _:=e.front
  have e:=e.drew
  refine bz 1 j (λw=>∃ae,C o i ([R n m.cs.toArray 103,cm g bh c]++ae) w) ⟨_,e⟩ (af 0 3 j (be 3 j a7 (aL some aB) (aV 4 j (λw⟨_,e⟩=>dc (U:=m.cs) j j j (bq (C.aj (b:=n) e))) (af 6 1 j (aW 5 j (bF j j j (qm (m:=m)) (λw t=>?_)))))))
  have e:=e.aN t
  have e:C o i ([R n m.cs.toArray 103,cm g bh c]++_) w:=e.front
  refine an ⟨⟨_,e⟩,?_⟩
  refine aW 7 j ?_
  have z:=G7 (k:=er m) (v:=Z bg) (e.ours (cI:=[ay 229 x ag b1])) bd
  refine bF j j j z (λw⟨bZ,b7,t⟩=>?_)
  have e:=e.b4 t
  have e:C o i ([R n m.cs.toArray 103,cm g bh c]++_) w:=e.front
  refine an ⟨⟨_,e⟩,?_⟩
  refine bO ?_
  obtain⟨F,aE,H1,u,y,Q,iG,T,E,K,a5,aC,Y,aZ,a3,e,bG⟩:∃(F:Obj)(aE:List (Int×Value))(H1:List Chunk)(u y:Nat)(Q:Obj)(iG:List (Int×Value))(T E:List Chunk)(K:List (Int×aG)),cf bu F aE/\cf bu Q iG/\c6 ja iG K T/\(a2 b.aH (er m)).getD []=K/\(∀b0 aI,pD (Z u) b0 aI->c6 pD aE (cj b.aH (er m) b0) (H1++(aI++E)))/\C o i [R n m.cs.toArray 103,R N v.cs.toArray 108,cm g bh c,L,M,ay 229 x ag F,H1,ay 268 u y Q,T,E] w/\Value.pointer (some ⟨bg,0,none⟩)=Z u:=by
   have bW:a2 b.aH (er m)=none:=mh ((ap.isSome (er m)).symm.trans (by simpa using aM))
   refine⟨bZ,_,H,bg,bY,.map #[] 0,[],[],[],[],b7,b8,j,by rw [bW];rfl,λb0 aI bD=>?_,?_,j⟩
   .have:=ap.add bW bD
    rw [g6]
    exact this
   .exact C.perm (A:=[R n m.cs.toArray 103,R N v.cs.toArray 108,cm g bh c,L,M,ay 229 x ag bZ,H,ay 268 bg bY (.map #[] 0)]) e.as (by simp)
  refine ar 3 j (b2 7 (Z u) j bG ?_)
  have a9:∀q∈iG,gx 68 q.2:=Y.wide (λv a G h=>by rw [h.1];exact⟨a.cs,j,a.len h.2.2,a.one⟩)
  obtain⟨ca,bI,bJ,bK⟩:=gx.get vX a9 v.f
  have b6:K.length<=100:=by
   rw [<-aZ]
   cases bA:a2 b.aH (er m) with
   |none=>exact ch _
   |some dz=>exact bX _ (hN bA)
  refine au 2 j (aw (C.aj (b:=N) e) (v.eM aa)) ?_
  have z:=x6 (k:=v.f) a9 (dG.own (e.to (ay 268 u y Q)) aC)
  refine bm 0 z j (λr w⟨aD,t⟩=>?_)
  rw [bI] at aD
  subst aD
  have e:=e.aN t
  refine cn 3 e j (λbj w e=>c5 (e.bf bj) j j j bK bJ (by decide) (λw e=>?_))
  have e:C o i [R n m.cs.toArray 103,R N v.cs.toArray 108,cm g bh c,L,M,ay 229 x ag F,H1,ay 268 u y Q,T,E] w:=e.as
  refine aT 5 j j (λaR=>?_) (λaR=>?_)
  refine au 3 j (aw (C.aj (b:=N) e) (v.eM aa)) (bS 0 (U:=v.cs) j j (v.len aa) (bq (C.aj (b:=N) e)) ?_)
  have z:=z7 (k:=v.f) (v.len aa) v.one (e.ours (cI:=[ay 268 u y Q])) aC
  refine bp 0 z j (λw⟨ba,bv,t⟩=>?_)
  have e:=e.b4 t
  obtain⟨B,P,D,s,ai,X,ad,e⟩:∃(B:Obj)(P:List (Int×Value))(D:List Chunk)(s:List (Int×aG)),cf bu B P/\c6 ja P s D/\iQ K v=s/\C o i [R n m.cs.toArray 103,R N v.cs.toArray 108,cm g bh c,L,M,ay 229 x ag F,H1,ay 268 u y B,D,E] w:=by
   have aP:a2 K v.f=none:=mh ((Y.isSome v.f).symm.trans (by simpa using aR))
   exact⟨ba,_,_,_,bv,Y.add aP (show ja (.agg v.cs.toArray) v [] from⟨j,j,aa⟩),by unfold iQ;rw [if_neg (by rw [aP];decide)],C.perm (A:=[R n m.cs.toArray 103,R N v.cs.toArray 108,cm g bh c,L,M,ay 229 x ag F,H1,ay 268 u y ba,T,E]) e.as (by simp)⟩
  have bs:s.length<=101:=by rw [<-ad];have:=rE K v;omega
  have a0:=ja.all X
  have e:C o i ([R n m.cs.toArray 103]++_) _:=e.front
  have e:=e.drew
  refine bz 2 j (λw=>∃ae,C o i ([R n m.cs.toArray 103]++ae) w) ⟨_,e⟩ ?_
  rotate_left
  obtain⟨B,P,D,s,ai,X,ad,e⟩:∃(B:Obj)(P:List (Int×Value))(D:List Chunk)(s:List (Int×aG)),cf bu B P/\c6 ja P s D/\iQ K v=s/\C o i [R n m.cs.toArray 103,R N v.cs.toArray 108,cm g bh c,L,M,ay 229 x ag F,H1,ay 268 u y B,D,E] w:=by
   have bH:(a2 K v.f).isSome=true:=(Y.isSome v.f).symm.trans (by simpa using aR)
   exact⟨Q,iG,T,K,aC,Y,by unfold iQ;rw [if_pos bH],e.as⟩
  have bs:s.length<=101:=by rw [<-ad];have:=rE K v;omega
  have a0:=ja.all X
  have e:C o i ([R n m.cs.toArray 103]++_) _:=e.front
  have e:=e.drew
  refine bz 3 j (λw=>∃ae,C o i ([R n m.cs.toArray 103]++ae) w) ⟨_,e⟩ ?_
  rotate_left
  all_goals
   refine aV 0 j (λw⟨_,e⟩=>dc (U:=m.cs) j j j (bq (C.aj (b:=n) e))) (af 1 1 j (aJ 2 4 j j ?_ ?_))
   have z:=sa (dG.own (e.to (ay 268 u y B)) ai) X (by omega)
   refine cN j j j z (λr w⟨O,ac,t⟩=>?_)
   obtain⟨J,I,rfl,aX,_⟩:=Row.form ac
   have e:=e.aN t
   have e:C o i ([R n m.cs.toArray 103]++_) w:=e.front
   refine an ⟨⟨_,e⟩,?_⟩
   refine aV 3 j (λw _=>e0 (c:=(m.cs++[Value.slice J (fJ s).length I]).toArray) j (λ_=>by kernel_rfl)) (aW 4 j (en e j j (λS w e=>?_)))
   have e:C o i ([R n m.cs.toArray 103]++_) w:=e.front
   refine an ⟨⟨_,e⟩,?_⟩
   rotate_left
   refine en e j j (λS w e=>?_)
   have e:C o i ([R n m.cs.toArray 103]++_) w:=e.front
   refine an ⟨⟨_,e⟩,?_⟩
   refine aW 2 j ?_
   have z:=sa (dG.own (e.to (ay 268 u y B)) ai) X (by omega)
   refine cN j j j z (λr w⟨O,ac,t⟩=>?_)
   obtain⟨J,I,rfl,aX,_⟩:=Row.form ac
   have e:=e.aN t
   have e:C o i ([R n m.cs.toArray 103]++_) w:=e.front
   refine an ⟨⟨_,e⟩,?_⟩
   refine aV 3 j (λw _=>e0 (c:=(m.cs++[Value.slice J (fJ s).length I]).toArray) j (λ_=>by kernel_rfl)) ?_
   rotate_left
   all_goals
    refine dy 5 j (c5 (e.bf S) j j j j j bR (λw e=>?_))
    have e:=C.whole (U:=(m.cs++[Value.slice J (fJ s).length I])) e j
    have e:C o i [R S (m.cs++[Value.slice J (fJ s).length I]).toArray 114,R n m.cs.toArray 103,cm g bh c,L,M,ay 229 x ag F,H1,ay 268 u y B,D,E,O] w:=e.as
    refine an (cX ?_)
    have e:C o i ([R S (m.cs++[Value.slice J (fJ s).length I]).toArray 114,cm g bh c]++_) _:=e.front
    have e:=e.drew
    refine bz 1 j (λw=>∃ae,C o i ([R S (m.cs++[Value.slice J (fJ s).length I]).toArray 114,cm g bh c]++ae) w) ⟨_,e⟩ (af 0 3 j (be 3 j a7 j (aV 4 j (λw⟨_,e⟩=>dc (U:=(m.cs++[Value.slice J (fJ s).length I])) j j j (bq (C.aj (b:=S) e))) (aW 5 j ?_))))
    obtain⟨_,_,bk,_,_,bB,_⟩:=Row.read ac (e.holds (G:=O) (by simp))
    cases bk
    have z:=tP (m:=m) (l:=fJ s) (d:=I) a8 (r9 a0) aX (by rw [r8];omega) (⟨aY.st e aO,bB,al.off.nil g,bU.of_nil _ _⟩:Ext g J ((fJ s).flatMap aG.cs) [] _)
    refine bF j j j z (λw t=>?_)
    have e:=e.aN t
    have e:C o i ([R S (m.cs++[Value.slice J (fJ s).length I]).toArray 114,cm g bh c]++_) w:=e.front
    refine an ⟨⟨_,e⟩,?_⟩
    refine bO (aT 0 j j (λaU=>?_) (λaU=>?_))
    .have e:C o i ([R n m.cs.toArray 103,cm g bh c]++_) _:=e.front
     have e:=e.drew
     refine bz 1 j (λw=>∃ae,C o i ([R n m.cs.toArray 103,cm g bh c]++ae) w) ⟨_,e⟩ (af 0 3 j (be 3 j a7 (aL some aB) (aV 4 j (λw⟨_,e⟩=>dc (U:=m.cs) j j j (bq (C.aj (b:=n) e))) (aW 5 j (bF j j j (qm (m:=m)) (λw t=>?_))))))
     have e:=e.aN t
     have e:C o i ([R n m.cs.toArray 103,cm g bh c]++_) w:=e.front
     refine an ⟨⟨_,e⟩,?_⟩
     refine aW 6 j ?_
     have z:=um (k:=er m) (e.ours (cI:=[ay 229 x ag F])) a5
     refine bF j j j z (λw⟨ak,bt,t⟩=>?_)
     have e:=e.b4 t
     have e:C o i ([R n m.cs.toArray 103,cm g bh c]++_) w:=e.front
     refine an ⟨⟨_,e⟩,?_⟩
     refine bO (bS 2 (U:=(m.cs++[Value.slice J (fJ s).length I])) j j j (bq (C.aj (b:=S) e)) ?_)
     obtain⟨aq,bi,bE,bx⟩:=c6.del (k:=er m) (a3 s (ay 268 u y B++D) ⟨u,y,B,P,D,j,ai,X,j⟩)
     obtain⟨aJ,az⟩:∃aJ,aJ=({b with aH:=fS (cj b.aH (er m) s) (er m)}:cM):=⟨_,j⟩
     obtain⟨aA,bo,e⟩:∃aA,jK g bh aJ aA/\C o i [aA,O] w:=by
      have e:C o i [cm g bh c,L,M,ay 229 x ag ak,O,H1,ay 268 u y B,D,E] w:=e.as
      have e:C o i [cm g bh c,L,M,ay 229 x ag ak,O,bi,aq] w:=e.perm (by
       simp only [kd,mQ,g6]
       refine .append_left _ (.append_left _ (.append_left _ (.append_left _ (.append_left _ ?_))))
       simpa using bx)
      have e:C o i [cm g bh c,L,M,ay 229 x ag ak++aq,O] w:=C.perm (A:=[cm g bh c,L,M,ay 229 x ag ak,aq,O]) e.as (by simp)
      rw [az]
      exact⟨_,⟨c,L,M,_,⟨am.log,am.acc,⟨x,ag,ak,_,aq,aB,bt,bE,j⟩⟩,j⟩,e.k7⟩
     obtain⟨_,_,bl,_,_,bC,br⟩:=Row.rd ac (e.to O)
     cases bl
     have z:=wz (m:=m) (l:=fJ s) (d:=I) bo (by rw [az];exact bV) (by rw [az];exact bQ) (aY.st e aO) a8 (e.ex aY aO) bC (C.pZ br) (r9 a0) aX (by rw [r8];omega) e.ours
     refine bm 0 z j (λr w⟨aD,ah,bn,t⟩=>?_)
     have e:=e.b4 t
     refine ao 3 j j ?_
     have W:b.di g m v=((cM.accept g aJ m (fJ s)).1,0):=by
      unfold cM.di
      refine(aF (by simpa using ax)).trans ((if_neg (by simpa using aK)).trans ((if_neg (of_decide_eq_false aQ)).trans ?_))
      refine(aF (λh=>absurd h.2 (by have:=bw bb;have:=ap.len;omega))).trans ?_
      rw [aZ,ad,az]
      exact a6 aU
     rw [W]
     exact⟨j,ah,bn,e.as⟩
    refine ao 4 j j ?_
    have W:b.di g m v=({b with aH:=cj b.aH (er m) s},0):=by
     unfold cM.di
     refine(aF (by simpa using ax)).trans ((if_neg (by simpa using aK)).trans ((if_neg (of_decide_eq_false aQ)).trans ?_))
     refine(aF (λh=>absurd h.2 (by have:=bw bb;have:=ap.len;omega))).trans ?_
     rw [aZ,ad]
     exact aF (by rw [aU];decide)
    rw [W]
    have e:C o i [cm g bh c,L,M,ay 229 x ag F,H1,ay 268 u y B,D,E] w:=e.as
    exact⟨j,_,⟨c,L,M,ay 229 x ag F++(H1++((ay 268 u y B++D)++E)),⟨am.log,am.acc,⟨x,ag,F,aE,_,aB,a5,a3 s _ ⟨u,y,B,P,D,j,ai,X,j⟩,j⟩⟩,j⟩,C.perm (A:=[cm g bh c,L,M,ay 229 x ag F,H1,ay 268 u y B,D,E]) e (by simp)⟩
 obtain⟨F,aE,H1,u,y,Q,iG,T,E,K,a5,aC,Y,aZ,a3,e,bG⟩:∃(F:Obj)(aE:List (Int×Value))(H1:List Chunk)(u y:Nat)(Q:Obj)(iG:List (Int×Value))(T E:List Chunk)(K:List (Int×aG)),cf bu F aE/\cf bu Q iG/\c6 ja iG K T/\(a2 b.aH (er m)).getD []=K/\(∀b0 aI,pD (Z u) b0 aI->c6 pD aE (cj b.aH (er m) b0) (H1++(aI++E)))/\C o i [R n m.cs.toArray 103,R N v.cs.toArray 108,cm g bh c,L,M,ay 229 x ag F,H1,ay 268 u y Q,T,E] w/\(a2 bL (er m)).getD AP=Z u:=by
  obtain⟨dz,bT⟩:∃dz,a2 b.aH (er m)=some dz:=by
   have a4:(a2 bL (er m)).isSome=true:=by simpa using aM
   rw [ap.isSome] at a4
   exact g4.1 a4
  obtain⟨v0,H1,cb,E,b5,rfl,b3,a3⟩:=ap.find bT
  obtain⟨u,y,Q,iG,T,rfl,aC,Y,rfl⟩:=b3
  refine⟨b1,bL,H1,u,y,Q,iG,T,E,dz,bd,aC,Y,by rw [bT];rfl,λb0 aI bD=>a3 b0 aI bD,?_,by rw [b5];rfl⟩
  exact C.perm (A:=[R n m.cs.toArray 103,R N v.cs.toArray 108,cm g bh c,L,M,ay 229 x ag b1,H1++((ay 268 u y Q++T)++E)]) e.as (by simp)
 refine ar 4 j (b2 7 (Z u) j bG ?_)
 have a9:∀q∈iG,gx 68 q.2:=Y.wide (λv a G h=>by rw [h.1];exact⟨a.cs,j,a.len h.2.2,a.one⟩)
 obtain⟨ca,bI,bJ,bK⟩:=gx.get vX a9 v.f
 have b6:K.length<=100:=by
  rw [<-aZ]
  cases bA:a2 b.aH (er m) with
  |none=>exact ch _
  |some dz=>exact bX _ (hN bA)
 refine au 2 j (aw (C.aj (b:=N) e) (v.eM aa)) ?_
 have z:=x6 (k:=v.f) a9 (dG.own (e.to (ay 268 u y Q)) aC)
 refine bm 0 z j (λr w⟨aD,t⟩=>?_)
 rw [bI] at aD
 subst aD
 have e:=e.aN t
 refine cn 3 e j (λbj w e=>c5 (e.bf bj) j j j bK bJ (by decide) (λw e=>?_))
 have e:C o i [R n m.cs.toArray 103,R N v.cs.toArray 108,cm g bh c,L,M,ay 229 x ag F,H1,ay 268 u y Q,T,E] w:=e.as
 refine aT 5 j j (λaR=>?_) (λaR=>?_)
 refine au 3 j (aw (C.aj (b:=N) e) (v.eM aa)) (bS 0 (U:=v.cs) j j (v.len aa) (bq (C.aj (b:=N) e)) ?_)
 have z:=z7 (k:=v.f) (v.len aa) v.one (e.ours (cI:=[ay 268 u y Q])) aC
 refine bp 0 z j (λw⟨ba,bv,t⟩=>?_)
 have e:=e.b4 t
 obtain⟨B,P,D,s,ai,X,ad,e⟩:∃(B:Obj)(P:List (Int×Value))(D:List Chunk)(s:List (Int×aG)),cf bu B P/\c6 ja P s D/\iQ K v=s/\C o i [R n m.cs.toArray 103,R N v.cs.toArray 108,cm g bh c,L,M,ay 229 x ag F,H1,ay 268 u y B,D,E] w:=by
  have aP:a2 K v.f=none:=mh ((Y.isSome v.f).symm.trans (by simpa using aR))
  exact⟨ba,_,_,_,bv,Y.add aP (show ja (.agg v.cs.toArray) v [] from⟨j,j,aa⟩),by unfold iQ;rw [if_neg (by rw [aP];decide)],C.perm (A:=[R n m.cs.toArray 103,R N v.cs.toArray 108,cm g bh c,L,M,ay 229 x ag F,H1,ay 268 u y ba,T,E]) e.as (by simp)⟩
 have bs:s.length<=101:=by rw [<-ad];have:=rE K v;omega
 have a0:=ja.all X
 have e:C o i ([R n m.cs.toArray 103]++_) _:=e.front
 have e:=e.drew
 refine bz 2 j (λw=>∃ae,C o i ([R n m.cs.toArray 103]++ae) w) ⟨_,e⟩ ?_
 rotate_left
 obtain⟨B,P,D,s,ai,X,ad,e⟩:∃(B:Obj)(P:List (Int×Value))(D:List Chunk)(s:List (Int×aG)),cf bu B P/\c6 ja P s D/\iQ K v=s/\C o i [R n m.cs.toArray 103,R N v.cs.toArray 108,cm g bh c,L,M,ay 229 x ag F,H1,ay 268 u y B,D,E] w:=by
  have bH:(a2 K v.f).isSome=true:=(Y.isSome v.f).symm.trans (by simpa using aR)
  exact⟨Q,iG,T,K,aC,Y,by unfold iQ;rw [if_pos bH],e.as⟩
 have bs:s.length<=101:=by rw [<-ad];have:=rE K v;omega
 have a0:=ja.all X
 have e:C o i ([R n m.cs.toArray 103]++_) _:=e.front
 have e:=e.drew
 refine bz 3 j (λw=>∃ae,C o i ([R n m.cs.toArray 103]++ae) w) ⟨_,e⟩ ?_
 rotate_left
 all_goals
  refine aV 0 j (λw⟨_,e⟩=>dc (U:=m.cs) j j j (bq (C.aj (b:=n) e))) (af 1 1 j (aJ 2 4 j j ?_ ?_))
  have z:=sa (dG.own (e.to (ay 268 u y B)) ai) X (by omega)
  refine cN j j j z (λr w⟨O,ac,t⟩=>?_)
  obtain⟨J,I,rfl,aX,_⟩:=Row.form ac
  have e:=e.aN t
  have e:C o i ([R n m.cs.toArray 103]++_) w:=e.front
  refine an ⟨⟨_,e⟩,?_⟩
  refine aV 3 j (λw _=>e0 (c:=(m.cs++[Value.slice J (fJ s).length I]).toArray) j (λ_=>by kernel_rfl)) (aW 4 j (en e j j (λS w e=>?_)))
  have e:C o i ([R n m.cs.toArray 103]++_) w:=e.front
  refine an ⟨⟨_,e⟩,?_⟩
  rotate_left
  refine en e j j (λS w e=>?_)
  have e:C o i ([R n m.cs.toArray 103]++_) w:=e.front
  refine an ⟨⟨_,e⟩,?_⟩
  refine aW 2 j ?_
  have z:=sa (dG.own (e.to (ay 268 u y B)) ai) X (by omega)
  refine cN j j j z (λr w⟨O,ac,t⟩=>?_)
  obtain⟨J,I,rfl,aX,_⟩:=Row.form ac
  have e:=e.aN t
  have e:C o i ([R n m.cs.toArray 103]++_) w:=e.front
  refine an ⟨⟨_,e⟩,?_⟩
  refine aV 3 j (λw _=>e0 (c:=(m.cs++[Value.slice J (fJ s).length I]).toArray) j (λ_=>by kernel_rfl)) ?_
  rotate_left
  all_goals
   refine dy 5 j (c5 (e.bf S) j j j j j bR (λw e=>?_))
   have e:=C.whole (U:=(m.cs++[Value.slice J (fJ s).length I])) e j
   have e:C o i [R S (m.cs++[Value.slice J (fJ s).length I]).toArray 114,R n m.cs.toArray 103,cm g bh c,L,M,ay 229 x ag F,H1,ay 268 u y B,D,E,O] w:=e.as
   refine an (cX ?_)
   have e:C o i ([R S (m.cs++[Value.slice J (fJ s).length I]).toArray 114,cm g bh c]++_) _:=e.front
   have e:=e.drew
   refine bz 1 j (λw=>∃ae,C o i ([R S (m.cs++[Value.slice J (fJ s).length I]).toArray 114,cm g bh c]++ae) w) ⟨_,e⟩ (af 0 3 j (be 3 j a7 j (aV 4 j (λw⟨_,e⟩=>dc (U:=(m.cs++[Value.slice J (fJ s).length I])) j j j (bq (C.aj (b:=S) e))) (aW 5 j ?_))))
   obtain⟨_,_,bk,_,_,bB,_⟩:=Row.read ac (e.holds (G:=O) (by simp))
   cases bk
   have z:=tP (m:=m) (l:=fJ s) (d:=I) a8 (r9 a0) aX (by rw [r8];omega) (⟨aY.st e aO,bB,al.off.nil g,bU.of_nil _ _⟩:Ext g J ((fJ s).flatMap aG.cs) [] _)
   refine bF j j j z (λw t=>?_)
   have e:=e.aN t
   have e:C o i ([R S (m.cs++[Value.slice J (fJ s).length I]).toArray 114,cm g bh c]++_) w:=e.front
   refine an ⟨⟨_,e⟩,?_⟩
   refine bO (aT 0 j j (λaU=>?_) (λaU=>?_))
   .have e:C o i ([R n m.cs.toArray 103,cm g bh c]++_) _:=e.front
    have e:=e.drew
    refine bz 1 j (λw=>∃ae,C o i ([R n m.cs.toArray 103,cm g bh c]++ae) w) ⟨_,e⟩ (af 0 3 j (be 3 j a7 (aL some aB) (aV 4 j (λw⟨_,e⟩=>dc (U:=m.cs) j j j (bq (C.aj (b:=n) e))) (aW 5 j (bF j j j (qm (m:=m)) (λw t=>?_))))))
    have e:=e.aN t
    have e:C o i ([R n m.cs.toArray 103,cm g bh c]++_) w:=e.front
    refine an ⟨⟨_,e⟩,?_⟩
    refine aW 6 j ?_
    have z:=um (k:=er m) (e.ours (cI:=[ay 229 x ag F])) a5
    refine bF j j j z (λw⟨ak,bt,t⟩=>?_)
    have e:=e.b4 t
    have e:C o i ([R n m.cs.toArray 103,cm g bh c]++_) w:=e.front
    refine an ⟨⟨_,e⟩,?_⟩
    refine bO (bS 2 (U:=(m.cs++[Value.slice J (fJ s).length I])) j j j (bq (C.aj (b:=S) e)) ?_)
    obtain⟨aq,bi,bE,bx⟩:=c6.del (k:=er m) (a3 s (ay 268 u y B++D) ⟨u,y,B,P,D,j,ai,X,j⟩)
    obtain⟨aJ,az⟩:∃aJ,aJ=({b with aH:=fS (cj b.aH (er m) s) (er m)}:cM):=⟨_,j⟩
    obtain⟨aA,bo,e⟩:∃aA,jK g bh aJ aA/\C o i [aA,O] w:=by
     have e:C o i [cm g bh c,L,M,ay 229 x ag ak,O,H1,ay 268 u y B,D,E] w:=e.as
     have e:C o i [cm g bh c,L,M,ay 229 x ag ak,O,bi,aq] w:=e.perm (by
      simp only [kd,mQ,g6]
      refine .append_left _ (.append_left _ (.append_left _ (.append_left _ (.append_left _ ?_))))
      simpa using bx)
     have e:C o i [cm g bh c,L,M,ay 229 x ag ak++aq,O] w:=C.perm (A:=[cm g bh c,L,M,ay 229 x ag ak,aq,O]) e.as (by simp)
     rw [az]
     exact⟨_,⟨c,L,M,_,⟨am.log,am.acc,⟨x,ag,ak,_,aq,aB,bt,bE,j⟩⟩,j⟩,e.k7⟩
    obtain⟨_,_,bl,_,_,bC,br⟩:=Row.rd ac (e.to O)
    cases bl
    have z:=wz (m:=m) (l:=fJ s) (d:=I) bo (by rw [az];exact bV) (by rw [az];exact bQ) (aY.st e aO) a8 (e.ex aY aO) bC (C.pZ br) (r9 a0) aX (by rw [r8];omega) e.ours
    refine bm 0 z j (λr w⟨aD,ah,bn,t⟩=>?_)
    have e:=e.b4 t
    refine ao 3 j j ?_
    have W:b.di g m v=((cM.accept g aJ m (fJ s)).1,0):=by
     unfold cM.di
     refine(aF (by simpa using ax)).trans ((if_neg (by simpa using aK)).trans ((if_neg (of_decide_eq_false aQ)).trans ?_))
     refine(aF (λh=>by have a4:=(ap.isSome (er m)).trans h.1;rw [a4] at aM;cases aM)).trans ?_
     rw [aZ,ad,az]
     exact a6 aU
    rw [W]
    exact⟨j,ah,bn,e.as⟩
   refine ao 4 j j ?_
   have W:b.di g m v=({b with aH:=cj b.aH (er m) s},0):=by
    unfold cM.di
    refine(aF (by simpa using ax)).trans ((if_neg (by simpa using aK)).trans ((if_neg (of_decide_eq_false aQ)).trans ?_))
    refine(aF (λh=>by have a4:=(ap.isSome (er m)).trans h.1;rw [a4] at aM;cases aM)).trans ?_
    rw [aZ,ad]
    exact aF (by rw [aU];decide)
   rw [W]
   have e:C o i [cm g bh c,L,M,ay 229 x ag F,H1,ay 268 u y B,D,E] w:=e.as
   exact⟨j,_,⟨c,L,M,ay 229 x ag F++(H1++((ay 268 u y B++D)++E)),⟨am.log,am.acc,⟨x,ag,F,aE,_,aB,a5,a3 s _ ⟨u,y,B,P,D,j,ai,X,j⟩,j⟩⟩,j⟩,C.perm (A:=[cm g bh c,L,M,ay 229 x ag F,H1,ay 268 u y B,D,E]) e (by simp)⟩
end Go.Proofs.YtdcbpdlhhkcjnaaGreatDoor.R
