import Derived.Test.YthpffinbkpnniaaGreatDoorM6
import Derived.Laws.LoneSync
import Derived.Lib.Bytealg
import Derived.Lib.MakeNoZero
import Derived.Lib.UnsafeStr
set_option linter.all false
set_option maxRecDepth 100000
namespace Go.Ev
open Go
variable{a:Act}{e':Env}{h h':Heap}{i nt:Nat}{ρ:Ren}{done:aI}
section
def jd(o:Oper):aI:=(o.after.toList.filter (Region.binds .any)).map (·.on)
def jh(A:List aI)(p i:Nat):Bool:=(A.getD i []).contains p
def aba(a b:aI):aI:=a.foldl (λs x=>if s.contains x then s else x::s) b
def akh(all:List Oper):List aI:=all.foldl (λa o=>a++ [(jd o).foldl (λs p=>aba (p::a.getD p []) s) []]) []
def LF(o:Oper):Bool:=match o.op with | .defer _=>true|_=>false
def dU(all:List Oper)(i:Nat):Option Nat:=(bO all i).dst
def gD(C:Ctx)(all:List Oper)(i:Nat):Nat:=mU C (bO all i).op
def jf(C:Ctx)(ops:Array Oper)(A:List aI):aI->List (Nat×aI)->Bool
 |_,[]=>true
 |done,(i,n)::r=>
  decide (i<ops.size)&& !done.contains i&&(jd (bO ops.toList i)).all done.contains&&
  done.all (λj=>gD C ops.toList j !=3||jh A j i)&&
  (decide (gD C ops.toList i<=1)||done.all λj=>gD C ops.toList j !=1||(gD C ops.toList i==3&&jh A j i)||n.contains j)&&
  n.all (λj=>decide (gD C ops.toList j<=1)&&((bO ops.toList j).looksAt ops).all λt=>(List.range ops.size).all λm=>dU ops.toList m !=some t||jh A m j||r.any (·.1==m))&&
  !LF (bO ops.toList i)&&jf C ops A (i::done) r
def ru(C:Ctx)(nt:Nat)(ops:Array Oper)(A:List aI)(l:List (Nat×aI)):Bool:=
 jf C ops A [] l&&(List.range ops.size).all (λi=>l.any (·.1==i))&&
 (List.range ops.size).all (λi=>(A.getD i []).all λp=>(jd (bO ops.toList i)).contains p||(jd (bO ops.toList i)).any λq=>jh A p q)&&
 (List.range ops.size).all (λi=>(List.range ops.size).all λj=>i==j||dU ops.toList i==none||dU ops.toList i !=dU ops.toList j)&&
 (List.range ops.size).all (λi=>match dU ops.toList i with|some d=>decide (d<nt)|none=>true)&&
 (List.range ops.size).all (λi=>(List.range ops.size).all λj=>match dU ops.toList j with
  |some d=>!((bO ops.toList i).looksAt ops).contains d||(i !=j&&(jh A j i||jh A i j))
  |none=>true)
structure sW(C:Ctx)(nt:Nat)(ops:Array Oper)(A:List aI):Prop where
 closed:∀i p,i<ops.size->jh A p i=true->p∈jd (bO ops.toList i)\/∃q∈jd (bO ops.toList i),jh A p q=true
 dst:∀i j d,i<ops.size->j<ops.size->dU ops.toList i=some d->dU ops.toList j=some d->i=j
 Fj:∀i d,i<ops.size->dU ops.toList i=some d->d<nt
 look:∀i j d,i<ops.size->j<ops.size->dU ops.toList j=some d->d∈(bO ops.toList i).looksAt ops->i≠j/\(jh A j i=true\/jh A i j=true)
structure aem(C:Ctx)(ops:Array Oper)(A:List aI)(done:aI)(i:Nat)(ck:aI)(r:List (Nat×aI)):Prop where
 lt:i<ops.size
 new:i∉done
 Km:∀p∈jd (bO ops.toList i),p∈done
 world:∀j∈done,gD C ops.toList j=3->jh A j i=true
 a9L:2<=gD C ops.toList i->∀j∈done,gD C ops.toList j=1->(gD C ops.toList i=3/\jh A j i=true)\/j∈ck
 told:∀j∈ck,gD C ops.toList j<=1/\∀t∈(bO ops.toList j).looksAt ops,∀m,m<ops.size->dU ops.toList m=some t->jh A m j=true\/∃p∈r,p.1=m
 plain:∀c,(bO ops.toList i).op≠ .defer c
 rest:jf C ops A (i::done) r=true
def gS{C:Ctx}{ops:Array Oper}{A:List aI}{n:aI}{r:List (Nat×aI)}(h:jf C ops A done ((i,n)::r)=true):aem C ops A done i n r:=by
 simp only[jf,lF] at h;obtain⟨⟨⟨⟨⟨⟨⟨b,N⟩,M⟩,u⟩,d⟩,e⟩,y⟩,a⟩:=h;refine⟨W,W,λp g=>W,λj z F=>?_,λF j z q=>?_,λj z=>?_,λc F=>?_,a⟩
 .grind
 .grind
 .grind
 .simp [LF,F] at y
def k6{C:Ctx}{ops:Array Oper}{A:List aI}:∀{r:List (Nat×aI)} {done:aI},jf C ops A done r=true->∀p∈r,p.1∉done
 |[],done,h,p,hp=>G
 |(i,n)::r,done,h,p,hp=>by
  have g:=gS h;cases hp with
  |head=>exact g.new
  |tail _ hp=>exact λf=>k6 g.rest p hp W
def RQ{C:Ctx}{ops:Array Oper}{A:List aI}{l:List (Nat×aI)}(h:ru C nt ops A l=true):sW C nt ops A/\jf C ops A [] l=true/\∀i,i<ops.size->∃p∈l,p.1=i:=by
 simp only[ru,lF] at h;obtain⟨⟨⟨⟨⟨c,N⟩,M⟩,u⟩,r⟩,k⟩:=h;have a:∀{f:bs},(List.range ops.size).all f=true->∀i,i<ops.size->f i=true:=λH i F=>W;refine⟨⟨λi p F g=>?_,λi j d F z m b=>?_,λi d F e=>?_,λi j d F z e t=>?_⟩,c,λi F=>?_⟩
 .have:=uK.1 (a M i F) p (by simpa [jh] using g);grind
 .grind
 .grind
 .grind
 grind
def w8{ops:Array Oper}(h:i<ops.size):ops[i]? =some (bO ops.toList i):=by unfold bO;grind
variable {P:Program} {C:Ctx}
structure Ds(P:Program)(C:Ctx)(nt:Nat)(ops:Array Oper)(A:List aI)(rt:Rt)(k:cF)(iD:Ren)(lu:Heap)(oK:World)(pB:Env)
  (listed:Array Bool) (done:aI) (rest:List (Nat×aI)) (es:Nat->Env) (nm:Nat->Option Nat) (ds:List D) (e:Env) (h:Heap) (ρ:Ren) (a:Act) (w:World):Prop where
 run:(jW C nt ops.toList (je ops.toList rest)).run rt ds e h k=true
 chk:jf C ops A done rest=true
 bI:listed.size=ops.size
 Fj:∀i∈done,i<ops.size
 all:∀i,i<ops.size->i∈done\/∃p∈rest,p.1=i
 unr:∀p∈rest,listed.getD p.1 false=false
 eag:∀i∈done,listed.getD i false=true\/gD C ops.toList i≠3
 clo:∀i,i<ops.size->listed.getD i false=true->∀p,jh A p i=true->listed.getD p false=true
 dcl:∀i∈done,∀p,jh A p i=true->p∈done
 env:∀t,(∃i∈done,listed.getD i false=false/\dU ops.toList i=some t)->aW ρ ((eg t).get pB) (a.tmps.getD t undef)
 Mx:∀t,(∀i∈done,dU ops.toList i=some t->listed.getD i false=true)->aW ρ ((eg t).get e) (a.tmps.getD t undef)
 une:∀t,(∀i∈done,dU ops.toList i≠some t)->(eg t).get e=(eg t).get pB
 siz:a.tmps.size=nt
 dfr:sX (yD ρ) ds a.defers
 hep:aO P C ρ h w
 le:Le iD lu oK ρ h w
 look:∀i∈done,listed.getD i false=false->∀t∈(bO ops.toList i).looksAt ops,
  (∀m,m<ops.size->dU ops.toList m=some t->jh A m i=true->(eg t).get (es i)=(eg t).get e)/\((∀m,m<ops.size->dU ops.toList m=some t->jh A m i=false)->(eg t).get (es i)=(eg t).get pB)
 gJ:∀i∈done,listed.getD i false=false->∃V,(∀d,dU ops.toList i=some d->(eg d).get e=V)/\
  ((gD C ops.toList i<=1/\Told C ops.toList rt (bO ops.toList i) (cut ((bO ops.toList i).looksAt ops) (es i)) h V)\/
   (dO ops.toList (bO ops.toList i) (cut ((bO ops.toList i).looksAt ops) (es i))=some false/\V=cA)\/
   ∃q,nm i=some q/\dO ops.toList (bO ops.toList i) (cut ((bO ops.toList i).looksAt ops) (es i))=some true/\Ns P (bO ops.toList i) (cut ((bO ops.toList i).looksAt ops) (es i)) q V (bL q h))
 XH:∀i q,nm i=some q->i∈done/\listed.getD i false=false/\ρ q=none/\q<h.nx/\lu.nx<=q
 inj:∀i j q,nm i=some q->nm j=some q->i=j
variable {nt:Nat} {ops:Array Oper} {A:List aI} {rt:Rt} {k:cF} {iD:Ren} {lu:Heap} {oK:World} {pB:Env}
def nY{ds:List D}{e:Env}{rest:iR}:∀{l:aI},(∀j∈l,gD C ops.toList j<=1)->(lH C nt ops.toList (l.map (bO ops.toList)) rest).run rt ds e h k=true->
  rest.run rt ds e h k=true/\∀j∈l,∃V,Told C ops.toList rt (bO ops.toList j) e h V/\(dO ops.toList (bO ops.toList j) e=some true->∀d,dU ops.toList j=some d->(eg d).get e=V)
 |[],_,S=>⟨S,λj z=>G⟩
 |j::l,t,S=>by
  obtain⟨A,N⟩:=VV (nt:=nt) (t j J1) S;obtain⟨M,u⟩:=nY (λi F=>W) A;refine⟨M,λi F=>?_⟩;cases F with
  |head=>trivial
  |tail _ F=>exact u i F
def VT{o:Oper}{e:Env}{V:V}(hc:mU C o.op=0)(a:Told C ops.toList rt o e h V):Told C ops.toList rt o e h' V:=by
 rcases a with⟨A,N⟩|a
 .refine .inl ⟨A,λk=>?_⟩;obtain⟨g,p,u⟩:=Kf hc e;rw[u];have:=N (λv _=>k v h');rw[u] at this;exact this
 .exact .inr a
def Ds.a2l{listed:Array Bool}{n:aI}{r:List (Nat×aI)}{l:Nat->Env}{x:Nat->Option Nat}{ds:List D}{e:Env}{w:World}{V:V}
  (S:sW C nt ops A) (D:Ds P C nt ops A rt k iD lu oK pB listed done ((i,n)::r) l x ds e h ρ a w) (b:∀t,(eg t).get e'=if dU ops.toList i=some t then V else(eg t).get e)
  (o:∀j∈n,∃V,Told C ops.toList rt (bO ops.toList j) e' h' V/\(dO ops.toList (bO ops.toList j) e'=some true->∀d,dU ops.toList j=some d->(eg d).get e'=V))
  {j:Nat} (z:j∈done) (L:listed.getD j false=false) (hck:gD C ops.toList j=1->j∈n) (hq:∀q,x j=some q->bL q h'=bL q h):
  ∃V,(∀d,dU ops.toList j=some d->(eg d).get e'=V)/\
  ((gD C ops.toList j<=1/\Told C ops.toList rt (bO ops.toList j) (cut ((bO ops.toList j).looksAt ops) (l j)) h' V)\/
   (dO ops.toList (bO ops.toList j) (cut ((bO ops.toList j).looksAt ops) (l j))=some false/\V=cA)\/
   ∃q,x j=some q/\dO ops.toList (bO ops.toList j) (cut ((bO ops.toList j).looksAt ops) (l j))=some true/\Ns P (bO ops.toList j) (cut ((bO ops.toList j).looksAt ops) (l j)) q V (bL q h')):=by
 have H:=gS D.chk;have v:j≠i:=λh=>H.new W;have azH:∀d,dU ops.toList j=some d->(eg d).get e'=(eg d).get e:=λd f=>by rw[b,aj];exact λF=>v (S.dst j i d (D.Fj j z) H.lt f F)
 obtain⟨V',h1,N⟩:=D.gJ j z L;have E:∀d,dU ops.toList j=some d->(eg d).get e'=V':=λd f=>W;rcases N with⟨hc,N⟩|N|⟨q,M,u,h5⟩
 .by_cases hc0:gD C ops.toList j=0
  .exact ⟨V',E,.inl ⟨hc,VT hc0 N⟩⟩
  .have hjc:=hck Z;obtain⟨V2,t1,t2⟩:=o j hjc;have agree:∀t∈(bO ops.toList j).looksAt ops,(eg t).get e'=(eg t).get (l j):=by
    intro t Hx;obtain⟨c,l2⟩:=D.look j z L t Hx;by_cases R:∃m,m<ops.size/\dU ops.toList m=some t/\jh A m j=true
    .obtain ⟨m,m1,m2,s⟩:=R;rw[c m m1 m2 s,b,aj];intro F;have:=S.dst m i t m1 H.lt m2 F;subst this;exact H.new (D.dcl j z m s)
    .have Dp:∀m,m<ops.size->dU ops.toList m=some t->jh A m j=false:=W;have Um:∀m,m<ops.size->dU ops.toList m=some t->∃p∈r,p.1=m:=λm m1 m2=>by
      rcases(H.told j hjc).2 t Hx m m1 m2 with h|h
      .grind
      trivial
     rw[l2 Dp,b,aj]
     .exact D.une t λm hm' f=>by obtain⟨p,g,rfl⟩:=Um m (D.Fj m hm') f;exact k6 H.rest p g W
     .intro F;obtain⟨p,g,QP⟩:=Um i H.lt F;exact k6 H.rest p g W
   have t3:=JC t1;rw[Fk agree] at t3;have wag:dO ops.toList (bO ops.toList j) e'=dO ops.toList (bO ops.toList j) (cut ((bO ops.toList j).looksAt ops) (l j)):=by rw[←Fk agree,xz]
   rcases N with⟨h6,y⟩|⟨h6,y⟩
   .grind
   .exact ⟨V',E,W⟩
 .exact ⟨V',E,W⟩
 .exact ⟨V',E,W⟩
end
variable{j:Nat}
section
variable {P:Program} {C:Ctx} {nt:Nat} {ops:Array Oper} {A:List aI} {rt:Rt} {k:cF} {iD:Ren} {lu:Heap} {oK:World} {pB:Env}
def Bh{listed:Array Bool}{d:Bool}(h:i<listed.size):(listed.setIfInBounds i true).getD i d=true:=by rw[iL,FV h];rfl
def px{listed:Array Bool}{d:Bool}(h:j≠i):(listed.setIfInBounds i true).getD j d=listed.getD j d:=by rw[iL,FR Z,←iL]
def Ds.ahead{listed:Array Bool}{n:aI}{r:List (Nat×aI)}{l:Nat->Env}{x:Nat->Option Nat}{ds:List D}{e:Env}{w:World}
  (E:CtxOk P C) (S:sW C nt ops A) (D:Ds P C nt ops A rt k iD lu oK pB listed done ((i,n)::r) l x ds e h ρ a w) (hc:gD C ops.toList i<3):
  ∃es' nm' e' h',Ds P C nt ops A rt k iD lu oK pB listed (i::done) r es' nm' ds e' h' ρ a w:=by
 have H:=gS D.chk;have hun:listed.getD i false=false:=D.unr (i,n) J1;have hx:(oe C nt ops.toList (bO ops.toList i) (lH C nt ops.toList (n.map (bO ops.toList)) (jW C nt ops.toList (je ops.toList r)))).run rt ds e h k=true:=D.run
 classical
 have mk:∀(V:V) (e':Env) (h':Heap) (nm':Nat->Option Nat),(∀t,(eg t).get e'=if dU ops.toList i=some t then V else(eg t).get e)->
   (jW C nt ops.toList (je ops.toList r)).run rt ds e' h' k=true->aO P C ρ h' w->Le iD lu oK ρ h' w->
   ((gD C ops.toList i<=1/\Told C ops.toList rt (bO ops.toList i) (cut ((bO ops.toList i).looksAt ops) e) h' V)\/
    (dO ops.toList (bO ops.toList i) (cut ((bO ops.toList i).looksAt ops) e)=some false/\V=cA)\/
    ∃q,nm' i=some q/\dO ops.toList (bO ops.toList i) (cut ((bO ops.toList i).looksAt ops) e)=some true/\Ns P (bO ops.toList i) (cut ((bO ops.toList i).looksAt ops) e) q V (bL q h'))->
   (∀j∈done,listed.getD j false=false->∃V,(∀d,dU ops.toList j=some d->(eg d).get e'=V)/\
    ((gD C ops.toList j<=1/\Told C ops.toList rt (bO ops.toList j) (cut ((bO ops.toList j).looksAt ops) (l j)) h' V)\/
     (dO ops.toList (bO ops.toList j) (cut ((bO ops.toList j).looksAt ops) (l j))=some false/\V=cA)\/
     ∃q,x j=some q/\dO ops.toList (bO ops.toList j) (cut ((bO ops.toList j).looksAt ops) (l j))=some true/\Ns P (bO ops.toList j) (cut ((bO ops.toList j).looksAt ops) (l j)) q V (bL q h')))->
   (∀j q,j≠i->x j=some q->nm' j=some q)->(∀j q,nm' j=some q->j∈(i::done)/\listed.getD j false=false/\ρ q=none/\q<h'.nx/\lu.nx<=q)->(∀i j q,nm' i=some q->nm' j=some q->i=j)->
   Ds P C nt ops A rt k iD lu oK pB listed (i::done) r (λj=>if j=i then e else l j) nm' ds e' h' ρ a w:=by
  intro V e' h' nm' he u y hL QP hpj hnm apr apI;have a7R:∀j∈done,j≠i:=λj z v=>H.new W;refine⟨u,H.rest,D.bI,λj z=>?_,λj z=>?_,λp g=>D.unr p W,λj z=>?_,D.clo,λj z p g=>?_,λt o=>?_,λt o=>?_,λt o=>?_,D.siz,D.dfr,y,hL,λj z L t Hx=>?_,λj z L=>?_,apr,apI⟩
  .cases z with
   |head=>exact H.lt
   |tail _ z=>exact D.Fj j z
  .rcases D.all j z with h|⟨p,g,rfl⟩
   .grind
   grind
  .cases z with
   |head=>omega
   |tail _ z=>exact D.eag j z
  .cases z with
   |head=>
    rcases S.closed i p H.lt g with h|⟨q,N,h⟩
    .exact ia _ (H.Km p h)
    .exact ia _ (D.dcl q (H.Km q N) p h)
   |tail _ z=>exact ia _ (D.dcl j z p g)
  .obtain ⟨j,z,L,f⟩:=o;cases z with
   |head=>have Dp:∀m∈done,dU ops.toList m≠some t:=λm R hmd=>a7R m R (S.dst m i t (D.Fj m R) H.lt hmd f);rw[←D.une t Dp];exact D.Mx t W
   |tail _ z=>exact D.env t ⟨j,z,L,f⟩
  .have xl:dU ops.toList i≠some t:=λf=>by
    grind
   rw[he,aj xl];exact D.Mx t W
  .rw [he,aj W];exact D.une t W
  .cases z with
   |head=>
    rw[ao rfl];refine⟨λm m1 m2 s=>?_,λDp=>?_⟩
    .rw [he,aj];exact λf=>(S.look i i t H.lt H.lt f Hx).1 rfl
    .refine D.une t λm R hmd=>?_;rcases(S.look i m t H.lt (D.Fj m R) hmd Hx).2 with h|h
     .rw [Dp m (D.Fj m R) hmd] at h;cases h
     .exact H.new (D.dcl m R i h)
   |tail _ z=>rw[aj (a7R j z)];obtain⟨l1,l2⟩:=D.look j z L t Hx;refine⟨λm m1 m2 s=>?_,l2⟩;rw[l1 m m1 m2 s,he,aj];intro f;have:=S.dst m i t m1 H.lt m2 f;subst this;exact H.new (D.dcl j z m s)
  .grind
 have auG:∀q,x i≠some q:=λq N=>H.new (D.XH i q N).1;have JO:∀(V:V) (e':Env),(∀t,(eg t).get e'=if dU ops.toList i=some t then V else(eg t).get e)->∀j∈done,listed.getD j false=false->∃V,(∀d,dU ops.toList j=some d->(eg d).get e'=V)/\
    ((gD C ops.toList j<=1/\Told C ops.toList rt (bO ops.toList j) (cut ((bO ops.toList j).looksAt ops) (l j)) h V)\/
     (dO ops.toList (bO ops.toList j) (cut ((bO ops.toList j).looksAt ops) (l j))=some false/\V=cA)\/
     ∃q,x j=some q/\dO ops.toList (bO ops.toList j) (cut ((bO ops.toList j).looksAt ops) (l j))=some true/\Ns P (bO ops.toList j) (cut ((bO ops.toList j).looksAt ops) (l j)) q V (bL q h)):=by
  intro V e' he j z L;obtain⟨V',h1,h2⟩:=D.gJ j z L;refine⟨V',λd f=>?_,h2⟩;rw[he,aj]
  .grind
  .exact λF=>H.new ((S.dst j i d (D.Fj j z) H.lt f F)▸z)
 by_cases c:gD C ops.toList i<=1
 .obtain ⟨V,e',o,hr,he⟩:=ZI c H.plain hx;obtain⟨hr,_⟩:=nY (λj z=>(H.told j z).1) hr;exact⟨_,x,e',h,mk V e' h x he hr D.hep D.le (.inl ⟨c,JC o⟩) (JO V e' he) W (λj q N=>let ⟨a,b⟩:=D.XH j q N;W) D.inj⟩
 .have hc2:gD C ops.toList i=2:=by omega
  rcases ZJ (a9o E hc2) H.plain hx with⟨hw,V,O,h',e',hn,hg,hb,hr,he⟩|⟨hw,e',hr,he⟩
  .obtain ⟨hr,a42⟩:=nY (λj z=>(H.told j z).1) hr;have ais:ρ h.nx=none:=by
    cases hρ:ρ h.nx with
    |none=>rfl
    |some aF1=>have:=(D.hep.pW _ aF1 hρ).1;omega
   have hold:∀j q,x j=some q->bL q h'=bL q h:=λj q N=>by rw[hg,aj (by have:=(D.XH j q N).2.2.2.1;omega)]
   refine⟨_,λj=>if j=i then some h.nx else x j,e',h',mk V e' h' _ he hr (D.hep.ahead hn hg) (D.le.ahead D.hep hn hg) (.inr (.inr ⟨h.nx,J1,C9,?_⟩)) (λj z L=>?_) (λj q v N=>?_) (λj q N=>?_) (λj m q z R=>?_)⟩
   .rw [hg,ao rfl];exact hb
   .refine D.a2l S he a42 z L (λh1=>?_) (hold j);rcases H.a9L Z j z h1 with h|h
    .omega
    .exact h
   .rw [aj v];exact N
   .by_cases v:j=i
    .rw [ao v] at N;cases N;subst v;exact⟨J1,hun,ais,Z,D.le.nx⟩
    .rw [aj v] at N;obtain⟨a1,a2,a3,M,a5⟩:=D.XH j q N;exact⟨ia _ a1,a2,a3,Z,a5⟩
   .by_cases v:j=i<;>by_cases hmi:m=i
    .omega
    .rw [ao v] at z;rw[aj hmi] at R;cases z;have:=(D.XH m _ R).2.2.2.1;omega
    .rw [aj v] at z;rw[ao hmi] at R;cases R;have:=(D.XH j _ z).2.2.2.1;omega
    .rw [aj v] at z;rw[aj hmi] at R;exact D.inj j m q z R
  .obtain ⟨hr,_⟩:=nY (λj z=>(H.told j z).1) hr;exact⟨_,x,e',h,mk cA e' h x he hr D.hep D.le (.inr (.inl ⟨Jb,rfl⟩)) (JO cA e' he) W (λj q N=>let ⟨a,b⟩:=D.XH j q N;W) D.inj⟩
def Ds.settle(E:CtxOk P C)(S:sW C nt ops A){listed:Array Bool}{ds:List D}{w:World}:∀{rest:List (Nat×aI)} {done:aI} {l:Nat->Env} {x:Nat->Option Nat} {e:Env} {h:Heap},
  Ds P C nt ops A rt k iD lu oK pB listed done rest l x ds e h ρ a w->∃z q es' b e' h',Ds P C nt ops A rt k iD lu oK pB listed z q es' b ds e' h' ρ a w/\∀p∈q.head?,3<=gD C ops.toList p.1
 |[],done,l,x,e,h,D=>W
 |(i,n)::r,done,l,x,e,h,D=>by
  by_cases F:gD C ops.toList i<3
  .obtain ⟨es',b,e',h',f⟩:=D.ahead E S F;exact f.settle E S
  grind
end
variable{p t:Nat}{ck:aI}{T:eV}
section
variable {P:Program} {C:Ctx} {nt:Nat} {ops:Array Oper} {A:List aI} {rt:Rt} {k:cF} {iD:Ren} {lu:Heap} {oK:World} {pB:Env}
def nD{listed:Array Bool}(h:listed.getD j false=true):(listed.setIfInBounds i true).getD j false=true:=by
 by_cases v:j=i
 .subst v;exact Bh W
 .rw [px v];exact h
def js{listed:Array Bool}(F:i<listed.size)(h:(listed.setIfInBounds i true).getD j false=false):j≠i/\listed.getD j false=false:=by
 have v:j≠i:=λv=>by subst v;rw[Bh F] at h;cases h
 rw[px v] at h;trivial
def GF{c:Option Nat}{v:Value}:(a.put c v).tmps.getD t undef=if c=some t/\t<a.tmps.size then v else a.tmps.getD t undef:=by
 cases c with
 |none=>trivial
 |some d=>
  show(a.tmps.setIfInBounds d v).getD t undef=_;by_cases o:d=t
  .subst o;by_cases M:d<a.tmps.size
   .rw [ao G,iL,FV M];rfl
   grind
  .rw [aj (λh=>W),iL,FR o,←iL]
def Ds.anc{listed:Array Bool}{rest:List (Nat×aI)}{l:Nat->Env}{x:Nat->Option Nat}{ds:List D}{e:Env}{w:World}
  (S:sW C nt ops A) (D:Ds P C nt ops A rt k iD lu oK pB listed done rest l x ds e h ρ a w) {i:Nat} (F:i<ops.size) (d:∀p∈jd (bO ops.toList i),listed.getD p false=true):∀p,jh A p i=true->listed.getD p false=true:=by
 intro p g;rcases S.closed i p F g with h|⟨q,N,h⟩
 .grind
 .have N:=d q N;exact D.clo q (by rw[←D.bI];grind) N p h
def Ds.take{listed:Array Bool}{rest:List (Nat×aI)}{l:Nat->Env}{x:Nat->Option Nat}{ds:List D}{e:Env}{w:World}
  (Dm:∀o:Oper,(∀c,o.op≠ .defer c)->eY T P C (qm C o.op) o) (hT:T rt) (S:sW C nt ops A) (D:Ds P C nt ops A rt k iD lu oK pB listed done rest l x ds e h ρ a w) {i:Nat} (F:i∈done) (L:listed.getD i false=false)
  (hr:∀p∈jd (bO ops.toList i),listed.getD p false=true) {r:Option Nat} {aEY:Act->World->Prop} {aEV:Exit->Act->World->Prop}
  (hK:∀jP nm' a' w',Ds P C nt ops A rt k iD lu oK pB (listed.setIfInBounds i true) done rest l nm' ds e h jP a' w'->aEY a' w'):wpOpIn (rU r) 0 P ops aEV i aEY a w:=by
 have mO:=D.Fj i F;have hls:i<listed.size:=Js;have aq8:=D.anc S mO hr;have ho:=w8 mO;have acP:∀c,(bO ops.toList i).op≠ .defer c:=λc hc=>by
  rcases D.eag i F with h|h
  .grind
  .exact h (by simp[gD,mU,hc])
 have hE:dV ρ (cut ((bO ops.toList i).looksAt ops) (l i)) a.tmps:=by
  refine UP λt Hx=>?_;obtain⟨l1,l2⟩:=D.look i F L t Hx;by_cases R:∃m,m<ops.size/\dU ops.toList m=some t/\jh A m i=true
  .obtain ⟨m,m1,m2,m3⟩:=R;rw[l1 m m1 m2 m3];refine D.Mx t λj z f=>?_;rw[S.dst j m t (D.Fj j z) m1 f m2];grind
  .have Dp:∀m,m<ops.size->dU ops.toList m=some t->jh A m i=false:=λm m1 m2=>by
    grind
   rw[l2 Dp];by_cases H:∃j∈done,listed.getD j false=false/\dU ops.toList j=some t
   .exact D.env t H
   .have ai6:∀j∈done,dU ops.toList j≠some t:=λj z f=>by
     have hjt:listed.getD j false=true:=by
      cases s:listed.getD j false with
      |true=>rfl
      |false=>grind
     rcases(S.look i j t mO (D.Fj j z) f Hx).2 with h|h
     .rw [Dp j (D.Fj j z) f] at h;cases h
     .rw [D.clo j (D.Fj j z) hjt i h] at L;trivial
    rw[←D.une t ai6];exact D.Mx t W
 have mk:∀(v:Value) (jP:Ren) (w':World),(∀d,dU ops.toList i=some d->aW jP ((eg d).get e) v)->aO P C jP h w'->Le iD lu oK jP h w'->(∀i aF1,ρ i=some aF1->jP i=some aF1)->
   (∀j q,j≠i->x j=some q->jP q=none)->Ds P C nt ops A rt k iD lu oK pB (listed.setIfInBounds i true) done rest l (λj=>if j=i then none else x j) ds e h jP (a.put (dU ops.toList i) v) w':=by
  intro v jP w' H y hL yj hnm;have ah:∀t,dU ops.toList i≠some t->(a.put (dU ops.toList i) v).tmps.getD t undef=a.tmps.getD t undef:=λt ht=>Vl;refine⟨D.run,D.chk,by simp[D.bI],D.Fj,D.all,λp hp=>?_,λj z=>?_,λj z ht p hp=>?_,D.dcl,λt ht=>?_,λt ht=>?_,D.une,?_,?_,y,hL,λj z u=>?_,λj z u=>?_,λj q hq=>?_,λj m q z R=>?_⟩
  .rw [px (λQP=>k6 D.chk p hp W)];exact D.unr p hp
  .rcases D.eag j z with h|h
   .exact .inl (nD h)
   omega
  .by_cases ym:j=i
   .subst ym;exact nD W
   .rw [px ym] at ht;exact nD (D.clo j z ht p hp)
  .obtain ⟨j,z,u,f⟩:=ht;obtain⟨ym,u⟩:=js hls u;rw[ah t (λg=>ym (S.dst j i t (D.Fj j z) mO f g))];exact(D.env t W).mono yj
  .by_cases g:dU ops.toList i=some t
   .rw [GF,ao ⟨g,Jc⟩];grind
   .rw [ah t g];refine(D.Mx t λj z f=>?_).mono yj;have:=ht j z f;rwa [px (λym=>g (by rw[←ym];exact f))] at this
  .have:∀dst:Option Nat,(a.put dst v).tmps.size=a.tmps.size:=λdst=>by cases dst<;>simp[Act.put]
   rw[this,D.siz]
  .have:∀dst:Option Nat,(a.put dst v).defers=a.defers:=λdst=>by cases dst<;>rfl
   rw[this];exact D.dfr.mono λ_ _=>yD.mono yj
  .exact D.look j z (js hls u).2
  .obtain ⟨ym,u⟩:=js hls u;obtain⟨V,h1,N⟩:=D.gJ j z u;grind
  .by_cases ym:j=i
   .grind
   .rw [aj ym] at hq;obtain⟨a1,a2,n,M,b⟩:=D.XH j q hq;exact⟨a1,by rw[px ym];trivial,W,M,b⟩
  .by_cases ym:j=i
   .grind
   .by_cases hmi:m=i
    .grind
    .rw [aj ym] at z;rw[aj hmi] at R;exact D.inj j m q z R
 have told:∀V,(∀d,dU ops.toList i=some d->(eg d).get e=V)->Told C ops.toList rt (bO ops.toList i) (cut ((bO ops.toList i).looksAt ops) (l i)) h V->wpOpIn (rU r) 0 P ops aEV i aEY a w:=by intro V hV ht;refine VW W hT ht ho hE D.hep λv w' jP H y hL=>?_;exact hK _ _ _ _ (mk v jP w' (λd f=>W) y (D.le.trans hL) hL.xh λj q ym hq=>let ⟨_,_,n,M,_⟩:=D.XH j q hq;(hL.fresh q M n).2)
 obtain⟨V,hV,N⟩:=D.gJ i F L;rcases N with⟨_,N⟩|⟨N,h3⟩|⟨q,h3,h4,h5⟩
 .grind
 .exact told V hV (.inr ⟨N,h3⟩)
 .obtain ⟨_,_,n,M,b⟩:=D.XH i q h3;refine VX acP h4 h5 ho hE D.hep n M λv w' ob aF1 hw s H y=>?_;refine hK _ _ _ _ (mk v _ w' (λd f=>W) y (D.le.born n b hw.1 s W) (λj E z=>?_) λj p ym hp=>?_)
  .grind
  .show (if p=q then some aF1 else ρ p)=none;rw[aj (λh=>ym (D.inj j i q W h3))];exact(D.XH j p hp).2.2.1
def Ds.world{listed:Array Bool}{rest:List (Nat×aI)}{l:Nat->Env}{nm:Nat->Option Nat}{ds:List D}{e:Env}{w:World}
  (Dm:∀o:Oper,(∀c,o.op≠ .defer c)->eY T P C (qm C o.op) o) (hT:T rt) (S:sW C nt ops A) (D:Ds P C nt ops A rt k iD lu oK pB listed done ((i,ck)::rest) l nm ds e h ρ a w) (hc:3<=gD C ops.toList i)
  (d:∀p∈jd (bO ops.toList i),listed.getD p false=true) {r:Option Nat} {aEY:Act->World->Prop} {aEV:Exit->Act->World->Prop}
  (hK:∀e' h' jP a' w',Ds P C nt ops A rt k iD lu oK pB (listed.setIfInBounds i true) (i::done) rest l nm ds e' h' jP a' w'->aEY a' w'):wpOpIn (rU r) 0 P ops aEV i aEY a w:=by
 have H:=gS D.chk;have mO:=H.lt;have hls:i<listed.size:=Js;have aq8:=D.anc S mO d;have L:=w8 mO;have hun:listed.getD i false=false:=D.unr (i,ck) J1;have hx:(oe C nt ops.toList (bO ops.toList i) (lH C nt ops.toList (ck.map (bO ops.toList)) (jW C nt ops.toList (je ops.toList rest)))).run rt ds e h k=true:=D.run;have a7R:∀j∈done,j≠i:=λj z ym=>H.new W;have R:dV ρ (cut ((bO ops.toList i).looksAt ops) e) a.tmps:=by
  refine UP λt Hx=>D.Mx t λj z f=>?_;rcases(S.look i j t mO (D.Fj j z) f Hx).2 with h|h
  .grind
  .exact absurd (D.dcl j z i h) H.new
 have mk:∀(V:V) (v:Value) (e':Env) (h':Heap) (jP:Ren) (w':World),(∀t,(eg t).get e'=if dU ops.toList i=some t then V else(eg t).get e)->
   (lH C nt ops.toList (ck.map (bO ops.toList)) (jW C nt ops.toList (je ops.toList rest))).run rt ds e' h' k=true->aW jP V v->aO P C jP h' w'->Le ρ h w jP h' w'->
   Ds P C nt ops A rt k iD lu oK pB (listed.setIfInBounds i true) (i::done) rest l nm ds e' h' jP (a.put (dU ops.toList i) v) w':=by
  intro V v e' h' jP w' b lx hv y n;obtain⟨lx,a42⟩:=nY (λj z=>(H.told j z).1) lx;have ah:∀t,dU ops.toList i≠some t->(a.put (dU ops.toList i) v).tmps.getD t undef=a.tmps.getD t undef:=λt ht=>Vl;refine⟨lx,H.rest,by simp[D.bI],λj z=>?_,λj z=>?_,λp hp=>?_,λj z=>?_,λj z ht p hp=>?_,λj z p hp=>?_,λt ht=>?_,λt ht=>?_,λt ht=>?_,?_,?_,y,D.le.trans n,λj z u t Hx=>?_,λj z u=>?_,λj q N=>?_,D.inj⟩
  .cases z with
   |head=>trivial
   |tail _ z=>exact D.Fj j z
  .rcases D.all j z with h|⟨p,hp,rfl⟩
   .grind
   grind
  .rw [px (λQP=>k6 H.rest p hp W)];exact D.unr p W
  .cases z with
   |head=>exact .inl (Bh hls)
   |tail _ z=>
    rcases D.eag j z with h|h
    .exact .inl (nD h)
    omega
  .by_cases ym:j=i
   .subst ym;exact nD W
   .rw [px ym] at ht;exact nD (D.clo j z ht p hp)
  .cases z with
   |head=>
    rcases S.closed i p mO hp with h|⟨q,N,h⟩
    .exact ia _ (H.Km p h)
    .exact ia _ (D.dcl q (H.Km q N) p h)
   |tail _ z=>exact ia _ (D.dcl j z p hp)
  .obtain ⟨j,z,u,f⟩:=ht;obtain⟨ym,u⟩:=js hls u;cases z with
   |head=>trivial
   |tail _ z=>rw[ah t (λg=>ym (S.dst j i t (D.Fj j z) mO f g))];exact(D.env t ⟨j,z,u,f⟩).mono n.xh
  .by_cases g:dU ops.toList i=some t
   .rw [GF,ao ⟨g,Jc⟩,b,ao g];trivial
   .rw [ah t g,b,aj g];refine(D.Mx t λj z f=>?_).mono n.xh;have:=ht j (ia _ z) f;rwa [px (a7R j z)] at this
  .rw [b,aj W];exact D.une t W
  .have:∀dst:Option Nat,(a.put dst v).tmps.size=a.tmps.size:=λdst=>by cases dst<;>simp[Act.put]
   rw[this,D.siz]
  .have:∀dst:Option Nat,(a.put dst v).defers=a.defers:=λdst=>by cases dst<;>rfl
   rw[this];exact D.dfr.mono λ_ _=>yD.mono n.xh
  .obtain ⟨ym,u⟩:=js hls u;cases z with
   |head=>trivial
   |tail _ z=>obtain⟨l1,l2⟩:=D.look j z u t Hx;refine⟨λm m1 m2 s=>?_,l2⟩;rw[l1 m m1 m2 s,b,aj];intro f;have:=S.dst m i t m1 mO m2 f;subst this;exact H.new (D.dcl j z m s)
  .obtain ⟨ym,u⟩:=js hls u;cases z with
   |head=>trivial
   |tail _ z=>
    refine D.a2l S b a42 z u (λh1=>?_) (λq N=>?_)
    .rcases H.a9L Z j z h1 with⟨_,h⟩|h
     .grind
     trivial
    .obtain ⟨_,_,a3,M,_⟩:=D.XH j q N;exact(n.fresh q M a3).1
  .obtain ⟨a1,a2,a3,M,a5⟩:=D.XH j q N;exact⟨W,by rw[px W];trivial,(n.fresh q M a3).2,bW M n.nx,a5⟩
 unfold wpOpIn;rw[L]
 dsimp only
 rcases su H.plain hx with⟨hw,hx⟩|⟨hw,hx⟩
 .rw [pG C9 R,ao rfl];rw[←HZ (ops:=ops)] at hx;refine Dm _ H.plain rt r _ h _ ρ a w hT hx R D.hep aEY aEV ?_;rintro v w' ⟨V,h',jP,E,hv,y,n⟩;obtain⟨e',h5,F⟩:=nG E;exact hK _ _ _ _ _ (mk V v e' h' jP w' F h5 hv y n)
 .rw [pG C9 R];obtain⟨e',h5,F⟩:=nG hx;exact⟨λ_ _=>trivial,hK _ _ _ _ _ (mk cA undef e' h ρ w F h5 (aW.eM (x:=#[]) .nil) D.hep (Le.refl _ _ _))⟩
def a2T(o:Op):mU C o<=3:=by
 unfold mU
 repeat' split
 all_goals decide
def uk:∀{r:List (Nat×aI)} {done:aI},jf C ops A done r=true->∀p∈r,∀j∈done,gD C ops.toList j=3->jh A j p.1=true
 |[],done,h,p,hp=>G
 |(i,n)::r,done,h,p,hp=>by
  intro j z F;have g:=gS h;cases hp with
  |head=>exact g.world j z F
  |tail _ hp=>exact uk g.rest p hp j W F
def FA{listed:Array Bool}(m:∀i,i<ops.size->listed.getD i false=false->∃p∈jd (bO ops.toList i),listed.getD p false=false):
  ∀{l:List (Nat×aI)} {done:aI},jf C ops A done l=true->(∀j∈done,listed.getD j false=true)->∀p∈l,listed.getD p.1 false=true
 |[],done,h,f,p,hp=>G
 |(i,n)::l,done,h,f,p,hp=>by
  have g:=gS h;have F:listed.getD i false=true:=by
   cases s:listed.getD i false with
   |true=>rfl
   |false=>obtain⟨q,N,a⟩:=m i g.lt s;rw[f q (g.Km q N)] at a;trivial
  cases hp with
  |head=>trivial
  |tail _ hp=>refine FA m g.rest (λj z=>?_) p hp;grind
def YU{listed:Array Bool}(h:i<listed.size):listed.getD i true=listed.getD i false:=by grind
def EM{o:Oper}:p∈jd o↔∃e∈o.after,Region.binds .any e=true/\e.on=p:=by unfold jd;grind
def ZQ(E:CtxOk P C)(s:∀o:Oper,(∀c,o.op≠ .defer c)->eY T P C (qm C o.op) o)(v:T rt)(S:sW C nt ops A){l:List (Nat×aI)}(hl:jf C ops A [] l=true)(hla:∀i,i<ops.size->∃p∈l,p.1=i)
  {r:Option Nat} {aEV:Exit->Act->World->Prop} (hk:Di P C iD lu oK nt k (aEV .normal)):
  ∀(g:Nat) (U:aI) (listed:Array Bool) (done:aI) (rest:List (Nat×aI)) (es:Nat->Env) (x:Nat->Option Nat) (ds:List D) (e:Env) (h:Heap) (ρ:Ren) (a:Act) (w:World),
   Ds P C nt ops A rt k iD lu oK pB listed done rest es x ds e h ρ a w->(∀p∈rest.head?,3<=gD C ops.toList p.1)->U.length<=g->(∀i,i<ops.size->listed.getD i false=false->i∈U)->
   wpAnyIn (rU r) 0 P .any ops aEV g listed a w:=by
 have fin:∀(listed:Array Bool) (done:aI) (rest:List (Nat×aI)) (es:Nat->Env) (x:Nat->Option Nat) (ds:List D) (e:Env) (h:Heap) (ρ:Ren) (a:Act) (w:World),
   Ds P C nt ops A rt k iD lu oK pB listed done rest es x ds e h ρ a w->(∀i,i<ops.size->listed.getD i false=true)->aEV .normal a w:=by
  intro listed done rest es x ds e h ρ a w D Cs;have Um:rest= []:=by
   cases rest with
   |nil=>rfl
   |cons p rest=>have:=D.unr p J1;obtain⟨i,n⟩:=p;rw[Cs i (gS D.chk).lt] at this;trivial
  subst Um;exact hk ds e h ρ a w D.run ⟨λt=>D.Mx t λi F _=>Cs i (D.Fj i F),D.siz,D.dfr⟩ D.hep D.le
 have Pv:∀(listed:Array Bool),listed.size=ops.size->Region.ready .any ops listed= []->∀i,i<ops.size->listed.getD i false=true:=by
  intro listed hs d i F;obtain⟨p,hp,rfl⟩:=hla i F;refine FA (λj z u=>?_) hl J1 p hp;refine On λDp=>?_;have:j∈Region.ready .any ops listed:=by
   refine mem_ready.2 ⟨W,_,w8 z,λe b hb=>?_⟩;cases hb':listed.getD e.on false with
   |true=>rfl
   |false=>exact absurd ⟨e.on,EM.2 W,hb'⟩ Dp
  rw[d] at this;cases this
 intro g
 induction g with
 |zero=>
  intro U listed done rest es x ds e h ρ a w D hh hU hUa;have Cs:∀i,i<ops.size->listed.getD i false=true:=W;refine⟨?_,W⟩;cases d:Region.ready .any ops listed with
  |nil=>rfl
  |cons i rs=>
   have F:i∈Region.ready .any ops listed:=by rw[d];simp
   obtain⟨h1,o,N,_⟩:=mem_ready.1 F;grind
 |succ g H=>
  intro U listed done rest es x ds e h ρ a w D hh hU hUa;refine⟨λd=>fin _ _ _ _ _ _ _ _ _ _ _ D (Pv listed D.bI d),λi F=>?_⟩;obtain⟨h1,o,N,M⟩:=mem_ready.1 F;have mO:i<ops.size:=by
   rcases dN i ops.size with R|R
   .trivial
   .grind
  have L:listed.getD i false=false:=by rw[←YU W];exact h1
  have ho:o=bO ops.toList i:=by rw[w8 mO] at N;exact W
  have d:∀p∈jd (bO ops.toList i),listed.getD p false=true:=λp hp=>by obtain⟨e,b,hb,rfl⟩:=EM.1 hp;grind
  have hls:i<listed.size:=Js;have hU':(U.erase i).length<=g:=by have:=List.length_erase_of_mem (hUa i mO L);omega
  have aA3:∀j,j<ops.size->(listed.setIfInBounds i true).getD j false=false->j∈U.erase i:=λj z u=>by obtain⟨ym,u⟩:=js hls u;grind
  rcases D.all i mO with hd|⟨p,hp,QP⟩
  .exact D.take s v S hd L d W
  .cases rest with
   |nil=>trivial
   |cons q rest=>
    obtain⟨j,n⟩:=q;have hc:=hh (j,n) J1;by_cases ym:j=i
    .subst ym;refine D.world s v S hc d λe' R jP a' w' f=>?_;obtain⟨aw0,asP,es2,nm2,e2,N,D2,hh2⟩:=f.settle E S;grind
    .exfalso;have tV:p∈rest:=by
      cases hp with
      |head=>trivial
      |tail _ hp=>trivial
     have y:=gS D.chk;have m:gD C ops.toList j=3:=Nat.le_antisymm (a2T _) hc;have:=uk y.rest p tV j J1 m;rw[QP] at this;have:=D.anc S mO d j this;rw[D.unr (j,n) J1] at this;trivial
def RW{fn id:Nat}{l:List (Nat×aI)}(E:CtxOk P C)(H:P.follows .mixedOrders=true)(s:∀o:Oper,(∀c,o.op≠ .defer c)->eY T P C (qm C o.op) o)(m:C.dr fn id=some l)(N:ru C (ij C fn) ops A l=true):
  gF T P C (ij C fn) (jc C fn id ops true) (.region id ops true):=by
 intro rt rd r L e h M j k a w aEV v d u R y hn hk;obtain⟨S,x,p⟩:=RQ N;have hx:(jW C (ij C fn) ops.toList (je ops.toList l)).run rt L e h M=true:=by
  unfold jc at u
  dsimp only at u
  rw[m] at u;exact u
 refine wpIn_region_any H ?_;have D:Ds P C (ij C fn) ops A rt M k h w e (Array.replicate ops.size false) [] l (λ_=>e) (λ_=>none) L e h k a {w with drawn:=w.drawn+1}:=by
  have bL:∀i,(Array.replicate ops.size false).getD i false=false:=λi=>by rw[iL,Array.getElem?_replicate];grind
  refine⟨hx,x,J1,J1,λi F=>W,W,J1,λi _ ht=>?_,J1,λt ht=>?_,λt _=>R.env t,W,R.size,R.defers,y.world rfl,Le.world rfl,J1,J1,W,λ_ _ _ h=>Q8⟩
  .grind
  .grind
 obtain⟨z,q,n,b,e',h',f,g⟩:=D.settle E S;exact ZQ E s v S x p hn ops.size (List.range ops.size) _ _ _ _ _ _ _ _ _ _ _ f g J1 W
end
variable{pos:Nat}
section
variable {P:Program} {C:Ctx} {ρ:Ren}
def KD{o:Oper}{x:Operand}(E:CtxOk P C)(L:o.op= .makeMap t (some x)):eY T P C (qm C (.makeMap t (some x))) o:=by
 have f:∀c,o.op≠ .defer c:=O4;unfold qm
 dsimp only
 split
 .rename_i ti F;obtain⟨_,_,_,M⟩:=bU E F;split
  .rename_i kt u q;rw[q] at M;intro z r e h k ρ a w _ S R y;obtain⟨N,n,H,S⟩:=eB (aJ R x) S;obtain⟨A,s,g,p⟩:=eE S;obtain⟨b,d⟩:=y.push (w':=w.alloc (.map #[] 0)) (aF1:=⟨w.heap.size,0,0⟩) rfl rfl g p ⟨#[],rfl,rfl,λi x m h=>Zn⟩;refine fS.value f (w':=w.alloc (.map #[] 0)) (v:=.map (some w.heap.size)) ?_ ⟨_,_,_,s,.map _ ⟨w.heap.size,0,0⟩ J1,b,d⟩;simp[execOp,L,Instr.makeMap,aU M,H,asInt,asIntOf]
  .exact .bad
 .exact .bad
def a39{o:Oper}{t:Nat}{x:Operand}{F:Array TypeId}(hC:CtxOk P C)(L:o.op= .call {callee:=.builtin .clear,args:=#[x],argTypes:=F}):eY T P C (CJ C F.toList x) o:=by
 have f:∀c,o.op≠ .defer c:=O4;unfold CJ;split
 .rename_i t _ DI;have DI:F[0]? =some t:=by rw[←jq,DI];rfl
  have A:∀(a:Act) (w l:World),(Builtin.clear_ F o.type #[a.eval x]).run P w= .ok (.tuple #[]) l->(execOp a.eval o).run P w= .ok (.value (.tuple #[])) l:=by intro a w l hh;obtain⟨cs,hb⟩:=gN (P:=P) (a:=a) (w:=w) L;rw[hb];simp[builtin,hh]
  split
  .rename_i ti rS;obtain⟨_,_,_,M⟩:=bU hC rS;split
   .rename_i kt u v;rw[v] at M;intro rt r e h k ρ a w _ S hE y;have d:=aJ hE x;rcases V.dJ.1 S with⟨i,hm,S⟩|⟨hm,S⟩
    .rw [hm] at d;obtain⟨j,q,H⟩:=Ai d;obtain⟨es,c,hg,S⟩:=O.dJ.1 S;obtain⟨ms,s,hl,yn⟩:=tA y q hg;obtain⟨R,E,kO,hL⟩:=qN y q hg (es':=[]) (ms':=#[]) rfl W S;refine fS.value f (A a w _ ?_) ⟨cA,R,ρ,E,aW.eM (x:=#[]) .nil,kO,hL⟩;simp[Builtin.clear_,DI,H,aU M,hY s,ju s]
    .rw [hm] at d;have H:a.eval x= .map none:=by
      generalize a.eval x=vx at *;cases d;rfl
     refine fS.value f (A a w w ?_) (iG.same S (aW.eM (x:=#[]) .nil) y rfl);simp[Builtin.clear_,DI,H,aU M]
   .rename_i u v;rw[v] at M;split
    .rename_i ei rf;obtain⟨ie,g1,g2,_,g3,z,g4,_,g,g6,g7,_⟩:=hC.ty u ei rf
     dsimp only
     split
     .exact .bad
     .rename_i hz;intro rt r e h k ρ a w _ S hE y;have d:=aJ hE x;rcases V.dZ.1 S with⟨i,p,n,c,EU,S⟩|⟨EU,S⟩|⟨_,S⟩
      .rw [EU] at d;obtain⟨j,cap,q,_,_,H|⟨rfl,rfl,ad,H⟩⟩:=oa d
       case inr=>
        rw[bB,j9] at S;have e0:py ei.cW (Nat.mul 0 ei.sz)= []:=by unfold py;rw[show Nat.mul 0 ei.sz=0 from qp _];rfl
        rw[e0] at S;obtain⟨R,l,E,N,kO,hL⟩:=gO y q (xs:=[]) .nil J1 S;have hw:l=w:=by simp only[storeCells,Sem.run_pure] at N;cases N;rfl
        subst hw;refine fS.value f (A a l l ?_) ⟨cA,R,ρ,E,aW.eM (x:=#[]) .nil,kO,hL⟩;simp[Builtin.clear_,DI,H,aU M]
       rw[bB,j9] at S;have hzp:0<ei.cW.length:=by rw[g7];exact W
       have hzs:z.cells.size=ei.sz:=by
        have:=(g ρ).1;rw[g7] at this
        simpa using this.symm
       have hrel:=Bl (m:=n*ei.sz) (g ρ) hzp;obtain⟨R,l,E,N,kO,hL⟩:=gO y q hrel (pL g6 hzp) S;refine fS.value f (A a w l ?_) ⟨cA,R,ρ,E,aW.eM (x:=#[]) .nil,kO,hL⟩;cases n with
       |zero=>
        have N:l=w:=by have e0:((Array.range (0*ei.sz)).map (z.cells[· % z.cells.size]!)).toList= []:=J1;rw[e0] at N;simp only[storeCells,Sem.run_pure] at N;cases N;rfl
        subst N;simp[Builtin.clear_,DI,H,aU M]
       |succ n=>
        have hzc:(Builtin.zeroCells z.cells (n+1)).toList=((Array.range ((n+1)*ei.sz)).map (z.cells[· % z.cells.size]!)).toList:=by unfold Builtin.zeroCells;rw[hzs]
        have a8n:(storeCells ⟨j.b,p,none⟩ (Builtin.zeroCells z.cells (n+1)).toList).run P w= .ok () l:=by rw[hzc];exact N
        simp[Builtin.clear_,DI,H,aU M,sh g1 g4,a8n]
      .rw [EU] at d;have H:a.eval x= .slice none 0 0:=by
        generalize a.eval x=vx at *;cases d;rfl
       refine fS.value f (A a w w ?_) (iG.same S (aW.eM (x:=#[]) .nil) y rfl);simp[Builtin.clear_,DI,H,aU M]
      trivial
    .exact .bad
   .exact .bad
  .exact .bad
 .exact .bad
def GQ{o:Oper}{x:Operand}{F:Array TypeId}(L:o.op= .call {callee:=.builtin .unsafeSliceData,args:=#[x],argTypes:=F}):
  eY T P C (bZ (λe q=>V.cK ((ax x).get e) (λi o n _=>aR (Nat.beq n 0) false (q (.ptr i o))) (q .bg) false)) o:=by
 have f:∀c,o.op≠ .defer c:=O4;refine .pure f λρ e q a w h R=>?_;have d:=aJ R x;obtain⟨t,s⟩:=gN (P:=P) (a:=a) (w:=w) L;rcases V.dZ.1 h with⟨i,p,n,c,z,h⟩|⟨z,h⟩|⟨_,h⟩
 .rw [z] at d;obtain⟨j,cap,l,v,g,H|⟨rfl,rfl,r,H⟩⟩:=oa d
  case inr=>trivial
  rcases bK.1 h with⟨_,h⟩|⟨u,h⟩
  .trivial
  .refine ⟨_,_,h,.ptr i p j l,J1,?_⟩;have k:n≠0:=λm=>by subst m;trivial
   rw[s];simp[builtin,H,Lib.run_unsafeSliceData_row w F o.type ⟨j.b,p,none⟩ n cap Z]
 .rw [z] at d;have H:a.eval x= .slice none 0 0:=by
   generalize a.eval x=y at *;cases d;rfl
  refine⟨_,_,h,.bg,J1,?_⟩;rw[s];simp[builtin,H,Lib.run_unsafeSliceData_nil]
 trivial
def KI{v:V}{q:Bool->Bool}(h:V.cq v q=true):(v= .bg/\q true=true)\/q false=true:=by cases v<;>simp[V.cq] at h ⊢ <;> first|exact h|grind
def LX(w:World)(a:Addr)(n:Nat):(w.freeze a n).heap.size=w.heap.size:=by unfold World.freeze;grind
def HM(w:World)(a:Addr)(n:Nat){b:Nat}(h:b≠a.block):(w.freeze a n).heap[b]? =w.heap[b]? :=by unfold World.freeze;grind
def a7H{o:Oper}{p n:Operand}{ts:Array TypeId}(hC:CtxOk P C)(L:o.op= .call {callee:=.builtin .unsafeString,args:=#[p,n],argTypes:=ts}):eY T P C (IY C ts.toList p n) o:=by
 have f:∀c,o.op≠ .defer c:=O4;by_cases DI:∃t u,ts= #[t,u]
 case neg=>
  unfold IY;split
  .grind
  .exact .bad
 obtain⟨t,u,rfl⟩:=DI;unfold IY
 dsimp only
 split
 .rename_i ti rS;obtain⟨_,_,_,M⟩:=bU hC rS;split
  .rename_i el fW;rw[fW] at M;split
   .rename_i ei rf;obtain⟨ie,g1,g2,g3⟩:=bU hC rf;split
    .rename_i hed;have Co:ei.sz=1:=hC.one el ei rf (by rw[hed];rfl);have hcz:P.cellsOf el=1:=Xd;intro rt r e h k ρ a w _ S R y;have S:V.wc ((ax n).get e) (λn=>V.Ck ((ax p).get e)
       (λi o=>aR (Nat.beq o 0) (aR (Nat.beq n 0) (k (.str []) h) (O.eO (bL i h) (λzB m fz _ _ _=>aR (Nat.beq zB el) (aR (Nat.ble fz m) (fh i 0 n h (λvs=>rE vs (λs=>eX i .dead h (λh=>k (.str s) h)))) false) false))) false)
       (V.cq ((ax p).get e) (λb=>aR b (aR (Nat.beq n 0) (k (.str []) h) false) false)))=true:=S
     have A:∀(v:Value) (w':World),(Builtin.unsafeString_ #[t,u] o.type #[a.eval p,a.eval n]).run P w= .ok v w'->(execOp a.eval o).run P w= .ok (.value v) w':=by intro v w' hh;obtain⟨H,hb⟩:=gN (P:=P) (a:=a) (w:=w) L;rw[hb];simp[builtin,hh]
     have rn:=aJ R n;have rp:=aJ R p;obtain⟨m,hn,S⟩:=V.qP.1 S;rw[hn] at rn;have hnv:a.eval n= .int .i64 (m:Int)/\m<=cO:=by generalize a.eval n=vn at *;cases rn with|num _ h=>trivial
     obtain⟨hnv,a8u⟩:=hnv;rcases V.vd.1 S with⟨i,q,g,Ny⟩|⟨_,Ny⟩
     .rw [g] at rp;obtain⟨aF1,hB,hpv⟩:∃aF1,ρ i=some aF1/\a.eval p= .pointer (some ⟨aF1.b,q,none⟩):=by
       generalize a.eval p=vp at *;cases rp with|ptr _ _ aF1 hB=>grind
      obtain⟨N,rR⟩:=aN.1 Ny;have N:=br N;subst N;rcases bK.1 rR with⟨h0,hx3⟩|⟨h0,hx3⟩
      .have h0:=br h0;subst h0;refine fS.value f (A (.string .empty) w ?_) (iG.same hx3 (.str ByteArray.empty) y rfl);rw[hpv,hnv];trivial
      .obtain ⟨zB,nn,fz,wh,z,c,hg,Cm⟩:=O.fj.1 hx3;obtain⟨h4,hx5⟩:=aN.1 Cm;have h4:=br h4;subst h4;obtain⟨h4z,hx5⟩:=aN.1 hx5;have h4z:=bh h4z;obtain⟨l,xs,E,d,r2,r3,r4⟩:=eu y hB hx5;obtain⟨ns,E,rfl⟩:=vA d E;obtain⟨h',E,hn',hg'⟩:=jJ E;obtain⟨H,fr,s1,s2,s3,s4,_⟩:=lW y hB hg;have hlen:ns.length=m:=by have:=d.1;rw[←r3,this];simp
       have hsh:w.shape? aF1.b=some (zB,H.size):=by simp[World.shape?,s1]
       have a4g:∀j x,ns[j]? =some x->w.cell? ((⟨aF1.b,0,none⟩:Addr).add j)=some (.int .u8 x.toNat):=by intro j x hj;exact r4 j _ W
       have hle:ns.length<=H.size:=by obtain⟨_,_,_,_,_,_,xm,F⟩:=O.fj.1 hx5;rw[hg] at xm;cases xm;have h7:0+m<=nn:=bh (aN.1 F).1;omega
       have lx:=Lib.run_unsafeString_row (P:=P) w t u o.type zB M hcz aF1.b H.size hsh ns (λhe=>W) hle (by rw[hlen];trivial) a4g;obtain⟨kO,hL⟩:=y.put (w':=w.freeze ⟨aF1.b,0,none⟩ ns.length) (o:=.dead) hB (by rw[hg];rfl) (.inl (by rw[hg];trivial)) (LX _ _ _) trivial (λb xl=>HM _ _ _ xl) hn' hg' J1 (by unfold World.freeze;split<;>exact G);refine fS.value f (A (.string ⟨ns.toArray⟩) _ ?_) ⟨.str (ns.map (·.toNat)),h',ρ,E,?_,kO,hL⟩
       .grind
       .have e:bytesOf ⟨ns.toArray⟩=ns.map (·.toNat):=rfl;rw[←e];exact .str _
     .obtain ⟨g,rR,hm⟩:(ax p).get e= .bg/\k (.str []) h=true/\m=0:=by
       rcases KI Ny with⟨h4,h5⟩|h5
       .obtain ⟨F,h7⟩:=aN.1 (show aR (Nat.beq m 0) (k (.str []) h) false=true from h5);exact⟨h4,h7,br F⟩
       trivial
      subst hm;rw[g] at rp;have hpv:a.eval p= .pointer none:=by generalize a.eval p=vp at *;cases rp;rfl
      refine fS.value f (A (.string .empty) w ?_) (iG.same rR (.str ByteArray.empty) y rfl);rw[hpv,hnv];trivial
    .exact .bad
   .exact .bad
  .exact .bad
 .exact .bad
def ZO{s:aI}{k:aI->Bool}(h:eR pos s k=true):pos<=s.length/\k (s.drop pos)=true:=by
 induction pos generalizing s with
 |zero=>exact⟨Z,h⟩
 |succ n H=>
  cases s with
  |nil=>trivial
  |cons x s=>obtain⟨A,N⟩:=H h;grind
def a7K{o:Oper}{x:Operand}{s:Bool}(L:o.op= .next x s):eY T P C (TP x s) o:=by
 have f:∀c,o.op≠ .defer c:=O4;unfold TP;split
 .intro rt r e h k ρ a w _ S hE y;obtain⟨i,p,j,q,H,S⟩:=fv (aJ hE x) S;obtain⟨g,S⟩:=aN.1 S;have g:=br g;subst g;obtain⟨s,pos,hg,S⟩:=O.Ky.1 S;have hob:=y.obj i j q;rw[hg] at hob;obtain⟨b,hb,M⟩:=hob;obtain⟨ayN,S⟩:=ZO S;have HH:s.length=b.size:=by rw[←M];unfold bytesOf;rw[dT];exact xw
  have hgr:(getObj j.b).run P w= .ok (.stringIter b pos) w:=by simp[getObj,Sem.run,hb]
  cases m:s.drop pos with
  |nil=>
   rw[m] at S;have S:k (.cI [.bool false]) h=true:=S;have z:¬pos<b.size:=by have:=List.drop_eq_nil_iff.1 m;omega
   refine fS.value f (v:=.tuple #[.bool false]) (w':=w) ?_ (iG.same S (aW.eM (x:=#[.bool false]) (.cons (.bool false) .nil)) y rfl);simp[execOp,L,Instr.next,H,hgr,z]
  |cons c rs=>
   rw[m] at S;have S:aR (Nat.blt c 128) (aR (Nat.ble pos cO) (gy (Nat.add pos 1) (λp=>eX i (.yI s p) h (λh=>k (.cI [.bool true,.num pos,.ik .i32 (.ofNat c)]) h))) false) false=true:=S;obtain⟨F,S⟩:=aN.1 S;obtain⟨a8u,S⟩:=aN.1 S;have a8u:=bh a8u;have F:c<128:=bh F;rw[ea] at S;obtain⟨R,E,hn,t⟩:=jJ S;have mO:pos<s.length:=by
    rcases dN pos s.length with h|h
    .exact h
    .grind
   have aij:pos<b.size:=Z;have d:(b.get! pos).toNat=c:=by
    have A:s[pos]? =some c:=by
     have:=congrArg (λl=>l[0]?) m
     simpa [FM] using this
    rw[←M] at A;unfold bytesOf at A;rw[rX,jq] at A;have N:pos<b.data.size:=aij;rw[mL N] at A;simp only[mI,jo] at A;rw[←A];congr 1;show b.data[pos]! =b.data[pos];exact W
   have u:Utf8.decode b pos=(c,1):=by unfold Utf8.decode;simp only[j8,d];rw[ao Z]
   have ap4:(setObj j.b (.stringIter b (pos+1))).run P w= .ok () {w with heap:=w.heap.setIfInBounds j.b (.stringIter b (pos+1))}:=by simp[setObj,Sem.run,hb]
   have hbs:=(y.pW i j q).2;obtain⟨kO,n⟩:=y.put (w':={w with heap:=w.heap.setIfInBounds j.b (.stringIter b (pos+1))}) (o:=.yI s (pos+1)) q (by rw[hg];rfl) (.inl (by rw[hg];rfl)) J1
    ⟨b,by simp[hbs],M⟩ (λb xl=>W) hn t J1
   refine fS.value f (v:=.tuple #[.bool true,goInt pos,.int .i32 (c:Int)]) ?_ ⟨_,R,ρ,E,aW.eM (x:=#[.bool true,goInt pos,.int .i32 (c:Int)]) (.cons (.bool true) (.cons (.num pos a8u) (.cons (.ik .i32 (c:Int)) .nil))),kO,n⟩;simp[execOp,L,Instr.next,H,hgr,aij,u,ap4]
 .exact .bad
end
variable{c:Nat}{w':World}{q:aY}{args:ay}
section
variable {P:Program} {C:Ctx} {ρ:Ren}
def tQ(P:Program)(f:FuncId)(xs:Array Value)(w:World)(R:Value->World->Prop):Prop:=
 (∃v l,(callFunc f xs).run P w= .ok (.value v) l/\R v l)\/
 ((callFunc f xs).run P w= .ok (.enter f xs) w/\CallsIn (rU none) 0 P f xs w (λe l=>∃v,e= .returned v/\R v l))
def tQ.mono{f:FuncId}{xs:Array Value}{w:World}{R c:Value->World->Prop}(h:tQ P f xs w R)(d:∀v w',R v w'->c v w'):tQ P f xs w c:=by
 rcases h with⟨v,w',A,N⟩|⟨A,N⟩
 .exact .inl ⟨v,w',A,d _ _ N⟩
 .refine .inr ⟨A,N.mono ?_⟩;rintro e w' ⟨v,b,M⟩;exact⟨v,b,d _ _ M⟩
def cN(P:Program)(C:Ctx)(e:Ext)(f:FuncId):Prop:=
 ∀(args:ay) (h:Heap) (k:cR) (ρ:Ren) (m:Array Value) (w:World),(a4O C e).run args h k=true->cG ρ args m.toList->aO P C ρ h w->tQ P f m w (iG P C ρ h w k)
structure rP(P:Program)(f:FuncId)(row:Array Value->Sem Value):Prop where
 is : ∃ fn, P.funcs[f]? = some fn /\ (fn.name == "runtime.NumGoroutine") = false /\ fn.body.isNone = true /\ Extern.findNext fn = none /\ Extern.find fn = some row
def rP.call{f:FuncId}{row:Array Value->Sem Value}(h:rP P f row){xs:Array Value}{w:World}{v:Value}(d:(row xs).run P w= .ok v w'):(callFunc f xs).run P w= .ok (.value v) w':=by obtain⟨fn,A,N,M,u,r⟩:=h.is;rw[run_callFunc_extern A N M u r,d];rfl
def a5I{xs:Array Value}{k:Bool}(d:cG ρ args xs.toList)(h:a0m args k=true):xs= #[]/\k=true:=by
 cases args with
 |nil=>have:=d.AL;exact⟨W,h⟩
 |cons a t=>trivial
def a5H{l:List Value}{k:Bool}(d:cG ρ args l)(h:a0m args k=true):l= []/\k=true:=by
 cases args with
 |nil=>exact⟨d.AL,h⟩
 |cons a t=>trivial
def CZ{l:List Value}{k:aY}(d:cG ρ args l)(h:MY args k=true):∃v x,l= [x]/\aW ρ v x/\k v=true:=by
 cases args with
 |nil=>trivial
 |cons a t=>obtain⟨x,l,rfl,A,N⟩:=d.pw;obtain⟨rfl,M⟩:=a5H N G;grind
def Fz{l:List Value}{k:V->aY}(d:cG ρ args l)(h:SH args k=true):∃u x v y,l= [x,y]/\aW ρ u x/\aW ρ v y/\k u v=true:=by
 cases args with
 |nil=>trivial
 |cons a t=>obtain⟨x,l,rfl,A,N⟩:=d.pw;obtain⟨v,y,rfl,M,b⟩:=CZ N G;grind
def ak0{l:List Value}{k:V->V->aY}(d:cG ρ args l)(h:ak1 args k=true):∃u x v y t z,l= [x,y,z]/\aW ρ u x/\aW ρ v y/\aW ρ t z/\k u v t=true:=by
 cases args with
 |nil=>trivial
 |cons a t=>obtain⟨x,l,rfl,A,N⟩:=d.pw;obtain⟨v,y,u,z,rfl,M,b,r⟩:=Fz N G;grind
def pC{xs:Array Value}{l:List Value}(h:xs.toList=l):xs=l.toArray:=W
def lZ{M:IntKind}{v:V}{x:Value}{q:Int->Bool}(d:aW ρ v x)(h:V.DA M v q=true):∃n,x= .int M n/\q n=true:=by obtain⟨k,n,rfl,h⟩:=eB d h;obtain⟨A,N⟩:=aN.1 h;rw[oG.1 A];grind
def rh{w:World}{o:Nat}{aF1:pE}{v:V}{k:Heap->Bool}(y:aO P C ρ h w)(q:ρ i=some aF1)(S:mM i o v h k=true):w.frozen? ⟨aF1.b,o,none⟩=false:=by obtain⟨e,n,t,m,z,c,p,d⟩:=O.fj.1 S;obtain⟨A,d⟩:=aN.1 d;obtain⟨N,d⟩:=aN.1 d;have A:o<n:=bh A;have N:=bh N;obtain⟨H,f,u,r,F,g,j,l,a⟩:=lW y q p;exact EX u W
def uN{w:World}{o:Nat}{aF1:pE}{v:V}{x u:Value}{k:Heap->Bool}(y:aO P C ρ h w)(q:ρ i=some aF1)(H:aW ρ v x)(A:v.de=true)(hc:w.cell? ⟨aF1.b,o,none⟩=some u)(S:mM i o v h k=true):
  ∃h',k h'=true/\aO P C ρ h' (w.setCell ⟨aF1.b,o,none⟩ x)/\Le ρ h w ρ h' (w.setCell ⟨aF1.b,o,none⟩ x):=by
 have a:=rh y q S;obtain⟨h',l,E,N,c,n⟩:=gO y q (.cons H .nil) W G;have s:=(gQ H A).1;have:(storeCells ⟨aF1.b,o,none⟩ [x]).run P w= .ok () (w.setCell ⟨aF1.b,o,none⟩ x):=by have e:((⟨aF1.b,o,none⟩:Addr).add 0)=⟨aF1.b,o,none⟩:=rfl;simp[storeCells,e,run_store P w ⟨aF1.b,o,none⟩ x,s,hc,a]
 grind
def Mr{f:FuncId}{M:IntKind}(hf:rP P f (Extern.Atomic.loadT (.int M))):cN P C (.xd M) f:=by intro args h k ρ m w S d y;obtain⟨v,x,t,H,S⟩:=CZ d S;obtain⟨i,o,j,q,rfl,S⟩:=fv H S;obtain⟨v,x,S,l,A,F⟩:=lJ y q S;obtain⟨n,rfl,S⟩:=lZ l S;refine .inl ⟨_,w,hf.call ?_,iG.same S l y rfl⟩;rw[pC t];change (Sem.run P (do Extern.Atomic.read (.int M) (←asAddr (.pointer (some ⟨j.b,o,none⟩)))) w)=_;simp[Extern.Atomic.read,asAddr,F,Result.andThen]
def ZG{f:FuncId}(hf:rP P f Extern.Atomic.storeT):cN P C .yu f:=by
 intro args h k ρ xs w S d a;obtain⟨v,x,u,y,t,hv,L,S⟩:=Fz d S;obtain⟨i,o,j,q,rfl,S⟩:=fv hv S;have s:u.de=true:=by rcases V.qQ.1 S with⟨n,rfl,_⟩|⟨_,n,rfl,_⟩<;>rfl
 obtain⟨M,n,rfl,S⟩:=eB L S;obtain⟨c,F⟩:∃c,w.cell? ⟨j.b,o,none⟩=some c:=by obtain⟨e,m,fz,wh,z,cc,p,d⟩:=O.fj.1 S;obtain⟨A,_⟩:=aN.1 d;have A:o<m:=bh A;obtain⟨H,fr,g,r,h6,h7,_⟩:=lW a q p;exact⟨H[o],by rw[cell_of g];grind⟩
 have hz:=rh a q S;obtain⟨R,E,l,N⟩:=uN a q L s F S;refine .inl ⟨.tuple #[],_,hf.call ?_,cA,R,ρ,E,aW.eM (x:=#[]) .nil,l,N⟩;rw[pC t];change (Sem.run P (do
  store (←asAddr (.pointer (some ⟨j.b,o,none⟩))) (.int M n) .atomic
  pure Extern.Atomic.none_) w)=_
 simp[asAddr,F,hz,run_store P w ⟨j.b,o,none⟩ (.int M n) .atomic rfl,Result.andThen,Extern.Atomic.none_]
def UG{f:FuncId}{M:IntKind}(hf:rP P f (Extern.Atomic.update (Op.intArith .add) M true)):cN P C (.IA M) f:=by
 intro args h k ρ xs w S d c;obtain⟨v,x,u,y,t,H,L,S⟩:=Fz d S;obtain⟨i,o,j,q,rfl,S⟩:=fv H S;obtain⟨v,x,S,l,A,F⟩:=lJ c q S;obtain⟨n,rfl,S⟩:=lZ l S;obtain⟨m,rfl,S⟩:=lZ L S;have Co:∀{V:V} {s:Int},aW ρ V (.int M s)->V≠ .undef->V.de=true:=by intro V s E a;cases E<;>first|rfl|trivial
 obtain⟨V,S,E,a⟩:=gu (ρ:=ρ) S;have N:=rh c q S;obtain⟨R,z,g,r⟩:=uN c q E W F S;refine .inl ⟨_,_,hf.call ?_,V,R,ρ,z,E,g,r⟩;rw[pC t];change (Sem.run P (do
  let p ←asAddr (.pointer (some ⟨j.b,o,none⟩))
  let e ←Extern.Atomic.read (.int M) p
  let new ←Op.intArith .add M (←asInt e) (←asInt (.int M m))
  store p new .atomic
  pure (if true=true then new else e)) w)=_
 simp[Extern.Atomic.read,asAddr,asInt,asIntOf,F,N,Op.intArith,run_store P w ⟨j.b,o,none⟩ (.int M (M.wrap (n+m))) .atomic rfl,Result.andThen]
def a8R{f:FuncId}{M:IntKind}(hf:rP P f (Extern.Atomic.casT (.int M))):cN P C (.a0p M) f:=by
 intro args h k ρ m w S hr hH;obtain⟨v,x,u,y,t,z,hl,H,L,ht,S⟩:=ak0 hr S;obtain⟨i,o,j,q,rfl,S⟩:=fv H S;obtain⟨v,x,S,l,A,F⟩:=lJ hH q S;obtain⟨a,rfl,S⟩:=lZ l S;obtain⟨b,rfl,S⟩:=lZ L S;have s:t.de=true:=by rcases V.qQ.1 S with⟨n,rfl,_⟩|⟨_,n,rfl,_⟩<;>rfl
 obtain⟨c,rfl,S⟩:=lZ ht S;obtain⟨e,rR⟩:=aN.1 S;have e:=gW.1 e;subst e;have hz:=rh hH q rR;obtain⟨R,E,kO,hL⟩:=uN hH q ht s F rR;obtain⟨fn,r,d,N,g,p⟩:=hf.is;refine .inl ⟨.bool true,_,?_,.bool true,R,ρ,E,.bool true,kO,hL⟩;rw[pC hl];exact run_call_cas_hit r d N g M p F hz
def Mq{f:FuncId}{m:Mark}(hf:rP P f (λ_=>do mark m;pure Extern.Race.none_)):cN P C .GX f:=by intro args h k ρ a w S d y;obtain⟨t,S⟩:=a5H d S;refine .inl ⟨.tuple #[],w,hf.call ?_,iG.same S (aW.eM (x:=#[]) .nil) y rfl⟩;rfl
def Mo{f:FuncId}{m:Addr->Mark}(hf:rP P f (Extern.Race.marked m)):cN P C .race f:=by intro args h k ρ a w S d y;obtain⟨v,x,t,H,S⟩:=CZ d S;obtain⟨i,o,j,q,rfl,S⟩:=fv H S;refine .inl ⟨.tuple #[],w,hf.call ?_,iG.same S (aW.eM (x:=#[]) .nil) y rfl⟩;rw[pC t];rfl
def a4N{f:FuncId}(hf:rP P f Extern.AbiNoEscape.same):cN P C .same f:=by intro args h k ρ m w S d y;obtain⟨v,x,t,H,S⟩:=CZ d S;refine .inl ⟨x,w,hf.call ?_,iG.same S H y rfl⟩;rw[pC t];rfl
def MN{b:UInt8}(hc:c<256):(b==c.toUInt8)=Nat.beq b.toNat c:=by
 rw[qA,beq_iff_eq];have a:(c.toUInt8).toNat=c:=Y6;constructor
 .intro e;subst e;rw[a];simp
 .intro e;have e:=br e;rw[←e];simp
def LG(c:Nat)(hc:c<256):∀(l:List UInt8) (i:Nat),
  cE (λ(_:Nat)=>q (.ik .i64 (.negSucc 0))) (λb _ r i=>aR (Nat.beq b c) (aR (Nat.ble i cO) (q (.num i)) false) (gy (Nat.add i 1) r)) (l.map (·.toNat)) i=true->
  ∃V,q V=true/\∀ρ,aW ρ V (.int .i64 (if Lib.indexByte l c.toUInt8= -1 then -1 else Lib.indexByte l c.toUInt8+i))
 |[],i,h=>⟨_,h,λρ=>by simp[Lib.indexByte];exact .ik .i64 (-1)⟩
 |b::l,i,h=>by
  have h:aR (Nat.beq b.toNat c) (aR (Nat.ble i cO) (q (.num i)) false) (cE (λ(_:Nat)=>q (.ik .i64 (.negSucc 0))) (λb _ r i=>aR (Nat.beq b c) (aR (Nat.ble i cO) (q (.num i)) false) (gy (Nat.add i 1) r)) (l.map (·.toNat)) (i+1))=true:=h;have a:=MN (b:=b) hc;rcases bK.1 h with⟨A,N⟩|⟨A,N⟩
  .obtain ⟨M,u⟩:=aN.1 N;refine⟨_,u,λρ=>?_⟩;have:Lib.indexByte (b::l) c.toUInt8=0:=by unfold Lib.indexByte;rw[a,A];rfl
   rw[this];simp;exact .num i (bh M)
  .obtain ⟨V,M,u⟩:=LG c hc l (i+1) N;refine⟨V,M,λρ=>?_⟩;have z:=Lib.indexByte_ge l c.toUInt8;have:Lib.indexByte (b::l) c.toUInt8=if Lib.indexByte l c.toUInt8= -1 then -1 else Lib.indexByte l c.toUInt8+1:=by
    conv=>lhs;unfold Lib.indexByte
    rw[a,A];simp
   grind
def Mt{f:FuncId}(hf:rP P f Extern.BytealgIndexByte.indexByte):cN P C .Ap f:=by
 intro args h k ρ g w S d a;obtain⟨v,x,u,y,t,H,L,S⟩:=Fz d S;obtain⟨s,rfl,S⟩:=fU H S;obtain⟨n,rfl,S⟩:=lZ L S;rcases jK.1 S with⟨m,rfl,c⟩|⟨_,_,c⟩
 .obtain ⟨R,b⟩:=aN.1 c;have R:m<256:=bh R;obtain⟨V,E,e⟩:=LG m R (q:=λv=>k v h) s.data.toList 0 b;refine .inl ⟨.int .i64 (Lib.indexByte s.data.toList m.toUInt8),w,hf.call ?_,iG.same E ?_ a rfl⟩
  .rw [pC t];exact Lib.run_indexByteString s (m:Int) w
  grind
 trivial
def CI(c:Nat)(hc:c<256):∀(l:List UInt8) (n:Nat),
  cE (λ(n:Nat)=>aR (Nat.ble n cO) (q (.num n)) false) (λb _ r n=>aR (Nat.beq b c) (gy (Nat.add n 1) r) (r n)) (l.map (·.toNat)) n=true->
  q (.num (n+Lib.countByte l c.toUInt8))=true/\n+Lib.countByte l c.toUInt8<=cO
 |[],n,h=>by obtain⟨A,N⟩:=aN.1 G;exact⟨G,by simpa [Lib.countByte] using bh A⟩
 |b::l,n,h=>by
  have h:aR (Nat.beq b.toNat c) (cE (λ(n:Nat)=>aR (Nat.ble n cO) (q (.num n)) false) (λb _ r n=>aR (Nat.beq b c) (gy (Nat.add n 1) r) (r n)) (l.map (·.toNat)) (n+1)) (cE (λ(n:Nat)=>aR (Nat.ble n cO) (q (.num n)) false) (λb _ r n=>aR (Nat.beq b c) (gy (Nat.add n 1) r) (r n)) (l.map (·.toNat)) n)=true:=h;have a:=MN (b:=b) hc;have d:Lib.countByte (b::l) c.toUInt8=Lib.countByte l c.toUInt8+if Nat.beq b.toNat c then 1 else 0:=by unfold Lib.countByte;rw[List.count_cons,a]
  rcases bK.1 h with⟨A,N⟩|⟨A,N⟩
  .obtain ⟨M,u⟩:=CI c hc l (n+1) N;grind
  .obtain ⟨M,u⟩:=CI c hc l n N;grind
def ZH{f:FuncId}(hf:rP P f Extern.BytealgCount.count):cN P C .count f:=by
 intro args h k ρ e w S d a;obtain⟨v,x,u,y,t,H,L,S⟩:=Fz d S;obtain⟨s,rfl,S⟩:=fU H S;obtain⟨n,rfl,S⟩:=lZ L S;rcases jK.1 S with⟨m,rfl,c⟩|⟨_,_,c⟩
 .obtain ⟨R,b⟩:=aN.1 c;have R:m<256:=bh R;obtain⟨E,l⟩:=CI m R (q:=λv=>k v h) s.data.toList 0 b;rw[dz] at E l;refine .inl ⟨.int .i64 ((Lib.countByte s.data.toList m.toUInt8:Nat):Int),w,hf.call ?_,iG.same E (.num _ l) a rfl⟩;rw[pC t];exact Lib.run_countString s (m:Int) w
 trivial
def RI{f:FuncId}{ps:Array TypeId}{t e:TypeId}(o:P.underlying t=some (.slice e))(hc:P.cellsOf e=1)(hf:rP P f (Extern.BytealgMakeNoZero.makeNoZero ps #[t])):cN P C (.GY e) f:=by
 intro args h k ρ m w S d y;obtain⟨v,x,c,r,S⟩:=CZ d S;obtain⟨n,rfl,S⟩:=V.qP.1 S;obtain⟨g,s⟩:=aN.1 S;have g:n<=65536:=bh g;have A:x= .int .i64 (n:Int):=by cases r;rfl
 subst A;obtain⟨R,E,q,p⟩:=eE s;obtain⟨H,u,i,_⟩:=Lib.run_makeNoZero (P:=P) w ps t e o n Z;obtain⟨b,a⟩:=y.push (w':=w.drew.drew.alloc (.cells H e)) (aF1:=⟨w.heap.size,H.size,1⟩) rfl rfl q p ⟨H,(0,0),rfl,λ_=>J1,λ_=>hc,Z,λh=>G,Z,λj z=>absurd z (Nat.not_lt_zero j)⟩;refine .inl ⟨.slice (some ⟨w.heap.size,0,none⟩) n H.size,_,hf.call ?_,.sl h.nx 0 n (.less 0 1),R,_,E,?_,b,a⟩
 .rw [pC c];exact u
 .exact .sl _ _ _ _ _ ⟨w.heap.size,H.size,1⟩ J1 G i
end
end Go.Ev
