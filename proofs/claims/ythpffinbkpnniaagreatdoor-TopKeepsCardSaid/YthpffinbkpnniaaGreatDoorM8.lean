import Derived.Test.YthpffinbkpnniaaGreatDoorM7
import Derived.RangeFuncLeaves
import Derived.Test.YthpffinbkpnniaaGreatDoorProg
set_option linter.all false
set_option maxRecDepth 100000
namespace Go.Ev
open Go
variable{a:Act}{h:Heap}{t:Nat}{w':World}{args:ay}{k:cR}
section
variable {P:Program} {C:Ctx} {ρ:Ren}
def eb(C:Ctx)(f:Nat):Code->Bool
 |.region id ops true=>(match C.dr f id with
  |none=>true
  |some l=>ru C (ij C f) ops (akh ops.toList) l)
 |.seq a b=>eb C f a&&eb C f b
 |.cond _ a b=>eb C f a&&eb C f b
 |.block _ b=>eb C f b
 |.loop b=>eb C f b
 |.rangeFunc _ _ a b=>eb C f a&&eb C f b
 |.scope b=>eb C f b
 |_=>true
def HY{f:Nat}{aF1 c:Code}(h:eb C f aF1=true)(s:iy aF1 c):eb C f c=true:=by
 induction s with
 |self=>exact h
 |abv _ H=>simp only[eb,lF] at H;grind
 |a7f _ H=>simp only[eb,lF] at H;grind
 |aaR _ H=>simp only[eb,lF] at H;grind
 |aaS _ H=>simp only[eb,lF] at H;grind
 |block _ H=>trivial
 |loop _ H=>trivial
 |a2s _ H=>simp only[eb,lF] at H;grind
 |a2r _ H=>simp only[eb,lF] at H;grind
 |scope _ H=>trivial
 |skip=>rfl
 |join _ _ b a=>simp only[eb,b,a,Bool.and_self]
structure iw(P:Program)(C:Ctx):Prop extends CtxOk P C where
 fn : ∀ f fi, C.fn f = some fi -> ∃ fn, P.funcs[f]? = some fn /\ fi.nt = fn.ntmps /\ fi.res = fn.results.toList /\ fi.body = fn.body /\ (fn.name == "runtime.NumGoroutine") = false
 nt:∀f fn,P.funcs[f]? =some fn->ij C f=fn.ntmps
 draw:∀f fn b,P.funcs[f]? =some fn->fn.body=some b->eb C f b=true
 ext:∀f fi e,C.fn f=some fi->fi.ext=some e->cN P C e f
 met:∀t ms,C.met t=some ms->∃inf,P.info? t=some inf/\inf.methods.toList=ms
 mixed:P.follows .mixedOrders=true
structure rH(P:Program)(C:Ctx)(rt:Rt):Prop where
 call:∀(f:Nat) (args:ay) (h:Heap) (k:cR) (ρ:Ren) (xs:Array Value) (w:World),rt.call f args h k=true->cG ρ args xs.toList->aO P C ρ h w->
  CallsIn (rU none) 0 P f xs w (λe w'=>∃v,e= .returned v/\iG P C ρ h w k v w')
 zm:∀(f:Nat) (args:ay) (h:Heap) (k:Heap->Bool) (ρ:Ren) (xs:Array Value) (w:World) (u:FrameMode),rt.zm f args h k=true->cG ρ args xs.toList->aO P C ρ h w->
  CallsDIn (rU none) 0 P f xs u w (λe u' w'=>u'=u/\∃v h' jP,e= .returned v/\k h'=true/\aO P C jP h' w'/\Le ρ h w jP h' w')
 code:∀(fn:Nat) (c:Code),gG P fn c->∀(rd:Nat) (r:Option Nat) (ds:List D) (e:Env) (h:Heap) (kn:cF) (kx:X->cF) (ρ:Ren) (a:Act) (w:World) (aEV:Exit->Act->World->Prop),
  SM ρ rd r->rt.code fn c rd ds e h kn kx=true->jR ρ (ij C fn) ds e a->aO P C ρ h w->Di P C ρ h w (ij C fn) kn (aEV .normal)->FD P C ρ h w (ij C fn) kx aEV->c.wpIn (rU r) 0 P aEV a w
def xK{f : FuncId}{fn : Func}{c : Code}(hf : P.funcs[f]? = some fn)(a : (fn.name == "runtime.NumGoroutine") = false)(s : fn.body = some c)(args : Array Value)(w : World) :
  (callFunc f args).run P w= .ok (.enter f args) w:=by
 have A : fn.name ≠ "runtime.NumGoroutine" := by simpa using a
 simp[callFunc,hf,A,s]
def CQ(hP:iw P C){z:Rt}(v:rH P C z){f:Nat}{xs:Array Value}{w:World}(S:(eW C f).run z args h k=true)(d:cG ρ args xs.toList)(y:aO P C ρ h w):
  tQ P f xs w (iG P C ρ h w k):=by
 unfold eW at S;split at S
 .rename_i j a;split at S
  .rename_i e b;exact hP.ext f j e a b args h k ρ xs w S d y
  .split at S
   .rename_i c F;obtain⟨fn,A,N,M,u,r⟩:=hP.fn f j a;exact .inr ⟨xK A r Zw xs w,v.call f args h k ρ xs w S d y⟩
   trivial
 trivial
def zl{r:Option Nat}{f:FuncId}{xs:Array Value}{w:World}{R:Ending->World->Prop}(h:CallsIn (rU none) 0 P f xs w R):CallsIn (rU r) 0 P f xs w R:=h
def xB{r:Option Nat}{o:Oper}{w:World}{f:FuncId}{xs:Array Value}{R:Value->World->Prop}(hd:∀c,o.op≠ .defer c)(l:w'=w)(b:(execOp a.eval o).run P w=(callFunc f xs).run P w)(hc:tQ P f xs w R):fS P r o a w R:=by
 rcases hc with⟨v,E,A,N⟩|⟨A,N⟩
 .exact fS.value hd W N
 .exact fS.enter hd (b.trans A) (zl N)
def a3a(hP:iw P C){o:Oper}{f:Nat}{args:Array Operand}{F:Array TypeId}(L:o.op= .call {callee:=.value (.func f),args:=args,argTypes:=F}):eY (rH P C) P C (kb C {callee:=.value (.func f),args:=args,argTypes:=F}) o:=by have b:∀c,o.op≠ .defer c:=O4;intro z r e h k ρ a w v S R y;have S:(ir args.toList).run e (λargs=>(eW C f).run z args h k)=true:=S;obtain⟨s,S,l,_⟩:=oI R S;refine xB b rfl (f:=f) (xs:=args.map a.eval) ?_ (CQ hP v S (by simpa using l) y);have:a.eval (.func f)= .func (.func f) #[] #[]:=rfl;simp[execOp,L,resolve,this,Deferred.ofValue,invoke]
def PK(hP:iw P C){name:String}{v:V}{x:Value}{q:Nat->aY}{n:Nat}{w:World}(H:aW ρ v x)(h:(TW C name t).run v q=true):∃f,q f v=true/\(method (n+1) t x name).run P w= .ok (f,x) w:=by
 unfold TW at h;split at h
 .rename_i g k s F;obtain⟨a,i,L⟩:=hP.met t g s;obtain⟨_,_,_,j⟩:=bU hP.toCtxOk F;split at h
  .rename_i m R;have b:a.methods.find? (·.name==name)=some m:=by
    rw[←Array.find?_toList,L];exact R
   split at h
   .rename_i f e c d;have o:m.path.isEmpty=true:=by
     have:m.path= #[]:=W;rw[this];rfl
    have u : ∀ y : Value, (receiverAt t (.val x) e (if m.path.isEmpty then some ((name.splitOn ".").getLastD name) else none)).run P w = .ok y w -> (method (n + 1) t x name).run P w = .ok (f, y) w := by intro y p;unfold method;simp only[Sem.run_bind,Bj i,Result.andThen_ok,b,c,follow,Sem.run_pure,d,p]
    cases l:k.desc<;>rw[l] at h j<;>cases e<;>first
     |trivial
     |(refine ⟨f,h,u x ?_⟩
       simp[receiverAt,aU j,Place.get])
   trivial
  trivial
 trivial
def WZ(hP:iw P C){o:Oper}{x:Operand}{name:String}{args:Array Operand}{F:Array TypeId}(L:o.op= .call {callee:=.invoke x name,args:=args,argTypes:=F}):eY (rH P C) P C (kb C {callee:=.invoke x name,args:=args,argTypes:=F}) o:=by
 have M:∀c,o.op≠ .defer c:=O4;intro z r e h k ρ a w E S R A;have S:(ir args.toList).run e (λargs=>V.ng ((ax x).get e) (λt v=>(TW C name t).run v (λf v=>(eW C f).run z (v::args) h k)) false)=true:=S;obtain⟨s,S,l,_⟩:=oI R S;rcases V.na.1 S with⟨t,v,H,u⟩|⟨_,u⟩
 .have d:=aJ R x;rw[H] at d;obtain⟨y,p,q⟩:∃y,a.eval x= .iface t y/\aW ρ v y:=by
   generalize a.eval x=N at *;cases d with|iface _ _ y h=>grind
  obtain⟨f,g,j⟩:=PK hP (n:=P.types.size+Made.depth-1) (w:=w) q u;have b:P.types.size+Made.depth-1+1=P.types.size+Made.depth:=by have:0<Made.depth:=I;omega
  rw[b] at j;refine xB M rfl (f:=f) (xs:=#[y]++args.map a.eval) ?_ (CQ hP E g ?_ A)
  .have i:(#[Value.iface t y]++args.map a.eval).extract 1 (#[Value.iface t y]++args.map a.eval).size=args.map a.eval:=by
    apply uD;simp;exact Ov J1
   simp only[execOp,L,resolve,p,invoke,callMethod,Sem.run_bind,Sem.run_pure,Result.andThen_ok];rw[show (#[Value.iface t y]++args.map a.eval)[0]? =some (Value.iface t y) by rw[a1j J1];rfl]
   dsimp only
   rw[i];simp only[Sem.run_bind,j,Result.andThen_ok,program,Sem.run]
  .have:=cG.cons q (show cG ρ s (args.map a.eval).toList by simpa using l);grind
 trivial
end
variable{d i l:Nat}
section
variable {P:Program} {C:Ctx} {ρ:Ren}
def run_getLoop{w:World}{b:Nat}{l:Loop}(h:w.heap[b]? =some (.loop l)):(Instr.getLoop b).run P w= .ok l w:=by simp[Instr.getLoop,getObj,Sem.run,h]
def oR{w:World}{b:Nat}{l g:Loop}(h:w.heap[b]? =some (.loop l)):(setObj b (.loop g)).run P w= .ok () {w with heap:=w.heap.setIfInBounds b (.loop g)}:=by simp[setObj,Sem.run,h]
def oA{w:World}{aF1:pE}{st:LoopState}{L:Option X}{f:Nat}{e:Env}{ps:aI}{a b:Code}(y:aO P C ρ h w)(q:ρ i=some aF1)(c:bL i h= .loop st L f e ps a b d):
  ∃l:Loop,w.heap[aF1.b]? =some (.loop l)/\l.state=st/\l.pending=L.map oB/\dV ρ e l.tmps/\l.params.toList=ps/\l.assign=a/\l.body=b/\(∃D,ρ d=some D/\l.defers=D.b)/\gG P f a/\gG P f b/\(∃fn,P.funcs[f]? =some fn/\fn.ntmps=l.tmps.size)/\∀p∈ps,p<l.tmps.size:=by
 have:=y.obj i aF1 q;rw[c] at this;trivial
def w7{w:World}{aF1:pE}{st m:LoopState}{L n:Option X}{f:Nat}{e:Env}{ps:aI}{a b:Code}{k:Heap->Bool}{l:Loop}(y:aO P C ρ h w)(q:ρ i=some aF1)(p:bL i h= .loop st L f e ps a b d)
  (hl:w.heap[aF1.b]? =some (.loop l)) (S:eX i (.loop m n f e ps a b d) h k=true):
  ∃h',k h'=true/\aO P C ρ h' {w with heap:=w.heap.setIfInBounds aF1.b (.loop {l with state:=m,pending:=n.map oB})}/\Le ρ h w ρ h' {w with heap:=w.heap.setIfInBounds aF1.b (.loop {l with state:=m,pending:=n.map oB})}:=by
 obtain⟨h',E,g,t⟩:=jJ S;have s:=(y.pW i aF1 q).2;obtain⟨c,A,_,_,u,r,F,v,j,x⟩:=oA y q p;rw[hl] at A;cases A;obtain⟨a,b⟩:=y.put (w':={w with heap:=w.heap.setIfInBounds aF1.b (.loop {l with state:=m,pending:=n.map oB})}) (o:=.loop m n f e ps a b d) q P5 (.inl P5) J1
  ⟨{l with state:=m,pending:=n.map oB},W,rfl,rfl,u,r,F,v,j,x⟩ (λb z=>W) g t J1
 grind
def MU{k:Env->Bool}:∀{ps:aI} {s:ay} {xs:List Value} {e:Env} {tmps:Array Value},cG ρ s xs->dV ρ e tmps->(∀p∈ps,p<tmps.size)->CX ps s e k=true->
  ps.length=xs.length/\∃e',k e'=true/\dV ρ e' ((ps.zip xs).foldl (λtmps (p:Nat×Value)=>tmps.setIfInBounds p.1 p.2) tmps)/\((ps.zip xs).foldl (λtmps (p:Nat×Value)=>tmps.setIfInBounds p.1 p.2) tmps).size=tmps.size
 |[],s,xs,e,tmps,d,R,hp,h=>by
  cases s with
  |nil=>rw[d.AL];exact⟨rfl,e,h,R,rfl⟩
  |cons v s=>trivial
 |p::ps,s,xs,e,tmps,d,R,hp,h=>by
  cases s with
  |nil=>trivial
  |cons v s=>
   obtain⟨x,xs,rfl,A,N⟩:=d.pw;have h:(ep p).put v e (λe=>CX ps s e k)=true:=h;obtain⟨u,M,c⟩:=Cy h;have a:p<tmps.size:=hp p J1;have b:dV ρ u (tmps.setIfInBounds p x):=by
    intro t;rw[c];by_cases o:t=p
    .subst o;rw[ao rfl,iL,FV a];trivial
    .rw [aj o,iL,FR Z,←iL];exact R t
   obtain⟨r,e',F,y,j⟩:=MU N b (λq f=>W) M;exact⟨W,e',F,y,by rw[show (((p::ps).zip (x::xs)).foldl (λtmps (p:Nat×Value)=>tmps.setIfInBounds p.1 p.2) tmps)=((ps.zip xs).foldl (λtmps (p:Nat×Value)=>tmps.setIfInBounds p.1 p.2) (tmps.setIfInBounds p x)) from rfl,j];simp⟩
def WC(hP:iw P C){z:Rt}(hT:rH P C z){aF1:pE}{xs:Array Value}{w:World}{r:Option Nat}(q:ρ l=some aF1)(S:Bp z l args h k=true)(hr:cG ρ args xs.toList)(y:aO P C ρ h w):
  ∃f F u bd,(Instr.yield aF1.b xs).run P w= .ok (.round aF1.b f F u bd) w/\RoundIn (rU r) 0 P aF1.b f F u bd w (λe w'=>∃v,e= .returned v/\iG P C ρ h w k v w'):=by
 unfold Bp at S;obtain⟨st,L,f,e,i,a,b,d,hg,S⟩:=O.kE.1 S;obtain⟨lo,h1,h2,h3,h4,h5,h6,h7,⟨D,hD,j⟩,h9,yZ,⟨fn,Ar,h12⟩,h13⟩:=oA y q hg;obtain⟨hlen,e',S,hE',YG⟩:=MU hr h4 h13 S;rw[ea] at S;have hy:(Instr.yield aF1.b xs).run P w= .ok (.round aF1.b lo.fn ((i.zip xs.toList).foldl (λtmps (p:Nat×Value)=>tmps.setIfInBounds p.1 p.2) lo.tmps) lo.assign lo.body) w:=by
  have M:xs.size=lo.params.size:=by rw[←h5] at hlen;simpa using hlen.symm
  unfold Instr.yield;simp only[Sem.run_bind,run_getLoop h1,Result.andThen_ok,M];have e:(lo.params.zip xs).foldl (λtmps (t,a)=>tmps.setIfInBounds t a) lo.tmps=(i.zip xs.toList).foldl (λtmps (p:Nat×Value)=>tmps.setIfInBounds p.1 p.2) lo.tmps:=by rw[←Array.foldl_toList,Array.toList_zip,h5]
  rw[aj J1,e];rfl
 refine⟨_,_,_,_,hy,?_⟩;rw[h6,h7];refine roundIn_of_wpIn trivial ?_;have hA:jR ρ (ij C f) [] e' {tmps:=(i.zip xs.toList).foldl (λtmps (p:Nat×Value)=>tmps.setIfInBounds p.1 p.2) lo.tmps,defers:=[]}:=by refine⟨hE',?_,.nil⟩;rw[hP.nt f fn Ar,h12];exact YG
 have hRd:SM ρ (l+1) (some aF1.b):=.inr ⟨l,aF1,rfl,q,rfl⟩;refine hT.code f a h9 (l+1) (some aF1.b) [] e' h _ _ ρ _ w _ hRd S hA y ?_ ?_
 .intro ds1 e1 m ρ1 a1 E c hA1 hH1 YQ;show ∃ag4,(Instr.beginRound aF1.b).run P E= .ok () ag4/\b.wpIn ((rU r).inRound aF1.b) 0 P (roundPost P aF1.b _) a1 ag4;obtain⟨st1,pd1,f1,e1',ps1,a1',H,d1,ve,c⟩:=O.kE.1 c;obtain⟨Nz,c⟩:=LS.Hv.1 c;have o:=YQ.xh _ _ q;obtain⟨lo1,s,g2,g3,_⟩:=oA hH1 o ve;obtain⟨h2',rR,hH2,NC⟩:=w7 hH1 o ve s c;have hw2:({lo1 with state:=.busy,pending:=pd1.map oB}:Loop)={lo1 with state:=.busy}:=by rw[←g3]
  rw[hw2] at hH2 NC;have ad5:(Instr.beginRound aF1.b).run P E= .ok () {E with heap:=E.heap.setIfInBounds aF1.b (.loop {lo1 with state:=.busy})}:=by unfold Instr.beginRound;simp only[Sem.run_bind,run_getLoop s,Result.andThen_ok,oR s,g2,Nz,Sem.run_pure]
  refine⟨_,ad5,?_⟩;have aqj:SM ρ1 (l+1) (some aF1.b):=hRd.mono YQ.xh;refine hT.code f b yZ (l+1) (some aF1.b) ds1 e1 h2' _ _ ρ1 a1 _ _ aqj rR hA1 hH2 ?_ ?_
  .intro ds3 A h3' ρ3 n R g hA3 hH3 hL3;obtain⟨st3,pd3,f3,e3',ps3,a3',b3,d3,hg3,g⟩:=O.kE.1 g;have UA:=hL3.xh _ _ o;obtain⟨lo3,q1,q2,q3,_⟩:=oA hH3 UA hg3;obtain⟨N,Cm,hH4,hL4⟩:=w7 hH3 UA hg3 q1 g;refine⟨.bool true,_,?_,.bool true,rfl,.bool true,N,ρ3,Cm,.bool true,hH4,((YQ.trans NC).trans hL3).trans hL4⟩;unfold Instr.endRound;simp only[Sem.run_bind,run_getLoop q1,Result.andThen_ok,Option.isNone_none,if_true,oR q1,Sem.run_pure];rfl
  .intro x ds3 A h3' ρ3 n R g hA3 hH3 hL3;obtain⟨st3,pd3,f3,e3',ps3,a3',b3,d3,hg3,g⟩:=O.kE.1 g;have UA:=hL3.xh _ _ o;obtain⟨lo3,q1,q2,q3,_⟩:=oA hH3 UA hg3;obtain⟨N,Cm,hH4,hL4⟩:=w7 hH3 UA hg3 q1 g;have YK:(Instr.endRound aF1.b (some (oB x))).run P R= .ok (.bool false) {R with heap:=R.heap.setIfInBounds aF1.b (.loop {lo3 with state:=.done,pending:=some (oB x)})}:=by
    unfold Instr.endRound;simp only[Sem.run_bind,run_getLoop q1,Result.andThen_ok,Option.isNone_some,oR q1,Sem.run_pure];rfl
   have hR:∃v,Ending.returned (.bool false)= .returned v/\iG P C ρ h w k v {R with heap:=R.heap.setIfInBounds aF1.b (.loop {lo3 with state:=.done,pending:=some (oB x)})}:=
    ⟨.bool false,rfl,.bool false,N,ρ3,Cm,.bool false,hH4,((YQ.trans NC).trans hL3).trans hL4⟩
   cases x with
   |exit id=>exact⟨_,_,YK,hR⟩
   |goto t=>exact⟨_,_,YK,hR⟩
   |ret=>exact⟨_,_,YK,hR⟩
 .intro x ds1 e1 m ρ1 a1 E c;trivial
def BL(hP:iw P C){o:Oper}{f:Operand}{args:Array Operand}{F:Array TypeId}(hf:∀g,f≠ .func g)(L:o.op= .call {callee:=.value f,args:=args,argTypes:=F}):eY (rH P C) P C (kb C {callee:=.value f,args:=args,argTypes:=F}) o:=by
 have hd:∀c,o.op≠ .defer c:=O4;intro z r e h k ρ a w v S R y;have S:(ir args.toList).run e (λargs=>V.live ((ax f).get e) (λg=>sN C z g args h k))=true:=by
  unfold kb at S
  dsimp only at S
  split at S
  .grind
  .grind
  .trivial
  .trivial
 obtain⟨s,S,hvs,_⟩:=oI R S;obtain⟨_,S⟩:=V.eP.1 S;have E:cG ρ s (args.map a.eval).toList:=by simpa using hvs
 have d:=aJ R f;unfold sN at S;rcases V.nI.1 S with⟨g,first,cap,p,Ny⟩|⟨l,p,Ny⟩
 .rw [p] at d;obtain⟨i,ca,H,A,N⟩:=d.RD;rw[bB,bB] at Ny;refine xB hd rfl (f:=g) (xs:=(i++args.map a.eval)++ca) ?_ (CQ hP v Ny ?_ y)
  .simp [execOp,L,resolve,H,Deferred.ofValue,invoke]
  .have:=A.app (E.app N);grind
 .rw [p] at d;obtain⟨j,q,H⟩:∃j,ρ l=some j/\a.eval f= .func (.yield j.b) #[] #[]:=by
   generalize a.eval f=M at *;cases d with|yield _ j q=>grind
  obtain⟨f',n,u,x,hy,t⟩:=WC hP v (r:=r) q Ny E y;refine fS.round hd ?_ t;simp only[execOp,L,resolve,H,Deferred.ofValue,Sem.run_bind,Sem.run_pure,Result.andThen_ok,invoke];grind
end
section
variable {P:Program} {C:Ctx} {ρ:Ren}
def a9s{α:Type}{l:Array α}{x:α}(h:l.toList= [x]):l= #[x]:=W
def a0l{α:Type}{l:Array α}{x y:α}(h:l.toList= [x,y]):l= #[x,y]:=W
def a4e{α:Type}{l:Array α}{x:α}{t:List α}(h:l.toList=x::t):l[0]? =some x:=by rw[←jq,h];rfl
def Pt(hP:iw P C){o:Oper}{b:Builtin}{args:Array Operand}{F:Array TypeId}(L:o.op= .call {callee:=.builtin b,args:=args,argTypes:=F}):eY (rH P C) P C (aV C b F.toList args.toList) o:=by
 have E:=hP.toCtxOk;unfold aV;split
 .rename_i s x S;rw[a0l S] at L;exact XA E L
 .rename_i x S;rw[a9s S] at L;split
  .rename_i t _ a;exact abY E (a4e a) L
  .exact .bad
 .rename_i x S;rw[a9s S] at L;split
  .rename_i t _ a;exact abZ E (a4e a) L
  .exact .bad
 .rename_i d s S;rw[a0l S] at L;exact a7M E L
 .rename_i m k S;rw[a0l S] at L;split
  .rename_i t _ a;exact X1 E (a4e a) L
  .exact .bad
 .rename_i x S;rw[a9s S] at L;exact a39 (t:=0) E L
 .rename_i x y S;rw[a0l S] at L;exact aa0 (mx:=true) L
 .rename_i x y S;rw[a0l S] at L;exact aa0 (mx:=false) L
 .rename_i x S;rw[a9s S] at L;exact GQ L
 .rename_i p n S;rw[a0l S] at L;exact a7H E L
 .exact .bad
def a7O(hP:iw P C){o:Oper}{c:Call}(L:o.op= .call c):eY (rH P C) P C (kb C c) o:=by
 obtain⟨callee,args,F⟩:=c;cases callee with
 |value f=>
  cases f with
  |func g=>exact a3a hP L
  |tmp t=>exact BL hP W L
  |const v=>exact BL hP W L
  |global v=>exact BL hP W L
 |invoke x name=>exact WZ hP L
 |builtin b=>exact Pt hP L
def a9Z(hP:iw P C):∀o:Oper,(∀c,o.op≠ .defer c)->eY (rH P C) P C (qm C o.op) o:=by
 intro o e;have E:=hP.toCtxOk;cases L:o.op
 case move x=>exact .pure e (TN W)
 case assign x=>exact .pure e (TN W)
 case pick c a b=>exact .pure e (a7J L)
 case alloc t=>exact a3c E L
 case box t x=>exact ac0 E L
 case build t ps=>exact a3b E L
 case buildSlice t n ps=>exact DD E L
 case load t a=>exact a7L E L
 case store t a x=>exact a31 E L
 case nilCheck x=>exact KC L
 case binOp op t x y u=>exact ac1 E L
 case unOp op t x=>exact a7I L
 case convert s d x=>exact a7N E L
 case makeInterface t x=>exact xS E L
 case makeFunc fn first cap=>
  cases fn with
  |func f=>exact KE L
  |_=>exact .bad
 case makeMap t r=>
  cases r with
  |none=>exact Pr L
  |some x=>exact KD E L
 case makeSlice t l c=>exact GR E L
 case slice t x lo hi mx=>exact ok_slice E L
 case fieldAddr s x f=>exact GU E L
 case field t x f=>exact a37 E L
 case indexAddr t x i=>exact GS E L
 case index t x i=>exact a34 E L
 case lookup t x i ok=>exact WY E L
 case mapUpdate t m k x=>exact Ez E W
 case insert t m k x=>exact Ez E W
 case mapEntry t m k=>exact a38 E L
 case entryStore t m s x=>exact DC L
 case range t x=>exact KB E L
 case next it s=>exact a7K L
 case typeAssert x xt t ok=>exact DB E L
 case extract t i=>exact Ps L
 case call c=>exact a7O hP L
 case defer c=>grind
 all_goals exact .bad
end
variable{c gf:Nat}{first:ay}{kn:cF}
section scope
variable {F:Fence} {n:Nat} {P:Program} {aEV:Exit->Act->World->Prop}
variable {b:Frame} {a:Act} {k:List Item} {cs:List Frame} {w:World}
def JI{c:Code}:step P (lone (b.atR a (.code (.scope c)::k)) cs w)= .next (lone (b.atR a (.code c:: .inScope c::k)) cs w):=
 G
def Dv{c:Code}:step P (lone (b.atR a (.inScope c::k)) cs w)= .next (lone (b.atR a k) cs w):=
 G
def Ax(F:Fence)(n:Nat)(P:Program)(aEV:Exit->Act->World->Prop)(q c:Code)(a:Act)(w:World):Prop:=
 ∀(b:Frame) (k:List Item) (cs:List Frame),b.roundOf=F.round->F.fn b.fn->F.room (cs.length+1+n)->
  ∃e p l,aEV e p l/\ArrivesIn (Machine.fenced P F) P (lone (b.atR a (.code c:: .inScope q::k)) cs w) b k cs e p l
def Exit.a2c(F:Fence)(n:Nat)(P:Program)(aEV:Exit->Act->World->Prop)(q:Code):Exit->Act->World->Prop
 |.goto l,a,w=>match findLabel q l with
  |some c=>Ax F n P aEV q c a w
  |none=>aEV (.goto l) a w
 |e,a,w=>aEV e a w
def rM{q c:Code}(h:c.wpIn F n P (Exit.a2c F n P aEV q) a w):Ax F n P aEV q c a w:=by
 intro b k cs M s d;obtain⟨e,g,H,N,m⟩:=h b (.inScope q::k) cs M s d;cases e with
 |normal=>exact⟨.normal,g,H,N,StepsIn.trans m (.one (fenced_calm s d rfl) Dv)⟩
 |exit id=>
  have S:exitTo id (.inScope q::k)=exitTo id k:=by simp[exitTo]
  exact⟨.exit id,g,H,N,λj E=>m.1 j G,λp E=>m.2 p G⟩
 |goto l=>
  have N:(match findLabel q l with
   |some c=>Ax F n P aEV q c g H
   |none=>aEV (.goto l) g H):=N
  cases t:findLabel q l with
  |some L=>rw[t] at N;obtain⟨v,i,u,o,r⟩:=N b k cs M s d;exact⟨v,i,u,o,.of_steps (m.1 _ (by simp[gotoIn,t])) r⟩
  |none=>
   rw[t] at N;have S:gotoIn l (.inScope q::k)=gotoIn l k:=by simp[gotoIn,t]
   exact⟨.goto l,g,H,N,λj E=>m.1 j W,λp E=>m.2 p W⟩
 |ret=>exact⟨_,g,H,N,m⟩
 |panic f=>exact⟨_,g,H,N,m⟩
 |outgrown=>exact⟨_,g,H,N,m⟩
def Ox{q:Code}(h:q.wpIn F n P (Exit.a2c F n P aEV q) a w):(Code.scope q).wpIn F n P aEV a w:=by intro b k cs M s d;obtain⟨e,t,E,N,m⟩:=rM h b k cs M s d;exact⟨e,t,E,N,.of_steps (.one (fenced_calm s d rfl) JI) m⟩
end scope
section
variable {P:Program} {C:Ctx} {ρ:Ren}
def rj{f:Nat}:∀{b:Code} {l:Nat} {c:Code},gG P f b->findLabel b l=some c->gG P f c
 |.seq x y,l,c,s,h=>by
  simp only[findLabel] at h;cases S:findLabel x l with
  |some r=>rw[S] at h;simp only[jo] at h;subst h;exact(rj (s.map .abv) S).join (s.map .a7f)
  |none=>rw[S] at h;exact rj (s.map .a7f) h
 |.label m,l,c,s,h=>by
  simp only[findLabel] at h;split at h
  .cases h;exact s.map λ_=>.skip
  trivial
 |.skip,l,c,s,h=>G
 |.region _ _ _,l,c,s,h=>G
 |.cond _ _ _,l,c,s,h=>G
 |.block _ _,l,c,s,h=>G
 |.loop _,l,c,s,h=>G
 |.rangeFunc _ _ _ _,l,c,s,h=>G
 |.exit _,l,c,s,h=>G
 |.scope _,l,c,s,h=>G
 |.goto _,l,c,s,h=>G
 |.ret,l,c,s,h=>G
 |.refuse _,l,c,s,h=>G
def RT{f:Nat}{q:Code}{x:iz}(s:gG P f q)(S:gF (rH P C) P C (ij C f) x q):gF (rH P C) P C (ij C f) (a2b f q x) (.scope q):=by
 intro z rd r L e h M j ρ a w aEV v d u hA hH g hk;have key:∀(m:Nat) (y:X) (n:List D) (o:Env) (R:Heap) (jP:Ren) (p:Act) (w':World),
   rounds (λ(_:X) (_:List D) (_:Env) (_:Heap)=>false)
    (λr x L e h=>X.uS x (λl=>jv (findLabel q l) (j x L e h) (λc=>z.code f c rd L e h M r)) (j x L e h)) m y n o R=true->
   jR jP (ij C f) n o p->aO P C jP R w'->Le ρ h w jP R w'->Exit.a2c (rU r) 0 P aEV q (a4P y) p w':=by
  intro m
  induction m with
  |zero=>intro y n o R jP p w' u;trivial
  |succ m H=>
   intro y n o R jP p w' u hA' kO hL';have u:X.uS y (λl=>jv (findLabel q l) (j y n o R) (λc=>z.code f c rd n o R M (rounds (λ(_:X) (_:List D) (_:Env) (_:Heap)=>false)
    (λr x L e h=>X.uS x (λl=>jv (findLabel q l) (j x L e h) (λc=>z.code f c rd L e h M r)) (j x L e h)) m))) (j y n o R)=true:=u
   rcases X.Kz.1 u with⟨l,rfl,A⟩|⟨Dp,A⟩
   .show (match findLabel q l with
     |some c=>Ax (rU r) 0 P aEV q c p w'
     |none=>aEV (.goto l) p w')
    rcases oj.1 A with⟨t,N⟩|⟨c,t,N⟩
    .rw [t];exact hk (.goto l) n o R jP p w' N hA' kO hL'
    .rw [t];refine rM (v.code f c (rj s t) rd r n o R _ _ jP p w' _ (d.mono hL'.xh) N hA' kO ?_ ?_)
     .intro ds2 b h2' E i w2 rR hA2 k NC;exact g ds2 b h2' E i w2 rR hA2 k (hL'.trans NC)
     .intro F ds2 b h2' E i w2 rR hA2 k NC;exact H F ds2 b h2' E i w2 rR hA2 k (hL'.trans NC)
   .have:=hk y n o R jP p w' A hA' kO hL';cases y with
    |exit id=>trivial
    |goto l=>grind
    |ret=>trivial
 refine Ox (S z rd r L e h M _ ρ a w _ v d u hA hH ?_ ?_)
 .trivial
 .intro F ds2 b h2' E i w2 rR hA2 k NC;grind
def a0c(hP:iw P C){z:Rt}(b:rH P C z){f:Nat}{xs:Array Value}{w:World}(S:(sO C f).run z args h k=true)(d:cG ρ args xs.toList)(y:aO P C ρ h w):
  (∀w',(callFunc f xs).run P w'= .ok (.enter f xs) w')/\CallsIn (rU none) 0 P f xs w (λe w'=>∃v,e= .returned v/\iG P C ρ h w k v w'):=by
 unfold sO at S;split at S
 .rename_i j a;split at S
  .rename_i c _ F;obtain⟨fn,A,N,M,u,r⟩:=hP.fn f j a;exact⟨λw'=>xK A r Zw xs w',b.call f args h k ρ xs w S d y⟩
  trivial
 trivial
def JX(hP:iw P C){z:Rt}(hT:rH P C z){f:Nat}{g:Operand}{ps:Array Tmp}{F q:Code}{cap:ay}{fa ca:Array Value}{Db:pE}{ds:List D}{e:Env}{kx:X->cF}
  {a a':Act} {w w0:World} {ρ0:Ren} {h0:Heap} {aEV:Exit->Act->World->Prop} {r:Option Nat} {lo:Loop} (H:a.eval g= .func (.func gf) fa ca) (hfa:cG ρ first fa.toList) (hca:cG ρ cap ca.toList) (hD:ρ c=some Db)
  (IL:lo.state= .ready/\lo.pending=none/\dV ρ e lo.tmps/\lo.params=ps/\lo.assign=F/\lo.body=q/\lo.defers=Db.b) (ha:gG P f F) (s:gG P f q) (hfn:∃fn,P.funcs[f]? =some fn/\fn.ntmps=lo.tmps.size) (QO:∀p∈ps.toList,p<lo.tmps.size)
  (y:aO P C ρ h w) (n:Le ρ0 h0 w0 ρ h w) (N:jR ρ (ij C f) ds e a')
  (hn:Di P C ρ0 h0 w0 (ij C f) kn (aEV .normal)) (hk:FD P C ρ0 h0 w0 (ij C f) kx aEV)
  (S:tm C z f ps.toList F q gf first cap c ds e h kn kx=true):
  ∃(d:Deferred) (args:Array Value),(resolve a.eval (rangeCall g w.heap.size) 0).run P (w.alloc (.loop lo))= .ok d (w.alloc (.loop lo))/\(invoke d.target d.args).run P (w.alloc (.loop lo))= .ok (.enter gf args) (w.alloc (.loop lo))/\
   CallsIn (rU r) 0 P gf args (w.alloc (.loop lo)) (rangePost (rU r) 0 P w.heap.size aEV a'):=by
 unfold tm at S;obtain⟨A,S,R,ve⟩:=eE S;rw[bB] at S;obtain⟨l1,l2,l3,l4,l5,l6,l7⟩:=IL;have yj:∀i j,ρ i=some j->(if i=h.nx then some (⟨w.heap.size,0,0⟩:pE) else ρ i)=some j:=λi j hi=>by rw[aj (by have:=(y.pW i j hi).1;omega)];trivial
 obtain⟨hH1,YQ⟩:=y.push (w':=w.alloc (.loop lo)) (aF1:=⟨w.heap.size,0,0⟩) rfl rfl R ve
  ⟨lo,rfl,l1,G,λt=>(l3 t).mono yj,by rw[l4],l5,l6,W,ha,s,hfn,QO⟩
 have hl:(λi=>if i=h.nx then some (⟨w.heap.size,0,0⟩:pE) else ρ i) h.nx=some ⟨w.heap.size,0,0⟩:=J1;generalize aoP:(λi=>if i=h.nx then some (⟨w.heap.size,0,0⟩:pE) else ρ i)=ρ1 at hH1 YQ hl;have aiI:cG ρ1 (first++(.yield h.nx::cap)) ((fa++ #[Value.func (.yield w.heap.size) #[] #[]])++ca).toList:=by
  have:=(hfa.mono YQ.xh).app (cG.cons (aW.yield h.nx _ hl) (hca.mono YQ.xh))
  simpa using this
 obtain⟨yn,aiC⟩:=a0c hP hT S aiI hH1;refine⟨{target:=.fn (.func gf) ca,args:=fa++ #[.func (.yield w.heap.size) #[] #[]]},(fa++ #[Value.func (.yield w.heap.size) #[] #[]])++ca,?_,?_,?_⟩
 .have hc:a.eval (.const (.func (.yield w.heap.size) #[] #[]))= .func (.yield w.heap.size) #[] #[]:=rfl;simp[resolve,rangeCall,H,hc,Deferred.ofValue]
 .simp only[invoke];grind
 .refine zl (aiC.mono ?_);rintro en u ⟨v,rfl,V,h2,E,k,hV,hH2,NC⟩;obtain⟨m,L,f2,e2,ps2,a2,b2,d2,o,k⟩:=O.kE.1 k;obtain⟨Nz,k⟩:=LS.GW.1 k;have hl2:=NC.xh _ _ hl;obtain⟨lo2,q1,q2,q3,_⟩:=oA hH2 hl2 o;obtain⟨M,hx3,hH3,hL3⟩:=w7 hH2 hl2 o q1 k;have hw3:({lo2 with state:=.exhausted,pending:=L.map oB}:Loop)={lo2 with state:=.exhausted}:=by rw[←q3]
  rw[hw3] at hH3 hL3;have hLL:=((n.trans YQ).trans NC).trans hL3;have hA3:jR E (ij C f) ds e a':=N.mono λi j hi=>NC.xh _ _ W;have YK:(Instr.endLoop w.heap.size).run P u= .ok lo2.pending {u with heap:=u.heap.setIfInBounds w.heap.size (.loop {lo2 with state:=.exhausted})}:=by
   unfold Instr.endLoop;have hbz:(lo2.state== .busy)=false:=by rw[q2];cases m<;>first|rfl|trivial
   simp only[Sem.run_bind,run_getLoop q1,Result.andThen_ok,hbz,qE,if_false,oR q1,Sem.run_pure]
  dsimp only at hH3 hL3 hLL
  generalize ({u with heap:=u.heap.setIfInBounds w.heap.size (.loop {lo2 with state:=.exhausted})}:World)=aEX at hH3 hL3 hLL YK;refine⟨lo2.pending,_,YK,?_⟩;rw[q3];rcases oj.1 hx3 with⟨rfl,Cm⟩|⟨x,rfl,Cm⟩
  .exact hn ds e M E a' _ Cm hA3 hH3 hLL
  .have:=hk x ds e M E a' _ Cm hA3 hH3 hLL;cases x with
   |exit id=>exact wpIn_exit this
   |goto l=>exact wpIn_goto this
   |ret=>exact wpIn_ret this
def RU(hP:iw P C){f:Nat}{g:Operand}{ps:Array Tmp}{F body:Code}(QT:gG P f (.rangeFunc g ps F body)):gF (rH P C) P C (ij C f) (Bu C f g ps.toList F body) (.rangeFunc g ps F body):=by
 have S:gG P f F:=QT.map .a2s;have hb:gG P f body:=QT.map .a2r;unfold Bu;split
 .exact CH
 .rename_i Cs;intro z rd r ds e h kn kx ρ a w aEV v hr lx N y hn E;have QO:∀p∈ps.toList,p<a.tmps.size:=λp hp=>by
   rw[N.size];exact bh (uK.1 Cs p hp)
  have hfn:∃fn,P.funcs[f]? =some fn/\fn.ntmps=a.tmps.size:=by obtain⟨fn,b,A,h2,_⟩:=QT;exact⟨fn,A,by rw[N.size,hP.nt f fn A]⟩
  rcases V.nI.1 lx with⟨gf,first,cap,hg,hx⟩|⟨_,_,hx⟩
  .have hgr:=aJ N.env g;rw[hg] at hgr;obtain⟨fa,ca,H,hfa,hca⟩:=hgr.RD;rcases bK.1 hx with⟨s,c⟩|⟨s,c⟩
   .have s:=br s;obtain rfl:r=none:=by
     rcases hr with⟨_,hr⟩|⟨l,j,A,_⟩
     .trivial
     omega
    obtain⟨A,k,R,ve⟩:=eE c;obtain⟨hH1,x⟩:=y.push (w':=w.alloc (.deferred (some []))) (aF1:=⟨w.heap.size,0,0⟩) rfl rfl R ve rfl;have n:(λi=>if i=h.nx then some (⟨w.heap.size,0,0⟩:pE) else ρ i) h.nx=some ⟨w.heap.size,0,0⟩:=J1;generalize aoP:(λi=>if i=h.nx then some (⟨w.heap.size,0,0⟩:pE) else ρ i)=ρ1 at hH1 x n;refine wpIn_rangeFunc λfn _=>?_;obtain⟨d,args,h2,M,u⟩:=JX (r:=none) (aEV:=aEV) (lo:={state:=.ready,pending:=none,fn:=fn,tmps:=a.tmps,params:=ps,assign:=F,body:=body,defers:=w.heap.size}) (a':={a with defers:={target:=.collected w.heap.size,args:=#[]}::a.defers}) hP v H (hfa.mono x.xh) (hca.mono x.xh) n
     ⟨rfl,rfl,λt=>(N.env t).mono x.xh,rfl,rfl,rfl,rfl⟩ S hb hfn QO hH1 x ⟨λt=>(N.env t).mono x.xh,N.size,.cons (.collected h.nx _ n) (N.mono x.xh).defers⟩ hn E k
    refine⟨_,[{target:=.collected w.heap.size,args:=#[]}],_,d,_,gf,args,_,?_,h2,λ_ _=>trivial,M,G,u⟩;trivial
   .have hr':∃l j,rd=l+1/\ρ l=some j/\r=some j.b:=by
     rcases hr with⟨A,_⟩|A
     .rw [A] at s;trivial
     .trivial
    obtain⟨l,j,rfl,q,rfl⟩:=hr';obtain⟨m,L,f2,e2,ps2,a2,b2,db,o,k⟩:=O.kE.1 c;have o:bL l h= .loop m L f2 e2 ps2 a2 b2 db:=o;obtain⟨lo2,q1,_,_,_,_,_,_,⟨D,n,q8⟩,_⟩:=oA y q o;refine wpIn_rangeFunc λfn _=>?_;obtain⟨d,args,h2,M,u⟩:=JX (r:=some j.b) (aEV:=aEV) (lo:={state:=.ready,pending:=none,fn:=fn,tmps:=a.tmps,params:=ps,assign:=F,body:=body,defers:=D.b}) (a':=a) hP v H hfa hca n
     ⟨rfl,rfl,N.env,rfl,rfl,rfl,rfl⟩ S hb hfn QO y (Le.refl _ _ _) N hn E k
    refine⟨_,[],_,d,_,gf,args,_,?_,h2,λ_ _=>trivial,M,λh=>G,u⟩;simp[Instr.enterLoop,run_getLoop q1,q8]
  trivial
def uo(hP:iw P C){f:Nat}:∀c:Code,gG P f c->gF (rH P C) P C (ij C f) (cc C f c) c
 |.skip,h=>ZX
 |.region id ops false,h=>MH (a9Z hP)
 |.region id ops true,h=>by
  show gF (rH P C) P C (ij C f) (jc C f id ops true) (.region id ops true);cases m:C.dr f id with
  |none=>
   unfold jc
   dsimp only
   rw[m];exact CH
  |some l=>
   refine RW (A:=akh ops.toList) hP.toCtxOk hP.mixed (a9Z hP) m ?_;obtain⟨fn,b,d,N,M⟩:=h;have:=HY (hP.draw f fn b d N) M
   simpa only[eb,m] using this
 |.seq a b,h=>a59 (uo hP a (h.map .abv)) (uo hP b (h.map .a7f))
 |.cond x a b,h=>a01 (uo hP a (h.map .aaR)) (uo hP b (h.map .aaS))
 |.block i b,h=>RX (uo hP b (h.map .block))
 |.loop b,h=>ZY (uo hP b (h.map .loop))
 |.rangeFunc g e a b,h=>RU hP h
 |.exit i,h=>a00
 |.scope b,h=>RT (h.map .scope) (uo hP b (h.map .scope))
 |.label l,h=>RV
 |.goto l,h=>ZZ
 |.ret,h=>a5a
 |.refuse s,h=>CH
end
variable{h0:Heap}{nt:Nat}{ρ0:Ren}{w0:World}
section
variable {P:Program} {C:Ctx} {ρ:Ren}
def uO(tmps:Array Value):ResultVar->Sem Value
 |.tmp t=>pure (tmps.getD t undef)
 |.cell a t=>do loadVar t (←asAddr (tmps.getD a undef))
def JQ{α:Type}{f:α->Sem Value}{w:World}:∀{l:List α} {s:List Value},sX (λx v=>(f x).run P w= .ok v w) l s->(l.mapM f).run P w= .ok s w
 |_,_,.nil=>G
 |_,_,.cons h t=>by rw[Az];simp only[Sem.run_bind,h,Result.andThen_ok,JQ t,Sem.run_pure]
def ahb(s:List Value):Value:=match s with
 |[v]=>v
 |s=>.tuple s.toArray
def yJ{fn:Func}{tmps:Array Value}{s:List Value}{w:World}(h:sX (λx v=>(uO tmps x).run P w= .ok v w) fn.results.toList s):
  (results fn tmps).run P w= .ok (ahb s) w:=by
 have A:(fn.results.mapM (uO tmps)).run P w= .ok s.toArray w:=by rw[Array.mapM_eq_mapM_toList];simp only[map_eq_pure_bind,Sem.run_bind,JQ h,Result.andThen_ok,Sem.run_pure]
 have e:results fn tmps=(do let s ←fn.results.mapM (uO tmps);pure (if h:s.size=1 then s[0] else .tuple s)):=rfl;rw[e];simp only[Sem.run_bind,A,Result.andThen_ok,Sem.run_pure];clear h A e
 match s with
 |[]=>rfl
 |[v]=>rfl
 |v::u::l=>trivial
def zY(hC:CtxOk P C){tmps:Array Value}{e:Env}{w:World}(R:dV ρ e tmps)(hH:aO P C ρ h w):∀{l:List ResultVar} {k:ay->Bool},(mX C l).run e h k=true->
  ∃Vs s,k Vs=true/\cG ρ Vs s/\sX (λx v=>(uO tmps x).run P w= .ok v w) l s
 |[],k,S=>⟨[],[],S,.nil,.nil⟩
 |.tmp t::l,k,S=>by have S:V.live ((eg t).get e) (λv=>(mX C l).run e h (λs=>k (v::s)))=true:=S;obtain⟨_,S⟩:=V.eP.1 S;obtain⟨Vs,s,A,N,M⟩:=zY hC R hH S;exact⟨_,_,A,.cons (R t) N,.cons G M⟩
 |.cell a t::l,k,S=>by
  have S:(bE C t (.tmp a)).run ⟨λ_ _ _ _=>false,λ_ _ _ _=>false,λ_ _ _ _ _ _ _ _=>false⟩ e h (λv _=>(mX C l).run e h (λs=>k (v::s)))=true:=S;obtain⟨g,hg,lx⟩:=Bt (C:=C) (t:=t) (a:=.tmp a) e h;rw[lx] at S;rcases hg with⟨U,hV⟩|Dp
  .rw [hV] at S;obtain⟨Vs,s,A,N,M⟩:=zY hC R hH S
   suffices hl:∃v,aW ρ U v/\(uO tmps (.cell a t)).run P w= .ok v w by obtain⟨v,H,hrv⟩:=hl;exact⟨_,_,A,.cons H N,.cons hrv M⟩
   clear S A N M
   classical
   have S:(bE C t (.tmp a)).run rt0 e h (λv _=>decide (v=U))=true:=by rw[lx,hV];simp
   unfold bE at S;split at S
   .trivial
   .rename_i ti rS;obtain⟨i,i1,L,i3⟩:=bU hC rS;have d:aW ρ ((eg a).get e) (tmps.getD a undef):=R a;split at S
    .rename_i n;obtain⟨b,p,j,q,H,S⟩:=fv d S;obtain⟨l',m,E,hrl,h1',hl,F⟩:=eu hH q S;have E:=pn E;subst E;refine⟨.agg m.toArray,aW.De h1' G,?_⟩;have:=run_loadCells_list (P:=P) w ⟨j.b,p,none⟩ m F;rw[←hrl.1,hl] at this;simp[uO,H,asAddr,loadVar,pK i3,n,df i1,L,this]
    .rename_i n;have S:V.sw ((eg a).get e) (λi o=>jT i o h (λv=>decide (v=U))) (λg o=>jv (C.gl g) false (λcs=>jZ cs o (λv=>decide (v=U))))=true:=S;rcases V.tv.1 S with⟨b,p,z,c⟩|⟨g',p,z,c⟩
     .rw [z] at d;obtain⟨j,q,H⟩:∃j,ρ b=some j/\tmps.getD a undef= .pointer (some ⟨j.b,p,none⟩):=by
       generalize tmps.getD a undef=vx at *;cases d with|ptr _ _ j q=>grind
      obtain⟨v,y,E,hvy,_,F⟩:=lJ hH q c;have E:=pn E;subst E;exact⟨y,hvy,R4⟩
     .rw [z] at d;have H:tmps.getD a undef= .pointer (some ⟨g',p,none⟩):=by
       generalize tmps.getD a undef=vx at *;cases d;rfl
      rcases oj.1 c with⟨_,rR⟩|⟨cs,QX,rR⟩
      .trivial
      .obtain ⟨v,hv',E⟩:=nJ rR;obtain⟨_,m,u,f,h4,r⟩:=hH.iP g' cs QX;obtain⟨y,h6,h7⟩:=r p v hv';have F:w.cell? ⟨g',p,none⟩=some y:=Zh;have E:=pn E;subst E;exact⟨y,h7,R4⟩
  grind
def a2X{b:ay}{s:List Value}{k:aY}(d:cG ρ b s)(h:xQ b k=true):∃V,k V=true/\aW ρ V (ahb s):=by
 match b,s,d with
 |[],s,d=>rw[d.AL];exact⟨_,h,aW.eM .nil⟩
 |[V],s,d=>obtain⟨x,l,rfl,A,N⟩:=d.pw;rw[N.AL];exact⟨_,h,A⟩
 |V::U::l,s,d=>have e:=d;obtain⟨x,c,rfl,A,N⟩:=d.pw;obtain⟨y,a,rfl,M,u⟩:=N.pw;exact⟨_,h,aW.eM G⟩
def Mw{k:Env->Bool}:∀{args:ay} {xs:List Value} {i:Nat} {e:Env} {tmps:Array Value},cG ρ args xs->dV ρ e tmps->i+args.length<=tmps.size->(∀j,j<xs.length->tmps[i+j]? =xs[j]?)->
  cE (λ(_:Nat) e=>k e) (λv _ r i e=>(ep i).put v e (λe=>gy (Nat.add i 1) (λi=>r i e))) args i e=true->∃e',k e'=true/\dV ρ e' tmps
 |[],xs,i,e,tmps,d,R,a,z,h=>⟨e,h,R⟩
 |v::args,xs,i,e,tmps,d,R,a,z,h=>by
  obtain⟨x,l,rfl,A,N⟩:=d.pw;have h:(ep i).put v e (λe=>gy (Nat.add i 1) (λi=>cE (λ(_:Nat) e=>k e) (λv _ r i e=>(ep i).put v e (λe=>gy (Nat.add i 1) (λi=>r i e))) args i e))=true:=h;obtain⟨u,M,c⟩:=Cy h;rw[ea] at M;have b:dV ρ u tmps:=by
   intro t;rw[c];by_cases o:t=i
   .subst o;rw[ao rfl];have:=z 0 J1;rw[iL];simp at this;rw[this];exact A
   .rw [aj o];exact R t
  have m:i+1+args.length<=tmps.size:=by simp at a;omega
  refine Mw N b m (λj f=>?_) M;have:=z (j+1) Y6;rw[show i+1+j=i+(j+1) by omega,this];simp
def Fh{xs:Array Value}{k:Env->Bool}(d:cG ρ args xs.toList)(hl:args.length<=nt)
  (h:cE (λ(_:Nat) e=>k e) (λv _ r i e=>(ep i).put v e (λe=>gy (Nat.add i 1) (λi=>r i e))) args 0 DN=true):
  ∃e,k e=true/\jR ρ nt [] e {tmps:=xs++Array.replicate (nt-xs.size) undef,defers:=[]}:=by
 have H:xs.size=args.length:=by rw[d.1];simp
 obtain⟨e,A,N⟩:=Mw (tmps:=xs++Array.replicate (nt-xs.size) undef) d (λt=>by rw[a8Z];exact .undef _) W (λj z=>by grind) h;exact⟨e,A,N,W,.nil⟩
def vu(hP:iw P C){z:Rt}(hT:rH P C z){fn:Func}{tmps:Array Value}{R:Ending->World->Prop}{k:Heap->Bool}
  (E:∀h ρ w,k h=true->(∀i aF1,ρ0 i=some aF1->ρ i=some aF1)->aO P C ρ h w->Le ρ0 h0 w0 ρ h w->∃v,(results fn tmps).run P w= .ok v w/\R (.returned v) w):
  ∀{ds:List D} {xs:List Deferred} {ρ:Ren} {h:Heap} {w:World},sX (yD ρ) ds xs->(∀i aF1,ρ0 i=some aF1->ρ i=some aF1)->aO P C ρ h w->Le ρ0 h0 w0 ρ h w->fO C z ds h k=true->LeavesInM (rU none) 0 P fn tmps R xs .returning w
 |[],_,ρ,h,w,.nil,m,hH,n,S=>by obtain⟨v,A,N⟩:=E h ρ w S m hH n;exact⟨v,A,N⟩
 |d::ds,_,ρ,h,w,.cons hd x,m,hH,n,S=>by
  have S:onD d (λf args=>rD C f args z h (λh=>fO C z ds h k)) (λi=>O.qR (bL i h) (λc=>jv c false (λl=>ek l (eX i (.sJ none) h (λh=>fO C z ds h k)) (λ_ _=>false))))=true:=S;cases hd with
  |call f a args cap hl=>
   have S:rD C f a z h (λh=>fO C z ds h k)=true:=S;have S:∃j c,C.fn f=some j/\j.body=some c/\z.zm f a h (λh=>fO C z ds h k)=true:=by
    unfold rD at S;cases hfi:C.fn f with
    |none=>grind
    |some j=>grind
   obtain⟨j,c,hfi,F,S⟩:=S;obtain⟨fn',A,N,M,u,r⟩:=hP.fn f j hfi;refine⟨J1,.inr ⟨G,.func f,cap,f,args++cap,rfl,?_,λ_ _=>trivial,?_⟩⟩
   .show (callFunc f (args++cap)).run P w=_;exact xK A r Zw _ _
   .refine (hT.zm f a h _ ρ (args++cap) w .returning S hl hH).mono ?_;rintro en u' w' ⟨rfl,v,h',jP,rfl,H,kO,L⟩;exact vu hP hT E (x.mono λ_ _=>yD.mono L.xh) (λi aF1 hi=>L.xh _ _ W) kO (n.trans L) H
  |collected i aF1 q=>
   have S:O.qR (bL i h) (λc=>jv c false (λl=>ek l (eX i (.sJ none) h (λh=>fO C z ds h k)) (λ_ _=>false)))=true:=S;obtain⟨c,p,S⟩:=O.KA.1 S;rcases oj.1 S with⟨_,Ny⟩|⟨l,rfl,Ny⟩
   .trivial
   .cases l with
    |cons y l=>trivial
    |nil=>
     have Ny:eX i (.sJ none) h (λh=>fO C z ds h k)=true:=Ny;have e:=hH.obj i aF1 q;rw[p] at e;have e:w.heap[aF1.b]? =some (.deferred (some [])):=e;obtain⟨h',hk',g,t⟩:=jJ Ny;have s:=(hH.pW i aF1 q).2;obtain⟨kO,L⟩:=hH.put (w':={w with heap:=w.heap.setIfInBounds aF1.b (.deferred none)}) (o:=.sJ none) q P5 (.inl P5) J1
      (by show _=_;grind) (λb xl=>W) g t J1
     refine⟨J1,.inl ⟨aF1.b,{w with heap:=w.heap.setIfInBounds aF1.b (.deferred none)},rfl,?_,?_⟩⟩
     .simp [Instr.takeDeferred,getObj,setObj,Sem.run,e]
     .exact vu hP hT E G G kO (n.trans L) hk'
def adq(hP:iw P C){z:Rt}(hT:rH P C z){f:Nat}{xs:Array Value}{w:World}(S:(fnK C f).run z args h k=true)(hr:cG ρ args xs.toList)(hH:aO P C ρ h w):
  CallsIn (rU none) 0 P f xs w (λe w'=>∃v,e= .returned v/\iG P C ρ h w k v w'):=by
 unfold fnK at S;split at S
 .trivial
 .rename_i j hfi;split at S
  .trivial
  .rename_i c hc
   dsimp only at S
   obtain⟨fn,A,N,M,u,r⟩:=hP.fn f j hfi;have a:fn.body=some c:=by rw[←u];exact hc
   obtain⟨l,S⟩:=aN.1 S;have l:args.length<=j.nt:=N8;rw[N] at l;obtain⟨e,S,hA⟩:=Fh hr l S;have d:gG P f c:=⟨fn,c,A,a,.self⟩;have i:=hP.nt f fn A;refine callsIn_of_wp_marks A a trivial ?_;have fin:∀(n:List D) (o:Env) (R:Heap) (q:Ren) (p:Act) (w':World),fO C z n R (λh=>(mX C j.res).run o h (λs=>xQ s (λv=>k v h)))=true->jR q (ij C f) n o p->aO P C q R w'->Le ρ h w q R w'->
     LeavesInM (rU none) 0 P fn p.tmps (λe w'=>∃v,e= .returned v/\iG P C ρ h w k v w') p.defers .returning w':=by
    intro n o R q p w' H m b L;refine vu hP hT (ρ0:=q) (h0:=R) (w0:=w') ?_ m.defers (λ_ _ h=>h) b (Le.refl _ _ _) H;intro h2' E w2 rR aoO hH2 NC;have hE2:dV E o p.tmps:=λt=>(m.env t).mono aoO;obtain⟨Vs,s,g,F,y⟩:=zY hP.toCtxOk hE2 hH2 rR;obtain⟨V,Cm,h8⟩:=a2X F g;rw[M] at y;exact⟨_,yJ y,_,rfl,V,h2',E,Cm,h8,hH2,L.trans NC⟩
   refine uo hP c d z 0 none [] e h _ _ ρ _ w _ hT (.inl ⟨rfl,rfl⟩) S W hH ?_ ?_
   .trivial
   .intro x n o R q p w' H m b L;obtain⟨rfl,H⟩:=X.BF.1 H;exact fin n o R q p w' H m b L
def adr(hP:iw P C){z:Rt}(hT:rH P C z){f:Nat}{k:Heap->Bool}{xs:Array Value}{w:World}{u:FrameMode}(S:fnD C f z args h k=true)(hr:cG ρ args xs.toList)(hH:aO P C ρ h w):
  CallsDIn (rU none) 0 P f xs u w (λe t w'=>t=u/\∃v h' q,e= .returned v/\k h'=true/\aO P C q h' w'/\Le ρ h w q h' w'):=by
 cases hfi:C.fn f with
 |none=>unfold fnD at S;grind
 |some j=>
  cases F:j.body with
  |none=>unfold fnD at S;grind
  |some c=>
   have S:aR (Nat.ble (eK args) j.nt) (cE (λ(_:Nat) e=>
      (cc C f c).run z 0 [] e h (λL e h=>ek L ((mX C j.res).run e h (λs=>k h)) (λ_ _=>false))
       (λx L e h=>X.yL x (ek L ((mX C j.res).run e h (λs=>k h)) (λ_ _=>false))))
     (λv _ r i e=>(ep i).put v e (λe=>gy (Nat.add i 1) (λi=>r i e))) args 0 DN) false=true:=by
    unfold fnD at S;rw[hfi] at S;dsimp only at S;rw[F] at S;exact S
   obtain⟨fn,A,N,M,h4,h5⟩:=hP.fn f j hfi;have a:fn.body=some c:=by rw[←h4];exact F
   obtain⟨l,S⟩:=aN.1 S;have l:args.length<=j.nt:=N8;rw[N] at l;obtain⟨e,S,hA⟩:=Fh hr l S;have QT:gG P f c:=⟨fn,c,A,a,.self⟩;have hnt:=hP.nt f fn A;refine callsDIn_of_wp (R:=λe w'=>∃v h' q,e= .returned v/\k h'=true/\aO P C q h' w'/\Le ρ h w q h' w') A a trivial ?_;have fin:∀(n:List D) (o:Env) (h':Heap) (q:Ren) (p:Act) (w':World),ek n ((mX C j.res).run o h' (λs=>k h')) (λ_ _=>false)=true->jR q (ij C f) n o p->aO P C q h' w'->Le ρ h w q h' w'->
     p.defers= []/\∃v,(results fn p.tmps).run P w'= .ok v w'/\∃v' N E,Ending.returned v= .returned v'/\k N=true/\aO P C E N w'/\Le ρ h w E N w':=by
    intro n o h' q p w' H m b hL';cases n with
    |cons d n=>trivial
    |nil=>
     have hd:=m.defers;cases hds:p.defers with
     |cons d L=>rw[hds] at hd;trivial
     |nil=>have H:(mX C j.res).run o h' (λs=>k h')=true:=H;obtain⟨Vs,s,g,h6,y⟩:=zY hP.toCtxOk m.env b H;rw[M] at y;exact⟨rfl,_,yJ y,_,h',q,rfl,g,b,hL'⟩
   refine uo hP c QT z 0 none [] e h _ _ ρ _ w _ hT (.inl ⟨rfl,rfl⟩) S W hH ?_ ?_
   .trivial
   .intro x n o h' q p w' H m b hL';obtain⟨rfl,H⟩:=X.BF.1 H;exact fin n o h' q p w' H m b hL'
def a2e(hP:iw P C):∀n,rH P C (rtN C n)
 |0=>⟨λf args h k ρ m w S=>G,λf args h k ρ m w u S=>G,λfn c _ rd r L e h M j ρ a w t _ S=>G⟩
 |n+1=>by
  have H:=a2e hP n;exact⟨λf args h k ρ m w S d y=>adq hP H S d y,λf args h k ρ m w u S d y=>adr hP H S d y,
   λfn c i rd r L e h M j ρ a w t b S N y g E=>uo hP c i (rtN C n) rd r L e h M j ρ a w t H b S N y g E⟩
end
variable{ρ:Ren}
section
variable {P:Program}
def a4u{α:Type}{d:α}{s:T3 α}{n:Nat}(h:4096<=n):wG α d n s=d:=by show(mE (d0 n)).get α d ((oL (n/16)).get (dj α) (bY α d) s)=d;rw[nH Z];show(mE (d0 n)).get α d (bY α d)=d;exact nF (wU n)
def Ek{α:Type}{d v:α}{n:Nat}{s:T3 α}{k:T3 α->Bool}(h:GG α d v n s k=true):∃s',k s'=true/\∀m,wG α d m s'=if m=n then v else wG α d m s:=by
 obtain⟨_,b,a,p⟩:=vX (n:=d0 n) h;obtain⟨g,s',E,M⟩:=tq (n:=n/16) a;refine⟨s',E,λm=>?_⟩;show(mE (d0 m)).get α d ((oL (m/16)).get (dj α) (bY α d) s')=if m=n then v else(mE (d0 m)).get α d ((oL (m/16)).get (dj α) (bY α d) s)
 rw[M];by_cases A:m/16=n/16
 .rw [ao A,p d (d0 m) (wU m)];have e:(d0 m=d0 n)↔m=n:=by
   show m%16=n%16↔m=n;omega
  rw[A];simp only[e];rfl
 grind
def Cz{α:Type}{d:α}(n:Nat):wG α d n (RO α d)=d:=by
 rcases dN n 4096 with h|h
 .show (mE (d0 n)).get α d ((oL (n/16)).get (dj α) (bY α d) (bY _ (bY _ (bY _ d))))=d;rw[lK Z,Gw,nF (wU n)]
 .exact a4u h
def SX{α:Type}{k:T3 (Option α)->Bool}:∀(l:List (Option α)) (i:Nat) (s:T3 (Option α)),
  cE (λ(_:Nat) s=>k s) (λx _ r i s=>GG (Option α) none x i s (λs=>gy (Nat.add i 1) (λi=>r i s))) l i s=true->
  ∃t,k t=true/\∀n,wG _ none n t=if n<i then wG _ none n s else match l[n-i]? with|some x=>x|none=>wG _ none n s
 |[],i,s,h=>⟨s,h,λn=>W⟩
 |x::l,i,s,h=>by have h:GG (Option α) none x i s (λs=>gy (Nat.add i 1) (λi=>cE (λ(_:Nat) s=>k s) (λx _ r i s=>GG (Option α) none x i s (λs=>gy (Nat.add i 1) (λi=>r i s))) l i s))=true:=h;obtain⟨o,E,M⟩:=Ek h;rw[ea] at E;obtain⟨t,A,N⟩:=SX l (i+1) o E;grind
def DX{α:Type}{l:List (Option α)}{k:T3 (Option α)->Bool}(h:abi α l k=true):∃t,k t=true/\∀n,wG _ none n t=(l[n]?).join:=by
 obtain⟨t,A,N⟩:=SX l 0 _ h;refine⟨t,A,λn=>?_⟩;rw[N,aj Z,j7];cases l[n]? with
 |some x=>rfl
 |none=>exact Cz n
def Uf{α:Type}(l:List (Nat×α))(n:Nat)(d:Option α):Option α:=match l with
 |[]=>d
 |x::r=>Uf r n (if n=x.1 then some x.2 else d)
def SW{α:Type}{k:T3 (Option α)->Bool}:∀(l:List (Nat×α)) (s:T3 (Option α)),cE (λs=>k s) (λx _ r s=>GG (Option α) none (some x.2) x.1 s (λs=>r s)) l s=true->
  ∃t,k t=true/\∀n,wG _ none n t=Uf l n (wG _ none n s)
 |[],s,h=>⟨s,h,λn=>rfl⟩
 |x::l,s,h=>by have h:GG (Option α) none (some x.2) x.1 s (λs=>cE (λs=>k s) (λx _ r s=>GG (Option α) none (some x.2) x.1 s (λs=>r s)) l s)=true:=h;obtain⟨o,E,M⟩:=Ek h;obtain⟨t,A,N⟩:=SW l o E;exact⟨t,A,λn=>by rw[N,M];rfl⟩
def VY{α:Type}{l:List (Nat×α)}{k:T3 (Option α)->Bool}(h:aga α l k=true):∃t,k t=true/\∀n,wG _ none n t=Uf l n none:=by obtain⟨t,A,N⟩:=SW l _ h;exact⟨t,A,λn=>by rw[N,Cz]⟩
noncomputable def kP (p:Program) (ext:Nat->Option Ext) (gl:Nat->Option ay) (drs:Drs):Ctx:=
 mkCtx p (λt=>((EL p p.types.toList 0)[t]?).join) (λf=>((wq ext p.funcs.toList 0)[f]?).join) gl (drF (λf=>Uf drs f none))
def vN{p:Program}{ext:Nat->Option Ext}{x:Nat->Option ay}{m:Drs}{g:Ctx->Bool}(h:zI p ext x m g=true):g (kP p ext x m)=true:=by obtain⟨a,h,A⟩:=DX h;obtain⟨b,h,N⟩:=DX h;obtain⟨c,h,M⟩:=VY h;unfold kP;grind
def EJ{p:Program}:∀(l:List TypeInfo) (i t:Nat),((EL p l i)[t]?).join=(l[t]?).bind λx=>cond (a6R p (i+t) x) (some (a3r p (i+t) x)) none
 |[],i,t=>G
 |x::l,i,0=>G
 |x::l,i,t+1=>by have:=EJ (p:=p) l (i+1) t;simp only[EL,Oq];grind
def pP{ext:Nat->Option Ext}:∀(l:List Func) (i f:Nat),((wq ext l i)[f]?).join=(l[f]?).map λx=>{nt:=x.ntmps,res:=x.results.toList,body:=x.body,ext:=ext (i+f)}
 |[],i,t=>G
 |x::l,i,0=>G
 |x::l,i,t+1=>by have:=pP (ext:=ext) l (i+1) t;simp only[wq,Oq];grind
def MJ{z:Value}(h:(cellsOf (kV z)).all V.de=true):cG ρ (cellsOf (kV z)) z.cells.toList:=by
 have d:=xT (ρ:=ρ) z;cases H:kV z with
 |agg a=>rw[H] at d;obtain⟨x,rfl,_,t⟩:=d.Iw;trivial
 |cI a=>rw[H] at h;trivial
 |undef=>rw[H] at h;trivial
 |_=>rw[H] at d h;have A:=(gQ d G).2;rw[A];exact .cons d .nil
def Uk{t:TypeId}(h:t<P.types.size):P.info? t=P.types[t]? :=by unfold Tables.info?;grind
def adM{ext:Nat->Option Ext}{x:Nat->Option ay}{m:Drs}{ti:TI}(h:(kP P ext x m).ty t=some ti):∃a,P.types[t]? =some a/\P.info? t=some a/\a6R P t a=true/\ti=a3r P t a:=by
 have h:((EL P P.types.toList 0)[t]?).join=some ti:=h;rw[EJ,dz] at h;cases F:P.types.toList[t]? with
 |none=>grind
 |some a=>
  rw[F] at h;have b:P.types[t]? =some a:=by rw[←jq];exact F
  have A:t<P.types.size:=by
   rcases dN t P.types.size with R|R
   .trivial
   .grind
  refine⟨a,b,by rw[Uk A];trivial,?_⟩;grind
def adN(ext:Nat->Option Ext)(x:Nat->Option ay)(m:Drs):CtxOk P (kP P ext x m):=by
 have key:∀t g,(kP P ext x m).ty t=some g->∃a z d,P.info? t=some a/\a.zero=some z/\P.underlying t=some d/\g=a3r P t a/\V.LF (kV z)=true/\(cellsOf (kV z)).all V.de=true/\(cellsOf (kV z)).length=a.size/\
   (iC d=true\/a.size=1)/\∀l,d= .struct l->∀f∈l.toList,(P.info? f.type).isSome=true:=by
  intro t g h;obtain⟨a,A,N,M,u⟩:=adM h;unfold a6R at M;split at M
  .rename_i z d C e;obtain⟨p,M⟩:=aN.1 M;obtain⟨i,M⟩:=aN.1 M;obtain⟨n,M⟩:=aN.1 M;obtain⟨q,M⟩:=aN.1 M;refine⟨a,z,d,N,C,e,u,p,i,by rw[←dx];exact br n,?_,λl c f H=>?_⟩
   .rcases bK.1 q with⟨h,_⟩|⟨_,h⟩
    .grind
    .exact .inr (br h)
   grind
  .trivial
 refine⟨λt g h=>?_,λt g h=>?_,λt g l h e f H=>?_,λt g h S=>?_⟩
 .obtain ⟨a,z,d,A,N,M,rfl,r,F,y,j,o⟩:=key t g h;refine⟨a,A,rfl,rfl,by simp[a3r,M],z,N,λk=>?_,λk=>?_,?_,?_,?_⟩
  .show aW k (match a.zero with|some z=>kV z|none=>cA) z;rw[N];exact xT z
  .show cG k (cellsOf (match a.zero with|some z=>kV z|none=>cA)) z.cells.toList;rw[N];exact MJ F
  .show ∀v∈cellsOf (match a.zero with|some z=>kV z|none=>cA),v.de=true;grind
  .show (cellsOf (match a.zero with|some z=>kV z|none=>cA)).length=a.size;grind
  .show (match a.zero with|some z=>kV z|none=>cA)≠ .undef;rw[N];intro b
   dsimp only at b
   rw[b] at r;trivial
 .obtain ⟨a,z,d,A,N,M,rfl,_⟩:=key t g h;trivial
 .obtain ⟨a,z,d,A,N,M,rfl,r,F,y,j,o⟩:=key t g h;have e:(P.underlying t).getD .invalid= .struct l:=e;grind
 .obtain ⟨a,z,d,A,N,M,rfl,r,F,y,j,o⟩:=key t g h;have S:iC ((P.underlying t).getD .invalid)=false:=S;rw[M] at S;rcases j with h|h
  .grind
  trivial
def a56(ext:Nat->Option Ext)(x:Nat->Option ay)(m:Drs){f:Nat}{fn:Func}(h:P.funcs[f]? =some fn):ij (kP P ext x m) f=fn.ntmps:=by
 have:(kP P ext x m).fn f=some {nt:=fn.ntmps,res:=fn.results.toList,body:=fn.body,ext:=ext (0+f)}:=by show((wq ext P.funcs.toList 0)[f]?).join=_;rw[pP,jq,h];rfl
 unfold ij;grind
noncomputable def wR (p:Program) (C:Ctx):Bool:=go p.funcs.toList 0
 where
 go:List Func->bs
  |[],_=>true
  |f::r,i=>(match f.body with|some b=>eb C i b|none=>true)&&go r (i+1)
def ze{C:Ctx}:∀{l:List Func} {i:Nat},wR.go C l i=true->∀(f:Nat) (fn:Func) (b:Code),l[f]? =some fn->fn.body=some b->eb C (i+f) b=true
 |[],i,h,f,fn,b,H,s=>G
 |x::l,i,h,f,fn,b,H,s=>by
  simp only[wR.go,lF] at h;cases f with
  |zero=>grind
  |succ f=>have:=ze h.2 f fn b G s;grind
def a06{ext ext':Nat->Option Ext}{x:Nat->Option ay}{m:Drs}(all:List Oper)(i:Nat):gD (kP P ext x m) all i=gD (kP P ext' x m) all i:=G
def zg{ext ext':Nat->Option Ext}{x:Nat->Option ay}{m:Drs}{ops:Array Oper}{A:List aI}:∀(l:List (Nat×aI)) (done:aI),jf (kP P ext x m) ops A done l=jf (kP P ext' x m) ops A done l
 |[],done=>rfl
 |(i,n)::r,done=>by simp only[jf,a06 (ext:=ext) (ext':=ext')];rw[zg (ext:=ext) (ext':=ext') r (i::done)]
def MA{ext ext':Nat->Option Ext}{x:Nat->Option ay}{m:Drs}{ops:Array Oper}{A:List aI}{l:List (Nat×aI)}:ru (kP P ext x m) nt ops A l=ru (kP P ext' x m) nt ops A l:=by unfold ru;rw[zg (ext':=ext')]
def pe{ext ext':Nat->Option Ext}{x:Nat->Option ay}{m:Drs}{f:Nat}:∀c:Code,eb (kP P ext x m) f c=true->eb (kP P ext' x m) f c=true
 |.region id ops true,h=>by
  have i:ij (kP P ext x m) f=ij (kP P ext' x m) f:=by
   have:∀e,ij (kP P e x m) f=match P.funcs[f]? with|some fn=>fn.ntmps|none=>0:=λe=>by
    cases H:P.funcs[f]? with
    |some fn=>exact a56 e x m H
    |none=>
     unfold ij;have:(kP P e x m).fn f=none:=by show((wq e P.funcs.toList 0)[f]?).join=_;rw[pP,jq,H];rfl
     grind
   rw[this,this]
  simp only[eb] at h ⊢;rw[←i];have e:(kP P ext x m).dr f id=(kP P ext' x m).dr f id:=rfl;rw[←e];cases d:(kP P ext x m).dr f id with
  |none=>rfl
  |some l=>
   rw[d] at h
   dsimp only at h ⊢
   rw[←MA (ext:=ext)];exact h
 |.region id ops false,h=>rfl
 |.seq a b,h=>Q7
 |.cond _ a b,h=>Q7
 |.block _ b,h=>X9
 |.loop b,h=>X9
 |.rangeFunc _ _ a b,h=>Q7
 |.scope b,h=>X9
 |.skip,_=>rfl
 |.exit _,_=>rfl
 |.label _,_=>rfl
 |.goto _,_=>rfl
 |.ret,_=>rfl
 |.refuse _,_=>rfl
def TA{ext d : Nat -> Option Ext}{x : Nat -> Option ay}{m : Drs}(i : P.follows .mixedOrders = true)(hn : (P.funcs.toList.all λfn => !(fn.name == "runtime.NumGoroutine")) = true)
  (hd:zI P d x m (wR P)=true) (k:∀f e,ext f=some e->cN P (kP P ext x m) e f):iw P (kP P ext x m):=by
 have E:=adN (P:=P) ext x m;have c:∀f j,(kP P ext x m).fn f=some j->∃fn,P.funcs[f]? =some fn/\j={nt:=fn.ntmps,res:=fn.results.toList,body:=fn.body,ext:=ext f}:=by
  intro f j h;have h:((wq ext P.funcs.toList 0)[f]?).join=some j:=h;rw[pP,dz,jq] at h;cases H:P.funcs[f]? with
  |none=>grind
  |some fn=>grind
 refine {toCtxOk:=E,fn:=λf j h=>?_,nt:=λf fn h=>a56 ext x m h,draw:=λf fn b h s=>?_,ext:=λf j e h S=>?_,met:=λt g h=>?_,mixed:=i}
 .grind
 .have:=ze (vN hd) f fn b W s;rw[dz] at this;exact pe b this
 .grind
 .have h:(P.types[t]?).map (·.methods.toList)=some g:=h;cases F:P.types[t]? with
  |none=>grind
  |some a=>
   rw[F] at h;simp only[mI,jo] at h;have A:t<P.types.size:=by
    rcases dN t P.types.size with R|R
    .trivial
    .grind
   exact⟨a,by rw[Uk A];trivial,h⟩
end
end Go.Ev
namespace Go.Ev
def dq:Nat->List (Nat×aI)->List (Nat×aI)
 |0,l=>l
 |n+1,l=>dq n ((n,[])::l)
def drT:List (Nat×List (Nat×List (Nat×aI))):=[
(3,[(9,dq 9 []),(11,dq 17 [])]),
(5,[(9,dq 16 [(16,[11]),(17,[]),(18,[]),(19,[]),(20,[])])]),
(11,[(9,dq 17 []),(11,dq 1 [(3,[]),(4,[]),(1,[4]),(2,[]),(5,[])])]),
(15,[(1,dq 5 [(6,[0,4]),(5,[]),(7,[])]),(2,dq 5 [(6,[3,4]),(5,[]),(7,[])]),(4,dq 7 [(7,[4,6]),(8,[]),(9,[]),(10,[]),(11,[])]),(6,dq 7 [(7,[4,6]),(8,[]),(9,[]),(10,[]),(11,[])]),(8,dq 10 [(10,[4,6,8]),(11,[]),(12,[]),(13,[]),(14,[])])]),
(18,[(3,dq 2 [(2,[1]),(3,[])]),(20,dq 2 [(2,[1]),(4,[]),(5,[]),(6,[]),(7,[1,6]),(3,[6]),(8,[]),(9,[]),(10,[])])]),
(19,[(4,dq 2 [(2,[0]),(3,[0]),(4,[]),(5,[]),(6,[]),(7,[])])]),
(20,[(3,dq 4 [(5,[]),(6,[]),(7,[]),(8,[]),(10,[]),(11,[]),(12,[]),(13,[]),(15,[]),(16,[]),(17,[]),(18,[]),(20,[]),(21,[]),(22,[]),(23,[]),(4,[8,13,18,23]),(9,[13,18,23]),(14,[18,23]),(19,[23]),(24,[]),(25,[]),(26,[])])]),
(26,[(6,dq 9 [])]),
(27,[(6,dq 9 [])]),
(28,[(6,dq 9 [])]),
(29,[(6,dq 9 [])]),
(30,[(6,dq 9 [])]),
(32,[(3,dq 0 [(1,[]),(2,[]),(7,[2]),(0,[2]),(3,[]),(4,[]),(5,[]),(6,[]),(8,[]),(9,[])])]),
(33,[(4,dq 4 [(4,[1,3]),(5,[])])]),
(48,[(7,dq 10 [(10,[4,6,8]),(11,[]),(12,[])])]),
(56,[(4,dq 3 [(4,[]),(5,[]),(7,[]),(8,[]),(3,[5,8]),(6,[8]),(9,[]),(10,[2,5,8]),(11,[]),(12,[]),(13,[])])]),
(58,[(1,dq 4 [(5,[]),(6,[]),(7,[]),(8,[]),(9,[]),(4,[8]),(10,[]),(11,[])])]),
(59,[(3,dq 1 [(2,[]),(4,[]),(5,[]),(6,[]),(1,[]),(3,[]),(7,[]),(8,[]),(9,[]),(10,[])])]),
(64,[(3,dq 1 [(2,[]),(3,[]),(4,[]),(6,[]),(7,[]),(1,[]),(5,[]),(8,[]),(9,[]),(10,[])])]),
(68,[(4,dq 9 [(10,[]),(11,[]),(12,[]),(13,[]),(14,[]),(9,[3,13]),(15,[3]),(16,[]),(17,[]),(18,[])])]),
(77,[(1,dq 18 [])]),
(79,[(1,dq 11 [])]),
(80,[(4,dq 15 []),(9,dq 9 [])]),
(81,[(1,dq 13 [])]),
(82,[(1,dq 11 [])]),
(83,[(4,dq 15 [])]),
(84,[(4,dq 11 [])]),
(85,[(4,dq 23 []),(9,dq 9 []),(12,dq 23 []),(16,dq 18 [])]),
(86,[(4,dq 12 [])]),
(87,[(1,dq 11 [])]),
(88,[(1,dq 6 [(10,[3,5]),(6,[]),(7,[]),(8,[]),(9,[]),(11,[]),(12,[])]),(7,dq 4 [(5,[]),(6,[]),(7,[]),(8,[]),(9,[]),(10,[]),(11,[]),(12,[]),(13,[]),(14,[]),(4,[8,10,12,14]),(15,[]),(16,[]),(17,[])])]),
(89,[(1,dq 4 [(5,[]),(6,[]),(7,[]),(8,[]),(9,[]),(10,[]),(11,[]),(12,[]),(13,[]),(14,[]),(4,[8,10,12,14]),(15,[]),(16,[]),(17,[]),(18,[]),(19,[]),(20,[])])]),
(91,[(1,dq 15 []),(4,dq 6 [(10,[3,5]),(6,[]),(7,[]),(8,[]),(9,[]),(11,[]),(12,[])])]),
(92,[(1,dq 11 [])]),
(104,[(11,dq 10 [])]),
(115,[(3,dq 7 []),(8,dq 6 [(6,[3]),(7,[]),(8,[]),(9,[])]),(13,dq 6 [(6,[3]),(7,[]),(8,[]),(9,[])])]),
(128,[(17,dq 15 [])]),
(137,[(11,dq 9 [])]),
(145,[(5,dq 8 []),(8,dq 7 []),(10,dq 16 []),(13,dq 20 [(20,[6,12,15]),(21,[12,15]),(22,[]),(23,[12]),(24,[]),(25,[]),(26,[])])]),
(153,[(3,dq 5 [(5,[3]),(6,[]),(7,[]),(8,[]),(9,[]),(10,[]),(11,[])]),(7,dq 5 [(7,[]),(8,[]),(9,[]),(10,[]),(13,[]),(14,[]),(15,[]),(16,[]),(19,[4,10,16]),(5,[10,16]),(6,[]),(11,[16]),(12,[]),(17,[]),(18,[]),(20,[])]),(12,dq 6 [(10,[3,5]),(6,[]),(7,[]),(8,[]),(9,[]),(11,[]),(12,[])]),(15,dq 7 []),(21,dq 8 [(8,[1]),(9,[]),(10,[])])]),
(162,[(1,dq 11 [])]),
(175,[(4,dq 13 [])]),
(177,[(3,dq 12 [])]),
(178,[(3,dq 14 [])]),
(189,[(4,dq 15 []),(6,dq 18 [])]),
(190,[(10,dq 20 [])]),
(191,[(10,dq 20 [])]),
(193,[(3,dq 16 [])]),
(194,[(5,dq 16 []),(11,dq 18 []),(16,dq 11 []),(17,dq 18 []),(22,dq 11 []),(23,dq 18 [])]),
(196,[(1,dq 16 []),(3,dq 15 []),(5,dq 14 []),(8,dq 16 [])]),
(197,[(1,dq 16 []),(3,dq 14 []),(5,dq 15 []),(8,dq 16 []),(10,dq 16 []),(13,dq 14 []),(15,dq 15 []),(18,dq 16 []),(21,dq 16 [])]),
(204,[(3,dq 5 [(5,[3]),(6,[]),(7,[])])]),
(205,[(7,dq 15 []),(8,dq 9 [])]),
(211,[(9,dq 6 [(6,[4,5]),(7,[]),(8,[]),(9,[]),(10,[])])]),
(213,[(11,dq 12 [(15,[]),(16,[]),(19,[]),(20,[]),(12,[]),(13,[]),(14,[]),(17,[]),(18,[]),(21,[]),(22,[])])]),
(216,[(9,dq 12 [])]),
(224,[(3,dq 7 [])]),
(225,[(2,dq 9 [])]),
(228,[(4,dq 25 []),(6,dq 4 [(5,[]),(6,[5]),(8,[]),(9,[]),(10,[]),(4,[5]),(7,[]),(11,[]),(12,[]),(13,[])])]),
(231,[(4,dq 10 [(10,[3]),(11,[]),(12,[])])]),
(235,[(9,dq 14 []),(12,dq 13 [])]),
(240,[(13,dq 7 []),(14,dq 8 [(8,[3]),(9,[]),(10,[])]),(15,dq 9 [(10,[]),(9,[0,4]),(11,[0]),(12,[]),(13,[])])]),
(241,[(8,dq 13 [])]),
(246,[(3,dq 13 []),(6,dq 14 [(14,[3,5,9,11,12]),(15,[3,5]),(16,[])]),(8,dq 9 []),(11,dq 7 []),(12,dq 8 [])]),
(248,[(3,dq 12 [])]),
(259,[(7,dq 4 [(5,[]),(6,[]),(7,[]),(8,[]),(4,[8]),(9,[]),(10,[]),(11,[])])]),
(260,[(3,dq 13 [])]),
(262,[(1,dq 19 [])]),
(269,[(3,dq 6 [(6,[3]),(7,[]),(8,[]),(9,[]),(10,[])])]),
(271,[(3,dq 20 []),(5,dq 14 []),(6,dq 24 [])]),
(273,[(1,dq 10 []),(2,dq 10 []),(3,dq 10 [])]),
(278,[(9,dq 7 [])]),
(289,[(6,dq 11 [])]),
(290,[(4,dq 15 []),(6,dq 14 [])]),
(291,[(7,dq 9 [])]),
(294,[(4,dq 8 []),(6,dq 14 []),(9,dq 14 [])]),
(317,[(5,dq 17 [])]),
(322,[(8,dq 9 [])]),
(326,[(6,dq 6 [(6,[3]),(7,[])])]),
(327,[(3,dq 11 [])]),
(328,[(1,dq 10 [])]),
(344,[(1,dq 10 []),(3,dq 10 []),(11,dq 7 [(7,[5]),(9,[]),(10,[]),(11,[]),(12,[]),(13,[]),(8,[12]),(14,[]),(15,[]),(16,[]),(17,[]),(18,[]),(19,[])])]),
(345,[(0,dq 8 [(9,[]),(10,[]),(11,[]),(12,[]),(13,[]),(8,[12]),(14,[]),(15,[])])]),
(350,[(0,dq 6 [])]),
(351,[(1,dq 13 [])]),
(352,[(1,dq 9 [])]),
(358,[(7,dq 11 []),(9,dq 7 [])]),
(360,[(6,dq 10 [])]),
(373,[(9,dq 11 [])]),
(375,[(8,dq 7 [])]),
(383,[(0,dq 15 [])]),
(385,[(10,dq 15 [(15,[3]),(16,[]),(17,[]),(18,[]),(19,[]),(20,[]),(21,[])]),(11,dq 10 []),(13,dq 6 [(6,[4,5]),(7,[]),(8,[]),(9,[]),(10,[])])]),
(388,[(0,dq 5 [(5,[0]),(6,[]),(7,[]),(8,[])])]),
(391,[(4,dq 14 []),(5,dq 11 [])]),
(398,[(1,dq 2 [(3,[]),(2,[3]),(4,[]),(5,[]),(6,[])])]),
(399,[(1,dq 2 [(3,[]),(2,[3]),(4,[]),(5,[]),(6,[])])]),
(405,[(1,dq 11 []),(3,dq 11 []),(7,dq 7 [(7,[5]),(9,[]),(10,[]),(11,[]),(12,[]),(13,[]),(8,[12]),(14,[]),(15,[]),(16,[]),(17,[]),(18,[]),(19,[])])]),
(409,[(7,dq 15 []),(8,dq 15 []),(9,dq 15 []),(10,dq 15 []),(17,dq 15 []),(18,dq 15 []),(23,dq 15 [])]),
(421,[(6,dq 11 []),(7,dq 10 []),(8,dq 9 [])]),
(422,[(1,dq 14 []),(3,dq 9 [(10,[]),(9,[3]),(11,[]),(12,[])])]),
(429,[(5,dq 8 [])]),
(442,[(1,dq 11 []),(3,dq 10 [(11,[]),(12,[]),(13,[]),(14,[]),(15,[]),(16,[]),(17,[]),(18,[]),(19,[]),(20,[]),(10,[14,18]),(21,[]),(22,[]),(23,[])]),(7,dq 8 [(8,[5]),(10,[]),(11,[]),(12,[]),(13,[]),(14,[]),(9,[13]),(15,[]),(16,[]),(17,[]),(18,[]),(19,[]),(20,[])])]),
(460,[(6,dq 5 [(6,[]),(5,[3]),(7,[]),(8,[])])]),
(465,[(4,dq 3 [(3,[2]),(4,[])]),(7,dq 3 [(3,[2]),(4,[])])]),
(468,[(3,dq 14 [])]),
(470,[(3,dq 14 [])]),
(471,[(6,dq 16 []),(7,dq 17 [])]),
(500,[(1,dq 10 [])]),
(502,[(1,dq 8 [(9,[]),(10,[]),(11,[]),(12,[]),(13,[]),(14,[]),(8,[1,3,5,10,14]),(15,[]),(16,[]),(17,[])])]),
(504,[(1,dq 7 [(7,[4]),(8,[]),(9,[]),(10,[]),(11,[]),(12,[]),(13,[]),(14,[]),(15,[]),(16,[]),(17,[]),(18,[]),(19,[]),(20,[]),(21,[]),(22,[])])]),
(505,[(1,dq 10 [])]),
(516,[(6,dq 9 [])]),
(517,[(4,dq 8 [(9,[]),(8,[9]),(10,[]),(11,[])])]),
(540,[(5,dq 13 [])]),
(541,[(0,dq 20 [(20,[8,13,18]),(21,[]),(22,[]),(23,[]),(24,[]),(25,[]),(26,[]),(27,[]),(28,[]),(29,[]),(30,[]),(31,[]),(32,[]),(33,[]),(34,[])])]),
(548,[(5,dq 21 [(22,[]),(23,[]),(24,[]),(21,[24]),(25,[]),(26,[])])]),
(571,[(3,dq 9 [(9,[4,8]),(10,[]),(11,[]),(12,[]),(13,[])])]),
(572,[(0,dq 11 [(11,[5]),(12,[]),(13,[]),(14,[]),(15,[]),(16,[]),(17,[])])]),
(573,[(9,dq 2 [(3,[]),(4,[]),(5,[]),(6,[]),(7,[]),(8,[]),(9,[]),(10,[]),(11,[]),(12,[]),(2,[7,12]),(13,[7]),(14,[]),(15,[])])]),
(574,[(1,dq 9 []),(9,dq 9 [])])
]
end Go.Ev
namespace Go.Ev
open Go Go.Ev Go.Proofs
noncomputable def exts (i:Nat):Option Ext:=match i with|115=>some (.mB 373 378 380)|183=>some (.xd .i64)|173=>some .same|347=>some (.xd .u32)|413=>some .yu|404=>some .count|406=>some (.GY 5)|426=>some (.IA .i64)|447=>some .GX|448=>some (.a0p .i32)|449=>some .GX|450=>some .race|452=>some .race|453=>some (.IA .i32)|436=>some .Ap|46=>some (.sorted 3 [76,126,270,569])|_=>none
noncomputable def rN (i:Nat):Option Ext:=match i with|7=>some .holds|i=>exts i
def xO:Nat->Nat->ay
 |0,_=>[]
 |n+1,x=>.ik .u64 (.ofNat x)::xO n (Nat.mul x 10)
def glk(g:Nat):Option ay:=match g with|4=>some (xO 20 1)|_=>none
def isTrue(v:V):Bool:=match v with | .bool b=>b|_=>false
end Go.Ev
namespace Go.Ev
open Go Go.Proofs Go.Ev.Sy
noncomputable def Sy.K:Ctx:=kP Tryz.prog rN glk drT
noncomputable def Rt.Y (R:Rt):Rt:=rtS Sy.K R
end Go.Ev
