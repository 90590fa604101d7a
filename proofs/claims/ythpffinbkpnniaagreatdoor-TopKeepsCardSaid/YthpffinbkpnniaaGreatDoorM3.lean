import Derived.Test.YthpffinbkpnniaaGreatDoorM2
import Derived.ChangeKeysEq
import Derived.Laws.Cells
import Derived.Laws.IdiomCopy
import Derived.Laws.Strings
import Derived.OwnWalkIn
set_option linter.all false
set_option maxRecDepth 100000
namespace Go.Ev
variable{h h':Heap}{i:Nat}{w':World}
structure pE where
 b:Nat
 s:Nat
 z:Nat
abbrev Ren:=Nat->Option pE
def bytesOf(b:ByteArray):aI:=b.data.toList.map (·.toNat)
def Dj(c:Cp)(aF1:pE)(o n cap:Nat):Prop:=
 match c with
 |.known k=>cap=k
 |.less d z=>cap+d=aF1.s/\o=d*aF1.z/\z=aF1.z
inductive aW (ρ:Ren):V->Value->Prop
 |undef (x:Value):aW ρ .undef x
 |bool (b:Bool):aW ρ (.bool b) (.bool b)
 |num (n:Nat) (h:n<=cO):aW ρ (.num n) (.int .i64 (n:Int))
 |ik (k:IntKind) (n:Int):aW ρ (.ik k n) (.int k n)
 |str (b:ByteArray):aW ρ (.str (bytesOf b)) (.string b)
 |bg:aW ρ .bg (.pointer none)
 |ptr (i o:Nat) (aF1:pE) (h:ρ i=some aF1):aW ρ (.ptr i o) (.pointer (some ⟨aF1.b,o,none⟩))
 |iP (g o:Nat):aW ρ (.iP g o) (.pointer (some ⟨g,o,none⟩))
 |au:aW ρ .au (.slice none 0 0)
 |sl (i o n cap:Nat) (c:Cp) (aF1:pE) (h:ρ i=some aF1) (hc:Dj c aF1 o n cap) (hn:n<=cap):aW ρ (.sl i o n c) (.slice (some ⟨aF1.b,o,none⟩) n cap)
 |sl0 (i o:Nat) (c:Cp) (a:Addr) (aF1:pE) (h:ρ i=some aF1) (hc:Dj c aF1 o 0 0):aW ρ (.sl i o 0 c) (.slice (some a) 0 0)
 |z8 (a:Addr) (cap:Nat):aW ρ .z8 (.slice (some a) 0 cap)
 |fR:aW ρ .fR (.map none)
 |map (i:Nat) (aF1:pE) (h:ρ i=some aF1):aW ρ (.map i) (.map (some aF1.b))
 |fn (f:Nat) (a b:List V) (x y:Array Value) (ha:a.length=x.size) (hb:b.length=y.size) (ra:∀(i:Nat) u v,a[i]? =some u->x[i]? =some v->aW ρ u v)
   (rb:∀(i:Nat) u v,b[i]? =some u->y[i]? =some v->aW ρ u v):aW ρ (.fn f a b) (.func (.func f) x y)
 |yield (i:Nat) (aF1:pE) (h:ρ i=some aF1):aW ρ (.yield i) (.func (.yield aF1.b) #[] #[])
 |fN:aW ρ .fN .nilFunc
 |iface (t:Nat) (v:V) (x:Value) (h:aW ρ v x):aW ρ (.iface t v) (.iface t x)
 |xV:aW ρ .xV .nilIface
 |agg (a:List V) (x:Array Value) (ha:a.length=x.size) (h1:∀v∈a,v.de=true) (ra:∀(i:Nat) u v,a[i]? =some u->x[i]? =some v->aW ρ u v):aW ρ (.agg a) (.agg x)
 |cI (a:List V) (x:Array Value) (ha:a.length=x.size) (ra:∀(i:Nat) u v,a[i]? =some u->x[i]? =some v->aW ρ u v):aW ρ (.cI a) (.tuple x)
def cG(ρ:Ren)(a:ay)(x:List Value):Prop:=a.length=x.length/\∀(i:Nat) u v,a[i]? =some u->x[i]? =some v->aW ρ u v
def aW.mono{ρ q:Ren}(h:∀i aF1,ρ i=some aF1->q i=some aF1){v:V}{x:Value}(r:aW ρ v x):aW q v x:=by
 induction r with
 |undef x=>exact .undef x
 |bool b=>exact .bool b
 |num n h=>exact .num n h
 |ik k n=>exact .ik k n
 |str b=>exact .str b
 |bg=>exact .bg
 |ptr i o aF1 s=>exact .ptr i o aF1 W
 |iP g o=>exact .iP g o
 |au=>exact .au
 |sl i o n cap c aF1 s F m=>exact .sl i o n cap c aF1 W F m
 |sl0 i o c a aF1 s F=>exact .sl0 i o c a aF1 W F
 |z8 a cap=>exact .z8 a cap
 |fR=>exact .fR
 |map i aF1 s=>exact .map i aF1 W
 |fn f a b x y S s e j d l=>exact .fn f a b x y S s d l
 |yield i aF1 s=>exact .yield i aF1 W
 |fN=>exact .fN
 |iface t v x _ H=>exact .iface t v x H
 |xV=>exact .xV
 |agg a x S A e H=>exact .agg a x S A H
 |cI a x S e H=>exact .cI a x S H
def cG.mono{ρ q:Ren}(h:∀i aF1,ρ i=some aF1->q i=some aF1){a:ay}{x:List Value}(r:cG ρ a x):cG q a x:=
 ⟨r.1,λi u v L H=>(r.2 i u v L H).mono h⟩
def cG.nil{ρ:Ren}:cG ρ [] []:=⟨rfl,λi u v h=>Zn⟩
def cG.cons{ρ:Ren}{u:V}{x:Value}{a:ay}{l:List Value}(h:aW ρ u x)(r:cG ρ a l):cG ρ (u::a) (x::l):=by
 refine⟨by simp[r.1],λi p q g N=>?_⟩;cases i with
 |zero=>grind
 |succ i=>exact r.2 i p q G G
def cG.head{ρ:Ren}{u:V}{x:Value}{a:ay}{l:List Value}(r:cG ρ (u::a) (x::l)):aW ρ u x:=r.2 0 u x rfl rfl
def cG.tail{ρ:Ren}{u:V}{x:Value}{a:ay}{l:List Value}(r:cG ρ (u::a) (x::l)):cG ρ a l:=
 ⟨by have:=r.1;grind,λi p q g N=>r.2 (i+1) p q G G⟩
def cG.pw{ρ:Ren}{u:V}{a:ay}{xs:List Value}(r:cG ρ (u::a) xs):∃x l,xs=x::l/\aW ρ u x/\cG ρ a l:=by
 cases xs with
 |nil=>exact absurd r.1 J1
 |cons x l=>exact⟨x,l,rfl,r.head,r.tail⟩
def cG.AL{ρ:Ren}{xs:List Value}(r:cG ρ [] xs):xs= []:=by
 cases xs with
 |nil=>rfl
 |cons x l=>exact absurd r.1 J1
def cG.app{ρ:Ren}{a b:ay}{x y:List Value}(S:cG ρ a x)(s:cG ρ b y):cG ρ (a++b) (x++y):=by
 induction a generalizing x with
 |nil=>rw[S.AL];trivial
 |cons u a H=>obtain⟨p,l,rfl,A,N⟩:=S.pw;exact .cons A (H N)
def cG.take{ρ:Ren}{a:ay}{x:List Value}(n:Nat)(h:cG ρ a x):cG ρ (a.take n) (x.take n):=by
 refine⟨by simp[h.1],λi u v L H=>?_⟩;rw[Om] at L H;split at L
 .rename_i F;rw[ao F] at H;exact h.2 i u v L H
 trivial
def cG.drop{ρ:Ren}{a:ay}{x:List Value}(n:Nat)(h:cG ρ a x):cG ρ (a.drop n) (x.drop n):=by refine⟨by simp[h.1],λi u v L H=>?_⟩;rw[FM] at L H;exact h.2 _ u v L H
def cG.get{ρ:Ren}{a:ay}{x:List Value}(h:cG ρ a x){u:V}(L:a[i]? =some u):∃v,x[i]? =some v/\aW ρ u v:=by
 have:i<a.length:=by
  rcases dN i a.length with h|h
  .exact h
  .grind
 have S:i<x.length:=by rw[←h.1];exact this
 exact⟨x[i],bT S,h.2 i u _ L (bT S)⟩
def aW.De{ρ:Ren}{a:ay}{x:Array Value}(A:∀v∈a,v.de=true)(r:cG ρ a x.toList):aW ρ (.agg a) (.agg x):=
 .agg a x (by rw[r.1];simp) A (λi u v L H=>r.2 i u v L W)
def aW.Iw{ρ:Ren}{a:ay}{y:Value}(h:aW ρ (.agg a) y):∃x:Array Value,y= .agg x/\(∀v∈a,v.de=true)/\cG ρ a x.toList:=by
 cases h with
 |agg _ x S A e=>exact⟨x,rfl,A,G,W⟩
def aW.eM{ρ:Ren}{a:ay}{x:Array Value}(r:cG ρ a x.toList):aW ρ (.cI a) (.tuple x):=
 .cI a x (by rw[r.1];simp) (λi u v L H=>r.2 i u v L W)
def aW.zN{ρ:Ren}{a:ay}{y:Value}(h:aW ρ (.cI a) y):∃x:Array Value,y= .tuple x/\cG ρ a x.toList:=by
 cases h with
 |cI _ x S e=>exact⟨x,rfl,G,W⟩
def aW.ajg{ρ:Ren}{f:Nat}{a b:ay}{x y:Array Value}(e:cG ρ a x.toList)(j:cG ρ b y.toList):aW ρ (.fn f a b) (.func (.func f) x y):=
 .fn f a b x y (by rw[e.1];simp) (by rw[j.1];simp) (λi u v L H=>e.2 i u v L W) (λi u v L H=>j.2 i u v L W)
def aW.RD{ρ:Ren}{f:Nat}{a b:ay}{z:Value}(h:aW ρ (.fn f a b) z):∃x y:Array Value,z= .func (.func f) x y/\cG ρ a x.toList/\cG ρ b y.toList:=by
 cases h with
 |fn _ _ _ x y S s e j=>exact⟨x,y,rfl,⟨by simpa using S,λi u v L H=>e i u v L Xm⟩,⟨by simpa using s,λi u v L H=>j i u v L Xm⟩⟩
def uZ:Value->Bool
 |.agg _ | .tuple _=>false
 |_=>true
def aW.one{ρ:Ren}{v:V}{x:Value}(h:aW ρ v x)(A:v.de=true):uZ x=true:=by cases h<;>first|rfl|trivial
def aW.fun{ρ:Ren}{v:V}{x:Value}(h:aW ρ v x):∀{y:Value},aW ρ v y->v.de=true->(∀f a b,v≠ .fn f a b)->(∀t u,v≠ .iface t u)->(v≠ .z8)->(∀s,v≠ .str s)->(∀i o n c,v≠ .sl i o n c)->x=y:=by
 intro y R A H l e M m;cases h with
 |undef=>trivial
 |bool b=>cases R;rfl
 |num n _=>cases R;rfl
 |ik k n=>cases R;rfl
 |str b=>grind
 |bg=>cases R;rfl
 |ptr i o j d=>cases R with|ptr _ _ C F=>grind
 |iP g o=>cases R;rfl
 |au=>cases R;rfl
 |sl=>grind
 |sl0=>grind
 |z8=>trivial
 |fR=>cases R;rfl
 |map i j d=>cases R with|map _ C F=>grind
 |fn=>grind
 |yield i j d=>cases R with|yield _ C F=>grind
 |fN=>cases R;rfl
 |iface=>grind
 |xV=>cases R;rfl
 |agg=>trivial
 |cI=>trivial
def oB:X->Code
 |.exit id=>.exit id
 |.goto l=>.goto l
 |.ret=>.ret
inductive iy (aF1:Code):Code->Prop
 |self:iy aF1 aF1
 |abv {x y:Code}:iy aF1 (.seq x y)->iy aF1 x
 |a7f {x y:Code}:iy aF1 (.seq x y)->iy aF1 y
 |aaR {o:Operand} {x y:Code}:iy aF1 (.cond o x y)->iy aF1 x
 |aaS {o:Operand} {x y:Code}:iy aF1 (.cond o x y)->iy aF1 y
 |block {i:Nat} {x:Code}:iy aF1 (.block i x)->iy aF1 x
 |loop {x:Code}:iy aF1 (.loop x)->iy aF1 x
 |a2s {o:Operand} {ps:Array Tmp} {x y:Code}:iy aF1 (.rangeFunc o ps x y)->iy aF1 x
 |a2r {o:Operand} {ps:Array Tmp} {x y:Code}:iy aF1 (.rangeFunc o ps x y)->iy aF1 y
 |scope {x:Code}:iy aF1 (.scope x)->iy aF1 x
 |skip:iy aF1 .skip
 |join {x y:Code}:iy aF1 x->iy aF1 y->iy aF1 (.seq x y)
def gG(P:Program)(f:Nat)(c:Code):Prop:=∃fn b,P.funcs[f]? =some fn/\fn.body=some b/\iy b c
def gG.map{P:Program}{f:Nat}{a b:Code}(h:gG P f b)(s:∀{aF1},iy aF1 b->iy aF1 a):gG P f a:=
 let ⟨fn,x,A,N,M⟩:=h;⟨fn,x,A,N,s M⟩
def gG.join{P:Program}{f:Nat}{a b:Code}(h:gG P f a)(g:gG P f b):gG P f (.seq a b):=by obtain⟨fn,x,A,N,M⟩:=h;obtain⟨c,w,s,z,o⟩:=g;rw[A] at s;cases s;rw[N] at z;cases z;exact⟨fn,x,A,N,.join M o⟩
noncomputable def rO (z:ay) (c:Cells) (j:Nat):Option V:=
 match Cells.get c j with
 |.undef=>z[j%z.length]?
 |v=>some v
def dV(ρ:Ren)(e:Env)(tmps:Array Value):Prop:=∀t,aW ρ ((eg t).get e) (tmps.getD t undef)
def isLive:O->Bool
 |.none | .dead=>false
 |_=>true
def Ht:O->Bool
 |.row _ n t _ _ _=>Nat.ble t n
 |_=>true
structure lV(ρ:Ren)(x:V×V×Nat)(m:MapEntry):Prop where
 key:aW ρ x.1 m.key
 val:aW ρ x.2.1 m.val
 born:x.2.2=m.born
def a5R(ρ:Ren)(n:Nat)(z:ay)(c:Cells)(cs:Array Value):Prop:=
 ∀j,j<n->rO z c j=none\/∃v x,rO z c j=some v/\cs[j]? =some x/\v.de=true/\aW ρ v x
def fL(P:Program)(ρ:Ren)(o:O)(aF1:pE)(E:Option Obj):Prop:=
 match o with
 |.none=>True
 |.dead=>True
 |.row e n t r z c=>∃H h,E=some (.cells H e h)/\(t<=n->H.size=aF1.s*aF1.z)/\(t<=n->P.cellsOf e=aF1.z)/\n<=H.size/\(r=true->n=H.size)/\(∀j,t<=j->j<H.size->¬(h.1<=j/\j<h.2))/\a5R ρ n z c H
 |.map q k=>∃g,E=some (.map g k)/\q.length=g.size/\∀(i:Nat) x m,q[i]? =some x->g[i]? =some m->lV ρ x m
 |.yI s p=>∃b,E=some (.stringIter b p)/\bytesOf b=s
 |.loop v L f e u a b d=>∃l:Loop,E=some (.loop l)/\l.state=v/\l.pending=L.map oB/\dV ρ e l.tmps/\l.params.toList=u/\l.assign=a/\l.body=b/\(∃D,ρ d=some D/\l.defers=D.b)/\gG P f a/\gG P f b/\(∃fn,P.funcs[f]? =some fn/\fn.ntmps=l.tmps.size)/\∀p∈u,p<l.tmps.size
 |.sJ c=>match c with
  |some []=>E=some (.deferred (some []))
  |none=>E=some (.deferred none)
  |_=>False
def fL.mono{P:Program}{ρ q:Ren}(h:∀i aF1,ρ i=some aF1->q i=some aF1){o:O}{aF1:pE}{E:Option Obj}(r:fL P ρ o aF1 E):fL P q o aF1 E:=by
 cases o with
 |none=>trivial
 |dead=>trivial
 |row e n fz wh z c=>obtain⟨H,C,A,N,M,u,w,F,y⟩:=r;exact⟨H,C,A,N,M,u,w,F,λj hj=>(y j hj).imp id λ⟨v,x,a,b,c,d⟩=>⟨v,x,a,b,c,d.mono h⟩⟩
 |map es k=>obtain⟨g,A,N,M⟩:=r;exact⟨g,A,N,λi x m S R=>let ⟨a,b,c⟩:=M i x m S R;⟨a.mono h,b.mono h,c⟩⟩
 |yI s p=>exact r
 |loop st L f e ps a b d=>obtain⟨l,A,N,M,w,F,y,h8,⟨D,h9,yZ⟩,Ar⟩:=r;exact⟨l,A,N,M,λt=>(w t).mono h,F,y,h8,W,Ar⟩
 |sJ c=>exact r
structure aO(P:Program)(C:Ctx)(ρ:Ren)(h:Heap)(w:World):Prop where
 pW:∀i aF1,ρ i=some aF1->i<h.nx/\aF1.b<w.heap.size
 obj:∀i aF1,ρ i=some aF1->fL P ρ (bL i h) aF1 w.heap[aF1.b]?
 inj:∀i j aF1 D,ρ i=some aF1->ρ j=some D->isLive (bL i h)=true->isLive (bL j h)=true->aF1.b=D.b->i=j
 iP:∀g cs,C.gl g=some cs->(∀i aF1,ρ i=some aF1->isLive (bL i h)=true->Ht (bL i h)=true->aF1.b≠g)/\∃xs t fr,w.heap[g]? =some (.cells xs t fr)/\∀(j:Nat) v,cs[j]? =some v->∃x,xs[j]? =some x/\aW ρ v x
def SN(ρ:Ren)(h:Heap)(b:Nat):Prop:=∃i aF1,ρ i=some aF1/\aF1.b=b/\isLive (bL i h)=true/\Ht (bL i h)=true
def Aside(w w':World):Prop:=w'.os=w.os/\w'.output=w.output
def Aside.trans{a b c:World}(h:Aside a b)(g:Aside b c):Aside a c:=⟨g.1.trans h.1,g.2.trans h.2⟩
structure Le(ρ:Ren)(h:Heap)(w:World)(jP:Ren)(h':Heap)(w':World):Prop where
 xh:∀i aF1,ρ i=some aF1->jP i=some aF1
 size:w.heap.size<=w'.heap.size
 frame:∀b,b<w.heap.size->¬SN ρ h b->w'.heap[b]? =w.heap[b]? /\¬SN jP h' b
 nx:h.nx<=h'.nx
 fresh:∀i,i<h.nx->ρ i=none->bL i h'=bL i h/\jP i=none
 aside:Aside w w'
def Le.refl(ρ:Ren)(h:Heap)(w:World):Le ρ h w ρ h w:=⟨λ_ _ h=>h,Z,λ_ _ h=>G,Z,λ_ _ h=>G,rfl,rfl⟩
def Le.trans{ρ e f:Ren}{d k:Heap}{w H c:World}(a:Le ρ h w e d H)(b:Le e d H f k c):Le ρ h w f k c:=
 ⟨λi j F=>b.xh i j (a.xh i j F),cL a.size b.size,
  λx S R=>let ⟨A,N⟩:=a.frame x S R;let ⟨M,u⟩:=b.frame x W N;W,
  cL a.nx b.nx,λi F g=>let ⟨A,N⟩:=a.fresh i F g;let ⟨M,u⟩:=b.fresh i (bW F a.nx) N;W,a.aside.trans b.aside⟩
def Le.world{ρ:Ren}{w:World}(l:w'.heap=w.heap)(S:Aside w w':=by exact⟨rfl,rfl⟩):Le ρ h w ρ h w':=
 ⟨λ_ _ h=>h,W,λ_ _ h=>W,Z,λ_ _ h=>G,S⟩
def aO.world{P:Program}{C:Ctx}{ρ:Ren}{w:World}(r:aO P C ρ h w)(l:w'.heap=w.heap):aO P C ρ h w':=
 ⟨λi j F=>by rw[l];exact r.pW i j F,λi j F=>by rw[l];exact r.obj i j F,r.inj,λg H p=>by rw[l];exact r.iP g H p⟩
def aO.push{P:Program}{C:Ctx}{ρ:Ren}{w:World}{o:O}{ob:Obj}{aF1:pE}(r:aO P C ρ h w)
  (l:w'.heap=w.heap.push ob) (s:aF1.b=w.heap.size) (hn:h'.nx=h.nx+1) (p:∀j,bL j h'=if j=h.nx then o else bL j h)
  (L:fL P (λi=>if i=h.nx then some aF1 else ρ i) o aF1 (some ob)) (S:Aside w w':=by exact⟨rfl,rfl⟩):
  aO P C (λi=>if i=h.nx then some aF1 else ρ i) h' w'/\Le ρ h w (λi=>if i=h.nx then some aF1 else ρ i) h' w':=by
 have e:∀i D,ρ i=some D->(if i=h.nx then some aF1 else ρ i)=some D:=λi D F=>by rw[aj U1];trivial
 have q:∀b,b<w.heap.size->w'.heap[b]? =w.heap[b]? :=λb s=>by grind
 refine⟨⟨λi D F=>?_,λi D F=>?_,λi j D E F z k y he=>?_,λg H c=>?_⟩,⟨e,W,λb hb' R=>⟨W,?_⟩,Z,λi F h0=>W,S⟩⟩
 .by_cases A:i=h.nx
  .grind
  .simp only[A,if_false] at F;have:=r.pW i D F;grind
 .by_cases A:i=h.nx
  .grind
  .simp only[A,if_false] at F;rw[p,aj A,q _ (r.pW i D F).2];exact(r.obj i D F).mono e
 .by_cases A:i=h.nx<;>by_cases N:j=h.nx
  .omega
  .simp only[A,N,if_true,if_false] at F z;cases F;have:=(r.pW j E z).2;omega
  .simp only[A,N,if_true,if_false] at F z;cases z;have:=(r.pW i D F).2;omega
  .simp only[A,N,if_false] at F z;rw[p,aj A] at k;rw[p,aj N] at y;exact r.inj i j D E F z k y he
 .obtain ⟨A,m,t,f,N,M⟩:=r.iP g H c;have d:g<w.heap.size:=by
   rcases dN g w.heap.size with h|h
   .exact h
   .grind
  refine⟨λi D F k ti=>?_,m,t,f,W,λj v hv=>let ⟨x,a,b⟩:=M j v hv;⟨x,a,b.mono e⟩⟩;grind
 .rintro ⟨i,D,F,n,hl⟩;by_cases u:i=h.nx
  .grind
  .simp only[u,if_false] at F;rw[p,aj u] at hl;exact R ⟨i,D,F,n,hl⟩
def aO.put{P:Program}{C:Ctx}{ρ:Ren}{w:World}{o:O}{aF1:pE}(r:aO P C ρ h w)(F:ρ i=some aF1)(hl:isLive (bL i h)=true)(x:Ht (bL i h)=true\/w'.heap[aF1.b]? =w.heap[aF1.b]? /\isLive o=false)
  (M:w'.heap.size=w.heap.size) (L:fL P ρ o aF1 w'.heap[aF1.b]?) (l:∀b,b≠aF1.b->w'.heap[b]? =w.heap[b]?) (hn:h'.nx=h.nx) (p:∀j,bL j h'=if j=i then o else bL j h) (a:o≠ .none) (S:Aside w w':=by exact⟨rfl,rfl⟩):
  aO P C ρ h' w'/\Le ρ h w ρ h' w':=by
 have v:∀j D,ρ j=some D->isLive (bL j h')=true->isLive (bL j h)=true:=λj D z q=>by grind
 refine⟨⟨λj D z=>by rw[hn,M];exact r.pW j D z,λj D z=>?_,λj k D E z hk y d he=>r.inj j k D E z hk W W he,λg H c=>?_⟩,
  ⟨λ_ _ h=>h,Z,λb hb R=>⟨?_,?_⟩,Z,λj z s=>?_,S⟩⟩
 .rw [p];by_cases A:j=i
  .grind
  .rw [aj A];by_cases N:isLive (bL j h)=true
   .rw [l _ (λh=>A (r.inj j i D aF1 z F N hl h))];exact r.obj j D z
   .revert N;cases bL j h<;>simp[isLive,fL]
 .obtain ⟨A,m,t,f,N,h3⟩:=r.iP g H c;grind
 .by_cases e:b=aF1.b
  .subst e;rcases x with x|⟨x,_⟩
   .exact absurd ⟨i,aF1,F,rfl,hl,x⟩ R
   trivial
  grind
 .rintro ⟨j,D,z,n,q,u⟩;by_cases e:j=i
  .subst e;rcases x with x|⟨_,ho2⟩
   .exact R ⟨j,D,z,n,hl,x⟩
   grind
  .rw [p,aj e] at q u;exact R ⟨j,D,z,n,q,u⟩
 grind
end Go.Ev
namespace Go.Ev
open Go
variable{a:Act}{h:Heap}{l:Nat}{ρ:Ren}{w':World}{q:aY}{k:cR}{T:eV}
structure CtxOk(P:Program)(C:Ctx):Prop where
 ty:∀t ti,C.ty t=some ti->∃inf,P.info? t=some inf/\inf.size=ti.sz/\inf.bytes=ti.bytes/\P.underlying t=some ti.desc/\
  ∃z,inf.zero=some z/\(∀ρ,aW ρ ti.zero z)/\(∀ρ,cG ρ ti.cW z.cells.toList)/\(∀v∈ti.cW,v.de=true)/\ti.cW.length=ti.sz/\ti.zero≠ .undef
 eq:∀t ti,C.ty t=some ti->ti.yE=P.stoodInHeld t/\ti.guard=P.eqGuardType P.depth t
 ar4:∀t ti fs,C.ty t=some ti->ti.desc= .struct fs->∀f∈fs.toList,(P.info? f.type).isSome=true
 one:∀t ti,C.ty t=some ti->iC ti.desc=false->ti.sz=1
def rU(r:Option Nat):Fence:={Fence.wide with round:=r}
@[simp] theorem afx(r:Option Nat):(rU r).depth=none:=rfl
@[simp] theorem afw(r:Option Nat):(rU r).round=r:=rfl
def fS(P:Program)(r:Option Nat)(o:Oper)(a:Act)(w:World)(R:Value->World->Prop):Prop:=
 ∀(next:Act->World->Prop) (aEV:Exit->Act->World->Prop),(∀v l,R v l->next (a.put o.dst v) l)->o.wpIn (rU r) 0 P a w next aEV
def fS.value{P:Program}{r:Option Nat}{o:Oper}{w:World}{R:Value->World->Prop}{v:Value}(hd:∀c,o.op≠ .defer c)
  (h:(execOp a.eval o).run P w= .ok (.value v) w') (t:R v w'):fS P r o a w R:=by
 intro next aEV g
 refine⟨λ_ _=>trivial,?_⟩;rw[Oper.semAt_plain _ _ _ hd,h];exact g v w' t
def fS.skip{P:Program}{r:Option Nat}{o:Oper}{w:World}{R:Value->World->Prop}(hd:∀c,o.op≠ .defer c)
  (h:(execOp a.eval o).run P w= .ok .skip w') (t:R undef w'):fS P r o a w R:=by
 intro next aEV g
 refine⟨λ_ _=>trivial,?_⟩;rw[Oper.semAt_plain _ _ _ hd,h];exact g undef w' t
def fS.enter{P:Program}{r:Option Nat}{o:Oper}{w:World}{R:Value->World->Prop}{f:FuncId}{args:Array Value}(hd:∀c,o.op≠ .defer c)
  (h:(execOp a.eval o).run P w= .ok (.enter f args) w') (hc:CallsIn (rU r) 0 P f args w' (λe b=>∃v,e= .returned v/\R v b)):fS P r o a w R:=by
 intro next aEV g
 refine⟨λ_ _=>trivial,?_⟩;rw[Oper.semAt_plain _ _ _ hd,h];refine⟨λh=>G,hc.mono ?_⟩;grind
def fS.round{P:Program}{r:Option Nat}{o:Oper}{w:World}{R:Value->World->Prop}{f:FuncId}{F:Array Value}{as x:Code}(hd:∀c,o.op≠ .defer c)
  (h:(execOp a.eval o).run P w= .ok (.round l f F as x) w') (hc:RoundIn (rU r) 0 P l f F as x w' (λe b=>∃v,e= .returned v/\R v b)):fS P r o a w R:=by
 intro next aEV g
 refine⟨λ_ _=>trivial,?_⟩;rw[Oper.semAt_plain _ _ _ hd,h];refine⟨λh=>G,hc.mono ?_⟩;grind
def fS.mono{P:Program}{r:Option Nat}{o:Oper}{w:World}{R c:Value->World->Prop}(h:fS P r o a w R)(t:∀v w',R v w'->c v w'):fS P r o a w c:=
 λnext aEV g=>h next aEV W
def iG(P:Program)(C:Ctx)(ρ:Ren)(h:Heap)(w:World)(k:cR)(v:Value)(w':World):Prop:=
 ∃V R q,k V R=true/\aW q V v/\aO P C q R w'/\Le ρ h w q R w'
def iG.same{P:Program}{C:Ctx}{w:World}{V:V}{v:Value}(E:k V h=true)(H:aW ρ V v)(g:aO P C ρ h w)
  (l:w'.heap=w.heap) (S:Aside w w':=by exact⟨rfl,rfl⟩):iG P C ρ h w k v w':=⟨V,h,ρ,E,H,g.world l,Le.world l S⟩
section
variable {P:Program} {C:Ctx} {ρ:Ren}
def Bi(x:Value):aW ρ (scalar x) x:=by
 unfold scalar;split
 .exact .bool _
 .rename_i n;cases h:Nat.ble n cO with
  |true=>simp only[cond];exact .num n (bh h)
  |false=>simp only[cond];exact .ik _ _
 .exact .ik _ _
 .exact .str _
 .exact .bg
 .exact .au
 .exact .fR
 .exact .fN
 .exact .xV
 .exact .undef _
def JT{l:List Value}:cG ρ (l.map scalar) l:=by refine⟨J1,λi u v L H=>?_⟩;rw[rX,H] at L;simp at L;subst L;exact Bi v
def xT(x:Value):aW ρ (kV x) x:=by
 unfold kV;split
 .rename_i H;cases h:(H.toList.map scalar).all V.de with
  |true=>simp only[cond];exact aW.De W JT
  |false=>exact .undef _
 .exact aW.eM JT
 .exact Bi x
def aJ{e:Env}(h:dV ρ e a.tmps)(x:Operand):aW ρ ((ax x).get e) (a.eval x):=by
 cases x with
 |tmp t=>exact h t
 |const v=>exact xT v
 |global g=>exact .iP g 0
 |func f=>exact .fn f [] [] #[] #[] rfl rfl W W
def oI{e:Env}(h:dV ρ e a.tmps):∀{l:List Operand} {k:ay->Bool},(ir l).run e k=true->∃s,k s=true/\cG ρ s (l.map a.eval)/\∀v∈s,v≠ .undef
 |[],k,E=>⟨[],E,.nil,J1⟩
 |x::l,k,E=>by have b:V.live ((ax x).get e) (λv=>(ir l).run e (λs=>k (v::s)))=true:=E;obtain⟨A,N⟩:=V.eP.1 b;obtain⟨s,M,u,r⟩:=oI h N;exact⟨_,M,.cons (aJ h x) u,W⟩
def yB(P:Program)(f:Env->aY->Bool)(o:Oper):Prop:=
 ∀(ρ:Ren) (e:Env) (q:aY) (a:Act) (w:World),f e q=true->dV ρ e a.tmps->∃V v,q V=true/\aW ρ V v/\V≠ .undef/\(execOp a.eval o).run P w= .ok (.value v) w
def eY(T:eV)(P:Program)(C:Ctx)(x:fy)(o:Oper):Prop:=
 ∀(z:Rt) (r:Option Nat) (e:Env) (h:Heap) (k:cR) (ρ:Ren) (a:Act) (w:World),T z->x.run z e h k=true->dV ρ e a.tmps->aO P C ρ h w->
  fS P r o a w (iG P C ρ h w k)
def eY.bad{o:Oper}:eY T P C cQ o:=λz r e h k ρ a w _ S=>G
def eY.pure{o:Oper}{f:Env->aY->Bool}(hd:∀c,o.op≠ .defer c)(h:yB P f o):eY T P C (bZ f) o:=by intro z r e g k ρ a w _ S R y;obtain⟨V,v,A,N,M,u⟩:=h ρ e (λv=>k v g) a w S R;exact fS.value hd u (iG.same A N y rfl)
def eY.still{o:Oper}{x:fy}(hd:∀c,o.op≠ .defer c)
  (h:∀(z:Rt) (e:Env) (g:Heap) (k:cR) (ρ:Ren) (a:Act) (w:World),x.run z e g k=true->dV ρ e a.tmps->aO P C ρ g w->
   ∃V v w',k V g=true/\aW ρ V v/\(execOp a.eval o).run P w= .ok (.value v) w'/\w'=w):eY T P C x o:=by
 intro z r e g k ρ a w _ S R y;obtain⟨V,v,w',A,N,M,rfl⟩:=h z e g k ρ a w S R y;exact fS.value hd M (iG.same A N y rfl)
def BH{v:V}{q:bs}(h:V.dD v q=true):(∃n,v= .num n/\q n=true)\/∃(k:IntKind) (n:Nat),v= .ik k (.ofNat n)/\q n=true:=by
 unfold V.dD at h;rcases V.lN.1 h with⟨n,A,N⟩|⟨s,A⟩
 .grind
 .rcases V.qQ.1 A with⟨n,N,M⟩|⟨k,n,N,M⟩
  .grind
  .rcases jK.1 M with⟨m,rfl,u⟩|⟨m,rfl,u⟩
   .grind
   trivial
def gL{v:V}{x:Value}{q:bs}(d:aW ρ v x)(h:V.dD v q=true):∃(k:IntKind) (n:Nat),x= .int k (n:Int)/\q n=true:=by
 rcases BH h with⟨n,rfl,A⟩|⟨k,n,rfl,A⟩
 .cases d;grind
 .cases d;grind
def eB{v:V}{x:Value}{q:IntKind->Int->Bool}(d:aW ρ v x)(h:V.ec v q=true):∃k n,x= .int k n/\q k n=true:=by
 rcases V.qQ.1 h with⟨n,rfl,A⟩|⟨k,n,rfl,A⟩
 .cases d;grind
 .cases d;grind
def fU{v:V}{x:Value}{q:aI->Bool}(d:aW ρ v x)(h:V.ig v q=true):∃b,x= .string b/\q (bytesOf b)=true:=by obtain⟨s,rfl,A⟩:=V.BD.1 h;cases d;grind
def oo{v:V}{x:Value}{q:Bool->Bool}(d:aW ρ v x)(h:V.ja v q=true):∃b,x= .bool b/\q b=true:=by obtain⟨s,rfl,A⟩:=V.yO.1 h;cases d;grind
def fv{v:V}{x:Value}{q:Nat->bs}(d:aW ρ v x)(h:V.dW v q=true):∃i o aF1,ρ i=some aF1/\x= .pointer (some ⟨aF1.b,o,none⟩)/\q i o=true:=by obtain⟨i,o,rfl,A⟩:=V.BG.1 h;cases d with|ptr _ _ aF1 a=>grind
def gA{v:V}{x:Value}{q:ay->Bool}(d:aW ρ v x)(h:V.dY v q=true):∃(cs:ay) (xs:Array Value),v= .agg cs/\x= .agg xs/\(∀u∈cs,u.de=true)/\cG ρ cs xs.toList/\q cs=true:=by obtain⟨cs,rfl,A⟩:=V.BJ.1 h;obtain⟨xs,N,M,a⟩:=d.Iw;grind
def WU{v:V}{x:Value}{q:ay->Bool}(d:aW ρ v x)(h:V.kD v q=true):∃(cs:ay) (xs:Array Value),x= .tuple xs/\cG ρ cs xs.toList/\q cs=true:=by obtain⟨cs,rfl,A⟩:=V.oi.1 h;obtain⟨xs,N,M⟩:=d.zN;grind
def gu{k:IntKind}{n:Int}(h:mv k n q=true):∃V,q V=true/\aW ρ V (.int k n)/\V≠ .undef:=by
 unfold mv at h;rcases jK.1 h with⟨m,rfl,A⟩|⟨m,rfl,A⟩
 .rcases bK.1 A with⟨N,M⟩|⟨_,M⟩
  .have E:k= .i64:=by revert N;cases k<;>decide
   subst E;rcases bK.1 M with⟨u,r⟩|⟨_,r⟩
   .exact ⟨_,r,.num m (bh u),J1⟩
   .exact ⟨_,r,.ik _ _,J1⟩
  .exact ⟨_,M,.ik k _,J1⟩
 .exact ⟨_,A,.ik k _,J1⟩
def gw{b:Bool}(h:lp b q=true):∃V,q V=true/\aW ρ V (.bool b)/\V≠ .undef:=by
 unfold lp at h;rcases bK.1 h with⟨rfl,h⟩|⟨rfl,h⟩
 .exact ⟨_,h,.bool true,J1⟩
 .exact ⟨_,h,.bool false,J1⟩
def FX(n:Int):IntKind.i64.wrap n<=(cO:Int):=by unfold IntKind.wrap cO;simp only[IntKind.signed,IntKind.bits,Ay];grind
def a6E{n:Int}(h0:0<=n)(A:n<=(cO:Int)):IntKind.i64.wrap n=n:=by unfold IntKind.wrap;unfold cO at A;simp only[IntKind.signed,IntKind.bits,Ay];grind
def cB{n:Int}(h0: -(cO:Int)<=n)(A:n<=(cO:Int)):IntKind.i64.wrap n=n:=by unfold IntKind.wrap;unfold cO at h0 A;simp only[IntKind.signed,IntKind.bits,Ay];grind
end
variable{m:Nat}
section
variable {P:Program} {C:Ctx} {ρ:Ren}
def TN{o:Oper}{x:Operand}(L:o.op= .move x\/o.op= .assign x):yB P (λe q=>V.live ((ax x).get e) q) o:=by intro ρ e q a w h R;obtain⟨A,N⟩:=V.eP.1 h;refine⟨_,_,N,aJ R x,A,?_⟩;rcases L with L|L<;>simp[execOp,L]
def a7J{o:Oper}{c x y:Operand}(L:o.op= .pick c x y):yB P (λe q=>V.ja ((ax c).get e) (λt=>aR t (V.live ((ax x).get e) q) (V.live ((ax y).get e) q))) o:=by
 intro ρ e q a w h R;obtain⟨b,A,N⟩:=oo (aJ R c) h;rcases bK.1 N with⟨rfl,M⟩|⟨rfl,M⟩
 .obtain ⟨u,r⟩:=V.eP.1 M;exact⟨_,_,r,aJ R x,u,Zf⟩
 .obtain ⟨u,r⟩:=V.eP.1 M;exact⟨_,_,r,aJ R y,u,Zf⟩
def gW{a b:Int}:mR a b=true↔a=b:=by cases a<;>cases b<;>simp only[mR,Nat.beq_eq,qE,false_iff,Int.ofNat_eq_natCast,NJ]<;>omega
def VA(a b:Int):mR a b=decide (a=b):=by rw[qA,gW];simp
def Am{a b:Int}:leI a b=true↔a<=b:=by cases a<;>cases b<;>simp only[leI,Nat.ble_eq,qE,false_iff,true_iff,Int.ofNat_eq_natCast,NJ]<;>omega
def a3K(a b:Int):leI a b=decide (a<=b):=by rw[qA,Am];simp
def k8(b:Bool):jw b= !b:=B9
def oG{a b:IntKind}:rV a b=true↔a=b:=by cases a<;>cases b<;>decide
def va{op:BinOp}{k:IntKind}{m n:Int}{t:TypeId}{w:World}(h:i6 op k m n q=true):
  ∃V v,q V=true/\aW ρ V v/\V≠ .undef/\(binOp op t (.int k m) (.int k n)).run P w= .ok v w:=by
 cases op<;>simp only[i6] at h
 case add=>obtain⟨V,A,N,M⟩:=gu h;exact⟨V,_,A,N,M,D1⟩
 case sub=>obtain⟨V,A,N,M⟩:=gu h;exact⟨V,_,A,N,M,D1⟩
 case mul=>obtain⟨V,A,N,M⟩:=gu h;exact⟨V,_,A,N,M,D1⟩
 case quo=>
  rcases bK.1 h with⟨_,h⟩|⟨s,h⟩
  .trivial
  .have g:n≠0:=λb=>by rw[gW.2 b] at s;trivial
   obtain⟨V,A,N,M⟩:=gu h;exact⟨V,_,A,N,M,Zg⟩
 case rem=>
  rcases bK.1 h with⟨_,h⟩|⟨s,h⟩
  .trivial
  .have g:n≠0:=λb=>by rw[gW.2 b] at s;trivial
   obtain⟨V,A,N,M⟩:=gu h;exact⟨V,_,A,N,M,Zg⟩
 case and=>obtain⟨V,A,N,M⟩:=gu h;exact⟨V,_,A,N,M,P6⟩
 case or=>obtain⟨V,A,N,M⟩:=gu h;exact⟨V,_,A,N,M,P6⟩
 case xor=>obtain⟨V,A,N,M⟩:=gu h;exact⟨V,_,A,N,M,P6⟩
 case andNot=>obtain⟨V,A,N,M⟩:=gu h;exact⟨V,_,A,N,M,P6⟩
 case lss=>obtain⟨V,A,N,M⟩:=gw h;exact⟨V,_,A,N,M,S7⟩
 case leq=>obtain⟨V,A,N,M⟩:=gw h;exact⟨V,_,A,N,M,Jv⟩
 case gtr=>obtain⟨V,A,N,M⟩:=gw h;exact⟨V,_,A,N,M,S7⟩
 case geq=>obtain⟨V,A,N,M⟩:=gw h;exact⟨V,_,A,N,M,Jv⟩
 all_goals trivial
def mr{n:Nat}(h:n<=cO):IntKind.i64.wrap (n:Int)=(n:Int):=a6E Z Z
def ae9{n:Nat}(h:m<=cO):Nat.land m n<=cO:=cL FH h
def ah0{n:Nat}(R:m<=cO)(hn:n<=cO):Nat.lor m n<=cO:=by unfold cO at *;have:Nat.lor m n<2^63:=NO Z Z;omega
def rv(m n:Nat):decide (m<=n)=Nat.ble m n:=by rw[qA];simp
def Iv(m n:Nat):((m:Int)==(n:Int))=Nat.beq m n:=by rw[qA];simp only[beq_iff_eq,Nat.beq_eq];omega
def Pu{op:BinOp}{n:Nat}{t:TypeId}{w:World}{a:Unit->Bool}(R:m<=cO)(hn:n<=cO)(h:iN op a m n q=true)
  (c:a ()=true->∃V v,q V=true/\aW ρ V v/\V≠ .undef/\(binOp op t (.int .i64 m) (.int .i64 n)).run P w= .ok v w):
  ∃V v,q V=true/\aW ρ V v/\V≠ .undef/\(binOp op t (.int .i64 m) (.int .i64 n)).run P w= .ok v w:=by
 cases op<;>simp only[iN,ea] at h
 case add=>
  rcases bK.1 h with⟨A,N⟩|⟨_,N⟩
  .have A:=bh A;refine⟨_,_,N,.num _ A,J1,?_⟩;have:=mr A;simp[binOp,Op.intArith];trivial
  grind
 case mul=>
  rcases bK.1 h with⟨A,N⟩|⟨_,N⟩
  .have A:=bh A;refine⟨_,_,N,.num _ A,J1,?_⟩;have:=mr A;simp[binOp,Op.intArith];trivial
  grind
 case sub=>
  rcases bK.1 h with⟨A,N⟩|⟨A,N⟩
  .have A:=bh A;have M:Nat.sub m n<=cO:=W;refine⟨_,_,N,.num _ M,J1,?_⟩;have:=mr M;simp[binOp,Op.intArith];grind
  .have A:¬n<=m:=λh=>by rw[iJ h] at A;trivial
   refine⟨_,_,N,.ik _ _,J1,?_⟩;simp[binOp,Op.intArith];have e:(m:Int)-n=Int.negSucc (Nat.sub (Nat.sub n m) 1):=by show _=Int.negSucc (n-m-1);rw[NJ];omega
   rw[cB Z Z];exact e
 case quo=>
  rcases bK.1 h with⟨_,h⟩|⟨s,N⟩
  .trivial
  .have k:n≠0:=λb=>by rw[b] at s;trivial
   have M:Nat.div m n<=cO:=cL (AA m n) R;refine⟨_,_,N,.num _ M,J1,?_⟩;simp[binOp,Op.intDiv,k];have e:((Nat.div m n:Nat):Int)=(m:Int)/n:=G;rw[←e];exact mr M
 case rem=>
  rcases bK.1 h with⟨_,h⟩|⟨s,N⟩
  .trivial
  .have k:n≠0:=λb=>by rw[b] at s;trivial
   have M:Nat.mod m n<=cO:=cL (Nat.mod_le m n) R;refine⟨_,_,N,.num _ M,J1,?_⟩;simp[binOp,Op.intDiv,k];rfl
 case and=>have M:=ae9 (n:=n) R;refine⟨_,_,h,.num _ M,J1,?_⟩;simp[binOp,Op.intBits];have H:m%2^IntKind.i64.bits=m:=qv D3;have d:n%2^IntKind.i64.bits=n:=qv G7;rw[H,d];exact mr M
 case or=>have M:=ah0 R hn;refine⟨_,_,h,.num _ M,J1,?_⟩;simp[binOp,Op.intBits];have H:m%2^IntKind.i64.bits=m:=qv D3;have d:n%2^IntKind.i64.bits=n:=qv G7;rw[H,d];exact mr M
 case lss=>obtain⟨V,A,N,M⟩:=gw h;refine⟨V,_,A,N,M,?_⟩;simp[binOp,Op.intCmp,Nat.blt,a18];exact rv _ _
 case leq=>obtain⟨V,A,N,M⟩:=gw h;refine⟨V,_,A,N,M,?_⟩;simp[binOp,Op.intCmp];exact rv _ _
 case gtr=>obtain⟨V,A,N,M⟩:=gw h;refine⟨V,_,A,N,M,?_⟩;simp[binOp,Op.intCmp,Nat.blt,a18];exact rv _ _
 case geq=>obtain⟨V,A,N,M⟩:=gw h;refine⟨V,_,A,N,M,?_⟩;simp[binOp,Op.intCmp];exact rv _ _
 case eql=>obtain⟨V,A,N,M⟩:=gw h;refine⟨V,_,A,N,M,?_⟩;simp[binOp,Op.intCmp];exact Iv _ _
 case neq=>obtain⟨V,A,N,M⟩:=gw h;refine⟨V,_,A,N,M,?_⟩;simp[binOp,Op.intCmp,k8];exact congrArg not (Iv m n)
 all_goals grind
def Tu{k yk:IntKind}{m:Int}{n:Nat}{t:TypeId}{w:World}:(binOp .shl t (.int k m) (.int yk n)).run P w= .ok (.int k (k.wrap (m*2^(min n k.bits)))) w:=by trivial
def Tt{k yk:IntKind}{m:Int}{n:Nat}{t:TypeId}{w:World}:(binOp .shr t (.int k m) (.int yk n)).run P w= .ok (.int k (m.fdiv (2^(min n k.bits)))) w:=by trivial
def Bg{op:BinOp}(s:op= .shl\/op= .shr){k yk:IntKind}{m n:Int}{t:TypeId}{w:World}(h:sf op k m n q=true):
  ∃V v,q V=true/\aW ρ V v/\V≠ .undef/\(binOp op t (.int k m) (.int yk n)).run P w= .ok v w:=by
 cases n with
 |negSucc n=>trivial
 |ofNat n=>
  rcases s with rfl|rfl
  .obtain ⟨V,A,N,M⟩:=gu G;exact⟨V,_,A,N,M,Tu⟩
  .obtain ⟨V,A,N,M⟩:=gu G;exact⟨V,_,A,N,M,Tt⟩
def GV{op:BinOp}(s:op= .shl\/op= .shr){yk:IntKind}{n:Nat}{t:TypeId}{w:World}{a:Unit->Bool}(R:m<=cO)(h:(nb op).num a m n q=true)
  (c:a ()=true->∃V v,q V=true/\aW ρ V v/\V≠ .undef/\(binOp op t (.int .i64 m) (.int yk n)).run P w= .ok v w):
  ∃V v,q V=true/\aW ρ V v/\V≠ .undef/\(binOp op t (.int .i64 m) (.int yk n)).run P w= .ok v w:=by
 rcases s with rfl|rfl
 .have h:gy (Nat.shiftLeft m n) (λx=>aR (Nat.ble n 62) (aR (Nat.ble x cO) (q (.num x)) (a ())) (a ()))=true:=h;rw[ea] at h;rcases bK.1 h with⟨A,N⟩|⟨_,N⟩
  .rcases bK.1 N with⟨M,u⟩|⟨_,u⟩
   .have A:=bh A;have M:=bh M;refine⟨_,_,u,.num _ M,J1,?_⟩;have e:((Nat.shiftLeft m n:Nat):Int)=(m:Int)*2^n:=by
     show((m <<< n:Nat):Int)=_;rw[Nat.shiftLeft_eq];push_cast;rfl
    have b:min n IntKind.i64.bits=n:=FL (by show n<=64;omega);rw[Tu,b,←e,mr M]
   grind
  grind
 .have h:gy (Nat.shiftRight m n) (λx=>q (.num x))=true:=h;rw[ea] at h;have M:Nat.shiftRight m n<=cO:=by
   show m >>> n<=cO;rw[Oj];exact cL (AA _ _) R
  refine⟨_,_,h,.num _ M,J1,?_⟩;have e:Nat.shiftRight m n=m/2^(min n IntKind.i64.bits):=by
   show m >>> n=_;rw[Oj];rcases Nat.le_total n 64 with h|h
   .rw [show min n IntKind.i64.bits=n from FL h]
   .rw [show min n IntKind.i64.bits=64 from Nat.min_eq_right h];have A:m<2^64:=by unfold cO at R;omega
    rw[Nat.div_eq_of_lt A,Nat.div_eq_of_lt (bW A (Nat.pow_le_pow_right I h))]
  have N:(0:Int)<=2^(min n IntKind.i64.bits):=W;rw[Tt,e,Ol (m:Int) N];trivial
def acf{op:BinOp}(h:An op=false)(b:op≠ .eql/\op≠ .neq):(nb op).int=i6 op/\(nb op).num=iN op:=by cases op<;>first|trivial|trivial|(simp at b)
def BM{o:Oper}{op:BinOp}{t u:TypeId}{x y:Operand}(L:o.op= .binOp op t x y u){f:Env->aY->Bool}
  (h:∀(ρ:Ren) (e:Env) (q:aY) (a:Act) (w:World),f e q=true->dV ρ e a.tmps->∃V v,q V=true/\aW ρ V v/\V≠ .undef/\
   (eqGuard op t x y (a.eval x) (a.eval y)).run P w= .ok () w/\(binOp op t (a.eval x) (a.eval y)).run P w= .ok v w):yB P f o:=by
 intro ρ e q a w H R;obtain⟨V,v,A,N,M,b,r⟩:=h ρ e q a w H R;exact⟨V,v,A,N,M,by simp[execOp,L,b,r]⟩
def kK{op:BinOp}{t:TypeId}{x y:Operand}{k l:IntKind}{m n:Int}{w:World}:(eqGuard op t x y (.int k m) (.int l n)).run P w= .ok () w:=by unfold eqGuard;split<;>simp
def a5F{o:Oper}{op:BinOp}{t u:TypeId}{x y:Operand}(L:o.op= .binOp op t x y u)(b:op≠ .eql/\op≠ .neq):
  ∃f,gj op x y=bZ f/\yB P f o:=by
 unfold gj;cases hs:An op with
 |true=>
  refine⟨_,rfl,BM L ?_⟩;have s:op= .shl\/op= .shr:=by cases op<;>simp_all [An]
  intro ρ e q a w h R;rcases V.lN.1 h with⟨m,S,h⟩|⟨_,h⟩
  .have c:=aJ R x;rw[S] at c;obtain⟨k,n,p,h⟩:=eB (aJ R y) h;rcases jK.1 h with⟨n,rfl,z⟩|⟨n,rfl,z⟩
   .generalize a.eval x=H at *;cases c with
    |num _ C=>rw[p];obtain⟨V,v,A,N,M,r⟩:=GV (ρ:=ρ) (P:=P) (yk:=k) (t:=t) (w:=w) s C z (λh=>Bg s (by rcases s with rfl|rfl<;>exact h));exact⟨V,v,A,N,M,kK,r⟩
   trivial
  .obtain ⟨k,m,S,h⟩:=eB (aJ R x) h;obtain⟨l,n,p,h⟩:=eB (aJ R y) h;rw[S,p];obtain⟨V,v,A,N,M,r⟩:=Bg (ρ:=ρ) (P:=P) (yk:=l) (t:=t) (w:=w) s (show sf op k m n q=true by rcases s with rfl|rfl<;>exact h);exact⟨V,v,A,N,M,kK,r⟩
 |false=>
  refine⟨_,rfl,BM L ?_⟩;obtain⟨F,g⟩:=acf hs b;intro ρ e q a w h R;simp only[F,g] at h;rcases V.lN.1 h with⟨m,S,h⟩|⟨_,h⟩
  .have c:=aJ R x;rw[S] at c;rcases V.lN.1 h with⟨n,p,h⟩|⟨_,h⟩
   .have d:=aJ R y;rw[p] at d;generalize a.eval x=H at *;generalize a.eval y=j at *;cases c with
    |num _ C=>cases d with
     |num _ g=>obtain⟨V,v,A,N,M,r⟩:=Pu (ρ:=ρ) (P:=P) (t:=t) (w:=w) C g h (λh=>va h);exact⟨V,v,A,N,M,kK,r⟩
   .obtain ⟨l,n,p,h⟩:=eB (aJ R y) h;rcases bK.1 h with⟨E,z⟩|⟨_,z⟩
    .obtain rfl:=oG.1 E;generalize a.eval x=H at *;cases c with
     |num _ C=>rw[p];obtain⟨V,v,A,N,M,r⟩:=va (ρ:=ρ) (P:=P) (t:=t) (w:=w) z;exact⟨V,v,A,N,M,kK,r⟩
    trivial
  .obtain ⟨k,m,S,h⟩:=eB (aJ R x) h;obtain⟨l,n,p,h⟩:=eB (aJ R y) h;rcases bK.1 h with⟨E,z⟩|⟨_,z⟩
   .obtain rfl:=oG.1 E;rw[S,p];obtain⟨V,v,A,N,M,r⟩:=va (ρ:=ρ) (P:=P) (t:=t) (w:=w) z;exact⟨V,v,A,N,M,kK,r⟩
   trivial
end
variable{i off:Nat}
section
variable {P:Program} {C:Ctx} {ρ:Ren}
def MM(x y:ByteArray):bytesOf (x++y)=bytesOf x++bytesOf y:=by show((x++y).data.toList.map _)=_;rw[ByteArray.data_append,Array.toList_append,iH];rfl
def jz(x:ByteArray):(bytesOf x).length=x.size:=by show(x.data.toList.map _).length=x.data.size;grind
def UJ(a b:List UInt8):yq (a.map (·.toNat)) (b.map (·.toNat))=decide (a=b):=by
 induction a generalizing b with
 |nil=>cases b<;>simp[yq,cE]
 |cons x a H=>
  cases b with
  |nil=>trivial
  |cons y b=>show aR (Nat.beq x.toNat y.toNat) (yq (a.map (·.toNat)) (b.map (·.toNat))) false=_;rw[H,Cj,qA];simp only[Nat.beq_eq,Bool.ite_eq_true_distrib,uI,qE,if_false_right,List.cons.injEq,UInt8.toNat_inj]
def a82(a b:List UInt8):KZ (a.map (·.toNat)) (b.map (·.toNat))=Op.bytesLess a b:=by
 induction a generalizing b with
 |nil=>cases b<;>simp[KZ,cE,Op.bytesLess]
 |cons x a H=>
  cases b with
  |nil=>trivial
  |cons y b=>
   show aR (Nat.blt x.toNat y.toNat) true (aR (Nat.beq x.toNat y.toNat) (KZ (a.map (·.toNat)) (b.map (·.toNat))) false)=_;rw[H];rw[Cj,Cj,Op.bytesLess];by_cases A:x<y
   .have:Nat.blt x.toNat y.toNat=true:=iJ G;grind
   .have N:Nat.blt x.toNat y.toNat=false:=by
     cases h:Nat.blt x.toNat y.toNat with
     |false=>rfl
     |true=>exact absurd (UInt8.lt_iff_toNat_lt.2 (bh h)) A
    by_cases M:x=y
    .subst M;simp[N,A]
    .have u:Nat.beq x.toNat y.toNat=false:=by
      cases h:Nat.beq x.toNat y.toNat with
      |false=>rfl
      |true=>exact absurd (UInt8.toNat_inj.1 (br h)) M
     grind
def OG{op:BinOp}{x y:ByteArray}{t:TypeId}{w:World}(h:AR op (bytesOf x) (bytesOf y) q=true):
  ∃V v,q V=true/\aW ρ V v/\V≠ .undef/\(binOp op t (.string x) (.string y)).run P w= .ok v w:=by
 have u:yq (bytesOf x) (bytesOf y)=(x.toList==y.toList):=by unfold bytesOf;rw[UJ,ByteArray.toList_eq,ByteArray.toList_eq,qA];simp
 have b:KZ (bytesOf x) (bytesOf y)=Op.bytesLess x.toList y.toList:=by unfold bytesOf;rw[a82,ByteArray.toList_eq,ByteArray.toList_eq]
 cases op<;>simp only[AR] at h
 case add=>
  rw[bB] at h;obtain⟨A,N⟩:=aN.1 h;rw[←MM] at A N;have A:=bh A;rw[dx,jz] at A;refine⟨_,_,N,.str _,J1,?_⟩;have M:¬(((x.size+y.size:Nat):Int)>IntKind.i64.max):=by have:(x++y).size=x.size+y.size:=J1;rw[this] at A;show ¬(((x.size+y.size:Nat):Int)>9223372036854775807);unfold cO at A;omega
  show(Op.stringOp .add x y).run P w=_;unfold Op.stringOp;simp only[M,if_false];rfl
 case lss=>obtain⟨V,A,N,M⟩:=gw h;refine⟨V,_,A,N,M,?_⟩;simp[binOp,Op.stringOp,b]
 case leq=>obtain⟨V,A,N,M⟩:=gw h;refine⟨V,_,A,N,M,?_⟩;rw[u,b,Cj];simp[binOp,Op.stringOp]
 case gtr=>obtain⟨V,A,N,M⟩:=gw h;refine⟨V,_,A,N,M,?_⟩;rw[u,b,Cj,k8];simp[binOp,Op.stringOp]
 case geq=>obtain⟨V,A,N,M⟩:=gw h;refine⟨V,_,A,N,M,?_⟩;rw[b,k8];trivial
 all_goals trivial
def za{op:BinOp}{t:TypeId}{x y:Operand}{m n:ByteArray}{w:World}:(eqGuard op t x y (.string m) (.string n)).run P w= .ok () w:=by unfold eqGuard;split<;>simp
def abX{o:Oper}{op:BinOp}{t u:TypeId}{x y:Operand}(L:o.op= .binOp op t x y u):
  yB P (λe q=>V.ig ((ax x).get e) (λa=>V.ig ((ax y).get e) (λb=>AR op a b q))) o:=by
 refine BM L λρ e q a w h R=>?_;obtain⟨b,A,h⟩:=fU (aJ R x) h;obtain⟨c,N,h⟩:=fU (aJ R y) h;obtain⟨V,v,M,d,r,F⟩:=OG (P:=P) (ρ:=ρ) (t:=t) (w:=w) h;rw[A,N];exact⟨V,v,M,d,r,za,F⟩
def a7I{o:Oper}{op:UnOp}{t:TypeId}{x:Operand}(L:o.op= .unOp op t x):eY T P C (unK op x) o:=by
 have f:∀c,o.op≠ .defer c:=O4;unfold unK;split
 .refine .pure f λρ e q a w h R=>?_;obtain⟨b,A,h⟩:=oo (aJ R x) h;obtain⟨V,N,M,u⟩:=gw h;exact⟨V,_,N,M,u,by simp[execOp,L,Op.unary,A,k8]⟩
 .refine .pure f λρ e q a w h R=>?_;obtain⟨k,n,A,h⟩:=eB (aJ R x) h;obtain⟨V,N,M,u⟩:=gu G;exact⟨V,_,N,M,u,by simp[execOp,L,Op.unary,A,Op.intArith]⟩
 .refine .pure f λρ e q a w h R=>?_;obtain⟨k,n,A,h⟩:=eB (aJ R x) h;obtain⟨V,N,M,u⟩:=gu G;exact⟨V,_,N,M,u,by simp[execOp,L,Op.unary,A,Op.intBits]⟩
 .exact .bad
def pK{t:TypeId}{d:TypeDesc}{w:World}(h:P.underlying t=some d):(isAgg t).run P w= .ok (iC d) w:=by unfold isAgg underlying program;cases d<;>simp[h,Sem.run,iC]
def aU{t:TypeId}{d:TypeDesc}{w:World}(h:P.underlying t=some d):(underlying t).run P w= .ok d w:=by unfold underlying program;simp[h,Sem.run]
def df{t:TypeId}{i:TypeInfo}{w:World}(h:P.info? t=some i):(sizeOf t).run P w= .ok i.size w:=by unfold sizeOf typeInfo program;simp[h,Sem.run]
def pN{t:TypeId}{i:TypeInfo}{d:TypeDesc}{cs:ay}{xs:Array Value}{k:aY}{w:World}(F:P.info? t=some i)(hd:P.underlying t=some d)
  (A:∀u∈cs,u.de=true) (a:cG ρ cs xs.toList) (h:mu (iC d) i.size cs off k=true):
  ∃V v,k V=true/\aW ρ V v/\V≠ .undef/\(part t xs off).run P w= .ok v w:=by
 unfold mu at h;unfold part;rw[Sem.run_bind,pK hd];rcases bK.1 h with⟨S,h⟩|⟨S,h⟩
 .obtain ⟨N,M⟩:=vq h;obtain⟨c,r⟩:=qJ M;refine⟨_,.agg (xs.extract off (off+i.size)),r,aW.De (λu L=>W) ?_,J1,?_⟩
  .have e:(xs.extract off (off+i.size)).toList=(xs.toList.drop off).take i.size:=by
    simp[NT,Oi]
   rw[e];exact(a.drop off).take i.size
  .simp [S,df F]
 .obtain ⟨u,L,E⟩:=nJ h;obtain⟨v,H,g⟩:=a.get L;have R:u∈cs:=W;refine⟨u,v,E,g,λb=>by have:=A u R;rw[b] at this;trivial,?_⟩;have j:xs[off]? =some v:=Xm;simp[S,j]
def wL{s f:Nat}{k:TI}(E:CtxOk P C)(h:fieldAt C s f=some (off,k)):∃l g i,P.underlying s=some (.struct l)/\l[f]? =some g/\g.offset=off/\P.info? g.type=some i/\i.size=k.sz/\P.underlying g.type=some k.desc:=by
 unfold fieldAt at h;split at h
 .rename_i b F;obtain⟨a,A,N,M,u,_⟩:=E.ty s b F;split at h
  .rename_i l c;split at h
   .rename_i g p;split at h
    .rename_i d n;simp only[jo,Prod.mk.injEq] at h;obtain⟨rfl,rfl⟩:=h;obtain⟨i,r,e,y,j,_⟩:=E.ty _ _ n;grind
    trivial
   trivial
  trivial
 trivial
def a37{o:Oper}{s f:Nat}{x:Operand}(E:CtxOk P C)(L:o.op= .field s x f):eY T P C (lS C s x f) o:=by
 have n:∀c,o.op≠ .defer c:=O4;unfold lS;split
 .rename_i off k z;obtain⟨fs,g,i,A,N,M,u,r,F⟩:=wL E z;have key:∀(ρ:Ren) (e:Env) (q:aY) (a:Act) (w:World),V.dY ((ax x).get e) (λH=>mu (iC k.desc) k.sz H off q)=true->dV ρ e a.tmps->
    ∃V v,q V=true/\aW ρ V v/\V≠ .undef/\(execOp a.eval o).run P w= .ok (.value v) w:=by
   intro ρ e q a w h R;obtain⟨H,m,_,y,j,d,h⟩:=gA (aJ R x) h;rw[←r,←M] at h;obtain⟨V,v,b,p,t,l⟩:=pN (w:=w) u F j d h;exact⟨V,v,b,p,t,by simp[execOp,L,Instr.field,aU A,N,y,asAgg,l]⟩
  split
  .rename_i S;refine .pure n λρ e q a w h R=>key ρ e q a w ?_ R;grind
  .rename_i S;refine .pure n λρ e q a w h R=>key ρ e q a w ?_ R;grind
 .exact .bad
def jA{b o n:Nat}:(⟨b,o,none⟩:Addr).add n=⟨b,o+n,none⟩:=by unfold Addr.add;grind
def GU{o:Oper}{s f:Nat}{x:Operand}(E:CtxOk P C)(L:o.op= .fieldAddr s x f):eY T P C (ak C s x f) o:=by
 have m:∀c,o.op≠ .defer c:=O4;have key:∀off k,fieldAt C s f=some (off,k)->k.sz≠0->∀(ρ:Ren) (e:Env) (q:aY) (a:Act) (w:World),V.dW ((ax x).get e) (λi o=>q (.ptr i (o+off)))=true->dV ρ e a.tmps->
    ∃V v,q V=true/\aW ρ V v/\V≠ .undef/\(execOp a.eval o).run P w= .ok (.value v) w:=by
  intro off k H d ρ e q a w h R;obtain⟨l,g,i,A,N,M,u,r,F⟩:=wL E H;obtain⟨n,p,j,t,y,h⟩:=fv (aJ R x) h;refine⟨_,_,h,.ptr _ _ j t,J1,?_⟩;have b:i.size≠0:=by rw[r];exact d
  simp[execOp,L,Instr.fieldAt,aU A,N,y,Instr.sureAddr,fieldPlace,df u,b,jA,M]
 unfold ak;split
 .rename_i k H;split
  .exact .bad
  .rename_i d;exact .pure m λρ e q a w h R=>key 0 k H d ρ e q a w h R
 .rename_i off k _ H;split
  .exact .bad
  .rename_i d;exact .pure m λρ e q a w h R=>key off k H d ρ e q a w h R
 .exact .bad
def KC{o:Oper}{x:Operand}(L:o.op= .nilCheck x):eY T P C (bZ (λe q=>V.oq ((ax x).get e) q)) o:=by have f:∀c,o.op≠ .defer c:=O4;refine .pure f λρ e q a w h R=>?_;obtain⟨A,N⟩:=V.KG.1 h;refine⟨_,_,N,aJ R x,(λb=>by rw[b] at A;trivial),?_⟩;have d:=aJ R x;generalize (ax x).get e=v at *;simp only[execOp,L];generalize a.eval x=y at *;cases d<;>first|trivial|simp
def Ps{o:Oper}{x:Operand}(L:o.op= .extract x i):eY T P C (bZ (λe q=>V.kD ((ax x).get e) (λs=>jZ s i (λv=>V.live v q)))) o:=by have f:∀c,o.op≠ .defer c:=O4;refine .pure f λρ e q a w h R=>?_;obtain⟨k,m,A,N,h⟩:=WU (aJ R x) h;obtain⟨u,d,M⟩:=nJ h;obtain⟨b,r⟩:=V.eP.1 M;obtain⟨v,H,g⟩:=N.get d;have j:m[i]? =some v:=Xm;exact⟨u,v,r,g,b,by simp[execOp,L,Instr.extract,A,j]⟩
def KE{o:Oper}{f:Nat}{l cs:Array Operand}(L:o.op= .makeFunc (.func f) l cs):
  eY T P C (bZ (λe q=>(ir l.toList).run e (λa=>(ir cs.toList).run e (λb=>q (.fn f a b))))) o:=by
 have g:∀c,o.op≠ .defer c:=O4;refine .pure g λρ e q a w h R=>?_;obtain⟨s,A,N,_⟩:=oI R h;obtain⟨d,M,u,_⟩:=oI R A;exact⟨_,_,M,aW.ajg (x:=l.map a.eval) (y:=cs.map a.eval) (by simpa using N) (by simpa using u),J1,by simp[execOp,L,Instr.makeFunc]⟩
end
variable{t xt:Nat}
section
variable {P:Program} {C:Ctx} {ρ:Ren}
def bU{ti:TI}(E:CtxOk P C)(h:C.ty t=some ti):∃i,P.info? t=some i/\i.size=ti.sz/\P.underlying t=some ti.desc:=by obtain⟨i,A,N,_,M,_⟩:=E.ty t ti h;grind
def GS{o:Oper}{x y:Operand}(E:CtxOk P C)(L:o.op= .indexAddr t x y):eY T P C (bR C t x y) o:=by
 have f:∀c,o.op≠ .defer c:=O4;unfold bR;split
 .exact .bad
 .rename_i ti rS;obtain⟨i,h1,N,M⟩:=bU E rS;split
  .rename_i n el v;rw[v] at M;split
   .rename_i ei z;obtain⟨j,u,r,F⟩:=bU E z;refine .pure f λρ e q a w h R=>?_;obtain⟨k,m,h7,h⟩:=gL (aJ R y) h;obtain⟨h8,h⟩:=aN.1 h;have A:m<n:=bh h8;have d:=aJ R x;rcases V.tv.1 h with⟨b,p,S,h⟩|⟨g,p,S,h⟩
    .rw [S] at d;obtain⟨aF1,hB,H⟩:∃aF1,ρ b=some aF1/\a.eval x= .pointer (some ⟨aF1.b,p,none⟩):=by
      generalize a.eval x=s at *;cases d with|ptr _ _ aF1 hB=>grind
     refine⟨_,.pointer (some ⟨aF1.b,p+m*ei.sz,none⟩),h,.ptr _ _ aF1 hB,J1,?_⟩;have:((m:Int)<(n:Int)):=by exact_mod_cast A
     simp[execOp,L,Instr.indexAt,h7,asIntOf,aU M,H,Instr.sureAddr,df u,r,jA,A]
    .rw [S] at d;have H:a.eval x= .pointer (some ⟨g,p,none⟩):=by
      generalize a.eval x=s at *;cases d;rfl
     refine⟨_,.pointer (some ⟨g,p+m*ei.sz,none⟩),h,.iP _ _,J1,?_⟩;simp[execOp,L,Instr.indexAt,h7,asIntOf,aU M,H,Instr.sureAddr,df u,r,jA,A]
   .exact .bad
  .rename_i el v;rw[v] at M;split
   .rename_i ei z;obtain⟨j,u,r,F⟩:=bU E z;refine .pure f λρ e q a w h R=>?_;obtain⟨k,m,h7,h⟩:=gL (aJ R y) h;obtain⟨b,p,l,c,S,h⟩:=V.Ew.1 h;obtain⟨h8,h⟩:=aN.1 h;have A:m<l:=bh h8;have d:=aJ R x;rw[S] at d;obtain⟨aF1,cap,hB,H⟩:∃aF1 cap,ρ b=some aF1/\a.eval x= .slice (some ⟨aF1.b,p,none⟩) l cap:=by
     generalize a.eval x=s at *;cases d with
     |sl _ _ _ cap _ aF1 hB _ _=>grind
     |sl0=>trivial
    refine⟨_,.pointer (some ⟨aF1.b,p+m*ei.sz,none⟩),h,.ptr _ _ aF1 hB,J1,?_⟩;simp[execOp,L,Instr.indexAt,h7,asIntOf,aU M,H,Instr.sureAddr,df u,r,jA,A]
   .exact .bad
  .exact .bad
def a34{o:Oper}{x y:Operand}(E:CtxOk P C)(L:o.op= .index t x y):eY T P C (lQ C t x y) o:=by
 have f:∀c,o.op≠ .defer c:=O4;unfold lQ;split
 .exact .bad
 .rename_i g rS;obtain⟨i,h1,N,M⟩:=bU E rS;split
  .rename_i n el fW;rw[fW] at M;split
   .rename_i ei z;obtain⟨j,h4,r,h6⟩:=bU E z;refine .pure f λρ e q a w h R=>?_;obtain⟨k,m,h7,h⟩:=gL (aJ R y) h;obtain⟨h8,h⟩:=aN.1 h;have A:m<n:=bh h8;obtain⟨H,xs,_,d,yZ,p,h⟩:=gA (aJ R x) h;rw[←r] at h;obtain⟨V,v,h12,l,S,h15⟩:=pN (w:=w) h4 h6 yZ p h;refine⟨V,v,h12,l,S,?_⟩;have aqK:(part el xs (m*j.size)).run P w= .ok v w:=h15;simp[execOp,L,Instr.index,h7,asIntOf,aU M,d,A,df h4,aqK]
   .exact .bad
  .rename_i fW;rw[fW] at M;refine .pure f λρ e q a w h R=>?_;obtain⟨k,m,h7,h⟩:=gL (aJ R y) h;obtain⟨b,h8,h⟩:=fU (aJ R x) h;obtain⟨u,hu,h⟩:=nJ h;obtain⟨c,F,hcu⟩:∃c,b.data[m]? =some c/\c.toNat=u:=by
    unfold bytesOf at hu;grind
   have s:b[m]? =some c:=by
    have A:m<b.data.size:=by
     rcases dN m b.data.size with h|h
     .exact h
     .grind
    have:m<b.size:=A;rw[getElem?_pos b m this];rw[getElem?_pos b.data m A] at F;exact F
   refine⟨_,.int .u8 (c.toNat:Int),h,by rw[←hcu];exact .ik _ _,J1,?_⟩;simp[execOp,L,Instr.index,h7,asIntOf,aU M,h8,s]
  .exact .bad
def xS{o:Oper}{x:Operand}(E:CtxOk P C)(L:o.op= .makeInterface t x):
  eY T P C (match C.ty t with
  |some ti=>(match ti.desc with | .interface _=>cQ|_=>bZ (λe q=>V.live ((ax x).get e) (λv=>q (.iface t v))))
  |none=>cQ) o:=by
 have f:∀c,o.op≠ .defer c:=O4;split
 .rename_i ti F;obtain⟨i,A,N,M⟩:=bU E F;split
  .exact .bad
  .rename_i b;refine .pure f λρ e q a w h R=>?_;obtain⟨u,r⟩:=V.eP.1 h;refine⟨_,_,r,.iface t _ _ (aJ R x),J1,?_⟩;simp only[execOp,L,Instr.makeInterface,Sem.run_bind,aU M,Result.andThen_ok];simp
 .exact .bad
def DB{o:Oper}{x:Operand}{ok:Bool}(E:CtxOk P C)(L:o.op= .typeAssert x xt t ok):eY T P C (tN C x t ok) o:=by
 have f:∀c,o.op≠ .defer c:=O4;unfold tN;split
 .rename_i g F;obtain⟨i,A,N,_,M,z,H,r,_,_,_,h6⟩:=E.ty t g F;have hz:∀w,(zeroValue t).run P w= .ok z w:=λw=>by
   unfold zeroValue typeInfo program;simp[A,Sem.run,H]
  split
  .exact .bad
  .rename_i hni;split
   .refine .pure f λρ e q a w h R=>?_;have d:=aJ R x;rcases V.na.1 h with⟨u,v,S,h⟩|⟨S,h⟩
    .rw [S] at d;obtain⟨y,p,k⟩:∃y,a.eval x= .iface u y/\aW ρ v y:=by
      generalize a.eval x=s at *;cases d with|iface _ _ y p=>grind
     rcases bK.1 h with⟨m,h⟩|⟨m,h⟩
     .have n:u=t:=br m;refine⟨_,.tuple #[y,.bool true],h,aW.eM (.cons k (.cons (.bool true) .nil)),J1,?_⟩;simp only[execOp,L,Instr.typeAssert,Sem.run_bind,aU M,Result.andThen_ok,p];cases l:g.desc<;>simp_all
     .have n:u≠t:=λb=>by rw[b] at m;simp at m
      refine⟨_,.tuple #[z,.bool false],h,aW.eM (.cons W (.cons (.bool false) .nil)),J1,?_⟩;simp only[execOp,L,Instr.typeAssert,Sem.run_bind,aU M,Result.andThen_ok,p];cases l:g.desc<;>simp_all
    .rw [S] at d;have p:a.eval x= .nilIface:=by
      generalize a.eval x=s at *;cases d;rfl
     refine⟨_,.tuple #[z,.bool false],h,aW.eM (.cons W (.cons (.bool false) .nil)),J1,?_⟩;simp only[execOp,L,Instr.typeAssert,Sem.run_bind,aU M,Result.andThen_ok,p];cases l:g.desc<;>simp_all
   .refine .pure f λρ e q a w h R=>?_;have d:=aJ R x;rcases V.na.1 h with⟨u,v,S,h⟩|⟨S,h⟩
    .rw [S] at d;obtain⟨y,p,k⟩:∃y,a.eval x= .iface u y/\aW ρ v y:=by
      generalize a.eval x=s at *;cases d with|iface _ _ y p=>grind
     obtain⟨m,h⟩:=aN.1 h;have n:u=t:=br m;obtain⟨j,h9⟩:=V.eP.1 h;refine⟨_,y,h9,k,j,?_⟩;simp only[execOp,L,Instr.typeAssert,Sem.run_bind,aU M,Result.andThen_ok,p];cases l:g.desc<;>simp_all
    trivial
 .exact .bad
end
variable{cap d mm:Nat}
section
variable {P:Program} {C:Ctx} {ρ:Ren}
def Ef{k:IntKind}{n:Nat}{c:BoundsCode}{w:World}(h:n<=m):(Instr.sliceBound (.int k n) m c).run P w= .ok n w:=by unfold Instr.sliceBound;simp[asIntOf,h]
def sQ{e:Env}(R:dV ρ e a.tmps){x:Option Operand}{q:bs}(h:(sR d x).run e q=true):
  ∃n,q n=true/\((x=none/\n=d)\/∃y k,x=some y/\a.eval y= .int k (n:Int)):=by
 cases x with
 |none=>exact⟨d,h,W⟩
 |some y=>obtain⟨k,n,A,N⟩:=gL (aJ R y) h;grind
def r9{e:Env}(R:dV ρ e a.tmps){x:Option Operand}{q:bs}(h:(DL x).run d e q=true):
  ∃n,q n=true/\((x=none/\n=d)\/∃y k,x=some y/\a.eval y= .int k (n:Int)):=by
 cases x with
 |none=>exact⟨d,h,W⟩
 |some y=>obtain⟨k,n,A,N⟩:=gL (aJ R y) h;grind
def ku{s:Bool}{len g:Nat}{lo F:Option Operand}{w:World}(hl:(lo=none/\l=0)\/∃y k,lo=some y/\a.eval y= .int k (l:Int))
  (b:(F=none/\g=len)\/∃y k,F=some y/\a.eval y= .int k (g:Int)) (A:l<=g) (N:g<=cap):
  (Instr.sliceBounds s len cap (lo.map a.eval) (F.map a.eval) none).run P w= .ok (l,g,cap) w:=by
 unfold Instr.sliceBounds;rcases hl with⟨rfl,rfl⟩|⟨y,k,rfl,p⟩<;>rcases b with⟨rfl,rfl⟩|⟨z,j,rfl,C⟩<;>simp_all [Ef]
def a51{b o k f:Nat}:(if k=l then(⟨b,o,none⟩:Addr) else(⟨b,o,none⟩:Addr).add (l*f))=⟨b,cT.acI (Nat.beq k l) o (Nat.add o (Nat.mul l f)),none⟩:=by
 unfold cT.acI;by_cases h:k=l
 .subst h;simp
 .have:Nat.beq k l=false:=by
   cases s:Nat.beq k l with
   |false=>rfl
   |true=>exact absurd (br s) h
  rw[aj h,jA,this];rfl
def nA{f b o g k:Nat}{aF1:pE}(a:ρ b=some aF1)(h:cT f b o l g k q=true):
  l<=g/\g<=k/\∃V,q V=true/\V≠ .undef/\aW ρ V (.slice (some (if k=l then(⟨aF1.b,o,none⟩:Addr) else(⟨aF1.b,o,none⟩:Addr).add (l*f))) (g-l) (k-l)):=by
 unfold cT at h;obtain⟨A,h⟩:=aN.1 h;obtain⟨N,h⟩:=aN.1 h;have A:=bh A;have N:=bh N;refine⟨A,N,_,h,J1,?_⟩;rw[a51];exact .sl _ _ _ _ _ aF1 a rfl (Nat.sub_le_sub_right N l)
def MD{f b o g n z:Nat}{aF1:pE}(a:ρ b=some aF1)(hc:Dj (.less d z) aF1 o n cap)(hn:n<=cap)(h:iQ f b o l g n d z q=true):
  l<=g/\g<=cap/\∃V,q V=true/\V≠ .undef/\aW ρ V (.slice (some (if cap=l then(⟨aF1.b,o,none⟩:Addr) else(⟨aF1.b,o,none⟩:Addr).add (l*f))) (g-l) (cap-l)):=by
 unfold iQ at h;obtain⟨s,h⟩:=aN.1 h;have s:=br s;obtain⟨A,h⟩:=aN.1 h;obtain⟨N,h⟩:=aN.1 h;have A:=bh A;have N:=bh N;obtain⟨c1,c2,c3⟩:=hc;refine⟨A,Z,_,h,J1,?_⟩;by_cases r:cap=l
 .rw [ao r,show g-l=0 by omega,show cap-l=0 by omega,show Nat.sub g l=0 from show g-l=0 by omega];by_cases F:l=0
  .subst F;refine .sl0 _ _ (.less (d+0) z) _ aF1 a ⟨?_,?_,c3⟩
   .omega
   grind
  .refine .sl0 _ _ (.less (d+l) z) _ aF1 a ⟨?_,?_,c3⟩
   .omega
   grind
 .rw [aj r,jA];refine .sl _ _ _ _ _ aF1 a ⟨?_,?_,?_⟩ W
  .grind
  .grind
  trivial
def oa{o n:Nat}{c:Cp}{x:Value}(h:aW ρ (.sl i o n c) x):∃aF1 cap,ρ i=some aF1/\Dj c aF1 o n cap/\n<=cap/\(x= .slice (some ⟨aF1.b,o,none⟩) n cap\/(n=0/\cap=0/\∃a,x= .slice (some a) 0 0)):=by
 cases h with
 |sl _ _ _ cap _ aF1 q F g=>grind
 |sl0 _ _ _ a aF1 q F=>grind
def um{f b o g:Nat}{aF1:pE}{ad:Addr}(a:ρ b=some aF1)(h:cT f b o l g 0 q=true):
  l=0/\g=0/\∃V,q V=true/\V≠ .undef/\aW ρ V (.slice (some ad) 0 0):=by
 unfold cT at h;obtain⟨A,h⟩:=aN.1 h;obtain⟨N,h⟩:=aN.1 h;have A:=bh A;have N:=bh N;obtain rfl:g=0:=Z;obtain rfl:l=0:=Z;exact⟨rfl,rfl,_,h,J1,.sl0 _ _ _ _ aF1 a rfl⟩
def Ig{f b o g z:Nat}{aF1:pE}{ad:Addr}(a:ρ b=some aF1)(hc:Dj (.less d z) aF1 o 0 0)(h:iQ f b o l g 0 d z q=true):
  l=0/\g=0/\∃V,q V=true/\V≠ .undef/\aW ρ V (.slice (some ad) 0 0):=by
 unfold iQ at h;obtain⟨s,h⟩:=aN.1 h;obtain⟨A,h⟩:=aN.1 h;obtain⟨N,h⟩:=aN.1 h;have A:=bh A;have N:=bh N;obtain rfl:g=0:=Z;obtain rfl:l=0:=Z;obtain⟨c1,c2,c3⟩:=hc;refine⟨rfl,rfl,_,h,J1,.sl0 _ _ (.less (d+0) z) _ aF1 a ⟨?_,?_,c3⟩⟩
 .trivial
 grind
def sj{s:Bool}{len g:Nat}{lo:Option Operand}{S m:Operand}{w:World}{k j:IntKind}(hl:(lo=none/\l=0)\/∃y k,lo=some y/\a.eval y= .int k (l:Int))
  (b:a.eval S= .int k (g:Int)) (R:a.eval m= .int j (mm:Int)) (A:l<=g) (N:g<=mm) (M:mm<=cap):
  (Instr.sliceBounds s len cap (lo.map a.eval) (some (a.eval S)) (some (a.eval m))).run P w= .ok (l,g,mm) w:=by
 unfold Instr.sliceBounds;rcases hl with⟨rfl,rfl⟩|⟨y,k,rfl,p⟩<;>simp_all [Ef]
def ok_slice{o:Oper}{x:Operand}{lo hi mx:Option Operand}(E:CtxOk P C)(L:o.op= .slice t x lo hi mx):eY T P C (gq C t x lo hi mx) o:=by
 have f:∀c,o.op≠ .defer c:=O4;unfold gq;split
 .exact .bad
 .rename_i ti rS;obtain⟨i,h1,N,M⟩:=bU E rS;split
  .rename_i m;split
   .rename_i el S fW;rw[fW] at M;split
    .rename_i ei rf;obtain⟨j,u,r,h6⟩:=bU E rf;refine .pure f λρ e q a w h R=>?_;obtain⟨l,h,hl⟩:=sQ R h;obtain⟨kh,g,IM,h⟩:=gL (aJ R S) h;obtain⟨km,mm,hmv,h⟩:=gL (aJ R m) h;have hr:=aJ R x;have key:∀(b p n:Nat) (c:Cp) (aF1:pE) (cap:Nat),a.eval x= .slice (some ⟨aF1.b,p,none⟩) n cap->ρ b=some aF1->mm<=cap->cT ei.sz b p l g mm q=true->
       ∃V v,q V=true/\aW ρ V v/\V≠ .undef/\(execOp a.eval o).run P w= .ok (.value v) w:=by
      intro b p n c aF1 cap H hB hmc HE;obtain⟨y,h8,V,h9,yZ,Ar⟩:=nA hB HE;refine⟨V,_,h9,Ar,yZ,?_⟩;simp only[execOp,L,Instr.sliceAt,Sem.run_bind,aU M,Result.andThen_ok,Instr.slice,H,mI,sj hl IM hmv y h8 hmc,df u,r];simp;split<;>rfl
     rcases V.dZ.1 h with⟨b,p,n,c,EU,h⟩|⟨EU,h⟩|⟨EU,h⟩
     .rw [EU] at hr;obtain⟨aF1,cap,hB,F,hn,H|⟨rfl,rfl,ad,H⟩⟩:=oa hr
      case inr=>
       obtain⟨y,h⟩:=aN.1 h;have A:cT ei.sz b p l g mm q=true->mm=0->∃V v,q V=true/\aW ρ V v/\V≠ .undef/\(execOp a.eval o).run P w= .ok (.value v) w:=by intro HE hm0;subst hm0;obtain⟨rfl,rfl,V,h9,yZ,Ar⟩:=um (ad:=ad) hB HE;refine⟨V,_,h9,Ar,yZ,?_⟩;simp only[execOp,L,Instr.sliceAt,Sem.run_bind,aU M,Result.andThen_ok,Instr.slice,H,mI,sj hl IM hmv G G G,df u,r];simp
       rcases lL.1 h with⟨k,rfl,h⟩|⟨d,z,rfl,h⟩
       .obtain ⟨h8,h⟩:=aN.1 h;have h8:=bh h8;have YN:0=k:=F;grind
       .obtain ⟨h8,h⟩:=aN.1 h;have h8:=bh h8;exact A h Z
      obtain⟨y,h⟩:=aN.1 h;rcases lL.1 h with⟨k,rfl,h⟩|⟨d,z,rfl,h⟩
      .obtain ⟨h8,h⟩:=aN.1 h;have h8:=bh h8;have YN:cap=k:=F;exact key b p n (.known k) aF1 cap H hB Z h
      .obtain ⟨h8,h⟩:=aN.1 h;have h8:=bh h8;exact key b p n (.less d z) aF1 cap H hB Z h
     .rw [EU] at hr;have H:a.eval x= .slice none 0 0:=by
       generalize a.eval x=vx at *;cases hr;rfl
      obtain⟨y,h⟩:=aN.1 h;obtain⟨h8,h⟩:=aN.1 h;obtain⟨h9,h⟩:=aN.1 h;have y:=br y;have h8:=br h8;have h9:=br h9;subst y h8 h9;refine⟨_,.slice none 0 0,h,W,J1,?_⟩;simp only[execOp,L,Instr.sliceAt,Sem.run_bind,aU M,Result.andThen_ok,Instr.slice,H,mI,sj hl IM hmv G G (bP 0),df u,r];simp
     trivial
    .exact .bad
   .exact .bad
  .split
   .rename_i fW;rw[fW] at M;refine .pure f λρ e q a w h R=>?_;obtain⟨s,hs,h⟩:=fU (aJ R x) h;obtain⟨l,h,hl⟩:=sQ R h;obtain⟨g,h,IM⟩:=r9 R h;obtain⟨y,h⟩:=qJ h;obtain⟨h8,h⟩:=vq h;rw[dx,jz] at IM;rw[jz] at y;have h9:l<=g:=by
     rw[uF,jz] at h8;omega
    have e1:((bytesOf s).take g).drop l=bytesOf (s.extract l g):=by unfold bytesOf;rw[ByteArray.data_extract,NT,Oi,←FG,←List.map_drop];congr 1;rw[List.drop_take]
    rw[e1] at h;refine⟨_,.string (s.extract l g),h,.str _,J1,?_⟩;simp only[execOp,L,Instr.sliceAt,Sem.run_bind,aU M,Result.andThen_ok,Instr.slice,hs,uw,Option.isSome_none,qE,if_false,ku hl IM h9 y,Sem.run_pure]
   .rename_i el fW;rw[fW] at M;split
    .rename_i ei rf;obtain⟨j,u,r,h6⟩:=bU E rf;refine .pure f λρ e q a w h R=>?_;obtain⟨l,h,hl⟩:=sQ R h;have hr:=aJ R x;rcases V.dZ.1 h with⟨b,p,n,c,EU,h⟩|⟨EU,h⟩|⟨EU,h⟩
     .rw [EU] at hr;obtain⟨aF1,cap,hB,F,hn,H|⟨rfl,rfl,ad,H⟩⟩:=oa hr
      case inr=>
       obtain⟨g,h,IM⟩:=r9 R h;have A:l=0/\g=0/\(∃V,q V=true/\V≠ .undef/\aW ρ V (.slice (some ad) 0 0))->∃V v,q V=true/\aW ρ V v/\V≠ .undef/\(execOp a.eval o).run P w= .ok (.value v) w:=by rintro⟨rfl,rfl,V,h9,yZ,Ar⟩;refine⟨V,_,h9,Ar,yZ,?_⟩;simp only[execOp,L,Instr.sliceAt,Sem.run_bind,aU M,Result.andThen_ok,Instr.slice,H,uw,ku hl IM G G,df u,r];simp
       rcases lL.1 h with⟨k,rfl,h⟩|⟨d,z,rfl,h⟩
       .have YN:0=k:=F;subst YN;exact A (um hB h)
       .exact A (Ig hB F h)
      obtain⟨g,h,IM⟩:=r9 R h;have A:∀V,l<=g->g<=cap->q V=true->V≠ .undef->aW ρ V (.slice (some (if cap=l then(⟨aF1.b,p,none⟩:Addr) else(⟨aF1.b,p,none⟩:Addr).add (l*ei.sz))) (g-l) (cap-l))->
        ∃V v,q V=true/\aW ρ V v/\V≠ .undef/\(execOp a.eval o).run P w= .ok (.value v) w:=by
       intro V y h8 h9 yZ Ar;refine⟨V,_,h9,Ar,yZ,?_⟩;simp only[execOp,L,Instr.sliceAt,Sem.run_bind,aU M,Result.andThen_ok,Instr.slice,H,uw,ku hl IM y h8,df u,r];simp;split<;>rfl
      rcases lL.1 h with⟨k,rfl,h⟩|⟨d,z,rfl,h⟩
      .have YN:cap=k:=F;subst YN;obtain⟨y,h8,V,h9,yZ,Ar⟩:=nA hB h;grind
      .obtain ⟨y,h8,V,h9,yZ,Ar⟩:=MD hB F hn h;exact A V y h8 h9 yZ Ar
     .rw [EU] at hr;have H:a.eval x= .slice none 0 0:=by
       generalize a.eval x=vx at *;cases hr;rfl
      obtain⟨g,h,IM⟩:=r9 R h;obtain⟨h8,h⟩:=aN.1 h;obtain⟨h9,h⟩:=aN.1 h;have h8:=br h8;have h9:=br h9;subst h8 h9;refine⟨_,.slice none 0 0,h,W,J1,?_⟩;simp only[execOp,L,Instr.sliceAt,Sem.run_bind,aU M,Result.andThen_ok,Instr.slice,H,uw,ku hl IM G (bP 0),df u,r];simp
     .rw [EU] at hr;obtain⟨ad,cap,H⟩:∃ad cap,a.eval x= .slice (some ad) 0 cap:=by
       generalize a.eval x=vx at *;cases hr with|z8 ad cap=>grind
      obtain⟨g,h,IM⟩:=r9 R h;obtain⟨h8,h⟩:=aN.1 h;obtain⟨h9,h⟩:=aN.1 h;have h8:=br h8;have h9:=br h9;subst h8 h9;refine⟨_,.slice (some (if cap=0 then ad else ad.add (0*ei.sz))) (0-0) (cap-0),h,.z8 _ _,J1,?_⟩;simp only[execOp,L,Instr.sliceAt,Sem.run_bind,aU M,Result.andThen_ok,Instr.slice,H,uw,ku hl IM G (kU cap),df u,r];simp;split<;>rfl
    .exact .bad
   .rename_i n el fW;rw[fW] at M;split
    .rename_i ei rf;obtain⟨j,u,r,h6⟩:=bU E rf;refine .pure f λρ e q a w h R=>?_;obtain⟨b,p,aF1,hB,H,h⟩:=fv (aJ R x) h;obtain⟨l,h,hl⟩:=sQ R h;obtain⟨g,h,IM⟩:=r9 R h;obtain⟨y,h8,V,h9,yZ,Ar⟩:=nA hB h;refine⟨V,_,h9,Ar,yZ,?_⟩;simp only[execOp,L,Instr.sliceAt,Sem.run_bind,aU M,Result.andThen_ok,H,uw,Instr.sureAddr,Sem.run_pure,ku hl IM y h8,df u,r]
    .exact .bad
   .rename_i pt fW;rw[fW] at M;split
    .rename_i ai hai;obtain⟨_,h4a,h5a,h6a⟩:=bU E hai;split
     .rename_i n el acZ;rw[acZ] at h6a;split
      .rename_i ei rf;obtain⟨j,u,r,h6⟩:=bU E rf;refine .pure f λρ e q a w h R=>?_;obtain⟨b,p,aF1,hB,H,h⟩:=fv (aJ R x) h;obtain⟨l,h,hl⟩:=sQ R h;obtain⟨g,h,IM⟩:=r9 R h;obtain⟨y,h8,V,h9,yZ,Ar⟩:=nA hB h;refine⟨V,_,h9,Ar,yZ,?_⟩;simp only[execOp,L,Instr.sliceAt,Sem.run_bind,aU M,Result.andThen_ok,Instr.slice,H,uw,asAddr,Sem.run_pure,aU h6a,ku hl IM y h8,df u,r]
      .exact .bad
     .exact .bad
    .exact .bad
   .exact .bad
end
end Go.Ev
