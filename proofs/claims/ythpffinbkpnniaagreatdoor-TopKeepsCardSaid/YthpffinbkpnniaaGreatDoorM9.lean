import Derived.Test.YthpffinbkpnniaaGreatDoorM8
set_option linter.all false
set_option maxRecDepth 100000
namespace Go.Ev.Sy
open Go Go.Ev Go.Proofs
noncomputable section
variable{h h':Heap}{i i' jE off t te:Nat}{N:V}{is:aI}{xs zs:ay}
def Ft{f:Nat}{fn:Func}(h:Tryz.prog.funcs[f]? =some fn):K.fn f=some {nt:=fn.ntmps,res:=fn.results.toList,body:=fn.body,ext:=rN f}:=by show((wq rN Tryz.prog.funcs.toList 0)[f]?).join=_;rw[pP,jq,h,dz];rfl
def iM(f:Nat):CK:=⟨λz args h k=>z.call f args h k⟩
@[go_sem ↓]def a2D(f:Nat)(R args h k):(iM f).run R args h k=R.call f args h k:=G
@[congr] theorem aC1{o u:CK}(R xs h k)(L:o=u):o.run R xs h k=u.run R xs h k:=by rw[L]
def a9k{f:Nat}{fn:Func}(h:Tryz.prog.funcs[f]? =some fn)(b:rN f=none)(s:fn.body.isSome=true):eW K f=iM f:=by obtain⟨c,F⟩:=uH.1 s;unfold eW;rw[Ft h];simp only[b,F];rfl
def sL{f:Nat}{fn:Func}(h:Tryz.prog.funcs[f]? =some fn)(b:rN f=none)(s:fn.body.isSome=true):sO K f=iM f:=by obtain⟨c,F⟩:=uH.1 s;unfold sO;rw[Ft h];simp only[b,F];rfl
noncomputable def a5y (f:Nat) (c:Code) (res:List ResultVar) (R:Rt) (e:Env) (h:Heap) (k:cR):Bool:=
 (cc K f c).run R 0 [] e h (λds e h=>fO K R ds h (λh=>(mX K res).run e h (λvs=>xQ vs (λv=>k v h))))
  (λx ds e h=>X.yL x (fO K R ds h (λh=>(mX K res).run e h (λvs=>xQ vs (λv=>k v h)))))
noncomputable def ajr (res:List ResultVar) (R:Rt) (k:cR):cF:=λds e h=>fO K R ds h (λh=>(mX K res).run e h (λvs=>xQ vs (λv=>k v h)))
noncomputable def agK (res:List ResultVar) (R:Rt) (k:cR):X->cF:=λx ds e h=>X.yL x (fO K R ds h (λh=>(mX K res).run e h (λvs=>xQ vs (λv=>k v h))))
noncomputable def QG:ay->Nat->Env->Env
 |[],_,e=>e
 |v::r,i,e=>QG r (i+1) (se i v e)
@[go_sem ↓]def ahy(i:Nat)(e):QG [] i e=e:=G
@[go_sem ↓]def af8(v r)(i:Nat)(e):QG (v::r) i e=QG r (i+1) (se i v e):=G
def Hq(g:Nat->Env->Bool):∀(args:ay) (i:Nat) (e:Env),i+args.length<=256->cE (λ(_:Nat) e=>g 0 e) (λv _ r i e=>(ep i).put v e (λe=>gy (Nat.add i 1) (λi=>r i e))) args i e=g 0 (QG args i e)
 |[],i,e,h=>rfl
 |v::r,i,e,h=>by have h:i+(r.length+1)<=256:=h;show(ep i).put v e (λe=>cE (λ(_:Nat) e=>g 0 e) _ r (i+1) e)=_;rw[HW Z];exact Hq g r (i+1) _ Z
def Iu(fn:Func):Code:=match fn.body with|some c=>c|none=>.skip
def a8O(fn:Func)(n:Nat):Bool:=aR fn.body.isSome (aR (Nat.ble fn.ntmps 256) (Nat.ble n fn.ntmps) false) false
def arH{f:Nat}{fn:Func}(hf:Tryz.prog.funcs[f]? =some fn)(R:Rt)(args h k)(L:a8O fn args.length=true):
  R.Y.call f args h k=a5y f (Iu fn) fn.results.toList R (QG args 0 DN) h k:=by
 unfold a8O at L;cases s:fn.body.isSome with
 |false=>rw[s] at L;trivial
 |true=>
 rw[s] at L;change aR (Nat.ble fn.ntmps 256) (Nat.ble args.length fn.ntmps) false=true at L;cases b:Nat.ble fn.ntmps 256 with
 |false=>rw[b] at L;trivial
 |true=>
 rw[b] at L;have g:args.length<=fn.ntmps:=bh L;have b:fn.ntmps<=256:=bh b;obtain⟨c,F⟩:=uH.1 s;show(fnK K f).run R args h k=_;unfold fnK Iu;rw[Ft hf];simp only[F];show aR (Nat.ble (eK args) fn.ntmps) _ false=_;rw[dx,cw g];exact Hq (λ_ e=>a5y f c fn.results.toList R e h k) args 0 DN Z
def cUx{f:Nat}{F:Func}{R:Rt}{A:List V}{h:Heap}{k:V->Heap->Bool}{T:Bool}(p:Tryz.prog.funcs[f]? =some F)(x:a5y f (Iu F) F.results.toList R (QG A 0 DN) h k=T)(o:a8O F A.length=true:=by exact rfl):R.Y.call f A h k=T:=(arH p R A h k o).trans x
@[congr] theorem arG{R:Rt}{f:Nat}{E:ay}(k:cR)(S:xs=E)(g:h=h'):R.call f xs h k=R.call f E h' k:=W
@[go_sem]def amy(f:Nat)(c:Code)(a:List ResultVar)(R e h k):a5y f c a R e h k=
 (cc K f c).run R 0 [] e h (ajr a R k) (agK a R k):=G
@[go_sem ↓]def ard(a:List ResultVar)(R k)(ds:List D)(e h):ajr a R k ds e h=fO K R ds h (λh=>(mX K a).run e h (λs=>xQ s (λv=>k v h))):=G
@[go_sem ↓]def anG(a:List ResultVar)(R k)(ds:List D)(e h):agK a R k .ret ds e h=fO K R ds h (λh=>(mX K a).run e h (λs=>xQ s (λv=>k v h))):=G
@[go_sem ↓]def adJ(R h k):fO K R [] h k=k h:=G
@[go_sem ↓]def akP(e h)(k:ay->Bool):(mX K []).run e h k=k []:=G
@[go_sem ↓]def akO(t:Nat)(r:List ResultVar)(e h)(k:ay->Bool):(mX K (.tmp t::r)).run e h k=V.live ((eg t).get e) (λv=>(mX K r).run e h (λs=>k (v::s))):=G
noncomputable def Rz:Rt:=⟨λ_ _ _ _=>false,λ_ _ _ _=>false,λ_ _ _ _ _ _ _ _=>false⟩
@[go_sem ↓]def agM(a t:Nat)(r:List ResultVar)(e h)(k:ay->Bool):(mX K (.cell a t::r)).run e h k=(bE K t (.tmp a)).run Rz e h (λv _=>(mX K r).run e h (λs=>k (v::s))):=G
@[go_sem ↓]def aha(k:aY):xQ [] k=k cA:=G
@[go_sem ↓]def ah9(v)(k:aY):xQ [v] k=k v:=G
@[go_sem ↓]def ah8(v w l)(k:aY):xQ (v::w::l) k=k (.cI (v::w::l)):=G
section
variable (C:Ctx) (nt:Nat) (d:Option Nat) (r:iR) (R:Rt) (ds:List D) (e:Env) (h:Heap) (k:cF)
noncomputable def ops (C:Ctx) (nt:Nat) (d:Option Nat) (op:Op) (r:iR) (R:Rt) (ds:List D) (e:Env) (h:Heap) (k:cF):Bool:=(qm C op).run R e h (λv h=>pt nt d v e (λe=>r.run R ds e h k))
@[go_sem ↓]def agf(x:Operand):ql C nt d (.move x) r R ds e h k=V.live ((ax x).get e) (λv=>pt nt d v e (λe=>r.run R ds e h k)):=G
@[go_sem ↓]def abo(x:Operand):ql C nt d (.assign x) r R ds e h k=V.live ((ax x).get e) (λv=>pt nt d v e (λe=>r.run R ds e h k)):=G
@[go_sem ↓]def age(c a b:Operand):ql C nt d (.pick c a b) r R ds e h k=V.ja ((ax c).get e) (λt=>aR t (V.live ((ax a).get e) (λv=>pt nt d v e (λe=>r.run R ds e h k))) (V.live ((ax b).get e) (λv=>pt nt d v e (λe=>r.run R ds e h k)))):=G
@[go_sem ↓]def akL(o:BinOp)(t u:Nat)(x y:Operand):ql C nt d (.binOp o t x y u) r R ds e h k=(da C o t x y).run R e h (λv h=>pt nt d v e (λe=>r.run R ds e h k)):=G
@[go_sem ↓]def agh(t:Nat)(a:Operand):ql C nt d (.load t a) r R ds e h k=(bE C t a).run R e h (λv h=>pt nt d v e (λe=>r.run R ds e h k)):=G
@[go_sem ↓]def aeu(t:Nat)(a x:Operand):ql C nt d (.store t a x) r R ds e h k=(cZ C t a x).run R e h (λv h=>pt nt d v e (λe=>r.run R ds e h k)):=G
@[go_sem ↓]def a65(s:Nat)(x:Operand)(f:Nat):ql C nt d (.fieldAddr s x f) r R ds e h k=(ak C s x f).run R e h (λv h=>pt nt d v e (λe=>r.run R ds e h k)):=G
@[go_sem ↓]def a6U(x:Operand):ql C nt d (.nilCheck x) r R ds e h k=V.oq ((ax x).get e) (λv=>pt nt d v e (λe=>r.run R ds e h k)):=G
@[go_sem ↓]def a62(t:Nat)(x i:Operand):ql C nt d (.indexAddr t x i) r R ds e h k=(bR C t x i).run R e h (λv h=>pt nt d v e (λe=>r.run R ds e h k)):=G
@[go_sem ↓]def agj(f:Nat)(zs:Array Operand)(F:Array Nat):ql C nt d (.call ⟨.value (.func f),zs,F⟩) r R ds e h k=(ir zs.toList).run e (λargs=>(eW C f).run R args h (λv h=>pt nt d v e (λe=>r.run R ds e h k))):=G
@[go_sem ↓]def aez(t:Nat)(zs:Array Operand)(F:Array Nat):ql C nt d (.call ⟨.value (.tmp t),zs,F⟩) r R ds e h k=(ir zs.toList).run e (λargs=>V.live ((eg t).get e) (λg=>sN C R g args h (λv h=>pt nt d v e (λe=>r.run R ds e h k)))):=G
@[go_sem ↓]def a9O(b:Builtin)(zs:Array Operand)(F:Array Nat):ql C nt d (.call ⟨.builtin b,zs,F⟩) r R ds e h k=(aV C b F.toList zs.toList).run R e h (λv h=>pt nt d v e (λe=>r.run R ds e h k)):=G
@[go_sem ↓]def aeA(t:Nat)(ps:Array (Nat×Operand)):ql C nt d (.build t ps) r R ds e h k=(bJ C t ps.toList).run R e h (λv h=>pt nt d v e (λe=>r.run R ds e h k)):=G
@[go_sem ↓]def aeB(t:Nat):ql C nt d (.alloc t) r R ds e h k=(dK C t).run R e h (λv h=>pt nt d v e (λe=>r.run R ds e h k)):=G
@[go_sem ↓]def akK(t:Nat)(x:Operand):ql C nt d (.box t x) r R ds e h k=(fl C t x).run R e h (λv h=>pt nt d v e (λe=>r.run R ds e h k)):=G
@[go_sem ↓]def a1I(t n:Nat)(ps:Array (Nat×Operand)):ql C nt d (.buildSlice t n ps) r R ds e h k=(cX C t n ps.toList).run R e h (λv h=>pt nt d v e (λe=>r.run R ds e h k)):=G
@[go_sem ↓]def a9N(t:Operand)(i:Nat):ql C nt d (.extract t i) r R ds e h k=V.kD ((ax t).get e) (λs=>jZ s i (λv=>V.live v (λv=>pt nt d v e (λe=>r.run R ds e h k)))):=G
@[go_sem ↓]def aex(t:Nat)(x:Operand)(f:Nat):ql C nt d (.field t x f) r R ds e h k=(lS C t x f).run R e h (λv h=>pt nt d v e (λe=>r.run R ds e h k)):=G
@[go_sem ↓]def aew(t:Nat)(x i:Operand):ql C nt d (.index t x i) r R ds e h k=(lQ C t x i).run R e h (λv h=>pt nt d v e (λe=>r.run R ds e h k)):=G
@[go_sem ↓]def akJ(t:Nat)(x:Operand):ql C nt d (.unOp .not t x) r R ds e h k=V.ja ((ax x).get e) (λb=>lp (jw b) (λv=>pt nt d v e (λe=>r.run R ds e h k))):=G
@[go_sem ↓]def agi(s t:Nat)(x:Operand):ql C nt d (.convert s t x) r R ds e h k=(oF C s t x).run R e h (λv h=>pt nt d v e (λe=>r.run R ds e h k)):=G
@[go_sem ↓]def a6X(f:Nat)(a c:Array Operand):ql C nt d (.makeFunc (.func f) a c) r R ds e h k=(ir a.toList).run e (λa=>(ir c.toList).run e (λb=>pt nt d (.fn f a b) e (λe=>r.run R ds e h k))):=G
@[go_sem ↓]def a9M(t:Nat):ql C nt d (.makeMap t none) r R ds e h k=fH (.map [] 0) h (λi h=>pt nt d (.map i) e (λe=>r.run R ds e h k)):=G
@[go_sem ↓]def a6W(t:Nat)(x:Operand):ql C nt d (.makeMap t (some x)) r R ds e h k=(qm C (.makeMap t (some x))).run R e h (λv h=>pt nt d v e (λe=>r.run R ds e h k)):=G
@[go_sem ↓]def a61(t:Nat)(l c:Operand):ql C nt d (.makeSlice t l c) r R ds e h k=(dw C t l c).run R e h (λv h=>pt nt d v e (λe=>r.run R ds e h k)):=G
@[go_sem ↓]def aev(t:Nat)(x:Operand)(lo F mx:Option Operand):ql C nt d (.slice t x lo F mx) r R ds e h k=(gq C t x lo F mx).run R e h (λv h=>pt nt d v e (λe=>r.run R ds e h k)):=G
@[go_sem ↓]def abm(t:Nat)(x i:Operand)(ok:Bool):ql C nt d (.lookup t x i ok) r R ds e h k=(gx C t x i ok).run R e h (λv h=>pt nt d v e (λe=>r.run R ds e h k)):=G
@[go_sem ↓]def a60(t:Nat)(m q x:Operand):ql C nt d (.mapUpdate t m q x) r R ds e h k=(gH C t m q x).run R e h (λv h=>pt nt d v e (λe=>r.run R ds e h k)):=G
@[go_sem ↓]def abn(t:Nat)(m q x:Operand):ql C nt d (.insert t m q x) r R ds e h k=(gH C t m q x).run R e h (λv h=>pt nt d v e (λe=>r.run R ds e h k)):=G
@[go_sem ↓]def a6V(t:Nat)(m q:Operand):ql C nt d (.mapEntry t m q) r R ds e h k=(vj C t m q).run R e h (λv h=>pt nt d v e (λe=>r.run R ds e h k)):=G
@[go_sem ↓]def a1H(t:Nat)(m s x:Operand):ql C nt d (.entryStore t m s x) r R ds e h k=(mA m s x).run R e h (λv h=>pt nt d v e (λe=>r.run R ds e h k)):=G
end
section
variable (R:Rt) (e:Env) (h:Heap) (k:cR)
@[go_sem ↓]def ah6(t:Nat)(a:Operand):(qm K (.load t a)).run R e h k=(bE K t a).run R e h k:=G
@[go_sem ↓]def abO(t:Nat)(x i:Operand)(ok:Bool):(qm K (.lookup t x i ok)).run R e h k=(gx K t x i ok).run R e h k:=G
@[go_sem ↓]def ajZ(q:ay->Bool):(ir []).run e q=q []:=G
@[go_sem ↓]def afQ(x:Operand)(l:List Operand)(q:ay->Bool):(ir (x::l)).run e q=V.live ((ax x).get e) (λv=>(ir l).run e (λs=>q (v::s))):=G
def ly(t:Nat)(g:TI->Bool):Bool:=match K.ty t with|some T=>g T|none=>false
def cz{g:TI->Bool}(h:ly t g=true):∃T,K.ty t=some T/\g T=true:=by unfold ly at h;grind
end
@[congr] theorem at9{o u:fy}(R e h k)(L:o=u):o.run R e h k=u.run R e h k:=by rw[L]
noncomputable def ldS (v:V) (h:Heap) (k:aY):Bool:=V.sw v (λi o=>jT i o h k) (λg o=>jv (K.gl g) false (λcs=>jZ cs o k))
noncomputable def kJ (a:Operand):fy:=⟨λ_ e h k=>ldS ((ax a).get e) h (λv=>k v h)⟩
noncomputable def BZ (n:Nat) (a:Operand):fy:=⟨λ_ e h k=>V.dW ((ax a).get e) (λi o=>fh i o n h (λl=>k (.agg l) h))⟩
noncomputable def Nt (a x:Operand):fy:=⟨λ_ e h k=>V.dW ((ax a).get e) (λi o=>V.one ((ax x).get e) (λv=>mM i o v h (λh=>k cA h)))⟩
noncomputable def zQ (n:Nat) (a x:Operand):fy:=⟨λ_ e h k=>V.dW ((ax a).get e) (λi o=>V.dY ((ax x).get e) (λcs=>aR (Nat.beq (eK cs) n) (eI i o cs h (λh=>k cA h)) false))⟩
noncomputable def dy (off:Nat) (x:Operand):fy:=⟨λ_ e h k=>V.dW ((ax x).get e) (λi o=>k (.ptr i (o+off)) h)⟩
noncomputable def flo (off:Nat) (x:Operand):fy:=⟨λ_ e h k=>V.dY ((ax x).get e) (λcs=>jZ cs off (λv=>k v h))⟩
noncomputable def flA (off n:Nat) (x:Operand):fy:=⟨λ_ e h k=>V.dY ((ax x).get e) (λcs=>eR off cs (λl=>iE n l (λp=>k (.agg p) h)))⟩
noncomputable def Hw (z:Nat) (x i:Operand):fy:=⟨λ_ e h k=>V.dD ((ax i).get e) (λj=>V.BE ((ax x).get e) (λb o l _=>aR (Nat.blt j l) (k (.ptr b (o+j*z)) h) false))⟩
noncomputable def iaA (n z:Nat) (x i:Operand):fy:=⟨λ_ e h k=>V.dD ((ax i).get e) (λj=>aR (Nat.blt j n) (V.sw ((ax x).get e) (λb o=>k (.ptr b (o+j*z)) h) (λg o=>k (.iP g (o+j*z)) h)) false)⟩
noncomputable def ixo (n z:Nat) (x i:Operand):fy:=⟨λ_ e h k=>V.dD ((ax i).get e) (λj=>aR (Nat.blt j n) (V.dY ((ax x).get e) (λcs=>jZ cs (j*z) (λv=>k v h))) false)⟩
noncomputable def ixA (n z:Nat) (x i:Operand):fy:=⟨λ_ e h k=>V.dD ((ax i).get e) (λj=>aR (Nat.blt j n) (V.dY ((ax x).get e) (λcs=>eR (j*z) cs (λl=>iE z l (λp=>k (.agg p) h)))) false)⟩
noncomputable def eqo (x y:Operand):fy:=⟨λ_ e h k=>Mv ((ax x).get e) ((ax y).get e) (λb=>lp b (λv=>k v h))⟩
noncomputable def neo (x y:Operand):fy:=⟨λ_ e h k=>Mv ((ax x).get e) ((ax y).get e) (λb=>lp (jw b) (λv=>k v h))⟩
noncomputable def adw (x y:Operand):fy:=⟨λ_ e h k=>eqB ((ax x).get e) ((ax y).get e) (λb=>lp b (λv=>k v h))⟩
noncomputable def Dk (nil:V->(Bool->Bool)->Bool) (x:Operand):fy:=⟨λ_ e h k=>nil ((ax x).get e) (λb=>lp b (λv=>k v h))⟩
noncomputable def we (nil:V->(Bool->Bool)->Bool) (x:Operand):fy:=⟨λ_ e h k=>nil ((ax x).get e) (λb=>lp (jw b) (λv=>k v h))⟩
noncomputable def jD (v:V) (q:aY):Bool:=V.cK v (λ_ _ n _=>aR (Nat.ble n cO) (q (Q (n:Int))) false) (q (Q 0)) (q (Q 0))
@[congr] theorem atP{v:V}(q:aY)(h:v=N):jD v q=jD N q:=U8
@[go_sem ↓]def PN(i o n:Nat)(c:Cp)(q:aY):jD (.sl i o n c) q=Bz (n<=9223372036854775807) (q (Q (n:Int))) false:=by unfold jD;show aR (Nat.ble n cO) _ _=_;rw[KK];rfl
@[go_sem ↓]def ahs(q:aY):jD .au q=q (Q 0):=G
noncomputable def tU (x:Operand):fy:=⟨λ_ e h k=>V.cK ((ax x).get e) (λ_ _ n _=>aR (Nat.ble n cO) (k (Q (n:Int)) h) false) (k (Q 0) h) (k (Q 0) h)⟩
noncomputable def a3I (x:Operand):fy:=⟨λ_ e h k=>V.cH ((ax x).get e) (λi=>O.cH (bL i h) (λes _=>aR (Nat.ble (eK es) cO) (k (Q ((eK es:Nat):Int)) h) false)) (k (Q 0) h)⟩
noncomputable def vL (t n:Nat) (zs:ay):fy:=⟨λ_ e h k=>dh h zs n (λc=>fH (.row t n 0 true zs c) h (λi h=>k (.ptr i 0) h))⟩
noncomputable def mq (t n:Nat) (zs:ay) (x:Operand):fy:=⟨λ_ e h k=>V.cells ((ax x).get e) (λcs=>aR (Nat.beq (eK cs) n) (dh h [] n (λc=>lq cs 0 c (λc=>fH (.row t n 0 true zs c) h (λi h=>k (.ptr i 0) h)))) false)⟩
noncomputable def XN (te z jE:Nat) (zs:ay) (l c:Operand):fy:=⟨λ_ e h k=>V.dD ((ax l).get e) (λn=>V.dD ((ax c).get e) (λm=>aR (Nat.ble n m) (aR (Nat.ble m 4294967296) (aR (Nat.ble (jE*m) 281474976710656)
     (dh h zs (m*z) (λc=>fH (.row te (m*z) 0 true zs c) h (λi h=>k (.sl i 0 n (.known m)) h))) false) false) false))⟩
section
variable (R:Rt) (e:Env) (h:Heap) (k:cR) (n z off:Nat) (a x y i:Operand)
@[go_sem ↓]def atX(v h)(k:aY):ldS v h k=V.sw v (λi o=>jT i o h k) (λg o=>jv (K.gl g) false (λcs=>jZ cs o k)):=G
@[go_sem ↓]def atW:(kJ a).run R e h k=ldS ((ax a).get e) h (λv=>k v h):=G
@[go_sem ↓]def au0:(BZ n a).run R e h k=V.dW ((ax a).get e) (λi o=>fh i o n h (λl=>k (.agg l) h)):=G
@[go_sem ↓]def ast:(Nt a x).run R e h k=V.dW ((ax a).get e) (λi o=>V.one ((ax x).get e) (λv=>mM i o v h (λh=>k cA h))):=G
@[go_sem ↓]def asv:(zQ n a x).run R e h k=V.dW ((ax a).get e) (λi o=>V.dY ((ax x).get e) (λcs=>aR (Nat.beq (eK cs) n) (eI i o cs h (λh=>k cA h)) false)):=G
@[go_sem ↓]def avE:(dy off x).run R e h k=V.dW ((ax x).get e) (λi o=>k (.ptr i (o+off)) h):=G
@[go_sem ↓]def avC:(flo off x).run R e h k=V.dY ((ax x).get e) (λcs=>jZ cs off (λv=>k v h)):=G
@[go_sem ↓]def avD:(flA off n x).run R e h k=V.dY ((ax x).get e) (λcs=>eR off cs (λl=>iE n l (λp=>k (.agg p) h))):=G
@[go_sem ↓]def au6:(Hw z x i).run R e h k=V.dD ((ax i).get e) (λj=>V.BE ((ax x).get e) (λb o l _=>aR (Nat.blt j l) (k (.ptr b (o+j*z)) h) false)):=G
@[go_sem ↓]def au7:(iaA n z x i).run R e h k=V.dD ((ax i).get e) (λj=>aR (Nat.blt j n) (V.sw ((ax x).get e) (λb o=>k (.ptr b (o+j*z)) h) (λg o=>k (.iP g (o+j*z)) h)) false):=G
@[go_sem ↓]def au3:(ixo n z x i).run R e h k=V.dD ((ax i).get e) (λj=>aR (Nat.blt j n) (V.dY ((ax x).get e) (λcs=>jZ cs (j*z) (λv=>k v h))) false):=G
@[go_sem ↓]def au4:(ixA n z x i).run R e h k=V.dD ((ax i).get e) (λj=>aR (Nat.blt j n) (V.dY ((ax x).get e) (λcs=>eR (j*z) cs (λl=>iE z l (λp=>k (.agg p) h)))) false):=G
@[go_sem ↓]def avG:(eqo x y).run R e h k=Mv ((ax x).get e) ((ax y).get e) (λb=>lp b (λv=>k v h)):=G
@[go_sem ↓]def ati:(neo x y).run R e h k=Mv ((ax x).get e) ((ax y).get e) (λb=>lp (jw b) (λv=>k v h)):=G
@[go_sem ↓]def ara:(adw x y).run R e h k=eqB ((ax x).get e) ((ax y).get e) (λb=>lp b (λv=>k v h)):=G
@[go_sem ↓]def ath(nil:V->(Bool->Bool)->Bool):(Dk nil x).run R e h k=nil ((ax x).get e) (λb=>lp b (λv=>k v h)):=G
@[go_sem ↓]def atf(nil:V->(Bool->Bool)->Bool):(we nil x).run R e h k=nil ((ax x).get e) (λb=>lp (jw b) (λv=>k v h)):=G
@[go_sem ↓]def aoC:(tU x).run R e h k=jD ((ax x).get e) (λv=>k v h):=G
@[go_sem ↓]def alm:(a3I x).run R e h k=V.cH ((ax x).get e) (λi=>O.cH (bL i h) (λl _=>aR (Nat.ble (eK l) cO) (k (Q ((eK l:Nat):Int)) h) false)) (k (Q 0) h):=G
@[go_sem ↓]def awE(t:Nat)(zs):(vL t n zs).run R e h k=dh h zs n (λc=>fH (.row t n 0 true zs c) h (λi h=>k (.ptr i 0) h)):=G
@[go_sem ↓]def awp(t:Nat)(zs):(mq t n zs x).run R e h k=V.cells ((ax x).get e) (λcs=>aR (Nat.beq (eK cs) n) (dh h [] n (λc=>lq cs 0 c (λc=>fH (.row t n 0 true zs c) h (λi h=>k (.ptr i 0) h)))) false):=G
@[go_sem ↓]def atw(te jE:Nat)(zs)(l c:Operand):(XN te z jE zs l c).run R e h k=V.dD ((ax l).get e) (λn=>V.dD ((ax c).get e) (λm=>aR (Nat.ble n m) (aR (Nat.ble m 4294967296) (aR (Nat.ble (jE*m) 281474976710656)
     (dh h zs (m*z) (λc=>fH (.row te (m*z) 0 true zs c) h (λi h=>k (.sl i 0 n (.known m)) h))) false) false) false)):=G
end
def fy.ext{o u:fy}(h:∀R e h k,o.run R e h k=u.run R e h k):o=u:=by cases o;cases u;congr;grind
section
variable {t:Nat}
def nag(T:TI):Bool:=jw (iC T.desc)
def TQ{T:TI}(h:nag T=true):iC T.desc=false:=by unfold nag at h;cases g:iC T.desc with|false=>rfl|true=>rw[g] at h;cases h
def RA(hc:ly t nag=true)(a:Operand):bE K t a=kJ a:=by obtain⟨S,o,p⟩:=cz hc;unfold bE;rw[o];simp only[TQ p];rfl
def YC(n:Nat)(T:TI):Bool:=aR (iC T.desc) (Nat.beq T.sz n) false
def Hs{n:Nat}{T:TI}(h:YC n T=true):iC T.desc=true/\T.sz=n:=by
 unfold YC at h;cases g:iC T.desc with
 |true=>rw[g] at h;exact⟨rfl,br h⟩
 |false=>rw[g] at h;cases h
def aaH{n:Nat}(hc:ly t (YC n)=true)(a:Operand):bE K t a=BZ n a:=by obtain⟨S,o,p⟩:=cz hc;obtain⟨A,N⟩:=Hs p;unfold bE;rw[o];simp only[A,N];rfl
def adi(hc:ly t nag=true)(a x:Operand):cZ K t a x=Nt a x:=by obtain⟨S,o,p⟩:=cz hc;unfold cZ;rw[o];simp only[TQ p];rfl
def aaE{n:Nat}(hc:ly t (YC n)=true)(a x:Operand):cZ K t a x=zQ n a x:=by obtain⟨S,o,p⟩:=cz hc;obtain⟨A,N⟩:=Hs p;unfold cZ;rw[o];simp only[A,N];rfl
def fic(s f off:Nat)(g:TI->Bool):Bool:=match fieldAt K s f with|some (o,T)=>aR (Nat.beq o off) (g T) false|none=>false
def Cx{s f:Nat}{g:TI->Bool}(h:fic s f off g=true):∃T,fieldAt K s f=some (off,T)/\g T=true:=by
 unfold fic at h;cases v:fieldAt K s f with
 |none=>grind
 |some p=>
  obtain⟨o,T⟩:=p;rw[v] at h;change aR (Nat.beq o off) (g T) false=true at h;cases a:Nat.beq o off with
  |false=>rw[a] at h;cases h
  |true=>rw[a] at h;rw[br a];exact⟨T,rfl,h⟩
def szp(T:TI):Bool:=Nat.blt 0 T.sz
def aqW{s f:Nat}(hc:fic s f off szp=true)(x:Operand):ak K s x f=dy off x:=by
 obtain⟨S,H,p⟩:=Cx hc;apply fy.ext;intro R e h k;unfold ak;rw[H];cases M:S.sz with
 |zero=>unfold szp at p;rw[M] at p;trivial
 |succ z=>cases off<;>(simp only[M];rfl)
def aqV{s f:Nat}(hc:fic s f off nag=true)(x:Operand):lS K s x f=flo off x:=by obtain⟨S,H,p⟩:=Cx hc;unfold lS;rw[H];simp only[TQ p];rfl
def aj4{s f n:Nat}(hc:fic s f off (YC n)=true)(x:Operand):lS K s x f=flA off n x:=by obtain⟨S,H,p⟩:=Cx hc;obtain⟨A,N⟩:=Hs p;unfold lS;rw[H];simp only[A,N];rfl
def slc(t te:Nat)(g:TI->Bool):Bool:=ly t (λS=>match S.desc with | .slice u=>aR (Nat.beq u te) (ly te g) false|_=>false)
def arc(t n te:Nat)(g:TI->Bool):Bool:=ly t (λS=>match S.desc with | .array m u=>aR (Nat.beq m n) (aR (Nat.beq u te) (ly te g) false) false|_=>false)
def nZ{g:TI->Bool}(h:slc t te g=true):∃T E,K.ty t=some T/\T.desc= .slice te/\K.ty te=some E/\g E=true:=by
 obtain⟨T,o,p⟩:=cz h;split at p
 .rename_i u f;cases s:Nat.beq u te with
  |false=>rw[s] at p;trivial
  |true=>rw[s] at p;obtain⟨E,b,R⟩:=cz (g:=g) p;rw[br s] at f;grind
 trivial
def Da{n:Nat}{g:TI->Bool}(h:arc t n te g=true):∃T E,K.ty t=some T/\T.desc= .array n te/\K.ty te=some E/\g E=true:=by
 obtain⟨T,o,p⟩:=cz h;split at p
 .rename_i m u f;cases R:Nat.beq m n with
  |false=>rw[R] at p;trivial
  |true=>
   rw[R] at p;change aR (Nat.beq u te) (ly te g) false=true at p;cases s:Nat.beq u te with
   |false=>rw[s] at p;trivial
   |true=>rw[s] at p;obtain⟨E,b,a⟩:=cz (g:=g) p;rw[br s,br R] at f;grind
 trivial
def szz(z:Nat)(T:TI):Bool:=Nat.beq T.sz z
def my{z:Nat}(hc:slc t te (szz z)=true)(x i:Operand):bR K t x i=Hw z x i:=by obtain⟨S,E,o,f,b,C⟩:=nZ hc;have C:E.sz=z:=br C;unfold bR;rw[o];simp only[f,b,C];rfl
def a4x{n z:Nat}(hc:arc t n te (szz z)=true)(x i:Operand):bR K t x i=iaA n z x i:=by obtain⟨S,E,o,f,b,C⟩:=Da hc;have C:E.sz=z:=br C;unfold bR;rw[o];simp only[f,b,C];rfl
def aqU{n z:Nat}(hc:arc t n te (λE=>aR (nag E) (szz z E) false)=true)(x i:Operand):lQ K t x i=ixo n z x i:=by
 obtain⟨S,E,o,f,b,C⟩:=Da hc;cases g:nag E with
 |false=>rw[g] at C;trivial
 |true=>rw[g] at C;have C:E.sz=z:=br C;unfold lQ;rw[o];simp only[f,b,C,TQ g];rfl
def aj3{n z:Nat}(hc:arc t n te (YC z)=true)(x i:Operand):lQ K t x i=ixA n z x i:=by obtain⟨S,E,o,f,b,C⟩:=Da hc;obtain⟨A,N⟩:=Hs C;unfold lQ;rw[o];simp only[f,b,A,N];rfl
def Dl(T:TI):Bool:=match T.desc with | .int .i64=>true|_=>false
def isU(T:TI):Bool:=match T.desc with | .int .i64=>false | .int _=>true|_=>false
def isInt(T:TI):Bool:=match T.desc with | .int _=>true|_=>false
def isB(T:TI):Bool:=match T.desc with | .bool=>true|_=>false
def isP(T:TI):Bool:=match T.desc with | .pointer _=>true|_=>false
def isS(T:TI):Bool:=match T.desc with | .slice _=>true|_=>false
def isM(T:TI):Bool:=match T.desc with | .map _ _=>true|_=>false
def xa{T:TI}(o:K.ty t=some T)(hd:∀p,T.desc≠ .int p)(x y:Operand):da K .eql t x y=⟨λ_ e h k=>(IP K t x y).run e h (λb=>lp b (λv=>k v h))⟩:=by unfold da;grind
def CY{T:TI}(o:K.ty t=some T)(hd:∀p,T.desc≠ .int p)(x y:Operand):da K .neq t x y=⟨λ_ e h k=>(IP K t x y).run e h (λb=>lp (jw b) (λv=>k v h))⟩:=by unfold da;grind
def wN{T:TI}{n:akt}{y:Operand}(o:K.ty t=some T)(hn:sB T.desc y=true)(E:XE T.desc=n)(x:Operand)(e h)(q:Bool->Bool):(IP K t x y).run e h q=n.run ((ax x).get e) q:=by unfold IP;grind
def aai{T:TI}(h:isP T=true):∃e,T.desc= .pointer e:=by unfold isP at h;grind
def aah{T:TI}(h:isS T=true):∃e,T.desc= .slice e:=by unfold isS at h;grind
def a3X{T:TI}(h:isM T=true):∃a b,T.desc= .map a b:=by unfold isM at h;grind
def aak{T:TI}(h:isB T=true):T.desc= .bool:=by unfold isB at h;grind
def Uj{T:TI}(h:Dl T=true):T.desc= .int .i64:=by unfold Dl at h;grind
def aag{T:TI}(h:isU T=true):∃M,T.desc= .int M/\M≠ .i64:=by unfold isU at h;grind
def Ui{T:TI}(h:isInt T=true):∃M,T.desc= .int M:=by unfold isInt at h;grind
def aaI(hc:ly t Dl=true)(x y:Operand):da K .eql t x y=eqo x y:=by obtain⟨S,o,p⟩:=cz hc;unfold da;rw[o];simp only[Uj p];rfl
def aaG(hc:ly t Dl=true)(x y:Operand):da K .neq t x y=neo x y:=by obtain⟨S,o,p⟩:=cz hc;unfold da;rw[o];simp only[Uj p];rfl
def aj5(hc:ly t isU=true)(x y:Operand):da K .eql t x y=eqo x y:=by obtain⟨S,o,p⟩:=cz hc;obtain⟨M,f,E⟩:=aag p;unfold da IP mF;rw[o];simp only[f];cases M<;>first|trivial|rfl
def aaF(hc:ly t isU=true)(x y:Operand):da K .neq t x y=neo x y:=by obtain⟨S,o,p⟩:=cz hc;obtain⟨M,f,E⟩:=aag p;unfold da IP mF;rw[o];simp only[f];cases M<;>first|trivial|rfl
def aj6(hc:ly t isB=true)(x y:Operand):da K .eql t x y=adw x y:=by obtain⟨S,o,p⟩:=cz hc;rw[xa o (by rw[aak p];grind)];unfold IP mF;rw[o];simp only[aak p];rfl
def adn{op:BinOp}(hc:ly t isInt=true)(A:op≠ .eql)(N:op≠ .neq)(x y:Operand):da K op t x y=gj op x y:=by obtain⟨S,o,p⟩:=cz hc;obtain⟨M,f⟩:=Ui p;unfold da;grind
def aj8(hc:ly t isP=true)(x:Operand):da K .eql t x (.const (.pointer none))=Dk V.cq x:=by obtain⟨S,o,p⟩:=cz hc;obtain⟨u,f⟩:=aai p;rw[xa o W];apply fy.ext;intro R e h k;exact wN (n:=⟨V.cq⟩) o U2 U2 x e h _
def aj0(hc:ly t isP=true)(x:Operand):da K .neq t x (.const (.pointer none))=we V.cq x:=by obtain⟨S,o,p⟩:=cz hc;obtain⟨u,f⟩:=aai p;rw[CY o W];apply fy.ext;intro R e h k;exact wN (n:=⟨V.cq⟩) o U2 U2 x e h _
def aj7(hc:ly t isS=true)(x:Operand):da K .eql t x (.const (.slice none 0 0))=Dk V.ot x:=by obtain⟨S,o,p⟩:=cz hc;obtain⟨u,f⟩:=aah p;rw[xa o W];apply fy.ext;intro R e h k;exact wN (n:=⟨V.ot⟩) o U2 U2 x e h _
def aj9(hc:ly t isM=true)(x:Operand):da K .eql t x (.const (.map none))=Dk V.il x:=by obtain⟨S,o,p⟩:=cz hc;obtain⟨a,b,f⟩:=a3X p;rw[xa o W];apply fy.ext;intro R e h k;exact wN (n:=⟨V.il⟩) o U2 U2 x e h _
def aj1(hc:ly t isM=true)(x:Operand):da K .neq t x (.const (.map none))=we V.il x:=by obtain⟨S,o,p⟩:=cz hc;obtain⟨a,b,f⟩:=a3X p;rw[CY o W];apply fy.ext;intro R e h k;exact wN (n:=⟨V.il⟩) o U2 U2 x e h _
def adj(hc:ly t isS=true)(x:Operand):aV K .len [t] [x]=tU x:=by
 obtain⟨S,o,p⟩:=cz hc;obtain⟨u,f⟩:=aah p;apply fy.ext;intro R e h k;unfold aV Lv;simp only[o,f];show V.cK _ _ _ _=V.cK _ _ _ _;congr 1;funext _ _ n _;by_cases g:n<=cO
 .rw [cw g,cw g,eD g]
 .rw [ml g,ml g]
def adk(hc:ly t isM=true)(x:Operand):aV K .len [t] [x]=a3I x:=by
 obtain⟨S,o,p⟩:=cz hc;obtain⟨a,b,f⟩:=a3X p;apply fy.ext;intro R e h k;unfold aV Lv;simp only[o,f];show V.cH _ _ _=V.cH _ _ _;congr 1;funext i;congr 1;funext l _;show aR (Nat.ble (eK l) cO) _ false=_;by_cases g:eK l<=cO
 .rw [cw g,cw g,eD g]
 .rw [ml g,ml g]
def aqZ{n:Nat}{T:TI}(o:K.ty t=some T)(hn:T.sz=n)(C:T.cW=zs):dK K t=vL t n zs:=by unfold dK;rw[o];simp only[hn,C];rfl
def ajc{n:Nat}{T:TI}(o:K.ty t=some T)(hn:T.sz=n)(C:T.cW=zs)(x:Operand):fl K t x=mq t n zs x:=by unfold fl;rw[o];simp only[hn,C];rfl
def aqT{z:Nat}{E:TI}(hc:slc t te (λ_=>true)=true)(b:K.ty te=some E)(C:E.sz=z)(s:E.bytes=jE)(y:E.cW=zs)(l c:Operand):dw K t l c=XN te z jE zs l c:=by obtain⟨S,d,o,f,a,_⟩:=nZ hc;unfold dw;rw[o];simp only[f,b,C,s,y];rfl
inductive PT where
 |zero (v:V)
 |one
 |agg (n:Nat)
def fill:List PT->List Operand->List Pce
 |[],_=>[]
 |.zero v::l,m=>.zero v::fill l m
 |.one::l,x::m=>.one x::fill l m
 |.agg n::l,x::m=>.agg n x::fill l m
 |.one::l,[]=>fill l []
 |.agg _::l,[]=>fill l []
noncomputable def kQ (l:List PT) (xs:List Operand):fy:=bZ (λe q=>(iS (fill l xs)).run e (λl=>q (.agg l)))
def GK(C:Ctx)(ti:TI)(i:Nat):Option (Nat×Nat×Bool):=(place C ti (i,.const (.bool true))).map λp=>(p.1,p.2.1,p.2.2.1)
def a2E(C)(ti:TI)(i:Nat)(x:Operand):place C ti (i,x)=(GK C ti i).map λp=>(p.1,p.2.1,p.2.2,x):=by
 unfold GK place;simp only;cases ti.desc with
 |struct l=>
  simp only;cases l[i]? with
  |none=>rfl
  |some g=>grind
 |array n u=>grind
 |_=>rfl
def AV:List (Nat×Nat×Bool)->Nat->ay->Option (List PT)
 |[],_,P=>some (P.map .zero)
 |(p,f,agg)::r,o,P=>match decide (o<=p/\p+f<=o+P.length),AV r (p+f) (P.drop (p-o+f)) with
  |true,some l=>some ((P.take (p-o)).map .zero++((match agg with|true=>.agg f|false=>.one)::l))
  |_,_=>none
def Cv(zs:ay)(l:List PT)(xs:List Operand):fill (zs.map .zero++l) xs=zs.map .zero++fill l xs:=by
 induction zs with
 |nil=>rfl
 |cons z zs H=>show .zero z::fill (zs.map .zero++l) xs=_;grind
def Gb:∀(l:List (Nat×Nat×Bool)) (xs:List Operand) (o:Nat) (zs:ay),l.length=xs.length->AW (List.zipWith (λp x=>(p.1,p.2.1,p.2.2,x)) l xs) o zs=(AV l o zs).map λt=>fill t xs
 |[],[],o,zs,h=>by show some _=some _;have:=Cv zs [] [];rw[j9] at this;show some (zs.map Pce.zero)=some (fill (zs.map PT.zero) []);rw[this];simp[fill]
 |(p,f,agg)::l,x::xs,o,zs,h=>by
  have H:=Gb l xs (p+f) (zs.drop (p-o+f)) W;simp only[List.zipWith_cons_cons,AW,AV,H];cases decide (o<=p/\p+f<=o+zs.length) with
  |false=>rfl
  |true=>
   cases AV l (p+f) (zs.drop (p-o+f)) with
   |none=>rfl
   |some t=>cases agg<;>(simp only[mI,Cv];rfl)
 |[],_::_,_,_,h=>G
 |_::_,[],_,_,h=>G
def oT(C:Ctx)(ti:TI):aI->Option (List (Nat×Nat×Bool))
 |[]=>some []
 |i::l=>match GK C ti i,oT C ti l with
  |some p,some r=>some (p::r)
  |_,_=>none
def xP(C)(ti:TI):∀(is:aI) (xs:List Operand) (c:List (Nat×Nat×Bool)),is.length=xs.length->oT C ti is=some c->c.length=xs.length/\places C ti (List.zip is xs)=some (List.zipWith (λp x=>(p.1,p.2.1,p.2.2,x)) c xs)
 |[],[],c,h,s=>by cases s;trivial
 |i::is,x::xs,c,h,s=>by
  unfold oT at s;cases hp:GK C ti i with
  |none=>grind
  |some p=>
   rw[hp] at s;cases d:oT C ti is with
   |none=>grind
   |some r=>rw[d] at s;cases s;obtain⟨A,N⟩:=xP C ti is xs r W d;refine⟨W,?_⟩;show((i,x)::List.zip is xs).mapM (place C ti)=_;rw[Az,a2E,hp];have N:(List.zip is xs).mapM (place C ti)=_:=N;rw[N];rfl
 |[],_::_,_,h,_=>G
 |_::_,[],_,h,_=>G
def bdT(t:Nat)(is:aI):Option (List PT):=match K.ty t with
 |some S=>(match oT K S is with
  |some i=>(match buildable K S.desc with|true=>AV i 0 S.cW|false=>none)
  |none=>none)
 |none=>none
def pA{l:List PT}(hc:bdT t is=some l)(xs:List Operand)(hn:is.length=xs.length):bJ K t (List.zip is xs)=kQ l xs:=by
 unfold bdT at hc;cases v:K.ty t with
 |none=>grind
 |some S=>
  rw[v] at hc;simp only at hc;cases hp:oT K S is with
  |none=>grind
  |some i=>
   rw[hp] at hc;simp only at hc;obtain⟨A,N⟩:=xP K S is xs i hn hp;cases s:buildable K S.desc with
   |false=>grind
   |true=>rw[s] at hc;simp only at hc;unfold bJ;rw[v];simp only[N,s,Gb i xs 0 S.cW A,hc];rfl
end
section
variable (R:Rt) (e:Env) (h:Heap) (k:cR)
@[go_sem ↓]def aww(l:List PT)(xs:List Operand):(kQ l xs).run R e h k=(iS (fill l xs)).run e (λl=>k (.agg l) h):=G
@[go_sem ↓]def ajk(xs:List Operand)(q:ay->Bool):(iS (fill [] xs)).run e q=q []:=G
@[go_sem ↓]def afv(v)(l:List PT)(xs:List Operand)(q:ay->Bool):(iS (fill (.zero v::l) xs)).run e q=(iS (fill l xs)).run e (λt=>q (v::t)):=G
@[go_sem ↓high] theorem adt{n:Nat}(hn:n<=9223372036854775807)(l:List PT)(xs:List Operand)(q:ay->Bool):(iS (fill (.zero (.num n)::l) xs)).run e q=(iS (fill l xs)).run e (λt=>q (Q n::t)):=by rw[yW n hn];rfl
@[go_sem ↓]def ajj(x:Operand)(l:List PT)(xs:List Operand)(q:ay->Bool):(iS (fill (.one::l) (x::xs))).run e q=V.one ((ax x).get e) (λv=>(iS (fill l xs)).run e (λt=>q (v::t))):=G
@[go_sem ↓]def ajl(n:Nat)(x:Operand)(l:List PT)(xs:List Operand)(q:ay->Bool):(iS (fill (.agg n::l) (x::xs))).run e q=V.dY ((ax x).get e) (λcs=>aR (Nat.beq (eK cs) n) ((iS (fill l xs)).run e (λt=>q (cs++t))) false):=by show V.dY ((ax x).get e) (λcs=>aR (Nat.beq (eK cs) n) ((iS (fill l xs)).run e (λt=>bQ cs t q)) false)=_;congr 1;funext cs;congr 2;funext t;exact bB cs t q
@[go_sem ↓]def akd(x y:Operand):(gj .add x y).run R e h k=rF (nb .add) ((ax x).get e) ((ax y).get e) (λv=>k v h):=G
@[go_sem ↓]def ak2(x y:Operand):(gj .sub x y).run R e h k=rF (nb .sub) ((ax x).get e) ((ax y).get e) (λv=>k v h):=G
@[go_sem ↓]def ak7(x y:Operand):(gj .mul x y).run R e h k=rF (nb .mul) ((ax x).get e) ((ax y).get e) (λv=>k v h):=G
@[go_sem ↓]def ak6(x y:Operand):(gj .quo x y).run R e h k=rF (nb .quo) ((ax x).get e) ((ax y).get e) (λv=>k v h):=G
@[go_sem ↓]def ak5(x y:Operand):(gj .rem x y).run R e h k=rF (nb .rem) ((ax x).get e) ((ax y).get e) (λv=>k v h):=G
@[go_sem ↓]def akc(x y:Operand):(gj .and x y).run R e h k=rF (nb .and) ((ax x).get e) ((ax y).get e) (λv=>k v h):=G
@[go_sem ↓]def amK(x y:Operand):(gj .or x y).run R e h k=rF (nb .or) ((ax x).get e) ((ax y).get e) (λv=>k v h):=G
@[go_sem ↓]def aaU(x y:Operand):(gj .andNot x y).run R e h k=rF (nb .andNot) ((ax x).get e) ((ax y).get e) (λv=>k v h):=G
@[go_sem ↓]def ak8(x y:Operand):(gj .lss x y).run R e h k=rF (nb .lss) ((ax x).get e) ((ax y).get e) (λv=>k v h):=G
@[go_sem ↓]def ak9(x y:Operand):(gj .leq x y).run R e h k=rF (nb .leq) ((ax x).get e) ((ax y).get e) (λv=>k v h):=G
@[go_sem ↓]def aka(x y:Operand):(gj .gtr x y).run R e h k=rF (nb .gtr) ((ax x).get e) ((ax y).get e) (λv=>k v h):=G
@[go_sem ↓]def akb(x y:Operand):(gj .geq x y).run R e h k=rF (nb .geq) ((ax x).get e) ((ax y).get e) (λv=>k v h):=G
end
attribute [go_sem] FO mG
def RP(o:Option (List (Nat×aI)))(f:Nat)(ops:Array Oper)(R:Rt)(ds:List D)(e:Env)(h:Heap)(kn:cF):Bool:=
 match o with
 |none=>false
 |some l=>(jW K (ij K f) ops.toList (je ops.toList l)).run R ds e h kn
section
variable (f id n:Nat) (ops:Array Oper) (R:Rt) (rd:Nat) (ds:List D) (e:Env) (h:Heap) (kn:cF) (kx:X->cF)
@[congr] theorem arl{o u:Option (List (Nat×aI))}(L:o=u):RP o f ops R ds e h kn=RP u f ops R ds e h kn:=by rw[L]
@[go_sem ↓]def aeH:(jc K f id ops true).run R rd ds e h kn kx=RP (K.dr f id) f ops R ds e h kn:=by unfold jc RP;cases K.dr f id<;>rfl
@[go_sem]def ami(hn:ops.toList.length=n):RP (some (iA n)) f ops R ds e h kn=(w6 K (ij K f) ops.toList ops.toList).run R ds e h kn:=by unfold RP;simp only;rw[←hn,QK,Mz]
@[go_sem]def afE(p:Nat×aI)(l:List (Nat×aI)):RP (some (p::l)) f ops R ds e h kn=(jW K (ij K f) ops.toList (je ops.toList (p::l))).run R ds e h kn:=G
end
@[congr] theorem ajs{n:Nat}(k:Cells->Bool)(g:h=h'):dh h zs n k=dh h' zs n k:=by rw[g]
@[congr] theorem apn{o u:O}(k:Nat->Heap->Bool)(L:o=u)(g:h=h'):fH o h k=fH u h' k:=W
@[congr] theorem aoF{l g:ay}{c L:Cells}(k:Cells->Bool)(hl:l=g)(F:i=i')(hc:c=L):lq l i c k=lq g i' L k:=W
variable{c d fz j l m m1 m2 m3 n' u:Nat}{o1 o2 o3 own:aG}{f y:av}{k:cR}
noncomputable def Lj (f:Nat) (a:Code) (R:Rt) (rd:Nat) (ds:List D) (e:Env) (h:Heap) (kx:X->cF) (n:Nat):Bool:=
 rounds (λ(_:List D) (_:Env) (_:Heap)=>false) (λr ds e h=>(cc K f a).run R rd ds e h r kx) n ds e h
noncomputable def iB (f:Nat) (a:Code) (R:Rt) (rd:Nat) (ds:List D) (e:Env) (h:Heap) (r:cF) (kx:X->cF):Bool:=(cc K f a).run R rd ds e h r kx
def a5k(f:Nat)(a:Code):cc K f (.loop a)=a3x (cc K f a):=rfl
@[go_sem ↓]def amt(f:Nat)(a:Code)(R)(rd:Nat)(ds:List D)(e h)(M:cF)(j:X->cF):(cc K f (.loop a)).run R rd ds e h M j=Lj f a R rd ds e h j iq:=by rw[a5k];trivial
def sA:iq=1000000:=rfl
@[congr] theorem atN{f:Nat}{a:Code}{R:Rt}{rd:Nat}{ds:List D}{e:Env}(j:X->cF)(n:Nat)(g:h=h'):Lj f a R rd ds e h j n=Lj f a R rd ds e h' j n:=by rw[g]
def Li(f:Nat)(a:Code)(R)(rd:Nat)(ds:List D)(e h)(j:X->cF)(n:Nat):Lj f a R rd ds e h j (n+1)=iB f a R rd ds e h (λds e h=>Lj f a R rd ds e h j n) j:=rfl
def cU{f:Nat}{a:Code}{R:Rt}{rd:Nat}{ds:List D}{j:X->cF}{T:Bool}{x:X}{n q:Nat}{e:Env}{g:av}(aF0:Nat->Env->av->dF)(E:Env->av->dF)
  (h0:aF0 n e g m) (N:n<q)
  (step:∀n e g m,aF0 n e g m->∀(r:cF) (j:X->cF),(∀n' e' P L,n'<n->aF0 n' e' P L->r ds e' (.fn P L)=T)->(∀e' P L,E e' P L->j x ds e' (.fn P L)=T)->iB f a R rd ds e (.fn g m) r j=T)
  (S:∀e' P L,E e' P L->j x ds e' (.fn P L)=T):Lj f a R rd ds e (.fn g m) j q=T:=by
 induction n using Nat.strongRecOn generalizing e g m q with
 |_ n H=>obtain⟨q,rfl⟩:∃p,q=p+1:=⟨q-1,Z⟩;rw[Li];exact step n e g m h0 _ j (λn' e' P L b h=>H n' b h Z) S
def Cl(R:Rt)(fn:Nat)(xs:ay)(f:av)(m:Nat)(aEV:V->av->dF):Prop:=∀(k:cR) (S:Bool),(∀v y L,aEV v y L->k v (.fn y L)=S)->R.call fn xs (.fn f m) k=S
def Cl.go{R:Rt}{fn:Nat}{aEV:V->av->dF}(h:Cl R fn xs f m aEV){T:Bool}(E:∀v y L,aEV v y L->k v (.fn y L)=T):R.call fn xs (.fn f m) k=T:=h k T E
def Cl.mono{R:Rt}{fn:Nat}{aEV P:V->av->dF}(h:Cl R fn xs f m aEV)(g:∀v y L,aEV v y L->P v y L):Cl R fn xs f m P:=λk S E=>h k S (λv y L N=>W)
def sM{R:Rt}{fn:Nat}{o:O}{T:Bool}(h:∀u,u=o->R.call fn xs (.fn (bw f l u) m) k=T):R.call fn xs (.fn (bw f l o) m) k=T:=W
def Rd(R:Rt)(l:Nat)(xs:ay)(f:av)(m:Nat)(aEV:Bool->av->dF):Prop:=∀(k:cR) (S:Bool),(∀b y L,aEV b y L->k (.bool b) (.fn y L)=S)->sN K R (.yield l) xs (.fn f m) k=S
@[grind cases] structure At(own:aG)(c:Nat)(f:av)(m x:Nat)(o:O):Prop where
 obj:f x=o
 own:own x=c
 lt:x<m
structure Fr(P:dF)(own:aG)(f:av)(m:Nat)(bo:aG)(f':av)(m':Nat):Prop where
 le:m<=m'
 same:∀x,x<m->bo x=own x
 ah:∀x,x<m->¬P (own x)->f' x=f x
 z:(∀x,m<=x->own x=0)->∀x,m'<=x->bo x=0
attribute [grind →] Fr.le
@[grind ←] theorem Fr.refl(P own f)(m:Nat):Fr P own f m own f m:=⟨Z,Z,λ_ _ _=>rfl,λh=>h⟩
def Fr.trans{P aEV S:dF}{f1 f2 f3:av}(h:Fr P o1 f1 m1 o2 f2 m2)(g:Fr aEV o2 f2 m2 o3 f3 m3)(hp:∀c,P c->S c)(hq:∀c,aEV c->S c):Fr S o1 f1 m1 o3 f3 m3 where
 le:=cL h.le g.le
 same:=λx hx=>by rw[g.same x L5,h.same x hx]
 ah:=λx hx hn=>by rw[g.ah x L5 (by rw[h.same x hx];grind),h.ah x hx (λtV=>W)]
 z:=λh0=>g.z (h.z h0)
def Fr.mono{P S:dF}{w:aG}{r d:av}(h:Fr P w r l o2 d m2)(b:∀c,P c->S c):Fr S w r l o2 d m2:=⟨h.le,h.same,λx a g=>h.ah x a (λR=>W),h.z⟩
@[grind ←] theorem Fr.bw{P:dF}{w:aG}{r d:av}{x:Nat}{o:O}(h:Fr P w r l o2 d m2)(S:x<l->P (w x)):Fr P w r l o2 (bw d x o) m2:=
 ⟨h.le,h.same,λy p g=>by
  by_cases e:y=x
  .grind
  .rw [aE e];exact h.ah y p g,h.z⟩
@[grind ←] theorem Fr.new{P:dF}{w:aG}{r d:av}{o:O}(h:Fr P w r l o2 d m2):Fr P w r l o2 (Go.Ev.bw d m2 o) (pl m2 1):=
 ⟨Xo,h.same,λy p g=>by rw[aE L5];exact h.ah y p g,λs x S=>h.z s x (by unfold pl at S;omega)⟩
def rQ(own:aG)(x c:Nat):aG:=λy=>if y=x then c else own y
def iY(own)(x c:Nat):rQ own x c x=c:=ao rfl
def oU{x y:Nat}(h:y≠x):rQ own x c y=own y:=aj h
def Fr.owns{P:dF}{w:aG}{r d:av}{x:Nat}(h:Fr P w r l o2 d m2)(S:l<=x)(k:x<m2:=by unfold pl;omega):Fr P w r l (rQ o2 x c) d m2:=
 ⟨h.le,λy p=>by rw[oU Z];exact h.same y p,h.ah,λs y p=>by rw[oU Z];exact h.z s y p⟩
def At.ah{P:dF}{w:aG}{r d:av}{x:Nat}{o:O}(h:At w c r l x o)(g:Fr P w r l o2 d m2)(hc:¬P c):At o2 c d m2 x o:=
 ⟨by rw[g.ah x h.lt (by rw[h.own];trivial)];exact h.obj,by rw[g.same x h.lt];exact h.own,bW h.lt g.le⟩
def At.ne{x y:Nat}{o p:O}(h:At own c f m x o)(g:At own d f m y p)(u:c≠d):x≠y:=λe=>u (by rw[←h.own,←g.own,e])
def At.kv{x y:Nat}{o p:O}(h:At own c f m x o)(g:At own d f m y p)(s:o≠p):x≠y:=λe=>s (by rw[←h.obj,←g.obj,e])
def Gt{n a:Nat}{w w':Bool}{z R:ay}{c L:Cells}(h:t≠u):O.row t n fz w z c≠ .row u n' a w' R L:=λe=>W
def qM{n:Nat}{w:Bool}{z:ay}{c:Cells}{l:List (V×V×Nat)}{k:Nat}:O.row t n fz w z c≠ .map l k:=λe=>by cases e
structure B(f:av)(m:Nat)(f':av)(m':Nat):Prop where
 le:m<=m'
 ah:∀x,x<m->f' x=f x
attribute [grind →] B.le
@[grind ←] theorem B.refl(f)(m:Nat):B f m f m:=⟨Z,λ_ _=>rfl⟩
@[grind →] theorem B.trans{r d N:av}{s:Nat}(h:B r l d m2)(g:B d m2 N s):B r l N s:=⟨cL h.le g.le,λx S=>by rw[g.ah x L5,h.ah x S]⟩
@[grind ←] theorem B.new{r d:av}{o:O}(h:B r l d m2):B r l (Go.Ev.bw d m2 o) (pl m2 1):=⟨Xo,λx S=>by rw[aE L5];exact h.ah x S⟩
@[grind ←] theorem B.bw{r d:av}{x:Nat}{o:O}(h:B r l d m2)(S:l<=x):B r l (Go.Ev.bw d x o) m2:=⟨h.le,λy p=>by rw[aE Z];exact h.ah y p⟩
@[grind ←] theorem B.fr{L:Nat}(h:B f m y L)(own P):Fr P own f m own y L:=⟨h.le,Z,λx S _=>h.ah x S,λs x S=>s x (cL h.le S)⟩
@[grind →] theorem At.gr{L x:Nat}{o:O}(h:At own c f m x o)(g:B f m y L):At own c y L x o:=⟨by rw[g.ah x h.lt];exact h.obj,h.own,bW h.lt g.le⟩
def dg:∀{n:Nat} {l:aI},l.Nodup->(∀x∈l,x<n)->l.length<=n
 |0,l,_,h=>by
  cases l with
  |nil=>simp
  |cons x t=>exact absurd (h x J1) Z
 |n+1,l,f,h=>by
  by_cases R:n∈l
  .have A:=dg (n:=n) (l:=l.erase n) W (λx S=>by
    grind)
   grind
  .have A:=dg (n:=n) f (λx S=>by
    grind)
   omega
def eH(f:dc)(i:Nat)(x:Int):dc:=λj=>if j=i then x else f j
def dk(f)(i:Nat)(x:Int):eH f i x i=x:=ao rfl
def cJ{f:dc}{x:Int}(h:j≠i):eH f i x j=f j:=aj h
def tb(f)(i:Nat)(x:Int):cy (λj=>Q (f j)) i (Q x)=λj=>Q (eH f i x j):=by funext j;rw[vO];unfold eH;grind
variable{tk:Nat}
def enc(l:List (Int×V×Nat)):List (V×V×Nat):=l.map λp=>(Q p.1,p.2)
def cC:List (Int×V×Nat)->Int->Option V
 |[],_=>none
 |(a,v,_)::l,x=>if a=x then some v else cC l x
def eJ:List (Int×V×Nat)->Int->V->Nat->List (Int×V×Nat)
 |[],x,v,c=>[(x,v,c)]
 |(a,u,b)::l,x,v,c=>if a=x then(a,v,b)::l else(a,u,b)::eJ l x v c
def iO:List (Int×V×Nat)->Int->List (Int×V×Nat)
 |[],_=>[]
 |(a,u,b)::l,x=>if a=x then l else(a,u,b)::iO l x
def im(l:List (Int×V×Nat))(x:Int)(c:Nat):Nat:=if cC l x=none then c+1 else c
def dR(l:List (Int×V×Nat))(x y:Int)(v)(c:Nat):cC (eJ l x v c) y=if x=y then some v else cC l y:=by
 induction l with
 |nil=>rfl
 |cons p l H=>
  obtain⟨a,u,b⟩:=p;unfold eJ;by_cases h:a=x
  .rw [ao h];unfold cC;grind
  .rw [aj h];unfold cC;grind
def jH{l:List (Int×V×Nat)}(hd:(l.map (·.1)).Nodup)(x y:Int):cC (iO l x) y=if x=y then none else cC l y:=by
 induction l with
 |nil=>simp[iO,cC]
 |cons p l H=>
  obtain⟨a,u,b⟩:=p;rw[jn,iK] at hd;unfold iO;by_cases h:a=x
  .rw [ao h];subst h;by_cases e:a=y
   .rw [ao e];subst e;have:∀l:List (Int×V×Nat),a∉l.map (·.1)->cC l a=none:=by
     intro l
     induction l with
     |nil=>intro _;rfl
     |cons p l H=>intro g;obtain⟨q,r,s⟩:=p;rw[jn,fY,not_or] at g;unfold cC;grind
    grind
   .rw [aj e];conv=>rhs;unfold cC
    grind
  .rw [aj h];unfold cC;grind
def EE(l:List (Int×V×Nat))(x:Int)(v)(c:Nat):(eJ l x v c).map (·.1)=if cC l x=none then l.map (·.1)++ [x] else l.map (·.1):=by
 induction l with
 |nil=>trivial
 |cons p l H=>obtain⟨a,u,b⟩:=p;unfold eJ cC;grind
def lO{l:List (Int×V×Nat)}{x:Int}:cC l x=none↔x∉l.map (·.1):=by
 induction l with
 |nil=>simp[cC]
 |cons p l H=>obtain⟨a,u,b⟩:=p;unfold cC;grind
def PE{l:List (Int×V×Nat)}(hd:(l.map (·.1)).Nodup)(x:Int)(v)(c:Nat):((eJ l x v c).map (·.1)).Nodup:=by
 rw[EE];split
 .rename_i h;rw[jS];exact⟨hd,J1,λa S b s e=>by simp at s;subst s;subst e;exact(lO.1 h) S⟩
 trivial
def wu(l:List (Int×V×Nat))(x:Int):∀p∈iO l x,p∈l:=by
 induction l with
 |nil=>intro p g;trivial
 |cons q l H=>obtain⟨a,u,b⟩:=q;intro p g;unfold iO at g;grind
def PL{l:List (Int×V×Nat)}(hd:(l.map (·.1)).Nodup)(x:Int):((iO l x).map (·.1)).Nodup:=by
 induction l with
 |nil=>trivial
 |cons q l H=>
  obtain⟨a,u,b⟩:=q;rw[jn,iK] at hd;unfold iO;by_cases h:a=x
  .grind
  .rw [aj h,jn,iK];refine⟨λR=>hd.1 ?_,W⟩;obtain⟨p,g,e⟩:=fA.1 R;exact fA.2 ⟨p,wu l x p g,e⟩
def mz(l:List (Int×V×Nat))(x:Int)(i:Nat)(iU:Bool)(hit:Nat->V->bs):Bool:=
 match l with
 |[]=>iU
 |(a,v,b)::l=>if a=x then hit i v b else mz l x (i+1) iU hit
def vi(a:Int)(v)(b:Nat)(l:List (Int×V×Nat))(x:Int)(i:Nat)(iU:Bool)(hit:Nat->V->bs):mz ((a,v,b)::l) x i iU hit=if a=x then hit i v b else mz l x (i+1) iU hit:=rfl
def pU{eq:EqV}(d:∀x y q,eq.run (Q x) (Q y) q=q (pb (x=y)))(x:Int)(l:List (Int×V×Nat))(iU:Unit->Bool)(hit:Nat->V->bs):pd eq (Q x) (enc l) iU hit=mz l x 0 (iU ()) hit:=by
 have key:∀(l:List (Int×V×Nat)) (i:Nat),cE (λ(_:Nat)=>iU ()) (λy _ r i=>gK y (λq k=>eq.run (Q x) q (λc=>aR c (gK k (λv b=>hit i v b)) (gy (Nat.add i 1) r)))) (enc l) i=mz l x i (iU ()) hit:=by
  intro l
  induction l with
  |nil=>intro i;rfl
  |cons p l H=>
   intro i;obtain⟨a,v,b⟩:=p;show eq.run (Q x) (Q a) (λc=>aR c (hit i v b) (cE (λ(_:Nat)=>iU ()) (λy _ r i=>gK y (λq k=>eq.run (Q x) q (λc=>aR c (gK k (λv b=>hit i v b)) (gy (Nat.add i 1) r)))) (enc l) (i+1)))=_;rw[d,H,vi];by_cases h:a=x
   .rw [ao h,mZ h.symm];rfl
   .rw [aj h,kM Z];rfl
 exact key l 0
def Mm(l:List (Int×V×Nat))(x:Int)(i:Nat)(iU:Bool)(hit:aY):mz l x i iU (λ_ v _=>hit v)=match cC l x with|none=>iU|some v=>hit v:=by
 induction l generalizing i with
 |nil=>rfl
 |cons p l H=>obtain⟨a,v,b⟩:=p;unfold mz cC;grind
def vW(l:List (Int×V×Nat))(j:Nat)(x:Int)(v)(b:Nat)(k:List (V×V×Nat)->Bool):Go.Ev.uM (enc l) j (Q x,v,b) k=k (enc (l.set j (x,v,b))):=by
 induction l generalizing j k with
 |nil=>rfl
 |cons p l H=>
  show aR (Nat.beq j 0) (k ((Q x,v,b)::enc l)) (Go.Ev.uM (enc l) (j-1) (Q x,v,b) (λl=>k ((Q p.1,p.2)::l)))=_;cases j with
  |zero=>rfl
  |succ j=>show Go.Ev.uM (enc l) j (Q x,v,b) _=_;rw[H];rfl
def ZP(l:List (Int×V×Nat))(j:Nat)(k:List (V×V×Nat)->Bool):wQ (enc l) j k=k (enc (l.eraseIdx j)):=by
 induction l generalizing j k with
 |nil=>rfl
 |cons p l H=>
  show aR (Nat.beq j 0) (k (enc l)) (wQ (enc l) (j-1) (λl=>k ((Q p.1,p.2)::l)))=_;cases j with
  |zero=>rfl
  |succ j=>show wQ (enc l) j _=_;rw[H];rfl
def a4J(l:List (Int×V×Nat))(x:Int)(v)(c:Nat)(q:List (Int×V×Nat)->bs):
  mz l x 0 (q (l++ [(x,v,c)]) (c+1)) (λj _ b=>q (l.set j (x,v,b)) c)=q (eJ l x v c) (im l x c):=by
 have key:∀(l pre:List (Int×V×Nat)) (i:Nat),pre.length=i->mz l x i (q (pre++(l++ [(x,v,c)])) (c+1)) (λj _ b=>q ((pre++l).set j (x,v,b)) c)=q (pre++eJ l x v c) (im l x c):=by
  intro l
  induction l with
  |nil=>intro pre i F;trivial
  |cons p l H=>
   intro pre i F;obtain⟨a,u,b⟩:=p;unfold mz im eJ cC;by_cases h:a=x
   .simp only[ao h];subst h;rw[List.set_append];simp[F]
   .simp only[aj h];have:=H (pre++ [(a,u,b)]) (i+1) (by simp[F]);simp only[pj,FO,mG] at this;trivial
 simpa using key l [] 0 rfl
def a4K(l:List (Int×V×Nat))(x:Int)(q:List (Int×V×Nat)->Bool):mz l x 0 (q l) (λj _ _=>q (l.eraseIdx j))=q (iO l x):=by
 have key:∀(l pre:List (Int×V×Nat)) (i:Nat),pre.length=i->mz l x i (q (pre++l)) (λj _ _=>q ((pre++l).eraseIdx j))=q (pre++iO l x):=by
  intro l
  induction l with
  |nil=>intro pre i F;rfl
  |cons p l H=>
   intro pre i F;obtain⟨a,u,b⟩:=p;unfold mz iO;by_cases h:a=x
   .simp only[ao h];rw[List.eraseIdx_append_of_length_le Z];simp[F]
   .simp only[aj h];have:=H (pre++ [(a,u,b)]) (i+1) (by simp[F]);simp only[pj,FO,mG] at this;exact this
 simpa using key l [] 0 rfl
def DE(t:Nat)(z:V):Prop:=∃E,KY K t=some E/\E.zero=z/\∀x y q,(kY K t).run (Q x) (Q y) q=q (pb (x=y))
def mpi(t tk te:Nat):Bool:=ly t (λT=>match T.desc with | .map a b=>aR (Nat.beq a tk) (aR (Nat.beq b te) (ly tk Dl) false) false|_=>false)
def ack{z:V}{E:TI}(h:mpi t tk te=true)(i:K.ty te=some E)(C:E.zero=z):DE t z:=by
 obtain⟨j,o,p⟩:=cz h;split at p
 .rename_i a b f;cases S:Nat.beq a tk with
  |false=>rw[S] at p;trivial
  |true=>
   rw[S] at p;change aR (Nat.beq b te) (ly tk Dl) false=true at p;cases s:Nat.beq b te with
   |false=>rw[s] at p;trivial
   |true=>
    rw[s] at p;obtain⟨c,e,F⟩:=cz (g:=Dl) p;have S:=br S;have s:=br s;subst S;subst s;have d:=Uj F;refine⟨E,?_,C,λx y q=>?_⟩
    .unfold KY;rw[o];simp only[f,e,i,d];rfl
    .unfold kY;rw[o];simp only[f];unfold mF;rw[e];simp only[d];exact Cg x y q
 trivial
variable{mm p ty:Nat}{s':V}{lT:ay}{g:dA}
@[grind cases] structure Wf(l:List (Int×V×Nat))(c:Nat):Prop where
 keys:(l.map (·.1)).Nodup
 stamps:(l.map (·.2.2)).Pairwise (· < ·)
 lt:∀p∈l,p.2.2<c
def Wf.nil(c:Nat):Wf [] c:=⟨J1,J1,J1⟩
def yR(l:List (Int×V×Nat))(x:Int)(v)(c:Nat):(eJ l x v c).map (·.2.2)=if cC l x=none then l.map (·.2.2)++ [c] else l.map (·.2.2):=by
 induction l with
 |nil=>trivial
 |cons p l H=>obtain⟨a,u,b⟩:=p;unfold eJ cC;grind
def Wf.set{l:List (Int×V×Nat)}(h:Wf l c)(x:Int)(v):Wf (eJ l x v c) (im l x c):=by
 have M:∀s∈l.map (·.2.2),s<c:=λs M=>W;refine⟨PE h.keys x v c,?_,λp g=>?_⟩
 .rw [yR];grind
 .have i:p.2.2∈(eJ l x v c).map (·.2.2):=W;rw[yR] at i;unfold im;grind
def zu(l:List (Int×V×Nat))(x:Int):List.Sublist (iO l x) l:=by
 induction l with
 |nil=>exact List.Sublist.refl _
 |cons q l H=>obtain⟨a,u,b⟩:=q;unfold iO;grind
def Wf.del{l:List (Int×V×Nat)}(h:Wf l c)(x:Int):Wf (iO l x) c:=
 ⟨PL h.keys x,h.stamps.sublist ((zu l x).map _),λp g=>h.lt p (wu l x p g)⟩
def mlk(t:Nat)(z:V)(ok:Bool)(a d:V)(h:Heap)(k:cR):Bool:=
 let g:=λv b=>match ok with|true=>k (.cI [v,.bool b]) h|false=>aR b (k v h) (V.live v (λv=>k v h))
 V.cH a (λi=>O.cH (bL i h) (λl _=>V.live d (λq=>pd (kY K t) q l (λ_=>g z false) (λ_ v _=>g v true)))) (g z false)
@[congr] theorem atv{z:V}{ok:Bool}{a b d c:V}(k)(A:a=b)(N:d=c)(M:h=h'):mlk t z ok a d h k=mlk t z ok b c h' k:=W
def lko(t:Nat)(z:V)(ok:Bool)(m key:Operand):fy:=⟨λR e h k=>mlk t z ok ((ax m).get e) ((ax key).get e) h k⟩
@[go_sem ↓]def ahu(t:Nat)(z)(ok:Bool)(m key:Operand)(R e h k):(lko t z ok m key).run R e h k=mlk t z ok ((ax m).get e) ((ax key).get e) h k:=G
def HK{z:V}(hc:DE t z)(ok:Bool)(m key:Operand):gx K t m key ok=lko t z ok m key:=by obtain⟨E,A,N,M⟩:=hc;apply fy.ext;intro R e h k;rw[ahu];unfold gx mlk;rw[A];simp only[N];cases ok<;>rfl
def IJ(t:Nat)(z:V)(ok:Bool)(o:O)(x:Int)(h:Heap)(k:cR):Bool:=
 let g:=λv b=>match ok with|true=>k (.cI [v,.bool b]) h|false=>aR b (k v h) (V.live v (λv=>k v h))
 O.cH o (λl _=>pd (kY K t) (Q x) l (λ_=>g z false) (λ_ v _=>g v true))
@[congr] theorem atu{z:V}{ok:Bool}{o u:O}{x:Int}(k)(A:o=u):IJ t z ok o x h k=IJ t z ok u x h k:=by rw[A]
@[go_sem]def alh(t:Nat)(z)(ok:Bool)(i:Nat)(x:Int)(f)(n:Nat)(k):mlk t z ok (.map i) (Q x) (.fn f n) k=IJ t z ok (f i) x (.fn f n) k:=by unfold mlk IJ;show O.cH (f i) _=O.cH (f i) _;congr 1;funext l _;rw[r0]
def KO(z:V):Option V->ay
 |none=>[z,.bool false]
 |some v=>[v,.bool true]
@[go_sem]def acn(z):KO z none= [z,.bool false]:=G
@[go_sem]def acm(z v):KO z (some v)= [v,.bool true]:=G
attribute [go_sem] uB Option.getD_none
def bN{v:V}(H:v≠ .undef)(q:aY):V.live v q=q v:=by cases v<;>first|rfl|trivial
def oX{z:V}(hc:DE t z)(C:z≠ .undef)(l:List (Int×V×Nat))(c:Nat)(x:Int)(h k):IJ t z false (.map (enc l) c) x h k=k ((cC l x).getD z) h:=by
 obtain⟨E,A,N,M⟩:=hc;unfold IJ;simp only[Ag];rw[pU M,Mm];cases cC l x with
 |none=>exact bN C _
 |some v=>rfl
def KQ{z:V}(hc:DE t z)(l:List (Int×V×Nat))(c:Nat)(x:Int)(h k):IJ t z true (.map (enc l) c) x h k=k (.cI (KO z (cC l x))) h:=by obtain⟨E,A,N,M⟩:=hc;unfold IJ;simp only[Ag];rw[pU M,Mm];cases cC l x<;>rfl
def mup(t:Nat)(a d z:V)(h:Heap)(k:cR):Bool:=
 V.cH a (λi=>O.cH (bL i h) (λl c=>V.live d (λq=>V.live z (λv=>pd (kY K t) q l (λ_=>bQ l [(q,v,c)] (λl=>gy (Nat.add c 1) (λc=>eX i (.map l c) h (λh=>k cA h)))) (λj _ b=>Go.Ev.uM l j (q,v,b) (λl=>eX i (.map l c) h (λh=>k cA h))))))) false
@[congr] theorem ato{a b d c z e:V}(k)(A:a=b)(N:d=c)(u:z=e)(M:h=h'):mup t a d z h k=mup t b c e h' k:=W
def upo(t:Nat)(m key x:Operand):fy:=⟨λR e h k=>mup t ((ax m).get e) ((ax key).get e) ((ax x).get e) h k⟩
@[go_sem ↓]def ag6(t:Nat)(m key x:Operand)(R e h k):(upo t m key x).run R e h k=mup t ((ax m).get e) ((ax key).get e) ((ax x).get e) h k:=G
def LW{z:V}(hc:DE t z)(m key x:Operand):gH K t m key x=upo t m key x:=by obtain⟨E,A,N,M⟩:=hc;apply fy.ext;intro R e h k;rw[ag6];unfold gH mup;rw[A]
def TR(t:Nat)(o:O)(i:Nat)(x:Int)(v:V)(f:av)(n:Nat)(k:cR):Bool:=
 O.cH o (λl c=>pd (kY K t) (Q x) l (λ_=>bQ l [(Q x,v,c)] (λl=>gy (Nat.add c 1) (λc=>eX i (.map l c) (.fn f n) (λh=>k cA h)))) (λj _ b=>Go.Ev.uM l j (Q x,v,b) (λl=>eX i (.map l c) (.fn f n) (λh=>k cA h))))
@[congr] theorem atp{o u:O}{x:Int}{v:V}{n:Nat}(k)(A:o=u):TR t o i x v f n k=TR t u i x v f n k:=by rw[A]
def Hf(t:Nat)(i:Nat)(x:Int){v:V}(H:v≠ .undef)(f)(n:Nat)(k):mup t (.map i) (Q x) v (.fn f n) k=TR t (f i) i x v f n k:=by unfold mup TR;show O.cH (f i) _=O.cH (f i) _;congr 1;funext l c;rw[r0,bN H]
attribute [go_sem] Hf
def acD(x:Int):(Q x= .undef)=False:=eq_false (iW x)
attribute [go_sem] acD
def oW{z:V}(hc:DE t z)(l:List (Int×V×Nat))(c i:Nat)(x:Int)(v f)(n:Nat)(k):TR t (.map (enc l) c) i x v f n k=k cA (.fn (bw f i (.map (enc (eJ l x v c)) (im l x c))) n):=by
 obtain⟨E,A,N,M⟩:=hc;unfold TR;simp only[Ag];rw[pU M];have:=a4J l x v c (λl c=>k cA (.fn (bw f i (.map (enc l) c)) n));rw[←this];congr 1
 .rw [bB];show k cA (.fn (bw f i (.map (enc l++ [(Q x,v,c)]) (c+1))) n)=_;rw[show enc l++ [(Q x,v,c)]=enc (l++ [(x,v,c)]) by simp[enc]]
 .funext j u b;rw[vW];rfl
def mdp(t:Nat)(a d:V)(h:Heap)(k:cR):Bool:=
 V.cH a (λi=>O.cH (bL i h) (λl c=>V.live d (λq=>pd (kY K t) q l (λ_=>k cA h) (λj _ _=>wQ l j (λl=>eX i (.map l c) h (λh=>k cA h)))))) false
@[congr] theorem atE{a b d c:V}(k)(A:a=b)(N:d=c)(M:h=h'):mdp t a d h k=mdp t b c h' k:=W
def dpo(t:Nat)(m key:Operand):fy:=⟨λR e h k=>mdp t ((ax m).get e) ((ax key).get e) h k⟩
@[go_sem ↓]def ajx(t:Nat)(m key:Operand)(R e h k):(dpo t m key).run R e h k=mdp t ((ax m).get e) ((ax key).get e) h k:=G
def RB{z:V}(hc:DE t z)(m key:Operand):aV K .delete [t,tk] [m,key]=dpo t m key:=by obtain⟨E,A,N,M⟩:=hc;apply fy.ext;intro R e h k;rw[ajx];unfold aV wT mdp;grind
def XS(t:Nat)(o:O)(i:Nat)(x:Int)(f:av)(n:Nat)(k:cR):Bool:=
 O.cH o (λl c=>pd (kY K t) (Q x) l (λ_=>k cA (.fn f n)) (λj _ _=>wQ l j (λl=>eX i (.map l c) (.fn f n) (λh=>k cA h))))
@[congr] theorem atF{o u:O}{x:Int}{n:Nat}(k)(A:o=u):XS t o i x f n k=XS t u i x f n k:=by rw[A]
@[go_sem]def ali(t:Nat)(i:Nat)(x:Int)(f)(n:Nat)(k):mdp t (.map i) (Q x) (.fn f n) k=XS t (f i) i x f n k:=by unfold mdp XS;show O.cH (f i) _=O.cH (f i) _;congr 1;funext l c;rw[r0]
def qV{z:V}(hc:DE t z)(l:List (Int×V×Nat))(c i:Nat)(x:Int)(hf:f i= .map (enc l) c)(n:Nat)(k):XS t (.map (enc l) c) i x f n k=k cA (.fn (bw f i (.map (enc (iO l x)) c)) n):=by
 obtain⟨E,A,N,M⟩:=hc;unfold XS;simp only[Ag];rw[pU M];have:=a4K l x (λl=>k cA (.fn (bw f i (.map (enc l) c)) n));rw[←this];congr 1
 .congr 2;funext j;rw[qH];grind
 .funext j u b;rw[ZP];rfl
def a8Y:([]:List (V×V×Nat))=enc []:=rfl
def apo(te z jE:Nat)(zs:ay)(s x:Operand):fy:=⟨λ_ e h k=>fZ z ((ax x).get e) h (λn H=>gp te z jE zs ((ax s).get e) n H h k)⟩
@[go_sem ↓]def awB(te z jE:Nat)(zs)(s x:Operand)(R e h k):(apo te z jE zs s x).run R e h k=fZ z ((ax x).get e) h (λn cs=>gp te z jE zs ((ax s).get e) n cs h k):=G
@[congr] theorem a7a{z:Nat}{x w:V}(k:Nat->ay->Bool)(S:x=w)(g:h=h'):fZ z x h k=fZ z w h' k:=W
@[congr] theorem ae6{z:Nat}{s:V}{n:Nat}{cs:ay}(k)(M:s=s')(hn:n=n')(hc:cs=lT)(g:h=h'):gp te z jE zs s n cs h k=gp te z jE zs s' n' lT h' k:=W
@[go_sem]def Dw(z i o n:Nat)(c:Cp)(h)(k:Nat->ay->Bool):fZ z (.sl i o n c) h k=fh i o (n*z) h (λcs=>k n cs):=G
@[go_sem]def a0y(z:Nat)(h)(k:Nat->ay->Bool):fZ z .au h k=k 0 []:=G
def slz(z jE:Nat)(T:TI):Bool:=aR (Nat.beq T.sz z) (aR (Nat.beq T.bytes jE) (Nat.blt 0 T.sz) false) false
def ajd{z:Nat}{E:TI}(hc:slc t te (slz z jE)=true)(b:K.ty te=some E)(y:E.cW=zs)(s x:Operand):aV K .append [t,t] [s,x]=apo te z jE zs s x:=by
 obtain⟨S,d,o,f,a,p⟩:=nZ hc;rw[b] at a;cases a;unfold slz at p;cases A:Nat.beq E.sz z with
 |false=>rw[A] at p;trivial
 |true=>
  rw[A] at p;change aR (Nat.beq E.bytes jE) (Nat.blt 0 E.sz) false=true at p;cases N:Nat.beq E.bytes jE with
  |false=>rw[N] at p;trivial
  |true=>
   rw[N] at p;have A:=br A;have N:=br N;have c:0<E.sz:=bh p;unfold aV xc;simp only[o,f,b];cases M:E.sz with
   |zero=>omega
   |succ q=>rw[M] at A;subst A;rw[N,y];cases q<;>rfl
def a9u(te z jE:Nat)(zs)(n:Nat)(cs f)(m:Nat)(k)(h0:n≠0)(A:n<=4294967296)(N:n*jE<=140737488355328):
  gp te z jE zs .au n cs (.fn f m) k=k (.sl m 0 n (.less 0 z)) (.fn (bw f m (.row te (n*z) 0 false zs (.cf (bI cs)))) (pl m 1)):=by
 show aR (Nat.beq n 0) _ (jV n jE (ey te (n*z) 0 zs cs (.fn f m) _))=_;rw[show Nat.beq n 0=false by rw[pO,kM h0]];show jV n jE _=_;unfold jV;rw[cw A,show Nat.mul n jE=n*jE from rfl,cw N];unfold ey;rw[rq,wB];rfl
def a5J(te z jE:Nat)(zs)(i o l p n:Nat)(cs f)(m:Nat)(k)(A:l+n<=p){w:Bool}{R:ay}(hf:f i= .row ty mm 0 w R (.cf g))(N:o+l*z+cs.length<=mm):
  gp te z jE zs (.sl i o l (.known p)) n cs (.fn f m) k=k (.sl i o (l+n) (.known p)) (.fn (bw f i (.row ty mm 0 w R (.cf (laid (o+l*z) cs g)))) m):=by
 show O.eO (f i) _=_;rw[hf];show aR (Nat.ble (l+n) p) (eI i (o+l*z) cs (.fn f m) _) _=_;rw[cw A,kC];show O.eO (f i) _=_;rw[hf];show aR (Nat.ble (o+l*z+eK cs) mm) _ false=_;rw[dx,cw N];show aR (Nat.ble 0 (o+l*z)) _ false=_;rw[cw Z,gM];rfl
def Dd{z:Nat}{o n:Nat}{cs:ay}{T:Bool}{w:Bool}{R:ay}(hf:f i= .row ty mm 0 w R (.cf g))(A:l+n<=p)(N:o+l*z+cs.length<=mm)
  (E:k (.sl i o (l+n) (.known p)) (.fn (bw f i (.row ty mm 0 w R (.cf (laid (o+l*z) cs g)))) m)=T):gp te z jE zs (.sl i o l (.known p)) n cs (.fn f m) k=T:=by rw[a5J te z jE zs i o l p n cs f m k A hf N];trivial
def a0n{z:Nat}{n:Nat}{cs:ay}{T:Bool}(h0:n≠0)(A:n<=4294967296)(N:n*jE<=140737488355328)
  (E:k (.sl m 0 n (.less 0 z)) (.fn (bw f m (.row te (n*z) 0 false zs (.cf (bI cs)))) (pl m 1))=T):gp te z jE zs .au n cs (.fn f m) k=T:=by rw[a9u te z jE zs n cs f m k h0 A N];trivial
def bso(te m:Nat)(l:List PT)(zs:ay)(n:Nat)(xs:List Operand):fy:=⟨λ_ e h k=>(iS (fill l xs)).run e (λl=>dh h [] m (λc=>lq l 0 c (λc=>fH (.row te m 0 true zs c) h (λi h=>k (.sl i 0 n (.known n)) h))))⟩
@[go_sem ↓]def awq(te m:Nat)(l:List PT)(zs)(n:Nat)(xs:List Operand)(R e h k):(bso te m l zs n xs).run R e h k=(iS (fill l xs)).run e (λl=>dh h [] m (λc=>lq l 0 c (λc=>fH (.row te m 0 true zs c) h (λi h=>k (.sl i 0 n (.known n)) h)))):=G
def bsT(t n:Nat)(is:aI):Option (Nat×Nat×List PT×ay):=match K.ty t with
 |some S=>(match S.desc with
  |.slice u=>(match K.ty u with
   |some E=>(match n with
    |0=>none
    |_=>(match oT K {S with desc:=.array n u} is with
     |some i=>(match AV i 0 (py E.cW (n*E.sz)),decide (0<n*E.sz/\n*E.sz<=65536) with
      |some l,true=>some (u,n*E.sz,l,E.cW)
      |_,_=>none)
     |none=>none))
   |none=>none)
  |_=>none)
 |none=>none
def a8M{n:Nat}{l:List PT}(hc:bsT t n is=some (te,m,l,zs))(xs:List Operand)(hn:is.length=xs.length):cX K t n (List.zip is xs)=bso te m l zs n xs:=by
 unfold bsT at hc;cases v:K.ty t with
 |none=>grind
 |some S=>
  rw[v] at hc;simp only at hc;split at hc
  .rename_i u f;cases a:K.ty u with
   |none=>grind
   |some E=>
    rw[a] at hc;simp only at hc;cases n with
    |zero=>trivial
    |succ n=>
     simp only at hc;cases hp:oT K {S with desc:=.array (n+1) u} is with
     |none=>grind
     |some i=>
      rw[hp] at hc;simp only at hc;obtain⟨A,N⟩:=xP K {S with desc:=.array (n+1) u} is xs i hn hp;cases M:AV i 0 (py E.cW ((n+1)*E.sz)) with
      |none=>grind
      |some g=>
       rw[M] at hc;cases s:decide (0<(n+1)*E.sz/\(n+1)*E.sz<=65536) with
       |false=>grind
       |true=>rw[s] at hc;simp only[jo,Prod.mk.injEq] at hc;obtain⟨rfl,rfl,rfl,rfl⟩:=hc;apply fy.ext;intro R e h k;unfold cX;rw[v];simp only[f,a,N,Gb i xs 0 _ A,M,mI,s];rfl
  trivial
end
end Go.Ev.Sy
