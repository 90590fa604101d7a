import Derived.Test.YthpffinbkpnniaaGreatDoorM0
set_option linter.all false
set_option maxRecDepth 100000
namespace Go.Ev
noncomputable section
structure TI where
 sz:Nat
 bytes:Nat
 desc:TypeDesc
 zero:V
 cW:ay
 yE:Bool
 guard:Bool
inductive Ext where
 |xd (k:IntKind)|yu|IA (k:IntKind)|a0p (k:IntKind)|GX|race|same|Ap|count|GY (e:Nat)|sorted (e:Nat) (fs:List Nat)|mB (c n l:Nat)|holds
structure FI where
 nt:Nat
 res:List ResultVar
 body:Option Code
 ext:Option Ext
structure Ctx where
 ty:Nat->Option TI
 fn:Nat->Option FI
 gl:Nat->Option ay
 met:Nat->Option (List Method)
 dr:Nat->Nat->Option (List (Nat×aI))
structure Rt where
 call:Nat->ay->Heap->cR->Bool
 zm:Nat->ay->Heap->(Heap->Bool)->Bool
 code:Nat->Code->Nat->List D->Env->Heap->cF->(X->cF)->Bool
abbrev eV:=Rt->Prop
def cA:V:=.cI []
def DN:Env:=bY (dj V) (bY V .undef)
def yY:Heap:=.tr (bY _ (bY _ (bY _ (bY _ .none)))) 0
def eK{α:Type}(l:List α):Nat:=cE 0 (λ_ _ n=>Nat.succ n) l
def bQ{α:Type}(a b:List α)(k:List α->Bool):Bool:=cE (λk=>k b) (λx _ r k=>r (λt=>k (x::t))) a k
def jZ{α:Type}(l:List α)(n:Nat)(k:α->Bool):Bool:=cE (λ_=>false) (λx _ r n=>aR (Nat.beq n 0) (k x) (r (Nat.sub n 1))) l n
def iE{α:Type}(n:Nat)(l:List α)(k:List α->Bool):Bool:=
 rounds (λ(_:List α) (k:List α->Bool)=>k []) (λr l k=>ek l false (λx t=>r t (λp=>k (x::p)))) n l k
def eR{α:Type}(n:Nat)(l:List α)(k:List α->Bool):Bool:=
 rounds (λ(l:List α)=>k l) (λr l=>ek l false (λ_ t=>r t)) n l
def V.dD(v:V)(q:bs):Bool:=V.rL v q (V.ec v (λ_ n=>rT n q (λ_=>false)))
def bw(f:av)(i:Nat)(o:O):av:=λj=>cond (Nat.beq j i) o (f j)
def bL(i:Nat)(h:Heap):O:=Heap.rec (motive:=λ_=>O) (λt _=>(hp i).get t) (λf _=>f i) h
def eX(i:Nat)(o:O)(h:Heap)(k:Heap->Bool):Bool:=Heap.on h (λt n=>(hp i).put o t (λt=>k (.tr t n))) (λf n=>k (.fn (bw f i o) n))
def fH(o:O)(h:Heap)(k:Nat->Heap->Bool):Bool:=Heap.on h (λt n=>(hp n).put o t (λt=>gy (Nat.add n 1) (λm=>k n (.tr t m)))) (λf n=>k n (.fn (bw f n o) (Nat.add n 1)))
def c1e:Cells:=.c1 (bY V .undef)
def c2e:Cells:=.c2 (bY _ (bY V .undef))
def c3e:Cells:=.c3 (bY _ (bY _ (bY V .undef)))
def c4e:Cells:=.c4 (bY _ (bY _ (bY _ (bY V .undef))))
def zf(zs:ay):dA:=λj=>(zs[Nat.mod j zs.length]?).getD .undef
def dh(h:Heap)(zs:ay)(n:Nat)(k:Cells->Bool):Bool:=Heap.on h (λ_ _=>aR (Nat.ble n 16) (k c1e) (aR (Nat.ble n 256) (k c2e) (aR (Nat.ble n 4096) (k c3e) (aR (Nat.ble n 65536) (k c4e) false)))) (λ_ _=>k (.cf (zf zs)))
def lq(l:ay)(i:Nat)(c:Cells)(k:Cells->Bool):Bool:=
 cE (λ(_:Nat) c=>k c) (λv _ r i c=>Cells.put c i v (λc=>gy (Nat.add i 1) (λi=>r i c))) l i c
def cellAt(c:Cells)(z:ay)(i:Nat)(k:aY):Bool:=V.bt (c.get i) k (jZ z (Nat.mod i (eK z)) k)
def jg(c:Cells)(z:ay)(n i:Nat)(k:ay->Bool):Bool:=
 rounds (λ(_:Nat) (k:ay->Bool)=>k []) (λr i k=>cellAt c z i (λv=>gy (Nat.add i 1) (λi=>r i (λl=>k (v::l))))) n i k
def fh(i o n:Nat)(h:Heap)(k:ay->Bool):Bool:=
 O.eO (bL i h) (λ_ m _ _ z c=>aR (Nat.ble (Nat.add o n) m) (jg c z n o k) false)
def jT(i o:Nat)(h:Heap)(k:aY):Bool:=
 O.eO (bL i h) (λ_ m _ _ z c=>aR (Nat.blt o m) (cellAt c z o k) false)
def mM(i o:Nat)(v:V)(h:Heap)(k:Heap->Bool):Bool:=
 O.eO (bL i h) (λa m t w z c=>aR (Nat.blt o m) (aR (Nat.ble t o) (Cells.put c o v (λc=>eX i (.row a m t w z c) h k)) false) false)
def eI(i o:Nat)(s:ay)(h:Heap)(k:Heap->Bool):Bool:=
 O.eO (bL i h) (λa m t w z c=>aR (Nat.ble (Nat.add o (eK s)) m) (aR (Nat.ble t o) (lq s o c (λc=>eX i (.row a m t w z c) h k)) false) false)
def rV(a b:IntKind):Bool:=Nat.beq (DG a) (DG b)
def cO:Nat:=9223372036854775807
def mv(k:IntKind)(n:Int)(q:aY):Bool:=
 rT n (λm=>aR (rV k .i64) (aR (Nat.ble m cO) (q (.num m)) (q (.ik k (.ofNat m)))) (q (.ik k (.ofNat m)))) (λm=>q (.ik k (.negSucc m)))
def lp(b:Bool)(q:aY):Bool:=aR b (q (.bool true)) (q (.bool false))
def V.de:aY
 |.undef | .agg _ | .cI _=>false
 |_=>true
def scalar:Value->V
 |.bool b=>.bool b
 |.int .i64 (.ofNat n)=>cond (Nat.ble n cO) (.num n) (.ik .i64 (.ofNat n))
 |.int k n=>.ik k n
 |.string s=>.str (s.data.toList.map (·.toNat))
 |.pointer none=>.bg
 |.slice none 0 0=>.au
 |.map none=>.fR
 |.nilFunc=>.fN
 |.nilIface=>.xV
 |_=>.undef
def kV:Value->V
 |.agg H=>cond ((H.toList.map scalar).all V.de) (.agg (H.toList.map scalar)) .undef
 |.tuple H=>.cI (H.toList.map scalar)
 |v=>scalar v
def cellsOf:V->ay
 |.agg H=>H
 |v=>[v]
structure EV where
 get:Env->V
structure EP where
 put:V->Env->(Env->Bool)->Bool
def eg(t:Nat):EV:=⟨λe=>(oL t).get V .undef e⟩
def ep(t:Nat):EP:=⟨λv e k=>(oL t).put V v e k⟩
def ax:Operand->EV
 |.tmp t=>eg t
 |.const v=>⟨λ_=>kV v⟩
 |.global g=>⟨λ_=>.iP g 0⟩
 |.func f=>⟨λ_=>.fn f [] []⟩
structure EA where
 run:Env->(ay->Bool)->Bool
def ir(l:List Operand):EA:=cE ⟨λ_ k=>k []⟩ (λx _ r=>⟨λe k=>V.live ((ax x).get e) (λv=>r.run e (λs=>k (v::s)))⟩) l
structure fy where
 run:Rt->Env->Heap->cR->Bool
def cQ:fy:=⟨λ_ _ _ _=>false⟩
def bZ(f:Env->aY->Bool):fy:=⟨λ_ e h k=>f e (λv=>k v h)⟩
def iC:TypeDesc->Bool
 |.struct _ | .array _ _=>true
 |_=>false
def mu(agg:Bool)(f:Nat)(cs:ay)(off:Nat)(k:aY):Bool:=
 aR agg (eR off cs (λl=>iE f l (λp=>k (.agg p)))) (jZ cs off k)
def bE(C:Ctx)(t:Nat)(a:Operand):fy:=
 match C.ty t with
 |none=>cQ
 |some b=>match iC b.desc with
  |true=>let n:=b.sz;⟨λ_ e h k=>V.dW ((ax a).get e) (λi o=>fh i o n h (λl=>k (.agg l) h))⟩
  |false=>⟨λ_ e h k=>V.sw ((ax a).get e) (λi o=>jT i o h (λv=>k v h)) (λg o=>jv (C.gl g) false (λH=>jZ H o (λv=>k v h)))⟩
def cZ(C:Ctx)(t:Nat)(a x:Operand):fy:=
 match C.ty t with
 |none=>cQ
 |some g=>match iC g.desc with
  |true=>let n:=g.sz;⟨λ_ e h k=>V.dW ((ax a).get e) (λi o=>V.dY ((ax x).get e) (λH=>aR (Nat.beq (eK H) n) (eI i o H h (λh=>k cA h)) false))⟩
  |false=>⟨λ_ e h k=>V.dW ((ax a).get e) (λi o=>V.one ((ax x).get e) (λv=>mM i o v h (λh=>k cA h)))⟩
def KZ(a b:aI):Bool:=cE (λb=>cE false (λ_ _ _=>true) b) (λx _ r b=>cE false (λy t _=>aR (Nat.blt x y) true (aR (Nat.beq x y) (r t) false)) b) a b
def leI:Int->Int->Bool
 |.ofNat a,.ofNat b=>Nat.ble a b
 |.negSucc a,.negSucc b=>Nat.ble b a
 |.negSucc _,.ofNat _=>true
 |.ofNat _,.negSucc _=>false
def jw(b:Bool):Bool:=aR b false true
def Mv(a b:V)(q:Bool->Bool):Bool:=
 V.rL a (λm=>V.rL b (λn=>q (Nat.beq m n)) (V.ec b (λk n=>aR (rV k .i64) (q (mR (.ofNat m) n)) false)))
  (V.ec a (λk m=>V.ec b (λl n=>aR (rV k l) (q (mR m n)) false)))
def eqT(a b:V)(q:Bool->Bool):Bool:=V.ig a (λs=>V.ig b (λu=>q (yq s u)))
def eqB(a b:V)(q:Bool->Bool):Bool:=V.ja a (λx=>V.ja b (λy=>q (aR x y (jw y))))
structure EqV where
 run:V->V->(Bool->Bool)->Bool
structure NG where
 run:ay->ay->(Bool->Bool)->Bool
def zb:EqV:=⟨λ_ _ _=>false⟩
def yo:NG:=⟨λ_ _ _=>false⟩
def ka(e:EqV)(agg:Bool)(f off:Nat)(r:NG):NG:=
 ⟨λm R q=>mu agg f m off (λx=>mu agg f R off (λy=>e.run x y (λc=>aR c (r.run m R q) (q false))))⟩
def mF(C:Ctx):Nat->Nat->EqV
 |0,_=>zb
 |d+1,t=>match C.ty t with
  |none=>zb
  |some g=>match g.desc with
   |.int _=>⟨Mv⟩
   |.string=>⟨eqT⟩
   |.bool=>⟨eqB⟩
   |.struct l=>(match g.yE with
    |true=>zb
    |false=>
     let r := cE (⟨λ_ _ q => q true⟩ : NG) (λf _ r => match decide (f.name = "_"), C.ty f.type with
      |false,some j=>ka (mF C d f.type) (iC j.desc) j.sz f.offset r
      |_,_=>yo) l.toList
     ⟨λa b q=>V.dY a (λm=>V.dY b (λR=>r.run m R q))⟩)
   |.array n e=>(match C.ty e with
    |none=>zb
    |some x=>
     let r:=cE (⟨λ_ _ q=>q true⟩:NG) (λi _ r=>ka (mF C d e) (iC x.desc) x.sz (Nat.mul i x.sz) r) (List.range n)
     ⟨λa b q=>V.dY a (λm=>V.dY b (λR=>r.run m R q))⟩)
   |_=>zb
def sB(d:TypeDesc)(x:Operand):Bool:=
 match d,x with
 |.pointer _,.const (.pointer none)=>true
 |.slice _,.const (.slice none 0 0)=>true
 |.map _ _,.const (.map none)=>true
 |.func _ _ _,.const .nilFunc=>true
 |.interface _,.const .nilIface=>true
 |_,_=>false
structure akt where
 run:V->(Bool->Bool)->Bool
def XE:TypeDesc->akt
 |.pointer _=>⟨V.cq⟩
 |.slice _=>⟨V.ot⟩
 |.map _ _=>⟨V.il⟩
 |.func _ _ _=>⟨V.EC⟩
 |.interface _=>⟨V.EB⟩
 |_=>⟨λ_ _=>false⟩
structure EqK where
 run:Env->Heap->(Bool->Bool)->Bool
def IP(C:Ctx)(t:Nat)(x y:Operand):EqK:=
 match C.ty t with
 |none=>⟨λ_ _ _=>false⟩
 |some g=>
  match sB g.desc y,sB g.desc x with
  |true,_=>let n:=XE g.desc;⟨λe _ q=>n.run ((ax x).get e) q⟩
  |_,true=>let n:=XE g.desc;⟨λe _ q=>n.run ((ax y).get e) q⟩
  |_,_=>match g.desc with
   |.bool | .int _ | .string=>let w:=mF C 1 t;⟨λe _ q=>w.run ((ax x).get e) ((ax y).get e) q⟩
   |.struct _ | .array _ _=>(match g.guard with
    |true=>⟨λ_ _ _=>false⟩
    |false=>let w:=mF C 20 t;⟨λe _ q=>V.dY ((ax x).get e) (λ_=>V.dY ((ax y).get e) (λ_=>w.run ((ax x).get e) ((ax y).get e) q))⟩)
   |.pointer u=>(match C.ty u with
    |some a=>(match a.sz with
     |0=>⟨λ_ _ _=>false⟩
     |_=>⟨λe h q=>V.Ck ((ax x).get e) (λi o=>V.Ck ((ax y).get e)
       (λj p=>aR (Nat.beq i j) (q (Nat.beq o p)) false) (V.cq ((ax y).get e) (λb=>aR b (q false) false)))
       (V.cq ((ax x).get e) (λb=>aR b (V.cq ((ax y).get e) q) false))⟩)
    |none=>⟨λ_ _ _=>false⟩)
   |_=>⟨λ_ _ _=>false⟩
def i6(op:BinOp)(k:IntKind)(a b:Int)(q:aY):Bool:=
 match op with
 |.add=>mv k (k.wrap (a+b)) q
 |.sub=>mv k (k.wrap (a-b)) q
 |.mul=>mv k (k.wrap (a*b)) q
 |.quo=>aR (mR b 0) false (mv k (k.wrap (a.tdiv b)) q)
 |.rem=>aR (mR b 0) false (mv k (a.tmod b) q)
 |.and=>mv k (k.wrap (BitVec.ofInt k.bits a &&& BitVec.ofInt k.bits b).toNat) q
 |.or=>mv k (k.wrap (BitVec.ofInt k.bits a ||| BitVec.ofInt k.bits b).toNat) q
 |.xor=>mv k (k.wrap (BitVec.ofInt k.bits a ^^^ BitVec.ofInt k.bits b).toNat) q
 |.andNot=>mv k (k.wrap (BitVec.ofInt k.bits a &&& ~~~(BitVec.ofInt k.bits b)).toNat) q
 |.lss=>lp (jw (leI b a)) q
 |.leq=>lp (leI a b) q
 |.gtr=>lp (jw (leI a b)) q
 |.geq=>lp (leI b a) q
 |_=>false
def iN(op:BinOp)(a:Unit->Bool)(m n:Nat)(q:aY):Bool:=
 match op with
 |.add=>gy (Nat.add m n) (λs=>aR (Nat.ble s cO) (q (.num s)) (a ()))
 |.sub=>aR (Nat.ble n m) (gy (Nat.sub m n) (λs=>q (.num s))) (gy (Nat.sub (Nat.sub n m) 1) (λs=>q (.ik .i64 (.negSucc s))))
 |.mul=>gy (Nat.mul m n) (λs=>aR (Nat.ble s cO) (q (.num s)) (a ()))
 |.quo=>aR (Nat.beq n 0) false (gy (Nat.div m n) (λs=>q (.num s)))
 |.rem=>aR (Nat.beq n 0) false (gy (Nat.mod m n) (λs=>q (.num s)))
 |.and=>gy (Nat.land m n) (λs=>q (.num s))
 |.or=>gy (Nat.lor m n) (λs=>q (.num s))
 |.lss=>lp (Nat.blt m n) q
 |.leq=>lp (Nat.ble m n) q
 |.gtr=>lp (Nat.blt n m) q
 |.geq=>lp (Nat.ble n m) q
 |.eql=>lp (Nat.beq m n) q
 |.neq=>lp (jw (Nat.beq m n)) q
 |_=>a ()
def sf(op:BinOp)(k:IntKind)(a:Int)(b:Int)(q:aY):Bool:=
 match b with
 |.negSucc _=>false
 |.ofNat m=>match op with
  |.shl=>mv k (k.wrap (a*2^(min m k.bits))) q
  |.shr=>mv k (a.fdiv (2^(min m k.bits))) q
  |_=>false
def AR(op:BinOp)(a b:aI)(q:aY):Bool:=
 match op with
 |.add=>bQ a b (λs=>aR (Nat.ble (eK s) cO) (q (.str s)) false)
 |.lss=>lp (KZ a b) q
 |.leq=>lp (aR (KZ a b) true (yq a b)) q
 |.gtr=>lp (jw (aR (KZ a b) true (yq a b))) q
 |.geq=>lp (jw (KZ a b)) q
 |_=>false
structure NB where
 num:(Unit->Bool)->Nat->Nat->aY->Bool
 int:IntKind->Int->Int->aY->Bool
def nb(op:BinOp):NB:=
 match op with
 |.add=>⟨iN .add,i6 .add⟩ | .sub=>⟨iN .sub,i6 .sub⟩ | .mul=>⟨iN .mul,i6 .mul⟩ | .quo=>⟨iN .quo,i6 .quo⟩ | .rem=>⟨iN .rem,i6 .rem⟩
 |.and=>⟨iN .and,i6 .and⟩ | .or=>⟨iN .or,i6 .or⟩ | .xor=>⟨iN .xor,i6 .xor⟩ | .andNot=>⟨iN .andNot,i6 .andNot⟩
 |.lss=>⟨iN .lss,i6 .lss⟩ | .leq=>⟨iN .leq,i6 .leq⟩ | .gtr=>⟨iN .gtr,i6 .gtr⟩ | .geq=>⟨iN .geq,i6 .geq⟩
 |.eql=>⟨iN .eql,i6 .eql⟩ | .neq=>⟨iN .neq,i6 .neq⟩
 |.shl=>⟨λs m n q=>gy (Nat.shiftLeft m n) (λx=>aR (Nat.ble n 62) (aR (Nat.ble x cO) (q (.num x)) (s ())) (s ())),sf .shl⟩
 |.shr=>⟨λ_ m n q=>gy (Nat.shiftRight m n) (λx=>q (.num x)),sf .shr⟩
def An:BinOp->Bool
 |.shl | .shr=>true
 |_=>false
def gj(op:BinOp)(x y:Operand):fy:=
 let b:=nb op
 match An op with
 |true=>bZ (λe q=>
   V.rL ((ax x).get e) (λm=>V.ec ((ax y).get e) (λ_ n=>rT n (λn=>b.num (λ_=>b.int .i64 (.ofNat m) (.ofNat n) q) m n q) (λ_=>false)))
    (V.ec ((ax x).get e) (λk m=>V.ec ((ax y).get e) (λ_ n=>b.int k m n q))))
 |false=>bZ (λe q=>
   V.rL ((ax x).get e) (λm=>V.rL ((ax y).get e) (λn=>b.num (λ_=>b.int .i64 (.ofNat m) (.ofNat n) q) m n q) (V.ec ((ax y).get e) (λk n=>aR (rV k .i64) (b.int .i64 (.ofNat m) n q) false)))
    (V.ec ((ax x).get e) (λk m=>V.ec ((ax y).get e) (λl n=>aR (rV k l) (b.int k m n q) false))))
def da(C:Ctx)(op:BinOp)(t:Nat)(x y:Operand):fy:=
 match C.ty t with
 |none=>cQ
 |some g=>match op,g.desc with
  |.eql,.int .i64=>bZ (λe q=>Mv ((ax x).get e) ((ax y).get e) (λb=>lp b q))
  |.neq,.int .i64=>bZ (λe q=>Mv ((ax x).get e) ((ax y).get e) (λb=>lp (jw b) q))
  |.eql,_=>let r:=IP C t x y;⟨λ_ e h k=>r.run e h (λb=>lp b (λv=>k v h))⟩
  |.neq,_=>let r:=IP C t x y;⟨λ_ e h k=>r.run e h (λb=>lp (jw b) (λv=>k v h))⟩
  |_,.string=>bZ (λe q=>V.ig ((ax x).get e) (λa=>V.ig ((ax y).get e) (λb=>AR op a b q)))
  |_,.int _=>gj op x y
  |_,_=>cQ
def unK(op:UnOp)(x:Operand):fy:=
 match op with
 |.not=>bZ (λe q=>V.ja ((ax x).get e) (λb=>lp (jw b) q))
 |.neg=>bZ (λe q=>V.ec ((ax x).get e) (λk n=>i6 .sub k 0 n q))
 |.xor=>bZ (λe q=>V.ec ((ax x).get e) (λk n=>i6 .xor k (if k.signed then -1 else k.max) n q))
 |_=>cQ
def fieldAt(C:Ctx)(s f:Nat):Option (Nat×TI):=
 match C.ty s with
 |some a=>(match a.desc with
  |.struct l=>(match l[f]? with
   |some g=>(match C.ty g.type with|some k=>some (g.offset,k)|none=>none)
   |none=>none)
  |_=>none)
 |none=>none
def ak(C:Ctx)(s:Nat)(x:Operand)(f:Nat):fy:=
 match fieldAt C s f with
 |some (0,k)=>(match k.sz with|0=>cQ|_=>bZ (λe q=>V.dW ((ax x).get e) (λi o=>q (.ptr i o))))
 |some (off,k)=>(match k.sz with|0=>cQ|_=>bZ (λe q=>V.dW ((ax x).get e) (λi o=>gy (Nat.add o off) (λo=>q (.ptr i o)))))
 |none=>cQ
def lS(C:Ctx)(s:Nat)(x:Operand)(f:Nat):fy:=
 match fieldAt C s f with
 |some (off,k)=>(match iC k.desc with
  |true=>let n:=k.sz;bZ (λe q=>V.dY ((ax x).get e) (λH=>mu true n H off q))
  |false=>let n:=k.sz;bZ (λe q=>V.dY ((ax x).get e) (λH=>mu false n H off q)))
 |none=>cQ
def bR(C:Ctx)(t:Nat)(x i:Operand):fy:=
 match C.ty t with
 |none=>cQ
 |some c=>match c.desc with
  |.array n e=>(match C.ty e with
   |some a=>let f:=a.sz;bZ (λe q=>V.dD ((ax i).get e) (λj=>aR (Nat.blt j n)
     (V.sw ((ax x).get e) (λb o=>gy (Nat.add o (Nat.mul j f)) (λo=>q (.ptr b o))) (λg o=>gy (Nat.add o (Nat.mul j f)) (λo=>q (.iP g o)))) false))
   |none=>cQ)
  |.slice e=>(match C.ty e with
   |some a=>let f:=a.sz;bZ (λe q=>V.dD ((ax i).get e) (λj=>V.BE ((ax x).get e) (λb o l _=>aR (Nat.blt j l) (gy (Nat.add o (Nat.mul j f)) (λo=>q (.ptr b o))) false)))
   |none=>cQ)
  |_=>cQ
def lQ(C:Ctx)(t:Nat)(x i:Operand):fy:=
 match C.ty t with
 |none=>cQ
 |some g=>match g.desc with
  |.array n e=>(match C.ty e with
   |some c=>let f:=c.sz;let a:=iC c.desc;bZ (λe q=>V.dD ((ax i).get e) (λj=>aR (Nat.blt j n) (V.dY ((ax x).get e) (λH=>mu a f H (Nat.mul j f) q)) false))
   |none=>cQ)
  |.string=>bZ (λe q=>V.dD ((ax i).get e) (λj=>V.ig ((ax x).get e) (λs=>jZ s j (λb=>q (.ik .u8 (.ofNat b))))))
  |_=>cQ
inductive Pce where
 |zero (v:V)
 |one (x:Operand)
 |agg (n:Nat) (x:Operand)
def AW:List (Nat×Nat×Bool×Operand)->Nat->ay->Option (List Pce)
 |[],_,P=>some (P.map .zero)
 |(p,f,agg,x)::r,o,P=>match decide (o<=p/\p+f<=o+P.length),AW r (p+f) (P.drop (p-o+f)) with
  |true,some l=>some ((P.take (p-o)).map .zero++((match agg with|true=>.agg f x|false=>.one x)::l))
  |_,_=>none
def iS:List Pce->EA
 |[]=>⟨λ_ k=>k []⟩
 |.zero v::l=>let r:=iS l;⟨λe k=>r.run e (λt=>k (v::t))⟩
 |.one x::l=>let r:=iS l;⟨λe k=>V.one ((ax x).get e) (λv=>r.run e (λt=>k (v::t)))⟩
 |.agg n x::l=>let r:=iS l;⟨λe k=>V.dY ((ax x).get e) (λH=>aR (Nat.beq (eK H) n) (r.run e (λt=>bQ H t k)) false)⟩
structure OvK where
 run:Env->ay->(ay->Bool)->Bool
def jF(agg:Bool)(f:Nat)(x:Operand)(e:Env)(k:ay->Bool):Bool:=
 aR agg (V.dY ((ax x).get e) (λH=>aR (Nat.beq (eK H) f) (k H) false)) (V.one ((ax x).get e) (λv=>k [v]))
def lA:List (Nat×Nat×Bool×Operand)->OvK
 |[]=>⟨λ_ l k=>k l⟩
 |(p,f,agg,x)::r=>let t:=lA r
  ⟨λe l k=>jF agg f x e (λH=>iE p l (λa=>eR (Nat.add p f) l (λb=>bQ H b (λm=>bQ a m (λl=>t.run e l k)))))⟩
def place(C:Ctx)(ti:TI):Nat×Operand->Option (Nat×Nat×Bool×Operand)
 |(i,x)=>match ti.desc with
  |.struct l=>(match l[i]? with
   |some g=>(match C.ty g.type with|some k=>(match k.sz with|0=>none|_=>some (g.offset,k.sz,iC k.desc,x))|none=>none)
   |none=>none)
  |.array n e=>(match C.ty e,Nat.blt i n with
   |some a,true=>(match a.sz with|0=>none|_=>some (i*a.sz,a.sz,iC a.desc,x))
   |_,_=>none)
  |_=>none
def places(C:Ctx)(ti:TI)(parts:List (Nat×Operand)):Option (List (Nat×Nat×Bool×Operand)):=parts.mapM (place C ti)
def buildable(C:Ctx)(d:TypeDesc):Bool:=
 match d with
 |.struct _=>true
 |.array _ e=>(C.ty e).isSome
 |_=>false
def bJ(C:Ctx)(t:Nat)(parts:List (Nat×Operand)):fy:=
 match C.ty t with
 |some g=>(match places C g parts with
  |some i=>(match buildable C g.desc,AW i 0 g.cW with
   |true,some l=>let s:=iS l;bZ (λe q=>s.run e (λl=>q (.agg l)))
   |true,none=>let s:=lA i;let P:=g.cW;bZ (λe q=>s.run e P (λl=>q (.agg l)))
   |false,_=>cQ)
  |none=>cQ)
 |none=>cQ
def py(zs:ay)(m:Nat):ay:=(List.range m).map λj=>(zs[j%zs.length]?).getD .undef
def cX(C:Ctx)(t n:Nat)(parts:List (Nat×Operand)):fy:=
 match C.ty t with
 |some g=>(match g.desc with
  |.slice u=>(match C.ty u with
   |some x=>
    let P:=x.cW
    let m:=n*x.sz
    (match n,parts with
    |0,[]=>⟨λ_ _ h k=>dh h [] 0 (λc=>lq [] 0 c (λc=>fH (.row u 0 0 true P c) h (λi h=>k (.sl i 0 0 (.known 0)) h)))⟩
    |_,_=>(match places C {g with desc:=.array n u} parts with
     |some a=>(match AW a 0 (py x.cW m),decide (0<m/\m<=65536) with
      |some l,true=>let s:=iS l
       ⟨λ_ e h k=>s.run e (λl=>dh h [] m (λc=>lq l 0 c (λc=>fH (.row u m 0 true P c) h (λi h=>k (.sl i 0 n (.known n)) h))))⟩
      |_,_=>cQ)
     |none=>cQ))
   |none=>cQ)
  |_=>cQ)
 |none=>cQ
def dK(C:Ctx)(t:Nat):fy:=
 match C.ty t with
 |some g=>let n:=g.sz;let P:=g.cW;⟨λ_ _ h k=>dh h P n (λc=>fH (.row t n 0 true P c) h (λi h=>k (.ptr i 0) h))⟩
 |none=>cQ
def fl(C:Ctx)(t:Nat)(x:Operand):fy:=
 match C.ty t with
 |some g=>let n:=g.sz;let P:=g.cW
  ⟨λ_ e h k=>V.cells ((ax x).get e) (λH=>aR (Nat.beq (eK H) n) (dh h [] n (λc=>lq H 0 c (λc=>fH (.row t n 0 true P c) h (λi h=>k (.ptr i 0) h)))) false)⟩
 |none=>cQ
def dw(C:Ctx)(t:Nat)(l c:Operand):fy:=
 match C.ty t with
 |some g=>(match g.desc with
  |.slice u=>(match C.ty u with
   |some x=>let f:=x.sz;let a:=x.bytes;let P:=x.cW
    ⟨λ_ e h k=>V.dD ((ax l).get e) (λn=>V.dD ((ax c).get e) (λm=>aR (Nat.ble n m) (aR (Nat.ble m 4294967296) (aR (Nat.ble (Nat.mul a m) 281474976710656)
     (gy (Nat.mul m f) (λs=>dh h P s (λc=>fH (.row u s 0 true P c) h (λi h=>k (.sl i 0 n (.known m)) h)))) false) false) false))⟩
   |none=>cQ)
  |_=>cQ)
 |none=>cQ
structure BK where
 run:Env->bs->Bool
def sR(a:Nat):Option Operand->BK
 |none=>⟨λ_ q=>q a⟩
 |some x=>⟨λe q=>V.dD ((ax x).get e) q⟩
structure BK1 where
 run:Nat->Env->bs->Bool
def DL:Option Operand->BK1
 |none=>⟨λn _ q=>q n⟩
 |some x=>⟨λ_ e q=>V.dD ((ax x).get e) q⟩
def cT(sz b o l hh k:Nat)(q:aY):Bool:=
 aR (Nat.ble l hh) (aR (Nat.ble hh k) (gy (acI (Nat.beq k l) o (Nat.add o (Nat.mul l sz))) (λo=>gy (Nat.sub hh l) (λn=>gy (Nat.sub k l) (λc=>q (.sl b o n (.known c)))))) false) false
 where acI (b:Bool) (x y:Nat):Nat:=cond b x y
def iQ(f b o l g n d z:Nat)(q:aY):Bool:=
 aR (Nat.beq z f) (aR (Nat.ble l g) (aR (Nat.ble g n)
  (gy (Nat.add o (Nat.mul l f)) (λo=>gy (Nat.sub g l) (λn=>gy (Nat.add d l) (λd=>q (.sl b o n (.less d z)))))) false) false) false
def gq(C:Ctx)(t:Nat)(x:Operand)(lo F mx:Option Operand):fy:=
 match C.ty t with
 |none=>cQ
 |some w=>match mx with
  |some m=>(match w.desc,F with
   |.slice u,some S=>(match C.ty u with
    |some h=>let f:=h.sz;let i:=sR 0 lo
     bZ (λe q=>i.run e (λl=>V.dD ((ax S).get e) (λg=>V.dD ((ax m).get e) (λv=>
      V.cK ((ax x).get e)
       (λb o n c=>aR (Nat.ble g v) (mN c (λk=>aR (Nat.ble v k) (cT f b o l g v q) false) (λ_ _=>aR (Nat.ble v n) (cT f b o l g v q) false)) false)
       (aR (Nat.beq v 0) (aR (Nat.beq g 0) (aR (Nat.beq l 0) (q .au) false) false) false) false))))
    |none=>cQ)
   |_,_=>cQ)
  |none=>
   let i:=sR 0 lo
   match w.desc with
   |.string=>let E:=DL F
    bZ (λe q=>V.ig ((ax x).get e) (λs=>i.run e (λl=>E.run (eK s) e (λg=>iE g s (λp=>eR l p (λr=>q (.str r)))))))
   |.slice u=>(match C.ty u with
    |some h=>let f:=h.sz;let E:=DL F
     bZ (λe q=>i.run e (λl=>V.cK ((ax x).get e)
      (λb o n c=>E.run n e (λg=>mN c (λk=>cT f b o l g k q) (λd z=>iQ f b o l g n d z q)))
      (E.run 0 e (λg=>aR (Nat.beq g 0) (aR (Nat.beq l 0) (q .au) false) false))
      (E.run 0 e (λg=>aR (Nat.beq g 0) (aR (Nat.beq l 0) (q .z8) false) false))))
    |none=>cQ)
   |.array k u=>(match C.ty u with
    |some h=>let f:=h.sz;let E:=DL F
     bZ (λe q=>V.dW ((ax x).get e) (λb o=>i.run e (λl=>E.run k e (λg=>cT f b o l g k q))))
    |none=>cQ)
   |.pointer a=>(match C.ty a with
    |some j=>(match j.desc with
     |.array k u=>(match C.ty u with
      |some h=>let f:=h.sz;let E:=DL F
       bZ (λe q=>V.dW ((ax x).get e) (λb o=>i.run e (λl=>E.run k e (λg=>cT f b o l g k q))))
      |none=>cQ)
     |_=>cQ)
    |none=>cQ)
   |_=>cQ
def pd(eq:EqV)(key:V)(l:List (V×V×Nat))(iU:Unit->Bool)(hit:Nat->V->bs):Bool:=
 cE (λ_=>iU ()) (λx _ r i=>gK x (λq k=>eq.run key q (λc=>aR c (gK k (λv b=>hit i v b)) (gy (Nat.add i 1) r)))) l 0
def uM(a:List (V×V×Nat))(n:Nat)(y:V×V×Nat)(k:List (V×V×Nat)->Bool):Bool:=
 cE (λ_ (k:List (V×V×Nat)->Bool)=>k []) (λx t r n k=>aR (Nat.beq n 0) (k (y::t)) (r (Nat.sub n 1) (λl=>k (x::l)))) a n k
def wQ(a:List (V×V×Nat))(n:Nat)(k:List (V×V×Nat)->Bool):Bool:=
 cE (λ_ (k:List (V×V×Nat)->Bool)=>k []) (λx t r n k=>aR (Nat.beq n 0) (k t) (r (Nat.sub n 1) (λl=>k (x::l)))) a n k
def a3S:TypeDesc->Bool
 |.int _ | .string | .bool=>true
 |_=>false
def kY(C:Ctx)(t:Nat):EqV:=
 match C.ty t with
 |some g=>(match g.desc with
  |.map k _=>mF C 1 k
  |_=>zb)
 |none=>zb
def KY(C:Ctx)(t:Nat):Option TI:=
 match C.ty t with
 |some g=>(match g.desc with
  |.map k e=>(match C.ty k,C.ty e with
   |some f,some x=>(match a3S f.desc with|true=>some x|false=>none)
   |_,_=>none)
  |_=>none)
 |none=>none
def gx(C:Ctx)(t:Nat)(m key:Operand)(ok:Bool):fy:=
 match KY C t with
 |some x=>
  let z:=x.zero
  (match ok with
  |true=>⟨λ_ e h k=>V.cH ((ax m).get e) (λi=>O.cH (bL i h) (λl _=>V.live ((ax key).get e) (λq=>pd (kY C t) q l (λ_=>k (.cI [z,.bool false]) h) (λ_ v _=>k (.cI [v,.bool true]) h)))) (k (.cI [z,.bool false]) h)⟩
  |false=>⟨λ_ e h k=>V.cH ((ax m).get e) (λi=>O.cH (bL i h) (λl _=>V.live ((ax key).get e) (λq=>pd (kY C t) q l (λ_=>V.live z (λz=>k z h)) (λ_ v _=>k v h)))) (V.live z (λz=>k z h))⟩)
 |none=>cQ
def gH(C:Ctx)(t:Nat)(m key x:Operand):fy:=
 match KY C t with
 |some _=>⟨λ_ e h k=>V.cH ((ax m).get e) (λi=>O.cH (bL i h) (λl c=>V.live ((ax key).get e) (λq=>V.live ((ax x).get e) (λv=>pd (kY C t) q l (λ_=>bQ l [(q,v,c)] (λl=>gy (Nat.add c 1) (λc=>eX i (.map l c) h (λh=>k cA h)))) (λj _ b=>uM l j (q,v,b) (λl=>eX i (.map l c) h (λh=>k cA h))))))) false⟩
 |none=>cQ
def vj(C:Ctx)(t:Nat)(m key:Operand):fy:=
 match KY C t with
 |some x=>let z:=x.zero
  ⟨λ_ e h k=>V.cH ((ax m).get e) (λi=>O.cH (bL i h) (λl c=>V.live ((ax key).get e) (λq=>
   pd (kY C t) q l (λ_=>V.live z (λz=>bQ l [(q,z,c)] (λl=>gy (Nat.add c 1) (λL=>eX i (.map l L) h (λh=>k (.cI [z,.ik .i64 (.ofNat c)]) h)))))
    (λj v b=>uM l j (q,v,b) (λl=>eX i (.map l c) h (λh=>k (.cI [v,.ik .i64 (.ofNat b)]) h)))))) false⟩
 |none=>cQ
def UY(b:Nat)(l:List (V×V×Nat))(hit:Nat->aY):Bool:=
 cE (λ_=>false) (λx _ r i=>gK x (λq k=>gK k (λ_ c=>aR (Nat.beq c b) (hit i q) (gy (Nat.add i 1) r)))) l 0
def mA(m s x:Operand):fy:=
 ⟨λ_ e h k=>V.cH ((ax m).get e) (λi=>O.cH (bL i h) (λl c=>V.dD ((ax s).get e) (λb=>V.live ((ax x).get e) (λv=>UY b l (λj q=>uM l j (q,v,b) (λl=>eX i (.map l c) h (λh=>k cA h))))))) false⟩
def wT(C:Ctx)(t:Nat)(m key:Operand):fy:=
 match KY C t with
 |some _=>⟨λ_ e h k=>V.cH ((ax m).get e) (λi=>O.cH (bL i h) (λl c=>V.live ((ax key).get e) (λq=>pd (kY C t) q l (λ_=>k cA h) (λj _ _=>wQ l j (λl=>eX i (.map l c) h (λh=>k cA h)))))) false⟩
 |none=>cQ
def ey(e n fz:Nat)(zs cs:ay)(h:Heap)(k:Nat->Heap->Bool):Bool:=dh h [] n (λc=>lq cs 0 c (λc=>fH (.row e n fz false zs c) h k))
def jV(need jE:Nat)(k:Bool):Bool:=aR (Nat.ble need 4294967296) (aR (Nat.ble (Nat.mul need jE) 140737488355328) k false) false
def HJ(i at_:Nat)(cs:ay)(n u f fz zB:Nat)(zs:ay)(h:Heap)(k:Heap->Bool):Bool:=
 aR (Nat.ble fz at_) (aR (Nat.beq zB u) (fh i 0 at_ h (λpre=>bQ pre cs (λall=>gy (Nat.add at_ (Nat.mul n f)) (λm=>dh h [] m (λx=>lq all 0 x (λx=>eX i (.row u m fz false zs x) h k)))))) false) false
def gp(u f jE:Nat)(zs:ay)(s:V)(n:Nat)(cs:ay)(h:Heap)(k:cR):Bool:=
 V.cK s (λi o l c=>O.eO (bL i h) (λa m t _ _ _=>
   gy (Nat.add l n) (λb=>gy (Nat.add o (Nat.mul l f)) (λat_=>
    mN c
     (λp=>aR (Nat.ble b p) (eI i at_ cs h (λh=>k (.sl i o b c) h))
      (jV b jE (fh i o (Nat.mul l f) h (λe=>bQ e cs (λall=>gy (Nat.mul b f) (λm=>ey u m 0 zs all h (λi h=>k (.sl i 0 b (.less 0 f)) h)))))))
     (λ_ A=>aR (Nat.beq A f) (aR (Nat.ble (Nat.add o (Nat.mul b f)) m) (eI i at_ cs h (λh=>k (.sl i o b c) h))
      (jV b jE (aR (Nat.beq o 0) (aR (Nat.ble t at_) (aR (Nat.beq a u) (fh i 0 (Nat.mul l f) h (λe=>bQ e cs (λall=>gy (Nat.mul b f) (λm=>
       eX i .dead h (λh=>ey u m t zs all h (λi h=>k (.sl i 0 b (.less 0 f)) h)))))) false) false)
       (aR (HJ i at_ cs n u f t a zs h (λh=>k (.sl i o b c) h))
        (fh i o (Nat.mul l f) h (λe=>bQ e cs (λall=>gy (Nat.mul b f) (λm=>ey u m 0 zs all h (λi h=>k (.sl i 0 b (.less 0 f)) h))))) false)))) false)))))
  (aR (Nat.beq n 0) (k .au h) (jV n jE (gy (Nat.mul n f) (λm=>ey u m 0 zs cs h (λi h=>k (.sl i 0 n (.less 0 f)) h)))))
  false
def fZ(f:Nat)(x:V)(h:Heap)(k:Nat->ay->Bool):Bool:=
 V.cK x (λi o n _=>fh i o (Nat.mul n f) h (λH=>k n H)) (k 0 []) (k 0 [])
def xF(x:V)(k:Nat->ay->Bool):Bool:=
 V.ig x (λs=>bQ (s.map λb=>V.ik .u8 (.ofNat b)) [] (λH=>gy (eK s) (λn=>k n H)))
def xc(C:Ctx)(F:aI)(s x:Operand):fy:=
 match F with
 |[j,b]=>(match C.ty j,C.ty b with
  |some N,some d=>(match N.desc with
   |.slice u=>(match C.ty u with
    |some g=>let f:=g.sz;let P:=g.cW;let a:=g.bytes
     (match g.sz,d.desc with
     |0,_=>cQ
     |_,.slice _=>⟨λ_ e h k=>fZ f ((ax x).get e) h (λn H=>gp u f a P ((ax s).get e) n H h k)⟩
     |_,.int _=>⟨λ_ e h k=>V.dD ((ax x).get e) (λn=>V.cK ((ax s).get e) (λ_ _ _ _=>false)
       (aR (Nat.beq n 0) (k .au h) (jV n a (gy (Nat.mul n f) (λm=>dh h P m (λc=>fH (.row u m 0 false P c) h (λi h=>k (.sl i 0 n (.less 0 f)) h)))))) false)⟩
     |1,.string=>⟨λ_ e h k=>xF ((ax x).get e) (λn H=>gp u f a P ((ax s).get e) n H h k)⟩
     |_,_=>cQ)
    |none=>cQ)
   |_=>cQ)
  |_,_=>cQ)
 |_=>cQ
def PJ(n m:Nat):Nat:=cond (Nat.ble n m) n m
def kp(f:Nat)(x:V)(h:Heap)(m:Nat)(k:Nat->ay->Bool):Bool:=
 V.cK x (λi o n _=>gy (PJ n m) (λq=>fh i o (Nat.mul q f) h (λH=>k q H))) (k 0 []) (k 0 [])
def td(x:V)(m:Nat)(k:Nat->ay->Bool):Bool:=
 V.ig x (λs=>gy (PJ (eK s) m) (λq=>iE q s (λl=>bQ (l.map λb=>V.ik .u8 (.ofNat b)) [] (λH=>k q H))))
def rA(d:V)(h:Heap)(src:Nat->(Nat->ay->Bool)->Bool)(k:cR):Bool:=
 V.cK d (λi o m _=>src m (λq H=>eI i o H h (λh=>k (.ik .i64 (.ofNat q)) h))) (src 0 (λq _=>k (.ik .i64 (.ofNat q)) h)) false
def MF(C:Ctx)(F:aI)(d s:Operand):fy:=
 match F with
 |[p,m]=>(match C.ty p,C.ty m with
  |some j,some N=>(match j.desc with
   |.slice u=>(match C.ty u with
    |some x=>let f:=x.sz
     (match x.sz,N.desc with
     |_,.slice _=>⟨λ_ e h k=>rA ((ax d).get e) h (kp f ((ax s).get e) h) k⟩
     |1,.string=>⟨λ_ e h k=>rA ((ax d).get e) h (td ((ax s).get e)) k⟩
     |_,_=>cQ)
    |none=>cQ)
   |_=>cQ)
  |_,_=>cQ)
 |_=>cQ
def CJ(C:Ctx)(F:aI)(x:Operand):fy:=
 match F with
 |t::_=>(match C.ty t with
  |some g=>(match g.desc with
   |.map _ _=>⟨λ_ e h k=>V.cH ((ax x).get e) (λi=>O.cH (bL i h) (λ_ c=>eX i (.map [] c) h (λh=>k cA h))) (k cA h)⟩
   |.slice u=>(match C.ty u with
    |some a=>let P:=a.cW;let f:=a.sz
     (match a.sz with
     |0=>cQ
     |_=>⟨λ_ e h k=>V.cK ((ax x).get e) (λi o n _=>bQ (py P (Nat.mul n f)) [] (λH=>eI i o H h (λh=>k cA h))) (k cA h) false⟩)
    |none=>cQ)
   |_=>cQ)
  |none=>cQ)
 |_=>cQ
def Lv(C:Ctx)(t:Nat)(x:Operand):fy:=
 match C.ty t with
 |none=>cQ
 |some g=>match g.desc with
  |.string=>bZ (λe q=>V.ig ((ax x).get e) (λs=>gy (eK s) (λn=>aR (Nat.ble n cO) (q (.num n)) false)))
  |.slice _=>bZ (λe q=>V.cK ((ax x).get e) (λ_ _ n _=>aR (Nat.ble n cO) (q (.num n)) false) (q (.num 0)) (q (.num 0)))
  |.array n _=>bZ (λ_ q=>aR (Nat.ble n cO) (q (.num n)) false)
  |.pointer a=>(match C.ty a with
   |some j=>(match j.desc with | .array n _=>bZ (λ_ q=>aR (Nat.ble n cO) (q (.num n)) false)|_=>cQ)
   |none=>cQ)
  |.map _ _=>⟨λ_ e h k=>V.cH ((ax x).get e) (λi=>O.cH (bL i h) (λl _=>gy (eK l) (λn=>aR (Nat.ble n cO) (k (.num n) h) false))) (k (.num 0) h)⟩
  |_=>cQ
def a0b(C:Ctx)(t:Nat)(x:Operand):fy:=
 match C.ty t with
 |some g=>(match g.desc with
  |.slice _=>bZ (λe q=>V.cK ((ax x).get e) (λ_ _ _ c=>mN c (λn=>aR (Nat.ble n cO) (q (.num n)) false) (λ_ _=>false)) (q (.num 0)) false)
  |_=>cQ)
 |none=>cQ
def mmK(max:Bool)(x y:Operand):fy:=
 bZ (λe q=>V.ec ((ax x).get e) (λk a=>V.ec ((ax y).get e) (λl b=>aR (rV k l) (aR (leI a b) (mv k (cond max b a) q) (mv k (cond max a b) q)) false)))
def rE(l:ay)(k:aI->Bool):Bool:=
 cE (λk=>k []) (λv _ r k=>V.ec v (λp n=>aR (rV p .u8) (rT n (λm=>aR (Nat.blt m 256) (r (λt=>k (m::t))) false) (λ_=>false)) false)) l k
def IY(C:Ctx)(F:aI)(p n:Operand):fy:=
 match F with
 |[t,_]=>(match C.ty t with
  |some g=>(match g.desc with
   |.pointer u=>(match C.ty u with
    |some x=>(match x.desc with
     |.int .u8=>⟨λ_ e h k=>V.wc ((ax n).get e) (λn=>V.Ck ((ax p).get e)
       (λi o=>aR (Nat.beq o 0) (aR (Nat.beq n 0) (k (.str []) h) (O.eO (bL i h) (λa m c _ _ _=>aR (Nat.beq a u) (aR (Nat.ble c m) (fh i 0 n h (λd=>rE d (λs=>eX i .dead h (λh=>k (.str s) h)))) false) false))) false)
       (V.cq ((ax p).get e) (λb=>aR b (aR (Nat.beq n 0) (k (.str []) h) false) false)))⟩
     |_=>cQ)
    |none=>cQ)
   |_=>cQ)
  |none=>cQ)
 |_=>cQ
def aV(C:Ctx)(b:Builtin)(F:aI)(args:List Operand):fy:=
 match b,args with
 |.append,[s,x]=>xc C F s x
 |.len,[x]=>(match F with|t::_=>Lv C t x|_=>cQ)
 |.cap,[x]=>(match F with|t::_=>a0b C t x|_=>cQ)
 |.copy,[d,s]=>MF C F d s
 |.delete,[m,k]=>(match F with|t::_=>wT C t m k|_=>cQ)
 |.clear,[x]=>CJ C F x
 |.max,[x,y]=>mmK true x y
 |.min,[x,y]=>mmK false x y
 |.unsafeSliceData,[x]=>bZ (λe q=>V.cK ((ax x).get e) (λi o n _=>aR (Nat.beq n 0) false (q (.ptr i o))) (q .bg) false)
 |.unsafeString,[p,n]=>IY C F p n
 |_,_=>cQ
def a81(x:Nat)(l:aI):Bool:=cE false (λy _ r=>aR (Nat.beq x y) true r) l
def Cc(d:List (V×V×Nat))(c a:Nat)(k:aI->Bool):Bool:=
 cE (λa k=>aR (Nat.ble a c) (k []) false) (λx _ r a k=>gK x (λq y=>gK y (λ_ b=>aR (Nat.ble a b) (V.wc q (λn=>gy (Nat.add b 1) (λb=>r b (λl=>k (n::l))))) false))) d a k
def a3Y(x:Nat)(l:aI)(k:aI->Bool):Bool:=
 cE (λk=>k [x]) (λy t r k=>aR (Nat.ble x y) (k (x::y::t)) (r (λl=>k (y::l)))) l k
def Eb(l:aI)(k:aI->Bool):Bool:=cE (λk=>k []) (λx _ r k=>r (λl=>a3Y x l k)) l k
def Eg(l:aI)(a:Nat)(k:Bool):Bool:=cE (λ_=>k) (λx _ r a=>aR (Nat.ble a x) (gy (Nat.add x 1) r) false) l a
def aoN(c:Nat)(s:aI)(q:aY):Bool:=cE (λ_=>q (.ik .i64 (.negSucc 0))) (λb _ r i=>aR (Nat.beq b c) (aR (Nat.ble i cO) (q (.num i)) false) (gy (Nat.add i 1) r)) s 0
def arx(c:Nat)(s:aI)(q:aY):Bool:=cE (λn=>aR (Nat.ble n cO) (q (.num n)) false) (λb _ r n=>aR (Nat.beq b c) (gy (Nat.add n 1) r) (r n)) s 0
def a0m(args:ay)(k:Bool):Bool:=ek args k (λ_ _=>false)
def MY(args:ay)(k:aY):Bool:=ek args false (λx t=>a0m t (k x))
def SH(args:ay)(k:V->aY):Bool:=ek args false (λx t=>MY t (k x))
def ak1(args:ay)(k:V->V->aY):Bool:=ek args false (λx t=>SH t (k x))
def V.DA(M:IntKind)(v:V)(q:Int->Bool):Bool:=V.ec v (λk n=>aR (rV k M) (q n) false)
structure EK where
 run:ay->Heap->cR->Bool
def a4O(C:Ctx):Ext->EK
 |.xd M=>⟨λargs h k=>MY args (λp=>V.dW p (λi o=>jT i o h (λv=>V.DA M v (λ_=>k v h))))⟩
 |.yu=>⟨λargs h k=>SH args (λp v=>V.dW p (λi o=>V.ec v (λ_ _=>mM i o v h (λh=>k cA h))))⟩
 |.IA M=>⟨λargs h k=>SH args (λp d=>V.dW p (λi o=>jT i o h (λv=>V.DA M v (λn=>V.DA M d (λm=>mv M (M.wrap (n+m)) (λv=>mM i o v h (λh=>k v h)))))))⟩
 |.a0p M=>⟨λargs h k=>ak1 args (λp N new=>V.dW p (λi o=>jT i o h (λv=>V.DA M v (λa=>V.DA M N (λb=>V.DA M new (λ_=>aR (mR a b) (mM i o new h (λh=>k (.bool true) h)) false))))))⟩
 |.GX=>⟨λargs h k=>a0m args (k cA h)⟩
 |.race=>⟨λargs h k=>MY args (λp=>V.dW p (λ_ _=>k cA h))⟩
 |.same=>⟨λargs h k=>MY args (λx=>k x h)⟩
 |.holds=>⟨λargs h k=>a0m args (k (.bool true) h)⟩
 |.Ap=>⟨λargs h k=>SH args (λs c=>V.ig s (λs=>V.DA .u8 c (λn=>rT n (λn=>aR (Nat.blt n 256) (aoN n s (λv=>k v h)) false) (λ_=>false))))⟩
 |.count=>⟨λargs h k=>SH args (λs c=>V.ig s (λs=>V.DA .u8 c (λn=>rT n (λn=>aR (Nat.blt n 256) (arx n s (λv=>k v h)) false) (λ_=>false))))⟩
 |.GY e=>⟨λargs h k=>MY args (λn=>V.wc n (λn=>aR (Nat.ble n 65536) (fH (.row e 0 0 false [] c1e) h (λi h=>k (.sl i 0 n (.less 0 1)) h)) false))⟩
 |.sorted e L=>
  let P:=(match C.ty e with|some R=>R.cW|none=>[])
  ⟨λargs h k=>MY args (λg=>V.sx g (λf first cap=>aR (a81 f L) (a0m first (MY cap (λp=>V.dW p (λj o=>aR (Nat.beq o 0) (jT j o h (λm=>V.cH m (λi=>O.cH (bL i h) (λF c=>Cc F c 0 (λu=>ek u (k .au h) (λ_ _=>Eb u (λu=>Eg u 0 (bQ (u.map V.num) [] (λH=>gy (eK H) (λn=>aR (Nat.ble n 65536) (ey e n 0 P H h (λi h=>k (.sl i 0 n (.less 0 1)) h)) false)))))))) (k .au h))) false)))) false) (λ_=>false))⟩
 |.mB r w y=>
  let z:=[V.ik .i64 (.negSucc 0),.ik .i64 (.negSucc 0),.ik .i64 (.negSucc 0)]
  let A:=[V.ik .i64 (.negSucc 0),.ik .i64 (.negSucc 0),.num 0]
  ⟨λargs h k=>SH args (λl n=>V.DA .i64 l (λl=>rT l (λl=>V.DA .i64 n (λn=>rT n (λn=>aR (Nat.ble l 20000) (aR (Nat.ble n 20000)
   (gy (Nat.mul n 3) (λt=>gy (Nat.mul l 3) (λl3=>dh h z t (λq=>dh h A l3 (λE=>dh h [] 2 (λc=>fH (.row w t 0 true z q) h (λi h=>fH (.row y l3 0 true A E) h (λj h=>lq [.sl i 0 n (.known n),.sl j 0 l (.known l)] 0 c (λc=>fH (.row r 2 0 true [.au] c) h (λi h=>k (.ptr i 0) h)))))))))) false) false) (λ_=>false))) (λ_=>false)))⟩
structure CK where
 run:Rt->ay->Heap->cR->Bool
def eW(C:Ctx)(f:Nat):CK:=
 match C.fn f with
 |some j=>(match j.ext with
  |some e=>let x:=a4O C e;⟨λ_ args h k=>x.run args h k⟩
  |none=>(match j.body with
   |some _=>⟨λz args h k=>z.call f args h k⟩
   |none=>⟨λ_ _ _ _=>false⟩))
 |none=>⟨λ_ _ _ _=>false⟩
def sO(C:Ctx)(f:Nat):CK:=
 match C.fn f with
 |some j=>(match j.ext,j.body with
  |none,some _=>⟨λz args h k=>z.call f args h k⟩
  |_,_=>⟨λ_ _ _ _=>false⟩)
 |none=>⟨λ_ _ _ _=>false⟩
def CX(ps:aI)(args:ay)(e:Env)(k:Env->Bool):Bool:=
 cE (λargs e=>ek args (k e) (λ_ _=>false)) (λp _ r args e=>ek args false (λv t=>(ep p).put v e (λe=>r t e))) ps args e
def Bp(z:Rt)(l:Nat)(args:ay)(h:Heap)(k:cR):Bool:=
 O.i0 (bL l h) (λ_ _ fn e i F q _=>CX i args e (λe=>gy (Nat.add l 1) (λrd=>
  z.code fn F rd [] e h (λL e h=>
   O.i0 (bL l h) (λm d r u i a b c=>LS.tH m (eX l (.loop .busy d r u i a b c) h (λh=>
    z.code fn q rd L e h
     (λ_ _ h=>O.i0 (bL l h) (λ_ _ fn u i a b c=>eX l (.loop .ready none fn u i a b c) h (λh=>k (.bool true) h)))
     (λx _ _ h=>O.i0 (bL l h) (λ_ _ fn u i a b c=>eX l (.loop .done (some x) fn u i a b c) h (λh=>k (.bool false) h)))))))
   (λ_ _ _ _=>false))))
def sN(C:Ctx)(z:Rt)(g:V)(args:ay)(h:Heap)(k:cR):Bool:=
 V.sx g (λf first cap=>bQ args cap (λa=>bQ first a (λa=>(eW C f).run z a h k))) (λl=>Bp z l args h k)
structure MK where
 run:V->(Nat->aY)->Bool
def TW(C:Ctx)(name:String)(t:Nat):MK:=
 match C.met t,C.ty t with
 |some g,some a=>(match g.find? (·.name==name) with
  |some m=>(match m.path.toList,m.func with
   |[],some (f,e)=>(match a.desc,e with
    |.pointer _,true=>⟨λv k=>k f v⟩
    |.pointer _,false=>⟨λ_ _=>false⟩
    |_,false=>⟨λv k=>k f v⟩
    |_,true=>⟨λ_ _=>false⟩)
   |_,_=>⟨λ_ _=>false⟩)
  |none=>⟨λ_ _=>false⟩)
 |_,_=>⟨λ_ _=>false⟩
def kb(C:Ctx)(c:Call):fy:=
 let as:=ir c.args.toList
 match c.callee with
 |.value (.func f)=>let g:=eW C f;⟨λz e h k=>as.run e (λargs=>g.run z args h k)⟩
 |.value f=>⟨λz e h k=>as.run e (λargs=>V.live ((ax f).get e) (λg=>sN C z g args h k))⟩
 |.builtin b=>aV C b c.argTypes.toList c.args.toList
 |.invoke r name=>⟨λz e h k=>as.run e (λargs=>V.ng ((ax r).get e) (λt v=>(TW C name t).run v (λf v=>(eW C f).run z (v::args) h k)) false)⟩
def sD:IntKind->Nat
 |.i8=>128 | .i16=>32768 | .i32=>2147483648 | .i64=>9223372036854775808 | .u8=>256 | .u16=>65536 | .u32=>4294967296 | .u64=>18446744073709551616
def oF(C:Ctx)(src c:Nat)(x:Operand):fy:=
 match C.ty src,C.ty c with
 |some N,some j=>(match N.desc,j.desc with
  |.int _,.int k=>let top:=sD k
   bZ (λe q=>V.ec ((ax x).get e) (λ_ n=>rT n (λm=>aR (Nat.blt m top) (mv k (.ofNat m) q) (mv k (k.wrap (.ofNat m)) q)) (λm=>mv k (k.wrap (.negSucc m)) q)))
  |.string,.string=>bZ (λe q=>V.ig ((ax x).get e) (λs=>q (.str s)))
  |.string,.slice p=>(match C.ty p with
   |some l=>(match l.desc with
    |.int .u8=>let P:=l.cW
     ⟨λ_ e h k=>V.ig ((ax x).get e) (λs=>bQ (s.map λb=>V.ik .u8 (.ofNat b)) [] (λH=>gy (eK H) (λn=>ey p n 0 P H h (λi h=>k (.sl i 0 n (.less 0 1)) h))))⟩
    |_=>cQ)
   |none=>cQ)
  |.slice p,.string=>(match C.ty p with
   |some l=>(match l.desc with
    |.int .u8=>⟨λ_ e h k=>V.cK ((ax x).get e) (λi o n _=>fh i o n h (λr=>rE r (λs=>k (.str s) h))) (k (.str []) h) false⟩
    |_=>cQ)
   |none=>cQ)
  |.pointer t,.unsafePointer=>(match C.ty t with
   |some g=>(match g.sz with
    |0=>cQ
    |_=>⟨λ_ e h k=>V.dW ((ax x).get e) (λi o=>O.eO (bL i h) (λ_ n _ _ _ _=>aR (Nat.blt o n) (k (.ptr i o) h) false))⟩)
   |none=>cQ)
  |.unsafePointer,.pointer u=>(match C.ty u with
   |some d=>let f:=d.sz
    (match d.sz with
    |0=>cQ
    |_=>⟨λ_ e h k=>V.dW ((ax x).get e) (λi o=>O.eO (bL i h) (λa n _ _ _ _=>aR (Nat.beq a u) (aR (Nat.beq o 0) (aR (Nat.ble f n) (k (.ptr i o) h) false) false) false))⟩)
   |none=>cQ)
  |_,_=>cQ)
 |_,_=>cQ
def tN(C:Ctx)(x:Operand)(a:Nat)(ok:Bool):fy:=
 match C.ty a with
 |some g=>(match g.desc with
  |.interface _=>cQ
  |_=>let z:=g.zero
   (match ok with
   |true=>bZ (λe q=>V.ng ((ax x).get e) (λt v=>aR (Nat.beq t a) (q (.cI [v,.bool true])) (q (.cI [z,.bool false]))) (q (.cI [z,.bool false])))
   |false=>bZ (λe q=>V.ng ((ax x).get e) (λt v=>aR (Nat.beq t a) (V.live v q) false) false)))
 |none=>cQ
def th(C:Ctx)(t:Nat)(x:Operand):fy:=
 match C.ty t with
 |some g=>(match g.desc with
  |.string=>⟨λ_ e h k=>V.ig ((ax x).get e) (λs=>fH (.yI s 0) h (λi h=>k (.ptr i 0) h))⟩
  |_=>cQ)
 |none=>cQ
def TP(a:Operand)(c:Bool):fy:=
 match c with
 |true=>⟨λ_ e h k=>V.dW ((ax a).get e) (λi o=>aR (Nat.beq o 0) (O.Pq (bL i h) (λs pos=>eR pos s (λr=>ek r (k (.cI [.bool false]) h)
   (λb _=>aR (Nat.blt b 128) (aR (Nat.ble pos cO) (gy (Nat.add pos 1) (λp=>eX i (.yI s p) h (λh=>k (.cI [.bool true,.num pos,.ik .i32 (.ofNat b)]) h))) false) false)))) false)⟩
 |false=>cQ
def qm(C:Ctx)(o:Op):fy:=
 match o with
 |.move x=>bZ (λe q=>V.live ((ax x).get e) q)
 |.assign x=>bZ (λe q=>V.live ((ax x).get e) q)
 |.pick c a b=>bZ (λe q=>V.ja ((ax c).get e) (λt=>aR t (V.live ((ax a).get e) q) (V.live ((ax b).get e) q)))
 |.binOp op t x y _=>da C op t x y
 |.load t a=>bE C t a
 |.store t a x=>cZ C t a x
 |.fieldAddr s x f=>ak C s x f
 |.nilCheck x=>bZ (λe q=>V.oq ((ax x).get e) q)
 |.indexAddr t x i=>bR C t x i
 |.call c=>kb C c
 |.build t parts=>bJ C t parts.toList
 |.alloc t=>dK C t
 |.box t x=>fl C t x
 |.buildSlice t n parts=>cX C t n parts.toList
 |.extract t p=>bZ (λe q=>V.kD ((ax t).get e) (λr=>jZ r p (λv=>V.live v q)))
 |.field t x f=>lS C t x f
 |.index t x i=>lQ C t x i
 |.unOp op _ x=>unK op x
 |.convert s d x=>oF C s d x
 |.makeInterface t x=>(match C.ty t with
  |some g=>(match g.desc with | .interface _=>cQ|_=>bZ (λe q=>V.live ((ax x).get e) (λv=>q (.iface t v))))
  |none=>cQ)
 |.makeFunc fn first cap=>(match fn with
  |.func f=>let a:=ir first.toList;let b:=ir cap.toList;bZ (λe q=>a.run e (λa=>b.run e (λb=>q (.fn f a b))))
  |_=>cQ)
 |.makeMap _ none=>⟨λ_ _ h k=>fH (.map [] 0) h (λi h=>k (.map i) h)⟩
 |.makeMap t (some x)=>(match C.ty t with
  |some g=>(match g.desc with | .map _ _=>⟨λ_ e h k=>V.ec ((ax x).get e) (λ_ _=>fH (.map [] 0) h (λi h=>k (.map i) h))⟩|_=>cQ)
  |none=>cQ)
 |.makeSlice t l c=>dw C t l c
 |.slice t x w F j=>gq C t x w F j
 |.lookup t x i ok=>gx C t x i ok
 |.mapUpdate t m k x=>gH C t m k x
 |.insert t m k x=>gH C t m k x
 |.mapEntry t m k=>vj C t m k
 |.entryStore _ m s x=>mA m s x
 |.range t x=>th C t x
 |.next it s=>TP it s
 |.typeAssert x _ t ok=>tN C x t ok
 |_=>cQ
structure iR where
 run:Rt->List D->Env->Heap->cF->Bool
def tT(nt:Nat):Option Nat->EP
 |none=>⟨λ_ e k=>k e⟩
 |some d=>match Nat.blt d nt with
  |true=>ep d
  |false=>⟨λ_ _ _=>false⟩
def pJ(C:Ctx)(nt:Nat)(o:Oper)(r:iR):iR:=
 match o.op with
 |.defer c=>(match c.callee with
  |.value f=>let as:=ir c.args.toList;let p:=tT nt o.dst
   ⟨λz L e h k=>as.run e (λargs=>V.sx ((ax f).get e) (λf first cap=>bQ args cap (λa=>bQ first a (λa=>p.put cA e (λe=>r.run z (.call f a::L) e h k)))) (λ_=>false))⟩
  |_=>⟨λ_ _ _ _ _=>false⟩)
 |op=>let x:=qm C op;let p:=tT nt o.dst
  ⟨λz L e h k=>x.run z e h (λv h=>p.put v e (λe=>r.run z L e h k))⟩
def qK(nt:Nat)(o:Oper)(r:iR):iR:=let p:=tT nt o.dst;⟨λz L e h k=>p.put cA e (λe=>r.run z L e h k)⟩
def fk(all:List Oper)(j:Nat):Option Nat:=(all[j]?).bind (·.dst)
def oe(C:Ctx)(nt:Nat)(all:List Oper)(o:Oper)(r:iR):iR:=
 match o.guard with
 |none=>pJ C nt o r
 |some (j,n)=>match fk all j with
  |none=>qK nt o r
  |some g=>match Nat.blt g nt with
   |false=>⟨λ_ _ _ _ _=>false⟩
   |true=>let a:=pJ C nt o r;let b:=qK nt o r
    (match n with
    |true=>⟨λz L e h k=>V.guard ((eg g).get e) (λt=>aR t (a.run z L e h k) (b.run z L e h k))⟩
    |false=>⟨λz L e h k=>V.kZ ((eg g).get e) (λt=>aR t (b.run z L e h k) (a.run z L e h k)) (V.kD ((eg g).get e) (λ_=>b.run z L e h k))⟩)
def w6(C:Ctx)(nt:Nat)(all l:List Oper):iR:=cE ⟨λ_ L e h k=>k L e h⟩ (λo _ r=>oe C nt all o r) l
def JF(C:Ctx)(nt:Nat)(all:List Oper)(o:Oper)(r:iR):iR:=
 let x:=qm C o.op
 let t:iR:=match o.dst with
  |some d=>⟨λz L e h k=>x.run z e h (λv _=>aR (V.same v ((eg d).get e)) (r.run z L e h k) false)⟩
  |none=>⟨λz L e h k=>x.run z e h (λ_ _=>r.run z L e h k)⟩
 match o.guard with
 |none=>t
 |some (j,n)=>match fk all j with
  |none=>r
  |some g=>match n with
   |true=>⟨λz L e h k=>V.guard ((eg g).get e) (λc=>aR c (t.run z L e h k) (r.run z L e h k))⟩
   |false=>⟨λz L e h k=>V.kZ ((eg g).get e) (λc=>aR c (r.run z L e h k) (t.run z L e h k)) (V.kD ((eg g).get e) (λ_=>r.run z L e h k))⟩
def idK:iR:=⟨λ_ L e h k=>k L e h⟩
def lH(C:Ctx)(nt:Nat)(all:List Oper)(l:List Oper)(r:iR):iR:=cE r (λo _ r=>JF C nt all o r) l
def jW(C:Ctx)(nt:Nat)(all:List Oper)(b:List (Oper×List Oper)):iR:=cE idK (λa _ r=>oe C nt all a.1 (lH C nt all a.2 r)) b
def bO(all:List Oper)(i:Nat):Oper:=(all[i]?).getD default
def je(all:List Oper)(l:List (Nat×aI)):List (Oper×List Oper):=l.map λp=>(bO all p.1,p.2.map (bO all))
structure iz where
 run:Rt->Nat->List D->Env->Heap->cF->(X->cF)->Bool
def Tl:iz:=⟨λ_ _ L e h M _=>M L e h⟩
def a9r:iz:=⟨λ_ _ _ _ _ _ _=>false⟩
def ij(C:Ctx)(fn:Nat):Nat:=match C.fn fn with|some j=>j.nt|none=>0
def wD(o:Oper):Bool:=match o.op with | .defer _=>true|_=>false
def jc(C:Ctx)(fn id:Nat)(ops:Array Oper)(a:Bool):iz:=
 match a with
 |true=>(match C.dr fn id with
  |none=>a9r
  |some l=>let r:=jW C (ij C fn) ops.toList (je ops.toList l);⟨λz _ L e h M _=>r.run z L e h M⟩)
 |false=>
  let r:=w6 C (ij C fn) ops.toList ops.toList
  (match ops.toList.any wD with
  |true=>⟨λz rd L e h M _=>aR (Nat.beq rd 0) (r.run z L e h M) false⟩
  |false=>⟨λz _ L e h M _=>r.run z L e h M⟩)
def agw(a b:iz):iz:=⟨λz rd L e h M j=>a.run z rd L e h (λL e h=>b.run z rd L e h M j) j⟩
def aaT(x:Operand)(a b:iz):iz:=⟨λz rd L e h M j=>V.ja ((ax x).get e) (λt=>aR t (a.run z rd L e h M j) (b.run z rd L e h M j))⟩
def a5B(id:Nat)(a:iz):iz:=⟨λz rd L e h M j=>a.run z rd L e h M (λx L e h=>X.block x id (M L e h) (j x L e h))⟩
def iq:Nat:=1000000
def a3x(a:iz):iz:=⟨λz rd L e h _ j=>rounds (λ(_:List D) (_:Env) (_:Heap)=>false) (λr L e h=>a.run z rd L e h r j) iq L e h⟩
def Fe(x:X):iz:=⟨λ_ _ L e h _ j=>j x L e h⟩
def a2b(fn:Nat)(q:Code)(a:iz):iz:=
 ⟨λz rd L e h M j=>a.run z rd L e h M
  (rounds (λ(_:X) (_:List D) (_:Env) (_:Heap)=>false)
   (λr x L e h=>X.uS x (λl=>jv (findLabel q l) (j x L e h) (λc=>z.code fn c rd L e h M r)) (j x L e h)) iq)⟩
def tm(C:Ctx)(z:Rt)(fn:Nat)(ps:aI)(F q:Code)(g:Nat)(first cap:ay)(c:Nat)(ds:List D)(e:Env)(h:Heap)(M:cF)(j:X->cF):Bool:=
 fH (.loop .ready none fn e ps F q c) h (λl h=>bQ first (.yield l::cap) (λa=>(sO C g).run z a h (λ_ h=>O.i0 (bL l h) (λm L fn u ps a b c=>LS.tw m (eX l (.loop .exhausted L fn u ps a b c) h (λh=>jv L (M ds e h) (λx=>j x ds e h)))))))
def Bu(C:Ctx)(fn:Nat)(f:Operand)(ps:aI)(F q:Code):iz:=
 match ps.all (Nat.blt · (ij C fn)) with
 |false=>a9r
 |true=>⟨λz rd L e h M j=>V.sx ((ax f).get e) (λg first cap=>
  aR (Nat.beq rd 0)
   (fH (.sJ (some [])) h (λc h=>tm C z fn ps F q g first cap c (.collected c::L) e h M j))
   (O.i0 (bL (Nat.sub rd 1) h) (λ_ _ _ _ _ _ _ c=>tm C z fn ps F q g first cap c L e h M j)))
  (λ_=>false)⟩
def cc(C:Ctx)(fn:Nat)(c:Code):iz:=Code.rec (motive:=λ_=>iz)
 (Tl)
 (λid ops d=>jc C fn id ops d)
 (λa b e j=>agw e j)
 (λx a b e j=>aaT x e j)
 (λid b j=>a5B id j)
 (λb j=>a3x j)
 (λf i a b e j=>Bu C fn f i.toList a b)
 (λid=>Fe (.exit id))
 (λb j=>a2b fn b j)
 (λl=>Tl)
 (λl=>Fe (.goto l))
 (Fe .ret)
 (λs=>a9r)
 c
def rD(C:Ctx)(f:Nat):ay->Rt->Heap->(Heap->Bool)->Bool:=
 match C.fn f with
 |some j=>(match j.ext,j.body with
  |none,some _=>λargs z h k=>z.zm f args h k
  |_,_=>λ_ _ _ _=>false)
 |none=>λ_ _ _ _=>false
def fO(C:Ctx)(z:Rt)(ds:List D)(h:Heap)(k:Heap->Bool):Bool:=
 cE (λh=>k h) (λd _ r h=>onD d (λf args=>rD C f args z h r)
  (λi=>O.qR (bL i h) (λc=>jv c false (λl=>ek l (eX i (.sJ none) h r) (λ_ _=>false))))) ds h
structure as5 where
 run:Env->Heap->(ay->Bool)->Bool
def mX(C:Ctx)(l:List ResultVar):as5:=cE ⟨λ_ _ k=>k []⟩ (λx _ r=>match x with
 |.tmp t=>⟨λe h k=>V.live ((eg t).get e) (λv=>r.run e h (λs=>k (v::s)))⟩
 |.cell a t=>let o:=bE C t (.tmp a);⟨λe h k=>o.run ⟨λ_ _ _ _=>false,λ_ _ _ _=>false,λ_ _ _ _ _ _ _ _=>false⟩ e h (λv _=>r.run e h (λs=>k (v::s)))⟩) l
def xQ(s:ay)(k:aY):Bool:=ek s (k cA) (λv t=>ek t (k v) (λ_ _=>k (.cI s)))
def fnK(C:Ctx)(f:Nat):CK:=
 match C.fn f with
 |none=>⟨λ_ _ _ _=>false⟩
 |some j=>match j.body with
  |none=>⟨λ_ _ _ _=>false⟩
  |some c=>let b:=cc C f c;let a:=mX C j.res;let d:=j.nt
   ⟨λz args h k=>aR (Nat.ble (eK args) d)
    (cE (λ(_:Nat) e=>
      b.run z 0 [] e h (λL e h=>fO C z L h (λh=>a.run e h (λs=>xQ s (λv=>k v h))))
       (λx L e h=>X.yL x (fO C z L h (λh=>a.run e h (λs=>xQ s (λv=>k v h))))))
     (λv _ r i e=>(ep i).put v e (λe=>gy (Nat.add i 1) (λi=>r i e))) args 0 DN) false⟩
def fnD(C:Ctx)(f:Nat):Rt->ay->Heap->(Heap->Bool)->Bool:=
 match C.fn f with
 |none=>λ_ _ _ _=>false
 |some j=>match j.body with
  |none=>λ_ _ _ _=>false
  |some c=>let b:=cc C f c;let a:=mX C j.res;let d:=j.nt
   λz args h k=>aR (Nat.ble (eK args) d)
    (cE (λ(_:Nat) e=>
      b.run z 0 [] e h (λL e h=>ek L (a.run e h (λs=>k h)) (λ_ _=>false))
       (λx L e h=>X.yL x (ek L (a.run e h (λs=>k h)) (λ_ _=>false))))
     (λv _ r i e=>(ep i).put v e (λe=>gy (Nat.add i 1) (λi=>r i e))) args 0 DN) false
def rt0:Rt:=⟨λ_ _ _ _=>false,λ_ _ _ _=>false,λ_ _ _ _ _ _ _ _=>false⟩
def rtS(C:Ctx)(r:Rt):Rt:=⟨λf args h k=>(fnK C f).run r args h k,λf args h k=>fnD C f r args h k,λfn c rd L e h M j=>(cc C fn c).run r rd L e h M j⟩
def rtN(C:Ctx)(n:Nat):Rt:=levels rt0 (rtS C) n
def a3r(p:Program)(i:Nat)(t:TypeInfo):TI:=
 let z:=(match t.zero with|some z=>kV z|none=>cA)
 {sz:=t.size,bytes:=t.bytes,desc:=(p.underlying i).getD .invalid,zero:=z,cW:=cellsOf z,yE:=p.stoodInHeld i,guard:=p.eqGuardType p.depth i}
def V.LF:aY
 |.undef=>false
 |_=>true
def a6R(p:Program)(i:Nat)(t:TypeInfo):Bool:=
 match t.zero,p.underlying i with
 |some z,some d=>aR (V.LF (kV z)) (aR ((cellsOf (kV z)).all V.de) (aR (Nat.beq (eK (cellsOf (kV z))) t.size) (aR (aR (iC d) true (Nat.beq t.size 1))
   (match d with | .struct l=>l.toList.all λf=>(p.info? f.type).isSome|_=>true) false) false) false) false
 |_,_=>false
def T3(α:Type):Type:=dj (dj (dj α))
def GG(α:Type)(d v:α)(n:Nat)(s:T3 α)(k:T3 α->Bool):Bool:=
 (mE (d0 n)).put α v ((oL (Nat.div n 16)).get (dj α) (bY α d) s) (λb=>(oL (Nat.div n 16)).put (dj α) b s k)
def wG(α:Type)(d:α)(n:Nat)(s:T3 α):α:=(mE (d0 n)).get α d ((oL (Nat.div n 16)).get (dj α) (bY α d) s)
def RO(α:Type)(d:α):T3 α:=bY _ (bY _ (bY _ d))
def abi(α:Type)(l:List (Option α))(k:T3 (Option α)->Bool):Bool:=
 cE (λ(_:Nat) s=>k s) (λx _ r i s=>GG (Option α) none x i s (λs=>gy (Nat.add i 1) (λi=>r i s))) l 0 (RO _ none)
def EL(p:Program):List TypeInfo->Nat->List (Option TI)
 |[],_=>[]
 |t::r,i=>cond (a6R p i t) (some (a3r p i t)) none::EL p r (Nat.add i 1)
def wq(ext:Nat->Option Ext):List Func->Nat->List (Option FI)
 |[],_=>[]
 |f::r,i=>some {nt:=f.ntmps,res:=f.results.toList,body:=f.body,ext:=ext i}::wq ext r (Nat.add i 1)
def mkCtx(p:Program)(ty:Nat->Option TI)(fn:Nat->Option FI)(gl:Nat->Option ay)(dr:Nat->Nat->Option (List (Nat×aI))):Ctx:=
 {ty:=ty,fn:=fn,gl:=gl,met:=λt=>(p.types[t]?).map (·.methods.toList),dr:=dr}
def aga(α:Type)(l:List (Nat×α))(k:T3 (Option α)->Bool):Bool:=
 cE (λs=>k s) (λx _ r s=>GG (Option α) none (some x.2) x.1 s (λs=>r s)) l (RO _ none)
def aji{α:Type}(l:List (Nat×α))(i:Nat):Option α:=cE none (λx _ r=>cond (Nat.beq x.1 i) (some x.2) r) l
abbrev Drs:=List (Nat×List (Nat×List (Nat×aI)))
def drF(t:Nat->Option (List (Nat×List (Nat×aI))))(f id:Nat):Option (List (Nat×aI)):=
 match t f with
 |some l=>aji l id
 |none=>none
def zI(p:Program)(ext:Nat->Option Ext)(x:Nat->Option ay)(m:Drs)(g:Ctx->Bool):Bool:=
 abi TI (EL p p.types.toList 0) (λa=>abi FI (wq ext p.funcs.toList 0) (λb=>aga _ m (λc=>g (mkCtx p (λt=>wG _ none t a) (λf=>wG _ none f b) x (drF (λf=>wG _ none f c))))))
def iT(p:Program)(ext:Nat->Option Ext)(x:Nat->Option ay)(m:Drs)(a f:Nat)(args:ay)(k:cR):Bool:=
 zI p ext x m (λC=>(rtN C a).call f args yY k)
end
end Go.Ev
