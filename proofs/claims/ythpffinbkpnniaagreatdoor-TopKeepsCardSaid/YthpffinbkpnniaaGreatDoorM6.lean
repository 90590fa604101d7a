import Derived.Test.YthpffinbkpnniaaGreatDoorM5
import Derived.OrdersIn
set_option linter.all false
set_option maxRecDepth 100000
namespace Go.Ev
open Go
variable{h h':Heap}{l nt:Nat}{ρ:Ren}{w':World}{T:eV}
section
variable {P:Program} {C:Ctx} {ρ:Ren}
def a4P:X->Exit
 |.exit id=>.exit id
 |.goto l=>.goto l
 |.ret=>.ret
def SM(ρ:Ren)(rd:Nat)(r:Option Nat):Prop:=(rd=0/\r=none)\/∃l aF1,rd=l+1/\ρ l=some aF1/\r=some aF1.b
def SM.mono{q:Ren}(h:∀i aF1,ρ i=some aF1->q i=some aF1){rd:Nat}{r:Option Nat}(x:SM ρ rd r):SM q rd r:=by
 rcases x with x|⟨l,aF1,A,N,M⟩
 .exact .inl x
 .exact .inr ⟨l,aF1,A,h _ _ N,M⟩
def FD(P:Program)(C:Ctx)(ρ:Ren)(h:Heap)(w:World)(nt:Nat)(k:X->cF)(aEV:Exit->Act->World->Prop):Prop:=
 ∀x n o R q p l,k x n o R=true->jR q nt n o p->aO P C q R l->Le ρ h w q R l->aEV (a4P x) p l
def FD.step{q:Ren}{w:World}{k:X->cF}{aEV:Exit->Act->World->Prop}(E:FD P C ρ h w nt k aEV)(hl:Le ρ h w q h' w'):FD P C q h' w' nt k aEV:=
 λx L e h ρ a w S N y n=>E x L e h ρ a w S N y (hl.trans n)
def gF(T:eV)(P:Program)(C:Ctx)(nt:Nat)(x:iz)(c:Code):Prop:=
 ∀(z:Rt) (rd:Nat) (r:Option Nat) (L:List D) (e:Env) (h:Heap) (M:cF) (j:X->cF) (ρ:Ren) (a:Act) (w:World) (t:Exit->Act->World->Prop),T z->SM ρ rd r->
  x.run z rd L e h M j=true->jR ρ nt L e a->aO P C ρ h w->Di P C ρ h w nt M (t .normal)->FD P C ρ h w nt j t->c.wpIn (rU r) 0 P t a w
def ZX:gF T P C nt Tl .skip:=
 λz rd r L e h M j ρ a w t _ _ S N y g _=>wpIn_skip (g L e h ρ a w S N y (Le.refl _ _ _))
def RV:gF T P C nt Tl (.label l):=
 λz rd r L e h M j ρ a w t _ _ S N y g _=>wpIn_label (g L e h ρ a w S N y (Le.refl _ _ _))
def CH{c:Code}:gF T P C nt a9r c:=λz rd r L e h M j ρ a w t _ _ S=>G
def a00{id:Nat}:gF T P C nt (Fe (.exit id)) (.exit id):=
 λz rd r L e h M j ρ a w t _ _ S N y _ E=>wpIn_exit (E (.exit id) L e h ρ a w S N y (Le.refl _ _ _))
def ZZ:gF T P C nt (Fe (.goto l)) (.goto l):=
 λz rd r L e h M j ρ a w t _ _ S N y _ E=>wpIn_goto (E (.goto l) L e h ρ a w S N y (Le.refl _ _ _))
def a5a:gF T P C nt (Fe .ret) .ret:=
 λz rd r L e h M j ρ a w t _ _ S N y _ E=>wpIn_ret (E .ret L e h ρ a w S N y (Le.refl _ _ _))
def a59{x y:iz}{c d:Code}(S:gF T P C nt x c)(A:gF T P C nt y d):gF T P C nt (agw x y) (.seq c d):=by
 intro z rd r L e h M j ρ a w t v k u N s g E;refine wpIn_seq (S z rd r L e h _ j ρ a w _ v k u N s ?_ ?_)
 .intro i o R q p l f m b n;exact A z rd r i o R M j q p l t v (k.mono n.xh) f m b (g.step n) (E.step n)
 .intro x i o R q p l f m b n;have:=E x i o R q p l f m b n;cases x<;>exact this
def a01{x y:iz}{c d:Code}{o:Operand}(S:gF T P C nt x c)(p:gF T P C nt y d):gF T P C nt (aaT o x y) (.cond o c d):=by
 intro z rd r L e h M j ρ a w t v i u N f g E;obtain⟨b,s,u⟩:=oo (aJ N.env o) u;cases b with
 |true=>exact wpIn_cond_true s (S z rd r L e h M j ρ a w t v i G N f g E)
 |false=>exact wpIn_cond_false s (p z rd r L e h M j ρ a w t v i G N f g E)
def RX{id:Nat}{x:iz}{c:Code}(S:gF T P C nt x c):gF T P C nt (a5B id x) (.block id c):=by
 intro z rd r L e h M j ρ a w t v d u N y g E;refine wpIn_block (S z rd r L e h M _ ρ a w _ v d u N y g ?_);intro x n o R q p k f m b s;rcases X.SA.1 f with⟨rfl,A⟩|⟨H,A⟩
 .show Exit.inBlock id t (.exit id) p k;simp only[Exit.inBlock,if_true];exact g n o R q p k A m b s
 .have:=E x n o R q p k A m b s;cases x with
  |exit i=>have:i≠id:=λF=>W;show Exit.inBlock id t (.exit i) p k;simp only[Exit.inBlock,this,if_false];assumption
  |goto l=>trivial
  |ret=>trivial
def least{p:dF}(h:∃n,p n):∃n,p n/\∀m,p m->n<=m:=by
 obtain⟨n,g⟩:=h
 induction n using Nat.strongRecOn with
 |_ n H=>grind
def ZY{x:iz}{c:Code}(S:gF T P C nt x c):gF T P C nt (a3x x) (.loop c):=by
 intro z rd r L e h M j ρ a w t v d lx hA y hn hk
 let J (n:Nat) (p:Act) (l:World):Prop:=∃ds' o R q,rounds (λ(_:List D) (_:Env) (_:Heap)=>false) (λr L e h=>x.run z rd L e h r j) n ds' o R=true/\jR q nt ds' o p/\aO P C q R l/\Le ρ h w q R l
 classical
 let μ (p:Act) (l:World):Nat:=if s:∃n,J n p l then Classical.choose (least s) else 0
 refine wpIn_loop (λp l=>∃n,J n p l) μ ⟨iq,L,e,h,ρ,lx,hA,y,Le.refl _ _ _⟩ ?_;intro g H s;have hμ : μ g H=Classical.choose (least s):=W;have aam:=(NX (least s)).1;generalize hm:Classical.choose (least s)=m at aam hμ;obtain⟨ds',o,R,q,ahV,hA',kO,hL⟩:=aam;cases m with
 |zero=>trivial
 |succ m=>
  refine S z rd r ds' o R _ j q g H _ v (d.mono hL.xh) ahV hA' kO ?_ ?_
  .intro ds2 b N E i u a45 hA2 k f;have hj:J m i u:=⟨ds2,b,N,E,a45,hA2,k,hL.trans f⟩;refine⟨W,?_⟩;have hex:∃n,J n i u:=W;have A: μ i u=Classical.choose (least hex):=W;rw[A,hμ];exact NQ ((NX (least hex)).2 m hj) (xu m)
  .intro F ds2 b N E i u a45 hA2 k f;have:=hk F ds2 b N E i u a45 hA2 k (hL.trans f);cases F<;>exact this
def MH{fn id:Nat}{ops:Array Oper}(f:∀o:Oper,(∀c,o.op≠ .defer c)->eY T P C (qm C o.op) o):gF T P C (ij C fn) (jc C fn id ops false) (.region id ops false):=by
 intro z rd r L e h i m ρ a w t v d u N y g E;have A:(∀o∈ops.toList,(∃c,o.op= .defer c)->r=none)->(w6 C (ij C fn) ops.toList ops.toList).run z L e h i=true->(Code.region id ops false).wpIn (rU r) 0 P t a w:=by intro M S;refine wpIn_region ?_;have:=Tw (P:=P) (aEV:=t) f v M ops.toList 0 ρ L e h a w rfl S N y g;rw[List.range_eq_range',←xw];exact this
 unfold jc at u
 dsimp only at u
 split at u
 .obtain ⟨s,u⟩:=aN.1 u;have s:=br s;refine A (λ_ _ _=>?_) u;rcases d with⟨_,d⟩|⟨l,j,k,_⟩
  .trivial
  omega
 .rename_i x;refine A (λo b F=>?_) u;exfalso;have:=List.any_eq_false.1 x o b;obtain⟨c,F⟩:=F;simp[wD,F] at this
end
variable{e':Env}{d t:Nat}{k:cR}
section
variable {P:Program} {C:Ctx}
def pY{e:Env}:∀{l:List Operand} {k:ay->Bool},(∀x∈l,(ax x).get e=(ax x).get e')->(ir l).run e k=(ir l).run e' k
 |[],k,_=>rfl
 |x::l,k,h=>by show V.live ((ax x).get e) (λv=>(ir l).run e (λs=>k (v::s)))=V.live ((ax x).get e') (λv=>(ir l).run e' (λs=>k (v::s)));rw[h x J1];congr 1;funext v;exact pY λy p=>W
def jU:List Pce->List Operand
 |[]=>[]
 |.zero _::l=>jU l
 |.one x::l=>x::jU l
 |.agg _ x::l=>x::jU l
def wS{e:Env}:∀{l:List Pce} {k:ay->Bool},(∀x∈jU l,(ax x).get e=(ax x).get e')->(iS l).run e k=(iS l).run e' k
 |[],k,_=>rfl
 |.zero v::l,k,h=>wS (l:=l) h
 |.one x::l,k,h=>by show V.one ((ax x).get e) (λv=>(iS l).run e (λt=>k (v::t)))=V.one ((ax x).get e') (λv=>(iS l).run e' (λt=>k (v::t)));rw[h x (by simp[jU])];congr 1;funext v;exact wS λy p=>h y (by simp[jU,p])
 |.agg n x::l,k,h=>by show V.dY ((ax x).get e) (λH=>aR (Nat.beq (eK H) n) ((iS l).run e (λt=>bQ H t k)) false)=V.dY ((ax x).get e') (λH=>aR (Nat.beq (eK H) n) ((iS l).run e' (λt=>bQ H t k)) false);rw[h x (by simp[jU])];congr 1;funext H;rw[wS (l:=l) λy p=>h y (by simp[jU,p])]
def sn:∀zs:ay,jU (zs.map .zero)= []
 |[]=>rfl
 |_::zs=>sn zs
def uQ:∀a b:List Pce,jU (a++b)=jU a++jU b
 |[],b=>rfl
 |.zero _::a,b=>uQ a b
 |.one x::a,b=>R2
 |.agg _ x::a,b=>R2
def AU:∀{ps:List (Nat×Nat×Bool×Operand)} {o:Nat} {zs:ay} {l:List Pce},AW ps o zs=some l->∀x∈jU l,x∈ps.map (·.2.2.2)
 |[],o,zs,l,h,x,S=>by simp only[AW,jo] at h;subst h;rw[sn] at S;trivial
 |(p,f,agg,y)::r,o,zs,l,h,x,S=>by
  simp only[AW] at h;split at h
  .rename_i g _ m;simp only[jo] at h;subst h;rw[uQ,sn,mG] at S;cases agg with
   |true=>
    change x∈y::jU g at S;cases S with
    |head=>simp
    |tail _ S=>have:=AU m x S;grind
   |false=>
    change x∈y::jU g at S;cases S with
    |head=>simp
    |tail _ S=>have:=AU m x S;grind
  trivial
def MB{e:Env}:∀{ps:List (Nat×Nat×Bool×Operand)} {l:ay} {k:ay->Bool},(∀x∈ps.map (·.2.2.2),(ax x).get e=(ax x).get e')->(lA ps).run e l k=(lA ps).run e' l k
 |[],l,k,_=>rfl
 |(p,f,agg,x)::r,l,k,h=>by show jF agg f x e (λH=>iE p l (λa=>eR (Nat.add p f) l (λb=>bQ H b (λm=>bQ a m (λl=>(lA r).run e l k)))))=jF agg f x e' (λH=>iE p l (λa=>eR (Nat.add p f) l (λb=>bQ H b (λm=>bQ a m (λl=>(lA r).run e' l k)))));have A:∀l,(lA r).run e l k=(lA r).run e' l k:=λl=>MB λy c=>W;simp only[A];unfold jF;grind
def uP{ti:TI}:∀{parts:List (Nat×Operand)} {ps:List (Nat×Nat×Bool×Operand)},places C ti parts=some ps->ps.map (·.2.2.2)=parts.map (·.2)
 |[],ps,h=>by simp only[places,List.mapM_nil] at h;grind
 |(i,x)::r,ps,h=>by
  unfold places at h;rw[Az] at h;cases A:place C ti (i,x) with
  |none=>grind
  |some p=>
   rw[A] at h;cases N:List.mapM (place C ti) r with
   |none=>grind
   |some q=>rw[N] at h;simp only[Option.pure_def,Option.bind_eq_bind,Of,jo] at h;subst h;have:=uP (parts:=r) N;rw[jn,jn,this];congr 1;simp only[place] at A;grind
def UM{x y:Operand}{e:Env}{q:Bool->Bool}(S:(ax x).get e=(ax x).get e')(p:(ax y).get e=(ax y).get e'):(IP C t x y).run e h q=(IP C t x y).run e' h q:=by
 unfold IP
 repeat' split
 all_goals first|rfl|simp only[S,p]|simp only[S]|simp only[p]
def a98{op:BinOp}{x y:Operand}{z:Rt}{e:Env}(S:(ax x).get e=(ax x).get e')(p:(ax y).get e=(ax y).get e'):(da C op t x y).run z e h k=(da C op t x y).run z e' h k:=by
 unfold da;split
 .rfl
 .split
  .simp only[bZ,S,p]
  .simp only[bZ,S,p]
  .exact UM S p
  .exact UM S p
  .simp only[bZ,S,p]
  .unfold gj;split<;>simp only[bZ,S,p]
  .rfl
def a97{o:Option Operand}{e:Env}{q:bs}(h:∀x∈o.toList,(ax x).get e=(ax x).get e'):(sR d o).run e q=(sR d o).run e' q:=by
 cases o with
 |none=>rfl
 |some x=>simp only[sR,h x J1]
def adI{n:Nat}{o:Option Operand}{e:Env}{q:bs}(h:∀x∈o.toList,(ax x).get e=(ax x).get e'):(DL o).run n e q=(DL o).run n e' q:=by
 cases o with
 |none=>rfl
 |some x=>simp only[DL,h x J1]
def ZR{x:Operand}{lo F mx:Option Operand}{z:Rt}{e:Env}(S:(ax x).get e=(ax x).get e')
  (hl:∀x∈lo.toList,(ax x).get e=(ax x).get e') (g:∀x∈F.toList,(ax x).get e=(ax x).get e') (R:∀x∈mx.toList,(ax x).get e=(ax x).get e'):(gq C t x lo F mx).run z e h k=(gq C t x lo F mx).run z e' h k:=by
 have c:∀d q,(sR d lo).run e q=(sR d lo).run e' q:=λd q=>a97 hl;have a:∀n q,(DL F).run n e q=(DL F).run n e' q:=λd q=>adI g;unfold gq;split
 .rfl
 .split
  .rename_i m;split
   .rename_i H _;have A:=g H J1;have N:=R m J1;split<;>first|rfl|simp only[bZ,c,S,A,N]
   .rfl
  .dsimp only
   repeat' split
   all_goals first|rfl|simp only[bZ,c,a,S]
def MC{b:Builtin}{F:aI}{args:List Operand}{z:Rt}{e:Env}(N:∀x∈args,(ax x).get e=(ax x).get e'):(aV C b F args).run z e h k=(aV C b F args).run z e' h k:=by
 unfold aV;split
 .rename_i s x;have A:=N s J1;have a:=N x J1;unfold xc
  repeat' split
  all_goals first|rfl|simp only[A,a]
 .rename_i x;have A:=N x J1;split
  .unfold Lv
   repeat' split
   all_goals first|rfl|simp only[bZ,A]
  .rfl
 .rename_i x;have A:=N x J1;split
  .unfold a0b
   repeat' split
   all_goals first|rfl|simp only[bZ,A]
  .rfl
 .rename_i d s;have A:=N d J1;have a:=N s J1;unfold MF
  repeat' split
  all_goals first|rfl|simp only[A,a]
 .rename_i m q;have A:=N m J1;have a:=N q J1;split
  .unfold wT
   repeat' split
   all_goals first|rfl|simp only[A,a]
  .rfl
 .rename_i x;have A:=N x J1;unfold CJ
  repeat' split
  all_goals first|rfl|simp only[A]
 .rename_i x y;have A:=N x J1;have a:=N y J1;simp only[mmK,bZ,A,a]
 .rename_i x y;have A:=N x J1;have a:=N y J1;simp only[mmK,bZ,A,a]
 .rename_i x;have A:=N x J1;simp only[bZ,A]
 .rename_i p n;have A:=N p J1;have a:=N n J1;unfold IY
  repeat' split
  all_goals first|rfl|simp only[A,a]
 .rfl
def a50{c:Call}{z:Rt}{e:Env}(N:∀x∈c.operands,(ax x).get e=(ax x).get e'):(kb C c).run z e h k=(kb C c).run z e' h k:=by
 have S:∀x∈c.args.toList,(ax x).get e=(ax x).get e':=λx a=>N x (by simp[Call.operands];grind);unfold kb;split
 .exact pY S
 .rename_i f _ F;have A:=N f (by simp[Call.operands,F]);simp only[A];exact pY S
 .exact MC S
 .rename_i r name F;have A:=N r (by simp[Call.operands,F]);simp only[A];exact pY S
def adH{o:Op}{z:Rt}{e:Env}(H:∀x∈o.operands,(ax x).get e=(ax x).get e'):(qm C o).run z e h k=(qm C o).run z e' h k:=by
 unfold qm;split
 case h_4 op t x y _=>exact a98 (H x J5) (H y J5)
 case h_10 c=>exact a50 H
 case h_11 t ps=>
  have hp:∀x∈ps.toList.map (·.2),(ax x).get e=(ax x).get e':=λx S=>H x Xe;unfold bJ;split
  .split
   .rename_i l g;have j:=uP g;split
    .rename_i q r;simp only[bZ];exact wS λx S=>hp x Xf
    .simp only[bZ];exact MB λx S=>W
    .rfl
   .rfl
  .rfl
 case h_14 t n ps=>
  have hp:∀x∈ps.toList.map (·.2),(ax x).get e=(ax x).get e':=λx S=>H x Xe;unfold cX;split
  .split
   .split
    .dsimp only
     split
     .rfl
     .split
      .rename_i l g;have j:=uP g;split
       .rename_i q _ r _
        dsimp only
        exact wS λx S=>hp x Xf
       .rfl
      .rfl
    .rfl
   .rfl
  .rfl
 case h_21 fn first cap=>
  split
  .dsimp only[bZ]
   rw[pY (e':=e') (λx S=>H x W0)];congr 1;funext a;exact pY (λx S=>H x W0)
  .rfl
 case h_25 t x lo hi mx=>exact ZR (H x J5) (λy p=>H y W0) (λy p=>H y W0) (λy p=>H y W0)
 case h_1 x=>simp only[bZ,H x J5]
 case h_2 x=>simp only[bZ,H x J5]
 case h_3 c a b=>simp only[bZ,H c J5,H a J5,H b J5]
 case h_5 t a=>
  have A:=H a J5;unfold bE
  repeat' split
  all_goals first|rfl|simp only[A]
 case h_6 t a x=>
  have A:=H a J5;have N:=H x J5;unfold cZ
  repeat' split
  all_goals first|rfl|simp only[A,N]
 case h_7 s x f=>
  have A:=H x J5;unfold ak
  repeat' split
  all_goals first|rfl|simp only[bZ,A]
 case h_8 x=>
  have A:=H x J5
  all_goals first|rfl|simp only[bZ,A]
 case h_9 t x i=>
  have A:=H x J5;have N:=H i J5;unfold bR
  repeat' split
  all_goals first|rfl|simp only[bZ,A,N]
 case h_12 t=>
  unfold dK
  repeat' split
  all_goals trivial
 case h_13 t x=>
  have A:=H x J5;unfold fl
  repeat' split
  all_goals first|rfl|simp only[A]
 case h_15 t ix=>
  have A:=H t J5
  all_goals first|rfl|simp only[bZ,A]
 case h_16 t x f=>
  have A:=H x J5;unfold lS
  repeat' split
  all_goals first|rfl|simp only[bZ,A]
 case h_17 t x i=>
  have A:=H x J5;have N:=H i J5;unfold lQ
  repeat' split
  all_goals first|rfl|simp only[bZ,A,N]
 case h_18 op q x=>
  have A:=H x J5;unfold unK
  repeat' split
  all_goals first|rfl|simp only[bZ,A]
 case h_19 s d x=>
  have A:=H x J5;unfold oF
  repeat' split
  all_goals first|rfl|simp only[bZ,A]
 case h_20 t x=>
  have A:=H x J5
  repeat' split
  all_goals first|rfl|simp only[bZ,A]
 case h_22 t=>trivial
 case h_23 t x=>
  have A:=H x J5
  repeat' split
  all_goals first|rfl|simp only[A]
 case h_24 t l c=>
  have A:=H l J5;have N:=H c J5;unfold dw
  repeat' (first|split|dsimp only)
  all_goals first|rfl|simp only[A,N]
 case h_26 t x i ok=>
  have A:=H x J5;have N:=H i J5;unfold gx
  repeat' split
  all_goals first|rfl|simp only[A,N]
 case h_27 t m q x=>
  have A:=H m J5;have N:=H q J5;have M:=H x J5;unfold gH
  repeat' split
  all_goals first|rfl|simp only[A,N,M]
 case h_28 t m q x=>
  have A:=H m J5;have N:=H q J5;have M:=H x J5;unfold gH
  repeat' split
  all_goals first|rfl|simp only[A,N,M]
 case h_29 t m q=>
  have A:=H m J5;have N:=H q J5;unfold vj
  repeat' split
  all_goals first|rfl|simp only[A,N]
 case h_30 t m s x=>have A:=H m J5;have N:=H s J5;have M:=H x J5;unfold mA;grind
 case h_31 t x=>
  have A:=H x J5;unfold th
  repeat' split
  all_goals first|rfl|simp only[A]
 case h_32 it s=>
  have A:=H it J5;unfold TP
  repeat' split
  all_goals first|rfl|simp only[A]
 case h_33 x q t ok=>
  have A:=H x J5;unfold tN
  repeat' split
  all_goals first|rfl|simp only[bZ,A]
 trivial
end
variable{agg:Bool}{i off:Nat}
def ef{C:Type}(g:(C->Bool)->Bool):Prop:=(∃b,∀q,g q=q b)\/∀q,g q=false
def bf{C:Type}(b:C):ef (λq:C->Bool=>q b):=.inl ⟨b,λ_=>rfl⟩
def bj{C:Type}:ef (λ_:C->Bool=>false):=.inr λ_=>rfl
def wA{α C:Type}{g:(α->Bool)->Bool}{F:α->(C->Bool)->Bool}(p:ef g)(j:∀a,ef (F a)):ef (λq=>g (λa=>F a q)):=by
 rcases p with⟨a,h⟩|h
 .rcases j a with⟨b,N⟩|N
  .exact .inl ⟨b,λq=>W⟩
  .exact .inr λq=>(h _).trans (N q)
 .exact .inr λq=>h _
def bG{C:Type}{b:Bool}{F H:(C->Bool)->Bool}(j:ef F)(e:ef H):ef (λq=>aR b (F q) (H q)):=by
 cases b
 .trivial
 trivial
def fE{C:Type}{n:Nat}{F:Nat->(C->Bool)->Bool}(j:∀m,ef (F m)):ef (λq=>gy n (λm=>F m q)):=j n
def wy{C:Type}{n:Int}{F H:Nat->(C->Bool)->Bool}(j:∀m,ef (F m))(e:∀m,ef (H m)):ef (λq=>rT n (λm=>F m q) (λm=>H m q)):=by
 cases n
 .exact j _
 .exact e _
def BU{C:Type}{c:Cp}{F:Nat->(C->Bool)->Bool}{H:Nat->Nat->(C->Bool)->Bool}(j:∀m,ef (F m))(e:∀m n,ef (H m n)):ef (λq=>mN c (λm=>F m q) (λm n=>H m n q)):=by
 cases c
 .exact j _
 .exact e _ _
def Yq{α C:Type}{o:Option α}{F:α->(C->Bool)->Bool}{H:(C->Bool)->Bool}(e:ef H)(j:∀x,ef (F x)):ef (λq=>jv o (H q) (λx=>F x q)):=by
 cases o
 .trivial
 .exact j _
def PY{α a C:Type}{p:α×a}{F:α->a->(C->Bool)->Bool}(j:∀x y,ef (F x y)):ef (λq=>gK p (λx y=>F x y q)):=by cases p;exact j _ _
def qW{C:Type}{v:V}{F0:Bool->(C->Bool)->Bool}(h0:∀a,ef (F0 a)):ef (λq=>V.ja v (λa=>F0 a q)):=by cases v<;>first|exact bj|exact h0 _
def fK{C:Type}{v:V}{F0:IntKind->Int->(C->Bool)->Bool}(h0:∀a e,ef (F0 a e)):ef (λq=>V.ec v (λa e=>F0 a e q)):=by cases v<;>first|exact bj|exact h0 _ _
def nL{C:Type}{v:V}{F0:Nat->(C->Bool)->Bool}{y:(C->Bool)->Bool}(h0:∀a,ef (F0 a))(A:ef y):ef (λq=>V.rL v (λa=>F0 a q) (y q)):=by cases v<;>first|exact bj|exact h0 _|trivial
def kF{C:Type}{v:V}{F0:aI->(C->Bool)->Bool}(h0:∀a,ef (F0 a)):ef (λq=>V.ig v (λa=>F0 a q)):=by cases v<;>first|exact bj|exact h0 _
def pR{C:Type}{v:V}{F0:Nat->Nat->(C->Bool)->Bool}(h0:∀a e,ef (F0 a e)):ef (λq=>V.dW v (λa e=>F0 a e q)):=by cases v<;>first|exact bj|exact h0 _ _
def Lr{C:Type}{v:V}{F0:Nat->Nat->(C->Bool)->Bool}{y:Nat->Nat->(C->Bool)->Bool}(h0:∀a e,ef (F0 a e))(A:∀a e,ef (y a e)):ef (λq=>V.sw v (λa e=>F0 a e q) (λa e=>y a e q)):=by cases v<;>first|exact bj|exact h0 _ _|exact A _ _
def a3F{C:Type}{v:V}{F0:Nat->Nat->Nat->Cp->(C->Bool)->Bool}(h0:∀a e F S,ef (F0 a e F S)):ef (λq=>V.BE v (λa e F S=>F0 a e F S q)):=by cases v<;>first|exact bj|exact h0 _ _ _ _
def gB{C:Type}{v:V}{F0:ay->(C->Bool)->Bool}(h0:∀a,ef (F0 a)):ef (λq=>V.dY v (λa=>F0 a q)):=by cases v<;>first|exact bj|exact h0 _
def Yp{C:Type}{v:V}{F0:ay->(C->Bool)->Bool}(h0:∀a,ef (F0 a)):ef (λq=>V.kD v (λa=>F0 a q)):=by cases v<;>first|exact bj|exact h0 _
def QB{C:Type}{v:V}{F0:V->(C->Bool)->Bool}(h0:∀a,ef (F0 a)):ef (λq=>V.oq v (λa=>F0 a q)):=by cases v<;>first|exact bj|exact h0 _
def iV{C:Type}{v:V}{F0:V->(C->Bool)->Bool}(h0:∀a,ef (F0 a)):ef (λq=>V.live v (λa=>F0 a q)):=by cases v<;>first|exact bj|exact h0 _
def QD{C:Type}{v:V}{F0:V->(C->Bool)->Bool}{y:(C->Bool)->Bool}(h0:∀a,ef (F0 a))(A:ef y):ef (λq=>V.bt v (λa=>F0 a q) (y q)):=by cases v<;>first|exact bj|exact h0 _|trivial
def Uc{C:Type}{v:V}{F0:V->(C->Bool)->Bool}(h0:∀a,ef (F0 a)):ef (λq=>V.one v (λa=>F0 a q)):=by cases v<;>first|exact bj|exact h0 _
def yT{C:Type}{v:V}{F0:Nat->V->(C->Bool)->Bool}{y:(C->Bool)->Bool}(h0:∀a e,ef (F0 a e))(A:ef y):ef (λq=>V.ng v (λa e=>F0 a e q) (y q)):=by cases v<;>first|exact bj|exact h0 _ _|exact A
def qX{C:Type}{v:V}{F0:Bool->(C->Bool)->Bool}(h0:∀a,ef (F0 a)):ef (λq=>V.cq v (λa=>F0 a q)):=by cases v<;>first|exact bj|exact h0 _
def Yr{C:Type}{v:V}{F0:Bool->(C->Bool)->Bool}(h0:∀a,ef (F0 a)):ef (λq=>V.ot v (λa=>F0 a q)):=by cases v<;>first|exact bj|exact h0 _
def QC{C:Type}{v:V}{F0:Bool->(C->Bool)->Bool}(h0:∀a,ef (F0 a)):ef (λq=>V.il v (λa=>F0 a q)):=by cases v<;>first|exact bj|exact h0 _
def Yt{C:Type}{v:V}{F0:Bool->(C->Bool)->Bool}(h0:∀a,ef (F0 a)):ef (λq=>V.EC v (λa=>F0 a q)):=by cases v<;>first|exact bj|exact h0 _
def Ys{C:Type}{v:V}{F0:Bool->(C->Bool)->Bool}(h0:∀a,ef (F0 a)):ef (λq=>V.EB v (λa=>F0 a q)):=by cases v<;>first|exact bj|exact h0 _
def xZ{C:Type}{v:V}{F0:Nat->(C->Bool)->Bool}{y:(C->Bool)->Bool}(h0:∀a,ef (F0 a))(A:ef y):ef (λq=>V.cH v (λa=>F0 a q) (y q)):=by cases v<;>first|exact bj|exact h0 _|trivial
def oY{C:Type}{v:V}{F0:Nat->Nat->Nat->Cp->(C->Bool)->Bool}{y:(C->Bool)->Bool}{n:(C->Bool)->Bool}(h0:∀a e F S,ef (F0 a e F S))(A:ef y)(N:ef n):ef (λq=>V.cK v (λa e F S=>F0 a e F S q) (y q) (n q)):=by cases v<;>first|exact bj|exact h0 _ _ _ _|trivial|trivial
def EN{C:Type}{v:V}{F0:Nat->Nat->(C->Bool)->Bool}{y:(C->Bool)->Bool}(h0:∀a e,ef (F0 a e))(A:ef y):ef (λq=>V.Ck v (λa e=>F0 a e q) (y q)):=by cases v<;>first|exact bj|exact h0 _ _|trivial
def Ub{C:Type}{o:O}{F0:Nat->Nat->Nat->Bool->ay->Cells->(C->Bool)->Bool}(h0:∀a e F S h c,ef (F0 a e F S h c)):ef (λq=>O.eO o (λa e F S h c=>F0 a e F S h c q)):=by cases o<;>first|exact bj|exact h0 _ _ _ _ _ _
def BW{C:Type}{o:O}{F0:List (V×V×Nat)->Nat->(C->Bool)->Bool}(h0:∀a e,ef (F0 a e)):ef (λq=>O.cH o (λa e=>F0 a e q)):=by cases o<;>first|exact bj|exact h0 _ _
def nk{k:IntKind}{n:Int}:ef (mv k n):=by unfold mv;exact wy (λm=>bG (bG (bf _) (bf _)) (bf _)) (λm=>bf _)
def oZ{b:Bool}:ef (lp b):=by unfold lp;exact bG (bf _) (bf _)
def kH{C:Type}{v:V}{F:Nat->(C->Bool)->Bool}(j:∀n,ef (F n)):ef (λq=>V.dD v (λn=>F n q)):=by unfold V.dD;exact nL j (fK λk n=>wy j λ_=>bj)
def qY{α C:Type}{a b:List α}{F:List α->(C->Bool)->Bool}(j:∀l,ef (F l)):ef (λq=>bQ a b (λl=>F l q)):=by
 have:(λq=>bQ a b (λl=>F l q))=F (a++b):=by funext q;rw[bB]
 grind
def tD{α C:Type}{F:List α->(C->Bool)->Bool}(j:∀l,ef (F l)):∀(n:Nat) (l:List α),ef (λq=>iE n l (λl=>F l q))
 |0,l=>j []
 |n+1,[]=>bj
 |n+1,x::l=>tD (F:=λt q=>F (x::t) q) (λt=>W) n l
def tE{α C:Type}{F:List α->(C->Bool)->Bool}(j:∀l,ef (F l)):∀(n:Nat) (l:List α),ef (λq=>eR n l (λl=>F l q))
 |0,l=>j l
 |n+1,[]=>bj
 |n+1,x::l=>tE j n l
def pS{α C:Type}{F:α->(C->Bool)->Bool}(j:∀x,ef (F x)):∀(l:List α) (n:Nat),ef (λq=>jZ l n (λx=>F x q))
 |[],n=>bj
 |x::l,n=>bG W (pS j l (Nat.sub n 1))
def BX{C:Type}{c:Cells}{z:ay}{F:V->(C->Bool)->Bool}(j:∀v,ef (F v)):ef (λq=>cellAt c z i (λv=>F v q)):=
 QD j (pS j _ _)
def yU{C:Type}{c:Cells}{z:ay}{F:ay->(C->Bool)->Bool}(j:∀v,ef (F v)):∀(n i:Nat),ef (λq=>jg c z n i (λv=>F v q))
 |0,i=>j []
 |n+1,i=>BX (F:=λv q=>gy (Nat.add i 1) (λi=>jg c z n i (λl=>F (v::l) q))) λv=>fE λi=>yU (F:=λl q=>F (v::l) q) (λl=>W) n i
def Lp{C:Type}{o n:Nat}{F:ay->(C->Bool)->Bool}(j:∀v,ef (F v)):ef (λq=>fh i o n h (λv=>F v q)):=
 Ub λa m t w z c=>bG (yU j _ _) bj
def PX{C:Type}{o:Nat}{F:V->(C->Bool)->Bool}(j:∀v,ef (F v)):ef (λq=>jT i o h (λv=>F v q)):=
 Ub λa m t w z c=>bG (BX j) bj
def pQ{f:Nat}{cs:ay}{C:Type}{F:V->(C->Bool)->Bool}(j:∀v,ef (F v)):ef (λq=>mu agg f cs off (λv=>F v q)):=
 bG (tE (F:=λl q=>iE f l (λp=>F (.agg p) q)) (λl=>tD (F:=λp q=>F (.agg p) q) (λp=>W) _ _) _ _) (pS j _ _)
def BY{C:Type}{e:Env}:∀{l:List Operand} {F:ay->(C->Bool)->Bool},(∀v,ef (F v))->ef (λq=>(ir l).run e (λv=>F v q))
 |[],F,j=>j []
 |x::l,F,j=>iV (F0:=λv q=>(ir l).run e (λs=>F (v::s) q)) λv=>BY (F:=λs q=>F (v::s) q) (λs=>W)
def wx{C:Type}{e:Env}:∀{l:List Pce} {F:ay->(C->Bool)->Bool},(∀v,ef (F v))->ef (λq=>(iS l).run e (λv=>F v q))
 |[],F,j=>j []
 |.zero v::l,F,j=>wx (l:=l) (F:=λt q=>F (v::t) q) (λt=>W)
 |.one x::l,F,j=>Uc (F0:=λv q=>(iS l).run e (λt=>F (v::t) q)) λv=>wx (F:=λt q=>F (v::t) q) (λt=>W)
 |.agg n x::l,F,j=>gB (F0:=λH q=>aR (Nat.beq (eK H) n) ((iS l).run e (λt=>bQ H t (λv=>F v q))) false) λH=>bG (wx (F:=λt q=>bQ H t (λv=>F v q)) (λt=>qY j)) bj
def Lq{C:Type}{e:Env}:∀{ps:List (Nat×Nat×Bool×Operand)} {l:ay} {F:ay->(C->Bool)->Bool},(∀v,ef (F v))->ef (λq=>(lA ps).run e l (λv=>F v q))
 |[],l,F,j=>j l
 |(p,f,agg,x)::r,l,F,j=>by show ef (λq=>jF agg f x e (λH=>iE p l (λa=>eR (Nat.add p f) l (λb=>bQ H b (λm=>bQ a m (λl=>(lA r).run e l (λv=>F v q)))))));have A:∀H,ef (λq=>iE p l (λa=>eR (Nat.add p f) l (λb=>bQ H b (λm=>bQ a m (λl=>(lA r).run e l (λv=>F v q)))))):=λH=>tD (F:=λa q=>eR (Nat.add p f) l (λb=>bQ H b (λm=>bQ a m (λl=>(lA r).run e l (λv=>F v q))))) (λa=>tE (F:=λb q=>bQ H b (λm=>bQ a m (λl=>(lA r).run e l (λv=>F v q)))) (λb=>qY (F:=λm q=>bQ a m (λl=>(lA r).run e l (λv=>F v q))) λm=>qY (F:=λl q=>(lA r).run e l (λv=>F v q)) λl=>Lq j) _ _) _ _;unfold jF;exact bG (gB λH=>bG (A H) bj) (Uc λv=>A [v])
variable{m:Nat}
section
variable {C:Ctx}
def mD(x:fy):Prop:=∀e,∃g:aY->Bool,ef g/\∀z h k,x.run z e h k=g (λv=>k v h)
def Nn(x:fy):Prop:=∀e h,∃g:aY->Bool,ef g/\∀z k,x.run z e h k=g (λv=>k v h)
def mD.read{x:fy}(h:mD x):Nn x:=λe a=>let ⟨g,A,N⟩:=h e;W
def bz{f:Env->aY->Bool}(h:∀e,ef (f e)):mD (bZ f):=λe=>⟨f e,h e,λ_ _ _=>rfl⟩
def bA:mD cQ:=λe=>⟨λ_=>false,bj,λ_ _ _=>rfl⟩
def Hn{C:Type}{a b:V}{F:Bool->(C->Bool)->Bool}(j:∀c,ef (F c)):ef (λq=>Mv a b (λc=>F c q)):=by unfold Mv;exact nL (F0:=λm q=>_) (λm=>nL (λn=>W) (fK λk n=>bG W bj)) (fK (F0:=λk m q=>_) λk m=>fK λl n=>bG W bj)
def a8b{C:Type}{a b:V}{F:Bool->(C->Bool)->Bool}(j:∀c,ef (F c)):ef (λq=>eqT a b (λc=>F c q)):=by unfold eqT;exact kF λs=>kF λu=>W
def a8c{C:Type}{a b:V}{F:Bool->(C->Bool)->Bool}(j:∀c,ef (F c)):ef (λq=>eqB a b (λc=>F c q)):=by unfold eqB;exact qW λs=>qW λu=>W
def EqL(x:EqV):Prop:=∀a b,ef (x.run a b)
def a9F(x:NG):Prop:=∀a b,ef (x.run a b)
def EO{x:EqV}{r:NG}{f:Nat}(S:EqL x)(d:a9F r):a9F (ka x agg f off r):=λa b=>pQ λu=>pQ λv=>wA (S u v) λc=>bG (d a b) (bf _)
def p6:∀(d t:Nat),EqL (mF C d t)
 |0,t=>λa b=>bj
 |d+1,t=>by
  unfold mF;split
  .exact λa b=>bj
  .split
   .exact λa b=>Hn λc=>bf c
   .exact λa b=>a8b λc=>bf c
   .exact λa b=>a8c λc=>bf c
   .rename_i e _;split
    .exact λa b=>bj
    .refine λa b=>gB λm=>gB λR=>?_;have key : ∀ l : List Field, a9F (cE (⟨λ_ _ q => q true⟩ : NG) (λf _ r => match decide (f.name = "_"), C.ty f.type with
       |false,some j=>ka (mF C d f.type) (iC j.desc) j.sz f.offset r
       |_,_=>yo) l):=by
      intro l
      induction l with
      |nil=>exact λa b=>bf true
      |cons f l H=>
       rw[ga];split
       .exact EO (p6 d _) H
       .exact λa b=>bj
     exact key _ m R
   .split
    .exact λa b=>bj
    .rename_i n u _ _ x _;refine λa b=>gB λm=>gB λR=>?_;have key:∀l:aI,a9F (cE (⟨λ_ _ q=>q true⟩:NG) (λi _ r=>ka (mF C d u) (iC x.desc) x.sz (Nat.mul i x.sz) r) l):=by
      intro l
      induction l with
      |nil=>exact λa b=>bf true
      |cons f l H=>rw[ga];exact EO (p6 d _) H
     exact key _ m R
   .exact λa b=>bj
def Ls{d:TypeDesc}{v:V}:ef ((XE d).run v):=by
 unfold XE;split
 .exact qX λb=>bf b
 .exact Yr λb=>bf b
 .exact QC λb=>bf b
 .exact Yt λb=>bf b
 .exact Ys λb=>bf b
 .exact bj
def Ud{x y:Operand}:∀e,∃g:(Bool->Bool)->Bool,ef g/\∀h q,(IP C t x y).run e h q=g q:=by
 intro e;unfold IP;split
 .exact ⟨_,bj,W⟩
 .split
  .exact ⟨_,Ls,λ_ _=>rfl⟩
  .exact ⟨_,Ls,λ_ _=>rfl⟩
  .split
   .exact ⟨_,p6 1 _ _ _,λ_ _=>rfl⟩
   .exact ⟨_,p6 1 _ _ _,λ_ _=>rfl⟩
   .exact ⟨_,p6 1 _ _ _,λ_ _=>rfl⟩
   .split
    .exact ⟨_,bj,W⟩
    .exact ⟨_,gB λ_=>gB λ_=>p6 20 t _ _,λ_ _=>rfl⟩
   .split
    .exact ⟨_,bj,W⟩
    .exact ⟨_,gB λ_=>gB λ_=>p6 20 t _ _,λ_ _=>rfl⟩
   .split
    .split
     .exact ⟨_,bj,W⟩
     .refine ⟨_,?_,λ_ _=>rfl⟩;exact EN (λi o=>EN (λj p=>bG (bf _) bj) (qX λb=>bG (bf _) bj)) (qX λb=>bG (qX λb=>bf b) bj)
    .exact ⟨_,bj,W⟩
   .exact ⟨_,bj,W⟩
def uX{op:BinOp}{k:IntKind}{a b:Int}:ef (i6 op k a b):=by cases op<;>first|exact nk|exact oZ|exact bG bj nk|exact bj
def BS{op:BinOp}{k:IntKind}{a b:Int}:ef (sf op k a b):=by
 unfold sf;split
 .exact bj
 .split
  .exact nk
  .exact nk
  .exact bj
def QA{op:BinOp}{n:Nat}{F:aY->Bool}(j:ef F):ef (λq=>iN op (λ_=>F q) m n q):=by
 cases op
 case add=>exact fE λs=>bG (bf _) j
 case mul=>exact fE λs=>bG (bf _) j
 case sub=>exact bG (fE λs=>bf _) (fE λs=>bf _)
 case quo=>exact bG bj (fE λs=>bf _)
 case rem=>exact bG bj (fE λs=>bf _)
 all_goals first|exact fE λs=>bf _|exact oZ|trivial
def acz(op:BinOp):(∀{m n:Nat} {F:aY->Bool},ef F->ef (λq=>(nb op).num (λ_=>F q) m n q))/\∀{k:IntKind} {a b:Int},ef ((nb op).int k a b):=by
 cases op<;>simp only[nb]
 case shl=>exact⟨λj=>fE λx=>bG (bG (bf _) j) j,BS⟩
 case shr=>exact⟨λj=>fE λx=>bf _,BS⟩
 all_goals exact⟨λj=>QA j,uX⟩
def PW{op:BinOp}{a b:aI}:ef (AR op a b):=by
 cases op
 case add=>exact qY λs=>bG (bf _) bj
 all_goals first|exact oZ|exact bj
def Kk{op:BinOp}{x y:Operand}:mD (gj op x y):=by
 unfold gj
 dsimp only
 obtain⟨A,N⟩:=acz op;split
 .exact bz λe=>nL (F0:=λm q=>_) (λm=>fK (F0:=λ_ n q=>_) λ_ n=>wy (F:=λn q=>_) (λn=>A N) λ_=>bj) (fK (F0:=λk m q=>_) λk m=>fK λ_ n=>N)
 .exact bz λe=>nL (F0:=λm q=>_) (λm=>nL (F0:=λn q=>_) (λn=>A N) (fK λk n=>bG N bj)) (fK (F0:=λk m q=>_) λk m=>fK λl n=>bG N bj)
def WM{op:BinOp}{x y:Operand}:mD (da C op t x y):=by
 unfold da;split
 .exact bA
 .split
  .exact bz λe=>Hn λb=>oZ
  .exact bz λe=>Hn λb=>oZ
  .intro e;obtain⟨g,A,N⟩:=Ud (C:=C) (t:=t) (x:=x) (y:=y) e;exact⟨λq=>g (λb=>lp b q),wA A λb=>oZ,λz h k=>W⟩
  .intro e;obtain⟨g,A,N⟩:=Ud (C:=C) (t:=t) (x:=x) (y:=y) e;exact⟨λq=>g (λb=>lp (jw b) q),wA A λb=>oZ,λz h k=>W⟩
  .exact bz λe=>kF λa=>kF λb=>PW
  .exact Kk
  .exact bA
def wz{C:Type}{o:Option Operand}{e:Env}{F:Nat->(C->Bool)->Bool}(j:∀n,ef (F n)):ef (λq=>(sR d o).run e (λn=>F n q)):=by
 cases o with
 |none=>exact j d
 |some x=>exact kH j
def ya{C:Type}{o:Option Operand}{e:Env}{F:Nat->(C->Bool)->Bool}(j:∀n,ef (F n)):ef (λq=>(DL o).run d e (λn=>F n q)):=by
 cases o with
 |none=>exact j d
 |some x=>exact kH j
def kX{f b o g k:Nat}:ef (cT f b o l g k):=by unfold cT;exact bG (bG (fE λo=>fE λn=>fE λc=>bf _) bj) bj
def Lt{f b o g n z:Nat}:ef (iQ f b o l g n d z):=by unfold iQ;exact bG (bG (bG (fE λo=>fE λn=>fE λc=>bf _) bj) bj) bj
def Ke{x:Operand}{lo f mx:Option Operand}:mD (gq C t x lo f mx):=by
 unfold gq;split
 .exact bA
 .split
  .split
   .split
    .dsimp only
     exact bz λe=>wz λl=>kH λg=>kH λa=>oY (λb o n c=>bG (BU (λk=>bG kX bj) (λ_ _=>bG kX bj)) bj)
      (bG (bG (bG (bf _) bj) bj) bj) bj
    .exact bA
   .exact bA
  .dsimp only
   split
   .exact bz λe=>kF λs=>wz λl=>ya λg=>tD (F:=λp q=>eR l p (λr=>q (V.str r))) (λp=>tE (F:=λr q=>q (V.str r)) (λr=>bf _) _ _) _ _
   .split
    .exact bz λe=>wz λl=>oY (λb o n c=>ya λg=>BU (λk=>kX) (λd z=>Lt)) (ya λg=>bG (bG (bf _) bj) bj) (ya λg=>bG (bG (bf _) bj) bj)
    .exact bA
   .split
    .exact bz λe=>pR λb o=>wz λl=>ya λg=>kX
    .exact bA
   .split
    .split
     .split
      .exact bz λe=>pR λb o=>wz λl=>ya λg=>kX
      .exact bA
     .exact bA
    .exact bA
   .exact bA
def Kj{ps:List (Nat×Operand)}:mD (bJ C t ps):=by
 unfold bJ;split
 .split
  .split
   .exact bz λe=>wx λl=>bf _
   .exact bz λe=>Lq λl=>bf _
   .exact bA
  .exact bA
 .exact bA
def zq{s f:Nat}{x:Operand}:mD (ak C s x f):=by
 unfold ak;split
 .split
  .exact bA
  .exact bz λe=>pR λi o=>bf _
 .split
  .exact bA
  .exact bz λe=>pR λi o=>fE λo=>bf _
 .exact bA
def Ki{s f:Nat}{x:Operand}:mD (lS C s x f):=by
 unfold lS;split
 .split
  .exact bz λe=>gB λH=>pQ λv=>bf v
  .exact bz λe=>gB λH=>pQ λv=>bf v
 .exact bA
def zp{x i:Operand}:mD (bR C t x i):=by
 unfold bR;split
 .exact bA
 .split
  .split
   .exact bz λe=>kH λj=>bG (Lr (λb o=>fE λo=>bf _) (λg o=>fE λo=>bf _)) bj
   .exact bA
  .split
   .exact bz λe=>kH λj=>a3F λb o l _=>bG (fE λo=>bf _) bj
   .exact bA
  .exact bA
def Kh{x i:Operand}:mD (lQ C t x i):=by
 unfold lQ;split
 .exact bA
 .split
  .split
   .exact bz λe=>kH λj=>bG (gB λH=>pQ λv=>bf v) bj
   .exact bA
  .exact bz λe=>kH λj=>kF λs=>pS (F:=λb q=>q (V.ik .u8 (.ofNat b))) (λb=>bf _) _ _
  .exact bA
def a2A{op:UnOp}{x:Operand}:mD (unK op x):=by
 unfold unK;split
 .exact bz λe=>qW λb=>oZ
 .exact bz λe=>fK λk n=>uX
 .exact bz λe=>fK λk n=>uX
 .exact bA
def GH{x:Operand}{ok:Bool}:mD (tN C x t ok):=by
 unfold tN;split
 .split
  .exact bA
  .dsimp only
   split
   .exact bz λe=>yT (λt v=>bG (bf _) (bf _)) (bf _)
   .exact bz λe=>yT (λt v=>bG (iV λv=>bf v) bj) bj
 .exact bA
end
variable{max:Bool}
section
variable {P:Program} {C:Ctx} {ρ:Ren}
def mU(C:Ctx)(o:Op):Nat:=
 match o with
 |.move _ | .assign _ | .pick _ _ _ | .binOp _ _ _ _ _ | .fieldAddr _ _ _ | .nilCheck _ | .indexAddr _ _ _ | .extract _ _ | .field _ _ _ | .index _ _ _ | .unOp _ _ _ | .makeInterface _ _ | .makeFunc _ _ _ | .typeAssert _ _ _ _ | .slice _ _ _ _ _ | .build _ _=>0
 |.load _ _ | .lookup _ _ _ _=>1
 |.convert s d _=>(match C.ty s,C.ty d with
  |some N,some j=>(match N.desc,j.desc with | .int _,.int _=>0 | .string,.string=>0|_,_=>3)
  |_,_=>3)
 |.call c=>(match c.callee with
  |.builtin .len=>(match c.argTypes.toList with
   |t::_=>(match C.ty t with
    |some g=>(match g.desc with | .map _ _=>1|_=>0)
    |none=>3)
   |_=>3)
  |.builtin .cap | .builtin .min | .builtin .max=>0
  |_=>3)
 |.alloc _ | .makeSlice _ _ _ | .buildSlice _ _ _=>2
 |_=>3
def Bt{a:Operand}:Nn (bE C t a):=by
 unfold bE;split
 .exact bA.read
 .split
  .exact λe h=>⟨_,pR λi o=>Lp λl=>bf _,λz k=>rfl⟩
  .refine λe h=>⟨λq=>V.sw ((ax a).get e) (λi o=>jT i o h q) (λg o=>jv (C.gl g) false (λH=>jZ H o q)),?_,W⟩;exact Lr (λi o=>PX λv=>bf v) (λg o=>Yq bj λH=>pS (F:=λv q=>q v) (λv=>bf v) _ _)
def yb{C:Type}{x:EqV}{key:V}{iU:(C->Bool)->Bool}{hit:Nat->V->Nat->(C->Bool)->Bool}(S:EqL x)(R:ef iU)(g:∀i v b,ef (hit i v b)):∀(l:List (V×V×Nat)) (i:Nat),
  ef (λq=>cE (λ(_:Nat)=>iU q) (λw _ r i=>gK w (λy k=>x.run key y (λc=>aR c (gK k (λv b=>hit i v b q)) (gy (Nat.add i 1) r)))) l i)
 |[],i=>R
 |y::l,i=>by obtain⟨y,k⟩:=y;exact wA (S key y) λc=>bG (PY λv b=>W) (yb S R g l _)
def Fg:EqL (kY C t):=by
 unfold kY;split
 .split
  .exact p6 1 _
  .exact λa b=>bj
 .exact λa b=>bj
def Gy{m key:Operand}{ok:Bool}:Nn (gx C t m key ok):=by
 unfold gx;split
 .dsimp only
  split
  .exact λe h=>⟨_,xZ (λi=>BW λl c=>iV λq=>yb (Fg (C:=C) (t:=t)) (bf _) (λ_ v _=>bf (V.cI [v,.bool true])) l 0) (bf _),λa k=>rfl⟩
  .exact λe h=>⟨_,xZ (λi=>BW λl c=>iV λq=>yb (Fg (C:=C) (t:=t)) (iV λz=>bf z) (λ_ v _=>bf v) l 0) (iV λz=>bf z),λa k=>rfl⟩
 .exact bA.read
def Kg{x y:Operand}:mD (mmK max x y):=bz λe=>fK λk a=>fK λl b=>bG (bG nk nk) bj
def WL{x:Operand}:mD (a0b C t x):=by
 unfold a0b;split
 .split
  .exact bz λe=>oY (λi o n c=>BU (λn=>bG (bf _) bj) (λ_ _=>bj)) (bf _) bj
  .exact bA
 .exact bA
def Kf{o:Op}(h:mU C o=0):mD (qm C o):=by
 unfold qm;split
 case h_1 x=>exact bz λe=>iV λv=>bf v
 case h_2 x=>exact bz λe=>iV λv=>bf v
 case h_3 c a b=>exact bz λe=>qW λt=>bG (iV λv=>bf v) (iV λv=>bf v)
 case h_4=>exact WM
 case h_5=>trivial
 case h_6=>trivial
 case h_7=>exact zq
 case h_8=>exact bz λe=>QB λv=>bf v
 case h_9=>exact zp
 case h_10 c=>
  simp only[mU] at h;unfold kb
  dsimp only
  cases i:c.callee with
  |value f=>grind
  |invoke r n=>grind
  |builtin b=>
   rw[i] at h
   dsimp only at h ⊢
   cases b<;>first|trivial|skip
   case len=>
    unfold aV;split<;>first|exact bA|trivial|skip
    rename_i x _ _;split
    .rename_i t u l;rw[l] at h
     dsimp only at h
     unfold Lv;split
     .grind
     .rename_i g p;rw[p] at h
      dsimp only at h
      split
      .exact bz λe=>kF λs=>fE λn=>bG (bf _) bj
      .exact bz λe=>oY (λ_ _ n _=>bG (bf _) bj) (bf _) (bf _)
      .exact bz λe=>bG (bf _) bj
      .split
       .split
        .exact bz λe=>bG (bf _) bj
        .exact bA
       .exact bA
      .grind
      .exact bA
    grind
   case cap=>
    unfold aV;split<;>first|exact bA|trivial|skip
    split<;>first|exact WL|exact bA
   case min=>unfold aV;split<;>first|exact bA|exact Kg|(rename_i S _;cases S;done)
   case max=>unfold aV;split<;>first|exact bA|exact Kg|trivial
 case h_11=>exact Kj
 case h_12=>trivial
 case h_13=>trivial
 case h_14=>trivial
 case h_15 t ix=>exact bz λe=>Yp λw=>pS (F:=λv q=>V.live v q) (λv=>iV λv=>bf v) _ _
 case h_16=>exact Ki
 case h_17=>exact Kh
 case h_18=>exact a2A
 case h_19 s d x=>
  simp only[mU] at h;unfold oF;split
  .rename_i N j M k;rw[M,k] at h
   dsimp only at h
   split
   .exact bz λe=>fK λ_ n=>wy (λm=>bG nk nk) (λm=>nk)
   .exact bz λe=>kF λs=>bf _
   all_goals grind
  grind
 case h_20=>
  split
  .split
   .exact bA
   .exact bz λe=>iV λv=>bf _
  .exact bA
 case h_21 fn first cap=>
  split
  .exact bz λe=>BY (F:=λa q=>_) λa=>BY λb=>bf _
  .exact bA
 case h_22=>trivial
 case h_23=>trivial
 case h_24=>trivial
 case h_25=>exact Ke
 case h_26=>trivial
 case h_27=>trivial
 case h_28=>trivial
 case h_29=>trivial
 case h_30=>trivial
 case h_31=>trivial
 case h_32=>trivial
 case h_33=>exact GH
 case h_34=>exact bA
def JW{o:Op}(h:mU C o<=1):Nn (qm C o):=by
 by_cases s:mU C o=0
 .exact (Kf s).read
 .have A:mU C o=1:=by omega
  clear h s;unfold mU at A;split at A<;>first|trivial|skip
  .exact Bt
  .exact Gy
  .grind
  .rename_i c;split at A<;>first|trivial|skip
   rename_i F;split at A<;>first|trivial|skip
   rename_i t b m;split at A<;>first|trivial|skip
   rename_i g a;split at A<;>first|(simp at A;done)|skip
   rename_i v;show Nn (kb C c);unfold kb;rw[F]
   dsimp only
   unfold aV;split<;>first|exact bA.read|trivial|skip
   rw[m]
   dsimp only
   unfold Lv;rw[a]
   dsimp only
   rw[v];exact λe h=>⟨_,xZ (λi=>BW λl c=>fE λn=>bG (bf _) bj) (bf _),λz k=>rfl⟩
def WX{v:V}{q:IntKind->Int->Bool}:V.a7G v q=true↔∃k n,v= .ik k n/\q k n=true:=by cases v<;>simp[V.a7G,kT]
def a3T{k l:IntKind}(h:DG k=DG l):k=l:=by cases k<;>cases l<;>first|rfl|trivial
def UI:∀{a b:aI},yq a b=true->a=b
 |[],[],_=>rfl
 |[],y::b,h=>G
 |x::a,[],h=>G
 |x::a,y::b,h=>by have h:aR (Nat.beq x y) (yq a b) false=true:=h;obtain⟨A,N⟩:=aN.1 h;rw[br A,UI N]
def OT{x:V}{l b:ay}:V.Ee (x::l) b=ek b false (λy t=>aR (V.same x y) (V.Ee l t) false):=rfl
mutual
def Gn:∀{a b:V},V.same a b=true->a=b
 |.undef,b,h=>G
 |.bool x,b,h=>by obtain⟨y,rfl,h⟩:=V.yO.1 h;cases x<;>cases y<;>first|rfl|trivial
 |.num n,b,h=>by obtain⟨y,rfl,h⟩:=V.qP.1 h;rw[br h]
 |.ik k n,b,h=>by obtain⟨l,m,rfl,h⟩:=WX.1 h;obtain⟨A,N⟩:=aN.1 h;rw[a3T (br A),gW.1 N]
 |.str s,b,h=>by obtain⟨y,rfl,h⟩:=V.BD.1 h;rw[UI h]
 |.bg,b,h=>Z7
 |.ptr i o,b,h=>by obtain⟨j,p,rfl,h⟩:=V.BG.1 h;obtain⟨A,N⟩:=aN.1 h;rw[br A,br N]
 |.iP g o,b,h=>by
  rcases V.tv.1 h with⟨_,_,_,h⟩|⟨j,p,rfl,h⟩
  .trivial
  .obtain ⟨A,N⟩:=aN.1 h;rw[br A,br N]
 |.au,b,h=>Z7
 |.sl i o n c,b,h=>by
  obtain⟨j,p,m,d,rfl,h⟩:=V.Ew.1 h;obtain⟨A,h⟩:=aN.1 h;obtain⟨N,h⟩:=aN.1 h;obtain⟨M,h⟩:=aN.1 h;rw[br A,br N,br M];congr 1;cases c<;>cases d<;>simp only[mN] at h
  .rw [br h]
  .trivial
  .trivial
  .obtain ⟨e,r⟩:=aN.1 h;rw[br e,br r]
 |.z8,b,h=>by
  rcases V.dZ.1 h with⟨_,_,_,_,_,h⟩|⟨_,h⟩|⟨rfl,_⟩
  .trivial
  .trivial
  .rfl
 |.fR,b,h=>Z7
 |.map i,b,h=>by
  rcases V.dJ.1 h with⟨j,rfl,h⟩|⟨_,h⟩
  .rw [br h]
  trivial
 |.fn f a c,b,h=>by
  rcases V.nI.1 h with⟨g,q,z,rfl,h⟩|⟨_,_,h⟩
  .obtain ⟨A,h⟩:=aN.1 h;obtain⟨N,M⟩:=aN.1 h;rw[br A,sg N,sg M]
  trivial
 |.yield i,b,h=>by
  rcases V.nI.1 h with⟨_,_,_,_,h⟩|⟨j,rfl,h⟩
  .trivial
  .rw [br h]
 |.fN,b,h=>Z7
 |.iface t v,b,h=>by
  rcases V.na.1 h with⟨u,w,rfl,h⟩|⟨_,h⟩
  .obtain ⟨A,N⟩:=aN.1 h;rw[br A,Gn N]
  trivial
 |.xV,b,h=>Z7
 |.agg H,b,h=>by obtain⟨L,rfl,h⟩:=V.BJ.1 h;rw[sg h]
 |.cI H,b,h=>by obtain⟨L,rfl,h⟩:=V.oi.1 h;rw[sg h]
def sg:∀{a b:ay},V.Ee a b=true->a=b
 |[],[],_=>rfl
 |[],y::b,h=>G
 |x::a,[],h=>G
 |x::a,y::b,h=>by rw[OT] at h;have h:aR (V.same x y) (V.Ee a b) false=true:=h;obtain⟨A,N⟩:=aN.1 h;rw[Gn A,sg N]
end
end
variable{a:Act}{j:Nat}
section
variable {P:Program} {C:Ctx} {ρ:Ren}
def a1F{α:Type}(f:Nat->α):dj α:=⟨f 0,f 1,f 2,f 3,f 4,f 5,f 6,f 7,f 8,f 9,f 10,f 11,f 12,f 13,f 14,f 15⟩
def DY{α:Type}{f:Nat->α}{d:α}:∀n,n<16->(mE n).get α d (a1F f)=f n:=by refine XT ?_ ?_ ?_ ?_ ?_ ?_ ?_ ?_ ?_ ?_ ?_ ?_ ?_ ?_ ?_ ?_<;>rfl
def KR(m:dA):Env:=a1F λb=>a1F λa=>m (16*b+a)
def aaL{e:Env}(h:256<=t):(eg t).get e= .undef:=by show(oL t).get V .undef e= .undef;rw[nH h];rfl
def XO{m:dA}(h:t<256):(eg t).get (KR m)=m t:=by show(oL t).get V .undef (KR m)=m t;rw[lK h];show(mE (d0 t)).get V .undef ((mE (d1 t)).get (dj V) (bY V .undef) (KR m))=m t;unfold KR;rw[DY _ (UN t),DY _ (wU t)];congr 1;show 16*(t/16%16)+t%16=t;omega
noncomputable def cut (ts:aI) (e:Env):Env:=KR λt=>if t∈ts then(eg t).get e else .undef
def I0{F:aI}{e:Env}:(eg t).get (cut F e)=if t∈F then(eg t).get e else .undef:=by
 rcases dN t 256 with h|h
 .exact XO h
 .rw [aaL h,aaL h];simp
def UP{F:aI}{e:Env}{tmps:Array Value}(h:∀t∈F,aW ρ ((eg t).get e) (tmps.getD t undef)):dV ρ (cut F e) tmps:=by
 intro t;rw[I0];split
 .grind
 .exact .undef _
def XP{ops:Array Oper}{o:Oper}(h:Operand.tmp t∈o.op.operands):t∈o.looksAt ops:=
 List.mem_append_left _ (List.mem_filterMap.2 ⟨.tmp t,W,rfl⟩)
def HZ{ops:Array Oper}{o:Oper}{e:Env}{z:Rt}:(qm C o.op).run z (cut (o.looksAt ops) e) h k=(qm C o.op).run z e h k:=by
 refine adH λx S=>?_;cases x with
 |tmp t=>show(eg t).get _=(eg t).get e;rw[I0,ao (XP S)]
 |const v=>rfl
 |global g=>rfl
 |func f=>rfl
noncomputable def dO (all:List Oper) (o:Oper) (e:Env):Option Bool:=
 match o.guard with
 |none=>some true
 |some (j,want)=>match fk all j with
  |none=>some false
  |some g=>match (eg g).get e with
   |.bool b=>some (b==want)
   |.cI _=>some false
   |_=>none
def LQ{ops:Array Oper}{o:Oper}{g:Nat}{n:Bool}(p:o.guard=some (j,n))(hd:fk ops.toList j=some g):g∈o.looksAt ops:=by unfold Oper.looksAt;refine List.mem_append_right _ ?_;unfold fk at hd;grind
def xz{ops:Array Oper}{o:Oper}{e:Env}:dO ops.toList o (cut (o.looksAt ops) e)=dO ops.toList o e:=by
 unfold dO;split
 .rfl
 .rename_i j n p;split
  .rfl
  .rename_i g f;rw[I0,ao (LQ p f)]
def pG{ops:Array Oper}{o:Oper}{e:Env}{b:Bool}{tmps:Array Value}(h:dO ops.toList o e=some b)(R:dV ρ e tmps):Region.wanted o (yielded ops tmps)=b:=by
 unfold dO at h;unfold Region.wanted;split at h
 .grind
 .rename_i j n p;rw[p]
  dsimp only
  split at h
  .rename_i f;have:yielded ops tmps j=none:=by
    unfold fk at f;unfold yielded;rw[jq] at f;rw[f];rfl
   grind
  .rename_i g f;have d:=R g;have a:yielded ops tmps j=match tmps.getD g undef with | .bool b=>some b|_=>none:=by
    unfold fk at f;unfold yielded;rw[jq] at f;rw[f];simp only[Of];rw[iL];cases tmps[g]? with
    |none=>rfl
    |some v=>grind
   rw[a];split at h
   .rename_i c F;rw[F] at d;generalize tmps.getD g undef=v at *;cases d;simp only[jo] at h;trivial
   .rename_i c F;rw[F] at d;obtain⟨m,H,_⟩:=d.zN;grind
   trivial
def Told(C:Ctx)(all:List Oper)(z:Rt)(o:Oper)(e:Env)(h:Heap)(V:V):Prop:=
 (dO all o e=some true/\∀k,(qm C o.op).run z e h k=k V h)\/(dO all o e=some false/\V=cA)
def JC{ops:Array Oper}{z:Rt}{o:Oper}{e:Env}{V:V}(a:Told C ops.toList z o e h V):Told C ops.toList z o (cut (o.looksAt ops) e) h V:=by
 rcases a with⟨A,N⟩|⟨A,N⟩
 .exact .inl ⟨Jb,λk=>by rw[HZ];grind⟩
 .exact .inr ⟨Jb,N⟩
def Fk{F:aI}{e:Env}(h:∀t∈F,(eg t).get e=(eg t).get e'):cut F e=cut F e':=by unfold cut;grind
def VW{z:Rt}{r:Option Nat}{ops:Array Oper}{o:Oper}{e:Env}{V:V}{w:World}{c:Act->World->Prop}{aEV:Exit->Act->World->Prop}
  (s:eY T P C (qm C o.op) o) (g:T z) (j:Told C ops.toList z o e h V) (L:ops[i]? =some o) (R:dV ρ e a.tmps) (y:aO P C ρ h w)
  (hK:∀v w' q,aW q V v->aO P C q h w'->Le ρ h w q h w'->c (a.put o.dst v) w'):wpOpIn (rU r) 0 P ops aEV i c a w:=by
 unfold wpOpIn;rw[L]
 dsimp only
 rcases j with⟨A,N⟩|⟨A,N⟩
 .rw [pG A R,ao rfl]
  classical
  have S:(qm C o.op).run z e h (λd f=>decide (d=V/\f=h))=true:=by rw[N];simp
  refine s z r e h _ ρ a w g S R y c aEV ?_;rintro v w' ⟨d,f,q,E,H,b,n⟩;grind
 .rw [pG A R];subst N;exact⟨λ_ _=>trivial,hK undef w ρ (aW.eM (x:=#[]) .nil) y (Le.refl _ _ _)⟩
def Ns(P:Program)(o:Oper)(e:Env)(i:Nat)(V:V)(O:O):Prop:=
 ∀(ρ:Ren) (a:Act) (w:World),dV ρ e a.tmps->∃v E c l,(execOp a.eval o).run P w= .ok (.value v) l/\(l.heap=w.heap.push E/\Aside w l)/\c.b=w.heap.size/\
  ∀q:Ren,(∀j D,ρ j=some D->q j=some D)->q i=some c->aW q V v/\fL P q O c (some E)
def aO.born{w:World}{q:Nat}{n:Obj}{aF1:pE}(r:aO P C ρ h w)(R:ρ q=none)(hn:q<h.nx)(l:w'.heap=w.heap.push n)(s:aF1.b=w.heap.size)
  (L:fL P (λj=>if j=q then some aF1 else ρ j) (bL q h) aF1 (some n)):aO P C (λj=>if j=q then some aF1 else ρ j) h w':=by
 have e:∀i D,ρ i=some D->(if i=q then some aF1 else ρ i)=some D:=λi D F=>by grind
 have p:∀b,b<w.heap.size->w'.heap[b]? =w.heap[b]? :=λb s=>by grind
 refine⟨λi D F=>?_,λi D F=>?_,λi j D E F z k y o=>?_,λg H c=>?_⟩
 .by_cases A:i=q
  .grind
  .simp only[A,if_false] at F;have:=r.pW i D F;grind
 .by_cases A:i=q
  .grind
  .simp only[A,if_false] at F;rw[p _ (r.pW i D F).2];exact(r.obj i D F).mono e
 .by_cases A:i=q<;>by_cases N:j=q
  .omega
  .simp only[A,N,if_true,if_false] at F z;cases F;have:=(r.pW j E z).2;omega
  .simp only[A,N,if_true,if_false] at F z;cases z;have:=(r.pW i D F).2;omega
  .simp only[A,N,if_false] at F z;exact r.inj i j D E F z k y o
 .obtain ⟨A,m,t,f,N,M⟩:=r.iP g H c;have d:g<w.heap.size:=by
   rcases dN g w.heap.size with h|h
   .exact h
   .grind
  refine⟨λi D F k S=>?_,m,t,f,W,λj v u=>let ⟨x,a,b⟩:=M j v u;⟨x,a,b.mono e⟩⟩;grind
def Le.born{c:Ren}{a:Heap}{S w:World}{q:Nat}{E:Obj}{aF1:pE}(l:Le c a S ρ h w)(f:ρ q=none)(h0:a.nx<=q)(k:w'.heap=w.heap.push E)(s:aF1.b=w.heap.size)(d:Aside w w'):
  Le c a S (λj=>if j=q then some aF1 else ρ j) h w':=by
 refine⟨λi D F=>?_,by have:=l.size;grind,λb e R=>?_,l.nx,λi F g=>?_,l.aside.trans d⟩
 .have:=l.xh i D F;grind
 .obtain ⟨A,N⟩:=l.frame b e R;have M:=l.size;refine⟨W,?_⟩;rintro⟨i,D,F,n,t⟩;by_cases u:i=q
  .grind
  .simp only[u,if_false] at F;exact N ⟨i,D,F,n,t⟩
 .obtain ⟨A,N⟩:=l.fresh i F g;grind
def aO.ahead{w:World}{O:O}(r:aO P C ρ h w)(hn:h'.nx=h.nx+1)(p:∀j,bL j h'=if j=h.nx then O else bL j h):aO P C ρ h' w:=by
 have d:∀i D,ρ i=some D->bL i h'=bL i h:=λi D F=>by rw[p,aj U1]
 refine⟨λi D F=>by have:=r.pW i D F;omega,λi D F=>by rw[d i D F];exact r.obj i D F,λi j D E F z k y e=>?_,λg H c=>let ⟨a,b⟩:=r.iP g H c;W⟩;rw[d i D F] at k;rw[d j E z] at y;exact r.inj i j D E F z k y e
def Le.ahead{c:Ren}{a:Heap}{S w:World}{O:O}(l:Le c a S ρ h w)(r:aO P C ρ h w)(hn:h'.nx=h.nx+1)(p:∀j,bL j h'=if j=h.nx then O else bL j h):Le c a S ρ h' w:=by
 refine⟨l.xh,l.size,λb s R=>?_,by have:=l.nx;omega,λi F d=>?_,l.aside⟩
 .obtain ⟨A,N⟩:=l.frame b s R;refine⟨A,?_⟩;rintro⟨i,D,F,n,t⟩;rw[p,aj U1] at t;exact N ⟨i,D,F,n,t⟩
 .obtain ⟨A,N⟩:=l.fresh i F d;exact⟨by rw[p,aj (by have:=l.nx;omega)];trivial,N⟩
def VX{r:Option Nat}{ops:Array Oper}{q:Nat}{o:Oper}{e:Env}{V:V}{w:World}{d:Act->World->Prop}{aEV:Exit->Act->World->Prop}(hd:∀c,o.op≠ .defer c)
  (l:dO ops.toList o e=some true) (s:Ns P o e q V (bL q h)) (L:ops[i]? =some o) (R:dV ρ e a.tmps) (y:aO P C ρ h w) (g:ρ q=none) (hn:q<h.nx)
  (hK:∀v w' E aF1,(w'.heap=w.heap.push E/\Aside w w')->aF1.b=w.heap.size->aW (λj=>if j=q then some aF1 else ρ j) V v->aO P C (λj=>if j=q then some aF1 else ρ j) h w'->d (a.put o.dst v) w'):wpOpIn (rU r) 0 P ops aEV i d a w:=by
 unfold wpOpIn;rw[L]
 dsimp only
 rw[pG l R,ao rfl];obtain⟨v,E,aF1,w',A,N,M,u⟩:=s ρ a w R;have k:∀i D,ρ i=some D->(if i=q then some aF1 else ρ i)=some D:=λi D m=>by grind
 obtain⟨f,F⟩:=u (λj=>if j=q then some aF1 else ρ j) k J1;refine⟨λ_ _=>trivial,?_⟩;rw[Oper.semAt_plain _ _ _ hd,A];exact hK v w' E aF1 N M f (y.born g hn W M F)
def nG{c:Option Nat}{V:V}{e:Env}{k:Env->Bool}(g:(tT nt c).put V e k=true):∃e',k e'=true/\∀t,(eg t).get e'=if c=some t then V else(eg t).get e:=by
 cases c with
 |none=>exact⟨e,g,λt=>J1⟩
 |some d=>
  unfold tT at g
  dsimp only at g
  split at g
  .obtain ⟨e',E,b⟩:=Cy g;grind
  trivial
def su{z:Rt}{ops:Array Oper}{o:Oper}{rest:iR}{ds:List D}{e:Env}{k:cF}(hd:∀c,o.op≠ .defer c)(S:(oe C nt ops.toList o rest).run z ds e h k=true):
  (dO ops.toList o e=some true/\(qm C o.op).run z e h (λv h=>(tT nt o.dst).put v e (λe=>rest.run z ds e h k))=true)\/
  (dO ops.toList o e=some false/\(tT nt o.dst).put cA e (λe=>rest.run z ds e h k)=true):=by
 have step:(pJ C nt o rest).run z ds e h k=true->(qm C o.op).run z e h (λv h=>(tT nt o.dst).put v e (λe=>rest.run z ds e h k))=true:=by
  intro S;unfold pJ at S;split at S
  .grind
  .trivial
 unfold oe at S;split at S
 .rename_i p;exact .inl ⟨by simp[dO,p],W⟩
 .rename_i j n p;split at S
  .rename_i F;exact .inr ⟨by simp[dO,p,F],S⟩
  .rename_i g F;split at S
   .trivial
   .split at S
    .have S:V.guard ((eg g).get e) (λt=>aR t ((pJ C nt o rest).run z ds e h k) ((qK nt o rest).run z ds e h k))=true:=S;rcases V.guard_true.1 S with⟨b,s,S⟩|⟨H,s,S⟩
     .cases b with
      |true=>exact .inl ⟨T6,step S⟩
      |false=>exact .inr ⟨T6,S⟩
     .exact .inr ⟨T6,S⟩
    .have S:V.kZ ((eg g).get e) (λt=>aR t ((qK nt o rest).run z ds e h k) ((pJ C nt o rest).run z ds e h k)) (V.kD ((eg g).get e) (λ_=>(qK nt o rest).run z ds e h k))=true:=S;rcases V.sF.1 S with⟨b,s,S⟩|⟨_,S⟩
     .cases b with
      |true=>exact .inr ⟨T6,S⟩
      |false=>exact .inl ⟨T6,step S⟩
     .obtain ⟨H,s,S⟩:=V.oi.1 S;exact .inr ⟨T6,S⟩
def ZI{z:Rt}{ops:Array Oper}{o:Oper}{rest:iR}{ds:List D}{e:Env}{k:cF}(hc:mU C o.op<=1)(hd:∀c,o.op≠ .defer c)
  (S:(oe C nt ops.toList o rest).run z ds e h k=true):∃V e',Told C ops.toList z o e h V/\rest.run z ds e' h k=true/\∀t,(eg t).get e'=if o.dst=some t then V else(eg t).get e:=by
 rcases su hd S with⟨l,S⟩|⟨l,S⟩
 .obtain ⟨g,p,u⟩:=JW hc e h;rw[u] at S;rcases p with⟨V,E⟩|m
  .rw [E] at S;obtain⟨e',A,N⟩:=nG S;exact⟨V,e',.inl ⟨l,λk=>by rw[u,E]⟩,A,N⟩
  grind
 .obtain ⟨e',A,N⟩:=nG S;exact⟨cA,e',.inr ⟨l,rfl⟩,A,N⟩
def vE(P:Program)(x:fy)(o:Oper):Prop:=∀(z:Rt) (e:Env) (h:Heap) (k:cR),x.run z e h k=true->
 ∃V O R,k V R=true/\R.nx=h.nx+1/\(∀j,bL j R=if j=h.nx then O else bL j h)/\Ns P o e h.nx V O
def ZJ{z:Rt}{ops:Array Oper}{o:Oper}{rest:iR}{ds:List D}{e:Env}{k:cF}(s:vE P (qm C o.op) o)(hd:∀c,o.op≠ .defer c)
  (S:(oe C nt ops.toList o rest).run z ds e h k=true):
  (dO ops.toList o e=some true/\∃V O h' e',h'.nx=h.nx+1/\(∀j,bL j h'=if j=h.nx then O else bL j h)/\Ns P o (cut (o.looksAt ops) e) h.nx V O/\rest.run z ds e' h' k=true/\∀t,(eg t).get e'=if o.dst=some t then V else(eg t).get e)\/
  (dO ops.toList o e=some false/\∃e',rest.run z ds e' h k=true/\∀t,(eg t).get e'=if o.dst=some t then cA else(eg t).get e):=by
 rcases su hd S with⟨l,S⟩|⟨l,S⟩
 .rw [←HZ (ops:=ops)] at S;obtain⟨V,O,h',A,N,M,u⟩:=s z _ h _ S;obtain⟨e',r,F⟩:=nG A;grind
 .obtain ⟨e',r,F⟩:=nG S;grind
def VV{z:Rt}{ops:Array Oper}{o:Oper}{rest:iR}{ds:List D}{e:Env}{k:cF}(hc:mU C o.op<=1)
  (S:(JF C nt ops.toList o rest).run z ds e h k=true):rest.run z ds e h k=true/\∃V,Told C ops.toList z o e h V/\(dO ops.toList o e=some true->∀d,o.dst=some d->(eg d).get e=V):=by
 have a:dO ops.toList o e=some true->(match o.dst with
   |some d=>(⟨λz ds e h k=>(qm C o.op).run z e h (λv _=>aR (V.same v ((eg d).get e)) (rest.run z ds e h k) false)⟩:iR)
   |none=>⟨λz ds e h k=>(qm C o.op).run z e h (λ_ _=>rest.run z ds e h k)⟩).run z ds e h k=true->rest.run z ds e h k=true/\∃V,Told C ops.toList z o e h V/\(dO ops.toList o e=some true->∀d,o.dst=some d->(eg d).get e=V):=by
  intro l S;obtain⟨g,p,u⟩:=JW hc e h;split at S
  .rename_i d f;change (qm C o.op).run z e h (λv _=>aR (V.same v ((eg d).get e)) (rest.run z ds e h k) false)=true at S;rw[u] at S;rcases p with⟨V,E⟩|m
   .rw [E] at S;obtain⟨A,N⟩:=aN.1 S;refine⟨N,V,.inl ⟨l,λk=>by rw[u,E]⟩,λ_ i t=>?_⟩;rw[f] at t;cases t;exact(Gn A).symm
   grind
  .rename_i f;change (qm C o.op).run z e h (λ_ _=>rest.run z ds e h k)=true at S;rw[u] at S;rcases p with⟨V,E⟩|m
   .rw [E] at S;exact⟨S,V,.inl ⟨l,λk=>by rw[u,E]⟩,W⟩
   grind
 have no:dO ops.toList o e=some false->rest.run z ds e h k=true->rest.run z ds e h k=true/\∃V,Told C ops.toList z o e h V/\(dO ops.toList o e=some true->∀d,o.dst=some d->(eg d).get e=V):=
  λl S=>⟨S,cA,.inr ⟨l,rfl⟩,λA=>W⟩
 unfold JF at S
 dsimp only at S
 split at S
 .rename_i p;exact a (by simp[dO,p]) S
 .rename_i j n p;split at S
  .rename_i F;exact no (by simp[dO,p,F]) S
  .rename_i g F;split at S
   .rcases V.guard_true.1 S with⟨b,s,S⟩|⟨H,s,S⟩
    .cases b with
     |true=>exact a T6 S
     |false=>exact no T6 S
    .exact no T6 S
   .rcases V.sF.1 S with⟨b,s,S⟩|⟨_,S⟩
    .cases b with
     |true=>exact no T6 S
     |false=>exact a T6 S
    .obtain ⟨H,s,S⟩:=V.oi.1 S;exact no T6 S
end
variable{u:Nat}{zs:ay}
section
variable {P:Program} {C:Ctx} {ρ:Ren}
def CS{g:Heap}{r:Bool}{k:Nat->Heap->Bool}(h:dh g zs m (λc=>fH (.row u m 0 r zs c) g k)=true):
  ∃O a,k g.nx a=true/\a.nx=g.nx+1/\(∀j,bL j a=if j=g.nx then O else bL j g)/\∀(ρ:Ren) (s z b:Nat) (n:List Value) (xs:Array Value),cG ρ zs n->(∀v∈zs,v.de=true)->P.cellsOf u=z->zs.length=z->
   m=s*z->xs.size=m->(∀j,j<m->xs[j]? =n[j%n.length]?)->fL P ρ O ⟨b,s,z⟩ (some (.cells xs u)):=by
 obtain⟨c,h,F⟩:=eQ h;obtain⟨a,E,e,p⟩:=eE h;refine⟨_,a,E,e,p,λρ s z b n xs d A C x M S H=>?_⟩;refine⟨xs,(0,0),rfl,λ_=>W,λ_=>C,Z,Z,Z,λj i=>?_⟩;have t:0<zs.length:=by
  rcases qD zs.length with h|h
  .grind
  .exact h
 have q:j%zs.length<zs.length:=ke _ t;have f:j%n.length<n.length:=Za;refine .inr ⟨zs[j%zs.length],n[j%n.length],Z8,W,A _ (eL q),?_⟩;refine d.2 (j%zs.length) _ _ (bT q) ?_;rw[d.1,bT f]
def MR{g:Heap}{r:Bool}{cs:ay}{k:Nat->Heap->Bool}(h:dh g [] m (λc=>lq cs 0 c (λc=>fH (.row u m 0 r zs c) g k))=true):
  ∃O a,k g.nx a=true/\a.nx=g.nx+1/\(∀j,bL j a=if j=g.nx then O else bL j g)/\∀(ρ:Ren) (s z b:Nat) (xs:List Value),cG ρ cs xs->(∀v∈cs,v.de=true)->cs.length=m->P.cellsOf u=z->
   m=s*z->fL P ρ O ⟨b,s,z⟩ (some (.cells xs.toArray u)):=by
 obtain⟨c,h,F⟩:=eQ h;obtain⟨L,h,n⟩:=jI h;obtain⟨a,E,l,p⟩:=eE h;refine⟨_,a,E,l,p,λρ s z b xs d A R C M=>?_⟩;have H:xs.length=m:=A7;refine⟨xs.toArray,(0,0),rfl,λ_=>W,λ_=>C,W,λ_=>W,Z,λj o=>?_⟩;have q:j<cs.length:=Z;have f:j<xs.length:=Z;have e:=A _ (eL q);refine .inr ⟨cs[j],xs[j],jN ?_ (λi=>by rw[i] at e;trivial),W,e,d.2 j _ _ (bT q) (bT f)⟩;rw[n j,ao Z];simp[q]
def vE.bad{o:Oper}:vE P cQ o:=λz e h k S=>G
def Sw{o:Oper}(E:CtxOk P C)(L:o.op= .alloc t):vE P (dK C t) o:=by
 unfold dK;split
 .rename_i g l;obtain⟨v,A,N,_,M,z,u,_,r,F,y,_⟩:=E.ty t g l;intro H e h k S;have S:dh h g.cW g.sz (λc=>fH (.row t g.sz 0 true g.cW c) h (λi h=>k (.ptr i 0) h))=true:=S;obtain⟨O,R,d,f,p,hO⟩:=CS (P:=P) S;refine⟨_,O,R,d,f,p,λρ a w s=>?_⟩;have x:z.cells.toList.length=g.sz:=by rw[←(r ρ).1];exact y
  refine⟨.pointer (some ⟨w.heap.size,0,none⟩),.cells z.cells t,⟨w.heap.size,1,g.sz⟩,w.alloc (.cells z.cells t),?_,G,rfl,λn m q=>⟨.ptr _ _ ⟨w.heap.size,1,g.sz⟩ q,?_⟩⟩
  .simp [execOp,L,Instr.alloc,zeroValue,typeInfo,A,u,newVar,newRow]
  .exact hO n 1 g.sz _ z.cells.toList z.cells W F Jh y Z G (λj b=>by rw[x,qv b];simp)
 .exact .bad
def Ex{v:V}{q:bs}(h:V.dD v q=true):∃n:Nat,q n=true/\∀(ρ:Ren) x,aW ρ v x->∃k,x= .int k (n:Int):=by
 rcases BH h with⟨n,rfl,A⟩|⟨k,n,rfl,A⟩
 .exact ⟨n,A,λρ x d=>by cases d;grind⟩
 .exact ⟨n,A,λρ x d=>by cases d;grind⟩
def CT{o:Oper}{l c:Operand}(E:CtxOk P C)(L:o.op= .makeSlice t l c):vE P (dw C t l c) o:=by
 unfold dw;split
 .rename_i ti rS;obtain⟨inf,h1,N,M⟩:=bU E rS;split
  .rename_i u v;rw[v] at M;split
   .rename_i x rf;obtain⟨f,g1,g2,g2b,g3,z,q,_,g,p,b,_⟩:=E.ty u x rf;intro rt e h k S;have S:V.dD ((ax l).get e) (λn=>V.dD ((ax c).get e) (λm=>aR (Nat.ble n m) (aR (Nat.ble m 4294967296) (aR (Nat.ble (Nat.mul x.bytes m) 281474976710656)
     (gy (Nat.mul m x.sz) (λs=>dh h x.cW s (λc=>fH (.row u s 0 true x.cW c) h (λi h=>k (.sl i 0 n (.known m)) h)))) false) false) false))=true:=S
    obtain⟨n,S,hl⟩:=Ex S;obtain⟨m,S,F⟩:=Ex S;obtain⟨H,S⟩:=aN.1 S;obtain⟨d,S⟩:=aN.1 S;obtain⟨r,S⟩:=aN.1 S;have H:=bh H;have d:=bh d;have r:x.bytes*m<=281474976710656:=bh r;rw[ea] at S;have S:dh h x.cW (m*x.sz) (λc=>fH (.row u (m*x.sz) 0 true x.cW c) h (λi h=>k (.sl i 0 n (.known m)) h))=true:=S;obtain⟨O,h',hk,hn,hg,hO⟩:=CS (P:=P) S;refine⟨_,O,h',hk,hn,hg,λρ a w R=>?_⟩;obtain⟨kl,hl⟩:=hl ρ _ (aJ R l);obtain⟨kc,F⟩:=F ρ _ (aJ R c);have hzl:z.cells.toList.length=x.sz:=by rw[←(g ρ).1];exact b
    have LI:=run_make (P:=P) w t u f z M g1 q kl kc (n:Int) (m:Int) Z Z
     W Z
    simp only[iI,g2] at LI;refine⟨.slice (some ⟨w.heap.size,0,none⟩) n m,.cells (madeCells z.cells (m*x.sz)) u,⟨w.heap.size,m,x.sz⟩,w.alloc (.cells (madeCells z.cells (m*x.sz)) u),?_,G,rfl,λjP hρ hB=>⟨.sl _ _ _ _ _ ⟨w.heap.size,m,x.sz⟩ hB rfl H,?_⟩⟩
    .simp only[execOp,L,Sem.run_bind,hl,F,LI,Result.andThen_ok,Sem.run_pure]
    .refine hO jP m x.sz _ z.cells.toList _ W p X2 b rfl (size_madeCells _ _) (λj hj=>?_);have hz0:0<x.sz:=by
      rcases qD x.sz with h|h
      .grind
      .exact h
     have y:z.cells.size=x.sz:=by rw[←hzl];simp
     have A:j%z.cells.size<z.cells.size:=ke _ Z;rw[show z.cells.toList.length=z.cells.size by simp,jq,mL A];unfold madeCells;grind
   .exact .bad
  .exact .bad
 .exact .bad
def zG{o:Oper}{n:Nat}{parts:Array (Nat×Operand)}(E:CtxOk P C)(L:o.op= .buildSlice t n parts):vE P (cX C t n parts.toList) o:=by
 unfold cX;split
 .rename_i ti rS;obtain⟨inf,A,N,M⟩:=bU E rS;split
  .rename_i u fW;rw[fW] at M;split
   .rename_i x rf;obtain⟨f,s,g2,_,g3,z,g4,_,g5,g6,g7,_⟩:=E.ty u x rf;split
    .rename_i QQ;intro rt e h k S;have S:dh h [] 0 (λc=>lq [] 0 c (λc=>fH (.row u 0 0 true x.cW c) h (λi h=>k (.sl i 0 0 (.known 0)) h)))=true:=S;obtain⟨O,R,hk,g,hg,hO⟩:=MR (P:=P) S;refine⟨_,O,R,hk,g,hg,λρ a w hE=>?_⟩;refine⟨.slice (some ⟨w.heap.size,0,none⟩) 0 0,.cells #[] u,⟨w.heap.size,0,x.sz⟩,w.alloc (.cells #[] u),?_,G,rfl,λjP hρ hB=>⟨.sl _ _ _ _ _ ⟨w.heap.size,0,x.sz⟩ hB rfl G,?_⟩⟩
     .have hp:parts= #[]:=by
       apply uD;exact QQ
      simp[execOp,L,Instr.buildSlice,aU M,df s,hp,Instr.fill,newRow];grind
     .exact hO jP 0 x.sz _ [] .nil J1 rfl (by rw[jM s,g2]) J1
    .dsimp only
     rename_i n _ _ _;split
     .rename_i ps QO;split
      .rename_i l hl a4f;obtain⟨d1,d2⟩:=pn a4f;have hzp:0<x.cW.length:=by
        rw[g7];rcases qD x.sz with h|h
        .grind
        .exact h
       intro rt e h k S;have Cs:=(tB QO).mono λp q hpq=>sk (ti:={ti with desc:=.array n u}) E rfl s hpq;have S:(iS l).run e (λl=>dh h [] (n*x.sz) (λc=>lq l 0 c (λc=>fH (.row u (n*x.sz) 0 true x.cW c) h (λi h=>k (.sl i 0 n (.known n)) h))))=true:=S;rcases wx (l:=l) (e:=e) (F:=λv q=>q v) (λv=>bf v) with⟨H,r⟩|Dp
       .have r:∀q,(iS l).run e q=q H:=r;rw[r] at S;obtain⟨O,R,hk,g,hg,hO⟩:=MR (P:=P) S;refine⟨_,O,R,hk,g,hg,λρ a w hE=>?_⟩
        classical
        have hx':(iS l).run e (λl=>decide (l=H))=true:=by rw[r];simp
        obtain⟨lT,xs,y,j,d,b,Ar⟩:=tJ hE parts.toList ps 0 (py x.cW (n*x.sz)) _ [] l _ Cs hl rfl (Bl (m:=n*x.sz) (g5 ρ) hzp) (pL g6 hzp) hx';have y:lT=H:=W;subst y;have hlen:lT.length=n*x.sz:=by rw[j.1,Ar];simp
        refine⟨.slice (some ⟨w.heap.size,0,none⟩) n n,.cells xs.toArray u,⟨w.heap.size,n,x.sz⟩,w.alloc (.cells xs.toArray u),?_,G,rfl,λjP hρ hB=>⟨.sl _ _ _ _ _ ⟨w.heap.size,n,x.sz⟩ hB rfl Z,?_⟩⟩
        .have:=run_buildSlice (P:=P) w t u n (parts.map λ(p:Nat×Operand)=>(p.1,a.eval p.2)) xs.toArray f z M s g4 W W
          (by rw[mG,mG,Array.toArray_toList,←g2] at b;rw[NH];exact b)
         simp only[execOp,L,Sem.run_bind,this,Result.andThen_ok,Sem.run_pure]
        .exact hO jP n x.sz _ xs (j.mono hρ) d hlen (by rw[jM s,g2]) rfl
       grind
      .exact .bad
     .exact .bad
   .exact .bad
  .exact .bad
 .exact .bad
def a9o{o:Oper}(E:CtxOk P C)(h:mU C o.op=2):vE P (qm C o.op) o:=by
 cases L:o.op
 case alloc t=>exact Sw E L
 case makeSlice t l c=>exact CT E L
 case buildSlice t n ps=>exact zG E L
 all_goals
  rw[L] at h;unfold mU at h
  dsimp only at h
  repeat' split at h
  all_goals (exact absurd h I)
end
end Go.Ev
