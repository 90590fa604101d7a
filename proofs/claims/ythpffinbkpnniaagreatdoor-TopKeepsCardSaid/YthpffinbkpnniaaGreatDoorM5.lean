import Derived.Test.YthpffinbkpnniaaGreatDoorM4
import Derived.Laws.BytesString
import Derived.Laws.Cover3
import Derived.Laws.IdiomStrings
import Derived.Laws.Pointers
import Derived.Laws.StructEq
set_option linter.all false
set_option maxRecDepth 100000
namespace Go.Ev
open Go
variable{h:Heap}{c i t:Nat}{T:eV}
section
variable {P:Program} {C:Ctx} {ρ:Ren}
def wO{a b:V}{x y:Value}{q:Bool->Bool}(S:aW ρ a x)(s:aW ρ b y)(h:Mv a b q=true):∃k m n,x= .int k m/\y= .int k n/\q (m==n)=true:=by
 unfold Mv at h;rcases V.lN.1 h with⟨m,rfl,A⟩|⟨_,A⟩
 .cases S with
  |num _ R=>
   rcases V.lN.1 A with⟨n,c,N⟩|⟨_,N⟩
   .rw [c] at s;cases s with
    |num _ g=>exact⟨_,_,_,rfl,rfl,by rw[Iv];trivial⟩
   .obtain ⟨k,n,rfl,M⟩:=eB s N;obtain⟨E,u⟩:=aN.1 M;have E:=oG.1 E;refine⟨.i64,m,n,rfl,by rw[E],?_⟩;rw[VA] at u;trivial
 .obtain ⟨k,m,rfl,N⟩:=eB S A;obtain⟨l,n,rfl,M⟩:=eB s N;obtain⟨E,u⟩:=aN.1 M;have E:=oG.1 E;refine⟨k,m,n,rfl,by rw[E],?_⟩;rw[VA] at u;trivial
def HU{a b:V}{x y:Value}{q:Bool->Bool}(S:aW ρ a x)(d:aW ρ b y)(h:eqT a b q=true):∃s u,x= .string s/\y= .string u/\q (s==u)=true:=by
 unfold eqT at h;obtain⟨s,rfl,h⟩:=fU S h;obtain⟨u,rfl,h⟩:=fU d h;refine⟨s,u,rfl,rfl,?_⟩;unfold bytesOf at h;rw[UJ] at h;have e:(s==u)=decide (s.data.toList=u.data.toList):=by
  have c:(s==u)=(s.data==u.data):=rfl;rw[c,qA];simp only[beq_iff_eq,uI];constructor
  .grind
  .intro h;exact uD h
 grind
def HV{a b:V}{x y:Value}{q:Bool->Bool}(S:aW ρ a x)(c:aW ρ b y)(h:eqB a b q=true):∃s u,x= .bool s/\y= .bool u/\q (s==u)=true:=by unfold eqB at h;obtain⟨s,rfl,h⟩:=oo S h;obtain⟨u,rfl,h⟩:=oo c h;refine⟨s,u,rfl,rfl,?_⟩;cases s<;>cases u<;>simpa [aR,jw] using h
def a8f{e:Nat}{f:TI}{a b:V}{x y:Value}{q:Bool->Bool}(E:C.ty e=some f)(hd:a3S f.desc=true)(S:aW ρ a x)(d:aW ρ b y)(h:(mF C 1 e).run a b q=true):
  ∃c,q c=true/\Instr.sameNow f.desc x y=some c/\(c=true->Instr.sameBits 10000 y x=true):=by
 unfold mF at h;rw[E] at h;simp only at h;cases l:f.desc with
 |int k=>
  rw[l] at h;obtain⟨k,m,n,rfl,rfl,h⟩:=wO S d h;refine⟨_,h,by simp[Instr.sameNow],λF=>?_⟩;have:m=n:=by simpa using F
  simp[Instr.sameBits,this]
 |string=>rw[l] at h;obtain⟨s,u,rfl,rfl,h⟩:=HU S d h;refine⟨_,h,G,λF=>?_⟩;have g:(s==u)=(s.data==u.data):=rfl;rw[g] at F;have F:=beq_iff_eq.1 F;have:s=u:=ByteArray.ext F;subst this;trivial
 |bool=>
  rw[l] at h;obtain⟨s,u,rfl,rfl,h⟩:=HV S d h;refine⟨_,h,G,λF=>?_⟩;have:s=u:=by simpa using F
  simp[Instr.sameBits,this]
 |_=>rw[l] at hd;trivial
def pV{e:Nat}{f:TI}(E:C.ty e=some f)(hd:a3S f.desc=true){key:V}{n:Value}(a:aW ρ key n){iU:Unit->Bool}{hit:Nat->V->bs}:
  ∀(l:List (V×V×Nat)) (g:List MapEntry) (i:Nat),l.length=g.length->(∀(j:Nat) x m,l[j]? =some x->g[j]? =some m->lV ρ x m)->
  cE (λ(_:Nat)=>iU ()) (λx _ r i=>gK x (λq k=>(mF C 1 e).run key q (λc=>aR c (gK k (λv b=>hit i v b)) (gy (Nat.add i 1) r)))) l i=true->
  (Instr.findNow f.desc n g i=some none/\iU ()=true)\/
  ∃j x m,l[j]? =some x/\g[j]? =some m/\Instr.findNow f.desc n g i=some (some (i+j,m.val))/\hit (i+j) x.2.1 x.2.2=true/\Instr.sameBits 10000 m.key n=true
 |[],[],i,_,_,h=>.inl G
 |[],_::_,_,t,_,_=>G
 |_::_,[],_,t,_,_=>G
 |x::l,m::g,i,t,d,h=>by
  have s:=d 0 x m rfl rfl;rw[ga,oV] at h;obtain⟨c,h,M,y⟩:=a8f E hd a s.key h;rcases bK.1 h with⟨F,h⟩|⟨F,h⟩
  .subst F;rw[oV] at h;refine .inr ⟨0,x,m,rfl,rfl,by simp[Instr.findNow,M],h,W⟩
  .subst F;have H:=pV E hd a l g (i+1) W (λj x m S R=>d (j+1) x m G G) h;rcases H with⟨A,N⟩|⟨j,w,L,A,N,o,u,p⟩
   .exact .inl ⟨by simp[Instr.findNow,M,A],N⟩
   .exact .inr ⟨j+1,w,L,G,G,by simp[Instr.findNow,M,o];omega,W,p⟩
def Gk{l:List (V×V×Nat)}{n:Nat}{y:V×V×Nat}{k:List (V×V×Nat)->Bool}(h:uM l n y k=true):k (l.set n y)=true:=by
 unfold uM at h
 induction l generalizing n k with
 |nil=>exact h
 |cons x t H=>
  rw[ga] at h;rcases bK.1 h with⟨s,h⟩|⟨s,h⟩
  .have s:=br s;grind
  .cases n with
   |zero=>trivial
   |succ n=>grind
def a4Z{l:List (V×V×Nat)}{n:Nat}{k:List (V×V×Nat)->Bool}(h:wQ l n k=true):k (l.eraseIdx n)=true:=by
 unfold wQ at h
 induction l generalizing n k with
 |nil=>exact h
 |cons x t H=>
  rw[ga] at h;rcases bK.1 h with⟨s,h⟩|⟨s,h⟩
  .have s:=br s;grind
  .cases n with
   |zero=>trivial
   |succ n=>grind
def tC{x:TI}(E:CtxOk P C)(h:KY C t=some x):∃e u f,P.underlying t=some (.map e u)/\C.ty e=some f/\P.underlying e=some f.desc/\a3S f.desc=true/\C.ty u=some x/\kY C t=mF C 1 e:=by
 unfold KY at h;split at h
 .rename_i g F;obtain⟨_,_,_,M⟩:=bU E F;split at h
  .rename_i e u v;split at h
   .rename_i f b d z;split at h
    .rename_i a;simp only[jo] at h;subst h;obtain⟨_,_,_,c⟩:=bU E d;refine⟨e,u,f,W,d,c,a,z,?_⟩;unfold kY;grind
    trivial
   trivial
  trivial
 trivial
def run_checkKey{e:Nat}{d:TypeDesc}{b:Bool}{x:Value}{w:World}(h:P.underlying e=some d)(hd:a3S d=true):(Instr.checkKey b 10000 e x).run P w= .ok () w:=by show(Instr.checkKey b (9999+1) e x).run P w= .ok () w;unfold Instr.checkKey;rw[Sem.run_bind,aU h];cases d<;>first|trivial|simp
def run_findKey{e:Nat}{d:TypeDesc}{x:Value}{g:List MapEntry}{r:Option (Nat×Value)}{w:World}(h:P.underlying e=some d)(hf:Instr.findNow d x g 0=some r):(Instr.findKey e x g).run P w= .ok r w:=by unfold Instr.findKey;rw[Sem.run_bind,aU h];simp[hf]
def tA{w:World}{aF1:pE}{l:List (V×V×Nat)}(y:aO P C ρ h w)(q:ρ i=some aF1)(p:bL i h= .map l c):
  ∃g,w.heap[aF1.b]? =some (.map g c)/\l.length=g.size/\∀(i:Nat) x m,l[i]? =some x->g[i]? =some m->lV ρ x m:=by
 have:=y.obj i aF1 q;rw[p] at this;trivial
def hY{w:World}{b:Nat}{g:Array MapEntry}(h:w.heap[b]? =some (.map g c)):(getObj b).run P w= .ok (.map g c) w:=by simp[getObj,Sem.run,h]
def ju{w:World}{b L:Nat}{g ms':Array MapEntry}(h:w.heap[b]? =some (.map g c)):(setObj b (.map ms' L)).run P w= .ok () {w with heap:=w.heap.setIfInBounds b (.map ms' L)}:=by simp[setObj,Sem.run,h]
def qN{w:World}{L:Nat}{aF1:pE}{l es':List (V×V×Nat)}{ms':Array MapEntry}{k:Heap->Bool}(y:aO P C ρ h w)(q:ρ i=some aF1)(p:bL i h= .map l c)(hl:es'.length=ms'.size)
  (d:∀(i:Nat) x m,es'[i]? =some x->ms'[i]? =some m->lV ρ x m) (S:eX i (.map es' L) h k=true):
  ∃h',k h'=true/\aO P C ρ h' {w with heap:=w.heap.setIfInBounds aF1.b (.map ms' L)}/\Le ρ h w ρ h' {w with heap:=w.heap.setIfInBounds aF1.b (.map ms' L)}:=by
 obtain⟨h',E,g,t⟩:=jJ S;have s:=(y.pW i aF1 q).2;obtain⟨a,b⟩:=y.put (w':={w with heap:=w.heap.setIfInBounds aF1.b (.map ms' L)}) (o:=.map es' L) q P5 (.inl P5) J1
  ⟨ms',by simp[s],hl,d⟩ (λb e=>W) g t J1
 grind
def WY{o:Oper}{m key:Operand}{ok:Bool}(E:CtxOk P C)(L:o.op= .lookup t m key ok):eY T P C (gx C t m key ok) o:=by
 have f:∀c,o.op≠ .defer c:=O4;unfold gx;split
 .rename_i ei hmd;obtain⟨kt,el,ki,A,N,M,u,h5,h6⟩:=tC E hmd;obtain⟨ie,s,g2,g2b,g3,z,g4,g4b,g5,g6,g7,g8⟩:=E.ty el ei h5;have ahC:∀(ρ:Ren) (e:Env) (h:Heap) (a:Act) (w:World) (iU:Bool) (F:aY),dV ρ e a.tmps->aO P C ρ h w->
    V.cH ((ax m).get e) (λi=>O.cH (bL i h) (λl _=>V.live ((ax key).get e) (λq=>pd (kY C t) q l (λ_=>iU) (λ_ v _=>F v)))) iU=true->
    (iU=true/\(execOp a.eval o).run P w= .ok (.value (if ok then .tuple #[z,.bool false] else z)) w)\/∃V v,F V=true/\aW ρ V v/\(execOp a.eval o).run P w= .ok (.value (if ok then .tuple #[v,.bool true] else v)) w:=by
   intro ρ e h a w iU F R y S;have d:=aJ R m;rcases V.dJ.1 S with⟨i,hm,S⟩|⟨hm,S⟩
   .rw [hm] at d;obtain⟨aF1,hB,H⟩:∃aF1,ρ i=some aF1/\a.eval m= .map (some aF1.b):=by
     generalize a.eval m=n at *;cases d with|map _ aF1 hB=>grind
    obtain⟨l,c,p,S⟩:=O.dJ.1 S;obtain⟨_,S⟩:=V.eP.1 S;obtain⟨g,hms,hl,yn⟩:=tA y hB p;rw[h6] at S;rcases pV (iU:=λ_=>iU) (hit:=λ_ v _=>F v) N u (aJ R key) l g.toList 0 G W S with⟨r,f2⟩|⟨j,x,mm,r,f2,f3,f4,_⟩
    .refine .inl ⟨f2,?_⟩;simp[execOp,L,Instr.lookup,aU A,H,hY hms,run_checkKey M u,run_findKey M r,sh s g4]
    .refine .inr ⟨x.2.1,mm.val,f4,(yn j x mm r Zv).val,?_⟩;simp[execOp,L,Instr.lookup,aU A,H,hY hms,run_checkKey M u,run_findKey M f3]
   .rw [hm] at d;have H:a.eval m= .map none:=by
     generalize a.eval m=n at *;cases d;rfl
    refine .inl ⟨S,?_⟩;have r:Instr.findNow ki.desc (a.eval key) [] 0=some none:=rfl;simp[execOp,L,Instr.lookup,aU A,H,run_checkKey M u,run_findKey M r,sh s g4]
  dsimp only
  split
  .refine .still f λrt e h k ρ a w S R y=>?_;rcases ahC ρ e h a w (k (.cI [ei.zero,.bool false]) h) (λv=>k (.cI [v,.bool true]) h) R y S with⟨r,f2⟩|⟨V,v,r,f2,f3⟩
   .exact ⟨_,_,w,r,aW.eM (x:=#[z,.bool false]) (.cons W (.cons (.bool false) .nil)),G,rfl⟩
   .exact ⟨_,_,w,r,aW.eM (x:=#[v,.bool true]) (.cons f2 (.cons (.bool true) .nil)),G,rfl⟩
  .refine .still f λrt e h k ρ a w S R y=>?_;rcases ahC ρ e h a w (V.live ei.zero (λz=>k z h)) (λv=>k v h) R y S with⟨r,f2⟩|⟨V,v,r,f2,f3⟩
   .obtain ⟨_,r⟩:=V.eP.1 r;grind
   grind
 .exact .bad
def Lz{old new:Value}{w:World}(h:Instr.sameBits 10000 old new=true):(Instr.keyThatStays old new).run P w= .ok new w:=by unfold Instr.keyThatStays;simp[h]
def Ez{o:Oper}{m key x:Operand}(hC:CtxOk P C)(L:o.op= .mapUpdate t m key x\/o.op= .insert t m key x):eY T P C (gH C t m key x) o:=by
 have f:∀c,o.op≠ .defer c:=by rcases L with L|L<;>rw[L]<;>simp
 have hex:∀a:Act,execOp a.eval o=(do Instr.mapUpdate t (a.eval m) (a.eval key) (a.eval x);pure .skip:Sem Next):=λa=>by rcases L with L|L<;>simp[execOp,L]
 unfold gH;split
 .rename_i ei hmd;obtain⟨kt,el,ki,h1,N,M,u,h5,F⟩:=tC hC hmd;intro rt r e h k ρ a w _ S hE hH;have hr:=aJ hE m;rcases V.dJ.1 S with⟨i,hm,S⟩|⟨_,S⟩
  .rw [hm] at hr;obtain⟨aF1,hB,H⟩:∃aF1,ρ i=some aF1/\a.eval m= .map (some aF1.b):=by
    generalize a.eval m=vm at *;cases hr with|map _ aF1 hB=>grind
   obtain⟨l,c,hg,S⟩:=O.dJ.1 S;obtain⟨_,S⟩:=V.eP.1 S;obtain⟨_,S⟩:=V.eP.1 S;obtain⟨g,s,hl,yn⟩:=tA hH hB hg;rw[F] at S;have d:=aJ hE key;have rx:=aJ hE x;rcases pV (iU:=λ_=>bQ l [((ax key).get e,(ax x).get e,c)] (λl=>gy (Nat.add c 1) (λc=>eX i (.map l c) h (λh=>k cA h))))
     (hit:=λj _ b=>uM l j ((ax key).get e,(ax x).get e,b) (λl=>eX i (.map l c) h (λh=>k cA h))) N u d l g.toList 0 G W S with⟨f1,f2⟩|⟨j,y,mm,f1,f2,f3,f4,f5⟩
   .rw [bB,ea] at f2;obtain⟨R,E,kO,n⟩:=qN (ms':=g.push {key:=a.eval key,val:=a.eval x,born:=c}) hH hB hg W (λj y mm p v=>by
     rw[List.getElem?_append] at p;rw[Array.getElem?_push] at v;by_cases z:j<l.length
     .grind
     .rw [aj z] at p;by_cases Aq:j=g.size
      .rw [ao Aq] at v;have:j-l.length=0:=Z;rw[this] at p;simp at p v;subst p v;exact⟨d,rx,rfl⟩
      grind) f2
    refine fS.skip f ?_ ⟨cA,R,ρ,E,aW.eM (x:=#[]) .nil,kO,n⟩;rw[hex];simp[Instr.mapUpdate,aU h1,H,hY s,run_checkKey M u,run_findKey M f1,ju s]
   .have f4:=Gk f4;have A:g[j]? =some mm:=Zv;obtain⟨R,E,kO,n⟩:=qN (ms':=g.modify (0+j) λe=>{e with key:=a.eval key,val:=a.eval x}) hH hB hg W (λq y' mm' p v=>by
     rw[List.getElem?_set] at p;rw[a1i] at v;by_cases z:0+j=q
     .rw [ao z] at p v;have QS:0+j<l.length:=by
       rcases dN j l.length with h|h
       .omega
       .grind
      rw[ao QS] at p;subst z;simp only[dz] at v;rw[A] at v;simp at p v;subst p v;exact⟨d,rx,(yn j y mm f1 A).born⟩
     grind) f4
    refine fS.skip f ?_ ⟨cA,R,ρ,E,aW.eM (x:=#[]) .nil,kO,n⟩;rw[hex];have ar8:g[0+j]? =some mm:=by rw[dz];exact A
    simp only[Instr.mapUpdate,Sem.run_bind,aU h1,Result.andThen_ok,H,hY s,run_checkKey M u,run_findKey M f3,ar8,mI,uB,Lz f5,ju s,Sem.run_pure]
  trivial
 .exact .bad
end
variable{j u:Nat}{k:cR}
section
variable {P:Program} {C:Ctx} {ρ:Ren}
def ZM{l:List (V×V×Nat)}{g:Array MapEntry}{x:V×V×Nat}{m:MapEntry}(hl:l.length=g.size)(d:∀(i:Nat) x m,l[i]? =some x->g[i]? =some m->lV ρ x m)(S:lV ρ x m):
  (l++ [x]).length=(g.push m).size/\∀(i:Nat) y n,(l++ [x])[i]? =some y->(g.push m)[i]? =some n->lV ρ y n:=by
 grind
def zd{l:List (V×V×Nat)}{g:Array MapEntry}{y:V×V×Nat}{mm:MapEntry}{f:MapEntry->MapEntry}(hl:l.length=g.size)(d:∀(i:Nat) x m,l[i]? =some x->g[i]? =some m->lV ρ x m)
  (z:g[j]? =some mm) (S:lV ρ y (f mm)):(l.set j y).length=(g.modify j f).size/\∀(i:Nat) a n,(l.set j y)[i]? =some a->(g.modify j f)[i]? =some n->lV ρ a n:=by
 grind
def Ai{x:Value}(h:aW ρ (.map i) x):∃aF1,ρ i=some aF1/\x= .map (some aF1.b):=by cases h with|map _ aF1 q=>grind
def a38{o:Oper}{m key:Operand}(hC:CtxOk P C)(L:o.op= .mapEntry t m key):eY T P C (vj C t m key) o:=by
 have hd:∀c,o.op≠ .defer c:=O4;unfold vj;split
 .rename_i ei hmd;obtain⟨kt,el,ki,h1,N,M,u,h5,F⟩:=tC hC hmd;obtain⟨ie,g1,g2,g2b,g3,z,g4,g4b,g5,g6,g7,g8⟩:=hC.ty el ei h5;intro rt r e h k ρ a w _ S hE hH;have hr:=aJ hE m;rcases V.dJ.1 S with⟨i,hm,S⟩|⟨_,S⟩
  .rw [hm] at hr;obtain⟨aF1,q,H⟩:=Ai hr;obtain⟨l,c,p,S⟩:=O.dJ.1 S;obtain⟨_,S⟩:=V.eP.1 S;obtain⟨g,s,hl,yn⟩:=tA hH q p;rw[F] at S;have rk:=aJ hE key;rcases pV (iU:=λ_=>V.live ei.zero (λz=>bQ l [((ax key).get e,z,c)] (λl=>gy (Nat.add c 1) (λc'=>eX i (.map l c') h (λh=>k (.cI [z,.ik .i64 (.ofNat c)]) h)))))
     (hit:=λj v b=>uM l j ((ax key).get e,v,b) (λl=>eX i (.map l c) h (λh=>k (.cI [v,.ik .i64 (.ofNat b)]) h))) N u rk l g.toList 0 G W S with⟨f1,d⟩|⟨j,y,mm,f1,d,f3,f4,f5⟩
   .obtain ⟨_,d⟩:=V.eP.1 d;rw[bB,ea] at d;obtain⟨p1,p2⟩:=ZM (x:=((ax key).get e,ei.zero,c)) (m:={key:=a.eval key,val:=z,born:=c}) hl yn ⟨rk,W,rfl⟩;obtain⟨R,E,kO,n⟩:=qN hH q p p1 p2 d;refine fS.value hd ?_ ⟨_,R,ρ,E,aW.eM (x:=#[z,goInt c]) (.cons W (.cons (.ik _ _) .nil)),kO,n⟩;simp only[execOp,L,Instr.mapEntry,Sem.run_bind,aU h1,Result.andThen_ok,H,hY s,run_checkKey M u,run_findKey M f1,sh g1 g4,ju s,Sem.run_pure]
   .have f4:=Gk f4;have A:g[0+j]? =some mm:=by rw[dz];simpa using d
    have hej:=yn j y mm f1 (by simpa using d);obtain⟨p1,p2⟩:=zd (y:=((ax key).get e,y.2.1,y.2.2)) (f:=λe=>{e with key:=a.eval key}) hl yn A ⟨rk,hej.val,hej.born⟩;obtain⟨R,E,kO,n⟩:=qN hH q p p1 p2 f4;refine fS.value hd ?_ ⟨_,R,ρ,E,aW.eM (x:=#[mm.val,goInt mm.born]) (.cons hej.val (.cons (by rw[hej.born];exact .ik _ _) .nil)),kO,n⟩;simp only[execOp,L,Instr.mapEntry,Sem.run_bind,aU h1,Result.andThen_ok,H,hY s,run_checkKey M u,run_findKey M f3,A,mI,uB,Lz f5,ju s,Sem.run_pure]
  trivial
 .exact .bad
def CU{b:Nat}{hit:Nat->aY}:∀(l:List (V×V×Nat)) (g:List MapEntry) (i:Nat),l.length=g.length->(∀(j:Nat) x m,l[j]? =some x->g[j]? =some m->lV ρ x m)->
  cE (λ(_:Nat)=>false) (λx _ r i=>gK x (λq k=>gK k (λ_ c=>aR (Nat.beq c b) (hit i q) (gy (Nat.add i 1) r)))) l i=true->
  ∃j x m,l[j]? =some x/\g[j]? =some m/\hit (i+j) x.1=true/\g.findIdx? (λe=>(e.born:Int)==(b:Int))=some j
 |[],_,i,_,_,h=>G
 |x::l,[],_,t,_,_=>G
 |x::l,m::g,i,t,d,h=>by
  have s:=d 0 x m rfl rfl;rw[ga,oV,oV] at h;rcases bK.1 h with⟨F,h⟩|⟨F,h⟩
  .have F:=br F;refine⟨0,x,m,rfl,rfl,h,?_⟩;rw[List.findIdx?_cons];simp[←s.born,F]
  .have a:¬((m.born:Int)==(b:Int))=true:=by
    rw[←s.born];intro f;have f:x.2.2=b:=by have:=beq_iff_eq.1 f;omega
    rw[f] at F;simp at F
   obtain⟨j,y,L,A,N,M,u⟩:=CU l g (i+1) W (λj x m S R=>d (j+1) x m G G) h;refine⟨j+1,y,L,G,G,W,?_⟩;grind
def DC{o:Oper}{m s x:Operand}(L:o.op= .entryStore t m s x):eY T P C (mA m s x) o:=by
 have hd:∀c,o.op≠ .defer c:=O4;intro z r e h k ρ a w _ S R hH;have d:=aJ R m;rcases V.dJ.1 S with⟨i,hm,S⟩|⟨_,S⟩
 .rw [hm] at d;obtain⟨aF1,hB,H⟩:=Ai d;obtain⟨l,c,p,S⟩:=O.dJ.1 S;obtain⟨M,b,hb,S⟩:=gL (aJ R s) S;obtain⟨_,S⟩:=V.eP.1 S;obtain⟨g,hms,hl,u⟩:=tA hH hB p;obtain⟨j,y,mm,f1,f2,N,f4⟩:=CU (hit:=λj q=>uM l j (q,(ax x).get e,b) (λl=>eX i (.map l c) h (λh=>k cA h))) l g.toList 0 G (λj x m S hm=>u j x m S (by simpa using hm)) S;have N:=Gk N;rw[dz] at N;have A:g[j]? =some mm:=Zv;have hej:=u j y mm f1 A;have f4':g.findIdx? (λe=>(e.born:Int)==(b:Int))=some j:=by
   rw[←List.findIdx?_toArray] at f4
   simpa using f4
  have a4i:b=mm.born:=by have:=(a1d.1 f4').2.1;have hjs:j<g.size:=(a1d.1 f4').1;rw[mL hjs] at A;cases A;have:=beq_iff_eq.1 this;omega
  obtain⟨v,p2⟩:=zd (y:=(y.1,(ax x).get e,b)) (f:=λe=>{e with val:=a.eval x}) hl u A ⟨hej.key,aJ R x,a4i⟩;obtain⟨h',E,kO,n⟩:=qN hH hB p v p2 N;refine fS.skip hd ?_ ⟨cA,h',ρ,E,aW.eM (x:=#[]) .nil,kO,n⟩;simp only[execOp,L,Instr.entryStore,Sem.run_bind,H,hY hms,Result.andThen_ok,asInt,hb,asIntOf,Sem.run_pure,f4',ju hms]
 trivial
def RN{l:List (V×V×Nat)}{g:Array MapEntry}(hl:l.length=g.size)(d:∀(i:Nat) x m,l[i]? =some x->g[i]? =some m->lV ρ x m)(z:j<g.size):
  (l.eraseIdx j).length=(g.eraseIdxIfInBounds j).size/\∀(i:Nat) a n,(l.eraseIdx j)[i]? =some a->(g.eraseIdxIfInBounds j)[i]? =some n->lV ρ a n:=by
 grind
def X1{o:Oper}{m key:Operand}{F:Array TypeId}(E:CtxOk P C)(DI:F[0]? =some t)(L:o.op= .call {callee:=.builtin .delete,args:=#[m,key],argTypes:=F}):eY T P C (wT C t m key) o:=by
 have f:∀c,o.op≠ .defer c:=O4;unfold wT;split
 .rename_i ei hmd;obtain⟨kt,el,ki,h1,N,M,u,h5,h6⟩:=tC E hmd;intro z r e h k ρ a w _ S R hH;have d:=aJ R m;have A:∀w',(Builtin.delete_ F o.type #[a.eval m,a.eval key]).run P w= .ok (.tuple #[]) w'->(execOp a.eval o).run P w= .ok (.value (.tuple #[])) w':=by
   intro w' hh;obtain⟨cs,hb⟩:=gN (P:=P) (a:=a) (w:=w) L;rw[hb];simp[builtin,hh]
  rcases V.dJ.1 S with⟨i,hm,S⟩|⟨_,S⟩
  .rw [hm] at d;obtain⟨aF1,q,H⟩:=Ai d;obtain⟨l,c,p,S⟩:=O.dJ.1 S;obtain⟨_,S⟩:=V.eP.1 S;obtain⟨g,s,hl,yn⟩:=tA hH q p;rw[h6] at S;have rk:=aJ R key;rcases pV (iU:=λ_=>k cA h) (hit:=λj _ _=>wQ l j (λl=>eX i (.map l c) h (λh=>k cA h))) N u rk l g.toList 0 G W S with⟨f1,f2⟩|⟨j,y,mm,f1,f2,f3,f4,f5⟩
   ·
    have hb:=(hH.pW i aF1 q).2;have ahT:({w with heap:=w.heap.setIfInBounds aF1.b (.map g c)}:World).heap=w.heap:=by
     show w.heap.setIfInBounds aF1.b (.map g c)=w.heap;apply Array.ext
     .simp
     .grind
    refine fS.value f (A {w with heap:=w.heap.setIfInBounds aF1.b (.map g c)} ?_) (iG.same f2 (aW.eM (x:=#[]) .nil) hH ahT);simp only[Builtin.delete_,DI,a17,H];simp[aU h1,hY s,run_checkKey M u,run_findKey M f1,ju s]
   .have f4:=a4Z f4;rw[dz] at f4 f3;have hjs:j<g.size:=by
     rcases dN j g.size with h|h
     .exact h
     .grind
    obtain⟨v,p2⟩:=RN hl yn hjs;obtain⟨h',hk,kO,n⟩:=qN hH q p v p2 f4;refine fS.value f (A _ ?_) ⟨cA,h',ρ,hk,aW.eM (x:=#[]) .nil,kO,n⟩;simp[Builtin.delete_,DI,H,aU h1,hY s,run_checkKey M u,run_findKey M f3,ju s]
  trivial
 .exact .bad
def Hk(n m:Nat):PJ n m=Nat.min n m:=by
 unfold PJ;rcases Nat.le_total n m with h|h
 .rw [iJ h];grind
 .cases s:Nat.ble n m with
  |true=>have:=bh s;grind
  |false=>grind
def Reads(P:Program)(ρ:Ren)(f:Nat)(z:Value)(w:World)(src:Nat->(Nat->ay->Bool)->Bool):Prop:=
 ∀(m:Nat) (k:Nat->ay->Bool),src m k=true->∃n H L,k (Nat.min n m) H=true/\cG ρ H L/\(∀v∈H,v.de=true)/\(Builtin.lenOf z).run P w= .ok n w/\(Builtin.firstCells f (Nat.min n m) z).run P w= .ok L.toArray w
def JV{f:Nat}{x:V}{z:Value}{g:Heap}{w:World}(y:aO P C ρ g w)(d:aW ρ x z):Reads P ρ f z w (kp f x g):=by
 intro m k h;unfold kp at h;rcases V.dZ.1 h with⟨i,p,n,c,rfl,R⟩|⟨rfl,R⟩|⟨rfl,R⟩
 .obtain ⟨j,cap,q,_,_,rfl|⟨rfl,rfl,r,rfl⟩⟩:=oa d
  case inr=>rw[ea,Hk] at R;obtain⟨l,a,b,A,N,M,u⟩:=eu y q R;have M:l.length=Nat.min 0 m*f:=M;rw[show Nat.min 0 m=0 from G,qp] at M;have S:a= []:=pk Zb;subst S;exact⟨0,l,[],b,A,N,rfl,run_firstCells_some w f _ r 0 0 [] W J1⟩
  rw[ea,Hk] at R;obtain⟨l,a,b,A,N,M,u⟩:=eu y q R;have M:l.length=Nat.min n m*f:=M;exact⟨n,l,a,b,A,N,rfl,run_firstCells_some w f (Nat.min n m) _ n cap a Zb u⟩
 .cases d;exact⟨0,[],[],G,.nil,J1,rfl,G⟩
 .cases d with
  |z8 r cap=>exact⟨0,[],[],G,.nil,J1,rfl,run_firstCells_some w f _ r 0 cap [] W J1⟩
def OY{x:V}{z:Value}{w:World}(d:aW ρ x z):Reads P ρ 1 z w (td x):=by
 intro m k h;unfold td at h;obtain⟨s,rfl,h⟩:=fU d h;rw[ea,Hk,dx,jz] at h;obtain⟨A,h⟩:=qJ h;rw[bB,j9] at h;have e:(bytesOf s).take (Nat.min s.size m)=bytesOf (s.extract 0 (Nat.min s.size m)):=by unfold bytesOf;rw[ByteArray.data_extract,NT,Oi,←FG];simp
 rw[e] at h;refine⟨s.size,_,byteCells (s.extract 0 (Nat.min s.size m)),h,Fu,by simp[V.de],rfl,?_⟩;simp[Builtin.firstCells,byteCells];grind
def ME{f:TypeInfo}{d:V}{x z:Value}{g:Heap}{w:World}{p st ty:TypeId}{src:Nat->(Nat->ay->Bool)->Bool}(ht:P.underlying p=some (.slice u))(F:P.info? u=some f)
  (y:aO P C ρ g w) (S:aW ρ d x) (M:Reads P ρ f.size z w src) (h:rA d g src k=true):
  ∃V v tV w',k V tV=true/\aW ρ V v/\aO P C ρ tV w'/\Le ρ g w ρ tV w'/\(Builtin.copy_ #[p,st] ty #[x,z]).run P w= .ok v w':=by
 unfold rA at h;rcases V.dZ.1 h with⟨i,o,m,c,rfl,h⟩|⟨rfl,h⟩|⟨_,h⟩
 .obtain ⟨j,cap,hB,_,_,rfl|⟨rfl,rfl,r,rfl⟩⟩:=oa S
  case inr=>
   obtain⟨n,cs,L,h,hr,A,t,H⟩:=M 0 _ h;obtain⟨R,w',E,N,b,hL⟩:=gO y hB hr A h;have e:(Builtin.firstCells f.size (n.min 0) z).run P w= .ok L.toArray w:=H;have s:L= []:=by rw[show n.min 0=0 from Nat.min_zero n] at e;have q:=λa=>run_loadCells_list (P:=P) w a [] J1;simp only[FP] at q;cases z<;>simp[Builtin.firstCells] at e<;>first|trivial|(split at e<;>simp_all)
   subst s;have l:w'=w:=by simp only[storeCells,Sem.run_pure] at N;cases N;rfl
   subst l;refine⟨_,goInt (Nat.min n 0),R,w',E,.ik _ _,b,hL,?_⟩;simp only[Builtin.copy_];simp[aU ht,t,df F] at e ⊢;simp[e,storeCells]
  obtain⟨n,cs,L,h,hr,A,t,H⟩:=M m _ h;obtain⟨R,w',E,N,b,hL⟩:=gO y hB hr A h;refine⟨_,goInt (Nat.min n m),R,w',E,.ik _ _,b,hL,?_⟩;have e:(Builtin.firstCells f.size (n.min m) z).run P w= .ok L.toArray w:=H;simp only[Builtin.copy_];simp[aU ht,t,df F,e,N]
 .cases S;obtain⟨n,cs,L,h,hr,A,t,H⟩:=M 0 _ h;have e:(Builtin.firstCells f.size (n.min 0) z).run P w= .ok L.toArray w:=H;refine⟨_,goInt (Nat.min n 0),g,w,h,.ik _ _,y,Le.refl _ _ _,?_⟩;simp only[Builtin.copy_];simp[aU ht,t,df F] at e ⊢;simp[e]
 trivial
def a7M{o:Oper}{d s:Operand}{F:Array TypeId}(E:CtxOk P C)(L:o.op= .call {callee:=.builtin .copy,args:=#[d,s],argTypes:=F}):eY T P C (MF C F.toList d s) o:=by
 have f:∀c,o.op≠ .defer c:=O4;unfold MF;split
 .rename_i p m DI;obtain rfl:F= #[p,m]:=W;split
  .rename_i di N g q;obtain⟨_,_,_,j⟩:=bU E g;split
   .rename_i u fW;rw[fW] at j;split
    .rename_i x rf;obtain⟨ie,g1,z,_⟩:=bU E rf;have key:∀(a:Act) (w l:World) (v:Value),(Builtin.copy_ #[p,m] o.type #[a.eval d,a.eval s]).run P w= .ok v l->(execOp a.eval o).run P w= .ok (.value v) l:=by
      intro a w l v h;obtain⟨H,A⟩:=gN (P:=P) (a:=a) (w:=w) L;rw[A];simp[builtin,h]
     dsimp only
     split
     .intro rt r e h k ρ a w _ S R y;obtain⟨V,v,tV,l,t,i,n,M,b⟩:=ME (st:=m) (ty:=o.type) j g1 y (aJ R d) (by rw[z];exact JV y (aJ R s)) S;exact fS.value f (key a w l v b) ⟨V,tV,ρ,t,i,n,M⟩
     .have hz:x.sz=1:=by assumption
      intro rt r e h k ρ a w _ S R y;obtain⟨V,v,tV,l,t,i,n,M,b⟩:=ME (st:=m) (ty:=o.type) j g1 y (aJ R d) (by rw[z,hz];exact OY (aJ R s)) S;exact fS.value f (key a w l v b) ⟨V,tV,ρ,t,i,n,M⟩
     .exact .bad
    .exact .bad
   .exact .bad
  .exact .bad
 .exact .bad
end
variable{a:Act}{d:Nat}
section
variable {P:Program} {C:Ctx} {ρ:Ren}
def akw(P:Program)(t:Nat)(d:Nat)(x:EqV):Prop:=
 ∀(ρ:Ren) (a b:V) (u v:Value) (q:Bool->Bool) (w:World) (n:Nat),d<=n->aW ρ a u->aW ρ b v->x.run a b q=true->∃c,q c=true/\(Op.equalIn n t u v).run P w= .ok c w
def sI:akw P t d zb:=λ_ _ _ _ _ _ _ _ _ _ _ h=>G
def RM(E:CtxOk P C):∀(d t:Nat),akw P t d (mF C d t)
 |0,t=>sI
 |d+1,t=>by
  have IH:=RM E d;unfold mF;split
  .exact sI
  .rename_i ti rS;obtain⟨inf,A,h2,M⟩:=bU E rS;split
   .rename_i k fW;rw[fW] at M;intro ρ a b u v q w n g S s h;obtain⟨n,rfl⟩:∃m,n=m+1:=⟨n-1,Z⟩;obtain⟨p,x,y,rfl,rfl,h⟩:=wO S s h;exact⟨_,h,run_equalIn_int w n t p k x y M⟩
   .rename_i fW;rw[fW] at M;intro ρ a b u v q w n g S s h;obtain⟨n,rfl⟩:∃m,n=m+1:=⟨n-1,Z⟩;obtain⟨x,y,rfl,rfl,h⟩:=HU S s h;exact⟨_,h,by rw[run_equalIn_string w n t x y M,beq_toListBytes]⟩
   .rename_i fW;rw[fW] at M;intro ρ a b u v q w n g S s h;obtain⟨n,rfl⟩:∃m,n=m+1:=⟨n-1,Z⟩;obtain⟨x,y,rfl,rfl,h⟩:=HV S s h;exact⟨_,h,run_equalIn_bool' w n t x y M⟩
   .rename_i fs fW;rw[fW] at M;split
    .exact sI
    .rename_i N;have a8n:P.stoodInHeld t=false:=by rw[←(E.eq t ti rS).1];exact N
     intro ρ a b u v q w n g S s h;obtain⟨n,rfl⟩:∃m,n=m+1:=⟨n-1,Z⟩;obtain⟨xs,xv,rfl,rfl,e,F,h⟩:=gA S h;obtain⟨R,yv,rfl,rfl,y1,y2,h⟩:=gA s h;have hfs:P.fieldsOf t=fs:=by simp[Program.fieldsOf,M]
     rw[run_equalIn_agg w n t xv yv W a8n,hfs];clear hfs N a8n M fW;generalize fs.toList=l at h
     induction l with
     |nil=>exact⟨true,h,rfl⟩
     |cons f l H=>
      rw[ga] at h;split at h
      .rename_i j hnm hfi;obtain⟨inf,g1,z,o⟩:=bU E hfi;have hnm : f.name ≠ "_" := by simpa using hnm
       have h : mu (iC j.desc) j.sz xs f.offset (λx => mu (iC j.desc) j.sz R f.offset (λy => (mF C d f.type).run x y (λc => aR c ((cE (⟨λ_ _ q => q true⟩ : NG) (λf _ r => match decide (f.name = "_"), C.ty f.type with
        |false,some j=>ka (mF C d f.type) (iC j.desc) j.sz f.offset r
        |_,_=>yo) l).run xs R q) (q false))))=true:=h
       rw[←z] at h;obtain⟨V1,v1,h,r1,_,p1⟩:=pN (w:=w) g1 o e F h;obtain⟨V2,v2,h,r2,_,p2⟩:=pN (w:=w) g1 o y1 y2 h;obtain⟨c,h,p3⟩:=IH f.type ρ V1 V2 v1 v2 _ w n Z r1 r2 h;rcases bK.1 h with⟨rfl,h⟩|⟨rfl,h⟩
       .obtain ⟨L,h4,h5⟩:=H h;refine⟨L,h4,?_⟩;simp only[Op.eqFields,ao hnm,Sem.run_bind,p1,p2,p3,Result.andThen_ok];trivial
       .refine ⟨false,h,?_⟩;simp only[Op.eqFields,ao hnm,Sem.run_bind,p1,p2,p3,Result.andThen_ok];simp
      trivial
   .rename_i m el fW;rw[fW] at M;split
    .exact sI
    .rename_i ei rf;obtain⟨inf,g1,z,o⟩:=bU E rf;intro ρ a b u v q w n g S s h;obtain⟨n,rfl⟩:∃m,n=m+1:=⟨n-1,Z⟩;obtain⟨xs,xv,rfl,rfl,e,F,h⟩:=gA S h;obtain⟨R,yv,rfl,rfl,y1,y2,h⟩:=gA s h;rw[run_equalIn_array w n xv yv M g1,jM g1];generalize List.range m=l at h
     induction l with
     |nil=>exact⟨true,h,rfl⟩
     |cons i l H=>
      rw[ga] at h;have h:mu (iC ei.desc) ei.sz xs (i*ei.sz) (λx=>mu (iC ei.desc) ei.sz R (i*ei.sz) (λy=>(mF C d el).run x y (λc=>aR c ((cE (⟨λ_ _ q=>q true⟩:NG) (λi _ r=>ka (mF C d el) (iC ei.desc) ei.sz (Nat.mul i ei.sz) r) l).run xs R q) (q false))))=true:=h;rw[←z] at h;obtain⟨V1,v1,h,r1,_,p1⟩:=pN (w:=w) g1 o e F h;obtain⟨V2,v2,h,r2,_,p2⟩:=pN (w:=w) g1 o y1 y2 h;obtain⟨c,h,p3⟩:=IH el ρ V1 V2 v1 v2 _ w n Z r1 r2 h;rcases bK.1 h with⟨rfl,h⟩|⟨rfl,h⟩
      .rw [z] at h;obtain⟨L,h4,h5⟩:=H h;refine⟨L,h4,?_⟩;simp only[Op.eqItems,Sem.run_bind,p1,p2,p3,Result.andThen_ok];trivial
      .refine ⟨false,h,?_⟩;simp only[Op.eqItems,Sem.run_bind,p1,p2,p3,Result.andThen_ok];simp
   .exact sI
structure Nr(P:Program)(t:TypeId)(x y:Operand)(u v:Value)(w:World)(c:Bool):Prop where
 eql:(binOp .eql t u v).run P w= .ok (.bool c) w
 neq:(binOp .neq t u v).run P w= .ok (.bool (!c)) w
 guard:∀op,(eqGuard op t x y u v).run P w= .ok () w
def fx{t:TypeId}{x y:Operand}{u v:Value}{w:World}{c:Bool}(N:binOp .eql t u v=(do pure (.bool (←Op.equal t u v)):Sem Value))(e:binOp .neq t u v=(do pure (.bool (!(←Op.equal t u v))):Sem Value))
  (h:(Op.equalIn 10000 t u v).run P w= .ok c w) (p:∀op,(eqGuard op t x y u v).run P w= .ok () w):Nr P t x y u v w c:=by
 have R:(Op.equal t u v).run P w= .ok c w:=h;exact⟨by rw[N];simp[R],by rw[e];simp[R],p⟩
def TO{d:TypeDesc}{y:Operand}(h:sB d y=true):∃v,y= .const v/\
  ((∃e,d= .pointer e/\v= .pointer none)\/(∃e,d= .slice e/\v= .slice none 0 0)\/(∃k e,d= .map k e/\v= .map none)\/(∃a b c,d= .func a b c/\v= .nilFunc)\/(∃m,d= .interface m/\v= .nilIface)):=by
 unfold sB at h;grind
def sS{t:TypeId}{u v:Value}{w:World}{c:Bool}(h:∀n:Nat,(Op.equalIn (n+1) t u v).run P w= .ok c w):(Op.equalIn 10000 t u v).run P w= .ok c w:=W
def a7S{t:TypeId}{e:TypeId}{x y:Operand}{V:V}{u:Value}{w:World}{q:Bool->Bool}(hd:P.underlying t=some (.pointer e))(L:aW ρ V u)(N:V.cq q=true)
  (f:(∃z,x= .const z)\/∃z,y= .const z):∃c,q c=true/\Nr P t x y u (.pointer none) w c/\Nr P t x y (.pointer none) u w c:=by
 cases V<;>simp only[Ev.V.cq] at N<;>first|trivial|skip
 all_goals cases L
 all_goals refine⟨_,N,fx rfl rfl ?_ (λop=>?_),fx rfl rfl ?_ (λop=>?_)⟩
 all_goals first
  |(refine sS (λn=>?_);simp only[Op.equalIn,Sem.run_bind,aU hd,Result.andThen_ok];rfl)
  |(unfold eqGuard;cases op<;>simp)
def ac4{t:TypeId}{e:TypeId}{x y:Operand}{V:V}{u:Value}{w:World}{q:Bool->Bool}(hd:P.underlying t=some (.slice e))(L:aW ρ V u)(N:V.ot q=true)
  (f:(∃z,x= .const z)\/∃z,y= .const z):∃c,q c=true/\Nr P t x y u (.slice none 0 0) w c/\Nr P t x y (.slice none 0 0) u w c:=by
 cases V<;>simp only[Ev.V.ot] at N<;>first|trivial|skip
 all_goals cases L
 all_goals refine⟨_,N,fx rfl rfl ?_ (λop=>?_),fx rfl rfl ?_ (λop=>?_)⟩
 all_goals first
  |(refine sS (λn=>?_);simp only[Op.equalIn,Sem.run_bind,aU hd,Result.andThen_ok];rfl)
  |(unfold eqGuard;cases op<;>simp)
def a7T{t:TypeId}{k e:TypeId}{x y:Operand}{V:V}{u:Value}{w:World}{q:Bool->Bool}(hd:P.underlying t=some (.map k e))(L:aW ρ V u)(N:V.il q=true)
  (f:(∃z,x= .const z)\/∃z,y= .const z):∃c,q c=true/\Nr P t x y u (.map none) w c/\Nr P t x y (.map none) u w c:=by
 cases V<;>simp only[Ev.V.il] at N<;>first|trivial|skip
 all_goals cases L
 all_goals refine⟨_,N,fx rfl rfl ?_ (λop=>?_),fx rfl rfl ?_ (λop=>?_)⟩
 all_goals first
  |(refine sS (λn=>?_);simp only[Op.equalIn,Sem.run_bind,aU hd,Result.andThen_ok];rfl)
  |(unfold eqGuard;cases op<;>simp)
def ac6{t:TypeId}{ps a:Array TypeId}{b:Bool}{x y:Operand}{V:V}{u:Value}{w:World}{q:Bool->Bool}(hd:P.underlying t=some (.func ps a b))(L:aW ρ V u)(N:V.EC q=true)
  (f:(∃z,x= .const z)\/∃z,y= .const z):∃c,q c=true/\Nr P t x y u (.nilFunc) w c/\Nr P t x y (.nilFunc) u w c:=by
 cases V<;>simp only[Ev.V.EC] at N<;>first|trivial|skip
 all_goals cases L
 all_goals refine⟨_,N,fx rfl rfl ?_ (λop=>?_),fx rfl rfl ?_ (λop=>?_)⟩
 all_goals first
  |(refine sS (λn=>?_);simp only[Op.equalIn,Sem.run_bind,aU hd,Result.andThen_ok];rfl)
  |(unfold eqGuard;cases op<;>simp)
def ac5{t:TypeId}{g:Array (String×TypeId)}{x y:Operand}{V:V}{u:Value}{w:World}{q:Bool->Bool}(hd:P.underlying t=some (.interface g))(L:aW ρ V u)(N:V.EB q=true)
  (f:(∃z,x= .const z)\/∃z,y= .const z):∃c,q c=true/\Nr P t x y u (.nilIface) w c/\Nr P t x y (.nilIface) u w c:=by
 rcases f with⟨A,rfl⟩|⟨A,rfl⟩<;>cases V<;>simp only[Ev.V.EB] at N<;>first|trivial|skip
 all_goals cases L
 all_goals refine⟨_,N,fx rfl rfl ?_ (λop=>?_),fx rfl rfl ?_ (λop=>?_)⟩
 all_goals first
  |(refine sS (λn=>?_);simp only[Op.equalIn,Sem.run_bind,aU hd,Result.andThen_ok];rfl)
  |(unfold eqGuard;cases op<;>simp)
def KJ{t:TypeId}{d:TypeDesc}{x y:Operand}{V:V}{u v:Value}{w:World}{q:Bool->Bool}(hd:P.underlying t=some d)(L:aW ρ V u)(N:(XE d).run V q=true)
  (H:(∃e,d= .pointer e/\v= .pointer none)\/(∃e,d= .slice e/\v= .slice none 0 0)\/(∃k e,d= .map k e/\v= .map none)\/(∃a b c,d= .func a b c/\v= .nilFunc)\/(∃m,d= .interface m/\v= .nilIface))
  (f:(∃z,x= .const z)\/∃z,y= .const z):∃c,q c=true/\Nr P t x y u v w c/\Nr P t x y v u w c:=by
 rcases H with⟨e,rfl,rfl⟩|⟨e,rfl,rfl⟩|⟨k,e,rfl,rfl⟩|⟨a,b,c,rfl,rfl⟩|⟨m,rfl,rfl⟩
 .exact a7S hd L N f
 .exact ac4 hd L N f
 .exact a7T hd L N f
 .exact ac6 hd L N f
 .exact ac5 hd L N f
def HT{t:TypeId}{x y:Operand}{k:IntKind}{m n:Int}{w:World}:Nr P t x y (.int k m) (.int k n) w (m==n):=
 ⟨by simp[binOp,Op.intCmp],by simp[binOp,Op.intCmp,bne],λ_=>kK⟩
def a8W{t:TypeId}{x y:Operand}{m n:ByteArray}{w:World}:Nr P t x y (.string m) (.string n) w (m==n):=
 ⟨K7,K7,λ_=>za⟩
def a4S{t:TypeId}{x y:Operand}{m n:Bool}{w:World}(h:P.underlying t=some .bool):Nr P t x y (.bool m) (.bool n) w (m==n):=
 fx rfl rfl (run_equalIn_bool' w 9999 t m n h) (λop=>Jj)
def uT{V:V}{u:Value}{q:Bool->Bool}(d:aW ρ V u)(h:V.cq q=true):∃r,u= .pointer r/\q r.isNone=true:=by cases d<;>simp only[V.cq] at h<;>first|trivial|grind
def UK(E:CtxOk P C){x y:Operand}{e:Env}{w:World}{q:Bool->Bool}(hE:dV ρ e a.tmps)(S:(IP C t x y).run e h q=true):∃c,q c=true/\Nr P t x y (a.eval x) (a.eval y) w c:=by
 have rx:=aJ hE x;have d:=aJ hE y;unfold IP at S;split at S
 .trivial
 .rename_i g F;obtain⟨_,_,_,M⟩:=bU E F;split at S
  .rename_i _ hy;obtain⟨v,rfl,H⟩:=TO hy;obtain⟨c,A,N,_⟩:=KJ (x:=x) (y:=.const v) (w:=w) M rx S H W;exact⟨c,A,N⟩
  .have hxn:sB g.desc x=true:=by assumption
   obtain⟨v,rfl,H⟩:=TO hxn;obtain⟨c,A,_,N⟩:=KJ (x:=.const v) (y:=y) (w:=w) M d S H W;exact⟨c,A,N⟩
  .split at S
   .rename_i f;rw[f] at M;have S:(mF C 1 t).run ((ax x).get e) ((ax y).get e) q=true:=S;unfold mF at S;rw[F] at S;simp only[f] at S;obtain⟨m,n,A,N,u⟩:=HV rx d S;rw[A,N];exact⟨_,u,a4S M⟩
   .rename_i k f;have S:(mF C 1 t).run ((ax x).get e) ((ax y).get e) q=true:=S;unfold mF at S;rw[F] at S;simp only[f] at S;obtain⟨k,m,n,A,N,u⟩:=wO rx d S;rw[A,N];exact⟨_,u,HT⟩
   .rename_i f;have S:(mF C 1 t).run ((ax x).get e) ((ax y).get e) q=true:=S;unfold mF at S;rw[F] at S;simp only[f] at S;obtain⟨m,n,A,N,u⟩:=HU rx d S;rw[A,N];exact⟨_,u,a8W⟩
   .rename_i l f;split at S
    .trivial
    .rename_i hg;have S:V.dY ((ax x).get e) (λ_=>V.dY ((ax y).get e) (λ_=>(mF C 20 t).run ((ax x).get e) ((ax y).get e) q))=true:=S;obtain⟨cs,xs,_,L,_,_,S⟩:=gA rx S;obtain⟨ds,R,_,H,_,_,S⟩:=gA d S;rw[L] at rx;rw[H] at d;obtain⟨c,u,h5⟩:=RM E 20 t ρ _ _ _ _ q w 10000 Z rx d S;rw[L,H];exact⟨c,u,fx rfl rfl h5 (λop=>run_eqGuard_agg w op t x y xs R Xc)⟩
   .rename_i n el f;split at S
    .trivial
    .rename_i hg;have S:V.dY ((ax x).get e) (λ_=>V.dY ((ax y).get e) (λ_=>(mF C 20 t).run ((ax x).get e) ((ax y).get e) q))=true:=S;obtain⟨cs,xs,_,L,_,_,S⟩:=gA rx S;obtain⟨ds,R,_,H,_,_,S⟩:=gA d S;rw[L] at rx;rw[H] at d;obtain⟨c,u,h5⟩:=RM E 20 t ρ _ _ _ _ q w 10000 Z rx d S;rw[L,H];exact⟨c,u,fx rfl rfl h5 (λop=>run_eqGuard_agg w op t x y xs R Xc)⟩
   .rename_i el f;rw[f] at M;split at S
    .rename_i ei rf;obtain⟨ie,s,z,_⟩:=bU E rf;split at S
     .trivial
     .rename_i hz;have hz':ie.size≠0:=by rw[z];exact G
      have apN:∀(p q:Option Addr) op,(eqGuard op t x y (.pointer p) (.pointer q)).run P w= .ok () w:=λp q op=>Jj;rcases V.vd.1 S with⟨i,o,EU,S⟩|⟨_,S⟩
      .rw [EU] at rx;obtain⟨aF1,hB,L⟩:∃aF1,ρ i=some aF1/\a.eval x= .pointer (some ⟨aF1.b,o,none⟩):=by
        generalize a.eval x=vx at *;cases rx with|ptr _ _ aF1 hB=>grind
       rcases V.vd.1 S with⟨j,p,hyv,S⟩|⟨_,S⟩
       .rw [hyv] at d;obtain⟨B',hB',H⟩:∃aF1,ρ j=some aF1/\a.eval y= .pointer (some ⟨aF1.b,p,none⟩):=by
         generalize a.eval y=vy at *;cases d with|ptr _ _ aF1 hB=>grind
        obtain⟨hij,rR⟩:=aN.1 S;have hij:=br hij;subst hij;rw[hB] at hB';cases hB';rw[L,H];refine⟨_,rR,fx rfl rfl (sS λn=>?_) W⟩;simp only[Op.equalIn,Sem.run_bind,aU M,Result.andThen_ok,df s,ne_eq,hz',not_false_eq_true,if_true];have e:((⟨aF1.b,o,none⟩:Addr)==⟨aF1.b,p,none⟩)=Nat.beq o p:=by rw[qA];simp
        simp[sameAddr,e]
       .obtain ⟨r,H,S⟩:=uT d S;obtain⟨hr,S⟩:=aN.1 S;obtain rfl:r=none:=I8;rw[L,H];refine⟨false,S,fx rfl rfl (sS λn=>?_) W⟩;simp only[Op.equalIn,Sem.run_bind,aU M,Result.andThen_ok];rfl
      .obtain ⟨r,L,S⟩:=uT rx S;obtain⟨hr,S⟩:=aN.1 S;obtain rfl:r=none:=I8;obtain⟨r,H,S⟩:=uT d S;rw[L,H];refine⟨_,S,fx rfl rfl (sS λn=>?_) W⟩;cases r<;>(simp only[Op.equalIn,Sem.run_bind,aU M,Result.andThen_ok];rfl)
    trivial
   trivial
end
variable{m:Nat}
section
variable {P:Program} {C:Ctx} {ρ:Ren}
def zT{o:Oper}{op:BinOp}{t u:TypeId}{x y:Operand}(L:o.op= .binOp op t x y u){w:World}{v:Value}(p:(eqGuard op t x y (a.eval x) (a.eval y)).run P w= .ok () w)(s:(binOp op t (a.eval x) (a.eval y)).run P w= .ok v w):
  (execOp a.eval o).run P w= .ok (.value v) w:=by
 simp[execOp,L,p,s]
def ac1{o:Oper}{op:BinOp}{t u:TypeId}{x y:Operand}(p:CtxOk P C)(L:o.op= .binOp op t x y u):eY T P C (da C op t x y) o:=by
 have j:∀c,o.op≠ .defer c:=O4;unfold da;split
 .exact .bad
 .rename_i ti F;split
  .refine .pure j λρ e q a w h R=>?_;obtain⟨k,m,n,l,H,h⟩:=wO (aJ R x) (aJ R y) h;obtain⟨V,A,N,M⟩:=gw h;have E:=HT (P:=P) (t:=t) (x:=x) (y:=y) (k:=k) (m:=m) (n:=n) (w:=w);exact⟨V,_,A,N,M,zT L (by rw[l,H];trivial) (by rw[l,H];exact E.eql)⟩
  .refine .pure j λρ e q a w h R=>?_;obtain⟨k,m,n,l,H,h⟩:=wO (aJ R x) (aJ R y) h;obtain⟨V,A,N,M⟩:=gw h;rw[k8] at N;have E:=HT (P:=P) (t:=t) (x:=x) (y:=y) (k:=k) (m:=m) (n:=n) (w:=w);exact⟨V,_,A,N,M,zT L (by rw[l,H];trivial) (by rw[l,H];exact E.neq)⟩
  .refine .still j λz e h k ρ a w S R r=>?_;obtain⟨c,S,E⟩:=UK (w:=w) p R S;obtain⟨V,A,N,M⟩:=gw (ρ:=ρ) S;exact⟨V,_,w,A,N,zT L (E.guard _) E.eql,rfl⟩
  .refine .still j λz e h k ρ a w S R r=>?_;obtain⟨c,S,E⟩:=UK (w:=w) p R S;obtain⟨V,A,N,M⟩:=gw (ρ:=ρ) S;rw[k8] at N;exact⟨V,_,w,A,N,zT L (E.guard _) E.neq,rfl⟩
  .exact .pure j (abX L)
  .have v:∀d,o.op= .binOp d t x y u->(d≠ .eql/\d≠ .neq)->eY T P C (gj d x y) o:=by
    intro d i b;obtain⟨f,s,g⟩:=a5F (P:=P) i b;rw[s];exact .pure j g
   grind
  .exact .bad
def abZ{o:Oper}{x:Operand}{k:Array TypeId}(E:CtxOk P C)(b:k[0]? =some t)(L:o.op= .call {callee:=.builtin .cap,args:=#[x],argTypes:=k}):eY T P C (a0b C t x) o:=by
 have f:∀c,o.op≠ .defer c:=O4;unfold a0b;split
 .rename_i g l;obtain⟨_,_,_,M⟩:=bU E l;split
  .rename_i A v;rw[v] at M;refine .pure f λρ e q a w h R=>?_;have d:=aJ R x;obtain⟨y,s⟩:=gN (P:=P) (a:=a) (w:=w) L;rcases V.dZ.1 h with⟨i,p,n,c,z,h⟩|⟨z,h⟩|⟨_,h⟩
   .rw [z] at d;obtain⟨j,cap,N,F,_,H⟩:=oa d;rcases lL.1 h with⟨m,rfl,h⟩|⟨_,_,_,h⟩
    .have F:cap=m:=F;subst F;obtain⟨u,h⟩:=aN.1 h;refine⟨_,_,h,.num _ (bh u),J1,?_⟩;rw[s];rcases H with H|⟨rfl,rfl,r,H⟩<;>simp[builtin,Builtin.cap_,b,aU M,H,goInt]
    trivial
   .rw [z] at d;have H:a.eval x= .slice none 0 0:=by
     generalize a.eval x=S at *;cases d;rfl
    refine⟨_,_,h,.num 0 G,J1,?_⟩;rw[s];simp[builtin,Builtin.cap_,b,aU M,H,goInt]
   trivial
  .exact .bad
 .exact .bad
def KB{o:Oper}{x:Operand}(E:CtxOk P C)(L:o.op= .range t x):eY T P C (th C t x) o:=by
 have f:∀c,o.op≠ .defer c:=O4;unfold th;split
 .rename_i A F;obtain⟨_,_,_,M⟩:=bU E F;split
  .rename_i d;rw[d] at M;intro z r e h k ρ a w _ S R y;have S:V.ig ((ax x).get e) (λs=>fH (.yI s 0) h (λi h=>k (.ptr i 0) h))=true:=S;obtain⟨s,q,S⟩:=fU (aJ R x) S;obtain⟨u,m,g,p⟩:=eE S;obtain⟨b,n⟩:=y.push (w':=w.alloc (.stringIter s 0)) (aF1:=⟨w.heap.size,0,0⟩) rfl rfl g p ⟨s,rfl,rfl⟩;refine fS.value f (w':=w.alloc (.stringIter s 0)) (v:=.pointer (some ⟨w.heap.size,0,none⟩)) ?_ ⟨_,_,_,m,.ptr _ _ ⟨w.heap.size,0,0⟩ J1,b,n⟩;simp[execOp,L,Instr.range,aU M,q]
  .exact .bad
 .exact .bad
def a1m(k:IntKind)(h:m<sD k):k.wrap (m:Int)=(m:Int):=by
 unfold IntKind.wrap;cases k<;>simp only[sD] at h<;>simp only[IntKind.signed,IntKind.bits,Ay,Bool.false_and,qE,if_false] <;>
  first
   |grind
   |omega
end
variable{dst fz:Nat}{w':World}{zs:ay}
section
variable {P:Program} {C:Ctx} {ρ:Ren}
def vA:∀{l:ay} {xs:List Value} {k:aI->Bool},cG ρ l xs->rE l k=true->∃a:List UInt8,k (a.map (·.toNat))=true/\xs=a.map (λb=>Value.int .u8 (b.toNat:Int))
 |[],xs,k,d,h=>by rw[d.AL];exact⟨[],h,rfl⟩
 |v::l,xs,k,d,h=>by
  obtain⟨x,xs,rfl,A,N⟩:=d.pw;have h:V.ec v (λp n=>aR (rV p .u8) (rT n (λm=>aR (Nat.blt m 256) (rE l (λt=>k (m::t))) false) (λ_=>false)) false)=true:=h;obtain⟨p,n,rfl,h⟩:=eB A h;obtain⟨E,h⟩:=aN.1 h;have E:=oG.1 E;rcases jK.1 h with⟨m,rfl,h⟩|⟨_,_,h⟩
  .obtain ⟨R,h⟩:=aN.1 h;have R:m<256:=bh R;obtain⟨a,M,u⟩:=vA N h;have e:(UInt8.ofNat m).toNat=m:=Y6;exact⟨UInt8.ofNat m::a,W,W⟩
  trivial
def WA(P:Program)(d:Nat)(u:TypeId):sameLayout P (d+1) u u=true:=by unfold sameLayout;simp
def Yu{u:TypeId}{cells:Nat}(h0:0<P.cellsOf u)(A:P.cellsOf u<=cells):liesAt P P.depth u (cells/P.cellsOf u) 0 u 1=true:=by obtain⟨d,f⟩:∃d,P.depth=d+1:=⟨2*(P.types.size+Made.depth)+1,rfl⟩;rw[f];unfold liesAt;rw[f];unfold rowAt;have N:1<=cells/P.cellsOf u:=(Nat.le_div_iff_mul_le h0).2 Z;have M:P.cellsOf u≠0:=Z;simp[M,WA,N]
def a2z(a:List UInt8):∀b:ByteArray,(a.map (λb=>(b.toNat:Int))).foldl (λ(r:ByteArray) n=>r.push (UInt8.ofNat n.toNat)) b=⟨b.data++a.toArray⟩:=by
 induction a with
 |nil=>intro b;simp
 |cons c a H=>intro b;rw[jn,List.foldl_cons,H];congr 1;have e:UInt8.ofNat ((c.toNat:Int).toNat)=c:=J1;rw[e];apply uD;simp[ByteArray.data_push]
def a3h{g:Heap}{w:World}{s z:Nat}{cs:ay}{xs:List Value}{rest:Array Value}{fr:Nat×Nat}{k:Nat->Heap->Bool}(y:aO P C ρ g w)(d:cG ρ cs xs)(A:∀v∈cs,v.de=true)(R:cs.length=m)(x:P.cellsOf u=z)
  (M:xs.length+rest.size=s*z) (hfr:∀j,j<xs.length+rest.size->¬(fr.1<=j/\j<fr.2)) (l:w'.heap=w.heap.push (.cells (xs.toArray++rest) u fr)) (h:ey u m fz zs cs g k=true) (S:Aside w w':=by exact⟨rfl,rfl⟩):
  ∃a,k g.nx a=true/\aO P C (ext1 ρ g.nx ⟨w.heap.size,s,z⟩) a w'/\Le ρ g w (ext1 ρ g.nx ⟨w.heap.size,s,z⟩) a w':=by
 unfold ey at h;obtain⟨c,h,N⟩:=eQ h;obtain⟨L,h,n⟩:=jI h;obtain⟨a,E,r,p⟩:=eE h;have t:∀i D,ρ i=some D->ext1 ρ g.nx ⟨w.heap.size,s,z⟩ i=some D:=λi D F=>by unfold ext1;rw[aj M8];trivial
 have H:xs.length=m:=A7;have o:fL P (ext1 ρ g.nx ⟨w.heap.size,s,z⟩) (.row u m fz false zs L) ⟨w.heap.size,s,z⟩ (some (.cells (xs.toArray++rest) u fr)):=by
  refine⟨xs.toArray++rest,fr,rfl,λ_=>W,λ_=>x,W,λh=>G,W,λj hj=>?_⟩;have q:j<cs.length:=Z;have f:j<xs.length:=Z;have e:=A _ (eL q);refine .inr ⟨cs[j],xs[j],jN ?_ (λb=>Xa),?_,e,(d.2 j _ _ (bT q) (bT f)).mono t⟩
  .rw [n j,ao Z];simp[q]
  .grind
 exact⟨a,E,y.push l rfl r p o S⟩
def Sh(s:ByteArray):cG ρ ((bytesOf s).map λb=>V.ik .u8 (.ofNat b)) (s.data.toList.map λb=>Value.int .u8 b.toNat):=by
 refine⟨by simp[bytesOf],λi u v L H=>?_⟩;unfold bytesOf at L;rw[lE,rX] at L;rw[rX] at H;cases h:s.data.toList[i]? with
 |none=>grind
 |some b=>rw[h] at L H;simp only[mI,jo] at L H;subst L H;exact .ik _ _
def a7N{o:Oper}{src:Nat}{x:Operand}(hC:CtxOk P C)(L:o.op= .convert src dst x):eY T P C (oF C src dst x) o:=by
 have f:∀c,o.op≠ .defer c:=O4;unfold oF;split
 .rename_i si di hsi g;obtain⟨_,_,_,j⟩:=bU hC hsi;obtain⟨_,_,_,t⟩:=bU hC g;split
  .rename_i k0 k LH HD;rw[LH] at j;rw[HD] at t;refine .pure f λρ e q a w h R=>?_;obtain⟨kk,n,H,h⟩:=eB (aJ R x) h;have fin:∀F:Int,k.wrap n=F->mv k F q=true->∃V v,q V=true/\aW ρ V v/\V≠ .undef/\(execOp a.eval o).run P w= .ok (.value v) w:=by
    intro F hw h;obtain⟨V,A,N,M⟩:=gu h;refine⟨V,_,A,N,M,?_⟩;simp[execOp,L,convert,aU j,aU t,H,Conv.intToInt,hw]
   rcases jK.1 h with⟨m,rfl,h⟩|⟨m,rfl,h⟩
   .rcases bK.1 h with⟨h4,h⟩|⟨_,h⟩
    .exact fin m (a1m k (bh h4)) h
    grind
   grind
  .rename_i LH HD;rw[LH] at j;rw[HD] at t;refine .pure f λρ e q a w h R=>?_;obtain⟨s,H,h⟩:=fU (aJ R x) h;exact⟨_,_,h,.str s,J1,by simp[execOp,L,convert,aU j,aU t,H]⟩
  .rename_i el LH HD;rw[LH] at j;rw[HD] at t;split
   .rename_i ei rf;obtain⟨ie,g1,g2,u3⟩:=bU hC rf;split
    .rename_i hed;rw[hed] at u3;have Co:ei.sz=1:=hC.one el ei rf (by rw[hed];rfl);intro rt r e h k ρ a w _ S R y;obtain⟨s,H,S⟩:=fU (aJ R x) S;rw[bB,ea,dx,j9] at S;have S:ey el ((bytesOf s).map λb=>V.ik .u8 (.ofNat b)).length 0 ei.cW ((bytesOf s).map λb=>V.ik .u8 (.ofNat b)) h (λi h=>k (.sl i 0 ((bytesOf s).map λb=>V.ik .u8 (.ofNat b)).length (.less 0 1)) h)=true:=S;have lx:=run_bytes_of_string (P:=P) w src dst el s j t u3;have hl1:(s.data.toList.map λb=>Value.int .u8 b.toNat).length=s.size:=by rw[dT];exact xw
     have YM:=grownCap_ge w s.size 0 el;have YG:(bytesRow s (grownCap w s.size 0 el)).size=grownCap w s.size 0 el:=by unfold bytesRow;simp;have:s.data.size=s.size:=rfl;omega
     have HH:((bytesOf s).map λb=>V.ik .u8 (.ofNat b)).length=s.size:=by unfold bytesOf;rw[dT,dT];exact xw
     obtain⟨tV,E,kO,hL⟩:=a3h (w':=w.drew.alloc (.cells (bytesRow s (grownCap w s.size 0 el)) el ((bytesRow s (grownCap w s.size 0 el)).size,(bytesRow s (grownCap w s.size 0 el)).size+1))) (s:=grownCap w s.size 0 el) (z:=1)
      (rest:=Array.replicate (grownCap w s.size 0 el-s.size) (.int .u8 0)) (fr:=((bytesRow s (grownCap w s.size 0 el)).size,(bytesRow s (grownCap w s.size 0 el)).size+1)) y (Sh s) (by intro v H;obtain⟨b,_,rfl⟩:=fA.1 H;rfl) rfl Xd
      W W (by show w.heap.push _=_;congr 2;unfold bytesRow;grind) S
     refine fS.value f (v:=.slice (some ⟨w.heap.size,0,none⟩) s.size (grownCap w s.size 0 el)) ?_ ⟨_,tV,_,E,?_,kO,hL⟩
     .simp only[execOp,L,H,Sem.run_bind,lx,Result.andThen_ok,Sem.run_pure]
     .rw [HH];exact .sl _ _ _ _ _ ⟨w.heap.size,grownCap w s.size 0 el,1⟩ G8 ⟨rfl,J1,rfl⟩ Z
    .exact .bad
   .exact .bad
  .rename_i el LH HD;rw[LH] at j;rw[HD] at t;split
   .rename_i ei rf;obtain⟨_,_,_,u3⟩:=bU hC rf;split
    .rename_i hed;rw[hed] at u3;refine .still f λrt e h k ρ a w S R y=>?_;have d:=aJ R x;rcases V.dZ.1 S with⟨i,p,n,c,EU,S⟩|⟨EU,S⟩|⟨_,S⟩
     .rw [EU] at d;obtain⟨aF1,cap,hB,_,_,H|⟨rfl,rfl,ad,H⟩⟩:=oa d
      case inr=>obtain⟨l,xs,E,A,N,M,h4⟩:=eu y hB S;have M:l.length=0:=M;rw[pk M] at E;refine⟨.str [],.string .empty,w,E,.str ByteArray.empty,?_,rfl⟩;have LL:=run_loadCells_list (P:=P) w ad [] J1;have lx:=run_bytesToString w ad 0 0 [] (by simpa using LL);simp[execOp,L,convert,aU j,aU t,aU u3,H,lx]
      obtain⟨l,xs,E,A,N,M,h4⟩:=eu y hB S;obtain⟨ns,E,rfl⟩:=vA A E;have LL:=run_loadCells_list (P:=P) w ⟨aF1.b,p,none⟩ _ h4;have hlen:(ns.map λb=>Value.int .u8 (b.toNat:Int)).length=n:=by rw[←A.1];exact M
      rw[hlen] at LL;have hmm:(ns.map λb=>Value.int .u8 (b.toNat:Int))=(ns.map λb=>(b.toNat:Int)).map (Value.int .u8):=J1;rw[hmm] at LL;have lx:=run_bytesToString w ⟨aF1.b,p,none⟩ n cap _ LL;rw[a2z] at lx;refine⟨.str (ns.map (·.toNat)),.string ⟨ByteArray.empty.data++ns.toArray⟩,w,E,?_,?_,rfl⟩
      .have e:bytesOf ⟨ByteArray.empty.data++ns.toArray⟩=ns.map (·.toNat):=by
        show((#[]++ns.toArray:Array UInt8).toList.map _)=_;simp
       rw[←e];exact .str _
      .simp [execOp,L,convert,aU j,aU t,aU u3,H,lx]
     .rw [EU] at d;have H:a.eval x= .slice none 0 0:=by
       generalize a.eval x=vx at *;cases d;rfl
      refine⟨.str [],.string .empty,w,S,.str ByteArray.empty,?_,rfl⟩;simp[execOp,L,convert,aU j,aU t,aU u3,H,Conv.bytesToString]
     trivial
    .exact .bad
   .exact .bad
  .rename_i pt LH HD;rw[LH] at j;rw[HD] at t;split
   .rename_i ti rS;obtain⟨it,g1,g2,_⟩:=bU hC rS;split
    .exact .bad
    .rename_i hz;have hz':it.size≠0:=by rw[g2];exact G
     refine .still f λrt e h k ρ a w S R y=>?_;obtain⟨i,p,aF1,hB,H,S⟩:=fv (aJ R x) S;obtain⟨zB,n,fz,wh,zz,cc,hg,S⟩:=O.fj.1 S;obtain⟨h4,S⟩:=aN.1 S;have h4:p<n:=bh h4;obtain⟨cs,fr,r1,_,_,r4,_⟩:=lW y hB hg;have hsh:w.shape? aF1.b=some (zB,cs.size):=by simp[World.shape?,r1]
     have hnp:¬(cs.size<=p):=Z;refine⟨_,_,w,S,.ptr i p aF1 hB,?_,rfl⟩;simp[execOp,L,convert,aU j,aU t,H,Conv.unsafePointer,Conv.seenAt,viewAt,cellsIn,shape,Sem.run,hsh,df g1,hz',hnp]
   .exact .bad
  .rename_i u LH HD;rw[LH] at j;rw[HD] at t;split
   .rename_i ui hui;obtain⟨iu,g1,g2,_⟩:=bU hC hui
    dsimp only
    split
    .exact .bad
    .rename_i hz;refine .still f λrt e h k ρ a w S R y=>?_;obtain⟨i,p,aF1,hB,H,S⟩:=fv (aJ R x) S;obtain⟨zB,n,fz,wh,zz,cc,hg,S⟩:=O.fj.1 S;obtain⟨h4,Ny⟩:=aN.1 S;obtain⟨h5,rR⟩:=aN.1 Ny;obtain⟨h6,hx3⟩:=aN.1 rR;have h4:=br h4;have h5:=br h5;have h6:=bh h6;subst h4 h5;obtain⟨cs,fr,r1,_,_,r4,_⟩:=lW y hB hg;have hsh:w.shape? aF1.b=some (zB,cs.size):=by simp[World.shape?,r1]
     have hcz:P.cellsOf zB=ui.sz:=X2;have hl:=Yu (P:=P) (u:=zB) (cells:=cs.size) W Z;refine⟨_,_,w,hx3,.ptr i 0 aF1 hB,?_,rfl⟩;simp[execOp,L,convert,aU j,aU t,H,Conv.unsafePointer,Conv.seenAt,viewAt,variablesAt,shape,program,Sem.run,hsh,df g1,hl]
   .exact .bad
  .exact .bad
 .exact .bad
end
variable{h':Heap}{nt:Nat}{ρ:Ren}{is:aI}
section
variable {P:Program} {C:Ctx} {ρ:Ren}
inductive yD (ρ:Ren):D->Deferred->Prop
 |call (f:Nat) (a:List V) (args cap:Array Value) (h:cG ρ a (args++cap).toList):yD ρ (.call f a) {target:=.fn (.func f) cap,args:=args}
 |collected (i:Nat) (aF1:pE) (h:ρ i=some aF1):yD ρ (.collected i) {target:=.collected aF1.b,args:=#[]}
def yD.mono{q:Ren}(h:∀i aF1,ρ i=some aF1->q i=some aF1){d:D}{x:Deferred}(r:yD ρ d x):yD q d x:=by
 cases r with
 |call f a args cap t=>exact .call f a args cap (t.mono h)
 |collected i aF1 s=>exact .collected i aF1 W
structure jR(ρ:Ren)(nt:Nat)(ds:List D)(e:Env)(a:Act):Prop where
 env:dV ρ e a.tmps
 size:a.tmps.size=nt
 defers:sX (yD ρ) ds a.defers
def jR.mono{q:Ren}(h:∀i aF1,ρ i=some aF1->q i=some aF1){ds:List D}{e:Env}(r:jR ρ nt ds e a):jR q nt ds e a:=
 ⟨λt=>(r.env t).mono h,r.size,r.defers.mono λ_ _=>yD.mono h⟩
def GD{c:Option Nat}{ds:List D}{e:Env}{V:V}{v:Value}{k:Env->Bool}(h:jR ρ nt ds e a)(H:aW ρ V v)(S:(tT nt c).put V e k=true):
  ∃e',k e'=true/\jR ρ nt ds e' (a.put c v):=by
 cases c with
 |none=>exact⟨e,S,h⟩
 |some d=>
  unfold tT at S;simp only at S;split at S
  .rename_i f;have f:d<nt:=bh f;obtain⟨e',E,b⟩:=Cy S;refine⟨e',E,λt=>?_,by simp[Act.put,h.size],h.defers⟩;rw[b];show aW ρ _ ((a.tmps.setIfInBounds d v).getD t undef);by_cases o:t=d
   .subst o;rw[ao rfl];have:(a.tmps.setIfInBounds t v).getD t undef=v:=by
     rw[iL,FV (by rw[h.size];trivial)];rfl
    grind
   .rw [aj o];have:(a.tmps.setIfInBounds d v).getD t undef=a.tmps.getD t undef:=by
     rw[iL,FR Z,←iL]
    rw[this];exact h.env t
  trivial
def Di(P:Program)(C:Ctx)(ρ:Ren)(h:Heap)(w:World)(nt:Nat)(k:cF)(N:Act->World->Prop):Prop:=
 ∀n o R q p l,k n o R=true->jR q nt n o p->aO P C q R l->Le ρ h w q R l->N p l
def Di.step{q:Ren}{w:World}{k:cF}{N:Act->World->Prop}(E:Di P C ρ h w nt k N)(hl:Le ρ h w q h' w'):Di P C q h' w' nt k N:=
 λL e h ρ a w S b y n=>E L e h ρ a w S b y (hl.trans n)
def Rw{all:List Oper}{ops:Array Oper}(S:ops.toList=all){tmps:Array Value}{g:Nat}(p:fk all j=some g)(M:g<tmps.size):yielded ops tmps j=match tmps.getD g undef with | .bool b=>some b|_=>none:=by subst S;unfold fk at p;unfold yielded;rw[jq] at p;rw[p];simp only[Of];rw[mL M,iL,mL M];grind
def a1K{z:Rt}{r:Option Nat}{o:Oper}{rest:iR}{ds:List D}{e:Env}{k:cF}{w:World}{next:Act->World->Prop}{aEV:Exit->Act->World->Prop}
  (Dm:∀o:Oper,(∀c,o.op≠ .defer c)->eY T P C (qm C o.op) o) (hT:T z) (M:(∃c,o.op= .defer c)->r=none) (N:jR ρ nt ds e a) (y:aO P C ρ h w)
  (S:(pJ C nt o rest).run z ds e h k=true)
  (hn:∀R e' h' q a' w',rest.run z R e' h' k=true->jR q nt R e' a'->aO P C q h' w'->Le ρ h w q h' w'->next a' w'):o.wpIn (rU r) 0 P a w next aEV:=by
 by_cases L:∃c,o.op= .defer c
 .obtain ⟨c,F⟩:=L;obtain rfl:=M W;unfold pJ at S;rw[F] at S;simp only at S;cases p:c.callee with
  |value f=>
   rw[p] at S;have S:(ir c.args.toList).run e (λargs=>V.sx ((ax f).get e) (λf first cap=>bQ args cap (λa=>bQ first a (λa=>(tT nt o.dst).put cA e (λe=>rest.run z (.call f a::ds) e h k)))) (λ_=>false))=true:=S;obtain⟨s,S,l,_⟩:=oI N.env S;rcases V.nI.1 S with⟨g,first,cap,hf,S⟩|⟨_,_,S⟩
   .have d:=aJ N.env f;rw[hf] at d;obtain⟨i,j,H,A,h2⟩:=d.RD;rw[bB,bB] at S;have t:yD ρ (.call g (first++(s++cap))) {target:=.fn (.func g) j,args:=i++c.args.map a.eval}:=by
     refine .call g _ _ j ?_;have:=A.app (l.app h2)
     simpa using this
    obtain⟨e',E,m⟩:=GD (a:={a with defers:={target:=.fn (.func g) j,args:=i++c.args.map a.eval}::a.defers}) (ds:=.call g (first++(s++cap))::ds) ⟨N.env,N.size,.cons t N.defers⟩ (aW.eM (x:=#[]) .nil) S;refine⟨λ_ _=>trivial,?_⟩;have u:(o.semAt (rU none).round a.eval).run P w= .ok (.defer {target:=.fn (.func g) j,args:=i++c.args.map a.eval}) w:=by show(execOp a.eval o).run P w=_;simp[execOp,F,resolve,p,H,Deferred.ofValue]
    rw[u];exact hn _ e' h ρ _ w E m y (Le.refl _ _ _)
   trivial
  |invoke r n=>grind
  |builtin b=>grind
 .have hd:∀c,o.op≠ .defer c:=λc F=>W;have S:(qm C o.op).run z e h (λv h=>(tT nt o.dst).put v e (λe=>rest.run z ds e h k))=true:=by
   unfold pJ at S;split at S
   .grind
   .trivial
  refine Dm o hd z r e h _ ρ a w hT S N.env y next aEV ?_
  rintro v w' ⟨V,h',q,E,H,kO,hL⟩;obtain⟨e',E,m⟩:=GD (N.mono hL.xh) H E;grind
def a2Q{z:Rt}{r:Option Nat}{ops:Array Oper}{o:Oper}{rest:iR}{ds:List D}{e:Env}{k:cF}{w:World}{aEV:Exit->Act->World->Prop}
  (Dm:∀o:Oper,(∀c,o.op≠ .defer c)->eY T P C (qm C o.op) o) (R:T z) (M:(∃c,o.op= .defer c)->r=none) (L:ops[i]? =some o) (N:jR ρ nt ds e a) (y:aO P C ρ h w)
  (S:(oe C nt ops.toList o rest).run z ds e h k=true)
  (hn:∀n e' h' q a' w',rest.run z n e' h' k=true->jR q nt n e' a'->aO P C q h' w'->Le ρ h w q h' w'->wpOpsIn (rU r) 0 P ops aEV is a' w'):wpOpsIn (rU r) 0 P ops aEV (i::is) a w:=by
 have yes:(pJ C nt o rest).run z ds e h k=true->Region.wanted o (yielded ops a.tmps)=true->wpOpsIn (rU r) 0 P ops aEV (i::is) a w:=by intro S l;simp only[wpOpsIn,L,l,if_true];exact a1K Dm R M N y S hn
 have no:(qK nt o rest).run z ds e h k=true->Region.wanted o (yielded ops a.tmps)=false->wpOpsIn (rU r) 0 P ops aEV (i::is) a w:=by intro S l;simp only[wpOpsIn,L,l,qE,if_false];obtain⟨e',E,m⟩:=GD N (aW.eM (x:=#[]) .nil) S;exact⟨λ_ _=>trivial,hn ds e' h ρ _ w E m y (Le.refl _ _ _)⟩
 unfold oe at S;split at S
 .rename_i p;exact yes S (by simp[Region.wanted,p])
 .rename_i j want p;split at S
  .rename_i F;refine no S ?_;have:yielded ops a.tmps j=none:=by
    unfold fk at F;unfold yielded;rw[jq] at F;rw[F];rfl
   simp[Region.wanted,p,this]
  .rename_i g F;split at S
   .trivial
   .rename_i f;have f:g<nt:=bh f;have A:=Rw rfl F (tmps:=a.tmps) (by rw[N.size];trivial);have d:=N.env g;generalize hv:a.tmps.getD g undef=v at d A;split at S
    .have S:V.guard ((eg g).get e) (λt=>aR t ((pJ C nt o rest).run z ds e h k) ((qK nt o rest).run z ds e h k))=true:=S;rcases V.guard_true.1 S with⟨b,s,S⟩|⟨H,s,S⟩
     .rw [s] at d;cases d;cases b with
      |true=>exact yes G Z0
      |false=>exact no G Z0
     .rw [s] at d;obtain⟨xs,rfl,_⟩:=d.zN;exact no G Z0
    .have S:V.kZ ((eg g).get e) (λt=>aR t ((qK nt o rest).run z ds e h k) ((pJ C nt o rest).run z ds e h k)) (V.kD ((eg g).get e) (λ_=>(qK nt o rest).run z ds e h k))=true:=S;rcases V.sF.1 S with⟨b,s,S⟩|⟨_,S⟩
     .rw [s] at d;cases d;cases b with
      |true=>exact no G Z0
      |false=>exact yes G Z0
     .obtain ⟨H,s,S⟩:=V.oi.1 S;rw[s] at d;obtain⟨xs,rfl,_⟩:=d.zN;exact no S Z0
def Tw{z:Rt}{r:Option Nat}{ops:Array Oper}(s:∀o:Oper,(∀c,o.op≠ .defer c)->eY T P C (qm C o.op) o)(v:T z)(M:∀o∈ops.toList,(∃c,o.op= .defer c)->r=none)
  {k:cF} {aEV:Exit->Act->World->Prop}:
  ∀(l:List Oper) (i:Nat) (ρ:Ren) (ds:List D) (e:Env) (h:Heap) (a:Act) (w:World),ops.toList.drop i=l->(w6 C nt ops.toList l).run z ds e h k=true->jR ρ nt ds e a->aO P C ρ h w->Di P C ρ h w nt k (aEV .normal)->
   wpOpsIn (rU r) 0 P ops aEV (List.range' i l.length) a w
 |[],i,ρ,ds,e,h,a,w,_,S,N,y,hK=>hK ds e h ρ a w S N y (Le.refl _ _ _)
 |o::l,i,ρ,ds,e,h,a,w,t,S,N,y,hK=>by
  have L:ops[i]? =some o:=by
   have:(ops.toList.drop i)[0]? =some o:=by rw[t];rfl
   rw[FM] at this
   simpa using this
  have g:ops.toList.drop (i+1)=l:=by rw[←NI,t];rfl
  have S:(oe C nt ops.toList o (w6 C nt ops.toList l)).run z ds e h k=true:=S;rw[kg,List.range'_succ];refine a2Q s v (M o W) L N y S λn d R q p j H m b f=>?_;exact Tw s v M l (i+1) q n d R p j g H m b (hK.step f)
end
end Go.Ev
