import Derived.Test.YthpffinbkpnniaaGreatDoorM3
import Derived.Deep.AppendSrc
import Derived.Great.BuildSlice
import Derived.Laws.MakeOwn
set_option linter.all false
set_option maxRecDepth 100000
namespace Go.Ev
open Go
variable{h:Heap}{fz i m t:Nat}{T:eV}
section
variable {P:Program} {C:Ctx} {ρ:Ren}
def zk{c:Cells}{z:ay}{k:aY}(h:cellAt c z i k=true):∃v,rO z c i=some v/\k v=true:=by
 unfold cellAt at h;unfold rO;rcases V.Ll.1 h with⟨A,N⟩|⟨A,N⟩
 .grind
 .obtain ⟨v,H,E⟩:=nJ N;rw[dx] at H;refine⟨v,?_,E⟩;rw[A];trivial
def Ir{c:Cells}{z:ay}{n:Nat}{k:ay->Bool}(h:jg c z n i k=true):∃l,k l=true/\l.length=n/\∀j,j<n->rO z c (i+j)=l[j]? :=by
 induction n generalizing i k with
 |zero=>exact⟨[],h,rfl,Z⟩
 |succ n a=>change cellAt c z i (λv=>jg c z n (i+1) (λl=>k (v::l)))=true at h;obtain⟨v,H,h⟩:=zk h;grind
def lW{w:World}{aF1:pE}{e n:Nat}{r:Bool}{z:ay}{c:Cells}(y:aO P C ρ h w)(q:ρ i=some aF1)(p:bL i h= .row e n fz r z c):
  ∃cs fr,w.heap[aF1.b]? =some (.cells cs e fr)/\(fz<=n->cs.size=aF1.s*aF1.z)/\(fz<=n->P.cellsOf e=aF1.z)/\n<=cs.size/\(r=true->n=cs.size)/\(∀j,fz<=j->j<cs.size->¬(fr.1<=j/\j<fr.2))/\a5R ρ n z c cs:=by
 have:=y.obj i aF1 q;rw[p] at this;trivial
def cell_of{w:World}{b o:Nat}{cs:Array Value}{t:TypeId}{fr:Nat×Nat}(h:w.heap[b]? =some (.cells cs t fr)):w.cell? ⟨b,o,none⟩=cs[o]? :=by simp[World.cell?,h]
def EX{w:World}{b o:Nat}{cs:Array Value}{t:TypeId}{fr:Nat×Nat}(h:w.heap[b]? =some (.cells cs t fr))(hf:¬(fr.1<=o/\o<fr.2)):w.frozen? ⟨b,o,none⟩=false:=by obtain⟨a,F⟩:=fr;simp only[World.frozen?,h];grind
def lJ{w:World}{o:Nat}{aF1:pE}{k:aY}(a:aO P C ρ h w)(q:ρ i=some aF1)(d:jT i o h k=true):
  ∃v x,k v=true/\aW ρ v x/\v.de=true/\w.cell? ⟨aF1.b,o,none⟩=some x:=by
 obtain⟨e,n,t,l,z,c,p,d⟩:=O.fj.1 d;obtain⟨A,d⟩:=aN.1 d;have A:o<n:=bh A;obtain⟨v,H,E⟩:=zk d;obtain⟨g,f,N,_,_,_,_,_,M⟩:=lW a q p;obtain u|⟨j,x,u,r,F,y⟩:=M o A
 .grind
 rw[H] at u;cases u;exact⟨v,x,E,y,F,by rw[cell_of N];trivial⟩
def Bo{o n:Nat}{k:ay->Bool}{e:Nat}{r:Bool}{z:ay}{c:Cells}(p:bL i h= .row e m fz r z c)(d:fh i o n h k=true):o+n<=m:=by obtain⟨f,g,a,b,R,L,t,d⟩:=O.fj.1 d;rw[p] at t;cases t;exact bh (aN.1 d).1
def Bn{o:Nat}{s:ay}{k:Heap->Bool}{e:Nat}{r:Bool}{z:ay}{c:Cells}(p:bL i h= .row e m fz r z c)(d:eI i o s h k=true):fz<=m:=by obtain⟨f,g,a,b,R,L,t,d⟩:=O.fj.1 d;rw[p] at t;cases t;have A:o+eK s<=m:=bh (aN.1 d).1;have N:fz<=o:=bh (aN.1 (aN.1 d).2).1;omega
def eu{w:World}{o n:Nat}{aF1:pE}{k:ay->Bool}(y:aO P C ρ h w)(q:ρ i=some aF1)(d:fh i o n h k=true):
  ∃l xs,k l=true/\cG ρ l xs/\(∀v∈l,v.de=true)/\l.length=n/\∀(j:Nat) x,xs[j]? =some x->w.cell? ((⟨aF1.b,o,none⟩:Addr).add j)=some x:=by
 obtain⟨e,m,R,wh,z,c,p,d⟩:=O.fj.1 d;obtain⟨A,d⟩:=aN.1 d;have A:o+n<=m:=bh A;obtain⟨l,E,t,hc⟩:=Ir d;obtain⟨g,f,N,_,_,h8,_,_,M⟩:=lW y q p;have key:∀j,j<n->∃v x,l[j]? =some v/\g[o+j]? =some x/\v.de=true/\aW ρ v x:=by
  intro j a;obtain s|⟨v',x,s,r,F,h7⟩:=M (o+j) Z
  .grind
  exact W
 refine⟨l,(g.toList.drop o).take n,E,⟨?_,λj u v L H=>?_⟩,λv H=>?_,t,λj x S=>?_⟩
 .grind
 .grind
 .obtain ⟨j,a,H⟩:=jm H;grind
 .have a:j<n:=by
   rcases dN j n with h|h
   .exact h
   .grind
  rw[Om,ao a,FM,jq] at S;rw[jA,cell_of N];trivial
structure aaZ(w w':World)(b:Nat)(t:TypeId)(fr:Nat×Nat)(lT:Array Value):Prop where
 size:w'.heap.size=w.heap.size
 other:∀b',b'≠b->w'.heap[b']? =w.heap[b']?
 here:w'.heap[b]? =some (.cells lT t fr)
 aside:Aside w w'
def Ow{w:World}{b o:Nat}{t:TypeId}{fr:Nat×Nat}{cs:Array Value}(h:w.heap[b]? =some (.cells cs t fr))(v:Value):aaZ w (w.setCell ⟨b,o,none⟩ v) b t fr (cs.setIfInBounds o v):=by
 have s:b<w.heap.size:=by
  rcases dN b w.heap.size with R|R
  .trivial
  .grind
 refine⟨by simp[World.setCell],λk a=>?_,?_,rfl,rfl⟩
 .simp only[World.setCell];grind
 .simp only[World.setCell];grind
def oO{b o:Nat}{t:TypeId}{fr:Nat×Nat}:∀(s:List Value) (i:Nat) (w:World) (cs:Array Value),w.heap[b]? =some (.cells cs t fr)->o+i+s.length<=cs.size->
  (∀j,o+i<=j->j<o+i+s.length->¬(fr.1<=j/\j<fr.2))->(∀v∈s,v.oneCell'=true)->
  ∃w' lT,(storeCells ⟨b,o,none⟩ s i).run P w= .ok () w'/\aaZ w w' b t fr lT/\lT.size=cs.size/\∀j,lT[j]? =if o+i<=j/\j<o+i+s.length then s[j-(o+i)]? else cs[j]?
 |[],i,w,cs,h,_,_,_=>⟨w,cs,rfl,⟨rfl,W,h,rfl,rfl⟩,rfl,λj=>W⟩
 |v::r,i,w,cs,h,c,H,A=>by
  simp only[kg] at c H;have d:(store ((⟨b,o,none⟩:Addr).add i) v).run P w= .ok () (w.setCell ⟨b,o+i,none⟩ v):=by rw[jA,run_store P w _ v _ W,cell_of h,EX h (H (o+i) Z Z)];have:o+i<cs.size:=Z;rw[mL this];simp
  have l:=Ow (o:=o+i) h v;obtain⟨w',lT,N,M,e,f⟩:=oO r (i+1) (w.setCell ⟨b,o+i,none⟩ v) (cs.setIfInBounds (o+i) v) l.here (show o+(i+1)+r.length<=(cs.setIfInBounds (o+i) v).size by grind)
   (λj A N=>W) (λu L=>W)
  refine⟨w',lT,?_,⟨M.size.trans l.size,λk a=>(M.other k a).trans (l.other k a),M.here,l.aside.trans M.aside⟩,W,λj=>?_⟩
  .show (do store ((⟨b,o,none⟩:Addr).add i) v;storeCells ⟨b,o,none⟩ r (i+1):Sem Unit).run P w=_;rw[Sem.run_bind,d];trivial
  grind
def gO{w:World}{o:Nat}{aF1:pE}{s:ay}{xs:List Value}{k:Heap->Bool}(y:aO P C ρ h w)(q:ρ i=some aF1)(S:cG ρ s xs)(A:∀v∈s,v.de=true)
  (d:eI i o s h k=true):∃h' w',k h'=true/\(storeCells ⟨aF1.b,o,none⟩ xs).run P w= .ok () w'/\aO P C ρ h' w'/\Le ρ h w ρ h' w':=by
 obtain⟨e,n,fz,r,z,c,p,d⟩:=O.fj.1 d;obtain⟨N,d⟩:=aN.1 d;obtain⟨M,d⟩:=aN.1 d;have N:o+eK s<=n:=bh N;rw[dx] at N;have M:=bh M;obtain⟨L,d,YN⟩:=jI d;obtain⟨h',E,g,hg'⟩:=jJ d;obtain⟨H,f,u,h5,F,h7,h8,h9,yZ⟩:=lW y q p;have m:∀x∈xs,x.oneCell'=true:=by
  intro x hxm;obtain⟨j,hj,hxj⟩:=jm hxm;have a:j<s.length:=by rw[S.1];exact hj
  have:=(S.2 j _ _ (bT a) (bT hj)).one W;rw[hxj] at this;cases x<;>simp_all [uZ,Value.oneCell']
 obtain⟨w',R,Ar,h12,l,h14⟩:=oO (P:=P) (o:=o) xs 0 w H u (by rw[←S.1];omega) (λj A N=>h9 j Z (by have:=S.1;omega)) m;have ny:fL P ρ (.row e n fz r z L) aF1 w'.heap[aF1.b]? :=by
  refine⟨R,f,h12.here,Z,F,Z,λhw=>W,W,λj hj=>?_⟩;by_cases h15:o<=j/\j<o+s.length
  .have a:j-o<s.length:=by omega
   have hjx:j-o<xs.length:=by rw[←S.1];exact a
   have yi:=A _ (eL a);refine .inr ⟨s[j-o],xs[j-o],?_,?_,yi,S.2 _ _ _ (bT a) (bT hjx)⟩
   .unfold rO;rw[YN,ao h15,bT a];simp only[uB];split
    .rename_i he;rw[he] at yi;trivial
    .rfl
   grind
  .obtain t|⟨v,x,t,a2,a3,a4⟩:=yZ j hj
   .refine .inl ?_;unfold rO at t ⊢;grind
   refine .inr ⟨v,x,?_,?_,a3,a4⟩
   .unfold rO at t ⊢;grind
   .rw [h14,aj (by rw[←S.1];omega)];trivial
 obtain⟨hHr,hL⟩:=y.put (w':=w') (h':=h') (o:=.row e n fz r z L) q P5 (.inl Vd) h12.size ny h12.other g hg' J1 h12.aside;grind
def gQ{v:V}{x:Value}(h:aW ρ v x)(A:v.de=true):x.oneCell'=true/\x.cells= #[x]:=by have:=h.one A;cases x<;>simp_all [uZ,Value.oneCell',Value.cells]
def a7L{o:Oper}{x:Operand}(hC:CtxOk P C)(L:o.op= .load t x):eY T P C (bE C t x) o:=by
 have f:∀c,o.op≠ .defer c:=O4;unfold bE;split
 .exact .bad
 .rename_i ti rS;obtain⟨i,A,N,M⟩:=bU hC rS;split
  .rename_i n;refine .still f λrt e h k ρ a w S R hH=>?_;obtain⟨b,p,j,q,H,S⟩:=fv (aJ R x) S;obtain⟨l,m,E,d,h1',hl,F⟩:=eu hH q S;refine⟨.agg l,.agg m.toArray,w,E,aW.De h1' G,?_,rfl⟩;have:=run_loadCells_list (P:=P) w ⟨j.b,p,none⟩ m F;rw[←d.1,hl] at this;simp[execOp,L,Instr.loadAt,H,Instr.sureAddr,loadVar,pK M,n,df A,N,this]
  .rename_i n;refine .still f λrt e h k ρ a w S R hH=>?_;have d:=aJ R x;rcases V.tv.1 S with⟨b,p,z,S⟩|⟨g,p,z,S⟩
   .rw [z] at d;obtain⟨j,q,H⟩:∃j,ρ b=some j/\a.eval x= .pointer (some ⟨j.b,p,none⟩):=by
     generalize a.eval x=s at *;cases d with|ptr _ _ j q=>grind
    obtain⟨v,y,E,hvy,_,F⟩:=lJ hH q S;exact⟨v,y,w,E,hvy,Z6,rfl⟩
   .rw [z] at d;have H:a.eval x= .pointer (some ⟨g,p,none⟩):=by
     generalize a.eval x=s at *;cases d;rfl
    rcases oj.1 S with⟨_,S⟩|⟨cs,QX,S⟩
    .trivial
    .obtain ⟨v,hv',E⟩:=nJ S;obtain⟨_,m,u,fr,h4,r⟩:=hH.iP g cs QX;obtain⟨y,h6,h7⟩:=r p v hv';have F:w.cell? ⟨g,p,none⟩=some y:=Zh;exact⟨v,y,w,E,h7,Z6,rfl⟩
def a31{o:Oper}{x y:Operand}(hC:CtxOk P C)(L:o.op= .store t x y):eY T P C (cZ C t x y) o:=by
 have f:∀c,o.op≠ .defer c:=O4;unfold cZ;split
 .exact .bad
 .rename_i g F;obtain⟨i,A,h2,M⟩:=bU hC F;split
  .rename_i hag;intro z r e h k ρ a w _ S R hH;obtain⟨b,p,j,q,H,S⟩:=fv (aJ R x) S;obtain⟨cs,m,_,hy,s,d,S⟩:=gA (aJ R y) S;obtain⟨u,S⟩:=aN.1 S;have u:=br u;rw[dx,d.1] at u;obtain⟨v,l,E,N,kO,n⟩:=gO hH q d s S;refine fS.skip f ?_ ⟨cA,v,ρ,E,aW.eM (x:=#[]) .nil,kO,n⟩;have h5:m.size=i.size:=by rw[h2,←u];simp
   simp[execOp,L,Instr.storeAt,H,hy,Instr.sureAddr,storeVar,Value.cells,df A,h5,N]
  .rename_i hag;intro z r e h k ρ a w _ S R hH;obtain⟨b,p,j,q,H,S⟩:=fv (aJ R x) S;obtain⟨s,S⟩:=V.BB.1 S;have d:=aJ R y;obtain⟨v,l,E,N,kO,n⟩:=gO hH q (.cons d .nil) W G;refine fS.skip f ?_ ⟨cA,v,ρ,E,aW.eM (x:=#[]) .nil,kO,n⟩;have h5:i.size=1:=by rw[h2];exact hC.one t g F hag
   simp[execOp,L,Instr.storeAt,H,Instr.sureAddr,storeVar,(gQ d s).2,df A,h5,N]
end
variable{a:Act}{off:Nat}{zs:ay}
section
variable {P:Program} {C:Ctx} {ρ:Ren}
inductive sX {α β:Type} (R:α->β->Prop):List α->List β->Prop
 |nil:sX R [] []
 |cons {a:α} {b:β} {l:List α} {m:List β} (h:R a b) (t:sX R l m):sX R (a::l) (b::m)
def Ly:∀(s:List Value) (off i:Nat) (cs:Array Value),off+i+s.length<=cs.size->
  ((s.zipIdx i).foldl (λ(cs:Array Value) (p:Value×Nat)=>cs.setIfInBounds (off+p.2) p.1) cs).toList=cs.toList.take (off+i)++(s++cs.toList.drop (off+i+s.length))
 |[],off,i,cs,h=>J1
 |v::r,off,i,cs,h=>by simp only[kg] at h;have H:=Ly r off (i+1) (cs.setIfInBounds (off+i) v) W;simp only[List.zipIdx_cons,List.foldl_cons];rw[H,Array.toList_setIfInBounds];have A:off+i<cs.toList.length:=Y6;rw[show off+(i+1)=off+i+1 by omega,List.take_add_one,List.take_set_of_le Z,List.getElem?_set_self A];rw[List.drop_set_of_lt Z];grind
def EZ{place:Nat->Option (Nat×Nat)}{cells:Array Value}{size:Nat}{v:Value}{rest:List (Nat×Value)}(g:place i=some (off,size))(M:v.cells.size=size)(L:off+size<=cells.size):
  Instr.fill place cells ((i,v)::rest)=Instr.fill place (cells.toList.take off++(v.cells.toList++cells.toList.drop (off+size))).toArray rest:=by
 have A:¬(v.cells.size≠size):=Xn;have N:¬(off+v.cells.size>cells.size):=Z;have a:(v.cells.zipIdx.foldl (λ(H:Array Value) (p:Value×Nat)=>H.setIfInBounds (off+p.2) p.1) cells)=(cells.toList.take off++(v.cells.toList++cells.toList.drop (off+size))).toArray:=by apply uD;rw[←Array.foldl_toList,Array.toList_zipIdx];have:=Ly v.cells.toList off 0 cells W;simp only[j8,xw,M] at this;rw[this]
 show(match place i with
  |none=>none
  |some (off,size)=>if(decide (v.cells.size≠size)||decide (off+v.cells.size>cells.size))=true then none
    else Instr.fill place (v.cells.zipIdx.foldl (λH (c,j)=>H.setIfInBounds (off+j) c) cells) rest)=_
 grind
def uY{l:ay}{xs:List Value}(h:cG ρ l xs)(A:∀v∈l,v.de=true):∀x∈xs,x.oneCell'=true:=by
 intro x b;obtain⟨j,z,H⟩:=jm b;have a:j<l.length:=by rw[h.1];exact z
 have:=gQ (h.2 j _ _ (bT a) (bT z)) W;grind
def AX{e:Env}{l:List Pce}{k:ay->Bool}(h:(iS (zs.map .zero++l)).run e k=true):(iS l).run e (λt=>k (zs++t))=true:=by
 induction zs generalizing k with
 |nil=>exact h
 |cons z zs H=>exact H (k:=λt=>k (z::t)) h
structure yC(P:Program)(place:Nat->Option (Nat×Nat))(p:Nat×Operand)(q:Nat×Nat×Bool×Operand):Prop where
 at_:place p.1=some (q.1,q.2.1)
 opd:q.2.2.2=p.2
 one:q.2.2.1=false->q.2.1=1
def tJ{place:Nat->Option (Nat×Nat)}{e:Env}(R:dV ρ e a.tmps):∀(ps:List (Nat×Operand)) (c:List (Nat×Nat×Bool×Operand)) (o:Nat) (zs:ay) (n pre:List Value) (l:List Pce) (k:ay->Bool),
  sX (yC P place) ps c->AW c o zs=some l->pre.length=o->cG ρ zs n->(∀v∈zs,v.de=true)->(iS l).run e k=true->
  ∃cs xs,k cs=true/\cG ρ cs xs/\(∀v∈cs,v.de=true)/\Instr.fill place (pre++n).toArray (ps.map λp=>(p.1,a.eval p.2))=some (pre++xs).toArray/\xs.length=n.length
 |[],c,o,zs,n,pre,l,k,H,M,hp,C,A,E=>by cases H;simp only[AW,jo] at M;subst M;have:=AX (l:=[]) (by simpa using E);have hk':k (zs++ [])=true:=this;exact⟨zs,n,W,C,A,rfl,rfl⟩
 |(i,x)::ps,_,o,zs,n,pre,l,k,H,M,hp,C,A,E=>by
  cases H with
  |@cons _ q _ c hq H=>
  obtain⟨p,f,agg,y⟩:=q;obtain⟨L,s,Co⟩:=hq;simp only at L s Co;subst s;simp only[AW] at M;split at M
  .rename_i g a4f m;simp only[jo] at M;subst M;obtain⟨d1,d2⟩:=pn a4f;have S:=AX E;have ahZ:∃(cs:ay) (z:List Value),(a.eval y).cells.toList=z/\z.length=f/\cG ρ cs z/\(∀v∈cs,v.de=true)/\(iS g).run e (λt=>k (zs.take (p-o)++(cs++t)))=true:=by
    cases agg with
    |true=>
     have h:V.dY ((ax y).get e) (λcs=>aR (Nat.beq (eK cs) f) ((iS g).run e (λt=>bQ cs t (λt=>k (zs.take (p-o)++t)))) false)=true:=S;obtain⟨cs,xs,_,hy,N,h3,h⟩:=gA (aJ R y) h;obtain⟨u,h⟩:=aN.1 h;have u:=br u;rw[dx] at u;refine⟨cs,xs.toList,by rw[hy];rfl,by rw[←h3.1];trivial,h3,N,?_⟩
     simpa only[bB] using h
    |false=>have h:V.one ((ax y).get e) (λv=>(iS g).run e (λt=>k (zs.take (p-o)++(v::t))))=true:=S;obtain⟨N,h⟩:=V.BB.1 h;have d:=aJ R y;exact⟨[(ax y).get e],[a.eval y],by rw[(gQ d N).2],W,.cons d .nil,W,h⟩
   obtain⟨cs,z,N,h3,u,r,F⟩:=ahZ;have hzl:=C.1;have aiv:=tJ R ps c (p+f) (zs.drop (p-o+f)) (n.drop (p-o+f)) (pre++(n.take (p-o)++z)) g _ H m W (C.drop _) (λv hv=>W) F;obtain⟨cs2,w,h7,j,h9,yZ,Ar⟩:=aiv;refine⟨zs.take (p-o)++(cs++cs2),n.take (p-o)++(z++w),h7,(C.take _).app (u.app j),?_,?_,?_⟩
   .grind
   .rw [jn,EZ L W W];have e1:(pre++n).toArray.toList.take p=pre++n.take (p-o):=by
     simp only[List.take_append];rw[Ov Z,hp]
    have b:(pre++n).toArray.toList.drop (p+f)=n.drop (p-o+f):=by simp only[List.drop_append];rw[FQ Z,hp,show p+f-o=p-o+f by omega];rfl
    grind
   grind
  trivial
end
variable{agg:Bool}{j u:Nat}{w':World}
section
variable {P:Program} {C:Ctx} {ρ:Ren}
def tB{α C:Type}{f:α->Option C}:∀{l:List α} {m:List C},l.mapM f=some m->sX (λa b=>f a=some b) l m
 |[],m,h=>by simp at h;subst h;exact .nil
 |a::l,m,h=>by
  rw[Az] at h;cases H:f a with
  |none=>grind
  |some b=>
   cases t:l.mapM f with
   |none=>grind
   |some r=>simp[H,t] at h;subst h;exact .cons H (tB t)
def sX.mono{α C:Type}{R S:α->C->Prop}{l:List α}{m:List C}(h:sX R l m)(M:∀a b,R a b->S a b):sX S l m:=by
 induction h with
 |nil=>exact .nil
 |cons h _ H=>exact .cons W H
def wK(P:Program):∀(l:List Field),(∀f∈l,(P.info? f.type).isSome=true)->
  ∃pl,l.mapM (λf=>(P.info? f.type).map λi=>(f.offset,i.size))=some pl/\∀(i:Nat) f,l[i]? =some f->∃a,P.info? f.type=some a/\pl[i]? =some (f.offset,a.size)
 |[],_=>⟨[],J1,λi f h=>G⟩
 |f::l,h=>by obtain⟨a,F⟩:=uH.1 (h f J1);obtain⟨pl,A,N⟩:=wK P l (λg p=>h g (ia _ p));refine⟨(f.offset,a.size)::pl,by simp[Az,F,A],λi g p=>?_⟩;grind
def GJ{ti:TI}{l:Array Field}(E:CtxOk P C)(hd:ti.desc= .struct l){pl:List (Nat×Nat)}(j:∀(i:Nat) f,l.toList[i]? =some f->∃a,P.info? f.type=some a/\pl[i]? =some (f.offset,a.size))
  {p:Nat×Operand} {q:Nat×Nat×Bool×Operand} (h:place C ti p=some q):yC P (pl.toArray[·]?) p q:=by
 obtain⟨i,x⟩:=p;unfold place at h;rw[hd] at h;simp only at h;split at h
 .rename_i g c;split at h
  .rename_i k n;obtain⟨a,A,N,M⟩:=bU E n;obtain⟨b,u,r⟩:=j i g W;rw[A] at u;cases u;split at h
   .cases h
   .simp only[jo] at h;subst h;exact⟨W,rfl,λS=>E.one _ _ n S⟩
  trivial
 trivial
def sk{ti:TI}{n:Nat}{f:TypeInfo}(E:CtxOk P C)(hd:ti.desc= .array n u)(b:P.info? u=some f)
  {p:Nat×Operand} {q:Nat×Nat×Bool×Operand} (h:place C ti p=some q):yC P (λi=>some (i*f.size,f.size)) p q:=by
 obtain⟨i,x⟩:=p;unfold place at h;rw[hd] at h;simp only at h;split at h
 .rename_i c z _;obtain⟨a,A,N,M⟩:=bU E z;rw[b] at A;cases A;split at h
  .cases h
  .simp only[jo] at h;subst h;exact⟨by rw[N],rfl,λS=>E.one _ _ z S⟩
 trivial
def Dy{e:Env}(R:dV ρ e a.tmps){f:Nat}{x:Operand}{k:ay->Bool}(A:agg=false->f=1)(h:jF agg f x e k=true):
  ∃cs,k cs=true/\cG ρ cs (a.eval x).cells.toList/\(∀v∈cs,v.de=true)/\(a.eval x).cells.size=f:=by
 unfold jF at h;rcases bK.1 h with⟨_,h⟩|⟨S,h⟩
 .obtain ⟨cs,m,_,p,N,M,h⟩:=gA (aJ R x) h;obtain⟨u,h⟩:=aN.1 h;have u:=br u;rw[dx] at u;exact⟨cs,h,Zy,N,by rw[p,←u,M.1];trivial⟩
 .obtain ⟨N,h⟩:=V.BB.1 h;have d:=aJ R x;exact⟨_,h,by rw[(gQ d N).2];exact .cons d .nil,W,by rw[(gQ d N).2,A S];rfl⟩
def ZF{place:Nat->Option (Nat×Nat)}{e:Env}(R:dV ρ e a.tmps){ps:List (Nat×Operand)}{c:List (Nat×Nat×Bool×Operand)}(hf:sX (yC P place) ps c):
  ∀(l:ay) (z:List Value) (k:ay->Bool),cG ρ l z->(∀v∈l,v.de=true)->(lA c).run e l k=true->
  ∃cs xs,k cs=true/\cG ρ cs xs/\(∀v∈cs,v.de=true)/\Instr.fill place z.toArray (ps.map λp=>(p.1,a.eval p.2))=some xs.toArray:=by
 induction hf with
 |nil=>exact λl z k t A E=>⟨l,z,E,t,A,rfl⟩
 |@cons p q ps c g _ H=>
  intro l z k t A E;obtain⟨i,x⟩:=p;obtain⟨o,f,agg,y⟩:=q;obtain⟨L,n,s⟩:=g;simp only at L n s;subst n;have E:jF agg f y e (λcs=>iE o l (λa=>eR (Nat.add o f) l (λb=>bQ cs b (λm=>bQ a m (λl=>(lA c).run e l k)))))=true:=E;obtain⟨cs,E,N,M,u⟩:=Dy R s E;obtain⟨r,E⟩:=qJ E;obtain⟨F,E⟩:=vq E;rw[bB,bB] at E;have F:o+f<=l.length:=F;obtain⟨h,w,C,j,d,S⟩:=H _ (z.take o++((a.eval y).cells.toList++z.drop (o+f))) k ((t.take _).app (N.app (t.drop _)))
   (λv hv=>by grind) E
  refine⟨h,w,C,j,d,?_⟩;rw[jn,EZ L u (by simp;rw[←t.1];trivial)];trivial
def a3b{o:Oper}{parts:Array (Nat×Operand)}(E:CtxOk P C)(L:o.op= .build t parts):eY T P C (bJ C t parts.toList) o:=by
 have f:∀c,o.op≠ .defer c:=O4;unfold bJ;split
 .rename_i g rS;obtain⟨inf,h1,N,_,M,z,u,_,r,h6,_,_⟩:=E.ty t g rS;split
  .rename_i i QO;have S:=tB QO;have key:∀(s:Env->(ay->Bool)->Bool),buildable C g.desc=true->
     (∀(ρ:Ren) (e:Env) (a:Act) (qO:Nat->Option (Nat×Nat)) (k:ay->Bool),dV ρ e a.tmps->sX (yC P qO) parts.toList i->s e k=true->
      ∃H m,k H=true/\cG ρ H m/\(∀v∈H,v.de=true)/\Instr.fill qO z.cells (parts.toList.map λp=>(p.1,a.eval p.2))=some m.toArray)->
     eY T P C (bZ (λe q=>s e (λl=>q (.agg l)))) o:=by
    intro s HH hs;refine .pure f λρ e q a w h R=>?_;have A:∀qO,sX (yC P qO) parts.toList i->(∀cells,Instr.fill qO z.cells (parts.toList.map λp=>(p.1,a.eval p.2))=some cells->P.built t (parts.toList.map λp=>(p.1,a.eval p.2))=some cells)->
      ∃V v,q V=true/\aW ρ V v/\V≠ .undef/\(execOp a.eval o).run P w= .ok (.value v) w:=by
     intro qO hp hb;obtain⟨H,m,y,j,d,b⟩:=hs ρ e a qO _ R hp h;refine⟨.agg H,.agg m.toArray,y,aW.De d (by simpa using j),J1,?_⟩;have:=run_build w t (parts.map λ(p:Nat×Operand)=>(p.1,a.eval p.2)) m.toArray (by rw[NH];exact hb _ b);simp[execOp,L,this]
    cases HD:g.desc with
    |struct fs=>obtain⟨pl,y,j⟩:=wK P fs.toList (E.ar4 t g fs rS HD);refine A (pl.toArray[·]?) (S.mono λp q hpq=>GJ E HD j hpq) λcells F=>?_;unfold Program.built;rw[h1,M,HD];simp only[u,y];exact F
    |array n el=>rw[HD] at M;obtain⟨x,rf⟩:=uH.1 (show (C.ty el).isSome=true by rw[HD] at HH;exact HH);obtain⟨ie,hie,_⟩:=bU E rf;refine A _ (S.mono λp q hpq=>sk E HD hie hpq) λcells F=>?_;unfold Program.built;rw[h1,M];simp only[u,hie];exact F
    |_=>rw[HD] at HH;cases HH
   split
   .rename_i l HH hl;refine key (iS l).run HH λρ e a qO k R hp h=>?_;obtain⟨H,m,y,j,d,b,_⟩:=tJ R parts.toList i 0 g.cW z.cells.toList [] l k hp hl rfl (r ρ) h6 h;exact⟨H,m,y,j,d,by simpa using b⟩
   .rename_i HH _;refine key (λe k=>(lA i).run e g.cW k) HH λρ e a qO k R hp h=>?_;obtain⟨H,m,y,j,d,b⟩:=ZF R hp g.cW z.cells.toList k (r ρ) h6 h;exact⟨H,m,y,j,d,by simpa using b⟩
   .exact .bad
  .exact .bad
 .exact .bad
def ext1(ρ:Ren)(n:Nat)(aF1:pE):Ren:=λi=>if i=n then some aF1 else ρ i
def jN{z:ay}{c:Cells}{v:V}(h:Cells.get c j=v)(H:v≠ .undef):rO z c j=some v:=by unfold rO;grind
def zj{z:ay}{c:Cells}(h:vk z c)(j:Nat):rO z c j=z[j%z.length]? :=by
 unfold rO;rcases h j with h|h
 .rw [h]
 grind
def GZ{g:Heap}{w:World}{s z:Nat}{r:Bool}{cs:ay}{xs:List Value}{k:Nat->Heap->Bool}(y:aO P C ρ g w)(d:cG ρ cs xs)(A:∀v∈cs,v.de=true)(R:cs.length=m)(N:P.cellsOf u=z)
  (M:m=s*z) (l:w'.heap=w.heap.push (.cells xs.toArray u)) (h:dh g [] m (λc=>lq cs 0 c (λc=>fH (.row u m 0 r zs c) g k))=true) (S:Aside w w':=by exact⟨rfl,rfl⟩):
  ∃a,k g.nx a=true/\aO P C (ext1 ρ g.nx ⟨w.heap.size,s,z⟩) a w'/\Le ρ g w (ext1 ρ g.nx ⟨w.heap.size,s,z⟩) a w':=by
 obtain⟨c,h,hc⟩:=eQ h;obtain⟨L,h,n⟩:=jI h;obtain⟨a,E,t,p⟩:=eE h;have x:∀i D,ρ i=some D->ext1 ρ g.nx ⟨w.heap.size,s,z⟩ i=some D:=λi D F=>by unfold ext1;rw[aj M8];trivial
 have H:xs.length=m:=A7;have o:fL P (ext1 ρ g.nx ⟨w.heap.size,s,z⟩) (.row u m 0 r zs L) ⟨w.heap.size,s,z⟩ (some (.cells xs.toArray u)):=by refine⟨xs.toArray,(0,0),rfl,λ_=>W,λ_=>N,W,λ_=>W,Z,λj hj=>?_⟩;have q:j<cs.length:=Z;have f:j<xs.length:=Z;have e:=A _ (eL q);refine .inr ⟨cs[j],xs[j],jN ?_ (λb=>Xa),by simp[f],e,(d.2 j _ _ (bT q) (bT f)).mono x⟩;rw[n j,ao Z];simp[q]
 exact⟨a,E,y.push l rfl t p o S⟩
def ED{g:Heap}{w:World}{s z:Nat}{r:Bool}{n:List Value}{xs:Array Value}{k:Nat->Heap->Bool}(y:aO P C ρ g w)(d:cG ρ zs n)(A:∀v∈zs,v.de=true)(N:P.cellsOf u=z)(x:zs.length=z)
  (M:m=s*z) (hx:xs.size=m) (H:∀j,j<m->xs[j]? =n[j%n.length]?) (l:w'.heap=w.heap.push (.cells xs u)) (h:dh g zs m (λc=>fH (.row u m 0 r zs c) g k)=true) (S:Aside w w':=by exact⟨rfl,rfl⟩):
  ∃a,k g.nx a=true/\aO P C (ext1 ρ g.nx ⟨w.heap.size,s,z⟩) a w'/\Le ρ g w (ext1 ρ g.nx ⟨w.heap.size,s,z⟩) a w':=by
 obtain⟨c,h,F⟩:=eQ h;obtain⟨a,E,L,p⟩:=eE h;have e:∀i D,ρ i=some D->ext1 ρ g.nx ⟨w.heap.size,s,z⟩ i=some D:=λi D b=>by unfold ext1;rw[aj Xb];trivial
 have o:fL P (ext1 ρ g.nx ⟨w.heap.size,s,z⟩) (.row u m 0 r zs c) ⟨w.heap.size,s,z⟩ (some (.cells xs u)):=by
  refine⟨xs,(0,0),rfl,λ_=>W,λ_=>N,Z,Z,Z,λj R=>?_⟩;have t:0<zs.length:=by
   rcases qD zs.length with h|h
   .grind
   .exact h
  have q:j%zs.length<zs.length:=ke _ t;have f:j%n.length<n.length:=Za;refine .inr ⟨zs[j%zs.length],n[j%n.length],Z8,W,A _ (eL q),?_⟩;refine(d.2 (j%zs.length) _ _ (bT q) ?_).mono e;rw[d.1,bT f]
 exact⟨a,E,y.push l rfl L p o S⟩
def jM{i:TypeInfo}(h:P.info? t=some i):P.cellsOf t=i.size:=by simp[Program.cellsOf,h]
def a3c{o:Oper}(E:CtxOk P C)(L:o.op= .alloc t):eY T P C (dK C t) o:=by
 have f:∀c,o.op≠ .defer c:=O4;unfold dK;split
 .rename_i g rS;obtain⟨inf,A,N,_,M,z,u,_,d,F,y,_⟩:=E.ty t g rS;intro rt r e h k ρ a w _ S R p;have S:dh h g.cW g.sz (λc=>fH (.row t g.sz 0 true g.cW c) h (λi h=>k (.ptr i 0) h))=true:=S;have x:z.cells.toList.length=g.sz:=by rw[←(d ρ).1];exact y
  obtain⟨tV,H,b,n⟩:=ED (w':=w.alloc (.cells z.cells t)) (s:=1) (z:=g.sz) (xs:=z.cells) p (d ρ) F Jh y Z G
   (λj q=>by rw[x,qv q];simp) rfl S
  refine fS.value f (w':=w.alloc (.cells z.cells t)) (v:=.pointer (some ⟨w.heap.size,0,none⟩)) ?_ ⟨_,_,_,H,.ptr _ _ ⟨w.heap.size,1,g.sz⟩ G8,b,n⟩;simp[execOp,L,Instr.alloc,zeroValue,typeInfo,A,u,newVar,newRow]
 .exact .bad
def ac0{o:Oper}{x:Operand}(E:CtxOk P C)(L:o.op= .box t x):eY T P C (fl C t x) o:=by
 have f:∀c,o.op≠ .defer c:=O4;unfold fl;split
 .rename_i g F;obtain⟨inf,A,N,_⟩:=bU E F;intro rt r e h k ρ a w _ S R y;have d:=aJ R x;obtain⟨H,m,q,j,Co,S⟩:∃(H:ay) (m:List Value),(a.eval x).cells=m.toArray/\cG ρ H m/\(∀v∈H,v.de=true)/\
    aR (Nat.beq (eK H) g.sz) (dh h [] g.sz (λc=>lq H 0 c (λc=>fH (.row t g.sz 0 true g.cW c) h (λi h=>k (.ptr i 0) h)))) false=true:=by
   rcases V.RY.1 S with⟨M,S⟩|⟨H,QX,S⟩
   .exact ⟨_,[a.eval x],by rw[(gQ d M).2],.cons d .nil,W,S⟩
   .rw [QX] at d;obtain⟨m,p,u,h5⟩:=d.Iw;exact⟨H,m.toList,Zy,h5,u,S⟩
  obtain⟨M,S⟩:=aN.1 S;have M:=br M;rw[dx] at M;obtain⟨tV,hk,b,n⟩:=GZ (w':=w.alloc (.cells m.toArray t)) (s:=1) (z:=g.sz) y j Co M Jh Z rfl S;refine fS.value f (w':=w.alloc (.cells m.toArray t)) (v:=.pointer (some ⟨w.heap.size,0,none⟩)) ?_ ⟨_,_,_,hk,.ptr _ _ ⟨w.heap.size,1,g.sz⟩ G8,b,n⟩;simp[execOp,L,Instr.box,newVar,newRow,q]
 .exact .bad
def Pr{o:Oper}(L:o.op= .makeMap t none):eY T P C ⟨λ_ _ h k=>fH (.map [] 0) h (λi h=>k (.map i) h)⟩ o:=by have f:∀c,o.op≠ .defer c:=O4;intro z r e h k ρ a w _ S R y;have S:fH (.map [] 0) h (λi h=>k (.map i) h)=true:=S;obtain⟨d,E,g,p⟩:=eE S;obtain⟨b,n⟩:=y.push (w':=w.alloc (.map #[] 0)) (aF1:=⟨w.heap.size,0,0⟩) rfl rfl g p ⟨#[],rfl,rfl,λi x m h=>Zn⟩;refine fS.value f (w':=w.alloc (.map #[] 0)) (v:=.map (some w.heap.size)) ?_ ⟨_,_,_,E,.map _ ⟨w.heap.size,0,0⟩ J1,b,n⟩;simp[execOp,L,Instr.makeMap]
def Bl{z:Value}(d:cG ρ zs z.cells.toList)(g:0<zs.length):cG ρ (py zs m) ((Array.range m).map (z.cells[· % z.cells.size]!)).toList:=by
 refine⟨by simp[py],λi u v L H=>?_⟩;unfold py at L;rw[rX] at L;have F:i<m:=by
  rcases dN i m with h|h
  .exact h
  .grind
 rw[List.getElem?_range F] at L;simp only[mI,jo] at L;have t:zs.length=z.cells.size:=by rw[d.1];simp
 have a:i%zs.length<zs.length:=ke _ g;have f:i%z.cells.size<z.cells.size:=by rw[←t];exact a
 have j:v=z.cells[i%z.cells.size]:=by simp[F] at H;rw[←H];simp[f]
 rw[bT a] at L;simp only[uB] at L;subst L j;refine d.2 (i%zs.length) _ _ (bT a) ?_;grind
def pL(A:∀v∈zs,v.de=true)(g:0<zs.length):∀v∈py zs m,v.de=true:=by intro v H;unfold py at H;obtain⟨j,_,z⟩:=fA.1 H;have:j%zs.length<zs.length:=ke _ g;grind
def DD{o:Oper}{n:Nat}{parts:Array (Nat×Operand)}(E:CtxOk P C)(L:o.op= .buildSlice t n parts):eY T P C (cX C t n parts.toList) o:=by
 have f:∀c,o.op≠ .defer c:=O4;unfold cX;split
 .rename_i g F;obtain⟨inf,A,N,M⟩:=bU E F;split
  .rename_i u fW;rw[fW] at M;split
   .rename_i x rf;obtain⟨ie,g1,g2,_,g3,z,g4,_,g5,g6,g7,_⟩:=E.ty u x rf;split
    .rename_i QQ;intro rt r e h k ρ a w _ S R y;have S:dh h [] 0 (λc=>lq [] 0 c (λc=>fH (.row u 0 0 true x.cW c) h (λi h=>k (.sl i 0 0 (.known 0)) h)))=true:=S;obtain⟨tV,hk,b,hL⟩:=GZ (w':=w.alloc (.cells #[] u)) (s:=0) (z:=x.sz) (m:=0) (cs:=[]) (xs:=[]) y .nil J1 rfl X2 J1 rfl S;refine fS.value f (w':=w.alloc (.cells #[] u)) (v:=.slice (some ⟨w.heap.size,0,none⟩) 0 0) ?_ ⟨_,_,_,hk,.sl _ _ _ _ _ ⟨w.heap.size,0,x.sz⟩ G8 rfl G,b,hL⟩;have hp:parts= #[]:=by
      apply uD;exact QQ
     simp[execOp,L,Instr.buildSlice,aU M,df g1,hp,Instr.fill,newRow];grind
    .dsimp only
     rename_i n _ _ _;split
     .rename_i ps QO;split
      .rename_i l hl a4f;obtain⟨d1,d2⟩:=pn a4f;have hzp:0<x.cW.length:=by
        rw[g7];rcases qD x.sz with h|h
        .grind
        .exact h
       intro rt r e h k ρ a w _ S R y;have Cs:=(tB QO).mono λp q hpq=>sk (ti:={g with desc:=.array n u}) E rfl g1 hpq;obtain⟨H,xs,h7,j,d,yZ,Ar⟩:=tJ R parts.toList ps 0 (py x.cW (n*x.sz)) _ [] l _ Cs hl rfl (Bl (m:=n*x.sz) (g5 ρ) hzp) (pL g6 hzp) S;have hlen:H.length=n*x.sz:=by rw[j.1,Ar];simp
       obtain⟨tV,hk,b,hL⟩:=GZ (w':=w.alloc (.cells xs.toArray u)) (s:=n) (z:=x.sz) y j d hlen X2 rfl rfl h7;refine fS.value f (w':=w.alloc (.cells xs.toArray u)) (v:=.slice (some ⟨w.heap.size,0,none⟩) n n) ?_ ⟨_,_,_,hk,.sl _ _ _ _ _ ⟨w.heap.size,n,x.sz⟩ G8 rfl Z,b,hL⟩;have:=run_buildSlice (P:=P) w t u n (parts.map λ(p:Nat×Operand)=>(p.1,a.eval p.2)) xs.toArray ie z M g1 g4 W W
        (by rw[mG,mG,Array.toArray_toList,←g2] at yZ;rw[NH];exact yZ)
       simp only[execOp,L,Sem.run_bind,this,Result.andThen_ok,Sem.run_pure]
      .exact .bad
     .exact .bad
   .exact .bad
  .exact .bad
 .exact .bad
end
section
variable {P:Program} {C:Ctx} {ρ:Ren}
def sh{i:TypeInfo}{z:Value}{w:World}(h:P.info? t=some i)(C:i.zero=some z):(zeroValue t).run P w= .ok z w:=by unfold zeroValue typeInfo program;simp[h,Sem.run,C]
def Bj{i:TypeInfo}{w:World}(h:P.info? t=some i):(typeInfo t).run P w= .ok i w:=by unfold typeInfo program;simp[h,Sem.run]
def GR{o:Oper}{l c:Operand}(E:CtxOk P C)(L:o.op= .makeSlice t l c):eY T P C (dw C t l c) o:=by
 have f:∀c,o.op≠ .defer c:=O4;unfold dw;split
 .rename_i ti rS;obtain⟨inf,h1,N,M⟩:=bU E rS;split
  .rename_i u v;rw[v] at M;split
   .rename_i x rf;obtain⟨ie,g1,g2,g2b,g3,z,q,_,g,p,b,_⟩:=E.ty u x rf;intro rt r e h k ρ a w _ S R y;have S:V.dD ((ax l).get e) (λn=>V.dD ((ax c).get e) (λm=>aR (Nat.ble n m) (aR (Nat.ble m 4294967296) (aR (Nat.ble (Nat.mul x.bytes m) 281474976710656)
     (gy (Nat.mul m x.sz) (λs=>dh h x.cW s (λc=>fH (.row u s 0 true x.cW c) h (λi h=>k (.sl i 0 n (.known m)) h)))) false) false) false))=true:=S
    obtain⟨kl,n,hl,S⟩:=gL (aJ R l) S;obtain⟨kc,m,F,S⟩:=gL (aJ R c) S;obtain⟨H,S⟩:=aN.1 S;obtain⟨d,S⟩:=aN.1 S;obtain⟨b3,S⟩:=aN.1 S;have H:=bh H;have d:=bh d;have b3:x.bytes*m<=281474976710656:=bh b3;rw[ea] at S;have S:dh h x.cW (m*x.sz) (λc=>fH (.row u (m*x.sz) 0 true x.cW c) h (λi h=>k (.sl i 0 n (.known m)) h))=true:=S;have hzl:z.cells.toList.length=x.sz:=by rw[←(g ρ).1];exact b
    have LI:=run_make (P:=P) w t u ie z M g1 q kl kc (n:Int) (m:Int) Z Z
     W Z
    simp only[iI,g2] at LI;have ad3:∃xs:Array Value,xs.size=m*x.sz/\(∀j,j<m*x.sz->xs[j]? =z.cells.toList[j%z.cells.toList.length]?)/\(execOp a.eval o).run P w= .ok (.value (.slice (some ⟨w.heap.size,0,none⟩) n m)) (w.alloc (.cells xs u)):=by
     refine⟨madeCells z.cells (m*x.sz),size_madeCells _ _,λj hj=>?_,by simp only[execOp,L,Sem.run_bind,hl,F,LI,Result.andThen_ok,Sem.run_pure]⟩;have hz0:0<x.sz:=by
      rcases qD x.sz with h|h
      .grind
      .exact h
     have hzs:z.cells.size=x.sz:=by rw[←hzl];simp
     have A:j%z.cells.size<z.cells.size:=ke _ Z;rw[show z.cells.toList.length=z.cells.size by simp,jq,mL A];unfold madeCells;rw[Array.getElem?_map,Array.getElem?_range,ao hj];simp[A]
    obtain⟨xs,hs,hj,lx⟩:=ad3;obtain⟨tV,hk,kO,hL⟩:=ED (w':=w.alloc (.cells xs u)) (s:=m) (z:=x.sz) (m:=m*x.sz) y W p X2 b rfl hs hj rfl S;exact fS.value f lx ⟨_,_,_,hk,.sl _ _ _ _ _ ⟨w.heap.size,m,x.sz⟩ G8 rfl H,kO,hL⟩
   .exact .bad
  .exact .bad
 .exact .bad
def gN{o:Oper}{b:Builtin}{args:Array Operand}{F:Array TypeId}{w:World}(L:o.op= .call {callee:=.builtin b,args,argTypes:=F}):
  ∃cs,(execOp a.eval o).run P w=(builtin b F o.type cs (args.map a.eval)).run P w:=by
 simp only[execOp,L,resolve,invoke,Sem.run_bind,Sem.run_pure,Result.andThen_ok];grind
def abY{o:Oper}{x:Operand}{F:Array TypeId}(E:CtxOk P C)(m:F[0]? =some t)(L:o.op= .call {callee:=.builtin .len,args:=#[x],argTypes:=F}):eY T P C (Lv C t x) o:=by
 have f:∀c,o.op≠ .defer c:=O4;have key:∀(a:Act) (w:World) (n:Nat),(Builtin.len_ F o.type #[a.eval x]).run P w= .ok (goInt n) w->(execOp a.eval o).run P w= .ok (.value (.int .i64 (n:Int))) w:=by intro a w n h;obtain⟨cs,A⟩:=gN (P:=P) (a:=a) (w:=w) L;rw[A];simp[builtin,h,goInt]
 unfold Lv;split
 .exact .bad
 .rename_i ti rS;obtain⟨inf,A,N,M⟩:=bU E rS;split
  .rename_i v;rw[v] at M;refine .pure f λρ e q a w h R=>?_;obtain⟨s,hs,h⟩:=fU (aJ R x) h;rw[ea,dx,jz] at h;obtain⟨u,h⟩:=aN.1 h;refine⟨_,_,h,.num _ (bh u),J1,key a w _ ?_⟩;simp[Builtin.len_,m,aU M,hs]
  .rename_i el v;rw[v] at M;refine .pure f λρ e q a w h R=>?_;have d:=aJ R x;rcases V.dZ.1 h with⟨i,p,n,c,S,h⟩|⟨S,h⟩|⟨S,h⟩
   .rw [S] at d;obtain⟨j,cap,hB,_,_,H⟩:=oa d;obtain⟨u,h⟩:=aN.1 h;refine⟨_,_,h,.num _ (bh u),J1,key a w _ ?_⟩;rcases H with H|⟨rfl,rfl,r,H⟩<;>simp[Builtin.len_,m,aU M,H]
   .rw [S] at d;have H:a.eval x= .slice none 0 0:=by
     generalize a.eval x=vx at *;cases d;rfl
    refine⟨_,_,h,.num 0 G,J1,key a w _ ?_⟩;simp[Builtin.len_,m,aU M,H]
   .rw [S] at d;obtain⟨r,cap,H⟩:∃r cap,a.eval x= .slice (some r) 0 cap:=by
     generalize a.eval x=vx at *;cases d with|z8 r cap=>grind
    refine⟨_,_,h,.num 0 G,J1,key a w _ ?_⟩;simp[Builtin.len_,m,aU M,H]
  .rename_i n el v;rw[v] at M;refine .pure f λρ e q a w h R=>?_;obtain⟨u,h⟩:=aN.1 h;refine⟨_,_,h,.num _ (bh u),J1,key a w _ ?_⟩;simp[Builtin.len_,m,aU M]
  .rename_i pt v;rw[v] at M;split
   .rename_i ai hai;obtain⟨_,_,_,h6⟩:=bU E hai;split
    .rename_i n el hd2;rw[hd2] at h6;refine .pure f λρ e q a w h R=>?_;obtain⟨u,h⟩:=aN.1 h;refine⟨_,_,h,.num _ (bh u),J1,key a w _ ?_⟩;simp[Builtin.len_,m,aU M,aU h6]
    .exact .bad
   .exact .bad
  .rename_i kt el v;rw[v] at M;refine .still f λrt e h k ρ a w S R y=>?_;have S:V.cH ((ax x).get e) (λi=>O.cH (bL i h) (λl _=>gy (eK l) (λn=>aR (Nat.ble n cO) (k (.num n) h) false))) (k (.num 0) h)=true:=S;have d:=aJ R x;rcases V.dJ.1 S with⟨i,z,S⟩|⟨z,S⟩
   .rw [z] at d;obtain⟨j,hB,H⟩:∃j,ρ i=some j/\a.eval x= .map (some j.b):=by
     generalize a.eval x=vx at *;cases d with|map _ j hB=>grind
    obtain⟨l,c,hg,S⟩:=O.dJ.1 S;have ho':=y.obj i j hB;rw[hg] at ho';obtain⟨g,hm,hl,_⟩:=ho';rw[ea,dx,hl] at S;obtain⟨u,S⟩:=aN.1 S;refine⟨_,_,w,S,.num _ (bh u),key a w _ ?_,rfl⟩;simp[Builtin.len_,m,aU M,H,getObj,Sem.run,hm]
   .rw [z] at d;have H:a.eval x= .map none:=by
     generalize a.eval x=vx at *;cases d;rfl
    refine⟨_,_,w,S,.num 0 G,key a w _ ?_,rfl⟩;simp[Builtin.len_,m,aU M,H]
  .exact .bad
def aa0{o:Oper}{x y:Operand}{d:Array TypeId}{mx:Bool}(L:o.op= .call {callee:=.builtin (if mx then .max else .min),args:=#[x,y],argTypes:=d}):eY T P C (mmK mx x y) o:=by
 have f:∀c,o.op≠ .defer c:=O4;refine .pure f λρ e q a w h b=>?_;obtain⟨k,m,S,h⟩:=eB (aJ b x) h;obtain⟨l,n,p,h⟩:=eB (aJ b y) h;obtain⟨E,R⟩:=aN.1 h;clear h;have E:=oG.1 E;subst E;obtain⟨H,A⟩:=gN (P:=P) (a:=a) (w:=w) L;cases mx with
 |true=>
  rcases bK.1 R with⟨N,R⟩|⟨N,R⟩
  .obtain ⟨V,M,u,r⟩:=gu R;refine⟨V,_,M,u,r,?_⟩;rw[A];have N:=Am.1 N;simp only[cond,builtin,Builtin.max_,if_true];simp[List.foldlM,Builtin.max2,S,p];omega
  .obtain ⟨V,M,u,r⟩:=gu R;refine⟨V,_,M,u,r,?_⟩;rw[A];have N:¬m<=n:=λF=>Jw;simp only[cond,builtin,Builtin.max_,if_true];simp[List.foldlM,Builtin.max2,S,p];omega
 |false=>
  rcases bK.1 R with⟨N,R⟩|⟨N,R⟩
  .obtain ⟨V,M,u,r⟩:=gu R;refine⟨V,_,M,u,r,?_⟩;rw[A];have N:=Am.1 N;simp only[cond,builtin,Builtin.min_,qE,if_false];simp[List.foldlM,Builtin.min2,S,p];omega
  .obtain ⟨V,M,u,r⟩:=gu R;refine⟨V,_,M,u,r,?_⟩;rw[A];have N:¬m<=n:=λF=>Jw;simp only[cond,builtin,Builtin.min_,qE,if_false];simp[List.foldlM,Builtin.min2,S,p];omega
end
variable{a3Z h':Heap}{el jE need:Nat}{k:cR}
section
variable {P:Program} {C:Ctx} {ρ:Ren}
def a3g{g:Heap}{w:World}{s z:Nat}{cs:ay}{xs:List Value}{rest:Array Value}{k:Nat->Heap->Bool}(y:aO P C ρ g w)(d:cG ρ cs xs)(A:∀v∈cs,v.de=true)(R:cs.length=m)(x:P.cellsOf u=z)
  (M:xs.length+rest.size=s*z) (l:w'.heap=w.heap.push (.cells (xs.toArray++rest) u)) (h:ey u m fz zs cs g k=true) (S:Aside w w':=by exact⟨rfl,rfl⟩):
  ∃a,k g.nx a=true/\aO P C (ext1 ρ g.nx ⟨w.heap.size,s,z⟩) a w'/\Le ρ g w (ext1 ρ g.nx ⟨w.heap.size,s,z⟩) a w':=by
 unfold ey at h;obtain⟨c,h,N⟩:=eQ h;obtain⟨L,h,n⟩:=jI h;obtain⟨a,E,r,p⟩:=eE h;have t:∀i D,ρ i=some D->ext1 ρ g.nx ⟨w.heap.size,s,z⟩ i=some D:=λi D F=>by unfold ext1;rw[aj M8];trivial
 have H:xs.length=m:=A7;have o:fL P (ext1 ρ g.nx ⟨w.heap.size,s,z⟩) (.row u m fz false zs L) ⟨w.heap.size,s,z⟩ (some (.cells (xs.toArray++rest) u)):=by
  refine⟨xs.toArray++rest,(0,0),rfl,λ_=>W,λ_=>x,W,λh=>G,Z,λj hj=>?_⟩;have q:j<cs.length:=Z;have f:j<xs.length:=Z;have e:=A _ (eL q);refine .inr ⟨cs[j],xs[j],jN ?_ (λb=>Xa),?_,e,(d.2 j _ _ (bT q) (bT f)).mono t⟩
  .rw [n j,ao Z];simp[q]
  .grind
 exact⟨a,E,y.push l rfl r p o S⟩
def Pz{g:Heap}{w:World}{s z:Nat}{n:List Value}{xs:Array Value}{k:Nat->Heap->Bool}(y:aO P C ρ g w)(d:cG ρ zs n)(A:∀v∈zs,v.de=true)(x:P.cellsOf u=z)(t:0<zs.length)
  (M:xs.size=s*z) (R:m<=xs.size) (H:∀j,j<m->xs[j]? =n[j%n.length]?) (l:w'.heap=w.heap.push (.cells xs u)) (h:dh g zs m (λc=>fH (.row u m 0 false zs c) g k)=true) (S:Aside w w':=by exact⟨rfl,rfl⟩):
  ∃a,k g.nx a=true/\aO P C (ext1 ρ g.nx ⟨w.heap.size,s,z⟩) a w'/\Le ρ g w (ext1 ρ g.nx ⟨w.heap.size,s,z⟩) a w':=by
 obtain⟨c,h,F⟩:=eQ h;obtain⟨a,E,r,p⟩:=eE h;have e:∀i D,ρ i=some D->ext1 ρ g.nx ⟨w.heap.size,s,z⟩ i=some D:=λi D b=>by unfold ext1;rw[aj Xb];trivial
 have o:fL P (ext1 ρ g.nx ⟨w.heap.size,s,z⟩) (.row u m 0 false zs c) ⟨w.heap.size,s,z⟩ (some (.cells xs u)):=by refine⟨xs,(0,0),rfl,λ_=>M,λ_=>x,R,λh=>G,Z,λj L=>?_⟩;have q:j%zs.length<zs.length:=ke _ t;have f:j%n.length<n.length:=Za;refine .inr ⟨zs[j%zs.length],n[j%n.length],Z8,W,A _ (eL q),?_⟩;refine(d.2 (j%zs.length) _ _ (bT q) ?_).mono e;rw[d.1,bT f]
 exact⟨a,E,y.push l rfl r p o S⟩
def aO.move{w:World}{o:O}{aF1:pE}(r:aO P C ρ h w)(F:ρ i=some aF1)(hl:isLive (bL i h)=true)(ht:Ht (bL i h)=true)
  (hs:w'.heap.size=w.heap.size) (l:∀b,b≠aF1.b->w'.heap[b]? =w.heap[b]?) (LK:a3Z.nx=h.nx) (ve:∀j,bL j a3Z=if j=i then .dead else bL j h) (hn:h'.nx=a3Z.nx+1) (p:∀j,bL j h'=if j=a3Z.nx then o else bL j a3Z)
  (L:fL P (ext1 ρ h.nx aF1) o aF1 w'.heap[aF1.b]?) (S:Aside w w':=by exact⟨rfl,rfl⟩):
  aO P C (ext1 ρ h.nx aF1) h' w'/\Le ρ h w (ext1 ρ h.nx aF1) h' w':=by
 have hix:=(r.pW i aF1 F).1;have e:∀j D,ρ j=some D->ext1 ρ h.nx aF1 j=some D:=λj D z=>by unfold ext1;rw[aj (by have:=(r.pW j D z).1;omega)];trivial
 have Ux:∀j,bL j h'=if j=h.nx then o else if j=i then .dead else bL j h:=λj=>W
 have q:∀j D,j≠h.nx->ext1 ρ h.nx aF1 j=some D->ρ j=some D:=λj D z n=>by unfold ext1 at n;grind
 refine⟨⟨λj D z=>?_,λj D z=>?_,λj k D E z hk y d he=>?_,λg H c=>?_⟩,⟨e,Z,λb hb R=>⟨l b (λh=>R ⟨i,aF1,F,h.symm,hl,ht⟩),?_⟩,Z,λj z s=>?_,S⟩⟩
 .by_cases A:j=h.nx
  .unfold ext1 at z;rw[ao A] at z;cases z;have:=(r.pW i aF1 F).2;omega
  .have:=r.pW j D W;omega
 .rw [Ux];by_cases A:j=h.nx
  .unfold ext1 at z;grind
  .rw [aj A];have z:=q j D A z;by_cases N:j=i
   .rw [ao N];trivial
   .rw [aj N];by_cases M:isLive (bL j h)=true
    .rw [l _ (λh=>N (r.inj j i D aF1 z F M hl h))];exact(r.obj j D z).mono e
    .revert M;cases bL j h<;>simp[isLive,fL]
 .rw [Ux] at y d;by_cases A:j=h.nx<;>by_cases N:k=h.nx
  .omega
  .exfalso;unfold ext1 at z;rw[ao A] at z;cases z;have hk:=q k E N hk;rw[aj N] at d;by_cases M:k=i
   .rw [ao M] at d;trivial
   .rw [aj M] at d;exact M (r.inj k i E aF1 hk F d hl he.symm)
  .exfalso;unfold ext1 at hk;rw[ao N] at hk;cases hk;have z:=q j D A z;rw[aj A] at y;by_cases M:j=i
   .rw [ao M] at y;trivial
   .rw [aj M] at y;exact M (r.inj j i D aF1 z F y hl he)
  .rw [aj A] at y;rw[aj N] at d;have z:=q j D A z;have hk:=q k E N hk;by_cases M:j=i
   .rw [ao M] at y;trivial
   .by_cases u:k=i
    .rw [ao u] at d;trivial
    .rw [aj M] at y;rw[aj u] at d;exact r.inj j k D E z hk y d he
 .obtain ⟨A,m,t,f,N,M⟩:=r.iP g H c;refine⟨λj D z y tj=>?_,m,t,f,W,λj v hv=>let ⟨x,a,b⟩:=M j v hv;⟨x,a,b.mono e⟩⟩;by_cases u:j=h.nx
  .unfold ext1 at z;grind
  grind
 .rintro ⟨j,D,z,n,hlj,htj⟩;rw[Ux] at hlj htj;by_cases u:j=h.nx
  .unfold ext1 at z;rw[ao u] at z;cases z;exact R ⟨i,aF1,F,n,hl,ht⟩
  .rw [aj u] at hlj htj;by_cases h5:j=i
   .rw [ao h5] at hlj;trivial
   .rw [aj h5] at hlj htj;exact R ⟨j,D,q j D u z,n,hlj,htj⟩
 .rw [Ux,aj Z];by_cases h5:j=i
  .grind
  .rw [aj h5];exact⟨rfl,by unfold ext1;grind⟩
def aO.kill{w:World}{aF1:pE}(r:aO P C ρ h w)(F:ρ i=some aF1)(hl:isLive (bL i h)=true)(hn:h'.nx=h.nx)(p:∀j,bL j h'=if j=i then .dead else bL j h):
  aO P C ρ h' w/\Le ρ h w ρ h' w:=r.put (o:=.dead) F hl (.inr G) rfl trivial W hn p J1
def run_append_room{w:World}(t H ty e:TypeId)(i:TypeInfo)(o:P.underlying t=some (.slice e))(F:P.info? e=some i)(b off a c:Nat)(x:Value)(n:Nat)(L:List Value)(M:Src P i.size H x n L w)
  (d:a+n<=c) (N:(storeCells ⟨b,off+a*i.size,none⟩ L).run P w= .ok () w'):
  (Builtin.append_ #[t,H] ty #[.slice (some ⟨b,off,none⟩) a c,x]).run P w= .ok (.slice (some ⟨b,off,none⟩) (a+n) c) w':=by
 rcases M.kind with⟨f,E⟩|E<;>simp[Builtin.append_,run_underlying o,run_underlying E,sizeOf,typeInfo,F,M.len,d,M.cells,jA,N]
def jk{z:Array Value}{n:Nat}:(Builtin.zeroCells z n).size=n*z.size:=by simp[Builtin.zeroCells]
def Bf{f:Nat}{x:V}{z:Value}{g:Heap}{w:World}{H e':TypeId}{k:Nat->ay->Bool}(y:aO P C ρ g w)(d:aW ρ x z)(E:P.underlying H=some (.slice e'))(h:fZ f x g k=true):
  ∃n cs L,k n cs=true/\cG ρ cs L/\(∀v∈cs,v.de=true)/\Src P f H z n L w:=by
 unfold fZ at h;rcases V.dZ.1 h with⟨i,p,n,c,rfl,h⟩|⟨rfl,h⟩|⟨rfl,h⟩
 .obtain ⟨j,cap,q,_,_,rfl|⟨rfl,rfl,r,rfl⟩⟩:=oa d
  case inr=>obtain⟨l,m,b,A,N,M,u⟩:=eu y q h;have M:l.length=0*f:=M;have S:m= []:=pk (by rw[←A.1,M,qp]);subst S;exact⟨0,l,[],b,A,N,Src.ofSlice w E r 0 0 [] J1 J1 J1⟩
  obtain⟨l,m,b,A,N,M,u⟩:=eu y q h;have M:l.length=n*f:=M;exact⟨n,l,m,b,A,N,Src.ofSlice w E _ n cap m Zb u (uY A N)⟩
 .cases d;exact⟨0,[],[],h,.nil,J1,Src.ofNil w E 0⟩
 .cases d with
  |z8 r cap=>exact⟨0,[],[],h,.nil,J1,Src.ofSlice w E r 0 cap [] J1 J1 J1⟩
def Fu{s:ByteArray}:cG ρ ((bytesOf s).map λb=>V.ik .u8 (.ofNat b)) (byteCells s):=by
 refine⟨by simp[bytesOf,byteCells],λi u v L H=>?_⟩;unfold bytesOf at L;unfold byteCells at H;rw[lE,rX] at L;rw[rX] at H;cases a:s.data.toList[i]? with
 |none=>grind
 |some b=>rw[a] at L H;simp only[mI,jo] at L H;subst L H;exact .ik _ _
def Dt{x:V}{z:Value}{w:World}{H:TypeId}{k:Nat->ay->Bool}(d:aW ρ x z)(E:P.underlying H=some .string)(h:xF x k=true):
  ∃n cs L,k n cs=true/\cG ρ cs L/\(∀v∈cs,v.de=true)/\Src P 1 H z n L w:=by
 unfold xF at h;obtain⟨s,rfl,h⟩:=fU d h;rw[bB,ea,dx,jz,j9] at h;exact⟨s.size,_,byteCells s,h,Fu,by simp[V.de],Src.ofString w E s⟩
def jy{k:Bool}(h:jV need jE k=true):need<=4294967296/\need*jE<=140737488355328/\k=true:=by unfold jV at h;obtain⟨A,h⟩:=aN.1 h;obtain⟨N,h⟩:=aN.1 h;exact⟨bh A,bh N,h⟩
def Dc{x:TI}{s:V}{xv sv:Value}{g:Heap}{w:World}{n:Nat}{cs:ay}{L:List Value}{tx t ty:TypeId}(hC:CtxOk P C)(rf:C.ty el=some x)(hz0:x.sz≠0)(ht:P.underlying t=some (.slice el))
  (y:aO P C ρ g w) (hs:aW ρ s sv) (hr:cG ρ cs L) (h1:∀v∈cs,v.de=true) (DJ:Src P x.sz tx xv n L w) (h:gp el x.sz x.bytes x.cW s n cs g k=true):
  ∃V v a jP w',k V a=true/\aW jP V v/\aO P C jP a w'/\Le ρ g w jP a w'/\(Builtin.append_ #[t,tx] ty #[sv,xv]).run P w= .ok v w':=by
 obtain⟨ie,g1,g2,g2b,g3,z,g4,_,g5,g6,g7,_⟩:=hC.ty el x rf;have uh:Src P ie.size tx xv n L w:=by rw[g2];exact DJ
 have hzs:z.cells.size=x.sz:=by have:=(g5 ρ).1;rw[g7] at this;simpa using this.symm
 have zy:cs.length=n*x.sz:=by rw[hr.1,DJ.newsLen]
 have grow:∀(base:Option Addr) (tS OU:Nat) (old:ay) (oN:List Value) (yl:Heap) (fz:Nat),sv= .slice base tS OU->aO P C ρ yl w->cG ρ old oN->(∀v∈old,v.de=true)->old.length=tS*x.sz->
   (Builtin.firstCells ie.size tS (.slice base tS OU)).run P w.drew= .ok oN.toArray w.drew->OU<tS+n->tS+n<=4294967296->(tS+n)*x.bytes<=140737488355328->
   ey el ((tS+n)*x.sz) fz x.cW (old++cs) yl (λi h=>k (.sl i 0 (tS+n) (.less 0 x.sz)) h)=true->
   ∃V v a jP w',k V a=true/\aW jP V v/\aO P C jP a w'/\Le ρ yl w jP a w'/\(Builtin.append_ #[t,tx] ty #[sv,xv]).run P w= .ok v w':=by
  intro base tS OU old oN yl fz hsv hH1 ho YJ Dn hfc p hb1 LO hx;have lx:=run_append_grow_src (P:=P) w t tx ty el ie z ht g1 g4 base tS OU oN hfc xv n L uh p Z (growslice_fits p (by rw[g2b];exact LO));have YM:=grownCap_ge w (tS+n) OU el;generalize hN:grownCap w (tS+n) OU el=N at lx YM;have hlen:(old++cs).length=(tS+n)*x.sz:=N7;have ail:(oN++L).length=(tS+n)*x.sz:=by rw[←(ho.app hr).1];exact hlen
  obtain⟨a,E,kO,hL⟩:=a3g (w:=w.drew) (w':=w.drew.alloc (.cells ((oN++L).toArray++Builtin.zeroCells z.cells (N-(tS+n))) el)) (s:=N) (z:=x.sz) (hH1.world (w':=w.drew) rfl) (ho.app hr)
   (λv H=>Y5) hlen X2 (by rw[ail,jk,hzs,←qB];congr 1;omega) rfl hx
  refine⟨_,_,a,_,_,E,.sl _ _ _ N _ ⟨w.heap.size,N,x.sz⟩ Ji ⟨J1,J1,rfl⟩ YM,kO,(Le.world (w:=w) (w':=w.drew) rfl).trans hL,?_⟩;rw[hsv,lx]
 unfold gp at h;rcases V.dZ.1 h with⟨i,o,l,c,rfl,h⟩|⟨rfl,h⟩|⟨rfl,h⟩
 .obtain ⟨aF1,cap,hB,hc,hn,rfl|⟨rfl,rfl,ad,rfl⟩⟩:=oa hs
  case inr=>
   obtain⟨e,m,fz,wh,zz,cc,p,h⟩:=O.fj.1 h;rw[ea,ea] at h;have zero:n=0->∀c',Dj c' aF1 o 0 0->eI i (o+0*x.sz) cs g (λh=>k (.sl i o (0+n) c') h)=true->
     ∃V v a jP w',k V a=true/\aW jP V v/\aO P C jP a w'/\Le ρ g w jP a w'/\(Builtin.append_ #[t,tx] ty #[.slice (some ad) 0 0,xv]).run P w= .ok v w':=by
    intro h0 c' YN hx;subst h0;obtain⟨h',w',E,Nz,kO,hL⟩:=gO y hB hr h1 hx;have aaq:L= []:=by have:=DJ.newsLen;rw[qp] at this;exact pk this
    subst aaq;have hw:w'=w:=by simp only[storeCells,Sem.run_pure] at Nz;cases Nz;rfl
    subst hw;refine⟨_,_,h',ρ,w',E,.sl0 _ _ _ ad aF1 hB YN,kO,hL,?_⟩;rcases uh.kind with⟨e',hkd⟩|hkd<;>simp[Builtin.append_,run_underlying ht,run_underlying hkd,sizeOf,typeInfo,g1,uh.len,uh.cells,storeCells]
   have Px:∀{q o':Nat} {f:ay->Bool},fh i o' (0*x.sz) g f=true->f []=true:=by intro q o' f hf;obtain⟨l,xs,hk',h1',h2',h3',h4'⟩:=eu y hB hf;have h3':l.length=0*x.sz:=h3';rw[qp] at h3';rw[pk h3'] at hk';exact hk'
   rcases lL.1 h with⟨kk,rfl,h⟩|⟨d,z',rfl,h⟩
   .have hck:0=kk:=hc;subst hck;rcases bK.1 h with⟨h2,h⟩|⟨h2,h⟩
    .exact zero (by have:0+n<=0:=bh h2;omega) _ hc h
    .have hn0:0<n:=by
      rcases qD n with M|M
      .subst M;cases h2
      .exact M
     obtain⟨M,u,h⟩:=jy h;have h:=Px (q:=0) h;rw[bB,ea] at h;obtain⟨V,v,a,jP,w',a1,a2,a3,a4,a5⟩:=grow (some ad) 0 0 [] [] g 0 rfl y .nil J1 J1 (run_firstCells_some w.drew ie.size 0 ad 0 0 [] J1 J1) Z M u h;exact⟨V,v,a,jP,w',a1,a2,a3,a4,a5⟩
   .obtain ⟨c1,c2,c3⟩:=hc;obtain⟨h2,h⟩:=aN.1 h;have h2:=br h2;obtain⟨cs0,fr,r1,r2,r3,r4,r5,r6,r7⟩:=lW y hB p;have hzB:aF1.z=x.sz:=by rw[←c3,h2]
    rcases bK.1 h with⟨M,h⟩|⟨M,h⟩
    .have M:o+(0+n)*x.sz<=m:=bh M;have r2:=r2 (Bn p h);refine zero ?_ (.less d z') ⟨c1,c2,c3⟩ h;have r:(d+n)*x.sz<=d*x.sz:=by
      have:d=aF1.s:=Z;rw[qB,show d*x.sz=o by rw[c2,hzB]];rw[dz] at M;have:o=aF1.s*aF1.z:=by rw[c2,this]
      omega
     have:=a19 r (FN hz0);omega
    .have hn0:0<n:=by
      rcases qD n with u|u
      .subst u;have:o<=m:=by
        obtain⟨u,r,h⟩:=jy h;rcases bK.1 h with⟨F,h⟩|⟨F,h⟩
        .have:=br F;omega
        .obtain ⟨_,h⟩:=aN.1 h;obtain⟨_,_,_,_,_,_,hg',h⟩:=O.fj.1 h;obtain⟨h9,_⟩:=aN.1 h;rw[p] at hg';cases hg';have yZ:o+0*x.sz<=m:=bh h9;omega
       have:Nat.ble (Nat.add o (Nat.mul (0+0) x.sz)) m=true:=iJ (by show o+(0+0)*x.sz<=m;omega);rw[this] at M;cases M
      .exact u
     obtain⟨u,r,h⟩:=jy h;rcases bK.1 h with⟨F,h⟩|⟨F,h⟩
     .have F:=br F;subst F;obtain⟨h7,h⟩:=aN.1 h;obtain⟨h8,h⟩:=aN.1 h;have h:=Px (q:=0) h;rw[bB,ea] at h;obtain⟨yl,h,R,ve⟩:=jJ h;obtain⟨hK,YQ⟩:=y.kill hB P5 R ve;obtain⟨V,v,a,jP,w',a1,a2,a3,a4,a5⟩:=grow (some ad) 0 0 [] [] yl fz rfl hK .nil J1 J1 (run_firstCells_some w.drew ie.size 0 ad 0 0 [] J1 J1) Z u r h;exact⟨V,v,a,jP,w',a1,a2,a3,YQ.trans a4,a5⟩
     .obtain ⟨_,h⟩:=aN.1 h;have h:=Px (q:=0) h;rw[bB,ea] at h;exact grow (some ad) 0 0 [] [] g 0 rfl y .nil J1 J1 (run_firstCells_some w.drew ie.size 0 ad 0 0 [] J1 J1) Z u r h
  obtain⟨e,m,fz,wh,zz,cc,p,h⟩:=O.fj.1 h;rw[ea,ea] at h;have inPlace:∀(c':Cp),Dj c' aF1 o (l+n) cap->l+n<=cap->eI i (o+l*x.sz) cs g (λh=>k (.sl i o (l+n) c') h)=true->
    ∃V v a jP w',k V a=true/\aW jP V v/\aO P C jP a w'/\Le ρ g w jP a w'/\(Builtin.append_ #[t,tx] ty #[.slice (some ⟨aF1.b,o,none⟩) l cap,xv]).run P w= .ok v w':=by
   intro c' YN hle hx;obtain⟨h',w',E,Nz,kO,hL⟩:=gO y hB hr h1 hx;exact⟨_,_,h',ρ,w',E,.sl _ _ _ cap _ aF1 hB YN hle,kO,hL,run_append_room t tx ty el ie ht g1 aF1.b o l cap xv n L uh hle (by rw[g2];exact Nz)⟩
  rcases lL.1 h with⟨kk,rfl,h⟩|⟨d,z',rfl,h⟩
  .have hck:cap=kk:=hc;subst hck;rcases bK.1 h with⟨h2,h⟩|⟨h2,h⟩
   .exact inPlace (.known cap) rfl (bh h2) h
   .have mO:cap<l+n:=by
     rcases dN cap (l+n) with M|M
     .exact M
     .have:Nat.ble (Nat.add l n) cap=true:=iJ M;rw[this] at h2;cases h2
    obtain⟨M,u,h⟩:=jy h;obtain⟨old,oN,h,ho,YJ,Dn,hoc⟩:=eu y hB h;rw[bB,ea] at h;have Dn:old.length=l*x.sz:=Dn;exact grow (some ⟨aF1.b,o,none⟩) l cap old oN g 0 rfl y ho YJ Dn (run_firstCells_some w.drew ie.size l _ l cap oN Zc Zo) mO M u h
  .obtain ⟨c1,c2,c3⟩:=hc;obtain⟨h2,h⟩:=aN.1 h;have h2:=br h2;obtain⟨cs0,fr,r1,r2,r3,r4,r5,r6,r7⟩:=lW y hB p;have hzB:aF1.z=x.sz:=by rw[←c3,h2]
   rcases bK.1 h with⟨M,h⟩|⟨M,h⟩
   .have M:o+(l+n)*x.sz<=m:=bh M;have r2:=r2 (Bn p h);have hle:l+n<=cap:=by
     have r:(d+(l+n))*x.sz<=aF1.s*x.sz:=by rw[qB,←hzB,←c2,hzB,←hzB,←r2,hzB];omega
     have:=a19 r (FN hz0);omega
    exact inPlace (.less d z') ⟨c1,c2,c3⟩ hle h
   .obtain ⟨u,r,h⟩:=jy h;rcases bK.1 h with⟨F,h⟩|⟨F,h⟩
    case inr=>
     obtain⟨hA,h⟩:=aN.1 h;obtain⟨old,oN,h,ho,YJ,Dn,hoc⟩:=eu y hB h;rw[bB,ea] at h;have Dn:old.length=l*x.sz:=Dn;by_cases hle:l+n<=cap
     .unfold HJ at hA;obtain⟨h7,hA⟩:=aN.1 hA;have h7:fz<=o+l*x.sz:=bh h7;obtain⟨h8,hA⟩:=aN.1 hA;have h8:=br h8;subst h8;have hA9:0+(o+l*x.sz)<=m:=Bo p hA;have r2:=r2 Z;have r3:=r3 Z;obtain⟨pre,WN,hA,hp0,yl,EW,hpc⟩:=eu y hB hA;rw[bB,ea] at hA;have EW:pre.length=o+l*x.sz:=EW;obtain⟨c',hA,hce⟩:=eQ hA;obtain⟨c'',hA,ad2⟩:=jI hA;obtain⟨QR,E,hn2,xm⟩:=jJ hA;have Co:=uY hr h1;have YG:o+(l+n)*x.sz<=cs0.size:=by
       rw[r2,hzB,show o=d*x.sz by rw[c2,hzB],←qB];exact nW _ Z
      have hnl:o+l*x.sz+L.length=o+(l+n)*x.sz:=by rw[DJ.newsLen,qB];omega
      obtain⟨w',lT,e1,e2,A,e4⟩:=oO (P:=P) (b:=aF1.b) (o:=o+l*x.sz) L 0 w cs0 r1 Z (λj j1 j2=>r6 j Z Z) Co;have S:cG ρ (pre++cs) (WN++L):=hp0.app hr;have a4j:∀v∈pre++cs,v.de=true:=λv H=>by rcases fJ.1 H with H|H;exact yl v H;exact h1 v H
      have hlen:(pre++cs).length=o+l*x.sz+n*x.sz:=by rw[eZ,EW,zy]
      have auy:WN.length=o+l*x.sz:=by rw[←hp0.1];exact EW
      have hm2:o+l*x.sz+n*x.sz=o+(l+n)*x.sz:=by rw[qB];omega
      have ny:fL P ρ (.row e (o+l*x.sz+n*x.sz) fz false x.cW c'') aF1 w'.heap[aF1.b]? :=by
       refine⟨lT,fr,e2.here,λ_=>by rw[A];exact r2,λ_=>r3,by rw[A,hm2];exact YG,λh=>Zn,(by rw[A];exact r6),λj hj=>?_⟩;have LM:j<(pre++cs).length:=Z;have Aq:j<(WN++L).length:=by rw[←S.1];exact LM
       have yi:=a4j _ (eL LM);refine .inr ⟨(pre++cs)[j],(WN++L)[j],jN ?_ (λhe=>D5),?_,yi,S.2 j _ _ (bT LM) (bT Aq)⟩
       .rw [ad2 j,ao Z];rw[j7,bT LM];rfl
       .rw [e4,←bT Aq];by_cases QS:j<o+l*x.sz
        .rw [aj Z,a1g Z];have hjo:j<WN.length:=Z;have:=hpc j WN[j] (bT hjo);rw[jA,cell_of r1,dz] at this;rw[this,bT hjo]
        .rw [ao Z,a1e Z];congr 1;omega
      obtain⟨kO,hL⟩:=y.put (w':=w') (h':=QR) hB P5 (.inl Vd) e2.size ny e2.other hn2 xm J1 e2.aside;refine⟨_,_,QR,ρ,w',E,.sl _ _ _ cap _ aF1 hB ⟨c1,c2,c3⟩ hle,kO,hL,?_⟩;exact run_append_room t tx ty e ie ht g1 aF1.b o l cap xv n L uh hle (by rw[g2];exact e1)
     .exact grow (some ⟨aF1.b,o,none⟩) l cap old oN g 0 rfl y ho YJ Dn (run_firstCells_some w.drew ie.size l _ l cap oN Zc Zo) Z u r h
    have F:=br F;subst F;obtain⟨h7,h⟩:=aN.1 h;have h7:fz<=0+l*x.sz:=bh h7;obtain⟨h8,h⟩:=aN.1 h;have h8:=br h8;subst h8;have h9:0+l*x.sz<=m:=Bo p h;have r2:=r2 Z;have r3:=r3 Z;obtain⟨old,oN,h,ho,YJ,Dn,hoc⟩:=eu y hB h;rw[bB,ea] at h;have Dn:old.length=l*x.sz:=Dn;obtain⟨yl,h,R,ve⟩:=jJ h;have aar:isLive (bL i g)=true:=P5;have hd0:d=0:=by
     have:d*aF1.z=0:=c2.symm;rcases Nat.mul_eq_zero.1 this with h|h
     .exact h
     .rw [hzB] at h;exact absurd h hz0
    by_cases hle:l+n<=cap
    ·
     have Co:=uY hr h1;have YG:(l+n)*x.sz<=cs0.size:=by rw[r2,hzB];exact nW _ Z
     have hnl:l*x.sz+L.length=(l+n)*x.sz:=by rw[DJ.newsLen,qB]
     obtain⟨w',lT,e1,e2,A,e4⟩:=oO (P:=P) (b:=aF1.b) (o:=l*x.sz) L 0 w cs0 r1 Z (λj j1 j2=>r6 j Z Z) Co;unfold ey at h;obtain⟨c',h,hce⟩:=eQ h;obtain⟨c'',h,ad2⟩:=jI h;obtain⟨QR,E,hn2,xm⟩:=eE h;have yj:∀j D,ρ j=some D->ext1 ρ g.nx aF1 j=some D:=λj D hj=>by unfold ext1;rw[aj (by have:=(y.pW j D hj).1;omega)];exact hj
     have S:cG ρ (old++cs) (oN++L):=ho.app hr;have a4j:∀v∈old++cs,v.de=true:=λv H=>Y5;have hlen:(old++cs).length=(l+n)*x.sz:=N7;have holds:oN.length=l*x.sz:=by rw[←ho.1];exact Dn
     have ny:fL P (ext1 ρ g.nx aF1) (.row e ((l+n)*x.sz) fz false x.cW c'') aF1 w'.heap[aF1.b]? :=by
      refine⟨lT,fr,e2.here,λ_=>by rw[A];exact r2,λ_=>r3,by rw[A];exact YG,λh=>Zn,(by rw[A];exact r6),λj hj=>?_⟩;have LM:j<(old++cs).length:=Z;have Aq:j<(oN++L).length:=by rw[←S.1];exact LM
      have yi:=a4j _ (eL LM);refine .inr ⟨(old++cs)[j],(oN++L)[j],jN ?_ (λhe=>D5),?_,yi,(S.2 j _ _ (bT LM) (bT Aq)).mono yj⟩
      .rw [ad2 j,ao Z];rw[j7,bT LM];rfl
      .rw [e4,←bT Aq];by_cases QS:j<l*x.sz
       .rw [aj Z,a1g Z];have hjo:j<oN.length:=Z;have:=hoc j oN[j] (bT hjo);rw[jA,cell_of r1,dz] at this;rw[this,bT hjo]
       .rw [ao Z,a1e Z];congr 1;omega
     obtain⟨kO,hL⟩:=y.move hB aar Vd e2.size e2.other R ve hn2 xm ny e2.aside;have E:k (.sl yl.nx 0 (l+n) (.less 0 x.sz)) QR=true:=E;rw[R] at E;refine⟨_,_,QR,_,w',E,.sl _ _ _ cap _ aF1 (by unfold ext1;rw[ao rfl]) ⟨by rw[←c1,hd0],J1,hzB.symm⟩ hle,kO,hL,?_⟩;exact run_append_room t tx ty e ie ht g1 aF1.b 0 l cap xv n L uh hle (by rw[g2,dz];exact e1)
    .have hfc:(Builtin.firstCells ie.size l (.slice (some ⟨aF1.b,0,none⟩) l cap)).run P w.drew= .ok oN.toArray w.drew:=run_firstCells_some w.drew ie.size l _ l cap oN Zc Zo;obtain⟨hK,YQ⟩:=y.kill hB aar R ve;obtain⟨V,v,a,jP,w',a1,a2,a3,a4,a5⟩:=grow (some ⟨aF1.b,0,none⟩) l cap old oN yl fz rfl hK ho YJ Dn hfc Z u r h;exact⟨V,v,a,jP,w',a1,a2,a3,YQ.trans a4,a5⟩
 .cases hs;rcases bK.1 h with⟨h2,h⟩|⟨h2,h⟩
  .have h2:=br h2;subst h2;refine⟨.au,.slice none 0 0,g,ρ,w,h,.au,y,Le.refl _ _ _,?_⟩;have aaq:L= []:=by
    have:=DJ.newsLen;rw[qp] at this;exact pk this
   rcases uh.kind with⟨e',E⟩|E<;>simp[Builtin.append_,run_underlying ht,run_underlying E,sizeOf,typeInfo,g1,uh.len,uh.cells]
  .have hn0:n≠0:=λhe=>by rw[he] at h2;cases h2
   obtain⟨M,u,h⟩:=jy h;rw[ea] at h;have h:ey el ((0+n)*x.sz) 0 x.cW ([]++cs) g (λi h=>k (.sl i 0 (0+n) (.less 0 x.sz)) h)=true:=by rw[dz];exact h
   exact grow none 0 0 [] [] g 0 rfl y .nil J1 J1 (run_firstCells_none w.drew ie.size 0 0 0) Z Z (by rw[dz];exact u) h
 .exact absurd ‹false=true› J1
def XA{o:Oper}{s x:Operand}{F:Array TypeId}(E:CtxOk P C)(L:o.op= .call {callee:=.builtin .append,args:=#[s,x],argTypes:=F}):eY T P C (xc C F.toList s x) o:=by
 have f:∀c,o.op≠ .defer c:=O4;unfold xc;split
 .rename_i m xt DI;obtain rfl:F= #[m,xt]:=uD DI;split
  .rename_i si xi hsi hxi;obtain⟨_,_,_,u1⟩:=bU E hsi;obtain⟨_,_,_,t⟩:=bU E hxi;split
   .rename_i u fW;rw[fW] at u1;split
    .rename_i ei rf;have key:∀(a:Act) (w l:World) (v:Value),(Builtin.append_ #[m,xt] o.type #[a.eval s,a.eval x]).run P w= .ok v l->(execOp a.eval o).run P w= .ok (.value v) l:=by
      intro a w l v h;obtain⟨H,A⟩:=gN (P:=P) (a:=a) (w:=w) L;rw[A];simp[builtin,h]
     dsimp only
     split
     .exact .bad
     .rename_i d1 d2 e' hxd hz;rw[hxd] at t;intro rt r e h k ρ a w _ S R y;obtain⟨n,H,news,S,d,A,DJ⟩:=Bf y (aJ R x) t S;obtain⟨V,v,tV,q,l,a1,a2,a3,M,a5⟩:=Dc (ty:=o.type) E rf (λb=>hz b) u1 y (aJ R s) d A DJ S;exact fS.value f (key a w l v a5) ⟨V,tV,q,a1,a2,a3,M⟩
     .rename_i d1 d2 kk hxd hz;rw[hxd] at t;obtain⟨ie,g1,g2,g2b,g3,z,g4,_,g,p,g7,_⟩:=E.ty u ei rf;intro rt r e h k ρ a w _ S R y;have hzs:z.cells.size=ei.sz:=by have:=(g ρ).1;rw[g7] at this;simpa using this.symm
      obtain⟨kd,n,hn,S⟩:=gL (aJ R x) S;rcases V.dZ.1 S with⟨_,_,_,_,_,S⟩|⟨hs,S⟩|⟨_,S⟩
      .exact absurd S J1
      .have hsv:a.eval s= .slice none 0 0:=by
        have d:=aJ R s;rw[hs] at d;generalize a.eval s=vs at *;cases d;rfl
       rcases bK.1 S with⟨h2,S⟩|⟨h2,S⟩
       .have h2:=br h2;subst h2;refine fS.value f (key a w w (.slice none 0 0) ?_) (iG.same S .au y rfl);have w0:IntKind.i64.wrap 0=0:=rfl;simp[Builtin.append_,aU u1,aU t,hsv,hn,df g1,asInt,asIntOf,w0,Bj g1]
       .have hn0:n≠0:=λb=>by rw[b] at h2;cases h2
        obtain⟨h3,h4,S⟩:=jy S;rw[ea] at S;have wn:IntKind.i64.wrap (n:Int)=n:=mr N3;have YM:=grownCap_ge w n 0 u;have lx:(Builtin.append_ #[m,xt] o.type #[a.eval s,a.eval x]).run P w= .ok (.slice (some ⟨w.heap.size,0,none⟩) n (grownCap w n 0 u)) (w.drew.alloc (.cells (Builtin.zeroCells z.cells n++Builtin.zeroCells z.cells (grownCap w n 0 u-n)) u)):=by
         have e1:¬((n:Int)<0):=Z;have e2:¬((281474976710656:Int)<(n:Int)*(ei.bytes:Int)):=by have:((n*ei.bytes:Nat):Int)<=((140737488355328:Nat):Int):=Int.ofNat_le.2 h4;rw[Int.natCast_mul] at this;omega
         have e3:¬((9223372036854775807:Int)<(n:Int)):=Z;have e4:¬(281474976710656<Builtin.nextslicecap n 0*ei.bytes):=by have:=growslice_fits (old:=0) (need:=n) (bytes:=ei.bytes) Z h4;omega
         have e5:n*ie.size≠0:=by rw[g2];exact Nat.mul_ne_zero hn0 (λb=>hz b)
         simp[Builtin.append_,aU u1,aU t,hsv,hn,df g1,asInt,asIntOf,wn,Bj g1,g2b,e1,e2,e3,e4,e5,hn0,Question.forced,sh g1 g4,newRow,grownCap,Builtin.firstCells]
        generalize hN:grownCap w n 0 u=N at lx YM;have S:dh h ei.cW (n*ei.sz) (λc=>fH (.row u (n*ei.sz) 0 false ei.cW c) h (λi h=>k (.sl i 0 n (.less 0 ei.sz)) h))=true:=S;have hzp:0<z.cells.size:=by rw[hzs];exact FN (λb=>hz b)
        obtain⟨tV,hk,kO,hL⟩:=Pz (w:=w.drew) (w':=w.drew.alloc (.cells (Builtin.zeroCells z.cells n++Builtin.zeroCells z.cells (N-n)) u)) (s:=N) (z:=ei.sz) (y.world (w':=w.drew) rfl) (g ρ) p X2
         (by rw[g7];exact FN (λb=>hz b)) (by rw[Array.size_append,jk,jk,hzs,←qB];congr 1;omega) (by rw[Array.size_append,jk,hzs];omega)
         (λj hj=>by
          have Ut:j<n*z.cells.size:=by rw[hzs];exact hj
          have mO:j%z.cells.size<z.cells.size:=ke _ hzp;rw[a1j (by rw[jk];exact Ut),show z.cells.toList.length=z.cells.size by simp,jq,mL mO];unfold Builtin.zeroCells;rw[Array.getElem?_map,Array.getElem?_range,ao Ut];simp[mO]) rfl S
        exact fS.value f (key a w _ _ lx) ⟨_,tV,_,hk,.sl _ _ _ N _ ⟨w.heap.size,N,ei.sz⟩ Ji ⟨J1,J1,rfl⟩ YM,kO,(Le.world (w:=w) (w':=w.drew) rfl).trans hL⟩
      .exact absurd S J1
     .have hz:ei.sz=1:=by assumption
      have hxd:xi.desc= .string:=by assumption
      rw[hxd] at t;intro rt r e h k ρ a w _ S R y;obtain⟨n,H,news,S,d,A,DJ⟩:=Dt (w:=w) (aJ R x) t S;obtain⟨V,v,tV,q,l,a1,a2,a3,M,a5⟩:=Dc (ty:=o.type) E rf (by rw[hz];simp) u1 y (aJ R s) d A (by rw[hz];exact DJ) S;exact fS.value f (key a w l v a5) ⟨V,tV,q,a1,a2,a3,M⟩
     .exact .bad
    .exact .bad
   .exact .bad
  .exact .bad
 .exact .bad
end
end Go.Ev
