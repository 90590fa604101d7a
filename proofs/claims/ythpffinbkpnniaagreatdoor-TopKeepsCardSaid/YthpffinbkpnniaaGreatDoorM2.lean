import Derived.Test.YthpffinbkpnniaaGreatDoorM1
set_option linter.all false
set_option maxRecDepth 100000
namespace Go.Ev
variable{h:Heap}{i j m t:Nat}{f:av}{zs:ay}
def Gl{n:Nat}(h:16<=n):mE n=a20:=by obtain⟨m,rfl⟩:∃m,n=m+16:=⟨n-16,Z⟩;trivial
def ea(n:Nat)(k:bs):gy n k=k n:=rfl
def Cj(b x y:Bool):aR b x y=if b then x else y:=B9
def bK{b x y:Bool}:aR b x y=true↔(b=true/\x=true)\/(b=false/\y=true):=by cases b<;>simp[aR]
def aN{b x:Bool}:aR b x false=true↔b=true/\x=true:=by cases b<;>simp[aR]
def XT{P:dF}(h0:P 0)(A:P 1)(N:P 2)(M:P 3)(u:P 4)(r:P 5)(F:P 6)(y:P 7)(j:P 8)(d:P 9)(b:P 10)(p:P 11)(a:P 12)(l:P 13)(S:P 14)(c:P 15):
  ∀n,n<16->P n
 |0,_=>h0|1,_=>A|2,_=>N|3,_=>M|4,_=>u|5,_=>r|6,_=>F|7,_=>y|8,_=>j|9,_=>d|10,_=>b|11,_=>p|12,_=>a|13,_=>l|14,_=>S|15,_=>c
 |n+16,h=>Z
def vX{α:Type}{n:Nat}{v:α}{s:dj α}{k:dj α->Bool}(h:(mE n).put α v s k=true):
  n<16/\∃s',k s'=true/\∀d m,m<16->(mE m).get α d s'=if m=n then v else(mE m).get α d s:=by
 rcases dN n 16 with g|g
 .refine ⟨g,?_⟩;have key:∀n,n<16->(mE n).put α v s k=true->∃s',k s'=true/\∀d m,m<16->(mE m).get α d s'=if m=n then v else(mE m).get α d s:=by
   refine XT ?_ ?_ ?_ ?_ ?_ ?_ ?_ ?_ ?_ ?_ ?_ ?_ ?_ ?_ ?_ ?_<;>(intro h;refine⟨_,h,?_⟩;intro d;refine XT ?_ ?_ ?_ ?_ ?_ ?_ ?_ ?_ ?_ ?_ ?_ ?_ ?_ ?_ ?_ ?_<;>rfl)
  grind
 .rw [Gl g] at h;trivial
def wU(n:Nat):d0 n<16:=ke _ I
def UN(n:Nat):d1 n<16:=ke _ I
def arn{n:Nat}(R:m<256)(hn:n<256):(d0 m=d0 n/\d1 m=d1 n)↔m=n:=by show(m%16=n%16/\m/16%16=n/16%16)↔m=n;omega
def Pm{α:Type}{n:Nat}{v:α}{s:dj (dj α)}{k:dj (dj α)->Bool}(h:(p2 n).put α v s k=true):
  ∃s',k s'=true/\∀d m,(p2 m).get α d s'=if d0 m=d0 n/\d1 m=d1 n then v else(p2 m).get α d s:=by
 obtain⟨_,b,c,p⟩:=vX (n:=d0 n) h;obtain⟨_,s',E,M⟩:=vX (n:=d1 n) c;refine⟨s',E,λd m=>?_⟩;show(mE (d0 m)).get α d ((mE (d1 m)).get (dj α) (bY α d) s')=_;rw[M _ _ (UN m)];by_cases A:d1 m=d1 n
 .rw [ao A,p _ _ (wU m)];by_cases a:d0 m=d0 n
  .grind
  .simp only[a,A,if_false,false_and];show _=(mE (d0 m)).get α d ((mE (d1 m)).get (dj α) (bY α d) s);rw[A];have:∀x y:dj α,(mE (d1 n)).get (dj α) x s=(mE (d1 n)).get (dj α) y s:=by
    intro x y;have key:∀q,q<16->(mE q).get (dj α) x s=(mE q).get (dj α) y s:=by refine XT ?_ ?_ ?_ ?_ ?_ ?_ ?_ ?_ ?_ ?_ ?_ ?_ ?_ ?_ ?_ ?_<;>rfl
    exact W
   grind
 .simp only[A,if_false,and_false];rfl
def cond_true{α:Type 1}{b:Bool}{x y:α}(h:b=true):cond b x y=x:=W
def cond_false{α:Type 1}{b:Bool}{x y:α}(h:b=false):cond b x y=y:=W
def lK{n:Nat}(h:n<256):oL n=p2 n:=cond_true (iJ h)
def nH{n:Nat}(h:256<=n):oL n=a9W:=cond_false (by cases s:Nat.blt n 256 with|false=>rfl|true=>exact absurd (bh s) Z)
def tq{α:Type}{n:Nat}{v:α}{s:dj (dj α)}{k:dj (dj α)->Bool}(h:(oL n).put α v s k=true):
  n<256/\∃s',k s'=true/\∀d m,(oL m).get α d s'=if m=n then v else(oL m).get α d s:=by
 rcases dN n 256 with g|g
 .rw [lK g] at h;obtain⟨s',E,M⟩:=Pm h;refine⟨g,s',E,λd m=>?_⟩;rcases dN m 256 with R|R
  .rw [lK R,M];simp only[arn R g]
  .rw [nH R,aj Z];rfl
 .rw [nH g] at h;trivial
def Cy{v:V}{e:Env}{k:Env->Bool}(h:(ep t).put v e k=true):
  ∃e',k e'=true/\∀u,(eg u).get e'=if u=t then v else(eg u).get e:=by
 obtain⟨_,e',E,b⟩:=tq (α:=V) h;exact⟨e',E,λu=>b V.undef u⟩
def nF{α:Type}{x d:α}{n:Nat}(h:n<16):(mE n).get α d (bY α x)=x:=by
 have key:∀n,n<16->(mE n).get α d (bY α x)=x:=by refine XT ?_ ?_ ?_ ?_ ?_ ?_ ?_ ?_ ?_ ?_ ?_ ?_ ?_ ?_ ?_ ?_<;>rfl
 grind
def Gw{α:Type}{x d:α}{n:Nat}:(p2 n).get α d (bY _ (bY α x))=x:=by show(mE (d0 n)).get α d ((mE (d1 n)).get (dj α) (bY α d) (bY _ (bY α x)))=x;rw[nF (UN n),nF (wU n)]
def a8Z(t:Nat):(eg t).get DN= .undef:=by
 show(oL t).get V .undef DN= .undef;rcases dN t 256 with h|h
 .rw [lK h];exact Gw
 .rw [nH h];rfl
def qH{o:O}:bw f i o j=if j=i then o else f j:=by
 unfold bw;by_cases h:j=i
 .subst h;rw[ao rfl,fP];rfl
 .rw [aj h];cases s:Nat.beq j i with
  |false=>rfl
  |true=>exact absurd (br s) h
def Cn{n:Nat}{o:O}{t:dj (dj (dj (dj O)))}{k:dj (dj (dj (dj O)))->Bool}(g:(hp i).put o t k=true):
  ∃a,k a=true/\∀j,bL j (.tr a n)=if j=i then o else bL j (.tr t n):=by
 change (p2 i).put O o ((oL (Nat.div i 256)).get (dj (dj O)) (bY _ (bY _ .dead)) t) (λb=>(oL (Nat.div i 256)).put (dj (dj O)) b t k)=true at g;obtain⟨b,s,p⟩:=Pm g;obtain⟨F,a,E,c⟩:=tq s;refine⟨a,E,λj=>?_⟩;show(p2 j).get O .dead ((oL (Nat.div j 256)).get (dj (dj O)) (bY _ (bY _ .dead)) a)=if j=i then o else(p2 j).get O .dead ((oL (Nat.div j 256)).get (dj (dj O)) (bY _ (bY _ .dead)) t)
 rw[c];by_cases f:Nat.div j 256=Nat.div i 256
 .rw [ao f,p,f];have:(d0 j=d0 i/\d1 j=d1 i)↔j=i:=by
   have f:j/256=i/256:=f;show(j%16=i%16/\j/16%16=i/16%16)↔j=i;omega
  grind
 grind
def jJ{o:O}{k:Heap->Bool}(g:eX i o h k=true):
  ∃h',k h'=true/\h'.nx=h.nx/\∀j,bL j h'=if j=i then o else bL j h:=by
 cases h with
 |fn f n=>exact⟨.fn (bw f i o) n,g,rfl,λj=>qH⟩
 |tr t n=>obtain⟨a,E,p⟩:=Cn (n:=n) (k:=λt=>k (.tr t n)) g;exact⟨.tr a n,E,rfl,p⟩
def eE{o:O}{k:Nat->Heap->Bool}(g:fH o h k=true):
  ∃h',k h.nx h'=true/\h'.nx=h.nx+1/\∀j,bL j h'=if j=h.nx then o else bL j h:=by
 cases h with
 |fn f n=>exact⟨.fn (bw f n o) (n+1),g,rfl,λj=>qH⟩
 |tr t n=>
 obtain⟨a,E,p⟩:=Cn (n:=n) (k:=λt=>k n (.tr t (n+1))) g;exact⟨.tr a (n+1),E,rfl,p⟩
def a2y{c:Cells}{v:V}{k:Cells->Bool}(h:Cells.put c i v k=true):
  ∃L,k L=true/\∀j,Cells.get L j=if j=i then v else Cells.get c j:=by
 cases c with
 |c1 s=>
  change (mE i).put V v s (λs=>k (.c1 s))=true at h;obtain⟨F,o,E,M⟩:=vX h;refine⟨_,E,λj=>?_⟩;show(mE j).get V .undef o=if j=i then v else(mE j).get V .undef s
  rcases dN j 16 with z|z
  .grind
  .rw [Gl z,aj Z];rfl
 |c2 s=>change (oL i).put V v s (λs=>k (.c2 s))=true at h;obtain⟨F,o,E,M⟩:=tq h;exact⟨_,E,λj=>M V.undef j⟩
 |c3 s=>
  change (mE (d0 i)).put V v ((oL (Nat.div i 16)).get (dj V) (bY V .undef) s) (λb=>(oL (Nat.div i 16)).put (dj V) b s (λs=>k (.c3 s)))=true at h;obtain⟨_,b,d,p⟩:=vX h;obtain⟨F,o,E,M⟩:=tq d;refine⟨_,E,λj=>?_⟩;show(mE (d0 j)).get V .undef ((oL (Nat.div j 16)).get (dj V) (bY V .undef) o)=if j=i then v else(mE (d0 j)).get V .undef ((oL (Nat.div j 16)).get (dj V) (bY V .undef) s)
  rw[M];by_cases a:Nat.div j 16=Nat.div i 16
  .rw [ao a,p _ _ (wU j),a];have:d0 j=d0 i↔j=i:=by
    have a:j/16=i/16:=a;show j%16=i%16↔j=i;omega
   grind
  grind
 |cf f=>
  refine⟨_,h,λj=>?_⟩;show cond (Nat.beq j i) v (f j)=_;by_cases z:j=i
  .subst z;rw[ao rfl,fP];rfl
  .rw [aj z];cases d:Nat.beq j i with
   |false=>rfl
   |true=>exact absurd (br d) z
 |c4 s=>
  change (p2 i).put V v ((oL (Nat.div i 256)).get (dj (dj V)) (bY _ (bY _ .undef)) s) (λb=>(oL (Nat.div i 256)).put (dj (dj V)) b s (λs=>k (.c4 s)))=true at h;obtain⟨b,d,p⟩:=Pm h;obtain⟨F,o,E,M⟩:=tq d;refine⟨_,E,λj=>?_⟩;show(p2 j).get V .undef ((oL (Nat.div j 256)).get (dj (dj V)) (bY _ (bY _ .undef)) o)=if j=i then v else(p2 j).get V .undef ((oL (Nat.div j 256)).get (dj (dj V)) (bY _ (bY _ .undef)) s)
  rw[M];by_cases a:Nat.div j 256=Nat.div i 256
  .rw [ao a,p,a];have:(d0 j=d0 i/\d1 j=d1 i)↔j=i:=by
    have a:j/256=i/256:=a;show(j%16=i%16/\j/16%16=i/16%16)↔j=i;omega
   grind
  grind
def vk(zs:ay)(c:Cells):Prop:=∀j,Cells.get c j= .undef\/zs[j%zs.length]? =some (Cells.get c j)
def Gv{α:Type}{x:α}{n:Nat}:(oL n).get α x (bY _ (bY α x))=x:=by
 rcases dN n 256 with h|h
 .rw [lK h];exact Gw
 .rw [nH h];rfl
def eQ{g:Heap}{n:Nat}{k:Cells->Bool}(h:dh g zs n k=true):∃c,k c=true/\vk zs c:=by
 cases g with
 |fn f m=>refine⟨_,h,λj=>?_⟩;show zf zs j= .undef\/zs[j%zs.length]? =some (zf zs j);unfold zf;show(zs[j%zs.length]?).getD .undef= .undef\/zs[j%zs.length]? =some ((zs[j%zs.length]?).getD .undef);grind
 |tr t m=>
 change (aR (Nat.ble n 16) (k c1e) (aR (Nat.ble n 256) (k c2e) (aR (Nat.ble n 4096) (k c3e) (aR (Nat.ble n 65536) (k c4e) false))))=true at h;simp only[bK] at h;rcases h with⟨_,h⟩|⟨_,⟨_,h⟩|⟨_,⟨_,h⟩|⟨_,⟨_,h⟩|⟨_,h⟩⟩⟩⟩
 .refine ⟨_,h,λj=>.inl ?_⟩;show(mE j).get V .undef (bY V .undef)= .undef;rcases dN j 16 with z|z
  .exact nF z
  .rw [Gl z];rfl
 .exact ⟨_,h,λj=>.inl Gv⟩
 .refine ⟨_,h,λj=>.inl ?_⟩;show(mE (d0 j)).get V .undef ((oL (Nat.div j 16)).get (dj V) (bY V .undef) (bY _ (bY _ (bY V .undef))))= .undef;rw[Gv,nF (wU j)]
 .refine ⟨_,h,λj=>.inl ?_⟩;show(p2 j).get V .undef ((oL (Nat.div j 256)).get (dj (dj V)) (bY _ (bY _ .undef)) (bY _ (bY _ (bY _ (bY V .undef)))))= .undef;rw[Gv,Gw]
 trivial
def ga{α C:Type}(n:C)(c:α->List α->C->C)(x:α)(r:List α):cE n c (x::r)=c x r (cE n c r):=rfl
def dx{α:Type}(l:List α):eK l=l.length:=by
 induction l with
 |nil=>rfl
 |cons x r H=>show Nat.succ (eK r)=_;grind
def bB{α:Type}(a b:List α)(k:List α->Bool):bQ a b k=k (a++b):=by
 induction a generalizing k with
 |nil=>rfl
 |cons x r H=>show bQ r b (λt=>k (x::t))=_;grind
def yN{α:Type}{l:List α}{z:Bool}{k:α->List α->Bool}:ek l z k=true↔(l= []/\z=true)\/∃x t,l=x::t/\k x t=true:=by
 cases l with
 |nil=>simp[ek]
 |cons x t=>
  constructor
  .exact λh=>.inr ⟨x,t,rfl,h⟩
  .rintro (⟨h,_⟩|⟨y,u,h,E⟩)
   .cases h
   .cases h;trivial
def nJ{α:Type}{l:List α}{n:Nat}{k:α->Bool}(h:jZ l n k=true):∃x,l[n]? =some x/\k x=true:=by
 induction l generalizing n with
 |nil=>trivial
 |cons x r H=>
  change aR (Nat.beq n 0) (k x) (jZ r (Nat.sub n 1) k)=true at h;rcases bK.1 h with⟨s,A⟩|⟨s,A⟩
  .have:n=0:=br s;grind
  .obtain ⟨m,rfl⟩:∃m,n=m+1:=by
    cases n with
    |zero=>trivial
    |succ m=>grind
   grind
def qJ{α:Type}{n:Nat}{l:List α}{k:List α->Bool}(h:iE n l k=true):n<=l.length/\k (l.take n)=true:=by
 induction n generalizing l k with
 |zero=>exact⟨Z,h⟩
 |succ n H=>
  change ek l false (λx t=>iE n t (λp=>k (x::p)))=true at h;rcases yN.1 h with⟨_,h⟩|⟨x,t,rfl,h⟩
  .trivial
  grind
def vq{α:Type}{n:Nat}{l:List α}{k:List α->Bool}(h:eR n l k=true):n<=l.length/\k (l.drop n)=true:=by
 induction n generalizing l k with
 |zero=>exact⟨Z,h⟩
 |succ n H=>
  cases l with
  |nil=>trivial
  |cons x t=>change eR n t k=true at h;grind
def jI{l:ay}{c:Cells}{k:Cells->Bool}(h:lq l i c k=true):
  ∃L,k L=true/\∀j,Cells.get L j=if i<=j/\j<i+l.length then(l[j-i]?).getD .undef else Cells.get c j:=by
 induction l generalizing i c k with
 |nil=>exact⟨c,h,λj=>W⟩
 |cons v r H=>change Cells.put c i v (λc=>lq r (i+1) c k)=true at h;obtain⟨a,d,b⟩:=a2y h;grind
def jK{n:Int}{k l:bs}:rT n k l=true↔(∃m:Nat,n=(m:Int)/\k m=true)\/∃m,n= .negSucc m/\l m=true:=by
 cases n with
 |ofNat m=>show k m=true↔_;grind
 |negSucc m=>show l m=true↔_;grind
end Go.Ev
namespace Go.Ev.Sy
open Go Go.Ev
variable{i n':Nat}{N:V}
@[congr] theorem afR{v:V}(k:Bool->Bool)(H:v=N):V.ja v k=V.ja N k:=M9
@[go_sem]theorem a9Y(b:Bool)(k:Bool->Bool):V.ja (.bool b) k=k b:=(rfl)
@[go_sem]theorem a30(p:IntKind)(x:Int)(q:IntKind->Int->Bool):V.ec (.ik p x) q=q p x:=(rfl)
@[go_sem]theorem WV(i o:Nat)(q:Nat->bs):V.dW (.ptr i o) q=q i o:=(rfl)
@[go_sem]theorem a2Y(i o:Nat)(q:Nat->bs)(l:Nat->bs):V.sw (.ptr i o) q l=q i o:=(rfl)
@[go_sem]theorem WW(g o:Nat)(q:Nat->bs)(l:Nat->bs):V.sw (.iP g o) q l=l g o:=(rfl)
@[go_sem]theorem a7F(i o n:Nat)(c:Cp)(q:Nat->Nat->Nat->Cp->Bool):V.BE (.sl i o n c) q=q i o n c:=(rfl)
@[congr] theorem amN{v:V}(q:Nat->ay->ay->Bool)(l:bs)(H:v=N):V.sx v q l=V.sx N q l:=M9
@[go_sem]theorem al1(f:Nat)(i a)(q:Nat->ay->ay->Bool)(l:bs):V.sx (.fn f i a) q l=q f i a:=(rfl)
@[congr] theorem akl{v:V}(q:ay->Bool)(H:v=N):V.dY v q=V.dY N q:=M9
@[go_sem]theorem Ey(cs)(q:ay->Bool):V.dY (.agg cs) q=q cs:=(rfl)
@[congr] theorem akj{v:V}(q:ay->Bool)(H:v=N):V.kD v q=V.kD N q:=M9
@[go_sem]theorem aeT(cs)(q:ay->Bool):V.kD (.cI cs) q=q cs:=(rfl)
@[go_sem]theorem Pw(i o:Nat)(q:aY):V.oq (.ptr i o) q=q (.ptr i o):=(rfl)
@[go_sem]theorem KH(g o:Nat)(q:aY):V.oq (.iP g o) q=q (.iP g o):=(rfl)
@[go_sem]theorem XD(f:Nat)(i l)(q:aY):V.oq (.fn f i l) q=q (.fn f i l):=(rfl)
@[congr] theorem amO{v:V}(q:aY)(H:v=N):V.live v q=V.live N q:=M9
@[go_sem]theorem XY(b:Bool)(q:aY):V.live (.bool b) q=q (.bool b):=(rfl)
@[go_sem]theorem a86(p:IntKind)(x:Int)(q:aY):V.live (.ik p x) q=q (.ik p x):=(rfl)
@[go_sem]theorem a3A(s)(q:aY):V.live (.str s) q=q (.str s):=(rfl)
@[go_sem]theorem XV (q:aY):V.live .bg q=q .bg:=(rfl)
@[go_sem]theorem a3B(i o:Nat)(q:aY):V.live (.ptr i o) q=q (.ptr i o):=(rfl)
@[go_sem]theorem XX(g o:Nat)(q:aY):V.live (.iP g o) q=q (.iP g o):=(rfl)
@[go_sem]theorem XU (q:aY):V.live .au q=q .au:=(rfl)
@[go_sem]theorem a85(i o n:Nat)(c:Cp)(q:aY):V.live (.sl i o n c) q=q (.sl i o n c):=(rfl)
@[go_sem]theorem a3D (q:aY):V.live .z8 q=q .z8:=(rfl)
@[go_sem]theorem XW (q:aY):V.live .fR q=q .fR:=(rfl)
@[go_sem]theorem a3C(i:Nat)(q:aY):V.live (.map i) q=q (.map i):=(rfl)
@[go_sem]theorem a8a(f:Nat)(i l)(q:aY):V.live (.fn f i l) q=q (.fn f i l):=(rfl)
@[go_sem]theorem PO(i:Nat)(q:aY):V.live (.yield i) q=q (.yield i):=(rfl)
@[go_sem]theorem af6 (q:aY):V.live .fN q=q .fN:=(rfl)
@[go_sem]theorem ahw(cs)(q:aY):V.live (.agg cs) q=q (.agg cs):=(rfl)
@[go_sem]theorem a3z(cs)(q:aY):V.live (.cI cs) q=q (.cI cs):=(rfl)
@[go_sem]theorem Ln(b:Bool)(q:aY)(d:Bool):V.bt (.bool b) q d=q (.bool b):=(rfl)
@[go_sem]theorem Ym(p:IntKind)(x:Int)(q:aY)(d:Bool):V.bt (.ik p x) q d=q (.ik p x):=(rfl)
@[go_sem]theorem acx(s)(q:aY)(d:Bool):V.bt (.str s) q d=q (.str s):=(rfl)
@[go_sem]theorem PU(i o:Nat)(q:aY)(d:Bool):V.bt (.ptr i o) q d=q (.ptr i o):=(rfl)
@[go_sem]theorem Lm (q:aY) (d:Bool):V.bt .au q d=q .au:=(rfl)
@[go_sem]theorem XZ(i o n:Nat)(c:Cp)(q:aY)(d:Bool):V.bt (.sl i o n c) q d=q (.sl i o n c):=(rfl)
@[go_sem]theorem acy(i:Nat)(q:aY)(d:Bool):V.bt (.map i) q d=q (.map i):=(rfl)
@[go_sem]theorem af7(f:Nat)(i l)(q:aY)(d:Bool):V.bt (.fn f i l) q d=q (.fn f i l):=(rfl)
@[go_sem]theorem aa5 (q:aY) (d:Bool):V.bt .fN q d=q .fN:=(rfl)
@[go_sem]theorem a2W(b:Bool)(q:aY):V.one (.bool b) q=q (.bool b):=(rfl)
@[go_sem]theorem abS(p:IntKind)(x:Int)(q:aY):V.one (.ik p x) q=q (.ik p x):=(rfl)
@[go_sem]theorem akW(s)(q:aY):V.one (.str s) q=q (.str s):=(rfl)
@[go_sem]theorem a2V (q:aY):V.one .bg q=q .bg:=(rfl)
@[go_sem]theorem a7D(i o:Nat)(q:aY):V.one (.ptr i o) q=q (.ptr i o):=(rfl)
@[go_sem]theorem a2U (q:aY):V.one .au q=q .au:=(rfl)
@[go_sem]theorem abR(i o n:Nat)(c:Cp)(q:aY):V.one (.sl i o n c) q=q (.sl i o n c):=(rfl)
@[go_sem]theorem a7E(i:Nat)(q:aY):V.one (.map i) q=q (.map i):=(rfl)
@[go_sem]theorem anW(f:Nat)(i l)(q:aY):V.one (.fn f i l) q=q (.fn f i l):=(rfl)
@[congr] theorem afS{v:V}(q:Bool->Bool)(H:v=N):V.cq v q=V.cq N q:=M9
@[go_sem]theorem aa2 (q:Bool->Bool):V.cq .bg q=q true:=(rfl)
@[go_sem]theorem ac8(i o:Nat)(q:Bool->Bool):V.cq (.ptr i o) q=q false:=(rfl)
@[congr] theorem akm{v:V}(q:Bool->Bool)(H:v=N):V.ot v q=V.ot N q:=M9
@[go_sem]theorem ac7 (q:Bool->Bool):V.ot .au q=q true:=(rfl)
@[go_sem]theorem ahj(i o n:Nat)(c:Cp)(q:Bool->Bool):V.ot (.sl i o n c) q=q false:=(rfl)
@[congr] theorem afT{v:V}(q:Bool->Bool)(H:v=N):V.il v q=V.il N q:=M9
@[go_sem]theorem ac9(i:Nat)(q:Bool->Bool):V.il (.map i) q=q false:=(rfl)
@[congr] theorem akk{v:V}(q:bs)(z:Bool)(H:v=N):V.cH v q z=V.cH N q z:=M9
@[go_sem]theorem aeU(i:Nat)(q:bs)(z:Bool):V.cH (.map i) q z=q i:=(rfl)
@[go_sem]theorem jt(i o n:Nat)(c:Cp)(q:Nat->Nat->Nat->Cp->Bool)(z:Bool)(y:Bool):V.cK (.sl i o n c) q z y=q i o n c:=(rfl)
@[go_sem]theorem vU (q:Nat->Nat->Nat->Cp->Bool) (z:Bool) (y:Bool):V.cK .au q z y=z:=(rfl)
@[go_sem]theorem a9Q (q:Nat->Nat->Nat->Cp->Bool) (z:Bool) (y:Bool):V.cK .z8 q z y=y:=(rfl)
@[congr] theorem afU{v:V}(q:Bool->Bool)(d:Bool)(H:v=N):V.kZ v q d=V.kZ N q d:=M9
@[go_sem]theorem aal(b:Bool)(q:Bool->Bool)(d:Bool):V.kZ (.bool b) q d=q b:=(rfl)
@[go_sem]theorem acJ(cs)(q:Bool->Bool)(d:Bool):V.kZ (.cI cs) q d=d:=(rfl)
@[congr] theorem akn{v:V}(q:Bool->Bool)(H:v=N):V.guard v q=V.guard N q:=M9
@[go_sem]theorem adb(b:Bool)(q:Bool->Bool):V.guard (.bool b) q=q b:=(rfl)
@[go_sem]theorem Sf(b:Bool)(q:ay->Bool):V.cells (.bool b) q=q [(.bool b)]:=(rfl)
@[go_sem]theorem a5j(p:IntKind)(x:Int)(q:ay->Bool):V.cells (.ik p x) q=q [(.ik p x)]:=(rfl)
@[go_sem]theorem afL(s)(q:ay->Bool):V.cells (.str s) q=q [(.str s)]:=(rfl)
@[go_sem]theorem Se (q:ay->Bool):V.cells .bg q=q [.bg]:=(rfl)
@[go_sem]theorem a08(i o:Nat)(q:ay->Bool):V.cells (.ptr i o) q=q [(.ptr i o)]:=(rfl)
@[go_sem]theorem RZ (q:ay->Bool):V.cells .au q=q [.au]:=(rfl)
@[go_sem]theorem a5i(i o n:Nat)(c:Cp)(q:ay->Bool):V.cells (.sl i o n c) q=q [(.sl i o n c)]:=(rfl)
@[go_sem]theorem afM(i:Nat)(q:ay->Bool):V.cells (.map i) q=q [(.map i)]:=(rfl)
@[go_sem]theorem afN(cs)(q:ay->Bool):V.cells (.agg cs) q=q cs:=(rfl)
@[go_sem]theorem al4(zB n fz:Nat)(a:Bool)(z c)(q:Nat->Nat->Nat->Bool->ay->Cells->Bool):O.eO (.row zB n fz a z c) q=q zB n fz a z c:=(rfl)
@[congr] theorem aks{v N:O}(q:List (V×V×Nat)->bs)(H:v=N):O.cH v q=O.cH N q:=M9
@[go_sem]theorem Ag(l:List (V×V×Nat))(a:Nat)(q:List (V×V×Nat)->bs):O.cH (.map l a) q=q l a:=(rfl)
@[go_sem]theorem ahc(st:LoopState)(gJ:Option X)(fn:Nat)(e ps)(F a:Code)(ds:Nat)(q:LoopState->Option X->Nat->Env->aI->Code->Code->bs):O.i0 (.loop st gJ fn e ps F a ds) q=q st gJ fn e ps F a ds:=(rfl)
@[congr] theorem afY{v N:O}(q:Option (List D)->Bool)(H:v=N):O.qR v q=O.qR N q:=M9
@[go_sem]theorem ahd(c:Option (List D))(q:Option (List D)->Bool):O.qR (.sJ c) q=q c:=(rfl)
@[go_sem ↓]def SB(i:Nat)(q d:Bool):X.block (.exit i) i q d=q:=by show cond (Nat.beq i i) q d=q;rw[fP];rfl
@[go_sem ↓]def a5A{b:Nat}(h:i≠b)(q d:Bool):X.block (.exit i) b q d=d:=by
 show cond (Nat.beq i b) q d=d;cases s:Nat.beq i b with
 |false=>rfl
 |true=>exact absurd (br s) h
@[go_sem ↓]theorem a6c(q:Bool):LS.tH .ready q=q:=(rfl)
@[go_sem ↓]theorem a6b(q:Bool):LS.tw .ready q=q:=(rfl)
@[go_sem]theorem abV{α:Type}(z:Bool)(k:α->List α->Bool):ek [] z k=z:=(rfl)
@[go_sem]theorem abU{α:Type}(z:Bool)(k:α->Bool):jv none z k=z:=(rfl)
@[go_sem]theorem abT{α:Type}(x:α)(z:Bool)(k:α->Bool):jv (some x) z k=k x:=(rfl)
@[go_sem]theorem abW(n:Nat)(k:bs)(l:Nat->bs):mN (.known n) k l=k n:=(rfl)
@[go_sem]theorem aeW(n z:Nat)(k:bs)(l:Nat->bs):mN (.less n z) k l=l n z:=(rfl)
@[go_sem ↓]theorem LY(n:Nat)(k:bs):gy n k=k n:=(rfl)
@[go_sem ↓]def ajf{α:Type}(a b:List α)(k:List α->Bool):bQ a b k=k (a++b):=bB a b k
@[go_sem]def aoD{α:Type}(l:List α):eK l=l.length:=dx l
@[congr] theorem ao5{α:Type}{l g:List α}{n:Nat}(k:α->Bool)(h:l=g)(hn:n=n'):jZ l n k=jZ g n' k:=by rw[h,hn]
def a7Q{α:Type}(l:List α)(n:Nat)(k:α->Bool):jZ l n k=match l[n]? with|some x=>k x|none=>false:=by
 induction l generalizing n with
 |nil=>rfl
 |cons x r H=>
  show aR (Nat.beq n 0) (k x) (jZ r (Nat.sub n 1) k)=_;cases n with
  |zero=>rfl
  |succ n=>exact H n
def sy{α:Type}{l:List α}{n:Nat}{x:α}(h:l[n]? =some x)(k:α->Bool):jZ l n k=k x:=by rw[a7Q,h]
@[go_sem ↓]theorem aeY{α:Type}(x:α)(l:List α)(k:α->Bool):jZ (x::l) 0 k=k x:=(rfl)
@[go_sem ↓]theorem aeZ{α:Type}(x:α)(l:List α)(n:Nat)(k:α->Bool):jZ (x::l) (n+1) k=jZ l n k:=(rfl)
def JG{α:Type}{n:Nat}{l:List α}(h:n<=l.length)(k:List α->Bool):iE n l k=k (l.take n):=by
 induction n generalizing l k with
 |zero=>rfl
 |succ n H=>
  cases l with
  |nil=>simp at h
  |cons x t=>show iE n t (λp=>k (x::p))=_;rw[H R8];rfl
def a4Y{α:Type}{n:Nat}{l:List α}(h:n<=l.length)(k:List α->Bool):eR n l k=k (l.drop n):=by
 induction n generalizing l with
 |zero=>rfl
 |succ n H=>
  cases l with
  |nil=>simp at h
  |cons x t=>show eR n t k=_;rw[H R8];rfl
@[go_sem ↓]theorem abg{α:Type}(l:List α)(k:List α->Bool):iE 0 l k=k []:=(rfl)
@[go_sem ↓]theorem abh{α:Type}(n:Nat)(x:α)(l:List α)(k:List α->Bool):iE (n+1) (x::l) k=iE n l (λp=>k (x::p)):=(rfl)
@[go_sem ↓]theorem adF{α:Type}(l:List α)(k:List α->Bool):eR 0 l k=k l:=(rfl)
@[go_sem ↓]theorem adG{α:Type}(n:Nat)(x:α)(l:List α)(k:List α->Bool):eR (n+1) (x::l) k=eR n l k:=(rfl)
attribute [go_sem] iI Int.natCast_nonneg Int.cast_ofNat_Int AH Int.lt_irrefl bP uz ne_eq not_false_eq_true not_true_eq_false nV dz j8 kU eZ Nat.add_left_cancel_iff Nat.left_eq_add Nat.add_eq_left Nat.succ_ne_self
noncomputable def pb (p:Prop):Bool:=@decide p (Classical.propDecidable p)
noncomputable def Bz (p:Prop) (x y:Bool):Bool:=aR (pb p) x y
def mZ{p:Prop}(h:p):pb p=true:=@dI p (Classical.propDecidable p) h
def kM{p:Prop}(h:¬p):pb p=false:=@dB p (Classical.propDecidable p) h
@[go_sem]def a7w:pb True=true:=mZ trivial
@[go_sem]def a2K:pb False=false:=kM id
def od(p:Prop)[Decidable p]:decide p=pb p:=by
 by_cases h:p
 .rw [mZ h,dI h]
 .rw [kM h,dB h]
@[congr] theorem at6{p a:Prop}(x y:Bool)(h:p=a):Bz p x y=Bz a x y:=U8
@[congr] theorem au5{b k:Bool}(x y:Bool)(h:b=k):aR b x y=aR k x y:=U8
@[go_sem]def agU(x y:Bool):Bz True x y=x:=by unfold Bz;rw[a7w];rfl
@[go_sem]def agV(x y:Bool):Bz False x y=y:=by unfold Bz;rw[a2K];rfl
def gP{p:Prop}(h:p)(x y:Bool):Bz p x y=x:=by unfold Bz;rw[mZ h];rfl
def TC{p:Prop}(h:¬p)(x y:Bool):Bz p x y=y:=by unfold Bz;rw[kM h];rfl
@[go_sem]theorem sE(x y:Bool):aR true x y=x:=(rfl)
@[go_sem]theorem ET(x y:Bool):aR false x y=y:=(rfl)
@[go_sem]theorem aoM(p:Prop)(x y:Bool):aR (pb p) x y=Bz p x y:=(rfl)
def wi(m n:Nat):Nat.blt m n=pb (m<n):=by
 by_cases h:m<n
 .rw [mZ h];exact iJ h
 .rw [kM h];cases s:Nat.blt m n with
  |false=>rfl
  |true=>exact absurd (bh s) h
def KK(m n:Nat):Nat.ble m n=pb (m<=n):=by
 by_cases h:m<=n
 .rw [mZ h];exact iJ h
 .rw [kM h];cases s:Nat.ble m n with
  |false=>rfl
  |true=>exact absurd (bh s) h
def pO(m n:Nat):Nat.beq m n=pb (m=n):=by
 by_cases h:m=n
 .rw [mZ h,h];exact fP n
 .rw [kM h];cases s:Nat.beq m n with
  |false=>rfl
  |true=>exact absurd (br s) h
@[go_sem ↓]def als(m n:Nat)(x y:Bool):aR (Nat.blt m n) x y=Bz (m<n) x y:=by rw[wi];rfl
@[go_sem ↓]def Ao(m n:Nat)(x y:Bool):aR (Nat.ble m n) x y=Bz (m<=n) x y:=by rw[KK];rfl
@[go_sem ↓]def a8i(m n:Nat)(x y:Bool):aR (Nat.beq m n) x y=Bz (m=n) x y:=by rw[pO];rfl
@[go_sem]theorem ao7:jw true=false:=(rfl)
@[go_sem]theorem ao8:jw false=true:=(rfl)
@[go_sem]def al7(p:Prop):jw (pb p)=pb (¬p):=by
 by_cases h:p
 .rw [mZ h,kM (λf=>f h)];rfl
 .rw [kM h,mZ h];rfl
@[congr] theorem atz{b k:Bool}(q:aY)(h:b=k):lp b q=lp k q:=U8
@[go_sem]def aty(b:Bool)(q:aY):lp b q=q (.bool b):=B9
@[go_sem]theorem ald(a b:Nat):Nat.add a b=a+b:=(rfl)
@[go_sem]theorem al8(a b:Nat):Nat.mul a b=a*b:=(rfl)
variable{q:aY}
def LZ(n:Nat)(k l:bs):rT (n:Int) k l=k n:=rfl
def a4C{x:Int}(h:0<=x)(k l:bs):rT x k l=k x.toNat:=by
 cases x with
 |ofNat n=>rfl
 |negSucc n=>trivial
def a4D{x:Int}(h:x<0)(k l:bs):rT x k l=l (-x-1).toNat:=by
 cases x with
 |ofNat n=>trivial
 |negSucc n=>show l n=l _;grind
def k8(b:Bool):jw b= !b:=B9
def Hj(b:Bool)(q:aY):lp b q=q (.bool b):=B9
noncomputable def Q (x:Int):V:=if 0<=x/\x<=9223372036854775807 then .num x.toNat else .ik .i64 x
def Cf{x:Int}(h:0<=x/\x<=9223372036854775807):Q x= .num x.toNat:=ao h
def Uh{x:Int}(h:¬(0<=x/\x<=9223372036854775807)):Q x= .ik .i64 x:=aj h
def yW(n:Nat)(h:n<=9223372036854775807):V.num n=Q (n:Int):=by rw[Cf Z];rfl
@[go_sem]def alj:cO=9223372036854775807:=G
def fV(x:Int)(q:aY):mv .i64 x q=q (Q x):=by
 cases x with
 |ofNat n=>
  show aR true (aR (Nat.ble n cO) (q (.num n)) (q (.ik .i64 (.ofNat n)))) (q (.ik .i64 (.ofNat n)))=_;by_cases h:n<=cO
  .rw [show Nat.ble n cO=true from iJ h,Cf ⟨J1,B5⟩];rfl
  .have:Nat.ble n cO=false:=by cases s:Nat.ble n cO with
    |false=>rfl
    |true=>exact absurd (bh s) h
   rw[this,Uh B5];rfl
 |negSucc n=>trivial
@[congr] theorem atx{k j:IntKind}{x w:Int}(q:aY)(E:k=j)(h:x=w):mv k x q=mv j w q:=W
attribute [go_sem] fV
def gk(x:Int):(∃n:Nat,n<=cO/\x=n/\Q x= .num n)\/((x<0\/9223372036854775807<x)/\Q x= .ik .i64 x):=by
 by_cases h:0<=x/\x<=9223372036854775807
 .exact .inl ⟨x.toNat,N3,Z,Cf h⟩
 .exact .inr ⟨Z,Uh h⟩
@[go_sem]def mw(x:Int)(q:IntKind->Int->Bool):V.ec (Q x) q=q .i64 x:=by rcases gk x with⟨n,_,rfl,h⟩|⟨_,h⟩<;>rw[h]<;>rfl
@[go_sem]def r0(x:Int)(q:aY):V.live (Q x) q=q (Q x):=by rcases gk x with⟨n,_,rfl,h⟩|⟨_,h⟩<;>rw[h]<;>rfl
@[go_sem]def YB(x:Int)(q:aY)(d:Bool):V.bt (Q x) q d=q (Q x):=by rcases gk x with⟨n,_,rfl,h⟩|⟨_,h⟩<;>rw[h]<;>rfl
@[go_sem]def a3U(x:Int)(q:aY):V.one (Q x) q=q (Q x):=by rcases gk x with⟨n,_,rfl,h⟩|⟨_,h⟩<;>rw[h]<;>rfl
@[go_sem]def a3V(x:Int)(q:ay->Bool):V.cells (Q x) q=q [Q x]:=by rcases gk x with⟨n,_,rfl,h⟩|⟨_,h⟩<;>rw[h]<;>rfl
def Ce{x:Int}(h:0<=x)(q:bs):V.dD (Q x) q=q x.toNat:=by
 rcases gk x with⟨n,_,rfl,A⟩|⟨_,A⟩<;>rw[A]
 .rfl
 .show rT x q (λ_=>false)=_;rw[a4C h]
def yd(x:Int)(q:bs):V.dD (Q x) q=Bz (0<=x) (q x.toNat) false:=by
 by_cases h:0<=x
 .rw [Ce h,gP h]
 .rw [TC h];rcases gk x with⟨n,_,rfl,A⟩|⟨_,A⟩
  .omega
  .rw [A];show rT x q (λ_=>false)=_;rw[a4D Z]
attribute [go_sem low] yd
@[go_sem]def af9(n:Nat)(q:bs):V.dD (Q (n:Int)) q=q n:=Ce J1 q
def qU(n m:Nat):Nat.beq n m=decide (n=m):=by
 by_cases e:n=m
 .subst e;rw[fP];simp
 .rw [dB e];cases s:Nat.beq n m with
  |false=>rfl
  |true=>exact absurd (br s) e
def yQ(n m:Nat):Nat.ble n m=decide (n<=m):=by
 by_cases e:n<=m
 .rw [dI e];exact iJ e
 .rw [dB e];cases s:Nat.ble n m with
  |false=>rfl
  |true=>exact absurd (bh s) e
def Ah(p:Prop)[Decidable p]:(!decide p)=decide (¬p):=J1
def gW(a b:Int):mR a b=decide (a=b):=by
 cases a with
 |ofNat m=>cases b with
  |ofNat n=>exact(qU m n).trans W
  |negSucc n=>trivial
 |negSucc m=>cases b with
  |ofNat n=>trivial
  |negSucc n=>exact(qU m n).trans W
def p7(a b:Int):leI a b=decide (a<=b):=by
 cases a with
 |ofNat m=>cases b with
  |ofNat n=>exact(yQ m n).trans W
  |negSucc n=>exact(dB Y6).symm
 |negSucc m=>cases b with
  |ofNat n=>trivial
  |negSucc n=>exact(yQ n m).trans W
def Nat.UZ(m n:Nat):Nat.blt m n=decide (m<n):=by
 by_cases h:m<n
 .rw [dI h];exact iJ h
 .rw [dB h];cases s:Nat.blt m n with
  |false=>rfl
  |true=>exact absurd (bh s) h
@[go_sem]def MW:rV .i64 .i64=true:=G
def KL(n m:Nat):Nat.beq n m=decide ((n:Int)=m):=(qU n m).trans W
@[go_sem]def Cg(x y:Int)(q:Bool->Bool):Mv (Q x) (Q y) q=q (pb (x=y)):=by
 rw[←od];unfold Mv;rcases gk x with⟨n,a,rfl,h⟩|⟨S,h⟩<;>rcases gk y with⟨m,R,rfl,g⟩|⟨p,g⟩<;>rw[h,g]
 .show q (Nat.beq n m)=_;rw[KL]
 .show q (mR n y)=_;rw[gW]
 .show q (mR x m)=_;rw[gW]
 .show q (mR x y)=_;rw[gW]
@[congr] theorem avH{u t v:V}(q:Bool->Bool)(h:u=t)(g:v=N):Mv u v q=Mv t N q:=W
noncomputable def rF (b:NB) (u v:V) (q:aY):Bool:=
 V.rL u (λm=>V.rL v (λn=>b.num (λ_=>b.int .i64 (.ofNat m) (.ofNat n) q) m n q) (V.ec v (λk n=>aR (rV k .i64) (b.int .i64 (.ofNat m) n q) false)))
  (V.ec u (λk m=>V.ec v (λl n=>aR (rV k l) (b.int k m n q) false)))
@[congr] theorem awz{b:NB}{u t v:V}(q:aY)(h:u=t)(g:v=N):rF b u v q=rF b t N q:=W
def pD{b:NB}(h:∀m n:Nat,m<=cO->n<=cO->b.num (λ_=>b.int .i64 (.ofNat m) (.ofNat n) q) m n q=b.int .i64 m n q)(x y:Int):rF b (Q x) (Q y) q=b.int .i64 x y q:=by unfold rF;rcases gk x with⟨n,g,rfl,S⟩|⟨_,S⟩<;>rcases gk y with⟨m,R,rfl,p⟩|⟨_,p⟩<;>rw[S,p]<;>first|exact h _ _ g R|rfl
def cB{x:Int}(h: -9223372036854775808<=x/\x<=9223372036854775807):IntKind.i64.wrap x=x:=by unfold IntKind.wrap;simp[IntKind.signed,IntKind.bits];omega
def eD{n:Nat}(h:n<=cO):Q (n:Int)= .num n:=by rw[Cf ⟨Z,Zr⟩];rfl
def pF{n:Nat}(h:n<=cO):IntKind.i64.wrap (n:Int)=n:=cB Zr
def cw{a b:Nat}(h:a<=b)(x y:Bool):aR (Nat.ble a b) x y=x:=by rw[iJ h];rfl
def ml{a b:Nat}(h:¬a<=b)(x y:Bool):aR (Nat.ble a b) x y=y:=by
 cases s:Nat.ble a b with
 |false=>rfl
 |true=>exact absurd (bh s) h
@[go_sem]def arY(x y:Int)(q:aY):rF (nb .add) (Q x) (Q y) q=q (Q (IntKind.i64.wrap (x+y))):=by
 rw[pD (b:=nb .add) (λm n R g=>?_)]
 .exact fV _ _
 .show aR (Nat.ble (m+n) cO) (q (.num (m+n))) (mv .i64 (IntKind.i64.wrap ((m:Int)+n)) q)=mv .i64 (IntKind.i64.wrap ((m:Int)+n)) q;by_cases h:m+n<=cO
  .rw [cw h,fV,show((m:Int)+n)=((m+n:Nat):Int) by omega,pF h,eD h]
  .rw [ml h]
@[go_sem]def arP(x y:Int)(q:aY):rF (nb .sub) (Q x) (Q y) q=q (Q (IntKind.i64.wrap (x-y))):=by
 rw[pD (b:=nb .sub) (λm n R g=>?_)]
 .exact fV _ _
 .show aR (Nat.ble n m) (q (.num (m-n))) (q (.ik .i64 (.negSucc (n-m-1))))=mv .i64 (IntKind.i64.wrap ((m:Int)-n)) q;by_cases h:n<=m
  .rw [cw h,fV,show((m:Int)-n)=((m-n:Nat):Int) by omega,pF Z,eD Z]
  .rw [ml h,fV,cB (by unfold cO at R g;omega),Uh Z];grind
@[go_sem]def arS(x y:Int)(q:aY):rF (nb .mul) (Q x) (Q y) q=q (Q (IntKind.i64.wrap (x*y))):=by
 rw[pD (b:=nb .mul) (λm n R g=>?_)]
 .exact fV _ _
 .show aR (Nat.ble (m*n) cO) (q (.num (m*n))) (mv .i64 (IntKind.i64.wrap ((m:Int)*n)) q)=mv .i64 (IntKind.i64.wrap ((m:Int)*n)) q;by_cases h:m*n<=cO
  .rw [cw h,fV,show((m:Int)*n)=((m*n:Nat):Int) by simp,pF h,eD h]
  .rw [ml h]
def ud{n:Nat}(x y:Bool):aR (Nat.beq n 0) x y=aR (mR n 0) x y:=by trivial
@[go_sem]def arR(x y:Int)(q:aY):rF (nb .quo) (Q x) (Q y) q=Bz (y=0) false (q (Q (IntKind.i64.wrap (x.tdiv y)))):=by
 rw[pD (b:=nb .quo) (λm n R g=>?_)]
 .show aR (mR y 0) false (mv .i64 (IntKind.i64.wrap (x.tdiv y)) q)=_;rw[gW,fV,od];rfl
 .show aR (Nat.beq n 0) false (q (.num (m/n)))=aR (mR n 0) false (mv .i64 (IntKind.i64.wrap ((m:Int).tdiv n)) q);have f:m/n<=cO:=cL (AA _ _) R;rw[ud,fV,show((m:Int).tdiv n)=((m/n:Nat):Int) from rfl,pF f,eD f]
@[go_sem]def arQ(x y:Int)(q:aY):rF (nb .rem) (Q x) (Q y) q=Bz (y=0) false (q (Q (x.tmod y))):=by
 rw[pD (b:=nb .rem) (λm n R g=>?_)]
 .show aR (mR y 0) false (mv .i64 (x.tmod y) q)=_;rw[gW,fV,od];rfl
 .show aR (Nat.beq n 0) false (q (.num (m%n)))=aR (mR n 0) false (mv .i64 ((m:Int).tmod n) q);have f:m%n<=cO:=cL (Nat.mod_le _ _) R;rw[ud,fV,show((m:Int).tmod n)=((m%n:Nat):Int) from rfl,eD f]
@[go_sem]def arT(x y:Int)(q:aY):rF (nb .lss) (Q x) (Q y) q=q (.bool (pb (x<y))):=by
 rw[←od];rw[pD (b:=nb .lss) (λm n R g=>?_)]
 .show lp (jw (leI y x)) q=_;rw[Hj,k8,p7,Ah];grind
 .show lp (Nat.blt m n) q=lp (jw (leI n m)) q;rw[k8,p7,Ah,Nat.UZ];congr 1;grind
@[go_sem]def arU(x y:Int)(q:aY):rF (nb .leq) (Q x) (Q y) q=q (.bool (pb (x<=y))):=by
 rw[←od];rw[pD (b:=nb .leq) (λm n R g=>?_)]
 .show lp (leI x y) q=_;rw[Hj,p7]
 trivial
@[go_sem]def arW(x y:Int)(q:aY):rF (nb .gtr) (Q x) (Q y) q=q (.bool (pb (y<x))):=by
 rw[←od];rw[pD (b:=nb .gtr) (λm n R g=>?_)]
 .show lp (jw (leI x y)) q=_;rw[Hj,k8,p7,Ah];grind
 .show lp (Nat.blt n m) q=lp (jw (leI m n)) q;rw[k8,p7,Ah,Nat.UZ];congr 1;grind
@[go_sem]def arX(x y:Int)(q:aY):rF (nb .geq) (Q x) (Q y) q=q (.bool (pb (y<=x))):=by
 rw[←od];rw[pD (b:=nb .geq) (λm n R g=>?_)]
 .show lp (leI y x) q=_;rw[Hj,p7]
 .rfl
@[go_sem]def ahv{n:Nat}(h:n<=9223372036854775807)(q:aY):V.live (.num n) q=q (Q n):=by rw[yW n h];exact r0 _ q
@[go_sem]def one_num{n:Nat}(h:n<=9223372036854775807)(q:aY):V.one (.num n) q=q (Q n):=by rw[yW n h];exact a3U _ q
def iW(x:Int):Q x≠ .undef:=by rcases gk x with⟨n,_,rfl,h⟩|⟨_,h⟩<;>rw[h]<;>exact λh=>Q8
def LD(x:Int):(Q x).de=true:=by rcases gk x with⟨n,_,rfl,h⟩|⟨_,h⟩<;>rw[h]<;>rfl
def QJ{x y:Int}:Q x=Q y↔x=y:=by
 constructor
 .intro h;have:Mv (Q x) (Q y) (λb=>b)=true:=by rw[h,Cg,mZ rfl]
  rw[Cg] at this;by_cases e:x=y
  .exact e
  .rw [kM e] at this;trivial
 grind
variable{d j nt t u:Nat}{g:dA}
section
def Tp{α:Type}(s:dj α)(n:Nat)(v:α):dj α:=
 ⟨if n=0 then v else s.a0,if n=1 then v else s.a1,if n=2 then v else s.a2,if n=3 then v else s.a3,if n=4 then v else s.a4,if n=5 then v else s.a5,if n=6 then v else s.a6,if n=7 then v else s.a7,
  if n=8 then v else s.a8,if n=9 then v else s.a9,if n=10 then v else s.a10,if n=11 then v else s.a11,if n=12 then v else s.a12,if n=13 then v else s.a13,if n=14 then v else s.a14,if n=15 then v else s.a15⟩
def Tq{α:Type}{n:Nat}(h:n<16)(v:α)(s:dj α)(k:dj α->Bool):(mE n).put α v s k=k (Tp s n v):=by
 have key:∀n,n<16->(mE n).put α v s k=k (Tp s n v):=by cases s;refine XT ?_ ?_ ?_ ?_ ?_ ?_ ?_ ?_ ?_ ?_ ?_ ?_ ?_ ?_ ?_ ?_<;>rfl
 grind
noncomputable def se (t:Nat) (v:V) (e:Env):Env:=if t<256 then Tp e (d1 t) (Tp ((mE (d1 t)).get (dj V) (bY V v) e) (d0 t) v) else e
def HW(h:t<256)(v e)(k:Env->Bool):(ep t).put v e k=k (se t v e):=by show(oL t).put V v e k=_;rw[lK h];show(mE (d0 t)).put V v ((mE (d1 t)).get (dj V) (bY V v) e) (λb=>(mE (d1 t)).put (dj V) b e k)=_;rw[Tq (wU t),Tq (UN t)];unfold se;grind
open Classical in
def UL(h:t<256)(u:Nat)(v e):(eg u).get (se t v e)=if u=t then v else(eg u).get e:=by
 have A:(ep t).put v e (λo=>decide (o=se t v e))=true:=by rw[HW h];simp
 obtain⟨o,N,M⟩:=Cy A;grind
@[go_sem ↓]def amc(h:t<256)(v e):(eg t).get (se t v e)=v:=by rw[UL h];simp
@[go_sem ↓]def avL(hn:u≠t)(v e):(eg u).get (se t v e)=(eg u).get e:=by
 by_cases h:t<256
 .rw [UL h,aj hn]
 .unfold se;grind
@[go_sem ↓]def ah3(t:Nat)(e):(ax (.tmp t)).get e=(eg t).get e:=G
@[go_sem ↓]def ah4(n:Int)(e):(ax (.const (.int .i64 n))).get e=Q n:=by
 show kV (.int .i64 n)=Q n;cases n with
 |ofNat n=>
  show cond (Nat.ble n cO) (V.num n) (.ik .i64 (.ofNat n))=_;by_cases h:n<=cO
  .rw [iJ h,show(Int.ofNat n)=(n:Int) from rfl,eD h];rfl
  .have:Nat.ble n cO=false:=by cases s:Nat.ble n cO with
    |false=>rfl
    |true=>exact absurd (bh s) h
   rw[this,Uh B5];rfl
 |negSucc n=>trivial
@[go_sem ↓]def ah1(n:Int)(e):(ax (.const (.int .u64 n))).get e= .ik .u64 n:=G
@[go_sem ↓]def ah2(n:Int)(e):(ax (.const (.int .u32 n))).get e= .ik .u32 n:=G
@[go_sem ↓]def ah5(n:Int)(e):(ax (.const (.int .i32 n))).get e= .ik .i32 n:=G
@[go_sem ↓]def aeR(b:Bool)(e):(ax (.const (.bool b))).get e= .bool b:=G
@[go_sem ↓]def aeN(e):(ax (.const (.pointer none))).get e= .bg:=G
@[go_sem ↓]def aeM(e):(ax (.const (.slice none 0 0))).get e= .au:=G
@[go_sem ↓]def aeO(e):(ax (.const (.map none))).get e= .fR:=G
@[go_sem ↓]def aeP(e):(ax (.const .nilFunc)).get e= .fN:=G
@[go_sem ↓]def aeQ(f:Nat)(e):(ax (.func f)).get e= .fn f [] []:=G
@[go_sem ↓]def alO(i:Nat)(f)(n:Nat):bL i (.fn f n)=f i:=G
@[go_sem ↓]def alB(i:Nat)(o f)(n:Nat)(k):eX i o (.fn f n) k=k (.fn (bw f i o) n):=G
@[grind] def pl(m i:Nat):Nat:=m+i
@[go_sem]def agT(m i j:Nat):pl (pl m i) j=pl m (i+j):=W
@[go_sem]def at4(m i j:Nat):(pl m i=pl m j)=(i=j):=W
@[go_sem]def anS(m i:Nat):(pl m i=m)=(i=0):=W
@[go_sem]def anR(m i:Nat):(m=pl m i)=(i=0):=W
@[go_sem ↓]def a8t(o f)(n:Nat)(k:Nat->Heap->Bool):fH o (.fn f n) k=k n (.fn (bw f n o) (pl n 1)):=G
@[go_sem ↓]def aK(f)(i:Nat)(o):bw f i o i=o:=by rw[qH,ao rfl]
@[go_sem ↓]def aE(h:j≠i)(f o):bw f i o j=f j:=by rw[qH,aj h]
def vO(f)(i j:Nat)(v):cy f i v j=if j=i then v else f j:=by
 unfold cy;by_cases h:j=i
 .subst h;rw[ao rfl,fP];rfl
 .rw [aj h];cases s:Nat.beq j i with
  |false=>rfl
  |true=>exact absurd (br s) h
@[go_sem ↓]def cd(f)(i:Nat)(v):cy f i v i=v:=by rw[vO,ao rfl]
@[go_sem ↓]def a04(h:j≠i)(f v):cy f i v j=f j:=by rw[vO,aj h]
def bI(l:ay):dA:=λj=>(l[j]?).getD .undef
@[go_sem ↓]def BQ(v l):bI (v::l) 0=v:=G
@[go_sem ↓]def a3v(v l)(n:Nat):bI (v::l) (n+1)=bI l n:=G
def Ua{l:ay}(h:i<l.length)(v):cy (bI l) i v=bI (l.set i v):=by funext j;rw[vO];unfold bI;grind
def ab6:zf []=bI []:=G
@[go_sem ↓]def nU(v)(j:Nat):zf [v] j=v:=by show(([v])[j%1]?).getD .undef=_;grind
def laid(i:Nat)(cs:ay)(g:dA):dA:=λj=>if i<=j/\j<i+cs.length then bI cs (j-i) else g j
def a3M(i:Nat)(g):laid i [] g=g:=by funext j;unfold laid;grind
def Yz(i:Nat)(v l g):laid (i+1) l (cy g i v)=laid i (v::l) g:=by
 funext j;unfold laid;simp only[kg,vO];by_cases h:i+1<=j/\j<i+1+l.length
 .rw [ao h,ao Z,show j-i=(j-(i+1))+1 by omega,a3v]
 .rw [aj h];by_cases z:j=i
  .subst z;rw[ao rfl,ao Z,mH,BQ]
  grind
def gM:∀(l:ay) (i:Nat) (g:dA) (k:Cells->Bool),lq l i (.cf g) k=k (.cf (laid i l g))
 |[],i,g,k=>by rw[a3M];rfl
 |v::l,i,g,k=>by show lq l (i+1) (.cf (cy g i v)) k=_;rw[gM l (i+1) (cy g i v) k,Yz]
def du{cs:ay}(A:i<=j)(N:j<i+cs.length)(g):laid i cs g j=bI cs (j-i):=by unfold laid;grind
def dL{cs:ay}(h:¬(i<=j/\j<i+cs.length))(g):laid i cs g j=g j:=by unfold laid;grind
@[go_sem ↓]def QH{cs:ay}(N:j<cs.length)(g):laid 0 cs g j=bI cs j:=by rw[du Z Z];rfl
def a3N(cs):laid 0 cs (bI [])=bI cs:=by
 funext j;by_cases h:j<cs.length
 .rw [QH h]
 .rw [dL Z];unfold bI;grind
@[go_sem ↓]def wB(l)(k:Cells->Bool):lq l 0 (.cf (bI [])) k=k (.cf (bI l)):=by rw[gM,a3N]
attribute [go_sem] gM
@[go_sem ↓]def rq(f)(n m:Nat)(k:Cells->Bool):dh (.fn f n) [] m k=k (.cf (bI [])):=G
def Fi(f)(n:Nat)(zs)(m:Nat)(k:Cells->Bool):dh (.fn f n) zs m k=k (.cf (zf zs)):=G
attribute [go_sem] Fi
@[go_sem ↓]def akT{l:ay}{n:Nat}(h:n<l.length)(v)(k:Cells->Bool):Cells.put (.cf (bI l)) n v k=k (.cf (bI (l.set n v))):=by rw[←Ua h];rfl
def abF(f)(n:Nat)(v)(k:Cells->Bool):Cells.put (.cf f) n v k=k (.cf (cy f n v)):=G
attribute [go_sem] abF
@[congr] theorem art{c L:Cells}{n:Nat}{v:V}(k:Cells->Bool)(h:c=L)(A:n=n')(a:v=N):Cells.put c n v k=Cells.put L n' N k:=W
attribute [go_sem] FK List.set_cons_succ kg FP uG
@[go_sem ↓]def a09(g z)(i:Nat)(k:aY):cellAt (.cf g) z i k=V.bt (g i) k (jZ z (i%eK z) k):=G
@[go_sem ↓]def a2f(i o:Nat)(h)(k:aY):jT i o h k=O.eO (bL i h) (λ_ m _ _ z c=>aR (Nat.blt o m) (cellAt c z o k) false):=G
@[go_sem ↓]def agH(i o:Nat)(v h k):mM i o v h k=O.eO (bL i h) (λzB m fz w z c=>aR (Nat.blt o m) (aR (Nat.ble fz o) (Cells.put c o v (λc=>eX i (.row zB m fz w z c) h k)) false) false):=G
@[go_sem ↓]def nE(i o n:Nat)(h)(k:ay->Bool):fh i o n h k=O.eO (bL i h) (λ_ m _ _ z c=>aR (Nat.ble (Nat.add o n) m) (jg c z n o k) false):=G
@[go_sem ↓]def kC(i o:Nat)(s h k):eI i o s h k=O.eO (bL i h) (λzB m fz w z c=>aR (Nat.ble (Nat.add o (eK s)) m) (aR (Nat.ble fz o) (lq s o c (λc=>eX i (.row zB m fz w z c) h k)) false) false):=G
@[go_sem ↓]def a9j(c z)(i:Nat)(k:ay->Bool):jg c z 0 i k=k []:=G
@[go_sem ↓]def Iq(c z)(n i:Nat)(k:ay->Bool):jg c z (n+1) i k=cellAt c z i (λv=>jg c z n (i+1) (λl=>k (v::l))):=G
def gV{z:ay}:∀{n i:Nat} (h:∀j,j<n->g (i+j)≠ .undef) (k:ay->Bool),jg (.cf g) z n i k=k ((List.range' i n).map g)
 |0,i,h,k=>rfl
 |n+1,i,h,k=>by
  rw[Iq,a09];have s:g i≠ .undef:=h 0 Z;have:∀(v:V) (q:aY) (d:Bool),v≠ .undef->V.bt v q d=q v:=by intro v q d H;cases v<;>first|rfl|trivial
  rw[this _ _ _ s,gV (n:=n) (i:=i+1) W];rfl
def Ej(h:d<nt)(N:d<256)(v e)(k:Env->Bool):(tT nt (some d)).put v e k=k (se d v e):=by unfold tT;simp only[show Nat.blt d nt=true from iJ h];exact HW N v e k
noncomputable def pt (nt:Nat) (d:Option Nat) (v:V) (e:Env) (k:Env->Bool):Bool:=(tT nt d).put v e k
@[congr] theorem axy{d:Option Nat}{v:V}(e)(k:Env->Bool)(h:v=N):pt nt d v e k=pt nt d N e k:=U8
@[go_sem]def Tx(h:d<nt)(N:d<256)(v e)(k:Env->Bool):pt nt (some d) v e k=k (se d v e):=Ej h N v e k
@[go_sem high] theorem abG{n:Nat}(hn:n<=9223372036854775807)(h:d<nt)(N:d<256)(e)(k:Env->Bool):pt nt (some d) (.num n) e k=k (se d (Q n) e):=by rw[yW n hn];exact Ej h N _ e k
@[go_sem]def akV(nt:Nat)(v e)(k:Env->Bool):pt nt none v e k=k e:=G
@[go_sem]def anj:cA= .cI []:=G
section
variable (C:Ctx) (nt:Nat) (all:List Oper) (d:Option Nat) (op:Op) (t:Nat) (p:String) (a:Array Edge) (j:Nat) (w:Bool) (l:List Oper) (r:iR) (R:Rt) (ds:List D) (e:Env) (h:Heap) (k:cF)
noncomputable def ql (C : Ctx) (nt : Nat) (d : Option Nat) (op : Op) (r : iR) (R : Rt) (ds : List D) (e : Env) (h : Heap) (k : cF) : Bool := (pJ C nt ⟨d, op, 0, "", #[], none⟩ r).run R ds e h k
noncomputable def gsl (g:Option Nat) (C:Ctx) (nt:Nat) (d:Option Nat) (op:Op) (w:Bool) (r:iR) (R:Rt) (ds:List D) (e:Env) (h:Heap) (k:cF):Bool:=
 match g with
 |none=>pt nt d cA e (λe=>r.run R ds e h k)
 |some g=>match Nat.blt g nt with
  |false=>false
  |true=>match w with
   |true=>V.guard ((eg g).get e) (λt=>aR t (ql C nt d op r R ds e h k) (pt nt d cA e (λe=>r.run R ds e h k)))
   |false=>V.kZ ((eg g).get e) (λt=>aR t (pt nt d cA e (λe=>r.run R ds e h k)) (ql C nt d op r R ds e h k)) (V.kD ((eg g).get e) (λ_=>pt nt d cA e (λe=>r.run R ds e h k)))
@[congr] theorem avz{g P:Option Nat}(p:g=P):gsl g C nt d op w r R ds e h k=gsl P C nt d op w r R ds e h k:=by rw[p]
noncomputable def gsv (v:V) (w:Bool) (C:Ctx) (nt:Nat) (d:Option Nat) (op:Op) (r:iR) (R:Rt) (ds:List D) (e:Env) (h:Heap) (k:cF):Bool:=
 match w with
 |true=>V.guard v (λt=>aR t (ql C nt d op r R ds e h k) (pt nt d cA e (λe=>r.run R ds e h k)))
 |false=>V.kZ v (λt=>aR t (pt nt d cA e (λe=>r.run R ds e h k)) (ql C nt d op r R ds e h k)) (V.kD v (λ_=>pt nt d cA e (λe=>r.run R ds e h k)))
@[congr] theorem avy{v:V}(H:v=N):gsv v w C nt d op r R ds e h k=gsv N w C nt d op r R ds e h k:=M9
@[go_sem]def aiX{g:Nat}(p:g<nt):gsl (some g) C nt d op w r R ds e h k=gsv ((eg g).get e) w C nt d op r R ds e h k:=by unfold gsl gsv;simp only[show Nat.blt g nt=true from iJ p]
@[go_sem]def aqN:gsv (.bool true) true C nt d op r R ds e h k=ql C nt d op r R ds e h k:=G
@[go_sem]def aqQ:gsv (.bool false) false C nt d op r R ds e h k=ql C nt d op r R ds e h k:=G
@[go_sem]def aqO:gsv (.bool false) true C nt d op r R ds e h k=pt nt d cA e (λe=>r.run R ds e h k):=G
@[go_sem]def aqP:gsv (.bool true) false C nt d op r R ds e h k=pt nt d cA e (λe=>r.run R ds e h k):=G
@[go_sem]def am9(s):gsv (.cI s) w C nt d op r R ds e h k=pt nt d cA e (λe=>r.run R ds e h k):=by cases w<;>rfl
def Kv:(oe C nt all ⟨d,op,t,p,a,some (j,w)⟩ r).run R ds e h k=gsl (fk all j) C nt d op w r R ds e h k:=by
 unfold oe;cases b:fk all j with
 |none=>simp only[b];rfl
 |some g=>
  simp only[b];unfold gsl;by_cases c:g<nt
  .simp only[show Nat.blt g nt=true from iJ c];cases w<;>rfl
  .have:Nat.blt g nt=false:=by rw[wi,kM c]
   grind
@[go_sem ↓]def akQ:(w6 C nt all []).run R ds e h k=k ds e h:=G
@[go_sem ↓]def agN:(w6 C nt all (⟨d,op,t,p,a,none⟩::l)).run R ds e h k=ql C nt d op (w6 C nt all l) R ds e h k:=G
@[go_sem ↓]def aeJ:(w6 C nt all (⟨d,op,t,p,a,some (j,w)⟩::l)).run R ds e h k=gsl (fk all j) C nt d op w (w6 C nt all l) R ds e h k:=Kv ..
variable (o:Oper) (ts:List Oper) (li:List (Oper×List Oper))
@[go_sem ↓]def amh:(jW C nt all []).run R ds e h k=k ds e h:=G
@[go_sem ↓]def ajw:(jW C nt all ((⟨d,op,t,p,a,none⟩,ts)::li)).run R ds e h k=ql C nt d op (lH C nt all ts (jW C nt all li)) R ds e h k:=G
@[go_sem ↓]def afD:(jW C nt all ((⟨d,op,t,p,a,some (j,w)⟩,ts)::li)).run R ds e h k=gsl (fk all j) C nt d op w (lH C nt all ts (jW C nt all li)) R ds e h k:=Kv ..
@[go_sem ↓]def aes:(lH C nt all [] r).run R ds e h k=r.run R ds e h k:=G
noncomputable def tR (v w:V) (r:iR) (R:Rt) (ds:List D) (e:Env) (h:Heap) (k:cF):Bool:=aR (V.same v w) (r.run R ds e h k) false
@[congr] theorem asd{v u t:V}(H:v=N)(L:u=t):tR v u r R ds e h k=tR N t r R ds e h k:=W
noncomputable def tel (C:Ctx) (d:Nat) (op:Op) (r:iR) (R:Rt) (ds:List D) (e:Env) (h:Heap) (k:cF):Bool:=(qm C op).run R e h (λv _=>tR v ((eg d).get e) r R ds e h k)
@[go_sem ↓]def asq(d:Nat):tel C d op r R ds e h k=(qm C op).run R e h (λv _=>tR v ((eg d).get e) r R ds e h k):=G
@[go_sem ↓]def abf(d:Nat):(lH C nt all (⟨some d,op,t,p,a,none⟩::l) r).run R ds e h k=tel C d op (lH C nt all l r) R ds e h k:=G
noncomputable def tgl (g:Option Nat) (C:Ctx) (d:Nat) (op:Op) (w:Bool) (r:iR) (R:Rt) (ds:List D) (e:Env) (h:Heap) (k:cF):Bool:=
 match g with
 |none=>r.run R ds e h k
 |some g=>match w with
  |true=>V.guard ((eg g).get e) (λc=>aR c (tel C d op r R ds e h k) (r.run R ds e h k))
  |false=>V.kZ ((eg g).get e) (λc=>aR c (r.run R ds e h k) (tel C d op r R ds e h k)) (V.kD ((eg g).get e) (λ_=>r.run R ds e h k))
@[congr] theorem asp{g P:Option Nat}(d:Nat)(p:g=P):tgl g C d op w r R ds e h k=tgl P C d op w r R ds e h k:=by rw[p]
@[go_sem]def asn(g d:Nat):tgl (some g) C d op true r R ds e h k=V.guard ((eg g).get e) (λc=>aR c (tel C d op r R ds e h k) (r.run R ds e h k)):=G
@[go_sem]def aso(g d:Nat):tgl (some g) C d op false r R ds e h k=V.kZ ((eg g).get e) (λc=>aR c (r.run R ds e h k) (tel C d op r R ds e h k)) (V.kD ((eg g).get e) (λ_=>r.run R ds e h k)):=G
@[go_sem ↓]def a9K(d:Nat):(lH C nt all (⟨some d,op,t,p,a,some (j,w)⟩::l) r).run R ds e h k=tgl (fk all j) C d op w (lH C nt all l r) R ds e h k:=by
 show(JF C nt all ⟨some d,op,t,p,a,some (j,w)⟩ (lH C nt all l r)).run R ds e h k=_;unfold JF tgl;cases b:fk all j with
 |none=>grind
 |some g=>simp only[b];cases w<;>rfl
end
def xA{v:V}(H:V.same v v=true)(r:iR)(R)(ds:List D)(e h)(k:cF):tR v v r R ds e h k=r.run R ds e h k:=by unfold tR;rw[H];rfl
section
variable (r:iR) (R:Rt) (ds:List D) (e:Env) (h:Heap) (k:cF)
@[go_sem]def ang(z:Int):tR (Q z) (Q z) r R ds e h k=r.run R ds e h k:=xA (by
 rcases gk z with⟨n,_,rfl,h⟩|⟨_,h⟩<;>rw[h]
 .exact fP n
 .show aR (Nat.beq 3 3) (mR z z) false=true;rw[gW];simp;rfl) ..
@[go_sem]def akG(i o:Nat):tR (.ptr i o) (.ptr i o) r R ds e h k=r.run R ds e h k:=xA (by show aR (Nat.beq i i) (Nat.beq o o) false=true;rw[fP,fP];rfl) ..
@[go_sem]def a1r(i o l:Nat)(c:Cp):tR (.sl i o l c) (.sl i o l c) r R ds e h k=r.run R ds e h k:=xA (by
 cases c with
 |known x=>show aR (Nat.beq i i) (aR (Nat.beq o o) (aR (Nat.beq l l) (Nat.beq x x) false) false) false=true;simp only[fP];rfl
 |less x z=>show aR (Nat.beq i i) (aR (Nat.beq o o) (aR (Nat.beq l l) (aR (Nat.beq x x) (Nat.beq z z) false) false) false) false=true;simp only[fP];rfl) ..
@[go_sem]def akH(i:Nat):tR (.map i) (.map i) r R ds e h k=r.run R ds e h k:=xA (v:=.map i) (fP i) ..
end
@[go_sem ↓]def aaf(all:List Oper):je all []= []:=G
@[go_sem ↓]def a8g(all:List Oper)(p:Nat×aI)(l:List (Nat×aI)):je all (p::l)=(bO all p.1,p.2.map (bO all))::je all l:=G
@[go_sem ↓]def abH(x:Oper)(l:List Oper):bO (x::l) 0=x:=G
@[go_sem ↓]def abI(x:Oper)(l:List Oper)(n:Nat):bO (x::l) (n+1)=bO l n:=G
@[go_sem ↓]def a6u(x:Oper)(l:List Oper):fk (x::l) 0=x.dst:=G
@[go_sem ↓]def a6v(x:Oper)(l:List Oper)(n:Nat):fk (x::l) (n+1)=fk l n:=G
attribute [go_sem] List.toList_toArray List.map_nil jn
def iA(n:Nat):List (Nat×aI):=(List.range n).map λi=>(i,[])
def QK(all:List Oper):je all (iA all.length)=all.map λo=>(o,[]):=by
 unfold je iA;rw[lE];apply NN
 .simp
 .intro i A N;have:i<all.length:=by simpa using N
  simp[bO,bT this]
def Mz(C)(nt:Nat)(all:List Oper):∀l:List Oper,jW C nt all (l.map λo=>(o,[]))=w6 C nt all l
 |[]=>rfl
 |o::l=>by show oe C nt all o (jW C nt all (l.map λo=>(o,[])))=oe C nt all o (w6 C nt all l);rw[Mz C nt all l]
noncomputable def a58 (v:V) (a b:iz) (R:Rt) (rd:Nat) (ds:List D) (e:Env) (h:Heap) (kn:cF) (kx:X->cF):Bool:=V.ja v (λt=>aR t (a.run R rd ds e h kn kx) (b.run R rd ds e h kn kx))
section
variable (C:Ctx) (f:Nat) (R:Rt) (rd:Nat) (ds:List D) (e:Env) (h:Heap) (kn:cF) (kx:X->cF)
@[congr] theorem ars{v:V}(a b:iz)(H:v=N):a58 v a b R rd ds e h kn kx=a58 N a b R rd ds e h kn kx:=M9
@[go_sem]def adP(a b:iz):a58 (.bool true) a b R rd ds e h kn kx=a.run R rd ds e h kn kx:=G
@[go_sem]def adQ(a b:iz):a58 (.bool false) a b R rd ds e h kn kx=b.run R rd ds e h kn kx:=G
@[go_sem ↓]def ams:(cc C f .skip).run R rd ds e h kn kx=kn ds e h:=G
@[go_sem ↓]def afO(id:Nat)(ops:Array Oper)(d:Bool):(cc C f (.region id ops d)).run R rd ds e h kn kx=(jc C f id ops d).run R rd ds e h kn kx:=G
noncomputable def sqk (C:Ctx) (f:Nat) (b:Code) (R:Rt) (rd:Nat) (kn:cF) (kx:X->cF):cF:=λds e h=>(cc C f b).run R rd ds e h kn kx
noncomputable def blx (id:Nat) (kn:cF) (kx:X->cF):X->cF:=λx ds e h=>X.block x id (kn ds e h) (kx x ds e h)
@[go_sem ↓]def asy(b:Code):sqk C f b R rd kn kx ds e h=(cc C f b).run R rd ds e h kn kx:=G
@[go_sem ↓]def ajW(id:Nat):blx id kn kx (.exit id) ds e h=kn ds e h:=SB ..
@[go_sem ↓]def arL{id:Nat}(F:i≠id):blx id kn kx (.exit i) ds e h=kx (.exit i) ds e h:=a5A F ..
@[go_sem ↓]def amA(id:Nat):blx id kn kx .ret ds e h=kx .ret ds e h:=G
@[go_sem ↓]def ajX(id l:Nat):blx id kn kx (.goto l) ds e h=kx (.goto l) ds e h:=G
@[go_sem ↓]def arD(a b:Code):(cc C f (.seq a b)).run R rd ds e h kn kx=(cc C f a).run R rd ds e h (sqk C f b R rd kn kx) kx:=G
@[go_sem ↓]def amw(x:Operand)(a b:Code):(cc C f (.cond x a b)).run R rd ds e h kn kx=a58 ((ax x).get e) (cc C f a) (cc C f b) R rd ds e h kn kx:=G
@[go_sem ↓]def ajQ(id:Nat)(a:Code):(cc C f (.block id a)).run R rd ds e h kn kx=(cc C f a).run R rd ds e h kn (blx id kn kx):=G
@[go_sem ↓]def amv(id:Nat):(cc C f (.exit id)).run R rd ds e h kn kx=kx (.exit id) ds e h:=G
@[go_sem ↓]def ajP(l:Nat):(cc C f (.label l)).run R rd ds e h kn kx=kn ds e h:=G
@[go_sem ↓]def amu(l:Nat):(cc C f (.goto l)).run R rd ds e h kn kx=kx (.goto l) ds e h:=G
@[go_sem ↓]def arE:(cc C f .ret).run R rd ds e h kn kx=kx .ret ds e h:=G
attribute [go_sem] wD List.any_cons List.any_nil Bool.or_false Bool.false_or Bool.or_self
@[go_sem ↓]def aeG(id:Nat)(ops:Array Oper)(hd:ops.toList.any wD=false):(jc C f id ops false).run R rd ds e h kn kx=(w6 C (ij C f) ops.toList ops.toList).run R ds e h kn:=by unfold jc;grind
end
end
end Go.Ev.Sy
namespace Go.Ev
variable{q:aY}
def V.ahE:aY
 |.ptr _ _ | .iP _ _ | .fn _ _ _ | .yield _ | .iface _ _=>true
 |_=>false
def V.yO{v:V}{k:Bool->Bool}:V.ja v k=true↔∃b,v= .bool b/\k b=true:=by cases v<;>simp[V.ja]
def V.qP{v:V}{q:bs}:V.wc v q=true↔∃n,v= .num n/\q n=true:=by cases v<;>simp[V.wc]
def V.qQ{v:V}{q:IntKind->Int->Bool}:V.ec v q=true↔(∃n:Nat,v= .num n/\q .i64 (.ofNat n)=true)\/∃k n,v= .ik k n/\q k n=true:=by cases v<;>simp[V.ec,kT]
def V.lN{v:V}{q:bs}{d:Bool}:V.rL v q d=true↔(∃n,v= .num n/\q n=true)\/((∀n,v≠ .num n)/\d=true):=by cases v<;>simp[V.rL]
def V.BD{v:V}{q:aI->Bool}:V.ig v q=true↔∃s,v= .str s/\q s=true:=by cases v<;>simp[V.ig]
def V.BG{v:V}{q:Nat->bs}:V.dW v q=true↔∃i o,v= .ptr i o/\q i o=true:=by cases v<;>simp[V.dW,kT]
def V.tv{v:V}{q:Nat->bs}{l:Nat->bs}:V.sw v q l=true↔(∃i o,v= .ptr i o/\q i o=true)\/∃g o,v= .iP g o/\l g o=true:=by cases v<;>simp[V.sw,kT]
def V.Ew{v:V}{q:Nat->Nat->Nat->Cp->Bool}:V.BE v q=true↔∃i o n c,v= .sl i o n c/\q i o n c=true:=by cases v<;>simp[V.BE,kT]
def V.nI{v:V}{q:Nat->ay->ay->Bool}{l:bs}:V.sx v q l=true↔(∃f a b,v= .fn f a b/\q f a b=true)\/∃i,v= .yield i/\l i=true:=by cases v<;>simp[V.sx,kT]
def V.BJ{v:V}{q:ay->Bool}:V.dY v q=true↔∃cs,v= .agg cs/\q cs=true:=by cases v<;>simp[V.dY]
def V.oi{v:V}{q:ay->Bool}:V.kD v q=true↔∃cs,v= .cI cs/\q cs=true:=by cases v<;>simp[V.kD]
def V.KG{v:V}:V.oq v q=true↔v.ahE=true/\q v=true:=by cases v<;>simp[V.oq,V.ahE]
def V.eP{v:V}:V.live v q=true↔v≠ .undef/\q v=true:=by cases v<;>simp[V.live]
def V.Ll{v:V}{d:Bool}:V.bt v q d=true↔(v≠ .undef/\q v=true)\/(v= .undef/\d=true):=by cases v<;>simp[V.bt]
def V.BB{v:V}:V.one v q=true↔v.de=true/\q v=true:=by cases v<;>simp[V.one,V.de]
def V.na{v:V}{q:Nat->aY}{l:Bool}:V.ng v q l=true↔(∃t x,v= .iface t x/\q t x=true)\/(v= .xV/\l=true):=by cases v<;>simp[V.ng,kT]
def V.dJ{v:V}{q:bs}{z:Bool}:V.cH v q z=true↔(∃i,v= .map i/\q i=true)\/(v= .fR/\z=true):=by cases v<;>simp[V.cH]
def V.dZ{v:V}{q:Nat->Nat->Nat->Cp->Bool}{z:Bool}{y:Bool}:V.cK v q z y=true↔(∃i o n c,v= .sl i o n c/\q i o n c=true)\/(v= .au/\z=true)\/(v= .z8/\y=true):=by cases v<;>simp[V.cK,kT]
def V.sF{v:V}{q:Bool->Bool}{d:Bool}:V.kZ v q d=true↔(∃b,v= .bool b/\q b=true)\/((∀b,v≠ .bool b)/\d=true):=by cases v<;>simp[V.kZ]
def V.vd{v:V}{q:Nat->bs}{d:Bool}:V.Ck v q d=true↔(∃i o,v= .ptr i o/\q i o=true)\/((∀i o,v≠ .ptr i o)/\d=true):=by cases v<;>simp[V.Ck,kT]
def V.guard_true{v:V}{q:Bool->Bool}:V.guard v q=true↔(∃b,v= .bool b/\q b=true)\/∃cs,v= .cI cs/\q false=true:=by cases v<;>simp[V.guard]
def V.RY{v:V}{q:ay->Bool}:V.cells v q=true↔(v.de=true/\q [v]=true)\/∃cs,v= .agg cs/\q cs=true:=by cases v<;>simp[V.cells,V.de]
def O.fj{o:O}{q:Nat->Nat->Nat->Bool->ay->Cells->Bool}:O.eO o q=true↔∃e n f w z c,o= .row e n f w z c/\q e n f w z c=true:=by cases o<;>simp[O.eO,kT]
def O.dJ{o:O}{q:List (V×V×Nat)->bs}:O.cH o q=true↔∃l c,o= .map l c/\q l c=true:=by cases o<;>simp[O.cH,kT]
def O.Ky{o:O}{q:aI->bs}:O.Pq o q=true↔∃s p,o= .yI s p/\q s p=true:=by cases o<;>simp[O.Pq,kT]
def O.kE{o:O}{q:LoopState->Option X->Nat->Env->aI->Code->Code->bs}:O.i0 o q=true↔∃st L f e ps a b d,o= .loop st L f e ps a b d/\q st L f e ps a b d=true:=by cases o<;>simp[O.i0,kT]
def O.KA{o:O}{q:Option (List D)->Bool}:O.qR o q=true↔∃c,o= .sJ c/\q c=true:=by cases o<;>simp[O.qR]
def X.SA{x:X}{b:Nat}{q d:Bool}:X.block x b q d=true↔(x= .exit b/\q=true)\/(x≠ .exit b/\d=true):=by
 cases x<;>simp[X.block]
 grind
def X.Kz{x:X}{q:bs}{d:Bool}:X.uS x q d=true↔(∃l,x= .goto l/\q l=true)\/((∀l,x≠ .goto l)/\d=true):=by cases x<;>simp[X.uS]
def X.BF{x:X}{q:Bool}:X.yL x q=true↔x= .ret/\q=true:=by cases x<;>simp[X.yL]
def LS.Hv{s:LoopState}{q:Bool}:LS.tH s q=true↔s= .ready/\q=true:=by cases s<;>simp[LS.tH]
def LS.GW{s:LoopState}{q:Bool}:LS.tw s q=true↔s≠ .busy/\q=true:=by cases s<;>simp[LS.tw]
def oj{α:Type}{o:Option α}{z:Bool}{k:α->Bool}:jv o z k=true↔(o=none/\z=true)\/∃x,o=some x/\k x=true:=by cases o<;>simp[jv]
def lL{c:Cp}{k:bs}{l:Nat->bs}:mN c k l=true↔(∃n,c= .known n/\k n=true)\/∃n z,c= .less n z/\l n z=true:=by cases c<;>simp[mN,kT]
def oV{α C:Type}{p:α×C}{k:α->C->Bool}:gK p k=k p.1 p.2:=by trivial
end Go.Ev
